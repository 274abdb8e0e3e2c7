/- Walks: TurnOfParts of the reference. -/
import Derived.Test.YtbojaddojhemeaaTd
namespace Go.Proofs.Ytbojaddojhemeaa
open Ieee Go.Flt Go.RowKit

set_option maxRecDepth 100000 in
set_option maxHeartbeats 1600000 in
theorem s0Turn_ok (x0 x1 x2 x3 : Nat) (hx : single.fin x0 ∧ single.fin x1 ∧ single.fin x2 ∧ single.fin x3) (w : World) :
    Calls Try.prog 56 #[.agg #[.float .f32 x0, .float .f32 x1, .float .f32 x2, .float .f32 x3]] w fun e w' => e = .returned (.tuple #[.agg #[.complex .f32 x0 (Op.negFloat .f32 x3), .complex .f32 (Op.negFloat .f32 x2) (Op.negFloat .f32 x1), .complex .f32 x2 (Op.negFloat .f32 x1), .complex .f32 x0 x3], .int .i64 0]) ∧ ((w.alloc (.cells #[.float .f32 x0, .float .f32 x1, .float .f32 x2, .float .f32 x3] 49)).alloc (.cells #[.complex .f32 x0 (Op.negFloat .f32 x3), .complex .f32 (Op.negFloat .f32 x2) (Op.negFloat .f32 x1), .complex .f32 x2 (Op.negFloat .f32 x1), .complex .f32 x0 x3] 46)).alloc (.cells #[.complex .f32 x0 (Op.negFloat .f32 x3), .complex .f32 (Op.negFloat .f32 x2) (Op.negFloat .f32 x1), .complex .f32 x2 (Op.negFloat .f32 x1), .complex .f32 x0 x3] 46) = w' := by
  have c0 := l01Fine_fin x0 hx.1
  have c1 := l01Fine_fin x1 hx.2.1
  have c2 := l01Fine_fin x2 hx.2.2.1
  have c3 := l01Fine_fin x3 hx.2.2.2
  have tb := table_any x0 x1 x2 x3
  clear hx
  go_enter Try.func56, Try.ntmps56
  go_wp2_with fail
  refine wp_loop_rounds 5 ?_
  repeat any_goals (rw [rounds_succ]; go_wp2_with (first | (go_at_call 43; (first | (with_reducible refine (c0 _).mono ?_) | (with_reducible refine (c1 _).mono ?_) | (with_reducible refine (c2 _).mono ?_) | (with_reducible refine (c3 _).mono ?_)); rintro e w' ⟨rfl, rfl⟩) | (go_at_call 87; (with_reducible refine (tb _).mono ?_); rintro e w' ⟨rfl, rfl⟩)))
  go_returns
  exact ⟨rfl, rfl⟩

set_option maxRecDepth 100000 in
set_option maxHeartbeats 1600000 in
theorem s0Turn_bad (x0 x1 x2 x3 : Nat) (hx : ¬ (single.fin x0 ∧ single.fin x1 ∧ single.fin x2 ∧ single.fin x3)) (w : World) :
    Calls Try.prog 56 #[.agg #[.float .f32 x0, .float .f32 x1, .float .f32 x2, .float .f32 x3]] w fun e w' => e = .returned (.tuple #[.agg #[.complex .f32 0 0, .complex .f32 0 0, .complex .f32 0 0, .complex .f32 0 0], .int .i64 1]) ∧ ∃ n, ((w.alloc (.cells #[.float .f32 x0, .float .f32 x1, .float .f32 x2, .float .f32 x3] 49)).alloc (.cells #[.complex .f32 0 0, .complex .f32 0 0, .complex .f32 0 0, .complex .f32 0 0] 46)).drewN n = w' := by
  have c0 := l01Fine_fin x0
  have d0 := l01Fine_not x0
  have c1 := l01Fine_fin x1
  have d1 := l01Fine_not x1
  have c2 := l01Fine_fin x2
  have d2 := l01Fine_not x2
  have d3 := l01Fine_not x3
  by_cases h0 : single.fin x0
  · have c0 := c0 h0
    clear d0
    by_cases h1 : single.fin x1
    · have c1 := c1 h1
      clear d1
      by_cases h2 : single.fin x2
      · have c2 := c2 h2
        have d3 := d3 (fun h => hx ⟨h0, h1, h2, h⟩)
        clear d2 hx h0 h1 h2
        go_enter Try.func56, Try.ntmps56
        go_wp2_with fail
        refine wp_loop_rounds 5 ?_
        repeat any_goals (rw [rounds_succ]; go_wp2_with (go_at_call 43; (first | (with_reducible refine (c0 _).mono ?_) | (with_reducible refine (c1 _).mono ?_) | (with_reducible refine (c2 _).mono ?_) | (with_reducible refine (d3 _).mono ?_)); rintro e w' ⟨rfl, rfl⟩))
        go_returns
        exact ⟨rfl, 1, rfl⟩
      · have d2 := d2 h2
        clear c2 d3 hx h0 h1 h2
        go_enter Try.func56, Try.ntmps56
        go_wp2_with fail
        refine wp_loop_rounds 5 ?_
        repeat any_goals (rw [rounds_succ]; go_wp2_with (go_at_call 43; (first | (with_reducible refine (c0 _).mono ?_) | (with_reducible refine (c1 _).mono ?_) | (with_reducible refine (d2 _).mono ?_)); rintro e w' ⟨rfl, rfl⟩))
        go_returns
        exact ⟨rfl, 1, rfl⟩
    · have d1 := d1 h1
      clear c1 c2 d2 d3 hx h0 h1
      go_enter Try.func56, Try.ntmps56
      go_wp2_with fail
      refine wp_loop_rounds 5 ?_
      repeat any_goals (rw [rounds_succ]; go_wp2_with (go_at_call 43; (first | (with_reducible refine (c0 _).mono ?_) | (with_reducible refine (d1 _).mono ?_)); rintro e w' ⟨rfl, rfl⟩))
      go_returns
      exact ⟨rfl, 1, rfl⟩
  · have d0 := d0 h0
    clear c0 c1 d1 c2 d2 d3 hx h0
    go_enter Try.func56, Try.ntmps56
    go_wp2_with fail
    refine wp_loop_rounds 5 ?_
    repeat any_goals (rw [rounds_succ]; go_wp2_with (go_at_call 43; (with_reducible refine (d0 _).mono ?_); rintro e w' ⟨rfl, rfl⟩))
    go_returns
    exact ⟨rfl, 1, rfl⟩
end Go.Proofs.Ytbojaddojhemeaa
