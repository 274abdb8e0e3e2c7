/- Walks: tables: the law's comparison of tables. -/
import Derived.Test.YtbojaddojhemeaaTa
import Derived.Deep.RegionWith
namespace Go.Proofs.Ytbojaddojhemeaa
open Ieee Go.Flt Go.RowKit

set_option maxRecDepth 100000 in
set_option maxHeartbeats 1600000 in
theorem eqTurn_self (a b c d e f g h : Nat) (h1 : single.fin a ∧ single.fin b ∧ single.fin c ∧ single.fin d) (h2 : single.fin e ∧ single.fin f ∧ single.fin g ∧ single.fin h) (w : World) :
    Calls Try.prog 29 #[.agg #[.complex .f32 a b, .complex .f32 c d, .complex .f32 e f, .complex .f32 g h], .agg #[.complex .f32 a b, .complex .f32 c d, .complex .f32 e f, .complex .f32 g h]] w fun e w' => e = .returned (.bool true) ∧ Grown w w' := by
  have c1 := eqPair_self a b c d h1
  have c2 := eqPair_self e f g h h2
  clear h1 h2
  go_enter Try.func29, Try.ntmps29
  go_wp2_with fail
  refine wp_loop_rounds 3 ?_
  rw [rounds_succ]
  go_wp2_with fail
  go_region_with (go_at_call 61; (with_reducible refine (c1 _).mono ?_); rintro e w' ⟨rfl, n, rfl⟩)
  all_goals go_wp2_with fail
  all_goals rw [rounds_succ]
  all_goals go_wp2_with fail
  all_goals go_region_with (go_at_call 61; (with_reducible refine (c2 _).mono ?_); rintro e w' ⟨rfl, n, rfl⟩)
  all_goals go_wp2_with fail
  all_goals rw [rounds_succ]
  all_goals go_wp2_with fail
  all_goals go_returns
  all_goals exact ⟨rfl, grown_drewN_of (by go_grown) _⟩

set_option maxRecDepth 100000 in
theorem complex0 (a b : Nat) (ha : single.fin a) (hb : single.fin b) (w : World) :
    Calls Try.prog 101 #[.complex .f32 a b] w fun e w' => e = .returned (.complex .f32 (clr a) (clr b)) ∧ w = w' := by
  have c1 := l00Float_fin a ha
  have c2 := l00Float_fin b hb
  clear ha hb
  go_enter Try.func101, Try.ntmps101
  go_wp2_with (go_at_call 40; (first | (with_reducible refine (c1 _).mono ?_) | (with_reducible refine (c2 _).mono ?_)); rintro e w' ⟨rfl, rfl⟩)
  go_ret
  exact ⟨rfl, rfl⟩
end Go.Proofs.Ytbojaddojhemeaa
