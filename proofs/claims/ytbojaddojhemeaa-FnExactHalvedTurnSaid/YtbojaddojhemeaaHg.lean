/- Halved turns, by the program: the function. -/
import Derived.Test.YtbojaddojhemeaaHf
namespace Go.Proofs.Ytbojaddojhemeaa
open Ieee Go.Flt Go.RowKit

set_option maxRecDepth 100000 in
set_option maxHeartbeats 1600000 in
theorem iHT_0 (n : Nat) (hn : n ≤ 24) (m1 : single.fin (Op.negFloat .f32 (hvS n))) (m2 : single.fin (Op.negFloat .f32 0)) (m3 : single.fin (Op.negFloat .f32 0)) (w : World) :
    Calls Try.prog 33 #[.int .i64 0, .int .i64 n] w fun e w' => e = .returned (.tuple #[.agg #[.complex .f32 (clr (hvC n)) (clr (Op.negFloat .f32 0)), .complex .f32 (clr (Op.negFloat .f32 0)) (clr (Op.negFloat .f32 (hvS n))), .complex .f32 (clr 0) (clr (Op.negFloat .f32 (hvS n))), .complex .f32 (clr (hvC n)) (clr 0)], .int .i64 0]) ∧ Grown w w' := by
  have ax := isAxis_yes 0 (by omega) (by omega)
  have hv := isHalvings_yes n (by omega) (by omega)
  have ht := fun b o => halvedTurn_0 b o n hn m1 m2 m3
  have td := toldT_ok
  clear m1 m2 m3
  go_enter Try.func33, Try.ntmps33
  go_wp2_with (first | (go_at_call 65; (with_reducible refine (ax _).mono ?_); rintro e w' ⟨rfl, rfl⟩) | (go_at_call 66; (with_reducible refine (hv _).mono ?_); rintro e w' ⟨rfl, rfl⟩) | (go_at_call 67; (with_reducible refine (ht _ _ _ ?_).mono ?_); (simp [go_sem]); rintro e w' ⟨rfl, rfl⟩) | (go_at_call 59; (with_reducible refine (td _ _ _ _ _ _ _ _ _ _ _ ?_).mono ?_); (simp [go_sem]); rintro e w' ⟨rfl, rfl⟩))
  go_returns
  exact ⟨rfl, grown_drewN_of (by go_grown) 1⟩

set_option maxRecDepth 100000 in
set_option maxHeartbeats 1600000 in
theorem iHT_1 (n : Nat) (hn : n ≤ 24) (m1 : single.fin (Op.negFloat .f32 0)) (m2 : single.fin (Op.negFloat .f32 (hvS n))) (m3 : single.fin (Op.negFloat .f32 0)) (w : World) :
    Calls Try.prog 33 #[.int .i64 1, .int .i64 n] w fun e w' => e = .returned (.tuple #[.agg #[.complex .f32 (clr (hvC n)) (clr (Op.negFloat .f32 0)), .complex .f32 (clr (Op.negFloat .f32 (hvS n))) (clr (Op.negFloat .f32 0)), .complex .f32 (clr (hvS n)) (clr (Op.negFloat .f32 0)), .complex .f32 (clr (hvC n)) (clr 0)], .int .i64 0]) ∧ Grown w w' := by
  have ax := isAxis_yes 1 (by omega) (by omega)
  have hv := isHalvings_yes n (by omega) (by omega)
  have ht := fun b o => halvedTurn_1 b o n hn m1 m2 m3
  have td := toldT_ok
  clear m1 m2 m3
  go_enter Try.func33, Try.ntmps33
  go_wp2_with (first | (go_at_call 65; (with_reducible refine (ax _).mono ?_); rintro e w' ⟨rfl, rfl⟩) | (go_at_call 66; (with_reducible refine (hv _).mono ?_); rintro e w' ⟨rfl, rfl⟩) | (go_at_call 67; (with_reducible refine (ht _ _ _ ?_).mono ?_); (simp [go_sem]); rintro e w' ⟨rfl, rfl⟩) | (go_at_call 59; (with_reducible refine (td _ _ _ _ _ _ _ _ _ _ _ ?_).mono ?_); (simp [go_sem]); rintro e w' ⟨rfl, rfl⟩))
  go_returns
  exact ⟨rfl, grown_drewN_of (by go_grown) 1⟩

set_option maxRecDepth 100000 in
set_option maxHeartbeats 1600000 in
theorem iHT_2 (n : Nat) (hn : n ≤ 24) (m1 : single.fin (Op.negFloat .f32 0)) (m2 : single.fin (Op.negFloat .f32 0)) (m3 : single.fin (Op.negFloat .f32 (hvS n))) (w : World) :
    Calls Try.prog 33 #[.int .i64 2, .int .i64 n] w fun e w' => e = .returned (.tuple #[.agg #[.complex .f32 (clr (hvC n)) (clr (Op.negFloat .f32 (hvS n))), .complex .f32 (clr (Op.negFloat .f32 0)) (clr (Op.negFloat .f32 0)), .complex .f32 (clr 0) (clr (Op.negFloat .f32 0)), .complex .f32 (clr (hvC n)) (clr (hvS n))], .int .i64 0]) ∧ Grown w w' := by
  have ax := isAxis_yes 2 (by omega) (by omega)
  have hv := isHalvings_yes n (by omega) (by omega)
  have ht := fun b o => halvedTurn_2 b o n hn m1 m2 m3
  have td := toldT_ok
  clear m1 m2 m3
  go_enter Try.func33, Try.ntmps33
  go_wp2_with (first | (go_at_call 65; (with_reducible refine (ax _).mono ?_); rintro e w' ⟨rfl, rfl⟩) | (go_at_call 66; (with_reducible refine (hv _).mono ?_); rintro e w' ⟨rfl, rfl⟩) | (go_at_call 67; (with_reducible refine (ht _ _ _ ?_).mono ?_); (simp [go_sem]); rintro e w' ⟨rfl, rfl⟩) | (go_at_call 59; (with_reducible refine (td _ _ _ _ _ _ _ _ _ _ _ ?_).mono ?_); (simp [go_sem]); rintro e w' ⟨rfl, rfl⟩))
  go_returns
  exact ⟨rfl, grown_drewN_of (by go_grown) 1⟩
end Go.Proofs.Ytbojaddojhemeaa
