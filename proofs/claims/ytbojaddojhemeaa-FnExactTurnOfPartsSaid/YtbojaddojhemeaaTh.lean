/- Walks: TurnOfParts of the reference, its zeros positive; parts, handed over. -/
import Derived.Test.YtbojaddojhemeaaTg
namespace Go.Proofs.Ytbojaddojhemeaa
open Ieee Go.Flt Go.RowKit

set_option maxRecDepth 100000 in
set_option maxHeartbeats 1600000 in
theorem sTurn_ok (x0 x1 x2 x3 n1 n2 n3 : Nat) (e1 : Op.negFloat .f32 x1 = n1) (e2 : Op.negFloat .f32 x2 = n2) (e3 : Op.negFloat .f32 x3 = n3)
    (hx : single.fin x0 ∧ single.fin x1 ∧ single.fin x2 ∧ single.fin x3) (m1 : single.fin n1) (m2 : single.fin n2) (m3 : single.fin n3) (w : World) :
    Calls Try.prog 26 #[.agg #[.float .f32 x0, .float .f32 x1, .float .f32 x2, .float .f32 x3]] w fun e w' => e = .returned (.tuple #[.agg #[.complex .f32 (clr x0) (clr n3), .complex .f32 (clr n2) (clr n1), .complex .f32 (clr x2) (clr n1), .complex .f32 (clr x0) (clr x3)], .int .i64 0]) ∧ Grown w w' := by
  have s0 := s0Turn_ok x0 x1 x2 x3 hx
  rw [e1, e2, e3] at s0
  have t0 := turn0 x0 n3 n2 n1 x2 n1 x0 x3 ⟨hx.1, m3, m2, m1⟩ ⟨hx.2.2.1, m1, hx.1, hx.2.2.2⟩
  clear hx m1 m2 m3 e1 e2 e3
  go_enter Try.func26, Try.ntmps26
  go_wp2_with (first | (go_at_call 56; (with_reducible refine (s0 _).mono ?_); rintro e w' ⟨rfl, rfl⟩) | (go_at_call 57; (with_reducible refine (t0 _).mono ?_); rintro e w' ⟨rfl, n, rfl⟩))
  go_returns
  exact ⟨rfl, grown_drewN_of (by go_grown) _⟩

set_option maxRecDepth 100000 in
set_option maxHeartbeats 1600000 in
theorem sTurn_bad (x0 x1 x2 x3 : Nat) (hx : ¬ (single.fin x0 ∧ single.fin x1 ∧ single.fin x2 ∧ single.fin x3)) (w : World) :
    Calls Try.prog 26 #[.agg #[.float .f32 x0, .float .f32 x1, .float .f32 x2, .float .f32 x3]] w fun e w' => e = .returned (.tuple #[.agg #[.complex .f32 0 0, .complex .f32 0 0, .complex .f32 0 0, .complex .f32 0 0], .int .i64 1]) ∧ Grown w w' := by
  have s0 := s0Turn_bad x0 x1 x2 x3 hx
  have t0 := turn0 0 0 0 0 0 0 0 0 ⟨fin_zero, fin_zero, fin_zero, fin_zero⟩ ⟨fin_zero, fin_zero, fin_zero, fin_zero⟩
  rw [show clr 0 = 0 from rfl] at t0
  clear hx
  go_enter Try.func26, Try.ntmps26
  go_wp2_with (first | (go_at_call 56; (with_reducible refine (s0 _).mono ?_); rintro e w' ⟨rfl, m, rfl⟩) | (go_at_call 57; (with_reducible refine (t0 _).mono ?_); rintro e w' ⟨rfl, n, rfl⟩))
  go_returns
  exact ⟨rfl, grown_drewN_of (by go_grown) _⟩

set_option maxRecDepth 100000 in
theorem toParts_ex (x0 x1 x2 x3 : Nat) (w : World) :
    Calls Try.prog 27 #[.agg #[.float .f32 x0, .float .f32 x1, .float .f32 x2, .float .f32 x3]] w fun e w' => e = .returned (.agg #[.float .f32 x0, .float .f32 x1, .float .f32 x2, .float .f32 x3]) ∧ ((w.alloc (.cells #[.float .f32 x0, .float .f32 x1, .float .f32 x2, .float .f32 x3] 42)).alloc (.cells #[.float .f32 x0, .float .f32 x1, .float .f32 x2, .float .f32 x3] 49)).alloc (.cells #[.float .f32 x0, .float .f32 x1, .float .f32 x2, .float .f32 x3] 49) = w' := by
  go_enter Try.func27, Try.ntmps27
  go_wp2
  go_rounds 5
  go_returns
  exact ⟨rfl, rfl⟩
end Go.Proofs.Ytbojaddojhemeaa
