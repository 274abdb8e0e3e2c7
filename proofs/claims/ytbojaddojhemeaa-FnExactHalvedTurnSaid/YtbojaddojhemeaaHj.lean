/- Halved turns, by the reference: the function. -/
import Derived.Test.YtbojaddojhemeaaHi
namespace Go.Proofs.Ytbojaddojhemeaa
open Ieee Go.Flt Go.RowKit

theorem hvS_lt (n : Nat) (hn : n ≤ 24) : hvS n < 4294967296 :=
  (show ∀ n, n < 25 → hvS n < 4294967296 by decide) n (by omega)

set_option maxRecDepth 100000 in
set_option maxHeartbeats 1600000 in
theorem s0HT_0 (n : Nat) (hn : n ≤ 24) (w : World) :
    Calls Try.prog 64 #[.int .i64 0, .int .i64 n] w fun e w' => e = .returned (.tuple #[.agg #[.complex .f32 (hvC n) (Op.negFloat .f32 0), .complex .f32 (Op.negFloat .f32 0) (Op.negFloat .f32 (hvS n)), .complex .f32 0 (Op.negFloat .f32 (hvS n)), .complex .f32 (hvC n) 0], .int .i64 0]) ∧ ((w.alloc (.cells #[.complex .f32 (hvC n) (Op.negFloat .f32 0), .complex .f32 (Op.negFloat .f32 0) (Op.negFloat .f32 (hvS n)), .complex .f32 0 (Op.negFloat .f32 (hvS n)), .complex .f32 (hvC n) 0] 46)).alloc (.cells #[.complex .f32 (hvC n) (Op.negFloat .f32 0), .complex .f32 (Op.negFloat .f32 0) (Op.negFloat .f32 (hvS n)), .complex .f32 0 (Op.negFloat .f32 (hvS n)), .complex .f32 (hvC n) 0] 46)).alloc (.cells #[.complex .f32 (hvC n) (Op.negFloat .f32 0), .complex .f32 (Op.negFloat .f32 0) (Op.negFloat .f32 (hvS n)), .complex .f32 0 (Op.negFloat .f32 (hvS n)), .complex .f32 (hvC n) 0] 46) = w' := by
  have ax := l01In_yes 0 0 2 (by omega) (by omega)
  have hv := l01In_yes n 0 24 (by omega) (by omega)
  have hl := sHalved n hn
  have ab := about_0 (hvC n) (hvS n)
  go_enter Try.func64, Try.ntmps64
  go_wp2_with (first | (go_at_call 74; (first | (with_reducible refine (ax _).mono ?_) | (with_reducible refine (hv _).mono ?_)); rintro e w' ⟨rfl, rfl⟩) | (go_at_call 95; (with_reducible refine (hl _).mono ?_); rintro e w' ⟨rfl, rfl⟩) | (go_at_call 96; (with_reducible refine (ab _).mono ?_); rintro e w' ⟨rfl, rfl⟩))
  go_returns
  exact ⟨rfl, rfl⟩

set_option maxRecDepth 100000 in
set_option maxHeartbeats 1600000 in
theorem s0HT_1 (n : Nat) (hn : n ≤ 24) (w : World) :
    Calls Try.prog 64 #[.int .i64 1, .int .i64 n] w fun e w' => e = .returned (.tuple #[.agg #[.complex .f32 (hvC n) (Op.negFloat .f32 0), .complex .f32 (Op.negFloat .f32 (hvS n)) (Op.negFloat .f32 0), .complex .f32 (hvS n) (Op.negFloat .f32 0), .complex .f32 (hvC n) 0], .int .i64 0]) ∧ ((w.alloc (.cells #[.complex .f32 (hvC n) (Op.negFloat .f32 0), .complex .f32 (Op.negFloat .f32 (hvS n)) (Op.negFloat .f32 0), .complex .f32 (hvS n) (Op.negFloat .f32 0), .complex .f32 (hvC n) 0] 46)).alloc (.cells #[.complex .f32 (hvC n) (Op.negFloat .f32 0), .complex .f32 (Op.negFloat .f32 (hvS n)) (Op.negFloat .f32 0), .complex .f32 (hvS n) (Op.negFloat .f32 0), .complex .f32 (hvC n) 0] 46)).alloc (.cells #[.complex .f32 (hvC n) (Op.negFloat .f32 0), .complex .f32 (Op.negFloat .f32 (hvS n)) (Op.negFloat .f32 0), .complex .f32 (hvS n) (Op.negFloat .f32 0), .complex .f32 (hvC n) 0] 46) = w' := by
  have ax := l01In_yes 1 0 2 (by omega) (by omega)
  have hv := l01In_yes n 0 24 (by omega) (by omega)
  have hl := sHalved n hn
  have ab := about_1 (hvC n) (hvS n)
  go_enter Try.func64, Try.ntmps64
  go_wp2_with (first | (go_at_call 74; (first | (with_reducible refine (ax _).mono ?_) | (with_reducible refine (hv _).mono ?_)); rintro e w' ⟨rfl, rfl⟩) | (go_at_call 95; (with_reducible refine (hl _).mono ?_); rintro e w' ⟨rfl, rfl⟩) | (go_at_call 96; (with_reducible refine (ab _).mono ?_); rintro e w' ⟨rfl, rfl⟩))
  go_returns
  exact ⟨rfl, rfl⟩

set_option maxRecDepth 100000 in
set_option maxHeartbeats 1600000 in
theorem s0HT_2 (n : Nat) (hn : n ≤ 24) (w : World) :
    Calls Try.prog 64 #[.int .i64 2, .int .i64 n] w fun e w' => e = .returned (.tuple #[.agg #[.complex .f32 (hvC n) (Op.negFloat .f32 (hvS n)), .complex .f32 (Op.negFloat .f32 0) (Op.negFloat .f32 0), .complex .f32 0 (Op.negFloat .f32 0), .complex .f32 (hvC n) (hvS n)], .int .i64 0]) ∧ ((w.alloc (.cells #[.complex .f32 (hvC n) (Op.negFloat .f32 (hvS n)), .complex .f32 (Op.negFloat .f32 0) (Op.negFloat .f32 0), .complex .f32 0 (Op.negFloat .f32 0), .complex .f32 (hvC n) (hvS n)] 46)).alloc (.cells #[.complex .f32 (hvC n) (Op.negFloat .f32 (hvS n)), .complex .f32 (Op.negFloat .f32 0) (Op.negFloat .f32 0), .complex .f32 0 (Op.negFloat .f32 0), .complex .f32 (hvC n) (hvS n)] 46)).alloc (.cells #[.complex .f32 (hvC n) (Op.negFloat .f32 (hvS n)), .complex .f32 (Op.negFloat .f32 0) (Op.negFloat .f32 0), .complex .f32 0 (Op.negFloat .f32 0), .complex .f32 (hvC n) (hvS n)] 46) = w' := by
  have ax := l01In_yes 2 0 2 (by omega) (by omega)
  have hv := l01In_yes n 0 24 (by omega) (by omega)
  have hl := sHalved n hn
  have ab := about_2 (hvC n) (hvS n)
  go_enter Try.func64, Try.ntmps64
  go_wp2_with (first | (go_at_call 74; (first | (with_reducible refine (ax _).mono ?_) | (with_reducible refine (hv _).mono ?_)); rintro e w' ⟨rfl, rfl⟩) | (go_at_call 95; (with_reducible refine (hl _).mono ?_); rintro e w' ⟨rfl, rfl⟩) | (go_at_call 96; (with_reducible refine (ab _).mono ?_); rintro e w' ⟨rfl, rfl⟩))
  go_returns
  exact ⟨rfl, rfl⟩

set_option maxRecDepth 100000 in
theorem s0HT_bad (a k : Int) (h : ¬ ((0 ≤ a ∧ a ≤ 2) ∧ 0 ≤ k ∧ k ≤ 24)) (w : World) :
    Calls Try.prog 64 #[.int .i64 a, .int .i64 k] w fun e w' => e = .returned (.tuple #[.agg #[.complex .f32 0 0, .complex .f32 0 0, .complex .f32 0 0, .complex .f32 0 0], .int .i64 2]) ∧ w.alloc (.cells #[.complex .f32 0 0, .complex .f32 0 0, .complex .f32 0 0, .complex .f32 0 0] 46) = w' := by
  by_cases ha : 0 ≤ a ∧ a ≤ 2
  · have ax := l01In_yes a 0 2 ha.1 ha.2
    have hv := l01In_no k 0 24 (by omega)
    clear h ha
    go_enter Try.func64, Try.ntmps64
    go_wp2_with (go_at_call 74; (first | (with_reducible refine (ax _).mono ?_) | (with_reducible refine (hv _).mono ?_)); rintro e w' ⟨rfl, rfl⟩)
    go_returns
    exact ⟨rfl, rfl⟩
  · have ax := l01In_no a 0 2 (by omega)
    clear h ha
    go_enter Try.func64, Try.ntmps64
    go_wp2_with (go_at_call 74; (with_reducible refine (ax _).mono ?_); rintro e w' ⟨rfl, rfl⟩)
    go_returns
    exact ⟨rfl, rfl⟩

set_option maxRecDepth 100000 in
set_option maxHeartbeats 1600000 in
theorem sHT_of (a k c : Int) (v0 v1 v2 v3 v4 v5 v6 v7 : Nat) (f1 : single.fin v0 ∧ single.fin v1 ∧ single.fin v2 ∧ single.fin v3) (f2 : single.fin v4 ∧ single.fin v5 ∧ single.fin v6 ∧ single.fin v7)
    (h0 : ∀ w, Calls Try.prog 64 #[.int .i64 a, .int .i64 k] w fun e w' => e = .returned (.tuple #[.agg #[.complex .f32 v0 v1, .complex .f32 v2 v3, .complex .f32 v4 v5, .complex .f32 v6 v7], .int .i64 c]) ∧ ((w.alloc (.cells #[.complex .f32 v0 v1, .complex .f32 v2 v3, .complex .f32 v4 v5, .complex .f32 v6 v7] 46)).alloc (.cells #[.complex .f32 v0 v1, .complex .f32 v2 v3, .complex .f32 v4 v5, .complex .f32 v6 v7] 46)).alloc (.cells #[.complex .f32 v0 v1, .complex .f32 v2 v3, .complex .f32 v4 v5, .complex .f32 v6 v7] 46) = w') (w : World) :
    Calls Try.prog 32 #[.int .i64 a, .int .i64 k] w fun e w' => e = .returned (.tuple #[.agg #[.complex .f32 (clr v0) (clr v1), .complex .f32 (clr v2) (clr v3), .complex .f32 (clr v4) (clr v5), .complex .f32 (clr v6) (clr v7)], .int .i64 c]) ∧ Grown w w' := by
  have t0 := turn0 v0 v1 v2 v3 v4 v5 v6 v7 f1 f2
  clear f1 f2
  go_enter Try.func32, Try.ntmps32
  go_wp2_with (first | (go_at_call 64; (with_reducible refine (h0 _).mono ?_); rintro e w' ⟨rfl, rfl⟩) | (go_at_call 57; (with_reducible refine (t0 _).mono ?_); rintro e w' ⟨rfl, n, rfl⟩))
  go_returns
  exact ⟨rfl, grown_drewN_of (by go_grown) _⟩

set_option maxRecDepth 100000 in
set_option maxHeartbeats 1600000 in
theorem sHT_bad (a k c : Int) (v0 v1 v2 v3 v4 v5 v6 v7 : Nat) (f1 : single.fin v0 ∧ single.fin v1 ∧ single.fin v2 ∧ single.fin v3) (f2 : single.fin v4 ∧ single.fin v5 ∧ single.fin v6 ∧ single.fin v7)
    (h0 : ∀ w, Calls Try.prog 64 #[.int .i64 a, .int .i64 k] w fun e w' => e = .returned (.tuple #[.agg #[.complex .f32 v0 v1, .complex .f32 v2 v3, .complex .f32 v4 v5, .complex .f32 v6 v7], .int .i64 c]) ∧ w.alloc (.cells #[.complex .f32 v0 v1, .complex .f32 v2 v3, .complex .f32 v4 v5, .complex .f32 v6 v7] 46) = w') (w : World) :
    Calls Try.prog 32 #[.int .i64 a, .int .i64 k] w fun e w' => e = .returned (.tuple #[.agg #[.complex .f32 (clr v0) (clr v1), .complex .f32 (clr v2) (clr v3), .complex .f32 (clr v4) (clr v5), .complex .f32 (clr v6) (clr v7)], .int .i64 c]) ∧ Grown w w' := by
  have t0 := turn0 v0 v1 v2 v3 v4 v5 v6 v7 f1 f2
  clear f1 f2
  go_enter Try.func32, Try.ntmps32
  go_wp2_with (first | (go_at_call 64; (with_reducible refine (h0 _).mono ?_); rintro e w' ⟨rfl, rfl⟩) | (go_at_call 57; (with_reducible refine (t0 _).mono ?_); rintro e w' ⟨rfl, n, rfl⟩))
  go_returns
  exact ⟨rfl, grown_drewN_of (by go_grown) _⟩
end Go.Proofs.Ytbojaddojhemeaa
