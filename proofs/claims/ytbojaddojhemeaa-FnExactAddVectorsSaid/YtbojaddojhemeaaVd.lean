/- Walks: AddVectors of the reference. -/
import Derived.Test.YtbojaddojhemeaaVb
namespace Go.Proofs.Ytbojaddojhemeaa
open Ieee Go.Flt Go.RowKit

set_option maxRecDepth 100000 in
theorem shown_ok (r0 r1 r2 : Nat) (hr : single.fin r0 ∧ single.fin r1 ∧ single.fin r2) (w : World) :
    Calls Try.prog 85 #[.agg #[.float .f32 r0, .float .f32 r1, .float .f32 r2]] w fun e w' => e = .returned (.tuple #[.agg #[.float .f32 r0, .float .f32 r1, .float .f32 r2], .int .i64 0]) ∧ ∃ n, (((w.alloc (.cells #[.float .f32 r0, .float .f32 r1, .float .f32 r2] 36)).alloc (.cells #[.float .f32 r0, .float .f32 r1, .float .f32 r2] 36)).alloc (.cells #[.float .f32 r0, .float .f32 r1, .float .f32 r2] 36)).drewN n = w' := by
  have v1 := l02Fine_yes r0 r1 r2 hr.1 hr.2.1 hr.2.2
  clear hr
  go_enter Try.func85, Try.ntmps85
  go_wp2_with (go_at_call 81; (with_reducible refine (v1 _).mono ?_); rintro e w' ⟨rfl, n, rfl⟩)
  go_returns
  exact ⟨rfl, n, rfl⟩
set_option maxRecDepth 100000 in
theorem shown_lim (r0 r1 r2 : Nat) (hr : ¬ (single.fin r0 ∧ single.fin r1 ∧ single.fin r2)) (w : World) :
    Calls Try.prog 85 #[.agg #[.float .f32 r0, .float .f32 r1, .float .f32 r2]] w fun e w' => e = .returned (.tuple #[.agg #[.float .f32 0, .float .f32 0, .float .f32 0], .int .i64 3]) ∧ ∃ n, (((w.alloc (.cells #[.float .f32 r0, .float .f32 r1, .float .f32 r2] 36)).alloc (.cells #[.float .f32 0, .float .f32 0, .float .f32 0] 36)).alloc (.cells #[.float .f32 r0, .float .f32 r1, .float .f32 r2] 36)).drewN n = w' := by
  have v1 := l02Fine_no r0 r1 r2 hr
  clear hr
  go_enter Try.func85, Try.ntmps85
  go_wp2_with (go_at_call 81; (with_reducible refine (v1 _).mono ?_); rintro e w' ⟨rfl, n, rfl⟩)
  go_returns
  exact ⟨rfl, n, rfl⟩

set_option maxRecDepth 100000 in
set_option maxHeartbeats 800000 in
theorem s0Add_ok (x0 x1 x2 y0 y1 y2 r0 r1 r2 : Nat) (hx : single.fin x0 ∧ single.fin x1 ∧ single.fin x2) (hy : single.fin y0 ∧ single.fin y1 ∧ single.fin y2)
    (h0 : floatBits .add .f32 x0 y0 = some r0) (h1 : floatBits .add .f32 x1 y1 = some r1) (h2 : floatBits .add .f32 x2 y2 = some r2) (hr : single.fin r0 ∧ single.fin r1 ∧ single.fin r2) (w : World) :
    Calls Try.prog 52 #[.agg #[.float .f32 x0, .float .f32 x1, .float .f32 x2], .agg #[.float .f32 y0, .float .f32 y1, .float .f32 y2]] w fun e w' => e = .returned (.tuple #[.agg #[.float .f32 r0, .float .f32 r1, .float .f32 r2], .int .i64 0]) ∧ ∃ n, ((((((((w.alloc (.cells #[.float .f32 x0, .float .f32 x1, .float .f32 x2] 36)).alloc (.cells #[.float .f32 y0, .float .f32 y1, .float .f32 y2] 36)).alloc (.cells #[.float .f32 r0, .float .f32 r1, .float .f32 r2] 36)).alloc (.cells #[.float .f32 x0, .float .f32 x1, .float .f32 x2] 36)).alloc (.cells #[.float .f32 y0, .float .f32 y1, .float .f32 y2] 36)).alloc (.cells #[.float .f32 r0, .float .f32 r1, .float .f32 r2] 36)).alloc (.cells #[.float .f32 r0, .float .f32 r1, .float .f32 r2] 36)).alloc (.cells #[.float .f32 r0, .float .f32 r1, .float .f32 r2] 36)).drewN n = w' := by
  have v1 := l02Fine_yes x0 x1 x2 hx.1 hx.2.1 hx.2.2
  have v2 := l02Fine_yes y0 y1 y2 hy.1 hy.2.1 hy.2.2
  have sh := shown_ok r0 r1 r2 hr
  have p0 : ∀ t w, (binOp .add t (.float .f32 x0) (.float .f32 y0)).run Try.prog w = .ok (.float .f32 r0) w := fun t w => run_float_arith w .add t .f32 x0 y0 r0 h0
  have p1 : ∀ t w, (binOp .add t (.float .f32 x1) (.float .f32 y1)).run Try.prog w = .ok (.float .f32 r1) w := fun t w => run_float_arith w .add t .f32 x1 y1 r1 h1
  have p2 : ∀ t w, (binOp .add t (.float .f32 x2) (.float .f32 y2)).run Try.prog w = .ok (.float .f32 r2) w := fun t w => run_float_arith w .add t .f32 x2 y2 r2 h2
  clear hx hy h0 h1 h2 hr
  go_enter Try.func52, Try.ntmps52
  go_wp2_with (first | (go_at_call 81; (first | (with_reducible refine (v1 _).mono ?_) | (with_reducible refine (v2 _).mono ?_)); rintro e w' ⟨rfl, n, rfl⟩) | (go_at_call 85; (with_reducible refine (sh _).mono ?_); rintro e w' ⟨rfl, m, rfl⟩))
  go_returns
  exact ⟨rfl, _, rfl⟩

set_option maxRecDepth 100000 in
set_option maxHeartbeats 800000 in
theorem s0Add_lim (x0 x1 x2 y0 y1 y2 r0 r1 r2 : Nat) (hx : single.fin x0 ∧ single.fin x1 ∧ single.fin x2) (hy : single.fin y0 ∧ single.fin y1 ∧ single.fin y2)
    (h0 : floatBits .add .f32 x0 y0 = some r0) (h1 : floatBits .add .f32 x1 y1 = some r1) (h2 : floatBits .add .f32 x2 y2 = some r2) (hr : ¬ (single.fin r0 ∧ single.fin r1 ∧ single.fin r2)) (w : World) :
    Calls Try.prog 52 #[.agg #[.float .f32 x0, .float .f32 x1, .float .f32 x2], .agg #[.float .f32 y0, .float .f32 y1, .float .f32 y2]] w fun e w' => e = .returned (.tuple #[.agg #[.float .f32 0, .float .f32 0, .float .f32 0], .int .i64 3]) ∧ ∃ n, ((((((((w.alloc (.cells #[.float .f32 x0, .float .f32 x1, .float .f32 x2] 36)).alloc (.cells #[.float .f32 y0, .float .f32 y1, .float .f32 y2] 36)).alloc (.cells #[.float .f32 0, .float .f32 0, .float .f32 0] 36)).alloc (.cells #[.float .f32 x0, .float .f32 x1, .float .f32 x2] 36)).alloc (.cells #[.float .f32 y0, .float .f32 y1, .float .f32 y2] 36)).alloc (.cells #[.float .f32 r0, .float .f32 r1, .float .f32 r2] 36)).alloc (.cells #[.float .f32 0, .float .f32 0, .float .f32 0] 36)).alloc (.cells #[.float .f32 r0, .float .f32 r1, .float .f32 r2] 36)).drewN n = w' := by
  have v1 := l02Fine_yes x0 x1 x2 hx.1 hx.2.1 hx.2.2
  have v2 := l02Fine_yes y0 y1 y2 hy.1 hy.2.1 hy.2.2
  have sh := shown_lim r0 r1 r2 hr
  have p0 : ∀ t w, (binOp .add t (.float .f32 x0) (.float .f32 y0)).run Try.prog w = .ok (.float .f32 r0) w := fun t w => run_float_arith w .add t .f32 x0 y0 r0 h0
  have p1 : ∀ t w, (binOp .add t (.float .f32 x1) (.float .f32 y1)).run Try.prog w = .ok (.float .f32 r1) w := fun t w => run_float_arith w .add t .f32 x1 y1 r1 h1
  have p2 : ∀ t w, (binOp .add t (.float .f32 x2) (.float .f32 y2)).run Try.prog w = .ok (.float .f32 r2) w := fun t w => run_float_arith w .add t .f32 x2 y2 r2 h2
  clear hx hy h0 h1 h2 hr
  go_enter Try.func52, Try.ntmps52
  go_wp2_with (first | (go_at_call 81; (first | (with_reducible refine (v1 _).mono ?_) | (with_reducible refine (v2 _).mono ?_)); rintro e w' ⟨rfl, n, rfl⟩) | (go_at_call 85; (with_reducible refine (sh _).mono ?_); rintro e w' ⟨rfl, m, rfl⟩))
  go_returns
  exact ⟨rfl, _, rfl⟩

theorem l00Vector_zero (w : World) :
    Calls Try.prog 53 #[.agg #[.float .f32 0, .float .f32 0, .float .f32 0]] w fun e w' => e = .returned (.agg #[.float .f32 0, .float .f32 0, .float .f32 0]) ∧ (((w.alloc (.cells #[.float .f32 0, .float .f32 0, .float .f32 0] 36)).alloc (.cells #[.float .f32 0, .float .f32 0, .float .f32 0] 36))).drew = w' :=
  l00Vector_fin 0 0 0 fin_zero fin_zero fin_zero w

set_option maxRecDepth 100000 in
set_option maxHeartbeats 800000 in
theorem sAdd_ok (x0 x1 x2 y0 y1 y2 r0 r1 r2 : Nat) (hx : single.fin x0 ∧ single.fin x1 ∧ single.fin x2) (hy : single.fin y0 ∧ single.fin y1 ∧ single.fin y2)
    (h0 : floatBits .add .f32 x0 y0 = some r0) (h1 : floatBits .add .f32 x1 y1 = some r1) (h2 : floatBits .add .f32 x2 y2 = some r2) (hr : single.fin r0 ∧ single.fin r1 ∧ single.fin r2) (w : World) :
    Calls Try.prog 23 #[.agg #[.float .f32 x0, .float .f32 x1, .float .f32 x2], .agg #[.float .f32 y0, .float .f32 y1, .float .f32 y2]] w fun e w' => e = .returned (.tuple #[.agg #[.float .f32 (clr r0), .float .f32 (clr r1), .float .f32 (clr r2)], .int .i64 0]) ∧ Grown w w' := by
  have s0 := s0Add_ok x0 x1 x2 y0 y1 y2 r0 r1 r2 hx hy h0 h1 h2 hr
  have lv := l00Vector_fin r0 r1 r2 hr.1 hr.2.1 hr.2.2
  clear hx hy h0 h1 h2 hr
  go_enter Try.func23, Try.ntmps23
  go_wp2_with (first | (go_at_call 52; (with_reducible refine (s0 _).mono ?_); rintro e w' ⟨rfl, n, rfl⟩) | (go_at_call 53; (with_reducible refine (lv _).mono ?_); rintro e w' ⟨rfl, rfl⟩))
  go_returns
  exact ⟨rfl, grown_drewN_of (by go_grown) _⟩

set_option maxRecDepth 100000 in
set_option maxHeartbeats 800000 in
theorem sAdd_lim (x0 x1 x2 y0 y1 y2 r0 r1 r2 : Nat) (hx : single.fin x0 ∧ single.fin x1 ∧ single.fin x2) (hy : single.fin y0 ∧ single.fin y1 ∧ single.fin y2)
    (h0 : floatBits .add .f32 x0 y0 = some r0) (h1 : floatBits .add .f32 x1 y1 = some r1) (h2 : floatBits .add .f32 x2 y2 = some r2) (hr : ¬ (single.fin r0 ∧ single.fin r1 ∧ single.fin r2)) (w : World) :
    Calls Try.prog 23 #[.agg #[.float .f32 x0, .float .f32 x1, .float .f32 x2], .agg #[.float .f32 y0, .float .f32 y1, .float .f32 y2]] w fun e w' => e = .returned (.tuple #[.agg #[.float .f32 0, .float .f32 0, .float .f32 0], .int .i64 3]) ∧ Grown w w' := by
  have s0 := s0Add_lim x0 x1 x2 y0 y1 y2 r0 r1 r2 hx hy h0 h1 h2 hr
  have lv := l00Vector_zero
  clear hx hy h0 h1 h2 hr
  go_enter Try.func23, Try.ntmps23
  go_wp2_with (first | (go_at_call 52; (with_reducible refine (s0 _).mono ?_); rintro e w' ⟨rfl, n, rfl⟩) | (go_at_call 53; (with_reducible refine (lv _).mono ?_); rintro e w' ⟨rfl, rfl⟩))
  go_returns
  exact ⟨rfl, grown_drewN_of (by go_grown) _⟩

set_option maxRecDepth 100000 in
set_option maxHeartbeats 800000 in
theorem sAdd_bad (x0 x1 x2 y0 y1 y2 : Nat) (h : ¬ ((single.fin x0 ∧ single.fin x1 ∧ single.fin x2) ∧ (single.fin y0 ∧ single.fin y1 ∧ single.fin y2))) (w : World) :
    Calls Try.prog 23 #[.agg #[.float .f32 x0, .float .f32 x1, .float .f32 x2], .agg #[.float .f32 y0, .float .f32 y1, .float .f32 y2]] w fun e w' => e = .returned (.tuple #[.agg #[.float .f32 0, .float .f32 0, .float .f32 0], .int .i64 1]) ∧ Grown w w' := by
  have lv := l00Vector_zero
  by_cases hx : single.fin x0 ∧ single.fin x1 ∧ single.fin x2
  · have v1 := l02Fine_yes x0 x1 x2 hx.1 hx.2.1 hx.2.2
    have v2 := l02Fine_no y0 y1 y2 (fun hy => h ⟨hx, hy⟩)
    clear hx h
    go_enter Try.func23, Try.ntmps23
    go_wp2_with (first | (go_at_call 52; go_in) | (go_at_call 81; (first | (with_reducible refine (v1 _).mono ?_) | (with_reducible refine (v2 _).mono ?_)); rintro e w' ⟨rfl, n, rfl⟩) | (go_at_call 53; (with_reducible refine (lv _).mono ?_); rintro e w' ⟨rfl, rfl⟩))
    go_returns
    exact ⟨rfl, grown_drewN_of (by go_grown) _⟩
  · have v1 := l02Fine_no x0 x1 x2 hx
    clear hx h
    go_enter Try.func23, Try.ntmps23
    go_wp2_with (first | (go_at_call 52; go_in) | (go_at_call 81; (with_reducible refine (v1 _).mono ?_); rintro e w' ⟨rfl, n, rfl⟩) | (go_at_call 53; (with_reducible refine (lv _).mono ?_); rintro e w' ⟨rfl, rfl⟩))
    go_returns
    exact ⟨rfl, grown_drewN_of (by go_grown) _⟩
end Go.Proofs.Ytbojaddojhemeaa
