/- Walks: dots of vectors, by the reference. -/
import Derived.Test.YtbojaddojhemeaaVb
import Derived.Test.YtbojaddojhemeaaDp
namespace Go.Proofs.Ytbojaddojhemeaa
open Ieee Go.Flt Go.RowKit

set_option maxRecDepth 100000 in
set_option maxHeartbeats 1600000 in
theorem l02Dot_any (x0 x1 x2 y0 y1 y2 p0 p1 p2 : Nat)
    (g0 : floatBits .mul .f32 x0 y0 = some p0) (g1 : floatBits .mul .f32 x1 y1 = some p1) (g2 : floatBits .mul .f32 x2 y2 = some p2) (w : World) :
    Calls Try.prog 83 #[.agg #[.float .f32 x0, .float .f32 x1, .float .f32 x2], .agg #[.float .f32 y0, .float .f32 y1, .float .f32 y2]] w fun e w' => (∃ u v, e = .returned (.float .f32 (addR (addR p0 p1 u) p2 v))) ∧ Grown w w' := by
  have m0 : ∀ t w, (binOp .mul t (.float .f32 x0) (.float .f32 y0)).run Try.prog w = .ok (.float .f32 p0) w := fun t w => run_float_arith w .mul t .f32 x0 y0 p0 g0
  have m1 : ∀ t w, (binOp .mul t (.float .f32 x1) (.float .f32 y1)).run Try.prog w = .ok (.float .f32 p1) w := fun t w => run_float_arith w .mul t .f32 x1 y1 p1 g1
  have m2 : ∀ t w, (binOp .mul t (.float .f32 x2) (.float .f32 y2)).run Try.prog w = .ok (.float .f32 p2) w := fun t w => run_float_arith w .mul t .f32 x2 y2 p2 g2
  have ra := run_addR Try.prog
  clear g0 g1 g2
  go_enter Try.func83, Try.ntmps83
  go_wp2_with fail
  go_region_held3 (fun w' => w'.cell? ⟨w.heap.size, 0, none⟩ = some (.float .f32 x0) ∧ w'.cell? ⟨w.heap.size, 1, none⟩ = some (.float .f32 x1) ∧ w'.cell? ⟨w.heap.size, 2, none⟩ = some (.float .f32 x2) ∧ w'.cell? ⟨w.heap.size + 1, 0, none⟩ = some (.float .f32 y0) ∧ w'.cell? ⟨w.heap.size + 1, 1, none⟩ = some (.float .f32 y1) ∧ w'.cell? ⟨w.heap.size + 1, 2, none⟩ = some (.float .f32 y2)) (go_keep) (first | fail)
  rename_i hH
  clear hH
  go_wp2_with fail
  go_ret
  exact ⟨⟨_, _, rfl⟩, grown_drewN_of (by go_grown) _⟩

set_option maxRecDepth 100000 in
theorem number1_ok (r : Nat) (hr : single.fin r) (w : World) :
    Calls Try.prog 82 #[.float .f32 r] w fun e w' => e = .returned (.tuple #[.float .f32 r, .int .i64 0]) ∧ Grown w w' := by
  have v1 := l01Fine_fin r hr
  clear hr
  go_enter Try.func82, Try.ntmps82
  go_wp2_with (go_at_call 43; (with_reducible refine (v1 _).mono ?_); rintro e w' ⟨rfl, rfl⟩)
  go_ret2
  exact ⟨rfl, Grown.refl w⟩
set_option maxRecDepth 100000 in
theorem number1_lim (r : Nat) (hr : ¬ single.fin r) (w : World) :
    Calls Try.prog 82 #[.float .f32 r] w fun e w' => e = .returned (.tuple #[.float .f32 0, .int .i64 3]) ∧ Grown w w' := by
  have v1 := l01Fine_not r hr
  clear hr
  go_enter Try.func82, Try.ntmps82
  go_wp2_with (go_at_call 43; (with_reducible refine (v1 _).mono ?_); rintro e w' ⟨rfl, rfl⟩)
  go_ret2
  exact ⟨rfl, grown_drewN w 1⟩

set_option maxRecDepth 100000 in
set_option maxHeartbeats 1600000 in
theorem s0Dot_ok (x0 x1 x2 y0 y1 y2 p0 p1 p2 q r : Nat) (hx : single.fin x0 ∧ single.fin x1 ∧ single.fin x2) (hy : single.fin y0 ∧ single.fin y1 ∧ single.fin y2)
    (g0 : floatBits .mul .f32 x0 y0 = some p0) (g1 : floatBits .mul .f32 x1 y1 = some p1) (g2 : floatBits .mul .f32 x2 y2 = some p2)
    (e1 : floatBits .add .f32 p0 p1 = some q) (e2 : floatBits .add .f32 q p2 = some r) (hr : single.fin r) (w : World) :
    Calls Try.prog 48 #[.agg #[.float .f32 x0, .float .f32 x1, .float .f32 x2], .agg #[.float .f32 y0, .float .f32 y1, .float .f32 y2]] w fun e w' => e = .returned (.tuple #[.float .f32 r, .int .i64 0]) ∧ Grown w w' := by
  have v1 := l02Fine_yes x0 x1 x2 hx.1 hx.2.1 hx.2.2
  have v2 := l02Fine_yes y0 y1 y2 hy.1 hy.2.1 hy.2.2
  have dt : ∀ w, Calls Try.prog 83 #[.agg #[.float .f32 x0, .float .f32 x1, .float .f32 x2], .agg #[.float .f32 y0, .float .f32 y1, .float .f32 y2]] w fun e w' => e = .returned (.float .f32 r) ∧ Grown w w' := fun w => (l02Dot_any x0 x1 x2 y0 y1 y2 p0 p1 p2 g0 g1 g2 w).mono fun e w' ⟨⟨u, v, he⟩, g⟩ => ⟨by rw [he, addR_eq e1, addR_eq e2], g⟩
  have nb := number1_ok r hr
  clear hx hy g0 g1 g2 e1 e2 hr
  go_enter Try.func48, Try.ntmps48
  go_wp2_with (first | (go_at_call 81; (first | (with_reducible refine (v1 _).mono ?_) | (with_reducible refine (v2 _).mono ?_)); rintro e w' ⟨rfl, n, rfl⟩) | (go_at_call 83; (with_reducible refine (dt _).mono ?_); rintro e w2 ⟨rfl, g2⟩) | (go_at_call 82; (with_reducible refine (nb _).mono ?_); rintro e w3 ⟨rfl, g3⟩))
  go_returns
  exact ⟨rfl, grown_trans (grown_trans (grown_drewN_of (by go_grown) _) g2) g3⟩

set_option maxRecDepth 100000 in
set_option maxHeartbeats 1600000 in
theorem s0Dot_lim (x0 x1 x2 y0 y1 y2 p0 p1 p2 : Nat) (hx : single.fin x0 ∧ single.fin x1 ∧ single.fin x2) (hy : single.fin y0 ∧ single.fin y1 ∧ single.fin y2)
    (g0 : floatBits .mul .f32 x0 y0 = some p0) (g1 : floatBits .mul .f32 x1 y1 = some p1) (g2 : floatBits .mul .f32 x2 y2 = some p2)
    (hr : ∀ u v, ¬ single.fin (addR (addR p0 p1 u) p2 v)) (w : World) :
    Calls Try.prog 48 #[.agg #[.float .f32 x0, .float .f32 x1, .float .f32 x2], .agg #[.float .f32 y0, .float .f32 y1, .float .f32 y2]] w fun e w' => e = .returned (.tuple #[.float .f32 0, .int .i64 3]) ∧ Grown w w' := by
  have v1 := l02Fine_yes x0 x1 x2 hx.1 hx.2.1 hx.2.2
  have v2 := l02Fine_yes y0 y1 y2 hy.1 hy.2.1 hy.2.2
  have dt := l02Dot_any x0 x1 x2 y0 y1 y2 p0 p1 p2 g0 g1 g2
  have nb := fun u v => number1_lim _ (hr u v)
  clear hx hy g0 g1 g2 hr
  go_enter Try.func48, Try.ntmps48
  go_wp2_with (first | (go_at_call 81; (first | (with_reducible refine (v1 _).mono ?_) | (with_reducible refine (v2 _).mono ?_)); rintro e w' ⟨rfl, n, rfl⟩) | (go_at_call 83; (with_reducible refine (dt _).mono ?_); rintro e w2 ⟨⟨u, v, rfl⟩, g2⟩) | (go_at_call 82; (with_reducible refine (nb _ _ _).mono ?_); rintro e w3 ⟨rfl, g3⟩))
  go_returns
  exact ⟨rfl, grown_trans (grown_trans (grown_drewN_of (by go_grown) _) g2) g3⟩

set_option maxRecDepth 100000 in
set_option maxHeartbeats 1600000 in
theorem s0Dot_bad (x0 x1 x2 y0 y1 y2 : Nat) (h : ¬ ((single.fin x0 ∧ single.fin x1 ∧ single.fin x2) ∧ (single.fin y0 ∧ single.fin y1 ∧ single.fin y2))) (w : World) :
    Calls Try.prog 48 #[.agg #[.float .f32 x0, .float .f32 x1, .float .f32 x2], .agg #[.float .f32 y0, .float .f32 y1, .float .f32 y2]] w fun e w' => e = .returned (.tuple #[.float .f32 0, .int .i64 1]) ∧ Grown w w' := by
  by_cases hx : single.fin x0 ∧ single.fin x1 ∧ single.fin x2
  · have v1 := l02Fine_yes x0 x1 x2 hx.1 hx.2.1 hx.2.2
    have v2 := l02Fine_no y0 y1 y2 (fun hy => h ⟨hx, hy⟩)
    clear hx h
    go_enter Try.func48, Try.ntmps48
    go_wp2_with (go_at_call 81; (first | (with_reducible refine (v1 _).mono ?_) | (with_reducible refine (v2 _).mono ?_)); rintro e w' ⟨rfl, n, rfl⟩)
    go_returns
    exact ⟨rfl, grown_drewN_of (by go_grown) _⟩
  · have v1 := l02Fine_no x0 x1 x2 hx
    clear hx h
    go_enter Try.func48, Try.ntmps48
    go_wp2_with (go_at_call 81; (with_reducible refine (v1 _).mono ?_); rintro e w' ⟨rfl, n, rfl⟩)
    go_returns
    exact ⟨rfl, grown_drewN_of (by go_grown) _⟩

theorem sDot_of (x0 x1 x2 y0 y1 y2 y : Nat) (c : Int) (hy : single.fin y)
    (h : ∀ w, Calls Try.prog 48 #[.agg #[.float .f32 x0, .float .f32 x1, .float .f32 x2], .agg #[.float .f32 y0, .float .f32 y1, .float .f32 y2]] w fun e w' => e = .returned (.tuple #[.float .f32 y, .int .i64 c]) ∧ Grown w w') (w : World) :
    Calls Try.prog 20 #[.agg #[.float .f32 x0, .float .f32 x1, .float .f32 x2], .agg #[.float .f32 y0, .float .f32 y1, .float .f32 y2]] w fun e w' => e = .returned (.tuple #[.float .f32 (clr y), .int .i64 c]) ∧ Grown w w' := by
  have c2 := l00Float_fin y hy
  clear hy
  go_enter Try.func20, Try.ntmps20
  go_wp2_with (first | (go_at_call 48; (with_reducible refine (h _).mono ?_); rintro e w1 ⟨rfl, g1⟩) | (go_at_call 40; (with_reducible refine (c2 _).mono ?_); rintro e w' ⟨rfl, rfl⟩))
  go_ret2
  exact ⟨rfl, grown_trans (by go_grown) g1⟩
end Go.Proofs.Ytbojaddojhemeaa
