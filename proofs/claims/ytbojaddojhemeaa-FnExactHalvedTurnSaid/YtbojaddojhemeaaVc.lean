/- Walks: AddVectors of the program. -/
import Derived.Test.YtbojaddojhemeaaVb
import Derived.Test.YtbojaddojhemeaaWh
namespace Go.Proofs.Ytbojaddojhemeaa
open Ieee Go.Flt Go.RowKit

theorem add_fin_of (b o x y r : Nat) (hr : floatBits .add .f32 x y = some r) (hf : single.fin r) (w : World) (hc : w.cell? ⟨b, o, none⟩ = some (.int .i64 0)) :
    Calls Try.prog 54 #[.pointer (some ⟨b, o, none⟩), .float .f32 x, .float .f32 y] w fun e w' => e = .returned (.float .f32 (clr r)) ∧ w = w' := by
  have hop : ∀ t w, (binOp .add t (.float .f32 x) (.float .f32 y)).run Try.prog w = .ok (.float .f32 r) w := fun t w => run_float_arith w .add t .f32 x y r hr
  have c1 := round_fin b o r hf w hc
  clear hr hf
  go_enter Try.func54, Try.ntmps54
  go_wp2_with (go_at_call 86; (with_reducible refine c1.mono ?_); rintro e w' ⟨rfl, rfl⟩)
  go_ret
  exact ⟨rfl, rfl⟩

theorem rc_nonneg {k : Int} (h : 0 ≤ k) (x : Nat) : 0 ≤ rc k x := by unfold rc; split <;> omega
theorem rc_fin {x : Nat} (k : Int) (h : single.fin x) : rc k x = k := by unfold rc; rw [if_pos (.inl (isFin_true h))]
theorem rc_not {x : Nat} (h : ¬ single.fin x) : rc 0 x = 3 := by unfold rc; rw [isFin_false h]; rfl
theorem rc_three (x : Nat) : rc 3 x = 3 := by unfold rc; rw [if_pos (.inr (by omega))]
theorem rc_last {a b c : Nat} (h : ¬ (single.fin a ∧ single.fin b ∧ single.fin c)) : rc (rc (rc 0 a) b) c = 3 := by
  by_cases ha : single.fin a
  · rw [rc_fin 0 ha]
    by_cases hb : single.fin b
    · rw [rc_fin 0 hb, rc_not (fun hc => h ⟨ha, hb, hc⟩)]
    · rw [rc_not hb, rc_three]
  · rw [rc_not ha, rc_three, rc_three]

theorem idx0 (x y z : Nat) (w : World) : (Instr.index 36 (.agg #[.float .f32 x, .float .f32 y, .float .f32 z]) (.int .i64 0)).run Try.prog w = .ok (.float .f32 x) w := by kernel_rfl
theorem idx1 (x y z : Nat) (w : World) : (Instr.index 36 (.agg #[.float .f32 x, .float .f32 y, .float .f32 z]) (.int .i64 1)).run Try.prog w = .ok (.float .f32 y) w := by kernel_rfl
theorem idx2 (x y z : Nat) (w : World) : (Instr.index 36 (.agg #[.float .f32 x, .float .f32 y, .float .f32 z]) (.int .i64 2)).run Try.prog w = .ok (.float .f32 z) w := by kernel_rfl

set_option maxRecDepth 100000 in
set_option maxHeartbeats 1600000 in
theorem iAdd_fin (x0 x1 x2 y0 y1 y2 r0 r1 r2 : Nat) (hx : single.fin x0 ∧ single.fin x1 ∧ single.fin x2) (hy : single.fin y0 ∧ single.fin y1 ∧ single.fin y2)
    (h0 : floatBits .add .f32 x0 y0 = some r0) (h1 : floatBits .add .f32 x1 y1 = some r1) (h2 : floatBits .add .f32 x2 y2 = some r2) (hr : single.fin r0 ∧ single.fin r1 ∧ single.fin r2) (w : World) :
    Calls Try.prog 24 #[.agg #[.float .f32 x0, .float .f32 x1, .float .f32 x2], .agg #[.float .f32 y0, .float .f32 y1, .float .f32 y2]] w fun e w' => e = .returned (.tuple #[.agg #[.float .f32 (clr r0), .float .f32 (clr r1), .float .f32 (clr r2)], .int .i64 0]) ∧ Grown w w' := by
  have v1 := isVector_yes x0 x1 x2 hx.1 hx.2.1 hx.2.2
  have v2 := isVector_yes y0 y1 y2 hy.1 hy.2.1 hy.2.2
  have a0 := fun b o => add_fin_of b o x0 y0 r0 h0 hr.1
  have a1 := fun b o => add_fin_of b o x1 y1 r1 h1 hr.2.1
  have a2 := fun b o => add_fin_of b o x2 y2 r2 h2 hr.2.2
  have i0 := idx0 x0 x1 x2
  have i1 := idx1 x0 x1 x2
  have i2 := idx2 x0 x1 x2
  have td := toldV_ok
  clear hx hy h0 h1 h2 hr
  go_enter Try.func24, Try.ntmps24
  go_wp2_with (go_at_call 49; (first | (with_reducible refine (v1 _).mono ?_) | (with_reducible refine (v2 _).mono ?_)); rintro e w' ⟨rfl, n, rfl⟩)
  refine wp_loop_rounds 4 ?_
  repeat any_goals (rw [rounds_succ]; go_wp2_with (first | (go_at_call 54; (first | (with_reducible refine (a0 _ _ _ ?_).mono ?_) | (with_reducible refine (a1 _ _ _ ?_).mono ?_) | (with_reducible refine (a2 _ _ _ ?_).mono ?_)); (simp [go_sem]); rintro e w' ⟨rfl, rfl⟩) | (go_at_call 55; (with_reducible refine (td _ _ _ _ _ _ ?_ ?_).mono ?_); (simp [go_sem]); (simp [go_sem]); rintro e w' ⟨rfl, rfl⟩)))
  go_returns
  exact ⟨rfl, grown_drewN_of (by go_grown) _⟩

set_option maxRecDepth 100000 in
set_option maxHeartbeats 1600000 in
theorem iAdd_lim (x0 x1 x2 y0 y1 y2 r0 r1 r2 : Nat) (hx : single.fin x0 ∧ single.fin x1 ∧ single.fin x2) (hy : single.fin y0 ∧ single.fin y1 ∧ single.fin y2)
    (h0 : floatBits .add .f32 x0 y0 = some r0) (h1 : floatBits .add .f32 x1 y1 = some r1) (h2 : floatBits .add .f32 x2 y2 = some r2) (hr : ¬ (single.fin r0 ∧ single.fin r1 ∧ single.fin r2)) (w : World) :
    Calls Try.prog 24 #[.agg #[.float .f32 x0, .float .f32 x1, .float .f32 x2], .agg #[.float .f32 y0, .float .f32 y1, .float .f32 y2]] w fun e w' => e = .returned (.tuple #[.agg #[.float .f32 0, .float .f32 0, .float .f32 0], .int .i64 3]) ∧ Grown w w' := by
  have v1 := isVector_yes x0 x1 x2 hx.1 hx.2.1 hx.2.2
  have v2 := isVector_yes y0 y1 y2 hy.1 hy.2.1 hy.2.2
  have k1 := rc_nonneg (show (0 : Int) ≤ 0 by omega) r0
  have k2 := rc_nonneg k1 r1
  have a0 := fun b o => add_of b o x0 y0 r0 0 (by omega) h0
  have a1 := fun b o => add_of b o x1 y1 r1 _ k1 h1
  have a2 := fun b o => add_of b o x2 y2 r2 _ k2 h2
  rw [rc_last hr] at a2
  generalize rv (rc (rc 0 r0) r1) r2 = t2 at a2
  generalize rc (rc 0 r0) r1 = q2 at a1 a2
  generalize rv (rc 0 r0) r1 = t1 at a1
  generalize rc 0 r0 = q1 at a0 a1
  generalize rv 0 r0 = t0 at a0
  have i0 := idx0 x0 x1 x2
  have i1 := idx1 x0 x1 x2
  have i2 := idx2 x0 x1 x2
  have td := fun b o x y z => toldV_err b o x y z 3 (by omega)
  clear hx hy h0 h1 h2 hr k1 k2
  go_enter Try.func24, Try.ntmps24
  go_wp2_with (go_at_call 49; (first | (with_reducible refine (v1 _).mono ?_) | (with_reducible refine (v2 _).mono ?_)); rintro e w' ⟨rfl, n, rfl⟩)
  refine wp_loop_rounds 4 ?_
  repeat any_goals (rw [rounds_succ]; go_wp2_with (first | (go_at_call 54; (first | (with_reducible refine (a0 _ _ _ ?_ ?_).mono ?_) | (with_reducible refine (a1 _ _ _ ?_ ?_).mono ?_) | (with_reducible refine (a2 _ _ _ ?_ ?_).mono ?_)); (simp [go_sem]); (simp [go_sem]); rintro e w' ⟨rfl, m, rfl⟩) | (go_at_call 55; (with_reducible refine (td _ _ _ _ _ _ ?_ ?_).mono ?_); (simp [go_sem]); (simp [go_sem]); rintro e w' ⟨rfl, rfl⟩)))
  go_returns
  exact ⟨rfl, grown_drewN_of (by go_grown) _⟩

set_option maxRecDepth 100000 in
theorem iAdd_bad (x0 x1 x2 y0 y1 y2 : Nat) (h : ¬ ((single.fin x0 ∧ single.fin x1 ∧ single.fin x2) ∧ (single.fin y0 ∧ single.fin y1 ∧ single.fin y2))) (w : World) :
    Calls Try.prog 24 #[.agg #[.float .f32 x0, .float .f32 x1, .float .f32 x2], .agg #[.float .f32 y0, .float .f32 y1, .float .f32 y2]] w fun e w' => e = .returned (.tuple #[.agg #[.float .f32 0, .float .f32 0, .float .f32 0], .int .i64 1]) ∧ Grown w w' := by
  by_cases hx : single.fin x0 ∧ single.fin x1 ∧ single.fin x2
  · have v1 := isVector_yes x0 x1 x2 hx.1 hx.2.1 hx.2.2
    have v2 := isVector_no y0 y1 y2 (fun hy => h ⟨hx, hy⟩)
    clear hx h
    go_enter Try.func24, Try.ntmps24
    go_wp2_with (go_at_call 49; (first | (with_reducible refine (v1 _).mono ?_) | (with_reducible refine (v2 _).mono ?_)); rintro e w' ⟨rfl, n, rfl⟩)
    go_returns
    exact ⟨rfl, grown_drewN_of (by go_grown) _⟩
  · have v1 := isVector_no x0 x1 x2 hx
    clear hx h
    go_enter Try.func24, Try.ntmps24
    go_wp2_with (go_at_call 49; (with_reducible refine (v1 _).mono ?_); rintro e w' ⟨rfl, n, rfl⟩)
    go_returns
    exact ⟨rfl, grown_drewN_of (by go_grown) _⟩
end Go.Proofs.Ytbojaddojhemeaa
