/- Walks: FloatAt, program and reference, and the law's comparison. -/
import Derived.Test.YtbojaddojhemeaaWd
namespace Go.Proofs.Ytbojaddojhemeaa
open Ieee Go.Flt Go.RowKit

/-- The quotient of 1 and a zero. -/
theorem one_over_zero {x : Nat} {s : Bool} (h : IsD x s 0) : floatBits .quo .f64 4607182418800017408 x = some (double.word s double.infRung) := by
  show double.div _ _ = _
  have h1 : double.read 4607182418800017408 = .number false (2 ^ 52) (0 - 52) := by
    rw [← pw0]; exact read_pw (by omega) (by omega)
  obtain ⟨m, e, hr, _, hu⟩ := double.read_fin h.fin
  rw [h.neg] at hr
  rw [h.units] at hu
  have hm : m = 0 := by
    rcases Nat.mul_eq_zero.1 hu with h' | h'
    · exact h'
    · have := Nat.two_pow_pos (e - double.leastPlace).toNat; omega
  subst hm
  unfold Format.div
  rw [h1, hr]
  cases s <;> rfl

theorem sameFloat_zero (x : Nat) (s : Bool) (h : IsD x s 0) (w : World) :
    Calls Try.prog 15 #[.float .f64 x, .float .f64 x] w fun e w' => e = .returned (.bool true) ∧ w = w' := by
  have h1 : (FloatKind.f64.format.order x x != some .eq) = false := isNaN_no h
  have h2 : (FloatKind.f64.format.order x 0 == some .eq) = true := by
    show (double.order x 0 == some .eq) = true
    rw [h.order zero_isD, beq_eq, decide_eq_true_eq]; unfold sg; cases s <;> simp
  have hq : ∀ t w, (binOp .quo t (.float .f64 4607182418800017408) (.float .f64 x)).run Try.prog w = .ok (.float .f64 (double.word s double.infRung)) w := fun t w => run_float_arith w .quo t .f64 _ _ _ (one_over_zero h)
  generalize double.word s double.infRung = y at hq
  clear h
  go_enter Try.func15, Try.ntmps15
  go_wp2
  all_goals (go_ret; exact ⟨bl (by simp), rfl⟩)
theorem sameFloat_other (x U : Nat) (s : Bool) (h : IsD x s U) (hU : U ≠ 0) (w : World) :
    Calls Try.prog 15 #[.float .f64 x, .float .f64 x] w fun e w' => e = .returned (.bool true) ∧ w = w' := by
  have h1 : (FloatKind.f64.format.order x x != some .eq) = false := isNaN_no h
  have h2 : (FloatKind.f64.format.order x 0 == some .eq) = false := by
    show (double.order x 0 == some .eq) = false
    rw [h.order zero_isD, beq_eq, decide_eq_false_iff_not]; unfold sg; cases s <;> simp <;> omega
  have h3 : (FloatKind.f64.format.order x x == some .eq) = true := by
    show (double.order x x == some .eq) = true
    rw [h.order h, beq_eq, decide_eq_true_eq]
  clear h hU
  go_enter Try.func15, Try.ntmps15
  go_wp2
  all_goals (go_ret; exact ⟨rfl, rfl⟩)
theorem sameFloat_any (x : Nat) {s : Bool} {U : Nat} (h : IsD x s U) (w : World) :
    Calls Try.prog 15 #[.float .f64 x, .float .f64 x] w fun e w' => e = .returned (.bool true) ∧ w = w' := by
  by_cases hU : U = 0
  · subst hU; exact sameFloat_zero x s h w
  · exact sameFloat_other x U s h hU w

/-- A number whose zero is positive. -/
def clr (x : Nat) : Nat := if single.rung x = 0 then 0 else x
theorem l00Float_fin (x : Nat) (hx : single.fin x) (w : World) :
    Calls Try.prog 40 #[.float .f32 x] w fun e w' => e = .returned (.float .f32 (clr x)) ∧ w = w' := by
  have hz := eq_zero hx
  by_cases h : single.rung x = 0
  · have hz : (FloatKind.f32.format.order x 0 == some .eq) = true := hz.trans (decide_eq_true h)
    have hc := Lib.hid (show clr x = 0 by unfold clr; rw [if_pos h])
    clear h hx
    go_enter Try.func40, Try.ntmps40
    go_wp2
    go_ret
    exact ⟨fl hc.out.symm, rfl⟩
  · have hz : (FloatKind.f32.format.order x 0 == some .eq) = false := hz.trans (decide_eq_false h)
    have hc := Lib.hid (show clr x = x by unfold clr; rw [if_neg h])
    clear h hx
    go_enter Try.func40, Try.ntmps40
    go_wp2
    go_ret
    exact ⟨fl hc.out.symm, rfl⟩

theorem sw_rung {p : Int} (h0 : -2139095039 ≤ p) (hs : p ≤ 2139095039) : single.rung (sw p) = p.natAbs := single.rung_word _ (show p.natAbs < 2147483648 by omega)
theorem sw_fin {p : Int} (h0 : -2139095039 ≤ p) (hs : p ≤ 2139095039) : single.fin (sw p) := single.fin_word _ (show p.natAbs < 2139095040 by omega)
theorem clr_sw {p : Int} (h0 : -2139095039 ≤ p) (hs : p ≤ 2139095039) : clr (sw p) = sw p := by
  unfold clr
  rw [sw_rung h0 hs]
  split
  · have : p = 0 := by omega
    subst this; rfl
  · rfl
theorem sw_lt {p : Int} (h0 : -2139095039 ≤ p) (hs : p ≤ 2139095039) : sw p < 4294967296 := single.word_lt _ (show p.natAbs < 2147483648 by omega)

theorem s0FloatAt_yes (p : Int) (h0 : -2139095039 ≤ p) (hs : p ≤ 2139095039) (w : World) :
    Calls Try.prog 39 #[.int .i64 p] w fun e w' => e = .returned (.tuple #[.float .f32 (sw p), .int .i64 0]) ∧ w = w' := by
  have c1 := l01In_yes p _ _ h0 hs
  have c2 := l01Float_any p h0 hs
  go_enter Try.func39, Try.ntmps39
  go_wp2_with (first | (go_at_call 74; (with_reducible refine (c1 _).mono ?_); rintro e w' ⟨rfl, rfl⟩) | (go_at_call 73; (with_reducible refine (c2 _).mono ?_); rintro e w' ⟨rfl, rfl⟩))
  go_ret2
  exact ⟨rfl, rfl⟩
theorem s0FloatAt_no (p : Int) (h : p < -2139095039 ∨ 2139095039 < p) (w : World) :
    Calls Try.prog 39 #[.int .i64 p] w fun e w' => e = .returned (.tuple #[.float .f32 0, .int .i64 2]) ∧ w = w' := by
  have c1 := l01In_no p _ _ h
  clear h
  go_enter Try.func39, Try.ntmps39
  go_wp2_with (go_at_call 74; (with_reducible refine (c1 _).mono ?_); rintro e w' ⟨rfl, rfl⟩)
  go_ret2
  exact ⟨rfl, rfl⟩
theorem sFloatAt_yes (p : Int) (h0 : -2139095039 ≤ p) (hs : p ≤ 2139095039) (w : World) :
    Calls Try.prog 13 #[.int .i64 p] w fun e w' => e = .returned (.tuple #[.float .f32 (sw p), .int .i64 0]) ∧ w = w' := by
  have c1 := s0FloatAt_yes p h0 hs
  have c2 := l00Float_fin (sw p) (sw_fin h0 hs)
  rw [clr_sw h0 hs] at c2
  generalize sw p = x at c1 c2
  clear h0 hs
  go_enter Try.func13, Try.ntmps13
  go_wp2_with (first | (go_at_call 39; (with_reducible refine (c1 _).mono ?_); rintro e w' ⟨rfl, rfl⟩) | (go_at_call 40; (with_reducible refine (c2 _).mono ?_); rintro e w' ⟨rfl, rfl⟩))
  go_ret2
  exact ⟨rfl, rfl⟩
theorem sFloatAt_no (p : Int) (h : p < -2139095039 ∨ 2139095039 < p) (w : World) :
    Calls Try.prog 13 #[.int .i64 p] w fun e w' => e = .returned (.tuple #[.float .f32 0, .int .i64 2]) ∧ w = w' := by
  have c1 := s0FloatAt_no p h
  have c2 := l00Float_fin 0 fin_zero
  rw [show clr 0 = 0 from rfl] at c2
  clear h
  go_enter Try.func13, Try.ntmps13
  go_wp2_with (first | (go_at_call 39; (with_reducible refine (c1 _).mono ?_); rintro e w' ⟨rfl, rfl⟩) | (go_at_call 40; (with_reducible refine (c2 _).mono ?_); rintro e w' ⟨rfl, rfl⟩))
  go_ret2
  exact ⟨rfl, rfl⟩
theorem iFloatAt_yes (p : Int) (h0 : -2139095039 ≤ p) (hs : p ≤ 2139095039) (w : World) :
    Calls Try.prog 14 #[.int .i64 p] w fun e w' => e = .returned (.tuple #[.float .f32 (sw p), .int .i64 0]) ∧ w = w' := by
  have c1 := within_yes p _ _ h0 hs
  have c2 := floatAt_any p h0 hs
  go_enter Try.func14, Try.ntmps14
  go_wp2_with (first | (go_at_call 41; (with_reducible refine (c1 _).mono ?_); rintro e w' ⟨rfl, rfl⟩) | (go_at_call 42; (with_reducible refine (c2 _).mono ?_); rintro e w' ⟨rfl, rfl⟩))
  go_ret2
  exact ⟨rfl, rfl⟩
theorem iFloatAt_no (p : Int) (h : p < -2139095039 ∨ 2139095039 < p) (w : World) :
    Calls Try.prog 14 #[.int .i64 p] w fun e w' => e = .returned (.tuple #[.float .f32 0, .int .i64 2]) ∧ w = w' := by
  have c1 := within_no p _ _ h
  clear h
  go_enter Try.func14, Try.ntmps14
  go_wp2_with (go_at_call 41; (with_reducible refine (c1 _).mono ?_); rintro e w' ⟨rfl, rfl⟩)
  go_ret2
  exact ⟨rfl, rfl⟩

theorem run_widen_fin (x : Nat) (hx : single.fin x) (w : World) : (convert 23 27 (.float .f32 x)).run Try.prog w = .ok (.float .f64 (wid x)) w :=
  run_convert_float_float w 23 27 .f32 .f64 x (wid x) (by rw [Try.underlying23]; rfl) Try.underlying27 (conv_widen_fin hx)

theorem fnFloatAt (p : Int) (w : World) :
    Calls Try.prog 4 #[.int .i64 p] w fun e w' => e = .returned (.bool true) ∧ w = w' := by
  by_cases h : -2139095039 ≤ p ∧ p ≤ 2139095039
  · have c1 := sFloatAt_yes p h.1 h.2
    have c2 := iFloatAt_yes p h.1 h.2
    have hc := run_widen_fin _ (sw_fin h.1 h.2)
    have c3 := sameFloat_any _ (wid_isD (sw_fin h.1 h.2) rfl)
    generalize sw p = x at c1 c2 c3 hc
    generalize wid x = y at c3 hc
    clear h
    go_enter Try.func4, Try.ntmps4
    go_wp2_with (first | (go_at_call 13; (with_reducible refine (c1 _).mono ?_); rintro e w' ⟨rfl, rfl⟩) | (go_at_call 14; (with_reducible refine (c2 _).mono ?_); rintro e w' ⟨rfl, rfl⟩) | (go_at_call 15; (with_reducible refine (c3 _).mono ?_); rintro e w' ⟨rfl, rfl⟩))
    go_ret
    exact ⟨rfl, rfl⟩
  · have c1 := sFloatAt_no p (by omega)
    have c2 := iFloatAt_no p (by omega)
    have hc := run_widen_fin 0 fin_zero
    have c3 := sameFloat_any _ (wid_isD fin_zero rfl)
    generalize wid 0 = y at c3 hc
    clear h
    go_enter Try.func4, Try.ntmps4
    go_wp2_with (first | (go_at_call 13; (with_reducible refine (c1 _).mono ?_); rintro e w' ⟨rfl, rfl⟩) | (go_at_call 14; (with_reducible refine (c2 _).mono ?_); rintro e w' ⟨rfl, rfl⟩) | (go_at_call 15; (with_reducible refine (c3 _).mono ?_); rintro e w' ⟨rfl, rfl⟩))
    go_ret
    exact ⟨rfl, rfl⟩
end Go.Proofs.Ytbojaddojhemeaa
