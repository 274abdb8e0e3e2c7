/- Numbers of the walks: what the statement on texts needs of the earlier texts. -/
import Derived.Test.YtobhhopfimnknaaDoorChecked
import Derived.Test.YtobhhopfimnknaaDoorPla
import Derived.WalkKit
import Derived.WalkLawsBesides
import Derived.LoopTactic
import Derived.Lib.Hide
import Derived.KernelRfl
import Derived.Handy
import Derived.Deep.RegionHeld3
import Derived.Deep.QuietTactic
import Derived.BigQuiet
namespace Go.Proofs.YtobhhopfimnknaaDoor
open Ieee Go.Flt Go.RowKit

theorem call_f32frombits (n : Int) (w : World) : (callFunc 27 #[.int .u32 n]).run Tryd.prog w = .ok (.value (.float .f32 n.toNat)) w :=
  run_callFunc_extern (e := Extern.MathFloatBits.float32frombits) Tryd.func27 (by kernel_rfl) (by kernel_rfl) (by kernel_rfl) (by kernel_rfl) _ _
theorem isNaN_no {x : Nat} {s : Bool} {U : Nat} (h : IsD x s U) : (double.order x x != some .eq) = false := by
  rw [h.order h, bne_eq]; simp
theorem fl {k : FloatKind} {a b : Nat} (h : a = b) : Ending.returned (.float k a) = .returned (.float k b) := by rw [h]
theorem l01Two_up (k : Int) (h0 : 0 ≤ k) (h1 : k ≤ 1022) (w : World) :
    Calls Tryd.prog 28 #[.int .i64 k] w fun e w' => e = .returned (.float .f64 (pw k)) ∧ w = w' := by
  have hp := pw0
  go_enter Tryd.func28, Tryd.ntmps28
  go_wp2
  go_loop [0, 3] (fun t o => ∃ j : Int, 0 ≤ j ∧ j ≤ k ∧ t = .int .i64 j ∧ o = .float .f64 (pw (k - j))) (fun t _ => (intOf t).toNat)
  case atStart => exact ⟨k, h0, by omega, rfl, by rw [Int.sub_self, hp]⟩
  case round =>
    obtain ⟨j, hj0, hj1, rfl, rfl⟩ := hrel
    by_cases hlt : 0 < j
    · have hop : ∀ t w, (binOp .mul t (.float .f64 (pw (k - j))) (.float .f64 4611686018427387904)).run Tryd.prog w = .ok (.float .f64 (pw (k - j + 1))) w := fun t w => run_float_arith w .mul t .f64 _ _ _ (mul_two (by omega) (by omega))
      clear hp
      go_wp2
      go_round
      case rel => exact ⟨j - 1, by omega, by omega, rfl, by rw [show k - (j - 1) = k - j + 1 from by omega]⟩
      case measure => simp [intOf]; omega
    · have : j = 0 := by omega
      subst this
      clear hp
      go_wp2
      go_loop [0, 3] (fun t o => t = .int .i64 0 ∧ o = .float .f64 (pw k)) (fun _ _ => 0)
      case atStart => exact ⟨rfl, by first | rfl | rw [Int.sub_zero]⟩
      case round =>
        obtain ⟨rfl, rfl⟩ := hrel
        go_wp2
        go_ret
        exact ⟨rfl, rfl⟩
theorem l01Two_down (k : Int) (h0 : k < 0) (h1 : -1021 ≤ k) (w : World) :
    Calls Tryd.prog 28 #[.int .i64 k] w fun e w' => e = .returned (.float .f64 (pw k)) ∧ w = w' := by
  have hp := pw0
  go_enter Tryd.func28, Tryd.ntmps28
  go_wp2
  go_loop [0, 3] (fun t o => t = .int .i64 k ∧ o = .float .f64 (pw 0)) (fun _ _ => 0)
  case atStart => exact ⟨rfl, by rw [hp]⟩
  case round =>
    obtain ⟨rfl, rfl⟩ := hrel
    clear hp
    go_wp2
    go_loop [0, 3] (fun t o => ∃ j : Int, j ≤ 0 ∧ k ≤ j ∧ t = .int .i64 j ∧ o = .float .f64 (pw (k - j))) (fun t _ => (-(intOf t)).toNat)
    case atStart => exact ⟨k, by omega, by omega, rfl, by rw [Int.sub_self]⟩
    case round =>
      obtain ⟨j, hj0, hj1, rfl, rfl⟩ := hrel
      by_cases hlt : j < 0
      · have hop : ∀ t w, (binOp .quo t (.float .f64 (pw (k - j))) (.float .f64 4611686018427387904)).run Tryd.prog w = .ok (.float .f64 (pw (k - j - 1))) w := fun t w => run_float_arith w .quo t .f64 _ _ _ (div_two (by omega) (by omega))
        go_wp2
        go_round
        case rel => exact ⟨j + 1, by omega, by omega, rfl, by rw [show k - (j + 1) = k - j - 1 from by omega]⟩
        case measure => simp [intOf]; omega
      · have : j = 0 := by omega
        subst this
        go_wp2
        go_ret
        exact ⟨by first | rfl | (refine fl ?_; show pw (k - 0) = _; rw [Int.sub_zero]), rfl⟩
theorem l01Two_any (k : Int) (h0 : -1021 ≤ k) (h1 : k ≤ 1022) (w : World) :
    Calls Tryd.prog 28 #[.int .i64 k] w fun e w' => e = .returned (.float .f64 (pw k)) ∧ w = w' := by
  by_cases h : k < 0
  · exact l01Two_down k h h0 w
  · exact l01Two_up k (by omega) h1 w
theorem l01Two_at (k : Int) (z : Nat) (hz : pw k = z) (h0 : -1021 ≤ k) (h1 : k ≤ 1022) (w : World) :
    Calls Tryd.prog 28 #[.int .i64 k] w fun e w' => e = .returned (.float .f64 z) ∧ w = w' := by
  subst hz; exact l01Two_any k h0 h1 w
theorem l01Float_small (p : Int) (h0 : 0 ≤ p) (hs : p < 8388608) (w : World) :
    Calls Tryd.prog 22 #[.int .i64 p] w fun e w' => e = .returned (.float .f32 p.toNat) ∧ w = w' := by
  obtain ⟨y, hy1, hy2⟩ := float_small (p := p.toNat) (by omega)
  rw [Int.toNat_of_nonneg h0] at hy1
  have hm : ∀ t w, (binOp .mul t (.float .f64 (floatOfInt .f64 p)) (.float .f64 (pw (-149)))).run Tryd.prog w = .ok (.float .f64 y) w := fun t w => run_float_arith w .mul t .f64 _ _ _ hy1
  have hc : ∀ w, (convert 32 33 (.float .f64 y)).run Tryd.prog w = .ok (.float .f32 p.toNat) w := fun w => run_convert_float_float w 32 33 .f64 .f32 y _ (by rw [Tryd.underlying32]; rfl) Tryd.underlying33 hy2
  clear hy1 hy2
  go_enter Tryd.func22, Tryd.ntmps22
  go_wp2_with (go_at_call 28; refine (l01Two_any _ (by omega) (by omega) _).mono ?_; rintro e w' ⟨rfl, rfl⟩)
  go_ret
  exact ⟨rfl, rfl⟩
theorem l01Float_big (p : Int) (h0 : 8388608 ≤ p) (hs : p < 2139095040) (w : World) :
    Calls Tryd.prog 22 #[.int .i64 p] w fun e w' => e = .returned (.float .f32 p.toNat) ∧ w = w' := by
  obtain ⟨y, hy1, hy2⟩ := float_big (p := p.toNat) (by omega) (by omega)
  have e1 : ((p.toNat % 8388608 + 8388608 : Nat) : Int) = p % 8388608 + 8388608 := by omega
  have e2 : ((p.toNat / 8388608 : Nat) : Int) = p / 8388608 := by omega
  rw [e1, e2] at hy1
  clear e1 e2
  have hm : ∀ t w, (binOp .mul t (.float .f64 (floatOfInt .f64 (p % 8388608 + 8388608))) (.float .f64 (pw (p / 8388608 - 127 - 23)))).run Tryd.prog w = .ok (.float .f64 y) w := fun t w => run_float_arith w .mul t .f64 _ _ _ hy1
  have hc : ∀ w, (convert 32 33 (.float .f64 y)).run Tryd.prog w = .ok (.float .f32 p.toNat) w := fun w => run_convert_float_float w 32 33 .f64 .f32 y _ (by rw [Tryd.underlying32]; rfl) Tryd.underlying33 hy2
  clear hy1 hy2
  go_enter Tryd.func22, Tryd.ntmps22
  go_wp2_with (go_at_call 28; refine (l01Two_any _ (by omega) (by omega) _).mono ?_; rintro e w' ⟨rfl, rfl⟩)
  go_ret
  exact ⟨rfl, rfl⟩
theorem l01Float_nonneg (p : Int) (h0 : 0 ≤ p) (hs : p ≤ 2139095039) (w : World) :
    Calls Tryd.prog 22 #[.int .i64 p] w fun e w' => e = .returned (.float .f32 p.toNat) ∧ w = w' := by
  by_cases h : p < 8388608
  · exact l01Float_small p h0 h w
  · exact l01Float_big p (by omega) (by omega) w
theorem sw_nonneg {p : Int} (h0 : 0 ≤ p) : sw p = p.toNat := by
  obtain ⟨n, rfl⟩ := Int.eq_ofNat_of_zero_le h0
  exact sw_of
theorem neg_word {p : Int} (h0 : p < 0) (hs : -2139095039 ≤ p) : Op.negFloat .f32 (-p).toNat = sw p := by
  obtain ⟨n, hn⟩ := Int.eq_ofNat_of_zero_le (show 0 ≤ -p by omega)
  have : p = -(n : Int) := by omega
  subst this
  rw [sw_neg (by omega), Int.neg_neg, Int.toNat_natCast]
  exact negFloat32 (s := false) (R := n) (by omega)
theorem l01Float_any (p : Int) (h0 : -2139095039 ≤ p) (hs : p ≤ 2139095039) (w : World) :
    Calls Tryd.prog 22 #[.int .i64 p] w fun e w' => e = .returned (.float .f32 (sw p)) ∧ w = w' := by
  by_cases h : p < 0
  · have hn := Lib.hid (neg_word h h0)
    go_enter Tryd.func22, Tryd.ntmps22
    go_wp2_with (go_at_call 22; refine (l01Float_nonneg _ (by omega) (by omega) _).mono ?_; rintro e w' ⟨rfl, rfl⟩)
    go_ret
    exact ⟨fl hn.out, rfl⟩
  · have := l01Float_nonneg p (by omega) hs w
    rw [sw_nonneg (by omega)]
    exact this
theorem int_eq {k : IntKind} {a b : Int} (h : a = b) : Ending.returned (.int k a) = .returned (.int k b) := by rw [h]
theorem floatAt_any (p : Int) (h0 : -2139095039 ≤ p) (hs : p ≤ 2139095039) (w : World) :
    Calls Tryd.prog 21 #[.int .i64 p] w fun e w' => e = .returned (.float .f32 (sw p)) ∧ w = w' := by
  have hb := call_f32frombits
  by_cases h : p < 0
  · have hn := Lib.hid (neg_word h h0)
    go_enter Tryd.func21, Tryd.ntmps21
    go_wp2
    all_goals (go_ret; exact ⟨fl hn.out, rfl⟩)
  · have hn := Lib.hid (sw_nonneg (p := p) (by omega))
    go_enter Tryd.func21, Tryd.ntmps21
    go_wp2
    all_goals (go_ret; exact ⟨fl hn.out.symm, rfl⟩)
theorem bl {a b : Bool} (h : a = b) : Ending.returned (.bool a) = .returned (.bool b) := by rw [h]
theorem within_yes (n a b : Int) (h1 : a ≤ n) (h2 : n ≤ b) (w : World) :
    Calls Tryd.prog 19 #[.int .i64 n, .int .i64 a, .int .i64 b] w fun e w' => e = .returned (.bool true) ∧ w = w' := by
  go_enter Tryd.func19, Tryd.ntmps19
  go_wp2
  go_ret
  exact ⟨rfl, rfl⟩
theorem within_no (n a b : Int) (h : n < a ∨ b < n) (w : World) :
    Calls Tryd.prog 19 #[.int .i64 n, .int .i64 a, .int .i64 b] w fun e w' => e = .returned (.bool false) ∧ w = w' := by
  by_cases h1 : n < a
  · clear h
    go_enter Tryd.func19, Tryd.ntmps19
    go_wp2
    go_ret
    exact ⟨rfl, rfl⟩
  · have h2 : b < n := by omega
    clear h
    go_enter Tryd.func19, Tryd.ntmps19
    go_wp2
    go_ret
    exact ⟨bl (decide_eq_false (by omega)), rfl⟩
/-- The quotient of 1 and a zero. -/
theorem one_over_zero {x : Nat} {s : Bool} (h : IsD x s 0) : floatBits .quo .f64 4607182418800017408 x = some (double.word s double.infRung) := by
  show double.div _ _ = _
  have h1 : double.read 4607182418800017408 = .number false (2 ^ 52) (0 - 52) := by
    rw [← pw0]; exact read_pw (by omega) (by omega)
  obtain ⟨m, e, hr, _, hu⟩ := double.read_fin h.fin
  rw [h.neg] at hr
  rw [h.units] at hu
  have hm : m = 0 := by
    rcases Nat.mul_eq_zero.1 hu with h' | h'
    · exact h'
    · have := Nat.two_pow_pos (e - double.leastPlace).toNat; omega
  subst hm
  unfold Format.div
  rw [h1, hr]
  cases s <;> rfl
theorem sameFloat_zero (x : Nat) (s : Bool) (h : IsD x s 0) (w : World) :
    Calls Tryd.prog 10 #[.float .f64 x, .float .f64 x] w fun e w' => e = .returned (.bool true) ∧ w = w' := by
  have h1 : (FloatKind.f64.format.order x x != some .eq) = false := isNaN_no h
  have h2 : (FloatKind.f64.format.order x 0 == some .eq) = true := by
    show (double.order x 0 == some .eq) = true
    rw [h.order zero_isD, beq_eq, decide_eq_true_eq]; unfold sg; cases s <;> simp
  have hq : ∀ t w, (binOp .quo t (.float .f64 4607182418800017408) (.float .f64 x)).run Tryd.prog w = .ok (.float .f64 (double.word s double.infRung)) w := fun t w => run_float_arith w .quo t .f64 _ _ _ (one_over_zero h)
  generalize double.word s double.infRung = y at hq
  clear h
  go_enter Tryd.func10, Tryd.ntmps10
  go_wp2
  all_goals (go_ret; exact ⟨bl (by simp), rfl⟩)
theorem sameFloat_other (x U : Nat) (s : Bool) (h : IsD x s U) (hU : U ≠ 0) (w : World) :
    Calls Tryd.prog 10 #[.float .f64 x, .float .f64 x] w fun e w' => e = .returned (.bool true) ∧ w = w' := by
  have h1 : (FloatKind.f64.format.order x x != some .eq) = false := isNaN_no h
  have h2 : (FloatKind.f64.format.order x 0 == some .eq) = false := by
    show (double.order x 0 == some .eq) = false
    rw [h.order zero_isD, beq_eq, decide_eq_false_iff_not]; unfold sg; cases s <;> simp <;> omega
  have h3 : (FloatKind.f64.format.order x x == some .eq) = true := by
    show (double.order x x == some .eq) = true
    rw [h.order h, beq_eq, decide_eq_true_eq]
  clear h hU
  go_enter Tryd.func10, Tryd.ntmps10
  go_wp2
  all_goals (go_ret; exact ⟨rfl, rfl⟩)
theorem sameFloat_any (x : Nat) {s : Bool} {U : Nat} (h : IsD x s U) (w : World) :
    Calls Tryd.prog 10 #[.float .f64 x, .float .f64 x] w fun e w' => e = .returned (.bool true) ∧ w = w' := by
  by_cases hU : U = 0
  · subst hU; exact sameFloat_zero x s h w
  · exact sameFloat_other x U s h hU w
/-- A number whose zero is positive. -/
def clr (x : Nat) : Nat := if single.rung x = 0 then 0 else x
theorem l00Float_fin (x : Nat) (hx : single.fin x) (w : World) :
    Calls Tryd.prog 12 #[.float .f32 x] w fun e w' => e = .returned (.float .f32 (clr x)) ∧ w = w' := by
  have hz := eq_zero hx
  by_cases h : single.rung x = 0
  · have hz : (FloatKind.f32.format.order x 0 == some .eq) = true := hz.trans (decide_eq_true h)
    have hc := Lib.hid (show clr x = 0 by unfold clr; rw [if_pos h])
    clear h hx
    go_enter Tryd.func12, Tryd.ntmps12
    go_wp2
    go_ret
    exact ⟨fl hc.out.symm, rfl⟩
  · have hz : (FloatKind.f32.format.order x 0 == some .eq) = false := hz.trans (decide_eq_false h)
    have hc := Lib.hid (show clr x = x by unfold clr; rw [if_neg h])
    clear h hx
    go_enter Tryd.func12, Tryd.ntmps12
    go_wp2
    go_ret
    exact ⟨fl hc.out.symm, rfl⟩
theorem sw_rung {p : Int} (h0 : -2139095039 ≤ p) (hs : p ≤ 2139095039) : single.rung (sw p) = p.natAbs := single.rung_word _ (show p.natAbs < 2147483648 by omega)
theorem sw_fin {p : Int} (h0 : -2139095039 ≤ p) (hs : p ≤ 2139095039) : single.fin (sw p) := single.fin_word _ (show p.natAbs < 2139095040 by omega)
theorem clr_sw {p : Int} (h0 : -2139095039 ≤ p) (hs : p ≤ 2139095039) : clr (sw p) = sw p := by
  unfold clr
  rw [sw_rung h0 hs]
  split
  · have : p = 0 := by omega
    subst this; rfl
  · rfl
theorem sw_lt {p : Int} (h0 : -2139095039 ≤ p) (hs : p ≤ 2139095039) : sw p < 4294967296 := single.word_lt _ (show p.natAbs < 2147483648 by omega)
theorem run_widen_fin (x : Nat) (hx : single.fin x) (w : World) : (convert 33 32 (.float .f32 x)).run Tryd.prog w = .ok (.float .f64 (wid x)) w :=
  run_convert_float_float w 33 32 .f32 .f64 x (wid x) (by rw [Tryd.underlying33]; rfl) Tryd.underlying32 (conv_widen_fin hx)
theorem ff (x : Nat) (hx : single.fin x) (w : World) : (Conv.floatToFloat .f32 x .f64).run Tryd.prog w = .ok (.float .f64 (wid x)) w := by
  have h := run_widen_fin x hx w
  simpa [convert, run_underlying Tryd.underlying33, run_underlying Tryd.underlying32] using h
theorem run_widen_complex (x y : Nat) (hx : single.fin x) (hy : single.fin y) (w : World) : (convert 22 26 (.complex .f32 x y)).run Tryd.prog w = .ok (.complex .f64 (wid x) (wid y)) w := by
  simp [convert, run_underlying Tryd.underlying22, run_underlying Tryd.underlying26, Conv.complexToComplex, ff x hx, ff y hy]
set_option maxRecDepth 100000 in
theorem sameComplex_self (x y U V : Nat) (s t : Bool) (hx : IsD x s U) (hy : IsD y t V) (w : World) :
    Calls Tryd.prog 6 #[.complex .f64 x y, .complex .f64 x y] w fun e w' => e = .returned (.bool true) ∧ w = w' := by
  have c1 := sameFloat_any x hx
  have c2 := sameFloat_any y hy
  clear hx hy
  go_enter Tryd.func6, Tryd.ntmps6
  go_wp2_with (go_at_call 10; (first | (with_reducible refine (c1 _).mono ?_) | (with_reducible refine (c2 _).mono ?_)); rintro e w' ⟨rfl, rfl⟩)
  go_ret
  exact ⟨rfl, rfl⟩
set_option maxRecDepth 100000 in
theorem complex0 (a b : Nat) (ha : single.fin a) (hb : single.fin b) (w : World) :
    Calls Tryd.prog 8 #[.complex .f32 a b] w fun e w' => e = .returned (.complex .f32 (clr a) (clr b)) ∧ w = w' := by
  have c1 := l00Float_fin a ha
  have c2 := l00Float_fin b hb
  clear ha hb
  go_enter Tryd.func8, Tryd.ntmps8
  go_wp2_with (go_at_call 12; (first | (with_reducible refine (c1 _).mono ?_) | (with_reducible refine (c2 _).mono ?_)); rintro e w' ⟨rfl, rfl⟩)
  go_ret
  exact ⟨rfl, rfl⟩
end Go.Proofs.YtobhhopfimnknaaDoor
