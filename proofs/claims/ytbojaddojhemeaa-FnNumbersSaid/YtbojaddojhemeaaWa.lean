/- Walks: numbers, places, powers of two. -/
import Derived.Test.YtbojaddojhemeaaChecked
import Derived.Test.YtbojaddojhemeaaFlt
import Derived.WalkKit
import Derived.WalkLawsBesides
import Derived.LoopTactic
import Derived.Outline
import Derived.Lib.Hide
import Derived.KernelRfl
namespace Go.Proofs.Ytbojaddojhemeaa
open Ieee Go.Flt Go.RowKit

/- The functions without bodies. -/
theorem call_f32frombits (n : Int) (w : World) : (callFunc 75 #[.int .u32 n]).run Try.prog w = .ok (.value (.float .f32 n.toNat)) w :=
  run_callFunc_extern (e := Extern.MathFloatBits.float32frombits) Try.func75 (by kernel_rfl) (by kernel_rfl) (by kernel_rfl) (by kernel_rfl) _ _
theorem call_f32bits (x : Nat) (w : World) : (callFunc 79 #[.float .f32 x]).run Try.prog w = .ok (.value (.int .u32 x)) w :=
  run_callFunc_extern (e := Extern.MathFloatBits.float32bits) Try.func79 (by kernel_rfl) (by kernel_rfl) (by kernel_rfl) (by kernel_rfl) _ _
theorem call_f64frombits (n : Int) (w : World) : (callFunc 98 #[.int .u64 n]).run Try.prog w = .ok (.value (.float .f64 n.toNat)) w :=
  run_callFunc_extern (e := Extern.MathFloatBits.float64frombits) Try.func98 (by kernel_rfl) (by kernel_rfl) (by kernel_rfl) (by kernel_rfl) _ _
theorem call_f64bits (x : Nat) (w : World) : (callFunc 99 #[.float .f64 x]).run Try.prog w = .ok (.value (.int .u64 x)) w :=
  run_callFunc_extern (e := Extern.MathFloatBits.float64bits) Try.func99 (by kernel_rfl) (by kernel_rfl) (by kernel_rfl) (by kernel_rfl) _ _

theorem abs_any (x : Nat) (hx : x < 18446744073709551616) (w : World) :
    Calls Try.prog 80 #[.float .f64 x] w fun e w' => e = .returned (.float .f64 (x % 9223372036854775808)) ∧ w = w' := by
  have h1 := call_f64bits
  have h2 := call_f64frombits
  have h3 := Lib.hid (andNot_sign hx)
  clear hx
  go_enter Try.func80, Try.ntmps80
  go_wp2
  go_ret
  rw [h3.out]
  exact ⟨rfl, rfl⟩

theorem isNaN_any (x : Nat) (w : World) :
    Calls Try.prog 77 #[.float .f64 x] w fun e w' => e = .returned (.bool (double.order x x != some .eq)) ∧ w = w' := by
  go_enter Try.func77, Try.ntmps77
  go_wp2
  go_ret
  exact ⟨rfl, rfl⟩

theorem isInf_any (x : Nat) (hx : x < 18446744073709551616) (w : World) :
    Calls Try.prog 78 #[.float .f64 x, .int .i64 0] w fun e w' => e = .returned (.bool (double.order (x % 9223372036854775808) 9218868437227405311 == some .gt)) ∧ w = w' := by
  have hx := Lib.hid hx
  go_enter Try.func78, Try.ntmps78
  go_wp2_with (go_at_call 80; refine (abs_any _ hx.out _).mono ?_; rintro e w' ⟨rfl, rfl⟩)
  go_ret
  exact ⟨rfl, rfl⟩

/- What the two tests say of a widened number, of a widened infinity. -/
theorem isNaN_no {x : Nat} {s : Bool} {U : Nat} (h : IsD x s U) : (double.order x x != some .eq) = false := by
  rw [h.order h, bne_eq]; simp
theorem max_isD : IsD 9218868437227405311 false (double.units 9218868437227405311) := IsD.word (s := false) (R := 9218868437227405311) (by decide)
theorem isInf_no {x : Nat} {s : Bool} {U : Nat} (h : IsD x s U) : (double.order (x % 9223372036854775808) 9218868437227405311 == some .gt) = false := by
  have ha := abs_isD h
  rw [ha.order max_isD, beq_gt]
  have hle : double.rung x ≤ 9218868437227405311 := by
    have h1 := h.fin
    unfold Format.fin at h1
    have : double.infRung = 9218868437227405312 := by decide
    omega
  have := double.units_le hle
  rw [h.units] at this
  simp [sg]
  omega
theorem isInf_yes {x : Nat} (h : double.rung x = double.infRung) : (double.order (x % 9223372036854775808) 9218868437227405311 == some .gt) = true := by
  have h0 : x % 9223372036854775808 = double.infRung := h
  rw [h0]
  have h1 : double.read double.infRung = .infinity false := read_inf64 (by decide)
  obtain ⟨m, e, h2, _⟩ := double.read_fin max_isD.fin
  unfold Format.order
  rw [h1, h2]
  rfl
theorem isNaN_inf {x : Nat} (h : double.rung x = double.infRung) : (double.order x x != some .eq) = false := by
  unfold Format.order
  rw [read_inf64 h]
  cases double.negb x <;> rfl

theorem isNumber_fin (x : Nat) (hx : single.fin x) (w : World) :
    Calls Try.prog 45 #[.float .f32 x] w fun e w' => e = .returned (.bool true) ∧ w = w' := by
  have hD := wid_isD hx rfl
  have hc : ∀ w, (convert 23 27 (.float .f32 x)).run Try.prog w = .ok (.float .f64 (wid x)) w := fun w => run_convert_float_float w 23 27 .f32 .f64 x (wid x) (by rw [Try.underlying23]; rfl) Try.underlying27 (conv_widen_fin hx)
  have h1 := isNaN_no hD
  have h2 := isInf_no hD
  have hl := Lib.hid hD.lt
  clear hD hx
  go_enter Try.func45, Try.ntmps45
  go_wp2_with (first | (go_at_call 77; refine (isNaN_any _ _).mono ?_; rintro e w' ⟨rfl, rfl⟩) | (go_at_call 78; refine (isInf_any _ hl.out _).mono ?_; rintro e w' ⟨rfl, rfl⟩))
  go_ret
  exact ⟨rfl, rfl⟩

theorem isNumber_inf (x : Nat) (hx : single.rung x = single.infRung) (w : World) :
    Calls Try.prog 45 #[.float .f32 x] w fun e w' => e = .returned (.bool false) ∧ w = w' := by
  have hr : double.rung (double.word (single.negb x) double.infRung) = double.infRung := double.rung_word _ double.infRung_lt
  have hc : ∀ w, (convert 23 27 (.float .f32 x)).run Try.prog w = .ok (.float .f64 (double.word (single.negb x) double.infRung)) w := fun w => run_convert_float_float w 23 27 .f32 .f64 x _ (by rw [Try.underlying23]; rfl) Try.underlying27 (conv_widen_inf hx)
  have hl := Lib.hid (double.word_lt (single.negb x) double.infRung_lt)
  generalize double.word (single.negb x) double.infRung = y at hr hc hl
  have h1 := isNaN_inf hr
  have h2 := isInf_yes hr
  clear hr hx
  go_enter Try.func45, Try.ntmps45
  go_wp2_with (first | (go_at_call 77; refine (isNaN_any _ _).mono ?_; rintro e w' ⟨rfl, rfl⟩) | (go_at_call 78; refine (isInf_any _ hl.out _).mono ?_; rintro e w' ⟨rfl, rfl⟩))
  go_ret
  exact ⟨rfl, rfl⟩

theorem isNumber_nan (x : Nat) (hx : single.infRung < single.rung x) (w : World) :
    Calls Try.prog 45 #[.float .f32 x] w fun e w' => e = .returned (.bool false) ∧ w.drewN 1 = w' := by
  obtain ⟨b, hb, hn, hc⟩ := run_widen_nan (P := Try.prog) (src := 23) (dst := 27) Try.underlying23 Try.underlying27 hx w
  have h1 : (double.order b b != some .eq) = true := by rw [order_nan64 hn]; rfl
  clear hb hn hx
  go_enter Try.func45, Try.ntmps45
  go_wp2_with (go_at_call 77; refine (isNaN_any _ _).mono ?_; rintro e w' ⟨rfl, rfl⟩)
  go_ret
  exact ⟨rfl, rfl⟩

theorem isNumber_any (x : Nat) (w : World) :
    Calls Try.prog 45 #[.float .f32 x] w fun e w' => e = .returned (.bool (isFin x)) ∧ ∃ n, w.drewN n = w' := by
  rcases class32 x with h | h | h
  · exact (isNumber_fin x h w).mono fun e w' ⟨he, hw⟩ => ⟨by rw [isFin_true h]; exact he, 0, hw⟩
  · exact (isNumber_inf x h w).mono fun e w' ⟨he, hw⟩ => ⟨by rw [isFin_false (by unfold Format.fin; omega)]; exact he, 0, hw⟩
  · exact (isNumber_nan x h w).mono fun e w' ⟨he, hw⟩ => ⟨by rw [isFin_false (by unfold Format.fin; omega)]; exact he, 1, hw⟩

theorem l01Fine_fin (x : Nat) (hx : single.fin x) (w : World) :
    Calls Try.prog 43 #[.float .f32 x] w fun e w' => e = .returned (.bool true) ∧ w = w' := by
  have hop : ∀ t w, (binOp .sub t (.float .f32 x) (.float .f32 x)).run Try.prog w = .ok (.float .f32 0) w := fun t w => run_float_arith w .sub t .f32 x x 0 (sub_self_fin hx)
  have hz : (single.order 0 0 == some .eq) = true := by rw [eq_zero fin_zero]; rfl
  clear hx
  go_enter Try.func43, Try.ntmps43
  go_wp2
  go_ret
  exact ⟨by rw [← hz]; rfl, rfl⟩
theorem l01Fine_not (x : Nat) (hx : ¬ single.fin x) (w : World) :
    Calls Try.prog 43 #[.float .f32 x] w fun e w' => e = .returned (.bool false) ∧ w.drewN 1 = w' := by
  obtain ⟨b, hb, hn, hop⟩ := run_arith_none (P := Try.prog) .sub 23 (sub_self_not hx) (.inr (.inl rfl)) w
  have hz : (single.order b 0 == some .eq) = false := by rw [order_nan32 hn]; rfl
  clear hx hb hn
  go_enter Try.func43, Try.ntmps43
  go_wp2
  go_ret
  exact ⟨by rw [← hz]; rfl, rfl⟩
theorem l01Fine_any (x : Nat) (w : World) :
    Calls Try.prog 43 #[.float .f32 x] w fun e w' => e = .returned (.bool (isFin x)) ∧ ∃ n, w.drewN n = w' := by
  by_cases h : single.fin x
  · exact (l01Fine_fin x h w).mono fun e w' ⟨he, hw⟩ => ⟨by rw [isFin_true h]; exact he, 0, hw⟩
  · exact (l01Fine_not x h w).mono fun e w' ⟨he, hw⟩ => ⟨by rw [isFin_false h]; exact he, 1, hw⟩

theorem fl {k : FloatKind} {a b : Nat} (h : a = b) : Ending.returned (.float k a) = .returned (.float k b) := by rw [h]

theorem l01Two_up (k : Int) (h0 : 0 ≤ k) (h1 : k ≤ 1022) (w : World) :
    Calls Try.prog 76 #[.int .i64 k] w fun e w' => e = .returned (.float .f64 (pw k)) ∧ w = w' := by
  have hp := pw0
  go_enter Try.func76, Try.ntmps76
  go_wp2
  go_loop [0, 3] (fun t o => ∃ j : Int, 0 ≤ j ∧ j ≤ k ∧ t = .int .i64 j ∧ o = .float .f64 (pw (k - j))) (fun t _ => (intOf t).toNat)
  case atStart => exact ⟨k, h0, by omega, rfl, by rw [Int.sub_self, hp]⟩
  case round =>
    obtain ⟨j, hj0, hj1, rfl, rfl⟩ := hrel
    by_cases hlt : 0 < j
    · have hop : ∀ t w, (binOp .mul t (.float .f64 (pw (k - j))) (.float .f64 4611686018427387904)).run Try.prog w = .ok (.float .f64 (pw (k - j + 1))) w := fun t w => run_float_arith w .mul t .f64 _ _ _ (mul_two (by omega) (by omega))
      clear hp
      go_wp2
      go_round
      case rel => exact ⟨j - 1, by omega, by omega, rfl, by rw [show k - (j - 1) = k - j + 1 from by omega]⟩
      case measure => simp [intOf]; omega
    · have : j = 0 := by omega
      subst this
      clear hp
      go_wp2
      go_loop [0, 3] (fun t o => t = .int .i64 0 ∧ o = .float .f64 (pw k)) (fun _ _ => 0)
      case atStart => exact ⟨rfl, by first | rfl | rw [Int.sub_zero]⟩
      case round =>
        obtain ⟨rfl, rfl⟩ := hrel
        go_wp2
        go_ret
        exact ⟨rfl, rfl⟩

theorem l01Two_down (k : Int) (h0 : k < 0) (h1 : -1021 ≤ k) (w : World) :
    Calls Try.prog 76 #[.int .i64 k] w fun e w' => e = .returned (.float .f64 (pw k)) ∧ w = w' := by
  have hp := pw0
  go_enter Try.func76, Try.ntmps76
  go_wp2
  go_loop [0, 3] (fun t o => t = .int .i64 k ∧ o = .float .f64 (pw 0)) (fun _ _ => 0)
  case atStart => exact ⟨rfl, by rw [hp]⟩
  case round =>
    obtain ⟨rfl, rfl⟩ := hrel
    clear hp
    go_wp2
    go_loop [0, 3] (fun t o => ∃ j : Int, j ≤ 0 ∧ k ≤ j ∧ t = .int .i64 j ∧ o = .float .f64 (pw (k - j))) (fun t _ => (-(intOf t)).toNat)
    case atStart => exact ⟨k, by omega, by omega, rfl, by rw [Int.sub_self]⟩
    case round =>
      obtain ⟨j, hj0, hj1, rfl, rfl⟩ := hrel
      by_cases hlt : j < 0
      · have hop : ∀ t w, (binOp .quo t (.float .f64 (pw (k - j))) (.float .f64 4611686018427387904)).run Try.prog w = .ok (.float .f64 (pw (k - j - 1))) w := fun t w => run_float_arith w .quo t .f64 _ _ _ (div_two (by omega) (by omega))
        go_wp2
        go_round
        case rel => exact ⟨j + 1, by omega, by omega, rfl, by rw [show k - (j + 1) = k - j - 1 from by omega]⟩
        case measure => simp [intOf]; omega
      · have : j = 0 := by omega
        subst this
        go_wp2
        go_ret
        exact ⟨by first | rfl | (refine fl ?_; show pw (k - 0) = _; rw [Int.sub_zero]), rfl⟩

theorem l01Two_any (k : Int) (h0 : -1021 ≤ k) (h1 : k ≤ 1022) (w : World) :
    Calls Try.prog 76 #[.int .i64 k] w fun e w' => e = .returned (.float .f64 (pw k)) ∧ w = w' := by
  by_cases h : k < 0
  · exact l01Two_down k h h0 w
  · exact l01Two_up k (by omega) h1 w
end Go.Proofs.Ytbojaddojhemeaa
