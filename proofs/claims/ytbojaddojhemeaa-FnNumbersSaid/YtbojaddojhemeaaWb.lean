/- Walks: places and the numbers at them. -/
import Derived.Test.YtbojaddojhemeaaWa
import Derived.Test.YtbojaddojhemeaaPla
namespace Go.Proofs.Ytbojaddojhemeaa
open Ieee Go.Flt Go.RowKit

theorem l01Two_at (k : Int) (z : Nat) (hz : pw k = z) (h0 : -1021 ≤ k) (h1 : k ≤ 1022) (w : World) :
    Calls Try.prog 76 #[.int .i64 k] w fun e w' => e = .returned (.float .f64 z) ∧ w = w' := by
  subst hz; exact l01Two_any k h0 h1 w

theorem l01Float_small (p : Int) (h0 : 0 ≤ p) (hs : p < 8388608) (w : World) :
    Calls Try.prog 73 #[.int .i64 p] w fun e w' => e = .returned (.float .f32 p.toNat) ∧ w = w' := by
  obtain ⟨y, hy1, hy2⟩ := float_small (p := p.toNat) (by omega)
  rw [Int.toNat_of_nonneg h0] at hy1
  have hm : ∀ t w, (binOp .mul t (.float .f64 (floatOfInt .f64 p)) (.float .f64 (pw (-149)))).run Try.prog w = .ok (.float .f64 y) w := fun t w => run_float_arith w .mul t .f64 _ _ _ hy1
  have hc : ∀ w, (convert 27 23 (.float .f64 y)).run Try.prog w = .ok (.float .f32 p.toNat) w := fun w => run_convert_float_float w 27 23 .f64 .f32 y _ (by rw [Try.underlying27]; rfl) Try.underlying23 hy2
  clear hy1 hy2
  go_enter Try.func73, Try.ntmps73
  go_wp2_with (go_at_call 76; refine (l01Two_any _ (by omega) (by omega) _).mono ?_; rintro e w' ⟨rfl, rfl⟩)
  go_ret
  exact ⟨rfl, rfl⟩

theorem l01Float_big (p : Int) (h0 : 8388608 ≤ p) (hs : p < 2139095040) (w : World) :
    Calls Try.prog 73 #[.int .i64 p] w fun e w' => e = .returned (.float .f32 p.toNat) ∧ w = w' := by
  obtain ⟨y, hy1, hy2⟩ := float_big (p := p.toNat) (by omega) (by omega)
  have e1 : ((p.toNat % 8388608 + 8388608 : Nat) : Int) = p % 8388608 + 8388608 := by omega
  have e2 : ((p.toNat / 8388608 : Nat) : Int) = p / 8388608 := by omega
  rw [e1, e2] at hy1
  clear e1 e2
  have hm : ∀ t w, (binOp .mul t (.float .f64 (floatOfInt .f64 (p % 8388608 + 8388608))) (.float .f64 (pw (p / 8388608 - 127 - 23)))).run Try.prog w = .ok (.float .f64 y) w := fun t w => run_float_arith w .mul t .f64 _ _ _ hy1
  have hc : ∀ w, (convert 27 23 (.float .f64 y)).run Try.prog w = .ok (.float .f32 p.toNat) w := fun w => run_convert_float_float w 27 23 .f64 .f32 y _ (by rw [Try.underlying27]; rfl) Try.underlying23 hy2
  clear hy1 hy2
  go_enter Try.func73, Try.ntmps73
  go_wp2_with (go_at_call 76; refine (l01Two_any _ (by omega) (by omega) _).mono ?_; rintro e w' ⟨rfl, rfl⟩)
  go_ret
  exact ⟨rfl, rfl⟩

theorem l01Float_nonneg (p : Int) (h0 : 0 ≤ p) (hs : p ≤ 2139095039) (w : World) :
    Calls Try.prog 73 #[.int .i64 p] w fun e w' => e = .returned (.float .f32 p.toNat) ∧ w = w' := by
  by_cases h : p < 8388608
  · exact l01Float_small p h0 h w
  · exact l01Float_big p (by omega) (by omega) w

theorem sw_nonneg {p : Int} (h0 : 0 ≤ p) : sw p = p.toNat := by
  obtain ⟨n, rfl⟩ := Int.eq_ofNat_of_zero_le h0
  exact sw_of
theorem neg_word {p : Int} (h0 : p < 0) (hs : -2139095039 ≤ p) : Op.negFloat .f32 (-p).toNat = sw p := by
  obtain ⟨n, hn⟩ := Int.eq_ofNat_of_zero_le (show 0 ≤ -p by omega)
  have : p = -(n : Int) := by omega
  subst this
  rw [sw_neg (by omega), Int.neg_neg, Int.toNat_natCast]
  exact negFloat32 (s := false) (R := n) (by omega)

theorem l01Float_any (p : Int) (h0 : -2139095039 ≤ p) (hs : p ≤ 2139095039) (w : World) :
    Calls Try.prog 73 #[.int .i64 p] w fun e w' => e = .returned (.float .f32 (sw p)) ∧ w = w' := by
  by_cases h : p < 0
  · have hn := Lib.hid (neg_word h h0)
    go_enter Try.func73, Try.ntmps73
    go_wp2_with (go_at_call 73; refine (l01Float_nonneg _ (by omega) (by omega) _).mono ?_; rintro e w' ⟨rfl, rfl⟩)
    go_ret
    exact ⟨fl hn.out, rfl⟩
  · have := l01Float_nonneg p (by omega) hs w
    rw [sw_nonneg (by omega)]
    exact this

theorem int_eq {k : IntKind} {a b : Int} (h : a = b) : Ending.returned (.int k a) = .returned (.int k b) := by rw [h]

theorem l01Bits_small (x : Nat) (hx : single.fin x) (h0 : ¬ plc x < 0) (hR : single.rung x < 8388608) (w : World) :
    Calls Try.prog 44 #[.float .f32 x] w fun e w' => e = .returned (.int .i64 (plc x)) ∧ w = w' := by
  obtain ⟨y, hy1, hy2⟩ := bits_small hx h0 hR
  have ht : (FloatKind.f64.format.order (wid x) (pw (-126)) == some .lt) = true := (bits_small_test hx h0).trans (decide_eq_true hR)
  have hz : (FloatKind.f64.format.order (wid x) 0 == some .lt) = false := (wid_lt_zero hx).trans (decide_eq_false h0)
  have hw : ∀ w, (convert 23 27 (.float .f32 x)).run Try.prog w = .ok (.float .f64 (wid x)) w := fun w => run_convert_float_float w 23 27 .f32 .f64 x (wid x) (by rw [Try.underlying23]; rfl) Try.underlying27 (conv_widen_fin hx)
  have hm : ∀ t w, (binOp .mul t (.float .f64 (wid x)) (.float .f64 (pw 149))).run Try.prog w = .ok (.float .f64 y) w := fun t w => run_float_arith w .mul t .f64 _ _ _ hy1
  have hc : ∀ w, (convert 27 2 (.float .f64 y)).run Try.prog w = .ok (.int .i64 (plc x)) w := fun w => run_convert_float_int w 27 2 .f64 .i64 y _ (by rw [Try.underlying27]; rfl) Try.underlying2 hy2
  clear hy1 hy2 hx h0 hR
  go_enter Try.func44, Try.ntmps44
  go_wp2_with (go_at_call 76; refine (l01Two_any _ (by omega) (by omega) _).mono ?_; rintro e w' ⟨rfl, rfl⟩)
  go_ret
  exact ⟨rfl, rfl⟩

theorem l01Bits_big (x : Nat) (hx : single.fin x) (h0 : ¬ plc x < 0) (hR : 8388608 ≤ single.rung x) (w : World) :
    Calls Try.prog 44 #[.float .f32 x] w fun e w' => e = .returned (.int .i64 (plc x)) ∧ w = w' := by
  obtain ⟨y, hy1, hy2⟩ := bits_big hx h0 hR
  have ht : (FloatKind.f64.format.order (wid x) (pw (-126)) == some .lt) = false := (bits_small_test hx h0).trans (decide_eq_false (by omega))
  have hz : (FloatKind.f64.format.order (wid x) 0 == some .lt) = false := (wid_lt_zero hx).trans (decide_eq_false h0)
  have hfin : single.rung x < 2139095040 := hx
  have hw : ∀ w, (convert 23 27 (.float .f32 x)).run Try.prog w = .ok (.float .f64 (wid x)) w := fun w => run_convert_float_float w 23 27 .f32 .f64 x (wid x) (by rw [Try.underlying23]; rfl) Try.underlying27 (conv_widen_fin hx)
  have hm : ∀ t w, (binOp .quo t (.float .f64 (wid x)) (.float .f64 (pw (-126 + ((single.rung x / 8388608 - 1 : Nat) : Int) - 23)))).run Try.prog w = .ok (.float .f64 y) w := fun t w => run_float_arith w .quo t .f64 _ _ _ hy1
  have hc : ∀ w, (convert 27 2 (.float .f64 y)).run Try.prog w = .ok (.int .i64 ((single.rung x % 8388608 + 8388608 : Nat) : Int)) w := fun w => run_convert_float_int w 27 2 .f64 .i64 y _ (by rw [Try.underlying27]; rfl) Try.underlying2 hy2
  have hloop : ∀ i : Nat, i ≤ 254 → (FloatKind.f64.format.order (wid x) (pw (-126 + i + 1)) == some .gt || FloatKind.f64.format.order (wid x) (pw (-126 + i + 1)) == some .eq) = decide (i + 1 < single.rung x / 8388608) := fun i hi => bits_loop hx h0 hR hi
  have hp := (plc_nonneg h0).1
  clear hy1 hy2 hx h0
  obtain ⟨q, hq⟩ : ∃ q : Nat, single.rung x / 8388608 = q + 1 := ⟨single.rung x / 8388608 - 1, by omega⟩
  obtain ⟨M, hM⟩ : ∃ M : Nat, single.rung x % 8388608 = M := ⟨_, rfl⟩
  have hsum : plc x = (q : Int) * 8388608 + ((M + 8388608 : Nat) : Int) := by rw [hp]; omega
  have hq2 : q ≤ 253 := by omega
  have hM2 : M < 8388608 := by omega
  rw [hq, Nat.add_sub_cancel] at hm
  rw [hM] at hc
  simp only [hq] at hloop
  clear hq hM hp hfin hR
  have hsum := Lib.hid hsum
  have hloop := Lib.hid hloop
  go_enter Try.func44, Try.ntmps44
  go_wp2_with (go_at_call 76; refine (l01Two_any _ (by omega) (by omega) _).mono ?_; rintro e w' ⟨rfl, rfl⟩)
  go_loop [4] (fun t => ∃ i : Nat, i ≤ q ∧ t = .int .i64 (-126 + (i : Int))) (fun t => (128 - intOf t).toNat)
  case atStart => exact ⟨0, by omega, rfl⟩
  case round =>
    obtain ⟨i, hi, rfl⟩ := hrel
    have hl := hloop.out i (by omega)
    by_cases hlt : i < q
    · rw [decide_eq_true (by omega)] at hl
      go_wp2_with (go_at_call 76; refine (l01Two_any _ (by omega) (by omega) _).mono ?_; rintro e w' ⟨rfl, rfl⟩)
      go_round
      case rel => exact ⟨i + 1, by omega, by go_num⟩
      case measure => simp [intOf]; omega
    · rw [decide_eq_false (by omega)] at hl
      have : i = q := by omega
      subst this
      go_wp2_with (go_at_call 76; refine (l01Two_any _ (by omega) (by omega) _).mono ?_; rintro e w' ⟨rfl, rfl⟩)
      go_ret
      exact ⟨int_eq (by rw [hsum.out]; omega), rfl⟩
end Go.Proofs.Ytbojaddojhemeaa
