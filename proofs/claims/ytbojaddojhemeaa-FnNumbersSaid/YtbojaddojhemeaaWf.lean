/- Walks: the reference's root. -/
import Derived.Test.YtbojaddojhemeaaWe
import Derived.Test.YtbojaddojhemeaaRs
namespace Go.Proofs.Ytbojaddojhemeaa
open Ieee Go.Flt Go.RowKit

theorem l01Root_zero (x : Nat) (hx : single.fin x) (h0 : single.rung x = 0) (w : World) :
    Calls Try.prog 93 #[.float .f32 x] w fun e w' => e = .returned (.float .f32 0) ∧ w = w' := by
  have hz : (FloatKind.f32.format.order x 0 == some .eq) = true := (eq_zero hx).trans (decide_eq_true h0)
  clear hx h0
  go_enter Try.func93, Try.ntmps93
  go_wp2
  go_ret
  exact ⟨rfl, rfl⟩

set_option maxRecDepth 100000 in
set_option maxHeartbeats 1600000 in
theorem l01Root_pos (x : Nat) (hx : single.fin x) (h0 : 0 < plc x) (w : World) :
    Calls Try.prog 93 #[.float .f32 x] w fun e w' => e = .returned (.float .f32 (rt x)) ∧ w = w' := by
  have hr0 : single.rung x ≠ 0 := by have := (plc_nonneg (show ¬ plc x < 0 by omega)).1; omega
  have hz : (FloatKind.f32.format.order x 0 == some .eq) = false := (eq_zero hx).trans (decide_eq_false hr0)
  have hw := run_widen_fin x hx
  obtain ⟨M, C, hM0, hM, hC0, hC, hD⟩ := wid_short hx h0
  have t48 := l01Two_any 48 (by omega) (by omega)
  have t50 := l01Two_any 50 (by omega) (by omega)
  have hsteps := Lib.hid (show (0 < M ∧ M < 16777216) ∧ (900 ≤ C ∧ C ≤ 1180) ∧ IsD (wid x) false (M * 2 ^ C) from ⟨⟨hM0, hM⟩, ⟨hC0, hC⟩, hD⟩)
  have hup := Up.start hD
  clear hx h0 hr0 hM0 hM hC0 hC hD
  go_enter Try.func93, Try.ntmps93
  go_wp2_with fail
  go_loop [3, 4] (fun y t => ∃ (b : Nat) (k : Int), y = .float .f64 b ∧ t = .int .i64 k ∧ Up M C b k) (fun _ t => (600 - intOf t).toNat)
  case atStart => exact ⟨_, 0, rfl, rfl, hup⟩
  case round =>
    obtain ⟨b, k, rfl, rfl, hU⟩ := hrel
    clear hup
    have hkb := hU.bounds
    cases ht : (FloatKind.f64.format.order b (pw 48) == some .lt) with
    | true =>
      obtain ⟨b', hb', hU'⟩ := hU.step hsteps.out.1.2 hsteps.out.1.1 hsteps.out.2.1.2 ht
      have hkb' := hU'.bounds
      have hop : ∀ t w, (binOp .mul t (.float .f64 b) (.float .f64 4616189618054758400)).run Try.prog w = .ok (.float .f64 b') w := fun t w => run_float_arith w .mul t .f64 _ _ _ hb'
      clear hb' hU
      go_wp2_with (go_at_call 76; (with_reducible refine (t48 _).mono ?_); rintro e w' ⟨rfl, rfl⟩)
      go_round
      case rel => exact ⟨b', k + 1, rfl, rfl, hU'⟩
      case measure => simp [intOf]; omega
    | false =>
      have hDn := hU.stop ht
      clear hU
      go_wp2_with (go_at_call 76; (with_reducible refine (t48 _).mono ?_); rintro e w' ⟨rfl, rfl⟩)
      go_loop [3, 4] (fun y t => ∃ (b : Nat) (k : Int), y = .float .f64 b ∧ t = .int .i64 k ∧ Dn M C b k) (fun _ t => (intOf t + 1000).toNat)
      case atStart => exact ⟨b, k, rfl, rfl, hDn⟩
      case round =>
        clear hDn ht hkb
        obtain ⟨b, k, rfl, rfl, hU⟩ := hrel
        have hkb := hU.bounds
        cases ht : (FloatKind.f64.format.order b (pw 50) == some .gt || FloatKind.f64.format.order b (pw 50) == some .eq) with
        | true =>
          obtain ⟨b', hb', hU'⟩ := hU.step hsteps.out.1.2 hsteps.out.2.1.2 ht
          have hkb' := hU'.bounds
          have hop : ∀ t w, (binOp .quo t (.float .f64 b) (.float .f64 4616189618054758400)).run Try.prog w = .ok (.float .f64 b') w := fun t w => run_float_arith w .quo t .f64 _ _ _ hb'
          clear hb' hU
          go_wp2_with (go_at_call 76; (with_reducible refine (t50 _).mono ?_); rintro e w' ⟨rfl, rfl⟩)
          go_round
          case rel => exact ⟨b', k - 1, rfl, rfl, hU'⟩
          case measure => simp [intOf]; omega
        | false =>
          obtain ⟨n, hn, hn0, hn1, hk0, hk1, hroot⟩ := hU.stop hsteps.out.1.2 hsteps.out.2.1.1 hsteps.out.2.1.2 hsteps.out.2.2 ht
          have hc : ∀ w, (convert 27 2 (.float .f64 b)).run Try.prog w = .ok (.int .i64 n) w := fun w => run_convert_float_int w 27 2 .f64 .i64 b _ (by rw [Try.underlying27]; rfl) Try.underlying2 hn
          have hroot := Lib.hid hroot
          have hn1' : n < 1125899906842624 := hn1
          clear hU hn hn1
          go_wp2_with (go_at_call 76; (with_reducible refine (t50 _).mono ?_); rintro e w' ⟨rfl, rfl⟩)
          clear t48 t50 hc
          have hx2 : ∀ r : Int, 0 ≤ r → r * r ≤ n → n < (r + 1) * (r + 1) → ∃ y, floatBits .mul .f64 (floatOfInt .f64 ((evenRoot n.toNat r.toNat : Nat) : Int)) (pw (-k)) = some y ∧ floatToFloatBits .f64 y .f32 = some (rt x) := fun r h1 h2 h3 => by
            have hR := hroot.out r h1 h2 h3
            obtain ⟨y, hy1, hy2⟩ := root_back hR
            obtain ⟨_, _, _, hz⟩ := hR.root
            exact ⟨y, hy1, by rw [hz]; exact hy2⟩
          have hx2 := Lib.hid hx2
          clear hroot
          go_loop [6, 7] (fun r d => ∃ (ri di : Int), r = .int .i64 ri ∧ d = .int .i64 di ∧ Sq n ri di) (fun _ d => (intOf d).toNat)
          case atStart => exact ⟨0, 16777216, rfl, rfl, Sq.start hn0 hn1'⟩
          case round =>
            obtain ⟨r, d, rfl, rfl, hS⟩ := hrel
            obtain ⟨b1, b2, b3, b4, b5, b6⟩ := hS.bounds hn1'
            by_cases hd : 0 < d
            · by_cases hs : (r + d) * (r + d) ≤ n
              · have hS' := hS.take hd hs
                clear hS
                go_wp2
                go_round
                case rel => exact ⟨r + d, d / 2, rfl, rfl, hS'⟩
                case measure => simp [intOf]; omega
              · have hS' := hS.leave hd hs
                clear hS
                go_wp2
                go_round
                case rel => exact ⟨r, d / 2, rfl, rfl, hS'⟩
                case measure => simp [intOf]; omega
            · obtain ⟨hs1, hs2⟩ := hS.done hd
              obtain ⟨y, hy1, hy2⟩ := hx2.out r b1 hs1 hs2
              have hsq1 : 0 ≤ (r - r % 2 + 1) * (r - r % 2 + 1) := Int.mul_nonneg (by omega) (by omega)
              have hsq2 : (r - r % 2 + 1) * (r - r % 2 + 1) ≤ 33554432 * 33554432 := Int.mul_le_mul (by omega) (by omega) (by omega) (by omega)
              have hsq2 : (r - r % 2 + 1) * (r - r % 2 + 1) ≤ 1125899906842624 := hsq2
              have hc2 : ∀ w, (convert 27 23 (.float .f64 y)).run Try.prog w = .ok (.float .f32 (rt x)) w := fun w => run_convert_float_float w 27 23 .f64 .f32 y _ (by rw [Try.underlying27]; rfl) Try.underlying23 hy2
              have hT := l01Two_any (-k) (by omega) (by omega)
              by_cases he : (r - r % 2 + 1) * (r - r % 2 + 1) < n
              · rw [← even_up b1 hn0 he] at hy1
                have hop : ∀ t w, (binOp .mul t (.float .f64 (floatOfInt .f64 (r - r % 2 + 2))) (.float .f64 (pw (-k)))).run Try.prog w = .ok (.float .f64 y) w := fun t w => run_float_arith w .mul t .f64 _ _ _ hy1
                clear hy1 hy2 hS hs1 hs2 b5 b6
                go_wp2_with (go_at_call 76; (with_reducible refine (hT _).mono ?_); rintro e w' ⟨rfl, rfl⟩)
                go_ret
                exact ⟨rfl, rfl⟩
              · rw [← even_stay b1 hn0 he] at hy1
                have hop : ∀ t w, (binOp .mul t (.float .f64 (floatOfInt .f64 (r - r % 2))) (.float .f64 (pw (-k)))).run Try.prog w = .ok (.float .f64 y) w := fun t w => run_float_arith w .mul t .f64 _ _ _ hy1
                clear hy1 hy2 hS hs1 hs2 b5 b6
                go_wp2_with (go_at_call 76; (with_reducible refine (hT _).mono ?_); rintro e w' ⟨rfl, rfl⟩)
                go_ret
                exact ⟨rfl, rfl⟩
end Go.Proofs.Ytbojaddojhemeaa
