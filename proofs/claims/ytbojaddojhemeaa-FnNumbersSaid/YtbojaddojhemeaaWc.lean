/- Walks: places, the numbers at them, and the steps between: program and reference. -/
import Derived.Test.YtbojaddojhemeaaWb
namespace Go.Proofs.Ytbojaddojhemeaa
open Ieee Go.Flt Go.RowKit

theorem neg_of_place {x : Nat} (hx : x < 4294967296) (h : plc x < 0) : Op.negFloat .f32 x = single.rung x := by
  obtain ⟨h1, _⟩ := plc_neg h
  have e : x = single.word true (single.rung x) := by rw [← h1]; exact (single.word_of hx).symm
  have := negFloat32 (s := true) (R := single.rung x) (rung_lt x)
  rw [← e] at this
  exact this
theorem plc_rung (x : Nat) : plc (single.rung x) = (single.rung x : Int) := by
  have h := rung_lt x
  unfold plc
  rw [show single.negb (single.rung x) = false from single.negb_word false h, show single.rung (single.rung x) = single.rung x from single.rung_word false h]
  rfl
theorem fin_rung {x : Nat} (h : single.fin x) : single.fin (single.rung x) := single.fin_word false h

theorem l01Bits_nonneg (x : Nat) (hx : single.fin x) (h0 : ¬ plc x < 0) (w : World) :
    Calls Try.prog 44 #[.float .f32 x] w fun e w' => e = .returned (.int .i64 (plc x)) ∧ w = w' := by
  by_cases h : single.rung x < 8388608
  · exact l01Bits_small x hx h0 h w
  · exact l01Bits_big x hx h0 (by omega) w

theorem l01Bits_any (x : Nat) (hl : x < 4294967296) (hx : single.fin x) (w : World) :
    Calls Try.prog 44 #[.float .f32 x] w fun e w' => e = .returned (.int .i64 (plc x)) ∧ w = w' := by
  by_cases h0 : plc x < 0
  · have hp := plc_neg h0
    have hn := neg_of_place hl h0
    have hz : (FloatKind.f64.format.order (wid x) 0 == some .lt) = true := (wid_lt_zero hx).trans (decide_eq_true h0)
    have hw : ∀ w, (convert 23 27 (.float .f32 x)).run Try.prog w = .ok (.float .f64 (wid x)) w := fun w => run_convert_float_float w 23 27 .f32 .f64 x (wid x) (by rw [Try.underlying23]; rfl) Try.underlying27 (conv_widen_fin hx)
    have hc := l01Bits_nonneg (single.rung x) (fin_rung hx) (by rw [plc_rung]; omega)
    rw [plc_rung] at hc
    have hr := rung_lt x
    obtain ⟨R, hR⟩ : ∃ R, single.rung x = R := ⟨_, rfl⟩
    rw [hR] at hn hc hr hp
    have hp := Lib.hid hp.2
    clear hl hx h0 hR
    go_enter Try.func44, Try.ntmps44
    go_wp2_with (go_at_call 44; refine (hc _).mono ?_; rintro e w' ⟨rfl, rfl⟩)
    go_ret
    exact ⟨int_eq hp.out.symm, rfl⟩
  · exact l01Bits_nonneg x hx h0 w

theorem placeOf_any (x : Nat) (hx : single.fin x) (w : World) :
    Calls Try.prog 46 #[.float .f32 x] w fun e w' => e = .returned (.int .i64 (plc x)) ∧ w = w' := by
  have hw : ∀ w, (convert 23 27 (.float .f32 x)).run Try.prog w = .ok (.float .f64 (wid x)) w := fun w => run_convert_float_float w 23 27 .f32 .f64 x (wid x) (by rw [Try.underlying23]; rfl) Try.underlying27 (conv_widen_fin hx)
  have hc : ∀ w, (convert 27 23 (.float .f64 (wid x % 9223372036854775808))).run Try.prog w = .ok (.float .f32 (single.rung x)) w := fun w => run_convert_float_float w 27 23 .f64 .f32 _ _ (by rw [Try.underlying27]; rfl) Try.underlying23 (wid_abs hx)
  have hl := Lib.hid (wid_isD hx rfl).lt
  have hb := call_f32bits
  have hr := rung_lt x
  have hz := (lt_zero hx)
  by_cases h0 : plc x < 0
  · have hz : (FloatKind.f32.format.order x 0 == some .lt) = true := hz.trans (decide_eq_true h0)
    have hp := Lib.hid (plc_neg h0).2
    clear hx h0
    obtain ⟨R, hR⟩ : ∃ R, single.rung x = R := ⟨_, rfl⟩
    rw [hR] at hc hr hp
    clear hR
    go_enter Try.func46, Try.ntmps46
    go_wp2_with (go_at_call 80; refine (abs_any _ hl.out _).mono ?_; rintro e w' ⟨rfl, rfl⟩)
    go_ret
    exact ⟨int_eq hp.out.symm, rfl⟩
  · have hz : (FloatKind.f32.format.order x 0 == some .lt) = false := hz.trans (decide_eq_false h0)
    have hp := Lib.hid (plc_nonneg h0).1
    clear hx h0
    obtain ⟨R, hR⟩ : ∃ R, single.rung x = R := ⟨_, rfl⟩
    rw [hR] at hc hr hp
    clear hR
    go_enter Try.func46, Try.ntmps46
    go_wp2_with (go_at_call 80; refine (abs_any _ hl.out _).mono ?_; rintro e w' ⟨rfl, rfl⟩)
    go_ret
    exact ⟨int_eq hp.out.symm, rfl⟩

theorem floatAt_any (p : Int) (h0 : -2139095039 ≤ p) (hs : p ≤ 2139095039) (w : World) :
    Calls Try.prog 42 #[.int .i64 p] w fun e w' => e = .returned (.float .f32 (sw p)) ∧ w = w' := by
  have hb := call_f32frombits
  by_cases h : p < 0
  · have hn := Lib.hid (neg_word h h0)
    go_enter Try.func42, Try.ntmps42
    go_wp2
    all_goals (go_ret; exact ⟨fl hn.out, rfl⟩)
  · have hn := Lib.hid (sw_nonneg (p := p) (by omega))
    go_enter Try.func42, Try.ntmps42
    go_wp2
    all_goals (go_ret; exact ⟨fl hn.out.symm, rfl⟩)
end Go.Proofs.Ytbojaddojhemeaa
