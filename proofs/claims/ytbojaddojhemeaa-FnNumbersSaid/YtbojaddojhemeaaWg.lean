/- Walks: the calculator: its code, rounding, roots. -/
import Derived.Test.YtbojaddojhemeaaWe
import Derived.Test.YtbojaddojhemeaaCal
import Derived.Test.YtbojaddojhemeaaRt
import Derived.Deep.QuietTactic
import Derived.BigQuiet
namespace Go.Proofs.Ytbojaddojhemeaa
open Ieee Go.Flt Go.RowKit

/-- What rounding hands on, and the code behind it. -/
def rv (k : Int) (x : Nat) : Nat := if isFin x = true ∧ k = 0 then clr x else 0
def rc (k : Int) (x : Nat) : Int := if isFin x = true ∨ k ≠ 0 then k else 3

theorem fail_first (b o : Nat) (c : Int) (w : World) (hc : w.cell? ⟨b, o, none⟩ = some (.int .i64 0)) (hf : w.frozen? ⟨b, o, none⟩ = false) :
    Calls Try.prog 100 #[.pointer (some ⟨b, o, none⟩), .int .i64 c] w fun e w' => e = .returned (.tuple #[]) ∧ w.setCell ⟨b, o, none⟩ (.int .i64 c) = w' := by
  go_enter Try.func100, Try.ntmps100
  go_wp2
  go_end0
  exact ⟨rfl, rfl⟩
theorem fail_later (b o : Nat) (c k : Int) (hk : 0 < k) (w : World) (hc : w.cell? ⟨b, o, none⟩ = some (.int .i64 k)) :
    Calls Try.prog 100 #[.pointer (some ⟨b, o, none⟩), .int .i64 c] w fun e w' => e = .returned (.tuple #[]) ∧ w = w' := by
  go_enter Try.func100, Try.ntmps100
  go_wp2
  go_end0
  exact ⟨rfl, rfl⟩

theorem round_lim (b o x : Nat) (hx : ¬ single.fin x) (w : World) (hc : w.cell? ⟨b, o, none⟩ = some (.int .i64 0)) (hf : w.frozen? ⟨b, o, none⟩ = false) :
    Calls Try.prog 86 #[.pointer (some ⟨b, o, none⟩), .float .f32 x] w fun e w' => e = .returned (.float .f32 0) ∧ ∃ n, (w.setCell ⟨b, o, none⟩ (.int .i64 3)).drewN n = w' := by
  have c1 := isNumber_not x hx
  have c2 := fail_first b o 3
  clear hx
  go_enter Try.func86, Try.ntmps86
  go_wp2_with (first | (go_at_call 45; (with_reducible refine (c1 _).mono ?_); rintro e w' ⟨rfl, n, rfl⟩) | (go_at_call 100; refine (c2 _ (by exact hc) (by exact hf)).mono ?_; rintro e w' ⟨rfl, rfl⟩))
  go_ret
  exact ⟨rfl, n, rfl⟩
theorem round_bad (b o x : Nat) (k : Int) (hk : 0 < k) (hx : ¬ single.fin x) (w : World) (hc : w.cell? ⟨b, o, none⟩ = some (.int .i64 k)) :
    Calls Try.prog 86 #[.pointer (some ⟨b, o, none⟩), .float .f32 x] w fun e w' => e = .returned (.float .f32 0) ∧ ∃ n, w.drewN n = w' := by
  have c1 := isNumber_not x hx
  have c2 := fail_later b o 3 k hk
  clear hx
  go_enter Try.func86, Try.ntmps86
  go_wp2_with (first | (go_at_call 45; (with_reducible refine (c1 _).mono ?_); rintro e w' ⟨rfl, n, rfl⟩) | (go_at_call 100; refine (c2 _ (by exact hc)).mono ?_; rintro e w' ⟨rfl, rfl⟩))
  go_ret
  exact ⟨rfl, n, rfl⟩
theorem round_zero (b o x : Nat) (hx : single.fin x) (h0 : single.rung x = 0) (w : World) :
    Calls Try.prog 86 #[.pointer (some ⟨b, o, none⟩), .float .f32 x] w fun e w' => e = .returned (.float .f32 0) ∧ w = w' := by
  have c1 := isNumber_fin x hx
  have hz : (FloatKind.f32.format.order x 0 == some .eq) = true := (eq_zero hx).trans (decide_eq_true h0)
  clear hx h0
  go_enter Try.func86, Try.ntmps86
  go_wp2_with (go_at_call 45; (with_reducible refine (c1 _).mono ?_); rintro e w' ⟨rfl, rfl⟩)
  go_ret
  exact ⟨rfl, rfl⟩
theorem round_keep (b o x : Nat) (hx : single.fin x) (h0 : single.rung x ≠ 0) (w : World) (hc : w.cell? ⟨b, o, none⟩ = some (.int .i64 0)) :
    Calls Try.prog 86 #[.pointer (some ⟨b, o, none⟩), .float .f32 x] w fun e w' => e = .returned (.float .f32 x) ∧ w = w' := by
  have c1 := isNumber_fin x hx
  have hz : (FloatKind.f32.format.order x 0 == some .eq) = false := (eq_zero hx).trans (decide_eq_false h0)
  clear hx h0
  go_enter Try.func86, Try.ntmps86
  go_wp2_with (go_at_call 45; (with_reducible refine (c1 _).mono ?_); rintro e w' ⟨rfl, rfl⟩)
  go_ret
  exact ⟨rfl, rfl⟩
theorem round_drop (b o x : Nat) (k : Int) (hk : 0 < k) (hx : single.fin x) (h0 : single.rung x ≠ 0) (w : World) (hc : w.cell? ⟨b, o, none⟩ = some (.int .i64 k)) :
    Calls Try.prog 86 #[.pointer (some ⟨b, o, none⟩), .float .f32 x] w fun e w' => e = .returned (.float .f32 0) ∧ w = w' := by
  have c1 := isNumber_fin x hx
  have hz : (FloatKind.f32.format.order x 0 == some .eq) = false := (eq_zero hx).trans (decide_eq_false h0)
  clear hx h0
  go_enter Try.func86, Try.ntmps86
  go_wp2_with (go_at_call 45; (with_reducible refine (c1 _).mono ?_); rintro e w' ⟨rfl, rfl⟩)
  go_ret
  exact ⟨rfl, rfl⟩

/-- Rounding, whatever comes in. -/
theorem round_any (b o x : Nat) (k : Int) (hk : 0 ≤ k) (w : World) (hc : w.cell? ⟨b, o, none⟩ = some (.int .i64 k)) (hf : w.frozen? ⟨b, o, none⟩ = false) :
    Calls Try.prog 86 #[.pointer (some ⟨b, o, none⟩), .float .f32 x] w fun e w' => e = .returned (.float .f32 (rv k x)) ∧ ∃ n, (w.setCell ⟨b, o, none⟩ (.int .i64 (rc k x))).drewN n = w' := by
  have hself := setCell_self hc
  by_cases hx : single.fin x
  · have hrc : rc k x = k := by unfold rc; rw [if_pos (.inl (isFin_true hx))]
    rw [hrc, hself]
    by_cases h0 : single.rung x = 0
    · have hrv : rv k x = 0 := by unfold rv clr; rw [if_pos h0]; split <;> rfl
      rw [hrv]
      exact (round_zero b o x hx h0 w).mono fun e w' ⟨he, hw⟩ => ⟨he, 0, hw⟩
    · by_cases hk0 : k = 0
      · have hrv : rv k x = x := by unfold rv clr; rw [if_pos ⟨isFin_true hx, hk0⟩, if_neg h0]
        rw [hrv]
        subst hk0
        exact (round_keep b o x hx h0 w hc).mono fun e w' ⟨he, hw⟩ => ⟨he, 0, hw⟩
      · have hrv : rv k x = 0 := by unfold rv; rw [if_neg (fun h => hk0 h.2)]
        rw [hrv]
        exact (round_drop b o x k (by omega) hx h0 w hc).mono fun e w' ⟨he, hw⟩ => ⟨he, 0, hw⟩
  · have hrv : rv k x = 0 := by unfold rv; rw [isFin_false hx, if_neg (fun h => by simp at h)]
    rw [hrv]
    by_cases hk0 : k = 0
    · subst hk0
      have hrc : rc 0 x = 3 := by unfold rc; rw [isFin_false hx]; rfl
      rw [hrc]
      exact round_lim b o x hx w hc hf
    · have hrc : rc k x = k := by unfold rc; rw [if_pos (.inr hk0)]
      rw [hrc, hself]
      exact round_bad b o x k (by omega) hx w hc

theorem call_sqrt {y z : Nat} (h : double.sqrt y = some z) (w : World) : (callFunc 103 #[.float .f64 y]).run Try.prog w = .ok (.value (.float .f64 z)) w := by
  rw [run_callFunc_extern (e := Extern.MathSqrt.sqrt) Try.func103 (by kernel_rfl) (by kernel_rfl) (by kernel_rfl) (by kernel_rfl)]
  have h' : FloatKind.f64.format.sqrt y = some z := h
  have e : Extern.MathSqrt.sqrt #[.float .f64 y] = (match FloatKind.f64.format.sqrt y with | some r => pure (.float .f64 r) | none => do pure (.float .f64 (← choose (.nanBits .f64 y y)))) := rfl
  rw [e, h']
  rfl
theorem sqrt_any (y z : Nat) (h : double.sqrt y = some z) (w : World) :
    Calls Try.prog 94 #[.float .f64 y] w fun e w' => e = .returned (.float .f64 z) ∧ w = w' := by
  have hs := call_sqrt h
  clear h
  go_enter Try.func94, Try.ntmps94
  go_wp2
  go_ret
  exact ⟨rfl, rfl⟩

/-- The calculator's root of a number that is not less than 0. -/
theorem root_at (b o x y : Nat) (k : Int) (hk : 0 ≤ k) (hx : single.fin x) (hr : ∃ z, double.sqrt (wid x) = some z ∧ floatToFloatBits .f64 z .f32 = some y) (w : World) (hc : w.cell? ⟨b, o, none⟩ = some (.int .i64 k)) (hf : w.frozen? ⟨b, o, none⟩ = false) :
    Calls Try.prog 63 #[.pointer (some ⟨b, o, none⟩), .float .f32 x] w fun e w' => e = .returned (.float .f32 (rv k y)) ∧ ∃ n, (w.setCell ⟨b, o, none⟩ (.int .i64 (rc k y))).drewN n = w' := by
  obtain ⟨z, hz, hy⟩ := hr
  have hw := run_widen_fin x hx
  have hs := sqrt_any (wid x) z hz
  have hn : ∀ w, (convert 27 23 (.float .f64 z)).run Try.prog w = .ok (.float .f32 y) w := fun w => run_convert_float_float w 27 23 .f64 .f32 z _ (by rw [Try.underlying27]; rfl) Try.underlying23 hy
  have hrd := round_any b o y k hk
  clear hx hz hy hk
  go_enter Try.func63, Try.ntmps63
  go_wp2_with (first | (go_at_call 94; (with_reducible refine (hs _).mono ?_); rintro e w' ⟨rfl, rfl⟩) | (go_at_call 86; refine (hrd _ (by exact hc) (by exact hf)).mono ?_; rintro e w' ⟨rfl, n, rfl⟩))
  go_ret
  exact ⟨rfl, n, rfl⟩
end Go.Proofs.Ytbojaddojhemeaa
