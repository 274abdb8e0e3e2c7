/- Halvings: what one of them does, as facts; the calculator's quotient and double. -/
import Derived.Test.YtbojaddojhemeaaHa
import Derived.Test.YtbojaddojhemeaaVc
namespace Go.Proofs.Ytbojaddojhemeaa
open Ieee Go.Flt Go.RowKit

theorem hv_facts (k : Nat) (hk : k < 24) :
    floatBits .add .f32 1065353216 (hvC k) = some (hvA k) ∧ floatBits .quo .f32 (hvA k) 1073741824 = some (hvY k) ∧
    (∃ z, double.sqrt (wid (hvY k)) = some z ∧ floatToFloatBits .f64 z .f32 = some (hvC (k + 1))) ∧
    floatBits .add .f32 (hvC (k + 1)) (hvC (k + 1)) = some (hvD k) ∧ floatBits .mul .f32 1073741824 (hvC (k + 1)) = some (hvD k) ∧ floatBits .quo .f32 (hvS k) (hvD k) = some (hvS (k + 1)) ∧
    single.fin (hvA k) ∧ single.fin (hvY k) ∧ single.fin (hvC (k + 1)) ∧ single.fin (hvD k) ∧ single.fin (hvS (k + 1)) ∧
    0 < single.rung (hvA k) ∧ 0 < single.rung (hvY k) ∧ hvY k < 2147483648 ∧ 0 < single.rung (hvC (k + 1)) ∧ 0 < single.rung (hvD k) ∧ 0 < single.rung (hvS (k + 1)) := by
  have h := hv_step k hk
  unfold hvStep at h
  simp only [Bool.and_eq_true, beq_iff_eq, decide_eq_true_eq] at h
  obtain ⟨⟨⟨⟨⟨⟨⟨⟨⟨⟨⟨⟨⟨⟨⟨⟨h1, h2⟩, h3⟩, h4⟩, h5⟩, h6⟩, h7⟩, h8⟩, h9⟩, h10⟩, h11⟩, h12⟩, h13⟩, h14⟩, h15⟩, h16⟩, h17⟩ := h
  refine ⟨h1, h2, ?_, h4, h5, h6, fin_of h7, fin_of h8, fin_of h9, fin_of h10, fin_of h11, h12, h13, h14, h15, h16, h17⟩
  cases hz : double.sqrt (wid (hvY k)) with
  | none => rw [hz] at h3; cases h3
  | some z =>
    rw [hz] at h3
    exact ⟨z, rfl, by simpa using h3⟩

theorem clr_pos {x : Nat} (h : 0 < single.rung x) : clr x = x := by unfold clr; rw [if_neg (by omega)]

theorem div_fin (b o x y r : Nat) (hy : single.fin y) (h0 : 0 < single.rung y) (hr : floatBits .quo .f32 x y = some r) (hf : single.fin r) (hp : 0 < single.rung r) (w : World) (hc : w.cell? ⟨b, o, none⟩ = some (.int .i64 0)) :
    Calls Try.prog 104 #[.pointer (some ⟨b, o, none⟩), .float .f32 x, .float .f32 y] w fun e w' => e = .returned (.float .f32 r) ∧ w = w' := by
  have hop : ∀ t w, (binOp .quo t (.float .f32 x) (.float .f32 y)).run Try.prog w = .ok (.float .f32 r) w := fun t w => run_float_arith w .quo t .f32 x y r hr
  have hz : (FloatKind.f32.format.order y 0 == some .eq) = false := (eq_zero hy).trans (decide_eq_false (by omega))
  have c1 := round_fin b o r hf w hc
  rw [clr_pos hp] at c1
  clear hr hf hp hy h0
  go_enter Try.func104, Try.ntmps104
  go_wp2_with (go_at_call 86; (with_reducible refine c1.mono ?_); rintro e w' ⟨rfl, rfl⟩)
  go_ret
  exact ⟨rfl, rfl⟩
theorem double_fin (b o x r : Nat) (hr : floatBits .add .f32 x x = some r) (hf : single.fin r) (hp : 0 < single.rung r) (w : World) (hc : w.cell? ⟨b, o, none⟩ = some (.int .i64 0)) :
    Calls Try.prog 105 #[.pointer (some ⟨b, o, none⟩), .float .f32 x] w fun e w' => e = .returned (.float .f32 r) ∧ w = w' := by
  have c1 := add_fin_of b o x x r hr hf w hc
  rw [clr_pos hp] at c1
  clear hr hf hp
  go_enter Try.func105, Try.ntmps105
  go_wp2_with (go_at_call 54; (with_reducible refine c1.mono ?_); rintro e w' ⟨rfl, rfl⟩)
  go_ret
  exact ⟨rfl, rfl⟩
theorem root_hv (b o k : Nat) (hk : k < 24) (w : World) (hc : w.cell? ⟨b, o, none⟩ = some (.int .i64 0)) :
    Calls Try.prog 63 #[.pointer (some ⟨b, o, none⟩), .float .f32 (hvY k)] w fun e w' => e = .returned (.float .f32 (hvC (k + 1))) ∧ w = w' := by
  obtain ⟨_, _, h3, _, _, _, _, h8, h9, _, _, _, _, _, h15, _, _⟩ := hv_facts k hk
  have c1 := root_fin b o (hvY k) (hvC (k + 1)) h8 h9 h3 w hc
  rw [clr_pos h15] at c1
  exact c1
end Go.Proofs.Ytbojaddojhemeaa
