/- Halvings: the loop of the reference. -/
import Derived.Test.YtbojaddojhemeaaHb
namespace Go.Proofs.Ytbojaddojhemeaa
open Ieee Go.Flt Go.RowKit

theorem plc_hv (k : Nat) (hk : k < 24) : 0 < plc (hvY k) := by
  obtain ⟨_, _, _, _, _, _, _, _, _, _, _, _, h13, h14, _⟩ := hv_facts k hk
  unfold plc
  have : single.negb (hvY k) = false := by
    unfold Format.negb
    rw [Nat.div_eq_of_lt (show hvY k < single.signWeight from h14)]
    rfl
  rw [this]
  simp
  omega
theorem hroot (k : Nat) (hk : k < 24) (w : World) : Calls Try.prog 93 #[.float .f32 (hvY k)] w fun e w' => e = .returned (.float .f32 (hvC (k + 1))) ∧ w = w' := by
  obtain ⟨_, _, ⟨z, hz, hz2⟩, _, _, _, _, h8, _⟩ := hv_facts k hk
  have hp := plc_hv k hk
  have h := l01Root_pos (hvY k) h8 hp w
  obtain ⟨n, r, q, hR⟩ := rooted h8 hp
  obtain ⟨z', hz', hz3, _⟩ := hR.root
  rw [hz] at hz'
  cases hz'
  have he : rt (hvY k) = hvC (k + 1) := Option.some.inj (hz3.symm.trans hz2)
  rw [he] at h
  exact h

set_option maxRecDepth 100000 in
set_option maxHeartbeats 1600000 in
theorem sHalved (n : Nat) (hn : n ≤ 24) (w : World) :
    Calls Try.prog 95 #[.int .i64 n] w fun e w' => e = .returned (.tuple #[.float .f32 (hvC n), .float .f32 (hvS n)]) ∧ w = w' := by
  go_enter Try.func95, Try.ntmps95
  go_wp2_with fail
  go_loop [0, 4, 5] (fun t c s => ∃ j i : Nat, j + i = n ∧ t = .int .i64 (i : Int) ∧ c = .float .f32 (hvC j) ∧ s = .float .f32 (hvS j)) (fun t _ _ => (intOf t).toNat)
  case atStart => exact ⟨0, n, by omega, rfl, rfl, rfl⟩
  case round =>
    obtain ⟨j, i, hji, rfl, rfl, rfl⟩ := hrel
    by_cases hi : i = 0
    · have hjn : j = n := by omega
      subst hi hjn
      go_wp2_with fail
      go_ret2
      exact ⟨rfl, rfl⟩
    · obtain ⟨h1, h2, _, _, h5, h6, _⟩ := hv_facts j (by omega)
      have o1 : ∀ t w, (binOp .add t (.float .f32 1065353216) (.float .f32 (hvC j))).run Try.prog w = .ok (.float .f32 (hvA j)) w := fun t w => run_float_arith w .add t .f32 _ _ _ h1
      have o2 : ∀ t w, (binOp .quo t (.float .f32 (hvA j)) (.float .f32 1073741824)).run Try.prog w = .ok (.float .f32 (hvY j)) w := fun t w => run_float_arith w .quo t .f32 _ _ _ h2
      have o5 : ∀ t w, (binOp .mul t (.float .f32 1073741824) (.float .f32 (hvC (j + 1)))).run Try.prog w = .ok (.float .f32 (hvD j)) w := fun t w => run_float_arith w .mul t .f32 _ _ _ h5
      have o6 : ∀ t w, (binOp .quo t (.float .f32 (hvS j)) (.float .f32 (hvD j))).run Try.prog w = .ok (.float .f32 (hvS (j + 1))) w := fun t w => run_float_arith w .quo t .f32 _ _ _ h6
      have hr := hroot j (by omega)
      have hi2 : (0 : Int) < i := by omega
      clear h1 h2 h5 h6
      go_wp2_with (go_at_call 93; (with_reducible refine (hr _).mono ?_); rintro e w' ⟨rfl, rfl⟩)
      go_round
      case rel => exact ⟨j + 1, i - 1, by omega, by rw [show ((i - 1 : Nat) : Int) = (i : Int) - 1 by omega], rfl, rfl⟩
      case measure => simp [intOf]; omega
end Go.Proofs.Ytbojaddojhemeaa
