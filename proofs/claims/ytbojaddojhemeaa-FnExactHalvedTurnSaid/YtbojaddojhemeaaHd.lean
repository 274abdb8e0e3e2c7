/- Halvings: the loop of the program's calculator. -/
import Derived.Test.YtbojaddojhemeaaHb
namespace Go.Proofs.Ytbojaddojhemeaa
open Ieee Go.Flt Go.RowKit

theorem fin_one : single.fin 1065353216 := show single.rung 1065353216 < single.infRung by decide
theorem fin_two : single.fin 1073741824 := show single.rung 1073741824 < single.infRung by decide

set_option maxRecDepth 100000 in
set_option maxHeartbeats 1600000 in
theorem iHalved (b o n : Nat) (hn : n ≤ 24) (w : World) (hc : w.cell? ⟨b, o, none⟩ = some (.int .i64 0)) :
    Calls Try.prog 97 #[.pointer (some ⟨b, o, none⟩), .int .i64 n] w fun e w' => e = .returned (.tuple #[.float .f32 (hvC n), .float .f32 (hvS n)]) ∧ w = w' := by
  go_enter Try.func97, Try.ntmps97
  go_wp2_with fail
  go_loop [6, 7, 9] (fun c s t => ∃ j : Nat, j ≤ n ∧ t = .int .i64 (j : Int) ∧ c = .float .f32 (hvC j) ∧ s = .float .f32 (hvS j)) (fun _ _ t => ((n : Int) - intOf t).toNat)
  case atStart => exact ⟨0, by omega, rfl, rfl, rfl⟩
  case round =>
    obtain ⟨j, hj, rfl, rfl, rfl⟩ := hrel
    by_cases hi : j = n
    · subst hi
      go_wp2_with fail
      go_ret2
      exact ⟨rfl, rfl⟩
    · obtain ⟨h1, h2, _, h4, _, h6, h7, h8, h9, h10, h11, h12, h13, _, h15, h16, h17⟩ := hv_facts j (by omega)
      have c1 := add_fin_of b o _ _ _ h1 h7 w hc
      rw [clr_pos h12] at c1
      have c2 := div_fin b o _ _ _ fin_two (show 0 < single.rung 1073741824 by decide) h2 h8 h13 w hc
      have c3 := root_hv b o j (by omega) w hc
      have c4 := double_fin b o _ _ h4 h10 h16 w hc
      have c5 := div_fin b o _ _ _ h10 h16 h6 h11 h17 w hc
      have hlt : (j : Int) < n := by omega
      clear h1 h2 h4 h6 h7 h8 h9 h10 h11 h12 h13 h15 h16 h17
      go_wp2_with (first | (go_at_call 54; (with_reducible refine c1.mono ?_); rintro e w' ⟨rfl, rfl⟩) | (go_at_call 104; (first | (with_reducible refine c2.mono ?_) | (with_reducible refine c5.mono ?_)); rintro e w' ⟨rfl, rfl⟩) | (go_at_call 63; (with_reducible refine c3.mono ?_); rintro e w' ⟨rfl, rfl⟩) | (go_at_call 105; (with_reducible refine c4.mono ?_); rintro e w' ⟨rfl, rfl⟩))
      go_round
      case rel => exact ⟨j + 1, by omega, rfl, rfl, rfl⟩
      case measure => simp [intOf]; omega
end Go.Proofs.Ytbojaddojhemeaa
