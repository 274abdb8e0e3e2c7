/- Halved turns: the program's side. -/
import Derived.Test.YtbojaddojhemeaaHd
import Derived.Test.YtbojaddojhemeaaTf
import Derived.Test.YtbojaddojhemeaaWd
namespace Go.Proofs.Ytbojaddojhemeaa
open Ieee Go.Flt Go.RowKit

theorem hv_fin (n : Nat) (hn : n ≤ 24) : single.fin (hvC n) ∧ single.fin (hvS n) := by
  cases n with
  | zero => exact ⟨show single.rung (hvC 0) < single.infRung by decide, show single.rung (hvS 0) < single.infRung by decide⟩
  | succ k =>
    obtain ⟨_, _, _, _, _, _, _, _, h9, _, h11, _⟩ := hv_facts k (by omega)
    exact ⟨h9, h11⟩

theorem isAxis_yes (n : Int) (h1 : 0 ≤ n) (h2 : n ≤ 2) (w : World) :
    Calls Try.prog 65 #[.int .i64 n] w fun e w' => e = .returned (.bool true) ∧ w = w' := by
  have c := within_yes n 0 2 h1 h2
  go_enter Try.func65, Try.ntmps65
  go_wp2_with (go_at_call 41; (with_reducible refine (c _).mono ?_); rintro e w' ⟨rfl, rfl⟩)
  go_ret
  exact ⟨rfl, rfl⟩
theorem isAxis_no (n : Int) (h : n < 0 ∨ 2 < n) (w : World) :
    Calls Try.prog 65 #[.int .i64 n] w fun e w' => e = .returned (.bool false) ∧ w = w' := by
  have c := within_no n 0 2 h
  clear h
  go_enter Try.func65, Try.ntmps65
  go_wp2_with (go_at_call 41; (with_reducible refine (c _).mono ?_); rintro e w' ⟨rfl, rfl⟩)
  go_ret
  exact ⟨rfl, rfl⟩
theorem isHalvings_yes (n : Int) (h1 : 0 ≤ n) (h2 : n ≤ 24) (w : World) :
    Calls Try.prog 66 #[.int .i64 n] w fun e w' => e = .returned (.bool true) ∧ w = w' := by
  have c := within_yes n 0 24 h1 h2
  go_enter Try.func66, Try.ntmps66
  go_wp2_with (go_at_call 41; (with_reducible refine (c _).mono ?_); rintro e w' ⟨rfl, rfl⟩)
  go_ret
  exact ⟨rfl, rfl⟩
theorem isHalvings_no (n : Int) (h : n < 0 ∨ 24 < n) (w : World) :
    Calls Try.prog 66 #[.int .i64 n] w fun e w' => e = .returned (.bool false) ∧ w = w' := by
  have c := within_no n 0 24 h
  clear h
  go_enter Try.func66, Try.ntmps66
  go_wp2_with (go_at_call 41; (with_reducible refine (c _).mono ?_); rintro e w' ⟨rfl, rfl⟩)
  go_ret
  exact ⟨rfl, rfl⟩
end Go.Proofs.Ytbojaddojhemeaa
