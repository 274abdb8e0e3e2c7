/- Draws: a number of any size. -/
import Derived.Test.YtbojaddojhemeaaFb
import Derived.Test.YtbojaddojhemeaaWd
namespace Go.Proofs.Ytbojaddojhemeaa
open Ieee Go.Flt Go.RowKit

theorem pick3 (w0 : World) (a0 : Option Addr) (len cap b : Nat) (hC : Flt.Bytes w0 a0 len) (hl : len ≤ 4611686018427387904) (t : TypeId) (w : World) (hS : Src w0 a0 len cap b w) :
    Calls Try.prog 72 #[.pointer (some ⟨b, 0, none⟩), .slice (some ⟨w.heap.size, 0, none⟩) 3 3] (w.alloc (.cells #[.int .i64 63, .int .i64 190, .int .i64 52] t)) fun e w' => ∃ r : Int, 52 ≤ r ∧ r ≤ 190 ∧ e = .returned (.int .i64 r) ∧ Src w0 a0 len cap b w' := by
  have hs := hS.size
  refine (pick_any w0 a0 len cap b hC hl w.heap.size 3 (by omega) (by omega) (by omega) (fun i => if i = 0 then 63 else if i = 1 then 190 else 52) _ (hS.alloc _ _) ?_).mono ?_
  · intro i hi
    rcases (by omega : i = 0 ∨ i = 1 ∨ i = 2) with rfl | rfl | rfl <;> exact cell_new w _ t _ rfl
  · rintro e w' ⟨j, hj, he, hS'⟩
    refine ⟨_, ?_, ?_, he, hS'⟩ <;> rcases (by omega : j = 0 ∨ j = 1 ∨ j = 2) with rfl | rfl | rfl <;> decide

set_option maxRecDepth 100000 in
set_option maxHeartbeats 3200000 in
theorem drawNumber_any (w0 : World) (a0 : Option Addr) (len cap b : Nat) (hC : Flt.Bytes w0 a0 len) (hl : len ≤ 4611686018427387904) (w : World) (hS : Src w0 a0 len cap b w) :
    Calls Try.prog 70 #[.pointer (some ⟨b, 0, none⟩)] w fun e w' => ∃ p : Int, -2139095039 ≤ p ∧ p ≤ 2139095039 ∧ e = .returned (.float .f32 (sw p)) ∧ Src w0 a0 len cap b w' := by
  have nx := fun n hn w hS => next_any w0 a0 len cap b hC hl n hn w hS
  have pk := fun t w hS => pick3 w0 a0 len cap b hC hl t w hS
  have fa := fun p h0 hs => l01Float_any p h0 hs
  clear hC hl
  go_enter Try.func70, Try.ntmps70
  go_wp2_with (first | (go_at_call 71; (with_reducible refine (nx _ (by omega) _ (by assumption)).mono ?_); rintro e w' ⟨r, rfl, r0, r1, hS1, _⟩) | (go_at_call 72; (with_reducible refine (pk _ _ (by assumption)).mono ?_); rintro e w' ⟨r, r0, r1, rfl, hS1⟩) | (go_at_call 73; (with_reducible refine (fa _ (by omega) (by omega) _).mono ?_); rintro e w' ⟨rfl, rfl⟩))
  all_goals go_ret
  all_goals exact ⟨_, by omega, by omega, rfl, by assumption⟩
end Go.Proofs.Ytbojaddojhemeaa
