/- Draws: places, and two numbers near each other. -/
import Derived.Test.YtbojaddojhemeaaFd
import Derived.Test.YtbojaddojhemeaaWe
namespace Go.Proofs.Ytbojaddojhemeaa
open Ieee Go.Flt Go.RowKit

theorem pick6 (w0 : World) (a0 : Option Addr) (len cap b : Nat) (hC : Flt.Bytes w0 a0 len) (hl : len ≤ 4611686018427387904) (t : TypeId) (w : World) (hS : Src w0 a0 len cap b w) :
    Calls Try.prog 72 #[.pointer (some ⟨b, 0, none⟩), .slice (some ⟨w.heap.size, 0, none⟩) 6 6] (w.alloc (.cells #[.int .i64 2139095039, .int .i64 2139095040, .int .i64 (-2139095039), .int .i64 (-2139095040), .int .i64 8388608, .int .i64 8388607] t)) fun e w' => ∃ r : Int, e = .returned (.int .i64 r) ∧ Src w0 a0 len cap b w' := by
  have hs := hS.size
  refine (pick_any w0 a0 len cap b hC hl w.heap.size 6 (by omega) (by omega) (by omega) (fun i => if i = 0 then 2139095039 else if i = 1 then 2139095040 else if i = 2 then -2139095039 else if i = 3 then -2139095040 else if i = 4 then 8388608 else 8388607) _ (hS.alloc _ _) ?_).mono ?_
  · intro i hi
    rcases (by omega : i = 0 ∨ i = 1 ∨ i = 2 ∨ i = 3 ∨ i = 4 ∨ i = 5) with rfl | rfl | rfl | rfl | rfl | rfl <;> exact cell_new w _ t _ rfl
  · rintro e w' ⟨j, hj, he, hS'⟩
    exact ⟨_, he, hS'⟩

set_option maxRecDepth 100000 in
set_option maxHeartbeats 1600000 in
theorem drawFloatAt_any (a0 : Option Addr) (len cap : Nat) (hl : len ≤ 4611686018427387904) (w : World) (hC : Flt.Bytes w a0 len) :
    Calls Try.prog 36 #[.slice a0 len cap] w fun e w' => ∃ p : Int, e = .returned (.int .i64 p) ∧ Grown w w' := by
  have fr := from_any a0 len cap hl w hC
  have nx := fun n hn w1 hS => next_any w a0 len cap w.heap.size hC hl n hn w1 hS
  have pk := fun t w1 hS => pick6 w a0 len cap w.heap.size hC hl t w1 hS
  have dn := fun w1 hS => drawNumber_any w a0 len cap w.heap.size hC hl w1 hS
  have bt := fun p h0 h1 => l01Bits_any (sw p) (sw_word_lt p h0 h1) (sw_fin h0 h1)
  clear hC hl
  go_enter Try.func36, Try.ntmps36
  go_wp2_with (first | (go_at_call 68; (with_reducible refine fr.mono ?_); rintro e w1 ⟨rfl, hS⟩) | (go_at_call 71; (with_reducible refine (nx _ (by omega) _ (by assumption)).mono ?_); rintro e w' ⟨r, rfl, r0, r1, hS1, _⟩) | (go_at_call 70; (with_reducible refine (dn _ (by assumption)).mono ?_); rintro e w2 ⟨p, p0, p1, rfl, hS⟩) | (go_at_call 72; (with_reducible refine (pk _ _ (by assumption)).mono ?_); rintro e w' ⟨r, rfl, hS1⟩) | (go_at_call 44; (with_reducible refine (bt _ (by assumption) (by assumption) _).mono ?_); rintro e w' ⟨rfl, rfl⟩))
  all_goals go_ret
  all_goals first | exact ⟨_, rfl, hS1.1⟩ | exact ⟨_, rfl, hS.1⟩

set_option maxRecDepth 100000 in
set_option maxHeartbeats 1600000 in
theorem drawSteps_any (a0 : Option Addr) (len cap : Nat) (hl : len ≤ 4611686018427387904) (w : World) (hC : Flt.Bytes w a0 len) :
    Calls Try.prog 38 #[.slice a0 len cap] w fun e w' => ∃ x y : Nat, x < 4294967296 ∧ y < 4294967296 ∧ e = .returned (.tuple #[.float .f32 x, .float .f32 y]) ∧ Grown w w' := by
  have fr := from_any a0 len cap hl w hC
  have nx := fun n hn w1 hS => next_any w a0 len cap w.heap.size hC hl n hn w1 hS
  have dn := fun w1 hS => drawNumber_any w a0 len cap w.heap.size hC hl w1 hS
  have br := fun x hx w1 hS => broken_any w a0 len cap w.heap.size hC hl x hx w1 hS
  have bt : ∀ p : Int, -2139095039 ≤ p → p ≤ 2139095039 → ∀ w, Calls Try.prog 44 #[.float .f32 (sw p)] w fun e w' => ∃ q : Int, -2139095039 ≤ q ∧ q ≤ 2139095039 ∧ e = .returned (.int .i64 q) ∧ w = w' := fun p h0 h1 w =>
    (l01Bits_any (sw p) (sw_word_lt p h0 h1) (sw_fin h0 h1) w).mono fun e w' h => ⟨_, by
      have hr := sw_rung h0 h1
      unfold plc
      split <;> omega, by
      have hr := sw_rung h0 h1
      unfold plc
      split <;> omega, h⟩
  have fa := fun p h0 hs => l01Float_any p h0 hs
  clear hC hl
  go_enter Try.func38, Try.ntmps38
  go_wp2_with (first | (go_at_call 68; (with_reducible refine fr.mono ?_); rintro e w1 ⟨rfl, hS⟩) | (go_at_call 71; (with_reducible refine (nx _ (by omega) _ (by assumption)).mono ?_); rintro e w' ⟨r, rfl, r0, r1, hS1, _⟩) | (go_at_call 70; (with_reducible refine (dn _ (by assumption)).mono ?_); rintro e w2 ⟨p, p0, p1, rfl, hS⟩) | (go_at_call 69; (with_reducible refine (br _ (sw_word_lt _ (by assumption) (by assumption)) _ (by assumption)).mono ?_); rintro e w3 ⟨y, hy, rfl, hS⟩) | (go_at_call 44; (with_reducible refine (bt _ (by assumption) (by assumption) _).mono ?_); rintro e w' ⟨q, q0, q1, rfl, rfl⟩) | (go_at_call 73; (with_reducible refine (fa _ (by omega) (by omega) _).mono ?_); rintro e w' ⟨rfl, rfl⟩))
  all_goals go_ret2
  all_goals first | exact ⟨_, sw_word_lt _ (by omega) (by omega), _, sw_word_lt _ (by omega) (by omega), rfl, hS1.1⟩ | exact ⟨_, _, (by assumption), (by assumption), rfl, hS.1⟩
end Go.Proofs.Ytbojaddojhemeaa
