/- Draws: numbers that seldom are none; the four draws of the law on numbers. -/
import Derived.Test.YtbojaddojhemeaaFc
namespace Go.Flt
open Ieee
theorem neg_lt {x : Nat} (h : x < 4294967296) : Op.negFloat .f32 x < 4294967296 := by
  have e := single.word_of (x := x) h
  have hr : single.rung x < 2147483648 := rung_lt x
  rw [← e, negFloat32 hr]
  exact single.word_lt _ hr
theorem sw_word_lt (p : Int) (h0 : -2139095039 ≤ p) (hs : p ≤ 2139095039) : sw p < 4294967296 := single.word_lt _ (show p.natAbs < 2147483648 by omega)
end Go.Flt
namespace Go.Proofs.Ytbojaddojhemeaa
open Ieee Go.Flt Go.RowKit

set_option maxRecDepth 100000 in
set_option maxHeartbeats 1600000 in
theorem broken_any (w0 : World) (a0 : Option Addr) (len cap b : Nat) (hC : Flt.Bytes w0 a0 len) (hl : len ≤ 4611686018427387904) (x : Nat) (hx : x < 4294967296) (w : World) (hS : Src w0 a0 len cap b w) :
    Calls Try.prog 69 #[.pointer (some ⟨b, 0, none⟩), .float .f32 x] w fun e w' => ∃ y : Nat, y < 4294967296 ∧ e = .returned (.float .f32 y) ∧ Src w0 a0 len cap b w' := by
  have nx := fun n hn w hS => next_any w0 a0 len cap b hC hl n hn w hS
  have fa := l01Float_any 2139095039 (by omega) (by omega)
  rw [show sw 2139095039 = 2139095039 from rfl] at fa
  have o1 : ∀ t w, (binOp .mul t (.float .f32 2139095039) (.float .f32 1073741824)).run Try.prog w = .ok (.float .f32 2139095040) w := fun t w => run_float_arith w .mul t .f32 _ _ _ (by kernel_rfl)
  have o2 : ∀ t w, (binOp .mul t (.float .f32 4286578687) (.float .f32 1073741824)).run Try.prog w = .ok (.float .f32 4286578688) w := fun t w => run_float_arith w .mul t .f32 _ _ _ (by kernel_rfl)
  have on : floatBits .sub .f32 2139095040 2139095040 = none := by kernel_rfl
  have oo3 : ∀ w, ∃ y, y < 4294967296 ∧ (binOp .sub 23 (.float .f32 2139095040) (.float .f32 2139095040)).run Try.prog w = .ok (.float .f32 y) w.drew := fun w => by
    obtain ⟨y, h1, _, h3⟩ := run_arith_none (P := Try.prog) .sub 23 on (.inr (.inl rfl)) w
    exact ⟨y, h1, h3⟩
  have ng : Op.negFloat .f32 2139095039 = 4286578687 := by kernel_rfl
  clear hC hl on
  go_enter Try.func69, Try.ntmps69
  go_wp2_with (first | (go_at_call 71; (with_reducible refine (nx _ (by omega) _ (by assumption)).mono ?_); rintro e w' ⟨r, rfl, r0, r1, hS1, _⟩; obtain ⟨y3, l3, o3⟩ := oo3 w') | (go_at_call 73; (with_reducible refine (fa _).mono ?_); rintro e w' ⟨rfl, rfl⟩))
  all_goals go_ret
  all_goals first | exact ⟨_, hx, rfl, by assumption⟩ | exact ⟨_, by decide, rfl, by assumption⟩ | exact ⟨_, l3, rfl, Src.drew (by assumption)⟩

set_option maxRecDepth 100000 in
set_option maxHeartbeats 1600000 in
theorem drawPlaceOf_any (a0 : Option Addr) (len cap : Nat) (hl : len ≤ 4611686018427387904) (w : World) (hC : Flt.Bytes w a0 len) :
    Calls Try.prog 35 #[.slice a0 len cap] w fun e w' => ∃ y : Nat, y < 4294967296 ∧ e = .returned (.float .f32 y) ∧ Grown w w' := by
  have fr := from_any a0 len cap hl w hC
  have dn := fun w1 hS => drawNumber_any w a0 len cap w.heap.size hC hl w1 hS
  have br := fun x hx w1 hS => broken_any w a0 len cap w.heap.size hC hl x hx w1 hS
  clear hC hl
  go_enter Try.func35, Try.ntmps35
  go_wp2_with (first | (go_at_call 68; (with_reducible refine fr.mono ?_); rintro e w1 ⟨rfl, hS⟩) | (go_at_call 70; (with_reducible refine (dn _ (by assumption)).mono ?_); rintro e w2 ⟨p, p0, p1, rfl, hS⟩) | (go_at_call 69; (with_reducible refine (br _ (sw_word_lt _ (by assumption) (by assumption)) _ (by assumption)).mono ?_); rintro e w3 ⟨y, hy, rfl, hS⟩))
  go_ret
  exact ⟨y, hy, rfl, hS.1⟩

set_option maxRecDepth 100000 in
set_option maxHeartbeats 1600000 in
theorem drawRootOf_any (a0 : Option Addr) (len cap : Nat) (hl : len ≤ 4611686018427387904) (w : World) (hC : Flt.Bytes w a0 len) :
    Calls Try.prog 37 #[.slice a0 len cap] w fun e w' => ∃ y : Nat, y < 4294967296 ∧ e = .returned (.float .f32 y) ∧ Grown w w' := by
  have fr := from_any a0 len cap hl w hC
  have nx := fun n hn w1 hS => next_any w a0 len cap w.heap.size hC hl n hn w1 hS
  have dn := fun w1 hS => drawNumber_any w a0 len cap w.heap.size hC hl w1 hS
  have br := fun x hx w1 hS => broken_any w a0 len cap w.heap.size hC hl x hx w1 hS
  clear hC hl
  go_enter Try.func37, Try.ntmps37
  go_wp2_with (first | (go_at_call 68; (with_reducible refine fr.mono ?_); rintro e w1 ⟨rfl, hS⟩) | (go_at_call 71; (with_reducible refine (nx _ (by omega) _ (by assumption)).mono ?_); rintro e w' ⟨r, rfl, r0, r1, hS1, _⟩) | (go_at_call 70; (with_reducible refine (dn _ (by assumption)).mono ?_); rintro e w2 ⟨p, p0, p1, rfl, hS⟩) | (go_at_call 69; (with_reducible refine (br _ (by first | exact sw_word_lt _ (by assumption) (by assumption) | exact neg_lt (sw_word_lt _ (by assumption) (by assumption))) _ (by assumption)).mono ?_); rintro e w3 ⟨y, hy, rfl, hS⟩))
  all_goals go_ret
  all_goals exact ⟨y, hy, rfl, hS.1⟩
end Go.Proofs.Ytbojaddojhemeaa
