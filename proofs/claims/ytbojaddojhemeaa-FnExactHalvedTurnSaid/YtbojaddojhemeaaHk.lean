/- The law on HalvedTurn, for every two numbers. -/
import Derived.Test.YtbojaddojhemeaaHj
import Derived.Test.YtbojaddojhemeaaGro
namespace Go.Proofs.Ytbojaddojhemeaa
open Ieee Go.Flt Go.RowKit

set_option maxRecDepth 100000 in
set_option maxHeartbeats 20000000 in
theorem fnHT_of (a k c : Int) (v0 v1 v2 v3 v4 v5 v6 v7 : Nat) (f1 : single.fin v0 ∧ single.fin v1 ∧ single.fin v2 ∧ single.fin v3) (f2 : single.fin v4 ∧ single.fin v5 ∧ single.fin v6 ∧ single.fin v7) (w : World)
    (h1 : ∀ w, Calls Try.prog 32 #[.int .i64 a, .int .i64 k] w fun e w' => e = .returned (.tuple #[.agg #[.complex .f32 v0 v1, .complex .f32 v2 v3, .complex .f32 v4 v5, .complex .f32 v6 v7], .int .i64 c]) ∧ Grown w w')
    (h2 : ∀ w, Calls Try.prog 33 #[.int .i64 a, .int .i64 k] w fun e w' => e = .returned (.tuple #[.agg #[.complex .f32 v0 v1, .complex .f32 v2 v3, .complex .f32 v4 v5, .complex .f32 v6 v7], .int .i64 c]) ∧ Grown w w') :
    Calls Try.prog 11 #[.int .i64 a, .int .i64 k] w fun e w' => e = .returned (.bool true) ∧ Grown w w' := by
  have eq := eqTurn_self v0 v1 v2 v3 v4 v5 v6 v7 f1 f2
  clear f1 f2
  go_enter Try.func11, Try.ntmps11
  go_wp2_with (first | (go_at_call 32; (with_reducible refine (h1 _).mono ?_); rintro e w1 ⟨rfl, g1⟩) | (go_at_call 33; (with_reducible refine (h2 _).mono ?_); rintro e w2 ⟨rfl, g2⟩; have hy0 := grown_cell g2 (a := ⟨w1.heap.size, 0, none⟩) (v := .complex .f32 v0 v1) (by simp [go_sem]); have hy1 := grown_cell g2 (a := ⟨w1.heap.size, 1, none⟩) (v := .complex .f32 v2 v3) (by simp [go_sem]); have hy2 := grown_cell g2 (a := ⟨w1.heap.size, 2, none⟩) (v := .complex .f32 v4 v5) (by simp [go_sem]); have hy3 := grown_cell g2 (a := ⟨w1.heap.size, 3, none⟩) (v := .complex .f32 v6 v7) (by simp [go_sem]); have hr0 : w1.heap.size < w2.heap.size := World.block_lt_of_cell? w2 _ hy0; have hr1 : w1.heap.size < w2.heap.size + 1 := (by omega); have hr2 : w1.heap.size < w2.heap.size + 1 + 1 := (by omega)) | (go_at_call 29; (with_reducible refine (eq _).mono ?_); rintro e w3 ⟨rfl, g3⟩))
  go_ret
  exact ⟨rfl, grown_trans (grown_trans g1 (grown_trans (by repeat (first | exact Grown.refl _ | refine Grown.alloc ?_ _ _ | refine Grown.drew ?_)) g2)) (grown_trans (by repeat (first | exact Grown.refl _ | refine Grown.alloc ?_ _ _ | refine Grown.drew ?_)) g3)⟩

theorem fnHT (a k : Int) (w : World) :
    Calls Try.prog 11 #[.int .i64 a, .int .i64 k] w fun e w' => e = .returned (.bool true) ∧ Grown w w' := by
  by_cases h : (0 ≤ a ∧ a ≤ 2) ∧ 0 ≤ k ∧ k ≤ 24
  · obtain ⟨⟨h1, h2⟩, h3, h4⟩ := h
    obtain ⟨n, rfl⟩ := Int.eq_ofNat_of_zero_le h3
    have hn : n ≤ 24 := by omega
    have hf := hv_fin n hn
    have m0 : single.fin (Op.negFloat .f32 0) := neg_fin fin_zero (by decide)
    have ms := neg_fin hf.2 (hvS_lt n hn)
    have hc := clr_fin hf.1
    have hs := clr_fin hf.2
    have z0 := clr_fin fin_zero
    have z1 := clr_fin m0
    have zs := clr_fin ms
    have hax : a = 0 ∨ a = 1 ∨ a = 2 := by omega
    rcases hax with rfl | rfl | rfl
    · exact fnHT_of 0 n 0 _ _ _ _ _ _ _ _ ⟨hc, z1, z1, zs⟩ ⟨z0, zs, hc, z0⟩ w
        (sHT_of 0 n 0 _ _ _ _ _ _ _ _ ⟨hf.1, m0, m0, ms⟩ ⟨fin_zero, ms, hf.1, fin_zero⟩ (s0HT_0 n hn)) (iHT_0 n hn ms m0 m0)
    · exact fnHT_of 1 n 0 _ _ _ _ _ _ _ _ ⟨hc, z1, zs, z1⟩ ⟨hs, z1, hc, z0⟩ w
        (sHT_of 1 n 0 _ _ _ _ _ _ _ _ ⟨hf.1, m0, ms, m0⟩ ⟨hf.2, m0, hf.1, fin_zero⟩ (s0HT_1 n hn)) (iHT_1 n hn m0 ms m0)
    · exact fnHT_of 2 n 0 _ _ _ _ _ _ _ _ ⟨hc, zs, z1, z1⟩ ⟨z0, z1, hc, hs⟩ w
        (sHT_of 2 n 0 _ _ _ _ _ _ _ _ ⟨hf.1, ms, m0, m0⟩ ⟨fin_zero, m0, hf.1, hf.2⟩ (s0HT_2 n hn)) (iHT_2 n hn m0 m0 ms)
  · have f := (⟨fin_zero, fin_zero, fin_zero, fin_zero⟩ : single.fin 0 ∧ single.fin 0 ∧ single.fin 0 ∧ single.fin 0)
    exact fnHT_of a k 2 0 0 0 0 0 0 0 0 f f w (sHT_bad a k 2 0 0 0 0 0 0 0 0 f f (s0HT_bad a k h)) (iHT_bad a k h)
end Go.Proofs.Ytbojaddojhemeaa
