/- Walks: the law on DotVectors: the walk of the law. -/
import Derived.Test.YtbojaddojhemeaaUd
import Derived.Deep.RegionWith
namespace Go.Proofs.Ytbojaddojhemeaa
open Ieee Go.Flt Go.RowKit

set_option maxRecDepth 100000 in
set_option maxHeartbeats 8000000 in
theorem fnDot_of (x0 x1 x2 y0 y1 y2 y : Nat) (c : Int) (hy : single.fin y) (w : World)
    (h1 : ∀ w, Calls Try.prog 20 #[.agg #[.float .f32 x0, .float .f32 x1, .float .f32 x2], .agg #[.float .f32 y0, .float .f32 y1, .float .f32 y2]] w fun e w' => e = .returned (.tuple #[.float .f32 y, .int .i64 c]) ∧ Grown w w')
    (h2 : ∀ w, Calls Try.prog 22 #[.agg #[.float .f32 x0, .float .f32 x1, .float .f32 x2], .agg #[.float .f32 y0, .float .f32 y1, .float .f32 y2]] w fun e w' => e = .returned (.tuple #[.float .f32 y, .int .i64 c]) ∧ Grown w w') :
    Calls Try.prog 7 #[.agg #[.float .f32 x0, .float .f32 x1, .float .f32 x2], .agg #[.float .f32 y0, .float .f32 y1, .float .f32 y2]] w fun e w' => e = .returned (.bool true) ∧ Grown w w' := by
  have tx := toVector_ex x0 x1 x2
  have ty := toVector_ex y0 y1 y2
  have hc := run_widen_fin _ hy
  have c3 := sameFloat_any _ (wid_isD hy rfl)
  generalize wid y = z at c3 hc
  clear hy
  go_enter Try.func7, Try.ntmps7
  go_wp2_with fail
  go_region_with (first | (go_at_call 21; (first | (with_reducible refine (tx _).mono ?_) | (with_reducible refine (ty _).mono ?_)); rintro e w' ⟨rfl, rfl⟩) | (go_at_call 20; (with_reducible refine (h1 _).mono ?_); rintro e w1 ⟨rfl, g1⟩; have hk00 := grown_cell g1 (a := ⟨w.heap.size, 0, none⟩) (v := .float .f32 x0) (by simp [go_sem]); have hk01 := grown_cell g1 (a := ⟨w.heap.size, 1, none⟩) (v := .float .f32 x1) (by simp [go_sem]); have hk02 := grown_cell g1 (a := ⟨w.heap.size, 2, none⟩) (v := .float .f32 x2) (by simp [go_sem]); have hk10 := grown_cell g1 (a := ⟨w.heap.size + 1, 0, none⟩) (v := .float .f32 y0) (by simp [go_sem]); have hk11 := grown_cell g1 (a := ⟨w.heap.size + 1, 1, none⟩) (v := .float .f32 y1) (by simp [go_sem]); have hk12 := grown_cell g1 (a := ⟨w.heap.size + 1, 2, none⟩) (v := .float .f32 y2) (by simp [go_sem]); have hb0 : w.heap.size < w1.heap.size := World.block_lt_of_cell? w1 _ hk00; have hb1 : w.heap.size + 1 < w1.heap.size := World.block_lt_of_cell? w1 _ hk10; have hc0 : w.heap.size < w1.heap.size + 1 := (by omega); have hc1 : w.heap.size + 1 < w1.heap.size + 1 := (by omega); have hd0 : w.heap.size < w1.heap.size + 1 + 1 := (by omega); have hd1 : w.heap.size + 1 < w1.heap.size + 1 + 1 := by omega))
  all_goals go_wp2_with fail
  all_goals go_region_with (first | (go_at_call 21; (first | (with_reducible refine (tx _).mono ?_) | (with_reducible refine (ty _).mono ?_)); rintro e w' ⟨rfl, rfl⟩) | (go_at_call 22; (with_reducible refine (h2 _).mono ?_); rintro e w2 ⟨rfl, g2⟩))
  all_goals go_wp2_with (go_at_call 15; (with_reducible refine (c3 _).mono ?_); rintro e w' ⟨rfl, rfl⟩)
  all_goals go_ret
  all_goals exact ⟨rfl, grown_trans (grown_trans (by repeat (first | exact Grown.refl _ | refine Grown.alloc ?_ _ _ | refine Grown.drew ?_ | refine grown_drewN_of ?_ _)) g1) (grown_trans (by repeat (first | exact Grown.refl _ | refine Grown.alloc ?_ _ _ | refine Grown.drew ?_ | refine grown_drewN_of ?_ _)) g2)⟩
end Go.Proofs.Ytbojaddojhemeaa
