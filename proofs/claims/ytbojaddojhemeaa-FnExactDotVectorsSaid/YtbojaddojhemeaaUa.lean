/- Walks: dots of vectors, by the program's calculator. -/
import Derived.Test.YtbojaddojhemeaaVc
import Derived.Test.YtbojaddojhemeaaDp
import Derived.Deep.RegionWith
namespace Go.Proofs.Ytbojaddojhemeaa
open Ieee Go.Flt Go.RowKit

set_option maxRecDepth 100000 in
set_option maxHeartbeats 1600000 in
theorem dot_any (b o x0 x1 x2 y0 y1 y2 p0 p1 p2 t1 t2 : Nat) (k1 k2 k3 k4 k5 : Int)
    (g0 : floatBits .mul .f32 x0 y0 = some p0) (g1 : floatBits .mul .f32 x1 y1 = some p1) (g2 : floatBits .mul .f32 x2 y2 = some p2)
    (q1 : k1 = rc 0 p0) (q2 : k2 = rc k1 p1) (q3 : k3 = rc k2 t1) (q4 : k4 = rc k3 p2) (q5 : k5 = rc k4 t2)
    (a1 : floatBits .add .f32 (rv 0 p0) (rv k1 p1) = some t1) (a2 : floatBits .add .f32 (rv k2 t1) (rv k3 p2) = some t2)
    (w : World) (hc : w.cell? ⟨b, o, none⟩ = some (.int .i64 0)) (hf : w.frozen? ⟨b, o, none⟩ = false) :
    Calls Try.prog 51 #[.pointer (some ⟨b, o, none⟩), .agg #[.float .f32 x0, .float .f32 x1, .float .f32 x2], .agg #[.float .f32 y0, .float .f32 y1, .float .f32 y2]] w fun e w' => e = .returned (.float .f32 (rv k4 t2)) ∧ ∃ n, (((w.setCell ⟨b, o, none⟩ (.int .i64 k5)).alloc (.cells #[.float .f32 x0, .float .f32 x1, .float .f32 x2] 36)).alloc (.cells #[.float .f32 y0, .float .f32 y1, .float .f32 y2] 36)).drewN n = w' := by
  have n0 : (0 : Int) ≤ 0 := by omega
  have n1 : 0 ≤ k1 := q1 ▸ rc_nonneg n0 p0
  have n2 : 0 ≤ k2 := q2 ▸ rc_nonneg n1 p1
  have n3 : 0 ≤ k3 := q3 ▸ rc_nonneg n2 t1
  have n4 : 0 ≤ k4 := q4 ▸ rc_nonneg n3 p2
  have m0 := fun b o => mul_of b o x0 y0 p0 0 n0 g0
  have m1 := fun b o => mul_of b o x1 y1 p1 k1 n1 g1
  have m2 := fun b o => mul_of b o x2 y2 p2 k3 n3 g2
  have s1 := fun b o => add_of b o _ _ t1 k2 n2 a1
  have s2 := fun b o => add_of b o _ _ t2 k4 n4 a2
  rw [← q1] at m0
  rw [← q2] at m1
  rw [← q4] at m2
  rw [← q3] at s1
  rw [← q5] at s2
  clear q1 q2 q3 q4 q5 a1 a2 g0 g1 g2 n0 n1 n2 n3 n4
  generalize rv 0 p0 = v0 at *
  generalize rv k1 p1 = v1 at *
  generalize rv k2 t1 = v2 at *
  generalize rv k3 p2 = v3 at *
  generalize rv k4 t2 = v4 at *
  have hb : b < w.heap.size := World.block_lt_of_cell? w _ hc
  have hb1 : b < w.heap.size + 1 := by omega
  have hn0 : b ≠ w.heap.size := by omega
  have hn1 : b ≠ w.heap.size + 1 := by omega
  have hm0 : w.heap.size ≠ b := by omega
  have hm1 : w.heap.size + 1 ≠ b := by omega
  go_enter Try.func51, Try.ntmps51
  go_wp2_with (go_at_call 84; (with_reducible refine (m0 _ _ _ ?_ ?_).mono ?_); (simp [go_sem, *]); (simp [go_sem, *]); rintro e w' ⟨rfl, n, rfl⟩)
  refine wp_loop_rounds 3 ?_
  rw [rounds_succ]
  go_wp2_with fail
  (go_region_with (first | (go_at_call 54; (with_reducible refine (s1 _ _ _ ?_ ?_).mono ?_); (simp [go_sem, *]); (simp [go_sem, *]); rintro e w' ⟨rfl, n, rfl⟩) | (go_at_call 84; (with_reducible refine (m1 _ _ _ ?_ ?_).mono ?_); (simp [go_sem, *]); (simp [go_sem, *]); rintro e w' ⟨rfl, n, rfl⟩)))
  all_goals go_wp2_with fail
  all_goals rw [rounds_succ]
  all_goals go_wp2_with fail
  all_goals (go_region_with (first | (go_at_call 54; (with_reducible refine (s2 _ _ _ ?_ ?_).mono ?_); (simp [go_sem, *]); (simp [go_sem, *]); rintro e w' ⟨rfl, n, rfl⟩) | (go_at_call 84; (with_reducible refine (m2 _ _ _ ?_ ?_).mono ?_); (simp [go_sem, *]); (simp [go_sem, *]); rintro e w' ⟨rfl, n, rfl⟩)))
  all_goals go_wp2_with fail
  all_goals rw [rounds_succ]
  all_goals go_wp2_with fail
  all_goals go_ret
  all_goals exact ⟨rfl, _, rfl⟩
end Go.Proofs.Ytbojaddojhemeaa
