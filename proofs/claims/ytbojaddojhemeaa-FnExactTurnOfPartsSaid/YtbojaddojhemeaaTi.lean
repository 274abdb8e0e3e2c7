/- Walks: the law on TurnOfParts. -/
import Derived.Test.YtbojaddojhemeaaTf
import Derived.Test.YtbojaddojhemeaaTh
import Derived.Test.YtbojaddojhemeaaGro
namespace Go.Proofs.Ytbojaddojhemeaa
open Ieee Go.Flt Go.RowKit

set_option maxRecDepth 100000 in
set_option maxHeartbeats 20000000 in
theorem fnTurn_of (x0 x1 x2 x3 v0 v1 v2 v3 v4 v5 v6 v7 : Nat) (c : Int) (f1 : single.fin v0 ∧ single.fin v1 ∧ single.fin v2 ∧ single.fin v3) (f2 : single.fin v4 ∧ single.fin v5 ∧ single.fin v6 ∧ single.fin v7) (w : World)
    (h1 : ∀ w, Calls Try.prog 26 #[.agg #[.float .f32 x0, .float .f32 x1, .float .f32 x2, .float .f32 x3]] w fun e w' => e = .returned (.tuple #[.agg #[.complex .f32 v0 v1, .complex .f32 v2 v3, .complex .f32 v4 v5, .complex .f32 v6 v7], .int .i64 c]) ∧ Grown w w')
    (h2 : ∀ w, Calls Try.prog 28 #[.agg #[.float .f32 x0, .float .f32 x1, .float .f32 x2, .float .f32 x3]] w fun e w' => e = .returned (.tuple #[.agg #[.complex .f32 v0 v1, .complex .f32 v2 v3, .complex .f32 v4 v5, .complex .f32 v6 v7], .int .i64 c]) ∧ Grown w w') :
    Calls Try.prog 9 #[.agg #[.float .f32 x0, .float .f32 x1, .float .f32 x2, .float .f32 x3]] w fun e w' => e = .returned (.bool true) ∧ Grown w w' := by
  have tx := toParts_ex x0 x1 x2 x3
  have eq := eqTurn_self v0 v1 v2 v3 v4 v5 v6 v7 f1 f2
  clear f1 f2
  go_enter Try.func9, Try.ntmps9
  go_wp2_with (first | (go_at_call 27; (with_reducible refine (tx _).mono ?_); rintro e w' ⟨rfl, rfl⟩) | (go_at_call 26; (with_reducible refine (h1 _).mono ?_); rintro e w1 ⟨rfl, g1⟩; have hx0 := grown_cell g1 (a := ⟨w.heap.size, 0, none⟩) (v := .float .f32 x0) (by simp [go_sem]); have hx1 := grown_cell g1 (a := ⟨w.heap.size, 1, none⟩) (v := .float .f32 x1) (by simp [go_sem]); have hx2 := grown_cell g1 (a := ⟨w.heap.size, 2, none⟩) (v := .float .f32 x2) (by simp [go_sem]); have hx3 := grown_cell g1 (a := ⟨w.heap.size, 3, none⟩) (v := .float .f32 x3) (by simp [go_sem]); have hs0 : w.heap.size < w1.heap.size := World.block_lt_of_cell? w1 _ hx0; have hs1 : w.heap.size < w1.heap.size + 1 := (by omega); have hs2 : w.heap.size < w1.heap.size + 1 + 1 := (by omega); have hs3 : w.heap.size < w1.heap.size + 1 + 1 + 1 := (by omega); have hs4 : w.heap.size < w1.heap.size + 1 + 1 + 1 + 1 := (by omega)) | (go_at_call 28; (with_reducible refine (h2 _).mono ?_); rintro e w2 ⟨rfl, g2⟩; have hy0 := grown_cell g2 (a := ⟨w1.heap.size, 0, none⟩) (v := .complex .f32 v0 v1) (by simp [go_sem]); have hy1 := grown_cell g2 (a := ⟨w1.heap.size, 1, none⟩) (v := .complex .f32 v2 v3) (by simp [go_sem]); have hy2 := grown_cell g2 (a := ⟨w1.heap.size, 2, none⟩) (v := .complex .f32 v4 v5) (by simp [go_sem]); have hy3 := grown_cell g2 (a := ⟨w1.heap.size, 3, none⟩) (v := .complex .f32 v6 v7) (by simp [go_sem]); have hr0 : w1.heap.size < w2.heap.size := World.block_lt_of_cell? w2 _ hy0; have hr1 : w1.heap.size < w2.heap.size + 1 := (by omega); have hr2 : w1.heap.size < w2.heap.size + 1 + 1 := (by omega)) | (go_at_call 29; (with_reducible refine (eq _).mono ?_); rintro e w3 ⟨rfl, g3⟩))
  go_ret
  exact ⟨rfl, grown_trans (grown_trans (grown_trans (by repeat (first | exact Grown.refl _ | refine Grown.alloc ?_ _ _ | refine Grown.drew ?_)) g1) (grown_trans (by repeat (first | exact Grown.refl _ | refine Grown.alloc ?_ _ _ | refine Grown.drew ?_)) g2)) (grown_trans (by repeat (first | exact Grown.refl _ | refine Grown.alloc ?_ _ _ | refine Grown.drew ?_)) g3)⟩
end Go.Proofs.Ytbojaddojhemeaa
