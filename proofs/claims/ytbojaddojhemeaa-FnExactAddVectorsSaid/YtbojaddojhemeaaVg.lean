/- Walks: the law on AddVectors. -/
import Derived.Test.YtbojaddojhemeaaVe
namespace Go.Proofs.Ytbojaddojhemeaa
open Ieee Go.Flt Go.RowKit

set_option maxRecDepth 100000 in
set_option maxHeartbeats 20000000 in
theorem fnAdd_of (x0 x1 x2 y0 y1 y2 r0 r1 r2 : Nat) (c : Int) (hr : single.fin r0 ∧ single.fin r1 ∧ single.fin r2) (w : World)
    (h1 : ∀ w, Calls Try.prog 23 #[.agg #[.float .f32 x0, .float .f32 x1, .float .f32 x2], .agg #[.float .f32 y0, .float .f32 y1, .float .f32 y2]] w fun e w' => e = .returned (.tuple #[.agg #[.float .f32 r0, .float .f32 r1, .float .f32 r2], .int .i64 c]) ∧ Grown w w')
    (h2 : ∀ w, Calls Try.prog 24 #[.agg #[.float .f32 x0, .float .f32 x1, .float .f32 x2], .agg #[.float .f32 y0, .float .f32 y1, .float .f32 y2]] w fun e w' => e = .returned (.tuple #[.agg #[.float .f32 r0, .float .f32 r1, .float .f32 r2], .int .i64 c]) ∧ Grown w w') :
    Calls Try.prog 8 #[.agg #[.float .f32 x0, .float .f32 x1, .float .f32 x2], .agg #[.float .f32 y0, .float .f32 y1, .float .f32 y2]] w fun e w' => e = .returned (.bool true) ∧ Grown w w' := by
  have tx := toVector_ex x0 x1 x2
  have ty := toVector_ex y0 y1 y2
  have eq := eqVector_self r0 r1 r2 hr.1 hr.2.1 hr.2.2
  clear hr
  have B0 : ∀ W, Grown ((w.alloc (.cells #[.float .f32 x0, .float .f32 x1, .float .f32 x2] 34)).alloc (.cells #[.float .f32 y0, .float .f32 y1, .float .f32 y2] 34)) W → Grown w W := fun W g => grown_trans (((Grown.refl w).alloc _ _).alloc _ _) g
  go_enter Try.func8, Try.ntmps8
  go_upto_region 1 with fail
  go_cut [5, 6] from 9 to 16 (fun s5 s6 wx => Ready ((w.alloc (.cells #[.float .f32 x0, .float .f32 x1, .float .f32 x2] 34)).alloc (.cells #[.float .f32 y0, .float .f32 y1, .float .f32 y2] 34)) s5 s6 (.float .f32 r0) (.float .f32 r1) (.float .f32 r2) c wx)
  case first =>
    go_region_with ((first | (go_at_call 21; (first | (with_reducible refine (tx _).mono ?_) | (with_reducible refine (ty _).mono ?_)); rintro e w1 ⟨rfl, rfl⟩) | (go_at_call 23; (with_reducible refine (h1 _).mono ?_); rintro e w1 ⟨rfl, g⟩; have hfz := g.2.1; have hk20 := grown_cell g (a := ⟨w.heap.size + 2, 0, none⟩) (v := .float .f32 0); have hk21 := grown_cell g (a := ⟨w.heap.size + 2, 1, none⟩) (v := .float .f32 0); have hk22 := grown_cell g (a := ⟨w.heap.size + 2, 2, none⟩) (v := .float .f32 0); have hk50 := grown_cell g (a := ⟨w.heap.size + 5, 0, none⟩) (v := .float .f32 0); have hk51 := grown_cell g (a := ⟨w.heap.size + 5, 1, none⟩) (v := .float .f32 0); have hk52 := grown_cell g (a := ⟨w.heap.size + 5, 2, none⟩) (v := .float .f32 0); have hk80 := grown_cell g (a := ⟨w.heap.size + 8, 0, none⟩) (v := .float .f32 0); have hk81 := grown_cell g (a := ⟨w.heap.size + 8, 1, none⟩) (v := .float .f32 0); have hk82 := grown_cell g (a := ⟨w.heap.size + 8, 2, none⟩) (v := .float .f32 0); simp [go_sem] at hk20 hk21 hk22 hk50 hk51 hk52 hk80 hk81 hk82)))
    all_goals (go_wp2_with fail; go_meet; first | exact Ready.of (grown_trans (by repeat (first | exact Grown.refl _ | refine Grown.alloc ?_ _ _ | refine Grown.drew ?_)) g) | exact Ready.set (by (try simp only [World.size_alloc]); omega) (grown_trans (by repeat (first | exact Grown.refl _ | refine Grown.alloc ?_ _ _ | refine Grown.drew ?_)) g) (by assumption) (by assumption) (by assumption))
  case rest =>
  obtain ⟨b, rfl, rfl, gB, k0, k1, k2⟩ := hcut
  have hx00 := grown_cell gB (a := ⟨w.heap.size, 0, none⟩) (v := .float .f32 x0) (by simp [go_sem])
  have hx01 := grown_cell gB (a := ⟨w.heap.size, 1, none⟩) (v := .float .f32 x1) (by simp [go_sem])
  have hx02 := grown_cell gB (a := ⟨w.heap.size, 2, none⟩) (v := .float .f32 x2) (by simp [go_sem])
  have hx10 := grown_cell gB (a := ⟨w.heap.size + 1, 0, none⟩) (v := .float .f32 y0) (by simp [go_sem])
  have hx11 := grown_cell gB (a := ⟨w.heap.size + 1, 1, none⟩) (v := .float .f32 y1) (by simp [go_sem])
  have hx12 := grown_cell gB (a := ⟨w.heap.size + 1, 2, none⟩) (v := .float .f32 y2) (by simp [go_sem])
  have hs00 : w.heap.size < wc.heap.size := World.block_lt_of_cell? wc _ hx00
  have hs10 : w.heap.size + 1 < wc.heap.size := World.block_lt_of_cell? wc _ hx10
  have hs01 : w.heap.size < wc.heap.size + 1 := by omega
  have hs02 : w.heap.size < wc.heap.size + 1 + 1 := by omega
  have hs03 : w.heap.size < wc.heap.size + 1 + 1 + 1 := by omega
  have hs04 : w.heap.size < wc.heap.size + 1 + 1 + 1 + 1 := by omega
  have hs11 : w.heap.size + 1 < wc.heap.size + 1 := by omega
  have hs12 : w.heap.size + 1 < wc.heap.size + 1 + 1 := by omega
  have hs13 : w.heap.size + 1 < wc.heap.size + 1 + 1 + 1 := by omega
  have hs14 : w.heap.size + 1 < wc.heap.size + 1 + 1 + 1 + 1 := by omega
  have gW : Grown w wc := B0 _ gB
  clear gB B0
  go_upto_region 2 with fail
  go_cut [7, 8] from 17 to 24 (fun s7 s8 wx => Ready wc s7 s8 (.float .f32 r0) (.float .f32 r1) (.float .f32 r2) c wx)
  case first =>
    go_region_with ((first | (go_at_call 21; (first | (with_reducible refine (tx _).mono ?_) | (with_reducible refine (ty _).mono ?_)); rintro e w1 ⟨rfl, rfl⟩) | (go_at_call 24; (with_reducible refine (h2 _).mono ?_); rintro e w1 ⟨rfl, g⟩; have hfz := g.2.1; have hk00 := grown_cell g (a := ⟨wc.heap.size, 0, none⟩) (v := .float .f32 0); have hk01 := grown_cell g (a := ⟨wc.heap.size, 1, none⟩) (v := .float .f32 0); have hk02 := grown_cell g (a := ⟨wc.heap.size, 2, none⟩) (v := .float .f32 0); have hk30 := grown_cell g (a := ⟨wc.heap.size + 3, 0, none⟩) (v := .float .f32 0); have hk31 := grown_cell g (a := ⟨wc.heap.size + 3, 1, none⟩) (v := .float .f32 0); have hk32 := grown_cell g (a := ⟨wc.heap.size + 3, 2, none⟩) (v := .float .f32 0); have hk60 := grown_cell g (a := ⟨wc.heap.size + 6, 0, none⟩) (v := .float .f32 0); have hk61 := grown_cell g (a := ⟨wc.heap.size + 6, 1, none⟩) (v := .float .f32 0); have hk62 := grown_cell g (a := ⟨wc.heap.size + 6, 2, none⟩) (v := .float .f32 0); simp [go_sem] at hk00 hk01 hk02 hk30 hk31 hk32 hk60 hk61 hk62)))
    all_goals (go_wp2_with fail; go_meet; first | exact Ready.of (grown_trans (by repeat (first | exact Grown.refl _ | refine Grown.alloc ?_ _ _ | refine Grown.drew ?_)) g) | exact Ready.set (by (try simp only [World.size_alloc]); omega) (grown_trans (by repeat (first | exact Grown.refl _ | refine Grown.alloc ?_ _ _ | refine Grown.drew ?_)) g) (by assumption) (by assumption) (by assumption))
  case rest =>
  rename_i wx
  obtain ⟨b', rfl, rfl, gC, m0, m1, m2⟩ := hcut
  have n0 := grown_cell gC k0
  have n1 := grown_cell gC k1
  have n2 := grown_cell gC k2
  clear hx00 hx01 hx02 hx10 hx11 hx12 k0 k1 k2
  go_wp2_with (go_at_call 25; (with_reducible refine (eq _).mono ?_); rintro e w3 ⟨rfl, g3⟩)
  go_ret
  exact ⟨rfl, grown_trans (grown_trans gW gC) g3⟩
end Go.Proofs.Ytbojaddojhemeaa
