/- Walks: dots of vectors, by the program. -/
import Derived.Test.YtbojaddojhemeaaUa
namespace Go.Proofs.Ytbojaddojhemeaa
open Ieee Go.Flt Go.RowKit

set_option maxRecDepth 100000 in
theorem toldF_err (b o x : Nat) (k : Int) (hk : 0 < k) (w : World) (hc : w.cell? ⟨b, o, none⟩ = some (.int .i64 k)) :
    Calls Try.prog 50 #[.pointer (some ⟨b, o, none⟩), .float .f32 x] w fun e w' => e = .returned (.tuple #[.float .f32 0, .int .i64 k]) ∧ Grown w w' := by
  have hb : b < w.heap.size := World.block_lt_of_cell? w _ hc
  have hb1 : b < w.heap.size + 1 := by omega
  have hb2 : b < w.heap.size + 1 + 1 := by omega
  go_enter Try.func50, Try.ntmps50
  go_wp2_with fail
  go_region
  all_goals go_wp2
  all_goals go_returns
  all_goals exact ⟨rfl, grown_drewN_of (by go_grown) 1⟩

set_option maxRecDepth 100000 in
set_option maxHeartbeats 1600000 in
theorem iDot_ok (x0 x1 x2 y0 y1 y2 v : Nat) (hx : single.fin x0 ∧ single.fin x1 ∧ single.fin x2) (hy : single.fin y0 ∧ single.fin y1 ∧ single.fin y2)
    (dt : ∀ b o w, w.cell? ⟨b, o, none⟩ = some (.int .i64 0) → w.frozen? ⟨b, o, none⟩ = false → Calls Try.prog 51 #[.pointer (some ⟨b, o, none⟩), .agg #[.float .f32 x0, .float .f32 x1, .float .f32 x2], .agg #[.float .f32 y0, .float .f32 y1, .float .f32 y2]] w fun e w' => e = .returned (.float .f32 v) ∧ ∃ n, (((w.setCell ⟨b, o, none⟩ (.int .i64 0)).alloc (.cells #[.float .f32 x0, .float .f32 x1, .float .f32 x2] 36)).alloc (.cells #[.float .f32 y0, .float .f32 y1, .float .f32 y2] 36)).drewN n = w') (w : World) :
    Calls Try.prog 22 #[.agg #[.float .f32 x0, .float .f32 x1, .float .f32 x2], .agg #[.float .f32 y0, .float .f32 y1, .float .f32 y2]] w fun e w' => e = .returned (.tuple #[.float .f32 v, .int .i64 0]) ∧ Grown w w' := by
  have v1 := isVector_yes x0 x1 x2 hx.1 hx.2.1 hx.2.2
  have v2 := isVector_yes y0 y1 y2 hy.1 hy.2.1 hy.2.2
  have td := told_ok
  clear hx hy
  go_enter Try.func22, Try.ntmps22
  go_wp2_with (first | (go_at_call 49; (first | (with_reducible refine (v1 _).mono ?_) | (with_reducible refine (v2 _).mono ?_)); rintro e w' ⟨rfl, n, rfl⟩) | (go_at_call 51; (with_reducible refine (dt _ _ _ ?_ ?_).mono ?_); (simp [go_sem]); (simp [go_sem]); rintro e w' ⟨rfl, m, rfl⟩) | (go_at_call 50; (with_reducible refine (td _ _ _ _ ?_).mono ?_); (simp [go_sem]); rintro e w' ⟨rfl, rfl⟩))
  go_returns
  exact ⟨rfl, grown_drewN_of (by go_grown) _⟩

set_option maxRecDepth 100000 in
set_option maxHeartbeats 1600000 in
theorem iDot_lim (x0 x1 x2 y0 y1 y2 v : Nat) (hx : single.fin x0 ∧ single.fin x1 ∧ single.fin x2) (hy : single.fin y0 ∧ single.fin y1 ∧ single.fin y2)
    (dt : ∀ b o w, w.cell? ⟨b, o, none⟩ = some (.int .i64 0) → w.frozen? ⟨b, o, none⟩ = false → Calls Try.prog 51 #[.pointer (some ⟨b, o, none⟩), .agg #[.float .f32 x0, .float .f32 x1, .float .f32 x2], .agg #[.float .f32 y0, .float .f32 y1, .float .f32 y2]] w fun e w' => e = .returned (.float .f32 v) ∧ ∃ n, (((w.setCell ⟨b, o, none⟩ (.int .i64 3)).alloc (.cells #[.float .f32 x0, .float .f32 x1, .float .f32 x2] 36)).alloc (.cells #[.float .f32 y0, .float .f32 y1, .float .f32 y2] 36)).drewN n = w') (w : World) :
    Calls Try.prog 22 #[.agg #[.float .f32 x0, .float .f32 x1, .float .f32 x2], .agg #[.float .f32 y0, .float .f32 y1, .float .f32 y2]] w fun e w' => e = .returned (.tuple #[.float .f32 0, .int .i64 3]) ∧ Grown w w' := by
  have v1 := isVector_yes x0 x1 x2 hx.1 hx.2.1 hx.2.2
  have v2 := isVector_yes y0 y1 y2 hy.1 hy.2.1 hy.2.2
  have td := fun b o x => toldF_err b o x 3 (by omega)
  clear hx hy
  go_enter Try.func22, Try.ntmps22
  go_wp2_with (first | (go_at_call 49; (first | (with_reducible refine (v1 _).mono ?_) | (with_reducible refine (v2 _).mono ?_)); rintro e w' ⟨rfl, n, rfl⟩) | (go_at_call 51; (with_reducible refine (dt _ _ _ ?_ ?_).mono ?_); (simp [go_sem]); (simp [go_sem]); rintro e w' ⟨rfl, m, rfl⟩) | (go_at_call 50; (with_reducible refine (td _ _ _ _ ?_).mono ?_); (simp [go_sem]); rintro e w3 ⟨rfl, g3⟩))
  go_returns
  exact ⟨rfl, grown_trans (grown_drewN_of (by go_grown) _) g3⟩

set_option maxRecDepth 100000 in
theorem iDot_bad (x0 x1 x2 y0 y1 y2 : Nat) (h : ¬ ((single.fin x0 ∧ single.fin x1 ∧ single.fin x2) ∧ (single.fin y0 ∧ single.fin y1 ∧ single.fin y2))) (w : World) :
    Calls Try.prog 22 #[.agg #[.float .f32 x0, .float .f32 x1, .float .f32 x2], .agg #[.float .f32 y0, .float .f32 y1, .float .f32 y2]] w fun e w' => e = .returned (.tuple #[.float .f32 0, .int .i64 1]) ∧ Grown w w' := by
  by_cases hx : single.fin x0 ∧ single.fin x1 ∧ single.fin x2
  · have v1 := isVector_yes x0 x1 x2 hx.1 hx.2.1 hx.2.2
    have v2 := isVector_no y0 y1 y2 (fun hy => h ⟨hx, hy⟩)
    clear hx h
    go_enter Try.func22, Try.ntmps22
    go_wp2_with (go_at_call 49; (first | (with_reducible refine (v1 _).mono ?_) | (with_reducible refine (v2 _).mono ?_)); rintro e w' ⟨rfl, n, rfl⟩)
    go_returns
    exact ⟨rfl, grown_drewN_of (by go_grown) _⟩
  · have v1 := isVector_no x0 x1 x2 hx
    clear hx h
    go_enter Try.func22, Try.ntmps22
    go_wp2_with (go_at_call 49; (with_reducible refine (v1 _).mono ?_); rintro e w' ⟨rfl, n, rfl⟩)
    go_returns
    exact ⟨rfl, grown_drewN_of (by go_grown) _⟩
end Go.Proofs.Ytbojaddojhemeaa
