/- Halved turns, by the program. -/
import Derived.Test.YtbojaddojhemeaaHe
namespace Go.Proofs.Ytbojaddojhemeaa
open Ieee Go.Flt Go.RowKit

set_option maxRecDepth 100000 in
set_option maxHeartbeats 1600000 in
theorem halvedTurn_0 (b o n : Nat) (hn : n ≤ 24) (m1 : single.fin (Op.negFloat .f32 (hvS n))) (m2 : single.fin (Op.negFloat .f32 0)) (m3 : single.fin (Op.negFloat .f32 0)) (w : World) (hc : w.cell? ⟨b, o, none⟩ = some (.int .i64 0)) :
    Calls Try.prog 67 #[.pointer (some ⟨b, o, none⟩), .int .i64 0, .int .i64 n] w fun e w' => e = .returned (.agg #[.complex .f32 (clr (hvC n)) (clr (Op.negFloat .f32 0)), .complex .f32 (clr (Op.negFloat .f32 0)) (clr (Op.negFloat .f32 (hvS n))), .complex .f32 (clr 0) (clr (Op.negFloat .f32 (hvS n))), .complex .f32 (clr (hvC n)) (clr 0)]) ∧ ((((w.alloc (.cells #[.complex .f32 (clr (hvC n)) (clr (Op.negFloat .f32 0)), .complex .f32 (clr (Op.negFloat .f32 0)) (clr (Op.negFloat .f32 (hvS n))), .complex .f32 (clr 0) (clr (Op.negFloat .f32 (hvS n))), .complex .f32 (clr (hvC n)) (clr 0)] 46)).alloc (.cells #[.float .f32 (hvC n), .float .f32 (hvS n), .float .f32 0, .float .f32 0] 49)).alloc (.cells #[.float .f32 (hvC n), .float .f32 (hvS n), .float .f32 0, .float .f32 0] 49)).alloc (.cells #[.complex .f32 (clr (hvC n)) (clr (Op.negFloat .f32 0)), .complex .f32 (clr (Op.negFloat .f32 0)) (clr (Op.negFloat .f32 (hvS n))), .complex .f32 (clr 0) (clr (Op.negFloat .f32 (hvS n))), .complex .f32 (clr (hvC n)) (clr 0)] 46)).drew = w' := by
  have hl := fun w => iHalved b o n hn w
  have hf := hv_fin n hn
  have op := fun w => ofParts_fin b o (hvC n) (hvS n) 0 0 _ _ _ rfl rfl rfl hf.1 fin_zero fin_zero m1 m2 m3 w
  have hb : b < w.heap.size := World.block_lt_of_cell? w _ hc
  have hb1 : b < w.heap.size + 1 := by omega
  have hb2 : b < w.heap.size + 1 + 1 := by omega
  have hb3 : b < w.heap.size + 1 + 1 + 1 := by omega
  have hn0 : b ≠ w.heap.size := by omega
  clear hf m1 m2 m3
  go_enter Try.func67, Try.ntmps67
  go_wp2_with (first | (go_at_call 97; (with_reducible refine (hl _ ?_).mono ?_); (simp [go_sem, *]); rintro e w' ⟨rfl, rfl⟩) | (go_at_call 60; (with_reducible refine (op _ ?_).mono ?_); (simp [go_sem, *]); rintro e w' ⟨rfl, rfl⟩))
  go_returns
  exact ⟨rfl, rfl⟩

set_option maxRecDepth 100000 in
set_option maxHeartbeats 1600000 in
theorem halvedTurn_1 (b o n : Nat) (hn : n ≤ 24) (m1 : single.fin (Op.negFloat .f32 0)) (m2 : single.fin (Op.negFloat .f32 (hvS n))) (m3 : single.fin (Op.negFloat .f32 0)) (w : World) (hc : w.cell? ⟨b, o, none⟩ = some (.int .i64 0)) :
    Calls Try.prog 67 #[.pointer (some ⟨b, o, none⟩), .int .i64 1, .int .i64 n] w fun e w' => e = .returned (.agg #[.complex .f32 (clr (hvC n)) (clr (Op.negFloat .f32 0)), .complex .f32 (clr (Op.negFloat .f32 (hvS n))) (clr (Op.negFloat .f32 0)), .complex .f32 (clr (hvS n)) (clr (Op.negFloat .f32 0)), .complex .f32 (clr (hvC n)) (clr 0)]) ∧ ((((w.alloc (.cells #[.complex .f32 (clr (hvC n)) (clr (Op.negFloat .f32 0)), .complex .f32 (clr (Op.negFloat .f32 (hvS n))) (clr (Op.negFloat .f32 0)), .complex .f32 (clr (hvS n)) (clr (Op.negFloat .f32 0)), .complex .f32 (clr (hvC n)) (clr 0)] 46)).alloc (.cells #[.float .f32 (hvC n), .float .f32 0, .float .f32 (hvS n), .float .f32 0] 49)).alloc (.cells #[.float .f32 (hvC n), .float .f32 0, .float .f32 (hvS n), .float .f32 0] 49)).alloc (.cells #[.complex .f32 (clr (hvC n)) (clr (Op.negFloat .f32 0)), .complex .f32 (clr (Op.negFloat .f32 (hvS n))) (clr (Op.negFloat .f32 0)), .complex .f32 (clr (hvS n)) (clr (Op.negFloat .f32 0)), .complex .f32 (clr (hvC n)) (clr 0)] 46)).drew = w' := by
  have hl := fun w => iHalved b o n hn w
  have hf := hv_fin n hn
  have op := fun w => ofParts_fin b o (hvC n) 0 (hvS n) 0 _ _ _ rfl rfl rfl hf.1 hf.2 fin_zero m1 m2 m3 w
  have hb : b < w.heap.size := World.block_lt_of_cell? w _ hc
  have hb1 : b < w.heap.size + 1 := by omega
  have hb2 : b < w.heap.size + 1 + 1 := by omega
  have hb3 : b < w.heap.size + 1 + 1 + 1 := by omega
  have hn0 : b ≠ w.heap.size := by omega
  clear hf m1 m2 m3
  go_enter Try.func67, Try.ntmps67
  go_wp2_with (first | (go_at_call 97; (with_reducible refine (hl _ ?_).mono ?_); (simp [go_sem, *]); rintro e w' ⟨rfl, rfl⟩) | (go_at_call 60; (with_reducible refine (op _ ?_).mono ?_); (simp [go_sem, *]); rintro e w' ⟨rfl, rfl⟩))
  go_returns
  exact ⟨rfl, rfl⟩

set_option maxRecDepth 100000 in
set_option maxHeartbeats 1600000 in
theorem halvedTurn_2 (b o n : Nat) (hn : n ≤ 24) (m1 : single.fin (Op.negFloat .f32 0)) (m2 : single.fin (Op.negFloat .f32 0)) (m3 : single.fin (Op.negFloat .f32 (hvS n))) (w : World) (hc : w.cell? ⟨b, o, none⟩ = some (.int .i64 0)) :
    Calls Try.prog 67 #[.pointer (some ⟨b, o, none⟩), .int .i64 2, .int .i64 n] w fun e w' => e = .returned (.agg #[.complex .f32 (clr (hvC n)) (clr (Op.negFloat .f32 (hvS n))), .complex .f32 (clr (Op.negFloat .f32 0)) (clr (Op.negFloat .f32 0)), .complex .f32 (clr 0) (clr (Op.negFloat .f32 0)), .complex .f32 (clr (hvC n)) (clr (hvS n))]) ∧ ((((w.alloc (.cells #[.complex .f32 (clr (hvC n)) (clr (Op.negFloat .f32 (hvS n))), .complex .f32 (clr (Op.negFloat .f32 0)) (clr (Op.negFloat .f32 0)), .complex .f32 (clr 0) (clr (Op.negFloat .f32 0)), .complex .f32 (clr (hvC n)) (clr (hvS n))] 46)).alloc (.cells #[.float .f32 (hvC n), .float .f32 0, .float .f32 0, .float .f32 (hvS n)] 49)).alloc (.cells #[.float .f32 (hvC n), .float .f32 0, .float .f32 0, .float .f32 (hvS n)] 49)).alloc (.cells #[.complex .f32 (clr (hvC n)) (clr (Op.negFloat .f32 (hvS n))), .complex .f32 (clr (Op.negFloat .f32 0)) (clr (Op.negFloat .f32 0)), .complex .f32 (clr 0) (clr (Op.negFloat .f32 0)), .complex .f32 (clr (hvC n)) (clr (hvS n))] 46)).drew = w' := by
  have hl := fun w => iHalved b o n hn w
  have hf := hv_fin n hn
  have op := fun w => ofParts_fin b o (hvC n) 0 0 (hvS n) _ _ _ rfl rfl rfl hf.1 fin_zero hf.2 m1 m2 m3 w
  have hb : b < w.heap.size := World.block_lt_of_cell? w _ hc
  have hb1 : b < w.heap.size + 1 := by omega
  have hb2 : b < w.heap.size + 1 + 1 := by omega
  have hb3 : b < w.heap.size + 1 + 1 + 1 := by omega
  have hn0 : b ≠ w.heap.size := by omega
  clear hf m1 m2 m3
  go_enter Try.func67, Try.ntmps67
  go_wp2_with (first | (go_at_call 97; (with_reducible refine (hl _ ?_).mono ?_); (simp [go_sem, *]); rintro e w' ⟨rfl, rfl⟩) | (go_at_call 60; (with_reducible refine (op _ ?_).mono ?_); (simp [go_sem, *]); rintro e w' ⟨rfl, rfl⟩))
  go_returns
  exact ⟨rfl, rfl⟩
end Go.Proofs.Ytbojaddojhemeaa
