/- Walks: vectors: which are made of numbers; sums; what is told of a vector. -/
import Derived.Test.YtbojaddojhemeaaVa
import Derived.Test.YtbojaddojhemeaaWg
namespace Go.Proofs.Ytbojaddojhemeaa
open Ieee Go.Flt Go.RowKit

set_option maxRecDepth 100000 in
theorem isVector_of (x y z : Nat) (r : Int) (w : World)
    (h : ∀ w, w.cell? ⟨w.heap.size - 2, 0, none⟩ = some (.float .f32 x) → w.cell? ⟨w.heap.size - 2, 1, none⟩ = some (.float .f32 y) → w.cell? ⟨w.heap.size - 2, 2, none⟩ = some (.float .f32 z) → w.cell? ⟨w.heap.size - 1, 0, none⟩ = some (.func (.func 45) #[] #[]) →
      Calls Try.prog 102 #[.slice (some ⟨w.heap.size - 2, 0, none⟩) 3 3, .func (.func 90) #[] #[.pointer (some ⟨w.heap.size - 1, 0, none⟩)]] w fun e w' => e = .returned (.int .i64 r) ∧ ∃ n, w.drewN n = w') :
    Calls Try.prog 49 #[.agg #[.float .f32 x, .float .f32 y, .float .f32 z]] w fun e w' => e = .returned (.bool (!decide (0 ≤ r))) ∧ ∃ n, ((w.alloc (.cells #[.float .f32 x, .float .f32 y, .float .f32 z] 36)).alloc (.cells #[.func (.func 45) #[] #[]] 31)).drewN n = w' := by
  have hA := areAll_at (.slice (some ⟨w.heap.size, 0, none⟩) 3 3) r (w.alloc (.cells #[.float .f32 x, .float .f32 y, .float .f32 z] 36))
  have hI := h ((w.alloc (.cells #[.float .f32 x, .float .f32 y, .float .f32 z] 36)).alloc (.cells #[.func (.func 45) #[] #[]] 31)) (by simp [go_sem]) (by simp [go_sem]) (by simp [go_sem]) (by simp [go_sem])
  simp only [World.size_alloc, Nat.add_sub_cancel] at hI hA
  rw [show w.heap.size + 1 + 1 - 2 = w.heap.size from by omega] at hI
  have hA := hA hI
  clear h hI
  go_enter Try.func49, Try.ntmps49
  go_wp2_with (go_at_call 58; (with_reducible refine hA.mono ?_); rintro e w' ⟨rfl, n, rfl⟩)
  go_ret
  exact ⟨rfl, n, rfl⟩

theorem isVector_yes (x y z : Nat) (hx : single.fin x) (hy : single.fin y) (hz : single.fin z) (w : World) :
    Calls Try.prog 49 #[.agg #[.float .f32 x, .float .f32 y, .float .f32 z]] w fun e w' => e = .returned (.bool true) ∧ ∃ n, ((w.alloc (.cells #[.float .f32 x, .float .f32 y, .float .f32 z] 36)).alloc (.cells #[.func (.func 45) #[] #[]] 31)).drewN n = w' :=
  isVector_of x y z (-1) w fun w h0 h1 h2 hc => index3_all _ _ x y z hx hy hz w hc h0 h1 h2
theorem isVector_no (x y z : Nat) (h : ¬ (single.fin x ∧ single.fin y ∧ single.fin z)) (w : World) :
    Calls Try.prog 49 #[.agg #[.float .f32 x, .float .f32 y, .float .f32 z]] w fun e w' => e = .returned (.bool false) ∧ ∃ n, ((w.alloc (.cells #[.float .f32 x, .float .f32 y, .float .f32 z] 36)).alloc (.cells #[.func (.func 45) #[] #[]] 31)).drewN n = w' := by
  by_cases hx : single.fin x
  · by_cases hy : single.fin y
    · by_cases hz : single.fin z
      · exact absurd ⟨hx, hy, hz⟩ h
      · exact isVector_of x y z 2 w fun w h0 h1 h2 hc => index3_at2 _ _ x y z hx hy hz w hc h0 h1 h2
    · exact isVector_of x y z 1 w fun w h0 h1 h2 hc => index3_at1 _ _ x y hx hy w hc h0 h1
  · exact isVector_of x y z 0 w fun w h0 h1 h2 hc => index3_at0 _ _ x hx w hc h0

theorem l02Fine_yes (x y z : Nat) (hx : single.fin x) (hy : single.fin y) (hz : single.fin z) (w : World) :
    Calls Try.prog 81 #[.agg #[.float .f32 x, .float .f32 y, .float .f32 z]] w fun e w' => e = .returned (.bool true) ∧ ∃ n, (w.alloc (.cells #[.float .f32 x, .float .f32 y, .float .f32 z] 36)).drewN n = w' := by
  have c1 := l01Fine_fin x hx
  have c2 := l01Fine_fin y hy
  have c3 := l01Fine_fin z hz
  clear hx hy hz
  go_enter Try.func81, Try.ntmps81
  go_wp2_with (go_at_call 43; (first | (with_reducible refine (c1 _).mono ?_) | (with_reducible refine (c2 _).mono ?_) | (with_reducible refine (c3 _).mono ?_)); rintro e w' ⟨rfl, rfl⟩)
  go_ret
  exact ⟨rfl, 0, rfl⟩
theorem l02Fine_no (x y z : Nat) (h : ¬ (single.fin x ∧ single.fin y ∧ single.fin z)) (w : World) :
    Calls Try.prog 81 #[.agg #[.float .f32 x, .float .f32 y, .float .f32 z]] w fun e w' => e = .returned (.bool false) ∧ ∃ n, (w.alloc (.cells #[.float .f32 x, .float .f32 y, .float .f32 z] 36)).drewN n = w' := by
  by_cases hx : single.fin x
  · have c1 := l01Fine_fin x hx
    by_cases hy : single.fin y
    · have c2 := l01Fine_fin y hy
      have c3 := l01Fine_not z (fun hz => h ⟨hx, hy, hz⟩)
      clear hx hy h
      go_enter Try.func81, Try.ntmps81
      go_wp2_with (go_at_call 43; (first | (with_reducible refine (c1 _).mono ?_) | (with_reducible refine (c2 _).mono ?_) | (with_reducible refine (c3 _).mono ?_)); rintro e w' ⟨rfl, rfl⟩)
      go_ret
      exact ⟨rfl, _, rfl⟩
    · have c2 := l01Fine_not y hy
      clear hx hy h
      go_enter Try.func81, Try.ntmps81
      go_wp2_with (go_at_call 43; (first | (with_reducible refine (c1 _).mono ?_) | (with_reducible refine (c2 _).mono ?_)); rintro e w' ⟨rfl, rfl⟩)
      go_ret
      exact ⟨rfl, _, rfl⟩
  · have c1 := l01Fine_not x hx
    clear hx h
    go_enter Try.func81, Try.ntmps81
    go_wp2_with (go_at_call 43; (with_reducible refine (c1 _).mono ?_); rintro e w' ⟨rfl, rfl⟩)
    go_ret
    exact ⟨rfl, _, rfl⟩

theorem add_of (b o x y r : Nat) (k : Int) (hk : 0 ≤ k) (hr : floatBits .add .f32 x y = some r) (w : World) (hc : w.cell? ⟨b, o, none⟩ = some (.int .i64 k)) (hf : w.frozen? ⟨b, o, none⟩ = false) :
    Calls Try.prog 54 #[.pointer (some ⟨b, o, none⟩), .float .f32 x, .float .f32 y] w fun e w' => e = .returned (.float .f32 (rv k r)) ∧ ∃ n, (w.setCell ⟨b, o, none⟩ (.int .i64 (rc k r))).drewN n = w' := by
  have hop : ∀ t w, (binOp .add t (.float .f32 x) (.float .f32 y)).run Try.prog w = .ok (.float .f32 r) w := fun t w => run_float_arith w .add t .f32 x y r hr
  have c1 := round_any b o r k hk w hc hf
  clear hr hk
  go_enter Try.func54, Try.ntmps54
  go_wp2_with (go_at_call 86; (with_reducible refine c1.mono ?_); rintro e w' ⟨rfl, n, rfl⟩)
  go_ret
  exact ⟨rfl, n, rfl⟩
theorem mul_of (b o x y r : Nat) (k : Int) (hk : 0 ≤ k) (hr : floatBits .mul .f32 x y = some r) (w : World) (hc : w.cell? ⟨b, o, none⟩ = some (.int .i64 k)) (hf : w.frozen? ⟨b, o, none⟩ = false) :
    Calls Try.prog 84 #[.pointer (some ⟨b, o, none⟩), .float .f32 x, .float .f32 y] w fun e w' => e = .returned (.float .f32 (rv k r)) ∧ ∃ n, (w.setCell ⟨b, o, none⟩ (.int .i64 (rc k r))).drewN n = w' := by
  have hop : ∀ t w, (binOp .mul t (.float .f32 x) (.float .f32 y)).run Try.prog w = .ok (.float .f32 r) w := fun t w => run_float_arith w .mul t .f32 x y r hr
  have c1 := round_any b o r k hk w hc hf
  clear hr hk
  go_enter Try.func84, Try.ntmps84
  go_wp2_with (go_at_call 86; (with_reducible refine c1.mono ?_); rintro e w' ⟨rfl, n, rfl⟩)
  go_ret
  exact ⟨rfl, n, rfl⟩

set_option maxRecDepth 100000 in
theorem toldV_ok (b o : Nat) (x y z : Nat) (w : World) (hc : w.cell? ⟨b, o, none⟩ = some (.int .i64 0)) (hb : b < w.heap.size) :
    Calls Try.prog 55 #[.pointer (some ⟨b, o, none⟩), .agg #[.float .f32 x, .float .f32 y, .float .f32 z]] w fun e w' => e = .returned (.tuple #[.agg #[.float .f32 x, .float .f32 y, .float .f32 z], .int .i64 0]) ∧ (w.alloc (.cells #[.float .f32 x, .float .f32 y, .float .f32 z] 36)).alloc (.cells #[.float .f32 x, .float .f32 y, .float .f32 z] 36) = w' := by
  go_enter Try.func55, Try.ntmps55
  go_wp2
  go_returns
  exact ⟨rfl, rfl⟩
set_option maxRecDepth 100000 in
theorem toldV_err (b o : Nat) (x y z : Nat) (k : Int) (hk : 0 < k) (w : World) (hc : w.cell? ⟨b, o, none⟩ = some (.int .i64 k)) (hb : b < w.heap.size) :
    Calls Try.prog 55 #[.pointer (some ⟨b, o, none⟩), .agg #[.float .f32 x, .float .f32 y, .float .f32 z]] w fun e w' => e = .returned (.tuple #[.agg #[.float .f32 0, .float .f32 0, .float .f32 0], .int .i64 k]) ∧ (((w.alloc (.cells #[.float .f32 x, .float .f32 y, .float .f32 z] 36)).alloc (.cells #[.float .f32 0, .float .f32 0, .float .f32 0] 36)).alloc (.cells #[.float .f32 0, .float .f32 0, .float .f32 0] 36)).drewN 1 = w' := by
  have hb1 : b < w.heap.size + 1 := by omega
  have hb2 : b < w.heap.size + 1 + 1 := by omega
  go_enter Try.func55, Try.ntmps55
  go_wp2_with fail
  go_region
  all_goals go_wp2
  all_goals go_returns
  all_goals exact ⟨rfl, rfl⟩
end Go.Proofs.Ytbojaddojhemeaa
