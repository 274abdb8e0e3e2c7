/- Walks: tables: the law's comparison. -/
import Derived.Test.YtbojaddojhemeaaVa
import Derived.Test.YtbojaddojhemeaaWe
namespace Go.Proofs.Ytbojaddojhemeaa
open Ieee Go.Flt Go.RowKit

theorem ff (x : Nat) (hx : single.fin x) (w : World) : (Conv.floatToFloat .f32 x .f64).run Try.prog w = .ok (.float .f64 (wid x)) w := by
  have h := run_widen_fin x hx w
  simpa [convert, run_underlying Try.underlying23, run_underlying Try.underlying27] using h
theorem run_widen_complex (x y : Nat) (hx : single.fin x) (hy : single.fin y) (w : World) : (convert 43 103 (.complex .f32 x y)).run Try.prog w = .ok (.complex .f64 (wid x) (wid y)) w := by
  simp [convert, run_underlying Try.underlying43, run_underlying Try.underlying103, Conv.complexToComplex, ff x hx, ff y hy]

set_option maxRecDepth 100000 in
theorem sameComplex_self (x y U V : Nat) (s t : Bool) (hx : IsD x s U) (hy : IsD y t V) (w : World) :
    Calls Try.prog 92 #[.complex .f64 x y, .complex .f64 x y] w fun e w' => e = .returned (.bool true) ∧ w = w' := by
  have c1 := sameFloat_any x hx
  have c2 := sameFloat_any y hy
  clear hx hy
  go_enter Try.func92, Try.ntmps92
  go_wp2_with (go_at_call 15; (first | (with_reducible refine (c1 _).mono ?_) | (with_reducible refine (c2 _).mono ?_)); rintro e w' ⟨rfl, rfl⟩)
  go_ret
  exact ⟨rfl, rfl⟩

set_option maxRecDepth 100000 in
set_option maxHeartbeats 1600000 in
theorem eqPair_self (a b c d : Nat) (hf : single.fin a ∧ single.fin b ∧ single.fin c ∧ single.fin d) (w : World) :
    Calls Try.prog 61 #[.agg #[.complex .f32 a b, .complex .f32 c d], .agg #[.complex .f32 a b, .complex .f32 c d]] w fun e w' => e = .returned (.bool true) ∧ ∃ n, ((w.alloc (.cells #[.complex .f32 a b, .complex .f32 c d] 44)).alloc (.cells #[.complex .f32 a b, .complex .f32 c d] 44)).drewN n = w' := by
  have e1 := run_widen_complex a b hf.1 hf.2.1
  have e2 := run_widen_complex c d hf.2.2.1 hf.2.2.2
  have c1 := sameComplex_self _ _ _ _ _ _ (wid_isD hf.1 rfl) (wid_isD hf.2.1 rfl)
  have c2 := sameComplex_self _ _ _ _ _ _ (wid_isD hf.2.2.1 rfl) (wid_isD hf.2.2.2 rfl)
  generalize wid a = A at *
  generalize wid b = B at *
  generalize wid c = C at *
  generalize wid d = D at *
  clear hf
  go_enter Try.func61, Try.ntmps61
  go_wp2_with fail
  refine wp_loop_rounds 3 ?_
  rw [rounds_succ]
  go_wp2_with fail
  go_region_held3 (fun w' => w'.cell? ⟨w.heap.size, 0, none⟩ = some (.complex .f32 a b) ∧ w'.cell? ⟨w.heap.size, 1, none⟩ = some (.complex .f32 c d) ∧ w'.cell? ⟨w.heap.size + 1, 0, none⟩ = some (.complex .f32 a b) ∧ w'.cell? ⟨w.heap.size + 1, 1, none⟩ = some (.complex .f32 c d)) (go_keep) (first | (go_at_call 92; (with_reducible refine (c1 _).mono ?_); rintro e w' ⟨rfl, rfl⟩))
  rename_i hH
  clear hH
  go_wp2_with fail
  rw [rounds_succ]
  go_wp2_with fail
  go_region_held3 (fun w' => w'.cell? ⟨w.heap.size, 0, none⟩ = some (.complex .f32 a b) ∧ w'.cell? ⟨w.heap.size, 1, none⟩ = some (.complex .f32 c d) ∧ w'.cell? ⟨w.heap.size + 1, 0, none⟩ = some (.complex .f32 a b) ∧ w'.cell? ⟨w.heap.size + 1, 1, none⟩ = some (.complex .f32 c d)) (go_keep) (first | (go_at_call 92; (with_reducible refine (c2 _).mono ?_); rintro e w' ⟨rfl, rfl⟩))
  rename_i hH
  clear hH
  go_wp2_with fail
  rw [rounds_succ]
  go_wp2_with fail
  go_returns
  exact ⟨rfl, 2, rfl⟩
end Go.Proofs.Ytbojaddojhemeaa
