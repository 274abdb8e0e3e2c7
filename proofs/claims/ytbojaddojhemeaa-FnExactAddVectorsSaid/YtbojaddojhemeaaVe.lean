/- Walks: the law on AddVectors. -/
import Derived.Test.YtbojaddojhemeaaVc
import Derived.Test.YtbojaddojhemeaaVd
import Derived.Test.YtbojaddojhemeaaGro
import Derived.Deep.Cut
import Derived.Deep.CutRange
import Derived.Deep.RegionWith
namespace Go.Proofs.Ytbojaddojhemeaa
open Ieee Go.Flt Go.RowKit

set_option maxRecDepth 100000 in
set_option maxHeartbeats 800000 in
theorem eqVector_self (x y z : Nat) (hx : single.fin x) (hy : single.fin y) (hz : single.fin z) (w : World) :
    Calls Try.prog 25 #[.agg #[.float .f32 x, .float .f32 y, .float .f32 z], .agg #[.float .f32 x, .float .f32 y, .float .f32 z]] w fun e w' => e = .returned (.bool true) ∧ Grown w w' := by
  have e1 := run_widen_fin x hx
  have e2 := run_widen_fin y hy
  have e3 := run_widen_fin z hz
  have c1 := sameFloat_any _ (wid_isD hx rfl)
  have c2 := sameFloat_any _ (wid_isD hy rfl)
  have c3 := sameFloat_any _ (wid_isD hz rfl)
  clear hx hy hz
  go_enter Try.func25, Try.ntmps25
  go_wp2_with fail
  refine wp_loop_rounds 4 ?_
  rw [rounds_succ]
  go_wp2_with fail
  go_region_held3 (fun w' => w'.cell? ⟨w.heap.size, 0, none⟩ = some (.float .f32 x) ∧ w'.cell? ⟨w.heap.size, 1, none⟩ = some (.float .f32 y) ∧ w'.cell? ⟨w.heap.size, 2, none⟩ = some (.float .f32 z) ∧ w'.cell? ⟨w.heap.size + 1, 0, none⟩ = some (.float .f32 x) ∧ w'.cell? ⟨w.heap.size + 1, 1, none⟩ = some (.float .f32 y) ∧ w'.cell? ⟨w.heap.size + 1, 2, none⟩ = some (.float .f32 z)) (go_keep) (first | (go_at_call 15; (with_reducible refine (c1 _).mono ?_); rintro e w' ⟨rfl, rfl⟩))
  rename_i hH
  clear hH
  go_wp2_with fail
  rw [rounds_succ]
  go_wp2_with fail
  go_region_held3 (fun w' => w'.cell? ⟨w.heap.size, 0, none⟩ = some (.float .f32 x) ∧ w'.cell? ⟨w.heap.size, 1, none⟩ = some (.float .f32 y) ∧ w'.cell? ⟨w.heap.size, 2, none⟩ = some (.float .f32 z) ∧ w'.cell? ⟨w.heap.size + 1, 0, none⟩ = some (.float .f32 x) ∧ w'.cell? ⟨w.heap.size + 1, 1, none⟩ = some (.float .f32 y) ∧ w'.cell? ⟨w.heap.size + 1, 2, none⟩ = some (.float .f32 z)) (go_keep) (first | (go_at_call 15; (with_reducible refine (c2 _).mono ?_); rintro e w' ⟨rfl, rfl⟩))
  rename_i hH
  clear hH
  go_wp2_with fail
  rw [rounds_succ]
  go_wp2_with fail
  go_region_held3 (fun w' => w'.cell? ⟨w.heap.size, 0, none⟩ = some (.float .f32 x) ∧ w'.cell? ⟨w.heap.size, 1, none⟩ = some (.float .f32 y) ∧ w'.cell? ⟨w.heap.size, 2, none⟩ = some (.float .f32 z) ∧ w'.cell? ⟨w.heap.size + 1, 0, none⟩ = some (.float .f32 x) ∧ w'.cell? ⟨w.heap.size + 1, 1, none⟩ = some (.float .f32 y) ∧ w'.cell? ⟨w.heap.size + 1, 2, none⟩ = some (.float .f32 z)) (go_keep) (first | (go_at_call 15; (with_reducible refine (c3 _).mono ?_); rintro e w' ⟨rfl, rfl⟩))
  rename_i hH
  clear hH
  go_wp2_with fail
  rw [rounds_succ]
  go_wp2_with fail
  go_returns
  exact ⟨rfl, by go_grown⟩

set_option maxRecDepth 100000 in
theorem toVector_ex (x y z : Nat) (w : World) :
    Calls Try.prog 21 #[.agg #[.float .f32 x, .float .f32 y, .float .f32 z]] w fun e w' => e = .returned (.agg #[.float .f32 x, .float .f32 y, .float .f32 z]) ∧ ((w.alloc (.cells #[.float .f32 x, .float .f32 y, .float .f32 z] 34)).alloc (.cells #[.float .f32 x, .float .f32 y, .float .f32 z] 36)).alloc (.cells #[.float .f32 x, .float .f32 y, .float .f32 z] 36) = w' := by
  go_enter Try.func21, Try.ntmps21
  go_wp2
  go_rounds 4
  go_returns
  exact ⟨rfl, rfl⟩

end Go.Proofs.Ytbojaddojhemeaa
