/- Walks: vectors: copies, positive zeros, tests. -/
import Derived.Test.YtbojaddojhemeaaVi
import Derived.Test.YtbojaddojhemeaaCal
import Derived.Handy
import Derived.Deep.RegionHeld3
import Derived.Deep.QuietTactic
import Derived.BigQuiet
namespace Go.Proofs.Ytbojaddojhemeaa
open Ieee Go.Flt Go.RowKit

set_option maxRecDepth 100000 in
theorem toVector_any (x y z : Nat) (w : World) :
    Calls Try.prog 21 #[.agg #[.float .f32 x, .float .f32 y, .float .f32 z]] w fun e w' => e = .returned (.agg #[.float .f32 x, .float .f32 y, .float .f32 z]) ∧ Grown w w' := by
  go_enter Try.func21, Try.ntmps21
  go_wp2
  go_rounds 4
  go_returns
  exact ⟨rfl, by go_grown⟩

set_option maxRecDepth 100000 in
theorem l00Vector_fin (x y z : Nat) (hx : single.fin x) (hy : single.fin y) (hz : single.fin z) (w : World) :
    Calls Try.prog 53 #[.agg #[.float .f32 x, .float .f32 y, .float .f32 z]] w fun e w' => e = .returned (.agg #[.float .f32 (clr x), .float .f32 (clr y), .float .f32 (clr z)]) ∧ ((w.alloc (.cells #[.float .f32 x, .float .f32 y, .float .f32 z] 36)).alloc (.cells #[.float .f32 (clr x), .float .f32 (clr y), .float .f32 (clr z)] 36)).drew = w' := by
  have c1 := l00Float_fin x hx
  have c2 := l00Float_fin y hy
  have c3 := l00Float_fin z hz
  clear hx hy hz
  go_enter Try.func53, Try.ntmps53
  go_wp2_with fail
  go_region_held3 (fun w' => w'.cell? ⟨w.heap.size, 0, none⟩ = some (.float .f32 x) ∧ w'.cell? ⟨w.heap.size, 1, none⟩ = some (.float .f32 y) ∧ w'.cell? ⟨w.heap.size, 2, none⟩ = some (.float .f32 z)) (go_keep)
    (first | (go_at_call 40; (first | (with_reducible refine (c1 _).mono ?_) | (with_reducible refine (c2 _).mono ?_) | (with_reducible refine (c3 _).mono ?_)); rintro e w' ⟨rfl, rfl⟩))
  rename_i hH
  clear hH
  go_wp2
  go_returns
  exact ⟨rfl, rfl⟩

theorem contains_at (sv fv : Value) (r : Int) (w : World) (h : Calls Try.prog 102 #[sv, fv] w fun e w' => e = .returned (.int .i64 r) ∧ ∃ n, w.drewN n = w') :
    Calls Try.prog 89 #[sv, fv] w fun e w' => e = .returned (.bool (decide (0 ≤ r))) ∧ ∃ n, w.drewN n = w' := by
  go_enter Try.func89, Try.ntmps89
  go_wp2_with (go_at_call 102; (with_reducible refine h.mono ?_); rintro e w' ⟨rfl, n, rfl⟩)
  go_ret
  exact ⟨rfl, n, rfl⟩

theorem areAll_at (sv : Value) (r : Int) (w : World) (h : Calls Try.prog 102 #[sv, .func (.func 90) #[] #[.pointer (some ⟨w.heap.size, 0, none⟩)]] (w.alloc (.cells #[.func (.func 45) #[] #[]] 31)) fun e w' => e = .returned (.int .i64 r) ∧ ∃ n, (w.alloc (.cells #[.func (.func 45) #[] #[]] 31)).drewN n = w') :
    Calls Try.prog 58 #[sv, .func (.func 45) #[] #[]] w fun e w' => e = .returned (.bool (!decide (0 ≤ r))) ∧ ∃ n, (w.alloc (.cells #[.func (.func 45) #[] #[]] 31)).drewN n = w' := by
  have hmf : ∀ (fn : Fn) (first cap : Array Value) (w : World), (Instr.makeFunc fn first cap).run Try.prog w = .ok (.func fn first cap) w := fun _ _ _ _ => rfl
  have hc := contains_at _ _ _ _ h
  go_enter Try.func58, Try.ntmps58
  go_wp2_with (go_at_call 89; (with_reducible refine hc.mono ?_); rintro e w' ⟨rfl, n, rfl⟩)
  go_ret
  exact ⟨rfl, n, rfl⟩
end Go.Proofs.Ytbojaddojhemeaa
