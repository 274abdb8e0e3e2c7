/- Walks: the first element of a list that is no number. -/
import Derived.Test.YtbojaddojhemeaaWe
import Derived.Test.YtbojaddojhemeaaCal
import Derived.Handy
import Derived.Deep.RegionHeld3
import Derived.Deep.QuietTactic
import Derived.BigQuiet
namespace Go.Proofs.Ytbojaddojhemeaa
open Ieee Go.Flt Go.RowKit

/- The tests of all elements. -/
theorem not_fin_closure (x : Nat) (a : Addr) (w : World) (hc : w.cell? a = some (.func (.func 45) #[] #[])) :
    Calls Try.prog 90 #[.float .f32 x, .pointer (some a)] w fun e w' => e = .returned (.bool (!isFin x)) ∧ ∃ n, w.drewN n = w' := by
  have c1 := isNumber_any x
  go_enter Try.func90, Try.ntmps90
  go_wp2_with (go_at_call 45; (with_reducible refine (c1 _).mono ?_); rintro e w' ⟨rfl, n, rfl⟩)
  go_ret
  exact ⟨rfl, n, rfl⟩
theorem closure_yes (x : Nat) (hx : ¬ single.fin x) (a : Addr) (w : World) (hc : w.cell? a = some (.func (.func 45) #[] #[])) :
    Calls Try.prog 90 #[.float .f32 x, .pointer (some a)] w fun e w' => e = .returned (.bool true) ∧ ∃ n, w.drewN n = w' := by
  have := not_fin_closure x a w hc
  rw [isFin_false hx] at this
  exact this
theorem closure_no (x : Nat) (hx : single.fin x) (a : Addr) (w : World) (hc : w.cell? a = some (.func (.func 45) #[] #[])) :
    Calls Try.prog 90 #[.float .f32 x, .pointer (some a)] w fun e w' => e = .returned (.bool false) ∧ ∃ n, w.drewN n = w' := by
  have := not_fin_closure x a w hc
  rw [isFin_true hx] at this
  exact this

set_option maxRecDepth 100000 in
theorem index3_all (b : Nat) (a : Addr) (x y z : Nat) (hx0 : single.fin x) (hx1 : single.fin y) (hx2 : single.fin z) (w : World)
    (hc : w.cell? a = some (.func (.func 45) #[] #[])) (h0 : w.cell? ⟨b, 0, none⟩ = some (.float .f32 x)) (h1 : w.cell? ⟨b, 1, none⟩ = some (.float .f32 y)) (h2 : w.cell? ⟨b, 2, none⟩ = some (.float .f32 z)) :
    Calls Try.prog 102 #[.slice (some ⟨b, 0, none⟩) 3 3, .func (.func 90) #[] #[.pointer (some a)]] w fun e w' => e = .returned (.int .i64 (-1)) ∧ ∃ n, w.drewN n = w' := by
  have c0 := closure_no x hx0 a
  have c1 := closure_no y hx1 a
  have c2 := closure_no z hx2 a
  clear hx0 hx1 hx2
  go_enter Try.func102, Try.ntmps102
  go_wp2_with fail
  refine wp_loop_rounds 4 ?_
  repeat any_goals (rw [rounds_succ]; go_wp2_with (go_at_call 90; (first | (with_reducible refine (c0 _ ?_).mono ?_) | (with_reducible refine (c1 _ ?_).mono ?_) | (with_reducible refine (c2 _ ?_).mono ?_)); (exact hc); rintro e w' ⟨rfl, n, rfl⟩))
  go_ret
  exact ⟨rfl, _, rfl⟩

set_option maxRecDepth 100000 in
theorem index3_at0 (b : Nat) (a : Addr) (x : Nat) (hx0 : ¬ single.fin x) (w : World)
    (hc : w.cell? a = some (.func (.func 45) #[] #[])) (h0 : w.cell? ⟨b, 0, none⟩ = some (.float .f32 x)) :
    Calls Try.prog 102 #[.slice (some ⟨b, 0, none⟩) 3 3, .func (.func 90) #[] #[.pointer (some a)]] w fun e w' => e = .returned (.int .i64 0) ∧ ∃ n, w.drewN n = w' := by
  have c0 := closure_yes x hx0 a
  clear hx0
  go_enter Try.func102, Try.ntmps102
  go_wp2_with fail
  refine wp_loop_rounds 4 ?_
  repeat any_goals (rw [rounds_succ]; go_wp2_with (go_at_call 90; (first | (with_reducible refine (c0 _ ?_).mono ?_)); (exact hc); rintro e w' ⟨rfl, n, rfl⟩))
  go_ret
  exact ⟨rfl, _, rfl⟩

set_option maxRecDepth 100000 in
theorem index3_at1 (b : Nat) (a : Addr) (x y : Nat) (hx0 : single.fin x) (hx1 : ¬ single.fin y) (w : World)
    (hc : w.cell? a = some (.func (.func 45) #[] #[])) (h0 : w.cell? ⟨b, 0, none⟩ = some (.float .f32 x)) (h1 : w.cell? ⟨b, 1, none⟩ = some (.float .f32 y)) :
    Calls Try.prog 102 #[.slice (some ⟨b, 0, none⟩) 3 3, .func (.func 90) #[] #[.pointer (some a)]] w fun e w' => e = .returned (.int .i64 1) ∧ ∃ n, w.drewN n = w' := by
  have c0 := closure_no x hx0 a
  have c1 := closure_yes y hx1 a
  clear hx0 hx1
  go_enter Try.func102, Try.ntmps102
  go_wp2_with fail
  refine wp_loop_rounds 4 ?_
  repeat any_goals (rw [rounds_succ]; go_wp2_with (go_at_call 90; (first | (with_reducible refine (c0 _ ?_).mono ?_) | (with_reducible refine (c1 _ ?_).mono ?_)); (exact hc); rintro e w' ⟨rfl, n, rfl⟩))
  go_ret
  exact ⟨rfl, _, rfl⟩

set_option maxRecDepth 100000 in
theorem index3_at2 (b : Nat) (a : Addr) (x y z : Nat) (hx0 : single.fin x) (hx1 : single.fin y) (hx2 : ¬ single.fin z) (w : World)
    (hc : w.cell? a = some (.func (.func 45) #[] #[])) (h0 : w.cell? ⟨b, 0, none⟩ = some (.float .f32 x)) (h1 : w.cell? ⟨b, 1, none⟩ = some (.float .f32 y)) (h2 : w.cell? ⟨b, 2, none⟩ = some (.float .f32 z)) :
    Calls Try.prog 102 #[.slice (some ⟨b, 0, none⟩) 3 3, .func (.func 90) #[] #[.pointer (some a)]] w fun e w' => e = .returned (.int .i64 2) ∧ ∃ n, w.drewN n = w' := by
  have c0 := closure_no x hx0 a
  have c1 := closure_no y hx1 a
  have c2 := closure_yes z hx2 a
  clear hx0 hx1 hx2
  go_enter Try.func102, Try.ntmps102
  go_wp2_with fail
  refine wp_loop_rounds 4 ?_
  repeat any_goals (rw [rounds_succ]; go_wp2_with (go_at_call 90; (first | (with_reducible refine (c0 _ ?_).mono ?_) | (with_reducible refine (c1 _ ?_).mono ?_) | (with_reducible refine (c2 _ ?_).mono ?_)); (exact hc); rintro e w' ⟨rfl, n, rfl⟩))
  go_ret
  exact ⟨rfl, _, rfl⟩

set_option maxRecDepth 100000 in
theorem index4_all (b : Nat) (a : Addr) (x y z t : Nat) (hx0 : single.fin x) (hx1 : single.fin y) (hx2 : single.fin z) (hx3 : single.fin t) (w : World)
    (hc : w.cell? a = some (.func (.func 45) #[] #[])) (h0 : w.cell? ⟨b, 0, none⟩ = some (.float .f32 x)) (h1 : w.cell? ⟨b, 1, none⟩ = some (.float .f32 y)) (h2 : w.cell? ⟨b, 2, none⟩ = some (.float .f32 z)) (h3 : w.cell? ⟨b, 3, none⟩ = some (.float .f32 t)) :
    Calls Try.prog 102 #[.slice (some ⟨b, 0, none⟩) 4 4, .func (.func 90) #[] #[.pointer (some a)]] w fun e w' => e = .returned (.int .i64 (-1)) ∧ ∃ n, w.drewN n = w' := by
  have c0 := closure_no x hx0 a
  have c1 := closure_no y hx1 a
  have c2 := closure_no z hx2 a
  have c3 := closure_no t hx3 a
  clear hx0 hx1 hx2 hx3
  go_enter Try.func102, Try.ntmps102
  go_wp2_with fail
  refine wp_loop_rounds 5 ?_
  repeat any_goals (rw [rounds_succ]; go_wp2_with (go_at_call 90; (first | (with_reducible refine (c0 _ ?_).mono ?_) | (with_reducible refine (c1 _ ?_).mono ?_) | (with_reducible refine (c2 _ ?_).mono ?_) | (with_reducible refine (c3 _ ?_).mono ?_)); (exact hc); rintro e w' ⟨rfl, n, rfl⟩))
  go_ret
  exact ⟨rfl, _, rfl⟩

set_option maxRecDepth 100000 in
theorem index4_at0 (b : Nat) (a : Addr) (x : Nat) (hx0 : ¬ single.fin x) (w : World)
    (hc : w.cell? a = some (.func (.func 45) #[] #[])) (h0 : w.cell? ⟨b, 0, none⟩ = some (.float .f32 x)) :
    Calls Try.prog 102 #[.slice (some ⟨b, 0, none⟩) 4 4, .func (.func 90) #[] #[.pointer (some a)]] w fun e w' => e = .returned (.int .i64 0) ∧ ∃ n, w.drewN n = w' := by
  have c0 := closure_yes x hx0 a
  clear hx0
  go_enter Try.func102, Try.ntmps102
  go_wp2_with fail
  refine wp_loop_rounds 5 ?_
  repeat any_goals (rw [rounds_succ]; go_wp2_with (go_at_call 90; (first | (with_reducible refine (c0 _ ?_).mono ?_)); (exact hc); rintro e w' ⟨rfl, n, rfl⟩))
  go_ret
  exact ⟨rfl, _, rfl⟩

set_option maxRecDepth 100000 in
theorem index4_at1 (b : Nat) (a : Addr) (x y : Nat) (hx0 : single.fin x) (hx1 : ¬ single.fin y) (w : World)
    (hc : w.cell? a = some (.func (.func 45) #[] #[])) (h0 : w.cell? ⟨b, 0, none⟩ = some (.float .f32 x)) (h1 : w.cell? ⟨b, 1, none⟩ = some (.float .f32 y)) :
    Calls Try.prog 102 #[.slice (some ⟨b, 0, none⟩) 4 4, .func (.func 90) #[] #[.pointer (some a)]] w fun e w' => e = .returned (.int .i64 1) ∧ ∃ n, w.drewN n = w' := by
  have c0 := closure_no x hx0 a
  have c1 := closure_yes y hx1 a
  clear hx0 hx1
  go_enter Try.func102, Try.ntmps102
  go_wp2_with fail
  refine wp_loop_rounds 5 ?_
  repeat any_goals (rw [rounds_succ]; go_wp2_with (go_at_call 90; (first | (with_reducible refine (c0 _ ?_).mono ?_) | (with_reducible refine (c1 _ ?_).mono ?_)); (exact hc); rintro e w' ⟨rfl, n, rfl⟩))
  go_ret
  exact ⟨rfl, _, rfl⟩

set_option maxRecDepth 100000 in
theorem index4_at2 (b : Nat) (a : Addr) (x y z : Nat) (hx0 : single.fin x) (hx1 : single.fin y) (hx2 : ¬ single.fin z) (w : World)
    (hc : w.cell? a = some (.func (.func 45) #[] #[])) (h0 : w.cell? ⟨b, 0, none⟩ = some (.float .f32 x)) (h1 : w.cell? ⟨b, 1, none⟩ = some (.float .f32 y)) (h2 : w.cell? ⟨b, 2, none⟩ = some (.float .f32 z)) :
    Calls Try.prog 102 #[.slice (some ⟨b, 0, none⟩) 4 4, .func (.func 90) #[] #[.pointer (some a)]] w fun e w' => e = .returned (.int .i64 2) ∧ ∃ n, w.drewN n = w' := by
  have c0 := closure_no x hx0 a
  have c1 := closure_no y hx1 a
  have c2 := closure_yes z hx2 a
  clear hx0 hx1 hx2
  go_enter Try.func102, Try.ntmps102
  go_wp2_with fail
  refine wp_loop_rounds 5 ?_
  repeat any_goals (rw [rounds_succ]; go_wp2_with (go_at_call 90; (first | (with_reducible refine (c0 _ ?_).mono ?_) | (with_reducible refine (c1 _ ?_).mono ?_) | (with_reducible refine (c2 _ ?_).mono ?_)); (exact hc); rintro e w' ⟨rfl, n, rfl⟩))
  go_ret
  exact ⟨rfl, _, rfl⟩

set_option maxRecDepth 100000 in
theorem index4_at3 (b : Nat) (a : Addr) (x y z t : Nat) (hx0 : single.fin x) (hx1 : single.fin y) (hx2 : single.fin z) (hx3 : ¬ single.fin t) (w : World)
    (hc : w.cell? a = some (.func (.func 45) #[] #[])) (h0 : w.cell? ⟨b, 0, none⟩ = some (.float .f32 x)) (h1 : w.cell? ⟨b, 1, none⟩ = some (.float .f32 y)) (h2 : w.cell? ⟨b, 2, none⟩ = some (.float .f32 z)) (h3 : w.cell? ⟨b, 3, none⟩ = some (.float .f32 t)) :
    Calls Try.prog 102 #[.slice (some ⟨b, 0, none⟩) 4 4, .func (.func 90) #[] #[.pointer (some a)]] w fun e w' => e = .returned (.int .i64 3) ∧ ∃ n, w.drewN n = w' := by
  have c0 := closure_no x hx0 a
  have c1 := closure_no y hx1 a
  have c2 := closure_no z hx2 a
  have c3 := closure_yes t hx3 a
  clear hx0 hx1 hx2 hx3
  go_enter Try.func102, Try.ntmps102
  go_wp2_with fail
  refine wp_loop_rounds 5 ?_
  repeat any_goals (rw [rounds_succ]; go_wp2_with (go_at_call 90; (first | (with_reducible refine (c0 _ ?_).mono ?_) | (with_reducible refine (c1 _ ?_).mono ?_) | (with_reducible refine (c2 _ ?_).mono ?_) | (with_reducible refine (c3 _ ?_).mono ?_)); (exact hc); rintro e w' ⟨rfl, n, rfl⟩))
  go_ret
  exact ⟨rfl, _, rfl⟩

end Go.Proofs.Ytbojaddojhemeaa
