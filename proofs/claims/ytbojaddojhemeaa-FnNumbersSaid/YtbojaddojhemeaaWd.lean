/- Walks: the exported functions on places, program and reference, and their laws. -/
import Derived.Test.YtbojaddojhemeaaWc
namespace Go.Proofs.Ytbojaddojhemeaa
open Ieee Go.Flt Go.RowKit

theorem bl {a b : Bool} (h : a = b) : Ending.returned (.bool a) = .returned (.bool b) := by rw [h]
theorem int2 {k l : IntKind} {a b c d : Int} (h : a = c) (h' : b = d) : Ending.returned (.tuple #[.int k a, .int l b]) = .returned (.tuple #[.int k c, .int l d]) := by rw [h, h']
theorem within_yes (n a b : Int) (h1 : a ≤ n) (h2 : n ≤ b) (w : World) :
    Calls Try.prog 41 #[.int .i64 n, .int .i64 a, .int .i64 b] w fun e w' => e = .returned (.bool true) ∧ w = w' := by
  go_enter Try.func41, Try.ntmps41
  go_wp2
  go_ret
  exact ⟨rfl, rfl⟩
theorem within_no (n a b : Int) (h : n < a ∨ b < n) (w : World) :
    Calls Try.prog 41 #[.int .i64 n, .int .i64 a, .int .i64 b] w fun e w' => e = .returned (.bool false) ∧ w = w' := by
  by_cases h1 : n < a
  · clear h
    go_enter Try.func41, Try.ntmps41
    go_wp2
    go_ret
    exact ⟨rfl, rfl⟩
  · have h2 : b < n := by omega
    clear h
    go_enter Try.func41, Try.ntmps41
    go_wp2
    go_ret
    exact ⟨bl (decide_eq_false (by omega)), rfl⟩
theorem l01In_yes (n a b : Int) (h1 : a ≤ n) (h2 : n ≤ b) (w : World) :
    Calls Try.prog 74 #[.int .i64 n, .int .i64 a, .int .i64 b] w fun e w' => e = .returned (.bool true) ∧ w = w' := by
  go_enter Try.func74, Try.ntmps74
  go_wp2
  go_ret
  exact ⟨rfl, rfl⟩
theorem l01In_no (n a b : Int) (h : n < a ∨ b < n) (w : World) :
    Calls Try.prog 74 #[.int .i64 n, .int .i64 a, .int .i64 b] w fun e w' => e = .returned (.bool false) ∧ w = w' := by
  by_cases h1 : n < a
  · clear h
    go_enter Try.func74, Try.ntmps74
    go_wp2
    go_ret
    exact ⟨rfl, rfl⟩
  · have h2 : b < n := by omega
    clear h
    go_enter Try.func74, Try.ntmps74
    go_wp2
    go_ret
    exact ⟨bl (decide_eq_false (by omega)), rfl⟩

/- PlaceOf -/
theorem sPlaceOf_fin (x : Nat) (hl : x < 4294967296) (hx : single.fin x) (w : World) :
    Calls Try.prog 16 #[.float .f32 x] w fun e w' => e = .returned (.tuple #[.int .i64 (plc x), .int .i64 0]) ∧ w = w' := by
  have hl := Lib.hid hl
  have hx := Lib.hid hx
  go_enter Try.func16, Try.ntmps16
  go_wp2_with (first | (go_at_call 43; refine (l01Fine_fin _ hx.out _).mono ?_; rintro e w' ⟨rfl, rfl⟩) | (go_at_call 44; refine (l01Bits_any _ hl.out hx.out _).mono ?_; rintro e w' ⟨rfl, rfl⟩))
  go_ret2
  exact ⟨rfl, rfl⟩
theorem sPlaceOf_not (x : Nat) (hx : ¬ single.fin x) (w : World) :
    Calls Try.prog 16 #[.float .f32 x] w fun e w' => e = .returned (.tuple #[.int .i64 0, .int .i64 1]) ∧ w.drewN 1 = w' := by
  have hx := Lib.hid hx
  go_enter Try.func16, Try.ntmps16
  go_wp2_with (go_at_call 43; refine (l01Fine_not _ hx.out _).mono ?_; rintro e w' ⟨rfl, rfl⟩)
  go_ret2
  exact ⟨rfl, rfl⟩
theorem isNumber_not (x : Nat) (hx : ¬ single.fin x) (w : World) :
    Calls Try.prog 45 #[.float .f32 x] w fun e w' => e = .returned (.bool false) ∧ ∃ n, w.drewN n = w' := by
  have := isNumber_any x w
  rw [isFin_false hx] at this
  exact this
theorem iPlaceOf_fin (x : Nat) (hx : single.fin x) (w : World) :
    Calls Try.prog 17 #[.float .f32 x] w fun e w' => e = .returned (.tuple #[.int .i64 (plc x), .int .i64 0]) ∧ w = w' := by
  have hx := Lib.hid hx
  go_enter Try.func17, Try.ntmps17
  go_wp2_with (first | (go_at_call 45; refine (isNumber_fin _ hx.out _).mono ?_; rintro e w' ⟨rfl, rfl⟩) | (go_at_call 46; refine (placeOf_any _ hx.out _).mono ?_; rintro e w' ⟨rfl, rfl⟩))
  go_ret2
  exact ⟨rfl, rfl⟩
theorem iPlaceOf_not (x : Nat) (hx : ¬ single.fin x) (w : World) :
    Calls Try.prog 17 #[.float .f32 x] w fun e w' => e = .returned (.tuple #[.int .i64 0, .int .i64 1]) ∧ ∃ n, w.drewN n = w' := by
  have hx := Lib.hid hx
  go_enter Try.func17, Try.ntmps17
  go_wp2_with (go_at_call 45; refine (isNumber_not _ hx.out _).mono ?_; rintro e w' ⟨rfl, n, rfl⟩)
  go_ret2
  exact ⟨rfl, n, rfl⟩

theorem fnPlaceOf (x : Nat) (hl : x < 4294967296) (w : World) :
    Calls Try.prog 5 #[.float .f32 x] w fun e w' => e = .returned (.bool true) ∧ ∃ n, w.drewN n = w' := by
  have hl := Lib.hid hl
  by_cases h : single.fin x
  · have hx := Lib.hid h
    clear h
    go_enter Try.func5, Try.ntmps5
    go_wp2_with (first | (go_at_call 16; refine (sPlaceOf_fin _ hl.out hx.out _).mono ?_; rintro e w' ⟨rfl, rfl⟩) | (go_at_call 17; refine (iPlaceOf_fin _ hx.out _).mono ?_; rintro e w' ⟨rfl, rfl⟩))
    go_ret
    exact ⟨rfl, 0, rfl⟩
  · have hx := Lib.hid h
    clear h
    go_enter Try.func5, Try.ntmps5
    go_wp2_with (first | (go_at_call 16; refine (sPlaceOf_not _ hx.out _).mono ?_; rintro e w' ⟨rfl, rfl⟩) | (go_at_call 17; refine (iPlaceOf_not _ hx.out _).mono ?_; rintro e w' ⟨rfl, n, rfl⟩))
    go_ret
    exact ⟨rfl, _, rfl⟩

/- StepsBetween -/
theorem steps_any (x y : Nat) (hx : single.fin x) (hy : single.fin y) (w : World) :
    Calls Try.prog 47 #[.float .f32 x, .float .f32 y] w fun e w' => e = .returned (.int .i64 ((plc x - plc y).natAbs : Int)) ∧ w = w' := by
  have bx : -2139095040 ≤ plc x ∧ plc x ≤ 2139095040 := by have h : single.rung x < 2139095040 := hx; unfold plc; split <;> omega
  have bY : -2139095040 ≤ plc y ∧ plc y ≤ 2139095040 := by have h : single.rung y < 2139095040 := hy; unfold plc; split <;> omega
  have cx := placeOf_any x hx
  have cy := placeOf_any y hy
  obtain ⟨a, ha⟩ : ∃ a, plc x = a := ⟨_, rfl⟩
  obtain ⟨b, hb⟩ : ∃ b, plc y = b := ⟨_, rfl⟩
  rw [ha] at cx bx
  rw [hb] at cy bY
  rw [ha, hb]
  clear ha hb hx hy
  go_enter Try.func47, Try.ntmps47
  go_wp2_with (go_at_call 46; (first | (with_reducible refine (cx _).mono ?_) | (with_reducible refine (cy _).mono ?_)); rintro e w' ⟨rfl, rfl⟩)
  all_goals (go_ret; exact ⟨int_eq (by omega), rfl⟩)

theorem iSteps_fin (x y : Nat) (hx : single.fin x) (hy : single.fin y) (w : World) :
    Calls Try.prog 19 #[.float .f32 x, .float .f32 y] w fun e w' => e = .returned (.tuple #[.int .i64 ((plc x - plc y).natAbs : Int), .int .i64 0]) ∧ w = w' := by
  have c1 := isNumber_fin x hx
  have c2 := isNumber_fin y hy
  have c3 := steps_any x y hx hy
  clear hx hy
  go_enter Try.func19, Try.ntmps19
  go_wp2_with (first | (go_at_call 45; (first | (with_reducible refine (c1 _).mono ?_) | (with_reducible refine (c2 _).mono ?_)); rintro e w' ⟨rfl, rfl⟩) | (go_at_call 47; (with_reducible refine (c3 _).mono ?_); rintro e w' ⟨rfl, rfl⟩))
  go_ret2
  exact ⟨rfl, rfl⟩
theorem iSteps_not (x y : Nat) (h : ¬ (single.fin x ∧ single.fin y)) (w : World) :
    Calls Try.prog 19 #[.float .f32 x, .float .f32 y] w fun e w' => e = .returned (.tuple #[.int .i64 0, .int .i64 1]) ∧ ∃ n, w.drewN n = w' := by
  by_cases hx : single.fin x
  · have c1 := isNumber_fin x hx
    have c2 := isNumber_not y (fun hy => h ⟨hx, hy⟩)
    clear hx h
    go_enter Try.func19, Try.ntmps19
    go_wp2_with (go_at_call 45; (first | ((with_reducible refine (c1 _).mono ?_); rintro e w' ⟨rfl, rfl⟩) | ((with_reducible refine (c2 _).mono ?_); rintro e w' ⟨rfl, n, rfl⟩)))
    go_ret2
    exact ⟨rfl, n, rfl⟩
  · have c1 := isNumber_not x hx
    clear hx h
    go_enter Try.func19, Try.ntmps19
    go_wp2_with (go_at_call 45; ((with_reducible refine (c1 _).mono ?_); rintro e w' ⟨rfl, n, rfl⟩))
    go_ret2
    exact ⟨rfl, n, rfl⟩
theorem sSteps_fin (x y : Nat) (lx : x < 4294967296) (ly : y < 4294967296) (hx : single.fin x) (hy : single.fin y) (w : World) :
    Calls Try.prog 18 #[.float .f32 x, .float .f32 y] w fun e w' => e = .returned (.tuple #[.int .i64 ((plc x - plc y).natAbs : Int), .int .i64 0]) ∧ w = w' := by
  have bx : -2139095040 ≤ plc x ∧ plc x ≤ 2139095040 := by have h : single.rung x < 2139095040 := hx; unfold plc; split <;> omega
  have bY : -2139095040 ≤ plc y ∧ plc y ≤ 2139095040 := by have h : single.rung y < 2139095040 := hy; unfold plc; split <;> omega
  have cx := l01Bits_any x lx hx
  have cy := l01Bits_any y ly hy
  have c1 := l01Fine_fin x hx
  have c2 := l01Fine_fin y hy
  obtain ⟨a, ha⟩ : ∃ a, plc x = a := ⟨_, rfl⟩
  obtain ⟨b, hb⟩ : ∃ b, plc y = b := ⟨_, rfl⟩
  rw [ha] at cx bx
  rw [hb] at cy bY
  rw [ha, hb]
  clear ha hb hx hy lx ly
  go_enter Try.func18, Try.ntmps18
  go_wp2_with (first | (go_at_call 43; (first | (with_reducible refine (c1 _).mono ?_) | (with_reducible refine (c2 _).mono ?_)); rintro e w' ⟨rfl, rfl⟩) | (go_at_call 44; (first | (with_reducible refine (cx _).mono ?_) | (with_reducible refine (cy _).mono ?_)); rintro e w' ⟨rfl, rfl⟩))
  all_goals (go_ret2; exact ⟨int2 (by omega) rfl, rfl⟩)
theorem sSteps_not (x y : Nat) (h : ¬ (single.fin x ∧ single.fin y)) (w : World) :
    Calls Try.prog 18 #[.float .f32 x, .float .f32 y] w fun e w' => e = .returned (.tuple #[.int .i64 0, .int .i64 1]) ∧ ∃ n, w.drewN n = w' := by
  by_cases hx : single.fin x
  · have c1 := l01Fine_fin x hx
    have c2 := l01Fine_not y (fun hy => h ⟨hx, hy⟩)
    clear hx h
    go_enter Try.func18, Try.ntmps18
    go_wp2_with (go_at_call 43; (first | ((with_reducible refine (c1 _).mono ?_); rintro e w' ⟨rfl, rfl⟩) | ((with_reducible refine (c2 _).mono ?_); rintro e w' ⟨rfl, rfl⟩)))
    go_ret2
    exact ⟨rfl, _, rfl⟩
  · have c1 := l01Fine_not x hx
    clear hx h
    go_enter Try.func18, Try.ntmps18
    go_wp2_with (go_at_call 43; ((with_reducible refine (c1 _).mono ?_); rintro e w' ⟨rfl, rfl⟩))
    go_ret2
    exact ⟨rfl, _, rfl⟩

theorem fnSteps (x y : Nat) (lx : x < 4294967296) (ly : y < 4294967296) (w : World) :
    Calls Try.prog 6 #[.float .f32 x, .float .f32 y] w fun e w' => e = .returned (.bool true) ∧ ∃ n, w.drewN n = w' := by
  by_cases h : single.fin x ∧ single.fin y
  · have c1 := sSteps_fin x y lx ly h.1 h.2
    have c2 := iSteps_fin x y h.1 h.2
    generalize ((plc x - plc y).natAbs : Int) = d at c1 c2
    clear lx ly h
    go_enter Try.func6, Try.ntmps6
    go_wp2_with (first | (go_at_call 18; (with_reducible refine (c1 _).mono ?_); rintro e w' ⟨rfl, rfl⟩) | (go_at_call 19; (with_reducible refine (c2 _).mono ?_); rintro e w' ⟨rfl, rfl⟩))
    go_ret
    exact ⟨rfl, 0, rfl⟩
  · have c1 := sSteps_not x y h
    have c2 := iSteps_not x y h
    clear lx ly h
    go_enter Try.func6, Try.ntmps6
    go_wp2_with (first | (go_at_call 18; (with_reducible refine (c1 _).mono ?_); rintro e w' ⟨rfl, n, rfl⟩) | (go_at_call 19; (with_reducible refine (c2 _).mono ?_); rintro e w' ⟨rfl, m, rfl⟩))
    go_ret
    exact ⟨rfl, _, rfl⟩
end Go.Proofs.Ytbojaddojhemeaa
