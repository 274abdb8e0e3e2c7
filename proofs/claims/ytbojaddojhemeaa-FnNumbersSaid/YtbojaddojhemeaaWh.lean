/- Walks: RootOf, program and reference, and its law. -/
import Derived.Test.YtbojaddojhemeaaWf
import Derived.Test.YtbojaddojhemeaaWg
namespace Go.Proofs.Ytbojaddojhemeaa
open Ieee Go.Flt Go.RowKit

/-- The root of a number that is not less than 0, with a positive zero. -/
def rootv (x : Nat) : Nat := if single.rung x = 0 then 0 else rt x

theorem clr_lt {x : Nat} (h : x < 4294967296) : clr x < 4294967296 := by unfold clr; split <;> omega
theorem clr_fin {x : Nat} (h : single.fin x) : single.fin (clr x) := by
  unfold clr
  split
  · exact fin_zero
  · exact h

theorem round_fin (b o x : Nat) (hx : single.fin x) (w : World) (hc : w.cell? ⟨b, o, none⟩ = some (.int .i64 0)) :
    Calls Try.prog 86 #[.pointer (some ⟨b, o, none⟩), .float .f32 x] w fun e w' => e = .returned (.float .f32 (clr x)) ∧ w = w' := by
  by_cases h0 : single.rung x = 0
  · rw [show clr x = 0 by unfold clr; rw [if_pos h0]]
    exact round_zero b o x hx h0 w
  · rw [show clr x = x by unfold clr; rw [if_neg h0]]
    exact round_keep b o x hx h0 w hc

theorem root_fin (b o x y : Nat) (hx : single.fin x) (hy : single.fin y) (hr : ∃ z, double.sqrt (wid x) = some z ∧ floatToFloatBits .f64 z .f32 = some y) (w : World) (hc : w.cell? ⟨b, o, none⟩ = some (.int .i64 0)) :
    Calls Try.prog 63 #[.pointer (some ⟨b, o, none⟩), .float .f32 x] w fun e w' => e = .returned (.float .f32 (clr y)) ∧ w = w' := by
  obtain ⟨z, hz, hy2⟩ := hr
  have hw := run_widen_fin x hx
  have hs := sqrt_any (wid x) z hz
  have hn : ∀ w, (convert 27 23 (.float .f64 z)).run Try.prog w = .ok (.float .f32 y) w := fun w => run_convert_float_float w 27 23 .f64 .f32 z _ (by rw [Try.underlying27]; rfl) Try.underlying23 hy2
  have hrd := round_fin b o y hy
  clear hx hz hy2 hy
  go_enter Try.func63, Try.ntmps63
  go_wp2_with (first | (go_at_call 94; (with_reducible refine (hs _).mono ?_); rintro e w' ⟨rfl, rfl⟩) | (go_at_call 86; refine (hrd _ (by exact hc)).mono ?_; rintro e w' ⟨rfl, rfl⟩))
  go_ret
  exact ⟨rfl, rfl⟩

/-- The calculator's root. -/
theorem root_of (b o x : Nat) (hx : single.fin x) (h0 : ¬ plc x < 0) (w : World) (hc : w.cell? ⟨b, o, none⟩ = some (.int .i64 0)) :
    Calls Try.prog 63 #[.pointer (some ⟨b, o, none⟩), .float .f32 x] w fun e w' => e = .returned (.float .f32 (rootv x)) ∧ w = w' := by
  by_cases hr : single.rung x = 0
  · have hs : single.rung (single.word (single.negb x) 0) = 0 := single.rung_word _ (by decide)
    have := root_fin b o x _ hx (single.fin_word (single.negb x) (by decide)) (root_zero hx hr) w hc
    rw [show clr (single.word (single.negb x) 0) = 0 by unfold clr; rw [if_pos hs]] at this
    unfold rootv
    rw [if_pos hr]
    exact this
  · obtain ⟨n, r, k, hR⟩ := rooted hx (by have := (plc_nonneg h0).1; omega)
    obtain ⟨z, hz, hz2, hp⟩ := hR.root
    have hpl := hR.place
    have hrr : single.rung (rt x) = rt x := by rw [hp]; exact Nat.mod_eq_of_lt (show _ < 2147483648 by omega)
    have hf : single.fin (rt x) := by unfold Format.fin; rw [hrr, hp]; exact hpl.2
    have := root_fin b o x _ hx hf ⟨z, hz, hz2⟩ w hc
    rw [show clr (rt x) = rt x by unfold clr; rw [hrr, if_neg (by omega)]] at this
    unfold rootv
    rw [if_neg hr]
    exact this

theorem rootv_fin {x : Nat} (hx : single.fin x) (h0 : ¬ plc x < 0) : single.fin (rootv x) ∧ clr (rootv x) = rootv x ∧ rootv x < 2139095040 := by
  unfold rootv
  by_cases hr : single.rung x = 0
  · rw [if_pos hr]; exact ⟨fin_zero, rfl, by omega⟩
  · rw [if_neg hr]
    obtain ⟨n, r, k, hR⟩ := rooted hx (by have := (plc_nonneg h0).1; omega)
    obtain ⟨z, hz, hz2, hp⟩ := hR.root
    have hpl := hR.place
    have hrr : single.rung (rt x) = rt x := by rw [hp]; exact Nat.mod_eq_of_lt (show _ < 2147483648 by omega)
    refine ⟨by unfold Format.fin; rw [hrr, hp]; exact hpl.2, by unfold clr; rw [hrr, if_neg (by omega)], by rw [hp]; exact hpl.2⟩

theorem told_ok (b o x : Nat) (w : World) (hc : w.cell? ⟨b, o, none⟩ = some (.int .i64 0)) :
    Calls Try.prog 50 #[.pointer (some ⟨b, o, none⟩), .float .f32 x] w fun e w' => e = .returned (.tuple #[.float .f32 x, .int .i64 0]) ∧ w = w' := by
  go_enter Try.func50, Try.ntmps50
  go_wp2
  go_ret2
  exact ⟨rfl, rfl⟩

theorem iRootOf_yes (x : Nat) (hx : single.fin x) (h0 : ¬ plc x < 0) (w : World) :
    Calls Try.prog 31 #[.float .f32 x] w fun e w' => e = .returned (.tuple #[.float .f32 (rootv x), .int .i64 0]) ∧ w.alloc (.cells #[.int .i64 0] 70) = w' := by
  have c1 := isNumber_fin x hx
  have hz : (FloatKind.f32.format.order x 0 == some .lt) = false := (lt_zero hx).trans (decide_eq_false h0)
  have c2 := fun b o => root_of b o x hx h0
  clear hx h0
  go_enter Try.func31, Try.ntmps31
  go_wp2_with (first | (go_at_call 45; (with_reducible refine (c1 _).mono ?_); rintro e w' ⟨rfl, rfl⟩) | (go_at_call 63; refine (c2 _ _ _ (by simp [go_sem])).mono ?_; rintro e w' ⟨rfl, rfl⟩) | (go_at_call 50; refine (told_ok _ _ _ _ (by simp [go_sem])).mono ?_; rintro e w' ⟨rfl, rfl⟩))
  go_ret2
  exact ⟨rfl, rfl⟩

theorem iRootOf_neg (x : Nat) (hx : single.fin x) (h0 : plc x < 0) (w : World) :
    Calls Try.prog 31 #[.float .f32 x] w fun e w' => e = .returned (.tuple #[.float .f32 0, .int .i64 2]) ∧ w = w' := by
  have c1 := isNumber_fin x hx
  have hz : (FloatKind.f32.format.order x 0 == some .lt) = true := (lt_zero hx).trans (decide_eq_true h0)
  clear hx h0
  go_enter Try.func31, Try.ntmps31
  go_wp2_with (go_at_call 45; (with_reducible refine (c1 _).mono ?_); rintro e w' ⟨rfl, rfl⟩)
  go_ret2
  exact ⟨rfl, rfl⟩
theorem iRootOf_not (x : Nat) (hx : ¬ single.fin x) (w : World) :
    Calls Try.prog 31 #[.float .f32 x] w fun e w' => e = .returned (.tuple #[.float .f32 0, .int .i64 1]) ∧ ∃ n, w.drewN n = w' := by
  have c1 := isNumber_not x hx
  clear hx
  go_enter Try.func31, Try.ntmps31
  go_wp2_with (go_at_call 45; (with_reducible refine (c1 _).mono ?_); rintro e w' ⟨rfl, n, rfl⟩)
  go_ret2
  exact ⟨rfl, n, rfl⟩

theorem l01Root_of (x : Nat) (hx : single.fin x) (h0 : ¬ plc x < 0) (w : World) :
    Calls Try.prog 93 #[.float .f32 x] w fun e w' => e = .returned (.float .f32 (rootv x)) ∧ w = w' := by
  unfold rootv
  by_cases hr : single.rung x = 0
  · rw [if_pos hr]; exact l01Root_zero x hx hr w
  · rw [if_neg hr]; exact l01Root_pos x hx (by have := (plc_nonneg h0).1; omega) w

theorem s0RootOf_yes (x : Nat) (hx : single.fin x) (h0 : ¬ plc x < 0) (w : World) :
    Calls Try.prog 62 #[.float .f32 x] w fun e w' => e = .returned (.tuple #[.float .f32 (rootv x), .int .i64 0]) ∧ w = w' := by
  have c1 := l01Fine_fin x hx
  have hz : (FloatKind.f32.format.order x 0 == some .lt) = false := (lt_zero hx).trans (decide_eq_false h0)
  have c2 := l01Root_of x hx h0
  clear hx h0
  go_enter Try.func62, Try.ntmps62
  go_wp2_with (first | (go_at_call 43; (with_reducible refine (c1 _).mono ?_); rintro e w' ⟨rfl, rfl⟩) | (go_at_call 93; (with_reducible refine (c2 _).mono ?_); rintro e w' ⟨rfl, rfl⟩))
  go_ret2
  exact ⟨rfl, rfl⟩
theorem s0RootOf_neg (x : Nat) (hx : single.fin x) (h0 : plc x < 0) (w : World) :
    Calls Try.prog 62 #[.float .f32 x] w fun e w' => e = .returned (.tuple #[.float .f32 0, .int .i64 2]) ∧ w = w' := by
  have c1 := l01Fine_fin x hx
  have hz : (FloatKind.f32.format.order x 0 == some .lt) = true := (lt_zero hx).trans (decide_eq_true h0)
  clear hx h0
  go_enter Try.func62, Try.ntmps62
  go_wp2_with (go_at_call 43; (with_reducible refine (c1 _).mono ?_); rintro e w' ⟨rfl, rfl⟩)
  go_ret2
  exact ⟨rfl, rfl⟩
theorem s0RootOf_not (x : Nat) (hx : ¬ single.fin x) (w : World) :
    Calls Try.prog 62 #[.float .f32 x] w fun e w' => e = .returned (.tuple #[.float .f32 0, .int .i64 1]) ∧ w.drewN 1 = w' := by
  have c1 := l01Fine_not x hx
  clear hx
  go_enter Try.func62, Try.ntmps62
  go_wp2_with (go_at_call 43; (with_reducible refine (c1 _).mono ?_); rintro e w' ⟨rfl, rfl⟩)
  go_ret2
  exact ⟨rfl, rfl⟩

theorem sRootOf_of (x y : Nat) (c : Int) (n : Nat) (hy : single.fin y) (hyc : clr y = y)
    (h : ∀ w, Calls Try.prog 62 #[.float .f32 x] w fun e w' => e = .returned (.tuple #[.float .f32 y, .int .i64 c]) ∧ w.drewN n = w') (w : World) :
    Calls Try.prog 30 #[.float .f32 x] w fun e w' => e = .returned (.tuple #[.float .f32 y, .int .i64 c]) ∧ w.drewN n = w' := by
  have c2 := l00Float_fin y hy
  rw [hyc] at c2
  clear hy hyc
  go_enter Try.func30, Try.ntmps30
  go_wp2_with (first | (go_at_call 62; (with_reducible refine (h _).mono ?_); rintro e w' ⟨rfl, rfl⟩) | (go_at_call 40; (with_reducible refine (c2 _).mono ?_); rintro e w' ⟨rfl, rfl⟩))
  go_ret2
  exact ⟨rfl, rfl⟩

theorem sRootOf_yes (x : Nat) (hx : single.fin x) (h0 : ¬ plc x < 0) (w : World) :
    Calls Try.prog 30 #[.float .f32 x] w fun e w' => e = .returned (.tuple #[.float .f32 (rootv x), .int .i64 0]) ∧ w = w' :=
  sRootOf_of x _ 0 0 (rootv_fin hx h0).1 (rootv_fin hx h0).2.1 (s0RootOf_yes x hx h0) w
theorem sRootOf_neg (x : Nat) (hx : single.fin x) (h0 : plc x < 0) (w : World) :
    Calls Try.prog 30 #[.float .f32 x] w fun e w' => e = .returned (.tuple #[.float .f32 0, .int .i64 2]) ∧ w = w' :=
  sRootOf_of x 0 2 0 fin_zero rfl (s0RootOf_neg x hx h0) w
theorem sRootOf_not (x : Nat) (hx : ¬ single.fin x) (w : World) :
    Calls Try.prog 30 #[.float .f32 x] w fun e w' => e = .returned (.tuple #[.float .f32 0, .int .i64 1]) ∧ w.drewN 1 = w' :=
  sRootOf_of x 0 1 1 fin_zero rfl (s0RootOf_not x hx) w

/-- The law, from what the two functions return. -/
theorem fnRoot_of (x y : Nat) (c : Int) (hy : single.fin y) (w : World)
    (h1 : ∀ w, Calls Try.prog 30 #[.float .f32 x] w fun e w' => e = .returned (.tuple #[.float .f32 y, .int .i64 c]) ∧ Grown w w')
    (h2 : ∀ w, Calls Try.prog 31 #[.float .f32 x] w fun e w' => e = .returned (.tuple #[.float .f32 y, .int .i64 c]) ∧ Grown w w') :
    Calls Try.prog 10 #[.float .f32 x] w fun e w' => e = .returned (.bool true) ∧ Grown w w' := by
  have hc := run_widen_fin _ hy
  have c3 := sameFloat_any _ (wid_isD hy rfl)
  generalize wid y = z at c3 hc
  clear hy
  go_enter Try.func10, Try.ntmps10
  go_wp2_with (first | (go_at_call 30; (with_reducible refine (h1 _).mono ?_); rintro e w1 ⟨rfl, g1⟩) | (go_at_call 31; (with_reducible refine (h2 _).mono ?_); rintro e w2 ⟨rfl, g2⟩) | (go_at_call 15; (with_reducible refine (c3 _).mono ?_); rintro e w' ⟨rfl, rfl⟩))
  go_ret
  exact ⟨rfl, grown_trans g1 g2⟩

theorem fnRootOf (x : Nat) (w : World) :
    Calls Try.prog 10 #[.float .f32 x] w fun e w' => e = .returned (.bool true) ∧ Grown w w' := by
  by_cases hx : single.fin x
  · by_cases h0 : plc x < 0
    · exact fnRoot_of x 0 2 fin_zero w (fun w => (sRootOf_neg x hx h0 w).mono fun e w' ⟨h, hn⟩ => ⟨h, hn ▸ Grown.refl w⟩) (fun w => (iRootOf_neg x hx h0 w).mono fun e w' ⟨h, hn⟩ => ⟨h, hn ▸ Grown.refl w⟩)
    · exact fnRoot_of x _ 0 (rootv_fin hx h0).1 w (fun w => (sRootOf_yes x hx h0 w).mono fun e w' ⟨h, hn⟩ => ⟨h, hn ▸ Grown.refl w⟩) (fun w => (iRootOf_yes x hx h0 w).mono fun e w' ⟨h, hn⟩ => ⟨h, hn ▸ (Grown.refl w).alloc _ _⟩)
  · exact fnRoot_of x 0 1 fin_zero w (fun w => (sRootOf_not x hx w).mono fun e w' ⟨h, hn⟩ => ⟨h, hn ▸ grown_drewN w 1⟩) (fun w => (iRootOf_not x hx w).mono fun e w' ⟨h, n, hn⟩ => ⟨h, hn ▸ grown_drewN w n⟩)
end Go.Proofs.Ytbojaddojhemeaa
