/- Walks: tables: the table of four parts, by the program. -/
import Derived.Test.YtbojaddojhemeaaVc
import Derived.Test.YtbojaddojhemeaaTc
namespace Go.Proofs.Ytbojaddojhemeaa
open Ieee Go.Flt Go.RowKit

theorem neg_fin {x : Nat} (hx : single.fin x) (hl : x < 4294967296) : single.fin (Op.negFloat .f32 x) := by
  have e := single.word_of (x := x) hl
  have hr : single.rung x < 2147483648 := rung_lt x
  rw [← e, negFloat32 hr]
  exact single.fin_word _ hx

set_option maxRecDepth 100000 in
theorem z_fin (b o x y : Nat) (hx : single.fin x) (hy : single.fin y) (w : World) (hc : w.cell? ⟨b, o, none⟩ = some (.int .i64 0)) :
    Calls Try.prog 91 #[.pointer (some ⟨b, o, none⟩), .float .f32 x, .float .f32 y] w fun e w' => e = .returned (.complex .f32 (clr x) (clr y)) ∧ w = w' := by
  have c1 := round_fin b o x hx w hc
  have c2 := round_fin b o y hy w hc
  clear hx hy
  go_enter Try.func91, Try.ntmps91
  go_wp2_with (go_at_call 86; (first | (with_reducible refine c1.mono ?_) | (with_reducible refine c2.mono ?_)); rintro e w' ⟨rfl, rfl⟩)
  go_ret
  exact ⟨rfl, rfl⟩

set_option maxRecDepth 100000 in
set_option maxHeartbeats 1600000 in
theorem ofParts_fin (b o x0 x1 x2 x3 n1 n2 n3 : Nat) (e1 : Op.negFloat .f32 x1 = n1) (e2 : Op.negFloat .f32 x2 = n2) (e3 : Op.negFloat .f32 x3 = n3)
    (h0 : single.fin x0) (h2 : single.fin x2) (h3 : single.fin x3) (m1 : single.fin n1) (m2 : single.fin n2) (m3 : single.fin n3) (w : World) (hc : w.cell? ⟨b, o, none⟩ = some (.int .i64 0)) :
    Calls Try.prog 60 #[.pointer (some ⟨b, o, none⟩), .agg #[.float .f32 x0, .float .f32 x1, .float .f32 x2, .float .f32 x3]] w fun e w' => e = .returned (.agg #[.complex .f32 (clr x0) (clr n3), .complex .f32 (clr n2) (clr n1), .complex .f32 (clr x2) (clr n1), .complex .f32 (clr x0) (clr x3)]) ∧ ((w.alloc (.cells #[.float .f32 x0, .float .f32 x1, .float .f32 x2, .float .f32 x3] 49)).alloc (.cells #[.complex .f32 (clr x0) (clr n3), .complex .f32 (clr n2) (clr n1), .complex .f32 (clr x2) (clr n1), .complex .f32 (clr x0) (clr x3)] 46)).drew = w' := by
  have z1 := fun w => z_fin b o x0 n3 h0 m3 w
  have z2 := fun w => z_fin b o n2 n1 m2 m1 w
  have z3 := fun w => z_fin b o x2 n1 h2 m1 w
  have z4 := fun w => z_fin b o x0 x3 h0 h3 w
  have hb : b < w.heap.size := World.block_lt_of_cell? w _ hc
  have hb1 : b < w.heap.size + 1 := by omega
  have hb2 : b < w.heap.size + 1 + 1 := by omega
  clear h0 h2 h3 m1 m2 m3
  go_enter Try.func60, Try.ntmps60
  go_wp2_with fail
  go_region_held3 (fun w' => w'.cell? ⟨w.heap.size, 0, none⟩ = some (.float .f32 x0) ∧ w'.cell? ⟨w.heap.size, 1, none⟩ = some (.float .f32 x1) ∧ w'.cell? ⟨w.heap.size, 2, none⟩ = some (.float .f32 x2) ∧ w'.cell? ⟨w.heap.size, 3, none⟩ = some (.float .f32 x3) ∧ w'.cell? ⟨b, o, none⟩ = some (.int .i64 0)) (go_keep) (first | fail)
  rename_i hH
  clear hH
  go_wp2_with (go_at_call 91; (first | (with_reducible refine (z1 _ ?_).mono ?_) | (with_reducible refine (z2 _ ?_).mono ?_) | (with_reducible refine (z3 _ ?_).mono ?_) | (with_reducible refine (z4 _ ?_).mono ?_)); (simp [go_sem, *]); rintro e w' ⟨rfl, rfl⟩)
  go_returns
  exact ⟨rfl, rfl⟩
end Go.Proofs.Ytbojaddojhemeaa
