/- The law on numbers: the walk. -/
import Derived.Test.YtbojaddojhemeaaFh
namespace Go.Flt
open Ieee Go.RowKit Go.Proofs.Ytbojaddojhemeaa
theorem Bytes.grown {w w' : World} {a0 : Option Addr} {len : Nat} (h : Flt.Bytes w a0 len) (g : Grown w w') : Flt.Bytes w' a0 len := by
  rcases h with h | ⟨cb, off, h, hx⟩
  · exact .inl h
  · refine .inr ⟨cb, off, h, fun i hi => ?_⟩
    obtain ⟨x, x0, x1, hc⟩ := hx i hi
    exact ⟨x, x0, x1, grown_cell g hc⟩
/-- Grown since the start, the bytes as they were. -/
def Bg (w0 : World) (a0 : Option Addr) (len : Nat) (w : World) : Prop := Grown w0 w ∧ Flt.Bytes w a0 len
theorem Bg.next {w0 w w' : World} {a0 : Option Addr} {len : Nat} (h : Bg w0 a0 len w) (g : Grown w w') : Bg w0 a0 len w' := ⟨grown_trans h.1 g, h.2.grown g⟩
theorem ne_same {x : Nat} (h : single.fin x) : (FloatKind.f32.format.order x x != some .eq) = false := by
  show (!(single.order x x == some .eq)) = false
  rw [order_plc h h]
  simp
theorem ne_back {x : Nat} (h : single.fin x) : (FloatKind.f32.format.order (sw (plc x)) x != some .eq) = false := by
  have hr := plc_range h
  show (!(single.order (sw (plc x)) x == some .eq)) = false
  rw [order_plc (sw_fin hr.1 hr.2) h, plc_sw hr.1 hr.2]
  simp
end Go.Flt
namespace Go.Proofs.Ytbojaddojhemeaa
open Ieee Go.Flt Go.RowKit

theorem big_no (a0 : Option Addr) (len cap : Nat) (h : len ≤ 4096) (w : World) :
    Calls Try.prog 34 #[.slice a0 len cap] w fun e w' => e = .returned (.bool false) ∧ w = w' := by
  go_enter Try.func34, Try.ntmps34
  go_wp2
  go_ret
  exact ⟨bl (decide_eq_false (by omega)), rfl⟩
theorem big_yes (a0 : Option Addr) (len cap : Nat) (h : 4096 < len) (w : World) :
    Calls Try.prog 34 #[.slice a0 len cap] w fun e w' => e = .returned (.bool true) ∧ w = w' := by
  go_enter Try.func34, Try.ntmps34
  go_wp2
  go_ret
  exact ⟨bl (decide_eq_true (by omega)), rfl⟩

set_option maxRecDepth 100000 in
set_option maxHeartbeats 8000000 in
theorem fnNumbers_small (a0 : Option Addr) (len cap : Nat) (hl : len ≤ 4096) (w : World) (hC : Flt.Bytes w a0 len) :
    Calls Try.prog 12 #[.slice a0 len cap] w fun e w' => e = .returned (.bool true) ∧ Grown w w' := by
  have bg := big_no a0 len cap hl
  have hl : len ≤ 4611686018427387904 := by omega
  have B : Bg w a0 len w := ⟨Grown.refl w, hC⟩
  clear hC
  go_enter Try.func12, Try.ntmps12
  go_wp2_with (first
    | (go_at_call 34; (with_reducible refine (bg _).mono ?_); rintro e w' ⟨rfl, rfl⟩)
    | (go_at_call 35; refine (drawPlaceOf_any a0 len cap hl _ (by exact B.2)).mono ?_; rintro e w1 ⟨x, lx, rfl, g1⟩; have B := B.next g1; by_cases hx : single.fin x; rotate_left; (have cI1 := iPlaceOf_not x hx; have cS1 := sPlaceOf_not x hx; clear hx lx g1); rotate_right; (have hr := plc_range hx; have cI1 := iPlaceOf_fin x hx; have cS1 := sPlaceOf_fin x lx hx; have cF1 := iFloatAt_yes (plc x) hr.1 hr.2; have cN1 := iPlaceOf_fin _ (fin_neg_float lx hx); rw [plc_neg_float lx] at cN1; have hq1 := ne_back hx; have hr1 := hr.1; have hr2 := hr.2; clear hr hx lx g1))
    | (go_at_call 36; (try clear cF1 cN1 hq1 hr1 hr2); (try clear cI1 cS1); refine (drawFloatAt_any a0 len cap hl _ (by exact B.2)).mono ?_; rintro e w2 ⟨p, rfl, g2⟩; have B := B.next g2; by_cases hp : -2139095039 ≤ p ∧ p ≤ 2139095039; rotate_left; (have hp' : p < -2139095039 ∨ 2139095039 < p := (by omega); have cF1 := iFloatAt_no p hp'; have cS1 := sFloatAt_no p hp'; have hq1 := ne_same fin_zero; clear hp hp' g2); rotate_right; (have cF1 := iFloatAt_yes p hp.1 hp.2; have cS1 := sFloatAt_yes p hp.1 hp.2; have cI1 := iPlaceOf_fin _ (sw_fin hp.1 hp.2); rw [plc_sw hp.1 hp.2] at cI1; have hq1 := ne_same (sw_fin hp.1 hp.2); clear hp g2))
    | (go_at_call 17; first | ((with_reducible refine (cI1 _).mono ?_); rintro e w' ⟨rfl, rfl⟩) | ((with_reducible refine (cI1 _).mono ?_); rintro e w' ⟨rfl, n, rfl⟩) | ((with_reducible refine (cN1 _).mono ?_); rintro e w' ⟨rfl, rfl⟩) | ((with_reducible refine (cP _).mono ?_); rintro e w' ⟨rfl, rfl⟩))
    | (go_at_call 16; first | ((with_reducible refine (cS1 _).mono ?_); rintro e w' ⟨rfl, rfl⟩))
    | (go_at_call 14; first | ((with_reducible refine (cL _).mono ?_); rintro e w' ⟨rfl, rfl⟩) | ((with_reducible refine (cH _).mono ?_); rintro e w' ⟨rfl, rfl⟩) | ((with_reducible refine (cF1 _).mono ?_); rintro e w' ⟨rfl, rfl⟩))
    | (go_at_call 13; first | ((with_reducible refine (cS1 _).mono ?_); rintro e w' ⟨rfl, rfl⟩))
    | (go_at_call 37; (try clear cF1); (try clear cI1); (try clear cS1 hq1); refine (drawRootOf_any a0 len cap hl _ (by exact B.2)).mono ?_; rintro e w3 ⟨a, la, rfl, g3⟩; have B := B.next g3; clear la g3; rcases root_cases a with ⟨c, hc0, cS1, cI1⟩ | ⟨cS1, cI1⟩ | ⟨m, lo, hi, zl, zm, zh, za, s, t, u, s', t', u', ⟨cS1, cI1, cP, cL, cH, m0, m1, hz, hq1, wl, wm, wh, wa, o1, o2, o3, o4, o5, o6, q1, q2⟩⟩; (have hq1 := ne_same fin_zero; have hz : (FloatKind.f32.format.order 0 0 == some .gt) = false := rfl); rotate_left; (have hq1 := ne_same fin_zero; have hz : (FloatKind.f32.format.order 0 0 == some .gt) = false := rfl); rotate_right)
    | (go_at_call 38; (try clear cP cL cH m0 m1 wl wm wh wa o1 o2 o3 o4 o5 o6 q1 q2); (try clear hc0); clear cI1 cS1 hq1 hz; refine (drawSteps_any a0 len cap hl _ (by exact B.2)).mono ?_; rintro e w4 ⟨b, c, lb, lc, rfl, g4⟩; have B := B.next g4; clear g4; rcases steps_cases b c lb lc with ⟨cS1, cI1⟩ | ⟨d, hq1, cS1, cI1, cI2⟩ <;> clear lb lc)
    | (go_at_call 30; (with_reducible refine (cS1 _).mono ?_); rintro e w' ⟨rfl, g⟩; have B := B.next g; clear g)
    | (go_at_call 31; (with_reducible refine (cI1 _).mono ?_); rintro e w' ⟨rfl, g⟩; have B := B.next g; clear g)
    | (go_at_call 18; (with_reducible refine (cS1 _).mono ?_); rintro e w' ⟨rfl, g⟩; have B := B.next g; clear g)
    | (go_at_call 19; (first | (with_reducible refine (cI1 _).mono ?_) | (with_reducible refine (cI2 _).mono ?_)); rintro e w' ⟨rfl, g⟩; have B := B.next g; clear g))
  all_goals go_ret
  all_goals exact ⟨rfl, B.1⟩

set_option maxRecDepth 100000 in
theorem fnNumbers (a0 : Option Addr) (len cap : Nat) (w : World) (hC : Flt.Bytes w a0 len) :
    Calls Try.prog 12 #[.slice a0 len cap] w fun e w' => e = .returned (.bool true) ∧ Grown w w' := by
  by_cases hl : len ≤ 4096
  · exact fnNumbers_small a0 len cap hl w hC
  · have bg := big_yes a0 len cap (by omega)
    clear hC hl
    go_enter Try.func12, Try.ntmps12
    go_wp2_with (go_at_call 34; (with_reducible refine (bg _).mono ?_); rintro e w' ⟨rfl, rfl⟩)
    go_ret
    exact ⟨rfl, Grown.refl _⟩
end Go.Proofs.Ytbojaddojhemeaa
