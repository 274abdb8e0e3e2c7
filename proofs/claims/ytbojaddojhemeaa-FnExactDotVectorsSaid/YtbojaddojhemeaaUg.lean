/- The law on DotVectors, for every two vectors. -/
import Derived.Test.YtbojaddojhemeaaUf
namespace Go.Proofs.Ytbojaddojhemeaa
open Ieee Go.Flt Go.RowKit

theorem fnDot (x0 x1 x2 y0 y1 y2 : Nat) (w : World) :
    Calls Try.prog 7 #[.agg #[.float .f32 x0, .float .f32 x1, .float .f32 x2], .agg #[.float .f32 y0, .float .f32 y1, .float .f32 y2]] w fun e w' => e = .returned (.bool true) ∧ Grown w w' := by
  by_cases h : (single.fin x0 ∧ single.fin x1 ∧ single.fin x2) ∧ (single.fin y0 ∧ single.fin y1 ∧ single.fin y2)
  · obtain ⟨hx, hy⟩ := h
    obtain ⟨p0, p1, p2, t1, t2, k1, k2, k3, k4, k5, g0, g1, g2, q1, q2, q3, q4, q5, a1, a2, hor⟩ := dot_law hx hy
    have dt := fun b o w hc hf => dot_any b o x0 x1 x2 y0 y1 y2 p0 p1 p2 t1 t2 k1 k2 k3 k4 k5 g0 g1 g2 q1 q2 q3 q4 q5 a1 a2 w hc hf
    rcases hor with ⟨h5, q, r, e1, e2, hr, hv⟩ | ⟨h5, hn⟩
    · rw [h5, hv] at dt
      exact fnDot_of x0 x1 x2 y0 y1 y2 (clr r) 0 (clr_fin hr) w (sDot_of x0 x1 x2 y0 y1 y2 r 0 hr (s0Dot_ok x0 x1 x2 y0 y1 y2 p0 p1 p2 q r hx hy g0 g1 g2 e1 e2 hr)) (iDot_ok x0 x1 x2 y0 y1 y2 (clr r) hx hy dt)
    · rw [h5] at dt
      exact fnDot_of x0 x1 x2 y0 y1 y2 0 3 fin_zero w (sDot_of x0 x1 x2 y0 y1 y2 0 3 fin_zero (s0Dot_lim x0 x1 x2 y0 y1 y2 p0 p1 p2 hx hy g0 g1 g2 hn)) (iDot_lim x0 x1 x2 y0 y1 y2 _ hx hy dt)
  · exact fnDot_of x0 x1 x2 y0 y1 y2 0 1 fin_zero w (sDot_of x0 x1 x2 y0 y1 y2 0 1 fin_zero (s0Dot_bad x0 x1 x2 y0 y1 y2 h)) (iDot_bad x0 x1 x2 y0 y1 y2 h)
end Go.Proofs.Ytbojaddojhemeaa
