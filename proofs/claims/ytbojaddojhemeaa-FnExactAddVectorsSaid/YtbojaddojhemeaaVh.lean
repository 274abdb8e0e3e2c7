/- The law on AddVectors, for every two vectors. -/
import Derived.Test.YtbojaddojhemeaaVg
import Derived.Test.YtbojaddojhemeaaDp
namespace Go.Proofs.Ytbojaddojhemeaa
open Ieee Go.Flt Go.RowKit

theorem fnAdd (x0 x1 x2 y0 y1 y2 : Nat) (w : World) :
    Calls Try.prog 8 #[.agg #[.float .f32 x0, .float .f32 x1, .float .f32 x2], .agg #[.float .f32 y0, .float .f32 y1, .float .f32 y2]] w fun e w' => e = .returned (.bool true) ∧ Grown w w' := by
  by_cases h : (single.fin x0 ∧ single.fin x1 ∧ single.fin x2) ∧ (single.fin y0 ∧ single.fin y1 ∧ single.fin y2)
  · obtain ⟨hx, hy⟩ := h
    obtain ⟨r0, h0⟩ := add_some hx.1 hy.1
    obtain ⟨r1, h1⟩ := add_some hx.2.1 hy.2.1
    obtain ⟨r2, h2⟩ := add_some hx.2.2 hy.2.2
    by_cases hr : single.fin r0 ∧ single.fin r1 ∧ single.fin r2
    · exact fnAdd_of x0 x1 x2 y0 y1 y2 _ _ _ 0 ⟨clr_fin hr.1, clr_fin hr.2.1, clr_fin hr.2.2⟩ w (sAdd_ok x0 x1 x2 y0 y1 y2 r0 r1 r2 hx hy h0 h1 h2 hr) (iAdd_fin x0 x1 x2 y0 y1 y2 r0 r1 r2 hx hy h0 h1 h2 hr)
    · exact fnAdd_of x0 x1 x2 y0 y1 y2 _ _ _ 3 ⟨fin_zero, fin_zero, fin_zero⟩ w (sAdd_lim x0 x1 x2 y0 y1 y2 r0 r1 r2 hx hy h0 h1 h2 hr) (iAdd_lim x0 x1 x2 y0 y1 y2 r0 r1 r2 hx hy h0 h1 h2 hr)
  · exact fnAdd_of x0 x1 x2 y0 y1 y2 _ _ _ 1 ⟨fin_zero, fin_zero, fin_zero⟩ w (sAdd_bad x0 x1 x2 y0 y1 y2 h) (iAdd_bad x0 x1 x2 y0 y1 y2 h)
end Go.Proofs.Ytbojaddojhemeaa
