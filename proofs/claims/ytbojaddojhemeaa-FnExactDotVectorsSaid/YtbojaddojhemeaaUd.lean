/- Walks: the law on DotVectors. -/
import Derived.Test.YtbojaddojhemeaaUb
import Derived.Test.YtbojaddojhemeaaUc
import Derived.Test.YtbojaddojhemeaaVe
namespace Go.Proofs.Ytbojaddojhemeaa
open Ieee Go.Flt Go.RowKit

theorem rc_finr {x : Nat} {k : Int} (h : single.fin x) : rc k x = k := rc_fin k h
theorem rc_keep {x : Nat} : rc 3 x = 3 := rc_three x

/-- The dot by the calculator: a number, or the code of what is too great. -/
theorem dot_law {x0 x1 x2 y0 y1 y2 : Nat} (hx : single.fin x0 ∧ single.fin x1 ∧ single.fin x2) (hy : single.fin y0 ∧ single.fin y1 ∧ single.fin y2) :
    ∃ p0 p1 p2 t1 t2 : Nat, ∃ k1 k2 k3 k4 k5 : Int, floatBits .mul .f32 x0 y0 = some p0 ∧ floatBits .mul .f32 x1 y1 = some p1 ∧ floatBits .mul .f32 x2 y2 = some p2 ∧
      k1 = rc 0 p0 ∧ k2 = rc k1 p1 ∧ k3 = rc k2 t1 ∧ k4 = rc k3 p2 ∧ k5 = rc k4 t2 ∧
      floatBits .add .f32 (rv 0 p0) (rv k1 p1) = some t1 ∧ floatBits .add .f32 (rv k2 t1) (rv k3 p2) = some t2 ∧
      ((k5 = 0 ∧ ∃ q r, floatBits .add .f32 p0 p1 = some q ∧ floatBits .add .f32 q p2 = some r ∧ single.fin r ∧ rv k4 t2 = clr r) ∨
       (k5 = 3 ∧ ∀ u v, ¬ single.fin (addR (addR p0 p1 u) p2 v))) := by
  obtain ⟨p0, g0⟩ := mul_some hx.1 hy.1
  obtain ⟨p1, g1⟩ := mul_some hx.2.1 hy.2.1
  obtain ⟨p2, g2⟩ := mul_some hx.2.2 hy.2.2
  obtain ⟨t1, e1⟩ := add_some (rv_fin 0 p0) (rv_fin (rc 0 p0) p1)
  obtain ⟨t2, e2⟩ := add_some (rv_fin (rc (rc 0 p0) p1) t1) (rv_fin (rc (rc (rc 0 p0) p1) t1) p2)
  refine ⟨p0, p1, p2, t1, t2, _, _, _, _, _, g0, g1, g2, rfl, rfl, rfl, rfl, rfl, e1, e2, ?_⟩
  by_cases h0 : single.fin p0
  · rw [rc_finr h0] at e1 e2 ⊢
    by_cases h1 : single.fin p1
    · rw [rc_finr h1] at e2 ⊢
      rw [rv_zero h0, rv_zero h1] at e1
      obtain ⟨q, f1⟩ := add_some h0 h1
      obtain ⟨a1, a2⟩ := add_alike h0 h1 (clr_fin h0) (clr_fin h1) (sval_clr p0).symm (sval_clr p1).symm f1 e1
      by_cases h2 : single.fin t1
      · rw [rc_finr h2] at e2 ⊢
        by_cases h3 : single.fin p2
        · rw [rc_finr h3]
          rw [rv_zero h2, rv_zero h3] at e2
          obtain ⟨r, f2⟩ := add_some (a1.2 h2) h3
          obtain ⟨b1, b2⟩ := add_alike (a1.2 h2) h3 (clr_fin h2) (clr_fin h3) (by rw [← sval_clr q, a2]) (sval_clr p2).symm f2 e2
          by_cases h4 : single.fin t2
          · rw [rc_finr h4, rv_zero h4]
            exact .inl ⟨rfl, q, r, f1, f2, b1.2 h4, b2.symm⟩
          · rw [rc_not h4]
            exact .inr ⟨rfl, fun u v => by rw [addR_eq f1, addR_eq f2]; exact fun h => h4 (b1.1 h)⟩
        · rw [rc_not h3, rc_three]
          exact .inr ⟨rfl, fun u v => addR_not fun h => h3 h.2⟩
      · rw [rc_not h2, rc_three, rc_three]
        exact .inr ⟨rfl, fun u v => addR_not fun h => h2 (a1.1 (by rw [addR_eq f1] at h; exact h.1))⟩
    · rw [rc_not h1, rc_three, rc_three, rc_three]
      exact .inr ⟨rfl, fun u v => addR_not fun h => addR_not (fun h' => h1 h'.2) h.1⟩
  · rw [rc_not h0, rc_three, rc_three, rc_three, rc_three]
    exact .inr ⟨rfl, fun u v => addR_not fun h => addR_not (fun h' => h0 h'.1) h.1⟩
end Go.Proofs.Ytbojaddojhemeaa
