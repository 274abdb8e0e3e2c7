/- The law on TurnOfParts, for every four words of 32 bits. -/
import Derived.Test.YtbojaddojhemeaaTi
namespace Go.Proofs.Ytbojaddojhemeaa
open Ieee Go.Flt Go.RowKit

theorem fnTurn (x0 x1 x2 x3 : Nat) (l1 : x1 < 4294967296) (l2 : x2 < 4294967296) (l3 : x3 < 4294967296) (w : World) :
    Calls Try.prog 9 #[.agg #[.float .f32 x0, .float .f32 x1, .float .f32 x2, .float .f32 x3]] w fun e w' => e = .returned (.bool true) ∧ Grown w w' := by
  by_cases hx : single.fin x0 ∧ single.fin x1 ∧ single.fin x2 ∧ single.fin x3
  · have m1 := neg_fin hx.2.1 l1
    have m2 := neg_fin hx.2.2.1 l2
    have m3 := neg_fin hx.2.2.2 l3
    exact fnTurn_of x0 x1 x2 x3 _ _ _ _ _ _ _ _ 0 ⟨clr_fin hx.1, clr_fin m3, clr_fin m2, clr_fin m1⟩ ⟨clr_fin hx.2.2.1, clr_fin m1, clr_fin hx.1, clr_fin hx.2.2.2⟩ w
      (sTurn_ok x0 x1 x2 x3 _ _ _ rfl rfl rfl hx m1 m2 m3) (iTurn_ok x0 x1 x2 x3 _ _ _ rfl rfl rfl hx m1 m2 m3)
  · exact fnTurn_of x0 x1 x2 x3 0 0 0 0 0 0 0 0 1 ⟨fin_zero, fin_zero, fin_zero, fin_zero⟩ ⟨fin_zero, fin_zero, fin_zero, fin_zero⟩ w (sTurn_bad x0 x1 x2 x3 hx) (iTurn_bad x0 x1 x2 x3 hx)
end Go.Proofs.Ytbojaddojhemeaa
