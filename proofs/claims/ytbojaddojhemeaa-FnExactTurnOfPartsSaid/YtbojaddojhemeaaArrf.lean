/- An array of four numbers of single precision, as the reader reads it: taken apart, and put together. -/
import Derived.Test.YtbojaddojhemeaaArr
namespace Go.Proofs.Ytbojaddojhemeaa
open Go.ChangeShapes Go.WideShapes Go.ChangeAt

theorem cellsP : Try.prog.cellsOf 42 = 4 := by kernel_rfl
theorem list4 {α : Type} (l : List α) (h : (⟨l⟩ : Array α).size = 4) : ∃ a b c d, l = [a, b, c, d] := by
  match l, h with
  | [a, b, c, d], _ => exact ⟨a, b, c, d, rfl⟩
set_option maxRecDepth 100000 in
theorem open_f4 {H : Type} {enc : TypeId × Value → H} {w W : World} {base b0 : Nat} {sp : Nat → Bool} {held : Bool} {r : Reach} {v : Value} {d : DataW H} {ps : List MemPlace}
    (hval : Value.okWide Try.prog W r b0 42 v) (h : DataW.Trod enc Try.prog w base sp held 42 v d ps) :
    ∃ x0 x1 x2 x3, v = .agg #[.float .f32 x0, .float .f32 x1, .float .f32 x2, .float .f32 x3] ∧ d = .agg [.lit (.float .f32 x0), .lit (.float .f32 x1), .lit (.float .f32 x2), .lit (.float .f32 x3)] ∧ ps = [] ∧
      (Lit.float .f32 x0).wf = true ∧ (Lit.float .f32 x1).wf = true ∧ (Lit.float .f32 x2).wf = true ∧ (Lit.float .f32 x3).wf = true := by
  obtain ⟨cs, rfl, hsz, _⟩ : ∃ cs, v = .agg cs ∧ cs.size = Try.prog.cellsOf 42 ∧ Row.okWide Try.prog W r b0 42 cs := by
    simpa [Value.okWide, Try.underlying42] using hval
  rw [cellsP] at hsz
  obtain ⟨l⟩ := cs
  obtain ⟨c0, c1, c2, c3, rfl⟩ := list4 l hsz
  obtain ⟨fuel, hf⟩ := h
  obtain ⟨y0, y1, y2, y3, m, hx, hy0, hy1, hy2, hy3⟩ := trod_array4 Try.underlying42 cellsF hf
  obtain ⟨x0, e0, rfl, w0⟩ := trod_f32 Try.underlying23 hy0
  obtain ⟨x1, e1, rfl, w1⟩ := trod_f32 Try.underlying23 hy1
  obtain ⟨x2, e2, rfl, w2⟩ := trod_f32 Try.underlying23 hy2
  obtain ⟨x3, e3, rfl, w3⟩ := trod_f32 Try.underlying23 hy3
  simp at e0 e1 e2 e3
  subst e0 e1 e2 e3
  simp only [Prod.mk.injEq] at hx
  obtain ⟨rfl, rfl⟩ := hx
  exact ⟨x0, x1, x2, x3, rfl, rfl, rfl, w0, w1, w2, w3⟩
set_option maxRecDepth 100000 in
theorem shut_f4 {H : Type} {enc : TypeId × Value → H} {w : World} {base : Nat} {sp : Nat → Bool} {held : Bool} {x0 x1 x2 x3 : Nat} (w0 : (Lit.float .f32 x0).wf = true) (w1 : (Lit.float .f32 x1).wf = true) (w2 : (Lit.float .f32 x2).wf = true) (w3 : (Lit.float .f32 x3).wf = true) :
    DataW.Trod enc Try.prog w base sp held 42 (.agg #[.float .f32 x0, .float .f32 x1, .float .f32 x2, .float .f32 x3]) (.agg [.lit (.float .f32 x0), .lit (.float .f32 x1), .lit (.float .f32 x2), .lit (.float .f32 x3)]) [] :=
  ⟨2, by simp [DataW.trod, Value.cells, Try.underlying42, Try.underlying23, cellsP, cellsF, w0, w1, w2, w3, show List.range 4 = [0, 1, 2, 3] from rfl]⟩
end Go.Proofs.Ytbojaddojhemeaa
