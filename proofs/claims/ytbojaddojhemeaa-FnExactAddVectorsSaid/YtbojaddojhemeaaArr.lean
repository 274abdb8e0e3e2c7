/- An array of three numbers of single precision, as the reader reads it: taken apart, and put together. -/
import Derived.Test.YtbojaddojhemeaaRows
import Derived.ChangeSame
import Derived.Laws.IdiomArrays
import Derived.Laws.Cover2
import Derived.OpenShut
import Derived.KernelRfl
import Derived.WalkKit
import Derived.ProofKit
namespace Go.Proofs.Ytbojaddojhemeaa
open Go.ChangeShapes Go.WideShapes Go.ChangeAt

theorem cellsF : Try.prog.cellsOf 23 = 1 := by kernel_rfl
theorem cellsV : Try.prog.cellsOf 34 = 3 := by kernel_rfl
theorem list3 {α : Type} (l : List α) (h : (⟨l⟩ : Array α).size = 3) : ∃ a b c, l = [a, b, c] := by
  match l, h with
  | [a, b, c], _ => exact ⟨a, b, c, rfl⟩
theorem trod_f32 {H : Type} {enc : TypeId × Value → H} {P : Program} {w : World} {base : Nat} {spare : Nat → Bool} {held : Bool} {fuel : Nat} {t : TypeId} {cs : List Value} {x : DataW H × List MemPlace} {k : FloatKind} (ht : P.underlying t = some (.float k)) (h : DataW.trod enc P w base spare held fuel t cs = some x) : ∃ n, cs = [.float k n] ∧ x = (.lit (.float k n), []) ∧ (Lit.float k n).wf = true := by
  cases fuel with
  | zero => simp [DataW.trod] at h
  | succ n =>
    unfold DataW.trod at h
    rw [ht] at h
    split at h <;> simp_all
set_option maxRecDepth 100000 in
theorem open_f3 {H : Type} {enc : TypeId × Value → H} {w W : World} {base b0 : Nat} {sp : Nat → Bool} {held : Bool} {r : Reach} {v : Value} {d : DataW H} {ps : List MemPlace}
    (hval : Value.okWide Try.prog W r b0 34 v) (h : DataW.Trod enc Try.prog w base sp held 34 v d ps) :
    ∃ x y z, v = .agg #[.float .f32 x, .float .f32 y, .float .f32 z] ∧ d = .agg [.lit (.float .f32 x), .lit (.float .f32 y), .lit (.float .f32 z)] ∧ ps = [] ∧ (Lit.float .f32 x).wf = true ∧ (Lit.float .f32 y).wf = true ∧ (Lit.float .f32 z).wf = true := by
  obtain ⟨cs, rfl, hsz, _⟩ : ∃ cs, v = .agg cs ∧ cs.size = Try.prog.cellsOf 34 ∧ Row.okWide Try.prog W r b0 34 cs := by
    simpa [Value.okWide, Try.underlying34] using hval
  rw [cellsV] at hsz
  obtain ⟨l⟩ := cs
  obtain ⟨c0, c1, c2, rfl⟩ := list3 l hsz
  obtain ⟨fuel, hf⟩ := h
  obtain ⟨y0, y1, y2, m, hx, hy0, hy1, hy2⟩ := trod_array3 Try.underlying34 cellsF hf
  obtain ⟨x0, e0, rfl, w0⟩ := trod_f32 Try.underlying23 hy0
  obtain ⟨x1, e1, rfl, w1⟩ := trod_f32 Try.underlying23 hy1
  obtain ⟨x2, e2, rfl, w2⟩ := trod_f32 Try.underlying23 hy2
  simp at e0 e1 e2
  subst e0 e1 e2
  simp only [Prod.mk.injEq] at hx
  obtain ⟨rfl, rfl⟩ := hx
  exact ⟨x0, x1, x2, rfl, rfl, rfl, w0, w1, w2⟩
set_option maxRecDepth 100000 in
theorem shut_f3 {H : Type} {enc : TypeId × Value → H} {w : World} {base : Nat} {sp : Nat → Bool} {held : Bool} {x y z : Nat} (w0 : (Lit.float .f32 x).wf = true) (w1 : (Lit.float .f32 y).wf = true) (w2 : (Lit.float .f32 z).wf = true) :
    DataW.Trod enc Try.prog w base sp held 34 (.agg #[.float .f32 x, .float .f32 y, .float .f32 z]) (.agg [.lit (.float .f32 x), .lit (.float .f32 y), .lit (.float .f32 z)]) [] :=
  ⟨2, by simp [DataW.trod, Value.cells, Try.underlying34, Try.underlying23, cellsV, cellsF, w0, w1, w2, show List.range 3 = [0, 1, 2] from rfl]⟩
end Go.Proofs.Ytbojaddojhemeaa
