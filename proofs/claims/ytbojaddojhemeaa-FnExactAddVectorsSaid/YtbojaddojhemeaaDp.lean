/- Plain laws: sums in single precision, whatever the operands; signs of zeros forgotten. -/
import Derived.Test.YtbojaddojhemeaaWh
namespace Go.Flt
open Ieee Go.Proofs.Ytbojaddojhemeaa

theorem add_not {x y r : Nat} (h : floatBits .add .f32 x y = some r) (hn : ¬ (single.fin x ∧ single.fin y)) : ¬ single.fin r := by
  have h : single.add x y = some r := h
  have key : ∀ s, single.write (.infinity s) = r → ¬ single.fin r := by
    intro s e
    rw [← e]
    show ¬ single.rung (single.write (.infinity s)) < single.infRung
    cases s <;> decide
  unfold Format.add at h
  rcases class32 x with h1 | h1 | h1
  · rcases class32 y with h2 | h2 | h2
    · exact absurd ⟨h1, h2⟩ hn
    · obtain ⟨m, i, rx, -, -⟩ := single.read_fin h1
      rw [rx, read_inf32 h2] at h
      simp only [Datum.sum, Option.map_some, Option.some.injEq] at h
      exact key _ h
    · obtain ⟨t, hr⟩ := read_nan32 h2
      rw [hr] at h
      cases h3 : single.read x <;> rw [h3] at h <;> simp [Datum.sum] at h
  · rw [read_inf32 h1] at h
    rcases class32 y with h2 | h2 | h2
    · obtain ⟨m, i, rx, -, -⟩ := single.read_fin h2
      rw [rx] at h
      simp only [Datum.sum, Option.map_some, Option.some.injEq] at h
      exact key _ h
    · rw [read_inf32 h2] at h
      simp only [Datum.sum] at h
      split at h
      · simp only [Option.map_some, Option.some.injEq] at h
        exact key _ h
      · simp at h
    · obtain ⟨t, hr⟩ := read_nan32 h2
      rw [hr] at h
      simp [Datum.sum] at h
  · obtain ⟨t, hr⟩ := read_nan32 h1
    rw [hr] at h
    simp [Datum.sum] at h

theorem add_run (x y : Nat) (w : World) : ∃ r : Nat × Nat, (∀ (P : Program) (t : TypeId), (binOp .add t (.float .f32 x) (.float .f32 y)).run P w = .ok (.float .f32 r.1) (w.drewN r.2)) ∧
    (¬ (single.fin x ∧ single.fin y) → ¬ single.fin r.1) ∧ (∀ q, floatBits .add .f32 x y = some q → r.1 = q) := by
  cases h : floatBits .add .f32 x y with
  | some q =>
    refine ⟨(q, 0), fun P t => ?_, fun hn => add_not h hn, fun q' e => by cases e; rfl⟩
    rw [run_float_arith w .add t .f32 x y q h]; rfl
  | none =>
    let b := (w.tape w.drawn (.nanBits .f32 x y) % 2) * 2 ^ 31 + 0x7f800000 + 1 + (w.tape w.drawn (.nanBits .f32 x y) / 2) % (2 ^ 23 - 1)
    have hb : single.infRung < single.rung b := (key32 (w.tape w.drawn (.nanBits .f32 x y))).2
    refine ⟨(b, 1), fun P t => ?_, fun _ hf => ?_, fun q e => by cases e⟩
    · unfold floatBits at h
      simp only at h
      simp [binOp, Op.floatArith, h]
      rfl
    · have hf : single.rung b < single.infRung := hf
      exact absurd hf (Nat.lt_asymm hb)
noncomputable def addR (x y : Nat) (w : World) : Nat := (Classical.choose (add_run x y w)).1
noncomputable def addN (x y : Nat) (w : World) : Nat := (Classical.choose (add_run x y w)).2
theorem run_addR (P : Program) (t : TypeId) (x y : Nat) (w : World) : (binOp .add t (.float .f32 x) (.float .f32 y)).run P w = .ok (.float .f32 (addR x y w)) (w.drewN (addN x y w)) :=
  (Classical.choose_spec (add_run x y w)).1 P t
theorem addR_not {x y : Nat} {w : World} (h : ¬ (single.fin x ∧ single.fin y)) : ¬ single.fin (addR x y w) := (Classical.choose_spec (add_run x y w)).2.1 h
theorem addR_eq {x y q : Nat} {w : World} (h : floatBits .add .f32 x y = some q) : addR x y w = q := (Classical.choose_spec (add_run x y w)).2.2 q h

theorem sval_clr (x : Nat) : single.sval (clr x) = single.sval x := by
  unfold clr
  split
  · rename_i h
    rw [sval_zero, sval_eq_zero.2 h]
  · rfl
theorem add_some {x y : Nat} (hx : single.fin x) (hy : single.fin y) : ∃ s, floatBits .add .f32 x y = some s := ⟨_, single.add_fin hx hy⟩
theorem mul_some {x y : Nat} (hx : single.fin x) (hy : single.fin y) : ∃ s, floatBits .mul .f32 x y = some s := ⟨_, single.mul_fin hx hy⟩
theorem zero_word (s : Bool) : single.nearest s 0 single.leastPlace = single.word s 0 := by
  cases s <;> decide
/-- Sums of what is alike but for the signs of zeros are alike but for those. -/
theorem add_alike {a b c d s t : Nat} (ha : single.fin a) (hb : single.fin b) (hc : single.fin c) (hd : single.fin d) (e1 : single.sval a = single.sval c) (e2 : single.sval b = single.sval d)
    (h1 : floatBits .add .f32 a b = some s) (h2 : floatBits .add .f32 c d = some t) : (single.fin s ↔ single.fin t) ∧ clr s = clr t := by
  have h1 : single.add a b = some s := h1
  have h2 : single.add c d = some t := h2
  rw [single.add_fin ha hb] at h1
  rw [single.add_fin hc hd, ← e1, ← e2] at h2
  by_cases h0 : single.sval a + single.sval b = 0
  · rw [h0] at h1 h2
    simp only [Int.natAbs_zero, zero_word, Option.some.injEq] at h1 h2
    have z : ∀ s : Bool, single.fin (single.word s 0) ∧ clr (single.word s 0) = 0 := by
      intro s
      refine ⟨single.fin_word _ (by decide), ?_⟩
      unfold clr
      rw [if_pos (single.rung_word _ (by decide))]
    rw [← h1, ← h2]
    exact ⟨⟨fun _ => (z _).1, fun _ => (z _).1⟩, (z _).2.trans (z _).2.symm⟩
  · have e : ∀ u v, Format.sumNeg (single.sval a + single.sval b) u v = decide (single.sval a + single.sval b < 0) := fun u v => by unfold Format.sumNeg; rw [if_neg h0]
    rw [e] at h1 h2
    cases h1.symm.trans h2
    exact ⟨Iff.rfl, rfl⟩
theorem rv_fin (k : Int) (x : Nat) : single.fin (rv k x) := by
  unfold rv
  split
  · rename_i h; exact clr_fin (fin_of h.1)
  · exact fin_zero
theorem rv_zero {x : Nat} (h : single.fin x) : rv 0 x = clr x := by unfold rv; rw [if_pos ⟨isFin_true h, rfl⟩]
end Go.Flt
