/- The law on numbers: what a root and the steps between two numbers come to, in one word each. -/
import Derived.Test.YtbojaddojhemeaaFe
import Derived.Test.YtbojaddojhemeaaFf
import Derived.Test.YtbojaddojhemeaaWh
namespace Go.Proofs.Ytbojaddojhemeaa
open Ieee Go.Flt Go.RowKit

theorem plc_nat {m : Nat} (h : m < 2147483648) : plc m = m := by
  have hn : single.negb m = false := single.negb_word false h
  have hr : single.rung m = m := single.rung_word false h
  unfold plc
  rw [hn, hr]
  rfl
theorem sw_nat (m : Nat) : sw (m : Int) = m := sw_of
theorem gt_zero {m : Nat} (h0 : 0 < m) (h : m < 2139095040) : (FloatKind.f32.format.order m 0 == some .gt) = true := by
  show (single.order m 0 == some .gt) = true
  have hf : single.fin m := by show m % 2147483648 < 2139095040; omega
  rw [single.order_fin hf fin_zero, sval_zero, beq_gt, decide_eq_true_eq, sval_plc, plc_nat (by omega), if_neg (by omega), Int.natAbs_natCast]
  have := single.units_eq_zero (R := m)
  omega

/-- What is known of a root's case. -/
structure RootPos (a m lo hi zl zm zh za s t u s' t' u' : Nat) : Prop where
  S : ∀ w, Calls Try.prog 30 #[.float .f32 a] w fun e w' => e = .returned (.tuple #[.float .f32 m, .int .i64 0]) ∧ Grown w w'
  I : ∀ w, Calls Try.prog 31 #[.float .f32 a] w fun e w' => e = .returned (.tuple #[.float .f32 m, .int .i64 0]) ∧ Grown w w'
  P : ∀ w, Calls Try.prog 17 #[.float .f32 m] w fun e w' => e = .returned (.tuple #[.int .i64 m, .int .i64 0]) ∧ w = w'
  L : ∀ w, Calls Try.prog 14 #[.int .i64 ((m : Int) - 1)] w fun e w' => e = .returned (.tuple #[.float .f32 lo, .int .i64 0]) ∧ w = w'
  H : ∀ w, Calls Try.prog 14 #[.int .i64 ((m : Int) + 1)] w fun e w' => e = .returned (.tuple #[.float .f32 hi, .int .i64 0]) ∧ w = w'
  m0 : 1 < m
  m1 : m < 2139095040
  pos : (FloatKind.f32.format.order m 0 == some .gt) = true
  same : (FloatKind.f32.format.order m m != some .eq) = false
  wl : ∀ w, (convert 23 27 (.float .f32 lo)).run Try.prog w = .ok (.float .f64 zl) w
  wm : ∀ w, (convert 23 27 (.float .f32 m)).run Try.prog w = .ok (.float .f64 zm) w
  wh : ∀ w, (convert 23 27 (.float .f32 hi)).run Try.prog w = .ok (.float .f64 zh) w
  wa : ∀ w, (convert 23 27 (.float .f32 a)).run Try.prog w = .ok (.float .f64 za) w
  o1 : ∀ t w, (binOp .add t (.float .f64 zl) (.float .f64 zm)).run Try.prog w = .ok (.float .f64 s) w
  o2 : ∀ t' w, (binOp .quo t' (.float .f64 s) (.float .f64 4611686018427387904)).run Try.prog w = .ok (.float .f64 t) w
  o3 : ∀ t' w, (binOp .mul t' (.float .f64 t) (.float .f64 t)).run Try.prog w = .ok (.float .f64 u) w
  o4 : ∀ t w, (binOp .add t (.float .f64 zm) (.float .f64 zh)).run Try.prog w = .ok (.float .f64 s') w
  o5 : ∀ t w, (binOp .quo t (.float .f64 s') (.float .f64 4611686018427387904)).run Try.prog w = .ok (.float .f64 t') w
  o6 : ∀ t w, (binOp .mul t (.float .f64 t') (.float .f64 t')).run Try.prog w = .ok (.float .f64 u') w
  q1 : (FloatKind.f64.format.order u za == some .gt) = false
  q2 : (FloatKind.f64.format.order u' za == some .lt) = false

theorem root_cases (a : Nat) :
    (∃ c : Int, (c == 0) = false ∧ (∀ w, Calls Try.prog 30 #[.float .f32 a] w fun e w' => e = .returned (.tuple #[.float .f32 0, .int .i64 c]) ∧ Grown w w') ∧ (∀ w, Calls Try.prog 31 #[.float .f32 a] w fun e w' => e = .returned (.tuple #[.float .f32 0, .int .i64 c]) ∧ Grown w w')) ∨
    ((∀ w, Calls Try.prog 30 #[.float .f32 a] w fun e w' => e = .returned (.tuple #[.float .f32 0, .int .i64 0]) ∧ Grown w w') ∧ (∀ w, Calls Try.prog 31 #[.float .f32 a] w fun e w' => e = .returned (.tuple #[.float .f32 0, .int .i64 0]) ∧ Grown w w')) ∨
    (∃ m lo hi zl zm zh za s t u s' t' u', RootPos a m lo hi zl zm zh za s t u s' t' u') := by
  by_cases hx : single.fin a
  · by_cases h0 : plc a < 0
    · exact .inl ⟨2, rfl, fun w => (sRootOf_neg a hx h0 w).mono fun e w' ⟨h, hn⟩ => ⟨h, hn ▸ Grown.refl w⟩, fun w => (iRootOf_neg a hx h0 w).mono fun e w' ⟨h, hn⟩ => ⟨h, hn ▸ Grown.refl w⟩⟩
    · have S : ∀ w, Calls Try.prog 30 #[.float .f32 a] w fun e w' => e = .returned (.tuple #[.float .f32 (rootv a), .int .i64 0]) ∧ Grown w w' := fun w => (sRootOf_yes a hx h0 w).mono fun e w' ⟨h, hn⟩ => ⟨h, hn ▸ Grown.refl w⟩
      have I : ∀ w, Calls Try.prog 31 #[.float .f32 a] w fun e w' => e = .returned (.tuple #[.float .f32 (rootv a), .int .i64 0]) ∧ Grown w w' := fun w => (iRootOf_yes a hx h0 w).mono fun e w' ⟨h, hn⟩ => ⟨h, hn ▸ (Grown.refl w).alloc _ _⟩
      by_cases hr : single.rung a = 0
      · have e : rootv a = 0 := by unfold rootv; rw [if_pos hr]
        rw [e] at S I
        exact .inr (.inl ⟨S, I⟩)
      · have e : rootv a = rt a := by unfold rootv; rw [if_neg hr]
        obtain ⟨m, hm, m2, m3, ⟨s, t, u, a1, a2, a3, a4⟩, s', t', u', b1, b2, b3, b4⟩ := root_middles hx (by have := (plc_nonneg h0).1; omega)
        rw [e, hm] at S I
        have fm : ∀ k, k ≤ 2139095039 → single.fin k := fun k hk => by show k % 2147483648 < 2139095040; omega
        have P := iPlaceOf_fin m (fm m (by omega))
        rw [plc_nat (by omega)] at P
        have L := iFloatAt_yes ((m : Int) - 1) (by omega) (by omega)
        rw [show sw ((m : Int) - 1) = m - 1 from by rw [show (m : Int) - 1 = ((m - 1 : Nat) : Int) from by omega]; exact sw_nat _] at L
        have H := iFloatAt_yes ((m : Int) + 1) (by omega) (by omega)
        rw [show sw ((m : Int) + 1) = m + 1 from sw_nat (m + 1)] at H
        refine .inr (.inr ⟨m, m - 1, m + 1, wid (m - 1), wid m, wid (m + 1), wid a, s, t, u, s', t', u', S, I, P, L, H, by omega, by omega, gt_zero (by omega) (by omega), ?_, run_widen_fin _ (fm _ (by omega)), run_widen_fin _ (fm _ (by omega)), run_widen_fin _ (fm _ (by omega)), run_widen_fin _ hx, fun t w => run_float_arith w .add t .f64 _ _ _ a1, fun t w => run_float_arith w .quo t .f64 _ _ _ a2, fun t w => run_float_arith w .mul t .f64 _ _ _ a3, fun t w => run_float_arith w .add t .f64 _ _ _ b1, fun t w => run_float_arith w .quo t .f64 _ _ _ b2, fun t w => run_float_arith w .mul t .f64 _ _ _ b3, a4, b4⟩)
        show (!(single.order m m == some .eq)) = false
        rw [order_plc (fm m (by omega)) (fm m (by omega))]
        simp
  · exact .inl ⟨1, rfl, fun w => (sRootOf_not a hx w).mono fun e w' ⟨h, hn⟩ => ⟨h, hn ▸ grown_drewN w 1⟩, fun w => (iRootOf_not a hx w).mono fun e w' ⟨h, n, hn⟩ => ⟨h, hn ▸ grown_drewN w n⟩⟩

theorem steps_cases (b c : Nat) (lb : b < 4294967296) (lc : c < 4294967296) :
    ((∀ w, Calls Try.prog 18 #[.float .f32 b, .float .f32 c] w fun e w' => e = .returned (.tuple #[.int .i64 0, .int .i64 1]) ∧ Grown w w') ∧ (∀ w, Calls Try.prog 19 #[.float .f32 b, .float .f32 c] w fun e w' => e = .returned (.tuple #[.int .i64 0, .int .i64 1]) ∧ Grown w w')) ∨
    (∃ d : Int, (FloatKind.f32.format.order b c == some .eq) = (d == 0) ∧ (∀ w, Calls Try.prog 18 #[.float .f32 b, .float .f32 c] w fun e w' => e = .returned (.tuple #[.int .i64 d, .int .i64 0]) ∧ Grown w w') ∧ (∀ w, Calls Try.prog 19 #[.float .f32 b, .float .f32 c] w fun e w' => e = .returned (.tuple #[.int .i64 d, .int .i64 0]) ∧ Grown w w') ∧ (∀ w, Calls Try.prog 19 #[.float .f32 c, .float .f32 b] w fun e w' => e = .returned (.tuple #[.int .i64 d, .int .i64 0]) ∧ Grown w w')) := by
  by_cases h : single.fin b ∧ single.fin c
  · refine .inr ⟨((plc b - plc c).natAbs : Int), ?_, fun w => (sSteps_fin b c lb lc h.1 h.2 w).mono fun e w' ⟨h, hn⟩ => ⟨h, hn ▸ Grown.refl w⟩, fun w => (iSteps_fin b c h.1 h.2 w).mono fun e w' ⟨h, hn⟩ => ⟨h, hn ▸ Grown.refl w⟩, fun w => (iSteps_fin c b h.2 h.1 w).mono fun e w' ⟨h', hn⟩ => ⟨by rw [h', show (plc c - plc b).natAbs = (plc b - plc c).natAbs from by omega], hn ▸ Grown.refl w⟩⟩
    show (single.order b c == some .eq) = _
    rw [order_plc h.1 h.2, Bool.eq_iff_iff]
    simp only [decide_eq_true_eq, beq_iff_eq]
    omega
  · exact .inl ⟨fun w => (sSteps_not b c h w).mono fun e w' ⟨h, n, hn⟩ => ⟨h, hn ▸ grown_drewN w n⟩, fun w => (iSteps_not b c h w).mono fun e w' ⟨h, n, hn⟩ => ⟨h, hn ▸ grown_drewN w n⟩⟩
end Go.Proofs.Ytbojaddojhemeaa
