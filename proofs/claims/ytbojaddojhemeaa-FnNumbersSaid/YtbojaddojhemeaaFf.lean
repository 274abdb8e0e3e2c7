/- Plain law: places there and back; the middles beside a root. -/
import Derived.Test.YtbojaddojhemeaaRs
import Derived.Test.YtbojaddojhemeaaWe
namespace Go.Flt
open Ieee Go.Proofs.Ytbojaddojhemeaa

theorem plc_sw {p : Int} (h0 : -2139095039 ≤ p) (hs : p ≤ 2139095039) : plc (sw p) = p := by
  have hl : p.natAbs < single.signWeight := show p.natAbs < 2147483648 by omega
  unfold plc sw
  rw [single.negb_word _ hl, single.rung_word _ hl]
  by_cases h : p < 0
  · rw [decide_eq_true h, if_pos rfl]; omega
  · rw [decide_eq_false h, if_neg (by decide)]; omega
theorem plc_range {x : Nat} (h : single.fin x) : -2139095039 ≤ plc x ∧ plc x ≤ 2139095039 := by
  have : single.rung x < 2139095040 := h
  unfold plc
  split <;> omega
theorem sval_plc (x : Nat) : single.sval x = if plc x < 0 then -(single.units (plc x).natAbs : Int) else (single.units (plc x).natAbs : Int) := by
  unfold Format.sval plc
  have h := single.units_zero
  cases single.negb x
  · simp only [Bool.false_eq_true, if_false, Int.natAbs_natCast]
    rw [if_neg (by omega)]
  · simp only [if_true, Int.natAbs_neg, Int.natAbs_natCast]
    by_cases h0 : single.rung x = 0
    · rw [h0, h]; rfl
    · rw [if_pos (by omega)]
theorem sval_eq_plc {x y : Nat} : single.sval x = single.sval y ↔ plc x = plc y := by
  constructor
  · intro h
    rw [sval_plc x, sval_plc y] at h
    have hx := single.units_eq_zero (R := (plc x).natAbs)
    have hy := single.units_eq_zero (R := (plc y).natAbs)
    have inj : single.units (plc x).natAbs = single.units (plc y).natAbs → (plc x).natAbs = (plc y).natAbs := single.units_inj
    split at h <;> split at h
    · have := inj (by omega); omega
    · have e : single.units (plc x).natAbs = 0 := by omega
      have := hx.1 e
      omega
    · have e : single.units (plc y).natAbs = 0 := by omega
      have := hy.1 e
      omega
    · have := inj (by omega); omega
  · intro h
    rw [sval_plc x, sval_plc y, h]
theorem order_plc {x y : Nat} (hx : single.fin x) (hy : single.fin y) : (single.order x y == some .eq) = decide (plc x = plc y) := by
  rw [single.order_fin hx hy, beq_eq, decide_eq_decide]
  exact sval_eq_plc
theorem neg_word32 {x : Nat} (hl : x < 4294967296) : Op.negFloat .f32 x = single.word (!single.negb x) (single.rung x) := by
  have e := single.word_of (x := x) hl
  have hr : single.rung x < 2147483648 := rung_lt x
  conv => lhs; rw [← e]
  exact negFloat32 hr
theorem plc_neg_float {x : Nat} (hl : x < 4294967296) : plc (Op.negFloat .f32 x) = -plc x := by
  have hr : single.rung x < single.signWeight := rung_lt x
  rw [neg_word32 hl]
  unfold plc
  rw [single.negb_word _ hr, single.rung_word _ hr]
  cases single.negb x <;> simp
theorem fin_neg_float {x : Nat} (hl : x < 4294967296) (h : single.fin x) : single.fin (Op.negFloat .f32 x) := by
  rw [neg_word32 hl]
  exact single.fin_word _ h

/- The middles beside a root. -/
theorem units_at {l g : Nat} (hl : 1 ≤ l) (h1 : 8388608 ≤ g) (h2 : g ≤ 16777216) : single.units (l * 8388608 + g) = g * 2 ^ l := by
  rw [units_place (by omega)]
  rcases Nat.lt_or_ge g 16777216 with hlt | hge
  · have e1 : (l * 8388608 + g) % 8388608 = g - 8388608 := by omega
    have e2 : (l * 8388608 + g) / 8388608 = l + 1 := by omega
    rw [e1, e2, show g - 8388608 + 8388608 = g from by omega, Nat.add_sub_cancel]
  · have e0 : g = 16777216 := by omega
    have e1 : (l * 8388608 + g) % 8388608 = 0 := by omega
    have e2 : (l * 8388608 + g) / 8388608 = l + 2 := by omega
    rw [e1, e2, e0, show l + 2 - 1 = l + 1 from rfl, Nat.pow_succ 2 l]
    omega

theorem middle {x y U V M l F : Nat} (hF : F = 925) (hx : IsD x false (U * 2 ^ F)) (hy : IsD y false (V * 2 ^ F)) (hM : M < 2 ^ 53) (hM2 : M * M < 2 ^ 53) (hl : 1 ≤ l) (hl2 : l ≤ 250) (h : U + V = M * 2 ^ (l - 1)) :
    ∃ s t u, floatBits .add .f64 x y = some s ∧ floatBits .quo .f64 s 4611686018427387904 = some t ∧ floatBits .mul .f64 t t = some u ∧ IsD u false (M * M * 2 ^ (2 * l + 772)) := by
  obtain ⟨E, hE⟩ : ∃ E : Nat, E = 1074 := ⟨_, rfl⟩
  obtain ⟨R1, _, _, d1⟩ := IsD.of_units (s := false) (m := M) (c := l - 1 + F) hM (by omega)
  obtain ⟨R2, _, _, d2⟩ := IsD.of_units (s := false) (m := M) (c := l - 1 + F - 1) hM (by omega)
  obtain ⟨R3, _, _, d3⟩ := IsD.of_units (s := false) (m := M * M) (c := 2 * l + 772) hM2 (by omega)
  refine ⟨_, _, _, hx.add hy d1 ?_ ?_, ?_, d2.mul d2 (s := false) (t := false) d3 (k := E) hE ?_, d3⟩
  · unfold sg
    simp only [Bool.false_eq_true, if_false]
    rw [← Int.natCast_add, ← Nat.add_mul, h, Nat.mul_assoc, ← Nat.pow_add]
  · unfold Format.sumNeg sg
    simp only [Bool.false_eq_true, if_false, Bool.and_self]
    split
    · rfl
    · exact (decide_eq_false (by exact Int.not_lt.2 (Int.natCast_nonneg _))).symm
  · rw [← pw1]
    refine div_pw_exact d1 (by omega) (by omega) d2 ?_
    rw [show (-1 : Int).toNat = 0 from rfl, show (1 : Int).toNat = 1 from rfl, Nat.pow_zero, Nat.mul_one, Nat.mul_assoc, ← Nat.pow_add]
    congr 2
    omega
  · rw [show l - 1 + F - 1 = l + 923 from by omega, Nat.mul_mul_mul_comm, ← Nat.pow_add, Nat.mul_assoc (M * M), ← Nat.pow_add]
    congr 2
    omega

theorem rooted_even {x n r : Nat} {k : Int} (h : Rooted x n r k) : (evenRoot n r - 1) * (evenRoot n r - 1) ≤ n ∧ n ≤ (evenRoot n r + 1) * (evenRoot n r + 1) ∧ (evenRoot n r = 16777216 → evenRoot n r * evenRoot n r ≤ n) := by
  have hb := h.below
  have ha := h.above
  have hr1 : 2 ^ 24 ≤ r := by
    have : 2 ^ 24 < r + 1 := sq_lt (Nat.lt_of_le_of_lt (Nat.le_trans (by decide) h.lo) h.above)
    omega
  obtain ⟨g, hg⟩ : ∃ g, r - r % 2 = g := ⟨_, rfl⟩
  have hg1 : g ≤ r := by omega
  have hg2 : r ≤ g + 1 := by omega
  unfold evenRoot
  rw [hg]
  split
  · rename_i h1
    refine ⟨?_, ?_, fun he => by omega⟩
    · rw [show g + 2 - 1 = g + 1 from by omega]; exact Nat.le_of_lt h1
    · exact Nat.le_trans (Nat.le_of_lt ha) (Nat.mul_le_mul (by omega) (by omega))
  · rename_i h1
    refine ⟨?_, Nat.not_lt.1 h1, fun _ => ?_⟩
    · exact Nat.le_trans (Nat.mul_le_mul (show g - 1 ≤ r by omega) (show g - 1 ≤ r by omega)) hb
    · exact Nat.le_trans (Nat.mul_le_mul hg1 hg1) hb

theorem order_gt_no {u z U V : Nat} (hu : IsD u false U) (hz : IsD z false V) (h : U ≤ V) : (double.order u z == some .gt) = false := by
  rw [hu.order hz, beq_gt]
  unfold sg
  simp only [Bool.false_eq_true, if_false]
  exact decide_eq_false (by omega)
theorem order_lt_no {u z U V : Nat} (hu : IsD u false U) (hz : IsD z false V) (h : V ≤ U) : (double.order u z == some .lt) = false := by
  rw [hu.order hz, beq_lt]
  unfold sg
  simp only [Bool.false_eq_true, if_false]
  exact decide_eq_false (by omega)

theorem wid_nat {p F : Nat} (hF : F = 925) (hp : p < 2139095040) : IsD (wid p) false (single.units p * 2 ^ F) := by
  have hl : p < 2147483648 := by omega
  have hf : single.fin p := by show p % 2147483648 < 2139095040; omega
  have h := wid_isD hf hF
  have hn : single.negb p = false := single.negb_word false hl
  have hr : single.rung p = p := single.rung_word false hl
  rw [hn, hr] at h
  exact h

/-- The squares of the middles beside a root hold the number between them. -/
theorem root_middles {a : Nat} (ha : single.fin a) (h0 : 0 < plc a) :
    ∃ m : Nat, rt a = m ∧ 2 ≤ m ∧ m + 1 ≤ 2139095039 ∧
      (∃ s t u, floatBits .add .f64 (wid (m - 1)) (wid m) = some s ∧ floatBits .quo .f64 s 4611686018427387904 = some t ∧ floatBits .mul .f64 t t = some u ∧ (double.order u (wid a) == some .gt) = false) ∧
      (∃ s t u, floatBits .add .f64 (wid m) (wid (m + 1)) = some s ∧ floatBits .quo .f64 s 4611686018427387904 = some t ∧ floatBits .mul .f64 t t = some u ∧ (double.order u (wid a) == some .lt) = false) := by
  obtain ⟨F, hF⟩ : ∃ F : Nat, F = 925 := ⟨_, rfl⟩
  obtain ⟨n, r, k, hR⟩ := rooted ha h0
  obtain ⟨_, _, _, hrt⟩ := hR.root
  obtain ⟨h1, h2, h3⟩ := hR.sizes
  obtain ⟨q1, q2, q3⟩ := rooted_even hR
  have hk1 := hR.kLo
  have hk2 := hR.kHi
  have hn := hR.hi
  have hd := hR.is
  obtain ⟨g, hg⟩ : ∃ g, evenRoot n r = 2 * g := ⟨evenRoot n r / 2, by omega⟩
  have hp : rtPlace n r k = (150 - k).toNat * 8388608 + g := by unfold rtPlace; rw [hg]; omega
  obtain ⟨l, hl⟩ : ∃ l, (150 - k).toNat = l := ⟨_, rfl⟩
  have hl1 : 2 ≤ l := by omega
  have hl2 : l ≤ 210 := by omega
  rw [hl] at hp
  rw [hg] at h1 h2 q1 q2 q3
  rw [show (1074 - 2 * k).toNat = 2 * l + 772 + 2 from by omega, Nat.pow_add, Nat.mul_comm (2 ^ (2 * l + 772)), ← Nat.mul_assoc] at hd
  have hg1 : 8388608 ≤ g := by omega
  have hg2 : g ≤ 16777216 := by omega
  rw [hrt, hp]
  have u0 := units_at (l := l) (by omega) hg1 hg2
  have w0 := wid_nat hF (show l * 8388608 + g < 2139095040 by omega)
  rw [u0] at w0
  refine ⟨l * 8388608 + g, rfl, by omega, by omega, ?_, ?_⟩
  · have wl := wid_nat hF (show l * 8388608 + g - 1 < 2139095040 by omega)
    by_cases hc : g = 8388608
    · have ul : single.units (l * 8388608 + g - 1) = 16777215 * 2 ^ (l - 1) := by
        rw [units_place (by omega), show (l * 8388608 + g - 1) % 8388608 = 8388607 from by omega, show (l * 8388608 + g - 1) / 8388608 = l from by omega]
      rw [ul] at wl
      obtain ⟨s, t, u, e1, e2, e3, e4⟩ := middle (M := 33554431) (l := l) hF wl w0 (by omega) (by omega) (by omega) (by omega) (by
        obtain ⟨j, rfl⟩ : ∃ j, l = j + 1 := ⟨l - 1, by omega⟩
        rw [Nat.add_sub_cancel, Nat.pow_succ, hc]
        omega)
      refine ⟨s, t, u, e1, e2, e3, order_gt_no e4 hd ?_⟩
      refine Nat.mul_le_mul_right _ ?_
      have := q3 (by omega)
      rw [hc] at this
      omega
    · have ul : single.units (l * 8388608 + g - 1) = (g - 1) * 2 ^ l := by
        rw [show l * 8388608 + g - 1 = l * 8388608 + (g - 1) from by omega]
        exact units_at (by omega) (by omega) (by omega)
      rw [ul] at wl
      obtain ⟨s, t, u, e1, e2, e3, e4⟩ := middle (M := 2 * (2 * g - 1)) (l := l) hF wl w0 (by omega) (by
        have := Nat.mul_le_mul (show 2 * (2 * g - 1) ≤ 67108864 by omega) (show 2 * (2 * g - 1) ≤ 67108864 by omega)
        omega) (by omega) (by omega) (by
        obtain ⟨j, rfl⟩ : ∃ j, l = j + 1 := ⟨l - 1, by omega⟩
        rw [Nat.add_sub_cancel, Nat.pow_succ, ← Nat.add_mul, Nat.mul_comm (2 ^ j), ← Nat.mul_assoc]
        congr 1
        omega)
      refine ⟨s, t, u, e1, e2, e3, order_gt_no e4 hd ?_⟩
      refine Nat.mul_le_mul_right _ ?_
      rw [show 2 * (2 * g - 1) * (2 * (2 * g - 1)) = 4 * ((2 * g - 1) * (2 * g - 1)) from by rw [Nat.mul_mul_mul_comm], Nat.mul_comm n]
      exact Nat.mul_le_mul_left 4 q1
  · have wl := wid_nat hF (show l * 8388608 + g + 1 < 2139095040 by omega)
    by_cases hc : g = 16777216
    · have ul : single.units (l * 8388608 + g + 1) = 8388609 * 2 ^ (l + 1) := by
        rw [show l * 8388608 + g + 1 = (l + 1) * 8388608 + 8388609 from by omega]
        exact units_at (by omega) (by omega) (by omega)
      rw [ul] at wl
      obtain ⟨s, t, u, e1, e2, e3, e4⟩ := middle (M := 67108868) (l := l) hF w0 wl (by omega) (by omega) (by omega) (by omega) (by
        obtain ⟨j, rfl⟩ : ∃ j, l = j + 1 := ⟨l - 1, by omega⟩
        rw [Nat.add_sub_cancel, Nat.pow_succ, Nat.pow_succ, Nat.pow_succ, hc]
        omega)
      refine ⟨s, t, u, e1, e2, e3, order_lt_no e4 hd ?_⟩
      refine Nat.mul_le_mul_right _ ?_
      omega
    · have ul : single.units (l * 8388608 + g + 1) = (g + 1) * 2 ^ l := by
        rw [show l * 8388608 + g + 1 = l * 8388608 + (g + 1) from by omega]
        exact units_at (by omega) (by omega) (by omega)
      rw [ul] at wl
      obtain ⟨s, t, u, e1, e2, e3, e4⟩ := middle (M := 2 * (2 * g + 1)) (l := l) hF w0 wl (by omega) (by
        have := Nat.mul_le_mul (show 2 * (2 * g + 1) ≤ 67108864 by omega) (show 2 * (2 * g + 1) ≤ 67108864 by omega)
        omega) (by omega) (by omega) (by
        obtain ⟨j, rfl⟩ : ∃ j, l = j + 1 := ⟨l - 1, by omega⟩
        rw [Nat.add_sub_cancel, Nat.pow_succ, ← Nat.add_mul, Nat.mul_comm (2 ^ j), ← Nat.mul_assoc]
        congr 1
        omega)
      refine ⟨s, t, u, e1, e2, e3, order_lt_no e4 hd ?_⟩
      refine Nat.mul_le_mul_right _ ?_
      rw [show 2 * (2 * g + 1) * (2 * (2 * g + 1)) = 4 * ((2 * g + 1) * (2 * g + 1)) from by rw [Nat.mul_mul_mul_comm], Nat.mul_comm n]
      exact Nat.mul_le_mul_left 4 q2
end Go.Flt
