/- Roots of singles by way of doubles, and by whole squares. -/
import Derived.Test.YtbojaddojhemeaaPla
namespace Go.Flt
open Ieee

/-- The root of a single, found in double and narrowed. -/
def rt (x : Nat) : Nat := match double.sqrt (wid x) with | some z => single.write (double.read z) | none => 0

/-- 'n * 4 ^ -k' is the number x, n a whole even number of 49 or 50 binary digits, and r is the whole root of n. -/
structure Rooted (x n r : Nat) (k : Int) : Prop where
  lo : 2 ^ 48 ≤ n
  hi : n < 2 ^ 50
  even : n % 2 = 0
  below : r * r ≤ n
  above : n < (r + 1) * (r + 1)
  kLo : -60 ≤ k
  kHi : k ≤ 148
  is : IsD (wid x) false (n * 2 ^ (1074 - 2 * k).toNat)

theorem Rooted.sizes {x n r : Nat} {k : Int} (h : Rooted x n r k) : 2 ^ 24 ≤ evenRoot n r ∧ evenRoot n r ≤ 2 ^ 25 ∧ evenRoot n r % 2 = 0 := by
  have hr1 : 2 ^ 24 ≤ r := by
    have : 2 ^ 24 < r + 1 := sq_lt (Nat.lt_of_le_of_lt (Nat.le_trans (by decide) h.lo) h.above)
    omega
  have hr2 : r < 2 ^ 25 := sq_lt (Nat.lt_of_le_of_lt h.below (Nat.lt_of_lt_of_le h.hi (by decide)))
  unfold evenRoot
  split
  · omega
  · omega

/-- The place of the root. -/
def rtPlace (n r : Nat) (k : Int) : Nat := (150 - k).toNat * 8388608 + evenRoot n r / 2

theorem Rooted.place {x n r : Nat} {k : Int} (h : Rooted x n r k) : 0 < rtPlace n r k ∧ rtPlace n r k < 2139095040 := by
  obtain ⟨h1, h2, _⟩ := h.sizes
  have := h.kLo
  have := h.kHi
  unfold rtPlace
  omega

theorem Rooted.root {x n r : Nat} {k : Int} (h : Rooted x n r k) :
    ∃ z, double.sqrt (wid x) = some z ∧ floatToFloatBits .f64 z .f32 = some (rt x) ∧ rt x = rtPlace n r k := by
  obtain ⟨z, hz, hl, hf, hw, _, hi⟩ := sqrt_narrow (Int.le_trans (by omega) h.kLo) (Int.le_trans h.kHi (by omega)) h.is h.lo h.hi h.even h.below h.above h.kHi h.kLo
  have e : rt x = single.write (double.read z) := by unfold rt; rw [hz]
  have hp : rt x = rtPlace n r k := by rw [e, hw]; rfl
  refine ⟨z, hz, ?_, hp⟩
  obtain ⟨m, i, hr, _, _⟩ := double.read_fin hf
  have hinf : (single.read (rt x)).isInfinity = false := by
    obtain ⟨m', i', hr', _⟩ := single.read_fin (x := rt x) (by rw [hp]; show rtPlace n r k % 2147483648 < 2139095040; have := h.place; omega)
    rw [hr']; rfl
  unfold floatToFloatBits
  rw [if_neg (by decide)]
  show (match double.read z with | .nan _ _ => none | .infinity s => some (single.write (.infinity s)) | .number s m e => if (single.read (single.write (.number s m e))).isInfinity then none else some (single.write (.number s m e))) = _
  rw [hr] at e ⊢
  simp only [← e, hinf]
  rfl

theorem root_exists (n : Nat) (h : n < 2 ^ 50) : ∃ r, r * r ≤ n ∧ n < (r + 1) * (r + 1) :=
  ⟨_, rootFrom_spec n 25 0 (by omega) (Nat.lt_of_lt_of_le h (by decide))⟩

/-- Every positive single is rooted. -/
theorem rooted {x : Nat} (hx : single.fin x) (h0 : 0 < plc x) : ∃ n r k, Rooted x n r k := by
  obtain ⟨F, hF⟩ : ∃ F : Nat, F = 925 := ⟨_, rfl⟩
  have hn : ¬ plc x < 0 := by omega
  obtain ⟨hp, hz⟩ := plc_nonneg hn
  have hs : single.negb x = false := by
    cases hs : single.negb x
    · rfl
    · have := hz hs; omega
  have hw := wid_isD hx hF
  rw [hs] at hw
  obtain ⟨M, c, hM, hu, hc, _⟩ := single.units_short (single.rung x)
  have hb : single.binade = 8388608 := rfl
  have hfin : single.rung x < 2139095040 := hx
  rw [hb] at hM hc
  have hc2 : c ≤ 255 := by omega
  have hM0 : M ≠ 0 := by
    intro h
    rw [h, Nat.zero_mul] at hu
    have := single.units_eq_zero.1 hu
    omega
  rw [hu, Nat.mul_assoc, ← Nat.pow_add] at hw
  have hl := (Nat.log2_lt hM0).2 (show M < 2 ^ 24 by omega)
  -- the place of the whole number
  obtain ⟨e, k, he1, he2, hek⟩ : ∃ (e : Nat) (k : Int), 48 ≤ M.log2 + e ∧ M.log2 + e ≤ 49 ∧ (c : Int) + F + 2 * k = 1074 + e := by
    by_cases hpar : ((c : Int) + F - (48 - M.log2)) % 2 = 0
    · exact ⟨48 - M.log2, (1074 + (48 - (M.log2 : Int)) - c - F) / 2, by omega, by omega, by omega⟩
    · exact ⟨49 - M.log2, (1074 + (49 - (M.log2 : Int)) - c - F) / 2, by omega, by omega, by omega⟩
  have hlog := Format.log2_scaled (c := e) (Nat.log2_self_le hM0) (Nat.lt_log2_self (n := M))
  have hn0 : M * 2 ^ e ≠ 0 := Nat.mul_ne_zero hM0 (Nat.pos_iff_ne_zero.1 (Nat.two_pow_pos e))
  have hlo : 2 ^ 48 ≤ M * 2 ^ e := (Nat.le_log2 hn0).1 (by omega)
  have hhi : M * 2 ^ e < 2 ^ 50 := (Nat.log2_lt hn0).1 (by omega)
  obtain ⟨r, hr1, hr2⟩ := root_exists _ hhi
  refine ⟨M * 2 ^ e, r, k, ⟨hlo, hhi, ?_, hr1, hr2, by omega, by omega, ?_⟩⟩
  · obtain ⟨e', he'⟩ : ∃ e', e = e' + 1 := ⟨e - 1, by omega⟩
    rw [he', Nat.pow_succ, ← Nat.mul_assoc, Nat.mul_mod_left]
  · rw [Nat.mul_assoc, ← Nat.pow_add, show e + (1074 - 2 * k).toNat = c + F from by omega]
    exact hw

/-- The root of a zero. -/
theorem root_zero {x : Nat} (hx : single.fin x) (h0 : single.rung x = 0) :
    ∃ z, double.sqrt (wid x) = some z ∧ floatToFloatBits .f64 z .f32 = some (single.word (single.negb x) 0) := by
  obtain ⟨F, hF⟩ : ∃ F : Nat, F = 925 := ⟨_, rfl⟩
  have hw := wid_isD hx hF
  rw [h0, single.units_zero, Nat.zero_mul] at hw
  obtain ⟨m, e, hr, _, hu⟩ := double.read_fin hw.fin
  rw [hw.neg] at hr
  rw [hw.units] at hu
  have hm : m = 0 := by
    rcases Nat.mul_eq_zero.1 hu with h' | h'
    · exact h'
    · have := Nat.two_pow_pos (e - double.leastPlace).toNat; omega
  subst hm
  refine ⟨double.word (single.negb x) 0, ?_, ?_⟩
  · unfold Format.sqrt
    rw [hr]
    simp only [Datum.root, if_true, Option.map_some]
    rfl
  · have hd : IsD (double.word (single.negb x) 0) (single.negb x) (single.units 0 * 2 ^ F) := by
      have := IsD.word (s := single.negb x) (R := 0) (by decide)
      rw [double.units_zero] at this
      rw [single.units_zero, Nat.zero_mul]
      exact this
    exact conv_narrow hF (R := 0) (by decide) hd

/- The reference's steps towards the whole number. -/
theorem four_up {y M e : Nat} (h : IsD y false (M * 2 ^ e)) (hM : M < 16777216) (he : e ≤ 2000) :
    ∃ y', floatBits .mul .f64 y 4616189618054758400 = some y' ∧ IsD y' false (M * 2 ^ (e + 2)) := by
  obtain ⟨E, hE⟩ : ∃ E : Nat, E = 1074 := ⟨_, rfl⟩
  obtain ⟨R, hR, hu, hd⟩ := IsD.of_units (s := false) (m := M) (c := e + 2) (by omega) (by omega)
  refine ⟨_, h.mul (pw_isD (k := 2) (by omega) (by omega)) (s := false) (t := false) hd (k := E) hE ?_, hd⟩
  rw [Nat.mul_assoc, Nat.mul_assoc, ← Nat.pow_add, ← Nat.pow_add]
  congr 2
  omega
theorem four_down {y M e : Nat} (h : IsD y false (M * 2 ^ (e + 2))) (hM : M < 16777216) (he : e ≤ 2000) :
    ∃ y', floatBits .quo .f64 y 4616189618054758400 = some y' ∧ IsD y' false (M * 2 ^ e) := by
  obtain ⟨R, hR, hu, hd⟩ := IsD.of_units (s := false) (m := M) (c := e) (by omega) (by omega)
  refine ⟨_, div_pw_exact (k := 2) h (by omega) (by omega) hd ?_, hd⟩
  rw [Nat.pow_add, ← Nat.mul_assoc, show (-2 : Int).toNat = 0 from rfl, Nat.pow_zero, Nat.mul_one]
  rfl
theorem below_pw {y U : Nat} {k : Int} (h : IsD y false U) (h1 : -1022 ≤ k) (h2 : k ≤ 1023) : (double.order y (pw k) == some .lt) = decide (U < 2 ^ (k + 1074).toNat) := by
  rw [h.order (pw_isD h1 h2), beq_lt, decide_eq_decide]
  exact Int.ofNat_lt
theorem from_pw {y U : Nat} {k : Int} (h : IsD y false U) (h1 : -1022 ≤ k) (h2 : k ≤ 1023) : (double.order y (pw k) == some .gt || double.order y (pw k) == some .eq) = decide (2 ^ (k + 1074).toNat ≤ U) := by
  rw [h.order (pw_isD h1 h2), beq_gt, beq_eq, Bool.eq_iff_iff]
  simp only [Bool.or_eq_true, decide_eq_true_eq]
  unfold sg
  simp only [Bool.false_eq_true, if_false, Int.ofNat_lt, Int.ofNat_inj]
  omega

theorem whole_int {y n E : Nat} (hE : E = 1074) (h : IsD y false (n * 2 ^ E)) (hn : n < 2 ^ 53) : floatToIntVal .f64 y .i64 = some (n : Int) := by
  unfold floatToIntVal
  show (match (double.read y).toInt .zero with | some n => if (-9223372036854775808 : Int) ≤ n ∧ n ≤ 9223372036854775807 then some n else none | none => none) = _
  rw [toInt_isD hE h]
  unfold sg
  simp only [Bool.false_eq_true, if_false]
  rw [if_pos (by omega)]

/-- The reference's last step: an even number times a power of two. -/
theorem root_back {x n r : Nat} {k : Int} (h : Rooted x n r k) :
    ∃ y, floatBits .mul .f64 (floatOfInt .f64 (evenRoot n r : Int)) (pw (-k)) = some y ∧ floatToFloatBits .f64 y .f32 = some (rtPlace n r k) := by
  obtain ⟨E, hE⟩ : ∃ E : Nat, E = 1074 := ⟨_, rfl⟩
  obtain ⟨F, hF⟩ : ∃ F : Nat, F = 925 := ⟨_, rfl⟩
  obtain ⟨h1, h2, h3⟩ := h.sizes
  have hk1 := h.kLo
  have hk2 := h.kHi
  have hpl := h.place
  obtain ⟨g, hg⟩ : ∃ g, evenRoot n r = 2 * g := ⟨evenRoot n r / 2, by omega⟩
  have hp : rtPlace n r k = (150 - k).toNat * 8388608 + g := by unfold rtPlace; rw [hg]; omega
  rw [hg] at h1 h2 ⊢
  rw [hp] at hpl ⊢
  -- the value of that place
  have hu : single.units ((150 - k).toNat * 8388608 + g) = g * 2 ^ (150 - k).toNat := by
    have hl : 1 ≤ (150 - k).toNat := by omega
    generalize (150 - k).toNat = l at hl
    rw [units_place (by omega)]
    rcases Nat.lt_or_ge g 16777216 with hlt | hge
    · have e1 : (l * 8388608 + g) % 8388608 = g - 8388608 := by omega
      have e2 : (l * 8388608 + g) / 8388608 = l + 1 := by omega
      rw [e1, e2, show g - 8388608 + 8388608 = g from by omega, Nat.add_sub_cancel]
    · have e0 : g = 16777216 := by omega
      have e1 : (l * 8388608 + g) % 8388608 = 0 := by omega
      have e2 : (l * 8388608 + g) / 8388608 = l + 2 := by omega
      rw [e1, e2, e0, show l + 2 - 1 = l + 1 from rfl, Nat.pow_succ 2 l]
      omega
  obtain ⟨R, hR, hRu, hd⟩ := IsD.of_units (s := false) (m := g) (c := (150 - k).toNat + F) (by omega) (by omega)
  refine ⟨_, (ofInt_nat hE (p := 2 * g) (by omega)).mul (pw_isD (k := -k) (by omega) (by omega)) (s := false) (t := false) hd (k := E) hE ?_, ?_⟩
  · have e1 : 2 * g * 2 ^ E * 2 ^ (-k + 1074).toNat = g * 2 ^ (1 + (E + (-k + 1074).toNat)) := by
      rw [Nat.pow_add, Nat.pow_add, Nat.pow_one, Nat.mul_comm 2 g, Nat.mul_assoc, Nat.mul_assoc]
    rw [e1, Nat.mul_assoc, ← Nat.pow_add]
    congr 2
    omega
  · have hd' := hd
    rw [Nat.pow_add, ← Nat.mul_assoc, ← hu] at hd'
    exact conv_narrow hF (R := (150 - k).toNat * 8388608 + g) (by rw [show single.infRung = 2139095040 from rfl]; omega) hd'
end Go.Flt
