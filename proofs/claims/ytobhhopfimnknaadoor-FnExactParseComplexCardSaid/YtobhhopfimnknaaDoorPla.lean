/- Places of singles by way of doubles, as the reference finds them. -/
import Derived.Test.YtobhhopfimnknaaDoorFlt
namespace Go.Flt
open Ieee

theorem word_false (f : Format) (R : Nat) : f.word false R = R := rfl
theorem sw_of {p : Nat} : sw (p : Int) = p := by
  unfold sw
  rw [decide_eq_false (by omega), Int.natAbs_natCast]
  rfl
theorem sw_neg {p : Nat} (h : 0 < p) : sw (-(p : Int)) = single.word true p := by
  unfold sw
  rw [decide_eq_true (by omega), Int.natAbs_neg, Int.natAbs_natCast]

theorem ofInt_nat {p E : Nat} (hE : E = 1074) (h : p < 2 ^ 53) : IsD (floatOfInt .f64 (p : Int)) false (p * 2 ^ E) := by
  have := ofInt_isD (n := (p : Int)) (by rw [Int.natAbs_natCast]; exact h) hE
  rw [Int.natAbs_natCast, show decide ((p : Int) < 0) = false from decide_eq_false (by omega)] at this
  have e : floatOfInt .f64 (p : Int) = double.write (.number false p 0) := by
    unfold floatOfInt FloatKind.nearest
    rw [Int.natAbs_natCast, show decide ((p : Int) < 0) = false from decide_eq_false (by omega)]
    rfl
  rw [e]
  exact this

theorem units_place {p : Nat} (h : 8388608 ≤ p) : single.units p = (p % 8388608 + 8388608) * 2 ^ (p / 8388608 - 1) := by
  unfold Format.units
  rw [show single.binade = 8388608 from rfl, if_neg (by omega), Nat.add_comm (p % 8388608)]
theorem units_place_small {p : Nat} (h : p < 16777216) : single.units p = p := single.units_small (by rw [show single.binade = 8388608 from rfl]; omega)

theorem float_small {p : Nat} (hp : p < 8388608) : ∃ y, floatBits .mul .f64 (floatOfInt .f64 (p : Int)) (pw (-149)) = some y ∧ floatToFloatBits .f64 y .f32 = some p := by
  obtain ⟨E, hE⟩ : ∃ E : Nat, E = 1074 := ⟨_, rfl⟩
  obtain ⟨F, hF⟩ : ∃ F : Nat, F = 925 := ⟨_, rfl⟩
  obtain ⟨R, hR, hu, hd⟩ := IsD.of_units (s := false) (m := p) (c := F) (by omega) (by omega)
  refine ⟨_, (ofInt_nat hE (by omega)).mul (pw_isD (k := -149) (by omega) (by omega)) (s := false) (t := false) hd (k := E) hE ?_, ?_⟩
  · rw [show ((-149 : Int) + 1074).toNat = F from by omega, Nat.mul_assoc, Nat.mul_assoc, ← Nat.pow_add, ← Nat.pow_add, Nat.add_comm]
  · have hd' := hd
    rw [← units_place_small (p := p) (by omega)] at hd'
    exact conv_narrow hF (R := p) (by rw [show single.infRung = 2139095040 from rfl]; omega) hd'

theorem float_big {p : Nat} (h1 : 8388608 ≤ p) (h2 : p < 2139095040) :
    ∃ y, floatBits .mul .f64 (floatOfInt .f64 ((p % 8388608 + 8388608 : Nat) : Int)) (pw (((p / 8388608 : Nat) : Int) - 127 - 23)) = some y ∧ floatToFloatBits .f64 y .f32 = some p := by
  obtain ⟨E, hE⟩ : ∃ E : Nat, E = 1074 := ⟨_, rfl⟩
  obtain ⟨F, hF⟩ : ∃ F : Nat, F = 925 := ⟨_, rfl⟩
  have hq1 : 1 ≤ p / 8388608 := by omega
  have hq2 : p / 8388608 ≤ 254 := by omega
  obtain ⟨R, hR, hu, hd⟩ := IsD.of_units (s := false) (m := p % 8388608 + 8388608) (c := p / 8388608 - 1 + F) (by omega) (by omega)
  refine ⟨_, (ofInt_nat hE (by omega)).mul (pw_isD (k := ((p / 8388608 : Nat) : Int) - 127 - 23) (by omega) (by omega)) (s := false) (t := false) hd (k := E) hE ?_, ?_⟩
  · rw [show (((p / 8388608 : Nat) : Int) - 127 - 23 + 1074).toNat = p / 8388608 - 1 + F from by omega, Nat.mul_assoc, Nat.mul_assoc, ← Nat.pow_add, ← Nat.pow_add, Nat.add_comm E]
  · have hd' := hd
    rw [Nat.pow_add, ← Nat.mul_assoc, ← units_place h1] at hd'
    exact conv_narrow hF (R := p) (by rw [show single.infRung = 2139095040 from rfl]; omega) hd'

/- The place of a number, found. -/
theorem plc_neg {x : Nat} (h : plc x < 0) : single.negb x = true ∧ plc x = -(single.rung x : Int) := by
  unfold plc at *
  cases hs : single.negb x
  · rw [hs] at h; simp at h; omega
  · simp
theorem plc_nonneg {x : Nat} (h : ¬ plc x < 0) : plc x = (single.rung x : Int) ∧ (single.negb x = true → single.rung x = 0) := by
  unfold plc at *
  cases hs : single.negb x
  · simp
  · rw [hs] at h; simp at h ⊢; omega

theorem sg_of {s : Bool} {R U : Nat} (h : s = true → R = 0) (hU : R = 0 → U = 0) : sg s U = (U : Int) := by
  unfold sg
  cases s
  · rfl
  · rw [hU (h rfl)]; simp

theorem wid_lt_zero {x : Nat} (h : single.fin x) : (double.order (wid x) 0 == some .lt) = decide (plc x < 0) := by
  obtain ⟨F, hF⟩ : ∃ F : Nat, F = 925 := ⟨_, rfl⟩
  rw [(wid_isD h hF).order zero_isD, beq_lt, decide_eq_decide]
  unfold sg plc
  have hp := Nat.two_pow_pos F
  have hu := single.units_eq_zero (R := single.rung x)
  cases single.negb x
  · constructor <;> intro h' <;> exact absurd h' (by simp only [Bool.false_eq_true, if_false]; exact Int.not_lt.2 (Int.natCast_nonneg _))
  · simp only [if_true]
    constructor
    · intro h'
      have : single.rung x ≠ 0 := fun e => by rw [hu.2 e] at h'; simp at h'
      omega
    · intro h'
      have h0 : single.units (single.rung x) ≠ 0 := fun e => by rw [hu.1 e] at h'; omega
      have : 0 < single.units (single.rung x) * 2 ^ F := Nat.mul_pos (Nat.pos_of_ne_zero h0) hp
      generalize single.units (single.rung x) * 2 ^ F = V at this
      show -(V : Int) < ((0 : Nat) : Int)
      omega

/-- The same of the absolute value. -/
theorem wid_abs {x : Nat} (h : single.fin x) : floatToFloatBits .f64 (wid x % 9223372036854775808) .f32 = some (single.rung x) := by
  obtain ⟨F, hF⟩ : ∃ F : Nat, F = 925 := ⟨_, rfl⟩
  exact conv_narrow hF (R := single.rung x) (s := false) h (abs_isD (wid_isD h hF))

theorem bits_small_test {x : Nat} (h : single.fin x) (h0 : ¬ plc x < 0) : (double.order (wid x) (pw (-126)) == some .lt) = decide (single.rung x < 8388608) := by
  obtain ⟨F, hF⟩ : ∃ F : Nat, F = 925 := ⟨_, rfl⟩
  obtain ⟨_, hz⟩ := plc_nonneg h0
  rw [(wid_isD h hF).order (pw_isD (k := -126) (by omega) (by omega)), beq_lt, decide_eq_decide, sg_of hz (fun e => by rw [single.units_eq_zero.2 e, Nat.zero_mul])]
  show ((_ : Nat) : Int) < ((2 ^ ((-126 : Int) + 1074).toNat : Nat) : Int) ↔ _
  rw [Int.ofNat_lt, show ((-126 : Int) + 1074).toNat = 23 + F from by omega, Nat.pow_add]
  have hp := Nat.two_pow_pos F
  generalize 2 ^ F = K at hp
  have hu : single.units 8388608 = 2 ^ 23 := units_place_small (by omega)
  constructor
  · intro h'
    have := Nat.lt_of_mul_lt_mul_right h'
    rw [← hu] at this
    exact single.units_lt_iff.1 this
  · intro h'
    have := single.units_lt h'
    rw [hu] at this
    exact Nat.mul_lt_mul_of_pos_right this hp

theorem bits_small {x : Nat} (h : single.fin x) (h0 : ¬ plc x < 0) (hR : single.rung x < 8388608) :
    ∃ y, floatBits .mul .f64 (wid x) (pw 149) = some y ∧ floatToIntVal .f64 y .i64 = some (plc x) := by
  obtain ⟨E, hE⟩ : ∃ E : Nat, E = 1074 := ⟨_, rfl⟩
  obtain ⟨F, hF⟩ : ∃ F : Nat, F = 925 := ⟨_, rfl⟩
  obtain ⟨hp, hz⟩ := plc_nonneg h0
  obtain ⟨R, hRR, hu, hd⟩ := IsD.of_units (s := single.negb x) (m := single.rung x) (c := E) (by omega) (by omega)
  have hw := wid_isD h hF
  rw [units_place_small (by omega)] at hw
  refine ⟨_, hw.mul (pw_isD (k := 149) (by omega) (by omega)) (t := false) (by rw [Bool.xor_false]; exact hd) (k := E) hE ?_, ?_⟩
  · rw [show ((149 : Int) + 1074).toNat = 149 + E from by omega, Nat.mul_assoc, ← Nat.pow_add, Nat.mul_assoc, ← Nat.pow_add]
    congr 2
    omega
  · unfold floatToIntVal
    show (match (double.read (double.word (single.negb x) R)).toInt .zero with | some n => if (-9223372036854775808 : Int) ≤ n ∧ n ≤ 9223372036854775807 then some n else none | none => none) = _
    rw [toInt_isD hE hd, sg_of hz (fun e => e), hp]
    simp only
    rw [if_pos (by omega)]

theorem wid_big {x F : Nat} (hF : F = 925) (h : single.fin x) (h0 : ¬ plc x < 0) (hR : 8388608 ≤ single.rung x) :
    IsD (wid x) false ((single.rung x % 8388608 + 8388608) * 2 ^ (single.rung x / 8388608 - 1 + F)) := by
  obtain ⟨_, hz⟩ := plc_nonneg h0
  have hw := wid_isD h hF
  rw [units_place hR] at hw
  have hs : single.negb x = false := by
    cases hs : single.negb x
    · rfl
    · have := hz hs; omega
  rw [hs, Nat.mul_assoc, ← Nat.pow_add] at hw
  exact hw

theorem bits_loop {x i : Nat} (h : single.fin x) (h0 : ¬ plc x < 0) (hR : 8388608 ≤ single.rung x) (hi : i ≤ 254) :
    (double.order (wid x) (pw (-126 + i + 1)) == some .gt || double.order (wid x) (pw (-126 + i + 1)) == some .eq) = decide (i + 1 < single.rung x / 8388608) := by
  obtain ⟨F, hF⟩ : ∃ F : Nat, F = 925 := ⟨_, rfl⟩
  have hfin : single.rung x < 2139095040 := h
  have hq : 1 ≤ single.rung x / 8388608 := by omega
  rw [(wid_big hF h h0 hR).order (pw_isD (k := -126 + i + 1) (by omega) (by omega)), beq_gt, beq_eq]
  have hm : single.rung x % 8388608 < 8388608 := Nat.mod_lt _ (by omega)
  generalize single.rung x % 8388608 = M at hm
  generalize single.rung x / 8388608 = q at hq
  rw [show ((-126 : Int) + i + 1 + 1074).toNat = i + 24 + F from by omega]
  unfold sg
  simp only [Bool.false_eq_true, if_false]
  rw [Bool.eq_iff_iff]
  simp only [Bool.or_eq_true, decide_eq_true_eq, Int.ofNat_lt, Int.ofNat_inj]
  have hp := Nat.two_pow_pos F
  have e1 : 2 ^ (i + 24 + F) = 2 ^ (i + 24) * 2 ^ F := Nat.pow_add ..
  have e2 : (M + 8388608) * 2 ^ (q - 1 + F) = (M + 8388608) * 2 ^ (q - 1) * 2 ^ F := by rw [Nat.pow_add, ← Nat.mul_assoc]
  rw [e1, e2]
  generalize 2 ^ F = K at hp
  have lo : 2 ^ (q - 1 + 23) ≤ (M + 8388608) * 2 ^ (q - 1) := by
    rw [Nat.pow_add, Nat.mul_comm]; exact Nat.mul_le_mul_right _ (by omega)
  have hi2 : (M + 8388608) * 2 ^ (q - 1) < 2 ^ (q - 1 + 24) := by
    rw [Nat.pow_add, Nat.mul_comm (2 ^ (q - 1))]; exact Nat.mul_lt_mul_of_pos_right (by omega) (Nat.two_pow_pos _)
  have key : 2 ^ (i + 24) ≤ (M + 8388608) * 2 ^ (q - 1) ↔ i + 1 < q := by
    constructor
    · intro h'
      have := (Nat.pow_lt_pow_iff_right (by omega : 1 < 2)).1 (Nat.lt_of_le_of_lt h' hi2)
      omega
    · intro h'
      exact Nat.le_trans (Nat.pow_le_pow_right (by omega) (by omega)) lo
  rw [← key]
  constructor
  · rintro (h' | h')
    · exact Nat.le_of_lt (Nat.lt_of_mul_lt_mul_right h')
    · exact Nat.le_of_eq (Nat.mul_right_cancel hp h').symm
  · intro h'
    rcases Nat.lt_or_eq_of_le h' with h'' | h''
    · exact .inl (Nat.mul_lt_mul_of_pos_right h'' hp)
    · exact .inr (by rw [h''])

theorem bits_big {x : Nat} (h : single.fin x) (h0 : ¬ plc x < 0) (hR : 8388608 ≤ single.rung x) :
    ∃ y, floatBits .quo .f64 (wid x) (pw (-126 + ((single.rung x / 8388608 - 1 : Nat) : Int) - 23)) = some y ∧ floatToIntVal .f64 y .i64 = some ((single.rung x % 8388608 + 8388608 : Nat) : Int) := by
  obtain ⟨E, hE⟩ : ∃ E : Nat, E = 1074 := ⟨_, rfl⟩
  obtain ⟨F, hF⟩ : ∃ F : Nat, F = 925 := ⟨_, rfl⟩
  have hfin : single.rung x < 2139095040 := h
  have hq : 1 ≤ single.rung x / 8388608 := by omega
  have hq2 : single.rung x / 8388608 ≤ 254 := by omega
  have hw := wid_big hF h h0 hR
  have hm : single.rung x % 8388608 < 8388608 := Nat.mod_lt _ (by omega)
  generalize single.rung x % 8388608 = M at hm hw
  generalize single.rung x / 8388608 = q at hq hw hq2
  obtain ⟨R, hRR, hu, hd⟩ := IsD.of_units (s := false) (m := M + 8388608) (c := E) (by omega) (by omega)
  refine ⟨_, div_pw_exact hw (by omega) (by omega) hd ?_, ?_⟩
  · rw [Nat.mul_assoc, Nat.mul_assoc, ← Nat.pow_add, ← Nat.pow_add]
    congr 2
    omega
  · unfold floatToIntVal
    show (match (double.read (double.word false R)).toInt .zero with | some n => if (-9223372036854775808 : Int) ≤ n ∧ n ≤ 9223372036854775807 then some n else none | none => none) = _
    rw [toInt_isD hE hd]
    unfold sg
    simp only [Bool.false_eq_true, if_false]
    rw [if_pos (by omega)]
end Go.Flt
