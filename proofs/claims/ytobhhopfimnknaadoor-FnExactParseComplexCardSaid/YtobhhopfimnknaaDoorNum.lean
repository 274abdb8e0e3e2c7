/- Plain laws on the words of Ieee formats: values, exact results, order, rounding of exact numbers. No program in sight. -/
import Ieee.Arith
import Derived.Laws.FloatBits
namespace Ieee
namespace Format

theorem binade_pos (f : Format) : 0 < f.binade := Nat.two_pow_pos _

/-- The magnitude of a finite rung, in units of the format's least place. -/
def units (f : Format) (R : Nat) : Nat := if R < f.binade then R else (f.binade + R % f.binade) * 2 ^ (R / f.binade - 1)

/-- The rung of a word. -/
def rung (f : Format) (x : Nat) : Nat := x % f.signWeight
/-- The sign of a word. -/
def negb (f : Format) (x : Nat) : Bool := x / f.signWeight % 2 == 1
/-- A word of a number (no infinity, no NaN). -/
def fin (f : Format) (x : Nat) : Prop := f.rung x < f.infRung
/-- The value of a word, a whole number of units. -/
def sval (f : Format) (x : Nat) : Int := if f.negb x then -(f.units (f.rung x) : Int) else (f.units (f.rung x) : Int)

theorem signWeight_pos (f : Format) : 0 < f.signWeight := Nat.two_pow_pos _

theorem rung_word (f : Format) (s : Bool) {R : Nat} (h : R < f.signWeight) : f.rung (f.word s R) = R := by
  unfold rung word
  cases s <;> simp [Nat.mod_eq_of_lt h]
theorem negb_word (f : Format) (s : Bool) {R : Nat} (h : R < f.signWeight) : f.negb (f.word s R) = s := by
  unfold negb word
  cases s
  · simp [Nat.div_eq_of_lt h]
  · simp [Nat.add_div_left _ f.signWeight_pos, Nat.div_eq_of_lt h]
theorem fin_word (f : Format) (s : Bool) {R : Nat} (h : R < f.infRung) : f.fin (f.word s R) := by
  unfold fin; rw [rung_word f s (Nat.lt_trans h f.infRung_lt)]; exact h

theorem word_of (f : Format) {x : Nat} (h : x < 2 ^ f.width) : f.word (f.negb x) (f.rung x) = x := by
  have two : 2 ^ f.width = 2 * f.signWeight := by
    unfold width signWeight
    rw [Nat.add_assoc, Nat.add_comm 1, Nat.pow_succ, Nat.mul_comm]
  rw [two] at h
  unfold word negb rung
  have hq : x / f.signWeight < 2 := Nat.div_lt_of_lt_mul (by rw [Nat.mul_comm]; exact h)
  have e := Nat.div_add_mod x f.signWeight
  generalize x / f.signWeight = q at hq e
  have : q = 0 ∨ q = 1 := by omega
  rcases this with h0 | h1
  · subst h0; simp at e ⊢; exact e
  · subst h1; simp at e ⊢; exact e

theorem units_succ (f : Format) (R : Nat) : f.units R < f.units (R + 1) := by
  have hb := f.binade_pos
  unfold units
  generalize f.binade = b at hb
  by_cases h1 : R + 1 < b
  · rw [if_pos (by omega), if_pos h1]; omega
  · rw [if_neg h1]
    by_cases h2 : R < b
    · have : R + 1 = b := by omega
      rw [if_pos h2, this, Nat.mod_self, Nat.div_self hb]; simp; omega
    · rw [if_neg h2]
      have hq : 1 ≤ R / b := (Nat.one_le_div_iff hb).2 (by omega)
      have e := Nat.div_add_mod R b
      have hm := Nat.mod_lt R hb
      by_cases h3 : R % b + 1 < b
      · have e1 : R + 1 = b * (R / b) + (R % b + 1) := by omega
        have hd : (R + 1) / b = R / b := by
          rw [e1, Nat.mul_add_div hb, Nat.div_eq_of_lt h3]; omega
        have hmod : (R + 1) % b = R % b + 1 := by
          rw [e1, Nat.mul_add_mod, Nat.mod_eq_of_lt h3]
        rw [hd, hmod]
        exact Nat.mul_lt_mul_of_pos_right (by omega) (Nat.two_pow_pos _)
      · have e1 : R + 1 = b * (R / b + 1) := by rw [Nat.mul_add, Nat.mul_one]; omega
        have hd : (R + 1) / b = R / b + 1 := by rw [e1, Nat.mul_div_cancel_left _ hb]
        have hmod : (R + 1) % b = 0 := by rw [e1, Nat.mul_mod_right]
        rw [hd, hmod]
        have h4 : R / b + 1 - 1 = (R / b - 1) + 1 := by omega
        rw [h4, Nat.pow_succ]
        have hp := Nat.two_pow_pos (R / b - 1)
        generalize 2 ^ (R / b - 1) = p at hp
        have : (b + R % b) * p < (2 * b) * p := Nat.mul_lt_mul_of_pos_right (by omega) hp
        calc (b + R % b) * p < (2 * b) * p := this
          _ = (b + 0) * (p * 2) := by rw [Nat.add_zero, Nat.mul_comm p 2, ← Nat.mul_assoc, Nat.mul_comm b 2]

theorem units_lt (f : Format) {R S : Nat} (h : R < S) : f.units R < f.units S := by
  induction S with
  | zero => omega
  | succ n ih =>
    rcases Nat.lt_succ_iff_lt_or_eq.1 h with h1 | h1
    · exact Nat.lt_trans (ih h1) (f.units_succ n)
    · rw [h1]; exact f.units_succ n
theorem units_le (f : Format) {R S : Nat} (h : R ≤ S) : f.units R ≤ f.units S := by
  rcases Nat.lt_or_eq_of_le h with h | h
  · exact Nat.le_of_lt (f.units_lt h)
  · rw [h]; exact Nat.le_refl _
theorem units_lt_iff (f : Format) {R S : Nat} : f.units R < f.units S ↔ R < S :=
  ⟨fun h => Nat.lt_of_not_le fun h' => Nat.not_lt_of_le (f.units_le h') h, f.units_lt⟩
theorem units_inj (f : Format) {R S : Nat} (h : f.units R = f.units S) : R = S := by
  rcases Nat.lt_trichotomy R S with h1 | h1 | h1
  · have := f.units_lt h1; omega
  · exact h1
  · have := f.units_lt h1; omega
theorem units_zero (f : Format) : f.units 0 = 0 := by unfold units; rw [if_pos f.binade_pos]
theorem units_eq_zero (f : Format) {R : Nat} : f.units R = 0 ↔ R = 0 :=
  ⟨fun h => f.units_inj (by rw [h, f.units_zero]), fun h => by rw [h, f.units_zero]⟩

/-- A finite word reads as a number of that sign and value. -/
theorem read_fin (f : Format) {x : Nat} (h : f.fin x) :
    ∃ m e, f.read x = .number (f.negb x) m e ∧ f.leastPlace ≤ e ∧ m * 2 ^ (e - f.leastPlace).toNat = f.units (f.rung x) := by
  unfold fin at h
  unfold read
  simp only
  show ∃ m e, (if f.rung x < f.binade then Datum.number (f.negb x) (f.rung x) f.leastPlace
    else if f.rung x < f.infRung then Datum.number (f.negb x) (f.binade + f.rung x % f.binade) (f.leastPlace + ((f.rung x / f.binade - 1 : Nat) : Int))
    else if f.rung x = f.infRung then Datum.infinity (f.negb x) else Datum.nan (f.negb x) (f.rung x - f.infRung)) = _ ∧ _ ∧ _
  by_cases h1 : f.rung x < f.binade
  · refine ⟨f.rung x, f.leastPlace, by rw [if_pos h1], Int.le_refl _, ?_⟩
    unfold units; rw [if_pos h1]; simp
  · refine ⟨f.binade + f.rung x % f.binade, f.leastPlace + ((f.rung x / f.binade - 1 : Nat) : Int), by rw [if_neg h1, if_pos h], by omega, ?_⟩
    unfold units; rw [if_neg h1]
    congr 2
    omega

/-- Cutting a multiple of the gap is exact. -/
theorem cut_exact (neg : Bool) (n d M : Nat) (h : n = M * 2 ^ d) : Toward.even.cut neg n d = M := by
  unfold Toward.cut
  simp only [Nat.shiftLeft_eq, Nat.one_mul]
  by_cases h0 : M = 0
  · subst h0
    simp at h
    subst h
    simp
  · have hn : n ≠ 0 := by
      rw [h]; exact Nat.mul_ne_zero h0 (Nat.pos_iff_ne_zero.1 (Nat.two_pow_pos d))
    have hd : d ≤ n.log2 := by
      refine (Nat.le_log2 hn).2 ?_
      rw [h]; exact Nat.le_mul_of_pos_left _ (Nat.pos_of_ne_zero h0)
    rw [Nat.min_eq_left (by omega), h, Nat.mul_div_cancel _ (Nat.two_pow_pos d), Nat.mul_mod_left]
    simp

theorem log2_scaled {M fb c : Nat} (h1 : 2 ^ fb ≤ M) (h2 : M < 2 ^ (fb + 1)) : (M * 2 ^ c).log2 = fb + c := by
  have hM : M ≠ 0 := by have := Nat.two_pow_pos fb; omega
  have hn : M * 2 ^ c ≠ 0 := Nat.mul_ne_zero hM (Nat.pos_iff_ne_zero.1 (Nat.two_pow_pos c))
  have hlo : fb + c ≤ (M * 2 ^ c).log2 := (Nat.le_log2 hn).2 (by rw [Nat.pow_add]; exact Nat.mul_le_mul_right _ h1)
  have hhi : (M * 2 ^ c).log2 < fb + c + 1 := (Nat.log2_lt hn).2 (by
    rw [show fb + c + 1 = (fb + 1) + c from by omega, Nat.pow_add]; exact Nat.mul_lt_mul_of_pos_right h2 (Nat.two_pow_pos c))
  omega

/-- A number that the format has is written as it is. -/
theorem nearest_exact (f : Format) (neg : Bool) (m : Nat) (p : Int) (R : Nat) (hR : R ≤ f.infRung)
    (h : m * 2 ^ (p - f.leastPlace).toNat = f.units R * 2 ^ (f.leastPlace - p).toNat) : f.nearest neg m p = f.word neg R := by
  unfold nearest
  by_cases hm : m = 0
  · rw [if_pos hm]
    subst hm
    have : f.units R = 0 := by
      rw [Nat.zero_mul] at h
      rcases Nat.mul_eq_zero.1 h.symm with h | h
      · exact h
      · have hp := Nat.two_pow_pos (f.leastPlace - p).toNat
        omega
    rw [f.units_eq_zero.1 this]
  · rw [if_neg hm]
    -- the kept significand and its place
    have key : ∃ l M : Nat, max (p + (m.log2 : Int) - f.fractionBits) f.leastPlace = f.leastPlace + l ∧ f.units R = M * 2 ^ l ∧ l * f.binade + M = R := by
      by_cases hb : R < f.binade
      · refine ⟨0, R, ?_, by unfold units; rw [if_pos hb]; simp, by simp⟩
        have hu : f.units R = R := by unfold units; rw [if_pos hb]
        rw [hu] at h
        have hlog : (m.log2 : Int) + (p - f.leastPlace) < f.fractionBits := by
          have hmle : 2 ^ m.log2 ≤ m := Nat.log2_self_le hm
          by_cases hp : f.leastPlace ≤ p
          · have e : (f.leastPlace - p).toNat = 0 := by omega
            rw [e, Nat.pow_zero, Nat.mul_one] at h
            have h3 : 2 ^ (m.log2 + (p - f.leastPlace).toNat) ≤ R := by rw [Nat.pow_add, ← h]; exact Nat.mul_le_mul_right _ hmle
            have h4 : 2 ^ (m.log2 + (p - f.leastPlace).toNat) < 2 ^ f.fractionBits := Nat.lt_of_le_of_lt h3 hb
            have h5 := (Nat.pow_lt_pow_iff_right (by omega : 1 < 2)).1 h4
            omega
          · have e : (p - f.leastPlace).toNat = 0 := by omega
            rw [e, Nat.pow_zero, Nat.mul_one] at h
            have h4 : 2 ^ m.log2 < 2 ^ (f.fractionBits + (f.leastPlace - p).toNat) := by
              rw [Nat.pow_add]
              refine Nat.lt_of_le_of_lt hmle ?_
              rw [h]; exact Nat.mul_lt_mul_of_pos_right hb (Nat.two_pow_pos _)
            have h5 := (Nat.pow_lt_pow_iff_right (by omega : 1 < 2)).1 h4
            omega
        omega
      · have hbp := f.binade_pos
        have hq : 1 ≤ R / f.binade := (Nat.one_le_div_iff hbp).2 (by omega)
        have hu : f.units R = (f.binade + R % f.binade) * 2 ^ (R / f.binade - 1) := by unfold units; rw [if_neg hb]
        have hmod := Nat.mod_lt R hbp
        have e := Nat.div_add_mod R f.binade
        refine ⟨R / f.binade - 1, f.binade + R % f.binade, ?_, hu, ?_⟩
        · rw [hu] at h
          have hl1 : 2 ^ f.fractionBits ≤ f.binade + R % f.binade := by unfold binade; omega
          have hl2 : f.binade + R % f.binade < 2 ^ (f.fractionBits + 1) := by
            rw [Nat.pow_succ]; unfold binade at hmod ⊢; omega
          have hlog : (m.log2 : Int) + (p - f.leastPlace) = f.fractionBits + ((R / f.binade - 1 : Nat) : Int) := by
            have hm1 : 2 ^ m.log2 ≤ m := Nat.log2_self_le hm
            have hm2 : m < 2 ^ (m.log2 + 1) := Nat.lt_log2_self
            have a1 : (m * 2 ^ (p - f.leastPlace).toNat).log2 = m.log2 + (p - f.leastPlace).toNat := log2_scaled hm1 hm2
            have a2 : ((f.binade + R % f.binade) * 2 ^ ((R / f.binade - 1) + (f.leastPlace - p).toNat)).log2 = f.fractionBits + ((R / f.binade - 1) + (f.leastPlace - p).toNat) := log2_scaled hl1 hl2
            rw [Nat.pow_add, ← Nat.mul_assoc, ← h, a1] at a2
            omega
          omega
        · have : (R / f.binade - 1) * f.binade + f.binade = R / f.binade * f.binade := by
            rw [← Nat.succ_mul]; congr 1; omega
          have c : R / f.binade * f.binade = f.binade * (R / f.binade) := Nat.mul_comm _ _
          omega
    obtain ⟨l, M, hlast, hu, hsum⟩ := key
    simp only
    rw [hlast, show (f.leastPlace + (l : Int) - f.leastPlace).toNat = l from by omega]
    have hcut : Toward.even.cut neg (m <<< (p - (f.leastPlace + (l : Int))).toNat) (f.leastPlace + (l : Int) - p).toNat = M := by
      refine cut_exact neg _ _ M ?_
      rw [Nat.shiftLeft_eq]
      rw [hu] at h
      -- m * 2^(p - lp)⁺ = M * 2^l * 2^(lp - p)⁺
      by_cases hp : f.leastPlace ≤ p
      · have e0 : (f.leastPlace - p).toNat = 0 := by omega
        rw [e0, Nat.pow_zero, Nat.mul_one] at h
        by_cases hp2 : f.leastPlace + (l : Int) ≤ p
        · have e1 : (f.leastPlace + (l : Int) - p).toNat = 0 := by omega
          have e2 : (p - f.leastPlace).toNat = (p - (f.leastPlace + (l : Int))).toNat + l := by omega
          rw [e2, Nat.pow_add, ← Nat.mul_assoc] at h
          rw [e1, Nat.pow_zero, Nat.mul_one]
          exact Nat.mul_right_cancel (Nat.two_pow_pos l) h
        · have e1 : (p - (f.leastPlace + (l : Int))).toNat = 0 := by omega
          have e2 : l = (f.leastPlace + (l : Int) - p).toNat + (p - f.leastPlace).toNat := by omega
          rw [e1, Nat.pow_zero, Nat.mul_one]
          have e3 : 2 ^ l = 2 ^ (f.leastPlace + (l : Int) - p).toNat * 2 ^ (p - f.leastPlace).toNat := by rw [← Nat.pow_add, ← e2]
          rw [e3, ← Nat.mul_assoc] at h
          exact Nat.mul_right_cancel (Nat.two_pow_pos _) h
      · have e0 : (p - f.leastPlace).toNat = 0 := by omega
        have e1 : (p - (f.leastPlace + (l : Int))).toNat = 0 := by omega
        have e2 : (f.leastPlace + (l : Int) - p).toNat = l + (f.leastPlace - p).toNat := by omega
        rw [e0, Nat.pow_zero, Nat.mul_one] at h
        rw [e1, Nat.pow_zero, Nat.mul_one, e2, Nat.pow_add, ← Nat.mul_assoc]
        exact h
    rw [hcut, hsum, Nat.min_eq_left hR]

theorem cut_scale (neg : Bool) (n d k : Nat) (hn : n ≠ 0) : Toward.even.cut neg (n * 2 ^ k) (d + k) = Toward.even.cut neg n d := by
  have hl : (n * 2 ^ k).log2 = n.log2 + k := log2_scaled (Nat.log2_self_le hn) Nat.lt_log2_self
  unfold Toward.cut
  simp only [Nat.shiftLeft_eq, Nat.one_mul]
  rw [hl, show min (d + k) (n.log2 + k + 2) = min d (n.log2 + 2) + k from by omega, Nat.pow_add]
  generalize 2 ^ min d (n.log2 + 2) = g
  have hk := Nat.two_pow_pos k
  generalize 2 ^ k = K at hk
  rw [Nat.mul_div_mul_right _ _ hk, Nat.mul_mod_mul_right]
  have e1 : (g * K < 2 * (n % g * K)) ↔ (g < 2 * (n % g)) := by
    rw [← Nat.mul_assoc]; exact ⟨fun h => Nat.lt_of_mul_lt_mul_right h, fun h => Nat.mul_lt_mul_of_pos_right h hk⟩
  have e2 : (g * K == 2 * (n % g * K)) = (g == 2 * (n % g)) := by
    rw [Bool.eq_iff_iff, beq_iff_eq, beq_iff_eq, ← Nat.mul_assoc]
    exact ⟨fun h => Nat.mul_right_cancel hk h, fun h => congrArg (· * K) h⟩
  simp only [e2, decide_eq_decide.2 e1]

/-- 'nearest' goes by the value alone. -/
theorem nearest_scale (f : Format) (neg : Bool) (m k : Nat) (p : Int) : f.nearest neg (m * 2 ^ k) (p - k) = f.nearest neg m p := by
  by_cases hm : m = 0
  · subst hm; simp [nearest]
  · have hmk : m * 2 ^ k ≠ 0 := Nat.mul_ne_zero hm (Nat.pos_iff_ne_zero.1 (Nat.two_pow_pos k))
    have hl : (m * 2 ^ k).log2 = m.log2 + k := log2_scaled (Nat.log2_self_le hm) Nat.lt_log2_self
    unfold nearest
    rw [if_neg hm, if_neg hmk, hl]
    rw [show p - (k : Int) + ((m.log2 + k : Nat) : Int) - (f.fractionBits : Int) = p + (m.log2 : Int) - (f.fractionBits : Int) from by omega]
    generalize max (p + (m.log2 : Int) - (f.fractionBits : Int)) f.leastPlace = last
    simp only
    congr 3
    simp only [Nat.shiftLeft_eq]
    by_cases h : last ≤ p - k
    · rw [show (p - last).toNat = (p - k - last).toNat + k from by omega, show (last - (p - (k : Int))).toNat = 0 from by omega, show (last - p).toNat = 0 from by omega]
      congr 1
      rw [Nat.pow_add, Nat.mul_assoc, Nat.mul_comm (2 ^ k)]
    · by_cases h2 : last ≤ p
      · rw [show (p - (k : Int) - last).toNat = 0 from by omega, show (last - p).toNat = 0 from by omega, Nat.pow_zero, Nat.mul_one]
        rw [cut_exact neg (m * 2 ^ (p - last).toNat) 0 (m * 2 ^ (p - last).toNat) (by simp)]
        refine cut_exact neg _ _ _ ?_
        rw [Nat.mul_assoc, ← Nat.pow_add]
        congr 2
        omega
      · rw [show (p - (k : Int) - last).toNat = 0 from by omega, show (p - last).toNat = 0 from by omega, Nat.pow_zero, Nat.mul_one, Nat.mul_one]
        rw [show (last - (p - (k : Int))).toNat = (last - p).toNat + k from by omega]
        exact cut_scale neg m _ k hm

theorem nearest_at (f : Format) (neg : Bool) (m : Nat) {p q : Int} (h : q ≤ p) : f.nearest neg m p = f.nearest neg (m * 2 ^ (p - q).toNat) q := by
  have := f.nearest_scale neg m (p - q).toNat p
  rw [show p - ((p - q).toNat : Int) = q from by omega] at this
  exact this.symm

theorem signed_eq (neg : Bool) (m k : Nat) : signed neg m k = (if neg then -1 else 1) * ((m * 2 ^ k : Nat) : Int) := by
  unfold signed
  rw [Nat.shiftLeft_eq]
  cases neg <;> simp

theorem signed_scale (neg : Bool) (m k j : Nat) : signed neg m (k + j) = signed neg m k * ((2 ^ j : Nat) : Int) := by
  rw [signed_eq, signed_eq, Nat.pow_add, ← Nat.mul_assoc, Int.mul_assoc]
  congr 1

theorem sval_eq (f : Format) (x : Nat) : f.sval x = (if f.negb x then -1 else 1) * (f.units (f.rung x) : Int) := by
  unfold sval; cases f.negb x <;> simp

/-- How two finite words stand to each other. -/
theorem order_fin (f : Format) {x y : Nat} (hx : f.fin x) (hy : f.fin y) : f.order x y = some (compare (f.sval x) (f.sval y)) := by
  obtain ⟨m, i, rx, li, ux⟩ := f.read_fin hx
  obtain ⟨n, j, ry, lj, uy⟩ := f.read_fin hy
  unfold order
  rw [rx, ry]
  simp only [Datum.order]
  have e1 : signed (f.negb x) m (i - min i j).toNat * ((2 ^ (min i j - f.leastPlace).toNat : Nat) : Int) = f.sval x := by
    rw [← signed_scale, signed_eq, sval_eq, ← ux]; congr 5; omega
  have e2 : signed (f.negb y) n (j - min i j).toNat * ((2 ^ (min i j - f.leastPlace).toNat : Nat) : Int) = f.sval y := by
    rw [← signed_scale, signed_eq, sval_eq, ← uy]; congr 5; omega
  have hp : (0 : Int) < ((2 ^ (min i j - f.leastPlace).toNat : Nat) : Int) := by
    have := Nat.two_pow_pos (min i j - f.leastPlace).toNat; omega
  rw [← e1, ← e2]
  generalize signed (f.negb x) m (i - min i j).toNat = a
  generalize signed (f.negb y) n (j - min i j).toNat = b
  generalize ((2 ^ (min i j - f.leastPlace).toNat : Nat) : Int) = K at hp
  congr 1
  rcases Int.lt_trichotomy a b with h | h | h
  · rw [(Int.compare_eq_lt).2 h, (Int.compare_eq_lt).2 (Int.mul_lt_mul_of_pos_right h hp)]
  · rw [h, (Int.compare_eq_eq).2 rfl, (Int.compare_eq_eq).2 rfl]
  · rw [(Int.compare_eq_gt).2 h, (Int.compare_eq_gt).2 (Int.mul_lt_mul_of_pos_right h hp)]

/-- The sign of a sum. -/
def sumNeg (t : Int) (s u : Bool) : Bool := if t = 0 then s && u else decide (t < 0)

theorem sum_fin (f : Format) (s t : Bool) (m n : Nat) (i j : Int) (li : f.leastPlace ≤ i) (lj : f.leastPlace ≤ j) :
    ((Datum.number s m i).sum (Datum.number t n j)).map f.write =
      some (f.nearest (sumNeg (signed s m (i - f.leastPlace).toNat + signed t n (j - f.leastPlace).toNat) s t) (signed s m (i - f.leastPlace).toNat + signed t n (j - f.leastPlace).toNat).natAbs f.leastPlace) := by
  simp only [Datum.sum, Option.map_some, write]
  have e1 : signed s m (i - f.leastPlace).toNat = signed s m (i - min i j).toNat * ((2 ^ (min i j - f.leastPlace).toNat : Nat) : Int) := by
    rw [← signed_scale]; congr 1; omega
  have e2 : signed t n (j - f.leastPlace).toNat = signed t n (j - min i j).toNat * ((2 ^ (min i j - f.leastPlace).toNat : Nat) : Int) := by
    rw [← signed_scale]; congr 1; omega
  rw [e1, e2, ← Int.add_mul]
  generalize signed s m (i - min i j).toNat + signed t n (j - min i j).toNat = a
  have hp : (0 : Int) < ((2 ^ (min i j - f.leastPlace).toNat : Nat) : Int) := by
    have := Nat.two_pow_pos (min i j - f.leastPlace).toNat; omega
  rw [f.nearest_at _ _ (show f.leastPlace ≤ min i j by omega), Int.natAbs_mul, Int.natAbs_natCast]
  congr 2
  unfold sumNeg
  by_cases h0 : a = 0
  · subst h0; simp
  · rw [if_neg h0, if_neg (Int.mul_ne_zero h0 (by omega))]
    rw [Bool.eq_iff_iff]; simp only [decide_eq_true_eq]
    constructor
    · intro h; exact Int.mul_neg_of_neg_of_pos h hp
    · intro h; rcases Int.lt_trichotomy a 0 with h' | h' | h'
      · exact h'
      · exact absurd h' h0
      · have := Int.mul_pos h' hp; omega

theorem signed_sval (f : Format) {x m : Nat} {i : Int} (ux : m * 2 ^ (i - f.leastPlace).toNat = f.units (f.rung x)) : signed (f.negb x) m (i - f.leastPlace).toNat = f.sval x := by
  rw [signed_eq, sval_eq, ← ux]

theorem add_fin (f : Format) {x y : Nat} (hx : f.fin x) (hy : f.fin y) :
    f.add x y = some (f.nearest (sumNeg (f.sval x + f.sval y) (f.negb x) (f.negb y)) (f.sval x + f.sval y).natAbs f.leastPlace) := by
  obtain ⟨m, i, rx, li, ux⟩ := f.read_fin hx
  obtain ⟨n, j, ry, lj, uy⟩ := f.read_fin hy
  unfold add
  rw [rx, ry, sum_fin f _ _ _ _ _ _ li lj, f.signed_sval ux, f.signed_sval uy]

theorem signed_not (s : Bool) (m k : Nat) : signed (!s) m k = -signed s m k := by
  rw [signed_eq, signed_eq]; cases s <;> simp

theorem sub_fin (f : Format) {x y : Nat} (hx : f.fin x) (hy : f.fin y) :
    f.sub x y = some (f.nearest (sumNeg (f.sval x - f.sval y) (f.negb x) (!f.negb y)) (f.sval x - f.sval y).natAbs f.leastPlace) := by
  obtain ⟨m, i, rx, li, ux⟩ := f.read_fin hx
  obtain ⟨n, j, ry, lj, uy⟩ := f.read_fin hy
  unfold sub
  rw [rx, ry, Datum.opposite, sum_fin f _ _ _ _ _ _ li lj, f.signed_sval ux, signed_not, f.signed_sval uy, ← Int.sub_eq_add_neg]

theorem mul_fin (f : Format) {x y : Nat} (hx : f.fin x) (hy : f.fin y) :
    f.mul x y = some (f.nearest (f.negb x ^^ f.negb y) (f.units (f.rung x) * f.units (f.rung y)) (2 * f.leastPlace)) := by
  obtain ⟨m, i, rx, li, ux⟩ := f.read_fin hx
  obtain ⟨n, j, ry, lj, uy⟩ := f.read_fin hy
  unfold mul
  rw [rx, ry]
  simp only [Datum.product, Option.map_some, write]
  rw [← ux, ← uy, f.nearest_at _ _ (show 2 * f.leastPlace ≤ i + j by omega)]
  congr 2
  rw [show (i + j - 2 * f.leastPlace).toNat = (i - f.leastPlace).toNat + (j - f.leastPlace).toNat from by omega, Nat.pow_add]
  generalize 2 ^ (i - f.leastPlace).toNat = a
  generalize 2 ^ (j - f.leastPlace).toNat = b
  rw [Nat.mul_mul_mul_comm]

/-- A product that the format has. -/
theorem mul_exact (f : Format) {x y R k : Nat} (hx : f.fin x) (hy : f.fin y) (hR : R ≤ f.infRung) (lp : f.leastPlace = -k)
    (h : f.units (f.rung x) * f.units (f.rung y) = f.units R * 2 ^ k) : f.mul x y = some (f.word (f.negb x ^^ f.negb y) R) := by
  rw [mul_fin f hx hy, nearest_exact f _ _ _ R hR]
  rw [show (2 * f.leastPlace - f.leastPlace).toNat = 0 from by omega, Nat.pow_zero, Nat.mul_one, h]
  congr 2
  omega

theorem add_exact (f : Format) {x y R : Nat} (hx : f.fin x) (hy : f.fin y) (hR : R ≤ f.infRung)
    (h : (f.sval x + f.sval y).natAbs = f.units R) : f.add x y = some (f.word (sumNeg (f.sval x + f.sval y) (f.negb x) (f.negb y)) R) := by
  rw [add_fin f hx hy, nearest_exact f _ _ _ R hR]
  rw [h, Int.sub_self]

theorem units_small (f : Format) {m : Nat} (h : m < 2 * f.binade) : f.units m = m := by
  unfold units
  have hb := f.binade_pos
  by_cases h1 : m < f.binade
  · rw [if_pos h1]
  · have hd : m / f.binade = 1 := Nat.div_eq_of_lt_le (by omega) (by omega)
    have hm := Nat.mod_add_div m f.binade
    rw [if_neg h1, hd]
    rw [hd] at hm
    simp
    omega

/-- Every short significand at every place up to the greatest has its rung. -/
theorem repr (f : Format) {m : Nat} (hm : m < 2 ^ (f.fractionBits + 1)) (c : Nat) : ∃ R, R < (c + 2) * f.binade ∧ f.units R = m * 2 ^ c := by
  have hb := f.binade_pos
  have h2 : 2 ^ (f.fractionBits + 1) = 2 * f.binade := by unfold binade; rw [Nat.pow_succ, Nat.mul_comm]
  induction c with
  | zero => exact ⟨m, by omega, by rw [f.units_small (by omega)]; simp⟩
  | succ c ih =>
    obtain ⟨R, hR, hu⟩ := ih
    by_cases h1 : R < f.binade
    · refine ⟨2 * R, ?_, ?_⟩
      · have : 2 * f.binade ≤ (c + 1 + 2) * f.binade := Nat.mul_le_mul_right _ (by omega)
        omega
      · rw [f.units_small (by omega)]
        rw [f.units_small (by omega)] at hu
        rw [hu, Nat.pow_succ]
        rw [Nat.mul_comm 2, Nat.mul_assoc]
    · refine ⟨R + f.binade, ?_, ?_⟩
      · rw [show c + 1 + 2 = (c + 2) + 1 from rfl, Nat.succ_mul]; omega
      · have hq : 1 ≤ R / f.binade := (Nat.one_le_div_iff hb).2 (by omega)
        have e : f.units (R + f.binade) = (f.binade + R % f.binade) * 2 ^ (R / f.binade + 1 - 1) := by
          unfold units
          rw [if_neg (by omega), Nat.add_mod_right, Nat.add_div_right _ hb]
        have e0 : f.units R = (f.binade + R % f.binade) * 2 ^ (R / f.binade - 1) := by unfold units; rw [if_neg h1]
        rw [e, Nat.pow_succ, ← Nat.mul_assoc, ← hu, e0, show R / f.binade + 1 - 1 = (R / f.binade - 1) + 1 from by omega, Nat.pow_succ, ← Nat.mul_assoc]
end Format

/-- A double: a word of a number with this sign and this many units (2^-1074 each). -/
structure IsD (x : Nat) (s : Bool) (U : Nat) : Prop where
  lt : x < 2 ^ 64
  fin : double.fin x
  neg : double.negb x = s
  units : double.units (double.rung x) = U

def sg (s : Bool) (U : Nat) : Int := if s then -(U : Int) else (U : Int)

namespace IsD

theorem word {s : Bool} {R : Nat} (h : R < double.infRung) : IsD (double.word s R) s (double.units R) := by
  have hs : R < double.signWeight := Nat.lt_trans h double.infRung_lt
  exact ⟨double.word_lt s hs, double.fin_word s h, double.negb_word s hs, by rw [double.rung_word s hs]⟩

theorem of_units {s : Bool} {m c : Nat} (hm : m < 2 ^ 53) (hc : c ≤ 2045) : ∃ R, R < double.infRung ∧ double.units R = m * 2 ^ c ∧ IsD (double.word s R) s (m * 2 ^ c) := by
  obtain ⟨R, hR, hu⟩ := double.repr (m := m) hm c
  have hlt : R < double.infRung := by
    refine Nat.lt_of_lt_of_le hR ?_
    exact Nat.mul_le_mul_right double.binade (show c + 2 ≤ 2 ^ 11 - 1 by omega)
  exact ⟨R, hlt, hu, hu ▸ word hlt⟩

theorem eq_word {x : Nat} {s : Bool} {U : Nat} (h : IsD x s U) : x = double.word s (double.rung x) := by
  rw [← h.neg]; exact (double.word_of h.lt).symm

theorem unique {x y : Nat} {s : Bool} {U : Nat} (hx : IsD x s U) (hy : IsD y s U) : x = y := by
  rw [hx.eq_word, hy.eq_word, double.units_inj (hx.units.trans hy.units.symm)]

theorem sval {x : Nat} {s : Bool} {U : Nat} (h : IsD x s U) : double.sval x = sg s U := by
  unfold Format.sval sg; rw [h.neg, h.units]

theorem order {x y : Nat} {s t : Bool} {U V : Nat} (hx : IsD x s U) (hy : IsD y t V) : double.order x y = some (compare (sg s U) (sg t V)) := by
  rw [double.order_fin hx.fin hy.fin, hx.sval, hy.sval]

theorem mul {x y r : Nat} {s t : Bool} {U V W : Nat} (hx : IsD x s U) (hy : IsD y t V) (hr : IsD r (s ^^ t) W) {k : Nat} (hk : k = 1074) (h : U * V = W * 2 ^ k) : double.mul x y = some r := by
  rw [double.mul_exact hx.fin hy.fin (R := double.rung r) (k := k) (Nat.le_of_lt hr.fin) (by subst hk; decide) (by rw [hx.units, hy.units, hr.units]; exact h), hx.neg, hy.neg, ← hr.eq_word]

theorem add {x y r : Nat} {s t u : Bool} {U V W : Nat} (hx : IsD x s U) (hy : IsD y t V) (hr : IsD r u W) (h : sg s U + sg t V = sg u W) (hu : u = Format.sumNeg (sg u W) s t) : double.add x y = some r := by
  rw [double.add_exact hx.fin hy.fin (R := double.rung r) (Nat.le_of_lt hr.fin) (by rw [hx.sval, hy.sval, h, hr.units]; unfold sg; cases u <;> simp), hx.sval, hy.sval, h, hx.neg, hy.neg, ← hu, ← hr.eq_word]
end IsD

theorem Format.cut_any (way : Toward) (neg : Bool) (n d M : Nat) (h : n = M * 2 ^ d) : way.cut neg n d = M := by
  cases way with
  | even => exact Format.cut_exact neg n d M h
  | _ =>
    unfold Toward.cut
    simp only [Nat.shiftLeft_eq, Nat.one_mul]
    by_cases h0 : M = 0
    · subst h0; simp at h; subst h; simp
    · have hn : n ≠ 0 := by
        rw [h]; exact Nat.mul_ne_zero h0 (Nat.pos_iff_ne_zero.1 (Nat.two_pow_pos d))
      have hd : d ≤ n.log2 := by
        refine (Nat.le_log2 hn).2 ?_
        rw [h]; exact Nat.le_mul_of_pos_left _ (Nat.pos_of_ne_zero h0)
      rw [Nat.min_eq_left (by omega), h, Nat.mul_div_cancel _ (Nat.two_pow_pos d)]
      simp

/-- The word of 2 ^ k, for k in -1022 .. 1023. -/
def pw (k : Int) : Nat := (k + 1023).toNat * 2 ^ 52

theorem double_lp : double.leastPlace = -1074 := by decide
theorem single_lp : single.leastPlace = -149 := by decide

theorem pw_isD {k : Int} (h1 : -1022 ≤ k) (h2 : k ≤ 1023) : IsD (pw k) false (2 ^ (k + 1074).toNat) := by
  have hq1 : 1 ≤ (k + 1023).toNat := by omega
  have hq2 : (k + 1023).toNat ≤ 2046 := by omega
  have e : (k + 1074).toNat = (k + 1023).toNat + 51 := by omega
  unfold pw
  rw [e]
  generalize (k + 1023).toNat = q at hq1 hq2
  have hb : double.binade = 2 ^ 52 := rfl
  have hlt : q * 2 ^ 52 < double.infRung := by
    show q * 2 ^ 52 < (2 ^ 11 - 1) * 2 ^ 52
    omega
  have hu : double.units (q * 2 ^ 52) = 2 ^ (q + 51) := by
    unfold Format.units
    rw [hb, if_neg (by omega), Nat.mul_mod_left, Nat.mul_div_cancel _ (by omega), Nat.add_zero, ← Nat.pow_add]
    congr 1
    omega
  have := IsD.word (s := false) hlt
  rw [hu] at this
  exact this

theorem read_pw {k : Int} (h1 : -1022 ≤ k) (h2 : k ≤ 1023) : double.read (pw k) = .number false (2 ^ 52) (k - 52) := by
  have hq1 : 1 ≤ (k + 1023).toNat := by omega
  have hq2 : (k + 1023).toNat ≤ 2046 := by omega
  have e : k - 52 = -1074 + (((k + 1023).toNat - 1 : Nat) : Int) := by omega
  rw [e]
  unfold pw
  generalize (k + 1023).toNat = q at hq1 hq2
  have hs : double.signWeight = 2 ^ 63 := rfl
  have hb : double.binade = 2 ^ 52 := rfl
  have hi : double.infRung = 2047 * 2 ^ 52 := rfl
  unfold Format.read
  rw [hs, hb, hi, double_lp]
  have r1 : q * 2 ^ 52 % 2 ^ 63 = q * 2 ^ 52 := Nat.mod_eq_of_lt (by omega)
  have r2 : q * 2 ^ 52 / 2 ^ 63 = 0 := Nat.div_eq_of_lt (by omega)
  simp only [r1, r2]
  rw [if_neg (by omega), if_pos (by omega), Nat.mul_mod_left, Nat.mul_div_cancel _ (by omega)]
  rfl

/-- A quotient by a power of two. -/
theorem div_pw {x : Nat} {s : Bool} {U : Nat} (hx : IsD x s U) {k : Int} (h1 : -1022 ≤ k) (h2 : k ≤ 1023) :
    double.div x (pw k) = some (double.nearest s U (-1074 - k)) := by
  obtain ⟨m, i, rx, li, ux⟩ := double.read_fin hx.fin
  rw [hx.neg] at rx
  rw [hx.units, double_lp] at ux
  rw [double_lp] at li
  -- the significand is short
  have hm : m < 2 ^ 53 := by
    have hr := hx.fin
    unfold Format.fin at hr
    unfold Format.read at rx
    simp only at rx
    have hb : double.binade = 2 ^ 52 := rfl
    split at rx
    · rename_i hlt; injection rx with _ e _; rw [hb] at hlt; omega
    · split at rx
      · injection rx with _ e _
        have := Nat.mod_lt (x % double.signWeight) double.binade_pos
        rw [hb] at this e; omega
      · split at rx <;> cases rx
  have hl : m.log2 ≤ 52 := by
    by_cases h0 : m = 0
    · subst h0; decide
    · have := (Nat.log2_lt h0).2 hm; omega
  unfold Format.div
  rw [rx, read_pw h1 h2]
  simp only [Datum.quotient]
  rw [if_neg (by decide)]
  have l2 : (2 ^ 52 : Nat).log2 = 52 := Nat.log2_two_pow
  rw [l2]
  show some (double.nearest _ _ _) = _
  rw [show double.fractionBits + 2 + 52 - m.log2 = (54 - m.log2) + 52 from by show 52 + 2 + 52 - m.log2 = _; omega]
  rw [Nat.shiftLeft_eq, Nat.pow_add, ← Nat.mul_assoc, Nat.mul_div_cancel _ (by decide), Nat.mul_mod_left]
  have e1 : 2 * (m * 2 ^ (54 - m.log2)) + (0 != 0).toNat = m * 2 ^ (54 - m.log2 + 1) := by
    show 2 * (m * 2 ^ (54 - m.log2)) + 0 = _
    rw [Nat.add_zero, Nat.pow_succ, ← Nat.mul_assoc, Nat.mul_comm 2, Nat.mul_assoc]
    rw [Nat.mul_comm 2]
  rw [e1]
  have e2 : i - (k - 52) - ((54 - m.log2 + 52 : Nat) : Int) - 1 = (i - k) - ((54 - m.log2 + 1 : Nat) : Int) := by omega
  rw [e2, double.nearest_scale, double.nearest_at _ _ (show -1074 - k ≤ i - k by omega)]
  rw [show (i - k - (-1074 - k)).toNat = (i - -1074).toNat from by omega, ux]
  simp

theorem div_pw_exact {x r : Nat} {s : Bool} {U W : Nat} (hx : IsD x s U) {k : Int} (h1 : -1022 ≤ k) (h2 : k ≤ 1023) (hr : IsD r s W)
    (h : U * 2 ^ (-k).toNat = W * 2 ^ k.toNat) : double.div x (pw k) = some r := by
  rw [div_pw hx h1 h2, double.nearest_exact s U _ (double.rung r) (Nat.le_of_lt hr.fin), ← hr.eq_word]
  rw [double_lp, hr.units]
  rw [show (-1074 - k - -1074).toNat = (-k).toNat from by omega, show (-1074 - (-1074 - k)).toNat = k.toNat from by omega]
  exact h

/-- A whole double, as an integer. -/
theorem toInt_isD {x : Nat} {s : Bool} {n E : Nat} (hE : E = 1074) (hx : IsD x s (n * 2 ^ E)) : (double.read x).toInt .zero = some (sg s n) := by
  obtain ⟨m, i, rx, li, ux⟩ := double.read_fin hx.fin
  rw [hx.neg] at rx
  rw [hx.units, double_lp] at ux
  rw [double_lp] at li
  rw [rx]
  simp only [Datum.toInt, Datum.integral]
  have hc : Toward.zero.cut s (m <<< i.toNat) (-i).toNat = n := by
    refine Format.cut_any .zero s _ _ n ?_
    rw [Nat.shiftLeft_eq]
    by_cases h0 : 0 ≤ i
    · rw [show (-i).toNat = 0 from by omega, Nat.pow_zero, Nat.mul_one]
      rw [show (i - -1074).toNat = i.toNat + E from by omega, Nat.pow_add, ← Nat.mul_assoc] at ux
      exact Nat.mul_right_cancel (Nat.two_pow_pos E) ux
    · rw [show i.toNat = 0 from by omega, Nat.pow_zero, Nat.mul_one]
      have e : E = (-i).toNat + (i - -1074).toNat := by omega
      have e2 : n * 2 ^ E = n * 2 ^ (-i).toNat * 2 ^ (i - -1074).toNat := by
        rw [Nat.mul_assoc, ← Nat.pow_add, ← e]
      rw [e2] at ux
      exact Nat.mul_right_cancel (Nat.two_pow_pos _) ux
  rw [hc]
  unfold signed sg
  simp

theorem ofInt_isD {n : Int} (h : n.natAbs < 2 ^ 53) {E : Nat} (hE : E = 1074) : IsD (double.write (.number (decide (n < 0)) n.natAbs 0)) (decide (n < 0)) (n.natAbs * 2 ^ E) := by
  obtain ⟨R, hR, hu, hd⟩ := IsD.of_units (s := decide (n < 0)) h (show E ≤ 2045 by omega)
  show IsD (double.nearest _ _ _) _ _
  rw [double.nearest_exact _ _ _ R (Nat.le_of_lt hR) (by rw [double_lp, hu, show ((0 : Int) - -1074).toNat = E from by omega, show ((-1074 : Int) - 0).toNat = 0 from rfl, Nat.pow_zero, Nat.mul_one])]
  exact hd

/-- The significand of a finite word, short, and its place. -/
theorem Format.units_short (f : Format) (R : Nat) : ∃ M c, M < 2 * f.binade ∧ f.units R = M * 2 ^ c ∧ (c + 1) * f.binade ≤ R + f.binade ∧ (c = 0 ∨ f.binade ≤ M) := by
  by_cases h1 : R < f.binade
  · exact ⟨R, 0, by omega, by unfold Format.units; rw [if_pos h1]; simp, by omega, .inl rfl⟩
  · have hb := f.binade_pos
    have hm := Nat.mod_lt R hb
    have hq : 1 ≤ R / f.binade := (Nat.one_le_div_iff hb).2 (by omega)
    refine ⟨f.binade + R % f.binade, R / f.binade - 1, by omega, by unfold Format.units; rw [if_neg h1], ?_, .inr (by omega)⟩
    rw [show R / f.binade - 1 + 1 = R / f.binade from by omega]
    have := Nat.div_mul_le_self R f.binade
    omega

/-- A single is a double. -/
theorem widen_isD {x : Nat} (h : single.fin x) {E : Nat} (hE : E = 925) : IsD (double.write (single.read x)) (single.negb x) (single.units (single.rung x) * 2 ^ E) ∧ (double.read (double.write (single.read x))).isInfinity = false := by
  obtain ⟨m, i, rx, li, ux⟩ := single.read_fin h
  rw [single_lp] at li ux
  obtain ⟨M, c, hM, hu, hc, _⟩ := single.units_short (single.rung x)
  have hb : single.binade = 2 ^ 23 := rfl
  have hc2 : c + E ≤ 2045 := by
    have hi : single.infRung = 255 * 2 ^ 23 := rfl
    unfold Format.fin at h
    rw [hb] at hc
    rw [hi] at h
    omega
  obtain ⟨R, hR, hRu, hd⟩ := IsD.of_units (s := single.negb x) (m := M) (by rw [hb] at hM; omega) hc2
  have e : double.write (single.read x) = double.word (single.negb x) R := by
    rw [rx]
    show double.nearest _ _ _ = _
    refine double.nearest_exact _ _ _ R (Nat.le_of_lt hR) ?_
    rw [double_lp, hRu, Nat.pow_add, ← Nat.mul_assoc, ← hu, ← ux]
    rw [show (-1074 - i).toNat = 0 from by omega, Nat.pow_zero, Nat.mul_one, Nat.mul_assoc, ← Nat.pow_add]
    congr 2
    omega
  rw [e, hu, Nat.mul_assoc, ← Nat.pow_add]
  refine ⟨hd, ?_⟩
  obtain ⟨m', e', r', _⟩ := double.read_fin hd.fin
  rw [r']; rfl

/-- A double that is a single's value becomes that single. -/
theorem narrow_isD {x R E : Nat} {s : Bool} (hE : E = 925) (hR : R < single.infRung) (hx : IsD x s (single.units R * 2 ^ E)) :
    single.write (double.read x) = single.word s R ∧ (double.read x).isNaN = false ∧ (double.read x).isInfinity = false ∧ (single.read (single.word s R)).isInfinity = false := by
  obtain ⟨m, i, rx, li, ux⟩ := double.read_fin hx.fin
  rw [hx.neg] at rx
  rw [hx.units, double_lp] at ux
  rw [double_lp] at li
  refine ⟨?_, by rw [rx]; rfl, by rw [rx]; rfl, ?_⟩
  · rw [rx]
    show single.nearest _ _ _ = _
    refine single.nearest_exact _ _ _ R (Nat.le_of_lt hR) ?_
    rw [single_lp]
    by_cases h0 : -149 ≤ i
    · rw [show (-149 - i).toNat = 0 from by omega, Nat.pow_zero, Nat.mul_one]
      rw [show (i - -1074).toNat = (i - -149).toNat + E from by omega, Nat.pow_add, ← Nat.mul_assoc] at ux
      exact Nat.mul_right_cancel (Nat.two_pow_pos E) ux
    · rw [show (i - -149).toNat = 0 from by omega, Nat.pow_zero, Nat.mul_one]
      have e : E = (-149 - i).toNat + (i - -1074).toNat := by omega
      have e2 : single.units R * 2 ^ E = single.units R * 2 ^ (-149 - i).toNat * 2 ^ (i - -1074).toNat := by
        rw [Nat.mul_assoc, ← Nat.pow_add, ← e]
      rw [e2] at ux
      exact Nat.mul_right_cancel (Nat.two_pow_pos _) ux
  · obtain ⟨m', e', r', _⟩ := single.read_fin (single.fin_word s hR)
    rw [r']; rfl

/-- The digits of a root, one by one. -/
theorem rootFrom_spec (n : Nat) : ∀ (todo root : Nat), root * root ≤ n → n < (root + 2 ^ todo) * (root + 2 ^ todo) →
    Datum.rootFrom n todo root * Datum.rootFrom n todo root ≤ n ∧ n < (Datum.rootFrom n todo root + 1) * (Datum.rootFrom n todo root + 1)
  | 0, root, h1, h2 => by
    simp only [Datum.rootFrom]
    simp at h2
    exact ⟨h1, h2⟩
  | todo + 1, root, h1, h2 => by
    simp only [Datum.rootFrom, Nat.shiftLeft_eq, Nat.one_mul]
    by_cases h : (root + 2 ^ todo) * (root + 2 ^ todo) ≤ n
    · rw [if_pos h]
      refine rootFrom_spec n todo _ h ?_
      rw [show root + 2 ^ todo + 2 ^ todo = root + 2 ^ (todo + 1) from by rw [Nat.pow_succ]; omega]
      exact h2
    · rw [if_neg h]
      exact rootFrom_spec n todo root h1 (by omega)

theorem Format.cut_even (neg : Bool) (n d : Nat) (hd : d ≤ n.log2 + 2) :
    Toward.even.cut neg n d = n / 2 ^ d + (2 ^ d < 2 * (n % 2 ^ d) || (2 ^ d == 2 * (n % 2 ^ d) && n / 2 ^ d % 2 == 1)).toNat := by
  unfold Toward.cut
  simp only [Nat.shiftLeft_eq, Nat.one_mul, Nat.min_eq_left hd]

/-- A half's place: the even number next to a root, by the squares of the odd ones. -/
def evenRoot (n r : Nat) : Nat := if (r - r % 2 + 1) * (r - r % 2 + 1) < n then r - r % 2 + 2 else r - r % 2

theorem sq_lt {a b : Nat} (h : a * a < b * b) : a < b := by
  rcases Nat.lt_or_ge a b with h' | h'
  · exact h'
  · exact absurd (Nat.mul_le_mul h' h') (Nat.not_le_of_lt h)

theorem odd_sq (e : Nat) (h : e % 2 = 0) : (e + 1) * (e + 1) % 2 = 1 := by
  rw [Nat.mul_mod, show (e + 1) % 2 = 1 from by omega]

theorem even_of {K : Nat} {g : Nat} (h1 : (2 * g + 1) * 2 ^ 28 + 1 ≤ K) (h2 : K ≤ (2 * g + 2) * 2 ^ 28) :
    K / 2 ^ 29 + (2 ^ 29 < 2 * (K % 2 ^ 29) || (2 ^ 29 == 2 * (K % 2 ^ 29) && K / 2 ^ 29 % 2 == 1)).toNat = g + 1 := by
  have hb : (2 ^ 29 < 2 * (K % 2 ^ 29) || (2 ^ 29 == 2 * (K % 2 ^ 29) && K / 2 ^ 29 % 2 == 1)) = decide (K % 2 ^ 29 ≠ 0) := by
    rw [Bool.eq_iff_iff]
    simp only [Bool.or_eq_true, decide_eq_true_eq, Bool.and_eq_true, beq_iff_eq]
    omega
  rw [hb]
  by_cases hz : K % 2 ^ 29 = 0
  · rw [hz]; simp; omega
  · rw [decide_eq_true (by exact hz)]; simp only [Bool.toNat_true]; omega

theorem odd_of {K : Nat} {g : Nat} (h1 : 2 * g * 2 ^ 28 ≤ K) (h2 : K + 1 ≤ (2 * g + 1) * 2 ^ 28) :
    K / 2 ^ 29 + (2 ^ 29 < 2 * (K % 2 ^ 29) || (2 ^ 29 == 2 * (K % 2 ^ 29) && K / 2 ^ 29 % 2 == 1)).toNat = g := by
  have hb : (2 ^ 29 < 2 * (K % 2 ^ 29) || (2 ^ 29 == 2 * (K % 2 ^ 29) && K / 2 ^ 29 % 2 == 1)) = false := by
    rw [Bool.eq_false_iff]
    simp only [ne_eq, Bool.or_eq_true, decide_eq_true_eq, Bool.and_eq_true, beq_iff_eq]
    omega
  rw [hb]
  simp only [Bool.toNat_false]
  omega

theorem third_of {x K : Nat} (h : K = x / 2 ^ 3 + (2 ^ 3 < 2 * (x % 2 ^ 3) || (2 ^ 3 == 2 * (x % 2 ^ 3) && x / 2 ^ 3 % 2 == 1)).toNat) :
    (x + 3) / 8 ≤ K ∧ K ≤ (x + 4) / 8 := by
  rcases Bool.eq_false_or_eq_true (2 ^ 3 < 2 * (x % 2 ^ 3) || (2 ^ 3 == 2 * (x % 2 ^ 3) && x / 2 ^ 3 % 2 == 1)) with hb | hb
  · rw [hb] at h
    simp only [Bool.or_eq_true, decide_eq_true_eq, Bool.and_eq_true, beq_iff_eq] at hb
    simp only [Bool.toNat_true] at h
    omega
  · rw [hb] at h
    simp only [Bool.or_eq_false_iff, decide_eq_false_iff_not] at hb
    simp only [Bool.toNat_false] at h
    omega

/-- What the squares say of the root w of n * 2 ^ 60 and of the even number g * 2 next to the root of n. -/
theorem root_bounds {n w r g : Nat} (h1 : 2 ^ 48 ≤ n) (h2 : n < 2 ^ 50) (hev : n % 2 = 0) (hw : w * w ≤ n * 2 ^ 60) (hw2 : n * 2 ^ 60 < (w + 1) * (w + 1))
    (hr : r * r ≤ n) (hr2 : n < (r + 1) * (r + 1)) (hg : r - r % 2 = 2 * g) :
    2 ^ 54 ≤ w ∧ w < 2 ^ 55 ∧ 2 ^ 24 ≤ r ∧ r < 2 ^ 25 ∧ 2 * g * 2 ^ 30 ≤ w ∧ w < (2 * g + 2) * 2 ^ 30 ∧
      ((2 * g + 1) * (2 * g + 1) < n → (2 * g + 1) * 2 ^ 30 + 3 ≤ w) ∧ (¬ (2 * g + 1) * (2 * g + 1) < n → w + 3 < (2 * g + 1) * 2 ^ 30) := by
  have hS : (0 : Nat) < 2 ^ 60 := by decide
  have hrlo : 2 ^ 24 ≤ r := by
    have : 2 ^ 24 < r + 1 := sq_lt (Nat.lt_of_le_of_lt (Nat.le_trans (by decide) h1) hr2)
    omega
  have hrhi : r < 2 ^ 25 := sq_lt (Nat.lt_of_le_of_lt hr (Nat.lt_of_lt_of_le h2 (by decide)))
  have q1 : (2 : Nat) ^ 54 * 2 ^ 54 = 2 ^ 48 * 2 ^ 60 := by decide
  have q2 : (2 : Nat) ^ 55 * 2 ^ 55 = 2 ^ 50 * 2 ^ 60 := by decide
  have hwlo : 2 ^ 54 ≤ w := by
    have : 2 ^ 54 < w + 1 := sq_lt (by rw [q1]; exact Nat.lt_of_le_of_lt (Nat.mul_le_mul_right _ h1) hw2)
    omega
  have hwhi : w < 2 ^ 55 := sq_lt (by rw [q2]; exact Nat.lt_of_le_of_lt hw (Nat.mul_lt_mul_of_pos_right h2 hS))
  have scale : ∀ a : Nat, (a * 2 ^ 30) * (a * 2 ^ 30) = a * a * 2 ^ 60 := fun a => by
    rw [Nat.mul_mul_mul_comm]
  have hre : 2 * g ≤ r := by omega
  have hre2 : r + 1 ≤ 2 * g + 2 := by omega
  have hwe : 2 * g * 2 ^ 30 ≤ w := by
    have : 2 * g * 2 ^ 30 < w + 1 := sq_lt (by
      rw [scale]
      exact Nat.lt_of_le_of_lt (Nat.mul_le_mul_right _ (Nat.le_trans (Nat.mul_le_mul hre hre) hr)) hw2)
    omega
  have hwe2 : w < (2 * g + 2) * 2 ^ 30 := sq_lt (by
    rw [scale]
    exact Nat.lt_of_le_of_lt hw (Nat.mul_lt_mul_of_pos_right (Nat.lt_of_lt_of_le hr2 (Nat.mul_le_mul hre2 hre2)) hS))
  refine ⟨hwlo, hwhi, hrlo, hrhi, hwe, hwe2, fun hc => ?_, fun hc => ?_⟩
  · have hA : 6 * ((2 * g + 1) * 2 ^ 30) + 9 ≤ 2 ^ 60 := by
      have : 2 * g + 1 ≤ 2 ^ 25 := by omega
      clear hw hw2 hr hr2 hc q1 q2 hS scale hwe hwe2 h1 h2 hev
      omega
    have : (2 * g + 1) * 2 ^ 30 + 3 < w + 1 := sq_lt (by
      have a2 : ((2 * g + 1) * 2 ^ 30 + 3) * ((2 * g + 1) * 2 ^ 30 + 3) = (2 * g + 1) * 2 ^ 30 * ((2 * g + 1) * 2 ^ 30) + (6 * ((2 * g + 1) * 2 ^ 30) + 9) := by
        generalize (2 * g + 1) * 2 ^ 30 = A
        rw [Nat.add_mul, Nat.mul_add, Nat.mul_add]; omega
      have a3 : ((2 * g + 1) * (2 * g + 1) + 1) * 2 ^ 60 ≤ n * 2 ^ 60 := Nat.mul_le_mul_right (2 ^ 60) hc
      rw [Nat.add_mul, Nat.one_mul] at a3
      rw [a2, scale]
      exact Nat.lt_of_le_of_lt (Nat.le_trans (Nat.add_le_add_left hA _) a3) hw2)
    exact Nat.lt_succ_iff.1 this
  · have hne : n + 1 ≤ (2 * g + 1) * (2 * g + 1) := by
      have hodd := odd_sq (2 * g) (by omega)
      rcases Nat.lt_or_ge n ((2 * g + 1) * (2 * g + 1)) with h | h
      · exact h
      · have : n = (2 * g + 1) * (2 * g + 1) := Nat.le_antisymm (Nat.not_lt.1 hc) h
        rw [← this] at hodd
        omega
    rcases Nat.lt_or_ge (w + 3) ((2 * g + 1) * 2 ^ 30) with h | h
    · exact h
    · exfalso
      have a1 : ((2 * g + 1) * 2 ^ 30) * ((2 * g + 1) * 2 ^ 30) ≤ (w + 3) * (w + 3) := Nat.mul_le_mul h h
      rw [scale] at a1
      have a3 : (n + 1) * 2 ^ 60 ≤ (2 * g + 1) * (2 * g + 1) * 2 ^ 60 := Nat.mul_le_mul_right (2 ^ 60) hne
      have a4 : (w + 3) * (w + 3) = w * w + (6 * w + 9) := by
        rw [Nat.add_mul, Nat.mul_add, Nat.mul_add]; omega
      have a5 : 6 * w + 9 < 2 ^ 60 := by
        clear a4 a3 a1 h hw hw2 hr hr2 hc q1 q2 hS scale hwe hwe2 h1 h2 hev hne
        omega
      rw [Nat.add_mul, Nat.one_mul] at a3
      rw [a4] at a1
      have a6 := Nat.le_trans a3 a1
      have a7 : w * w + (6 * w + 9) < n * 2 ^ 60 + 2 ^ 60 := Nat.add_lt_add_of_le_of_lt hw a5
      exact absurd a6 (Nat.not_le_of_lt a7)

theorem lin1 {a w st K : Nat} (h : 4 * a + 3 ≤ w) (hK : (2 * w + st + 3) / 8 ≤ K) : a + 1 ≤ K := by omega
theorem lin2 {b w st K : Nat} (h : w < 4 * b) (hs : st ≤ 1) (hK : K ≤ (2 * w + st + 4) / 8) : K ≤ b := by omega
theorem lin3 {c w st K : Nat} (h : 4 * c ≤ w) (hK : (2 * w + st + 3) / 8 ≤ K) : c ≤ K := by omega
theorem lin4 {a w st K : Nat} (h : w + 3 < 4 * a) (hs : st ≤ 1) (hK : K ≤ (2 * w + st + 4) / 8) : K + 1 ≤ a := by omega
theorem four_up (a : Nat) : a * 2 ^ 30 = 4 * (a * 2 ^ 28) := by
  rw [Nat.mul_left_comm, show 4 * 2 ^ 28 = 2 ^ 30 from by decide]

/-- A root rounded to a double and then to a single is the root rounded to a single. -/
theorem double_round {n w r st : Nat} (h1 : 2 ^ 48 ≤ n) (h2 : n < 2 ^ 50) (hev : n % 2 = 0) (hw : w * w ≤ n * 2 ^ 60) (hw2 : n * 2 ^ 60 < (w + 1) * (w + 1))
    (hr : r * r ≤ n) (hr2 : n < (r + 1) * (r + 1)) (hst : st ≤ 1) :
    2 ^ 52 ≤ Toward.even.cut false (2 * w + st) 3 ∧ Toward.even.cut false (2 * w + st) 3 ≤ 2 ^ 53 ∧
    Toward.even.cut false (Toward.even.cut false (2 * w + st) 3) 29 = evenRoot n r / 2 ∧ 2 ^ 24 ≤ evenRoot n r ∧ evenRoot n r ≤ 2 ^ 25 ∧ evenRoot n r % 2 = 0 ∧ 2 ^ 54 ≤ w ∧ w < 2 ^ 55 := by
  obtain ⟨g, hg⟩ : ∃ g, r - r % 2 = 2 * g := ⟨(r - r % 2) / 2, by omega⟩
  obtain ⟨hwlo, hwhi, hrlo, hrhi, hwe, hwe2, hc1, hc2⟩ := root_bounds h1 h2 hev hw hw2 hr hr2 hg
  unfold evenRoot
  rw [hg]
  by_cases hcmp : (2 * g + 1) * (2 * g + 1) < n
  · have hw3 := hc1 hcmp
    rw [if_pos hcmp]
    clear hc1 hc2 hcmp hw hw2 hr hr2 h1 h2 hev
    have hl3 : 3 ≤ (2 * w + st).log2 + 2 := by
      have : 1 ≤ (2 * w + st).log2 := (Nat.le_log2 (by omega)).2 (by omega)
      omega
    have hK := third_of (Format.cut_even false (2 * w + st) 3 hl3)
    generalize Toward.even.cut false (2 * w + st) 3 = K at hK
    have hl29 : 29 ≤ K.log2 + 2 := by
      have : 27 ≤ K.log2 := (Nat.le_log2 (by omega)).2 (by omega)
      omega
    rw [Format.cut_even false K 29 hl29, even_of (g := g) (lin1 (four_up _ ▸ hw3) hK.1) (lin2 (four_up _ ▸ hwe2) hst hK.2)]
    exact ⟨by omega, by omega, by omega, by omega, by omega, by omega, hwlo, hwhi⟩
  · have hw3 := hc2 hcmp
    rw [if_neg hcmp]
    clear hc1 hc2 hcmp hw hw2 hr hr2 h1 h2 hev
    have hl3 : 3 ≤ (2 * w + st).log2 + 2 := by
      have : 1 ≤ (2 * w + st).log2 := (Nat.le_log2 (by omega)).2 (by omega)
      omega
    have hK := third_of (Format.cut_even false (2 * w + st) 3 hl3)
    generalize Toward.even.cut false (2 * w + st) 3 = K at hK
    have hl29 : 29 ≤ K.log2 + 2 := by
      have : 27 ≤ K.log2 := (Nat.le_log2 (by omega)).2 (by omega)
      omega
    rw [Format.cut_even false K 29 hl29, odd_of (g := g) (lin3 (four_up _ ▸ hwe) hK.1) (lin4 (four_up _ ▸ hw3) hst hK.2)]
    exact ⟨by omega, by omega, by omega, by omega, by omega, by omega, hwlo, hwhi⟩

theorem log2_eq {n k : Nat} (h1 : 2 ^ k ≤ n) (h2 : n < 2 ^ (k + 1)) : n.log2 = k := by
  have := Format.log2_scaled (c := 0) h1 h2
  simpa using this

/-- The square root of a double, narrowed to a single: the even number next to the root, by whole squares.
    n * 4 ^ -k is the number. -/
theorem sqrt_narrow {y n r : Nat} {k : Int} (hk1 : -200 ≤ k) (hk2 : k ≤ 200) (hy : IsD y false (n * 2 ^ (1074 - 2 * k).toNat))
    (h1 : 2 ^ 48 ≤ n) (h2 : n < 2 ^ 50) (hev : n % 2 = 0) (hr : r * r ≤ n) (hr2 : n < (r + 1) * (r + 1)) (hk3 : k ≤ 148) (hk4 : -60 ≤ k) :
    ∃ z, double.sqrt y = some z ∧ z < 2 ^ 64 ∧ double.fin z ∧ single.write (double.read z) = single.word false ((150 - k).toNat * 2 ^ 23 + evenRoot n r / 2) ∧
      (double.read z).isNaN = false ∧ (double.read z).isInfinity = false := by
  obtain ⟨m, i, ry, li, uy⟩ := double.read_fin hy.fin
  rw [hy.neg] at ry
  rw [hy.units, double_lp] at uy
  rw [double_lp] at li
  have hm0 : m ≠ 0 := by
    intro h0
    subst h0
    have := Nat.mul_pos (show 0 < n by omega) (Nat.two_pow_pos (1074 - 2 * k).toNat)
    omega
  unfold Format.sqrt
  rw [ry]
  show ∃ z, ((Datum.number false m i).root 54).map double.write = some z ∧ _
  simp only [Datum.root]
  rw [if_neg hm0]
  simp only [Bool.false_eq_true, if_false, Option.map_some, Nat.shiftLeft_eq]
  -- how many digits more
  have hmore : ∃ more : Nat, 2 * 54 - m.log2 + ((i - ((2 * 54 - m.log2 : Nat) : Int)) % 2).toNat = more ∧ (i - (more : Int)) % 2 = 0 ∧ 2 * 54 - m.log2 ≤ more ∧ more ≤ 2 * 54 - m.log2 + 1 := by
    refine ⟨_, rfl, ?_, by omega, by omega⟩
    omega
  obtain ⟨more, emore, hpar, hm1, hm2⟩ := hmore
  rw [emore]
  -- the length of m
  have hml : m.log2 ≤ 108 := by
    have hmlt : m < 2 ^ 53 := by
      have hr := hy.fin
      unfold Format.fin at hr
      unfold Format.read at ry
      simp only at ry
      have hb : double.binade = 2 ^ 52 := rfl
      split at ry
      · rename_i hlt; injection ry with _ e _; rw [hb] at hlt; omega
      · split at ry
        · injection ry with _ e _
          have := Nat.mod_lt (y % double.signWeight) double.binade_pos
          rw [hb] at this e; omega
        · split at ry <;> cases ry
    have := (Nat.log2_lt hm0).2 (Nat.lt_of_lt_of_le hmlt (show 2 ^ 53 ≤ 2 ^ 109 by decide))
    omega
  have hmlog := Format.log2_scaled (c := more) (Nat.log2_self_le hm0) (Nat.lt_log2_self (n := m))
  have hlen : (m * 2 ^ more).log2 = 108 ∨ (m * 2 ^ more).log2 = 109 := by omega
  -- the radicand
  have hrad : m * 2 ^ more = n * 2 ^ 60 ∧ (1074 - 2 * k) + more - (i + 1074) = 60 := by
    have e1 : m * 2 ^ more * 2 ^ (i - -1074).toNat = n * 2 ^ ((1074 - 2 * k).toNat + more) := by
      rw [Nat.pow_add, ← Nat.mul_assoc, ← uy, Nat.mul_assoc, Nat.mul_assoc, Nat.mul_comm (2 ^ more)]
    have hn0 : n ≠ 0 := by omega
    have hnlog : n.log2 = 48 ∨ n.log2 = 49 := by
      have a := (Nat.le_log2 hn0).2 h1
      have b := (Nat.log2_lt hn0).2 h2
      omega
    have l1 := Format.log2_scaled (c := (i - -1074).toNat) (Nat.log2_self_le (show m * 2 ^ more ≠ 0 from Nat.mul_ne_zero hm0 (Nat.pos_iff_ne_zero.1 (Nat.two_pow_pos _)))) Nat.lt_log2_self
    have l2 := Format.log2_scaled (c := (1074 - 2 * k).toNat + more) (Nat.log2_self_le hn0) Nat.lt_log2_self
    rw [e1, l2] at l1
    have hd : (1074 - 2 * k) + more - (i + 1074) = 60 := by omega
    refine ⟨?_, hd⟩
    have e2 : (1074 - 2 * k).toNat + more = 60 + (i - -1074).toNat := by omega
    rw [e2, Nat.pow_add, ← Nat.mul_assoc] at e1
    exact Nat.mul_right_cancel (Nat.two_pow_pos _) e1
  obtain ⟨hrad, hplace⟩ := hrad
  rw [hrad]
  rw [hrad] at hlen
  have htodo : (n * 2 ^ 60).log2 / 2 + 1 = 55 := by omega
  rw [htodo]
  obtain ⟨hw, hw2⟩ := rootFrom_spec (n * 2 ^ 60) 55 0 (by simp) (by
    have : (0 + 2 ^ 55) * (0 + 2 ^ 55) = 2 ^ 50 * 2 ^ 60 := by decide
    rw [this]
    exact Nat.mul_lt_mul_of_pos_right h2 (by decide))
  generalize Datum.rootFrom (n * 2 ^ 60) 55 0 = w at hw hw2
  have hst : (w * w != n * 2 ^ 60).toNat ≤ 1 := Bool.toNat_le _
  generalize (w * w != n * 2 ^ 60).toNat = st at hst
  obtain ⟨hK1, hK2, hKK, hE1, hE2, hE3, hwlo, hwhi⟩ := double_round h1 h2 hev hw hw2 hr hr2 hst
  -- the place
  have hpl : (i - (more : Int)) / 2 - 1 = -k - 31 := by omega
  rw [hpl]
  -- the double
  have hz : double.write (.number false (2 * w + st) (-k - 31)) = double.word false (((-k - 28) + 1074).toNat * 2 ^ 52 + Toward.even.cut false (2 * w + st) 3) := by
    show double.nearest _ _ _ = _
    unfold Format.nearest
    rw [if_neg (by omega), log2_eq (show 2 ^ 55 ≤ 2 * w + st by omega) (show 2 * w + st < 2 ^ (55 + 1) by omega), double_lp]
    rw [show double.fractionBits = 52 from rfl]
    rw [show max (-k - 31 + ((55 : Nat) : Int) - ((52 : Nat) : Int)) (-1074) = -k - 28 from by omega]
    simp only
    rw [show (-k - 31 - (-k - 28)).toNat = 0 from by omega, show (-k - 28 - (-k - 31)).toNat = 3 from by omega, Nat.shiftLeft_zero]
    rw [show (-k - 28 - -1074).toNat = ((-k - 28) + 1074).toNat from by omega]
    congr 1
    refine Nat.min_eq_left ?_
    show _ * 2 ^ 52 + _ ≤ (2 ^ 11 - 1) * 2 ^ 52
    omega
  rw [hz]
  generalize Toward.even.cut false (2 * w + st) 3 = K at hK1 hK2 hKK
  have hR : ((-k - 28) + 1074).toNat * 2 ^ 52 + K < double.infRung := by
    have hl : (-k - 28 + 1074).toNat ≤ 1246 := by omega
    show _ < 2047 * 2 ^ 52
    generalize (-k - 28 + 1074).toNat = l at hl
    clear hw hw2 hr hr2 hrad
    omega
  have hd := IsD.word (s := false) hR
  have hu : double.units (((-k - 28) + 1074).toNat * 2 ^ 52 + K) = K * 2 ^ (-k + 1046).toNat := by
    have hb : double.binade = 2 ^ 52 := rfl
    rw [show (-k - 28 + 1074).toNat = (-k + 1046).toNat from by omega]
    have hl : 1 ≤ (-k + 1046).toNat := by omega
    generalize (-k + 1046).toNat = l at hl
    unfold Format.units
    rw [hb, if_neg (by omega)]
    rcases Nat.lt_or_ge K (2 ^ 53) with hlt | hge
    · have e1 : (l * 2 ^ 52 + K) % 2 ^ 52 = K - 2 ^ 52 := by omega
      have e2 : (l * 2 ^ 52 + K) / 2 ^ 52 = l + 1 := by omega
      rw [e1, e2, show 2 ^ 52 + (K - 2 ^ 52) = K from by omega, Nat.add_sub_cancel]
    · have e0 : K = 2 ^ 53 := by omega
      have e1 : (l * 2 ^ 52 + K) % 2 ^ 52 = 0 := by omega
      have e2 : (l * 2 ^ 52 + K) / 2 ^ 52 = l + 2 := by omega
      rw [e1, e2, e0, show l + 2 - 1 = l + 1 from rfl, Nat.pow_succ 2 l]
      omega
  rw [hu] at hd
  refine ⟨_, rfl, hd.lt, hd.fin, ?_, ?_⟩
  · obtain ⟨m', i', rz, lz, uz⟩ := double.read_fin hd.fin
    rw [hd.neg] at rz
    rw [hd.units, double_lp] at uz
    rw [double_lp] at lz
    rw [rz]
    show single.nearest _ _ _ = _
    rw [single.nearest_at false m' lz, uz]
    rw [show (1046 : Int) = (-28) + 1074 from rfl] 
    have e : (-k + (-28 + 1074)).toNat = ((-k - 28) - -1074).toNat := by omega
    rw [e, ← single.nearest_at false K (show -1074 ≤ -k - 28 by omega)]
    unfold Format.nearest
    rw [if_neg (by omega), single_lp]
    rw [show single.fractionBits = 23 from rfl]
    rcases Nat.lt_or_ge K (2 ^ 53) with hlt | hge
    · rw [log2_eq hK1 hlt]
      rw [show max (-k - 28 + ((52 : Nat) : Int) - ((23 : Nat) : Int)) (-149) = -k + 1 from by omega]
      simp only
      rw [show (-k - 28 - (-k + 1)).toNat = 0 from by omega, show (-k + 1 - (-k - 28)).toNat = 29 from by omega, Nat.shiftLeft_zero, hKK]
      rw [show (-k + 1 - -149).toNat = (150 - k).toNat from by omega]
      congr 1
      refine Nat.min_eq_left ?_
      show _ * 2 ^ 23 + _ ≤ (2 ^ 8 - 1) * 2 ^ 23
      omega
    · have e0 : K = 2 ^ 53 := by omega
      subst e0
      rw [show (2 ^ 53 : Nat).log2 = 53 from Nat.log2_two_pow]
      rw [show max (-k - 28 + ((53 : Nat) : Int) - ((23 : Nat) : Int)) (-149) = -k + 2 from by omega]
      simp only
      rw [show (-k - 28 - (-k + 2)).toNat = 0 from by omega, show (-k + 2 - (-k - 28)).toNat = 30 from by omega, Nat.shiftLeft_zero]
      have c1 : Toward.even.cut false (2 ^ 53) 30 = 2 ^ 23 := Format.cut_exact false _ _ _ (by decide)
      have c2 : Toward.even.cut false (2 ^ 53) 29 = 2 ^ 24 := Format.cut_exact false _ _ _ (by decide)
      rw [c1, show (-k + 2 - -149).toNat = (150 - k).toNat + 1 from by omega]
      rw [c2] at hKK
      rw [← hKK]
      refine congrArg (single.word false) ?_
      rw [Nat.min_eq_left]
      · clear hw hw2 hr hr2 hrad
        show ((150 - k).toNat + 1) * 2 ^ 23 + 2 ^ 23 = (150 - k).toNat * 2 ^ 23 + 2 ^ 24
        simp only [Nat.reducePow]
        omega
      · clear hw hw2 hr hr2 hrad
        show ((150 - k).toNat + 1) * 2 ^ 23 + 2 ^ 23 ≤ 255 * 2 ^ 23
        simp only [Nat.reducePow]
        omega
  · obtain ⟨m', i', rz, _⟩ := double.read_fin hd.fin
    rw [rz]; exact ⟨rfl, rfl⟩

end Ieee
