/- The whole root of a number below 2 ^ 50, digit by digit, as the reference finds it. -/
import Derived.Test.YtbojaddojhemeaaRt
namespace Go.Flt
open Ieee

/-- The digits from b on are still to be tried. -/
def Sq (n r b : Int) : Prop := ∃ t : Nat, t ≤ 25 ∧ b = ((2 ^ t / 2 : Nat) : Int) ∧ 0 ≤ r ∧ r * r ≤ n ∧ n < (r + ((2 ^ t : Nat) : Int)) * (r + ((2 ^ t : Nat) : Int))

theorem Sq.start {n : Int} (h0 : 0 ≤ n) (h : n < 2 ^ 50) : Sq n 0 16777216 :=
  ⟨25, by omega, rfl, by omega, by omega, by
    rw [show ((2 ^ 25 : Nat) : Int) = 33554432 from rfl]
    omega⟩

theorem sq_lt_int {a b : Int} (hb : 0 ≤ b) (h : a * a < b * b) : a < b := by
  rcases Int.lt_or_le a b with h' | h'
  · exact h'
  · have := Int.mul_le_mul h' h' hb (by omega : 0 ≤ a)
    omega

theorem Sq.bounds {n r b : Int} (hn : n < 2 ^ 50) (h : Sq n r b) : 0 ≤ r ∧ r < 33554432 ∧ 0 ≤ b ∧ b ≤ 16777216 ∧ 0 ≤ (r + b) * (r + b) ∧ (r + b) * (r + b) ≤ 4503599627370496 := by
  obtain ⟨t, ht, hb, h0, h1, _⟩ := h
  have hr : r < 33554432 := sq_lt_int (by omega) (by omega)
  have hp : 2 ^ t ≤ 2 ^ 25 := Nat.pow_le_pow_right (by omega) ht
  have hq : 2 ^ t / 2 ≤ 2 ^ 25 / 2 := Nat.div_le_div_right hp
  generalize 2 ^ t / 2 = q at hb hq
  have hb1 : 0 ≤ b := by omega
  have hb2 : b ≤ 16777216 := by omega
  refine ⟨h0, hr, hb1, hb2, Int.mul_nonneg (by omega) (by omega), ?_⟩
  have := Int.mul_le_mul (show r + b ≤ 67108864 by omega) (show r + b ≤ 67108864 by omega) (by omega) (by omega)
  omega

theorem Sq.pos {n r b : Int} (h : Sq n r b) (hb : 0 < b) : ∃ t : Nat, t ≤ 24 ∧ b = ((2 ^ t : Nat) : Int) ∧ b / 2 = ((2 ^ t / 2 : Nat) : Int) ∧ 0 ≤ r ∧ r * r ≤ n ∧ n < (r + b + b) * (r + b + b) := by
  obtain ⟨t, ht, hb', h0, h1, h2⟩ := h
  cases t with
  | zero => simp at hb'; omega
  | succ t =>
    have e : 2 ^ (t + 1) / 2 = 2 ^ t := by rw [Nat.pow_succ, Nat.mul_div_cancel _ (by omega)]
    rw [e] at hb'
    refine ⟨t, by omega, hb', ?_, h0, h1, ?_⟩
    · subst hb'; omega
    · have e2 : ((2 ^ (t + 1) : Nat) : Int) = b + b := by rw [hb', Nat.pow_succ]; omega
      rw [e2, ← Int.add_assoc] at h2
      exact h2
theorem Sq.take {n r b : Int} (h : Sq n r b) (hb : 0 < b) (hs : (r + b) * (r + b) ≤ n) : Sq n (r + b) (b / 2) := by
  obtain ⟨t, ht, hb', hb2, h0, h1, h2⟩ := h.pos hb
  exact ⟨t, by omega, hb2, by omega, hs, by rw [← hb']; exact h2⟩
theorem Sq.leave {n r b : Int} (h : Sq n r b) (hb : 0 < b) (hs : ¬ (r + b) * (r + b) ≤ n) : Sq n r (b / 2) := by
  obtain ⟨t, ht, hb', hb2, h0, h1, h2⟩ := h.pos hb
  exact ⟨t, by omega, hb2, h0, h1, by rw [← hb']; omega⟩
theorem Sq.done {n r b : Int} (h : Sq n r b) (hb : ¬ 0 < b) : r * r ≤ n ∧ n < (r + 1) * (r + 1) := by
  obtain ⟨t, ht, hb', h0, h1, h2⟩ := h
  have ht0 : t = 0 := by
    cases t with
    | zero => rfl
    | succ t =>
      have e : 2 ^ (t + 1) / 2 = 2 ^ t := by rw [Nat.pow_succ, Nat.mul_div_cancel _ (by omega)]
      rw [e] at hb'
      have := Nat.two_pow_pos t
      omega
  subst ht0
  exact ⟨h1, h2⟩

/-- The two ways to the even number next to the root. -/
theorem even_up {n r : Int} (h0 : 0 ≤ r) (hn : 0 ≤ n) (h : (r - r % 2 + 1) * (r - r % 2 + 1) < n) : r - r % 2 + 2 = ((evenRoot n.toNat r.toNat : Nat) : Int) := by
  obtain ⟨a, rfl⟩ := Int.eq_ofNat_of_zero_le h0
  obtain ⟨m, rfl⟩ := Int.eq_ofNat_of_zero_le hn
  rw [Int.toNat_natCast, Int.toNat_natCast]
  have e : (a : Int) - (a : Int) % 2 = ((a - a % 2 : Nat) : Int) := by omega
  rw [e] at h ⊢
  unfold evenRoot
  generalize a - a % 2 = g at h
  rw [if_pos (by
    have : (((g + 1) * (g + 1) : Nat) : Int) < (m : Int) := by rw [Int.natCast_mul, Int.natCast_add]; exact h
    exact Int.ofNat_lt.1 this)]
  rfl
theorem even_stay {n r : Int} (h0 : 0 ≤ r) (hn : 0 ≤ n) (h : ¬ (r - r % 2 + 1) * (r - r % 2 + 1) < n) : r - r % 2 = ((evenRoot n.toNat r.toNat : Nat) : Int) := by
  obtain ⟨a, rfl⟩ := Int.eq_ofNat_of_zero_le h0
  obtain ⟨m, rfl⟩ := Int.eq_ofNat_of_zero_le hn
  rw [Int.toNat_natCast, Int.toNat_natCast]
  have e : (a : Int) - (a : Int) % 2 = ((a - a % 2 : Nat) : Int) := by omega
  rw [e] at h ⊢
  unfold evenRoot
  generalize a - a % 2 = g at h
  rw [if_neg (by
    intro h'
    apply h
    have : (((g + 1) * (g + 1) : Nat) : Int) < (m : Int) := Int.ofNat_lt.2 h'
    rw [Int.natCast_mul, Int.natCast_add] at this
    exact this)]

/-- The start of the reference's way: a short number at a place. -/
theorem wid_short {x : Nat} (hx : single.fin x) (h0 : 0 < plc x) : ∃ M C : Nat, 0 < M ∧ M < 16777216 ∧ 900 ≤ C ∧ C ≤ 1180 ∧ IsD (wid x) false (M * 2 ^ C) := by
  obtain ⟨F, hF⟩ : ∃ F : Nat, F = 925 := ⟨_, rfl⟩
  obtain ⟨hp, hz⟩ := plc_nonneg (show ¬ plc x < 0 by omega)
  have hs : single.negb x = false := by
    cases hs : single.negb x
    · rfl
    · have := hz hs; omega
  have hw := wid_isD hx hF
  rw [hs] at hw
  obtain ⟨M, c, hM, hu, hc, _⟩ := single.units_short (single.rung x)
  have hb : single.binade = 8388608 := rfl
  have hfin : single.rung x < 2139095040 := hx
  rw [hb] at hM hc
  rw [hu, Nat.mul_assoc, ← Nat.pow_add] at hw
  refine ⟨M, c + F, ?_, by omega, by omega, by omega, hw⟩
  rcases Nat.eq_zero_or_pos M with h | h
  · rw [h, Nat.zero_mul] at hu
    have := single.units_eq_zero.1 hu
    omega
  · exact h

/-- On the way up: the number times 4 ^ j. -/
def Up (M C : Nat) (b : Nat) (k : Int) : Prop := ∃ j : Nat, k = j ∧ IsD b false (M * 2 ^ (C + 2 * j)) ∧ j ≤ 600 ∧ (0 < j → M * 2 ^ (C + 2 * j) < 2 ^ ((50 : Int) + 1074).toNat)
/-- On the way down, or arrived. -/
def Dn (M C : Nat) (b : Nat) (k : Int) : Prop := ∃ e : Nat, (e : Int) = C + 2 * k ∧ IsD b false (M * 2 ^ e) ∧ -600 ≤ k ∧ k ≤ 600 ∧ 2 ^ ((48 : Int) + 1074).toNat ≤ M * 2 ^ e ∧ (0 < k → M * 2 ^ e < 2 ^ ((50 : Int) + 1074).toNat)

theorem Up.start {M C b : Nat} (h : IsD b false (M * 2 ^ C)) : Up M C b 0 := ⟨0, rfl, h, by omega, by omega⟩
theorem Up.bounds {M C b : Nat} {k : Int} (h : Up M C b k) : 0 ≤ k ∧ k ≤ 600 := by obtain ⟨j, rfl, _, h, _⟩ := h; omega
theorem Up.step {M C b : Nat} {k : Int} (hM : M < 16777216) (hM0 : 0 < M) (hC : C ≤ 1180) (h : Up M C b k) (ht : (double.order b (pw 48) == some .lt) = true) :
    ∃ b', floatBits .mul .f64 b 4616189618054758400 = some b' ∧ Up M C b' (k + 1) := by
  obtain ⟨j, rfl, hd, hj, _⟩ := h
  rw [below_pw hd (by omega) (by omega), decide_eq_true_eq] at ht
  have hj2 : C + 2 * j < ((48 : Int) + 1074).toNat := by
    have : 2 ^ (C + 2 * j) ≤ M * 2 ^ (C + 2 * j) := Nat.le_mul_of_pos_left _ hM0
    exact (Nat.pow_lt_pow_iff_right (by omega : 1 < 2)).1 (Nat.lt_of_le_of_lt this ht)
  obtain ⟨b', hb', hd'⟩ := four_up hd hM (by omega)
  refine ⟨b', hb', j + 1, by omega, by rw [show C + 2 * (j + 1) = C + 2 * j + 2 from by omega]; exact hd', by omega, fun _ => ?_⟩
  rw [show C + 2 * (j + 1) = C + 2 * j + 2 from by omega, Nat.pow_add, ← Nat.mul_assoc, show ((50 : Int) + 1074).toNat = ((48 : Int) + 1074).toNat + 2 from rfl, Nat.pow_add 2 ((48 : Int) + 1074).toNat]
  exact Nat.mul_lt_mul_of_pos_right ht (by decide)
theorem Up.stop {M C b : Nat} {k : Int} (h : Up M C b k) (ht : (double.order b (pw 48) == some .lt) = false) : Dn M C b k := by
  obtain ⟨j, rfl, hd, hj, hlt⟩ := h
  rw [below_pw hd (by omega) (by omega), decide_eq_false_iff_not] at ht
  exact ⟨C + 2 * j, by omega, hd, by omega, by omega, by omega, fun h => hlt (by omega)⟩
theorem Dn.bounds {M C b : Nat} {k : Int} (h : Dn M C b k) : -600 ≤ k ∧ k ≤ 600 := by obtain ⟨e, _, _, h1, h2, _⟩ := h; omega
theorem Dn.step {M C b : Nat} {k : Int} (hM : M < 16777216) (hC : C ≤ 1180) (h : Dn M C b k) (ht : (double.order b (pw 50) == some .gt || double.order b (pw 50) == some .eq) = true) :
    ∃ b', floatBits .quo .f64 b 4616189618054758400 = some b' ∧ Dn M C b' (k - 1) := by
  obtain ⟨e, he, hd, h1, h2, hlo, hhi⟩ := h
  rw [from_pw hd (by omega) (by omega), decide_eq_true_eq] at ht
  have hk : ¬ 0 < k := fun h => by have := hhi h; omega
  have he2 : ((50 : Int) + 1074).toNat < e + 24 := by
    have a : M * 2 ^ e < 2 ^ 24 * 2 ^ e := Nat.mul_lt_mul_of_pos_right (by omega) (Nat.two_pow_pos e)
    rw [← Nat.pow_add] at a
    have := (Nat.pow_lt_pow_iff_right (by omega : 1 < 2)).1 (Nat.lt_of_le_of_lt ht a)
    omega
  obtain ⟨e', rfl⟩ : ∃ e', e = e' + 2 := ⟨e - 2, by omega⟩
  obtain ⟨b', hb', hd'⟩ := four_down hd hM (by omega)
  refine ⟨b', hb', e', by omega, hd', by omega, by omega, ?_, fun h => absurd h (by omega)⟩
  rw [Nat.pow_add, ← Nat.mul_assoc, show ((50 : Int) + 1074).toNat = ((48 : Int) + 1074).toNat + 2 from rfl, Nat.pow_add 2 ((48 : Int) + 1074).toNat] at ht
  exact Nat.le_of_mul_le_mul_right ht (by decide)
/-- Arrived: the whole number, and that it is rooted once its root is found. -/
theorem Dn.stop {M C b x : Nat} {k : Int} (hM : M < 16777216) (hC0 : 900 ≤ C) (hC : C ≤ 1180) (hx : IsD (wid x) false (M * 2 ^ C)) (h : Dn M C b k) (ht : (double.order b (pw 50) == some .gt || double.order b (pw 50) == some .eq) = false) :
    ∃ n : Int, floatToIntVal .f64 b .i64 = some n ∧ 0 ≤ n ∧ n < 2 ^ 50 ∧ -60 ≤ k ∧ k ≤ 148 ∧ ∀ r : Int, 0 ≤ r → r * r ≤ n → n < (r + 1) * (r + 1) → Rooted x n.toNat r.toNat k := by
  obtain ⟨E, hE⟩ : ∃ E : Nat, E = 1074 := ⟨_, rfl⟩
  obtain ⟨e, he, hd, h1, h2, hlo, hhi⟩ := h
  rw [from_pw hd (by omega) (by omega), decide_eq_false_iff_not] at ht
  have he2 : ((48 : Int) + 1074).toNat < e + 24 := by
    have a : M * 2 ^ e < 2 ^ 24 * 2 ^ e := Nat.mul_lt_mul_of_pos_right (by omega) (Nat.two_pow_pos e)
    rw [← Nat.pow_add] at a
    have := (Nat.pow_lt_pow_iff_right (by omega : 1 < 2)).1 (Nat.lt_of_le_of_lt hlo a)
    omega
  have hM0 : 0 < M := by
    rcases Nat.eq_zero_or_pos M with h | h
    · rw [h, Nat.zero_mul] at hlo
      have := Nat.two_pow_pos ((48 : Int) + 1074).toNat
      omega
    · exact h
  have he3 : e < ((50 : Int) + 1074).toNat := by
    have : 2 ^ e ≤ M * 2 ^ e := Nat.le_mul_of_pos_left _ hM0
    exact (Nat.pow_lt_pow_iff_right (by omega : 1 < 2)).1 (Nat.lt_of_le_of_lt this (by omega))
  obtain ⟨e', rfl⟩ : ∃ e', e = e' + 1 + E := ⟨e - E - 1, by omega⟩
  have hU : M * 2 ^ (e' + 1 + E) = M * 2 ^ (e' + 1) * 2 ^ E := by rw [Nat.pow_add, Nat.mul_assoc]
  rw [hU] at hd hlo ht
  have hp := Nat.two_pow_pos E
  have n1 : 2 ^ 48 ≤ M * 2 ^ (e' + 1) := by
    rw [show ((48 : Int) + 1074).toNat = 48 + E from by omega, Nat.pow_add] at hlo
    exact Nat.le_of_mul_le_mul_right hlo hp
  have n2 : M * 2 ^ (e' + 1) < 2 ^ 50 := by
    rw [show ((50 : Int) + 1074).toNat = 50 + E from by omega, Nat.pow_add] at ht
    exact Nat.lt_of_mul_lt_mul_right (Nat.not_le.1 ht)
  have n3 : M * 2 ^ (e' + 1) % 2 = 0 := by rw [Nat.pow_succ, ← Nat.mul_assoc, Nat.mul_mod_left]
  have hint := whole_int hE hd (by omega)
  have hback : M * 2 ^ (e' + 1) * 2 ^ (1074 - 2 * k).toNat = M * 2 ^ C := by
    rw [Nat.mul_assoc, ← Nat.pow_add]
    congr 2
    omega
  generalize M * 2 ^ (e' + 1) = n at *
  refine ⟨(n : Int), hint, by omega, by omega, by omega, by omega, fun r hr0 hr1 hr2 => ?_⟩
  obtain ⟨a, rfl⟩ := Int.eq_ofNat_of_zero_le hr0
  rw [Int.toNat_natCast, Int.toNat_natCast]
  refine ⟨n1, n2, n3, ?_, ?_, by omega, by omega, by rw [hback]; exact hx⟩
  · rw [← Int.natCast_mul] at hr1; exact Int.ofNat_le.1 hr1
  · have : ((n : Nat) : Int) < (((a + 1) * (a + 1) : Nat) : Int) := by rw [Int.natCast_mul, Int.natCast_add]; exact hr2
    exact Int.ofNat_lt.1 this
end Go.Flt
