/- Plain law: texts of numbers in base 16: what is read, what is written, and that these go there and back. -/
import Derived.Test.YtobhhopfimnknaaDoorXa
namespace Go.Hex

/-- The digit that a byte is. -/
def hexd (c : UInt8) : Option Nat :=
  if 48 ≤ c.toNat ∧ c.toNat ≤ 57 then some (c.toNat - 48) else if 97 ≤ c.toNat ∧ c.toNat ≤ 102 then some (c.toNat - 87) else none
/-- The number of some digits behind a number. -/
def hexv : Nat → List UInt8 → Option Nat
  | n, [] => some n
  | n, c :: r => match hexd c with
    | some d => hexv (16 * n + d) r
    | none => none
def neg (l : List UInt8) : Bool := l.head? == some 45
def digits (l : List UInt8) : List UInt8 := if neg l then l.tail else l
def bad (l : List UInt8) : Prop := (digits l).length = 0 ∨ 8 < (digits l).length ∨ ((digits l).head? = some 48 ∧ l ≠ [48])
instance (l : List UInt8) : Decidable (bad l) := by unfold bad; infer_instance
/-- The place that a text tells. -/
def seen (l : List UInt8) : Option Int :=
  if bad l then none else
  match hexv 0 (digits l) with
  | none => none
  | some n => if 2139095039 < n then none else some (if neg l then -(n : Int) else (n : Int))

def dig (d : Nat) : UInt8 := if d < 10 then UInt8.ofNat (48 + d) else UInt8.ofNat (87 + d)
def hexg : Nat → Nat → List UInt8
  | 0, n => [dig (n % 16)]
  | k + 1, n => if n < 16 then [dig n] else hexg k (n / 16) ++ [dig (n % 16)]
def hexs (n : Nat) : List UInt8 := hexg n n
/-- The text of a place. -/
def fmt (v : Int) : List UInt8 := if v < 0 then 45 :: hexs v.natAbs else hexs v.natAbs

theorem hexg_eq : ∀ k k' n : Nat, n ≤ k → n ≤ k' → hexg k n = hexg k' n
  | 0, 0, _, _, _ => rfl
  | 0, k' + 1, n, h, _ => by
    obtain rfl : n = 0 := by omega
    rfl
  | k + 1, 0, n, _, h => by
    obtain rfl : n = 0 := by omega
    rfl
  | k + 1, k' + 1, n, h, h' => by
    simp only [hexg]
    split
    · rfl
    · rw [hexg_eq k k' (n / 16) (by omega) (by omega)]
theorem hexs_small {n : Nat} (h : n < 16) : hexs n = [dig n] := by
  unfold hexs
  cases n with
  | zero => rfl
  | succ m => simp only [hexg]; rw [if_pos h]
theorem hexs_big {n : Nat} (h : 16 ≤ n) : hexs n = hexs (n / 16) ++ [dig (n % 16)] := by
  obtain ⟨m, rfl⟩ : ∃ m, n = m + 1 := ⟨n - 1, by omega⟩
  unfold hexs
  rw [hexg_eq ((m + 1) / 16) m ((m + 1) / 16) (Nat.le_refl _) (by omega)]
  simp only [hexg]
  rw [if_neg (by omega)]
theorem hexd_dig : ∀ d, d < 16 → hexd (dig d) = some d := by decide
theorem dig_ne45 : ∀ d, d < 16 → dig d ≠ 45 := by decide
theorem dig_ne48 : ∀ d, d < 16 → 0 < d → dig d ≠ 48 := by decide
theorem dig_nat : ∀ d, d < 16 → (dig d).toNat = if d < 10 then 48 + d else 87 + d := by decide
theorem hexd_lt {c : UInt8} {d : Nat} (h : hexd c = some d) : d < 16 := by
  unfold hexd at h
  split at h
  · cases h; omega
  · split at h
    · cases h; omega
    · cases h
theorem dig_hexd {c : UInt8} {d : Nat} (h : hexd c = some d) : dig d = c := by
  have hd := hexd_lt h
  have e := dig_nat d hd
  refine UInt8.toNat_inj.1 ?_
  rw [e]
  unfold hexd at h
  split at h
  · cases h; split <;> omega
  · split at h
    · cases h; split <;> omega
    · cases h
theorem hexv_append (l : List UInt8) (c : UInt8) : ∀ n, hexv n (l ++ [c]) = match hexv n l with
    | some m => match hexd c with | some d => some (16 * m + d) | none => none
    | none => none := by
  induction l with
  | nil => intro n; simp only [List.nil_append, hexv]
  | cons b r ih =>
    intro n
    simp only [List.cons_append, hexv]
    cases hexd b with
    | none => rfl
    | some d => exact ih _
theorem hexv_le {l : List UInt8} : ∀ {n m}, hexv n l = some m → n ≤ m := by
  induction l with
  | nil => intro n m h; cases h; omega
  | cons b r ih =>
    intro n m h
    simp only [hexv] at h
    cases hd : hexd b with
    | none => rw [hd] at h; cases h
    | some d => rw [hd] at h; have := ih h; omega
theorem hexv_hexs (n : Nat) : hexv 0 (hexs n) = some n := by
  induction n using Nat.strongRecOn with
  | _ n ih =>
    by_cases h : n < 16
    · rw [hexs_small h]
      simp only [hexv, hexd_dig n h]
      simp
    · rw [hexs_big (by omega), hexv_append, ih (n / 16) (by omega)]
      simp only [hexd_dig (n % 16) (by omega)]
      rw [Nat.div_add_mod]
theorem hexs_head (n : Nat) : ∃ d r, hexs n = dig d :: r ∧ d < 16 ∧ (0 < n → 0 < d) ∧ (n < 16 → r = []) := by
  induction n using Nat.strongRecOn with
  | _ n ih =>
    by_cases h : n < 16
    · exact ⟨n, [], hexs_small h, h, id, fun _ => rfl⟩
    · obtain ⟨d, r, h1, h2, h3, _⟩ := ih (n / 16) (by omega)
      rw [hexs_big (by omega), h1]
      exact ⟨d, r ++ [dig (n % 16)], rfl, h2, fun _ => h3 (by omega), fun h' => absurd h' h⟩
theorem hexs_length {k : Nat} : ∀ {n}, n < 16 ^ (k + 1) → (hexs n).length ≤ k + 1 := by
  induction k with
  | zero => intro n h; rw [hexs_small (by simpa using h)]; simp
  | succ k ih =>
    intro n h
    by_cases h16 : n < 16
    · rw [hexs_small h16]; simp
    · rw [hexs_big (by omega), List.length_append]
      have := ih (n := n / 16) (by rw [Nat.pow_succ] at h; omega)
      simp only [List.length_singleton]
      omega

theorem seen_fmt {v : Int} (h0 : -2139095039 ≤ v) (h1 : v ≤ 2139095039) : seen (fmt v) = some v := by
  obtain ⟨d, r, hh, hd, hp, hs⟩ := hexs_head v.natAbs
  have hv := hexv_hexs v.natAbs
  have hl := hexs_length (k := 7) (n := v.natAbs) (by omega)
  have n45 : dig d ≠ 45 := dig_ne45 d hd
  by_cases h : v < 0
  · have n48 := dig_ne48 d hd (hp (by omega))
    have e : fmt v = 45 :: hexs v.natAbs := by unfold fmt; rw [if_pos h]
    have en : neg (fmt v) = true := by rw [e]; rfl
    have ed : digits (fmt v) = hexs v.natAbs := by unfold digits; rw [en, e]; rfl
    have hb : ¬ bad (fmt v) := by
      unfold bad
      rw [ed, hh]
      rw [hh] at hl
      simp only [List.length_cons, List.head?_cons, Option.some.injEq] at hl ⊢
      rintro (h' | h' | ⟨h', _⟩)
      · omega
      · omega
      · exact n48 h'
    unfold seen
    rw [if_neg hb, ed, hv, en]
    simp only [if_true]
    rw [if_neg (by omega)]
    congr 1
    omega
  · have e : fmt v = hexs v.natAbs := by unfold fmt; rw [if_neg h]
    have en : neg (fmt v) = false := by
      rw [e, hh]
      unfold neg
      simp [n45]
    have ed : digits (fmt v) = hexs v.natAbs := by unfold digits; rw [en, e]; rfl
    have hb : ¬ bad (fmt v) := by
      unfold bad
      rw [ed, e, hh]
      rw [hh] at hl
      simp only [List.length_cons, List.head?_cons, Option.some.injEq] at hl ⊢
      rintro (h' | h' | ⟨h', h''⟩)
      · omega
      · omega
      · by_cases hv0 : 0 < v.natAbs
        · exact dig_ne48 d hd (hp hv0) h'
        · exact h'' (by rw [hs (by omega), h'])
    unfold seen
    rw [if_neg hb, ed, hv, en]
    simp only [Bool.false_eq_true, if_false]
    rw [if_neg (by omega)]
    congr 1
    omega

theorem hexs_of (k : Nat) : ∀ (l : List UInt8) (n : Nat), l.length = k + 1 → hexv 0 l = some n → l.head? ≠ some 48 → hexs n = l ∧ 0 < n := by
  induction k with
  | zero =>
    intro l n hl hv h48
    match l, hl with
    | [c], _ =>
      simp only [hexv] at hv
      cases hd : hexd c with
      | none => rw [hd] at hv; cases hv
      | some d =>
        rw [hd] at hv
        simp at hv
        subst hv
        have hlt := hexd_lt hd
        have hc := dig_hexd hd
        refine ⟨by rw [hexs_small hlt, hc], ?_⟩
        rcases Nat.eq_zero_or_pos d with h0 | h0
        · subst h0
          exact absurd (by rw [← hc]; rfl) h48
        · exact h0
  | succ k ih =>
    intro l n hl hv h48
    have hne : l ≠ [] := by intro h; rw [h] at hl; cases hl
    have hsplit := List.dropLast_concat_getLast hne
    rw [← hsplit, hexv_append] at hv
    have hlen : l.dropLast.length = k + 1 := by rw [List.length_dropLast]; omega
    cases hm : hexv 0 l.dropLast with
    | none => rw [hm] at hv; cases hv
    | some m =>
      rw [hm] at hv
      cases hd : hexd (l.getLast hne) with
      | none => rw [hd] at hv; cases hv
      | some d =>
        rw [hd] at hv
        simp at hv
        subst hv
        have hlt := hexd_lt hd
        have h48' : l.dropLast.head? ≠ some 48 := by
          match l, hl with
          | a :: b :: r, _ => simpa using h48
        obtain ⟨e1, e2⟩ := ih l.dropLast m hlen hm h48'
        refine ⟨?_, by omega⟩
        rw [hexs_big (by omega), show (16 * m + d) / 16 = m from by omega, show (16 * m + d) % 16 = d from by omega, e1, dig_hexd hd, hsplit]

theorem fmt_seen {l : List UInt8} {p : Int} (h : seen l = some p) : fmt p = l ∧ -2139095039 ≤ p ∧ p ≤ 2139095039 := by
  unfold seen at h
  split at h
  · cases h
  · rename_i hb
    cases hv : hexv 0 (digits l) with
    | none => rw [hv] at h; cases h
    | some n =>
      rw [hv] at h
      simp only at h
      split at h
      · cases h
      · rename_i hn
        have hp := Option.some.inj h
        unfold bad at hb
        have hlen : (digits l).length ≠ 0 := fun h' => hb (.inl h')
        by_cases h48 : (digits l).head? = some 48
        · have hl : l = [48] := Classical.byContradiction fun h' => hb (.inr (.inr ⟨h48, h'⟩))
          subst hl
          have : n = 0 := by
            have e : hexv 0 (digits [48]) = some 0 := by decide
            rw [e] at hv
            exact (Option.some.inj hv).symm
          subst this
          have e : neg [48] = false := by decide
          rw [e] at hp
          subst hp
          refine ⟨?_, by decide, by decide⟩
          show fmt 0 = [48]
          unfold fmt
          rw [if_neg (by omega)]
          exact hexs_small (by decide)
        · obtain ⟨e1, e2⟩ := hexs_of ((digits l).length - 1) (digits l) n (by omega) hv h48
          cases hneg : neg l with
          | true =>
            rw [hneg, if_pos rfl] at hp
            subst hp
            refine ⟨?_, by omega, by omega⟩
            unfold fmt
            rw [if_pos (by omega), Int.natAbs_neg, Int.natAbs_natCast, e1]
            unfold digits
            rw [hneg, if_pos rfl]
            unfold neg at hneg
            match l, hneg with
            | a :: r, hneg =>
              simp at hneg
              rw [hneg]
              rfl
          | false =>
            rw [hneg, if_neg (by decide)] at hp
            subst hp
            refine ⟨?_, by omega, by omega⟩
            unfold fmt
            rw [if_neg (by omega), Int.natAbs_natCast, e1]
            unfold digits
            rw [hneg, if_neg (by decide)]

/-- What a text that tells a place is made of. -/
theorem seen_parts {l : List UInt8} {p : Int} (h : seen l = some p) : ∃ n : Nat, hexv 0 (digits l) = some n ∧ n ≤ 2139095039 ∧ p = (if neg l then -(n : Int) else (n : Int)) := by
  unfold seen at h
  split at h
  · cases h
  · cases hv : hexv 0 (digits l) with
    | none => rw [hv] at h; cases h
    | some n =>
      rw [hv] at h
      simp only at h
      split at h
      · cases h
      · exact ⟨n, rfl, by omega, (Option.some.inj h).symm⟩
end Go.Hex
