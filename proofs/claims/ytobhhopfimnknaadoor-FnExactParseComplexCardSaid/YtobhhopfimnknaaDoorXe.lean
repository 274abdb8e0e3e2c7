/- Texts: a number with its sign read in base 16. -/
import Derived.Test.YtobhhopfimnknaaDoorXd
import Derived.Lib.IfaceNeq
import Derived.Lib.IfaceEq
import Derived.Lib.AtoiAllMem
import Derived.Lib.ItoaWalk
namespace Go.Hex
theorem seen_plus (r : List UInt8) : seen (43 :: r) = none := by
  unfold seen
  have e : digits (43 :: r) = 43 :: r := rfl
  rw [e]
  split
  · rfl
  · rfl
theorem seen_minus {r : List UInt8} {p : Int} (h : seen (45 :: r) = some p) : ∃ n : Nat, hexv 0 r = some n ∧ n ≤ 2139095039 ∧ p = -(n : Int) ∧ r ≠ [] := by
  obtain ⟨n, h1, h2, h3⟩ := seen_parts h
  refine ⟨n, h1, h2, h3, ?_⟩
  intro e
  subst e
  rw [show seen [45] = none by decide] at h
  cases h
theorem seen_plain {c : UInt8} {r : List UInt8} {p : Int} (hc : c ≠ 45) (h : seen (c :: r) = some p) : ∃ n : Nat, hexv 0 (c :: r) = some n ∧ n ≤ 2139095039 ∧ p = (n : Int) := by
  have en : neg (c :: r) = false := by unfold neg; simp [hc]
  have ed : digits (c :: r) = c :: r := by unfold digits; rw [en]; rfl
  obtain ⟨n, h1, h2, h3⟩ := seen_parts h
  rw [ed] at h1
  rw [en] at h3
  exact ⟨n, h1, h2, h3⟩
end Go.Hex
namespace Go.Proofs.YtobhhopfimnknaaDoor
open Ieee Go.Flt Go.RowKit Go.Hex

set_option maxRecDepth 100000 in
theorem parseUint16_any (t : ByteArray) (hmax : t.size ≤ 9223372036854775806) (w : World) :
    Calls Tryd.prog 33 #[.string t, .int .i64 16, .int .i64 64] w fun e w' => ∃ (u : Int) (er : Value), e = .returned (.tuple #[.int .u64 u, er]) ∧ 0 ≤ u ∧ u < 18446744073709551616 ∧ ErrOk er ∧ (∀ N, t.size ≠ 0 → hexv 0 t.data.toList = some N → N < 4294967296 → u = N ∧ er = .nilIface) ∧ Below w.heap.size w w' := by
  by_cases hne : t.size = 0
  · have ht : t = ⟨#[]⟩ := by
      have : t.data = #[] := Array.eq_empty_of_size_eq_zero hne
      cases t
      simp at this
      rw [this]
    subst ht
    go_enter Tryd.func33, Tryd.ntmps33
    go_wp2
    go_ret2
    exact ⟨_, _, rfl, by omega, by omega, .inr (.inr rfl), fun N h => absurd rfl h, Below.refl _ _⟩
  · exact (parseUint16 t hne hmax w).mono fun e w' ⟨u, er, h1, h2, h3, h4, h5, h6⟩ => ⟨u, er, h1, h2, h3, h4, fun N _ => h5 N, h6 ▸ Lib.bytesWorld_below _ _ _⟩

set_option maxHeartbeats 32000000 in
set_option maxRecDepth 100000 in
theorem parseInt16 (s : ByteArray) (hmax : s.size ≤ 9223372036854775806) (w : World) :
    Calls Tryd.prog 24 #[.string s, .int .i64 16, .int .i64 64] w fun e w' => ∃ (v : Int) (er : Value), e = .returned (.tuple #[.int .i64 v, er]) ∧ -9223372036854775808 ≤ v ∧ v ≤ 9223372036854775807 ∧ ErrOk er ∧ (∀ p, Hex.seen s.data.toList = some p → v = p ∧ er = .nilIface) ∧ Below w.heap.size w w' := by
  by_cases hne : s.size = 0
  · have ht : s = ⟨#[]⟩ := by
      have : s.data = #[] := Array.eq_empty_of_size_eq_zero hne
      cases s
      simp at this
      rw [this]
    subst ht
    go_enter Tryd.func24, Tryd.ntmps24
    go_wp2
    go_ret2
    refine ⟨_, _, rfl, by omega, by omega, .inr (.inr rfl), ?_, Below.refl _ _⟩
    intro p h
    rw [show Hex.seen [] = none by decide] at h
    cases h
  have hemp : s.toList.isEmpty = false := by
    rw [← decide_eq_emptyBytes]
    exact decide_eq_false (fun h => hne (by rw [h]; rfl))
  have hpos : 0 < s.size := by omega
  obtain ⟨c0, r, hL⟩ : ∃ c0 r, s.data.toList = c0 :: r := by
    cases h : s.data.toList with
    | nil => exact absurd (by rw [Lib.size_eq, h]; rfl) hne
    | cons c0 r => exact ⟨c0, r, rfl⟩
  have hsz : s.size = r.length + 1 := by rw [Lib.size_eq, hL]; rfl
  have hs0 : s[0]'hpos = c0 := by have := Lib.getD_at s 0 hpos; rw [hL] at this; exact this
  have hq2 : ∀ W, (binOp .neq 42 (.iface 56 (.int .i64 2)) (.iface 56 (.int .i64 1))).run Tryd.prog W = .ok (.bool true) W := fun W => Lib.run_neq_iface_int W 2 1 Tryd.underlying42 (by kernel_rfl) Tryd.underlying56
  have hq1 : ∀ W, (binOp .neq 42 (.iface 56 (.int .i64 1)) (.iface 56 (.int .i64 1))).run Tryd.prog W = .ok (.bool false) W := fun W => Lib.run_neq_iface_int W 1 1 Tryd.underlying42 (by kernel_rfl) Tryd.underlying56
  have hmin : wrap64 (-wrap64 9223372036854775808) = -9223372036854775808 := by
    unfold wrap64
    omega
  rw [hL]
  by_cases h43 : c0 = 43
  · subst h43
    have hsl : ∀ W, (Instr.slice 9 (.string s) (some (.int .i64 1)) none none).run Tryd.prog W = .ok (.string (s.extract 1 s.size)) W := fun W => by
      rw [run_slice_string_from_if W 9 s .i64 _ Tryd.underlying9, if_pos ⟨by omega, by omega⟩]
      rfl
    have htl : (s.extract 1 s.size).data.toList = r := by
      rw [Lib.extract_data, hL, List.drop_succ_cons, List.drop_zero, List.take_of_length_le (by omega)]
    have hts : (s.extract 1 s.size).size = s.size - 1 := by rw [Lib.size_eq, htl]; omega
    generalize s.extract 1 s.size = t at hsl htl hts
    have hU := parseUint16_any t (by omega) w
    rw [htl] at hU
    clear hL
    go_enter Tryd.func24, Tryd.ntmps24
    go_wp2_with (go_at_call 33; (with_reducible refine hU.mono ?_); rintro e w1 ⟨u, er, rfl, u0, u1, hE, hX, hB⟩; have hB := Lib.hid hB; have hX := Lib.hid hX; rcases hE with rfl | rfl | rfl)
    all_goals go_ret2
    all_goals refine ⟨_, _, rfl, (by first | omega | (unfold wrap64; omega)), (by first | omega | (unfold wrap64; omega)), (by first | exact .inl rfl | exact .inr (.inl rfl) | exact .inr (.inr rfl)), fun p hp => ?_, hB.out⟩
    all_goals (rw [seen_plus] at hp; cases hp)
  by_cases h45 : c0 = 45
  · subst h45
    have hsl : ∀ W, (Instr.slice 9 (.string s) (some (.int .i64 1)) none none).run Tryd.prog W = .ok (.string (s.extract 1 s.size)) W := fun W => by
      rw [run_slice_string_from_if W 9 s .i64 _ Tryd.underlying9, if_pos ⟨by omega, by omega⟩]
      rfl
    have htl : (s.extract 1 s.size).data.toList = r := by
      rw [Lib.extract_data, hL, List.drop_succ_cons, List.drop_zero, List.take_of_length_le (by omega)]
    have hts : (s.extract 1 s.size).size = s.size - 1 := by rw [Lib.size_eq, htl]; omega
    generalize s.extract 1 s.size = t at hsl htl hts
    have hU := parseUint16_any t (by omega) w
    rw [htl] at hU
    clear hL
    go_enter Tryd.func24, Tryd.ntmps24
    go_wp2_with (go_at_call 33; (with_reducible refine hU.mono ?_); rintro e w1 ⟨u, er, rfl, u0, u1, hE, hX, hB⟩; have hB := Lib.hid hB; have hX := Lib.hid hX; rcases hE with rfl | rfl | rfl)
    all_goals go_ret2
    all_goals refine ⟨_, _, rfl, (by first | omega | (unfold wrap64; omega)), (by first | omega | (unfold wrap64; omega)), (by first | exact .inl rfl | exact .inr (.inl rfl) | exact .inr (.inr rfl)), fun p hp => ?_, hB.out⟩
    all_goals obtain ⟨n, hv, hn, rfl, hr⟩ := seen_minus hp
    all_goals have ht0 : t.size ≠ 0 := (by rw [Lib.size_eq, htl]; cases r with | nil => exact absurd rfl hr | cons a b => simp)
    all_goals (obtain ⟨e1, e2⟩ := hX.out n ht0 hv (by omega); first | (cases e2; done) | exact ⟨by first | omega | (unfold wrap64; omega), rfl⟩ | (exfalso; omega))
  · have n43 : c0.toNat ≠ 43 := fun h => h43 (UInt8.toNat_inj.1 h)
    have n45 : c0.toNat ≠ 45 := fun h => h45 (UInt8.toNat_inj.1 h)
    have i43 : ¬ (c0.toNat : Int) = 43 := by omega
    have i45 : ¬ (c0.toNat : Int) = 45 := by omega
    have hU := parseUint16_any s hmax w
    rw [hL] at hU
    clear hL
    go_enter Tryd.func24, Tryd.ntmps24
    go_wp2_with (go_at_call 33; (with_reducible refine hU.mono ?_); rintro e w1 ⟨u, er, rfl, u0, u1, hE, hX, hB⟩; have hB := Lib.hid hB; have hX := Lib.hid hX; rcases hE with rfl | rfl | rfl)
    all_goals go_ret2
    all_goals refine ⟨_, _, rfl, (by first | omega | (unfold wrap64; omega)), (by first | omega | (unfold wrap64; omega)), (by first | exact .inl rfl | exact .inr (.inl rfl) | exact .inr (.inr rfl)), fun p hp => ?_, hB.out⟩
    all_goals obtain ⟨n, hv, hn, rfl⟩ := seen_plain h45 hp
    all_goals (obtain ⟨e1, e2⟩ := hX.out n hne hv (by omega); first | (cases e2; done) | exact ⟨by first | omega | (unfold wrap64; omega), rfl⟩ | (exfalso; omega))
end Go.Proofs.YtobhhopfimnknaaDoor
