/- Texts: a number read, by the reference. -/
import Derived.Test.YtobhhopfimnknaaDoorXi
namespace Go.Hex
theorem hexv_lt {l : List UInt8} : ∀ {k : Nat} {n m : Nat}, n < 16 ^ k → hexv n l = some m → m < 16 ^ (k + l.length) := by
  induction l with
  | nil => intro k n m h hv; cases hv; exact h
  | cons c r ih =>
    intro k n m h hv
    simp only [hexv] at hv
    cases hd : hexd c with
    | none => rw [hd] at hv; cases hv
    | some d =>
      rw [hd] at hv
      have := hexd_lt hd
      have := ih (k := k + 1) (n := 16 * n + d) (by rw [Nat.pow_succ]; omega) hv
      rw [List.length_cons, show k + (r.length + 1) = k + 1 + r.length from by omega]
      exact this
theorem seen_bad {l : List UInt8} (h : bad l) : seen l = none := by unfold seen; rw [if_pos h]
theorem seen_of {l : List UInt8} (h : ¬ bad l) : seen l = match hexv 0 (digits l) with
    | none => none
    | some n => if 2139095039 < n then none else some (if neg l then -(n : Int) else (n : Int)) := by
  unfold seen
  rw [if_neg h]
  cases hexv 0 (digits l) <;> rfl
theorem eq45 {c : UInt8} (h : (c.toNat : Int) = 45) : c = 45 := UInt8.toNat_inj.1 (show c.toNat = 45 by omega)
theorem eq48 {c : UInt8} (h : (c.toNat : Int) = 48) : c = 48 := UInt8.toNat_inj.1 (show c.toNat = 48 by omega)
theorem step_digit {c : UInt8} {r : List UInt8} {a : Nat} (h0 : 48 ≤ c.toNat) (h1 : c.toNat ≤ 57) : hexv a (c :: r) = hexv (16 * a + (c.toNat - 48)) r := by
  simp only [hexv, hexd]
  rw [if_pos ⟨h0, h1⟩]
theorem step_letter {c : UInt8} {r : List UInt8} {a : Nat} (h0 : 97 ≤ c.toNat) (h1 : c.toNat ≤ 102) : hexv a (c :: r) = hexv (16 * a + (c.toNat - 87)) r := by
  simp only [hexv, hexd]
  rw [if_neg (by omega), if_pos ⟨h0, h1⟩]
theorem step_none {c : UInt8} {r : List UInt8} {a : Nat} (h0 : ¬ (48 ≤ c.toNat ∧ c.toNat ≤ 57)) (h1 : ¬ (97 ≤ c.toNat ∧ c.toNat ≤ 102)) : hexv a (c :: r) = none := by
  simp only [hexv, hexd]
  rw [if_neg h0, if_neg h1]
/-- What is known when k digits are read. -/
def At (ds : List UInt8) (k : Nat) (a : Int) : Prop := ∃ m : Nat, a = m ∧ hexv 0 ds = hexv m (ds.drop k) ∧ m < 16 ^ k
theorem At.start (ds : List UInt8) : At ds 0 0 := ⟨0, rfl, rfl, by decide⟩
theorem At.range {ds : List UInt8} {k : Nat} {a : Int} (h : At ds k a) (hk : k ≤ 8) : 0 ≤ a ∧ a < 4294967296 := by
  obtain ⟨m, rfl, _, h⟩ := h
  have : 16 ^ k ≤ 16 ^ 8 := Nat.pow_le_pow_right (by omega) hk
  omega
theorem At.range7 {ds : List UInt8} {k : Nat} {a : Int} (h : At ds k a) (hk : k ≤ 7) : 0 ≤ a ∧ a < 268435456 := by
  obtain ⟨m, rfl, _, h⟩ := h
  have : 16 ^ k ≤ 16 ^ 7 := Nat.pow_le_pow_right (by omega) hk
  omega
theorem At.digit {ds r : List UInt8} {c : UInt8} {k : Nat} {a : Int} (h : At ds k a) (hd : ds.drop k = c :: r) (hr : ds.drop (k + 1) = r) (h0 : 48 ≤ c.toNat) (h1 : c.toNat ≤ 57) : At ds (k + 1) (16 * a + ((c.toNat : Int) - 48)) := by
  obtain ⟨m, rfl, e, hm⟩ := h
  refine ⟨16 * m + (c.toNat - 48), by omega, by rw [e, hd, step_digit h0 h1, hr], by rw [Nat.pow_succ]; omega⟩
theorem At.letter {ds r : List UInt8} {c : UInt8} {k : Nat} {a : Int} (h : At ds k a) (hd : ds.drop k = c :: r) (hr : ds.drop (k + 1) = r) (h0 : 97 ≤ c.toNat) (h1 : c.toNat ≤ 102) : At ds (k + 1) (16 * a + ((c.toNat : Int) - 97) + 10) := by
  obtain ⟨m, rfl, e, hm⟩ := h
  refine ⟨16 * m + (c.toNat - 87), by omega, by rw [e, hd, step_letter h0 h1, hr], by rw [Nat.pow_succ]; omega⟩
theorem At.stuck {ds r : List UInt8} {c : UInt8} {k : Nat} {a : Int} (h : At ds k a) (hd : ds.drop k = c :: r) (h0 : ¬ (48 ≤ c.toNat ∧ c.toNat ≤ 57)) (h1 : ¬ (97 ≤ c.toNat ∧ c.toNat ≤ 102)) : hexv 0 ds = none := by
  obtain ⟨m, rfl, e, _⟩ := h
  rw [e, hd, step_none h0 h1]
theorem At.done {ds : List UInt8} {a : Int} (h : At ds ds.length a) : ∃ m : Nat, a = m ∧ hexv 0 ds = some m := by
  obtain ⟨m, rfl, e, _⟩ := h
  exact ⟨m, rfl, by rw [e, List.drop_length]; rfl⟩
end Go.Hex
namespace Go.Proofs.YtobhhopfimnknaaDoor
open Ieee Go.Flt Go.RowKit Go.Hex

theorem ret_none {l : List UInt8} (h : Hex.seen l = none) : Ending.returned (.tuple #[.float .f32 0, .bool false]) = Ending.returned (.tuple #[.float .f32 (nv l), .bool (Hex.seen l).isSome]) := by rw [nv_none h, h]; rfl
theorem ret_some {l : List UInt8} {p : Int} (h : Hex.seen l = some p) : Ending.returned (.tuple #[.float .f32 (sw p), .bool true]) = Ending.returned (.tuple #[.float .f32 (nv l), .bool (Hex.seen l).isSome]) := by rw [nv_some h, h]; rfl

set_option maxRecDepth 100000 in
set_option maxHeartbeats 6400000 in
theorem seen_neg (s : ByteArray) (hs : s.size ≤ 9223372036854775806) (r : List UInt8) (hL : s.data.toList = 45 :: r) (w : World) :
    Calls Tryd.prog 16 #[.string s] w fun e w' => e = .returned (.tuple #[.float .f32 (nv (45 :: r)), .bool (Hex.seen (45 :: r)).isSome]) ∧ w = w' := by
  have hpos : 0 < s.size := by rw [Lib.size_eq, hL]; simp
  have hs0 : s[0]'hpos = 45 := by have := Lib.getD_at s 0 hpos; rw [hL] at this; exact this
  have hsz : s.size = r.length + 1 := by rw [Lib.size_eq, hL]; rfl
  have hsl : ∀ W, (Instr.slice 9 (.string s) (some (.int .i64 1)) none none).run Tryd.prog W = .ok (.string (s.extract 1 s.size)) W := fun W => by
    rw [run_slice_string_from_if W 9 s .i64 _ Tryd.underlying9, if_pos ⟨by omega, by omega⟩]
    rfl
  have htl : (s.extract 1 s.size).data.toList = r := by
    rw [Lib.extract_data, hL, List.drop_succ_cons, List.drop_zero, List.take_of_length_le (by omega)]
  have hts : (s.extract 1 s.size).size = r.length := by rw [Lib.size_eq, htl]
  generalize s.extract 1 s.size = t at hsl htl hts
  have hne0 : (s.toList == [48]) = false := by rw [Lib.toList_data, hL]; rfl
  have ed : digits (45 :: r) = r := rfl
  have en : neg (45 :: r) = true := rfl
  have fa := l01Float_any
  have htr : r.length = t.size := hts.symm
  clear hts
  by_cases hb : bad (45 :: r)
  · have hn := seen_bad hb
    have hr := ret_none hn
    unfold bad at hb
    rw [ed] at hb
    rw [← hr]
    clear hr hn
    by_cases h0 : t.size = 0
    · clear hb
      go_enter Tryd.func16, Tryd.ntmps16
      go_wp2
      go_ret2
      exact ⟨rfl, rfl⟩
    · obtain ⟨d0, r', rfl⟩ : ∃ d0 r', r = d0 :: r' := by
        cases r with
        | nil => exact absurd (by rw [← htr]; rfl) h0
        | cons d0 r' => exact ⟨d0, r', rfl⟩
      have tpos : 0 < t.size := by omega
      have ht0 : t[0]'tpos = d0 := by have := Lib.getD_at t 0 tpos; rw [htl] at this; exact this
      by_cases h8 : 8 < t.size
      · clear hb
        go_enter Tryd.func16, Tryd.ntmps16
        go_wp2
        go_ret2
        exact ⟨rfl, rfl⟩
      · have h48 : (d0.toNat : Int) = 48 := by
          rcases hb with hb | hb | ⟨hb, _⟩
          · simp at hb
          · omega
          · simp at hb; rw [hb]; rfl
        clear hb
        go_enter Tryd.func16, Tryd.ntmps16
        go_wp2
        go_ret2
        exact ⟨rfl, rfl⟩
  · have hof := seen_of hb
    rw [ed, en] at hof
    unfold bad at hb
    rw [ed] at hb
    obtain ⟨d0, r', rfl⟩ : ∃ d0 r', r = d0 :: r' := by
      cases r with
      | nil => exact absurd (.inl rfl) hb
      | cons d0 r' => exact ⟨d0, r', rfl⟩
    have tpos : 0 < t.size := by rw [← htr]; simp
    have ht0 : t[0]'tpos = d0 := by have := Lib.getD_at t 0 tpos; rw [htl] at this; exact this
    have hz0 : ¬ t.size = 0 := by omega
    have h8 : t.size ≤ 8 := by
      rcases Nat.lt_or_ge 8 t.size with h | h
      · exact absurd (.inr (.inl (by omega))) hb
      · exact h
    have hz1 : ((t.size : Int) == 0) = false := beq_eq_false_iff_ne.2 (by omega)
    have hz2 : decide (8 < (t.size : Int)) = false := decide_eq_false (by omega)
    have h48 : ¬ (d0.toNat : Int) = 48 := fun h => hb (.inr (.inr ⟨by simp; exact eq48 h, by simp⟩))
    have h48b : ((d0.toNat : Int) == 48) = false := beq_eq_false_iff_ne.2 h48
    have HL : Hid (∀ k (h : k < t.size), t[k]'h = (d0 :: r').getD k 0) := Lib.hid fun k h => by rw [Lib.getD_at t k h, htl]
    obtain ⟨R, hR⟩ : ∃ R, R = (45 :: d0 :: r' : List UInt8) := ⟨_, rfl⟩
    rw [← hR] at hof ⊢
    obtain ⟨ds, hds⟩ : ∃ ds, ds = d0 :: r' := ⟨_, rfl⟩
    rw [← hds] at HL hof htr
    replace hof := Lib.hid hof
    clear hb hds hR htl hL ed en hsz
    go_enter Tryd.func16, Tryd.ntmps16
    go_wp2
    go_loop [6, 7] (fun vn vi => ∃ (k : Nat) (a : Int), vn = .int .i64 a ∧ vi = .int .i64 k ∧ k ≤ t.size ∧ Hid (At ds k a)) (fun _ vi => t.size - (intOf vi).toNat)
    case atStart => exact ⟨0, 0, rfl, rfl, by omega, Lib.hid (At.start ds)⟩
    case round =>
      obtain ⟨k, a, rfl, rfl, hk, hA⟩ := hrel
      by_cases hkn : k < t.size
      · obtain ⟨a0, a1⟩ := hA.out.range7 (by omega)
        have hdk := HL.out k hkn
        have hdrop : ds.drop k = ds[k]'(by omega) :: ds.drop (k + 1) := List.drop_eq_getElem_cons (by omega)
        have hget : ds.getD k 0 = ds[k]'(by omega) := by simp [List.getD, List.getElem?_eq_getElem (show k < ds.length by omega)]
        rw [hget] at hdk
        generalize ds[k]'(by omega) = c at hdk hdrop
        have hc256 : c.toNat < 256 := c.toNat_lt
        by_cases hdig : 48 ≤ c.toNat ∧ c.toNat ≤ 57
        · have hA2 := Lib.hid (hA.out.digit hdrop rfl hdig.1 hdig.2)
          obtain ⟨g0, g1⟩ := hdig
          clear hdrop hget hA
          go_wp2
          refine ⟨⟨k + 1, 16 * a + ((c.toNat : Int) - 48), rfl, rfl, by omega, hA2⟩, by simp [intOf]; omega⟩
        · by_cases hlet : 97 ≤ c.toNat ∧ c.toNat ≤ 102
          · have hA2 := Lib.hid (hA.out.letter hdrop rfl hlet.1 hlet.2)
            obtain ⟨g0, g1⟩ := hlet
            clear hdrop hget hA hdig
            go_wp2
            refine ⟨⟨k + 1, 16 * a + ((c.toNat : Int) - 97) + 10, rfl, rfl, by omega, hA2⟩, by simp [intOf]; omega⟩
          · have hsn : Hex.seen R = none := by
              have h := hof.out
              rw [hA.out.stuck hdrop hdig hlet] at h
              exact h
            have hr := Lib.hid (ret_none hsn)
            clear hsn hdrop hget hA hof
            go_wp2
            all_goals (go_ret2; exact ⟨hr.out, rfl⟩)
      · have hke : k = ds.length := by omega
        obtain ⟨a0, a1⟩ := hA.out.range (by omega)
        have hA := hA.out
        rw [hke] at hA
        obtain ⟨m, hm, hv⟩ := hA.done
        have hof := hof.out
        rw [hv] at hof
        dsimp only at hof
        by_cases hmax : 2139095039 < m
        · rw [if_pos hmax] at hof
          have hr := Lib.hid (ret_none hof)
          have hx : 2139095039 < a := by omega
          clear hof hA hv hm hmax hke
          go_wp2
          go_ret2
          exact ⟨hr.out, rfl⟩
        · rw [if_neg hmax] at hof
          rw [if_pos trivial, ← hm] at hof
          have hr := Lib.hid (ret_some hof)
          have hx : a ≤ 2139095039 := by omega
          clear hof hA hv hm hmax hke
          go_wp2_with (go_at_call 22; (with_reducible refine (fa _ (by omega) (by omega) _).mono ?_); rintro e w' ⟨rfl, rfl⟩)
          go_ret2
          exact ⟨hr.out, rfl⟩

set_option maxRecDepth 100000 in
set_option maxHeartbeats 6400000 in
theorem seen_pos (s : ByteArray) (hs : s.size ≤ 9223372036854775806) (c0 : UInt8) (r : List UInt8) (hc0 : c0 ≠ 45) (hL : s.data.toList = c0 :: r) (w : World) :
    Calls Tryd.prog 16 #[.string s] w fun e w' => e = .returned (.tuple #[.float .f32 (nv (c0 :: r)), .bool (Hex.seen (c0 :: r)).isSome]) ∧ w = w' := by
  have hpos : 0 < s.size := by rw [Lib.size_eq, hL]; simp
  have hs0 : s[0]'hpos = c0 := by have := Lib.getD_at s 0 hpos; rw [hL] at this; exact this
  have hsz : s.size = r.length + 1 := by rw [Lib.size_eq, hL]; rfl
  have n45 : ¬ (c0.toNat : Int) = 45 := fun h => hc0 (eq45 h)
  have en : neg (c0 :: r) = false := by unfold neg; simp [hc0]
  have ed : digits (c0 :: r) = c0 :: r := by unfold digits; rw [en]; rfl
  have fa := l01Float_any
  have hst : s.toList = c0 :: r := by rw [Lib.toList_data, hL]
  by_cases hb : bad (c0 :: r)
  · have hn := seen_bad hb
    have hr := ret_none hn
    unfold bad at hb
    rw [ed] at hb
    rw [← hr]
    clear hr hn
    by_cases h8 : 8 < s.size
    · clear hb
      go_enter Tryd.func16, Tryd.ntmps16
      go_wp2
      go_ret2
      exact ⟨rfl, rfl⟩
    · obtain ⟨h48, hne⟩ : (c0.toNat : Int) = 48 ∧ (s.toList == [48]) = false := by
        rcases hb with hb | hb | ⟨hb, hb'⟩
        · simp at hb
        · simp at hb; omega
        · simp at hb
          refine ⟨by rw [hb]; rfl, ?_⟩
          rw [hst]
          simpa using hb'
      clear hb hst
      go_enter Tryd.func16, Tryd.ntmps16
      go_wp2
      go_ret2
      exact ⟨rfl, rfl⟩
  · have hof := seen_of hb
    rw [ed, en] at hof
    unfold bad at hb
    rw [ed] at hb
    have hz0 : ¬ s.size = 0 := by omega
    have h8 : s.size ≤ 8 := by
      rcases Nat.lt_or_ge 8 s.size with h | h
      · exact absurd (.inr (.inl (by simp; omega))) hb
      · exact h
    have hz1 : ((s.size : Int) == 0) = false := beq_eq_false_iff_ne.2 (by omega)
    have hz2 : decide (8 < (s.size : Int)) = false := decide_eq_false (by omega)
    have h48 : (c0.toNat : Int) = 48 → (s.toList == [48]) = true := fun h => by
      rw [hst]
      refine Decidable.byContradiction fun h' => hb (.inr (.inr ⟨by simp; exact eq48 h, fun h'' => h' (by rw [h'']; rfl)⟩))
    have HL : Hid (∀ k (h : k < s.size), s[k]'h = (c0 :: r).getD k 0) := Lib.hid fun k h => by rw [Lib.getD_at s k h, hL]
    have htr : (c0 :: r).length = s.size := by rw [hsz]; rfl
    obtain ⟨ds, hds⟩ : ∃ ds, ds = c0 :: r := ⟨_, rfl⟩
    rw [← hds] at HL hof htr ⊢
    replace hof := Lib.hid hof
    clear hb hds hL ed en hsz hst
    by_cases h48' : (c0.toNat : Int) = 48
    · have hz := h48 h48'
      clear h48
      go_enter Tryd.func16, Tryd.ntmps16
      go_wp2
      go_loop [6, 7] (fun vn vi => ∃ (k : Nat) (a : Int), vn = .int .i64 a ∧ vi = .int .i64 k ∧ k ≤ s.size ∧ Hid (At ds k a)) (fun _ vi => s.size - (intOf vi).toNat)
      case atStart => exact ⟨0, 0, rfl, rfl, by omega, Lib.hid (At.start ds)⟩
      case round =>
        obtain ⟨k, a, rfl, rfl, hk, hA⟩ := hrel
        by_cases hkn : k < s.size
        · obtain ⟨a0, a1⟩ := hA.out.range7 (by omega)
          have hdk := HL.out k hkn
          have hdrop : ds.drop k = ds[k]'(by omega) :: ds.drop (k + 1) := List.drop_eq_getElem_cons (by omega)
          have hget : ds.getD k 0 = ds[k]'(by omega) := by simp [List.getD, List.getElem?_eq_getElem (show k < ds.length by omega)]
          rw [hget] at hdk
          generalize ds[k]'(by omega) = c at hdk hdrop
          have hc256 : c.toNat < 256 := c.toNat_lt
          by_cases hdig : 48 ≤ c.toNat ∧ c.toNat ≤ 57
          · have hA2 := Lib.hid (hA.out.digit hdrop rfl hdig.1 hdig.2)
            obtain ⟨g0, g1⟩ := hdig
            clear hdrop hget hA
            go_wp2
            refine ⟨⟨k + 1, 16 * a + ((c.toNat : Int) - 48), rfl, rfl, by omega, hA2⟩, by simp [intOf]; omega⟩
          · by_cases hlet : 97 ≤ c.toNat ∧ c.toNat ≤ 102
            · have hA2 := Lib.hid (hA.out.letter hdrop rfl hlet.1 hlet.2)
              obtain ⟨g0, g1⟩ := hlet
              clear hdrop hget hA hdig
              go_wp2
              refine ⟨⟨k + 1, 16 * a + ((c.toNat : Int) - 97) + 10, rfl, rfl, by omega, hA2⟩, by simp [intOf]; omega⟩
            · have hsn : Hex.seen ds = none := by
                have h := hof.out
                rw [hA.out.stuck hdrop hdig hlet] at h
                exact h
              have hr := Lib.hid (ret_none hsn)
              clear hsn hdrop hget hA hof
              go_wp2
              all_goals (go_ret2; exact ⟨hr.out, rfl⟩)
        · have hke : k = ds.length := by omega
          obtain ⟨a0, a1⟩ := hA.out.range (by omega)
          have hA := hA.out
          rw [hke] at hA
          obtain ⟨m, hm, hv⟩ := hA.done
          have hof := hof.out
          rw [hv] at hof
          dsimp only at hof
          by_cases hmax : 2139095039 < m
          · rw [if_pos hmax] at hof
            have hr := Lib.hid (ret_none hof)
            have hx : 2139095039 < a := by omega
            clear hof hA hv hm hmax hke
            go_wp2
            go_ret2
            exact ⟨hr.out, rfl⟩
          · rw [if_neg hmax] at hof
            rw [if_neg (by decide), ← hm] at hof
            have hr := Lib.hid (ret_some hof)
            have hx : a ≤ 2139095039 := by omega
            clear hof hA hv hm hmax hke
            go_wp2_with (go_at_call 22; (with_reducible refine (fa _ (by omega) (by omega) _).mono ?_); rintro e w' ⟨rfl, rfl⟩)
            go_ret2
            exact ⟨hr.out, rfl⟩
    · clear h48
      go_enter Tryd.func16, Tryd.ntmps16
      go_wp2
      go_loop [6, 7] (fun vn vi => ∃ (k : Nat) (a : Int), vn = .int .i64 a ∧ vi = .int .i64 k ∧ k ≤ s.size ∧ Hid (At ds k a)) (fun _ vi => s.size - (intOf vi).toNat)
      case atStart => exact ⟨0, 0, rfl, rfl, by omega, Lib.hid (At.start ds)⟩
      case round =>
        obtain ⟨k, a, rfl, rfl, hk, hA⟩ := hrel
        by_cases hkn : k < s.size
        · obtain ⟨a0, a1⟩ := hA.out.range7 (by omega)
          have hdk := HL.out k hkn
          have hdrop : ds.drop k = ds[k]'(by omega) :: ds.drop (k + 1) := List.drop_eq_getElem_cons (by omega)
          have hget : ds.getD k 0 = ds[k]'(by omega) := by simp [List.getD, List.getElem?_eq_getElem (show k < ds.length by omega)]
          rw [hget] at hdk
          generalize ds[k]'(by omega) = c at hdk hdrop
          have hc256 : c.toNat < 256 := c.toNat_lt
          by_cases hdig : 48 ≤ c.toNat ∧ c.toNat ≤ 57
          · have hA2 := Lib.hid (hA.out.digit hdrop rfl hdig.1 hdig.2)
            obtain ⟨g0, g1⟩ := hdig
            clear hdrop hget hA
            go_wp2
            refine ⟨⟨k + 1, 16 * a + ((c.toNat : Int) - 48), rfl, rfl, by omega, hA2⟩, by simp [intOf]; omega⟩
          · by_cases hlet : 97 ≤ c.toNat ∧ c.toNat ≤ 102
            · have hA2 := Lib.hid (hA.out.letter hdrop rfl hlet.1 hlet.2)
              obtain ⟨g0, g1⟩ := hlet
              clear hdrop hget hA hdig
              go_wp2
              refine ⟨⟨k + 1, 16 * a + ((c.toNat : Int) - 97) + 10, rfl, rfl, by omega, hA2⟩, by simp [intOf]; omega⟩
            · have hsn : Hex.seen ds = none := by
                have h := hof.out
                rw [hA.out.stuck hdrop hdig hlet] at h
                exact h
              have hr := Lib.hid (ret_none hsn)
              clear hsn hdrop hget hA hof
              go_wp2
              all_goals (go_ret2; exact ⟨hr.out, rfl⟩)
        · have hke : k = ds.length := by omega
          obtain ⟨a0, a1⟩ := hA.out.range (by omega)
          have hA := hA.out
          rw [hke] at hA
          obtain ⟨m, hm, hv⟩ := hA.done
          have hof := hof.out
          rw [hv] at hof
          dsimp only at hof
          by_cases hmax : 2139095039 < m
          · rw [if_pos hmax] at hof
            have hr := Lib.hid (ret_none hof)
            have hx : 2139095039 < a := by omega
            clear hof hA hv hm hmax hke
            go_wp2
            go_ret2
            exact ⟨hr.out, rfl⟩
          · rw [if_neg hmax] at hof
            rw [if_neg (by decide), ← hm] at hof
            have hr := Lib.hid (ret_some hof)
            have hx : a ≤ 2139095039 := by omega
            clear hof hA hv hm hmax hke
            go_wp2_with (go_at_call 22; (with_reducible refine (fa _ (by omega) (by omega) _).mono ?_); rintro e w' ⟨rfl, rfl⟩)
            go_ret2
            exact ⟨hr.out, rfl⟩

set_option maxRecDepth 100000 in
theorem seen_any (s : ByteArray) (hs : s.size ≤ 9223372036854775806) (w : World) :
    Calls Tryd.prog 16 #[.string s] w fun e w' => e = .returned (.tuple #[.float .f32 (nv s.data.toList), .bool (Hex.seen s.data.toList).isSome]) ∧ w = w' := by
  cases hL : s.data.toList with
  | nil =>
    have h0 : s.size = 0 := by rw [Lib.size_eq, hL]; rfl
    have hr := ret_none (show Hex.seen [] = none by decide)
    rw [← hr]
    clear hr hL hs
    go_enter Tryd.func16, Tryd.ntmps16
    go_wp2
    go_ret2
    exact ⟨rfl, rfl⟩
  | cons c r =>
    by_cases hc : c = 45
    · subst hc
      exact seen_neg s hs r hL w
    · exact seen_pos s hs c r hc hL w
end Go.Proofs.YtobhhopfimnknaaDoor
