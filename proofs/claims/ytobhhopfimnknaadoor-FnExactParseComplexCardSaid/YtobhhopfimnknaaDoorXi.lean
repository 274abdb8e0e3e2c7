/- Texts: a complex number read, by the program. -/
import Derived.Test.YtobhhopfimnknaaDoorXh
namespace Go.Hex
/-- Cut at the first comma. -/
def cutc : List UInt8 → Option (List UInt8 × List UInt8)
  | [] => none
  | c :: r => if c = 44 then some ([], r) else match cutc r with
    | some (a, b) => some (c :: a, b)
    | none => none
theorem cutc_none {l : List UInt8} (h : cutc l = none) : Lib.indexByte l 44 = -1 := by
  induction l with
  | nil => rfl
  | cons c r ih =>
    unfold cutc at h
    by_cases hc : c = 44
    · rw [if_pos hc] at h; cases h
    · rw [if_neg hc] at h
      cases hr : cutc r with
      | some p => rw [hr] at h; cases h
      | none =>
        have := ih hr
        simp [Lib.indexByte, hc, this]
theorem cutc_some {l a b : List UInt8} (h : cutc l = some (a, b)) : Lib.indexByte l 44 = a.length ∧ l = a ++ 44 :: b := by
  induction l generalizing a with
  | nil => cases h
  | cons c r ih =>
    unfold cutc at h
    by_cases hc : c = 44
    · rw [if_pos hc] at h
      cases h
      subst hc
      exact ⟨by simp [Lib.indexByte], rfl⟩
    · rw [if_neg hc] at h
      cases hr : cutc r with
      | none => rw [hr] at h; cases h
      | some p =>
        obtain ⟨a', b'⟩ := p
        rw [hr] at h
        cases h
        obtain ⟨h1, h2⟩ := ih hr
        refine ⟨?_, by rw [h2]; rfl⟩
        have hne : ¬ ((a'.length : Int) = -1) := by omega
        simp [Lib.indexByte, hc, h1, hne]
/-- The two places that a text tells. -/
def both (l : List UInt8) : Option (Int × Int) :=
  match cutc l with
  | none => none
  | some (a, b) => match seen a, seen b with
    | some p, some q => some (p, q)
    | _, _ => none
end Go.Hex
namespace Go.Proofs.YtobhhopfimnknaaDoor
open Ieee Go.Flt Go.RowKit Go.Hex

def cre (l : List UInt8) : Nat := match both l with | some (p, _) => sw p | none => 0
def cim (l : List UInt8) : Nat := match both l with | some (_, q) => sw q | none => 0

theorem index_comma (s : ByteArray) (w : World) :
    Calls Tryd.prog 23 #[.string s, .string ⟨#[44]⟩] w fun e w' => e = .returned (.int .i64 (Lib.indexByte s.data.toList 44)) ∧ w' = w :=
  Any.stringslite_Index_one Tryd.layIndex s 44 w

set_option maxRecDepth 100000 in
theorem cut_none (s : ByteArray) (h : cutc s.data.toList = none) (w : World) :
    Calls Tryd.prog 17 #[.string s, .string ⟨#[44]⟩] w fun e w' => e = .returned (.tuple #[.string s, .string ⟨#[]⟩, .bool false]) ∧ w' = w := by
  have c := index_comma s w
  rw [cutc_none h] at c
  go_enter Tryd.func17, Tryd.ntmps17
  go_wp2_with (go_at_call 23; (with_reducible refine c.mono ?_); rintro e w' ⟨rfl, rfl⟩)
  go_returns
  exact ⟨rfl, rfl⟩
set_option maxRecDepth 100000 in
theorem cut_some (s : ByteArray) (hs : s.size ≤ 9223372036854775806) {a b : List UInt8} (h : cutc s.data.toList = some (a, b)) (w : World) :
    Calls Tryd.prog 17 #[.string s, .string ⟨#[44]⟩] w fun e w' => ∃ s1 s2 : ByteArray, e = .returned (.tuple #[.string s1, .string s2, .bool true]) ∧ s1.data.toList = a ∧ s2.data.toList = b ∧ Below w.heap.size w w' := by
  have c := index_comma s w
  obtain ⟨h1, h2⟩ := cutc_some h
  rw [h1] at c
  have hsz : s.size = a.length + 1 + b.length := by rw [Lib.size_eq, h2]; simp; omega
  have e1 : (s.extract 0 a.length).data.toList = a := by rw [Lib.extract_data, h2]; simp
  have e2 : (s.extract (a.length + 1) s.size).data.toList = b := by
    rw [Lib.extract_data, h2, List.take_of_length_le (by rw [List.length_drop]; simp; omega)]
    rw [show a ++ 44 :: b = (a ++ [44]) ++ b from by simp]
    exact List.drop_left' (by simp)
  have s1 : ∀ W, (Instr.slice 9 (.string s) none (some (.int .i64 (a.length : Int))) none).run Tryd.prog W = .ok (.string (s.extract 0 a.length)) W := fun W => by
    rw [run_slice_string_to_if W 9 s .i64 _ Tryd.underlying9, if_pos ⟨by omega, by omega⟩]
    rfl
  have s2 : ∀ W, (Instr.slice 9 (.string s) (some (.int .i64 ((a.length : Int) + 1))) none none).run Tryd.prog W = .ok (.string (s.extract (a.length + 1) s.size)) W := fun W => by
    rw [run_slice_string_from_if W 9 s .i64 _ Tryd.underlying9, if_pos ⟨by omega, by omega⟩]
    rfl
  generalize s.extract 0 a.length = x at s1 e1
  generalize s.extract (a.length + 1) s.size = y at s2 e2
  have hal : a.length ≤ 9223372036854775805 := by omega
  clear h h1 h2
  generalize a.length = n at s1 s2 c hsz hal
  go_enter Tryd.func17, Tryd.ntmps17
  go_wp2_with (go_at_call 23; (with_reducible refine c.mono ?_); rintro e w' ⟨rfl, rfl⟩)
  go_region
  all_goals go_wp2
  all_goals go_returns
  all_goals exact ⟨x, y, rfl, e1, e2, (Below.refl _ _).drew⟩

theorem cutP_none (s : ByteArray) (h : cutc s.data.toList = none) (w : World) :
    Calls Tryd.prog 13 #[.string s, .string ⟨#[44]⟩] w fun e w' => e = .returned (.tuple #[.string s, .string ⟨#[]⟩, .bool false]) ∧ w' = w := by
  have c := cut_none s h w
  clear h
  go_enter Tryd.func13, Tryd.ntmps13
  go_wp2_with (go_at_call 17; (with_reducible refine c.mono ?_); rintro e w' ⟨rfl, rfl⟩)
  go_returns
  exact ⟨rfl, rfl⟩
theorem cutP_some (s : ByteArray) (hs : s.size ≤ 9223372036854775806) {a b : List UInt8} (h : cutc s.data.toList = some (a, b)) (w : World) :
    Calls Tryd.prog 13 #[.string s, .string ⟨#[44]⟩] w fun e w' => ∃ s1 s2 : ByteArray, e = .returned (.tuple #[.string s1, .string s2, .bool true]) ∧ s1.data.toList = a ∧ s2.data.toList = b ∧ Below w.heap.size w w' := by
  have c := cut_some s hs h w
  clear h
  go_enter Tryd.func13, Tryd.ntmps13
  go_wp2_with (go_at_call 17; (with_reducible refine c.mono ?_); rintro e w' ⟨s1, s2, rfl, h1, h2, hB⟩; have hB := Lib.hid hB; have h1 := Lib.hid h1; have h2 := Lib.hid h2)
  go_returns
  exact ⟨s1, s2, rfl, h1.out, h2.out, hB.out⟩

set_option maxRecDepth 100000 in
set_option maxHeartbeats 3200000 in
theorem readComplex_any (t : ByteArray) (hlim : t.size ≤ 281474976710656) (w : World) (hG : Glob w) :
    Calls Tryd.prog 9 #[.string t] w fun e w' => e = .returned (.tuple #[.complex .f32 (cre t.data.toList) (cim t.data.toList), .bool (both t.data.toList).isSome]) ∧ Below w.heap.size w w' := by
  cases hc : cutc t.data.toList with
  | none =>
    have hb : both t.data.toList = none := by unfold both; rw [hc]
    have e1 : cre t.data.toList = 0 := by unfold cre; rw [hb]
    have e2 : cim t.data.toList = 0 := by unfold cim; rw [hb]
    rw [hb, e1, e2]
    have r1 := readNumber_any t hlim w hG
    have r2 := fun w1 hG => readNumber_any ⟨#[]⟩ (by decide) w1 hG
    have hG := Lib.hid hG
    clear hb e1 e2 hlim
    go_enter Tryd.func9, Tryd.ntmps9
    go_wp2_with (first
      | (go_at_call 13; (with_reducible refine (cutP_none t hc _).mono ?_); rintro e w' ⟨rfl, rfl⟩)
      | (go_at_call 14; (first | ((with_reducible refine r1.mono ?_); rintro e w1 ⟨rfl, hB⟩; have hG1 := Lib.hid (hG.out.below hB); have hB := Lib.hid hB) | ((with_reducible refine (r2 _ hG1.out).mono ?_); rintro e w2 ⟨rfl, hB2⟩; have hB2 := Lib.hid hB2))))
    go_ret2
    exact ⟨rfl, hB.out.trans (hB2.out.mono hB.out.size)⟩
  | some ab =>
    obtain ⟨a, b⟩ := ab
    have hl := (cutc_some hc).2
    have hsz : t.size = a.length + 1 + b.length := by rw [Lib.size_eq, hl]; simp; omega
    have r1 : ∀ s1 : ByteArray, s1.data.toList = a → ∀ w1, Glob w1 → Calls Tryd.prog 14 #[.string s1] w1 fun e w' => e = .returned (.tuple #[.float .f32 (nv a), .bool (Hex.seen a).isSome]) ∧ Below w1.heap.size w1 w' := fun s1 h1 w1 hG => by
      have h := readNumber_any s1 (by rw [Lib.size_eq, h1]; omega) w1 hG
      rw [h1] at h
      exact h
    have r2 : ∀ s2 : ByteArray, s2.data.toList = b → ∀ w1, Glob w1 → Calls Tryd.prog 14 #[.string s2] w1 fun e w' => e = .returned (.tuple #[.float .f32 (nv b), .bool (Hex.seen b).isSome]) ∧ Below w1.heap.size w1 w' := fun s2 h2 w1 hG => by
      have h := readNumber_any s2 (by rw [Lib.size_eq, h2]; omega) w1 hG
      rw [h2] at h
      exact h
    have ct := cutP_some t (by omega) hc
    have hbo : both t.data.toList = match Hex.seen a, Hex.seen b with | some p, some q => some (p, q) | _, _ => none := by unfold both; rw [hc]
    have hG := Lib.hid hG
    clear hl hsz hlim hc
    cases ha : Hex.seen a with
    | none =>
      have hb : both t.data.toList = none := by rw [hbo, ha]
      have e1 : cre t.data.toList = 0 := by unfold cre; rw [hb]
      have e2 : cim t.data.toList = 0 := by unfold cim; rw [hb]
      rw [hb, e1, e2]
      rw [nv_none ha, ha] at r1
      clear hb e1 e2 hbo ha
      go_enter Tryd.func9, Tryd.ntmps9
      go_wp2_with (first
        | (go_at_call 13; (with_reducible refine (ct _).mono ?_); rintro e w0 ⟨s1, s2, rfl, h1, h2, hB0⟩; have hG0 := Lib.hid (hG.out.below hB0); have hB0 := Lib.hid hB0; have h1 := Lib.hid h1; have h2 := Lib.hid h2)
        | (go_at_call 14; (first | ((with_reducible refine (r1 _ h1.out _ hG0.out).mono ?_); rintro e w1 ⟨rfl, hB⟩; have hG1 := Lib.hid (hG0.out.below hB); have hB := Lib.hid hB) | ((with_reducible refine (r2 _ h2.out _ hG1.out).mono ?_); rintro e w2 ⟨rfl, hB2⟩; have hB2 := Lib.hid hB2))))
      go_ret2
      exact ⟨rfl, hB0.out.trans ((hB.out.mono hB0.out.size).trans (hB2.out.mono (Nat.le_trans hB0.out.size hB.out.size)))⟩
    | some p =>
      rw [nv_some ha, ha] at r1
      cases hb' : Hex.seen b with
      | none =>
        have hb : both t.data.toList = none := by rw [hbo, ha, hb']
        have e1 : cre t.data.toList = 0 := by unfold cre; rw [hb]
        have e2 : cim t.data.toList = 0 := by unfold cim; rw [hb]
        rw [hb, e1, e2]
        rw [nv_none hb', hb'] at r2
        clear hb e1 e2 hbo ha hb'
        go_enter Tryd.func9, Tryd.ntmps9
        go_wp2_with (first
          | (go_at_call 13; (with_reducible refine (ct _).mono ?_); rintro e w0 ⟨s1, s2, rfl, h1, h2, hB0⟩; have hG0 := Lib.hid (hG.out.below hB0); have hB0 := Lib.hid hB0; have h1 := Lib.hid h1; have h2 := Lib.hid h2)
          | (go_at_call 14; (first | ((with_reducible refine (r1 _ h1.out _ hG0.out).mono ?_); rintro e w1 ⟨rfl, hB⟩; have hG1 := Lib.hid (hG0.out.below hB); have hB := Lib.hid hB) | ((with_reducible refine (r2 _ h2.out _ hG1.out).mono ?_); rintro e w2 ⟨rfl, hB2⟩; have hB2 := Lib.hid hB2))))
        go_ret2
        exact ⟨rfl, hB0.out.trans ((hB.out.mono hB0.out.size).trans (hB2.out.mono (Nat.le_trans hB0.out.size hB.out.size)))⟩
      | some q =>
        have hb : both t.data.toList = some (p, q) := by rw [hbo, ha, hb']
        have e1 : cre t.data.toList = sw p := by unfold cre; rw [hb]
        have e2 : cim t.data.toList = sw q := by unfold cim; rw [hb]
        rw [hb, e1, e2]
        rw [nv_some hb', hb'] at r2
        clear hb e1 e2 hbo ha hb'
        go_enter Tryd.func9, Tryd.ntmps9
        go_wp2_with (first
          | (go_at_call 13; (with_reducible refine (ct _).mono ?_); rintro e w0 ⟨s1, s2, rfl, h1, h2, hB0⟩; have hG0 := Lib.hid (hG.out.below hB0); have hB0 := Lib.hid hB0; have h1 := Lib.hid h1; have h2 := Lib.hid h2)
          | (go_at_call 14; (first | ((with_reducible refine (r1 _ h1.out _ hG0.out).mono ?_); rintro e w1 ⟨rfl, hB⟩; have hG1 := Lib.hid (hG0.out.below hB); have hB := Lib.hid hB) | ((with_reducible refine (r2 _ h2.out _ hG1.out).mono ?_); rintro e w2 ⟨rfl, hB2⟩; have hB2 := Lib.hid hB2))))
        go_ret2
        exact ⟨rfl, hB0.out.trans ((hB.out.mono hB0.out.size).trans (hB2.out.mono (Nat.le_trans hB0.out.size hB.out.size)))⟩

set_option maxRecDepth 100000 in
theorem iParse_any (t : ByteArray) (hlim : t.size ≤ 281474976710656) (w : World) (hG : Glob w) :
    Calls Tryd.prog 5 #[.string t] w fun e w' => e = .returned (.tuple #[.complex .f32 (cre t.data.toList) (cim t.data.toList), .int .i64 (if (both t.data.toList).isSome then 0 else 6)]) ∧ Below w.heap.size w w' := by
  have c := readComplex_any t hlim w hG
  cases hb : both t.data.toList with
  | none =>
    have e1 : cre t.data.toList = 0 := by unfold cre; rw [hb]
    have e2 : cim t.data.toList = 0 := by unfold cim; rw [hb]
    rw [hb, e1, e2] at c
    rw [e1, e2]
    clear hb e1 e2 hlim hG
    go_enter Tryd.func5, Tryd.ntmps5
    go_wp2_with (go_at_call 9; (with_reducible refine c.mono ?_); rintro e w1 ⟨rfl, hB⟩; have hB := Lib.hid hB)
    go_ret2
    exact ⟨rfl, hB.out⟩
  | some pq =>
    rw [hb] at c
    generalize cre t.data.toList = x at c
    generalize cim t.data.toList = y at c
    clear hb hlim hG
    go_enter Tryd.func5, Tryd.ntmps5
    go_wp2_with (go_at_call 9; (with_reducible refine c.mono ?_); rintro e w1 ⟨rfl, hB⟩; have hB := Lib.hid hB)
    go_ret2
    exact ⟨rfl, hB.out⟩
end Go.Proofs.YtobhhopfimnknaaDoor
