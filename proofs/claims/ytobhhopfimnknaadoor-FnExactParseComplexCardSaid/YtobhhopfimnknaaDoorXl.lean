/- Texts: ParseComplex of the reference; the law. -/
import Derived.Test.YtobhhopfimnknaaDoorXk
namespace Go.Hex
theorem split_two {l a b : List UInt8} (h : splitc l = [a, b]) : a.length + b.length + 1 = l.length := by
  cases hc : cutc l with
  | none => rw [split_none hc] at h; cases h
  | some ab =>
    obtain ⟨a', b'⟩ := ab
    rw [split_some hc] at h
    cases hb : cutc b' with
    | none =>
      rw [split_none hb] at h
      cases h
      rw [(cutc_some hc).2]
      simp
      omega
    | some xy =>
      obtain ⟨x, y⟩ := xy
      rw [split_some hb] at h
      injection h with h1 h2
      injection h2 with h3 h4
      exact absurd h4 (splitc_ne _)
end Go.Hex
namespace Go.Proofs.YtobhhopfimnknaaDoor
open Ieee Go.Flt Go.RowKit Go.Hex

theorem retc_none {l : List UInt8} (h : both l = none) : Ending.returned (.tuple #[.complex .f32 0 0, .bool false]) = Ending.returned (.tuple #[.complex .f32 (cre l) (cim l), .bool (both l).isSome]) := by
  unfold cre cim
  rw [h]
  rfl
theorem retc_some {l : List UInt8} {p q : Int} (h : both l = some (p, q)) : Ending.returned (.tuple #[.complex .f32 (sw p) (sw q), .bool true]) = Ending.returned (.tuple #[.complex .f32 (cre l) (cim l), .bool (both l).isSome]) := by
  unfold cre cim
  rw [h]
  rfl
/-- What two parts that are read come to. -/
theorem retc_two {l a b : List UInt8} (h : splitc l = [a, b]) :
    (((Hex.seen a).isSome = true → (Hex.seen b).isSome = true → Ending.returned (.tuple #[.complex .f32 (nv a) (nv b), .bool true]) = Ending.returned (.tuple #[.complex .f32 (cre l) (cim l), .bool (both l).isSome])) ∧
    ((Hex.seen a).isSome = false ∨ (Hex.seen b).isSome = false → Ending.returned (.tuple #[.complex .f32 0 0, .bool false]) = Ending.returned (.tuple #[.complex .f32 (cre l) (cim l), .bool (both l).isSome]))) := by
  have hb := both_two h
  constructor
  · intro h1 h2
    cases ha : Hex.seen a with
    | none => rw [ha] at h1; cases h1
    | some p =>
      cases hb' : Hex.seen b with
      | none => rw [hb'] at h2; cases h2
      | some q =>
        rw [ha, hb'] at hb
        rw [nv_some ha, nv_some hb']
        exact retc_some hb
  · intro h1
    apply retc_none
    rw [hb]
    rcases h1 with h1 | h1
    · cases ha : Hex.seen a with
      | none => rfl
      | some p => rw [ha] at h1; cases h1
    · cases hb' : Hex.seen b with
      | none => cases Hex.seen a <;> rfl
      | some p => rw [hb'] at h1; cases h1

theorem two_of {P : List ByteArray} (h : P.length = 2) : ∃ p0 p1, P = [p0, p1] := by
  match P, h with
  | [p0, p1], _ => exact ⟨p0, p1, rfl⟩
theorem size_of {p : ByteArray} {n : Nat} (h : p.data.toList.length ≤ n) (hn : n ≤ 1048576) : p.size ≤ 9223372036854775806 := by rw [Lib.size_eq]; omega

set_option maxRecDepth 100000 in
set_option maxHeartbeats 6400000 in
theorem l01Read_any (t : ByteArray) (hs : t.size ≤ 1048576) (w : World) :
    Calls Tryd.prog 11 #[.string t] w fun e w' => e = .returned (.tuple #[.complex .f32 (cre t.data.toList) (cim t.data.toList), .bool (both t.data.toList).isSome]) ∧ Below w.heap.size w w' := by
  have c := split_any t hs w
  have hlen : t.data.toList.length = t.size := (Lib.size_eq t).symm
  go_enter Tryd.func11, Tryd.ntmps11
  go_wp2_with (first
    | (go_at_call 15; (with_reducible refine c.mono ?_); rintro e w1 ⟨b, cap, P, rfl, hsp, hcells, hB⟩; have hsp := Lib.hid hsp; have hcells := Lib.hid hcells; have hB := Lib.hid hB; by_cases hP : P.length = 2; (obtain ⟨p0, p1, rfl⟩ := two_of hP; have k0 : w1.cell? ⟨b, 0, none⟩ = some (.string p0) := hcells.out 0 (by simp); have k1 : w1.cell? ⟨b, 1, none⟩ = some (.string p1) := hcells.out 1 (by simp); have hsp2 : splitc t.data.toList = [p0.data.toList, p1.data.toList] := hsp.out; have hl2 := split_two hsp2; have r := retc_two hsp2; have hT := Lib.hid r.1; have hF := Lib.hid r.2; have s0 := seen_any p0 (size_of (by omega) hs); have s1 := seen_any p1 (size_of (by omega) hs); generalize (Hex.seen p0.data.toList).isSome = o0 at s0 hT hF; generalize (Hex.seen p1.data.toList).isSome = o1 at s1 hT hF; generalize nv p0.data.toList = x0 at s0 hT; generalize nv p1.data.toList = x1 at s1 hT; clear hsp2 hl2 r hsp hcells hP))
    | (go_at_call 16; (first | (with_reducible refine (s0 _).mono ?_) | (with_reducible refine (s1 _).mono ?_)); rintro e w' ⟨rfl, rfl⟩))
  · have h : (!o1) = true := by assumption
    go_ret2
    exact ⟨hF.out (.inr (by simpa using h)), hB.out⟩
  · have h0 : o0 = true := by assumption
    have h : (!o1) = false := by assumption
    go_ret2
    exact ⟨hT.out h0 (by simpa using h), hB.out⟩
  · have h0 : o0 = false := Bool.eq_false_iff.2 (by assumption)
    go_ret2
    exact ⟨hF.out (.inl h0), hB.out⟩
  · have hn := retc_none (both_none (l := t.data.toList) (by rw [hsp.out, List.length_map]; exact hP))
    go_ret2
    exact ⟨hn, hB.out⟩

theorem cre_fin (l : List UInt8) : single.fin (cre l) ∧ clr (cre l) = cre l := by
  unfold cre
  cases hb : both l with
  | none => exact ⟨fin_zero, rfl⟩
  | some pq =>
    obtain ⟨p, q⟩ := pq
    unfold both at hb
    cases hc : cutc l with
    | none => rw [hc] at hb; cases hb
    | some ab =>
      obtain ⟨a, b⟩ := ab
      rw [hc] at hb
      simp only at hb
      cases ha : Hex.seen a with
      | none => rw [ha] at hb; cases hb
      | some p' =>
        cases hb' : Hex.seen b with
        | none => rw [ha, hb'] at hb; cases hb
        | some q' =>
          rw [ha, hb'] at hb
          cases hb
          have h := (fmt_seen ha).2
          exact ⟨sw_fin h.1 h.2, clr_sw h.1 h.2⟩
theorem cim_fin (l : List UInt8) : single.fin (cim l) ∧ clr (cim l) = cim l := by
  unfold cim
  cases hb : both l with
  | none => exact ⟨fin_zero, rfl⟩
  | some pq =>
    obtain ⟨p, q⟩ := pq
    unfold both at hb
    cases hc : cutc l with
    | none => rw [hc] at hb; cases hb
    | some ab =>
      obtain ⟨a, b⟩ := ab
      rw [hc] at hb
      simp only at hb
      cases ha : Hex.seen a with
      | none => rw [ha] at hb; cases hb
      | some p' =>
        cases hb' : Hex.seen b with
        | none => rw [ha, hb'] at hb; cases hb
        | some q' =>
          rw [ha, hb'] at hb
          cases hb
          have h := (fmt_seen hb').2
          exact ⟨sw_fin h.1 h.2, clr_sw h.1 h.2⟩

/-- The code of a text. -/
def ccode (l : List UInt8) : Int := if (both l).isSome then 0 else 6

set_option maxRecDepth 100000 in
theorem s0Parse_any (t : ByteArray) (hs : t.size ≤ 1048576) (w : World) :
    Calls Tryd.prog 7 #[.string t] w fun e w' => e = .returned (.tuple #[.complex .f32 (cre t.data.toList) (cim t.data.toList), .int .i64 (ccode t.data.toList)]) ∧ Below w.heap.size w w' := by
  have c := l01Read_any t hs w
  unfold ccode
  cases hb : both t.data.toList with
  | none =>
    have e1 : cre t.data.toList = 0 := by unfold cre; rw [hb]
    have e2 : cim t.data.toList = 0 := by unfold cim; rw [hb]
    rw [hb, e1, e2] at c
    rw [e1, e2]
    clear hb e1 e2 hs
    go_enter Tryd.func7, Tryd.ntmps7
    go_wp2_with (go_at_call 11; (with_reducible refine c.mono ?_); rintro e w1 ⟨rfl, hB⟩; have hB := Lib.hid hB)
    go_ret2
    exact ⟨rfl, hB.out⟩
  | some pq =>
    rw [hb] at c
    generalize cre t.data.toList = x at c
    generalize cim t.data.toList = y at c
    clear hb hs
    go_enter Tryd.func7, Tryd.ntmps7
    go_wp2_with (go_at_call 11; (with_reducible refine c.mono ?_); rintro e w1 ⟨rfl, hB⟩; have hB := Lib.hid hB)
    go_ret2
    exact ⟨rfl, hB.out⟩

set_option maxRecDepth 100000 in
theorem sParse_any (t : ByteArray) (hs : t.size ≤ 1048576) (w : World) :
    Calls Tryd.prog 4 #[.string t] w fun e w' => e = .returned (.tuple #[.complex .f32 (cre t.data.toList) (cim t.data.toList), .int .i64 (ccode t.data.toList)]) ∧ Below w.heap.size w w' := by
  have c := s0Parse_any t hs w
  have h1 := cre_fin t.data.toList
  have h2 := cim_fin t.data.toList
  have z := complex0 _ _ h1.1 h2.1
  rw [h1.2, h2.2] at z
  generalize cre t.data.toList = x at c z
  generalize cim t.data.toList = y at c z
  generalize ccode t.data.toList = k at c
  clear h1 h2 hs
  go_enter Tryd.func4, Tryd.ntmps4
  go_wp2_with (first | (go_at_call 7; (with_reducible refine c.mono ?_); rintro e w1 ⟨rfl, hB⟩; have hB := Lib.hid hB) | (go_at_call 8; (with_reducible refine (z _).mono ?_); rintro e w' ⟨rfl, rfl⟩))
  go_ret2
  exact ⟨rfl, hB.out⟩

set_option maxRecDepth 100000 in
set_option maxHeartbeats 3200000 in
theorem fnParse_small (t : ByteArray) (hs : t.size ≤ 1048576) (w : World) (hG : Glob w) :
    Calls Tryd.prog 3 #[.string t] w fun e w' => e = .returned (.bool true) ∧ Below w.heap.size w w' := by
  have c1 := sParse_any t hs w
  have c2 : ∀ w, Glob w → Calls Tryd.prog 5 #[.string t] w fun e w' => e = .returned (.tuple #[.complex .f32 (cre t.data.toList) (cim t.data.toList), .int .i64 (ccode t.data.toList)]) ∧ Below w.heap.size w w' := fun w hG => iParse_any t (by omega) w hG
  have h1 := (cre_fin t.data.toList).1
  have h2 := (cim_fin t.data.toList).1
  have wc := run_widen_complex _ _ h1 h2
  have sc := sameComplex_self _ _ _ _ _ _ (wid_isD h1 rfl) (wid_isD h2 rfl)
  generalize wid (cre t.data.toList) = X at wc sc
  generalize wid (cim t.data.toList) = Y at wc sc
  generalize cre t.data.toList = x at c1 c2 wc
  generalize cim t.data.toList = y at c1 c2 wc
  generalize ccode t.data.toList = k at c1 c2
  have hG := Lib.hid hG
  clear h1 h2
  go_enter Tryd.func3, Tryd.ntmps3
  go_wp2_with (first | (go_at_call 4; (with_reducible refine c1.mono ?_); rintro e w1 ⟨rfl, hB⟩; have hG1 := Lib.hid (hG.out.below hB); have hB := Lib.hid hB) | (go_at_call 5; (with_reducible refine (c2 _ hG1.out).mono ?_); rintro e w2 ⟨rfl, hB2⟩; have hB2 := Lib.hid hB2) | (go_at_call 6; (with_reducible refine (sc _).mono ?_); rintro e w' ⟨rfl, rfl⟩))
  go_ret
  exact ⟨rfl, hB.out.trans (hB2.out.mono hB.out.size)⟩

set_option maxRecDepth 100000 in
theorem fnParse_any (t : ByteArray) (hs : t.size ≤ 9223372036854775807) (w : World) (hG : Glob w) :
    Calls Tryd.prog 3 #[.string t] w fun e w' => e = .returned (.bool true) ∧ Below w.heap.size w w' := by
  by_cases h : t.size ≤ 1048576
  · exact fnParse_small t h w hG
  · clear hG
    go_enter Tryd.func3, Tryd.ntmps3
    go_wp2
    go_ret
    exact ⟨rfl, Below.refl _ _⟩
end Go.Proofs.YtobhhopfimnknaaDoor
