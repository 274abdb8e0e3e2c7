/- Texts: a number read, by the program. -/
import Derived.Test.YtobhhopfimnknaaDoorXg
namespace Go.Proofs.YtobhhopfimnknaaDoor
open Ieee Go.Flt Go.RowKit Go.Hex

/-- The number that a text tells, 0 if none. -/
def nv (l : List UInt8) : Nat := match Hex.seen l with | some p => sw p | none => 0

theorem nv_none {l : List UInt8} (h : Hex.seen l = none) : nv l = 0 := by unfold nv; rw [h]
theorem nv_some {l : List UInt8} {p : Int} (h : Hex.seen l = some p) : nv l = sw p := by unfold nv; rw [h]

set_option maxRecDepth 100000 in
set_option maxHeartbeats 3200000 in
theorem readNumber_any (t : ByteArray) (hlim : t.size ≤ 281474976710656) (w : World) (hG : Glob w) :
    Calls Tryd.prog 14 #[.string t] w fun e w' => e = .returned (.tuple #[.float .f32 (nv t.data.toList), .bool (Hex.seen t.data.toList).isSome]) ∧ Below w.heap.size w w' := by
  have c := parseIntP16 t hlim w hG
  have wy := within_yes
  have wn := within_no
  have fi := fun v h0 h1 w h => formatIntP_any v h0 h1 w h
  have fa := floatAt_any
  have hG := Lib.hid hG
  clear hlim
  go_enter Tryd.func14, Tryd.ntmps14
  go_wp2_with (first
    | (go_at_call 18; (with_reducible refine c.mono ?_); rintro e w1 ⟨v, er, rfl, v0, v1, hE, hX, hB⟩; have hT1 := Lib.hid (hG.out.below hB).1; have hB := Lib.hid hB; have hX := Lib.hid hX; by_cases hv : -2139095039 ≤ v ∧ v ≤ 2139095039 <;> (rcases hE with (rfl | ⟨te, pe, rfl⟩)))
    | (go_at_call 19; (first | (with_reducible refine (wy _ _ _ hv.1 hv.2 _).mono ?_) | (with_reducible refine (wn _ _ _ (by omega) _).mono ?_)); rintro e w' ⟨rfl, rfl⟩)
    | (go_at_call 20; (with_reducible refine (fi _ hv.1 hv.2 _ hT1.out).mono ?_); rintro e w2 ⟨rfl, hB2⟩; have hB2 := Lib.hid hB2)
    | (go_at_call 21; (with_reducible refine (fa _ hv.1 hv.2 _).mono ?_); rintro e w' ⟨rfl, rfl⟩))
  · have h : (!fmt v == t.toList) = true := by assumption
    have hs : Hex.seen t.data.toList = none := by
      cases hp : Hex.seen t.data.toList with
      | none => rfl
      | some p =>
        obtain ⟨e1, _⟩ := hX.out p hp
        have hf := (fmt_seen hp).1
        rw [← e1, ← Lib.toList_data] at hf
        rw [hf] at h
        simp at h
    rw [nv_none hs, hs]
    go_ret2
    exact ⟨rfl, hB.out.trans (hB2.out.mono hB.out.size)⟩
  · have h : (!fmt v == t.toList) = false := by assumption
    have hs : Hex.seen t.data.toList = some v := by
      have e : fmt v = t.data.toList := by
        rw [← Lib.toList_data]
        simpa using h
      rw [← e]
      exact seen_fmt hv.1 hv.2
    rw [nv_some hs, hs]
    go_ret2
    exact ⟨rfl, hB.out.trans (hB2.out.mono hB.out.size)⟩
  · have hs : Hex.seen t.data.toList = none := by
      cases hp : Hex.seen t.data.toList with
      | none => rfl
      | some p => obtain ⟨_, e2⟩ := hX.out p hp; cases e2
    rw [nv_none hs, hs]
    go_ret2
    exact ⟨rfl, hB.out⟩
  · have hs : Hex.seen t.data.toList = none := by
      cases hp : Hex.seen t.data.toList with
      | none => rfl
      | some p =>
        obtain ⟨e1, _⟩ := hX.out p hp
        have := (fmt_seen hp).2
        omega
    rw [nv_none hs, hs]
    go_ret2
    exact ⟨rfl, hB.out⟩
  · have hs : Hex.seen t.data.toList = none := by
      cases hp : Hex.seen t.data.toList with
      | none => rfl
      | some p => obtain ⟨_, e2⟩ := hX.out p hp; cases e2
    rw [nv_none hs, hs]
    go_ret2
    exact ⟨rfl, hB.out⟩
end Go.Proofs.YtobhhopfimnknaaDoor
