/- Texts: strconv.ParseInt in base 16: the number, or an error that is not nil. -/
import Derived.Test.YtobhhopfimnknaaDoorXe
import Derived.Test.YtobhhopfimnknaaDoorSh
namespace Go.Proofs.YtobhhopfimnknaaDoor
open Ieee Go.Flt Go.RowKit Go.Hex

/-- What the walks need of the package-level variables. -/
def Glob (w : World) : Prop := tabAt16 w ∧ (∃ ev, w.cell? ⟨2, 0, none⟩ = some ev ∧ (ev = .nilIface ∨ ∃ te pe, ev = .iface te pe)) ∧ (∃ ev, w.cell? ⟨3, 0, none⟩ = some ev ∧ (ev = .nilIface ∨ ∃ te pe, ev = .iface te pe))
theorem Glob.below {w w' : World} (h : Glob w) (hB : Below w.heap.size w w') : Glob w' := by
  obtain ⟨h1, ⟨e1, h2, h3⟩, ⟨e2, h4, h5⟩⟩ := h
  refine ⟨?_, ⟨e1, ?_, h3⟩, ⟨e2, ?_, h5⟩⟩
  · exact (hB.cell (World.block_lt_of_cell? w _ h1)).trans h1
  · exact (hB.cell (World.block_lt_of_cell? w _ h2)).trans h2
  · exact (hB.cell (World.block_lt_of_cell? w _ h4)).trans h4

theorem toError_syntax (fn s : ByteArray) (base bits : Int) (w : World) (hlim : s.size ≤ 281474976710656) (hG : Glob w) :
    Calls Tryd.prog 25 #[.string fn, .string s, .int .i64 base, .int .i64 bits, .iface 56 (.int .i64 2)] w fun e w' => ∃ te pe, e = .returned (.iface te pe) ∧ Below w.heap.size w w' := by
  obtain ⟨_, ⟨ev, h2, h3⟩, _⟩ := hG
  have h := Any.strconv_toError_syntax Tryd.layToError fn s base bits ev w hlim h2 h3
  exact h.mono fun e w' ⟨N, h1, _, _, h4⟩ => ⟨_, _, h1, h4⟩
theorem toError_range (fn s : ByteArray) (base bits : Int) (w : World) (hlim : s.size ≤ 281474976710656) (hG : Glob w) :
    Calls Tryd.prog 25 #[.string fn, .string s, .int .i64 base, .int .i64 bits, .iface 56 (.int .i64 1)] w fun e w' => ∃ te pe, e = .returned (.iface te pe) ∧ Below w.heap.size w w' := by
  obtain ⟨_, _, ⟨ev, h2, h3⟩⟩ := hG
  have h := Any.strconv_toError_range Tryd.layToError fn s base bits ev w hlim h2 h3
  exact h.mono fun e w' ⟨N, h1, _, _, h4⟩ => ⟨_, _, h1, h4⟩

set_option maxRecDepth 100000 in
set_option maxHeartbeats 3200000 in
theorem parseIntP16 (s : ByteArray) (hlim : s.size ≤ 281474976710656) (w : World) (hG : Glob w) :
    Calls Tryd.prog 18 #[.string s, .int .i64 16, .int .i64 64] w fun e w' => ∃ (v : Int) (er : Value), e = .returned (.tuple #[.int .i64 v, er]) ∧ -9223372036854775808 ≤ v ∧ v ≤ 9223372036854775807 ∧ (er = .nilIface ∨ ∃ te pe, er = .iface te pe) ∧ (∀ p, Hex.seen s.data.toList = some p → v = p ∧ er = .nilIface) ∧ Below w.heap.size w w' := by
  have c := parseInt16 s (by omega) w
  have t1 := fun fn w hG => toError_syntax fn s 16 64 w hlim hG
  have t2 := fun fn w hG => toError_range fn s 16 64 w hlim hG
  have hG := Lib.hid hG
  clear hlim
  go_enter Tryd.func18, Tryd.ntmps18
  go_wp2_with (first | (go_at_call 24; (with_reducible refine c.mono ?_); rintro e w1 ⟨v, er, rfl, v0, v1, hE, hX, hB⟩; have hB := Lib.hid hB; have hX := Lib.hid hX; rcases hE with rfl | rfl | rfl) | (go_at_call 25; (first | (with_reducible refine (t1 _ _ (hG.out.below hB.out)).mono ?_) | (with_reducible refine (t2 _ _ (hG.out.below hB.out)).mono ?_)); rintro e w2 ⟨te, pe, rfl, hB2⟩; have hB2 := Lib.hid hB2))
  all_goals go_ret2
  · exact ⟨_, _, rfl, v0, v1, .inl rfl, fun p hp => ⟨(hX.out p hp).1, rfl⟩, hB.out⟩
  all_goals refine ⟨_, _, rfl, v0, v1, .inr ⟨_, _, rfl⟩, fun p hp => ?_, hB.out.trans (hB2.out.mono hB.out.size)⟩
  all_goals (obtain ⟨_, e2⟩ := hX.out p hp; cases e2)
end Go.Proofs.YtobhhopfimnknaaDoor
