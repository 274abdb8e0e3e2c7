/- Draws: a code's source, one of some numbers. -/
import Derived.Test.YtbojaddojhemeaaFa
namespace Go.Flt
open Ieee Go.RowKit
theorem Src.size {w0 : World} {a0 : Option Addr} {len cap b : Nat} {w : World} (h : Src w0 a0 len cap b w) : b < w.heap.size := by
  obtain ⟨_, _, _, _, _, _, _, _, c0, _⟩ := h
  exact World.block_lt_of_cell? w _ c0
theorem Src.alloc {w0 : World} {a0 : Option Addr} {len cap b : Nat} {w : World} (hS : Src w0 a0 len cap b w) (cs : Array Value) (t : TypeId) : Src w0 a0 len cap b (w.alloc (.cells cs t)) := by
  have hs := hS.size
  obtain ⟨hg, hb, t, h', t0, t1, h0, h1, c0, c1, c2, f1, f2⟩ := hS
  refine ⟨hg.alloc _ _, hb, t, h', t0, t1, h0, h1, ?_, ?_, ?_, ?_, ?_⟩ <;> simp [go_sem, hs, c0, c1, c2, f1, f2]
end Go.Flt
namespace Go.Proofs.Ytbojaddojhemeaa
open Ieee Go.Flt Go.RowKit

set_option maxRecDepth 100000 in
set_option maxHeartbeats 1600000 in
theorem from_any (a0 : Option Addr) (len cap : Nat) (hl : len ≤ 4611686018427387904) (w : World) (hC : Flt.Bytes w a0 len) :
    Calls Try.prog 68 #[.slice a0 len cap] w fun e w' => e = .returned (.pointer (some ⟨w.heap.size, 0, none⟩)) ∧ Src w a0 len cap w.heap.size w' := by
  go_enter Try.func68, Try.ntmps68
  go_wp2
  go_loopw [4] (fun i wr => ∃ k : Nat, k ≤ len ∧ i = .int .i64 k ∧ Src w a0 len cap w.heap.size wr) (fun i _ => len - (intOf i).toNat)
  case atStart =>
    refine ⟨0, Nat.zero_le _, rfl, (Grown.refl w).alloc _ _, Nat.le_refl _, 0, 9941 + (len : Int), by omega, by omega, by omega, by omega, ?_, ?_, ?_, ?_, ?_⟩ <;> simp [go_sem]
  case round =>
    obtain ⟨k, hk, rfl, hS⟩ := hrel
    have hS' := Lib.hid hS
    obtain ⟨hg, hb, t, h, t0, t1, h0, h1, c0, c1, c2, f1, f2⟩ := hS
    by_cases hkl : k < len
    · rcases hC with rfl | ⟨cb, off, rfl, hx⟩
      · omega
      · obtain ⟨x, x0, x1, hx'⟩ := hx k hkl
        have hc := grown_cell hg hx'
        clear hx hx'
        go_wp2
        · go_region
          all_goals go_wp2
          go_roundw
          case rel => exact ⟨k + 1, by omega, by go_num, (hS'.out.put2 (u64_range _).1 (u64_range _).2).drew⟩
          case measure => simp [intOf]; omega
        · go_ret
          exact ⟨rfl, hS'.out⟩
    · go_wp2
      go_ret
      exact ⟨rfl, hS'.out⟩

set_option maxRecDepth 100000 in
set_option maxHeartbeats 1600000 in
theorem pick_any (w0 : World) (a0 : Option Addr) (len cap b : Nat) (hC : Flt.Bytes w0 a0 len) (hl : len ≤ 4611686018427387904) (lb m : Nat) (hm : 1 ≤ m) (hm2 : m ≤ 100) (hlb : lb ≠ b) (f : Nat → Int) (w : World) (hS : Src w0 a0 len cap b w)
    (hv : ∀ i, i < m → w.cell? ⟨lb, i, none⟩ = some (.int .i64 (f i))) :
    Calls Try.prog 72 #[.pointer (some ⟨b, 0, none⟩), .slice (some ⟨lb, 0, none⟩) m m] w fun e w' => ∃ j : Nat, j < m ∧ e = .returned (.int .i64 (f j)) ∧ Src w0 a0 len cap b w' := by
  have nx := next_any w0 a0 len cap b hC hl m (by omega) w hS
  have hS := Lib.hid hS
  have hv := Lib.hid hv
  clear hC
  go_enter Try.func72, Try.ntmps72
  go_wp2_with (go_at_call 71; (with_reducible refine nx.mono ?_); rintro e w' ⟨r, rfl, r0, r1, hS1, hK⟩; obtain ⟨j, rfl⟩ := Int.eq_ofNat_of_zero_le r0; have hj : j < m := (by omega); have hcj := hK _ _ hlb (hv.out j hj); have hS1 := Lib.hid hS1; clear hK)
  go_ret
  exact ⟨j, hj, rfl, hS1.out⟩
end Go.Proofs.Ytbojaddojhemeaa
