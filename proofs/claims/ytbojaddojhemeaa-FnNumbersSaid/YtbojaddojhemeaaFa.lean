/- Draws: the source of a code, and its next number. -/
import Derived.Test.YtbojaddojhemeaaWa
import Derived.Test.YtbojaddojhemeaaGro
import Derived.Below
namespace Go.Flt
open Ieee Go.RowKit

/-- The bytes of a slice, in the world at the start. -/
def Bytes (w0 : World) (a0 : Option Addr) (len : Nat) : Prop :=
  len = 0 ∨ ∃ cb off : Nat, a0 = some ⟨cb, off, none⟩ ∧ ∀ i, i < len → ∃ x : Int, 0 ≤ x ∧ x < 256 ∧ w0.cell? ⟨cb, off + i, none⟩ = some (.int .u8 x)

/-- A source at block b, made since the world w0. -/
def Src (w0 : World) (a0 : Option Addr) (len cap b : Nat) (w : World) : Prop :=
  Grown w0 w ∧ w0.heap.size ≤ b ∧ ∃ t h : Int, 0 ≤ t ∧ t ≤ len ∧ 0 ≤ h ∧ h < 18446744073709551616 ∧
    w.cell? ⟨b, 0, none⟩ = some (.slice a0 len cap) ∧ w.cell? ⟨b, 1, none⟩ = some (.int .i64 t) ∧ w.cell? ⟨b, 2, none⟩ = some (.int .u64 h) ∧ w.frozen? ⟨b, 1, none⟩ = false ∧ w.frozen? ⟨b, 2, none⟩ = false

/-- All but one block is as it was. -/
def Kept (b : Nat) (w w' : World) : Prop := ∀ (p : Addr) (v : Value), p.block ≠ b → w.cell? p = some v → w'.cell? p = some v
theorem Kept.refl (b : Nat) (w : World) : Kept b w w := fun _ _ _ h => h
theorem Kept.trans {b : Nat} {w1 w2 w3 : World} (h : Kept b w1 w2) (k : Kept b w2 w3) : Kept b w1 w3 := fun p v hp hv => k p v hp (h p v hp hv)
theorem Kept.drew {b : Nat} {w w' : World} (h : Kept b w w') : Kept b w w'.drew := h
theorem Kept.put {b o : Nat} {v : Value} {w w' : World} (h : Kept b w w') : Kept b w (w'.setCell ⟨b, o, none⟩ v) := fun p u hp hu => by
  rw [World.cell?_setCell_other _ _ _ _ (by intro e; exact hp (by rw [← e]))]
  exact h p u hp hu

theorem Src.drew {w0 : World} {a0 : Option Addr} {len cap b : Nat} {w : World} (h : Src w0 a0 len cap b w) : Src w0 a0 len cap b w.drew := h
theorem Src.put2 {w0 : World} {a0 : Option Addr} {len cap b : Nat} {w : World} (hS : Src w0 a0 len cap b w) {h : Int} (h0 : 0 ≤ h) (h1 : h < 18446744073709551616) : Src w0 a0 len cap b (w.setCell ⟨b, 2, none⟩ (.int .u64 h)) := by
  obtain ⟨hg, hb, t, h', t0, t1, _, _, c0, c1, c2, f1, f2⟩ := hS
  refine ⟨hg.setCell hb _, hb, t, h, t0, t1, h0, h1, ?_, ?_, ?_, ?_, ?_⟩ <;> simp [go_sem, c0, c1, c2, f1, f2]
theorem Src.put1 {w0 : World} {a0 : Option Addr} {len cap b : Nat} {w : World} (hS : Src w0 a0 len cap b w) {t : Int} (t0 : 0 ≤ t) (t1 : t ≤ len) : Src w0 a0 len cap b (w.setCell ⟨b, 1, none⟩ (.int .i64 t)) := by
  obtain ⟨hg, hb, t', h, _, _, h0, h1, c0, c1, c2, f1, f2⟩ := hS
  refine ⟨hg.setCell hb _, hb, t, h, t0, t1, h0, h1, ?_, ?_, ?_, ?_, ?_⟩ <;> simp [go_sem, c0, c1, c2, f1, f2]

theorem u64_range (n : Int) : 0 ≤ IntKind.u64.wrap n ∧ IntKind.u64.wrap n < 18446744073709551616 := by
  have e : IntKind.u64.wrap n = n % 18446744073709551616 := by simp [IntKind.wrap, IntKind.bits, IntKind.signed]
  rw [e]
  omega
theorem and_range {a : Int} (h0 : 0 ≤ a) (h1 : a < 18446744073709551616) : 0 ≤ bits .and .u64 a 2147483647 ∧ bits .and .u64 a 2147483647 ≤ 2147483647 := by
  rw [u64_and a 2147483647 h0 h1 (by omega) (by omega)]
  have := Nat.and_le_right (n := a.toNat) (m := (2147483647 : Int).toNat)
  have e : (2147483647 : Int).toNat = 2147483647 := rfl
  rw [e] at this ⊢
  omega
theorem next_number {a x n : Int} (h0 : 0 ≤ a) (h1 : a < 18446744073709551616) (x0 : 0 ≤ x) (x1 : x < 256) (hn : 1 ≤ n) :
    0 ≤ (wrap64 (wrap64 (bits .and .u64 (a / 8589934592) 2147483647) + x)).tmod n ∧ (wrap64 (wrap64 (bits .and .u64 (a / 8589934592) 2147483647) + x)).tmod n < n := by
  have h := and_range (a := a / 8589934592) (by omega) (by omega)
  generalize bits .and .u64 (a / 8589934592) 2147483647 = m at h
  have e : wrap64 (wrap64 m + x) = m + x := by unfold wrap64; omega
  rw [e]
  exact ⟨Int.tmod_nonneg _ (by omega), Int.tmod_lt_of_pos _ (by omega)⟩
theorem next_number0 {a n : Int} (h0 : 0 ≤ a) (h1 : a < 18446744073709551616) (hn : 1 ≤ n) :
    0 ≤ (wrap64 (bits .and .u64 (a / 8589934592) 2147483647)).tmod n ∧ (wrap64 (bits .and .u64 (a / 8589934592) 2147483647)).tmod n < n := by
  have h := and_range (a := a / 8589934592) (by omega) (by omega)
  generalize bits .and .u64 (a / 8589934592) 2147483647 = m at h
  have e : wrap64 m = m := by unfold wrap64; omega
  rw [e]
  exact ⟨Int.tmod_nonneg _ (by omega), Int.tmod_lt_of_pos _ (by omega)⟩
end Go.Flt

namespace Go.Proofs.Ytbojaddojhemeaa
open Ieee Go.Flt Go.RowKit

set_option maxRecDepth 100000 in
set_option maxHeartbeats 1600000 in
theorem next_any (w0 : World) (a0 : Option Addr) (len cap b : Nat) (hC : Flt.Bytes w0 a0 len) (hl : len ≤ 4611686018427387904) (n : Int) (hn : 1 ≤ n) (w : World) (hS : Src w0 a0 len cap b w) :
    Calls Try.prog 71 #[.pointer (some ⟨b, 0, none⟩), .int .i64 n] w fun e w' => ∃ r : Int, e = .returned (.int .i64 r) ∧ 0 ≤ r ∧ r < n ∧ Src w0 a0 len cap b w' ∧ Kept b w w' := by
  have hS' := Lib.hid hS
  obtain ⟨hg, hb, t, h, t0, t1, h0, h1, c0, c1, c2, f1, f2⟩ := hS
  by_cases ht : t < len
  · rcases hC with rfl | ⟨cb, off, rfl, hx⟩
    · omega
    · obtain ⟨k, rfl⟩ := Int.eq_ofNat_of_zero_le t0
      obtain ⟨x, x0, x1, hx'⟩ := hx k (by omega)
      have hc := grown_cell hg hx'
      have hbb : cb ≠ b := by
        have := World.block_lt_of_cell? w0 _ hx'
        simp at this
        omega
      have hk : k < len := by omega
      clear hx hx' ht t0 t1
      go_enter Try.func71, Try.ntmps71
      go_wp2
      go_region
      all_goals go_wp2
      all_goals go_region
      all_goals go_wp2
      all_goals go_ret
      all_goals exact ⟨_, rfl, (next_number (u64_range _).1 (u64_range _).2 x0 x1 hn).1, (next_number (u64_range _).1 (u64_range _).2 x0 x1 hn).2, ((hS'.out.put2 (u64_range _).1 (u64_range _).2).put1 (by omega) (by omega)).drew.drew, ((Kept.refl b w).put.put).drew.drew⟩
  · have ht' : ¬ t < (len : Int) := ht
    go_enter Try.func71, Try.ntmps71
    go_wp2
    go_region
    all_goals go_wp2
    all_goals go_ret
    all_goals exact ⟨_, rfl, (next_number0 (u64_range _).1 (u64_range _).2 hn).1, (next_number0 (u64_range _).1 (u64_range _).2 hn).2, (hS'.out.put2 (u64_range _).1 (u64_range _).2).drew, ((Kept.refl b w).put).drew⟩
end Go.Proofs.Ytbojaddojhemeaa
