/- Texts: an unsigned number read in base 16. -/
import Derived.Test.YtobhhopfimnknaaDoorXc
import Derived.Lib.ConvBytes
import Derived.Lib.AtoiErrMem
import Derived.Lib.Strings
import Derived.Laws.Strings3
import Derived.Laws.Closers25
import Derived.Laws.Closers25b
import Derived.BigCall
import Derived.BigGuard
namespace Go.Hex
/-- What is known when k bytes are read. -/
def Inv (bs : List UInt8) (k : Nat) (a : Int) : Prop := ∀ N, hexv 0 bs = some N → N < 4294967296 → ∃ m : Nat, a = m ∧ hexv m (bs.drop k) = some N
theorem Inv.step {bs r : List UInt8} {k : Nat} {c : UInt8} {a : Int} (h : Inv bs k a) (hd : bs.drop k = c :: r) {N : Nat} (h1 : hexv 0 bs = some N) (h2 : N < 4294967296) :
    ∃ m d : Nat, a = m ∧ hexd c = some d ∧ hexv (16 * m + d) r = some N ∧ 16 * m + d ≤ N := by
  obtain ⟨m, rfl, hm⟩ := h N h1 h2
  rw [hd] at hm
  simp only [hexv] at hm
  cases hc : hexd c with
  | none => rw [hc] at hm; cases hm
  | some d => rw [hc] at hm; exact ⟨m, d, rfl, rfl, hm, hexv_le hm⟩
theorem hexd_digit {c : UInt8} {d : Nat} (h : hexd c = some d) (h0 : 48 ≤ c.toNat) (h1 : c.toNat ≤ 57) : d = c.toNat - 48 := by
  unfold hexd at h
  rw [if_pos ⟨h0, h1⟩] at h
  exact (Option.some.inj h).symm
theorem hexd_letter {c : UInt8} {d : Nat} (h : hexd c = some d) (hn : ¬ (48 ≤ c.toNat ∧ c.toNat ≤ 57)) : d = c.toNat - 87 ∧ 97 ≤ c.toNat ∧ c.toNat ≤ 102 := by
  unfold hexd at h
  rw [if_neg hn] at h
  split at h
  · exact ⟨(Option.some.inj h).symm, by omega, by omega⟩
  · cases h
theorem or32 (n : Nat) (h0 : 97 ≤ n) (h1 : n ≤ 102) : bits .or .u8 (n : Int) 32 = n := by
  rcases (by omega : n = 97 ∨ n = 98 ∨ n = 99 ∨ n = 100 ∨ n = 101 ∨ n = 102) with rfl | rfl | rfl | rfl | rfl | rfl <;> kernel_rfl
end Go.Hex
namespace Go.Proofs.YtobhhopfimnknaaDoor
open Ieee Go.Flt Go.RowKit Go.Hex

theorem lower_any (c : Int) (w : World) : Calls Tryd.prog 44 #[.int .u8 c] w fun e w' => e = .returned (.int .u8 (bits .or .u8 c 32)) ∧ w' = w := by
  go_enter Tryd.func44, Tryd.ntmps44
  go_wp2
  go_ret
  exact ⟨rfl, rfl⟩

def ErrOk (er : Value) : Prop := er = .nilIface ∨ er = .iface 56 (.int .i64 1) ∨ er = .iface 56 (.int .i64 2)

set_option maxHeartbeats 32000000 in
set_option maxRecDepth 100000 in
theorem parseUint16 (t : ByteArray) (hne : t.size ≠ 0) (hmax : t.size ≤ 9223372036854775806) (w : World) :
    Calls Tryd.prog 33 #[.string t, .int .i64 16, .int .i64 64] w fun e w' => ∃ (u : Int) (er : Value), e = .returned (.tuple #[.int .u64 u, er]) ∧ 0 ≤ u ∧ u < 18446744073709551616 ∧ ErrOk er ∧ (∀ N, hexv 0 t.data.toList = some N → N < 4294967296 → u = N ∧ er = .nilIface) ∧ w' = Lib.bytesWorld w 5 t := by
  have hemp : t.toList.isEmpty = false := by
    rw [← decide_eq_emptyBytes]
    exact decide_eq_false (fun h => hne (by rw [h]; rfl))
  have hcv := Lib.run_convert_string_bytes (P := Tryd.prog) w 9 67 5 t (u := .string) Tryd.underlying9 Tryd.underlying67 Tryd.underlying5
  have hB : ∀ j, j < t.size → (Lib.bytesWorld w 5 t).cell? ⟨w.heap.size, j, none⟩ = some (.int .u8 (t.data.toList.getD j 0).toNat) := fun j hj => Lib.bytesWorld_cell w 5 t j hj
  obtain ⟨W1, hW1⟩ : ∃ W1, W1 = Lib.bytesWorld w 5 t := ⟨_, rfl⟩
  rw [← hW1] at hcv hB ⊢
  clear hW1
  obtain ⟨bs, hL⟩ : ∃ bs, bs = t.data.toList := ⟨_, rfl⟩
  have hLn : bs.length = t.size := by rw [hL, Lib.size_eq]
  rw [← hL] at hB ⊢
  clear hL
  have hmv : IntKind.u64.wrap (IntKind.u64.wrap 18446744073709551616 - 1) = 18446744073709551615 := by kernel_rfl
  go_enter Tryd.func33, Tryd.ntmps33
  go_wp2
  go_loop [12, 13, 101] (fun vu vn vi => ∃ (k : Nat) (a : Int), vu = .bool false ∧ vn = .int .u64 a ∧ vi = .int .i64 k ∧ k ≤ t.size ∧ 0 ≤ a ∧ a < 18446744073709551616 ∧ Hid (Inv bs k a))
    (fun _ _ vi => t.size - (intOf vi).toNat)
  case atStart => exact ⟨0, 0, rfl, rfl, rfl, by omega, by omega, by omega, Lib.hid fun N h1 _ => ⟨0, rfl, h1⟩⟩
  case round =>
    obtain ⟨k, a, rfl, rfl, rfl, hk, a0, a1, hh⟩ := hrel
    by_cases hkn : k < t.size
    · have hc := hB k hkn
      have hdrop : bs.drop k = bs[k]'(by omega) :: bs.drop (k + 1) := List.drop_eq_getElem_cons (by omega)
      have hget : bs.getD k 0 = bs[k]'(by omega) := by simp [List.getD, List.getElem?_eq_getElem (show k < bs.length by omega)]
      rw [hget] at hc
      generalize bs[k]'(by omega) = c at hc hdrop
      have hstep := Lib.hid (fun N h1 h2 => hh.out.step hdrop (N := N) h1 h2)
      have hc256 : c.toNat < 256 := c.toNat_lt
      clear hB hdrop hget hh
      by_cases hdig : 48 ≤ c.toNat ∧ c.toNat ≤ 57
      · obtain ⟨hd0, hd1⟩ := hdig
        by_cases hcut : 1152921504606846976 ≤ a
        · go_wp2
          go_ret2
          refine ⟨_, _, rfl, by omega, by omega, .inr (.inl rfl), fun N h1 h2 => ?_, rfl⟩
          obtain ⟨m, d, e1, _, _, e4⟩ := hstep.out N h1 h2
          omega
        · have hnext : Hid (Inv bs (k + 1) (a * 16 + ((c.toNat : Int) - 48))) := Lib.hid fun N h1 h2 => by
            obtain ⟨m, d, e1, e2, e3, _⟩ := hstep.out N h1 h2
            have := hexd_digit e2 hd0 hd1
            exact ⟨16 * m + d, by omega, e3⟩
          clear hstep
          go_wp2
          refine ⟨⟨k + 1, a * 16 + ((c.toNat : Int) - 48), rfl, (by first | rfl | (congr 1; omega)), (by first | rfl | (congr 1; omega)), by omega, by omega, by omega, hnext⟩, by simp [intOf]; omega⟩
      · have hv0 := bits_lo_u8 .or (c.toNat : Int) 32
        have hv1 := bits_hi_u8 .or (c.toNat : Int) 32
        have hu0 := bits_lo_u8 .or 95 32
        have hu1 := bits_hi_u8 .or 95 32
        have hlet : Hid (∀ N, hexv 0 bs = some N → N < 4294967296 → ∃ m : Nat, a = m ∧ 97 ≤ bits .or .u8 (c.toNat : Int) 32 ∧ bits .or .u8 (c.toNat : Int) 32 ≤ 102 ∧ hexv (16 * m + ((bits .or .u8 (c.toNat : Int) 32) - 87).toNat) (bs.drop (k + 1)) = some N ∧ 16 * m ≤ N ∧ 97 ≤ c.toNat ∧ c.toNat ≤ 102) := Lib.hid fun N h1 h2 => by
          obtain ⟨m, d, e1, e2, e3, e4⟩ := hstep.out N h1 h2
          obtain ⟨f1, f2, f3⟩ := hexd_letter e2 hdig
          have f4 := or32 c.toNat f2 f3
          rw [f4]
          exact ⟨m, e1, by omega, by omega, by rw [show ((c.toNat : Int) - 87).toNat = d from by omega]; exact e3, by omega, f2, f3⟩
        clear hstep
        go_wp2_with (go_at_call 44; refine (lower_any _ _).mono ?_; rintro e w' ⟨rfl, rfl⟩)
        all_goals first
          | (refine ⟨⟨k + 1, a * 16 + (bits .or .u8 (c.toNat : Int) 32 - 97 + 10), rfl, rfl, (by first | rfl | (congr 1; omega)), by omega, by omega, by omega, Lib.hid fun N h1 h2 => ?_⟩, by simp [intOf]; omega⟩
             obtain ⟨m, e1, l1, l2, e3, e4, l3, l4⟩ := hlet.out N h1 h2
             exact ⟨16 * m + ((bits .or .u8 (c.toNat : Int) 32) - 87).toNat, by omega, e3⟩)
          | (go_ret2
             refine ⟨_, _, rfl, by omega, by omega, (by first | exact .inr (.inl rfl) | exact .inr (.inr rfl)), fun N h1 h2 => ?_, rfl⟩
             obtain ⟨m, e1, l1, l2, e3, e4, l3, l4⟩ := hlet.out N h1 h2
             omega)
    · have hkk : k = t.size := by omega
      subst hkk
      have hh2 : Hid (∀ N, hexv 0 bs = some N → N < 4294967296 → a = N) := Lib.hid fun N h1 h2 => by
        obtain ⟨m, e1, e2⟩ := hh.out N h1 h2
        rw [List.drop_eq_nil_of_le (by omega)] at e2
        rw [e1, Option.some.inj e2]
      clear hh hB
      go_wp2
      go_ret2
      exact ⟨_, _, rfl, a0, a1, .inl rfl, fun N h1 h2 => ⟨hh2.out N h1 h2, rfl⟩, rfl⟩
end Go.Proofs.YtobhhopfimnknaaDoor
