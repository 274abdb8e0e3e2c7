/- Texts: what a number is written as in base 16. -/
import Derived.Test.YtobhhopfimnknaaDoorXb
import Derived.Below
import Derived.Laws.IdiomStrings
import Derived.Lib.Walk
namespace Go.Proofs.YtobhhopfimnknaaDoor
open Ieee Go.Flt Go.RowKit Go.Hex

theorem pow2_16 (w : World) : Calls Tryd.prog 52 #[.int .i64 16] w fun e w' => e = .returned (.bool true) ∧ w = w' := by
  have hb : bits .and .i64 16 15 = 0 := by kernel_rfl
  go_enter Tryd.func52, Tryd.ntmps52
  go_wp2
  go_ret
  exact ⟨rfl, rfl⟩

def tabAt16 (w : World) : Prop := w.cell? ⟨6, 15, none⟩ = some (.int .u8 4)

theorem tz16 (w : World) (h : tabAt16 w) : Calls Tryd.prog 56 #[.int .u64 16] w fun e w' => e = .returned (.int .i64 4) ∧ w = w' := by
  unfold tabAt16 at h
  have hw : IntKind.u64.wrap (-16) = 18446744073709551600 := by kernel_rfl
  have hb : bits .and .u64 16 18446744073709551600 = 16 := by kernel_rfl
  go_enter Tryd.func56, Tryd.ntmps56
  go_wp2
  go_ret
  exact ⟨rfl, rfl⟩
theorem tzu16 (w : World) (h : tabAt16 w) : Calls Tryd.prog 53 #[.int .u64 16] w fun e w' => e = .returned (.int .i64 4) ∧ w = w' := by
  have c := tz16 w h
  clear h
  go_enter Tryd.func53, Tryd.ntmps53
  go_wp2_with (go_at_call 56; (with_reducible refine c.mono ?_); rintro e w' ⟨rfl, rfl⟩)
  go_ret
  exact ⟨rfl, rfl⟩

theorem add_at (b o j : Nat) : (⟨b, o, none⟩ : Addr).add j = ⟨b, o + j, none⟩ := by unfold Addr.add; split <;> simp_all
theorem zeros65 : Tryd.zeroCells79 = Array.replicate 65 (.int .u8 0) := by rfl
theorem cell_put_same {w : World} {b j : Nat} {v v' : Value} (h : w.cell? ⟨b, j, none⟩ = some v') : (w.setCell ⟨b, j, none⟩ v).cell? ⟨b, j, none⟩ = some v := World.cell?_setCell_same w _ v h
theorem cell_put_other {w : World} {b j k : Nat} {v : Value} (h : j ≠ k) : (w.setCell ⟨b, j, none⟩ v).cell? ⟨b, k, none⟩ = w.cell? ⟨b, k, none⟩ := World.cell?_setCell_other w _ _ v (by intro e; exact h (by injection e))

/-- The digits from place k + 1 on are written; a is still to be written. -/
def Fb (u0 : Nat) (w : World) (a : Int) (k : Nat) (wr : World) : Prop :=
  ∃ (u : Nat) (L : List UInt8), a = u ∧ L.length + k = 64 ∧ hexs u0 = hexs u ++ L ∧
    (∀ j (hj : j < L.length), wr.cell? ⟨w.heap.size, k + 1 + j, none⟩ = some (.int .u8 (L[j].toNat : Int))) ∧
    (∀ j, j < 65 → (∃ v, wr.cell? ⟨w.heap.size, j, none⟩ = some v) ∧ wr.frozen? ⟨w.heap.size, j, none⟩ = false) ∧ Below w.heap.size w wr

theorem Fb.start (u0 : Nat) (w : World) : Fb u0 w u0 64 (w.alloc (.cells Tryd.zeroCells79 79)) := by
  refine ⟨u0, [], rfl, rfl, by simp, fun j hj => absurd hj (Nat.not_lt_zero j), fun j hj => ⟨⟨.int .u8 0, ?_⟩, ?_⟩, (Below.refl _ w).alloc (Nat.le_refl _) _⟩
  · rw [zeros65]
    have e : (w.alloc (.cells (Array.replicate 65 (.int .u8 0)) 79)).heap[w.heap.size]? = some (.cells (Array.replicate 65 (.int .u8 0)) 79) := (MapKept.heap_alloc w _).1
    unfold World.cell?
    rw [e]
    simp [hj]
  · simp [go_sem]
theorem Fb.step {u0 : Nat} {w wr : World} {a : Int} {k : Nat} (hu : u0 < 4294967296) (h : Fb u0 w a k wr) (h16 : 16 ≤ a) :
    ∃ d : Nat, d < 16 ∧ a % 16 = d ∧ 1 ≤ k ∧ (∃ v, wr.cell? ⟨w.heap.size, k, none⟩ = some v) ∧ wr.frozen? ⟨w.heap.size, k, none⟩ = false ∧ Fb u0 w (a / 16) (k - 1) (wr.setCell ⟨w.heap.size, k, none⟩ (.int .u8 ((dig d).toNat : Int))) := by
  obtain ⟨u, L, rfl, hL, he, hc, hf, hB⟩ := h
  have hlen := hexs_length (k := 7) (n := u0) hu
  have h1 := hexs_head (u / 16)
  obtain ⟨d1, r1, h1, _⟩ := h1
  have hsp := hexs_big (n := u) (by omega)
  rw [hsp] at he
  have hlen2 : L.length ≤ 6 := by
    rw [he, h1] at hlen
    simp only [List.length_append, List.length_cons, List.length_nil] at hlen
    omega
  have hk : k < 65 := by omega
  refine ⟨u % 16, by omega, by omega, by omega, (hf k hk).1, (hf k hk).2, u / 16, dig (u % 16) :: L, by omega, by simp only [List.length_cons]; omega, by rw [he, List.append_assoc]; rfl, ?_, ?_, ?_⟩
  · intro j hj
    obtain ⟨v, hv⟩ := (hf k hk).1
    rw [show k - 1 + 1 + j = k + j from by omega]
    match j, hj with
    | 0, _ => exact cell_put_same hv
    | j + 1, hj =>
      rw [cell_put_other (by omega), show k + (j + 1) = k + 1 + j from by omega]
      exact hc j (by simpa using hj)
  · intro j hj
    refine ⟨?_, ?_⟩
    · by_cases e : k = j
      · subst e
        obtain ⟨v, hv⟩ := (hf k hk).1
        exact ⟨_, cell_put_same hv⟩
      · rw [cell_put_other e]; exact (hf j hj).1
    · rw [World.frozen?_setCell]; exact (hf j hj).2
  · exact hB.setCell (Nat.le_refl _) _
/-- The last digit. -/
theorem Fb.last {u0 : Nat} {w wr : World} {a : Int} {k : Nat} (hu : u0 < 4294967296) (h : Fb u0 w a k wr) (h16 : a < 16) :
    ∃ d : Nat, d < 16 ∧ a = d ∧ 1 ≤ k ∧ k < 65 ∧ (∃ v, wr.cell? ⟨w.heap.size, k, none⟩ = some v) ∧ wr.frozen? ⟨w.heap.size, k, none⟩ = false ∧ (∃ v, wr.cell? ⟨w.heap.size, k - 1, none⟩ = some v) ∧ wr.frozen? ⟨w.heap.size, k - 1, none⟩ = false ∧ (hexs u0).length + k = 65 ∧ Below w.heap.size w wr ∧
      ∀ j (hj : j < (hexs u0).length), (wr.setCell ⟨w.heap.size, k, none⟩ (.int .u8 ((dig d).toNat : Int))).cell? ⟨w.heap.size, k + j, none⟩ = some (.int .u8 ((hexs u0)[j].toNat : Int)) := by
  obtain ⟨u, L, rfl, hL, he, hc, hf, hB⟩ := h
  have hlen := hexs_length (k := 7) (n := u0) hu
  have h1 := hexs_small (n := u) (by omega)
  rw [h1] at he
  have he : hexs u0 = dig u :: L := he
  have hl : (hexs u0).length = L.length + 1 := by rw [he]; rfl
  have hk : k < 65 := by omega
  obtain ⟨v, hv⟩ := (hf k hk).1
  refine ⟨u, by omega, rfl, by omega, hk, ⟨v, hv⟩, (hf k hk).2, (hf (k - 1) (by omega)).1, (hf (k - 1) (by omega)).2, by omega, hB, ?_⟩
  intro j hj
  match j, hj with
  | 0, _ =>
    simp only [he, List.getElem_cons_zero]
    exact cell_put_same hv
  | j + 1, hj =>
    simp only [he, List.getElem_cons_succ]
    rw [cell_put_other (by omega), show k + (j + 1) = k + 1 + j from by omega]
    exact hc j (by omega)

theorem dgs_at (d : Nat) (hd : d < 16) (h : d < (⟨#[48, 49, 50, 51, 52, 53, 54, 55, 56, 57, 97, 98, 99, 100, 101, 102, 103, 104, 105, 106, 107, 108, 109, 110, 111, 112, 113, 114, 115, 116, 117, 118, 119, 120, 121, 122]⟩ : ByteArray).size) : (⟨#[48, 49, 50, 51, 52, 53, 54, 55, 56, 57, 97, 98, 99, 100, 101, 102, 103, 104, 105, 106, 107, 108, 109, 110, 111, 112, 113, 114, 115, 116, 117, 118, 119, 120, 121, 122]⟩ : ByteArray)[d] = dig d := by
  match d, hd with
  | 0, _ => rfl
  | 1, _ => rfl
  | 2, _ => rfl
  | 3, _ => rfl
  | 4, _ => rfl
  | 5, _ => rfl
  | 6, _ => rfl
  | 7, _ => rfl
  | 8, _ => rfl
  | 9, _ => rfl
  | 10, _ => rfl
  | 11, _ => rfl
  | 12, _ => rfl
  | 13, _ => rfl
  | 14, _ => rfl
  | 15, _ => rfl
  | n + 16, h => exact absurd h (by omega)
theorem and15 {a : Int} (h0 : 0 ≤ a) (h1 : a < 4294967296) : bits .and .u64 a 15 = a % 16 := by
  rw [u64_and a 15 h0 (by omega) (by omega) (by omega)]
  have : a.toNat &&& (15 : Int).toNat = a.toNat % 16 := Nat.and_two_pow_sub_one_eq_mod a.toNat 4
  rw [this]
  omega

set_option maxRecDepth 100000 in
set_option maxHeartbeats 3200000 in
theorem formatBits_pos (u0 : Nat) (hu : u0 < 4294967296) (w : World) (h : tabAt16 w) :
    Calls Tryd.prog 41 #[.slice none 0 0, .int .u64 u0, .int .i64 16, .bool false, .bool false] w fun e w' => e = .returned (.tuple #[.slice none 0 0, .string ⟨(hexs u0).toArray⟩]) ∧ Below w.heap.size w w' := by
  have c1 := pow2_16
  have c2 := fun w => tzu16 w
  have hb : 6 < w.heap.size := World.block_lt_of_cell? w _ h
  unfold tabAt16 at c2 h
  go_enter Tryd.func41, Tryd.ntmps41
  go_wp2_with (first | (go_at_call 52; (with_reducible refine (c1 _).mono ?_); rintro e w' ⟨rfl, rfl⟩) | (go_at_call 53; (with_reducible refine (c2 _ (by simp [go_sem, *])).mono ?_); rintro e w' ⟨rfl, rfl⟩))
  go_loopw [1, 13] (fun vu vi wr => ∃ (a : Int) (k : Nat), vu = .int .u64 a ∧ vi = .int .i64 ((k : Int) + 1) ∧ 0 ≤ a ∧ a < 4294967296 ∧ k ≤ 64 ∧ Hid (Fb u0 w a k wr)) (fun vu _ _ => (intOf vu).toNat)
  case atStart => exact ⟨u0, 64, rfl, rfl, by omega, by omega, by omega, Lib.hid (Fb.start u0 w)⟩
  case round =>
    obtain ⟨a, k, rfl, rfl, a0, a1, hk, hF⟩ := hrel
    by_cases h16 : 16 ≤ a
    · obtain ⟨d, hd, had, hk1, ⟨v, hv⟩, hfz, hF'⟩ := hF.out.step hu h16
      have hF' := Lib.hid hF'
      have hand := and15 a0 a1
      clear hF
      go_wp2
      refine ⟨⟨a / 16, k - 1, rfl, (by congr 1; omega), by omega, by omega, by omega, Lib.hid ?_⟩, by simp [intOf]; omega⟩
      have hF' := hF'.out
      rw [← dgs_at d hd (Nat.lt_trans hd (by decide))] at hF'
      exact hF'
    · obtain ⟨d, hd, had, hk1, hk2, ⟨v, hv⟩, hfz, ⟨v', hv'⟩, hfz', hlen, hB, hcs⟩ := hF.out.last hu (by omega)
      have hB := Lib.hid hB
      rw [← dgs_at d hd (Nat.lt_trans hd (by decide))] at hcs
      have hcs := Lib.hid hcs
      obtain rfl : d = a.toNat := by omega
      have a16 : a < 16 := by omega
      clear hF had h16 a1
      have hal : Tryd.prog.arrayLen 79 = 65 := by kernel_rfl
      have hsl : ∀ W, (Instr.sliceAt 79 (.pointer (some ⟨w.heap.size, 0, none⟩)) (some (.int .i64 k)) none none).run Tryd.prog W = .ok (.slice (some ⟨w.heap.size, k, none⟩) (hexs u0).length (hexs u0).length) W := fun W => by
        rw [run_sliceAt_array_l W 79 ⟨w.heap.size, 0, none⟩ (by kernel_rfl) .i64 (k : Int) (by omega) (by rw [hal]; omega)]
        rw [hal, show Tryd.prog.elem 79 = 5 from by kernel_rfl]
        go_simp
        omega
      have hcv := run_convert_bytes_back (P := Tryd.prog) _ 67 9 5 ⟨w.heap.size, k, none⟩ (hexs u0).length (hexs u0) Tryd.underlying67 Tryd.underlying5 Tryd.underlying9 (fun j hj => (congrArg _ (add_at _ _ _)).trans (hcs.out j hj))
      clear hal
      go_wp2
      go_ret2
      exact ⟨rfl, hB.out.setCell (Nat.le_refl _) _⟩

set_option maxRecDepth 100000 in
set_option maxHeartbeats 3200000 in
theorem formatBits_neg (u0 : Nat) (hu : u0 < 4294967296) (U : Int) (hU : IntKind.u64.wrap (-U) = (u0 : Int)) (w : World) (h : tabAt16 w) :
    Calls Tryd.prog 41 #[.slice none 0 0, .int .u64 U, .int .i64 16, .bool true, .bool false] w fun e w' => e = .returned (.tuple #[.slice none 0 0, .string ⟨(45 :: hexs u0).toArray⟩]) ∧ Below w.heap.size w w' := by
  have c1 := pow2_16
  have c2 := fun w => tzu16 w
  have hb : 6 < w.heap.size := World.block_lt_of_cell? w _ h
  unfold tabAt16 at c2 h
  go_enter Tryd.func41, Tryd.ntmps41
  go_wp2_with (first | (go_at_call 52; (with_reducible refine (c1 _).mono ?_); rintro e w' ⟨rfl, rfl⟩) | (go_at_call 53; (with_reducible refine (c2 _ (by simp [go_sem, *])).mono ?_); rintro e w' ⟨rfl, rfl⟩))
  go_loopw [1, 13] (fun vu vi wr => ∃ (a : Int) (k : Nat), vu = .int .u64 a ∧ vi = .int .i64 ((k : Int) + 1) ∧ 0 ≤ a ∧ a < 4294967296 ∧ k ≤ 64 ∧ Hid (Fb u0 w a k wr)) (fun vu _ _ => (intOf vu).toNat)
  case atStart => exact ⟨u0, 64, (by rw [← hU]), rfl, by omega, by omega, by omega, Lib.hid (Fb.start u0 w)⟩
  case round =>
    obtain ⟨a, k, rfl, rfl, a0, a1, hk, hF⟩ := hrel
    by_cases h16 : 16 ≤ a
    · obtain ⟨d, hd, had, hk1, ⟨v, hv⟩, hfz, hF'⟩ := hF.out.step hu h16
      have hF' := Lib.hid hF'
      have hand := and15 a0 a1
      clear hF
      go_wp2
      refine ⟨⟨a / 16, k - 1, rfl, (by congr 1; omega), by omega, by omega, by omega, Lib.hid ?_⟩, by simp [intOf]; omega⟩
      have hF' := hF'.out
      rw [← dgs_at d hd (Nat.lt_trans hd (by decide))] at hF'
      exact hF'
    · obtain ⟨d, hd, had, hk1, hk2, ⟨v, hv⟩, hfz, ⟨v', hv'⟩, hfz', hlen, hB, hcs⟩ := hF.out.last hu (by omega)
      have hB := Lib.hid hB
      rw [← dgs_at d hd (Nat.lt_trans hd (by decide))] at hcs
      obtain ⟨k, rfl⟩ : ∃ k', k = k' + 1 := ⟨k - 1, by omega⟩
      have hv' : ∃ v, wr.cell? ⟨w.heap.size, k, none⟩ = some v := ⟨v', hv'⟩
      rw [Nat.add_sub_cancel] at hfz'
      have hcs' : ∀ j (hj : j < (45 :: hexs u0 : List UInt8).length), ((wr.setCell ⟨w.heap.size, k + 1, none⟩ (.int .u8 (((⟨#[48, 49, 50, 51, 52, 53, 54, 55, 56, 57, 97, 98, 99, 100, 101, 102, 103, 104, 105, 106, 107, 108, 109, 110, 111, 112, 113, 114, 115, 116, 117, 118, 119, 120, 121, 122]⟩ : ByteArray)[d]'(Nat.lt_trans hd (by decide))).toNat : Int))).setCell ⟨w.heap.size, k, none⟩ (.int .u8 45)).cell? ⟨w.heap.size, k + j, none⟩ = some (.int .u8 ((45 :: hexs u0)[j].toNat : Int)) := by
        intro j hj
        obtain ⟨v', hv'⟩ := hv'
        match j, hj with
        | 0, _ => exact cell_put_same (v' := v') (by rw [cell_put_other (by omega)]; exact hv')
        | j + 1, hj =>
          rw [cell_put_other (by omega), show k + (j + 1) = k + 1 + j from by omega]
          exact hcs j (by simpa using hj)
      have hcs := Lib.hid hcs'
      obtain ⟨v', hv'⟩ := hv'
      clear hcs'
      obtain rfl : d = a.toNat := by omega
      have a16 : a < 16 := by omega
      clear hF had h16 a1
      have hal : Tryd.prog.arrayLen 79 = 65 := by kernel_rfl
      have hsl : ∀ W, (Instr.sliceAt 79 (.pointer (some ⟨w.heap.size, 0, none⟩)) (some (.int .i64 k)) none none).run Tryd.prog W = .ok (.slice (some ⟨w.heap.size, k, none⟩) ((hexs u0).length + 1) ((hexs u0).length + 1)) W := fun W => by
        rw [run_sliceAt_array_l W 79 ⟨w.heap.size, 0, none⟩ (by kernel_rfl) .i64 (k : Int) (by omega) (by rw [hal]; omega)]
        rw [hal, show Tryd.prog.elem 79 = 5 from by kernel_rfl]
        go_simp
        omega
      have hcv := run_convert_bytes_back (P := Tryd.prog) _ 67 9 5 ⟨w.heap.size, k, none⟩ (45 :: hexs u0 : List UInt8).length (45 :: hexs u0) Tryd.underlying67 Tryd.underlying5 Tryd.underlying9 (fun j hj => (congrArg _ (add_at _ _ _)).trans (hcs.out j hj))
      rw [List.length_cons] at hcv
      clear hal
      go_wp2
      go_ret2
      exact ⟨rfl, (hB.out.setCell (Nat.le_refl _) _).setCell (Nat.le_refl _) _⟩

theorem formatInt_any (v : Int) (h0 : -2139095039 ≤ v) (h1 : v ≤ 2139095039) (w : World) (h : tabAt16 w) :
    Calls Tryd.prog 26 #[.int .i64 v, .int .i64 16] w fun e w' => e = .returned (.string ⟨(fmt v).toArray⟩) ∧ Below w.heap.size w w' := by
  by_cases hn : v < 0
  · have e : fmt v = 45 :: hexs v.natAbs := by unfold fmt; rw [if_pos hn]
    have hU : IntKind.u64.wrap (-(IntKind.u64.wrap v)) = (v.natAbs : Int) := by
      have : ∀ n, IntKind.u64.wrap n = n % 18446744073709551616 := fun n => by simp [IntKind.wrap, IntKind.bits, IntKind.signed]
      rw [this, this]
      omega
    have c := formatBits_neg v.natAbs (by omega) (IntKind.u64.wrap v) hU w h
    rw [← e] at c
    clear e hU h
    generalize fmt v = l at c
    go_enter Tryd.func26, Tryd.ntmps26
    go_wp2_with (go_at_call 41; (with_reducible refine c.mono ?_); rintro e w' ⟨rfl, hB⟩; have hB := Lib.hid hB)
    go_ret
    exact ⟨rfl, hB.out⟩
  · have e : fmt v = hexs v.natAbs := by unfold fmt; rw [if_neg hn]
    have hU : (v.natAbs : Int) = v := by omega
    have c := formatBits_pos v.natAbs (by omega) w h
    rw [← e, hU] at c
    clear e hU h
    generalize fmt v = l at c
    go_enter Tryd.func26, Tryd.ntmps26
    go_wp2_with (go_at_call 41; (with_reducible refine c.mono ?_); rintro e w' ⟨rfl, hB⟩; have hB := Lib.hid hB)
    go_ret
    exact ⟨rfl, hB.out⟩
theorem formatIntP_any (v : Int) (h0 : -2139095039 ≤ v) (h1 : v ≤ 2139095039) (w : World) (h : tabAt16 w) :
    Calls Tryd.prog 20 #[.int .i64 v, .int .i64 16] w fun e w' => e = .returned (.string ⟨(fmt v).toArray⟩) ∧ Below w.heap.size w w' := by
  have c := formatInt_any v h0 h1 w h
  clear h
  generalize fmt v = l at c
  go_enter Tryd.func20, Tryd.ntmps20
  go_wp2_with (go_at_call 26; (with_reducible refine c.mono ?_); rintro e w' ⟨rfl, hB⟩; have hB := Lib.hid hB)
  go_ret
  exact ⟨rfl, hB.out⟩
end Go.Proofs.YtobhhopfimnknaaDoor
