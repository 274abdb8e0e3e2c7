/- Walks: TurnOfParts of the program. -/
import Derived.Test.YtbojaddojhemeaaTe
namespace Go.Proofs.Ytbojaddojhemeaa
open Ieee Go.Flt Go.RowKit

/-- Which of four numbers is the first that is none, if one is. -/
theorem index4_any (x0 x1 x2 x3 : Nat) (t : Bool) (ht : t = true ↔ (single.fin x0 ∧ single.fin x1 ∧ single.fin x2 ∧ single.fin x3)) : ∃ r : Int, (!decide (0 ≤ r)) = t ∧
    ∀ (b : Nat) (a : Addr) (w : World), w.cell? a = some (.func (.func 45) #[] #[]) → w.cell? ⟨b, 0, none⟩ = some (.float .f32 x0) → w.cell? ⟨b, 1, none⟩ = some (.float .f32 x1) → w.cell? ⟨b, 2, none⟩ = some (.float .f32 x2) → w.cell? ⟨b, 3, none⟩ = some (.float .f32 x3) →
      Calls Try.prog 102 #[.slice (some ⟨b, 0, none⟩) 4 4, .func (.func 90) #[] #[.pointer (some a)]] w fun e w' => e = .returned (.int .i64 r) ∧ ∃ n, w.drewN n = w' := by
  have tf : ¬ (single.fin x0 ∧ single.fin x1 ∧ single.fin x2 ∧ single.fin x3) → t = false := fun h => by
    cases t with
    | false => rfl
    | true => exact absurd (ht.1 rfl) h
  by_cases h0 : single.fin x0
  · by_cases h1 : single.fin x1
    · by_cases h2 : single.fin x2
      · by_cases h3 : single.fin x3
        · exact ⟨-1, by rw [ht.2 ⟨h0, h1, h2, h3⟩]; rfl, fun b a w c d0 d1 d2 d3 => index4_all b a x0 x1 x2 x3 h0 h1 h2 h3 w c d0 d1 d2 d3⟩
        · exact ⟨3, by rw [tf (fun h => h3 h.2.2.2)]; rfl, fun b a w c d0 d1 d2 d3 => index4_at3 b a x0 x1 x2 x3 h0 h1 h2 h3 w c d0 d1 d2 d3⟩
      · exact ⟨2, by rw [tf (fun h => h2 h.2.2.1)]; rfl, fun b a w c d0 d1 d2 _ => index4_at2 b a x0 x1 x2 h0 h1 h2 w c d0 d1 d2⟩
    · exact ⟨1, by rw [tf (fun h => h1 h.2.1)]; rfl, fun b a w c d0 d1 _ _ => index4_at1 b a x0 x1 h0 h1 w c d0 d1⟩
  · exact ⟨0, by rw [tf (fun h => h0 h.1)]; rfl, fun b a w c d0 _ _ _ => index4_at0 b a x0 h0 w c d0⟩

theorem areAll4 (x0 x1 x2 x3 : Nat) (t : Bool) (ht : t = true ↔ (single.fin x0 ∧ single.fin x1 ∧ single.fin x2 ∧ single.fin x3)) (b : Nat) (w : World) (d0 : w.cell? ⟨b, 0, none⟩ = some (.float .f32 x0)) (d1 : w.cell? ⟨b, 1, none⟩ = some (.float .f32 x1)) (d2 : w.cell? ⟨b, 2, none⟩ = some (.float .f32 x2)) (d3 : w.cell? ⟨b, 3, none⟩ = some (.float .f32 x3)) :
    Calls Try.prog 58 #[.slice (some ⟨b, 0, none⟩) 4 4, .func (.func 45) #[] #[]] w fun e w' => e = .returned (.bool t) ∧ ∃ n, (w.alloc (.cells #[.func (.func 45) #[] #[]] 31)).drewN n = w' := by
  obtain ⟨r, hr, hc⟩ := index4_any x0 x1 x2 x3 t ht
  rw [← hr]
  have hb : b < w.heap.size := World.block_lt_of_cell? w _ d0
  exact areAll_at _ r w (hc b _ _ (by simp [go_sem]) (by simp [go_sem, *]) (by simp [go_sem, *]) (by simp [go_sem, *]) (by simp [go_sem, *]))

set_option maxRecDepth 100000 in
theorem toldT_ok (b o : Nat) (v0 v1 v2 v3 v4 v5 v6 v7 : Nat) (w : World) (hc : w.cell? ⟨b, o, none⟩ = some (.int .i64 0)) :
    Calls Try.prog 59 #[.pointer (some ⟨b, o, none⟩), .agg #[.complex .f32 v0 v1, .complex .f32 v2 v3, .complex .f32 v4 v5, .complex .f32 v6 v7]] w fun e w' => e = .returned (.tuple #[.agg #[.complex .f32 v0 v1, .complex .f32 v2 v3, .complex .f32 v4 v5, .complex .f32 v6 v7], .int .i64 0]) ∧ (w.alloc (.cells #[.complex .f32 v0 v1, .complex .f32 v2 v3, .complex .f32 v4 v5, .complex .f32 v6 v7] 46)).alloc (.cells #[.complex .f32 v0 v1, .complex .f32 v2 v3, .complex .f32 v4 v5, .complex .f32 v6 v7] 46) = w' := by
  have hb : b < w.heap.size := World.block_lt_of_cell? w _ hc
  go_enter Try.func59, Try.ntmps59
  go_wp2
  go_returns
  exact ⟨rfl, rfl⟩

set_option maxRecDepth 100000 in
set_option maxHeartbeats 1600000 in
theorem iTurn_ok (x0 x1 x2 x3 n1 n2 n3 : Nat) (e1 : Op.negFloat .f32 x1 = n1) (e2 : Op.negFloat .f32 x2 = n2) (e3 : Op.negFloat .f32 x3 = n3)
    (hx : single.fin x0 ∧ single.fin x1 ∧ single.fin x2 ∧ single.fin x3) (m1 : single.fin n1) (m2 : single.fin n2) (m3 : single.fin n3) (w : World) :
    Calls Try.prog 28 #[.agg #[.float .f32 x0, .float .f32 x1, .float .f32 x2, .float .f32 x3]] w fun e w' => e = .returned (.tuple #[.agg #[.complex .f32 (clr x0) (clr n3), .complex .f32 (clr n2) (clr n1), .complex .f32 (clr x2) (clr n1), .complex .f32 (clr x0) (clr x3)], .int .i64 0]) ∧ Grown w w' := by
  have ar := areAll4 x0 x1 x2 x3 true ⟨fun _ => hx, fun _ => rfl⟩
  have op := fun b o => ofParts_fin b o x0 x1 x2 x3 n1 n2 n3 e1 e2 e3 hx.1 hx.2.2.1 hx.2.2.2 m1 m2 m3
  have td := toldT_ok
  clear hx m1 m2 m3 e1 e2 e3
  go_enter Try.func28, Try.ntmps28
  go_wp2_with (first | (go_at_call 58; (with_reducible refine (ar _ _ ?_ ?_ ?_ ?_).mono ?_); (simp [go_sem]); (simp [go_sem]); (simp [go_sem]); (simp [go_sem]); rintro e w' ⟨rfl, n, rfl⟩) | (go_at_call 60; (with_reducible refine (op _ _ _ ?_).mono ?_); (simp [go_sem]); rintro e w' ⟨rfl, rfl⟩) | (go_at_call 59; (with_reducible refine (td _ _ _ _ _ _ _ _ _ _ _ ?_).mono ?_); (simp [go_sem]); rintro e w' ⟨rfl, rfl⟩))
  go_returns
  exact ⟨rfl, grown_drewN_of (by go_grown) _⟩

set_option maxRecDepth 100000 in
theorem iTurn_bad (x0 x1 x2 x3 : Nat) (hx : ¬ (single.fin x0 ∧ single.fin x1 ∧ single.fin x2 ∧ single.fin x3)) (w : World) :
    Calls Try.prog 28 #[.agg #[.float .f32 x0, .float .f32 x1, .float .f32 x2, .float .f32 x3]] w fun e w' => e = .returned (.tuple #[.agg #[.complex .f32 0 0, .complex .f32 0 0, .complex .f32 0 0, .complex .f32 0 0], .int .i64 1]) ∧ Grown w w' := by
  have ar := areAll4 x0 x1 x2 x3 false ⟨fun h => (Bool.false_ne_true h).elim, fun h => absurd h hx⟩
  clear hx
  go_enter Try.func28, Try.ntmps28
  go_wp2_with (go_at_call 58; (with_reducible refine (ar _ _ ?_ ?_ ?_ ?_).mono ?_); (simp [go_sem]); (simp [go_sem]); (simp [go_sem]); (simp [go_sem]); rintro e w' ⟨rfl, n, rfl⟩)
  go_returns
  exact ⟨rfl, grown_drewN_of (by go_grown) _⟩
end Go.Proofs.Ytbojaddojhemeaa
