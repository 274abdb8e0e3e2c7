/- Worlds that have grown: small laws for regions that draw their order. -/
import Derived.Test.YtbojaddojhemeaaCal
import Derived.Below
namespace Go.Flt
open Ieee

/-- What lies below a new block does not hang on what that block holds. -/
theorem alloc_swap {w : World} {o o' : Obj} {b i : Nat} {v : Value} (hb : b < w.heap.size) (h : (w.alloc o).cell? ⟨b, i, none⟩ = some v) : (w.alloc o').cell? ⟨b, i, none⟩ = some v := by
  have e : ∀ o, (w.alloc o).heap[b]? = w.heap[b]? := fun o => RowKit.Below.heap_alloc w o b hb
  unfold World.cell? at h ⊢
  rw [e] at h ⊢
  exact h

/-- A result of three cells and a code, laid behind a region that draws its order. -/
def Ready (B : World) (s u : Value) (r0 r1 r2 : Value) (c : Int) (wx : World) : Prop :=
  ∃ b : Nat, s = .pointer (some ⟨b, 0, none⟩) ∧ u = .int .i64 c ∧ RowKit.Grown B wx ∧ wx.cell? ⟨b, 0, none⟩ = some r0 ∧ wx.cell? ⟨b, 1, none⟩ = some r1 ∧ wx.cell? ⟨b, 2, none⟩ = some r2
theorem cell_new (w : World) (c : Array Value) (t : TypeId) (i : Nat) {v : Value} (h : c[i]? = some v) : (w.alloc (.cells c t)).cell? ⟨w.heap.size, i, none⟩ = some v := by
  have e : (w.alloc (.cells c t)).heap[w.heap.size]? = some (.cells c t) := (MapKept.heap_alloc w _).1
  unfold World.cell?
  rw [e]
  simpa using h
theorem Ready.of {B w3 : World} {r0 r1 r2 : Value} {c : Int} {t : TypeId} (g : RowKit.Grown B w3) :
    Ready B (.pointer (some ⟨w3.heap.size, 0, none⟩)) (.int .i64 c) r0 r1 r2 c (w3.alloc (.cells #[r0, r1, r2] t)) :=
  ⟨w3.heap.size, rfl, rfl, g.alloc _ _, cell_new w3 _ t 0 rfl, cell_new w3 _ t 1 rfl, cell_new w3 _ t 2 rfl⟩
theorem Ready.set {B w1 : World} {b : Nat} {r0 r1 r2 u0 u1 u2 : Value} {c : Int} (hb : B.heap.size ≤ b) (g : RowKit.Grown B w1) (h0 : w1.cell? ⟨b, 0, none⟩ = some u0) (h1 : w1.cell? ⟨b, 1, none⟩ = some u1) (h2 : w1.cell? ⟨b, 2, none⟩ = some u2) :
    Ready B (.pointer (some ⟨b, 0, none⟩)) (.int .i64 c) r0 r1 r2 c (((w1.setCell ⟨b, 0, none⟩ r0).setCell ⟨b, 1, none⟩ r1).setCell ⟨b, 2, none⟩ r2) := by
  refine ⟨b, rfl, rfl, ((g.setCell hb _).setCell hb _).setCell hb _, ?_, ?_, ?_⟩ <;> simp [go_sem, h0, h1, h2]
theorem grown3 {a b c d : World} (h3 : RowKit.Grown c d) (h2 : RowKit.Grown b c) (h1 : RowKit.Grown a b) : RowKit.Grown a d := grown_trans (grown_trans h1 h2) h3
end Go.Flt
