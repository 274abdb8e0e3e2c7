/- Worlds in which one cell is written anew: laws for the calculator's code. -/
import Derived.WalkKit
import Derived.Deep.Draws
import Derived.Test.YtbojaddojhemeaaFlt
namespace Go.Flt
open Ieee

theorem setCell_self {w : World} {a : Addr} {v : Value} (h : w.cell? a = some v) : w.setCell a v = w := by
  unfold World.cell? at h
  have key : (w.setCell a v).heap = w.heap := by
    unfold World.setCell
    refine Array.ext_getElem? fun i => ?_
    simp only [Array.getElem?_modify]
    by_cases hi : a.block = i
    · rw [if_pos hi]
      subst hi
      cases hb : w.heap[a.block]? with
      | none => rfl
      | some o =>
        rw [hb] at h
        cases o with
        | cells c e fr =>
          simp only at h
          by_cases hs : a.spot.isSome = true
          · rw [if_pos hs] at h; cases h
          · rw [if_neg hs] at h
            simp only [Option.map_some, if_neg hs]
            congr 2
            refine Array.ext_getElem? fun j => ?_
            rw [Array.getElem?_setIfInBounds]
            by_cases hj : a.off = j
            · subst hj
              rw [if_pos rfl, h]
              have := (Array.getElem?_eq_some_iff.1 h).1
              rw [if_pos this]
            · rw [if_neg hj]
        | _ => rfl
    · rw [if_neg hi]
  have e : w.setCell a v = { w with heap := (w.setCell a v).heap } := rfl
  rw [e, key]

@[go_sem] theorem setCell_drewN (w : World) (n : Nat) (a : Addr) (v : Value) : (w.drewN n).setCell a v = (w.setCell a v).drewN n := rfl
@[go_sem] theorem alloc_drewN (w : World) (n : Nat) (o : Obj) : (w.drewN n).alloc o = (w.alloc o).drewN n := rfl
@[go_sem] theorem setCell_setCell (w : World) (a : Addr) (u v : Value) : (w.setCell a u).setCell a v = w.setCell a v := by
  unfold World.setCell
  congr 1
  refine Array.ext_getElem? fun i => ?_
  rw [Array.getElem?_modify, Array.getElem?_modify, Array.getElem?_modify]
  by_cases hi : a.block = i
  · simp only [if_pos hi]
    cases w.heap[i]? with
    | none => rfl
    | some o =>
      cases o with
      | cells c e fr =>
        simp only [Option.map_some]
        by_cases hs : a.spot.isSome = true
        · simp only [if_pos hs]
        · simp only [if_neg hs, Array.setIfInBounds_setIfInBounds]
      | _ => rfl
  · simp only [if_neg hi]

@[go_sem] theorem run_store_float (P : Program) (w : World) (a : Addr) (m : Mode) (k : FloatKind) (b : Nat) : (store a (.float k b) m).run P w = stored P w a (.float k b) m := run_store P w a _ m rfl
@[go_sem] theorem run_store_complex (P : Program) (w : World) (a : Addr) (m : Mode) (k : FloatKind) (x y : Nat) : (store a (.complex k x y) m).run P w = stored P w a (.complex k x y) m := run_store P w a _ m rfl

theorem grown_drewN_of {w w' : World} (h : RowKit.Grown w w') (n : Nat) : RowKit.Grown w (w'.drewN n) := h
theorem grown_cell {w w' : World} (h : RowKit.Grown w w') {a : Addr} {v : Value} (hc : w.cell? a = some v) : w'.cell? a = some v := by
  have hb := World.block_lt_of_cell? w _ hc
  have hk := h.1.2.2 a.block hb
  unfold World.cell? at hc ⊢
  cases h1 : w.heap[a.block]? with
  | none => rw [h1] at hc; cases hc
  | some o =>
    rw [h1] at hc hk
    cases o with
    | cells c t fr =>
      cases h2 : w'.heap[a.block]? with
      | none => rw [h2] at hk; cases hk
      | some o' =>
        rw [h2] at hk
        cases o' with
        | cells c' t' fr' =>
          simp only at hk hc ⊢
          by_cases hs : a.spot.isSome = true
          · rw [if_pos hs] at hc; cases hc
          · rw [if_neg hs] at hc ⊢
            rw [hk.2.2.2 a.off (fun f => f)]
            exact hc
        | _ => cases hk
    | _ => cases hc
theorem grown_trans {a b c : World} (h : RowKit.Grown a b) (k : RowKit.Grown b c) : RowKit.Grown a c :=
  ⟨World.keptBut_trans h.1 k.1, fun x => (k.2.1 x).trans (h.2.1 x), Nat.le_trans h.2.2 k.2.2⟩
end Go.Flt
