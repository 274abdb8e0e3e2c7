/- A slice of bytes that came in, read again behind a call that only grows the world. -/
import Derived.Test.YtbojaddojhemeaaFg
import Derived.ProofKit
import Derived.OpenShut
namespace Go.Flt
open Ieee Go.RowKit Go.ChangeShapes Go.WideShapes Go.ChangeAt

theorem grown_block {w w' : World} (h : Grown w w') {b : Nat} (hb : b < w.heap.size) : w'.heap[b]? = w.heap[b]? := by
  have hk := h.1.2.2 b hb
  cases h1 : w.heap[b]? with
  | none => simp at h1; omega
  | some o =>
    rw [h1] at hk
    cases h2 : w'.heap[b]? with
    | none => rw [h2] at hk; cases o <;> cases hk
    | some o' =>
      rw [h2] at hk
      cases o <;> cases o' <;> simp only at hk
      case cells.cells c t fr c' t' fr' =>
        obtain ⟨rfl, rfl, hs, he⟩ := hk
        have : c' = c := Array.ext_getElem? fun j => he j (fun f => f)
        rw [this]
      case map.map es k es' k' =>
        rcases hk with hk | ⟨rfl, rfl⟩
        · exact hk.elim
        · rfl
      all_goals first | exact hk | exact absurd hk (by simp) | (rw [hk])
theorem grown_same {w w' : World} (h : Grown w w') : ∀ {p : MemPlace}, p.block < w.heap.size → w.sameAt w' p
  | .cell b off, hp => by
    show w'.cell? ⟨b, off, none⟩ = w.cell? ⟨b, off, none⟩
    unfold World.cell?
    rw [show w'.heap[({ block := b, off := off, spot := none } : Addr).block]? = w.heap[({ block := b, off := off, spot := none } : Addr).block]? from grown_block h hp]
  | .map b, hp => grown_block h hp

theorem bytes_of {H : Type} {enc : TypeId × Value → H} {P : Program} {t e : TypeId} (ht : P.underlying t = some (.slice e)) (he : P.underlying e = some (.int .u8)) (hc : P.cellsOf e = 1) {W : World} {a0 : Option Addr} {len cap : Nat} {d0 : DataW H} {p : List MemPlace}
    (h0 : DataW.Trod enc P W 0 (fun _ => true) true t (.slice a0 len cap) d0 p) : Flt.Bytes W a0 len := by
  obtain ⟨fuel, hf⟩ := h0
  rcases open_ints ht he hc hf with ⟨hcs, hx⟩ | ⟨a, len', cap', zs, hcs, _, hl, hm, hz, hx, hcell, hwz⟩
  · simp [Value.cells] at hcs
    exact .inl hcs.2.1
  · simp [Value.cells] at hcs
    obtain ⟨rfl, rfl, rfl⟩ := hcs
    simp only [if_true] at hz
    by_cases h0 : len = 0
    · exact .inl h0
    · obtain ⟨b, off, s⟩ := a
      obtain rfl : s = none := by simpa [Addr.add] using World.cell?_spot (hcell 0 (by omega))
      refine .inr ⟨b, off, rfl, fun i hi => ?_⟩
      have hi' : i < zs.length := by omega
      have hw := hwz (zs.getD i 0) (by simp [List.getD, hi'])
      have h1 : IntKind.u8.min = 0 := rfl
      have h2 : IntKind.u8.max = 255 := rfl
      simp only [Lit.wf, Bool.and_eq_true, decide_eq_true_eq] at hw
      have := hcell i hi'
      rw [add_plain] at this
      exact ⟨_, by omega, by omega, this⟩
end Go.Flt
