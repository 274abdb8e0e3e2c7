/- The statement of FnExactParseComplex, as a tied card: for every text the call returns true, and the text reads as before; the package-level variables that the library's code reads begin as the program's text lays them. -/
import Derived.Test.YtobhhopfimnknaaDoorRows
import Derived.Test.YtobhhopfimnknaaDoorCards
import Derived.Test.YtobhhopfimnknaaDoorTie
import Derived.Test.YtobhhopfimnknaaDoorXl
import Derived.ProofKit
import Derived.OpenShut
import Derived.LaidLaws
import Derived.LaidHandle
import Derived.LaidMore
import Derived.Stop.Joined
import Derived.SevenTiedAt
namespace Go.Proofs.YtobhhopfimnknaaDoor.fnExactParseComplex
open Go.ChangeShapes Go.WideShapes Go.ChangeAt Go.RowKit Go.ChangeMaps
set_option linter.unusedVariables false

theorem own : ownKnob Tryd.prog.godebug = none := by kernel_rfl

/-- The door's own heap meets the condition. -/
theorem door_met (os : Os) (args : Array Value) : laidMetH Tryd.prog Rows.fnExactParseComplexRow.laid ((World.doorLaid Tryd.prog 400 os).forCall (fun _ _ => 0) ⟨#[], args, []⟩).memory :=
  laidMetH_of_parts3 (fuel := 8) (laidMet_of_run' 8 (by kernel_rfl) (by kernel_rfl)) (by kernel_rfl) (by kernel_rfl)

/-- What the condition gives the walks. -/
theorem of_laid {W : World} (h : laidMetH Tryd.prog Rows.fnExactParseComplexRow.laid W) : Glob W := by
  rw [MakeChecks.laidMetH_plain _ _ _ (by kernel_rfl)] at h
  obtain ⟨ps, ⟨g0, t0, cs0, f0, p0, q0, hg0, ht0, hv0, hd0, ⟨g1, t1, cs1, f1, p1, q1, hg1, ht1, hv1, hd1, ⟨g2, t2, cs2, f2, p2, q2, hg2, ht2, hv2, hd2, ⟨g3, t3, cs3, f3, p3, q3, hg3, ht3, hv3, hd3, ⟨g4, t4, cs4, f4, p4, q4, hg4, ht4, hv4, hd4, _, _⟩, _⟩, _⟩, _⟩, _⟩, _, _⟩ := h
  obtain rfl : g1 = 6 := Option.some.inj (hg1.symm.trans (by kernel_rfl))
  obtain rfl : g3 = 3 := Option.some.inj (hg3.symm.trans (by kernel_rfl))
  obtain rfl : g4 = 2 := Option.some.inj (hg4.symm.trans (by kernel_rfl))
  obtain rfl : t1 = 88 := Option.some.inj (ht1.symm.trans (by kernel_rfl))
  obtain rfl : t3 = 42 := Option.some.inj (ht3.symm.trans (by kernel_rfl))
  obtain rfl : t4 = 42 := Option.some.inj (ht4.symm.trans (by kernel_rfl))
  refine ⟨?_, ?_, ?_⟩
  · obtain ⟨xs, m1, rfl, hx1, hlen, hn, hel⟩ := DataW.trod_array Tryd.underlying88 hd1
    have c5 : Tryd.prog.cellsOf 5 = 1 := by kernel_rfl
    have h15 := hel 15 (by decide)
    have hagg : (Rows.laid_math_bits_deBruijn64tab : DataW Unit) = .agg (xs.map (·.1)) := (Prod.mk.inj hx1).1
    have hm : (xs.map (·.1))[15]? = some (.lit (.int .u8 4)) := by
      unfold Rows.laid_math_bits_deBruijn64tab at hagg
      rw [← DataW.agg.inj hagg]
      rfl
    rw [List.getElem?_map] at hm
    obtain ⟨x, hx, hx4⟩ := Option.map_eq_some_iff.1 hm
    rw [hx, c5] at h15
    obtain ⟨k, e1, e2, _⟩ := DataW.trod_int Tryd.underlying5 h15
    have hk : k = 4 := by
      rw [e2] at hx4
      simpa using hx4
    subst hk
    have hc := World.var?_cell hg1 hv1 15
    have hcs : cs1[15]? = some (.int .u8 4) := by
      have := congrArg (fun l => l[0]?) e1
      simpa using this
    unfold tabAt16
    rw [hc]
    exact hcs
  · obtain ⟨_, u, v, hcs, _, _⟩ := iface_of_trod Tryd.underlying42 hd4
    have hc := World.var?_cell hg4 hv4 0
    refine ⟨.iface u v, ?_, .inr ⟨u, v, rfl⟩⟩
    rw [Array.eq_one_of_toList hcs] at hc
    simpa using hc
  · obtain ⟨_, u, v, hcs, _, _⟩ := iface_of_trod Tryd.underlying42 hd3
    have hc := World.var?_cell hg3 hv3 0
    refine ⟨.iface u v, ?_, .inr ⟨u, v, rfl⟩⟩
    rw [Array.eq_one_of_toList hcs] at hc
    simpa using hc

set_option maxRecDepth 100000 in
theorem lifted (os : Os) (started : os.Started) (H : Type) (enc : TypeId × Value → H) :
    ReturnsInHanded {} Tryd.checked os 3 .any (fun w args => (Rows.fnExactParseComplexSpec.pre enc Tryd.prog Tryd.f3 [] false w args ∧ laidMetH Tryd.prog Rows.fnExactParseComplexRow.laid w) ∧ sizedMet enc Tryd.prog Tryd.f3 (OpenSpec.ofChange Rows.fnExactParseComplexSpec) false w args)
      (Rows.fnExactParseComplexSpec.post enc Tryd.prog Tryd.f3 false true false false) := by
  refine returnsInHanded_of_change_and (C := Tryd.checked) (X := fun w _ => laidMetH Tryd.prog Rows.fnExactParseComplexRow.laid w) (fun _ _ _ hh h => h.of_heap hh) own started (by kernel_rfl) Tryd.func3
    (ChangeSpec.witness_shaped (enc := enc) (C := Tryd.checked) (os := os) (X := fun w _ => laidMetH Tryd.prog Rows.fnExactParseComplexRow.laid w) false (World.doorLaid Tryd.prog 400 os) #[.string ⟨#[]⟩] 8 rfl (World.shaped_of_RefB (by kernel_rfl) (by kernel_rfl)) (by kernel_rfl) (by kernel_rfl) (by kernel_rfl) (door_met os _)) ?_
  intro W base args ds gs before hval0 hW _ _ hL _
  have hval : ∀ (j : Nat) t v, Tryd.f3.params[j]? = some t → args[j]? = some v → Value.okWide Tryd.prog W .any base t v := hval0
  have hW' := hW
  obtain ⟨p, q, hA0, hV, rfl, hfz, hnd⟩ := hW
  have hA : DataW.TrodAll enc Tryd.prog W 0 (fun _ => true) true Tryd.f3.params.toList args.toList ds p := hA0
  rw [Tryd.params3] at hA hval
  obtain ⟨v0, d0, rfl, rfl, h0⟩ := trodAll_one hA
  obtain ⟨rfl, rfl⟩ := trodVars_none hV
  obtain ⟨s, rfl, rfl, rfl, ws⟩ := open_string Tryd.underlying9 (hval 0 9 v0 rfl rfl) h0
  have hG := of_laid hL
  clear hA0 hval0
  simp only [List.append_nil] at hW'
  have e1 : (Rows.fnExactParseComplexSpec.fn H ([.lit (.string s.data.toList)] ++ [])) = { results := [.lit (.bool true)], args := [.lit (.string s.data.toList)] } := rfl
  refine (fnParse_any s (by unfold maxLen at ws; omega) W hG).mono fun e W' ⟨he, hB⟩ => ?_
  subst he
  refine ⟨_, rfl, _, _, _, [], [], [], hW', ?_, ?_, ?_, hB.frame _, fun h => by cases h⟩
  · rw [e1]; exact trodAll_mk1 (shut_bool Tryd.underlying4 true)
  · rw [e1]; exact trodAll_mk1 (shut_string Tryd.underlying9 ws)
  · rw [e1]; rfl

theorem row_holds : Rows.FnExactParseComplexSaid :=
  OpenClaim.holds_of_wide 3 Tryd.f3 rfl rfl rfl rfl rfl rfl rfl ⟨rfl, rfl, rfl, rfl, rfl⟩ rfl rfl rfl rfl rfl (by kernel_rfl) Tryd.func3 (by kernel_rfl)
    (of_decide_eq_true (by kernel_rfl)) (by unfold Func.isWrapper; first | (rw [if_pos (by decide +kernel)]; kernel_rfl) | (rw [if_neg (by decide +kernel)]; exact ⟨rfl, rfl⟩))
    (fun os started H enc _ => lifted os started H enc)

/-- The statement: the tied card. -/
theorem proved : Rows.FnExactParseComplexCardSaid :=
  Claim7.holds_tied_plain_at .later [] [.data, .data, .data, .sentinel, .sentinel] true (true, "3b4b5c8f4ec53c99c2e7e5a47e5c67f0acaa730b4a4b068ab208dfee37687d3c") true
    row_holds (fun _ h => by cases h) (by kernel_rfl) (fun _ h => by cases h) fnExactParseComplex_row_tie rfl ⟨rfl, rfl⟩ (by kernel_rfl) rfl
    (fun f fn hf hfn => by
      obtain rfl : f = 3 := Option.some.inj (hf.symm.trans (by kernel_rfl))
      obtain rfl : fn = Tryd.f3 := (Option.some.inj (Tryd.func3.symm.trans hfn)).symm
      exact ⟨by kernel_rfl, fun j t ht => by
        rw [Tryd.params3] at ht
        have hm : t ∈ [9] := by simpa using Array.mem_of_getElem? ht
        have hall : ([9].all fun u => !Tryd.prog.wantsStandIn u) = true := by kernel_rfl
        exact (show Tryd.prog.wantsStandIn t = false by simpa using List.all_eq_true.1 hall t hm)⟩)
    (by kernel_rfl)
#print axioms proved
end Go.Proofs.YtobhhopfimnknaaDoor.fnExactParseComplex
