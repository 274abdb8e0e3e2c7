/- Texts: a text parted at its commas, by the reference. -/
import Derived.Test.YtobhhopfimnknaaDoorXj
import Derived.Laws.AppendOwn
import Derived.Laws.OwnMore
import Derived.OwnWalk
import Derived.Laws.DeepStrings4
namespace Go.Hex
def glue (p : List UInt8) : List (List UInt8) → List (List UInt8)
  | [] => [p]
  | h :: t => (p ++ h) :: t
/-- The parts of a text between its commas. -/
def splitc : List UInt8 → List (List UInt8)
  | [] => [[]]
  | c :: r => if c = 44 then [] :: splitc r else glue [c] (splitc r)
theorem splitc_comma (r : List UInt8) : splitc (44 :: r) = [] :: splitc r := by rw [splitc, if_pos rfl]
theorem splitc_other {c : UInt8} (r : List UInt8) (h : c ≠ 44) : splitc (c :: r) = glue [c] (splitc r) := by rw [splitc, if_neg h]
theorem glue_glue (p q : List UInt8) (x : List (List UInt8)) : glue p (glue q x) = glue (p ++ q) x := by
  cases x with
  | nil => rfl
  | cons h t => simp [glue]
theorem splitc_ne (l : List UInt8) : splitc l ≠ [] := by
  cases l with
  | nil => simp [splitc]
  | cons c r =>
    by_cases h : c = 44
    · subst h; rw [splitc_comma]; simp
    · rw [splitc_other _ h]; cases splitc r <;> simp [glue]
theorem glue_nil {x : List (List UInt8)} (h : x ≠ []) : glue [] x = x := by
  cases x with
  | nil => exact absurd rfl h
  | cons a t => rfl
theorem split_none {l : List UInt8} (h : cutc l = none) : splitc l = [l] := by
  induction l with
  | nil => rfl
  | cons c r ih =>
    unfold cutc at h
    by_cases hc : c = 44
    · rw [if_pos hc] at h; cases h
    · rw [if_neg hc] at h
      cases hr : cutc r with
      | some p => rw [hr] at h; cases h
      | none => rw [splitc_other _ hc, ih hr]; rfl
theorem split_some {l a b : List UInt8} (h : cutc l = some (a, b)) : splitc l = a :: splitc b := by
  induction l generalizing a with
  | nil => cases h
  | cons c r ih =>
    unfold cutc at h
    by_cases hc : c = 44
    · rw [if_pos hc] at h
      cases h
      rw [hc, splitc_comma]
    · rw [if_neg hc] at h
      cases hr : cutc r with
      | none => rw [hr] at h; cases h
      | some p =>
        obtain ⟨a', b'⟩ := p
        rw [hr] at h
        cases h
        rw [splitc_other _ hc, ih hr]
        rfl
theorem hexv_mem {l : List UInt8} {c : UInt8} (h : c ∈ l) (hc : hexd c = none) : ∀ n, hexv n l = none := by
  induction l with
  | nil => cases h
  | cons b r ih =>
    intro n
    simp only [hexv]
    rcases List.mem_cons.1 h with e | e
    · subst e; rw [hc]
    · cases hexd b with
      | none => rfl
      | some d => exact ih e _
theorem seen_comma {l : List UInt8} (h : (44 : UInt8) ∈ l) : seen l = none := by
  have hd : (44 : UInt8) ∈ digits l := by
    unfold digits
    split
    · rename_i hn
      cases l with
      | nil => cases h
      | cons c r =>
        unfold neg at hn
        simp at hn
        rcases List.mem_cons.1 h with e | e
        · rw [hn] at e; exact absurd e (by decide)
        · exact e
    · exact h
  unfold seen
  rw [hexv_mem hd (by decide)]
  split <;> rfl
theorem both_none {l : List UInt8} (h : (splitc l).length ≠ 2) : both l = none := by
  unfold both
  cases hc : cutc l with
  | none => rfl
  | some ab =>
    obtain ⟨a, b⟩ := ab
    cases hb : cutc b with
    | none =>
      rw [split_some hc, split_none hb] at h
      exact absurd rfl h
    | some xy =>
      obtain ⟨x, y⟩ := xy
      have hs := seen_comma (l := b) (by rw [(cutc_some hb).2]; simp)
      simp only [hs]
      cases seen a <;> rfl
theorem both_two {l a b : List UInt8} (h : splitc l = [a, b]) : both l = match seen a, seen b with | some p, some q => some (p, q) | _, _ => none := by
  unfold both
  cases hc : cutc l with
  | none => rw [split_none hc] at h; cases h
  | some ab =>
    obtain ⟨a', b'⟩ := ab
    rw [split_some hc] at h
    cases hb : cutc b' with
    | none =>
      rw [split_none hb] at h
      cases h
      rfl
    | some xy =>
      obtain ⟨x, y⟩ := xy
      rw [split_some hb] at h
      injection h with h1 h2
      injection h2 with h3 h4
      exact absurd h4 (splitc_ne _)

/-- Parted so far. -/
def Sp (l : List UInt8) (P : List ByteArray) (at' k : Nat) : Prop := splitc l = P.map (fun s => s.data.toList) ++ glue ((l.take k).drop at') (splitc (l.drop k))
theorem Sp.start (l : List UInt8) : Sp l [] 0 0 := by
  unfold Sp
  simp only [List.map_nil, List.nil_append, List.take_zero, List.drop_nil, List.drop_zero]
  exact (glue_nil (splitc_ne l)).symm
theorem Sp.pass {l : List UInt8} {P : List ByteArray} {at' k : Nat} {c : UInt8} (h : Sp l P at' k) (hk : k < l.length) (ha : at' ≤ k) (hc : l[k] = c) (h44 : c ≠ 44) : Sp l P at' (k + 1) := by
  unfold Sp at *
  rw [List.drop_eq_getElem_cons hk, hc, splitc_other _ h44, glue_glue] at h
  rw [h]
  congr 2
  rw [List.take_succ_eq_append_getElem hk, List.drop_append_of_le_length (by rw [List.length_take]; omega), hc]
theorem Sp.part {l : List UInt8} {P : List ByteArray} {at' k : Nat} {s : ByteArray} (h : Sp l P at' k) (hk : k < l.length) (hc : l[k] = 44) (hs : s.data.toList = (l.take k).drop at') : Sp l (P ++ [s]) (k + 1) (k + 1) := by
  unfold Sp at *
  rw [List.drop_eq_getElem_cons hk, hc, splitc_comma] at h
  rw [h]
  have e : (l.take (k + 1)).drop (k + 1) = [] := List.drop_eq_nil_of_le (by rw [List.length_take]; omega)
  rw [e, glue_nil (splitc_ne _)]
  simp [glue, hs]
theorem Sp.done {l : List UInt8} {P : List ByteArray} {at' : Nat} {s : ByteArray} (h : Sp l P at' l.length) (hs : s.data.toList = l.drop at') : splitc l = (P ++ [s]).map (fun s => s.data.toList) := by
  unfold Sp at h
  rw [h, List.drop_length, List.take_length]
  simp [splitc, glue, hs]
end Go.Hex
namespace Go.Proofs.YtobhhopfimnknaaDoor
open Ieee Go.Flt Go.RowKit Go.Hex

theorem info9 : (Tryd.prog.info? 9).map (fun i => (i.zero, i.size, i.bytes)) = some (some (.string ⟨#[]⟩), 1, 16) := by kernel_rfl

theorem strs_at {P : List ByteArray} {j : Nat} {u : Value} (h : (P.map Value.string)[j]? = some u) : ∃ hj : j < P.length, u = .string P[j] := by
  rw [List.getElem?_map] at h
  cases e : P[j]? with
  | none => rw [e] at h; cases h
  | some x =>
    rw [e] at h
    cases h
    obtain ⟨hj, hx⟩ := List.getElem?_eq_some_iff.1 e
    exact ⟨hj, by rw [hx]⟩

/-- What the loop has gathered. -/
def Own (w : World) (v : Value) (P : List ByteArray) (wr : World) : Prop := wr.ownsRow w.heap.size 9 1 v P.length (P.map Value.string) ∧ Below w.heap.size w wr
theorem Own.start (w : World) : Own w (.slice (some ⟨w.heap.size, 0, none⟩) 0 0) [] (w.alloc (.cells #[] 9)) :=
  ⟨⟨rfl, .inr ⟨w.heap.size, 0, #[], rfl, Nat.le_refl _, (MapKept.heap_alloc w _).1, Nat.le_refl _, Nat.zero_le _, rfl, rfl⟩⟩, (Below.refl _ w).alloc (Nat.le_refl _) _⟩
theorem Own.add {w wr w1 : World} {v v' : Value} {P : List ByteArray} {x : ByteArray} {o : Obj} (h : Own w v P wr) (h1 : w1.ownsRow w.heap.size 9 1 v' (P.length + 1) (P.map Value.string ++ [.string x])) (h2 : (wr.alloc o).grownBy w1 v.ownBlock) : Own w v' (P ++ [x]) w1 := by
  refine ⟨?_, (h.2.alloc h.2.size o).grown h2 (Nat.le_trans h.2.size (by show wr.heap.size ≤ (wr.heap.push _).size; simp)) (fun j hj => (h.1.lt j hj).1)⟩
  rw [List.length_append, List.map_append]
  exact h1
theorem Own.last {w wr : World} {v : Value} {P : List ByteArray} (h : Own w v P wr) (h0 : P ≠ []) : ∃ b cap, v = .slice (some ⟨b, 0, none⟩) P.length cap ∧ ∀ j (hj : j < P.length), wr.cell? ⟨b, j, none⟩ = some (.string P[j]) := by
  have hO := h.1
  rcases h.1.2 with ⟨_, h'⟩ | ⟨g, cap, cur, rfl, _⟩
  · exact absurd (List.length_eq_zero_iff.1 h') h0
  · refine ⟨g, cap, rfl, fun j hj => ?_⟩
    rw [hO.cellAt j (by omega), List.getElem?_map, List.getElem?_eq_getElem hj]
    rfl

set_option maxRecDepth 100000 in
set_option maxHeartbeats 6400000 in
theorem split_any (s : ByteArray) (hs : s.size ≤ 1048576) (w : World) :
    Calls Tryd.prog 15 #[.string s, .int .u8 44] w fun e w' => ∃ (b cap : Nat) (P : List ByteArray), e = .returned (.slice (some ⟨b, 0, none⟩) P.length cap) ∧ splitc s.data.toList = P.map (fun s => s.data.toList) ∧ (∀ j (hj : j < P.length), w'.cell? ⟨b, j, none⟩ = some (.string P[j])) ∧ Below w.heap.size w w' := by
  obtain ⟨i0, hi, hz0, hz1, hz2⟩ := info_parts info9
  obtain ⟨l, hl⟩ : ∃ l, l = s.data.toList := ⟨_, rfl⟩
  have hll : l.length = s.size := by rw [hl, Lib.size_eq]
  have HL : Hid (∀ k (h : k < s.size), s[k]'h = l.getD k 0) := Lib.hid fun k h => by rw [Lib.getD_at s k h, hl]
  rw [← hl]
  have hi := Lib.hid hi
  have hz0 := Lib.hid hz0
  have hz1 := Lib.hid hz1
  have hz2 := Lib.hid hz2
  go_enter Tryd.func15, Tryd.ntmps15
  go_wp2
  go_loopw [5, 6, 7] (fun vo va vi wr => ∃ (P : List ByteArray) (at' k : Nat), va = .int .i64 at' ∧ vi = .int .i64 k ∧ at' ≤ k ∧ k ≤ s.size ∧ P.length ≤ k ∧ Hid (Sp l P at' k) ∧ Hid (Own w vo P wr)) (fun _ _ vi _ => s.size - (intOf vi).toNat)
  case atStart => exact ⟨[], 0, 0, rfl, rfl, by omega, by omega, by simp, Lib.hid (Sp.start l), Lib.hid (Own.start w)⟩
  case round =>
    obtain ⟨P, at', k, rfl, rfl, hak, hk, hPk, hSp, hO⟩ := hrel
    by_cases hkn : k < s.size
    · have hdk := HL.out k hkn
      have hget : l.getD k 0 = l[k]'(by omega) := by simp [List.getD, List.getElem?_eq_getElem (show k < l.length by omega)]
      rw [hget] at hdk
      by_cases hc : l[k]'(by omega) = 44
      · have hx : (s.extract at' k).data.toList = (l.take k).drop at' := by
          rw [Lib.extract_data, ← hl, List.drop_take]
        have hsl : ∀ W, (Instr.slice 9 (.string s) (some (.int .i64 (at' : Int))) (some (.int .i64 (k : Int))) none).run Tryd.prog W = .ok (.string (s.extract at' k)) W := fun W => by
          rw [run_slice_string_if W 9 s .i64 .i64 _ _ Tryd.underlying9, if_pos ⟨by omega, by omega⟩, if_pos ⟨by omega, by omega⟩]
          rfl
        have hSp2 := Lib.hid (hSp.out.part (by omega) hc hx)
        rw [hc] at hdk
        generalize s.extract at' k = x at hsl hSp2
        clear hx hget hSp hc hl
        go_wp2_with (first
          | (at_builtin; refine wpList_append_own _ rfl _ _ 39 rfl w.heap.size 9 i0 (.string ⟨#[]⟩) 1 16 Tryd.underlying39 hi.out hz0.out hz1.out hz2.out rfl (by decide) _ _ _ rfl (hO.out.1.alloc _) ⟨wr.heap.size, 0, none⟩ 1 1 [.string x] rfl rfl ?c1 ?c2 ?c3 ?c4 ?c5 ?_)
          | go_in)
        case c1 =>
          intro j u hj
          match j, hj with
          | 0, hj =>
            simp at hj
            subst hj
            rw [add_at]
            have e : (wr.alloc (.cells #[.string x] 9)).heap[wr.heap.size]? = some (.cells #[.string x] 9) := (MapKept.heap_alloc wr _).1
            unfold World.cell?
            rw [e]
            rfl
        case c2 => intro u hu; simp at hu; subst hu; rfl
        case c3 => unfold maxLen; omega
        case c4 => omega
        case c5 => exact Nat.le_trans hO.out.2.size (by show wr.heap.size ≤ (wr.heap.push _).size; simp)
        intro v' w1 hown' hgrow _
        have hO2 := Lib.hid (hO.out.add hown' hgrow)
        clear hown' hgrow hO
        go_wp2
        go_roundw
        case rel => exact ⟨P ++ [x], k + 1, k + 1, by go_num, by go_num, by omega, by omega, by simp; omega, hSp2, hO2⟩
        case measure => simp [intOf]; omega
      · have hSp2 := Lib.hid (hSp.out.pass (by omega) hak rfl hc)
        have h44 : ¬ ((l[k]'(by omega)).toNat : Int) = 44 := fun h => hc (UInt8.toNat_inj.1 (show _ = 44 by omega))
        generalize l[k]'(by omega) = c at hdk h44
        clear hget hSp hc hl
        go_wp2
        go_roundw
        case rel => exact ⟨P, at', k + 1, rfl, by go_num, by omega, by omega, by omega, hSp2, hO⟩
        case measure => simp [intOf]; omega
    · have hke : k = l.length := by omega
      have hx : (s.extract at' s.size).data.toList = l.drop at' := by
        rw [Lib.extract_data, ← hl, List.take_of_length_le (by rw [List.length_drop]; omega)]
      have hsl : ∀ W, (Instr.slice 9 (.string s) (some (.int .i64 (at' : Int))) none none).run Tryd.prog W = .ok (.string (s.extract at' s.size)) W := fun W => by
        rw [run_slice_string_from_if W 9 s .i64 _ Tryd.underlying9, if_pos ⟨by omega, by omega⟩]
        rfl
      have hSp := hSp.out
      rw [hke] at hSp
      have hSp2 := Lib.hid (hSp.done hx)
      generalize s.extract at' s.size = x at hsl hSp2
      clear hx hSp hl hke
      go_wp2_with (first
        | (at_builtin; refine wpList_append_own _ rfl _ _ 39 rfl w.heap.size 9 i0 (.string ⟨#[]⟩) 1 16 Tryd.underlying39 hi.out hz0.out hz1.out hz2.out rfl (by decide) _ _ _ rfl (hO.out.1.alloc _) ⟨wr.heap.size, 0, none⟩ 1 1 [.string x] rfl rfl ?d1 ?d2 ?d3 ?d4 ?d5 ?_)
        | go_in)
      case d1 =>
        intro j u hj
        match j, hj with
        | 0, hj =>
          simp at hj
          subst hj
          rw [add_at]
          have e : (wr.alloc (.cells #[.string x] 9)).heap[wr.heap.size]? = some (.cells #[.string x] 9) := (MapKept.heap_alloc wr _).1
          unfold World.cell?
          rw [e]
          rfl
      case d2 => intro u hu; simp at hu; subst hu; rfl
      case d3 => unfold maxLen; omega
      case d4 => omega
      case d5 => exact Nat.le_trans hO.out.2.size (by show wr.heap.size ≤ (wr.heap.push _).size; simp)
      intro v' w1 hown' hgrow _
      have hO2 := hO.out.add hown' hgrow
      obtain ⟨b, cap, rfl, hcells⟩ := hO2.last (by simp)
      have hcells := Lib.hid hcells
      have hB := Lib.hid hO2.2
      clear hown' hgrow hO hO2
      go_wp2
      go_ret
      exact ⟨b, cap, P ++ [x], rfl, hSp2.out, hcells.out, hB.out⟩
end Go.Proofs.YtobhhopfimnknaaDoor
