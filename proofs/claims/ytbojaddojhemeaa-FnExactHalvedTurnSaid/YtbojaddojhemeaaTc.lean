/- Walks: tables: positive zeros; the table of four parts, by the reference. -/
import Derived.Test.YtbojaddojhemeaaTb
namespace Go.Proofs.Ytbojaddojhemeaa
open Ieee Go.Flt Go.RowKit

set_option maxRecDepth 100000 in
theorem spinor0 (a b c d : Nat) (hf : single.fin a ∧ single.fin b ∧ single.fin c ∧ single.fin d) (w : World) :
    Calls Try.prog 88 #[.agg #[.complex .f32 a b, .complex .f32 c d]] w fun e w' => e = .returned (.agg #[.complex .f32 (clr a) (clr b), .complex .f32 (clr c) (clr d)]) ∧ ∃ n, ((w.alloc (.cells #[.complex .f32 a b, .complex .f32 c d] 99)).alloc (.cells #[.complex .f32 (clr a) (clr b), .complex .f32 (clr c) (clr d)] 99)).drewN n = w' := by
  have c1 := complex0 a b hf.1 hf.2.1
  have c2 := complex0 c d hf.2.2.1 hf.2.2.2
  clear hf
  go_enter Try.func88, Try.ntmps88
  go_wp2_with fail
  go_region_held3 (fun w' => w'.cell? ⟨w.heap.size, 0, none⟩ = some (.complex .f32 a b) ∧ w'.cell? ⟨w.heap.size, 1, none⟩ = some (.complex .f32 c d)) (go_keep) (first | (go_at_call 101; (first | (with_reducible refine (c1 _).mono ?_) | (with_reducible refine (c2 _).mono ?_)); rintro e w' ⟨rfl, rfl⟩))
  rename_i hH
  clear hH
  go_wp2
  go_returns
  exact ⟨rfl, 1, rfl⟩

set_option maxRecDepth 100000 in
theorem table_any (a b c d : Nat) (w : World) :
    Calls Try.prog 87 #[.float .f32 a, .float .f32 b, .float .f32 c, .float .f32 d] w fun e w' => e = .returned (.agg #[.complex .f32 a (Op.negFloat .f32 d), .complex .f32 (Op.negFloat .f32 c) (Op.negFloat .f32 b), .complex .f32 c (Op.negFloat .f32 b), .complex .f32 a d]) ∧ w.alloc (.cells #[.complex .f32 a (Op.negFloat .f32 d), .complex .f32 (Op.negFloat .f32 c) (Op.negFloat .f32 b), .complex .f32 c (Op.negFloat .f32 b), .complex .f32 a d] 46) = w' := by
  go_enter Try.func87, Try.ntmps87
  go_wp2_with fail
  go_returns
  exact ⟨rfl, rfl⟩
end Go.Proofs.Ytbojaddojhemeaa
