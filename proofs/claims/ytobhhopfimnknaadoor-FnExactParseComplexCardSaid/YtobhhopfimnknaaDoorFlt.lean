/- What Go's operations on floats give, said by places and units; over whatever program. -/
import Derived.WalkLawsBesides
import Derived.Deep.Draws
import Derived.WalkKit
import Derived.Test.YtobhhopfimnknaaDoorNum
namespace Go.Flt
open Ieee

/-- A word of a number. -/
def isFin (x : Nat) : Bool := decide (single.rung x < single.infRung)
theorem isFin_true {x : Nat} (h : single.fin x) : isFin x = true := decide_eq_true (show single.rung x < single.infRung from h)
theorem isFin_false {x : Nat} (h : ¬ single.fin x) : isFin x = false := decide_eq_false (show ¬ single.rung x < single.infRung from h)
theorem fin_of {x : Nat} (h : isFin x = true) : single.fin x := show single.rung x < single.infRung from of_decide_eq_true h

/-- A single as a double. -/
def wid (x : Nat) : Nat := double.write (single.read x)
/-- The place of a single. -/
def plc (x : Nat) : Int := if single.negb x then -(single.rung x : Int) else (single.rung x : Int)
/-- The single with a place. -/
def sw (p : Int) : Nat := single.word (decide (p < 0)) p.natAbs

theorem rung_lt (x : Nat) : single.rung x < 2147483648 := Nat.mod_lt _ (by decide)

theorem wid_isD {x : Nat} (h : single.fin x) {E : Nat} (hE : E = 925) : IsD (wid x) (single.negb x) (single.units (single.rung x) * 2 ^ E) := (widen_isD h hE).1

theorem read_inf32 {x : Nat} (h : single.rung x = single.infRung) : single.read x = .infinity (single.negb x) := by
  unfold Format.read
  simp only
  show (if single.rung x < single.binade then _ else if single.rung x < single.infRung then _ else if single.rung x = single.infRung then Datum.infinity (single.negb x) else _) = _
  rw [h, if_neg (by decide), if_neg (by decide), if_pos rfl]

theorem read_nan32 {x : Nat} (h : single.infRung < single.rung x) : ∃ t, single.read x = .nan (single.negb x) t := by
  unfold Format.read
  simp only
  show ∃ t, (if single.rung x < single.binade then _ else if single.rung x < single.infRung then _ else if single.rung x = single.infRung then _ else Datum.nan (single.negb x) (single.rung x - single.infRung)) = _
  have : single.binade ≤ single.infRung := by decide
  rw [if_neg (by omega), if_neg (by omega), if_neg (by omega)]
  exact ⟨_, rfl⟩

theorem read_inf64 {x : Nat} (h : double.rung x = double.infRung) : double.read x = .infinity (double.negb x) := by
  unfold Format.read
  simp only
  show (if double.rung x < double.binade then _ else if double.rung x < double.infRung then _ else if double.rung x = double.infRung then Datum.infinity (double.negb x) else _) = _
  rw [h, if_neg (by decide), if_neg (by decide), if_pos rfl]

theorem read_nan64 {x : Nat} (h : double.infRung < double.rung x) : ∃ t, double.read x = .nan (double.negb x) t := by
  unfold Format.read
  simp only
  show ∃ t, (if double.rung x < double.binade then _ else if double.rung x < double.infRung then _ else if double.rung x = double.infRung then _ else Datum.nan (double.negb x) (double.rung x - double.infRung)) = _
  have : double.binade ≤ double.infRung := by decide
  rw [if_neg (by omega), if_neg (by omega), if_neg (by omega)]
  exact ⟨_, rfl⟩

theorem class32 (x : Nat) : single.fin x ∨ single.rung x = single.infRung ∨ single.infRung < single.rung x := by
  unfold Format.fin; omega

theorem conv_widen_fin {x : Nat} (h : single.fin x) : floatToFloatBits .f32 x .f64 = some (wid x) := by
  obtain ⟨m, e, hr, _, _⟩ := single.read_fin h
  have hi := (widen_isD h rfl).2
  unfold floatToFloatBits
  rw [if_neg (by decide)]
  show (match single.read x with | .nan _ _ => none | .infinity s => some (double.write (.infinity s)) | .number s m e => if (double.read (double.write (.number s m e))).isInfinity then none else some (double.write (.number s m e))) = some (double.write (single.read x))
  rw [hr] at hi ⊢
  simp only [hi]
  rfl

theorem conv_widen_inf {x : Nat} (h : single.rung x = single.infRung) : floatToFloatBits .f32 x .f64 = some (double.word (single.negb x) double.infRung) := by
  unfold floatToFloatBits
  rw [if_neg (by decide)]
  show (match single.read x with | .nan _ _ => none | .infinity s => some (double.write (.infinity s)) | .number s m e => if (double.read (double.write (.number s m e))).isInfinity then none else some (double.write (.number s m e))) = _
  rw [read_inf32 h]
  rfl

/-- A double that is no number: the widened NaN's bits are drawn. -/
theorem run_widen_nan {P : Program} {src dst : TypeId} (hs : P.underlying src = some (.float .f32)) (hd : P.underlying dst = some (.float .f64)) {x : Nat} (hx : single.infRung < single.rung x) (w : World) :
    ∃ b, b < 2 ^ 64 ∧ double.infRung < double.rung b ∧ (convert src dst (.float .f32 x)).run P w = .ok (.float .f64 b) w.drew := by
  obtain ⟨t, hr⟩ := read_nan32 hx
  have key : ∀ q : Nat, (q % 2) * 2 ^ 63 + 0x7ff0000000000000 + 1 + (q / 2) % (2 ^ 52 - 1) < 2 ^ 64 ∧ double.infRung < double.rung ((q % 2) * 2 ^ 63 + 0x7ff0000000000000 + 1 + (q / 2) % (2 ^ 52 - 1)) := by
    intro q
    have h1 : (q / 2) % (2 ^ 52 - 1) < 2 ^ 52 - 1 := Nat.mod_lt _ (by decide)
    have h2 : q % 2 < 2 := Nat.mod_lt _ (by decide)
    generalize (q / 2) % (2 ^ 52 - 1) = a at h1
    generalize q % 2 = s at h2
    refine ⟨by simp only [Nat.reducePow, Nat.reduceSub] at *; omega, ?_⟩
    show 2047 * 2 ^ 52 < (s * 2 ^ 63 + 0x7ff0000000000000 + 1 + a) % 2 ^ 63
    have e : (s * 2 ^ 63 + 0x7ff0000000000000 + 1 + a) % 2 ^ 63 = 0x7ff0000000000000 + 1 + a := by
      rw [show s * 2 ^ 63 + 0x7ff0000000000000 + 1 + a = 2 ^ 63 * s + (0x7ff0000000000000 + 1 + a) from by rw [Nat.mul_comm s]; omega, Nat.mul_add_mod]
      exact Nat.mod_eq_of_lt (by simp only [Nat.reducePow, Nat.reduceSub] at *; omega)
    rw [e]
    simp only [Nat.reducePow, Nat.reduceMul]
    omega
  refine ⟨_, (key (w.tape w.drawn (.nanConv .f64 x))).1, (key (w.tape w.drawn (.nanConv .f64 x))).2, ?_⟩
  have hrd : FloatKind.f32.decode x = .nan (single.negb x) t := hr
  simp [convert, run_underlying hs, run_underlying hd, Conv.floatToFloat, hrd]
  rfl

theorem order_nan64 {b : Nat} (h : double.infRung < double.rung b) : double.order b b = none := by
  obtain ⟨t, hr⟩ := read_nan64 h
  unfold Format.order
  rw [hr]
  rfl

theorem beq_lt (a b : Int) : (some (compare a b) == some Ordering.lt) = decide (a < b) := by
  rcases Int.lt_trichotomy a b with h | h | h
  · rw [Int.compare_eq_lt.2 h, decide_eq_true h]; rfl
  · rw [Int.compare_eq_eq.2 h, decide_eq_false (by omega)]; rfl
  · rw [Int.compare_eq_gt.2 h, decide_eq_false (by omega)]; rfl
theorem beq_eq (a b : Int) : (some (compare a b) == some Ordering.eq) = decide (a = b) := by
  rcases Int.lt_trichotomy a b with h | h | h
  · rw [Int.compare_eq_lt.2 h, decide_eq_false (by omega)]; rfl
  · rw [Int.compare_eq_eq.2 h, decide_eq_true h]; rfl
  · rw [Int.compare_eq_gt.2 h, decide_eq_false (by omega)]; rfl
theorem beq_gt (a b : Int) : (some (compare a b) == some Ordering.gt) = decide (b < a) := by
  rcases Int.lt_trichotomy a b with h | h | h
  · rw [Int.compare_eq_lt.2 h, decide_eq_false (by omega)]; rfl
  · rw [Int.compare_eq_eq.2 h, decide_eq_false (by omega)]; rfl
  · rw [Int.compare_eq_gt.2 h, decide_eq_true h]; rfl
theorem bne_eq (a b : Int) : (some (compare a b) != some Ordering.eq) = decide (a ≠ b) := by
  show (!(some (compare a b) == some Ordering.eq)) = _
  rw [beq_eq]; simp

/-- A double's absolute value: the sign bit struck. -/
theorem abs_isD {x U : Nat} {s : Bool} (h : IsD x s U) : IsD (x % 9223372036854775808) false U := by
  have hr : double.rung x < double.infRung := h.fin
  have e : x % 9223372036854775808 = double.word false (double.rung x) := rfl
  rw [e]
  have := IsD.word (s := false) hr
  rw [h.units] at this
  exact this

theorem andNot_sign {x : Nat} (h : x < 18446744073709551616) : bits .andNot .u64 (x : Int) 9223372036854775808 = ((x % 9223372036854775808 : Nat) : Int) := by
  have := u64_andNot_nat x 9223372036854775808 h (by decide)
  rw [show ((9223372036854775808 : Nat) : Int) = 9223372036854775808 from rfl] at this
  rw [this]
  congr 1
  exact Nat.and_two_pow_sub_one_eq_mod x 63

theorem zero_isD : IsD 0 false 0 := by
  have := IsD.word (s := false) (R := 0) (by decide)
  rw [double.units_zero] at this
  exact this

theorem fin_zero : single.fin 0 := show single.rung 0 < single.infRung by decide
theorem sval_zero : single.sval 0 = 0 := by
  unfold Format.sval
  rw [show single.rung 0 = 0 from rfl, single.units_zero]
  simp

theorem sval_lt_zero {x : Nat} : single.sval x < 0 ↔ plc x < 0 := by
  unfold Format.sval plc
  have h := single.units_eq_zero (R := single.rung x)
  cases single.negb x
  · simp; omega
  · simp only [if_true]
    constructor
    · intro h'
      have : single.rung x ≠ 0 := fun e => by rw [h.2 e] at h'; omega
      omega
    · intro h'
      have : single.units (single.rung x) ≠ 0 := fun e => by rw [h.1 e] at h'; omega
      omega
theorem sval_eq_zero {x : Nat} : single.sval x = 0 ↔ single.rung x = 0 := by
  unfold Format.sval
  have h := single.units_eq_zero (R := single.rung x)
  cases single.negb x
  · simp [h]
  · simp [h]

/-- Against 0. -/
theorem lt_zero {x : Nat} (h : single.fin x) : (single.order x 0 == some .lt) = decide (plc x < 0) := by
  rw [single.order_fin h fin_zero, sval_zero, beq_lt, decide_eq_decide]
  exact sval_lt_zero
theorem eq_zero {x : Nat} (h : single.fin x) : (single.order x 0 == some .eq) = decide (single.rung x = 0) := by
  rw [single.order_fin h fin_zero, sval_zero, beq_eq, decide_eq_decide]
  exact sval_eq_zero

/-- A narrowed double. -/
theorem conv_narrow {x R E : Nat} {s : Bool} (hE : E = 925) (hR : R < single.infRung) (hx : IsD x s (single.units R * 2 ^ E)) : floatToFloatBits .f64 x .f32 = some (single.word s R) := by
  obtain ⟨m, i, hr, _, _⟩ := double.read_fin hx.fin
  obtain ⟨h1, _, _, h4⟩ := narrow_isD hE hR hx
  unfold floatToFloatBits
  rw [if_neg (by decide)]
  show (match double.read x with | .nan _ _ => none | .infinity s => some (single.write (.infinity s)) | .number s m e => if (single.read (single.write (.number s m e))).isInfinity then none else some (single.write (.number s m e))) = _
  rw [hr] at h1 ⊢
  simp only [h1, h4]
  rfl

/-- The sign turned. -/
theorem negFloat32 {s : Bool} {R : Nat} (h : R < 2147483648) : Op.negFloat .f32 (single.word s R) = single.word (!s) R := by
  unfold Op.negFloat
  show single.word s R ^^^ 2 ^ 31 = single.word (!s) R
  have hx : ∀ a : Nat, a < 2 ^ 31 → a ^^^ 2 ^ 31 = 2 ^ 31 + a := by
    intro a ha
    have e1 := Nat.two_pow_add_eq_or_of_lt (i := 31) ha 1
    rw [Nat.mul_one] at e1
    rw [e1]
    refine Nat.eq_of_testBit_eq fun i => ?_
    rw [Nat.testBit_xor, Nat.testBit_or, Nat.testBit_two_pow]
    by_cases hi : 31 = i
    · subst hi
      rw [Nat.testBit_lt_two_pow ha]; simp
    · simp [hi]
  cases s
  · exact hx R h
  · show (2 ^ 31 + R) ^^^ 2 ^ 31 = R
    rw [← hx R h, Nat.xor_assoc, Nat.xor_self, Nat.xor_zero]

@[go_sem] theorem run_neg_float (P : Program) (k : FloatKind) (b : Nat) (w : World) : (Op.unary .neg (.float k b)).run P w = .ok (.float k (Op.negFloat k b)) w := rfl

theorem order_nan32 {b : Nat} (h : single.infRung < single.rung b) (y : Nat) : single.order b y = none := by
  obtain ⟨t, hr⟩ := read_nan32 h
  unfold Format.order
  rw [hr]
  rfl

theorem key32 (q : Nat) : (q % 2) * 2 ^ 31 + 0x7f800000 + 1 + (q / 2) % (2 ^ 23 - 1) < 2 ^ 32 ∧ single.infRung < single.rung ((q % 2) * 2 ^ 31 + 0x7f800000 + 1 + (q / 2) % (2 ^ 23 - 1)) := by
  have h1 : (q / 2) % (2 ^ 23 - 1) < 2 ^ 23 - 1 := Nat.mod_lt _ (by decide)
  have h2 : q % 2 < 2 := Nat.mod_lt _ (by decide)
  generalize (q / 2) % (2 ^ 23 - 1) = a at h1
  generalize q % 2 = s at h2
  refine ⟨by simp only [Nat.reducePow, Nat.reduceSub] at *; omega, ?_⟩
  show 255 * 2 ^ 23 < (s * 2 ^ 31 + 0x7f800000 + 1 + a) % 2 ^ 31
  simp only [Nat.reducePow, Nat.reduceSub, Nat.reduceMul] at *
  omega

/-- An operation that is none: a NaN whose bits are drawn. -/
theorem run_arith_none {P : Program} (op : BinOp) (t : TypeId) {x y : Nat} (h : floatBits op .f32 x y = none) (ho : op = .add ∨ op = .sub ∨ op = .mul ∨ op = .quo) (w : World) :
    ∃ b, b < 2 ^ 32 ∧ single.infRung < single.rung b ∧ (binOp op t (.float .f32 x) (.float .f32 y)).run P w = .ok (.float .f32 b) w.drew := by
  refine ⟨_, (key32 (w.tape w.drawn (.nanBits .f32 x y))).1, (key32 (w.tape w.drawn (.nanBits .f32 x y))).2, ?_⟩
  unfold floatBits at h
  rcases ho with rfl | rfl | rfl | rfl <;> simp only at h <;> simp [binOp, Op.floatArith, h] <;> rfl

theorem sub_self_fin {x : Nat} (h : single.fin x) : floatBits .sub .f32 x x = some 0 := by
  show single.sub x x = some 0
  rw [single.sub_fin h h, Int.sub_self]
  cases single.negb x <;> rfl
theorem sub_self_not {x : Nat} (h : ¬ single.fin x) : floatBits .sub .f32 x x = none := by
  show single.sub x x = none
  unfold Format.sub
  rcases class32 x with h1 | h1 | h1
  · exact absurd h1 h
  · rw [read_inf32 h1]
    cases single.negb x <;> rfl
  · obtain ⟨t, hr⟩ := read_nan32 h1
    rw [hr]; rfl

theorem pw1 : pw 1 = 4611686018427387904 := by decide
theorem pw0 : pw 0 = 4607182418800017408 := by decide
theorem mul_two {k : Int} (h1 : -1022 ≤ k) (h2 : k ≤ 1022) : floatBits .mul .f64 (pw k) 4611686018427387904 = some (pw (k + 1)) := by
  show double.mul _ _ = _
  rw [← pw1]
  obtain ⟨E, hE⟩ : ∃ E : Nat, E = 1074 := ⟨_, rfl⟩
  refine (pw_isD h1 (by omega)).mul (pw_isD (k := 1) (by omega) (by omega)) (s := false) (t := false) (pw_isD (by omega) (by omega)) (k := E) hE ?_
  rw [← Nat.pow_add, ← Nat.pow_add]
  congr 1
  omega
theorem div_two {k : Int} (h1 : -1021 ≤ k) (h2 : k ≤ 1023) : floatBits .quo .f64 (pw k) 4611686018427387904 = some (pw (k - 1)) := by
  show double.div _ _ = _
  rw [← pw1]
  refine div_pw_exact (pw_isD (by omega) h2) (by omega) (by omega) (pw_isD (by omega) (by omega)) ?_
  rw [← Nat.pow_add, ← Nat.pow_add]
  congr 1
  omega

theorem wf32 {x : Nat} (h : (Lit.float .f32 x).wf = true) : x < 4294967296 := by
  simpa [Lit.wf] using h
theorem grown_drewN (w : World) (n : Nat) : RowKit.Grown w (w.drewN n) := by
  have h := RowKit.Grown.refl w
  exact h
end Go.Flt
