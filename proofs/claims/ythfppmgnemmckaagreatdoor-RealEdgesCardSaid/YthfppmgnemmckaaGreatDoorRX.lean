import Derived.Test.YthfppmgnemmckaaGreatDoorRT
import Derived.WalkLawsBesides
namespace Go.Proofs.YthfppmgnemmckaaGreatDoor.PDo
open Go.RowKit Go.Proofs.YthfppmgnemmckaaGreatDoorW.PrintWords Go.Proofs.YthfppmgnemmckaaGreatDoorW.PrintLast Go.Proofs.YthfppmgnemmckaaGreatDoorW.PrintMore

theorem call33 (n : Int) (w : World) : (callFunc 33 #[.int .u64 n]).run Tryz.prog w = .ok (.value (.float .f64 n.toNat)) w := by
  rw [run_callFunc_extern (e := Extern.MathFloatBits.float64frombits) Tryz.func33 (by kernel_rfl) (by kernel_rfl) (by kernel_rfl) (by kernel_rfl)]
  rfl
theorem call34 (b : Nat) (w : World) : (callFunc 34 #[.float .f64 b]).run Tryz.prog w = .ok (.value (.int .u64 b)) w := by
  rw [run_callFunc_extern (e := Extern.MathFloatBits.float64bits) Tryz.func34 (by kernel_rfl) (by kernel_rfl) (by kernel_rfl) (by kernel_rfl)]
  rfl
theorem of_calls (a : Int) (w : World) : Calls Tryz.prog 15 #[.int .u64 a] w fun e w' => e = .returned (.float .f64 a.toNat) ∧ w = w' := by
  have h := call33
  go_enter Tryz.func15, Tryz.ntmps15
  go_wp2
  go_ret
  exact ⟨rfl, rfl⟩
theorem isNaN_yes (b : Nat) (hb : 2047 * 2 ^ 52 < b % 2 ^ 63) (w : World) : Calls Tryz.prog 31 #[.float .f64 b] w fun e w' => e = .returned (.bool true) ∧ w = w' := by
  have hn : FloatKind.f64.format.order b b = none := RM.order_nan (.inl hb)
  clear hb
  go_enter Tryz.func31, Tryz.ntmps31
  go_wp2
  go_ret
  exact ⟨rfl, rfl⟩
theorem ord_self (b : Nat) (hb : ¬ 2047 * 2 ^ 52 < b % 2 ^ 63) : FloatKind.f64.format.order b b = some .eq := by
  have := RM.order_ord hb hb
  rw [show FloatKind.f64.format.order b b = Ieee.double.order b b from rfl, this]
  congr 1
  simp [compare, compareOfLessAndEq]
theorem isNaN_no (b : Nat) (hb : ¬ 2047 * 2 ^ 52 < b % 2 ^ 63) (w : World) : Calls Tryz.prog 31 #[.float .f64 b] w fun e w' => e = .returned (.bool false) ∧ w = w' := by
  have hn := ord_self b hb
  clear hb
  go_enter Tryz.func31, Tryz.ntmps31
  go_wp2
  go_ret
  exact ⟨rfl, rfl⟩
/-- the bits, NaN's if it is one -/
def canonN (b : Nat) : Nat := if 2047 * 2 ^ 52 < b % 2 ^ 63 then RM.NAN else b
theorem bits_calls (b : Nat) (w : World) : Calls Tryz.prog 16 #[.float .f64 b] w fun e w' => e = .returned (.int .u64 (canonN b : Nat)) ∧ w = w' := by
  by_cases hb : 2047 * 2 ^ 52 < b % 2 ^ 63
  · have hc : canonN b = RM.NAN := if_pos hb
    rw [hc]
    have HB := Aside0.mk hb
    clear hb hc
    go_enter Tryz.func16, Tryz.ntmps16
    go_wp2_with fail
    refine (isNaN_yes b HB.out _).mono ?_
    rintro e w1 ⟨rfl, rfl⟩
    go_wp2
    go_ret
    exact ⟨rfl, rfl⟩
  · have hc : canonN b = b := if_neg hb
    rw [hc]
    have HB := Aside0.mk hb
    clear hb hc
    have h := call34
    go_enter Tryz.func16, Tryz.ntmps16
    go_wp2_with fail
    refine (isNaN_no b HB.out _).mono ?_
    rintro e w1 ⟨rfl, rfl⟩
    go_wp2
    go_ret
    exact ⟨rfl, rfl⟩
theorem canon_calls (a : Nat) (w : World) : Calls Tryz.prog 10 #[.int .u64 a] w fun e w' => e = .returned (.int .u64 (canonN a : Nat)) ∧ w = w' := by
  go_enter Tryz.func10, Tryz.ntmps10
  go_wp2_with fail
  refine (of_calls _ _).mono ?_
  rintro e w1 ⟨rfl, rfl⟩
  rw [Int.toNat_natCast]
  go_wp2_with fail
  refine (bits_calls _ _).mono ?_
  rintro e w1 ⟨rfl, rfl⟩
  go_wp2
  go_ret
  exact ⟨rfl, rfl⟩
/-- an invalid operation: some NaN, the tape asked once -/
theorem run_float_nan {P : Program} (w : World) (op : BinOp) (t : TypeId) (x y : Nat) (hop : op = .add ∨ op = .sub ∨ op = .mul ∨ op = .quo) (h : floatBits op .f64 x y = none) :
    ∃ r, (binOp op t (.float .f64 x) (.float .f64 y)).run P w = .ok (.float .f64 r) w.drew ∧ 2047 * 2 ^ 52 < r % 2 ^ 63 := by
  refine ⟨(Question.nanBits .f64 x y).cut (w.tape w.drawn (.nanBits .f64 x y)), ?_, ?_⟩
  · unfold floatBits at h
    rcases hop with rfl | rfl | rfl | rfl <;> simp only at h <;> simp [binOp, Op.floatArith, h, choose, Sem.run, Question.forced]
  · simp only [Question.cut]
    generalize w.tape w.drawn (Question.nanBits FloatKind.f64 x y) = t
    have h1 := Nat.mod_lt (t / 2) (show 0 < 2 ^ 52 - 1 by omega)
    have h2 := Nat.mod_lt t (show 0 < 2 by omega)
    generalize t / 2 % (2 ^ 52 - 1) = z at *
    generalize t % 2 = y at *
    omega

theorem write_ok (d : Ieee.Datum) (h : d.isNaN = false) : ¬ 2047 * 2 ^ 52 < Ieee.double.write d % 2 ^ 63 := by
  have key : ∀ (s : Bool) (r : Nat), r ≤ 2047 * 2 ^ 52 → ¬ 2047 * 2 ^ 52 < RM.wordOf s r % 2 ^ 63 := by
    intro s r hr; unfold RM.wordOf; cases s <;> simp <;> omega
  cases d with
  | number s m e => rw [RM.write_num]; exact key _ _ (rung_le _ _ _)
  | infinity s => rw [RM.write_inf]; exact key _ _ (Nat.le_refl _)
  | nan s f => simp [Ieee.Datum.isNaN] at h
theorem sum_ok (d e f : Ieee.Datum) (h : d.sum e = some f) : f.isNaN = false := by
  cases d <;> cases e <;> simp [Ieee.Datum.sum] at h
  · subst h; rfl
  · subst h; rfl
  · subst h; rfl
  · obtain ⟨_, h⟩ := h; subst h; rfl
theorem product_ok (d e f : Ieee.Datum) (h : d.product e = some f) : f.isNaN = false := by
  cases d <;> cases e <;> simp [Ieee.Datum.product] at h
  · subst h; rfl
  · obtain ⟨_, h⟩ := h; subst h; rfl
  · obtain ⟨_, h⟩ := h; subst h; rfl
  · subst h; rfl
theorem quotient_ok (n : Nat) (d e f : Ieee.Datum) (h : d.quotient n e = some f) : f.isNaN = false := by
  cases d <;> cases e <;> simp only [Ieee.Datum.quotient, Option.some.injEq, reduceCtorEq] at h
  · split at h
    · split at h
      · cases h
      · cases h; rfl
    · cases h; rfl
  · subst h; rfl
  · subst h; rfl
theorem floatBits_ok {op : BinOp} {x y r : Nat} (h : floatBits op .f64 x y = some r) : ¬ 2047 * 2 ^ 52 < r % 2 ^ 63 := by
  unfold floatBits at h
  split at h
  · obtain ⟨d, hd, rfl⟩ := Option.map_eq_some_iff.1 h
    exact write_ok d (sum_ok _ _ _ hd)
  · obtain ⟨d, hd, rfl⟩ := Option.map_eq_some_iff.1 h
    exact write_ok d (sum_ok _ _ _ hd)
  · obtain ⟨d, hd, rfl⟩ := Option.map_eq_some_iff.1 h
    exact write_ok d (product_ok _ _ _ hd)
  · obtain ⟨d, hd, rfl⟩ := Option.map_eq_some_iff.1 h
    exact write_ok d (quotient_ok _ _ _ _ hd)
  · cases h
set_option maxRecDepth 100000 in
theorem real_add (a b : Nat) (w : World) : Calls Tryz.prog 6 #[.int .i64 45, .int .u64 a, .int .u64 b] w fun e w' => e = .returned (.tuple #[.int .u64 (doRes (Ieee.double.add a b) : Nat), .int .i64 0]) ∧ Drawn0 w w' := by
  cases h : floatBits .add .f64 a b with
  | some r =>
    have hv : doRes (Ieee.double.add a b) = canonN r := by
      have h1 : Ieee.double.add a b = some r := h
      rw [h1]; exact (if_neg (floatBits_ok h)).symm
    have hrun : ∀ w, (binOp .add 41 (.float .f64 a) (.float .f64 b)).run Tryz.prog w = .ok (.float .f64 r) w := fun w => run_float_arith w _ _ _ _ _ _ h
    rw [hv]
    clear h hv
    go_enter Tryz.func6, Tryz.ntmps6
    go_wp2_with fail
    refine (of_calls _ _).mono ?_
    rintro e w1 ⟨rfl, rfl⟩
    rw [Int.toNat_natCast]
    go_wp2_with fail
    refine (of_calls _ _).mono ?_
    rintro e w1 ⟨rfl, rfl⟩
    rw [Int.toNat_natCast]
    go_wp2_with fail
    refine (bits_calls _ _).mono ?_
    rintro e w1 ⟨rfl, rfl⟩
    go_wp2
    go_ret2
    exact ⟨rfl, Drawn0.refl _⟩
  | none =>
    obtain ⟨r, hrun, hr⟩ := run_float_nan (P := Tryz.prog) w .add 41 a b (.inl rfl) h
    have hv : doRes (Ieee.double.add a b) = canonN r := by
      have h1 : Ieee.double.add a b = none := h
      rw [h1]; exact (if_pos hr).symm
    rw [hv]
    clear h hv hr
    go_enter Tryz.func6, Tryz.ntmps6
    go_wp2_with fail
    refine (of_calls _ _).mono ?_
    rintro e w1 ⟨rfl, rfl⟩
    rw [Int.toNat_natCast]
    go_wp2_with fail
    refine (of_calls _ _).mono ?_
    rintro e w1 ⟨rfl, rfl⟩
    rw [Int.toNat_natCast]
    go_wp2_with fail
    refine (bits_calls _ _).mono ?_
    rintro e w1 ⟨rfl, rfl⟩
    go_wp2
    go_ret2
    exact ⟨rfl, ⟨1, rfl⟩⟩
set_option maxRecDepth 100000 in
theorem real_sub (a b : Nat) (w : World) : Calls Tryz.prog 6 #[.int .i64 46, .int .u64 a, .int .u64 b] w fun e w' => e = .returned (.tuple #[.int .u64 (doRes (Ieee.double.sub a b) : Nat), .int .i64 0]) ∧ Drawn0 w w' := by
  cases h : floatBits .sub .f64 a b with
  | some r =>
    have hv : doRes (Ieee.double.sub a b) = canonN r := by
      have h1 : Ieee.double.sub a b = some r := h
      rw [h1]; exact (if_neg (floatBits_ok h)).symm
    have hrun : ∀ w, (binOp .sub 41 (.float .f64 a) (.float .f64 b)).run Tryz.prog w = .ok (.float .f64 r) w := fun w => run_float_arith w _ _ _ _ _ _ h
    rw [hv]
    clear h hv
    go_enter Tryz.func6, Tryz.ntmps6
    go_wp2_with fail
    refine (of_calls _ _).mono ?_
    rintro e w1 ⟨rfl, rfl⟩
    rw [Int.toNat_natCast]
    go_wp2_with fail
    refine (of_calls _ _).mono ?_
    rintro e w1 ⟨rfl, rfl⟩
    rw [Int.toNat_natCast]
    go_wp2_with fail
    refine (bits_calls _ _).mono ?_
    rintro e w1 ⟨rfl, rfl⟩
    go_wp2
    go_ret2
    exact ⟨rfl, Drawn0.refl _⟩
  | none =>
    obtain ⟨r, hrun, hr⟩ := run_float_nan (P := Tryz.prog) w .sub 41 a b (.inr (.inl rfl)) h
    have hv : doRes (Ieee.double.sub a b) = canonN r := by
      have h1 : Ieee.double.sub a b = none := h
      rw [h1]; exact (if_pos hr).symm
    rw [hv]
    clear h hv hr
    go_enter Tryz.func6, Tryz.ntmps6
    go_wp2_with fail
    refine (of_calls _ _).mono ?_
    rintro e w1 ⟨rfl, rfl⟩
    rw [Int.toNat_natCast]
    go_wp2_with fail
    refine (of_calls _ _).mono ?_
    rintro e w1 ⟨rfl, rfl⟩
    rw [Int.toNat_natCast]
    go_wp2_with fail
    refine (bits_calls _ _).mono ?_
    rintro e w1 ⟨rfl, rfl⟩
    go_wp2
    go_ret2
    exact ⟨rfl, ⟨1, rfl⟩⟩
set_option maxRecDepth 100000 in
theorem real_mul (a b : Nat) (w : World) : Calls Tryz.prog 6 #[.int .i64 47, .int .u64 a, .int .u64 b] w fun e w' => e = .returned (.tuple #[.int .u64 (doRes (Ieee.double.mul a b) : Nat), .int .i64 0]) ∧ Drawn0 w w' := by
  cases h : floatBits .mul .f64 a b with
  | some r =>
    have hv : doRes (Ieee.double.mul a b) = canonN r := by
      have h1 : Ieee.double.mul a b = some r := h
      rw [h1]; exact (if_neg (floatBits_ok h)).symm
    have hrun : ∀ w, (binOp .mul 41 (.float .f64 a) (.float .f64 b)).run Tryz.prog w = .ok (.float .f64 r) w := fun w => run_float_arith w _ _ _ _ _ _ h
    rw [hv]
    clear h hv
    go_enter Tryz.func6, Tryz.ntmps6
    go_wp2_with fail
    refine (of_calls _ _).mono ?_
    rintro e w1 ⟨rfl, rfl⟩
    rw [Int.toNat_natCast]
    go_wp2_with fail
    refine (of_calls _ _).mono ?_
    rintro e w1 ⟨rfl, rfl⟩
    rw [Int.toNat_natCast]
    go_wp2_with fail
    refine (bits_calls _ _).mono ?_
    rintro e w1 ⟨rfl, rfl⟩
    go_wp2
    go_ret2
    exact ⟨rfl, Drawn0.refl _⟩
  | none =>
    obtain ⟨r, hrun, hr⟩ := run_float_nan (P := Tryz.prog) w .mul 41 a b (.inr (.inr (.inl rfl))) h
    have hv : doRes (Ieee.double.mul a b) = canonN r := by
      have h1 : Ieee.double.mul a b = none := h
      rw [h1]; exact (if_pos hr).symm
    rw [hv]
    clear h hv hr
    go_enter Tryz.func6, Tryz.ntmps6
    go_wp2_with fail
    refine (of_calls _ _).mono ?_
    rintro e w1 ⟨rfl, rfl⟩
    rw [Int.toNat_natCast]
    go_wp2_with fail
    refine (of_calls _ _).mono ?_
    rintro e w1 ⟨rfl, rfl⟩
    rw [Int.toNat_natCast]
    go_wp2_with fail
    refine (bits_calls _ _).mono ?_
    rintro e w1 ⟨rfl, rfl⟩
    go_wp2
    go_ret2
    exact ⟨rfl, ⟨1, rfl⟩⟩
set_option maxRecDepth 100000 in
theorem real_div (a b : Nat) (w : World) : Calls Tryz.prog 6 #[.int .i64 48, .int .u64 a, .int .u64 b] w fun e w' => e = .returned (.tuple #[.int .u64 (doRes (Ieee.double.div a b) : Nat), .int .i64 0]) ∧ Drawn0 w w' := by
  cases h : floatBits .quo .f64 a b with
  | some r =>
    have hv : doRes (Ieee.double.div a b) = canonN r := by
      have h1 : Ieee.double.div a b = some r := h
      rw [h1]; exact (if_neg (floatBits_ok h)).symm
    have hrun : ∀ w, (binOp .quo 41 (.float .f64 a) (.float .f64 b)).run Tryz.prog w = .ok (.float .f64 r) w := fun w => run_float_arith w _ _ _ _ _ _ h
    rw [hv]
    clear h hv
    go_enter Tryz.func6, Tryz.ntmps6
    go_wp2_with fail
    refine (of_calls _ _).mono ?_
    rintro e w1 ⟨rfl, rfl⟩
    rw [Int.toNat_natCast]
    go_wp2_with fail
    refine (of_calls _ _).mono ?_
    rintro e w1 ⟨rfl, rfl⟩
    rw [Int.toNat_natCast]
    go_wp2_with fail
    refine (bits_calls _ _).mono ?_
    rintro e w1 ⟨rfl, rfl⟩
    go_wp2
    go_ret2
    exact ⟨rfl, Drawn0.refl _⟩
  | none =>
    obtain ⟨r, hrun, hr⟩ := run_float_nan (P := Tryz.prog) w .quo 41 a b (.inr (.inr (.inr rfl))) h
    have hv : doRes (Ieee.double.div a b) = canonN r := by
      have h1 : Ieee.double.div a b = none := h
      rw [h1]; exact (if_pos hr).symm
    rw [hv]
    clear h hv hr
    go_enter Tryz.func6, Tryz.ntmps6
    go_wp2_with fail
    refine (of_calls _ _).mono ?_
    rintro e w1 ⟨rfl, rfl⟩
    rw [Int.toNat_natCast]
    go_wp2_with fail
    refine (of_calls _ _).mono ?_
    rintro e w1 ⟨rfl, rfl⟩
    rw [Int.toNat_natCast]
    go_wp2_with fail
    refine (bits_calls _ _).mono ?_
    rintro e w1 ⟨rfl, rfl⟩
    go_wp2
    go_ret2
    exact ⟨rfl, ⟨1, rfl⟩⟩
set_option maxRecDepth 100000 in
theorem real_none (op : Int) (hop : op < 45 ∨ 48 < op) (a b : Nat) (w : World) : Calls Tryz.prog 6 #[.int .i64 op, .int .u64 a, .int .u64 b] w fun e w' => e = .returned (.tuple #[.int .u64 0, .int .i64 1]) ∧ Drawn0 w w' := by
  have h1 : (op == 45) = false := beq_eq_false_iff_ne.2 (by omega)
  have h2 : (op == 46) = false := beq_eq_false_iff_ne.2 (by omega)
  have h3 : (op == 47) = false := beq_eq_false_iff_ne.2 (by omega)
  have h4 : (op == 48) = false := beq_eq_false_iff_ne.2 (by omega)
  clear hop
  go_enter Tryz.func6, Tryz.ntmps6
  go_wp2_with fail
  refine (of_calls _ _).mono ?_
  rintro e w1 ⟨rfl, rfl⟩
  go_wp2_with fail
  refine (of_calls _ _).mono ?_
  rintro e w1 ⟨rfl, rfl⟩
  go_wp2
  go_ret2
  exact ⟨rfl, Drawn0.refl _⟩
/-- what a comparison answers -/
def cmpB (op : Int) (a b : Nat) : Bool :=
  if op = 51 then Ieee.double.order a b == some .eq else if op = 52 then Ieee.double.order a b == some .lt else Ieee.double.order a b == some .lt || Ieee.double.order a b == some .eq
def cmpN (op : Int) (a b : Nat) : Int := if cmpB op a b then 1 else 0
set_option maxRecDepth 100000 in
theorem realcmp_is (op : Int) (hop : op = 51 ∨ op = 52 ∨ op = 53) (a b : Nat) (w : World) : Calls Tryz.prog 8 #[.int .i64 op, .int .u64 a, .int .u64 b] w fun e w' => e = .returned (.tuple #[.int .u32 (cmpN op a b), .int .i64 0]) ∧ w = w' := by
  rcases hop with rfl | rfl | rfl
  all_goals
    obtain ⟨o, ho⟩ : ∃ o, Ieee.double.order a b = o := ⟨_, rfl⟩
    have ho' : FloatKind.f64.format.order a b = o := ho
    unfold cmpN cmpB
    rw [ho]
    clear ho
    rcases o with _ | _ | _ | _
  all_goals
    go_enter Tryz.func8, Tryz.ntmps8
    go_wp2_with fail
    refine (of_calls _ _).mono ?_
    rintro e w1 ⟨rfl, rfl⟩
    rw [Int.toNat_natCast]
    go_wp2_with fail
    refine (of_calls _ _).mono ?_
    rintro e w1 ⟨rfl, rfl⟩
    rw [Int.toNat_natCast]
    go_wp2
    go_ret2
    exact ⟨rfl, rfl⟩
set_option maxRecDepth 100000 in
theorem realcmp_none (op : Int) (hop : op < 51 ∨ 53 < op) (a b : Nat) (w : World) : Calls Tryz.prog 8 #[.int .i64 op, .int .u64 a, .int .u64 b] w fun e w' => e = .returned (.tuple #[.int .u32 0, .int .i64 1]) ∧ w = w' := by
  have h1 : (op == 51) = false := beq_eq_false_iff_ne.2 (by omega)
  have h2 : (op == 52) = false := beq_eq_false_iff_ne.2 (by omega)
  have h3 : (op == 53) = false := beq_eq_false_iff_ne.2 (by omega)
  clear hop
  go_enter Tryz.func8, Tryz.ntmps8
  go_wp2_with fail
  refine (of_calls _ _).mono ?_
  rintro e w1 ⟨rfl, rfl⟩
  go_wp2_with fail
  refine (of_calls _ _).mono ?_
  rintro e w1 ⟨rfl, rfl⟩
  go_wp2
  go_ret2
  exact ⟨rfl, rfl⟩
end Go.Proofs.YthfppmgnemmckaaGreatDoor.PDo
