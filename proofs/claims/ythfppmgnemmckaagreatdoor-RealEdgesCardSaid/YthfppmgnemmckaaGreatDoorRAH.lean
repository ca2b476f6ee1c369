import Derived.Test.YthfppmgnemmckaaGreatDoorRAG
namespace Go.Proofs.YthfppmgnemmckaaGreatDoor.PDo
open Go.RowKit Go.Proofs.YthfppmgnemmckaaGreatDoorW.PrintWords Go.Proofs.YthfppmgnemmckaaGreatDoorW.PrintLast Go.Proofs.YthfppmgnemmckaaGreatDoorW.PrintMore

theorem op_calls (op x y r : Int) (h : ∀ w, Calls Tryz.prog 6 #[.int .i64 op, .int .u64 x, .int .u64 y] w fun e w' => e = .returned (.tuple #[.int .u64 r, .int .i64 0]) ∧ Drawn0 w w') (w : World) :
    Calls Tryz.prog 11 #[.int .i64 op, .int .u64 x, .int .u64 y] w fun e w' => e = .returned (.int .u64 r) ∧ Below w.heap.size w w' := by
  go_enter Tryz.func11, Tryz.ntmps11
  go_wp2_with fail
  refine (h _).mono ?_
  rintro e w1 ⟨rfl, hd⟩
  have HB := Aside0.mk hd.below
  clear hd
  go_wp2
  go_ret
  exact ⟨rfl, HB.out⟩
theorem is_calls (op : Int) (hop : op = 51 ∨ op = 52 ∨ op = 53) (a b : Nat) (β : Bool) (hβ : cmpB op a b = β) (w : World) :
    Calls Tryz.prog 12 #[.int .i64 op, .int .u64 a, .int .u64 b] w fun e w' => e = .returned (.bool β) ∧ w = w' := by
  have h : ∀ w, Calls Tryz.prog 8 #[.int .i64 op, .int .u64 a, .int .u64 b] w fun e w' => e = .returned (.tuple #[.int .u32 (if β then 1 else 0), .int .i64 0]) ∧ w = w' := fun w => by
    have := realcmp_is op hop a b w
    unfold cmpN at this
    rw [hβ] at this
    exact this
  clear hop hβ
  obtain ⟨A, hA⟩ : ∃ A : Int, (a : Int) = A := ⟨_, rfl⟩
  obtain ⟨B, hB⟩ : ∃ B : Int, (b : Int) = B := ⟨_, rfl⟩
  rw [hA, hB] at h ⊢
  clear hA hB
  cases β
  all_goals
    go_enter Tryz.func12, Tryz.ntmps12
    go_wp2_with fail
    refine (h _).mono ?_
    rintro e w1 ⟨rfl, rfl⟩
    go_wp2
    go_ret
    exact ⟨rfl, rfl⟩
/-- what the calls of one word answer -/
structure Edges (A X : Int) (γ : Bool) (S Z : Int) : Prop where
  canon : ∀ w, Calls Tryz.prog 10 #[.int .u64 A] w fun e w' => e = .returned (.int .u64 X) ∧ w = w'
  l45 : ∀ w, Calls Tryz.prog 11 #[.int .i64 45, .int .u64 A, .int .u64 9221120237041090560] w fun e w' => e = .returned (.int .u64 9221120237041090560) ∧ Below w.heap.size w w'
  r45 : ∀ w, Calls Tryz.prog 11 #[.int .i64 45, .int .u64 9221120237041090560, .int .u64 A] w fun e w' => e = .returned (.int .u64 9221120237041090560) ∧ Below w.heap.size w w'
  l46 : ∀ w, Calls Tryz.prog 11 #[.int .i64 46, .int .u64 A, .int .u64 9221120237041090560] w fun e w' => e = .returned (.int .u64 9221120237041090560) ∧ Below w.heap.size w w'
  r46 : ∀ w, Calls Tryz.prog 11 #[.int .i64 46, .int .u64 9221120237041090560, .int .u64 A] w fun e w' => e = .returned (.int .u64 9221120237041090560) ∧ Below w.heap.size w w'
  l47 : ∀ w, Calls Tryz.prog 11 #[.int .i64 47, .int .u64 A, .int .u64 9221120237041090560] w fun e w' => e = .returned (.int .u64 9221120237041090560) ∧ Below w.heap.size w w'
  r47 : ∀ w, Calls Tryz.prog 11 #[.int .i64 47, .int .u64 9221120237041090560, .int .u64 A] w fun e w' => e = .returned (.int .u64 9221120237041090560) ∧ Below w.heap.size w w'
  l48 : ∀ w, Calls Tryz.prog 11 #[.int .i64 48, .int .u64 A, .int .u64 9221120237041090560] w fun e w' => e = .returned (.int .u64 9221120237041090560) ∧ Below w.heap.size w w'
  r48 : ∀ w, Calls Tryz.prog 11 #[.int .i64 48, .int .u64 9221120237041090560, .int .u64 A] w fun e w' => e = .returned (.int .u64 9221120237041090560) ∧ Below w.heap.size w w'
  c1 : ∀ w, Calls Tryz.prog 12 #[.int .i64 51, .int .u64 9221120237041090560, .int .u64 A] w fun e w' => e = .returned (.bool false) ∧ w = w'
  c2 : ∀ w, Calls Tryz.prog 12 #[.int .i64 51, .int .u64 A, .int .u64 9221120237041090560] w fun e w' => e = .returned (.bool false) ∧ w = w'
  c3 : ∀ w, Calls Tryz.prog 12 #[.int .i64 52, .int .u64 A, .int .u64 9221120237041090560] w fun e w' => e = .returned (.bool false) ∧ w = w'
  c4 : ∀ w, Calls Tryz.prog 12 #[.int .i64 53, .int .u64 9221120237041090560, .int .u64 A] w fun e w' => e = .returned (.bool false) ∧ w = w'
  c5 : ∀ w, Calls Tryz.prog 12 #[.int .i64 51, .int .u64 A, .int .u64 A] w fun e w' => e = .returned (.bool γ) ∧ w = w'
  c6 : ∀ w, Calls Tryz.prog 12 #[.int .i64 52, .int .u64 A, .int .u64 A] w fun e w' => e = .returned (.bool false) ∧ w = w'
  s : ∀ w, Calls Tryz.prog 11 #[.int .i64 46, .int .u64 A, .int .u64 A] w fun e w' => e = .returned (.int .u64 S) ∧ Below w.heap.size w w'
  p : ∀ w, Calls Tryz.prog 11 #[.int .i64 45, .int .u64 A, .int .u64 9223372036854775808] w fun e w' => e = .returned (.int .u64 X) ∧ Below w.heap.size w w'
  o : ∀ w, Calls Tryz.prog 11 #[.int .i64 47, .int .u64 A, .int .u64 4607182418800017408] w fun e w' => e = .returned (.int .u64 X) ∧ Below w.heap.size w w'
  z : ∀ w, Calls Tryz.prog 11 #[.int .i64 45, .int .u64 A, .int .u64 0] w fun e w' => e = .returned (.int .u64 Z) ∧ Below w.heap.size w w'
theorem k1 (w : World) : Calls Tryz.prog 12 #[.int .i64 51, .int .u64 0, .int .u64 9223372036854775808] w fun e w' => e = .returned (.bool true) ∧ w = w' := is_calls 51 (.inl rfl) 0 9223372036854775808 true (by decide +kernel) w
theorem k2 (w : World) : Calls Tryz.prog 12 #[.int .i64 52, .int .u64 9223372036854775808, .int .u64 0] w fun e w' => e = .returned (.bool false) ∧ w = w' := is_calls 52 (.inr (.inl rfl)) 9223372036854775808 0 false (by decide +kernel) w
theorem op_div (a b r : Nat) (h : doRes (Ieee.double.div a b) = r) (w : World) : Calls Tryz.prog 11 #[.int .i64 48, .int .u64 a, .int .u64 b] w fun e w' => e = .returned (.int .u64 r) ∧ Below w.heap.size w w' :=
  op_calls 48 a b r (fun w => by have := real_div a b w; rw [h] at this; exact this) w
theorem op_mul (a b r : Nat) (h : doRes (Ieee.double.mul a b) = r) (w : World) : Calls Tryz.prog 11 #[.int .i64 47, .int .u64 a, .int .u64 b] w fun e w' => e = .returned (.int .u64 r) ∧ Below w.heap.size w w' :=
  op_calls 47 a b r (fun w => by have := real_mul a b w; rw [h] at this; exact this) w
theorem op_sub (a b r : Nat) (h : doRes (Ieee.double.sub a b) = r) (w : World) : Calls Tryz.prog 11 #[.int .i64 46, .int .u64 a, .int .u64 b] w fun e w' => e = .returned (.int .u64 r) ∧ Below w.heap.size w w' :=
  op_calls 46 a b r (fun w => by have := real_sub a b w; rw [h] at this; exact this) w
theorem op_add (a b r : Nat) (h : doRes (Ieee.double.add a b) = r) (w : World) : Calls Tryz.prog 11 #[.int .i64 45, .int .u64 a, .int .u64 b] w fun e w' => e = .returned (.int .u64 r) ∧ Below w.heap.size w w' :=
  op_calls 45 a b r (fun w => by have := real_add a b w; rw [h] at this; exact this) w
theorem k3 (w : World) : Calls Tryz.prog 11 #[.int .i64 48, .int .u64 4607182418800017408, .int .u64 0] w fun e w' => e = .returned (.int .u64 9218868437227405312) ∧ Below w.heap.size w w' := op_div 4607182418800017408 0 9218868437227405312 (by decide +kernel) w
theorem k4 (w : World) : Calls Tryz.prog 11 #[.int .i64 48, .int .u64 4607182418800017408, .int .u64 9223372036854775808] w fun e w' => e = .returned (.int .u64 18442240474082181120) ∧ Below w.heap.size w w' := op_div 4607182418800017408 9223372036854775808 18442240474082181120 (by decide +kernel) w
theorem k5 (w : World) : Calls Tryz.prog 11 #[.int .i64 47, .int .u64 0, .int .u64 9218868437227405312] w fun e w' => e = .returned (.int .u64 9221120237041090560) ∧ Below w.heap.size w w' := op_mul 0 9218868437227405312 9221120237041090560 (by decide +kernel) w
theorem k6 (w : World) : Calls Tryz.prog 11 #[.int .i64 46, .int .u64 9218868437227405312, .int .u64 9218868437227405312] w fun e w' => e = .returned (.int .u64 9221120237041090560) ∧ Below w.heap.size w w' := op_sub 9218868437227405312 9218868437227405312 9221120237041090560 (by decide +kernel) w
theorem k7 (w : World) : Calls Tryz.prog 11 #[.int .i64 48, .int .u64 9223372036854775808, .int .u64 0] w fun e w' => e = .returned (.int .u64 9221120237041090560) ∧ Below w.heap.size w w' := op_div 9223372036854775808 0 9221120237041090560 (by decide +kernel) w
theorem k8 (w : World) : Calls Tryz.prog 11 #[.int .i64 45, .int .u64 9223372036854775808, .int .u64 9223372036854775808] w fun e w' => e = .returned (.int .u64 9223372036854775808) ∧ Below w.heap.size w w' := op_add 9223372036854775808 9223372036854775808 9223372036854775808 (by decide +kernel) w
theorem k9 (w : World) : Calls Tryz.prog 11 #[.int .i64 45, .int .u64 0, .int .u64 9223372036854775808] w fun e w' => e = .returned (.int .u64 0) ∧ Below w.heap.size w w' := op_add 0 9223372036854775808 0 (by decide +kernel) w
theorem edges_of (a : Nat) (ha : a < 2 ^ 64) : ∃ (γ : Bool) (X S Z : Nat), Edges a X γ S Z ∧ γ = !(X == NANV) ∧ (S == 0) = decide (X % 2 ^ 63 < 2047 * 2 ^ 52) ∧ (Z == X) = !(X == NEG0) ∧ X < 2 ^ 64 := by
  obtain ⟨n1, n2, n3, n4, n5, n6, n7, n8⟩ := e_nan a
  obtain ⟨c1, c2, c3, c4⟩ := e_cmp a
  by_cases h : 2047 * 2 ^ 52 < a % 2 ^ 63
  · obtain ⟨c5, c6⟩ := e_self_nan a h
    obtain ⟨s1, s2, s3, s4⟩ := e_nans a h
    refine ⟨false, NANV, NANV, NANV, ⟨fun w => by have := canon_calls a w; rw [canonN, if_pos h] at this; exact this,
      op_add a NANV NANV n1, op_add NANV a NANV n2, op_sub a NANV NANV n3, op_sub NANV a NANV n4, op_mul a NANV NANV n5, op_mul NANV a NANV n6, op_div a NANV NANV n7, op_div NANV a NANV n8,
      is_calls 51 (by decide) NANV a _ c1, is_calls 51 (by decide) a NANV _ c2, is_calls 52 (by decide) a NANV _ c3, is_calls 53 (by decide) NANV a _ c4, is_calls 51 (by decide) a a _ c5, is_calls 52 (by decide) a a _ c6,
      op_sub a a NANV s1, op_add a NEG0 NANV s2, op_mul a ONE NANV s3, op_add a 0 NANV s4⟩, by decide, by decide, by decide, by decide⟩
  · obtain ⟨c5, c6⟩ := e_self a h
    have hN : a ≠ NANV := by rintro rfl; exact h (by decide)
    refine ⟨true, a, if a % 2 ^ 63 < 2047 * 2 ^ 52 then 0 else NANV, if a = NEG0 then 0 else a, ⟨fun w => by have := canon_calls a w; rw [canonN, if_neg h] at this; exact this,
      op_add a NANV NANV n1, op_add NANV a NANV n2, op_sub a NANV NANV n3, op_sub NANV a NANV n4, op_mul a NANV NANV n5, op_mul NANV a NANV n6, op_div a NANV NANV n7, op_div NANV a NANV n8,
      is_calls 51 (by decide) NANV a _ c1, is_calls 51 (by decide) a NANV _ c2, is_calls 52 (by decide) a NANV _ c3, is_calls 53 (by decide) NANV a _ c4, is_calls 51 (by decide) a a _ c5, is_calls 52 (by decide) a a _ c6,
      op_sub a a _ ?_, op_add a NEG0 a (e_neg0 a ha h), op_mul a ONE a (e_one a ha h), op_add a 0 _ (e_pos0 a ha h)⟩, by simp [hN], ?_, ?_, ha⟩
    · split
      · exact e_sub_fin a ha ‹_›
      · exact e_sub_inf a ha (by omega)
    · split <;> simp [*]
    · split
      · rename_i h; subst h; decide
      · simp [*]
end Go.Proofs.YthfppmgnemmckaaGreatDoor.PDo
