import Derived.Test.YtgcpnjckbdajbaaGreatDoorPA
namespace Go.Proofs.YtgcpnjckbdajbaaGreatDoor.Ob
open Go.RowKit Go.Sort
/-- n bits of a number from one on, moved left -/
def putV (x : Int) (f n t : Nat) : Int := bits .and .u32 (x / 2 ^ f) (2 ^ n - 1) * 2 ^ t % 4294967296
def orV (x y : Int) : Int := bits .or .u32 x y
theorem put_0_12_20 (x : Int) (w : World) : Calls Tryz.prog 126 #[.int .u32 x, .int .u64 0, .int .u64 12, .int .u64 20] w fun e w' => e = .returned (.int .u32 (putV x 0 12 20)) ∧ w = w' := by
  go_enter Tryz.func126, Tryz.ntmps126
  go_wp2
  go_ret
  exact ⟨by simp [putV], rfl⟩
theorem put_0_5_20 (x : Int) (w : World) : Calls Tryz.prog 126 #[.int .u32 x, .int .u64 0, .int .u64 5, .int .u64 20] w fun e w' => e = .returned (.int .u32 (putV x 0 5 20)) ∧ w = w' := by
  go_enter Tryz.func126, Tryz.ntmps126
  go_wp2
  go_ret
  exact ⟨by simp [putV], rfl⟩
theorem put_0_5_7 (x : Int) (w : World) : Calls Tryz.prog 126 #[.int .u32 x, .int .u64 0, .int .u64 5, .int .u64 7] w fun e w' => e = .returned (.int .u32 (putV x 0 5 7)) ∧ w = w' := by
  go_enter Tryz.func126, Tryz.ntmps126
  go_wp2
  go_ret
  exact ⟨by simp [putV], rfl⟩
theorem put_5_7_25 (x : Int) (w : World) : Calls Tryz.prog 126 #[.int .u32 x, .int .u64 5, .int .u64 7, .int .u64 25] w fun e w' => e = .returned (.int .u32 (putV x 5 7 25)) ∧ w = w' := by
  go_enter Tryz.func126, Tryz.ntmps126
  go_wp2
  go_ret
  exact ⟨by simp [putV], rfl⟩
theorem put_11_1_7 (x : Int) (w : World) : Calls Tryz.prog 126 #[.int .u32 x, .int .u64 11, .int .u64 1, .int .u64 7] w fun e w' => e = .returned (.int .u32 (putV x 11 1 7)) ∧ w = w' := by
  go_enter Tryz.func126, Tryz.ntmps126
  go_wp2
  go_ret
  exact ⟨by simp [putV], rfl⟩
theorem put_1_4_8 (x : Int) (w : World) : Calls Tryz.prog 126 #[.int .u32 x, .int .u64 1, .int .u64 4, .int .u64 8] w fun e w' => e = .returned (.int .u32 (putV x 1 4 8)) ∧ w = w' := by
  go_enter Tryz.func126, Tryz.ntmps126
  go_wp2
  go_ret
  exact ⟨by simp [putV], rfl⟩
theorem put_5_6_25 (x : Int) (w : World) : Calls Tryz.prog 126 #[.int .u32 x, .int .u64 5, .int .u64 6, .int .u64 25] w fun e w' => e = .returned (.int .u32 (putV x 5 6 25)) ∧ w = w' := by
  go_enter Tryz.func126, Tryz.ntmps126
  go_wp2
  go_ret
  exact ⟨by simp [putV], rfl⟩
theorem put_12_1_31 (x : Int) (w : World) : Calls Tryz.prog 126 #[.int .u32 x, .int .u64 12, .int .u64 1, .int .u64 31] w fun e w' => e = .returned (.int .u32 (putV x 12 1 31)) ∧ w = w' := by
  go_enter Tryz.func126, Tryz.ntmps126
  go_wp2
  go_ret
  exact ⟨by simp [putV], rfl⟩
theorem put_0_20_12 (x : Int) (w : World) : Calls Tryz.prog 126 #[.int .u32 x, .int .u64 0, .int .u64 20, .int .u64 12] w fun e w' => e = .returned (.int .u32 (putV x 0 20 12)) ∧ w = w' := by
  go_enter Tryz.func126, Tryz.ntmps126
  go_wp2
  go_ret
  exact ⟨by simp [putV], rfl⟩
theorem put_12_8_12 (x : Int) (w : World) : Calls Tryz.prog 126 #[.int .u32 x, .int .u64 12, .int .u64 8, .int .u64 12] w fun e w' => e = .returned (.int .u32 (putV x 12 8 12)) ∧ w = w' := by
  go_enter Tryz.func126, Tryz.ntmps126
  go_wp2
  go_ret
  exact ⟨by simp [putV], rfl⟩
theorem put_11_1_20 (x : Int) (w : World) : Calls Tryz.prog 126 #[.int .u32 x, .int .u64 11, .int .u64 1, .int .u64 20] w fun e w' => e = .returned (.int .u32 (putV x 11 1 20)) ∧ w = w' := by
  go_enter Tryz.func126, Tryz.ntmps126
  go_wp2
  go_ret
  exact ⟨by simp [putV], rfl⟩
theorem put_1_10_21 (x : Int) (w : World) : Calls Tryz.prog 126 #[.int .u32 x, .int .u64 1, .int .u64 10, .int .u64 21] w fun e w' => e = .returned (.int .u32 (putV x 1 10 21)) ∧ w = w' := by
  go_enter Tryz.func126, Tryz.ntmps126
  go_wp2
  go_ret
  exact ⟨by simp [putV], rfl⟩
theorem put_20_1_31 (x : Int) (w : World) : Calls Tryz.prog 126 #[.int .u32 x, .int .u64 20, .int .u64 1, .int .u64 31] w fun e w' => e = .returned (.int .u32 (putV x 20 1 31)) ∧ w = w' := by
  go_enter Tryz.func126, Tryz.ntmps126
  go_wp2
  go_ret
  exact ⟨by simp [putV], rfl⟩
def immV (r : RowV) (n : Int) : Int :=
  let x := n % 4294967296
  if r.kind = 73 then putV x 0 12 20
  else if r.kind = 72 then putV x 0 5 20
  else if r.kind = 83 then orV (putV x 0 5 7) (putV x 5 7 25)
  else if r.kind = 66 then orV (orV (orV (putV x 11 1 7) (putV x 1 4 8)) (putV x 5 6 25)) (putV x 12 1 31)
  else if r.kind = 85 then putV x 0 20 12
  else if r.kind = 74 then orV (orV (orV (putV x 12 8 12) (putV x 11 1 20)) (putV x 1 10 21)) (putV x 20 1 31)
  else 0
set_option maxRecDepth 100000 in
theorem imm_calls (r : RowV) (n : Int) (w : World) : Calls Tryz.prog 105 #[rowVal r, .int .i64 n] w fun e w' => e = .returned (.int .u32 (immV r n)) ∧ Below w.heap.size w w' := by
  obtain ⟨kind, op, f3, f7, rs2⟩ := r
  have bel : ∀ o, Pack (Below w.heap.size w (w.alloc o)) := fun o => ⟨(Below.refl _ w).alloc (Nat.le_refl _) _⟩
  by_cases k0 : kind = 73
  · subst k0
    simp only [rowVal, encRow]
    go_enter Tryz.func105, Tryz.ntmps105
    go_wp2_with fail
    refine (put_0_12_20 _ _).mono ?_
    rintro e w1 ⟨rfl, rfl⟩
    go_wp2_with fail
    go_ret
    exact ⟨by simp [immV], (bel _).out⟩
  by_cases k1 : kind = 72
  · subst k1
    simp only [rowVal, encRow]
    go_enter Tryz.func105, Tryz.ntmps105
    go_wp2_with fail
    refine (put_0_5_20 _ _).mono ?_
    rintro e w1 ⟨rfl, rfl⟩
    go_wp2_with fail
    go_ret
    exact ⟨by simp [immV], (bel _).out⟩
  by_cases k2 : kind = 83
  · subst k2
    simp only [rowVal, encRow]
    go_enter Tryz.func105, Tryz.ntmps105
    go_wp2_with fail
    refine (put_0_5_7 _ _).mono ?_
    rintro e w1 ⟨rfl, rfl⟩
    go_wp2_with fail
    refine (put_5_7_25 _ _).mono ?_
    rintro e w1 ⟨rfl, rfl⟩
    go_wp2_with fail
    go_ret
    exact ⟨by simp [immV, orV], (bel _).out⟩
  by_cases k3 : kind = 66
  · subst k3
    simp only [rowVal, encRow]
    go_enter Tryz.func105, Tryz.ntmps105
    go_wp2_with fail
    refine (put_11_1_7 _ _).mono ?_
    rintro e w1 ⟨rfl, rfl⟩
    go_wp2_with fail
    refine (put_1_4_8 _ _).mono ?_
    rintro e w1 ⟨rfl, rfl⟩
    go_wp2_with fail
    refine (put_5_6_25 _ _).mono ?_
    rintro e w1 ⟨rfl, rfl⟩
    go_wp2_with fail
    refine (put_12_1_31 _ _).mono ?_
    rintro e w1 ⟨rfl, rfl⟩
    go_wp2_with fail
    go_ret
    exact ⟨by simp [immV, orV], (bel _).out⟩
  by_cases k4 : kind = 85
  · subst k4
    simp only [rowVal, encRow]
    go_enter Tryz.func105, Tryz.ntmps105
    go_wp2_with fail
    refine (put_0_20_12 _ _).mono ?_
    rintro e w1 ⟨rfl, rfl⟩
    go_wp2_with fail
    go_ret
    exact ⟨by simp [immV], (bel _).out⟩
  by_cases k5 : kind = 74
  · subst k5
    simp only [rowVal, encRow]
    go_enter Tryz.func105, Tryz.ntmps105
    go_wp2_with fail
    refine (put_12_8_12 _ _).mono ?_
    rintro e w1 ⟨rfl, rfl⟩
    go_wp2_with fail
    refine (put_11_1_20 _ _).mono ?_
    rintro e w1 ⟨rfl, rfl⟩
    go_wp2_with fail
    refine (put_1_10_21 _ _).mono ?_
    rintro e w1 ⟨rfl, rfl⟩
    go_wp2_with fail
    refine (put_20_1_31 _ _).mono ?_
    rintro e w1 ⟨rfl, rfl⟩
    go_wp2_with fail
    go_ret
    exact ⟨by simp [immV, orV], (bel _).out⟩
  · have F : Pack (immV ⟨kind, op, f3, f7, rs2⟩ n = 0) := ⟨by simp [immV, k0, k1, k2, k3, k4, k5]⟩
    simp only [rowVal, encRow]
    go_enter Tryz.func105, Tryz.ntmps105
    go_wp2
    go_ret
    exact ⟨by rw [F.out]; rfl, (bel _).out⟩
/-- the Imm of a word, by its form -/
def signedV (r : RowV) (x : Int) : Int :=
  if r.kind = 73 then wrap64 (wrap32 x / 1048576)
  else if r.kind = 72 then wrap64 (bits .and .u32 (x / 1048576) 31)
  else if r.kind = 83 then bits .or .i64 (wrap64 (wrap32 (wrap32 x / 33554432 * 32))) (wrap64 (bits .and .u32 (x / 128) 31))
  else if r.kind = 66 then bits .or .i64 (bits .or .i64 (bits .or .i64 (wrap64 (wrap32 (wrap32 x / 2147483648 * 4096))) (bits .and .u32 (x / 128) 1 * 2048 % 4294967296)) (bits .and .u32 (x / 33554432) 63 * 32 % 4294967296)) (bits .and .u32 (x / 256) 15 * 2 % 4294967296)
  else if r.kind = 85 then x / 4096
  else if r.kind = 74 then bits .or .i64 (bits .or .i64 (bits .or .i64 (wrap64 (wrap32 (wrap32 x / 2147483648 * 1048576))) (bits .and .u32 (x / 4096) 255 * 4096 % 4294967296)) (bits .and .u32 (x / 1048576) 1 * 2048 % 4294967296)) (bits .and .u32 (x / 2097152) 1023 * 2 % 4294967296)
  else 0
set_option maxRecDepth 100000 in
theorem signed_calls (r : RowV) (x : Int) (h0 : 0 ≤ x) (h1 : x < 4294967296) (w : World) : Calls Tryz.prog 82 #[rowVal r, .int .u32 x] w fun e w' => e = .returned (.int .i64 (signedV r x)) ∧ Below w.heap.size w w' := by
  obtain ⟨kind, op, f3, f7, rs2⟩ := r
  have bel : ∀ o, Pack (Below w.heap.size w (w.alloc o)) := fun o => ⟨(Below.refl _ w).alloc (Nat.le_refl _) _⟩
  by_cases k0 : kind = 73
  · subst k0
    have F : Pack (signedV ⟨73, op, f3, f7, rs2⟩ x = wrap64 (wrap32 x / 1048576)) := ⟨by unfold signedV; rw [if_pos rfl]⟩
    simp only [rowVal, encRow]
    go_enter Tryz.func82, Tryz.ntmps82
    go_wp2
    go_ret
    exact ⟨by rw [F.out]; rfl, (bel _).out⟩
  by_cases k1 : kind = 72
  · subst k1
    have F : Pack (signedV ⟨72, op, f3, f7, rs2⟩ x = wrap64 (bits .and .u32 (x / 1048576) 31)) := ⟨by unfold signedV; rw [if_neg (show ¬ ((72 : Int) = 73) by decide), if_pos rfl]⟩
    simp only [rowVal, encRow]
    go_enter Tryz.func82, Tryz.ntmps82
    go_wp2
    go_ret
    exact ⟨by rw [F.out]; rfl, (bel _).out⟩
  by_cases k2 : kind = 83
  · subst k2
    have F : Pack (signedV ⟨83, op, f3, f7, rs2⟩ x = bits .or .i64 (wrap64 (wrap32 (wrap32 x / 33554432 * 32))) (wrap64 (bits .and .u32 (x / 128) 31))) := ⟨by unfold signedV; rw [if_neg (show ¬ ((83 : Int) = 73) by decide), if_neg (show ¬ ((83 : Int) = 72) by decide), if_pos rfl]⟩
    simp only [rowVal, encRow]
    go_enter Tryz.func82, Tryz.ntmps82
    go_wp2
    go_ret
    exact ⟨by rw [F.out]; rfl, (bel _).out⟩
  by_cases k3 : kind = 66
  · subst k3
    have F : Pack (signedV ⟨66, op, f3, f7, rs2⟩ x = bits .or .i64 (bits .or .i64 (bits .or .i64 (wrap64 (wrap32 (wrap32 x / 2147483648 * 4096))) (bits .and .u32 (x / 128) 1 * 2048 % 4294967296)) (bits .and .u32 (x / 33554432) 63 * 32 % 4294967296)) (bits .and .u32 (x / 256) 15 * 2 % 4294967296)) := ⟨by unfold signedV; rw [if_neg (show ¬ ((66 : Int) = 73) by decide), if_neg (show ¬ ((66 : Int) = 72) by decide), if_neg (show ¬ ((66 : Int) = 83) by decide), if_pos rfl]⟩
    simp only [rowVal, encRow]
    go_enter Tryz.func82, Tryz.ntmps82
    go_wp2
    go_ret
    exact ⟨by rw [F.out]; rfl, (bel _).out⟩
  by_cases k4 : kind = 85
  · subst k4
    have F : Pack (signedV ⟨85, op, f3, f7, rs2⟩ x = x / 4096) := ⟨by unfold signedV; rw [if_neg (show ¬ ((85 : Int) = 73) by decide), if_neg (show ¬ ((85 : Int) = 72) by decide), if_neg (show ¬ ((85 : Int) = 83) by decide), if_neg (show ¬ ((85 : Int) = 66) by decide), if_pos rfl]⟩
    simp only [rowVal, encRow]
    go_enter Tryz.func82, Tryz.ntmps82
    go_wp2
    go_ret
    exact ⟨by rw [F.out]; rfl, (bel _).out⟩
  by_cases k5 : kind = 74
  · subst k5
    have F : Pack (signedV ⟨74, op, f3, f7, rs2⟩ x = bits .or .i64 (bits .or .i64 (bits .or .i64 (wrap64 (wrap32 (wrap32 x / 2147483648 * 1048576))) (bits .and .u32 (x / 4096) 255 * 4096 % 4294967296)) (bits .and .u32 (x / 1048576) 1 * 2048 % 4294967296)) (bits .and .u32 (x / 2097152) 1023 * 2 % 4294967296)) := ⟨by unfold signedV; rw [if_neg (show ¬ ((74 : Int) = 73) by decide), if_neg (show ¬ ((74 : Int) = 72) by decide), if_neg (show ¬ ((74 : Int) = 83) by decide), if_neg (show ¬ ((74 : Int) = 66) by decide), if_neg (show ¬ ((74 : Int) = 85) by decide), if_pos rfl]⟩
    simp only [rowVal, encRow]
    go_enter Tryz.func82, Tryz.ntmps82
    go_wp2
    go_ret
    exact ⟨by rw [F.out]; rfl, (bel _).out⟩
  · have F : Pack (signedV ⟨kind, op, f3, f7, rs2⟩ x = 0) := ⟨by simp [signedV, k0, k1, k2, k3, k4, k5]⟩
    simp only [rowVal, encRow]
    go_enter Tryz.func82, Tryz.ntmps82
    go_wp2
    go_ret
    exact ⟨by rw [F.out]; rfl, (bel _).out⟩
end Go.Proofs.YtgcpnjckbdajbaaGreatDoor.Ob
