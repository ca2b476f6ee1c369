import Derived.Test.YtgcpnjckbdajbaaGreatDoorPA
namespace Go.Proofs.YtgcpnjckbdajbaaGreatDoor.Ob
open Go.RowKit Go.Sort

/-- which of Rd, Rs1, Rs2, Imm a form uses -/
def usesV (r : RowV) : Bool × Bool × Bool × Bool :=
  if r.kind = 82 then (true, true, decide (r.rs2 < 0), false)
  else if r.kind = 73 ∨ r.kind = 72 then (true, true, false, true)
  else if r.kind = 83 ∨ r.kind = 66 then (false, true, true, true)
  else if r.kind = 85 ∨ r.kind = 74 then (true, false, false, true)
  else (false, false, false, false)
def quad (u : Bool × Bool × Bool × Bool) : Value := .agg #[.bool u.1, .bool u.2.1, .bool u.2.2.1, .bool u.2.2.2]
def fitsV (r : RowV) (n : Int) : Bool :=
  if r.kind = 73 ∨ r.kind = 83 then decide (-2048 ≤ n) && decide (n < 2048)
  else if r.kind = 72 then decide (0 ≤ n) && decide (n < 32)
  else if r.kind = 66 then decide (-4096 ≤ n) && decide (n < 4096) && decide (bits .and .i64 n 1 = 0)
  else if r.kind = 85 then decide (0 ≤ n) && decide (n < 1048576)
  else if r.kind = 74 then decide (-1048576 ≤ n) && decide (n < 1048576) && decide (bits .and .i64 n 1 = 0)
  else false

theorem res81 (w : World) (o : Obj) (cs : Array Value) (t : TypeId) : ((w.alloc o).alloc (.cells cs t)).heap[w.heap.size + 1]? = some (.cells cs t (0, 0)) := by
  have e1 : (w.alloc o).heap.size = w.heap.size + 1 := by simp
  have := heap_alloc_new (w.alloc o) (.cells cs t)
  rwa [e1] at this
set_option maxRecDepth 100000 in
theorem uses_calls (r : RowV) (w : World) : Calls Tryz.prog 81 #[rowVal r] w fun e w' => e = .returned (quad (usesV r)) ∧ Below w.heap.size w w' := by
  obtain ⟨kind, op, f3, f7, rs2⟩ := r
  simp only [rowVal, encRow]
  by_cases k0 : kind = 82
  · subst k0
    go_enter Tryz.func81, Tryz.ntmps81
    go_wp2_with fail
    refine bodyPost_ret (results_cell_row (fn := Tryz.f81) rfl _ _ _ _ _ _ _ rfl (res81 w _ _ 129) Tryz.underlying129 rfl (by kernel_rfl)) rfl ?_
    exact ⟨by rfl, ((Below.refl _ w).alloc (Nat.le_refl _) _).alloc (by simp) _⟩
  by_cases k1 : kind = 73
  · subst k1
    go_enter Tryz.func81, Tryz.ntmps81
    go_wp2_with fail
    refine bodyPost_ret (results_cell_row (fn := Tryz.f81) rfl _ _ _ _ _ _ _ rfl (res81 w _ _ 129) Tryz.underlying129 rfl (by kernel_rfl)) rfl ?_
    exact ⟨by rfl, ((Below.refl _ w).alloc (Nat.le_refl _) _).alloc (by simp) _⟩
  by_cases k2 : kind = 72
  · subst k2
    go_enter Tryz.func81, Tryz.ntmps81
    go_wp2_with fail
    refine bodyPost_ret (results_cell_row (fn := Tryz.f81) rfl _ _ _ _ _ _ _ rfl (res81 w _ _ 129) Tryz.underlying129 rfl (by kernel_rfl)) rfl ?_
    exact ⟨by rfl, ((Below.refl _ w).alloc (Nat.le_refl _) _).alloc (by simp) _⟩
  by_cases k3 : kind = 83
  · subst k3
    go_enter Tryz.func81, Tryz.ntmps81
    go_wp2_with fail
    refine bodyPost_ret (results_cell_row (fn := Tryz.f81) rfl _ _ _ _ _ _ _ rfl (res81 w _ _ 129) Tryz.underlying129 rfl (by kernel_rfl)) rfl ?_
    exact ⟨by rfl, ((Below.refl _ w).alloc (Nat.le_refl _) _).alloc (by simp) _⟩
  by_cases k4 : kind = 66
  · subst k4
    go_enter Tryz.func81, Tryz.ntmps81
    go_wp2_with fail
    refine bodyPost_ret (results_cell_row (fn := Tryz.f81) rfl _ _ _ _ _ _ _ rfl (res81 w _ _ 129) Tryz.underlying129 rfl (by kernel_rfl)) rfl ?_
    exact ⟨by rfl, ((Below.refl _ w).alloc (Nat.le_refl _) _).alloc (by simp) _⟩
  by_cases k5 : kind = 85
  · subst k5
    go_enter Tryz.func81, Tryz.ntmps81
    go_wp2_with fail
    refine bodyPost_ret (results_cell_row (fn := Tryz.f81) rfl _ _ _ _ _ _ _ rfl (res81 w _ _ 129) Tryz.underlying129 rfl (by kernel_rfl)) rfl ?_
    exact ⟨by rfl, ((Below.refl _ w).alloc (Nat.le_refl _) _).alloc (by simp) _⟩
  by_cases k6 : kind = 74
  · subst k6
    go_enter Tryz.func81, Tryz.ntmps81
    go_wp2_with fail
    refine bodyPost_ret (results_cell_row (fn := Tryz.f81) rfl _ _ _ _ _ _ _ rfl (res81 w _ _ 129) Tryz.underlying129 rfl (by kernel_rfl)) rfl ?_
    exact ⟨by rfl, ((Below.refl _ w).alloc (Nat.le_refl _) _).alloc (by simp) _⟩
  · go_enter Tryz.func81, Tryz.ntmps81
    go_wp2_with fail
    refine bodyPost_ret (results_cell_row (fn := Tryz.f81) rfl _ _ _ _ _ _ _ rfl (res81 w _ _ 129) Tryz.underlying129 rfl (by kernel_rfl)) rfl ?_
    exact ⟨by rw [usesV, if_neg k0, if_neg (by simp [k1, k2]), if_neg (by simp [k3, k4]), if_neg (by simp [k5, k6])]; rfl, ((Below.refl _ w).alloc (Nat.le_refl _) _).alloc (by simp) _⟩
set_option maxRecDepth 100000 in
theorem fits_calls (r : RowV) (n : Int) (w : World) : Calls Tryz.prog 104 #[rowVal r, .int .i64 n] w fun e w' => e = .returned (.bool (fitsV r n)) ∧ Below w.heap.size w w' := by
  obtain ⟨kind, op, f3, f7, rs2⟩ := r
  have bel : ∀ o, Pack (Below w.heap.size w (w.alloc o)) := fun o => ⟨(Below.refl _ w).alloc (Nat.le_refl _) _⟩
  by_cases k0 : kind = 73
  · subst k0
    by_cases c1 : -2048 ≤ n
    · by_cases c2 : n < 2048
      · have F : Pack (fitsV ⟨73, op, f3, f7, rs2⟩ n = true) := ⟨by simp [fitsV, c1, c2]⟩
        simp only [rowVal, encRow]
        go_enter Tryz.func104, Tryz.ntmps104
        go_wp2
        go_ret
        exact ⟨by rw [F.out]; rfl, (bel _).out⟩
      · have F : Pack (fitsV ⟨73, op, f3, f7, rs2⟩ n = false) := ⟨by simp [fitsV, c2]⟩
        simp only [rowVal, encRow]
        go_enter Tryz.func104, Tryz.ntmps104
        go_wp2
        go_ret
        exact ⟨by rw [F.out]; rfl, (bel _).out⟩
    · have F : Pack (fitsV ⟨73, op, f3, f7, rs2⟩ n = false) := ⟨by simp [fitsV, c1]⟩
      simp only [rowVal, encRow]
      go_enter Tryz.func104, Tryz.ntmps104
      go_wp2
      go_ret
      exact ⟨by rw [F.out]; rfl, (bel _).out⟩
  by_cases k1 : kind = 83
  · subst k1
    by_cases c1 : -2048 ≤ n
    · by_cases c2 : n < 2048
      · have F : Pack (fitsV ⟨83, op, f3, f7, rs2⟩ n = true) := ⟨by simp [fitsV, c1, c2]⟩
        simp only [rowVal, encRow]
        go_enter Tryz.func104, Tryz.ntmps104
        go_wp2
        go_ret
        exact ⟨by rw [F.out]; rfl, (bel _).out⟩
      · have F : Pack (fitsV ⟨83, op, f3, f7, rs2⟩ n = false) := ⟨by simp [fitsV, c2]⟩
        simp only [rowVal, encRow]
        go_enter Tryz.func104, Tryz.ntmps104
        go_wp2
        go_ret
        exact ⟨by rw [F.out]; rfl, (bel _).out⟩
    · have F : Pack (fitsV ⟨83, op, f3, f7, rs2⟩ n = false) := ⟨by simp [fitsV, c1]⟩
      simp only [rowVal, encRow]
      go_enter Tryz.func104, Tryz.ntmps104
      go_wp2
      go_ret
      exact ⟨by rw [F.out]; rfl, (bel _).out⟩
  by_cases k2 : kind = 72
  · subst k2
    by_cases c1 : 0 ≤ n
    · by_cases c2 : n < 32
      · have F : Pack (fitsV ⟨72, op, f3, f7, rs2⟩ n = true) := ⟨by simp [fitsV, c1, c2]⟩
        simp only [rowVal, encRow]
        go_enter Tryz.func104, Tryz.ntmps104
        go_wp2
        go_ret
        exact ⟨by rw [F.out]; rfl, (bel _).out⟩
      · have F : Pack (fitsV ⟨72, op, f3, f7, rs2⟩ n = false) := ⟨by simp [fitsV, c2]⟩
        simp only [rowVal, encRow]
        go_enter Tryz.func104, Tryz.ntmps104
        go_wp2
        go_ret
        exact ⟨by rw [F.out]; rfl, (bel _).out⟩
    · have F : Pack (fitsV ⟨72, op, f3, f7, rs2⟩ n = false) := ⟨by simp [fitsV, c1]⟩
      simp only [rowVal, encRow]
      go_enter Tryz.func104, Tryz.ntmps104
      go_wp2
      go_ret
      exact ⟨by rw [F.out]; rfl, (bel _).out⟩
  by_cases k3 : kind = 66
  · subst k3
    by_cases c1 : -4096 ≤ n
    · by_cases c2 : n < 4096
      · have F : Pack (fitsV ⟨66, op, f3, f7, rs2⟩ n = decide (bits .and .i64 n 1 = 0)) := ⟨by simp [fitsV, c1, c2]⟩
        simp only [rowVal, encRow]
        go_enter Tryz.func104, Tryz.ntmps104
        go_wp2
        go_ret
        exact ⟨by rw [F.out]; rfl, (bel _).out⟩
      · have F : Pack (fitsV ⟨66, op, f3, f7, rs2⟩ n = false) := ⟨by simp [fitsV, c2]⟩
        simp only [rowVal, encRow]
        go_enter Tryz.func104, Tryz.ntmps104
        go_wp2
        go_ret
        exact ⟨by rw [F.out]; rfl, (bel _).out⟩
    · have F : Pack (fitsV ⟨66, op, f3, f7, rs2⟩ n = false) := ⟨by simp [fitsV, c1]⟩
      simp only [rowVal, encRow]
      go_enter Tryz.func104, Tryz.ntmps104
      go_wp2
      go_ret
      exact ⟨by rw [F.out]; rfl, (bel _).out⟩
  by_cases k4 : kind = 85
  · subst k4
    by_cases c1 : 0 ≤ n
    · by_cases c2 : n < 1048576
      · have F : Pack (fitsV ⟨85, op, f3, f7, rs2⟩ n = true) := ⟨by simp [fitsV, c1, c2]⟩
        simp only [rowVal, encRow]
        go_enter Tryz.func104, Tryz.ntmps104
        go_wp2
        go_ret
        exact ⟨by rw [F.out]; rfl, (bel _).out⟩
      · have F : Pack (fitsV ⟨85, op, f3, f7, rs2⟩ n = false) := ⟨by simp [fitsV, c2]⟩
        simp only [rowVal, encRow]
        go_enter Tryz.func104, Tryz.ntmps104
        go_wp2
        go_ret
        exact ⟨by rw [F.out]; rfl, (bel _).out⟩
    · have F : Pack (fitsV ⟨85, op, f3, f7, rs2⟩ n = false) := ⟨by simp [fitsV, c1]⟩
      simp only [rowVal, encRow]
      go_enter Tryz.func104, Tryz.ntmps104
      go_wp2
      go_ret
      exact ⟨by rw [F.out]; rfl, (bel _).out⟩
  by_cases k5 : kind = 74
  · subst k5
    by_cases c1 : -1048576 ≤ n
    · by_cases c2 : n < 1048576
      · have F : Pack (fitsV ⟨74, op, f3, f7, rs2⟩ n = decide (bits .and .i64 n 1 = 0)) := ⟨by simp [fitsV, c1, c2]⟩
        simp only [rowVal, encRow]
        go_enter Tryz.func104, Tryz.ntmps104
        go_wp2
        go_ret
        exact ⟨by rw [F.out]; rfl, (bel _).out⟩
      · have F : Pack (fitsV ⟨74, op, f3, f7, rs2⟩ n = false) := ⟨by simp [fitsV, c2]⟩
        simp only [rowVal, encRow]
        go_enter Tryz.func104, Tryz.ntmps104
        go_wp2
        go_ret
        exact ⟨by rw [F.out]; rfl, (bel _).out⟩
    · have F : Pack (fitsV ⟨74, op, f3, f7, rs2⟩ n = false) := ⟨by simp [fitsV, c1]⟩
      simp only [rowVal, encRow]
      go_enter Tryz.func104, Tryz.ntmps104
      go_wp2
      go_ret
      exact ⟨by rw [F.out]; rfl, (bel _).out⟩
  · have F : Pack (fitsV ⟨kind, op, f3, f7, rs2⟩ n = false) := ⟨by simp [fitsV, k0, k1, k2, k3, k4, k5]⟩
    simp only [rowVal, encRow]
    go_enter Tryz.func104, Tryz.ntmps104
    go_wp2
    go_ret
    exact ⟨by rw [F.out]; rfl, (bel _).out⟩
end Go.Proofs.YtgcpnjckbdajbaaGreatDoor.Ob
