import Derived.Test.YtgcpnjckbdajbaaGreatDoorOX
namespace Go.Proofs.YtgcpnjckbdajbaaGreatDoor.Ob
open Go.RowKit Go.Sort

def cmpV (x y : Int) : Int := if x < y then -1 else if y < x then 1 else 0
theorem nan_calls (x : Int) (w : World) : Calls Tryz.prog 79 #[.int .i64 x] w fun e w' => e = .returned (.bool false) ∧ w = w' := by
  go_enter Tryz.func79, Tryz.ntmps79
  go_wp2
  go_ret
  exact ⟨rfl, rfl⟩
theorem cmp_calls (x y : Int) (w : World) : Calls Tryz.prog 62 #[.int .i64 x, .int .i64 y] w fun e w' => e = .returned (.int .i64 (cmpV x y)) ∧ w = w' := by
  by_cases h1 : x < y
  · have F : Pack (cmpV x y = -1) := ⟨by simp [cmpV, h1]⟩
    go_enter Tryz.func62, Tryz.ntmps62
    go_wp2_with fail
    refine (nan_calls _ _).mono ?_
    rintro e w1 ⟨rfl, rfl⟩
    go_wp2_with fail
    refine (nan_calls _ _).mono ?_
    rintro e w1 ⟨rfl, rfl⟩
    go_wp2
    go_ret
    exact ⟨by rw [F.out]; rfl, rfl⟩
  · by_cases h2 : y < x
    · have F : Pack (cmpV x y = 1) := ⟨by simp [cmpV, h1, h2]⟩
      go_enter Tryz.func62, Tryz.ntmps62
      go_wp2_with fail
      refine (nan_calls _ _).mono ?_
      rintro e w1 ⟨rfl, rfl⟩
      go_wp2_with fail
      refine (nan_calls _ _).mono ?_
      rintro e w1 ⟨rfl, rfl⟩
      go_wp2
      go_ret
      exact ⟨by rw [F.out]; rfl, rfl⟩
    · have F : Pack (cmpV x y = 0) := ⟨by simp [cmpV, h1, h2]⟩
      go_enter Tryz.func62, Tryz.ntmps62
      go_wp2_with fail
      refine (nan_calls _ _).mono ?_
      rintro e w1 ⟨rfl, rfl⟩
      go_wp2_with fail
      refine (nan_calls _ _).mono ?_
      rintro e w1 ⟨rfl, rfl⟩
      go_wp2
      go_ret
      exact ⟨by rw [F.out]; rfl, rfl⟩
/-- two pairs, compared -/
def cmpPair (a b c d : Int) : Int := if cmpV a c = 0 then cmpV b d else cmpV a c
set_option maxRecDepth 100000 in
theorem compare_calls (p q : Nat) (a b c d : Int) (w : World) (h0 : w.cell? ⟨p, 0, none⟩ = some (.int .i64 a)) (h1 : w.cell? ⟨p, 1, none⟩ = some (.int .i64 b)) (k0 : w.cell? ⟨q, 0, none⟩ = some (.int .i64 c)) (k1 : w.cell? ⟨q, 1, none⟩ = some (.int .i64 d)) :
    Calls Tryz.prog 40 #[.slice (some ⟨p, 0, none⟩) 2 2, .slice (some ⟨q, 0, none⟩) 2 2] w fun e w' => e = .returned (.int .i64 (cmpPair a b c d)) ∧ w = w' := by
  by_cases e1 : cmpV a c = 0
  · by_cases e2 : cmpV b d = 0
    · have F : Pack (cmpPair a b c d = 0) := ⟨by simp [cmpPair, e1, e2]⟩
      go_enter Tryz.func40, Tryz.ntmps40
      go_wp2_with fail
      refine wp_loop_rounds 3 ?_
      rw [rounds_succ]
      go_wp2_with fail
      refine (cmp_calls _ _ _).mono ?_
      rintro e w1 ⟨rfl, rfl⟩
      go_wp2_with fail
      rw [rounds_succ]
      go_wp2_with fail
      refine (cmp_calls _ _ _).mono ?_
      rintro e w1 ⟨rfl, rfl⟩
      go_wp2_with fail
      rw [rounds_succ]
      go_wp2
      go_ret
      exact ⟨by rw [F.out]; rfl, rfl⟩
    · have F : Pack (cmpPair a b c d = cmpV b d) := ⟨by simp [cmpPair, e1]⟩
      go_enter Tryz.func40, Tryz.ntmps40
      go_wp2_with fail
      refine wp_loop_rounds 3 ?_
      rw [rounds_succ]
      go_wp2_with fail
      refine (cmp_calls _ _ _).mono ?_
      rintro e w1 ⟨rfl, rfl⟩
      go_wp2_with fail
      rw [rounds_succ]
      go_wp2_with fail
      refine (cmp_calls _ _ _).mono ?_
      rintro e w1 ⟨rfl, rfl⟩
      go_wp2
      go_ret
      exact ⟨by rw [F.out]; rfl, rfl⟩
  · have F : Pack (cmpPair a b c d = cmpV a c) := ⟨by simp [cmpPair, e1]⟩
    go_enter Tryz.func40, Tryz.ntmps40
    go_wp2_with fail
    refine wp_loop_rounds 3 ?_
    rw [rounds_succ]
    go_wp2_with fail
    refine (cmp_calls _ _ _).mono ?_
    rintro e w1 ⟨rfl, rfl⟩
    go_wp2
    go_ret
    exact ⟨by rw [F.out]; rfl, rfl⟩
end Go.Proofs.YtgcpnjckbdajbaaGreatDoor.Ob
