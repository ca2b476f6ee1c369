import Derived.Test.YtgcpnjckbdajbaaGreatDoorPH
import Derived.Test.YtgcpnjckbdajbaaGreatDoorPG
import Derived.Test.YtgcpnjckbdajbaaGreatDoorOD
namespace Go.Proofs.YtgcpnjckbdajbaaGreatDoor.Ob
open Go.RowKit Go.Sort

/-- how a test ends: it lets by, or throws -/
def outcome (b : Bool) : Ending := if b then .returned (.tuple #[]) else .panicked thrown
theorem need_calls (b : Bool) (w : World) : Calls Tryz.prog 26 #[.bool b] w fun e w' => e = outcome b ∧ w = w' := by
  cases b with
  | true => exact need_yes w
  | false => exact need_no w
def symbolV (nt nd : Nat) (s : SymV) : Bool :=
  if s.sect = 0 then decide (s.value = 0) && (decide (s.frame = 0) && s.glob)
  else if s.sect = 1 then decide (0 ≤ s.value) && (decide (s.value ≤ nt) && (decide (0 ≤ s.frame) && (decide (s.frame ≤ 1048576) && decide (s.frame % 16 = 0))))
  else if s.sect = 2 then decide (0 ≤ s.value) && (decide (s.value ≤ nd) && decide (s.frame = 0))
  else false
set_option maxRecDepth 100000 in
set_option maxHeartbeats 2000000 in
theorem symbol_calls (a0 a1 a2 a3 : Option Addr) (n0 n1 n2 n3 c0 c1 c2 c3 : Nat) (s : SymV) (w : World) :
    Calls Tryz.prog 39 #[.agg #[.slice a0 n0 c0, .slice a1 n1 c1, .slice a2 n2 c2, .slice a3 n3 c3], .agg (encSym s).toArray] w fun e w' => e = outcome (symbolV n0 n1 s) ∧ Below w.heap.size w w' := by
  obtain ⟨name, sect, value, frame, glob⟩ := s
  simp only [encSym]
  have bel : ∀ o o', Pack (Below w.heap.size w ((w.alloc o).alloc o')) := fun o o' => ⟨((Below.refl _ w).alloc (Nat.le_refl _) _).alloc (by simp) _⟩
  by_cases k0 : sect = 0
  · subst k0
    by_cases h1 : value = 0
    · by_cases h2 : frame = 0
      · by_cases h3 : glob = true
        · have F : Pack (symbolV n0 n1 ⟨name, 0, value, frame, glob⟩ = true) := ⟨by simp [symbolV, h1, h2, h3]⟩
          go_enter Tryz.func39, Tryz.ntmps39
          go_wp2_with fail
          refine (need_calls _ _).mono ?_
          rintro e w1 ⟨rfl, rfl⟩
          go_wp2
          go_end0
          exact ⟨by rw [F.out]; rfl, (bel _ _).out⟩
        · have F : Pack (symbolV n0 n1 ⟨name, 0, value, frame, glob⟩ = false) := ⟨by simp [symbolV, h3]⟩
          go_enter Tryz.func39, Tryz.ntmps39
          go_wp2_with fail
          refine (need_calls _ _).mono ?_
          rintro e w1 ⟨rfl, rfl⟩
          exact ⟨rfl, by rw [F.out]; rfl, (bel _ _).out⟩
      · have F : Pack (symbolV n0 n1 ⟨name, 0, value, frame, glob⟩ = false) := ⟨by simp [symbolV, h2]⟩
        go_enter Tryz.func39, Tryz.ntmps39
        go_wp2_with fail
        refine (need_calls _ _).mono ?_
        rintro e w1 ⟨rfl, rfl⟩
        exact ⟨rfl, by rw [F.out]; rfl, (bel _ _).out⟩
    · have F : Pack (symbolV n0 n1 ⟨name, 0, value, frame, glob⟩ = false) := ⟨by simp [symbolV, h1]⟩
      go_enter Tryz.func39, Tryz.ntmps39
      go_wp2_with fail
      refine (need_calls _ _).mono ?_
      rintro e w1 ⟨rfl, rfl⟩
      exact ⟨rfl, by rw [F.out]; rfl, (bel _ _).out⟩
  by_cases k1 : sect = 1
  · subst k1
    by_cases h1 : 0 ≤ value
    · by_cases h2 : value ≤ (n0 : Int)
      · by_cases h3 : 0 ≤ frame
        · by_cases h4 : frame ≤ 1048576
          · by_cases h5 : frame % 16 = 0
            · have F : Pack (symbolV n0 n1 ⟨name, 1, value, frame, glob⟩ = true) := ⟨by simp [symbolV, h1, h2, h3, h4, h5]⟩
              go_enter Tryz.func39, Tryz.ntmps39
              go_wp2_with fail
              refine (need_calls _ _).mono ?_
              rintro e w1 ⟨rfl, rfl⟩
              go_wp2
              go_end0
              exact ⟨by rw [F.out]; rfl, (bel _ _).out⟩
            · have hb := beq_eq_false_iff_ne.2 h5
              have F : Pack (symbolV n0 n1 ⟨name, 1, value, frame, glob⟩ = false) := ⟨by simp [symbolV, h5]⟩
              go_enter Tryz.func39, Tryz.ntmps39
              go_wp2_with fail
              refine (need_calls _ _).mono ?_
              rintro e w1 ⟨rfl, rfl⟩
              exact ⟨rfl, by rw [F.out]; rfl, (bel _ _).out⟩
          · have F : Pack (symbolV n0 n1 ⟨name, 1, value, frame, glob⟩ = false) := ⟨by simp [symbolV, h4]⟩
            go_enter Tryz.func39, Tryz.ntmps39
            go_wp2_with fail
            refine (need_calls _ _).mono ?_
            rintro e w1 ⟨rfl, rfl⟩
            exact ⟨rfl, by rw [F.out]; rfl, (bel _ _).out⟩
        · have F : Pack (symbolV n0 n1 ⟨name, 1, value, frame, glob⟩ = false) := ⟨by simp [symbolV, h3]⟩
          go_enter Tryz.func39, Tryz.ntmps39
          go_wp2_with fail
          refine (need_calls _ _).mono ?_
          rintro e w1 ⟨rfl, rfl⟩
          exact ⟨rfl, by rw [F.out]; rfl, (bel _ _).out⟩
      · have F : Pack (symbolV n0 n1 ⟨name, 1, value, frame, glob⟩ = false) := ⟨by simp [symbolV, h2]⟩
        go_enter Tryz.func39, Tryz.ntmps39
        go_wp2_with fail
        refine (need_calls _ _).mono ?_
        rintro e w1 ⟨rfl, rfl⟩
        exact ⟨rfl, by rw [F.out]; rfl, (bel _ _).out⟩
    · have F : Pack (symbolV n0 n1 ⟨name, 1, value, frame, glob⟩ = false) := ⟨by simp [symbolV, h1]⟩
      go_enter Tryz.func39, Tryz.ntmps39
      go_wp2_with fail
      refine (need_calls _ _).mono ?_
      rintro e w1 ⟨rfl, rfl⟩
      exact ⟨rfl, by rw [F.out]; rfl, (bel _ _).out⟩
  by_cases k2 : sect = 2
  · subst k2
    by_cases h1 : 0 ≤ value
    · by_cases h2 : value ≤ (n1 : Int)
      · by_cases h3 : frame = 0
        · have F : Pack (symbolV n0 n1 ⟨name, 2, value, frame, glob⟩ = true) := ⟨by simp [symbolV, h1, h2, h3]⟩
          go_enter Tryz.func39, Tryz.ntmps39
          go_wp2_with fail
          refine (need_calls _ _).mono ?_
          rintro e w1 ⟨rfl, rfl⟩
          go_wp2
          go_end0
          exact ⟨by rw [F.out]; rfl, (bel _ _).out⟩
        · have hb := beq_eq_false_iff_ne.2 h3
          have F : Pack (symbolV n0 n1 ⟨name, 2, value, frame, glob⟩ = false) := ⟨by simp [symbolV, h3]⟩
          go_enter Tryz.func39, Tryz.ntmps39
          go_wp2_with fail
          refine (need_calls _ _).mono ?_
          rintro e w1 ⟨rfl, rfl⟩
          exact ⟨rfl, by rw [F.out]; rfl, (bel _ _).out⟩
      · have F : Pack (symbolV n0 n1 ⟨name, 2, value, frame, glob⟩ = false) := ⟨by simp [symbolV, h2]⟩
        go_enter Tryz.func39, Tryz.ntmps39
        go_wp2_with fail
        refine (need_calls _ _).mono ?_
        rintro e w1 ⟨rfl, rfl⟩
        exact ⟨rfl, by rw [F.out]; rfl, (bel _ _).out⟩
    · have F : Pack (symbolV n0 n1 ⟨name, 2, value, frame, glob⟩ = false) := ⟨by simp [symbolV, h1]⟩
      go_enter Tryz.func39, Tryz.ntmps39
      go_wp2_with fail
      refine (need_calls _ _).mono ?_
      rintro e w1 ⟨rfl, rfl⟩
      exact ⟨rfl, by rw [F.out]; rfl, (bel _ _).out⟩
  have F : Pack (symbolV n0 n1 ⟨name, sect, value, frame, glob⟩ = false) := ⟨by simp [symbolV, k0, k1, k2]⟩
  go_enter Tryz.func39, Tryz.ntmps39
  go_wp2_with fail
  refine (need_calls _ _).mono ?_
  rintro e w1 ⟨rfl, rfl⟩
  exact ⟨rfl, by rw [F.out]; rfl, (bel _ _).out⟩
end Go.Proofs.YtgcpnjckbdajbaaGreatDoor.Ob
