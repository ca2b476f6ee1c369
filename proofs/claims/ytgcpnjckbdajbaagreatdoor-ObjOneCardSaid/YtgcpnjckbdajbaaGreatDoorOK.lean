import Derived.Test.YtgcpnjckbdajbaaGreatDoorOJ
namespace Go.Proofs.YtgcpnjckbdajbaaGreatDoor.Ob
open Go.RowKit Go.Sort

def refGood (i : Nat) (c : Int) : Bool := letC c || (digC c && decide (0 < i))
theorem dig_let (c : Int) (h : digC c = true) : letC c = false := by
  have h1 : 48 ≤ c ∧ c ≤ 57 := by simpa [digC] using h
  simp only [letC, Bool.or_eq_false_iff, Bool.and_eq_false_iff, decide_eq_false_iff_not]
  omega
theorem nameOk_ref (s : ByteArray) (h1 : 1 ≤ s.size) (h2 : s.size ≤ 40) : nameOk s = (List.range s.size).all fun i => refGood i (bAt s i) := by
  unfold nameOk
  rw [decide_eq_true h1, decide_eq_true h2, Bool.true_and, Bool.true_and, Bool.eq_iff_iff]
  simp only [Bool.and_eq_true, Bool.not_eq_true', List.all_eq_true, List.mem_range]
  constructor
  · rintro ⟨ha, hb⟩ i hi
    have h := hb i hi
    unfold refGood
    by_cases h0 : 0 < i
    · rw [decide_eq_true h0, Bool.and_true]; exact h
    · obtain rfl : i = 0 := by omega
      rw [ha, Bool.or_false] at h
      rw [h]; rfl
  · intro hb
    have h0 := hb 0 (by omega)
    have hl : letC (bAt s 0) = true := by simpa [refGood] using h0
    refine ⟨?_, fun i hi => ?_⟩
    · cases hd : digC (bAt s 0) with
      | false => rfl
      | true => rw [dig_let _ hd] at hl; cases hl
    · have h := hb i hi
      unfold refGood at h
      cases hx : letC (bAt s i) with
      | true => rfl
      | false =>
        rw [hx, Bool.false_or] at h
        rw [Bool.false_or]
        exact (Bool.and_eq_true _ _ ▸ h).1
set_option maxRecDepth 100000 in
set_option maxHeartbeats 2000000 in
theorem refName_calls (s : ByteArray) (w : World) : Calls Tryz.prog 16 #[.string s] w fun e w' => e = .returned (.bool (nameOk s)) ∧ w = w' := by
  by_cases hs1 : s.size < 1
  · have h1 : (s.size : Int) < 1 := by omega
    have hr : nameOk s = false := by unfold nameOk; rw [decide_eq_false (by omega)]; rfl
    rw [hr]
    go_enter Tryz.func16, Tryz.ntmps16
    go_wp2
    go_ret
    exact ⟨rfl, rfl⟩
  by_cases hs2 : 40 < s.size
  · have h1 : ¬ (s.size : Int) < 1 := by omega
    have h2 : (40 : Int) < s.size := by omega
    have hr : nameOk s = false := by
      unfold nameOk
      rw [decide_eq_false (show ¬ s.size ≤ 40 by omega), Bool.and_false, Bool.false_and, Bool.false_and]
    rw [hr]
    clear hs1 hs2
    go_enter Tryz.func16, Tryz.ntmps16
    go_wp2
    go_ret
    exact ⟨rfl, rfl⟩
  have h1 : ¬ (s.size : Int) < 1 := by omega
  have h2 : ¬ (40 : Int) < s.size := by omega
  have PN := Pack.mk (nameOk_ref s (by omega) (by omega))
  go_enter Tryz.func16, Tryz.ntmps16
  go_wp2_with fail
  go_loopg [3, 4, 5] s.size (fun kq v3 v4 v5 wr => w = wr ∧ ∃ i : Nat, i + kq = s.size ∧ v3 = .int .i64 i ∧ Pack (∀ j, j < i → refGood j (bAt s j) = true))
  case atStart => exact ⟨rfl, 0, by omega, rfl, ⟨fun j hj => absurd hj (by omega)⟩⟩
  case round =>
    obtain ⟨rfl, i, hi, rfl, PA⟩ := hrel
    by_cases hk : gk = 0
    · subst hk
      have hlt : ¬ ((i : Int) < (s.size : Int)) := by omega
      have hr : Pack (nameOk s = true) := ⟨by
        rw [PN.out, List.all_eq_true]
        exact fun j hj => PA.out j (by have := List.mem_range.1 hj; omega)⟩
      go_wp2
      go_ret
      exact ⟨by rw [hr.out]; rfl, rfl⟩
    · have hlt : (i : Int) < (s.size : Int) := by omega
      have hi' : i < s.size := by omega
      have bi := bAt_eq s i hi'
      obtain ⟨D, hD⟩ : ∃ D, bAt s i = D := ⟨_, rfl⟩
      rw [hD] at bi
      have PD := Pack.mk hD
      clear hD
      go_upto_region 7 with (fail)
      go_cut [5] from 23 to 28 (fun v5 wc => ∃ β : Bool, v5 = .bool β ∧ Pack (digC D = β) ∧ w = wc)
      case first =>
        by_cases q1 : 48 ≤ D
        · by_cases q2 : D ≤ 57
          · have hbv := Pack.mk (show digC D = true from by simp [digC, q1, q2])
            go_wp2
            go_meet
            case rel => exact ⟨_, rfl, hbv, rfl⟩
          · have hbv := Pack.mk (show digC D = false from by simp [digC, q1, q2])
            go_wp2
            go_meet
            case rel => exact ⟨_, rfl, hbv, rfl⟩
        · have hbv := Pack.mk (show digC D = false from by simp [digC, q1])
          go_wp2
          go_meet
          case rel => exact ⟨_, rfl, hbv, rfl⟩
      case rest =>
        obtain ⟨β, rfl, PBd, rfl⟩ := hcut
        go_upto_region 8 with (fail)
        go_cut [58] from 29 to 58 (fun v58 wc => ∃ γ : Bool, v58 = .bool (!γ) ∧ Pack (refGood i D = γ) ∧ w = wc)
        case first =>
          by_cases q1 : 97 ≤ D
          · by_cases q2 : D ≤ 122
            · skip
              have hbv := Pack.mk (show refGood i D = true from by simp [refGood, letC, q1, q2])
              go_wp2
              all_goals
                go_meet
                case rel => exact ⟨true, rfl, hbv, rfl⟩
            · skip
              by_cases q3 : 65 ≤ D
              · by_cases q4 : D ≤ 90
                · skip
                  have hbv := Pack.mk (show refGood i D = true from by simp [refGood, letC, q3, q4])
                  go_wp2
                  all_goals
                    go_meet
                    case rel => exact ⟨true, rfl, hbv, rfl⟩
                · skip
                  by_cases q5 : D = 95
                  · have q5n : (D == 95) = true := by simp [q5]
                    have hbv := Pack.mk (show refGood i D = true from by simp [refGood, letC, q5])
                    clear q5
                    go_wp2
                    all_goals
                      go_meet
                      case rel => exact ⟨true, rfl, hbv, rfl⟩
                  · have q5n : (D == 95) = false := by simp [q5]
                    by_cases q6 : D = 46
                    · have q6n : (D == 46) = true := by simp [q6]
                      have hbv := Pack.mk (show refGood i D = true from by simp [refGood, letC, q6])
                      clear q6
                      go_wp2
                      all_goals
                        go_meet
                        case rel => exact ⟨true, rfl, hbv, rfl⟩
                    · have q6n : (D == 46) = false := by simp [q6]
                      cases β with
                      | false =>
                        have hdd := PBd.out
                        have hbv := Pack.mk (show refGood i D = false from by simp [refGood, letC, q1, q2, q3, q4, q5, q6, hdd])
                        go_wp2
                        all_goals
                          go_meet
                          case rel => exact ⟨false, rfl, hbv, rfl⟩
                      | true =>
                        have hdd := PBd.out
                        by_cases q7 : 0 < i
                        · have q7' : (0 : Int) < (i : Int) := by omega
                          have hbv := Pack.mk (show refGood i D = true from by simp [refGood, letC, q1, q2, q3, q4, q5, q6, hdd, q7])
                          go_wp2
                          all_goals
                            go_meet
                            case rel => exact ⟨true, rfl, hbv, rfl⟩
                        · have q7' : ¬ (0 : Int) < (i : Int) := by omega
                          have hbv := Pack.mk (show refGood i D = false from by simp [refGood, letC, q1, q2, q3, q4, q5, q6, hdd, q7])
                          go_wp2
                          all_goals
                            go_meet
                            case rel => exact ⟨false, rfl, hbv, rfl⟩
              · skip
                by_cases q5 : D = 95
                · have q5n : (D == 95) = true := by simp [q5]
                  have hbv := Pack.mk (show refGood i D = true from by simp [refGood, letC, q5])
                  clear q5
                  go_wp2
                  all_goals
                    go_meet
                    case rel => exact ⟨true, rfl, hbv, rfl⟩
                · have q5n : (D == 95) = false := by simp [q5]
                  by_cases q6 : D = 46
                  · have q6n : (D == 46) = true := by simp [q6]
                    have hbv := Pack.mk (show refGood i D = true from by simp [refGood, letC, q6])
                    clear q6
                    go_wp2
                    all_goals
                      go_meet
                      case rel => exact ⟨true, rfl, hbv, rfl⟩
                  · have q6n : (D == 46) = false := by simp [q6]
                    cases β with
                    | false =>
                      have hdd := PBd.out
                      have hbv := Pack.mk (show refGood i D = false from by simp [refGood, letC, q1, q2, q3, q5, q6, hdd])
                      go_wp2
                      all_goals
                        go_meet
                        case rel => exact ⟨false, rfl, hbv, rfl⟩
                    | true =>
                      have hdd := PBd.out
                      by_cases q7 : 0 < i
                      · have q7' : (0 : Int) < (i : Int) := by omega
                        have hbv := Pack.mk (show refGood i D = true from by simp [refGood, letC, q1, q2, q3, q5, q6, hdd, q7])
                        go_wp2
                        all_goals
                          go_meet
                          case rel => exact ⟨true, rfl, hbv, rfl⟩
                      · have q7' : ¬ (0 : Int) < (i : Int) := by omega
                        have hbv := Pack.mk (show refGood i D = false from by simp [refGood, letC, q1, q2, q3, q5, q6, hdd, q7])
                        go_wp2
                        all_goals
                          go_meet
                          case rel => exact ⟨false, rfl, hbv, rfl⟩
          · skip
            by_cases q3 : 65 ≤ D
            · by_cases q4 : D ≤ 90
              · skip
                have hbv := Pack.mk (show refGood i D = true from by simp [refGood, letC, q3, q4])
                go_wp2
                all_goals
                  go_meet
                  case rel => exact ⟨true, rfl, hbv, rfl⟩
              · skip
                by_cases q5 : D = 95
                · have q5n : (D == 95) = true := by simp [q5]
                  have hbv := Pack.mk (show refGood i D = true from by simp [refGood, letC, q5])
                  clear q5
                  go_wp2
                  all_goals
                    go_meet
                    case rel => exact ⟨true, rfl, hbv, rfl⟩
                · have q5n : (D == 95) = false := by simp [q5]
                  by_cases q6 : D = 46
                  · have q6n : (D == 46) = true := by simp [q6]
                    have hbv := Pack.mk (show refGood i D = true from by simp [refGood, letC, q6])
                    clear q6
                    go_wp2
                    all_goals
                      go_meet
                      case rel => exact ⟨true, rfl, hbv, rfl⟩
                  · have q6n : (D == 46) = false := by simp [q6]
                    cases β with
                    | false =>
                      have hdd := PBd.out
                      have hbv := Pack.mk (show refGood i D = false from by simp [refGood, letC, q1, q3, q4, q5, q6, hdd])
                      go_wp2
                      all_goals
                        go_meet
                        case rel => exact ⟨false, rfl, hbv, rfl⟩
                    | true =>
                      have hdd := PBd.out
                      by_cases q7 : 0 < i
                      · have q7' : (0 : Int) < (i : Int) := by omega
                        have hbv := Pack.mk (show refGood i D = true from by simp [refGood, letC, q1, q3, q4, q5, q6, hdd, q7])
                        go_wp2
                        all_goals
                          go_meet
                          case rel => exact ⟨true, rfl, hbv, rfl⟩
                      · have q7' : ¬ (0 : Int) < (i : Int) := by omega
                        have hbv := Pack.mk (show refGood i D = false from by simp [refGood, letC, q1, q3, q4, q5, q6, hdd, q7])
                        go_wp2
                        all_goals
                          go_meet
                          case rel => exact ⟨false, rfl, hbv, rfl⟩
            · skip
              by_cases q5 : D = 95
              · have q5n : (D == 95) = true := by simp [q5]
                have hbv := Pack.mk (show refGood i D = true from by simp [refGood, letC, q5])
                clear q5
                go_wp2
                all_goals
                  go_meet
                  case rel => exact ⟨true, rfl, hbv, rfl⟩
              · have q5n : (D == 95) = false := by simp [q5]
                by_cases q6 : D = 46
                · have q6n : (D == 46) = true := by simp [q6]
                  have hbv := Pack.mk (show refGood i D = true from by simp [refGood, letC, q6])
                  clear q6
                  go_wp2
                  all_goals
                    go_meet
                    case rel => exact ⟨true, rfl, hbv, rfl⟩
                · have q6n : (D == 46) = false := by simp [q6]
                  cases β with
                  | false =>
                    have hdd := PBd.out
                    have hbv := Pack.mk (show refGood i D = false from by simp [refGood, letC, q1, q3, q5, q6, hdd])
                    go_wp2
                    all_goals
                      go_meet
                      case rel => exact ⟨false, rfl, hbv, rfl⟩
                  | true =>
                    have hdd := PBd.out
                    by_cases q7 : 0 < i
                    · have q7' : (0 : Int) < (i : Int) := by omega
                      have hbv := Pack.mk (show refGood i D = true from by simp [refGood, letC, q1, q3, q5, q6, hdd, q7])
                      go_wp2
                      all_goals
                        go_meet
                        case rel => exact ⟨true, rfl, hbv, rfl⟩
                    · have q7' : ¬ (0 : Int) < (i : Int) := by omega
                      have hbv := Pack.mk (show refGood i D = false from by simp [refGood, letC, q1, q3, q5, q6, hdd, q7])
                      go_wp2
                      all_goals
                        go_meet
                        case rel => exact ⟨false, rfl, hbv, rfl⟩
        case rest =>
          obtain ⟨γ, rfl, PG, rfl⟩ := hcut
          cases γ with
          | false =>
            have hr : Pack (nameOk s = false) := ⟨by
              rw [PN.out, List.all_eq_false]
              exact ⟨i, List.mem_range.2 hi', by rw [PD.out, PG.out]; simp⟩⟩
            go_wp2
            go_ret
            exact ⟨by rw [hr.out]; rfl, rfl⟩
          | true =>
            have P2 : Pack (∀ j, j < i + 1 → refGood j (bAt s j) = true) := ⟨fun j hj => by
              by_cases e : j = i
              · rw [e, PD.out]; exact PG.out
              · exact PA.out j (by omega)⟩
            go_wp2_with fail
            go_roundg (gk - 1)
            case measure => omega
            case rel => exact ⟨rfl, i + 1, by omega, by go_num, P2⟩
end Go.Proofs.YtgcpnjckbdajbaaGreatDoor.Ob
