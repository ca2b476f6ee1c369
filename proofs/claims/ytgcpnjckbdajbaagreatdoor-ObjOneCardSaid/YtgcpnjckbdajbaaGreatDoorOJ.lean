import Derived.Test.YtgcpnjckbdajbaaGreatDoorOI
namespace Go.Proofs.YtgcpnjckbdajbaaGreatDoor.Ob
open Go.RowKit Go.Sort

def bAt (s : ByteArray) (i : Nat) : Int := ((s.data.toList.getD i 0).toNat : Int)
theorem bAt_eq (s : ByteArray) (i : Nat) (h : i < s.size) : (((s[i]'h).toNat : Nat) : Int) = bAt s i := by
  have h' : i < s.data.size := h
  have h2 : s.data.toList.getD i 0 = s.data[i] := by
    rw [List.getD, Array.getElem?_toList, Array.getElem?_eq_getElem h']
    rfl
  unfold bAt
  rw [h2]
  rfl
theorem bAt_lt (s : ByteArray) (i : Nat) : 0 ≤ bAt s i ∧ bAt s i ≤ 255 := by
  unfold bAt
  have := (s.data.toList.getD i 0).toNat_lt
  omega
def digC (c : Int) : Bool := decide (48 ≤ c) && decide (c ≤ 57)
def letC (c : Int) : Bool := decide (97 ≤ c) && decide (c ≤ 122) || decide (65 ≤ c) && decide (c ≤ 90) || decide (c = 95) || decide (c = 46)
def badA (c : Int) : Bool := (decide (bits .or .u8 c 32 < 97) || decide (122 < bits .or .u8 c 32)) && (decide (c < 48) || decide (57 < c)) && !decide (c = 95) && !decide (c = 46)
theorem badA_eq (c : Int) (h : 0 ≤ c ∧ c ≤ 255) : badA c = !(letC c || digC c) := by
  have key : ∀ n : Fin 256, badA (n.val : Int) = !(letC n.val || digC n.val) := by decide +kernel
  obtain ⟨n, rfl⟩ : ∃ n : Nat, c = n := ⟨c.toNat, by omega⟩
  exact key ⟨n, by omega⟩
def nameOk (s : ByteArray) : Bool := decide (1 ≤ s.size) && decide (s.size ≤ 40) && !digC (bAt s 0) && (List.range s.size).all fun i => letC (bAt s i) || digC (bAt s i)

set_option maxRecDepth 100000 in
set_option maxHeartbeats 1000000 in
theorem name_calls (s : ByteArray) (w : World) : Calls Tryz.prog 15 #[.string s] w fun e w' => e = .returned (.bool (nameOk s)) ∧ w = w' := by
  by_cases hs1 : s.size < 1
  · have h1 : (s.size : Int) < 1 := by omega
    have hr : nameOk s = false := by unfold nameOk; rw [decide_eq_false (by omega)]; rfl
    rw [hr]
    go_enter Tryz.func15, Tryz.ntmps15
    go_wp2
    go_ret
    exact ⟨rfl, rfl⟩
  by_cases hs2 : 40 < s.size
  · have h1 : ¬ (s.size : Int) < 1 := by omega
    have h2 : (40 : Int) < s.size := by omega
    have hr : nameOk s = false := by
      unfold nameOk
      rw [decide_eq_false (show ¬ s.size ≤ 40 by omega), Bool.and_false, Bool.false_and, Bool.false_and]
    rw [hr]
    clear hs1 hs2
    go_enter Tryz.func15, Tryz.ntmps15
    go_wp2
    go_ret
    exact ⟨rfl, rfl⟩
  have h0 : 0 < s.size := by omega
  have b0 := bAt_eq s 0 h0
  have r0 := bAt_lt s 0
  have h1 : ¬ (s.size : Int) < 1 := by omega
  have h2 : ¬ (40 : Int) < s.size := by omega
  obtain ⟨C, hC⟩ : ∃ C, bAt s 0 = C := ⟨_, rfl⟩
  rw [hC] at b0 r0
  by_cases hd : digC C = true
  · have hr : nameOk s = false := by
      unfold nameOk
      rw [hC, hd]
      simp
    have hd1 : 48 ≤ C ∧ C ≤ 57 := by simpa [digC] using hd
    obtain ⟨hd1, hd2⟩ := hd1
    rw [hr]
    clear hs1 hs2 hd hC hr
    go_enter Tryz.func15, Tryz.ntmps15
    go_wp2
    go_ret
    exact ⟨rfl, rfl⟩
  have hdf : digC C = false := by simpa using hd
  go_enter Tryz.func15, Tryz.ntmps15
  go_upto_region 1 with (fail)
  go_cut [22] from 5 to 22 (fun v22 wc => v22 = .bool false ∧ w = wc)
  case first =>
    by_cases c1 : C < 48
    · have c1' : ¬ 48 ≤ C := by omega
      go_wp2
      go_meet
      case rel => exact ⟨rfl, rfl⟩
    · have c2 : 57 < C := by
        have hno : ¬ (48 ≤ C ∧ C ≤ 57) := by
          intro h
          rw [digC, decide_eq_true h.1, decide_eq_true h.2] at hdf
          cases hdf
        omega
      have c1' : 48 ≤ C := by omega
      have c2' : ¬ C ≤ 57 := by omega
      go_wp2
      go_meet
      case rel => exact ⟨rfl, rfl⟩
  case rest =>
    obtain ⟨rfl, rfl⟩ := hcut
    go_wp2_with fail
    go_loopg [3, 4, 25] s.size (fun kq v3 v4 v25 wr => w = wr ∧ ∃ i : Nat, i + kq = s.size ∧ v25 = .int .i64 i ∧ Pack (∀ j, j < i → (letC (bAt s j) || digC (bAt s j)) = true))
    case atStart => exact ⟨rfl, 0, by omega, rfl, ⟨fun j hj => absurd hj (by omega)⟩⟩
    case round =>
      obtain ⟨rfl, i, hi, rfl, PA⟩ := hrel
      by_cases hk : gk = 0
      · subst hk
        have hlt : ¬ ((i : Int) < (s.size : Int)) := by omega
        have hr : nameOk s = true := by
          unfold nameOk
          rw [hC, hdf, decide_eq_true (show 1 ≤ s.size by omega), decide_eq_true (show s.size ≤ 40 by omega)]
          simp only [Bool.not_false, Bool.and_true, Bool.true_and, List.all_eq_true, List.mem_range]
          exact fun j hj => PA.out j (by omega)
        go_wp2
        go_ret
        exact ⟨by first | rfl | rw [hr], rfl⟩
      · have hlt : (i : Int) < (s.size : Int) := by omega
        have hi' : i < s.size := by omega
        have bi := bAt_eq s i hi'
        have ri := bAt_lt s i
        obtain ⟨D, hD⟩ : ∃ D, bAt s i = D := ⟨_, rfl⟩
        rw [hD] at bi ri
        have PD := Pack.mk hD
        have PR := Pack.mk ri
        have hC' := Pack.mk hC
        clear hD ri hC
        go_upto_region 7 with (fail)
        go_cut [54] from 31 to 54 (fun v54 wc => ∃ β : Bool, v54 = .bool β ∧ Pack (badA D = β) ∧ w = wc)
        case first =>
          by_cases q1 : bits .or .u8 D 32 < 97
          · skip
            by_cases q3 : D < 48
            · skip
              by_cases q5 : D = 95
              · have q5n : (D != 95) = false := by simp [q5]
                have hbv := Pack.mk (show badA D = false from by simp [badA, q5])
                clear q5
                go_wp2
                all_goals
                  go_meet
                  case rel => exact ⟨_, rfl, hbv, rfl⟩
              · have q5n : (D != 95) = true := by simp [q5]
                by_cases q6 : D = 46
                · have q6n : (D != 46) = false := by simp [q6]
                  have hbv := Pack.mk (show badA D = false from by simp [badA, q6])
                  clear q6
                  go_wp2
                  all_goals
                    go_meet
                    case rel => exact ⟨_, rfl, hbv, rfl⟩
                · have q6n : (D != 46) = true := by simp [q6]
                  have hbv := Pack.mk (show badA D = true from by simp [badA, q1, q3, q5, q6])
                  go_wp2
                  all_goals
                    go_meet
                    case rel => exact ⟨_, rfl, hbv, rfl⟩
            · by_cases q4 : 57 < D
              · skip
                by_cases q5 : D = 95
                · have q5n : (D != 95) = false := by simp [q5]
                  have hbv := Pack.mk (show badA D = false from by simp [badA, q5])
                  clear q5
                  go_wp2
                  all_goals
                    go_meet
                    case rel => exact ⟨_, rfl, hbv, rfl⟩
                · have q5n : (D != 95) = true := by simp [q5]
                  by_cases q6 : D = 46
                  · have q6n : (D != 46) = false := by simp [q6]
                    have hbv := Pack.mk (show badA D = false from by simp [badA, q6])
                    clear q6
                    go_wp2
                    all_goals
                      go_meet
                      case rel => exact ⟨_, rfl, hbv, rfl⟩
                  · have q6n : (D != 46) = true := by simp [q6]
                    have hbv := Pack.mk (show badA D = true from by simp [badA, q1, q3, q4, q5, q6])
                    go_wp2
                    all_goals
                      go_meet
                      case rel => exact ⟨_, rfl, hbv, rfl⟩
              · skip
                have hbv := Pack.mk (show badA D = false from by simp [badA, q3, q4])
                go_wp2
                all_goals
                  go_meet
                  case rel => exact ⟨_, rfl, hbv, rfl⟩
          · by_cases q2 : 122 < bits .or .u8 D 32
            · skip
              by_cases q3 : D < 48
              · skip
                by_cases q5 : D = 95
                · have q5n : (D != 95) = false := by simp [q5]
                  have hbv := Pack.mk (show badA D = false from by simp [badA, q5])
                  clear q5
                  go_wp2
                  all_goals
                    go_meet
                    case rel => exact ⟨_, rfl, hbv, rfl⟩
                · have q5n : (D != 95) = true := by simp [q5]
                  by_cases q6 : D = 46
                  · have q6n : (D != 46) = false := by simp [q6]
                    have hbv := Pack.mk (show badA D = false from by simp [badA, q6])
                    clear q6
                    go_wp2
                    all_goals
                      go_meet
                      case rel => exact ⟨_, rfl, hbv, rfl⟩
                  · have q6n : (D != 46) = true := by simp [q6]
                    have hbv := Pack.mk (show badA D = true from by simp [badA, q1, q2, q3, q5, q6])
                    go_wp2
                    all_goals
                      go_meet
                      case rel => exact ⟨_, rfl, hbv, rfl⟩
              · by_cases q4 : 57 < D
                · skip
                  by_cases q5 : D = 95
                  · have q5n : (D != 95) = false := by simp [q5]
                    have hbv := Pack.mk (show badA D = false from by simp [badA, q5])
                    clear q5
                    go_wp2
                    all_goals
                      go_meet
                      case rel => exact ⟨_, rfl, hbv, rfl⟩
                  · have q5n : (D != 95) = true := by simp [q5]
                    by_cases q6 : D = 46
                    · have q6n : (D != 46) = false := by simp [q6]
                      have hbv := Pack.mk (show badA D = false from by simp [badA, q6])
                      clear q6
                      go_wp2
                      all_goals
                        go_meet
                        case rel => exact ⟨_, rfl, hbv, rfl⟩
                    · have q6n : (D != 46) = true := by simp [q6]
                      have hbv := Pack.mk (show badA D = true from by simp [badA, q1, q2, q3, q4, q5, q6])
                      go_wp2
                      all_goals
                        go_meet
                        case rel => exact ⟨_, rfl, hbv, rfl⟩
                · skip
                  have hbv := Pack.mk (show badA D = false from by simp [badA, q3, q4])
                  go_wp2
                  all_goals
                    go_meet
                    case rel => exact ⟨_, rfl, hbv, rfl⟩
            · skip
              have hbv := Pack.mk (show badA D = false from by simp [badA, q1, q2])
              go_wp2
              all_goals
                go_meet
                case rel => exact ⟨_, rfl, hbv, rfl⟩
        case rest =>
          obtain ⟨β, rfl, PBad, rfl⟩ := hcut
          cases β with
          | true =>
            have hbad := PBad.out
            have hr : nameOk s = false := by
              have h := badA_eq D PR.out
              rw [hbad] at h
              have hg : (letC (bAt s i) || digC (bAt s i)) = false := by rw [PD.out]; simpa using h.symm
              have hall : ((List.range s.size).all fun i => letC (bAt s i) || digC (bAt s i)) = false := by
                rw [List.all_eq_false]
                exact ⟨i, List.mem_range.2 hi', by rw [hg]; simp⟩
              unfold nameOk
              rw [hall, Bool.and_false]
            have PHr := Pack.mk hr
            clear hr hbad
            go_wp2
            go_ret
            exact ⟨by rw [PHr.out]; rfl, rfl⟩
          | false =>
            have hbad' := PBad.out
            have hg : (letC (bAt s i) || digC (bAt s i)) = true := by
              have h := badA_eq D PR.out
              rw [hbad'] at h
              rw [PD.out]
              cases hx : (letC D || digC D) with
              | true => rfl
              | false => rw [hx] at h; cases h
            clear hbad'
            go_wp2_with fail
            go_roundg (gk - 1)
            case measure => omega
            case rel => exact ⟨rfl, i + 1, by omega, by go_num, ⟨fun j hj => by
              by_cases e : j = i
              · rw [e]; exact hg
              · exact PA.out j (by omega)⟩⟩
end Go.Proofs.YtgcpnjckbdajbaaGreatDoor.Ob
