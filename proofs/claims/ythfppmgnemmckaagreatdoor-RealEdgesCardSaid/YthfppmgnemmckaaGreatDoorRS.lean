import Derived.Test.YthfppmgnemmckaaGreatDoorRO
namespace Go.Proofs.YthfppmgnemmckaaGreatDoor.PDo
open Go.RowKit Go.Proofs.YthfppmgnemmckaaGreatDoorW.PrintWords Go.Proofs.YthfppmgnemmckaaGreatDoorW.PrintLast Go.Proofs.YthfppmgnemmckaaGreatDoorW.PrintMore

/-! The parts of a word, in whole numbers. -/
theorem parts_num (a : Nat) (ha : a < 2 ^ 64) (w : World) : Calls Tryz.prog 17 #[.int .u64 a] w fun e w' => e = .returned (.tuple #[.int .u64 (a / 2 ^ 63 : Nat), .int .u64 (a / 2 ^ 52 % 2048 : Nat), .int .u64 (a % 2 ^ 52 : Nat)]) ∧ Drawn0 w w' := by
  have h : solderref02_parts.f (a : Int) = some (((a / 2 ^ 63 : Nat) : Int), ((a / 2 ^ 52 % 2048 : Nat) : Int), ((a % 2 ^ 52 : Nat) : Int)) := by
    unfold solderref02_parts.f
    have e1 : Int.tdiv (a : Int) 9223372036854775808 = (a : Int) / 9223372036854775808 := tdiv_nat (m := 9223372036854775808) (Int.natCast_nonneg _)
    have e2 : Int.tdiv (a : Int) 4503599627370496 = (a : Int) / 4503599627370496 := tdiv_nat (m := 4503599627370496) (Int.natCast_nonneg _)
    have e3 : Int.tmod (a : Int) 4503599627370496 = (a : Int) % 4503599627370496 := tmod_nat (m := 4503599627370496) (Int.natCast_nonneg _)
    rw [e1, e2, e3, IntWalk.u64_in _ (by omega), IntWalk.u64_in _ (by omega), show Int.tmod ((a : Int) / 4503599627370496) 2048 = (a : Int) / 4503599627370496 % 2048 from tmod_nat (m := 2048) (by omega)]
    congr 1
  refine (solderref02_parts.calls _ _ _ _ w h).mono ?_
  rintro e w' hh
  exact hh

theorem parts_f (a : Nat) (ha : a < 2 ^ 64) : solderref02_parts.f (a : Int) = some (((a / 2 ^ 63 : Nat) : Int), ((a / 2 ^ 52 % 2048 : Nat) : Int), ((a % 2 ^ 52 : Nat) : Int)) := by
  unfold solderref02_parts.f
  have e1 : Int.tdiv (a : Int) 9223372036854775808 = (a : Int) / 9223372036854775808 := tdiv_nat (m := 9223372036854775808) (Int.natCast_nonneg _)
  have e2 : Int.tdiv (a : Int) 4503599627370496 = (a : Int) / 4503599627370496 := tdiv_nat (m := 4503599627370496) (Int.natCast_nonneg _)
  have e3 : Int.tmod (a : Int) 4503599627370496 = (a : Int) % 4503599627370496 := tmod_nat (m := 4503599627370496) (Int.natCast_nonneg _)
  rw [e1, e2, e3, IntWalk.u64_in _ (by omega), IntWalk.u64_in _ (by omega), show Int.tmod ((a : Int) / 4503599627370496) 2048 = (a : Int) / 4503599627370496 % 2048 from tmod_nat (m := 2048) (by omega)]
  congr 1
def isNaN (a : Nat) : Bool := decide (2047 * 2 ^ 52 < a % 2 ^ 63)
theorem is_f (a : Nat) (ha : a < 2 ^ 64) : solderref02_Is.f (a : Int) = some (isNaN a) := by
  unfold solderref02_Is.f
  rw [parts_f a ha]
  simp only [Option.bind_some]
  unfold isNaN
  by_cases h : a / 2 ^ 52 % 2048 = 2047
  · rw [if_pos (by omega)]
    congr 1
    by_cases h2 : a % 2 ^ 52 = 0
    · rw [decide_eq_false (by omega), show ((a % 2 ^ 52 : Nat) : Int) = 0 from by omega]; rfl
    · rw [decide_eq_true (by omega)]; exact bne_iff_ne.2 (by omega)
  · rw [if_neg (by omega), decide_eq_false (by omega)]
theorem is_num (a : Nat) (ha : a < 2 ^ 64) (w : World) : Calls Tryz.prog 18 #[.int .u64 a] w fun e w' => e = .returned (.bool (isNaN a)) ∧ Drawn0 w w' :=
  solderref02_Is.calls _ _ w (is_f a ha)
theorem neg_num (a : Nat) (ha : a < 2 ^ 64) (hn : isNaN a = false) (w : World) : Calls Tryz.prog 19 #[.int .u64 a] w fun e w' => e = .returned (.int .u64 (RM.flip a : Nat)) ∧ Drawn0 w w' := by
  refine solderref02_Neg.calls _ _ w ?_
  unfold solderref02_Neg.f
  rw [is_f a ha, hn]
  simp only [Option.bind_some, Bool.false_eq_true, if_false]
  rw [parts_f a ha]
  simp only [Option.bind_some]
  unfold RM.flip RM.sgn
  by_cases h : a / 2 ^ 63 = 1
  · rw [if_pos (by omega), if_pos (by simp; omega), IntWalk.u64_in _ (by omega)]
    congr 1; omega
  · rw [if_neg (by omega), if_neg (by simp; omega), IntWalk.u64_in _ (by omega)]
    congr 1
theorem neg_nan (a : Nat) (ha : a < 2 ^ 64) (hn : isNaN a = true) (w : World) : Calls Tryz.prog 19 #[.int .u64 a] w fun e w' => e = .returned (.int .u64 9221120237041090560) ∧ Drawn0 w w' := by
  refine solderref02_Neg.calls _ _ w ?_
  unfold solderref02_Neg.f
  rw [is_f a ha, hn]
  simp only [Option.bind_some, if_true]
theorem signed_num (s : Bool) (x : Nat) (hx : x < 2 ^ 63) (w : World) : Calls Tryz.prog 21 #[.int .u64 (if s then 1 else 0), .int .u64 x] w fun e w' => e = .returned (.int .u64 (RM.wordOf s x : Nat)) ∧ Drawn0 w w' := by
  refine solderref02_signed.calls _ _ _ w ?_
  unfold solderref02_signed.f RM.wordOf
  cases s
  · rw [if_neg (by decide)]; simp
  · rw [if_pos (by rfl), IntWalk.u64_in _ (by omega)]
    congr 1
    simp; omega
theorem number_num (a : Nat) (ha : a < 2 ^ 64) (hf : a % 2 ^ 63 < 2047 * 2 ^ 52) (w : World) : Calls Tryz.prog 22 #[.int .u64 a] w fun e w' => e = .returned (.tuple #[.int .i64 (RM.mag a : Nat), .int .i64 (RM.plc a)]) ∧ Drawn0 w w' := by
  refine solderref02_number.calls _ _ _ w ?_
  unfold solderref02_number.f
  rw [parts_f a ha]
  simp only [Option.bind_some]
  unfold RM.mag RM.plc
  by_cases h : a % 2 ^ 63 < 2 ^ 52
  · rw [if_pos (by omega), if_pos h, if_pos h, w64 (by omega) (by omega)]
    congr 2; omega
  · rw [if_neg (by omega), if_neg h, if_neg h, w64 (x := ((a % 2 ^ 52 : Nat) : Int)) (by omega) (by omega), w64 (by omega) (by omega), w64 (x := ((a / 2 ^ 52 % 2048 : Nat) : Int)) (by omega) (by omega), w64 (by omega) (by omega)]
    congr 2 <;> omega
theorem mag_lt (a : Nat) : RM.mag a < 2 ^ 53 := by unfold RM.mag; split <;> omega
theorem plc_ge (a : Nat) : -1074 ≤ RM.plc a := by unfold RM.plc; split <;> omega
theorem plc_le (a : Nat) : RM.plc a ≤ 974 := by unfold RM.plc; split <;> omega
theorem rung_le (A B : Nat) (e : Int) : RM.rung A B e ≤ 2047 * 2 ^ 52 := by
  unfold RM.rung RM.rungAt; split
  · omega
  · exact Nat.min_le_right _ _
theorem nearest_any {w : World} {v u : Value} {a b L M : Nat} (h : NumC w v a L) (h' : NumC w u b M) (hb : b ≠ 0) (hL : L ≤ 1000) (hM : M ≤ 1000) (e : Int) (he : -10000 ≤ e) (he' : e ≤ 10000) :
    Calls Tryz.prog 23 #[v, u, .int .i64 e] w fun e' w' => e' = .returned (.int .u64 (RM.rung a b e : Nat)) ∧ Below w.heap.size w w' := by
  by_cases ha : a = 0
  · subst ha
    rw [show RM.rung 0 b e = 0 from by simp [RM.rung]]
    exact nearest_zero h e
  · exact nearest_num h h' ha hb hL hM e he he'
theorem sgnB (a : Nat) (ha : a < 2 ^ 64) : ((a / 2 ^ 63 : Nat) : Int) = if RM.sgn a then 1 else 0 := by
  unfold RM.sgn
  by_cases h : a / 2 ^ 63 % 2 = 1
  · rw [if_pos (by simpa using h)]; omega
  · rw [if_neg (by simpa using h)]; omega

theorem RM.min_of {x y z : Int} (h : z = min x y) : z ≤ x ∧ z ≤ y := by omega
/-- the sign as the program has it -/
def sI (a : Nat) : Int := if RM.sgn a then 1 else 0
theorem sI_is (a : Nat) (ha : a < 2 ^ 64) : ((a / 2 ^ 63 : Nat) : Int) = sI a := sgnB a ha
theorem sI_eq (a b : Nat) : (sI a == sI b) = (RM.sgn a == RM.sgn b) := by
  unfold sI; cases RM.sgn a <;> cases RM.sgn b <;> rfl
theorem signed_sI (a : Nat) (x : Nat) (hx : x < 2 ^ 63) (w : World) : Calls Tryz.prog 21 #[.int .u64 (sI a), .int .u64 x] w fun e w' => e = .returned (.int .u64 (RM.wordOf (RM.sgn a) x : Nat)) ∧ Drawn0 w w' := signed_num (RM.sgn a) x hx w
theorem of_int (i : Int) (h0 : 0 ≤ i) (h : i < 2 ^ 63) (w : World) : Calls Tryz.prog 25 #[.int .i64 i] w fun e w' => ∃ v, e = .returned v ∧ NumC w' v i.toNat 63 ∧ Below w.heap.size w w' := by
  obtain ⟨n, rfl⟩ := Int.eq_ofNat_of_zero_le h0
  exact of_num n (by omega) w

set_option maxHeartbeats 4000000 in
set_option maxRecDepth 100000 in
theorem sum_num (a b : Nat) (ha : a < 2 ^ 64) (hb : b < 2 ^ 64) (fa : a % 2 ^ 63 < 2047 * 2 ^ 52) (fb : b % 2 ^ 63 < 2047 * 2 ^ 52) (w : World) :
    Calls Tryz.prog 20 #[.int .u64 a, .int .u64 b] w fun e w' => e = .returned (.int .u64 (RM.refSum a b : Nat)) ∧ Below w.heap.size w w' := by
  have HA := Aside0.mk ha
  have HB := Aside0.mk hb
  have FA := Aside0.mk fa
  have FB := Aside0.mk fb
  have p1 := plc_ge a
  have p2 := plc_ge b
  have p3 := plc_le a
  have p4 := plc_le b
  have M1 := Aside0.mk (mag_lt a)
  have M2 := Aside0.mk (mag_lt b)
  clear ha hb fa fb
  obtain ⟨R, hR⟩ : ∃ R, RM.refSum a b = R := ⟨_, rfl⟩
  rw [hR]
  unfold RM.refSum at hR
  obtain ⟨ls, hls⟩ : ∃ ls, min (RM.plc a) (RM.plc b) = ls := ⟨_, rfl⟩
  rw [hls] at hR
  have hl1 : ls ≤ RM.plc a ∧ ls ≤ RM.plc b := by omega
  obtain ⟨hl1, hl2⟩ := hl1
  have hl3 : -1074 ≤ ls := by omega
  have HLs := Lib.hid hls
  clear hls
  obtain ⟨X, hX⟩ : ∃ X, RM.mag a * 2 ^ (RM.plc a - ls).toNat = X := ⟨_, rfl⟩
  obtain ⟨Y, hY⟩ : ∃ Y, RM.mag b * 2 ^ (RM.plc b - ls).toNat = Y := ⟨_, rfl⟩
  simp only [hX, hY] at hR
  have HX := Lib.hid hX
  have HY := Lib.hid hY
  have HR := Lib.hid hR
  clear hX hY hR
  go_enter Tryz.func20, Tryz.ntmps20
  go_wp2_with fail
  refine (parts_num a HA.out _).mono ?_
  rintro e w1 ⟨rfl, hd1⟩
  rw [sI_is a HA.out]
  have HB1 := Aside0.mk hd1.below
  clear hd1
  go_wp2_with fail
  refine (parts_num b HB.out _).mono ?_
  rintro e w2 ⟨rfl, hd⟩
  rw [sI_is b HB.out]
  have HB2 := Aside0.mk (below_step HB1.out hd.below)
  clear hd HB1
  go_wp2_with fail
  refine (number_num a HA.out FA.out _).mono ?_
  rintro e w3 ⟨rfl, hd⟩
  have HB3 := Aside0.mk (below_step HB2.out hd.below)
  clear hd HB2
  go_wp2_with fail
  refine (number_num b HB.out FB.out _).mono ?_
  rintro e w4 ⟨rfl, hd⟩
  have HB4 := Aside0.mk (below_step HB3.out hd.below)
  clear hd HB3
  go_upto_if 43 with (fail)
  go_cut [15] (fun v15 wc => v15 = .int .i64 ls ∧ wc = w4)
  case first =>
    by_cases hc : RM.plc b < RM.plc a
    · have e1 := Aside0.mk (show RM.plc b = ls from by have := HLs.out; omega)
      go_wp2
      all_goals first | (exfalso; omega) | skip
      go_meet
      case rel => exact ⟨by rw [e1.out], rfl⟩
    · have e1 := Aside0.mk (show RM.plc a = ls from by have := HLs.out; omega)
      go_wp2
      all_goals first | (exfalso; omega) | skip
      go_meet
      case rel => exact ⟨by rw [e1.out], rfl⟩
  case rest =>
    obtain ⟨rfl, hw⟩ := hcut
    rw [hw]
    clear hw
    go_wp2_with fail
    refine (of_int _ (by omega) (by have := M1.out; omega) _).mono ?_
    rintro e w5 ⟨v5, rfl, hn, hd⟩
    rw [Int.toNat_natCast] at hn
    have HM := Aside0.mk hn
    have HB5 := Aside0.mk (below_step HB4.out hd)
    clear hd HB4 hn
    go_wp2_with fail
    refine (twice_int HM.out.d (by omega) (RM.plc a - ls) (by omega) (by omega)).mono ?_
    rintro e w6 ⟨v6, rfl, hn, hd⟩
    rw [Nat.mul_comm, HX.out] at hn
    have HXN := Aside0.mk (hn.more (L' := 300) (by omega))
    have HB6 := Aside0.mk (below_step HB5.out hd)
    clear hd HB5 HM hn
    go_wp2_with fail
    refine (of_int _ (by omega) (by have := M2.out; omega) _).mono ?_
    rintro e w7 ⟨v7, rfl, hn, hd⟩
    rw [Int.toNat_natCast] at hn
    have HM := Aside0.mk hn
    have HXN7 := Aside0.mk (HXN.out.below hd)
    have HB7 := Aside0.mk (below_step HB6.out hd)
    clear hd HB6 hn HXN
    go_wp2_with fail
    refine (twice_int HM.out.d (by omega) (RM.plc b - ls) (by omega) (by omega)).mono ?_
    rintro e w8 ⟨v8, rfl, hn, hd⟩
    rw [Nat.mul_comm, HY.out] at hn
    have HYN := Aside0.mk (hn.more (L' := 300) (by omega))
    have HXN := Aside0.mk (HXN7.out.below hd)
    have HB8 := Aside0.mk (below_step HB7.out hd)
    clear hd HB7 HXN7 HM hn
    by_cases hs : RM.sgn a = RM.sgn b
    · have cs : (sI a == sI b) = true := by rw [sI_eq]; simpa using hs
      have HS := Aside0.mk hs
      clear hs
      go_wp2_with fail
      refine (plus_num HXN.out HYN.out (by omega) (by omega)).mono ?_
      rintro e w9 ⟨v9, rfl, hn, hd⟩
      have HP := Aside0.mk hn
      have HB9 := Aside0.mk (below_step HB8.out hd)
      clear hd hn HB8 HXN HYN
      go_wp2_with fail
      refine (of_int 1 (by omega) (by omega) _).mono ?_
      rintro e w10 ⟨v10, rfl, hn, hd⟩
      have H1 := Aside0.mk hn
      have HP2 := Aside0.mk (HP.out.below hd)
      have HB10 := Aside0.mk (below_step HB9.out hd)
      clear hd hn HB9 HP
      go_wp2_with fail
      refine (nearest_any HP2.out H1.out (by decide) (by omega) (by omega) ls (by omega) (by omega)).mono ?_
      rintro e w11 ⟨rfl, hd⟩
      have HB11 := Aside0.mk (below_step HB10.out hd)
      clear hd HP2 H1 HB10
      go_wp2_with fail
      refine (signed_sI a _ (by have := rung_le (X + Y) 1 ls; omega) _).mono ?_
      rintro e w12 ⟨rfl, hd⟩
      have HB12 := Aside0.mk (below_step HB11.out hd.below)
      clear hd HB11
      go_wp2
      go_ret
      exact ⟨ret_num (by rw [← HR.out, if_pos HS.out]), HB12.out⟩
    · have cs : (sI a == sI b) = false := by rw [sI_eq]; simpa using hs
      have HS := Aside0.mk hs
      clear hs
      go_wp2_with fail
      refine (compare_num HXN.out HYN.out (by omega) (by omega)).mono ?_
      rintro e w9 ⟨rfl, hd⟩
      have HXN9 := Aside0.mk (HXN.out.below hd.below)
      have HYN9 := Aside0.mk (HYN.out.below hd.below)
      have HB9 := Aside0.mk (below_step HB8.out hd.below)
      clear hd HB8 HXN HYN
      by_cases hxy : X = Y
      · subst hxy
        rw [show sgnOf X X = 0 from by unfold sgnOf; rw [if_neg (by omega), if_pos rfl]]
        go_wp2
        go_ret
        exact ⟨ret_num (by rw [← HR.out, if_neg HS.out]; simp), HB9.out⟩
      · by_cases hlt : Y < X
        · rw [show sgnOf X Y = 1 from by unfold sgnOf; rw [if_neg (by omega), if_neg hxy]]
          have HXY := Aside0.mk hxy
          have HLT := Aside0.mk hlt
          clear hxy hlt
          go_wp2_with fail
          refine (minus_num HXN9.out HYN9.out (by omega) (by omega) (by have := HLT.out; omega)).mono ?_
          rintro e w10 ⟨v10, rfl, hn, hd⟩
          have HP := Aside0.mk hn
          have HB10 := Aside0.mk (below_step HB9.out hd)
          clear hd hn HB9 HXN9 HYN9
          go_wp2_with fail
          refine (of_int 1 (by omega) (by omega) _).mono ?_
          rintro e w11 ⟨v11, rfl, hn, hd⟩
          have H1 := Aside0.mk hn
          have HP2 := Aside0.mk (HP.out.below hd)
          have HB11 := Aside0.mk (below_step HB10.out hd)
          clear hd hn HB10 HP
          go_wp2_with fail
          refine (nearest_any HP2.out H1.out (by decide) (by omega) (by omega) ls (by omega) (by omega)).mono ?_
          rintro e w12 ⟨rfl, hd⟩
          have HB12 := Aside0.mk (below_step HB11.out hd)
          clear hd HP2 H1 HB11
          go_wp2_with fail
          refine (signed_sI a _ (by have := rung_le (X - Y) 1 ls; omega) _).mono ?_
          rintro e w13 ⟨rfl, hd⟩
          have HB13 := Aside0.mk (below_step HB12.out hd.below)
          clear hd HB12
          go_wp2
          go_ret
          exact ⟨ret_num (by rw [← HR.out, if_neg HS.out, if_neg HXY.out, if_pos HLT.out]), HB13.out⟩
        · rw [show sgnOf X Y = -1 from by unfold sgnOf; rw [if_pos (by omega)]]
          have HXY := Aside0.mk hxy
          have HLT := Aside0.mk hlt
          clear hxy hlt
          go_wp2_with fail
          refine (minus_num HYN9.out HXN9.out (by omega) (by omega) (by have := HLT.out; omega)).mono ?_
          rintro e w10 ⟨v10, rfl, hn, hd⟩
          have HP := Aside0.mk hn
          have HB10 := Aside0.mk (below_step HB9.out hd)
          clear hd hn HB9 HXN9 HYN9
          go_wp2_with fail
          refine (of_int 1 (by omega) (by omega) _).mono ?_
          rintro e w11 ⟨v11, rfl, hn, hd⟩
          have H1 := Aside0.mk hn
          have HP2 := Aside0.mk (HP.out.below hd)
          have HB11 := Aside0.mk (below_step HB10.out hd)
          clear hd hn HB10 HP
          go_wp2_with fail
          refine (nearest_any HP2.out H1.out (by decide) (by omega) (by omega) ls (by omega) (by omega)).mono ?_
          rintro e w12 ⟨rfl, hd⟩
          have HB12 := Aside0.mk (below_step HB11.out hd)
          clear hd HP2 H1 HB11
          go_wp2_with fail
          refine (signed_sI b _ (by have := rung_le (Y - X) 1 ls; omega) _).mono ?_
          rintro e w13 ⟨rfl, hd⟩
          have HB13 := Aside0.mk (below_step HB12.out hd.below)
          clear hd HB12
          go_wp2
          go_ret
          exact ⟨ret_num (by rw [← HR.out, if_neg HS.out, if_neg HXY.out, if_neg HLT.out]), HB13.out⟩
end Go.Proofs.YthfppmgnemmckaaGreatDoor.PDo
