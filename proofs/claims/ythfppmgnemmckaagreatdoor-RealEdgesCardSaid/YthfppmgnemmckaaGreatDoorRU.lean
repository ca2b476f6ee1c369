import Derived.Test.YthfppmgnemmckaaGreatDoorRT
import Derived.Lib.Hide
namespace Go.Proofs.YthfppmgnemmckaaGreatDoor.PDo
open Go.RowKit Go.Proofs.YthfppmgnemmckaaGreatDoorW.PrintWords Go.Proofs.YthfppmgnemmckaaGreatDoorW.PrintLast Go.Proofs.YthfppmgnemmckaaGreatDoorW.PrintMore

set_option maxHeartbeats 8000000 in
set_option maxRecDepth 100000 in
theorem do_mul (a b : Nat) (ha : a < 2 ^ 64) (hb : b < 2 ^ 64) (w : World) :
    Calls Tryz.prog 7 #[.int .i64 47, .int .u64 a, .int .u64 b] w fun e w' => e = .returned (.tuple #[.int .u64 (doRes (Ieee.double.mul a b) : Nat), .bool true]) ∧ Below w.heap.size w w' := by
  have HA := Aside0.mk ha
  have HB := Aside0.mk hb
  clear ha hb
  obtain ⟨A, hA⟩ : ∃ A : Int, (a : Int) = A := ⟨_, rfl⟩
  obtain ⟨B, hB⟩ : ∃ B : Int, (b : Int) = B := ⟨_, rfl⟩
  rw [hA, hB]
  have EA := Lib.hid hA
  have EB := Lib.hid hB
  clear hA hB
  go_enter Tryz.func7, Tryz.ntmps7
  go_wp2_with fail
  refine (parts_opq a HA.out A EA _).mono ?_
  rintro e w1 ⟨S, E, T, rfl, HP1, HB1⟩
  go_wp2_with fail
  refine (parts_opq b HB.out B EB _).mono ?_
  rintro e w2 ⟨Z, F, U, rfl, HP2, hd⟩
  have HB2 := Aside0.mk (below_step HB1.out hd.out)
  clear hd HB1
  go_wp2_with fail
  generalize hx : Int.tmod A 9223372036854775808 = X
  generalize hy : Int.tmod B 9223372036854775808 = Y
  generalize hs : Int.tmod (IntKind.u64.wrap (S + Z)) 2 = G
  have HX := Lib.hid hx
  have HY := Lib.hid hy
  have HS := Lib.hid hs
  clear hx hy hs
  refine (is_opq a HA.out A EA _).mono ?_
  rintro e w3 ⟨rfl, hd⟩
  have HB3 := Aside0.mk (below_step HB2.out hd.below)
  clear hd HB2
  by_cases hna : isNaN a = true
  · rw [hna]
    have HN := Aside0.mk hna
    clear hna
    go_wp2_with fail
    go_ret2
    exact ⟨ret2_num (by rw [show doRes (Ieee.double.mul a b) = 9221120237041090560 from by rw [RM.mul_nan (.inl (nan_of HN.out))]; rfl]; rfl), HB3.out⟩
  have hna' : isNaN a = false := by simpa using hna
  rw [hna']
  have HNA := Aside0.mk hna'
  clear hna hna'
  go_wp2_with fail
  refine (is_opq b HB.out B EB _).mono ?_
  rintro e w4 ⟨rfl, hd⟩
  have HB4 := Aside0.mk (below_step HB3.out hd.below)
  clear hd HB3
  by_cases hnb : isNaN b = true
  · rw [hnb]
    have HN := Aside0.mk hnb
    clear hnb
    go_wp2_with fail
    go_ret2
    exact ⟨ret2_num (by rw [show doRes (Ieee.double.mul a b) = 9221120237041090560 from by rw [RM.mul_nan (.inr (nan_of HN.out))]; rfl]; rfl), HB4.out⟩
  have hnb' : isNaN b = false := by simpa using hnb
  rw [hnb']
  have HNB := Aside0.mk hnb'
  clear hnb hnb'
  rcases class_of a HNA.out with ⟨ia, ea⟩ | ⟨ia, ea⟩ <;> rcases class_of b HNB.out with ⟨ib, eb⟩ | ⟨ib, eb⟩
  · have cE : (E == 2047) = true := beq_iff_eq.2 (by have := HP1.out.2; omega)
    have cF : (F == 2047) = true := beq_iff_eq.2 (by have := HP2.out.2; omega)
    have cx : (X == 0) = false := beq_eq_false_iff_ne.2 (by have h1 := HX.out; rw [low_of EA.out] at h1; omega)
    have cy : (Y == 0) = false := beq_eq_false_iff_ne.2 (by have h1 := HY.out; rw [low_of EB.out] at h1; omega)
    have HIA := Aside0.mk ia
    have HIB := Aside0.mk ib
    clear ia ib ea eb
    go_wp2_with fail
    refine (signed_Ginf a b HP1 HP2 HS _).mono ?_
    rintro e w5 ⟨rfl, hd⟩
    have HB5 := Aside0.mk (below_step HB4.out hd.below)
    clear hd HB4
    go_wp2_with fail
    go_ret2
    exact ⟨ret2_num (by rw [RM.mul_inf_inf HIA.out HIB.out]; rfl), HB5.out⟩
  · by_cases hy0 : b % 2 ^ 63 = 0
    · have cE : (E == 2047) = true := beq_iff_eq.2 (by have := HP1.out.2; omega)
      have cF : (F == 2047) = false := beq_eq_false_iff_ne.2 (by have := HP2.out.2; omega)
      have cx : (X == 0) = false := beq_eq_false_iff_ne.2 (by have h1 := HX.out; rw [low_of EA.out] at h1; omega)
      have cy : (Y == 0) = true := beq_iff_eq.2 (by have h1 := HY.out; rw [low_of EB.out] at h1; omega)
      have HIA := Aside0.mk ia
      have HIB := Aside0.mk ib
      clear ia ib ea eb
      have Hy0 := Aside0.mk hy0
      clear hy0
      go_wp2_with fail
      go_ret2
      exact ⟨ret2_num (by rw [RM.mul_inf_fin HIA.out HIB.out, if_pos Hy0.out]; rfl), HB4.out⟩
    · have cE : (E == 2047) = true := beq_iff_eq.2 (by have := HP1.out.2; omega)
      have cF : (F == 2047) = false := beq_eq_false_iff_ne.2 (by have := HP2.out.2; omega)
      have cx : (X == 0) = false := beq_eq_false_iff_ne.2 (by have h1 := HX.out; rw [low_of EA.out] at h1; omega)
      have cy : (Y == 0) = false := beq_eq_false_iff_ne.2 (by have h1 := HY.out; rw [low_of EB.out] at h1; omega)
      have HIA := Aside0.mk ia
      have HIB := Aside0.mk ib
      clear ia ib ea eb
      have Hy0 := Aside0.mk hy0
      clear hy0
      go_wp2_with fail
      refine (signed_Ginf a b HP1 HP2 HS _).mono ?_
      rintro e w5 ⟨rfl, hd⟩
      have HB5 := Aside0.mk (below_step HB4.out hd.below)
      clear hd HB4
      go_wp2_with fail
      go_ret2
      exact ⟨ret2_num (by rw [RM.mul_inf_fin HIA.out HIB.out, if_neg Hy0.out]; rfl), HB5.out⟩
  · by_cases hx0 : a % 2 ^ 63 = 0
    · have cE : (E == 2047) = false := beq_eq_false_iff_ne.2 (by have := HP1.out.2; omega)
      have cF : (F == 2047) = true := beq_iff_eq.2 (by have := HP2.out.2; omega)
      have cx : (X == 0) = true := beq_iff_eq.2 (by have h1 := HX.out; rw [low_of EA.out] at h1; omega)
      have cy : (Y == 0) = false := beq_eq_false_iff_ne.2 (by have h1 := HY.out; rw [low_of EB.out] at h1; omega)
      have HIA := Aside0.mk ia
      have HIB := Aside0.mk ib
      clear ia ib ea eb
      have Hx0 := Aside0.mk hx0
      clear hx0
      go_wp2_with fail
      go_ret2
      exact ⟨ret2_num (by rw [RM.mul_fin_inf HIA.out HIB.out, if_pos Hx0.out]; rfl), HB4.out⟩
    · have cE : (E == 2047) = false := beq_eq_false_iff_ne.2 (by have := HP1.out.2; omega)
      have cF : (F == 2047) = true := beq_iff_eq.2 (by have := HP2.out.2; omega)
      have cx : (X == 0) = false := beq_eq_false_iff_ne.2 (by have h1 := HX.out; rw [low_of EA.out] at h1; omega)
      have cy : (Y == 0) = false := beq_eq_false_iff_ne.2 (by have h1 := HY.out; rw [low_of EB.out] at h1; omega)
      have HIA := Aside0.mk ia
      have HIB := Aside0.mk ib
      clear ia ib ea eb
      have Hx0 := Aside0.mk hx0
      clear hx0
      go_wp2_with fail
      refine (signed_Ginf a b HP1 HP2 HS _).mono ?_
      rintro e w5 ⟨rfl, hd⟩
      have HB5 := Aside0.mk (below_step HB4.out hd.below)
      clear hd HB4
      go_wp2_with fail
      go_ret2
      exact ⟨ret2_num (by rw [RM.mul_fin_inf HIA.out HIB.out, if_neg Hx0.out]; rfl), HB5.out⟩
  · have cE : (E == 2047) = false := beq_eq_false_iff_ne.2 (by have := HP1.out.2; omega)
    have cF : (F == 2047) = false := beq_eq_false_iff_ne.2 (by have := HP2.out.2; omega)
    have HIA := Aside0.mk ia
    have HIB := Aside0.mk ib
    clear ia ib ea eb
    go_wp2_with fail
    refine (number_opq a HA.out HIA.out A EA _).mono ?_
    rintro e w5 ⟨rfl, hd⟩
    have HB5 := Aside0.mk (below_step HB4.out hd.below)
    clear hd HB4
    go_wp2_with fail
    refine (number_opq b HB.out HIB.out B EB _).mono ?_
    rintro e w6 ⟨rfl, hd⟩
    have HB6 := Aside0.mk (below_step HB5.out hd.below)
    clear hd HB5
    have M1 := Aside0.mk (mag_lt a)
    have M2 := Aside0.mk (mag_lt b)
    have p1 := plc_ge a
    have p2 := plc_ge b
    have p3 := plc_le a
    have p4 := plc_le b
    go_wp2_with fail
    refine (of_int _ (by omega) (by have := M1.out; omega) _).mono ?_
    rintro e w7 ⟨v7, rfl, hn, hd⟩
    rw [Int.toNat_natCast] at hn
    have HM := Aside0.mk hn
    have HB7 := Aside0.mk (below_step HB6.out hd)
    clear hd HB6 hn
    go_wp2_with fail
    refine (of_int _ (by omega) (by have := M2.out; omega) _).mono ?_
    rintro e w8 ⟨v8, rfl, hn, hd⟩
    rw [Int.toNat_natCast] at hn
    have HN := Aside0.mk hn
    have HM8 := Aside0.mk (HM.out.below hd)
    have HB8 := Aside0.mk (below_step HB7.out hd)
    clear hd HB7 hn HM
    go_wp2_with fail
    refine (times_num HM8.out.d HN.out.d (by omega) (by omega)).mono ?_
    rintro e w9 ⟨v9, rfl, hn, hd⟩
    have HP := Aside0.mk (hn.fit (mul_lt a b))
    have HB9 := Aside0.mk (below_step HB8.out hd)
    clear hd HB8 hn HM8 HN
    go_wp2_with fail
    refine (of_int 1 (by omega) (by omega) _).mono ?_
    rintro e w10 ⟨v10, rfl, hn, hd⟩
    have H1 := Aside0.mk hn
    have HPP := Aside0.mk (HP.out.below hd)
    have HB10 := Aside0.mk (below_step HB9.out hd)
    clear hd hn HB9 HP
    go_wp2_with fail
    refine (nearest_any HPP.out H1.out (by decide) (by omega) (by omega) (RM.plc a + RM.plc b) (by omega) (by omega)).mono ?_
    rintro e w11 ⟨rfl, hd⟩
    have HB11 := Aside0.mk (below_step HB10.out hd)
    clear hd HPP H1 HB10
    go_wp2_with fail
    refine (signed_G a b HP1 HP2 HS _ (by have := rung_le (RM.mag a * RM.mag b) 1 (RM.plc a + RM.plc b); omega) _).mono ?_
    rintro e w12 ⟨rfl, hd⟩
    have HB12 := Aside0.mk (below_step HB11.out hd.below)
    clear hd HB11
    go_wp2_with fail
    go_ret2
    exact ⟨ret2_num (by rw [RM.mul_fin HIA.out HIB.out]; rfl), HB12.out⟩
end Go.Proofs.YthfppmgnemmckaaGreatDoor.PDo
