import Derived.Test.YthfppmgnemmckaaGreatDoorRS
import Derived.Lib.Hide
namespace Go.Proofs.YthfppmgnemmckaaGreatDoor.PDo
open Go.RowKit Go.Proofs.YthfppmgnemmckaaGreatDoorW.PrintWords Go.Proofs.YthfppmgnemmckaaGreatDoorW.PrintLast Go.Proofs.YthfppmgnemmckaaGreatDoorW.PrintMore

/-- what an operation answers, as chapter 2's document has it -/
def doRes (o : Option Nat) : Nat := o.getD RM.NAN
theorem parts_opq (a : Nat) (ha : a < 2 ^ 64) (A : Int) (hA : Hid ((a : Int) = A)) (w : World) : Calls Tryz.prog 17 #[.int .u64 A] w fun e w' => ∃ S E T : Int, e = .returned (.tuple #[.int .u64 S, .int .u64 E, .int .u64 T]) ∧ Aside0 (sI a = S ∧ ((a / 2 ^ 52 % 2048 : Nat) : Int) = E) ∧ Aside0 (Below w.heap.size w w') := by
  rw [← hA.out]
  refine (parts_num a ha w).mono ?_
  rintro e w' ⟨rfl, hd⟩
  exact ⟨_, _, _, rfl, ⟨(sI_is a ha).symm, rfl⟩, ⟨hd.below⟩⟩
theorem is_opq (a : Nat) (ha : a < 2 ^ 64) (A : Int) (hA : Hid ((a : Int) = A)) (w : World) : Calls Tryz.prog 18 #[.int .u64 A] w fun e w' => e = .returned (.bool (isNaN a)) ∧ Drawn0 w w' := by
  rw [← hA.out]; exact is_num a ha w
theorem sign_of (a b : Nat) {S Z : Int} (h : sI a = S) (h' : sI b = Z) : Int.tmod (IntKind.u64.wrap (S + Z)) 2 = if (RM.sgn a ^^ RM.sgn b) then 1 else 0 := by
  subst h h'
  unfold sI
  cases RM.sgn a <;> cases RM.sgn b <;> rfl
theorem low_of {a : Nat} {A : Int} (hA : (a : Int) = A) : Int.tmod A 9223372036854775808 = ((a % 2 ^ 63 : Nat) : Int) := by
  subst hA
  rw [show Int.tmod (a : Int) 9223372036854775808 = (a : Int) % 9223372036854775808 from tmod_nat (m := 9223372036854775808) (Int.natCast_nonneg _)]; rfl
theorem class_of (a : Nat) (hn : isNaN a = false) : (a % 2 ^ 63 = 2047 * 2 ^ 52 ∧ a / 2 ^ 52 % 2048 = 2047) ∨ (a % 2 ^ 63 < 2047 * 2 ^ 52 ∧ a / 2 ^ 52 % 2048 ≠ 2047) := by
  unfold isNaN at hn
  have := of_decide_eq_false hn
  omega
theorem ret2_num {k : IntKind} {a b : Int} {v : Value} (h : a = b) : Ending.returned (.tuple #[.int k a, v]) = .returned (.tuple #[.int k b, v]) := by rw [h]
theorem nan_of {a : Nat} (h : isNaN a = true) : 2047 * 2 ^ 52 < a % 2 ^ 63 := of_decide_eq_true h
theorem sum_opq (a b : Nat) (ha : a < 2 ^ 64) (hb : b < 2 ^ 64) (fa : a % 2 ^ 63 < 2047 * 2 ^ 52) (fb : b % 2 ^ 63 < 2047 * 2 ^ 52) (A B : Int) (hA : Hid ((a : Int) = A)) (hB : Hid ((b : Int) = B)) (w : World) :
    Calls Tryz.prog 20 #[.int .u64 A, .int .u64 B] w fun e w' => e = .returned (.int .u64 (RM.refSum a b : Nat)) ∧ Below w.heap.size w w' := by
  rw [← hA.out, ← hB.out]; exact sum_num a b ha hb fa fb w
theorem number_opq (a : Nat) (ha : a < 2 ^ 64) (hf : a % 2 ^ 63 < 2047 * 2 ^ 52) (A : Int) (hA : Hid ((a : Int) = A)) (w : World) : Calls Tryz.prog 22 #[.int .u64 A] w fun e w' => e = .returned (.tuple #[.int .i64 (RM.mag a : Nat), .int .i64 (RM.plc a)]) ∧ Drawn0 w w' := by
  rw [← hA.out]; exact number_num a ha hf w
theorem signed_G (a b : Nat) {S Z G E F : Int} (h : Aside0 (sI a = S ∧ ((a / 2 ^ 52 % 2048 : Nat) : Int) = E)) (h' : Aside0 (sI b = Z ∧ ((b / 2 ^ 52 % 2048 : Nat) : Int) = F)) (hG : Hid (Int.tmod (IntKind.u64.wrap (S + Z)) 2 = G)) (x : Nat) (hx : x < 2 ^ 63) (w : World) :
    Calls Tryz.prog 21 #[.int .u64 G, .int .u64 x] w fun e w' => e = .returned (.int .u64 (RM.wordOf (RM.sgn a ^^ RM.sgn b) x : Nat)) ∧ Drawn0 w w' := by
  rw [← hG.out, sign_of a b h.out.1 h'.out.1]; exact signed_num _ x hx w
theorem NumC.fit {w : World} {v : Value} {n L m : Nat} (h : NumC w v n L) (hn : n < 65536 ^ m) : NumC w v n m := by
  obtain ⟨l, A, c, h1, h2, h3, h4, h5, h6⟩ := h
  refine ⟨l, A, c, h1, h2, h3, h4, h5, ?_⟩
  by_cases hne : l = []
  · subst hne; simp
  obtain ⟨h0, hv⟩ := val_top h4 hne
  have hz := h4.2 hne
  have hx := h4.1.at ((l.length : Int) - 1)
  rcases Nat.lt_or_ge m l.length with hh | hh
  · exfalso
    have p1 : 65536 ^ m ≤ 65536 ^ (l.length - 1) := Nat.pow_le_pow_right (by omega) (by omega)
    have p2 : 65536 ^ (l.length - 1) * 1 ≤ 65536 ^ (l.length - 1) * (rd l ((l.length : Int) - 1)).toNat := Nat.mul_le_mul_left _ (by omega)
    omega
  · exact hh
theorem signed_Ginf (a b : Nat) {S Z G E F : Int} (h : Aside0 (sI a = S ∧ ((a / 2 ^ 52 % 2048 : Nat) : Int) = E)) (h' : Aside0 (sI b = Z ∧ ((b / 2 ^ 52 % 2048 : Nat) : Int) = F)) (hG : Hid (Int.tmod (IntKind.u64.wrap (S + Z)) 2 = G)) (w : World) :
    Calls Tryz.prog 21 #[.int .u64 G, .int .u64 9218868437227405312] w fun e w' => e = .returned (.int .u64 (RM.wordOf (RM.sgn a ^^ RM.sgn b) RM.INF : Nat)) ∧ Drawn0 w w' := by
  rw [show (9218868437227405312 : Int) = ((RM.INF : Nat) : Int) from rfl]
  exact signed_G a b h h' hG RM.INF (by decide) w
theorem signed_G0 (a b : Nat) {S Z G E F : Int} (h : Aside0 (sI a = S ∧ ((a / 2 ^ 52 % 2048 : Nat) : Int) = E)) (h' : Aside0 (sI b = Z ∧ ((b / 2 ^ 52 % 2048 : Nat) : Int) = F)) (hG : Hid (Int.tmod (IntKind.u64.wrap (S + Z)) 2 = G)) (w : World) :
    Calls Tryz.prog 21 #[.int .u64 G, .int .u64 0] w fun e w' => e = .returned (.int .u64 (RM.wordOf (RM.sgn a ^^ RM.sgn b) 0 : Nat)) ∧ Drawn0 w w' := by
  rw [show (0 : Int) = ((0 : Nat) : Int) from rfl]
  exact signed_G a b h h' hG 0 (by decide) w
theorem mul_lt (a b : Nat) : RM.mag a * RM.mag b < 65536 ^ 7 := by
  have h1 := mag_lt a
  have h2 := mag_lt b
  have : RM.mag a * RM.mag b ≤ 2 ^ 53 * 2 ^ 53 := Nat.mul_le_mul (by omega) (by omega)
  omega
set_option maxHeartbeats 8000000 in
set_option maxRecDepth 100000 in
theorem do_add (a b : Nat) (ha : a < 2 ^ 64) (hb : b < 2 ^ 64) (w : World) :
    Calls Tryz.prog 7 #[.int .i64 45, .int .u64 a, .int .u64 b] w fun e w' => e = .returned (.tuple #[.int .u64 (doRes (Ieee.double.add a b) : Nat), .bool true]) ∧ Below w.heap.size w w' := by
  have HA := Aside0.mk ha
  have HB := Aside0.mk hb
  clear ha hb
  obtain ⟨A, hA⟩ : ∃ A : Int, (a : Int) = A := ⟨_, rfl⟩
  obtain ⟨B, hB⟩ : ∃ B : Int, (b : Int) = B := ⟨_, rfl⟩
  rw [hA, hB]
  have EA := Lib.hid hA
  have EB := Lib.hid hB
  clear hA hB
  go_enter Tryz.func7, Tryz.ntmps7
  go_wp2_with fail
  refine (parts_opq a HA.out A EA _).mono ?_
  rintro e w1 ⟨S, E, T, rfl, HP1, HB1⟩
  go_wp2_with fail
  refine (parts_opq b HB.out B EB _).mono ?_
  rintro e w2 ⟨Z, F, U, rfl, HP2, hd⟩
  have HB2 := Aside0.mk (below_step HB1.out hd.out)
  clear hd HB1
  go_wp2_with fail
  generalize hx : Int.tmod A 9223372036854775808 = X
  generalize hy : Int.tmod B 9223372036854775808 = Y
  generalize hs : Int.tmod (IntKind.u64.wrap (S + Z)) 2 = G
  have HX := Lib.hid hx
  have HY := Lib.hid hy
  have HS := Lib.hid hs
  clear hx hy hs
  refine (is_opq a HA.out A EA _).mono ?_
  rintro e w3 ⟨rfl, hd⟩
  have HB3 := Aside0.mk (below_step HB2.out hd.below)
  clear hd HB2
  by_cases hna : isNaN a = true
  · rw [hna]
    have HN := Aside0.mk hna
    clear hna
    go_wp2_with fail
    go_ret2
    exact ⟨ret2_num (by rw [show doRes (Ieee.double.add a b) = 9221120237041090560 from by rw [RM.add_nan (.inl (nan_of HN.out))]; rfl]; rfl), HB3.out⟩
  have hna' : isNaN a = false := by simpa using hna
  rw [hna']
  have HNA := Aside0.mk hna'
  clear hna hna'
  go_wp2_with fail
  refine (is_opq b HB.out B EB _).mono ?_
  rintro e w4 ⟨rfl, hd⟩
  have HB4 := Aside0.mk (below_step HB3.out hd.below)
  clear hd HB3
  by_cases hnb : isNaN b = true
  · rw [hnb]
    have HN := Aside0.mk hnb
    clear hnb
    go_wp2_with fail
    go_ret2
    exact ⟨ret2_num (by rw [show doRes (Ieee.double.add a b) = 9221120237041090560 from by rw [RM.add_nan (.inr (nan_of HN.out))]; rfl]; rfl), HB4.out⟩
  have hnb' : isNaN b = false := by simpa using hnb
  rw [hnb']
  have HNB := Aside0.mk hnb'
  clear hnb hnb'
  rcases class_of a HNA.out with ⟨ia, ea⟩ | ⟨ia, ea⟩ <;> rcases class_of b HNB.out with ⟨ib, eb⟩ | ⟨ib, eb⟩
  · by_cases hsg : RM.sgn a = RM.sgn b
    · skip
      have cE : (E == 2047) = true := beq_iff_eq.2 (by have := HP1.out.2; omega)
      have cF : (F == 2047) = true := beq_iff_eq.2 (by have := HP2.out.2; omega)
      have cs : (S != Z) = false := by rw [← HP1.out.1, ← HP2.out.1]; unfold bne; rw [sI_eq]; simp [hsg]
      have HIA := Aside0.mk ia
      have HIB := Aside0.mk ib
      clear ia ib ea eb
      have HSG := Aside0.mk hsg
      clear hsg
      go_wp2_with fail
      go_ret2
      exact ⟨ret2_num (by rw [RM.add_inf_inf HA.out HIA.out HIB.out, if_pos HSG.out, ← EA.out]; rfl), HB4.out⟩
    · skip
      have cE : (E == 2047) = true := beq_iff_eq.2 (by have := HP1.out.2; omega)
      have cF : (F == 2047) = true := beq_iff_eq.2 (by have := HP2.out.2; omega)
      have cs : (S != Z) = true := by rw [← HP1.out.1, ← HP2.out.1]; unfold bne; rw [sI_eq]; simp [hsg]
      have HIA := Aside0.mk ia
      have HIB := Aside0.mk ib
      clear ia ib ea eb
      have HSG := Aside0.mk hsg
      clear hsg
      go_wp2_with fail
      go_ret2
      exact ⟨ret2_num (by rw [RM.add_inf_inf HA.out HIA.out HIB.out, if_neg HSG.out]; rfl), HB4.out⟩
  · · skip
      have cE : (E == 2047) = true := beq_iff_eq.2 (by have := HP1.out.2; omega)
      have cF : (F == 2047) = false := beq_eq_false_iff_ne.2 (by have := HP2.out.2; omega)
      have HIA := Aside0.mk ia
      have HIB := Aside0.mk ib
      clear ia ib ea eb
      go_wp2_with fail
      go_ret2
      exact ⟨ret2_num (by rw [RM.add_inf_fin HA.out HIA.out HIB.out, ← EA.out]; rfl), HB4.out⟩
  · · skip
      have cE : (E == 2047) = false := beq_eq_false_iff_ne.2 (by have := HP1.out.2; omega)
      have cF : (F == 2047) = true := beq_iff_eq.2 (by have := HP2.out.2; omega)
      have HIA := Aside0.mk ia
      have HIB := Aside0.mk ib
      clear ia ib ea eb
      go_wp2_with fail
      go_ret2
      exact ⟨ret2_num (by rw [RM.add_fin_inf HB.out HIA.out HIB.out, ← EB.out]; rfl), HB4.out⟩
  · by_cases hx0 : a % 2 ^ 63 = 0
    · by_cases hy0 : b % 2 ^ 63 = 0
      · by_cases hsg : RM.sgn a = RM.sgn b
        · skip
          have cE : (E == 2047) = false := beq_eq_false_iff_ne.2 (by have := HP1.out.2; omega)
          have cF : (F == 2047) = false := beq_eq_false_iff_ne.2 (by have := HP2.out.2; omega)
          have cx : (X == 0) = true := beq_iff_eq.2 (by have h1 := HX.out; rw [low_of EA.out] at h1; omega)
          have cy : (Y == 0) = true := beq_iff_eq.2 (by have h1 := HY.out; rw [low_of EB.out] at h1; omega)
          have cs : (S != Z) = false := by rw [← HP1.out.1, ← HP2.out.1]; unfold bne; rw [sI_eq]; simp [hsg]
          have HIA := Aside0.mk ia
          have HIB := Aside0.mk ib
          clear ia ib ea eb
          have HSG := Aside0.mk hsg
          have Hx0 := Aside0.mk hx0
          have Hy0 := Aside0.mk hy0
          clear hsg hx0 hy0
          go_wp2_with fail
          go_ret2
          exact ⟨ret2_num (by rw [RM.add_zeros HA.out (RM.mag_zero.2 Hx0.out) (RM.mag_zero.2 Hy0.out), if_pos HSG.out, ← EA.out]; rfl), HB4.out⟩
        · skip
          have cE : (E == 2047) = false := beq_eq_false_iff_ne.2 (by have := HP1.out.2; omega)
          have cF : (F == 2047) = false := beq_eq_false_iff_ne.2 (by have := HP2.out.2; omega)
          have cx : (X == 0) = true := beq_iff_eq.2 (by have h1 := HX.out; rw [low_of EA.out] at h1; omega)
          have cy : (Y == 0) = true := beq_iff_eq.2 (by have h1 := HY.out; rw [low_of EB.out] at h1; omega)
          have cs : (S != Z) = true := by rw [← HP1.out.1, ← HP2.out.1]; unfold bne; rw [sI_eq]; simp [hsg]
          have HIA := Aside0.mk ia
          have HIB := Aside0.mk ib
          clear ia ib ea eb
          have HSG := Aside0.mk hsg
          have Hx0 := Aside0.mk hx0
          have Hy0 := Aside0.mk hy0
          clear hsg hx0 hy0
          go_wp2_with fail
          go_ret2
          exact ⟨ret2_num (by rw [RM.add_zeros HA.out (RM.mag_zero.2 Hx0.out) (RM.mag_zero.2 Hy0.out), if_neg HSG.out]; rfl), HB4.out⟩
      · skip
        have cE : (E == 2047) = false := beq_eq_false_iff_ne.2 (by have := HP1.out.2; omega)
        have cF : (F == 2047) = false := beq_eq_false_iff_ne.2 (by have := HP2.out.2; omega)
        have cx : (X == 0) = true := beq_iff_eq.2 (by have h1 := HX.out; rw [low_of EA.out] at h1; omega)
        have cy : (Y == 0) = false := beq_eq_false_iff_ne.2 (by have h1 := HY.out; rw [low_of EB.out] at h1; omega)
        have HIA := Aside0.mk ia
        have HIB := Aside0.mk ib
        clear ia ib ea eb
        have Hy0 := Aside0.mk hy0
        clear hx0 hy0
        go_wp2_with fail
        refine (sum_opq a b HA.out HB.out HIA.out HIB.out A B EA EB _).mono ?_
        rintro e w5 ⟨rfl, hd⟩
        have HB5 := Aside0.mk (below_step HB4.out hd)
        clear hd HB4
        go_wp2_with fail
        go_ret2
        exact ⟨ret2_num (by rw [RM.add_fin HIA.out HIB.out (fun h => Hy0.out (RM.mag_zero.1 h.2))]; rfl), HB5.out⟩
    · skip
      have cE : (E == 2047) = false := beq_eq_false_iff_ne.2 (by have := HP1.out.2; omega)
      have cF : (F == 2047) = false := beq_eq_false_iff_ne.2 (by have := HP2.out.2; omega)
      have cx : (X == 0) = false := beq_eq_false_iff_ne.2 (by have h1 := HX.out; rw [low_of EA.out] at h1; omega)
      have HIA := Aside0.mk ia
      have HIB := Aside0.mk ib
      clear ia ib ea eb
      have Hx0 := Aside0.mk hx0
      clear hx0
      go_wp2_with fail
      refine (sum_opq a b HA.out HB.out HIA.out HIB.out A B EA EB _).mono ?_
      rintro e w5 ⟨rfl, hd⟩
      have HB5 := Aside0.mk (below_step HB4.out hd)
      clear hd HB4
      go_wp2_with fail
      go_ret2
      exact ⟨ret2_num (by rw [RM.add_fin HIA.out HIB.out (fun h => Hx0.out (RM.mag_zero.1 h.1))]; rfl), HB5.out⟩
theorem neg_opq (a : Nat) (ha : a < 2 ^ 64) (hn : isNaN a = false) (A : Int) (hA : Hid ((a : Int) = A)) (w : World) : Calls Tryz.prog 19 #[.int .u64 A] w fun e w' => e = .returned (.int .u64 (RM.flip a : Nat)) ∧ Drawn0 w w' := by
  rw [← hA.out]; exact neg_num a ha hn w
set_option maxHeartbeats 8000000 in
set_option maxRecDepth 100000 in
theorem do_sub (a b : Nat) (ha : a < 2 ^ 64) (hb : b < 2 ^ 64) (w : World) :
    Calls Tryz.prog 7 #[.int .i64 46, .int .u64 a, .int .u64 b] w fun e w' => e = .returned (.tuple #[.int .u64 (doRes (Ieee.double.sub a b) : Nat), .bool true]) ∧ Below w.heap.size w w' := by
  have HA := Aside0.mk ha
  have HB := Aside0.mk hb
  clear ha hb
  obtain ⟨A, hA⟩ : ∃ A : Int, (a : Int) = A := ⟨_, rfl⟩
  obtain ⟨B, hB⟩ : ∃ B : Int, (b : Int) = B := ⟨_, rfl⟩
  rw [hA, hB]
  have EA := Lib.hid hA
  have EB := Lib.hid hB
  clear hA hB
  go_enter Tryz.func7, Tryz.ntmps7
  go_wp2_with fail
  refine (parts_opq a HA.out A EA _).mono ?_
  rintro e w1 ⟨S, E, T, rfl, HP1, HB1⟩
  go_wp2_with fail
  refine (parts_opq b HB.out B EB _).mono ?_
  rintro e w2 ⟨Z, F, U, rfl, HP2, hd⟩
  have HB2 := Aside0.mk (below_step HB1.out hd.out)
  clear hd HB1
  go_wp2_with fail
  generalize hx : Int.tmod A 9223372036854775808 = X
  generalize hy : Int.tmod B 9223372036854775808 = Y
  generalize hs : Int.tmod (IntKind.u64.wrap (S + Z)) 2 = G
  have HX := Lib.hid hx
  have HY := Lib.hid hy
  have HS := Lib.hid hs
  clear hx hy hs
  refine (is_opq a HA.out A EA _).mono ?_
  rintro e w3 ⟨rfl, hd⟩
  have HB3 := Aside0.mk (below_step HB2.out hd.below)
  clear hd HB2
  by_cases hna : isNaN a = true
  · rw [hna]
    have HN := Aside0.mk hna
    clear hna
    go_wp2_with fail
    go_ret2
    exact ⟨ret2_num (by rw [show doRes (Ieee.double.sub a b) = 9221120237041090560 from by rw [RM.sub_nan (.inl (nan_of HN.out))]; rfl]; rfl), HB3.out⟩
  have hna' : isNaN a = false := by simpa using hna
  rw [hna']
  have HNA := Aside0.mk hna'
  clear hna hna'
  go_wp2_with fail
  refine (is_opq b HB.out B EB _).mono ?_
  rintro e w4 ⟨rfl, hd⟩
  have HB4 := Aside0.mk (below_step HB3.out hd.below)
  clear hd HB3
  by_cases hnb : isNaN b = true
  · rw [hnb]
    have HN := Aside0.mk hnb
    clear hnb
    go_wp2_with fail
    go_ret2
    exact ⟨ret2_num (by rw [show doRes (Ieee.double.sub a b) = 9221120237041090560 from by rw [RM.sub_nan (.inr (nan_of HN.out))]; rfl]; rfl), HB4.out⟩
  have hnb' : isNaN b = false := by simpa using hnb
  rw [hnb']
  have HNB := Aside0.mk hnb'
  clear hnb hnb'
  go_wp2_with fail
  refine (neg_opq b HB.out HNB.out B EB _).mono ?_
  rintro e w5 ⟨rfl, hd⟩
  have HB5 := Aside0.mk (below_step HB4.out hd.below)
  clear hd HB4
  rw [← EA.out]
  go_wp2_with fail
  refine (do_add a (RM.flip b) HA.out (RM.flip_lt HB.out) _).mono ?_
  rintro e w6 ⟨rfl, hd⟩
  have HB6 := Aside0.mk (below_step HB5.out hd)
  clear hd HB5
  go_wp2_with fail
  go_ret2
  exact ⟨ret2_num (by rw [RM.sub_flip HB.out (of_decide_eq_false HNB.out)]), HB6.out⟩
set_option maxHeartbeats 4000000 in
set_option maxRecDepth 100000 in
theorem do_none (op : Int) (a b : Nat) (hop : op < 45 ∨ 48 < op) (w : World) :
    Calls Tryz.prog 7 #[.int .i64 op, .int .u64 a, .int .u64 b] w fun e w' => e = .returned (.tuple #[.int .u64 0, .bool false]) ∧ Below w.heap.size w w' := by
  by_cases h : op < 45
  · go_enter Tryz.func7, Tryz.ntmps7
    go_wp2
    go_ret2
    exact ⟨rfl, Below.refl _ _⟩
  · have h' : 48 < op := by omega
    clear hop
    go_enter Tryz.func7, Tryz.ntmps7
    go_wp2
    go_ret2
    exact ⟨rfl, Below.refl _ _⟩
end Go.Proofs.YthfppmgnemmckaaGreatDoor.PDo
