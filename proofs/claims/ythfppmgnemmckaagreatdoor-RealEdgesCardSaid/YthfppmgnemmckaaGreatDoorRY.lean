import Derived.Test.YthfppmgnemmckaaGreatDoorRX
import Derived.Lib.Hide
namespace Go.Proofs.YthfppmgnemmckaaGreatDoor.PDo
open Go.RowKit Go.Proofs.YthfppmgnemmckaaGreatDoorW.PrintWords Go.Proofs.YthfppmgnemmckaaGreatDoorW.PrintLast Go.Proofs.YthfppmgnemmckaaGreatDoorW.PrintMore

set_option maxRecDepth 100000 in
theorem order_num (a : Nat) (ha : a < 2 ^ 64) (w : World) : Calls Tryz.prog 26 #[.int .u64 a] w fun e w' => e = .returned (.int .i64 (RM.ord a)) ∧ Below w.heap.size w w' := by
  have HA := Aside0.mk ha
  clear ha
  obtain ⟨A, hA⟩ : ∃ A : Int, (a : Int) = A := ⟨_, rfl⟩
  rw [hA]
  have EA := Lib.hid hA
  clear hA
  have key : wrap64 (Int.tmod A 9223372036854775808) = ((a % 2 ^ 63 : Nat) : Int) := by
    rw [low_of EA.out]; exact w64 (by omega) (by omega)
  have key2 : wrap64 (-((a % 2 ^ 63 : Nat) : Int)) = -((a % 2 ^ 63 : Nat) : Int) := w64 (by omega) (by omega)
  have HK := Aside0.mk key
  have HK2 := Aside0.mk key2
  clear key key2
  cases hs : RM.sgn a with
  | true =>
    have hsI : sI a = 1 := by unfold sI; rw [hs]; rfl
    have hv : RM.ord a = -((a % 2 ^ 63 : Nat) : Int) := by unfold RM.ord; rw [hs]; rfl
    rw [hv]
    have HI := Aside0.mk hsI
    clear hs hsI hv
    go_enter Tryz.func26, Tryz.ntmps26
    go_wp2_with fail
    refine (parts_opq a HA.out A EA _).mono ?_
    rintro e w1 ⟨S, E, T, rfl, HP1, HB1⟩
    have h1 : (S == 1) = true := by rw [← HP1.out.1, HI.out]; rfl
    clear HP1
    go_wp2
    go_ret
    exact ⟨ret_num (by rw [HK.out]; exact HK2.out), HB1.out⟩
  | false =>
    have hsI : sI a = 0 := by unfold sI; rw [hs]; rfl
    have hv : RM.ord a = ((a % 2 ^ 63 : Nat) : Int) := by unfold RM.ord; rw [hs]; rfl
    rw [hv]
    have HI := Aside0.mk hsI
    clear hs hsI hv
    go_enter Tryz.func26, Tryz.ntmps26
    go_wp2_with fail
    refine (parts_opq a HA.out A EA _).mono ?_
    rintro e w1 ⟨S, E, T, rfl, HP1, HB1⟩
    have h1 : (S == 1) = false := by rw [← HP1.out.1, HI.out]; rfl
    clear HP1
    go_wp2
    go_ret
    exact ⟨ret_num HK.out, HB1.out⟩

theorem order_cmp {a b : Nat} (ha : isNaN a = false) (hb : isNaN b = false) : Ieee.double.order a b = some (compare (RM.ord a) (RM.ord b)) := RM.order_ord (of_decide_eq_false ha) (of_decide_eq_false hb)
theorem cmpB_of {op : Int} {a b : Nat} (ha : isNaN a = false) (hb : isNaN b = false) : cmpB op a b = if op = 51 then decide (RM.ord a = RM.ord b) else if op = 52 then decide (RM.ord a < RM.ord b) else decide (RM.ord a ≤ RM.ord b) := by
  unfold cmpB
  rw [order_cmp ha hb]
  rcases Int.lt_trichotomy (RM.ord a) (RM.ord b) with h | h | h
  · rw [RM.cmp_lt h, decide_eq_false (show ¬ RM.ord a = RM.ord b by omega), decide_eq_true h, decide_eq_true (show RM.ord a ≤ RM.ord b by omega)]; rfl
  · rw [h, decide_eq_true rfl, decide_eq_false (show ¬ RM.ord b < RM.ord b by omega), decide_eq_true (Int.le_refl _), show compare (RM.ord b) (RM.ord b) = .eq from by simp [compare, compareOfLessAndEq]]; rfl
  · rw [RM.cmp_gt h, decide_eq_false (show ¬ RM.ord a = RM.ord b by omega), decide_eq_false (show ¬ RM.ord a < RM.ord b by omega), decide_eq_false (show ¬ RM.ord a ≤ RM.ord b by omega)]; rfl
theorem cmpB_nan {op : Int} {a b : Nat} (h : isNaN a = true ∨ isNaN b = true) : cmpB op a b = false := by
  unfold cmpB
  rw [RM.order_nan (h.imp of_decide_eq_true of_decide_eq_true)]
  split <;> (try split) <;> rfl
set_option maxHeartbeats 1000000 in
set_option maxRecDepth 100000 in
theorem refcmp_none (op : Int) (hop : op < 51 ∨ 53 < op) (a b : Nat) (w : World) : Calls Tryz.prog 9 #[.int .i64 op, .int .u64 a, .int .u64 b] w fun e w' => e = .returned (.tuple #[.int .u32 0, .bool false]) ∧ Below w.heap.size w w' := by
  by_cases h : op < 51
  · clear hop
    go_enter Tryz.func9, Tryz.ntmps9
    go_wp2
    go_ret2
    exact ⟨rfl, Below.refl _ _⟩
  · have h' : 53 < op := by omega
    clear hop
    go_enter Tryz.func9, Tryz.ntmps9
    go_wp2
    go_ret2
    exact ⟨rfl, Below.refl _ _⟩
theorem order_opq (a : Nat) (ha : a < 2 ^ 64) (A : Int) (hA : Hid ((a : Int) = A)) (w : World) : Calls Tryz.prog 26 #[.int .u64 A] w fun e w' => ∃ x : Int, e = .returned (.int .i64 x) ∧ Aside0 (RM.ord a = x) ∧ Below w.heap.size w w' := by
  rw [← hA.out]
  refine (order_num a ha w).mono ?_
  rintro e w' ⟨rfl, hd⟩
  exact ⟨_, rfl, ⟨rfl⟩, hd⟩
set_option maxHeartbeats 4000000 in
set_option maxRecDepth 100000 in
theorem refcmp_is (op : Int) (hop : op = 51 ∨ op = 52 ∨ op = 53) (a b : Nat) (ha : a < 2 ^ 64) (hb : b < 2 ^ 64) (w : World) : Calls Tryz.prog 9 #[.int .i64 op, .int .u64 a, .int .u64 b] w fun e w' => e = .returned (.tuple #[.int .u32 (cmpN op a b), .bool true]) ∧ Below w.heap.size w w' := by
  have HA := Aside0.mk ha
  have HB := Aside0.mk hb
  clear ha hb
  obtain ⟨A, hA⟩ : ∃ A : Int, (a : Int) = A := ⟨_, rfl⟩
  obtain ⟨B, hB⟩ : ∃ B : Int, (b : Int) = B := ⟨_, rfl⟩
  rw [hA, hB]
  have EA := Lib.hid hA
  have EB := Lib.hid hB
  clear hA hB
  obtain ⟨c, hc⟩ : ∃ c, cmpN op a b = c := ⟨_, rfl⟩
  rw [hc]
  have HCN := Lib.hid hc
  clear hc
  have HOP := Aside0.mk hop
  have o1 : ¬ op < 51 := by omega
  have o2 : ¬ 53 < op := by omega
  clear hop
  go_enter Tryz.func9, Tryz.ntmps9
  go_wp2_with fail
  refine (is_opq a HA.out A EA _).mono ?_
  rintro e w3 ⟨rfl, hd⟩
  have HB3 := Aside0.mk hd.below
  clear hd
  by_cases hna : isNaN a = true
  · rw [hna]
    have HN := Aside0.mk hna
    clear hna
    go_wp2_with fail
    go_ret2
    exact ⟨ret2_num (by rw [← HCN.out]; unfold cmpN; rw [cmpB_nan (.inl HN.out)]; rfl), HB3.out⟩
  have hna' : isNaN a = false := by simpa using hna
  rw [hna']
  have HNA := Aside0.mk hna'
  clear hna hna'
  go_wp2_with fail
  refine (is_opq b HB.out B EB _).mono ?_
  rintro e w4 ⟨rfl, hd⟩
  have HB4 := Aside0.mk (below_step HB3.out hd.below)
  clear hd HB3
  by_cases hnb : isNaN b = true
  · rw [hnb]
    have HN := Aside0.mk hnb
    clear hnb
    go_wp2_with fail
    go_ret2
    exact ⟨ret2_num (by rw [← HCN.out]; unfold cmpN; rw [cmpB_nan (.inr HN.out)]; rfl), HB4.out⟩
  have hnb' : isNaN b = false := by simpa using hnb
  rw [hnb']
  have HNB := Aside0.mk hnb'
  clear hnb hnb'
  go_wp2_with fail
  refine (order_opq a HA.out A EA _).mono ?_
  rintro e w5 ⟨x, rfl, hx, hd⟩
  have HB5 := Aside0.mk (below_step HB4.out hd)
  clear hd HB4
  go_wp2_with fail
  refine (order_opq b HB.out B EB _).mono ?_
  rintro e w6 ⟨y, rfl, hy, hd⟩
  have HB6 := Aside0.mk (below_step HB5.out hd)
  clear hd HB5
  have hcm : c = if (if op = 51 then decide (x = y) else if op = 52 then decide (x < y) else decide (x ≤ y)) = true then 1 else 0 := by
    rw [← HCN.out, ← hx.out, ← hy.out]; unfold cmpN; rw [cmpB_of HNA.out HNB.out]
  have HC := Aside0.mk hcm
  clear hcm hx hy HCN
  rcases HOP.out with h | h | h <;> subst h <;> rcases Int.lt_trichotomy x y with hl | hl | hl
  all_goals
    clear o1 o2
    have b1 : (x == y) = decide (x = y) := by by_cases h : x = y <;> simp [h]
    first | rw [decide_eq_true (show x = y by omega)] at b1 | rw [decide_eq_false (show ¬ x = y by omega)] at b1
    first | have b2 : decide (x < y) = true := decide_eq_true (by omega) | have b2 : decide (x < y) = false := decide_eq_false (by omega)
    first | have b3 : decide (x ≤ y) = true := decide_eq_true (by omega) | have b3 : decide (x ≤ y) = false := decide_eq_false (by omega)
    have HL := Aside0.mk hl
    clear hl
    go_wp2
    go_ret2
    exact ⟨ret2_num (by rw [HC.out]; have := HL.out; simp; omega), HB6.out⟩
end Go.Proofs.YthfppmgnemmckaaGreatDoor.PDo
