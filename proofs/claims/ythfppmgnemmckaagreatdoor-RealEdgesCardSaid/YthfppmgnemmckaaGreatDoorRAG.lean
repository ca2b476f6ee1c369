import Derived.Test.YthfppmgnemmckaaGreatDoorRAE
open Go.Proofs.YthfppmgnemmckaaGreatDoor.RM
namespace Go.Proofs.YthfppmgnemmckaaGreatDoor.PDo
open Go.RowKit
abbrev NANV : Nat := 9221120237041090560
abbrev NEG0 : Nat := 9223372036854775808
abbrev ONE : Nat := 4607182418800017408
theorem nan_is : 2047 * 2 ^ 52 < NANV % 2 ^ 63 := by decide
theorem e_nan (a : Nat) : doRes (Ieee.double.add a NANV) = NANV ∧ doRes (Ieee.double.add NANV a) = NANV ∧ doRes (Ieee.double.sub a NANV) = NANV ∧ doRes (Ieee.double.sub NANV a) = NANV ∧
    doRes (Ieee.double.mul a NANV) = NANV ∧ doRes (Ieee.double.mul NANV a) = NANV ∧ doRes (Ieee.double.div a NANV) = NANV ∧ doRes (Ieee.double.div NANV a) = NANV := by
  rw [add_nan (.inr nan_is), add_nan (.inl nan_is), sub_nan (.inr nan_is), sub_nan (.inl nan_is), mul_nan (.inr nan_is), mul_nan (.inl nan_is), div_nan (.inr nan_is), div_nan (.inl nan_is)]
  decide
theorem e_cmp (a : Nat) : cmpB 51 NANV a = false ∧ cmpB 51 a NANV = false ∧ cmpB 52 a NANV = false ∧ cmpB 53 NANV a = false := by
  have h1 := order_nan (a := NANV) (b := a) (.inl nan_is)
  have h2 := order_nan (a := a) (b := NANV) (.inr nan_is)
  unfold cmpB
  rw [h1, h2]
  simp
theorem e_self_nan (a : Nat) (h : 2047 * 2 ^ 52 < a % 2 ^ 63) : cmpB 51 a a = false ∧ cmpB 52 a a = false := by
  have h1 := order_nan (a := a) (b := a) (.inl h)
  unfold cmpB
  rw [h1]
  simp
theorem e_self (a : Nat) (h : ¬ 2047 * 2 ^ 52 < a % 2 ^ 63) : cmpB 51 a a = true ∧ cmpB 52 a a = false := by
  have h1 := order_ord (a := a) (b := a) h h
  have h2 : compare (ord a) (ord a) = .eq := by simp
  rw [h2] at h1
  unfold cmpB
  rw [h1]
  simp
theorem e_nans (a : Nat) (h : 2047 * 2 ^ 52 < a % 2 ^ 63) : doRes (Ieee.double.sub a a) = NANV ∧ doRes (Ieee.double.add a NEG0) = NANV ∧ doRes (Ieee.double.mul a ONE) = NANV ∧ doRes (Ieee.double.add a 0) = NANV := by
  rw [sub_nan (.inl h), add_nan (.inl h), add_nan (.inl h), mul_nan (.inl h)]
  decide
theorem sum_zero (a b : Nat) (ha : a < 2 ^ 64) (h : a % 2 ^ 63 < 2047 * 2 ^ 52) (h0 : mag a ≠ 0) (hb : b = 0 ∨ b = NEG0) : Ieee.double.add a b = some a := by
  have fb : b % 2 ^ 63 < 2047 * 2 ^ 52 := by rcases hb with rfl | rfl <;> decide
  have mb : mag b = 0 := by rcases hb with rfl | rfl <;> decide
  have pb : plc b = -1074 := by rcases hb with rfl | rfl <;> decide
  rw [add_fin h fb (fun h => h0 h.1)]
  have hp : -1074 ≤ plc a := by unfold plc; split <;> omega
  unfold refSum
  simp only [mb, pb, Int.min_eq_right hp, Nat.zero_mul, Nat.add_zero, Nat.sub_zero]
  obtain ⟨k, hk⟩ : ∃ k : Nat, plc a = -1074 + k := ⟨(plc a + 1074).toNat, by omega⟩
  have e1 : (plc a - -1074).toNat = k := by omega
  have r := rung_back h k
  rw [show plc a - (k : Int) = -1074 by omega] at r
  rw [e1, r]
  have hx : 0 < mag a * 2 ^ k := Nat.mul_pos (by omega) (Nat.two_pow_pos k)
  congr 1
  split
  · exact wordOf_sgn ha
  · rw [if_neg (by omega)]
    exact wordOf_sgn ha
theorem e_neg0 (a : Nat) (ha : a < 2 ^ 64) (h : ¬ 2047 * 2 ^ 52 < a % 2 ^ 63) : doRes (Ieee.double.add a NEG0) = a := by
  by_cases hi : a % 2 ^ 63 = 2047 * 2 ^ 52
  · rw [add_inf_fin ha hi (by decide)]; rfl
  have hf : a % 2 ^ 63 < 2047 * 2 ^ 52 := by omega
  by_cases hz : mag a = 0
  · rw [add_zeros ha hz (by decide)]
    have h1 := mag_zero.1 hz
    have h2 : a = 0 ∨ a = NEG0 := by unfold NEG0; omega
    rcases h2 with rfl | rfl <;> decide
  · rw [sum_zero a NEG0 ha hf hz (.inr rfl)]; rfl
theorem e_pos0 (a : Nat) (ha : a < 2 ^ 64) (h : ¬ 2047 * 2 ^ 52 < a % 2 ^ 63) : doRes (Ieee.double.add a 0) = if a = NEG0 then 0 else a := by
  by_cases hi : a % 2 ^ 63 = 2047 * 2 ^ 52
  · rw [add_inf_fin ha hi (by decide), if_neg (by unfold NEG0; omega)]; rfl
  have hf : a % 2 ^ 63 < 2047 * 2 ^ 52 := by omega
  by_cases hz : mag a = 0
  · rw [add_zeros ha hz (by decide)]
    have h1 := mag_zero.1 hz
    have h2 : a = 0 ∨ a = NEG0 := by unfold NEG0; omega
    rcases h2 with rfl | rfl <;> decide
  · rw [sum_zero a 0 ha hf hz (.inl rfl), if_neg]
    · rfl
    · rintro rfl; exact hz (by decide)
theorem e_one (a : Nat) (ha : a < 2 ^ 64) (h : ¬ 2047 * 2 ^ 52 < a % 2 ^ 63) : doRes (Ieee.double.mul a ONE) = a := by
  have s1 : sgn ONE = false := by decide
  by_cases hi : a % 2 ^ 63 = 2047 * 2 ^ 52
  · rw [mul_inf_fin hi (by decide), if_neg (by decide), s1, Bool.xor_false, wordOf_inf ha hi]; rfl
  have hf : a % 2 ^ 63 < 2047 * 2 ^ 52 := by omega
  have m1 : mag ONE = 2 ^ 52 := by decide
  have p1 : plc ONE = -52 := by decide
  have r := rung_back hf 52
  rw [mul_fin hf (by decide), s1, Bool.xor_false, m1, p1]
  rw [show plc a + -52 = plc a - ((52 : Nat) : Int) by omega, r, wordOf_sgn ha]
  rfl
theorem e_sub_inf (a : Nat) (ha : a < 2 ^ 64) (h : a % 2 ^ 63 = 2047 * 2 ^ 52) : doRes (Ieee.double.sub a a) = NANV := by
  rw [sub_flip ha (by omega), add_inf_inf ha h (by rw [flip_low ha]; exact h), flip_sgn ha]
  cases sgn a <;> rfl
theorem e_sub_fin (a : Nat) (ha : a < 2 ^ 64) (h : a % 2 ^ 63 < 2047 * 2 ^ 52) : doRes (Ieee.double.sub a a) = 0 := by
  have hff : flip a % 2 ^ 63 < 2047 * 2 ^ 52 := by rw [flip_low ha]; exact h
  have hs := flip_sgn ha
  rw [sub_flip ha (by omega)]
  by_cases hz : mag a = 0
  · rw [add_zeros ha hz (by rw [flip_mag ha]; exact hz), hs]
    cases sgn a <;> rfl
  · rw [add_fin h hff (fun h => hz h.1)]
    unfold refSum
    rw [hs, flip_mag ha, flip_plc ha]
    cases sgn a <;> simp [doRes]
end Go.Proofs.YthfppmgnemmckaaGreatDoor.PDo
