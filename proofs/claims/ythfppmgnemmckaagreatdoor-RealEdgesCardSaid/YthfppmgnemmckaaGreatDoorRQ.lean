import Derived.Test.YthfppmgnemmckaaGreatDoorRP
namespace Go.Proofs.YthfppmgnemmckaaGreatDoor.PDo
open Go.RowKit Go.Proofs.YthfppmgnemmckaaGreatDoorW.PrintWords Go.Proofs.YthfppmgnemmckaaGreatDoorW.PrintLast Go.Proofs.YthfppmgnemmckaaGreatDoorW.PrintMore

/-! of -/
theorem snoc_last (a : List Int) (d : Int) : rd (a ++ [d]) (((a ++ [d]).length : Int) - 1) = d := by
  unfold rd
  rw [List.getD_eq_getElem?_getD, show (((a ++ [d]).length : Int) - 1).toNat = a.length from by simp, List.getElem?_append_right (by omega)]; simp
theorem of_loop : ∀ (d : Nat) (n : Nat) (out : List Int) (k : Nat), n < 2 ^ d → n < 2 ^ 63 → d < k → out.length + d ≤ 100000 → Dig out → (n = 0 → Canon out) →
    ∃ r, solderref02_of.l0 k (n : Int) out = some r ∧ Canon r ∧ val r = val out + 65536 ^ out.length * n ∧ r.length ≤ out.length + d := by
  intro d
  induction d with
  | zero =>
    intro n out k hn hn' hk hl hdo hc
    obtain ⟨k, rfl⟩ : ∃ m, k = m + 1 := ⟨k - 1, by omega⟩
    have : n = 0 := by omega
    subst this
    refine ⟨out, ?_, hc rfl, by simp, by omega⟩
    simp only [solderref02_of.l0]
    rw [if_neg (by omega)]
  | succ d ih =>
    intro n out k hn hn' hk hl hdo hc
    obtain ⟨k, rfl⟩ : ∃ m, k = m + 1 := ⟨k - 1, by omega⟩
    by_cases h0 : n = 0
    · subst h0
      refine ⟨out, ?_, hc rfl, by simp, by omega⟩
      simp only [solderref02_of.l0]
      rw [if_neg (by omega)]
    · have hdig : Dig (out ++ [((n % 65536 : Nat) : Int)]) := hdo.snoc (by omega) (by omega)
      have hlt : n / 65536 < 2 ^ d := by rw [Nat.pow_succ] at hn; omega
      obtain ⟨r, hr, c1, c2, c3⟩ := ih (n / 65536) (out ++ [((n % 65536 : Nat) : Int)]) k hlt (by omega) (by omega) (by simp; omega) hdig (fun h => ⟨hdig, fun _ => by rw [snoc_last]; omega⟩)
      refine ⟨r, ?_, c1, ?_, by simp at c3; omega⟩
      · simp only [solderref02_of.l0]
        rw [if_pos (by omega), if_pos (by omega)]
        have e1 : Int.tmod (n : Int) 65536 = ((n % 65536 : Nat) : Int) := by rw [show Int.tmod (n : Int) 65536 = (n : Int) % 65536 from tmod_nat (m := 65536) (by omega)]; omega
        have e2 : wrap64 (Int.tdiv (n : Int) 65536) = ((n / 65536 : Nat) : Int) := by
          rw [show Int.tdiv (n : Int) 65536 = (n : Int) / 65536 from tdiv_nat (m := 65536) (by omega), w64 (by omega) (by omega)]; omega
        rw [e1, e2]; exact hr
      · rw [c2, val_snoc, List.length_append, List.length_singleton, Nat.pow_succ, Nat.mul_assoc, Nat.add_assoc, ← Nat.mul_add]
        congr 2; omega
theorem of_is (n : Nat) (hn : n < 2 ^ 63) (k : Nat) (hk : 100 < k) : ∃ r, solderref02_of.f k (n : Int) = some r ∧ Canon r ∧ val r = n ∧ r.length ≤ 63 := by
  obtain ⟨r, hr, c1, c2, c3⟩ := of_loop 63 n [] k hn hn (by omega) (by simp) Dig.nil (fun _ => ⟨Dig.nil, fun h => absurd rfl h⟩)
  exact ⟨r, hr, c1, by rw [c2]; simp [val], by simpa using c3⟩

/-! compare -/
theorem cmp_loop (l m : List Int) (hd : Dig l) (he : Dig m) : ∀ (n : Nat) (k : Nat), n < 1000000 → n < k →
    (val (l.take n) < val (m.take n) → solderref02_compare.l0 k l m ((n : Int) - 1) = some (-1)) ∧
    (val (l.take n) = val (m.take n) → solderref02_compare.l0 k l m ((n : Int) - 1) = some 0) ∧
    (val (m.take n) < val (l.take n) → solderref02_compare.l0 k l m ((n : Int) - 1) = some 1) := by
  intro n
  induction n with
  | zero =>
    intro k hn hk
    obtain ⟨k, rfl⟩ : ∃ m, k = m + 1 := ⟨k - 1, by omega⟩
    refine ⟨fun h => ?_, fun _ => ?_, fun h => ?_⟩
    · simp [val] at h
    · simp only [solderref02_compare.l0]; rw [if_neg (by omega)]
    · simp [val] at h
  | succ n ih =>
    intro k hn hk
    obtain ⟨k, rfl⟩ : ∃ m, k = m + 1 := ⟨k - 1, by omega⟩
    obtain ⟨i1, i2, i3⟩ := ih k (by omega) (by omega)
    have hx := hd.at (n : Int)
    have hy := he.at (n : Int)
    have b1 := val_lt (hd.take n)
    have b2 := val_lt (he.take n)
    have p1 : 65536 ^ (l.take n).length ≤ 65536 ^ n := Nat.pow_le_pow_right (by omega) (by simp; omega)
    have p2 : 65536 ^ (m.take n).length ≤ 65536 ^ n := Nat.pow_le_pow_right (by omega) (by simp; omega)
    rw [val_take', val_take']
    have e0 : (((n + 1 : Nat) : Int) - 1) = (n : Int) := by omega
    have hl0 : solderref02_compare.l0 (k + 1) l m (((n + 1 : Nat) : Int) - 1) = if rd l (n : Int) < rd m (n : Int) then some (-1) else if rd l (n : Int) > rd m (n : Int) then some 1 else solderref02_compare.l0 k l m ((n : Int) - 1) := by
      simp only [solderref02_compare.l0]
      rw [e0, if_pos (by omega), digit_is l _ (by omega), digit_is m _ (by omega)]
      simp only [Option.bind_some]
      rw [w64 (x := (n : Int) - 1) (by omega) (by omega)]
    rw [hl0]
    clear hl0 e0
    generalize rd l (n : Int) = x at *
    generalize rd m (n : Int) = y at *
    generalize hP : 65536 ^ n = P at *
    have key : x < y → val (l.take n) + P * x.toNat < val (m.take n) + P * y.toNat := by
      intro h
      have : P * (x.toNat + 1) ≤ P * y.toNat := Nat.mul_le_mul_left _ (by omega)
      rw [Nat.mul_add] at this; omega
    have key' : y < x → val (m.take n) + P * y.toNat < val (l.take n) + P * x.toNat := by
      intro h
      have : P * (y.toNat + 1) ≤ P * x.toNat := Nat.mul_le_mul_left _ (by omega)
      rw [Nat.mul_add] at this; omega
    rcases Int.lt_trichotomy x y with h | h | h
    · have := key h
      rw [if_pos h]
      exact ⟨fun _ => rfl, fun h' => by omega, fun h' => by omega⟩
    · subst h
      rw [if_neg (by omega), if_neg (by omega)]
      exact ⟨fun h' => i1 (by omega), fun h' => i2 (by omega), fun h' => i3 (by omega)⟩
    · have := key' h
      rw [if_neg (by omega), if_pos h]
      exact ⟨fun h' => by omega, fun h' => by omega, fun _ => rfl⟩
def sgnOf (a b : Nat) : Int := if a < b then -1 else if a = b then 0 else 1
theorem compare_is (l m : List Int) (hl : l.length ≤ 100000) (hm : m.length ≤ 100000) (hd : Dig l) (he : Dig m) (k : Nat) (hk : max l.length m.length + 10 < k) :
    solderref02_compare.f k l m = some (sgnOf (val l) (val m)) := by
  obtain ⟨k, rfl⟩ : ∃ m, k = m + 1 := ⟨k - 1, by omega⟩
  have hj : solderref02_compare.f (k + 1) l m = solderref02_compare.l0 k l m (((max l.length m.length : Nat) : Int) - 1) := by
    unfold solderref02_compare.f
    by_cases h : m.length > l.length
    · rw [if_pos (by omega)]
      simp only [solderref02_compare.j0]
      rw [w64 (by omega) (by omega), Nat.max_eq_right (by omega)]
    · rw [if_neg (by omega)]
      simp only [solderref02_compare.j0]
      rw [w64 (by omega) (by omega), Nat.max_eq_left (by omega)]
  rw [hj]
  obtain ⟨i1, i2, i3⟩ := cmp_loop l m hd he (max l.length m.length) k (by omega) (by omega)
  rw [val_all l _ (by omega), val_all m _ (by omega)] at i1 i2 i3
  unfold sgnOf
  by_cases h1 : val l < val m
  · rw [if_pos h1]; exact i1 h1
  · rw [if_neg h1]
    by_cases h2 : val l = val m
    · rw [if_pos h2]; exact i2 h2
    · rw [if_neg h2]; exact i3 (by omega)

/-! size -/
theorem bits_half (x : Nat) (h : x ≠ 0) : RM.bits x = RM.bits (x / 2) + 1 := by
  unfold RM.bits
  rw [if_neg h]
  by_cases h1 : x / 2 = 0
  · rw [if_pos h1]
    have : x = 1 := by omega
    subst this; decide
  · rw [if_neg h1]
    congr 1
    rw [Nat.log2_def, if_pos (by omega)]
theorem size_loop : ∀ (d : Nat) (x : Nat) (n : Nat) (k : Nat), x < 2 ^ d → x < 2 ^ 62 → n < 2 ^ 61 - d → d < k → d < 100 → solderref02_size.l0 k (n : Int) (x : Int) = some ((n + RM.bits x : Nat) : Int) := by
  intro d
  induction d with
  | zero =>
    intro x n k hx hx' hn hk hdd
    obtain ⟨k, rfl⟩ : ∃ m, k = m + 1 := ⟨k - 1, by omega⟩
    have : x = 0 := by omega
    subst this
    simp only [solderref02_size.l0]
    rw [if_neg (by omega)]; simp [RM.bits]
  | succ d ih =>
    intro x n k hx hx' hn hk hdd
    obtain ⟨k, rfl⟩ : ∃ m, k = m + 1 := ⟨k - 1, by omega⟩
    by_cases h0 : x = 0
    · subst h0
      simp only [solderref02_size.l0]
      rw [if_neg (by omega)]; simp [RM.bits]
    · simp only [solderref02_size.l0]
      rw [if_pos (by omega), show Int.tdiv (x : Int) 2 = (x : Int) / 2 from tdiv_nat (m := 2) (by omega), w64 (x := (n : Int) + 1) (by omega) (by omega), w64 (x := (x : Int) / 2) (by omega) (by omega)]
      have := ih (x / 2) (n + 1) k (by rw [Nat.pow_succ] at hx; omega) (by omega) (by omega) (by omega) (by omega)
      rw [bits_half x h0, show (n + (RM.bits (x / 2) + 1) : Nat) = n + 1 + RM.bits (x / 2) from by omega, ← this]
      congr 1
theorem val_top {l : List Int} (_h : Canon l) (hne : l ≠ []) : 0 < l.length ∧ val l = val (l.take (l.length - 1)) + 65536 ^ (l.length - 1) * (rd l ((l.length : Int) - 1)).toNat := by
  have hl : 0 < l.length := List.length_pos_iff.2 hne
  refine ⟨hl, ?_⟩
  have := val_take' l (l.length - 1)
  rw [show l.length - 1 + 1 = l.length from by omega, List.take_length, show ((l.length - 1 : Nat) : Int) = (l.length : Int) - 1 from by omega] at this
  exact this
theorem bits_of {n b : Nat} (h1 : 2 ^ b ≤ n) (h2 : n < 2 ^ (b + 1)) : RM.bits n = b + 1 := by
  have hn : n ≠ 0 := by have := Nat.two_pow_pos b; omega
  unfold RM.bits
  rw [if_neg hn]
  congr 1
  exact (Nat.log2_eq_iff hn).2 ⟨h1, h2⟩
theorem size_is (l : List Int) (hl : l.length ≤ 100000) (hc : Canon l) (k : Nat) (hk : 30 < k) : solderref02_size.f k l = some ((RM.bits (val l) : Nat) : Int) := by
  unfold solderref02_size.f
  by_cases hne : l = []
  · subst hne; simp [RM.bits, val]
  · obtain ⟨h0, hv⟩ := val_top hc hne
    have hx := hc.1.at ((l.length : Int) - 1)
    have hz := hc.2 hne
    have hlow := val_lt (hc.1.take (l.length - 1))
    rw [List.length_take, Nat.min_eq_left (by omega)] at hlow
    rw [if_neg (by omega), w64 (x := (l.length : Int) - 1) (by omega) (by omega), if_pos (by omega), if_pos (by omega), w64 (by omega) (by omega)]
    generalize hT : rd l ((l.length : Int) - 1) = t at *
    generalize hm : l.length - 1 = m at *
    have e1 : (16 : Int) * ((l.length : Int) - 1) = ((16 * m : Nat) : Int) := by omega
    have e2 : t = ((t.toNat : Nat) : Int) := by omega
    rw [e1, e2, size_loop 17 t.toNat (16 * m) k (by omega) (by omega) (by omega) (by omega) (by omega)]
    congr 2
    -- the value's digits
    have hb := RM.bits_lt t.toNat
    have hb2 := RM.bits_le (n := t.toNat) (by omega)
    have hb3 := RM.bits_pos (n := t.toNat) (by omega)
    have pm : (65536 : Nat) ^ m = 2 ^ (16 * m) := by rw [show (65536 : Nat) = 2 ^ 16 from rfl, ← Nat.pow_mul]
    rw [hv, pm]
    rw [pm] at hlow
    generalize RM.bits t.toNat = b at *
    have : RM.bits (val (l.take m) + 2 ^ (16 * m) * t.toNat) = 16 * m + (b - 1) + 1 := by
      apply bits_of
      · rw [Nat.pow_add]
        have := Nat.mul_le_mul_left (2 ^ (16 * m)) hb2
        omega
      · rw [show 16 * m + (b - 1) + 1 = 16 * m + b from by omega, Nat.pow_add]
        have : 2 ^ (16 * m) * (t.toNat + 1) ≤ 2 ^ (16 * m) * 2 ^ b := Nat.mul_le_mul_left _ (by omega)
        rw [Nat.mul_add] at this; omega
    omega

/-! twice -/
theorem twice_l2 (low : List Int) (hlow : low.length ≤ 100000) : ∀ (d : Nat) (i : Nat) (out : List Int) (k : Nat), low.length - i ≤ d → i ≤ low.length → d < k → out.length + low.length ≤ 1000000 + i →
    solderref02_twice.l2 k out low (low.length : Int) (i : Int) = some (out ++ low.drop i) := by
  intro d
  induction d with
  | zero =>
    intro i out k hm hi hk ho
    obtain ⟨k, rfl⟩ : ∃ m, k = m + 1 := ⟨k - 1, by omega⟩
    simp only [solderref02_twice.l2]
    rw [if_neg (by omega), List.drop_eq_nil_of_le (by omega)]; simp
  | succ d ih =>
    intro i out k hm hi hk ho
    obtain ⟨k, rfl⟩ : ∃ m, k = m + 1 := ⟨k - 1, by omega⟩
    by_cases h : i < low.length
    · simp only [solderref02_twice.l2]
      rw [if_pos (by omega), if_pos (by omega), if_pos (by omega), if_pos (by omega), w64 (by omega) (by omega), show (i : Int) + 1 = ((i + 1 : Nat) : Int) from by omega]
      rw [ih (i + 1) _ k (by omega) (by omega) (by omega) (by simp; omega)]
      congr 1
      have : low.drop i = rd low (i : Int) :: low.drop (i + 1) := by
        rw [List.drop_eq_getElem_cons h]
        congr 1
        unfold rd
        rw [List.getD_eq_getElem?_getD, show ((i : Int)).toNat = i from rfl, List.getElem?_eq_getElem h]; rfl
      rw [this]; simp
    · simp only [solderref02_twice.l2]
      rw [if_neg (by omega), List.drop_eq_nil_of_le (by omega)]; simp
theorem twice_l1 (l : List Int) (hl : l.length ≤ 90000) (hd : Dig l) (n : Nat) (hn : n ≤ 100000) (out : List Int) (ho : out.length ≤ 100000) : ∀ (d : Nat) (i : Nat) (k : Nat), n % 16 - i ≤ d → i ≤ n % 16 → d + 3 * l.length + 30 < k →
    ∃ low, solderref02_twice.l1 k l (n : Int) out ((2 ^ i : Nat) : Int) (i : Int) = some (out ++ low) ∧ Canon low ∧ val low = 2 ^ (n % 16) * val l ∧ low.length ≤ l.length + 1 := by
  have etm : Int.tmod (n : Int) 16 = ((n % 16 : Nat) : Int) := by rw [show Int.tmod (n : Int) 16 = (n : Int) % 16 from tmod_nat (m := 16) (by omega)]; omega
  have bnd : ∀ i : Nat, i < 16 → 2 ^ i < 65536 := fun i hi => by
    have : (2 : Nat) ^ i ≤ 2 ^ 15 := Nat.pow_le_pow_right (by omega) (by omega)
    omega
  have finish : ∀ (k : Nat), 3 * l.length + 30 < k →
      ∃ low, solderref02_twice.l1 k l (n : Int) out ((2 ^ (n % 16) : Nat) : Int) ((n % 16 : Nat) : Int) = some (out ++ low) ∧ Canon low ∧ val low = 2 ^ (n % 16) * val l ∧ low.length ≤ l.length + 1 := by
    intro k hk
    obtain ⟨k, rfl⟩ : ∃ m, k = m + 1 := ⟨k - 1, by omega⟩
    have hb := bnd (n % 16) (by omega)
    have hb' : ((2 ^ (n % 16) : Nat) : Int) < 65536 := Int.ofNat_lt.2 hb
    obtain ⟨low, hr, c1, c2, c3⟩ := small_is l (by omega) hd ((2 ^ (n % 16) : Nat) : Int) (Int.natCast_nonneg _) hb' k (by omega)
    refine ⟨low, ?_, c1, by rw [c2]; rfl, c3⟩
    simp only [solderref02_twice.l1]
    rw [etm, if_neg (by omega), hr]
    simp only [Option.bind_some]
    have := twice_l2 low (by omega) low.length 0 out k (by omega) (by omega) (by omega) (by omega)
    rw [List.drop_zero] at this
    exact this
  intro d
  induction d with
  | zero =>
    intro i k hm hi hk
    obtain rfl : i = n % 16 := by omega
    exact finish k (by omega)
  | succ d ih =>
    intro i k hm hi hk
    by_cases he : i = n % 16
    · subst he; exact finish k (by omega)
    · obtain ⟨k, rfl⟩ : ∃ m, k = m + 1 := ⟨k - 1, by omega⟩
      obtain ⟨low, hr, c⟩ := ih (i + 1) k (by omega) (by omega) (by omega)
      refine ⟨low, ?_, c⟩
      have hb := bnd i (by omega)
      simp only [solderref02_twice.l1]
      have hp : ((2 ^ i : Nat) : Int) * 2 = ((2 ^ (i + 1) : Nat) : Int) := by rw [Nat.pow_succ, Int.natCast_mul]; rfl
      have hw : wrap64 (((2 ^ i : Nat) : Int) * 2) = ((2 ^ (i + 1) : Nat) : Int) := by
        rw [← hp]
        generalize 2 ^ i = P at hb ⊢
        exact w64 (by omega) (by omega)
      rw [etm, if_pos (by omega), hw, w64 (by omega) (by omega), show (i : Int) + 1 = ((i + 1 : Nat) : Int) from by omega]
      exact hr
theorem val_zeros (n : Nat) : val (List.replicate n 0) = 0 := by
  induction n with
  | zero => rfl
  | succ n ih => rw [List.replicate_succ]; simp [val, ih]
theorem Dig.zeros (n : Nat) : Dig (List.replicate n 0) := fun d hd => by
  have := (List.mem_replicate.1 hd).2
  omega
theorem twice_l0 (l : List Int) (n : Nat) (hn : n ≤ 100000) : ∀ (d : Nat) (i : Nat) (k : Nat), n / 16 - i ≤ d → i ≤ n / 16 →
    solderref02_twice.l0 (k + d + 1) l (n : Int) (List.replicate i 0) (i : Int) = solderref02_twice.l1 (k + d - (n / 16 - i)) l (n : Int) (List.replicate (n / 16) 0) 1 0 := by
  have etd : wrap64 (Int.tdiv (n : Int) 16) = ((n / 16 : Nat) : Int) := by rw [show Int.tdiv (n : Int) 16 = (n : Int) / 16 from tdiv_nat (m := 16) (by omega), w64 (by omega) (by omega)]; omega
  intro d
  induction d with
  | zero =>
    intro i k hm hi
    obtain rfl : i = n / 16 := by omega
    simp only [solderref02_twice.l0]
    rw [etd, if_neg (by omega)]
    congr 1
    omega
  | succ d ih =>
    intro i k hm hi
    by_cases he : i = n / 16
    · subst he
      have e1 : k + (d + 1) = k + d + 1 := by omega
      have e2 : k + d + 1 - (n / 16 - n / 16) = k + d + 1 := by omega
      rw [e1, e2]
      generalize k + d + 1 = K
      simp only [solderref02_twice.l0]
      rw [etd, if_neg (by omega)]
    · have h := ih (i + 1) k (by omega) (by omega)
      have e1 : k + (d + 1) = k + d + 1 := by omega
      have e2 : k + d + 1 - (n / 16 - i) = k + d - (n / 16 - (i + 1)) := by omega
      rw [e1, e2, ← h]
      generalize k + d + 1 = K
      simp only [solderref02_twice.l0]
      rw [etd, if_pos (by omega), if_pos (by simp; omega), w64 (by omega) (by omega), show (i : Int) + 1 = ((i + 1 : Nat) : Int) from by omega]
      have : (List.replicate i (0 : Int)) ++ [0] = List.replicate (i + 1) 0 := by rw [List.replicate_succ']
      rw [this]
theorem twice_is (l : List Int) (hl : l.length ≤ 50000) (hd : Dig l) (n : Nat) (hn : n ≤ 50000) (k : Nat) (hk : 3 * l.length + n + 100 < k) :
    ∃ r, solderref02_twice.f k l (n : Int) = some r ∧ Dig r ∧ val r = 2 ^ n * val l ∧ r.length ≤ l.length + n / 16 + 1 := by
  unfold solderref02_twice.f
  by_cases h0 : l.length = 0
  · have : l = [] := List.length_eq_zero_iff.1 h0
    subst this
    rw [if_pos (by simp)]
    exact ⟨[], rfl, Dig.nil, by simp [val], by simp⟩
  · rw [if_neg (by omega)]
    obtain ⟨j, rfl⟩ : ∃ j, k = j + n / 16 + 1 := ⟨k - n / 16 - 1, by omega⟩
    have h := twice_l0 l n (by omega) (n / 16) 0 j (by omega) (by omega)
    simp only [List.replicate_zero] at h
    obtain ⟨low, hr, c1, c2, c3⟩ := twice_l1 l (by omega) hd n (by omega) (List.replicate (n / 16) 0) (by simp; omega) 16 0 j (by omega) (by omega) (by omega)
    refine ⟨List.replicate (n / 16) 0 ++ low, ?_, (Dig.zeros _).append c1.1, ?_, by simp; omega⟩
    · rw [show (0 : Int) = ((0 : Nat) : Int) from rfl, h]
      rw [show j + n / 16 - (n / 16 - 0) = j from by omega]
      exact hr
    · rw [val_append, val_zeros, c2, List.length_replicate, Nat.zero_add, ← Nat.mul_assoc]
      congr 1
      rw [show (65536 : Nat) = 2 ^ 16 from rfl, ← Nat.pow_mul, ← Nat.pow_add]
      congr 1
      omega

/-! times -/
theorem val_drop (m : List Int) (n : Nat) (h : n < m.length) : val (m.drop n) = (rd m (n : Int)).toNat + 65536 * val (m.drop (n + 1)) := by
  have : m.drop n = rd m (n : Int) :: m.drop (n + 1) := by
    rw [List.drop_eq_getElem_cons h]
    congr 1
    unfold rd
    rw [List.getD_eq_getElem?_getD, show ((n : Int)).toNat = n from rfl, List.getElem?_eq_getElem h]; rfl
  rw [this]; rfl
theorem times_loop (l m : List Int) (hl : l.length ≤ 1000) (hm : m.length ≤ 1000) (hd : Dig l) (he : Dig m) : ∀ (n : Nat) (out : List Int) (k : Nat), n ≤ m.length → n + 100000 < k → Canon out → out.length + 4 * n ≤ 20000 → val out = val l * val (m.drop n) →
    ∃ r, solderref02_times.l0 k l m out ((n : Int) - 1) = some r ∧ Canon r ∧ val r = val l * val m ∧ r.length ≤ 20000 := by
  intro n
  induction n with
  | zero =>
    intro out k hn hk hc ho hv
    obtain ⟨k, rfl⟩ : ∃ m, k = m + 1 := ⟨k - 1, by omega⟩
    refine ⟨out, ?_, hc, by rw [hv, List.drop_zero], by omega⟩
    simp only [solderref02_times.l0]
    rw [if_neg (by omega)]
  | succ n ih =>
    intro out k hn hk hc ho hv
    obtain ⟨k, rfl⟩ : ∃ m, k = m + 1 := ⟨k - 1, by omega⟩
    have hx := he.at (n : Int)
    obtain ⟨t, ht, t1, t2, t3⟩ := twice_is out (by omega) hc.1 16 (by omega) k (by omega)
    obtain ⟨s, hs, s1, s2, s3⟩ := small_is l (by omega) hd (rd m (n : Int)) hx.1 hx.2 k (by omega)
    obtain ⟨p, hp, p1, p2, p3⟩ := plus_is t s (by omega) (by omega) t1 s1.1 k (by omega)
    have hv' : val p = val l * val (m.drop n) := by
      rw [p2, t2, s2, hv, val_drop m n (by omega), Nat.mul_add, Nat.mul_comm (rd m (n : Int)).toNat, Nat.mul_left_comm, Nat.add_comm]
    by_cases hbig : p.length + 4 * n ≤ 20000
    · obtain ⟨r, hr, c⟩ := ih p k (by omega) (by omega) p1 hbig hv'
      refine ⟨r, ?_, c⟩
      simp only [solderref02_times.l0]
      have e0 : (((n + 1 : Nat) : Int) - 1) = (n : Int) := by omega
      rw [e0, if_pos (by omega)]
      rw [show ((16 : Nat) : Int) = (16 : Int) from rfl] at ht
      rw [ht]
      simp only [Option.bind_some]
      rw [if_pos (by omega), if_pos (by omega), hs]
      simp only [Option.bind_some]
      rw [hp]
      simp only [Option.bind_some]
      rw [w64 (by omega) (by omega)]
      exact hr
    · omega
theorem times_is (l m : List Int) (hl : l.length ≤ 1000) (hm : m.length ≤ 1000) (hd : Dig l) (he : Dig m) (k : Nat) (hk : 200000 < k) :
    ∃ r, solderref02_times.f k l m = some r ∧ Canon r ∧ val r = val l * val m ∧ r.length ≤ 20000 := by
  unfold solderref02_times.f
  rw [w64 (by omega) (by omega)]
  exact times_loop l m hl hm hd he m.length [] k (Nat.le_refl _) (by omega) ⟨Dig.nil, fun h => absurd rfl h⟩ (by simp; omega) (by simp [val])

/-! divide -/
theorem divide_loop (B : Nat) (hB : 0 < B) : ∀ (j P : Nat) (a dd : List Int) (q : Nat) (k : Nat), P = 2 ^ j → P ≤ 72057594037927936 → a.length ≤ 30000 → dd.length ≤ 30000 → Dig a → Dig dd → val dd = B * P → val a < 2 * (B * P) → q + 2 * P ≤ 144115188075855872 → j + 200000 < k →
    ∃ r, solderref02_divide.l0 k a (q : Int) (P : Int) dd = some (((q + val a / B : Nat) : Int), r) ∧ Dig r ∧ val r = val a % B ∧ r.length ≤ a.length := by
  intro j
  induction j with
  | zero =>
    intro P a dd q k hP hP2 ha hdd hda hddd hvd hva hq hk
    obtain ⟨k, rfl⟩ : ∃ m, k = m + 2 := ⟨k - 2, by omega⟩
    obtain rfl : P = 1 := hP
    rw [Nat.mul_one] at hvd hva
    have hcmp := compare_is a dd (by omega) (by omega) hda hddd (k + 1) (by omega)
    obtain ⟨h, hh, _⟩ := half_is dd (by omega) hddd (k + 1) (by omega)
    have e2 : wrap64 (Int.tdiv ((1 : Nat) : Int) 2) = 0 := by rw [show Int.tdiv ((1 : Nat) : Int) 2 = 0 from rfl]; exact w64 (by omega) (by omega)
    have last : ∀ (a' : List Int) (q' : Int), solderref02_divide.l0 (k + 1) a' q' 0 h = some (q', a') := by
      intro a' q'
      simp only [solderref02_divide.l0]
      rw [if_neg (by omega)]
    have open1 : solderref02_divide.l0 (k + 1 + 1) a (q : Int) ((1 : Nat) : Int) dd = (if sgnOf (val a) (val dd) ≥ 0 then (solderref02_minus.f (k + 1) a dd).bind fun t => some (wrap64 ((q : Int) + ((1 : Nat) : Int)), t) else some ((q : Int), a)) := by
      rw [solderref02_divide.l0]
      rw [if_pos (by omega), hcmp]
      simp only [Option.bind_some]
      rw [hh]
      simp only [Option.bind_some]
      rw [e2]
      simp only [last]
    rw [open1]
    by_cases hlt : val a < val dd
    · rw [show sgnOf (val a) (val dd) = -1 from by unfold sgnOf; rw [if_pos hlt], if_neg (by omega)]
      refine ⟨a, ?_, hda, ?_, Nat.le_refl _⟩
      · rw [Nat.div_eq_of_lt (by omega)]; rfl
      · rw [Nat.mod_eq_of_lt (by omega)]
    · obtain ⟨r, hr, c1, c2, c3⟩ := minus_is a dd (by omega) hda hddd (by omega) (k + 1) (by omega)
      rw [if_pos (by unfold sgnOf; rw [if_neg hlt]; split <;> omega), hr]
      simp only [Option.bind_some]
      rw [w64 (by omega) (by omega)]
      refine ⟨r, ?_, c1.1, ?_, c3⟩
      · have : val a / B = 1 := by
          rw [Nat.div_eq_iff hB]; omega
        rw [this]; rfl
      · rw [c2, hvd, Nat.mod_eq_sub_mod (by omega), Nat.mod_eq_of_lt (by omega)]
  | succ j ih =>
    intro P a dd q k hP hP2 ha hdd hda hddd hvd hva hq hk
    obtain ⟨k, rfl⟩ : ∃ m, k = m + 1 := ⟨k - 1, by omega⟩
    obtain ⟨Q, hQ⟩ : ∃ Q, Q = 2 ^ j := ⟨_, rfl⟩
    have hPQ : P = 2 * Q := by rw [hP, hQ, Nat.pow_succ, Nat.mul_comm]
    have hQ0 : 0 < Q := by rw [hQ]; exact Nat.two_pow_pos j
    clear hP
    subst hPQ
    have hcmp := compare_is a dd (by omega) (by omega) hda hddd k (by omega)
    obtain ⟨h, hh, h1, h2, h3⟩ := half_is dd (by omega) hddd k (by omega)
    have hBQ : B * (2 * Q) = 2 * (B * Q) := Nat.mul_left_comm _ _ _
    rw [hBQ] at hvd hva
    have hvh : val h = B * Q := by omega
    have open1 : solderref02_divide.l0 (k + 1) a (q : Int) ((2 * Q : Nat) : Int) dd = (if sgnOf (val a) (val dd) ≥ 0 then (solderref02_minus.f k a dd).bind fun t => solderref02_divide.l0 k t (wrap64 ((q : Int) + ((2 * Q : Nat) : Int))) (Q : Int) h else solderref02_divide.l0 k a (q : Int) (Q : Int) h) := by
      have e2 : wrap64 (Int.tdiv ((2 * Q : Nat) : Int) 2) = (Q : Int) := by
        rw [show Int.tdiv ((2 * Q : Nat) : Int) 2 = ((2 * Q : Nat) : Int) / 2 from tdiv_nat (m := 2) (Int.natCast_nonneg _), w64 (by omega) (by omega)]; omega
      have e3 : ((2 * Q : Nat) : Int) > 0 := by clear e2; omega
      rw [solderref02_divide.l0]
      rw [if_pos e3, hcmp]
      simp only [Option.bind_some]
      rw [hh]
      simp only [Option.bind_some]
      rw [e2]
    rw [open1]
    clear open1
    by_cases hlt : val a < val dd
    · rw [show sgnOf (val a) (val dd) = -1 from by unfold sgnOf; rw [if_pos hlt], if_neg (by omega)]
      exact ih Q a h q k hQ (by omega) ha (by omega) hda h1.1 hvh (by omega) (by omega) (by omega)
    · obtain ⟨r, hr, c1, c2, c3⟩ := minus_is a dd (by omega) hda hddd (by omega) k (by omega)
      rw [if_pos (by unfold sgnOf; rw [if_neg hlt]; split <;> omega), hr]
      simp only [Option.bind_some]
      rw [w64 (by omega) (by omega), show (q : Int) + ((2 * Q : Nat) : Int) = ((q + 2 * Q : Nat) : Int) from by omega]
      obtain ⟨s, hs, s1, s2, s3⟩ := ih Q r h (q + 2 * Q) k hQ (by omega) (by omega) (by omega) c1.1 h1.1 hvh (by omega) (by omega) (by omega)
      refine ⟨s, ?_, s1, ?_, by omega⟩
      · rw [hs, c2, hvd]
        have e : val a / B = (val a - 2 * (B * Q)) / B + 2 * Q := by
          rw [← Nat.add_mul_div_right _ _ hB]
          congr 1
          rw [Nat.mul_comm (2 * Q) B, hBQ]; omega
        rw [e]
        congr 3
        omega
      · rw [s2, c2, hvd, ← hBQ]
        conv => rhs; rw [show val a = (val a - B * (2 * Q)) + B * (2 * Q) from by omega]
        rw [Nat.add_mul_mod_self_left]
theorem divide_is (l m : List Int) (hl : l.length ≤ 20000) (hm : m.length ≤ 20000) (hd : Dig l) (he : Dig m) (h0 : 0 < val m) (hq : val l < val m * 144115188075855872) (k : Nat) (hk : 300000 < k) :
    ∃ r, solderref02_divide.f k l m = some (((val l / val m : Nat) : Int), r) ∧ Dig r ∧ val r = val l % val m ∧ r.length ≤ l.length := by
  unfold solderref02_divide.f
  obtain ⟨t, ht, t1, t2, t3⟩ := twice_is m (by omega) he 56 (by omega) k (by omega)
  rw [show ((56 : Nat) : Int) = (56 : Int) from rfl] at ht
  rw [ht]
  simp only [Option.bind_some]
  have e : (2 : Nat) ^ 56 = 72057594037927936 := by decide
  rw [e] at t2
  have := divide_loop (val m) h0 56 72057594037927936 l t 0 k e.symm (Nat.le_refl _) (by omega) (by omega) hd t1 (by rw [t2, Nat.mul_comm]) (by omega) (by omega) (by omega)
  rw [Nat.zero_add] at this
  exact this
end Go.Proofs.YthfppmgnemmckaaGreatDoor.PDo
