import Derived.Test.YthfppmgnemmckaaGreatDoorRC
import Derived.Test.YthfppmgnemmckaaGreatDoorRM
namespace Go.Proofs.YthfppmgnemmckaaGreatDoor.PDo
open Go.RowKit Go.Proofs.YthfppmgnemmckaaGreatDoorW.PrintWords Go.Proofs.YthfppmgnemmckaaGreatDoorW.PrintLast Go.Proofs.YthfppmgnemmckaaGreatDoorW.PrintMore

/-! Lists of digits to the base 65536, the lowest first. -/
def val : List Int → Nat
  | [] => 0
  | d :: l => d.toNat + 65536 * val l
def Dig (l : List Int) : Prop := ∀ d, d ∈ l → 0 ≤ d ∧ d < 65536
/-- the last digit is not 0 -/
def Canon (l : List Int) : Prop := Dig l ∧ (l ≠ [] → rd l ((l.length : Int) - 1) ≠ 0)

theorem w64 {x : Int} (h0 : -9223372036854775808 ≤ x) (h1 : x < 9223372036854775808) : wrap64 x = x := by unfold wrap64; omega
theorem val_append (a b : List Int) : val (a ++ b) = val a + 65536 ^ a.length * val b := by
  induction a with
  | nil => simp [val]
  | cons d a ih => simp only [List.cons_append, val, ih, List.length_cons, Nat.pow_succ]; rw [Nat.mul_add, Nat.mul_comm (65536 ^ a.length) 65536, Nat.mul_assoc]; omega
theorem val_snoc (a : List Int) (d : Int) : val (a ++ [d]) = val a + 65536 ^ a.length * d.toNat := by
  rw [val_append]; simp [val]
theorem Dig.append {a b : List Int} (h : Dig a) (k : Dig b) : Dig (a ++ b) := fun d hd => by
  rcases List.mem_append.1 hd with hd | hd
  · exact h d hd
  · exact k d hd
theorem Dig.one {d : Int} (h0 : 0 ≤ d) (h1 : d < 65536) : Dig [d] := fun x hx => by
  have : x = d := by simpa using hx
  omega
theorem Dig.snoc {a : List Int} {d : Int} (h : Dig a) (h0 : 0 ≤ d) (h1 : d < 65536) : Dig (a ++ [d]) := h.append (Dig.one h0 h1)
theorem Dig.nil : Dig [] := fun _ h => by cases h
theorem Dig.take {a : List Int} (h : Dig a) (n : Nat) : Dig (a.take n) := fun d hd => h d (List.mem_of_mem_take hd)
theorem Dig.at {a : List Int} (h : Dig a) (i : Int) : 0 ≤ rd a i ∧ rd a i < 65536 := by
  unfold rd
  by_cases hi : i.toNat < a.length
  · rw [List.getD_eq_getElem?_getD, List.getElem?_eq_getElem hi]; exact h _ (List.getElem_mem hi)
  · rw [List.getD_eq_getElem?_getD, List.getElem?_eq_none (by omega)]; simp
theorem val_lt {a : List Int} (h : Dig a) : val a < 65536 ^ a.length := by
  induction a with
  | nil => simp [val]
  | cons d a ih =>
    have h1 := h d (by simp)
    have h2 := ih (fun x hx => h x (by simp [hx]))
    simp only [val, List.length_cons, Nat.pow_succ]
    have : d.toNat < 65536 := by omega
    have := Nat.mul_le_mul_left 65536 h2
    omega
theorem take_snoc (l : List Int) (n : Nat) (h : n < l.length) : l.take (n + 1) = l.take n ++ [rd l n] := by
  rw [List.take_succ_eq_append_getElem h]
  congr 2
  unfold rd
  rw [List.getD_eq_getElem?_getD, show ((n : Int)).toNat = n from rfl, List.getElem?_eq_getElem h]; rfl
theorem val_take (l : List Int) (n : Nat) (h : n < l.length) : val (l.take (n + 1)) = val (l.take n) + 65536 ^ n * (rd l n).toNat := by
  rw [take_snoc l n h, val_snoc, List.length_take, Nat.min_eq_left (by omega)]
theorem rd_out (l : List Int) (i : Int) (h : l.length ≤ i.toNat) : rd l i = 0 := by
  unfold rd; rw [List.getD_eq_getElem?_getD, List.getElem?_eq_none h]; rfl
/-- with noughts behind its end -/
theorem val_take' (l : List Int) (n : Nat) : val (l.take (n + 1)) = val (l.take n) + 65536 ^ n * (rd l n).toNat := by
  by_cases h : n < l.length
  · exact val_take l n h
  · rw [List.take_of_length_le (by omega), List.take_of_length_le (by omega), rd_out l n (by simpa using h)]; simp
theorem val_all (l : List Int) (n : Nat) (h : l.length ≤ n) : val (l.take n) = val l := by rw [List.take_of_length_le h]
theorem tmod_nat {x : Int} {m : Nat} (h : 0 ≤ x) : Int.tmod x m = x % m := Int.tmod_eq_emod_of_nonneg h
theorem tdiv_nat {x : Int} {m : Nat} (h : 0 ≤ x) : Int.tdiv x m = x / m := Int.tdiv_eq_ediv_of_nonneg h

/-! trim -/
theorem trim_loop (l : List Int) (hl : l.length ≤ 1000000) (hd : Dig l) : ∀ n : Nat, n ≤ l.length → val (l.take n) = val l → ∀ k, n < k →
    ∃ r, solderref02_trim.l0 k l (n : Int) = some r ∧ Canon r ∧ val r = val l ∧ r.length ≤ l.length := by
  intro n
  induction n with
  | zero =>
    intro h0 hv k hk
    obtain ⟨k, rfl⟩ : ∃ m, k = m + 1 := ⟨k - 1, by omega⟩
    refine ⟨[], ?_, ⟨Dig.nil, fun h => absurd rfl h⟩, by simpa using hv, by simp⟩
    simp only [solderref02_trim.l0]
    rw [if_neg (by omega), if_pos (by omega), if_pos (by omega)]; simp
  | succ n ih =>
    intro h0 hv k hk
    obtain ⟨k, rfl⟩ : ∃ m, k = m + 1 := ⟨k - 1, by omega⟩
    have e1 : wrap64 (((n + 1 : Nat) : Int) - 1) = (n : Int) := by rw [w64 (by omega) (by omega)]; omega
    have hrd := hd.at (n : Int)
    have ht := val_take l n (by omega)
    by_cases hz : rd l (n : Int) = 0
    · obtain ⟨r, hr, h⟩ := ih (by omega) (by rw [← hv, ht, hz]; simp) k (by omega)
      refine ⟨r, ?_, h⟩
      simp only [solderref02_trim.l0]
      rw [if_pos (by omega), e1, if_pos (by omega), if_pos (by omega), if_pos hz]; exact hr
    · refine ⟨l.take (n + 1), ?_, ⟨hd.take _, fun _ => ?_⟩, hv, by simp; omega⟩
      · simp only [solderref02_trim.l0]
        rw [if_pos (by omega), e1, if_pos (by omega), if_pos (by omega), if_neg hz, if_pos (by omega), if_pos (by omega)]; rfl
      · have : ((l.take (n + 1)).length : Int) - 1 = (n : Int) := by rw [List.length_take, Nat.min_eq_left (by omega)]; omega
        rw [this]
        unfold rd
        rw [List.getD_eq_getElem?_getD, show ((n : Int)).toNat = n from rfl, List.getElem?_take_of_lt (by omega)]
        unfold rd at hz
        rw [List.getD_eq_getElem?_getD] at hz; exact hz
theorem trim_is (l : List Int) (hl : l.length ≤ 1000000) (hd : Dig l) (k : Nat) (hk : l.length < k) :
    ∃ r, solderref02_trim.f k l = some r ∧ Canon r ∧ val r = val l ∧ r.length ≤ l.length :=
  trim_loop l hl hd l.length (Nat.le_refl _) (by rw [List.take_length]) k hk

theorem digit_is (l : List Int) (i : Int) (h : 0 ≤ i) : solderref02_digit.f l i = some (rd l i) := by
  unfold solderref02_digit.f
  by_cases hi : i < (l.length : Int)
  · rw [if_pos hi, if_pos h]
  · rw [if_neg hi, rd_out l i (by omega)]

/-! small -/
theorem small_loop (l : List Int) (hl : l.length ≤ 100000) (hd : Dig l) (c : Int) (hc0 : 0 ≤ c) (hc1 : c < 65536) : ∀ (d : Nat) (out : List Int) (carry : Int) (k : Nat),
    l.length + 1 - out.length ≤ d → out.length ≤ l.length + 1 → (l.length < out.length → carry = 0) → d + l.length + 5 < k → Dig out → 0 ≤ carry → carry < 65536 →
    val out + 65536 ^ out.length * carry.toNat = c.toNat * val (l.take out.length) →
    ∃ r, solderref02_small.l0 k l c out carry (out.length : Int) = some r ∧ Canon r ∧ val r = c.toNat * val l ∧ r.length ≤ l.length + 1 := by
  intro d
  induction d with
  | zero =>
    intro out carry k hm ho hc hk hdo h0 h1 hv
    obtain ⟨k, rfl⟩ : ∃ m, k = m + 1 := ⟨k - 1, by omega⟩
    have hcz : ¬ carry > 0 := by have := hc (by omega); omega
    have hle : l.length ≤ out.length := by omega
    obtain ⟨r, hr, c1, c2, c3⟩ := trim_is out (by omega) hdo k (by omega)
    refine ⟨r, ?_, c1, ?_, by omega⟩
    · simp only [solderref02_small.l0]
      rw [if_neg (by omega), if_neg hcz, hr]; rfl
    · rw [c2, ← val_all l out.length hle, ← hv]
      have : carry.toNat = 0 := by omega
      rw [this]; simp
  | succ d ih =>
    intro out carry k hm ho hc hk hdo h0 h1 hv
    obtain ⟨k, rfl⟩ : ∃ m, k = m + 1 := ⟨k - 1, by omega⟩
    by_cases hend : ¬ (out.length < l.length) ∧ ¬ carry > 0
    · exact (by
        obtain ⟨r, hr, c1, c2, c3⟩ := trim_is out (by omega) hdo k (by omega)
        refine ⟨r, ?_, c1, ?_, by omega⟩
        · simp only [solderref02_small.l0]
          rw [if_neg (by omega), if_neg hend.2, hr]; rfl
        · rw [c2, ← val_all l out.length (by omega), ← hv]
          have : carry.toNat = 0 := by omega
          rw [this]; simp)
    · -- one digit more
      have hx := hd.at (out.length : Int)
      have hxo : ¬ (out.length < l.length) → rd l (out.length : Int) = 0 := fun h => rd_out l _ (by simpa using h)
      generalize hxd : rd l (out.length : Int) = x at *
      have hmul : 0 ≤ x * c ∧ x * c ≤ 65535 * 65535 := ⟨Int.mul_nonneg hx.1 hc0, Int.mul_le_mul (by omega) (by omega) hc0 (by omega)⟩
      have e1 : wrap64 (wrap64 (x * c) + carry) = x * c + carry := by rw [w64 (x := x * c) (by omega) (by omega), w64 (by omega) (by omega)]
      have e2 : Int.tmod (x * c + carry) 65536 = (x * c + carry) % 65536 := tmod_nat (m := 65536) (by omega)
      have e3 : wrap64 (Int.tdiv (x * c + carry) 65536) = (x * c + carry) / 65536 := by
        rw [show Int.tdiv (x * c + carry) 65536 = (x * c + carry) / 65536 from tdiv_nat (m := 65536) (by omega)]
        exact w64 (by omega) (by omega)
      have e4 : wrap64 ((out.length : Int) + 1) = ((out ++ [(x * c + carry) % 65536]).length : Int) := by
        rw [w64 (by omega) (by omega)]; simp
      have hstep : solderref02_small.l0 (k + 1) l c out carry (out.length : Int) = solderref02_small.l0 k l c (out ++ [(x * c + carry) % 65536]) ((x * c + carry) / 65536) ((out ++ [(x * c + carry) % 65536]).length : Int) := by
        simp only [solderref02_small.l0]
        rw [digit_is l _ (by omega), hxd]
        simp only [Option.bind_some]
        rw [e1, e2, e3, e4, if_pos (show out.length < 17592186044416 from by omega)]
        by_cases h : out.length < l.length
        · rw [if_pos (by omega)]
        · rw [if_neg (by omega), if_pos (by omega)]
      rw [hstep]
      have hval : val (out ++ [(x * c + carry) % 65536]) + 65536 ^ (out ++ [(x * c + carry) % 65536]).length * ((x * c + carry) / 65536).toNat = c.toNat * val (l.take (out ++ [(x * c + carry) % 65536]).length) := by
        rw [val_snoc, List.length_append, List.length_singleton, val_take', hxd, Nat.mul_add, ← hv, Nat.pow_succ]
        have hxc : (x * c).toNat = x.toNat * c.toNat := Int.toNat_mul hx.1 hc0
        have hs : ((x * c + carry) % 65536).toNat + 65536 * ((x * c + carry) / 65536).toNat = x.toNat * c.toNat + carry.toNat := by omega
        have : c.toNat * (65536 ^ out.length * x.toNat) = 65536 ^ out.length * (x.toNat * c.toNat) := by rw [Nat.mul_left_comm, Nat.mul_comm c.toNat]
        rw [this, Nat.mul_assoc, Nat.add_assoc, ← Nat.mul_add, hs, Nat.mul_add]; omega
      refine ih _ _ k ?_ ?_ ?_ (by omega) (hdo.snoc (by omega) (by omega)) (by omega) ?_ hval
      · simp only [List.length_append, List.length_singleton]; omega
      · simp only [List.length_append, List.length_singleton]
        by_cases h : out.length < l.length
        · omega
        · have : carry > 0 := by omega
          have : ¬ l.length < out.length := fun h' => by have := hc h'; omega
          omega
      · intro h
        simp only [List.length_append, List.length_singleton] at h
        have hx0 := hxo (by omega)
        have : x * c = 0 := by rw [hx0]; simp
        omega
      · omega
theorem small_is (l : List Int) (hl : l.length ≤ 100000) (hd : Dig l) (c : Int) (hc0 : 0 ≤ c) (hc1 : c < 65536) (k : Nat) (hk : 2 * l.length + 10 < k) :
    ∃ r, solderref02_small.f k l c = some r ∧ Canon r ∧ val r = c.toNat * val l ∧ r.length ≤ l.length + 1 := by
  exact small_loop l hl hd c hc0 hc1 (l.length + 1) [] 0 k (by simp) (by simp) (by simp) (by omega) Dig.nil (by omega) (by omega) (by simp [val])

/-! plus -/
theorem plus_loop (l m : List Int) (hl : l.length ≤ 100000) (hm' : m.length ≤ 100000) (hd : Dig l) (he : Dig m) : ∀ (d : Nat) (out : List Int) (carry : Int) (k : Nat),
    max l.length m.length + 1 - out.length ≤ d → out.length ≤ max l.length m.length + 1 → (max l.length m.length < out.length → carry = 0) → 2 * d + max l.length m.length + 5 < k → Dig out → 0 ≤ carry → carry < 65536 →
    val out + 65536 ^ out.length * carry.toNat = val (l.take out.length) + val (m.take out.length) →
    ∃ r, solderref02_plus.l0 k l m out carry (out.length : Int) = some r ∧ Canon r ∧ val r = val l + val m ∧ r.length ≤ max l.length m.length + 1 := by
  have finish : ∀ (out : List Int) (carry : Int) (k : Nat), max l.length m.length ≤ out.length → out.length ≤ max l.length m.length + 1 → ¬ carry > 0 → 0 ≤ carry → max l.length m.length + 4 < k → Dig out →
      val out + 65536 ^ out.length * carry.toNat = val (l.take out.length) + val (m.take out.length) →
      ∃ r, solderref02_plus.l0 k l m out carry (out.length : Int) = some r ∧ Canon r ∧ val r = val l + val m ∧ r.length ≤ max l.length m.length + 1 := by
    intro out carry k hle ho hcz h0 hk hdo hv
    obtain ⟨k, rfl⟩ : ∃ m, k = m + 2 := ⟨k - 2, by omega⟩
    obtain ⟨r, hr, c1, c2, c3⟩ := trim_is out (by omega) hdo k (by omega)
    refine ⟨r, ?_, c1, ?_, by omega⟩
    · simp only [solderref02_plus.l0]
      rw [if_neg (by omega), if_neg (by omega)]
      simp only [solderref02_plus.j1]
      rw [if_neg (by simpa using hcz), hr]; rfl
    · rw [c2, ← val_all l out.length (by omega), ← val_all m out.length (by omega), ← hv]
      have : carry.toNat = 0 := by omega
      rw [this]; simp
  intro d
  induction d with
  | zero =>
    intro out carry k hm ho hc hk hdo h0 h1 hv
    exact finish out carry k (by omega) ho (by have := hc (by omega); omega) h0 (by omega) hdo hv
  | succ d ih =>
    intro out carry k hm ho hc hk hdo h0 h1 hv
    by_cases hend : max l.length m.length ≤ out.length ∧ ¬ carry > 0
    · exact finish out carry k hend.1 ho hend.2 h0 (by omega) hdo hv
    · obtain ⟨k, rfl⟩ : ∃ m, k = m + 2 := ⟨k - 2, by omega⟩
      have hx := hd.at (out.length : Int)
      have hy := he.at (out.length : Int)
      have hxo : ¬ (out.length < l.length) → rd l (out.length : Int) = 0 := fun h => rd_out l _ (by simpa using h)
      have hyo : ¬ (out.length < m.length) → rd m (out.length : Int) = 0 := fun h => rd_out m _ (by simpa using h)
      generalize hxd : rd l (out.length : Int) = x at *
      generalize hyd : rd m (out.length : Int) = y at *
      have e1 : wrap64 (wrap64 (x + y) + carry) = x + y + carry := by rw [w64 (x := x + y) (by omega) (by omega), w64 (by omega) (by omega)]
      have e2 : Int.tmod (x + y + carry) 65536 = (x + y + carry) % 65536 := tmod_nat (m := 65536) (by omega)
      have e3 : wrap64 (Int.tdiv (x + y + carry) 65536) = (x + y + carry) / 65536 := by
        rw [show Int.tdiv (x + y + carry) 65536 = (x + y + carry) / 65536 from tdiv_nat (m := 65536) (by omega)]
        exact w64 (by omega) (by omega)
      have e4 : wrap64 ((out.length : Int) + 1) = ((out ++ [(x + y + carry) % 65536]).length : Int) := by
        rw [w64 (by omega) (by omega)]; simp
      have hj : solderref02_plus.j1 (k + 1) l m out carry (out.length : Int) true = solderref02_plus.l0 k l m (out ++ [(x + y + carry) % 65536]) ((x + y + carry) / 65536) ((out ++ [(x + y + carry) % 65536]).length : Int) := by
        simp only [solderref02_plus.j1]
        rw [digit_is l _ (by omega), hxd, digit_is m _ (by omega), hyd]
        simp only [Option.bind_some, if_true]
        rw [e1, e2, e3, e4, if_pos (show out.length < 17592186044416 from by omega)]
      have hstep : solderref02_plus.l0 (k + 2) l m out carry (out.length : Int) = solderref02_plus.l0 k l m (out ++ [(x + y + carry) % 65536]) ((x + y + carry) / 65536) ((out ++ [(x + y + carry) % 65536]).length : Int) := by
        rw [← hj]
        simp only [solderref02_plus.l0]
        by_cases h : out.length < l.length
        · rw [if_pos (by omega)]
        · rw [if_neg (by omega)]
          by_cases h' : out.length < m.length
          · rw [if_pos (by omega)]
          · rw [if_neg (by omega), decide_eq_true (show carry > 0 from by omega)]
      rw [hstep]
      have hval : val (out ++ [(x + y + carry) % 65536]) + 65536 ^ (out ++ [(x + y + carry) % 65536]).length * ((x + y + carry) / 65536).toNat = val (l.take (out ++ [(x + y + carry) % 65536]).length) + val (m.take (out ++ [(x + y + carry) % 65536]).length) := by
        rw [val_snoc, List.length_append, List.length_singleton, val_take', val_take', hxd, hyd, Nat.pow_succ]
        have hs : ((x + y + carry) % 65536).toNat + 65536 * ((x + y + carry) / 65536).toNat = x.toNat + y.toNat + carry.toNat := by omega
        rw [Nat.mul_assoc, Nat.add_assoc, ← Nat.mul_add, hs, Nat.mul_add, Nat.mul_add]; omega
      refine ih _ _ k ?_ ?_ ?_ (by omega) (hdo.snoc (by omega) (by omega)) (by omega) ?_ hval
      · simp only [List.length_append, List.length_singleton]; omega
      · simp only [List.length_append, List.length_singleton]
        by_cases h : max l.length m.length < out.length
        · have := hc h; omega
        · omega
      · intro h
        simp only [List.length_append, List.length_singleton] at h
        have hx0 := hxo (by omega)
        have hy0 := hyo (by omega)
        omega
      · omega
theorem plus_is (l m : List Int) (hl : l.length ≤ 100000) (hm : m.length ≤ 100000) (hd : Dig l) (he : Dig m) (k : Nat) (hk : 3 * max l.length m.length + 10 < k) :
    ∃ r, solderref02_plus.f k l m = some r ∧ Canon r ∧ val r = val l + val m ∧ r.length ≤ max l.length m.length + 1 := by
  exact plus_loop l m hl hm hd he (max l.length m.length + 1) [] 0 k (by simp) (by simp) (by simp) (by omega) Dig.nil (by omega) (by omega) (by simp [val])

/-! minus -/
theorem minus_loop (l m : List Int) (hl : l.length ≤ 100000) (hd : Dig l) (he : Dig m) (hge : val m ≤ val l) (hml : ∀ i : Nat, l.length ≤ i → rd m i = 0) : ∀ (d : Nat) (out : List Int) (b : Int) (k : Nat),
    l.length - out.length ≤ d → out.length ≤ l.length → d + l.length + 5 < k → Dig out → (b = 0 ∨ b = 1) →
    val out + val (m.take out.length) = val (l.take out.length) + 65536 ^ out.length * b.toNat →
    ∃ r, solderref02_minus.l0 k l m out b (l.length : Int) (out.length : Int) = some r ∧ Canon r ∧ val r = val l - val m ∧ r.length ≤ l.length := by
  have mt : ∀ n : Nat, l.length ≤ n → val (m.take n) = val m := by
    have step : ∀ n : Nat, l.length ≤ n → val (m.take (n + 1)) = val (m.take n) := by
      intro n hn; rw [val_take', hml n hn]; simp
    intro n hn
    have more : ∀ j : Nat, val (m.take (n + j)) = val (m.take n) := by
      intro j
      induction j with
      | zero => rfl
      | succ j ih => rw [← Nat.add_assoc, step _ (by omega), ih]
    have := more m.length
    rw [val_all m (n + m.length) (by omega)] at this
    exact this.symm
  have finish : ∀ (out : List Int) (b : Int) (k : Nat), out.length = l.length → (b = 0 ∨ b = 1) → l.length + 4 < k → Dig out →
      val out + val (m.take out.length) = val (l.take out.length) + 65536 ^ out.length * b.toNat →
      ∃ r, solderref02_minus.l0 k l m out b (l.length : Int) (out.length : Int) = some r ∧ Canon r ∧ val r = val l - val m ∧ r.length ≤ l.length := by
    intro out b k ho hb hk hdo hv
    obtain ⟨k, rfl⟩ : ∃ m, k = m + 1 := ⟨k - 1, by omega⟩
    obtain ⟨r, hr, c1, c2, c3⟩ := trim_is out (by omega) hdo k (by omega)
    refine ⟨r, ?_, c1, ?_, by omega⟩
    · simp only [solderref02_minus.l0]
      rw [if_neg (by omega), hr]; rfl
    · rw [c2]
      rw [mt _ (by omega), val_all l _ (by omega)] at hv
      have hb0 : b.toNat = 0 := by
        have hvo := val_lt hdo
        rcases hb with h | h
        · rw [h]; rfl
        · exfalso
          rw [h, show (1 : Int).toNat = 1 from rfl, Nat.mul_one] at hv; omega
      rw [hb0] at hv; omega
  intro d
  induction d with
  | zero =>
    intro out b k hm ho hk hdo hb hv
    exact finish out b k (by omega) hb (by omega) hdo hv
  | succ d ih =>
    intro out b k hm ho hk hdo hb hv
    by_cases hend : out.length = l.length
    · exact finish out b k hend hb (by omega) hdo hv
    · obtain ⟨k, rfl⟩ : ∃ m, k = m + 1 := ⟨k - 1, by omega⟩
      have hx := hd.at (out.length : Int)
      have hy := he.at (out.length : Int)
      have t1 := val_take' l out.length
      have t2 := val_take' m out.length
      have hdx := digit_is m (out.length : Int) (by omega)
      generalize hxd : rd l (out.length : Int) = x at *
      generalize hyd : rd m (out.length : Int) = y at *
      have e1 : wrap64 (wrap64 (x - y) - b) = x - y - b := by rw [w64 (x := x - y) (by omega) (by omega), w64 (by omega) (by omega)]
      have e4 : ∀ z : Int, wrap64 ((out.length : Int) + 1) = ((out ++ [z]).length : Int) := by
        intro z; rw [w64 (by omega) (by omega)]; simp
      by_cases hneg : x - y - b < 0
      · have e5 : wrap64 (x - y - b + 65536) = x - y - b + 65536 := w64 (by omega) (by omega)
        have hstep : solderref02_minus.l0 (k + 1) l m out b (l.length : Int) (out.length : Int) = solderref02_minus.l0 k l m (out ++ [x - y - b + 65536]) 1 (l.length : Int) ((out ++ [x - y - b + 65536]).length : Int) := by
          simp only [solderref02_minus.l0]
          rw [if_pos (by omega), if_pos (by omega), if_pos (by omega), hdx]
          simp only [Option.bind_some]
          rw [hxd, e1, if_pos hneg, if_pos (by omega), e5, ← e4]
        rw [hstep]
        refine ih _ _ k (by simp; omega) (by simp; omega) (by omega) (hdo.snoc (by omega) (by omega)) (.inr rfl) ?_
        rw [val_snoc, List.length_append, List.length_singleton, t1, t2, Nat.pow_succ]
        have hs : (x - y - b + 65536).toNat + y.toNat + b.toNat = x.toNat + 65536 := by omega
        have := congrArg (65536 ^ out.length * ·) hs
        simp only [Nat.mul_add] at this
        rw [show (1 : Int).toNat = 1 from rfl, Nat.mul_one]; omega
      · have hstep : solderref02_minus.l0 (k + 1) l m out b (l.length : Int) (out.length : Int) = solderref02_minus.l0 k l m (out ++ [x - y - b]) 0 (l.length : Int) ((out ++ [x - y - b]).length : Int) := by
          simp only [solderref02_minus.l0]
          rw [if_pos (by omega), if_pos (by omega), if_pos (by omega), hdx]
          simp only [Option.bind_some]
          rw [hxd, e1, if_neg hneg, if_pos (by omega), ← e4]
        rw [hstep]
        refine ih _ _ k (by simp; omega) (by simp; omega) (by omega) (hdo.snoc (by omega) (by omega)) (.inl rfl) ?_
        rw [val_snoc, List.length_append, List.length_singleton, t1, t2]
        have hs : (x - y - b).toNat + y.toNat + b.toNat = x.toNat := by omega
        have := congrArg (65536 ^ out.length * ·) hs
        simp only [Nat.mul_add] at this
        rw [show (0 : Int).toNat = 0 from rfl, Nat.mul_zero]; omega
/-- the digits of what is not greater end where the greater one's do -/
theorem rd_small {l m : List Int} (he : Dig m) (hd : Dig l) (h : val m ≤ val l) (i : Nat) (hi : l.length ≤ i) : rd m i = 0 := by
  have h1 := val_lt hd
  have hy := he.at (i : Int)
  have t := val_take' m i
  have le : val (m.take (i + 1)) ≤ val m := by
    have : val m = val (m.take (i + 1)) + 65536 ^ (m.take (i + 1)).length * val (m.drop (i + 1)) := by rw [← val_append, List.take_append_drop]
    omega
  have p : 65536 ^ l.length ≤ 65536 ^ i := Nat.pow_le_pow_right (by omega) hi
  by_cases hz : rd m (i : Int) = 0
  · exact hz
  · exfalso
    have : 1 ≤ (rd m (i : Int)).toNat := by omega
    have := Nat.mul_le_mul_left (65536 ^ i) this
    omega
theorem minus_is (l m : List Int) (hl : l.length ≤ 100000) (hd : Dig l) (he : Dig m) (h : val m ≤ val l) (k : Nat) (hk : 3 * l.length + 10 < k) :
    ∃ r, solderref02_minus.f k l m = some r ∧ Canon r ∧ val r = val l - val m ∧ r.length ≤ l.length :=
  minus_loop l m hl hd he h (rd_small he hd h) l.length [] 0 k (by simp) (by simp) (by omega) Dig.nil (.inl rfl) (by simp [val])

/-! half -/
theorem half_loop (l : List Int) (hl : l.length ≤ 100000) (hd : Dig l) : ∀ (d : Nat) (out : List Int) (k : Nat),
    l.length - out.length ≤ d → out.length ≤ l.length → d + l.length + 5 < k → Dig out →
    2 * val out + (rd l 0).toNat % 2 = val (l.take out.length) + 65536 ^ out.length * ((rd l out.length).toNat % 2) →
    ∃ r, solderref02_half.l0 k l out (l.length : Int) (out.length : Int) = some r ∧ Canon r ∧ val r = val l / 2 ∧ r.length ≤ l.length := by
  have odd : val l % 2 = (rd l 0).toNat % 2 := by
    cases l with
    | nil => simp [val, rd]
    | cons a l => simp only [val, rd]; simp; omega
  have finish : ∀ (out : List Int) (k : Nat), out.length = l.length → l.length + 4 < k → Dig out →
      2 * val out + (rd l 0).toNat % 2 = val (l.take out.length) + 65536 ^ out.length * ((rd l out.length).toNat % 2) →
      ∃ r, solderref02_half.l0 k l out (l.length : Int) (out.length : Int) = some r ∧ Canon r ∧ val r = val l / 2 ∧ r.length ≤ l.length := by
    intro out k ho hk hdo hv
    obtain ⟨k, rfl⟩ : ∃ m, k = m + 1 := ⟨k - 1, by omega⟩
    obtain ⟨r, hr, c1, c2, c3⟩ := trim_is out (by omega) hdo k (by omega)
    refine ⟨r, ?_, c1, ?_, by omega⟩
    · simp only [solderref02_half.l0]
      rw [if_neg (by omega), hr]; rfl
    · rw [c2]
      rw [val_all l _ (by omega), rd_out l (out.length : Int) (by simp; omega), show ((0 : Int)).toNat % 2 = 0 from rfl, Nat.mul_zero, Nat.add_zero] at hv
      clear odd
      omega
  intro d
  induction d with
  | zero =>
    intro out k hm ho hk hdo hv
    exact finish out k (by omega) (by omega) hdo hv
  | succ d ih =>
    intro out k hm ho hk hdo hv
    by_cases hend : out.length = l.length
    · exact finish out k hend (by omega) hdo hv
    · obtain ⟨k, rfl⟩ : ∃ m, k = m + 1 := ⟨k - 1, by omega⟩
      have hx := hd.at (out.length : Int)
      have hy := hd.at ((out.length + 1 : Nat) : Int)
      have t1 := val_take' l out.length
      have hdy := digit_is l ((out.length + 1 : Nat) : Int) (Int.natCast_nonneg _)
      have e4 : ∀ z : Int, wrap64 ((out.length : Int) + 1) = ((out ++ [z]).length : Int) := by
        intro z; rw [w64 (by omega) (by omega)]; simp
      have e0 : wrap64 ((out.length : Int) + 1) = ((out.length + 1 : Nat) : Int) := by rw [w64 (by omega) (by omega)]; omega
      generalize hxd : rd l (out.length : Int) = x at *
      generalize hyd : rd l ((out.length + 1 : Nat) : Int) = y at *
      have e1 : wrap64 (Int.tdiv x 2) = x / 2 := by rw [show Int.tdiv x 2 = x / 2 from tdiv_nat (m := 2) hx.1]; exact w64 (by omega) (by omega)
      have e2 : Int.tmod y 2 = y % 2 := tmod_nat (m := 2) hy.1
      have e3 : wrap64 (y % 2 * 32768) = y % 2 * 32768 := w64 (by omega) (by omega)
      have e5 : wrap64 (x / 2 + y % 2 * 32768) = x / 2 + y % 2 * 32768 := w64 (by omega) (by omega)
      have hstep : solderref02_half.l0 (k + 1) l out (l.length : Int) (out.length : Int) = solderref02_half.l0 k l (out ++ [x / 2 + y % 2 * 32768]) (l.length : Int) ((out ++ [x / 2 + y % 2 * 32768]).length : Int) := by
        simp only [solderref02_half.l0]
        rw [if_pos (by omega), if_pos (by omega), if_pos (by omega), e0, hdy]
        simp only [Option.bind_some]
        rw [hxd, e1, e2, e3, e5, if_pos (by omega), ← e0, e4]
      rw [hstep]
      refine ih _ k (by simp; omega) (by simp; omega) (by omega) (hdo.snoc (by omega) (by omega)) ?_
      rw [val_snoc, List.length_append, List.length_singleton, t1, hyd, Nat.pow_succ, Nat.mul_add]
      have hs : 2 * (x / 2 + y % 2 * 32768).toNat + x.toNat % 2 = x.toNat + 65536 * (y.toNat % 2) := by omega
      have := congrArg (65536 ^ out.length * ·) hs
      simp only [Nat.mul_add] at this
      rw [Nat.mul_assoc]
      have c : 2 * (65536 ^ out.length * (x / 2 + y % 2 * 32768).toNat) = 65536 ^ out.length * (2 * (x / 2 + y % 2 * 32768).toNat) := by rw [Nat.mul_left_comm]
      omega
theorem half_is (l : List Int) (hl : l.length ≤ 100000) (hd : Dig l) (k : Nat) (hk : 3 * l.length + 10 < k) :
    ∃ r, solderref02_half.f k l = some r ∧ Canon r ∧ val r = val l / 2 ∧ r.length ≤ l.length :=
  half_loop l hl hd l.length [] k (by simp) (by simp) (by omega) Dig.nil (by simp [val])
end Go.Proofs.YthfppmgnemmckaaGreatDoor.PDo
