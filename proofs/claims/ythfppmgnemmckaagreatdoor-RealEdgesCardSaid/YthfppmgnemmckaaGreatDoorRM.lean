import Ieee.Arith
namespace Go.Proofs.YthfppmgnemmckaaGreatDoor.RM

/-- n / d to the nearest whole number, between two the even one. -/
def rne (n d : Nat) : Nat := n / d + (if d < 2 * (n % d) ∨ (2 * (n % d) = d ∧ n / d % 2 = 1) then 1 else 0)

theorem rne_small (n d : Nat) (h : 2 * n < d) : rne n d = 0 := by
  unfold rne
  have h1 : n / d = 0 := Nat.div_eq_of_lt (by omega)
  have h2 : n % d = n := Nat.mod_eq_of_lt (by omega)
  rw [h1, h2, if_neg (by omega)]

theorem lt_log2 (n : Nat) : n < 2 ^ (n.log2 + 1) := Nat.lt_log2_self

theorem cut_even (neg : Bool) (n drop : Nat) : Ieee.Toward.even.cut neg n drop = rne n (2 ^ drop) := by
  unfold Ieee.Toward.cut
  simp only [Nat.shiftLeft_eq, Nat.one_mul]
  have key : ∀ g, n / g + (decide (g < 2 * (n % g)) || ((g == 2 * (n % g)) && (n / g % 2 == 1))).toNat = rne n g := by
    intro g
    unfold rne
    congr 1
    by_cases h1 : g < 2 * (n % g)
    · simp [h1]
    · by_cases h2 : g = 2 * (n % g)
      · by_cases h3 : n / g % 2 = 1
        · simp [h3, ← h2]
        · have h4 : ¬ (n / g % 2 = 1) := h3
          simp only [h4, and_false, or_false, if_neg h1]
          have : (n / g % 2 == 1) = false := by simpa using h3
          simp [this, h1]
      · have h2' : (g == 2 * (n % g)) = false := by simpa using h2
        have h2'' : ¬ 2 * (n % g) = g := fun h => h2 h.symm
        simp [h1, h2', h2'']
  rw [key]
  by_cases hd : drop ≤ n.log2 + 2
  · rw [Nat.min_eq_left hd]
  · rw [Nat.min_eq_right (by omega)]
    have hl := lt_log2 n
    have e1 : (2:Nat) ^ (n.log2 + 2) = 2 * 2 ^ (n.log2 + 1) := by rw [Nat.pow_succ 2 (n.log2+1)]; omega
    have e2 : (2:Nat) ^ (n.log2 + 2) ≤ 2 ^ drop := Nat.pow_le_pow_right (by omega) (by omega)
    rw [rne_small _ _ (by omega), rne_small _ _ (by omega)]


/-- numerator and denominator of A/B * 2^(e-L). -/
def up (A : Nat) (e L : Int) : Nat := A * 2 ^ (e - L).toNat
def dn (B : Nat) (e L : Int) : Nat := B * 2 ^ (L - e).toNat

def IsLast (A B : Nat) (e L : Int) : Prop :=
  -1074 ≤ L ∧ up A e L / dn B e L < 2 ^ 53 ∧ (L = -1074 ∨ 2 ^ 52 ≤ up A e L / dn B e L)

theorem dn_pos {B : Nat} (hB : 0 < B) (e L : Int) : 0 < dn B e L := Nat.mul_pos hB (Nat.two_pow_pos _)

/-- Going one place down at least doubles the quotient. -/
theorem step (A B : Nat) (hB : 0 < B) (e L : Int) : 2 * (up A e L / dn B e L) ≤ up A e (L - 1) / dn B e (L - 1) := by
  have hp := dn_pos hB e (L - 1)
  have hq := dn_pos hB e L
  rw [Nat.le_div_iff_mul_le hp]
  have h := Nat.div_mul_le_self (up A e L) (dn B e L)
  unfold up dn at *
  by_cases hL : L ≤ e
  · have e1 : (e - (L - 1)).toNat = (e - L).toNat + 1 := by omega
    have e2 : (L - 1 - e).toNat = 0 := by omega
    have e3 : (L - e).toNat = 0 := by omega
    rw [e1, e2]; rw [e3] at h ⊢
    rw [Nat.pow_succ]
    generalize (A * 2 ^ (e - L).toNat / (B * 2 ^ 0)) = x at *
    simp only [Nat.pow_zero, Nat.mul_one] at *
    have : A * (2 ^ (e - L).toNat * 2) = 2 * (A * 2 ^ (e - L).toNat) := by rw [← Nat.mul_assoc, Nat.mul_comm]
    rw [this, Nat.mul_assoc]; omega
  · have e1 : (e - (L - 1)).toNat = 0 := by omega
    have e0 : (e - L).toNat = 0 := by omega
    have e2 : (L - e).toNat = (L - 1 - e).toNat + 1 := by omega
    rw [e1]; rw [e0, e2] at h ⊢
    rw [Nat.pow_succ] at *
    generalize (A * 2 ^ 0 / (B * (2 ^ (L - 1 - e).toNat * 2))) = x at *
    have : x * (B * (2 ^ (L - 1 - e).toNat * 2)) = 2 * x * (B * 2 ^ (L - 1 - e).toNat) := by
      rw [← Nat.mul_assoc B, ← Nat.mul_assoc x, Nat.mul_comm _ 2, ← Nat.mul_assoc 2]
    omega

theorem down (A B : Nat) (hB : 0 < B) (e L : Int) (n : Nat) : up A e L / dn B e L ≤ up A e (L - n) / dn B e (L - n) := by
  induction n with
  | zero => simp
  | succ n ih =>
    have := step A B hB e (L - n)
    have e1 : L - (n + 1 : Nat) = L - n - 1 := by omega
    rw [e1]; omega

theorem last_unique (A B : Nat) (hB : 0 < B) (e L M : Int) (h1 : IsLast A B e L) (h2 : IsLast A B e M) : L = M := by
  have key : ∀ L M : Int, IsLast A B e L → IsLast A B e M → ¬ L < M := by
    intro L M h1 h2 hlt
    obtain ⟨a1, b1, c1⟩ := h1
    obtain ⟨a2, b2, c2⟩ := h2
    have c2' : 2 ^ 52 ≤ up A e M / dn B e M := by rcases c2 with c | c; omega; exact c
    have s := step A B hB e M
    have d := down A B hB e (M - 1) (M - 1 - L).toNat
    have : M - 1 - ((M - 1 - L).toNat : Int) = L := by omega
    rw [this] at d
    omega
  rcases Int.lt_trichotomy L M with h | h | h
  · exact (key L M h1 h2 h).elim
  · exact h
  · exact (key M L h2 h1 h).elim

/-- the rung of A/B * 2^e whose last place is L -/
def rungAt (A B : Nat) (e L : Int) : Nat := min ((L + 1074).toNat * 2 ^ 52 + rne (up A e L) (dn B e L)) (2047 * 2 ^ 52)

theorem nearest_word (neg : Bool) (mag : Nat) (place L : Int) (h0 : mag ≠ 0) (h : IsLast mag 1 place L) :
    Ieee.double.nearest neg mag place = (if neg then 2 ^ 63 else 0) + rungAt mag 1 place L := by
  unfold Ieee.Format.nearest
  rw [if_neg h0]
  have elp : Ieee.double.leastPlace = -1074 := by decide
  have efb : (Ieee.double.fractionBits : Int) = 52 := rfl
  have einf : Ieee.double.infRung = 2047 * 2 ^ 52 := by decide
  have ebin : Ieee.double.binade = 2 ^ 52 := rfl
  have esw : Ieee.double.signWeight = 2 ^ 63 := by decide
  simp only [elp, efb, einf, ebin]
  have hlast : IsLast mag 1 place (max (place + mag.log2 - 52) (-1074)) := by
    have l1 : 2 ^ mag.log2 ≤ mag := Nat.log2_self_le h0
    have l2 : mag < 2 ^ (mag.log2 + 1) := Nat.lt_log2_self
    generalize hM : max (place + (mag.log2 : Int) - 52) (-1074) = M
    have hM1 : -1074 ≤ M := by omega
    have hM2 : place + mag.log2 - 52 ≤ M := by omega
    have hlt : up mag place M / dn 1 place M < 2 ^ 53 := by
      rw [Nat.div_lt_iff_lt_mul (dn_pos (by omega) _ _)]
      unfold up dn
      rw [Nat.one_mul, ← Nat.pow_add]
      calc mag * 2 ^ (place - M).toNat < 2 ^ (mag.log2 + 1) * 2 ^ (place - M).toNat := Nat.mul_lt_mul_of_pos_right l2 (Nat.two_pow_pos _)
        _ = 2 ^ (mag.log2 + 1 + (place - M).toNat) := by rw [← Nat.pow_add]
        _ ≤ 2 ^ (53 + (M - place).toNat) := Nat.pow_le_pow_right (by omega) (by omega)
    refine ⟨hM1, hlt, ?_⟩
    by_cases hM3 : M = -1074
    · exact .inl hM3
    · right
      have hM4 : M = place + mag.log2 - 52 := by omega
      rw [Nat.le_div_iff_mul_le (dn_pos (by omega) _ _)]
      unfold up dn
      rw [Nat.one_mul, ← Nat.pow_add]
      calc 2 ^ (52 + (M - place).toNat) ≤ 2 ^ (mag.log2 + (place - M).toNat) := Nat.pow_le_pow_right (by omega) (by omega)
        _ = 2 ^ mag.log2 * 2 ^ (place - M).toNat := by rw [← Nat.pow_add]
        _ ≤ mag * 2 ^ (place - M).toNat := Nat.mul_le_mul_right _ l1
  have := last_unique mag 1 (by omega) place _ _ hlast h
  rw [this, cut_even]
  unfold Ieee.Format.word
  rw [esw]
  have : min ((L - -1074).toNat * 2 ^ 52 + rne (mag <<< (place - L).toNat) (2 ^ (L - place).toNat)) (2047 * 2 ^ 52) = rungAt mag 1 place L := by
    unfold rungAt up dn
    rw [Nat.one_mul, Nat.shiftLeft_eq]
    congr 3
  rw [this]
  cases neg <;> simp

/-- an odd-and-sticky numerator is rounded as the exact one: M = 2Q + [rest], two places below are dropped at least -/
theorem rne_sticky (D n d : Nat) (hn : 0 < n) : rne (2 * (D / n) + (D % n != 0).toNat) (2 ^ (d + 2)) = rne D (n * 2 ^ (d + 1)) ∧ (2 * (D / n) + (D % n != 0).toNat) / 2 ^ (d + 2) = D / (n * 2 ^ (d + 1)) := by
  have hg : 0 < 2 ^ (d + 1) := Nat.two_pow_pos _
  have e2 : 2 ^ (d + 2) = 2 * 2 ^ (d + 1) := by rw [Nat.pow_succ 2 (d + 1)]; omega
  have e3 : 2 ^ (d + 1) = 2 * 2 ^ d := by rw [Nat.pow_succ]; omega
  have hg0 : 0 < 2 ^ d := Nat.two_pow_pos _
  -- Q = q * g + r
  have hq : D / (n * 2 ^ (d + 1)) = D / n / 2 ^ (d + 1) := by rw [Nat.div_div_eq_div_mul]
  have hm : D % (n * 2 ^ (d + 1)) = n * (D / n % 2 ^ (d + 1)) + D % n := by
    rw [Nat.mod_mul]; omega
  generalize hQ : D / n = Q at *
  generalize hR : D % n = R at *
  have hRn : R < n := by rw [← hR]; exact Nat.mod_lt _ hn
  generalize hs : (R != 0).toNat = s
  have hs1 : s ≤ 1 := by rw [← hs]; cases (R != 0) <;> simp
  have hs0 : s = 0 ↔ R = 0 := by rw [← hs]; by_cases h : R = 0 <;> simp [h]
  generalize hG : (2:Nat) ^ (d + 1) = g at *
  generalize hH : (2:Nat) ^ d = h at *
  have dm := Nat.div_add_mod Q g
  have rl := Nat.mod_lt Q hg
  generalize hqq : Q / g = q at *
  generalize hrr : Q % g = r at *
  have f1 : (2 * Q + s) / (2 * g) = q := by
    rw [Nat.div_eq_iff (by omega)]
    constructor
    · rw [Nat.mul_comm, Nat.mul_assoc]; omega
    · have : q * (2 * g) = 2 * (g * q) := by rw [Nat.mul_comm, Nat.mul_assoc]
      omega
  have f2 : (2 * Q + s) % (2 * g) = 2 * r + s := by
    have := Nat.div_add_mod (2 * Q + s) (2 * g)
    rw [f1] at this
    have e : 2 * g * q = 2 * (g * q) := by rw [Nat.mul_assoc]
    omega
  rw [e2]
  refine ⟨?_, by rw [f1, hq]⟩
  unfold rne
  rw [f1, f2, hq, hm]
  congr 1
  -- compare 2r+s with g (even), and n r + R with n h
  have c1 : (2 * g < 2 * (2 * r + s)) ↔ (n * g < 2 * (n * r + R)) := by
    have e5 : n * g = 2 * (n * h) := by rw [e3]; rw [Nat.mul_left_comm]
    constructor
    · intro hlt
      have : h ≤ r := by omega
      by_cases hh : h < r
      · have : n * (h + 1) ≤ n * r := Nat.mul_le_mul_left _ hh
        rw [Nat.mul_add] at this; omega
      · have : h = r := by omega
        subst this
        have : s = 1 := by omega
        have : R ≠ 0 := fun h0 => by have := hs0.2 h0; omega
        omega
    · intro hlt
      by_cases hh : r < h
      · have : n * (r + 1) ≤ n * h := Nat.mul_le_mul_left _ hh
        rw [Nat.mul_add] at this; omega
      · by_cases hh2 : h < r
        · omega
        · have : h = r := by omega
          subst this
          have : R ≠ 0 := by omega
          have : s ≠ 0 := fun h0 => this (hs0.1 h0)
          omega
  have c2 : (2 * (2 * r + s) = 2 * g) ↔ (2 * (n * r + R) = n * g) := by
    have e5 : n * g = 2 * (n * h) := by rw [e3]; rw [Nat.mul_left_comm]
    constructor
    · intro he
      have hs' : s = 0 := by omega
      have hrh : r = h := by omega
      have hR0 := hs0.1 hs'
      rw [hR0, e5, hrh]; omega
    · intro he
      by_cases hh : r < h
      · have : n * (r + 1) ≤ n * h := Nat.mul_le_mul_left _ hh
        rw [Nat.mul_add] at this; omega
      · by_cases hh2 : h < r
        · have : n * (h + 1) ≤ n * r := Nat.mul_le_mul_left _ hh2
          rw [Nat.mul_add] at this; omega
        · have : h = r := by omega
          subst this
          have : R = 0 := by omega
          have := hs0.2 this
          omega
  simp only [c1, c2]


theorem half_step (A B : Nat) (e L : Int) : up A e (L + 1) / dn B e (L + 1) = up A e L / dn B e L / 2 := by
  unfold up dn
  by_cases hL : L + 1 ≤ e
  · have e1 : (e - L).toNat = (e - (L + 1)).toNat + 1 := by omega
    have e2 : (L + 1 - e).toNat = 0 := by omega
    have e3 : (L - e).toNat = 0 := by omega
    rw [e1, e2, e3, Nat.pow_succ, ← Nat.mul_assoc, Nat.div_div_eq_div_mul, Nat.mul_div_mul_right _ _ (by omega)]
  · have e1 : (e - (L + 1)).toNat = 0 := by omega
    have e0 : (e - L).toNat = 0 := by omega
    have e2 : (L + 1 - e).toNat = (L - e).toNat + 1 := by omega
    rw [e1, e0, e2, Nat.pow_succ, ← Nat.mul_assoc, ← Nat.div_div_eq_div_mul]

/-- how many binary digits -/
def bits (n : Nat) : Nat := if n = 0 then 0 else n.log2 + 1
theorem bits_lt (n : Nat) : n < 2 ^ bits n := by
  unfold bits
  split
  · subst_vars; decide
  · exact Nat.lt_log2_self
theorem bits_le {n : Nat} (h : n ≠ 0) : 2 ^ (bits n - 1) ≤ n := by
  unfold bits; rw [if_neg h]; exact Nat.log2_self_le h
theorem bits_pos {n : Nat} (h : n ≠ 0) : 0 < bits n := by unfold bits; rw [if_neg h]; omega

/-- the first guess of the last place -/
def guess (A B : Nat) (e : Int) : Int := max (e - (53 - bits A + bits B)) (-1074)
def lastOf (A B : Nat) (e : Int) : Int := if up A e (guess A B e) / dn B e (guess A B e) < 2 ^ 53 then guess A B e else guess A B e + 1

theorem guess_lt (A B : Nat) (hB : B ≠ 0) (e : Int) : up A e (guess A B e) / dn B e (guess A B e) < 2 ^ 54 := by
  generalize hG : guess A B e = G
  have hG1 : e - (53 - bits A + bits B) ≤ G := by rw [← hG]; unfold guess; omega
  rw [Nat.div_lt_iff_lt_mul (dn_pos (by omega) _ _)]
  unfold up dn
  have b1 := bits_pos hB
  calc A * 2 ^ (e - G).toNat < 2 ^ bits A * 2 ^ (e - G).toNat := Nat.mul_lt_mul_of_pos_right (bits_lt A) (Nat.two_pow_pos _)
    _ = 2 ^ (bits A + (e - G).toNat) := by rw [← Nat.pow_add]
    _ ≤ 2 ^ (54 + ((bits B - 1) + (G - e).toNat)) := Nat.pow_le_pow_right (by omega) (by omega)
    _ = 2 ^ 54 * (2 ^ (bits B - 1) * 2 ^ (G - e).toNat) := by rw [Nat.pow_add, Nat.pow_add]
    _ ≤ 2 ^ 54 * (B * 2 ^ (G - e).toNat) := Nat.mul_le_mul_left _ (Nat.mul_le_mul_right _ (bits_le hB))

theorem guess_ge (A B : Nat) (hA : A ≠ 0) (hB : B ≠ 0) (e : Int) (h : guess A B e ≠ -1074) : 2 ^ 52 ≤ up A e (guess A B e) / dn B e (guess A B e) := by
  have hG1 : guess A B e = e - (53 - bits A + bits B) := by unfold guess at *; omega
  generalize hG : guess A B e = G at *
  rw [Nat.le_div_iff_mul_le (dn_pos (by omega) _ _)]
  unfold up dn
  have a1 := bits_pos hA
  calc 2 ^ 52 * (B * 2 ^ (G - e).toNat) ≤ 2 ^ 52 * (2 ^ bits B * 2 ^ (G - e).toNat) := Nat.mul_le_mul_left _ (Nat.mul_le_mul_right _ (Nat.le_of_lt (bits_lt B)))
    _ = 2 ^ (52 + (bits B + (G - e).toNat)) := by rw [Nat.pow_add, Nat.pow_add]
    _ ≤ 2 ^ ((bits A - 1) + (e - G).toNat) := Nat.pow_le_pow_right (by omega) (by omega)
    _ = 2 ^ (bits A - 1) * 2 ^ (e - G).toNat := by rw [← Nat.pow_add]
    _ ≤ A * 2 ^ (e - G).toNat := Nat.mul_le_mul_right _ (bits_le hA)

theorem lastOf_is (A B : Nat) (hA : A ≠ 0) (hB : B ≠ 0) (e : Int) : IsLast A B e (lastOf A B e) := by
  have g0 : -1074 ≤ guess A B e := by unfold guess; omega
  have g1 := guess_lt A B hB e
  have g2 := guess_ge A B hA hB e
  unfold lastOf
  split
  · rename_i h
    exact ⟨g0, h, by by_cases hh : guess A B e = -1074; exact .inl hh; exact .inr (g2 hh)⟩
  · rename_i h
    refine ⟨by omega, ?_, .inr ?_⟩
    · rw [half_step]; omega
    · rw [half_step]; omega

/-- the rung nearest to A/B * 2^e -/
def rung (A B : Nat) (e : Int) : Nat := if A = 0 then 0 else rungAt A B e (lastOf A B e)

theorem rung_of_last {A B : Nat} (hA : A ≠ 0) (hB : B ≠ 0) {e L : Int} (h : IsLast A B e L) : rung A B e = rungAt A B e L := by
  unfold rung; rw [if_neg hA, last_unique A B (by omega) e _ _ (lastOf_is A B hA hB e) h]

def wordOf (neg : Bool) (r : Nat) : Nat := (if neg then 2 ^ 63 else 0) + r

theorem nearest_rung (neg : Bool) (mag : Nat) (place : Int) : Ieee.double.nearest neg mag place = wordOf neg (rung mag 1 place) := by
  by_cases h : mag = 0
  · subst h
    have esw : Ieee.double.signWeight = 2 ^ 63 := by decide
    unfold Ieee.Format.nearest rung wordOf Ieee.Format.word
    rw [if_pos rfl, if_pos rfl, esw]
    cases neg <;> simp
  · have hl := lastOf_is mag 1 h (by omega) place
    rw [nearest_word neg mag place _ h hl, rung_of_last h (by omega) hl]; rfl

theorem rne_scale (a b c : Nat) (hc : 0 < c) : rne (a * c) (b * c) = rne a b := by
  unfold rne
  rw [Nat.mul_div_mul_right _ _ hc, Nat.mul_mod_mul_right]
  have h1 : (b * c < 2 * (a % b * c)) ↔ (b < 2 * (a % b)) := by
    rw [← Nat.mul_assoc]; exact Nat.mul_lt_mul_right hc
  have h2 : (2 * (a % b * c) = b * c) ↔ (2 * (a % b) = b) := by
    rw [← Nat.mul_assoc]; exact Nat.mul_left_inj (by omega)
  simp only [h1, h2]

/-- the quotient with its sticky digit is rounded as the exact quotient -/
theorem quotient_rung (m n : Nat) (hm : m ≠ 0) (hn : n ≠ 0) (e : Int) (more : Nat) (hmore : more = 54 + n.log2 - m.log2) :
    rung (2 * (m <<< more / n) + (m <<< more % n != 0).toNat) 1 (e - more - 1) = rung m n e := by
  rw [Nat.shiftLeft_eq]
  generalize hM : 2 * (m * 2 ^ more / n) + (m * 2 ^ more % n != 0).toNat = M
  have big : 2 ^ 54 ≤ M := by
    have h1 : 2 ^ 53 ≤ m * 2 ^ more / n := by
      rw [Nat.le_div_iff_mul_le (by omega)]
      calc 2 ^ 53 * n ≤ 2 ^ 53 * 2 ^ (n.log2 + 1) := Nat.mul_le_mul_left _ (Nat.le_of_lt Nat.lt_log2_self)
        _ = 2 ^ (53 + (n.log2 + 1)) := by rw [← Nat.pow_add]
        _ ≤ 2 ^ (m.log2 + more) := Nat.pow_le_pow_right (by omega) (by omega)
        _ = 2 ^ m.log2 * 2 ^ more := by rw [← Nat.pow_add]
        _ ≤ m * 2 ^ more := Nat.mul_le_mul_right _ (Nat.log2_self_le hm)
    omega
  have hM0 : M ≠ 0 := by omega
  have hl := lastOf_is M 1 hM0 (by omega) (e - more - 1)
  generalize lastOf M 1 (e - more - 1) = L at hl
  rw [rung_of_last hM0 (by omega) hl]
  obtain ⟨l1, l2, l3⟩ := hl
  -- two places at least are dropped
  have hd : e - more - 1 + 2 ≤ L := by
    apply Int.not_lt.1
    intro hlt
    rw [Nat.div_lt_iff_lt_mul (dn_pos (by omega) _ _)] at l2
    unfold up dn at l2
    have : (2:Nat) ^ (L - (e - more - 1)).toNat ≤ 2 ^ 1 := Nat.pow_le_pow_right (by omega) (by omega)
    have : 0 < 2 ^ ((e - more - 1) - L).toNat := Nat.two_pow_pos _
    have : M * 1 ≤ M * 2 ^ ((e - more - 1) - L).toNat := Nat.mul_le_mul_left _ this
    omega
  obtain ⟨d, hd'⟩ : ∃ d : Nat, L = e - more - 1 + (d + 2 : Nat) := ⟨(L - (e - more - 1) - 2).toNat, by omega⟩
  have u1 : up M (e - more - 1) L = M := by unfold up; rw [show ((e - more - 1) - L).toNat = 0 from by omega]; simp
  have d1 : dn 1 (e - more - 1) L = 2 ^ (d + 2) := by unfold dn; rw [show (L - (e - more - 1)).toNat = d + 2 from by omega]; simp
  have st := rne_sticky (m * 2 ^ more) n d (by omega)
  rw [hM] at st
  -- the common factor
  obtain ⟨c, hc, hu, hv⟩ : ∃ c, 0 < c ∧ m * 2 ^ more = up m e L * c ∧ n * 2 ^ (d + 1) = dn n e L * c := by
    unfold up dn
    by_cases h : L ≤ e
    · refine ⟨2 ^ (d + 1), Nat.two_pow_pos _, ?_, ?_⟩
      · rw [Nat.mul_assoc, ← Nat.pow_add]; congr 2; omega
      · rw [show (L - e).toNat = 0 from by omega]; simp
    · refine ⟨2 ^ more, Nat.two_pow_pos _, ?_, ?_⟩
      · rw [show (e - L).toNat = 0 from by omega]; simp
      · rw [Nat.mul_assoc, ← Nat.pow_add]; congr 2; omega
  rw [hu, hv, rne_scale _ _ _ hc, Nat.mul_div_mul_right _ _ hc] at st
  have hlast : IsLast m n e L := by
    refine ⟨l1, ?_, ?_⟩
    · rw [← st.2, ← d1, ← u1]; rw [u1] at l2 ⊢; rw [d1] at l2 ⊢; exact l2
    · rcases l3 with h | h
      · exact .inl h
      · right; rw [u1, d1, st.2] at h; exact h
  rw [rung_of_last hm hn hlast]
  unfold rungAt
  rw [u1, d1, st.1]


theorem read_double (w : Nat) : Ieee.double.read w = (if w % 2 ^ 63 < 2 ^ 52 then .number (w / 2 ^ 63 % 2 == 1) (w % 2 ^ 63) (-1074)
    else if w % 2 ^ 63 < 2047 * 2 ^ 52 then .number (w / 2 ^ 63 % 2 == 1) (2 ^ 52 + w % 2 ^ 63 % 2 ^ 52) (-1074 + (w % 2 ^ 63 / 2 ^ 52 - 1 : Nat))
    else if w % 2 ^ 63 = 2047 * 2 ^ 52 then .infinity (w / 2 ^ 63 % 2 == 1) else .nan (w / 2 ^ 63 % 2 == 1) (w % 2 ^ 63 - 2047 * 2 ^ 52)) := by
  have elp : Ieee.double.leastPlace = -1074 := by decide
  have einf : Ieee.double.infRung = 2047 * 2 ^ 52 := by decide
  have ebin : Ieee.double.binade = 2 ^ 52 := rfl
  have esw : Ieee.double.signWeight = 2 ^ 63 := by decide
  unfold Ieee.Format.read
  rw [elp, einf, ebin, esw]

/-- sign, size and place of a word's number -/
def sgn (w : Nat) : Bool := w / 2 ^ 63 % 2 == 1
def mag (w : Nat) : Nat := if w % 2 ^ 63 < 2 ^ 52 then w % 2 ^ 63 else 2 ^ 52 + w % 2 ^ 52
def plc (w : Nat) : Int := if w % 2 ^ 63 < 2 ^ 52 then -1074 else -1074 + (w % 2 ^ 63 / 2 ^ 52 - 1 : Nat)

theorem read_fin {w : Nat} (h : w % 2 ^ 63 < 2047 * 2 ^ 52) : Ieee.double.read w = .number (sgn w) (mag w) (plc w) := by
  rw [read_double]
  unfold sgn mag plc
  by_cases h1 : w % 2 ^ 63 < 2 ^ 52
  · rw [if_pos h1, if_pos h1, if_pos h1]
  · rw [if_neg h1, if_pos h, if_neg h1, if_neg h1, show w % 2 ^ 63 % 2 ^ 52 = w % 2 ^ 52 from by omega]
theorem read_inf {w : Nat} (h : w % 2 ^ 63 = 2047 * 2 ^ 52) : Ieee.double.read w = .infinity (sgn w) := by
  rw [read_double, if_neg (by omega), if_neg (by omega), if_pos h]; rfl
theorem read_nan {w : Nat} (h : 2047 * 2 ^ 52 < w % 2 ^ 63) : Ieee.double.read w = .nan (sgn w) (w % 2 ^ 63 - 2047 * 2 ^ 52) := by
  rw [read_double, if_neg (by omega), if_neg (by omega), if_neg (by omega)]; rfl

theorem mag_zero {w : Nat} : mag w = 0 ↔ w % 2 ^ 63 = 0 := by
  unfold mag; split <;> omega

theorem wordOf_sgn {w : Nat} (h : w < 2 ^ 64) : wordOf (sgn w) (w % 2 ^ 63) = w := by
  unfold wordOf sgn
  by_cases h1 : w / 2 ^ 63 % 2 = 1
  · simp only [h1, beq_self_eq_true, if_true]; omega
  · have : (w / 2 ^ 63 % 2 == 1) = false := by simpa using h1
    rw [this]; simp only [Bool.false_eq_true, if_false]; omega

theorem rne_exact (n d : Nat) (hd : 0 < d) : rne (n * d) d = n := by
  unfold rne
  rw [Nat.mul_div_cancel _ hd, Nat.mul_mod_left, if_neg (by omega)]; rfl

/-- a number that a word bears is its own nearest, however many places below it is told -/
theorem rung_back {w : Nat} (h : w % 2 ^ 63 < 2047 * 2 ^ 52) (k : Nat) : rung (mag w * 2 ^ k) 1 (plc w - k) = w % 2 ^ 63 := by
  by_cases h0 : w % 2 ^ 63 = 0
  · rw [mag_zero.2 h0, h0]; unfold rung; simp
  have hm : mag w * 2 ^ k ≠ 0 := by
    have : mag w ≠ 0 := fun h => h0 (mag_zero.1 h)
    have := Nat.two_pow_pos k
    exact Nat.mul_ne_zero (by omega) (by omega)
  have u1 : up (mag w * 2 ^ k) (plc w - k) (plc w) = mag w * 2 ^ k := by unfold up; rw [show (plc w - k - plc w).toNat = 0 from by omega]; simp
  have d1 : dn 1 (plc w - k) (plc w) = 2 ^ k := by unfold dn; rw [show (plc w - (plc w - k)).toNat = k from by omega]; simp
  have q1 : up (mag w * 2 ^ k) (plc w - k) (plc w) / dn 1 (plc w - k) (plc w) = mag w := by rw [u1, d1, Nat.mul_div_cancel _ (Nat.two_pow_pos _)]
  have hl : IsLast (mag w * 2 ^ k) 1 (plc w - k) (plc w) := by
    refine ⟨?_, ?_, ?_⟩
    · unfold plc; split <;> omega
    · rw [q1]; unfold mag; split <;> omega
    · rw [q1]; unfold mag plc; split
      · exact .inl rfl
      · right; omega
  rw [rung_of_last hm (by omega) hl]
  unfold rungAt
  rw [u1, d1, rne_exact _ _ (Nat.two_pow_pos _)]
  unfold mag plc
  split
  · rw [show (-1074 + 1074 : Int).toNat = 0 from rfl]; omega
  · rw [show ((-1074 + ((w % 2 ^ 63 / 2 ^ 52 - 1 : Nat) : Int)) + 1074).toNat = w % 2 ^ 63 / 2 ^ 52 - 1 from by omega]; omega

/-- the number of a sign, a size and so many places -/
theorem signed_eq (neg : Bool) (m u : Nat) : Ieee.signed neg m u = if neg then -((m * 2 ^ u : Nat) : Int) else ((m * 2 ^ u : Nat) : Int) := by
  unfold Ieee.signed; rw [Nat.shiftLeft_eq]

theorem natAbs_signed (neg : Bool) (m u : Nat) : (Ieee.signed neg m u).natAbs = m * 2 ^ u := by
  rw [signed_eq]; split <;> omega

theorem signed_neg_iff (neg : Bool) (m u : Nat) (h : m ≠ 0) : (decide (Ieee.signed neg m u < 0)) = neg := by
  have : 0 < m * 2 ^ u := Nat.mul_pos (by omega) (Nat.two_pow_pos _)
  rw [signed_eq]; generalize m * 2 ^ u = z at *; cases neg <;> simp <;> omega

theorem signed_zero_iff (neg : Bool) (m u : Nat) : Ieee.signed neg m u = 0 ↔ m = 0 := by
  have h2 := Nat.two_pow_pos u
  rw [signed_eq]
  constructor
  · intro h
    have : m * 2 ^ u = 0 := by split at h <;> omega
    rcases Nat.mul_eq_zero.1 this with h | h <;> omega
  · intro h; subst h; simp


/-- the sum of two finite words, as chapter 2's document reckons it -/
def refSum (a b : Nat) : Nat :=
  let least := min (plc a) (plc b)
  let x := mag a * 2 ^ (plc a - least).toNat
  let y := mag b * 2 ^ (plc b - least).toNat
  if sgn a = sgn b then wordOf (sgn a) (rung (x + y) 1 least)
  else if x = y then 0 else if y < x then wordOf (sgn a) (rung (x - y) 1 least) else wordOf (sgn b) (rung (y - x) 1 least)

theorem add_fin {a b : Nat} (ha : a % 2 ^ 63 < 2047 * 2 ^ 52) (hb : b % 2 ^ 63 < 2047 * 2 ^ 52) (hz : ¬ (mag a = 0 ∧ mag b = 0)) :
    Ieee.double.add a b = some (refSum a b) := by
  unfold Ieee.Format.add
  rw [read_fin ha, read_fin hb]
  simp only [Ieee.Datum.sum, Option.map_some, Ieee.Format.write, nearest_rung]
  congr 1
  unfold refSum
  generalize hle : min (plc a) (plc b) = least
  have pa := signed_zero_iff (sgn a) (mag a) (plc a - least).toNat
  have pb := signed_zero_iff (sgn b) (mag b) (plc b - least).toNat
  have ua : 0 < 2 ^ (plc a - least).toNat := Nat.two_pow_pos _
  have ub : 0 < 2 ^ (plc b - least).toNat := Nat.two_pow_pos _
  have hx0 : mag a * 2 ^ (plc a - least).toNat = 0 ↔ mag a = 0 := by
    constructor
    · intro h; rcases Nat.mul_eq_zero.1 h with h | h <;> omega
    · intro h; rw [h]; omega
  have hy0 : mag b * 2 ^ (plc b - least).toNat = 0 ↔ mag b = 0 := by
    constructor
    · intro h; rcases Nat.mul_eq_zero.1 h with h | h <;> omega
    · intro h; rw [h]; omega
  simp only [signed_eq]
  generalize mag a * 2 ^ (plc a - least).toNat = x at *
  generalize mag b * 2 ^ (plc b - least).toNat = y at *
  have hxy : ¬ (x = 0 ∧ y = 0) := by rw [hx0, hy0]; exact hz
  cases sgn a <;> cases sgn b <;> simp only [Bool.false_eq_true, if_false, if_true, reduceCtorEq, Bool.and_false, Bool.and_self, Bool.and_true]
  · have h1 : ¬ ((x : Int) + y = 0) := by omega
    have h2 : ¬ ((x : Int) + y < 0) := by omega
    have h3 : ((x : Int) + y).natAbs = x + y := by omega
    simp only [h1, h2, h3, if_false, decide_false]
  · by_cases h : x = y
    · have h1 : ((x : Int) + -(y : Int) = 0) := by omega
      rw [if_pos h, h1]; simp [rung, wordOf]
    · have h1 : ¬ ((x : Int) + -(y : Int) = 0) := by omega
      rw [if_neg h, if_neg h1]
      by_cases h2 : y < x
      · rw [if_pos h2, show (decide ((x : Int) + -(y : Int) < 0)) = false from by simp; omega, show ((x : Int) + -(y : Int)).natAbs = x - y from by omega]
      · rw [if_neg h2, show (decide ((x : Int) + -(y : Int) < 0)) = true from by simp; omega, show ((x : Int) + -(y : Int)).natAbs = y - x from by omega]
  · by_cases h : x = y
    · have h1 : (-(x : Int) + (y : Int) = 0) := by omega
      rw [if_pos h, h1]; simp [rung, wordOf]
    · have h1 : ¬ (-(x : Int) + (y : Int) = 0) := by omega
      rw [if_neg h, if_neg h1]
      by_cases h2 : y < x
      · rw [if_pos h2, show (decide (-(x : Int) + (y : Int) < 0)) = true from by simp; omega, show (-(x : Int) + (y : Int)).natAbs = x - y from by omega]
      · rw [if_neg h2, show (decide (-(x : Int) + (y : Int) < 0)) = false from by simp; omega, show (-(x : Int) + (y : Int)).natAbs = y - x from by omega]
  · have h1 : ¬ (-(x : Int) + -(y : Int) = 0) := by omega
    have h2 : -(x : Int) + -(y : Int) < 0 := by omega
    have h3 : (-(x : Int) + -(y : Int)).natAbs = x + y := by omega
    simp only [h1, h2, h3, if_false, decide_true]

theorem add_zeros {a b : Nat} (ha : a < 2 ^ 64) (za : mag a = 0) (zb : mag b = 0) :
    Ieee.double.add a b = some (if sgn a = sgn b then a else 0) := by
  have h1 := mag_zero.1 za
  have h2 := mag_zero.1 zb
  unfold Ieee.Format.add
  rw [read_fin (by omega), read_fin (by omega), za, zb]
  have e0 : ∀ s u, Ieee.signed s 0 u = 0 := fun s u => (signed_zero_iff s 0 u).2 rfl
  simp only [Ieee.Datum.sum, Option.map_some, Ieee.Format.write, nearest_rung, e0]
  congr 1
  have hw := wordOf_sgn ha
  rw [h1] at hw
  have r0 : ∀ e, rung 0 1 e = 0 := fun e => by simp [rung]
  simp only [Int.add_zero, Int.natAbs_zero, r0, if_true]
  generalize sgn a = s at *
  generalize sgn b = t at *
  cases s <;> cases t <;> simp_all [wordOf]

theorem mul_fin {a b : Nat} (ha : a % 2 ^ 63 < 2047 * 2 ^ 52) (hb : b % 2 ^ 63 < 2047 * 2 ^ 52) :
    Ieee.double.mul a b = some (wordOf (sgn a ^^ sgn b) (rung (mag a * mag b) 1 (plc a + plc b))) := by
  unfold Ieee.Format.mul
  rw [read_fin ha, read_fin hb]
  simp only [Ieee.Datum.product, Option.map_some, Ieee.Format.write, nearest_rung]

theorem div_fin {a b : Nat} (ha : a % 2 ^ 63 < 2047 * 2 ^ 52) (hb : b % 2 ^ 63 < 2047 * 2 ^ 52) (hb0 : mag b ≠ 0) :
    Ieee.double.div a b = some (wordOf (sgn a ^^ sgn b) (rung (mag a) (mag b) (plc a - plc b))) := by
  unfold Ieee.Format.div
  rw [read_fin ha, read_fin hb]
  simp only [Ieee.Datum.quotient, if_neg hb0, Option.map_some, Ieee.Format.write, nearest_rung]
  congr 2
  by_cases ha0 : mag a = 0
  · rw [ha0]; simp [rung]
  · rw [show Ieee.double.fractionBits + 2 = 54 from rfl]
    exact quotient_rung (mag a) (mag b) ha0 hb0 (plc a - plc b) _ rfl

/-- sign and size as one number -/
def ord (a : Nat) : Int := if sgn a then -((a % 2 ^ 63 : Nat) : Int) else ((a % 2 ^ 63 : Nat) : Int)

/-- of two finite words the rungs stand as the numbers do -/
theorem mag_mono {a b : Nat} (ha : a % 2 ^ 63 < 2047 * 2 ^ 52) (hb : b % 2 ^ 63 < 2047 * 2 ^ 52) (h : a % 2 ^ 63 < b % 2 ^ 63) (l : Int) (h1 : l ≤ plc a) (h2 : l ≤ plc b) :
    mag a * 2 ^ (plc a - l).toNat < mag b * 2 ^ (plc b - l).toNat := by
  by_cases hp : plc a = plc b
  · rw [hp]
    refine Nat.mul_lt_mul_of_pos_right ?_ (Nat.two_pow_pos _)
    unfold plc at hp
    unfold mag
    by_cases s1 : a % 2 ^ 63 < 2 ^ 52 <;> by_cases s2 : b % 2 ^ 63 < 2 ^ 52 <;> simp only [s1, s2, if_true, if_false] at hp ⊢ <;> omega
  · have hlt : plc a < plc b := by
      unfold plc at hp ⊢
      by_cases s1 : a % 2 ^ 63 < 2 ^ 52 <;> by_cases s2 : b % 2 ^ 63 < 2 ^ 52 <;> simp only [s1, s2, if_true, if_false] at hp ⊢ <;> first | omega | exact absurd trivial hp | exact absurd rfl hp
    have m1 : mag a < 2 ^ 53 := by unfold mag; split <;> omega
    have m2 : 2 ^ 52 ≤ mag b := by
      have g1 : -1074 ≤ plc a := by unfold plc; split <;> omega
      by_cases s2 : b % 2 ^ 63 < 2 ^ 52
      · have : plc b = -1074 := by unfold plc; rw [if_pos s2]
        omega
      · unfold mag; rw [if_neg s2]; omega
    calc mag a * 2 ^ (plc a - l).toNat < 2 ^ 53 * 2 ^ (plc a - l).toNat := Nat.mul_lt_mul_of_pos_right m1 (Nat.two_pow_pos _)
      _ = 2 ^ 52 * 2 ^ ((plc a - l).toNat + 1) := by rw [Nat.pow_succ]; omega
      _ ≤ 2 ^ 52 * 2 ^ (plc b - l).toNat := Nat.mul_le_mul_left _ (Nat.pow_le_pow_right (by omega) (by omega))
      _ ≤ mag b * 2 ^ (plc b - l).toNat := Nat.mul_le_mul_right _ m2

theorem order_fin {a b : Nat} (ha : a % 2 ^ 63 < 2047 * 2 ^ 52) (hb : b % 2 ^ 63 < 2047 * 2 ^ 52) :
    Ieee.double.order a b = some (compare (ord a) (ord b)) := by
  unfold Ieee.Format.order
  rw [read_fin ha, read_fin hb]
  simp only [Ieee.Datum.order, signed_eq]
  congr 1
  generalize hle : min (plc a) (plc b) = l
  have key : ∀ {p q : Nat}, p % 2 ^ 63 < 2047 * 2 ^ 52 → q % 2 ^ 63 < 2047 * 2 ^ 52 → l ≤ plc p → l ≤ plc q → (p % 2 ^ 63 < q % 2 ^ 63 → mag p * 2 ^ (plc p - l).toNat < mag q * 2 ^ (plc q - l).toNat) := fun hp hq h1 h2 h => mag_mono hp hq h l h1 h2
  have k1 := key ha hb (by omega) (by omega)
  have k2 := key hb ha (by omega) (by omega)
  have k3 : a % 2 ^ 63 = b % 2 ^ 63 → mag a * 2 ^ (plc a - l).toNat = mag b * 2 ^ (plc b - l).toNat := by
    intro h
    have e1 : mag a = mag b := by unfold mag; rw [h, show a % 2 ^ 52 = b % 2 ^ 52 from by omega]
    have e2 : plc a = plc b := by unfold plc; rw [h]
    rw [e1, e2]
  have z1 : mag a * 2 ^ (plc a - l).toNat = 0 ↔ a % 2 ^ 63 = 0 := by
    rw [← mag_zero]
    have := Nat.two_pow_pos (plc a - l).toNat
    constructor
    · intro h; rcases Nat.mul_eq_zero.1 h with h | h <;> omega
    · intro h; rw [h]; omega
  have z2 : mag b * 2 ^ (plc b - l).toNat = 0 ↔ b % 2 ^ 63 = 0 := by
    rw [← mag_zero]
    have := Nat.two_pow_pos (plc b - l).toNat
    constructor
    · intro h; rcases Nat.mul_eq_zero.1 h with h | h <;> omega
    · intro h; rw [h]; omega
  unfold ord
  generalize mag a * 2 ^ (plc a - l).toNat = x at *
  generalize mag b * 2 ^ (plc b - l).toNat = y at *
  generalize a % 2 ^ 63 = p at *
  generalize b % 2 ^ 63 = q at *
  have cmp : ∀ u v r s : Int, ((u < v) ↔ (r < s)) → ((v < u) ↔ (s < r)) → compare u v = compare r s := by
    intro u v r s h1 h2
    simp only [compare, compareOfLessAndEq]
    by_cases h : u < v
    · rw [if_pos h, if_pos (h1.1 h)]
    · rw [if_neg h, if_neg (fun h' => h (h1.2 h'))]
      by_cases h' : u = v
      · rw [if_pos h', if_pos (by omega)]
      · rw [if_neg h', if_neg (by omega)]
  rcases Nat.lt_trichotomy p q with h | h | h
  · have := k1 h
    cases sgn a <;> cases sgn b <;> simp only [Bool.false_eq_true, if_false, if_true] <;> apply cmp <;> omega
  · have := k3 h
    cases sgn a <;> cases sgn b <;> simp only [Bool.false_eq_true, if_false, if_true] <;> apply cmp <;> omega
  · have := k2 h
    cases sgn a <;> cases sgn b <;> simp only [Bool.false_eq_true, if_false, if_true] <;> apply cmp <;> omega


def INF : Nat := 2047 * 2 ^ 52
def NAN : Nat := 2047 * 2 ^ 52 + 2 ^ 51
/-- the other sign -/
def flip (w : Nat) : Nat := if sgn w then w - 2 ^ 63 else w + 2 ^ 63

theorem write_inf (s : Bool) : Ieee.double.write (.infinity s) = wordOf s INF := by
  have esw : Ieee.double.signWeight = 2 ^ 63 := by decide
  have einf : Ieee.double.infRung = 2047 * 2 ^ 52 := by decide
  simp only [Ieee.Format.write, Ieee.Format.word, esw, einf, wordOf, INF]
  cases s <;> simp
theorem write_num (s : Bool) (m : Nat) (e : Int) : Ieee.double.write (.number s m e) = wordOf s (rung m 1 e) := nearest_rung s m e

theorem flip_low {w : Nat} (h : w < 2 ^ 64) : flip w % 2 ^ 63 = w % 2 ^ 63 := by
  unfold flip sgn
  by_cases h1 : w / 2 ^ 63 % 2 = 1
  · simp only [h1, beq_self_eq_true, if_true]; omega
  · have : (w / 2 ^ 63 % 2 == 1) = false := by simpa using h1
    rw [this]; simp only [Bool.false_eq_true, if_false]; omega
theorem flip_lt {w : Nat} (h : w < 2 ^ 64) : flip w < 2 ^ 64 := by
  unfold flip sgn
  by_cases h1 : w / 2 ^ 63 % 2 = 1
  · simp only [h1, beq_self_eq_true, if_true]; omega
  · have : (w / 2 ^ 63 % 2 == 1) = false := by simpa using h1
    rw [this]; simp only [Bool.false_eq_true, if_false]; omega
theorem flip_sgn {w : Nat} (h : w < 2 ^ 64) : sgn (flip w) = !sgn w := by
  unfold flip sgn
  by_cases h1 : w / 2 ^ 63 % 2 = 1
  · simp only [h1, beq_self_eq_true, if_true, Bool.not_true]
    rw [show (w - 2 ^ 63) / 2 ^ 63 % 2 = 0 from by omega]; rfl
  · have : (w / 2 ^ 63 % 2 == 1) = false := by simpa using h1
    rw [this]; simp only [Bool.false_eq_true, if_false, Bool.not_false]
    rw [show (w + 2 ^ 63) / 2 ^ 63 % 2 = 1 from by omega]; rfl
theorem flip_mag {w : Nat} (h : w < 2 ^ 64) : mag (flip w) = mag w := by
  unfold mag; rw [flip_low h, show flip w % 2 ^ 52 = w % 2 ^ 52 from by have := flip_low h; omega]
theorem flip_plc {w : Nat} (h : w < 2 ^ 64) : plc (flip w) = plc w := by unfold plc; rw [flip_low h]

/-- what is no NaN, with the other sign -/
theorem read_flip {w : Nat} (h : w < 2 ^ 64) (hn : ¬ 2047 * 2 ^ 52 < w % 2 ^ 63) : Ieee.double.read (flip w) = (Ieee.double.read w).opposite := by
  by_cases hi : w % 2 ^ 63 = 2047 * 2 ^ 52
  · rw [read_inf hi, read_inf (by rw [flip_low h]; exact hi), flip_sgn h]; rfl
  · rw [read_fin (w := w) (by omega), read_fin (w := flip w) (by rw [flip_low h]; omega), flip_sgn h, flip_mag h, flip_plc h]; rfl

theorem sub_flip {a b : Nat} (h : b < 2 ^ 64) (hn : ¬ 2047 * 2 ^ 52 < b % 2 ^ 63) : Ieee.double.sub a b = Ieee.double.add a (flip b) := by
  unfold Ieee.Format.sub Ieee.Format.add; rw [read_flip h hn]

theorem add_nan {a b : Nat} (h : 2047 * 2 ^ 52 < a % 2 ^ 63 ∨ 2047 * 2 ^ 52 < b % 2 ^ 63) : Ieee.double.add a b = none := by
  unfold Ieee.Format.add
  rcases h with h | h
  · rw [read_nan h]; rfl
  · rw [read_nan h]; cases Ieee.double.read a <;> rfl
theorem sub_nan {a b : Nat} (h : 2047 * 2 ^ 52 < a % 2 ^ 63 ∨ 2047 * 2 ^ 52 < b % 2 ^ 63) : Ieee.double.sub a b = none := by
  unfold Ieee.Format.sub
  rcases h with h | h
  · rw [read_nan h]; cases Ieee.double.read b <;> rfl
  · rw [read_nan h]; cases Ieee.double.read a <;> rfl
theorem mul_nan {a b : Nat} (h : 2047 * 2 ^ 52 < a % 2 ^ 63 ∨ 2047 * 2 ^ 52 < b % 2 ^ 63) : Ieee.double.mul a b = none := by
  unfold Ieee.Format.mul
  rcases h with h | h
  · rw [read_nan h]; rfl
  · rw [read_nan h]; cases Ieee.double.read a <;> rfl
theorem div_nan {a b : Nat} (h : 2047 * 2 ^ 52 < a % 2 ^ 63 ∨ 2047 * 2 ^ 52 < b % 2 ^ 63) : Ieee.double.div a b = none := by
  unfold Ieee.Format.div
  rcases h with h | h
  · rw [read_nan h]; rfl
  · rw [read_nan h]; cases Ieee.double.read a <;> rfl
theorem order_nan {a b : Nat} (h : 2047 * 2 ^ 52 < a % 2 ^ 63 ∨ 2047 * 2 ^ 52 < b % 2 ^ 63) : Ieee.double.order a b = none := by
  unfold Ieee.Format.order
  rcases h with h | h
  · rw [read_nan h]; rfl
  · rw [read_nan h]; cases Ieee.double.read a <;> rfl

theorem wordOf_inf {w : Nat} (h : w < 2 ^ 64) (hi : w % 2 ^ 63 = 2047 * 2 ^ 52) : wordOf (sgn w) INF = w := by
  have := wordOf_sgn h; rw [hi] at this; exact this

theorem add_inf_inf {a b : Nat} (la : a < 2 ^ 64) (ha : a % 2 ^ 63 = 2047 * 2 ^ 52) (hb : b % 2 ^ 63 = 2047 * 2 ^ 52) :
    Ieee.double.add a b = if sgn a = sgn b then some a else none := by
  unfold Ieee.Format.add
  rw [read_inf ha, read_inf hb]
  simp only [Ieee.Datum.sum]
  split
  · rw [Option.map_some, write_inf, wordOf_inf la ha]
  · rfl
theorem add_inf_fin {a b : Nat} (la : a < 2 ^ 64) (ha : a % 2 ^ 63 = 2047 * 2 ^ 52) (hb : b % 2 ^ 63 < 2047 * 2 ^ 52) : Ieee.double.add a b = some a := by
  unfold Ieee.Format.add
  rw [read_inf ha, read_fin hb]
  simp only [Ieee.Datum.sum, Option.map_some]
  rw [write_inf, wordOf_inf la ha]
theorem add_fin_inf {a b : Nat} (lb : b < 2 ^ 64) (ha : a % 2 ^ 63 < 2047 * 2 ^ 52) (hb : b % 2 ^ 63 = 2047 * 2 ^ 52) : Ieee.double.add a b = some b := by
  unfold Ieee.Format.add
  rw [read_fin ha, read_inf hb]
  simp only [Ieee.Datum.sum, Option.map_some]
  rw [write_inf, wordOf_inf lb hb]
theorem mul_inf_inf {a b : Nat} (ha : a % 2 ^ 63 = 2047 * 2 ^ 52) (hb : b % 2 ^ 63 = 2047 * 2 ^ 52) : Ieee.double.mul a b = some (wordOf (sgn a ^^ sgn b) INF) := by
  unfold Ieee.Format.mul
  rw [read_inf ha, read_inf hb]
  simp only [Ieee.Datum.product, Option.map_some, write_inf]
theorem mul_inf_fin {a b : Nat} (ha : a % 2 ^ 63 = 2047 * 2 ^ 52) (hb : b % 2 ^ 63 < 2047 * 2 ^ 52) : Ieee.double.mul a b = if b % 2 ^ 63 = 0 then none else some (wordOf (sgn a ^^ sgn b) INF) := by
  unfold Ieee.Format.mul
  rw [read_inf ha, read_fin hb]
  simp only [Ieee.Datum.product, mag_zero]
  split <;> simp only [Option.map_some, Option.map_none, write_inf]
theorem mul_fin_inf {a b : Nat} (ha : a % 2 ^ 63 < 2047 * 2 ^ 52) (hb : b % 2 ^ 63 = 2047 * 2 ^ 52) : Ieee.double.mul a b = if a % 2 ^ 63 = 0 then none else some (wordOf (sgn a ^^ sgn b) INF) := by
  unfold Ieee.Format.mul
  rw [read_fin ha, read_inf hb]
  simp only [Ieee.Datum.product, mag_zero]
  rw [Bool.xor_comm]
  split <;> simp only [Option.map_some, Option.map_none, write_inf]
theorem div_inf_inf {a b : Nat} (ha : a % 2 ^ 63 = 2047 * 2 ^ 52) (hb : b % 2 ^ 63 = 2047 * 2 ^ 52) : Ieee.double.div a b = none := by
  unfold Ieee.Format.div
  rw [read_inf ha, read_inf hb]; rfl
theorem div_inf_fin {a b : Nat} (ha : a % 2 ^ 63 = 2047 * 2 ^ 52) (hb : b % 2 ^ 63 < 2047 * 2 ^ 52) : Ieee.double.div a b = some (wordOf (sgn a ^^ sgn b) INF) := by
  unfold Ieee.Format.div
  rw [read_inf ha, read_fin hb]
  simp only [Ieee.Datum.quotient, Option.map_some, write_inf]
theorem div_fin_inf {a b : Nat} (ha : a % 2 ^ 63 < 2047 * 2 ^ 52) (hb : b % 2 ^ 63 = 2047 * 2 ^ 52) : Ieee.double.div a b = some (wordOf (sgn a ^^ sgn b) 0) := by
  unfold Ieee.Format.div
  rw [read_fin ha, read_inf hb]
  simp only [Ieee.Datum.quotient, Option.map_some, write_num]
  simp [rung]
theorem div_zero {a b : Nat} (ha : a % 2 ^ 63 < 2047 * 2 ^ 52) (hb : b % 2 ^ 63 = 0) : Ieee.double.div a b = if a % 2 ^ 63 = 0 then none else some (wordOf (sgn a ^^ sgn b) INF) := by
  unfold Ieee.Format.div
  rw [read_fin ha, read_fin (by omega)]
  simp only [Ieee.Datum.quotient, mag_zero, if_pos hb]
  split <;> simp only [Option.map_some, Option.map_none, write_inf]
theorem order_inf_inf {a b : Nat} (ha : a % 2 ^ 63 = 2047 * 2 ^ 52) (hb : b % 2 ^ 63 = 2047 * 2 ^ 52) : Ieee.double.order a b = some (compare (ord a) (ord b)) := by
  unfold Ieee.Format.order
  rw [read_inf ha, read_inf hb]
  simp only [Ieee.Datum.order, ord, ha, hb]
  cases sgn a <;> cases sgn b <;> decide
theorem cmp_lt {x y : Int} (h : x < y) : compare x y = .lt := by simp only [compare, compareOfLessAndEq, if_pos h]
theorem cmp_gt {x y : Int} (h : y < x) : compare x y = .gt := by simp only [compare, compareOfLessAndEq, if_neg (show ¬ x < y from by omega), if_neg (show ¬ x = y from by omega)]
theorem order_inf_fin {a b : Nat} (ha : a % 2 ^ 63 = 2047 * 2 ^ 52) (hb : b % 2 ^ 63 < 2047 * 2 ^ 52) : Ieee.double.order a b = some (compare (ord a) (ord b)) := by
  unfold Ieee.Format.order
  rw [read_inf ha, read_fin hb]
  simp only [Ieee.Datum.order]
  congr 1
  unfold ord
  rw [ha]
  cases sgn a <;> simp only [Bool.false_eq_true, if_false, if_true]
  · rw [cmp_gt]; split <;> omega
  · rw [cmp_lt]; split <;> omega
theorem order_fin_inf {a b : Nat} (ha : a % 2 ^ 63 < 2047 * 2 ^ 52) (hb : b % 2 ^ 63 = 2047 * 2 ^ 52) : Ieee.double.order a b = some (compare (ord a) (ord b)) := by
  unfold Ieee.Format.order
  rw [read_fin ha, read_inf hb]
  simp only [Ieee.Datum.order]
  congr 1
  unfold ord
  rw [hb]
  cases sgn b <;> simp only [Bool.false_eq_true, if_false, if_true]
  · rw [cmp_lt]; split <;> omega
  · rw [cmp_gt]; split <;> omega
/-- of two words that are no NaNs the order is that of sign and size as one number -/
theorem order_ord {a b : Nat} (ha : ¬ 2047 * 2 ^ 52 < a % 2 ^ 63) (hb : ¬ 2047 * 2 ^ 52 < b % 2 ^ 63) : Ieee.double.order a b = some (compare (ord a) (ord b)) := by
  by_cases h1 : a % 2 ^ 63 = 2047 * 2 ^ 52 <;> by_cases h2 : b % 2 ^ 63 = 2047 * 2 ^ 52
  · exact order_inf_inf h1 h2
  · exact order_inf_fin h1 (by omega)
  · exact order_fin_inf (by omega) h2
  · exact order_fin (by omega) (by omega)

end Go.Proofs.YthfppmgnemmckaaGreatDoor.RM
