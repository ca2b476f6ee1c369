import Derived.Test.YtgcpnjckbdajbaaGreatDoorPE
namespace Go.Proofs.YtgcpnjckbdajbaaGreatDoor.Ob
open Go.RowKit Go.Sort

/-- a number's low 32 bits -/
def BV (x : Int) : BitVec 32 := BitVec.ofInt 32 x
theorem wrap_mod (z : Int) : IntKind.u32.wrap z = z % 4294967296 := by
  unfold IntKind.wrap
  simp [IntKind.signed, IntKind.bits]
theorem wrap_small (z : Nat) (h : z < 4294967296) : IntKind.u32.wrap (z : Int) = (z : Int) := by
  rw [wrap_mod]
  omega
theorem bits_and (x y : Int) : bits .and .u32 x y = ((BV x &&& BV y).toNat : Int) := by
  show IntKind.u32.wrap ((BV x &&& BV y).toNat : Int) = _
  exact wrap_small _ (BV x &&& BV y).isLt
theorem bits_or (x y : Int) : orV x y = ((BV x ||| BV y).toNat : Int) := by
  show IntKind.u32.wrap ((BV x ||| BV y).toNat : Int) = _
  exact wrap_small _ (BV x ||| BV y).isLt
theorem bv_nat (b : BitVec 32) : BV (b.toNat : Int) = b := by
  unfold BV
  apply BitVec.eq_of_toNat_eq
  simp
theorem bv_or (x y : Int) : BV (orV x y) = BV x ||| BV y := by rw [bits_or, bv_nat]
theorem bv_and (x y : Int) : BV (bits .and .u32 x y) = BV x &&& BV y := by rw [bits_and, bv_nat]
theorem bv_mod (x : Int) : BV (x % 4294967296) = BV x := by
  unfold BV
  apply BitVec.eq_of_toNat_eq
  simp [BitVec.toNat_ofInt]
theorem bv_wrap (x : Int) : BV (IntKind.u32.wrap x) = BV x := by rw [wrap_mod, bv_mod]
theorem bv_mul (x : Int) (n : Nat) : BV (x * 2 ^ n) = BV x <<< n := by
  unfold BV
  rw [BitVec.shiftLeft_eq_mul_twoPow, BitVec.ofInt_mul]
  congr 1
  apply BitVec.eq_of_toNat_eq
  rw [BitVec.toNat_ofInt, BitVec.toNat_twoPow, show ((2 : Int) ^ n) = ((2 ^ n : Nat) : Int) by norm_cast]
  norm_cast
theorem ofInt_bit (x : Int) (j : Nat) (k : Nat) (h0 : 0 ≤ x) (h1 : x < 2 ^ k) (hj : k ≤ j) : (BV x).getLsbD j = false := by
  obtain ⟨n, rfl⟩ := Int.eq_ofNat_of_zero_le h0
  have hn : n < 2 ^ k := by exact_mod_cast h1
  unfold BV
  rw [BitVec.getLsbD, BitVec.toNat_ofInt]
  have : ((n : Int) % ((2 ^ 32 : Nat) : Int)).toNat = n % 2 ^ 32 := by omega
  rw [this]
  refine Nat.testBit_lt_two_pow (Nat.lt_of_le_of_lt (Nat.mod_le _ _) (Nat.lt_of_lt_of_le hn (Nat.pow_le_pow_right (by decide) hj)))
theorem put_bit (x : Int) (f n t j : Nat) (h : j < t ∨ (BV (2 ^ n - 1)).getLsbD (j - t) = false) : (BV (putV x f n t)).getLsbD j = false := by
  unfold putV
  rw [bv_mod, bv_mul, bv_and, BitVec.getLsbD_shiftLeft, BitVec.getLsbD_and]
  rcases h with h | h
  · simp [h]
  · simp [h]
theorem bv_zero_bit (j : Nat) : (BV 0).getLsbD j = false := by
  have : BV 0 = 0#32 := by decide
  rw [this]
  simp
/-- the Imm's bits do not lie where f3 does -/
theorem imm_f3 (r : RowV) (n : Int) (j : Nat) (hj : 12 ≤ j) (hj2 : j < 15) (hk : r.kind = 82 ∨ r.kind = 73 ∨ r.kind = 72 ∨ r.kind = 83 ∨ r.kind = 66) : (BV (immV r n)).getLsbD j = false := by
  have h3 : j = 12 ∨ j = 13 ∨ j = 14 := by omega
  unfold immV
  rcases hk with hk | hk | hk | hk | hk <;> simp only [hk]
  · exact bv_zero_bit j
  · exact put_bit _ _ _ _ _ (.inl (by omega))
  · exact put_bit _ _ _ _ _ (.inl (by omega))
  · simp only [show ¬ ((83 : Int) = 73) by decide, show ¬ ((83 : Int) = 72) by decide, if_true, if_false]
    rw [bv_or, BitVec.getLsbD_or, put_bit _ _ _ _ _ (.inr (by rcases h3 with rfl | rfl | rfl <;> decide)), put_bit _ _ _ _ _ (.inl (by omega))]
    rfl
  · simp only [show ¬ ((66 : Int) = 73) by decide, show ¬ ((66 : Int) = 72) by decide, show ¬ ((66 : Int) = 83) by decide, if_true, if_false]
    rw [bv_or, bv_or, bv_or, BitVec.getLsbD_or, BitVec.getLsbD_or, BitVec.getLsbD_or, put_bit _ _ _ _ _ (.inr (by rcases h3 with rfl | rfl | rfl <;> decide)), put_bit _ _ _ _ _ (.inr (by rcases h3 with rfl | rfl | rfl <;> decide)), put_bit _ _ _ _ _ (.inl (by omega)), put_bit _ _ _ _ _ (.inl (by omega))]
    rfl
/-- nor where f7 does, if there is one -/
theorem imm_f7 (r : RowV) (n : Int) (j : Nat) (hj : 25 ≤ j) (hj2 : j < 32) (hk : r.kind = 82 ∨ r.kind = 72) : (BV (immV r n)).getLsbD j = false := by
  have h7 : j = 25 ∨ j = 26 ∨ j = 27 ∨ j = 28 ∨ j = 29 ∨ j = 30 ∨ j = 31 := by omega
  unfold immV
  rcases hk with hk | hk <;> simp only [hk]
  · exact bv_zero_bit j
  · exact put_bit _ _ _ _ _ (.inr (by rcases h7 with rfl | rfl | rfl | rfl | rfl | rfl | rfl <;> decide))

theorem kind_row (r : RowV) (i : InsV) (j : Nat) (hj : 12 ≤ j) (hj2 : j < 15) (h : (BV r.op).getLsbD j = false) (hrd : 0 ≤ i.rd ∧ i.rd ≤ 31) (hk : r.kind = 82 ∨ r.kind = 73 ∨ r.kind = 72 ∨ r.kind = 83 ∨ r.kind = 66) :
    (BV (wordV r i)).getLsbD j = (BV r.f3).getLsbD (j - 12) := by
  unfold wordV
  rw [show (128 : Int) = 2 ^ 7 by decide, show (4096 : Int) = 2 ^ 12 by decide, show (32768 : Int) = 2 ^ 15 by decide, show (1048576 : Int) = 2 ^ 20 by decide, show (33554432 : Int) = 2 ^ 25 by decide]
  simp only [bv_or, bv_wrap, bv_mul, BitVec.getLsbD_or, BitVec.getLsbD_shiftLeft]
  rw [h, imm_f3 r i.imm j hj hj2 hk, ofInt_bit i.rd (j - 7) 5 hrd.1 (by have := hrd.2; omega) (by omega)]
  have a1 : decide (j < 32) = true := by simp; omega
  have a2 : decide (j < 12) = false := by simp; omega
  have a3 : decide (j < 15) = true := by simp; omega
  have a4 : decide (j < 20) = true := by simp; omega
  have a5 : decide (j < 25) = true := by simp; omega
  simp [a1, a2, a3, a4, a5]
theorem kind_f7 (r : RowV) (i : InsV) (j : Nat) (hj : 25 ≤ j) (hj2 : j < 32) (h : (BV r.op).getLsbD j = false) (h3 : (BV r.f3).getLsbD (j - 12) = false) (hrd : 0 ≤ i.rd ∧ i.rd ≤ 31) (hr1 : 0 ≤ i.rs1 ∧ i.rs1 ≤ 31) (hr2 : 0 ≤ i.rs2 ∧ i.rs2 ≤ 31) (hk : r.kind = 82 ∨ r.kind = 72) :
    (BV (wordV r i)).getLsbD j = (BV r.f7).getLsbD (j - 25) := by
  unfold wordV
  rw [show (128 : Int) = 2 ^ 7 by decide, show (4096 : Int) = 2 ^ 12 by decide, show (32768 : Int) = 2 ^ 15 by decide, show (1048576 : Int) = 2 ^ 20 by decide, show (33554432 : Int) = 2 ^ 25 by decide]
  simp only [bv_or, bv_wrap, bv_mul, BitVec.getLsbD_or, BitVec.getLsbD_shiftLeft]
  rw [h, h3, imm_f7 r i.imm j hj hj2 hk, ofInt_bit i.rd (j - 7) 5 hrd.1 (by have := hrd.2; omega) (by omega), ofInt_bit i.rs1 (j - 15) 5 hr1.1 (by have := hr1.2; omega) (by omega), ofInt_bit (if r.rs2 = 32 then i.rs1 else i.rs2) (j - 20) 5 (by split; exact hr1.1; exact hr2.1) (by split <;> omega) (by omega)]
  have a1 : decide (j < 32) = true := by simp; omega
  have a2 : decide (j < 25) = false := by simp; omega
  simp [a1, a2]

/-- five bits of a word -/
def fiveV (x : Int) (n : Nat) : Int := wrap64 (bits .and .u32 (x / 2 ^ n) 31)
theorem five_range (x : Int) (n : Nat) : 0 ≤ fiveV x n ∧ fiveV x n ≤ 31 := by
  unfold fiveV
  rw [bits_and]
  have h : (BV (x / 2 ^ n) &&& BV 31).toNat ≤ 31 := by
    rw [BitVec.toNat_and]
    exact Nat.le_trans Nat.and_le_right (by decide)
  generalize (BV (x / 2 ^ n) &&& BV 31).toNat = z at h
  unfold wrap64
  omega
/-- what a word would be, by a row -/
def insOf (e : Ent) (x : Int) : InsV :=
  ⟨e.1, if (usesV e.2).1 then fiveV x 7 else 0, if (usesV e.2).2.1 then fiveV x 15 else 0, if (usesV e.2).2.2.1 then fiveV x 20 else 0, if (usesV e.2).2.2.2 then signedV e.2 x else 0⟩
/-- is it that? -/
def matchV (e : Ent) (x : Int) : Bool := decide (e.2.op = bits .and .u32 x 127) && (decide ((encV e.2 (insOf e x)).2 = 0) && decide ((encV e.2 (insOf e x)).1 = x))

theorem ins_rd (e : Ent) (x : Int) : 0 ≤ (insOf e x).rd ∧ (insOf e x).rd ≤ 31 := by unfold insOf; simp only; split; exact five_range _ _; decide
theorem ins_rs1 (e : Ent) (x : Int) : 0 ≤ (insOf e x).rs1 ∧ (insOf e x).rs1 ≤ 31 := by unfold insOf; simp only; split; exact five_range _ _; decide
theorem ins_rs2 (e : Ent) (x : Int) : 0 ≤ (insOf e x).rs2 ∧ (insOf e x).rs2 ≤ 31 := by unfold insOf; simp only; split; exact five_range _ _; decide
theorem ins_fits (e : Ent) (x : Int) : Fits4 e.2 (insOf e x) := by
  unfold Fits4 insOf
  refine ⟨fun h => ?_, fun h => ?_, fun h => ?_, fun h => ?_⟩ <;> simp [h]

theorem match_word {e : Ent} {x : Int} (h : matchV e x = true) : e.2.op = bits .and .u32 x 127 ∧ wordV e.2 (insOf e x) = x := by
  unfold matchV at h
  simp only [Bool.and_eq_true, decide_eq_true_iff] at h
  obtain ⟨h0, h1, h2⟩ := h
  refine ⟨h0, ?_⟩
  unfold encV at h1 h2
  split at h1
  · simp at h1
  · rename_i hn
    rw [if_neg hn] at h2
    exact h2

/-- what a row fixes -/
def hasF3 (r : RowV) : Bool := decide (r.kind = 82 ∨ r.kind = 73 ∨ r.kind = 72 ∨ r.kind = 83 ∨ r.kind = 66)
def hasF7 (r : RowV) : Bool := decide (r.kind = 82 ∨ r.kind = 72)
def key3 (r : RowV) : List Bool := (List.range 3).map fun j => (BV r.f3).getLsbD j
def key7 (r : RowV) : List Bool := (List.range 7).map fun j => (BV r.f7).getLsbD j
def tidyRow (r : RowV) : Bool := (List.range 32).all fun j => (decide (j < 12) || !(BV r.op).getLsbD j) && (decide (j < 13) || !(BV r.f3).getLsbD j)
def apartRows (e f : Ent) : Bool := decide (e = f) || (!decide (e.2.op = f.2.op)) || (hasF3 e.2 && (hasF3 f.2 && decide (key3 e.2 ≠ key3 f.2))) || (hasF7 e.2 && (hasF7 f.2 && decide (key7 e.2 ≠ key7 f.2)))
theorem forms_tidy : (forms.all fun e => tidyRow e.2) = true := by decide +kernel
theorem forms_apart : (forms.all fun e => forms.all fun f => apartRows e f) = true := by decide +kernel

theorem match_one {e f : Ent} (he : e ∈ forms) (hf : f ∈ forms) {x : Int} (h1 : matchV e x = true) (h2 : matchV f x = true) : e = f := by
  have ap := List.all_eq_true.1 (List.all_eq_true.1 forms_apart e he) f hf
  have te := List.all_eq_true.1 forms_tidy e he
  have tf := List.all_eq_true.1 forms_tidy f hf
  unfold tidyRow at te tf
  rw [List.all_eq_true] at te tf
  have bite : ∀ {g : Ent}, (∀ j ∈ List.range 32, ((decide (j < 12) || !(BV g.2.op).getLsbD j) && (decide (j < 13) || !(BV g.2.f3).getLsbD j)) = true) → ∀ j, 12 ≤ j → j < 32 → (BV g.2.op).getLsbD j = false ∧ (13 ≤ j → (BV g.2.f3).getLsbD j = false) := by
    intro g h j hj hj2
    have := h j (List.mem_range.2 hj2)
    simp only [Bool.and_eq_true, Bool.or_eq_true, decide_eq_true_iff, Bool.not_eq_true'] at this
    refine ⟨?_, fun h13 => ?_⟩
    · rcases this.1 with h | h; omega; exact h
    · rcases this.2 with h | h; omega; exact h
  obtain ⟨o1, w1⟩ := match_word h1
  obtain ⟨o2, w2⟩ := match_word h2
  unfold apartRows at ap
  simp only [Bool.or_eq_true, decide_eq_true_iff, Bool.not_eq_true', decide_eq_false_iff_not, Bool.and_eq_true] at ap
  rcases ap with ((h | h) | ⟨ha, hb, h⟩) | ⟨ha, hb, h⟩
  · exact h
  · exact absurd (o1.trans o2.symm) h
  · exfalso
    refine h (List.map_congr_left fun j hj => ?_)
    have hj3 := List.mem_range.1 hj
    unfold hasF3 at ha hb
    have q1 := kind_row e.2 (insOf e x) (j + 12) (by omega) (by omega) (bite te (j + 12) (by omega) (by omega)).1 (ins_rd e x) (of_decide_eq_true ha)
    have q2 := kind_row f.2 (insOf f x) (j + 12) (by omega) (by omega) (bite tf (j + 12) (by omega) (by omega)).1 (ins_rd f x) (of_decide_eq_true hb)
    rw [w1] at q1
    rw [w2] at q2
    rw [Nat.add_sub_cancel] at q1 q2
    exact q1.symm.trans q2
  · exfalso
    refine h (List.map_congr_left fun j hj => ?_)
    have hj7 := List.mem_range.1 hj
    unfold hasF7 at ha hb
    have b1 : (BV e.2.f3).getLsbD (j + 25 - 12) = false := (bite te (j + 25 - 12) (by omega) (by omega)).2 (by omega)
    have b2 : (BV f.2.f3).getLsbD (j + 25 - 12) = false := (bite tf (j + 25 - 12) (by omega) (by omega)).2 (by omega)
    have q1 := kind_f7 e.2 (insOf e x) (j + 25) (by omega) (by omega) (bite te (j + 25) (by omega) (by omega)).1 b1 (ins_rd e x) (ins_rs1 e x) (ins_rs2 e x) (of_decide_eq_true ha)
    have q2 := kind_f7 f.2 (insOf f x) (j + 25) (by omega) (by omega) (bite tf (j + 25) (by omega) (by omega)).1 b2 (ins_rd f x) (ins_rs1 f x) (ins_rs2 f x) (of_decide_eq_true hb)
    rw [w1] at q1
    rw [w2] at q2
    rw [Nat.add_sub_cancel] at q1 q2
    exact q1.symm.trans q2
/-- a word's instruction, if it has one -/
def decV (x : Int) : Option InsV := (forms.find? fun e => matchV e x).map fun e => insOf e x
end Go.Proofs.YtgcpnjckbdajbaaGreatDoor.Ob
