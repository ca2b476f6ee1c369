import Derived.Test.YtgcpnjckbdajbaaGreatDoorQE
namespace Go.Proofs.YtgcpnjckbdajbaaGreatDoor.Ob
open Go.RowKit Go.Sort

/-! numerals -/
def dval (l : List UInt8) : Nat := l.foldl (fun a c => a * 10 + (c.toNat - 48)) 0
theorem dval_snoc (l : List UInt8) (c : UInt8) : dval (l ++ [c]) = dval l * 10 + (c.toNat - 48) := by simp [dval]
theorem u8_of {n : Nat} (h : n < 256) : (UInt8.ofNat n).toNat = n := by simp [UInt8.toNat_ofNat']; omega
theorem dval_dec (u : Nat) : dval (Lib.decDigits u) = u := by
  induction u using Nat.strongRecOn with
  | _ u ih =>
    rw [Lib.decDigits]
    split
    · rename_i h
      simp only [dval, List.foldl_cons, List.foldl_nil]
      rw [u8_of (by omega)]
      omega
    · rename_i h
      rw [dval_snoc, ih (u / 10) (by omega), u8_of (by omega)]
      omega
theorem dec_mem (u : Nat) : ∀ c ∈ Lib.decDigits u, 48 ≤ c.toNat ∧ c.toNat ≤ 57 := by
  induction u using Nat.strongRecOn with
  | _ u ih =>
    rw [Lib.decDigits]
    split
    · rename_i h
      intro c hc
      simp only [List.mem_cons, List.not_mem_nil, or_false] at hc
      subst hc
      rw [u8_of (by omega)]
      omega
    · rename_i h
      intro c hc
      rw [List.mem_append] at hc
      rcases hc with hc | hc
      · exact ih (u / 10) (by omega) c hc
      · simp only [List.mem_cons, List.not_mem_nil, or_false] at hc
        subst hc
        rw [u8_of (by omega)]
        omega
theorem dec_inj {u v : Nat} (h : Lib.decDigits u = Lib.decDigits v) : u = v := by rw [← dval_dec u, ← dval_dec v, h]
theorem itoa_clean (n : Int) : ∀ c ∈ Lib.itoa n, c ≠ 32 ∧ c ≠ 10 := by
  have key : ∀ u, ∀ c ∈ Lib.decDigits u, c ≠ 32 ∧ c ≠ 10 := by
    intro u c hc
    have := dec_mem u c hc
    constructor
    · intro e; subst e; simp at this
    · intro e; subst e; simp at this
  intro c hc
  unfold Lib.itoa at hc
  split at hc
  · rcases List.mem_cons.1 hc with rfl | hc
    · decide
    · exact key _ c hc
  · exact key _ c hc
theorem itoa_inj {m n : Int} (h : Lib.itoa m = Lib.itoa n) : m = n := by
  have key : ∀ u v : Nat, 45 :: Lib.decDigits u = Lib.decDigits v → False := by
    intro u v e
    have := dec_mem v 45 (by rw [← e]; simp)
    simp at this
  unfold Lib.itoa at h
  split at h <;> split at h
  · have := dec_inj (List.cons.inj h).2
    omega
  · exact (key _ _ h).elim
  · exact (key _ _ h.symm).elim
  · have := dec_inj h
    omega
theorem hd_inj : ∀ x, x < 16 → ∀ y, y < 16 → hd x = hd y → x = y := by decide +kernel
theorem hd_clean : ∀ x, x < 16 → hd x ≠ 32 ∧ hd x ≠ 10 := by decide +kernel
theorem hexN_inj (n : Nat) : ∀ {x y : Nat}, x < 16 ^ n → y < 16 ^ n → hexN n x = hexN n y → x = y := by
  induction n with
  | zero => intro x y hx hy _; simp at hx hy; omega
  | succ n ih =>
    intro x y hx hy h
    rw [Nat.pow_succ] at hx hy
    obtain ⟨h1, h2⟩ := List.append_inj' h rfl
    have e1 := ih (x := x / 16) (y := y / 16) (by omega) (by omega) h1
    have e2 := hd_inj (x % 16) (by omega) (y % 16) (by omega) (List.cons.inj h2).1
    omega
theorem hexN_clean (n : Nat) : ∀ x, ∀ c ∈ hexN n x, c ≠ 32 ∧ c ≠ 10 := by
  induction n with
  | zero => intro x c h; simp [hexN] at h
  | succ n ih =>
    intro x c h
    rw [hexN, List.mem_append] at h
    rcases h with h | h
    · exact ih _ c h
    · simp only [List.mem_cons, List.not_mem_nil, or_false] at h
      subst h
      exact hd_clean _ (by omega)
theorem word8_inj : ∀ (n : Nat) {l m : List Int}, l.length = n → m.length = n → (∀ x ∈ l, 0 ≤ x ∧ x < 256) → (∀ x ∈ m, 0 ≤ x ∧ x < 256) → word8 l = word8 m → l = m := by
  intro n
  induction n with
  | zero =>
    intro l m hl hm _ _ _
    rw [List.eq_nil_of_length_eq_zero hl, List.eq_nil_of_length_eq_zero hm]
  | succ n ih =>
    intro l m hl hm hx hy h
    have hne : l ≠ [] := by intro e; subst e; simp at hl
    have hme : m ≠ [] := by intro e; subst e; simp at hm
    obtain ⟨l', c, rfl⟩ : ∃ l' c, l = l' ++ [c] := ⟨l.dropLast, l.getLast hne, (List.dropLast_concat_getLast hne).symm⟩
    obtain ⟨m', d, rfl⟩ : ∃ m' d, m = m' ++ [d] := ⟨m.dropLast, m.getLast hme, (List.dropLast_concat_getLast hme).symm⟩
    rw [word8_snoc, word8_snoc] at h
    have h1 := hx c (by simp)
    have h2 := hy d (by simp)
    have e1 : word8 l' = word8 m' := by omega
    have e2 : c = d := by omega
    rw [ih (by simpa using hl) (by simpa using hm) (fun x h => hx x (by simp [h])) (fun x h => hy x (by simp [h])) e1, e2]

/-! splitting -/
theorem sep_inj {c : UInt8} {u v x y : List UInt8} (hu : ∀ a ∈ u, a ≠ c) (hv : ∀ a ∈ v, a ≠ c) (hx : x = [] ∨ ∃ x', x = c :: x') (hy : y = [] ∨ ∃ y', y = c :: y') (h : u ++ x = v ++ y) : u = v ∧ x = y := by
  have key : ∀ {u x : List UInt8}, (∀ a ∈ u, a ≠ c) → (x = [] ∨ ∃ x', x = c :: x') → (u ++ x).takeWhile (fun a => a != c) = u := by
    intro u x hu hx
    rw [List.takeWhile_append_of_pos (by simpa using hu)]
    rcases hx with rfl | ⟨x', rfl⟩
    · simp
    · simp
  have e : u = v := by rw [← key hu hx, h, key hv hy]
  subst e
  exact ⟨rfl, List.append_cancel_left h⟩
def Clean (l : List UInt8) : Prop := ∀ c ∈ l, c ≠ 32 ∧ c ≠ 10
theorem tail_start (xs : List Int) : numTail xs = [] ∨ ∃ x', numTail xs = 32 :: x' := by
  cases xs with
  | nil => exact .inl rfl
  | cons x xs => exact .inr ⟨_, rfl⟩
theorem tail_clean {xs : List Int} : ∀ c ∈ numTail xs, c ≠ 10 := by
  intro c hc
  unfold numTail at hc
  obtain ⟨x, _, hc⟩ := List.mem_flatMap.1 hc
  rcases List.mem_cons.1 hc with rfl | hc
  · decide
  · exact (itoa_clean x c hc).2
theorem tail_inj : ∀ {xs ys : List Int}, numTail xs = numTail ys → xs = ys
  | [], [], _ => rfl
  | [], y :: ys, h => by simp [numTail] at h
  | x :: xs, [], h => by simp [numTail] at h
  | x :: xs, y :: ys, h => by
    have h' : 32 :: (Lib.itoa x ++ numTail xs) = 32 :: (Lib.itoa y ++ numTail ys) := by simpa [numTail] using h
    obtain ⟨e1, e2⟩ := sep_inj (fun a ha => (itoa_clean x a ha).1) (fun a ha => (itoa_clean y a ha).1) (tail_start xs) (tail_start ys) (List.cons.inj h').2
    rw [itoa_inj e1, tail_inj e2]
/-- a line without its end -/
def body (w : List UInt8) (xs : List Int) : List UInt8 := w ++ numTail xs
theorem body_clean {w : List UInt8} {xs : List Int} (hw : Clean w) : ∀ c ∈ body w xs, c ≠ 10 := by
  intro c hc
  rcases List.mem_append.1 hc with hc | hc
  · exact (hw c hc).2
  · exact tail_clean c hc
theorem body_inj {w v : List UInt8} {xs ys : List Int} (hw : Clean w) (hv : Clean v) (h : body w xs = body v ys) : w = v ∧ xs = ys := by
  obtain ⟨e1, e2⟩ := sep_inj (fun a ha => (hw a ha).1) (fun a ha => (hv a ha).1) (tail_start xs) (tail_start ys) h
  exact ⟨e1, tail_inj e2⟩
theorem lines_inj : ∀ {ls ms : List (List UInt8)}, (∀ l ∈ ls, ∀ c ∈ l, c ≠ 10) → (∀ l ∈ ms, ∀ c ∈ l, c ≠ 10) → ls.flatMap (· ++ [10]) = ms.flatMap (· ++ [10]) → ls = ms
  | [], [], _, _, _ => rfl
  | [], m :: ms, _, _, h => by simp at h
  | l :: ls, [], _, _, h => by simp at h
  | l :: ls, m :: ms, hl, hm, h => by
    have h' : l ++ (10 :: ls.flatMap (· ++ [10])) = m ++ (10 :: ms.flatMap (· ++ [10])) := by simpa using h
    obtain ⟨e1, e2⟩ := sep_inj (hl l (by simp)) (hm m (by simp)) (.inr ⟨_, rfl⟩) (.inr ⟨_, rfl⟩) h'
    rw [e1, lines_inj (fun l h => hl l (by simp [h])) (fun l h => hm l (by simp [h])) (List.cons.inj e2).2]
end Go.Proofs.YtgcpnjckbdajbaaGreatDoor.Ob
