import Derived.Test.YthfppmgnemmckaaGreatDoorRQ
namespace Go.Proofs.YthfppmgnemmckaaGreatDoor.PDo
open Go.RowKit Go.Proofs.YthfppmgnemmckaaGreatDoorW.PrintWords Go.Proofs.YthfppmgnemmckaaGreatDoorW.PrintLast Go.Proofs.YthfppmgnemmckaaGreatDoorW.PrintMore

/-- the value is a slice that reads as the digits of n, at most L of them -/
def NumD (w : World) (v : Value) (n L : Nat) : Prop := ∃ (l : List Int) (A : Option Addr) (c : Nat), v = .slice A l.length c ∧ Kd.C (Kd.int .i64) w A l.length l ∧ l.length ≤ c ∧ Dig l ∧ val l = n ∧ l.length ≤ L
/-- .. the last of which is not 0 -/
def NumC (w : World) (v : Value) (n L : Nat) : Prop := ∃ (l : List Int) (A : Option Addr) (c : Nat), v = .slice A l.length c ∧ Kd.C (Kd.int .i64) w A l.length l ∧ l.length ≤ c ∧ Canon l ∧ val l = n ∧ l.length ≤ L
theorem NumC.d {w : World} {v : Value} {n L : Nat} (h : NumC w v n L) : NumD w v n L := by
  obtain ⟨l, A, c, h1, h2, h3, h4, h5, h6⟩ := h
  exact ⟨l, A, c, h1, h2, h3, h4.1, h5, h6⟩
theorem NumD.below {w w1 : World} {v : Value} {n L : Nat} (h : NumD w v n L) (hb : Below w.heap.size w w1) : NumD w1 v n L := by
  obtain ⟨l, A, c, h1, h2, h3⟩ := h
  exact ⟨l, A, c, h1, Kd.C_below h2 hb, h3⟩
theorem NumC.below {w w1 : World} {v : Value} {n L : Nat} (h : NumC w v n L) (hb : Below w.heap.size w w1) : NumC w1 v n L := by
  obtain ⟨l, A, c, h1, h2, h3⟩ := h
  exact ⟨l, A, c, h1, Kd.C_below h2 hb, h3⟩
theorem NumD.more {w : World} {v : Value} {n L L' : Nat} (h : NumD w v n L) (hl : L ≤ L') : NumD w v n L' := by
  obtain ⟨l, A, c, h1, h2, h3, h4, h5, h6⟩ := h
  exact ⟨l, A, c, h1, h2, h3, h4, h5, by omega⟩
theorem NumC.more {w : World} {v : Value} {n L L' : Nat} (h : NumC w v n L) (hl : L ≤ L') : NumC w v n L' := by
  obtain ⟨l, A, c, h1, h2, h3, h4, h5, h6⟩ := h
  exact ⟨l, A, c, h1, h2, h3, h4, h5, by omega⟩
theorem NumD.of_R {w : World} {base : Nat} {ok : Nat → Prop} {v : Value} {l : List Int} {n L : Nat} (h : Kd.R (Kd.int .i64) 3 w base ok v l) (hd : Dig l) (hv : val l = n) (hl : l.length ≤ L) : NumD w v n L := by
  obtain ⟨A, c, rfl⟩ := Kd.R_slice h
  obtain ⟨_, h1, h2⟩ := Kd.R_reads' h
  exact ⟨l, A, c, rfl, h2, h1, hd, hv, hl⟩
theorem NumC.of_R {w : World} {base : Nat} {ok : Nat → Prop} {v : Value} {l : List Int} {n L : Nat} (h : Kd.R (Kd.int .i64) 3 w base ok v l) (hd : Canon l) (hv : val l = n) (hl : l.length ≤ L) : NumC w v n L := by
  obtain ⟨A, c, rfl⟩ := Kd.R_slice h
  obtain ⟨_, h1, h2⟩ := Kd.R_reads' h
  exact ⟨l, A, c, rfl, h2, h1, hd, hv, hl⟩
theorem NumD.of_V {w : World} {base : Nat} {ok : Nat → Prop} {v : Value} {l : List Int} {n L : Nat} (h : Kd.V (Kd.int .i64) 3 w base ok v l) (hd : Dig l) (hv : val l = n) (hl : l.length ≤ L) : NumD w v n L := by
  obtain ⟨A, c, rfl⟩ := Kd.V_slice h
  obtain ⟨_, h1, h2⟩ := Kd.V_reads' h
  exact ⟨l, A, c, rfl, h2, h1, hd, hv, hl⟩
/-- a row that is read, as a row that may be anything's -/
theorem V_of_C {w : World} {A : Option Addr} {l : List Int} {c : Nat} (h : Kd.C (Kd.int .i64) w A l.length l) (hc : l.length ≤ c) : Kd.V (Kd.int .i64) 3 w w.heap.size (fun _ => True) (.slice A l.length c) l := by
  exact Kd.V_mono (Kd.V_mk hc (Kd.C_F (Kd.heap_int .i64) h)) (fun _ _ => trivial)

/-! The callees, said of numbers. -/
theorem of_num (n : Nat) (hn : n < 2 ^ 63) (w : World) : Calls Tryz.prog 25 #[.int .i64 n] w fun e w' => ∃ v, e = .returned v ∧ NumC w' v n 63 ∧ Below w.heap.size w w' := by
  obtain ⟨r, hr, c1, c2, c3⟩ := of_is n hn 101 (by omega)
  refine (solderref02_of.calls 101 n r w hr).mono ?_
  rintro e w' ⟨v, rfl, hR, hB⟩
  exact ⟨v, rfl, NumC.of_R hR c1 c2 c3, hB⟩
theorem twice_num {w : World} {v : Value} {n L : Nat} (h : NumD w v n L) (hL : L ≤ 20000) (m : Nat) (hm : m ≤ 50000) : Calls Tryz.prog 35 #[v, .int .i64 m] w fun e w' => ∃ v', e = .returned v' ∧ NumD w' v' (2 ^ m * n) (L + m / 16 + 1) ∧ Below w.heap.size w w' := by
  obtain ⟨l, A, c, rfl, h1, h2, h3, h4, h5⟩ := h
  obtain ⟨r, hr, c1, c2, c3⟩ := twice_is l (by omega) h3 m hm (3 * l.length + m + 101) (by omega)
  refine (solderref02_twice.calls _ A c l m r w h1 h2 hr).mono ?_
  rintro e w' ⟨v, rfl, hR, hB⟩
  exact ⟨v, rfl, NumD.of_R hR c1 (by rw [c2, h4]) (by omega), hB⟩
theorem size_num {w : World} {v : Value} {n L : Nat} (h : NumC w v n L) (hL : L ≤ 20000) : Calls Tryz.prog 39 #[v] w fun e w' => e = .returned (.int .i64 (RM.bits n : Nat)) ∧ Drawn0 w w' := by
  obtain ⟨l, A, c, rfl, h1, h2, h3, h4, h5⟩ := h
  have hr := size_is l (by omega) h3 31 (by omega)
  rw [h4] at hr
  exact solderref02_size.calls 31 A c l _ w h1 h2 hr
theorem plus_num {w : World} {v u : Value} {n m L M : Nat} (h : NumD w v n L) (h' : NumD w u m M) (hL : L ≤ 20000) (hM : M ≤ 20000) : Calls Tryz.prog 36 #[v, u] w fun e w' => ∃ v', e = .returned v' ∧ NumC w' v' (n + m) (max L M + 1) ∧ Below w.heap.size w w' := by
  obtain ⟨l, A, c, rfl, h1, h2, h3, h4, h5⟩ := h
  obtain ⟨l', A', c', rfl, h1', h2', h3', h4', h5'⟩ := h'
  obtain ⟨r, hr, c1, c2, c3⟩ := plus_is l l' (by omega) (by omega) h3 h3' (3 * max l.length l'.length + 11) (by omega)
  refine (solderref02_plus.calls _ A c l A' c' l' r w h1 h2 h1' h2' hr).mono ?_
  rintro e w' ⟨v, rfl, hR, hB⟩
  exact ⟨v, rfl, NumC.of_R hR c1 (by rw [c2, h4, h4']) (by omega), hB⟩
theorem minus_num {w : World} {v u : Value} {n m L M : Nat} (h : NumD w v n L) (h' : NumD w u m M) (hL : L ≤ 20000) (_hM : M ≤ 20000) (hle : m ≤ n) : Calls Tryz.prog 38 #[v, u] w fun e w' => ∃ v', e = .returned v' ∧ NumC w' v' (n - m) L ∧ Below w.heap.size w w' := by
  obtain ⟨l, A, c, rfl, h1, h2, h3, h4, h5⟩ := h
  obtain ⟨l', A', c', rfl, h1', h2', h3', h4', h5'⟩ := h'
  obtain ⟨r, hr, c1, c2, c3⟩ := minus_is l l' (by omega) h3 h3' (by omega) (3 * l.length + 11) (by omega)
  refine (solderref02_minus.calls _ A c l A' c' l' r w h1 h2 h1' h2' hr).mono ?_
  rintro e w' ⟨v, rfl, hR, hB⟩
  exact ⟨v, rfl, NumC.of_R hR c1 (by rw [c2, h4, h4']) (by omega), hB⟩
theorem compare_num {w : World} {v u : Value} {n m L M : Nat} (h : NumD w v n L) (h' : NumD w u m M) (hL : L ≤ 20000) (hM : M ≤ 20000) : Calls Tryz.prog 37 #[v, u] w fun e w' => e = .returned (.int .i64 (sgnOf n m)) ∧ Drawn0 w w' := by
  obtain ⟨l, A, c, rfl, h1, h2, h3, h4, h5⟩ := h
  obtain ⟨l', A', c', rfl, h1', h2', h3', h4', h5'⟩ := h'
  have hr := compare_is l l' (by omega) (by omega) h3 h3' (max l.length l'.length + 11) (by omega)
  rw [h4, h4'] at hr
  exact solderref02_compare.calls _ A c l A' c' l' _ w h1 h2 h1' h2' hr
theorem times_num {w : World} {v u : Value} {n m L M : Nat} (h : NumD w v n L) (h' : NumD w u m M) (hL : L ≤ 1000) (hM : M ≤ 1000) : Calls Tryz.prog 24 #[v, u] w fun e w' => ∃ v', e = .returned v' ∧ NumC w' v' (n * m) 20000 ∧ Below w.heap.size w w' := by
  obtain ⟨l, A, c, rfl, h1, h2, h3, h4, h5⟩ := h
  obtain ⟨l', A', c', rfl, h1', h2', h3', h4', h5'⟩ := h'
  obtain ⟨r, hr, c1, c2, c3⟩ := times_is l l' (by omega) (by omega) h3 h3' 200001 (by omega)
  refine (solderref02_times.calls _ A c l A' c' l' r w h1 h2 h1' h2' hr).mono ?_
  rintro e w' ⟨v, rfl, hR, hB⟩
  exact ⟨v, rfl, NumC.of_R hR c1 (by rw [c2, h4, h4']) (by omega), hB⟩
theorem divide_num {w : World} {v u : Value} {n m L M : Nat} (h : NumD w v n L) (h' : NumD w u m M) (hL : L ≤ 20000) (hM : M ≤ 20000) (h0 : 0 < m) (hq : n < m * 144115188075855872) : Calls Tryz.prog 40 #[v, u] w fun e w' => ∃ v', e = .returned (.tuple #[.int .i64 (n / m : Nat), v']) ∧ NumD w' v' (n % m) L ∧ Below w.heap.size w w' := by
  obtain ⟨l, A, c, rfl, h1, h2, h3, h4, h5⟩ := h
  obtain ⟨l', A', c', rfl, h1', h2', h3', h4', h5'⟩ := h'
  obtain ⟨r, hr, c1, c2, c3⟩ := divide_is l l' (by omega) (by omega) h3 h3' (by omega) (by rw [h4, h4']; exact hq) 300001 (by omega)
  rw [h4, h4'] at hr
  refine (solderref02_divide.calls _ (fun _ => True) A c l A' c' l' _ r w (V_of_C h1 h2) h1' h2' hr).mono ?_
  rintro e w' ⟨v, rfl, hR, hB⟩
  exact ⟨v, rfl, NumD.of_V hR c1 (by rw [c2, h4, h4']) (by omega), hB⟩
end Go.Proofs.YthfppmgnemmckaaGreatDoor.PDo
