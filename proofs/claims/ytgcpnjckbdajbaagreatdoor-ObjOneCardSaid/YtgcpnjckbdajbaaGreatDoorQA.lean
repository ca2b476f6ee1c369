import Derived.Test.YtgcpnjckbdajbaaGreatDoorPN
import Derived.Lib.TrailingZeros
namespace Go.Proofs.YtgcpnjckbdajbaaGreatDoor.Ob
open Go.RowKit Go.Sort

/-- the table of the library's count of trailing zeros -/
abbrev Tab64 (w : World) : Prop := w.cell? ⟨7, 15, none⟩ = some (.int .u8 4)
theorem pow_calls (w : World) : Calls Tryz.prog 123 #[.int .i64 16] w fun e w' => e = .returned (.bool true) ∧ w = w' := by
  go_enter Tryz.func123, Tryz.ntmps123
  go_wp2
  go_ret
  exact ⟨rfl, rfl⟩
theorem tz_calls (w : World) (hT : Tab64 w) : Calls Tryz.prog 135 #[.int .u64 16] w fun e w' => e = .returned (.int .i64 4) ∧ w = w' := by
  have key : IntKind.u64.wrap (Go.bits BinOp.and IntKind.u64 16 (IntKind.u64.wrap (-16)) * 285870213051353865) / 288230376151711744 = 15 := by decide +kernel
  have hT' : w.cell? ⟨7, 15, none⟩ = some (.int .u8 4) := hT
  go_enter Tryz.func135, Tryz.ntmps135
  go_wp2_with fail
  go_ret
  exact ⟨rfl, rfl⟩
theorem trailing_calls (w : World) (hT : Tab64 w) : Calls Tryz.prog 124 #[.int .u64 16] w fun e w' => e = .returned (.int .i64 4) ∧ w = w' := by
  go_enter Tryz.func124, Tryz.ntmps124
  go_wp2_with fail
  refine (tz_calls _ hT).mono ?_
  rintro e w1 ⟨rfl, rfl⟩
  go_wp2
  go_ret
  exact ⟨rfl, rfl⟩
/-- a digit of base 16 -/
def hd (n : Nat) : UInt8 := if n < 10 then UInt8.ofNat (48 + n) else UInt8.ofNat (87 + n)
def hexDigits (n : Nat) : List UInt8 := if _h : n < 16 then [hd n] else hexDigits (n / 16) ++ [hd (n % 16)]
theorem hexDigits_lt {n : Nat} (h : n < 16) : hexDigits n = [hd n] := by rw [hexDigits, dif_pos h]
theorem hexDigits_ge {n : Nat} (h : ¬ n < 16) : hexDigits n = hexDigits (n / 16) ++ [hd (n % 16)] := by rw [hexDigits, dif_neg h]
theorem dig (u : Nat) (h : u < (⟨#[48, 49, 50, 51, 52, 53, 54, 55, 56, 57, 97, 98, 99, 100, 101, 102, 103, 104, 105, 106, 107, 108, 109, 110, 111, 112, 113, 114, 115, 116, 117, 118, 119, 120, 121, 122]⟩ : ByteArray).size) : ((⟨#[48, 49, 50, 51, 52, 53, 54, 55, 56, 57, 97, 98, 99, 100, 101, 102, 103, 104, 105, 106, 107, 108, 109, 110, 111, 112, 113, 114, 115, 116, 117, 118, 119, 120, 121, 122]⟩ : ByteArray)[u]'h) = hd u := by
  have key : ∀ u, ∀ h : u < (⟨#[48, 49, 50, 51, 52, 53, 54, 55, 56, 57, 97, 98, 99, 100, 101, 102, 103, 104, 105, 106, 107, 108, 109, 110, 111, 112, 113, 114, 115, 116, 117, 118, 119, 120, 121, 122]⟩ : ByteArray).size, ((⟨#[48, 49, 50, 51, 52, 53, 54, 55, 56, 57, 97, 98, 99, 100, 101, 102, 103, 104, 105, 106, 107, 108, 109, 110, 111, 112, 113, 114, 115, 116, 117, 118, 119, 120, 121, 122]⟩ : ByteArray)[u]'h) = hd u := by decide +kernel
  exact key u h
/-- the row of 65 bytes, filled from behind -/
structure Row65 (N : Nat) (l : List UInt8) (w W : World) : Prop where
  row : W.heap[N]? = some (.cells (List.replicate (65 - l.length) (Value.int .u8 0) ++ l.map fun b => Value.int .u8 (b.toNat : Int)).toArray 180 (0, 0))
  below : Below N w W
theorem Row65.zero {N : Nat} {l : List UInt8} {w W : World} (h : Row65 N l w W) (hl : l.length < 65) :
    W.cell? ⟨N, 64 - l.length, none⟩ = some (.int .u8 0) ∧ W.frozen? ⟨N, 64 - l.length, none⟩ = false := by
  constructor
  · simp only [World.cell?, h.row]
    simp
    rw [List.getElem?_append_left (by simp; omega), List.getElem?_replicate, if_pos (by omega)]
  · simp [World.frozen?, h.row]
theorem Row65.put {N : Nat} {l : List UInt8} {w W : World} (h : Row65 N l w W) (hl : l.length < 65) (b : UInt8) :
    Row65 N (b :: l) w (W.setCell ⟨N, 64 - l.length, none⟩ (.int .u8 (b.toNat : Int))) := by
  refine ⟨?_, h.below.setCell (p := ⟨N, 64 - l.length, none⟩) (Nat.le_refl _) _⟩
  simp only [World.setCell, Array.getElem?_modify, h.row]
  simp
  rw [show 65 - l.length = (64 - l.length) + 1 by omega, List.replicate_succ', List.append_assoc]
  rw [List.set_append_right _ _ (by simp)]
  simp
theorem Row65.at {N : Nat} {l : List UInt8} {w W : World} (h : Row65 N l w W) (j : Nat) (hj : j < l.length) :
    W.cell? (Addr.add ⟨N, 65 - l.length, none⟩ j) = some (.int .u8 (l[j].toNat : Int)) := by
  rw [Lib.add_plain]
  simp only [World.cell?, h.row]
  simp
  rw [List.getElem?_append_right (by simp)]
  simp [hj]
set_option maxRecDepth 100000 in
set_option maxHeartbeats 4000000 in
theorem format_calls (x : Nat) (hx : x < 18446744073709551616) (w : World) (hT : Tab64 w) (h7 : 7 < w.heap.size) :
    Calls Tryz.prog 98 #[.slice none 0 0, .int .u64 x, .int .i64 16, .bool false, .bool false] w fun e w' => e = .returned (.tuple #[.slice none 0 0, .string ⟨(hexDigits x).toArray⟩]) ∧ Below w.heap.size w w' := by
  go_enter Tryz.func98, Tryz.ntmps98
  go_wp2_with fail
  refine (pow_calls _).mono ?_
  rintro e w1 ⟨rfl, rfl⟩
  go_wp2_with fail
  refine (trailing_calls _ ?hT).mono ?_
  case hT => exact (cell_of_old (by simpa using h7)).trans hT
  rintro e w1 ⟨rfl, rfl⟩
  obtain ⟨N, hN⟩ : ∃ N, w.heap.size = N := ⟨_, rfl⟩
  simp only [hN]
  go_wp2_with fail
  go_loopg [1, 13] 15 (fun kq v1 v13 wr => ∃ (u : Nat) (l : List UInt8) (i : Nat), v1 = .int .u64 u ∧ v13 = .int .i64 ((i : Int) + 1) ∧ l.length + i = 64 ∧ l.length + kq = 15 ∧ u < 16 ^ (kq + 1) ∧ u < 18446744073709551616 ∧ Pack (Row65 N l w wr ∧ hexDigits x = hexDigits u ++ l))
  case atStart => exact ⟨x, [], 64, rfl, rfl, rfl, rfl, hx, hx, ⟨⟨by rw [← hN]; exact heap_alloc_new w _, by rw [← hN]; exact (Below.refl _ w).alloc (Nat.le_refl _) _⟩, by simp⟩⟩
  case round =>
    obtain ⟨u, l, i, rfl, rfl, hi, hl, hu, hu64, PR⟩ := hrel
    have ei : 64 - l.length = i := by omega
    obtain ⟨zc, zf⟩ := PR.out.1.zero (by omega)
    rw [ei] at zc zf
    by_cases hlt : u < 16
    · have hlt' : ¬ ((16 : Int) ≤ (u : Int)) := by omega
      have PN := Pack.mk (PR.out.1.put (by omega) (hd u))
      have eH : hexDigits x = hd u :: l := by rw [PR.out.2, hexDigits_lt hlt]; rfl
      have EH := Pack.mk eH
      clear eH
      have hsl : ∀ W, Sem.run Tryz.prog (Instr.sliceAt 180 (.pointer (some ⟨N, 0, none⟩)) (some (.int .i64 (i : Int))) none none) W = .ok (.slice (some ⟨N, i, none⟩) (65 - i) (65 - i)) W := fun W => by
        have hal : Tryz.prog.arrayLen 180 = 65 := by kernel_rfl
        rw [run_sliceAt_array_l W 180 ⟨N, 0, none⟩ (by simp [Program.arrayLen, Program.elem, Tryz.underlying180]) .i64 (i : Int) (by omega) (by rw [hal]; omega)]
        go_simp
        omega
      go_upto_region 30 with fail
      simp only [dig]
      rw [ei] at PN
      have hcv : Sem.run Tryz.prog (convert 24 9 (.slice (some ⟨N, i, none⟩) (65 - i) (65 - i))) (wr.setCell ⟨N, i, none⟩ (.int .u8 ((hd u).toNat : Int))) = .ok (.string ⟨(hd u :: l).toArray⟩) (wr.setCell ⟨N, i, none⟩ (.int .u8 ((hd u).toNat : Int))) := by
        have h := run_convert_bytes_back (P := Tryz.prog) (wr.setCell ⟨N, i, none⟩ (.int .u8 ((hd u).toNat : Int))) 24 9 5 ⟨N, i, none⟩ (65 - i) (hd u :: l) Tryz.underlying24 Tryz.underlying5 Tryz.underlying9 (fun j hj => by
          have := PN.out.at j hj
          rwa [show 65 - (hd u :: l).length = i by simp only [List.length_cons]; omega] at this)
        rwa [show (hd u :: l).length = 65 - i by simp only [List.length_cons]; omega] at h
      go_wp2_with fail
      go_ret2
      exact ⟨by rw [EH.out]; rfl, by rw [hN]; exact PN.out.below⟩
    · have hlt' : (16 : Int) ≤ (u : Int) := by omega
      have hb : Go.bits BinOp.and IntKind.u64 (u : Int) 15 = ((u % 16 : Nat) : Int) := by
        rw [show (15 : Int) = ((15 : Nat) : Int) by rfl, bits_and_u64_nat u 15 (by omega) (by omega), show (15 : Nat) = 2 ^ 4 - 1 by rfl, Nat.and_two_pow_sub_one_eq_mod]
      have PN := Pack.mk (PR.out.1.put (by omega) (hd (u % 16)))
      rw [ei] at PN
      have eH : hexDigits x = hexDigits (u / 16) ++ (hd (u % 16) :: l) := by rw [PR.out.2, hexDigits_ge hlt]; simp
      have EH := Pack.mk eH
      clear eH
      go_wp2_with fail
      simp only [dig]
      have hk : 1 ≤ gk := by
        rcases Nat.eq_zero_or_pos gk with h | h
        · subst h; simp at hu; omega
        · exact h
      have hp : (16 : Nat) ^ (gk + 1) = 16 * 16 ^ (gk - 1 + 1) := by rw [← Nat.pow_succ']; congr 1; omega
      go_roundg (gk - 1)
      case measure => omega
      case rel => exact ⟨u / 16, hd (u % 16) :: l, i - 1, by simp, by congr 1; omega, by simp only [List.length_cons]; omega, by simp only [List.length_cons]; omega, by omega, by omega, ⟨PN.out, EH.out⟩⟩
theorem fmtUint_calls (x : Nat) (hx : x < 18446744073709551616) (w : World) (hT : Tab64 w) (h7 : 7 < w.heap.size) :
    Calls Tryz.prog 58 #[.int .u64 x, .int .i64 16] w fun e w' => e = .returned (.string ⟨(hexDigits x).toArray⟩) ∧ Below w.heap.size w w' := by
  have C : Calls Tryz.prog 73 #[.int .u64 x, .int .i64 16] w fun e w' => e = .returned (.string ⟨(hexDigits x).toArray⟩) ∧ Below w.heap.size w w' := by
    go_enter Tryz.func73, Tryz.ntmps73
    go_wp2_with fail
    refine (format_calls x hx _ hT h7).mono ?_
    rintro e w1 ⟨rfl, h⟩
    go_wp2
    go_ret
    exact ⟨rfl, h⟩
  go_enter Tryz.func58, Tryz.ntmps58
  go_wp2_with fail
  refine C.mono ?_
  rintro e w1 ⟨rfl, h⟩
  go_wp2
  go_ret
  exact ⟨rfl, h⟩
theorem zeros (n : Nat) (hn : n < 17) : (⟨#[48, 48, 48, 48, 48, 48, 48, 48, 48, 48, 48, 48, 48, 48, 48, 48, 48, 48, 48, 48, 48, 48, 48, 48, 48, 48, 48, 48, 48, 48, 48, 48, 48, 48, 48, 48, 48, 48, 48, 48, 48, 48, 48, 48, 48, 48, 48, 48, 48, 48, 48, 48, 48, 48, 48, 48, 48, 48, 48, 48, 48, 48, 48, 48]⟩ : ByteArray).extract 0 n = ⟨(List.replicate n (48 : UInt8)).toArray⟩ := by
  have key : ∀ n, n < 17 → (⟨#[48, 48, 48, 48, 48, 48, 48, 48, 48, 48, 48, 48, 48, 48, 48, 48, 48, 48, 48, 48, 48, 48, 48, 48, 48, 48, 48, 48, 48, 48, 48, 48, 48, 48, 48, 48, 48, 48, 48, 48, 48, 48, 48, 48, 48, 48, 48, 48, 48, 48, 48, 48, 48, 48, 48, 48, 48, 48, 48, 48, 48, 48, 48, 48]⟩ : ByteArray).extract 0 n = ⟨(List.replicate n (48 : UInt8)).toArray⟩ := by decide +kernel
  exact key n hn
theorem prefix_calls (s : ByteArray) (b : Bool) (h : Lib.hasPrefix s.data.toList [48] = b) (w : World) :
    Calls Tryz.prog 75 #[.string s, .string ⟨#[48]⟩] w fun e w' => e = .returned (.bool b) ∧ w = w' := by
  refine (Tryz.strings_HasPrefix s ⟨#[48]⟩ w).mono ?_
  rintro e w' ⟨rfl, rfl⟩
  exact ⟨by rw [← h], rfl⟩
set_option maxRecDepth 100000 in
theorem repeat_calls (n : Nat) (hn : n < 17) (w : World) :
    Calls Tryz.prog 59 #[.string ⟨#[48]⟩, .int .i64 n] w fun e w' => e = .returned (.string ⟨(List.replicate n (48 : UInt8)).toArray⟩) ∧ Below w.heap.size w w' := by
  by_cases h0 : n = 0
  · subst h0
    go_enter Tryz.func59, Tryz.ntmps59
    go_wp2
    go_ret
    exact ⟨rfl, Below.refl _ _⟩
  by_cases h1 : n = 1
  · subst h1
    go_enter Tryz.func59, Tryz.ntmps59
    go_wp2
    go_ret
    exact ⟨rfl, Below.refl _ _⟩
  have i0 : ((n : Int) == 0) = false := beq_eq_false_iff_ne.2 (by omega)
  have i1 : ((n : Int) == 1) = false := beq_eq_false_iff_ne.2 (by omega)
  have i2 : ¬ ((n : Int) < 0) := by omega
  have C := Tryz.bits_Mul 1 n (by omega) (by omega) w
  rw [show 1 * n / 18446744073709551616 = 0 by omega, show 1 * n % 18446744073709551616 = n by omega] at C
  have hle : (n : Int) ≤ 64 := by omega
  have hc9 : (9223372036854775807 < (n : Int)) = False := eq_false (by omega)
  have PC := Pack.mk C
  clear C
  go_enter Tryz.func59, Tryz.ntmps59
  go_wp2_with fail
  refine PC.out.mono ?_
  rintro e w1 ⟨rfl, rfl⟩
  go_wp2_with fail
  refine (prefix_calls _ false ?h _).mono ?_
  case h => kernel_rfl
  rintro e w1 ⟨rfl, rfl⟩
  go_wp2_with fail
  refine (prefix_calls _ false ?h _).mono ?_
  case h => kernel_rfl
  rintro e w1 ⟨rfl, rfl⟩
  go_wp2_with fail
  refine (prefix_calls _ true ?h _).mono ?_
  case h => kernel_rfl
  rintro e w1 ⟨rfl, rfl⟩
  go_wp2_with fail
  go_ret
  exact ⟨by rw [← zeros n hn]; rfl, Below.refl _ _⟩
/-- a number of n digits of base 16 -/
def hexN : Nat → Nat → List UInt8
  | 0, _ => []
  | n + 1, x => hexN n (x / 16) ++ [hd (x % 16)]
theorem hexN_len (n x : Nat) : (hexN n x).length = n := by
  induction n generalizing x with
  | zero => rfl
  | succ n ih => simp [hexN, ih]
theorem hexN_zero (n : Nat) : hexN n 0 = List.replicate n 48 := by
  induction n with
  | zero => rfl
  | succ n ih =>
    rw [hexN, Nat.zero_div, ih, List.replicate_succ']
    rfl
theorem hexDigits_pos (x : Nat) : 1 ≤ (hexDigits x).length := by
  by_cases h : x < 16
  · rw [hexDigits_lt h]; simp
  · rw [hexDigits_ge h]; simp
theorem hex_pad (n : Nat) : ∀ x, x < 16 ^ n → 1 ≤ n → (hexDigits x).length ≤ n ∧ List.replicate (n - (hexDigits x).length) 48 ++ hexDigits x = hexN n x := by
  induction n with
  | zero => intro x _ h; omega
  | succ n ih =>
    intro x hx _
    by_cases h : x < 16
    · rw [hexDigits_lt h, hexN, Nat.div_eq_of_lt h, hexN_zero, Nat.mod_eq_of_lt h]
      simp
    · have hn : 1 ≤ n := by
        rcases Nat.eq_zero_or_pos n with e | e
        · subst e; simp at hx; omega
        · exact e
      have hp : (16 : Nat) ^ (n + 1) = 16 * 16 ^ n := by rw [Nat.pow_succ']
      obtain ⟨h1, h2⟩ := ih (x / 16) (by omega) hn
      rw [hexDigits_ge h, hexN]
      refine ⟨by simp; omega, ?_⟩
      rw [← h2]
      simp
set_option maxRecDepth 100000 in
theorem digits_calls (x n : Nat) (hx : x < 16 ^ n) (hn : 1 ≤ n) (hn2 : n ≤ 16) (w : World) (hT : Tab64 w) (h7 : 7 < w.heap.size) :
    Calls Tryz.prog 34 #[.int .u64 x, .int .i64 n] w fun e w' => e = .returned (.string ⟨(hexN n x).toArray⟩) ∧ Below w.heap.size w w' := by
  obtain ⟨h1, h2⟩ := hex_pad n x hx hn
  have hx64 : x < 18446744073709551616 := Nat.lt_of_lt_of_le hx (Nat.le_trans (Nat.pow_le_pow_right (by decide) hn2) (by decide))
  have hsz : (⟨(hexDigits x).toArray⟩ : ByteArray).size = (hexDigits x).length := by simp [ByteArray.size]
  have hw : IntKind.i64.wrap ((n : Int) - ((hexDigits x).length : Int)) = ((n - (hexDigits x).length : Nat) : Int) := by
    rw [IntWalk.i64_in _ (by omega)]; omega
  have PH := Pack.mk h2
  have hcat : ¬ (9223372036854775807 < (⟨(List.replicate (n - (hexDigits x).length) (48 : UInt8)).toArray⟩ : ByteArray).size + (⟨(hexDigits x).toArray⟩ : ByteArray).size) := by simp [ByteArray.size]; omega
  have hl := hexDigits_pos x
  have PX : Pack (n - (hexDigits x).length < 17) := ⟨by omega⟩
  clear h2
  go_enter Tryz.func34, Tryz.ntmps34
  go_wp2_with fail
  refine (fmtUint_calls x hx64 _ hT h7).mono ?_
  rintro e w1 ⟨rfl, k1⟩
  go_wp2_with fail
  refine (repeat_calls _ PX.out _).mono ?_
  rintro e w2 ⟨rfl, k2⟩
  go_wp2_with fail
  go_ret
  refine ⟨?_, below_step k1 k2⟩
  have e : (⟨Array.replicate (n - (hexDigits x).length) 48⟩ ++ ⟨(hexDigits x).toArray⟩ : ByteArray) = ⟨(hexN n x).toArray⟩ := by
    rw [← PH.out]
    apply ByteArray.ext
    rw [ByteArray.data_append]
    simp
  exact congrArg (fun s => Ending.returned (Value.string s)) e
end Go.Proofs.YtgcpnjckbdajbaaGreatDoor.Ob
