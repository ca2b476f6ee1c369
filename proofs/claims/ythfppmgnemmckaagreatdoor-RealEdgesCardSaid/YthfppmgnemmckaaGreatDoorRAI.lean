import Derived.Test.YthfppmgnemmckaaGreatDoorRAH
import Derived.Laws.BitsLemmas
namespace Go.Proofs.YthfppmgnemmckaaGreatDoor.PDo
open Go.RowKit Go.Proofs.YthfppmgnemmckaaGreatDoorW.PrintWords Go.Proofs.YthfppmgnemmckaaGreatDoorW.PrintLast Go.Proofs.YthfppmgnemmckaaGreatDoorW.PrintMore

set_option maxRecDepth 100000 in
set_option maxHeartbeats 1000000 in
theorem edges_walk (A X S Z : Int) (γ fin : Bool) (E : Edges A X γ S Z) (hγ : (X != 9221120237041090560) = γ) (hF : (bits BinOp.and IntKind.u64 X 9218868437227405312 != 9218868437227405312) = fin) (hS : (S == 0) = fin) (hZ : (Z == X) = (X != 9223372036854775808)) (w : World) (h : w.cell? ⟨5, 0, none⟩ = some (.int .u64 52)) (ho : w.cell? ⟨4, 0, none⟩ = some (.bool true)) :
    Calls Tryz.prog 4 #[.int .u64 A] w fun e w' => e = .returned (.bool true) ∧ Below w.heap.size w w' := by
  have H := Aside0.mk h
  have HO := Aside0.mk ho
  clear h ho
  have i0 : ∀ w, (Instr.index 36 (.agg #[.int .i64 45, .int .i64 46, .int .i64 47, .int .i64 48]) (.int .i64 0)).run Tryz.prog w = .ok (.int .i64 45) w := fun _ => by kernel_rfl
  have i1 : ∀ w, (Instr.index 36 (.agg #[.int .i64 45, .int .i64 46, .int .i64 47, .int .i64 48]) (.int .i64 1)).run Tryz.prog w = .ok (.int .i64 46) w := fun _ => by kernel_rfl
  have i2 : ∀ w, (Instr.index 36 (.agg #[.int .i64 45, .int .i64 46, .int .i64 47, .int .i64 48]) (.int .i64 2)).run Tryz.prog w = .ok (.int .i64 47) w := fun _ => by kernel_rfl
  have i3 : ∀ w, (Instr.index 36 (.agg #[.int .i64 45, .int .i64 46, .int .i64 47, .int .i64 48]) (.int .i64 3)).run Tryz.prog w = .ok (.int .i64 48) w := fun _ => by kernel_rfl
  go_enter Tryz.func4, Tryz.ntmps4
  go_wp2_with fail
  refine (awake_calls _ H.out HO.out).mono ?_
  clear H HO
  rintro e w1 ⟨rfl, hd⟩
  have HB := Aside0.mk hd
  clear hd
  go_wp2_with fail
  refine (E.canon _).mono ?_
  rintro e w2 ⟨rfl, rfl⟩
  go_wp2_with fail
  go_loopg [13] 4 (fun kq v13 wr => Below w.heap.size w wr ∧ ((kq = 4 ∧ v13 = .int .i64 0) ∨ (kq = 3 ∧ v13 = .int .i64 1) ∨ (kq = 2 ∧ v13 = .int .i64 2) ∨ (kq = 1 ∧ v13 = .int .i64 3) ∨ (kq = 0 ∧ v13 = .int .i64 4)))
  case atStart => exact ⟨HB.out, .inl ⟨rfl, rfl⟩⟩
  case round =>
    obtain ⟨hb, h0⟩ := hrel
    have HB := Aside0.mk hb
    clear hb
    rcases h0 with ⟨rfl, rfl⟩ | ⟨rfl, rfl⟩ | ⟨rfl, rfl⟩ | ⟨rfl, rfl⟩ | ⟨rfl, rfl⟩
    · go_wp2_with fail
      refine (E.l45 _).mono ?_
      rintro e w3 ⟨rfl, hd⟩
      have HB := Aside0.mk (below_step HB.out hd)
      clear hd
      go_wp2_with fail
      refine (E.r45 _).mono ?_
      rintro e w4 ⟨rfl, hd⟩
      have HB := Aside0.mk (below_step HB.out hd)
      clear hd
      go_wp2_with fail
      go_roundg 3
      case measure => omega
      case rel => exact ⟨HB.out, .inr (.inl ⟨rfl, rfl⟩)⟩
    · go_wp2_with fail
      refine (E.l46 _).mono ?_
      rintro e w3 ⟨rfl, hd⟩
      have HB := Aside0.mk (below_step HB.out hd)
      clear hd
      go_wp2_with fail
      refine (E.r46 _).mono ?_
      rintro e w4 ⟨rfl, hd⟩
      have HB := Aside0.mk (below_step HB.out hd)
      clear hd
      go_wp2_with fail
      go_roundg 2
      case measure => omega
      case rel => exact ⟨HB.out, .inr (.inr (.inl ⟨rfl, rfl⟩))⟩
    · go_wp2_with fail
      refine (E.l47 _).mono ?_
      rintro e w3 ⟨rfl, hd⟩
      have HB := Aside0.mk (below_step HB.out hd)
      clear hd
      go_wp2_with fail
      refine (E.r47 _).mono ?_
      rintro e w4 ⟨rfl, hd⟩
      have HB := Aside0.mk (below_step HB.out hd)
      clear hd
      go_wp2_with fail
      go_roundg 1
      case measure => omega
      case rel => exact ⟨HB.out, .inr (.inr (.inr (.inl ⟨rfl, rfl⟩)))⟩
    · go_wp2_with fail
      refine (E.l48 _).mono ?_
      rintro e w3 ⟨rfl, hd⟩
      have HB := Aside0.mk (below_step HB.out hd)
      clear hd
      go_wp2_with fail
      refine (E.r48 _).mono ?_
      rintro e w4 ⟨rfl, hd⟩
      have HB := Aside0.mk (below_step HB.out hd)
      clear hd
      go_wp2_with fail
      go_roundg 0
      case measure => omega
      case rel => exact ⟨HB.out, .inr (.inr (.inr (.inr (⟨rfl, rfl⟩))))⟩
    · go_wp2_with fail
      refine (E.c1 _).mono ?_
      rintro e w3 ⟨rfl, rfl⟩
      go_wp2_with fail
      refine (E.c2 _).mono ?_
      rintro e w3 ⟨rfl, rfl⟩
      go_wp2_with fail
      refine (E.c3 _).mono ?_
      rintro e w3 ⟨rfl, rfl⟩
      go_wp2_with fail
      refine (E.c4 _).mono ?_
      rintro e w3 ⟨rfl, rfl⟩
      go_wp2_with fail
      refine (E.c5 _).mono ?_
      rintro e w3 ⟨rfl, rfl⟩
      go_wp2_with fail
      refine (E.c6 _).mono ?_
      rintro e w3 ⟨rfl, rfl⟩
      go_wp2_with fail
      refine (k1 _).mono ?_
      rintro e w3 ⟨rfl, rfl⟩
      go_wp2_with fail
      refine (k2 _).mono ?_
      rintro e w3 ⟨rfl, rfl⟩
      go_wp2_with fail
      refine (k3 _).mono ?_
      rintro e w3 ⟨rfl, hd⟩
      have HB := Aside0.mk (below_step HB.out hd)
      clear hd
      go_wp2_with fail
      refine (k4 _).mono ?_
      rintro e w3 ⟨rfl, hd⟩
      have HB := Aside0.mk (below_step HB.out hd)
      clear hd
      go_wp2_with fail
      refine (k5 _).mono ?_
      rintro e w3 ⟨rfl, hd⟩
      have HB := Aside0.mk (below_step HB.out hd)
      clear hd
      go_wp2_with fail
      refine (k6 _).mono ?_
      rintro e w3 ⟨rfl, hd⟩
      have HB := Aside0.mk (below_step HB.out hd)
      clear hd
      go_wp2_with fail
      refine (k7 _).mono ?_
      rintro e w3 ⟨rfl, hd⟩
      have HB := Aside0.mk (below_step HB.out hd)
      clear hd
      go_wp2_with fail
      refine (k8 _).mono ?_
      rintro e w3 ⟨rfl, hd⟩
      have HB := Aside0.mk (below_step HB.out hd)
      clear hd
      go_wp2_with fail
      refine (k9 _).mono ?_
      rintro e w3 ⟨rfl, hd⟩
      have HB := Aside0.mk (below_step HB.out hd)
      clear hd
      go_wp2_with fail
      refine (E.s _).mono ?_
      rintro e w3 ⟨rfl, hd⟩
      have HB := Aside0.mk (below_step HB.out hd)
      clear hd
      go_wp2_with fail
      refine (E.p _).mono ?_
      rintro e w3 ⟨rfl, hd⟩
      have HB := Aside0.mk (below_step HB.out hd)
      clear hd
      go_wp2_with fail
      refine (E.o _).mono ?_
      rintro e w3 ⟨rfl, hd⟩
      have HB := Aside0.mk (below_step HB.out hd)
      clear hd
      go_wp2_with fail
      refine (E.z _).mono ?_
      rintro e w3 ⟨rfl, hd⟩
      have HB := Aside0.mk (below_step HB.out hd)
      clear hd
      go_wp2_with fail
      go_ret
      exact ⟨rfl, HB.out⟩

theorem and_inf (x : Nat) : (Nat.land x 9218868437227405312 != 9218868437227405312) = decide (x % 2 ^ 63 < 2047 * 2 ^ 52) := by
  have h1 : Nat.land x 9218868437227405312 = x / 2 ^ 52 % 2048 * 2 ^ 52 - x / 2 ^ 63 % 2 * 0 := by
    have e : (9218868437227405312 : Nat) = (2 ^ 11 - 1) <<< 52 := by decide
    show x &&& 9218868437227405312 = _
    rw [e]
    have h : x &&& (2 ^ 11 - 1) <<< 52 = ((x >>> 52) &&& (2 ^ 11 - 1)) <<< 52 := by
      apply Nat.eq_of_testBit_eq
      intro i
      simp only [Nat.testBit_and, Nat.testBit_shiftLeft, Nat.testBit_shiftRight]
      by_cases hi : 52 ≤ i
      · simp [hi, show 52 + (i - 52) = i by omega]
      · simp [hi]
    rw [h, Nat.and_two_pow_sub_one_eq_mod, Nat.shiftLeft_eq, Nat.shiftRight_eq_div_pow]
    omega
  rw [h1]
  by_cases h : x % 2 ^ 63 < 2047 * 2 ^ 52
  · rw [decide_eq_true h]
    simp only [bne_iff_ne, ne_eq]
    omega
  · rw [decide_eq_false h]
    simp only [bne_eq_false_iff_eq]
    omega
theorem edges_calls (a : Nat) (ha : a < 2 ^ 64) (w : World) (h : w.cell? ⟨5, 0, none⟩ = some (.int .u64 52)) (ho : w.cell? ⟨4, 0, none⟩ = some (.bool true)) :
    Calls Tryz.prog 4 #[.int .u64 a] w fun e w' => e = .returned (.bool true) ∧ Below w.heap.size w w' := by
  obtain ⟨γ, X, S, Z, E, h1, h2, h3, hX⟩ := edges_of a ha
  have cast : ∀ x y : Nat, ((x : Int) == (y : Int)) = (x == y) := fun x y => by
    rw [Bool.eq_iff_iff]; simp only [beq_iff_eq]; exact Int.ofNat_inj
  refine edges_walk a X S Z γ (decide (X % 2 ^ 63 < 2047 * 2 ^ 52)) E ?_ ?_ ?_ ?_ w h ho
  · have := cast X NANV
    rw [h1, ← this]; rfl
  · rw [← and_inf X]
    have e : bits BinOp.and IntKind.u64 (X : Int) 9218868437227405312 = ((Nat.land X 9218868437227405312 : Nat) : Int) :=
      (bits_nat .u64 64 (by decide) (fun n h₀ h₁ => by rw [IntKind.wrap_u64]; omega) X 9218868437227405312 hX (by decide)).1
    rw [e]
    exact congrArg (!·) (cast _ 9218868437227405312)
  · rw [← h2]; exact cast S 0
  · rw [show ((Z : Int) == (X : Int)) = _ from cast Z X, h3, ← cast X NEG0]; rfl
end Go.Proofs.YthfppmgnemmckaaGreatDoor.PDo
