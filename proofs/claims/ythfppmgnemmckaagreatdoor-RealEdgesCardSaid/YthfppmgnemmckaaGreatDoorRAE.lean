import Derived.Test.YthfppmgnemmckaaGreatDoorRAD
import Derived.Test.YthfppmgnemmckaaGreatDoorRU
import Derived.Test.YthfppmgnemmckaaGreatDoorRV
import Derived.Test.YthfppmgnemmckaaGreatDoorRX
import Derived.Test.YthfppmgnemmckaaGreatDoorRY
namespace Go.Proofs.YthfppmgnemmckaaGreatDoor.PDo
open Go.RowKit Go.Proofs.YthfppmgnemmckaaGreatDoorW.PrintWords Go.Proofs.YthfppmgnemmckaaGreatDoorW.PrintLast Go.Proofs.YthfppmgnemmckaaGreatDoorW.PrintMore

theorem doRes_zero : doRes (Ieee.double.div 0 0) = 9221120237041090560 := by decide +kernel
theorem awake_calls (w : World) (h : w.cell? ⟨5, 0, none⟩ = some (.int .u64 52)) (ho : w.cell? ⟨4, 0, none⟩ = some (.bool true)) : Calls Tryz.prog 5 #[] w fun e w' => e = .returned (.bool true) ∧ Below w.heap.size w w' := by
  have H := Aside0.mk h
  have HO := Aside0.mk ho
  clear h ho
  go_enter Tryz.func5, Tryz.ntmps5
  go_wp2_with fail
  refine (parse_calls _ H.out HO.out).mono ?_
  clear H HO
  rintro e w1 ⟨rfl, hd⟩
  have HB := Aside0.mk hd
  clear hd
  go_wp2_with fail
  refine (real_div 0 0 _).mono ?_
  rintro e w2 ⟨rfl, hd⟩
  rw [doRes_zero]
  have HB := Aside0.mk (below_step HB.out hd.below)
  clear hd
  go_wp2_with fail
  refine (toint_calls _).mono ?_
  rintro e w3 ⟨rfl, rfl⟩
  go_wp2
  go_ret
  exact ⟨rfl, HB.out⟩
theorem real_all (op : Int) (a b : Nat) (ha : a < 2 ^ 64) (hb : b < 2 ^ 64) : ∃ (X c : Int) (β : Bool), ((c = 0 ∧ β = true) ∨ (c = 1 ∧ β = false)) ∧
    (∀ w, Calls Tryz.prog 6 #[.int .i64 op, .int .u64 a, .int .u64 b] w fun e w' => e = .returned (.tuple #[.int .u64 X, .int .i64 c]) ∧ Drawn0 w w') ∧
    (∀ w, Calls Tryz.prog 7 #[.int .i64 op, .int .u64 a, .int .u64 b] w fun e w' => e = .returned (.tuple #[.int .u64 X, .bool β]) ∧ Below w.heap.size w w') := by
  by_cases h0 : op < 45 ∨ 48 < op
  · exact ⟨0, 1, false, .inr ⟨rfl, rfl⟩, fun w => real_none op h0 a b w, fun w => do_none op a b h0 w⟩
  have h : op = 45 ∨ op = 46 ∨ op = 47 ∨ op = 48 := by omega
  rcases h with rfl | rfl | rfl | rfl
  · exact ⟨_, 0, true, .inl ⟨rfl, rfl⟩, fun w => real_add a b w, fun w => do_add a b ha hb w⟩
  · exact ⟨_, 0, true, .inl ⟨rfl, rfl⟩, fun w => real_sub a b w, fun w => do_sub a b ha hb w⟩
  · exact ⟨_, 0, true, .inl ⟨rfl, rfl⟩, fun w => real_mul a b w, fun w => do_mul a b ha hb w⟩
  · exact ⟨_, 0, true, .inl ⟨rfl, rfl⟩, fun w => real_div a b w, fun w => do_div a b ha hb w⟩
theorem cmp_all (op : Int) (a b : Nat) (ha : a < 2 ^ 64) (hb : b < 2 ^ 64) : ∃ (X c : Int) (β : Bool), ((c = 0 ∧ β = true) ∨ (c = 1 ∧ β = false)) ∧
    (∀ w, Calls Tryz.prog 8 #[.int .i64 op, .int .u64 a, .int .u64 b] w fun e w' => e = .returned (.tuple #[.int .u32 X, .int .i64 c]) ∧ w = w') ∧
    (∀ w, Calls Tryz.prog 9 #[.int .i64 op, .int .u64 a, .int .u64 b] w fun e w' => e = .returned (.tuple #[.int .u32 X, .bool β]) ∧ Below w.heap.size w w') := by
  by_cases h0 : op = 51 ∨ op = 52 ∨ op = 53
  · exact ⟨_, 0, true, .inl ⟨rfl, rfl⟩, fun w => realcmp_is op h0 a b w, fun w => refcmp_is op h0 a b ha hb w⟩
  · exact ⟨0, 1, false, .inr ⟨rfl, rfl⟩, fun w => realcmp_none op (by omega) a b w, fun w => refcmp_none op (by omega) a b w⟩
theorem does_calls (op : Int) (a b : Nat) (ha : a < 2 ^ 64) (hb : b < 2 ^ 64) (w : World) (h : w.cell? ⟨5, 0, none⟩ = some (.int .u64 52)) (ho : w.cell? ⟨4, 0, none⟩ = some (.bool true)) :
    Calls Tryz.prog 3 #[.int .i64 op, .int .u64 a, .int .u64 b] w fun e w' => e = .returned (.bool true) ∧ Below w.heap.size w w' := by
  obtain ⟨X, c, β, hc, h6, h7⟩ := real_all op a b ha hb
  obtain ⟨Y, d, γ, hd, h8, h9⟩ := cmp_all op a b ha hb
  obtain ⟨A, hA⟩ : ∃ A : Int, (a : Int) = A := ⟨_, rfl⟩
  obtain ⟨B, hB⟩ : ∃ B : Int, (b : Int) = B := ⟨_, rfl⟩
  simp only [hA, hB] at h6 h7 h8 h9 ⊢
  clear ha hb hA hB
  have H := Aside0.mk h
  have HO := Aside0.mk ho
  clear h ho
  go_enter Tryz.func3, Tryz.ntmps3
  go_wp2_with fail
  refine (awake_calls _ H.out HO.out).mono ?_
  clear H HO
  rintro e w1 ⟨rfl, hd⟩
  have HB := Aside0.mk hd
  clear hd
  go_wp2_with fail
  refine (h6 _).mono ?_
  rintro e w2 ⟨rfl, hd⟩
  have HB := Aside0.mk (below_step HB.out hd.below)
  clear hd
  go_wp2_with fail
  refine (h7 _).mono ?_
  rintro e w3 ⟨rfl, hd⟩
  have HB := Aside0.mk (below_step HB.out hd)
  clear hd
  go_wp2_with fail
  refine (h8 _).mono ?_
  rintro e w4 ⟨rfl, rfl⟩
  go_wp2_with fail
  refine (h9 _).mono ?_
  rintro e w5 ⟨rfl, hd⟩
  have HB := Aside0.mk (below_step HB.out hd)
  clear hd h6 h7 h8 h9
  rcases hc with ⟨rfl, rfl⟩ | ⟨rfl, rfl⟩ <;> rcases hd with ⟨rfl, rfl⟩ | ⟨rfl, rfl⟩ <;> go_wp2 <;> go_ret <;> exact ⟨rfl, HB.out⟩
end Go.Proofs.YthfppmgnemmckaaGreatDoor.PDo
