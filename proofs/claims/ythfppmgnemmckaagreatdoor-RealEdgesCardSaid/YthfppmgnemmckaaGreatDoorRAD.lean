import Derived.Test.YthfppmgnemmckaaGreatDoorRAC
namespace Go.Proofs.YthfppmgnemmckaaGreatDoor.PDo
open Go.RowKit Go.Proofs.YthfppmgnemmckaaGreatDoorW.PrintWords Go.Proofs.YthfppmgnemmckaaGreatDoorW.PrintLast Go.Proofs.YthfppmgnemmckaaGreatDoorW.PrintMore

theorem call46 (w : World) : (callFunc 46 #[.float .f64 18442240474082181120]).run Tryz.prog w = .ok (.value (.float .f64 18442240474082181120)) w := by
  rw [run_callFunc_extern (e := Extern.MathFloor.toIntegral "math.archTrunc" .zero) Tryz.func46 (by kernel_rfl) (by kernel_rfl) (by kernel_rfl) (by kernel_rfl)]
  rfl
theorem trunc_calls (w : World) : Calls Tryz.prog 30 #[.float .f64 18442240474082181120] w fun e w' => e = .returned (.float .f64 18442240474082181120) ∧ w = w' := by
  have h := call46
  go_enter Tryz.func30, Tryz.ntmps30
  go_wp2
  go_ret
  exact ⟨rfl, rfl⟩
set_option maxRecDepth 100000 in
theorem toint_calls (w : World) : Calls Tryz.prog 14 #[.int .u64 18442240474082181120] w fun e w' => e = .returned (.int .u32 2147483648) ∧ w = w' := by
  have h1 : FloatKind.f64.format.order 18442240474082181120 4746794007244308480 = some .lt := by decide +kernel
  have h2 : FloatKind.f64.format.order 18442240474082181120 13970166044103278592 = some .lt := by decide +kernel
  go_enter Tryz.func14, Tryz.ntmps14
  go_wp2_with fail
  refine (of_calls _ _).mono ?_
  rintro e w1 ⟨rfl, rfl⟩
  rw [show Int.toNat 18442240474082181120 = 18442240474082181120 from rfl]
  go_wp2_with fail
  refine (trunc_calls _).mono ?_
  rintro e w1 ⟨rfl, rfl⟩
  go_wp2_with fail
  refine (isNaN_no 18442240474082181120 (by decide) _).mono ?_
  rintro e w1 ⟨rfl, rfl⟩
  go_wp2_with fail
  go_ret
  exact ⟨rfl, rfl⟩
end Go.Proofs.YthfppmgnemmckaaGreatDoor.PDo
