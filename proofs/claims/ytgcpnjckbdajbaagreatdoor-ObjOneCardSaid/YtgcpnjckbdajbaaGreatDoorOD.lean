import Derived.Test.YtgcpnjckbdajbaaGreatDoorOC
import Derived.Defers
import Derived.Recover
import Derived.Laws.Pointers
import Derived.WalkSmall
namespace Go.Proofs.YtgcpnjckbdajbaaGreatDoor.Ob
open Go.RowKit Go.Sort

/-- what 'need' throws -/
abbrev thrown : List PanicEntry := [{ v := .iface 29 (.int .i64 2), recovered := false }]
theorem need_yes (w : World) : Calls Tryz.prog 26 #[.bool true] w fun e w' => e = .returned (.tuple #[]) ∧ w = w' := by
  go_enter Tryz.func26, Tryz.ntmps26
  go_wp2
  go_end0
  exact ⟨rfl, rfl⟩
theorem need_no (w : World) : Calls Tryz.prog 26 #[.bool false] w fun e w' => e = .panicked thrown ∧ w = w' := by
  go_enter Tryz.func26, Tryz.ntmps26
  go_wp2
  simp [bodyPost]
set_option maxRecDepth 100000 in
/-- Check's deferred closure, where nothing was thrown -/
theorem catch_idle (p : Addr) (w : World) :
    CallsD Tryz.prog 38 #[.pointer (some p)] .returning w fun e u' w' => e = .returned (.tuple #[]) ∧ u' = .returning ∧ w = w' := by
  have hta : ∀ W : World, (Instr.typeAssert .nilIface 20 29 true).run Tryz.prog W = .ok (.tuple #[.int .i64 0, .bool false]) W := fun _ => by kernel_rfl
  refine callsD_of_wpS Tryz.func38 rfl fun c₀ cs hu => ?_
  apply wpS_seq
  apply wpS_region
  simp [wpOpsS, go_sem, recoverD, hu, hta, Tryz.ntmps38, Exit.thenS]
  apply wpS_seq
  apply wpS_region
  simp [wpOpsS, go_sem, Exit.thenS]
  refine wpS_cond (t := false) (by simp [Act.eval, Array.replicate]) ?_
  simp only [Bool.false_eq_true, if_false]
  refine wpS_of_wp (wp_skip ?_)
  cases c₀
  simp_all [bodyPostS, results, Tryz.results38]
set_option maxRecDepth 100000 in
/-- Check's deferred closure, where 'need' threw -/
theorem catch_thrown (p : Addr) (x : Int) (w : World) (hc : w.cell? p = some (.int .i64 x)) (hz : w.frozen? p = false) :
    CallsD Tryz.prog 38 #[.pointer (some p)] (.panicking thrown) w fun e u' w' => e = .returned (.tuple #[]) ∧ u' = .panicking [{ v := .iface 29 (.int .i64 2), recovered := true }] ∧ w' = w.setCell p (.int .i64 2) := by
  have hta : ∀ W : World, (Instr.typeAssert (.iface 29 (.int .i64 2)) 20 29 true).run Tryz.prog W = .ok (.tuple #[.int .i64 2, .bool true]) W := fun _ => by kernel_rfl
  refine callsD_of_wpS Tryz.func38 rfl fun c₀ cs hu => ?_
  apply wpS_seq
  apply wpS_region
  simp [wpOpsS, go_sem, recoverD, hu, hta, Tryz.ntmps38, Exit.thenS]
  apply wpS_seq
  apply wpS_region
  simp [wpOpsS, go_sem, Exit.thenS]
  refine wpS_cond (t := true) (by simp [Act.eval, Array.replicate]) ?_
  simp only [if_true]
  apply wpS_region
  simp [wpOpsS, go_sem, hc, hz, bodyPostS, results, Tryz.results38]
end Go.Proofs.YtgcpnjckbdajbaaGreatDoor.Ob
