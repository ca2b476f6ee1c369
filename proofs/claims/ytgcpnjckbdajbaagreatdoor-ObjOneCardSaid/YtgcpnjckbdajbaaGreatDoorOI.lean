import Derived.Test.YtgcpnjckbdajbaaGreatDoorOH
namespace Go.Proofs.YtgcpnjckbdajbaaGreatDoor.Ob
open Go.RowKit Go.Sort

set_option maxRecDepth 100000 in
theorem awake_calls (m : Int) (w : World) (hm : w.cell? ⟨0, 0, none⟩ = some (.int .i64 m)) (hT : Tab w) (hw : 1 < w.heap.size) :
    Calls Tryz.prog 10 #[] w fun e w' => e = .returned (.bool true) ∧ Below w.heap.size w w' := by
  have C1 := Pack.mk (print_empty w hT hw)
  have C2 : Pack (∀ w1, Below w.heap.size w w1 → Calls Tryz.prog 11 #[.string OBJN] w1 fun e w' => e = .returned (.tuple #[none4, .int .i64 2]) ∧ Below w.heap.size w w') := ⟨fun w1 h => by
    refine (parse_bad m w1 ((h.cell (by show 0 < _; omega)).trans hm) (by have := h.size; omega)).mono ?_
    rintro e w' ⟨rfl, h2⟩
    exact ⟨rfl, below_step h h2⟩⟩
  clear hm hT hw
  go_enter Tryz.func10, Tryz.ntmps10
  go_wp2_with fail
  refine C1.out.mono ?_
  rintro e w1 ⟨rfl, h1⟩
  have P1 := Pack.mk h1
  clear h1
  go_wp2_with fail
  refine (C2.out _ P1.out).mono ?_
  rintro e w2 ⟨rfl, h2⟩
  have P2 := Pack.mk h2
  clear h2
  go_wp2_with fail
  go_ret
  exact ⟨rfl, below_alloc P2.out _⟩
end Go.Proofs.YtgcpnjckbdajbaaGreatDoor.Ob
