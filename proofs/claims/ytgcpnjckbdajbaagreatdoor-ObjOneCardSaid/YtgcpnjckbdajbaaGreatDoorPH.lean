import Derived.Test.YtgcpnjckbdajbaaGreatDoorOX
import Derived.Test.YtgcpnjckbdajbaaGreatDoorPF
import Derived.Deep.AppendLies
namespace Go.Proofs.YtgcpnjckbdajbaaGreatDoor.Ob
open Go.RowKit Go.Sort

/-- the instructions that a relocation may be of -/
def kindsV (k : Int) : List Int := if k = 1 then [38] else if k = 2 then [18, 19, 20, 21, 22, 23, 27, 28, 29, 41, 43] else if k = 3 then [30, 31, 44] else if k = 4 then [40] else if k = 5 then [32, 33, 34, 35, 36, 37] else []
def intCells (xs : List Int) : List Value := xs.map (.int .i64)

set_option maxRecDepth 100000 in
theorem index_calls (ao : Option Addr) (c : Nat) (xs : List Int) (v : Int) (w : World) (hx : At .i64 w ao xs) (hm : xs.length ≤ 140737488355328) :
    Calls Tryz.prog 84 #[.slice ao xs.length c, .int .i64 v] w fun e w' => (∃ n : Int, e = .returned (.int .i64 n) ∧ (0 ≤ n ↔ v ∈ xs)) ∧ Still w w' := by
  have PX := Pack.mk hx
  clear hx
  go_enter Tryz.func84, Tryz.ntmps84
  go_wp2_with fail
  go_loopg [5, 8] xs.length (fun kq v5 v8 wr => Still w wr ∧ ∃ i : Nat, i + kq = xs.length ∧ v8 = .int .i64 i ∧ Pack (v ∉ xs.take i))
  case atStart => exact ⟨Still.refl w, 0, by omega, rfl, ⟨by simp⟩⟩
  case round =>
    obtain ⟨hh, i, hi, rfl, PA⟩ := hrel
    have PH := Pack.mk hh
    clear hh
    by_cases hk : gk = 0
    · subst hk
      have hlt : ¬ ((i : Int) < (xs.length : Int)) := by omega
      have he : Pack (v ∉ xs) := ⟨by
        have h := PA.out
        rwa [List.take_of_length_le (by omega)] at h⟩
      go_wp2
      go_ret
      exact ⟨⟨-1, rfl, iff_of_false (by decide) he.out⟩, PH.out⟩
    · have hlt : (i : Int) < (xs.length : Int) := by omega
      have h1 : i < xs.length := by omega
      obtain ⟨a, rfl, ca⟩ := (PX.out.below PH.out.1) i h1
      generalize hxi : xs[i] = x at ca
      have PE := Pack.mk hxi
      clear hxi
      by_cases hv : v = x
      · have F : Pack (v ∈ xs) := ⟨by rw [hv, ← PE.out]; exact List.getElem_mem h1⟩
        subst hv
        go_wp2
        go_ret
        exact ⟨⟨_, rfl, iff_of_true (by simp) F.out⟩, PH.out⟩
      · have P2 : Pack (v ∉ xs.take (i + 1)) := ⟨by
          rw [List.take_add_one, List.getElem?_eq_getElem h1, PE.out]
          intro hmem
          rcases List.mem_append.1 hmem with h | h
          · exact PA.out h
          · exact hv (by simpa using h)⟩
        go_wp2_with fail
        go_roundg (gk - 1)
        case measure => omega
        case rel => exact ⟨PH.out, i + 1, by omega, by go_num, P2⟩

set_option maxRecDepth 100000 in
theorem contains_calls (ao : Option Addr) (c : Nat) (xs : List Int) (v : Int) (w : World) (hx : At .i64 w ao xs) (hm : xs.length ≤ 140737488355328) :
    Calls Tryz.prog 64 #[.slice ao xs.length c, .int .i64 v] w fun e w' => e = .returned (.bool (xs.contains v)) ∧ Still w w' := by
  have C := Pack.mk (index_calls ao c xs v w hx hm)
  clear hx hm
  go_enter Tryz.func64, Tryz.ntmps64
  go_wp2_with fail
  refine C.out.mono ?_
  rintro e w1 ⟨⟨n, rfl, hn⟩, h1⟩
  have P := Pack.mk h1
  have PN := Pack.mk hn
  clear h1 hn
  go_wp2
  go_ret
  have e : xs.contains v = decide (0 ≤ n) := by rw [Bool.eq_iff_iff, List.contains_iff_mem, decide_eq_true_iff]; exact PN.out.symm
  exact ⟨by rw [e]; rfl, P.out⟩

set_option maxRecDepth 100000 in
theorem kinds_calls (k : Int) (w : World) : Calls Tryz.prog 65 #[.int .i64 k] w fun e w' => ∃ ao c, e = .returned (.slice ao (kindsV k).length c) ∧ Lies w.heap.size w' ao (intCells (kindsV k)) ∧ Below w.heap.size w w' := by
  have new : ∀ cs : Array Value, Pack (Lies w.heap.size (w.alloc (.cells cs 3)) (some ⟨w.heap.size, 0, none⟩) cs.toList ∧ Below w.heap.size w (w.alloc (.cells cs 3))) := fun cs => ⟨fun j u hj => ⟨_, rfl, Nat.le_refl _, by simp, World.news_of_block (heap_alloc_new w (.cells cs 3)) j u hj⟩, (Below.refl _ w).alloc (Nat.le_refl _) _⟩
  by_cases k1 : k = 1
  · subst k1
    go_enter Tryz.func65, Tryz.ntmps65
    go_wp2
    go_ret
    exact ⟨_, _, rfl, (new _).out.1, (new _).out.2⟩
  by_cases k2 : k = 2
  · subst k2
    go_enter Tryz.func65, Tryz.ntmps65
    go_wp2
    go_ret
    exact ⟨_, _, rfl, (new _).out.1, (new _).out.2⟩
  by_cases k3 : k = 3
  · subst k3
    go_enter Tryz.func65, Tryz.ntmps65
    go_wp2
    go_ret
    exact ⟨_, _, rfl, (new _).out.1, (new _).out.2⟩
  by_cases k4 : k = 4
  · subst k4
    go_enter Tryz.func65, Tryz.ntmps65
    go_wp2
    go_ret
    exact ⟨_, _, rfl, (new _).out.1, (new _).out.2⟩
  by_cases k5 : k = 5
  · subst k5
    go_enter Tryz.func65, Tryz.ntmps65
    go_wp2
    go_ret
    exact ⟨_, _, rfl, (new _).out.1, (new _).out.2⟩
  have F : Pack (kindsV k = []) := ⟨by simp [kindsV, k1, k2, k3, k4, k5]⟩
  go_enter Tryz.func65, Tryz.ntmps65
  go_wp2
  go_ret
  refine ⟨none, 0, ?_, ?_, Below.refl _ _⟩
  · rw [F.out]; rfl
  · rw [F.out]; exact Lies.nil _ _ _
end Go.Proofs.YtgcpnjckbdajbaaGreatDoor.Ob
