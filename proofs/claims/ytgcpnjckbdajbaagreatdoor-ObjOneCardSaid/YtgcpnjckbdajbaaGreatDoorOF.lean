import Derived.Test.YtgcpnjckbdajbaaGreatDoorOE
namespace Go.Proofs.YtgcpnjckbdajbaaGreatDoor.Ob
open Go.RowKit Go.Sort

abbrev SP : ByteArray := ⟨#[32]⟩
abbrev pieces (s : ByteArray) : Array Value := ((Lib.splitB SP 0 (Lib.countB s SP) s).map Value.string).toArray
/-- the place behind a line that was taken -/
def after (R o cap : Nat) : Addr := ⟨R, if cap = 0 then o else o + 1, none⟩
/-- the world behind a call of next: the line taken, its pieces laid -/
abbrev nextWorld (w : World) (L R o n cap : Nat) (s : ByteArray) : World :=
  (w.setCell ⟨L, 0, none⟩ (.slice (some (after R o cap)) n cap)).alloc (.cells (pieces s) 9)
set_option maxRecDepth 100000 in
theorem next_yes (L R o n cap : Nat) (s : ByteArray) (k m : Int) (w : World) (hs : s.size < 4294967281) (hm : w.cell? ⟨0, 0, none⟩ = some (.int .i64 m))
    (hL : w.cell? ⟨L, 0, none⟩ = some (.slice (some ⟨R, o, none⟩) (n + 1) (cap + 1))) (hz : w.frozen? ⟨L, 0, none⟩ = false) (hR : w.cell? ⟨R, o, none⟩ = some (.string s)) (hLw : L < w.heap.size) (hn : n ≤ cap)
    (hk : k = ((Lib.countB s SP + 1 : Nat) : Int)) :
    Calls Tryz.prog 52 #[.pointer (some ⟨L, 0, none⟩), .int .i64 k] w fun e w' => e = .returned (.slice (some ⟨w.heap.size, 0, none⟩) (Lib.countB s SP + 1) (Lib.countB s SP + 1)) ∧ nextWorld w L R o n cap s = w' := by
  have PS := Pack.mk hs
  have PM := Pack.mk hm
  subst hk
  clear hs hm
  cases cap with
  | zero =>
    obtain rfl : n = 0 := by omega
    go_enter Tryz.func52, Tryz.ntmps52
    go_wp2_with fail
    refine (need_yes _).mono ?_
    rintro e w1 ⟨rfl, rfl⟩
    go_wp2_with fail
    refine (Tryz.strings_Split s SP m _ PS.out PM.out (by decide)).mono ?_
    rintro e w1 ⟨rfl, rfl⟩
    go_wp2_with fail
    refine (need_yes _).mono ?_
    rintro e w1 ⟨rfl, rfl⟩
    go_wp2
    go_ret
    exact ⟨rfl, rfl⟩
  | succ cap =>
    go_enter Tryz.func52, Tryz.ntmps52
    go_wp2_with fail
    refine (need_yes _).mono ?_
    rintro e w1 ⟨rfl, rfl⟩
    go_wp2_with fail
    refine (Tryz.strings_Split s SP m _ PS.out PM.out (by decide)).mono ?_
    rintro e w1 ⟨rfl, rfl⟩
    go_wp2_with fail
    refine (need_yes _).mono ?_
    rintro e w1 ⟨rfl, rfl⟩
    go_wp2
    go_ret
    exact ⟨rfl, rfl⟩
set_option maxRecDepth 100000 in
theorem next_no (L R o n cap : Nat) (s : ByteArray) (k m : Int) (w : World) (hs : s.size < 4294967281) (hm : w.cell? ⟨0, 0, none⟩ = some (.int .i64 m))
    (hL : w.cell? ⟨L, 0, none⟩ = some (.slice (some ⟨R, o, none⟩) (n + 1) (cap + 1))) (hz : w.frozen? ⟨L, 0, none⟩ = false) (hR : w.cell? ⟨R, o, none⟩ = some (.string s)) (hLw : L < w.heap.size) (hn : n ≤ cap)
    (hk : k ≠ ((Lib.countB s SP + 1 : Nat) : Int)) :
    Calls Tryz.prog 52 #[.pointer (some ⟨L, 0, none⟩), .int .i64 k] w fun e w' => e = .panicked thrown ∧ nextWorld w L R o n cap s = w' := by
  have PS := Pack.mk hs
  have PM := Pack.mk hm
  have hk1 : ((Lib.countB s SP : Int) + 1 == k) = false := beq_eq_false_iff_ne.2 (by omega)
  clear hs hm hk
  cases cap with
  | zero =>
    obtain rfl : n = 0 := by omega
    go_enter Tryz.func52, Tryz.ntmps52
    go_wp2_with fail
    refine (need_yes _).mono ?_
    rintro e w1 ⟨rfl, rfl⟩
    go_wp2_with fail
    refine (Tryz.strings_Split s SP m _ PS.out PM.out (by decide)).mono ?_
    rintro e w1 ⟨rfl, rfl⟩
    go_wp2_with fail
    refine (need_no _).mono ?_
    rintro e w1 ⟨rfl, rfl⟩
    exact ⟨rfl, rfl, rfl⟩
  | succ cap =>
    go_enter Tryz.func52, Tryz.ntmps52
    go_wp2_with fail
    refine (need_yes _).mono ?_
    rintro e w1 ⟨rfl, rfl⟩
    go_wp2_with fail
    refine (Tryz.strings_Split s SP m _ PS.out PM.out (by decide)).mono ?_
    rintro e w1 ⟨rfl, rfl⟩
    go_wp2_with fail
    refine (need_no _).mono ?_
    rintro e w1 ⟨rfl, rfl⟩
    exact ⟨rfl, rfl, rfl⟩

set_option maxRecDepth 100000 in
theorem count_no (L R o n cap : Nat) (s word : ByteArray) (most m : Int) (w : World) (hs : s.size < 4294967281) (hm : w.cell? ⟨0, 0, none⟩ = some (.int .i64 m))
    (hL : w.cell? ⟨L, 0, none⟩ = some (.slice (some ⟨R, o, none⟩) (n + 1) (cap + 1))) (hz : w.frozen? ⟨L, 0, none⟩ = false) (hR : w.cell? ⟨R, o, none⟩ = some (.string s)) (hLw : L < w.heap.size) (hn : n ≤ cap)
    (hk : Lib.countB s SP ≠ 1) :
    Calls Tryz.prog 53 #[.pointer (some ⟨L, 0, none⟩), .string word, .int .i64 most] w fun e w' => e = .panicked thrown ∧ nextWorld w L R o n cap s = w' := by
  have hk2 : (2 : Int) ≠ ((Lib.countB s SP + 1 : Nat) : Int) := by omega
  have P := Pack.mk (next_no L R o n cap s 2 m w hs hm hL hz hR hLw hn hk2)
  clear hs hm hL hz hR hLw hn hk hk2
  go_enter Tryz.func53, Tryz.ntmps53
  go_wp2_with fail
  refine P.out.mono ?_
  rintro e w1 ⟨rfl, rfl⟩
  exact ⟨rfl, rfl, rfl⟩
end Go.Proofs.YtgcpnjckbdajbaaGreatDoor.Ob
