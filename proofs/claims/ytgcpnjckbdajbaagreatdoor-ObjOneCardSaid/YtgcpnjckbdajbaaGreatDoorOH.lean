import Derived.Test.YtgcpnjckbdajbaaGreatDoorOG
namespace Go.Proofs.YtgcpnjckbdajbaaGreatDoor.Ob
open Go.RowKit Go.Sort

set_option maxRecDepth 100000 in
/-- Parse's deferred closure, where 'need' threw -/
theorem catchParse_thrown (b q : Nat) (x : Int) (w : World) (hb : ∀ j, j < 4 → ∃ v, w.cell? ⟨b, j, none⟩ = some v) (hc : w.cell? ⟨q, 0, none⟩ = some (.int .i64 x)) (hz : ∀ j, w.frozen? ⟨b, j, none⟩ = false) (hzq : w.frozen? ⟨q, 0, none⟩ = false) (hbq : b ≠ q) :
    CallsD Tryz.prog 23 #[.pointer (some ⟨b, 0, none⟩), .pointer (some ⟨q, 0, none⟩)] (.panicking thrown) w fun e u' w' => e = .returned (.tuple #[]) ∧ u' = .panicking [{ v := .iface 29 (.int .i64 2), recovered := true }] ∧
      w' = ((((w.setCell ⟨b, 0, none⟩ (.slice none 0 0)).setCell ⟨b, 1, none⟩ (.slice none 0 0)).setCell ⟨b, 2, none⟩ (.slice none 0 0)).setCell ⟨b, 3, none⟩ (.slice none 0 0)).setCell ⟨q, 0, none⟩ (.int .i64 2) := by
  have hta : ∀ W : World, (Instr.typeAssert (.iface 29 (.int .i64 2)) 20 29 true).run Tryz.prog W = .ok (.tuple #[.int .i64 2, .bool true]) W := fun _ => by kernel_rfl
  obtain ⟨v0, h0⟩ := hb 0 (by omega)
  obtain ⟨v1, h1⟩ := hb 1 (by omega)
  obtain ⟨v2, h2⟩ := hb 2 (by omega)
  obtain ⟨v3, h3⟩ := hb 3 (by omega)
  have z0 := hz 0
  have z1 := hz 1
  have z2 := hz 2
  have z3 := hz 3
  have hq0 : (w.setCell ⟨b, 0, none⟩ (.slice none 0 0)).cell? ⟨q, 0, none⟩ = some (.int .i64 x) := (World.cell?_setCell_other w ⟨b, 0, none⟩ ⟨q, 0, none⟩ _ (fun e => hbq (congrArg Addr.block e))).trans hc
  refine callsD_of_wpS Tryz.func23 rfl fun c₀ cs hu => ?_
  apply wpS_seq
  apply wpS_region
  simp [wpOpsS, go_sem, recoverD, hu, hta, Tryz.ntmps23, Exit.thenS]
  apply wpS_seq
  apply wpS_region
  simp [wpOpsS, go_sem, Exit.thenS]
  refine wpS_cond (t := true) (by simp [Act.eval, Array.replicate]) ?_
  simp only [if_true]
  apply wpS_region
  simp [wpOpsS, go_sem, hq0, hzq, h0, h1, h2, h3, z0, z1, z2, z3, bodyPostS, results, Tryz.results23]

theorem set_keep (w : World) (a p : Addr) (v : Value) (h : w.cell? p = some v) : (w.setCell a v).cell? p = some v := by
  by_cases e : a = p
  · subst e
    exact World.cell?_setCell_same' w a v (by rw [h]; rfl)
  · rw [World.cell?_setCell_other w a p v e]; exact h
theorem five (w : World) (b q : Nat) (hbq : b ≠ q) (cj : ∀ j, j < 4 → w.cell? ⟨b, j, none⟩ = some (.slice none 0 0)) : ∀ j, j < 4 →
    (((((w.setCell ⟨b, 0, none⟩ (.slice none 0 0)).setCell ⟨b, 1, none⟩ (.slice none 0 0)).setCell ⟨b, 2, none⟩ (.slice none 0 0)).setCell ⟨b, 3, none⟩ (.slice none 0 0)).setCell ⟨q, 0, none⟩ (.int .i64 2)).cell? ⟨b, j, none⟩ = some (.slice none 0 0) := fun j hj => by
  rw [World.cell?_setCell_other _ _ _ _ (fun e => hbq (congrArg Addr.block e).symm)]
  exact set_keep _ _ _ _ (set_keep _ _ _ _ (set_keep _ _ _ _ (set_keep _ _ _ _ (cj j hj))))
abbrev NL : ByteArray := ⟨#[10]⟩
abbrev OBJN : ByteArray := ⟨#[111, 98, 106, 101, 99, 116, 10]⟩
theorem count_objn : Lib.countB OBJN NL = 1 := by decide +kernel
theorem split_objn : Lib.splitB NL 0 (Lib.countB OBJN NL) OBJN = [OBJ, ⟨#[]⟩] := by decide +kernel
set_option maxRecDepth 100000 in
theorem parse_bad (m : Int) (w : World) (hm : w.cell? ⟨0, 0, none⟩ = some (.int .i64 m)) (h0 : 0 < w.heap.size) :
    Calls Tryz.prog 11 #[.string OBJN] w fun e w' => e = .returned (.tuple #[none4, .int .i64 2]) ∧ Below w.heap.size w w' := by
  have hmf : ∀ (fn : Fn) (first cap : Array Value) (w : World), (Instr.makeFunc fn first cap).run Tryz.prog w = .ok (.func fn first cap) w := fun _ _ _ _ => rfl
  have PM := Pack.mk hm
  have P0 := Pack.mk h0
  clear hm h0
  obtain ⟨W0, hW0⟩ : ∃ W0, (w.alloc (.cells #[.slice none 0 0, .slice none 0 0, .slice none 0 0, .slice none 0 0] 28)).alloc (.cells #[.int .i64 0] 29) = W0 := ⟨_, rfl⟩
  have hb : Below w.heap.size w W0 := by rw [← hW0]; exact below_alloc (below_alloc (Below.refl _ _) _) _
  have s0 : W0.heap.size = w.heap.size + 2 := by rw [← hW0]; simp
  have g5 : W0.cell? ⟨0, 0, none⟩ = some (.int .i64 m) := (hb.cell P0.out).trans PM.out
  have c1 : Pack (Calls Tryz.prog 24 #[.string OBJN, .string NL] W0 fun e w' => e = .returned (.slice (some ⟨W0.heap.size, 0, none⟩) 2 2) ∧ W0.alloc (.cells #[.string OBJ, .string ⟨#[]⟩] 9) = w') := ⟨by
    refine (Tryz.strings_Split OBJN NL m W0 (by decide) g5 (by decide)).mono ?_
    rw [split_objn, count_objn]
    rintro e w' ⟨rfl, rfl⟩
    exact ⟨rfl, rfl⟩⟩
  obtain ⟨W1, hW1⟩ : ∃ W1, (W0.alloc (.cells #[.string OBJ, .string ⟨#[]⟩] 9)).alloc (.cells #[.slice (some ⟨W0.heap.size, 0, none⟩) 2 2] 52) = W1 := ⟨_, rfl⟩
  have hb1 : Below W0.heap.size W0 W1 := by rw [← hW1]; exact below_alloc (below_alloc (Below.refl _ _) _) _
  have s1 : W1.heap.size = w.heap.size + 4 := by rw [← hW1]; simp; omega
  have r1 : W1.heap[W0.heap.size + 1]? = some (.cells #[.slice (some ⟨W0.heap.size, 0, none⟩) 2 2] 52 (0, 0)) := by
    rw [← hW1]
    have h := alloc_new (W0.alloc (.cells #[.string OBJ, .string ⟨#[]⟩] 9)) (.cells #[.slice (some ⟨W0.heap.size, 0, none⟩) 2 2] 52)
    simpa using h
  have r2 : W1.heap[W0.heap.size]? = some (.cells #[.string OBJ, .string ⟨#[]⟩] 9 (0, 0)) := by
    rw [← hW1]
    have h := alloc_new W0 (.cells #[.string OBJ, .string ⟨#[]⟩] 9)
    rw [((Below.refl _ (W0.alloc (.cells #[.string OBJ, .string ⟨#[]⟩] 9))).alloc (Nat.le_refl _) _).block W0.heap.size (by simp)]
    exact h
  have C2 := Pack.mk (object_bad (W0.heap.size + 1) W0.heap.size m W1 ((hb1.cell (by show 0 < _; omega)).trans g5) (by omega) (by omega) (by rw [Lib.cell_of_heap r1]; rfl) (Lib.frozen_of_heap r1 0) (by rw [Lib.cell_of_heap r2]; rfl) (by rw [Lib.cell_of_heap r2]; rfl) (by omega) (by omega) (by omega))
  have C3 : Pack (∀ w2, Below (W0.heap.size + 1) W1 w2 → CallsD Tryz.prog 23 #[.pointer (some ⟨w.heap.size, 0, none⟩), .pointer (some ⟨w.heap.size + 1, 0, none⟩)] (.panicking thrown) w2 fun e u' w' => e = .returned (.tuple #[]) ∧ u' = .panicking [{ v := .iface 29 (.int .i64 2), recovered := true }] ∧
      (∀ j, j < 4 → w'.cell? ⟨w.heap.size, j, none⟩ = some (.slice none 0 0)) ∧ w'.cell? ⟨w.heap.size + 1, 0, none⟩ = some (.int .i64 2) ∧ Below w.heap.size w w') := ⟨by
    intro w2 h2
    have q1 : w2.heap[w.heap.size]? = some (.cells #[.slice none 0 0, .slice none 0 0, .slice none 0 0, .slice none 0 0] 28 (0, 0)) := by
      rw [h2.block w.heap.size (by omega), hb1.block w.heap.size (by omega), ← hW0]
      rw [((Below.refl _ (w.alloc (.cells #[.slice none 0 0, .slice none 0 0, .slice none 0 0, .slice none 0 0] 28))).alloc (Nat.le_refl _) _).block w.heap.size (by simp)]
      exact alloc_new w _
    have q2 : w2.heap[w.heap.size + 1]? = some (.cells #[.int .i64 0] 29 (0, 0)) := by
      rw [h2.block (w.heap.size + 1) (by omega), hb1.block (w.heap.size + 1) (by omega), ← hW0]
      have h := alloc_new (w.alloc (.cells #[.slice none 0 0, .slice none 0 0, .slice none 0 0, .slice none 0 0] 28)) (.cells #[.int .i64 0] 29)
      simpa using h
    have cj : ∀ j, j < 4 → w2.cell? ⟨w.heap.size, j, none⟩ = some (.slice none 0 0) := fun j hj => by
      rw [Lib.cell_of_heap q1]
      match j, hj with
      | 0, _ => rfl
      | 1, _ => rfl
      | 2, _ => rfl
      | 3, _ => rfl
    have cq : w2.cell? ⟨w.heap.size + 1, 0, none⟩ = some (.int .i64 0) := by rw [Lib.cell_of_heap q2]; rfl
    refine (catchParse_thrown w.heap.size (w.heap.size + 1) 0 w2 (fun j hj => ⟨_, cj j hj⟩) cq (fun j => Lib.frozen_of_heap q1 j) (Lib.frozen_of_heap q2 0) (by omega)).mono ?_
    rintro e u' w' ⟨rfl, rfl, rfl⟩
    have hB2 : Below w.heap.size w w2 := hb.trans ((hb1.mono (by omega)).trans (h2.mono (by omega)))
    refine ⟨rfl, rfl, five w2 w.heap.size (w.heap.size + 1) (by omega) cj, World.cell?_setCell_same' _ _ _ ?_, ?_⟩
    · rw [World.cell?_setCell_other _ _ _ _ (fun e => by have := congrArg Addr.block e; simp at this), World.cell?_setCell_other _ _ _ _ (fun e => by have := congrArg Addr.block e; simp at this), World.cell?_setCell_other _ _ _ _ (fun e => by have := congrArg Addr.block e; simp at this), World.cell?_setCell_other _ _ _ _ (fun e => by have := congrArg Addr.block e; simp at this), cq]
      rfl
    · exact ((((hB2.setCell (p := ⟨w.heap.size, 0, none⟩) (Nat.le_refl _) _).setCell (p := ⟨w.heap.size, 1, none⟩) (Nat.le_refl _) _).setCell (p := ⟨w.heap.size, 2, none⟩) (Nat.le_refl _) _).setCell (p := ⟨w.heap.size, 3, none⟩) (Nat.le_refl _) _).setCell (p := ⟨w.heap.size + 1, 0, none⟩) (Nat.le_succ _) _⟩
  rw [s0] at hW1 C2 C3 c1
  clear s1 r1 r2 hb hb1 g5
  go_enter_defers Tryz.func11, Tryz.ntmps11
  go_wp2_with fail
  refine c1.out.mono ?_
  rintro e w1 ⟨rfl, rfl⟩
  go_wp2_with fail
  refine C2.out.mono ?_
  rintro e w2 ⟨rfl, h2⟩
  refine leaves_cons (f := 23) (args := #[.pointer (some ⟨w.heap.size, 0, none⟩), .pointer (some ⟨w.heap.size + 1, 0, none⟩)]) (by simp) (by simp [go_sem]) ?_
  refine (C3.out w2 h2).mono ?_
  rintro e u' w3 ⟨rfl, rfl, h3, h4, h5⟩
  have h30 := h3 0 (by omega)
  have h31 := h3 1 (by omega)
  have h32 := h3 2 (by omega)
  have h33 := h3 3 (by omega)
  simp [Leaves, settle, results, Tryz.results11, go_sem, h30, h31, h32, h33, h4]
  exact h5
end Go.Proofs.YtgcpnjckbdajbaaGreatDoor.Ob
