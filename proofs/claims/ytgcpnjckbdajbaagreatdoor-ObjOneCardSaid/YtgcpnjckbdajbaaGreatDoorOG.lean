import Derived.Test.YtgcpnjckbdajbaaGreatDoorOF
namespace Go.Proofs.YtgcpnjckbdajbaaGreatDoor.Ob
open Go.RowKit Go.Sort

abbrev OBJ : ByteArray := ⟨#[111, 98, 106, 101, 99, 116]⟩
theorem count_obj : Lib.countB OBJ SP = 0 := by decide +kernel
theorem count_empty : Lib.countB ⟨#[]⟩ SP = 0 := by decide +kernel
theorem pieces_obj : pieces OBJ = #[.string OBJ] := by
  have : Lib.splitB SP 0 (Lib.countB OBJ SP) OBJ = [OBJ] := by decide +kernel
  unfold pieces
  rw [this]; rfl
theorem size_set (w : World) (a : Addr) (v : Value) : (w.setCell a v).heap.size = w.heap.size := by simp [World.setCell]
theorem next_below (w : World) (L R o n cap : Nat) (s : ByteArray) (hL : L < w.heap.size) : Below L w (nextWorld w L R o n cap s) :=
  ((Below.refl L w).setCell (p := ⟨L, 0, none⟩) (Nat.le_refl _) _).alloc (by rw [size_set]; omega) _
set_option maxRecDepth 100000 in
theorem object_bad (L R : Nat) (m : Int) (w : World) (hm : w.cell? ⟨0, 0, none⟩ = some (.int .i64 m)) (h0 : 0 < w.heap.size) (hL0 : 0 < L)
    (hL : w.cell? ⟨L, 0, none⟩ = some (.slice (some ⟨R, 0, none⟩) 2 2)) (hz : w.frozen? ⟨L, 0, none⟩ = false) (hR : w.cell? ⟨R, 0, none⟩ = some (.string OBJ)) (hR1 : w.cell? ⟨R, 1, none⟩ = some (.string ⟨#[]⟩)) (hLw : L < w.heap.size) (hRw : R < w.heap.size) (hLR : L ≠ R) :
    Calls Tryz.prog 25 #[.pointer (some ⟨L, 0, none⟩)] w fun e w' => e = .panicked thrown ∧ Below L w w' := by
  obtain ⟨W0, hW0⟩ : ∃ W0, (w.alloc (.cells #[.slice none 0 0, .slice none 0 0, .slice none 0 0, .slice none 0 0] 28)).alloc (.cells #[.slice none 0 0, .slice none 0 0, .slice none 0 0, .slice none 0 0] 28) = W0 := ⟨_, rfl⟩
  have hb : Below w.heap.size w W0 := by rw [← hW0]; exact below_alloc (below_alloc (Below.refl _ _) _) _
  have g1 : W0.cell? ⟨L, 0, none⟩ = some (.slice (some ⟨R, 0, none⟩) 2 2) := (hb.cell hLw).trans hL
  have g2 : W0.frozen? ⟨L, 0, none⟩ = false := (hb.frozen hLw).trans hz
  have g3 : W0.cell? ⟨R, 0, none⟩ = some (.string OBJ) := (hb.cell hRw).trans hR
  have g4 : W0.cell? ⟨R, 1, none⟩ = some (.string ⟨#[]⟩) := (hb.cell hRw).trans hR1
  have g5 : W0.cell? ⟨0, 0, none⟩ = some (.int .i64 m) := (hb.cell h0).trans hm
  have s0 := hb.size
  have C1 := Pack.mk (next_yes L R 0 1 1 OBJ 1 m W0 (by decide) g5 g1 g2 g3 (by omega) (by omega) (by rw [count_obj]; rfl))
  rw [count_obj] at C1
  obtain ⟨W1, hW1⟩ : ∃ W1, nextWorld W0 L R 0 1 1 OBJ = W1 := ⟨_, rfl⟩
  have hb1 : Below L W0 W1 := by rw [← hW1]; exact next_below _ _ _ _ _ _ _ (by omega)
  have k1 : W1.cell? ⟨L, 0, none⟩ = some (.slice (some ⟨R, 1, none⟩) 1 1) := by
    rw [← hW1]
    show ((W0.setCell ⟨L, 0, none⟩ (.slice (some (after R 0 1)) 1 1)).alloc (.cells (pieces OBJ) 9)).cell? ⟨L, 0, none⟩ = _
    rw [cell_of_old (by rw [size_set]; show _ < W0.heap.size; first | (show L < _; omega) | (show R < _; omega))]
    exact World.cell?_setCell_same' W0 ⟨L, 0, none⟩ _ (by rw [g1]; rfl)
  have k2 : W1.cell? ⟨R, 1, none⟩ = some (.string ⟨#[]⟩) := by
    rw [← hW1]
    show ((W0.setCell ⟨L, 0, none⟩ (.slice (some (after R 0 1)) 1 1)).alloc (.cells (pieces OBJ) 9)).cell? ⟨R, 1, none⟩ = _
    rw [cell_of_old (by rw [size_set]; show _ < W0.heap.size; first | (show L < _; omega) | (show R < _; omega))]
    exact (World.cell?_setCell_other W0 ⟨L, 0, none⟩ ⟨R, 1, none⟩ _ (fun e => hLR (congrArg Addr.block e))).trans g4
  have k3 : W1.cell? ⟨W0.heap.size, 0, none⟩ = some (.string OBJ) := by
    have h := alloc_new (W0.setCell ⟨L, 0, none⟩ (.slice (some (after R 0 1)) 1 1)) (.cells (pieces OBJ) 9)
    rw [size_set] at h
    rw [← hW1, Lib.cell_of_heap h, pieces_obj]
    rfl
  have k4 : W1.frozen? ⟨L, 0, none⟩ = false := by
    rw [← hW1]
    refine (((Below.refl _ (W0.setCell ⟨L, 0, none⟩ (.slice (some (after R 0 1)) 1 1))).alloc (Nat.le_refl _) (.cells (pieces OBJ) 9)).frozen (p := ⟨L, 0, none⟩) (by rw [size_set]; show L < _; omega)).trans ?_
    rw [World.frozen?_setCell]
    exact g2
  have k5 : W1.cell? ⟨0, 0, none⟩ = some (.int .i64 m) := (hb1.cell (p := ⟨0, 0, none⟩) hL0).trans g5
  have s1 := hb1.size
  have C2 := Pack.mk (fun word most => count_no L R 1 0 0 ⟨#[]⟩ word most m W1 (by decide) k5 k1 k4 k2 (by omega) (by omega) (by rw [count_empty]; decide))
  have hb2 : Pack (Below L w (nextWorld W1 L R 1 0 0 ⟨#[]⟩)) := ⟨((hb.mono (by omega)).trans hb1).trans (next_below _ _ _ _ _ _ _ (by omega))⟩
  rw [hW1] at C1
  clear g1 g2 g3 g4 g5 k1 k2 k4 k5 hb hb1 hm h0 hL0 hL hz hR hR1 hLw hRw hLR s0 s1
  go_enter Tryz.func25, Tryz.ntmps25
  go_wp2_with fail
  refine C1.out.mono ?_
  rintro e w1 ⟨rfl, rfl⟩
  go_wp2_with fail
  refine (need_yes _).mono ?_
  rintro e w1 ⟨rfl, rfl⟩
  go_wp2_with fail
  refine (C2.out _ _).mono ?_
  rintro e w1 ⟨rfl, rfl⟩
  exact ⟨rfl, rfl, hb2.out⟩
end Go.Proofs.YtgcpnjckbdajbaaGreatDoor.Ob
