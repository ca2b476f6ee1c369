import Derived.Test.YthfppmgnemmckaaGreatDoorRZ
namespace Go.Proofs.YthfppmgnemmckaaGreatDoor.PDo
open Go.RowKit Go.Proofs.YthfppmgnemmckaaGreatDoorW.PrintWords Go.Proofs.YthfppmgnemmckaaGreatDoorW.PrintLast Go.Proofs.YthfppmgnemmckaaGreatDoorW.PrintMore

set_option maxHeartbeats 1000000 in
set_option maxRecDepth 100000 in
theorem tla1 (g : Nat) (w : World) (h : DigSet w g) : Calls Tryz.prog 53 #[.string ⟨#[49, 46, 53, 101, 49]⟩, .pointer (some ⟨g, 0, none⟩)] w fun e w' => e = .returned (.string ⟨#[46, 53, 101, 49]⟩) ∧ w = w' := by
  have H := Aside0.mk h
  clear h
  go_enter Tryz.func53, Tryz.ntmps53
  go_wp2_with fail
  go_loopg [0] 1 (fun kq v0 wr => wr = w ∧ ((kq = 1 ∧ v0 = .string ⟨#[49, 46, 53, 101, 49]⟩) ∨ (kq = 0 ∧ v0 = .string ⟨#[46, 53, 101, 49]⟩)))
  case atStart => exact ⟨rfl, .inl ⟨rfl, rfl⟩⟩
  case round =>
    obtain ⟨rfl, ⟨rfl, rfl⟩ | ⟨rfl, rfl⟩⟩ := hrel
    · have hb : ((⟨#[49, 46, 53, 101, 49]⟩ : ByteArray)[0]'(by decide)).toNat = 49 := rfl
      go_wp2_with fail
      refine (contains_calls g 49 true (by omega) (by decide) _ H.out).mono ?_
      rintro e w1 ⟨rfl, rfl⟩
      go_wp2_with fail
      go_roundg 0
      case measure => omega
      case rel => exact ⟨rfl, .inr ⟨rfl, rfl⟩⟩
    · have hb : ((⟨#[46, 53, 101, 49]⟩ : ByteArray)[0]'(by decide)).toNat = 46 := rfl
      go_wp2_with fail
      refine (contains_calls g 46 false (by omega) (by decide) _ H.out).mono ?_
      rintro e w1 ⟨rfl, rfl⟩
      go_wp2_with fail
      go_ret
      exact ⟨rfl, rfl⟩
set_option maxHeartbeats 1000000 in
set_option maxRecDepth 100000 in
theorem tl1 (w : World) : Calls Tryz.prog 42 #[.string ⟨#[49, 46, 53, 101, 49]⟩, .string ⟨#[48, 49, 50, 51, 52, 53, 54, 55, 56, 57]⟩] w fun e w' => e = .returned (.string ⟨#[46, 53, 101, 49]⟩) ∧ Below w.heap.size w w' := by
  have hi : (Tryz.prog.info? 75).map (·.size) = some (fill 10).size := by rw [fill_size]; kernel_rfl
  have HI := Aside0.mk hi
  clear hi
  go_enter Tryz.func42, Tryz.ntmps42
  go_wp2_with fail
  refine (set_calls _).mono ?_
  rintro e w1 ⟨rfl, hd⟩
  have HB1 := Aside0.mk hd
  clear hd
  go_wp2_with (first | (refine wpList_store_row rfl 75 _ _ rfl w1.heap.size (fill 10) rfl rfl 75 Tryz.zeroCells75 (heap_alloc_new _ _) HI.out (by rw [zero_size, fill_size]) fill_cells ?_))
  have hg := setRow_heap (w1.alloc (.cells Tryz.zeroCells75 75)) w1.heap.size Tryz.zeroCells75 (fill 10) 75 (0, 0) (heap_alloc_new _ _)
  have hb := below_setRow (W := w1.alloc (.cells Tryz.zeroCells75 75)) (below_alloc (Below.refl _ _) _) w1.heap.size (Nat.le_refl _) (fill 10)
  generalize (w1.alloc (.cells Tryz.zeroCells75 75)).setRow w1.heap.size (fill 10) = W at *
  have HG := Aside0.mk hg
  have HB2 := Aside0.mk (below_step HB1.out hb)
  clear hg hb
  refine (tla1 _ _ HG.out).mono ?_
  rintro e w2 ⟨rfl, rfl⟩
  go_wp2_with fail
  go_ret
  exact ⟨rfl, HB2.out⟩
set_option maxHeartbeats 1000000 in
theorem dg1 (w : World) : Calls Tryz.prog 27 #[.string ⟨#[49, 46, 53, 101, 49]⟩] w fun e w' => e = .returned (.tuple #[.string ⟨#[46, 53, 101, 49]⟩, .bool true]) ∧ Below w.heap.size w w' := by
  go_enter Tryz.func27, Tryz.ntmps27
  go_wp2_with fail
  refine (tl1 _).mono ?_
  rintro e w2 ⟨rfl, hd⟩
  have HB := Aside0.mk hd
  clear hd
  go_wp2_with fail
  go_ret2
  exact ⟨rfl, HB.out⟩
set_option maxHeartbeats 1000000 in
set_option maxRecDepth 100000 in
theorem tla2 (g : Nat) (w : World) (h : DigSet w g) : Calls Tryz.prog 53 #[.string ⟨#[53, 101, 49]⟩, .pointer (some ⟨g, 0, none⟩)] w fun e w' => e = .returned (.string ⟨#[101, 49]⟩) ∧ w = w' := by
  have H := Aside0.mk h
  clear h
  go_enter Tryz.func53, Tryz.ntmps53
  go_wp2_with fail
  go_loopg [0] 1 (fun kq v0 wr => wr = w ∧ ((kq = 1 ∧ v0 = .string ⟨#[53, 101, 49]⟩) ∨ (kq = 0 ∧ v0 = .string ⟨#[101, 49]⟩)))
  case atStart => exact ⟨rfl, .inl ⟨rfl, rfl⟩⟩
  case round =>
    obtain ⟨rfl, ⟨rfl, rfl⟩ | ⟨rfl, rfl⟩⟩ := hrel
    · have hb : ((⟨#[53, 101, 49]⟩ : ByteArray)[0]'(by decide)).toNat = 53 := rfl
      go_wp2_with fail
      refine (contains_calls g 53 true (by omega) (by decide) _ H.out).mono ?_
      rintro e w1 ⟨rfl, rfl⟩
      go_wp2_with fail
      go_roundg 0
      case measure => omega
      case rel => exact ⟨rfl, .inr ⟨rfl, rfl⟩⟩
    · have hb : ((⟨#[101, 49]⟩ : ByteArray)[0]'(by decide)).toNat = 101 := rfl
      go_wp2_with fail
      refine (contains_calls g 101 false (by omega) (by decide) _ H.out).mono ?_
      rintro e w1 ⟨rfl, rfl⟩
      go_wp2_with fail
      go_ret
      exact ⟨rfl, rfl⟩
set_option maxHeartbeats 1000000 in
set_option maxRecDepth 100000 in
theorem tl2 (w : World) : Calls Tryz.prog 42 #[.string ⟨#[53, 101, 49]⟩, .string ⟨#[48, 49, 50, 51, 52, 53, 54, 55, 56, 57]⟩] w fun e w' => e = .returned (.string ⟨#[101, 49]⟩) ∧ Below w.heap.size w w' := by
  have hi : (Tryz.prog.info? 75).map (·.size) = some (fill 10).size := by rw [fill_size]; kernel_rfl
  have HI := Aside0.mk hi
  clear hi
  go_enter Tryz.func42, Tryz.ntmps42
  go_wp2_with fail
  refine (set_calls _).mono ?_
  rintro e w1 ⟨rfl, hd⟩
  have HB1 := Aside0.mk hd
  clear hd
  go_wp2_with (first | (refine wpList_store_row rfl 75 _ _ rfl w1.heap.size (fill 10) rfl rfl 75 Tryz.zeroCells75 (heap_alloc_new _ _) HI.out (by rw [zero_size, fill_size]) fill_cells ?_))
  have hg := setRow_heap (w1.alloc (.cells Tryz.zeroCells75 75)) w1.heap.size Tryz.zeroCells75 (fill 10) 75 (0, 0) (heap_alloc_new _ _)
  have hb := below_setRow (W := w1.alloc (.cells Tryz.zeroCells75 75)) (below_alloc (Below.refl _ _) _) w1.heap.size (Nat.le_refl _) (fill 10)
  generalize (w1.alloc (.cells Tryz.zeroCells75 75)).setRow w1.heap.size (fill 10) = W at *
  have HG := Aside0.mk hg
  have HB2 := Aside0.mk (below_step HB1.out hb)
  clear hg hb
  refine (tla2 _ _ HG.out).mono ?_
  rintro e w2 ⟨rfl, rfl⟩
  go_wp2_with fail
  go_ret
  exact ⟨rfl, HB2.out⟩
set_option maxHeartbeats 1000000 in
theorem dg2 (w : World) : Calls Tryz.prog 27 #[.string ⟨#[53, 101, 49]⟩] w fun e w' => e = .returned (.tuple #[.string ⟨#[101, 49]⟩, .bool true]) ∧ Below w.heap.size w w' := by
  go_enter Tryz.func27, Tryz.ntmps27
  go_wp2_with fail
  refine (tl2 _).mono ?_
  rintro e w2 ⟨rfl, hd⟩
  have HB := Aside0.mk hd
  clear hd
  go_wp2_with fail
  go_ret2
  exact ⟨rfl, HB.out⟩
set_option maxHeartbeats 1000000 in
set_option maxRecDepth 100000 in
theorem tla3 (g : Nat) (w : World) (h : DigSet w g) : Calls Tryz.prog 53 #[.string ⟨#[49]⟩, .pointer (some ⟨g, 0, none⟩)] w fun e w' => e = .returned (.string ⟨#[]⟩) ∧ w = w' := by
  have H := Aside0.mk h
  clear h
  go_enter Tryz.func53, Tryz.ntmps53
  go_wp2_with fail
  go_loopg [0] 1 (fun kq v0 wr => wr = w ∧ ((kq = 1 ∧ v0 = .string ⟨#[49]⟩) ∨ (kq = 0 ∧ v0 = .string ⟨#[]⟩)))
  case atStart => exact ⟨rfl, .inl ⟨rfl, rfl⟩⟩
  case round =>
    obtain ⟨rfl, ⟨rfl, rfl⟩ | ⟨rfl, rfl⟩⟩ := hrel
    · have hb : ((⟨#[49]⟩ : ByteArray)[0]'(by decide)).toNat = 49 := rfl
      go_wp2_with fail
      refine (contains_calls g 49 true (by omega) (by decide) _ H.out).mono ?_
      rintro e w1 ⟨rfl, rfl⟩
      go_wp2_with fail
      go_roundg 0
      case measure => omega
      case rel => exact ⟨rfl, .inr ⟨rfl, rfl⟩⟩
    · go_wp2_with fail
      go_ret
      exact ⟨rfl, rfl⟩
set_option maxHeartbeats 1000000 in
set_option maxRecDepth 100000 in
theorem tl3 (w : World) : Calls Tryz.prog 42 #[.string ⟨#[49]⟩, .string ⟨#[48, 49, 50, 51, 52, 53, 54, 55, 56, 57]⟩] w fun e w' => e = .returned (.string ⟨#[]⟩) ∧ Below w.heap.size w w' := by
  have hi : (Tryz.prog.info? 75).map (·.size) = some (fill 10).size := by rw [fill_size]; kernel_rfl
  have HI := Aside0.mk hi
  clear hi
  go_enter Tryz.func42, Tryz.ntmps42
  go_wp2_with fail
  refine (set_calls _).mono ?_
  rintro e w1 ⟨rfl, hd⟩
  have HB1 := Aside0.mk hd
  clear hd
  go_wp2_with (first | (refine wpList_store_row rfl 75 _ _ rfl w1.heap.size (fill 10) rfl rfl 75 Tryz.zeroCells75 (heap_alloc_new _ _) HI.out (by rw [zero_size, fill_size]) fill_cells ?_))
  have hg := setRow_heap (w1.alloc (.cells Tryz.zeroCells75 75)) w1.heap.size Tryz.zeroCells75 (fill 10) 75 (0, 0) (heap_alloc_new _ _)
  have hb := below_setRow (W := w1.alloc (.cells Tryz.zeroCells75 75)) (below_alloc (Below.refl _ _) _) w1.heap.size (Nat.le_refl _) (fill 10)
  generalize (w1.alloc (.cells Tryz.zeroCells75 75)).setRow w1.heap.size (fill 10) = W at *
  have HG := Aside0.mk hg
  have HB2 := Aside0.mk (below_step HB1.out hb)
  clear hg hb
  refine (tla3 _ _ HG.out).mono ?_
  rintro e w2 ⟨rfl, rfl⟩
  go_wp2_with fail
  go_ret
  exact ⟨rfl, HB2.out⟩
set_option maxHeartbeats 1000000 in
theorem dg3 (w : World) : Calls Tryz.prog 27 #[.string ⟨#[49]⟩] w fun e w' => e = .returned (.tuple #[.string ⟨#[]⟩, .bool true]) ∧ Below w.heap.size w w' := by
  go_enter Tryz.func27, Tryz.ntmps27
  go_wp2_with fail
  refine (tl3 _).mono ?_
  rintro e w2 ⟨rfl, hd⟩
  have HB := Aside0.mk hd
  clear hd
  go_wp2_with fail
  go_ret2
  exact ⟨rfl, HB.out⟩
end Go.Proofs.YthfppmgnemmckaaGreatDoor.PDo
