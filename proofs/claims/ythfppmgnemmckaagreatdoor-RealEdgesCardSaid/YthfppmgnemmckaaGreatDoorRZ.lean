import Derived.Test.YthfppmgnemmckaaGreatDoorRY
import Derived.Lib.Hide
namespace Go.Proofs.YthfppmgnemmckaaGreatDoor.PDo
open Go.RowKit Go.Proofs.YthfppmgnemmckaaGreatDoorW.PrintWords Go.Proofs.YthfppmgnemmckaaGreatDoorW.PrintLast Go.Proofs.YthfppmgnemmckaaGreatDoorW.PrintMore

/-- the set of the first k digits, as it is filled -/
noncomputable def fill : Nat → Array Value
  | 0 => Tryz.zeroCells75
  | k + 1 => (fill k).setIfInBounds (48 + k) (.bool true)
theorem zero_size : Tryz.zeroCells75.size = 256 := by kernel_rfl
theorem fill_size (k : Nat) : (fill k).size = 256 := by
  induction k with
  | zero => exact zero_size
  | succ k ih => simp [fill, ih]
theorem fill_out (k i : Nat) (h : 48 + k ≤ i) : (fill k)[i]? = Tryz.zeroCells75[i]? := by
  induction k with
  | zero => rfl
  | succ k ih => rw [fill, Array.getElem?_setIfInBounds_ne (by omega), ih (by omega)]
theorem fill_low (k i : Nat) (h : i < 48) : (fill k)[i]? = Tryz.zeroCells75[i]? := by
  induction k with
  | zero => rfl
  | succ k ih => rw [fill, Array.getElem?_setIfInBounds_ne (by omega), ih]
theorem fill_in (k i : Nat) (h : 48 ≤ i) (h' : i < 48 + k) (hk : k ≤ 100) : (fill k)[i]? = some (.bool true) := by
  induction k with
  | zero => omega
  | succ k ih =>
    rw [fill]
    by_cases he : i = 48 + k
    · subst he; rw [Array.getElem?_setIfInBounds_self_of_lt (by rw [fill_size]; omega)]
    · rw [Array.getElem?_setIfInBounds_ne (by omega)]; exact ih (by omega) (by omega)
theorem zero_at (i : Nat) (h : i < 256) : Tryz.zeroCells75[i]? = some (.bool false) := by
  have : ∀ j : Fin 256, Tryz.zeroCells75[j.val]? = some (.bool false) := by
    have h : (Tryz.zeroCells75.toList = List.replicate 256 (.bool false)) := by kernel_rfl
    intro j
    rw [← Array.getElem?_toList, h, List.getElem?_replicate, if_pos j.isLt]
  exact this ⟨i, h⟩
theorem fill_cells : (fill 10).all (·.oneCell') = true := by
  rw [Array.all_eq_true]
  intro i h
  have h' : i < 256 := by rw [fill_size] at h; exact h
  have : (fill 10)[i]? = some (.bool true) ∨ (fill 10)[i]? = some (.bool false) := by
    by_cases h1 : i < 48
    · exact .inr (by rw [fill_low _ _ h1, zero_at _ h'])
    · by_cases h2 : i < 58
      · exact .inl (fill_in 10 i (by omega) (by omega) (by omega))
      · exact .inr (by rw [fill_out _ _ (by omega), zero_at _ h'])
  rw [Array.getElem?_eq_getElem h] at this
  rcases this with h | h
  · rw [Option.some.inj h]; rfl
  · rw [Option.some.inj h]; rfl
theorem below_setRow {w W : World} (h : Below w.heap.size w W) (g : Nat) (hg : w.heap.size ≤ g) (cs : Array Value) : Below w.heap.size w (W.setRow g cs) :=
  ⟨h.os, h.tape, h.output, by have := h.size; simpa [World.setRow] using this, fun i hi => (setRow_other W g i cs (by omega)).trans (h.block i hi)⟩
set_option maxHeartbeats 1000000 in
set_option maxRecDepth 100000 in
theorem set_calls (w : World) : Calls Tryz.prog 52 #[.string ⟨#[48, 49, 50, 51, 52, 53, 54, 55, 56, 57]⟩] w fun e w' => e = .returned (.tuple #[.agg (fill 10), .bool true]) ∧ Below w.heap.size w w' := by
  go_enter Tryz.func52, Tryz.ntmps52
  go_wp2
  go_loopw [4] (fun v4 wr => ∃ k : Nat, k ≤ 10 ∧ v4 = .int .i64 k ∧ wr = w.alloc (.cells (fill k) 75)) (fun v4 _ => 10 - (intOf v4).toNat)
  case atStart => exact ⟨0, by omega, rfl, rfl⟩
  case round =>
    obtain ⟨k, hk, rfl, rfl⟩ := hrel
    have hc : (fill k)[48 + k]? = some (.bool false) := by rw [fill_out k _ (by omega), zero_at _ (by omega)]
    by_cases h10 : k < 10
    · have hcases : k = 0 ∨ k = 1 ∨ k = 2 ∨ k = 3 ∨ k = 4 ∨ k = 5 ∨ k = 6 ∨ k = 7 ∨ k = 8 ∨ k = 9 := by omega
      rcases hcases with rfl | rfl | rfl | rfl | rfl | rfl | rfl | rfl | rfl | rfl
      · simp only [Nat.reduceAdd] at hc
        clear hk h10
        have hb : ((⟨#[48, 49, 50, 51, 52, 53, 54, 55, 56, 57]⟩ : ByteArray)[0]'(by decide)).toNat = 48 := rfl
        go_wp2
        go_roundw
        case rel => exact ⟨1, by omega, rfl, rfl⟩
        case measure => simp [intOf]
      · simp only [Nat.reduceAdd] at hc
        clear hk h10
        have hb : ((⟨#[48, 49, 50, 51, 52, 53, 54, 55, 56, 57]⟩ : ByteArray)[1]'(by decide)).toNat = 49 := rfl
        go_wp2
        go_roundw
        case rel => exact ⟨2, by omega, rfl, rfl⟩
        case measure => simp [intOf]
      · simp only [Nat.reduceAdd] at hc
        clear hk h10
        have hb : ((⟨#[48, 49, 50, 51, 52, 53, 54, 55, 56, 57]⟩ : ByteArray)[2]'(by decide)).toNat = 50 := rfl
        go_wp2
        go_roundw
        case rel => exact ⟨3, by omega, rfl, rfl⟩
        case measure => simp [intOf]
      · simp only [Nat.reduceAdd] at hc
        clear hk h10
        have hb : ((⟨#[48, 49, 50, 51, 52, 53, 54, 55, 56, 57]⟩ : ByteArray)[3]'(by decide)).toNat = 51 := rfl
        go_wp2
        go_roundw
        case rel => exact ⟨4, by omega, rfl, rfl⟩
        case measure => simp [intOf]
      · simp only [Nat.reduceAdd] at hc
        clear hk h10
        have hb : ((⟨#[48, 49, 50, 51, 52, 53, 54, 55, 56, 57]⟩ : ByteArray)[4]'(by decide)).toNat = 52 := rfl
        go_wp2
        go_roundw
        case rel => exact ⟨5, by omega, rfl, rfl⟩
        case measure => simp [intOf]
      · simp only [Nat.reduceAdd] at hc
        clear hk h10
        have hb : ((⟨#[48, 49, 50, 51, 52, 53, 54, 55, 56, 57]⟩ : ByteArray)[5]'(by decide)).toNat = 53 := rfl
        go_wp2
        go_roundw
        case rel => exact ⟨6, by omega, rfl, rfl⟩
        case measure => simp [intOf]
      · simp only [Nat.reduceAdd] at hc
        clear hk h10
        have hb : ((⟨#[48, 49, 50, 51, 52, 53, 54, 55, 56, 57]⟩ : ByteArray)[6]'(by decide)).toNat = 54 := rfl
        go_wp2
        go_roundw
        case rel => exact ⟨7, by omega, rfl, rfl⟩
        case measure => simp [intOf]
      · simp only [Nat.reduceAdd] at hc
        clear hk h10
        have hb : ((⟨#[48, 49, 50, 51, 52, 53, 54, 55, 56, 57]⟩ : ByteArray)[7]'(by decide)).toNat = 55 := rfl
        go_wp2
        go_roundw
        case rel => exact ⟨8, by omega, rfl, rfl⟩
        case measure => simp [intOf]
      · simp only [Nat.reduceAdd] at hc
        clear hk h10
        have hb : ((⟨#[48, 49, 50, 51, 52, 53, 54, 55, 56, 57]⟩ : ByteArray)[8]'(by decide)).toNat = 56 := rfl
        go_wp2
        go_roundw
        case rel => exact ⟨9, by omega, rfl, rfl⟩
        case measure => simp [intOf]
      · simp only [Nat.reduceAdd] at hc
        clear hk h10
        have hb : ((⟨#[48, 49, 50, 51, 52, 53, 54, 55, 56, 57]⟩ : ByteArray)[9]'(by decide)).toNat = 57 := rfl
        go_wp2
        go_roundw
        case rel => exact ⟨10, by omega, rfl, rfl⟩
        case measure => simp [intOf]
    · obtain rfl : k = 10 := by omega
      clear h10 hk hc
      have hi : (Tryz.prog.info? 75).map (·.size) = some (fill 10).size := by rw [fill_size]; kernel_rfl
      have hall := fill_cells
      go_wp2_with (first | (refine wpList_load_row rfl 75 _ rfl w.heap.size rfl 75 (fill 10) (0, 0) _ (heap_alloc_new _ _) Tryz.underlying75 rfl hi ?_) | (refine wpList_store_row rfl 75 _ _ rfl w.heap.size (fill 10) rfl rfl 75 (fill 10) (heap_alloc_new _ _) hi rfl hall ?_))
      have hg := setRow_heap (w.alloc (.cells (fill 10) 75)) w.heap.size (fill 10) (fill 10) 75 (0, 0) (heap_alloc_new _ _)
      have hb := below_setRow (W := w.alloc (.cells (fill 10) 75)) (below_alloc (Below.refl _ _) _) w.heap.size (Nat.le_refl _) (fill 10)
      generalize (w.alloc (.cells (fill 10) 75)).setRow w.heap.size (fill 10) = W at *
      refine bodyPost_ret (v := .tuple #[.agg (fill 10), .bool true]) ?_ rfl ⟨rfl, hb⟩
      rw [results_cell_tmp Tryz.results52]
      simp [asAddr]
      rw [run_loadVar_row (P := Tryz.prog) W w.heap.size 75 75 (fill 10) (0, 0) _ hg Tryz.underlying75 rfl hi]
      rfl
/-- block g holds the set of the ten digits -/
def DigSet (w : World) (g : Nat) : Prop := w.heap[g]? = some (.cells (fill 10) 75 (0, 0))
theorem DigSet.cell {w : World} {g : Nat} (h : DigSet w g) (c : Nat) (hc : c < 256) : w.cell? ⟨g, c, none⟩ = some (.bool (decide (48 ≤ c ∧ c < 58))) := by
  rw [cell_of_row w g c (fill 10) 75 (0, 0) h]
  by_cases h1 : c < 48
  · rw [fill_low _ _ h1, zero_at _ hc, decide_eq_false (by omega)]
  · by_cases h2 : c < 58
    · rw [fill_in 10 c (by omega) (by omega) (by omega), decide_eq_true (by omega)]
    · rw [fill_out _ _ (by omega), zero_at _ hc, decide_eq_false (by omega)]
set_option maxRecDepth 100000 in
theorem contains_calls (g : Nat) (c : Nat) (b : Bool) (hc : c < 256) (hb : decide (48 ≤ c ∧ c < 58) = b) (w : World) (h : DigSet w g) : Calls Tryz.prog 63 #[.pointer (some ⟨g, 0, none⟩), .int .u8 c] w fun e w' => e = .returned (.bool b) ∧ w = w' := by
  have hcell := h.cell c hc
  rw [hb] at hcell
  clear h hb
  have h1 : (c : Int) < 256 := by omega
  go_enter Tryz.func63, Tryz.ntmps63
  go_wp2
  go_ret
  exact ⟨rfl, rfl⟩
end Go.Proofs.YthfppmgnemmckaaGreatDoor.PDo
