import Derived.Test.YtgcpnjckbdajbaaGreatDoorOD
import Derived.Carry
import Derived.RangeFuncNested
import Derived.RangeFuncBound
import Derived.RangeFuncCalls
import Derived.RangeFuncLeaves
import Derived.OwnWalkIn
import Derived.TacticsInMore
import Derived.LoopNIn
import Derived.LoopIn
namespace Go.Proofs.YtgcpnjckbdajbaaGreatDoor.Ob
open Go.RowKit Go.Sort

abbrev none4 : Value := .agg #[.slice none 0 0, .slice none 0 0, .slice none 0 0, .slice none 0 0]
theorem alloc_new (w : World) (o : Obj) : (w.alloc o).heap[w.heap.size]? = some o := by
  show (w.heap.push o)[w.heap.size]? = some o
  simp
theorem below_alloc {w w' : World} (h : Below w.heap.size w w') (o : Obj) : Below w.heap.size w (w'.alloc o) := h.alloc h.size o
set_option maxRecDepth 100000 in
set_option maxHeartbeats 1000000 in
theorem check_empty (w : World) : Calls Tryz.prog 18 #[none4] w fun e w' => e = .returned (.int .i64 0) ∧ Below w.heap.size w w' := by
  have hmf : ∀ (fn : Fn) (first cap : Array Value) (w : World), (Instr.makeFunc fn first cap).run Tryz.prog w = .ok (.func fn first cap) w := fun _ _ _ _ => rfl
  have hmm := @run_makeMap Tryz.prog
  go_enter_defers Tryz.func18, Tryz.ntmps18
  go_wp2_with fail
  refine (need_yes _).mono ?_
  rintro e w1 ⟨rfl, rfl⟩
  go_wp2_with fail
  go_loopg [5, 45] 0 (fun kq v5 v45 wr => v45 = .int .i64 0 ∧ wr = ((w.alloc (.cells #[.slice none 0 0, .slice none 0 0, .slice none 0 0, .slice none 0 0] 28)).alloc (.cells #[.int .i64 0] 29)).alloc (.map #[] 0))
  case atStart => exact ⟨rfl, rfl⟩
  case round =>
    obtain ⟨rfl, rfl⟩ := hrel
    go_wp2_with fail
    go_loopg [8, 9, 73] 0 (fun kq v8 v9 v73 wr => v73 = .int .i64 0 ∧ wr = (((w.alloc (.cells #[.slice none 0 0, .slice none 0 0, .slice none 0 0, .slice none 0 0] 28)).alloc (.cells #[.int .i64 0] 29)).alloc (.map #[] 0)).alloc (.cells #[.int .i64 0, .int .i64 (-1)] 83))
    case atStart => exact ⟨rfl, rfl⟩
    case round =>
      obtain ⟨rfl, rfl⟩ := hrel
      go_wp2_with fail
      refine leaves_cons (f := 38) (args := #[.pointer (some ⟨w.heap.size + 1, 0, none⟩)]) (by simp) (by simp [go_sem]) ?_
      refine (catch_idle ⟨w.heap.size + 1, 0, none⟩ _).mono ?_
      rintro e u' w'' ⟨rfl, rfl, rfl⟩
      simp [Leaves, settle, results, Tryz.results18, go_sem]
      exact below_alloc (below_alloc (below_alloc (below_alloc (Below.refl _ _) _) _) _) _

theorem Bld.text {B b : Nat} {l : List UInt8} {w0 w : World} (h : Bld B b l w0 w) (h0 : l ≠ []) :
    Calls Tryz.prog 37 #[.pointer (some ⟨b, 0, none⟩)] w fun e w' => e = .returned (.string ⟨l.toArray⟩) ∧ Bld B b l w0 w' := by
  refine (string_calls B b l w h.is h0).mono ?_
  rintro e w' ⟨rfl, h1, h2, h3⟩
  exact ⟨rfl, h1, h.below.trans h2, h.kept.trans h3⟩
theorem below_step {w w1 w2 : World} (h : Below w.heap.size w w1) (k : Below w1.heap.size w1 w2) : Below w.heap.size w w2 := h.trans (k.mono h.size)
theorem fresh (w : World) (B : Nat) (hB : B ≤ w.heap.size) : Lib.IsBuilderF 73 5 B w.heap.size (Lib.byteCells []) (w.alloc (.cells #[.pointer none, .slice none 0 0] 73)) :=
    .inl ⟨hB, .slice none 0 0, alloc_new w _, World.ownsRowF_nil _ _ _ _, by simp [Value.ownBlock]⟩
theorem Bld.line0 {B b : Nat} {l : List UInt8} {w0 w : World} (h : Bld B b l w0 w) (hB : B ≤ w0.heap.size) (hB1 : 1 < B) (T : Tab w) (word : ByteArray) (hlen : (l ++ lineText word.data.toList []).length ≤ 140737488355328) :
    Calls Tryz.prog 33 #[.pointer (some ⟨b, 0, none⟩), .string word, .slice none 0 0] w fun e w' => e = .returned (.tuple #[]) ∧ Bld B b (l ++ lineText word.data.toList []) w0 w' := by
  refine (line_calls B b l word [] none 0 w h.is (by have := h.below.size; omega) (.inl rfl) (by simp) (by simp) hB1 T hlen).mono ?_
  rintro e w' ⟨rfl, hd⟩
  exact ⟨rfl, h.step hd⟩
theorem tab_alloc {w : World} (T : Tab w) (hw : 1 < w.heap.size) (o : Obj) : Tab (w.alloc o) := tab_below tabN hw ((Below.refl _ w).alloc (Nat.le_refl _) o) T
theorem Bld.line1 {B b : Nat} {l : List UInt8} {w0 w : World} (h : Bld B b l w0 w) (hB : B ≤ w0.heap.size) (hb : b < w.heap.size) (hB1 : 1 < B) (T : Tab w) (word : ByteArray) (n : Int) (hn : -9223372036854775808 ≤ n ∧ n ≤ 9223372036854775807)
    (hlen : (l ++ lineText word.data.toList [n]).length ≤ 140737488355328) :
    Calls Tryz.prog 33 #[.pointer (some ⟨b, 0, none⟩), .string word, .slice (some ⟨w.heap.size, 0, none⟩) 1 1] (w.alloc (.cells #[.int .i64 n] 3)) fun e w' => e = .returned (.tuple #[]) ∧ Bld B b (l ++ lineText word.data.toList [n]) w0 w' := by
  have hs := h.below.size
  have h' := h.alloc hB (.cells #[.int .i64 n] 3)
  refine (line_calls B b l word [n] (some ⟨w.heap.size, 0, none⟩) 1 _ h'.is (by have := h'.below.size; omega) (.inr ⟨w.heap.size, #[.int .i64 n], 3, (0, 0), rfl, by omega, by decide, alloc_new w _, ?_⟩) (by simpa using hn) (by simp) hB1 (tab_alloc T (by omega) _) hlen).mono ?_
  · intro i hi
    obtain rfl : i = 0 := by simpa using hi
    rfl
  rintro e w' ⟨rfl, hd⟩
  exact ⟨rfl, h'.step hd⟩
theorem Bld.cellBelow {B b : Nat} {l : List UInt8} {w0 w : World} (h : Bld B b l w0 w) {a : Addr} (ha : a.block < B) {v : Value} (c : w0.cell? a = some v) : w.cell? a = some v := (h.below.cell ha).trans c
theorem Bld.tab {B b : Nat} {l : List UInt8} {w0 w : World} (h : Bld B b l w0 w) (hB1 : 1 < B) (T : Tab w0) : Tab w := tab_below tabN hB1 h.below T
theorem chunk_calls (ao : Option Addr) (n c : Nat) (w : World) : Calls Tryz.prog 35 #[.slice ao n c, .int .i64 8] w fun e w' => e = .returned (.func (.func 60) #[] #[.pointer (some ⟨w.heap.size, 0, none⟩), .pointer (some ⟨w.heap.size + 1, 0, none⟩)]) ∧ w' = (w.alloc (.cells #[.slice ao n c] 24)).alloc (.cells #[.int .i64 8] 3) := by
  have hmf : ∀ (fn : Fn) (first cap : Array Value) (w : World), (Instr.makeFunc fn first cap).run Tryz.prog w = .ok (.func fn first cap) w := fun _ _ _ _ => rfl
  go_enter Tryz.func35, Tryz.ntmps35
  go_wp2
  go_ret
  exact ⟨rfl, rfl⟩
set_option maxRecDepth 100000 in
theorem chunk_none (a : Nat) (w0 : World) (hc : w0.cell? ⟨a, 0, none⟩ = some (.slice none 0 0)) (ha : a < w0.heap.size) {Kp : World → World → Prop} :
    SeqStopsK Fence.wide (6 - 1) Tryz.prog 60 #[.pointer (some ⟨a, 0, none⟩), .pointer (some ⟨a + 1, 0, none⟩)] (fun x : Empty => x.elim) Kp (fun _ => True) (fun _ => False) 0 w0 := by
  intro l J Jx W hb _ _ _ h0
  refine (callsIn_wide (n := 6 - 1)).2 ?_
  have c : W.cell? ⟨a, 0, none⟩ = some (.slice none 0 0) := (hb.cell (p := ⟨a, 0, none⟩) ha).trans hc
  clear hb hc ha
  go_enter Tryz.func60, Tryz.ntmps60
  go_wp2_with fail
  go_loopg [4] 0 (fun kq v4 wr => v4 = .int .i64 0 ∧ wr = W)
  case atStart => exact ⟨rfl, rfl⟩
  case round =>
    obtain ⟨rfl, rfl⟩ := hrel
    go_wp2_with fail
    go_end0
    exact ⟨⟨_, rfl⟩, .inl ⟨[], trivial, h0⟩⟩
theorem bld_own {β : Type} {B b C : Nat} {l : List UInt8} {w0 : World} (hB : B ≤ w0.heap.size) (hC : w0.heap.size ≤ C) : OwnFrom C (fun (_ : β) W => Bld B b l w0 W) := by
  intro s W W' row h hg hr
  have hs := h.below.size
  have step : ∀ p, Lib.BuilderAtF 73 5 B b p (Lib.byteCells l) W → Lib.BuilderAtF 73 5 B b p (Lib.byteCells l) W' := by
    rintro p ⟨h1, v, h2, h3, h4⟩
    have hb : some b ≠ row := by
      intro e
      obtain ⟨_, o, ho, hc⟩ := hr b e.symm
      rw [h2] at ho
      cases ho
      cases hc
    refine ⟨h1, v, (hg.block b (Array.getElem?_eq_some_iff.1 h2).1 hb).trans h2, h3.kept hg ?_, h4⟩
    rcases h3.2 with ⟨rfl, _⟩ | ⟨g, cap, cur, fz, rfl, _, hgg, _⟩
    · exact .inl rfl
    · refine .inr fun e => ?_
      obtain ⟨_, o, ho, hc⟩ := hr g e.symm
      rw [hgg] at ho
      cases ho
      cases hc
  refine ⟨h.is.elim (fun x => .inl (step _ x)) (fun x => .inr (step _ x)), h.below.grown hg (by omega) (fun k e => by have := (hr k e).1; omega), ?_⟩
  intro k o hk hb ho
  have h1 := h.kept k o hk hb ho
  have hlt := (Array.getElem?_eq_some_iff.1 hk).1
  rw [hg.block k (Array.getElem?_eq_some_iff.1 h1).1 (fun e => by have := (hr k e.symm).1; omega)]
  exact h1
theorem line_zero (word : List UInt8) : lineText word [0] = word ++ [32, 48, 10] := by
  have e : Lib.itoa 0 = [48] := by simp [Lib.itoa, Lib.decDigits]
  simp [lineText, numTail, e]
abbrev emptyText : List UInt8 := [111, 98, 106, 101, 99, 116, 10, 116, 101, 120, 116, 32, 48, 10, 100, 97, 116, 97, 32, 48, 10, 115, 121, 109, 115, 32, 48, 10, 114, 101, 108, 115, 32, 48, 10, 101, 110, 100, 10]
theorem cell_of_old {w : World} {o : Obj} {a : Addr} (h : a.block < w.heap.size) : (w.alloc o).cell? a = w.cell? a := ((Below.refl _ w).alloc (Nat.le_refl _) o).cell h
set_option maxRecDepth 100000 in
set_option maxHeartbeats 1000000 in
theorem print_empty (w : World) (hT : Tab w) (hw : 1 < w.heap.size) : Calls Tryz.prog 14 #[none4] w fun e w' => e = .returned (.tuple #[.string ⟨emptyText.toArray⟩, .int .i64 0]) ∧ Below w.heap.size w w' := by
  have PT := Pack.mk hT
  have PW := Pack.mk hw
  clear hT hw
  refine (callsIn_wide (n := 6)).1 ?_
  refine callsIn_of_wp_marks Tryz.func14 rfl trivial ?_ rfl
  refine wpIn_wide.2 ?_
  simp only [Tryz.ntmps14, List.size_toArray, List.length_cons, List.length_nil, Nat.reduceAdd, Nat.reduceSub, Array.replicate_succ, Array.replicate_zero, List.push_toArray, List.append_toArray, List.nil_append, List.cons_append]
  go_wp2_with fail
  refine (check_empty _).mono ?_
  rintro e w1 ⟨rfl, hd⟩
  have PC := Pack.mk hd
  clear hd
  go_wp2_with fail
  have hn1 : 1 < w1.heap.size := by have h1 := PC.out.size; have h2 := PW.out; simp at h1; omega
  have hnB : w.heap.size < w1.heap.size := by have h1 := PC.out.size; simp at h1; omega
  obtain ⟨N, hN⟩ : ∃ N, w1.heap.size = N := ⟨_, rfl⟩
  have P0 : Pack (Bld N N [] (w1.alloc (.cells #[.pointer none, .slice none 0 0] 73)) (w1.alloc (.cells #[.pointer none, .slice none 0 0] 73))) := ⟨⟨by rw [← hN]; exact fresh w1 _ (Nat.le_refl _), Below.refl _ _, Lib.OthersKept.refl _ _ _⟩⟩
  have hT0 : Pack (Tab (w1.alloc (.cells #[.pointer none, .slice none 0 0] 73))) := ⟨tab_alloc (tab_below tabN PW.out (below_step (below_alloc (Below.refl _ w) _) PC.out) PT.out) (by omega) _⟩
  have hbox : Pack (∀ j, j < 4 → (w1.alloc (.cells #[.pointer none, .slice none 0 0] 73)).cell? ⟨w.heap.size, j, none⟩ = some (.slice none 0 0)) := ⟨by
    intro j hj
    rw [cell_of_old (by omega), PC.out.cell (by simp)]
    rcases j with _ | _ | _ | _ | j
    · go_simp
    · go_simp
    · go_simp
    · go_simp
    · omega⟩
  rw [hN] at hn1 hnB ⊢
  have hsz : N ≤ (w1.alloc (.cells #[.pointer none, .slice none 0 0] 73)).heap.size := by simp; omega
  have hlt : N < (w1.alloc (.cells #[.pointer none, .slice none 0 0] 73)).heap.size := by simp; omega
  refine (P0.out.line0 hsz hn1 (P0.out.tab hn1 hT0.out) _ (by decide)).mono ?_
  rintro e w2 ⟨rfl, h2⟩
  have P2 : Pack (Bld N N [111, 98, 106, 101, 99, 116, 10] (w1.alloc (.cells #[.pointer none, .slice none 0 0] 73)) w2) := ⟨h2⟩
  clear h2 P0
  have b20 := P2.out.cellBelow (a := ⟨w.heap.size, 0, none⟩) hnB (hbox.out 0 (by omega))
  go_wp2_with fail
  refine (P2.out.line1 hsz (by have := P2.out.below.size; omega) hn1 (P2.out.tab hn1 hT0.out) _ 0 (by decide) (by rw [line_zero]; decide)).mono ?_
  rintro e w3 ⟨rfl, h3⟩
  have P3 : Pack (Bld N N [111, 98, 106, 101, 99, 116, 10, 116, 101, 120, 116, 32, 48, 10] (w1.alloc (.cells #[.pointer none, .slice none 0 0] 73)) w3) := ⟨by rw [line_zero] at h3; exact h3⟩
  clear h3 P2
  have b30 := P3.out.cellBelow (a := ⟨w.heap.size, 0, none⟩) hnB (hbox.out 0 (by omega))
  have b31 := P3.out.cellBelow (a := ⟨w.heap.size, 1, none⟩) hnB (hbox.out 1 (by omega))
  go_wp2_with fail
  go_loopg [7, 31] 0 (fun kq v7 v31 wr => v31 = .int .i64 0 ∧ wr = w3)
  case atStart => exact ⟨rfl, rfl⟩
  case round =>
    obtain ⟨rfl, rfl⟩ := hrel
    go_wp2_with fail
    refine (P3.out.line1 hsz (by have := P3.out.below.size; omega) hn1 (P3.out.tab hn1 hT0.out) _ 0 (by decide) (by rw [line_zero]; decide)).mono ?_
    rintro e w4 ⟨rfl, h4⟩
    have P4 : Pack (Bld N N [111, 98, 106, 101, 99, 116, 10, 116, 101, 120, 116, 32, 48, 10, 100, 97, 116, 97, 32, 48, 10] (w1.alloc (.cells #[.pointer none, .slice none 0 0] 73)) w4) := ⟨by rw [line_zero] at h4; exact h4⟩
    clear h4 P3
    have b41 := P4.out.cellBelow (a := ⟨w.heap.size, 1, none⟩) hnB (hbox.out 1 (by omega))
    go_wp2_with fail
    refine (chunk_calls _ _ _ _).mono ?_
    rintro e w5 ⟨rfl, hw5⟩
    go_wp2_with fail
    refine (wpIn_wide (n := 6)).1 ?_
    refine wpIn_rangeFunc_ownF (α := Empty) rfl (by decide) (gf := 60) (lb := #[.pointer (some ⟨w4.heap.size, 0, none⟩), .pointer (some ⟨w4.heap.size + 1, 0, none⟩)]) rfl trivial (enters_of Tryz.func60 (by kernel_rfl) rfl) (encs := fun x => x.elim) (Kp := Below N) (S := fun _ => True) (Sp := fun _ => False) (N := 0) (w0 := (w4.alloc (.cells #[.slice none 0 0] 24)).alloc (.cells #[.int .i64 8] 3)) ?seq belowK_t ?kb (Below.refl _ _) (fun x => x.elim) (fun _ W => Bld N N [111, 98, 106, 101, 99, 116, 10, 116, 101, 120, 116, 32, 48, 10, 100, 97, 116, 97, 32, 48, 10] (w1.alloc (.cells #[.pointer none, .slice none 0 0] 73)) W) (fun _ _ _ => False) ?own ?ownx ?h0 (fun x => x.elim) (fun _ x => x.elim) (fun _ _ x => x.elim) ?done (fun _ _ _ _ _ h => h.elim)
    case seq => exact chunk_none w4.heap.size _ (by go_simp) (by simp; omega)
    case kb => exact fun W l o o' hl h h1 h2 => belowK_b (w := w4) (by have := P4.out.below.size; omega) W l o o' (by simp at hl; omega) h h1 h2
    case own => exact bld_own hsz (by have := P4.out.below.size; simp at this ⊢; omega)
    case ownx => exact fun _ _ _ _ _ h => h.elim
    case h0 => exact (P4.out.alloc hsz _).alloc hsz _
    case done =>
      intro D xs W hD _ h5 hdef
      have P5 : Pack (Bld N N [111, 98, 106, 101, 99, 116, 10, 116, 101, 120, 116, 32, 48, 10, 100, 97, 116, 97, 32, 48, 10] (w1.alloc (.cells #[.pointer none, .slice none 0 0] 73)) W) := ⟨h5⟩
      have PD : Pack (W.heap[D]? = some (.deferred (some [])) ∧ N < D) := ⟨hdef, by have := P4.out.below.size; simp at this hD; omega⟩
      clear h5 hdef hD
      have hW := P5.out.below.size
      have P6 : Pack (Bld N N [111, 98, 106, 101, 99, 116, 10, 116, 101, 120, 116, 32, 48, 10, 100, 97, 116, 97, 32, 48, 10] W W) := ⟨⟨P5.out.is, Below.refl _ _, Lib.OthersKept.refl _ _ _⟩⟩
      have hszW : N ≤ W.heap.size := by omega
      have hTW : Pack (Tab W) := ⟨P5.out.tab hn1 hT0.out⟩
      have hbW : Pack (∀ j, j < 4 → W.cell? ⟨w.heap.size, j, none⟩ = some (.slice none 0 0)) := ⟨fun j hj => P5.out.cellBelow (a := ⟨w.heap.size, j, none⟩) hnB (hbox.out j hj)⟩
      have hBW : Pack (Below w.heap.size w W) := ⟨below_step (below_step (below_alloc (Below.refl _ w) _) PC.out) ((below_alloc (Below.refl _ w1) _).trans (by rw [hN]; exact P5.out.below))⟩
      have b52 := hbW.out 2 (by omega)
      clear P4 P5 hT0 hbox
      go_wp2_with fail
      refine (P6.out.line1 hszW (by have := P6.out.below.size; omega) hn1 (P6.out.tab hn1 hTW.out) _ 0 (by decide) (by rw [line_zero]; decide)).mono ?_
      rintro e w7 ⟨rfl, h7⟩
      have P7 : Pack (Bld N N [111, 98, 106, 101, 99, 116, 10, 116, 101, 120, 116, 32, 48, 10, 100, 97, 116, 97, 32, 48, 10, 115, 121, 109, 115, 32, 48, 10] W w7) := ⟨by rw [line_zero] at h7; exact h7⟩
      clear h7 P6
      have b72 := P7.out.cellBelow (a := ⟨w.heap.size, 2, none⟩) (by show w.heap.size < N; omega) (hbW.out 2 (by omega))
      have b73 := P7.out.cellBelow (a := ⟨w.heap.size, 3, none⟩) (by show w.heap.size < N; omega) (hbW.out 3 (by omega))
      go_wp2_with fail
      go_loopg [13, 14, 72] 0 (fun kq v13 v14 v72 wr => v72 = .int .i64 0 ∧ wr = w7)
      case atStart => exact ⟨rfl, rfl⟩
      case round =>
        obtain ⟨rfl, rfl⟩ := hrel
        go_wp2_with fail
        refine (P7.out.line1 hszW (by have := P7.out.below.size; omega) hn1 (P7.out.tab hn1 hTW.out) _ 0 (by decide) (by rw [line_zero]; decide)).mono ?_
        rintro e w8 ⟨rfl, h8⟩
        have P8 : Pack (Bld N N [111, 98, 106, 101, 99, 116, 10, 116, 101, 120, 116, 32, 48, 10, 100, 97, 116, 97, 32, 48, 10, 115, 121, 109, 115, 32, 48, 10, 114, 101, 108, 115, 32, 48, 10] W w8) := ⟨by rw [line_zero] at h8; exact h8⟩
        clear h8 P7
        have b83 := P8.out.cellBelow (a := ⟨w.heap.size, 3, none⟩) (by show w.heap.size < N; omega) (hbW.out 3 (by omega))
        go_wp2_with fail
        go_loopg [16, 98] 0 (fun kq v16 v98 wr => v98 = .int .i64 0 ∧ wr = w8)
        case atStart => exact ⟨rfl, rfl⟩
        case round =>
          obtain ⟨rfl, rfl⟩ := hrel
          go_wp2_with fail
          refine (P8.out.line0 hszW hn1 (P8.out.tab hn1 hTW.out) _ (by decide)).mono ?_
          rintro e w9 ⟨rfl, h9⟩
          have P9 : Pack (Bld N N [111, 98, 106, 101, 99, 116, 10, 116, 101, 120, 116, 32, 48, 10, 100, 97, 116, 97, 32, 48, 10, 115, 121, 109, 115, 32, 48, 10, 114, 101, 108, 115, 32, 48, 10, 101, 110, 100, 10] W w9) := ⟨h9⟩
          clear h9 P8
          go_wp2_with fail
          refine (P9.out.text (by decide)).mono ?_
          rintro e w10 ⟨rfl, h10⟩
          have PE := Pack.mk h10
          clear h10
          go_wp2_with fail
          have hK := PE.out.kept D _ PD.out.1 (by intro e; have := PD.out.2; cases e; omega) (by intro c fz e; cases e)
          have hB := hBW.out.trans (PE.out.below.mono (B' := w.heap.size) (by show w.heap.size ≤ N; omega))
          have hD := PD.out.2
          refine ⟨by simp, .inl ⟨_, _, rfl, run_takeDeferred hK, ?_⟩⟩
          refine ⟨.tuple #[.string ⟨emptyText.toArray⟩, .int .i64 0], ?_, rfl, hB.trans (belowK_b (w := w) (Nat.le_refl _) _ D _ _ (by omega) hK rfl rfl)⟩
          simp [results, Tryz.results14, go_sem]
end Go.Proofs.YtgcpnjckbdajbaaGreatDoor.Ob
