import Derived.Test.YtgcpnjckbdajbaaGreatDoorPF
import Derived.Maps.RangeRun
namespace Go.Proofs.YtgcpnjckbdajbaaGreatDoor.Ob
open Go.RowKit Go.Sort
open Go.ChangeMaps (setBlock)

theorem ent_mem {y : MapEntry} (h : y ∈ (ent forms).toList) : ∃ p ∈ forms.zipIdx, entAt p = y := by
  simpa [ent] using h
theorem ent_born (p : Ent × Nat) : (entAt p).born = p.2 := rfl
theorem ent_hold : ∀ y ∈ (ent forms).toList, y.born < forms.length := by
  intro y hy
  obtain ⟨p, hp, rfl⟩ := ent_mem hy
  exact (List.mem_zipIdx' hp).1
theorem ent_nodup : ((ent forms).toList.map (·.born)).Nodup := by
  have : (ent forms).toList.map (·.born) = forms.zipIdx.map (·.2) := by simp [ent, Function.comp_def, entAt]
  rw [this]
  decide +kernel
/-- none of what has been seen is the word's -/
def NoMatch (x : Int) (seen : Array Nat) : Prop := ∀ p ∈ forms.zipIdx, seen.contains p.2 = true → matchV p.1 x = false
theorem dec_none {x : Int} {seen : Array Nat} (h : NoMatch x seen) (hl : (leftOf (ent forms) seen).size = 0) : decV x = none := by
  unfold decV
  rw [Option.map_eq_none_iff, List.find?_eq_none]
  intro e he
  obtain ⟨i, hi, rfl⟩ := List.getElem_of_mem he
  have hp : (forms[i], i) ∈ forms.zipIdx := by
    rw [List.mem_zipIdx_iff_getElem?]
    exact List.getElem?_eq_getElem hi
  cases hs : seen.contains i with
  | true => simpa using h _ hp hs
  | false =>
    exfalso
    have : entAt (forms[i], i) ∈ leftOf (ent forms) seen := by
      unfold leftOf
      rw [Array.mem_filter]
      refine ⟨?_, by rw [ent_born, hs]; rfl⟩
      unfold ent
      rw [List.mem_toArray]
      exact List.mem_map_of_mem hp
    have h0 : leftOf (ent forms) seen = #[] := Array.eq_empty_of_size_eq_zero hl
    rw [h0] at this
    simp at this
theorem dec_some {x : Int} {e : Ent} (he : e ∈ forms) (h : matchV e x = true) : decV x = some (insOf e x) := by
  unfold decV
  cases hf : forms.find? fun e => matchV e x with
  | none => rw [List.find?_eq_none] at hf; exact absurd h (hf e he)
  | some g =>
    have hg := List.find?_some hf
    rw [match_one (List.mem_of_find?_eq_some hf) he hg h]
    rfl
theorem forms_lookup {e : Ent} (he : e ∈ forms) : forms.lookup e.1 = some e.2 := by
  have : (forms.all fun e => decide (forms.lookup e.1 = some e.2)) = true := by decide +kernel
  exact of_decide_eq_true (List.all_eq_true.1 this e he)
def decVal (x : Int) : Value := match decV x with
  | some i => .tuple #[insVal i, .int .i64 0]
  | none => .tuple #[insVal ⟨0, 0, 0, 0, 0⟩, .int .i64 2]

theorem noMatch_push {x : Int} {seen : Array Nat} {p : Ent × Nat} (hp : p ∈ forms.zipIdx) (h : NoMatch x seen) (hn : matchV p.1 x = false) : NoMatch x (seen.push p.2) := by
  intro q hq hs
  rw [contains_push] at hs
  by_cases e : q.2 = p.2
  · have h1 := List.mem_zipIdx_iff_getElem?.1 hp
    have h2 := List.mem_zipIdx_iff_getElem?.1 hq
    rw [e] at h2
    rw [h1, Option.some.injEq] at h2
    rw [← h2]
    exact hn
  · exact h q hq (by simpa [e] using hs)
theorem idx132_0 (a0 a1 a2 : Addr) (w : World) : Sem.run Tryz.prog (Instr.index 132 (.agg #[.pointer (some a0), .pointer (some a1), .pointer (some a2)]) (.int .i64 0)) w = .ok (.pointer (some a0)) w := by kernel_rfl
theorem idx133_0 (a0 a1 a2 : Int) (w : World) : Sem.run Tryz.prog (Instr.index 133 (.agg #[.int .u64 a0, .int .u64 a1, .int .u64 a2]) (.int .i64 0)) w = .ok (.int .u64 a0) w := by kernel_rfl
theorem idx132_1 (a0 a1 a2 : Addr) (w : World) : Sem.run Tryz.prog (Instr.index 132 (.agg #[.pointer (some a0), .pointer (some a1), .pointer (some a2)]) (.int .i64 1)) w = .ok (.pointer (some a1)) w := by kernel_rfl
theorem idx133_1 (a0 a1 a2 : Int) (w : World) : Sem.run Tryz.prog (Instr.index 133 (.agg #[.int .u64 a0, .int .u64 a1, .int .u64 a2]) (.int .i64 1)) w = .ok (.int .u64 a1) w := by kernel_rfl
theorem idx132_2 (a0 a1 a2 : Addr) (w : World) : Sem.run Tryz.prog (Instr.index 132 (.agg #[.pointer (some a0), .pointer (some a1), .pointer (some a2)]) (.int .i64 2)) w = .ok (.pointer (some a2)) w := by kernel_rfl
theorem idx133_2 (a0 a1 a2 : Int) (w : World) : Sem.run Tryz.prog (Instr.index 133 (.agg #[.int .u64 a0, .int .u64 a1, .int .u64 a2]) (.int .i64 2)) w = .ok (.int .u64 a2) w := by kernel_rfl
theorem fiveV7 (x : Int) : fiveV x 7 = wrap64 (bits .and .u32 (x / 128) 31) := by
  unfold fiveV
  rw [show (2 : Int) ^ 7 = 128 by decide]
theorem fiveV15 (x : Int) : fiveV x 15 = wrap64 (bits .and .u32 (x / 32768) 31) := by
  unfold fiveV
  rw [show (2 : Int) ^ 15 = 32768 by decide]
theorem fiveV20 (x : Int) : fiveV x 20 = wrap64 (bits .and .u32 (x / 1048576) 31) := by
  unfold fiveV
  rw [show (2 : Int) ^ 20 = 1048576 by decide]
theorem heap_two (w : World) (A B : Obj) (k : Nat) (h : k < w.heap.size) : ((w.alloc A).alloc B).heap[k]? = w.heap[k]? := by
  rw [Below.heap_alloc _ _ _ (by simp; omega), Below.heap_alloc _ _ _ h]
theorem set4heap {w : World} {b : Nat} {v0 v1 v2 v3 v4 : Value} {t : TypeId} (h : w.heap[b]? = some (.cells #[v0, v1, v2, v3, v4] t (0, 0))) (x4 : Value) : (w.setCell ⟨b, 4, none⟩ x4).heap[b]? = some (.cells #[v0, v1, v2, v3, x4] t (0, 0)) := by
  simp [World.setCell, Array.getElem?_modify, h]
theorem five_at {w : World} {b : Nat} {v0 v1 v2 v3 v4 : Value} {t : TypeId} (h : w.heap[b]? = some (.cells #[v0, v1, v2, v3, v4] t (0, 0))) :
    (w.cell? ⟨b, 0, none⟩ = some v0 ∧ w.cell? ⟨b, 1, none⟩ = some v1 ∧ w.cell? ⟨b, 2, none⟩ = some v2 ∧ w.cell? ⟨b, 3, none⟩ = some v3 ∧ w.cell? ⟨b, 4, none⟩ = some v4) ∧
    (w.frozen? ⟨b, 0, none⟩ = false ∧ w.frozen? ⟨b, 1, none⟩ = false ∧ w.frozen? ⟨b, 2, none⟩ = false ∧ w.frozen? ⟨b, 3, none⟩ = false ∧ w.frozen? ⟨b, 4, none⟩ = false) := by
  refine ⟨⟨?_, ?_, ?_, ?_, ?_⟩, ?_, ?_, ?_, ?_, ?_⟩ <;> simp [World.cell?, World.frozen?, h]
theorem set5heap {w : World} {b : Nat} {v0 v1 v2 v3 v4 : Value} {t : TypeId} (h : w.heap[b]? = some (.cells #[v0, v1, v2, v3, v4] t (0, 0))) (x0 x1 x2 x3 x4 : Value) :
    (((((w.setCell ⟨b, 0, none⟩ x0).setCell ⟨b, 1, none⟩ x1).setCell ⟨b, 2, none⟩ x2).setCell ⟨b, 3, none⟩ x3).setCell ⟨b, 4, none⟩ x4).heap[b]? = some (.cells #[x0, x1, x2, x3, x4] t (0, 0)) := by
  simp [World.setCell, Array.getElem?_modify, h]
theorem ret63 (tmps : Array Value) (w : World) (g : Nat) (c0 c1 c2 c3 c4 e : Value) (hp : tmps.getD 2 undef = .pointer (some ⟨g, 0, none⟩)) (h3 : tmps.getD 3 undef = e) (hg : w.heap[g]? = some (.cells #[c0, c1, c2, c3, c4] 108 (0, 0))) :
    (results Tryz.f63 tmps).run Tryz.prog w = .ok (.tuple #[.agg #[c0, c1, c2, c3, c4], e]) w := by
  rw [results_cell_tmp (fn := Tryz.f63) (p := 2) (u := 3) (ty := 108) rfl, hp, h3]
  have := run_loadVar_row (P := Tryz.prog) w g 108 108 #[c0, c1, c2, c3, c4] (0, 0) _ hg Tryz.underlying108 rfl (by kernel_rfl)
  simp [asAddr, this]

set_option maxRecDepth 100000 in
set_option maxHeartbeats 20000000 in
theorem decode_calls (hE : ∀ (e : Ent), e ∈ forms → ∀ (x : Int) (W : World), Calls Tryz.prog 83 #[insVal (insOf e x)] W fun r W' => r = .returned (encVal e.2 (insOf e x)) ∧ Below W.heap.size W W') (x : Int) (h0 : 0 ≤ x) (h1 : x < 4294967296) (w : World) : Calls Tryz.prog 63 #[.int .u32 x] w fun r w' => r = .returned (decVal x) ∧ Below w.heap.size w w' := by
  have CF : Pack (∀ W, Calls Tryz.prog 80 #[] W fun e w' => e = .returned (.map (some W.heap.size)) ∧ w'.heap[W.heap.size]? = some (.map (ent forms) forms.length) ∧ Below W.heap.size W w') := ⟨forms_calls⟩
  have CE := Pack.mk hE
  clear hE
  go_enter Tryz.func63, Tryz.ntmps63
  go_wp2_with fail
  refine (CF.out _).mono ?_
  rintro e w1 ⟨rfl, hm, hb⟩
  rw [show (w.alloc (.cells #[.int .i64 0, .int .i64 0, .int .i64 0, .int .i64 0, .int .i64 0] 108)).heap.size = w.heap.size + 1 from by simp] at hm
  have hrng := run_range_map (P := Tryz.prog) w1 125 3 128 _ _ _ u125 hm
  have HM := Pack.mk hm
  have HB := Pack.mk hb
  clear hm hb
  go_wp2_with fail
  have hres : Pack (w1.heap[w.heap.size]? = some (.cells #[.int .i64 0, .int .i64 0, .int .i64 0, .int .i64 0, .int .i64 0] 108 (0, 0))) := ⟨by
    rw [HB.out.block _ (by simp)]
    exact heap_alloc_new w _⟩
  have hlt : Pack (w.heap.size + 1 < w1.heap.size) := ⟨(Array.getElem?_eq_some_iff.1 HM.out).1⟩
  clear hrng
  go_loopg [4] (leftOf (ent forms) #[]).size (fun kq v4 wr => ∃ seen : Array Nat, (leftOf (ent forms) seen).size = kq ∧ Pack (wr.heap[w1.heap.size]? = some (.mapIter (some (w.heap.size + 1)) forms.length seen forms.length) ∧ Below w1.heap.size w1 wr ∧ NoMatch x seen))
  case atStart => exact ⟨#[], rfl, ⟨heap_alloc_new _ _, (Below.refl _ w1).alloc (Nat.le_refl _) _, fun _ _ h => by simp at h⟩⟩
  case round =>
    obtain ⟨seen, hk, P⟩ := hrel
    rcases run_next_at (P := Tryz.prog) wr 0 w1.heap.size (w.heap.size + 1) forms.length forms.length seen (ent forms) forms.length P.out.1 ((P.out.2.1.block _ hlt.out).trans HM.out) ent_hold (Nat.le_refl _) with ⟨hz, hrun⟩ | ⟨y, hy, wd, hwd, hrun⟩
    · have DN : Pack (decV x = none) := ⟨dec_none P.out.2.2 hz⟩
      clear hk hz
      have hr := Pack.mk ((P.out.2.1.block _ (by have := hlt.out; omega)).trans hres.out)
      obtain ⟨⟨p0, p1, p2, p3, p4⟩, q0, q1, q2, q3, q4⟩ := five_at hr.out
      go_wp2_with fail
      (try simp only [Exit.inBlock, Exit.then])
      refine bodyPost_ret (ret63 _ _ w.heap.size _ _ _ _ _ _ rfl rfl (set5heap hr.out _ _ _ _ _)) rfl ?_
      refine ⟨by rw [decVal, DN.out]; rfl, ?_⟩
      have hbw : Below w.heap.size w wr := ((Below.refl _ w).alloc (Nat.le_refl _) _).trans ((HB.out.mono (by simp)).trans (P.out.2.1.mono (by have := hlt.out; omega)))
      exact below5 wr w.heap.size hbw (Nat.le_refl _) _ _ _ _ _
    · obtain ⟨hyl, hys⟩ := mem_left hy
      have hshr := left_shrinks (ent forms) seen y hy
      obtain ⟨p, hp, rfl⟩ := ent_mem hyl
      rw [ent_born] at hrun hshr
      have hlr : w1.heap.size < wr.heap.size := (Array.getElem?_eq_some_iff.1 P.out.1).1
      have hq : Pack ((setBlock wd w1.heap.size (.mapIter (some (w.heap.size + 1)) forms.length (seen.push p.2) forms.length)).heap[w1.heap.size]? = some (.mapIter (some (w.heap.size + 1)) forms.length (seen.push p.2) forms.length) ∧ Below w1.heap.size w1 (setBlock wd w1.heap.size (.mapIter (some (w.heap.size + 1)) forms.length (seen.push p.2) forms.length))) := ⟨by
        have hb1 := P.out.2.1
        rcases hwd with rfl | rfl
        · exact ⟨by simp [setBlock, hlr], ⟨hb1.os, hb1.tape, hb1.output, by simp [setBlock]; exact hb1.size, fun k hk => by
            rw [← hb1.block k hk]
            simp [setBlock, show ¬ w1.heap.size = k by omega]⟩⟩
        · exact ⟨by simp [setBlock, hlr], ⟨hb1.os, hb1.tape, hb1.output, by simp [setBlock]; exact hb1.size, fun k hk => by
            rw [← hb1.block k hk]
            simp [setBlock, show ¬ w1.heap.size = k by omega]
            rfl⟩⟩⟩
      clear hwd hlr
      generalize setBlock wd w1.heap.size (.mapIter (some (w.heap.size + 1)) forms.length (seen.push p.2) forms.length) = wq at hrun hq
      have hent := run_entry_at (P := Tryz.prog) wq w1.heap.size (w.heap.size + 1) forms.length seen (ent forms) forms.length (entAt p) hq.out.1 ((hq.out.2.block _ hlt.out).trans HM.out) hyl ent_nodup
      clear hy hys hyl
      have NP := Pack.mk (fun hn => noMatch_push hp P.out.2.2 hn)
      have MF : Pack (p.1 ∈ forms) := ⟨by
        have := List.mem_zipIdx_iff_getElem?.1 hp
        exact List.mem_of_getElem? this⟩
      have HS : Pack ((leftOf (ent forms) (seen.push p.2)).size < gk) := ⟨by rw [← hk]; exact hshr⟩
      clear hp hk hshr P
      obtain ⟨⟨k, kind, opc, f3, f7, fix⟩, born⟩ := p
      simp only [entAt, rowVal, encRow] at hrun hent NP MF HS hq
      by_cases hop : opc = bits .and .u32 x 127
      case neg =>
        have NM : Pack (matchV (k, ⟨kind, opc, f3, f7, fix⟩) x = false) := ⟨by unfold matchV; rw [decide_eq_false hop]; rfl⟩
        go_wp2_with fail
        go_roundg (leftOf (ent forms) (seen.push born)).size
        case measure => exact HS.out
        case rel => exact ⟨seen.push born, rfl, ⟨(Below.heap_alloc _ _ _ (Array.getElem?_eq_some_iff.1 hq.out.1).1).trans hq.out.1, hq.out.2.alloc hq.out.2.size _, NP.out NM.out⟩⟩
      case pos =>
        subst hop
        obtain ⟨u, hu⟩ : ∃ u, usesV ⟨kind, bits .and .u32 x 127, f3, f7, fix⟩ = u := ⟨_, rfl⟩
        obtain ⟨u0, u1, u2, u3⟩ := u
        have U := Pack.mk hu
        clear hu
        have C81 : Pack (∀ W, Calls Tryz.prog 81 #[.agg #[.int .u8 kind, .int .u32 (bits .and .u32 x 127), .int .u32 f3, .int .u32 f7, .int .i64 fix]] W fun e w' => e = .returned (.agg #[.bool u0, .bool u1, .bool u2, .bool u3]) ∧ Below W.heap.size W w') := ⟨fun W => by
          have := uses_calls ⟨kind, bits .and .u32 x 127, f3, f7, fix⟩ W
          rw [U.out] at this
          exact this⟩
        have C82 : Pack (∀ W, Calls Tryz.prog 82 #[.agg #[.int .u8 kind, .int .u32 (bits .and .u32 x 127), .int .u32 f3, .int .u32 f7, .int .i64 fix], .int .u32 x] W fun e w' => e = .returned (.int .i64 (signedV ⟨kind, bits .and .u32 x 127, f3, f7, fix⟩ x)) ∧ Below W.heap.size W w') := ⟨fun W => signed_calls ⟨kind, bits .and .u32 x 127, f3, f7, fix⟩ x h0 h1 W⟩
        obtain ⟨ew, ee, hev⟩ : ∃ ew ee, encV ⟨kind, bits .and .u32 x 127, f3, f7, fix⟩ (insOf (k, ⟨kind, bits .and .u32 x 127, f3, f7, fix⟩) x) = (ew, ee) := ⟨_, _, rfl⟩
        have C83 : Pack (∀ W, Calls Tryz.prog 83 #[insVal (insOf (k, ⟨kind, bits .and .u32 x 127, f3, f7, fix⟩) x)] W fun r W' => r = .returned (.tuple #[.int .u32 ew, .int .i64 ee]) ∧ Below W.heap.size W W') := ⟨fun W => by
          have := CE.out _ MF.out x W
          unfold encVal at this
          rw [hev] at this
          exact this⟩
        have MM : Pack (matchV (k, ⟨kind, bits .and .u32 x 127, f3, f7, fix⟩) x = (decide (ee = 0) && decide (ew = x))) := ⟨by unfold matchV; rw [hev, decide_eq_true rfl]; rfl⟩
        have hpat := uses_cases _ U.out
        clear hev
        rcases hpat with h | h | h | h | h | h
        · obtain ⟨rfl, rfl, rfl, rfl⟩ := h
          have EI : insVal (insOf (k, ⟨kind, bits .and .u32 x 127, f3, f7, fix⟩) x) = .agg #[.int .i64 k, .int .i64 (wrap64 (bits .and .u32 (x / 128) 31)), .int .i64 (wrap64 (bits .and .u32 (x / 32768) 31)), .int .i64 (wrap64 (bits .and .u32 (x / 1048576) 31)), .int .i64 (0)] := by
            unfold insOf
            simp only [U.out, if_true, Bool.false_eq_true, if_false, fiveV7, fiveV15, fiveV20]
            rfl
          rw [EI] at C83
          have j0 := idx129_0
          have j1 := idx129_1
          have j2 := idx129_2
          have j3 := idx129_3
          have m0 := idx132_0
          have n0 := idx133_0
          have m1 := idx132_1
          have n1 := idx133_1
          have m2 := idx132_2
          have n2 := idx133_2
          go_wp2_with fail
          refine (C81.out _).mono ?_
          rintro e w2 ⟨rfl, hb2⟩
          have R2 := Pack.mk ((hb2.block wq.heap.size (by simp)).trans (heap_alloc_new wq _))
          have B2 : Pack (Below w1.heap.size w1 w2) := ⟨(hq.out.2.alloc hq.out.2.size _).trans (hb2.mono (Nat.le_trans hq.out.2.size (by simp)))⟩
          have I2 := Pack.mk ((hb2.block w1.heap.size (Nat.lt_of_lt_of_le (Array.getElem?_eq_some_iff.1 hq.out.1).1 (by simp))).trans ((Below.heap_alloc _ _ _ (Array.getElem?_eq_some_iff.1 hq.out.1).1).trans hq.out.1))
          have l5 : wq.heap.size < w2.heap.size := (Array.getElem?_eq_some_iff.1 R2.out).1
          obtain ⟨⟨x0, x1, x2, x3, x4⟩, -⟩ := five_at R2.out
          clear hb2
          go_wp2_with fail
          refine wp_loop_rounds 4 ?_
          rw [rounds_succ]
          go_wp2_with fail
          rw [rounds_succ]
          go_wp2_with fail
          rw [rounds_succ]
          go_wp2_with fail
          rw [rounds_succ]
          go_wp2_with fail
          have B3 : Pack (Below w1.heap.size w1 ((w2.alloc (.cells #[.bool true, .bool true, .bool true, .bool false] 129)).alloc (.cells #[.int .i64 k, .int .i64 (wrap64 (bits .and .u32 (x / 128) 31)), .int .i64 (wrap64 (bits .and .u32 (x / 32768) 31)), .int .i64 (wrap64 (bits .and .u32 (x / 1048576) 31)), .int .i64 (0)] 108))) := ⟨(B2.out.alloc B2.out.size _).alloc (Nat.le_trans B2.out.size (by simp)) _⟩
          have R3 := Pack.mk ((heap_two w2 (.cells #[.bool true, .bool true, .bool true, .bool false] 129) (.cells #[.int .i64 k, .int .i64 (wrap64 (bits .and .u32 (x / 128) 31)), .int .i64 (wrap64 (bits .and .u32 (x / 32768) 31)), .int .i64 (wrap64 (bits .and .u32 (x / 1048576) 31)), .int .i64 (0)] 108) w1.heap.size (Array.getElem?_eq_some_iff.1 I2.out).1).trans I2.out)
          have H3 := Pack.mk (res81 w2 (.cells #[.bool true, .bool true, .bool true, .bool false] 129) #[.int .i64 k, .int .i64 (wrap64 (bits .and .u32 (x / 128) 31)), .int .i64 (wrap64 (bits .and .u32 (x / 32768) 31)), .int .i64 (wrap64 (bits .and .u32 (x / 1048576) 31)), .int .i64 (0)] 108)
          refine (C83.out _).mono ?_
          rintro e w4 ⟨rfl, hb4⟩
          have B6 := Pack.mk (B3.out.trans (hb4.mono B3.out.size))
          have R6 := Pack.mk ((hb4.block _ (Array.getElem?_eq_some_iff.1 R3.out).1).trans R3.out)
          have H6 := Pack.mk ((hb4.block _ (Array.getElem?_eq_some_iff.1 H3.out).1).trans H3.out)
          clear hb4 x0 x1 x2 x3 x4
          by_cases e0 : ee = 0
          · subst e0
            by_cases e1 : ew = x
            · subst e1
              have DS : Pack (decV ew = some (insOf (k, ⟨kind, bits .and .u32 ew 127, f3, f7, fix⟩) ew)) := ⟨dec_some MF.out (by rw [MM.out]; simp)⟩
              have hr := Pack.mk ((B6.out.block _ (by have := hlt.out; omega)).trans hres.out)
              obtain ⟨⟨p0, p1, p2, p3, p4⟩, q0, q1, q2, q3, q4⟩ := five_at hr.out
              obtain ⟨⟨z0, z1, z2, z3, z4⟩, -⟩ := five_at H6.out
              go_wp2_with fail
              (try simp only [Exit.inBlock, Exit.then])
              refine bodyPost_ret (ret63 _ _ w.heap.size _ _ _ _ _ _ rfl rfl (set5heap hr.out _ _ _ _ _)) rfl ?_
              refine ⟨by rw [decVal, DS.out]; simp only [EI]; rfl, ?_⟩
              have hbw : Below w.heap.size w w4 := ((Below.refl _ w).alloc (Nat.le_refl _) _).trans ((HB.out.mono (by simp)).trans (B6.out.mono (by have := hlt.out; omega)))
              exact below5 w4 w.heap.size hbw (Nat.le_refl _) _ _ _ _ _
            · have NM : Pack (matchV (k, ⟨kind, bits .and .u32 x 127, f3, f7, fix⟩) x = false) := ⟨by rw [MM.out, decide_eq_false e1]; simp⟩
              go_wp2_with fail
              go_roundg (leftOf (ent forms) (seen.push born)).size
              case measure => exact HS.out
              case rel => exact ⟨seen.push born, rfl, ⟨R6.out, B6.out, NP.out NM.out⟩⟩
          · have NM : Pack (matchV (k, ⟨kind, bits .and .u32 x 127, f3, f7, fix⟩) x = false) := ⟨by rw [MM.out, decide_eq_false e0]; rfl⟩
            go_wp2_with fail
            go_roundg (leftOf (ent forms) (seen.push born)).size
            case measure => exact HS.out
            case rel => exact ⟨seen.push born, rfl, ⟨R6.out, B6.out, NP.out NM.out⟩⟩
        · obtain ⟨rfl, rfl, rfl, rfl⟩ := h
          have EI : insVal (insOf (k, ⟨kind, bits .and .u32 x 127, f3, f7, fix⟩) x) = .agg #[.int .i64 k, .int .i64 (wrap64 (bits .and .u32 (x / 128) 31)), .int .i64 (wrap64 (bits .and .u32 (x / 32768) 31)), .int .i64 (0), .int .i64 (0)] := by
            unfold insOf
            simp only [U.out, if_true, Bool.false_eq_true, if_false, fiveV7, fiveV15]
            rfl
          rw [EI] at C83
          have j0 := idx129_0
          have j1 := idx129_1
          have j2 := idx129_2
          have j3 := idx129_3
          have m0 := idx132_0
          have n0 := idx133_0
          have m1 := idx132_1
          have n1 := idx133_1
          have m2 := idx132_2
          have n2 := idx133_2
          go_wp2_with fail
          refine (C81.out _).mono ?_
          rintro e w2 ⟨rfl, hb2⟩
          have R2 := Pack.mk ((hb2.block wq.heap.size (by simp)).trans (heap_alloc_new wq _))
          have B2 : Pack (Below w1.heap.size w1 w2) := ⟨(hq.out.2.alloc hq.out.2.size _).trans (hb2.mono (Nat.le_trans hq.out.2.size (by simp)))⟩
          have I2 := Pack.mk ((hb2.block w1.heap.size (Nat.lt_of_lt_of_le (Array.getElem?_eq_some_iff.1 hq.out.1).1 (by simp))).trans ((Below.heap_alloc _ _ _ (Array.getElem?_eq_some_iff.1 hq.out.1).1).trans hq.out.1))
          have l5 : wq.heap.size < w2.heap.size := (Array.getElem?_eq_some_iff.1 R2.out).1
          obtain ⟨⟨x0, x1, x2, x3, x4⟩, -⟩ := five_at R2.out
          clear hb2
          go_wp2_with fail
          refine wp_loop_rounds 4 ?_
          rw [rounds_succ]
          go_wp2_with fail
          rw [rounds_succ]
          go_wp2_with fail
          rw [rounds_succ]
          go_wp2_with fail
          rw [rounds_succ]
          go_wp2_with fail
          have B3 : Pack (Below w1.heap.size w1 ((w2.alloc (.cells #[.bool true, .bool true, .bool false, .bool false] 129)).alloc (.cells #[.int .i64 k, .int .i64 (wrap64 (bits .and .u32 (x / 128) 31)), .int .i64 (wrap64 (bits .and .u32 (x / 32768) 31)), .int .i64 (0), .int .i64 (0)] 108))) := ⟨(B2.out.alloc B2.out.size _).alloc (Nat.le_trans B2.out.size (by simp)) _⟩
          have R3 := Pack.mk ((heap_two w2 (.cells #[.bool true, .bool true, .bool false, .bool false] 129) (.cells #[.int .i64 k, .int .i64 (wrap64 (bits .and .u32 (x / 128) 31)), .int .i64 (wrap64 (bits .and .u32 (x / 32768) 31)), .int .i64 (0), .int .i64 (0)] 108) w1.heap.size (Array.getElem?_eq_some_iff.1 I2.out).1).trans I2.out)
          have H3 := Pack.mk (res81 w2 (.cells #[.bool true, .bool true, .bool false, .bool false] 129) #[.int .i64 k, .int .i64 (wrap64 (bits .and .u32 (x / 128) 31)), .int .i64 (wrap64 (bits .and .u32 (x / 32768) 31)), .int .i64 (0), .int .i64 (0)] 108)
          refine (C83.out _).mono ?_
          rintro e w4 ⟨rfl, hb4⟩
          have B6 := Pack.mk (B3.out.trans (hb4.mono B3.out.size))
          have R6 := Pack.mk ((hb4.block _ (Array.getElem?_eq_some_iff.1 R3.out).1).trans R3.out)
          have H6 := Pack.mk ((hb4.block _ (Array.getElem?_eq_some_iff.1 H3.out).1).trans H3.out)
          clear hb4 x0 x1 x2 x3 x4
          by_cases e0 : ee = 0
          · subst e0
            by_cases e1 : ew = x
            · subst e1
              have DS : Pack (decV ew = some (insOf (k, ⟨kind, bits .and .u32 ew 127, f3, f7, fix⟩) ew)) := ⟨dec_some MF.out (by rw [MM.out]; simp)⟩
              have hr := Pack.mk ((B6.out.block _ (by have := hlt.out; omega)).trans hres.out)
              obtain ⟨⟨p0, p1, p2, p3, p4⟩, q0, q1, q2, q3, q4⟩ := five_at hr.out
              obtain ⟨⟨z0, z1, z2, z3, z4⟩, -⟩ := five_at H6.out
              go_wp2_with fail
              (try simp only [Exit.inBlock, Exit.then])
              refine bodyPost_ret (ret63 _ _ w.heap.size _ _ _ _ _ _ rfl rfl (set5heap hr.out _ _ _ _ _)) rfl ?_
              refine ⟨by rw [decVal, DS.out]; simp only [EI]; rfl, ?_⟩
              have hbw : Below w.heap.size w w4 := ((Below.refl _ w).alloc (Nat.le_refl _) _).trans ((HB.out.mono (by simp)).trans (B6.out.mono (by have := hlt.out; omega)))
              exact below5 w4 w.heap.size hbw (Nat.le_refl _) _ _ _ _ _
            · have NM : Pack (matchV (k, ⟨kind, bits .and .u32 x 127, f3, f7, fix⟩) x = false) := ⟨by rw [MM.out, decide_eq_false e1]; simp⟩
              go_wp2_with fail
              go_roundg (leftOf (ent forms) (seen.push born)).size
              case measure => exact HS.out
              case rel => exact ⟨seen.push born, rfl, ⟨R6.out, B6.out, NP.out NM.out⟩⟩
          · have NM : Pack (matchV (k, ⟨kind, bits .and .u32 x 127, f3, f7, fix⟩) x = false) := ⟨by rw [MM.out, decide_eq_false e0]; rfl⟩
            go_wp2_with fail
            go_roundg (leftOf (ent forms) (seen.push born)).size
            case measure => exact HS.out
            case rel => exact ⟨seen.push born, rfl, ⟨R6.out, B6.out, NP.out NM.out⟩⟩
        · obtain ⟨rfl, rfl, rfl, rfl⟩ := h
          have EI : insVal (insOf (k, ⟨kind, bits .and .u32 x 127, f3, f7, fix⟩) x) = .agg #[.int .i64 k, .int .i64 (wrap64 (bits .and .u32 (x / 128) 31)), .int .i64 (wrap64 (bits .and .u32 (x / 32768) 31)), .int .i64 (0), .int .i64 (signedV ⟨kind, bits .and .u32 x 127, f3, f7, fix⟩ x)] := by
            unfold insOf
            simp only [U.out, if_true, Bool.false_eq_true, if_false, fiveV7, fiveV15]
            rfl
          rw [EI] at C83
          have j0 := idx129_0
          have j1 := idx129_1
          have j2 := idx129_2
          have j3 := idx129_3
          have m0 := idx132_0
          have n0 := idx133_0
          have m1 := idx132_1
          have n1 := idx133_1
          have m2 := idx132_2
          have n2 := idx133_2
          go_wp2_with fail
          refine (C81.out _).mono ?_
          rintro e w2 ⟨rfl, hb2⟩
          have R2 := Pack.mk ((hb2.block wq.heap.size (by simp)).trans (heap_alloc_new wq _))
          have B2 : Pack (Below w1.heap.size w1 w2) := ⟨(hq.out.2.alloc hq.out.2.size _).trans (hb2.mono (Nat.le_trans hq.out.2.size (by simp)))⟩
          have I2 := Pack.mk ((hb2.block w1.heap.size (Nat.lt_of_lt_of_le (Array.getElem?_eq_some_iff.1 hq.out.1).1 (by simp))).trans ((Below.heap_alloc _ _ _ (Array.getElem?_eq_some_iff.1 hq.out.1).1).trans hq.out.1))
          have l5 : wq.heap.size < w2.heap.size := (Array.getElem?_eq_some_iff.1 R2.out).1
          obtain ⟨⟨x0, x1, x2, x3, x4⟩, -⟩ := five_at R2.out
          clear hb2
          go_wp2_with fail
          refine wp_loop_rounds 4 ?_
          rw [rounds_succ]
          go_wp2_with fail
          rw [rounds_succ]
          go_wp2_with fail
          rw [rounds_succ]
          go_wp2_with fail
          rw [rounds_succ]
          go_wp2_with fail
          have B3 : Pack (Below w1.heap.size w1 ((w2.alloc (.cells #[.bool true, .bool true, .bool false, .bool true] 129)).alloc (.cells #[.int .i64 k, .int .i64 (wrap64 (bits .and .u32 (x / 128) 31)), .int .i64 (wrap64 (bits .and .u32 (x / 32768) 31)), .int .i64 (0), .int .i64 (0)] 108))) := ⟨(B2.out.alloc B2.out.size _).alloc (Nat.le_trans B2.out.size (by simp)) _⟩
          have R3 := Pack.mk ((heap_two w2 (.cells #[.bool true, .bool true, .bool false, .bool true] 129) (.cells #[.int .i64 k, .int .i64 (wrap64 (bits .and .u32 (x / 128) 31)), .int .i64 (wrap64 (bits .and .u32 (x / 32768) 31)), .int .i64 (0), .int .i64 (0)] 108) w1.heap.size (Array.getElem?_eq_some_iff.1 I2.out).1).trans I2.out)
          have H3 := Pack.mk (res81 w2 (.cells #[.bool true, .bool true, .bool false, .bool true] 129) #[.int .i64 k, .int .i64 (wrap64 (bits .and .u32 (x / 128) 31)), .int .i64 (wrap64 (bits .and .u32 (x / 32768) 31)), .int .i64 (0), .int .i64 (0)] 108)
          refine (C82.out _).mono ?_
          rintro e w3 ⟨rfl, hb3⟩
          have B4 := Pack.mk (B3.out.trans (hb3.mono B3.out.size))
          have R4 := Pack.mk ((hb3.block _ (Array.getElem?_eq_some_iff.1 R3.out).1).trans R3.out)
          have H4 := Pack.mk ((hb3.block _ (Array.getElem?_eq_some_iff.1 H3.out).1).trans H3.out)
          clear hb3 x0 x1 x2 x3 x4
          obtain ⟨⟨x0, x1, x2, x3, x4⟩, y0, y1, y2, y3, y4⟩ := five_at H4.out
          go_wp2_with fail
          have B5 := Pack.mk (B4.out.setCell (p := ⟨w2.heap.size + 1, 4, none⟩) (Nat.le_trans B2.out.size (Nat.le_succ _)) (.int .i64 (signedV ⟨kind, bits .and .u32 x 127, f3, f7, fix⟩ x)))
          have R5 := Pack.mk ((Below.heap_setCell w3 ⟨w2.heap.size + 1, 4, none⟩ (.int .i64 (signedV ⟨kind, bits .and .u32 x 127, f3, f7, fix⟩ x)) w1.heap.size (by have := B2.out.size; show w1.heap.size ≠ w2.heap.size + 1; omega)).trans R4.out)
          have H5 := Pack.mk (set4heap H4.out (.int .i64 (signedV ⟨kind, bits .and .u32 x 127, f3, f7, fix⟩ x)))
          refine (C83.out _).mono ?_
          rintro e w4 ⟨rfl, hb4⟩
          have B6 := Pack.mk (B5.out.trans (hb4.mono B5.out.size))
          have R6 := Pack.mk ((hb4.block _ (Array.getElem?_eq_some_iff.1 R5.out).1).trans R5.out)
          have H6 := Pack.mk ((hb4.block _ (Array.getElem?_eq_some_iff.1 H5.out).1).trans H5.out)
          clear hb4 x0 x1 x2 x3 x4 y0 y1 y2 y3 y4
          by_cases e0 : ee = 0
          · subst e0
            by_cases e1 : ew = x
            · subst e1
              have DS : Pack (decV ew = some (insOf (k, ⟨kind, bits .and .u32 ew 127, f3, f7, fix⟩) ew)) := ⟨dec_some MF.out (by rw [MM.out]; simp)⟩
              have hr := Pack.mk ((B6.out.block _ (by have := hlt.out; omega)).trans hres.out)
              obtain ⟨⟨p0, p1, p2, p3, p4⟩, q0, q1, q2, q3, q4⟩ := five_at hr.out
              obtain ⟨⟨z0, z1, z2, z3, z4⟩, -⟩ := five_at H6.out
              go_wp2_with fail
              (try simp only [Exit.inBlock, Exit.then])
              refine bodyPost_ret (ret63 _ _ w.heap.size _ _ _ _ _ _ rfl rfl (set5heap hr.out _ _ _ _ _)) rfl ?_
              refine ⟨by rw [decVal, DS.out]; simp only [EI]; rfl, ?_⟩
              have hbw : Below w.heap.size w w4 := ((Below.refl _ w).alloc (Nat.le_refl _) _).trans ((HB.out.mono (by simp)).trans (B6.out.mono (by have := hlt.out; omega)))
              exact below5 w4 w.heap.size hbw (Nat.le_refl _) _ _ _ _ _
            · have NM : Pack (matchV (k, ⟨kind, bits .and .u32 x 127, f3, f7, fix⟩) x = false) := ⟨by rw [MM.out, decide_eq_false e1]; simp⟩
              go_wp2_with fail
              go_roundg (leftOf (ent forms) (seen.push born)).size
              case measure => exact HS.out
              case rel => exact ⟨seen.push born, rfl, ⟨R6.out, B6.out, NP.out NM.out⟩⟩
          · have NM : Pack (matchV (k, ⟨kind, bits .and .u32 x 127, f3, f7, fix⟩) x = false) := ⟨by rw [MM.out, decide_eq_false e0]; rfl⟩
            go_wp2_with fail
            go_roundg (leftOf (ent forms) (seen.push born)).size
            case measure => exact HS.out
            case rel => exact ⟨seen.push born, rfl, ⟨R6.out, B6.out, NP.out NM.out⟩⟩
        · obtain ⟨rfl, rfl, rfl, rfl⟩ := h
          have EI : insVal (insOf (k, ⟨kind, bits .and .u32 x 127, f3, f7, fix⟩) x) = .agg #[.int .i64 k, .int .i64 (0), .int .i64 (wrap64 (bits .and .u32 (x / 32768) 31)), .int .i64 (wrap64 (bits .and .u32 (x / 1048576) 31)), .int .i64 (signedV ⟨kind, bits .and .u32 x 127, f3, f7, fix⟩ x)] := by
            unfold insOf
            simp only [U.out, if_true, Bool.false_eq_true, if_false, fiveV15, fiveV20]
            rfl
          rw [EI] at C83
          have j0 := idx129_0
          have j1 := idx129_1
          have j2 := idx129_2
          have j3 := idx129_3
          have m0 := idx132_0
          have n0 := idx133_0
          have m1 := idx132_1
          have n1 := idx133_1
          have m2 := idx132_2
          have n2 := idx133_2
          go_wp2_with fail
          refine (C81.out _).mono ?_
          rintro e w2 ⟨rfl, hb2⟩
          have R2 := Pack.mk ((hb2.block wq.heap.size (by simp)).trans (heap_alloc_new wq _))
          have B2 : Pack (Below w1.heap.size w1 w2) := ⟨(hq.out.2.alloc hq.out.2.size _).trans (hb2.mono (Nat.le_trans hq.out.2.size (by simp)))⟩
          have I2 := Pack.mk ((hb2.block w1.heap.size (Nat.lt_of_lt_of_le (Array.getElem?_eq_some_iff.1 hq.out.1).1 (by simp))).trans ((Below.heap_alloc _ _ _ (Array.getElem?_eq_some_iff.1 hq.out.1).1).trans hq.out.1))
          have l5 : wq.heap.size < w2.heap.size := (Array.getElem?_eq_some_iff.1 R2.out).1
          obtain ⟨⟨x0, x1, x2, x3, x4⟩, -⟩ := five_at R2.out
          clear hb2
          go_wp2_with fail
          refine wp_loop_rounds 4 ?_
          rw [rounds_succ]
          go_wp2_with fail
          rw [rounds_succ]
          go_wp2_with fail
          rw [rounds_succ]
          go_wp2_with fail
          rw [rounds_succ]
          go_wp2_with fail
          have B3 : Pack (Below w1.heap.size w1 ((w2.alloc (.cells #[.bool false, .bool true, .bool true, .bool true] 129)).alloc (.cells #[.int .i64 k, .int .i64 (0), .int .i64 (wrap64 (bits .and .u32 (x / 32768) 31)), .int .i64 (wrap64 (bits .and .u32 (x / 1048576) 31)), .int .i64 (0)] 108))) := ⟨(B2.out.alloc B2.out.size _).alloc (Nat.le_trans B2.out.size (by simp)) _⟩
          have R3 := Pack.mk ((heap_two w2 (.cells #[.bool false, .bool true, .bool true, .bool true] 129) (.cells #[.int .i64 k, .int .i64 (0), .int .i64 (wrap64 (bits .and .u32 (x / 32768) 31)), .int .i64 (wrap64 (bits .and .u32 (x / 1048576) 31)), .int .i64 (0)] 108) w1.heap.size (Array.getElem?_eq_some_iff.1 I2.out).1).trans I2.out)
          have H3 := Pack.mk (res81 w2 (.cells #[.bool false, .bool true, .bool true, .bool true] 129) #[.int .i64 k, .int .i64 (0), .int .i64 (wrap64 (bits .and .u32 (x / 32768) 31)), .int .i64 (wrap64 (bits .and .u32 (x / 1048576) 31)), .int .i64 (0)] 108)
          refine (C82.out _).mono ?_
          rintro e w3 ⟨rfl, hb3⟩
          have B4 := Pack.mk (B3.out.trans (hb3.mono B3.out.size))
          have R4 := Pack.mk ((hb3.block _ (Array.getElem?_eq_some_iff.1 R3.out).1).trans R3.out)
          have H4 := Pack.mk ((hb3.block _ (Array.getElem?_eq_some_iff.1 H3.out).1).trans H3.out)
          clear hb3 x0 x1 x2 x3 x4
          obtain ⟨⟨x0, x1, x2, x3, x4⟩, y0, y1, y2, y3, y4⟩ := five_at H4.out
          go_wp2_with fail
          have B5 := Pack.mk (B4.out.setCell (p := ⟨w2.heap.size + 1, 4, none⟩) (Nat.le_trans B2.out.size (Nat.le_succ _)) (.int .i64 (signedV ⟨kind, bits .and .u32 x 127, f3, f7, fix⟩ x)))
          have R5 := Pack.mk ((Below.heap_setCell w3 ⟨w2.heap.size + 1, 4, none⟩ (.int .i64 (signedV ⟨kind, bits .and .u32 x 127, f3, f7, fix⟩ x)) w1.heap.size (by have := B2.out.size; show w1.heap.size ≠ w2.heap.size + 1; omega)).trans R4.out)
          have H5 := Pack.mk (set4heap H4.out (.int .i64 (signedV ⟨kind, bits .and .u32 x 127, f3, f7, fix⟩ x)))
          refine (C83.out _).mono ?_
          rintro e w4 ⟨rfl, hb4⟩
          have B6 := Pack.mk (B5.out.trans (hb4.mono B5.out.size))
          have R6 := Pack.mk ((hb4.block _ (Array.getElem?_eq_some_iff.1 R5.out).1).trans R5.out)
          have H6 := Pack.mk ((hb4.block _ (Array.getElem?_eq_some_iff.1 H5.out).1).trans H5.out)
          clear hb4 x0 x1 x2 x3 x4 y0 y1 y2 y3 y4
          by_cases e0 : ee = 0
          · subst e0
            by_cases e1 : ew = x
            · subst e1
              have DS : Pack (decV ew = some (insOf (k, ⟨kind, bits .and .u32 ew 127, f3, f7, fix⟩) ew)) := ⟨dec_some MF.out (by rw [MM.out]; simp)⟩
              have hr := Pack.mk ((B6.out.block _ (by have := hlt.out; omega)).trans hres.out)
              obtain ⟨⟨p0, p1, p2, p3, p4⟩, q0, q1, q2, q3, q4⟩ := five_at hr.out
              obtain ⟨⟨z0, z1, z2, z3, z4⟩, -⟩ := five_at H6.out
              go_wp2_with fail
              (try simp only [Exit.inBlock, Exit.then])
              refine bodyPost_ret (ret63 _ _ w.heap.size _ _ _ _ _ _ rfl rfl (set5heap hr.out _ _ _ _ _)) rfl ?_
              refine ⟨by rw [decVal, DS.out]; simp only [EI]; rfl, ?_⟩
              have hbw : Below w.heap.size w w4 := ((Below.refl _ w).alloc (Nat.le_refl _) _).trans ((HB.out.mono (by simp)).trans (B6.out.mono (by have := hlt.out; omega)))
              exact below5 w4 w.heap.size hbw (Nat.le_refl _) _ _ _ _ _
            · have NM : Pack (matchV (k, ⟨kind, bits .and .u32 x 127, f3, f7, fix⟩) x = false) := ⟨by rw [MM.out, decide_eq_false e1]; simp⟩
              go_wp2_with fail
              go_roundg (leftOf (ent forms) (seen.push born)).size
              case measure => exact HS.out
              case rel => exact ⟨seen.push born, rfl, ⟨R6.out, B6.out, NP.out NM.out⟩⟩
          · have NM : Pack (matchV (k, ⟨kind, bits .and .u32 x 127, f3, f7, fix⟩) x = false) := ⟨by rw [MM.out, decide_eq_false e0]; rfl⟩
            go_wp2_with fail
            go_roundg (leftOf (ent forms) (seen.push born)).size
            case measure => exact HS.out
            case rel => exact ⟨seen.push born, rfl, ⟨R6.out, B6.out, NP.out NM.out⟩⟩
        · obtain ⟨rfl, rfl, rfl, rfl⟩ := h
          have EI : insVal (insOf (k, ⟨kind, bits .and .u32 x 127, f3, f7, fix⟩) x) = .agg #[.int .i64 k, .int .i64 (wrap64 (bits .and .u32 (x / 128) 31)), .int .i64 (0), .int .i64 (0), .int .i64 (signedV ⟨kind, bits .and .u32 x 127, f3, f7, fix⟩ x)] := by
            unfold insOf
            simp only [U.out, if_true, Bool.false_eq_true, if_false, fiveV7]
            rfl
          rw [EI] at C83
          have j0 := idx129_0
          have j1 := idx129_1
          have j2 := idx129_2
          have j3 := idx129_3
          have m0 := idx132_0
          have n0 := idx133_0
          have m1 := idx132_1
          have n1 := idx133_1
          have m2 := idx132_2
          have n2 := idx133_2
          go_wp2_with fail
          refine (C81.out _).mono ?_
          rintro e w2 ⟨rfl, hb2⟩
          have R2 := Pack.mk ((hb2.block wq.heap.size (by simp)).trans (heap_alloc_new wq _))
          have B2 : Pack (Below w1.heap.size w1 w2) := ⟨(hq.out.2.alloc hq.out.2.size _).trans (hb2.mono (Nat.le_trans hq.out.2.size (by simp)))⟩
          have I2 := Pack.mk ((hb2.block w1.heap.size (Nat.lt_of_lt_of_le (Array.getElem?_eq_some_iff.1 hq.out.1).1 (by simp))).trans ((Below.heap_alloc _ _ _ (Array.getElem?_eq_some_iff.1 hq.out.1).1).trans hq.out.1))
          have l5 : wq.heap.size < w2.heap.size := (Array.getElem?_eq_some_iff.1 R2.out).1
          obtain ⟨⟨x0, x1, x2, x3, x4⟩, -⟩ := five_at R2.out
          clear hb2
          go_wp2_with fail
          refine wp_loop_rounds 4 ?_
          rw [rounds_succ]
          go_wp2_with fail
          rw [rounds_succ]
          go_wp2_with fail
          rw [rounds_succ]
          go_wp2_with fail
          rw [rounds_succ]
          go_wp2_with fail
          have B3 : Pack (Below w1.heap.size w1 ((w2.alloc (.cells #[.bool true, .bool false, .bool false, .bool true] 129)).alloc (.cells #[.int .i64 k, .int .i64 (wrap64 (bits .and .u32 (x / 128) 31)), .int .i64 (0), .int .i64 (0), .int .i64 (0)] 108))) := ⟨(B2.out.alloc B2.out.size _).alloc (Nat.le_trans B2.out.size (by simp)) _⟩
          have R3 := Pack.mk ((heap_two w2 (.cells #[.bool true, .bool false, .bool false, .bool true] 129) (.cells #[.int .i64 k, .int .i64 (wrap64 (bits .and .u32 (x / 128) 31)), .int .i64 (0), .int .i64 (0), .int .i64 (0)] 108) w1.heap.size (Array.getElem?_eq_some_iff.1 I2.out).1).trans I2.out)
          have H3 := Pack.mk (res81 w2 (.cells #[.bool true, .bool false, .bool false, .bool true] 129) #[.int .i64 k, .int .i64 (wrap64 (bits .and .u32 (x / 128) 31)), .int .i64 (0), .int .i64 (0), .int .i64 (0)] 108)
          refine (C82.out _).mono ?_
          rintro e w3 ⟨rfl, hb3⟩
          have B4 := Pack.mk (B3.out.trans (hb3.mono B3.out.size))
          have R4 := Pack.mk ((hb3.block _ (Array.getElem?_eq_some_iff.1 R3.out).1).trans R3.out)
          have H4 := Pack.mk ((hb3.block _ (Array.getElem?_eq_some_iff.1 H3.out).1).trans H3.out)
          clear hb3 x0 x1 x2 x3 x4
          obtain ⟨⟨x0, x1, x2, x3, x4⟩, y0, y1, y2, y3, y4⟩ := five_at H4.out
          go_wp2_with fail
          have B5 := Pack.mk (B4.out.setCell (p := ⟨w2.heap.size + 1, 4, none⟩) (Nat.le_trans B2.out.size (Nat.le_succ _)) (.int .i64 (signedV ⟨kind, bits .and .u32 x 127, f3, f7, fix⟩ x)))
          have R5 := Pack.mk ((Below.heap_setCell w3 ⟨w2.heap.size + 1, 4, none⟩ (.int .i64 (signedV ⟨kind, bits .and .u32 x 127, f3, f7, fix⟩ x)) w1.heap.size (by have := B2.out.size; show w1.heap.size ≠ w2.heap.size + 1; omega)).trans R4.out)
          have H5 := Pack.mk (set4heap H4.out (.int .i64 (signedV ⟨kind, bits .and .u32 x 127, f3, f7, fix⟩ x)))
          refine (C83.out _).mono ?_
          rintro e w4 ⟨rfl, hb4⟩
          have B6 := Pack.mk (B5.out.trans (hb4.mono B5.out.size))
          have R6 := Pack.mk ((hb4.block _ (Array.getElem?_eq_some_iff.1 R5.out).1).trans R5.out)
          have H6 := Pack.mk ((hb4.block _ (Array.getElem?_eq_some_iff.1 H5.out).1).trans H5.out)
          clear hb4 x0 x1 x2 x3 x4 y0 y1 y2 y3 y4
          by_cases e0 : ee = 0
          · subst e0
            by_cases e1 : ew = x
            · subst e1
              have DS : Pack (decV ew = some (insOf (k, ⟨kind, bits .and .u32 ew 127, f3, f7, fix⟩) ew)) := ⟨dec_some MF.out (by rw [MM.out]; simp)⟩
              have hr := Pack.mk ((B6.out.block _ (by have := hlt.out; omega)).trans hres.out)
              obtain ⟨⟨p0, p1, p2, p3, p4⟩, q0, q1, q2, q3, q4⟩ := five_at hr.out
              obtain ⟨⟨z0, z1, z2, z3, z4⟩, -⟩ := five_at H6.out
              go_wp2_with fail
              (try simp only [Exit.inBlock, Exit.then])
              refine bodyPost_ret (ret63 _ _ w.heap.size _ _ _ _ _ _ rfl rfl (set5heap hr.out _ _ _ _ _)) rfl ?_
              refine ⟨by rw [decVal, DS.out]; simp only [EI]; rfl, ?_⟩
              have hbw : Below w.heap.size w w4 := ((Below.refl _ w).alloc (Nat.le_refl _) _).trans ((HB.out.mono (by simp)).trans (B6.out.mono (by have := hlt.out; omega)))
              exact below5 w4 w.heap.size hbw (Nat.le_refl _) _ _ _ _ _
            · have NM : Pack (matchV (k, ⟨kind, bits .and .u32 x 127, f3, f7, fix⟩) x = false) := ⟨by rw [MM.out, decide_eq_false e1]; simp⟩
              go_wp2_with fail
              go_roundg (leftOf (ent forms) (seen.push born)).size
              case measure => exact HS.out
              case rel => exact ⟨seen.push born, rfl, ⟨R6.out, B6.out, NP.out NM.out⟩⟩
          · have NM : Pack (matchV (k, ⟨kind, bits .and .u32 x 127, f3, f7, fix⟩) x = false) := ⟨by rw [MM.out, decide_eq_false e0]; rfl⟩
            go_wp2_with fail
            go_roundg (leftOf (ent forms) (seen.push born)).size
            case measure => exact HS.out
            case rel => exact ⟨seen.push born, rfl, ⟨R6.out, B6.out, NP.out NM.out⟩⟩
        · obtain ⟨rfl, rfl, rfl, rfl⟩ := h
          have EI : insVal (insOf (k, ⟨kind, bits .and .u32 x 127, f3, f7, fix⟩) x) = .agg #[.int .i64 k, .int .i64 (0), .int .i64 (0), .int .i64 (0), .int .i64 (0)] := by
            unfold insOf
            simp only [U.out, Bool.false_eq_true, if_false]
            rfl
          rw [EI] at C83
          have j0 := idx129_0
          have j1 := idx129_1
          have j2 := idx129_2
          have j3 := idx129_3
          have m0 := idx132_0
          have n0 := idx133_0
          have m1 := idx132_1
          have n1 := idx133_1
          have m2 := idx132_2
          have n2 := idx133_2
          go_wp2_with fail
          refine (C81.out _).mono ?_
          rintro e w2 ⟨rfl, hb2⟩
          have R2 := Pack.mk ((hb2.block wq.heap.size (by simp)).trans (heap_alloc_new wq _))
          have B2 : Pack (Below w1.heap.size w1 w2) := ⟨(hq.out.2.alloc hq.out.2.size _).trans (hb2.mono (Nat.le_trans hq.out.2.size (by simp)))⟩
          have I2 := Pack.mk ((hb2.block w1.heap.size (Nat.lt_of_lt_of_le (Array.getElem?_eq_some_iff.1 hq.out.1).1 (by simp))).trans ((Below.heap_alloc _ _ _ (Array.getElem?_eq_some_iff.1 hq.out.1).1).trans hq.out.1))
          have l5 : wq.heap.size < w2.heap.size := (Array.getElem?_eq_some_iff.1 R2.out).1
          obtain ⟨⟨x0, x1, x2, x3, x4⟩, -⟩ := five_at R2.out
          clear hb2
          go_wp2_with fail
          refine wp_loop_rounds 4 ?_
          rw [rounds_succ]
          go_wp2_with fail
          rw [rounds_succ]
          go_wp2_with fail
          rw [rounds_succ]
          go_wp2_with fail
          rw [rounds_succ]
          go_wp2_with fail
          have B3 : Pack (Below w1.heap.size w1 ((w2.alloc (.cells #[.bool false, .bool false, .bool false, .bool false] 129)).alloc (.cells #[.int .i64 k, .int .i64 (0), .int .i64 (0), .int .i64 (0), .int .i64 (0)] 108))) := ⟨(B2.out.alloc B2.out.size _).alloc (Nat.le_trans B2.out.size (by simp)) _⟩
          have R3 := Pack.mk ((heap_two w2 (.cells #[.bool false, .bool false, .bool false, .bool false] 129) (.cells #[.int .i64 k, .int .i64 (0), .int .i64 (0), .int .i64 (0), .int .i64 (0)] 108) w1.heap.size (Array.getElem?_eq_some_iff.1 I2.out).1).trans I2.out)
          have H3 := Pack.mk (res81 w2 (.cells #[.bool false, .bool false, .bool false, .bool false] 129) #[.int .i64 k, .int .i64 (0), .int .i64 (0), .int .i64 (0), .int .i64 (0)] 108)
          refine (C83.out _).mono ?_
          rintro e w4 ⟨rfl, hb4⟩
          have B6 := Pack.mk (B3.out.trans (hb4.mono B3.out.size))
          have R6 := Pack.mk ((hb4.block _ (Array.getElem?_eq_some_iff.1 R3.out).1).trans R3.out)
          have H6 := Pack.mk ((hb4.block _ (Array.getElem?_eq_some_iff.1 H3.out).1).trans H3.out)
          clear hb4 x0 x1 x2 x3 x4
          by_cases e0 : ee = 0
          · subst e0
            by_cases e1 : ew = x
            · subst e1
              have DS : Pack (decV ew = some (insOf (k, ⟨kind, bits .and .u32 ew 127, f3, f7, fix⟩) ew)) := ⟨dec_some MF.out (by rw [MM.out]; simp)⟩
              have hr := Pack.mk ((B6.out.block _ (by have := hlt.out; omega)).trans hres.out)
              obtain ⟨⟨p0, p1, p2, p3, p4⟩, q0, q1, q2, q3, q4⟩ := five_at hr.out
              obtain ⟨⟨z0, z1, z2, z3, z4⟩, -⟩ := five_at H6.out
              go_wp2_with fail
              (try simp only [Exit.inBlock, Exit.then])
              refine bodyPost_ret (ret63 _ _ w.heap.size _ _ _ _ _ _ rfl rfl (set5heap hr.out _ _ _ _ _)) rfl ?_
              refine ⟨by rw [decVal, DS.out]; simp only [EI]; rfl, ?_⟩
              have hbw : Below w.heap.size w w4 := ((Below.refl _ w).alloc (Nat.le_refl _) _).trans ((HB.out.mono (by simp)).trans (B6.out.mono (by have := hlt.out; omega)))
              exact below5 w4 w.heap.size hbw (Nat.le_refl _) _ _ _ _ _
            · have NM : Pack (matchV (k, ⟨kind, bits .and .u32 x 127, f3, f7, fix⟩) x = false) := ⟨by rw [MM.out, decide_eq_false e1]; simp⟩
              go_wp2_with fail
              go_roundg (leftOf (ent forms) (seen.push born)).size
              case measure => exact HS.out
              case rel => exact ⟨seen.push born, rfl, ⟨R6.out, B6.out, NP.out NM.out⟩⟩
          · have NM : Pack (matchV (k, ⟨kind, bits .and .u32 x 127, f3, f7, fix⟩) x = false) := ⟨by rw [MM.out, decide_eq_false e0]; rfl⟩
            go_wp2_with fail
            go_roundg (leftOf (ent forms) (seen.push born)).size
            case measure => exact HS.out
            case rel => exact ⟨seen.push born, rfl, ⟨R6.out, B6.out, NP.out NM.out⟩⟩
theorem decode_done (x : Int) (h0 : 0 ≤ x) (h1 : x < 4294967296) (w : World) : Calls Tryz.prog 63 #[.int .u32 x] w fun r w' => r = .returned (decVal x) ∧ Below w.heap.size w w' :=
  decode_calls (fun e he x W => encode_calls (insOf e x) e.2 (forms_lookup he) (ins_rd e x) (ins_rs1 e x) (ins_rs2 e x) (ins_fits e x) W) x h0 h1 w
end Go.Proofs.YtgcpnjckbdajbaaGreatDoor.Ob
