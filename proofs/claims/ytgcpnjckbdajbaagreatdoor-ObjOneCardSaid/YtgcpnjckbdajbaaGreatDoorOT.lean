import Derived.Test.YtgcpnjckbdajbaaGreatDoorOR
import Derived.Test.YtgcpnjckbdajbaaGreatDoorOP
import Derived.OwnWalk
namespace Go.Proofs.YtgcpnjckbdajbaaGreatDoor.Ob
open Go.RowKit Go.Sort

def chkEdges (ops : Array Oper) : Bool := (List.range ops.size).all fun i => match ops[i]? with
  | some o => o.after.all fun e => decide (e.on < i) && Region.binds .any e
  | none => true
theorem chkEdges_sound {ops : Array Oper} (h : chkEdges ops = true) (i : Nat) (o : Oper) (ho : ops[i]? = some o) (e : Edge) (he : e ∈ o.after) : e.on < i ∧ Region.binds .any e = true := by
  unfold chkEdges at h
  have hi : i < ops.size := (Array.getElem?_eq_some_iff.1 ho).1
  have := List.all_eq_true.1 h i (List.mem_range.2 hi)
  rw [ho] at this
  have h2 := Array.all_eq_true'.1 this e he
  simpa using h2
def chkLast (ops : Array Oper) (last : Nat) : Bool := match ops[last]? with
  | some o => (List.range ops.size).all fun i => i == last || o.after.any fun e => e.on == i
  | none => false
theorem chkLast_sound {ops : Array Oper} {last : Nat} (h : chkLast ops last = true) (g : Nat → Bool) (hc : ∀ (i : Nat) (o : Oper), ops[i]? = some o → g i = true → ∀ e ∈ o.after, g e.on = true) (hl : g last = true) (i : Nat) (hi : i < ops.size) : g i = true := by
  unfold chkLast at h
  split at h
  · rename_i o ho
    have := List.all_eq_true.1 h i (List.mem_range.2 hi)
    simp only [Bool.or_eq_true, beq_iff_eq] at this
    rcases this with rfl | h2
    · exact hl
    · obtain ⟨e, he, h3⟩ := Array.any_eq_true'.1 h2
      have := hc last o ho hl e he
      rw [beq_iff_eq.1 h3] at this
      exact this
  · cases h
theorem wpOp_of {P : Program} {ops : Array Oper} {Q : Exit → Act → World → Prop} {i : Nat} {K : Act → World → Prop} {a : Act} {w : World} (o : Oper) (ho : ops[i]? = some o) (hg : o.guard = none) (h : o.wp P a w K Q) : wpOp P ops Q i K a w := by
  unfold wpOp
  rw [ho]
  simp only [Region.wanted, hg, if_true]
  exact .inl h
theorem wp_value {P : Program} {Q : Exit → Act → World → Prop} {K : Act → World → Prop} {a : Act} {w : World} {o : Oper} (v : Value) (w' : World) (h : (execOp a.eval o).run P w = .ok (.value v) w') (hK : K (a.put o.dst v) w') : o.wp P a w K Q := by
  unfold Oper.wp
  rw [h]
  exact hK
theorem wp_skip {P : Program} {Q : Exit → Act → World → Prop} {K : Act → World → Prop} {a : Act} {w : World} {o : Oper} (w' : World) (h : (execOp a.eval o).run P w = .ok .skip w') (hK : K (a.put o.dst undef) w') : o.wp P a w K Q := by
  unfold Oper.wp
  rw [h]
  exact hK
theorem eval_put (a : Act) (d t : Nat) (v : Value) (h : d < a.tmps.size) : (a.put (some d) v).eval (.tmp t) = if t = d then v else a.eval (.tmp t) := by
  simp only [Act.put, Act.eval, Array.getD_eq_getD_getElem?, Array.getElem?_setIfInBounds]
  by_cases e : d = t
  · subst e; simp [h]
  · rw [if_neg e, if_neg (fun x => e x.symm)]

/-- what operation j of Own's drawn region has left -/
def OwnR (N : Nat) (ads : Nat → Option Addr) (ms cs : Nat → Nat) (xs : Nat → List Value) (j : Nat) (a : Act) (w : World) : Prop :=
  if j = 17 then ∃ (bo : Nat → Option Addr) (bc : Nat → Nat), w.heap[N + 1]? = some (.cells #[.slice (bo 0) (ms 0) (bc 0), .slice (bo 1) (ms 1) (bc 1), .slice (bo 2) (ms 2) (bc 2), .slice (bo 3) (ms 3) (bc 3)] 28 (0, 0)) ∧ ∀ k, k < 4 → Lies (N + 2) w (bo k) (xs k)
  else if j = 16 then ∃ (bo : Nat → Option Addr) (bc : Nat → Nat), a.eval (.tmp (j + 3)) = .agg #[.slice (bo 0) (ms 0) (bc 0), .slice (bo 1) (ms 1) (bc 1), .slice (bo 2) (ms 2) (bc 2), .slice (bo 3) (ms 3) (bc 3)] ∧ ∀ k, k < 4 → Lies (N + 2) w (bo k) (xs k)
  else if j % 4 = 0 then ∃ ad, a.eval (.tmp (j + 3)) = .slice (some ad) 0 0
  else if j % 4 = 1 then a.eval (.tmp (j + 3)) = .pointer (some ⟨N, j / 4, none⟩)
  else if j % 4 = 2 then a.eval (.tmp (j + 3)) = .slice (ads (j / 4)) (ms (j / 4)) (cs (j / 4))
  else ∃ bo bc, a.eval (.tmp (j + 3)) = .slice bo (ms (j / 4)) bc ∧ Lies (N + 2) w bo (xs (j / 4))
/-- what holds throughout it -/
structure OwnBase (N : Nat) (w0 : World) (a : Act) (w : World) : Prop where
  size : a.tmps.size = 20
  defers : a.defers = []
  t1 : a.eval (.tmp 1) = .pointer (some ⟨N, 0, none⟩)
  t2 : a.eval (.tmp 2) = .pointer (some ⟨N + 1, 0, none⟩)
  below : Below (N + 1) w0 w
  room : N + 2 ≤ w.heap.size
  res : ∃ z0 z1 z2 z3, w.heap[N + 1]? = some (.cells #[z0, z1, z2, z3] 28 (0, 0))

theorem OwnR.keep {N : Nat} {ads : Nat → Option Addr} {ms cs : Nat → Nat} {xs : Nat → List Value} {j : Nat} {a a' : Act} {w w' : World} (hn : j ≠ 17) (he : a'.eval (.tmp (j + 3)) = a.eval (.tmp (j + 3))) (hs : w.heap.size ≤ w'.heap.size)
    (hb : ∀ k, N + 2 ≤ k → k < w.heap.size → w'.heap[k]? = w.heap[k]?) (h : OwnR N ads ms cs xs j a w) : OwnR N ads ms cs xs j a' w' := by
  unfold OwnR at h ⊢
  rw [if_neg hn] at h ⊢
  rw [he]
  split at h
  · rename_i e
    rw [if_pos e]
    obtain ⟨bo, bc, h1, h2⟩ := h
    exact ⟨bo, bc, h1, fun k hk => (h2 k hk).keep hs hb⟩
  · rename_i e
    rw [if_neg e]
    split at h
    · rename_i e1; rw [if_pos e1]; exact h
    · rename_i e1
      rw [if_neg e1]
      split at h
      · rename_i e2; rw [if_pos e2]; exact h
      · rename_i e2
        rw [if_neg e2]
        split at h
        · rename_i e3; rw [if_pos e3]; exact h
        · rename_i e3
          rw [if_neg e3]
          obtain ⟨bo, bc, h1, h2⟩ := h
          exact ⟨bo, bc, h1, h2.keep hs hb⟩

theorem own_step {N : Nat} {ads : Nat → Option Addr} {ms cs : Nat → Nat} {xs : Nat → List Value} {w0 : World} {a : Act} {w w' : World} {v : Value} (i : Nat) (hi : i < 17) (hB : OwnBase N w0 a w) (hw : Below w.heap.size w w') (hR : OwnR N ads ms cs xs i (a.put (some (i + 3)) v) w') :
    OwnBase N w0 (a.put (some (i + 3)) v) w' ∧ OwnR N ads ms cs xs i (a.put (some (i + 3)) v) w' ∧ ∀ j, j < 18 → j ≠ i → j ≠ 17 → OwnR N ads ms cs xs j a w → OwnR N ads ms cs xs j (a.put (some (i + 3)) v) w' := by
  have hsz := hB.size
  refine ⟨⟨by simpa [Act.put] using hsz, by simpa [Act.put] using hB.defers, ?_, ?_, hB.below.trans (hw.mono (by have := hB.room; omega)), Nat.le_trans hB.room hw.size, ?_⟩, hR, fun j hj hji hj17 h => ?_⟩
  · rw [eval_put _ _ _ _ (by omega), if_neg (by omega)]; exact hB.t1
  · rw [eval_put _ _ _ _ (by omega), if_neg (by omega)]; exact hB.t2
  · obtain ⟨z0, z1, z2, z3, hz⟩ := hB.res
    exact ⟨z0, z1, z2, z3, by rw [hw.block _ (by have := hB.room; omega)]; exact hz⟩
  · refine OwnR.keep hj17 ?_ hw.size (fun k _ hk => hw.block k hk) h
    rw [eval_put _ _ _ _ (by omega), if_neg (by omega)]

theorem ownR_0 {N ads ms cs xs} {j : Nat} (_hj : j < 16) (h0 : j % 4 = 0) {a : Act} {w : World} : OwnR N ads ms cs xs j a w = ∃ ad, a.eval (.tmp (j + 3)) = .slice (some ad) 0 0 := by unfold OwnR; rw [if_neg (by omega), if_neg (by omega), if_pos h0]
theorem ownR_1 {N ads ms cs xs} {j : Nat} (_hj : j < 16) (h0 : j % 4 = 1) {a : Act} {w : World} : OwnR N ads ms cs xs j a w = (a.eval (.tmp (j + 3)) = .pointer (some ⟨N, j / 4, none⟩)) := by unfold OwnR; rw [if_neg (by omega), if_neg (by omega), if_neg (by omega), if_pos h0]
theorem ownR_2 {N ads ms cs xs} {j : Nat} (_hj : j < 16) (h0 : j % 4 = 2) {a : Act} {w : World} : OwnR N ads ms cs xs j a w = (a.eval (.tmp (j + 3)) = .slice (ads (j / 4)) (ms (j / 4)) (cs (j / 4))) := by unfold OwnR; rw [if_neg (by omega), if_neg (by omega), if_neg (by omega), if_neg (by omega), if_pos h0]
theorem ownR_3 {N ads ms cs xs} {j : Nat} (_hj : j < 16) (h0 : j % 4 = 3) {a : Act} {w : World} : OwnR N ads ms cs xs j a w = ∃ bo bc, a.eval (.tmp (j + 3)) = .slice bo (ms (j / 4)) bc ∧ Lies (N + 2) w bo (xs (j / 4)) := by unfold OwnR; rw [if_neg (by omega), if_neg (by omega), if_neg (by omega), if_neg (by omega), if_neg (by omega)]

theorem r_bs23 (ρ : Operand → Value) (o : Oper) (ho : o.op = Op.buildSlice 23 0 #[]) (wr : World) : (execOp ρ o).run Tryz.prog wr = .ok (.value (.slice (some ⟨wr.heap.size, 0, none⟩) 0 0)) (wr.alloc (.cells #[] 61)) := by
  unfold execOp
  rw [ho]
  go_simp
theorem r_ld23 (ρ : Operand → Value) (o : Oper) (x : Operand) (ho : o.op = Op.load 23 x) (wr : World) (A : Addr) (v : Value) (h : ρ x = .pointer (some A)) (hc : wr.cell? A = some v) : (execOp ρ o).run Tryz.prog wr = .ok (.value v) wr := by
  unfold execOp
  rw [ho]
  go_simp
theorem r_bs24 (ρ : Operand → Value) (o : Oper) (ho : o.op = Op.buildSlice 24 0 #[]) (wr : World) : (execOp ρ o).run Tryz.prog wr = .ok (.value (.slice (some ⟨wr.heap.size, 0, none⟩) 0 0)) (wr.alloc (.cells #[] 5)) := by
  unfold execOp
  rw [ho]
  go_simp
theorem r_ld24 (ρ : Operand → Value) (o : Oper) (x : Operand) (ho : o.op = Op.load 24 x) (wr : World) (A : Addr) (v : Value) (h : ρ x = .pointer (some A)) (hc : wr.cell? A = some v) : (execOp ρ o).run Tryz.prog wr = .ok (.value v) wr := by
  unfold execOp
  rw [ho]
  go_simp
theorem r_bs25 (ρ : Operand → Value) (o : Oper) (ho : o.op = Op.buildSlice 25 0 #[]) (wr : World) : (execOp ρ o).run Tryz.prog wr = .ok (.value (.slice (some ⟨wr.heap.size, 0, none⟩) 0 0)) (wr.alloc (.cells #[] 41)) := by
  unfold execOp
  rw [ho]
  go_simp
theorem r_ld25 (ρ : Operand → Value) (o : Oper) (x : Operand) (ho : o.op = Op.load 25 x) (wr : World) (A : Addr) (v : Value) (h : ρ x = .pointer (some A)) (hc : wr.cell? A = some v) : (execOp ρ o).run Tryz.prog wr = .ok (.value v) wr := by
  unfold execOp
  rw [ho]
  go_simp
theorem r_bs26 (ρ : Operand → Value) (o : Oper) (ho : o.op = Op.buildSlice 26 0 #[]) (wr : World) : (execOp ρ o).run Tryz.prog wr = .ok (.value (.slice (some ⟨wr.heap.size, 0, none⟩) 0 0)) (wr.alloc (.cells #[] 67)) := by
  unfold execOp
  rw [ho]
  go_simp
theorem r_ld26 (ρ : Operand → Value) (o : Oper) (x : Operand) (ho : o.op = Op.load 26 x) (wr : World) (A : Addr) (v : Value) (h : ρ x = .pointer (some A)) (hc : wr.cell? A = some v) : (execOp ρ o).run Tryz.prog wr = .ok (.value v) wr := by
  unfold execOp
  rw [ho]
  go_simp
theorem r_fa0 (ρ : Operand → Value) (o : Oper) (x : Operand) (ho : o.op = Op.fieldAddr 28 x 0) (wr : World) (N : Nat) (h : ρ x = .pointer (some ⟨N, 0, none⟩)) : (execOp ρ o).run Tryz.prog wr = .ok (.value (.pointer (some ⟨N, 0, none⟩))) wr := by
  unfold execOp
  rw [ho]
  go_simp
theorem r_fa1 (ρ : Operand → Value) (o : Oper) (x : Operand) (ho : o.op = Op.fieldAddr 28 x 1) (wr : World) (N : Nat) (h : ρ x = .pointer (some ⟨N, 0, none⟩)) : (execOp ρ o).run Tryz.prog wr = .ok (.value (.pointer (some ⟨N, 1, none⟩))) wr := by
  unfold execOp
  rw [ho]
  go_simp
theorem r_fa2 (ρ : Operand → Value) (o : Oper) (x : Operand) (ho : o.op = Op.fieldAddr 28 x 2) (wr : World) (N : Nat) (h : ρ x = .pointer (some ⟨N, 0, none⟩)) : (execOp ρ o).run Tryz.prog wr = .ok (.value (.pointer (some ⟨N, 2, none⟩))) wr := by
  unfold execOp
  rw [ho]
  go_simp
theorem r_fa3 (ρ : Operand → Value) (o : Oper) (x : Operand) (ho : o.op = Op.fieldAddr 28 x 3) (wr : World) (N : Nat) (h : ρ x = .pointer (some ⟨N, 0, none⟩)) : (execOp ρ o).run Tryz.prog wr = .ok (.value (.pointer (some ⟨N, 3, none⟩))) wr := by
  unfold execOp
  rw [ho]
  go_simp
theorem r_build28 (ρ : Operand → Value) (o : Oper) (x0 x1 x2 x3 : Operand) (ho : o.op = Op.build 28 #[(0, x0), (1, x1), (2, x2), (3, x3)]) (wr : World) (b0 b1 b2 b3 : Option Addr) (m0 m1 m2 m3 c0 c1 c2 c3 : Nat) (h0 : ρ x0 = .slice b0 m0 c0) (h1 : ρ x1 = .slice b1 m1 c1) (h2 : ρ x2 = .slice b2 m2 c2) (h3 : ρ x3 = .slice b3 m3 c3) :
    (execOp ρ o).run Tryz.prog wr = .ok (.value (.agg #[.slice b0 m0 c0, .slice b1 m1 c1, .slice b2 m2 c2, .slice b3 m3 c3])) wr := by
  unfold execOp
  rw [ho]
  go_simp
theorem r_store28 (ρ : Operand → Value) (o : Oper) (x y : Operand) (ho : o.op = Op.store 28 x y) (wr : World) (N : Nat) (z0 z1 z2 z3 : Value) (hh : wr.heap[N]? = some (.cells #[z0, z1, z2, z3] 28 (0, 0))) (b0 b1 b2 b3 : Option Addr) (m0 m1 m2 m3 c0 c1 c2 c3 : Nat) (h0 : ρ x = .pointer (some ⟨N, 0, none⟩)) (h1 : ρ y = .agg #[.slice b0 m0 c0, .slice b1 m1 c1, .slice b2 m2 c2, .slice b3 m3 c3]) :
    (execOp ρ o).run Tryz.prog wr = .ok .skip ((((wr.setCell ⟨N, 0, none⟩ (.slice b0 m0 c0)).setCell ⟨N, 1, none⟩ (.slice b1 m1 c1)).setCell ⟨N, 2, none⟩ (.slice b2 m2 c2)).setCell ⟨N, 3, none⟩ (.slice b3 m3 c3)) := by
  have q0 : wr.cell? ⟨N, 0, none⟩ = some z0 := by simp [World.cell?, hh]
  have q1 : wr.cell? ⟨N, 1, none⟩ = some z1 := by simp [World.cell?, hh]
  have q2 : wr.cell? ⟨N, 2, none⟩ = some z2 := by simp [World.cell?, hh]
  have q3 : wr.cell? ⟨N, 3, none⟩ = some z3 := by simp [World.cell?, hh]
  have f0 : wr.frozen? ⟨N, 0, none⟩ = false := by simp [World.frozen?, hh]
  have f1 : wr.frozen? ⟨N, 1, none⟩ = false := by simp [World.frozen?, hh]
  have f2 : wr.frozen? ⟨N, 2, none⟩ = false := by simp [World.frozen?, hh]
  have f3 : wr.frozen? ⟨N, 3, none⟩ = false := by simp [World.frozen?, hh]
  clear hh
  unfold execOp
  rw [ho]
  go_simp

theorem below4 (w : World) (b : Nat) (x0 x1 x2 x3 : Value) : Below b w ((((w.setCell ⟨b, 0, none⟩ x0).setCell ⟨b, 1, none⟩ x1).setCell ⟨b, 2, none⟩ x2).setCell ⟨b, 3, none⟩ x3) := by
  have h0 : Below b w (w.setCell ⟨b, 0, none⟩ x0) := (Below.refl b w).setCell (Nat.le_refl b) x0
  have h1 := h0.setCell (p := ⟨b, 1, none⟩) (Nat.le_refl b) x1
  have h2 := h1.setCell (p := ⟨b, 2, none⟩) (Nat.le_refl b) x2
  exact h2.setCell (p := ⟨b, 3, none⟩) (Nat.le_refl b) x3

theorem two_allocs (w : World) (x0 x1 x2 x3 y0 y1 y2 y3 : Value) (t : TypeId) : 
    (((w.alloc (.cells #[x0, x1, x2, x3] t)).alloc (.cells #[y0, y1, y2, y3] t)).cell? ⟨w.heap.size, 0, none⟩ = some x0 ∧ ((w.alloc (.cells #[x0, x1, x2, x3] t)).alloc (.cells #[y0, y1, y2, y3] t)).cell? ⟨w.heap.size, 1, none⟩ = some x1 ∧
    ((w.alloc (.cells #[x0, x1, x2, x3] t)).alloc (.cells #[y0, y1, y2, y3] t)).cell? ⟨w.heap.size, 2, none⟩ = some x2 ∧ ((w.alloc (.cells #[x0, x1, x2, x3] t)).alloc (.cells #[y0, y1, y2, y3] t)).cell? ⟨w.heap.size, 3, none⟩ = some x3) ∧
    ((w.alloc (.cells #[x0, x1, x2, x3] t)).alloc (.cells #[y0, y1, y2, y3] t)).heap[w.heap.size + 1]? = some (.cells #[y0, y1, y2, y3] t (0, 0)) ∧ w.heap.size + 2 ≤ ((w.alloc (.cells #[x0, x1, x2, x3] t)).alloc (.cells #[y0, y1, y2, y3] t)).heap.size := by
  have e1 : (w.alloc (.cells #[x0, x1, x2, x3] t)).heap.size = w.heap.size + 1 := by simp
  have h0 : ((w.alloc (.cells #[x0, x1, x2, x3] t)).alloc (.cells #[y0, y1, y2, y3] t)).heap[w.heap.size]? = some (.cells #[x0, x1, x2, x3] t (0, 0)) := by
    rw [Below.heap_alloc _ _ _ (by omega)]
    exact heap_alloc_new w _
  have h1 : ((w.alloc (.cells #[x0, x1, x2, x3] t)).alloc (.cells #[y0, y1, y2, y3] t)).heap[w.heap.size + 1]? = some (.cells #[y0, y1, y2, y3] t (0, 0)) := by
    rw [← e1]; exact heap_alloc_new _ _
  have h2 : ((w.alloc (.cells #[x0, x1, x2, x3] t)).alloc (.cells #[y0, y1, y2, y3] t)).heap.size = w.heap.size + 2 := by simp
  generalize ((w.alloc (.cells #[x0, x1, x2, x3] t)).alloc (.cells #[y0, y1, y2, y3] t)) = W at h0 h1 h2 ⊢
  refine ⟨⟨?_, ?_, ?_, ?_⟩, h1, by omega⟩ <;> simp [World.cell?, h0]

/-- append onto an empty slice, at the operation -/
theorem wp_fresh {P : Program} {o : Oper} {a : Act} {w : World} {K : Act → World → Prop} {Q : Exit → Act → World → Prop} (s x : Operand) (t : TypeId) (hop : o.op = Op.call { callee := Callee.builtin Builtin.append, args := #[s, x], argTypes := #[t, t] })
    (e : TypeId) (i : TypeInfo) (z : Value) (size bytes : Nat) (ht : P.underlying t = some (.slice e)) (hi : P.info? e = some i) (hz : i.zero = some z) (h4 : i.size = size) (h5 : i.bytes = bytes) (hzs : z.cells.size = size) (hsz : 0 < size) (B : Nat)
    (ao bo : Option Addr) (m c : Nat) (cs : List Value) (hs : a.eval s = .slice ao 0 0) (hx : a.eval x = .slice bo m c) (hl : cs.length = m * size) (hL : Lies B w bo cs) (h1 : ∀ u ∈ cs, u.oneCell' = true) (b1 : m ≤ maxLen) (b2 : m * bytes ≤ 140737488355328)
    (hK : ∀ ao' c' w', Lies w.heap.size w' ao' cs → Below w.heap.size w w' → K (a.put o.dst (.slice ao' m c')) w') : o.wp P a w K Q := by
  subst h4 h5
  obtain ⟨ao', c', w', hrun, r1, r2⟩ := append_fresh (P := P) w t o.type e i z ht hi hz hzs hsz B ao bo m c cs hl hL h1 b1 b2
  unfold Oper.wp
  simp [execOp, hop, resolve, invoke, builtin, hs, hx, hrun, Result.andThen]
  exact hK ao' c' w' r1 r2

set_option maxRecDepth 100000 in
theorem own_calls (B : Nat) (o : ObjV) (v : Value) (w : World) (hv : Holds B w v o) (m0 : o.text.length ≤ 300) (m1 : o.data.length ≤ 600) (m2 : o.syms.length ≤ 60) (m3 : o.rels.length ≤ 100) :
    Calls Tryz.prog 19 #[v] w fun e w' => ∃ v', e = .returned v' ∧ Holds w.heap.size w' v' o ∧ Below w.heap.size w w' := by
  obtain ⟨a0, a1, a2, a3, c0, c1, c2, c3, rfl, h0, h1, h2, h3⟩ := hv
  have P0 := Pack.mk h0
  have P1 := Pack.mk h1
  have P2 := Pack.mk h2
  have P3 := Pack.mk h3
  have M := Pack.mk (And.intro m0 (And.intro m1 (And.intro m2 m3)))
  clear h0 h1 h2 h3 m0 m1 m2 m3
  obtain ⟨ads, has⟩ : ∃ ads : Nat → Option Addr, Pack (ads 0 = a0 ∧ ads 1 = a1 ∧ ads 2 = a2 ∧ ads 3 = a3) := ⟨fun k => if k = 0 then a0 else if k = 1 then a1 else if k = 2 then a2 else a3, ⟨rfl, rfl, rfl, rfl⟩⟩
  obtain ⟨cs, hcs⟩ : ∃ cs : Nat → Nat, Pack (cs 0 = c0 ∧ cs 1 = c1 ∧ cs 2 = c2 ∧ cs 3 = c3) := ⟨fun k => if k = 0 then c0 else if k = 1 then c1 else if k = 2 then c2 else c3, ⟨rfl, rfl, rfl, rfl⟩⟩
  obtain ⟨ms, hms⟩ : ∃ ms : Nat → Nat, Pack (ms 0 = o.text.length ∧ ms 1 = o.data.length ∧ ms 2 = o.syms.length ∧ ms 3 = o.rels.length) := ⟨fun k => if k = 0 then o.text.length else if k = 1 then o.data.length else if k = 2 then o.syms.length else o.rels.length, ⟨rfl, rfl, rfl, rfl⟩⟩
  obtain ⟨xs, hxs⟩ : ∃ xs : Nat → List Value, Pack (xs 0 = wordCells o.text ∧ xs 1 = byteCells o.data ∧ xs 2 = symCells o.syms ∧ xs 3 = relCells o.rels) := ⟨fun k => if k = 0 then wordCells o.text else if k = 1 then byteCells o.data else if k = 2 then symCells o.syms else relCells o.rels, ⟨rfl, rfl, rfl, rfl⟩⟩
  go_enter Tryz.func19, Tryz.ntmps19
  go_wp2_with fail
  generalize hw1 : ((w.alloc _).alloc _) = w1
  have hbox : Pack (w1.cell? ⟨w.heap.size, 0, none⟩ = some (.slice (ads 0) (ms 0) (cs 0)) ∧ w1.cell? ⟨w.heap.size, 1, none⟩ = some (.slice (ads 1) (ms 1) (cs 1)) ∧ w1.cell? ⟨w.heap.size, 2, none⟩ = some (.slice (ads 2) (ms 2) (cs 2)) ∧ w1.cell? ⟨w.heap.size, 3, none⟩ = some (.slice (ads 3) (ms 3) (cs 3))) := ⟨by
    obtain ⟨e0, e1, e2, e3⟩ := has.out
    obtain ⟨g0, g1, g2, g3⟩ := hcs.out
    obtain ⟨k0, k1, k2, k3⟩ := hms.out
    rw [e0, e1, e2, e3, g0, g1, g2, g3, k0, k1, k2, k3, ← hw1]
    exact (two_allocs w _ _ _ _ _ _ _ _ _).1⟩
  have hbel1 : Pack (Below w.heap.size w w1) := ⟨hw1 ▸ ((Below.refl _ w).alloc (Nat.le_refl _) _).alloc (by simp) _⟩
  have hres : Pack (w1.heap[w.heap.size + 1]? = some (.cells #[.slice none 0 0, .slice none 0 0, .slice none 0 0, .slice none 0 0] 28 (0, 0)) ∧ w.heap.size + 2 ≤ w1.heap.size) := ⟨by rw [← hw1]; exact (two_allocs w _ _ _ _ _ _ _ _ _).2⟩
  have hS : Pack ((∀ k, k < 4 → Lies B w (ads k) (xs k)) ∧ (xs 0).length = ms 0 * 1 ∧ (xs 1).length = ms 1 * 1 ∧ (xs 2).length = ms 2 * 5 ∧ (xs 3).length = ms 3 * 5 ∧ (∀ k, k < 4 → ∀ u ∈ xs k, u.oneCell' = true) ∧ (∀ k, k < 4 → ms k ≤ 600)) := ⟨by
    obtain ⟨e0, e1, e2, e3⟩ := has.out
    obtain ⟨g0, g1, g2, g3⟩ := hxs.out
    obtain ⟨k0, k1, k2, k3⟩ := hms.out
    obtain ⟨l0, l1, l2, l3⟩ := M.out
    have four : ∀ k, k < 4 → k = 0 ∨ k = 1 ∨ k = 2 ∨ k = 3 := fun k hk => by omega
    refine ⟨fun k hk => ?_, ?_, ?_, ?_, ?_, fun k hk u hu => ?_, fun k hk => ?_⟩
    · rcases four k hk with rfl | rfl | rfl | rfl
      · rw [e0, g0]; exact P0.out
      · rw [e1, g1]; exact P1.out
      · rw [e2, g2]; exact P2.out
      · rw [e3, g3]; exact P3.out
    · rw [g0, k0]; simp [wordCells]
    · rw [g1, k1]; simp [byteCells]
    · rw [g2, k2]; exact flat_length encSym 5 encSym_len _
    · rw [g3, k3]; exact flat_length encRel 5 encRel_len _
    · rcases four k hk with rfl | rfl | rfl | rfl
      · rw [g0] at hu; obtain ⟨_, _, rfl⟩ := List.mem_map.1 hu; rfl
      · rw [g1] at hu; obtain ⟨_, _, rfl⟩ := List.mem_map.1 hu; rfl
      · rw [g2] at hu; obtain ⟨x, _, h⟩ := List.mem_flatMap.1 hu; simp only [encSym, List.mem_cons, List.not_mem_nil, or_false] at h; rcases h with rfl | rfl | rfl | rfl | rfl <;> rfl
      · rw [g3] at hu; obtain ⟨x, _, h⟩ := List.mem_flatMap.1 hu; simp only [encRel, List.mem_cons, List.not_mem_nil, or_false] at h; rcases h with rfl | rfl | rfl | rfl | rfl <;> rfl
    · rcases four k hk with rfl | rfl | rfl | rfl <;> omega⟩
  clear P0 P1 P2 P3
  rename_i Kx hKx
  refine wp_region_good (by kernel_rfl) 18 17 rfl (fun i o ho e he => (chkEdges_sound (by kernel_rfl) i o ho e he).1) (fun i o ho e he => (chkEdges_sound (by kernel_rfl) i o ho e he).2) (OwnR w.heap.size ads ms cs xs) (OwnBase w.heap.size w1) (fun g hc hl i hi => chkLast_sound (by kernel_rfl) g hc hl i hi) ?hB ?hstep ?hend
  case hB =>
    refine ⟨rfl, rfl, rfl, rfl, (Below.refl _ _).drew, hres.out.2, _, _, _, _, hres.out.1⟩
  case hstep =>
    intro i hi a wr hB hd
    have hi' : i = 0 ∨ i = 1 ∨ i = 2 ∨ i = 3 ∨ i = 4 ∨ i = 5 ∨ i = 6 ∨ i = 7 ∨ i = 8 ∨ i = 9 ∨ i = 10 ∨ i = 11 ∨ i = 12 ∨ i = 13 ∨ i = 14 ∨ i = 15 ∨ i = 16 ∨ i = 17 := by omega
    clear hi
    have hbel : Below w.heap.size w wr := hbel1.out.trans (hB.below.mono (by omega))
    rcases hi' with rfl | rfl | rfl | rfl | rfl | rfl | rfl | rfl | rfl | rfl | rfl | rfl | rfl | rfl | rfl | rfl | rfl | rfl
    · refine wpOp_of _ rfl rfl ?_
      refine wp_value _ _ (r_bs23 _ _ rfl wr) (own_step 0 (by omega) hB ((Below.refl _ _).alloc (Nat.le_refl _) _) ?_)
      rw [ownR_0 (by omega) rfl]
      exact ⟨_, by rw [eval_put _ _ _ _ (by rw [hB.size]; omega), if_pos rfl]⟩
    · refine wpOp_of _ rfl rfl ?_
      refine wp_value _ _ (r_fa0 _ _ _ rfl wr _ hB.t1) (own_step 1 (by omega) hB (Below.refl _ _) ?_)
      rw [ownR_1 (by omega) rfl, eval_put _ _ _ _ (by rw [hB.size]; omega), if_pos rfl]
    · have d1 : OwnR w.heap.size ads ms cs xs 1 a wr := hd _ rfl ⟨1, .data⟩ (by simp)
      rw [ownR_1 (by omega) rfl] at d1
      refine wpOp_of _ rfl rfl ?_
      refine wp_value _ _ (r_ld23 _ _ _ rfl wr _ _ d1 ((hB.below.cell (Nat.lt_succ_self _)).trans hbox.out.1)) (own_step 2 (by omega) hB (Below.refl _ _) ?_)
      rw [ownR_2 (by omega) rfl, eval_put _ _ _ _ (by rw [hB.size]; omega), if_pos rfl]
    · have d0 : OwnR w.heap.size ads ms cs xs 0 a wr := hd _ rfl ⟨0, .data⟩ (by simp)
      have d2 : OwnR w.heap.size ads ms cs xs 2 a wr := hd _ rfl ⟨2, .data⟩ (by simp)
      rw [ownR_0 (by omega) rfl] at d0
      rw [ownR_2 (by omega) rfl] at d2
      obtain ⟨ad, d0⟩ := d0
      replace d2 : a.eval (.tmp 5) = .slice (ads 0) (ms 0) (cs 0) := d2
      obtain ⟨ti, t1, t2, t3, t4⟩ := info_parts info61
      refine wpOp_of _ rfl rfl ?_
      refine wp_fresh _ _ 23 rfl 61 ti _ 1 4 Tryz.underlying23 t1 t2 t3 t4 rfl (by decide) B _ _ _ _ _ d0 d2 hS.out.2.1 ((hS.out.1 0 (by omega)).step hbel) (hS.out.2.2.2.2.2.1 0 (by omega)) (by have := hS.out.2.2.2.2.2.2 0 (by omega); unfold maxLen; omega) (by have := hS.out.2.2.2.2.2.2 0 (by omega); omega) ?_
      intro ao' c' w' hl hb
      refine own_step 3 (by omega) hB hb ?_
      rw [ownR_3 (by omega) rfl]
      exact ⟨ao', c', by rw [eval_put _ _ _ _ (by rw [hB.size]; omega), if_pos rfl], hl.mono hB.room⟩
    · refine wpOp_of _ rfl rfl ?_
      refine wp_value _ _ (r_bs24 _ _ rfl wr) (own_step 4 (by omega) hB ((Below.refl _ _).alloc (Nat.le_refl _) _) ?_)
      rw [ownR_0 (by omega) rfl]
      exact ⟨_, by rw [eval_put _ _ _ _ (by rw [hB.size]; omega), if_pos rfl]⟩
    · refine wpOp_of _ rfl rfl ?_
      refine wp_value _ _ (r_fa1 _ _ _ rfl wr _ hB.t1) (own_step 5 (by omega) hB (Below.refl _ _) ?_)
      rw [ownR_1 (by omega) rfl, eval_put _ _ _ _ (by rw [hB.size]; omega), if_pos rfl]
    · have d1 : OwnR w.heap.size ads ms cs xs 5 a wr := hd _ rfl ⟨5, .data⟩ (by simp)
      rw [ownR_1 (by omega) rfl] at d1
      refine wpOp_of _ rfl rfl ?_
      refine wp_value _ _ (r_ld24 _ _ _ rfl wr _ _ d1 ((hB.below.cell (Nat.lt_succ_self _)).trans hbox.out.2.1)) (own_step 6 (by omega) hB (Below.refl _ _) ?_)
      rw [ownR_2 (by omega) rfl, eval_put _ _ _ _ (by rw [hB.size]; omega), if_pos rfl]
    · have d0 : OwnR w.heap.size ads ms cs xs 4 a wr := hd _ rfl ⟨4, .data⟩ (by simp)
      have d2 : OwnR w.heap.size ads ms cs xs 6 a wr := hd _ rfl ⟨6, .data⟩ (by simp)
      rw [ownR_0 (by omega) rfl] at d0
      rw [ownR_2 (by omega) rfl] at d2
      obtain ⟨ad, d0⟩ := d0
      replace d2 : a.eval (.tmp 9) = .slice (ads 1) (ms 1) (cs 1) := d2
      obtain ⟨ti, t1, t2, t3, t4⟩ := info_parts info5
      refine wpOp_of _ rfl rfl ?_
      refine wp_fresh _ _ 24 rfl 5 ti _ 1 1 Tryz.underlying24 t1 t2 t3 t4 rfl (by decide) B _ _ _ _ _ d0 d2 hS.out.2.2.1 ((hS.out.1 1 (by omega)).step hbel) (hS.out.2.2.2.2.2.1 1 (by omega)) (by have := hS.out.2.2.2.2.2.2 1 (by omega); unfold maxLen; omega) (by have := hS.out.2.2.2.2.2.2 1 (by omega); omega) ?_
      intro ao' c' w' hl hb
      refine own_step 7 (by omega) hB hb ?_
      rw [ownR_3 (by omega) rfl]
      exact ⟨ao', c', by rw [eval_put _ _ _ _ (by rw [hB.size]; omega), if_pos rfl], hl.mono hB.room⟩
    · refine wpOp_of _ rfl rfl ?_
      refine wp_value _ _ (r_bs25 _ _ rfl wr) (own_step 8 (by omega) hB ((Below.refl _ _).alloc (Nat.le_refl _) _) ?_)
      rw [ownR_0 (by omega) rfl]
      exact ⟨_, by rw [eval_put _ _ _ _ (by rw [hB.size]; omega), if_pos rfl]⟩
    · refine wpOp_of _ rfl rfl ?_
      refine wp_value _ _ (r_fa2 _ _ _ rfl wr _ hB.t1) (own_step 9 (by omega) hB (Below.refl _ _) ?_)
      rw [ownR_1 (by omega) rfl, eval_put _ _ _ _ (by rw [hB.size]; omega), if_pos rfl]
    · have d1 : OwnR w.heap.size ads ms cs xs 9 a wr := hd _ rfl ⟨9, .data⟩ (by simp)
      rw [ownR_1 (by omega) rfl] at d1
      refine wpOp_of _ rfl rfl ?_
      refine wp_value _ _ (r_ld25 _ _ _ rfl wr _ _ d1 ((hB.below.cell (Nat.lt_succ_self _)).trans hbox.out.2.2.1)) (own_step 10 (by omega) hB (Below.refl _ _) ?_)
      rw [ownR_2 (by omega) rfl, eval_put _ _ _ _ (by rw [hB.size]; omega), if_pos rfl]
    · have d0 : OwnR w.heap.size ads ms cs xs 8 a wr := hd _ rfl ⟨8, .data⟩ (by simp)
      have d2 : OwnR w.heap.size ads ms cs xs 10 a wr := hd _ rfl ⟨10, .data⟩ (by simp)
      rw [ownR_0 (by omega) rfl] at d0
      rw [ownR_2 (by omega) rfl] at d2
      obtain ⟨ad, d0⟩ := d0
      replace d2 : a.eval (.tmp 13) = .slice (ads 2) (ms 2) (cs 2) := d2
      obtain ⟨ti, t1, t2, t3, t4⟩ := info_parts info41
      refine wpOp_of _ rfl rfl ?_
      refine wp_fresh _ _ 25 rfl 41 ti _ 5 48 Tryz.underlying25 t1 t2 t3 t4 rfl (by decide) B _ _ _ _ _ d0 d2 hS.out.2.2.2.1 ((hS.out.1 2 (by omega)).step hbel) (hS.out.2.2.2.2.2.1 2 (by omega)) (by have := hS.out.2.2.2.2.2.2 2 (by omega); unfold maxLen; omega) (by have := hS.out.2.2.2.2.2.2 2 (by omega); omega) ?_
      intro ao' c' w' hl hb
      refine own_step 11 (by omega) hB hb ?_
      rw [ownR_3 (by omega) rfl]
      exact ⟨ao', c', by rw [eval_put _ _ _ _ (by rw [hB.size]; omega), if_pos rfl], hl.mono hB.room⟩
    · refine wpOp_of _ rfl rfl ?_
      refine wp_value _ _ (r_bs26 _ _ rfl wr) (own_step 12 (by omega) hB ((Below.refl _ _).alloc (Nat.le_refl _) _) ?_)
      rw [ownR_0 (by omega) rfl]
      exact ⟨_, by rw [eval_put _ _ _ _ (by rw [hB.size]; omega), if_pos rfl]⟩
    · refine wpOp_of _ rfl rfl ?_
      refine wp_value _ _ (r_fa3 _ _ _ rfl wr _ hB.t1) (own_step 13 (by omega) hB (Below.refl _ _) ?_)
      rw [ownR_1 (by omega) rfl, eval_put _ _ _ _ (by rw [hB.size]; omega), if_pos rfl]
    · have d1 : OwnR w.heap.size ads ms cs xs 13 a wr := hd _ rfl ⟨13, .data⟩ (by simp)
      rw [ownR_1 (by omega) rfl] at d1
      refine wpOp_of _ rfl rfl ?_
      refine wp_value _ _ (r_ld26 _ _ _ rfl wr _ _ d1 ((hB.below.cell (Nat.lt_succ_self _)).trans hbox.out.2.2.2)) (own_step 14 (by omega) hB (Below.refl _ _) ?_)
      rw [ownR_2 (by omega) rfl, eval_put _ _ _ _ (by rw [hB.size]; omega), if_pos rfl]
    · have d0 : OwnR w.heap.size ads ms cs xs 12 a wr := hd _ rfl ⟨12, .data⟩ (by simp)
      have d2 : OwnR w.heap.size ads ms cs xs 14 a wr := hd _ rfl ⟨14, .data⟩ (by simp)
      rw [ownR_0 (by omega) rfl] at d0
      rw [ownR_2 (by omega) rfl] at d2
      obtain ⟨ad, d0⟩ := d0
      replace d2 : a.eval (.tmp 17) = .slice (ads 3) (ms 3) (cs 3) := d2
      obtain ⟨ti, t1, t2, t3, t4⟩ := info_parts info67
      refine wpOp_of _ rfl rfl ?_
      refine wp_fresh _ _ 26 rfl 67 ti _ 5 40 Tryz.underlying26 t1 t2 t3 t4 rfl (by decide) B _ _ _ _ _ d0 d2 hS.out.2.2.2.2.1 ((hS.out.1 3 (by omega)).step hbel) (hS.out.2.2.2.2.2.1 3 (by omega)) (by have := hS.out.2.2.2.2.2.2 3 (by omega); unfold maxLen; omega) (by have := hS.out.2.2.2.2.2.2 3 (by omega); omega) ?_
      intro ao' c' w' hl hb
      refine own_step 15 (by omega) hB hb ?_
      rw [ownR_3 (by omega) rfl]
      exact ⟨ao', c', by rw [eval_put _ _ _ _ (by rw [hB.size]; omega), if_pos rfl], hl.mono hB.room⟩
    · have d0 : OwnR w.heap.size ads ms cs xs 3 a wr := hd _ rfl ⟨3, .data⟩ (by simp)
      have d1 : OwnR w.heap.size ads ms cs xs 7 a wr := hd _ rfl ⟨7, .data⟩ (by simp)
      have d2 : OwnR w.heap.size ads ms cs xs 11 a wr := hd _ rfl ⟨11, .data⟩ (by simp)
      have d3 : OwnR w.heap.size ads ms cs xs 15 a wr := hd _ rfl ⟨15, .data⟩ (by simp)
      rw [ownR_3 (by omega) rfl] at d0 d1 d2 d3
      obtain ⟨b0, q0, d0, l0⟩ := d0
      obtain ⟨b1, q1, d1, l1⟩ := d1
      obtain ⟨b2, q2, d2, l2⟩ := d2
      obtain ⟨b3, q3, d3, l3⟩ := d3
      refine wpOp_of _ rfl rfl ?_
      refine wp_value _ _ (r_build28 _ _ _ _ _ _ rfl wr _ _ _ _ _ _ _ _ _ _ _ _ d0 d1 d2 d3) (own_step 16 (by omega) hB (Below.refl _ _) ?_)
      unfold OwnR
      rw [if_neg (by omega), if_pos rfl]
      refine ⟨fun k => if k = 0 then b0 else if k = 1 then b1 else if k = 2 then b2 else b3, fun k => if k = 0 then q0 else if k = 1 then q1 else if k = 2 then q2 else q3, by rw [eval_put _ _ _ _ (by rw [hB.size]; omega), if_pos rfl]; rfl, fun k hk => ?_⟩
      have four : k = 0 ∨ k = 1 ∨ k = 2 ∨ k = 3 := by omega
      rcases four with rfl | rfl | rfl | rfl
      · exact l0
      · exact l1
      · exact l2
      · exact l3
    · have d : OwnR w.heap.size ads ms cs xs 16 a wr := hd _ rfl ⟨16, .data⟩ (by simp)
      unfold OwnR at d
      rw [if_neg (by omega), if_pos rfl] at d
      obtain ⟨bo, bc, d, l⟩ := d
      obtain ⟨z0, z1, z2, z3, hz⟩ := hB.res
      have far : ∀ k, k ≠ w.heap.size + 1 → ∀ (W : World) (n : Nat) (u : Value), (W.setCell ⟨w.heap.size + 1, n, none⟩ u).heap[k]? = W.heap[k]? := fun k hk W n u => Below.heap_setCell _ _ _ _ hk
      refine wpOp_of _ rfl rfl ?_
      refine wp_skip _ (r_store28 _ _ _ _ rfl wr _ _ _ _ _ hz _ _ _ _ _ _ _ _ _ _ _ _ hB.t2 d) ?_
      have hsz : ((((wr.setCell ⟨w.heap.size + 1, 0, none⟩ (.slice (bo 0) (ms 0) (bc 0))).setCell ⟨w.heap.size + 1, 1, none⟩ (.slice (bo 1) (ms 1) (bc 1))).setCell ⟨w.heap.size + 1, 2, none⟩ (.slice (bo 2) (ms 2) (bc 2))).setCell ⟨w.heap.size + 1, 3, none⟩ (.slice (bo 3) (ms 3) (bc 3))).heap.size = wr.heap.size := by simp [World.setCell]
      have hfar : ∀ k, k ≠ w.heap.size + 1 → ((((wr.setCell ⟨w.heap.size + 1, 0, none⟩ (.slice (bo 0) (ms 0) (bc 0))).setCell ⟨w.heap.size + 1, 1, none⟩ (.slice (bo 1) (ms 1) (bc 1))).setCell ⟨w.heap.size + 1, 2, none⟩ (.slice (bo 2) (ms 2) (bc 2))).setCell ⟨w.heap.size + 1, 3, none⟩ (.slice (bo 3) (ms 3) (bc 3))).heap[k]? = wr.heap[k]? := fun k hk => by rw [far k hk, far k hk, far k hk, far k hk]
      have hnow : ((((wr.setCell ⟨w.heap.size + 1, 0, none⟩ (.slice (bo 0) (ms 0) (bc 0))).setCell ⟨w.heap.size + 1, 1, none⟩ (.slice (bo 1) (ms 1) (bc 1))).setCell ⟨w.heap.size + 1, 2, none⟩ (.slice (bo 2) (ms 2) (bc 2))).setCell ⟨w.heap.size + 1, 3, none⟩ (.slice (bo 3) (ms 3) (bc 3))).heap[w.heap.size + 1]? = some (.cells #[.slice (bo 0) (ms 0) (bc 0), .slice (bo 1) (ms 1) (bc 1), .slice (bo 2) (ms 2) (bc 2), .slice (bo 3) (ms 3) (bc 3)] 28 (0, 0)) := by
        simp [World.setCell, Array.getElem?_modify, hz]
      have hbW : Below (w.heap.size + 1) wr ((((wr.setCell ⟨w.heap.size + 1, 0, none⟩ (.slice (bo 0) (ms 0) (bc 0))).setCell ⟨w.heap.size + 1, 1, none⟩ (.slice (bo 1) (ms 1) (bc 1))).setCell ⟨w.heap.size + 1, 2, none⟩ (.slice (bo 2) (ms 2) (bc 2))).setCell ⟨w.heap.size + 1, 3, none⟩ (.slice (bo 3) (ms 3) (bc 3))) := below4 wr _ _ _ _ _
      generalize ((((wr.setCell ⟨w.heap.size + 1, 0, none⟩ (.slice (bo 0) (ms 0) (bc 0))).setCell ⟨w.heap.size + 1, 1, none⟩ (.slice (bo 1) (ms 1) (bc 1))).setCell ⟨w.heap.size + 1, 2, none⟩ (.slice (bo 2) (ms 2) (bc 2))).setCell ⟨w.heap.size + 1, 3, none⟩ (.slice (bo 3) (ms 3) (bc 3))) = W at hsz hfar hnow hbW ⊢
      refine ⟨⟨hB.size, hB.defers, hB.t1, hB.t2, ?_, by rw [hsz]; exact hB.room, _, _, _, _, hnow⟩, ?_, fun j hj hji hj17 h => OwnR.keep hj17 rfl (by rw [hsz]; exact Nat.le_refl _) (fun k hk _ => hfar k (by omega)) h⟩
      · exact hB.below.trans hbW
      · unfold OwnR
        rw [if_pos rfl]
        exact ⟨bo, bc, hnow, fun k hk => (l k hk).keep (by rw [hsz]; exact Nat.le_refl _) (fun k hk _ => hfar k (by omega))⟩
  case hend =>
    intro a wr hB hR
    have h17 := hR 17 (by omega)
    unfold OwnR at h17
    rw [if_pos rfl] at h17
    obtain ⟨bo, bc, hres', hl⟩ := h17
    refine hKx _ _ ?_
    refine wp_ret ?_
    refine bodyPost_ret (results_cell_row (fn := Tryz.f19) rfl _ _ _ _ _ _ _ hB.t2 hres' Tryz.underlying28 rfl (by kernel_rfl)) hB.defers ?_
    obtain ⟨g0, g1, g2, g3⟩ := hxs.out
    obtain ⟨k0, k1, k2, k3⟩ := hms.out
    refine ⟨_, rfl, ⟨bo 0, bo 1, bo 2, bo 3, bc 0, bc 1, bc 2, bc 3, by rw [k0, k1, k2, k3], ?_, ?_, ?_, ?_⟩, hbel1.out.trans (hB.below.mono (by omega))⟩
    · rw [← g0]; exact (hl 0 (by omega)).mono (by omega)
    · rw [← g1]; exact (hl 1 (by omega)).mono (by omega)
    · rw [← g2]; exact (hl 2 (by omega)).mono (by omega)
    · rw [← g3]; exact (hl 3 (by omega)).mono (by omega)
end Go.Proofs.YtgcpnjckbdajbaaGreatDoor.Ob
