import Derived.Test.YtgcpnjckbdajbaaGreatDoorOV
import Derived.Test.YtgcpnjckbdajbaaGreatDoorOI
namespace Go.Proofs.YtgcpnjckbdajbaaGreatDoor.Ob
open Go.RowKit Go.Sort

theorem two_boxes (w : World) (x0 x1 x2 x3 y0 y1 y2 y3 : Value) (t : TypeId) (W : World) (h : Below ((w.alloc (.cells #[x0, x1, x2, x3] t)).alloc (.cells #[y0, y1, y2, y3] t)).heap.size ((w.alloc (.cells #[x0, x1, x2, x3] t)).alloc (.cells #[y0, y1, y2, y3] t)) W) :
    (W.cell? ⟨w.heap.size, 0, none⟩ = some x0 ∧ W.cell? ⟨w.heap.size, 1, none⟩ = some x1 ∧ W.cell? ⟨w.heap.size, 2, none⟩ = some x2 ∧ W.cell? ⟨w.heap.size, 3, none⟩ = some x3) ∧
    W.cell? ⟨w.heap.size + 1, 0, none⟩ = some y0 ∧ W.cell? ⟨w.heap.size + 1, 1, none⟩ = some y1 ∧ W.cell? ⟨w.heap.size + 1, 2, none⟩ = some y2 ∧ W.cell? ⟨w.heap.size + 1, 3, none⟩ = some y3 := by
  obtain ⟨⟨a0, a1, a2, a3⟩, hh, hs⟩ := two_allocs w x0 x1 x2 x3 y0 y1 y2 y3 t
  generalize ((w.alloc (.cells #[x0, x1, x2, x3] t)).alloc (.cells #[y0, y1, y2, y3] t)) = W0 at a0 a1 a2 a3 hh hs h
  have k0 : ∀ n, W.cell? ⟨w.heap.size, n, none⟩ = W0.cell? ⟨w.heap.size, n, none⟩ := fun n => h.cell (by show w.heap.size < _; omega)
  have k1 : ∀ n, W.cell? ⟨w.heap.size + 1, n, none⟩ = W0.cell? ⟨w.heap.size + 1, n, none⟩ := fun n => h.cell (by show w.heap.size + 1 < _; omega)
  refine ⟨⟨(k0 0).trans a0, (k0 1).trans a1, (k0 2).trans a2, (k0 3).trans a3⟩, ?_, ?_, ?_, ?_⟩ <;> (rw [k1]; simp [World.cell?, hh])

theorem wpOp_of_g {P : Program} {ops : Array Oper} {Q : Exit → Act → World → Prop} {i : Nat} {K : Act → World → Prop} {a : Act} {w : World} (o : Oper) (ho : ops[i]? = some o) (j : Nat) (b : Bool) (hg : o.guard = some (j, b)) (d : Nat) (hd : (ops[j]?).bind (·.dst) = some d) (hy : a.eval (.tmp d) = .bool b) (h : o.wp P a w K Q) : wpOp P ops Q i K a w := by
  unfold wpOp
  rw [ho]
  have : yielded ops a.tmps j = some b := by
    unfold yielded
    rw [hd]
    simp only [Act.eval, Array.getD_eq_getD_getElem?] at hy
    simp only [Option.bind_some]
    cases e : a.tmps[d]? with
    | none => rw [e] at hy; cases hy
    | some v => rw [e] at hy; simp only [Option.getD_some] at hy; rw [hy]
  simp only [Region.wanted, hg, this, beq_self_eq_true, if_true]
  exact .inl h
theorem wp_enter {P : Program} {Q : Exit → Act → World → Prop} {K : Act → World → Prop} {a : Act} {w : World} {o : Oper} (f : FuncId) (args : Array Value) (h : (execOp a.eval o).run P w = .ok (.enter f args) w) (hc : Calls P f args w fun e w' => ∃ v, e = .returned v ∧ K (a.put o.dst v) w') : o.wp P a w K Q := by
  unfold Oper.wp
  rw [h]
  refine hc.mono ?_
  rintro e w' ⟨v, rfl, hk⟩
  exact hk
theorem r_ld28 (ρ : Operand → Value) (o : Oper) (x : Operand) (ho : o.op = Op.load 28 x) (wr : World) (N : Nat) (v0 v1 v2 v3 : Value) (h : ρ x = .pointer (some ⟨N, 0, none⟩)) (h0 : wr.cell? ⟨N, 0, none⟩ = some v0) (h1 : wr.cell? ⟨N, 1, none⟩ = some v1) (h2 : wr.cell? ⟨N, 2, none⟩ = some v2) (h3 : wr.cell? ⟨N, 3, none⟩ = some v3) :
    (execOp ρ o).run Tryz.prog wr = .ok (.value (.agg #[v0, v1, v2, v3])) wr := by
  unfold execOp
  rw [ho]
  go_simp
theorem r_callFunc {f : FuncId} {fn : Func} (hf : Tryz.prog.funcs[f]? = some fn) (hn : (fn.name == "runtime.NumGoroutine") = false) (hb : fn.body.isNone = false) (args : Array Value) (w : World) : Sem.run Tryz.prog (callFunc f args) w = .ok (.enter f args) w := by
  unfold callFunc
  have hn' : ¬ fn.name = "runtime.NumGoroutine" := by simpa using hn
  have hb' : ¬ fn.body = none := by intro e; rw [e] at hb; cases hb
  simp [hf, hn', hb']
theorem r_call1 (ρ : Operand → Value) (o : Oper) (f : FuncId) (x : Operand) (t : Array TypeId) (ho : o.op = Op.call { callee := Callee.value (Operand.func f), args := #[x], argTypes := t }) (wr : World) (hρ : ρ (.func f) = .func (.func f) #[] #[]) (hc : ∀ args, Sem.run Tryz.prog (callFunc f args) wr = .ok (.enter f args) wr) : (execOp ρ o).run Tryz.prog wr = .ok (.enter f #[ρ x]) wr := by
  unfold execOp
  rw [ho]
  go_simp
theorem r_call2 (ρ : Operand → Value) (o : Oper) (f : FuncId) (x y : Operand) (t : Array TypeId) (ho : o.op = Op.call { callee := Callee.value (Operand.func f), args := #[x, y], argTypes := t }) (wr : World) (hρ : ρ (.func f) = .func (.func f) #[] #[]) (hc : ∀ args, Sem.run Tryz.prog (callFunc f args) wr = .ok (.enter f args) wr) : (execOp ρ o).run Tryz.prog wr = .ok (.enter f #[ρ x, ρ y]) wr := by
  unfold execOp
  rw [ho]
  go_simp
theorem r_eql4 (ρ : Operand → Value) (o : Oper) (x y : Operand) (ho : o.op = Op.binOp BinOp.eql 4 x y 4) (wr : World) (p q : Bool) (hx : ρ x = .bool p) (hy : ρ y = .bool q) : (execOp ρ o).run Tryz.prog wr = .ok (.value (.bool (p == q))) wr := by
  unfold execOp
  rw [ho]
  go_simp
theorem r_move (ρ : Operand → Value) (o : Oper) (x : Operand) (ho : o.op = Op.move x) (wr : World) : (execOp ρ o).run Tryz.prog wr = .ok (.value (ρ x)) wr := by
  unfold execOp
  rw [ho]
  go_simp
theorem r_assign (ρ : Operand → Value) (o : Oper) (x : Operand) (ho : o.op = Op.assign x) (wr : World) : (execOp ρ o).run Tryz.prog wr = .ok (.value (ρ x)) wr := by
  unfold execOp
  rw [ho]
  go_simp
theorem r_pick (ρ : Operand → Value) (o : Oper) (c x y : Operand) (b : Bool) (ho : o.op = Op.pick c x y) (hc : ρ c = .bool b) (wr : World) : (execOp ρ o).run Tryz.prog wr = .ok (.value (if b then ρ x else ρ y)) wr := by
  unfold execOp
  rw [ho]
  go_simp

/-- what operation j of the law's drawn region has left -/
def SameR (N : Nat) (o : ObjV) (va vb : Value) (q : Bool) (j : Nat) (a : Act) (w : World) : Prop :=
  match j with
  | 0 => a.eval (.tmp 18) = va
  | 1 => a.eval (.tmp 19) = vb
  | 2 => a.eval (.tmp 20) = .bool q
  | 3 => a.eval (.tmp 21) = va
  | 4 => a.eval (.tmp 22) = vb
  | 5 => a.eval (.tmp 23) = .bool q
  | 6 => a.eval (.tmp 24) = .bool true
  | 7 => a.eval (.tmp 25) = .bool true
  | 8 => a.eval (.tmp 26) = va
  | 9 => a.eval (.tmp 27) = va
  | 10 => ∃ v', a.eval (.tmp 28) = v' ∧ Holds N w v' o
  | 11 => a.eval (.tmp 29) = .bool true
  | 12 => a.eval (.tmp 30) = .bool true
  | _ => a.eval (.tmp 4) = .bool true
def SameD (j : Nat) : Nat := if j = 13 then 4 else j + 18
structure SameBase (N : Nat) (w1 : World) (a : Act) (w : World) : Prop where
  size : a.tmps.size = 31
  defers : a.defers = []
  t2 : a.eval (.tmp 2) = .pointer (some ⟨N, 0, none⟩)
  t3 : a.eval (.tmp 3) = .pointer (some ⟨N + 1, 0, none⟩)
  below : Below w1.heap.size w1 w
theorem SameR.keep {N : Nat} {o : ObjV} {va vb : Value} {q : Bool} {j : Nat} {a a' : Act} {w w' : World} (hj : j < 14) (he : a'.eval (.tmp (SameD j)) = a.eval (.tmp (SameD j))) (hb : Below w.heap.size w w') (h : SameR N o va vb q j a w) : SameR N o va vb q j a' w' := by
  have hj' : j = 0 ∨ j = 1 ∨ j = 2 ∨ j = 3 ∨ j = 4 ∨ j = 5 ∨ j = 6 ∨ j = 7 ∨ j = 8 ∨ j = 9 ∨ j = 10 ∨ j = 11 ∨ j = 12 ∨ j = 13 := by omega
  rcases hj' with rfl | rfl | rfl | rfl | rfl | rfl | rfl | rfl | rfl | rfl | rfl | rfl | rfl | rfl
  case inr.inr.inr.inr.inr.inr.inr.inr.inr.inr.inl =>
    obtain ⟨v', h1, h2⟩ := h
    exact ⟨v', he.trans h1, h2.step hb⟩
  all_goals exact he.trans h
theorem same_step {N : Nat} {o : ObjV} {va vb : Value} {q : Bool} {w1 : World} {a : Act} {w w' : World} {v : Value} (i : Nat) (hi : i < 14) (hB : SameBase N w1 a w) (hw : Below w.heap.size w w') (hR : SameR N o va vb q i (a.put (some (SameD i)) v) w') :
    SameBase N w1 (a.put (some (SameD i)) v) w' ∧ SameR N o va vb q i (a.put (some (SameD i)) v) w' ∧ ∀ j, j < 14 → j ≠ i → j ≠ 13 → SameR N o va vb q j a w → SameR N o va vb q j (a.put (some (SameD i)) v) w' := by
  have hsz := hB.size
  have hlt : SameD i < a.tmps.size := by unfold SameD; split <;> omega
  have h4 : 4 ≤ SameD i := by unfold SameD; split <;> omega
  refine ⟨⟨by simpa [Act.put] using hsz, by simpa [Act.put] using hB.defers, ?_, ?_, hB.below.trans (hw.mono hB.below.size)⟩, hR, fun j hj hji _ h => ?_⟩
  · rw [eval_put _ _ _ _ hlt, if_neg (by omega)]; exact hB.t2
  · rw [eval_put _ _ _ _ hlt, if_neg (by omega)]; exact hB.t3
  · refine SameR.keep hj ?_ hw h
    rw [eval_put _ _ _ _ hlt, if_neg ?_]
    unfold SameD
    split <;> split <;> omega
theorem put_same {a : Act} {d : Nat} {v : Value} (h : d < a.tmps.size) : (a.put (some d) v).eval (.tmp d) = v := by rw [eval_put _ _ _ _ h, if_pos rfl]

theorem Holds.mono {B B' : Nat} {w : World} {v : Value} {o : ObjV} (h : Holds B w v o) (hB : B' ≤ B) : Holds B' w v o := by
  obtain ⟨a0, a1, a2, a3, c0, c1, c2, c3, rfl, h0, h1, h2, h3⟩ := h
  exact ⟨a0, a1, a2, a3, c0, c1, c2, c3, rfl, h0.mono hB, h1.mono hB, h2.mono hB, h3.mono hB⟩
theorem at_call22 (args : Array Value) (w : World) : Sem.run Tryz.prog (callFunc 22 args) w = .ok (.enter 22 args) w := r_callFunc Tryz.func22 (by kernel_rfl) (by kernel_rfl) args w
theorem at_call13 (args : Array Value) (w : World) : Sem.run Tryz.prog (callFunc 13 args) w = .ok (.enter 13 args) w := r_callFunc Tryz.func13 (by kernel_rfl) (by kernel_rfl) args w
theorem at_call19 (args : Array Value) (w : World) : Sem.run Tryz.prog (callFunc 19 args) w = .ok (.enter 19 args) w := r_callFunc Tryz.func19 (by kernel_rfl) (by kernel_rfl) args w

set_option maxRecDepth 100000 in
theorem objSame_walk (B1 B2 : Nat) (o p : ObjV) (va vb : Value) (m : Int) (w : World) (ha : Holds B1 w va o) (hb : Holds B2 w vb p) (ho : ∀ x ∈ o.data, 0 ≤ x ∧ x < 256) (hp : ∀ x ∈ p.data, 0 ≤ x ∧ x < 256)
    (hm : w.cell? ⟨0, 0, none⟩ = some (.int .i64 m)) (hT : Tab w) (hw : 1 < w.heap.size) :
    Calls Tryz.prog 7 #[va, vb] w fun e w' => e = .returned (.bool true) ∧ Below w.heap.size w w' := by
  have HA := Pack.mk ha
  have HB := Pack.mk hb
  obtain ⟨a0, a1, a2, a3, c0, c1, c2, c3, rfl, -⟩ := ha
  obtain ⟨b0, b1, b2, b3, d0, d1, d2, d3, rfl, -⟩ := hb
  have CA : Pack (∀ W, Below w.heap.size w W → Calls Tryz.prog 10 #[] W fun e w' => e = .returned (.bool true) ∧ Below W.heap.size W w') := ⟨fun W h =>
    awake_calls m W ((h.cell (by show 0 < _; omega)).trans hm) (tab_below tabN (by omega) h hT) (by have := h.size; omega)⟩
  have CF : Pack (∀ W, Below w.heap.size w W → Calls Tryz.prog 17 #[.agg #[.slice a0 o.text.length c0, .slice a1 o.data.length c1, .slice a2 o.syms.length c2, .slice a3 o.rels.length c3]] W fun e w' => e = .returned (.bool (few o)) ∧ Below W.heap.size W w') := ⟨fun W h => few_calls _ _ _ W (HA.out.step h)⟩
  have CG : Pack (∀ W, Below w.heap.size w W → Calls Tryz.prog 17 #[.agg #[.slice b0 p.text.length d0, .slice b1 p.data.length d1, .slice b2 p.syms.length d2, .slice b3 p.rels.length d3]] W fun e w' => e = .returned (.bool (few p)) ∧ Below W.heap.size W w') := ⟨fun W h => few_calls _ _ _ W (HB.out.step h)⟩
  have D := Pack.mk (And.intro ho hp)
  clear hm hT hw ho hp
  go_enter Tryz.func7, Tryz.ntmps7
  go_wp2_with fail
  have hb0 : Pack (Below w.heap.size w ((w.alloc (.cells #[.slice a0 o.text.length c0, .slice a1 o.data.length c1, .slice a2 o.syms.length c2, .slice a3 o.rels.length c3] 28)).alloc (.cells #[.slice b0 p.text.length d0, .slice b1 p.data.length d1, .slice b2 p.syms.length d2, .slice b3 p.rels.length d3] 28))) := ⟨((Below.refl _ w).alloc (Nat.le_refl _) _).alloc (by simp) _⟩
  refine (CA.out _ hb0.out).mono ?_
  rintro e w1 ⟨rfl, h1⟩
  have S1 := Pack.mk h1
  have N1 := Pack.mk (below_step hb0.out h1)
  obtain ⟨⟨x0, x1, x2, x3⟩, y0, y1, y2, y3⟩ := two_boxes w _ _ _ _ _ _ _ _ _ w1 h1
  clear h1
  go_wp2_with fail
  refine (CF.out _ N1.out).mono ?_
  rintro e w2 ⟨rfl, h2⟩
  have S2 := Pack.mk (below_step S1.out h2)
  have N2 := Pack.mk (below_step N1.out h2)
  clear x0 x1 x2 x3 y0 y1 y2 y3 h2
  obtain ⟨⟨x0, x1, x2, x3⟩, y0, y1, y2, y3⟩ := two_boxes w _ _ _ _ _ _ _ _ _ w2 S2.out
  generalize hf : few o = f
  cases f with
  | false =>
    clear hf
    go_wp2_with fail
    refine (CA.out _ N2.out).mono ?_
    rintro e w3 ⟨rfl, h3⟩
    have N3 := Pack.mk (below_step N2.out h3)
    clear h3
    go_wp2
    go_ret
    exact ⟨rfl, N3.out⟩
  | true =>
  have F := Pack.mk hf
  clear hf
  go_wp2_with fail
  refine (CG.out _ N2.out).mono ?_
  rintro e w3 ⟨rfl, h3⟩
  have S3 := Pack.mk (below_step S2.out h3)
  have N3 := Pack.mk (below_step N2.out h3)
  clear x0 x1 x2 x3 y0 y1 y2 y3 h3
  obtain ⟨⟨x0, x1, x2, x3⟩, y0, y1, y2, y3⟩ := two_boxes w _ _ _ _ _ _ _ _ _ w3 S3.out
  generalize hf : few p = f
  cases f with
  | false =>
    clear hf
    go_wp2_with fail
    refine (CA.out _ N3.out).mono ?_
    rintro e w4 ⟨rfl, h4⟩
    have N4 := Pack.mk (below_step N3.out h4)
    clear h4
    go_wp2
    go_ret
    exact ⟨rfl, N4.out⟩
  | true =>
  have G := Pack.mk hf
  clear hf
  have XY := Pack.mk (And.intro (And.intro x0 (And.intro x1 (And.intro x2 x3))) (And.intro y0 (And.intro y1 (And.intro y2 y3))))
  clear x0 x1 x2 x3 y0 y1 y2 y3
  have SZ : Pack (w.heap.size + 2 ≤ w3.heap.size) := ⟨Nat.le_trans (by simp) S3.out.size⟩
  go_wp2_with fail
  rename_i Kx hKx
  have MO : Pack (Small o) := ⟨by have := F.out; simp only [few, Bool.and_eq_true, decide_eq_true_iff] at this; exact this.1⟩
  have MB : Pack (o.text.length ≤ 140737488355328 ∧ o.data.length ≤ 140737488355328 ∧ o.syms.length ≤ 140737488355328 ∧ o.rels.length ≤ 140737488355328) := ⟨by obtain ⟨q0, q1, q2, q3⟩ := MO.out; omega⟩
  refine wp_region_good (by kernel_rfl) 14 13 rfl (fun i o ho e he => (chkEdges_sound (by kernel_rfl) i o ho e he).1) (fun i o ho e he => (chkEdges_sound (by kernel_rfl) i o ho e he).2) (SameR w.heap.size o (.agg #[.slice a0 o.text.length c0, .slice a1 o.data.length c1, .slice a2 o.syms.length c2, .slice a3 o.rels.length c3]) (.agg #[.slice b0 p.text.length d0, .slice b1 p.data.length d1, .slice b2 p.syms.length d2, .slice b3 p.rels.length d3]) (decide (o = p))) (SameBase w.heap.size w3) (fun g hc hl i hi => chkLast_sound (by kernel_rfl) g hc hl i hi) ?hB ?hstep ?hend
  case hB => exact ⟨rfl, rfl, rfl, rfl, (Below.refl _ _).drew⟩
  case hstep =>
    intro i hi a wr hB hd
    have hi' : i = 0 ∨ i = 1 ∨ i = 2 ∨ i = 3 ∨ i = 4 ∨ i = 5 ∨ i = 6 ∨ i = 7 ∨ i = 8 ∨ i = 9 ∨ i = 10 ∨ i = 11 ∨ i = 12 ∨ i = 13 := by omega
    clear hi
    have hbw : Below w.heap.size w wr := N3.out.trans (hB.below.mono N3.out.size)
    have hin1 : ∀ {n : Nat}, (⟨w.heap.size, n, none⟩ : Addr).block < w3.heap.size := fun {n} => by show w.heap.size < _; have := SZ.out; omega
    have hin2 : ∀ {n : Nat}, (⟨w.heap.size + 1, n, none⟩ : Addr).block < w3.heap.size := fun {n} => by show w.heap.size + 1 < _; have := SZ.out; omega
    rcases hi' with rfl | rfl | rfl | rfl | rfl | rfl | rfl | rfl | rfl | rfl | rfl | rfl | rfl | rfl
    · refine wpOp_of _ rfl rfl ?_
      refine wp_value _ _ (r_ld28 _ _ _ rfl wr _ _ _ _ _ hB.t2 ((hB.below.cell hin1).trans XY.out.1.1) ((hB.below.cell hin1).trans XY.out.1.2.1) ((hB.below.cell hin1).trans XY.out.1.2.2.1) ((hB.below.cell hin1).trans XY.out.1.2.2.2)) (same_step 0 (by omega) hB (Below.refl _ _) (put_same (by rw [hB.size]; decide)))
    · refine wpOp_of _ rfl rfl ?_
      refine wp_value _ _ (r_ld28 _ _ _ rfl wr _ _ _ _ _ hB.t3 ((hB.below.cell hin2).trans XY.out.2.1) ((hB.below.cell hin2).trans XY.out.2.2.1) ((hB.below.cell hin2).trans XY.out.2.2.2.1) ((hB.below.cell hin2).trans XY.out.2.2.2.2)) (same_step 1 (by omega) hB (Below.refl _ _) (put_same (by rw [hB.size]; decide)))
    · have u1 : SameR w.heap.size o (.agg #[.slice a0 o.text.length c0, .slice a1 o.data.length c1, .slice a2 o.syms.length c2, .slice a3 o.rels.length c3]) (.agg #[.slice b0 p.text.length d0, .slice b1 p.data.length d1, .slice b2 p.syms.length d2, .slice b3 p.rels.length d3]) (decide (o = p)) 0 a wr := hd _ rfl ⟨0, .data⟩ (by simp)
      have u2 : SameR w.heap.size o (.agg #[.slice a0 o.text.length c0, .slice a1 o.data.length c1, .slice a2 o.syms.length c2, .slice a3 o.rels.length c3]) (.agg #[.slice b0 p.text.length d0, .slice b1 p.data.length d1, .slice b2 p.syms.length d2, .slice b3 p.rels.length d3]) (decide (o = p)) 1 a wr := hd _ rfl ⟨1, .data⟩ (by simp)
      refine wpOp_of _ rfl rfl ?_
      refine wp_enter _ _ (r_call2 _ _ _ _ _ _ rfl wr rfl (fun args => at_call22 args wr)) ?_
      rw [show a.eval (.tmp 18) = _ from u1, show a.eval (.tmp 19) = _ from u2]
      refine (same_calls _ _ o p _ _ wr (HA.out.step hbw) (HB.out.step hbw) MB.out).mono ?_
      rintro e w' ⟨rfl, hb⟩
      exact ⟨_, rfl, same_step 2 (by omega) hB hb (put_same (by rw [hB.size]; decide))⟩
    · refine wpOp_of _ rfl rfl ?_
      refine wp_value _ _ (r_ld28 _ _ _ rfl wr _ _ _ _ _ hB.t2 ((hB.below.cell hin1).trans XY.out.1.1) ((hB.below.cell hin1).trans XY.out.1.2.1) ((hB.below.cell hin1).trans XY.out.1.2.2.1) ((hB.below.cell hin1).trans XY.out.1.2.2.2)) (same_step 3 (by omega) hB (Below.refl _ _) (put_same (by rw [hB.size]; decide)))
    · refine wpOp_of _ rfl rfl ?_
      refine wp_value _ _ (r_ld28 _ _ _ rfl wr _ _ _ _ _ hB.t3 ((hB.below.cell hin2).trans XY.out.2.1) ((hB.below.cell hin2).trans XY.out.2.2.1) ((hB.below.cell hin2).trans XY.out.2.2.2.1) ((hB.below.cell hin2).trans XY.out.2.2.2.2)) (same_step 4 (by omega) hB (Below.refl _ _) (put_same (by rw [hB.size]; decide)))
    · have u1 : SameR w.heap.size o (.agg #[.slice a0 o.text.length c0, .slice a1 o.data.length c1, .slice a2 o.syms.length c2, .slice a3 o.rels.length c3]) (.agg #[.slice b0 p.text.length d0, .slice b1 p.data.length d1, .slice b2 p.syms.length d2, .slice b3 p.rels.length d3]) (decide (o = p)) 3 a wr := hd _ rfl ⟨3, .data⟩ (by simp)
      have u2 : SameR w.heap.size o (.agg #[.slice a0 o.text.length c0, .slice a1 o.data.length c1, .slice a2 o.syms.length c2, .slice a3 o.rels.length c3]) (.agg #[.slice b0 p.text.length d0, .slice b1 p.data.length d1, .slice b2 p.syms.length d2, .slice b3 p.rels.length d3]) (decide (o = p)) 4 a wr := hd _ rfl ⟨4, .data⟩ (by simp)
      refine wpOp_of _ rfl rfl ?_
      refine wp_enter _ _ (r_call2 _ _ _ _ _ _ rfl wr rfl (fun args => at_call13 args wr)) ?_
      rw [show a.eval (.tmp 21) = _ from u1, show a.eval (.tmp 22) = _ from u2]
      refine (refSame_calls _ _ o p _ _ wr (HA.out.step hbw) (HB.out.step hbw) MB.out D.out.1 D.out.2).mono ?_
      rintro e w' ⟨rfl, hb⟩
      exact ⟨_, rfl, same_step 5 (by omega) hB hb (put_same (by rw [hB.size]; decide))⟩
    · have u1 : SameR w.heap.size o (.agg #[.slice a0 o.text.length c0, .slice a1 o.data.length c1, .slice a2 o.syms.length c2, .slice a3 o.rels.length c3]) (.agg #[.slice b0 p.text.length d0, .slice b1 p.data.length d1, .slice b2 p.syms.length d2, .slice b3 p.rels.length d3]) (decide (o = p)) 2 a wr := hd _ rfl ⟨2, .data⟩ (by simp)
      have u2 : SameR w.heap.size o (.agg #[.slice a0 o.text.length c0, .slice a1 o.data.length c1, .slice a2 o.syms.length c2, .slice a3 o.rels.length c3]) (.agg #[.slice b0 p.text.length d0, .slice b1 p.data.length d1, .slice b2 p.syms.length d2, .slice b3 p.rels.length d3]) (decide (o = p)) 5 a wr := hd _ rfl ⟨5, .data⟩ (by simp)
      refine wpOp_of _ rfl rfl ?_
      refine wp_value _ _ (r_eql4 _ _ _ _ rfl wr _ _ u1 u2) (same_step 6 (by omega) hB (Below.refl _ _) ((put_same (by rw [hB.size]; decide)).trans (by simp)))
    · have u1 : SameR w.heap.size o (.agg #[.slice a0 o.text.length c0, .slice a1 o.data.length c1, .slice a2 o.syms.length c2, .slice a3 o.rels.length c3]) (.agg #[.slice b0 p.text.length d0, .slice b1 p.data.length d1, .slice b2 p.syms.length d2, .slice b3 p.rels.length d3]) (decide (o = p)) 6 a wr := hd _ rfl ⟨6, .data⟩ (by simp)
      refine wpOp_of _ rfl rfl ?_
      refine wp_value _ _ (r_move _ _ _ rfl wr) (same_step 7 (by omega) hB (Below.refl _ _) ((put_same (by rw [hB.size]; decide)).trans u1))
    · have g7 : SameR w.heap.size o (.agg #[.slice a0 o.text.length c0, .slice a1 o.data.length c1, .slice a2 o.syms.length c2, .slice a3 o.rels.length c3]) (.agg #[.slice b0 p.text.length d0, .slice b1 p.data.length d1, .slice b2 p.syms.length d2, .slice b3 p.rels.length d3]) (decide (o = p)) 7 a wr := hd _ rfl ⟨7, .guard⟩ (by simp)
      refine wpOp_of_g _ rfl 7 true rfl 25 rfl g7 ?_
      refine wp_value _ _ (r_ld28 _ _ _ rfl wr _ _ _ _ _ hB.t2 ((hB.below.cell hin1).trans XY.out.1.1) ((hB.below.cell hin1).trans XY.out.1.2.1) ((hB.below.cell hin1).trans XY.out.1.2.2.1) ((hB.below.cell hin1).trans XY.out.1.2.2.2)) (same_step 8 (by omega) hB (Below.refl _ _) (put_same (by rw [hB.size]; decide)))
    · have g7 : SameR w.heap.size o (.agg #[.slice a0 o.text.length c0, .slice a1 o.data.length c1, .slice a2 o.syms.length c2, .slice a3 o.rels.length c3]) (.agg #[.slice b0 p.text.length d0, .slice b1 p.data.length d1, .slice b2 p.syms.length d2, .slice b3 p.rels.length d3]) (decide (o = p)) 7 a wr := hd _ rfl ⟨7, .guard⟩ (by simp)
      refine wpOp_of_g _ rfl 7 true rfl 25 rfl g7 ?_
      refine wp_value _ _ (r_ld28 _ _ _ rfl wr _ _ _ _ _ hB.t2 ((hB.below.cell hin1).trans XY.out.1.1) ((hB.below.cell hin1).trans XY.out.1.2.1) ((hB.below.cell hin1).trans XY.out.1.2.2.1) ((hB.below.cell hin1).trans XY.out.1.2.2.2)) (same_step 9 (by omega) hB (Below.refl _ _) (put_same (by rw [hB.size]; decide)))
    · have g7 : SameR w.heap.size o (.agg #[.slice a0 o.text.length c0, .slice a1 o.data.length c1, .slice a2 o.syms.length c2, .slice a3 o.rels.length c3]) (.agg #[.slice b0 p.text.length d0, .slice b1 p.data.length d1, .slice b2 p.syms.length d2, .slice b3 p.rels.length d3]) (decide (o = p)) 7 a wr := hd _ rfl ⟨7, .guard⟩ (by simp)
      have u1 : SameR w.heap.size o (.agg #[.slice a0 o.text.length c0, .slice a1 o.data.length c1, .slice a2 o.syms.length c2, .slice a3 o.rels.length c3]) (.agg #[.slice b0 p.text.length d0, .slice b1 p.data.length d1, .slice b2 p.syms.length d2, .slice b3 p.rels.length d3]) (decide (o = p)) 9 a wr := hd _ rfl ⟨9, .data⟩ (by simp)
      refine wpOp_of_g _ rfl 7 true rfl 25 rfl g7 ?_
      refine wp_enter _ _ (r_call1 _ _ _ _ _ rfl wr rfl (fun args => at_call19 args wr)) ?_
      rw [show a.eval (.tmp 27) = _ from u1]
      refine (own_calls _ o _ wr (HA.out.step hbw) MO.out.1 MO.out.2.1 MO.out.2.2.1 MO.out.2.2.2).mono ?_
      rintro e w' ⟨v', rfl, hh, hb⟩
      exact ⟨_, rfl, same_step 10 (by omega) hB hb ⟨v', put_same (by rw [hB.size]; decide), hh.mono hbw.size⟩⟩
    · have g7 : SameR w.heap.size o (.agg #[.slice a0 o.text.length c0, .slice a1 o.data.length c1, .slice a2 o.syms.length c2, .slice a3 o.rels.length c3]) (.agg #[.slice b0 p.text.length d0, .slice b1 p.data.length d1, .slice b2 p.syms.length d2, .slice b3 p.rels.length d3]) (decide (o = p)) 7 a wr := hd _ rfl ⟨7, .guard⟩ (by simp)
      have u1 : SameR w.heap.size o (.agg #[.slice a0 o.text.length c0, .slice a1 o.data.length c1, .slice a2 o.syms.length c2, .slice a3 o.rels.length c3]) (.agg #[.slice b0 p.text.length d0, .slice b1 p.data.length d1, .slice b2 p.syms.length d2, .slice b3 p.rels.length d3]) (decide (o = p)) 8 a wr := hd _ rfl ⟨8, .data⟩ (by simp)
      have u2 : SameR w.heap.size o (.agg #[.slice a0 o.text.length c0, .slice a1 o.data.length c1, .slice a2 o.syms.length c2, .slice a3 o.rels.length c3]) (.agg #[.slice b0 p.text.length d0, .slice b1 p.data.length d1, .slice b2 p.syms.length d2, .slice b3 p.rels.length d3]) (decide (o = p)) 10 a wr := hd _ rfl ⟨10, .data⟩ (by simp)
      obtain ⟨v', u2, hv'⟩ := u2
      refine wpOp_of_g _ rfl 7 true rfl 25 rfl g7 ?_
      refine wp_enter _ _ (r_call2 _ _ _ _ _ _ rfl wr rfl (fun args => at_call22 args wr)) ?_
      rw [show a.eval (.tmp 26) = _ from u1, u2]
      refine (same_calls _ _ o o _ _ wr (HA.out.step hbw) hv' MB.out).mono ?_
      rintro e w' ⟨rfl, hb⟩
      exact ⟨_, rfl, same_step 11 (by omega) hB hb ((put_same (by rw [hB.size]; decide)).trans (by simp))⟩
    · have u1 : SameR w.heap.size o (.agg #[.slice a0 o.text.length c0, .slice a1 o.data.length c1, .slice a2 o.syms.length c2, .slice a3 o.rels.length c3]) (.agg #[.slice b0 p.text.length d0, .slice b1 p.data.length d1, .slice b2 p.syms.length d2, .slice b3 p.rels.length d3]) (decide (o = p)) 7 a wr := hd _ rfl ⟨7, .data⟩ (by simp)
      have u2 : SameR w.heap.size o (.agg #[.slice a0 o.text.length c0, .slice a1 o.data.length c1, .slice a2 o.syms.length c2, .slice a3 o.rels.length c3]) (.agg #[.slice b0 p.text.length d0, .slice b1 p.data.length d1, .slice b2 p.syms.length d2, .slice b3 p.rels.length d3]) (decide (o = p)) 11 a wr := hd _ rfl ⟨11, .data⟩ (by simp)
      refine wpOp_of _ rfl rfl ?_
      refine wp_value _ _ (r_pick _ _ _ _ _ true rfl u1 wr) (same_step 12 (by omega) hB (Below.refl _ _) ((put_same (by rw [hB.size]; decide)).trans ((if_pos rfl).trans u2)))
    · have u1 : SameR w.heap.size o (.agg #[.slice a0 o.text.length c0, .slice a1 o.data.length c1, .slice a2 o.syms.length c2, .slice a3 o.rels.length c3]) (.agg #[.slice b0 p.text.length d0, .slice b1 p.data.length d1, .slice b2 p.syms.length d2, .slice b3 p.rels.length d3]) (decide (o = p)) 12 a wr := hd _ rfl ⟨12, .data⟩ (by simp)
      refine wpOp_of _ rfl rfl ?_
      refine wp_value _ _ (r_assign _ _ _ rfl wr) (same_step 13 (by omega) hB (Below.refl _ _) ((put_same (by rw [hB.size]; decide)).trans u1))
  case hend =>
    intro a wr hB hR
    have h13 : a.eval (.tmp 4) = .bool true := hR 13 (by omega)
    refine hKx _ _ ?_
    refine wp_ret ?_
    refine bodyPost_ret (results_tmp (fn := Tryz.f7) rfl _ _ _) hB.defers ?_
    exact ⟨by rw [show a.tmps.getD 4 undef = _ from h13], N3.out.trans (hB.below.mono N3.out.size)⟩
end Go.Proofs.YtgcpnjckbdajbaaGreatDoor.Ob
