import Derived.Test.YtgcpnjckbdajbaaGreatDoorPJ
import Derived.Test.YtgcpnjckbdajbaaGreatDoorPK
import Derived.Test.YtgcpnjckbdajbaaGreatDoorPL
import Derived.Test.YtgcpnjckbdajbaaGreatDoorOJ
namespace Go.Proofs.YtgcpnjckbdajbaaGreatDoor.Ob
open Go.RowKit Go.Sort

theorem at_call40 (args : Array Value) (w : World) : Sem.run Tryz.prog (callFunc 40 args) w = .ok (.enter 40 args) w := r_callFunc Tryz.func40 (by kernel_rfl) (by kernel_rfl) args w
theorem r_sl83 (ρ : Operand → Value) (o : Oper) (x : Operand) (ho : o.op = Op.slice 83 x none none none) (wr : World) (b : Nat) (h : ρ x = .pointer (some ⟨b, 0, none⟩)) : (execOp ρ o).run Tryz.prog wr = .ok (.value (.slice (some ⟨b, 0, none⟩) 2 2)) wr := by
  unfold execOp
  rw [ho]
  go_simp
theorem r_ltz (ρ : Operand → Value) (o : Oper) (x : Operand) (ho : o.op = Op.binOp BinOp.lss 3 x (Operand.const (Value.int IntKind.i64 0)) 3) (hc : ρ (Operand.const (Value.int IntKind.i64 0)) = .int .i64 0) (wr : World) (n : Int) (hx : ρ x = .int .i64 n) : (execOp ρ o).run Tryz.prog wr = .ok (.value (.bool (decide (n < 0)))) wr := by
  unfold execOp
  rw [ho]
  go_simp
def CmpR (b6 b9 : Nat) (x y z v : Int) (j : Nat) (a : Act) (_w : World) : Prop :=
  match j with
  | 0 => a.eval (.tmp 82) = .slice (some ⟨b6, 0, none⟩) 2 2
  | 1 => a.eval (.tmp 83) = .slice (some ⟨b9, 0, none⟩) 2 2
  | 2 => a.eval (.tmp 84) = .int .i64 (cmpPair x y z v)
  | 3 => a.eval (.tmp 85) = .bool (decide (cmpPair x y z v < 0))
  | _ => False
structure CmpBase (a0 : Act) (b6 b9 : Nat) (w1 : World) (a : Act) (w : World) : Prop where
  size : a.tmps.size = 114
  defers : a.defers = a0.defers
  t6 : a.eval (.tmp 6) = .pointer (some ⟨b6, 0, none⟩)
  t9 : a.eval (.tmp 9) = .pointer (some ⟨b9, 0, none⟩)
  t2 : a.eval (.tmp 2) = a0.eval (.tmp 2)
  still : Still w1 w
theorem cmp_step {a0 : Act} {b6 b9 : Nat} {x y z v : Int} {w1 : World} {a : Act} {w : World} {u : Value} (i : Nat) (hi : i < 5) (hB : CmpBase a0 b6 b9 w1 a w) (hR : CmpR b6 b9 x y z v i (a.put (some (i + 82)) u) w) :
    CmpBase a0 b6 b9 w1 (a.put (some (i + 82)) u) w ∧ CmpR b6 b9 x y z v i (a.put (some (i + 82)) u) w ∧ ∀ j, j < 5 → j ≠ i → j ≠ 4 → CmpR b6 b9 x y z v j a w → CmpR b6 b9 x y z v j (a.put (some (i + 82)) u) w := by
  have hsz := hB.size
  have hlt : i + 82 < a.tmps.size := by omega
  refine ⟨⟨by simpa [Act.put] using hsz, by simpa [Act.put] using hB.defers, ?_, ?_, ?_, hB.still⟩, hR, fun j hj hji hj4 h => ?_⟩
  · rw [eval_put _ _ _ _ hlt, if_neg (by omega)]; exact hB.t6
  · rw [eval_put _ _ _ _ hlt, if_neg (by omega)]; exact hB.t9
  · rw [eval_put _ _ _ _ hlt, if_neg (by omega)]; exact hB.t2
  · have hj' : j = 0 ∨ j = 1 ∨ j = 2 ∨ j = 3 := by omega
    have he : (a.put (some (i + 82)) u).eval (.tmp (j + 82)) = a.eval (.tmp (j + 82)) := by rw [eval_put _ _ _ _ hlt, if_neg (by omega)]
    rcases hj' with rfl | rfl | rfl | rfl <;> exact he.trans h
set_option maxRecDepth 100000 in
/-- where the places do not rise -/
theorem cmp_no {Q : Exit → Act → World → Prop} {id : Nat} (b6 b9 : Nat) (x y z v : Int) (a0 : Act) (w1 : World) (ops : Array Oper) (hops : ops = #[{ dst := some 82, op := Op.slice 83 (Operand.tmp 6) none none none, type := 62, pos := "obj.go:51", after := #[], guard := none }, { dst := some 83, op := Op.slice 83 (Operand.tmp 9) none none none, type := 62, pos := "obj.go:51", after := #[], guard := none }, { dst := some 84, op := Op.call { callee := Callee.value (Operand.func 40), args := #[Operand.tmp 82, Operand.tmp 83], argTypes := #[62, 62] }, type := 3, pos := "obj.go:51", after := #[{ on := 0, ground := Ground.data }, { on := 1, ground := Ground.data }], guard := none }, { dst := some 85, op := Op.binOp BinOp.lss 3 (Operand.tmp 84) (Operand.const (Value.int IntKind.i64 0)) 3, type := 4, pos := "obj.go:51", after := #[{ on := 2, ground := Ground.data }], guard := none }, { dst := some 86, op := Op.call { callee := Callee.value (Operand.func 26), args := #[Operand.tmp 85], argTypes := #[4] }, type := 0, pos := "obj.go:51", after := #[{ on := 3, ground := Ground.data }, { on := 2, ground := Ground.chain }], guard := none }]) (hs : a0.tmps.size = 114) (h6 : a0.eval (.tmp 6) = .pointer (some ⟨b6, 0, none⟩)) (h9 : a0.eval (.tmp 9) = .pointer (some ⟨b9, 0, none⟩))
    (hx : w1.cell? ⟨b6, 0, none⟩ = some (.int .i64 x)) (hy : w1.cell? ⟨b6, 1, none⟩ = some (.int .i64 y)) (hz : w1.cell? ⟨b9, 0, none⟩ = some (.int .i64 z)) (hv : w1.cell? ⟨b9, 1, none⟩ = some (.int .i64 v)) (hn : decide (cmpPair x y z v < 0) = false)
    (no : ∀ a w, a.defers = a0.defers → a.eval (.tmp 2) = a0.eval (.tmp 2) → Still w1 w → Q (.panic thrown) a w) :
    (Code.region id ops true).wp Tryz.prog Q a0 w1 := by
  subst hops
  have cell : ∀ {w : World} {A : Addr} {u : Value}, w1.cell? A = some u → Still w1 w → w.cell? A = some u := fun h hb => by rw [← h]; simp only [World.cell?, hb.1]
  refine wp_region_good (by kernel_rfl) 5 4 rfl (fun i o ho e he => (chkEdges_sound (by kernel_rfl) i o ho e he).1) (fun i o ho e he => (chkEdges_sound (by kernel_rfl) i o ho e he).2) (CmpR b6 b9 x y z v) (CmpBase a0 b6 b9 w1) ?hall ⟨hs, rfl, h6, h9, rfl, ⟨rfl, rfl, rfl, rfl⟩⟩ ?hstep ?hend
  case hall =>
    intro g hc hl i hi
    have s3 := hc 4 _ rfl hl ⟨3, .data⟩ (by simp)
    have s2 := hc 3 _ rfl s3 ⟨2, .data⟩ (by simp)
    have s1 := hc 2 _ rfl s2 ⟨1, .data⟩ (by simp)
    have s0 := hc 2 _ rfl s2 ⟨0, .data⟩ (by simp)
    have hi' : i = 0 ∨ i = 1 ∨ i = 2 ∨ i = 3 ∨ i = 4 := by omega
    rcases hi' with rfl | rfl | rfl | rfl | rfl <;> assumption
  case hend =>
    intro a w hB hR
    exact (hR 4 (by omega)).elim
  case hstep =>
    intro i hi a wr hB hd
    have hi' : i = 0 ∨ i = 1 ∨ i = 2 ∨ i = 3 ∨ i = 4 := by omega
    clear hi
    rcases hi' with rfl | rfl | rfl | rfl | rfl
    · refine wpOp_of _ rfl rfl ?_
      exact wp_value _ _ (r_sl83 _ _ _ rfl wr _ hB.t6) (cmp_step 0 (by omega) hB (put_same (by rw [hB.size]; decide)))
    · refine wpOp_of _ rfl rfl ?_
      exact wp_value _ _ (r_sl83 _ _ _ rfl wr _ hB.t9) (cmp_step 1 (by omega) hB (put_same (by rw [hB.size]; decide)))
    · have u : CmpR b6 b9 x y z v 0 a wr := hd _ rfl ⟨0, .data⟩ (by simp)
      have u' : CmpR b6 b9 x y z v 1 a wr := hd _ rfl ⟨1, .data⟩ (by simp)
      refine wpOp_of _ rfl rfl ?_
      refine wp_enter _ _ (r_call2 _ _ _ _ _ _ rfl wr rfl (fun args => at_call40 args wr)) ?_
      rw [show a.eval (.tmp 82) = _ from u, show a.eval (.tmp 83) = _ from u']
      refine (compare_calls b6 b9 x y z v wr (cell hx hB.still) (cell hy hB.still) (cell hz hB.still) (cell hv hB.still)).mono ?_
      rintro e' w' ⟨rfl, rfl⟩
      exact ⟨_, rfl, cmp_step 2 (by omega) hB (put_same (by rw [hB.size]; decide))⟩
    · have u : CmpR b6 b9 x y z v 2 a wr := hd _ rfl ⟨2, .data⟩ (by simp)
      refine wpOp_of _ rfl rfl ?_
      exact wp_value _ _ (r_ltz _ _ _ rfl rfl wr _ u) (cmp_step 3 (by omega) hB (put_same (by rw [hB.size]; decide)))
    · have u : CmpR b6 b9 x y z v 3 a wr := hd _ rfl ⟨3, .data⟩ (by simp)
      refine wpOp_of _ rfl rfl ?_
      refine wp_enter' _ _ (r_call1 _ _ _ _ _ rfl wr rfl (fun args => at_call26 args wr)) ?_
      rw [show a.eval (.tmp 85) = _ from u, hn]
      refine (need_no wr).mono ?_
      rintro e' w' ⟨rfl, rfl⟩
      exact .inr ⟨_, rfl, no a wr hB.defers hB.t2 hB.still⟩
theorem act_ext {a b : Act} (hs : a.tmps.size = b.tmps.size) (hd : a.defers = b.defers) (h : ∀ k : Nat, a.eval (.tmp k) = b.eval (.tmp k)) : a = b := by
  obtain ⟨ta, da⟩ := a
  obtain ⟨tb, db⟩ := b
  simp only at hs hd
  subst hd
  congr 1
  refine Array.ext hs fun i h1 h2 => ?_
  have := h i
  simp only [Act.eval, Array.getD_eq_getD_getElem?, Array.getElem?_eq_getElem h1, Array.getElem?_eq_getElem h2, Option.getD_some] at this
  exact this
def cyVal (b6 b9 : Nat) (c : Int) (j : Nat) : Value := match j with
  | 0 => .slice (some ⟨b6, 0, none⟩) 2 2
  | 1 => .slice (some ⟨b9, 0, none⟩) 2 2
  | 2 => .int .i64 c
  | 3 => .bool true
  | _ => .tuple #[]
structure CyBase (a0 : Act) (w1 : World) (a : Act) (w : World) : Prop where
  size : a.tmps.size = 114
  defers : a.defers = a0.defers
  keep : ∀ k : Nat, k < 82 ∨ 86 < k → a.eval (.tmp k) = a0.eval (.tmp k)
  still : Still w1 w
theorem cy_step {a0 : Act} {b6 b9 : Nat} {c : Int} {w1 : World} {a : Act} {w : World} (i : Nat) (hi : i < 5) (hB : CyBase a0 w1 a w) :
    CyBase a0 w1 (a.put (some (i + 82)) (cyVal b6 b9 c i)) w ∧ (a.put (some (i + 82)) (cyVal b6 b9 c i)).eval (.tmp (i + 82)) = cyVal b6 b9 c i ∧ ∀ j, j < 5 → j ≠ i → j ≠ 4 → a.eval (.tmp (j + 82)) = cyVal b6 b9 c j → (a.put (some (i + 82)) (cyVal b6 b9 c i)).eval (.tmp (j + 82)) = cyVal b6 b9 c j := by
  have hsz := hB.size
  have hlt : i + 82 < a.tmps.size := by omega
  refine ⟨⟨by simpa [Act.put] using hsz, by simpa [Act.put] using hB.defers, fun k hk => ?_, hB.still⟩, put_same hlt, fun j hj hji hj4 h => ?_⟩
  · rw [eval_put _ _ _ _ hlt, if_neg (by omega)]; exact hB.keep k hk
  · rw [eval_put _ _ _ _ hlt, if_neg (by omega)]; exact h
set_option maxRecDepth 100000 in
/-- where the places rise -/
theorem cmp_yes {Q : Exit → Act → World → Prop} {id : Nat} (b6 b9 : Nat) (x y z v : Int) (a0 : Act) (w1 : World) (ops : Array Oper) (hops : ops = #[{ dst := some 82, op := Op.slice 83 (Operand.tmp 6) none none none, type := 62, pos := "obj.go:51", after := #[], guard := none }, { dst := some 83, op := Op.slice 83 (Operand.tmp 9) none none none, type := 62, pos := "obj.go:51", after := #[], guard := none }, { dst := some 84, op := Op.call { callee := Callee.value (Operand.func 40), args := #[Operand.tmp 82, Operand.tmp 83], argTypes := #[62, 62] }, type := 3, pos := "obj.go:51", after := #[{ on := 0, ground := Ground.data }, { on := 1, ground := Ground.data }], guard := none }, { dst := some 85, op := Op.binOp BinOp.lss 3 (Operand.tmp 84) (Operand.const (Value.int IntKind.i64 0)) 3, type := 4, pos := "obj.go:51", after := #[{ on := 2, ground := Ground.data }], guard := none }, { dst := some 86, op := Op.call { callee := Callee.value (Operand.func 26), args := #[Operand.tmp 85], argTypes := #[4] }, type := 0, pos := "obj.go:51", after := #[{ on := 3, ground := Ground.data }, { on := 2, ground := Ground.chain }], guard := none }]) (hs : a0.tmps.size = 114) (h6 : a0.eval (.tmp 6) = .pointer (some ⟨b6, 0, none⟩)) (h9 : a0.eval (.tmp 9) = .pointer (some ⟨b9, 0, none⟩))
    (hx : w1.cell? ⟨b6, 0, none⟩ = some (.int .i64 x)) (hy : w1.cell? ⟨b6, 1, none⟩ = some (.int .i64 y)) (hz : w1.cell? ⟨b9, 0, none⟩ = some (.int .i64 z)) (hv : w1.cell? ⟨b9, 1, none⟩ = some (.int .i64 v)) (hn : decide (cmpPair x y z v < 0) = true)
    (yes : ∀ w, Still w1 w → Q .normal (((((a0.put (some 82) (.slice (some ⟨b6, 0, none⟩) 2 2)).put (some 83) (.slice (some ⟨b9, 0, none⟩) 2 2)).put (some 84) (.int .i64 (cmpPair x y z v))).put (some 85) (.bool true)).put (some 86) (.tuple #[])) w) :
    (Code.region id ops true).wp Tryz.prog Q a0 w1 := by
  subst hops
  have cell : ∀ {w : World} {A : Addr} {u : Value}, w1.cell? A = some u → Still w1 w → w.cell? A = some u := fun h hb => by rw [← h]; simp only [World.cell?, hb.1]
  refine wp_region_good (by kernel_rfl) 5 4 rfl (fun i o ho e he => (chkEdges_sound (by kernel_rfl) i o ho e he).1) (fun i o ho e he => (chkEdges_sound (by kernel_rfl) i o ho e he).2) (fun j a _ => a.eval (.tmp (j + 82)) = cyVal b6 b9 (cmpPair x y z v) j) (CyBase a0 w1) ?hall ⟨hs, rfl, fun _ _ => rfl, ⟨rfl, rfl, rfl, rfl⟩⟩ ?hstep ?hend
  case hall =>
    intro g hc hl i hi
    have s3 := hc 4 _ rfl hl ⟨3, .data⟩ (by simp)
    have s2 := hc 3 _ rfl s3 ⟨2, .data⟩ (by simp)
    have s1 := hc 2 _ rfl s2 ⟨1, .data⟩ (by simp)
    have s0 := hc 2 _ rfl s2 ⟨0, .data⟩ (by simp)
    have hi' : i = 0 ∨ i = 1 ∨ i = 2 ∨ i = 3 ∨ i = 4 := by omega
    rcases hi' with rfl | rfl | rfl | rfl | rfl <;> assumption
  case hend =>
    intro a w hB hR
    have e : a = (((((a0.put (some 82) (.slice (some ⟨b6, 0, none⟩) 2 2)).put (some 83) (.slice (some ⟨b9, 0, none⟩) 2 2)).put (some 84) (.int .i64 (cmpPair x y z v))).put (some 85) (.bool true)).put (some 86) (.tuple #[])) := by
      refine act_ext (by simp [Act.put, hs, hB.size]) (by simp [Act.put, hB.defers]) fun k => ?_
      rw [eval_put _ _ _ _ (by simp [Act.put, hs]), eval_put _ _ _ _ (by simp [Act.put, hs]), eval_put _ _ _ _ (by simp [Act.put, hs]), eval_put _ _ _ _ (by simp [Act.put, hs]), eval_put _ _ _ _ (by simp [hs])]
      by_cases k4 : k = 86
      · subst k4; rw [if_pos rfl]; exact hR 4 (by omega)
      rw [if_neg k4]
      by_cases k3 : k = 85
      · subst k3; rw [if_pos rfl]; exact hR 3 (by omega)
      rw [if_neg k3]
      by_cases k2 : k = 84
      · subst k2; rw [if_pos rfl]; exact hR 2 (by omega)
      rw [if_neg k2]
      by_cases k1 : k = 83
      · subst k1; rw [if_pos rfl]; exact hR 1 (by omega)
      rw [if_neg k1]
      by_cases k0 : k = 82
      · subst k0; rw [if_pos rfl]; exact hR 0 (by omega)
      rw [if_neg k0]
      exact hB.keep k (by omega)
    rw [e]
    exact yes w hB.still
  case hstep =>
    intro i hi a wr hB hd
    have hi' : i = 0 ∨ i = 1 ∨ i = 2 ∨ i = 3 ∨ i = 4 := by omega
    clear hi
    rcases hi' with rfl | rfl | rfl | rfl | rfl
    · refine wpOp_of _ rfl rfl ?_
      exact wp_value _ _ (r_sl83 _ _ _ rfl wr _ ((hB.keep 6 (by omega)).trans h6)) (cy_step 0 (by omega) hB)
    · refine wpOp_of _ rfl rfl ?_
      exact wp_value _ _ (r_sl83 _ _ _ rfl wr _ ((hB.keep 9 (by omega)).trans h9)) (cy_step 1 (by omega) hB)
    · have u : a.eval (.tmp 82) = _ := hd _ rfl ⟨0, .data⟩ (by simp)
      have u' : a.eval (.tmp 83) = _ := hd _ rfl ⟨1, .data⟩ (by simp)
      refine wpOp_of _ rfl rfl ?_
      refine wp_enter _ _ (r_call2 _ _ _ _ _ _ rfl wr rfl (fun args => at_call40 args wr)) ?_
      rw [u, u']
      refine (compare_calls b6 b9 x y z v wr (cell hx hB.still) (cell hy hB.still) (cell hz hB.still) (cell hv hB.still)).mono ?_
      rintro e' w' ⟨rfl, rfl⟩
      exact ⟨_, rfl, cy_step 2 (by omega) hB⟩
    · have u : a.eval (.tmp 84) = _ := hd _ rfl ⟨2, .data⟩ (by simp)
      refine wpOp_of _ rfl rfl ?_
      refine wp_value _ _ (r_ltz _ _ _ rfl rfl wr _ u) ?_
      rw [hn]
      exact cy_step 3 (by omega) hB
    · have u : a.eval (.tmp 85) = _ := hd _ rfl ⟨3, .data⟩ (by simp)
      refine wpOp_of _ rfl rfl ?_
      refine wp_enter _ _ (r_call1 _ _ _ _ _ rfl wr rfl (fun args => at_call26 args wr)) ?_
      rw [u]
      refine (need_yes wr).mono ?_
      rintro e' w' ⟨rfl, rfl⟩
      exact ⟨_, rfl, cy_step 4 (by omega) hB⟩

theorem res18 {tmps : Array Value} {w : World} {b : Nat} {n : Int} (h : tmps.getD 2 undef = .pointer (some ⟨b, 0, none⟩)) (hc : w.cell? ⟨b, 0, none⟩ = some (.int .i64 n)) : (results Tryz.f18 tmps).run Tryz.prog w = .ok (.int .i64 n) w := by
  have h' : tmps[2]?.getD undef = .pointer (some ⟨b, 0, none⟩) := by rw [← h]; simp
  simp [results, Tryz.results18, go_sem, h', hc]
/-- what holds all the way through Check: the argument's box, the result's cell, the old memory -/
structure Ck (w : World) (bx : Array Value) (W : World) : Prop where
  box : W.heap[w.heap.size]? = some (.cells bx 28 (0, 0))
  res : W.heap[w.heap.size + 1]? = some (.cells #[.int .i64 0] 29 (0, 0))
  below : Below w.heap.size w W
theorem Ck.step {w W W' : World} {bx : Array Value} (h : Ck w bx W) (hb : Below W.heap.size W W') : Ck w bx W' :=
  ⟨(hb.block _ (Array.getElem?_eq_some_iff.1 h.box).1).trans h.box, (hb.block _ (Array.getElem?_eq_some_iff.1 h.res).1).trans h.res, below_step h.below hb⟩
theorem Ck.grown {w W W' : World} {bx : Array Value} {b : Nat} (h : Ck w bx W) (hg : W.grownBy W' (some b)) (hb : w.heap.size + 2 ≤ b) : Ck w bx W' :=
  ⟨(hg.block _ (Array.getElem?_eq_some_iff.1 h.box).1 (by intro e; cases e; omega)).trans h.box, (hg.block _ (Array.getElem?_eq_some_iff.1 h.res).1 (by intro e; cases e; omega)).trans h.res,
    h.below.trans ⟨hg.os, hg.tape, hg.output, hg.size, fun k hk => hg.block k (Nat.lt_of_lt_of_le hk h.below.size) (by intro e; cases e; omega)⟩⟩
theorem Ck.alloc {w W : World} {bx : Array Value} (h : Ck w bx W) (o : Obj) : Ck w bx (W.alloc o) := h.step ((Below.refl _ W).alloc (Nat.le_refl _) o)
theorem Ck.set {w W : World} {bx : Array Value} (h : Ck w bx W) (p : Addr) (hp : w.heap.size + 2 ≤ p.block) (v : Value) : Ck w bx (W.setCell p v) := by
  refine ⟨?_, ?_, h.below.setCell (p := p) (by omega) v⟩
  · have : p.block ≠ w.heap.size := by omega
    simpa [World.setCell, Array.getElem?_modify, this] using h.box
  · have : p.block ≠ w.heap.size + 1 := by omega
    simpa [World.setCell, Array.getElem?_modify, this] using h.res
theorem Ck.still {w W W' : World} {bx : Array Value} (h : Ck w bx W) (hs : Still W W') : Ck w bx W' := h.step (hs.below _)
theorem catch_ck {w W : World} {bx : Array Value} (h : Ck w bx W) :
    CallsD Tryz.prog 38 #[.pointer (some ⟨w.heap.size + 1, 0, none⟩)] (.panicking thrown) W fun e u' w' => e = .returned (.tuple #[]) ∧ u' = .panicking [{ v := .iface 29 (.int .i64 2), recovered := true }] ∧ w'.cell? ⟨w.heap.size + 1, 0, none⟩ = some (.int .i64 2) ∧ Below w.heap.size w w' := by
  have hc : W.cell? ⟨w.heap.size + 1, 0, none⟩ = some (.int .i64 0) := by simp [World.cell?, h.res]
  have hz : W.frozen? ⟨w.heap.size + 1, 0, none⟩ = false := by simp [World.frozen?, h.res]
  refine (catch_thrown ⟨w.heap.size + 1, 0, none⟩ 0 W hc hz).mono ?_
  rintro e u' w' ⟨rfl, rfl, rfl⟩
  exact ⟨rfl, rfl, World.cell?_setCell_same' _ _ _ (by rw [hc]; rfl), h.below.setCell (p := ⟨w.heap.size + 1, 0, none⟩) (Nat.le_succ _) _⟩
theorem wpList_upd {P : Program} {ops : Array Oper} {rest : List Oper} {o : Oper} {a : Act} {Q : Exit → Act → World → Prop} (w : World) (hg : o.guard = none) (t : TypeId) (m x v : Operand) (hop : o.op = Op.mapUpdate t m x v) (M K V : Value) (hm : a.eval m = M) (hx : a.eval x = K) (hv : a.eval v = V) (w' : World)
    (hrun : Sem.run P (Instr.mapUpdate t M K V) w = .ok () w') (hK : wpList P ops Q rest (a.put o.dst undef) w') : wpList P ops Q (o :: rest) a w := by
  refine wpList_plain hg fun K' hK' => ?_
  unfold Oper.wp
  simp [execOp, hop, hm, hx, hv, hrun, Result.andThen]
  exact hK' _ _ hK
end Go.Proofs.YtgcpnjckbdajbaaGreatDoor.Ob
