import Derived.Test.YtgcpnjckbdajbaaGreatDoorPI
namespace Go.Proofs.YtgcpnjckbdajbaaGreatDoor.Ob
open Go.RowKit Go.Sort

theorem wpOp_not {P : Program} {ops : Array Oper} {Q : Exit → Act → World → Prop} {i : Nat} {K : Act → World → Prop} {a : Act} {w : World} (o : Oper) (ho : ops[i]? = some o) (j : Nat) (b c : Bool) (hg : o.guard = some (j, b)) (d : Nat) (hd : (ops[j]?).bind (·.dst) = some d) (hy : a.eval (.tmp d) = .bool c) (hne : (c == b) = false) (h : K (a.put o.dst undef) w) : wpOp P ops Q i K a w := by
  unfold wpOp
  rw [ho]
  have : yielded ops a.tmps j = some c := by
    unfold yielded
    rw [hd]
    simp only [Act.eval, Array.getD_eq_getD_getElem?] at hy
    simp only [Option.bind_some]
    cases e : a.tmps[d]? with
    | none => rw [e] at hy; cases hy
    | some v => rw [e] at hy; simp only [Option.getD_some] at hy; rw [hy]
  have hw : Region.wanted o (yielded ops a.tmps) = false := by
    simp only [Region.wanted, hg, this]
    simpa using hne
  simp only [hw, Bool.false_eq_true, if_false]
  exact h
theorem wp_enter' {P : Program} {Q : Exit → Act → World → Prop} {K : Act → World → Prop} {a : Act} {w : World} {o : Oper} (f : FuncId) (args : Array Value) (h : (execOp a.eval o).run P w = .ok (.enter f args) w) (hc : Calls P f args w fun e w' => (∃ v, e = .returned v ∧ K (a.put o.dst v) w') ∨ ∃ chain, e = .panicked chain ∧ Q (.panic chain) a w') : o.wp P a w K Q := by
  unfold Oper.wp
  rw [h]
  refine hc.mono ?_
  rintro e w' (⟨v, rfl, hk⟩ | ⟨chain, rfl, hk⟩)
  · exact hk
  · exact hk
theorem r_fa108_4 (ρ : Operand → Value) (o : Oper) (x : Operand) (ho : o.op = Op.fieldAddr 108 x 4) (wr : World) (N : Nat) (h : ρ x = .pointer (some ⟨N, 0, none⟩)) : (execOp ρ o).run Tryz.prog wr = .ok (.value (.pointer (some ⟨N, 4, none⟩))) wr := by
  unfold execOp
  rw [ho]
  go_simp
theorem r_fa108_0 (ρ : Operand → Value) (o : Oper) (x : Operand) (ho : o.op = Op.fieldAddr 108 x 0) (wr : World) (N : Nat) (h : ρ x = .pointer (some ⟨N, 0, none⟩)) : (execOp ρ o).run Tryz.prog wr = .ok (.value (.pointer (some ⟨N, 0, none⟩))) wr := by
  unfold execOp
  rw [ho]
  go_simp
theorem r_fa67_2 (ρ : Operand → Value) (o : Oper) (x : Operand) (ho : o.op = Op.fieldAddr 67 x 2) (wr : World) (N : Nat) (h : ρ x = .pointer (some ⟨N, 0, none⟩)) : (execOp ρ o).run Tryz.prog wr = .ok (.value (.pointer (some ⟨N, 2, none⟩))) wr := by
  unfold execOp
  rw [ho]
  go_simp
theorem r_ld3 (ρ : Operand → Value) (o : Oper) (x : Operand) (ho : o.op = Op.load 3 x) (wr : World) (A : Addr) (v : Value) (h : ρ x = .pointer (some A)) (hc : wr.cell? A = some v) : (execOp ρ o).run Tryz.prog wr = .ok (.value v) wr := by
  unfold execOp
  rw [ho]
  go_simp
theorem r_eqz29 (ρ : Operand → Value) (o : Oper) (x : Operand) (ho : o.op = Op.binOp BinOp.eql 29 x (Operand.const (Value.int IntKind.i64 0)) 29) (hc : ρ (Operand.const (Value.int IntKind.i64 0)) = .int .i64 0) (wr : World) (n : Int) (hx : ρ x = .int .i64 n) : (execOp ρ o).run Tryz.prog wr = .ok (.value (.bool (decide (n = 0)))) wr := by
  unfold execOp
  rw [ho]
  go_simp
  by_cases q : n = 0 <;> simp [q]
theorem r_eqz3 (ρ : Operand → Value) (o : Oper) (x : Operand) (ho : o.op = Op.binOp BinOp.eql 3 x (Operand.const (Value.int IntKind.i64 0)) 3) (hc : ρ (Operand.const (Value.int IntKind.i64 0)) = .int .i64 0) (wr : World) (n : Int) (hx : ρ x = .int .i64 n) : (execOp ρ o).run Tryz.prog wr = .ok (.value (.bool (decide (n = 0)))) wr := by
  unfold execOp
  rw [ho]
  go_simp
  by_cases q : n = 0 <;> simp [q]
theorem at_call65 (args : Array Value) (w : World) : Sem.run Tryz.prog (callFunc 65 args) w = .ok (.enter 65 args) w := r_callFunc Tryz.func65 (by kernel_rfl) (by kernel_rfl) args w
theorem at_call64 (args : Array Value) (w : World) : Sem.run Tryz.prog (callFunc 64 args) w = .ok (.enter 64 args) w := r_callFunc Tryz.func64 (by kernel_rfl) (by kernel_rfl) args w
theorem at_call26 (args : Array Value) (w : World) : Sem.run Tryz.prog (callFunc 26 args) w = .ok (.enter 26 args) w := r_callFunc Tryz.func26 (by kernel_rfl) (by kernel_rfl) args w

/-- what operation j of relocation's drawn region has left -/
def RelR (N1 b4 : Nat) (e imm kind op : Int) (ks : List Int) (j : Nat) (a : Act) (w : World) : Prop :=
  match j with
  | 0 => a.eval (.tmp 60) = .int .i64 e
  | 1 => a.eval (.tmp 61) = .bool (decide (e = 0))
  | 2 => a.eval (.tmp 62) = .bool (decide (e = 0))
  | 3 => e = 0 → a.eval (.tmp 63) = .pointer (some ⟨b4, 4, none⟩)
  | 4 => e = 0 → a.eval (.tmp 64) = .int .i64 imm
  | 5 => e = 0 → a.eval (.tmp 65) = .bool (decide (imm = 0))
  | 6 => a.eval (.tmp 66) = .bool (decide (e = 0 ∧ imm = 0))
  | 7 => a.eval (.tmp 67) = .bool (decide (e = 0 ∧ imm = 0))
  | 8 => e = 0 ∧ imm = 0 → a.eval (.tmp 68) = .pointer (some ⟨N1, 2, none⟩)
  | 9 => e = 0 ∧ imm = 0 → a.eval (.tmp 69) = .int .i64 kind
  | 10 => e = 0 ∧ imm = 0 → ∃ ao c, a.eval (.tmp 70) = .slice ao ks.length c ∧ Lies 0 w ao (intCells ks)
  | 11 => e = 0 ∧ imm = 0 → a.eval (.tmp 71) = .pointer (some ⟨b4, 0, none⟩)
  | 12 => e = 0 ∧ imm = 0 → a.eval (.tmp 72) = .int .i64 op
  | 13 => e = 0 ∧ imm = 0 → a.eval (.tmp 73) = .bool (ks.contains op)
  | 14 => a.eval (.tmp 74) = .bool (decide (e = 0 ∧ imm = 0) && ks.contains op)
  | _ => (decide (e = 0 ∧ imm = 0) && ks.contains op) = true
structure RelBase (N1 b4 : Nat) (e : Int) (w1 : World) (a : Act) (w : World) : Prop where
  size : a.tmps.size = 76
  defers : a.defers = []
  t3 : a.eval (.tmp 3) = .pointer (some ⟨N1, 0, none⟩)
  t4 : a.eval (.tmp 4) = .pointer (some ⟨b4, 0, none⟩)
  t5 : a.eval (.tmp 5) = .int .i64 e
  below : Below w1.heap.size w1 w
theorem RelR.keep {N1 b4 : Nat} {e imm kind op : Int} {ks : List Int} {j : Nat} {a a' : Act} {w w' : World} (hj : j < 16) (he : a'.eval (.tmp (j + 60)) = a.eval (.tmp (j + 60))) (hb : Below w.heap.size w w') (h : RelR N1 b4 e imm kind op ks j a w) : RelR N1 b4 e imm kind op ks j a' w' := by
  have hj' : j = 0 ∨ j = 1 ∨ j = 2 ∨ j = 3 ∨ j = 4 ∨ j = 5 ∨ j = 6 ∨ j = 7 ∨ j = 8 ∨ j = 9 ∨ j = 10 ∨ j = 11 ∨ j = 12 ∨ j = 13 ∨ j = 14 ∨ j = 15 := by omega
  rcases hj' with rfl | rfl | rfl | rfl | rfl | rfl | rfl | rfl | rfl | rfl | rfl | rfl | rfl | rfl | rfl | rfl
  · exact he.trans h
  · exact he.trans h
  · exact he.trans h
  · exact fun q => he.trans (h q)
  · exact fun q => he.trans (h q)
  · exact fun q => he.trans (h q)
  · exact he.trans h
  · exact he.trans h
  · exact fun q => he.trans (h q)
  · exact fun q => he.trans (h q)
  · intro q
    obtain ⟨ao, c, h1, h2⟩ := h q
    exact ⟨ao, c, he.trans h1, h2.step hb⟩
  · exact fun q => he.trans (h q)
  · exact fun q => he.trans (h q)
  · exact fun q => he.trans (h q)
  · exact he.trans h
  · exact h
theorem rel_step {N1 b4 : Nat} {e imm kind op : Int} {ks : List Int} {w1 : World} {a : Act} {w w' : World} {v : Value} (i : Nat) (hi : i < 16) (hB : RelBase N1 b4 e w1 a w) (hw : Below w.heap.size w w') (hR : RelR N1 b4 e imm kind op ks i (a.put (some (i + 60)) v) w') :
    RelBase N1 b4 e w1 (a.put (some (i + 60)) v) w' ∧ RelR N1 b4 e imm kind op ks i (a.put (some (i + 60)) v) w' ∧ ∀ j, j < 16 → j ≠ i → j ≠ 15 → RelR N1 b4 e imm kind op ks j a w → RelR N1 b4 e imm kind op ks j (a.put (some (i + 60)) v) w' := by
  have hsz := hB.size
  have hlt : i + 60 < a.tmps.size := by omega
  refine ⟨⟨by simpa [Act.put] using hsz, by simpa [Act.put] using hB.defers, ?_, ?_, ?_, hB.below.trans (hw.mono hB.below.size)⟩, hR, fun j hj hji _ h => ?_⟩
  · rw [eval_put _ _ _ _ hlt, if_neg (by omega)]; exact hB.t3
  · rw [eval_put _ _ _ _ hlt, if_neg (by omega)]; exact hB.t4
  · rw [eval_put _ _ _ _ hlt, if_neg (by omega)]; exact hB.t5
  · refine RelR.keep hj ?_ hw h
    rw [eval_put _ _ _ _ hlt, if_neg (by omega)]
/-- may a relocation of a kind be of a word's instruction? -/
def okV (kind x : Int) : Bool := match decV x with
  | some i => decide (i.imm = 0) && (kindsV kind).contains i.op
  | none => false
theorem kinds_len (k : Int) : (kindsV k).length ≤ 140737488355328 := by 
  unfold kindsV
  repeat' split
  all_goals decide
def relocV (text : List Int) (nd : Nat) (r : RelV) : Bool :=
  if r.sect = 2 then decide (r.kind = 6) && (decide (0 ≤ r.place) && (decide (r.place % 4 = 0) && decide (r.place ≤ (nd : Int) - 4)))
  else decide (r.sect = 1) && (decide (0 ≤ r.place) && (decide (r.place < text.length) && okV r.kind (text.getD r.place.toNat 0)))

set_option maxRecDepth 100000 in
/-- the last region of relocation -/
theorem rel_region {Q : Exit → Act → World → Prop} {id : Nat} (N1 b4 : Nat) (e imm kind op : Int) (a0 : Act) (w1 : World) (ops : Array Oper) (hops : ops = #[{ dst := some 60, op := Op.move (Operand.tmp 5), type := 29, pos := "obj.go:81", after := #[], guard := none }, { dst := some 61, op := Op.binOp BinOp.eql 29 (Operand.tmp 60) (Operand.const (Value.int IntKind.i64 0)) 29, type := 4, pos := "obj.go:81", after := #[{ on := 0, ground := Ground.data }], guard := none }, { dst := some 62, op := Op.move (Operand.tmp 61), type := 4, pos := "obj.go:81", after := #[{ on := 1, ground := Ground.data }], guard := none }, { dst := some 63, op := Op.fieldAddr 108 (Operand.tmp 4) 4, type := 0, pos := "obj.go:81", after := #[{ on := 2, ground := Ground.guard }], guard := some (2, true) }, { dst := some 64, op := Op.load 3 (Operand.tmp 63), type := 3, pos := "obj.go:81", after := #[{ on := 3, ground := Ground.data }, { on := 2, ground := Ground.guard }], guard := some (2, true) }, { dst := some 65, op := Op.binOp BinOp.eql 3 (Operand.tmp 64) (Operand.const (Value.int IntKind.i64 0)) 3, type := 4, pos := "obj.go:81", after := #[{ on := 4, ground := Ground.data }, { on := 2, ground := Ground.guard }], guard := some (2, true) }, { dst := some 66, op := Op.pick (Operand.tmp 62) (Operand.tmp 65) (Operand.const (Value.bool false)), type := 4, pos := "obj.go:81", after := #[{ on := 2, ground := Ground.data }, { on := 5, ground := Ground.data }], guard := none }, { dst := some 67, op := Op.move (Operand.tmp 66), type := 4, pos := "obj.go:81", after := #[{ on := 6, ground := Ground.data }, { on := 2, ground := Ground.chain }], guard := none }, { dst := some 68, op := Op.fieldAddr 67 (Operand.tmp 3) 2, type := 0, pos := "obj.go:81", after := #[{ on := 7, ground := Ground.guard }], guard := some (7, true) }, { dst := some 69, op := Op.load 3 (Operand.tmp 68), type := 3, pos := "obj.go:81", after := #[{ on := 8, ground := Ground.data }, { on := 7, ground := Ground.guard }], guard := some (7, true) }, { dst := some 70, op := Op.call { callee := Callee.value (Operand.func 65), args := #[Operand.tmp 69], argTypes := #[3] }, type := 62, pos := "obj.go:81", after := #[{ on := 9, ground := Ground.data }, { on := 7, ground := Ground.chain }, { on := 7, ground := Ground.guard }], guard := some (7, true) }, { dst := some 71, op := Op.fieldAddr 108 (Operand.tmp 4) 0, type := 0, pos := "obj.go:81", after := #[{ on := 7, ground := Ground.guard }], guard := some (7, true) }, { dst := some 72, op := Op.load 3 (Operand.tmp 71), type := 3, pos := "obj.go:81", after := #[{ on := 11, ground := Ground.data }, { on := 7, ground := Ground.guard }], guard := some (7, true) }, { dst := some 73, op := Op.call { callee := Callee.value (Operand.func 64), args := #[Operand.tmp 70, Operand.tmp 72], argTypes := #[62, 3] }, type := 4, pos := "obj.go:81", after := #[{ on := 10, ground := Ground.data }, { on := 12, ground := Ground.data }, { on := 10, ground := Ground.chain }, { on := 7, ground := Ground.guard }], guard := some (7, true) }, { dst := some 74, op := Op.pick (Operand.tmp 67) (Operand.tmp 73) (Operand.const (Value.bool false)), type := 4, pos := "obj.go:81", after := #[{ on := 7, ground := Ground.data }, { on := 13, ground := Ground.data }], guard := none }, { dst := some 75, op := Op.call { callee := Callee.value (Operand.func 26), args := #[Operand.tmp 74], argTypes := #[4] }, type := 0, pos := "obj.go:81", after := #[{ on := 14, ground := Ground.data }, { on := 13, ground := Ground.chain }], guard := none }])
    (hB0 : RelBase N1 b4 e w1 a0 w1.drew) (hk : w1.cell? ⟨N1, 2, none⟩ = some (.int .i64 kind)) (hi : w1.cell? ⟨b4, 4, none⟩ = some (.int .i64 imm)) (ho : w1.cell? ⟨b4, 0, none⟩ = some (.int .i64 op))
    (yes : (decide (e = 0 ∧ imm = 0) && (kindsV kind).contains op) = true → ∀ a w, a.defers = [] → Below w1.heap.size w1 w → Q .normal a w)
    (no : (decide (e = 0 ∧ imm = 0) && (kindsV kind).contains op) = false → ∀ a w, a.defers = [] → Below w1.heap.size w1 w → Q (.panic thrown) a w) :
    (Code.region id ops true).wp Tryz.prog Q a0 w1 := by
  subst hops
  have cell : ∀ {w : World} {A : Addr} {v : Value}, w1.cell? A = some v → Below w1.heap.size w1 w → w.cell? A = some v := fun h hb => (hb.cell (cell_lt' h)).trans h
  refine wp_region_good (by kernel_rfl) 16 15 rfl (fun i o ho e he => (chkEdges_sound (by kernel_rfl) i o ho e he).1) (fun i o ho e he => (chkEdges_sound (by kernel_rfl) i o ho e he).2) (RelR N1 b4 e imm kind op (kindsV kind)) (RelBase N1 b4 e w1) ?hall hB0 ?hstep ?hend
  case hall =>
    intro g hc hl i hi
    have s14 := hc 15 _ rfl hl ⟨14, .data⟩ (by simp)
    have s13 := hc 15 _ rfl hl ⟨13, .chain⟩ (by simp)
    have s7 := hc 14 _ rfl s14 ⟨7, .data⟩ (by simp)
    have s10 := hc 13 _ rfl s13 ⟨10, .data⟩ (by simp)
    have s12 := hc 13 _ rfl s13 ⟨12, .data⟩ (by simp)
    have s11 := hc 12 _ rfl s12 ⟨11, .data⟩ (by simp)
    have s9 := hc 10 _ rfl s10 ⟨9, .data⟩ (by simp)
    have s8 := hc 9 _ rfl s9 ⟨8, .data⟩ (by simp)
    have s6 := hc 7 _ rfl s7 ⟨6, .data⟩ (by simp)
    have s2 := hc 6 _ rfl s6 ⟨2, .data⟩ (by simp)
    have s5 := hc 6 _ rfl s6 ⟨5, .data⟩ (by simp)
    have s4 := hc 5 _ rfl s5 ⟨4, .data⟩ (by simp)
    have s3 := hc 4 _ rfl s4 ⟨3, .data⟩ (by simp)
    have s1 := hc 2 _ rfl s2 ⟨1, .data⟩ (by simp)
    have s0 := hc 1 _ rfl s1 ⟨0, .data⟩ (by simp)
    have hi' : i = 0 ∨ i = 1 ∨ i = 2 ∨ i = 3 ∨ i = 4 ∨ i = 5 ∨ i = 6 ∨ i = 7 ∨ i = 8 ∨ i = 9 ∨ i = 10 ∨ i = 11 ∨ i = 12 ∨ i = 13 ∨ i = 14 ∨ i = 15 := by omega
    rcases hi' with rfl | rfl | rfl | rfl | rfl | rfl | rfl | rfl | rfl | rfl | rfl | rfl | rfl | rfl | rfl | rfl <;> assumption
  case hend =>
    intro a w hB hR
    exact yes (hR 15 (by omega)) a w hB.defers hB.below
  case hstep =>
    intro i hi a wr hB hd
    have hi' : i = 0 ∨ i = 1 ∨ i = 2 ∨ i = 3 ∨ i = 4 ∨ i = 5 ∨ i = 6 ∨ i = 7 ∨ i = 8 ∨ i = 9 ∨ i = 10 ∨ i = 11 ∨ i = 12 ∨ i = 13 ∨ i = 14 ∨ i = 15 := by omega
    clear hi
    rcases hi' with rfl | rfl | rfl | rfl | rfl | rfl | rfl | rfl | rfl | rfl | rfl | rfl | rfl | rfl | rfl | rfl
    · refine wpOp_of _ rfl rfl ?_
      refine wp_value _ _ (r_move _ _ _ rfl wr) (rel_step 0 (by omega) hB (Below.refl _ _) ((put_same (by rw [hB.size]; decide)).trans hB.t5))
    · have u : RelR N1 b4 e imm kind op (kindsV kind) 0 a wr := hd _ rfl ⟨0, .data⟩ (by simp)
      refine wpOp_of _ rfl rfl ?_
      refine wp_value _ _ (r_eqz29 _ _ _ rfl rfl wr _ u) (rel_step 1 (by omega) hB (Below.refl _ _) (put_same (by rw [hB.size]; decide)))
    · have u : RelR N1 b4 e imm kind op (kindsV kind) 1 a wr := hd _ rfl ⟨1, .data⟩ (by simp)
      refine wpOp_of _ rfl rfl ?_
      refine wp_value _ _ (r_move _ _ _ rfl wr) (rel_step 2 (by omega) hB (Below.refl _ _) ((put_same (by rw [hB.size]; decide)).trans u))
    · have g : RelR N1 b4 e imm kind op (kindsV kind) 2 a wr := hd _ rfl ⟨2, .guard⟩ (by simp)
      by_cases q : e = 0
      · have g' : a.eval (.tmp 62) = .bool true := Eq.trans g (by rw [decide_eq_true q])
        refine wpOp_of_g _ rfl 2 true rfl 62 rfl g' ?_
        refine wp_value _ _ (r_fa108_4 _ _ _ rfl wr _ hB.t4) (rel_step 3 (by omega) hB (Below.refl _ _) (fun _ => (put_same (by rw [hB.size]; decide))))
      · have g' : a.eval (.tmp 62) = .bool false := Eq.trans g (by rw [decide_eq_false q])
        refine wpOp_not _ rfl 2 true false rfl 62 rfl g' rfl ?_
        exact rel_step 3 (by omega) hB (Below.refl _ _) (fun q' => absurd q' q)
    · have g : RelR N1 b4 e imm kind op (kindsV kind) 2 a wr := hd _ rfl ⟨2, .guard⟩ (by simp)
      by_cases q : e = 0
      · have g' : a.eval (.tmp 62) = .bool true := Eq.trans g (by rw [decide_eq_true q])
        have u : RelR N1 b4 e imm kind op (kindsV kind) 3 a wr := hd _ rfl ⟨3, .data⟩ (by simp)
        refine wpOp_of_g _ rfl 2 true rfl 62 rfl g' ?_
        refine wp_value _ _ (r_ld3 _ _ _ rfl wr _ _ (u q) (cell hi hB.below)) (rel_step 4 (by omega) hB (Below.refl _ _) (fun _ => (put_same (by rw [hB.size]; decide))))
      · have g' : a.eval (.tmp 62) = .bool false := Eq.trans g (by rw [decide_eq_false q])
        refine wpOp_not _ rfl 2 true false rfl 62 rfl g' rfl ?_
        exact rel_step 4 (by omega) hB (Below.refl _ _) (fun q' => absurd q' q)
    · have g : RelR N1 b4 e imm kind op (kindsV kind) 2 a wr := hd _ rfl ⟨2, .guard⟩ (by simp)
      by_cases q : e = 0
      · have g' : a.eval (.tmp 62) = .bool true := Eq.trans g (by rw [decide_eq_true q])
        have u : RelR N1 b4 e imm kind op (kindsV kind) 4 a wr := hd _ rfl ⟨4, .data⟩ (by simp)
        refine wpOp_of_g _ rfl 2 true rfl 62 rfl g' ?_
        refine wp_value _ _ (r_eqz3 _ _ _ rfl rfl wr _ (u q)) (rel_step 5 (by omega) hB (Below.refl _ _) (fun _ => (put_same (by rw [hB.size]; decide))))
      · have g' : a.eval (.tmp 62) = .bool false := Eq.trans g (by rw [decide_eq_false q])
        refine wpOp_not _ rfl 2 true false rfl 62 rfl g' rfl ?_
        exact rel_step 5 (by omega) hB (Below.refl _ _) (fun q' => absurd q' q)
    · have g : RelR N1 b4 e imm kind op (kindsV kind) 2 a wr := hd _ rfl ⟨2, .data⟩ (by simp)
      have u : RelR N1 b4 e imm kind op (kindsV kind) 5 a wr := hd _ rfl ⟨5, .data⟩ (by simp)
      refine wpOp_of _ rfl rfl ?_
      by_cases q : e = 0
      · have g' : a.eval (.tmp 62) = .bool true := Eq.trans g (by rw [decide_eq_true q])
        refine wp_value _ _ (r_pick _ _ _ _ _ true rfl g' wr) (rel_step 6 (by omega) hB (Below.refl _ _) ((put_same (by rw [hB.size]; decide)).trans ((if_pos rfl).trans ((u q).trans (by simp [q])))))
      · have g' : a.eval (.tmp 62) = .bool false := Eq.trans g (by rw [decide_eq_false q])
        refine wp_value _ _ (r_pick _ _ _ _ _ false rfl g' wr) (rel_step 6 (by omega) hB (Below.refl _ _) ((put_same (by rw [hB.size]; decide)).trans (by simp [q, Act.eval])))
    · have u : RelR N1 b4 e imm kind op (kindsV kind) 6 a wr := hd _ rfl ⟨6, .data⟩ (by simp)
      refine wpOp_of _ rfl rfl ?_
      refine wp_value _ _ (r_move _ _ _ rfl wr) (rel_step 7 (by omega) hB (Below.refl _ _) ((put_same (by rw [hB.size]; decide)).trans u))
    · have g : RelR N1 b4 e imm kind op (kindsV kind) 7 a wr := hd _ rfl ⟨7, .guard⟩ (by simp)
      by_cases q : e = 0 ∧ imm = 0
      · have g' : a.eval (.tmp 67) = .bool true := Eq.trans g (by rw [decide_eq_true q])
        refine wpOp_of_g _ rfl 7 true rfl 67 rfl g' ?_
        refine wp_value _ _ (r_fa67_2 _ _ _ rfl wr _ hB.t3) (rel_step 8 (by omega) hB (Below.refl _ _) (fun _ => (put_same (by rw [hB.size]; decide))))
      · have g' : a.eval (.tmp 67) = .bool false := Eq.trans g (by rw [decide_eq_false q])
        refine wpOp_not _ rfl 7 true false rfl 67 rfl g' rfl ?_
        exact rel_step 8 (by omega) hB (Below.refl _ _) (fun q' => absurd q' q)
    · have g : RelR N1 b4 e imm kind op (kindsV kind) 7 a wr := hd _ rfl ⟨7, .guard⟩ (by simp)
      by_cases q : e = 0 ∧ imm = 0
      · have g' : a.eval (.tmp 67) = .bool true := Eq.trans g (by rw [decide_eq_true q])
        have u : RelR N1 b4 e imm kind op (kindsV kind) 8 a wr := hd _ rfl ⟨8, .data⟩ (by simp)
        refine wpOp_of_g _ rfl 7 true rfl 67 rfl g' ?_
        refine wp_value _ _ (r_ld3 _ _ _ rfl wr _ _ (u q) (cell hk hB.below)) (rel_step 9 (by omega) hB (Below.refl _ _) (fun _ => (put_same (by rw [hB.size]; decide))))
      · have g' : a.eval (.tmp 67) = .bool false := Eq.trans g (by rw [decide_eq_false q])
        refine wpOp_not _ rfl 7 true false rfl 67 rfl g' rfl ?_
        exact rel_step 9 (by omega) hB (Below.refl _ _) (fun q' => absurd q' q)
    · have g : RelR N1 b4 e imm kind op (kindsV kind) 7 a wr := hd _ rfl ⟨7, .guard⟩ (by simp)
      by_cases q : e = 0 ∧ imm = 0
      · have g' : a.eval (.tmp 67) = .bool true := Eq.trans g (by rw [decide_eq_true q])
        have u : RelR N1 b4 e imm kind op (kindsV kind) 9 a wr := hd _ rfl ⟨9, .data⟩ (by simp)
        refine wpOp_of_g _ rfl 7 true rfl 67 rfl g' ?_
        refine wp_enter _ _ (r_call1 _ _ _ _ _ rfl wr rfl (fun args => at_call65 args wr)) ?_
        rw [show a.eval (.tmp 69) = _ from u q]
        refine (kinds_calls kind wr).mono ?_
        rintro e' w' ⟨ao, c, rfl, hl, hb⟩
        exact ⟨_, rfl, rel_step 10 (by omega) hB hb (fun _ => ⟨ao, c, (put_same (by rw [hB.size]; decide)), hl.mono (Nat.zero_le _)⟩)⟩
      · have g' : a.eval (.tmp 67) = .bool false := Eq.trans g (by rw [decide_eq_false q])
        refine wpOp_not _ rfl 7 true false rfl 67 rfl g' rfl ?_
        exact rel_step 10 (by omega) hB (Below.refl _ _) (fun q' => absurd q' q)
    · have g : RelR N1 b4 e imm kind op (kindsV kind) 7 a wr := hd _ rfl ⟨7, .guard⟩ (by simp)
      by_cases q : e = 0 ∧ imm = 0
      · have g' : a.eval (.tmp 67) = .bool true := Eq.trans g (by rw [decide_eq_true q])
        refine wpOp_of_g _ rfl 7 true rfl 67 rfl g' ?_
        refine wp_value _ _ (r_fa108_0 _ _ _ rfl wr _ hB.t4) (rel_step 11 (by omega) hB (Below.refl _ _) (fun _ => (put_same (by rw [hB.size]; decide))))
      · have g' : a.eval (.tmp 67) = .bool false := Eq.trans g (by rw [decide_eq_false q])
        refine wpOp_not _ rfl 7 true false rfl 67 rfl g' rfl ?_
        exact rel_step 11 (by omega) hB (Below.refl _ _) (fun q' => absurd q' q)
    · have g : RelR N1 b4 e imm kind op (kindsV kind) 7 a wr := hd _ rfl ⟨7, .guard⟩ (by simp)
      by_cases q : e = 0 ∧ imm = 0
      · have g' : a.eval (.tmp 67) = .bool true := Eq.trans g (by rw [decide_eq_true q])
        have u : RelR N1 b4 e imm kind op (kindsV kind) 11 a wr := hd _ rfl ⟨11, .data⟩ (by simp)
        refine wpOp_of_g _ rfl 7 true rfl 67 rfl g' ?_
        refine wp_value _ _ (r_ld3 _ _ _ rfl wr _ _ (u q) (cell ho hB.below)) (rel_step 12 (by omega) hB (Below.refl _ _) (fun _ => (put_same (by rw [hB.size]; decide))))
      · have g' : a.eval (.tmp 67) = .bool false := Eq.trans g (by rw [decide_eq_false q])
        refine wpOp_not _ rfl 7 true false rfl 67 rfl g' rfl ?_
        exact rel_step 12 (by omega) hB (Below.refl _ _) (fun q' => absurd q' q)
    · have g : RelR N1 b4 e imm kind op (kindsV kind) 7 a wr := hd _ rfl ⟨7, .guard⟩ (by simp)
      by_cases q : e = 0 ∧ imm = 0
      · have g' : a.eval (.tmp 67) = .bool true := Eq.trans g (by rw [decide_eq_true q])
        have u : RelR N1 b4 e imm kind op (kindsV kind) 10 a wr := hd _ rfl ⟨10, .data⟩ (by simp)
        have v : RelR N1 b4 e imm kind op (kindsV kind) 12 a wr := hd _ rfl ⟨12, .data⟩ (by simp)
        obtain ⟨ao, c, u1, u2⟩ := u q
        refine wpOp_of_g _ rfl 7 true rfl 67 rfl g' ?_
        refine wp_enter _ _ (r_call2 _ _ _ _ _ _ rfl wr rfl (fun args => at_call64 args wr)) ?_
        rw [u1, show a.eval (.tmp 72) = _ from v q]
        refine (contains_calls ao c _ _ wr (At.of_lies u2) (kinds_len kind)).mono ?_
        rintro e' w' ⟨rfl, hs⟩
        exact ⟨_, rfl, rel_step 13 (by omega) hB (hs.below _) (fun _ => (put_same (by rw [hB.size]; decide)))⟩
      · have g' : a.eval (.tmp 67) = .bool false := Eq.trans g (by rw [decide_eq_false q])
        refine wpOp_not _ rfl 7 true false rfl 67 rfl g' rfl ?_
        exact rel_step 13 (by omega) hB (Below.refl _ _) (fun q' => absurd q' q)
    · have g : RelR N1 b4 e imm kind op (kindsV kind) 7 a wr := hd _ rfl ⟨7, .data⟩ (by simp)
      have u : RelR N1 b4 e imm kind op (kindsV kind) 13 a wr := hd _ rfl ⟨13, .data⟩ (by simp)
      refine wpOp_of _ rfl rfl ?_
      by_cases q : e = 0 ∧ imm = 0
      · have g' : a.eval (.tmp 67) = .bool true := Eq.trans g (by rw [decide_eq_true q])
        refine wp_value _ _ (r_pick _ _ _ _ _ true rfl g' wr) (rel_step 14 (by omega) hB (Below.refl _ _) ((put_same (by rw [hB.size]; decide)).trans ((if_pos rfl).trans ((u q).trans (by simp [q])))))
      · have g' : a.eval (.tmp 67) = .bool false := Eq.trans g (by rw [decide_eq_false q])
        refine wp_value _ _ (r_pick _ _ _ _ _ false rfl g' wr) (rel_step 14 (by omega) hB (Below.refl _ _) ((put_same (by rw [hB.size]; decide)).trans (by simp only [decide_eq_false q]; rfl)))
    · have u : RelR N1 b4 e imm kind op (kindsV kind) 14 a wr := hd _ rfl ⟨14, .data⟩ (by simp)
      refine wpOp_of _ rfl rfl ?_
      refine wp_enter' _ _ (r_call1 _ _ _ _ _ rfl wr rfl (fun args => at_call26 args wr)) ?_
      rw [show a.eval (.tmp 74) = _ from u]
      generalize hq : (decide (e = 0 ∧ imm = 0) && (kindsV kind).contains op) = b at *
      refine (need_calls b wr).mono ?_
      rintro e' w' ⟨rfl, rfl⟩
      cases b with
      | true => exact .inl ⟨_, rfl, rel_step 15 (by omega) hB (Below.refl _ _) hq⟩
      | false => exact .inr ⟨_, rfl, no rfl a wr hB.defers hB.below⟩
set_option maxRecDepth 100000 in
set_option maxHeartbeats 4000000 in
theorem relocation_calls (B : Nat) (a0 a1 a2 a3 : Option Addr) (n1 n2 n3 c0 c1 c2 c3 : Nat) (text : List Int) (r : RelV) (w : World) (hL : Lies B w a0 (wordCells text)) (hx : ∀ x ∈ text, 0 ≤ x ∧ x < 4294967296) (hn1 : n1 ≤ 140737488355328) (_hlen : text.length ≤ 140737488355328) :
    Calls Tryz.prog 41 #[.agg #[.slice a0 text.length c0, .slice a1 n1 c1, .slice a2 n2 c2, .slice a3 n3 c3], .agg (encRel r).toArray] w fun e w' => e = outcome (relocV text n1 r) ∧ Below w.heap.size w w' := by
  obtain ⟨sect, place, kind, sym, add⟩ := r
  simp only [encRel]
  have PL := Pack.mk hL
  have PX := Pack.mk hx
  clear hL hx
  have bel : ∀ o o', Pack (Below w.heap.size w ((w.alloc o).alloc o')) := fun o o' => ⟨((Below.refl _ w).alloc (Nat.le_refl _) _).alloc (by simp) _⟩
  by_cases s2 : sect = 2
  · subst s2
    by_cases h1 : kind = 6
    · by_cases h2 : 0 ≤ place
      · by_cases h3 : place % 4 = 0
        · by_cases h4 : place ≤ (n1 : Int) - 4
          · have F : Pack (relocV text n1 ⟨2, place, kind, sym, add⟩ = true) := ⟨by simp [relocV, h1, h2, h3, h4]⟩
            go_enter Tryz.func41, Tryz.ntmps41
            go_wp2_with fail
            refine (need_yes _).mono ?_
            rintro e w1 ⟨rfl, rfl⟩
            go_wp2
            refine bodyPost_ret (results_none (fn := Tryz.f41) rfl _ _ _) rfl ?_
            exact ⟨by rw [F.out]; rfl, (bel _ _).out⟩
          · have F : Pack (relocV text n1 ⟨2, place, kind, sym, add⟩ = false) := ⟨by simp [relocV, h4]⟩
            go_enter Tryz.func41, Tryz.ntmps41
            go_wp2_with fail
            refine (need_calls _ _).mono ?_
            rintro e w1 ⟨rfl, rfl⟩
            exact ⟨rfl, by rw [F.out]; rfl, (bel _ _).out⟩
        · have F : Pack (relocV text n1 ⟨2, place, kind, sym, add⟩ = false) := ⟨by simp [relocV, h3]⟩
          go_enter Tryz.func41, Tryz.ntmps41
          go_wp2_with fail
          refine (need_calls _ _).mono ?_
          rintro e w1 ⟨rfl, rfl⟩
          exact ⟨rfl, by rw [F.out]; rfl, (bel _ _).out⟩
      · have F : Pack (relocV text n1 ⟨2, place, kind, sym, add⟩ = false) := ⟨by simp [relocV, h2]⟩
        go_enter Tryz.func41, Tryz.ntmps41
        go_wp2_with fail
        refine (need_calls _ _).mono ?_
        rintro e w1 ⟨rfl, rfl⟩
        exact ⟨rfl, by rw [F.out]; rfl, (bel _ _).out⟩
    · have F : Pack (relocV text n1 ⟨2, place, kind, sym, add⟩ = false) := ⟨by simp [relocV, h1]⟩
      go_enter Tryz.func41, Tryz.ntmps41
      go_wp2_with fail
      refine (need_calls _ _).mono ?_
      rintro e w1 ⟨rfl, rfl⟩
      exact ⟨rfl, by rw [F.out]; rfl, (bel _ _).out⟩
  by_cases h1 : sect = 1
  · by_cases h2 : 0 ≤ place
    · by_cases h3 : place < (text.length : Int)
      · obtain ⟨i, rfl⟩ := Int.eq_ofNat_of_zero_le h2
        have hi : i < text.length := by omega
        obtain ⟨a, rfl, ca⟩ := (At.of_lies PL.out) i hi
        generalize hxi : text[i] = x at ca
        have PE := Pack.mk hxi
        clear hxi
        have q0 := (PX.out x (PE.out ▸ List.getElem_mem hi)).1
        have q1 := (PX.out x (PE.out ▸ List.getElem_mem hi)).2
        have CD : Pack (∀ W, Calls Tryz.prog 63 #[.int .u32 x] W fun r w' => r = .returned (decVal x) ∧ Below W.heap.size W w') := ⟨fun W => decode_done x q0 q1 W⟩
        have hblt := cell_lt' ca
        have FF : Pack (relocV text n1 ⟨1, (i : Int), kind, sym, add⟩ = okV kind x) := ⟨by
          simp [relocV, PE.out, hi]⟩
        subst h1
        have CK : Pack (∀ (W : World) (b : Nat) (o : Int), W.cell? ⟨b, 0, none⟩ = some (.int .i64 o) → Calls Tryz.prog 65 #[.int .i64 kind] W fun e w' => ∃ ao c, e = .returned (.slice ao (kindsV kind).length c) ∧ At .i64 w' ao (kindsV kind) ∧ w'.cell? ⟨b, 0, none⟩ = some (.int .i64 o) ∧ Pack (Below W.heap.size W w')) := ⟨fun W b o h => by
          refine (kinds_calls kind W).mono ?_
          rintro e w' ⟨ao, c, rfl, hl, hb⟩
          exact ⟨ao, c, rfl, At.of_lies hl, (hb.cell (cell_lt' h)).trans h, ⟨hb⟩⟩⟩
        have hkl : Pack ((kindsV kind).length ≤ 140737488355328) := ⟨kinds_len kind⟩
        unfold okV at FF
        cases hd : decV x with
        | none =>
          have CD2 : Pack (∀ W, Calls Tryz.prog 63 #[.int .u32 x] W fun r W' => r = .returned (.tuple #[.agg #[.int .i64 0, .int .i64 0, .int .i64 0, .int .i64 0, .int .i64 0], .int .i64 2]) ∧ Below W.heap.size W W') := ⟨fun W => by
            have := CD.out W
            rw [decVal, hd] at this
            exact this⟩
          have F := FF.out
          rw [hd] at F
          have F := Pack.mk F
          clear hd FF CD
          go_enter Tryz.func41, Tryz.ntmps41
          go_wp2_with fail
          refine (need_yes _).mono ?_
          rintro e w1 ⟨rfl, rfl⟩
          go_wp2_with fail
          refine (CD2.out _).mono ?_
          rintro e w1 ⟨rfl, hb1⟩
          have B1 := Pack.mk (below_step (bel _ _).out hb1)
          have k0 : w1.cell? ⟨w.heap.size + 1, 2, none⟩ = some (.int .i64 kind) := (hb1.cell (by simp)).trans (by go_simp)
          have k1 : Pack (w.heap.size + 1 < w1.heap.size) := ⟨cell_lt' k0⟩
          have K0 := Pack.mk k0
          clear hb1 k0
          go_wp2_with fail
          have n5 := cells5new w1 (.int .i64 0) (.int .i64 0) (.int .i64 0) (.int .i64 0) (.int .i64 0) 108
          refine rel_region (w.heap.size + 1) w1.heap.size 2 0 kind 0 _ _ _ rfl ⟨rfl, rfl, rfl, rfl, rfl, (Below.refl _ _).drew⟩ ((World.cell?_of_block (w := w1) (Below.heap_alloc _ _ _ k1.out)).trans K0.out) n5.2.2.2.2 n5.1 ?_ ?_
          · intro hy a w2 hd hb
            (try simp only [Exit.inBlock, Exit.then])
            refine bodyPost_end (results_none (fn := Tryz.f41) rfl _ _ _) hd ?_
            exact ⟨by rw [F.out]; exact absurd hy (by simp), below_step (below_alloc B1.out _) hb⟩
          · intro hy a w2 hd hb
            exact ⟨hd, by rw [F.out]; rfl, below_step (below_alloc B1.out _) hb⟩
        | some ins =>
          obtain ⟨op, rd, r1, r2, imm⟩ := ins
          have CD2 : Pack (∀ W, Calls Tryz.prog 63 #[.int .u32 x] W fun r W' => r = .returned (.tuple #[.agg #[.int .i64 op, .int .i64 rd, .int .i64 r1, .int .i64 r2, .int .i64 imm], .int .i64 0]) ∧ Below W.heap.size W W') := ⟨fun W => by
            have := CD.out W
            rw [decVal, hd] at this
            exact this⟩
          have F := FF.out
          rw [hd] at F
          have F := Pack.mk F
          clear hd FF CD
          go_enter Tryz.func41, Tryz.ntmps41
          go_wp2_with fail
          refine (need_yes _).mono ?_
          rintro e w1 ⟨rfl, rfl⟩
          go_wp2_with fail
          refine (CD2.out _).mono ?_
          rintro e w1 ⟨rfl, hb1⟩
          have B1 := Pack.mk (below_step (bel _ _).out hb1)
          have k0 : w1.cell? ⟨w.heap.size + 1, 2, none⟩ = some (.int .i64 kind) := (hb1.cell (by simp)).trans (by go_simp)
          have k1 : Pack (w.heap.size + 1 < w1.heap.size) := ⟨cell_lt' k0⟩
          have K0 := Pack.mk k0
          clear hb1 k0
          go_wp2_with fail
          have n5 := cells5new w1 (.int .i64 op) (.int .i64 rd) (.int .i64 r1) (.int .i64 r2) (.int .i64 imm) 108
          refine rel_region (w.heap.size + 1) w1.heap.size 0 imm kind op _ _ _ rfl ⟨rfl, rfl, rfl, rfl, rfl, (Below.refl _ _).drew⟩ ((World.cell?_of_block (w := w1) (Below.heap_alloc _ _ _ k1.out)).trans K0.out) n5.2.2.2.2 n5.1 ?_ ?_
          · intro hy a w2 hd hb
            (try simp only [Exit.inBlock, Exit.then])
            refine bodyPost_end (results_none (fn := Tryz.f41) rfl _ _ _) hd ?_
            exact ⟨by rw [F.out]; simp only [true_and] at hy; rw [hy]; rfl, below_step (below_alloc B1.out _) hb⟩
          · intro hy a w2 hd hb
            exact ⟨hd, by rw [F.out]; simp only [true_and] at hy; rw [hy]; rfl, below_step (below_alloc B1.out _) hb⟩
      · have F : Pack (relocV text n1 ⟨sect, place, kind, sym, add⟩ = false) := ⟨by simp [relocV, h3, s2]⟩
        go_enter Tryz.func41, Tryz.ntmps41
        go_wp2_with fail
        refine (need_calls _ _).mono ?_
        rintro e w1 ⟨rfl, rfl⟩
        exact ⟨rfl, by rw [F.out]; rfl, (bel _ _).out⟩
    · have F : Pack (relocV text n1 ⟨sect, place, kind, sym, add⟩ = false) := ⟨by simp [relocV, h2, s2]⟩
      go_enter Tryz.func41, Tryz.ntmps41
      go_wp2_with fail
      refine (need_calls _ _).mono ?_
      rintro e w1 ⟨rfl, rfl⟩
      exact ⟨rfl, by rw [F.out]; rfl, (bel _ _).out⟩
  · have F : Pack (relocV text n1 ⟨sect, place, kind, sym, add⟩ = false) := ⟨by simp [relocV, h1, s2]⟩
    go_enter Tryz.func41, Tryz.ntmps41
    go_wp2_with fail
    refine (need_calls _ _).mono ?_
    rintro e w1 ⟨rfl, rfl⟩
    exact ⟨rfl, by rw [F.out]; rfl, (bel _ _).out⟩
end Go.Proofs.YtgcpnjckbdajbaaGreatDoor.Ob
