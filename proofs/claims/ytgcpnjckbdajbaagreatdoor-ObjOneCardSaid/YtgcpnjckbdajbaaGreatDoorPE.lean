import Derived.Test.YtgcpnjckbdajbaaGreatDoorPB
import Derived.Test.YtgcpnjckbdajbaaGreatDoorPC
import Derived.Test.YtgcpnjckbdajbaaGreatDoorPD
import Derived.Deep.RegionHeld3
namespace Go.Proofs.YtgcpnjckbdajbaaGreatDoor.Ob
open Go.RowKit Go.Sort

/-- an instruction -/
structure InsV where
  op : Int
  rd : Int
  rs1 : Int
  rs2 : Int
  imm : Int
deriving DecidableEq
def encIns (i : InsV) : List Value := [.int .i64 i.op, .int .i64 i.rd, .int .i64 i.rs1, .int .i64 i.rs2, .int .i64 i.imm]
def insVal (i : InsV) : Value := .agg (encIns i).toArray

/-- what is not used is 0 -/
def Fits4 (r : RowV) (i : InsV) : Prop := ((usesV r).1 = false → i.rd = 0) ∧ ((usesV r).2.1 = false → i.rs1 = 0) ∧ ((usesV r).2.2.1 = false → i.rs2 = 0) ∧ ((usesV r).2.2.2 = false → i.imm = 0)
/-- the word of an instruction -/
def wordV (r : RowV) (i : InsV) : Int := orV (orV (orV (orV (orV (orV r.op (IntKind.u32.wrap (IntKind.u32.wrap i.rd * 128))) (IntKind.u32.wrap (r.f3 * 4096))) (IntKind.u32.wrap (IntKind.u32.wrap i.rs1 * 32768))) (IntKind.u32.wrap (IntKind.u32.wrap (if r.rs2 = 32 then i.rs1 else i.rs2) * 1048576))) (IntKind.u32.wrap (r.f7 * 33554432))) (immV r i.imm)
def encV (r : RowV) (i : InsV) : Int × Int := if (usesV r).2.2.2 && !fitsV r i.imm then (0, 1) else (wordV r i, 0)
def encVal (r : RowV) (i : InsV) : Value := .tuple #[.int .u32 (encV r i).1, .int .i64 (encV r i).2]
theorem cell_lt' {w : World} {a : Addr} {v : Value} (h : w.cell? a = some v) : a.block < w.heap.size := by
  unfold World.cell? at h
  rcases Nat.lt_or_ge a.block w.heap.size with h' | h'
  · exact h'
  · rw [Array.getElem?_eq_none h'] at h
    cases h
def Ten (N b : Nat) (op rd rs1 rs2 imm kind opc f3 f7 fix : Int) (W : World) : Prop :=
  (W.cell? ⟨N, 0, none⟩ = some (.int .i64 op) ∧ W.cell? ⟨N, 1, none⟩ = some (.int .i64 rd) ∧ W.cell? ⟨N, 2, none⟩ = some (.int .i64 rs1) ∧ W.cell? ⟨N, 3, none⟩ = some (.int .i64 rs2) ∧ W.cell? ⟨N, 4, none⟩ = some (.int .i64 imm)) ∧
  (W.cell? ⟨b, 0, none⟩ = some (.int .u8 kind) ∧ W.cell? ⟨b, 1, none⟩ = some (.int .u32 opc) ∧ W.cell? ⟨b, 2, none⟩ = some (.int .u32 f3) ∧ W.cell? ⟨b, 3, none⟩ = some (.int .u32 f7) ∧ W.cell? ⟨b, 4, none⟩ = some (.int .i64 fix))
theorem Ten.step {N b : Nat} {op rd rs1 rs2 imm kind opc f3 f7 fix : Int} {W W' : World} (h : Ten N b op rd rs1 rs2 imm kind opc f3 f7 fix W) (hb : Below W.heap.size W W') : Ten N b op rd rs1 rs2 imm kind opc f3 f7 fix W' := by
  obtain ⟨⟨x0, x1, x2, x3, x4⟩, y0, y1, y2, y3, y4⟩ := h
  have hx := cell_lt' x0
  have hy := cell_lt' y0
  exact ⟨⟨(hb.cell (p := ⟨N, 0, none⟩) hx).trans x0, (hb.cell (p := ⟨N, 1, none⟩) hx).trans x1, (hb.cell (p := ⟨N, 2, none⟩) hx).trans x2, (hb.cell (p := ⟨N, 3, none⟩) hx).trans x3, (hb.cell (p := ⟨N, 4, none⟩) hx).trans x4⟩, (hb.cell (p := ⟨b, 0, none⟩) hy).trans y0, (hb.cell (p := ⟨b, 1, none⟩) hy).trans y1, (hb.cell (p := ⟨b, 2, none⟩) hy).trans y2, (hb.cell (p := ⟨b, 3, none⟩) hy).trans y3, (hb.cell (p := ⟨b, 4, none⟩) hy).trans y4⟩
theorem idx129_0 (b0 b1 b2 b3 : Bool) (w : World) : Sem.run Tryz.prog (Instr.index 129 (.agg #[.bool b0, .bool b1, .bool b2, .bool b3]) (.int .i64 0)) w = .ok (.bool b0) w := by kernel_rfl
theorem idx162_0 (b0 b1 b2 b3 : Int) (w : World) : Sem.run Tryz.prog (Instr.index 162 (.agg #[.int .i64 b0, .int .i64 b1, .int .i64 b2, .int .i64 b3]) (.int .i64 0)) w = .ok (.int .i64 b0) w := by kernel_rfl
theorem idx129_1 (b0 b1 b2 b3 : Bool) (w : World) : Sem.run Tryz.prog (Instr.index 129 (.agg #[.bool b0, .bool b1, .bool b2, .bool b3]) (.int .i64 1)) w = .ok (.bool b1) w := by kernel_rfl
theorem idx162_1 (b0 b1 b2 b3 : Int) (w : World) : Sem.run Tryz.prog (Instr.index 162 (.agg #[.int .i64 b0, .int .i64 b1, .int .i64 b2, .int .i64 b3]) (.int .i64 1)) w = .ok (.int .i64 b1) w := by kernel_rfl
theorem idx129_2 (b0 b1 b2 b3 : Bool) (w : World) : Sem.run Tryz.prog (Instr.index 129 (.agg #[.bool b0, .bool b1, .bool b2, .bool b3]) (.int .i64 2)) w = .ok (.bool b2) w := by kernel_rfl
theorem idx162_2 (b0 b1 b2 b3 : Int) (w : World) : Sem.run Tryz.prog (Instr.index 162 (.agg #[.int .i64 b0, .int .i64 b1, .int .i64 b2, .int .i64 b3]) (.int .i64 2)) w = .ok (.int .i64 b2) w := by kernel_rfl
theorem idx129_3 (b0 b1 b2 b3 : Bool) (w : World) : Sem.run Tryz.prog (Instr.index 129 (.agg #[.bool b0, .bool b1, .bool b2, .bool b3]) (.int .i64 3)) w = .ok (.bool b3) w := by kernel_rfl
theorem idx162_3 (b0 b1 b2 b3 : Int) (w : World) : Sem.run Tryz.prog (Instr.index 162 (.agg #[.int .i64 b0, .int .i64 b1, .int .i64 b2, .int .i64 b3]) (.int .i64 3)) w = .ok (.int .i64 b3) w := by kernel_rfl
theorem idx163_0 (b0 b1 b2 : Int) (w : World) : Sem.run Tryz.prog (Instr.index 163 (.agg #[.int .i64 b0, .int .i64 b1, .int .i64 b2]) (.int .i64 0)) w = .ok (.int .i64 b0) w := by kernel_rfl
theorem idx163_1 (b0 b1 b2 : Int) (w : World) : Sem.run Tryz.prog (Instr.index 163 (.agg #[.int .i64 b0, .int .i64 b1, .int .i64 b2]) (.int .i64 1)) w = .ok (.int .i64 b1) w := by kernel_rfl
theorem idx163_2 (b0 b1 b2 : Int) (w : World) : Sem.run Tryz.prog (Instr.index 163 (.agg #[.int .i64 b0, .int .i64 b1, .int .i64 b2]) (.int .i64 2)) w = .ok (.int .i64 b2) w := by kernel_rfl
theorem Ten.step_drew {N b : Nat} {op rd rs1 rs2 imm kind opc f3 f7 fix : Int} {W W' : World} (h : Ten N b op rd rs1 rs2 imm kind opc f3 f7 fix W) (hb : Below W.drew.heap.size W.drew W') : Ten N b op rd rs1 rs2 imm kind opc f3 f7 fix W' :=
  h.step ⟨hb.os, hb.tape, hb.output, hb.size, hb.block⟩
theorem uses_cases (r : RowV) {u0 u1 u2 u3 : Bool} (h : usesV r = (u0, u1, u2, u3)) :
    (true = u0 ∧ true = u1 ∧ true = u2 ∧ false = u3) ∨ (true = u0 ∧ true = u1 ∧ false = u2 ∧ false = u3) ∨ (true = u0 ∧ true = u1 ∧ false = u2 ∧ true = u3) ∨ (false = u0 ∧ true = u1 ∧ true = u2 ∧ true = u3) ∨ (true = u0 ∧ false = u1 ∧ false = u2 ∧ true = u3) ∨ (false = u0 ∧ false = u1 ∧ false = u2 ∧ false = u3) := by
  unfold usesV at h
  split at h
  · cases hd : decide (r.rs2 < 0) <;> simp_all
  · split at h
    · simp_all
    · split at h
      · simp_all
      · split at h <;> simp_all
theorem cells5new (w : World) (v0 v1 v2 v3 v4 : Value) (t : TypeId) : (w.alloc (.cells #[v0, v1, v2, v3, v4] t)).cell? ⟨w.heap.size, 0, none⟩ = some v0 ∧ (w.alloc (.cells #[v0, v1, v2, v3, v4] t)).cell? ⟨w.heap.size, 1, none⟩ = some v1 ∧ (w.alloc (.cells #[v0, v1, v2, v3, v4] t)).cell? ⟨w.heap.size, 2, none⟩ = some v2 ∧
    (w.alloc (.cells #[v0, v1, v2, v3, v4] t)).cell? ⟨w.heap.size, 3, none⟩ = some v3 ∧ (w.alloc (.cells #[v0, v1, v2, v3, v4] t)).cell? ⟨w.heap.size, 4, none⟩ = some v4 := by
  have h := heap_alloc_new w (.cells #[v0, v1, v2, v3, v4] t)
  generalize w.alloc (.cells #[v0, v1, v2, v3, v4] t) = W at h
  refine ⟨?_, ?_, ?_, ?_, ?_⟩ <;> simp [World.cell?, h]
theorem below_drew1 (w : World) (o : Obj) (w1 : World) (h : Below (w.alloc o).drew.heap.size (w.alloc o).drew w1) : Below (w.heap.size + 1) (w.alloc o) w1 :=
  ⟨h.os, h.tape, h.output, h.size, fun k hk => h.block k (by show k < (w.alloc o).heap.size; simpa using hk)⟩
theorem below_drew2 (w : World) (o z : Obj) (w1 : World) (h : Below ((w.alloc o).drew.alloc z).heap.size ((w.alloc o).drew.alloc z) w1) : Below (w.heap.size + 1) (w.alloc o) w1 := by
  have h1 : Below (w.heap.size + 1) (w.alloc o) ((w.alloc o).drew.alloc z) := (Below.refl _ (w.alloc o)).drew.alloc (by show w.heap.size + 1 ≤ (w.alloc o).heap.size; simp) z
  exact h1.trans (h.mono (by have := h1.size; simp at this ⊢))
theorem below5 {B : Nat} {w0 : World} (w : World) (b : Nat) (h : Below B w0 w) (hb : B ≤ b) (x0 x1 x2 x3 x4 : Value) : Below B w0 (((((w.setCell ⟨b, 0, none⟩ x0).setCell ⟨b, 1, none⟩ x1).setCell ⟨b, 2, none⟩ x2).setCell ⟨b, 3, none⟩ x3).setCell ⟨b, 4, none⟩ x4) := by
  have h0 := h.setCell (p := ⟨b, 0, none⟩) hb x0
  have h1 := h0.setCell (p := ⟨b, 1, none⟩) hb x1
  have h2 := h1.setCell (p := ⟨b, 2, none⟩) hb x2
  have h3 := h2.setCell (p := ⟨b, 3, none⟩) hb x3
  exact h3.setCell (p := ⟨b, 4, none⟩) hb x4
theorem set5 (w : World) (b : Nat) {z0 z1 z2 z3 z4 : Value} (hz : w.cell? ⟨b, 0, none⟩ = some z0 ∧ w.cell? ⟨b, 1, none⟩ = some z1 ∧ w.cell? ⟨b, 2, none⟩ = some z2 ∧ w.cell? ⟨b, 3, none⟩ = some z3 ∧ w.cell? ⟨b, 4, none⟩ = some z4) (x0 x1 x2 x3 x4 : Value) :
    (((((w.setCell ⟨b, 0, none⟩ x0).setCell ⟨b, 1, none⟩ x1).setCell ⟨b, 2, none⟩ x2).setCell ⟨b, 3, none⟩ x3).setCell ⟨b, 4, none⟩ x4).cell? ⟨b, 0, none⟩ = some x0 ∧
    (((((w.setCell ⟨b, 0, none⟩ x0).setCell ⟨b, 1, none⟩ x1).setCell ⟨b, 2, none⟩ x2).setCell ⟨b, 3, none⟩ x3).setCell ⟨b, 4, none⟩ x4).cell? ⟨b, 1, none⟩ = some x1 ∧
    (((((w.setCell ⟨b, 0, none⟩ x0).setCell ⟨b, 1, none⟩ x1).setCell ⟨b, 2, none⟩ x2).setCell ⟨b, 3, none⟩ x3).setCell ⟨b, 4, none⟩ x4).cell? ⟨b, 2, none⟩ = some x2 ∧
    (((((w.setCell ⟨b, 0, none⟩ x0).setCell ⟨b, 1, none⟩ x1).setCell ⟨b, 2, none⟩ x2).setCell ⟨b, 3, none⟩ x3).setCell ⟨b, 4, none⟩ x4).cell? ⟨b, 3, none⟩ = some x3 ∧
    (((((w.setCell ⟨b, 0, none⟩ x0).setCell ⟨b, 1, none⟩ x1).setCell ⟨b, 2, none⟩ x2).setCell ⟨b, 3, none⟩ x3).setCell ⟨b, 4, none⟩ x4).cell? ⟨b, 4, none⟩ = some x4 := by
  obtain ⟨z0, z1, z2, z3, z4⟩ := hz
  refine ⟨?_, ?_, ?_, ?_, ?_⟩ <;> go_simp
set_option maxRecDepth 100000 in
set_option maxHeartbeats 20000000 in
theorem encode_calls (i : InsV) (r : RowV) (hl : forms.lookup i.op = some r) (hrd : 0 ≤ i.rd ∧ i.rd ≤ 31) (hr1 : 0 ≤ i.rs1 ∧ i.rs1 ≤ 31) (hr2 : 0 ≤ i.rs2 ∧ i.rs2 ≤ 31) (hu : Fits4 r i) (w : World) :
    Calls Tryz.prog 83 #[insVal i] w fun e w' => e = .returned (encVal r i) ∧ Below w.heap.size w w' := by
  obtain ⟨op, rd, rs1, rs2, imm⟩ := i
  simp only [insVal, encIns] at hl ⊢
  simp only at hrd hr1 hr2
  have HU := Pack.mk hu
  clear hu
  obtain ⟨kind, opc, f3, f7, fix⟩ := r
  have CF : Pack (∀ W, W.cell? ⟨w.heap.size, 0, none⟩ = some (.int .i64 op) → Calls Tryz.prog 80 #[] W fun e w' => ∃ b, e = .returned (.map (some b)) ∧ w'.cell? ⟨w.heap.size, 0, none⟩ = some (.int .i64 op) ∧ (∀ o, (w'.alloc o).cell? ⟨w.heap.size, 0, none⟩ = some (.int .i64 op)) ∧
      Sem.run Tryz.prog (Instr.lookup 125 (.map (some b)) (.int .i64 op) true) w' = .ok (.tuple #[.agg #[.int .u8 kind, .int .u32 opc, .int .u32 f3, .int .u32 f7, .int .i64 fix], .bool true]) w' ∧ (∀ o, Sem.run Tryz.prog (Instr.lookup 125 (.map (some b)) (.int .i64 op) true) (w'.alloc o) = .ok (.tuple #[.agg #[.int .u8 kind, .int .u32 opc, .int .u32 f3, .int .u32 f7, .int .i64 fix], .bool true]) (w'.alloc o)) ∧ Pack (Below W.heap.size W w')) := ⟨fun W hW => by
    have hlt : w.heap.size < W.heap.size := cell_lt' hW
    refine (forms_calls W).mono ?_
    rintro e w1 ⟨rfl, hm, hb⟩
    have x0 : w1.cell? ⟨w.heap.size, 0, none⟩ = some (.int .i64 op) := (hb.cell hlt).trans hW
    refine ⟨_, rfl, x0, fun o => (World.cell?_of_block (w := w1) (Below.heap_alloc _ _ _ (Nat.lt_of_lt_of_le hlt hb.size))).trans x0, run_lookup_some w1 _ forms op ⟨kind, opc, f3, f7, fix⟩ hm hl, fun o => run_lookup_some (w1.alloc o) _ forms op ⟨kind, opc, f3, f7, fix⟩ ((Below.heap_alloc _ _ _ (Array.getElem?_eq_some_iff.1 hm).1).trans hm) hl, ⟨hb⟩⟩⟩
  have CF2 : Pack (∀ W, W.cell? ⟨w.heap.size, 0, none⟩ = some (.int .i64 op) → (W.cell? ⟨w.heap.size + 1, 0, none⟩ = some (.int .u8 0) ∧ W.frozen? ⟨w.heap.size + 1, 0, none⟩ = false ∧ W.cell? ⟨w.heap.size + 1, 1, none⟩ = some (.int .u32 0) ∧ W.frozen? ⟨w.heap.size + 1, 1, none⟩ = false ∧ W.cell? ⟨w.heap.size + 1, 2, none⟩ = some (.int .u32 0) ∧ W.frozen? ⟨w.heap.size + 1, 2, none⟩ = false ∧ W.cell? ⟨w.heap.size + 1, 3, none⟩ = some (.int .u32 0) ∧ W.frozen? ⟨w.heap.size + 1, 3, none⟩ = false ∧ W.cell? ⟨w.heap.size + 1, 4, none⟩ = some (.int .i64 0) ∧ W.frozen? ⟨w.heap.size + 1, 4, none⟩ = false) → Calls Tryz.prog 80 #[] W fun e w' => ∃ b, e = .returned (.map (some b)) ∧ w'.cell? ⟨w.heap.size, 0, none⟩ = some (.int .i64 op) ∧ (∀ o, (w'.alloc o).cell? ⟨w.heap.size, 0, none⟩ = some (.int .i64 op)) ∧
      Sem.run Tryz.prog (Instr.lookup 125 (.map (some b)) (.int .i64 op) true) w' = .ok (.tuple #[.agg #[.int .u8 kind, .int .u32 opc, .int .u32 f3, .int .u32 f7, .int .i64 fix], .bool true]) w' ∧ (∀ o, Sem.run Tryz.prog (Instr.lookup 125 (.map (some b)) (.int .i64 op) true) (w'.alloc o) = .ok (.tuple #[.agg #[.int .u8 kind, .int .u32 opc, .int .u32 f3, .int .u32 f7, .int .i64 fix], .bool true]) (w'.alloc o)) ∧ (w'.cell? ⟨w.heap.size + 1, 0, none⟩ = some (.int .u8 0) ∧ w'.frozen? ⟨w.heap.size + 1, 0, none⟩ = false ∧ w'.cell? ⟨w.heap.size + 1, 1, none⟩ = some (.int .u32 0) ∧ w'.frozen? ⟨w.heap.size + 1, 1, none⟩ = false ∧ w'.cell? ⟨w.heap.size + 1, 2, none⟩ = some (.int .u32 0) ∧ w'.frozen? ⟨w.heap.size + 1, 2, none⟩ = false ∧ w'.cell? ⟨w.heap.size + 1, 3, none⟩ = some (.int .u32 0) ∧ w'.frozen? ⟨w.heap.size + 1, 3, none⟩ = false ∧ w'.cell? ⟨w.heap.size + 1, 4, none⟩ = some (.int .i64 0) ∧ w'.frozen? ⟨w.heap.size + 1, 4, none⟩ = false) ∧ Pack (Below W.heap.size W w')) := ⟨fun W hW hz => by
    have hlt : w.heap.size + 1 < W.heap.size := cell_lt' hz.1
    refine (CF.out W hW).mono ?_
    rintro e w1 ⟨b, h0, h1, h2, h3, h4, hb⟩
    refine ⟨b, h0, h1, h2, h3, h4, ?_, hb⟩
    obtain ⟨z0, f0, z1, f1, z2, f2, z3, f3, z4, f4⟩ := hz
    exact ⟨(hb.out.cell hlt).trans z0, (hb.out.frozen hlt).trans f0, (hb.out.cell hlt).trans z1, (hb.out.frozen hlt).trans f1, (hb.out.cell hlt).trans z2, (hb.out.frozen hlt).trans f2, (hb.out.cell hlt).trans z3, (hb.out.frozen hlt).trans f3, (hb.out.cell hlt).trans z4, (hb.out.frozen hlt).trans f4⟩⟩
  have HL := Pack.mk hl
  clear hl
  go_enter Tryz.func83, Tryz.ntmps83
  go_upto_region 1 with (fail)
  go_cut [4, 5, 11] from 12 to 17 (fun v4 v5 v11 wc => ∃ b4, v4 = .pointer (some ⟨b4, 0, none⟩) ∧ v5 = .bool true ∧ Pack (w.heap.size + 1 ≤ b4 ∧ (wc.cell? ⟨b4, 0, none⟩ = some (.int .u8 kind) ∧ wc.cell? ⟨b4, 1, none⟩ = some (.int .u32 opc) ∧ wc.cell? ⟨b4, 2, none⟩ = some (.int .u32 f3) ∧ wc.cell? ⟨b4, 3, none⟩ = some (.int .u32 f7) ∧ wc.cell? ⟨b4, 4, none⟩ = some (.int .i64 fix)) ∧ Below (w.heap.size + 1) (w.alloc (.cells #[.int .i64 op, .int .i64 rd, .int .i64 rs1, .int .i64 rs2, .int .i64 imm] 108)) wc))
  case first =>
    go_region_with (first | (go_at_call 80; refine (CF2.out _ ?hA ?hB).mono ?_; (case hA => (go_simp; done)); (case hB => (go_simp; done)); rintro e w1 ⟨b, rfl, x0, x1, l0, l1, ⟨z0, f0, z1, f1, z2, f2, z3, f3, z4, f4⟩, hb⟩; clear x1 l1) | (go_at_call 80; refine (CF.out _ ?hA).mono ?_; (case hA => (go_simp; done)); rintro e w1 ⟨b, rfl, x0, x1, l0, l1, hb⟩))
    all_goals (go_wp2_with fail; go_meet)
    all_goals first
      | exact ⟨w.heap.size + 1, rfl, rfl, ⟨Nat.le_refl _, set5 w1 _ ⟨z0, z1, z2, z3, z4⟩ _ _ _ _ _, below5 w1 (w.heap.size + 1) (below_drew2 w _ _ w1 hb.out) (Nat.le_refl _) _ _ _ _ _⟩⟩
      | exact ⟨w1.heap.size, rfl, rfl, ⟨Nat.le_trans (by simp) hb.out.size, cells5new w1 _ _ _ _ _ 128, (below_drew1 w _ w1 hb.out).alloc (Nat.le_trans (by simp) hb.out.size) _⟩⟩
  case rest =>
    obtain ⟨b4, rfl, rfl, P⟩ := hcut
    have hN : Pack (w.heap.size < wc.heap.size ∧ b4 < wc.heap.size) := ⟨by
      have := P.out.2.2.size
      simp at this
      exact ⟨by omega, cell_lt' P.out.2.1.1⟩⟩
    have hbox : ∀ k (v : Value), (w.alloc (.cells #[.int .i64 op, .int .i64 rd, .int .i64 rs1, .int .i64 rs2, .int .i64 imm] 108)).cell? ⟨w.heap.size, k, none⟩ = some v → wc.cell? ⟨w.heap.size, k, none⟩ = some v := fun k v h => (P.out.2.2.cell (Nat.lt_succ_self _)).trans h
    have n5 := cells5new w (.int .i64 op) (.int .i64 rd) (.int .i64 rs1) (.int .i64 rs2) (.int .i64 imm) 108
    have S10 : Pack (Ten w.heap.size b4 op rd rs1 rs2 imm kind opc f3 f7 fix wc) := ⟨⟨⟨hbox _ _ n5.1, hbox _ _ n5.2.1, hbox _ _ n5.2.2.1, hbox _ _ n5.2.2.2.1, hbox _ _ n5.2.2.2.2⟩, P.out.2.1⟩⟩
    clear hbox n5
    have B0 : Pack (Below w.heap.size w wc) := ⟨((Below.refl _ w).alloc (Nat.le_refl _) _).trans (P.out.2.2.mono (by omega))⟩
    obtain ⟨u, hu⟩ : ∃ u, usesV ⟨kind, opc, f3, f7, fix⟩ = u := ⟨_, rfl⟩
    have U := Pack.mk hu
    clear hu
    have C81 : Pack (∀ W, Calls Tryz.prog 81 #[.agg #[.int .u8 kind, .int .u32 opc, .int .u32 f3, .int .u32 f7, .int .i64 fix]] W fun e w' => e = .returned (.agg #[.bool u.1, .bool u.2.1, .bool u.2.2.1, .bool u.2.2.2]) ∧ Below W.heap.size W w') := ⟨fun W => by
      have := uses_calls ⟨kind, opc, f3, f7, fix⟩ W
      rw [U.out] at this
      exact this⟩
    have F4 : Pack ((u.1 = false → rd = 0) ∧ (u.2.1 = false → rs1 = 0) ∧ (u.2.2.1 = false → rs2 = 0) ∧ (u.2.2.2 = false → imm = 0)) := ⟨by
      have := HU.out
      unfold Fits4 at this
      rw [U.out] at this
      exact this⟩
    have g1 : ¬ rd < 0 := by omega
    have g2 : ¬ 31 < rd := by omega
    have g3 : ¬ rs1 < 0 := by omega
    have g4 : ¬ 31 < rs1 := by omega
    have g5 : ¬ rs2 < 0 := by omega
    have g6 : ¬ 31 < rs2 := by omega
    obtain ⟨u0, u1, u2, u3⟩ := u
    simp only at C81 F4
    have hpat := uses_cases _ U.out
    have CI : Pack (∀ W, Calls Tryz.prog 105 #[.agg #[.int .u8 kind, .int .u32 opc, .int .u32 f3, .int .u32 f7, .int .i64 fix], .int .i64 imm] W fun e w' => e = .returned (.int .u32 (immV ⟨kind, opc, f3, f7, fix⟩ imm)) ∧ Below W.heap.size W w') := ⟨fun W => imm_calls ⟨kind, opc, f3, f7, fix⟩ imm W⟩
    have CT : Pack (∀ W, Calls Tryz.prog 104 #[.agg #[.int .u8 kind, .int .u32 opc, .int .u32 f3, .int .u32 f7, .int .i64 fix], .int .i64 imm] W fun e w' => e = .returned (.bool (fitsV ⟨kind, opc, f3, f7, fix⟩ imm)) ∧ Below W.heap.size W w') := ⟨fun W => fits_calls ⟨kind, opc, f3, f7, fix⟩ imm W⟩
    rcases hpat with h | h | h | h | h | h
    · obtain ⟨rfl, rfl, rfl, rfl⟩ := h
      obtain rfl : imm = 0 := F4.out.2.2.2 rfl
      obtain ⟨⟨x0, x1, x2, x3, x4⟩, y0, y1, y2, y3, y4⟩ := S10.out
      have j0 := idx129_0
      have m0 := idx162_0
      have j1 := idx129_1
      have m1 := idx162_1
      have j2 := idx129_2
      have m2 := idx162_2
      have j3 := idx129_3
      have m3 := idx162_3
      have n0 := idx163_0
      have n1 := idx163_1
      have n2 := idx163_2
      go_wp2_with fail
      refine (C81.out _).mono ?_
      rintro e w1 ⟨rfl, h1⟩
      have T1 := Pack.mk (S10.out.step h1)
      have B1 := Pack.mk (below_step B0.out h1)
      clear x0 x1 x2 x3 x4 y0 y1 y2 y3 y4 h1
      obtain ⟨⟨x0, x1, x2, x3, x4⟩, y0, y1, y2, y3, y4⟩ := T1.out
      go_wp2_with fail
      refine wp_loop_rounds 5 ?_
      rw [rounds_succ]
      go_wp2_with fail
      rw [rounds_succ]
      go_wp2_with fail
      rw [rounds_succ]
      go_wp2_with fail
      rw [rounds_succ]
      go_wp2_with fail
      rw [rounds_succ]
      go_wp2_with fail
      refine wp_loop_rounds 4 ?_
      rw [rounds_succ]
      go_wp2_with fail
      rw [rounds_succ]
      go_wp2_with fail
      rw [rounds_succ]
      go_wp2_with fail
      rw [rounds_succ]
      go_wp2_with fail
      refine (C81.out _).mono ?_
      rintro e w2 ⟨rfl, h1⟩
      have T2 := Pack.mk (T1.out.step h1)
      have B2 := Pack.mk (below_step B1.out h1)
      clear x0 x1 x2 x3 x4 y0 y1 y2 y3 y4 h1
      obtain ⟨⟨x0, x1, x2, x3, x4⟩, y0, y1, y2, y3, y4⟩ := T2.out
      by_cases hf : fix = 32
      · subst hf
        go_wp2_with fail
        have FE : Pack (encV ⟨kind, opc, f3, f7, 32⟩ ⟨op, rd, rs1, rs2, 0⟩ = (wordV ⟨kind, opc, f3, f7, 32⟩ ⟨op, rd, rs1, rs2, 0⟩, 0)) := ⟨by unfold encV; rw [U.out]; rfl⟩
        go_region_held3 (fun W => (W.cell? ⟨w.heap.size, 0, none⟩ = some (.int .i64 op) ∧ W.cell? ⟨w.heap.size, 1, none⟩ = some (.int .i64 rd) ∧ W.cell? ⟨w.heap.size, 2, none⟩ = some (.int .i64 rs1) ∧ W.cell? ⟨w.heap.size, 3, none⟩ = some (.int .i64 rs2) ∧ W.cell? ⟨w.heap.size, 4, none⟩ = some (.int .i64 0)) ∧ (W.cell? ⟨b4, 0, none⟩ = some (.int .u8 kind) ∧ W.cell? ⟨b4, 1, none⟩ = some (.int .u32 opc) ∧ W.cell? ⟨b4, 2, none⟩ = some (.int .u32 f3) ∧ W.cell? ⟨b4, 3, none⟩ = some (.int .u32 f7) ∧ W.cell? ⟨b4, 4, none⟩ = some (.int .i64 32))) (first | go_keep | exact T2.out.step_drew h3) ((go_at_call 105; refine (CI.out _).mono ?_; rintro e w3 ⟨rfl, h3⟩))
        go_wp2
        go_ret2
        exact ⟨by unfold encVal; rw [FE.out]; simp only [wordV, if_pos]; rfl, below_step B2.out ⟨h3.os, h3.tape, h3.output, h3.size, h3.block⟩⟩
      · go_wp2_with fail
        have FE : Pack (encV ⟨kind, opc, f3, f7, fix⟩ ⟨op, rd, rs1, rs2, 0⟩ = (wordV ⟨kind, opc, f3, f7, fix⟩ ⟨op, rd, rs1, rs2, 0⟩, 0)) := ⟨by unfold encV; rw [U.out]; rfl⟩
        go_region_held3 (fun W => (W.cell? ⟨w.heap.size, 0, none⟩ = some (.int .i64 op) ∧ W.cell? ⟨w.heap.size, 1, none⟩ = some (.int .i64 rd) ∧ W.cell? ⟨w.heap.size, 2, none⟩ = some (.int .i64 rs1) ∧ W.cell? ⟨w.heap.size, 3, none⟩ = some (.int .i64 rs2) ∧ W.cell? ⟨w.heap.size, 4, none⟩ = some (.int .i64 0)) ∧ (W.cell? ⟨b4, 0, none⟩ = some (.int .u8 kind) ∧ W.cell? ⟨b4, 1, none⟩ = some (.int .u32 opc) ∧ W.cell? ⟨b4, 2, none⟩ = some (.int .u32 f3) ∧ W.cell? ⟨b4, 3, none⟩ = some (.int .u32 f7) ∧ W.cell? ⟨b4, 4, none⟩ = some (.int .i64 fix))) (first | go_keep | exact T2.out.step_drew h3) ((go_at_call 105; refine (CI.out _).mono ?_; rintro e w3 ⟨rfl, h3⟩))
        go_wp2
        go_ret2
        exact ⟨by unfold encVal; rw [FE.out]; simp only [wordV, if_neg hf]; rfl, below_step B2.out ⟨h3.os, h3.tape, h3.output, h3.size, h3.block⟩⟩
    · obtain ⟨rfl, rfl, rfl, rfl⟩ := h
      obtain rfl : rs2 = 0 := F4.out.2.2.1 rfl
      obtain rfl : imm = 0 := F4.out.2.2.2 rfl
      obtain ⟨⟨x0, x1, x2, x3, x4⟩, y0, y1, y2, y3, y4⟩ := S10.out
      have j0 := idx129_0
      have m0 := idx162_0
      have j1 := idx129_1
      have m1 := idx162_1
      have j2 := idx129_2
      have m2 := idx162_2
      have j3 := idx129_3
      have m3 := idx162_3
      have n0 := idx163_0
      have n1 := idx163_1
      have n2 := idx163_2
      go_wp2_with fail
      refine (C81.out _).mono ?_
      rintro e w1 ⟨rfl, h1⟩
      have T1 := Pack.mk (S10.out.step h1)
      have B1 := Pack.mk (below_step B0.out h1)
      clear x0 x1 x2 x3 x4 y0 y1 y2 y3 y4 h1
      obtain ⟨⟨x0, x1, x2, x3, x4⟩, y0, y1, y2, y3, y4⟩ := T1.out
      go_wp2_with fail
      refine wp_loop_rounds 5 ?_
      rw [rounds_succ]
      go_wp2_with fail
      rw [rounds_succ]
      go_wp2_with fail
      rw [rounds_succ]
      go_wp2_with fail
      rw [rounds_succ]
      go_wp2_with fail
      rw [rounds_succ]
      go_wp2_with fail
      refine wp_loop_rounds 4 ?_
      rw [rounds_succ]
      go_wp2_with fail
      rw [rounds_succ]
      go_wp2_with fail
      rw [rounds_succ]
      go_wp2_with fail
      rw [rounds_succ]
      go_wp2_with fail
      refine (C81.out _).mono ?_
      rintro e w2 ⟨rfl, h1⟩
      have T2 := Pack.mk (T1.out.step h1)
      have B2 := Pack.mk (below_step B1.out h1)
      clear x0 x1 x2 x3 x4 y0 y1 y2 y3 y4 h1
      obtain ⟨⟨x0, x1, x2, x3, x4⟩, y0, y1, y2, y3, y4⟩ := T2.out
      by_cases hf : fix = 32
      · subst hf
        go_wp2_with fail
        have FE : Pack (encV ⟨kind, opc, f3, f7, 32⟩ ⟨op, rd, rs1, 0, 0⟩ = (wordV ⟨kind, opc, f3, f7, 32⟩ ⟨op, rd, rs1, 0, 0⟩, 0)) := ⟨by unfold encV; rw [U.out]; rfl⟩
        go_region_held3 (fun W => (W.cell? ⟨w.heap.size, 0, none⟩ = some (.int .i64 op) ∧ W.cell? ⟨w.heap.size, 1, none⟩ = some (.int .i64 rd) ∧ W.cell? ⟨w.heap.size, 2, none⟩ = some (.int .i64 rs1) ∧ W.cell? ⟨w.heap.size, 3, none⟩ = some (.int .i64 0) ∧ W.cell? ⟨w.heap.size, 4, none⟩ = some (.int .i64 0)) ∧ (W.cell? ⟨b4, 0, none⟩ = some (.int .u8 kind) ∧ W.cell? ⟨b4, 1, none⟩ = some (.int .u32 opc) ∧ W.cell? ⟨b4, 2, none⟩ = some (.int .u32 f3) ∧ W.cell? ⟨b4, 3, none⟩ = some (.int .u32 f7) ∧ W.cell? ⟨b4, 4, none⟩ = some (.int .i64 32))) (first | go_keep | exact T2.out.step_drew h3) ((go_at_call 105; refine (CI.out _).mono ?_; rintro e w3 ⟨rfl, h3⟩))
        go_wp2
        go_ret2
        exact ⟨by unfold encVal; rw [FE.out]; simp only [wordV, if_pos]; rfl, below_step B2.out ⟨h3.os, h3.tape, h3.output, h3.size, h3.block⟩⟩
      · go_wp2_with fail
        have FE : Pack (encV ⟨kind, opc, f3, f7, fix⟩ ⟨op, rd, rs1, 0, 0⟩ = (wordV ⟨kind, opc, f3, f7, fix⟩ ⟨op, rd, rs1, 0, 0⟩, 0)) := ⟨by unfold encV; rw [U.out]; rfl⟩
        go_region_held3 (fun W => (W.cell? ⟨w.heap.size, 0, none⟩ = some (.int .i64 op) ∧ W.cell? ⟨w.heap.size, 1, none⟩ = some (.int .i64 rd) ∧ W.cell? ⟨w.heap.size, 2, none⟩ = some (.int .i64 rs1) ∧ W.cell? ⟨w.heap.size, 3, none⟩ = some (.int .i64 0) ∧ W.cell? ⟨w.heap.size, 4, none⟩ = some (.int .i64 0)) ∧ (W.cell? ⟨b4, 0, none⟩ = some (.int .u8 kind) ∧ W.cell? ⟨b4, 1, none⟩ = some (.int .u32 opc) ∧ W.cell? ⟨b4, 2, none⟩ = some (.int .u32 f3) ∧ W.cell? ⟨b4, 3, none⟩ = some (.int .u32 f7) ∧ W.cell? ⟨b4, 4, none⟩ = some (.int .i64 fix))) (first | go_keep | exact T2.out.step_drew h3) ((go_at_call 105; refine (CI.out _).mono ?_; rintro e w3 ⟨rfl, h3⟩))
        go_wp2
        go_ret2
        exact ⟨by unfold encVal; rw [FE.out]; simp only [wordV, if_neg hf]; rfl, below_step B2.out ⟨h3.os, h3.tape, h3.output, h3.size, h3.block⟩⟩
    · obtain ⟨rfl, rfl, rfl, rfl⟩ := h
      obtain rfl : rs2 = 0 := F4.out.2.2.1 rfl
      obtain ⟨⟨x0, x1, x2, x3, x4⟩, y0, y1, y2, y3, y4⟩ := S10.out
      have j0 := idx129_0
      have m0 := idx162_0
      have j1 := idx129_1
      have m1 := idx162_1
      have j2 := idx129_2
      have m2 := idx162_2
      have j3 := idx129_3
      have m3 := idx162_3
      have n0 := idx163_0
      have n1 := idx163_1
      have n2 := idx163_2
      go_wp2_with fail
      refine (C81.out _).mono ?_
      rintro e w1 ⟨rfl, h1⟩
      have T1 := Pack.mk (S10.out.step h1)
      have B1 := Pack.mk (below_step B0.out h1)
      clear x0 x1 x2 x3 x4 y0 y1 y2 y3 y4 h1
      obtain ⟨⟨x0, x1, x2, x3, x4⟩, y0, y1, y2, y3, y4⟩ := T1.out
      go_wp2_with fail
      refine wp_loop_rounds 5 ?_
      rw [rounds_succ]
      go_wp2_with fail
      rw [rounds_succ]
      go_wp2_with fail
      rw [rounds_succ]
      go_wp2_with fail
      rw [rounds_succ]
      go_wp2_with fail
      rw [rounds_succ]
      go_wp2_with fail
      refine wp_loop_rounds 4 ?_
      rw [rounds_succ]
      go_wp2_with fail
      rw [rounds_succ]
      go_wp2_with fail
      rw [rounds_succ]
      go_wp2_with fail
      rw [rounds_succ]
      go_wp2_with fail
      refine (C81.out _).mono ?_
      rintro e w2 ⟨rfl, h1⟩
      have T2 := Pack.mk (T1.out.step h1)
      have B2 := Pack.mk (below_step B1.out h1)
      clear x0 x1 x2 x3 x4 y0 y1 y2 y3 y4 h1
      obtain ⟨⟨x0, x1, x2, x3, x4⟩, y0, y1, y2, y3, y4⟩ := T2.out
      go_wp2_with fail
      refine (CT.out _).mono ?_
      rintro e w2 ⟨rfl, h1⟩
      have T3 := Pack.mk (T2.out.step h1)
      have B3 := Pack.mk (below_step B2.out h1)
      clear x0 x1 x2 x3 x4 y0 y1 y2 y3 y4 h1
      obtain ⟨⟨x0, x1, x2, x3, x4⟩, y0, y1, y2, y3, y4⟩ := T3.out
      generalize hq : fitsV ⟨kind, opc, f3, f7, fix⟩ imm = q
      cases q with
      | false =>
        have FE : Pack (encV ⟨kind, opc, f3, f7, fix⟩ ⟨op, rd, rs1, 0, imm⟩ = (0, 1)) := ⟨by unfold encV; rw [U.out, hq]; rfl⟩
        clear hq
        go_wp2
        go_ret2
        exact ⟨by unfold encVal; rw [FE.out]; rfl, B3.out⟩
      | true =>
      have HQ := Pack.mk hq
      clear hq
      by_cases hf : fix = 32
      · subst hf
        go_wp2_with fail
        have FE : Pack (encV ⟨kind, opc, f3, f7, 32⟩ ⟨op, rd, rs1, 0, imm⟩ = (wordV ⟨kind, opc, f3, f7, 32⟩ ⟨op, rd, rs1, 0, imm⟩, 0)) := ⟨by unfold encV; rw [U.out, HQ.out]; rfl⟩
        go_region_held3 (fun W => (W.cell? ⟨w.heap.size, 0, none⟩ = some (.int .i64 op) ∧ W.cell? ⟨w.heap.size, 1, none⟩ = some (.int .i64 rd) ∧ W.cell? ⟨w.heap.size, 2, none⟩ = some (.int .i64 rs1) ∧ W.cell? ⟨w.heap.size, 3, none⟩ = some (.int .i64 0) ∧ W.cell? ⟨w.heap.size, 4, none⟩ = some (.int .i64 imm)) ∧ (W.cell? ⟨b4, 0, none⟩ = some (.int .u8 kind) ∧ W.cell? ⟨b4, 1, none⟩ = some (.int .u32 opc) ∧ W.cell? ⟨b4, 2, none⟩ = some (.int .u32 f3) ∧ W.cell? ⟨b4, 3, none⟩ = some (.int .u32 f7) ∧ W.cell? ⟨b4, 4, none⟩ = some (.int .i64 32))) (first | go_keep | exact T3.out.step_drew h3) ((go_at_call 105; refine (CI.out _).mono ?_; rintro e w3 ⟨rfl, h3⟩))
        go_wp2
        go_ret2
        exact ⟨by unfold encVal; rw [FE.out]; simp only [wordV, if_pos]; rfl, below_step B3.out ⟨h3.os, h3.tape, h3.output, h3.size, h3.block⟩⟩
      · go_wp2_with fail
        have FE : Pack (encV ⟨kind, opc, f3, f7, fix⟩ ⟨op, rd, rs1, 0, imm⟩ = (wordV ⟨kind, opc, f3, f7, fix⟩ ⟨op, rd, rs1, 0, imm⟩, 0)) := ⟨by unfold encV; rw [U.out, HQ.out]; rfl⟩
        go_region_held3 (fun W => (W.cell? ⟨w.heap.size, 0, none⟩ = some (.int .i64 op) ∧ W.cell? ⟨w.heap.size, 1, none⟩ = some (.int .i64 rd) ∧ W.cell? ⟨w.heap.size, 2, none⟩ = some (.int .i64 rs1) ∧ W.cell? ⟨w.heap.size, 3, none⟩ = some (.int .i64 0) ∧ W.cell? ⟨w.heap.size, 4, none⟩ = some (.int .i64 imm)) ∧ (W.cell? ⟨b4, 0, none⟩ = some (.int .u8 kind) ∧ W.cell? ⟨b4, 1, none⟩ = some (.int .u32 opc) ∧ W.cell? ⟨b4, 2, none⟩ = some (.int .u32 f3) ∧ W.cell? ⟨b4, 3, none⟩ = some (.int .u32 f7) ∧ W.cell? ⟨b4, 4, none⟩ = some (.int .i64 fix))) (first | go_keep | exact T3.out.step_drew h3) ((go_at_call 105; refine (CI.out _).mono ?_; rintro e w3 ⟨rfl, h3⟩))
        go_wp2
        go_ret2
        exact ⟨by unfold encVal; rw [FE.out]; simp only [wordV, if_neg hf]; rfl, below_step B3.out ⟨h3.os, h3.tape, h3.output, h3.size, h3.block⟩⟩
    · obtain ⟨rfl, rfl, rfl, rfl⟩ := h
      obtain rfl : rd = 0 := F4.out.1 rfl
      obtain ⟨⟨x0, x1, x2, x3, x4⟩, y0, y1, y2, y3, y4⟩ := S10.out
      have j0 := idx129_0
      have m0 := idx162_0
      have j1 := idx129_1
      have m1 := idx162_1
      have j2 := idx129_2
      have m2 := idx162_2
      have j3 := idx129_3
      have m3 := idx162_3
      have n0 := idx163_0
      have n1 := idx163_1
      have n2 := idx163_2
      go_wp2_with fail
      refine (C81.out _).mono ?_
      rintro e w1 ⟨rfl, h1⟩
      have T1 := Pack.mk (S10.out.step h1)
      have B1 := Pack.mk (below_step B0.out h1)
      clear x0 x1 x2 x3 x4 y0 y1 y2 y3 y4 h1
      obtain ⟨⟨x0, x1, x2, x3, x4⟩, y0, y1, y2, y3, y4⟩ := T1.out
      go_wp2_with fail
      refine wp_loop_rounds 5 ?_
      rw [rounds_succ]
      go_wp2_with fail
      rw [rounds_succ]
      go_wp2_with fail
      rw [rounds_succ]
      go_wp2_with fail
      rw [rounds_succ]
      go_wp2_with fail
      rw [rounds_succ]
      go_wp2_with fail
      refine wp_loop_rounds 4 ?_
      rw [rounds_succ]
      go_wp2_with fail
      rw [rounds_succ]
      go_wp2_with fail
      rw [rounds_succ]
      go_wp2_with fail
      rw [rounds_succ]
      go_wp2_with fail
      refine (C81.out _).mono ?_
      rintro e w2 ⟨rfl, h1⟩
      have T2 := Pack.mk (T1.out.step h1)
      have B2 := Pack.mk (below_step B1.out h1)
      clear x0 x1 x2 x3 x4 y0 y1 y2 y3 y4 h1
      obtain ⟨⟨x0, x1, x2, x3, x4⟩, y0, y1, y2, y3, y4⟩ := T2.out
      go_wp2_with fail
      refine (CT.out _).mono ?_
      rintro e w2 ⟨rfl, h1⟩
      have T3 := Pack.mk (T2.out.step h1)
      have B3 := Pack.mk (below_step B2.out h1)
      clear x0 x1 x2 x3 x4 y0 y1 y2 y3 y4 h1
      obtain ⟨⟨x0, x1, x2, x3, x4⟩, y0, y1, y2, y3, y4⟩ := T3.out
      generalize hq : fitsV ⟨kind, opc, f3, f7, fix⟩ imm = q
      cases q with
      | false =>
        have FE : Pack (encV ⟨kind, opc, f3, f7, fix⟩ ⟨op, 0, rs1, rs2, imm⟩ = (0, 1)) := ⟨by unfold encV; rw [U.out, hq]; rfl⟩
        clear hq
        go_wp2
        go_ret2
        exact ⟨by unfold encVal; rw [FE.out]; rfl, B3.out⟩
      | true =>
      have HQ := Pack.mk hq
      clear hq
      by_cases hf : fix = 32
      · subst hf
        go_wp2_with fail
        have FE : Pack (encV ⟨kind, opc, f3, f7, 32⟩ ⟨op, 0, rs1, rs2, imm⟩ = (wordV ⟨kind, opc, f3, f7, 32⟩ ⟨op, 0, rs1, rs2, imm⟩, 0)) := ⟨by unfold encV; rw [U.out, HQ.out]; rfl⟩
        go_region_held3 (fun W => (W.cell? ⟨w.heap.size, 0, none⟩ = some (.int .i64 op) ∧ W.cell? ⟨w.heap.size, 1, none⟩ = some (.int .i64 0) ∧ W.cell? ⟨w.heap.size, 2, none⟩ = some (.int .i64 rs1) ∧ W.cell? ⟨w.heap.size, 3, none⟩ = some (.int .i64 rs2) ∧ W.cell? ⟨w.heap.size, 4, none⟩ = some (.int .i64 imm)) ∧ (W.cell? ⟨b4, 0, none⟩ = some (.int .u8 kind) ∧ W.cell? ⟨b4, 1, none⟩ = some (.int .u32 opc) ∧ W.cell? ⟨b4, 2, none⟩ = some (.int .u32 f3) ∧ W.cell? ⟨b4, 3, none⟩ = some (.int .u32 f7) ∧ W.cell? ⟨b4, 4, none⟩ = some (.int .i64 32))) (first | go_keep | exact T3.out.step_drew h3) ((go_at_call 105; refine (CI.out _).mono ?_; rintro e w3 ⟨rfl, h3⟩))
        go_wp2
        go_ret2
        exact ⟨by unfold encVal; rw [FE.out]; simp only [wordV, if_pos]; rfl, below_step B3.out ⟨h3.os, h3.tape, h3.output, h3.size, h3.block⟩⟩
      · go_wp2_with fail
        have FE : Pack (encV ⟨kind, opc, f3, f7, fix⟩ ⟨op, 0, rs1, rs2, imm⟩ = (wordV ⟨kind, opc, f3, f7, fix⟩ ⟨op, 0, rs1, rs2, imm⟩, 0)) := ⟨by unfold encV; rw [U.out, HQ.out]; rfl⟩
        go_region_held3 (fun W => (W.cell? ⟨w.heap.size, 0, none⟩ = some (.int .i64 op) ∧ W.cell? ⟨w.heap.size, 1, none⟩ = some (.int .i64 0) ∧ W.cell? ⟨w.heap.size, 2, none⟩ = some (.int .i64 rs1) ∧ W.cell? ⟨w.heap.size, 3, none⟩ = some (.int .i64 rs2) ∧ W.cell? ⟨w.heap.size, 4, none⟩ = some (.int .i64 imm)) ∧ (W.cell? ⟨b4, 0, none⟩ = some (.int .u8 kind) ∧ W.cell? ⟨b4, 1, none⟩ = some (.int .u32 opc) ∧ W.cell? ⟨b4, 2, none⟩ = some (.int .u32 f3) ∧ W.cell? ⟨b4, 3, none⟩ = some (.int .u32 f7) ∧ W.cell? ⟨b4, 4, none⟩ = some (.int .i64 fix))) (first | go_keep | exact T3.out.step_drew h3) ((go_at_call 105; refine (CI.out _).mono ?_; rintro e w3 ⟨rfl, h3⟩))
        go_wp2
        go_ret2
        exact ⟨by unfold encVal; rw [FE.out]; simp only [wordV, if_neg hf]; rfl, below_step B3.out ⟨h3.os, h3.tape, h3.output, h3.size, h3.block⟩⟩
    · obtain ⟨rfl, rfl, rfl, rfl⟩ := h
      obtain rfl : rs1 = 0 := F4.out.2.1 rfl
      obtain rfl : rs2 = 0 := F4.out.2.2.1 rfl
      obtain ⟨⟨x0, x1, x2, x3, x4⟩, y0, y1, y2, y3, y4⟩ := S10.out
      have j0 := idx129_0
      have m0 := idx162_0
      have j1 := idx129_1
      have m1 := idx162_1
      have j2 := idx129_2
      have m2 := idx162_2
      have j3 := idx129_3
      have m3 := idx162_3
      have n0 := idx163_0
      have n1 := idx163_1
      have n2 := idx163_2
      go_wp2_with fail
      refine (C81.out _).mono ?_
      rintro e w1 ⟨rfl, h1⟩
      have T1 := Pack.mk (S10.out.step h1)
      have B1 := Pack.mk (below_step B0.out h1)
      clear x0 x1 x2 x3 x4 y0 y1 y2 y3 y4 h1
      obtain ⟨⟨x0, x1, x2, x3, x4⟩, y0, y1, y2, y3, y4⟩ := T1.out
      go_wp2_with fail
      refine wp_loop_rounds 5 ?_
      rw [rounds_succ]
      go_wp2_with fail
      rw [rounds_succ]
      go_wp2_with fail
      rw [rounds_succ]
      go_wp2_with fail
      rw [rounds_succ]
      go_wp2_with fail
      rw [rounds_succ]
      go_wp2_with fail
      refine wp_loop_rounds 4 ?_
      rw [rounds_succ]
      go_wp2_with fail
      rw [rounds_succ]
      go_wp2_with fail
      rw [rounds_succ]
      go_wp2_with fail
      rw [rounds_succ]
      go_wp2_with fail
      refine (C81.out _).mono ?_
      rintro e w2 ⟨rfl, h1⟩
      have T2 := Pack.mk (T1.out.step h1)
      have B2 := Pack.mk (below_step B1.out h1)
      clear x0 x1 x2 x3 x4 y0 y1 y2 y3 y4 h1
      obtain ⟨⟨x0, x1, x2, x3, x4⟩, y0, y1, y2, y3, y4⟩ := T2.out
      go_wp2_with fail
      refine (CT.out _).mono ?_
      rintro e w2 ⟨rfl, h1⟩
      have T3 := Pack.mk (T2.out.step h1)
      have B3 := Pack.mk (below_step B2.out h1)
      clear x0 x1 x2 x3 x4 y0 y1 y2 y3 y4 h1
      obtain ⟨⟨x0, x1, x2, x3, x4⟩, y0, y1, y2, y3, y4⟩ := T3.out
      generalize hq : fitsV ⟨kind, opc, f3, f7, fix⟩ imm = q
      cases q with
      | false =>
        have FE : Pack (encV ⟨kind, opc, f3, f7, fix⟩ ⟨op, rd, 0, 0, imm⟩ = (0, 1)) := ⟨by unfold encV; rw [U.out, hq]; rfl⟩
        clear hq
        go_wp2
        go_ret2
        exact ⟨by unfold encVal; rw [FE.out]; rfl, B3.out⟩
      | true =>
      have HQ := Pack.mk hq
      clear hq
      by_cases hf : fix = 32
      · subst hf
        go_wp2_with fail
        have FE : Pack (encV ⟨kind, opc, f3, f7, 32⟩ ⟨op, rd, 0, 0, imm⟩ = (wordV ⟨kind, opc, f3, f7, 32⟩ ⟨op, rd, 0, 0, imm⟩, 0)) := ⟨by unfold encV; rw [U.out, HQ.out]; rfl⟩
        go_region_held3 (fun W => (W.cell? ⟨w.heap.size, 0, none⟩ = some (.int .i64 op) ∧ W.cell? ⟨w.heap.size, 1, none⟩ = some (.int .i64 rd) ∧ W.cell? ⟨w.heap.size, 2, none⟩ = some (.int .i64 0) ∧ W.cell? ⟨w.heap.size, 3, none⟩ = some (.int .i64 0) ∧ W.cell? ⟨w.heap.size, 4, none⟩ = some (.int .i64 imm)) ∧ (W.cell? ⟨b4, 0, none⟩ = some (.int .u8 kind) ∧ W.cell? ⟨b4, 1, none⟩ = some (.int .u32 opc) ∧ W.cell? ⟨b4, 2, none⟩ = some (.int .u32 f3) ∧ W.cell? ⟨b4, 3, none⟩ = some (.int .u32 f7) ∧ W.cell? ⟨b4, 4, none⟩ = some (.int .i64 32))) (first | go_keep | exact T3.out.step_drew h3) ((go_at_call 105; refine (CI.out _).mono ?_; rintro e w3 ⟨rfl, h3⟩))
        go_wp2
        go_ret2
        exact ⟨by unfold encVal; rw [FE.out]; simp only [wordV, if_pos]; rfl, below_step B3.out ⟨h3.os, h3.tape, h3.output, h3.size, h3.block⟩⟩
      · go_wp2_with fail
        have FE : Pack (encV ⟨kind, opc, f3, f7, fix⟩ ⟨op, rd, 0, 0, imm⟩ = (wordV ⟨kind, opc, f3, f7, fix⟩ ⟨op, rd, 0, 0, imm⟩, 0)) := ⟨by unfold encV; rw [U.out, HQ.out]; rfl⟩
        go_region_held3 (fun W => (W.cell? ⟨w.heap.size, 0, none⟩ = some (.int .i64 op) ∧ W.cell? ⟨w.heap.size, 1, none⟩ = some (.int .i64 rd) ∧ W.cell? ⟨w.heap.size, 2, none⟩ = some (.int .i64 0) ∧ W.cell? ⟨w.heap.size, 3, none⟩ = some (.int .i64 0) ∧ W.cell? ⟨w.heap.size, 4, none⟩ = some (.int .i64 imm)) ∧ (W.cell? ⟨b4, 0, none⟩ = some (.int .u8 kind) ∧ W.cell? ⟨b4, 1, none⟩ = some (.int .u32 opc) ∧ W.cell? ⟨b4, 2, none⟩ = some (.int .u32 f3) ∧ W.cell? ⟨b4, 3, none⟩ = some (.int .u32 f7) ∧ W.cell? ⟨b4, 4, none⟩ = some (.int .i64 fix))) (first | go_keep | exact T3.out.step_drew h3) ((go_at_call 105; refine (CI.out _).mono ?_; rintro e w3 ⟨rfl, h3⟩))
        go_wp2
        go_ret2
        exact ⟨by unfold encVal; rw [FE.out]; simp only [wordV, if_neg hf]; rfl, below_step B3.out ⟨h3.os, h3.tape, h3.output, h3.size, h3.block⟩⟩
    · obtain ⟨rfl, rfl, rfl, rfl⟩ := h
      obtain rfl : rd = 0 := F4.out.1 rfl
      obtain rfl : rs1 = 0 := F4.out.2.1 rfl
      obtain rfl : rs2 = 0 := F4.out.2.2.1 rfl
      obtain rfl : imm = 0 := F4.out.2.2.2 rfl
      obtain ⟨⟨x0, x1, x2, x3, x4⟩, y0, y1, y2, y3, y4⟩ := S10.out
      have j0 := idx129_0
      have m0 := idx162_0
      have j1 := idx129_1
      have m1 := idx162_1
      have j2 := idx129_2
      have m2 := idx162_2
      have j3 := idx129_3
      have m3 := idx162_3
      have n0 := idx163_0
      have n1 := idx163_1
      have n2 := idx163_2
      go_wp2_with fail
      refine (C81.out _).mono ?_
      rintro e w1 ⟨rfl, h1⟩
      have T1 := Pack.mk (S10.out.step h1)
      have B1 := Pack.mk (below_step B0.out h1)
      clear x0 x1 x2 x3 x4 y0 y1 y2 y3 y4 h1
      obtain ⟨⟨x0, x1, x2, x3, x4⟩, y0, y1, y2, y3, y4⟩ := T1.out
      go_wp2_with fail
      refine wp_loop_rounds 5 ?_
      rw [rounds_succ]
      go_wp2_with fail
      rw [rounds_succ]
      go_wp2_with fail
      rw [rounds_succ]
      go_wp2_with fail
      rw [rounds_succ]
      go_wp2_with fail
      rw [rounds_succ]
      go_wp2_with fail
      refine wp_loop_rounds 4 ?_
      rw [rounds_succ]
      go_wp2_with fail
      rw [rounds_succ]
      go_wp2_with fail
      rw [rounds_succ]
      go_wp2_with fail
      rw [rounds_succ]
      go_wp2_with fail
      refine (C81.out _).mono ?_
      rintro e w2 ⟨rfl, h1⟩
      have T2 := Pack.mk (T1.out.step h1)
      have B2 := Pack.mk (below_step B1.out h1)
      clear x0 x1 x2 x3 x4 y0 y1 y2 y3 y4 h1
      obtain ⟨⟨x0, x1, x2, x3, x4⟩, y0, y1, y2, y3, y4⟩ := T2.out
      by_cases hf : fix = 32
      · subst hf
        go_wp2_with fail
        have FE : Pack (encV ⟨kind, opc, f3, f7, 32⟩ ⟨op, 0, 0, 0, 0⟩ = (wordV ⟨kind, opc, f3, f7, 32⟩ ⟨op, 0, 0, 0, 0⟩, 0)) := ⟨by unfold encV; rw [U.out]; rfl⟩
        go_region_held3 (fun W => (W.cell? ⟨w.heap.size, 0, none⟩ = some (.int .i64 op) ∧ W.cell? ⟨w.heap.size, 1, none⟩ = some (.int .i64 0) ∧ W.cell? ⟨w.heap.size, 2, none⟩ = some (.int .i64 0) ∧ W.cell? ⟨w.heap.size, 3, none⟩ = some (.int .i64 0) ∧ W.cell? ⟨w.heap.size, 4, none⟩ = some (.int .i64 0)) ∧ (W.cell? ⟨b4, 0, none⟩ = some (.int .u8 kind) ∧ W.cell? ⟨b4, 1, none⟩ = some (.int .u32 opc) ∧ W.cell? ⟨b4, 2, none⟩ = some (.int .u32 f3) ∧ W.cell? ⟨b4, 3, none⟩ = some (.int .u32 f7) ∧ W.cell? ⟨b4, 4, none⟩ = some (.int .i64 32))) (first | go_keep | exact T2.out.step_drew h3) ((go_at_call 105; refine (CI.out _).mono ?_; rintro e w3 ⟨rfl, h3⟩))
        go_wp2
        go_ret2
        exact ⟨by unfold encVal; rw [FE.out]; simp only [wordV, if_pos]; rfl, below_step B2.out ⟨h3.os, h3.tape, h3.output, h3.size, h3.block⟩⟩
      · go_wp2_with fail
        have FE : Pack (encV ⟨kind, opc, f3, f7, fix⟩ ⟨op, 0, 0, 0, 0⟩ = (wordV ⟨kind, opc, f3, f7, fix⟩ ⟨op, 0, 0, 0, 0⟩, 0)) := ⟨by unfold encV; rw [U.out]; rfl⟩
        go_region_held3 (fun W => (W.cell? ⟨w.heap.size, 0, none⟩ = some (.int .i64 op) ∧ W.cell? ⟨w.heap.size, 1, none⟩ = some (.int .i64 0) ∧ W.cell? ⟨w.heap.size, 2, none⟩ = some (.int .i64 0) ∧ W.cell? ⟨w.heap.size, 3, none⟩ = some (.int .i64 0) ∧ W.cell? ⟨w.heap.size, 4, none⟩ = some (.int .i64 0)) ∧ (W.cell? ⟨b4, 0, none⟩ = some (.int .u8 kind) ∧ W.cell? ⟨b4, 1, none⟩ = some (.int .u32 opc) ∧ W.cell? ⟨b4, 2, none⟩ = some (.int .u32 f3) ∧ W.cell? ⟨b4, 3, none⟩ = some (.int .u32 f7) ∧ W.cell? ⟨b4, 4, none⟩ = some (.int .i64 fix))) (first | go_keep | exact T2.out.step_drew h3) ((go_at_call 105; refine (CI.out _).mono ?_; rintro e w3 ⟨rfl, h3⟩))
        go_wp2
        go_ret2
        exact ⟨by unfold encVal; rw [FE.out]; simp only [wordV, if_neg hf]; rfl, below_step B2.out ⟨h3.os, h3.tape, h3.output, h3.size, h3.block⟩⟩
end Go.Proofs.YtgcpnjckbdajbaaGreatDoor.Ob
