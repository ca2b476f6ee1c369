import Derived.Test.YtgcpnjckbdajbaaGreatDoorON
import Derived.Test.YtgcpnjckbdajbaaGreatDoorOM
namespace Go.Proofs.YtgcpnjckbdajbaaGreatDoor.Ob
open Go.RowKit Go.Sort

/-- a symbol, as its five cells hold it -/
structure SymV where
  name : ByteArray
  sect : Int
  value : Int
  frame : Int
  glob : Bool
deriving DecidableEq
/-- a relocation -/
structure RelV where
  sect : Int
  place : Int
  kind : Int
  sym : Int
  add : Int
deriving DecidableEq
/-- an object -/
structure ObjV where
  text : List Int
  data : List Int
  syms : List SymV
  rels : List RelV
deriving DecidableEq
def encSym (x : SymV) : List Value := [.string x.name, .int .i64 x.sect, .int .i64 x.value, .int .i64 x.frame, .bool x.glob]
def encRel (x : RelV) : List Value := [.int .i64 x.sect, .int .i64 x.place, .int .i64 x.kind, .int .i64 x.sym, .int .i64 x.add]
def wordCells (xs : List Int) : List Value := xs.map (.int .u32)
def byteCells (xs : List Int) : List Value := xs.map (.int .u8)
def symCells (xs : List SymV) : List Value := xs.flatMap encSym
def relCells (xs : List RelV) : List Value := xs.flatMap encRel

/-- the four slices that a value holds are an object's -/
def Holds (B : Nat) (w : World) (v : Value) (o : ObjV) : Prop := ∃ a0 a1 a2 a3 c0 c1 c2 c3,
  v = .agg #[.slice a0 o.text.length c0, .slice a1 o.data.length c1, .slice a2 o.syms.length c2, .slice a3 o.rels.length c3] ∧
  Lies B w a0 (wordCells o.text) ∧ Lies B w a1 (byteCells o.data) ∧ Lies B w a2 (symCells o.syms) ∧ Lies B w a3 (relCells o.rels)

theorem Holds.step {B : Nat} {w w' : World} {v : Value} {o : ObjV} (h : Holds B w v o) (hb : Below w.heap.size w w') : Holds B w' v o := by
  obtain ⟨a0, a1, a2, a3, c0, c1, c2, c3, rfl, h0, h1, h2, h3⟩ := h
  exact ⟨a0, a1, a2, a3, c0, c1, c2, c3, rfl, h0.step hb, h1.step hb, h2.step hb, h3.step hb⟩

theorem flat_at {α β : Type} (enc : α → List β) (k : Nat) (hk : ∀ x, (enc x).length = k) (xs : List α) : ∀ i (h : i < xs.length) j v, (enc xs[i])[j]? = some v → (xs.flatMap enc)[i * k + j]? = some v := by
  induction xs with
  | nil => intro i h; simp at h
  | cons x xs ih =>
    intro i h j v hv
    rw [List.flatMap_cons]
    cases i with
    | zero =>
      have hj : j < (enc x).length := (List.getElem?_eq_some_iff.1 (by simpa using hv)).1
      rw [Nat.zero_mul, Nat.zero_add, List.getElem?_append_left hj]
      simpa using hv
    | succ i =>
      have e : (i + 1) * k + j = (enc x).length + (i * k + j) := by rw [hk, Nat.add_mul]; omega
      rw [e, List.getElem?_append_right (by omega), Nat.add_sub_cancel_left]
      exact ih i (by simpa using h) j v (by simpa using hv)
theorem flat_length {α β : Type} (enc : α → List β) (k : Nat) (hk : ∀ x, (enc x).length = k) (xs : List α) : (xs.flatMap enc).length = xs.length * k := by
  induction xs with
  | nil => simp
  | cons x xs ih => rw [List.flatMap_cons, List.length_append, ih, hk, List.length_cons, Nat.add_mul]; omega

theorem At.of_lies {B : Nat} {k : IntKind} {w : World} {ao : Option Addr} {xs : List Int} (h : Lies B w ao (xs.map (.int k))) : At k w ao xs := fun i hi => by
  obtain ⟨a, e, _, _, c⟩ := h i (.int k xs[i]) (by rw [List.getElem?_map, List.getElem?_eq_getElem hi]; rfl)
  exact ⟨a, e, c⟩

theorem add_add' (a : Addr) (i j : Nat) : (a.add i).add j = a.add (i + j) := by
  unfold Addr.add
  by_cases hi : i = 0 <;> by_cases hj : j = 0 <;> simp [hi, hj, Nat.add_assoc]

/-- the cells of element i -/
theorem Lies.elem {α : Type} {B : Nat} {w : World} {ao : Option Addr} {xs : List α} (enc : α → List Value) (k : Nat) (hk : ∀ x, (enc x).length = k) (h0 : 0 < k) (h : Lies B w ao (xs.flatMap enc)) (i : Nat) (hi : i < xs.length) :
    ∃ a, ao = some a ∧ B ≤ a.block ∧ a.block < w.heap.size ∧ ∀ j v, (enc xs[i])[j]? = some v → w.cell? ((a.add (i * k)).add j) = some v := by
  have hz : 0 < (enc xs[i]).length := by rw [hk]; exact h0
  obtain ⟨a, e, hb, hl, _⟩ := h _ _ (flat_at enc k hk xs i hi 0 _ (List.getElem?_eq_getElem hz))
  refine ⟨a, e, hb, hl, fun j v hv => ?_⟩
  obtain ⟨a', e', _, _, c⟩ := h _ _ (flat_at enc k hk xs i hi j v hv)
  rw [e] at e'
  cases e'
  rw [add_add']
  exact c

theorem info61 : (Tryz.prog.info? 61).map (fun i => (i.zero, i.size, i.bytes)) = some (some (.int .u32 0), 1, 4) := by kernel_rfl
theorem info5 : (Tryz.prog.info? 5).map (fun i => (i.zero, i.size, i.bytes)) = some (some (.int .u8 0), 1, 1) := by kernel_rfl
theorem info41 : (Tryz.prog.info? 41).map (fun i => (i.zero, i.size, i.bytes)) = some (some (.agg #[.string ⟨#[]⟩, .int .i64 0, .int .i64 0, .int .i64 0, .bool false]), 5, 48) := by kernel_rfl
theorem info67 : (Tryz.prog.info? 67).map (fun i => (i.zero, i.size, i.bytes)) = some (some (.agg #[.int .i64 0, .int .i64 0, .int .i64 0, .int .i64 0, .int .i64 0]), 5, 40) := by kernel_rfl
theorem u24 : Tryz.prog.underlying 24 = some (.slice 5) := Tryz.underlying24
theorem u25 : Tryz.prog.underlying 25 = some (.slice 41) := Tryz.underlying25
theorem u26 : Tryz.prog.underlying 26 = some (.slice 67) := Tryz.underlying26

def eqSym (x y : SymV) : Bool := x.name.toList == y.name.toList && (x.sect == y.sect && (x.value == y.value && (x.frame == y.frame && x.glob == y.glob)))
def eqRel (x y : RelV) : Bool := x.sect == y.sect && (x.place == y.place && (x.kind == y.kind && (x.sym == y.sym && x.add == y.add)))

theorem neqSym (x y : SymV) (w : World) : Sem.run Tryz.prog (binOp .neq 41 (.agg (encSym x).toArray) (.agg (encSym y).toArray)) w = .ok (.bool (!eqSym x y)) w := by
  have u3 := Tryz.underlying3
  have a3 := Tryz.isAgg3
  have z3 := Tryz.sizeOf3
  have u4 := Tryz.underlying4
  have a4 := Tryz.isAgg4
  have z4 := Tryz.sizeOf4
  have u9 := Tryz.underlying9
  have a9 := Tryz.isAgg9
  have z9 := Tryz.sizeOf9
  have hS : Tryz.prog.underlying 41 = some (.struct (Tryz.prog.fieldsOf 41)) := by kernel_rfl
  have hp : Tryz.prog.stoodInHeld 41 = false := by kernel_rfl
  simp only [encSym]
  rw [run_neq_struct, show (10000 : Nat) = 9999 + 1 from rfl, run_equalIn_agg w 9999 41 _ _ hS hp]
  simp only [Program.fieldsOf, Tryz.underlying41]
  go_simp
  simp only [eqSym]
  by_cases h1 : x.name.toList = y.name.toList <;> by_cases h2 : x.sect = y.sect <;> by_cases h3 : x.value = y.value <;> by_cases h4 : x.frame = y.frame <;> by_cases h5 : x.glob = y.glob <;> simp [h1, h2, h3, h4, h5]

theorem neqRel (x y : RelV) (w : World) : Sem.run Tryz.prog (binOp .neq 67 (.agg (encRel x).toArray) (.agg (encRel y).toArray)) w = .ok (.bool (!eqRel x y)) w := by
  have u3 := Tryz.underlying3
  have a3 := Tryz.isAgg3
  have z3 := Tryz.sizeOf3
  have hS : Tryz.prog.underlying 67 = some (.struct (Tryz.prog.fieldsOf 67)) := by kernel_rfl
  have hp : Tryz.prog.stoodInHeld 67 = false := by kernel_rfl
  simp only [encRel]
  rw [run_neq_struct, show (10000 : Nat) = 9999 + 1 from rfl, run_equalIn_agg w 9999 67 _ _ hS hp]
  simp only [Program.fieldsOf, Tryz.underlying67]
  go_simp
  simp only [eqRel]
  by_cases h1 : x.sect = y.sect <;> by_cases h2 : x.place = y.place <;> by_cases h3 : x.kind = y.kind <;> by_cases h4 : x.sym = y.sym <;> by_cases h5 : x.add = y.add <;> simp [h1, h2, h3, h4, h5]

theorem guardSym (op : BinOp) (a b : Operand) (x y : SymV) (w : World) : Sem.run Tryz.prog (eqGuard op 41 a b (.agg (encSym x).toArray) (.agg (encSym y).toArray)) w = .ok () w := run_eqGuard_agg w op 41 a b _ _ (by kernel_rfl)
theorem guardRel (op : BinOp) (a b : Operand) (x y : RelV) (w : World) : Sem.run Tryz.prog (eqGuard op 67 a b (.agg (encRel x).toArray) (.agg (encRel y).toArray)) w = .ok () w := run_eqGuard_agg w op 67 a b _ _ (by kernel_rfl)
theorem toList_inj {a b : ByteArray} (h : a.toList = b.toList) : a = b := ByteArray.ext (Array.ext' (by rw [← ByteArray.toList_eq, ← ByteArray.toList_eq, h]))
theorem eqSym_iff (x y : SymV) : eqSym x y = decide (x = y) := by
  rw [Bool.eq_iff_iff]
  simp only [eqSym, Bool.and_eq_true, beq_iff_eq, decide_eq_true_iff]
  constructor
  · rintro ⟨h1, h2, h3, h4, h5⟩
    have h1 := toList_inj h1
    cases x; cases y
    simp_all
  · rintro rfl; simp
theorem eqRel_iff (x y : RelV) : eqRel x y = decide (x = y) := by
  rw [Bool.eq_iff_iff]
  simp only [eqRel, Bool.and_eq_true, beq_iff_eq, decide_eq_true_iff]
  constructor
  · rintro ⟨h1, h2, h3, h4, h5⟩
    cases x; cases y
    simp_all
  · rintro rfl; simp

end Go.Proofs.YtgcpnjckbdajbaaGreatDoor.Ob
