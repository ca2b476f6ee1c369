import Derived.Test.YtgcpnjckbdajbaaGreatDoorOA
import Derived.RowKitTokens
import Derived.Below
namespace Go.Proofs.YtgcpnjckbdajbaaGreatDoor.Ob
open Go.RowKit Go.Sort

/-- one fact kept as it is -/
structure Pack (p : Prop) : Prop where mk :: (out : p)

theorem below_grow {B : Nat} {w w' : World} (h : Below B w w') (hB : B ≤ w.heap.size) (k : Nat) (os : Array Obj) : Below B w (grow (w'.drewN k) os) := by
  refine h.trans ⟨rfl, rfl, rfl, by simp [grow], fun i hi => ?_⟩
  have := h.size
  show (w'.heap ++ os)[i]? = w'.heap[i]?
  rw [Array.getElem?_append_left (by omega)]
theorem kept_grow {e : TypeId} {b : Option Nat} {w w' : World} (h : Lib.OthersKept e b w w') (k : Nat) (os : Array Obj) : Lib.OthersKept e b w (grow (w'.drewN k) os) := by
  refine h.trans ?_
  intro i o hi _ _
  show (w'.heap ++ os)[i]? = some o
  rw [Array.getElem?_append_left (Array.getElem?_eq_some_iff.1 hi).1]
  exact hi
theorem grownBy_grow (w : World) (k : Nat) (os : Array Obj) : w.grownBy (grow (w.drewN k) os) none :=
  ⟨rfl, rfl, rfl, by simp [grow], fun i hi _ => by
    show (w.heap ++ os)[i]? = w.heap[i]?
    rw [Array.getElem?_append_left hi]⟩
theorem at_grow {T e : TypeId} {B b : Nat} {p : Value} {bs : List Value} {w : World} (h : Lib.BuilderAtF T e B b p bs w) (k : Nat) (os : Array Obj) : Lib.BuilderAtF T e B b p bs (grow (w.drewN k) os) := by
  have hlt := h.lt
  obtain ⟨hB, v, hb, hown, hne⟩ := h
  refine ⟨hB, v, ?_, hown.kept (grownBy_grow w k os) (by cases hv : v.ownBlock <;> simp), hne⟩
  show (w.heap ++ os)[b]? = _
  rw [Array.getElem?_append_left hlt]
  exact hb
theorem is_grow {T e : TypeId} {B b : Nat} {bs : List Value} {w : World} (h : Lib.IsBuilderF T e B b bs w) (k : Nat) (os : Array Obj) : Lib.IsBuilderF T e B b bs (grow (w.drewN k) os) :=
  h.elim (fun x => .inl (at_grow x k os)) (fun x => .inr (at_grow x k os))

/-- the builder of block b holds the bytes l; below B nothing has turned since w0, and above it no block that is not b or a row of bytes -/
structure Bld (B b : Nat) (l : List UInt8) (w0 w : World) : Prop where
  is : Lib.IsBuilderF 73 5 B b (Lib.byteCells l) w
  below : Below B w0 w
  kept : Lib.OthersKept 5 (some b) w0 w
theorem Bld.grew {B b : Nat} {l : List UInt8} {w0 w : World} (h : Bld B b l w0 w) (hB : B ≤ w0.heap.size) (k : Nat) (os : Array Obj) : Bld B b l w0 (grow (w.drewN k) os) :=
  ⟨is_grow h.is k os, below_grow h.below hB k os, kept_grow h.kept k os⟩
theorem Bld.alloc {B b : Nat} {l : List UInt8} {w0 w : World} (h : Bld B b l w0 w) (hB : B ≤ w0.heap.size) (o : Obj) : Bld B b l w0 (w.alloc o) :=
  ⟨h.is.alloc o, h.below.alloc (by have := h.below.size; omega) o, h.kept.alloc o⟩
theorem Bld.drew {B b : Nat} {l : List UInt8} {w0 w : World} (h : Bld B b l w0 w) : Bld B b l w0 w.drew :=
  ⟨h.is.elim (fun x => .inl x.drew) (fun x => .inr x.drew), h.below.drew, h.kept.drew⟩

/-- the ints that a slice's first places hold -/
def IntsAt (b : Nat) (w : World) (ao : Option Addr) (xs : List Int) : Prop :=
  xs = [] ∨ ∃ R cs t fz, ao = some ⟨R, 0, none⟩ ∧ R ≠ b ∧ t ≠ 5 ∧ w.heap[R]? = some (.cells cs t fz) ∧ ∀ i (h : i < xs.length), cs[i]? = some (.int .i64 xs[i])
theorem IntsAt.kept {b : Nat} {w w' : World} {ao : Option Addr} {xs : List Int} (h : IntsAt b w ao xs) (k : Lib.OthersKept 5 (some b) w w') : IntsAt b w' ao xs := by
  rcases h with h | ⟨R, cs, t, fz, h1, h2, h3, h4, h5⟩
  · exact .inl h
  · exact .inr ⟨R, cs, t, fz, h1, h2, h3, k R _ h4 (fun e => h2 (Option.some.inj e)) (fun c f e => h3 (by cases e; rfl)), h5⟩
theorem IntsAt.cell {b : Nat} {w : World} {ao : Option Addr} {xs : List Int} (h : IntsAt b w ao xs) {i : Nat} (hi : i < xs.length) : ∃ R, ao = some ⟨R, 0, none⟩ ∧ w.cell? ⟨R, i, none⟩ = some (.int .i64 xs[i]) := by
  rcases h with h | ⟨R, cs, t, fz, h1, h2, h3, h4, h5⟩
  · subst h; simp at hi
  · exact ⟨R, h1, by rw [Lib.cell_of_heap h4]; exact h5 i hi⟩

def numTail (xs : List Int) : List UInt8 := xs.flatMap fun x => 32 :: Lib.itoa x
def lineText (word : List UInt8) (xs : List Int) : List UInt8 := word ++ numTail xs ++ [10]

theorem Bld.string {B b : Nat} {l : List UInt8} {w0 w : World} (h : Bld B b l w0 w) (hB : B ≤ w0.heap.size) (s : ByteArray) (hlen : l.length + s.size ≤ 140737488355328) :
    Calls Tryz.prog 56 #[.pointer (some ⟨b, 0, none⟩), .string s] w fun e w' => e = .returned (.tuple #[.int .i64 s.size, .nilIface]) ∧ Bld B b (l ++ s.data.toList) w0 w' := by
  refine (writeString_calls B b _ s w h.is (by rw [Lib.byteCells_length]; exact hlen) (by have := h.below.size; omega)).mono ?_
  rintro e w' ⟨rfl, h1, h2, h3⟩
  refine ⟨rfl, .inr ?_, h.below.trans h2, h.kept.trans h3⟩
  rw [Lib.byteCells_append, ← Lib.strCells_eq]
  exact h1
theorem Bld.byte {B b : Nat} {l : List UInt8} {w0 w : World} (h : Bld B b l w0 w) (hB : B ≤ w0.heap.size) (hlen : l.length + 1 ≤ 140737488355328) :
    Calls Tryz.prog 57 #[.pointer (some ⟨b, 0, none⟩), .int .u8 10] w fun e w' => e = .returned .nilIface ∧ Bld B b (l ++ [10]) w0 w' := by
  refine (writeByte_calls B b _ 10 w h.is (by rw [Lib.byteCells_length]; exact hlen) (by have := h.below.size; omega)).mono ?_
  rintro e w' ⟨rfl, h1, h2, h3⟩
  refine ⟨rfl, .inr ?_, h.below.trans h2, h.kept.trans h3⟩
  rw [Lib.byteCells_append]
  exact h1
end Go.Proofs.YtgcpnjckbdajbaaGreatDoor.Ob
