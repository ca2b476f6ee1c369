import Derived.Test.YtgcpnjckbdajbaaGreatDoorOW
import Derived.Deep.Slices
import Derived.Lib.SmallJoins
import Derived.WideKeyArgs
import Derived.ChangeMaps5
namespace Go.Proofs.YtgcpnjckbdajbaaGreatDoor.Ob
open Go.RowKit Go.Sort Go.WideShapes Go.ChangeShapes

theorem flat_inv {α β : Type} (enc : α → List β) (k : Nat) (hk : ∀ x, (enc x).length = k) (xs : List α) : ∀ j v, (xs.flatMap enc)[j]? = some v → ∃ i, ∃ h : i < xs.length, ∃ q, j = i * k + q ∧ (enc xs[i])[q]? = some v := by
  induction xs with
  | nil => intro j v h; simp at h
  | cons x xs ih =>
    intro j v h
    rw [List.flatMap_cons] at h
    by_cases hj : j < (enc x).length
    · rw [List.getElem?_append_left hj] at h
      exact ⟨0, by simp, j, by omega, by simpa using h⟩
    · rw [List.getElem?_append_right (by omega)] at h
      obtain ⟨i, hi, q, e, hv⟩ := ih _ _ h
      refine ⟨i + 1, by simp; omega, q, ?_, by simpa using hv⟩
      rw [hk] at hj e
      rw [Nat.add_mul]
      omega

section
variable {H : Type} {enc : TypeId × Value → H} {P : Program} {W : World} {sp : Nat → Bool} {held : Bool}

theorem cell_lt {w : World} {a : Addr} {v : Value} (h : w.cell? a = some v) : a.block < w.heap.size := by
  unfold World.cell? at h
  rcases Nat.lt_or_ge a.block w.heap.size with h' | h'
  · exact h'
  · rw [Array.getElem?_eq_none h'] at h
    cases h

instance : Inhabited SymV := ⟨⟨ByteArray.empty, 0, 0, 0, false⟩⟩
instance : Inhabited RelV := ⟨⟨0, 0, 0, 0, 0⟩⟩
/-- a slice whose elements are opened -/
theorem open_elems {α : Type} [Inhabited α] (en : α → List Value) (val : α → Prop) {t e : TypeId} (ht : P.underlying t = some (.slice e)) (k : Nat) (hc : P.cellsOf e = k) (hlen : ∀ x, (en x).length = k)
    (hE : ∀ n cs y, DataW.trod enc P W 0 sp held n e cs = some y → ∃ x, cs = en x ∧ val x) {fuel : Nat} {cs : List Value} {X : DataW H × List MemPlace} (h : DataW.trod enc P W 0 sp held fuel t cs = some X) :
    ∃ (ao : Option Addr) (xs : List α) (c : Nat), cs = [.slice ao xs.length c] ∧ Lies 0 W ao (xs.flatMap en) ∧ (∀ x ∈ xs, val x) ∧ xs.length ≤ maxLen := by
  rcases Go.Deep.open_slice ht h with ⟨rfl, rfl⟩ | ⟨a, len, cap, m, n, D, Pl, rfl, hb, hl, hm, hmm, rfl, hx⟩
  · exact ⟨none, [], 0, rfl, Lies.nil _ _ _, (fun _ h => by cases h), Nat.zero_le _⟩
  · have hle : len ≤ m := by rw [hmm]; split <;> omega
    obtain ⟨f, hf⟩ := Go.Deep.choose_lt (α := α) (n := len) (p := fun i x => val x ∧ W.cells? 0 (a.add (i * k)) k = some (en x)) (fun i hi => by
      obtain ⟨cs', h1, h2⟩ := hx i (by omega)
      obtain ⟨x, rfl, hv⟩ := hE _ _ _ h2
      rw [hc] at h1
      exact ⟨x, hv, h1⟩)
    refine ⟨some a, (List.range len).map f, cap, by simp, fun j u hj => ?_, fun x hx => ?_, by simp; omega⟩
    · obtain ⟨i, hi, q, rfl, hq⟩ := flat_inv en k hlen _ _ _ hj
      have hi' : i < len := by simpa using hi
      simp only [List.getElem_map, List.getElem_range] at hq
      have h3 := (World.cells?_some (hf i hi').2).2.2 q (by rw [← hlen (f i)]; exact (List.getElem?_eq_some_iff.1 hq).1)
      rw [hq, add_add'] at h3
      refine ⟨a, rfl, Nat.zero_le _, ?_, h3⟩
      have := cell_lt h3
      rwa [add_block] at this
    · obtain ⟨i, hi, rfl⟩ := List.mem_map.1 hx
      exact (hf i (List.mem_range.1 hi)).1
end

theorem flat_one (f : Int → Value) (xs : List Int) : xs.map f = xs.flatMap (fun x => [f x]) := by
  induction xs with
  | nil => rfl
  | cons x xs ih => rw [List.map_cons, List.flatMap_cons, ih]; rfl
/-- what an argument's numbers keep to -/
def SymV.Ok (s : SymV) : Prop := s.name.size ≤ maxLen ∧ (Lit.int .i64 s.sect).wf = true ∧ (Lit.int .i64 s.value).wf = true ∧ (Lit.int .i64 s.frame).wf = true
def RelV.Ok (r : RelV) : Prop := (Lit.int .i64 r.sect).wf = true ∧ (Lit.int .i64 r.place).wf = true ∧ (Lit.int .i64 r.kind).wf = true ∧ (Lit.int .i64 r.sym).wf = true ∧ (Lit.int .i64 r.add).wf = true
structure ObjV.Ok (o : ObjV) : Prop where
  text : ∀ x ∈ o.text, (Lit.int .u32 x).wf = true
  data : ∀ x ∈ o.data, (Lit.int .u8 x).wf = true
  syms : ∀ s ∈ o.syms, s.Ok
  rels : ∀ r ∈ o.rels, r.Ok
  lens : o.text.length ≤ maxLen ∧ o.data.length ≤ maxLen ∧ o.syms.length ≤ maxLen ∧ o.rels.length ≤ maxLen

section
variable {H : Type} {enc : TypeId × Value → H} {W : World} {sp : Nat → Bool} {held : Bool}

set_option maxRecDepth 100000 in
theorem open_sym {n : Nat} {cs : List Value} {y : DataW H × List MemPlace} (h : DataW.trod enc Tryz.prog W 0 sp held n 41 cs = some y) : ∃ s : SymV, cs = encSym s ∧ s.Ok := by
  obtain ⟨xs, n, _, rfl, hl, hn, hf⟩ := DataW.trod_struct Tryz.underlying41 h
  rw [show Tryz.prog.cellsOf 41 = 5 by kernel_rfl] at hl
  have c9 : Tryz.prog.cellsOf 9 = 1 := by kernel_rfl
  have c3 : Tryz.prog.cellsOf 3 = 1 := by kernel_rfl
  have c4 : Tryz.prog.cellsOf 4 = 1 := by kernel_rfl
  match cs, hl, xs, hn with
  | [v0, v1, v2, v3, v4], _, [y0, y1, y2, y3, y4], _ =>
    have f0 : DataW.trod enc Tryz.prog W 0 sp held n 9 (List.take (Tryz.prog.cellsOf 9) [v0, v1, v2, v3, v4]) = some y0 := hf 0 _ rfl
    rw [c9] at f0
    have f1 : DataW.trod enc Tryz.prog W 0 sp held n 3 (List.take (Tryz.prog.cellsOf 3) (List.drop 1 [v0, v1, v2, v3, v4])) = some y1 := hf 1 _ rfl
    rw [c3] at f1
    have f2 : DataW.trod enc Tryz.prog W 0 sp held n 3 (List.take (Tryz.prog.cellsOf 3) (List.drop 2 [v0, v1, v2, v3, v4])) = some y2 := hf 2 _ rfl
    rw [c3] at f2
    have f3 : DataW.trod enc Tryz.prog W 0 sp held n 3 (List.take (Tryz.prog.cellsOf 3) (List.drop 3 [v0, v1, v2, v3, v4])) = some y3 := hf 3 _ rfl
    rw [c3] at f3
    have f4 : DataW.trod enc Tryz.prog W 0 sp held n 4 (List.take (Tryz.prog.cellsOf 4) (List.drop 4 [v0, v1, v2, v3, v4])) = some y4 := hf 4 _ rfl
    rw [c4] at f4
    obtain ⟨s, e0, -, w0⟩ := DataW.trod_string (cs := [v0]) Tryz.underlying9 f0
    obtain ⟨i1, e1, -, w1⟩ := DataW.trod_int (cs := [v1]) Tryz.underlying3 f1
    obtain ⟨i2, e2, -, w2⟩ := DataW.trod_int (cs := [v2]) Tryz.underlying3 f2
    obtain ⟨i3, e3, -, w3⟩ := DataW.trod_int (cs := [v3]) Tryz.underlying3 f3
    obtain ⟨b, e4, -⟩ := DataW.trod_bool (cs := [v4]) Tryz.underlying4 f4
    cases e0; cases e1; cases e2; cases e3; cases e4
    exact ⟨⟨s, i1, i2, i3, b⟩, rfl, w0, w1, w2, w3⟩
set_option maxRecDepth 100000 in
theorem open_rel {n : Nat} {cs : List Value} {y : DataW H × List MemPlace} (h : DataW.trod enc Tryz.prog W 0 sp held n 67 cs = some y) : ∃ r : RelV, cs = encRel r ∧ r.Ok := by
  obtain ⟨xs, n, _, rfl, hl, hn, hf⟩ := DataW.trod_struct Tryz.underlying67 h
  rw [show Tryz.prog.cellsOf 67 = 5 by kernel_rfl] at hl
  have c3 : Tryz.prog.cellsOf 3 = 1 := by kernel_rfl
  match cs, hl, xs, hn with
  | [v0, v1, v2, v3, v4], _, [y0, y1, y2, y3, y4], _ =>
    have f0 : DataW.trod enc Tryz.prog W 0 sp held n 3 (List.take (Tryz.prog.cellsOf 3) [v0, v1, v2, v3, v4]) = some y0 := hf 0 _ rfl
    rw [c3] at f0
    have f1 : DataW.trod enc Tryz.prog W 0 sp held n 3 (List.take (Tryz.prog.cellsOf 3) (List.drop 1 [v0, v1, v2, v3, v4])) = some y1 := hf 1 _ rfl
    rw [c3] at f1
    have f2 : DataW.trod enc Tryz.prog W 0 sp held n 3 (List.take (Tryz.prog.cellsOf 3) (List.drop 2 [v0, v1, v2, v3, v4])) = some y2 := hf 2 _ rfl
    rw [c3] at f2
    have f3 : DataW.trod enc Tryz.prog W 0 sp held n 3 (List.take (Tryz.prog.cellsOf 3) (List.drop 3 [v0, v1, v2, v3, v4])) = some y3 := hf 3 _ rfl
    rw [c3] at f3
    have f4 : DataW.trod enc Tryz.prog W 0 sp held n 3 (List.take (Tryz.prog.cellsOf 3) (List.drop 4 [v0, v1, v2, v3, v4])) = some y4 := hf 4 _ rfl
    rw [c3] at f4
    obtain ⟨i0, e0, -, w0⟩ := DataW.trod_int (cs := [v0]) Tryz.underlying3 f0
    obtain ⟨i1, e1, -, w1⟩ := DataW.trod_int (cs := [v1]) Tryz.underlying3 f1
    obtain ⟨i2, e2, -, w2⟩ := DataW.trod_int (cs := [v2]) Tryz.underlying3 f2
    obtain ⟨i3, e3, -, w3⟩ := DataW.trod_int (cs := [v3]) Tryz.underlying3 f3
    obtain ⟨i4, e4, -, w4⟩ := DataW.trod_int (cs := [v4]) Tryz.underlying3 f4
    cases e0; cases e1; cases e2; cases e3; cases e4
    exact ⟨⟨i0, i1, i2, i3, i4⟩, rfl, w0, w1, w2, w3, w4⟩
set_option maxRecDepth 100000 in
theorem open_obj {r : Reach} {b0 : Nat} {v : Value} {d : DataW H} {ps : List MemPlace} (hval : Value.okWide Tryz.prog W r b0 28 v) (h : DataW.Trod enc Tryz.prog W 0 sp held 28 v d ps) : ∃ o : ObjV, Holds 0 W v o ∧ o.Ok := by
  obtain ⟨cs, rfl, hsz⟩ := okWide_struct Tryz.underlying28 hval
  rw [show Tryz.prog.cellsOf 28 = 4 by kernel_rfl] at hsz
  obtain ⟨n, h⟩ := h
  obtain ⟨y0, y1, y2, y3, n, hx, hl, f0, f1, f2, f3⟩ := Go.Joins.trod_struct4 Tryz.underlying28 h
  obtain ⟨v0, v1, v2, v3, rfl⟩ := Go.Joins.array4 hsz
  have c23 : Tryz.prog.cellsOf 23 = 1 := by kernel_rfl
  have c24 : Tryz.prog.cellsOf 24 = 1 := by kernel_rfl
  have c25 : Tryz.prog.cellsOf 25 = 1 := by kernel_rfl
  have c26 : Tryz.prog.cellsOf 26 = 1 := by kernel_rfl
  simp only [c23, c24, c25, c26] at f0 f1 f2 f3
  obtain ⟨a0, xs0, q0, e0, l0, w0, m0⟩ := open_elems (fun x : Int => [.int .u32 x]) (fun x => (Lit.int .u32 x).wf = true) Tryz.underlying23 1 (by kernel_rfl) (fun _ => rfl) (fun n cs y hy => by
    obtain ⟨i, e, -, hw⟩ := DataW.trod_int Tryz.underlying61 hy
    exact ⟨i, e, hw⟩) f0
  obtain ⟨a1, xs1, q1, e1, l1, w1, m1⟩ := open_elems (fun x : Int => [.int .u8 x]) (fun x => (Lit.int .u8 x).wf = true) Tryz.underlying24 1 (by kernel_rfl) (fun _ => rfl) (fun n cs y hy => by
    obtain ⟨i, e, -, hw⟩ := DataW.trod_int Tryz.underlying5 hy
    exact ⟨i, e, hw⟩) f1
  obtain ⟨a2, xs2, q2, e2, l2, w2, m2⟩ := open_elems encSym SymV.Ok Tryz.underlying25 5 (by kernel_rfl) encSym_len (fun n cs y hy => open_sym hy) f2
  obtain ⟨a3, xs3, q3, e3, l3, w3, m3⟩ := open_elems encRel RelV.Ok Tryz.underlying26 5 (by kernel_rfl) encRel_len (fun n cs y hy => open_rel hy) f3
  simp [Value.cells] at e0 e1 e2 e3
  refine ⟨⟨xs0, xs1, xs2, xs3⟩, ⟨a0, a1, a2, a3, q0, q1, q2, q3, by rw [e0, e1, e2, e3], ?_, ?_, l2, l3⟩, ⟨w0, w1, w2, w3, m0, m1, m2, m3⟩⟩
  · rw [show wordCells xs0 = xs0.flatMap (fun x => [.int .u32 x]) from flat_one _ _]
    exact l0
  · rw [show byteCells xs1 = xs1.flatMap (fun x => [.int .u8 x]) from flat_one _ _]
    exact l1
end
theorem u8_range {x : Int} (h : (Lit.int .u8 x).wf = true) : 0 ≤ x ∧ x < 256 := by
  have := h
  simp only [Lit.wf, Bool.and_eq_true, decide_eq_true_iff, show IntKind.u8.min = 0 from rfl, show IntKind.u8.max = 255 from rfl] at this
  omega
end Go.Proofs.YtgcpnjckbdajbaaGreatDoor.Ob
