import Derived.Test.YtgcpnjckbdajbaaGreatDoorPA
namespace Go.Proofs.YtgcpnjckbdajbaaGreatDoor.Ob
open Go.RowKit Go.Sort
open Go.ChangeMaps (setBlock)

theorem ba_eq (k : ByteArray) : (k == k) = true := by rw [beq_toListBytes]; simp
theorem ba_ne {k x : ByteArray} (h : ¬ k = x) : (k == x) = false := by
  rw [beq_toListBytes, beq_eq_false_iff_ne]
  exact fun e => h (toList_inj e)
/-- the entries of a map of names that was filled in this order, each name once -/
def nameAt (p : ByteArray × Nat) : MapEntry := ⟨.string p.1, .int .i64 1, p.2⟩
def names (l : List ByteArray) : Array MapEntry := (l.zipIdx.map nameAt).toArray
theorem names_push (l : List ByteArray) (x : ByteArray) : names (l ++ [x]) = (names l).push ⟨.string x, .int .i64 1, l.length⟩ := by
  unfold names
  rw [List.zipIdx_append, List.map_append]
  apply Array.ext'
  simp [nameAt]
theorem findS_none (k : ByteArray) : ∀ (l : List ByteArray) (n i : Nat), k ∉ l → Instr.findNow .string (.string k) ((l.zipIdx n).map nameAt) i = some none
  | [], _, _, _ => rfl
  | x :: l, n, i, h => by
    simp only [List.mem_cons, not_or] at h
    have hx : (k == x) = false := ba_ne h.1
    simp only [List.zipIdx_cons, List.map_cons, nameAt, Instr.findNow, Instr.sameNow, hx]
    exact findS_none k l (n + 1) (i + 1) h.2
theorem findS_some (k : ByteArray) : ∀ (l : List ByteArray) (n i : Nat), k ∈ l → ∃ j, j < l.length ∧ Instr.findNow .string (.string k) ((l.zipIdx n).map nameAt) i = some (some (i + j, .int .i64 1)) ∧ (((l.zipIdx n).map nameAt)[j]?).map (·.key) = some (.string k) ∧
    ∀ v b, Instr.findNow .string (.string k) (((l.zipIdx n).map nameAt).set j ⟨.string k, v, b⟩) i = some (some (i + j, v))
  | [], _, _, h => by cases h
  | x :: l, n, i, h => by
    by_cases hx : k = x
    · subst hx
      refine ⟨0, by simp, ?_, rfl, fun v b => ?_⟩
      · simp [List.zipIdx_cons, nameAt, Instr.findNow, Instr.sameNow, ba_eq]
      · simp [List.zipIdx_cons, nameAt, Instr.findNow, Instr.sameNow, ba_eq]
    · have hl : k ∈ l := by rcases List.mem_cons.1 h with e | e; exact absurd e hx; exact e
      obtain ⟨j, hj, h1, h2, h3⟩ := findS_some k l (n + 1) (i + 1) hl
      have hb : (k == x) = false := ba_ne hx
      refine ⟨j + 1, by simpa using hj, ?_, by simpa [List.zipIdx_cons] using h2, fun v b => ?_⟩
      · simp only [List.zipIdx_cons, List.map_cons, nameAt, Instr.findNow, Instr.sameNow, hb]
        rw [show i + (j + 1) = i + 1 + j by omega]
        exact h1
      · simp only [List.zipIdx_cons, List.map_cons, List.set_cons_succ, nameAt, Instr.findNow, Instr.sameNow, hb]
        rw [show i + (j + 1) = i + 1 + j by omega]
        exact h3 v b
theorem u81 : Tryz.prog.underlying 81 = some (.map 9 3) := by kernel_rfl
theorem u9 : Tryz.prog.underlying 9 = some .string := Tryz.underlying9
theorem check9 (b : Bool) (k : ByteArray) (w : World) : Sem.run Tryz.prog (Instr.checkKey b 10000 9 (.string k)) w = .ok () w := MapKept.run_checkKey u9 (by simp [MapKept.IsKey]) b 9999

theorem lookS_none (w : World) (b : Nat) (l : List ByteArray) (k : ByteArray) (hb : w.heap[b]? = some (.map (names l) l.length)) (hk : k ∉ l) :
    Sem.run Tryz.prog (Instr.lookup 81 (.map (some b)) (.string k) false) w = .ok (.int .i64 0) w := by
  have hf : Instr.findNow .string (.string k) (names l).toList 0 = some none := findS_none k l 0 0 hk
  have hz : Sem.run Tryz.prog (zeroValue 3) w = .ok (.int .i64 0) w := Tryz.zeroValue3 w
  simp only [Instr.lookup, Sem.run_bind, run_underlying u81, Result.andThen_ok, getObj, Sem.run, hb, check9, Instr.findKey, run_underlying u9, Sem.run_pure, hf, hz]
  rfl
theorem lookS_some (w : World) (b : Nat) (l : List ByteArray) (k : ByteArray) (hb : w.heap[b]? = some (.map (names l) l.length)) (hk : k ∈ l) :
    Sem.run Tryz.prog (Instr.lookup 81 (.map (some b)) (.string k) false) w = .ok (.int .i64 1) w := by
  obtain ⟨j, _, hf, _⟩ := findS_some k l 0 0 hk
  have hf' : Instr.findNow .string (.string k) (names l).toList 0 = some (some (0 + j, .int .i64 1)) := hf
  simp only [Instr.lookup, Sem.run_bind, run_underlying u81, Result.andThen_ok, getObj, Sem.run, hb, check9, Instr.findKey, run_underlying u9, Sem.run_pure, hf']
  rfl
theorem updS_new (w : World) (b : Nat) (l : List ByteArray) (k : ByteArray) (hb : w.heap[b]? = some (.map (names l) l.length)) (hk : k ∉ l) :
    Sem.run Tryz.prog (Instr.mapUpdate 81 (.map (some b)) (.string k) (.int .i64 1)) w = .ok () (setBlock w b (.map (names (l ++ [k])) (l ++ [k]).length)) := by
  have hf : Instr.findNow .string (.string k) (names l).toList 0 = some none := findS_none k l 0 0 hk
  rw [names_push, List.length_append, List.length_singleton]
  simp only [Instr.mapUpdate, Sem.run_bind, run_underlying u81, Result.andThen_ok, getObj, Sem.run, hb, check9, Instr.findKey, run_underlying u9, hf]
  simp [Result.andThen, setObj, Sem.run, hb, setBlock]
/-- a name that is there: behind the store its count is what was stored -/
theorem updS_old (w : World) (b : Nat) (l : List ByteArray) (k : ByteArray) (v : Value) (hb : w.heap[b]? = some (.map (names l) l.length)) (hk : k ∈ l) :
    ∃ w', Sem.run Tryz.prog (Instr.mapUpdate 81 (.map (some b)) (.string k) v) w = .ok () w' ∧ w.grownBy w' (some b) ∧ Sem.run Tryz.prog (Instr.lookup 81 (.map (some b)) (.string k) false) w' = .ok v w' := by
  obtain ⟨j, hj, hf, hk', hset⟩ := findS_some k l 0 0 hk
  have hf' : Instr.findNow .string (.string k) (names l).toList 0 = some (some (0 + j, .int .i64 1)) := hf
  have hlt : b < w.heap.size := (Array.getElem?_eq_some_iff.1 hb).1
  rw [Nat.zero_add] at hf'
  have hkey : ((names l)[j]?).map (·.key) = some (.string k) := by
    rw [← hk']
    unfold names
    simp
  have hsame : Instr.sameBits 10000 (.string k) (.string k) = true := by simp [Instr.sameBits, ba_eq]
  refine ⟨setBlock w b (.map ((names l).modify j fun e => { e with key := .string k, val := v }) l.length), ?_, ?_, ?_⟩
  · simp only [Instr.mapUpdate, Sem.run_bind, run_underlying u81, Result.andThen_ok, getObj, Sem.run, hb, check9, Instr.findKey, run_underlying u9, hf', Sem.run_pure, hkey, Option.getD_some, Instr.keyThatStays, hsame, if_true]
    simp [setObj, Sem.run, hb, setBlock]
  · refine ⟨rfl, rfl, rfl, by simp [setBlock], fun q hq hne => ?_⟩
    have hne' : b ≠ q := fun e => hne (by rw [e])
    simp [setBlock, hne']
  · have hb2 : (setBlock w b (.map ((names l).modify j fun e => { e with key := .string k, val := v }) l.length)).heap[b]? = some (.map ((names l).modify j fun e => { e with key := .string k, val := v }) l.length) := by
      simp [setBlock, hlt]
    have hm : ((names l).modify j fun e => { e with key := .string k, val := v }).toList = ((l.zipIdx 0).map nameAt).set j ⟨.string k, v, j⟩ := by
      apply List.ext_getElem?
      intro q
      unfold names
      rw [Array.getElem?_toList, Array.getElem?_modify, List.getElem?_set]
      by_cases e : j = q
      · subst e
        simp [nameAt, hj]
      · simp [e]
    have hf2 : Instr.findNow .string (.string k) ((names l).modify j fun e => { e with key := .string k, val := v }).toList 0 = some (some (0 + j, v)) := by
      rw [hm]; exact hset v j
    simp only [Instr.lookup, Sem.run_bind, run_underlying u81, Result.andThen_ok, getObj, Sem.run, hb2, check9, Instr.findKey, run_underlying u9, Sem.run_pure, hf2]
    rfl
end Go.Proofs.YtgcpnjckbdajbaaGreatDoor.Ob
