import Derived.Test.YtgcpnjckbdajbaaGreatDoorOR
import Derived.Maps.Own
import Derived.Maps.RangeRun
import Derived.Maps.AppendAt
namespace Go.Proofs.YtgcpnjckbdajbaaGreatDoor.Ob
open Go.RowKit Go.Sort
open Go.ChangeMaps (setBlock)

/-- a row of the table of forms -/
structure RowV where
  kind : Int
  op : Int
  f3 : Int
  f7 : Int
  rs2 : Int
deriving DecidableEq
def encRow (r : RowV) : List Value := [.int .u8 r.kind, .int .u32 r.op, .int .u32 r.f3, .int .u32 r.f7, .int .i64 r.rs2]
def rowVal (r : RowV) : Value := .agg (encRow r).toArray
abbrev Ent := Int × RowV
def entAt (p : Ent × Nat) : MapEntry := ⟨.int .i64 p.1.1, rowVal p.1.2, p.2⟩
/-- the entries of a map that was filled in this order -/
def ent (l : List Ent) : Array MapEntry := (l.zipIdx.map entAt).toArray

theorem ent_push (l : List Ent) (x : Ent) : ent (l ++ [x]) = (ent l).push ⟨.int .i64 x.1, rowVal x.2, l.length⟩ := by
  unfold ent
  rw [List.zipIdx_append, List.map_append]
  apply Array.ext'
  simp [entAt]

theorem findNow_none (k : Int) : ∀ (l : List Ent) (n i : Nat), k ∉ l.map (·.1) → Instr.findNow (.int .i64) (.int .i64 k) ((l.zipIdx n).map entAt) i = some none
  | [], _, _, _ => rfl
  | x :: l, n, i, h => by
    simp only [List.map_cons, List.mem_cons, not_or] at h
    have hx : (k == x.1) = false := by simpa using h.1
    simp only [List.zipIdx_cons, List.map_cons, entAt, Instr.findNow, Instr.sameNow, if_true, hx]
    exact findNow_none k l (n + 1) (i + 1) h.2

theorem findNow_some (k : Int) (r : RowV) : ∀ (l : List Ent) (n i : Nat), l.lookup k = some r → ∃ j, Instr.findNow (.int .i64) (.int .i64 k) ((l.zipIdx n).map entAt) i = some (some (j, rowVal r))
  | [], _, _, h => by simp at h
  | x :: l, n, i, h => by
    simp only [List.zipIdx_cons, List.map_cons, entAt, Instr.findNow, Instr.sameNow, if_true]
    obtain ⟨q, rq⟩ := x
    simp only [List.lookup_cons] at h
    cases hx : k == q with
    | true =>
      rw [hx] at h
      simp only [Option.some.injEq] at h
      subst h
      exact ⟨i, rfl⟩
    | false =>
      rw [hx] at h
      exact findNow_some k r l (n + 1) (i + 1) h

theorem u125 : Tryz.prog.underlying 125 = some (.map 3 128) := by kernel_rfl
theorem u3 : Tryz.prog.underlying 3 = some (.int .i64) := Tryz.underlying3
theorem check3 (b : Bool) (k : Int) (w : World) : Sem.run Tryz.prog (Instr.checkKey b 10000 3 (.int .i64 k)) w = .ok () w := MapKept.run_checkKey u3 (by simp [MapKept.IsKey]) b 9999

theorem run_update (w : World) (b : Nat) (l : List Ent) (k : Int) (r : RowV) (hb : w.heap[b]? = some (.map (ent l) l.length)) (hk : k ∉ l.map (·.1)) :
    Sem.run Tryz.prog (Instr.mapUpdate 125 (.map (some b)) (.int .i64 k) (rowVal r)) w = .ok () (setBlock w b (.map (ent (l ++ [(k, r)])) (l ++ [(k, r)]).length)) := by
  have hf : Instr.findNow (.int .i64) (.int .i64 k) (ent l).toList 0 = some none := findNow_none k l 0 0 hk
  rw [ent_push, List.length_append, List.length_singleton]
  simp only [Instr.mapUpdate, Sem.run_bind, run_underlying u125, Result.andThen_ok, getObj, Sem.run, hb, check3, Instr.findKey, run_underlying u3, hf]
  simp [Result.andThen, setObj, Sem.run, hb, setBlock]

theorem run_lookup_some (w : World) (b : Nat) (l : List Ent) (k : Int) (r : RowV) (hb : w.heap[b]? = some (.map (ent l) l.length)) (hk : l.lookup k = some r) :
    Sem.run Tryz.prog (Instr.lookup 125 (.map (some b)) (.int .i64 k) true) w = .ok (.tuple #[rowVal r, .bool true]) w := by
  obtain ⟨j, hf⟩ := findNow_some k r l 0 0 hk
  have hf' : Instr.findNow (.int .i64) (.int .i64 k) (ent l).toList 0 = some (some (j, rowVal r)) := hf
  simp only [Instr.lookup, Sem.run_bind, run_underlying u125, Result.andThen_ok, getObj, Sem.run, hb, check3, Instr.findKey, run_underlying u3, Sem.run_pure, hf', if_true]

theorem wpList_update {ops : Array Oper} {rest : List Oper} {o : Oper} {a : Act} {Q : Exit → Act → World → Prop} (w : World)
    (hg : o.guard = none) (m x v : Operand) (hop : o.op = Op.mapUpdate 125 m x v) (b : Nat) (l : List Ent) (k : Int) (r : RowV) (hm : a.eval m = .map (some b)) (hx : a.eval x = .int .i64 k) (hv : a.eval v = rowVal r)
    (hb : w.heap[b]? = some (.map (ent l) l.length)) (hk : k ∉ l.map (·.1))
    (hK : ∀ w', w'.heap[b]? = some (.map (ent (l ++ [(k, r)])) (l ++ [(k, r)]).length) → w.grownBy w' (some b) → wpList Tryz.prog ops Q rest (a.put o.dst undef) w') :
    wpList Tryz.prog ops Q (o :: rest) a w := by
  refine wpList_plain hg fun K' hK' => ?_
  have hrun := run_update w b l k r hb hk
  unfold Oper.wp
  simp [execOp, hop, hm, hx, hv, hrun, Result.andThen]
  have hlt : b < w.heap.size := (Array.getElem?_eq_some_iff.1 hb).1
  refine hK' _ _ (hK _ ?_ ?_)
  · simp [setBlock, hlt]
  · refine ⟨rfl, rfl, rfl, by simp [setBlock], fun j hj hne => ?_⟩
    have hne' : b ≠ j := fun e => hne (by rw [e])
    simp [setBlock, hne']

/-- three numbers of a list, as many takes them -/
def triple (x : Int × Int × Int) : List Value := [.int .u32 x.1, .int .u32 x.2.1, .int .u32 x.2.2]
def entOf (kind op : Int) (x : Int × Int × Int) : Ent := (x.1, ⟨kind, op, x.2.1, x.2.2, -1⟩)

set_option maxRecDepth 100000 in
theorem many_calls (w : World) (b mv : Nat) (hmv : w.cell? ⟨mv, 0, none⟩ = some (.map (some b))) (hne : mv ≠ b) (l : List Ent) (hb : w.heap[b]? = some (.map (ent l) l.length)) (kind op : Int) (ao : Option Addr) (xs : List (Int × Int × Int)) (c : Nat) (hx : Lies (b + 1) w ao (xs.flatMap triple))
    (hlen : xs.length ≤ 1000) (hr : ∀ x ∈ xs, 0 ≤ x.1 ∧ x.1 < 4294967296) (hk : ((l ++ xs.map (entOf kind op)).map (·.1)).Nodup) :
    Calls Tryz.prog 103 #[.int .u8 kind, .int .u32 op, .slice ao xs.length c, .pointer (some ⟨mv, 0, none⟩)] w fun e w' => e = .returned (.tuple #[]) ∧
      w'.heap[b]? = some (.map (ent (l ++ xs.map (entOf kind op))) (l ++ xs.map (entOf kind op)).length) ∧ w.grownBy w' (some b) := by
  have hmlt : mv < w.heap.size := by
    unfold World.cell? at hmv
    rcases Nat.lt_or_ge mv w.heap.size with h | h
    · exact h
    · rw [Array.getElem?_eq_none h] at hmv; cases hmv
  have hblt : b < w.heap.size := (Array.getElem?_eq_some_iff.1 hb).1
  have PB := Pack.mk hb
  have PX := Pack.mk hx
  have PK := Pack.mk hk
  have PR := Pack.mk hr
  have PM := Pack.mk hmv
  clear hb hx hk hr hmv
  go_enter Tryz.func103, Tryz.ntmps103
  go_wp2_with fail
  go_loopg [8, 11] xs.length (fun kq v8 v11 wr => ∃ i : Nat, i + kq = xs.length ∧ v11 = .int .i64 i ∧ Pack (wr.heap[b]? = some (.map (ent (l ++ (xs.take i).map (entOf kind op))) (l ++ (xs.take i).map (entOf kind op)).length) ∧ w.grownBy wr (some b)))
  case atStart => exact ⟨0, by omega, rfl, ⟨by simpa using PB.out, ⟨rfl, rfl, rfl, Nat.le_refl _, fun _ _ _ => rfl⟩⟩⟩
  case round =>
    obtain ⟨i, hi, rfl, PA⟩ := hrel
    by_cases hg : gk = 0
    · subst hg
      have hlt : ¬ ((i : Int) < (xs.length : Int)) := by omega
      have PE : Pack (xs.take i = xs) := ⟨List.take_of_length_le (by omega)⟩
      go_wp2
      go_end0
      have h := PA.out
      rw [PE.out] at h
      exact ⟨rfl, by simpa using h.1, h.2⟩
    · have hlt : (i : Int) < (xs.length : Int) := by omega
      have h1 : i < xs.length := by omega
      have hcell : wr.cell? ⟨mv, 0, none⟩ = some (.map (some b)) := (World.cell?_of_block (w := w) (PA.out.2.block mv hmlt (by intro e; cases e; exact hne rfl))).trans PM.out
      have hcell' : ∀ o, (wr.alloc o).cell? ⟨mv, 0, none⟩ = some (.map (some b)) := fun o => (World.cell?_of_block (w := wr) (Below.heap_alloc _ _ _ (Nat.lt_of_lt_of_le hmlt PA.out.2.size))).trans hcell
      obtain ⟨a, rfl, hab, hal, ca⟩ := (PX.out.keep PA.out.2.size (fun k hk1 hk2 => PA.out.2.block k hk2 (by intro e; cases e; omega))).elem triple 3 (fun _ => rfl) (by decide) i h1
      have q0 : wr.cell? (a.add (i * 3)) = some (.int .u32 xs[i].1) := ca 0 _ rfl
      have q1 : wr.cell? { block := (a.add (i * 3)).block, off := (a.add (i * 3)).off + 1 } = some (.int .u32 xs[i].2.1) := ca 1 _ rfl
      have q2 : wr.cell? { block := (a.add (i * 3)).block, off := (a.add (i * 3)).off + 2 } = some (.int .u32 xs[i].2.2) := ca 2 _ rfl
      clear ca
      generalize hxi : xs[i] = x at q0 q1 q2
      have PE := Pack.mk hxi
      clear hxi
      have x0 : 0 ≤ x.1 := (PR.out x (PE.out ▸ List.getElem_mem h1)).1
      have x1 : x.1 < 4294967296 := (PR.out x (PE.out ▸ List.getElem_mem h1)).2
      have hbW : Pack (∀ o, (wr.alloc o).heap[b]? = some (.map (ent (l ++ (xs.take i).map (entOf kind op))) (l ++ (xs.take i).map (entOf kind op)).length)) := ⟨fun o => (Below.heap_alloc _ _ _ (Nat.lt_of_lt_of_le hblt PA.out.2.size)).trans PA.out.1⟩
      have hsplit : Pack ((xs.take i).map (entOf kind op) ++ [entOf kind op x] = (xs.take (i + 1)).map (entOf kind op)) := ⟨by
        rw [List.take_add_one, List.getElem?_eq_getElem h1, PE.out]; simp⟩
      have hkW : Pack (x.1 ∉ (l ++ (xs.take i).map (entOf kind op)).map (·.1)) := ⟨by
        have h := PK.out
        rw [← List.take_append_drop (i + 1) xs, List.map_append (l₁ := xs.take (i + 1)), ← hsplit.out, ← List.append_assoc, List.map_append (l₂ := List.map _ _), ← List.append_assoc, List.map_append] at h
        have h' := (List.nodup_append.1 (List.nodup_append.1 h).1).2.2
        intro hm
        exact h' _ hm _ (by simp [entOf]) rfl⟩
      go_wp2_with (at_mapUpdate; refine wpList_update _ rfl _ _ _ rfl b (l ++ (xs.take i).map (entOf kind op)) x.1 (entOf kind op x).2 rfl rfl rfl (hbW.out _) hkW.out ?_; intro w1 hw1 hg1)
      go_roundg (gk - 1)
      case measure => omega
      case rel =>
        refine ⟨i + 1, by omega, by go_num, ⟨?_, ?_⟩⟩
        · rw [← hsplit.out, ← List.append_assoc]; exact hw1
        · exact (PA.out.2.trans (World.grownBy_alloc _ _ _)).trans hg1
end Go.Proofs.YtgcpnjckbdajbaaGreatDoor.Ob
