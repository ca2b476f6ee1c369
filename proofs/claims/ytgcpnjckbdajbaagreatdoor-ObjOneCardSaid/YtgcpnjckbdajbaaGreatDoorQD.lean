import Derived.Test.YtgcpnjckbdajbaaGreatDoorQC
import Derived.Sort.LoopGhostIn
import Derived.Deep.RegionHeld3
namespace Go.Proofs.YtgcpnjckbdajbaaGreatDoor.Ob
open Go.RowKit Go.Sort
attribute [local go_sem] Oper.semAt_some

theorem textOf_le {o : ObjV} (F : Fits o) : (textOf o).length ≤ 140737488355328 := by
  have h := t8_le F o.rels.length
  have h2 : (lineText wEnd []).length = 4 := by decide
  unfold textOf
  rw [List.length_append]
  omega
/-- four numbers behind the word -/
theorem Bld.four {B b : Nat} {l m : List UInt8} {w0 w : World} (h : Bld B b l w0 w) (hB : B ≤ w0.heap.size) (hb : b < w.heap.size) (hB1 : 1 < B) (T : Tab w) (word : ByteArray) (n0 n1 n2 n3 : Int) (i0 : I64 n0) (i1 : I64 n1) (i2 : I64 n2) (i3 : I64 n3)
    (hm : l ++ lineText word.data.toList [n0, n1, n2, n3] = m) (hlen : m.length ≤ 140737488355328) :
    Calls Tryz.prog 33 #[.pointer (some ⟨b, 0, none⟩), .string word, .slice (some ⟨w.heap.size, 0, none⟩) 4 4] (w.alloc (.cells #[.int .i64 n0, .int .i64 n1, .int .i64 n2, .int .i64 n3] 3)) fun e w' => e = .returned (.tuple #[]) ∧ Bld B b m w0 w' := by
  subst hm
  have hs := h.below.size
  have h' := h.alloc hB (.cells #[.int .i64 n0, .int .i64 n1, .int .i64 n2, .int .i64 n3] 3)
  refine (line_calls B b l word [n0, n1, n2, n3] (some ⟨w.heap.size, 0, none⟩) 4 _ h'.is (by have := h'.below.size; omega) (.inr ⟨w.heap.size, #[.int .i64 n0, .int .i64 n1, .int .i64 n2, .int .i64 n3], 3, (0, 0), rfl, by omega, by decide, alloc_new w _, ?_⟩) ?_ (by simp) hB1 (tab_alloc T (by omega) _) hlen).mono ?_
  · intro i hi
    have hi' : i = 0 ∨ i = 1 ∨ i = 2 ∨ i = 3 := by simp at hi; omega
    rcases hi' with rfl | rfl | rfl | rfl <;> rfl
  · intro x hx
    simp only [List.mem_cons, List.not_mem_nil, or_false] at hx
    rcases hx with rfl | rfl | rfl | rfl <;> assumption
  rintro e w' ⟨rfl, hd⟩
  exact ⟨rfl, h'.step hd⟩
theorem itoa_new (n : Int) (h : I64 n) (w : World) (T : Tab w) : Calls Tryz.prog 36 #[.int .i64 n] w fun e w' => e = .returned (.string ⟨(Lib.itoa n).toArray⟩) ∧ Below w.heap.size w w' := by
  refine (Tryz.strconv_Itoa n h.1 h.2 w T).mono ?_
  rintro e w' ⟨rfl, k, os, rfl⟩
  exact ⟨rfl, below_grow (Below.refl _ _) (Nat.le_refl _) k os⟩
theorem Bld.at4 {B b : Nat} {l m : List UInt8} {w0 w : World} (h : Bld B b l w0 w) (hB : B ≤ w0.heap.size) (hB1 : 1 < B) (T : Tab w) (word : ByteArray) (g : Nat) (n0 n1 n2 n3 : Int) (hg : w.heap[g]? = some (.cells #[.int .i64 n0, .int .i64 n1, .int .i64 n2, .int .i64 n3] 3 (0, 0))) (hgb : g ≠ b) (i0 : I64 n0) (i1 : I64 n1) (i2 : I64 n2) (i3 : I64 n3)
    (hm : l ++ lineText word.data.toList [n0, n1, n2, n3] = m) (hlen : m.length ≤ 140737488355328) :
    Calls Tryz.prog 33 #[.pointer (some ⟨b, 0, none⟩), .string word, .slice (some ⟨g, 0, none⟩) 4 4] w fun e w' => e = .returned (.tuple #[]) ∧ Bld B b m w0 w' := by
  subst hm
  refine (line_calls B b l word [n0, n1, n2, n3] (some ⟨g, 0, none⟩) 4 _ h.is (by have := h.below.size; omega) (.inr ⟨g, #[.int .i64 n0, .int .i64 n1, .int .i64 n2, .int .i64 n3], 3, (0, 0), rfl, hgb, by decide, hg, ?_⟩) ?_ (by simp) hB1 T hlen).mono ?_
  · intro i hi
    have hi' : i = 0 ∨ i = 1 ∨ i = 2 ∨ i = 3 := by simp at hi; omega
    rcases hi' with rfl | rfl | rfl | rfl <;> rfl
  · intro x hx
    simp only [List.mem_cons, List.not_mem_nil, or_false] at hx
    rcases hx with rfl | rfl | rfl | rfl <;> assumption
  rintro e w' ⟨rfl, hd⟩
  exact ⟨rfl, h.step hd⟩
theorem Bld.refl {B b : Nat} {l : List UInt8} {w0 w : World} (h : Bld B b l w0 w) : Bld B b l w w := ⟨h.is, Below.refl _ _, Lib.OthersKept.refl _ _ _⟩
theorem Bld.cells {B b : Nat} {l : List UInt8} {w0 w : World} (h : Bld B b l w0 w) : ∃ cs t fz, w.heap[b]? = some (.cells cs t fz) := by
  rcases h.is with ⟨_, v, h2, _, _⟩ | ⟨_, v, h2, _, _⟩
  · exact ⟨_, _, _, h2⟩
  · exact ⟨_, _, _, h2⟩
theorem Bld.others {B b : Nat} {l l' : List UInt8} {w00 w0 w : World} (h : Bld B b l w0 w) (h0 : Bld B b l' w00 w0) : KeepsOthers w0 w := by
  refine ⟨h.below.size, fun k o hk ho => h.kept k o hk (fun e => ?_) (fun c fz e => ?_)⟩
  · cases e
    obtain ⟨cs, t, fz, hc⟩ := h0.cells
    rw [hc] at hk
    cases hk
    cases ho
  · subst e
    cases ho
theorem box_own {β : Type} {C k : Nat} {t : TypeId} {cs : Array Value} {fz : Nat × Nat} : OwnFrom C (fun (_ : β) W => W.heap[k]? = some (.cells cs t fz)) := by
  intro s W W' row h hg hr
  have hne : some k ≠ row := by
    intro e
    obtain ⟨_, o, ho, hc⟩ := hr k e.symm
    rw [h] at ho
    cases ho
    cases hc
  exact (hg.block k (Array.getElem?_eq_some_iff.1 h).1 hne).trans h
/-- the range over a function, one variable that a slot takes over -/
theorem range_own {α : Type} {P : Program} {g : Operand} {p q : Tmp} {assign body : Code} {Q : Exit → Act → World → Prop} {a : Act} {w : World}
    {gf : Nat} {lb : Array Value} (hg : a.eval g = .func (.func gf) #[] lb) (eg : ∀ args w, (callFunc gf args).run P w = .ok (.enter gf args) w)
    {v : α → Value} {Kp : World → World → Prop} {S Sp : List α → Prop} {N : Nat} {w0 : World} (hseq : SeqStopsK Fence.wide (6 - 1) P gf lb (fun x => #[v x]) Kp S Sp N w0)
    (hKt : ∀ {A B C : World}, Kp A B → Kp B C → Kp A C) (hKb : ∀ (W : World) (l : Nat) (o o' : Obj), w.heap.size ≤ l → W.heap[l]? = some o → o.isCells = false → o.isWalk = false → Kp W (W.putObj l o')) (hb0 : Below w0.heap.size w0 w)
    (I : List α → World → Prop) (hI : OwnFrom w.heap.size I) (h0 : I [] w)
    (hassign : ∀ (l : Nat) (x : α) (W : World) (K : Act → World → Prop), K { tmps := (a.tmps.setIfInBounds p (v x)).setIfInBounds q (v x), defers := [] } W →
      assign.wpIn (Fence.wide.inRound l) 4 P (Exit.then K (fun _ _ _ => False)) { tmps := a.tmps.setIfInBounds p (v x), defers := [] } W)
    (hbody : ∀ (l : Nat) (pre : List α) (x : α) (W : World), I pre W → pre.length < N → body.wpIn (Fence.wide.inRound l) 4 P (ownPostK Kp I (fun _ _ _ => False) (pre ++ [x]) W) { tmps := (a.tmps.setIfInBounds p (v x)).setIfInBounds q (v x), defers := [] } W)
    (hdone : ∀ (D : Nat) (xs : List α) (W : World), w.heap.size ≤ D → S xs → I xs W → W.heap[D]? = some (.deferred (some [])) → Q .normal { a with defers := { target := .collected D, args := #[] } :: a.defers } W) :
    (Code.rangeFunc g #[p] assign body).wpIn Fence.wide 6 P Q a w :=
  wpIn_rangeFunc_ownF (encs := fun x => #[v x]) rfl (by decide) hg trivial eg hseq hKt hKb hb0 (fun _ => rfl) I (fun _ _ _ => False) hI (fun _ _ _ _ _ h _ _ => h.elim) h0 (fun x => { tmps := (a.tmps.setIfInBounds p (v x)).setIfInBounds q (v x), defers := [] })
    (fun l x W K hK => by have := hassign l x W K hK; simpa using this) hbody hdone (fun _ _ _ _ _ _ h => h.elim)
/-- one number behind the word -/
theorem Bld.num {B b : Nat} {l m : List UInt8} {w0 w : World} (h : Bld B b l w0 w) (hB : B ≤ w0.heap.size) (hb : b < w.heap.size) (hB1 : 1 < B) (T : Tab w) (word : ByteArray) (n : Nat) (hn : n ≤ 65536)
    (hm : l ++ lineText word.data.toList [(n : Int)] = m) (hlen : m.length ≤ 140737488355328) :
    Calls Tryz.prog 33 #[.pointer (some ⟨b, 0, none⟩), .string word, .slice (some ⟨w.heap.size, 0, none⟩) 1 1] (w.alloc (.cells #[.int .i64 (n : Int)] 3)) fun e w' => e = .returned (.tuple #[]) ∧ Bld B b m w0 w' := by
  subst hm
  exact h.line1 hB hb hB1 T word n (nat_I64 hn) hlen
theorem Bld.word {B b : Nat} {l m : List UInt8} {w0 w : World} (h : Bld B b l w0 w) (hB : B ≤ w0.heap.size) (hB1 : 1 < B) (T : Tab w) (word : ByteArray) (hm : l ++ lineText word.data.toList [] = m) (hlen : m.length ≤ 140737488355328) :
    Calls Tryz.prog 33 #[.pointer (some ⟨b, 0, none⟩), .string word, .slice none 0 0] w fun e w' => e = .returned (.tuple #[]) ∧ Bld B b m w0 w' := by
  subst hm
  exact h.line0 hB hB1 T word hlen
theorem Bld.sub {B b : Nat} {l : List UInt8} {w0 w w' : World} (h : Bld B b l w0 w) (hB : B ≤ w0.heap.size) (hb : Below w.heap.size w w') : Bld B b l w0 w' :=
  bld_own (β := Unit) hB (Nat.le_refl _) () w w' none h ⟨hb.os, hb.tape, hb.output, hb.size, fun k hk _ => hb.block k hk⟩ (fun r e => by cases e)
theorem t2_succ (o : ObjV) {i : Nat} (h : i < o.text.length) : t2 o (i + 1) = t2 o i ++ hexLine o.text[i] := by
  unfold t2
  rw [take_flat h, List.append_assoc]
theorem t4_succ (o : ObjV) (i : Nat) : t4 o (i + 1) = t4 o i ++ dataLine o.data i := by
  unfold t4
  rw [List.range_succ, List.flatMap_append, List.append_assoc]
  simp
theorem t6_succ (o : ObjV) {i : Nat} (h : i < o.syms.length) : t6 o (i + 1) = t6 o i ++ symLine o.syms[i] := by
  unfold t6
  rw [take_flat h, List.append_assoc]
theorem t8_succ (o : ObjV) {i : Nat} (h : i < o.rels.length) : t8 o (i + 1) = t8 o i ++ relLine o.rels[i] := by
  unfold t8
  rw [take_flat h, List.append_assoc]
theorem Tab64.below {B : Nat} {w w' : World} (h : Tab64 w) (hb : Below B w w') (hB : 7 < B) : Tab64 w' := (hb.cell (p := ⟨7, 15, none⟩) hB).trans h
set_option maxRecDepth 100000 in
set_option maxHeartbeats 20000000 in
theorem print_good (B : Nat) (o : ObjV) (a0 a1 a2 a3 : Option Addr) (c0 c1 c2 c3 : Nat) (w : World) (l0 : Lies B w a0 (wordCells o.text)) (l1 : Lies B w a1 (byteCells o.data)) (l2 : Lies B w a2 (symCells o.syms)) (l3 : Lies B w a3 (relCells o.rels)) (hcap : o.data.length ≤ c1)
    (K : o.Ok) (G : good o = true) (hT : Tab w) (h64 : Tab64 w) (hw : 7 < w.heap.size) :
    Calls Tryz.prog 14 #[.agg #[.slice a0 o.text.length c0, .slice a1 o.data.length c1, .slice a2 o.syms.length c2, .slice a3 o.rels.length c3]] w fun e w' => e = .returned (.tuple #[.string ⟨(textOf o).toArray⟩, .int .i64 0]) ∧ Below w.heap.size w w' := by
  have F := fits_of K G
  obtain ⟨BX, hBX⟩ : ∃ BX : Obj, BX = .cells #[.slice a0 o.text.length c0, .slice a1 o.data.length c1, .slice a2 o.syms.length c2, .slice a3 o.rels.length c3] 28 := ⟨_, rfl⟩
  have CH : Pack (Calls Tryz.prog 18 #[.agg #[.slice a0 o.text.length c0, .slice a1 o.data.length c1, .slice a2 o.syms.length c2, .slice a3 o.rels.length c3]] (w.alloc (.cells #[.slice a0 o.text.length c0, .slice a1 o.data.length c1, .slice a2 o.syms.length c2, .slice a3 o.rels.length c3] 28)) fun e w' => e = .returned (.int .i64 0) ∧ Below (w.heap.size + 1) (w.alloc (.cells #[.slice a0 o.text.length c0, .slice a1 o.data.length c1, .slice a2 o.syms.length c2, .slice a3 o.rels.length c3] 28)) w') := ⟨by
    have bl := (Below.refl w.heap.size w).alloc (Nat.le_refl _) (.cells #[.slice a0 o.text.length c0, .slice a1 o.data.length c1, .slice a2 o.syms.length c2, .slice a3 o.rels.length c3] 28)
    have := checkObj_calls B o _ _ ⟨a0, a1, a2, a3, c0, c1, c2, c3, rfl, l0.step bl, l1.step bl, l2.step bl, l3.step bl⟩ F.text
    rw [G] at this
    simpa using this⟩
  have PL := Pack.mk (And.intro l0 (And.intro l1 (And.intro l2 l3)))
  have PT := Pack.mk hT
  have P64 := Pack.mk h64
  have PW := Pack.mk hw
  have PF := Pack.mk F
  have n0 := F.n0
  have n2 := F.n2
  have n3 := F.n3
  clear hT h64 hw l0 l1 l2 l3 K G F hBX BX
  refine (callsIn_wide (n := 6)).1 ?_
  refine callsIn_of_wp_marks Tryz.func14 rfl trivial ?_ rfl
  refine wpIn_wide.2 ?_
  simp only [Tryz.ntmps14, List.size_toArray, List.length_cons, List.length_nil, Nat.reduceAdd, Nat.reduceSub, Array.replicate_succ, Array.replicate_zero, List.push_toArray, List.append_toArray, List.nil_append, List.cons_append]
  go_wp2_with fail
  refine CH.out.mono ?_
  rintro e w1 ⟨rfl, hd⟩
  have PC := Pack.mk hd
  clear hd CH
  go_wp2_with fail
  have hn1 : 7 < w1.heap.size := by have h1 := PC.out.size; have h2 := PW.out; simp at h1; omega
  have hnB : w.heap.size < w1.heap.size := by have h1 := PC.out.size; simp at h1; omega
  obtain ⟨N, hN⟩ : ∃ N, w1.heap.size = N := ⟨_, rfl⟩
  obtain ⟨W0, hW0⟩ : ∃ W0, w1.alloc (.cells #[.pointer none, .slice none 0 0] 73) = W0 := ⟨_, rfl⟩
  have P0 : Pack (Bld N N [] W0 W0) := ⟨⟨by rw [← hW0, ← hN]; exact fresh w1 _ (Nat.le_refl _), Below.refl _ _, Lib.OthersKept.refl _ _ _⟩⟩
  have BW : Pack (Below w.heap.size w W0) := ⟨by
    rw [← hW0]
    exact below_step (below_step (below_alloc (Below.refl _ w) _) (by simpa using PC.out)) (below_alloc (Below.refl _ w1) _)⟩
  have hT0 : Pack (Tab W0) := ⟨tab_below tabN (by have := PW.out; omega) BW.out PT.out⟩
  have h640 : Pack (Tab64 W0) := ⟨P64.out.below BW.out PW.out⟩
  have hbox : Pack (W0.heap[w.heap.size]? = some (.cells #[.slice a0 o.text.length c0, .slice a1 o.data.length c1, .slice a2 o.syms.length c2, .slice a3 o.rels.length c3] 28 (0, 0))) := ⟨by
    rw [← hW0, Below.heap_alloc _ _ _ hnB, PC.out.block _ (by omega)]
    exact heap_alloc_new w _⟩
  have hW0s : W0.heap.size = N + 1 := by rw [← hW0, ← hN]; simp
  rw [hN] at hn1 hnB ⊢
  rw [hW0]
  clear hW0 hN
  have hsz : N ≤ W0.heap.size := by omega
  have hN1 : 1 < N := by omega
  have CB : Pack (∀ W l, Bld N N l W0 W → W.cell? ⟨w.heap.size, 0, none⟩ = some (.slice a0 o.text.length c0) ∧ W.cell? ⟨w.heap.size, 1, none⟩ = some (.slice a1 o.data.length c1) ∧ W.cell? ⟨w.heap.size, 2, none⟩ = some (.slice a2 o.syms.length c2) ∧ W.cell? ⟨w.heap.size, 3, none⟩ = some (.slice a3 o.rels.length c3)) := ⟨fun W l h => four_at ((h.below.block _ hnB).trans hbox.out)⟩
  refine (P0.out.word hsz hN1 hT0.out _ rfl (by decide)).mono ?_
  rintro e w2 ⟨rfl, h2⟩
  have P2 : Pack (Bld N N t0 W0 w2) := ⟨h2⟩
  clear h2 P0
  obtain ⟨b0, b1, b2, b3⟩ := CB.out _ _ P2.out
  go_wp2_with fail
  refine (P2.out.num hsz (by have := P2.out.below.size; omega) hN1 (P2.out.tab hN1 hT0.out) _ o.text.length PF.out.n0 rfl (Nat.le_trans (t1_le PF.out) (by decide))).mono ?_
  rintro e w3 ⟨rfl, h3⟩
  have P3 : Pack (Bld N N (t1 o) W0 w3) := ⟨h3⟩
  clear h3 P2 b0 b1 b2 b3
  obtain ⟨b0, b1, b2, b3⟩ := CB.out _ _ P3.out
  go_wp2_with fail
  go_loopg [7, 31] o.text.length (fun kq v7 v31 wr => ∃ i : Nat, i + kq = o.text.length ∧ v31 = .int .i64 i ∧ Pack (Bld N N (t2 o i) W0 wr))
  case atStart => exact ⟨0, by omega, rfl, ⟨by simpa [t2] using P3.out⟩⟩
  case round =>
    clear P3 b0 b1 b2 b3
    obtain ⟨i, hi, rfl, PA⟩ := hrel
    by_cases hk : gk = 0
    · subst hk
      obtain rfl : i = o.text.length := by omega
      have hlt : ¬ ((o.text.length : Int) < (o.text.length : Int)) := by omega
      obtain ⟨b0, b1, b2, b3⟩ := CB.out _ _ PA.out
      go_wp2_with fail
      refine (PA.out.num hsz (by have := PA.out.below.size; omega) hN1 (PA.out.tab hN1 hT0.out) _ o.data.length PF.out.n1 rfl (Nat.le_trans (t3_le PF.out) (by decide))).mono ?_
      rintro e w4 ⟨rfl, h4⟩
      have P4 : Pack (Bld N N (t3 o) W0 w4) := ⟨h4⟩
      clear h4 PA b0 b1 b2 b3
      obtain ⟨b0, b1, b2, b3⟩ := CB.out _ _ P4.out
      go_wp2_with fail
      refine (chunk_calls _ _ _ _).mono ?_
      rintro e w5 ⟨rfl, hw5⟩
      have H5 := Pack.mk hw5
      clear hw5
      go_wp2_with fail
      have hs4 := P4.out.below.size
      have E5 := H5.out
      subst E5
      clear H5
      refine (wpIn_wide (n := 6)).1 ?_
      have hz : o.data.length = 0 ∨ ∃ ad, a1 = some ad := by
        by_cases h0 : o.data.length = 0
        · exact .inl h0
        · obtain ⟨a, e, _⟩ := PL.out.2.1 0 (.int .u8 o.data[0]) (by simp [byteCells, Nat.pos_of_ne_zero h0])
          exact .inr ⟨a, e⟩
      have BX0 : Pack (((w4.alloc (.cells #[.slice a1 o.data.length c1] 24)).alloc (.cells #[.int .i64 8] 3)).heap[w4.heap.size]? = some (.cells #[.slice a1 o.data.length c1] 24 (0, 0)) ∧ ((w4.alloc (.cells #[.slice a1 o.data.length c1] 24)).alloc (.cells #[.int .i64 8] 3)).heap[w4.heap.size + 1]? = some (.cells #[.int .i64 8] 3 (0, 0))) := ⟨by
        constructor
        · rw [Below.heap_alloc _ _ _ (by simp)]
          exact heap_alloc_new w4 _
        · have := heap_alloc_new (w4.alloc (.cells #[.slice a1 o.data.length c1] 24)) (.cells #[.int .i64 8] 3)
          rwa [show (w4.alloc (.cells #[.slice a1 o.data.length c1] 24)).heap.size = w4.heap.size + 1 by simp] at this⟩
      refine range_own (α := Fin (o.data.length / 8)) (v := fun k => chunkV a1 k.val) (q := 8) rfl (enters_of Tryz.func60 (by kernel_rfl) rfl) (Kp := BoxKept w4.heap.size) (S := fun xs => xs.map Fin.val = List.range (o.data.length / 8)) (Sp := fun _ => True) (N := o.data.length / 8) (w0 := (w4.alloc (.cells #[.slice a1 o.data.length c1] 24)).alloc (.cells #[.int .i64 8] 3)) ?seq ?kt ?kb (Below.refl _ _) (fun pre W => Bld N N (t3 o ++ pre.flatMap fun k => dataLine o.data k.val) W0 W ∧ (W.heap[w4.heap.size]? = some (.cells #[.slice a1 o.data.length c1] 24 (0, 0)) ∧ W.heap[w4.heap.size + 1]? = some (.cells #[.int .i64 8] 3 (0, 0)))) ?own ?h0 ?assign ?body ?done
      case seq => exact chunk_any w4.heap.size a1 o.data.length c1 _ BX0.out.1 BX0.out.2 PF.out.n1' PF.out.n1 hcap hz
      case kt => exact fun h k => ⟨k.1.trans h.1, k.2.trans h.2⟩
      case kb =>
        intro W l ob ob' hl h _ _
        have : w4.heap.size + 2 ≤ l := by simpa using hl
        exact ⟨World.putObj_heap_other (by omega), World.putObj_heap_other (by omega)⟩
      case own => exact OwnFrom.and (fun pre => bld_own (β := Unit) hsz (by simp; omega) ()) (OwnFrom.and box_own box_own)
      case h0 => exact ⟨by simpa using (P4.out.alloc hsz _).alloc hsz _, BX0.out⟩
      case assign =>
        intro l x W K hK
        simp only [List.setIfInBounds_toArray, List.set_cons_succ, List.set_cons_zero] at hK ⊢
        gi_wp2
        exact hK
      case body =>
        rintro l pre x W ⟨hBld, hb0, hb1⟩ hlt
        have PA := Pack.mk hBld
        have PB := Pack.mk (And.intro hb0 hb1)
        clear hBld hb0 hb1 P4 b0 b1 b2 b3 BX0
        obtain ⟨k, hk⟩ := x
        rcases hz with hz | ⟨ad, rfl⟩
        · omega
        simp only [List.setIfInBounds_toArray, List.set_cons_succ, List.set_cons_zero, chunkV, Option.map_some]
        have cc : ∀ i (hi : i < 8), W.cell? (ad.add (8 * k + i)) = some (.int .u8 ((chunkAt o.data k)[i]'(by rw [chunk_len hk]; exact hi))) := by
          intro i hi
          have hj : 8 * k + i < o.data.length := by omega
          obtain ⟨a, e, _, _, ca⟩ := (PL.out.2.1.step (BW.out.trans (PA.out.below.mono (Nat.le_of_lt hnB)))) (8 * k + i) (.int .u8 o.data[8 * k + i]) (by simp [byteCells, hj])
          cases e
          rw [ca]
          have hg := chunk_get (l := o.data) (k := k) hi
          rw [List.getElem?_eq_getElem hj, List.getElem?_eq_getElem (by rw [chunk_len hk]; exact hi)] at hg
          rw [Option.some.inj hg]
        have CCs := Pack.mk cc
        clear cc
        gi_wp2
        gi_loopg [9, 11, 51] 8 (fun kq v9 v11 v51 wr => ∃ i : Nat, i + kq = 8 ∧ v51 = .int .i64 i ∧ v9 = .int .u64 ((word8 ((chunkAt o.data k).take i) : Nat) : Int) ∧ Pack (wr = W))
        case atStart => exact ⟨0, by omega, rfl, rfl, ⟨rfl⟩⟩
        case round =>
          obtain ⟨i, hi, rfl, rfl, PW1⟩ := hrel
          obtain rfl := PW1.out
          by_cases hk0 : gk = 0
          · subst hk0
            obtain rfl : i = 8 := by omega
            have e8 : (chunkAt o.data k).take 8 = chunkAt o.data k := List.take_of_length_le (by rw [chunk_len hk]; exact Nat.le_refl _)
            have hlt8 : word8 (chunkAt o.data k) < 16 ^ 16 := by
              have := word8_lt 8 (chunkAt o.data k) (chunk_len hk) (fun x hx => PF.out.data x (chunk_mem hx))
              omega
            rw [e8]
            have PQ := Pack.mk hlt8
            clear e8 hlt8
            have hL : Pack (((t3 o ++ pre.flatMap fun k => dataLine o.data k.val) ++ lineText (hexN 16 (word8 (chunkAt o.data k))) []).length ≤ 140737488355328) := ⟨by
              have h1 := t3_le PF.out
              have h2 := flat_le (f := fun k : Fin (o.data.length / 8) => dataLine o.data k.val) (l := pre) (c := 17) (fun x _ => dataLine_le _ _)
              have h3 := dataLine_le o.data k
              have h4 := PF.out.n1
              unfold dataLine at h3
              simp only [List.length_append] at *
              omega⟩
            gi_wp2
            refine ⟨trivial, ?_⟩
            refine (CallsIn.inRound l ((callsIn_wide (n := 3)).2 (digits_calls _ 16 PQ.out (by decide) (by decide) _ (h640.out.below PA.out.below hn1) (by have := PA.out.below.size; omega)))).mono ?_
            rintro e w6 ⟨rfl, h6⟩
            have P6 := Pack.mk (PA.out.sub hsz h6)
            have K6 := Pack.mk h6
            clear h6
            gi_wp2
            refine ⟨trivial, ?_⟩
            have hN6 : N ≤ w6.heap.size := by have := P6.out.below.size; omega
            refine (CallsIn.inRound l ((callsIn_wide (n := 3)).2 (P6.out.refl.word hN6 hN1 (P6.out.tab hN1 hT0.out) ⟨(hexN 16 (word8 (chunkAt o.data k))).toArray⟩ (m := (t3 o ++ pre.flatMap fun k => dataLine o.data k.val) ++ lineText (hexN 16 (word8 (chunkAt o.data k))) []) (by simp) hL.out))).mono ?_
            rintro e w7 ⟨rfl, h7⟩
            have P7 := Pack.mk h7
            have K7 := Pack.mk h7.kept
            clear h7
            gi_wp2
            have q0 : w7.heap[w4.heap.size]? = some (.cells #[.slice (some ad) o.data.length c1] 24 (0, 0)) := K7.out _ _ ((K6.out.block _ (Array.getElem?_eq_some_iff.1 PB.out.1).1).trans PB.out.1) (by intro e; cases e; omega) (by intro c f e; cases e)
            have q1 : w7.heap[w4.heap.size + 1]? = some (.cells #[.int .i64 8] 3 (0, 0)) := K7.out _ _ ((K6.out.block _ (Array.getElem?_eq_some_iff.1 PB.out.2).1).trans PB.out.2) (by intro e; cases e; omega) (by intro c f e; cases e)
            refine ⟨KeepsOthers.trans ⟨K6.out.size, fun j ob hj _ => (K6.out.block _ (Array.getElem?_eq_some_iff.1 hj).1).trans hj⟩ (P7.out.others P6.out), ⟨q0.trans PB.out.1.symm, q1.trans PB.out.2.symm⟩, ?_, q0, q1⟩
            have h8 := P6.out.step P7.out
            rw [List.flatMap_append, ← List.append_assoc]
            simpa [dataLine] using h8
          · have hlt' : (i : Int) < 8 := by omega
            have hi8 : i < 8 := by omega
            have c1' := CCs.out i hi8
            rw [← Addr.add_add] at c1'
            have hln := chunk_len hk
            have hx := PF.out.data ((chunkAt o.data k)[i]) (chunk_mem (List.getElem_mem _))
            have hwlt := word8_lt i ((chunkAt o.data k).take i) (by rw [List.length_take]; omega) (fun x hx => PF.out.data x (chunk_mem (List.mem_of_mem_take hx)))
            have hw7 : word8 ((chunkAt o.data k).take i) < 256 ^ 7 := Nat.lt_of_lt_of_le hwlt (Nat.pow_le_pow_right (by decide) (by omega))
            have PS : Pack (word8 ((chunkAt o.data k).take (i + 1)) = word8 ((chunkAt o.data k).take i) * 256 + ((chunkAt o.data k)[i]).toNat) := ⟨by
              rw [List.take_add_one, List.getElem?_eq_getElem (by omega)]
              exact word8_snoc _ _⟩
            generalize (chunkAt o.data k)[i] = x at c1' hx PS
            generalize word8 ((chunkAt o.data k).take i) = y at hw7 PS
            clear hwlt hln
            obtain ⟨m, rfl⟩ : ∃ m : Nat, x = m := ⟨x.toNat, by omega⟩
            have hor := or_byte y m (by omega) hx.1 hx.2
            rw [Int.toNat_natCast] at hor PS
            have hw1 : IntKind.u64.wrap ((y : Int) * 256) = (y : Int) * 256 := by rw [IntKind.wrap_u64]; omega
            gi_wp2
            gi_roundg (gk - 1)
            case measure => omega
            case rel => exact ⟨i + 1, by omega, by go_num, by rw [PS.out]; rfl, ⟨rfl⟩⟩
      case done =>
        intro D xs W hD hxs hI hdef
        have P5 : Pack (Bld N N (t4 o (o.data.length / 8)) W0 W) := ⟨by
          have h := hI.1
          unfold t4
          rw [← hxs, List.flatMap_map]
          exact h⟩
        have PD : Pack (W.heap[D]? = some (.deferred (some [])) ∧ N < D) := ⟨hdef, by have := P4.out.below.size; simp at this hD; omega⟩
        clear hI hdef hD hxs BX0 b0 b1 b2 b3
        have hW := P5.out.below.size
        have P6 := Pack.mk P5.out.refl
        have hszW : N ≤ W.heap.size := by omega
        have hTW : Pack (Tab W) := ⟨P5.out.tab hN1 hT0.out⟩
        have hBW : Pack (Below w.heap.size w W) := ⟨BW.out.trans (P5.out.below.mono (Nat.le_of_lt hnB))⟩
        have CB2 : Pack (∀ W' l, Bld N N l W W' → W'.cell? ⟨w.heap.size, 2, none⟩ = some (.slice a2 o.syms.length c2) ∧ W'.cell? ⟨w.heap.size, 3, none⟩ = some (.slice a3 o.rels.length c3)) := ⟨fun W' l h => (CB.out _ _ (P5.out.step h)).2.2⟩
        clear P4 P5 hT0 hbox CB
        obtain ⟨b2, b3⟩ := CB2.out _ _ P6.out
        go_wp2_with fail
        refine (P6.out.num hszW (by have := P6.out.below.size; omega) hN1 (P6.out.tab hN1 hTW.out) _ o.syms.length (by omega) rfl (Nat.le_trans (t5_le PF.out) (by decide))).mono ?_
        rintro e w7 ⟨rfl, h7⟩
        have P7 : Pack (Bld N N (t5 o) W w7) := ⟨h7⟩
        clear h7 P6 b2 b3
        obtain ⟨b2, b3⟩ := CB2.out _ _ P7.out
        go_wp2_with fail
        go_loopg [13, 14, 72] o.syms.length (fun kq v13 v14 v72 wr => ∃ i : Nat, i + kq = o.syms.length ∧ v72 = .int .i64 i ∧ Pack (Bld N N (t6 o i) W wr))
        case atStart => exact ⟨0, by omega, rfl, ⟨by simpa [t6] using P7.out⟩⟩
        case round =>
          clear P7 b2 b3
          obtain ⟨i, hi, rfl, PA⟩ := hrel
          by_cases hk : gk = 0
          · subst hk
            obtain rfl : i = o.syms.length := by omega
            have hlt : ¬ ((o.syms.length : Int) < (o.syms.length : Int)) := by omega
            obtain ⟨b2, b3⟩ := CB2.out _ _ PA.out
            go_wp2_with fail
            refine (PA.out.num hszW (by have := PA.out.below.size; omega) hN1 (PA.out.tab hN1 hTW.out) _ o.rels.length n3 rfl (Nat.le_trans (t7_le PF.out) (by decide))).mono ?_
            rintro e w8 ⟨rfl, h8⟩
            have P8 : Pack (Bld N N (t7 o) W w8) := ⟨h8⟩
            clear h8 PA b2 b3
            obtain ⟨b2, b3⟩ := CB2.out _ _ P8.out
            go_wp2_with fail
            go_loopg [16, 98] o.rels.length (fun kq v16 v98 wr => ∃ i : Nat, i + kq = o.rels.length ∧ v98 = .int .i64 i ∧ Pack (Bld N N (t8 o i) W wr))
            case atStart => exact ⟨0, by omega, rfl, ⟨by simpa [t8] using P8.out⟩⟩
            case round =>
              clear P8 b2 b3
              obtain ⟨i, hi, rfl, PA⟩ := hrel
              by_cases hk : gk = 0
              · subst hk
                obtain rfl : i = o.rels.length := by omega
                have hlt : ¬ ((o.rels.length : Int) < (o.rels.length : Int)) := by omega
                go_wp2_with fail
                refine (PA.out.word hszW hN1 (PA.out.tab hN1 hTW.out) ⟨#[101, 110, 100]⟩ (m := textOf o) rfl (textOf_le PF.out)).mono ?_
                rintro e w9 ⟨rfl, h9⟩
                have P9 : Pack (Bld N N (textOf o) W w9) := ⟨h9⟩
                clear h9 PA
                go_wp2_with fail
                refine (P9.out.text (by unfold textOf lineText; simp)).mono ?_
                rintro e w10 ⟨rfl, h10⟩
                have PE := Pack.mk h10
                clear h10
                go_wp2_with fail
                have hK := PE.out.kept D _ PD.out.1 (by intro e; have := PD.out.2; cases e; omega) (by intro c fz e; cases e)
                have hB := hBW.out.trans (PE.out.below.mono (B' := w.heap.size) (Nat.le_of_lt hnB))
                have hD := PD.out.2
                refine ⟨by simp, .inl ⟨_, _, rfl, run_takeDeferred hK, ?_⟩⟩
                refine ⟨.tuple #[.string ⟨(textOf o).toArray⟩, .int .i64 0], ?_, rfl, hB.trans (belowK_b (w := w) (Nat.le_refl _) _ D _ _ (by omega) hK rfl rfl)⟩
                simp [results, Tryz.results14, go_sem]
              · have hlt : (i : Int) < (o.rels.length : Int) := by omega
                have h1 : i < o.rels.length := by omega
                obtain ⟨a, rfl, _, _, ca⟩ := (PL.out.2.2.2.step (hBW.out.trans (PA.out.below.mono (Nat.le_of_lt hnB)))).elem encRel 5 encRel_len (by decide) i h1
                obtain ⟨p0, p1, p2, p3, p4⟩ := cells5 ca rfl
                clear ca
                have is := PF.out.rels o.rels[i] (List.getElem_mem h1)
                have E8 := Pack.mk (t8_succ o h1)
                generalize o.rels[i] = x at p0 p1 p2 p3 p4 is E8
                have IS := Pack.mk is
                clear is
                obtain ⟨sc, pl, kd, sy, ad⟩ := x
                simp only at p0 p1 p2 p3 p4 IS
                have PR : Pack (Bld N N (t8 o i) W (wr.alloc (.cells #[.int .i64 sc, .int .i64 pl, .int .i64 kd, .int .i64 sy, .int .i64 ad] 67))) := ⟨PA.out.alloc hszW _⟩
                have T8 : Pack ((wr.alloc (.cells #[.int .i64 sc, .int .i64 pl, .int .i64 kd, .int .i64 sy, .int .i64 ad] 67)).heap[wr.heap.size]? = some (.cells #[.int .i64 sc, .int .i64 pl, .int .i64 kd, .int .i64 sy, .int .i64 ad] 67 (0, 0))) := ⟨heap_alloc_new wr _⟩
                have KX : Pack (∀ W, Below (wr.alloc (.cells #[.int .i64 sc, .int .i64 pl, .int .i64 kd, .int .i64 sy, .int .i64 ad] 67)).heap.size (wr.alloc (.cells #[.int .i64 sc, .int .i64 pl, .int .i64 kd, .int .i64 sy, .int .i64 ad] 67)) W → W.cell? ⟨wr.heap.size, 0, none⟩ = some (.int .i64 sc) ∧ W.cell? ⟨wr.heap.size, 1, none⟩ = some (.int .i64 pl) ∧ W.cell? ⟨wr.heap.size, 2, none⟩ = some (.int .i64 kd) ∧ W.cell? ⟨wr.heap.size, 3, none⟩ = some (.int .i64 sy) ∧ W.cell? ⟨wr.heap.size, 4, none⟩ = some (.int .i64 ad)) := ⟨fun W h => (five_at ((h.block _ (by simp)).trans T8.out)).1⟩
                have TA : Pack (Tab (wr.alloc (.cells #[.int .i64 sc, .int .i64 pl, .int .i64 kd, .int .i64 sy, .int .i64 ad] 67))) := ⟨PR.out.tab hN1 hTW.out⟩
                have HNR : Pack (N < (wr.alloc (.cells #[.int .i64 sc, .int .i64 pl, .int .i64 kd, .int .i64 sy, .int .i64 ad] 67)).heap.size) := ⟨by have := PR.out.below.size; omega⟩
                have HNR2 : Pack (N < ((wr.alloc (.cells #[.int .i64 sc, .int .i64 pl, .int .i64 kd, .int .i64 sy, .int .i64 ad] 67)).alloc (.cells #[.int .i64 pl, .int .i64 kd, .int .i64 sy, .int .i64 ad] 3)).heap.size) := ⟨by have := HNR.out; simp at this ⊢; omega⟩
                have KY : Pack (∀ W : World, W.heap[wr.heap.size]? = some (.cells #[.int .i64 sc, .int .i64 pl, .int .i64 kd, .int .i64 sy, .int .i64 ad] 67 (0, 0)) → W.cell? ⟨wr.heap.size, 0, none⟩ = some (.int .i64 sc) ∧ W.cell? ⟨wr.heap.size, 1, none⟩ = some (.int .i64 pl) ∧ W.cell? ⟨wr.heap.size, 2, none⟩ = some (.int .i64 kd) ∧ W.cell? ⟨wr.heap.size, 3, none⟩ = some (.int .i64 sy) ∧ W.cell? ⟨wr.heap.size, 4, none⟩ = some (.int .i64 ad)) := ⟨fun W h => (five_at h).1⟩
                have T9 : Pack (((wr.alloc (.cells #[.int .i64 sc, .int .i64 pl, .int .i64 kd, .int .i64 sy, .int .i64 ad] 67)).alloc (.cells #[.int .i64 pl, .int .i64 kd, .int .i64 sy, .int .i64 ad] 3)).heap[wr.heap.size]? = some (.cells #[.int .i64 sc, .int .i64 pl, .int .i64 kd, .int .i64 sy, .int .i64 ad] 67 (0, 0))) := ⟨by rw [Below.heap_alloc _ _ _ (by simp)]; exact T8.out⟩
                have TL : Pack (wr.heap.size < (wr.alloc (.cells #[.int .i64 sc, .int .i64 pl, .int .i64 kd, .int .i64 sy, .int .i64 ad] 67)).heap.size ∧ wr.heap.size < ((wr.alloc (.cells #[.int .i64 sc, .int .i64 pl, .int .i64 kd, .int .i64 sy, .int .i64 ad] 67)).alloc (.cells #[.int .i64 pl, .int .i64 kd, .int .i64 sy, .int .i64 ad] 3)).heap.size ∧ wr.heap.size ≠ N) := ⟨by have := PA.out.below.size; simp; omega⟩
                have HL : Pack ((t8 o (i + 1)).length ≤ 140737488355328) := ⟨Nat.le_trans (t8_le PF.out (i + 1)) (by decide)⟩
                have HG : Pack (((wr.alloc (.cells #[.int .i64 sc, .int .i64 pl, .int .i64 kd, .int .i64 sy, .int .i64 ad] 67)).alloc (.cells #[.int .i64 pl, .int .i64 kd, .int .i64 sy, .int .i64 ad] 3)).drew.heap[wr.heap.size + 1]? = some (.cells #[.int .i64 pl, .int .i64 kd, .int .i64 sy, .int .i64 ad] 3 (0, 0))) := ⟨by
                  have := heap_alloc_new (wr.alloc (.cells #[.int .i64 sc, .int .i64 pl, .int .i64 kd, .int .i64 sy, .int .i64 ad] 67)) (.cells #[.int .i64 pl, .int .i64 kd, .int .i64 sy, .int .i64 ad] 3)
                  rwa [show (wr.alloc (.cells #[.int .i64 sc, .int .i64 pl, .int .i64 kd, .int .i64 sy, .int .i64 ad] 67)).heap.size = wr.heap.size + 1 by simp] at this⟩
                have HG1 : Pack (wr.heap.size + 1 < ((wr.alloc (.cells #[.int .i64 sc, .int .i64 pl, .int .i64 kd, .int .i64 sy, .int .i64 ad] 67)).alloc (.cells #[.int .i64 pl, .int .i64 kd, .int .i64 sy, .int .i64 ad] 3)).drew.heap.size) := ⟨(Array.getElem?_eq_some_iff.1 HG.out).1⟩
                have HG2 : Pack (wr.heap.size + 1 ≠ N) := ⟨by have := PA.out.below.size; omega⟩
                go_wp2_with fail
                go_region_held3 (fun W => W.cell? ⟨wr.heap.size, 0, none⟩ = some (.int .i64 sc) ∧ W.cell? ⟨wr.heap.size, 1, none⟩ = some (.int .i64 pl) ∧ W.cell? ⟨wr.heap.size, 2, none⟩ = some (.int .i64 kd) ∧ W.cell? ⟨wr.heap.size, 3, none⟩ = some (.int .i64 sy) ∧ W.cell? ⟨wr.heap.size, 4, none⟩ = some (.int .i64 ad)) (first | go_keep | exact KX.out _ ⟨h2.os, h2.tape, h2.output, h2.size, h2.block⟩ | exact KX.out _ (below_step (below_alloc (Below.refl _ (wr.alloc (.cells #[.int .i64 sc, .int .i64 pl, .int .i64 kd, .int .i64 sy, .int .i64 ad] 67))) (.cells #[.int .i64 pl, .int .i64 kd, .int .i64 sy, .int .i64 ad] 3)) ⟨h2.os, h2.tape, h2.output, h2.size, h2.block⟩) | exact KY.out _ (h3.kept _ _ ((h2.block _ TL.out.1).trans T8.out) (fun e => TL.out.2.2 (Option.some.inj e)) (fun c f e => by cases e)) | exact KY.out _ (h3.kept _ _ ((h2.block _ TL.out.2.1).trans T9.out) (fun e => TL.out.2.2 (Option.some.inj e)) (fun c f e => by cases e))) ((first
                  | (go_at_call 36; refine (itoa_new sc IS.out.1 (wr.alloc (.cells #[.int .i64 sc, .int .i64 pl, .int .i64 kd, .int .i64 sy, .int .i64 ad] 67)).drew TA.out).mono ?_; rintro e w2 ⟨rfl, h2⟩)
                  | (go_at_call 36; refine (itoa_new sc IS.out.1 ((wr.alloc (.cells #[.int .i64 sc, .int .i64 pl, .int .i64 kd, .int .i64 sy, .int .i64 ad] 67)).alloc (.cells #[.int .i64 pl, .int .i64 kd, .int .i64 sy, .int .i64 ad] 3)).drew (tab_alloc TA.out (by simp; omega) _)).mono ?_; rintro e w2 ⟨rfl, h2⟩)
                  | (go_at_call 33; refine ((PR.out.drew.sub hszW h2).refl.four (Nat.le_of_lt (Nat.lt_of_lt_of_le HNR.out h2.size)) (Nat.lt_of_lt_of_le HNR.out h2.size) hN1 ((PR.out.drew.sub hszW h2).tab hN1 hTW.out) ⟨(Lib.itoa sc).toArray⟩ pl kd sy ad IS.out.2.1 IS.out.2.2.1 IS.out.2.2.2.1 IS.out.2.2.2.2 (m := t8 o (i + 1)) E8.out.symm HL.out).mono ?_; rintro e w3 ⟨rfl, h3⟩)
                  | (go_at_call 33; refine (((PR.out.alloc hszW (.cells #[.int .i64 pl, .int .i64 kd, .int .i64 sy, .int .i64 ad] 3)).drew.sub hszW h2).refl.at4 (Nat.le_of_lt (Nat.lt_of_lt_of_le HNR2.out h2.size)) hN1 (((PR.out.alloc hszW (.cells #[.int .i64 pl, .int .i64 kd, .int .i64 sy, .int .i64 ad] 3)).drew.sub hszW h2).tab hN1 hTW.out) ⟨(Lib.itoa sc).toArray⟩ (wr.heap.size + 1) pl kd sy ad ((h2.block _ HG1.out).trans HG.out) HG2.out IS.out.2.1 IS.out.2.2.1 IS.out.2.2.2.1 IS.out.2.2.2.2 (m := t8 o (i + 1)) E8.out.symm HL.out).mono ?_; rintro e w3 ⟨rfl, h3⟩)
                  | (go_at_call 33; trace_state; fail)))
                all_goals
                  have P9 : Pack (Bld N N (t8 o (i + 1)) W w3) := ⟨by first | exact (PR.out.drew.sub hszW h2).step h3 | exact ((PR.out.alloc hszW (.cells #[.int .i64 pl, .int .i64 kd, .int .i64 sy, .int .i64 ad] 3)).drew.sub hszW h2).step h3⟩
                  clear h2 h3 p0 p1 p2 p3 p4
                  go_wp2_with fail
                  go_roundg (gk - 1)
                  case measure => omega
                  case rel => exact ⟨i + 1, by omega, by go_num, P9⟩
          · have hlt : (i : Int) < (o.syms.length : Int) := by omega
            have h1 : i < o.syms.length := by omega
            obtain ⟨a, rfl, _, _, ca⟩ := (PL.out.2.2.1.step (hBW.out.trans (PA.out.below.mono (Nat.le_of_lt hnB)))).elem encSym 5 encSym_len (by decide) i h1
            obtain ⟨p0, p1, p2, p3, p4⟩ := cells5 ca rfl
            clear ca
            obtain ⟨hns, is0, is1, is2⟩ := PF.out.syms o.syms[i] (List.getElem_mem h1)
            have E6 := Pack.mk (t6_succ o h1)
            generalize o.syms[i] = x at p0 p1 p2 p3 p4 is0 is1 is2 E6 hns
            have IS := Pack.mk (And.intro is0 (And.intro is1 is2))
            clear is0 is1 is2
            obtain ⟨nm, sc, vl, fr, gl⟩ := x
            simp only at p0 p1 p2 p3 p4 IS
            cases gl with
            | false =>
              go_wp2_with fail
              have P8 := Pack.mk (PA.out.alloc hszW (.cells #[.string nm, .int .i64 sc, .int .i64 vl, .int .i64 fr, .bool false] 41))
              have C8 := P8.out.four hszW (by have := P8.out.below.size; omega) hN1 (P8.out.tab hN1 hTW.out) nm sc vl fr 0 IS.out.1 IS.out.2.1 IS.out.2.2 (by constructor <;> decide) (m := t6 o (i + 1)) E6.out.symm (Nat.le_trans (t6_le PF.out (i + 1)) (by decide))
              rw [show (wr.alloc (.cells #[.string nm, .int .i64 sc, .int .i64 vl, .int .i64 fr, .bool false] 41)).heap.size = wr.heap.size + 1 by simp] at C8
              refine C8.mono ?_
              clear C8 P8
              rintro e w8 ⟨rfl, h8⟩
              have P9 := Pack.mk h8
              clear h8 p0 p1 p2 p3 p4
              go_wp2_with fail
              go_roundg (gk - 1)
              case measure => omega
              case rel => exact ⟨i + 1, by omega, by go_num, P9⟩
            | true =>
              go_wp2_with fail
              have P8 := Pack.mk (PA.out.alloc hszW (.cells #[.string nm, .int .i64 sc, .int .i64 vl, .int .i64 fr, .bool true] 41))
              have C8 := P8.out.four hszW (by have := P8.out.below.size; omega) hN1 (P8.out.tab hN1 hTW.out) nm sc vl fr 1 IS.out.1 IS.out.2.1 IS.out.2.2 (by constructor <;> decide) (m := t6 o (i + 1)) E6.out.symm (Nat.le_trans (t6_le PF.out (i + 1)) (by decide))
              rw [show (wr.alloc (.cells #[.string nm, .int .i64 sc, .int .i64 vl, .int .i64 fr, .bool true] 41)).heap.size = wr.heap.size + 1 by simp] at C8
              refine C8.mono ?_
              clear C8 P8
              rintro e w8 ⟨rfl, h8⟩
              have P9 := Pack.mk h8
              clear h8 p0 p1 p2 p3 p4
              go_wp2_with fail
              go_roundg (gk - 1)
              case measure => omega
              case rel => exact ⟨i + 1, by omega, by go_num, P9⟩
    · have hlt : (i : Int) < (o.text.length : Int) := by omega
      have h1 : i < o.text.length := by omega
      obtain ⟨a, rfl, _, _, ca⟩ := (PL.out.1.step (BW.out.trans (PA.out.below.mono (Nat.le_of_lt hnB)))) i (.int .u32 o.text[i]) (by simp [wordCells, h1])
      have hx := PF.out.text o.text[i] (List.getElem_mem h1)
      generalize hxi : o.text[i] = x at ca hx
      obtain ⟨n, rfl⟩ : ∃ n : Nat, x = n := ⟨x.toNat, by omega⟩
      have PE := Pack.mk hxi
      have PR : Pack (n < 16 ^ 8) := ⟨by have := hx.2; omega⟩
      clear hxi
      have E2 : Pack (t2 o i ++ lineText (hexN 8 n) [] = t2 o (i + 1)) := ⟨by rw [t2_succ o h1, PE.out]; rfl⟩
      go_wp2_with fail
      refine (digits_calls n 8 PR.out (by decide) (by decide) _ (h640.out.below PA.out.below hn1) (by have := PA.out.below.size; omega)).mono ?_
      rintro e w4 ⟨rfl, h4⟩
      have P4 := Pack.mk (PA.out.sub hsz h4)
      clear h4 PA ca
      go_wp2_with fail
      refine (P4.out.word hsz hN1 (P4.out.tab hN1 hT0.out) ⟨(hexN 8 n).toArray⟩ (by simpa using E2.out) (Nat.le_trans (t2_le PF.out (i + 1)) (by decide))).mono ?_
      rintro e w5 ⟨rfl, h5⟩
      have P5 : Pack (Bld N N (t2 o (i + 1)) W0 w5) := ⟨h5⟩
      clear h5 P4
      go_wp2_with fail
      go_roundg (gk - 1)
      case measure => omega
      case rel => exact ⟨i + 1, by omega, by go_num, P5⟩
end Go.Proofs.YtgcpnjckbdajbaaGreatDoor.Ob
