import Derived.Test.YtgcpnjckbdajbaaGreatDoorQF
namespace Go.Proofs.YtgcpnjckbdajbaaGreatDoor.Ob
open Go.RowKit Go.Sort

def hexBody (x : Int) : List UInt8 := body (hexN 8 x.toNat) []
def dataBody (l : List Int) (k : Nat) : List UInt8 := body (hexN 16 (word8 (chunkAt l k))) []
def symBody (s : SymV) : List UInt8 := body s.name.data.toList [s.sect, s.value, s.frame, if s.glob then 1 else 0]
def relBody (r : RelV) : List UInt8 := body (Lib.itoa r.sect) [r.place, r.kind, r.sym, r.add]
def linesOf (o : ObjV) : List (List UInt8) :=
  body wObject [] :: body wText [(o.text.length : Int)] :: (o.text.map hexBody ++ body wData [(o.data.length : Int)] :: ((List.range (o.data.length / 8)).map (dataBody o.data) ++
    body wSyms [(o.syms.length : Int)] :: (o.syms.map symBody ++ body wRels [(o.rels.length : Int)] :: (o.rels.map relBody ++ [body wEnd []]))))
theorem line_body (w : List UInt8) (xs : List Int) : lineText w xs = body w xs ++ [10] := rfl
theorem flat_map {α : Type} (f : α → List UInt8) (g : α → List UInt8) (h : ∀ x, f x = g x ++ [10]) (l : List α) : l.flatMap f = (l.map g).flatMap (· ++ [10]) := by
  rw [List.flatMap_map]
  congr 1
  funext x
  exact h x
theorem text_lines (o : ObjV) : textOf o = (linesOf o).flatMap (· ++ [10]) := by
  unfold textOf t8 t7 t6 t5 t4 t3 t2 t1 t0 linesOf
  rw [List.take_length, List.take_length, List.take_length]
  rw [flat_map hexLine hexBody (fun _ => rfl), flat_map (dataLine o.data) (dataBody o.data) (fun _ => rfl), flat_map symLine symBody (fun _ => rfl), flat_map relLine relBody (fun _ => rfl)]
  simp only [line_body, List.flatMap_cons, List.flatMap_append, List.flatMap_nil, List.append_assoc, List.append_nil]
def NamesClean (o : ObjV) : Prop := ∀ s ∈ o.syms, Clean s.name.data.toList
theorem name_clean {s : ByteArray} (h : nameOk s = true) : Clean s.data.toList := by
  unfold nameOk at h
  simp only [Bool.and_eq_true, List.all_eq_true, List.mem_range] at h
  obtain ⟨_, h⟩ := h
  intro c hc
  obtain ⟨i, hi, rfl⟩ := List.mem_iff_getElem.1 hc
  have hi' : i < s.size := hi
  have := h i hi'
  have e : bAt s i = ((s.data.toList[i]).toNat : Int) := by
    unfold bAt
    rw [List.getD, List.getElem?_eq_getElem hi]
    rfl
  rw [e] at this
  generalize s.data.toList[i] = c at this
  constructor
  · intro e2; subst e2; revert this; decide
  · intro e2; subst e2; revert this; decide
theorem names_clean {o : ObjV} (G : good o = true) : NamesClean o := by
  unfold good at G
  simp only [Bool.and_eq_true] at G
  exact fun s hs => name_clean (sym_good G.2.1 hs)
theorem lines_clean {o : ObjV} (N : NamesClean o) : ∀ l ∈ linesOf o, ∀ c ∈ l, c ≠ 10 := by
  have hw : ∀ w ∈ [wObject, wText, wData, wSyms, wRels, wEnd], Clean w := by
    intro w hw c hc
    have key : ∀ w ∈ [wObject, wText, wData, wSyms, wRels, wEnd], ∀ c ∈ w, c ≠ 32 ∧ c ≠ 10 := by decide
    exact key w hw c hc
  intro l hl
  unfold linesOf at hl
  simp only [List.mem_cons, List.mem_append, List.mem_map, List.not_mem_nil, or_false] at hl
  rcases hl with rfl | rfl | ⟨x, _, rfl⟩ | rfl | ⟨x, _, rfl⟩ | rfl | ⟨x, hx, rfl⟩ | rfl | ⟨x, _, rfl⟩ | rfl
  · exact body_clean (hw _ (by simp))
  · exact body_clean (hw _ (by simp))
  · exact body_clean (hexN_clean 8 _)
  · exact body_clean (hw _ (by simp))
  · exact body_clean (hexN_clean 16 _)
  · exact body_clean (hw _ (by simp))
  · exact body_clean (N x hx)
  · exact body_clean (hw _ (by simp))
  · exact body_clean (itoa_clean _)
  · exact body_clean (hw _ (by simp))
theorem num_line {w : List UInt8} {m n : Nat} (h : body w [(m : Int)] = body w [(n : Int)]) : m = n := by
  have := List.append_cancel_left h
  have := tail_inj this
  simp only [List.cons.injEq, and_true] at this
  omega
theorem map_inj {α : Type} {f : α → List UInt8} {l m : List α} (hf : ∀ x ∈ l, ∀ y ∈ m, f x = f y → x = y) (h : l.map f = m.map f) : l = m := by
  have hlen : l.length = m.length := by have := congrArg List.length h; simpa using this
  refine List.ext_getElem hlen fun i h1 h2 => ?_
  have := congrArg (fun z => z[i]?) h
  simp only [List.getElem?_map, List.getElem?_eq_getElem h1, List.getElem?_eq_getElem h2, Option.map_some, Option.some.injEq] at this
  exact hf _ (List.getElem_mem h1) _ (List.getElem_mem h2) this
theorem data_inj {l m : List Int} (hl : ∀ x ∈ l, 0 ≤ x ∧ x < 256) (hm : ∀ x ∈ m, 0 ≤ x ∧ x < 256) (hlen : l.length = m.length) (h8 : l.length % 8 = 0) (h : (List.range (l.length / 8)).map (dataBody l) = (List.range (m.length / 8)).map (dataBody m)) : l = m := by
  refine List.ext_getElem? fun j => ?_
  by_cases hj : j < l.length
  · have hk : j / 8 < l.length / 8 := by omega
    have hk2 : j / 8 < m.length / 8 := by omega
    have e := congrArg (fun z => z[j / 8]?) h
    simp only [List.getElem?_map, List.getElem?_range hk, List.getElem?_range hk2, Option.map_some, Option.some.injEq] at e
    have e2 : hexN 16 (word8 (chunkAt l (j / 8))) = hexN 16 (word8 (chunkAt m (j / 8))) := by simpa [dataBody, body, numTail] using e
    have b1 := word8_lt 8 (chunkAt l (j / 8)) (chunk_len hk) (fun x hx => hl x (chunk_mem hx))
    have b2 := word8_lt 8 (chunkAt m (j / 8)) (chunk_len hk2) (fun x hx => hm x (chunk_mem hx))
    have e3 := hexN_inj 16 (by omega) (by omega) e2
    have e4 := word8_inj 8 (chunk_len hk) (chunk_len hk2) (fun x hx => hl x (chunk_mem hx)) (fun x hx => hm x (chunk_mem hx)) e3
    have g1 := chunk_get (l := l) (k := j / 8) (i := j % 8) (by omega)
    have g2 := chunk_get (l := m) (k := j / 8) (i := j % 8) (by omega)
    rw [show 8 * (j / 8) + j % 8 = j by omega] at g1 g2
    rw [← g1, ← g2, e4]
  · rw [List.getElem?_eq_none (by omega), List.getElem?_eq_none (by omega)]
/-- one text, one object -/
theorem text_inj {a b : ObjV} (Fa : Fits a) (Fb : Fits b) (Na : NamesClean a) (Nb : NamesClean b) (h : textOf a = textOf b) : a = b := by
  rw [text_lines, text_lines] at h
  have h := lines_inj (lines_clean Na) (lines_clean Nb) h
  unfold linesOf at h
  have h1 := (List.cons.inj h).2
  have n1 := num_line (List.cons.inj h1).1
  obtain ⟨e1, h2⟩ := List.append_inj (List.cons.inj h1).2 (by simp [n1])
  have n2 := num_line (List.cons.inj h2).1
  obtain ⟨e2, h3⟩ := List.append_inj (List.cons.inj h2).2 (by simp [n2])
  have n3 := num_line (List.cons.inj h3).1
  obtain ⟨e3, h4⟩ := List.append_inj (List.cons.inj h3).2 (by simp [n3])
  have n4 := num_line (List.cons.inj h4).1
  obtain ⟨e4, _⟩ := List.append_inj (List.cons.inj h4).2 (by simp [n4])
  have d1 : a.text = b.text := map_inj (fun x hx y hy e => by
    have e' : hexN 8 x.toNat = hexN 8 y.toNat := by simpa [hexBody, body, numTail] using e
    have r1 := Fa.text x hx
    have r2 := Fb.text y hy
    have := hexN_inj 8 (by omega) (by omega) e'
    omega) e1
  have d2 : a.data = b.data := data_inj Fa.data Fb.data n2 Fa.n1' e2
  have d3 : a.syms = b.syms := map_inj (fun x hx y hy e => by
    obtain ⟨e1, e2⟩ := body_inj (Na x hx) (Nb y hy) e
    obtain ⟨n, s, v, f, g⟩ := x
    obtain ⟨n', s', v', f', g'⟩ := y
    simp only [List.cons.injEq, and_true] at e1 e2
    obtain ⟨rfl, rfl, rfl, eg⟩ := e2
    have en : n = n' := by
      apply ByteArray.ext
      exact Array.toList_inj.1 e1
    subst en
    cases g <;> cases g' <;> simp at eg ⊢) e3
  have d4 : a.rels = b.rels := map_inj (fun x hx y hy e => by
    obtain ⟨e1, e2⟩ := body_inj (itoa_clean _) (itoa_clean _) e
    obtain ⟨s, p, k, y0, z⟩ := x
    obtain ⟨s', p', k', y0', z'⟩ := y
    simp only [List.cons.injEq, and_true] at e1 e2
    obtain ⟨rfl, rfl, rfl, rfl⟩ := e2
    have := itoa_inj e1
    subst this
    rfl) e4
  obtain ⟨_, _, _, _⟩ := a
  obtain ⟨_, _, _, _⟩ := b
  simp only at d1 d2 d3 d4
  rw [d1, d2, d3, d4]
end Go.Proofs.YtgcpnjckbdajbaaGreatDoor.Ob
