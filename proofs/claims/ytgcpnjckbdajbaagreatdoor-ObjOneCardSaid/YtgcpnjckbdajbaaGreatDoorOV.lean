import Derived.Test.YtgcpnjckbdajbaaGreatDoorOU
import Derived.Laws.IdiomStrings
namespace Go.Proofs.YtgcpnjckbdajbaaGreatDoor.Ob
open Go.RowKit Go.Sort
theorem Still.drewN {w w' : World} (h : Still w w') (n : Nat) : Still w (w'.drewN n) := h
/-- the string of bytes -/
def strOf (xs : List Int) : ByteArray := ⟨(xs.map fun n => UInt8.ofNat n.toNat).toArray⟩
theorem foldl_push : ∀ (l : List Int) (r : ByteArray), l.foldl (fun r n => r.push (UInt8.ofNat n.toNat)) r = ⟨r.data ++ (l.map fun n => UInt8.ofNat n.toNat).toArray⟩
  | [], r => by simp
  | b :: l, r => by
    simp only [List.foldl_cons]
    rw [foldl_push l]
    simp [ByteArray.push]
theorem conv_bytes (W : World) (ao : Option Addr) (c : Nat) (xs : List Int) (h : At .u8 W ao xs) : Sem.run Tryz.prog (convert 24 9 (.slice ao xs.length c)) W = .ok (.string (strOf xs)) W := by
  rw [run_convert_bytes_string W 24 9 5 ao xs.length c Tryz.underlying24 Tryz.underlying5 Tryz.underlying9]
  cases ao with
  | none =>
    have : xs = [] := by
      cases xs with
      | nil => rfl
      | cons x xs => obtain ⟨a, e, _⟩ := h 0 (by simp); cases e
    subst this
    simp [Conv.bytesToString]
    rfl
  | some a =>
    have hl := run_loadCells_list (P := Tryz.prog) W a (xs.map (Value.int .u8)) (fun j v hj => by
      have hj' : j < xs.length := by simpa using (List.getElem?_eq_some_iff.1 hj).1
      obtain ⟨a', e, c⟩ := h j hj'
      cases e
      rw [c]
      simp [List.getElem?_eq_getElem hj'] at hj
      rw [← hj])
    simp only [List.length_map] at hl
    rw [run_bytesToString W a xs.length c _ hl, foldl_push, show ByteArray.empty.data = #[] from rfl, Array.empty_append]
    rfl
theorem strOf_inj : ∀ {xs ys : List Int}, (∀ x ∈ xs, 0 ≤ x ∧ x < 256) → (∀ y ∈ ys, 0 ≤ y ∧ y < 256) → strOf xs = strOf ys → xs = ys := by
  intro xs ys hx hy h
  have h1 : xs.map (fun n => UInt8.ofNat n.toNat) = ys.map (fun n => UInt8.ofNat n.toNat) := by
    have := congrArg (fun b => b.data.toList) h
    simpa [strOf] using this
  have h2 : ∀ zs : List Int, (∀ x ∈ zs, 0 ≤ x ∧ x < 256) → (zs.map (fun n => UInt8.ofNat n.toNat)).map (fun b => (b.toNat : Int)) = zs := fun zs hz => by
    rw [List.map_map]
    conv => rhs; rw [← List.map_id zs]
    refine List.map_congr_left fun x hx => ?_
    obtain ⟨a, b⟩ := hz x hx
    simp only [Function.comp_apply, id, UInt8.toNat_ofNat']
    omega
  rw [← h2 xs hx, ← h2 ys hy, h1]
theorem strOf_iff {xs ys : List Int} (hx : ∀ x ∈ xs, 0 ≤ x ∧ x < 256) (hy : ∀ y ∈ ys, 0 ≤ y ∧ y < 256) : (strOf xs).toList = (strOf ys).toList ↔ xs = ys :=
  ⟨fun h => strOf_inj hx hy (toList_inj h), fun h => by rw [h]⟩

set_option maxRecDepth 100000 in
theorem refSame_calls (B1 B2 : Nat) (o p : ObjV) (v u : Value) (w : World) (hv : Holds B1 w v o) (hu : Holds B2 w u p) (hm : o.text.length ≤ 140737488355328 ∧ o.data.length ≤ 140737488355328 ∧ o.syms.length ≤ 140737488355328 ∧ o.rels.length ≤ 140737488355328)
    (ho : ∀ x ∈ o.data, 0 ≤ x ∧ x < 256) (hp : ∀ x ∈ p.data, 0 ≤ x ∧ x < 256) :
    Calls Tryz.prog 13 #[v, u] w fun e w' => e = .returned (.bool (decide (o = p))) ∧ Below w.heap.size w w' := by
  obtain ⟨a0, a1, a2, a3, c0, c1, c2, c3, rfl, h0, h1, h2, h3⟩ := hv
  obtain ⟨b0, b1, b2, b3, d0, d1, d2, d3, rfl, k0, k1, k2, k3⟩ := hu
  obtain ⟨m0, m1, m2, m3⟩ := hm
  have C0 : Pack (∀ W, Below w.heap.size w W → Calls Tryz.prog 32 #[.slice a0 o.text.length c0, .slice b0 p.text.length d0] W fun e w' => e = .returned (.bool (o.text == p.text)) ∧ Still W w') :=
    ⟨fun W hb => ref_words _ _ _ _ _ _ W (At.of_lies (h0.step hb)) (At.of_lies (k0.step hb)) m0⟩
  have V1 : Pack (∀ W, Below w.heap.size w W → Sem.run Tryz.prog (convert 24 9 (.slice a1 o.data.length c1)) W = .ok (.string (strOf o.data)) W) := ⟨fun W hb => conv_bytes W _ _ _ (At.of_lies (h1.step hb))⟩
  have V2 : Pack (∀ W, Below w.heap.size w W → Sem.run Tryz.prog (convert 24 9 (.slice b1 p.data.length d1)) W = .ok (.string (strOf p.data)) W) := ⟨fun W hb => conv_bytes W _ _ _ (At.of_lies (k1.step hb))⟩
  have L2 : Pack (Lies B1 w a2 (symCells o.syms) ∧ Lies B2 w b2 (symCells p.syms)) := ⟨⟨h2, k2⟩⟩
  have L3 : Pack (Lies B1 w a3 (relCells o.rels) ∧ Lies B2 w b3 (relCells p.rels)) := ⟨⟨h3, k3⟩⟩
  have M : Pack (o.syms.length ≤ 140737488355328 ∧ o.rels.length ≤ 140737488355328) := ⟨⟨m2, m3⟩⟩
  have D : Pack ((strOf o.data).toList = (strOf p.data).toList ↔ o.data = p.data) := ⟨strOf_iff ho hp⟩
  clear h0 h1 h2 h3 k0 k1 k2 k3 m0 m1 m2 m3 ho hp
  have fin : Pack (decide (o = p) = ((o.text == p.text) && ((o.data == p.data) && ((o.syms == p.syms) && (o.rels == p.rels))))) := ⟨by
    rw [Bool.eq_iff_iff]
    simp only [decide_eq_true_iff, Bool.and_eq_true, beq_iff_eq]
    cases o; cases p; simp⟩
  have hne : Pack (∀ (x y : SymV) (w : World), Sem.run Tryz.prog (binOp .neq 41 (.agg (encSym x).toArray) (.agg (encSym y).toArray)) w = .ok (.bool (!eqSym x y)) w) := ⟨neqSym⟩
  have hgd : Pack (∀ (op : BinOp) (a b : Operand) (x y : SymV) (w : World), Sem.run Tryz.prog (eqGuard op 41 a b (.agg (encSym x).toArray) (.agg (encSym y).toArray)) w = .ok () w) := ⟨guardSym⟩
  have hneR : Pack (∀ (x y : RelV) (w : World), Sem.run Tryz.prog (binOp .neq 67 (.agg (encRel x).toArray) (.agg (encRel y).toArray)) w = .ok (.bool (!eqRel x y)) w) := ⟨neqRel⟩
  have hgdR : Pack (∀ (op : BinOp) (a b : Operand) (x y : RelV) (w : World), Sem.run Tryz.prog (eqGuard op 67 a b (.agg (encRel x).toArray) (.agg (encRel y).toArray)) w = .ok () w) := ⟨guardRel⟩
  go_enter Tryz.func13, Tryz.ntmps13
  go_wp2_with fail
  have hb0 : Pack (Below w.heap.size w ((w.alloc (.cells #[.slice a0 o.text.length c0, .slice a1 o.data.length c1, .slice a2 o.syms.length c2, .slice a3 o.rels.length c3] 28)).alloc (.cells #[.slice b0 p.text.length d0, .slice b1 p.data.length d1, .slice b2 p.syms.length d2, .slice b3 p.rels.length d3] 28))) := ⟨((Below.refl _ w).alloc (Nat.le_refl _) _).alloc (by simp) _⟩
  refine (C0.out _ hb0.out).mono ?_
  rintro e w1 ⟨rfl, s1⟩
  have B1 := Pack.mk (hb0.out.trans (s1.below _))
  have e1 : ∀ a, w1.cell? a = ((w.alloc (.cells #[.slice a0 o.text.length c0, .slice a1 o.data.length c1, .slice a2 o.syms.length c2, .slice a3 o.rels.length c3] 28)).alloc (.cells #[.slice b0 p.text.length d0, .slice b1 p.data.length d1, .slice b2 p.syms.length d2, .slice b3 p.rels.length d3] 28)).cell? a := fun a => by simp only [World.cell?, s1.1]
  clear s1
  generalize hq1 : (o.text == p.text) = q1
  cases q1 with
  | false =>
    have F : Pack (decide (o = p) = false) := ⟨by rw [fin.out, hq1]; rfl⟩
    clear hq1
    go_wp2
    go_ret
    exact ⟨by rw [F.out]; rfl, B1.out⟩
  | true =>
  have Q1 := Pack.mk hq1
  clear hq1
  have v1 := V1.out _ B1.out
  have v2 := V2.out _ B1.out
  by_cases hd : (strOf o.data).toList = (strOf p.data).toList
  case neg =>
    have F : Pack (decide (o = p) = false) := ⟨by rw [fin.out, beq_eq_false_iff_ne.2 (fun e => hd (D.out.2 e))]; simp⟩
    go_wp2
    go_ret
    exact ⟨by rw [F.out]; rfl, B1.out⟩
  case pos =>
  have Q2 : Pack ((o.data == p.data) = true) := ⟨beq_iff_eq.2 (D.out.1 hd)⟩
  by_cases hl2 : o.syms.length = p.syms.length
  case neg =>
    have F : Pack (decide (o = p) = false) := ⟨by rw [fin.out, show (o.syms == p.syms) = false from beq_eq_false_iff_ne.2 (fun e => hl2 (by rw [e]))]; simp⟩
    have hl2' : ¬ ((o.syms.length : Int) = (p.syms.length : Int)) := by omega
    go_wp2
    go_ret
    exact ⟨by rw [F.out]; rfl, B1.out⟩
  case pos =>
  by_cases hl3 : o.rels.length = p.rels.length
  case neg =>
    have F : Pack (decide (o = p) = false) := ⟨by rw [fin.out, show (o.rels == p.rels) = false from beq_eq_false_iff_ne.2 (fun e => hl3 (by rw [e]))]; simp⟩
    have hl3' : ¬ ((o.rels.length : Int) = (p.rels.length : Int)) := by omega
    go_wp2
    go_ret
    exact ⟨by rw [F.out]; rfl, B1.out⟩
  case pos =>
  go_wp2_with fail
  clear v1 v2 hd
  go_loopg [5, 43] o.syms.length (fun kq v1 v2 wr => Still w1 wr ∧ ∃ i : Nat, i + kq = o.syms.length ∧ v2 = .int .i64 i ∧ Pack (o.syms.take i = p.syms.take i))
  case atStart => exact ⟨Still.refl w1, 0, by omega, rfl, ⟨rfl⟩⟩
  case round =>
    obtain ⟨hh, i, hi, rfl, PA⟩ := hrel
    have PH := Pack.mk hh
    clear hh
    have ex : ∀ a, wr.cell? a = w1.cell? a := fun a => by simp only [World.cell?, PH.out.1]
    by_cases hk : gk = 0
    · subst hk
      have hlt : ¬ ((i : Int) < (o.syms.length : Int)) := by omega
      have QE : Pack ((o.syms == p.syms) = true) := ⟨by
        have h := PA.out
        rw [List.take_of_length_le (by omega), List.take_of_length_le (by omega)] at h
        exact beq_iff_eq.2 h⟩
      have B2 := Pack.mk (B1.out.trans (PH.out.below w.heap.size))
      have e2 : ∀ a, wr.cell? a = ((w.alloc (.cells #[.slice a0 o.text.length c0, .slice a1 o.data.length c1, .slice a2 o.syms.length c2, .slice a3 o.rels.length c3] 28)).alloc (.cells #[.slice b0 p.text.length d0, .slice b1 p.data.length d1, .slice b2 p.syms.length d2, .slice b3 p.rels.length d3] 28)).cell? a := fun a => by rw [ex, e1]
      have QE0 := QE
      clear e1 ex PH PA QE
      generalize wr = w2 at *
      have e1 := e2
      clear e2
      go_wp2_with fail
      go_loopg [6, 61] o.rels.length (fun kq v1 v2 wr => Still w2 wr ∧ ∃ i : Nat, i + kq = o.rels.length ∧ v2 = .int .i64 i ∧ Pack (o.rels.take i = p.rels.take i))
      case atStart => exact ⟨Still.refl w2, 0, by omega, rfl, ⟨rfl⟩⟩
      case round =>
        obtain ⟨hh, i, hi, rfl, PA⟩ := hrel
        have PH := Pack.mk hh
        clear hh
        have ex : ∀ a, wr.cell? a = w2.cell? a := fun a => by simp only [World.cell?, PH.out.1]
        by_cases hk : gk = 0
        · subst hk
          have hlt : ¬ ((i : Int) < (o.rels.length : Int)) := by omega
          have QE : Pack ((o.rels == p.rels) = true) := ⟨by
            have h := PA.out
            rw [List.take_of_length_le (by omega), List.take_of_length_le (by omega)] at h
            exact beq_iff_eq.2 h⟩
          have F : Pack (decide (o = p) = true) := ⟨by rw [fin.out, Q1.out, Q2.out, QE0.out, QE.out]; rfl⟩
          go_wp2
          go_ret
          exact ⟨by rw [F.out]; rfl, B2.out.trans (Still.below ⟨PH.out.1, PH.out.2⟩ _)⟩
        · have hlt : (i : Int) < (o.rels.length : Int) := by omega
          have hx1 : i < o.rels.length := by omega
          have hbnd := M.out.2
          have hx2 : i < p.rels.length := by omega
          have hlt2 : (i : Int) < (p.rels.length : Int) := by omega
          have hbw : Below w.heap.size w wr := B2.out.trans (PH.out.below _)
          obtain ⟨a, rfl, _, _, ca⟩ := (L3.out.1.step hbw).elem encRel 5 encRel_len (by decide) i hx1
          obtain ⟨b, rfl, _, _, cb⟩ := (L3.out.2.step hbw).elem encRel 5 encRel_len (by decide) i hx2
          obtain ⟨p0, p1, p2, p3, p4⟩ := cells5 ca rfl
          obtain ⟨q0, q1, q2, q3, q4⟩ := cells5 cb rfl
          clear ca cb hbw
          rw [ex] at p0 p1 p2 p3 p4 q0 q1 q2 q3 q4
          have p0' := (ex _).trans p0
          have p1' := (ex _).trans p1
          have p2' := (ex _).trans p2
          have p3' := (ex _).trans p3
          have p4' := (ex _).trans p4
          have q0' := (ex _).trans q0
          have q1' := (ex _).trans q1
          have q2' := (ex _).trans q2
          have q3' := (ex _).trans q3
          have q4' := (ex _).trans q4
          have x0 : wr.cell? ⟨w.heap.size, 3, none⟩ = some (.slice (some a) o.rels.length c3) := by rw [ex, e1]; go_simp
          have x1 : wr.cell? ⟨w.heap.size + 1, 3, none⟩ = some (.slice (some b) p.rels.length d3) := by rw [ex, e1]; go_simp
          clear p0 p1 p2 p3 p4 q0 q1 q2 q3 q4
          have E1 := Pack.mk e1
          have EX := Pack.mk ex
          clear e1 ex
          generalize hxi : o.rels[i] = x at p0' p1' p2' p3' p4'
          generalize hyi : p.rels[i] = y at q0' q1' q2' q3' q4'
          have PE : Pack (o.rels[i] = x ∧ p.rels[i] = y) := ⟨hxi, hyi⟩
          clear hxi hyi
          have hne1 := hneR.out x y
          have hgd1 := fun op a b => hgdR.out op a b x y
          simp only [encRel] at hne1 hgd1
          go_upto_region 12 with (fail)
          go_quiet (fail)
          generalize hb : eqRel x y = β
          rw [eqRel_iff] at hb
          cases β with
          | false =>
            have F : Pack (decide (o = p) = false) := ⟨by
              rw [fin.out, show (o.rels == p.rels) = false from beq_eq_false_iff_ne.2 (fun e => by
                refine of_decide_eq_false hb (PE.out.1.symm.trans (Eq.trans ?_ PE.out.2))
                congr 1)]
              simp⟩
            clear hb
            go_wp2
            go_ret
            exact ⟨by rw [F.out]; rfl, B2.out.trans (Still.drewN PH.out _ |>.below _)⟩
          | true =>
            have PN : Pack (o.rels.take (i + 1) = p.rels.take (i + 1)) := ⟨by
              have e : o.rels[i] = p.rels[i] := by rw [PE.out.1, PE.out.2]; exact of_decide_eq_true hb
              rw [List.take_add_one, List.take_add_one, PA.out, List.getElem?_eq_getElem hx1, List.getElem?_eq_getElem hx2, e]⟩
            clear hb
            go_wp2_with fail
            go_roundg (gk - 1)
            case measure => omega
            case rel => exact ⟨PH.out, i + 1, by omega, by go_num, PN⟩

    · have hlt : (i : Int) < (o.syms.length : Int) := by omega
      have hx1 : i < o.syms.length := by omega
      have hbnd := M.out.1
      have hx2 : i < p.syms.length := by omega
      have hlt2 : (i : Int) < (p.syms.length : Int) := by omega
      have hbw : Below w.heap.size w wr := B1.out.trans (PH.out.below _)
      obtain ⟨a, rfl, _, _, ca⟩ := (L2.out.1.step hbw).elem encSym 5 encSym_len (by decide) i hx1
      obtain ⟨b, rfl, _, _, cb⟩ := (L2.out.2.step hbw).elem encSym 5 encSym_len (by decide) i hx2
      obtain ⟨p0, p1, p2, p3, p4⟩ := cells5 ca rfl
      obtain ⟨q0, q1, q2, q3, q4⟩ := cells5 cb rfl
      clear ca cb hbw
      rw [ex] at p0 p1 p2 p3 p4 q0 q1 q2 q3 q4
      have p0' := (ex _).trans p0
      have p1' := (ex _).trans p1
      have p2' := (ex _).trans p2
      have p3' := (ex _).trans p3
      have p4' := (ex _).trans p4
      have q0' := (ex _).trans q0
      have q1' := (ex _).trans q1
      have q2' := (ex _).trans q2
      have q3' := (ex _).trans q3
      have q4' := (ex _).trans q4
      have x0 : wr.cell? ⟨w.heap.size, 2, none⟩ = some (.slice (some a) o.syms.length c2) := by rw [ex, e1]; go_simp
      have x1 : wr.cell? ⟨w.heap.size + 1, 2, none⟩ = some (.slice (some b) p.syms.length d2) := by rw [ex, e1]; go_simp
      clear p0 p1 p2 p3 p4 q0 q1 q2 q3 q4
      have E1 := Pack.mk e1
      have EX := Pack.mk ex
      clear e1 ex
      generalize hxi : o.syms[i] = x at p0' p1' p2' p3' p4'
      generalize hyi : p.syms[i] = y at q0' q1' q2' q3' q4'
      have PE : Pack (o.syms[i] = x ∧ p.syms[i] = y) := ⟨hxi, hyi⟩
      clear hxi hyi
      have hne1 := hne.out x y
      have hgd1 := fun op a b => hgd.out op a b x y
      simp only [encSym] at hne1 hgd1
      go_upto_region 6 with (fail)
      go_quiet (fail)
      generalize hb : eqSym x y = β
      rw [eqSym_iff] at hb
      cases β with
      | false =>
        have F : Pack (decide (o = p) = false) := ⟨by
          rw [fin.out, show (o.syms == p.syms) = false from beq_eq_false_iff_ne.2 (fun e => by
            refine of_decide_eq_false hb (PE.out.1.symm.trans (Eq.trans ?_ PE.out.2))
            congr 1)]
          simp⟩
        clear hb
        go_wp2
        go_ret
        exact ⟨by rw [F.out]; rfl, B1.out.trans (Still.drewN PH.out _ |>.below _)⟩
      | true =>
        have PN : Pack (o.syms.take (i + 1) = p.syms.take (i + 1)) := ⟨by
          have e : o.syms[i] = p.syms[i] := by rw [PE.out.1, PE.out.2]; exact of_decide_eq_true hb
          rw [List.take_add_one, List.take_add_one, PA.out, List.getElem?_eq_getElem hx1, List.getElem?_eq_getElem hx2, e]⟩
        clear hb
        go_wp2_with fail
        go_roundg (gk - 1)
        case measure => omega
        case rel => exact ⟨PH.out, i + 1, by omega, by go_num, PN⟩
end Go.Proofs.YtgcpnjckbdajbaaGreatDoor.Ob
