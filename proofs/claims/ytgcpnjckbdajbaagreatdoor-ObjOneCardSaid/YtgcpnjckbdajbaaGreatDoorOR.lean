import Derived.Test.YtgcpnjckbdajbaaGreatDoorOQ
namespace Go.Proofs.YtgcpnjckbdajbaaGreatDoor.Ob
open Go.RowKit Go.Sort
theorem encSym_len (x : SymV) : (encSym x).length = 5 := rfl
theorem encRel_len (x : RelV) : (encRel x).length = 5 := rfl
theorem cells5 {w w' : World} {A : Addr} {v0 v1 v2 v3 v4 : Value} (h : ∀ j v, [v0, v1, v2, v3, v4][j]? = some v → w.cell? (A.add j) = some v) (hh : w'.heap = w.heap) :
    w'.cell? A = some v0 ∧ w'.cell? { block := A.block, off := A.off + 1 } = some v1 ∧ w'.cell? { block := A.block, off := A.off + 2 } = some v2 ∧ w'.cell? { block := A.block, off := A.off + 3 } = some v3 ∧ w'.cell? { block := A.block, off := A.off + 4 } = some v4 := by
  have e : w'.cell? = w.cell? := by funext a; simp only [World.cell?, hh]
  rw [e]
  exact ⟨h 0 _ rfl, h 1 _ rfl, h 2 _ rfl, h 3 _ rfl, h 4 _ rfl⟩
set_option maxRecDepth 100000 in
theorem equal_syms (B1 B2 : Nat) (ao bo : Option Addr) (c d : Nat) (xs ys : List SymV) (w : World) (hx : Lies B1 w ao (symCells xs)) (hy : Lies B2 w bo (symCells ys)) (hm : xs.length ≤ 140737488355328) :
    Calls Tryz.prog 49 #[.slice ao xs.length c, .slice bo ys.length d] w fun e w' => e = .returned (.bool (xs == ys)) ∧ Still w w' := by
  have PX := Pack.mk hx
  have PY := Pack.mk hy
  clear hx hy
  by_cases hl : xs.length = ys.length
  · have hne : Pack (∀ (x y : SymV) (w : World), Sem.run Tryz.prog (binOp .neq 41 (.agg (encSym x).toArray) (.agg (encSym y).toArray)) w = .ok (.bool (!eqSym x y)) w) := ⟨neqSym⟩
    have hgd : Pack (∀ (op : BinOp) (a b : Operand) (x y : SymV) (w : World), Sem.run Tryz.prog (eqGuard op 41 a b (.agg (encSym x).toArray) (.agg (encSym y).toArray)) w = .ok () w) := ⟨guardSym⟩
    go_enter Tryz.func49, Tryz.ntmps49
    go_wp2_with fail
    go_loopg [5, 13] xs.length (fun kq v5 v13 wr => Still w wr ∧ ∃ i : Nat, i + kq = xs.length ∧ v13 = .int .i64 i ∧ Pack (xs.take i = ys.take i))
    case atStart => exact ⟨Still.refl w, 0, by omega, rfl, ⟨rfl⟩⟩
    case round =>
      obtain ⟨hh, i, hi, rfl, PA⟩ := hrel
      have PH := Pack.mk hh
      clear hh
      by_cases hk : gk = 0
      · subst hk
        have hlt : ¬ ((i : Int) < (xs.length : Int)) := by omega
        have he : Pack ((xs == ys) = true) := ⟨by
          have h := PA.out
          rw [List.take_of_length_le (by omega), List.take_of_length_le (by omega)] at h
          exact beq_iff_eq.2 h⟩
        go_wp2
        go_ret
        exact ⟨by rw [he.out]; rfl, PH.out⟩
      · have hlt : (i : Int) < (xs.length : Int) := by omega
        have h1 : i < xs.length := by omega
        have h2 : i < ys.length := by omega
        have hlt2 : (i : Int) < (ys.length : Int) := by omega
        obtain ⟨a, rfl, _, _, ca⟩ := PX.out.elem encSym 5 encSym_len (by decide) i h1
        obtain ⟨b, rfl, _, _, cb⟩ := PY.out.elem encSym 5 encSym_len (by decide) i h2
        obtain ⟨p0, p1, p2, p3, p4⟩ := cells5 ca PH.out.1
        obtain ⟨q0, q1, q2, q3, q4⟩ := cells5 cb PH.out.1
        clear ca cb
        generalize hxi : xs[i] = x at p0 p1 p2 p3 p4
        generalize hyi : ys[i] = y at q0 q1 q2 q3 q4
        have PE : Pack (xs[i] = x ∧ ys[i] = y) := ⟨hxi, hyi⟩
        clear hxi hyi
        have hne1 := hne.out x y
        have hgd1 := fun op a b => hgd.out op a b x y
        simp only [encSym] at hne1 hgd1
        go_upto_region 6 with (fail)
        go_quiet (fail)
        generalize hb : eqSym x y = β
        rw [eqSym_iff] at hb
        cases β with
        | false =>
          have hne : Pack ((xs == ys) = false) := ⟨beq_eq_false_iff_ne.2 (fun e => by
            subst e
            exact (of_decide_eq_false hb) (PE.out.1.symm.trans PE.out.2))⟩
          clear hb
          go_wp2
          go_ret
          exact ⟨by rw [hne.out]; rfl, PH.out⟩
        | true =>
          have P2 : Pack (xs.take (i + 1) = ys.take (i + 1)) := ⟨by
            have e : xs[i] = ys[i] := by rw [PE.out.1, PE.out.2]; exact of_decide_eq_true hb
            rw [List.take_add_one, List.take_add_one, PA.out, List.getElem?_eq_getElem h1, List.getElem?_eq_getElem h2, e]⟩
          clear hb
          go_wp2_with fail
          go_roundg (gk - 1)
          case measure => omega
          case rel => exact ⟨PH.out, i + 1, by omega, by go_num, P2⟩
  · have hne : Pack ((xs == ys) = false) := ⟨beq_eq_false_iff_ne.2 (fun e => hl (by rw [e]))⟩
    have hl' : ¬ ((xs.length : Int) = (ys.length : Int)) := by omega
    go_enter Tryz.func49, Tryz.ntmps49
    go_wp2
    go_ret
    exact ⟨by rw [hne.out]; rfl, Still.refl _⟩
set_option maxRecDepth 100000 in
theorem equal_rels (B1 B2 : Nat) (ao bo : Option Addr) (c d : Nat) (xs ys : List RelV) (w : World) (hx : Lies B1 w ao (relCells xs)) (hy : Lies B2 w bo (relCells ys)) (hm : xs.length ≤ 140737488355328) :
    Calls Tryz.prog 50 #[.slice ao xs.length c, .slice bo ys.length d] w fun e w' => e = .returned (.bool (xs == ys)) ∧ Still w w' := by
  have PX := Pack.mk hx
  have PY := Pack.mk hy
  clear hx hy
  by_cases hl : xs.length = ys.length
  · have hne : Pack (∀ (x y : RelV) (w : World), Sem.run Tryz.prog (binOp .neq 67 (.agg (encRel x).toArray) (.agg (encRel y).toArray)) w = .ok (.bool (!eqRel x y)) w) := ⟨neqRel⟩
    have hgd : Pack (∀ (op : BinOp) (a b : Operand) (x y : RelV) (w : World), Sem.run Tryz.prog (eqGuard op 67 a b (.agg (encRel x).toArray) (.agg (encRel y).toArray)) w = .ok () w) := ⟨guardRel⟩
    go_enter Tryz.func50, Tryz.ntmps50
    go_wp2_with fail
    go_loopg [5, 13] xs.length (fun kq v5 v13 wr => Still w wr ∧ ∃ i : Nat, i + kq = xs.length ∧ v13 = .int .i64 i ∧ Pack (xs.take i = ys.take i))
    case atStart => exact ⟨Still.refl w, 0, by omega, rfl, ⟨rfl⟩⟩
    case round =>
      obtain ⟨hh, i, hi, rfl, PA⟩ := hrel
      have PH := Pack.mk hh
      clear hh
      by_cases hk : gk = 0
      · subst hk
        have hlt : ¬ ((i : Int) < (xs.length : Int)) := by omega
        have he : Pack ((xs == ys) = true) := ⟨by
          have h := PA.out
          rw [List.take_of_length_le (by omega), List.take_of_length_le (by omega)] at h
          exact beq_iff_eq.2 h⟩
        go_wp2
        go_ret
        exact ⟨by rw [he.out]; rfl, PH.out⟩
      · have hlt : (i : Int) < (xs.length : Int) := by omega
        have h1 : i < xs.length := by omega
        have h2 : i < ys.length := by omega
        have hlt2 : (i : Int) < (ys.length : Int) := by omega
        obtain ⟨a, rfl, _, _, ca⟩ := PX.out.elem encRel 5 encRel_len (by decide) i h1
        obtain ⟨b, rfl, _, _, cb⟩ := PY.out.elem encRel 5 encRel_len (by decide) i h2
        obtain ⟨p0, p1, p2, p3, p4⟩ := cells5 ca PH.out.1
        obtain ⟨q0, q1, q2, q3, q4⟩ := cells5 cb PH.out.1
        clear ca cb
        generalize hxi : xs[i] = x at p0 p1 p2 p3 p4
        generalize hyi : ys[i] = y at q0 q1 q2 q3 q4
        have PE : Pack (xs[i] = x ∧ ys[i] = y) := ⟨hxi, hyi⟩
        clear hxi hyi
        have hne1 := hne.out x y
        have hgd1 := fun op a b => hgd.out op a b x y
        simp only [encRel] at hne1 hgd1
        go_upto_region 6 with (fail)
        go_quiet (fail)
        generalize hb : eqRel x y = β
        rw [eqRel_iff] at hb
        cases β with
        | false =>
          have hne : Pack ((xs == ys) = false) := ⟨beq_eq_false_iff_ne.2 (fun e => by
            subst e
            exact (of_decide_eq_false hb) (PE.out.1.symm.trans PE.out.2))⟩
          clear hb
          go_wp2
          go_ret
          exact ⟨by rw [hne.out]; rfl, PH.out⟩
        | true =>
          have P2 : Pack (xs.take (i + 1) = ys.take (i + 1)) := ⟨by
            have e : xs[i] = ys[i] := by rw [PE.out.1, PE.out.2]; exact of_decide_eq_true hb
            rw [List.take_add_one, List.take_add_one, PA.out, List.getElem?_eq_getElem h1, List.getElem?_eq_getElem h2, e]⟩
          clear hb
          go_wp2_with fail
          go_roundg (gk - 1)
          case measure => omega
          case rel => exact ⟨PH.out, i + 1, by omega, by go_num, P2⟩
  · have hne : Pack ((xs == ys) = false) := ⟨beq_eq_false_iff_ne.2 (fun e => hl (by rw [e]))⟩
    have hl' : ¬ ((xs.length : Int) = (ys.length : Int)) := by omega
    go_enter Tryz.func50, Tryz.ntmps50
    go_wp2
    go_ret
    exact ⟨by rw [hne.out]; rfl, Still.refl _⟩
end Go.Proofs.YtgcpnjckbdajbaaGreatDoor.Ob
