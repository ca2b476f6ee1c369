import Derived.Test.YtgcpnjckbdajbaaGreatDoorOK
import Derived.Deep.QuietTactic
import Derived.BigQuiet
namespace Go.Proofs.YtgcpnjckbdajbaaGreatDoor.Ob
open Go.RowKit Go.Sort

/-- one-cell elements of a slice -/
def At (k : IntKind) (w : World) (ao : Option Addr) (xs : List Int) : Prop := ∀ i (h : i < xs.length), ∃ a, ao = some a ∧ w.cell? (a.add i) = some (.int k xs[i])
/-- the world is as it was but for draws -/
def Still (w w' : World) : Prop := w'.heap = w.heap ∧ w'.os = w.os ∧ w'.tape = w.tape ∧ w'.output = w.output
theorem Still.refl (w : World) : Still w w := ⟨rfl, rfl, rfl, rfl⟩
theorem Still.trans {a b c : World} (h : Still a b) (k : Still b c) : Still a c := ⟨k.1.trans h.1, k.2.1.trans h.2.1, k.2.2.1.trans h.2.2.1, k.2.2.2.trans h.2.2.2⟩
theorem Still.below {w w' : World} (h : Still w w') (B : Nat) : Below B w w' := ⟨h.2.1, h.2.2.1, h.2.2.2, by rw [h.1]; exact Nat.le_refl _, fun k _ => by rw [h.1]⟩
theorem At.below {k : IntKind} {w w' : World} {ao : Option Addr} {xs : List Int} (h : At k w ao xs) (hh : w'.heap = w.heap) : At k w' ao xs := fun i hi => by
  obtain ⟨a, e, c⟩ := h i hi
  refine ⟨a, e, ?_⟩
  rw [← c]
  simp only [World.cell?, hh]
set_option maxRecDepth 100000 in
theorem equal_words (ao bo : Option Addr) (c d : Nat) (xs ys : List Int) (w : World) (hx : At .u32 w ao xs) (hy : At .u32 w bo ys) (hm : xs.length ≤ 140737488355328) :
    Calls Tryz.prog 47 #[.slice ao xs.length c, .slice bo ys.length d] w fun e w' => e = .returned (.bool (xs == ys)) ∧ Still w w' := by
  have PX := Pack.mk hx
  have PY := Pack.mk hy
  clear hx hy
  by_cases hl : xs.length = ys.length
  · go_enter Tryz.func47, Tryz.ntmps47
    go_wp2_with fail
    go_loopg [5, 13] xs.length (fun kq v5 v13 wr => Still w wr ∧ ∃ i : Nat, i + kq = xs.length ∧ v13 = .int .i64 i ∧ Pack (xs.take i = ys.take i))
    case atStart => exact ⟨Still.refl w, 0, by omega, rfl, ⟨rfl⟩⟩
    case round =>
      obtain ⟨hh, i, hi, rfl, PA⟩ := hrel
      have PH := Pack.mk hh
      clear hh
      by_cases hk : gk = 0
      · subst hk
        have hlt : ¬ ((i : Int) < (xs.length : Int)) := by omega
        have he : Pack ((xs == ys) = true) := ⟨by
          have h := PA.out
          rw [List.take_of_length_le (by omega), List.take_of_length_le (by omega)] at h
          exact beq_iff_eq.2 h⟩
        go_wp2
        go_ret
        exact ⟨by rw [he.out]; rfl, PH.out⟩
      · have hlt : (i : Int) < (xs.length : Int) := by omega
        have h1 : i < xs.length := by omega
        have h2 : i < ys.length := by omega
        have hlt2 : (i : Int) < (ys.length : Int) := by omega
        obtain ⟨a, rfl, ca⟩ := (PX.out.below PH.out.1) i h1
        obtain ⟨b, rfl, cb⟩ := (PY.out.below PH.out.1) i h2
        go_upto_region 6 with (fail)
        go_quiet (fail)
        generalize hb : (xs[i] != ys[i]) = β
        cases β with
        | true =>
          have hne : Pack ((xs == ys) = false) := ⟨beq_eq_false_iff_ne.2 (fun e => by
            subst e
            simp at hb)⟩
          clear hb
          go_wp2
          go_ret
          exact ⟨by rw [hne.out]; rfl, PH.out⟩
        | false =>
          have P2 : Pack (xs.take (i + 1) = ys.take (i + 1)) := ⟨by
            have e : xs[i] = ys[i] := by simpa using hb
            rw [List.take_add_one, List.take_add_one, PA.out, List.getElem?_eq_getElem h1, List.getElem?_eq_getElem h2, e]⟩
          clear hb
          go_wp2_with fail
          go_roundg (gk - 1)
          case measure => omega
          case rel => exact ⟨PH.out, i + 1, by omega, by go_num, P2⟩
  · have hne : Pack ((xs == ys) = false) := ⟨beq_eq_false_iff_ne.2 (fun e => hl (by rw [e]))⟩
    have hl' : ¬ ((xs.length : Int) = (ys.length : Int)) := by omega
    go_enter Tryz.func47, Tryz.ntmps47
    go_wp2
    go_ret
    exact ⟨by rw [hne.out]; rfl, Still.refl _⟩
set_option maxRecDepth 100000 in
theorem equal_bytes (ao bo : Option Addr) (c d : Nat) (xs ys : List Int) (w : World) (hx : At .u8 w ao xs) (hy : At .u8 w bo ys) (hm : xs.length ≤ 140737488355328) :
    Calls Tryz.prog 48 #[.slice ao xs.length c, .slice bo ys.length d] w fun e w' => e = .returned (.bool (xs == ys)) ∧ Still w w' := by
  have PX := Pack.mk hx
  have PY := Pack.mk hy
  clear hx hy
  by_cases hl : xs.length = ys.length
  · go_enter Tryz.func48, Tryz.ntmps48
    go_wp2_with fail
    go_loopg [5, 13] xs.length (fun kq v5 v13 wr => Still w wr ∧ ∃ i : Nat, i + kq = xs.length ∧ v13 = .int .i64 i ∧ Pack (xs.take i = ys.take i))
    case atStart => exact ⟨Still.refl w, 0, by omega, rfl, ⟨rfl⟩⟩
    case round =>
      obtain ⟨hh, i, hi, rfl, PA⟩ := hrel
      have PH := Pack.mk hh
      clear hh
      by_cases hk : gk = 0
      · subst hk
        have hlt : ¬ ((i : Int) < (xs.length : Int)) := by omega
        have he : Pack ((xs == ys) = true) := ⟨by
          have h := PA.out
          rw [List.take_of_length_le (by omega), List.take_of_length_le (by omega)] at h
          exact beq_iff_eq.2 h⟩
        go_wp2
        go_ret
        exact ⟨by rw [he.out]; rfl, PH.out⟩
      · have hlt : (i : Int) < (xs.length : Int) := by omega
        have h1 : i < xs.length := by omega
        have h2 : i < ys.length := by omega
        have hlt2 : (i : Int) < (ys.length : Int) := by omega
        obtain ⟨a, rfl, ca⟩ := (PX.out.below PH.out.1) i h1
        obtain ⟨b, rfl, cb⟩ := (PY.out.below PH.out.1) i h2
        go_upto_region 6 with (fail)
        go_quiet (fail)
        generalize hb : (xs[i] != ys[i]) = β
        cases β with
        | true =>
          have hne : Pack ((xs == ys) = false) := ⟨beq_eq_false_iff_ne.2 (fun e => by
            subst e
            simp at hb)⟩
          clear hb
          go_wp2
          go_ret
          exact ⟨by rw [hne.out]; rfl, PH.out⟩
        | false =>
          have P2 : Pack (xs.take (i + 1) = ys.take (i + 1)) := ⟨by
            have e : xs[i] = ys[i] := by simpa using hb
            rw [List.take_add_one, List.take_add_one, PA.out, List.getElem?_eq_getElem h1, List.getElem?_eq_getElem h2, e]⟩
          clear hb
          go_wp2_with fail
          go_roundg (gk - 1)
          case measure => omega
          case rel => exact ⟨PH.out, i + 1, by omega, by go_num, P2⟩
  · have hne : Pack ((xs == ys) = false) := ⟨beq_eq_false_iff_ne.2 (fun e => hl (by rw [e]))⟩
    have hl' : ¬ ((xs.length : Int) = (ys.length : Int)) := by omega
    go_enter Tryz.func48, Tryz.ntmps48
    go_wp2
    go_ret
    exact ⟨by rw [hne.out]; rfl, Still.refl _⟩
set_option maxRecDepth 100000 in
theorem ref_words (ao bo : Option Addr) (c d : Nat) (xs ys : List Int) (w : World) (hx : At .u32 w ao xs) (hy : At .u32 w bo ys) (hm : xs.length ≤ 140737488355328) :
    Calls Tryz.prog 32 #[.slice ao xs.length c, .slice bo ys.length d] w fun e w' => e = .returned (.bool (xs == ys)) ∧ Still w w' := by
  have PX := Pack.mk hx
  have PY := Pack.mk hy
  clear hx hy
  by_cases hl : xs.length = ys.length
  · go_enter Tryz.func32, Tryz.ntmps32
    go_wp2_with fail
    go_loopg [5, 13] xs.length (fun kq v5 v13 wr => Still w wr ∧ ∃ i : Nat, i + kq = xs.length ∧ v13 = .int .i64 i ∧ Pack (xs.take i = ys.take i))
    case atStart => exact ⟨Still.refl w, 0, by omega, rfl, ⟨rfl⟩⟩
    case round =>
      obtain ⟨hh, i, hi, rfl, PA⟩ := hrel
      have PH := Pack.mk hh
      clear hh
      by_cases hk : gk = 0
      · subst hk
        have hlt : ¬ ((i : Int) < (xs.length : Int)) := by omega
        have he : Pack ((xs == ys) = true) := ⟨by
          have h := PA.out
          rw [List.take_of_length_le (by omega), List.take_of_length_le (by omega)] at h
          exact beq_iff_eq.2 h⟩
        go_wp2
        go_ret
        exact ⟨by rw [he.out]; rfl, PH.out⟩
      · have hlt : (i : Int) < (xs.length : Int) := by omega
        have h1 : i < xs.length := by omega
        have h2 : i < ys.length := by omega
        have hlt2 : (i : Int) < (ys.length : Int) := by omega
        obtain ⟨a, rfl, ca⟩ := (PX.out.below PH.out.1) i h1
        obtain ⟨b, rfl, cb⟩ := (PY.out.below PH.out.1) i h2
        go_upto_region 6 with (fail)
        go_quiet (fail)
        generalize hb : (xs[i] != ys[i]) = β
        cases β with
        | true =>
          have hne : Pack ((xs == ys) = false) := ⟨beq_eq_false_iff_ne.2 (fun e => by
            subst e
            simp at hb)⟩
          clear hb
          go_wp2
          go_ret
          exact ⟨by rw [hne.out]; rfl, PH.out⟩
        | false =>
          have P2 : Pack (xs.take (i + 1) = ys.take (i + 1)) := ⟨by
            have e : xs[i] = ys[i] := by simpa using hb
            rw [List.take_add_one, List.take_add_one, PA.out, List.getElem?_eq_getElem h1, List.getElem?_eq_getElem h2, e]⟩
          clear hb
          go_wp2_with fail
          go_roundg (gk - 1)
          case measure => omega
          case rel => exact ⟨PH.out, i + 1, by omega, by go_num, P2⟩
  · have hne : Pack ((xs == ys) = false) := ⟨beq_eq_false_iff_ne.2 (fun e => hl (by rw [e]))⟩
    have hl' : ¬ ((xs.length : Int) = (ys.length : Int)) := by omega
    go_enter Tryz.func32, Tryz.ntmps32
    go_wp2
    go_ret
    exact ⟨by rw [hne.out]; rfl, Still.refl _⟩
end Go.Proofs.YtgcpnjckbdajbaaGreatDoor.Ob
