import Derived.Test.YtgcpnjckbdajbaaGreatDoorOT
namespace Go.Proofs.YtgcpnjckbdajbaaGreatDoor.Ob
open Go.RowKit Go.Sort
/-- an object that is soon gone through -/
def Small (o : ObjV) : Prop := o.text.length ≤ 300 ∧ o.data.length ≤ 600 ∧ o.syms.length ≤ 60 ∧ o.rels.length ≤ 100
instance (o : ObjV) : Decidable (Small o) := by unfold Small; infer_instance
def few (o : ObjV) : Bool := decide (Small o) && o.syms.all fun s => decide (s.name.size ≤ 100)

set_option maxRecDepth 100000 in
theorem few_calls (B : Nat) (o : ObjV) (v : Value) (w : World) (hv : Holds B w v o) :
    Calls Tryz.prog 17 #[v] w fun e w' => e = .returned (.bool (few o)) ∧ Below w.heap.size w w' := by
  obtain ⟨a0, a1, a2, a3, c0, c1, c2, c3, rfl, h0, h1, h2, h3⟩ := hv
  have P2 := Pack.mk h2
  clear h0 h1 h2 h3
  have hb0 : Pack (Below w.heap.size w (w.alloc (.cells #[.slice a0 o.text.length c0, .slice a1 o.data.length c1, .slice a2 o.syms.length c2, .slice a3 o.rels.length c3] 28))) := ⟨(Below.refl _ w).alloc (Nat.le_refl _) _⟩
  by_cases hS : Small o
  · have m0 : ¬ ((300 : Int) < (o.text.length : Int)) := by have := hS.1; omega
    have m1 : ¬ ((600 : Int) < (o.data.length : Int)) := by have := hS.2.1; omega
    have m2 : ¬ ((60 : Int) < (o.syms.length : Int)) := by have := hS.2.2.1; omega
    have m3 : ¬ ((100 : Int) < (o.rels.length : Int)) := by have := hS.2.2.2; omega
    have fin : Pack (few o = (o.syms.all fun s => decide (s.name.size ≤ 100))) := ⟨by unfold few; rw [decide_eq_true hS]; rfl⟩
    have hlen : Pack (o.syms.length ≤ 60) := ⟨hS.2.2.1⟩
    clear hS
    go_enter Tryz.func17, Tryz.ntmps17
    go_wp2_with fail
    go_loopg [4, 30] o.syms.length (fun kq v4 v30 wr => Below w.heap.size w wr ∧ ∃ i : Nat, i + kq = o.syms.length ∧ v30 = .int .i64 i ∧ Pack ((o.syms.take i).all (fun s => decide (s.name.size ≤ 100)) = true))
    case atStart => exact ⟨hb0.out, 0, by omega, rfl, ⟨rfl⟩⟩
    case round =>
      obtain ⟨hh, i, hi, rfl, PA⟩ := hrel
      have PH := Pack.mk hh
      clear hh
      by_cases hk : gk = 0
      · subst hk
        have hlt : ¬ ((i : Int) < (o.syms.length : Int)) := by omega
        have he : Pack (few o = true) := ⟨by
          have h := PA.out
          rw [List.take_of_length_le (by omega)] at h
          rw [fin.out, h]⟩
        go_wp2
        go_ret
        exact ⟨by rw [he.out]; rfl, PH.out⟩
      · have hlt : (i : Int) < (o.syms.length : Int) := by omega
        have h1 : i < o.syms.length := by omega
        obtain ⟨a, rfl, _, _, ca⟩ := (P2.out.step PH.out).elem encSym 5 encSym_len (by decide) i h1
        obtain ⟨p0, p1, p2, p3, p4⟩ := cells5 ca rfl
        clear ca
        generalize hxi : o.syms[i] = x at p0 p1 p2 p3 p4
        have PE := Pack.mk hxi
        clear hxi
        go_upto_region 6 with (fail)
        by_cases hn : x.name.size ≤ 100
        · have hn' : ¬ ((100 : Int) < (x.name.size : Int)) := by omega
          have P2' : Pack ((o.syms.take (i + 1)).all (fun s => decide (s.name.size ≤ 100)) = true) := ⟨by
            rw [List.take_add_one, List.all_append, PA.out, List.getElem?_eq_getElem h1, PE.out]
            simp [hn]⟩
          clear hn
          go_wp2_with fail
          go_roundg (gk - 1)
          case measure => omega
          case rel => exact ⟨below_alloc PH.out _, i + 1, by omega, by go_num, P2'⟩
        · have hn' : (100 : Int) < (x.name.size : Int) := by omega
          have F : Pack (few o = false) := ⟨by
            rw [fin.out, List.all_eq_false]
            exact ⟨x, PE.out ▸ List.getElem_mem h1, by simpa using hn⟩⟩
          clear hn
          go_wp2
          go_ret
          exact ⟨by rw [F.out]; rfl, below_alloc PH.out _⟩
  · have F : Pack (few o = false) := ⟨by unfold few; rw [decide_eq_false hS]; rfl⟩
    by_cases m0 : (300 : Int) < (o.text.length : Int)
    · clear hS
      go_enter Tryz.func17, Tryz.ntmps17
      go_wp2
      go_ret
      exact ⟨by rw [F.out]; rfl, hb0.out⟩
    · by_cases m1 : (600 : Int) < (o.data.length : Int)
      · clear hS
        go_enter Tryz.func17, Tryz.ntmps17
        go_wp2
        go_ret
        exact ⟨by rw [F.out]; rfl, hb0.out⟩
      · by_cases m2 : (60 : Int) < (o.syms.length : Int)
        · clear hS
          go_enter Tryz.func17, Tryz.ntmps17
          go_wp2
          go_ret
          exact ⟨by rw [F.out]; rfl, hb0.out⟩
        · have m3 : (100 : Int) < (o.rels.length : Int) := by
            unfold Small at hS
            omega
          clear hS
          go_enter Tryz.func17, Tryz.ntmps17
          go_wp2
          go_ret
          exact ⟨by rw [F.out]; rfl, hb0.out⟩
set_option maxRecDepth 100000 in
theorem same_calls (B1 B2 : Nat) (o p : ObjV) (v u : Value) (w : World) (hv : Holds B1 w v o) (hu : Holds B2 w u p) (hm : o.text.length ≤ 140737488355328 ∧ o.data.length ≤ 140737488355328 ∧ o.syms.length ≤ 140737488355328 ∧ o.rels.length ≤ 140737488355328) :
    Calls Tryz.prog 22 #[v, u] w fun e w' => e = .returned (.bool (decide (o = p))) ∧ Below w.heap.size w w' := by
  obtain ⟨a0, a1, a2, a3, c0, c1, c2, c3, rfl, h0, h1, h2, h3⟩ := hv
  obtain ⟨b0, b1, b2, b3, d0, d1, d2, d3, rfl, k0, k1, k2, k3⟩ := hu
  obtain ⟨m0, m1, m2, m3⟩ := hm
  have C0 : Pack (∀ W, Below w.heap.size w W → Calls Tryz.prog 47 #[.slice a0 o.text.length c0, .slice b0 p.text.length d0] W fun e w' => e = .returned (.bool (o.text == p.text)) ∧ Still W w') :=
    ⟨fun W hb => equal_words _ _ _ _ _ _ W (At.of_lies (h0.step hb)) (At.of_lies (k0.step hb)) m0⟩
  have C1 : Pack (∀ W, Below w.heap.size w W → Calls Tryz.prog 48 #[.slice a1 o.data.length c1, .slice b1 p.data.length d1] W fun e w' => e = .returned (.bool (o.data == p.data)) ∧ Still W w') :=
    ⟨fun W hb => equal_bytes _ _ _ _ _ _ W (At.of_lies (h1.step hb)) (At.of_lies (k1.step hb)) m1⟩
  have C2 : Pack (∀ W, Below w.heap.size w W → Calls Tryz.prog 49 #[.slice a2 o.syms.length c2, .slice b2 p.syms.length d2] W fun e w' => e = .returned (.bool (o.syms == p.syms)) ∧ Still W w') :=
    ⟨fun W hb => equal_syms _ _ _ _ _ _ _ _ W (h2.step hb) (k2.step hb) m2⟩
  have C3 : Pack (∀ W, Below w.heap.size w W → Calls Tryz.prog 50 #[.slice a3 o.rels.length c3, .slice b3 p.rels.length d3] W fun e w' => e = .returned (.bool (o.rels == p.rels)) ∧ Still W w') :=
    ⟨fun W hb => equal_rels _ _ _ _ _ _ _ _ W (h3.step hb) (k3.step hb) m3⟩
  clear h0 h1 h2 h3 k0 k1 k2 k3 m0 m1 m2 m3
  have fin : Pack (decide (o = p) = ((o.text == p.text) && ((o.data == p.data) && ((o.syms == p.syms) && (o.rels == p.rels))))) := ⟨by
    rw [Bool.eq_iff_iff]
    simp only [decide_eq_true_iff, Bool.and_eq_true, beq_iff_eq]
    cases o; cases p; simp⟩
  go_enter Tryz.func22, Tryz.ntmps22
  go_wp2_with fail
  have hb0 : Pack (Below w.heap.size w ((w.alloc (.cells #[.slice a0 o.text.length c0, .slice a1 o.data.length c1, .slice a2 o.syms.length c2, .slice a3 o.rels.length c3] 28)).alloc (.cells #[.slice b0 p.text.length d0, .slice b1 p.data.length d1, .slice b2 p.syms.length d2, .slice b3 p.rels.length d3] 28))) := ⟨((Below.refl _ w).alloc (Nat.le_refl _) _).alloc (by simp) _⟩
  refine (C0.out _ hb0.out).mono ?_
  rintro e w1 ⟨rfl, s1⟩
  have B1 := Pack.mk (hb0.out.trans (s1.below _))
  have e1 : ∀ a, w1.cell? a = ((w.alloc (.cells #[.slice a0 o.text.length c0, .slice a1 o.data.length c1, .slice a2 o.syms.length c2, .slice a3 o.rels.length c3] 28)).alloc (.cells #[.slice b0 p.text.length d0, .slice b1 p.data.length d1, .slice b2 p.syms.length d2, .slice b3 p.rels.length d3] 28)).cell? a := fun a => by simp only [World.cell?, s1.1]
  have H1 := Pack.mk s1
  clear s1
  generalize hq1 : (o.text == p.text) = q1
  cases q1 with
  | false =>
    have F : Pack (decide (o = p) = false) := ⟨by rw [fin.out, hq1]; rfl⟩
    clear hq1
    go_wp2
    go_ret
    exact ⟨by rw [F.out]; rfl, B1.out⟩
  | true =>
  have Q1 := Pack.mk hq1
  clear hq1
  go_wp2_with fail
  refine (C1.out _ B1.out).mono ?_
  rintro e w2 ⟨rfl, s2⟩
  have B2 := Pack.mk (B1.out.trans (s2.below _))
  have e2 : ∀ a, w2.cell? a = w1.cell? a := fun a => by simp only [World.cell?, s2.1]
  clear s2
  generalize hq2 : (o.data == p.data) = q2
  cases q2 with
  | false =>
    have F : Pack (decide (o = p) = false) := ⟨by rw [fin.out, Q1.out, hq2]; rfl⟩
    clear hq2
    go_wp2
    go_ret
    exact ⟨by rw [F.out]; rfl, B2.out⟩
  | true =>
  have Q2 := Pack.mk hq2
  clear hq2
  go_wp2_with fail
  refine (C2.out _ B2.out).mono ?_
  rintro e w3 ⟨rfl, s3⟩
  have B3 := Pack.mk (B2.out.trans (s3.below _))
  have e3 : ∀ a, w3.cell? a = w2.cell? a := fun a => by simp only [World.cell?, s3.1]
  clear s3
  generalize hq3 : (o.syms == p.syms) = q3
  cases q3 with
  | false =>
    have F : Pack (decide (o = p) = false) := ⟨by rw [fin.out, Q1.out, Q2.out, hq3]; rfl⟩
    clear hq3
    go_wp2
    go_ret
    exact ⟨by rw [F.out]; rfl, B3.out⟩
  | true =>
  have Q3 := Pack.mk hq3
  clear hq3
  go_wp2_with fail
  refine (C3.out _ B3.out).mono ?_
  rintro e w4 ⟨rfl, s4⟩
  have B4 := Pack.mk (B3.out.trans (s4.below _))
  clear s4
  have F : Pack (decide (o = p) = (o.rels == p.rels)) := ⟨by rw [fin.out, Q1.out, Q2.out, Q3.out]; rfl⟩
  go_wp2
  go_ret
  exact ⟨by rw [F.out]; rfl, B4.out⟩
end Go.Proofs.YtgcpnjckbdajbaaGreatDoor.Ob
