import Derived.Test.YtgcpnjckbdajbaaGreatDoorQG
namespace Go.Proofs.YtgcpnjckbdajbaaGreatDoor.Ob
open Go.RowKit Go.Sort
set_option maxRecDepth 100000 in
theorem objOne_walk (B1 B2 : Nat) (o p : ObjV) (va vb : Value) (m : Int) (w : World) (ha : Holds B1 w va o) (hb : Holds B2 w vb p) (ca : CapOk va) (cb : CapOk vb) (ho : o.Ok) (hp : p.Ok)
    (hm : w.cell? ⟨0, 0, none⟩ = some (.int .i64 m)) (hT : Tab w) (h64 : Tab64 w) (hw : 7 < w.heap.size) :
    Calls Tryz.prog 8 #[va, vb] w fun e w' => e = .returned (.bool true) ∧ Below w.heap.size w w' := by
  have HA := Pack.mk ha
  have HB := Pack.mk hb
  obtain ⟨a0, a1, a2, a3, c0, c1, c2, c3, rfl, -⟩ := ha
  obtain ⟨b0, b1, b2, b3, d0, d1, d2, d3, rfl, -⟩ := hb
  have CA : Pack (∀ W, Below w.heap.size w W → Calls Tryz.prog 10 #[] W fun e w' => e = .returned (.bool true) ∧ Below W.heap.size W w') := ⟨fun W h =>
    awake_calls m W ((h.cell (by show 0 < _; omega)).trans hm) (tab_below tabN (by omega) h hT) (by have := h.size; omega)⟩
  have CF : Pack (∀ W, Below w.heap.size w W → Calls Tryz.prog 17 #[.agg #[.slice a0 o.text.length c0, .slice a1 o.data.length c1, .slice a2 o.syms.length c2, .slice a3 o.rels.length c3]] W fun e w' => e = .returned (.bool (few o)) ∧ Below W.heap.size W w') := ⟨fun W h => few_calls _ _ _ W (HA.out.step h)⟩
  have CG : Pack (∀ W, Below w.heap.size w W → Calls Tryz.prog 17 #[.agg #[.slice b0 p.text.length d0, .slice b1 p.data.length d1, .slice b2 p.syms.length d2, .slice b3 p.rels.length d3]] W fun e w' => e = .returned (.bool (few p)) ∧ Below W.heap.size W w') := ⟨fun W h => few_calls _ _ _ W (HB.out.step h)⟩
  have D := Pack.mk (And.intro ho hp)
  have PA : Pack (∀ W, Below w.heap.size w W → Calls Tryz.prog 14 #[.agg #[.slice a0 o.text.length c0, .slice a1 o.data.length c1, .slice a2 o.syms.length c2, .slice a3 o.rels.length c3]] W fun e w' => e = .returned (.tuple #[.string ⟨(if good o then textOf o else []).toArray⟩, .int .i64 (if good o then 0 else 2)]) ∧ Below W.heap.size W w') := ⟨fun W h =>
    print_calls B1 o _ W (HA.out.step h) ca ho (tab_below tabN (by omega) h hT) (h64.below h hw) (by have := h.size; omega)⟩
  have PB : Pack (∀ W, Below w.heap.size w W → Calls Tryz.prog 14 #[.agg #[.slice b0 p.text.length d0, .slice b1 p.data.length d1, .slice b2 p.syms.length d2, .slice b3 p.rels.length d3]] W fun e w' => e = .returned (.tuple #[.string ⟨(if good p then textOf p else []).toArray⟩, .int .i64 (if good p then 0 else 2)]) ∧ Below W.heap.size W w') := ⟨fun W h =>
    print_calls B2 p _ W (HB.out.step h) cb hp (tab_below tabN (by omega) h hT) (h64.below h hw) (by have := h.size; omega)⟩
  have OK := Pack.mk (And.intro ho hp)
  clear hm hT h64 hw ho hp ca cb
  go_enter Tryz.func8, Tryz.ntmps8
  go_wp2_with fail
  have hb0 : Pack (Below w.heap.size w ((w.alloc (.cells #[.slice a0 o.text.length c0, .slice a1 o.data.length c1, .slice a2 o.syms.length c2, .slice a3 o.rels.length c3] 28)).alloc (.cells #[.slice b0 p.text.length d0, .slice b1 p.data.length d1, .slice b2 p.syms.length d2, .slice b3 p.rels.length d3] 28))) := ⟨((Below.refl _ w).alloc (Nat.le_refl _) _).alloc (by simp) _⟩
  refine (CA.out _ hb0.out).mono ?_
  rintro e w1 ⟨rfl, h1⟩
  have S1 := Pack.mk h1
  have N1 := Pack.mk (below_step hb0.out h1)
  obtain ⟨⟨x0, x1, x2, x3⟩, y0, y1, y2, y3⟩ := two_boxes w _ _ _ _ _ _ _ _ _ w1 h1
  clear h1
  go_wp2_with fail
  refine (CF.out _ N1.out).mono ?_
  rintro e w2 ⟨rfl, h2⟩
  have S2 := Pack.mk (below_step S1.out h2)
  have N2 := Pack.mk (below_step N1.out h2)
  clear x0 x1 x2 x3 y0 y1 y2 y3 h2
  obtain ⟨⟨x0, x1, x2, x3⟩, y0, y1, y2, y3⟩ := two_boxes w _ _ _ _ _ _ _ _ _ w2 S2.out
  generalize hf : few o = f
  cases f with
  | false =>
    clear hf
    go_wp2_with fail
    refine (CA.out _ N2.out).mono ?_
    rintro e w3 ⟨rfl, h3⟩
    have N3 := Pack.mk (below_step N2.out h3)
    clear h3
    go_wp2
    go_ret
    exact ⟨rfl, N3.out⟩
  | true =>
  have F := Pack.mk hf
  clear hf
  go_wp2_with fail
  refine (CG.out _ N2.out).mono ?_
  rintro e w3 ⟨rfl, h3⟩
  have S3 := Pack.mk (below_step S2.out h3)
  have N3 := Pack.mk (below_step N2.out h3)
  clear x0 x1 x2 x3 y0 y1 y2 y3 h3
  obtain ⟨⟨x0, x1, x2, x3⟩, y0, y1, y2, y3⟩ := two_boxes w _ _ _ _ _ _ _ _ _ w3 S3.out
  generalize hf : few p = f
  cases f with
  | false =>
    clear hf
    go_wp2_with fail
    refine (CA.out _ N3.out).mono ?_
    rintro e w4 ⟨rfl, h4⟩
    have N4 := Pack.mk (below_step N3.out h4)
    clear h4
    go_wp2
    go_ret
    exact ⟨rfl, N4.out⟩
  | true =>
  clear hf
  have MO : Pack (Small o) := ⟨by have := F.out; simp only [few, Bool.and_eq_true, decide_eq_true_iff] at this; exact this.1⟩
  have MB : Pack (o.text.length ≤ 140737488355328 ∧ o.data.length ≤ 140737488355328 ∧ o.syms.length ≤ 140737488355328 ∧ o.rels.length ≤ 140737488355328) := ⟨by obtain ⟨q0, q1, q2, q3⟩ := MO.out; omega⟩
  generalize hgo : good o = go at PA
  generalize hgp : good p = gp at PB
  have GG := Pack.mk (And.intro hgo hgp)
  clear hgo hgp
  cases go with
  | false =>
    cases gp with
    | false =>
      simp only [if_false, Bool.false_eq_true] at PA PB
      go_wp2_with fail
      refine (PA.out _ N3.out).mono ?_
      rintro e w4 ⟨rfl, h4⟩
      have S4 := Pack.mk (below_step S3.out h4)
      have N4 := Pack.mk (below_step N3.out h4)
      clear x0 x1 x2 x3 y0 y1 y2 y3 h4
      obtain ⟨⟨x0, x1, x2, x3⟩, y0, y1, y2, y3⟩ := two_boxes w _ _ _ _ _ _ _ _ _ w4 S4.out
      go_wp2_with fail
      refine (PB.out _ N4.out).mono ?_
      rintro e w5 ⟨rfl, h5⟩
      have S5 := Pack.mk (below_step S4.out h5)
      have N5 := Pack.mk (below_step N4.out h5)
      clear x0 x1 x2 x3 y0 y1 y2 y3 h5
      obtain ⟨⟨x0, x1, x2, x3⟩, y0, y1, y2, y3⟩ := two_boxes w _ _ _ _ _ _ _ _ _ w5 S5.out
      go_wp2_with fail
      go_ret
      exact ⟨rfl, N5.out⟩
    | true =>
      simp only [if_true, if_false, Bool.false_eq_true] at PA PB
      go_wp2_with fail
      refine (PA.out _ N3.out).mono ?_
      rintro e w4 ⟨rfl, h4⟩
      have S4 := Pack.mk (below_step S3.out h4)
      have N4 := Pack.mk (below_step N3.out h4)
      clear x0 x1 x2 x3 y0 y1 y2 y3 h4
      obtain ⟨⟨x0, x1, x2, x3⟩, y0, y1, y2, y3⟩ := two_boxes w _ _ _ _ _ _ _ _ _ w4 S4.out
      go_wp2_with fail
      refine (PB.out _ N4.out).mono ?_
      rintro e w5 ⟨rfl, h5⟩
      have S5 := Pack.mk (below_step S4.out h5)
      have N5 := Pack.mk (below_step N4.out h5)
      clear x0 x1 x2 x3 y0 y1 y2 y3 h5
      obtain ⟨⟨x0, x1, x2, x3⟩, y0, y1, y2, y3⟩ := two_boxes w _ _ _ _ _ _ _ _ _ w5 S5.out
      go_wp2_with fail
      go_ret
      exact ⟨rfl, N5.out⟩
  | true =>
    cases gp with
    | false =>
      simp only [if_true, if_false, Bool.false_eq_true] at PA PB
      go_wp2_with fail
      refine (PA.out _ N3.out).mono ?_
      rintro e w4 ⟨rfl, h4⟩
      have S4 := Pack.mk (below_step S3.out h4)
      have N4 := Pack.mk (below_step N3.out h4)
      clear x0 x1 x2 x3 y0 y1 y2 y3 h4
      obtain ⟨⟨x0, x1, x2, x3⟩, y0, y1, y2, y3⟩ := two_boxes w _ _ _ _ _ _ _ _ _ w4 S4.out
      go_wp2_with fail
      refine (PB.out _ N4.out).mono ?_
      rintro e w5 ⟨rfl, h5⟩
      have S5 := Pack.mk (below_step S4.out h5)
      have N5 := Pack.mk (below_step N4.out h5)
      clear x0 x1 x2 x3 y0 y1 y2 y3 h5
      obtain ⟨⟨x0, x1, x2, x3⟩, y0, y1, y2, y3⟩ := two_boxes w _ _ _ _ _ _ _ _ _ w5 S5.out
      go_wp2_with fail
      go_ret
      exact ⟨rfl, N5.out⟩
    | true =>
      simp only [if_true] at PA PB
      go_wp2_with fail
      refine (PA.out _ N3.out).mono ?_
      rintro e w4 ⟨rfl, h4⟩
      have S4 := Pack.mk (below_step S3.out h4)
      have N4 := Pack.mk (below_step N3.out h4)
      clear x0 x1 x2 x3 y0 y1 y2 y3 h4
      obtain ⟨⟨x0, x1, x2, x3⟩, y0, y1, y2, y3⟩ := two_boxes w _ _ _ _ _ _ _ _ _ w4 S4.out
      go_wp2_with fail
      refine (PB.out _ N4.out).mono ?_
      rintro e w5 ⟨rfl, h5⟩
      have S5 := Pack.mk (below_step S4.out h5)
      have N5 := Pack.mk (below_step N4.out h5)
      clear x0 x1 x2 x3 y0 y1 y2 y3 h5
      obtain ⟨⟨x0, x1, x2, x3⟩, y0, y1, y2, y3⟩ := two_boxes w _ _ _ _ _ _ _ _ _ w5 S5.out
      go_wp2_with fail
      refine (same_calls B1 B2 o p _ _ w5 (HA.out.step N5.out) (HB.out.step N5.out) MB.out).mono ?_
      rintro e w6 ⟨rfl, h6⟩
      have N6 := Pack.mk (below_step N5.out h6)
      clear h6
      have FIN : Pack (((textOf o == textOf p) == decide (o = p)) = true) := ⟨by
        by_cases h : o = p
        · subst h
          simp
        · have hne : ¬ (textOf o = textOf p) := fun e => h (text_inj (fits_of OK.out.1 GG.out.1) (fits_of OK.out.2 GG.out.2) (names_clean GG.out.1) (names_clean GG.out.2) e)
          rw [beq_eq_false_iff_ne.2 hne, decide_eq_false h]
          rfl⟩
      go_wp2_with fail
      go_ret
      refine ⟨?_, N6.out⟩
      show Ending.returned (.bool ((textOf o == textOf p) == decide (o = p))) = _
      rw [FIN.out]
end Go.Proofs.YtgcpnjckbdajbaaGreatDoor.Ob
