import Derived.Test.YtgcpnjckbdajbaaGreatDoorQD
namespace Go.Proofs.YtgcpnjckbdajbaaGreatDoor.Ob
open Go.RowKit Go.Sort

set_option maxRecDepth 100000 in
theorem print_bad (B : Nat) (o : ObjV) (a0 a1 a2 a3 : Option Addr) (c0 c1 c2 c3 : Nat) (w : World) (l0 : Lies B w a0 (wordCells o.text)) (l1 : Lies B w a1 (byteCells o.data)) (l2 : Lies B w a2 (symCells o.syms)) (l3 : Lies B w a3 (relCells o.rels))
    (K : o.Ok) (G : good o = false) :
    Calls Tryz.prog 14 #[.agg #[.slice a0 o.text.length c0, .slice a1 o.data.length c1, .slice a2 o.syms.length c2, .slice a3 o.rels.length c3]] w fun e w' => e = .returned (.tuple #[.string ⟨#[]⟩, .int .i64 2]) ∧ Below w.heap.size w w' := by
  have CH : Pack (Calls Tryz.prog 18 #[.agg #[.slice a0 o.text.length c0, .slice a1 o.data.length c1, .slice a2 o.syms.length c2, .slice a3 o.rels.length c3]] (w.alloc (.cells #[.slice a0 o.text.length c0, .slice a1 o.data.length c1, .slice a2 o.syms.length c2, .slice a3 o.rels.length c3] 28)) fun e w' => e = .returned (.int .i64 2) ∧ Below (w.heap.size + 1) (w.alloc (.cells #[.slice a0 o.text.length c0, .slice a1 o.data.length c1, .slice a2 o.syms.length c2, .slice a3 o.rels.length c3] 28)) w') := ⟨by
    have bl := (Below.refl w.heap.size w).alloc (Nat.le_refl _) (.cells #[.slice a0 o.text.length c0, .slice a1 o.data.length c1, .slice a2 o.syms.length c2, .slice a3 o.rels.length c3] 28)
    have := checkObj_calls B o _ _ ⟨a0, a1, a2, a3, c0, c1, c2, c3, rfl, l0.step bl, l1.step bl, l2.step bl, l3.step bl⟩ (fun x hx => u32_range (K.text x hx))
    rw [G] at this
    simpa using this⟩
  clear l0 l1 l2 l3 K G
  refine (callsIn_wide (n := 6)).1 ?_
  refine callsIn_of_wp_marks Tryz.func14 rfl trivial ?_ rfl
  refine wpIn_wide.2 ?_
  simp only [Tryz.ntmps14, List.size_toArray, List.length_cons, List.length_nil, Nat.reduceAdd, Nat.reduceSub, Array.replicate_succ, Array.replicate_zero, List.push_toArray, List.append_toArray, List.nil_append, List.cons_append]
  go_wp2_with fail
  refine CH.out.mono ?_
  rintro e w1 ⟨rfl, hd⟩
  have PC := Pack.mk hd
  clear hd CH
  go_wp2_with fail
  refine ⟨.tuple #[.string ⟨#[]⟩, .int .i64 2], ?_, rfl, below_step (below_alloc (Below.refl _ w) _) (by simpa using PC.out)⟩
  simp [results, Tryz.results14, go_sem]
/-- the bytes' room holds them -/
def CapOk (v : Value) : Prop := ∃ x0 x2 x3 a n c, v = .agg #[x0, .slice a n c, x2, x3] ∧ n ≤ c
/-- Print -/
theorem print_calls (B : Nat) (o : ObjV) (v : Value) (w : World) (hv : Holds B w v o) (hc : CapOk v) (K : o.Ok) (hT : Tab w) (h64 : Tab64 w) (hw : 7 < w.heap.size) :
    Calls Tryz.prog 14 #[v] w fun e w' => e = .returned (.tuple #[.string ⟨(if good o then textOf o else []).toArray⟩, .int .i64 (if good o then 0 else 2)]) ∧ Below w.heap.size w w' := by
  obtain ⟨a0, a1, a2, a3, c0, c1, c2, c3, rfl, l0, l1, l2, l3⟩ := hv
  obtain ⟨x0, x2, x3, a, n, c, e, hn⟩ := hc
  have hcap : o.data.length ≤ c1 := by
    simp only [Value.agg.injEq, Array.mk.injEq, List.cons.injEq, Value.slice.injEq] at e
    obtain ⟨_, ⟨_, e1, e2⟩, _⟩ := e
    omega
  cases G : good o with
  | true => exact print_good B o a0 a1 a2 a3 c0 c1 c2 c3 w l0 l1 l2 l3 hcap K G hT h64 hw
  | false => exact print_bad B o a0 a1 a2 a3 c0 c1 c2 c3 w l0 l1 l2 l3 K G
end Go.Proofs.YtgcpnjckbdajbaaGreatDoor.Ob
