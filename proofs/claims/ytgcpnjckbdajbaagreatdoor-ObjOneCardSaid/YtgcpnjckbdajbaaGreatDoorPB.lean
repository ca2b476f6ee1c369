import Derived.Test.YtgcpnjckbdajbaaGreatDoorPA
import Derived.Deep.AppendLies
namespace Go.Proofs.YtgcpnjckbdajbaaGreatDoor.Ob
open Go.RowKit Go.Sort

def grp0 : List (Int × Int × Int) := [(1, 0, 0), (2, 0, 32), (3, 1, 0), (4, 2, 0), (5, 3, 0), (6, 4, 0), (7, 5, 0), (8, 5, 32), (9, 6, 0), (10, 7, 0)]
def grp1 : List (Int × Int × Int) := [(11, 0, 1), (12, 1, 1), (13, 3, 1), (14, 4, 1), (15, 5, 1), (16, 6, 1), (17, 7, 1)]
def grp2 : List (Int × Int × Int) := [(18, 0, 0), (19, 2, 0), (20, 3, 0), (21, 4, 0), (22, 6, 0), (23, 7, 0)]
def grp3 : List (Int × Int × Int) := [(24, 1, 0), (25, 5, 0), (26, 5, 32)]
def grp4 : List (Int × Int × Int) := [(27, 0, 0), (29, 2, 0), (28, 4, 0)]
def grp5 : List (Int × Int × Int) := [(41, 0, 0)]
def grp6 : List (Int × Int × Int) := [(43, 3, 0)]
def grp7 : List (Int × Int × Int) := [(30, 0, 0), (31, 2, 0)]
def grp8 : List (Int × Int × Int) := [(44, 3, 0)]
def grp9 : List (Int × Int × Int) := [(32, 0, 0), (33, 1, 0), (34, 4, 0), (35, 5, 0), (36, 6, 0), (37, 7, 0)]
def grp10 : List (Int × Int × Int) := [(38, 0, 0)]
def grp11 : List (Int × Int × Int) := [(39, 0, 0)]
def grp12 : List (Int × Int × Int) := [(40, 0, 0)]
def grp13 : List (Int × Int × Int) := [(42, 0, 0)]
def grp14 : List (Int × Int × Int) := [(45, 0, 1), (46, 0, 5), (47, 0, 9), (48, 0, 13), (51, 2, 81), (52, 1, 81), (53, 0, 81)]
def tab0 : List Ent := grp0.map (entOf 82 51)
def tab1 : List Ent := tab0 ++ grp1.map (entOf 82 51)
def tab2 : List Ent := tab1 ++ grp2.map (entOf 73 19)
def tab3 : List Ent := tab2 ++ grp3.map (entOf 72 19)
def tab4 : List Ent := tab3 ++ grp4.map (entOf 73 3)
def tab5 : List Ent := tab4 ++ grp5.map (entOf 73 103)
def tab6 : List Ent := tab5 ++ grp6.map (entOf 73 7)
def tab7 : List Ent := tab6 ++ grp7.map (entOf 83 35)
def tab8 : List Ent := tab7 ++ grp8.map (entOf 83 39)
def tab9 : List Ent := tab8 ++ grp9.map (entOf 66 99)
def tab10 : List Ent := tab9 ++ grp10.map (entOf 85 55)
def tab11 : List Ent := tab10 ++ grp11.map (entOf 85 23)
def tab12 : List Ent := tab11 ++ grp12.map (entOf 74 111)
def tab13 : List Ent := tab12 ++ grp13.map (entOf 69 115)
def tab14 : List Ent := tab13 ++ grp14.map (entOf 82 83)
def tab15 : List Ent := tab14 ++ [(49, ⟨82, 83, 0, 17, 32⟩)]
def tab16 : List Ent := tab15 ++ [(50, ⟨82, 83, 1, 17, 32⟩)]
def tab17 : List Ent := tab16 ++ [(54, ⟨82, 83, 1, 97, 0⟩)]
def tab18 : List Ent := tab17 ++ [(55, ⟨82, 83, 0, 105, 0⟩)]
/-- the table of forms, in the order in which it is filled -/
abbrev forms : List Ent := tab18
theorem fresh0 : ((([] : List Ent) ++ grp0.map (entOf 82 51)).map (·.1)).Nodup := by decide +kernel
theorem range0 : ∀ x ∈ grp0, 0 ≤ x.1 ∧ x.1 < 4294967296 := by decide +kernel
theorem fresh1 : ((tab0 ++ grp1.map (entOf 82 51)).map (·.1)).Nodup := by decide +kernel
theorem range1 : ∀ x ∈ grp1, 0 ≤ x.1 ∧ x.1 < 4294967296 := by decide +kernel
theorem fresh2 : ((tab1 ++ grp2.map (entOf 73 19)).map (·.1)).Nodup := by decide +kernel
theorem range2 : ∀ x ∈ grp2, 0 ≤ x.1 ∧ x.1 < 4294967296 := by decide +kernel
theorem fresh3 : ((tab2 ++ grp3.map (entOf 72 19)).map (·.1)).Nodup := by decide +kernel
theorem range3 : ∀ x ∈ grp3, 0 ≤ x.1 ∧ x.1 < 4294967296 := by decide +kernel
theorem fresh4 : ((tab3 ++ grp4.map (entOf 73 3)).map (·.1)).Nodup := by decide +kernel
theorem range4 : ∀ x ∈ grp4, 0 ≤ x.1 ∧ x.1 < 4294967296 := by decide +kernel
theorem fresh5 : ((tab4 ++ grp5.map (entOf 73 103)).map (·.1)).Nodup := by decide +kernel
theorem range5 : ∀ x ∈ grp5, 0 ≤ x.1 ∧ x.1 < 4294967296 := by decide +kernel
theorem fresh6 : ((tab5 ++ grp6.map (entOf 73 7)).map (·.1)).Nodup := by decide +kernel
theorem range6 : ∀ x ∈ grp6, 0 ≤ x.1 ∧ x.1 < 4294967296 := by decide +kernel
theorem fresh7 : ((tab6 ++ grp7.map (entOf 83 35)).map (·.1)).Nodup := by decide +kernel
theorem range7 : ∀ x ∈ grp7, 0 ≤ x.1 ∧ x.1 < 4294967296 := by decide +kernel
theorem fresh8 : ((tab7 ++ grp8.map (entOf 83 39)).map (·.1)).Nodup := by decide +kernel
theorem range8 : ∀ x ∈ grp8, 0 ≤ x.1 ∧ x.1 < 4294967296 := by decide +kernel
theorem fresh9 : ((tab8 ++ grp9.map (entOf 66 99)).map (·.1)).Nodup := by decide +kernel
theorem range9 : ∀ x ∈ grp9, 0 ≤ x.1 ∧ x.1 < 4294967296 := by decide +kernel
theorem fresh10 : ((tab9 ++ grp10.map (entOf 85 55)).map (·.1)).Nodup := by decide +kernel
theorem range10 : ∀ x ∈ grp10, 0 ≤ x.1 ∧ x.1 < 4294967296 := by decide +kernel
theorem fresh11 : ((tab10 ++ grp11.map (entOf 85 23)).map (·.1)).Nodup := by decide +kernel
theorem range11 : ∀ x ∈ grp11, 0 ≤ x.1 ∧ x.1 < 4294967296 := by decide +kernel
theorem fresh12 : ((tab11 ++ grp12.map (entOf 74 111)).map (·.1)).Nodup := by decide +kernel
theorem range12 : ∀ x ∈ grp12, 0 ≤ x.1 ∧ x.1 < 4294967296 := by decide +kernel
theorem fresh13 : ((tab12 ++ grp13.map (entOf 69 115)).map (·.1)).Nodup := by decide +kernel
theorem range13 : ∀ x ∈ grp13, 0 ≤ x.1 ∧ x.1 < 4294967296 := by decide +kernel
theorem fresh14 : ((tab13 ++ grp14.map (entOf 82 83)).map (·.1)).Nodup := by decide +kernel
theorem range14 : ∀ x ∈ grp14, 0 ≤ x.1 ∧ x.1 < 4294967296 := by decide +kernel

theorem grownBy_refl (w : World) (r : Option Nat) : w.grownBy w r := ⟨rfl, rfl, rfl, Nat.le_refl _, fun _ _ _ => rfl⟩
theorem lies_new (w : World) (g : Nat) (hg : w.heap.size = g) (B : Nat) (cs : Array Value) (t : TypeId) (l : List Value) (hl : cs.toList = l) (hB : B - 1 < w.heap.size) : Lies B (w.alloc (.cells cs t)) (some ⟨g, 0, none⟩) l := fun j u hj => by
  subst hg
  refine ⟨_, rfl, by show B ≤ w.heap.size; omega, by simp, ?_⟩
  subst hl
  exact World.news_of_block (heap_alloc_new w (.cells cs t)) j u hj
set_option maxRecDepth 100000 in
set_option maxHeartbeats 2000000 in
theorem forms_calls (w : World) : Calls Tryz.prog 80 #[] w fun e w' => e = .returned (.map (some w.heap.size)) ∧ w'.heap[w.heap.size]? = some (.map (ent forms) forms.length) ∧ Below w.heap.size w w' := by
  have hmm := @run_makeMap Tryz.prog
  have hmf : ∀ (fn : Fn) (first cap : Array Value) (w : World), (Instr.makeFunc fn first cap).run Tryz.prog w = .ok (.func fn first cap) w := fun _ _ _ _ => rfl
  have C : Pack (∀ (W : World), Go.World.grownBy ((w.alloc (.map #[] 0)).alloc (.cells #[.map (some w.heap.size)] 125)) W (some w.heap.size) → ∀ (l : List Ent), W.heap[w.heap.size]? = some (.map (ent l) l.length) → ∀ (kind op : Int) (ao : Option Addr) (xs : List (Int × Int × Int)) (c : Nat), Lies (w.heap.size + 1) W ao (xs.flatMap triple) → xs.length ≤ 1000 → (∀ x ∈ xs, 0 ≤ x.1 ∧ x.1 < 4294967296) → ((l ++ xs.map (entOf kind op)).map (·.1)).Nodup →
    Calls Tryz.prog 103 #[.int .u8 kind, .int .u32 op, .slice ao xs.length c, .pointer (some ⟨w.heap.size + 1, 0, none⟩)] W fun e w' => e = .returned (.tuple #[]) ∧
      w'.heap[w.heap.size]? = some (.map (ent (l ++ xs.map (entOf kind op))) (l ++ xs.map (entOf kind op)).length) ∧ W.grownBy w' (some w.heap.size)) := ⟨fun W hg l hl kind op ao xs c h1 h2 h3 h4 =>
    many_calls W w.heap.size (w.heap.size + 1) ((World.cell?_of_block (w := ((w.alloc (.map #[] 0)).alloc (.cells #[.map (some w.heap.size)] 125))) (hg.block _ (by simp) (by simp))).trans (by
      have e1 : (w.alloc (.map #[] 0)).heap.size = w.heap.size + 1 := by simp
      have := heap_alloc_new (w.alloc (.map #[] 0)) (.cells #[.map (some w.heap.size)] 125)
      rw [e1] at this
      unfold World.cell?
      rw [show (⟨w.heap.size + 1, 0, none⟩ : Addr).block = w.heap.size + 1 from rfl, this]
      rfl)) (by omega) l hl kind op ao xs c h1 h2 h3 h4⟩
  go_enter Tryz.func80, Tryz.ntmps80
  go_wp2_with fail
  have hW0 : Pack (((w.alloc (.map #[] 0)).alloc (.cells #[.map (some w.heap.size)] 125)).heap[w.heap.size]? = some (.map (ent []) 0)) := ⟨by
    rw [Below.heap_alloc _ _ _ (by simp)]
    exact heap_alloc_new w _⟩
  have sz : ((w.alloc (.map #[] 0)).alloc (.cells #[.map (some w.heap.size)] 125)).heap.size = w.heap.size + 1 + 1 := by simp
  refine (C.out _ ((grownBy_refl _ _).trans (World.grownBy_alloc _ _ _)) [] ((Below.heap_alloc _ _ _ (by rw [sz]; omega)).trans hW0.out) 82 51 _ grp0 10 (lies_new _ _ sz (w.heap.size + 1) _ 159 (grp0.flatMap triple) rfl (by rw [sz]; omega)) (by decide) range0 fresh0).mono ?_
  rintro e w1 ⟨rfl, h, g⟩
  have H0 : Pack (w1.heap[w.heap.size]? = some (.map (ent tab0) tab0.length)) := ⟨h⟩
  have G0 := Pack.mk (((grownBy_refl _ _).trans (World.grownBy_alloc _ _ _)).trans g)
  clear h g
  go_wp2_with fail
  refine (C.out _ (G0.out.trans (World.grownBy_alloc _ _ _)) tab0 ((Below.heap_alloc _ _ _ (Nat.lt_of_lt_of_le (by rw [sz]; omega) G0.out.size)).trans H0.out) 82 51 _ grp1 7 (lies_new _ _ rfl (w.heap.size + 1) _ 159 (grp1.flatMap triple) rfl (Nat.lt_of_lt_of_le (by rw [sz]; omega) G0.out.size)) (by decide) range1 fresh1).mono ?_
  rintro e w2 ⟨rfl, h, g⟩
  have H1 : Pack (w2.heap[w.heap.size]? = some (.map (ent tab1) tab1.length)) := ⟨h⟩
  have G1 := Pack.mk ((G0.out.trans (World.grownBy_alloc _ _ _)).trans g)
  clear h g
  go_wp2_with fail
  refine (C.out _ (G1.out.trans (World.grownBy_alloc _ _ _)) tab1 ((Below.heap_alloc _ _ _ (Nat.lt_of_lt_of_le (by rw [sz]; omega) G1.out.size)).trans H1.out) 73 19 _ grp2 6 (lies_new _ _ rfl (w.heap.size + 1) _ 159 (grp2.flatMap triple) rfl (Nat.lt_of_lt_of_le (by rw [sz]; omega) G1.out.size)) (by decide) range2 fresh2).mono ?_
  rintro e w3 ⟨rfl, h, g⟩
  have H2 : Pack (w3.heap[w.heap.size]? = some (.map (ent tab2) tab2.length)) := ⟨h⟩
  have G2 := Pack.mk ((G1.out.trans (World.grownBy_alloc _ _ _)).trans g)
  clear h g
  go_wp2_with fail
  refine (C.out _ (G2.out.trans (World.grownBy_alloc _ _ _)) tab2 ((Below.heap_alloc _ _ _ (Nat.lt_of_lt_of_le (by rw [sz]; omega) G2.out.size)).trans H2.out) 72 19 _ grp3 3 (lies_new _ _ rfl (w.heap.size + 1) _ 159 (grp3.flatMap triple) rfl (Nat.lt_of_lt_of_le (by rw [sz]; omega) G2.out.size)) (by decide) range3 fresh3).mono ?_
  rintro e w4 ⟨rfl, h, g⟩
  have H3 : Pack (w4.heap[w.heap.size]? = some (.map (ent tab3) tab3.length)) := ⟨h⟩
  have G3 := Pack.mk ((G2.out.trans (World.grownBy_alloc _ _ _)).trans g)
  clear h g
  go_wp2_with fail
  refine (C.out _ (G3.out.trans (World.grownBy_alloc _ _ _)) tab3 ((Below.heap_alloc _ _ _ (Nat.lt_of_lt_of_le (by rw [sz]; omega) G3.out.size)).trans H3.out) 73 3 _ grp4 3 (lies_new _ _ rfl (w.heap.size + 1) _ 159 (grp4.flatMap triple) rfl (Nat.lt_of_lt_of_le (by rw [sz]; omega) G3.out.size)) (by decide) range4 fresh4).mono ?_
  rintro e w5 ⟨rfl, h, g⟩
  have H4 : Pack (w5.heap[w.heap.size]? = some (.map (ent tab4) tab4.length)) := ⟨h⟩
  have G4 := Pack.mk ((G3.out.trans (World.grownBy_alloc _ _ _)).trans g)
  clear h g
  go_wp2_with fail
  refine (C.out _ (G4.out.trans (World.grownBy_alloc _ _ _)) tab4 ((Below.heap_alloc _ _ _ (Nat.lt_of_lt_of_le (by rw [sz]; omega) G4.out.size)).trans H4.out) 73 103 _ grp5 1 (lies_new _ _ rfl (w.heap.size + 1) _ 159 (grp5.flatMap triple) rfl (Nat.lt_of_lt_of_le (by rw [sz]; omega) G4.out.size)) (by decide) range5 fresh5).mono ?_
  rintro e w6 ⟨rfl, h, g⟩
  have H5 : Pack (w6.heap[w.heap.size]? = some (.map (ent tab5) tab5.length)) := ⟨h⟩
  have G5 := Pack.mk ((G4.out.trans (World.grownBy_alloc _ _ _)).trans g)
  clear h g
  go_wp2_with fail
  refine (C.out _ (G5.out.trans (World.grownBy_alloc _ _ _)) tab5 ((Below.heap_alloc _ _ _ (Nat.lt_of_lt_of_le (by rw [sz]; omega) G5.out.size)).trans H5.out) 73 7 _ grp6 1 (lies_new _ _ rfl (w.heap.size + 1) _ 159 (grp6.flatMap triple) rfl (Nat.lt_of_lt_of_le (by rw [sz]; omega) G5.out.size)) (by decide) range6 fresh6).mono ?_
  rintro e w7 ⟨rfl, h, g⟩
  have H6 : Pack (w7.heap[w.heap.size]? = some (.map (ent tab6) tab6.length)) := ⟨h⟩
  have G6 := Pack.mk ((G5.out.trans (World.grownBy_alloc _ _ _)).trans g)
  clear h g
  go_wp2_with fail
  refine (C.out _ (G6.out.trans (World.grownBy_alloc _ _ _)) tab6 ((Below.heap_alloc _ _ _ (Nat.lt_of_lt_of_le (by rw [sz]; omega) G6.out.size)).trans H6.out) 83 35 _ grp7 2 (lies_new _ _ rfl (w.heap.size + 1) _ 159 (grp7.flatMap triple) rfl (Nat.lt_of_lt_of_le (by rw [sz]; omega) G6.out.size)) (by decide) range7 fresh7).mono ?_
  rintro e w8 ⟨rfl, h, g⟩
  have H7 : Pack (w8.heap[w.heap.size]? = some (.map (ent tab7) tab7.length)) := ⟨h⟩
  have G7 := Pack.mk ((G6.out.trans (World.grownBy_alloc _ _ _)).trans g)
  clear h g
  go_wp2_with fail
  refine (C.out _ (G7.out.trans (World.grownBy_alloc _ _ _)) tab7 ((Below.heap_alloc _ _ _ (Nat.lt_of_lt_of_le (by rw [sz]; omega) G7.out.size)).trans H7.out) 83 39 _ grp8 1 (lies_new _ _ rfl (w.heap.size + 1) _ 159 (grp8.flatMap triple) rfl (Nat.lt_of_lt_of_le (by rw [sz]; omega) G7.out.size)) (by decide) range8 fresh8).mono ?_
  rintro e w9 ⟨rfl, h, g⟩
  have H8 : Pack (w9.heap[w.heap.size]? = some (.map (ent tab8) tab8.length)) := ⟨h⟩
  have G8 := Pack.mk ((G7.out.trans (World.grownBy_alloc _ _ _)).trans g)
  clear h g
  go_wp2_with fail
  refine (C.out _ (G8.out.trans (World.grownBy_alloc _ _ _)) tab8 ((Below.heap_alloc _ _ _ (Nat.lt_of_lt_of_le (by rw [sz]; omega) G8.out.size)).trans H8.out) 66 99 _ grp9 6 (lies_new _ _ rfl (w.heap.size + 1) _ 159 (grp9.flatMap triple) rfl (Nat.lt_of_lt_of_le (by rw [sz]; omega) G8.out.size)) (by decide) range9 fresh9).mono ?_
  rintro e w10 ⟨rfl, h, g⟩
  have H9 : Pack (w10.heap[w.heap.size]? = some (.map (ent tab9) tab9.length)) := ⟨h⟩
  have G9 := Pack.mk ((G8.out.trans (World.grownBy_alloc _ _ _)).trans g)
  clear h g
  go_wp2_with fail
  refine (C.out _ (G9.out.trans (World.grownBy_alloc _ _ _)) tab9 ((Below.heap_alloc _ _ _ (Nat.lt_of_lt_of_le (by rw [sz]; omega) G9.out.size)).trans H9.out) 85 55 _ grp10 1 (lies_new _ _ rfl (w.heap.size + 1) _ 159 (grp10.flatMap triple) rfl (Nat.lt_of_lt_of_le (by rw [sz]; omega) G9.out.size)) (by decide) range10 fresh10).mono ?_
  rintro e w11 ⟨rfl, h, g⟩
  have H10 : Pack (w11.heap[w.heap.size]? = some (.map (ent tab10) tab10.length)) := ⟨h⟩
  have G10 := Pack.mk ((G9.out.trans (World.grownBy_alloc _ _ _)).trans g)
  clear h g
  go_wp2_with fail
  refine (C.out _ (G10.out.trans (World.grownBy_alloc _ _ _)) tab10 ((Below.heap_alloc _ _ _ (Nat.lt_of_lt_of_le (by rw [sz]; omega) G10.out.size)).trans H10.out) 85 23 _ grp11 1 (lies_new _ _ rfl (w.heap.size + 1) _ 159 (grp11.flatMap triple) rfl (Nat.lt_of_lt_of_le (by rw [sz]; omega) G10.out.size)) (by decide) range11 fresh11).mono ?_
  rintro e w12 ⟨rfl, h, g⟩
  have H11 : Pack (w12.heap[w.heap.size]? = some (.map (ent tab11) tab11.length)) := ⟨h⟩
  have G11 := Pack.mk ((G10.out.trans (World.grownBy_alloc _ _ _)).trans g)
  clear h g
  go_wp2_with fail
  refine (C.out _ (G11.out.trans (World.grownBy_alloc _ _ _)) tab11 ((Below.heap_alloc _ _ _ (Nat.lt_of_lt_of_le (by rw [sz]; omega) G11.out.size)).trans H11.out) 74 111 _ grp12 1 (lies_new _ _ rfl (w.heap.size + 1) _ 159 (grp12.flatMap triple) rfl (Nat.lt_of_lt_of_le (by rw [sz]; omega) G11.out.size)) (by decide) range12 fresh12).mono ?_
  rintro e w13 ⟨rfl, h, g⟩
  have H12 : Pack (w13.heap[w.heap.size]? = some (.map (ent tab12) tab12.length)) := ⟨h⟩
  have G12 := Pack.mk ((G11.out.trans (World.grownBy_alloc _ _ _)).trans g)
  clear h g
  go_wp2_with fail
  refine (C.out _ (G12.out.trans (World.grownBy_alloc _ _ _)) tab12 ((Below.heap_alloc _ _ _ (Nat.lt_of_lt_of_le (by rw [sz]; omega) G12.out.size)).trans H12.out) 69 115 _ grp13 1 (lies_new _ _ rfl (w.heap.size + 1) _ 159 (grp13.flatMap triple) rfl (Nat.lt_of_lt_of_le (by rw [sz]; omega) G12.out.size)) (by decide) range13 fresh13).mono ?_
  rintro e w14 ⟨rfl, h, g⟩
  have H13 : Pack (w14.heap[w.heap.size]? = some (.map (ent tab13) tab13.length)) := ⟨h⟩
  have G13 := Pack.mk ((G12.out.trans (World.grownBy_alloc _ _ _)).trans g)
  clear h g
  go_wp2_with fail
  refine (C.out _ (G13.out.trans (World.grownBy_alloc _ _ _)) tab13 ((Below.heap_alloc _ _ _ (Nat.lt_of_lt_of_le (by rw [sz]; omega) G13.out.size)).trans H13.out) 82 83 _ grp14 7 (lies_new _ _ rfl (w.heap.size + 1) _ 159 (grp14.flatMap triple) rfl (Nat.lt_of_lt_of_le (by rw [sz]; omega) G13.out.size)) (by decide) range14 fresh14).mono ?_
  rintro e w15 ⟨rfl, h, g⟩
  have H14 : Pack (w15.heap[w.heap.size]? = some (.map (ent tab14) tab14.length)) := ⟨h⟩
  have G14 := Pack.mk ((G13.out.trans (World.grownBy_alloc _ _ _)).trans g)
  clear h g
  have cell : Pack (((w.alloc (.map #[] 0)).alloc (.cells #[.map (some w.heap.size)] 125)).cell? ⟨w.heap.size + 1, 0, none⟩ = some (.map (some w.heap.size))) := ⟨by
    have e1 : (w.alloc (.map #[] 0)).heap.size = w.heap.size + 1 := by simp
    have := heap_alloc_new (w.alloc (.map #[] 0)) (.cells #[.map (some w.heap.size)] 125)
    rw [e1] at this
    unfold World.cell?
    rw [show (⟨w.heap.size + 1, 0, none⟩ : Addr).block = w.heap.size + 1 from rfl, this]
    rfl⟩
  have c0 : w15.cell? ⟨w.heap.size + 1, 0, none⟩ = some (.map (some w.heap.size)) := G14.out.cell cell.out (by simp)
  go_wp2_with (at_mapUpdate; first
    | (refine wpList_update _ rfl _ _ _ rfl w.heap.size tab14 49 ⟨82, 83, 0, 17, 32⟩ rfl rfl rfl H14.out (by decide +kernel) ?_; intro w16 h g; have H15 : Pack (w16.heap[w.heap.size]? = some (.map (ent tab15) tab15.length)) := ⟨h⟩; have G15 := Pack.mk (G14.out.trans g); clear h g; have c1 : w16.cell? ⟨w.heap.size + 1, 0, none⟩ = some (.map (some w.heap.size)) := G15.out.cell cell.out (by simp))
    | (refine wpList_update _ rfl _ _ _ rfl w.heap.size tab15 50 ⟨82, 83, 1, 17, 32⟩ rfl rfl rfl H15.out (by decide +kernel) ?_; intro w17 h g; have H16 : Pack (w17.heap[w.heap.size]? = some (.map (ent tab16) tab16.length)) := ⟨h⟩; have G16 := Pack.mk (G15.out.trans g); clear h g; have c2 : w17.cell? ⟨w.heap.size + 1, 0, none⟩ = some (.map (some w.heap.size)) := G16.out.cell cell.out (by simp))
    | (refine wpList_update _ rfl _ _ _ rfl w.heap.size tab16 54 ⟨82, 83, 1, 97, 0⟩ rfl rfl rfl H16.out (by decide +kernel) ?_; intro w18 h g; have H17 : Pack (w18.heap[w.heap.size]? = some (.map (ent tab17) tab17.length)) := ⟨h⟩; have G17 := Pack.mk (G16.out.trans g); clear h g; have c3 : w18.cell? ⟨w.heap.size + 1, 0, none⟩ = some (.map (some w.heap.size)) := G17.out.cell cell.out (by simp))
    | (refine wpList_update _ rfl _ _ _ rfl w.heap.size tab17 55 ⟨82, 83, 0, 105, 0⟩ rfl rfl rfl H17.out (by decide +kernel) ?_; intro w19 h g; have H18 : Pack (w19.heap[w.heap.size]? = some (.map (ent tab18) tab18.length)) := ⟨h⟩; have G18 := Pack.mk (G17.out.trans g); clear h g; have c4 : w19.cell? ⟨w.heap.size + 1, 0, none⟩ = some (.map (some w.heap.size)) := G18.out.cell cell.out (by simp)))
  go_ret
  refine ⟨rfl, H18.out, ?_⟩
  have hb : Below w.heap.size w ((w.alloc (.map #[] 0)).alloc (.cells #[.map (some w.heap.size)] 125)) := ((Below.refl _ w).alloc (Nat.le_refl _) _).alloc (by simp) _
  exact hb.trans ⟨G18.out.os, G18.out.tape, G18.out.output, G18.out.size, fun k hk => G18.out.block k (by rw [sz]; omega) (by intro e; cases e; omega)⟩
end Go.Proofs.YtgcpnjckbdajbaaGreatDoor.Ob
