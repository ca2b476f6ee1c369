import Derived.Test.YtgcpnjckbdajbaaGreatDoorPM
import Derived.BigQuiet
import Derived.Test.YtgcpnjckbdajbaaGreatDoorOE
namespace Go.Proofs.YtgcpnjckbdajbaaGreatDoor.Ob
open Go.RowKit Go.Sort
open Go.ChangeMaps (setBlock)

def sizeOk (o : ObjV) : Bool := decide (o.text.length ≤ 65536) && (decide (o.data.length ≤ 65536) && (decide (o.data.length % 8 = 0) && (decide (o.syms.length ≤ 600) && decide (o.rels.length ≤ 65536))))
def symOk (o : ObjV) (i : Nat) : Bool := match o.syms[i]? with
  | some s => nameOk s.name && ((!((o.syms.take i).map SymV.name).any fun n => decide (n = s.name)) && symbolV o.text.length o.data.length s)
  | none => true
def relLast (o : ObjV) (i : Nat) : Int × Int := if i = 0 then (0, -1) else match o.rels[i - 1]? with
  | some r => (r.sect, r.place)
  | none => (0, -1)
def relFits (o : ObjV) (r : RelV) : Bool := decide (0 ≤ r.sym) && (decide (r.sym < o.syms.length) && (decide (-2147483648 ≤ r.add) && decide (r.add < 2147483648)))
def relOk (o : ObjV) (i : Nat) : Bool := match o.rels[i]? with
  | some r => decide (cmpPair (relLast o i).1 (relLast o i).2 r.sect r.place < 0) && (relFits o r && relocV o.text o.data.length r)
  | none => true
/-- is it an object? -/
def good (o : ObjV) : Bool := sizeOk o && ((List.range o.syms.length).all (symOk o) && (List.range o.rels.length).all (relOk o))
theorem all_below {f : Nat → Bool} {n i : Nat} (hi : i < n) (hf : f i = false) : (List.range n).all f = false := by
  rw [List.all_eq_false]
  exact ⟨i, List.mem_range.2 hi, by simp [hf]⟩
theorem all_succ {f : Nat → Bool} {i : Nat} (h : (List.range i).all f = true) (hf : f i = true) : (List.range (i + 1)).all f = true := by
  rw [List.range_succ, List.all_append, h]
  simp [hf]

theorem four_at {w : World} {b : Nat} {v0 v1 v2 v3 : Value} {t : TypeId} (h : w.heap[b]? = some (.cells #[v0, v1, v2, v3] t (0, 0))) :
    w.cell? ⟨b, 0, none⟩ = some v0 ∧ w.cell? ⟨b, 1, none⟩ = some v1 ∧ w.cell? ⟨b, 2, none⟩ = some v2 ∧ w.cell? ⟨b, 3, none⟩ = some v3 := by
  refine ⟨?_, ?_, ?_, ?_⟩ <;> simp [World.cell?, h]
set_option maxRecDepth 100000 in
set_option maxHeartbeats 20000000 in
theorem checkObj_calls (B : Nat) (o : ObjV) (v : Value) (w : World) (hv : Holds B w v o) (hx : ∀ x ∈ o.text, 0 ≤ x ∧ x < 4294967296) :
    Calls Tryz.prog 18 #[v] w fun e w' => e = .returned (.int .i64 (if good o then 0 else 2)) ∧ Below w.heap.size w w' := by
  obtain ⟨a0, a1, a2, a3, c0, c1, c2, c3, rfl, l0, l1, l2, l3⟩ := hv
  have P0 := Pack.mk l0
  have P2 := Pack.mk l2
  have P3 := Pack.mk l3
  have PX := Pack.mk hx
  clear l0 l1 l2 l3 hx
  obtain ⟨bx, hbx⟩ : ∃ bx : Array Value, bx = #[.slice a0 o.text.length c0, .slice a1 o.data.length c1, .slice a2 o.syms.length c2, .slice a3 o.rels.length c3] := ⟨_, rfl⟩
  have CC : Pack (∀ W, Ck w bx W → CallsD Tryz.prog 38 #[.pointer (some ⟨w.heap.size + 1, 0, none⟩)] (.panicking thrown) W fun e u' w' => e = .returned (.tuple #[]) ∧ u' = .panicking [{ v := .iface 29 (.int .i64 2), recovered := true }] ∧ w'.cell? ⟨w.heap.size + 1, 0, none⟩ = some (.int .i64 2) ∧ Below w.heap.size w w') := ⟨fun W h => catch_ck h⟩
  have K0 : Pack (Ck w bx ((w.alloc (.cells #[.slice a0 o.text.length c0, .slice a1 o.data.length c1, .slice a2 o.syms.length c2, .slice a3 o.rels.length c3] 28)).alloc (.cells #[.int .i64 0] 29))) := ⟨by
    rw [← hbx]
    refine ⟨?_, ?_, ((Below.refl _ w).alloc (Nat.le_refl _) _).alloc (by simp) _⟩
    · rw [Below.heap_alloc _ _ _ (by simp)]; exact heap_alloc_new w _
    · have e1 : (w.alloc (.cells bx 28)).heap.size = w.heap.size + 1 := by simp
      have := heap_alloc_new (w.alloc (.cells bx 28)) (.cells #[.int .i64 0] 29)
      rwa [e1] at this⟩
  have HBX := Pack.mk hbx
  clear hbx
  have hmf : ∀ (fn : Fn) (first cap : Array Value) (w : World), (Instr.makeFunc fn first cap).run Tryz.prog w = .ok (.func fn first cap) w := fun _ _ _ _ => rfl
  have hmm := @run_makeMap Tryz.prog
  by_cases m0 : o.text.length ≤ 65536
  case neg =>
    have i0 : ¬ ((o.text.length : Int) ≤ 65536) := by omega
    have F : Pack (good o = false) := ⟨by simp [good, sizeOk, m0]⟩
    go_enter_defers Tryz.func18, Tryz.ntmps18
    go_wp2_with fail
    refine (need_no _).mono ?_
    rintro e w1 ⟨rfl, rfl⟩
    refine leaves_cons (f := 38) (args := #[.pointer (some ⟨w.heap.size + 1, 0, none⟩)]) (by simp) (by simp [go_sem]) ?_
    refine (CC.out _ K0.out).mono ?_
    rintro e u' w'' ⟨rfl, rfl, h4, h5⟩
    simp [Leaves, settle, results, Tryz.results18, go_sem, h4]
    exact ⟨by rw [F.out], h5⟩
  case pos =>
  by_cases m1 : o.data.length ≤ 65536
  case neg =>
    have i0 : (o.text.length : Int) ≤ 65536 := by omega
    have i1 : ¬ ((o.data.length : Int) ≤ 65536) := by omega
    have F : Pack (good o = false) := ⟨by simp [good, sizeOk, m1]⟩
    go_enter_defers Tryz.func18, Tryz.ntmps18
    go_wp2_with fail
    refine (need_no _).mono ?_
    rintro e w1 ⟨rfl, rfl⟩
    refine leaves_cons (f := 38) (args := #[.pointer (some ⟨w.heap.size + 1, 0, none⟩)]) (by simp) (by simp [go_sem]) ?_
    refine (CC.out _ K0.out).mono ?_
    rintro e u' w'' ⟨rfl, rfl, h4, h5⟩
    simp [Leaves, settle, results, Tryz.results18, go_sem, h4]
    exact ⟨by rw [F.out], h5⟩
  case pos =>
  by_cases m2 : o.data.length % 8 = 0
  case neg =>
    have i0 : (o.text.length : Int) ≤ 65536 := by omega
    have i1 : (o.data.length : Int) ≤ 65536 := by omega
    have i2 : ¬ ((o.data.length : Int) % 8 = 0) := by omega
    have hb : ((o.data.length : Int) % 8 == 0) = false := beq_eq_false_iff_ne.2 i2
    have F : Pack (good o = false) := ⟨by simp [good, sizeOk, m2]⟩
    go_enter_defers Tryz.func18, Tryz.ntmps18
    go_wp2_with fail
    refine (need_no _).mono ?_
    rintro e w1 ⟨rfl, rfl⟩
    refine leaves_cons (f := 38) (args := #[.pointer (some ⟨w.heap.size + 1, 0, none⟩)]) (by simp) (by simp [go_sem]) ?_
    refine (CC.out _ K0.out).mono ?_
    rintro e u' w'' ⟨rfl, rfl, h4, h5⟩
    simp [Leaves, settle, results, Tryz.results18, go_sem, h4]
    exact ⟨by rw [F.out], h5⟩
  case pos =>
  by_cases m3 : o.syms.length ≤ 600
  case neg =>
    have i0 : (o.text.length : Int) ≤ 65536 := by omega
    have i1 : (o.data.length : Int) ≤ 65536 := by omega
    have i2 : (o.data.length : Int) % 8 = 0 := by omega
    have i3 : ¬ ((o.syms.length : Int) ≤ 600) := by omega
    have F : Pack (good o = false) := ⟨by simp [good, sizeOk, m3]⟩
    go_enter_defers Tryz.func18, Tryz.ntmps18
    go_wp2_with fail
    refine (need_no _).mono ?_
    rintro e w1 ⟨rfl, rfl⟩
    refine leaves_cons (f := 38) (args := #[.pointer (some ⟨w.heap.size + 1, 0, none⟩)]) (by simp) (by simp [go_sem]) ?_
    refine (CC.out _ K0.out).mono ?_
    rintro e u' w'' ⟨rfl, rfl, h4, h5⟩
    simp [Leaves, settle, results, Tryz.results18, go_sem, h4]
    exact ⟨by rw [F.out], h5⟩
  case pos =>
  by_cases m4 : o.rels.length ≤ 65536
  case neg =>
    have i0 : (o.text.length : Int) ≤ 65536 := by omega
    have i1 : (o.data.length : Int) ≤ 65536 := by omega
    have i2 : (o.data.length : Int) % 8 = 0 := by omega
    have i3 : (o.syms.length : Int) ≤ 600 := by omega
    have i4 : ¬ ((o.rels.length : Int) ≤ 65536) := by omega
    have F : Pack (good o = false) := ⟨by simp [good, sizeOk, m4]⟩
    go_enter_defers Tryz.func18, Tryz.ntmps18
    go_wp2_with fail
    refine (need_no _).mono ?_
    rintro e w1 ⟨rfl, rfl⟩
    refine leaves_cons (f := 38) (args := #[.pointer (some ⟨w.heap.size + 1, 0, none⟩)]) (by simp) (by simp [go_sem]) ?_
    refine (CC.out _ K0.out).mono ?_
    rintro e u' w'' ⟨rfl, rfl, h4, h5⟩
    simp [Leaves, settle, results, Tryz.results18, go_sem, h4]
    exact ⟨by rw [F.out], h5⟩
  case pos =>
  have i0 : (o.text.length : Int) ≤ 65536 := by omega
  have i1 : (o.data.length : Int) ≤ 65536 := by omega
  have i2 : (o.data.length : Int) % 8 = 0 := by omega
  have i3 : (o.syms.length : Int) ≤ 600 := by omega
  have i4 : (o.rels.length : Int) ≤ 65536 := by omega
  have SZ : Pack (sizeOk o = true) := ⟨by simp [sizeOk, m0, m1, m2, m3, m4]⟩
  go_enter_defers Tryz.func18, Tryz.ntmps18
  go_wp2_with fail
  refine (need_yes _).mono ?_
  rintro e w1 ⟨rfl, rfl⟩
  go_wp2_with fail
  obtain ⟨W0, hW0⟩ : ∃ W0, ((w.alloc (.cells #[.slice a0 o.text.length c0, .slice a1 o.data.length c1, .slice a2 o.syms.length c2, .slice a3 o.rels.length c3] 28)).alloc (.cells #[.int .i64 0] 29)) = W0 := ⟨_, rfl⟩
  have hsz : W0.heap.size = w.heap.size + 2 := by rw [← hW0]; simp
  rw [hW0] at K0 ⊢
  have K1 := Pack.mk (K0.out.alloc (.map #[] 0))
  have M1 : Pack ((W0.alloc (.map #[] 0)).heap[w.heap.size + 2]? = some (.map (names ((o.syms.take 0).map SymV.name)) ((o.syms.take 0).map SymV.name).length)) := ⟨by rw [← hsz]; exact heap_alloc_new W0 _⟩
  go_loopg [5, 45] o.syms.length (fun kq v5 v45 wr => ∃ i : Nat, i + kq = o.syms.length ∧ v45 = .int .i64 i ∧ Pack (Ck w bx wr ∧ wr.heap[w.heap.size + 2]? = some (.map (names ((o.syms.take i).map SymV.name)) ((o.syms.take i).map SymV.name).length) ∧ (List.range i).all (symOk o) = true))
  case atStart => exact ⟨0, by omega, rfl, ⟨K1.out, M1.out, rfl⟩⟩
  case round =>
    clear M1 K1 hW0 hsz
    obtain ⟨i, hi, rfl, PA⟩ := hrel
    by_cases hk : gk = 0
    · subst hk
      have hlt : ¬ ((i : Int) < (o.syms.length : Int)) := by omega
      have SY : Pack ((List.range o.syms.length).all (symOk o) = true) := ⟨by have := PA.out.2.2; rwa [show i = o.syms.length by omega] at this⟩
      have KS := Pack.mk PA.out.1
      clear PA
      have hb4 : wr.heap[w.heap.size]? = some (.cells #[.slice a0 o.text.length c0, .slice a1 o.data.length c1, .slice a2 o.syms.length c2, .slice a3 o.rels.length c3] 28 (0, 0)) := by rw [← HBX.out]; exact KS.out.box
      obtain ⟨y0, y1, y2, y3⟩ := four_at hb4
      have y3' : ∀ ob, (wr.alloc ob).cell? ⟨w.heap.size, 3, none⟩ = some (.slice a3 o.rels.length c3) := fun ob => (World.cell?_of_block (w := wr) (Below.heap_alloc _ _ _ (Array.getElem?_eq_some_iff.1 hb4).1)).trans y3
      clear hb4
      have lk : w.heap.size + 2 ≤ wr.heap.size := (Array.getElem?_eq_some_iff.1 KS.out.res).1
      go_wp2_with fail
      obtain ⟨bL, hbL⟩ : ∃ n, wr.heap.size = n := ⟨_, rfl⟩
      have LK : Pack (w.heap.size + 2 ≤ bL) := ⟨by omega⟩
      clear lk
      simp only [hbL]
      go_loopg [8, 9, 73] o.rels.length (fun kq v8 v9 v73 wq => ∃ j : Nat, j + kq = o.rels.length ∧ v73 = .int .i64 j ∧ Pack (Ck w bx wq ∧ wq.heap[bL]? = some (.cells #[.int .i64 (relLast o j).1, .int .i64 (relLast o j).2] 83 (0, 0)) ∧ (List.range j).all (relOk o) = true))
      case atStart => exact ⟨0, by omega, rfl, ⟨KS.out.alloc _, hbL ▸ heap_alloc_new wr _, rfl⟩⟩
      case round =>
        clear y0 y1 y2 y3 y3' hi hlt hbL
        obtain ⟨j, hj, rfl, QA⟩ := hrel
        clear KS
        by_cases hk : gk = 0
        · subst hk
          have hlt : ¬ ((j : Int) < (o.rels.length : Int)) := by omega
          have G : Pack (good o = true) := ⟨by
            have h := QA.out.2.2
            rw [show j = o.rels.length by omega] at h
            unfold good
            rw [SZ.out, SY.out, h]
            rfl⟩
          have r0 : wr.cell? ⟨w.heap.size + 1, 0, none⟩ = some (.int .i64 0) := by simp [World.cell?, QA.out.1.res]
          have z0 : wr.frozen? ⟨w.heap.size + 1, 0, none⟩ = false := by simp [World.frozen?, QA.out.1.res]
          have r1 : (wr.setCell ⟨w.heap.size + 1, 0, none⟩ (.int .i64 0)).cell? ⟨w.heap.size + 1, 0, none⟩ = some (.int .i64 0) := World.cell?_setCell_same' _ _ _ (by rw [r0]; rfl)
          have BL : Pack (Below w.heap.size w (wr.setCell ⟨w.heap.size + 1, 0, none⟩ (.int .i64 0))) := ⟨QA.out.1.below.setCell (p := ⟨w.heap.size + 1, 0, none⟩) (Nat.le_succ _) _⟩
          go_wp2_with fail
          case inr => exact absurd G.out (by assumption)
          refine leaves_cons (f := 38) (args := #[.pointer (some ⟨w.heap.size + 1, 0, none⟩)]) (by simp) (by simp [go_sem]) ?_
          refine (catch_idle ⟨w.heap.size + 1, 0, none⟩ _).mono ?_
          rintro e u' w'' ⟨rfl, rfl, rfl⟩
          simp [Leaves, settle, results, Tryz.results18, go_sem, r1]
          exact BL.out
        · have hlt : (j : Int) < (o.rels.length : Int) := by omega
          have h1 : j < o.rels.length := by omega
          obtain ⟨a, rfl, _, _, ca⟩ := (P3.out.step QA.out.1.below).elem encRel 5 encRel_len (by decide) j h1
          obtain ⟨p0, p1, p2, p3, p4⟩ := cells5 ca rfl
          clear ca
          generalize hxi : o.rels[j] = r at p0 p1 p2 p3 p4
          have PE := Pack.mk hxi
          clear hxi
          have RO : Pack (relOk o j = (decide (cmpPair (relLast o j).1 (relLast o j).2 r.sect r.place < 0) && (relFits o r && relocV o.text o.data.length r))) := ⟨by
            unfold relOk
            rw [List.getElem?_eq_getElem h1, PE.out]⟩
          have RN : Pack (relLast o (j + 1) = (r.sect, r.place)) := ⟨by
            unfold relLast
            rw [if_neg (by omega), Nat.add_sub_cancel, List.getElem?_eq_getElem h1, PE.out]⟩
          have bad : Pack (relOk o j = false → good o = false) := ⟨fun h => by
            unfold good
            rw [all_below h1 h]
            simp⟩
          have RY := Pack.mk QA.out.2.2
          have LB := QA.out.2.1
          have KQ := Pack.mk QA.out.1
          clear QA
          generalize relLast o j = L at RO LB
          obtain ⟨lx, ly⟩ := L
          have hbq : bL < wr.heap.size := (Array.getElem?_eq_some_iff.1 LB).1
          have KA : Pack (Ck w bx ((wr.alloc (.cells #[.int .i64 r.sect, .int .i64 r.place, .int .i64 r.kind, .int .i64 r.sym, .int .i64 r.add] 67)).alloc (.cells #[.int .i64 r.sect, .int .i64 r.place] 83))) := ⟨(KQ.out.alloc _).alloc _⟩
          have LA : Pack (((wr.alloc (.cells #[.int .i64 r.sect, .int .i64 r.place, .int .i64 r.kind, .int .i64 r.sym, .int .i64 r.add] 67)).alloc (.cells #[.int .i64 r.sect, .int .i64 r.place] 83)).heap[bL]? = some (.cells #[.int .i64 lx, .int .i64 ly] 83 (0, 0))) := ⟨by
            rw [Below.heap_alloc _ _ _ (by simp; omega), Below.heap_alloc _ _ _ hbq]
            exact LB⟩
          have T8 : Pack (((wr.alloc (.cells #[.int .i64 r.sect, .int .i64 r.place, .int .i64 r.kind, .int .i64 r.sym, .int .i64 r.add] 67)).alloc (.cells #[.int .i64 r.sect, .int .i64 r.place] 83)).heap[wr.heap.size]? = some (.cells #[.int .i64 r.sect, .int .i64 r.place, .int .i64 r.kind, .int .i64 r.sym, .int .i64 r.add] 67 (0, 0))) := ⟨by
            rw [Below.heap_alloc _ _ _ (by simp)]
            exact heap_alloc_new wr _⟩
          clear LB
          have l0 : ∀ w2, Still ((wr.alloc (.cells #[.int .i64 r.sect, .int .i64 r.place, .int .i64 r.kind, .int .i64 r.sym, .int .i64 r.add] 67)).alloc (.cells #[.int .i64 r.sect, .int .i64 r.place] 83)) w2 → w2.cell? ⟨bL, 0, none⟩ = some (.int .i64 lx) := fun w2 h => by simp [World.cell?, h.1, LA.out]
          have l1 : ∀ w2, Still ((wr.alloc (.cells #[.int .i64 r.sect, .int .i64 r.place, .int .i64 r.kind, .int .i64 r.sym, .int .i64 r.add] 67)).alloc (.cells #[.int .i64 r.sect, .int .i64 r.place] 83)) w2 → w2.cell? ⟨bL, 1, none⟩ = some (.int .i64 ly) := fun w2 h => by simp [World.cell?, h.1, LA.out]
          by_cases hc : cmpPair lx ly r.sect r.place < 0
          case neg =>
            have hd : decide (cmpPair lx ly r.sect r.place < 0) = false := decide_eq_false hc
            have F : Pack (good o = false) := ⟨bad.out (by rw [RO.out, hd]; rfl)⟩
            clear hc
            go_wp2_with fail
            refine cmp_no bL (wr.heap.size + 1) lx ly r.sect r.place _ ((wr.alloc (.cells #[.int .i64 r.sect, .int .i64 r.place, .int .i64 r.kind, .int .i64 r.sym, .int .i64 r.add] 67)).alloc (.cells #[.int .i64 r.sect, .int .i64 r.place] 83)) _ rfl rfl rfl rfl (l0 _ ⟨rfl, rfl, rfl, rfl⟩) (l1 _ ⟨rfl, rfl, rfl, rfl⟩) (by go_simp) (by go_simp) hd ?_
            intro a5 w1 hd1 ht1 hs1
            show Leaves Tryz.prog Tryz.f18 a5.tmps _ a5.defers (.panicking thrown) w1
            rw [hd1]
            refine leaves_cons (f := 38) (args := #[.pointer (some ⟨w.heap.size + 1, 0, none⟩)]) (by simp) (by simp [go_sem]) ?_
            refine (CC.out _ (KA.out.still hs1)).mono ?_
            rintro e u' w'' ⟨rfl, rfl, h4, h5⟩
            have ht2 : a5.tmps.getD 2 undef = .pointer (some ⟨w.heap.size + 1, 0, none⟩) := ht1
            exact ⟨_, res18 ht2 h4, by rw [F.out]; rfl, h5⟩
          case pos =>
            have hd : decide (cmpPair lx ly r.sect r.place < 0) = true := decide_eq_true hc
            have HD := Pack.mk hd
            clear hc
            go_wp2_with fail
            refine cmp_yes bL (wr.heap.size + 1) lx ly r.sect r.place _ ((wr.alloc (.cells #[.int .i64 r.sect, .int .i64 r.place, .int .i64 r.kind, .int .i64 r.sym, .int .i64 r.add] 67)).alloc (.cells #[.int .i64 r.sect, .int .i64 r.place] 83)) _ rfl rfl rfl rfl (l0 _ ⟨rfl, rfl, rfl, rfl⟩) (l1 _ ⟨rfl, rfl, rfl, rfl⟩) (by go_simp) (by go_simp) hd ?_
            intro w2 hs2
            have K2 := Pack.mk (KA.out.still hs2)
            have LB2 : w2.heap[bL]? = some (.cells #[.int .i64 lx, .int .i64 ly] 83 (0, 0)) := by rw [hs2.1]; exact LA.out
            have T82 : Pack (w2.heap[wr.heap.size]? = some (.cells #[.int .i64 r.sect, .int .i64 r.place, .int .i64 r.kind, .int .i64 r.sym, .int .i64 r.add] 67 (0, 0))) := ⟨by rw [hs2.1]; exact T8.out⟩
            have T9 : w2.heap[wr.heap.size + 1]? = some (.cells #[.int .i64 r.sect, .int .i64 r.place] 83 (0, 0)) := by
              rw [hs2.1]
              have := heap_alloc_new (wr.alloc (.cells #[.int .i64 r.sect, .int .i64 r.place, .int .i64 r.kind, .int .i64 r.sym, .int .i64 r.add] 67)) (.cells #[.int .i64 r.sect, .int .i64 r.place] 83)
              rwa [show (wr.alloc (.cells #[.int .i64 r.sect, .int .i64 r.place, .int .i64 r.kind, .int .i64 r.sym, .int .i64 r.add] 67)).heap.size = wr.heap.size + 1 by simp] at this
            clear l0 l1 hs2 hd KA LA T8
            have q0 : w2.cell? ⟨wr.heap.size + 1, 0, none⟩ = some (.int .i64 r.sect) := by simp [World.cell?, T9]
            have q1 : w2.cell? ⟨wr.heap.size + 1, 1, none⟩ = some (.int .i64 r.place) := by simp [World.cell?, T9]
            have l0 : w2.cell? ⟨bL, 0, none⟩ = some (.int .i64 lx) := by simp [World.cell?, LB2]
            have l1 : w2.cell? ⟨bL, 1, none⟩ = some (.int .i64 ly) := by simp [World.cell?, LB2]
            have z0 : w2.frozen? ⟨bL, 0, none⟩ = false := by simp [World.frozen?, LB2]
            have z1 : w2.frozen? ⟨bL, 1, none⟩ = false := by simp [World.frozen?, LB2]
            have ne1 : (bL = wr.heap.size + 1) = False := eq_false (by omega)
            have ne2 : (wr.heap.size + 1 = bL) = False := eq_false (by omega)
            go_upto_region 18 with fail
            have K3 : Pack (Ck w bx ((w2.setCell ⟨bL, 0, none⟩ (.int .i64 r.sect)).setCell ⟨bL, 1, none⟩ (.int .i64 r.place))) := ⟨(K2.out.set ⟨bL, 0, none⟩ LK.out _).set ⟨bL, 1, none⟩ LK.out _⟩
            have L3 : Pack (((w2.setCell ⟨bL, 0, none⟩ (.int .i64 r.sect)).setCell ⟨bL, 1, none⟩ (.int .i64 r.place)).heap[bL]? = some (.cells #[.int .i64 r.sect, .int .i64 r.place] 83 (0, 0))) := ⟨by simp [World.setCell, Array.getElem?_modify, LB2]⟩
            have T83 : ((w2.setCell ⟨bL, 0, none⟩ (.int .i64 r.sect)).setCell ⟨bL, 1, none⟩ (.int .i64 r.place)).heap[wr.heap.size]? = some (.cells #[.int .i64 r.sect, .int .i64 r.place, .int .i64 r.kind, .int .i64 r.sym, .int .i64 r.add] 67 (0, 0)) := by
              have : bL ≠ wr.heap.size := by omega
              simpa [World.setCell, Array.getElem?_modify, this] using T82.out
            have hb4 : ((w2.setCell ⟨bL, 0, none⟩ (.int .i64 r.sect)).setCell ⟨bL, 1, none⟩ (.int .i64 r.place)).heap[w.heap.size]? = some (.cells #[.slice a0 o.text.length c0, .slice a1 o.data.length c1, .slice a2 o.syms.length c2, .slice (some a) o.rels.length c3] 28 (0, 0)) := by rw [← HBX.out]; exact K3.out.box
            obtain ⟨y0, y1, y2, y3⟩ := four_at hb4
            obtain ⟨⟨x0, x1, x2, x3, x4⟩, -⟩ := five_at T83
            have hdec : relFits o r = (decide (0 ≤ r.sym) && (decide (r.sym < o.syms.length) && (decide (-2147483648 ≤ r.add) && decide (r.add < 2147483648)))) := rfl
            have RF := Pack.mk hdec
            clear hb4 T83 LB2 T9 q0 q1 l0 l1 z0 z1 ne1 ne2 hdec
            by_cases f0 : 0 ≤ r.sym
            case neg =>
              have hf : relFits o r = false := by rw [RF.out, decide_eq_false f0]; rfl
              have F : Pack (good o = false) := ⟨bad.out (by rw [RO.out, hf]; simp)⟩
              go_wp2_with fail
              refine (need_no _).mono ?_
              rintro e w3 ⟨rfl, rfl⟩
              refine leaves_cons (f := 38) (args := #[.pointer (some ⟨w.heap.size + 1, 0, none⟩)]) (by simp) (by simp [go_sem]) ?_
              refine (CC.out _ K3.out).mono ?_
              rintro e u' w'' ⟨rfl, rfl, h4, h5⟩
              simp [Leaves, settle, results, Tryz.results18, go_sem, h4]
              exact ⟨by rw [F.out], h5⟩
            by_cases f1 : r.sym < o.syms.length
            case neg =>
              have hf : relFits o r = false := by rw [RF.out, decide_eq_false f1]; simp
              have F : Pack (good o = false) := ⟨bad.out (by rw [RO.out, hf]; simp)⟩
              go_wp2_with fail
              refine (need_no _).mono ?_
              rintro e w3 ⟨rfl, rfl⟩
              refine leaves_cons (f := 38) (args := #[.pointer (some ⟨w.heap.size + 1, 0, none⟩)]) (by simp) (by simp [go_sem]) ?_
              refine (CC.out _ K3.out).mono ?_
              rintro e u' w'' ⟨rfl, rfl, h4, h5⟩
              simp [Leaves, settle, results, Tryz.results18, go_sem, h4]
              exact ⟨by rw [F.out], h5⟩
            by_cases f2 : -2147483648 ≤ r.add
            case neg =>
              have hf : relFits o r = false := by rw [RF.out, decide_eq_false f2]; simp
              have F : Pack (good o = false) := ⟨bad.out (by rw [RO.out, hf]; simp)⟩
              go_wp2_with fail
              refine (need_no _).mono ?_
              rintro e w3 ⟨rfl, rfl⟩
              refine leaves_cons (f := 38) (args := #[.pointer (some ⟨w.heap.size + 1, 0, none⟩)]) (by simp) (by simp [go_sem]) ?_
              refine (CC.out _ K3.out).mono ?_
              rintro e u' w'' ⟨rfl, rfl, h4, h5⟩
              simp [Leaves, settle, results, Tryz.results18, go_sem, h4]
              exact ⟨by rw [F.out], h5⟩
            by_cases f3 : r.add < 2147483648
            case neg =>
              have hf : relFits o r = false := by rw [RF.out, decide_eq_false f3]; simp
              have F : Pack (good o = false) := ⟨bad.out (by rw [RO.out, hf]; simp)⟩
              go_wp2_with fail
              refine (need_no _).mono ?_
              rintro e w3 ⟨rfl, rfl⟩
              refine leaves_cons (f := 38) (args := #[.pointer (some ⟨w.heap.size + 1, 0, none⟩)]) (by simp) (by simp [go_sem]) ?_
              refine (CC.out _ K3.out).mono ?_
              rintro e u' w'' ⟨rfl, rfl, h4, h5⟩
              simp [Leaves, settle, results, Tryz.results18, go_sem, h4]
              exact ⟨by rw [F.out], h5⟩
            have HF : Pack (relFits o r = true) := ⟨by rw [RF.out, decide_eq_true f0, decide_eq_true f1, decide_eq_true f2, decide_eq_true f3]; rfl⟩
            go_wp2_with fail
            refine (need_yes _).mono ?_
            rintro e w3 ⟨rfl, rfl⟩
            go_wp2_with fail
            have SC := relocation_calls B a0 a1 a2 (some a) o.data.length o.syms.length o.rels.length c0 c1 c2 c3 o.text r ((w2.setCell ⟨bL, 0, none⟩ (.int .i64 r.sect)).setCell ⟨bL, 1, none⟩ (.int .i64 r.place)) (P0.out.step K3.out.below) PX.out (by omega) (by omega)
            generalize hs : relocV o.text o.data.length r = q at SC
            cases q with
            | false =>
              have F : Pack (good o = false) := ⟨bad.out (by rw [RO.out, hs]; simp)⟩
              clear hs
              refine SC.mono ?_
              rintro e w3 ⟨rfl, h3⟩
              have K4 := Pack.mk (K3.out.step h3)
              clear h3
              refine leaves_cons (f := 38) (args := #[.pointer (some ⟨w.heap.size + 1, 0, none⟩)]) (by simp) (by simp [go_sem]) ?_
              refine (CC.out _ K4.out).mono ?_
              rintro e u' w'' ⟨rfl, rfl, h4, h5⟩
              simp [Leaves, settle, results, Tryz.results18, go_sem, h4]
              exact ⟨by rw [F.out], h5⟩
            | true =>
              have SN : Pack ((List.range (j + 1)).all (relOk o) = true) := ⟨all_succ RY.out (by rw [RO.out, HD.out, HF.out, hs]; rfl)⟩
              clear hs
              refine SC.mono ?_
              rintro e w3 ⟨rfl, h3⟩
              have K4 := Pack.mk (K3.out.step h3)
              have L4 : Pack (w3.heap[bL]? = some (.cells #[.int .i64 (relLast o (j + 1)).1, .int .i64 (relLast o (j + 1)).2] 83 (0, 0))) := ⟨by
                rw [RN.out]
                exact (h3.block _ (Array.getElem?_eq_some_iff.1 L3.out).1).trans L3.out⟩
              clear h3 x0 x1 x2 x3 x4 y0 y1 y2 y3 f0 f1 f2 f3
              go_wp2_with fail
              go_roundg (gk - 1)
              case measure => omega
              case rel => exact ⟨j + 1, by omega, by go_num, ⟨K4.out, L4.out, SN.out⟩⟩
    · have hlt : (i : Int) < (o.syms.length : Int) := by omega
      have h1 : i < o.syms.length := by omega
      obtain ⟨a, rfl, _, _, ca⟩ := (P2.out.step PA.out.1.below).elem encSym 5 encSym_len (by decide) i h1
      obtain ⟨p0, p1, p2, p3, p4⟩ := cells5 ca rfl
      clear ca
      generalize hxi : o.syms[i] = x at p0 p1 p2 p3 p4
      have PE := Pack.mk hxi
      clear hxi
      have SO : Pack (symOk o i = (nameOk x.name && ((!((o.syms.take i).map SymV.name).any fun n => decide (n = x.name)) && symbolV o.text.length o.data.length x))) := ⟨by
        unfold symOk
        rw [List.getElem?_eq_getElem h1, PE.out]⟩
      have bad : Pack (symOk o i = false → good o = false) := ⟨fun h => by
        unfold good
        rw [all_below h1 h]
        simp⟩
      obtain ⟨WA, hWA⟩ : ∃ WA, wr.alloc (.cells #[.string x.name, .int .i64 x.sect, .int .i64 x.value, .int .i64 x.frame, .bool x.glob] 41) = WA := ⟨_, rfl⟩
      have MA : Pack (WA.heap[w.heap.size + 2]? = some (.map (names ((o.syms.take i).map SymV.name)) ((o.syms.take i).map SymV.name).length)) := ⟨by rw [← hWA]; exact (Below.heap_alloc _ _ _ (Array.getElem?_eq_some_iff.1 PA.out.2.1).1).trans PA.out.2.1⟩
      have KA : Pack (Ck w bx WA) := ⟨by rw [← hWA]; exact PA.out.1.alloc _⟩
      have XA : Pack (WA.heap[wr.heap.size]? = some (.cells #[.string x.name, .int .i64 x.sect, .int .i64 x.value, .int .i64 x.frame, .bool x.glob] 41 (0, 0)) ∧ w.heap.size + 2 < wr.heap.size) := ⟨by rw [← hWA]; exact heap_alloc_new wr _, (Array.getElem?_eq_some_iff.1 PA.out.2.1).1⟩
      by_cases hn : x.name ∈ (o.syms.take i).map SymV.name
      case pos =>
        have F : Pack (good o = false) := ⟨bad.out (by rw [SO.out, show (((o.syms.take i).map SymV.name).any fun n => decide (n = x.name)) = true from List.any_eq_true.2 ⟨x.name, hn, decide_eq_true rfl⟩]; simp)⟩
        have l1 := lookS_some WA _ _ x.name MA.out hn
        obtain ⟨w2, hrun, hg, l2⟩ := updS_old WA _ _ x.name (.int .i64 2) MA.out hn
        have K2 := Pack.mk (KA.out.grown hg (Nat.le_refl _))
        have X2 := Pack.mk ((hg.block _ (Array.getElem?_eq_some_iff.1 XA.out.1).1 (by have := XA.out.2; intro e; have := Option.some.inj e; omega)).trans XA.out.1)
        obtain ⟨⟨x0, x1, x2, x3, x4⟩, -⟩ := five_at X2.out
        have HR := Pack.mk hrun
        clear hrun hg hn
        subst hWA
        go_wp2_with (at_mapUpdate; refine wpList_upd _ rfl _ _ _ _ rfl _ _ _ rfl rfl rfl w2 HR.out ?_)
        refine (name_calls _ _).mono ?_
        rintro e w3 ⟨rfl, rfl⟩
        generalize hq : nameOk x.name = q
        clear hq
        cases q with
        | false =>
          go_wp2_with fail
          refine (need_no _).mono ?_
          rintro e w3 ⟨rfl, rfl⟩
          refine leaves_cons (f := 38) (args := #[.pointer (some ⟨w.heap.size + 1, 0, none⟩)]) (by simp) (by simp [go_sem]) ?_
          refine (CC.out _ K2.out).mono ?_
          rintro e u' w'' ⟨rfl, rfl, h4, h5⟩
          simp [Leaves, settle, results, Tryz.results18, go_sem, h4]
          exact ⟨by rw [F.out], h5⟩
        | true =>
          go_wp2_with fail
          refine (need_no _).mono ?_
          rintro e w3 ⟨rfl, rfl⟩
          refine leaves_cons (f := 38) (args := #[.pointer (some ⟨w.heap.size + 1, 0, none⟩)]) (by simp) (by simp [go_sem]) ?_
          refine (CC.out _ K2.out).mono ?_
          rintro e u' w'' ⟨rfl, rfl, h4, h5⟩
          simp [Leaves, settle, results, Tryz.results18, go_sem, h4]
          exact ⟨by rw [F.out], h5⟩
      case neg =>
        have l1 := lookS_none WA _ _ x.name MA.out hn
        obtain ⟨w2, hw2⟩ : ∃ w2, setBlock WA (w.heap.size + 2) (.map (names ((o.syms.take i).map SymV.name ++ [x.name])) ((o.syms.take i).map SymV.name ++ [x.name]).length) = w2 := ⟨_, rfl⟩
        have HR : Pack (Sem.run Tryz.prog (Instr.mapUpdate 81 (.map (some (w.heap.size + 2))) (.string x.name) (.int .i64 1)) WA = .ok () w2) := ⟨by rw [← hw2]; exact updS_new WA _ _ x.name MA.out hn⟩
        have hlb : w.heap.size + 2 < WA.heap.size := (Array.getElem?_eq_some_iff.1 MA.out).1
        have hg : WA.grownBy w2 (some (w.heap.size + 2)) := by
          rw [← hw2]
          refine ⟨rfl, rfl, rfl, by simp [setBlock], fun j hj hne => ?_⟩
          have hne' : w.heap.size + 2 ≠ j := fun e => hne (by rw [e])
          simp [setBlock, hne']
        have M2 : Pack (w2.heap[w.heap.size + 2]? = some (.map (names ((o.syms.take i).map SymV.name ++ [x.name])) ((o.syms.take i).map SymV.name ++ [x.name]).length)) := ⟨by rw [← hw2]; simp [setBlock, hlb]⟩
        have l2 := lookS_some w2 _ _ x.name M2.out (by simp)
        have K2 := Pack.mk (KA.out.grown hg (Nat.le_refl _))
        have X2 := Pack.mk ((hg.block _ (Array.getElem?_eq_some_iff.1 XA.out.1).1 (by have := XA.out.2; intro e; have := Option.some.inj e; omega)).trans XA.out.1)
        obtain ⟨⟨x0, x1, x2, x3, x4⟩, -⟩ := five_at X2.out
        have NN : Pack ((!((o.syms.take i).map SymV.name).any fun n => decide (n = x.name)) = true) := ⟨by
          rw [Bool.not_eq_true', List.any_eq_false]
          intro n hm
          simp only [decide_eq_true_iff]
          intro e
          exact hn (e ▸ hm)⟩
        clear hg hn hw2 hlb
        subst hWA
        go_wp2_with (at_mapUpdate; refine wpList_upd _ rfl _ _ _ _ rfl _ _ _ rfl rfl rfl w2 HR.out ?_)
        refine (name_calls _ _).mono ?_
        rintro e w3 ⟨rfl, rfl⟩
        generalize hq : nameOk x.name = q
        cases q with
        | false =>
          have F : Pack (good o = false) := ⟨bad.out (by rw [SO.out, hq]; rfl)⟩
          clear hq
          go_wp2_with fail
          refine (need_no _).mono ?_
          rintro e w3 ⟨rfl, rfl⟩
          refine leaves_cons (f := 38) (args := #[.pointer (some ⟨w.heap.size + 1, 0, none⟩)]) (by simp) (by simp [go_sem]) ?_
          refine (CC.out _ K2.out).mono ?_
          rintro e u' w'' ⟨rfl, rfl, h4, h5⟩
          simp [Leaves, settle, results, Tryz.results18, go_sem, h4]
          exact ⟨by rw [F.out], h5⟩
        | true =>
          have NQ := Pack.mk hq
          clear hq
          go_wp2_with fail
          refine (need_yes _).mono ?_
          rintro e w3 ⟨rfl, rfl⟩
          have hb4 : w2.heap[w.heap.size]? = some (.cells #[.slice a0 o.text.length c0, .slice a1 o.data.length c1, .slice (some a) o.syms.length c2, .slice a3 o.rels.length c3] 28 (0, 0)) := by rw [← HBX.out]; exact K2.out.box
          obtain ⟨y0, y1, y2, y3⟩ := four_at hb4
          clear hb4
          go_wp2_with fail
          have SC := symbol_calls a0 a1 (some a) a3 o.text.length o.data.length o.syms.length o.rels.length c0 c1 c2 c3 x w2
          generalize hs : symbolV o.text.length o.data.length x = q at SC
          cases q with
          | false =>
            have F : Pack (good o = false) := ⟨bad.out (by rw [SO.out, hs]; simp)⟩
            clear hs
            refine SC.mono ?_
            rintro e w3 ⟨rfl, h3⟩
            have K3 := Pack.mk (K2.out.step h3)
            clear h3
            refine leaves_cons (f := 38) (args := #[.pointer (some ⟨w.heap.size + 1, 0, none⟩)]) (by simp) (by simp [go_sem]) ?_
            refine (CC.out _ K3.out).mono ?_
            rintro e u' w'' ⟨rfl, rfl, h4, h5⟩
            simp [Leaves, settle, results, Tryz.results18, go_sem, h4]
            exact ⟨by rw [F.out], h5⟩
          | true =>
            have SN : Pack ((List.range (i + 1)).all (symOk o) = true) := ⟨all_succ PA.out.2.2 (by rw [SO.out, NQ.out, NN.out, hs]; rfl)⟩
            clear hs
            refine SC.mono ?_
            rintro e w3 ⟨rfl, h3⟩
            have K3 := Pack.mk (K2.out.step h3)
            have M3 : Pack (w3.heap[w.heap.size + 2]? = some (.map (names ((o.syms.take (i + 1)).map SymV.name)) ((o.syms.take (i + 1)).map SymV.name).length)) := ⟨by
              rw [List.take_add_one, List.getElem?_eq_getElem h1, PE.out, List.map_append]
              exact (h3.block _ (Array.getElem?_eq_some_iff.1 M2.out).1).trans M2.out⟩
            clear h3 x0 x1 x2 x3 x4 y0 y1 y2 y3 l1 l2
            go_wp2_with fail
            go_roundg (gk - 1)
            case measure => omega
            case rel => exact ⟨i + 1, by omega, by go_num, ⟨K3.out, M3.out, SN.out⟩⟩
end Go.Proofs.YtgcpnjckbdajbaaGreatDoor.Ob
