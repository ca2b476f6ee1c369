/-
What the rows of the laws on objects share: what their listed variables hold, how the world reads behind a call that leaves what lay below.
-/
import Derived.Test.YtgcpnjckbdajbaaGreatDoorQE
import Derived.Test.YtgcpnjckbdajbaaGreatDoorCards
import Derived.Test.YtgcpnjckbdajbaaGreatDoorTie
import Derived.ProofKit
import Derived.OpenShut
import Derived.Deep.DeepHandedRow
import Derived.LaidMore
import Derived.Lay
import Derived.Stop.Joined
import Derived.ChangeMaps5
namespace Go.Proofs.YtgcpnjckbdajbaaGreatDoor.Row
open Go.ChangeShapes Go.WideShapes Go.ChangeAt Go.RowKit
open Go.ChangeMaps (open_string shut_string)

theorem post_of_below {H : Type} {enc : TypeId × Value → H} {P : Program} {f : Func} {s : ChangeSpec} {apart fresh handsOn again : Bool} {W W' : World} {args : Array Value} {v : Value} {ds gs : List (DataW H)} {before pa pv : List MemPlace}
    (hW : DataW.Whole enc P f.params.toList s.vars apart W args.toList ds gs before)
    (hres : ∀ (b : Nat) (sp : Nat → Bool) (hd : Bool), DataW.TrodAll enc P W' b sp hd f.resultTypes.toList (v.resultList f.resultTypes.size) (s.fn H (ds ++ gs)).results [])
    (hargs : ∀ sp : Nat → Bool, (∀ p ∈ before, sp p.block = true) → DataW.TrodAll enc P W' 0 sp true f.params.toList args.toList (s.fn H (ds ++ gs)).args pa)
    (hvars : ∀ sp : Nat → Bool, (∀ p ∈ before, sp p.block = true) → DataW.TrodVars enc P W' sp s.vars (s.fn H (ds ++ gs)).vars pv)
    (hps : before = pa ++ pv) (hb : Below W.heap.size W W')
    (hok : ∀ (j : Nat) (t : TypeId) (r : Value), f.resultTypes[j]? = some t → (v.resultList f.resultTypes.size)[j]? = some r → Value.okWide P W' .any 0 t r) :
    s.post enc P f apart fresh handsOn again W args v W' := by
  have hold : ∀ p ∈ before, (fun b => decide (b < W.heap.size)) p.block = true := fun p hp => by simpa using hW.lt p hp
  have hlt : ∀ p ∈ before, p.block < W.heap.size := fun p hp => hW.lt p hp
  refine ⟨ds, gs, before, [], pa, pv, hW, hres _ _ _, hargs _ hold, hvars _ hold, World.keptBut_mono (fun p hp => ⟨hp, ?_⟩) (hb.frame _), fun _ => ?_⟩
  · rw [hps, List.mem_append] at hp
    exact Or.inr hp
  · obtain ⟨_, _, _, _, _, hz, hn⟩ := hW
    refine ⟨hok, _, _, ([] ++ pa) ++ pv, ⟨[] ++ pa, pv, trodAll_append (hargs _ (fun _ _ => rfl)) (hres _ _ _), hvars _ (fun _ _ => rfl), rfl, ?_, ?_⟩, ?_⟩
    · intro b off hp
      have hp' : MemPlace.cell b off ∈ before := by rw [hps]; simpa using hp
      rw [hb.frozen (p := ⟨b, off, none⟩) (hlt _ hp')]
      exact hz b off hp'
    · intro ha
      have := hn ha
      rw [hps] at this
      simpa using this
    · intro p hp _
      rw [hps]
      simpa using hp

theorem own : ownKnob Tryz.prog.godebug = none := by kernel_rfl
abbrev L : List (String × DataW Unit) := Rows.objOneRow.laid
theorem tab {W : World} (h : laidMetH Tryz.prog L W) : Ob.Tab W := by
  rw [MakeChecks.laidMetH_plain _ _ _ (by kernel_rfl)] at h
  obtain ⟨ps, ⟨_, _, _, _, _, _, _, _, _, _, ⟨_, _, _, _, _, _, _, _, _, _, ⟨g, t, cs, fuel, p, q, hg, ht, hv, hd, _, _⟩, _⟩, _⟩, _, _⟩ := h
  obtain rfl := Option.some.inj ((show Tryz.prog.globalNamed "internal/strconv.uint64pow10" = some 1 by kernel_rfl).symm.trans hg)
  obtain rfl := Option.some.inj ((show (Tryz.prog.globals[1]?).map (·.type) = some 179 by kernel_rfl).symm.trans ht)
  have c58 : Tryz.prog.cellsOf 58 = 1 := by kernel_rfl
  have c179 : Tryz.prog.cellsOf 179 = 20 := by kernel_rfl
  have hd' : DataW.trod (fun _ => ()) Tryz.prog W 0 (fun _ => true) false fuel 179 cs.toList = some (Lib.tabData .u64 Lib.pow10Tab, p) := hd
  show W.var? Tryz.prog _ = _
  rw [hv, ← Lib.cells_of_tab Tryz.underlying179 Tryz.underlying58 c58 c179 hd']
theorem room {W : World} (h : Ob.Tab W) : 1 < W.heap.size := by
  have h' : W.var? Tryz.prog "internal/strconv.uint64pow10" = _ := h
  unfold World.var? at h'
  rw [Ob.tabN] at h'
  simp only [Option.bind_some] at h'
  by_cases hlt : 1 < W.heap.size
  · exact hlt
  · rw [Array.getElem?_eq_none (by omega)] at h'
    cases h'
theorem maxLen_cell {W : World} (h : W.ShapedOpen Tryz.prog) : ∃ m, W.cell? ⟨0, 0, none⟩ = some (.int .i64 m) := Tryz.laysM146.s1_3 W h
set_option maxRecDepth 100000 in
theorem tab64 {W : World} (h : laidMetH Tryz.prog L W) : Ob.Tab64 W := by
  rw [MakeChecks.laidMetH_plain _ _ _ (by kernel_rfl)] at h
  obtain ⟨ps, ⟨_, _, _, _, _, _, _, _, _, _, ⟨g, t, cs, fuel, p, q, hg, ht, hv, hd, _, _⟩, _⟩, _, _⟩ := h
  obtain rfl := Option.some.inj ((show Tryz.prog.globalNamed "math/bits.deBruijn64tab" = some 7 by kernel_rfl).symm.trans hg)
  obtain rfl := Option.some.inj ((show (Tryz.prog.globals[7]?).map (·.type) = some 199 by kernel_rfl).symm.trans ht)
  have c5 : Tryz.prog.cellsOf 5 = 1 := by kernel_rfl
  have c199 : Tryz.prog.cellsOf 199 = 64 := by kernel_rfl
  obtain ⟨zs, hz, h15⟩ : ∃ zs : List Int, (Lib.tabData .u8 zs : DataW Unit) = Rows.laid_math_bits_deBruijn64tab ∧ zs[15]? = some 4 := ⟨Lib.deBruijn64tab.map Int.ofNat, by kernel_rfl, by kernel_rfl⟩
  have hd' : DataW.trod (fun _ => ()) Tryz.prog W 0 (fun _ => true) false fuel 199 cs.toList = some (Lib.tabData .u8 zs, p) := by rw [hz]; exact hd
  have e := Lib.cells_of_tab Tryz.underlying199 Tryz.underlying5 c5 c199 hd'
  have := World.var?_cell (show Tryz.prog.globalNamed "math/bits.deBruijn64tab" = some 7 by kernel_rfl) hv 15
  show W.cell? ⟨7, 15, none⟩ = _
  rw [this, ← Array.getElem?_toList, e, List.getElem?_map, h15]
  rfl
set_option maxRecDepth 100000 in
theorem room64 {W : World} (h : Ob.Tab64 W) : 7 < W.heap.size := by
  have h' : W.cell? ⟨7, 15, none⟩ = some (.int .u8 4) := h
  by_cases hlt : 7 < W.heap.size
  · exact hlt
  · simp [World.cell?, Array.getElem?_eq_none (show W.heap.size ≤ 7 by omega)] at h'
section
variable {H : Type} {enc : TypeId × Value → H} {W : World} {sp : Nat → Bool} {held : Bool}
set_option maxRecDepth 100000 in
theorem cap_obj {r : Reach} {b0 : Nat} {v : Value} {d : DataW H} {ps : List MemPlace} (hval : Value.okWide Tryz.prog W r b0 28 v) (h : DataW.Trod enc Tryz.prog W 0 sp held 28 v d ps) : Ob.CapOk v := by
  obtain ⟨cs, rfl, hsz⟩ := okWide_struct Tryz.underlying28 hval
  rw [show Tryz.prog.cellsOf 28 = 4 by kernel_rfl] at hsz
  obtain ⟨n, h⟩ := h
  obtain ⟨y0, y1, y2, y3, n, hx, hl, f0, f1, f2, f3⟩ := Go.Joins.trod_struct4 Tryz.underlying28 h
  obtain ⟨v0, v1, v2, v3, rfl⟩ := Go.Joins.array4 hsz
  have c24 : Tryz.prog.cellsOf 24 = 1 := by kernel_rfl
  simp only [c24] at f1
  rcases Go.Deep.open_slice Tryz.underlying24 f1 with ⟨e, _⟩ | ⟨a, len, cap, m, n, D, Pl, e, _, hlc, _⟩
  · simp [Value.cells] at e
    exact ⟨v0, v2, v3, none, 0, 0, by rw [e], Nat.le_refl _⟩
  · simp [Value.cells] at e
    exact ⟨v0, v2, v3, some a, len, cap, by rw [e], hlc⟩
end
end Go.Proofs.YtgcpnjckbdajbaaGreatDoor.Row
