import Derived.Below
import Derived.Laws.AppendOwn
import Derived.Deep.RegionLaw
namespace Go.Proofs.YtgcpnjckbdajbaaGreatDoor.Ob
open Go.RowKit

/-- cells from an address on, in a block from B on; where there are no cells nothing is asked of the address -/
def Lies (B : Nat) (w : World) (ao : Option Addr) (cs : List Value) : Prop := ∀ j u, cs[j]? = some u → ∃ a, ao = some a ∧ B ≤ a.block ∧ a.block < w.heap.size ∧ w.cell? (a.add j) = some u

theorem add_block (a : Addr) (j : Nat) : (a.add j).block = a.block := by unfold Addr.add; split <;> rfl

theorem Lies.keep {B : Nat} {w w' : World} {ao : Option Addr} {cs : List Value} (h : Lies B w ao cs) (hs : w.heap.size ≤ w'.heap.size) (hb : ∀ k, B ≤ k → k < w.heap.size → w'.heap[k]? = w.heap[k]?) : Lies B w' ao cs := fun j u hj => by
  obtain ⟨a, e, h0, hl, c⟩ := h j u hj
  refine ⟨a, e, h0, Nat.lt_of_lt_of_le hl hs, ?_⟩
  rw [← c]
  exact World.cell?_of_block (w := w) (by rw [add_block]; exact hb _ h0 hl)

theorem Lies.step {B : Nat} {w w' : World} {ao : Option Addr} {cs : List Value} (h : Lies B w ao cs) (hb : Below w.heap.size w w') : Lies B w' ao cs := h.keep hb.size fun k _ hk => hb.block k hk

theorem Lies.mono {B B' : Nat} {w : World} {ao : Option Addr} {cs : List Value} (h : Lies B w ao cs) (hB : B' ≤ B) : Lies B' w ao cs := fun j u hj => by
  obtain ⟨a, e, h0, hl, c⟩ := h j u hj
  exact ⟨a, e, Nat.le_trans hB h0, hl, c⟩

theorem Lies.nil (B : Nat) (w : World) (ao : Option Addr) : Lies B w ao [] := fun j u h => by simp at h

/-- append of a slice, nil and empty ones too, onto an empty one without room -/
theorem append_fresh {P : Program} (w : World) (t ty e : TypeId) (i : TypeInfo) (z : Value) (ht : P.underlying t = some (.slice e)) (hi : P.info? e = some i) (hz : i.zero = some z)
    (hzs : z.cells.size = i.size) (hsz : 0 < i.size) (B : Nat) (ao bo : Option Addr) (m c : Nat) (cs : List Value) (hl : cs.length = m * i.size) (hL : Lies B w bo cs) (h1 : ∀ u ∈ cs, u.oneCell' = true) (b1 : m ≤ maxLen) (b2 : m * i.bytes ≤ 140737488355328) :
    ∃ ao' c' w', (Builtin.append_ #[t, t] ty #[.slice ao 0 0, .slice bo m c]).run P w = .ok (.slice ao' m c') w' ∧ Lies w.heap.size w' ao' cs ∧ Below w.heap.size w w' := by
  by_cases hm : m = 0
  · subst hm
    obtain rfl : cs = [] := List.eq_nil_of_length_eq_zero (by simpa using hl)
    refine ⟨ao, 0, w, ?_, fun j u h => by simp at h, Below.refl _ _⟩
    cases ao <;> cases bo <;> simp [Builtin.append_, run_underlying ht, sizeOf, typeInfo, hi, Builtin.lenOf, Builtin.firstCells, loadCells, loadCellsFrom, storeCells]
  · have h0 : 0 < cs.length := by rw [hl]; exact Nat.mul_pos (by omega) hsz
    obtain ⟨b, rfl, _, hlt, _⟩ := hL 0 cs[0] (List.getElem?_eq_getElem h0)
    have hc : ∀ j u, cs[j]? = some u → w.cell? (b.add j) = some u := fun j u h => by
      obtain ⟨b', e', _, _, h'⟩ := hL j u h
      cases e'
      exact h'
    obtain ⟨v', w', hrun, hown, hg, _⟩ := run_append_own (P := P) w w.heap.size t ty e i z i.size i.bytes ht hi hz rfl rfl hzs hsz (.slice none 0 0) 0 [] (World.ownsRow_nil w _ e i.size) b m c cs hl hc h1 (by omega) (by simpa using b2) (Nat.le_refl _)
    have h63 : ¬ (9223372036854775807 < (m : Int)) := by simp only [maxLen] at b1; omega
    have h48 : ¬ (281474976710656 < Builtin.nextslicecap m 0 * i.bytes) := by
      have : Builtin.nextslicecap m 0 = m := by unfold Builtin.nextslicecap; rw [if_pos (by omega)]
      rw [this]; omega
    have e : (Builtin.append_ #[t, t] ty #[.slice ao 0 0, .slice (some b) m c]).run P w = (Builtin.append_ #[t, t] ty #[.slice none 0 0, .slice (some b) m c]).run P w := by
      cases ao <;> simp [Builtin.append_, run_underlying ht, sizeOf, typeInfo, hi, Builtin.lenOf, hm, h63, h48, Builtin.firstCells, loadCells, loadCellsFrom]
    rcases hown.2 with ⟨_, h⟩ | ⟨g, cap, cur, rfl, _⟩
    · omega
    · refine ⟨some ⟨g, 0, none⟩, cap, w', by rw [e, hrun, Nat.zero_add], fun j u hj => ?_, (Below.refl _ w).grown hg (Nat.le_refl _) (fun k hk => by cases hk)⟩
      refine ⟨_, rfl, (hown.lt g rfl).1, (hown.lt g rfl).2, ?_⟩
      exact hown.cells (g := g) rfl j u (by simpa using hj)
end Go.Proofs.YtgcpnjckbdajbaaGreatDoor.Ob
