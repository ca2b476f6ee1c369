import Derived.Test.YtgcpnjckbdajbaaGreatDoorQA
import Derived.RangeFuncBox
import Derived.TacticsInMore
import Derived.LoopIn
import Derived.RegionIn
import Derived.RangeFuncCalls
import Derived.RangeFuncOwn
import Derived.Stop.RegionWithIn
namespace Go.Proofs.YtgcpnjckbdajbaaGreatDoor.Ob
open Go.RowKit Go.Sort
attribute [local go_sem] Oper.semAt_some

/-- the k-th eight bytes -/
def chunkV (ao : Option Addr) (k : Nat) : Value := .slice (ao.map fun a => a.add (8 * k)) 8 8
def BoxKept (a : Nat) (W W' : World) : Prop := W'.heap[a]? = W.heap[a]? ∧ W'.heap[a + 1]? = W.heap[a + 1]?
set_option maxRecDepth 100000 in
set_option maxHeartbeats 4000000 in
theorem chunk_seq (a : Nat) (ad : Addr) (n c : Nat) (w0 : World) (h0 : w0.heap[a]? = some (.cells #[.slice (some ad) n c] 24 (0, 0))) (h1 : w0.heap[a + 1]? = some (.cells #[.int .i64 8] 3 (0, 0))) (hn : n % 8 = 0) (hn2 : n ≤ 65536) (hc : n ≤ c) :
    SeqStopsK Fence.wide (6 - 1) Tryz.prog 60 #[.pointer (some ⟨a, 0, none⟩), .pointer (some ⟨a + 1, 0, none⟩)] (fun k : Fin (n / 8) => #[chunkV (some ad) k.val]) (BoxKept a) (fun xs => xs.map Fin.val = List.range (n / 8)) (fun _ => True) (n / 8) w0 := by
  intro l J Jx W hb hJ hJx hY hs
  have PX := Pack.mk hY
  have PJ := Pack.mk hJ
  clear hY hJ hJx
  have H0 : W.heap[a]? = some (.cells #[.slice (some ad) n c] 24 (0, 0)) := (hb.block _ (Array.getElem?_eq_some_iff.1 h0).1).trans h0
  have H1 : W.heap[a + 1]? = some (.cells #[.int .i64 8] 3 (0, 0)) := (hb.block _ (Array.getElem?_eq_some_iff.1 h1).1).trans h1
  clear h0 h1 hb
  refine callsIn_of_wp Tryz.func60 rfl trivial ?_ rfl
  simp only [Tryz.ntmps60, List.size_toArray, List.length_cons, List.length_nil, Nat.reduceAdd, Nat.reduceSub, Array.replicate_succ, Array.replicate_zero, List.push_toArray, List.append_toArray, List.nil_append, List.cons_append]
  gi_wp2
  gi_loopw [4, 5] (fun i _ wr => ∃ (k : Nat) (pre : List (Fin (n / 8))), 8 * k ≤ n ∧ i = .int .i64 ((8 * k : Nat) : Int) ∧ pre.map Fin.val = List.range k ∧ J pre wr ∧ wr.heap[a]? = some (.cells #[.slice (some ad) n c] 24 (0, 0)) ∧ wr.heap[a + 1]? = some (.cells #[.int .i64 8] 3 (0, 0)))
    (fun i _ _ => n - (intOf i).toNat)
  case atStart => exact ⟨0, [], by omega, rfl, rfl, hs, H0, H1⟩
  case round =>
    obtain ⟨k, pre, hk, rfl, hpre, hJs, B0, B1⟩ := hrel
    have hlen : pre.length = k := by have := congrArg List.length hpre; simpa using this
    have c0 : wr.cell? ⟨a, 0, none⟩ = some (.slice (some ad) n c) := by simp [World.cell?, B0]
    have c1 : wr.cell? ⟨a + 1, 0, none⟩ = some (.int .i64 8) := by simp [World.cell?, B1]
    by_cases hlt : 8 * k < n
    · have hlt' : (((8 * k : Nat) : Int) < (n : Int)) := by omega
      have hk8 : k < n / 8 := by omega
      have hJd : J pre wr.drew := PJ.out _ _ _ none hJs ⟨rfl, rfl, rfl, Nat.le_refl _, fun _ _ _ => rfl⟩ (fun r e => by cases e)
      obtain ⟨fn, tmps, assign, body, hy, hR⟩ := PX.out _ ⟨k, hk8⟩ wr.drew hJd (by omega)
      obtain ⟨m, hm⟩ : ∃ m, 8 * k = m := ⟨_, rfl⟩
      rw [hm] at hlt' ⊢
      have hv : chunkV (some ad) k = .slice (some (ad.add m)) 8 8 := by
        unfold chunkV
        rw [Option.map_some, hm]
      rw [hv] at hy
      have hmin : min (8 : Int) ((n - m : Nat) : Int) = 8 := by omega
      have hmin2 : min (8 : Int) ((n : Int) - (m : Int)) = 8 := by omega
      gi_wp2
      gi_region
      gi_wp2
      refine hR.mono ?_
      rintro e W3 (⟨rfl, hJ3, k0, k1⟩ | ⟨rfl, hJx3⟩)
      · have B30 : W3.heap[a]? = some (.cells #[.slice (some ad) n c] 24 (0, 0)) := k0.trans B0
        have B31 : W3.heap[a + 1]? = some (.cells #[.int .i64 8] 3 (0, 0)) := k1.trans B1
        have d1 : W3.cell? ⟨a + 1, 0, none⟩ = some (.int .i64 8) := by simp [World.cell?, B31]
        clear c0 c1
        gi_wp2
        go_roundw
        case rel => exact ⟨k + 1, pre ++ [⟨k, hk8⟩], by omega, by congr 1; omega, by rw [List.map_append, hpre, List.range_succ]; rfl, hJ3, B30, B31⟩
        case measure => simp [intOf]; omega
      · gi_wp2
        refine bodyPost_ret (results_none rfl _ _ _) rfl ?_
        exact ⟨⟨_, rfl⟩, .inr ⟨_, trivial, hJx3⟩⟩
    · have hlt' : ¬ (((8 * k : Nat) : Int) < (n : Int)) := by omega
      gi_wp2
      go_end0
      exact ⟨⟨_, rfl⟩, Or.inl ⟨pre, by rw [hpre, show n / 8 = k by omega], hJs⟩⟩
set_option maxRecDepth 100000 in
theorem chunk_zero (a : Nat) (ao : Option Addr) (c : Nat) (w0 : World) (h0 : w0.heap[a]? = some (.cells #[.slice ao 0 c] 24 (0, 0))) :
    SeqStopsK Fence.wide (6 - 1) Tryz.prog 60 #[.pointer (some ⟨a, 0, none⟩), .pointer (some ⟨a + 1, 0, none⟩)] (fun k : Fin (0 / 8) => #[chunkV ao k.val]) (BoxKept a) (fun xs => xs.map Fin.val = List.range (0 / 8)) (fun _ => True) (0 / 8) w0 := by
  intro l J Jx W hb _ _ _ hs
  have B0 : W.heap[a]? = some (.cells #[.slice ao 0 c] 24 (0, 0)) := (hb.block _ (Array.getElem?_eq_some_iff.1 h0).1).trans h0
  have c0 : W.cell? ⟨a, 0, none⟩ = some (.slice ao 0 c) := by simp [World.cell?, B0]
  clear h0 hb B0
  refine (callsIn_wide (n := 6 - 1)).2 ?_
  go_enter Tryz.func60, Tryz.ntmps60
  go_wp2_with fail
  go_loopg [4] 0 (fun kq v4 wr => v4 = .int .i64 0 ∧ wr = W)
  case atStart => exact ⟨rfl, rfl⟩
  case round =>
    obtain ⟨rfl, rfl⟩ := hrel
    go_wp2_with fail
    go_end0
    exact ⟨⟨_, rfl⟩, .inl ⟨[], rfl, hs⟩⟩
theorem chunk_any (a : Nat) (ao : Option Addr) (n c : Nat) (w0 : World) (h0 : w0.heap[a]? = some (.cells #[.slice ao n c] 24 (0, 0))) (h1 : w0.heap[a + 1]? = some (.cells #[.int .i64 8] 3 (0, 0))) (hn : n % 8 = 0) (hn2 : n ≤ 65536) (hc : n ≤ c) (hz : n = 0 ∨ ∃ ad, ao = some ad) :
    SeqStopsK Fence.wide (6 - 1) Tryz.prog 60 #[.pointer (some ⟨a, 0, none⟩), .pointer (some ⟨a + 1, 0, none⟩)] (fun k : Fin (n / 8) => #[chunkV ao k.val]) (BoxKept a) (fun xs => xs.map Fin.val = List.range (n / 8)) (fun _ => True) (n / 8) w0 := by
  rcases hz with rfl | ⟨ad, rfl⟩
  · exact chunk_zero a ao c w0 h0
  · exact chunk_seq a ad n c w0 h0 h1 hn hn2 hc
end Go.Proofs.YtgcpnjckbdajbaaGreatDoor.Ob
