import Derived.Test.YtgcpnjckbdajbaaGreatDoorOB
namespace Go.Proofs.YtgcpnjckbdajbaaGreatDoor.Ob
open Go.RowKit Go.Sort

theorem numTail_take (xs : List Int) (i : Nat) (hi : i < xs.length) : numTail (xs.take (i + 1)) = numTail (xs.take i) ++ (32 :: Lib.itoa xs[i]) := by
  unfold numTail
  rw [List.take_add_one, List.getElem?_eq_getElem hi, List.flatMap_append]
  simp only [Option.toList_some, List.flatMap_cons, List.flatMap_nil, List.append_nil]
theorem numTail_le (xs : List Int) (i : Nat) : (numTail (xs.take i)).length ≤ (numTail xs).length := by
  have h := congrArg List.length (congrArg numTail (List.take_append_drop i xs))
  unfold numTail at *
  rw [List.flatMap_append, List.length_append] at h
  omega
theorem Bld.step {B b : Nat} {l l' : List UInt8} {w0 w w' : World} (h : Bld B b l w0 w) (k : Bld B b l' w w') : Bld B b l' w0 w' :=
  ⟨k.is, h.below.trans k.below, h.kept.trans k.kept⟩
theorem tab_below {B g : Nat} {n : String} {k : IntKind} {zs : List Int} {w w' : World} (hn : Tryz.prog.globalNamed n = some g) (hg : g < B) (h : Below B w w') (t : Lib.TabIs Tryz.prog w n k zs) : Lib.TabIs Tryz.prog w' n k zs := by
  unfold Lib.TabIs World.var? at *
  rw [hn] at t ⊢
  simp only [Option.bind_some] at t ⊢
  rw [h.block g hg]
  exact t
theorem tabN : Tryz.prog.globalNamed "internal/strconv.uint64pow10" = some 1 := by kernel_rfl
abbrev Tab (w : World) : Prop := Lib.TabIs Tryz.prog w "internal/strconv.uint64pow10" .u64 Lib.pow10Tab
theorem Bld.itoa {B b : Nat} {l : List UInt8} {w0 w : World} (h : Bld B b l w0 w) (hB : B ≤ w0.heap.size) (n : Int) (h0 : -9223372036854775808 ≤ n ∧ n ≤ 9223372036854775807) (t : Tab w) :
    Calls Tryz.prog 36 #[.int .i64 n] w fun e w' => e = .returned (.string ⟨(Lib.itoa n).toArray⟩) ∧ Bld B b l w0 w' := by
  refine (Tryz.strconv_Itoa n h0.1 h0.2 w t).mono ?_
  rintro e w' ⟨rfl, k, os, rfl⟩
  exact ⟨rfl, h.grew hB k os⟩
set_option maxRecDepth 100000 in
set_option maxHeartbeats 1000000 in
theorem line_calls (B b : Nat) (l : List UInt8) (word : ByteArray) (xs : List Int) (ao : Option Addr) (cap : Nat) (w : World) (H : Lib.IsBuilderF 73 5 B b (Lib.byteCells l) w) (hB : B ≤ w.heap.size) (hx : IntsAt b w ao xs)
    (hr : ∀ x ∈ xs, -9223372036854775808 ≤ x ∧ x ≤ 9223372036854775807) (hm : xs.length ≤ 1000) (hB1 : 1 < B)
    (htab : Tab w) (hlen : (l ++ lineText word.data.toList xs).length ≤ 140737488355328) :
    Calls Tryz.prog 33 #[.pointer (some ⟨b, 0, none⟩), .string word, .slice ao xs.length cap] w fun e w' => e = .returned (.tuple #[]) ∧ Bld B b (l ++ lineText word.data.toList xs) w w' := by
  have PH : Pack (Bld B b l w w) := ⟨⟨H, Below.refl _ _, Lib.OthersKept.refl _ _ _⟩⟩
  have PB := Pack.mk hB
  have PX := Pack.mk hx
  have PR := Pack.mk hr
  have PT := Pack.mk htab
  have PL := Pack.mk hlen
  have PB1 := Pack.mk hB1
  clear H hB hx hr htab hlen hB1
  go_enter Tryz.func33, Tryz.ntmps33
  go_wp2_with fail
  refine (PH.out.string PB.out word (by have := PL.out; simp only [lineText, List.length_append] at this; have e : word.size = word.data.toList.length := (Array.length_toList).symm; omega)).mono ?_
  rintro e w1 ⟨rfl, h1⟩
  have PH1 := Pack.mk h1
  clear h1
  go_wp2_with fail
  go_loopg [7, 15] xs.length (fun kq v7 v15 wr => ∃ i : Nat, i + kq = xs.length ∧ v15 = .int .i64 i ∧ Pack (Bld B b (l ++ word.data.toList ++ numTail (xs.take i)) w wr))
  case atStart => exact ⟨0, by omega, rfl, ⟨by simpa [numTail] using PH1.out⟩⟩
  case round =>
    obtain ⟨i, hi, rfl, HR⟩ := hrel
    by_cases hk : gk = 0
    · subst hk
      have hlt : ¬ ((i : Int) < (xs.length : Int)) := by omega
      go_wp2_with fail
      have ei : i = xs.length := by omega
      subst ei
      refine (HR.out.byte PB.out ?_).mono ?_
      · have h1 := PL.out
        simp only [List.take_length, lineText, List.length_append, List.length_cons, List.length_nil] at h1 ⊢
        omega
      · rintro e w2 ⟨rfl, h2⟩
        go_wp2
        go_end0
        refine ⟨rfl, ?_⟩
        simpa [lineText, List.append_assoc] using h2
    · have hlt : (i : Int) < (xs.length : Int) := by omega
      have hi' : i < xs.length := by omega
      obtain ⟨R, rfl, hcell⟩ := (PX.out.kept HR.out.kept).cell hi'
      have hxr := PR.out xs[i] (List.getElem_mem hi')
      have hsz : (l ++ word.data.toList ++ numTail (xs.take i)).length + ((⟨#[32]⟩ : ByteArray) ++ ⟨(Lib.itoa xs[i]).toArray⟩).size ≤ 140737488355328 := by
        have h1 := PL.out
        have h2 := numTail_le xs (i + 1)
        rw [numTail_take xs i hi'] at h2
        have h3 : ((⟨#[32]⟩ : ByteArray) ++ ⟨(Lib.itoa xs[i]).toArray⟩).size = 1 + (Lib.itoa xs[i]).length := by
          rw [ByteArray.size_append]; rfl
        simp only [lineText, List.length_append, List.length_cons, List.length_nil] at h1 h2 ⊢
        omega
      have hcat : ((⟨#[32]⟩ : ByteArray).size + (⟨(Lib.itoa xs[i]).toArray⟩ : ByteArray).size) ≤ maxLen := by
        have h1 := PL.out
        have h2 := numTail_le xs (i + 1)
        rw [numTail_take xs i hi'] at h2
        have h3 : (⟨(Lib.itoa xs[i]).toArray⟩ : ByteArray).size = (Lib.itoa xs[i]).length := rfl
        have h4 : (⟨#[32]⟩ : ByteArray).size = 1 := rfl
        simp only [lineText, List.length_append, List.length_cons, List.length_nil] at h1 h2
        unfold maxLen
        omega
      have hc1 : ((⟨#[32]⟩ : ByteArray).size + (⟨(Lib.itoa xs[i]).toArray⟩ : ByteArray).size > 9223372036854775807) = False := eq_false (by unfold maxLen at hcat; omega)
      have hc2 : (9223372036854775807 < (⟨#[32]⟩ : ByteArray).size + (⟨(Lib.itoa xs[i]).toArray⟩ : ByteArray).size) = False := hc1
      have hc3 : (9223372036854775807 < 1 + (Lib.itoa xs[i]).length) = False := hc1
      have hT : Pack (Tab wr) := ⟨tab_below tabN PB1.out HR.out.below PT.out⟩
      go_wp2_with fail
      go_region_with (first | (go_at_call 36; refine (HR.out.drew.itoa PB.out _ hxr hT.out).mono ?_; rintro e w2 ⟨rfl, h2⟩; have P2 := Pack.mk h2; clear h2) | (go_at_call 56; refine (P2.out.string PB.out _ hsz).mono ?_; rintro e w3 ⟨rfl, h3⟩; have P3 := Pack.mk h3; clear h3))
      all_goals
        have P4 : Pack (Bld B b (l ++ word.data.toList ++ numTail (xs.take (i + 1))) w w3) := ⟨by
          have h := P3.out
          rw [numTail_take xs i hi']
          have e : ((⟨#[32]⟩ : ByteArray) ++ ⟨(Lib.itoa xs[i]).toArray⟩).data.toList = 32 :: Lib.itoa xs[i] := by
            rw [ByteArray.data_append]; simp
          rw [e] at h
          simpa [List.append_assoc] using h⟩
        clear P3
        go_wp2_with fail
        go_roundg (gk - 1)
        case measure => omega
        case rel => exact ⟨i + 1, by omega, by go_num, P4⟩
end Go.Proofs.YtgcpnjckbdajbaaGreatDoor.Ob
