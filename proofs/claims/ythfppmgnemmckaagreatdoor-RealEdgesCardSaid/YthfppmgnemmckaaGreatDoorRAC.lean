import Derived.Test.YthfppmgnemmckaaGreatDoorRAB
namespace Go.Proofs.YthfppmgnemmckaaGreatDoor.PDo
open Go.RowKit Go.Proofs.YthfppmgnemmckaaGreatDoorW.PrintWords Go.Proofs.YthfppmgnemmckaaGreatDoorW.PrintLast Go.Proofs.YthfppmgnemmckaaGreatDoorW.PrintMore

set_option maxRecDepth 100000 in
theorem special_calls (w : World) : Calls Tryz.prog 73 #[.string ⟨#[49, 46, 53, 101, 49]⟩] w fun e w' => e = .returned (.tuple #[.float .f64 0, .int .i64 0, .bool false]) ∧ w = w' := by
  have b0 : ((⟨#[49, 46, 53, 101, 49]⟩ : ByteArray)[0]'(by decide)).toNat = 49 := rfl
  go_enter Tryz.func73, Tryz.ntmps73
  go_wp2
  go_ret3
  exact ⟨rfl, rfl⟩
theorem float15 : floatOfInt .f64 15 = 4624633867356078080 := by decide +kernel
set_option maxHeartbeats 1000000 in
set_option maxRecDepth 100000 in
theorem exact_calls (w : World) (h : w.cell? ⟨5, 0, none⟩ = some (.int .u64 52)) : Calls Tryz.prog 84 #[.int .u64 15, .int .i64 0, .bool false] w fun e w' => e = .returned (.tuple #[.float .f64 4624633867356078080, .bool true]) ∧ w = w' := by
  have hf := float15
  go_enter Tryz.func84, Tryz.ntmps84
  go_wp2
  go_ret2
  exact ⟨rfl, rfl⟩
set_option maxHeartbeats 1000000 in
set_option maxRecDepth 100000 in
theorem atof64_calls (w : World) (h : w.cell? ⟨5, 0, none⟩ = some (.int .u64 52)) (ho : w.cell? ⟨4, 0, none⟩ = some (.bool true)) : Calls Tryz.prog 67 #[.string ⟨#[49, 46, 53, 101, 49]⟩] w fun e w' => e = .returned (.tuple #[.float .f64 4624633867356078080, .int .i64 5, .nilIface]) ∧ w = w' := by
  have H := Aside0.mk h
  clear h
  go_enter Tryz.func67, Tryz.ntmps67
  go_wp2_with fail
  refine (special_calls _).mono ?_
  rintro e w1 ⟨rfl, rfl⟩
  go_wp2_with fail
  refine (readFloat_calls _).mono ?_
  rintro e w1 ⟨rfl, rfl⟩
  go_wp2_with (first | (go_at_call 84; refine (exact_calls _ H.out).mono ?_; rintro e w1 ⟨rfl, rfl⟩) | (go_at_call 82; go_in))
  go_ret3
  exact ⟨rfl, rfl⟩
set_option maxHeartbeats 1000000 in
theorem pfp_calls (w : World) (h : w.cell? ⟨5, 0, none⟩ = some (.int .u64 52)) (ho : w.cell? ⟨4, 0, none⟩ = some (.bool true)) : Calls Tryz.prog 56 #[.string ⟨#[49, 46, 53, 101, 49]⟩, .int .i64 64] w fun e w' => e = .returned (.tuple #[.float .f64 4624633867356078080, .int .i64 5, .nilIface]) ∧ w = w' := by
  have H := Aside0.mk h
  have HO := Aside0.mk ho
  clear h ho
  go_enter Tryz.func56, Tryz.ntmps56
  go_wp2_with fail
  refine (atof64_calls _ H.out HO.out).mono ?_
  rintro e w1 ⟨rfl, rfl⟩
  go_wp2_with fail
  go_ret3
  exact ⟨rfl, rfl⟩
set_option maxHeartbeats 1000000 in
theorem ipf_calls (w : World) (h : w.cell? ⟨5, 0, none⟩ = some (.int .u64 52)) (ho : w.cell? ⟨4, 0, none⟩ = some (.bool true)) : Calls Tryz.prog 44 #[.string ⟨#[49, 46, 53, 101, 49]⟩, .int .i64 64] w fun e w' => e = .returned (.tuple #[.float .f64 4624633867356078080, .nilIface]) ∧ w = w' := by
  have H := Aside0.mk h
  have HO := Aside0.mk ho
  clear h ho
  go_enter Tryz.func44, Tryz.ntmps44
  go_wp2_with fail
  refine (pfp_calls _ H.out HO.out).mono ?_
  rintro e w1 ⟨rfl, rfl⟩
  go_wp2_with fail
  go_ret2
  exact ⟨rfl, rfl⟩
set_option maxHeartbeats 1000000 in
theorem spf_calls (w : World) (h : w.cell? ⟨5, 0, none⟩ = some (.int .u64 52)) (ho : w.cell? ⟨4, 0, none⟩ = some (.bool true)) : Calls Tryz.prog 29 #[.string ⟨#[49, 46, 53, 101, 49]⟩, .int .i64 64] w fun e w' => e = .returned (.tuple #[.float .f64 4624633867356078080, .nilIface]) ∧ w = w' := by
  have H := Aside0.mk h
  have HO := Aside0.mk ho
  clear h ho
  go_enter Tryz.func29, Tryz.ntmps29
  go_wp2_with fail
  refine (ipf_calls _ H.out HO.out).mono ?_
  rintro e w1 ⟨rfl, rfl⟩
  go_wp2_with fail
  go_ret2
  exact ⟨rfl, rfl⟩
theorem cell_later {w w1 : World} (hb : Below w.heap.size w w1) {a : Addr} {v : Value} (h : w.cell? a = some v) : w1.cell? a = some v := pw_cell_below hb h
set_option maxHeartbeats 1000000 in
set_option maxRecDepth 100000 in
theorem cut1 (w : World) : Calls Tryz.prog 28 #[.string ⟨#[46, 53, 101, 49]⟩, .string ⟨#[46]⟩] w fun e w' => e = .returned (.tuple #[.string ⟨#[53, 101, 49]⟩, .bool true]) ∧ w = w' := by
  have e1 : ((⟨#[46, 53, 101, 49]⟩ : ByteArray).extract 0 1) = ⟨#[46]⟩ := by decide +kernel
  have e2 : ((⟨#[46, 53, 101, 49]⟩ : ByteArray).extract 1 4) = ⟨#[53, 101, 49]⟩ := by decide +kernel
  have e3 : (⟨#[46]⟩ : ByteArray).toList = [46] := by decide +kernel
  go_enter Tryz.func28, Tryz.ntmps28
  go_wp2
  go_ret2
  exact ⟨rfl, rfl⟩
set_option maxHeartbeats 1000000 in
set_option maxRecDepth 100000 in
theorem cut2 (w : World) : Calls Tryz.prog 28 #[.string ⟨#[101, 49]⟩, .string ⟨#[101]⟩] w fun e w' => e = .returned (.tuple #[.string ⟨#[49]⟩, .bool true]) ∧ w = w' := by
  have e1 : ((⟨#[101, 49]⟩ : ByteArray).extract 0 1) = ⟨#[101]⟩ := by decide +kernel
  have e2 : ((⟨#[101, 49]⟩ : ByteArray).extract 1 2) = ⟨#[49]⟩ := by decide +kernel
  have e3 : (⟨#[101]⟩ : ByteArray).toList = [101] := by decide +kernel
  go_enter Tryz.func28, Tryz.ntmps28
  go_wp2
  go_ret2
  exact ⟨rfl, rfl⟩
set_option maxHeartbeats 2000000 in
set_option maxRecDepth 100000 in
theorem parse_calls (w : World) (h : w.cell? ⟨5, 0, none⟩ = some (.int .u64 52)) (ho : w.cell? ⟨4, 0, none⟩ = some (.bool true)) : Calls Tryz.prog 13 #[.string ⟨#[49, 46, 53, 101, 49]⟩] w fun e w' => e = .returned (.tuple #[.int .u64 4624633867356078080, .int .i64 0]) ∧ Below w.heap.size w w' := by
  have H := Aside0.mk h
  have HO := Aside0.mk ho
  have hb0 : ((⟨#[49]⟩ : ByteArray)[0]'(by decide)).toNat = 49 := rfl
  clear h ho
  go_enter Tryz.func13, Tryz.ntmps13
  go_wp2_with fail
  refine (dg1 _).mono ?_
  rintro e w1 ⟨rfl, hd⟩
  have HB1 := Aside0.mk hd
  clear hd
  go_wp2_with fail
  refine (cut1 _).mono ?_
  rintro e w2 ⟨rfl, rfl⟩
  go_wp2_with fail
  refine (dg2 _).mono ?_
  rintro e w3 ⟨rfl, hd⟩
  have HB3 := Aside0.mk (below_step HB1.out hd)
  clear hd HB1
  go_wp2_with fail
  refine (cut2 _).mono ?_
  rintro e w4 ⟨rfl, rfl⟩
  go_wp2_with fail
  refine (dg3 _).mono ?_
  rintro e w5 ⟨rfl, hd⟩
  have HB5 := Aside0.mk (below_step HB3.out hd)
  clear hd HB3
  go_wp2_with fail
  refine (spf_calls _ (cell_later HB5.out H.out) (cell_later HB5.out HO.out)).mono ?_
  rintro e w6 ⟨rfl, rfl⟩
  go_wp2_with fail
  refine (bits_calls _ _).mono ?_
  rintro e w7 ⟨rfl, rfl⟩
  go_wp2_with fail
  go_ret2
  exact ⟨rfl, HB5.out⟩
end Go.Proofs.YthfppmgnemmckaaGreatDoor.PDo
