import Derived.Test.YthfppmgnemmckaaGreatDoorRAA
import Derived.WalkMore
namespace Go.Proofs.YthfppmgnemmckaaGreatDoor.PDo
open Go.RowKit Go.Proofs.YthfppmgnemmckaaGreatDoorW.PrintWords Go.Proofs.YthfppmgnemmckaaGreatDoorW.PrintLast Go.Proofs.YthfppmgnemmckaaGreatDoorW.PrintMore

set_option maxHeartbeats 2000000 in
set_option maxRecDepth 100000 in
theorem readFloat_calls (w : World) : Calls Tryz.prog 74 #[.string ⟨#[49, 46, 53, 101, 49]⟩] w fun e w' => e = .returned (.tuple #[.int .u64 15, .int .i64 0, .bool false, .bool false, .bool false, .int .i64 5, .bool true]) ∧ w = w' := by
  have b0 : ((⟨#[49, 46, 53, 101, 49]⟩ : ByteArray)[0]'(by decide)).toNat = 49 := rfl
  have b1 : ((⟨#[49, 46, 53, 101, 49]⟩ : ByteArray)[1]'(by decide)).toNat = 46 := rfl
  have b2 : ((⟨#[49, 46, 53, 101, 49]⟩ : ByteArray)[2]'(by decide)).toNat = 53 := rfl
  have b3 : ((⟨#[49, 46, 53, 101, 49]⟩ : ByteArray)[3]'(by decide)).toNat = 101 := rfl
  have b4 : ((⟨#[49, 46, 53, 101, 49]⟩ : ByteArray)[4]'(by decide)).toNat = 49 := rfl
  go_enter Tryz.func74, Tryz.ntmps74
  go_wp2
  go_step3
  go_wp2
  go_step3
  go_wp2
  go_loopg [2, 5, 7, 9, 13, 14, 15, 16, 17] 3 (fun kq v2 v5 v7 v9 v13 v14 v15 v16 v17 wr => wr = w ∧ ((kq = 3 ∧ v2 = .int .u64 0 ∧ v5 = .bool false ∧ v7 = .int .i64 0 ∧ v9 = .bool false ∧ v13 = .bool false ∧ v14 = .bool false ∧ v15 = .int .i64 0 ∧ v16 = .int .i64 0 ∧ v17 = .int .i64 0) ∨ (kq = 2 ∧ v2 = .int .u64 1 ∧ v5 = .bool false ∧ v7 = .int .i64 1 ∧ v9 = .bool false ∧ v13 = .bool false ∧ v14 = .bool true ∧ v15 = .int .i64 1 ∧ v16 = .int .i64 1 ∧ v17 = .int .i64 0) ∨ (kq = 1 ∧ v2 = .int .u64 1 ∧ v5 = .bool false ∧ v7 = .int .i64 2 ∧ v9 = .bool false ∧ v13 = .bool true ∧ v14 = .bool true ∧ v15 = .int .i64 1 ∧ v16 = .int .i64 1 ∧ v17 = .int .i64 1) ∨ (kq = 0 ∧ v2 = .int .u64 15 ∧ v5 = .bool false ∧ v7 = .int .i64 3 ∧ v9 = .bool false ∧ v13 = .bool true ∧ v14 = .bool true ∧ v15 = .int .i64 2 ∧ v16 = .int .i64 2 ∧ v17 = .int .i64 1)))
  case atStart => exact ⟨rfl, .inl ⟨rfl, rfl, rfl, rfl, rfl, rfl, rfl, rfl, rfl, rfl⟩⟩
  case round =>
    obtain ⟨hw, ⟨rfl, rfl, rfl, rfl, rfl, rfl, rfl, rfl, rfl, rfl⟩ | ⟨rfl, rfl, rfl, rfl, rfl, rfl, rfl, rfl, rfl, rfl⟩ | ⟨rfl, rfl, rfl, rfl, rfl, rfl, rfl, rfl, rfl, rfl⟩ | ⟨rfl, rfl, rfl, rfl, rfl, rfl, rfl, rfl, rfl, rfl⟩⟩ := hrel <;> subst hw
    · go_wp2
      go_roundg 2
      case measure => omega
      case rel => exact ⟨rfl, .inr (.inl ⟨rfl, rfl, rfl, rfl, rfl, rfl, rfl, rfl, rfl, rfl⟩)⟩
    · go_wp2
      go_roundg 1
      case measure => omega
      case rel => exact ⟨rfl, .inr (.inr (.inl ⟨rfl, rfl, rfl, rfl, rfl, rfl, rfl, rfl, rfl, rfl⟩))⟩
    · go_wp2
      go_roundg 0
      case measure => omega
      case rel => exact ⟨rfl, .inr (.inr (.inr ⟨rfl, rfl, rfl, rfl, rfl, rfl, rfl, rfl, rfl, rfl⟩))⟩
    · go_wp2
      go_loopg [7, 9, 20] 1 (fun kq v7 v9 v20 w2 => w2 = wr ∧ ((kq = 1 ∧ v7 = .int .i64 4 ∧ v9 = .bool false ∧ v20 = .int .i64 0) ∨ (kq = 0 ∧ v7 = .int .i64 5 ∧ v9 = .bool false ∧ v20 = .int .i64 1)))
      case atStart => exact ⟨rfl, .inl ⟨rfl, rfl, rfl, rfl⟩⟩
      case round =>
        obtain ⟨rfl, ⟨rfl, rfl, rfl, rfl⟩ | ⟨rfl, rfl, rfl, rfl⟩⟩ := hrel
        · go_wp2
          go_roundg 0
          case measure => omega
          case rel => exact ⟨rfl, .inr ⟨rfl, rfl, rfl, rfl⟩⟩
        · go_wp2
          try rw [Exit.noGoto_ret]
          refine bodyPost_ret (v := .tuple #[.int .u64 15, .int .i64 0, .bool false, .bool false, .bool false, .int .i64 5, .bool true]) ?_ rfl ⟨rfl, rfl⟩
          simp [results, Tryz.results74]
end Go.Proofs.YthfppmgnemmckaaGreatDoor.PDo
