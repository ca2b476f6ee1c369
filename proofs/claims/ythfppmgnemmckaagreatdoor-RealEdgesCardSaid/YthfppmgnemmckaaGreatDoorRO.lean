import Derived.Test.YthfppmgnemmckaaGreatDoorRN
import Derived.Lib.Hide
namespace Go.Proofs.YthfppmgnemmckaaGreatDoor.PDo
open Go.RowKit Go.Proofs.YthfppmgnemmckaaGreatDoorW.PrintWords Go.Proofs.YthfppmgnemmckaaGreatDoorW.PrintLast Go.Proofs.YthfppmgnemmckaaGreatDoorW.PrintMore

set_option maxHeartbeats 1000000 in
set_option maxRecDepth 100000 in
theorem nearest_zero {w : World} {v u : Value} {L : Nat} (h : NumC w v 0 L) (e : Int) : Calls Tryz.prog 23 #[v, u, .int .i64 e] w fun e' w' => e' = .returned (.int .u64 0) ∧ Below w.heap.size w w' := by
  obtain ⟨l, A, c, rfl, h1, h2, h3, h4, h5⟩ := h
  have hl : l = [] := by
    by_cases hne : l = []
    · exact hne
    · exfalso
      have ⟨h0, hv⟩ := val_top h3 hne
      have hz := h3.2 hne
      have hx := h3.1.at ((l.length : Int) - 1)
      have : 0 < 65536 ^ (l.length - 1) * (rd l ((l.length : Int) - 1)).toNat := Nat.mul_pos (Nat.pow_pos (by omega)) (by omega)
      omega
  subst hl
  go_enter Tryz.func23, Tryz.ntmps23
  go_wp2
  go_ret
  exact ⟨rfl, Below.refl _ _⟩

theorem bits_bound {w : World} {v : Value} {a L : Nat} (h : NumC w v a L) : RM.bits a ≤ 16 * L := by
  obtain ⟨l, A, c, rfl, h1, h2, h3, h4, h5⟩ := h
  have h0 := val_lt h3.1
  rw [h4] at h0
  by_cases ha : a = 0
  · subst ha; simp [RM.bits]
  have hlt : a < 2 ^ (16 * L) := by
    calc a < 65536 ^ l.length := h0
      _ ≤ 65536 ^ L := Nat.pow_le_pow_right (by omega) h5
      _ = 2 ^ (16 * L) := by rw [show (65536 : Nat) = 2 ^ 16 from rfl, ← Nat.pow_mul]
  have := RM.bits_le ha
  rcases Nat.lt_or_ge (16 * L) (RM.bits a) with hh | hh
  · exfalso
    have : 2 ^ (16 * L) ≤ 2 ^ (RM.bits a - 1) := Nat.pow_le_pow_right (by omega) (by omega)
    omega
  · exact hh

theorem twice_int {w : World} {v : Value} {n L : Nat} (h : NumD w v n L) (hL : L ≤ 20000) (i : Int) (h0 : 0 ≤ i) (hm : i ≤ 50000) : Calls Tryz.prog 35 #[v, .int .i64 i] w fun e w' => ∃ v', e = .returned v' ∧ NumD w' v' (2 ^ i.toNat * n) (L + i.toNat / 16 + 1) ∧ Below w.heap.size w w' := by
  obtain ⟨m, rfl⟩ := Int.eq_ofNat_of_zero_le h0
  exact twice_num h hL m (by omega)
theorem up_pos {w : World} {v : Value} {a L : Nat} {e Lx : Int} (_hc : 0 < e - Lx) (h : NumD w v (2 ^ (e - Lx).toNat * a) L) : NumD w v (RM.up a e Lx) L := by
  unfold RM.up; rw [Nat.mul_comm]; exact h
theorem dn_pos' {w : World} {v : Value} {b L : Nat} {e Lx : Int} (hc : 0 < e - Lx) (h : NumD w v b L) : NumD w v (RM.dn b e Lx) L := by
  unfold RM.dn; rw [show (Lx - e).toNat = 0 from by omega, Nat.pow_zero, Nat.mul_one]; exact h
theorem up_neg {w : World} {v : Value} {a L : Nat} {e Lx : Int} (hc : ¬ 0 < e - Lx) (h : NumD w v a L) : NumD w v (RM.up a e Lx) L := by
  unfold RM.up; rw [show (e - Lx).toNat = 0 from by omega, Nat.pow_zero, Nat.mul_one]; exact h
theorem dn_neg {w : World} {v : Value} {b L : Nat} {e Lx : Int} (_hc : ¬ 0 < e - Lx) (h : NumD w v (2 ^ (-(e - Lx)).toNat * b) L) : NumD w v (RM.dn b e Lx) L := by
  unfold RM.dn; rw [Nat.mul_comm, show (Lx - e).toNat = (-(e - Lx)).toNat from by omega]; exact h
/-- at the head of a round: the first guess, or the place above it -/
def Head (a b : Nat) (e up : Int) (g : Nat) : Prop :=
  (g = 2 ∧ up = 53 - RM.bits a + RM.bits b) ∨ (g = 1 ∧ e - up = RM.guess a b e + 1 ∧ 2 ^ 53 ≤ RM.up a e (RM.guess a b e) / RM.dn b e (RM.guess a b e))
theorem Head.start (a b : Nat) (e : Int) : Head a b e (53 - RM.bits a + RM.bits b) 2 := .inl ⟨rfl, rfl⟩
theorem Head.bounds {a b : Nat} {e up : Int} {g L M : Nat} (h : Head a b e up g) (h1 : RM.bits a ≤ 16 * L) (h2 : RM.bits b ≤ 16 * M) (he : -10000 ≤ e) (he' : e ≤ 10000) (hL : L ≤ 1000) (hM : M ≤ 1000) : -17000 ≤ up ∧ up ≤ 17000 := by
  rcases h with ⟨_, h⟩ | ⟨_, h, _⟩
  · omega
  · unfold RM.guess at h; omega
theorem Head.quot {a b : Nat} {e up Lx : Int} {g : Nat} (h : Head a b e up g) (hL : Lx = max (e - up) (-1074)) (hb : b ≠ 0) : RM.up a e Lx / RM.dn b e Lx < 2 ^ 54 := by
  rcases h with ⟨_, h⟩ | ⟨_, h, h2⟩
  · have : Lx = RM.guess a b e := by unfold RM.guess; omega
    rw [this]; exact RM.guess_lt a b hb e
  · have hg : -1074 ≤ RM.guess a b e := by unfold RM.guess; omega
    have : Lx = RM.guess a b e + 1 := by omega
    rw [this, RM.half_step]
    have := RM.guess_lt a b hb e
    omega
theorem Head.next {a b : Nat} {e up Lx : Int} {g : Nat} (h : Head a b e up g) (hL : Lx = max (e - up) (-1074)) (hq : ¬ RM.up a e Lx / RM.dn b e Lx < 9007199254740992) (hb : b ≠ 0) : g = 2 ∧ Lx = RM.guess a b e := by
  rcases h with ⟨h0, h⟩ | ⟨_, h, h2⟩
  · exact ⟨h0, by unfold RM.guess; omega⟩
  · exfalso
    have hg : -1074 ≤ RM.guess a b e := by unfold RM.guess; omega
    have : Lx = RM.guess a b e + 1 := by omega
    rw [this, RM.half_step] at hq
    have := RM.guess_lt a b hb e
    omega
theorem Head.again {a b : Nat} {e up Lx : Int} {g : Nat} (h : Head a b e up g) (hL : Lx = max (e - up) (-1074)) (hq : ¬ RM.up a e Lx / RM.dn b e Lx < 9007199254740992) (hb : b ≠ 0) : Head a b e (e - Lx - 1) 1 := by
  have h1 := (h.next hL hq hb).2
  refine .inr ⟨rfl, by omega, ?_⟩
  rw [h1] at hq; omega
theorem wrap_q {q : Nat} (h : q < 2 ^ 54) : wrap64 ((q : Int) + 1) = ((q + 1 : Nat) : Int) := by rw [w64 (by omega) (by omega)]; omega
/-- what the comparison of twice the rest tells -/
theorem rne_of {X Y : Nat} {sg : Int} (_hY : 0 < Y) (h : sgnOf (2 ^ (1 : Int).toNat * (X % Y)) Y = sg) :
    (0 < sg → X / Y + 1 = RM.rne X Y) ∧ (sg = 0 → X / Y % 2 = 1 → X / Y + 1 = RM.rne X Y) ∧ (sg = 0 → ¬ X / Y % 2 = 1 → X / Y = RM.rne X Y) ∧ (sg < 0 → X / Y = RM.rne X Y) := by
  unfold RM.rne
  rw [show 2 ^ (1 : Int).toNat = 2 from rfl] at h
  unfold sgnOf at h
  by_cases h1 : 2 * (X % Y) < Y
  · rw [if_pos h1] at h
    refine ⟨fun _ => by omega, fun _ => by omega, fun _ => by omega, fun _ => ?_⟩
    rw [if_neg (by omega)]; rfl
  · rw [if_neg h1] at h
    by_cases h2 : 2 * (X % Y) = Y
    · rw [if_pos h2] at h
      refine ⟨fun _ => by omega, fun _ h3 => ?_, fun _ h3 => ?_, fun _ => by omega⟩
      · rw [if_pos (.inr ⟨h2, h3⟩)]
      · rw [if_neg (by rintro (h | h); omega; exact h3 h.2)]; rfl
    · rw [if_neg h2] at h
      refine ⟨fun _ => ?_, fun _ => by omega, fun _ => by omega, fun _ => by omega⟩
      rw [if_pos (.inl (by omega))]
/-- what comes out at the last place L, R being the whole number of its units -/
def outOf (Lx : Int) (R : Nat) : Nat :=
  if R = 9007199254740992 then (if Lx + 1 + 1075 ≥ 2047 then 9218868437227405312 else (Lx + 1 + 1075).toNat * 4503599627370496 + 4503599627370496 - 4503599627370496)
  else if R < 4503599627370496 then R
  else if Lx + 1075 ≥ 2047 then 9218868437227405312 else (Lx + 1075).toNat * 4503599627370496 + R - 4503599627370496
theorem Head.last {a b : Nat} {e up Lx : Int} {g : Nat} (h : Head a b e up g) (hL : Lx = max (e - up) (-1074)) (ha : a ≠ 0) (hb : b ≠ 0) (hq : RM.up a e Lx / RM.dn b e Lx < 9007199254740992) : RM.IsLast a b e Lx := by
  have hg : -1074 ≤ RM.guess a b e := by unfold RM.guess; omega
  rcases h with ⟨_, h⟩ | ⟨_, h, h2⟩
  · have : Lx = RM.guess a b e := by unfold RM.guess; omega
    rw [this] at hq ⊢
    exact ⟨hg, by omega, by by_cases hh : RM.guess a b e = -1074; exact .inl hh; exact .inr (RM.guess_ge a b ha hb e hh)⟩
  · have : Lx = RM.guess a b e + 1 := by omega
    rw [this] at hq ⊢
    exact ⟨by omega, by omega, .inr (by rw [RM.half_step]; omega)⟩
theorem Head.outOf_is {a b : Nat} {e up Lx : Int} {g : Nat} (h : Head a b e up g) (hL : Lx = max (e - up) (-1074)) (ha : a ≠ 0) (hb : b ≠ 0) (hq : RM.up a e Lx / RM.dn b e Lx < 9007199254740992) :
    RM.rung a b e = outOf Lx (RM.rne (RM.up a e Lx) (RM.dn b e Lx)) := by
  have hl := h.last hL ha hb hq
  rw [RM.rung_of_last ha hb hl]
  obtain ⟨l1, l2, l3⟩ := hl
  unfold RM.rungAt
  have hR : RM.rne (RM.up a e Lx) (RM.dn b e Lx) = RM.up a e Lx / RM.dn b e Lx ∨ RM.rne (RM.up a e Lx) (RM.dn b e Lx) = RM.up a e Lx / RM.dn b e Lx + 1 := by
    unfold RM.rne; split
    · exact .inr rfl
    · exact .inl rfl
  generalize RM.rne (RM.up a e Lx) (RM.dn b e Lx) = R at *
  generalize RM.up a e Lx / RM.dn b e Lx = q at *
  obtain ⟨m, rfl⟩ : ∃ m : Nat, Lx = (m : Int) - 1074 := ⟨(Lx + 1074).toNat, by omega⟩
  rw [show ((m : Int) - 1074 + 1074).toNat = m from by omega]
  unfold outOf
  by_cases c1 : R = 9007199254740992
  · rw [if_pos c1, c1]
    by_cases c2 : (m : Int) - 1074 + 1 + 1075 ≥ 2047
    · rw [if_pos c2]; omega
    · rw [if_neg c2, show ((m : Int) - 1074 + 1 + 1075).toNat = m + 2 from by omega]; omega
  · rw [if_neg c1]
    by_cases c2 : R < 4503599627370496
    · rw [if_pos c2]
      have : m = 0 := by omega
      subst this; omega
    · rw [if_neg c2]
      by_cases c3 : (m : Int) - 1074 + 1075 ≥ 2047
      · rw [if_pos c3]; omega
      · rw [if_neg c3, show ((m : Int) - 1074 + 1075).toNat = m + 1 from by omega]; omega
theorem quot_lt {X Y : Nat} (hY : 0 < Y) (h : X / Y < 2 ^ 54) : X < Y * 144115188075855872 := by
  have h1 := (Nat.div_lt_iff_lt_mul hY).1 h
  have h2 : (2 : Nat) ^ 54 * Y ≤ 144115188075855872 * Y := Nat.mul_le_mul_right Y (by omega)
  rw [Nat.mul_comm Y]; omega
theorem fin_word {x : Int} {m R : Nat} (hx : x = m) (h0 : 1 ≤ m) (h1 : m ≤ 2047) (hR : R ≤ 9007199254740992) :
    IntKind.u64.wrap (IntKind.u64.wrap (IntKind.u64.wrap (IntKind.u64.wrap x * 4503599627370496) + IntKind.u64.wrap (R : Int)) - 4503599627370496) = ((m * 4503599627370496 + R - 4503599627370496 : Nat) : Int) := by
  subst hx
  rw [IntWalk.u64_in (m : Int) (by omega), IntWalk.u64_in ((m : Int) * 4503599627370496) (by omega), IntWalk.u64_in (R : Int) (by omega), IntWalk.u64_in ((m : Int) * 4503599627370496 + R) (by omega), IntWalk.u64_in _ (by omega)]
  omega
theorem fin_word' {x : Int} {m : Nat} (hx : x = m) (h0 : 1 ≤ m) (h1 : m ≤ 2047) :
    IntKind.u64.wrap (IntKind.u64.wrap (IntKind.u64.wrap (IntKind.u64.wrap x * 4503599627370496) + 4503599627370496) - 4503599627370496) = ((m * 4503599627370496 + 4503599627370496 - 4503599627370496 : Nat) : Int) := by
  subst hx
  rw [IntWalk.u64_in (m : Int) (by omega), IntWalk.u64_in ((m : Int) * 4503599627370496) (by omega), IntWalk.u64_in ((m : Int) * 4503599627370496 + 4503599627370496) (by omega), IntWalk.u64_in _ (by omega)]
  omega
theorem ret_num {k : IntKind} {a b : Int} (h : a = b) : Ending.returned (.int k a) = .returned (.int k b) := by rw [h]
set_option maxHeartbeats 1000000 in
set_option maxRecDepth 100000 in
theorem nearest_num {w : World} {v u : Value} {a b L M : Nat} (h : NumC w v a L) (h' : NumC w u b M) (ha : a ≠ 0) (hb : b ≠ 0) (hL : L ≤ 1000) (hM : M ≤ 1000) (e : Int) (he : -10000 ≤ e) (he' : e ≤ 10000) :
    Calls Tryz.prog 23 #[v, u, .int .i64 e] w fun e' w' => e' = .returned (.int .u64 (RM.rung a b e : Nat)) ∧ Below w.heap.size w w' := by
  have HA := Aside0.mk h
  have HU := Aside0.mk h'
  have ba := bits_bound h
  have bb := bits_bound h'
  obtain ⟨l, A, c, rfl, h1, h2, h3, h4, h5⟩ := h
  have hl : 0 < l.length := by
    rcases Nat.eq_zero_or_pos l.length with h0 | h0
    · exfalso
      have : l = [] := List.length_eq_zero_iff.1 h0
      subst this
      exact ha h4.symm
    · exact h0
  have hl' : ((l.length : Int) == 0) = false := beq_eq_false_iff_ne.2 (by omega)
  clear h' h1 h2 h3 h4 h5
  generalize hsa : RM.bits a = sa at ba
  generalize hsb : RM.bits b = sb at bb
  have Hsa := Lib.hid hsa
  have Hsb := Lib.hid hsb
  clear hsa hsb
  go_enter Tryz.func23, Tryz.ntmps23
  go_wp2_with fail
  refine (size_num HA.out (by omega)).mono ?_
  rintro e1 w1 ⟨rfl, hd1⟩
  rw [Hsa.out]
  have HA1 := Aside0.mk (HA.out.below hd1.below)
  have HU1 := Aside0.mk (HU.out.below hd1.below)
  have HB1 := Aside0.mk hd1.below
  clear HA HU hd1
  go_wp2_with fail
  refine (size_num HU1.out (by omega)).mono ?_
  rintro e1 w2 ⟨rfl, hd2⟩
  rw [Hsb.out]
  have HA2 := Aside0.mk (HA1.out.below hd2.below)
  have HU2 := Aside0.mk (HU1.out.below hd2.below)
  have HB2 := Aside0.mk (below_step HB1.out hd2.below)
  clear HA1 HU1 HB1 hd2
  go_wp2_with fail
  go_loopg [7] 2 (fun kq v7 wr => ∃ up : Int, v7 = .int .i64 up ∧ Aside0 (Head a b e up kq) ∧ Aside0 (NumC wr (.slice A l.length c) a L) ∧ Aside0 (NumC wr u b M) ∧ Aside0 (Below w.heap.size w wr))
  case atStart => exact ⟨_, rfl, ⟨by rw [← Hsa.out, ← Hsb.out]; exact Head.start a b e⟩, HA2, HU2, HB2⟩
  case round =>
    clear HA2 HU2 HB2
    obtain ⟨up, rfl, HH, HA, HU, HB⟩ := hrel
    obtain ⟨Lx, HL⟩ : ∃ Lx, Aside0 (Lx = max (e - up) (-1074)) := ⟨_, ⟨rfl⟩⟩
    have hup := HH.out.bounds (L := L) (M := M) (by rw [Hsa.out]; exact ba) (by rw [Hsb.out]; exact bb) he he' hL hM
    obtain ⟨hup1, hup2⟩ := hup
    go_upto_if 25 with (fail)
    go_cut [7] (fun v7 wc => v7 = .int .i64 (e - Lx) ∧ wc = wr)
    case first =>
      by_cases hc : e - up < -1074
      · go_wp2
        all_goals first | (exfalso; omega) | skip
        go_meet
        case rel => exact ⟨by rw [show e - Lx = e + 1074 from by have := HL.out; omega], rfl⟩
      · go_wp2
        all_goals first | (exfalso; omega) | skip
        go_meet
        case rel => exact ⟨by rw [show e - Lx = up from by have := HL.out; omega], rfl⟩
    case rest =>
      obtain ⟨rfl, rfl⟩ := hcut
      have hL1 : -17000 ≤ e - Lx := by have := HL.out; omega
      have hL2 : e - Lx ≤ 17000 := by have := HL.out; omega
      go_upto_if 31 with (fail)
      go_cut [10, 11] (fun v10 v11 wc => Aside0 (NumD wc v10 (RM.up a e Lx) 8000) ∧ Aside0 (NumD wc v11 (RM.dn b e Lx) 8000) ∧ Aside0 (NumC wc (.slice A l.length c) a L) ∧ Aside0 (NumC wc u b M) ∧ Aside0 (Below w.heap.size w wc))
      case first =>
        by_cases hc : 0 < e - Lx
        · go_wp2_with fail
          refine (twice_int HA.out.d (by omega) (e - Lx) (by omega) (by omega)).mono ?_
          rintro e1 w3 ⟨v3, rfl, hN, hb3⟩
          have HX := Aside0.mk hN
          have HB3 := Aside0.mk hb3
          clear hN hb3
          go_wp2
          go_meet
          case rel => exact ⟨⟨(up_pos hc HX.out).more (by omega)⟩, ⟨((dn_pos' hc HU.out.d).below HB3.out).more (by omega)⟩, ⟨HA.out.below HB3.out⟩, ⟨HU.out.below HB3.out⟩, ⟨below_step HB.out HB3.out⟩⟩
        · go_wp2_with fail
          refine (twice_int HU.out.d (by omega) (-(e - Lx)) (by omega) (by omega)).mono ?_
          rintro e1 w3 ⟨v3, rfl, hN, hb3⟩
          have HX := Aside0.mk hN
          have HB3 := Aside0.mk hb3
          clear hN hb3
          go_wp2
          go_meet
          case rel => exact ⟨⟨((up_neg (by omega) HA.out.d).below HB3.out).more (by omega)⟩, ⟨(dn_neg (by omega) HX.out).more (by omega)⟩, ⟨HA.out.below HB3.out⟩, ⟨HU.out.below HB3.out⟩, ⟨below_step HB.out HB3.out⟩⟩
      case rest =>
        clear HA HU HB
        obtain ⟨HX, HY, HA, HU, HB⟩ := hcut
        have hq54 := HH.out.quot HL.out hb
        have hdn := RM.dn_pos (B := b) (by omega) e Lx
        generalize hX : RM.up a e Lx = X at *
        generalize hY : RM.dn b e Lx = Y at *
        have HXe := Lib.hid hX
        have HYe := Lib.hid hY
        clear hX hY
        go_wp2_with fail
        refine (divide_num HX.out HY.out (by omega) (by omega) hdn (quot_lt hdn hq54)).mono ?_
        rintro e1 w3 ⟨v3, rfl, hN, hb3⟩
        have HLf := Aside0.mk hN
        have HY3 := Aside0.mk (HY.out.below hb3)
        have HA3 := Aside0.mk (HA.out.below hb3)
        have HU3 := Aside0.mk (HU.out.below hb3)
        have HB3 := Aside0.mk (below_step HB.out hb3)
        clear hN hb3 HA HU HB HX HY
        generalize hq : X / Y = q at *
        have Hq := Lib.hid hq
        have HQ := Aside0.mk hq54
        clear hq hq54
        by_cases hq53 : q < 9007199254740992
        · have c1 : decide ((q : Int) < 9007199254740992) = true := decide_eq_true (by omega)
          have HQ53 := Aside0.mk hq53
          clear hq53
          go_wp2_with fail
          refine (twice_int HLf.out (by omega) 1 (by omega) (by omega)).mono ?_
          rintro e1 w4 ⟨v4, rfl, hN, hb4⟩
          have HT := Aside0.mk hN
          have HY4 := Aside0.mk (HY3.out.below hb4)
          have HB4 := Aside0.mk (below_step HB3.out hb4)
          clear hN hb4
          go_wp2_with fail
          refine (compare_num HT.out HY4.out (by omega) (by omega)).mono ?_
          rintro e1 w5 ⟨rfl, hd5⟩
          have HB5 := Aside0.mk (below_step HB4.out hd5.below)
          clear hd5 HT HY4 HB4
          generalize hs : sgnOf (2 ^ (1 : Int).toNat * (X % Y)) Y = sg
          have Hs := Lib.hid hs
          clear hs
          clear c1
          have hround := rne_of (X := X) (Y := Y) hdn Hs.out
          rw [Hq.out] at hround
          have HRr := Aside0.mk hround
          clear hround
          obtain ⟨R, hR⟩ : ∃ R, RM.rne X Y = R := ⟨_, rfl⟩
          rw [hR] at HRr
          have HR := Lib.hid hR
          clear hR
          go_upto_region 15 with (fail)
          obtain ⟨β, hβ⟩ : ∃ β : Bool, decide (R = q + 1) = β := ⟨_, rfl⟩
          have Hβ := Lib.hid hβ
          clear hβ
          go_cut [61] (fun v61 wc => v61 = .bool β ∧ wc = w5)
          case first =>
            by_cases hg1 : 0 < sg
            · have HF := Aside0.mk (HRr.out.1 hg1).symm
              go_wp2
              all_goals first | (exfalso; omega) | skip
              go_meet
              case rel => exact ⟨by rw [← Hβ.out, decide_eq_true HF.out], rfl⟩
            · by_cases hg2 : sg = 0
              · by_cases hg3 : q % 2 = 1
                · have HF := Aside0.mk (HRr.out.2.1 hg2 hg3).symm
                  have c3 : (((q : Int) % 2) == 1) = true := by simp; omega
                  clear HRr Hs
                  subst hg2
                  go_wp2
                  all_goals first | (exfalso; omega) | skip
                  go_meet
                  case rel => exact ⟨by rw [← Hβ.out, decide_eq_true HF.out], rfl⟩
                · have HF := Aside0.mk (HRr.out.2.2.1 hg2 hg3).symm
                  have c3 : (((q : Int) % 2) == 1) = false := by simp; omega
                  clear HRr Hs
                  subst hg2
                  go_wp2
                  all_goals first | (exfalso; omega) | skip
                  go_meet
                  case rel => exact ⟨by rw [← Hβ.out, decide_eq_false (by have := HF.out; omega)], rfl⟩
              · have HF := Aside0.mk (HRr.out.2.2.2 (by omega)).symm
                have c2 : (sg == 0) = false := by simpa using hg2
                go_wp2
                all_goals first | (exfalso; omega) | skip
                go_meet
                case rel => exact ⟨by rw [← Hβ.out, decide_eq_false (by have := HF.out; omega)], rfl⟩
          case rest =>
            obtain ⟨rfl, hw⟩ := hcut
            subst hw
            have hRq : R = q ∨ R = q + 1 := by
              rw [← HR.out, ← Hq.out]; unfold RM.rne; split
              · exact .inr rfl
              · exact .inl rfl
            have HRq := Aside0.mk hRq
            clear hRq
            go_upto_if 61 with (fail)
            go_cut [8] (fun v8 wc => v8 = .int .i64 (R : Int) ∧ Aside0 (Below w.heap.size w wc))
            case first =>
              cases β
              · go_wp2
                go_meet
                case rel => exact ⟨by have h1 := HRq.out; have h2 := of_decide_eq_false Hβ.out; rw [show R = q from by omega], HB5⟩
              · go_wp2
                go_meet
                case rel => exact ⟨by rw [wrap_q HQ.out, of_decide_eq_true Hβ.out], HB5⟩
            case rest =>
              obtain ⟨rfl, HB6⟩ := hcut
              have HO : Aside0 (RM.rung a b e = outOf Lx R) := ⟨by rw [← HR.out, ← HXe.out, ← HYe.out]; exact HH.out.outOf_is HL.out ha hb (by rw [HXe.out, HYe.out, Hq.out]; exact HQ53.out)⟩
              clear HB5 Hβ HR HRr
              have HRb : Aside0 (R ≤ 9007199254740992) := ⟨by have h1 := HRq.out; have h2 := HQ53.out; omega⟩
              have HL0 : Aside0 (-1074 ≤ Lx) := ⟨by have := HL.out; omega⟩
              by_cases hr1 : R = 9007199254740992
              · subst hr1
                by_cases hr3 : Lx + 1 + 1075 ≥ 2047
                · have HR3 := Aside0.mk hr3
                  go_wp2
                  all_goals first | (exfalso; omega) | skip
                  go_ret
                  exact ⟨ret_num (by rw [HO.out]; unfold outOf; rw [if_pos rfl, if_pos (show _ from by have := HR3.out; omega)]; rfl), HB6.out⟩
                · have HR3 := Aside0.mk hr3
                  go_wp2
                  all_goals first | (exfalso; omega) | skip
                  go_ret
                  exact ⟨ret_num (by rw [HO.out]; unfold outOf; rw [if_pos rfl, if_neg (show ¬ _ from by have := HR3.out; omega)]; exact fin_word' (by have := HL0.out; omega) (by have := HL0.out; omega) (by have := HR3.out; omega)), HB6.out⟩
              · have c1 : ((R : Int) == 9007199254740992) = false := beq_eq_false_iff_ne.2 (by omega)
                have HR1 := Aside0.mk hr1
                clear hr1
                by_cases hr2 : R < 4503599627370496
                · have c2 : decide ((R : Int) < 4503599627370496) = true := decide_eq_true (by omega)
                  have HR2 := Aside0.mk hr2
                  clear hr2
                  go_wp2
                  go_ret
                  exact ⟨ret_num (by rw [HO.out]; unfold outOf; rw [if_neg HR1.out, if_pos HR2.out]; exact IntWalk.u64_in _ (by have := HRb.out; omega)), HB6.out⟩
                · have c2 : decide ((R : Int) < 4503599627370496) = false := decide_eq_false (by omega)
                  have HR2 := Aside0.mk hr2
                  clear hr2
                  by_cases hr3 : Lx + 1075 ≥ 2047
                  · have HR3 := Aside0.mk hr3
                    go_upto_region 24 with (fail)
                    clear c1 c2
                    go_wp2
                    all_goals first | (exfalso; omega) | skip
                    go_ret
                    exact ⟨ret_num (by rw [HO.out]; unfold outOf; rw [if_neg HR1.out, if_neg HR2.out, if_pos (show _ from by have := HR3.out; omega)]; rfl), HB6.out⟩
                  · have HR3 := Aside0.mk hr3
                    go_upto_region 24 with (fail)
                    clear c1 c2
                    go_wp2
                    all_goals first | (exfalso; omega) | skip
                    go_ret
                    exact ⟨ret_num (by rw [HO.out]; unfold outOf; rw [if_neg HR1.out, if_neg HR2.out, if_neg (show ¬ _ from by have := HR3.out; omega)]; exact fin_word (by have := HL0.out; omega) (by have := HL0.out; omega) (by have := HR3.out; omega) HRb.out), HB6.out⟩
        · have c1 : decide ((q : Int) < 9007199254740992) = false := decide_eq_false (by omega)
          have HQ53 := Aside0.mk hq53
          clear hq53
          go_wp2
          go_roundg 1
          case measure => have := HH.out.next HL.out (by rw [HXe.out, HYe.out, Hq.out]; exact HQ53.out) hb; omega
          case rel => exact ⟨e - Lx - 1, rfl, ⟨HH.out.again HL.out (by rw [HXe.out, HYe.out, Hq.out]; exact HQ53.out) hb⟩, HA3, HU3, HB3⟩
end Go.Proofs.YthfppmgnemmckaaGreatDoor.PDo
