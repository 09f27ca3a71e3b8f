/- Package big: times of any two numbers. -/
import Derived.StillTailTactics
import Derived.Deep.RegionHeld3
import Derived.Test.YtkljafmdbajfeaaGreatDoorNoA11
namespace Go.Proofs.YtkljafmdbajfeaaGreatDoor
open Go.RowKit
set_option linter.unusedVariables false
set_option linter.unusedSimpArgs false
set_option maxRecDepth 100000 in
set_option maxHeartbeats 2000000 in
theorem times_big (v u : Value) (n m : Nat) (w : World) (hbig : 18446744073709551616 ≤ n) (hn : (digits n).length ≤ 100000000) (hm : (digits m).length ≤ 100000000) (hv : WSl w v n) (hu : WSl w u m) :
    Calls Tryz.prog 199 #[v, u] w fun e w' => ∃ v, e = .returned v ∧ WSl w' v (n * m) ∧ Below w.heap.size w w' := by
  have hv0 := hv
  have hu0 := hu
  obtain ⟨A, ca, rfl, hca, hcm, hA⟩ := hv0
  obtain ⟨B, cb, rfl, hcb, hcm2, hB⟩ := hu0
  have ha := digits_dig n
  have hb := digits_dig m
  have hvn := val_digits n
  have hvm := val_digits m
  have hsm : ∀ w2, WSl w2 (.slice A (digits n).length ca) n → _ := fun w2 h => small_no n _ w2 hbig (by unfold maxLen; omega) h
  have hs := hsm w hv
  have HS := Lib.hid hs
  clear hsm hs
  go_enter Tryz.func199, Tryz.ntmps199
  go_wp2_with fail
  refine HS.out.mono ?_; rintro e w1 ⟨rfl, e1⟩
  rw [e1]
  clear e1 w1 HS hbig
  generalize digits n = a at *
  generalize digits m = b at *
  have HV := Lib.hid hvn; have HM := Lib.hid hvm
  clear hvn hvm hv hu hca hcb hcm hcm2
  have hmk := fun w => run_makeU32 w (a.length + b.length) (by omega)
  have ec : ((a.length + b.length : Nat) : Int) = (a.length : Int) + b.length := by push_cast; rfl
  rw [ec] at hmk
  clear ec
  go_wp2_with fail
  clear hmk
  go_loopw [12, 13, 14, 15, 16, 55] (fun _ _ _ _ _ i wr => ∃ (n : Nat) (os : List Nat), n ≤ a.length ∧ i = .int .i64 n ∧ UBlk wr w.heap.size os ∧ WRow a b os n ∧ Below w.heap.size w wr) (fun _ _ _ _ _ i _ => a.length - (intOf i).toNat)
  case atStart => exact ⟨0, _, Nat.zero_le _, rfl, UBlk.made _ _ _ rfl, WRow.start a b, (Below.refl _ _).alloc (Nat.le_refl _) _⟩
  case round =>
    obtain ⟨i, os, hi, rfl, hos, hrow, hbe⟩ := hrel
    by_cases hlt : i < a.length
    · have hin := Lib.hid hrow.enter
      obtain ⟨b1, o1, rfl, g1⟩ := (hA.ext hbe) i hlt
      have hn1 : (i : Int) < a.length := by omega
      have hx := ha.nth i
      clear hrow
      go_wp2_with fail
      go_loopw [14, 15, 16, 62] (fun c _ _ k wr => ∃ (j cn : Nat) (os : List Nat), j ≤ b.length ∧ k = .int .i64 j ∧ c = .int .u64 cn ∧ UBlk wr w.heap.size os ∧ Hid (WIn a b os i j cn) ∧ Below w.heap.size w wr) (fun _ _ _ k _ => b.length - (intOf k).toNat)
      case atStart => exact ⟨0, 0, os, Nat.zero_le _, rfl, rfl, hos, hin, hbe⟩
      case round =>
        clear hos hin hbe
        obtain ⟨j, cn, os, hj, rfl, rfl, hos, hin, hbe⟩ := hrel
        have hcar := hin.out.car
        have hln : Hid (os.length = a.length + b.length) := Lib.hid hin.out.len
        have bl := Blk.lt hos
        by_cases hlm : j < b.length
        · obtain ⟨b2, o2, rfl, g2⟩ := (hB.ext hbe) j hlm
          have g3 := hos.cell (i + j) (by rw [hln.out]; omega)
          have f3 := Blk.free hos (i + j)
          have y : nthd b j < 4294967296 := hb.nth j
          have o : nthd os (i + j) < 4294967296 := hin.out.dig.nth (i + j)
          have hp := wmul_digit hx y
          have hst := Lib.hid (hin.out.step ha hb hlt hlm)
          have hset := Lib.hid (fun wq : World => fun h : UBlk wq w.heap.size os => h.set (i + j) ((nthd os (i + j) + nthd a i * nthd b j + cn) % 4294967296))
          have HOS := Lib.hid hos; have HB := Lib.hid hbe
          have hpi : ((nthd a i * nthd b j : Nat) : Int) = (nthd a i : Int) * nthd b j := by push_cast; rfl
          have hp2 : 0 ≤ (nthd a i : Int) * nthd b j ∧ (nthd a i : Int) * nthd b j ≤ 18446744065119617025 := by omega
          have E1 : Hid ((((nthd os (i + j) + nthd a i * nthd b j + cn) % 4294967296 : Nat) : Int) = ((cn : Int) + ((nthd a i : Int) * nthd b j + nthd os (i + j))) % 4294967296) := Lib.hid (by omega)
          have E2 : Hid ((((nthd os (i + j) + nthd a i * nthd b j + cn) / 4294967296 : Nat) : Int) = ((cn : Int) + ((nthd a i : Int) * nthd b j + nthd os (i + j))) / 4294967296) := Lib.hid (by omega)
          have h1 : (j : Int) < b.length := by omega
          have h2 : (i : Int) + j < (a.length : Int) + b.length := by omega
          clear hpi hp hos hin hbe
          go_wp2_with fail
          go_roundw
          case rel => exact ⟨j + 1, _, _, by omega, by go_num, by rw [← E2.out], by rw [← E1.out]; exact hset.out _ HOS.out, hst.out, HB.out.setCell (Nat.le_refl _) _⟩
          case measure => simp [intOf]; omega
        · obtain rfl : j = b.length := by omega
          have g3 := hos.cell (i + b.length) (by rw [hln.out]; omega)
          have f3 := Blk.free hos (i + b.length)
          have h2 : (i : Int) + b.length < (a.length : Int) + b.length := by omega
          have hst := Lib.hid (hin.out.done hlt)
          have hset := Lib.hid (hos.set (i + b.length) cn)
          have HB := Lib.hid hbe
          have hcm : (cn : Int) % 4294967296 = cn := by omega
          clear hos hin hbe
          go_wp2_with fail
          go_roundw
          case rel => exact ⟨i + 1, _, by omega, by go_num, hset.out, hst.out, HB.out.setCell (Nat.le_refl _) _⟩
          case measure => simp [intOf]; omega
    · obtain rfl : i = a.length := by omega
      have htr := trim_calls (some ⟨w.heap.size, 0, none⟩) (a.length + b.length) os wr (by rw [hrow.len]; omega) (by unfold maxLen; omega) hos.wds
      rw [hrow.len] at htr
      have hd := hrow.done
      rw [HV.out, HM.out] at hd
      have HD := Lib.hid hd; have HT := Lib.hid htr; have HB := Lib.hid hbe; have HW := Lib.hid hos.wds
      have HL := Lib.hid hrow.len
      clear hd htr hbe hos hrow hA hB ha hb
      go_wp2_with fail
      refine HT.out.mono ?_; rintro e w3 ⟨k, rfl, hk, ht, rfl⟩
      have hfin := HW.out.take k
      rw [ht, HD.out] at hfin
      have hkl : k = (digits (n * m)).length := by
        rw [← HD.out, ← ht, List.length_take, HL.out]; have := HL.out; omega
      have HK := Lib.hid hkl; have HF := Lib.hid hfin
      clear hkl hfin ht HT
      go_wp2
      go_ret
      exact ⟨_, rfl, ⟨_, _, by rw [← HK.out]; rfl, by rw [← HK.out]; omega, by omega, HF.out⟩, HB.out⟩
set_option maxRecDepth 100000 in
set_option maxHeartbeats 2000000 in
theorem times_snd (v u : Value) (n m : Nat) (w : World) (hsmall : n < 18446744073709551616) (hbig : 18446744073709551616 ≤ m) (hn : (digits n).length ≤ 100000000) (hm : (digits m).length ≤ 100000000) (hv : WSl w v n) (hu : WSl w u m) :
    Calls Tryz.prog 199 #[v, u] w fun e w' => ∃ v, e = .returned v ∧ WSl w' v (n * m) ∧ Below w.heap.size w w' := by
  have hv0 := hv
  have hu0 := hu
  obtain ⟨A, ca, rfl, hca, hcm, hA⟩ := hv0
  obtain ⟨B, cb, rfl, hcb, hcm2, hB⟩ := hu0
  have ha := digits_dig n
  have hb := digits_dig m
  have hvn := val_digits n
  have hvm := val_digits m
  have hs := small_yes n _ w hsmall hv
  have ht := fun k h => small_no m (.slice B (digits m).length cb) (w.drewN k) hbig (by unfold maxLen; omega) h
  have HS := Lib.hid hs; have HT := Lib.hid ht
  clear hs ht
  go_enter Tryz.func199, Tryz.ntmps199
  go_wp2_with fail
  refine HS.out.mono ?_; rintro e w1 ⟨rfl, k1, e1⟩
  rw [e1]
  clear e1 w1 HS
  go_wp2_with fail
  refine (HT.out k1 (hu.ext (drewN_below w k1))).mono ?_; rintro e w1 ⟨rfl, e1⟩
  rw [e1]
  clear e1 w1 HT hbig hsmall
  generalize digits n = a at *
  generalize digits m = b at *
  have HV := Lib.hid hvn; have HM := Lib.hid hvm
  clear hvn hvm hv hu hca hcb hcm hcm2
  have hmk := fun w => run_makeU32 w (a.length + b.length) (by omega)
  have ec : ((a.length + b.length : Nat) : Int) = (a.length : Int) + b.length := by push_cast; rfl
  rw [ec] at hmk
  clear ec
  go_wp2_with fail
  clear hmk
  go_loopw [12, 13, 14, 15, 16, 55] (fun _ _ _ _ _ i wr => ∃ (n : Nat) (os : List Nat), n ≤ a.length ∧ i = .int .i64 n ∧ UBlk wr w.heap.size os ∧ WRow a b os n ∧ Below w.heap.size w wr) (fun _ _ _ _ _ i _ => a.length - (intOf i).toNat)
  case atStart => exact ⟨0, _, Nat.zero_le _, rfl, UBlk.made _ _ _ rfl, WRow.start a b, (drewN_below w k1).alloc (Nat.le_refl _) _⟩
  case round =>
    obtain ⟨i, os, hi, rfl, hos, hrow, hbe⟩ := hrel
    by_cases hlt : i < a.length
    · have hin := Lib.hid hrow.enter
      obtain ⟨b1, o1, rfl, g1⟩ := (hA.ext hbe) i hlt
      have hn1 : (i : Int) < a.length := by omega
      have hx := ha.nth i
      clear hrow
      go_wp2_with fail
      go_loopw [14, 15, 16, 62] (fun c _ _ k wr => ∃ (j cn : Nat) (os : List Nat), j ≤ b.length ∧ k = .int .i64 j ∧ c = .int .u64 cn ∧ UBlk wr w.heap.size os ∧ Hid (WIn a b os i j cn) ∧ Below w.heap.size w wr) (fun _ _ _ k _ => b.length - (intOf k).toNat)
      case atStart => exact ⟨0, 0, os, Nat.zero_le _, rfl, rfl, hos, hin, hbe⟩
      case round =>
        clear hos hin hbe
        obtain ⟨j, cn, os, hj, rfl, rfl, hos, hin, hbe⟩ := hrel
        have hcar := hin.out.car
        have hln : Hid (os.length = a.length + b.length) := Lib.hid hin.out.len
        have bl := Blk.lt hos
        by_cases hlm : j < b.length
        · obtain ⟨b2, o2, rfl, g2⟩ := (hB.ext hbe) j hlm
          have g3 := hos.cell (i + j) (by rw [hln.out]; omega)
          have f3 := Blk.free hos (i + j)
          have y : nthd b j < 4294967296 := hb.nth j
          have o : nthd os (i + j) < 4294967296 := hin.out.dig.nth (i + j)
          have hp := wmul_digit hx y
          have hst := Lib.hid (hin.out.step ha hb hlt hlm)
          have hset := Lib.hid (fun wq : World => fun h : UBlk wq w.heap.size os => h.set (i + j) ((nthd os (i + j) + nthd a i * nthd b j + cn) % 4294967296))
          have HOS := Lib.hid hos; have HB := Lib.hid hbe
          have hpi : ((nthd a i * nthd b j : Nat) : Int) = (nthd a i : Int) * nthd b j := by push_cast; rfl
          have hp2 : 0 ≤ (nthd a i : Int) * nthd b j ∧ (nthd a i : Int) * nthd b j ≤ 18446744065119617025 := by omega
          have E1 : Hid ((((nthd os (i + j) + nthd a i * nthd b j + cn) % 4294967296 : Nat) : Int) = ((cn : Int) + ((nthd a i : Int) * nthd b j + nthd os (i + j))) % 4294967296) := Lib.hid (by omega)
          have E2 : Hid ((((nthd os (i + j) + nthd a i * nthd b j + cn) / 4294967296 : Nat) : Int) = ((cn : Int) + ((nthd a i : Int) * nthd b j + nthd os (i + j))) / 4294967296) := Lib.hid (by omega)
          have h1 : (j : Int) < b.length := by omega
          have h2 : (i : Int) + j < (a.length : Int) + b.length := by omega
          clear hpi hp hos hin hbe
          go_wp2_with fail
          go_roundw
          case rel => exact ⟨j + 1, _, _, by omega, by go_num, by rw [← E2.out], by rw [← E1.out]; exact hset.out _ HOS.out, hst.out, HB.out.setCell (Nat.le_refl _) _⟩
          case measure => simp [intOf]; omega
        · obtain rfl : j = b.length := by omega
          have g3 := hos.cell (i + b.length) (by rw [hln.out]; omega)
          have f3 := Blk.free hos (i + b.length)
          have h2 : (i : Int) + b.length < (a.length : Int) + b.length := by omega
          have hst := Lib.hid (hin.out.done hlt)
          have hset := Lib.hid (hos.set (i + b.length) cn)
          have HB := Lib.hid hbe
          have hcm : (cn : Int) % 4294967296 = cn := by omega
          clear hos hin hbe
          go_wp2_with fail
          go_roundw
          case rel => exact ⟨i + 1, _, by omega, by go_num, hset.out, hst.out, HB.out.setCell (Nat.le_refl _) _⟩
          case measure => simp [intOf]; omega
    · obtain rfl : i = a.length := by omega
      have htr := trim_calls (some ⟨w.heap.size, 0, none⟩) (a.length + b.length) os wr (by rw [hrow.len]; omega) (by unfold maxLen; omega) hos.wds
      rw [hrow.len] at htr
      have hd := hrow.done
      rw [HV.out, HM.out] at hd
      have HD := Lib.hid hd; have HT := Lib.hid htr; have HB := Lib.hid hbe; have HW := Lib.hid hos.wds
      have HL := Lib.hid hrow.len
      clear hd htr hbe hos hrow hA hB ha hb
      go_wp2_with fail
      refine HT.out.mono ?_; rintro e w3 ⟨k, rfl, hk, ht, rfl⟩
      have hfin := HW.out.take k
      rw [ht, HD.out] at hfin
      have hkl : k = (digits (n * m)).length := by
        rw [← HD.out, ← ht, List.length_take, HL.out]; have := HL.out; omega
      have HK := Lib.hid hkl; have HF := Lib.hid hfin
      clear hkl hfin ht HT
      go_wp2
      go_ret
      exact ⟨_, rfl, ⟨_, _, by rw [← HK.out]; rfl, by rw [← HK.out]; omega, by omega, HF.out⟩, HB.out⟩
theorem times_calls (v u : Value) (n m : Nat) (w : World) (hn : (digits n).length ≤ 100000000) (hm : (digits m).length ≤ 100000000) (hv : WSl w v n) (hu : WSl w u m) :
    Calls Tryz.prog 199 #[v, u] w fun e w' => ∃ v, e = .returned v ∧ WSl w' v (n * m) ∧ Below w.heap.size w w' := by
  rcases Nat.lt_or_ge n 18446744073709551616 with h | h
  · rcases Nat.lt_or_ge m 18446744073709551616 with h2 | h2
    · exact times_small v u n m w h h2 hv hu
    · exact times_snd v u n m w h h2 hn hm hv hu
  · exact times_big v u n m w h hn hm hv hu
end Go.Proofs.YtkljafmdbajfeaaGreatDoor

/- Package big: Neg, Add, Sub, Mul. -/
namespace Go.Proofs.YtkljafmdbajfeaaGreatDoor
open Go.RowKit
theorem neg_sign (z : Int) : (!decide (z < 0) && decide (0 < z.natAbs)) = decide (-z < 0) := by
  by_cases h : z < 0
  · rw [decide_eq_true h, decide_eq_false (show ¬ -z < 0 by omega)]; rfl
  · rw [decide_eq_false h]
    by_cases h0 : z = 0
    · subst h0; rfl
    · rw [decide_eq_true (show -z < 0 by omega), decide_eq_true (show 0 < z.natAbs by omega)]; rfl
set_option maxRecDepth 100000 in
set_option maxHeartbeats 1000000 in
theorem neg_calls (p q : Nat) (z : Int) (w : World) (hp : IntBlk w p) (hz : BigP w q z) :
    Calls Tryz.prog 164 #[.pointer (some ⟨p, 0, none⟩), .pointer (some ⟨q, 0, none⟩)] w fun e w' => e = .returned (.pointer (some ⟨p, 0, none⟩)) ∧ BigP w' p (-z) ∧ But p w w' := by
  obtain ⟨-, v, hb0, hb1, hv⟩ := id hz
  have c0 : w.cell? ⟨q, 0, none⟩ = some (.bool (decide (z < 0))) := hb0
  have c1 : w.cell? ⟨q, 1, none⟩ = some v := hb1
  have hs := neg_sign z
  have HS := Lib.hid hs
  clear hs hb0 hb1 hz
  go_enter Tryz.func164, Tryz.ntmps164
  go_wp2_with fail
  go_still_tail 10, (by kernel_rfl)
  change wpList _ _ _ _ _ w.drew
  go_wp2_with fail
  refine (set_z p _ v z.natAbs (-z) w.drew (hp.ext (drewN_below w 1)) (hv.ext (drewN_below w 1)) (by omega) HS.out).mono ?_; rintro e w3 ⟨rfl, hz3, hb3⟩
  go_wp2
  go_ret
  exact ⟨rfl, hz3, ((But.refl p w).ext (drewN_below w 1)).trans hb3⟩
theorem add_same (x y : Int) (h : (decide (x < 0) == decide (y < 0)) = true) : (x + y).natAbs = x.natAbs + y.natAbs ∧ (decide (x < 0) && decide (0 < x.natAbs + y.natAbs)) = decide (x + y < 0) := by
  by_cases hx : x < 0 <;> by_cases hy : y < 0 <;> simp [hx, hy] at h ⊢ <;> omega
theorem add_diff (x y : Int) (h : (decide (x < 0) == decide (y < 0)) = false) (hle : y.natAbs ≤ x.natAbs) : (x + y).natAbs = x.natAbs - y.natAbs ∧ (decide (x < 0) && decide (0 < x.natAbs - y.natAbs)) = decide (x + y < 0) := by
  by_cases hx : x < 0 <;> by_cases hy : y < 0 <;> simp [hx, hy] at h ⊢ <;> omega
theorem add_diff' (x y : Int) (h : (decide (x < 0) == decide (y < 0)) = false) (hle : x.natAbs < y.natAbs) : (x + y).natAbs = y.natAbs - x.natAbs ∧ (decide (y < 0) && decide (0 < y.natAbs - x.natAbs)) = decide (x + y < 0) := by
  by_cases hx : x < 0 <;> by_cases hy : y < 0 <;> simp [hx, hy] at h ⊢ <;> omega
def Wide (z : Int) : Prop := (digits z.natAbs).length ≤ 100000000
theorem mul_sign (x y : Int) : (x * y).natAbs = x.natAbs * y.natAbs ∧ ((!(decide (x < 0) == decide (y < 0))) && decide (0 < x.natAbs * y.natAbs)) = decide (x * y < 0) := by
  refine ⟨Int.natAbs_mul x y, ?_⟩
  rw [← Int.natAbs_mul]
  by_cases hx : x < 0 <;> by_cases hy : y < 0
  · have := Int.mul_pos_of_neg_of_neg hx hy
    simp [hx, hy]; omega
  · rcases Int.lt_or_le 0 y with h | h
    · have := Int.mul_neg_of_neg_of_pos hx h
      simp [hx, hy, this]; omega
    · have : y = 0 := by omega
      subst this; simp
  · rcases Int.lt_or_le 0 x with h | h
    · have := Int.mul_neg_of_pos_of_neg h hy
      simp [hx, hy, this]; omega
    · have : x = 0 := by omega
      subst this; simp
  · have := Int.mul_nonneg (show 0 ≤ x by omega) (show 0 ≤ y by omega)
    simp [hx, hy]; omega
end Go.Proofs.YtkljafmdbajfeaaGreatDoor
