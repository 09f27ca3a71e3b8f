/- Package big: Neg, Add, Sub, Mul. -/
import Derived.Test.YtbdlfjhhgnhejaaBigF
import Derived.StillTailTactics
import Derived.Deep.RegionHeld3
namespace Go.Proofs.Ytbdlfjhhgnhejaa
open Go.RowKit

theorem neg_sign (z : Int) : (!decide (z < 0) && decide (0 < z.natAbs)) = decide (-z < 0) := by
  by_cases h : z < 0
  · rw [decide_eq_true h, decide_eq_false (show ¬ -z < 0 by omega)]; rfl
  · rw [decide_eq_false h]
    by_cases h0 : z = 0
    · subst h0; rfl
    · rw [decide_eq_true (show -z < 0 by omega), decide_eq_true (show 0 < z.natAbs by omega)]; rfl

set_option maxRecDepth 100000 in
set_option maxHeartbeats 1000000 in
theorem neg_calls (p q : Nat) (z : Int) (w : World) (hp : IntBlk w p) (hz : BigP w q z) :
    Calls Try.prog 71 #[.pointer (some ⟨p, 0, none⟩), .pointer (some ⟨q, 0, none⟩)] w fun e w' => e = .returned (.pointer (some ⟨p, 0, none⟩)) ∧ BigP w' p (-z) ∧ But p w w' := by
  obtain ⟨v, hb, hv⟩ := id hz
  have c0 : w.cell? ⟨q, 0, none⟩ = some (.bool (decide (z < 0))) := hb.cell 0 (by simp)
  have c1 : w.cell? ⟨q, 1, none⟩ = some v := hb.cell 1 (by simp)
  have hs := neg_sign z
  have HS := Lib.hid hs
  clear hs hb hz
  go_enter Try.func71, Try.ntmps71
  go_wp2_with fail
  go_still_tail 10, (by kernel_rfl)
  change wpList _ _ _ _ _ w.drew
  go_wp2_with fail
  refine (set_z p _ v z.natAbs (-z) w.drew (hp.ext (drewN_below w 1)) (hv.ext (drewN_below w 1)) (by omega) HS.out).mono ?_; rintro e w3 ⟨rfl, hz3, hb3⟩
  go_wp2
  go_ret
  exact ⟨rfl, hz3, ((But.refl p w).ext (drewN_below w 1)).trans hb3⟩

theorem add_same (x y : Int) (h : (decide (x < 0) == decide (y < 0)) = true) : (x + y).natAbs = x.natAbs + y.natAbs ∧ (decide (x < 0) && decide (0 < x.natAbs + y.natAbs)) = decide (x + y < 0) := by
  by_cases hx : x < 0 <;> by_cases hy : y < 0 <;> simp [hx, hy] at h ⊢ <;> omega
theorem add_diff (x y : Int) (h : (decide (x < 0) == decide (y < 0)) = false) (hle : y.natAbs ≤ x.natAbs) : (x + y).natAbs = x.natAbs - y.natAbs ∧ (decide (x < 0) && decide (0 < x.natAbs - y.natAbs)) = decide (x + y < 0) := by
  by_cases hx : x < 0 <;> by_cases hy : y < 0 <;> simp [hx, hy] at h ⊢ <;> omega
theorem add_diff' (x y : Int) (h : (decide (x < 0) == decide (y < 0)) = false) (hle : x.natAbs < y.natAbs) : (x + y).natAbs = y.natAbs - x.natAbs ∧ (decide (y < 0) && decide (0 < y.natAbs - x.natAbs)) = decide (x + y < 0) := by
  by_cases hx : x < 0 <;> by_cases hy : y < 0 <;> simp [hx, hy] at h ⊢ <;> omega

theorem butCell {p : Nat} {w w' : World} (h : But p w w') : (∀ b o, b < w.heap.size → b ≠ p → w'.cell? ⟨b, o, none⟩ = w.cell? ⟨b, o, none⟩) :=
  fun b o hb hne => World.cell?_of_block (a := ⟨b, o, none⟩) (h.block b hb hne)

theorem compare_in (v u : Value) (n m : Nat) (w : World) (j k : Nat) (hv : WSl w v n) (hu : WSl w u m) :
    Calls Try.prog 65 #[v, u] (w.drewN (j + k)) fun e w' => e = .returned (.int .i64 (sgn n m)) ∧ ∃ k, w' = w.drewN (j + k) := by
  have h := compare_q v u n m (w.drewN j) k (hv.ext (drewN_below _ _)) (hu.ext (drewN_below _ _))
  rw [drewN_add] at h
  exact h.mono fun e w' ⟨he, k, hk⟩ => ⟨he, k, by rw [hk, drewN_add]⟩
/-- Two digits or so: the width up to which sums are followed. -/
def Wide (z : Int) : Prop := (digits z.natAbs).length ≤ 1000000

set_option maxRecDepth 100000 in
set_option maxHeartbeats 2000000 in
theorem add_calls (p q r : Nat) (x y : Int) (w : World) (hq : p ≠ q) (hr : p ≠ r) (hp : IntBlk w p) (hx : BigP w q x) (hy : BigP w r y) (wx : Wide x) (wy : Wide y) :
    Calls Try.prog 70 #[.pointer (some ⟨p, 0, none⟩), .pointer (some ⟨q, 0, none⟩), .pointer (some ⟨r, 0, none⟩)] w fun e w' => e = .returned (.pointer (some ⟨p, 0, none⟩)) ∧ BigP w' p (x + y) ∧ But p w w' := by
  obtain ⟨v, hb, hv⟩ := id hx
  obtain ⟨u, hd, hu⟩ := id hy
  have c0 : w.cell? ⟨q, 0, none⟩ = some (.bool (decide (x < 0))) := hb.cell 0 (by simp)
  have c1 : w.cell? ⟨q, 1, none⟩ = some v := hb.cell 1 (by simp)
  have d0 : w.cell? ⟨r, 0, none⟩ = some (.bool (decide (y < 0))) := hd.cell 0 (by simp)
  have d1 : w.cell? ⟨r, 1, none⟩ = some u := hd.cell 1 (by simp)
  have ql := hx.lt
  have rl := hy.lt
  have q4 := eqlBool
  have hqp : q ≠ p := fun h => hq h.symm
  have hrp : r ≠ p := fun h => hr h.symm
  have hse := add_same x y
  have hdi := add_diff x y
  have hdi' := add_diff' x y
  obtain ⟨bx, hbx⟩ : ∃ bx, Hid (decide (x < 0) = bx) := ⟨_, rfl⟩
  obtain ⟨bY, hby⟩ : ∃ bY, Hid (decide (y < 0) = bY) := ⟨_, rfl⟩
  rw [hbx.out] at c0
  rw [hby.out] at d0
  rw [hbx.out, hby.out] at hse hdi hdi'
  have HSE := Lib.hid hse; have HDI := Lib.hid hdi; have HDJ := Lib.hid hdi'
  have hqu : ∀ m k, _ := fun m k => compare_in v u x.natAbs y.natAbs w m k hv hu
  have HQ := Lib.hid hqu
  clear hse hdi hdi' hb hd hqu
  cases hbe : (bx == bY)
  · go_enter Try.func70, Try.ntmps70
    obtain ⟨S, hS⟩ : ∃ S, Hid (sgn x.natAbs y.natAbs = S) := ⟨_, rfl⟩
    rw [hS.out] at HQ
    by_cases hle : y.natAbs ≤ x.natAbs
    · have hsg : decide (0 ≤ S) = true := by rw [← hS.out]; unfold sgn; split <;> (try split) <;> first | rfl | omega
      have hs := HDI.out hbe hle
      have HS := Lib.hid hs
      clear hs HSE HDI HDJ
      go_wp2_with fail
      go_quiet (fail)
      go_wp2_with fail
      go_quiet ((go_at_call 65; exact HQ.out _ _))
      go_wp2_with fail
      go_region_held3 (fun w' => w'.cell? ⟨q, 0, none⟩ = some (.bool bx) ∧ w'.cell? ⟨q, 1, none⟩ = some v ∧ w'.cell? ⟨r, 1, none⟩ = some u)
        (first | (go_keep; done))
        (first
          | (go_at_call 87; refine (minus_z v u _ _ _ wx hle (by first | exact hv.ext (drewN_below w _) | exact hv.ext (Below.refl _ _).drew) (by first | exact hu.ext (drewN_below w _) | exact hu.ext (Below.refl _ _).drew)).mono ?_; rintro e w3 ⟨z3, rfl, hz3, hb3⟩; obtain ⟨hc3, hf3⟩ := bcell hb3; have z0 : w3.cell? ⟨q, 0, none⟩ = some (.bool bx) := (hc3 q 0 ql).trans c0; have z1 : w3.cell? ⟨q, 1, none⟩ = some v := (hc3 q 1 ql).trans c1; have y0 : w3.cell? ⟨r, 0, none⟩ = some (.bool bY) := (hc3 r 0 rl).trans d0; have y1 : w3.cell? ⟨r, 1, none⟩ = some u := (hc3 r 1 rl).trans d1; have hs3 := hb3.size; have ql3 : q < w3.heap.size := (Nat.lt_of_lt_of_le ql hs3); have rl3 : r < w3.heap.size := (Nat.lt_of_lt_of_le rl hs3))
          | (go_at_call 68; refine (set_z p _ _ _ (x + y) _ (hp.ext (ext_trans (by first | exact drewN_below w _ | exact (Below.refl _ _).drew) hb3)) hz3 HS.out.1 HS.out.2).mono ?_; rintro e w4 ⟨rfl, hz4, hb4⟩; have hc4 := butCell hb4; have u0 : w4.cell? ⟨q, 0, none⟩ = some (.bool bx) := (hc4 q 0 ql3 hqp).trans z0; have u1 : w4.cell? ⟨q, 1, none⟩ = some v := (hc4 q 1 ql3 hqp).trans z1; have x0 : w4.cell? ⟨r, 0, none⟩ = some (.bool bY) := (hc4 r 0 rl3 hrp).trans y0; have x1 : w4.cell? ⟨r, 1, none⟩ = some u := (hc4 r 1 rl3 hrp).trans y1))
      all_goals
        go_wp2
        go_ret
        exact ⟨rfl, hz4, (((But.refl p w).ext (drewN_below w _)).ext hb3).trans hb4⟩
    · have hsg : decide (0 ≤ S) = false := by rw [← hS.out]; unfold sgn; split <;> (try split) <;> first | rfl | omega
      have hs := HDJ.out hbe (by omega)
      have HS := Lib.hid hs
      clear hs HSE HDI HDJ
      go_wp2_with fail
      go_quiet (fail)
      go_wp2_with fail
      go_quiet ((go_at_call 65; exact HQ.out _ _))
      go_wp2_with fail
      go_region_held3 (fun w' => w'.cell? ⟨r, 0, none⟩ = some (.bool bY) ∧ w'.cell? ⟨r, 1, none⟩ = some u ∧ w'.cell? ⟨q, 1, none⟩ = some v)
        (first | (go_keep; done))
        (first
          | (go_at_call 87; refine (minus_z u v y.natAbs x.natAbs _ wy (by omega) (by first | exact hu.ext (drewN_below w _) | exact hu.ext (Below.refl _ _).drew) (by first | exact hv.ext (drewN_below w _) | exact hv.ext (Below.refl _ _).drew)).mono ?_; rintro e w3 ⟨z3, rfl, hz3, hb3⟩; obtain ⟨hc3, hf3⟩ := bcell hb3; have z0 : w3.cell? ⟨q, 0, none⟩ = some (.bool bx) := (hc3 q 0 ql).trans c0; have z1 : w3.cell? ⟨q, 1, none⟩ = some v := (hc3 q 1 ql).trans c1; have y0 : w3.cell? ⟨r, 0, none⟩ = some (.bool bY) := (hc3 r 0 rl).trans d0; have y1 : w3.cell? ⟨r, 1, none⟩ = some u := (hc3 r 1 rl).trans d1; have hs3 := hb3.size; have ql3 : q < w3.heap.size := (Nat.lt_of_lt_of_le ql hs3); have rl3 : r < w3.heap.size := (Nat.lt_of_lt_of_le rl hs3))
          | (go_at_call 68; refine (set_z p _ _ _ (x + y) _ (hp.ext (ext_trans (by first | exact drewN_below w _ | exact (Below.refl _ _).drew) hb3)) hz3 HS.out.1 HS.out.2).mono ?_; rintro e w4 ⟨rfl, hz4, hb4⟩; have hc4 := butCell hb4; have u0 : w4.cell? ⟨q, 0, none⟩ = some (.bool bx) := (hc4 q 0 ql3 hqp).trans z0; have u1 : w4.cell? ⟨q, 1, none⟩ = some v := (hc4 q 1 ql3 hqp).trans z1; have x0 : w4.cell? ⟨r, 0, none⟩ = some (.bool bY) := (hc4 r 0 rl3 hrp).trans y0; have x1 : w4.cell? ⟨r, 1, none⟩ = some u := (hc4 r 1 rl3 hrp).trans y1))
      all_goals
        go_wp2
        go_ret
        exact ⟨rfl, hz4, (((But.refl p w).ext (drewN_below w _)).ext hb3).trans hb4⟩
  · have hs := HSE.out hbe
    have HS := Lib.hid hs
    clear hs
    go_enter Try.func70, Try.ntmps70
    go_wp2_with fail
    go_quiet (fail)
    go_wp2_with fail
    go_region_held3 (fun w' => w'.cell? ⟨q, 0, none⟩ = some (.bool bx) ∧ w'.cell? ⟨q, 1, none⟩ = some v ∧ w'.cell? ⟨r, 1, none⟩ = some u)
      (first | (go_keep; done))
      (first
        | (go_at_call 86; refine (plus_calls v u _ _ _ wx wy (by first | exact hv.ext (drewN_below w _) | exact hv.ext (Below.refl _ _).drew) (by first | exact hu.ext (drewN_below w _) | exact hu.ext (Below.refl _ _).drew)).mono ?_; rintro e w3 ⟨z3, rfl, hz3, hb3⟩; obtain ⟨hc3, hf3⟩ := bcell hb3; have z0 : w3.cell? ⟨q, 0, none⟩ = some (.bool bx) := (hc3 q 0 ql).trans c0; have z1 : w3.cell? ⟨q, 1, none⟩ = some v := (hc3 q 1 ql).trans c1; have y0 : w3.cell? ⟨r, 0, none⟩ = some (.bool bY) := (hc3 r 0 rl).trans d0; have y1 : w3.cell? ⟨r, 1, none⟩ = some u := (hc3 r 1 rl).trans d1; have hs3 := hb3.size; have ql3 : q < w3.heap.size := (Nat.lt_of_lt_of_le ql hs3); have rl3 : r < w3.heap.size := (Nat.lt_of_lt_of_le rl hs3))
        | (go_at_call 68; refine (set_z p _ _ _ (x + y) _ (hp.ext (ext_trans (by first | exact drewN_below w _ | exact (Below.refl _ _).drew) hb3)) hz3 HS.out.1 HS.out.2).mono ?_; rintro e w4 ⟨rfl, hz4, hb4⟩; have hc4 := butCell hb4; have u0 : w4.cell? ⟨q, 0, none⟩ = some (.bool bx) := (hc4 q 0 ql3 hqp).trans z0; have u1 : w4.cell? ⟨q, 1, none⟩ = some v := (hc4 q 1 ql3 hqp).trans z1; have x0 : w4.cell? ⟨r, 0, none⟩ = some (.bool bY) := (hc4 r 0 rl3 hrp).trans y0; have x1 : w4.cell? ⟨r, 1, none⟩ = some u := (hc4 r 1 rl3 hrp).trans y1))
    all_goals
      go_wp2
      go_ret
      exact ⟨rfl, hz4, (((But.refl p w).ext (drewN_below w _)).ext hb3).trans hb4⟩

set_option maxRecDepth 100000 in
set_option maxHeartbeats 1000000 in
theorem sub_calls (p q r : Nat) (x y : Int) (w : World) (hq : p ≠ q) (hp : IntBlk w p) (hx : BigP w q x) (hy : BigP w r y) (wx : Wide x) (wy : Wide y) :
    Calls Try.prog 54 #[.pointer (some ⟨p, 0, none⟩), .pointer (some ⟨q, 0, none⟩), .pointer (some ⟨r, 0, none⟩)] w fun e w' => e = .returned (.pointer (some ⟨p, 0, none⟩)) ∧ BigP w' p (x - y) ∧ But p w w' := by
  have pl := hp.lt
  have ql := hx.lt
  have wy' : Wide (-y) := by unfold Wide; rw [Int.natAbs_neg]; exact wy
  have hn1 : BigP (w.alloc (.cells #[.bool false, .slice none 0 0] 96 (0, 0))) r y := hy.ext ((Below.refl _ _).alloc (Nat.le_refl _) _)
  have hn2 : IntBlk (w.alloc (.cells #[.bool false, .slice none 0 0] 96 (0, 0))) w.heap.size := ⟨false, none, 0, 0, Blk.new _ [.bool false, .slice none 0 0] _⟩
  go_enter Try.func54, Try.ntmps54
  go_wp2_with fail
  refine (neg_calls w.heap.size r y _ hn2 hn1).mono ?_; rintro e w3 ⟨rfl, hz3, hb3⟩
  have hb := hb3.grown (by simp) ((Below.refl _ _).alloc (Nat.le_refl _) _)
  go_wp2_with fail
  refine (add_calls p q w.heap.size x (-y) w3 hq (by omega) (hp.ext hb) (hx.ext hb) hz3 wx wy').mono ?_; rintro e w4 ⟨rfl, hz4, hb4⟩
  go_wp2
  go_ret
  exact ⟨rfl, by rw [Int.sub_eq_add_neg]; exact hz4, ((But.refl p w).ext hb).trans hb4⟩

theorem mul_sign (x y : Int) : (x * y).natAbs = x.natAbs * y.natAbs ∧ ((!(decide (x < 0) == decide (y < 0))) && decide (0 < x.natAbs * y.natAbs)) = decide (x * y < 0) := by
  refine ⟨Int.natAbs_mul x y, ?_⟩
  rw [← Int.natAbs_mul]
  by_cases hx : x < 0 <;> by_cases hy : y < 0
  · have := Int.mul_pos_of_neg_of_neg hx hy
    simp [hx, hy]; omega
  · rcases Int.lt_or_le 0 y with h | h
    · have := Int.mul_neg_of_neg_of_pos hx h
      simp [hx, hy, this]; omega
    · have : y = 0 := by omega
      subst this; simp
  · rcases Int.lt_or_le 0 x with h | h
    · have := Int.mul_neg_of_pos_of_neg h hy
      simp [hx, hy, this]; omega
    · have : x = 0 := by omega
      subst this; simp
  · have := Int.mul_nonneg (show 0 ≤ x by omega) (show 0 ≤ y by omega)
    simp [hx, hy]; omega

set_option maxRecDepth 100000 in
set_option maxHeartbeats 2000000 in
theorem mul_calls (p q r : Nat) (x y : Int) (w : World) (hq : p ≠ q) (hr : p ≠ r) (hp : IntBlk w p) (hx : BigP w q x) (hy : BigP w r y) (wx : x.natAbs < 18446744073709551616) (wy : y.natAbs < 18446744073709551616) :
    Calls Try.prog 53 #[.pointer (some ⟨p, 0, none⟩), .pointer (some ⟨q, 0, none⟩), .pointer (some ⟨r, 0, none⟩)] w fun e w' => e = .returned (.pointer (some ⟨p, 0, none⟩)) ∧ BigP w' p (x * y) ∧ But p w w' := by
  obtain ⟨v, hb, hv⟩ := id hx
  obtain ⟨u, hd, hu⟩ := id hy
  have c0 : w.cell? ⟨q, 0, none⟩ = some (.bool (decide (x < 0))) := hb.cell 0 (by simp)
  have c1 : w.cell? ⟨q, 1, none⟩ = some v := hb.cell 1 (by simp)
  have d0 : w.cell? ⟨r, 0, none⟩ = some (.bool (decide (y < 0))) := hd.cell 0 (by simp)
  have d1 : w.cell? ⟨r, 1, none⟩ = some u := hd.cell 1 (by simp)
  have ql := hx.lt
  have rl := hy.lt
  have q4 := neqBool
  have hqp : q ≠ p := fun h => hq h.symm
  have hrp : r ≠ p := fun h => hr h.symm
  have hs := mul_sign x y
  obtain ⟨bx, hbx⟩ : ∃ bx, Hid (decide (x < 0) = bx) := ⟨_, rfl⟩
  obtain ⟨bY, hby⟩ : ∃ bY, Hid (decide (y < 0) = bY) := ⟨_, rfl⟩
  rw [hbx.out] at c0
  rw [hby.out] at d0
  rw [hbx.out, hby.out] at hs
  have HS := Lib.hid hs
  clear hs hb hd
  go_enter Try.func53, Try.ntmps53
  go_wp2_with fail
  go_region_held3 (fun w' => w'.cell? ⟨q, 0, none⟩ = some (.bool bx) ∧ w'.cell? ⟨q, 1, none⟩ = some v ∧ w'.cell? ⟨r, 0, none⟩ = some (.bool bY) ∧ w'.cell? ⟨r, 1, none⟩ = some u)
    (first | (go_keep; done))
    (first
      | (go_at_call 69; refine (times_small v u _ _ _ wx wy (by first | exact hv.ext (drewN_below w _) | exact hv.ext (Below.refl _ _).drew) (by first | exact hu.ext (drewN_below w _) | exact hu.ext (Below.refl _ _).drew)).mono ?_; rintro e w3 ⟨z3, rfl, hz3, hb3⟩; obtain ⟨hc3, hf3⟩ := bcell hb3; have z0 : w3.cell? ⟨q, 0, none⟩ = some (.bool bx) := (hc3 q 0 ql).trans c0; have z1 : w3.cell? ⟨q, 1, none⟩ = some v := (hc3 q 1 ql).trans c1; have y0 : w3.cell? ⟨r, 0, none⟩ = some (.bool bY) := (hc3 r 0 rl).trans d0; have y1 : w3.cell? ⟨r, 1, none⟩ = some u := (hc3 r 1 rl).trans d1; have hs3 := hb3.size; have ql3 : q < w3.heap.size := (Nat.lt_of_lt_of_le ql hs3); have rl3 : r < w3.heap.size := (Nat.lt_of_lt_of_le rl hs3))
      | (go_at_call 68; refine (set_z p _ _ _ (x * y) _ (hp.ext (ext_trans (by first | exact drewN_below w _ | exact (Below.refl _ _).drew) hb3)) hz3 HS.out.1 HS.out.2).mono ?_; rintro e w4 ⟨rfl, hz4, hb4⟩; have hc4 := butCell hb4; have u0 : w4.cell? ⟨q, 0, none⟩ = some (.bool bx) := (hc4 q 0 ql3 hqp).trans z0; have u1 : w4.cell? ⟨q, 1, none⟩ = some v := (hc4 q 1 ql3 hqp).trans z1; have x0 : w4.cell? ⟨r, 0, none⟩ = some (.bool bY) := (hc4 r 0 rl3 hrp).trans y0; have x1 : w4.cell? ⟨r, 1, none⟩ = some u := (hc4 r 1 rl3 hrp).trans y1))
  all_goals
    go_wp2
    go_ret
    exact ⟨rfl, hz4, (((But.refl p w).ext (drewN_below w _)).ext hb3).trans hb4⟩
end Go.Proofs.Ytbdlfjhhgnhejaa
