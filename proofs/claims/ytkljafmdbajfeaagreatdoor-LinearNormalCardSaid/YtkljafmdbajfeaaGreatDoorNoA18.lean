/- Package big: Set, Neg, Abs, Sub, QuoRem, Quo, DivMod, Mod. -/
import Derived.Test.YtkljafmdbajfeaaGreatDoorNoA17
namespace Go.Proofs.YtkljafmdbajfeaaGreatDoor
open Go.RowKit
set_option linter.unusedVariables false
set_option linter.unusedSimpArgs false
theorem set_sign (z : Int) : (decide (z < 0) && decide (0 < z.natAbs)) = decide (z < 0) := by
  by_cases h : z < 0
  · rw [decide_eq_true h, decide_eq_true (show 0 < z.natAbs by omega)]; rfl
  · rw [decide_eq_false h]; rfl
set_option maxRecDepth 100000 in
set_option maxHeartbeats 1000000 in
theorem setInt_t (p q : Nat) (z : Int) (w : World) (hp : IntBlk w p) (hz : BigP w q z) :
    Calls Tryz.prog 161 #[.pointer (some ⟨p, 0, none⟩), .pointer (some ⟨q, 0, none⟩)] w fun e w' => e = .returned (.pointer (some ⟨p, 0, none⟩)) ∧ BigP w' p z ∧ But p w w' ∧ Tail p w w' := by
  obtain ⟨-, v, hb0, hb1, hv⟩ := id hz
  have c0 : w.cell? ⟨q, 0, none⟩ = some (.bool (decide (z < 0))) := hb0
  have c1 : w.cell? ⟨q, 1, none⟩ = some v := hb1
  have hs := set_sign z
  have HS := Lib.hid hs
  clear hs hb0 hb1 hz
  go_enter Tryz.func161, Tryz.ntmps161
  go_wp2_with fail
  go_still_tail 9, (by kernel_rfl)
  change wpList _ _ _ _ _ w.drew
  go_wp2_with fail
  refine (set_t p _ v z.natAbs z w.drew (hp.ext (drewN_below w 1)) (hv.ext (drewN_below w 1)) rfl HS.out).mono ?_; rintro e w3 ⟨rfl, hz3, hb3, ht3⟩
  go_wp2
  go_ret
  exact ⟨rfl, hz3, ((But.refl p w).ext (drewN_below w 1)).trans hb3, Tail.trans (Tail.of rfl) ht3⟩
set_option maxRecDepth 100000 in
set_option maxHeartbeats 1000000 in
theorem neg_t (p q : Nat) (z : Int) (w : World) (hp : IntBlk w p) (hz : BigP w q z) :
    Calls Tryz.prog 164 #[.pointer (some ⟨p, 0, none⟩), .pointer (some ⟨q, 0, none⟩)] w fun e w' => e = .returned (.pointer (some ⟨p, 0, none⟩)) ∧ BigP w' p (-z) ∧ But p w w' ∧ Tail p w w' := by
  obtain ⟨-, v, hb0, hb1, hv⟩ := id hz
  have c0 : w.cell? ⟨q, 0, none⟩ = some (.bool (decide (z < 0))) := hb0
  have c1 : w.cell? ⟨q, 1, none⟩ = some v := hb1
  have hs := neg_sign z
  have HS := Lib.hid hs
  clear hs hb0 hb1 hz
  go_enter Tryz.func164, Tryz.ntmps164
  go_wp2_with fail
  go_still_tail 10, (by kernel_rfl)
  change wpList _ _ _ _ _ w.drew
  go_wp2_with fail
  refine (set_t p _ v z.natAbs (-z) w.drew (hp.ext (drewN_below w 1)) (hv.ext (drewN_below w 1)) (by omega) HS.out).mono ?_; rintro e w3 ⟨rfl, hz3, hb3, ht3⟩
  go_wp2
  go_ret
  exact ⟨rfl, hz3, ((But.refl p w).ext (drewN_below w 1)).trans hb3, Tail.trans (Tail.of rfl) ht3⟩
set_option maxRecDepth 100000 in
set_option maxHeartbeats 1000000 in
theorem abs_calls (p q : Nat) (z : Int) (w : World) (hp : IntBlk w p) (hz : BigP w q z) :
    Calls Tryz.prog 173 #[.pointer (some ⟨p, 0, none⟩), .pointer (some ⟨q, 0, none⟩)] w fun e w' => e = .returned (.pointer (some ⟨p, 0, none⟩)) ∧ BigP w' p (z.natAbs : Int) ∧ But p w w' := by
  obtain ⟨-, v, hb0, hb1, hv⟩ := id hz
  have c1 : w.cell? ⟨q, 1, none⟩ = some v := hb1
  clear hb0 hb1 hz
  go_enter Tryz.func173, Tryz.ntmps173
  go_wp2_with fail
  refine (set_t p _ v z.natAbs (z.natAbs : Int) w hp hv (by omega) (by simp)).mono ?_; rintro e w3 ⟨rfl, hz3, hb3, ht3⟩
  go_wp2
  go_ret
  exact ⟨rfl, hz3, hb3⟩
set_option maxRecDepth 100000 in
set_option maxHeartbeats 1000000 in
theorem sub_t (p q r : Nat) (x y : Int) (w : World) (hp : IntBlk w p) (hx : BigP w q x) (hy : BigP w r y) (wx : Wide x) (wy : Wide y) :
    Calls Tryz.prog 206 #[.pointer (some ⟨p, 0, none⟩), .pointer (some ⟨q, 0, none⟩), .pointer (some ⟨r, 0, none⟩)] w fun e w' => e = .returned (.pointer (some ⟨p, 0, none⟩)) ∧ BigP w' p (x - y) ∧ But p w w' ∧ Tail p w w' := by
  have pl := hp.lt
  have ql := hx.lt
  have wy' : Wide (-y) := by unfold Wide; rw [Int.natAbs_neg]; exact wy
  have hn1 : BigP (w.alloc (.cells #[.bool false, .slice none 0 0] 196 (0, 0))) r y := hy.ext ((Below.refl _ _).alloc (Nat.le_refl _) _)
  have hn2 : IntBlk (w.alloc (.cells #[.bool false, .slice none 0 0] 196 (0, 0))) w.heap.size := .of (Blk.new _ [.bool false, .slice none 0 0] _)
  go_enter Tryz.func206, Tryz.ntmps206
  go_wp2_with fail
  refine (neg_calls w.heap.size r y _ hn2 hn1).mono ?_; rintro e w3 ⟨rfl, hz3, hb3⟩
  have hb := hb3.grown (by simp) ((Below.refl _ _).alloc (Nat.le_refl _) _)
  go_wp2_with fail
  refine (add_t p q w.heap.size x (-y) w3 (hp.ext hb) (hx.ext hb) hz3 wx wy').mono ?_; rintro e w4 ⟨rfl, hz4, hb4, ht4⟩
  go_wp2
  go_ret
  exact ⟨rfl, by rw [Int.sub_eq_add_neg]; exact hz4, ((But.refl p w).ext hb).trans hb4, Tail.trans (Tail.of (hb.block p pl)) ht4⟩
structure But2 (p s : Nat) (w w' : World) : Prop where
  os : w'.os = w.os
  tape : w'.tape = w.tape
  output : w'.output = w.output
  size : w.heap.size ≤ w'.heap.size
  block : ∀ k, k < w.heap.size → k ≠ p → k ≠ s → w'.heap[k]? = w.heap[k]?
theorem But2.of {p s : Nat} {w w1 w' : World} (h : But p w w1) (k : But s w1 w') : But2 p s w w' :=
  ⟨k.os.trans h.os, k.tape.trans h.tape, k.output.trans h.output, Nat.le_trans h.size k.size, fun i hi h1 h2 => (k.block i (Nat.lt_of_lt_of_le hi h.size) h2).trans (h.block i hi h1)⟩
theorem But2.pre {p s : Nat} {w w1 w' : World} (h : Below w.heap.size w w1) (k : But2 p s w1 w') : But2 p s w w' :=
  ⟨k.os.trans h.os, k.tape.trans h.tape, k.output.trans h.output, Nat.le_trans h.size k.size, fun i hi h1 h2 => (k.block i (Nat.lt_of_lt_of_le hi h.size) h1 h2).trans (h.block i hi)⟩
theorem But2.below {p s B : Nat} {w w' : World} (h : But2 p s w w') (hp : B ≤ p) (hs : B ≤ s) (hB : B ≤ w.heap.size) : Below B w w' :=
  ⟨h.os, h.tape, h.output, h.size, fun k hk => h.block k (by omega) (by omega) (by omega)⟩
theorem But2.snd {p s : Nat} {w w' : World} (h : But2 p s w w') (hs : w.heap.size ≤ s) : But p w w' :=
  ⟨h.os, h.tape, h.output, h.size, fun k hk h1 => h.block k hk h1 (by omega)⟩
theorem tdiv_sign (x y : Int) : (x.tdiv y).natAbs = x.natAbs / y.natAbs ∧ ((!(decide (x < 0) == decide (y < 0))) && decide (0 < x.natAbs / y.natAbs)) = decide (x.tdiv y < 0) := by
  have h1 : (x.tdiv y).natAbs = x.natAbs / y.natAbs := Int.natAbs_tdiv x y
  refine ⟨h1, ?_⟩
  rw [← h1]
  have e1 : x < 0 → y < 0 → 0 ≤ x.tdiv y := fun h k => Int.tdiv_nonneg_of_nonpos_of_nonpos (by omega) (by omega)
  have e2 : x < 0 → ¬ y < 0 → 0 ≤ -(x.tdiv y) := fun h k => by
    have : 0 ≤ (-x).tdiv y := Int.tdiv_nonneg (by omega) (by omega)
    rwa [Int.neg_tdiv] at this
  have e3 : ¬ x < 0 → y < 0 → 0 ≤ -(x.tdiv y) := fun h k => by
    have : 0 ≤ x.tdiv (-y) := Int.tdiv_nonneg (by omega) (by omega)
    rwa [Int.tdiv_neg] at this
  have e4 : ¬ x < 0 → ¬ y < 0 → 0 ≤ x.tdiv y := fun h k => Int.tdiv_nonneg (by omega) (by omega)
  clear h1
  generalize x.tdiv y = t at *
  by_cases hx : x < 0 <;> by_cases hy : y < 0
  · have := e1 hx hy
    rw [decide_eq_true hx, decide_eq_true hy, decide_eq_false (show ¬ t < 0 by omega)]; rfl
  · have := e2 hx hy
    rw [decide_eq_true hx, decide_eq_false hy, decide_eq_decide.2 (show 0 < t.natAbs ↔ t < 0 by omega)]; rfl
  · have := e3 hx hy
    rw [decide_eq_false hx, decide_eq_true hy, decide_eq_decide.2 (show 0 < t.natAbs ↔ t < 0 by omega)]; rfl
  · have := e4 hx hy
    rw [decide_eq_false hx, decide_eq_false hy, decide_eq_false (show ¬ t < 0 by omega)]; rfl
theorem tmod_sign (x y : Int) : (x.tmod y).natAbs = x.natAbs % y.natAbs ∧ (decide (x < 0) && decide (0 < x.natAbs % y.natAbs)) = decide (x.tmod y < 0) := by
  have h1 : (x.tmod y).natAbs = x.natAbs % y.natAbs := Int.natAbs_tmod x y
  refine ⟨h1, ?_⟩
  rw [← h1]
  have e1 : x < 0 → 0 ≤ -(x.tmod y) := fun h => by
    have : 0 ≤ (-x).tmod y := Int.tmod_nonneg _ (by omega)
    rwa [Int.neg_tmod] at this
  have e2 : ¬ x < 0 → 0 ≤ x.tmod y := fun h => Int.tmod_nonneg y (by omega)
  clear h1
  generalize x.tmod y = t at *
  by_cases hx : x < 0
  · have := e1 hx
    rw [decide_eq_true hx, decide_eq_decide.2 (show 0 < t.natAbs ↔ t < 0 by omega)]; rfl
  · have := e2 hx
    rw [decide_eq_false hx, decide_eq_false (show ¬ t < 0 by omega)]; rfl
set_option maxRecDepth 100000 in
set_option maxHeartbeats 2000000 in
theorem quoRem_calls (p q r s : Nat) (x y : Int) (w : World) (hp : IntBlk w p) (hs : IntBlk w s) (hne : p ≠ s) (hx : BigP w q x) (hy : BigP w r y) (hy0 : y ≠ 0) (wx : Wide x) (wy : Wide y) :
    Calls Tryz.prog 162 #[.pointer (some ⟨p, 0, none⟩), .pointer (some ⟨q, 0, none⟩), .pointer (some ⟨r, 0, none⟩), .pointer (some ⟨s, 0, none⟩)] w fun e w' => e = .returned (.tuple #[.pointer (some ⟨p, 0, none⟩), .pointer (some ⟨s, 0, none⟩)]) ∧ BigP w' p (x.tdiv y) ∧ BigP w' s (x.tmod y) ∧ But2 p s w w' := by
  obtain ⟨-, v, hb0, hb1, hv⟩ := id hx
  obtain ⟨-, u, hd0, hd1, hu⟩ := id hy
  have c0 : w.cell? ⟨q, 0, none⟩ = some (.bool (decide (x < 0))) := hb0
  have c1 : w.cell? ⟨q, 1, none⟩ = some v := hb1
  have d0 : w.cell? ⟨r, 0, none⟩ = some (.bool (decide (y < 0))) := hd0
  have d1 : w.cell? ⟨r, 1, none⟩ = some u := hd1
  obtain ⟨bx, hbx⟩ : ∃ bx, Hid (decide (x < 0) = bx) := ⟨_, rfl⟩
  obtain ⟨bY, hby⟩ : ∃ bY, Hid (decide (y < 0) = bY) := ⟨_, rfl⟩
  rw [hbx.out] at c0
  rw [hby.out] at d0
  have h1 := tdiv_sign x y
  have h2 := tmod_sign x y
  rw [hbx.out, hby.out] at h1
  rw [hbx.out] at h2
  obtain ⟨bs, hbs⟩ : ∃ bs, Hid ((!(bx == bY)) = bs) := ⟨_, rfl⟩
  have q5 : ∀ w, (binOp .neq 4 (.bool bx) (.bool bY)).run Tryz.prog w = .ok (.bool bs) w := fun w => by rw [neqBool, hbs.out]
  rw [hbs.out] at h1
  have H1 := Lib.hid h1; have H2 := Lib.hid h2
  have HDV : Hid (∀ W, Below w.heap.size w W → _) := Lib.hid fun W hW => divide_calls v u x.natAbs y.natAbs W (by omega) wx wy (hv.ext hW) (hu.ext hW)
  have ql := hx.lt
  have rl := hy.lt
  clear hb0 hb1 hd0 hd1 hv hu hx hy h1 h2
  go_enter Tryz.func162, Tryz.ntmps162
  go_wp2_with fail
  go_region_held3 (fun w' => w'.cell? ⟨q, 1, none⟩ = some v ∧ w'.cell? ⟨r, 1, none⟩ = some u)
    (first | (go_keep; done))
    (first | (go_at_call 195; ((with_reducible refine (HDV.out _ (by first | exact drewN_below w _ | exact (Below.refl _ _).drew | exact Below.refl _ _)).mono ?_); rintro e w2 ⟨v1, v2, rfl, hv1, hv2, hb2⟩); have hB2 : Below w.heap.size w w2 := ext_trans (by first | exact drewN_below w _ | exact (Below.refl _ _).drew | exact Below.refl _ _) hb2; have hc2 := (bcell hB2).1; have z0 := (hc2 _ _ ql).trans c0; have z1 := (hc2 _ _ ql).trans c1; have y0 := (hc2 _ _ rl).trans d0; have y1 := (hc2 _ _ rl).trans d1; have HV1 := Lib.hid hv1; have HV2 := Lib.hid hv2; clear hc2 hb2 hv1 hv2))
  all_goals
    clear c0 c1 d0 d1 HDV
    go_wp2_with fail
    go_quiet (fail)
    have hB3 : Below w.heap.size w (w2.drewN nq) := hB2.trans ((drewN_below w2 nq).mono hB2.size)
    obtain ⟨w3, hw3⟩ : ∃ w3, Hid (w2.drewN nq = w3) := ⟨_, rfl⟩
    have HV1' := Lib.hid (HV1.out.drewN nq); have HV2' := Lib.hid (HV2.out.drewN nq)
    rw [hw3.out] at hB3 HV1' HV2' ⊢
    clear z0 z1 y0 y1
    go_wp2_with fail
    refine (set_z p _ _ _ (x.tdiv y) w3 (hp.ext hB3) HV1'.out H1.out.1 H1.out.2).mono ?_; rintro e w4 ⟨rfl, hz4, hb4⟩
    have HZ4 := Lib.hid hz4
    clear hz4
    go_wp2_with fail
    refine (set_z s _ _ _ (x.tmod y) w4 ((hs.ext hB3).other hb4 hne.symm) (HV2'.out.but (hp.ext hB3) hb4) H2.out.1 H2.out.2).mono ?_; rintro e w5 ⟨rfl, hz5, hb5⟩
    go_wp2
    go_ret2
    exact ⟨rfl, HZ4.out.but ((hs.ext hB3).other hb4 hne.symm) hb5 hne, hz5, But2.pre hB3 (But2.of hb4 hb5)⟩
set_option maxRecDepth 100000 in
set_option maxHeartbeats 1000000 in
theorem quo_calls (p q r : Nat) (x y : Int) (w : World) (hp : IntBlk w p) (hx : BigP w q x) (hy : BigP w r y) (hy0 : y ≠ 0) (wx : Wide x) (wy : Wide y) :
    Calls Tryz.prog 174 #[.pointer (some ⟨p, 0, none⟩), .pointer (some ⟨q, 0, none⟩), .pointer (some ⟨r, 0, none⟩)] w fun e w' => e = .returned (.pointer (some ⟨p, 0, none⟩)) ∧ BigP w' p (x.tdiv y) ∧ But p w w' := by
  have pl := hp.lt
  have hA : Below w.heap.size w (w.alloc (.cells #[.bool false, .slice none 0 0] 196 (0, 0))) := (Below.refl _ _).alloc (Nat.le_refl _) _
  have hn2 : IntBlk (w.alloc (.cells #[.bool false, .slice none 0 0] 196 (0, 0))) w.heap.size := .of (Blk.new _ [.bool false, .slice none 0 0] _)
  have HC := Lib.hid (quoRem_calls p q r w.heap.size x y _ (hp.ext hA) hn2 (by omega) (hx.ext hA) (hy.ext hA) hy0 wx wy)
  go_enter Tryz.func174, Tryz.ntmps174
  go_wp2_with fail
  refine HC.out.mono ?_; rintro e w3 ⟨rfl, hz, hr, hb⟩
  have hb2 := (But2.pre hA hb).snd (Nat.le_refl _)
  have HZ := Lib.hid hz
  clear hz hr hb HC
  go_wp2
  go_ret
  exact ⟨rfl, HZ.out, hb2⟩
end Go.Proofs.YtkljafmdbajfeaaGreatDoor

/- Package big: DivMod, Mod. -/
namespace Go.Proofs.YtkljafmdbajfeaaGreatDoor
open Go.RowKit
set_option linter.unusedVariables false
set_option linter.unusedSimpArgs false
theorem Wide.mono {x y : Int} (h : Wide y) (hn : x.natAbs ≤ y.natAbs) : Wide x := Nat.le_trans (digits_mono_len hn) h
theorem wide_small {x : Int} (h : x.natAbs < 18446744073709551616) : Wide x := Nat.le_trans (digits_small.2 h) (by omega)
theorem mod_low (x y : Int) (hy : 0 < y) (h : x.tmod y < 0) : x / y = x.tdiv y - 1 ∧ x % y = x.tmod y + y := by
  have h1 := Int.mul_tdiv_add_tmod x y
  have h2 := Int.natAbs_tmod x y
  have h3 : x.natAbs % y.natAbs < y.natAbs := Nat.mod_lt _ (by omega)
  have := (Int.ediv_emod_unique hy (a := x) (r := x.tmod y + y) (q := x.tdiv y - 1)).2 ⟨by rw [Int.mul_sub]; omega, by omega, by omega⟩
  exact this
theorem mod_high (x y : Int) (hy : 0 < y) (h : 0 ≤ x.tmod y) : x / y = x.tdiv y ∧ x % y = x.tmod y := by
  have h1 := Int.mul_tdiv_add_tmod x y
  have h2 := Int.natAbs_tmod x y
  have h3 : x.natAbs % y.natAbs < y.natAbs := Nat.mod_lt _ (by omega)
  exact (Int.ediv_emod_unique hy (a := x) (r := x.tmod y) (q := x.tdiv y)).2 ⟨by omega, h, by omega⟩
set_option maxRecDepth 100000 in
set_option maxHeartbeats 2000000 in
theorem divMod_calls (p q r s : Nat) (x y : Int) (w : World) (hp : IntBlk w p) (hs : IntBlk w s) (hne : p ≠ s) (hx : BigP w q x) (hy : BigP w r y) (hy0 : 0 < y) (wx : Wide x) (wy : Wide y) :
    Calls Tryz.prog 188 #[.pointer (some ⟨p, 0, none⟩), .pointer (some ⟨q, 0, none⟩), .pointer (some ⟨r, 0, none⟩), .pointer (some ⟨s, 0, none⟩)] w fun e w' => e = .returned (.tuple #[.pointer (some ⟨p, 0, none⟩), .pointer (some ⟨s, 0, none⟩)]) ∧ BigP w' p (x / y) ∧ BigP w' s (x % y) ∧ But2 p s w w' := by
  have pl := hp.lt
  have sl := hs.lt
  have rl := hy.lt
  have hA1 : Below w.heap.size w (w.alloc (.cells #[.bool false, .slice none 0 0] 196 (0, 0))) := (Below.refl _ _).alloc (Nat.le_refl _) _
  have hA2 : Below w.heap.size w ((w.alloc (.cells #[.bool false, .slice none 0 0] 196 (0, 0))).alloc (.cells #[.bool false, .slice none 0 0] 196 (0, 0))) := hA1.alloc hA1.size _
  have hn1 : IntBlk ((w.alloc (.cells #[.bool false, .slice none 0 0] 196 (0, 0))).alloc (.cells #[.bool false, .slice none 0 0] 196 (0, 0))) w.heap.size := (IntBlk.of (Blk.new _ [.bool false, .slice none 0 0] _)).ext ((Below.refl _ _).alloc (Nat.le_refl _) _)
  have hn2 : IntBlk ((w.alloc (.cells #[.bool false, .slice none 0 0] 196 (0, 0))).alloc (.cells #[.bool false, .slice none 0 0] 196 (0, 0))) (w.heap.size + 1) := by
    have := Blk.new (w.alloc (.cells #[.bool false, .slice none 0 0] 196 (0, 0))) [.bool false, .slice none 0 0] 196
    rw [show (w.alloc (.cells #[.bool false, .slice none 0 0] 196 (0, 0))).heap.size = w.heap.size + 1 by simp] at this
    exact .of this
  have HC := Lib.hid (quoRem_calls w.heap.size q r (w.heap.size + 1) x y _ hn1 hn2 (by omega) (hx.ext hA2) (hy.ext hA2) (by omega) wx wy)
  have HA2 := Lib.hid hA2
  have hlo := mod_low x y hy0
  have hhi := mod_high x y hy0
  have HLO := Lib.hid hlo; have HHI := Lib.hid hhi
  have wq : Wide (x.tdiv y) := wx.mono (by rw [Int.natAbs_tdiv]; exact Nat.div_le_self _ _)
  have wr : Wide (x.tmod y) := wx.mono (by rw [Int.natAbs_tmod]; exact Nat.mod_le _ _)
  clear hA1 hA2 hn1 hn2 hlo hhi
  generalize x.tdiv y = Q at *
  generalize x.tmod y = R at *
  go_enter Tryz.func188, Tryz.ntmps188
  go_wp2_with fail
  refine HC.out.mono ?_; rintro e w3 ⟨rfl, hq3, hr3, hb3⟩
  have hB3 : Below w.heap.size w w3 := HA2.out.trans (hb3.below (Nat.le_refl _) (by omega) HA2.out.size)
  have HB3 := Lib.hid hB3
  have hsg := sign_calls (w.heap.size + 1) R w3 hr3
  have HQ3 := Lib.hid hq3; have HR3 := Lib.hid hr3
  clear hq3 hr3 hb3 HC HA2 hB3
  by_cases hR : R < 0
  · rw [sgnI_lt hR] at hsg
    have HSG := Lib.hid hsg
    obtain ⟨f1, f2⟩ := HLO.out hR
    have F1 := Lib.hid f1; have F2 := Lib.hid f2
    clear hsg f1 f2 HHI
    go_wp2_with fail
    refine HSG.out.mono ?_; rintro e w4 ⟨rfl, e4⟩
    subst e4
    go_wp2_with fail
    refine (newInt_calls 1 w4 (by omega) (by omega)).mono ?_; rintro e w5 ⟨pn, rfl, hpn, h15, hb5⟩
    have hB5 := HB3.out.trans (hb5.mono HB3.out.size)
    have hq5 := HQ3.out.ext hb5
    have hr5 := HR3.out.ext hb5
    have HB5 := Lib.hid hB5; have HR5 := Lib.hid hr5; have HQ5 := Lib.hid hq5; have H15 := Lib.hid h15
    clear hb5 hB5 hq5 hr5 h15
    go_wp2_with fail
    refine (sub_t w.heap.size w.heap.size pn Q 1 w5 HQ5.out.blk HQ5.out H15.out wq (wide_small (by decide))).mono ?_; rintro e w6 ⟨rfl, hq6, hb6, -⟩
    have hr6 := HR5.out.but HQ5.out.blk hb6 (by omega)
    have hy6 : BigP w6 r y := (hy.ext HB5.out).but HQ5.out.blk hb6 (by omega)
    have hB6 := HB5.out.trans (hb6.below (Nat.le_refl _) HB5.out.size)
    have HR6 := Lib.hid hr6; have HY6 := Lib.hid hy6; have HB6 := Lib.hid hB6; have HQ6 := Lib.hid hq6
    clear hr6 hy6 hB6 hq6 hb6
    go_wp2_with fail
    refine (add_t (w.heap.size + 1) (w.heap.size + 1) r R y w6 HR6.out.blk HR6.out HY6.out wr wy).mono ?_; rintro e w7 ⟨rfl, hr7, hb7, -⟩
    have hq7 := HQ6.out.but HR6.out.blk hb7 (by omega)
    have hB7 := HB6.out.trans (hb7.below (by omega) HB6.out.size)
    rw [← F1.out] at hq7
    rw [← F2.out] at hr7
    have HR7 := Lib.hid hr7; have HB7 := Lib.hid hB7; have HQ7 := Lib.hid hq7
    clear hr7 hB7 hq7 hb7
    go_wp2_with fail
    refine (setInt_t p w.heap.size (x / y) w7 (hp.ext HB7.out) HQ7.out).mono ?_; rintro e w8 ⟨rfl, hp8, hb8, -⟩
    have hr8 := HR7.out.but (hp.ext HB7.out) hb8 (by omega)
    have HP8 := Lib.hid hp8; have HR8 := Lib.hid hr8; have HBB := Lib.hid hb8
    clear hp8 hr8 hb8
    go_wp2_with fail
    refine (setInt_t s (w.heap.size + 1) (x % y) w8 ((hs.ext HB7.out).other HBB.out hne.symm) HR8.out).mono ?_; rintro e w9 ⟨rfl, hs9, hb9, -⟩
    go_wp2
    go_ret2
    exact ⟨rfl, HP8.out.but ((hs.ext HB7.out).other HBB.out hne.symm) hb9 hne, hs9, But2.pre HB7.out (But2.of HBB.out hb9)⟩
  · have hR0 : 0 ≤ R := by omega
    have hsg2 : decide (sgnI R 0 < 0) = false := by unfold sgnI; rw [if_neg hR]; split <;> rfl
    obtain ⟨S, hS⟩ : ∃ S, Hid (sgnI R 0 = S) := ⟨_, rfl⟩
    rw [hS.out] at hsg2 hsg
    have HSG := Lib.hid hsg
    obtain ⟨f1, f2⟩ := HHI.out hR0
    have F1 := Lib.hid f1; have F2 := Lib.hid f2
    clear hsg f1 f2 HLO
    go_wp2_with fail
    refine HSG.out.mono ?_; rintro e w4 ⟨rfl, e4⟩
    subst e4
    have hq7 := HQ3.out; have hr7 := HR3.out
    rw [← F1.out] at hq7
    rw [← F2.out] at hr7
    have HR7 := Lib.hid hr7; have HQ7 := Lib.hid hq7
    clear hr7 hq7
    go_wp2_with fail
    refine (setInt_t p w.heap.size (x / y) w4 (hp.ext HB3.out) HQ7.out).mono ?_; rintro e w8 ⟨rfl, hp8, hb8, -⟩
    have hr8 := HR7.out.but (hp.ext HB3.out) hb8 (by omega)
    have HP8 := Lib.hid hp8; have HR8 := Lib.hid hr8; have HBB := Lib.hid hb8
    clear hp8 hr8 hb8
    go_wp2_with fail
    refine (setInt_t s (w.heap.size + 1) (x % y) w8 ((hs.ext HB3.out).other HBB.out hne.symm) HR8.out).mono ?_; rintro e w9 ⟨rfl, hs9, hb9, -⟩
    go_wp2
    go_ret2
    exact ⟨rfl, HP8.out.but ((hs.ext HB3.out).other HBB.out hne.symm) hb9 hne, hs9, But2.pre HB3.out (But2.of HBB.out hb9)⟩
end Go.Proofs.YtkljafmdbajfeaaGreatDoor
