/- Package big: Set, Neg, Abs, Sub, QuoRem, Quo, DivMod, Mod. -/
import Derived.Test.YtkljafmdbajfeaaGreatDoorReA22
namespace Go.Proofs.YtkljafmdbajfeaaGreatDoor
open Go.RowKit
set_option linter.unusedVariables false
set_option linter.unusedSimpArgs false
theorem set_sign (z : Int) : (decide (z < 0) && decide (0 < z.natAbs)) = decide (z < 0) := by
 by_cases h : z < 0
 ·rw [decide_eq_true h, decide_eq_true (show 0 < z.natAbs by omega)]; rfl
 ·rw [decide_eq_false h]; rfl
set_option maxRecDepth 100000 in
set_option maxHeartbeats 1000000 in
theorem setInt_t (p q : Nat) (z : Int) (w : World) (hp : IntBlk w p) (hz : BigP w q z) :
  Calls Tryz.prog 161 #[.pointer (some ⟨p, 0, none⟩), .pointer (some ⟨q, 0, none⟩)] w fun e w' => e = .returned (.pointer (some ⟨p, 0, none⟩)) ∧ BigP w' p z ∧ But p w w' ∧ Tail p w w' := by
 obtain ⟨-, v, hb0, hb1, hv⟩ := id hz
 have c0 : w.cell? ⟨q, 0, none⟩ = some (.bool (decide (z < 0))) := hb0
 have c1 : w.cell? ⟨q, 1, none⟩ = some v := hb1
 have hs := set_sign z
 have HS := Lib.hid hs
 clear hs hb0 hb1 hz
 go_enter Tryz.func161, Tryz.ntmps161
 go_wp2_with fail
 go_still_tail 9, (by kernel_rfl)
 change wpList _ _ _ _ _ w.drew
 go_wp2_with fail
 refine (set_t p _ v z.natAbs z w.drew (hp.ext (drewN_below w 1)) (hv.ext (drewN_below w 1)) rfl HS.out).mono ?_; rintro e w3 ⟨rfl, hz3, hb3, ht3⟩
 go_wp2
 go_ret
 exact ⟨rfl, hz3, ((But.refl p w).ext (drewN_below w 1)).trans hb3, Tail.trans (Tail.of rfl) ht3⟩
set_option maxRecDepth 100000 in
set_option maxHeartbeats 1000000 in
theorem neg_t (p q : Nat) (z : Int) (w : World) (hp : IntBlk w p) (hz : BigP w q z) :
  Calls Tryz.prog 164 #[.pointer (some ⟨p, 0, none⟩), .pointer (some ⟨q, 0, none⟩)] w fun e w' => e = .returned (.pointer (some ⟨p, 0, none⟩)) ∧ BigP w' p (-z) ∧ But p w w' ∧ Tail p w w' := by
 obtain ⟨-, v, hb0, hb1, hv⟩ := id hz
 have c0 : w.cell? ⟨q, 0, none⟩ = some (.bool (decide (z < 0))) := hb0
 have c1 : w.cell? ⟨q, 1, none⟩ = some v := hb1
 have hs := neg_sign z
 have HS := Lib.hid hs
 clear hs hb0 hb1 hz
 go_enter Tryz.func164, Tryz.ntmps164
 go_wp2_with fail
 go_still_tail 10, (by kernel_rfl)
 change wpList _ _ _ _ _ w.drew
 go_wp2_with fail
 refine (set_t p _ v z.natAbs (-z) w.drew (hp.ext (drewN_below w 1)) (hv.ext (drewN_below w 1)) (by omega) HS.out).mono ?_; rintro e w3 ⟨rfl, hz3, hb3, ht3⟩
 go_wp2
 go_ret
 exact ⟨rfl, hz3, ((But.refl p w).ext (drewN_below w 1)).trans hb3, Tail.trans (Tail.of rfl) ht3⟩
set_option maxRecDepth 100000 in
set_option maxHeartbeats 1000000 in
theorem sub_t (p q r : Nat) (x y : Int) (w : World) (hp : IntBlk w p) (hx : BigP w q x) (hy : BigP w r y) (wx : Wide x) (wy : Wide y) :
  Calls Tryz.prog 206 #[.pointer (some ⟨p, 0, none⟩), .pointer (some ⟨q, 0, none⟩), .pointer (some ⟨r, 0, none⟩)] w fun e w' => e = .returned (.pointer (some ⟨p, 0, none⟩)) ∧ BigP w' p (x - y) ∧ But p w w' ∧ Tail p w w' := by
 have pl := hp.lt
 have ql := hx.lt
 have wy' : Wide (-y) := by unfold Wide; rw [Int.natAbs_neg]; exact wy
 have hn1 : BigP (w.alloc (.cells #[.bool false, .slice none 0 0] 196 (0, 0))) r y := hy.ext ((Below.refl _ _).alloc (Nat.le_refl _) _)
 have hn2 : IntBlk (w.alloc (.cells #[.bool false, .slice none 0 0] 196 (0, 0))) w.heap.size := .of (Blk.new _ [.bool false, .slice none 0 0] _)
 go_enter Tryz.func206, Tryz.ntmps206
 go_wp2_with fail
 refine (neg_calls w.heap.size r y _ hn2 hn1).mono ?_; rintro e w3 ⟨rfl, hz3, hb3⟩
 have hb := hb3.grown (by simp) ((Below.refl _ _).alloc (Nat.le_refl _) _)
 go_wp2_with fail
 refine (add_t p q w.heap.size x (-y) w3 (hp.ext hb) (hx.ext hb) hz3 wx wy').mono ?_; rintro e w4 ⟨rfl, hz4, hb4, ht4⟩
 go_wp2
 go_ret
 exact ⟨rfl, by rw [Int.sub_eq_add_neg]; exact hz4, ((But.refl p w).ext hb).trans hb4, Tail.trans (Tail.of (hb.block p pl)) ht4⟩
structure But2 (p s : Nat) (w w' : World) : Prop where
 os : w'.os = w.os
 tape : w'.tape = w.tape
 output : w'.output = w.output
 size : w.heap.size ≤ w'.heap.size
 block : ∀ k, k < w.heap.size → k ≠ p → k ≠ s → w'.heap[k]? = w.heap[k]?
theorem But2.of {p s : Nat} {w w1 w' : World} (h : But p w w1) (k : But s w1 w') : But2 p s w w' :=
 ⟨k.os.trans h.os, k.tape.trans h.tape, k.output.trans h.output, Nat.le_trans h.size k.size, fun i hi h1 h2 => (k.block i (Nat.lt_of_lt_of_le hi h.size) h2).trans (h.block i hi h1)⟩
theorem But2.pre {p s : Nat} {w w1 w' : World} (h : Below w.heap.size w w1) (k : But2 p s w1 w') : But2 p s w w' :=
 ⟨k.os.trans h.os, k.tape.trans h.tape, k.output.trans h.output, Nat.le_trans h.size k.size, fun i hi h1 h2 => (k.block i (Nat.lt_of_lt_of_le hi h.size) h1 h2).trans (h.block i hi)⟩
theorem But2.snd {p s : Nat} {w w' : World} (h : But2 p s w w') (hs : w.heap.size ≤ s) : But p w w' :=
 ⟨h.os, h.tape, h.output, h.size, fun k hk h1 => h.block k hk h1 (by omega)⟩
theorem tdiv_sign (x y : Int) : (x.tdiv y).natAbs = x.natAbs / y.natAbs ∧ ((!(decide (x < 0) == decide (y < 0))) && decide (0 < x.natAbs / y.natAbs)) = decide (x.tdiv y < 0) := by
 have h1 : (x.tdiv y).natAbs = x.natAbs / y.natAbs := Int.natAbs_tdiv x y
 refine ⟨h1, ?_⟩
 rw [← h1]
 have e1 : x < 0 → y < 0 → 0 ≤ x.tdiv y := fun h k => Int.tdiv_nonneg_of_nonpos_of_nonpos (by omega) (by omega)
 have e2 : x < 0 → ¬ y < 0 → 0 ≤ -(x.tdiv y) := fun h k => by
  have : 0 ≤ (-x).tdiv y := Int.tdiv_nonneg (by omega) (by omega)
  rwa [Int.neg_tdiv] at this
 have e3 : ¬ x < 0 → y < 0 → 0 ≤ -(x.tdiv y) := fun h k => by
  have : 0 ≤ x.tdiv (-y) := Int.tdiv_nonneg (by omega) (by omega)
  rwa [Int.tdiv_neg] at this
 have e4 : ¬ x < 0 → ¬ y < 0 → 0 ≤ x.tdiv y := fun h k => Int.tdiv_nonneg (by omega) (by omega)
 clear h1
 generalize x.tdiv y = t at *
 by_cases hx : x < 0 <;> by_cases hy : y < 0
 ·have := e1 hx hy
  rw [decide_eq_true hx, decide_eq_true hy, decide_eq_false (show ¬ t < 0 by omega)]; rfl
 ·have := e2 hx hy
  rw [decide_eq_true hx, decide_eq_false hy, decide_eq_decide.2 (show 0 < t.natAbs ↔ t < 0 by omega)]; rfl
 ·have := e3 hx hy
  rw [decide_eq_false hx, decide_eq_true hy, decide_eq_decide.2 (show 0 < t.natAbs ↔ t < 0 by omega)]; rfl
 ·have := e4 hx hy
  rw [decide_eq_false hx, decide_eq_false hy, decide_eq_false (show ¬ t < 0 by omega)]; rfl
theorem tmod_sign (x y : Int) : (x.tmod y).natAbs = x.natAbs % y.natAbs ∧ (decide (x < 0) && decide (0 < x.natAbs % y.natAbs)) = decide (x.tmod y < 0) := by
 have h1 : (x.tmod y).natAbs = x.natAbs % y.natAbs := Int.natAbs_tmod x y
 refine ⟨h1, ?_⟩
 rw [← h1]
 have e1 : x < 0 → 0 ≤ -(x.tmod y) := fun h => by
  have : 0 ≤ (-x).tmod y := Int.tmod_nonneg _ (by omega)
  rwa [Int.neg_tmod] at this
 have e2 : ¬ x < 0 → 0 ≤ x.tmod y := fun h => Int.tmod_nonneg y (by omega)
 clear h1
 generalize x.tmod y = t at *
 by_cases hx : x < 0
 ·have := e1 hx
  rw [decide_eq_true hx, decide_eq_decide.2 (show 0 < t.natAbs ↔ t < 0 by omega)]; rfl
 ·have := e2 hx
  rw [decide_eq_false hx, decide_eq_false (show ¬ t < 0 by omega)]; rfl
set_option maxRecDepth 100000 in
set_option maxHeartbeats 2000000 in
theorem quoRem_calls (p q r s : Nat) (x y : Int) (w : World) (hp : IntBlk w p) (hs : IntBlk w s) (hne : p ≠ s) (hx : BigP w q x) (hy : BigP w r y) (hy0 : y ≠ 0) (wx : Wide x) (wy : Wide y) :
  Calls Tryz.prog 162 #[.pointer (some ⟨p, 0, none⟩), .pointer (some ⟨q, 0, none⟩), .pointer (some ⟨r, 0, none⟩), .pointer (some ⟨s, 0, none⟩)] w fun e w' => e = .returned (.tuple #[.pointer (some ⟨p, 0, none⟩), .pointer (some ⟨s, 0, none⟩)]) ∧ BigP w' p (x.tdiv y) ∧ BigP w' s (x.tmod y) ∧ But2 p s w w' := by
 obtain ⟨-, v, hb0, hb1, hv⟩ := id hx
 obtain ⟨-, u, hd0, hd1, hu⟩ := id hy
 have c0 : w.cell? ⟨q, 0, none⟩ = some (.bool (decide (x < 0))) := hb0
 have c1 : w.cell? ⟨q, 1, none⟩ = some v := hb1
 have d0 : w.cell? ⟨r, 0, none⟩ = some (.bool (decide (y < 0))) := hd0
 have d1 : w.cell? ⟨r, 1, none⟩ = some u := hd1
 obtain ⟨bx, hbx⟩ : ∃ bx, Hid (decide (x < 0) = bx) := ⟨_, rfl⟩
 obtain ⟨bY, hby⟩ : ∃ bY, Hid (decide (y < 0) = bY) := ⟨_, rfl⟩
 rw [hbx.out] at c0
 rw [hby.out] at d0
 have h1 := tdiv_sign x y
 have h2 := tmod_sign x y
 rw [hbx.out, hby.out] at h1
 rw [hbx.out] at h2
 obtain ⟨bs, hbs⟩ : ∃ bs, Hid ((!(bx == bY)) = bs) := ⟨_, rfl⟩
 have q5 : ∀ w, (binOp .neq 4 (.bool bx) (.bool bY)).run Tryz.prog w = .ok (.bool bs) w := fun w => by rw [neqBool, hbs.out]
 rw [hbs.out] at h1
 have H1 := Lib.hid h1; have H2 := Lib.hid h2
 have HDV : Hid (∀ W, Below w.heap.size w W → _) := Lib.hid fun W hW => divide_calls v u x.natAbs y.natAbs W (by omega) wx wy (hv.ext hW) (hu.ext hW)
 have ql := hx.lt
 have rl := hy.lt
 clear hb0 hb1 hd0 hd1 hv hu hx hy h1 h2
 go_enter Tryz.func162, Tryz.ntmps162
 go_wp2_with fail
 go_region_held3 (fun w' => w'.cell? ⟨q, 1, none⟩ = some v ∧ w'.cell? ⟨r, 1, none⟩ = some u)
  (first | (go_keep; done))
  (first | (go_at_call 195; ((with_reducible refine (HDV.out _ (by first | exact drewN_below w _ | exact (Below.refl _ _).drew | exact Below.refl _ _)).mono ?_); rintro e w2 ⟨v1, v2, rfl, hv1, hv2, hb2⟩); have hB2 : Below w.heap.size w w2 := ext_trans (by first | exact drewN_below w _ | exact (Below.refl _ _).drew | exact Below.refl _ _) hb2; have hc2 := (bcell hB2).1; have z0 := (hc2 _ _ ql).trans c0; have z1 := (hc2 _ _ ql).trans c1; have y0 := (hc2 _ _ rl).trans d0; have y1 := (hc2 _ _ rl).trans d1; have HV1 := Lib.hid hv1; have HV2 := Lib.hid hv2; clear hc2 hb2 hv1 hv2))
 all_goals
  clear c0 c1 d0 d1 HDV
  go_wp2_with fail
  go_quiet (fail)
  have hB3 : Below w.heap.size w (w2.drewN nq) := hB2.trans ((drewN_below w2 nq).mono hB2.size)
  obtain ⟨w3, hw3⟩ : ∃ w3, Hid (w2.drewN nq = w3) := ⟨_, rfl⟩
  have HV1' := Lib.hid (HV1.out.drewN nq); have HV2' := Lib.hid (HV2.out.drewN nq)
  rw [hw3.out] at hB3 HV1' HV2' ⊢
  clear z0 z1 y0 y1
  go_wp2_with fail
  refine (set_z p _ _ _ (x.tdiv y) w3 (hp.ext hB3) HV1'.out H1.out.1 H1.out.2).mono ?_; rintro e w4 ⟨rfl, hz4, hb4⟩
  have HZ4 := Lib.hid hz4
  clear hz4
  go_wp2_with fail
  refine (set_z s _ _ _ (x.tmod y) w4 ((hs.ext hB3).other hb4 hne.symm) (HV2'.out.but (hp.ext hB3) hb4) H2.out.1 H2.out.2).mono ?_; rintro e w5 ⟨rfl, hz5, hb5⟩
  go_wp2
  go_ret2
  exact ⟨rfl, HZ4.out.but ((hs.ext hB3).other hb4 hne.symm) hb5 hne, hz5, But2.pre hB3 (But2.of hb4 hb5)⟩
set_option maxRecDepth 100000 in
set_option maxHeartbeats 1000000 in
theorem quo_calls (p q r : Nat) (x y : Int) (w : World) (hp : IntBlk w p) (hx : BigP w q x) (hy : BigP w r y) (hy0 : y ≠ 0) (wx : Wide x) (wy : Wide y) :
  Calls Tryz.prog 174 #[.pointer (some ⟨p, 0, none⟩), .pointer (some ⟨q, 0, none⟩), .pointer (some ⟨r, 0, none⟩)] w fun e w' => e = .returned (.pointer (some ⟨p, 0, none⟩)) ∧ BigP w' p (x.tdiv y) ∧ But p w w' := by
 have pl := hp.lt
 have hA : Below w.heap.size w (w.alloc (.cells #[.bool false, .slice none 0 0] 196 (0, 0))) := (Below.refl _ _).alloc (Nat.le_refl _) _
 have hn2 : IntBlk (w.alloc (.cells #[.bool false, .slice none 0 0] 196 (0, 0))) w.heap.size := .of (Blk.new _ [.bool false, .slice none 0 0] _)
 have HC := Lib.hid (quoRem_calls p q r w.heap.size x y _ (hp.ext hA) hn2 (by omega) (hx.ext hA) (hy.ext hA) hy0 wx wy)
 go_enter Tryz.func174, Tryz.ntmps174
 go_wp2_with fail
 refine HC.out.mono ?_; rintro e w3 ⟨rfl, hz, hr, hb⟩
 have hb2 := (But2.pre hA hb).snd (Nat.le_refl _)
 have HZ := Lib.hid hz
 clear hz hr hb HC
 go_wp2
 go_ret
 exact ⟨rfl, HZ.out, hb2⟩
end Go.Proofs.YtkljafmdbajfeaaGreatDoor

/- Package big: DivMod, Mod. -/
namespace Go.Proofs.YtkljafmdbajfeaaGreatDoor
open Go.RowKit
set_option linter.unusedVariables false
set_option linter.unusedSimpArgs false
theorem wide_small {x : Int} (h : x.natAbs < 18446744073709551616) : Wide x := Nat.le_trans (digits_small.2 h) (by omega)
end Go.Proofs.YtkljafmdbajfeaaGreatDoor

/- Package big: GCD with its factors. -/
namespace Go.Proofs.YtkljafmdbajfeaaGreatDoor
open Go.RowKit
set_option linter.unusedVariables false
set_option linter.unusedSimpArgs false
end Go.Proofs.YtkljafmdbajfeaaGreatDoor

/- Package big: Int64; the greatest common divisor alone. -/
namespace Go.Proofs.YtkljafmdbajfeaaGreatDoor
open Go.RowKit
set_option linter.unusedVariables false
set_option linter.unusedSimpArgs false
set_option maxHeartbeats 1000000 in
theorem small_raw (A : Option Addr) (c : Nat) (ds : List Nat) (w : World) (hl : ds.length ≤ 2) (hd : Dig ds) (hA : Wds w A ds) :
  Calls Tryz.prog 178 #[.slice A ds.length c] w fun e w' => e = .returned (.tuple #[.int .u64 (val ds), .bool true]) ∧ ∃ k, w' = w.drewN k := by
 match ds, hl, hd, hA with
 | [], _, _, _ =>
   go_enter Tryz.func178, Tryz.ntmps178
   go_wp2
   go_ret2
   exact ⟨rfl, 0, rfl⟩
 | [n], _, hd, hA =>
   obtain ⟨b, o, rfl, g⟩ := hA 0 (by simp)
   have g' : w.cell? ⟨b, o, none⟩ = some (.int .u32 n) := g
   have hv : val [n] = n := by simp [val]
   have hn : n < 4294967296 := hd n (by simp)
   rw [hv]
   clear hv g hA hd
   go_enter Tryz.func178, Tryz.ntmps178
   go_wp2
   go_ret2
   exact ⟨rfl, 0, rfl⟩
 | [L, H], _, hd, hA =>
   obtain ⟨b, o, rfl, g0⟩ := hA 0 (by simp)
   obtain ⟨b', o', e', g1⟩ := hA 1 (by simp)
   injection e' with e'; injection e' with e1 e2; subst e1; subst e2
   have g0' : w.cell? ⟨b, o, none⟩ = some (.int .u32 (L : Nat)) := g0
   have g1' : w.cell? ⟨b, o + 1, none⟩ = some (.int .u32 (H : Nat)) := g1
   have hH : H < 4294967296 := hd H (by simp)
   have hL : L < 4294967296 := hd L (by simp)
   have hv : val [L, H] = L + 4294967296 * H := by simp [val]
   rw [hv]
   have HN := Lib.hid hv
   clear g0 g1 hA hv hd
   go_enter Tryz.func178, Tryz.ntmps178
   go_wp2_with fail
   go_quiet (fail)
   go_wp2_with fail
   go_ret2
   exact ⟨by rw [or_words H L hH hL]; rfl, nq, rfl⟩
theorem val_take2 (n : Nat) : val ((digits n).take 2) = n % 18446744073709551616 := by
 have h := val_append ((digits n).take 2) ((digits n).drop 2)
 rw [List.take_append_drop, val_digits] at h
 have h2 := val_lt ((digits_dig n).take 2)
 by_cases hl : 2 ≤ (digits n).length
 ·rw [List.length_take, Nat.min_eq_left hl] at h h2
  generalize val ((digits n).drop 2) = d at *
  generalize val ((digits n).take 2) = t at *
  omega
 ·rw [List.take_of_length_le (by omega)]
  have h3 := digits_small.1 (show (digits n).length ≤ 2 by omega)
  rw [val_digits, Nat.mod_eq_of_lt h3]
theorem i64_pos {z : Int} {T : Nat} (h : z.natAbs % 18446744073709551616 = T) (hz : 0 ≤ z) : wrap64 (T : Int) = IntKind.i64.wrap z := by
 simp only [wrap64, IntKind.wrap_i64]; omega
theorem i64_neg {z : Int} {T : Nat} (h : z.natAbs % 18446744073709551616 = T) (hz : z < 0) : wrap64 (-wrap64 (T : Int)) = IntKind.i64.wrap z := by
 simp only [wrap64, IntKind.wrap_i64]; omega
theorem ret_i64 {a b : Int} (h : a = b) : Ending.returned (.int .i64 a) = .returned (.int .i64 b) := by rw [h]
set_option maxRecDepth 100000 in
set_option maxHeartbeats 1000000 in
theorem int64_calls (p : Nat) (z : Int) (w : World) (hz : BigP w p z) :
  Calls Tryz.prog 123 #[.pointer (some ⟨p, 0, none⟩)] w fun e w' => e = .returned (.int .i64 (IntKind.i64.wrap z)) ∧ Below w.heap.size w w' := by
 obtain ⟨-, v, hb0, hb1, A, c, rfl, hc, hm, hA⟩ := hz
 have c0 : w.cell? ⟨p, 0, none⟩ = some (.bool (decide (z < 0))) := hb0
 have c1 : w.cell? ⟨p, 1, none⟩ = some (.slice A (digits z.natAbs).length c) := hb1
 have hv := val_take2 z.natAbs
 have hl : ((digits z.natAbs).take 2).length = min (digits z.natAbs).length 2 := by rw [List.length_take, Nat.min_comm]
 have hsm := fun W (hW : Below w.heap.size w W) => small_raw A c ((digits z.natAbs).take 2) W (by rw [hl]; omega) ((digits_dig _).take 2) ((hA.take 2).ext hW)
 rw [hv, hl] at hsm
 have HSM := Lib.hid hsm
 have hlen : (digits z.natAbs).length ≤ 1000000000 := by omega
 clear hsm hv hl hA hb0 hb1
 go_enter Tryz.func123, Tryz.ntmps123
 go_wp2_with fail
 generalize (digits z.natAbs).length = N at *
 obtain ⟨T, hT⟩ : ∃ T, Hid (z.natAbs % 18446744073709551616 = T) := ⟨_, rfl⟩
 rw [hT.out] at HSM
 obtain ⟨M, hM⟩ : ∃ M, Hid (min N 2 = M) := ⟨_, rfl⟩
 rw [hM.out] at HSM
 have hmc : M ≤ c := by (have := hM.out; omega)
 have hmN : (if (2 : Int) < N then 2 else (N : Int)) = M := by (have := hM.out; split <;> omega)
 have hmc2 : (M : Int) ≤ c := by omega
 have hmin : (min (N : Int) 2) = (M : Int) := by (have := hM.out; omega)
 refine wp_region_keys (w0 := w) 17 [6, 7, 8, 9, 10, 11, 12, 13, 14, 15, 16, 17, 5, 18, 19, 3, 4]
  [leafS 6 (.pointer (some ⟨p, 0, none⟩)), leafS 7 (.pointer (some ⟨p, 0, none⟩)), leafS 8 (.pointer (some ⟨p, 1, none⟩)), leafS 9 (.slice A N c), leafS 10 (.pointer (some ⟨p, 0, none⟩)), leafS 11 (.pointer (some ⟨p, 0, none⟩)), leafS 12 (.pointer (some ⟨p, 1, none⟩)), leafS 13 (.slice A N c), leafS 14 (.int .i64 N), leafS 15 (.int .i64 M), leafS 16 (.slice A M c), leafS 17 (.tuple #[.int .u64 T, .bool true]), leafS 5 (.tuple #[.int .u64 T, .bool true]), leafS 18 (.int .u64 T), leafS 19 (.bool true), leafS 3 (.int .u64 T), leafS 4 (.bool true)]
  [] [none, none, none, none, none, none, none, none, none, none, none, none, none, none, none, none, none] IntBlk (by kernel_rfl) (by kernel_rfl) (by kernel_rfl) rfl (F := ?cFi1) ?i1c1 ?i1c2 ?i1c3 ?i1c4
 case i1c1 =>
  intro x
  simp only [fullF, Act.put, List.setIfInBounds_toArray, List.set_cons_zero, List.set_cons_succ]
  rfl
 case i1c2 =>
  exact ⟨keeps_const _ _ _ _ _ _ _, keeps_const _ _ _ _ _ _ _, keeps_const _ _ _ _ _ _ _, keeps_const _ _ _ _ _ _ _, keeps_const _ _ _ _ _ _ _, keeps_const _ _ _ _ _ _ _, keeps_const _ _ _ _ _ _ _, keeps_const _ _ _ _ _ _ _, keeps_const _ _ _ _ _ _ _, keeps_const _ _ _ _ _ _ _, keeps_const _ _ _ _ _ _ _, keeps_const _ _ _ _ _ _ _, keeps_const _ _ _ _ _ _ _, keeps_const _ _ _ _ _ _ _, keeps_const _ _ _ _ _ _ _, keeps_const _ _ _ _ _ _ _, keeps_const _ _ _ _ _ _ _, trivial⟩
 case i1c3 =>
  refine ⟨?_, ?_, ?_, ?_, ?_, ?_, ?_, ?_, ?_, ?_, ?_, ?_, ?_, ?_, ?_, ?_, ?_, trivial⟩
  all_goals
   intro xx wq HE hd K hK
   have hc := (bcell HE).1
   have c0' := (hc _ _ (cell_lt c0)).trans c0
   have c1' := (hc _ _ (cell_lt c1)).trans c1
   try have e0 : xx 6 = _ := hd 0 _ (by decide) rfl
   try have e1 : xx 7 = _ := hd 1 _ (by decide) rfl
   try have e2 : xx 8 = _ := hd 2 _ (by decide) rfl
   try have e3 : xx 9 = _ := hd 3 _ (by decide) rfl
   try have e4 : xx 10 = _ := hd 4 _ (by decide) rfl
   try have e5 : xx 11 = _ := hd 5 _ (by decide) rfl
   try have e6 : xx 12 = _ := hd 6 _ (by decide) rfl
   try have e7 : xx 13 = _ := hd 7 _ (by decide) rfl
   try have e8 : xx 14 = _ := hd 8 _ (by decide) rfl
   try have e9 : xx 15 = _ := hd 9 _ (by decide) rfl
   try have e10 : xx 16 = _ := hd 10 _ (by decide) rfl
   try have e11 : xx 17 = _ := hd 11 _ (by decide) rfl
   try have e12 : xx 5 = _ := hd 12 _ (by decide) rfl
   try have e13 : xx 18 = _ := hd 13 _ (by decide) rfl
   try have e14 : xx 19 = _ := hd 14 _ (by decide) rfl
   try have e15 : xx 3 = _ := hd 15 _ (by decide) rfl
   try have e16 : xx 4 = _ := hd 16 _ (by decide) rfl
   have HE := Lib.hid HE
   have HC := Lib.hid hc
   clear hd hc
   go_simp
   try exact hK _ _ _ (mv_const _ rfl) (by dsimp only [Act.put]; first | rfl | (simp [*]; done))
  ·refine (HSM.out _ HE.out).mono ?_
   rintro e w2 ⟨rfl, k, rfl⟩
   exact hK _ _ _ (mv_plain (drewN_below _ _) rfl rfl) (by dsimp only [Act.put]; first | rfl | (simp [*]; done))
 case i1c4 =>
  intro xx wz hE hG hA
  have e0 : xx 6 = _ := hG 0 _ rfl
  have e1 : xx 7 = _ := hG 1 _ rfl
  have e2 : xx 8 = _ := hG 2 _ rfl
  have e3 : xx 9 = _ := hG 3 _ rfl
  have e4 : xx 10 = _ := hG 4 _ rfl
  have e5 : xx 11 = _ := hG 5 _ rfl
  have e6 : xx 12 = _ := hG 6 _ rfl
  have e7 : xx 13 = _ := hG 7 _ rfl
  have e8 : xx 14 = _ := hG 8 _ rfl
  have e9 : xx 15 = _ := hG 9 _ rfl
  have e10 : xx 16 = _ := hG 10 _ rfl
  have e11 : xx 17 = _ := hG 11 _ rfl
  have e12 : xx 5 = _ := hG 12 _ rfl
  have e13 : xx 18 = _ := hG 13 _ rfl
  have e14 : xx 19 = _ := hG 14 _ rfl
  have e15 : xx 3 = _ := hG 15 _ rfl
  have e16 : xx 4 = _ := hG 16 _ rfl
  refine wpAny_done (by kernel_rfl) ?_ _
  have HEZ := Lib.hid hE
  have hc := (bcell hE).1
  have c0' := (hc _ _ (cell_lt c0)).trans c0
  clear hG hE hA hc c1
  cases hz : decide (z < 0)
  ·rw [hz] at c0'
   have hzz : 0 ≤ z := by (have := of_decide_eq_false hz; omega)
   have E1 := Lib.hid (i64_pos hT.out hzz)
   clear hz
   go_wp2
   go_ret
   exact ⟨ret_i64 E1.out, HEZ.out⟩
  ·rw [hz] at c0'
   have hzz : z < 0 := of_decide_eq_true hz
   have E1 := Lib.hid (i64_neg hT.out hzz)
   clear hz
   go_wp2
   go_ret
   exact ⟨ret_i64 E1.out, HEZ.out⟩
end Go.Proofs.YtkljafmdbajfeaaGreatDoor
