/- Package big: rational numbers: Mul, Add, Sub, Quo, Cmp. -/
import Derived.Test.YtkljafmdbajfeaaGreatDoorReA25
namespace Go.Proofs.YtkljafmdbajfeaaGreatDoor
open Go.RowKit
set_option linter.unusedVariables false
set_option linter.unusedSimpArgs false
theorem pow_len {n k : Nat} (h : n < 4294967296 ^ k) : (digits n).length ≤ k := by
 rcases Nat.eq_zero_or_pos n with e | e
 ·rw [e, digits_zero]; simp
 ·have h1 := digits_ge (n := n) (by omega)
  rcases Nat.lt_or_ge k (digits n).length with h2 | h2
  ·exfalso
   have : 4294967296 ^ k ≤ 4294967296 ^ ((digits n).length - 1) := Nat.pow_le_pow_right (by omega) (by omega)
   omega
  ·exact h2
theorem lt_pow (n : Nat) : n < 4294967296 ^ (digits n).length := by
 have := val_lt (digits_dig n); rwa [val_digits] at this
theorem mul_len (n m : Nat) : (digits (n * m)).length ≤ (digits n).length + (digits m).length := by
 refine pow_len ?_
 rw [Nat.pow_add]
 have h1 := lt_pow n
 have h2 := lt_pow m
 rcases Nat.eq_zero_or_pos m with e | e
 ·subst e; rw [Nat.mul_zero]; exact Nat.mul_pos (Nat.pow_pos (by omega)) (Nat.pow_pos (by omega))
 ·exact Nat.lt_of_lt_of_le (Nat.mul_lt_mul_of_pos_right h1 e) (Nat.mul_le_mul_left _ (Nat.le_of_lt h2))
theorem add_len {n m k : Nat} (h1 : (digits n).length ≤ k) (h2 : (digits m).length ≤ k) : (digits (n + m)).length ≤ k + 1 := by
 refine pow_len ?_
 have e1 := lt_pow n
 have e2 := lt_pow m
 have f1 : 4294967296 ^ (digits n).length ≤ 4294967296 ^ k := Nat.pow_le_pow_right (by omega) h1
 have f2 : 4294967296 ^ (digits m).length ≤ 4294967296 ^ k := Nat.pow_le_pow_right (by omega) h2
 rw [Nat.pow_succ]; omega
def RSm (q : Rat) : Prop := (digits q.num.natAbs).length ≤ 10000000 ∧ (digits q.den).length ≤ 10000000
theorem RSm.neg {q : Rat} (h : RSm q) : RSm (-q) := by
 unfold RSm at *; rw [Rat.neg_num, Int.natAbs_neg, Rat.neg_den]; exact h
theorem RSm.inv {q : Rat} (h : RSm q) (h0 : q.num ≠ 0) : RSm q⁻¹ := by
 unfold RSm at *
 rw [Rat.den_inv, if_neg h0, Rat.num_inv, Int.natAbs_mul, Int.natAbs_natCast, Int.natAbs_sign_of_ne_zero h0, Nat.one_mul]
 exact ⟨h.2, h.1⟩
theorem rat_mul_mk (x y : Rat) : mkRat (x.num * y.num) (x.den * y.den) = x * y := by rw [Rat.mul_def, Rat.normalize_eq_mkRat]
theorem rat_add_mk (x y : Rat) : mkRat (x.num * (y.den : Int) + y.num * (x.den : Int)) (x.den * y.den) = x + y := by rw [Rat.add_def, Rat.normalize_eq_mkRat]
set_option maxRecDepth 100000 in
set_option maxHeartbeats 2000000 in
theorem ratMul_calls (p q r : Nat) (x y : Rat) (w : World) (hp : RatBlk w p) (hx : RatP w q x) (hy : RatP w r y) (wx : RSm x) (wy : RSm y) :
  Calls Tryz.prog 167 #[.pointer (some ⟨p, 0, none⟩), .pointer (some ⟨q, 0, none⟩), .pointer (some ⟨r, 0, none⟩)] w fun e w' => e = .returned (.pointer (some ⟨p, 0, none⟩)) ∧ RatP w' p (x * y) ∧ But p w w' := by
 obtain ⟨-, ⟨-, v, hb0, hb1, hv⟩, -⟩ := id hx
 obtain ⟨-, ⟨-, u, hd0, hd1, hu⟩, -⟩ := id hy
 have c0 : w.cell? ⟨q, 0, none⟩ = some (.bool (decide (x.num < 0))) := hb0
 have c1 : w.cell? ⟨q, 1, none⟩ = some v := hb1
 have d0 : w.cell? ⟨r, 0, none⟩ = some (.bool (decide (y.num < 0))) := hd0
 have d1 : w.cell? ⟨r, 1, none⟩ = some u := hd1
 have hs := mul_sign x.num y.num
 obtain ⟨bx, hbx⟩ : ∃ bx, Hid (decide (x.num < 0) = bx) := ⟨_, rfl⟩
 obtain ⟨bY, hby⟩ : ∃ bY, Hid (decide (y.num < 0) = bY) := ⟨_, rfl⟩
 rw [hbx.out] at c0
 rw [hby.out] at d0
 rw [hbx.out, hby.out] at hs
 obtain ⟨bs, hbs⟩ : ∃ bs, Hid ((!(bx == bY)) = bs) := ⟨_, rfl⟩
 have q5 : ∀ w, (binOp .neq 4 (.bool bx) (.bool bY)).run Tryz.prog w = .ok (.bool bs) w := fun w => by rw [neqBool, hbs.out]
 rw [hbs.out] at hs
 have HS := Lib.hid hs
 have HV := Lib.hid hv; have HU := Lib.hid hu; have HX := Lib.hid hx; have HY := Lib.hid hy
 have l1 := Lib.hid (mul_len x.num.natAbs y.num.natAbs)
 have l2 := Lib.hid (mul_len x.den y.den)
 have WX := Lib.hid wx; have WY := Lib.hid wy
 clear hs hb0 hb1 hd0 hd1 hx hy hv hu wx wy
 go_enter Tryz.func167, Tryz.ntmps167
 go_wp2_with fail
 refine wp_region_keys (w0 := w) 28 [7, 8, 9, 10, 11, 12, 13, 14, 15, 16, 17, 18, 19, 20, 21, 22, 23, 24, 25, 26, 27, 28, 29, 30, 31, 32, 33, 34]
  [leafS 7 (.pointer (some ⟨p, 0, none⟩)), leafS 8 (.pointer (some ⟨q, 0, none⟩)), leafS 9 (.pointer (some ⟨q, 0, none⟩)), leafS 10 (.pointer (some ⟨q, 0, none⟩)), leafS 11 (.pointer (some ⟨q, 0, none⟩)), leafS 12 (.bool bx), leafS 13 (.pointer (some ⟨r, 0, none⟩)), leafS 14 (.pointer (some ⟨r, 0, none⟩)), leafS 15 (.pointer (some ⟨r, 0, none⟩)), leafS 16 (.pointer (some ⟨r, 0, none⟩)), leafS 17 (.bool bY), leafS 18 (.bool bs), leafS 19 (.pointer (some ⟨q, 0, none⟩)), leafS 20 (.pointer (some ⟨q, 0, none⟩)), leafS 21 (.pointer (some ⟨q, 0, none⟩)), leafS 22 (.pointer (some ⟨q, 1, none⟩)), leafS 23 (v), leafS 24 (.pointer (some ⟨r, 0, none⟩)), leafS 25 (.pointer (some ⟨r, 0, none⟩)), leafS 26 (.pointer (some ⟨r, 0, none⟩)), leafS 27 (.pointer (some ⟨r, 1, none⟩)), leafS 28 (u), leaf1 29 (fun v w => WSl w v (x.num.natAbs * y.num.natAbs)), leafS 30 (.pointer (some ⟨q, 0, none⟩)), leaf1 31 (fun v w => WSl w v x.den), leafS 32 (.pointer (some ⟨r, 0, none⟩)), leaf1 33 (fun v w => WSl w v y.den), leaf1 34 (fun v w => WSl w v (x.den * y.den))]
  [] [none, none, none, none, none, none, none, none, none, none, none, none, none, none, none, none, none, none, none, none, none, none, none, none, none, none, none, none] IntBlk (by kernel_rfl) (by kernel_rfl) (by kernel_rfl) rfl (F := ?cFm1) ?m1c1 ?m1c2 ?m1c3 ?m1c4
 case m1c1 =>
  intro x
  simp only [fullF, Act.put, List.setIfInBounds_toArray, List.set_cons_zero, List.set_cons_succ]
  rfl
 case m1c2 =>
  exact ⟨keeps_const _ _ _ _ _ _ _, keeps_const _ _ _ _ _ _ _, keeps_const _ _ _ _ _ _ _, keeps_const _ _ _ _ _ _ _, keeps_const _ _ _ _ _ _ _, keeps_const _ _ _ _ _ _ _, keeps_const _ _ _ _ _ _ _, keeps_const _ _ _ _ _ _ _, keeps_const _ _ _ _ _ _ _, keeps_const _ _ _ _ _ _ _, keeps_const _ _ _ _ _ _ _, keeps_const _ _ _ _ _ _ _, keeps_const _ _ _ _ _ _ _, keeps_const _ _ _ _ _ _ _, keeps_const _ _ _ _ _ _ _, keeps_const _ _ _ _ _ _ _, keeps_const _ _ _ _ _ _ _, keeps_const _ _ _ _ _ _ _, keeps_const _ _ _ _ _ _ _, keeps_const _ _ _ _ _ _ _, keeps_const _ _ _ _ _ _ _, keeps_const _ _ _ _ _ _ _, keeps_calm (calm_words _) _ _ _ _ _, keeps_const _ _ _ _ _ _ _, keeps_calm (calm_words _) _ _ _ _ _, keeps_const _ _ _ _ _ _ _, keeps_calm (calm_words _) _ _ _ _ _, keeps_calm (calm_words _) _ _ _ _ _, trivial⟩
 case m1c3 =>
  refine ⟨?_, ?_, ?_, ?_, ?_, ?_, ?_, ?_, ?_, ?_, ?_, ?_, ?_, ?_, ?_, ?_, ?_, ?_, ?_, ?_, ?_, ?_, ?_, ?_, ?_, ?_, ?_, ?_, trivial⟩
  all_goals
   intro xx wq HE hd K hK
   have hc := (bcell HE).1
   have c0' := (hc _ _ (cell_lt c0)).trans c0
   have c1' := (hc _ _ (cell_lt c1)).trans c1
   have d0' := (hc _ _ (cell_lt d0)).trans d0
   have d1' := (hc _ _ (cell_lt d1)).trans d1
   try have e0 : xx 7 = _ := hd 0 _ (by decide) rfl
   try have e1 : xx 8 = _ := hd 1 _ (by decide) rfl
   try have e2 : xx 9 = _ := hd 2 _ (by decide) rfl
   try have e3 : xx 10 = _ := hd 3 _ (by decide) rfl
   try have e4 : xx 11 = _ := hd 4 _ (by decide) rfl
   try have e5 : xx 12 = _ := hd 5 _ (by decide) rfl
   try have e6 : xx 13 = _ := hd 6 _ (by decide) rfl
   try have e7 : xx 14 = _ := hd 7 _ (by decide) rfl
   try have e8 : xx 15 = _ := hd 8 _ (by decide) rfl
   try have e9 : xx 16 = _ := hd 9 _ (by decide) rfl
   try have e10 : xx 17 = _ := hd 10 _ (by decide) rfl
   try have e11 : xx 18 = _ := hd 11 _ (by decide) rfl
   try have e12 : xx 19 = _ := hd 12 _ (by decide) rfl
   try have e13 : xx 20 = _ := hd 13 _ (by decide) rfl
   try have e14 : xx 21 = _ := hd 14 _ (by decide) rfl
   try have e15 : xx 22 = _ := hd 15 _ (by decide) rfl
   try have e16 : xx 23 = _ := hd 16 _ (by decide) rfl
   try have e17 : xx 24 = _ := hd 17 _ (by decide) rfl
   try have e18 : xx 25 = _ := hd 18 _ (by decide) rfl
   try have e19 : xx 26 = _ := hd 19 _ (by decide) rfl
   try have e20 : xx 27 = _ := hd 20 _ (by decide) rfl
   try have e21 : xx 28 = _ := hd 21 _ (by decide) rfl
   try have g22 := hd 22 _ (by decide) rfl
   try have e23 : xx 30 = _ := hd 23 _ (by decide) rfl
   try have g24 := hd 24 _ (by decide) rfl
   try have e25 : xx 32 = _ := hd 25 _ (by decide) rfl
   try have g26 := hd 26 _ (by decide) rfl
   try have g27 := hd 27 _ (by decide) rfl
   have HE := Lib.hid HE
   have HC := Lib.hid hc
   clear hd hc
   go_simp
   try exact hK _ _ _ (mv_const _ rfl) (by dsimp only [Act.put]; first | rfl | (simp [*]; done))
  ·refine (times_calls _ _ _ _ _ (by have := WX.out.1; omega) (by have := WY.out.1; omega) (HV.out.ext HE.out) (HU.out.ext HE.out)).mono ?_
   rintro e w2 ⟨v2, rfl, hv2, hb2⟩
   exact hK _ _ _ (mv_plain hb2 hv2 rfl) (by dsimp only [Act.put]; first | rfl | (simp [*]; done))
  ·refine (below_calls q x _ (HX.out.ext HE.out)).mono ?_
   rintro e w2 ⟨v2, rfl, hv2, hb2⟩
   exact hK _ _ _ (mv_plain hb2 hv2 rfl) (by dsimp only [Act.put]; first | rfl | (simp [*]; done))
  ·refine (below_calls r y _ (HY.out.ext HE.out)).mono ?_
   rintro e w2 ⟨v2, rfl, hv2, hb2⟩
   exact hK _ _ _ (mv_plain hb2 hv2 rfl) (by dsimp only [Act.put]; first | rfl | (simp [*]; done))
  ·refine (times_calls _ _ _ _ _ (by have := WX.out.2; omega) (by have := WY.out.2; omega) g24 g26).mono ?_
   rintro e w2 ⟨v2, rfl, hv2, hb2⟩
   exact hK _ _ _ (mv_plain hb2 hv2 rfl) (by dsimp only [Act.put]; first | rfl | (simp [*]; done))
 case m1c4 =>
  intro xx wz hE hG hA
  have e0 : xx 7 = _ := hG 0 _ rfl
  have e1 : xx 8 = _ := hG 1 _ rfl
  have e2 : xx 9 = _ := hG 2 _ rfl
  have e3 : xx 10 = _ := hG 3 _ rfl
  have e4 : xx 11 = _ := hG 4 _ rfl
  have e5 : xx 12 = _ := hG 5 _ rfl
  have e6 : xx 13 = _ := hG 6 _ rfl
  have e7 : xx 14 = _ := hG 7 _ rfl
  have e8 : xx 15 = _ := hG 8 _ rfl
  have e9 : xx 16 = _ := hG 9 _ rfl
  have e10 : xx 17 = _ := hG 10 _ rfl
  have e11 : xx 18 = _ := hG 11 _ rfl
  have e12 : xx 19 = _ := hG 12 _ rfl
  have e13 : xx 20 = _ := hG 13 _ rfl
  have e14 : xx 21 = _ := hG 14 _ rfl
  have e15 : xx 22 = _ := hG 15 _ rfl
  have e16 : xx 23 = _ := hG 16 _ rfl
  have e17 : xx 24 = _ := hG 17 _ rfl
  have e18 : xx 25 = _ := hG 18 _ rfl
  have e19 : xx 26 = _ := hG 19 _ rfl
  have e20 : xx 27 = _ := hG 20 _ rfl
  have e21 : xx 28 = _ := hG 21 _ rfl
  have g22 := hG 22 _ rfl
  have e23 : xx 30 = _ := hG 23 _ rfl
  have g24 := hG 24 _ rfl
  have e25 : xx 32 = _ := hG 25 _ rfl
  have g26 := hG 26 _ rfl
  have g27 := hG 27 _ rfl
  have HHE := Lib.hid hE; have HG1 := Lib.hid g22; have HG2 := Lib.hid g27
  clear hG hA hE g22 g24 g26 g27
  refine tail_one (i := 28) (by kernel_rfl) rfl ?_
  intro K hK
  go_simp
  refine (ratSet_calls p bs _ _ (x.num * y.num) (x.den * y.den) wz (hp.ext HHE.out) (by rw [Int.natAbs_mul]; exact HG1.out) HG2.out (Nat.mul_pos x.den_pos y.den_pos) (by rw [HS.out.1]; exact HS.out.2) (by rw [Int.natAbs_mul]; have := l1.out; have := WX.out.1; have := WY.out.1; omega) (by have := l2.out; have := WX.out.2; have := WY.out.2; omega)).mono ?_
  rintro e w' ⟨rfl, hz', hb'⟩
  refine hK _ _ ?_
  rw [rat_mul_mk] at hz'
  have HZ := Lib.hid hz'; have HB := Lib.hid (((But.refl p w).ext HHE.out).trans hb')
  clear hz' hb' hK
  refine tail_one (i := 29) (by kernel_rfl) rfl ?_
  intro K hK
  go_simp
  refine hK _ _ ?_
  refine wpAny_done (by kernel_rfl) ?_ _
  go_wp2
  go_ret
  exact ⟨rfl, HZ.out, HB.out⟩
end Go.Proofs.YtkljafmdbajfeaaGreatDoor
