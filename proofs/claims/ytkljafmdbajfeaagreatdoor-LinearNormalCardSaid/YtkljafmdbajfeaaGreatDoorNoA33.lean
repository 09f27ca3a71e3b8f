/- exact.table.reduced: the reduced costs of all columns. -/
import Derived.Test.YtkljafmdbajfeaaGreatDoorNoA32
namespace Go.Proofs.YtkljafmdbajfeaaGreatDoor
open Go.RowKit
open Lp (Tab Bas sumTo redc)
set_option linter.unusedVariables false
set_option linter.unusedSimpArgs false
theorem mv_eq {B : Nat} {FB : World → Nat → Prop} {Ks : List Tmp} {x : Tmp → Value} {w : World} {t : Tmp} {own : Option Tmp} {c v : Value} (h : v = c) (hk : Ks.contains t = false) : Mv B FB Ks t own (leafS t c) x w v w := by
  subst h; exact mv_const v hk
theorem ratSgn (x : Rat) : (x = 0 ∧ sgnI x.num 0 = 0) ∨ (x < 0 ∧ sgnI x.num 0 = -1) ∨ (0 < x ∧ sgnI x.num 0 = 1) := by
  rcases Int.lt_trichotomy x.num 0 with h | h | h
  · exact .inr (.inl ⟨by have := @Rat.num_nonneg x; grind, sgnI_lt h⟩)
  · exact .inl ⟨Rat.num_eq_zero.1 h, sgnI_eq h⟩
  · exact .inr (.inr ⟨by have := @Rat.num_nonneg x; have := @Rat.num_eq_zero x; grind, sgnI_gt h⟩)
theorem sgn_lt0 (x : Rat) : sgnI x.num 0 < 0 ↔ x < 0 := by rcases ratSgn x with ⟨h0, h1⟩ | ⟨h0, h1⟩ | ⟨h0, h1⟩ <;> rw [h1] <;> grind
theorem sgn_le0 (x : Rat) : sgnI x.num 0 ≤ 0 ↔ x ≤ 0 := by rcases ratSgn x with ⟨h0, h1⟩ | ⟨h0, h1⟩ | ⟨h0, h1⟩ <;> rw [h1] <;> grind
theorem sgn_eq0 (x : Rat) : sgnI x.num 0 = 0 ↔ x = 0 := by rcases ratSgn x with ⟨h0, h1⟩ | ⟨h0, h1⟩ | ⟨h0, h1⟩ <;> rw [h1] <;> grind
theorem sgn_gt0 (x : Rat) : decide (0 < x) = decide (0 < sgnI x.num 0) := by rcases ratSgn x with ⟨h0, h1⟩ | ⟨h0, h1⟩ | ⟨h0, h1⟩ <;> rw [h1] <;> simp <;> grind
theorem Sq.wn {k : Nat} {x : Rat} (h : Sq k x) (hk : k ≤ 100000000 := by omega) : Wide x.num := Nat.le_trans h.1 hk
theorem Sq.zero : Sq 2 0 := ⟨digits_small.2 (by decide), digits_small.2 (by decide)⟩
def SqT (k m N1 : Nat) (T : Tab) : Prop := ∀ i j, i < m → j < N1 → Sq k (T i j)
def redTo (N i : Nat) (T : Tab) (Bs : Bas) (cost : Nat → Rat) (j : Nat) : Rat := (if j < N then cost j else 0) - sumTo i fun a => cost (Bs a) * T a j
theorem redTo_zero (N : Nat) (T : Tab) (Bs : Bas) (cost : Nat → Rat) (j : Nat) : redTo N 0 T Bs cost j = if j < N then cost j else 0 := by
  unfold redTo; simp only [sumTo]; grind
theorem redTo_succ (N i : Nat) (T : Tab) (Bs : Bas) (cost : Nat → Rat) (j : Nat) : redTo N (i + 1) T Bs cost j = redTo N i T Bs cost j - cost (Bs i) * T i j := by
  unfold redTo; simp only [sumTo]; grind
theorem redTo_sq {N m N1 : Nat} {T : Tab} {Bs : Bas} {cost : Nat → Rat} (hT : SqT 10 m N1 T) (hB : ∀ i, i < m → Bs i < N) (hc : ∀ j, j < N → Sq 10 (cost j)) : ∀ i, i ≤ m → ∀ j, j < N1 → Sq (10 + 21 * i) (redTo N i T Bs cost j)
  | 0, _, j, _ => by
    rw [redTo_zero]; split
    · exact hc j (by assumption)
    · exact Sq.zero.mono (by omega)
  | i + 1, hi, j, hj => by
    rw [redTo_succ]
    exact ((redTo_sq hT hB hc i (by omega) j hj).sub ((hc _ (hB i (by omega))).mul (hT i j (by omega) hj))).mono (by omega)
set_option maxRecDepth 100000 in
set_option maxHeartbeats 2000000 in
theorem reduced_calls (B t n m : Nat) (D : TA) (T : Tab) (Bs : Bas) (sg : Nat → Int) (sh : Nat → Bool) (Bc bc : Nat) (C : Nat → Nat) (cost : Nat → Rat) (w : World) (hT : TabD w B t n m D T Bs sg sh) (hc : RowQ w Bc bc (n + 2 * m) (n + 2 * m) C cost)
    (hn : n ≤ 100) (hm : m ≤ 100) (hB : ∀ i, i < m → Bs i < n + 2 * m) (sT : SqT 10 m (n + 2 * m + 1) T) (sc : ∀ j, j < n + 2 * m → Sq 10 (cost j)) :
    Calls Tryz.prog 214 #[.pointer (some ⟨t, 0, none⟩), .slice (some ⟨bc, 0, none⟩) (n + 2 * m : Nat) (n + 2 * m : Nat)] w fun e w' => ∃ b P, e = .returned (.slice (some ⟨b, 0, none⟩) (n + 2 * m + 1 : Nat) (n + 2 * m + 1 : Nat)) ∧ RowQ w' w.heap.size b (n + 2 * m + 1) (n + 2 * m + 1) P (redTo (n + 2 * m) m T Bs cost) ∧ Below w.heap.size w w' := by
  have c0 := hT.t0
  have c1 := hT.t1
  have SQ := Lib.hid (redTo_sq sT hB sc)
  have HT := Lib.hid hT; have HCO := Lib.hid hc; have HB := Lib.hid hB; have ST := Lib.hid sT; have SC := Lib.hid sc
  clear hT hc hB sT sc
  obtain ⟨A, cA, bA, cb, sA, cs, hbk, rb, Pt⟩ := D
  obtain ⟨N, hN⟩ : ∃ N, n + 2 * m = N := ⟨_, rfl⟩
  obtain ⟨N1, hN1⟩ : ∃ N1, N + 1 = N1 := ⟨_, rfl⟩
  have HN := Lib.hid hN; have HN1 := Lib.hid hN1
  rw [hN] at HB SC HCO SQ ST ⊢
  rw [hN1] at ST SQ
  rw [hN1]
  have hTrow : Hid (∀ i, i < m → ∃ R, A = some ⟨R, 0, none⟩ ∧ w.cell? ⟨R, i, none⟩ = some (.slice (some ⟨rb i, 0, none⟩) N1 N1)) := Lib.hid (by have := HT.out.row; rw [hN, hN1] at this; exact this)
  have hTnum : Hid (∀ i, i < m → RowQ w B (rb i) N1 N1 (Pt i) (T i)) := Lib.hid (by have := HT.out.num; rw [hN, hN1] at this; exact this)
  have hNb : N1 ≤ 301 := by omega
  clear hN hN1
  go_enter Tryz.func214, Tryz.ntmps214
  go_wp2_with fail
  refine wp_region_keys (w0 := w) 11 [11, 12, 13, 14, 15, 16, 17, 18, 19, 20, 21]
    [leafS 11 (.pointer (some ⟨t, 0, none⟩)), leafS 12 (.pointer (some ⟨t, 0, none⟩)), leafS 13 (.pointer (some ⟨t, 0, none⟩)), leafS 14 (.int .i64 n), leafS 15 (.pointer (some ⟨t, 0, none⟩)), leafS 16 (.pointer (some ⟨t, 0, none⟩)), leafS 17 (.pointer (some ⟨t, 1, none⟩)), leafS 18 (.int .i64 m), leafS 19 (.int .i64 (2 * m : Nat)), leafS 20 (.int .i64 N), leafS 21 (.int .i64 N1)]
    [] [none, none, none, none, none, none, none, none, none, none, none] RatBlk (by kernel_rfl) (by kernel_rfl) (by kernel_rfl) rfl (F := ?cFr1) ?r1c1 ?r1c2 ?r1c3 ?r1c4
  case r1c1 =>
    intro x
    simp only [fullF, Act.put, List.setIfInBounds_toArray, List.set_cons_zero, List.set_cons_succ]
    rfl
  case r1c2 =>
    exact ⟨keeps_const _ _ _ _ _ _ _, keeps_const _ _ _ _ _ _ _, keeps_const _ _ _ _ _ _ _, keeps_const _ _ _ _ _ _ _, keeps_const _ _ _ _ _ _ _, keeps_const _ _ _ _ _ _ _, keeps_const _ _ _ _ _ _ _, keeps_const _ _ _ _ _ _ _, keeps_const _ _ _ _ _ _ _, keeps_const _ _ _ _ _ _ _, keeps_const _ _ _ _ _ _ _, trivial⟩
  case r1c3 =>
    refine ⟨?_, ?_, ?_, ?_, ?_, ?_, ?_, ?_, ?_, ?_, ?_, trivial⟩
    all_goals
      intro xx wq HE hd K hK
      have hc := (bcell HE).1
      have c0' := (hc _ _ (cell_lt c0)).trans c0
      have c1' := (hc _ _ (cell_lt c1)).trans c1
      try have e0 : xx 11 = _ := hd 0 _ (by decide) rfl
      try have e1 : xx 12 = _ := hd 1 _ (by decide) rfl
      try have e2 : xx 13 = _ := hd 2 _ (by decide) rfl
      try have e3 : xx 14 = _ := hd 3 _ (by decide) rfl
      try have e4 : xx 15 = _ := hd 4 _ (by decide) rfl
      try have e5 : xx 16 = _ := hd 5 _ (by decide) rfl
      try have e6 : xx 17 = _ := hd 6 _ (by decide) rfl
      try have e7 : xx 18 = _ := hd 7 _ (by decide) rfl
      try have e8 : xx 19 = _ := hd 8 _ (by decide) rfl
      try have e9 : xx 20 = _ := hd 9 _ (by decide) rfl
      try have e10 : xx 21 = _ := hd 10 _ (by decide) rfl
      have HE := Lib.hid HE
      have HC := Lib.hid hc
      clear hd hc
      all_goals go_simp
      try (refine hK _ _ _ (mv_const _ rfl) ?_; dsimp only [Act.put]; first | done | rfl | (simp [*]; done))
    · refine hK (.int .i64 (IntKind.i64.wrap (2 * (m : Int)))) _ _ (mv_eq ?_ rfl) (by first | (dsimp only [Act.put]; done) | (dsimp only [Act.put]; first | rfl | (simp [*]; done) | (simp [*, ptr]; done)))
      (congr 1; simp only [IntKind.wrap_i64, wrap64]; omega)
    · refine hK (.int .i64 (IntKind.i64.wrap ((n : Int) + 2 * (m : Int)))) _ _ (mv_eq ?_ rfl) (by first | (dsimp only [Act.put]; done) | (dsimp only [Act.put]; first | rfl | (simp [*]; done) | (simp [*, ptr]; done)))
      have := HN.out
      (congr 1; simp only [IntKind.wrap_i64, wrap64]; omega)
    · refine hK (.int .i64 (IntKind.i64.wrap ((N : Int) + 1))) _ _ (mv_eq ?_ rfl) (by first | (dsimp only [Act.put]; done) | (dsimp only [Act.put]; first | rfl | (simp [*]; done) | (simp [*, ptr]; done)))
      have := HN.out
      have := HN1.out
      (congr 1; simp only [IntKind.wrap_i64, wrap64]; omega)
  case r1c4 =>
    intro xx wz hE hG hA
    have e0 : xx 11 = _ := hG 0 _ rfl
    have e1 : xx 12 = _ := hG 1 _ rfl
    have e2 : xx 13 = _ := hG 2 _ rfl
    have e3 : xx 14 = _ := hG 3 _ rfl
    have e4 : xx 15 = _ := hG 4 _ rfl
    have e5 : xx 16 = _ := hG 5 _ rfl
    have e6 : xx 17 = _ := hG 6 _ rfl
    have e7 : xx 18 = _ := hG 7 _ rfl
    have e8 : xx 19 = _ := hG 8 _ rfl
    have e9 : xx 20 = _ := hG 9 _ rfl
    have e10 : xx 21 = _ := hG 10 _ rfl
    have HE := Lib.hid hE
    clear hG hA hE
    refine tail_one (i := 11) (by kernel_rfl) rfl ?_
    intro K hK
    go_simp
    refine (entries_calls N1 wz (by have := HN.out; have := HN1.out; omega)).mono ?_; rintro e w2 ⟨b, Z, rfl, hZ, hb2⟩
    refine hK _ _ ?_
    have HB2 := Lib.hid (HE.out.trans (hb2.mono HE.out.size))
    have HZ : Hid (RowQ w2 w.heap.size b N1 N1 Z (fun _ => 0)) := Lib.hid ⟨hZ.ptrs, hZ.lt, Nat.le_trans HE.out.size hZ.new, hZ.fr, hZ.ex, hZ.cell, hZ.num, fun i hi => Nat.le_trans HE.out.size (hZ.low i hi), hZ.inj⟩
    clear hK hZ hb2 HE
    (refine tail_one (i := 12) (by kernel_rfl) rfl ?_; intro K hK; go_simp; refine hK _ _ ?_; clear hK)
    refine wpAny_done (by kernel_rfl) ?_ _
    go_wp2_with fail
    go_loopw [25] (fun tj wr => ∃ (j : Nat), j ≤ N1 ∧ tj = .int .i64 j ∧ Hid (RowQ wr w.heap.size b N1 N1 Z (fun k => if k < j then redTo N 0 T Bs cost k else 0)) ∧ Hid (Below w.heap.size w wr)) (fun tj _ => N1 - (intOf tj).toNat)
    case atStart => exact ⟨0, Nat.zero_le _, rfl, Lib.hid (HZ.out.congr fun i hi => by rw [if_neg (by omega)]), HB2⟩
    case round =>
      clear HZ HB2
      obtain ⟨j, hj, rfl, hZ, hbe⟩ := hrel
      by_cases hlt : j < N1
      · have hj1 : (j : Int) < N1 := by omega
        by_cases hl2 : j < N
        · have hj2 : (j : Int) < N := by omega
          have q1 := hZ.out.cell j hlt
          have q2 := (HCO.out.ext hbe.out).cell j hl2
          go_wp2_with fail
          refine wp_region_keys (w0 := wr) 8 [32, 33, 34, 35, 36, 37, 38, 39]
            [leafS 32 (.slice (some ⟨b, 0, none⟩) N1 N1), leafS 33 (.int .i64 j), leafS 34 (.pointer (some ⟨b, j, none⟩)), leafS 35 (.pointer (some ⟨(Z j), 0, none⟩)), leafS 36 (.slice (some ⟨bc, 0, none⟩) N N), leafS 37 (.int .i64 j), leafS 38 (.pointer (some ⟨bc, j, none⟩)), leafS 39 (.pointer (some ⟨(C j), 0, none⟩))]
            [] [none, none, none, none, none, none, none, none] RatBlk (by kernel_rfl) (by kernel_rfl) (by kernel_rfl) rfl (F := ?cFr6) ?r6c1 ?r6c2 ?r6c3 ?r6c4
          case r6c1 =>
            intro x
            simp only [fullF, Act.put, List.setIfInBounds_toArray, List.set_cons_zero, List.set_cons_succ]
            rfl
          case r6c2 =>
            exact ⟨keeps_const _ _ _ _ _ _ _, keeps_const _ _ _ _ _ _ _, keeps_const _ _ _ _ _ _ _, keeps_const _ _ _ _ _ _ _, keeps_const _ _ _ _ _ _ _, keeps_const _ _ _ _ _ _ _, keeps_const _ _ _ _ _ _ _, keeps_const _ _ _ _ _ _ _, trivial⟩
          case r6c3 =>
            refine ⟨?_, ?_, ?_, ?_, ?_, ?_, ?_, ?_, trivial⟩
            all_goals
              intro xx wq HE hd K hK
              have hc := (bcell HE).1
              have q1' := (hc _ _ (cell_lt q1)).trans q1
              have q2' := (hc _ _ (cell_lt q2)).trans q2
              try have e0 : xx 32 = _ := hd 0 _ (by decide) rfl
              try have e1 : xx 33 = _ := hd 1 _ (by decide) rfl
              try have e2 : xx 34 = _ := hd 2 _ (by decide) rfl
              try have e3 : xx 35 = _ := hd 3 _ (by decide) rfl
              try have e4 : xx 36 = _ := hd 4 _ (by decide) rfl
              try have e5 : xx 37 = _ := hd 5 _ (by decide) rfl
              try have e6 : xx 38 = _ := hd 6 _ (by decide) rfl
              try have e7 : xx 39 = _ := hd 7 _ (by decide) rfl
              have HE := Lib.hid HE
              have HC := Lib.hid hc
              clear hd hc
              all_goals go_simp
              try (refine hK _ _ _ (mv_const _ rfl) ?_; dsimp only [Act.put]; first | done | rfl | (simp [*]; done))
          case r6c4 =>
            intro xx wz hE hG hA
            have e0 : xx 32 = _ := hG 0 _ rfl
            have e1 : xx 33 = _ := hG 1 _ rfl
            have e2 : xx 34 = _ := hG 2 _ rfl
            have e3 : xx 35 = _ := hG 3 _ rfl
            have e4 : xx 36 = _ := hG 4 _ rfl
            have e5 : xx 37 = _ := hG 5 _ rfl
            have e6 : xx 38 = _ := hG 6 _ rfl
            have e7 : xx 39 = _ := hG 7 _ rfl
            have HE := Lib.hid hE
            clear hG hA hE
            refine tail_one (i := 8) (by kernel_rfl) rfl ?_
            intro K hK
            go_simp
            have hz1 := hZ.out.ext HE.out
            refine (ratSetTo_calls (Z j) (C j) (cost j) wz (hz1.num j hlt).blk ((HCO.out.ext (hbe.out.trans (HE.out.mono hbe.out.size))).num j hl2)).mono ?_; rintro e w3 ⟨rfl, hx, hb3⟩
            refine hK _ _ ?_
            have HZ3 := Lib.hid (hz1.set hlt hx hb3)
            have HB3 := Lib.hid ((hbe.out.trans (HE.out.mono hbe.out.size)).trans (hb3.below (hz1.low j hlt) (by have := hbe.out.size; have := HE.out.size; omega)))
            clear hK hx hb3 hz1
            refine wpAny_done (by kernel_rfl) ?_ _
            go_wp2
            go_roundw
            case rel =>
              refine ⟨j + 1, by omega, by go_num, Lib.hid (HZ3.out.congr fun k hk => ?_), HB3⟩
              simp only [redTo_zero]
              by_cases e : k = j
              · subst e; rw [if_pos rfl, if_pos (by omega), if_pos hl2]
              · rw [if_neg e]
                by_cases e2 : k < j
                · rw [if_pos e2, if_pos (show k < j + 1 by omega)]
                · rw [if_neg e2, if_neg (show ¬ k < j + 1 by omega)]
            case measure => simp [intOf]; omega
        · have hj2 : ¬ (j : Int) < N := by omega
          go_wp2
          go_roundw
          case rel =>
            refine ⟨j + 1, by omega, by go_num, Lib.hid (hZ.out.congr fun k hk => ?_), hbe⟩
            by_cases e : k = j
            · rw [if_neg (by omega), if_pos (by omega), redTo_zero, if_neg (by omega)]
            · by_cases e2 : k < j
              · rw [if_pos e2, if_pos (by omega)]
              · rw [if_neg e2, if_neg (by omega)]
          case measure => simp [intOf]; omega
      · obtain rfl : N1 = j := by omega
        have HZ := Lib.hid (hZ.out.congr (r := redTo N 0 T Bs cost) fun k hk => by rw [if_pos hk])
        have c2 : wr.cell? ⟨t, 2, none⟩ = some (.slice A m cA) := (HT.out.ext hbe.out).t2
        clear hZ
        go_wp2_with fail
        go_loopw [47] (fun ti wr => ∃ (i : Nat), i ≤ m ∧ ti = .int .i64 i ∧ Hid (RowQ wr w.heap.size b N1 N1 Z (redTo N i T Bs cost)) ∧ Hid (Below w.heap.size w wr)) (fun ti _ => m - (intOf ti).toNat)
        case atStart => exact ⟨0, Nat.zero_le _, rfl, HZ, hbe⟩
        case round =>
          clear HZ hbe c2
          obtain ⟨i, hi, rfl, hZ, hbe⟩ := hrel
          by_cases hlt : i < m
          · have hi1 : (i : Int) < m := by omega
            obtain ⟨R, rfl, hR0⟩ := hTrow.out i hlt
            obtain ⟨bb, hbA, hb0⟩ := HT.out.bas i hlt
            have hbA : bA = some ⟨bb, 0, none⟩ := hbA
            subst hbA
            have hbc := (bcell hbe.out).1
            have q1 := (hbc _ _ (cell_lt hR0)).trans hR0
            have q3 : wr.cell? ⟨t, 3, none⟩ = some (.slice (some ⟨bb, 0, none⟩) m cb) := (HT.out.ext hbe.out).t3
            have q4 := (hbc _ _ (cell_lt hb0)).trans hb0
            have hBi := HB.out i hlt
            have hBi1 : (Bs i : Int) < N := by omega
            have q5 := (HCO.out.ext hbe.out).cell (Bs i) hBi
            have HSG := Lib.hid (ratSign_calls (C (Bs i)) (cost (Bs i)) wr ((HCO.out.ext hbe.out).num (Bs i) hBi))
            clear hbc hR0 hb0
            go_wp2_with fail
            refine HSG.out.mono ?_; rintro e w3 ⟨rfl, rfl⟩
            clear HSG
            obtain ⟨s, hs, hs0⟩ : ∃ s : Int, sgnI (cost (Bs i)).num 0 = s ∧ (s = 0 ↔ cost (Bs i) = 0) := ⟨_, rfl, sgn_eq0 _⟩
            rw [hs]
            clear hs
            by_cases h0 : s = 0
            · have HS0 := Lib.hid (hs0.1 h0)
              clear hs0
              subst h0
              go_wp2
              go_roundw
              case rel =>
                refine ⟨i + 1, by omega, by go_num, Lib.hid (hZ.out.congr fun k hk => ?_), hbe⟩
                rw [redTo_succ, HS0.out]; grind
              case measure => simp [intOf]; omega
            · clear hs0
              have HSC := Lib.hid (SC.out (Bs i) hBi)
              clear q1 q3 q4 q5
              have h0f : (s == 0) = false := by simpa using h0
              go_wp2_with fail
              go_loopw [67] (fun tj wr => ∃ (j : Nat), j ≤ N1 ∧ tj = .int .i64 j ∧ Hid (RowQ wr w.heap.size b N1 N1 Z (fun k => if k < j then redTo N (i + 1) T Bs cost k else redTo N i T Bs cost k)) ∧ Hid (Below w.heap.size w wr)) (fun tj _ => N1 - (intOf tj).toNat)
              case atStart => exact ⟨0, Nat.zero_le _, rfl, Lib.hid (hZ.out.congr fun k hk => by rw [if_neg (by omega)]), hbe⟩
              case round =>
                clear hZ hbe
                obtain ⟨j, hj, rfl, hZ, hbe⟩ := hrel
                by_cases hlj : j < N1
                · have hj1 : (j : Int) < N1 := by omega
                  have q1 := hZ.out.cell j hlj
                  have q2 := ((hTnum.out i hlt).ext hbe.out).cell j hlj
                  have HXJ : Hid (RSm (redTo N i T Bs cost j)) := Lib.hid ((SQ.out i (by omega) j hlj).rsm (by omega))
                  have HML : Hid (RSm (cost (Bs i) * T i j)) := Lib.hid ((HSC.out.mul (ST.out i j hlt hlj)).rsm (by omega))
                  have HCC : Hid (RSm (cost (Bs i))) := Lib.hid (HSC.out.rsm (by omega))
                  have HTT : Hid (RSm (T i j)) := Lib.hid ((ST.out i j hlt hlj).rsm (by omega))
                  go_wp2_with fail
                  refine wp_region_keys (w0 := wr) 15 [70, 71, 72, 73, 74, 75, 76, 77, 78, 79, 80, 81, 82, 83, 84]
                    [leafS 70 (.slice (some ⟨b, 0, none⟩) N1 N1), leafS 71 (.int .i64 j), leafS 72 (.pointer (some ⟨b, j, none⟩)), leafS 73 (.pointer (some ⟨(Z j), 0, none⟩)), leafS 74 (.slice (some ⟨b, 0, none⟩) N1 N1), leafS 75 (.int .i64 j), leafS 76 (.pointer (some ⟨b, j, none⟩)), leafS 77 (.pointer (some ⟨(Z j), 0, none⟩)), leafA RatBlk 78 wr.heap.size, leafS 79 (.pointer (some ⟨(C (Bs i)), 0, none⟩)), leafS 80 (.slice (some ⟨rb i, 0, none⟩) N1 N1), leafS 81 (.int .i64 j), leafS 82 (.pointer (some ⟨rb i, j, none⟩)), leafS 83 (.pointer (some ⟨(Pt i j), 0, none⟩)), leafR 78 84 (fun p w => RatP w p (cost (Bs i) * T i j)) wr.heap.size]
                    [78] [none, none, none, none, none, none, none, none, none, none, none, none, none, none, some 78] RatBlk (by kernel_rfl) (by kernel_rfl) (by kernel_rfl) rfl (F := ?cFr16) ?r16c1 ?r16c2 ?r16c3 ?r16c4
                  case r16c1 =>
                    intro x
                    simp only [fullF, Act.put, List.setIfInBounds_toArray, List.set_cons_zero, List.set_cons_succ]
                    rfl
                  case r16c2 =>
                    exact ⟨keeps_const _ _ _ _ _ _ _, keeps_const _ _ _ _ _ _ _, keeps_const _ _ _ _ _ _ _, keeps_const _ _ _ _ _ _ _, keeps_const _ _ _ _ _ _ _, keeps_const _ _ _ _ _ _ _, keeps_const _ _ _ _ _ _ _, keeps_const _ _ _ _ _ _ _, keeps_alloc ratBlk_ext ratBlk_other _ _ _ _ _, keeps_const _ _ _ _ _ _ _, keeps_const _ _ _ _ _ _ _, keeps_const _ _ _ _ _ _ _, keeps_const _ _ _ _ _ _ _, keeps_const _ _ _ _ _ _ _, keeps_res (calm_rat _) _ _ _ _ _ rfl (by decide), trivial⟩
                  case r16c3 =>
                    refine ⟨?_, ?_, ?_, ?_, ?_, ?_, ?_, ?_, ?_, ?_, ?_, ?_, ?_, ?_, ?_, trivial⟩
                    all_goals
                      intro xx wq HE hd K hK
                      have hc := (bcell HE).1
                      have q1' := (hc _ _ (cell_lt q1)).trans q1
                      have q2' := (hc _ _ (cell_lt q2)).trans q2
                      try have e0 : xx 70 = _ := hd 0 _ (by decide) rfl
                      try have e1 : xx 71 = _ := hd 1 _ (by decide) rfl
                      try have e2 : xx 72 = _ := hd 2 _ (by decide) rfl
                      try have e3 : xx 73 = _ := hd 3 _ (by decide) rfl
                      try have e4 : xx 74 = _ := hd 4 _ (by decide) rfl
                      try have e5 : xx 75 = _ := hd 5 _ (by decide) rfl
                      try have e6 : xx 76 = _ := hd 6 _ (by decide) rfl
                      try have e7 : xx 77 = _ := hd 7 _ (by decide) rfl
                      try have g8 := hd 8 _ (by decide) rfl
                      try have e9 : xx 79 = _ := hd 9 _ (by decide) rfl
                      try have e10 : xx 80 = _ := hd 10 _ (by decide) rfl
                      try have e11 : xx 81 = _ := hd 11 _ (by decide) rfl
                      try have e12 : xx 82 = _ := hd 12 _ (by decide) rfl
                      try have e13 : xx 83 = _ := hd 13 _ (by decide) rfl
                      try have g14 := hd 14 _ (by decide) rfl
                      have HE := Lib.hid HE
                      have HC := Lib.hid hc
                      clear hd hc
                      all_goals go_simp
                      try (refine hK _ _ _ (mv_const _ rfl) ?_; dsimp only [Act.put]; first | done | rfl | (simp [*]; done))
                    · refine hK _ _ _ (mv_alloc _ HE.out.size (RatBlk.new _)) ?_
                      dsimp only [Act.put]
                      first | rfl | (simp [*]; done) | (simp [*, ptr]; done)
                    · obtain ⟨k, h78, hk1, hk2⟩ := g8
                      rw [h78]
                      refine (ratMul_calls k (C (Bs i)) (Pt i j) _ _ wq hk2 ((HCO.out.ext (hbe.out.trans (HE.out.mono hbe.out.size))).num (Bs i) hBi) (((hTnum.out i hlt).ext (hbe.out.trans (HE.out.mono hbe.out.size))).num j hlj) HCC.out HTT.out).mono ?_
                      rintro e w2 ⟨rfl, hz2, hb2⟩
                      exact hK _ _ _ (mv_set h78 hk1 hk2 hz2.blk hb2 hz2 (by decide) rfl) (by first | (dsimp only [Act.put]; done) | (dsimp only [Act.put]; first | rfl | (simp [*]; done) | (simp [*, ptr]; done)))
                  case r16c4 =>
                    intro xx wz hE hG hA
                    have e0 : xx 70 = _ := hG 0 _ rfl
                    have e1 : xx 71 = _ := hG 1 _ rfl
                    have e2 : xx 72 = _ := hG 2 _ rfl
                    have e3 : xx 73 = _ := hG 3 _ rfl
                    have e4 : xx 74 = _ := hG 4 _ rfl
                    have e5 : xx 75 = _ := hG 5 _ rfl
                    have e6 : xx 76 = _ := hG 6 _ rfl
                    have e7 : xx 77 = _ := hG 7 _ rfl
                    have g8 := hG 8 _ rfl
                    have e9 : xx 79 = _ := hG 9 _ rfl
                    have e10 : xx 80 = _ := hG 10 _ rfl
                    have e11 : xx 81 = _ := hG 11 _ rfl
                    have e12 : xx 82 = _ := hG 12 _ rfl
                    have e13 : xx 83 = _ := hG 13 _ rfl
                    have g14 := hG 14 _ rfl
                    obtain ⟨k, h78, h84, hk1, hk2⟩ := g14
                    unfold ptr at h84
                    have HE := Lib.hid hE; have HK2 := Lib.hid hk2
                    clear hG hA hE g8 hk2 h78
                    refine tail_one (i := 15) (by kernel_rfl) rfl ?_
                    intro K hK
                    go_simp
                    have hz1 := hZ.out.ext HE.out
                    have hnj := hz1.num j hlj
                    rw [if_neg (by omega)] at hnj
                    refine (ratSub_calls (Z j) (Z j) k _ _ wz hnj.blk hnj HK2.out HXJ.out HML.out).mono ?_; rintro e w3 ⟨rfl, hx, hb3⟩
                    refine hK _ _ ?_
                    have HZ3 := Lib.hid (hz1.set hlj hx hb3)
                    have HB3 := Lib.hid ((hbe.out.trans (HE.out.mono hbe.out.size)).trans (hb3.below (hz1.low j hlj) (by have := hbe.out.size; have := HE.out.size; omega)))
                    clear hK hx hb3 hz1 hnj HK2
                    refine wpAny_done (by kernel_rfl) ?_ _
                    go_wp2
                    go_roundw
                    case rel =>
                      refine ⟨j + 1, by omega, by go_num, Lib.hid (HZ3.out.congr fun k hk => ?_), HB3⟩
                      by_cases e : k = j
                      · subst e; rw [if_pos rfl, if_pos (by omega), redTo_succ]
                      · rw [if_neg e]
                        by_cases e2 : k < j
                        · rw [if_pos e2, if_pos (by omega)]
                        · rw [if_neg e2, if_neg (by omega)]
                    case measure => simp [intOf]; omega
                · obtain rfl : N1 = j := by omega
                  have HZ := Lib.hid (hZ.out.congr (r := redTo N (i + 1) T Bs cost) fun k hk => by rw [if_pos hk])
                  clear hZ
                  go_wp2
                  go_roundw
                  case rel => exact ⟨i + 1, by omega, by go_num, HZ, hbe⟩
                  case measure => simp [intOf]; omega
          · obtain rfl : m = i := by omega
            go_wp2
            go_ret
            exact ⟨_, Z, rfl, hZ.out, hbe.out⟩
end Go.Proofs.YtkljafmdbajfeaaGreatDoor
