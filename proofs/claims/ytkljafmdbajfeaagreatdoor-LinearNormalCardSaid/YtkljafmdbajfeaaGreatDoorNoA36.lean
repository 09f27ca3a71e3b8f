/- exact.table.fix: columns that would raise what was minimized are shut. -/
import Derived.Test.YtkljafmdbajfeaaGreatDoorNoA35
namespace Go.Proofs.YtkljafmdbajfeaaGreatDoor
open Go.RowKit
open Lp (Tab Bas)
set_option linter.unusedVariables false
set_option linter.unusedSimpArgs false
set_option maxRecDepth 100000 in
set_option maxHeartbeats 4000000 in
theorem fix_calls (B t n m : Nat) (D : TA) (T : Tab) (Bs : Bas) (sg : Nat → Int) (sh : Nat → Bool) (Bz bz n1 : Nat) (Z : Nat → Nat) (q : Nat → Rat) (w : World)
    (hT : TabD w B t n m D T Bs sg sh) (hz : RowQ w Bz bz n1 n1 Z q) (hzb : ¬ inT D n m bz) (hzZ : ∀ i, i < n1 → ¬ inT D n m (Z i)) (hn1 : n + 2 * m ≤ n1) (hn : n ≤ 100) (hm : m ≤ 100) :
    Calls Tryz.prog 219 #[.pointer (some ⟨t, 0, none⟩), .slice (some ⟨bz, 0, none⟩) n1 n1] w fun e w' => e = .returned (.tuple #[]) ∧ TabD w' B t n m D T Bs sg (fun j => sh j || decide (0 < q j)) ∧ Chg (inT D n m) w w' := by
  obtain ⟨S, hS⟩ : ∃ S, S = inT D n m := ⟨_, rfl⟩
  have HSS := Lib.hid hS
  have hSh : S D.hb := by rw [hS]; exact .inr (.inr rfl)
  have HSH := Lib.hid hSh
  have HZR : Hid (∀ W, Chg S w W → RowQ W Bz bz n1 n1 Z q) := Lib.hid (by
    intro W h; rw [hS] at h; exact hz.chg h hzb hzZ)
  have HT := Lib.hid hT
  clear hT hz hzb hzZ hS hSh
  obtain ⟨RA, cA, bA, cb, sA, cs, hbk, rb, Pt⟩ := D
  obtain ⟨N, hN⟩ : ∃ N, n + 2 * m = N := ⟨_, rfl⟩
  have HN := Lib.hid hN
  have TSH : Hid (∀ W sh', TabD W B t n m ⟨RA, cA, bA, cb, sA, cs, hbk, rb, Pt⟩ T Bs sg sh' → W.cell? ⟨t, 5, none⟩ = some (.slice (some ⟨hbk, 0, none⟩) N N) ∧ (∀ i, W.frozen? ⟨hbk, i, none⟩ = false) ∧ ∀ j, j < N → W.cell? ⟨hbk, j, none⟩ = some (.bool (sh' j))) := Lib.hid (by
    intro W sh' hW
    have h1 := hW.t5
    have h2 := hW.shut
    rw [hN] at h1 h2; exact ⟨h1, hW.shO.2.2.2, h2⟩)
  have hNb : N ≤ 300 := by omega
  rw [hN] at hn1
  clear hN
  have c5 := (TSH.out w sh HT.out).1
  go_enter Tryz.func219, Tryz.ntmps219
  go_wp2_with fail
  go_loopw [10] (fun tj wr => ∃ (j : Nat), j ≤ N ∧ tj = .int .i64 j ∧ Hid (TabD wr B t n m ⟨RA, cA, bA, cb, sA, cs, hbk, rb, Pt⟩ T Bs sg (fun k => if k < j then sh k || decide (0 < q k) else sh k)) ∧ Hid (Chg S w wr)) (fun tj _ => N - (intOf tj).toNat)
  case atStart => exact ⟨0, Nat.zero_le _, rfl, Lib.hid (HT.out.congr (fun _ _ _ _ => rfl) (fun _ _ => rfl) fun k hk => by rw [if_neg (by omega)]), Lib.hid (Chg.refl _ _)⟩
  case round =>
    clear HT c5
    obtain ⟨j, hj, rfl, hT, hC⟩ := hrel
    by_cases hlt : j < N
    · have hj1 : (j : Int) < N := by omega
      have hj2 : (j : Int) < n1 := by omega
      obtain ⟨c5, hfr, hsh⟩ := TSH.out _ _ hT.out
      have c6 := hsh j hlt
      have hz1 := HZR.out _ hC.out
      have c7 := hz1.cell j (by omega)
      have HNM := Lib.hid (hz1.num j (by omega))
      have HFR := Lib.hid hfr
      simp only [Nat.lt_irrefl, if_false] at c6
      clear hsh hfr hz1
      have hfin : Hid (∀ W, Below wr.heap.size wr W → TabD (W.setCell ⟨hbk, j, none⟩ (.bool (sh j || decide (0 < q j)))) B t n m ⟨RA, cA, bA, cb, sA, cs, hbk, rb, Pt⟩ T Bs sg (fun k => if k < j + 1 then sh k || decide (0 < q k) else sh k) ∧ Chg S w (W.setCell ⟨hbk, j, none⟩ (.bool (sh j || decide (0 < q j))))) := Lib.hid (by
        intro W hW
        have h1 := hT.out.ext hW
        have h2 := h1.setSh (i := j) (by have := HN.out; omega) (sh j || decide (0 < q j))
        refine ⟨h2.congr (fun _ _ _ _ => rfl) (fun _ _ => rfl) fun k hk => ?_, (hC.out.ext hW).trans (Chg.ofBut ((But.refl _ _).set _ _) (fun o x e => ?_) HSH.out)⟩
        · by_cases e : k = j
          · subst e; simp
          · by_cases e2 : k < j
            · simp [e, e2, show k < j + 1 by omega]
            · simp [e, e2, show ¬ k < j + 1 by omega]
        · obtain ⟨y, e2⟩ := h1.shO.2.2.1 _ _ e; cases e2)
      cases hsj : sh j with
      | true =>
        rw [hsj] at c6 hfin
        simp only [Bool.true_or] at hfin
        clear hsj
        go_wp2_with fail
        refine wp_region_keys (w0 := wr) 20 [13, 14, 15, 16, 17, 18, 19, 20, 21, 22, 23, 24, 25, 26, 27, 28, 29, 30, 31, 32]
          [leafS 13 (.pointer (some ⟨t, 0, none⟩)), leafS 14 (.pointer (some ⟨t, 0, none⟩)), leafS 15 (.pointer (some ⟨t, 5, none⟩)), leafS 16 (.slice (some ⟨hbk, 0, none⟩) N N), leafS 17 (.int .i64 j), leafS 18 (.pointer (some ⟨t, 0, none⟩)), leafS 19 (.pointer (some ⟨t, 0, none⟩)), leafS 20 (.pointer (some ⟨t, 5, none⟩)), leafS 21 (.slice (some ⟨hbk, 0, none⟩) N N), leafS 22 (.int .i64 j), leafS 23 (.pointer (some ⟨hbk, j, none⟩)), leafS 24 (.bool true), leafS 25 (.bool true), leafS 26 (undef), leafS 27 (undef), leafS 28 (undef), leafS 29 (undef), leafS 30 (undef), leafS 31 (undef), leafS 32 (.bool true)]
          [] [none, none, none, none, none, none, none, none, none, none, none, none, none, none, none, none, none, none, none, none] RatBlk (by kernel_rfl) (by kernel_rfl) (by kernel_rfl) rfl (F := ?cFr3a) ?r3ac1 ?r3ac2 ?r3ac3 ?r3ac4
        case r3ac1 =>
          intro x
          simp only [fullF, Act.put, List.setIfInBounds_toArray, List.set_cons_zero, List.set_cons_succ]
          rfl
        case r3ac2 =>
          exact ⟨keeps_const _ _ _ _ _ _ _, keeps_const _ _ _ _ _ _ _, keeps_const _ _ _ _ _ _ _, keeps_const _ _ _ _ _ _ _, keeps_const _ _ _ _ _ _ _, keeps_const _ _ _ _ _ _ _, keeps_const _ _ _ _ _ _ _, keeps_const _ _ _ _ _ _ _, keeps_const _ _ _ _ _ _ _, keeps_const _ _ _ _ _ _ _, keeps_const _ _ _ _ _ _ _, keeps_const _ _ _ _ _ _ _, keeps_const _ _ _ _ _ _ _, keeps_const _ _ _ _ _ _ _, keeps_const _ _ _ _ _ _ _, keeps_const _ _ _ _ _ _ _, keeps_const _ _ _ _ _ _ _, keeps_const _ _ _ _ _ _ _, keeps_const _ _ _ _ _ _ _, keeps_const _ _ _ _ _ _ _, trivial⟩
        case r3ac3 =>
          refine ⟨?_, ?_, ?_, ?_, ?_, ?_, ?_, ?_, ?_, ?_, ?_, ?_, ?_, ?_, ?_, ?_, ?_, ?_, ?_, ?_, trivial⟩
          all_goals
            intro xx wq HE hd K hK
            have hc := (bcell HE).1
            have c5' := (hc _ _ (cell_lt c5)).trans c5
            have c6' := (hc _ _ (cell_lt c6)).trans c6
            have c7' := (hc _ _ (cell_lt c7)).trans c7
            try have e0 : xx 13 = _ := hd 0 _ (by decide) rfl
            try have e1 : xx 14 = _ := hd 1 _ (by decide) rfl
            try have e2 : xx 15 = _ := hd 2 _ (by decide) rfl
            try have e3 : xx 16 = _ := hd 3 _ (by decide) rfl
            try have e4 : xx 17 = _ := hd 4 _ (by decide) rfl
            try have e5 : xx 18 = _ := hd 5 _ (by decide) rfl
            try have e6 : xx 19 = _ := hd 6 _ (by decide) rfl
            try have e7 : xx 20 = _ := hd 7 _ (by decide) rfl
            try have e8 : xx 21 = _ := hd 8 _ (by decide) rfl
            try have e9 : xx 22 = _ := hd 9 _ (by decide) rfl
            try have e10 : xx 23 = _ := hd 10 _ (by decide) rfl
            try have e11 : xx 24 = _ := hd 11 _ (by decide) rfl
            try have e12 : xx 25 = _ := hd 12 _ (by decide) rfl
            try have e13 : xx 26 = _ := hd 13 _ (by decide) rfl
            try have e14 : xx 27 = _ := hd 14 _ (by decide) rfl
            try have e15 : xx 28 = _ := hd 15 _ (by decide) rfl
            try have e16 : xx 29 = _ := hd 16 _ (by decide) rfl
            try have e17 : xx 30 = _ := hd 17 _ (by decide) rfl
            try have e18 : xx 31 = _ := hd 18 _ (by decide) rfl
            try have e19 : xx 32 = _ := hd 19 _ (by decide) rfl
            have HE := Lib.hid HE
            have HC := Lib.hid hc
            clear hd hc
            all_goals go_simp
            try (refine hK _ _ _ (mv_const _ rfl) ?_; dsimp only [Act.put]; first | done | rfl | (simp [*]; done))
        case r3ac4 =>
          intro xx wz hE hG hA
          have e0 : xx 13 = _ := hG 0 _ rfl
          have e1 : xx 14 = _ := hG 1 _ rfl
          have e2 : xx 15 = _ := hG 2 _ rfl
          have e3 : xx 16 = _ := hG 3 _ rfl
          have e4 : xx 17 = _ := hG 4 _ rfl
          have e5 : xx 18 = _ := hG 5 _ rfl
          have e6 : xx 19 = _ := hG 6 _ rfl
          have e7 : xx 20 = _ := hG 7 _ rfl
          have e8 : xx 21 = _ := hG 8 _ rfl
          have e9 : xx 22 = _ := hG 9 _ rfl
          have e10 : xx 23 = _ := hG 10 _ rfl
          have e11 : xx 24 = _ := hG 11 _ rfl
          have e12 : xx 25 = _ := hG 12 _ rfl
          have e13 : xx 26 = _ := hG 13 _ rfl
          have e14 : xx 27 = _ := hG 14 _ rfl
          have e15 : xx 28 = _ := hG 15 _ rfl
          have e16 : xx 29 = _ := hG 16 _ rfl
          have e17 : xx 30 = _ := hG 17 _ rfl
          have e18 : xx 31 = _ := hG 18 _ rfl
          have e19 : xx 32 = _ := hG 19 _ rfl
          have hTz := hT.out.ext hE
          obtain ⟨-, hfrz, hshz⟩ := TSH.out _ _ hTz
          have c6z := hshz j hlt
          simp only [Nat.lt_irrefl, if_false] at c6z
          have hfj := hfrz j
          have HF := Lib.hid (hfin.out wz hE)
          clear hG hA hE hTz hfrz hshz
          (refine tail_one (i := 20) (by kernel_rfl) rfl ?_; intro K hK; go_simp; refine hK _ _ ?_; clear hK)
          (refine tail_one (i := 21) (by kernel_rfl) rfl ?_; intro K hK; go_simp; refine hK _ _ ?_; clear hK)
          refine wpAny_done (by kernel_rfl) ?_ _
          go_wp2
          go_roundw
          case rel => exact ⟨j + 1, by omega, by go_num, Lib.hid HF.out.1, Lib.hid HF.out.2⟩
          case measure => simp [intOf]; omega
      | false =>
        rw [hsj] at c6 hfin
        simp only [Bool.false_or] at hfin
        obtain ⟨s, hs, hs0⟩ : ∃ s : Int, sgnI (q j).num 0 = s ∧ decide (0 < q j) = decide (0 < s) := by
          exact ⟨_, rfl, sgn_gt0 _⟩
        rw [hs0] at hfin
        have HS := Lib.hid hs
        clear hsj hs hs0
        go_wp2_with fail
        refine wp_region_keys (w0 := wr) 20 [13, 14, 15, 16, 17, 18, 19, 20, 21, 22, 23, 24, 25, 26, 27, 28, 29, 30, 31, 32]
          [leafS 13 (.pointer (some ⟨t, 0, none⟩)), leafS 14 (.pointer (some ⟨t, 0, none⟩)), leafS 15 (.pointer (some ⟨t, 5, none⟩)), leafS 16 (.slice (some ⟨hbk, 0, none⟩) N N), leafS 17 (.int .i64 j), leafS 18 (.pointer (some ⟨t, 0, none⟩)), leafS 19 (.pointer (some ⟨t, 0, none⟩)), leafS 20 (.pointer (some ⟨t, 5, none⟩)), leafS 21 (.slice (some ⟨hbk, 0, none⟩) N N), leafS 22 (.int .i64 j), leafS 23 (.pointer (some ⟨hbk, j, none⟩)), leafS 24 (.bool false), leafS 25 (.bool false), leafS 26 (.slice (some ⟨bz, 0, none⟩) n1 n1), leafS 27 (.int .i64 j), leafS 28 (.pointer (some ⟨bz, j, none⟩)), leafS 29 (.pointer (some ⟨(Z j), 0, none⟩)), leafS 30 (.int .i64 s), leafS 31 (.bool (decide (0 < s))), leafS 32 (.bool (decide (0 < s)))]
          [] [none, none, none, none, none, none, none, none, none, none, none, none, none, none, none, none, none, none, none, none] RatBlk (by kernel_rfl) (by kernel_rfl) (by kernel_rfl) rfl (F := ?cFr3b) ?r3bc1 ?r3bc2 ?r3bc3 ?r3bc4
        case r3bc1 =>
          intro x
          simp only [fullF, Act.put, List.setIfInBounds_toArray, List.set_cons_zero, List.set_cons_succ]
          rfl
        case r3bc2 =>
          exact ⟨keeps_const _ _ _ _ _ _ _, keeps_const _ _ _ _ _ _ _, keeps_const _ _ _ _ _ _ _, keeps_const _ _ _ _ _ _ _, keeps_const _ _ _ _ _ _ _, keeps_const _ _ _ _ _ _ _, keeps_const _ _ _ _ _ _ _, keeps_const _ _ _ _ _ _ _, keeps_const _ _ _ _ _ _ _, keeps_const _ _ _ _ _ _ _, keeps_const _ _ _ _ _ _ _, keeps_const _ _ _ _ _ _ _, keeps_const _ _ _ _ _ _ _, keeps_const _ _ _ _ _ _ _, keeps_const _ _ _ _ _ _ _, keeps_const _ _ _ _ _ _ _, keeps_const _ _ _ _ _ _ _, keeps_const _ _ _ _ _ _ _, keeps_const _ _ _ _ _ _ _, keeps_const _ _ _ _ _ _ _, trivial⟩
        case r3bc3 =>
          refine ⟨?_, ?_, ?_, ?_, ?_, ?_, ?_, ?_, ?_, ?_, ?_, ?_, ?_, ?_, ?_, ?_, ?_, ?_, ?_, ?_, trivial⟩
          all_goals
            intro xx wq HE hd K hK
            have hc := (bcell HE).1
            have c5' := (hc _ _ (cell_lt c5)).trans c5
            have c6' := (hc _ _ (cell_lt c6)).trans c6
            have c7' := (hc _ _ (cell_lt c7)).trans c7
            try have e0 : xx 13 = _ := hd 0 _ (by decide) rfl
            try have e1 : xx 14 = _ := hd 1 _ (by decide) rfl
            try have e2 : xx 15 = _ := hd 2 _ (by decide) rfl
            try have e3 : xx 16 = _ := hd 3 _ (by decide) rfl
            try have e4 : xx 17 = _ := hd 4 _ (by decide) rfl
            try have e5 : xx 18 = _ := hd 5 _ (by decide) rfl
            try have e6 : xx 19 = _ := hd 6 _ (by decide) rfl
            try have e7 : xx 20 = _ := hd 7 _ (by decide) rfl
            try have e8 : xx 21 = _ := hd 8 _ (by decide) rfl
            try have e9 : xx 22 = _ := hd 9 _ (by decide) rfl
            try have e10 : xx 23 = _ := hd 10 _ (by decide) rfl
            try have e11 : xx 24 = _ := hd 11 _ (by decide) rfl
            try have e12 : xx 25 = _ := hd 12 _ (by decide) rfl
            try have e13 : xx 26 = _ := hd 13 _ (by decide) rfl
            try have e14 : xx 27 = _ := hd 14 _ (by decide) rfl
            try have e15 : xx 28 = _ := hd 15 _ (by decide) rfl
            try have e16 : xx 29 = _ := hd 16 _ (by decide) rfl
            try have e17 : xx 30 = _ := hd 17 _ (by decide) rfl
            try have e18 : xx 31 = _ := hd 18 _ (by decide) rfl
            try have e19 : xx 32 = _ := hd 19 _ (by decide) rfl
            have HE := Lib.hid HE
            have HC := Lib.hid hc
            clear hd hc
            all_goals go_simp
            try (refine hK _ _ _ (mv_const _ rfl) ?_; dsimp only [Act.put]; first | done | rfl | (simp [*]; done))
          · refine (ratSign_calls (Z j) (q j) wq (HNM.out.ext HE.out)).mono ?_
            rintro e w2 ⟨rfl, h2⟩
            rw [HS.out, h2]
            exact hK _ _ _ (mv_const _ rfl) (by first | (dsimp only [Act.put]; done) | (dsimp only [Act.put]; first | rfl | (simp [*]; done) | (simp [*, ptr]; done)))
        case r3bc4 =>
          intro xx wz hE hG hA
          have e0 : xx 13 = _ := hG 0 _ rfl
          have e1 : xx 14 = _ := hG 1 _ rfl
          have e2 : xx 15 = _ := hG 2 _ rfl
          have e3 : xx 16 = _ := hG 3 _ rfl
          have e4 : xx 17 = _ := hG 4 _ rfl
          have e5 : xx 18 = _ := hG 5 _ rfl
          have e6 : xx 19 = _ := hG 6 _ rfl
          have e7 : xx 20 = _ := hG 7 _ rfl
          have e8 : xx 21 = _ := hG 8 _ rfl
          have e9 : xx 22 = _ := hG 9 _ rfl
          have e10 : xx 23 = _ := hG 10 _ rfl
          have e11 : xx 24 = _ := hG 11 _ rfl
          have e12 : xx 25 = _ := hG 12 _ rfl
          have e13 : xx 26 = _ := hG 13 _ rfl
          have e14 : xx 27 = _ := hG 14 _ rfl
          have e15 : xx 28 = _ := hG 15 _ rfl
          have e16 : xx 29 = _ := hG 16 _ rfl
          have e17 : xx 30 = _ := hG 17 _ rfl
          have e18 : xx 31 = _ := hG 18 _ rfl
          have e19 : xx 32 = _ := hG 19 _ rfl
          have hTz := hT.out.ext hE
          obtain ⟨-, hfrz, hshz⟩ := TSH.out _ _ hTz
          have c6z := hshz j hlt
          simp only [Nat.lt_irrefl, if_false] at c6z
          have hfj := hfrz j
          have HF := Lib.hid (hfin.out wz hE)
          clear hG hA hE hTz hfrz hshz
          (refine tail_one (i := 20) (by kernel_rfl) rfl ?_; intro K hK; go_simp; refine hK _ _ ?_; clear hK)
          (refine tail_one (i := 21) (by kernel_rfl) rfl ?_; intro K hK; go_simp; refine hK _ _ ?_; clear hK)
          refine wpAny_done (by kernel_rfl) ?_ _
          go_wp2
          go_roundw
          case rel => exact ⟨j + 1, by omega, by go_num, Lib.hid HF.out.1, Lib.hid HF.out.2⟩
          case measure => simp [intOf]; omega
    · obtain rfl : N = j := by omega
      go_wp2
      go_end0
      exact ⟨rfl, hT.out.congr (fun _ _ _ _ => rfl) (fun _ _ => rfl) fun k hk => by rw [if_pos (by have := HN.out; omega)], by rw [← HSS.out]; exact hC.out⟩
end Go.Proofs.YtkljafmdbajfeaaGreatDoor
