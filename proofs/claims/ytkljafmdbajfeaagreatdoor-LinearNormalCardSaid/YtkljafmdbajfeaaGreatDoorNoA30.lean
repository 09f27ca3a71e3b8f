/- linear.Reduce, linear.Member, exact.Vec.Zero: what they answer. -/
import Derived.Test.YtkljafmdbajfeaaGreatDoorNoA06
import Derived.Test.YtkljafmdbajfeaaGreatDoorNoA29
namespace Go.Proofs.YtkljafmdbajfeaaGreatDoor
open Go.RowKit Go.ChangeMaps
open Lp (Lt V Ech BdV Bd pivots lv cnt Gen From Least)
set_option linter.unusedVariables false
set_option linter.unusedSimpArgs false
theorem all_rangeT {n : Nat} {p : Nat → Bool} (h : ∀ i, i < n → p i = true) : (List.range n).all p = true := List.all_eq_true.2 fun i hi => h i (List.mem_range.1 hi)
theorem all_rangeF {n k : Nat} {p : Nat → Bool} (hk : k < n) (h : p k = false) : (List.range n).all p = false := by
  cases e : (List.range n).all p with
  | false => rfl
  | true => have := List.all_eq_true.1 e k (List.mem_range.2 hk); rw [h] at this; cases this
theorem wide_gen {X k e j : Nat} (hX : (3 * X) ^ e ≤ 4294967296) (h0 : 0 < X) (hk : 2 ^ k ≤ e * j) (hj : j ≤ 100000000) {z : Int} (hz : z.natAbs ≤ lv X k) : Wide z := by
  have h1 := lv_pow X k
  have h2 : (3 * X) ^ (2 ^ k) ≤ (3 * X) ^ (e * j) := Nat.pow_le_pow_right (by omega) hk
  rw [Nat.pow_mul] at h2
  have h3 : ((3 * X) ^ e) ^ j ≤ 4294967296 ^ j := Nat.pow_le_pow_left hX _
  have h4 := Lp.lv_pos h0 k
  have h5 : z.natAbs < 4294967296 ^ j := by
    generalize 4294967296 ^ j = B at *
    generalize ((3 * X) ^ e) ^ j = C at *
    generalize (3 * X) ^ (2 ^ k) = D at *
    omega
  exact Nat.le_trans (big_len h5) hj
theorem wide_27 {k : Nat} (hk : k ≤ 27) {z : Int} (hz : z.natAbs ≤ lv 30 k) : Wide z :=
  wide_gen (e := 4) (j := 33554432) (by decide) (by omega) (Nat.le_trans (Nat.pow_le_pow_right (by omega) hk) (by decide)) (by omega) hz
theorem lv_21 {j : Nat} (h : j ≤ 21) : lv 30 j ≤ lv 30 21 := Lp.lv_mono (by omega) h
theorem lv_big : 1000 ≤ lv 30 21 := by
  have h1 : lv 30 1 ≤ lv 30 21 := Lp.lv_mono (by omega) (by omega)
  have h2 : lv 30 1 = 2700 := rfl
  omega
structure RedV (l : List (List Int)) (xs : List Int) (rows : Lt) (f : V) : Prop where
  ech : Ech xs.length rows
  red : Lp.Red rows
  gen : ∀ x, Gen (From rows 0) x ↔ Gen (· ∈ l.map nth) x
  least : Least rows f
  rest : Gen (From rows 0) fun i => nth xs i - f i
  high : ∀ i, xs.length ≤ i → f i = 0
set_option maxRecDepth 100000 in
set_option maxHeartbeats 2000000 in
theorem vecZero_calls (n : Nat) (f : V) (v : Value) (w : World) (hv : VecP w v n f) (hn : n ≤ 1000) :
    Calls Tryz.prog 95 #[v] w fun e w' => e = .returned (.bool ((List.range n).all fun i => decide (f i = 0))) ∧ Below w.heap.size w w' := by
  obtain ⟨A, c, rfl, hc, hm, hcell⟩ := id hv
  have HC := Lib.hid hcell; have HV := Lib.hid hv
  clear hcell hv
  go_enter Tryz.func95, Tryz.ntmps95
  go_wp2
  go_loopw [7] (fun ti wr => ∃ (k m : Nat), k ≤ n ∧ ti = .int .i64 k ∧ Hid (∀ j, j < k → f j = 0) ∧ wr = w.drewN m) (fun ti _ => n - (intOf ti).toNat)
  case atStart => exact ⟨0, 0, Nat.zero_le _, rfl, Lib.hid (fun j hj => by omega), rfl⟩
  case round =>
    obtain ⟨k, m, hk, rfl, hall, rfl⟩ := hrel
    by_cases hlt : k < n
    · have hk1 : (k : Int) < n := by omega
      obtain ⟨b, o, p, rfl, -, q1, hz⟩ := (HV.out.ext (drewN_below w m)).at hlt
      have HS := Lib.hid (sign_calls p (f k) _ hz)
      clear hz
      by_cases hk0 : f k = 0
      · rw [show sgnI (f k) 0 = 0 by rw [hk0]; rfl] at HS
        have hall2 : Hid (∀ j, j < k + 1 → f j = 0) := Lib.hid fun j hj => by
          rcases Nat.lt_or_ge j k with h | h
          · exact hall.out j h
          · rw [show j = k by omega]; exact hk0
        clear hk0
        go_wp2_with fail
        refine HS.out.mono ?_; rintro e w2 ⟨rfl, rfl⟩
        clear HS
        go_wp2
        go_roundw
        case rel => exact ⟨k + 1, m, by omega, by go_num, hall2, rfl⟩
        case measure => simp [intOf]; omega
      · have hsg : (sgnI (f k) 0 != 0) = true := by unfold sgnI; split <;> (try split) <;> first | rfl | omega
        obtain ⟨sg, hsv⟩ : ∃ sg, sgnI (f k) 0 = sg := ⟨_, rfl⟩
        rw [hsv] at HS hsg
        have HK0 := Lib.hid hk0
        clear hsv hk0
        go_wp2_with fail
        refine HS.out.mono ?_; rintro e w2 ⟨rfl, rfl⟩
        clear HS
        go_wp2
        go_ret
        exact ⟨by rw [all_rangeF hlt (decide_eq_false HK0.out)]; rfl, drewN_below _ _⟩
    · obtain rfl : k = n := by omega
      go_wp2
      go_ret
      exact ⟨by rw [all_rangeT fun i hi => decide_eq_true (hall.out i hi)]; rfl, drewN_below _ _⟩
set_option maxRecDepth 100000 in
set_option maxHeartbeats 2000000 in
theorem reduceL_bad (A X : Option Addr) (c cx : Nat) (l : List (List Int)) (xs : List Int) (w : World) (h : Grid w A l) (hX : Ints w X xs) (hl : l.length ≤ maxLen) (hr : ∀ r ∈ l, r.length ≤ maxLen) (hm : xs.length ≤ maxLen) (hok : (rowsOk l xs.length && listOk 1000 xs) = false) :
    Calls Tryz.prog 34 #[.slice A l.length c, .slice X xs.length cx] w fun e w' => e = .returned (.tuple #[.slice none 0 0, .int .i64 2]) ∧ Below w.heap.size w w' := by
  have HRW := Lib.hid (rowed_calls A c l xs.length w hl hr hm h)
  have HX := Lib.hid hX
  clear h hX
  go_enter Tryz.func34, Tryz.ntmps34
  go_wp2_with fail
  refine HRW.out.mono ?_; rintro e w1 ⟨rfl, hb1⟩
  have HB1 := Lib.hid hb1
  clear hb1 HRW
  cases h1 : rowsOk l xs.length with
  | false =>
    clear h1 hok
    go_wp2
    go_ret2
    exact ⟨rfl, HB1.out⟩
  | true =>
    rw [h1, Bool.true_and] at hok
    have HLS := Lib.hid (listed_calls X cx xs 1000 w1 hm (by omega) (by omega) (HX.out.ext HB1.out))
    have HOK := Lib.hid hok
    clear h1 hok
    go_wp2_with fail
    refine HLS.out.mono ?_; rw [HOK.out]; rintro e w2 ⟨rfl, hb2⟩
    have HB2 := Lib.hid (HB1.out.trans (hb2.mono HB1.out.size))
    clear hb2 HLS
    go_wp2
    go_ret2
    exact ⟨rfl, HB2.out⟩
set_option maxRecDepth 100000 in
set_option maxHeartbeats 2000000 in
theorem reduceL_good (A X : Option Addr) (c cx : Nat) (l : List (List Int)) (xs : List Int) (w : World) (h : Grid w A l) (hX : Ints w X xs) (hok : rowsOk l xs.length = true) (hls : listOk 1000 xs = true) :
    Calls Tryz.prog 34 #[.slice A l.length c, .slice X xs.length cx] w fun e w' => ∃ g rows f, e = .returned (.tuple #[.slice (some ⟨g, 0, none⟩) xs.length xs.length, .int .i64 0]) ∧ w.heap.size ≤ g ∧ IBlk w' g (intsTo f xs.length xs.length) ∧ RedV l xs rows f ∧ Below w.heap.size w w' := by
  obtain ⟨n, hnx⟩ : ∃ n, xs.length = n := ⟨_, rfl⟩
  rw [hnx] at hok ⊢
  obtain ⟨h1, h6, hl6, hrow, hx⟩ := rowsOk_in hok
  have HRW := Lib.hid (rowed_calls A c l n w (by unfold maxLen; omega) (fun r hr => by rw [hrow r hr]; unfold maxLen; omega) (by unfold maxLen; omega) h)
  have hli := listed_calls X cx xs 1000
  rw [hnx, hls] at hli
  have hvo := vecOf_calls X cx xs
  rw [hnx] at hvo
  have HLI := Lib.hid hli; have HVO := Lib.hid hvo; have HNX := Lib.hid hnx; have HLS := Lib.hid hls
  have HG := Lib.hid h; have HXS := Lib.hid hX
  have HROW : Hid (∀ r ∈ l, r.length = n) := Lib.hid hrow
  have HX : Hid (∀ r ∈ l, ∀ x ∈ r, -30 ≤ x ∧ x ≤ 30) := Lib.hid hx
  clear h hrow hx hli hvo hnx hls hX
  go_enter Tryz.func34, Tryz.ntmps34
  go_wp2_with fail
  refine HRW.out.mono ?_; rw [hok]; rintro e w1 ⟨rfl, hb1⟩
  have HL1 := Lib.hid (HLI.out w1 (by unfold maxLen; omega) (by omega) (by omega) (HXS.out.ext hb1))
  have HB1 := Lib.hid hb1
  clear hb1 HRW HLI
  go_wp2_with fail
  refine HL1.out.mono ?_; rintro e w2 ⟨rfl, hb2⟩
  have HB2 := Lib.hid (HB1.out.trans (hb2.mono HB1.out.size))
  clear hb2 HL1 HB1
  have HV := Lib.hid (vectors_calls A c n l w2 (HG.out.ext HB2.out) (by omega) (by omega) HROW.out (fun r hr x hx => by have := HX.out r hr x hx; omega))
  go_wp2_with fail
  refine HV.out.mono ?_; rintro e w3 ⟨A2, c2, rfl, hvs, hb3⟩
  have hlat := lat_calls n 30 (l.map nth) A2 c2 w3 hvs (by omega) (by omega) (by simp; omega) (fun f hf i hi => by
    obtain ⟨r, hr, rfl⟩ := List.mem_map.1 hf
    exact nth_beyond (by rw [HROW.out r hr]; exact hi)) (fun f hf => by
    obtain ⟨r, hr, rfl⟩ := List.mem_map.1 hf
    exact nth_bd (fun x hx => HX.out r hr x hx)) (by omega) (fun z hz => wide_21 (by rw [List.length_map]; exact tri_six hl6) hz)
  rw [List.length_map] at hlat
  have HLAT := Lib.hid hlat
  have HB3 := Lib.hid (HB2.out.trans (hb3.mono HB2.out.size))
  clear hlat hvs hb3 HV HB2
  go_wp2_with fail
  refine HLAT.out.mono ?_; rintro e w4 ⟨L, M, rows, rfl, hL, hM, hl4, hE, hR, hgen, hcnt, hbd, hb4⟩
  have HL4 := Lib.hid hl4; have HE := Lib.hid hE; have HRED := Lib.hid hR; have HGEN := Lib.hid hgen; have HBD := Lib.hid hbd
  have HB4 := Lib.hid (HB3.out.trans (hb4.mono HB3.out.size))
  have HVF := Lib.hid (HVO.out w4 (HXS.out.ext HB4.out) (by omega) (fun x hx => by
    have := HLS.out
    unfold listOk inB at this
    simp only [List.all_eq_true, Bool.and_eq_true, decide_eq_true_eq] at this
    have := this x hx; omega))
  clear hl4 hb4 hE hR hgen hbd HLAT HB3 hL hM HVO
  go_wp2_with fail
  refine HVF.out.mono ?_; rintro e w5 ⟨vf, rfl, hvf, hb5⟩
  have hb30 : Bd (lv 30 21) rows := fun p r hp i => Nat.le_trans (HBD.out p r hp i) (lv_21 (tri_six hl6))
  have hfb : BdV (lv 30 21) (nth xs) := fun i => by
    have h0 := lv_big
    rcases Nat.lt_or_ge i xs.length with h2 | h2
    · have := listOk_nth HLS.out h2
      omega
    · rw [nth_beyond h2]; simp
  have hc6 : cnt rows n ≤ 6 := by omega
  have HRD := Lib.hid (reduce_calls L M n (lv 30 21) rows (nth xs) vf w5 (HL4.out.ext hb5) hvf (by omega) (by omega) HE.out hb30 hfb (fun i hi => nth_beyond (by rw [HNX.out]; exact hi)) (Lp.lv_pos (by omega) 21) (fun z hz => by
    rw [lv_add] at hz
    exact wide_27 (by omega) hz))
  have HB5 := Lib.hid (HB4.out.trans (hb5.mono HB4.out.size))
  clear hvf hb5 hb30 hfb HVF HB4
  go_wp2_with fail
  refine HRD.out.mono ?_; rintro e w6 ⟨g, cg, f', rfl, hg1, hg2, hg3, hown, hle, hgn, -, hhi, hb6⟩
  have HIN := Lib.hid (vecInts_calls n f' _ w6 ((hown.vec hg1 hg2).vec) (by omega))
  have HLE := Lib.hid hle; have HGN := Lib.hid hgn; have HHI := Lib.hid hhi
  have HB6 := Lib.hid (HB5.out.trans (hb6.mono HB5.out.size))
  clear hown hle hgn hhi hb6 HRD HB5 hg1 hg2 hg3
  go_wp2_with fail
  refine HIN.out.mono ?_; rintro e w7 ⟨g7, rfl, hg7, hI7, hb7⟩
  have HI7 := Lib.hid hI7
  have HB7 := Lib.hid (HB6.out.trans (hb7.mono HB6.out.size))
  have hge : w.heap.size ≤ g7 := by have := HB6.out.size; omega
  clear hI7 hb7 HIN hg7
  go_wp2
  go_ret2
  exact ⟨g7, rows, f', rfl, hge, HI7.out, ⟨by rw [HNX.out]; exact HE.out, HRED.out, HGEN.out, HLE.out, HGN.out, by rw [HNX.out]; exact HHI.out⟩, HB7.out⟩
set_option maxRecDepth 100000 in
set_option maxHeartbeats 2000000 in
theorem memberL_bad (A X : Option Addr) (c cx : Nat) (l : List (List Int)) (xs : List Int) (w : World) (h : Grid w A l) (hX : Ints w X xs) (hl : l.length ≤ maxLen) (hr : ∀ r ∈ l, r.length ≤ maxLen) (hm : xs.length ≤ maxLen) (hok : (rowsOk l xs.length && listOk 1000 xs) = false) :
    Calls Tryz.prog 37 #[.slice A l.length c, .slice X xs.length cx] w fun e w' => e = .returned (.tuple #[.bool false, .int .i64 2]) ∧ Below w.heap.size w w' := by
  have HRW := Lib.hid (rowed_calls A c l xs.length w hl hr hm h)
  have HX := Lib.hid hX
  clear h hX
  go_enter Tryz.func37, Tryz.ntmps37
  go_wp2_with fail
  refine HRW.out.mono ?_; rintro e w1 ⟨rfl, hb1⟩
  have HB1 := Lib.hid hb1
  clear hb1 HRW
  cases h1 : rowsOk l xs.length with
  | false =>
    clear h1 hok
    go_wp2
    go_ret2
    exact ⟨rfl, HB1.out⟩
  | true =>
    rw [h1, Bool.true_and] at hok
    have HLS := Lib.hid (listed_calls X cx xs 1000 w1 hm (by omega) (by omega) (HX.out.ext HB1.out))
    have HOK := Lib.hid hok
    clear h1 hok
    go_wp2_with fail
    refine HLS.out.mono ?_; rw [HOK.out]; rintro e w2 ⟨rfl, hb2⟩
    have HB2 := Lib.hid (HB1.out.trans (hb2.mono HB1.out.size))
    clear hb2 HLS
    go_wp2
    go_ret2
    exact ⟨rfl, HB2.out⟩
set_option maxRecDepth 100000 in
set_option maxHeartbeats 2000000 in
theorem memberL_good (A X : Option Addr) (c cx : Nat) (l : List (List Int)) (xs : List Int) (w : World) (h : Grid w A l) (hX : Ints w X xs) (hok : rowsOk l xs.length = true) (hls : listOk 1000 xs = true) :
    Calls Tryz.prog 37 #[.slice A l.length c, .slice X xs.length cx] w fun e w' => ∃ rows f, e = .returned (.tuple #[.bool ((List.range xs.length).all fun i => decide (f i = 0)), .int .i64 0]) ∧ RedV l xs rows f ∧ Below w.heap.size w w' := by
  obtain ⟨n, hnx⟩ : ∃ n, xs.length = n := ⟨_, rfl⟩
  rw [hnx] at hok ⊢
  obtain ⟨h1, h6, hl6, hrow, hx⟩ := rowsOk_in hok
  have HRW := Lib.hid (rowed_calls A c l n w (by unfold maxLen; omega) (fun r hr => by rw [hrow r hr]; unfold maxLen; omega) (by unfold maxLen; omega) h)
  have hli := listed_calls X cx xs 1000
  rw [hnx, hls] at hli
  have hvo := vecOf_calls X cx xs
  rw [hnx] at hvo
  have HLI := Lib.hid hli; have HVO := Lib.hid hvo; have HNX := Lib.hid hnx; have HLS := Lib.hid hls
  have HG := Lib.hid h; have HXS := Lib.hid hX
  have HROW : Hid (∀ r ∈ l, r.length = n) := Lib.hid hrow
  have HX : Hid (∀ r ∈ l, ∀ x ∈ r, -30 ≤ x ∧ x ≤ 30) := Lib.hid hx
  clear h hrow hx hli hvo hnx hls hX
  go_enter Tryz.func37, Tryz.ntmps37
  go_wp2_with fail
  refine HRW.out.mono ?_; rw [hok]; rintro e w1 ⟨rfl, hb1⟩
  have HL1 := Lib.hid (HLI.out w1 (by unfold maxLen; omega) (by omega) (by omega) (HXS.out.ext hb1))
  have HB1 := Lib.hid hb1
  clear hb1 HRW HLI
  go_wp2_with fail
  refine HL1.out.mono ?_; rintro e w2 ⟨rfl, hb2⟩
  have HB2 := Lib.hid (HB1.out.trans (hb2.mono HB1.out.size))
  clear hb2 HL1 HB1
  have HV := Lib.hid (vectors_calls A c n l w2 (HG.out.ext HB2.out) (by omega) (by omega) HROW.out (fun r hr x hx => by have := HX.out r hr x hx; omega))
  go_wp2_with fail
  refine HV.out.mono ?_; rintro e w3 ⟨A2, c2, rfl, hvs, hb3⟩
  have hlat := lat_calls n 30 (l.map nth) A2 c2 w3 hvs (by omega) (by omega) (by simp; omega) (fun f hf i hi => by
    obtain ⟨r, hr, rfl⟩ := List.mem_map.1 hf
    exact nth_beyond (by rw [HROW.out r hr]; exact hi)) (fun f hf => by
    obtain ⟨r, hr, rfl⟩ := List.mem_map.1 hf
    exact nth_bd (fun x hx => HX.out r hr x hx)) (by omega) (fun z hz => wide_21 (by rw [List.length_map]; exact tri_six hl6) hz)
  rw [List.length_map] at hlat
  have HLAT := Lib.hid hlat
  have HB3 := Lib.hid (HB2.out.trans (hb3.mono HB2.out.size))
  clear hlat hvs hb3 HV HB2
  go_wp2_with fail
  refine HLAT.out.mono ?_; rintro e w4 ⟨L, M, rows, rfl, hL, hM, hl4, hE, hR, hgen, hcnt, hbd, hb4⟩
  have HL4 := Lib.hid hl4; have HE := Lib.hid hE; have HRED := Lib.hid hR; have HGEN := Lib.hid hgen; have HBD := Lib.hid hbd
  have HB4 := Lib.hid (HB3.out.trans (hb4.mono HB3.out.size))
  have HVF := Lib.hid (HVO.out w4 (HXS.out.ext HB4.out) (by omega) (fun x hx => by
    have := HLS.out
    unfold listOk inB at this
    simp only [List.all_eq_true, Bool.and_eq_true, decide_eq_true_eq] at this
    have := this x hx; omega))
  clear hl4 hb4 hE hR hgen hbd HLAT HB3 hL hM HVO
  go_wp2_with fail
  refine HVF.out.mono ?_; rintro e w5 ⟨vf, rfl, hvf, hb5⟩
  have hb30 : Bd (lv 30 21) rows := fun p r hp i => Nat.le_trans (HBD.out p r hp i) (lv_21 (tri_six hl6))
  have hfb : BdV (lv 30 21) (nth xs) := fun i => by
    have h0 := lv_big
    rcases Nat.lt_or_ge i xs.length with h2 | h2
    · have := listOk_nth HLS.out h2
      omega
    · rw [nth_beyond h2]; simp
  have hc6 : cnt rows n ≤ 6 := by omega
  have HRD := Lib.hid (reduce_calls L M n (lv 30 21) rows (nth xs) vf w5 (HL4.out.ext hb5) hvf (by omega) (by omega) HE.out hb30 hfb (fun i hi => nth_beyond (by rw [HNX.out]; exact hi)) (Lp.lv_pos (by omega) 21) (fun z hz => by
    rw [lv_add] at hz
    exact wide_27 (by omega) hz))
  have HB5 := Lib.hid (HB4.out.trans (hb5.mono HB4.out.size))
  clear hvf hb5 hb30 hfb HVF HB4
  go_wp2_with fail
  refine HRD.out.mono ?_; rintro e w6 ⟨g, cg, f', rfl, hg1, hg2, hg3, hown, hle, hgn, -, hhi, hb6⟩
  have HIN := Lib.hid (vecZero_calls n f' _ w6 ((hown.vec hg1 hg2).vec) (by omega))
  have HLE := Lib.hid hle; have HGN := Lib.hid hgn; have HHI := Lib.hid hhi
  have HB6 := Lib.hid (HB5.out.trans (hb6.mono HB5.out.size))
  clear hown hle hgn hhi hb6 HRD HB5 hg1 hg2 hg3
  go_wp2_with fail
  refine HIN.out.mono ?_; rintro e w7 ⟨rfl, hb7⟩
  have HB7 := Lib.hid (HB6.out.trans (hb7.mono HB6.out.size))
  clear hb7 HIN
  go_wp2
  go_ret2
  exact ⟨rows, f', rfl, ⟨by rw [HNX.out]; exact HE.out, HRED.out, HGEN.out, HLE.out, HGN.out, by rw [HNX.out]; exact HHI.out⟩, HB7.out⟩
end Go.Proofs.YtkljafmdbajfeaaGreatDoor
