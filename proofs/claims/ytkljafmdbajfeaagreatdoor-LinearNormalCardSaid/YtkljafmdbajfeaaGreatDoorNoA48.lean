/- The row LinearNormal. -/
import Derived.Test.YtkljafmdbajfeaaGreatDoorNoA47
namespace Go.Proofs.YtkljafmdbajfeaaGreatDoor
open Go.RowKit
open Lp (Lt V Ech pivots Gen From Least)
set_option linter.unusedVariables false
set_option linter.unusedSimpArgs false
theorem formL_len {l : List (List Int)} {n : Nat} {rows : Lt} (h : FormOf l n rows) : (formL rows n).length ≤ 6 := by
  have hn : n ≤ 6 := (rowsOk_in h.ok).2.1
  have hlen : (formL rows n).length = (pivots rows n).length := by unfold formL rowsOf; simp
  have hk : (pivots rows n).length ≤ 6 := Nat.le_trans (by
    unfold pivots
    refine Nat.le_trans (List.length_filter_le _ _) ?_
    rw [List.length_range]; exact Nat.le_refl _) hn
  omega
theorem formL_row {n : Nat} {rows : Lt} : ∀ r ∈ formL rows n, r.length = n := fun r hr => by
  unfold formL at hr
  obtain ⟨f, -, rfl⟩ := List.mem_map.1 hr
  exact intsTo_len _ _ _
theorem isOneN_calm (B : Nat) (x : Int) : Calm NoBlk fun v w => ∃ g, v = .slice (some ⟨g, 0, none⟩) 1 1 ∧ B ≤ g ∧ IBlk w g [x] := ⟨fun v w w' ⟨g, h1, h2, h3⟩ hb => ⟨g, h1, h2, Blk.ext h3 hb⟩, fun v w w' p h hp hb => hp.elim⟩
theorem lone_cellN (k : IntKind) (n : Int) : ∀ u ∈ [Value.int k n], u.oneCell' = true := fun u h => by
  simp only [List.mem_singleton] at h; subst h; rfl
theorem subL_take {xs ys : List Int} {n i : Nat} (h : i < n) : ((subL xs ys n).take (i + 1)).map (Value.int .i64) = ((subL xs ys n).take i).map (Value.int .i64) ++ [.int .i64 (nth xs i - nth ys i)] := by
  rw [take_nth (by rw [subL_len]; exact h), List.map_append]
  rw [nth_lt (by rw [subL_len]; exact h)]
  unfold subL
  simp
theorem mem_nrow {l : List (List Int)} {r : List Int} (h : r ∈ l) : ∃ j, j < l.length ∧ nrow l j = r := by
  obtain ⟨j, hj, rfl⟩ := List.mem_iff_getElem.1 h
  exact ⟨j, hj, nrow_lt hj⟩
theorem rowsOk_of_okR {l : List (List Int)} {xs : List Int} (h : okR l xs = true) : rowsOk l xs.length = true ∧ listOk 1000 xs = true := by
  unfold okR at h; rw [Bool.and_eq_true] at h; exact h
theorem okR_of {a b : List (List Int)} {n : Nat} (ha : rowsOk a n = true) (hb : rowsOk b n = true) {i : Nat} (hi : i < a.length) : okR b (nrow a i) = true := by
  obtain ⟨-, -, -, hr, hx⟩ := rowsOk_in ha
  unfold okR
  have hm := nrow_mem hi
  rw [hr _ hm, hb, Bool.true_and]
  unfold listOk
  rw [List.all_eq_true]
  intro x hx2
  have := hx _ hm x hx2
  unfold inB
  simp only [Bool.and_eq_true, decide_eq_true_eq]
  omega
set_option maxRecDepth 100000 in
set_option maxHeartbeats 8000000 in
theorem norm_row (A B X Y : Option Addr) (ca cb cx cy : Nat) (a b : List (List Int)) (v u : List Int) (k : Int) (w : World) (hA : Grid w A a) (hB : Grid w B b) (hX : Ints w X v) (hY : Ints w Y u)
    (la : a.length ≤ maxLen) (lb : b.length ≤ maxLen) (ra : ∀ r ∈ a, r.length ≤ maxLen) (rb : ∀ r ∈ b, r.length ≤ maxLen) (mx : v.length ≤ maxLen) (my : u.length ≤ maxLen) (hT : TabOk 0 costsO w) :
    Calls Tryz.prog 6 #[.slice A a.length ca, .slice B b.length cb, .int .i64 k, .slice X v.length cx, .slice Y u.length cy] w fun e w' => e = .returned (.bool true) ∧ Below w.heap.size w w' := by
  have q1 := few_calls A X ca cx a v w hA la ra mx
  have q2 := few_calls B Y cb cy b u w hB lb rb my
  have HA := Lib.hid hA; have HB := Lib.hid hB; have HX := Lib.hid hX; have HY := Lib.hid hY; have HT := Lib.hid hT
  have LA := Lib.hid la; have LB := Lib.hid lb; have RA := Lib.hid ra; have RB := Lib.hid rb; have MX := Lib.hid mx; have MY := Lib.hid my
  have HAL0 := Lib.hid (alive_calls w hT)
  clear hA hB hX hY hT la lb ra rb mx my
  cases hf1 : fewB a v with
  | false =>
    rw [hf1] at q1
    have H1 := Lib.hid q1
    clear q1 q2 hf1
    go_enter Tryz.func6, Tryz.ntmps6
    go_wp2_with fail
    refine H1.out.mono ?_; rintro e w1 ⟨rfl, h1⟩
    rw [h1]; clear h1
    go_wp2_with fail
    refine HAL0.out.mono ?_; rintro e wz ⟨rfl, hbz⟩
    have HBZ := Lib.hid hbz
    clear hbz
    go_wp2
    go_ret
    exact ⟨rfl, HBZ.out⟩
  | true =>
    rw [hf1] at q1
    have H1 := Lib.hid q1
    clear q1 hf1
    cases hf2 : fewB b u with
    | false =>
      rw [hf2] at q2
      have H2 := Lib.hid q2
      clear q2 hf2
      go_enter Tryz.func6, Tryz.ntmps6
      go_wp2_with fail
      refine H1.out.mono ?_; rintro e w1 ⟨rfl, h1⟩
      rw [h1]; clear h1
      go_wp2_with fail
      refine H2.out.mono ?_; rintro e w1 ⟨rfl, h1⟩
      rw [h1]; clear h1
      go_wp2_with fail
      refine HAL0.out.mono ?_; rintro e wz ⟨rfl, hbz⟩
      have HBZ := Lib.hid hbz
      clear hbz
      go_wp2
      go_ret
      exact ⟨rfl, HBZ.out⟩
    | true =>
      rw [hf2] at q2
      have H2 := Lib.hid q2
      clear q2 hf2
      have H3 := Lib.hid (herm_any A ca a k w HA.out LA.out RA.out)
      go_enter Tryz.func6, Tryz.ntmps6
      go_wp2_with fail
      refine H1.out.mono ?_; rintro e w1 ⟨rfl, h1⟩
      rw [h1]; clear h1
      go_wp2_with fail
      refine H2.out.mono ?_; rintro e w1 ⟨rfl, h1⟩
      rw [h1]; clear h1
      go_wp2_with fail
      refine H3.out.mono ?_; rintro e w1 ⟨HA1, hc1, h, er1, rfl, hG1, hb1, ho1⟩
      have HB1 := Lib.hid hb1; have HO1 := Lib.hid ho1
      clear hb1 ho1 H1 H2 H3
      have H4 := Lib.hid (herm_any B cb b k w1 (HB.out.ext HB1.out) LB.out RB.out)
      go_wp2_with fail
      refine H4.out.mono ?_; rintro e w2 ⟨HA2, hc2, h', er2, rfl, hG2, hb2, ho2⟩
      have HB2 := Lib.hid (HB1.out.trans (hb2.mono HB1.out.size)); have HO2 := Lib.hid ho2
      have hG1' := Lib.hid (hG1.out.ext hb2)
      clear hb2 ho2 H4 hG1
      have HAL := Lib.hid (alive_calls w2 (HT.out.ext HB2.out))
      rcases HO1.out with ⟨-, rfl⟩ | ⟨hoa, rfl, rA, hfA, rfl⟩
      · rcases HO2.out with ⟨-, rfl⟩ | ⟨-, rfl, -⟩
        · go_wp2_with fail
          refine HAL.out.mono ?_; rintro e wz ⟨rfl, hbz⟩
          have HBZ := Lib.hid (HB2.out.trans (hbz.mono HB2.out.size))
          clear hbz HAL
          go_wp2
          go_ret
          exact ⟨rfl, HBZ.out⟩
        · go_wp2_with fail
          refine HAL.out.mono ?_; rintro e wz ⟨rfl, hbz⟩
          have HBZ := Lib.hid (HB2.out.trans (hbz.mono HB2.out.size))
          clear hbz HAL
          go_wp2
          go_ret
          exact ⟨rfl, HBZ.out⟩
      · rcases HO2.out with ⟨-, rfl⟩ | ⟨hob, rfl, rB, hfB, rfl⟩
        · go_wp2_with fail
          refine HAL.out.mono ?_; rintro e wz ⟨rfl, hbz⟩
          have HBZ := Lib.hid (HB2.out.trans (hbz.mono HB2.out.size))
          clear hbz HAL
          go_wp2
          go_ret
          exact ⟨rfl, HBZ.out⟩
        · obtain ⟨n, rfl, hn1, hn6, hro⟩ := okN_nat hoa
          rw [Int.toNat_natCast] at hfA hfB hG1' hG2
          have HFA := Lib.hid hfA; have HFB := Lib.hid hfB
          clear hoa hob hro HO1 HO2 HAL hfA hfB
          have lA := formL_len HFA.out
          have lB := formL_len HFB.out
          have H5 := Lib.hid (herm_any HA1 hc1 (formL rA n) n w2 hG1'.out (by unfold maxLen; omega) (fun r hr => by rw [formL_row r hr]; unfold maxLen; omega))
          go_wp2_with fail
          refine H5.out.mono ?_; rintro e w3 ⟨HA3, hc3, g, er3, rfl, hG3, hb3, ho3⟩
          have HG1 := Lib.hid (hG1'.out.ext hb3); have HG2 := Lib.hid (hG2.out.ext hb3)
          have HB3 := Lib.hid (HB2.out.trans (hb3.mono HB2.out.size)); have HO3 := Lib.hid ho3
          clear hb3 ho3 H5 hG1' hG2
          have N1 := Lib.hid (normal_form HA1 hc1 n HFA.out w3 HG1.out)
          have N2 : Hid (∀ W, Below w3.heap.size w3 W → Calls Tryz.prog 39 #[.slice HA2 (formL rB n).length hc2] W fun e w' => e = .returned (.bool true) ∧ Below W.heap.size W w') := Lib.hid fun W hW => normal_form HA2 hc2 n HFB.out W (HG2.out.ext hW)
          go_upto_region 8 with (fail)
          go_cut [100] (fun s wx => s = .bool false ∧ Below w3.heap.size w3 wx)
          case first =>
            go_wp2_with fail
            refine N1.out.mono ?_; rintro e w4 ⟨rfl, hb4⟩
            have HB4 := Lib.hid hb4
            clear hb4 N1
            have N3 := Lib.hid (N2.out w4 HB4.out)
            clear N2
            go_wp2_with fail
            refine N3.out.mono ?_; rintro e w5 ⟨rfl, hb5⟩
            have HB5 := Lib.hid (HB4.out.trans (hb5.mono HB4.out.size))
            clear hb5 N3 HB4
            rcases HO3.out with ⟨-, rfl⟩ | ⟨-, rfl, rC, hfC, hg⟩
            · go_wp2
              go_meet
              exact ⟨rfl, HB5.out⟩
            · rw [Int.toNat_natCast] at hfC hg
              have hgg : g = formL rA n := hg.trans (form_again HFA.out hfC)
              have HGG := Lib.hid hgg
              have L1 := lists_calls HA3 HA1 hc3 hc1 g (formL rA n) w5 (hG3.out.ext HB5.out) (HG1.out.ext HB5.out) (by rw [hgg]; omega) (by omega) (fun r hr => by rw [hgg] at hr; rw [formL_row r hr]; unfold maxLen; omega) (fun r hr => by rw [formL_row r hr]; unfold maxLen; omega)
              rw [decide_eq_true hgg] at L1
              have HL := Lib.hid L1
              clear L1 hgg hfC hg HO3
              go_wp2_with fail
              refine HL.out.mono ?_; rintro e w6 ⟨rfl, hb6⟩
              have HB6 := Lib.hid (HB5.out.trans (hb6.mono HB5.out.size))
              clear hb6 HL
              go_wp2
              go_meet
              exact ⟨rfl, HB6.out⟩
          case rest =>
            obtain ⟨rfl, hb6⟩ := hcut
            have HG1' := Lib.hid (HG1.out.ext hb6); have HG2' := Lib.hid (HG2.out.ext hb6)
            have HB6 := Lib.hid (HB3.out.trans (hb6.mono HB3.out.size))
            clear hb6 HG1 HG2 HB3 HB2 HB1 N1 N2 HO3 hG3
            have hla : a.length ≤ 6 := (rowsOk_in HFA.out.ok).2.2.1
            have hlb : b.length ≤ 6 := (rowsOk_in HFB.out.ok).2.2.1
            go_wp2
            go_loopw [16, 17] (fun tq ti wr => ∃ (i : Nat) (q : Bool), i ≤ a.length ∧ tq = .bool q ∧ ti = .int .i64 i ∧ Hid (q = true ↔ ∀ j, j < i → InL b (nth (nrow a j))) ∧ Hid (Below wc.heap.size wc wr)) (fun _ ti _ => a.length - (intOf ti).toNat)
            case atStart => exact ⟨0, true, Nat.zero_le _, rfl, rfl, Lib.hid ⟨fun _ j hj => by omega, fun _ => rfl⟩, Lib.hid (Below.refl _ _)⟩
            case round =>
              obtain ⟨i, q, hi, rfl, rfl, hq, hbe⟩ := hrel
              have HBR := Lib.hid (HB6.out.trans (hbe.out.mono HB6.out.size))
              by_cases hlt : i < a.length
              · have hi1 : (i : Int) < a.length := by omega
                obtain ⟨b1, o1, R, cR, rfl, c1, -, c2⟩ := (HA.out.ext HBR.out) i hlt
                have HM := Lib.hid (mem_any B R cb cR b (nrow a i) wr (HB.out.ext HBR.out) c2 LB.out RB.out (RA.out _ (nrow_mem hlt)))
                have hokr := Lib.hid (okR_of HFA.out.ok HFB.out.ok hlt)
                have HLT := Lib.hid hlt
                clear c2
                go_wp2_with fail
                refine HM.out.mono ?_; rintro e w7 ⟨z, er, rfl, hb7, ho⟩
                have HB7 := Lib.hid (hbe.out.trans (hb7.mono hbe.out.size))
                clear hb7 HM hbe HBR
                rcases ho with ⟨ho, -⟩ | ⟨-, rfl, hz⟩
                · rw [hokr.out] at ho; cases ho
                · have HZ := Lib.hid hz
                  clear hz
                  cases q with
                  | false =>
                    go_wp2
                    go_roundw
                    case rel => exact ⟨i + 1, false, by omega, rfl, by go_num, Lib.hid ⟨fun h => (by cases h), fun h => hq.out.2 fun j hj => h j (by omega)⟩, HB7⟩
                    case measure => simp [intOf]; omega
                  | true =>
                    cases z with
                    | false =>
                      go_wp2
                      go_roundw
                      case rel => exact ⟨i + 1, false, by omega, rfl, by go_num, Lib.hid ⟨fun h => (by cases h), fun h => HZ.out.2 (h i (by omega))⟩, HB7⟩
                      case measure => simp [intOf]; omega
                    | true =>
                      go_wp2
                      go_roundw
                      case rel =>
                        refine ⟨i + 1, true, by omega, rfl, by go_num, Lib.hid ⟨fun _ j hj => ?_, fun _ => rfl⟩, HB7⟩
                        rcases Nat.lt_or_ge j i with h | h
                        · exact hq.out.1 (by trivial) j h
                        · obtain rfl : j = i := by omega
                          exact HZ.out.1 (by trivial)
                      case measure => simp [intOf]; omega
              · obtain rfl : i = a.length := by omega
                go_wp2
                have HQ1 := hq
                have hbe1 := hbe
                clear hbe hq
                go_loopw [16, 20] (fun tq ti wr => ∃ (i : Nat) (q2 : Bool), i ≤ b.length ∧ tq = .bool q2 ∧ ti = .int .i64 i ∧ Hid (q2 = true ↔ q = true ∧ ∀ j, j < i → InL a (nth (nrow b j))) ∧ Hid (Below wc.heap.size wc wr)) (fun _ ti _ => b.length - (intOf ti).toNat)
                case atStart => exact ⟨0, q, Nat.zero_le _, rfl, rfl, Lib.hid ⟨fun h => ⟨h, fun j hj => by omega⟩, fun h => h.1⟩, hbe1⟩
                case round =>
                  clear hbe1 HBR
                  obtain ⟨i, q2, hi, rfl, rfl, hq, hbe⟩ := hrel
                  have HBR := Lib.hid (HB6.out.trans (hbe.out.mono HB6.out.size))
                  by_cases hlt : i < b.length
                  · have hi1 : (i : Int) < b.length := by omega
                    obtain ⟨b1, o1, R, cR, rfl, c1, -, c2⟩ := (HB.out.ext HBR.out) i hlt
                    have HM := Lib.hid (mem_any A R ca cR a (nrow b i) wr (HA.out.ext HBR.out) c2 LA.out RA.out (RB.out _ (nrow_mem hlt)))
                    have hokr := Lib.hid (okR_of HFB.out.ok HFA.out.ok hlt)
                    have HLT := Lib.hid hlt
                    clear c2
                    go_wp2_with fail
                    refine HM.out.mono ?_; rintro e w7 ⟨z, er, rfl, hb7, ho⟩
                    have HB7 := Lib.hid (hbe.out.trans (hb7.mono hbe.out.size))
                    clear hb7 HM hbe HBR
                    rcases ho with ⟨ho, -⟩ | ⟨-, rfl, hz⟩
                    · rw [hokr.out] at ho; cases ho
                    · have HZ := Lib.hid hz
                      clear hz
                      cases q2 with
                      | false =>
                        go_wp2
                        go_roundw
                        case rel => exact ⟨i + 1, false, by omega, rfl, by go_num, Lib.hid ⟨fun h => (by cases h), fun h => hq.out.2 ⟨h.1, fun j hj => h.2 j (by omega)⟩⟩, HB7⟩
                        case measure => simp [intOf]; omega
                      | true =>
                        cases z with
                        | false =>
                          go_wp2
                          go_roundw
                          case rel => exact ⟨i + 1, false, by omega, rfl, by go_num, Lib.hid ⟨fun h => (by cases h), fun h => HZ.out.2 (h.2 i (by omega))⟩, HB7⟩
                          case measure => simp [intOf]; omega
                        | true =>
                          go_wp2
                          go_roundw
                          case rel =>
                            refine ⟨i + 1, true, by omega, rfl, by go_num, Lib.hid ⟨fun _ => ⟨(hq.out.1 (by trivial)).1, fun j hj => ?_⟩, fun _ => rfl⟩, HB7⟩
                            rcases Nat.lt_or_ge j i with h | h
                            · exact (hq.out.1 (by trivial)).2 j h
                            · obtain rfl : j = i := by omega
                              exact HZ.out.1 (by trivial)
                          case measure => simp [intOf]; omega
                  · obtain rfl : i = b.length := by omega
                    have hsame : decide (formL rA n = formL rB n) = q2 := by
                      have e1 := (form_same HFA.out HFB.out).trans form_sub
                      have e2 : (formL rA n = formL rB n) ↔ q2 = true := by
                        rw [e1, hq.out, HQ1.out]
                        constructor
                        · rintro ⟨h1, h2⟩
                          exact ⟨fun j hj => h1 _ (nrow_mem hj), fun j hj => h2 _ (nrow_mem hj)⟩
                        · rintro ⟨h1, h2⟩
                          exact ⟨fun r hr => by obtain ⟨j, hj, rfl⟩ := mem_nrow hr; exact h1 j hj, fun r hr => by obtain ⟨j, hj, rfl⟩ := mem_nrow hr; exact h2 j hj⟩
                      cases q2 with
                      | false => exact decide_eq_false fun h => by have := e2.1 h; cases this
                      | true => exact decide_eq_true (e2.2 rfl)
                    have L1 := lists_calls HA1 HA2 hc1 hc2 (formL rA n) (formL rB n) wr (HG1'.out.ext hbe.out) (HG2'.out.ext hbe.out) (by omega) (by omega) (fun r hr => by rw [formL_row r hr]; unfold maxLen; omega) (fun r hr => by rw [formL_row r hr]; unfold maxLen; omega)
                    rw [hsame] at L1
                    have HL := Lib.hid L1
                    have hqq : (q2 != q2) = false := by cases q2 <;> rfl
                    clear L1 hsame hq HQ1
                    go_wp2_with fail
                    refine HL.out.mono ?_; rintro e w8 ⟨rfl, hb8⟩
                    have HB8 := Lib.hid (HBR.out.trans (hb8.mono HBR.out.size))
                    clear hb8 HL HBR HG1' HG2' HB6 hbe
                    by_cases hvn : v.length = n
                    · by_cases hun : u.length = n
                      · have d1 : ((v.length : Int) != (n : Int)) = false := by rw [hvn]; simp
                        have d2 : ((u.length : Int) != (n : Int)) = false := by rw [hun]; simp
                        have HVN := Lib.hid hvn; have HUN := Lib.hid hun
                        clear hvn hun
                        have R1 := Lib.hid (red_any A X ca cx a v w8 (HA.out.ext HB8.out) (HX.out.ext HB8.out) LA.out RA.out MX.out)
                        go_wp2_with fail
                        refine R1.out.mono ?_; rintro e w9 ⟨G1, cg1, x1, er1, rfl, hI1, hb9, ho1⟩
                        have HB9 := Lib.hid (HB8.out.trans (hb9.mono HB8.out.size)); have HO1 := Lib.hid ho1
                        clear hb9 ho1 R1 d1 d2
                        have R2 := Lib.hid (red_any A Y ca cy a u w9 (HA.out.ext HB9.out) (HY.out.ext HB9.out) LA.out RA.out MY.out)
                        go_wp2_with fail
                        refine R2.out.mono ?_; rintro e w10 ⟨G2, cg2, x2, er2, rfl, hI2, hb10, ho2⟩
                        have HB10 := Lib.hid (HB9.out.trans (hb10.mono HB9.out.size)); have HO2 := Lib.hid ho2
                        have HI1 := Lib.hid (hI1.out.ext hb10)
                        clear hb10 ho2 R2 hI1
                        rcases HO1.out with ⟨-, rfl⟩ | ⟨hoa, rfl, r1, f1, hr1, rfl⟩
                        · have HAL := Lib.hid (alive_calls w10 (HT.out.ext HB10.out))
                          go_wp2_with fail
                          refine HAL.out.mono ?_; rintro e wz ⟨rfl, hbz⟩
                          have HBZ := Lib.hid (HB10.out.trans (hbz.mono HB10.out.size))
                          clear hbz HAL
                          go_wp2
                          go_ret
                          exact ⟨rfl, HBZ.out⟩
                        · rcases HO2.out with ⟨-, rfl⟩ | ⟨hob, rfl, r2, f2, hr2, rfl⟩
                          · have HAL := Lib.hid (alive_calls w10 (HT.out.ext HB10.out))
                            go_wp2_with fail
                            refine HAL.out.mono ?_; rintro e wz ⟨rfl, hbz⟩
                            have HBZ := Lib.hid (HB10.out.trans (hbz.mono HB10.out.size))
                            clear hbz HAL
                            go_wp2
                            go_ret
                            exact ⟨rfl, HBZ.out⟩
                          · have HRA := Lib.hid hr1; have HRB := Lib.hid hr2; have HOA := Lib.hid hoa; have HOB := Lib.hid hob
                            clear HO1 HO2 hoa hob hr1 hr2
                            go_wp2
                            obtain ⟨DL, hDL⟩ : ∃ DL, subL v u n = DL := ⟨_, rfl⟩
                            have HDL := Lib.hid hDL
                            clear hDL
                            go_loopw [25, 26] (fun V ti wr => ∃ (i : Nat), i ≤ n ∧ ti = .int .i64 i ∧ Hid (wr.ownsRow w10.heap.size 3 1 V i ((DL.take i).map (Value.int .i64))) ∧ Hid (Below w10.heap.size w10 wr)) (fun _ ti _ => n - (intOf ti).toNat)
                            case atStart => exact ⟨0, Nat.zero_le _, rfl, Lib.hid (World.ownsRow_nil _ _ _ _), Lib.hid (Below.refl _ _)⟩
                            case round =>
                              obtain ⟨i, hi, rfl, hown, hbe⟩ := hrel
                              have HBR := Lib.hid (HB10.out.trans (hbe.out.mono HB10.out.size))
                              by_cases hlt : i < n
                              · have hi1 : (i : Int) < n := by omega
                                have hlx : i < v.length := by rw [HVN.out]; exact hlt
                                have hly : i < u.length := by rw [HUN.out]; exact hlt
                                have hi2 : (i : Int) < v.length := by omega
                                have hi3 : (i : Int) < u.length := by omega
                                obtain ⟨b1, o1, rfl, c1⟩ := (HX.out.ext HBR.out) i hlx
                                obtain ⟨b2, o2, rfl, c2⟩ := (HY.out.ext HBR.out) i hly
                                have hlv : listOk 1000 v = true := by have := HOA.out; unfold okR at this; rw [Bool.and_eq_true] at this; exact this.2
                                have hlu : listOk 1000 u = true := by have := HOB.out; unfold okR at this; rw [Bool.and_eq_true] at this; exact this.2
                                have g1 := listOk_nth hlv hlx
                                have g2 := listOk_nth hlu hly
                                have hnext : Hid ((DL.take (i + 1)).map (Value.int .i64) = (DL.take i).map (Value.int .i64) ++ [.int .i64 (nth v i - nth u i)]) := Lib.hid (by rw [← HDL.out]; exact subL_take hlt)
                                obtain ⟨xk, hxk⟩ : ∃ x, nth v i = x := ⟨_, rfl⟩
                                obtain ⟨yk, hyk⟩ : ∃ x, nth u i = x := ⟨_, rfl⟩
                                rw [hxk] at c1 g1 hnext
                                rw [hyk] at c2 g2 hnext
                                obtain ⟨p1, hp1⟩ : ∃ p, xk - yk = p := ⟨_, rfl⟩
                                rw [hp1] at hnext
                                have wq1 : IntKind.i64.wrap (xk - yk) = p1 := by rw [IntKind.wrap_i64, hp1]; omega
                                clear hxk hyk hp1 g1 g2 hlv hlu
                                go_wp2_with fail
                                refine wp_region_keys (w0 := wr) 11 [187, 188, 189, 190, 191, 192, 193, 194, 195, 196, 197]
                                  [leafS 187 (u25), leafS 188 (.slice (some ⟨b1, o1, none⟩) v.length cx), leafS 189 (.int .i64 i), leafS 190 (.pointer (some ⟨b1, o1 + i, none⟩)), leafS 191 (.int .i64 xk), leafS 192 (.slice (some ⟨b2, o2, none⟩) u.length cy), leafS 193 (.int .i64 i), leafS 194 (.pointer (some ⟨b2, o2 + i, none⟩)), leafS 195 (.int .i64 yk), leafS 196 (.int .i64 p1), leaf1 197 (fun v w => ∃ g, v = .slice (some ⟨g, 0, none⟩) 1 1 ∧ w10.heap.size ≤ g ∧ IBlk w g [p1])]
                                  [] [none, none, none, none, none, none, none, none, none, none, none] NoBlk (by kernel_rfl) (by kernel_rfl) (by kernel_rfl) rfl (F := ?cFn33) ?n33c1 ?n33c2 ?n33c3 ?n33c4
                                case n33c1 =>
                                  intro x
                                  simp only [fullF, Act.put, List.setIfInBounds_toArray, List.set_cons_zero, List.set_cons_succ]
                                  rfl
                                case n33c2 =>
                                  exact ⟨keeps_const _ _ _ _ _ _ _, keeps_const _ _ _ _ _ _ _, keeps_const _ _ _ _ _ _ _, keeps_const _ _ _ _ _ _ _, keeps_const _ _ _ _ _ _ _, keeps_const _ _ _ _ _ _ _, keeps_const _ _ _ _ _ _ _, keeps_const _ _ _ _ _ _ _, keeps_const _ _ _ _ _ _ _, keeps_const _ _ _ _ _ _ _, keeps_calm (isOneN_calm w10.heap.size p1) _ _ _ _ _, trivial⟩
                                case n33c3 =>
                                  refine ⟨?_, ?_, ?_, ?_, ?_, ?_, ?_, ?_, ?_, ?_, ?_, trivial⟩
                                  all_goals
                                    intro xx wq HE hd K hK
                                    have hc := (bcell HE).1
                                    have c1' := (hc _ _ (cell_lt c1)).trans c1
                                    have c2' := (hc _ _ (cell_lt c2)).trans c2
                                    try have e0 : xx 187 = _ := hd 0 _ (by decide) rfl
                                    try have e1 : xx 188 = _ := hd 1 _ (by decide) rfl
                                    try have e2 : xx 189 = _ := hd 2 _ (by decide) rfl
                                    try have e3 : xx 190 = _ := hd 3 _ (by decide) rfl
                                    try have e4 : xx 191 = _ := hd 4 _ (by decide) rfl
                                    try have e5 : xx 192 = _ := hd 5 _ (by decide) rfl
                                    try have e6 : xx 193 = _ := hd 6 _ (by decide) rfl
                                    try have e7 : xx 194 = _ := hd 7 _ (by decide) rfl
                                    try have e8 : xx 195 = _ := hd 8 _ (by decide) rfl
                                    try have e9 : xx 196 = _ := hd 9 _ (by decide) rfl
                                    try have g10 := hd 10 _ (by decide) rfl
                                    have HE := Lib.hid HE
                                    have HC := Lib.hid hc
                                    clear hd hc
                                    all_goals go_simp
                                    try (refine hK _ _ _ (mv_const _ rfl) ?_; dsimp only [Act.put]; first | done | rfl | (simp [*]; done))
                                  · exact hK _ _ _ (mv_plain ((Below.refl _ _).alloc (Nat.le_refl _) _) ⟨_, rfl, Nat.le_trans hbe.out.size HE.out.size, Blk.new _ [_] _⟩ rfl) (by first | (dsimp only [Act.put]; done) | (dsimp only [Act.put]; first | rfl | (simp [*]; done) | (simp [*, ptr]; done)))
                                case n33c4 =>
                                  intro xx wz hE hG hA
                                  have e0 : xx 187 = _ := hG 0 _ rfl
                                  have e1 : xx 188 = _ := hG 1 _ rfl
                                  have e2 : xx 189 = _ := hG 2 _ rfl
                                  have e3 : xx 190 = _ := hG 3 _ rfl
                                  have e4 : xx 191 = _ := hG 4 _ rfl
                                  have e5 : xx 192 = _ := hG 5 _ rfl
                                  have e6 : xx 193 = _ := hG 6 _ rfl
                                  have e7 : xx 194 = _ := hG 7 _ rfl
                                  have e8 : xx 195 = _ := hG 8 _ rfl
                                  have e9 : xx 196 = _ := hG 9 _ rfl
                                  have g10 := hG 10 _ rfl
                                  obtain ⟨gq, e33, hgq, hgi⟩ := g10
                                  have HEz := Lib.hid hE
                                  clear hG hA hE
                                  refine tail_one (i := 11) (by kernel_rfl) rfl ?_
                                  intro K hK
                                  rw [if_pos (by rfl)]
                                  obtain ⟨i0, hi, hz0, hz1, hz2⟩ := info_parts infoInt
                                  refine wp_append_own _ (.tmp 187) (.tmp 197) 23 rfl w10.heap.size 3 i0 (.int .i64 0) 1 8 Tryz.underlying23 hi hz0 hz1 hz2 rfl (by decide) u25 i _ e0 (own_ext hown.out HEz.out) ⟨gq, 0, none⟩ 1 1 [.int .i64 p1] e33 rfl ?_ (lone_cellN _ _) (by unfold maxLen; omega) (by omega) (by have := HEz.out.size; have := hbe.out.size; omega) ?_
                                  · intro j y hy
                                    rcases j with _ | j
                                    · simp at hy; subst hy; exact Blk.cell hgi 0 (by simp)
                                    · simp at hy
                                  intro v' w1 hown1 hgrow _
                                  have hrow : ∀ q, u25.ownBlock = some q → w10.heap.size ≤ q := own_block hown.out
                                  have hbe1 : Below w10.heap.size w10 w1 := (hbe.out.trans (HEz.out.mono hbe.out.size)).grown hgrow (by have := hbe.out.size; have := HEz.out.size; omega) (fun q hq => by have := hrow q hq; omega)
                                  have HO1 := Lib.hid hown1; have HBE1 := Lib.hid hbe1
                                  clear hown1 hgrow hrow hbe1 hgi hgq e33 c1 c2 wq1
                                  refine hK _ _ ?_
                                  (refine tail_one (i := 12) (by kernel_rfl) rfl ?_; intro K hK; go_simp; refine hK _ _ ?_; clear hK)
                                  refine wpAny_done (by kernel_rfl) ?_ _
                                  simp only [Exit.inBlock, Exit.then]
                                  go_wp2
                                  go_roundw
                                  case rel => exact ⟨i + 1, by omega, by go_num, Lib.hid (by rw [hnext.out]; exact HO1.out), HBE1⟩
                                  case measure => simp [intOf]; omega
                              · obtain rfl : i = n := by omega
                                have hDL : DL.length = i := by rw [← HDL.out]; exact subL_len _ _ _
                                have htk : DL.take i = DL := by rw [← hDL, List.take_length]
                                have hown2 := hown.out
                                rw [htk] at hown2
                                obtain ⟨AV, cV, rfl, -, -, hAV⟩ := own_ints hown2
                                have HAV := Lib.hid hAV
                                have HLD := Lib.hid hDL
                                have hv6 : v.length ≤ 6 := by rw [HVN.out]; exact hn6
                                have hu6 : u.length ≤ 6 := by rw [HUN.out]; exact hn6
                                have hi1 := HI1.out.ext hbe.out
                                have hi2 := hI2.out.ext hbe.out
                                have HX1 := Lib.hid hi1; have HX2 := Lib.hid hi2
                                clear hown hown2 hAV htk hbe hi1 hi2 hDL
                                have R3 := Lib.hid (red_any A G1 ca cg1 a (intsTo f1 v.length v.length) wr (HA.out.ext HBR.out) HX1.out LA.out RA.out (by rw [intsTo_len]; unfold maxLen; omega))
                                go_wp2_with fail
                                refine R3.out.mono ?_; rintro e w11 ⟨G3, cg3, x3, er3, rfl, hI3, hb11, ho3⟩
                                have HB11 := Lib.hid (HBR.out.trans (hb11.mono HBR.out.size)); have HO3 := Lib.hid ho3
                                have HX1' := Lib.hid (HX1.out.ext hb11); have HX2' := Lib.hid (HX2.out.ext hb11); have HAV' := Lib.hid (HAV.out.ext hb11)
                                clear hb11 ho3 R3 HX1 HX2 HAV
                                have R4 := Lib.hid (mem_any A AV ca cV a DL w11 (HA.out.ext HB11.out) HAV'.out LA.out RA.out (by rw [HLD.out]; unfold maxLen; omega))
                                go_wp2_with fail
                                refine R4.out.mono ?_; rintro e w12 ⟨z, er4, rfl, hb12, ho4⟩
                                have HB12 := Lib.hid (HB11.out.trans (hb12.mono HB11.out.size)); have HO4 := Lib.hid ho4
                                have HX1'' := Lib.hid (HX1'.out.ext hb12); have HX2'' := Lib.hid (HX2'.out.ext hb12); have HX3 := Lib.hid (hI3.out.ext hb12)
                                clear hb12 ho4 R4 HX1' HX2' HAV'
                                have HOK := Lib.hid (rowsOk_of_okR HOA.out)
                                have HAL : Hid (∀ W, Below w12.heap.size w12 W → Calls Tryz.prog 15 #[] W fun e w' => e = .returned (.bool true) ∧ Below W.heap.size W w') := Lib.hid fun W hW => alive_calls W (HT.out.ext (HB12.out.trans (hW.mono HB12.out.size)))
                                have S1 : Hid (er3 = 0 → Calls Tryz.prog 36 #[.slice G3 x3.length cg3, .slice G1 (intsTo f1 v.length v.length).length cg1] w12 fun e w' => e = .returned (.bool true) ∧ Below w12.heap.size w12 w') := Lib.hid fun he => by
                                  rcases HO3.out with ⟨-, h⟩ | ⟨-, -, r3, f3, hr3, hx3⟩
                                  · omega
                                  · have hs := (same_calls G3 G1 cg3 cg1 x3 (intsTo f1 v.length v.length) w12 (by rw [hx3, intsTo_len, intsTo_len]; unfold maxLen; omega) (by rw [intsTo_len]; unfold maxLen; omega) HX3.out HX1''.out)
                                    refine hs.mono ?_
                                    rintro e w' ⟨h1, k, h2⟩
                                    refine ⟨?_, by rw [h2]; exact drewN_below _ _⟩
                                    rw [h1]
                                    have h3 := left_again HRA.out HOK.out.1 HOK.out.2 hr3
                                    rw [hx3, intsTo_len, ← h3]
                                    unfold sameB
                                    simp
                                have S2 : Hid (er4 = 0 → ∀ W, Below w12.heap.size w12 W → Calls Tryz.prog 36 #[.slice G1 (intsTo f1 v.length v.length).length cg1, .slice G2 (intsTo f2 u.length u.length).length cg2] W fun e w' => e = .returned (.bool z) ∧ Below W.heap.size W w') := Lib.hid fun he W hW => by
                                  rcases HO4.out with ⟨-, h⟩ | ⟨-, -, hz⟩
                                  · omega
                                  · have hs := (same_calls G1 G2 cg1 cg2 (intsTo f1 v.length v.length) (intsTo f2 u.length u.length) W (by rw [intsTo_len]; unfold maxLen; omega) (by rw [intsTo_len]; unfold maxLen; omega) (HX1''.out.ext hW) (HX2''.out.ext hW))
                                    refine hs.mono ?_
                                    rintro e w' ⟨h1, k, h2⟩
                                    refine ⟨?_, by rw [h2]; exact drewN_below _ _⟩
                                    rw [h1]
                                    have hok2 := rowsOk_of_okR HOB.out
                                    have n1 := HRA.out.nth HOK.out.1 HOK.out.2
                                    have n2 := HRB.out.nth hok2.1 hok2.2
                                    have e1 := left_eq HRA.out HRB.out HOK.out.1 (by rw [HUN.out, HVN.out])
                                    rw [← HDL.out, subL_nth HVN.out HUN.out, ← e1] at hz
                                    rw [HUN.out] at n2 ⊢
                                    rw [HVN.out] at n1 ⊢
                                    rw [← ints_eq n1 n2] at hz
                                    unfold sameB
                                    congr 2
                                    cases z with
                                    | false => exact decide_eq_false fun h => by have := hz.2 h; cases this
                                    | true => exact decide_eq_true (hz.1 rfl)
                                have hzz : (z == z) = true := by cases z <;> rfl
                                have E3 : er3 = 2 ∨ er3 = 0 := HO3.out.elim (fun h => .inl h.2) fun h => .inr h.2.1
                                have E4 : er4 = 2 ∨ er4 = 0 := HO4.out.elim (fun h => .inl h.2) fun h => .inr h.2.1
                                clear HO3 HO4 HX1'' HX2'' HX3 hI3 hI2 HI1
                                rcases E3 with rfl | rfl
                                · rcases E4 with rfl | rfl
                                  · have HA1 := Lib.hid (HAL.out w12 (Below.refl _ _))
                                    go_wp2_with fail
                                    refine HA1.out.mono ?_; rintro e wz ⟨rfl, hbz⟩
                                    have HBZ := Lib.hid (HB12.out.trans (hbz.mono HB12.out.size))
                                    clear hbz HAL HA1 S1 S2
                                    go_wp2
                                    go_ret
                                    exact ⟨rfl, HBZ.out⟩
                                  · have HS2 := Lib.hid (S2.out (by trivial) w12 (Below.refl _ _))
                                    go_wp2_with fail
                                    refine HS2.out.mono ?_; rintro e w13 ⟨rfl, hb13⟩
                                    have HB13 := Lib.hid hb13
                                    clear hb13 HS2 S1 S2
                                    have HA1 := Lib.hid (HAL.out w13 HB13.out)
                                    go_wp2_with fail
                                    refine HA1.out.mono ?_; rintro e wz ⟨rfl, hbz⟩
                                    have HBZ := Lib.hid ((HB12.out.trans (HB13.out.mono HB12.out.size)).trans (hbz.mono (HB12.out.trans (HB13.out.mono HB12.out.size)).size))
                                    clear hbz HAL HA1
                                    go_wp2
                                    go_ret
                                    exact ⟨rfl, HBZ.out⟩
                                · have HS1 := Lib.hid (S1.out (by trivial))
                                  rcases E4 with rfl | rfl
                                  · go_wp2_with fail
                                    refine HS1.out.mono ?_; rintro e w13 ⟨rfl, hb13⟩
                                    have HB13 := Lib.hid hb13
                                    clear hb13 HS1 S1 S2
                                    have HA1 := Lib.hid (HAL.out w13 HB13.out)
                                    go_wp2_with fail
                                    refine HA1.out.mono ?_; rintro e wz ⟨rfl, hbz⟩
                                    have HBZ := Lib.hid ((HB12.out.trans (HB13.out.mono HB12.out.size)).trans (hbz.mono (HB12.out.trans (HB13.out.mono HB12.out.size)).size))
                                    clear hbz HAL HA1
                                    go_wp2
                                    go_ret
                                    exact ⟨rfl, HBZ.out⟩
                                  · go_wp2_with fail
                                    refine HS1.out.mono ?_; rintro e w13 ⟨rfl, hb13⟩
                                    have HB13 := Lib.hid hb13
                                    clear hb13 HS1 S1
                                    have HS2 := Lib.hid (S2.out (by trivial) w13 HB13.out)
                                    go_wp2_with fail
                                    refine HS2.out.mono ?_; rintro e w14 ⟨rfl, hb14⟩
                                    have HB14 := Lib.hid (HB13.out.trans (hb14.mono HB13.out.size))
                                    clear hb14 HS2 S2 HB13
                                    have HA1 := Lib.hid (HAL.out w14 HB14.out)
                                    go_wp2_with fail
                                    refine HA1.out.mono ?_; rintro e wz ⟨rfl, hbz⟩
                                    have HBZ := Lib.hid ((HB12.out.trans (HB14.out.mono HB12.out.size)).trans (hbz.mono (HB12.out.trans (HB14.out.mono HB12.out.size)).size))
                                    clear hbz HAL HA1
                                    go_wp2
                                    go_ret
                                    exact ⟨rfl, HBZ.out⟩
                      · have d1 : ((v.length : Int) != (n : Int)) = false := by rw [hvn]; simp
                        have d2 : ((u.length : Int) != (n : Int)) = true := by simp; omega
                        have HAL := Lib.hid (alive_calls w8 (HT.out.ext HB8.out))
                        go_wp2_with fail
                        refine HAL.out.mono ?_; rintro e wz ⟨rfl, hbz⟩
                        have HBZ := Lib.hid (HB8.out.trans (hbz.mono HB8.out.size))
                        clear hbz HAL
                        go_wp2
                        go_ret
                        exact ⟨rfl, HBZ.out⟩
                    · have d1 : ((v.length : Int) != (n : Int)) = true := by simp; omega
                      have HAL := Lib.hid (alive_calls w8 (HT.out.ext HB8.out))
                      go_wp2_with fail
                      refine HAL.out.mono ?_; rintro e wz ⟨rfl, hbz⟩
                      have HBZ := Lib.hid (HB8.out.trans (hbz.mono HB8.out.size))
                      clear hbz HAL
                      go_wp2
                      go_ret
                      exact ⟨rfl, HBZ.out⟩
end Go.Proofs.YtkljafmdbajfeaaGreatDoor
