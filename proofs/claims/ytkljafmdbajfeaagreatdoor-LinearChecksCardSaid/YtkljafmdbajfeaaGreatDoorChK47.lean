/- linear.times: what it answers. -/
import Derived.Test.YtkljafmdbajfeaaGreatDoorChK46
namespace Go.Proofs.YtkljafmdbajfeaaGreatDoor
open Go.RowKit Go.ChangeMaps
set_option linter.unusedVariables false
set_option linter.unusedSimpArgs false
def timR (a : List (List Int)) (ys : List Int) (n i j : Nat) : List Int := (List.range n).map fun t => dotN (clmOf a t) ys (if t < j then i + 1 else i)
def timZ (a : List (List Int)) (ys : List Int) (n : Nat) : List Int := (List.range n).map fun t => dotZ (clmOf a t) ys
theorem timR_len (a : List (List Int)) (ys : List Int) (n i j : Nat) : (timR a ys n i j).length = n := by unfold timR; simp
theorem timZ_len (a : List (List Int)) (ys : List Int) (n : Nat) : (timZ a ys n).length = n := by unfold timZ; simp
theorem timZ_nth (a : List (List Int)) (ys : List Int) {n j : Nat} (h : j < n) : nth (timZ a ys n) j = dotZ (clmOf a j) ys := by unfold timZ nth; simp [h]
theorem timR_zero (a : List (List Int)) (ys : List Int) (n : Nat) : timR a ys n 0 0 = zeros n := by
  unfold timR zeros
  apply List.ext_getElem (by simp)
  intro i h1 h2; simp [dotN]
theorem timR_next (a : List (List Int)) (ys : List Int) (n i : Nat) : timR a ys n i n = timR a ys n (i + 1) 0 := by
  unfold timR
  refine List.map_congr_left fun t ht => ?_
  rw [if_pos (List.mem_range.1 ht), if_neg (Nat.not_lt_zero _)]
theorem timR_end (a : List (List Int)) (ys : List Int) (n : Nat) : timR a ys n a.length 0 = timZ a ys n := by
  unfold timR timZ
  refine List.map_congr_left fun t ht => ?_
  unfold dotZ; rw [clmOf_len, if_neg (Nat.not_lt_zero _)]
theorem timR_nth (a : List (List Int)) (ys : List Int) {n i j : Nat} (h : j < n) : nth (timR a ys n i j) j = dotN (clmOf a j) ys i := by unfold timR nth; simp [h]
theorem timR_set (a : List (List Int)) (ys : List Int) {n i j : Nat} (h : j < n) : (timR a ys n i j).set j (dotN (clmOf a j) ys (i + 1)) = timR a ys n i (j + 1) := by
  unfold timR
  apply List.ext_getElem (by simp)
  intro t h1 h2
  rw [List.getElem_set]
  simp only [List.getElem_map, List.getElem_range]
  by_cases ht : j = t
  · subst ht; simp
  · rw [if_neg ht]
    by_cases h3 : t < j
    · rw [if_pos h3, if_pos (by omega)]
    · rw [if_neg h3, if_neg (by omega)]
theorem tim_step {a : List (List Int)} {ys : List Int} {i j : Nat} (h : Small (clmOf a j) ys) (hi : i < a.length) :
    IntKind.i64.wrap (nth ys i * nth (nrow a i) j) = nth ys i * nth (nrow a i) j ∧ IntKind.i64.wrap (dotN (clmOf a j) ys i + nth ys i * nth (nrow a i) j) = dotN (clmOf a j) ys (i + 1) := by
  obtain ⟨M, hM, hb⟩ := h
  have hl := clmOf_len a j
  have hb' := hb
  have h1 := dotN_bound hb' (i + 1) (by omega)
  have h2 := hb i (by omega)
  rw [clmOf_nth a j i hi] at h2
  rw [Int.mul_comm] at h2
  have h0 : 0 ≤ M := by omega
  have h3 : ((i + 1 : Nat) : Int) * M ≤ ((clmOf a j).length : Int) * M := Int.mul_le_mul_of_nonneg_right (by omega) h0
  have h4 : 1 * M ≤ ((clmOf a j).length : Int) * M := Int.mul_le_mul_of_nonneg_right (by omega) h0
  have e : dotN (clmOf a j) ys (i + 1) = dotN (clmOf a j) ys i + nth ys i * nth (nrow a i) j := by
    simp only [dotN]; rw [clmOf_nth a j i hi, Int.mul_comm]
  rw [IntKind.wrap_i64, IntKind.wrap_i64, e]
  rw [e] at h1
  generalize nth ys i * nth (nrow a i) j = p at *
  generalize ((i + 1 : Nat) : Int) * M = q at *
  generalize ((clmOf a j).length : Int) * M = q2 at *
  constructor <;> omega
set_option maxRecDepth 100000 in
set_option maxHeartbeats 2000000 in
theorem timesL_calls (Y A : Option Addr) (cy ca : Nat) (ys : List Int) (a : List (List Int)) (n : Nat) (w : World) (hY : Ints w Y ys) (hA : Grid w A a) (hl : a.length ≤ ys.length) (hl1 : ys.length ≤ 1000) (hn : n ≤ 1000)
    (hr : ∀ k, k < a.length → (nrow a k).length = n) (hs : ∀ j, j < n → Small (clmOf a j) ys) :
    Calls Tryz.prog 120 #[.slice Y ys.length cy, .slice A a.length ca, .int .i64 n] w fun e w' => ∃ g, e = .returned (.slice (some ⟨g, 0, none⟩) n n) ∧ w.heap.size ≤ g ∧ IBlk w' g (timZ a ys n) ∧ Below w.heap.size w w' := by
  have hmk := fun w => run_makeInts w n (by omega)
  have HY := Lib.hid hY; have HG := Lib.hid hA; have HR := Lib.hid hr; have HS := Lib.hid hs
  have H0 : Hid (IBlk (w.alloc (.cells ((zeros n).map (Value.int .i64)).toArray 3 (0, 0))) w.heap.size (timR a ys n 0 0)) := Lib.hid (by rw [timR_zero]; exact IBlk.made w n)
  have HA : Hid (Below w.heap.size w (w.alloc (.cells ((zeros n).map (Value.int .i64)).toArray 3 (0, 0)))) := Lib.hid ((Below.refl _ _).alloc (Nat.le_refl _) _)
  clear hY hA hr hs
  go_enter Tryz.func120, Tryz.ntmps120
  go_wp2_with fail
  go_loopw [15] (fun ti wr => ∃ (i : Nat), i ≤ a.length ∧ ti = .int .i64 i ∧ Hid (IBlk wr w.heap.size (timR a ys n i 0)) ∧ Hid (Below w.heap.size w wr)) (fun ti _ => a.length - (intOf ti).toNat)
  case atStart => exact ⟨0, Nat.zero_le _, rfl, H0, HA⟩
  case round =>
    obtain ⟨i, hi, rfl, hI, hbe⟩ := hrel
    by_cases hlt : i < a.length
    · have hi1 : (i : Int) < a.length := by omega
      obtain ⟨bb, o, R, cR, rfl, hrc0, -, hints⟩ := HG.out i hlt
      have hrc : wr.cell? ⟨bb, o + i, none⟩ = some (.slice R (nrow a i).length cR) := by rw [hbe.out.cell (cell_lt hrc0)]; exact hrc0
      have hrl := HR.out i hlt
      rw [hrl] at hrc
      obtain ⟨b2, o2, rfl, hyc0⟩ := HY.out i (by omega)
      have hiy : (i : Int) < ys.length := by omega
      have HYC := Lib.hid hyc0; have HIN := Lib.hid hints
      clear hrc0 hyc0 hints
      go_wp2_with fail
      go_loopw [22] (fun tj wr => ∃ (j : Nat), j ≤ n ∧ tj = .int .i64 j ∧ Hid (IBlk wr w.heap.size (timR a ys n i j)) ∧ Hid (Below w.heap.size w wr)) (fun tj _ => n - (intOf tj).toNat)
      case atStart => exact ⟨0, Nat.zero_le _, rfl, hI, hbe⟩
      case round =>
        clear hI hbe hrc
        obtain ⟨j, hj, rfl, hI, hbe⟩ := hrel
        by_cases hjl : j < n
        · have hj1 : (j : Int) < n := by omega
          obtain ⟨b3, o3, rfl, hxc⟩ := (HIN.out.ext hbe.out) j (by omega)
          have hyc : wr.cell? ⟨b2, o2 + i, none⟩ = some (.int .i64 (nth ys i)) := by rw [hbe.out.cell (cell_lt HYC.out)]; exact HYC.out
          have hl := timR_len a ys n i j
          have g3 := hI.out.cell j (by omega)
          have f3 := Blk.free hI.out j
          obtain ⟨q1, q2⟩ := tim_step (HS.out j hjl) hlt
          have hset := hI.out.set j (dotN (clmOf a j) ys (i + 1))
          rw [timR_set a ys hjl] at hset
          rw [timR_nth a ys hjl] at g3
          obtain ⟨y, hy⟩ : ∃ y, nth ys i = y := ⟨_, rfl⟩
          obtain ⟨x, hx⟩ : ∃ x, nth (nrow a i) j = x := ⟨_, rfl⟩
          obtain ⟨s, hsm⟩ : ∃ s, dotN (clmOf a j) ys i = s := ⟨_, rfl⟩
          obtain ⟨s2, hs2⟩ : ∃ s2, dotN (clmOf a j) ys (i + 1) = s2 := ⟨_, rfl⟩
          obtain ⟨p, hp⟩ : ∃ p, y * x = p := ⟨_, rfl⟩
          rw [hy] at hyc
          rw [hx] at hxc
          rw [hsm] at g3
          rw [hs2] at hset
          rw [hy, hx, hp] at q1
          rw [hy, hx, hp, hsm, hs2] at q2
          have q3 : IntKind.i64.wrap (y * x) = p := by rw [hp]; exact q1
          have HST := Lib.hid hset
          clear hset hy hx hsm hs2 hp q1 hl
          go_wp2
          go_still_tail 14, (by kernel_rfl)
          change wpList _ _ _ _ _ wr.drew
          go_wp2
          go_roundw
          case rel => exact ⟨j + 1, by omega, by go_num, HST, Lib.hid ((hbe.out.setCell (p := ⟨w.heap.size, j, none⟩) (Nat.le_refl _) _).drew)⟩
          case measure => simp [intOf]; omega
        · obtain rfl : j = n := by omega
          rw [timR_next] at hI
          go_wp2
          go_roundw
          case rel => exact ⟨i + 1, by omega, by go_num, hI, hbe⟩
          case measure => simp [intOf]; omega
    · obtain rfl : i = a.length := by omega
      rw [timR_end] at hI
      go_wp2
      go_ret
      exact ⟨_, rfl, Nat.le_refl _, hI.out, hbe.out⟩
end Go.Proofs.YtkljafmdbajfeaaGreatDoor

/- linear.dual and linear.Falls: what they answer. -/
namespace Go.Proofs.YtkljafmdbajfeaaGreatDoor
open Go.RowKit
set_option linter.unusedVariables false
set_option linter.unusedSimpArgs false
def TellsN (fid : FuncId) (caps : Array Value) (lim : Nat → Int) (n : Nat) (w : World) : Prop :=
  Enters fid ∧ ∀ j, j < n → ∀ w1, Below w.heap.size w w1 → Calls Tryz.prog fid (#[.int .i64 j] ++ caps) w1 fun e w2 => e = .returned (.int .i64 (lim j)) ∧ Below w1.heap.size w1 w2
def dualS (a : List (List Int)) (b c ys : List Int) (d : Int) (lim : Nat → Int) : Bool := progOk a b c && pointOk a.length ys d && nnB ys && (List.range c.length).all fun j => decide (dotZ (clmOf a j) ys ≤ lim j)
theorem any_falls (a : List (List Int)) (xs : List Int) : (a.any fun r => decide (dotZ r xs < 0)) = !((List.range a.length).all fun i => decide (0 ≤ dotZ (nrow a i) xs)) := by
  rw [Bool.eq_iff_iff]
  simp only [List.any_eq_true, Bool.not_eq_true', decide_eq_true_eq]
  constructor
  · rintro ⟨r, hr, h⟩
    obtain ⟨i, hi, rfl⟩ := List.getElem_of_mem hr
    exact all_range_false hi (decide_eq_false (by rw [nrow_lt hi]; omega))
  · intro h
    rw [List.all_eq_false] at h
    obtain ⟨i, hi, h2⟩ := h
    rw [List.mem_range] at hi
    exact ⟨nrow a i, nrow_mem hi, by simp at h2; omega⟩
set_option maxHeartbeats 400000 in
theorem fallsRow_calls (R X : Option Addr) (cR cx xp : Nat) (r xs : List Int) (d : Int) (w : World) (hb : Blk w xp [.slice X xs.length cx, .int .i64 d] 29) (hR : Ints w R r) (hX : Ints w X xs) (hl : r.length ≤ xs.length) (hm : r.length ≤ maxLen) (hs : Small r xs) :
    Calls Tryz.prog 113 #[.slice R r.length cR, .pointer (some ⟨xp, 0, none⟩)] w fun e w' => e = .returned (.bool (decide (dotZ r xs < 0))) ∧ Below w.heap.size w w' := by
  have x0 := hb.cell 0 (by simp)
  simp only [List.getElem_cons_zero] at x0
  have HD := Lib.hid (linDot_calls R X cR cx r xs w hl hm hR hX hs)
  clear hb hR hX hs
  go_enter Tryz.func113, Tryz.ntmps113
  go_wp2_with fail
  refine HD.out.mono ?_
  rintro e w1 ⟨rfl, kq, hkq⟩
  have hb1 : Below w.heap.size w w1 := by rw [hkq]; exact drewN_below _ _
  clear hkq HD
  go_wp2
  go_ret
  exact ⟨rfl, hb1⟩
set_option maxRecDepth 100000 in
set_option maxHeartbeats 4000000 in
theorem fallsL_calls (A B C X : Option Addr) (ca cb cc cx : Nat) (a : List (List Int)) (b c xs : List Int) (d : Int) (w : World) (h : Prog3 w A B C a b c) (hX : Ints w X xs) (hm : xs.length ≤ maxLen) :
    Calls Tryz.prog 55 #[.agg #[.slice A a.length ca, .slice B b.length cb, .slice C c.length cc], .agg #[.slice X xs.length cx, .int .i64 d]] w fun e w' => e = .returned (.bool (fallsS a b c xs d)) ∧ Below w.heap.size w w' := by
  obtain ⟨wa, hwa⟩ : ∃ wa, w.alloc (.cells #[.slice A a.length ca, .slice B b.length cb, .slice C c.length cc] 25 (0, 0)) = wa := ⟨_, rfl⟩
  obtain ⟨wb, hwb⟩ : ∃ wb, wa.alloc (.cells #[.slice X xs.length cx, .int .i64 d] 29 (0, 0)) = wb := ⟨_, rfl⟩
  have hlc := h.lc
  have sa : wa.heap.size = w.heap.size + 1 := by rw [← hwa]; simp
  have ba : Blk wa w.heap.size [.slice A a.length ca, .slice B b.length cb, .slice C c.length cc] 25 := by rw [← hwa]; exact Blk.new _ _ _
  have bb : Blk wb (w.heap.size + 1) [.slice X xs.length cx, .int .i64 d] 29 := by rw [← hwb, ← sa]; exact Blk.new _ _ _
  have ea : Below w.heap.size w wa := by rw [← hwa]; exact (Below.refl _ _).alloc (Nat.le_refl _) _
  have eb : Below wa.heap.size wa wb := by rw [← hwb]; exact (Below.refl _ _).alloc (Nat.le_refl _) _
  have e2 : Below w.heap.size w wb := ea.trans (eb.mono (by omega))
  have HBA := Lib.hid (ba.ext eb); have HBB := Lib.hid bb; have HE2 := Lib.hid e2
  have HP := Lib.hid h; have HX := Lib.hid hX
  have HV := Lib.hid (valid_calls A B C ca cb cc a b c wb (h.ext e2))
  have p0 := (ba.ext eb).cell 0 (by simp)
  have p1 := (ba.ext eb).cell 1 (by simp)
  have p2 := (ba.ext eb).cell 2 (by simp)
  simp only [List.getElem_cons_zero, List.getElem_cons_succ] at p0 p1 p2
  rw [← hwb, ← hwa] at p0 p1 p2
  have HWA := Lib.hid hwa; have HWB := Lib.hid hwb
  clear ba bb ea eb e2 h hX sa hwa hwb
  go_enter Tryz.func55, Tryz.ntmps55
  go_wp2_with fail
  rw [HWA.out, HWB.out]
  clear p0 p1 p2
  obtain ⟨bp, hbp⟩ : ∃ bp, w.heap.size = bp := ⟨_, rfl⟩
  obtain ⟨xp, hxp⟩ : ∃ xp, w.heap.size + 1 = xp := ⟨_, rfl⟩
  rw [hbp] at HBA
  rw [hxp] at HBB
  rw [hxp, hbp]
  have HBP := Lib.hid hbp
  clear hbp hxp
  refine HV.out.mono ?_; rintro e w1 ⟨rfl, hb1⟩
  have HB1 := Lib.hid (HE2.out.trans (hb1.mono HE2.out.size)); have HBA1 := Lib.hid (HBA.out.ext hb1); have HBB1 := Lib.hid (HBB.out.ext hb1)
  clear hb1 HV HBA HBB HE2
  cases hv : progOk a b c with
  | false =>
    have HVV := Lib.hid hv
    clear hv
    go_wp2
    go_ret
    exact ⟨by unfold fallsS; rw [HVV.out]; rfl, HB1.out⟩
  | true =>
    have HVV := Lib.hid hv
    clear hv
    have k0 := HBA1.out.cell 0 (by simp)
    have k2 := HBA1.out.cell 2 (by simp)
    have x0 := HBB1.out.cell 0 (by simp)
    have x1 := HBB1.out.cell 1 (by simp)
    simp only [List.getElem_cons_zero, List.getElem_cons_succ] at k0 k2 x0 x1
    have HPR := Lib.hid (proper_calls X cx xs d c.length w1 hm hlc (HX.out.ext HB1.out))
    go_wp2_with fail
    refine HPR.out.mono ?_; rintro e w2 ⟨rfl, hb2⟩
    have HB2 := Lib.hid (HB1.out.trans (hb2.mono HB1.out.size)); have HBA2 := Lib.hid (HBA1.out.ext hb2); have HBB2 := Lib.hid (HBB1.out.ext hb2)
    clear hb2 HPR HBA1 HBB1 HB1 k0 k2 x0 x1
    cases hp : pointOk c.length xs d with
    | false =>
      have HPP := Lib.hid hp
      clear hp
      go_wp2
      go_ret
      exact ⟨by unfold fallsS; rw [HVV.out, HPP.out]; rfl, HB2.out⟩
    | true =>
      have HPP := Lib.hid hp
      clear hp
      have k0 := HBA2.out.cell 0 (by simp)
      have x0 := HBB2.out.cell 0 (by simp)
      simp only [List.getElem_cons_zero] at k0 x0
      have hcf := containsFunc_int 99 #[] (fun x => decide (x < 0)) X cx xs w2 hm (HX.out.ext HB2.out) (negative_tells w2 xs)
      have HCF := Lib.hid hcf
      clear hcf
      go_wp2_with fail
      refine HCF.out.mono ?_; rintro e w3 ⟨rfl, hb3⟩
      rw [nnB_any]
      have HB3 := Lib.hid (HB2.out.trans (hb3.mono HB2.out.size)); have HBA3 := Lib.hid (HBA2.out.ext hb3); have HBB3 := Lib.hid (HBB2.out.ext hb3)
      clear hb3 HCF HBA2 HBB2 HB2 k0 x0
      cases hn : nnB xs with
      | false =>
        have HNN := Lib.hid hn
        clear hn
        go_wp2
        go_ret
        exact ⟨by unfold fallsS; rw [HVV.out, HPP.out, HNN.out]; rfl, HB3.out⟩
      | true =>
        have HNN := Lib.hid hn
        clear hn
        have k0 := HBA3.out.cell 0 (by simp)
        simp only [List.getElem_cons_zero] at k0
        obtain ⟨⟨q1, q2⟩, q3, q4, -⟩ := progOk_parts HVV.out
        have hP3 := HP.out.ext HB3.out
        have hTR : TellsR 113 #[.pointer (some ⟨xp, 0, none⟩)] (fun r => decide (dotZ r xs < 0)) w3 a := ⟨fun _ _ => by kernel_rfl, fun r hr R cR w4 hb4 hR => by
          obtain ⟨i, hi, e⟩ := List.getElem_of_mem hr
          obtain ⟨hs, hl, h3⟩ := point_small HVV.out HPP.out hi
          rw [nrow_lt hi, e] at hs hl h3
          exact fallsRow_calls R X cR cx xp r xs d w4 (HBB3.out.ext hb4) hR ((HX.out.ext HB3.out).ext hb4) hl (by unfold maxLen; omega) hs⟩
        have HCR := Lib.hid (containsFunc_row 113 #[.pointer (some ⟨xp, 0, none⟩)] (fun r => decide (dotZ r xs < 0)) A ca a w3 (by unfold maxLen; omega) hP3.ga hTR)
        clear hP3 hTR q4
        go_wp2_with fail
        refine HCR.out.mono ?_
        rintro e w4 ⟨rfl, hb4⟩
        have HB4 := Lib.hid (HB3.out.trans (hb4.mono HB3.out.size)); have HBA4 := Lib.hid (HBA3.out.ext hb4); have HBB4 := Lib.hid (HBB3.out.ext hb4)
        clear hb4 HCR HBA3 HBB3 HB3 k0
        rw [any_falls]
        cases hr : (List.range a.length).all fun i => decide (0 ≤ dotZ (nrow a i) xs) with
        | false =>
          have HRR := Lib.hid hr
          clear hr
          go_wp2
          go_ret
          exact ⟨by unfold fallsS; rw [HVV.out, HPP.out, HNN.out, HRR.out]; rfl, HB4.out⟩
        | true =>
          have HRR := Lib.hid hr
          clear hr
          have k2 := HBA4.out.cell 2 (by simp)
          have x0 := HBB4.out.cell 0 (by simp)
          simp only [List.getElem_cons_zero, List.getElem_cons_succ] at k2 x0
          obtain ⟨hs, hl⟩ := cost_small HVV.out HPP.out
          have HDT := Lib.hid (linDot_calls C X cc cx c xs w4 hl hlc (HP.out.ext HB4.out).gc (HX.out.ext HB4.out) hs)
          clear hs
          go_wp2_with fail
          refine HDT.out.mono ?_
          rintro e w5 ⟨rfl, kq, hkq⟩
          have HB5 : Hid (Below w4.heap.size w4 w5) := Lib.hid (by rw [hkq]; exact drewN_below _ _)
          clear hkq HDT
          go_wp2
          go_ret
          exact ⟨by unfold fallsS; rw [HVV.out, HPP.out, HNN.out, HRR.out]; rfl, HB4.out.trans (HB5.out.mono HB4.out.size)⟩
set_option maxRecDepth 100000 in
set_option maxHeartbeats 1000000 in
theorem dualL_calls (A B C X : Option Addr) (ca cb cc cx : Nat) (a : List (List Int)) (b c xs : List Int) (d : Int) (w : World) (h : Prog3 w A B C a b c) (hX : Ints w X xs) (hm : xs.length ≤ maxLen) (fid : FuncId) (caps : Array Value) (lim : Nat → Int) (hf : TellsN fid caps lim c.length w) :
    Calls Tryz.prog 109 #[.agg #[.slice A a.length ca, .slice B b.length cb, .slice C c.length cc], .agg #[.slice X xs.length cx, .int .i64 d], .func (.func fid) #[] caps] w fun e w' => e = .returned (.bool (dualS a b c xs d lim)) ∧ Below w.heap.size w w' := by
  obtain ⟨wa, hwa⟩ : ∃ wa, w.alloc (.cells #[.slice A a.length ca, .slice B b.length cb, .slice C c.length cc] 25 (0, 0)) = wa := ⟨_, rfl⟩
  obtain ⟨wb, hwb⟩ : ∃ wb, wa.alloc (.cells #[.slice X xs.length cx, .int .i64 d] 29 (0, 0)) = wb := ⟨_, rfl⟩
  have hlc := h.lc
  have hla := h.la
  have sa : wa.heap.size = w.heap.size + 1 := by rw [← hwa]; simp
  have ba : Blk wa w.heap.size [.slice A a.length ca, .slice B b.length cb, .slice C c.length cc] 25 := by rw [← hwa]; exact Blk.new _ _ _
  have bb : Blk wb (w.heap.size + 1) [.slice X xs.length cx, .int .i64 d] 29 := by rw [← hwb, ← sa]; exact Blk.new _ _ _
  have ea : Below w.heap.size w wa := by rw [← hwa]; exact (Below.refl _ _).alloc (Nat.le_refl _) _
  have eb : Below wa.heap.size wa wb := by rw [← hwb]; exact (Below.refl _ _).alloc (Nat.le_refl _) _
  have e2 : Below w.heap.size w wb := ea.trans (eb.mono (by omega))
  have HBA := Lib.hid (ba.ext eb); have HBB := Lib.hid bb; have HE2 := Lib.hid e2
  have HF := Lib.hid hf; have HP := Lib.hid h; have HX := Lib.hid hX
  have HV := Lib.hid (valid_calls A B C ca cb cc a b c wb (h.ext e2))
  have p0 := (ba.ext eb).cell 0 (by simp)
  have p1 := (ba.ext eb).cell 1 (by simp)
  have p2 := (ba.ext eb).cell 2 (by simp)
  simp only [List.getElem_cons_zero, List.getElem_cons_succ] at p0 p1 p2
  rw [← hwb, ← hwa] at p0 p1 p2
  have HWA := Lib.hid hwa; have HWB := Lib.hid hwb
  clear ba bb ea eb e2 h hX sa hwa hwb hf
  go_enter Tryz.func109, Tryz.ntmps109
  go_wp2_with fail
  rw [HWA.out, HWB.out]
  clear p0 p1 p2
  obtain ⟨bp, hbp⟩ : ∃ bp, w.heap.size = bp := ⟨_, rfl⟩
  obtain ⟨xp, hxp⟩ : ∃ xp, w.heap.size + 1 = xp := ⟨_, rfl⟩
  rw [hbp] at HBA
  rw [hxp] at HBB
  rw [hxp, hbp]
  have HBP := Lib.hid hbp
  clear hbp hxp
  refine HV.out.mono ?_; rintro e w1 ⟨rfl, hb1⟩
  have HB1 := Lib.hid (HE2.out.trans (hb1.mono HE2.out.size)); have HBA1 := Lib.hid (HBA.out.ext hb1); have HBB1 := Lib.hid (HBB.out.ext hb1)
  clear hb1 HV HBA HBB HE2
  cases hv : progOk a b c with
  | false =>
    have HVV := Lib.hid hv
    clear hv
    go_wp2
    go_ret
    exact ⟨by unfold dualS; rw [HVV.out]; rfl, HB1.out⟩
  | true =>
    have HVV := Lib.hid hv
    clear hv
    have k0 := HBA1.out.cell 0 (by simp)
    have x0 := HBB1.out.cell 0 (by simp)
    have x1 := HBB1.out.cell 1 (by simp)
    simp only [List.getElem_cons_zero, List.getElem_cons_succ] at k0 x0 x1
    have HPR := Lib.hid (proper_calls X cx xs d a.length w1 hm hla (HX.out.ext HB1.out))
    go_wp2_with fail
    refine HPR.out.mono ?_; rintro e w2 ⟨rfl, hb2⟩
    have HB2 := Lib.hid (HB1.out.trans (hb2.mono HB1.out.size)); have HBA2 := Lib.hid (HBA1.out.ext hb2); have HBB2 := Lib.hid (HBB1.out.ext hb2)
    clear hb2 HPR HBA1 HBB1 HB1 k0 x0 x1
    cases hp : pointOk a.length xs d with
    | false =>
      have HPP := Lib.hid hp
      clear hp
      go_wp2
      go_ret
      exact ⟨by unfold dualS; rw [HVV.out, HPP.out]; rfl, HB2.out⟩
    | true =>
      have HPP := Lib.hid hp
      clear hp
      have k0 := HBA2.out.cell 0 (by simp)
      have x0 := HBB2.out.cell 0 (by simp)
      simp only [List.getElem_cons_zero] at k0 x0
      have hcf := containsFunc_int 99 #[] (fun x => decide (x < 0)) X cx xs w2 hm (HX.out.ext HB2.out) (negative_tells w2 xs)
      have HCF := Lib.hid hcf
      clear hcf
      go_wp2_with fail
      refine HCF.out.mono ?_; rintro e w3 ⟨rfl, hb3⟩
      rw [nnB_any]
      have HB3 := Lib.hid (HB2.out.trans (hb3.mono HB2.out.size)); have HBA3 := Lib.hid (HBA2.out.ext hb3); have HBB3 := Lib.hid (HBB2.out.ext hb3)
      clear hb3 HCF HBA2 HBB2 HB2 k0 x0
      cases hn : nnB xs with
      | false =>
        have HNN := Lib.hid hn
        clear hn
        go_wp2
        go_ret
        exact ⟨by unfold dualS; rw [HVV.out, HPP.out, HNN.out]; rfl, HB3.out⟩
      | true =>
        have HNN := Lib.hid hn
        clear hn
        have k0 := HBA3.out.cell 0 (by simp)
        have k2 := HBA3.out.cell 2 (by simp)
        have x0 := HBB3.out.cell 0 (by simp)
        simp only [List.getElem_cons_zero, List.getElem_cons_succ] at k0 k2 x0
        obtain ⟨⟨q1, q2⟩, q3, q4, -⟩ := progOk_parts HVV.out
        obtain ⟨p1, p2, p3, -⟩ := pointOk_parts HPP.out
        have HTI := Lib.hid (timesL_calls X A cx ca xs a c.length w3 (HX.out.ext HB3.out) (HP.out.ext HB3.out).ga (by omega) (by omega) (by omega) (fun k hk => (q4 _ (nrow_mem hk)).1) (fun j hj => (dual_small HVV.out HPP.out hj).1))
        clear q4 p1 p2 p3
        go_wp2_with fail
        refine HTI.out.mono ?_
        rintro e w4 ⟨tz, rfl, htz, hI, hb4⟩
        have HB4 := Lib.hid (HB3.out.trans (hb4.mono HB3.out.size)); have HI := Lib.hid hI
        clear hb4 hI HTI HBA3 HBB3 HB3 k0 k2 x0
        go_wp2_with fail
        go_loopw [34] (fun ti wr => ∃ (i : Nat), i ≤ c.length ∧ ti = .int .i64 i ∧ Hid (∀ k, k < i → dotZ (clmOf a k) xs ≤ lim k) ∧ Hid (Below w4.heap.size w4 wr)) (fun ti _ => c.length - (intOf ti).toNat)
        case atStart => exact ⟨0, Nat.zero_le _, rfl, Lib.hid (fun k hk => by omega), Lib.hid (Below.refl _ _)⟩
        case round =>
          obtain ⟨i, hi, rfl, hD, hbe⟩ := hrel
          by_cases hlt : i < c.length
          · have hi1 : (i : Int) < c.length := by omega
            have hbw := HB4.out.trans (hbe.out.mono HB4.out.size)
            have hI2 : IBlk wr tz (timZ a xs c.length) := Blk.ext HI.out hbe.out
            have g3 := hI2.cell i (by rw [timZ_len]; exact hlt)
            rw [timZ_nth a xs hlt] at g3
            obtain ⟨dz, hdz⟩ : ∃ dz, dotZ (clmOf a i) xs = dz := ⟨_, rfl⟩
            rw [hdz] at g3
            obtain ⟨l, hlm⟩ : ∃ l, lim i = l := ⟨_, rfl⟩
            have hent := HF.out.1
            have hcall := HF.out.2 i hlt wr hbw
            rw [hlm] at hcall
            have HDZ := Lib.hid hdz; have HLM := Lib.hid hlm; have HCA := Lib.hid hcall; have HBW := Lib.hid hbw
            clear hdz hlm hcall hI2 hbw
            go_wp2_with fail
            rw [hent, Oper.upon_enter]
            refine HCA.out.mono ?_
            rintro e w5 ⟨rfl, hb5⟩
            have HB5 := Lib.hid (hbe.out.trans (hb5.mono hbe.out.size))
            clear hb5 HCA g3 hbe
            by_cases hlz : l < dz
            · have hd2 : decide (l < dz) = true := decide_eq_true hlz
              have HLZ := Lib.hid hlz
              clear hlz
              go_wp2
              go_ret
              refine ⟨?_, HB4.out.trans (HB5.out.mono HB4.out.size)⟩
              unfold dualS
              rw [all_range_false (i := i) (by omega) (decide_eq_false (by rw [HLM.out, HDZ.out]; have := HLZ.out; omega)), Bool.and_false]; rfl
            · have hd2 : decide (l < dz) = false := decide_eq_false hlz
              have HN2 : Hid (∀ k, k < i + 1 → dotZ (clmOf a k) xs ≤ lim k) := Lib.hid (fun k hk => by
                by_cases e : k = i
                · subst e; rw [HLM.out, HDZ.out]; omega
                · exact hD.out k (by omega))
              clear hD hlz
              go_wp2
              go_roundw
              case rel => exact ⟨i + 1, by omega, by go_num, HN2, HB5⟩
              case measure => simp [intOf]; omega
          · obtain rfl : i = c.length := by omega
            go_wp2
            go_ret
            exact ⟨by unfold dualS; rw [HVV.out, HPP.out, HNN.out, all_range_true fun i hi => decide_eq_true (hD.out i hi)]; rfl, HB4.out.trans (hbe.out.mono HB4.out.size)⟩
end Go.Proofs.YtkljafmdbajfeaaGreatDoor
