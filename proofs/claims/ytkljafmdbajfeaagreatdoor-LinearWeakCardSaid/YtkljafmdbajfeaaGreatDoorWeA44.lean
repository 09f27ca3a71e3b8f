/- tinplateref01.Proper, atLeast0, dot and Feasible: what they answer. -/
import Derived.Test.YtkljafmdbajfeaaGreatDoorWeA26
import Derived.Test.YtkljafmdbajfeaaGreatDoorWeA43
namespace Go.Proofs.YtkljafmdbajfeaaGreatDoor
open Go.RowKit
set_option linter.unusedVariables false
set_option linter.unusedSimpArgs false
end Go.Proofs.YtkljafmdbajfeaaGreatDoor

/- tinplateref01.column: what it answers. -/
namespace Go.Proofs.YtkljafmdbajfeaaGreatDoor
open Go.RowKit Go.ChangeMaps
set_option linter.unusedVariables false
set_option linter.unusedSimpArgs false
def clmTo (a : List (List Int)) (j i : Nat) : List Int := (List.range i).map fun k => nth (nrow a k) j
def clmOf (a : List (List Int)) (j : Nat) : List Int := clmTo a j a.length
theorem clmTo_len (a : List (List Int)) (j i : Nat) : (clmTo a j i).length = i := by unfold clmTo; simp
theorem clmOf_nth (a : List (List Int)) (j k : Nat) (h : k < a.length) : nth (clmOf a j) k = nth (nrow a k) j := by unfold clmOf clmTo nth; simp [h]
end Go.Proofs.YtkljafmdbajfeaaGreatDoor

/- tinplateref01.Bounds, Denies and Falls: what they answer. -/
namespace Go.Proofs.YtkljafmdbajfeaaGreatDoor
open Go.RowKit
set_option linter.unusedVariables false
set_option linter.unusedSimpArgs false
def boundsS (a : List (List Int)) (b c ys : List Int) (d : Int) : Bool := progOk a b c && pointOk a.length ys d && nnB ys && (List.range c.length).all fun j => decide (dotZ (clmOf a j) ys ≤ nth c j * d)
def deniesS (a : List (List Int)) (b c ys : List Int) (d : Int) : Bool := progOk a b c && pointOk a.length ys d && nnB ys && ((List.range c.length).all fun j => decide (dotZ (clmOf a j) ys ≤ 0)) && decide (0 < dotZ b ys)
theorem clmOf_len (a : List (List Int)) (j : Nat) : (clmOf a j).length = a.length := clmTo_len a j a.length
theorem clm_ok {a : List (List Int)} {m : Int} {n : Nat} (h : ∀ r ∈ a, r.length = n ∧ listOk m r = true) {j : Nat} (hj : j < n) : listOk m (clmOf a j) = true := by
 unfold listOk
 refine all_of_nth fun k hk => ?_
 rw [clmOf_len] at hk
 rw [clmOf_nth a j k hk]
 obtain ⟨h1, h2⟩ := h _ (nrow_mem hk)
 unfold listOk at h2
 exact List.all_eq_true.1 h2 _ (nth_mem (by omega))
theorem dual_small {a : List (List Int)} {b c ys : List Int} {d : Int} (h1 : progOk a b c = true) (h2 : pointOk a.length ys d = true) {j : Nat} (hj : j < c.length) : Small (clmOf a j) ys ∧ (clmOf a j).length ≤ ys.length ∧ (clmOf a j).length ≤ 6 := by
 obtain ⟨⟨k1, k2⟩, k3, k4, k5, k6, k7⟩ := progOk_parts h1
 obtain ⟨p1, p2, p3, p4⟩ := pointOk_parts h2
 have hl := clmOf_len a j
 exact ⟨small_of (clm_ok k4 hj) p4 (by omega) (by omega) (n := 6) (by omega) (by omega) (by omega), by omega, by omega⟩
theorem cost_small {a : List (List Int)} {b c xs : List Int} {d : Int} (h1 : progOk a b c = true) (h2 : pointOk c.length xs d = true) : Small c xs ∧ c.length ≤ xs.length := by
 obtain ⟨⟨k1, k2⟩, k3, k4, k5, k6, k7⟩ := progOk_parts h1
 obtain ⟨p1, p2, p3, p4⟩ := pointOk_parts h2
 exact ⟨small_of k7 p4 (by omega) (by omega) (n := 6) (by omega) (by omega) (by omega), by omega⟩
end Go.Proofs.YtkljafmdbajfeaaGreatDoor

/- linear.times: what it answers. -/
namespace Go.Proofs.YtkljafmdbajfeaaGreatDoor
open Go.RowKit Go.ChangeMaps
set_option linter.unusedVariables false
set_option linter.unusedSimpArgs false
def timR (a : List (List Int)) (ys : List Int) (n i j : Nat) : List Int := (List.range n).map fun t => dotN (clmOf a t) ys (if t < j then i + 1 else i)
def timZ (a : List (List Int)) (ys : List Int) (n : Nat) : List Int := (List.range n).map fun t => dotZ (clmOf a t) ys
theorem timR_len (a : List (List Int)) (ys : List Int) (n i j : Nat) : (timR a ys n i j).length = n := by unfold timR; simp
theorem timZ_len (a : List (List Int)) (ys : List Int) (n : Nat) : (timZ a ys n).length = n := by unfold timZ; simp
theorem timZ_nth (a : List (List Int)) (ys : List Int) {n j : Nat} (h : j < n) : nth (timZ a ys n) j = dotZ (clmOf a j) ys := by unfold timZ nth; simp [h]
theorem timR_zero (a : List (List Int)) (ys : List Int) (n : Nat) : timR a ys n 0 0 = zeros n := by
 unfold timR zeros
 apply List.ext_getElem (by simp)
 intro i h1 h2; simp [dotN]
theorem timR_next (a : List (List Int)) (ys : List Int) (n i : Nat) : timR a ys n i n = timR a ys n (i + 1) 0 := by
 unfold timR
 refine List.map_congr_left fun t ht => ?_
 rw [if_pos (List.mem_range.1 ht), if_neg (Nat.not_lt_zero _)]
theorem timR_end (a : List (List Int)) (ys : List Int) (n : Nat) : timR a ys n a.length 0 = timZ a ys n := by
 unfold timR timZ
 refine List.map_congr_left fun t ht => ?_
 unfold dotZ; rw [clmOf_len, if_neg (Nat.not_lt_zero _)]
theorem timR_nth (a : List (List Int)) (ys : List Int) {n i j : Nat} (h : j < n) : nth (timR a ys n i j) j = dotN (clmOf a j) ys i := by unfold timR nth; simp [h]
theorem timR_set (a : List (List Int)) (ys : List Int) {n i j : Nat} (h : j < n) : (timR a ys n i j).set j (dotN (clmOf a j) ys (i + 1)) = timR a ys n i (j + 1) := by
 unfold timR
 apply List.ext_getElem (by simp)
 intro t h1 h2
 rw [List.getElem_set]
 simp only [List.getElem_map, List.getElem_range]
 by_cases ht : j = t
 ·subst ht; simp
 ·rw [if_neg ht]
  by_cases h3 : t < j
  ·rw [if_pos h3, if_pos (by omega)]
  ·rw [if_neg h3, if_neg (by omega)]
theorem tim_step {a : List (List Int)} {ys : List Int} {i j : Nat} (h : Small (clmOf a j) ys) (hi : i < a.length) :
  IntKind.i64.wrap (nth ys i * nth (nrow a i) j) = nth ys i * nth (nrow a i) j ∧ IntKind.i64.wrap (dotN (clmOf a j) ys i + nth ys i * nth (nrow a i) j) = dotN (clmOf a j) ys (i + 1) := by
 obtain ⟨M, hM, hb⟩ := h
 have hl := clmOf_len a j
 have hb' := hb
 have h1 := dotN_bound hb' (i + 1) (by omega)
 have h2 := hb i (by omega)
 rw [clmOf_nth a j i hi] at h2
 rw [Int.mul_comm] at h2
 have h0 : 0 ≤ M := by omega
 have h3 : ((i + 1 : Nat) : Int) * M ≤ ((clmOf a j).length : Int) * M := Int.mul_le_mul_of_nonneg_right (by omega) h0
 have h4 : 1 * M ≤ ((clmOf a j).length : Int) * M := Int.mul_le_mul_of_nonneg_right (by omega) h0
 have e : dotN (clmOf a j) ys (i + 1) = dotN (clmOf a j) ys i + nth ys i * nth (nrow a i) j := by
  simp only [dotN]; rw [clmOf_nth a j i hi, Int.mul_comm]
 rw [IntKind.wrap_i64, IntKind.wrap_i64, e]
 rw [e] at h1
 generalize nth ys i * nth (nrow a i) j = p at *
 generalize ((i + 1 : Nat) : Int) * M = q at *
 generalize ((clmOf a j).length : Int) * M = q2 at *
 constructor <;> omega
set_option maxRecDepth 100000 in
set_option maxHeartbeats 2000000 in
theorem timesL_calls (Y A : Option Addr) (cy ca : Nat) (ys : List Int) (a : List (List Int)) (n : Nat) (w : World) (hY : Ints w Y ys) (hA : Grid w A a) (hl : a.length ≤ ys.length) (hl1 : ys.length ≤ 1000) (hn : n ≤ 1000)
  (hr : ∀ k, k < a.length → (nrow a k).length = n) (hs : ∀ j, j < n → Small (clmOf a j) ys) :
  Calls Tryz.prog 120 #[.slice Y ys.length cy, .slice A a.length ca, .int .i64 n] w fun e w' => ∃ g, e = .returned (.slice (some ⟨g, 0, none⟩) n n) ∧ w.heap.size ≤ g ∧ IBlk w' g (timZ a ys n) ∧ Below w.heap.size w w' := by
 have hmk := fun w => run_makeInts w n (by omega)
 have HY := Lib.hid hY; have HG := Lib.hid hA; have HR := Lib.hid hr; have HS := Lib.hid hs
 have H0 : Hid (IBlk (w.alloc (.cells ((zeros n).map (Value.int .i64)).toArray 3 (0, 0))) w.heap.size (timR a ys n 0 0)) := Lib.hid (by rw [timR_zero]; exact IBlk.made w n)
 have HA : Hid (Below w.heap.size w (w.alloc (.cells ((zeros n).map (Value.int .i64)).toArray 3 (0, 0)))) := Lib.hid ((Below.refl _ _).alloc (Nat.le_refl _) _)
 clear hY hA hr hs
 go_enter Tryz.func120, Tryz.ntmps120
 go_wp2_with fail
 go_loopw [15] (fun ti wr => ∃ (i : Nat), i ≤ a.length ∧ ti = .int .i64 i ∧ Hid (IBlk wr w.heap.size (timR a ys n i 0)) ∧ Hid (Below w.heap.size w wr)) (fun ti _ => a.length - (intOf ti).toNat)
 case atStart => exact ⟨0, Nat.zero_le _, rfl, H0, HA⟩
 case round =>
  obtain ⟨i, hi, rfl, hI, hbe⟩ := hrel
  by_cases hlt : i < a.length
  ·have hi1 : (i : Int) < a.length := by omega
   obtain ⟨bb, o, R, cR, rfl, hrc0, -, hints⟩ := HG.out i hlt
   have hrc : wr.cell? ⟨bb, o + i, none⟩ = some (.slice R (nrow a i).length cR) := by rw [hbe.out.cell (cell_lt hrc0)]; exact hrc0
   have hrl := HR.out i hlt
   rw [hrl] at hrc
   obtain ⟨b2, o2, rfl, hyc0⟩ := HY.out i (by omega)
   have hiy : (i : Int) < ys.length := by omega
   have HYC := Lib.hid hyc0; have HIN := Lib.hid hints
   clear hrc0 hyc0 hints
   go_wp2_with fail
   go_loopw [22] (fun tj wr => ∃ (j : Nat), j ≤ n ∧ tj = .int .i64 j ∧ Hid (IBlk wr w.heap.size (timR a ys n i j)) ∧ Hid (Below w.heap.size w wr)) (fun tj _ => n - (intOf tj).toNat)
   case atStart => exact ⟨0, Nat.zero_le _, rfl, hI, hbe⟩
   case round =>
    clear hI hbe hrc
    obtain ⟨j, hj, rfl, hI, hbe⟩ := hrel
    by_cases hjl : j < n
    ·have hj1 : (j : Int) < n := by omega
     obtain ⟨b3, o3, rfl, hxc⟩ := (HIN.out.ext hbe.out) j (by omega)
     have hyc : wr.cell? ⟨b2, o2 + i, none⟩ = some (.int .i64 (nth ys i)) := by rw [hbe.out.cell (cell_lt HYC.out)]; exact HYC.out
     have hl := timR_len a ys n i j
     have g3 := hI.out.cell j (by omega)
     have f3 := Blk.free hI.out j
     obtain ⟨q1, q2⟩ := tim_step (HS.out j hjl) hlt
     have hset := hI.out.set j (dotN (clmOf a j) ys (i + 1))
     rw [timR_set a ys hjl] at hset
     rw [timR_nth a ys hjl] at g3
     obtain ⟨y, hy⟩ : ∃ y, nth ys i = y := ⟨_, rfl⟩
     obtain ⟨x, hx⟩ : ∃ x, nth (nrow a i) j = x := ⟨_, rfl⟩
     obtain ⟨s, hsm⟩ : ∃ s, dotN (clmOf a j) ys i = s := ⟨_, rfl⟩
     obtain ⟨s2, hs2⟩ : ∃ s2, dotN (clmOf a j) ys (i + 1) = s2 := ⟨_, rfl⟩
     obtain ⟨p, hp⟩ : ∃ p, y * x = p := ⟨_, rfl⟩
     rw [hy] at hyc
     rw [hx] at hxc
     rw [hsm] at g3
     rw [hs2] at hset
     rw [hy, hx, hp] at q1
     rw [hy, hx, hp, hsm, hs2] at q2
     have q3 : IntKind.i64.wrap (y * x) = p := by rw [hp]; exact q1
     have HST := Lib.hid hset
     clear hset hy hx hsm hs2 hp q1 hl
     go_wp2
     go_still_tail 14, (by kernel_rfl)
     change wpList _ _ _ _ _ wr.drew
     go_wp2
     go_roundw
     case rel => exact ⟨j + 1, by omega, by go_num, HST, Lib.hid ((hbe.out.setCell (p := ⟨w.heap.size, j, none⟩) (Nat.le_refl _) _).drew)⟩
     case measure => simp [intOf]; omega
    ·obtain rfl : j = n := by omega
     rw [timR_next] at hI
     go_wp2
     go_roundw
     case rel => exact ⟨i + 1, by omega, by go_num, hI, hbe⟩
     case measure => simp [intOf]; omega
  ·obtain rfl : i = a.length := by omega
   rw [timR_end] at hI
   go_wp2
   go_ret
   exact ⟨_, rfl, Nat.le_refl _, hI.out, hbe.out⟩
end Go.Proofs.YtkljafmdbajfeaaGreatDoor

/- linear.dual and linear.Falls: what they answer. -/
namespace Go.Proofs.YtkljafmdbajfeaaGreatDoor
open Go.RowKit
set_option linter.unusedVariables false
set_option linter.unusedSimpArgs false
def TellsN (fid : FuncId) (caps : Array Value) (lim : Nat → Int) (n : Nat) (w : World) : Prop :=
 Enters fid ∧ ∀ j, j < n → ∀ w1, Below w.heap.size w w1 → Calls Tryz.prog fid (#[.int .i64 j] ++ caps) w1 fun e w2 => e = .returned (.int .i64 (lim j)) ∧ Below w1.heap.size w1 w2
def dualS (a : List (List Int)) (b c ys : List Int) (d : Int) (lim : Nat → Int) : Bool := progOk a b c && pointOk a.length ys d && nnB ys && (List.range c.length).all fun j => decide (dotZ (clmOf a j) ys ≤ lim j)
set_option maxRecDepth 100000 in
set_option maxHeartbeats 1000000 in
theorem dualL_calls (A B C X : Option Addr) (ca cb cc cx : Nat) (a : List (List Int)) (b c xs : List Int) (d : Int) (w : World) (h : Prog3 w A B C a b c) (hX : Ints w X xs) (hm : xs.length ≤ maxLen) (fid : FuncId) (caps : Array Value) (lim : Nat → Int) (hf : TellsN fid caps lim c.length w) :
  Calls Tryz.prog 109 #[.agg #[.slice A a.length ca, .slice B b.length cb, .slice C c.length cc], .agg #[.slice X xs.length cx, .int .i64 d], .func (.func fid) #[] caps] w fun e w' => e = .returned (.bool (dualS a b c xs d lim)) ∧ Below w.heap.size w w' := by
 obtain ⟨wa, hwa⟩ : ∃ wa, w.alloc (.cells #[.slice A a.length ca, .slice B b.length cb, .slice C c.length cc] 25 (0, 0)) = wa := ⟨_, rfl⟩
 obtain ⟨wb, hwb⟩ : ∃ wb, wa.alloc (.cells #[.slice X xs.length cx, .int .i64 d] 29 (0, 0)) = wb := ⟨_, rfl⟩
 have hlc := h.lc
 have hla := h.la
 have sa : wa.heap.size = w.heap.size + 1 := by rw [← hwa]; simp
 have ba : Blk wa w.heap.size [.slice A a.length ca, .slice B b.length cb, .slice C c.length cc] 25 := by rw [← hwa]; exact Blk.new _ _ _
 have bb : Blk wb (w.heap.size + 1) [.slice X xs.length cx, .int .i64 d] 29 := by rw [← hwb, ← sa]; exact Blk.new _ _ _
 have ea : Below w.heap.size w wa := by rw [← hwa]; exact (Below.refl _ _).alloc (Nat.le_refl _) _
 have eb : Below wa.heap.size wa wb := by rw [← hwb]; exact (Below.refl _ _).alloc (Nat.le_refl _) _
 have e2 : Below w.heap.size w wb := ea.trans (eb.mono (by omega))
 have HBA := Lib.hid (ba.ext eb); have HBB := Lib.hid bb; have HE2 := Lib.hid e2
 have HF := Lib.hid hf; have HP := Lib.hid h; have HX := Lib.hid hX
 have HV := Lib.hid (valid_calls A B C ca cb cc a b c wb (h.ext e2))
 have p0 := (ba.ext eb).cell 0 (by simp)
 have p1 := (ba.ext eb).cell 1 (by simp)
 have p2 := (ba.ext eb).cell 2 (by simp)
 simp only [List.getElem_cons_zero, List.getElem_cons_succ] at p0 p1 p2
 rw [← hwb, ← hwa] at p0 p1 p2
 have HWA := Lib.hid hwa; have HWB := Lib.hid hwb
 clear ba bb ea eb e2 h hX sa hwa hwb hf
 go_enter Tryz.func109, Tryz.ntmps109
 go_wp2_with fail
 rw [HWA.out, HWB.out]
 clear p0 p1 p2
 obtain ⟨bp, hbp⟩ : ∃ bp, w.heap.size = bp := ⟨_, rfl⟩
 obtain ⟨xp, hxp⟩ : ∃ xp, w.heap.size + 1 = xp := ⟨_, rfl⟩
 rw [hbp] at HBA
 rw [hxp] at HBB
 rw [hxp, hbp]
 have HBP := Lib.hid hbp
 clear hbp hxp
 refine HV.out.mono ?_; rintro e w1 ⟨rfl, hb1⟩
 have HB1 := Lib.hid (HE2.out.trans (hb1.mono HE2.out.size)); have HBA1 := Lib.hid (HBA.out.ext hb1); have HBB1 := Lib.hid (HBB.out.ext hb1)
 clear hb1 HV HBA HBB HE2
 cases hv : progOk a b c with
 | false =>
   have HVV := Lib.hid hv
   clear hv
   go_wp2
   go_ret
   exact ⟨by unfold dualS; rw [HVV.out]; rfl, HB1.out⟩
 | true =>
   have HVV := Lib.hid hv
   clear hv
   have k0 := HBA1.out.cell 0 (by simp)
   have x0 := HBB1.out.cell 0 (by simp)
   have x1 := HBB1.out.cell 1 (by simp)
   simp only [List.getElem_cons_zero, List.getElem_cons_succ] at k0 x0 x1
   have HPR := Lib.hid (proper_calls X cx xs d a.length w1 hm hla (HX.out.ext HB1.out))
   go_wp2_with fail
   refine HPR.out.mono ?_; rintro e w2 ⟨rfl, hb2⟩
   have HB2 := Lib.hid (HB1.out.trans (hb2.mono HB1.out.size)); have HBA2 := Lib.hid (HBA1.out.ext hb2); have HBB2 := Lib.hid (HBB1.out.ext hb2)
   clear hb2 HPR HBA1 HBB1 HB1 k0 x0 x1
   cases hp : pointOk a.length xs d with
   | false =>
     have HPP := Lib.hid hp
     clear hp
     go_wp2
     go_ret
     exact ⟨by unfold dualS; rw [HVV.out, HPP.out]; rfl, HB2.out⟩
   | true =>
     have HPP := Lib.hid hp
     clear hp
     have k0 := HBA2.out.cell 0 (by simp)
     have x0 := HBB2.out.cell 0 (by simp)
     simp only [List.getElem_cons_zero] at k0 x0
     have hcf := containsFunc_int 99 #[] (fun x => decide (x < 0)) X cx xs w2 hm (HX.out.ext HB2.out) (negative_tells w2 xs)
     have HCF := Lib.hid hcf
     clear hcf
     go_wp2_with fail
     refine HCF.out.mono ?_; rintro e w3 ⟨rfl, hb3⟩
     rw [nnB_any]
     have HB3 := Lib.hid (HB2.out.trans (hb3.mono HB2.out.size)); have HBA3 := Lib.hid (HBA2.out.ext hb3); have HBB3 := Lib.hid (HBB2.out.ext hb3)
     clear hb3 HCF HBA2 HBB2 HB2 k0 x0
     cases hn : nnB xs with
     | false =>
       have HNN := Lib.hid hn
       clear hn
       go_wp2
       go_ret
       exact ⟨by unfold dualS; rw [HVV.out, HPP.out, HNN.out]; rfl, HB3.out⟩
     | true =>
       have HNN := Lib.hid hn
       clear hn
       have k0 := HBA3.out.cell 0 (by simp)
       have k2 := HBA3.out.cell 2 (by simp)
       have x0 := HBB3.out.cell 0 (by simp)
       simp only [List.getElem_cons_zero, List.getElem_cons_succ] at k0 k2 x0
       obtain ⟨⟨q1, q2⟩, q3, q4, -⟩ := progOk_parts HVV.out
       obtain ⟨p1, p2, p3, -⟩ := pointOk_parts HPP.out
       have HTI := Lib.hid (timesL_calls X A cx ca xs a c.length w3 (HX.out.ext HB3.out) (HP.out.ext HB3.out).ga (by omega) (by omega) (by omega) (fun k hk => (q4 _ (nrow_mem hk)).1) (fun j hj => (dual_small HVV.out HPP.out hj).1))
       clear q4 p1 p2 p3
       go_wp2_with fail
       refine HTI.out.mono ?_
       rintro e w4 ⟨tz, rfl, htz, hI, hb4⟩
       have HB4 := Lib.hid (HB3.out.trans (hb4.mono HB3.out.size)); have HI := Lib.hid hI
       clear hb4 hI HTI HBA3 HBB3 HB3 k0 k2 x0
       go_wp2_with fail
       go_loopw [34] (fun ti wr => ∃ (i : Nat), i ≤ c.length ∧ ti = .int .i64 i ∧ Hid (∀ k, k < i → dotZ (clmOf a k) xs ≤ lim k) ∧ Hid (Below w4.heap.size w4 wr)) (fun ti _ => c.length - (intOf ti).toNat)
       case atStart => exact ⟨0, Nat.zero_le _, rfl, Lib.hid (fun k hk => by omega), Lib.hid (Below.refl _ _)⟩
       case round =>
        obtain ⟨i, hi, rfl, hD, hbe⟩ := hrel
        by_cases hlt : i < c.length
        ·have hi1 : (i : Int) < c.length := by omega
         have hbw := HB4.out.trans (hbe.out.mono HB4.out.size)
         have hI2 : IBlk wr tz (timZ a xs c.length) := Blk.ext HI.out hbe.out
         have g3 := hI2.cell i (by rw [timZ_len]; exact hlt)
         rw [timZ_nth a xs hlt] at g3
         obtain ⟨dz, hdz⟩ : ∃ dz, dotZ (clmOf a i) xs = dz := ⟨_, rfl⟩
         rw [hdz] at g3
         obtain ⟨l, hlm⟩ : ∃ l, lim i = l := ⟨_, rfl⟩
         have hent := HF.out.1
         have hcall := HF.out.2 i hlt wr hbw
         rw [hlm] at hcall
         have HDZ := Lib.hid hdz; have HLM := Lib.hid hlm; have HCA := Lib.hid hcall; have HBW := Lib.hid hbw
         clear hdz hlm hcall hI2 hbw
         go_wp2_with fail
         rw [hent, Oper.upon_enter]
         refine HCA.out.mono ?_
         rintro e w5 ⟨rfl, hb5⟩
         have HB5 := Lib.hid (hbe.out.trans (hb5.mono hbe.out.size))
         clear hb5 HCA g3 hbe
         by_cases hlz : l < dz
         ·have hd2 : decide (l < dz) = true := decide_eq_true hlz
          have HLZ := Lib.hid hlz
          clear hlz
          go_wp2
          go_ret
          refine ⟨?_, HB4.out.trans (HB5.out.mono HB4.out.size)⟩
          unfold dualS
          rw [all_range_false (i := i) (by omega) (decide_eq_false (by rw [HLM.out, HDZ.out]; have := HLZ.out; omega)), Bool.and_false]; rfl
         ·have hd2 : decide (l < dz) = false := decide_eq_false hlz
          have HN2 : Hid (∀ k, k < i + 1 → dotZ (clmOf a k) xs ≤ lim k) := Lib.hid (fun k hk => by
           by_cases e : k = i
           ·subst e; rw [HLM.out, HDZ.out]; omega
           ·exact hD.out k (by omega))
          clear hD hlz
          go_wp2
          go_roundw
          case rel => exact ⟨i + 1, by omega, by go_num, HN2, HB5⟩
          case measure => simp [intOf]; omega
        ·obtain rfl : i = c.length := by omega
         go_wp2
         go_ret
         exact ⟨by unfold dualS; rw [HVV.out, HPP.out, HNN.out, all_range_true fun i hi => decide_eq_true (hD.out i hi)]; rfl, HB4.out.trans (hbe.out.mono HB4.out.size)⟩
end Go.Proofs.YtkljafmdbajfeaaGreatDoor

/- linear.Bounds and linear.Denies: what they answer. -/
namespace Go.Proofs.YtkljafmdbajfeaaGreatDoor
open Go.RowKit
set_option linter.unusedVariables false
set_option linter.unusedSimpArgs false
theorem bounds_dual (a : List (List Int)) (b c ys : List Int) (d : Int) : dualS a b c ys d (fun j => IntKind.i64.wrap (nth c j * d)) = boundsS a b c ys d := by
 unfold dualS boundsS
 cases h1 : progOk a b c with
 | false => rfl
 | true =>
   cases h2 : pointOk a.length ys d with
   | false => rfl
   | true =>
     obtain ⟨⟨k1, k2⟩, k3, k4, k5, k6, k7⟩ := progOk_parts h1
     obtain ⟨p1, p2, p3, p4⟩ := pointOk_parts h2
     have e : ∀ j, j < c.length → IntKind.i64.wrap (nth c j * d) = nth c j * d := fun j hj => by
      have h1 := listOk_nth k7 hj
      have h2 := mul_bd (a := 1000) (b := 1125899906842624) (x := nth c j) (y := d) (by omega) h1 (by omega)
      rw [IntKind.wrap_i64]; omega
     congr 1
     rw [Bool.eq_iff_iff, List.all_eq_true, List.all_eq_true]
     constructor
     ·intro h j hj
      have := h j hj
      simpa only [e j (List.mem_range.1 hj)] using this
     ·intro h j hj
      have := h j hj
      simpa only [e j (List.mem_range.1 hj)] using this
theorem dotN_flip (xs ys : List Int) : ∀ k, dotN xs ys k = dotN ys xs k
 | 0 => rfl
 | k + 1 => by simp only [dotN]; rw [dotN_flip xs ys k, Int.mul_comm]
theorem dotZ_flip {xs ys : List Int} (h : xs.length = ys.length) : dotZ xs ys = dotZ ys xs := by unfold dotZ; rw [dotN_flip, h]
theorem level_flip {a : List (List Int)} {b c ys : List Int} {d : Int} (h1 : progOk a b c = true) (h2 : pointOk a.length ys d = true) : Small ys b ∧ ys.length = b.length ∧ ys.length ≤ 6 := by
 obtain ⟨⟨k1, k2⟩, k3, k4, k5, k6, k7⟩ := progOk_parts h1
 obtain ⟨p1, p2, p3, p4⟩ := pointOk_parts h2
 exact ⟨small_of p4 k6 (by omega) (by omega) (n := 6) (by omega) (by omega) (by omega), by omega, by omega⟩
theorem denies_dual (a : List (List Int)) (b c ys : List Int) (d : Int) : (dualS a b c ys d (fun _ => 0) && decide (0 < dotZ b ys)) = deniesS a b c ys d := rfl
theorem dualS_parts {a : List (List Int)} {b c ys : List Int} {d : Int} {lim : Nat → Int} (h : dualS a b c ys d lim = true) : progOk a b c = true ∧ pointOk a.length ys d = true := by
 unfold dualS at h; simp only [Bool.and_eq_true] at h; exact ⟨h.1.1.1, h.1.1.2⟩
theorem denies1L_calls (j : Nat) (w : World) : Calls Tryz.prog 110 #[.int .i64 j] w fun e w' => e = .returned (.int .i64 0) ∧ Below w.heap.size w w' := by
 go_enter Tryz.func110, Tryz.ntmps110
 go_wp2
 go_ret
 exact ⟨rfl, Below.refl _ _⟩
set_option maxHeartbeats 1000000 in
theorem bounds1L_calls (A B C X : Option Addr) (bp xp : Nat) (la ca lb cb cc lx cx : Nat) (c : List Int) (d : Int) (j : Nat) (w : World) (hba : Blk w bp [.slice A la ca, .slice B lb cb, .slice C c.length cc] 25) (hbx : Blk w xp [.slice X lx cx, .int .i64 d] 29) (hC : Ints w C c) (hj : j < c.length) :
  Calls Tryz.prog 111 #[.int .i64 j, .pointer (some ⟨bp, 0, none⟩), .pointer (some ⟨xp, 0, none⟩)] w fun e w' => e = .returned (.int .i64 (IntKind.i64.wrap (nth c j * d))) ∧ Below w.heap.size w w' := by
 have k2 := hba.cell 2 (by simp)
 have x1 := hbx.cell 1 (by simp)
 simp only [List.getElem_cons_zero, List.getElem_cons_succ] at k2 x1
 obtain ⟨b2, o2, rfl, hc⟩ := hC j hj
 have hj1 : (j : Int) < c.length := by omega
 obtain ⟨n, hn⟩ : ∃ n, nth c j = n := ⟨_, rfl⟩
 rw [hn] at hc
 obtain ⟨p, hp⟩ : ∃ p, IntKind.i64.wrap (n * d) = p := ⟨_, rfl⟩
 have wq1 := hp
 have HN := Lib.hid hn; have HP := Lib.hid hp
 clear hba hbx hC hn hp
 go_enter Tryz.func111, Tryz.ntmps111
 go_wp2
 go_quiet (fail)
 go_wp2
 go_ret
 exact ⟨by rw [HN.out, HP.out]; rfl, drewN_below _ _⟩
set_option maxRecDepth 100000 in
set_option maxHeartbeats 1000000 in
theorem deniesL_calls (A B C X : Option Addr) (ca cb cc cx : Nat) (a : List (List Int)) (b c xs : List Int) (d : Int) (w : World) (h : Prog3 w A B C a b c) (hX : Ints w X xs) (hm : xs.length ≤ maxLen) :
  Calls Tryz.prog 50 #[.agg #[.slice A a.length ca, .slice B b.length cb, .slice C c.length cc], .agg #[.slice X xs.length cx, .int .i64 d]] w fun e w' => e = .returned (.bool (deniesS a b c xs d)) ∧ Below w.heap.size w w' := by
 obtain ⟨wa, hwa⟩ : ∃ wa, w.alloc (.cells #[.slice A a.length ca, .slice B b.length cb, .slice C c.length cc] 25 (0, 0)) = wa := ⟨_, rfl⟩
 obtain ⟨wb, hwb⟩ : ∃ wb, wa.alloc (.cells #[.slice X xs.length cx, .int .i64 d] 29 (0, 0)) = wb := ⟨_, rfl⟩
 have sa : wa.heap.size = w.heap.size + 1 := by rw [← hwa]; simp
 have ba : Blk wa w.heap.size [.slice A a.length ca, .slice B b.length cb, .slice C c.length cc] 25 := by rw [← hwa]; exact Blk.new _ _ _
 have bb : Blk wb (w.heap.size + 1) [.slice X xs.length cx, .int .i64 d] 29 := by rw [← hwb, ← sa]; exact Blk.new _ _ _
 have ea : Below w.heap.size w wa := by rw [← hwa]; exact (Below.refl _ _).alloc (Nat.le_refl _) _
 have eb : Below wa.heap.size wa wb := by rw [← hwb]; exact (Below.refl _ _).alloc (Nat.le_refl _) _
 have e2 : Below w.heap.size w wb := ea.trans (eb.mono (by omega))
 have HBA := Lib.hid (ba.ext eb); have HBB := Lib.hid bb; have HE2 := Lib.hid e2
 have HV := Lib.hid (dualL_calls A B C X ca cb cc cx a b c xs d wb (h.ext e2) (hX.ext e2) hm 110 #[] (fun _ => 0) ⟨fun _ _ => by kernel_rfl, fun j hj w1 hb => denies1L_calls j w1⟩)
 have HP := Lib.hid h; have HX := Lib.hid hX
 have p0 := (ba.ext eb).cell 0 (by simp)
 have p1 := (ba.ext eb).cell 1 (by simp)
 have p2 := (ba.ext eb).cell 2 (by simp)
 simp only [List.getElem_cons_zero, List.getElem_cons_succ] at p0 p1 p2
 rw [← hwb, ← hwa] at p0 p1 p2
 have HWA := Lib.hid hwa; have HWB := Lib.hid hwb
 clear ba bb ea eb e2 h hX sa hwa hwb
 go_enter Tryz.func50, Tryz.ntmps50
 go_wp2_with fail
 rw [HWA.out, HWB.out]
 clear p0 p1 p2
 obtain ⟨bp, hbp⟩ : ∃ bp, w.heap.size = bp := ⟨_, rfl⟩
 obtain ⟨xp, hxp⟩ : ∃ xp, w.heap.size + 1 = xp := ⟨_, rfl⟩
 rw [hbp] at HBA
 rw [hxp] at HBB
 rw [hxp, hbp]
 have HBP := Lib.hid hbp
 clear hbp hxp
 refine HV.out.mono ?_; rintro e w1 ⟨rfl, hb1⟩
 have HB1 := Lib.hid (HE2.out.trans (hb1.mono HE2.out.size)); have HBA1 := Lib.hid (HBA.out.ext hb1); have HBB1 := Lib.hid (HBB.out.ext hb1)
 clear hb1 HV HBA HBB HE2
 cases hv : dualS a b c xs d (fun _ => 0) with
 | false =>
   have HVV := Lib.hid hv
   clear hv
   go_wp2
   go_ret
   exact ⟨by rw [← denies_dual, HVV.out]; rfl, HB1.out⟩
 | true =>
   have HVV := Lib.hid hv
   clear hv
   obtain ⟨g1, g2⟩ := dualS_parts HVV.out
   obtain ⟨hs, hl, hl6⟩ := level_flip g1 g2
   have hdt := linDot_calls X B cx cb xs b w1 (by omega) hm (HX.out.ext HB1.out) (HP.out.ext HB1.out).gb hs
   rw [dotZ_flip hl] at hdt
   have HDT := Lib.hid hdt
   clear g1 g2 hs hl hl6 hdt
   have k1 := HBA1.out.cell 1 (by simp)
   have x0 := HBB1.out.cell 0 (by simp)
   simp only [List.getElem_cons_zero, List.getElem_cons_succ] at k1 x0
   go_wp2_with fail
   refine HDT.out.mono ?_
   rintro e w5 ⟨rfl, kq, hkq⟩
   have HB5 : Hid (Below w1.heap.size w1 w5) := Lib.hid (by rw [hkq]; exact drewN_below _ _)
   clear hkq HDT
   go_wp2
   go_ret
   exact ⟨by rw [← denies_dual, HVV.out]; rfl, HB1.out.trans (HB5.out.mono HB1.out.size)⟩
set_option maxRecDepth 100000 in
set_option maxHeartbeats 1000000 in
theorem boundsL_calls (A B C X : Option Addr) (ca cb cc cx : Nat) (a : List (List Int)) (b c xs : List Int) (d : Int) (w : World) (h : Prog3 w A B C a b c) (hX : Ints w X xs) (hm : xs.length ≤ maxLen) :
  Calls Tryz.prog 51 #[.agg #[.slice A a.length ca, .slice B b.length cb, .slice C c.length cc], .agg #[.slice X xs.length cx, .int .i64 d]] w fun e w' => e = .returned (.bool (boundsS a b c xs d)) ∧ Below w.heap.size w w' := by
 obtain ⟨wa, hwa⟩ : ∃ wa, w.alloc (.cells #[.slice A a.length ca, .slice B b.length cb, .slice C c.length cc] 25 (0, 0)) = wa := ⟨_, rfl⟩
 obtain ⟨wb, hwb⟩ : ∃ wb, wa.alloc (.cells #[.slice X xs.length cx, .int .i64 d] 29 (0, 0)) = wb := ⟨_, rfl⟩
 have sa : wa.heap.size = w.heap.size + 1 := by rw [← hwa]; simp
 have ba : Blk wa w.heap.size [.slice A a.length ca, .slice B b.length cb, .slice C c.length cc] 25 := by rw [← hwa]; exact Blk.new _ _ _
 have bb : Blk wb (w.heap.size + 1) [.slice X xs.length cx, .int .i64 d] 29 := by rw [← hwb, ← sa]; exact Blk.new _ _ _
 have ea : Below w.heap.size w wa := by rw [← hwa]; exact (Below.refl _ _).alloc (Nat.le_refl _) _
 have eb : Below wa.heap.size wa wb := by rw [← hwb]; exact (Below.refl _ _).alloc (Nat.le_refl _) _
 have e2 : Below w.heap.size w wb := ea.trans (eb.mono (by omega))
 have HBA := Lib.hid (ba.ext eb); have HBB := Lib.hid bb; have HE2 := Lib.hid e2
 have hTN : TellsN 111 #[.pointer (some ⟨w.heap.size, 0, none⟩), .pointer (some ⟨w.heap.size + 1, 0, none⟩)] (fun j => IntKind.i64.wrap (nth c j * d)) c.length wb := ⟨fun _ _ => by kernel_rfl, fun j hj w1 hb => bounds1L_calls A B C X _ _ _ ca _ cb cc _ cx c d j w1 ((ba.ext eb).ext hb) (bb.ext hb) ((h.ext e2).ext hb).gc hj⟩
 have HV := Lib.hid (dualL_calls A B C X ca cb cc cx a b c xs d wb (h.ext e2) (hX.ext e2) hm _ _ _ hTN)
 clear hTN
 have HP := Lib.hid h; have HX := Lib.hid hX
 have p0 := (ba.ext eb).cell 0 (by simp)
 have p1 := (ba.ext eb).cell 1 (by simp)
 have p2 := (ba.ext eb).cell 2 (by simp)
 simp only [List.getElem_cons_zero, List.getElem_cons_succ] at p0 p1 p2
 rw [← hwb, ← hwa] at p0 p1 p2
 have HWA := Lib.hid hwa; have HWB := Lib.hid hwb
 clear ba bb ea eb e2 h hX sa hwa hwb
 go_enter Tryz.func51, Tryz.ntmps51
 go_wp2_with fail
 rw [HWA.out, HWB.out]
 clear p0 p1 p2
 obtain ⟨bp, hbp⟩ : ∃ bp, w.heap.size = bp := ⟨_, rfl⟩
 obtain ⟨xp, hxp⟩ : ∃ xp, w.heap.size + 1 = xp := ⟨_, rfl⟩
 rw [hbp] at HBA
 rw [hxp] at HBB
 rw [hxp, hbp] at HV
 rw [hxp, hbp]
 have HBP := Lib.hid hbp
 clear hbp hxp
 refine HV.out.mono ?_; rintro e w1 ⟨rfl, hb1⟩
 have HB1 := Lib.hid (HE2.out.trans (hb1.mono HE2.out.size))
 clear hb1 HV HBA HBB HE2
 rw [bounds_dual]
 go_wp2
 go_ret
 exact ⟨rfl, HB1.out⟩
end Go.Proofs.YtkljafmdbajfeaaGreatDoor
