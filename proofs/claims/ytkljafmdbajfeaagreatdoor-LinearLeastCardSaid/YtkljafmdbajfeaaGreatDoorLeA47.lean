/- tinplatelaw01.alive. -/
import Derived.Test.YtkljafmdbajfeaaGreatDoorLeA11
import Derived.Test.YtkljafmdbajfeaaGreatDoorLeA46
namespace Go.Proofs.YtkljafmdbajfeaaGreatDoor
open Go.RowKit
open Lp (Lt V Ech Gen From Red pivots EndFound)
set_option linter.unusedVariables false
set_option linter.unusedSimpArgs false
theorem ints2 {w : World} {g : Nat} {a b : Int} {T : TypeId} (h : Blk w g [.int .i64 a, .int .i64 b] T) : Ints w (some ⟨g, 0, none⟩) [a, b] := fun i hi => by
  refine ⟨g, 0, rfl, ?_⟩
  rw [Nat.zero_add]
  have h1 : i = 0 ∨ i = 1 := by simp at hi; omega
  rcases h1 with rfl | rfl
  · exact h.cell 0 (by simp)
  · exact h.cell 1 (by simp)
theorem grid2 {w : World} {g g0 g1 : Nat} {T : TypeId} {a b c d : Int} {T0 T1 : TypeId} (h : Blk w g [.slice (some ⟨g0, 0, none⟩) 2 2, .slice (some ⟨g1, 0, none⟩) 2 2] T) (h0 : Blk w g0 [.int .i64 a, .int .i64 b] T0) (h1 : Blk w g1 [.int .i64 c, .int .i64 d] T1) :
    Grid w (some ⟨g, 0, none⟩) [[a, b], [c, d]] := fun i hi => by
  have h3 : i = 0 ∨ i = 1 := by simp at hi; omega
  rcases h3 with rfl | rfl
  · exact ⟨g, 0, _, 2, rfl, by rw [Nat.zero_add]; exact h.cell 0 (by simp), Nat.le_refl _, ints2 h0⟩
  · exact ⟨g, 0, _, 2, rfl, by rw [Nat.zero_add]; exact h.cell 1 (by simp), Nat.le_refl _, ints2 h1⟩
theorem ex_hermite {w w' : World} {v : Value} {rows : Lt} (h : HermiteV w w' v [[4, 6], [6, 9]] 2 rows) : ∃ gr c g, v = .slice (some ⟨gr, 0, none⟩) 1 c ∧ w'.cell? ⟨gr, 0, none⟩ = some (.slice (some ⟨g, 0, none⟩) 2 2) ∧ IBlk w' g [2, 3] := by
  have hr := ex_rows h.ech h.red h.gen
  have hg := h.grid
  rw [hr] at hg
  obtain ⟨gs, h1, h2, -, h3⟩ := hg.ex
  match gs, h1 with
  | [g], _ =>
    obtain ⟨hf, _, hI⟩ := h3 0 (by simp)
    rcases h2.2 with ⟨-, h0⟩ | ⟨gr, cap, cur, rfl, _⟩
    · simp at h0
    · have hI2 : IBlk w' g (intsTo (nth [2, 3]) 2 2) := hI
      rw [show intsTo (nth [2, 3]) 2 2 = [2, 3] by
        show [wrap64 (nth [2, 3] 0), wrap64 (nth [2, 3] 1)] = [2, 3]
        rw [wrap64_small (by decide), wrap64_small (by decide)]; rfl] at hI2
      refine ⟨gr, cap, g, rfl, ?_, hI2⟩
      rw [h2.cellAt 0 (by simp)]; rfl
set_option maxRecDepth 100000 in
set_option maxHeartbeats 4000000 in
theorem alive_calls (w : World) (hc : TabOk 0 costsO w) :
    Calls Tryz.prog 15 #[] w fun e w' => e = .returned (.bool true) ∧ Below w.heap.size w w' := by
  obtain ⟨g0, hg0⟩ : ∃ g0, w.heap.size = g0 := ⟨_, rfl⟩
  obtain ⟨wa, hwa⟩ : ∃ wa, w.alloc (.cells #[.int .i64 4, .int .i64 6] 3 (0, 0)) = wa := ⟨_, rfl⟩
  obtain ⟨wb, hwb⟩ : ∃ wb, wa.alloc (.cells #[.int .i64 6, .int .i64 9] 3 (0, 0)) = wb := ⟨_, rfl⟩
  obtain ⟨wc, hwc⟩ : ∃ wc, wb.alloc (.cells #[.slice (some ⟨g0, 0, none⟩) 2 2, .slice (some ⟨g0 + 1, 0, none⟩) 2 2] 23 (0, 0)) = wc := ⟨_, rfl⟩
  have sa : wa.heap.size = g0 + 1 := by rw [← hwa]; simp [hg0]
  have sb : wb.heap.size = g0 + 1 + 1 := by rw [← hwb]; simp [sa]
  have ba : Blk wa g0 [.int .i64 4, .int .i64 6] 3 := by rw [← hwa, ← hg0]; exact Blk.new _ _ _
  have bb : Blk wb (g0 + 1) [.int .i64 6, .int .i64 9] 3 := by rw [← hwb, ← sa]; exact Blk.new _ _ _
  have bc : Blk wc (g0 + 1 + 1) [.slice (some ⟨g0, 0, none⟩) 2 2, .slice (some ⟨g0 + 1, 0, none⟩) 2 2] 23 := by rw [← hwc, ← sb]; exact Blk.new _ _ _
  have eb : Below wa.heap.size wa wb := by rw [← hwb]; exact (Below.refl _ _).alloc (Nat.le_refl _) _
  have ec : Below wb.heap.size wb wc := by rw [← hwc]; exact (Below.refl _ _).alloc (Nat.le_refl _) _
  have ea : Below w.heap.size w wa := by rw [← hwa]; exact (Below.refl _ _).alloc (Nat.le_refl _) _
  have e3 : Below w.heap.size w wc := (ea.trans (eb.mono (by omega))).trans (ec.mono (by omega))
  have hgr := grid2 bc ((ba.ext eb).ext ec) (bb.ext ec)
  have hh : Calls Tryz.prog 31 #[.slice (some ⟨g0 + 1 + 1, 0, none⟩) 2 2, .int .i64 2] wc fun e w' => ∃ v rows, e = .returned (.tuple #[v, .int .i64 0]) ∧ HermiteV wc w' v [[4, 6], [6, 9]] 2 rows := hermite_good _ 2 2 [[4, 6], [6, 9]] wc hgr (by decide)
  have HH := Lib.hid hh; have HE3 := Lib.hid e3; have HC := Lib.hid hc
  clear hh hgr ba bb bc eb ec ea e3 hc
  have HW := Lib.hid (And.intro hwa (And.intro hwb hwc)); have HS := Lib.hid (And.intro sa sb)
  have HG := Lib.hid hg0
  clear hwa hwb hwc sa sb hg0
  go_enter Tryz.func15, Tryz.ntmps15
  go_wp2_with fail
  rw [HG.out, HW.out.1, HW.out.2.1, HW.out.2.2]
  refine HH.out.mono ?_; rintro e w1 ⟨v, rows, rfl, hv⟩
  obtain ⟨gr, cr, g, rfl, hgc, hgi⟩ := ex_hermite hv
  have HB1 := Lib.hid (HE3.out.trans (hv.below.mono HE3.out.size)); have HGC := Lib.hid hgc; have HGI := Lib.hid hgi
  clear hv hgc hgi HH HW HS HG
  obtain ⟨k0, hk0⟩ : ∃ k0, w1.heap.size = k0 := ⟨_, rfl⟩
  obtain ⟨va, hva⟩ : ∃ va, w1.alloc (.cells #[.int .i64 1, .int .i64 2] 3 (0, 0)) = va := ⟨_, rfl⟩
  obtain ⟨vb, hvb⟩ : ∃ vb, va.alloc (.cells #[.int .i64 3, .int .i64 1] 3 (0, 0)) = vb := ⟨_, rfl⟩
  obtain ⟨vc, hvc⟩ : ∃ vc, vb.alloc (.cells #[.slice (some ⟨k0, 0, none⟩) 2 2, .slice (some ⟨k0 + 1, 0, none⟩) 2 2] 23 (0, 0)) = vc := ⟨_, rfl⟩
  obtain ⟨vd, hvd⟩ : ∃ vd, vc.alloc (.cells #[.int .i64 4, .int .i64 6] 3 (0, 0)) = vd := ⟨_, rfl⟩
  obtain ⟨ve, hve⟩ : ∃ ve, vd.alloc (.cells #[.int .i64 1, .int .i64 1] 3 (0, 0)) = ve := ⟨_, rfl⟩
  have sa : va.heap.size = k0 + 1 := by rw [← hva]; simp [hk0]
  have sb : vb.heap.size = k0 + 1 + 1 := by rw [← hvb]; simp [sa]
  have sc : vc.heap.size = k0 + 1 + 1 + 1 := by rw [← hvc]; simp [sb]
  have sd : vd.heap.size = k0 + 1 + 1 + 1 + 1 := by rw [← hvd]; simp [sc]
  have ba : Blk va k0 [.int .i64 1, .int .i64 2] 3 := by rw [← hva, ← hk0]; exact Blk.new _ _ _
  have bb : Blk vb (k0 + 1) [.int .i64 3, .int .i64 1] 3 := by rw [← hvb, ← sa]; exact Blk.new _ _ _
  have bc : Blk vc (k0 + 1 + 1) [.slice (some ⟨k0, 0, none⟩) 2 2, .slice (some ⟨k0 + 1, 0, none⟩) 2 2] 23 := by rw [← hvc, ← sb]; exact Blk.new _ _ _
  have bd : Blk vd (k0 + 1 + 1 + 1) [.int .i64 4, .int .i64 6] 3 := by rw [← hvd, ← sc]; exact Blk.new _ _ _
  have be : Blk ve (k0 + 1 + 1 + 1 + 1) [.int .i64 1, .int .i64 1] 3 := by rw [← hve, ← sd]; exact Blk.new _ _ _
  have ea : Below w1.heap.size w1 va := by rw [← hva]; exact (Below.refl _ _).alloc (Nat.le_refl _) _
  have eb : Below va.heap.size va vb := by rw [← hvb]; exact (Below.refl _ _).alloc (Nat.le_refl _) _
  have ec : Below vb.heap.size vb vc := by rw [← hvc]; exact (Below.refl _ _).alloc (Nat.le_refl _) _
  have ed : Below vc.heap.size vc vd := by rw [← hvd]; exact (Below.refl _ _).alloc (Nat.le_refl _) _
  have ee : Below vd.heap.size vd ve := by rw [← hve]; exact (Below.refl _ _).alloc (Nat.le_refl _) _
  have e15 : Below w1.heap.size w1 ve := (((ea.trans (eb.mono (by omega))).trans (ec.mono (by omega))).trans (ed.mono (by omega))).trans (ee.mono (by omega))
  have hgr := grid2 ((bc.ext ed).ext ee) ((((ba.ext eb).ext ec).ext ed).ext ee) (((bb.ext ec).ext ed).ext ee)
  have hp3 : Prog3 ve (some ⟨k0 + 1 + 1, 0, none⟩) (some ⟨k0 + 1 + 1 + 1, 0, none⟩) (some ⟨k0 + 1 + 1 + 1 + 1, 0, none⟩) exA [4, 6] [1, 1] := ⟨hgr, ints2 (bd.ext ee), ints2 be, by decide, by decide, by decide, by decide⟩
  have hmin : Calls Tryz.prog 16 #[.agg #[.slice (some ⟨k0 + 1 + 1, 0, none⟩) 2 2, .slice (some ⟨k0 + 1 + 1 + 1, 0, none⟩) 2 2, .slice (some ⟨k0 + 1 + 1 + 1 + 1, 0, none⟩) 2 2]] ve fun e w' => OfPost exA [4, 6] [1, 1] 0 costsO true ve w' e ∧ Below ve.heap.size ve w' :=
    minimum_calls _ _ _ 2 2 2 exA [4, 6] [1, 1] ve hp3 (HC.out.ext (HB1.out.trans (e15.mono HB1.out.size)))
  have HM := Lib.hid hmin
  have HB2 := Lib.hid (HB1.out.trans (e15.mono HB1.out.size)); have HGC2 := Lib.hid (((bcell e15).1 _ _ (cell_lt HGC.out)).trans HGC.out); have HGI2 := Lib.hid (Blk.ext HGI.out e15)
  clear hp3 hmin hgr ba bb bc bd be ea eb ec ed ee e15 sa sb sc sd HB1 HGC HGI HE3 HC
  have HV := Lib.hid (And.intro hva (And.intro hvb (And.intro hvc (And.intro hvd hve)))); have HK := Lib.hid hk0
  clear hva hvb hvc hvd hve hk0
  go_wp2_with fail
  rw [HK.out, HV.out.1, HV.out.2.1, HV.out.2.2.1, HV.out.2.2.2.1, HV.out.2.2.2.2]
  refine HM.out.mono ?_; rintro e w2 ⟨hpost, hb2⟩
  obtain ⟨pg, rfl, hpi⟩ : ∃ pg, e = .returned (.tuple #[.agg #[.slice (some ⟨pg, 0, none⟩) 2 2, .int .i64 5], .int .i64 0]) ∧ IBlk w2 pg [8, 6] := by
    rcases hpost with ⟨h1, -⟩ | ⟨-, s, x, y, hs3, hq, h5⟩
    · exact absurd h1 (by decide)
    · have hs0 : s = 0 ∧ EndFound (qA exA) (qB [4, 6]) (qB [1, 1]) 2 2 x y := by
        rcases hq with ⟨e, h, -⟩ | ⟨-, h, -⟩ | ⟨-, h, -⟩
        · exact ⟨e, h⟩
        · exact (ex_empty h).elim
        · exact (ex_free h).elim
      obtain ⟨rfl, hf⟩ := hs0
      obtain ⟨x0, x1⟩ := ex_found hf
      rcases h5 with ⟨h5, -⟩ | ⟨-, pg, xs, d, h6, -, h8, h9⟩
      · exact absurd rfl h5
      · obtain ⟨rfl, rfl⟩ := ex_point h9 x0 x1
        exact ⟨pg, h6, h8⟩
  have HB3 := Lib.hid (HB2.out.trans (hb2.mono HB2.out.size)); have HGC3 := Lib.hid (((bcell hb2).1 _ _ (cell_lt HGC2.out)).trans HGC2.out); have HGI3 := Lib.hid (Blk.ext HGI2.out hb2); have HPI := Lib.hid hpi
  clear hpost hb2 hpi HM HV HK HB2 HGC2 HGI2
  have HGG := Lib.hid (IBlk.ints (show IBlk w2 g [2, 3] from HGI3.out)); have HPP := Lib.hid (HPI.out.ints)
  have hgc := HGC3.out
  have hA1 : Below w2.heap.size w2 (w2.alloc (.cells #[.slice (some ⟨pg, 0, none⟩) 2 2, .int .i64 5] 29 (0, 0))) := (Below.refl _ _).alloc (Nat.le_refl _) _
  obtain ⟨w3, hw3⟩ : ∃ w3, w2.alloc (.cells #[.slice (some ⟨pg, 0, none⟩) 2 2, .int .i64 5] 29 (0, 0)) = w3 := ⟨_, rfl⟩
  rw [hw3] at hA1
  have bp : Blk w3 w2.heap.size [.slice (some ⟨pg, 0, none⟩) 2 2, .int .i64 5] 29 := by rw [← hw3]; exact Blk.new _ _ _
  obtain ⟨w4, hw4⟩ : ∃ w4, w3.alloc (.cells #[.int .i64 2, .int .i64 3] 3 (0, 0)) = w4 := ⟨_, rfl⟩
  have hA2 : Below w3.heap.size w3 w4 := by rw [← hw4]; exact (Below.refl _ _).alloc (Nat.le_refl _) _
  have b23 : Blk w4 w3.heap.size [.int .i64 2, .int .i64 3] 3 := by rw [← hw4]; exact Blk.new _ _ _
  have hsame : Calls Tryz.prog 36 #[.slice (some ⟨g, 0, none⟩) 2 2, .slice (some ⟨w3.heap.size, 0, none⟩) 2 2] w4 fun e w' => e = .returned (.bool (sameB [2, 3] [2, 3])) ∧ ∃ k, w' = w4.drewN k := same_calls _ _ 2 2 [2, 3] [2, 3] w4 (by decide) (by decide) ((HGG.out.ext hA1).ext hA2) (ints2 b23)
  rw [show sameB [2, 3] [2, 3] = true by decide] at hsame
  have HS1 := Lib.hid hsame
  have hgc3 := ((bcell hA1).1 _ _ (cell_lt hgc)).trans hgc
  have HW3 := Lib.hid hw3; have HW4 := Lib.hid hw4; have HA1 := Lib.hid hA1; have HA2 := Lib.hid hA2; have HBP := Lib.hid bp
  rw [← hw3] at hgc3
  clear hgc hA1 hA2 bp b23 hsame hw3 hw4
  have hsz3 : w2.heap.size + 1 = w3.heap.size := by rw [← HW3.out]; simp
  go_wp2_with fail
  rw [HW3.out, HW4.out]
  refine HS1.out.mono ?_; rintro e w5 ⟨rfl, kd, hw5⟩
  have e45 : Below w4.heap.size w4 w5 := by rw [hw5]; exact drewN_below _ _
  have bp5 := (HBP.out.ext HA2.out).ext e45
  obtain ⟨pp, hpp⟩ : ∃ pp, w2.heap.size = pp := ⟨_, rfl⟩
  rw [hpp] at bp5 ⊢
  have c0 := bp5.cell 0 (by simp)
  have c1 := bp5.cell 1 (by simp)
  simp only [List.getElem_cons_zero, List.getElem_cons_succ] at c0 c1
  have e25 : Below w2.heap.size w2 w5 := (HA1.out.trans (HA2.out.mono HA1.out.size)).trans (e45.mono (by have := HA1.out.size; have := HA2.out.size; omega))
  obtain ⟨w6, hw6⟩ : ∃ w6, w5.alloc (.cells #[.int .i64 8, .int .i64 6] 3 (0, 0)) = w6 := ⟨_, rfl⟩
  have hA6 : Below w5.heap.size w5 w6 := by rw [← hw6]; exact (Below.refl _ _).alloc (Nat.le_refl _) _
  have b86 : Blk w6 w5.heap.size [.int .i64 8, .int .i64 6] 3 := by rw [← hw6]; exact Blk.new _ _ _
  have hsame : Calls Tryz.prog 36 #[.slice (some ⟨pg, 0, none⟩) 2 2, .slice (some ⟨w5.heap.size, 0, none⟩) 2 2] w6 fun e w' => e = .returned (.bool (sameB [8, 6] [8, 6])) ∧ ∃ k, w' = w6.drewN k := same_calls _ _ 2 2 [8, 6] [8, 6] w6 (by decide) (by decide) ((HPP.out.ext e25).ext hA6) (ints2 b86)
  rw [show sameB [8, 6] [8, 6] = true by decide] at hsame
  have HS2 := Lib.hid hsame
  have HB6 := Lib.hid ((HB3.out.trans (e25.mono HB3.out.size)).trans (hA6.mono (by have := HB3.out.size; have := e25.size; omega)))
  have HW6 := Lib.hid hw6
  clear hw5 e45 bp5 hpp e25 hA6 b86 hsame hgc3 hsz3 HS1 hw6
  go_wp2_with fail
  rw [HW6.out]
  refine HS2.out.mono ?_; rintro e w7 ⟨rfl, kd2, hw7⟩
  have HB7 : Hid (Below w.heap.size w w7) := Lib.hid (by rw [hw7]; exact HB6.out.trans ((drewN_below w6 kd2).mono HB6.out.size))
  clear hw7 c0 c1
  go_wp2
  go_ret
  exact ⟨rfl, HB7.out⟩
end Go.Proofs.YtkljafmdbajfeaaGreatDoor

/- linear.Feasible: what it answers. -/
namespace Go.Proofs.YtkljafmdbajfeaaGreatDoor
open Go.RowKit
set_option linter.unusedVariables false
set_option linter.unusedSimpArgs false
def nnB (xs : List Int) : Bool := xs.all fun x => decide (0 ≤ x)
theorem nnB_any (xs : List Int) : (xs.any fun x => decide (x < 0)) = !nnB xs := by
  unfold nnB
  induction xs with
  | nil => rfl
  | cons x xs ih =>
    rw [List.any_cons, List.all_cons, ih]
    by_cases h : x < 0
    · rw [decide_eq_true h, decide_eq_false (show ¬ 0 ≤ x by omega)]; rfl
    · rw [decide_eq_false h, decide_eq_true (show 0 ≤ x by omega)]; simp
def feasS (a : List (List Int)) (b c xs : List Int) (d : Int) : Bool := progOk a b c && pointOk c.length xs d && nnB xs && (List.range a.length).all fun i => decide (nth b i * d ≤ dotZ (nrow a i) xs)
theorem all_range_true {n : Nat} {p : Nat → Bool} (h : ∀ i, i < n → p i = true) : (List.range n).all p = true := List.all_eq_true.2 fun i hi => h i (List.mem_range.1 hi)
theorem all_range_false {n i : Nat} {p : Nat → Bool} (hi : i < n) (h : p i = false) : (List.range n).all p = false := by
  cases e : (List.range n).all p with
  | false => rfl
  | true => have := List.all_eq_true.1 e i (List.mem_range.2 hi); rw [h] at this; cases this
theorem negative_calls (x : Int) (w : World) : Calls Tryz.prog 99 #[.int .i64 x] w fun e w' => e = .returned (.bool (decide (x < 0))) ∧ w' = w := by
  go_enter Tryz.func99, Tryz.ntmps99
  go_wp2
  go_ret
  exact ⟨rfl, rfl⟩
theorem negative_tells (w : World) (xs : List Int) : Tells 99 #[] (fun x => decide (x < 0)) w xs :=
  ⟨fun _ _ => by kernel_rfl, fun x _ w1 hb => (negative_calls x w1).mono fun e w2 ⟨he, hw⟩ => ⟨he, by rw [hw]; exact Below.refl _ _⟩⟩
theorem point_small {a : List (List Int)} {b c xs : List Int} {d : Int} (h1 : progOk a b c = true) (h2 : pointOk c.length xs d = true) {i : Nat} (hi : i < a.length) : Small (nrow a i) xs ∧ (nrow a i).length ≤ xs.length ∧ (nrow a i).length = c.length := by
  obtain ⟨⟨k1, k2⟩, k3, k4, k5, k6, k7⟩ := progOk_parts h1
  obtain ⟨p1, p2, p3, p4⟩ := pointOk_parts h2
  obtain ⟨r1, r2⟩ := k4 _ (nrow_mem hi)
  exact ⟨small_of r2 p4 (by omega) (by omega) (n := 6) (by omega) (by omega) (by omega), by omega, r1⟩
set_option maxRecDepth 100000 in
set_option maxHeartbeats 4000000 in
theorem feasibleL_calls (A B C X : Option Addr) (ca cb cc cx : Nat) (a : List (List Int)) (b c xs : List Int) (d : Int) (w : World) (h : Prog3 w A B C a b c) (hX : Ints w X xs) (hm : xs.length ≤ maxLen) :
    Calls Tryz.prog 40 #[.agg #[.slice A a.length ca, .slice B b.length cb, .slice C c.length cc], .agg #[.slice X xs.length cx, .int .i64 d]] w fun e w' => e = .returned (.bool (feasS a b c xs d)) ∧ Below w.heap.size w w' := by
  obtain ⟨wa, hwa⟩ : ∃ wa, w.alloc (.cells #[.slice A a.length ca, .slice B b.length cb, .slice C c.length cc] 25 (0, 0)) = wa := ⟨_, rfl⟩
  obtain ⟨wb, hwb⟩ : ∃ wb, wa.alloc (.cells #[.slice X xs.length cx, .int .i64 d] 29 (0, 0)) = wb := ⟨_, rfl⟩
  have hlc := h.lc
  have sa : wa.heap.size = w.heap.size + 1 := by rw [← hwa]; simp
  have ba : Blk wa w.heap.size [.slice A a.length ca, .slice B b.length cb, .slice C c.length cc] 25 := by rw [← hwa]; exact Blk.new _ _ _
  have bb : Blk wb (w.heap.size + 1) [.slice X xs.length cx, .int .i64 d] 29 := by rw [← hwb, ← sa]; exact Blk.new _ _ _
  have ea : Below w.heap.size w wa := by rw [← hwa]; exact (Below.refl _ _).alloc (Nat.le_refl _) _
  have eb : Below wa.heap.size wa wb := by rw [← hwb]; exact (Below.refl _ _).alloc (Nat.le_refl _) _
  have e2 : Below w.heap.size w wb := ea.trans (eb.mono (by omega))
  have HBA := Lib.hid (ba.ext eb); have HBB := Lib.hid bb; have HE2 := Lib.hid e2
  have HP := Lib.hid h; have HX := Lib.hid hX
  have HV := Lib.hid (valid_calls A B C ca cb cc a b c wb (h.ext e2))
  have p0 := (ba.ext eb).cell 0 (by simp)
  have p1 := (ba.ext eb).cell 1 (by simp)
  have p2 := (ba.ext eb).cell 2 (by simp)
  simp only [List.getElem_cons_zero, List.getElem_cons_succ] at p0 p1 p2
  rw [← hwb, ← hwa] at p0 p1 p2
  have HWA := Lib.hid hwa; have HWB := Lib.hid hwb
  clear ba bb ea eb e2 h hX sa hwa hwb
  go_enter Tryz.func40, Tryz.ntmps40
  go_wp2_with fail
  rw [HWA.out, HWB.out]
  clear p0 p1 p2
  obtain ⟨bp, hbp⟩ : ∃ bp, w.heap.size = bp := ⟨_, rfl⟩
  obtain ⟨xp, hxp⟩ : ∃ xp, w.heap.size + 1 = xp := ⟨_, rfl⟩
  rw [hbp] at HBA
  rw [hxp] at HBB
  rw [hxp, hbp]
  have HBP := Lib.hid hbp
  clear hbp hxp
  refine HV.out.mono ?_; rintro e w1 ⟨rfl, hb1⟩
  have HB1 := Lib.hid (HE2.out.trans (hb1.mono HE2.out.size)); have HBA1 := Lib.hid (HBA.out.ext hb1); have HBB1 := Lib.hid (HBB.out.ext hb1)
  clear hb1 HV HBA HBB HE2
  cases hv : progOk a b c with
  | false =>
    have HVV := Lib.hid hv
    clear hv
    go_wp2
    go_ret
    exact ⟨by unfold feasS; rw [HVV.out]; rfl, HB1.out⟩
  | true =>
    have HVV := Lib.hid hv
    clear hv
    have k0 := HBA1.out.cell 0 (by simp)
    have k2 := HBA1.out.cell 2 (by simp)
    have x0 := HBB1.out.cell 0 (by simp)
    have x1 := HBB1.out.cell 1 (by simp)
    simp only [List.getElem_cons_zero, List.getElem_cons_succ] at k0 k2 x0 x1
    have HPR := Lib.hid (proper_calls X cx xs d c.length w1 hm hlc (HX.out.ext HB1.out))
    go_wp2_with fail
    refine HPR.out.mono ?_; rintro e w2 ⟨rfl, hb2⟩
    have HB2 := Lib.hid (HB1.out.trans (hb2.mono HB1.out.size)); have HBA2 := Lib.hid (HBA1.out.ext hb2); have HBB2 := Lib.hid (HBB1.out.ext hb2)
    clear hb2 HPR HBA1 HBB1 HB1 k0 k2 x0 x1
    cases hp : pointOk c.length xs d with
    | false =>
      have HPP := Lib.hid hp
      clear hp
      go_wp2
      go_ret
      exact ⟨by unfold feasS; rw [HVV.out, HPP.out]; rfl, HB2.out⟩
    | true =>
      have HPP := Lib.hid hp
      clear hp
      have k0 := HBA2.out.cell 0 (by simp)
      have x0 := HBB2.out.cell 0 (by simp)
      simp only [List.getElem_cons_zero] at k0 x0
      have hcf := containsFunc_int 99 #[] (fun x => decide (x < 0)) X cx xs w2 hm (HX.out.ext HB2.out) (negative_tells w2 xs)
      have HCF := Lib.hid hcf
      clear hcf
      go_wp2_with fail
      refine HCF.out.mono ?_; rintro e w3 ⟨rfl, hb3⟩
      rw [nnB_any]
      have HB3 := Lib.hid (HB2.out.trans (hb3.mono HB2.out.size)); have HBA3 := Lib.hid (HBA2.out.ext hb3); have HBB3 := Lib.hid (HBB2.out.ext hb3)
      clear hb3 HCF HBA2 HBB2 HB2 k0 x0
      cases hn : nnB xs with
      | false =>
        have HNN := Lib.hid hn
        clear hn
        go_wp2
        go_ret
        exact ⟨by unfold feasS; rw [HVV.out, HPP.out, HNN.out]; rfl, HB3.out⟩
      | true =>
        have HNN := Lib.hid hn
        clear hn
        have k0 := HBA3.out.cell 0 (by simp)
        simp only [List.getElem_cons_zero] at k0
        obtain ⟨⟨q1, q2⟩, q3, q4, q5, q6, q7⟩ := progOk_parts HVV.out
        obtain ⟨p1, p2, p3, p4⟩ := pointOk_parts HPP.out
        have H5 := Lib.hid q5; have H6 := Lib.hid q6; have H1 := Lib.hid p1
        clear q4 q5 q6 q7 p1 p4
        go_wp2_with fail
        go_loopw [26] (fun ti wr => ∃ (i : Nat), i ≤ a.length ∧ ti = .int .i64 i ∧ Hid (∀ k, k < i → nth b k * d ≤ dotZ (nrow a k) xs) ∧ Hid (Below w3.heap.size w3 wr)) (fun ti _ => a.length - (intOf ti).toNat)
        case atStart => exact ⟨0, Nat.zero_le _, rfl, Lib.hid (fun k hk => by omega), Lib.hid (Below.refl _ _)⟩
        case round =>
          obtain ⟨i, hi, rfl, hD, hbe⟩ := hrel
          clear k0
          by_cases hlt : i < a.length
          · have hi1 : (i : Int) < a.length := by omega
            have hbw := HB3.out.trans (hbe.out.mono HB3.out.size)
            have hP := HP.out.ext hbw
            obtain ⟨bb, o, R, cR, rfl, hc, hcR, hints⟩ := hP.ga i hlt
            obtain ⟨bb2, o2, rfl, hcb⟩ := hP.gb i (by have := H5.out; omega)
            have k1 := (HBA3.out.ext hbe.out).cell 1 (by simp)
            have x0 := (HBB3.out.ext hbe.out).cell 0 (by simp)
            have x1 := (HBB3.out.ext hbe.out).cell 1 (by simp)
            simp only [List.getElem_cons_zero, List.getElem_cons_succ] at k1 x0 x1
            obtain ⟨hs, hl, -⟩ := point_small HVV.out HPP.out hlt
            have HDT := Lib.hid (fun W (hW : Below wr.heap.size wr W) => linDot_calls R X cR cx (nrow a i) xs W hl (by omega) (hints.ext hW) ((HX.out.ext hbw).ext hW) hs)
            have hbl : (i : Int) < b.length := by have := H5.out; omega
            have hbd : -4611686018427387904 ≤ nth b i * d ∧ nth b i * d ≤ 4611686018427387904 := by
              have h1 := listOk_nth H6.out (i := i) (by have := H5.out; omega)
              have h2 := mul_bd (a := 1000) (b := 1125899906842624) (x := nth b i) (y := d) (by omega) h1 (by omega)
              omega
            obtain ⟨bi, hbi⟩ : ∃ bi, nth b i = bi := ⟨_, rfl⟩
            rw [hbi] at hbd hcb
            obtain ⟨bd, hbdd⟩ : ∃ bd, bi * d = bd := ⟨_, rfl⟩
            have wq1 : IntKind.i64.wrap (bi * d) = bd := by rw [IntKind.wrap_i64, ← hbdd]; omega
            have HBI := Lib.hid hbi; have HBD := Lib.hid hbdd
            clear hbi hbdd
            have HBW := Lib.hid hbw
            clear hP hcR hints hs hbw hbd
            go_wp2_with fail
            refine wp_region_keys (w0 := wr) 12 [31, 32, 33, 34, 35, 36, 37, 38, 39, 40, 41, 42]
              [leafS 31 (.slice R (nrow a i).length cR), leafS 32 (.pointer (some ⟨xp, 0, none⟩)), leafS 33 (.slice X xs.length cx), leafS 34 (.int .i64 (dotZ (nrow a i) xs)), leafS 35 (.pointer (some ⟨bp, 1, none⟩)), leafS 36 (.slice (some ⟨bb2, o2, none⟩) b.length cb), leafS 37 (.int .i64 i), leafS 38 (.pointer (some ⟨bb2, o2 + i, none⟩)), leafS 39 (.int .i64 bi), leafS 40 (.pointer (some ⟨xp, 1, none⟩)), leafS 41 (.int .i64 d), leafS 42 (.int .i64 bd)]
              [] [none, none, none, none, none, none, none, none, none, none, none, none] (fun _ _ => False) (by kernel_rfl) (by kernel_rfl) (by kernel_rfl) rfl (F := ?cFr6) ?r6c1 ?r6c2 ?r6c3 ?r6c4
            case r6c1 =>
              intro x
              simp only [fullF, Act.put, List.setIfInBounds_toArray, List.set_cons_zero, List.set_cons_succ]
              rfl
            case r6c2 =>
              exact ⟨keeps_const _ _ _ _ _ _ _, keeps_const _ _ _ _ _ _ _, keeps_const _ _ _ _ _ _ _, keeps_const _ _ _ _ _ _ _, keeps_const _ _ _ _ _ _ _, keeps_const _ _ _ _ _ _ _, keeps_const _ _ _ _ _ _ _, keeps_const _ _ _ _ _ _ _, keeps_const _ _ _ _ _ _ _, keeps_const _ _ _ _ _ _ _, keeps_const _ _ _ _ _ _ _, keeps_const _ _ _ _ _ _ _, trivial⟩
            case r6c3 =>
              refine ⟨?_, ?_, ?_, ?_, ?_, ?_, ?_, ?_, ?_, ?_, ?_, ?_, trivial⟩
              all_goals
                intro xx wq HE hd K hK
                have hc := (bcell HE).1
                have k1' := (hc _ _ (cell_lt k1)).trans k1
                have x0' := (hc _ _ (cell_lt x0)).trans x0
                have x1' := (hc _ _ (cell_lt x1)).trans x1
                have hcb' := (hc _ _ (cell_lt hcb)).trans hcb
                try have e0 : xx 31 = _ := hd 0 _ (by decide) rfl
                try have e1 : xx 32 = _ := hd 1 _ (by decide) rfl
                try have e2 : xx 33 = _ := hd 2 _ (by decide) rfl
                try have e3 : xx 34 = _ := hd 3 _ (by decide) rfl
                try have e4 : xx 35 = _ := hd 4 _ (by decide) rfl
                try have e5 : xx 36 = _ := hd 5 _ (by decide) rfl
                try have e6 : xx 37 = _ := hd 6 _ (by decide) rfl
                try have e7 : xx 38 = _ := hd 7 _ (by decide) rfl
                try have e8 : xx 39 = _ := hd 8 _ (by decide) rfl
                try have e9 : xx 40 = _ := hd 9 _ (by decide) rfl
                try have e10 : xx 41 = _ := hd 10 _ (by decide) rfl
                try have e11 : xx 42 = _ := hd 11 _ (by decide) rfl
                have HE := Lib.hid HE
                have HC := Lib.hid hc
                clear hd hc
                all_goals go_simp
                try (refine hK _ _ _ (mv_const _ rfl) ?_; dsimp only [Act.put]; first | done | rfl | (simp [*]; done))
              · refine (HDT.out wq HE.out).mono ?_
                rintro e w2 ⟨rfl, kq, hkq⟩
                exact hK _ _ _ (mv_plain (by rw [hkq]; exact drewN_below _ _) rfl rfl) (by first | (dsimp only [Act.put]; done) | (dsimp only [Act.put]; first | rfl | (simp [*]; done) | (simp [*, ptr]; done)))
            case r6c4 =>
              intro xx wz hE hG hA
              have e0 : xx 31 = _ := hG 0 _ rfl
              have e1 : xx 32 = _ := hG 1 _ rfl
              have e2 : xx 33 = _ := hG 2 _ rfl
              have e3 : xx 34 = _ := hG 3 _ rfl
              have e4 : xx 35 = _ := hG 4 _ rfl
              have e5 : xx 36 = _ := hG 5 _ rfl
              have e6 : xx 37 = _ := hG 6 _ rfl
              have e7 : xx 38 = _ := hG 7 _ rfl
              have e8 : xx 39 = _ := hG 8 _ rfl
              have e9 : xx 40 = _ := hG 9 _ rfl
              have e10 : xx 41 = _ := hG 10 _ rfl
              have e11 : xx 42 = _ := hG 11 _ rfl
              have HE := Lib.hid (hbe.out.trans (hE.mono hbe.out.size))
              clear hG hA hE
              (refine tail_one (i := 12) (by kernel_rfl) rfl ?_; intro K hK; go_simp; refine hK _ _ ?_; clear hK)
              refine wpAny_done (by kernel_rfl) ?_ _
              obtain ⟨dz, hdz⟩ : ∃ dz, dotZ (nrow a i) xs = dz := ⟨_, rfl⟩
              rw [hdz]
              have HDZ := Lib.hid hdz
              clear hdz
              by_cases hlz : dz < bd
              · have hd2 : decide (dz < bd) = true := decide_eq_true hlz
                have HLZ := Lib.hid hlz
                go_wp2
                go_ret
                refine ⟨?_, HB3.out.trans (HE.out.mono HB3.out.size)⟩
                unfold feasS
                rw [all_range_false (i := i) (by omega) (decide_eq_false (by rw [HBI.out, HBD.out, HDZ.out]; have := HLZ.out; omega)), Bool.and_false]; rfl
              · have hd2 : decide (dz < bd) = false := decide_eq_false hlz
                have HN2 : Hid (∀ k, k < i + 1 → nth b k * d ≤ dotZ (nrow a k) xs) := Lib.hid (fun k hk => by
                  by_cases e : k = i
                  · subst e; rw [HBI.out, HBD.out, HDZ.out]; omega
                  · exact hD.out k (by omega))
                clear hD
                go_wp2
                go_roundw
                case rel => exact ⟨i + 1, by omega, by go_num, HN2, HE⟩
                case measure => simp [intOf]; omega
          · obtain rfl : i = a.length := by omega
            go_wp2
            go_ret
            exact ⟨by unfold feasS; rw [HVV.out, HPP.out, HNN.out, all_range_true fun i hi => decide_eq_true (hD.out i hi)]; rfl, HB3.out.trans (hbe.out.mono HB3.out.size)⟩
end Go.Proofs.YtkljafmdbajfeaaGreatDoor
