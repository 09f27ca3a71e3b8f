/- branch.Check: what it answers. -/
import Derived.Outline
import Derived.Test.YtkljafmdbajfeaaGreatDoorReA18
import Derived.Test.YtkljafmdbajfeaaGreatDoorReA46
namespace Go.Proofs.YtkljafmdbajfeaaGreatDoor
open Go.RowKit
def checkV (a : List (List Int)) (b c u : List Int) (L : List Nd) (cost : Int) (feas : Bool) : Bool × Int :=
 if wholeOk a b c u then
  if 65535 < L.length then (false, 3)
  else ((readF a b c cost (!feas) (L.length + 1) L [0, 0, 0, 0, 0] (pad u)).1 && decide ((readF a b c cost (!feas) (L.length + 1) L [0, 0, 0, 0, 0] (pad u)).2.length = 0), 0)
 else (false, 2)
theorem checkV_arg {a : List (List Int)} {b c u : List Int} {L : List Nd} {cost : Int} {feas : Bool} (h : wholeOk a b c u = false) : checkV a b c u L cost feas = (false, 2) := by
 simp only [checkV, h, Bool.false_eq_true, if_false]
theorem checkV_lim {a : List (List Int)} {b c u : List Int} {L : List Nd} {cost : Int} {feas : Bool} (h : wholeOk a b c u = true) (hl : 65535 < L.length) : checkV a b c u L cost feas = (false, 3) := by
 simp only [checkV, h, hl, if_true]
theorem checkV_read {a : List (List Int)} {b c u : List Int} {L : List Nd} {cost : Int} {feas : Bool} (h : wholeOk a b c u = true) (hl : ¬ 65535 < L.length) : checkV a b c u L cost feas = ((readF a b c cost (!feas) (L.length + 1) L [0, 0, 0, 0, 0] (pad u)).1 && decide ((readF a b c cost (!feas) (L.length + 1) L [0, 0, 0, 0, 0] (pad u)).2.length = 0), 0) := by
 simp only [checkV, h, hl, if_true, if_false]
theorem pad_ends {u : List Int} (h : upOk u = true) (h5 : u.length ≤ 5) : EndsOk (pad u) := by
 refine ⟨pad_len h5, fun x hx => ?_⟩
 unfold pad at hx
 rcases List.mem_append.1 hx with h1 | h1
 ·unfold upOk at h; rw [List.all_eq_true] at h; have := h x h1; simpa using this
 ·rw [(List.mem_replicate.1 h1).2]; omega
def CheckPost (a : List (List Int)) (b c u : List Int) (L : List Nd) (cost : Int) (feas : Bool) (w : World) (e : Ending) (w' : World) : Prop :=
 e = .returned (.tuple #[.bool (checkV a b c u L cost feas).1, .int .i64 (checkV a b c u L cost feas).2]) ∧ Below w.heap.size w w'
set_option maxRecDepth 100000 in
set_option maxHeartbeats 1000000 in
theorem check_bad (A B C U X : Option Addr) (ca cb cc cu cx : Nat) (a : List (List Int)) (b c u : List Int) (L : List Nd) (cost : Int) (feas : Bool) (w : World)
  (hw : Who w A B C U a b c u) (hok : wholeOk a b c u = false) :
  Calls Tryz.prog 105 #[.agg #[.slice A a.length ca, .slice B b.length cb, .slice C c.length cc, .slice U u.length cu], .slice X L.length cx, .bool feas, .int .i64 cost] w (CheckPost a b c u L cost feas w) := by
 have hb0 : ∀ o, Below w.heap.size w (w.alloc o) := fun o => (Below.refl _ _).alloc (Nat.le_refl _) _
 have hof : ∀ o, _ := fun o => of_calls A B C U ca cb cc cu a b c u (w.alloc o) (hw.ext (hb0 o))
 have HV := Lib.hid (checkV_arg (L := L) (cost := cost) (feas := feas) hok)
 unfold ofVal at hof
 rw [hok] at hof
 clear hok hw
 go_enter Tryz.func105, Tryz.ntmps105
 go_wp2_with fail
 refine (hof _).mono ?_; rintro e w1 ⟨rfl, hb1⟩
 have hx1 := ext_trans (hb0 _) hb1
 have hs1 := hx1.size
 have HX := Lib.hid hx1
 clear hb1 hx1 hb0 hof
 go_wp2_with fail
 go_ret2
 unfold CheckPost
 exact ⟨by rw [HV.out]; rfl, HX.out.alloc hs1 _⟩
set_option maxRecDepth 100000 in
set_option maxHeartbeats 1000000 in
theorem check_lim (A B C U X : Option Addr) (ca cb cc cu cx : Nat) (a : List (List Int)) (b c u : List Int) (L : List Nd) (cost : Int) (feas : Bool) (w : World)
  (hw : Who w A B C U a b c u) (hok : wholeOk a b c u = true) (hl : Hid (65535 < L.length)) :
  Calls Tryz.prog 105 #[.agg #[.slice A a.length ca, .slice B b.length cb, .slice C c.length cc, .slice U u.length cu], .slice X L.length cx, .bool feas, .int .i64 cost] w (CheckPost a b c u L cost feas w) := by
 have hb0 : ∀ o, Below w.heap.size w (w.alloc o) := fun o => (Below.refl _ _).alloc (Nat.le_refl _) _
 have hof : ∀ o, _ := fun o => of_calls A B C U ca cb cc cu a b c u (w.alloc o) (hw.ext (hb0 o))
 have HV := Lib.hid (checkV_lim (cost := cost) (feas := feas) hok hl.out)
 unfold ofVal at hof
 rw [hok] at hof
 clear hok hw
 have hd : Hid (decide ((65535 : Int) < L.length) = true) := Lib.hid (decide_eq_true (by have := hl.out; omega))
 go_enter Tryz.func105, Tryz.ntmps105
 go_wp2_with fail
 refine (hof _).mono ?_; rintro e w1 ⟨rfl, hb1⟩
 have hx1 := ext_trans (hb0 _) hb1
 have hs1 := hx1.size
 have HX := Lib.hid hx1
 clear hb1 hx1 hb0 hof
 have hd2 := hd.out
 go_wp2_with fail
 go_ret2
 unfold CheckPost
 exact ⟨by rw [HV.out]; rfl, HX.out.alloc hs1 _⟩
set_option maxRecDepth 100000 in
set_option maxHeartbeats 1000000 in
theorem check_read (A B C U X : Option Addr) (ca cb cc cu cx : Nat) (a : List (List Int)) (b c u : List Int) (L : List Nd) (cost : Int) (feas : Bool) (w : World)
  (hw : Who w A B C U a b c u) (hok : wholeOk a b c u = true) (hl : Hid (¬ 65535 < L.length)) (hN : Nodes w X L) (hL : L.length ≤ cx) (hcx : cx ≤ maxLen) (hcost : Hid (-9223372036854775808 ≤ cost ∧ cost ≤ 9223372036854775807)) :
  Calls Tryz.prog 105 #[.agg #[.slice A a.length ca, .slice B b.length cb, .slice C c.length cc, .slice U u.length cu], .slice X L.length cx, .bool feas, .int .i64 cost] w (CheckPost a b c u L cost feas w) := by
 have hb0 : ∀ o, Below w.heap.size w (w.alloc o) := fun o => (Below.refl _ _).alloc (Nat.le_refl _) _
 have hof : ∀ o, _ := fun o => of_calls A B C U ca cb cc cu a b c u (w.alloc o) (hw.ext (hb0 o))
 have HV := Lib.hid (checkV_read (cost := cost) (feas := feas) hok hl.out)
 obtain ⟨hul, h0, h5⟩ := wholeOk_len hok
 have HPE := Lib.hid (pad_ends (u := u) (by unfold wholeOk at hok; simp only [Bool.and_eq_true] at hok; exact hok.1.2) h5)
 have HPR : Hid (progOk a b c = true) := Lib.hid (by unfold wholeOk at hok; simp only [Bool.and_eq_true] at hok; exact hok.2)
 unfold ofVal at hof
 rw [hok] at hof
 have HW := Lib.hid hw; have HN := Lib.hid hN; have HL := Lib.hid hL; have HCX := Lib.hid hcx; have H5 := Lib.hid h5; have HUL := Lib.hid hul
 clear hok hw hN hL hcx h5 h0 hul
 have hd : Hid (decide ((65535 : Int) < L.length) = false) := Lib.hid (decide_eq_false (by have := hl.out; omega))
 go_enter Tryz.func105, Tryz.ntmps105
 go_wp2_with fail
 refine (hof _).mono ?_; rintro e w1 ⟨rfl, hb1⟩
 have hx1 := ext_trans (hb0 _) hb1
 have hs1 := hx1.size
 have HX := Lib.hid hx1
 clear hb1 hx1 hb0 hof
 have hd2 := hd.out
 go_wp2_with fail
 clear hd2
 have hx2 : ∀ o1 o2, Below w.heap.size w ((w1.alloc o1).alloc o2) := fun o1 o2 => (HX.out.alloc hs1 _).alloc (by simp; omega) _
 refine (whole_calls A B C U ca cb cc cu c.length a b c u _ (HW.out.ext (hx2 _ _)) H5.out).mono ?_
 rintro e w3 ⟨⟨h0, h1, h2, h3, h4, hp, rfl⟩, hb3⟩
 have R0 : Reader w3 (w1.heap.size + 1) A B C U ca cb cc cu a b c u cost (!feas) (.slice X L.length cx) := Blk.ext (Blk.new' _ [.slice A a.length ca, .slice B b.length cb, .slice C c.length cc, .slice U u.length cu, .int .i64 c.length, .int .i64 cost, .bool (!feas), .slice .none 0 0, .slice X L.length cx] _ _ (by simp)) hb3
 have hx3 := ext_trans (hx2 _ _) hb3
 have hs3 := hx3.size
 have hpe := HPE.out
 rw [hp] at hpe
 have hrd := read_calls (w1.heap.size + 1) A B C U ca cb cc cu a b c u cost (!feas) w HW.out HPR.out (by rw [← HUL.out]; exact H5.out) hcost.out (by omega) (L.length + 1) L 0 0 0 0 0 h0 h1 h2 h3 h4 X cx w3 (Nat.lt_succ_self _) HL.out HCX.out R0 HN.out hx3 ⟨rfl, fun x hx => by simp at hx; omega⟩ hpe
 rw [← hp] at hrd
 have HV2 := HV.out
 obtain ⟨F, hF⟩ : ∃ F, readF a b c cost (!feas) (L.length + 1) L [0, 0, 0, 0, 0] (pad u) = F := ⟨_, rfl⟩
 rw [hF] at hrd HV2
 have HV3 := Lib.hid HV2
 clear HV2 HV hF hpe
 have HB3 := Lib.hid hb3; have HX3 := Lib.hid hx3; have HP := Lib.hid hp
 clear hb3 hx3 hp hx2 R0
 go_wp2_with fail
 refine hrd.mono ?_
 obtain ⟨b1, L1⟩ := F
 rintro e w4 ⟨rfl, X1, cx1, hR, hc1, hm1, hN1, hbut⟩
 dsimp only at hR hc1
 have hs4 := hbut.size
 have hr8 : w4.cell? ⟨w1.heap.size + 1, 8, .none⟩ = some (.slice X1 L1.length cx1) := Blk.cell hR 8 (by simp)
 have hx4 : Hid (Below w.heap.size w w4) := Lib.hid (HX3.out.trans (hbut.below (by omega) hs3))
 have hm1' := hm1
 unfold maxLen at hm1'
 clear hrd hR hN1 hbut hm1
 cases b1
 ·go_wp2_with fail
  go_ret2
  unfold CheckPost
  exact ⟨by rw [HV3.out]; rfl, hx4.out⟩
 ·cases L1 with
  | nil =>
    go_wp2_with fail
    go_ret2
    unfold CheckPost
    exact ⟨by rw [HV3.out]; rfl, hx4.out⟩
  | cons n L1 =>
    rw [show ((n :: L1).length : Nat) = L1.length + 1 from rfl] at hr8 hc1
    have hz : ((L1.length : Int) + 1 == 0) = false := by simp; omega
    go_wp2_with fail
    go_ret2
    unfold CheckPost
    exact ⟨by rw [HV3.out]; rfl, hx4.out⟩
theorem check_calls (A B C U X : Option Addr) (ca cb cc cu cx : Nat) (a : List (List Int)) (b c u : List Int) (L : List Nd) (cost : Int) (feas : Bool) (w : World)
  (hw : Who w A B C U a b c u) (hN : Nodes w X L) (hL : L.length ≤ cx) (hcx : cx ≤ maxLen) (hcost : -9223372036854775808 ≤ cost ∧ cost ≤ 9223372036854775807) :
  Calls Tryz.prog 105 #[.agg #[.slice A a.length ca, .slice B b.length cb, .slice C c.length cc, .slice U u.length cu], .slice X L.length cx, .bool feas, .int .i64 cost] w (CheckPost a b c u L cost feas w) := by
 cases hok : wholeOk a b c u
 ·exact check_bad A B C U X ca cb cc cu cx a b c u L cost feas w hw hok
 ·by_cases hl : 65535 < L.length
  ·exact check_lim A B C U X ca cb cc cu cx a b c u L cost feas w hw hok (Lib.hid hl)
  ·exact check_read A B C U X ca cb cc cu cx a b c u L cost feas w hw hok (Lib.hid hl) hN hL hcx (Lib.hid hcost)
end Go.Proofs.YtkljafmdbajfeaaGreatDoor

/- alive: the closed example. -/
namespace Go.Proofs.YtkljafmdbajfeaaGreatDoor
open Go.RowKit
theorem alive_ok : wholeOk [[2, 1]] [3] [3, 2] [3, 3] = true := by kernel_rfl
theorem alive_best : bestL [3, 2] (feasL [[2, 1]] [3] [3, 3]) = some [1, 1] := by kernel_rfl
theorem alive_dot : dotZ [3, 2] [1, 1] = 5 := by kernel_rfl
set_option maxRecDepth 100000 in
theorem alive_check : checkV [[2, 1]] [3] [3, 2] [3, 3] [⟨-1, 0, [3], 2⟩] 5 true = (true, 0) := by kernel_rfl
def aliveW (w : World) : World :=
 ((((((w.alloc (Obj.cells #[Value.int IntKind.i64 2, Value.int IntKind.i64 1] 3 (0, 0))).alloc (Obj.cells #[Value.slice (some { block := w.heap.size, off := 0 }) 2 2] 23 (0, 0))).alloc (Obj.cells #[Value.int IntKind.i64 3] 3 (0, 0))).alloc (Obj.cells #[Value.int IntKind.i64 3, Value.int IntKind.i64 2] 3 (0, 0))).alloc
   (Obj.cells #[Value.int IntKind.i64 3, Value.int IntKind.i64 3] 3 (0, 0))).alloc
   (Obj.cells #[Value.slice (some { block := w.heap.size + 1, off := 0 }) 1 1, Value.slice (some { block := w.heap.size + 1 + 1, off := 0 }) 1 1, Value.slice (some { block := w.heap.size + 1 + 1 + 1, off := 0 }) 2 2, Value.slice (some { block := w.heap.size + 1 + 1 + 1 + 1, off := 0 }) 2 2] 65 (0, 0)))
theorem alive_below (w : World) : Below w.heap.size w (aliveW w) := by
 unfold aliveW
 repeat (refine Below.alloc ?_ (by simp; try omega) _)
 exact Below.refl _ _
theorem alive_box (w : World) : Blk (aliveW w) (w.heap.size + 1 + 1 + 1 + 1 + 1) [Value.slice (some { block := w.heap.size + 1, off := 0 }) 1 1, Value.slice (some { block := w.heap.size + 1 + 1, off := 0 }) 1 1, Value.slice (some { block := w.heap.size + 1 + 1 + 1, off := 0 }) 2 2, Value.slice (some { block := w.heap.size + 1 + 1 + 1 + 1, off := 0 }) 2 2] 65 := by
 unfold aliveW; exact Blk.new' _ _ _ _ (by simp)
theorem alive_who (w : World) : Who (aliveW w) (some ⟨w.heap.size + 1, 0, none⟩) (some ⟨w.heap.size + 1 + 1, 0, none⟩) (some ⟨w.heap.size + 1 + 1 + 1, 0, none⟩) (some ⟨w.heap.size + 1 + 1 + 1 + 1, 0, none⟩) [[2, 1]] [3] [3, 2] [3, 3] := by
 have b0 : IBlk (aliveW w) w.heap.size [2, 1] := by unfold aliveW; exact (((((Blk.new w _ _).alloc _).alloc _).alloc _).alloc _).alloc _
 have b1 : Blk (aliveW w) (w.heap.size + 1) [.slice (some ⟨w.heap.size, 0, none⟩) 2 2] 23 := by unfold aliveW; exact ((((Blk.new' _ _ _ _ (by simp)).alloc _).alloc _).alloc _).alloc _
 have b2 : IBlk (aliveW w) (w.heap.size + 1 + 1) [3] := by unfold aliveW; exact (((Blk.new' _ [.int .i64 3] _ _ (by simp)).alloc _).alloc _).alloc _
 have b3 : IBlk (aliveW w) (w.heap.size + 1 + 1 + 1) [3, 2] := by unfold aliveW; exact ((Blk.new' _ [.int .i64 3, .int .i64 2] _ _ (by simp)).alloc _).alloc _
 have b4 : IBlk (aliveW w) (w.heap.size + 1 + 1 + 1 + 1) [3, 3] := by unfold aliveW; exact (Blk.new' _ [.int .i64 3, .int .i64 3] _ _ (by simp)).alloc _
 have m1 : ∀ n, n ≤ 20 → n ≤ maxLen := fun n h => by unfold maxLen; omega
 refine ⟨⟨fun i hi => ?_, b2.ints, b3.ints, m1 _ (by simp), fun r hr => ?_, m1 _ (by simp), m1 _ (by simp)⟩, b4.ints, m1 _ (by simp)⟩
 ·obtain rfl : i = 0 := by simp at hi; exact hi
  exact ⟨_, 0, some ⟨w.heap.size, 0, none⟩, 2, rfl, b1.cell 0 (by simp), by decide, b0.ints⟩
 ·simp at hr; subst hr; exact m1 _ (by simp)
theorem alive_post {w : World} {e : Ending} {w' : World} (h : SolvePost [[2, 1]] [3] [3, 2] [3, 3] w e w') : ∃ g cap, e = .returned (.tuple #[.slice (some ⟨g, 0, none⟩) 2 cap, .int .i64 5, .int .i64 0]) ∧ Ints w' (some ⟨g, 0, none⟩) [1, 1] ∧ Below w.heap.size w w' := by
 obtain ⟨hr, hb⟩ := h
 unfold SolveRes at hr
 rw [if_pos alive_ok, alive_best] at hr
 obtain ⟨g, cap, he, -, hI⟩ := hr
 rw [alive_dot] at he
 exact ⟨g, cap, he, hI, hb⟩
def aliveC (w : World) : World := (w.alloc (Obj.cells #[Value.int IntKind.i64 3] 3 (0, 0))).alloc (Obj.cells #[Value.int IntKind.i64 (-1), Value.int IntKind.i64 0, Value.slice (some ⟨w.heap.size, 0, none⟩) 1 1, Value.int IntKind.i64 2] 128 (0, 0))
theorem alive_nodes (w : World) : Nodes (aliveC w) (some ⟨w.heap.size + 1, 0, none⟩) [⟨-1, 0, [3], 2⟩] := fun i hi => by
 obtain rfl : i = 0 := by simp at hi; exact hi
 have b0 : IBlk (aliveC w) w.heap.size [3] := by unfold aliveC; exact (Blk.new w [.int .i64 3] _).alloc _
 have b1 : Blk (aliveC w) (w.heap.size + 1) [.int .i64 (-1), .int .i64 0, .slice (some ⟨w.heap.size, 0, none⟩) 1 1, .int .i64 2] 128 := by unfold aliveC; exact Blk.new' _ [.int .i64 (-1), .int .i64 0, .slice (some ⟨w.heap.size, 0, none⟩) 1 1, .int .i64 2] _ _ (by simp)
 exact ⟨_, 0, some ⟨w.heap.size, 0, none⟩, 1, rfl, b1.cell 0 (by simp), b1.cell 1 (by simp), b1.cell 2 (by simp), b1.cell 3 (by simp), b0.ints, by unfold maxLen; simp⟩
theorem alive_cbelow (w : World) : Below w.heap.size w (aliveC w) := by
 unfold aliveC
 exact ((Below.refl _ _).alloc (Nat.le_refl _) _).alloc (by simp) _
set_option maxRecDepth 100000 in
set_option maxHeartbeats 1000000 in
theorem alive_calls (w : World) : Calls Tryz.prog 48 #[] w fun e w' => e = .returned (.bool true) ∧ Below w.heap.size w w' := by
 go_enter Tryz.func48, Tryz.ntmps48
 go_wp2_with fail
 refine (solve_calls (w := aliveW w) (alive_who w)).mono ?_
 intro e w1 hp
 obtain ⟨g, cap, rfl, hI, hb1⟩ := alive_post hp
 have hx1 := ext_trans (alive_below w) hb1
 have B1 := (alive_box w).ext hb1
 have W1 := (alive_who w).ext hb1
 have c0 := B1.cell 0 (by simp)
 have c1 := B1.cell 1 (by simp)
 have c2 := B1.cell 2 (by simp)
 have c3 := B1.cell 3 (by simp)
 simp only [List.getElem_cons_zero, List.getElem_cons_succ] at c0 c1 c2 c3
 clear hp hb1 B1
 go_wp2_with fail
 refine (check_calls _ _ _ _ _ 1 1 2 2 1 [[2, 1]] [3] [3, 2] [3, 3] [⟨-1, 0, [3], 2⟩] 5 true (aliveC w1) (W1.ext (alive_cbelow w1)) (alive_nodes w1) (by decide) (by unfold maxLen; omega) ⟨by omega, by omega⟩).mono ?_
 intro e w2 hp
 unfold CheckPost at hp
 rw [alive_check] at hp
 obtain ⟨rfl, hb2⟩ := hp
 have hx2 := ext_trans (ext_trans hx1 (alive_cbelow w1)) hb2
 have hI2 := (hI.ext (alive_cbelow w1)).ext hb2
 clear c0 c1 c2 c3 W1 hI hx1 hb2
 have HX := Lib.hid hx2
 clear hx2
 go_wp2_with fail
 refine (same_calls (some ⟨g, 0, none⟩) (some ⟨w2.heap.size, 0, none⟩) cap 2 [1, 1] [1, 1] (w2.alloc (Obj.cells #[Value.int IntKind.i64 1, Value.int IntKind.i64 1] 3 (0, 0))) (by unfold maxLen; simp) (by unfold maxLen; simp) (hI2.ext ((Below.refl _ _).alloc (Nat.le_refl _) _)) (IBlk.ints (Blk.new w2 [.int .i64 1, .int .i64 1] _))).mono ?_
 rw [show sameB [1, 1] [1, 1] = true from rfl]
 rintro e w3 ⟨rfl, k, rfl⟩
 go_wp2_with fail
 go_ret
 exact ⟨rfl, (HX.out.alloc HX.out.size _).trans ((drewN_below _ k).mono (by have := HX.out.size; simp; omega))⟩
end Go.Proofs.YtkljafmdbajfeaaGreatDoor
