/- alive: the closed example. -/
import Derived.Test.YtbdlfjhhgnhejaaLaw
import Derived.Test.YtbdlfjhhgnhejaaCheck
namespace Go.Proofs.Ytbdlfjhhgnhejaa
open Go.RowKit

theorem alive_ok : wholeOk [[2, 1]] [3] [3, 2] [3, 3] = true := by kernel_rfl
theorem alive_best : bestL [3, 2] (feasL [[2, 1]] [3] [3, 3]) = some [1, 1] := by kernel_rfl
theorem alive_dot : dotZ [3, 2] [1, 1] = 5 := by kernel_rfl
set_option maxRecDepth 100000 in
theorem alive_check : checkV [[2, 1]] [3] [3, 2] [3, 3] [⟨-1, 0, [3], 2⟩] 5 true = (true, 0) := by kernel_rfl

def aliveW (w : World) : World :=
  ((((((w.alloc (Obj.cells #[Value.int IntKind.i64 2, Value.int IntKind.i64 1] 3 (0, 0))).alloc (Obj.cells #[Value.slice (some { block := w.heap.size, off := 0 }) 2 2] 23 (0, 0))).alloc (Obj.cells #[Value.int IntKind.i64 3] 3 (0, 0))).alloc (Obj.cells #[Value.int IntKind.i64 3, Value.int IntKind.i64 2] 3 (0, 0))).alloc
    (Obj.cells #[Value.int IntKind.i64 3, Value.int IntKind.i64 3] 3 (0, 0))).alloc
    (Obj.cells #[Value.slice (some { block := w.heap.size + 1, off := 0 }) 1 1, Value.slice (some { block := w.heap.size + 1 + 1, off := 0 }) 1 1, Value.slice (some { block := w.heap.size + 1 + 1 + 1, off := 0 }) 2 2, Value.slice (some { block := w.heap.size + 1 + 1 + 1 + 1, off := 0 }) 2 2] 25 (0, 0)))

theorem alive_size (w : World) : (aliveW w).heap.size = w.heap.size + 6 := by unfold aliveW; simp
theorem alive_below (w : World) : Below w.heap.size w (aliveW w) := by
  unfold aliveW
  repeat (refine Below.alloc ?_ (by simp; try omega) _)
  exact Below.refl _ _
theorem alive_box (w : World) : Blk (aliveW w) (w.heap.size + 1 + 1 + 1 + 1 + 1) [Value.slice (some { block := w.heap.size + 1, off := 0 }) 1 1, Value.slice (some { block := w.heap.size + 1 + 1, off := 0 }) 1 1, Value.slice (some { block := w.heap.size + 1 + 1 + 1, off := 0 }) 2 2, Value.slice (some { block := w.heap.size + 1 + 1 + 1 + 1, off := 0 }) 2 2] 25 := by
  unfold aliveW; exact Blk.new' _ _ _ _ (by simp)
theorem alive_who (w : World) : Who (aliveW w) (some ⟨w.heap.size + 1, 0, none⟩) (some ⟨w.heap.size + 1 + 1, 0, none⟩) (some ⟨w.heap.size + 1 + 1 + 1, 0, none⟩) (some ⟨w.heap.size + 1 + 1 + 1 + 1, 0, none⟩) [[2, 1]] [3] [3, 2] [3, 3] := by
  have b0 : IBlk (aliveW w) w.heap.size [2, 1] := by unfold aliveW; exact (((((Blk.new w _ _).alloc _).alloc _).alloc _).alloc _).alloc _
  have b1 : Blk (aliveW w) (w.heap.size + 1) [.slice (some ⟨w.heap.size, 0, none⟩) 2 2] 23 := by unfold aliveW; exact ((((Blk.new' _ _ _ _ (by simp)).alloc _).alloc _).alloc _).alloc _
  have b2 : IBlk (aliveW w) (w.heap.size + 1 + 1) [3] := by unfold aliveW; exact (((Blk.new' _ [.int .i64 3] _ _ (by simp)).alloc _).alloc _).alloc _
  have b3 : IBlk (aliveW w) (w.heap.size + 1 + 1 + 1) [3, 2] := by unfold aliveW; exact ((Blk.new' _ [.int .i64 3, .int .i64 2] _ _ (by simp)).alloc _).alloc _
  have b4 : IBlk (aliveW w) (w.heap.size + 1 + 1 + 1 + 1) [3, 3] := by unfold aliveW; exact (Blk.new' _ [.int .i64 3, .int .i64 3] _ _ (by simp)).alloc _
  have m1 : ∀ n, n ≤ 20 → n ≤ maxLen := fun n h => by unfold maxLen; omega
  refine ⟨⟨fun i hi => ?_, b2.ints, b3.ints, m1 _ (by simp), fun r hr => ?_, m1 _ (by simp), m1 _ (by simp)⟩, b4.ints, m1 _ (by simp)⟩
  · obtain rfl : i = 0 := by simp at hi; exact hi
    exact ⟨_, 0, some ⟨w.heap.size, 0, none⟩, 2, rfl, b1.cell 0 (by simp), by decide, b0.ints⟩
  · simp at hr; subst hr; exact m1 _ (by simp)

theorem alive_post {w : World} {e : Ending} {w' : World} (h : SolvePost [[2, 1]] [3] [3, 2] [3, 3] w e w') : ∃ g cap, e = .returned (.tuple #[.slice (some ⟨g, 0, none⟩) 2 cap, .int .i64 5, .int .i64 0]) ∧ Ints w' (some ⟨g, 0, none⟩) [1, 1] ∧ Below w.heap.size w w' := by
  obtain ⟨hr, hb⟩ := h
  unfold SolveRes at hr
  rw [if_pos alive_ok, alive_best] at hr
  obtain ⟨g, cap, he, -, hI⟩ := hr
  rw [alive_dot] at he
  exact ⟨g, cap, he, hI, hb⟩

def aliveC (w : World) : World := (w.alloc (Obj.cells #[Value.int IntKind.i64 3] 3 (0, 0))).alloc (Obj.cells #[Value.int IntKind.i64 (-1), Value.int IntKind.i64 0, Value.slice (some ⟨w.heap.size, 0, none⟩) 1 1, Value.int IntKind.i64 2] 34 (0, 0))
theorem alive_nodes (w : World) : Nodes (aliveC w) (some ⟨w.heap.size + 1, 0, none⟩) [⟨-1, 0, [3], 2⟩] := fun i hi => by
  obtain rfl : i = 0 := by simp at hi; exact hi
  have b0 : IBlk (aliveC w) w.heap.size [3] := by unfold aliveC; exact (Blk.new w [.int .i64 3] _).alloc _
  have b1 : Blk (aliveC w) (w.heap.size + 1) [.int .i64 (-1), .int .i64 0, .slice (some ⟨w.heap.size, 0, none⟩) 1 1, .int .i64 2] 34 := by unfold aliveC; exact Blk.new' _ [.int .i64 (-1), .int .i64 0, .slice (some ⟨w.heap.size, 0, none⟩) 1 1, .int .i64 2] _ _ (by simp)
  exact ⟨_, 0, some ⟨w.heap.size, 0, none⟩, 1, rfl, b1.cell 0 (by simp), b1.cell 1 (by simp), b1.cell 2 (by simp), b1.cell 3 (by simp), b0.ints, by unfold maxLen; simp⟩
theorem alive_cbelow (w : World) : Below w.heap.size w (aliveC w) := by
  unfold aliveC
  exact ((Below.refl _ _).alloc (Nat.le_refl _) _).alloc (by simp) _

set_option maxRecDepth 100000 in
set_option maxHeartbeats 1000000 in
theorem alive_calls (w : World) : Calls Try.prog 11 #[] w fun e w' => e = .returned (.bool true) ∧ Below w.heap.size w w' := by
  go_enter Try.func11, Try.ntmps11
  go_wp2_with fail
  refine (solve_calls (w := aliveW w) (alive_who w)).mono ?_
  intro e w1 hp
  obtain ⟨g, cap, rfl, hI, hb1⟩ := alive_post hp
  have hx1 := ext_trans (alive_below w) hb1
  have B1 := (alive_box w).ext hb1
  have W1 := (alive_who w).ext hb1
  have c0 := B1.cell 0 (by simp)
  have c1 := B1.cell 1 (by simp)
  have c2 := B1.cell 2 (by simp)
  have c3 := B1.cell 3 (by simp)
  simp only [List.getElem_cons_zero, List.getElem_cons_succ] at c0 c1 c2 c3
  clear hp hb1 B1
  go_wp2_with fail
  refine (check_calls _ _ _ _ _ 1 1 2 2 1 [[2, 1]] [3] [3, 2] [3, 3] [⟨-1, 0, [3], 2⟩] 5 true (aliveC w1) (W1.ext (alive_cbelow w1)) (alive_nodes w1) (by decide) (by unfold maxLen; omega) ⟨by omega, by omega⟩).mono ?_
  intro e w2 hp
  unfold CheckPost at hp
  rw [alive_check] at hp
  obtain ⟨rfl, hb2⟩ := hp
  have hx2 := ext_trans (ext_trans hx1 (alive_cbelow w1)) hb2
  have hI2 := (hI.ext (alive_cbelow w1)).ext hb2
  clear c0 c1 c2 c3 W1 hI hx1 hb2
  have HX := Lib.hid hx2
  clear hx2
  go_wp2_with fail
  refine (same_calls (some ⟨g, 0, none⟩) (some ⟨w2.heap.size, 0, none⟩) cap 2 [1, 1] [1, 1] (w2.alloc (Obj.cells #[Value.int IntKind.i64 1, Value.int IntKind.i64 1] 3 (0, 0))) (by unfold maxLen; simp) (by unfold maxLen; simp) (hI2.ext ((Below.refl _ _).alloc (Nat.le_refl _) _)) (IBlk.ints (Blk.new w2 [.int .i64 1, .int .i64 1] _))).mono ?_
  rw [show sameB [1, 1] [1, 1] = true from rfl]
  rintro e w3 ⟨rfl, k, rfl⟩
  go_wp2_with fail
  go_ret
  exact ⟨rfl, (HX.out.alloc HX.out.size _).trans ((drewN_below _ k).mono (by have := HX.out.size; simp; omega))⟩
end Go.Proofs.Ytbdlfjhhgnhejaa
