/- branch.program.whole: the box of a program. -/
import Derived.Test.YtbdlfjhhgnhejaaLeaf
import Derived.Laws.CopyOwn
namespace Go.Proofs.Ytbdlfjhhgnhejaa
open Go.RowKit
set_option linter.unusedVariables false
set_option linter.unusedSimpArgs false

/-- The ends of the whole box. -/
def pad (u : List Int) : List Int := u ++ List.replicate (5 - u.length) 0
theorem five {l : List Int} (h : l.length = 5) : ∃ a b c d e, l = [a, b, c, d, e] := by
  match l, h with
  | [a, b, c, d, e], _ => exact ⟨a, b, c, d, e, rfl⟩
theorem pad_len {u : List Int} (h : u.length ≤ 5) : (pad u).length = 5 := by unfold pad; simp; omega

set_option maxRecDepth 100000 in
set_option maxHeartbeats 2000000 in
theorem whole_calls (A B C U : Option Addr) (ca cb cc cu n : Nat) (a : List (List Int)) (b c u : List Int) (w : World) (hw : Who w A B C U a b c u) (hu : u.length ≤ 5) :
    Calls Try.prog 23 #[.agg #[.slice A a.length ca, .slice B b.length cb, .slice C c.length cc, .slice U u.length cu, .int .i64 n]] w fun e w' =>
      (∃ h0 h1 h2 h3 h4 : Int, pad u = [h0, h1, h2, h3, h4] ∧ e = .returned (.agg #[.int .i64 0, .int .i64 0, .int .i64 0, .int .i64 0, .int .i64 0, .int .i64 h0, .int .i64 h1, .int .i64 h2, .int .i64 h3, .int .i64 h4])) ∧ Below w.heap.size w w' := by
  obtain ⟨h0, h1, h2, h3, h4, hp⟩ := five (pad_len hu)
  have hbe : Below w.heap.size w (((w.alloc (.cells #[.slice A a.length ca, .slice B b.length cb, .slice C c.length cc, .slice U u.length cu, .int .i64 n] 46 (0, 0))).alloc (.cells #[.int .i64 0, .int .i64 0, .int .i64 0, .int .i64 0, .int .i64 0, .int .i64 0, .int .i64 0, .int .i64 0, .int .i64 0, .int .i64 0] 57 (0, 0))).alloc (.cells #[.int .i64 0, .int .i64 0, .int .i64 0, .int .i64 0, .int .i64 0, .int .i64 0, .int .i64 0, .int .i64 0, .int .i64 0, .int .i64 0] 57 (0, 0))) := (((Below.refl _ _).alloc (Nat.le_refl _) _).alloc (by simp) _).alloc (by simp; omega) _
  have B0 : Blk (((w.alloc (.cells #[.slice A a.length ca, .slice B b.length cb, .slice C c.length cc, .slice U u.length cu, .int .i64 n] 46 (0, 0))).alloc (.cells #[.int .i64 0, .int .i64 0, .int .i64 0, .int .i64 0, .int .i64 0, .int .i64 0, .int .i64 0, .int .i64 0, .int .i64 0, .int .i64 0] 57 (0, 0))).alloc (.cells #[.int .i64 0, .int .i64 0, .int .i64 0, .int .i64 0, .int .i64 0, .int .i64 0, .int .i64 0, .int .i64 0, .int .i64 0, .int .i64 0] 57 (0, 0))) w.heap.size [.slice A a.length ca, .slice B b.length cb, .slice C c.length cc, .slice U u.length cu, .int .i64 n] 46 := ((Blk.new w _ _).alloc _).alloc _
  have B1 : Blk (((w.alloc (.cells #[.slice A a.length ca, .slice B b.length cb, .slice C c.length cc, .slice U u.length cu, .int .i64 n] 46 (0, 0))).alloc (.cells #[.int .i64 0, .int .i64 0, .int .i64 0, .int .i64 0, .int .i64 0, .int .i64 0, .int .i64 0, .int .i64 0, .int .i64 0, .int .i64 0] 57 (0, 0))).alloc (.cells #[.int .i64 0, .int .i64 0, .int .i64 0, .int .i64 0, .int .i64 0, .int .i64 0, .int .i64 0, .int .i64 0, .int .i64 0, .int .i64 0] 57 (0, 0))) (w.heap.size + 1) [.int .i64 0, .int .i64 0, .int .i64 0, .int .i64 0, .int .i64 0, .int .i64 0, .int .i64 0, .int .i64 0, .int .i64 0, .int .i64 0] 57 := (Blk.new' _ [.int .i64 0, .int .i64 0, .int .i64 0, .int .i64 0, .int .i64 0, .int .i64 0, .int .i64 0, .int .i64 0, .int .i64 0, .int .i64 0] _ _ (by simp)).alloc _
  have B2 : Blk (((w.alloc (.cells #[.slice A a.length ca, .slice B b.length cb, .slice C c.length cc, .slice U u.length cu, .int .i64 n] 46 (0, 0))).alloc (.cells #[.int .i64 0, .int .i64 0, .int .i64 0, .int .i64 0, .int .i64 0, .int .i64 0, .int .i64 0, .int .i64 0, .int .i64 0, .int .i64 0] 57 (0, 0))).alloc (.cells #[.int .i64 0, .int .i64 0, .int .i64 0, .int .i64 0, .int .i64 0, .int .i64 0, .int .i64 0, .int .i64 0, .int .i64 0, .int .i64 0] 57 (0, 0))) (w.heap.size + 1 + 1) [.int .i64 0, .int .i64 0, .int .i64 0, .int .i64 0, .int .i64 0, .int .i64 0, .int .i64 0, .int .i64 0, .int .i64 0, .int .i64 0] 57 := Blk.new' _ [.int .i64 0, .int .i64 0, .int .i64 0, .int .i64 0, .int .i64 0, .int .i64 0, .int .i64 0, .int .i64 0, .int .i64 0, .int .i64 0] _ _ (by simp)
  go_enter Try.func23, Try.ntmps23
  go_wp2_with fail
  generalize (((w.alloc (.cells #[.slice A a.length ca, .slice B b.length cb, .slice C c.length cc, .slice U u.length cu, .int .i64 n] 46 (0, 0))).alloc (.cells #[.int .i64 0, .int .i64 0, .int .i64 0, .int .i64 0, .int .i64 0, .int .i64 0, .int .i64 0, .int .i64 0, .int .i64 0, .int .i64 0] 57 (0, 0))).alloc (.cells #[.int .i64 0, .int .i64 0, .int .i64 0, .int .i64 0, .int .i64 0, .int .i64 0, .int .i64 0, .int .i64 0, .int .i64 0, .int .i64 0] 57 (0, 0))) = W at *
  have k3 : W.cell? ⟨w.heap.size, 3, none⟩ = some (.slice U u.length cu) := B0.cell 3 (by simp)
  go_still_tail 5, (by kernel_rfl)
  change wpList _ _ _ _ _ W.drew
  refine wpList_copy_splice rfl (.tmp 5) (.tmp 8) 23 23 rfl 3 (by kernel_rfl) (by kernel_rfl) (some ⟨w.heap.size + 1 + 1, 5, none⟩) U 5 5 u.length cu rfl rfl (w.heap.size + 1 + 1) 5 [.int .i64 0, .int .i64 0, .int .i64 0, .int .i64 0, .int .i64 0, .int .i64 0, .int .i64 0, .int .i64 0, .int .i64 0, .int .i64 0] 57 B2 (u.map (Value.int .i64)) (by rw [List.length_map]; exact (Nat.min_eq_left hu).symm) ?_ (by simp; omega) (by intro v hv; obtain ⟨x, -, rfl⟩ := List.mem_map.1 hv; rfl) (w.heap.size + 1 + 1) W ((Below.refl _ W).drew) (Nat.le_refl _) ?_
  · intro h0
    refine ⟨rfl, ?_⟩
    rw [List.length_map] at h0
    obtain ⟨b1, o1, e1, -⟩ := (hw.gu.ext hbe) 0 h0
    refine ⟨⟨b1, o1, none⟩, e1, fun j v hj => ?_⟩
    obtain ⟨hj1, hj2⟩ := List.getElem?_eq_some_iff.1 hj
    rw [List.length_map] at hj1
    obtain ⟨b2, o2, e2, g2⟩ := (hw.gu.ext hbe) j hj1
    rw [e1] at e2
    injection e2 with e2; injection e2 with e3 e4; subst e3; subst e4
    rw [← hj2, List.getElem_map, ← nth_lt hj1]
    have e5 : W.cell? ((⟨b1, o1, none⟩ : Addr).add j) = some (.int .i64 (nth u j)) := by
      unfold Addr.add; split
      · rename_i hj0; subst hj0; exact g2
      · exact g2
    exact e5
  · intro w3 HG HB
    have hrow : splice [.int .i64 0, .int .i64 0, .int .i64 0, .int .i64 0, .int .i64 0, .int .i64 0, .int .i64 0, .int .i64 0, .int .i64 0, .int .i64 0] 5 (u.map (Value.int .i64)) = [.int .i64 0, .int .i64 0, .int .i64 0, .int .i64 0, .int .i64 0, .int .i64 h0, .int .i64 h1, .int .i64 h2, .int .i64 h3, .int .i64 h4] := by
      have e1 : pad u = u ++ List.replicate (5 - u.length) 0 := rfl
      have e2 : ([.int .i64 0, .int .i64 0, .int .i64 0, .int .i64 0, .int .i64 0, .int .i64 h0, .int .i64 h1, .int .i64 h2, .int .i64 h3, .int .i64 h4] : List Value) = [.int .i64 0, .int .i64 0, .int .i64 0, .int .i64 0, .int .i64 0] ++ (pad u).map (Value.int .i64) := by rw [hp]; rfl
      rw [e2, e1]
      show [.int .i64 0, .int .i64 0, .int .i64 0, .int .i64 0, .int .i64 0] ++ (u.map (Value.int .i64) ++ ([.int .i64 0, .int .i64 0, .int .i64 0, .int .i64 0, .int .i64 0, .int .i64 0, .int .i64 0, .int .i64 0, .int .i64 0, .int .i64 0] : List Value).drop (5 + (u.map (Value.int .i64)).length)) = _
      rw [List.length_map, List.map_append, show ([.int .i64 0, .int .i64 0, .int .i64 0, .int .i64 0, .int .i64 0, .int .i64 0, .int .i64 0, .int .i64 0, .int .i64 0, .int .i64 0] : List Value) = List.replicate 10 (.int .i64 0) from rfl, List.drop_replicate, List.map_replicate, show 10 - (5 + u.length) = 5 - u.length by omega]
    have B3 : Blk w3 (w.heap.size + 1 + 1) [.int .i64 0, .int .i64 0, .int .i64 0, .int .i64 0, .int .i64 0, .int .i64 h0, .int .i64 h1, .int .i64 h2, .int .i64 h3, .int .i64 h4] 57 := by
      have := HG.out; rw [hrow] at this; exact this
    have D1 : Blk w3 (w.heap.size + 1) [.int .i64 0, .int .i64 0, .int .i64 0, .int .i64 0, .int .i64 0, .int .i64 0, .int .i64 0, .int .i64 0, .int .i64 0, .int .i64 0] 57 := by
      unfold Blk at B1 ⊢; rw [HB.block _ (by omega)]; exact B1
    have hx3 : Below w.heap.size w w3 := hbe.trans (HB.mono (by omega))
    have b0 : w3.cell? ⟨w.heap.size + 1 + 1, 0, none⟩ = some (.int .i64 0) := B3.cell 0 (by simp)
    have a0 : w3.cell? ⟨w.heap.size + 1, 0, none⟩ = some (.int .i64 0) := D1.cell 0 (by simp)
    have b1 : w3.cell? ⟨w.heap.size + 1 + 1, 1, none⟩ = some (.int .i64 0) := B3.cell 1 (by simp)
    have a1 : w3.cell? ⟨w.heap.size + 1, 1, none⟩ = some (.int .i64 0) := D1.cell 1 (by simp)
    have b2 : w3.cell? ⟨w.heap.size + 1 + 1, 2, none⟩ = some (.int .i64 0) := B3.cell 2 (by simp)
    have a2 : w3.cell? ⟨w.heap.size + 1, 2, none⟩ = some (.int .i64 0) := D1.cell 2 (by simp)
    have b3 : w3.cell? ⟨w.heap.size + 1 + 1, 3, none⟩ = some (.int .i64 0) := B3.cell 3 (by simp)
    have a3 : w3.cell? ⟨w.heap.size + 1, 3, none⟩ = some (.int .i64 0) := D1.cell 3 (by simp)
    have b4 : w3.cell? ⟨w.heap.size + 1 + 1, 4, none⟩ = some (.int .i64 0) := B3.cell 4 (by simp)
    have a4 : w3.cell? ⟨w.heap.size + 1, 4, none⟩ = some (.int .i64 0) := D1.cell 4 (by simp)
    have b5 : w3.cell? ⟨w.heap.size + 1 + 1, 5, none⟩ = some (.int .i64 h0) := B3.cell 5 (by simp)
    have a5 : w3.cell? ⟨w.heap.size + 1, 5, none⟩ = some (.int .i64 0) := D1.cell 5 (by simp)
    have b6 : w3.cell? ⟨w.heap.size + 1 + 1, 6, none⟩ = some (.int .i64 h1) := B3.cell 6 (by simp)
    have a6 : w3.cell? ⟨w.heap.size + 1, 6, none⟩ = some (.int .i64 0) := D1.cell 6 (by simp)
    have b7 : w3.cell? ⟨w.heap.size + 1 + 1, 7, none⟩ = some (.int .i64 h2) := B3.cell 7 (by simp)
    have a7 : w3.cell? ⟨w.heap.size + 1, 7, none⟩ = some (.int .i64 0) := D1.cell 7 (by simp)
    have b8 : w3.cell? ⟨w.heap.size + 1 + 1, 8, none⟩ = some (.int .i64 h3) := B3.cell 8 (by simp)
    have a8 : w3.cell? ⟨w.heap.size + 1, 8, none⟩ = some (.int .i64 0) := D1.cell 8 (by simp)
    have b9 : w3.cell? ⟨w.heap.size + 1 + 1, 9, none⟩ = some (.int .i64 h4) := B3.cell 9 (by simp)
    have a9 : w3.cell? ⟨w.heap.size + 1, 9, none⟩ = some (.int .i64 0) := D1.cell 9 (by simp)
    have fr := D1.free
    go_wp2
    try simp only [Exit.inBlock, Exit.then]
    refine bodyPost_ret (v := .agg #[.int .i64 0, .int .i64 0, .int .i64 0, .int .i64 0, .int .i64 0, .int .i64 h0, .int .i64 h1, .int .i64 h2, .int .i64 h3, .int .i64 h4]) (by simp [results, Try.results23, go_sem, fr, a0, a1, a2, a3, a4, a5, a6, a7, a8, a9]) rfl ⟨⟨h0, h1, h2, h3, h4, hp, rfl⟩, ?_⟩
    repeat' (refine Below.setCell ?_ (by dsimp only; omega) _)
    exact hx3
end Go.Proofs.Ytbdlfjhhgnhejaa
