/- branch.program.whole: the box of a program. -/
import Derived.Laws.CopyOwn
import Derived.Test.YtkljafmdbajfeaaGreatDoorReA06
import Derived.Test.YtkljafmdbajfeaaGreatDoorReA17
namespace Go.Proofs.YtkljafmdbajfeaaGreatDoor
open Go.RowKit
set_option linter.unusedVariables false
set_option linter.unusedSimpArgs false
def pad (u : List Int) : List Int := u ++ List.replicate (5 - u.length) 0
theorem five {l : List Int} (h : l.length = 5) : ∃ a b c d e, l = [a, b, c, d, e] := by
 match l, h with
 | [a, b, c, d, e], _ => exact ⟨a, b, c, d, e, rfl⟩
theorem pad_len {u : List Int} (h : u.length ≤ 5) : (pad u).length = 5 := by unfold pad; simp; omega
set_option maxRecDepth 100000 in
set_option maxHeartbeats 2000000 in
theorem whole_calls (A B C U : Option Addr) (ca cb cc cu n : Nat) (a : List (List Int)) (b c u : List Int) (w : World) (hw : Who w A B C U a b c u) (hu : u.length ≤ 5) :
  Calls Tryz.prog 154 #[.agg #[.slice A a.length ca, .slice B b.length cb, .slice C c.length cc, .slice U u.length cu, .int .i64 n]] w fun e w' =>
   (∃ h0 h1 h2 h3 h4 : Int, pad u = [h0, h1, h2, h3, h4] ∧ e = .returned (.agg #[.int .i64 0, .int .i64 0, .int .i64 0, .int .i64 0, .int .i64 0, .int .i64 h0, .int .i64 h1, .int .i64 h2, .int .i64 h3, .int .i64 h4])) ∧ Below w.heap.size w w' := by
 obtain ⟨h0, h1, h2, h3, h4, hp⟩ := five (pad_len hu)
 have hbe : Below w.heap.size w (((w.alloc (.cells #[.slice A a.length ca, .slice B b.length cb, .slice C c.length cc, .slice U u.length cu, .int .i64 n] 131 (0, 0))).alloc (.cells #[.int .i64 0, .int .i64 0, .int .i64 0, .int .i64 0, .int .i64 0, .int .i64 0, .int .i64 0, .int .i64 0, .int .i64 0, .int .i64 0] 186 (0, 0))).alloc (.cells #[.int .i64 0, .int .i64 0, .int .i64 0, .int .i64 0, .int .i64 0, .int .i64 0, .int .i64 0, .int .i64 0, .int .i64 0, .int .i64 0] 186 (0, 0))) := (((Below.refl _ _).alloc (Nat.le_refl _) _).alloc (by simp) _).alloc (by simp; omega) _
 have B0 : Blk (((w.alloc (.cells #[.slice A a.length ca, .slice B b.length cb, .slice C c.length cc, .slice U u.length cu, .int .i64 n] 131 (0, 0))).alloc (.cells #[.int .i64 0, .int .i64 0, .int .i64 0, .int .i64 0, .int .i64 0, .int .i64 0, .int .i64 0, .int .i64 0, .int .i64 0, .int .i64 0] 186 (0, 0))).alloc (.cells #[.int .i64 0, .int .i64 0, .int .i64 0, .int .i64 0, .int .i64 0, .int .i64 0, .int .i64 0, .int .i64 0, .int .i64 0, .int .i64 0] 186 (0, 0))) w.heap.size [.slice A a.length ca, .slice B b.length cb, .slice C c.length cc, .slice U u.length cu, .int .i64 n] 131 := ((Blk.new w _ _).alloc _).alloc _
 have B1 : Blk (((w.alloc (.cells #[.slice A a.length ca, .slice B b.length cb, .slice C c.length cc, .slice U u.length cu, .int .i64 n] 131 (0, 0))).alloc (.cells #[.int .i64 0, .int .i64 0, .int .i64 0, .int .i64 0, .int .i64 0, .int .i64 0, .int .i64 0, .int .i64 0, .int .i64 0, .int .i64 0] 186 (0, 0))).alloc (.cells #[.int .i64 0, .int .i64 0, .int .i64 0, .int .i64 0, .int .i64 0, .int .i64 0, .int .i64 0, .int .i64 0, .int .i64 0, .int .i64 0] 186 (0, 0))) (w.heap.size + 1) [.int .i64 0, .int .i64 0, .int .i64 0, .int .i64 0, .int .i64 0, .int .i64 0, .int .i64 0, .int .i64 0, .int .i64 0, .int .i64 0] 186 := (Blk.new' _ [.int .i64 0, .int .i64 0, .int .i64 0, .int .i64 0, .int .i64 0, .int .i64 0, .int .i64 0, .int .i64 0, .int .i64 0, .int .i64 0] _ _ (by simp)).alloc _
 have B2 : Blk (((w.alloc (.cells #[.slice A a.length ca, .slice B b.length cb, .slice C c.length cc, .slice U u.length cu, .int .i64 n] 131 (0, 0))).alloc (.cells #[.int .i64 0, .int .i64 0, .int .i64 0, .int .i64 0, .int .i64 0, .int .i64 0, .int .i64 0, .int .i64 0, .int .i64 0, .int .i64 0] 186 (0, 0))).alloc (.cells #[.int .i64 0, .int .i64 0, .int .i64 0, .int .i64 0, .int .i64 0, .int .i64 0, .int .i64 0, .int .i64 0, .int .i64 0, .int .i64 0] 186 (0, 0))) (w.heap.size + 1 + 1) [.int .i64 0, .int .i64 0, .int .i64 0, .int .i64 0, .int .i64 0, .int .i64 0, .int .i64 0, .int .i64 0, .int .i64 0, .int .i64 0] 186 := Blk.new' _ [.int .i64 0, .int .i64 0, .int .i64 0, .int .i64 0, .int .i64 0, .int .i64 0, .int .i64 0, .int .i64 0, .int .i64 0, .int .i64 0] _ _ (by simp)
 go_enter Tryz.func154, Tryz.ntmps154
 go_wp2_with fail
 generalize (((w.alloc (.cells #[.slice A a.length ca, .slice B b.length cb, .slice C c.length cc, .slice U u.length cu, .int .i64 n] 131 (0, 0))).alloc (.cells #[.int .i64 0, .int .i64 0, .int .i64 0, .int .i64 0, .int .i64 0, .int .i64 0, .int .i64 0, .int .i64 0, .int .i64 0, .int .i64 0] 186 (0, 0))).alloc (.cells #[.int .i64 0, .int .i64 0, .int .i64 0, .int .i64 0, .int .i64 0, .int .i64 0, .int .i64 0, .int .i64 0, .int .i64 0, .int .i64 0] 186 (0, 0))) = W at *
 have k3 : W.cell? ⟨w.heap.size, 3, none⟩ = some (.slice U u.length cu) := B0.cell 3 (by simp)
 go_still_tail 5, (by kernel_rfl)
 change wpList _ _ _ _ _ W.drew
 refine wpList_copy_splice rfl (.tmp 5) (.tmp 8) 23 23 rfl 3 (by kernel_rfl) (by kernel_rfl) (some ⟨w.heap.size + 1 + 1, 5, none⟩) U 5 5 u.length cu rfl rfl (w.heap.size + 1 + 1) 5 [.int .i64 0, .int .i64 0, .int .i64 0, .int .i64 0, .int .i64 0, .int .i64 0, .int .i64 0, .int .i64 0, .int .i64 0, .int .i64 0] 186 B2 (u.map (Value.int .i64)) (by rw [List.length_map]; exact (Nat.min_eq_left hu).symm) ?_ (by simp; omega) (by intro v hv; obtain ⟨x, -, rfl⟩ := List.mem_map.1 hv; rfl) (w.heap.size + 1 + 1) W ((Below.refl _ W).drew) (Nat.le_refl _) ?_
 ·intro h0
  refine ⟨rfl, ?_⟩
  rw [List.length_map] at h0
  obtain ⟨b1, o1, e1, -⟩ := (hw.gu.ext hbe) 0 h0
  refine ⟨⟨b1, o1, none⟩, e1, fun j v hj => ?_⟩
  obtain ⟨hj1, hj2⟩ := List.getElem?_eq_some_iff.1 hj
  rw [List.length_map] at hj1
  obtain ⟨b2, o2, e2, g2⟩ := (hw.gu.ext hbe) j hj1
  rw [e1] at e2
  injection e2 with e2; injection e2 with e3 e4; subst e3; subst e4
  rw [← hj2, List.getElem_map, ← nth_lt hj1]
  have e5 : W.cell? ((⟨b1, o1, none⟩ : Addr).add j) = some (.int .i64 (nth u j)) := by
   unfold Addr.add; split
   ·rename_i hj0; subst hj0; exact g2
   ·exact g2
  exact e5
 ·intro w3 HG HB
  have hrow : splice [.int .i64 0, .int .i64 0, .int .i64 0, .int .i64 0, .int .i64 0, .int .i64 0, .int .i64 0, .int .i64 0, .int .i64 0, .int .i64 0] 5 (u.map (Value.int .i64)) = [.int .i64 0, .int .i64 0, .int .i64 0, .int .i64 0, .int .i64 0, .int .i64 h0, .int .i64 h1, .int .i64 h2, .int .i64 h3, .int .i64 h4] := by
   have e1 : pad u = u ++ List.replicate (5 - u.length) 0 := rfl
   have e2 : ([.int .i64 0, .int .i64 0, .int .i64 0, .int .i64 0, .int .i64 0, .int .i64 h0, .int .i64 h1, .int .i64 h2, .int .i64 h3, .int .i64 h4] : List Value) = [.int .i64 0, .int .i64 0, .int .i64 0, .int .i64 0, .int .i64 0] ++ (pad u).map (Value.int .i64) := by rw [hp]; rfl
   rw [e2, e1]
   show [.int .i64 0, .int .i64 0, .int .i64 0, .int .i64 0, .int .i64 0] ++ (u.map (Value.int .i64) ++ ([.int .i64 0, .int .i64 0, .int .i64 0, .int .i64 0, .int .i64 0, .int .i64 0, .int .i64 0, .int .i64 0, .int .i64 0, .int .i64 0] : List Value).drop (5 + (u.map (Value.int .i64)).length)) = _
   rw [List.length_map, List.map_append, show ([.int .i64 0, .int .i64 0, .int .i64 0, .int .i64 0, .int .i64 0, .int .i64 0, .int .i64 0, .int .i64 0, .int .i64 0, .int .i64 0] : List Value) = List.replicate 10 (.int .i64 0) from rfl, List.drop_replicate, List.map_replicate, show 10 - (5 + u.length) = 5 - u.length by omega]
  have B3 : Blk w3 (w.heap.size + 1 + 1) [.int .i64 0, .int .i64 0, .int .i64 0, .int .i64 0, .int .i64 0, .int .i64 h0, .int .i64 h1, .int .i64 h2, .int .i64 h3, .int .i64 h4] 186 := by
   have := HG.out; rw [hrow] at this; exact this
  have D1 : Blk w3 (w.heap.size + 1) [.int .i64 0, .int .i64 0, .int .i64 0, .int .i64 0, .int .i64 0, .int .i64 0, .int .i64 0, .int .i64 0, .int .i64 0, .int .i64 0] 186 := by
   unfold Blk at B1 ⊢; rw [HB.block _ (by omega)]; exact B1
  have hx3 : Below w.heap.size w w3 := hbe.trans (HB.mono (by omega))
  have b0 : w3.cell? ⟨w.heap.size + 1 + 1, 0, none⟩ = some (.int .i64 0) := B3.cell 0 (by simp)
  have a0 : w3.cell? ⟨w.heap.size + 1, 0, none⟩ = some (.int .i64 0) := D1.cell 0 (by simp)
  have b1 : w3.cell? ⟨w.heap.size + 1 + 1, 1, none⟩ = some (.int .i64 0) := B3.cell 1 (by simp)
  have a1 : w3.cell? ⟨w.heap.size + 1, 1, none⟩ = some (.int .i64 0) := D1.cell 1 (by simp)
  have b2 : w3.cell? ⟨w.heap.size + 1 + 1, 2, none⟩ = some (.int .i64 0) := B3.cell 2 (by simp)
  have a2 : w3.cell? ⟨w.heap.size + 1, 2, none⟩ = some (.int .i64 0) := D1.cell 2 (by simp)
  have b3 : w3.cell? ⟨w.heap.size + 1 + 1, 3, none⟩ = some (.int .i64 0) := B3.cell 3 (by simp)
  have a3 : w3.cell? ⟨w.heap.size + 1, 3, none⟩ = some (.int .i64 0) := D1.cell 3 (by simp)
  have b4 : w3.cell? ⟨w.heap.size + 1 + 1, 4, none⟩ = some (.int .i64 0) := B3.cell 4 (by simp)
  have a4 : w3.cell? ⟨w.heap.size + 1, 4, none⟩ = some (.int .i64 0) := D1.cell 4 (by simp)
  have b5 : w3.cell? ⟨w.heap.size + 1 + 1, 5, none⟩ = some (.int .i64 h0) := B3.cell 5 (by simp)
  have a5 : w3.cell? ⟨w.heap.size + 1, 5, none⟩ = some (.int .i64 0) := D1.cell 5 (by simp)
  have b6 : w3.cell? ⟨w.heap.size + 1 + 1, 6, none⟩ = some (.int .i64 h1) := B3.cell 6 (by simp)
  have a6 : w3.cell? ⟨w.heap.size + 1, 6, none⟩ = some (.int .i64 0) := D1.cell 6 (by simp)
  have b7 : w3.cell? ⟨w.heap.size + 1 + 1, 7, none⟩ = some (.int .i64 h2) := B3.cell 7 (by simp)
  have a7 : w3.cell? ⟨w.heap.size + 1, 7, none⟩ = some (.int .i64 0) := D1.cell 7 (by simp)
  have b8 : w3.cell? ⟨w.heap.size + 1 + 1, 8, none⟩ = some (.int .i64 h3) := B3.cell 8 (by simp)
  have a8 : w3.cell? ⟨w.heap.size + 1, 8, none⟩ = some (.int .i64 0) := D1.cell 8 (by simp)
  have b9 : w3.cell? ⟨w.heap.size + 1 + 1, 9, none⟩ = some (.int .i64 h4) := B3.cell 9 (by simp)
  have a9 : w3.cell? ⟨w.heap.size + 1, 9, none⟩ = some (.int .i64 0) := D1.cell 9 (by simp)
  have fr := D1.free
  go_wp2
  try simp only [Exit.inBlock, Exit.then]
  refine bodyPost_ret (v := .agg #[.int .i64 0, .int .i64 0, .int .i64 0, .int .i64 0, .int .i64 0, .int .i64 h0, .int .i64 h1, .int .i64 h2, .int .i64 h3, .int .i64 h4]) (by simp [results, Tryz.results154, go_sem, fr, a0, a1, a2, a3, a4, a5, a6, a7, a8, a9]) rfl ⟨⟨h0, h1, h2, h3, h4, hp, rfl⟩, ?_⟩
  repeat' (refine Below.setCell ?_ (by dsimp only; omega) _)
  exact hx3
end Go.Proofs.YtkljafmdbajfeaaGreatDoor

/- branch.reader: next, read. -/
namespace Go.Proofs.YtkljafmdbajfeaaGreatDoor
open Go.RowKit
structure Nd where
 va : Int
 at' : Int
 ys : List Int
 d : Int
def Nodes (w : World) (X : Option Addr) (l : List Nd) : Prop :=
 ∀ i, (h : i < l.length) → ∃ b off Y cy, X = some ⟨b, off, none⟩ ∧ w.cell? ⟨b, off + 4 * i, none⟩ = some (.int .i64 l[i].va) ∧ w.cell? ⟨b, off + 4 * i + 1, none⟩ = some (.int .i64 l[i].at') ∧ w.cell? ⟨b, off + 4 * i + 2, none⟩ = some (.slice Y l[i].ys.length cy) ∧ w.cell? ⟨b, off + 4 * i + 3, none⟩ = some (.int .i64 l[i].d) ∧ Ints w Y l[i].ys ∧ l[i].ys.length ≤ maxLen
theorem Nodes.tail {w : World} {b o : Nat} {n : Nd} {l : List Nd} (h : Nodes w (some ⟨b, o, none⟩) (n :: l)) : Nodes w (some ⟨b, o + 4, none⟩) l := fun i hi => by
 obtain ⟨b', off, Y, cy, e, c0, c1, c2, c3, hY, hl⟩ := h (i + 1) (by simp; omega)
 injection e with e; injection e with e1 e2; subst e1; subst e2
 have ee : o + 4 * (i + 1) = o + 4 + 4 * i := by omega
 rw [ee] at c0 c1 c2 c3
 exact ⟨b, o + 4, Y, cy, rfl, c0, c1, c2, c3, hY, hl⟩
def Reader (w : World) (r : Nat) (A B C U : Option Addr) (ca cb cc cu : Nat) (a : List (List Int)) (b c u : List Int) (cost : Int) (none : Bool) (left : Value) : Prop :=
 Blk w r [.slice A a.length ca, .slice B b.length cb, .slice C c.length cc, .slice U u.length cu, .int .i64 c.length, .int .i64 cost, .bool none, .slice .none 0 0, left] 182
set_option maxRecDepth 100000 in
set_option maxHeartbeats 2000000 in
theorem next_none (r : Nat) (A B C U X : Option Addr) (ca cb cc cu cx : Nat) (a : List (List Int)) (b c u : List Int) (cost : Int) (none : Bool) (w : World) (hr : Reader w r A B C U ca cb cc cu a b c u cost none (.slice X 0 cx)) :
  Calls Tryz.prog 190 #[.pointer (some ⟨r, 0, .none⟩)] w fun e w' => e = .returned (.tuple #[.agg #[.int .i64 0, .int .i64 0, .slice .none 0 0, .int .i64 0], .bool false]) ∧ Below w.heap.size w w' := by
 have hrl := Blk.lt hr
 have k8 : w.cell? ⟨r, 8, .none⟩ = some (.slice X 0 cx) := Blk.cell hr 8 (by simp)
 go_enter Tryz.func190, Tryz.ntmps190
 go_wp2
 try simp only [Exit.inBlock, Exit.then]
 refine bodyPost_ret (v := .tuple #[.agg #[.int .i64 0, .int .i64 0, .slice .none 0 0, .int .i64 0], .bool false]) (by simp [results, Tryz.results190, go_sem]) rfl ⟨rfl, (Below.refl _ _).alloc (Nat.le_refl _) _⟩
set_option maxRecDepth 100000 in
set_option maxHeartbeats 2000000 in
theorem next_some (r : Nat) (A B C U X : Option Addr) (ca cb cc cu cx : Nat) (a : List (List Int)) (b c u : List Int) (cost : Int) (none : Bool) (n : Nd) (l : List Nd) (w0 w : World) (hw0 : Below w0.heap.size w0 w) (hr : Reader w r A B C U ca cb cc cu a b c u cost none (.slice X (l.length + 1) cx)) (hn : Nodes w0 X (n :: l)) (hcx : l.length + 1 ≤ cx) (hm : cx ≤ maxLen) :
  Calls Tryz.prog 190 #[.pointer (some ⟨r, 0, .none⟩)] w fun e w' => ∃ X' cx' Y cy, e = .returned (.tuple #[.agg #[.int .i64 n.va, .int .i64 n.at', .slice Y n.ys.length cy, .int .i64 n.d], .bool true]) ∧ Ints w0 Y n.ys ∧ n.ys.length ≤ maxLen ∧
   Reader w' r A B C U ca cb cc cu a b c u cost none (.slice X' l.length cx') ∧ l.length ≤ cx' ∧ cx' ≤ maxLen ∧ Nodes w0 X' l ∧ But r w w' := by
 have hrl := Blk.lt hr
 have k8 : w.cell? ⟨r, 8, .none⟩ = some (.slice X (l.length + 1) cx) := Blk.cell hr 8 (by simp)
 obtain ⟨bx, ox, Y, cy, rfl, d0, d1, d2, d3, hY, hl⟩ := hn 0 (by simp)
 have hc := (bcell hw0).1
 have c0 : w.cell? ⟨bx, ox, .none⟩ = some (.int .i64 n.va) := (hc _ _ (cell_lt d0)).trans d0
 have c1 : w.cell? ⟨bx, ox + 1, .none⟩ = some (.int .i64 n.at') := (hc _ _ (cell_lt d0)).trans d1
 have c2 : w.cell? ⟨bx, ox + 2, .none⟩ = some (.slice Y n.ys.length cy) := (hc _ _ (cell_lt d0)).trans d2
 have c3 : w.cell? ⟨bx, ox + 3, .none⟩ = some (.int .i64 n.d) := (hc _ _ (cell_lt d0)).trans d3
 have bl := cell_lt c0
 have fr := Blk.free hr
 have hz : ((l.length : Int) + 1 == 0) = false := by simp; omega
 have hmx : cx ≤ 9223372036854775807 := hm
 have HR := Lib.hid hr; have HN := Lib.hid hn; have HY := Lib.hid hY; have HL := Lib.hid hl
 clear d0 d1 d2 d3 hc hr hn hY hl hm
 go_enter Tryz.func190, Tryz.ntmps190
 go_wp2
 case inr =>
  try simp only [Exit.inBlock, Exit.then]
  refine bodyPost_ret (v := .tuple #[.agg #[.int .i64 n.va, .int .i64 n.at', .slice Y n.ys.length cy, .int .i64 n.d], .bool true]) (by simp [results, Tryz.results190, go_sem]) rfl ?_
  exact ⟨some ⟨bx, ox + 4, .none⟩, cx - 1, Y, ⟨cy, rfl⟩, HY.out, HL.out, ((HR.out.set 8 _).alloc _).alloc _, by omega, by unfold maxLen; omega, HN.out.tail, (((But.refl r w).set 8 _).alloc _).alloc _⟩
 case inl =>
  obtain rfl : l = [] := List.eq_nil_of_length_eq_zero (by omega)
  try simp only [Exit.inBlock, Exit.then]
  refine bodyPost_ret (v := .tuple #[.agg #[.int .i64 n.va, .int .i64 n.at', .slice Y n.ys.length cy, .int .i64 n.d], .bool true]) (by simp [results, Tryz.results190, go_sem]) rfl ?_
  exact ⟨some ⟨bx, ox, .none⟩, 0, Y, ⟨cy, rfl⟩, HY.out, HL.out, ((HR.out.set 8 _).alloc _).alloc _, by simp, by unfold maxLen; omega, fun i hi => by simp at hi, (((But.refl r w).set 8 _).alloc _).alloc _⟩
end Go.Proofs.YtkljafmdbajfeaaGreatDoor

/- The statements' own small functions: same, light, short. -/
namespace Go.Proofs.YtkljafmdbajfeaaGreatDoor
open Go.RowKit
set_option linter.unusedVariables false
set_option linter.unusedSimpArgs false
def sameB (xs ys : List Int) : Bool := decide (xs = ys)
theorem sameB_len {xs ys : List Int} (h : xs.length ≠ ys.length) : sameB xs ys = false := by
 unfold sameB; exact decide_eq_false fun e => h (by rw [e])
theorem sameB_at {xs ys : List Int} {i : Nat} (h : nth xs i ≠ nth ys i) : sameB xs ys = false := by
 unfold sameB; exact decide_eq_false fun e => h (by rw [e])
theorem sameB_all {xs ys : List Int} (hl : xs.length = ys.length) (h : ∀ i, i < xs.length → nth xs i = nth ys i) : sameB xs ys = true := by
 unfold sameB
 refine decide_eq_true (List.ext_getElem hl fun i h1 h2 => ?_)
 have := h i h1
 rw [nth_lt h1, nth_lt h2] at this; exact this
set_option maxHeartbeats 1000000 in
theorem same_calls (A B : Option Addr) (ca cb : Nat) (xs ys : List Int) (w : World) (hx : xs.length ≤ maxLen) (hy : ys.length ≤ maxLen) (hA : Ints w A xs) (hB : Ints w B ys) :
  Calls Tryz.prog 106 #[.slice A xs.length ca, .slice B ys.length cb] w fun e w' => e = .returned (.bool (sameB xs ys)) ∧ ∃ k, w' = w.drewN k := by
 unfold maxLen at hx hy
 by_cases hl : xs.length = ys.length
 ·have d1 : ((xs.length : Int) != (ys.length : Int)) = false := by simp [hl]
  have HL := Lib.hid hl; clear hl
  go_enter Tryz.func106, Tryz.ntmps106
  go_wp2
  go_loopw [5] (fun i wr => ∃ k n : Nat, k ≤ xs.length ∧ i = .int .i64 k ∧ (∀ j, j < k → nth xs j = nth ys j) ∧ wr = w.drewN n) (fun i _ => xs.length - (intOf i).toNat)
  case atStart => exact ⟨0, 0, Nat.zero_le _, rfl, fun j hj => by omega, rfl⟩
  case round =>
   obtain ⟨k, n, hk, rfl, hs, rfl⟩ := hrel
   have HS := Lib.hid hs; clear hs
   by_cases hlt : k < xs.length
   ·obtain ⟨b1, o1, rfl, g1⟩ := hA k hlt
    obtain ⟨b2, o2, rfl, g2⟩ := hB k (by rw [← HL.out]; exact hlt)
    have h0 : (0 : Int) ≤ k := by omega
    have h1 : (k : Int) < xs.length := by omega
    have h2 : (k : Int) < ys.length := by have := HL.out; omega
    by_cases hq : nth xs k = nth ys k
    ·have q1 : (nth xs k != nth ys k) = false := by simp [hq]
     have HQ := Lib.hid hq; clear hq
     go_wp2_with fail
     go_quiet (fail)
     go_wp2
     go_roundw
     case rel => exact ⟨k + 1, _, by omega, by go_num, fun j hj => by rcases Nat.lt_or_ge j k with e | e; exact HS.out j e; (obtain rfl : j = k := by omega); exact HQ.out, by first | rfl | exact drewN_add _ _ _⟩
     case measure => simp [intOf]; omega
    ·have q1 : (nth xs k != nth ys k) = true := by simp [hq]
     have HQ := Lib.hid hq; clear hq
     go_wp2_with fail
     go_quiet (fail)
     go_wp2
     go_ret
     exact ⟨by rw [sameB_at HQ.out]; rfl, _, by first | rfl | exact drewN_add _ _ _⟩
   ·obtain rfl : k = xs.length := by omega
    go_wp2
    go_ret
    exact ⟨by rw [sameB_all HL.out HS.out]; rfl, n, rfl⟩
 ·have d1 : ((xs.length : Int) != (ys.length : Int)) = true := by simp; omega
  have HL := Lib.hid hl; clear hl
  go_enter Tryz.func106, Tryz.ntmps106
  go_wp2
  go_ret
  exact ⟨by rw [sameB_len HL.out]; rfl, 0, rfl⟩
def lightB (a : List (List Int)) (b c u : List Int) : Bool := decide (a.length ≤ 20) && decide (b.length ≤ 20) && decide (c.length ≤ 20) && decide (u.length ≤ 20) && a.all fun r => decide (r.length ≤ 20)
set_option maxHeartbeats 1000000 in
theorem light_calls (A B C U : Option Addr) (ca cb cc cu : Nat) (a : List (List Int)) (b c u : List Int) (w : World) (hw : Who w A B C U a b c u) :
  Calls Tryz.prog 46 #[.agg #[.slice A a.length ca, .slice B b.length cb, .slice C c.length cc, .slice U u.length cu]] w fun e w' => e = .returned (.bool (lightB a b c u)) ∧ Below w.heap.size w w' := by
 have hla := hw.p.la; have hlb := hw.p.lb; have hlc := hw.p.lc; have hlu := hw.lu; unfold maxLen at hla hlb hlc hlu
 have hb0 : ∀ o, Below w.heap.size w (w.alloc o) := fun o => (Below.refl _ _).alloc (Nat.le_refl _) _
 by_cases h1 : a.length ≤ 20
 ·have d1 : decide ((20 : Int) < a.length) = false := decide_eq_false (by omega)
  by_cases h2 : b.length ≤ 20
  ·have d2 : decide ((20 : Int) < b.length) = false := decide_eq_false (by omega)
   by_cases h3 : c.length ≤ 20
   ·have d3 : decide ((20 : Int) < c.length) = false := decide_eq_false (by omega)
    by_cases h4 : u.length ≤ 20
    ·have d4 : decide ((20 : Int) < u.length) = false := decide_eq_false (by omega)
     have hG := fun o => hw.p.ga.ext (hb0 o)
     have HR := Lib.hid hw.p.lr
     go_enter Tryz.func46, Tryz.ntmps46
     go_wp2
     go_loop [3] (fun i => ∃ k : Nat, k ≤ a.length ∧ i = .int .i64 k ∧ ∀ j, j < k → (nrow a j).length ≤ 20) (fun i => a.length - (intOf i).toNat)
     case atStart => exact ⟨0, Nat.zero_le _, rfl, fun j hj => by omega⟩
     case round =>
      obtain ⟨k, hk, rfl, hs⟩ := hrel
      have HS := Lib.hid hs; clear hs
      by_cases hlt : k < a.length
      ·obtain ⟨b1, o1, R, c1, rfl, g1, g2, -⟩ := hG (.cells #[.slice A a.length ca, .slice B b.length cb, .slice C c.length cc, .slice U u.length cu] 65 (0, 0)) k hlt
       have g3 := HR.out (nrow a k) (nrow_mem hlt)
       unfold maxLen at g3
       clear hG
       by_cases hq : (nrow a k).length ≤ 20
       ·have q1 : decide ((20 : Int) < (nrow a k).length) = false := decide_eq_false (by omega)
        go_wp2
        go_round
        case rel => exact ⟨k + 1, by omega, by go_num, fun j hj => by rcases Nat.lt_or_ge j k with e | e; exact HS.out j e; (obtain rfl : j = k := by omega); exact hq⟩
        case measure => simp [intOf]; omega
       ·have q1 : decide ((20 : Int) < (nrow a k).length) = true := decide_eq_true (by omega)
        go_wp2
        go_ret
        refine ⟨?_, hb0 _⟩
        have : lightB a b c u = false := by
         unfold lightB
         rw [all_rows_false hlt (decide_eq_false hq), Bool.and_false]
        rw [this]; rfl
      ·clear hG
       go_wp2
       go_ret
       refine ⟨?_, hb0 _⟩
       have : lightB a b c u = true := by
        unfold lightB
        rw [all_of_nrow fun i hi => decide_eq_true (HS.out i (by omega)), decide_eq_true h1, decide_eq_true h2, decide_eq_true h3, decide_eq_true h4]; rfl
       rw [this]; rfl
    ·have d4 : decide ((20 : Int) < u.length) = true := decide_eq_true (by omega)
     go_enter Tryz.func46, Tryz.ntmps46
     go_wp2
     go_ret
     exact ⟨by simp [lightB, h4], hb0 _⟩
   ·have d3 : decide ((20 : Int) < c.length) = true := decide_eq_true (by omega)
    go_enter Tryz.func46, Tryz.ntmps46
    go_wp2
    go_ret
    exact ⟨by simp [lightB, h3], hb0 _⟩
  ·have d2 : decide ((20 : Int) < b.length) = true := decide_eq_true (by omega)
   go_enter Tryz.func46, Tryz.ntmps46
   go_wp2
   go_ret
   exact ⟨by simp [lightB, h2], hb0 _⟩
 ·have d1 : decide ((20 : Int) < a.length) = true := decide_eq_true (by omega)
  go_enter Tryz.func46, Tryz.ntmps46
  go_wp2
  go_ret
  exact ⟨by simp [lightB, h1], hb0 _⟩
end Go.Proofs.YtkljafmdbajfeaaGreatDoor
