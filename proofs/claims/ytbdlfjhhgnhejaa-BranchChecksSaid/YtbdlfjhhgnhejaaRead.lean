/- branch.reader: next, read. -/
import Derived.Test.YtbdlfjhhgnhejaaWhole
namespace Go.Proofs.Ytbdlfjhhgnhejaa
open Go.RowKit

/-- A node of a proof. -/
structure Nd where
  va : Int
  at' : Int
  ys : List Int
  d : Int
/-- Nodes lie in w from X on. -/
def Nodes (w : World) (X : Option Addr) (l : List Nd) : Prop :=
  ∀ i, (h : i < l.length) → ∃ b off Y cy, X = some ⟨b, off, none⟩ ∧ w.cell? ⟨b, off + 4 * i, none⟩ = some (.int .i64 l[i].va) ∧ w.cell? ⟨b, off + 4 * i + 1, none⟩ = some (.int .i64 l[i].at') ∧ w.cell? ⟨b, off + 4 * i + 2, none⟩ = some (.slice Y l[i].ys.length cy) ∧ w.cell? ⟨b, off + 4 * i + 3, none⟩ = some (.int .i64 l[i].d) ∧ Ints w Y l[i].ys ∧ l[i].ys.length ≤ maxLen
theorem Nodes.ext {w w' : World} {X : Option Addr} {l : List Nd} (h : Nodes w X l) (hb : Below w.heap.size w w') : Nodes w' X l := fun i hi => by
  obtain ⟨b, off, Y, cy, e, c0, c1, c2, c3, hY, hl⟩ := h i hi
  have hc := (bcell hb).1
  have := cell_lt c0
  exact ⟨b, off, Y, cy, e, (hc _ _ this).trans c0, (hc _ _ this).trans c1, (hc _ _ this).trans c2, (hc _ _ this).trans c3, hY.ext hb, hl⟩
theorem Nodes.tail {w : World} {b o : Nat} {n : Nd} {l : List Nd} (h : Nodes w (some ⟨b, o, none⟩) (n :: l)) : Nodes w (some ⟨b, o + 4, none⟩) l := fun i hi => by
  obtain ⟨b', off, Y, cy, e, c0, c1, c2, c3, hY, hl⟩ := h (i + 1) (by simp; omega)
  injection e with e; injection e with e1 e2; subst e1; subst e2
  have ee : o + 4 * (i + 1) = o + 4 + 4 * i := by omega
  rw [ee] at c0 c1 c2 c3
  exact ⟨b, o + 4, Y, cy, rfl, c0, c1, c2, c3, hY, hl⟩
/-- A reader's block. -/
def Reader (w : World) (r : Nat) (A B C U : Option Addr) (ca cb cc cu : Nat) (a : List (List Int)) (b c u : List Int) (cost : Int) (none : Bool) (left : Value) : Prop :=
  Blk w r [.slice A a.length ca, .slice B b.length cb, .slice C c.length cc, .slice U u.length cu, .int .i64 c.length, .int .i64 cost, .bool none, .slice .none 0 0, left] 53

set_option maxRecDepth 100000 in
set_option maxHeartbeats 2000000 in
theorem next_none (r : Nat) (A B C U X : Option Addr) (ca cb cc cu cx : Nat) (a : List (List Int)) (b c u : List Int) (cost : Int) (none : Bool) (w : World) (hr : Reader w r A B C U ca cb cc cu a b c u cost none (.slice X 0 cx)) :
    Calls Try.prog 34 #[.pointer (some ⟨r, 0, .none⟩)] w fun e w' => e = .returned (.tuple #[.agg #[.int .i64 0, .int .i64 0, .slice .none 0 0, .int .i64 0], .bool false]) ∧ Below w.heap.size w w' := by
  have hrl := Blk.lt hr
  have k8 : w.cell? ⟨r, 8, .none⟩ = some (.slice X 0 cx) := Blk.cell hr 8 (by simp)
  go_enter Try.func34, Try.ntmps34
  go_wp2
  try simp only [Exit.inBlock, Exit.then]
  refine bodyPost_ret (v := .tuple #[.agg #[.int .i64 0, .int .i64 0, .slice .none 0 0, .int .i64 0], .bool false]) (by simp [results, Try.results34, go_sem]) rfl ⟨rfl, (Below.refl _ _).alloc (Nat.le_refl _) _⟩
set_option maxRecDepth 100000 in
set_option maxHeartbeats 2000000 in
theorem next_some (r : Nat) (A B C U X : Option Addr) (ca cb cc cu cx : Nat) (a : List (List Int)) (b c u : List Int) (cost : Int) (none : Bool) (n : Nd) (l : List Nd) (w0 w : World) (hw0 : Below w0.heap.size w0 w) (hr : Reader w r A B C U ca cb cc cu a b c u cost none (.slice X (l.length + 1) cx)) (hn : Nodes w0 X (n :: l)) (hcx : l.length + 1 ≤ cx) (hm : cx ≤ maxLen) :
    Calls Try.prog 34 #[.pointer (some ⟨r, 0, .none⟩)] w fun e w' => ∃ X' cx' Y cy, e = .returned (.tuple #[.agg #[.int .i64 n.va, .int .i64 n.at', .slice Y n.ys.length cy, .int .i64 n.d], .bool true]) ∧ Ints w0 Y n.ys ∧ n.ys.length ≤ maxLen ∧
      Reader w' r A B C U ca cb cc cu a b c u cost none (.slice X' l.length cx') ∧ l.length ≤ cx' ∧ cx' ≤ maxLen ∧ Nodes w0 X' l ∧ But r w w' := by
  have hrl := Blk.lt hr
  have k8 : w.cell? ⟨r, 8, .none⟩ = some (.slice X (l.length + 1) cx) := Blk.cell hr 8 (by simp)
  obtain ⟨bx, ox, Y, cy, rfl, d0, d1, d2, d3, hY, hl⟩ := hn 0 (by simp)
  have hc := (bcell hw0).1
  have c0 : w.cell? ⟨bx, ox, .none⟩ = some (.int .i64 n.va) := (hc _ _ (cell_lt d0)).trans d0
  have c1 : w.cell? ⟨bx, ox + 1, .none⟩ = some (.int .i64 n.at') := (hc _ _ (cell_lt d0)).trans d1
  have c2 : w.cell? ⟨bx, ox + 2, .none⟩ = some (.slice Y n.ys.length cy) := (hc _ _ (cell_lt d0)).trans d2
  have c3 : w.cell? ⟨bx, ox + 3, .none⟩ = some (.int .i64 n.d) := (hc _ _ (cell_lt d0)).trans d3
  have bl := cell_lt c0
  have fr := Blk.free hr
  have hz : ((l.length : Int) + 1 == 0) = false := by simp; omega
  have hmx : cx ≤ 9223372036854775807 := hm
  have HR := Lib.hid hr; have HN := Lib.hid hn; have HY := Lib.hid hY; have HL := Lib.hid hl
  clear d0 d1 d2 d3 hc hr hn hY hl hm
  go_enter Try.func34, Try.ntmps34
  go_wp2
  case inr =>
    try simp only [Exit.inBlock, Exit.then]
    refine bodyPost_ret (v := .tuple #[.agg #[.int .i64 n.va, .int .i64 n.at', .slice Y n.ys.length cy, .int .i64 n.d], .bool true]) (by simp [results, Try.results34, go_sem]) rfl ?_
    exact ⟨some ⟨bx, ox + 4, .none⟩, cx - 1, Y, ⟨cy, rfl⟩, HY.out, HL.out, ((HR.out.set 8 _).alloc _).alloc _, by omega, by unfold maxLen; omega, HN.out.tail, (((But.refl r w).set 8 _).alloc _).alloc _⟩
  case inl =>
    obtain rfl : l = [] := List.eq_nil_of_length_eq_zero (by omega)
    try simp only [Exit.inBlock, Exit.then]
    refine bodyPost_ret (v := .tuple #[.agg #[.int .i64 n.va, .int .i64 n.at', .slice Y n.ys.length cy, .int .i64 n.d], .bool true]) (by simp [results, Try.results34, go_sem]) rfl ?_
    exact ⟨some ⟨bx, ox, .none⟩, 0, Y, ⟨cy, rfl⟩, HY.out, HL.out, ((HR.out.set 8 _).alloc _).alloc _, by simp, by unfold maxLen; omega, fun i hi => by simp at hi, (((But.refl r w).set 8 _).alloc _).alloc _⟩
end Go.Proofs.Ytbdlfjhhgnhejaa
