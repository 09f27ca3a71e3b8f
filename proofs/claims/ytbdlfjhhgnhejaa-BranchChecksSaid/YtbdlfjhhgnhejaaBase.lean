/- What a slice of ints, of rows, reads as in memory; how such readings outlive a call that only makes memory. Plain lemmas, no function of the program. -/
import Derived.Test.YtbdlfjhhgnhejaaProg
import Derived.WalkKit
import Derived.WalkSpells
import Derived.Deep.QuietTactic
import Derived.BigQuiet
import Derived.Deep.LoopGhost
import Derived.Deep.RegionHeld3
import Derived.Lib.Hide
import Derived.Deep.DeepCutAuto
import Derived.Deep.CutBlock
import Derived.Deep.Light
import Derived.StillTailTactics
namespace Go.Proofs.Ytbdlfjhhgnhejaa
open Go.RowKit

theorem cell_lt {w : World} {a : Addr} {v : Value} (h : w.cell? a = some v) : a.block < w.heap.size := by
  unfold World.cell? at h
  rcases Nat.lt_or_ge a.block w.heap.size with hl | hl
  · exact hl
  · rw [Array.getElem?_eq_none hl] at h; simp at h

/-- The i-th number of a list; 0 behind its end. -/
def nth (xs : List Int) (i : Nat) : Int := xs.getD i 0
/-- The i-th row of a list; none behind its end. -/
def nrow (l : List (List Int)) (i : Nat) : List Int := l.getD i []

/-- The numbers xs lie in w from A on. -/
def Ints (w : World) (A : Option Addr) (xs : List Int) : Prop :=
  ∀ i, i < xs.length → ∃ b off, A = some ⟨b, off, none⟩ ∧ w.cell? ⟨b, off + i, none⟩ = some (.int .i64 (nth xs i))
/-- The rows l lie in w from A on. -/
def Grid (w : World) (A : Option Addr) (l : List (List Int)) : Prop :=
  ∀ i, i < l.length → ∃ b off R c, A = some ⟨b, off, none⟩ ∧ w.cell? ⟨b, off + i, none⟩ = some (.slice R (nrow l i).length c) ∧ (nrow l i).length ≤ c ∧ Ints w R (nrow l i)

theorem Ints.ext {w w' : World} {A : Option Addr} {xs : List Int} (h : Ints w A xs) (hb : Below w.heap.size w w') : Ints w' A xs := fun i hi => by
  obtain ⟨b, off, e, hc⟩ := h i hi
  exact ⟨b, off, e, by rw [hb.cell (cell_lt hc)]; exact hc⟩
theorem Grid.ext {w w' : World} {A : Option Addr} {l : List (List Int)} (h : Grid w A l) (hb : Below w.heap.size w w') : Grid w' A l := fun i hi => by
  obtain ⟨b, off, R, c, e, hc, hl, hr⟩ := h i hi
  exact ⟨b, off, R, c, e, by rw [hb.cell (cell_lt hc)]; exact hc, hl, hr.ext hb⟩
theorem Ints.nil (w : World) (A : Option Addr) : Ints w A [] := fun i hi => by simp at hi
theorem Ints.cast {w w' : World} {A : Option Addr} {xs : List Int} (h : Ints w A xs) (hc : ∀ a, w'.cell? a = w.cell? a) : Ints w' A xs := fun i hi => by
  obtain ⟨b, off, e, h⟩ := h i hi
  exact ⟨b, off, e, by rw [hc]; exact h⟩

theorem drewN_add (w : World) (m n : Nat) : (w.drewN m).drewN n = w.drewN (m + n) := by simp [World.drewN, Nat.add_assoc]
theorem drewN_below (w : World) (n : Nat) : Below w.heap.size w (w.drewN n) := ⟨rfl, rfl, rfl, Nat.le_refl _, fun _ _ => rfl⟩
theorem bcell {W w1 : World} (hb : Below W.heap.size W w1) : (∀ b o, b < W.heap.size → w1.cell? ⟨b, o, none⟩ = W.cell? ⟨b, o, none⟩) ∧ (∀ b o, b < W.heap.size → w1.frozen? ⟨b, o, none⟩ = W.frozen? ⟨b, o, none⟩) :=
  ⟨fun b o h => hb.cell (p := ⟨b, o, none⟩) h, fun b o h => hb.frozen (p := ⟨b, o, none⟩) h⟩
theorem ext_trans {a b c : World} (h : Below a.heap.size a b) (k : Below b.heap.size b c) : Below a.heap.size a c := h.trans (k.mono h.size)

theorem nth_lt {xs : List Int} {i : Nat} (h : i < xs.length) : nth xs i = xs[i] := by unfold nth; simp [h]
theorem nth_mem {xs : List Int} {i : Nat} (h : i < xs.length) : nth xs i ∈ xs := by rw [nth_lt h]; exact List.getElem_mem h
theorem nrow_lt {l : List (List Int)} {i : Nat} (h : i < l.length) : nrow l i = l[i] := by unfold nrow; simp [h]
theorem nrow_mem {l : List (List Int)} {i : Nat} (h : i < l.length) : nrow l i ∈ l := by rw [nrow_lt h]; exact List.getElem_mem h
theorem take_nth {xs : List Int} {i : Nat} (h : i < xs.length) : xs.take (i + 1) = xs.take i ++ [nth xs i] := by
  rw [List.take_succ_eq_append_getElem h, nth_lt h]
theorem take_nrow {l : List (List Int)} {i : Nat} (h : i < l.length) : l.take (i + 1) = l.take i ++ [nrow l i] := by
  rw [List.take_succ_eq_append_getElem h, nrow_lt h]

end Go.Proofs.Ytbdlfjhhgnhejaa
