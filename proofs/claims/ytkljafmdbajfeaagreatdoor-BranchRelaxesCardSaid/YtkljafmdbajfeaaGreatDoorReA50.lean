/- The arguments of the statements, as they lie in memory: an integer program, a list of numbers, a proof's nodes. -/
import Derived.Deep.Slices
import Derived.Deep.Fields
import Derived.Deep.Matrix
import Derived.ChangeSame
import Derived.Lib.SmallJoins
import Derived.ProofKit
import Derived.OpenShut
import Derived.ChangeOld
import Derived.SizedLaws
import Derived.Test.YtkljafmdbajfeaaGreatDoorReA18
namespace Go.Proofs.YtkljafmdbajfeaaGreatDoor
open Go.RowKit Go.ChangeShapes Go.WideShapes Go.Deep Go.Joins Go.ChangeAt
set_option linter.unusedVariables false
set_option linter.unusedSimpArgs false
def InI (xs : List Int) : Prop := ∀ n ∈ xs, (Lit.int .i64 n).wf = true
theorem cell_spot {w : World} {a : Addr} {v : Value} (h : w.cell? a = some v) : a.spot = none := by
 obtain ⟨b, o, s⟩ := a
 cases s with
 | none => rfl
 | some s =>
   unfold World.cell? at h
   split at h <;> simp at h
theorem add_none (b o i : Nat) : Addr.add ⟨b, o, none⟩ i = ⟨b, o + i, none⟩ := by
 unfold Addr.add; split
 ·subst_vars; rfl
 ·rfl
theorem addr_flat {w : World} {a : Addr} {v : Value} (h : w.cell? (a.add 0) = some v) : a = ⟨a.block, a.off, none⟩ := by
 have := cell_spot (a := a) (by simpa [Addr.add] using h)
 obtain ⟨b, o, s⟩ := a
 dsimp only at this; subst this; rfl
section
variable {H : Type} {enc : TypeId × Value → H} {w : World}
theorem open_list {fuel : Nat} {v : Value} {x : DataW H × List MemPlace} (h : DataW.trod enc Tryz.prog w 0 (fun _ => true) true fuel 23 [v] = some x) :
  ∃ A c xs, v = .slice A (List.length xs) c ∧ Ints w A xs ∧ xs.length ≤ c ∧ c ≤ maxLen ∧ InI xs := by
 rcases open_ints Tryz.underlying23 Tryz.underlying3 (by kernel_rfl) h with ⟨hcs, -⟩ | ⟨a, len, cap, zs, hcs, -, hl, hm, hz, -, hcell, hwf⟩
 ·exact ⟨none, 0, [], by simpa using hcs, Ints.nil _ _, Nat.le_refl _, Nat.zero_le _, fun n hn => by cases hn⟩
 ·simp only [if_true] at hz
  have hlt : (zs.take len).length = len := by rw [List.length_take]; omega
  refine ⟨some a, cap, zs.take len, by rw [hlt]; simpa using hcs, fun i hi => ?_, by omega, hm, fun n hn => hwf n (List.mem_of_mem_take hn)⟩
  rw [hlt] at hi
  have hf := addr_flat (hcell 0 (by omega))
  have hc := hcell i (by omega)
  rw [hf, add_none] at hc
  refine ⟨a.block, a.off, congrArg some hf, ?_⟩
  have e : nth (zs.take len) i = zs.getD i 0 := by unfold nth; simp [List.getElem?_take, hi]
  rw [e]; exact hc
theorem open_grid {fuel : Nat} {v : Value} {x : DataW H × List MemPlace} (h : DataW.trod enc Tryz.prog w 0 (fun _ => true) true fuel 22 [v] = some x) :
  ∃ A c l, v = .slice A (List.length l) c ∧ Grid w A l ∧ l.length ≤ c ∧ c ≤ maxLen ∧ ∀ r ∈ l, r.length ≤ maxLen ∧ InI r := by
 rcases open_int_rows Tryz.underlying22 Tryz.underlying23 Tryz.underlying3 (by kernel_rfl) (by kernel_rfl) h with ⟨hcs, -⟩ | ⟨a, len, cap, A, L, C, Z, hcs, -, hl, hm, -, hrow⟩
 ·exact ⟨none, 0, [], by simpa using hcs, fun i hi => by simp at hi, Nat.le_refl _, Nat.zero_le _, fun r hr => by cases hr⟩
 ·have hlt : ((List.range len).map fun r => (Z r).take (L r)).length = len := by simp
  have hrl : ∀ r, r < cap → ((Z r).take (L r)).length = L r := fun r hr => by
   obtain ⟨-, h1, -, h3, -⟩ := hrow r hr
   rw [List.length_take]; omega
  refine ⟨some a, cap, (List.range len).map fun r => (Z r).take (L r), by rw [hlt]; simpa using hcs, fun i hi => ?_, by omega, hm, fun r hr => ?_⟩
  ·rw [hlt] at hi
   obtain ⟨h1, h2, h3, h4, h5, h6, h7⟩ := hrow i (by omega)
   have hf := addr_flat (hrow 0 (by omega)).1
   rw [hf, add_none] at h1
   have en : nrow ((List.range len).map fun r => (Z r).take (L r)) i = (Z i).take (L i) := by unfold nrow; simp [hi]
   rw [en]
   refine ⟨a.block, a.off, A i, C i, congrArg some hf, by rw [hrl i (by omega)]; exact h1, by rw [hrl i (by omega)]; exact h2, fun j hj => ?_⟩
   rw [hrl i (by omega)] at hj
   cases hA : A i with
   | none => have := h6 hA; omega
   | some a' =>
     obtain ⟨-, h8⟩ := h7 a' hA
     have hf' := addr_flat (h8 0 (by omega))
     have hc := h8 j (by omega)
     rw [hf', add_none] at hc
     refine ⟨a'.block, a'.off, congrArg some hf', ?_⟩
     have e : nth ((Z i).take (L i)) j = (Z i).getD j 0 := by unfold nth; simp [List.getElem?_take, hj]
     rw [e]; exact hc
  ·obtain ⟨r', hr', rfl⟩ := List.mem_map.1 hr
   have hr' := List.mem_range.1 hr'
   obtain ⟨-, h2, h3, -, h5, -⟩ := hrow r' (by omega)
   exact ⟨by rw [hrl r' (by omega)]; exact Nat.le_trans h2 h3, fun n hn => h5 n (List.mem_of_mem_take hn)⟩
set_option maxRecDepth 100000 in
theorem open_whole {b0 : Nat} {r : Reach} {v : Value} {d : DataW H} {p : List MemPlace} (hv : Value.okWide Tryz.prog w r b0 65 v) (h : DataW.Trod enc Tryz.prog w 0 (fun _ => true) true 65 v d p) :
  ∃ A B C U ca cb cc cu, ∃ (a : List (List Int)) (b c u : List Int), v = .agg #[.slice A a.length ca, .slice B b.length cb, .slice C c.length cc, .slice U u.length cu] ∧ Who w A B C U a b c u ∧ a.length ≤ ca ∧ b.length ≤ cb ∧ c.length ≤ cc ∧ u.length ≤ cu ∧ ca ≤ maxLen ∧ cb ≤ maxLen ∧ cc ≤ maxLen ∧ cu ≤ maxLen ∧ InI b ∧ InI c ∧ InI u := by
 obtain ⟨v0, v1, v2, v3, y0, y1, y2, y3, n, rfl, -, -, h0, h1, h2, h3⟩ := open_agg4 Tryz.underlying65 (by kernel_rfl) (by kernel_rfl) hv h
 obtain ⟨A, ca, a, rfl, g0, l0, m0, w0⟩ := open_grid h0
 obtain ⟨B, cb, b, rfl, g1, l1, m1, w1⟩ := open_list h1
 obtain ⟨C, cc, c, rfl, g2, l2, m2, w2⟩ := open_list h2
 obtain ⟨U, cu, u, rfl, g3, l3, m3, w3⟩ := open_list h3
 exact ⟨A, B, C, U, ca, cb, cc, cu, a, b, c, u, rfl, ⟨⟨g0, g1, g2, Nat.le_trans l0 m0, fun r hr => (w0 r hr).1, Nat.le_trans l1 m1, Nat.le_trans l2 m2⟩, g3, Nat.le_trans l3 m3⟩, l0, l1, l2, l3, m0, m1, m2, m3, w1, w2, w3⟩
end
end Go.Proofs.YtkljafmdbajfeaaGreatDoor
