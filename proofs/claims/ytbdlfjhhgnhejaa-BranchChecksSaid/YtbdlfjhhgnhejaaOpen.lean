/- The arguments of the statements, as they lie in memory: an integer program, a list of numbers, a proof's nodes. -/
import Derived.Test.YtbdlfjhhgnhejaaRead
import Derived.Deep.Slices
import Derived.Deep.Fields
import Derived.Deep.Matrix
import Derived.ChangeSame
import Derived.Lib.SmallJoins
import Derived.ProofKit
import Derived.OpenShut
import Derived.ChangeOld
import Derived.SizedLaws
namespace Go.Proofs.Ytbdlfjhhgnhejaa
open Go.RowKit Go.ChangeShapes Go.WideShapes Go.Deep Go.Joins Go.ChangeAt
set_option linter.unusedVariables false
set_option linter.unusedSimpArgs false

/-- Each number is an int's. -/
def InI (xs : List Int) : Prop := ∀ n ∈ xs, (Lit.int .i64 n).wf = true
theorem inI_bd {n : Int} (h : (Lit.int .i64 n).wf = true) : -9223372036854775808 ≤ n ∧ n ≤ 9223372036854775807 := by
  have h1 : IntKind.i64.min ≤ n ∧ n ≤ IntKind.i64.max := by
    have := h
    simp only [Lit.wf, Bool.and_eq_true, decide_eq_true_eq] at this
    exact this
  exact h1

theorem cell_spot {w : World} {a : Addr} {v : Value} (h : w.cell? a = some v) : a.spot = none := by
  obtain ⟨b, o, s⟩ := a
  cases s with
  | none => rfl
  | some s =>
    unfold World.cell? at h
    split at h <;> simp at h
theorem add_none (b o i : Nat) : Addr.add ⟨b, o, none⟩ i = ⟨b, o + i, none⟩ := by
  unfold Addr.add; split
  · subst_vars; rfl
  · rfl
/-- An address that is read, written out. -/
theorem addr_flat {w : World} {a : Addr} {v : Value} (h : w.cell? (a.add 0) = some v) : a = ⟨a.block, a.off, none⟩ := by
  have := cell_spot (a := a) (by simpa [Addr.add] using h)
  obtain ⟨b, o, s⟩ := a
  dsimp only at this; subst this; rfl

section
variable {H : Type} {enc : TypeId × Value → H} {w : World}
theorem open_list {fuel : Nat} {v : Value} {x : DataW H × List MemPlace} (h : DataW.trod enc Try.prog w 0 (fun _ => true) true fuel 23 [v] = some x) :
    ∃ A c xs, v = .slice A (List.length xs) c ∧ Ints w A xs ∧ xs.length ≤ c ∧ c ≤ maxLen ∧ InI xs := by
  rcases open_ints Try.underlying23 Try.underlying3 (by kernel_rfl) h with ⟨hcs, -⟩ | ⟨a, len, cap, zs, hcs, -, hl, hm, hz, -, hcell, hwf⟩
  · exact ⟨none, 0, [], by simpa using hcs, Ints.nil _ _, Nat.le_refl _, Nat.zero_le _, fun n hn => by cases hn⟩
  · simp only [if_true] at hz
    have hlt : (zs.take len).length = len := by rw [List.length_take]; omega
    refine ⟨some a, cap, zs.take len, by rw [hlt]; simpa using hcs, fun i hi => ?_, by omega, hm, fun n hn => hwf n (List.mem_of_mem_take hn)⟩
    rw [hlt] at hi
    have hf := addr_flat (hcell 0 (by omega))
    have hc := hcell i (by omega)
    rw [hf, add_none] at hc
    refine ⟨a.block, a.off, congrArg some hf, ?_⟩
    have e : nth (zs.take len) i = zs.getD i 0 := by unfold nth; simp [List.getElem?_take, hi]
    rw [e]; exact hc

theorem open_grid {fuel : Nat} {v : Value} {x : DataW H × List MemPlace} (h : DataW.trod enc Try.prog w 0 (fun _ => true) true fuel 22 [v] = some x) :
    ∃ A c l, v = .slice A (List.length l) c ∧ Grid w A l ∧ l.length ≤ c ∧ c ≤ maxLen ∧ ∀ r ∈ l, r.length ≤ maxLen ∧ InI r := by
  rcases open_int_rows Try.underlying22 Try.underlying23 Try.underlying3 (by kernel_rfl) (by kernel_rfl) h with ⟨hcs, -⟩ | ⟨a, len, cap, A, L, C, Z, hcs, -, hl, hm, -, hrow⟩
  · exact ⟨none, 0, [], by simpa using hcs, fun i hi => by simp at hi, Nat.le_refl _, Nat.zero_le _, fun r hr => by cases hr⟩
  · have hlt : ((List.range len).map fun r => (Z r).take (L r)).length = len := by simp
    have hrl : ∀ r, r < cap → ((Z r).take (L r)).length = L r := fun r hr => by
      obtain ⟨-, h1, -, h3, -⟩ := hrow r hr
      rw [List.length_take]; omega
    refine ⟨some a, cap, (List.range len).map fun r => (Z r).take (L r), by rw [hlt]; simpa using hcs, fun i hi => ?_, by omega, hm, fun r hr => ?_⟩
    · rw [hlt] at hi
      obtain ⟨h1, h2, h3, h4, h5, h6, h7⟩ := hrow i (by omega)
      have hf := addr_flat (hrow 0 (by omega)).1
      rw [hf, add_none] at h1
      have en : nrow ((List.range len).map fun r => (Z r).take (L r)) i = (Z i).take (L i) := by unfold nrow; simp [hi]
      rw [en]
      refine ⟨a.block, a.off, A i, C i, congrArg some hf, by rw [hrl i (by omega)]; exact h1, by rw [hrl i (by omega)]; exact h2, fun j hj => ?_⟩
      rw [hrl i (by omega)] at hj
      cases hA : A i with
      | none => have := h6 hA; omega
      | some a' =>
        obtain ⟨-, h8⟩ := h7 a' hA
        have hf' := addr_flat (h8 0 (by omega))
        have hc := h8 j (by omega)
        rw [hf', add_none] at hc
        refine ⟨a'.block, a'.off, congrArg some hf', ?_⟩
        have e : nth ((Z i).take (L i)) j = (Z i).getD j 0 := by unfold nth; simp [List.getElem?_take, hj]
        rw [e]; exact hc
    · obtain ⟨r', hr', rfl⟩ := List.mem_map.1 hr
      have hr' := List.mem_range.1 hr'
      obtain ⟨-, h2, h3, -, h5, -⟩ := hrow r' (by omega)
      exact ⟨by rw [hrl r' (by omega)]; exact Nat.le_trans h2 h3, fun n hn => h5 n (List.mem_of_mem_take hn)⟩

set_option maxRecDepth 100000 in
/-- An integer program. -/
theorem open_whole {b0 : Nat} {r : Reach} {v : Value} {d : DataW H} {p : List MemPlace} (hv : Value.okWide Try.prog w r b0 25 v) (h : DataW.Trod enc Try.prog w 0 (fun _ => true) true 25 v d p) :
    ∃ A B C U ca cb cc cu, ∃ (a : List (List Int)) (b c u : List Int), v = .agg #[.slice A a.length ca, .slice B b.length cb, .slice C c.length cc, .slice U u.length cu] ∧ Who w A B C U a b c u ∧ a.length ≤ ca ∧ b.length ≤ cb ∧ c.length ≤ cc ∧ u.length ≤ cu ∧ ca ≤ maxLen ∧ cb ≤ maxLen ∧ cc ≤ maxLen ∧ cu ≤ maxLen ∧ InI b ∧ InI c ∧ InI u := by
  obtain ⟨v0, v1, v2, v3, y0, y1, y2, y3, n, rfl, -, -, h0, h1, h2, h3⟩ := open_agg4 Try.underlying25 (by kernel_rfl) (by kernel_rfl) hv h
  obtain ⟨A, ca, a, rfl, g0, l0, m0, w0⟩ := open_grid h0
  obtain ⟨B, cb, b, rfl, g1, l1, m1, w1⟩ := open_list h1
  obtain ⟨C, cc, c, rfl, g2, l2, m2, w2⟩ := open_list h2
  obtain ⟨U, cu, u, rfl, g3, l3, m3, w3⟩ := open_list h3
  exact ⟨A, B, C, U, ca, cb, cc, cu, a, b, c, u, rfl, ⟨⟨g0, g1, g2, Nat.le_trans l0 m0, fun r hr => (w0 r hr).1, Nat.le_trans l1 m1, Nat.le_trans l2 m2⟩, g3, Nat.le_trans l3 m3⟩, l0, l1, l2, l3, m0, m1, m2, m3, w1, w2, w3⟩

/-- The fields of the elements of a slice of structs. -/
theorem open_fields {P : Program} {t e : TypeId} {fs : Array Field} {fuel : Nat} {cs : List Value} {x : DataW H × List MemPlace} (ht : P.underlying t = some (.slice e)) (he : P.underlying e = some (.struct fs))
    (hone : oneCellFields P fs = true) (hC : P.cellsOf e = fs.size) (h : DataW.trod enc P w 0 (fun _ => true) true fuel t cs = some x) :
    cs = [.slice none 0 0] ∨
    ∃ (a : Addr) (len cap : Nat), cs = [.slice (some a) len cap] ∧ len ≤ cap ∧ cap ≤ maxLen ∧
      ∀ i, i < cap → ∃ n : Nat, ∀ (j : Nat) (f : Field), fs[j]? = some f → ∃ (v : Value) (y : DataW H × List MemPlace), w.cell? (a.add (i * fs.size + j)) = some v ∧ DataW.trod enc P w 0 (fun _ => true) true n f.type [v] = some y := by
  rcases open_slice ht h with h0 | ⟨a, len, cap, m, n, D, Pl, hcs, hb, hl, hm, hmm, hx, hi⟩
  · exact .inl h0.1
  · simp only [if_true] at hmm
    refine .inr ⟨a, len, cap, hcs, hl, hm, fun i him => ?_⟩
    obtain ⟨cs', hc, ht'⟩ := hi i (by omega)
    rw [hC] at hc
    obtain ⟨ys, n', hn', hy, hlen, hyl, hf⟩ := DataW.trod_struct he ht'
    obtain ⟨_, hcl, hat⟩ := World.cells?_some hc
    refine ⟨n', fun j f hj => ?_⟩
    obtain ⟨ho, hk⟩ := hone_of hone j f hj
    have hjl : j < fs.size := (Array.getElem?_eq_some_iff.1 hj).1
    have hcell := hat j hjl
    have hv : cs'[j]? = some (cs'[j]'(by omega)) := List.getElem?_eq_getElem (by omega)
    have h1 := hf j f hj
    rw [ho, hk] at h1
    have hone' : (cs'.drop j).take 1 = [cs'[j]'(by omega)] := by
      rw [List.drop_eq_getElem_cons (by omega)]
      rfl
    rw [hone'] at h1
    have hys : ys[j]? = some (ys[j]'(by omega)) := List.getElem?_eq_getElem (by omega)
    refine ⟨_, _, ?_, h1.trans hys⟩
    rw [← Go.Deep.add_add, hcell, hv]

theorem choose_to {α : Type} (d : α) {n : Nat} {p : Nat → α → Prop} (h : ∀ i, i < n → ∃ x, p i x) : ∃ f : Nat → α, ∀ i, i < n → p i (f i) :=
  ⟨fun i => if hi : i < n then Classical.choose (h i hi) else d, fun i hi => by simp only [hi, dif_pos]; exact Classical.choose_spec (h i hi)⟩

set_option maxRecDepth 100000 in
/-- The nodes of a proof. -/
theorem open_nodes {v : Value} {b0 : Nat} {r : Reach} {d : DataW H} {p : List MemPlace} (hv : Value.okWide Try.prog w r b0 26 v) (h : DataW.Trod enc Try.prog w 0 (fun _ => true) true 26 v d p) :
    ∃ X cx L, v = .slice X (List.length L) cx ∧ Nodes w X L ∧ L.length ≤ cx ∧ cx ≤ maxLen ∧ ∀ n ∈ L, (Lit.int .i64 n.va).wf = true ∧ (Lit.int .i64 n.at').wf = true ∧ (Lit.int .i64 n.d).wf = true ∧ InI n.ys := by
  obtain ⟨A, len, cap, rfl⟩ := okWide_slice Try.underlying26 hv
  obtain ⟨fuel, hf⟩ := h
  rcases open_fields Try.underlying26 Try.underlying34 (by kernel_rfl) (by kernel_rfl) hf with hcs | ⟨a, l, c, hcs, hl, hm, hi⟩
  · simp [Value.cells] at hcs
    obtain ⟨rfl, rfl, rfl⟩ := hcs
    exact ⟨none, 0, [], rfl, fun i hi => by simp at hi, Nat.le_refl _, Nat.zero_le _, fun n hn => by cases hn⟩
  · simp [Value.cells] at hcs
    obtain ⟨rfl, rfl, rfl⟩ := hcs
    have each : ∀ i, i < cap → ∃ x : Nd × Option Addr × Nat, w.cell? (a.add (i * 4)) = some (.int .i64 x.1.va) ∧ w.cell? (a.add (i * 4 + 1)) = some (.int .i64 x.1.at') ∧ w.cell? (a.add (i * 4 + 2)) = some (.slice x.2.1 x.1.ys.length x.2.2) ∧ w.cell? (a.add (i * 4 + 3)) = some (.int .i64 x.1.d) ∧ Ints w x.2.1 x.1.ys ∧ x.1.ys.length ≤ maxLen ∧ (Lit.int .i64 x.1.va).wf = true ∧ (Lit.int .i64 x.1.at').wf = true ∧ (Lit.int .i64 x.1.d).wf = true ∧ InI x.1.ys := by
      intro i hic
      obtain ⟨n, hf⟩ := hi i hic
      obtain ⟨v0, y0, c0, t0⟩ := hf 0 _ rfl
      obtain ⟨v1, y1, c1, t1⟩ := hf 1 _ rfl
      obtain ⟨v2, y2, c2, t2⟩ := hf 2 _ rfl
      obtain ⟨v3, y3, c3, t3⟩ := hf 3 _ rfl
      obtain ⟨n0, e0, -, w0⟩ := DataW.trod_int Try.underlying3 t0
      obtain ⟨n1, e1, -, w1⟩ := DataW.trod_int Try.underlying3 t1
      obtain ⟨Y, cy, ys, e2, g2, l2, m2, w2⟩ := open_list t2
      obtain ⟨n3, e3, -, w3⟩ := DataW.trod_int Try.underlying3 t3
      simp at e0 e1 e3
      subst e0 e1 e2 e3
      exact ⟨(⟨n0, n1, ys, n3⟩, Y, cy), c0, c1, c2, c3, g2, Nat.le_trans l2 m2, w0, w1, w3, w2⟩
    obtain ⟨f, hf⟩ := choose_to (⟨0, 0, [], 0⟩, none, 0) each
    have hlen : ((List.range len).map fun i => (f i).1).length = len := by simp
    refine ⟨some a, cap, (List.range len).map fun i => (f i).1, by rw [hlen], fun i hil => ?_, by omega, hm, fun n hn => ?_⟩
    · rw [hlen] at hil
      obtain ⟨c0, c1, c2, c3, g, m, -⟩ := hf i (by omega)
      have hfl := addr_flat (by simpa using (hf 0 (by omega)).1)
      rw [hfl, add_none, Nat.mul_comm i 4] at c0 c1 c2 c3
      have en : ((List.range len).map fun i => (f i).1)[i]'(by rw [hlen]; exact hil) = (f i).1 := by simp
      rw [en]
      exact ⟨a.block, a.off, (f i).2.1, (f i).2.2, congrArg some hfl, c0, by rw [Nat.add_assoc]; exact c1, by rw [Nat.add_assoc]; exact c2, by rw [Nat.add_assoc]; exact c3, g, m⟩
    · obtain ⟨i, hi', rfl⟩ := List.mem_map.1 hn
      have hi' := List.mem_range.1 hi'
      obtain ⟨-, -, -, -, -, -, w0, w1, w3, w2⟩ := hf i (by omega)
      exact ⟨w0, w1, w3, w2⟩
end
end Go.Proofs.Ytbdlfjhhgnhejaa
