/- BranchSolves: the walk of the statement. -/
import Derived.Test.YtbdlfjhhgnhejaaAlive
import Derived.Test.YtbdlfjhhgnhejaaRefCnt
namespace Go.Proofs.Ytbdlfjhhgnhejaa
open Go.RowKit

/-- Solve's answer. -/
def solveV (a : List (List Int)) (b c u : List Int) : List Int × Int × Int :=
  if wholeOk a b c u then match bestL c (feasL a b u) with
    | none => ([], 0, 10)
    | some x => (x, dotZ c x, 0)
  else ([], 0, 2)
theorem solve_form {a : List (List Int)} {b c u : List Int} {w : World} {e : Ending} {w' : World} (h : SolvePost a b c u w e w') :
    ∃ S cap, e = .returned (.tuple #[.slice S (solveV a b c u).1.length cap, .int .i64 (solveV a b c u).2.1, .int .i64 (solveV a b c u).2.2]) ∧ Ints w' S (solveV a b c u).1 ∧ (solveV a b c u).1.length ≤ maxLen ∧ Below w.heap.size w w' := by
  obtain ⟨hr, hb⟩ := h
  unfold SolveRes at hr
  unfold solveV
  cases hok : wholeOk a b c u
  · rw [hok] at hr
    simp only [Bool.false_eq_true, if_false] at hr ⊢
    exact ⟨none, 0, hr, Ints.nil _ _, by simp [maxLen], hb⟩
  · rw [hok] at hr
    simp only [if_true] at hr ⊢
    cases hB : bestL c (feasL a b u) with
    | none =>
      rw [hB] at hr
      exact ⟨none, 0, hr, Ints.nil _ _, by simp [maxLen], hb⟩
    | some x =>
      rw [hB] at hr
      obtain ⟨g, cap, he, hl, hI⟩ := hr
      obtain ⟨-, h0, h5⟩ := wholeOk_len hok
      exact ⟨_, cap, by dsimp only; rw [hl]; exact he, hI, by dsimp only; unfold maxLen; omega, hb⟩

def countV (a : List (List Int)) (b c u : List Int) (most : Int) : Int × Int :=
  if wholeOk a b c u then ((cntL c most (feasL a b u) : Nat), 0) else (0, 2)
theorem count_form (a : List (List Int)) (b c u : List Int) (most : Int) : CountVal a b c u most = .tuple #[.int .i64 (countV a b c u most).1, .int .i64 (countV a b c u most).2] := by
  unfold CountVal countV; split <;> rfl

set_option maxRecDepth 100000 in
set_option maxHeartbeats 1000000 in
theorem solves_dark (A B C U : Option Addr) (ca cb cc cu : Nat) (a : List (List Int)) (b c u : List Int) (cost : Int) (w : World) (hw : Who w A B C U a b c u) (hl : lightB a b c u = false) :
    Calls Try.prog 7 #[.agg #[.slice A a.length ca, .slice B b.length cb, .slice C c.length cc, .slice U u.length cu], .int .i64 cost] w fun e w' => e = .returned (.bool true) ∧ Below w.heap.size w w' := by
  have hb0 : ∀ o, Below w.heap.size w (w.alloc o) := fun o => (Below.refl _ _).alloc (Nat.le_refl _) _
  have hli : ∀ o, _ := fun o => light_calls A B C U ca cb cc cu a b c u (w.alloc o) (hw.ext (hb0 o))
  rw [hl] at hli
  clear hl
  go_enter Try.func7, Try.ntmps7
  go_wp2_with fail
  refine (hli _).mono ?_; rintro e w1 ⟨rfl, hb1⟩
  have HX := Lib.hid (ext_trans (hb0 _) hb1)
  clear hb1 hb0 hli hw
  go_wp2_with fail
  refine (alive_calls _).mono ?_; rintro e w2 ⟨rfl, hb2⟩
  have HX2 := Lib.hid (ext_trans HX.out hb2)
  clear hb2
  go_wp2_with fail
  go_ret
  exact ⟨rfl, HX2.out⟩

set_option maxRecDepth 100000 in
set_option maxHeartbeats 2000000 in
theorem solves_light (A B C U : Option Addr) (ca cb cc cu : Nat) (a : List (List Int)) (b c u : List Int) (cost : Int) (w : World) (hw : Who w A B C U a b c u) (hl : lightB a b c u = true) :
    Calls Try.prog 7 #[.agg #[.slice A a.length ca, .slice B b.length cb, .slice C c.length cc, .slice U u.length cu], .int .i64 cost] w fun e w' => e = .returned (.bool true) ∧ Below w.heap.size w w' := by
  have hb0 : ∀ o, Below w.heap.size w (w.alloc o) := fun o => (Below.refl _ _).alloc (Nat.le_refl _) _
  have hli : ∀ o, _ := fun o => light_calls A B C U ca cb cc cu a b c u (w.alloc o) (hw.ext (hb0 o))
  rw [hl] at hli
  clear hl
  have B0 := Blk.new w [.slice A a.length ca, .slice B b.length cb, .slice C c.length cc, .slice U u.length cu] 25
  have W0 := hw.ext (hb0 (.cells #[.slice A a.length ca, .slice B b.length cb, .slice C c.length cc, .slice U u.length cu] 25 (0, 0)))
  have HX0 := Lib.hid (hb0 (.cells #[.slice A a.length ca, .slice B b.length cb, .slice C c.length cc, .slice U u.length cu] 25 (0, 0)))
  clear hb0 hw
  go_enter Try.func7, Try.ntmps7
  go_wp2_with fail
  refine (hli _).mono ?_; rintro e w1 ⟨rfl, hb1⟩
  clear hli
  have B1 := B0.ext hb1; have W1 := W0.ext hb1; have HX1 := Lib.hid (ext_trans HX0.out hb1)
  clear B0 W0 HX0 hb1
  obtain ⟨k0, k1, k2, k3⟩ : w1.cell? ⟨w.heap.size, 0, none⟩ = some (.slice A a.length ca) ∧ w1.cell? ⟨w.heap.size, 1, none⟩ = some (.slice B b.length cb) ∧ w1.cell? ⟨w.heap.size, 2, none⟩ = some (.slice C c.length cc) ∧ w1.cell? ⟨w.heap.size, 3, none⟩ = some (.slice U u.length cu) := ⟨B1.cell 0 (by simp), B1.cell 1 (by simp), B1.cell 2 (by simp), B1.cell 3 (by simp)⟩
  go_wp2_with fail
  refine (solve_calls W1).mono ?_; intro e w2 hp
  obtain ⟨S, sc, rfl, hS, hSm, hb2⟩ := solve_form hp
  clear hp k0 k1 k2 k3
  have B2 := B1.ext hb2; have W2 := W1.ext hb2; have HX2 := Lib.hid (ext_trans HX1.out hb2)
  clear B1 W1 HX1 hb2
  obtain ⟨k0, k1, k2, k3⟩ : w2.cell? ⟨w.heap.size, 0, none⟩ = some (.slice A a.length ca) ∧ w2.cell? ⟨w.heap.size, 1, none⟩ = some (.slice B b.length cb) ∧ w2.cell? ⟨w.heap.size, 2, none⟩ = some (.slice C c.length cc) ∧ w2.cell? ⟨w.heap.size, 3, none⟩ = some (.slice U u.length cu) := ⟨B2.cell 0 (by simp), B2.cell 1 (by simp), B2.cell 2 (by simp), B2.cell 3 (by simp)⟩
  obtain ⟨R, hR⟩ : ∃ R, solveV a b c u = R := ⟨_, rfl⟩
  rw [hR] at hS hSm
  have HR := Lib.hid hR
  rw [hR]
  obtain ⟨xs, v1, v2⟩ := R
  dsimp only at hS hSm
  have HSM := Lib.hid hSm
  clear hSm hR
  go_wp2_with fail
  refine (refSolve_any W2).mono ?_; intro e w3 hp
  have hp2 := solve_form hp
  rw [HR.out] at hp2
  obtain ⟨S2, sc2, rfl, hS2, -, hb3⟩ := hp2
  dsimp only at hS2
  clear hp k0 k1 k2 k3
  have B3 := B2.ext hb3; have W3 := W2.ext hb3; have HX3 := Lib.hid (ext_trans HX2.out hb3); have hS3 := hS.ext hb3
  clear B2 W2 HX2 hb3 hS
  obtain ⟨k0, k1, k2, k3⟩ : w3.cell? ⟨w.heap.size, 0, none⟩ = some (.slice A a.length ca) ∧ w3.cell? ⟨w.heap.size, 1, none⟩ = some (.slice B b.length cb) ∧ w3.cell? ⟨w.heap.size, 2, none⟩ = some (.slice C c.length cc) ∧ w3.cell? ⟨w.heap.size, 3, none⟩ = some (.slice U u.length cu) := ⟨B3.cell 0 (by simp), B3.cell 1 (by simp), B3.cell 2 (by simp), B3.cell 3 (by simp)⟩
  go_wp2_with fail
  refine (same_calls S S2 sc sc2 xs xs _ HSM.out HSM.out hS3 hS2).mono ?_
  rw [show sameB xs xs = true from by simp [sameB]]
  rintro e w4 ⟨rfl, n, rfl⟩
  have B4 := B3.drewN n; have W4 := W3.ext (drewN_below w3 n); have HX4 := Lib.hid (ext_trans HX3.out (drewN_below w3 n))
  clear B3 W3 HX3 hS3 hS2
  generalize w3.drewN n = w4 at *
  clear k0 k1 k2 k3
  obtain ⟨k0, k1, k2, k3⟩ : w4.cell? ⟨w.heap.size, 0, none⟩ = some (.slice A a.length ca) ∧ w4.cell? ⟨w.heap.size, 1, none⟩ = some (.slice B b.length cb) ∧ w4.cell? ⟨w.heap.size, 2, none⟩ = some (.slice C c.length cc) ∧ w4.cell? ⟨w.heap.size, 3, none⟩ = some (.slice U u.length cu) := ⟨B4.cell 0 (by simp), B4.cell 1 (by simp), B4.cell 2 (by simp), B4.cell 3 (by simp)⟩
  obtain ⟨V, hV⟩ : ∃ V, countV a b c u cost = V := ⟨_, rfl⟩
  have hcA := count_form a b c u cost
  rw [hV] at hcA
  obtain ⟨y1, y2⟩ := V
  have HC := Lib.hid hcA
  clear hcA hV
  go_wp2_with fail
  refine (count_calls cost W4).mono ?_
  rw [HC.out]
  rintro e w5 ⟨rfl, hb5⟩
  clear k0 k1 k2 k3
  have B5 := B4.ext hb5; have W5 := W4.ext hb5; have HX5 := Lib.hid (ext_trans HX4.out hb5)
  clear B4 W4 HX4 hb5
  obtain ⟨k0, k1, k2, k3⟩ : w5.cell? ⟨w.heap.size, 0, none⟩ = some (.slice A a.length ca) ∧ w5.cell? ⟨w.heap.size, 1, none⟩ = some (.slice B b.length cb) ∧ w5.cell? ⟨w.heap.size, 2, none⟩ = some (.slice C c.length cc) ∧ w5.cell? ⟨w.heap.size, 3, none⟩ = some (.slice U u.length cu) := ⟨B5.cell 0 (by simp), B5.cell 1 (by simp), B5.cell 2 (by simp), B5.cell 3 (by simp)⟩
  go_wp2_with fail
  refine (refCount_any cost W5).mono ?_
  rw [HC.out]
  rintro e w6 ⟨rfl, hb6⟩
  have HX6 := Lib.hid (ext_trans HX5.out hb6)
  clear k0 k1 k2 k3 B5 W5 HX5 hb6
  go_wp2_with fail
  refine (alive_calls _).mono ?_; rintro e w7 ⟨rfl, hb7⟩
  have HX7 := Lib.hid (ext_trans HX6.out hb7)
  clear hb7
  go_wp2_with fail
  go_ret
  exact ⟨rfl, HX7.out⟩

theorem solves_walk (A B C U : Option Addr) (ca cb cc cu : Nat) (a : List (List Int)) (b c u : List Int) (cost : Int) (w : World) (hw : Who w A B C U a b c u) :
    Calls Try.prog 7 #[.agg #[.slice A a.length ca, .slice B b.length cb, .slice C c.length cc, .slice U u.length cu], .int .i64 cost] w fun e w' => e = .returned (.bool true) ∧ Below w.heap.size w w' := by
  cases hl : lightB a b c u
  · exact solves_dark A B C U ca cb cc cu a b c u cost w hw hl
  · exact solves_light A B C U ca cb cc cu a b c u cost w hw hl
end Go.Proofs.Ytbdlfjhhgnhejaa
