/- BranchSound: the walk of the statement. -/
import Derived.Test.YtbdlfjhhgnhejaaLVector
import Derived.Test.YtbdlfjhhgnhejaaSound
namespace Go.Proofs.Ytbdlfjhhgnhejaa
open Go.RowKit
set_option linter.unusedVariables false
set_option linter.unusedSimpArgs false

set_option maxRecDepth 100000 in
set_option maxHeartbeats 1000000 in
theorem sound_idle (A B C U X : Option Addr) (ca cb cc cu cx : Nat) (a : List (List Int)) (b c u : List Int) (L : List Nd) (feas : Bool) (cost : Int) (w : World) (hw : Who w A B C U a b c u) (hN : Nodes w X L) (hL : L.length ≤ maxLen) (hs : (lightB a b c u && shortB L) = false) :
    Calls Try.prog 5 #[.agg #[.slice A a.length ca, .slice B b.length cb, .slice C c.length cc, .slice U u.length cu], .slice X L.length cx, .bool feas, .int .i64 cost] w fun e w' => e = .returned (.bool true) ∧ Below w.heap.size w w' := by
  have hb0 : ∀ o, Below w.heap.size w (w.alloc o) := fun o => (Below.refl _ _).alloc (Nat.le_refl _) _
  have hli : ∀ o, _ := fun o => light_calls A B C U ca cb cc cu a b c u (w.alloc o) (hw.ext (hb0 o))
  have hsh : ∀ w2, Nodes w2 X L → _ := fun w2 h => short_calls X cx L w2 hL h
  have N0 := hN.ext (hb0 (.cells #[.slice A a.length ca, .slice B b.length cb, .slice C c.length cc, .slice U u.length cu] 25 (0, 0)))
  have HX0 := Lib.hid (hb0 (.cells #[.slice A a.length ca, .slice B b.length cb, .slice C c.length cc, .slice U u.length cu] 25 (0, 0)))
  clear hb0 hw hN hL
  cases hl : lightB a b c u
  · rw [hl] at hli
    clear hs hl hsh N0
    go_enter Try.func5, Try.ntmps5
    go_wp2_with fail
    refine (hli _).mono ?_; rintro e w1 ⟨rfl, hb1⟩
    have HX := Lib.hid (ext_trans HX0.out hb1)
    clear hb1 HX0 hli
    go_wp2_with fail
    refine (alive_calls _).mono ?_; rintro e w2 ⟨rfl, hb2⟩
    have HX2 := Lib.hid (ext_trans HX.out hb2)
    clear hb2
    go_wp2_with fail
    go_ret
    exact ⟨rfl, HX2.out⟩
  · have hsb : shortB L = false := by simpa [hl] using hs
    rw [hl] at hli
    rw [hsb] at hsh
    clear hs hl hsb
    go_enter Try.func5, Try.ntmps5
    go_wp2_with fail
    refine (hli _).mono ?_; rintro e w1 ⟨rfl, hb1⟩
    have HX := Lib.hid (ext_trans HX0.out hb1)
    have N1 := N0.ext hb1
    clear hb1 HX0 hli N0
    go_wp2_with fail
    refine (hsh _ N1).mono ?_; rintro e w2 ⟨rfl, rfl⟩
    clear hsh N1
    go_wp2_with fail
    refine (alive_calls _).mono ?_; rintro e w3 ⟨rfl, hb3⟩
    have HX2 := Lib.hid (ext_trans HX.out hb3)
    clear hb3
    go_wp2_with fail
    go_ret
    exact ⟨rfl, HX2.out⟩

set_option maxRecDepth 100000 in
set_option maxHeartbeats 2000000 in
theorem sound_main (A B C U X : Option Addr) (ca cb cc cu cx : Nat) (a : List (List Int)) (b c u : List Int) (L : List Nd) (feas : Bool) (cost : Int) (w : World) (hw : Who w A B C U a b c u) (hN : Nodes w X L) (hL : L.length ≤ cx) (hcx : cx ≤ maxLen) (hcost : Hid (-9223372036854775808 ≤ cost ∧ cost ≤ 9223372036854775807)) (hl : lightB a b c u = true) (hs : shortB L = true) :
    Calls Try.prog 5 #[.agg #[.slice A a.length ca, .slice B b.length cb, .slice C c.length cc, .slice U u.length cu], .slice X L.length cx, .bool feas, .int .i64 cost] w fun e w' => e = .returned (.bool true) ∧ Below w.heap.size w w' := by
  have hb0 : ∀ o, Below w.heap.size w (w.alloc o) := fun o => (Below.refl _ _).alloc (Nat.le_refl _) _
  have hli : ∀ o, _ := fun o => light_calls A B C U ca cb cc cu a b c u (w.alloc o) (hw.ext (hb0 o))
  have hsh : ∀ w2, Nodes w2 X L → _ := fun w2 h => short_calls X cx L w2 (Nat.le_trans hL hcx) h
  have B0 := Blk.new w [.slice A a.length ca, .slice B b.length cb, .slice C c.length cc, .slice U u.length cu] 25
  have W0 := hw.ext (hb0 (.cells #[.slice A a.length ca, .slice B b.length cb, .slice C c.length cc, .slice U u.length cu] 25 (0, 0)))
  have N0 := hN.ext (hb0 (.cells #[.slice A a.length ca, .slice B b.length cb, .slice C c.length cc, .slice U u.length cu] 25 (0, 0)))
  have HX0 := Lib.hid (hb0 (.cells #[.slice A a.length ca, .slice B b.length cb, .slice C c.length cc, .slice U u.length cu] 25 (0, 0)))
  have HL := Lib.hid hL; have HCX := Lib.hid hcx
  rw [hl] at hli
  rw [hs] at hsh
  clear hb0 hw hN hL hcx hl hs
  go_enter Try.func5, Try.ntmps5
  go_wp2_with fail
  refine (hli _).mono ?_; rintro e w1 ⟨rfl, hb1⟩
  have HX := Lib.hid (ext_trans HX0.out hb1)
  obtain ⟨k0, k1, k2, k3⟩ := box_at B0 hb1
  have W1 := W0.ext hb1; have N1 := N0.ext hb1; have B1 := B0.ext hb1
  clear hb1 HX0 hli N0 W0 B0
  go_wp2_with fail
  refine (hsh _ N1).mono ?_; rintro e w2 ⟨rfl, rfl⟩
  clear hsh
  go_wp2_with fail
  refine (check_calls A B C U X ca cb cc cu cx a b c u L cost feas _ W1 N1 HL.out HCX.out hcost.out).mono ?_
  rintro e w3 ⟨he, hb3⟩
  have HX1 := Lib.hid (ext_trans HX.out hb3)
  clear k0 k1 k2 k3
  obtain ⟨k0, k1, k2, k3⟩ := box_at B1 hb3
  have W3 := W1.ext hb3; have B3 := B1.ext hb3
  clear hb3 W1 B1 N1 HX
  obtain ⟨V, hV⟩ : ∃ V, checkV a b c u L cost feas = V := ⟨_, rfl⟩
  rw [hV] at he
  have HV := Lib.hid hV
  clear hV
  obtain ⟨v1, v2⟩ := V
  dsimp only at he
  subst he
  cases v1 with
  | false =>
    by_cases hq : v2 = 0
    · have q1 : (v2 != 0) = false := by simp [hq]
      clear hq W3 B3
      go_wp2_with fail
      refine (alive_calls _).mono ?_; rintro e w4 ⟨rfl, hb4⟩
      have HX2 := Lib.hid (ext_trans HX1.out hb4)
      clear hb4
      go_wp2_with fail
      go_ret
      exact ⟨rfl, HX2.out⟩
    · have q1 : (v2 != 0) = true := by simp [hq]
      clear hq W3 B3
      go_wp2_with fail
      refine (alive_calls _).mono ?_; rintro e w4 ⟨rfl, hb4⟩
      have HX2 := Lib.hid (ext_trans HX1.out hb4)
      clear hb4
      go_wp2_with fail
      go_ret
      exact ⟨rfl, HX2.out⟩
  | true =>
    have hsd : ∀ x, _ := fun x => check_sound (x := x) (show (checkV a b c u L cost feas).1 = true by rw [HV.out])
    obtain ⟨hok, hv2, -⟩ := hsd []
    rw [HV.out] at hv2
    obtain rfl : v2 = 0 := hv2
    have HS : Hid (∀ x, feasQ a b u x = true → feas = true ∧ cost ≤ dotZ c x) := Lib.hid fun x => (hsd x).2.2
    have HOK := Lib.hid hok
    clear hsd hok
    go_wp2_with fail
    refine (refSolve_any W3).mono ?_; intro e w4 hp
    obtain ⟨S, sc, he, -, -, hb4⟩ := solve_form hp
    have HX2 := Lib.hid (ext_trans HX1.out hb4)
    clear hp hb4 k0 k1 k2 k3 W3 B3
    cases hb : bestL c (feasL a b u) with
    | none =>
      have hsv : solveV a b c u = ([], 0, 10) := by unfold solveV; rw [if_pos HOK.out, hb]
      rw [hsv] at he
      subst he
      clear hb hsv
      go_wp2_with fail
      refine (alive_calls _).mono ?_; rintro e w5 ⟨rfl, hb5⟩
      have HX3 := Lib.hid (ext_trans HX2.out hb5)
      clear hb5
      go_wp2_with fail
      go_ret
      exact ⟨rfl, HX3.out⟩
    | some x =>
      have hsv : solveV a b c u = (x, dotZ c x, 0) := by unfold solveV; rw [if_pos HOK.out, hb]
      have hu : upOk u = true := by have := HOK.out; unfold wholeOk at this; simp only [Bool.and_eq_true] at this; exact this.1.2
      obtain ⟨rfl, h2⟩ := HS.out x (mem_feasQ hu (bestL_least (feasL_sorted a b u) hb).1)
      rw [hsv] at he
      dsimp only at he
      subst he
      have q1 : decide (cost ≤ dotZ c x) = true := decide_eq_true h2
      clear hb hsv h2
      go_wp2_with fail
      refine (alive_calls _).mono ?_; rintro e w5 ⟨rfl, hb5⟩
      have HX3 := Lib.hid (ext_trans HX2.out hb5)
      clear hb5
      go_wp2_with fail
      go_ret
      exact ⟨rfl, HX3.out⟩

theorem sound_walk (A B C U X : Option Addr) (ca cb cc cu cx : Nat) (a : List (List Int)) (b c u : List Int) (L : List Nd) (feas : Bool) (cost : Int) (w : World) (hw : Who w A B C U a b c u) (hN : Nodes w X L) (hL : L.length ≤ cx) (hcx : cx ≤ maxLen) (hcost : -9223372036854775808 ≤ cost ∧ cost ≤ 9223372036854775807) :
    Calls Try.prog 5 #[.agg #[.slice A a.length ca, .slice B b.length cb, .slice C c.length cc, .slice U u.length cu], .slice X L.length cx, .bool feas, .int .i64 cost] w fun e w' => e = .returned (.bool true) ∧ Below w.heap.size w w' := by
  cases hs : (lightB a b c u && shortB L)
  · exact sound_idle A B C U X ca cb cc cu cx a b c u L feas cost w hw hN (Nat.le_trans hL hcx) hs
  · rw [Bool.and_eq_true] at hs
    exact sound_main A B C U X ca cb cc cu cx a b c u L feas cost w hw hN hL hcx (Lib.hid hcost) hs.1 hs.2
end Go.Proofs.Ytbdlfjhhgnhejaa
