/- BranchVector: the walk of the statement. -/
import Derived.Test.YtbdlfjhhgnhejaaLSolves
import Derived.Test.YtbdlfjhhgnhejaaPlain
namespace Go.Proofs.Ytbdlfjhhgnhejaa
open Go.RowKit
set_option linter.unusedVariables false
set_option linter.unusedSimpArgs false

theorem box_at {w w' : World} {o : Nat} {A B C U : Option Addr} {ca cb cc cu la lb lc lu : Nat} (h : Blk w o [.slice A la ca, .slice B lb cb, .slice C lc cc, .slice U lu cu] 25) (hb : Below w.heap.size w w') :
    w'.cell? ⟨o, 0, none⟩ = some (.slice A la ca) ∧ w'.cell? ⟨o, 1, none⟩ = some (.slice B lb cb) ∧ w'.cell? ⟨o, 2, none⟩ = some (.slice C lc cc) ∧ w'.cell? ⟨o, 3, none⟩ = some (.slice U lu cu) :=
  ⟨(h.ext hb).cell 0 (by simp), (h.ext hb).cell 1 (by simp), (h.ext hb).cell 2 (by simp), (h.ext hb).cell 3 (by simp)⟩

/-- Does the statement speak of y? -/
def speaksB (a : List (List Int)) (b c u y : List Int) : Bool := lightB a b c u && decide (y.length ≤ 20) && wholeOk a b c u && feasQ a b u y

/-- Where it does not: alive is asked. -/
theorem vector_idle (A B C U Y : Option Addr) (ca cb cc cu cy : Nat) (a : List (List Int)) (b c u y : List Int) (w : World) (hw : Who w A B C U a b c u) (hY : Ints w Y y) (hy : y.length ≤ maxLen) (hs : speaksB a b c u y = false) :
    Calls Try.prog 6 #[.agg #[.slice A a.length ca, .slice B b.length cb, .slice C c.length cc, .slice U u.length cu], .slice Y y.length cy] w fun e w' => e = .returned (.bool true) ∧ Below w.heap.size w w' := by
  have hb0 : ∀ o, Below w.heap.size w (w.alloc o) := fun o => (Below.refl _ _).alloc (Nat.le_refl _) _
  have hli : ∀ o, _ := fun o => light_calls A B C U ca cb cc cu a b c u (w.alloc o) (hw.ext (hb0 o))
  have B0 := Blk.new w [.slice A a.length ca, .slice B b.length cb, .slice C c.length cc, .slice U u.length cu] 25
  have W0 := hw.ext (hb0 (.cells #[.slice A a.length ca, .slice B b.length cb, .slice C c.length cc, .slice U u.length cu] 25 (0, 0)))
  have Y0 := hY.ext (hb0 (.cells #[.slice A a.length ca, .slice B b.length cb, .slice C c.length cc, .slice U u.length cu] 25 (0, 0)))
  have HX0 := Lib.hid (hb0 (.cells #[.slice A a.length ca, .slice B b.length cb, .slice C c.length cc, .slice U u.length cu] 25 (0, 0)))
  have hym : (y.length : Int) ≤ 9223372036854775807 := by unfold maxLen at hy; omega
  have HY := Lib.hid hy
  unfold speaksB at hs
  clear hb0 hw hY hy
  cases hl : lightB a b c u
  · rw [hl] at hli
    clear hs hl
    go_enter Try.func6, Try.ntmps6
    go_wp2_with fail
    refine (hli _).mono ?_; rintro e w1 ⟨rfl, hb1⟩
    have HX := Lib.hid (ext_trans HX0.out hb1)
    clear hb1 HX0 hli W0 Y0 B0
    go_wp2_with fail
    refine (alive_calls _).mono ?_; rintro e w2 ⟨rfl, hb2⟩
    have HX2 := Lib.hid (ext_trans HX.out hb2)
    clear hb2
    go_wp2_with fail
    go_ret
    exact ⟨rfl, HX2.out⟩
  · rw [hl] at hli
    by_cases h20 : y.length ≤ 20
    · have d20 : decide ((20 : Int) < y.length) = false := decide_eq_false (by omega)
      cases hok : wholeOk a b c u
      · have hv : ∀ w2, Who w2 A B C U a b c u → _ := fun w2 h => refWhole_calls A B C U ca cb cc cu a b c u w2 h
        rw [hok] at hv
        clear hs hl hok
        go_enter Try.func6, Try.ntmps6
        go_wp2_with fail
        refine (hli _).mono ?_; rintro e w1 ⟨rfl, hb1⟩
        have HX := Lib.hid (ext_trans HX0.out hb1)
        obtain ⟨k0, k1, k2, k3⟩ := box_at B0 hb1
        have W1 := W0.ext hb1
        clear hb1 HX0 hli W0 Y0 B0
        go_wp2_with fail
        refine (hv _ W1).mono ?_; rintro e w2 ⟨rfl, hb2⟩
        have HX1 := Lib.hid (ext_trans HX.out hb2)
        clear hb2 hv W1 k0 k1 k2 k3
        go_wp2_with fail
        refine (alive_calls _).mono ?_; rintro e w3 ⟨rfl, hb3⟩
        have HX2 := Lib.hid (ext_trans HX1.out hb3)
        clear hb3
        go_wp2_with fail
        go_ret
        exact ⟨rfl, HX2.out⟩
      · have hq : feasQ a b u y = false := by simpa [hl, h20, hok] using hs
        have hv : ∀ w2, Who w2 A B C U a b c u → _ := fun w2 h => refWhole_calls A B C U ca cb cc cu a b c u w2 h
        rw [hok] at hv
        have hf : ∀ w2, Who w2 A B C U a b c u → Ints w2 Y y → _ := fun w2 h h2 => feasible_calls A B C U Y ca cb cc cu cy a b c u y w2 h hok h2 HY.out
        rw [hq] at hf
        clear hs hl hok hq
        go_enter Try.func6, Try.ntmps6
        go_wp2_with fail
        refine (hli _).mono ?_; rintro e w1 ⟨rfl, hb1⟩
        have HX := Lib.hid (ext_trans HX0.out hb1)
        obtain ⟨k0, k1, k2, k3⟩ := box_at B0 hb1
        have W1 := W0.ext hb1; have Y1 := Y0.ext hb1; have B1 := B0.ext hb1
        clear hb1 HX0 hli W0 Y0 B0
        go_wp2_with fail
        refine (hv _ W1).mono ?_; rintro e w2 ⟨rfl, hb2⟩
        have HX1 := Lib.hid (ext_trans HX.out hb2)
        clear k0 k1 k2 k3
        obtain ⟨k0, k1, k2, k3⟩ := box_at B1 hb2
        have W2 := W1.ext hb2; have Y2 := Y1.ext hb2
        clear hb2 hv W1 Y1 B1
        go_wp2_with fail
        refine (hf _ W2 Y2).mono ?_; rintro e w3 ⟨rfl, hb3⟩
        have HX2 := Lib.hid (ext_trans HX1.out hb3)
        clear hb3 hf W2 Y2 k0 k1 k2 k3
        go_wp2_with fail
        refine (alive_calls _).mono ?_; rintro e w4 ⟨rfl, hb4⟩
        have HX3 := Lib.hid (ext_trans HX2.out hb4)
        clear hb4
        go_wp2_with fail
        go_ret
        exact ⟨rfl, HX3.out⟩
    · have d20 : decide ((20 : Int) < y.length) = true := decide_eq_true (by omega)
      clear hs hl
      go_enter Try.func6, Try.ntmps6
      go_wp2_with fail
      refine (hli _).mono ?_; rintro e w1 ⟨rfl, hb1⟩
      have HX := Lib.hid (ext_trans HX0.out hb1)
      clear hb1 HX0 hli W0 Y0 B0
      go_wp2_with fail
      refine (alive_calls _).mono ?_; rintro e w2 ⟨rfl, hb2⟩
      have HX2 := Lib.hid (ext_trans HX.out hb2)
      clear hb2
      go_wp2_with fail
      go_ret
      exact ⟨rfl, HX2.out⟩

theorem feas_small {a : List (List Int)} {b c u x : List Int} (hok : wholeOk a b c u = true) (h : feasQ a b u x = true) : x.length = u.length ∧ c.length = u.length ∧ Small c x := by
  obtain ⟨hul, h0, h5⟩ := wholeOk_len hok
  have hm := feasQ_mem h
  unfold feasL at hm
  obtain ⟨h1, -⟩ := List.mem_filter.1 hm
  obtain ⟨k, hk, hkv⟩ := List.getElem_of_mem h1
  have hv := (vec_in hk).2
  have e : (vec u k).1 = x := by
    have h2 := List.take_succ_eq_append_getElem hk
    rw [hv] at h2
    have := List.append_cancel_left h2
    rw [← hkv]; simpa using this
  obtain ⟨f1, -, -, f4, -⟩ := vec_facts hok hk
  rw [e] at f1 f4
  exact ⟨f1, hul.symm, f4⟩

/-- What Solve finds where there is a feasible vector. -/
theorem solve_best {a : List (List Int)} {b c u y : List Int} (hok : wholeOk a b c u = true) (h : feasQ a b u y = true) :
    ∃ x, solveV a b c u = (x, dotZ c x, 0) ∧ feasQ a b u x = true ∧ dotZ c x ≤ dotZ c y ∧ (dotZ c y = dotZ c x → y = x ∨ LexLt x y) := by
  have hm := feasQ_mem h
  cases hb : bestL c (feasL a b u) with
  | none => rw [bestL_none] at hb; rw [hb] at hm; cases hm
  | some x =>
    obtain ⟨h1, h2⟩ := bestL_least (feasL_sorted a b u) hb
    have hu : upOk u = true := by unfold wholeOk at hok; simp only [Bool.and_eq_true] at hok; exact hok.1.2
    exact ⟨x, by unfold solveV; rw [if_pos hok, hb], mem_feasQ hu h1, (h2 y hm).1, (h2 y hm).2⟩

set_option maxRecDepth 100000 in
set_option maxHeartbeats 2000000 in
theorem vector_speaks (A B C U Y : Option Addr) (ca cb cc cu cy : Nat) (a : List (List Int)) (b c u y : List Int) (w : World) (hw : Who w A B C U a b c u) (hY : Ints w Y y) (hy : y.length ≤ maxLen) (hs : speaksB a b c u y = true) :
    Calls Try.prog 6 #[.agg #[.slice A a.length ca, .slice B b.length cb, .slice C c.length cc, .slice U u.length cu], .slice Y y.length cy] w fun e w' => e = .returned (.bool true) ∧ Below w.heap.size w w' := by
  have hb0 : ∀ o, Below w.heap.size w (w.alloc o) := fun o => (Below.refl _ _).alloc (Nat.le_refl _) _
  have hli : ∀ o, _ := fun o => light_calls A B C U ca cb cc cu a b c u (w.alloc o) (hw.ext (hb0 o))
  have B0 := Blk.new w [.slice A a.length ca, .slice B b.length cb, .slice C c.length cc, .slice U u.length cu] 25
  have W0 := hw.ext (hb0 (.cells #[.slice A a.length ca, .slice B b.length cb, .slice C c.length cc, .slice U u.length cu] 25 (0, 0)))
  have Y0 := hY.ext (hb0 (.cells #[.slice A a.length ca, .slice B b.length cb, .slice C c.length cc, .slice U u.length cu] 25 (0, 0)))
  have HX0 := Lib.hid (hb0 (.cells #[.slice A a.length ca, .slice B b.length cb, .slice C c.length cc, .slice U u.length cu] 25 (0, 0)))
  have HY := Lib.hid hy
  unfold speaksB at hs
  simp only [Bool.and_eq_true, decide_eq_true_eq] at hs
  obtain ⟨⟨⟨hl, h20⟩, hok⟩, hq⟩ := hs
  have d20 : decide ((20 : Int) < y.length) = false := decide_eq_false (by omega)
  rw [hl] at hli
  obtain ⟨yl, cl, ysm⟩ := feas_small hok hq
  obtain ⟨x, hx1, hx2, hx3, hx4⟩ := solve_best hok hq
  obtain ⟨xl, -, xsm⟩ := feas_small hok hx2
  obtain ⟨-, hu0, hu5⟩ := wholeOk_len hok
  have hv : ∀ w2, Who w2 A B C U a b c u → _ := fun w2 h => refWhole_calls A B C U ca cb cc cu a b c u w2 h
  rw [hok] at hv
  have hf : ∀ w2, Who w2 A B C U a b c u → Ints w2 Y y → _ := fun w2 h h2 => feasible_calls A B C U Y ca cb cc cu cy a b c u y w2 h hok h2 HY.out
  rw [hq] at hf
  have hfx : ∀ w2 S sc, Who w2 A B C U a b c u → Ints w2 S x → _ := fun w2 S sc h h2 => feasible_calls A B C U S ca cb cc cu sc a b c u x w2 h hok h2 (by unfold maxLen; omega)
  rw [hx2] at hfx
  have HV := Lib.hid hv; have HF := Lib.hid hf; have HFX := Lib.hid hfx; have HXV := Lib.hid hx1; have HX3 := Lib.hid hx3; have HX4 := Lib.hid hx4; have XL := Lib.hid xl; have YL := Lib.hid yl; have CL := Lib.hid cl; have YS := Lib.hid ysm; have XS := Lib.hid xsm
  clear hb0 hw hY hy hl hok hq hv hf hfx hx1 hx2 hx3 hx4 xl yl cl ysm xsm
  go_enter Try.func6, Try.ntmps6
  go_wp2_with fail
  refine (hli _).mono ?_; rintro e w1 ⟨rfl, hb1⟩
  have HX := Lib.hid (ext_trans HX0.out hb1)
  obtain ⟨k0, k1, k2, k3⟩ := box_at B0 hb1
  have W1 := W0.ext hb1; have Y1 := Y0.ext hb1; have B1 := B0.ext hb1
  clear hb1 HX0 hli W0 Y0 B0
  go_wp2_with fail
  refine (HV.out _ W1).mono ?_; rintro e w2 ⟨rfl, hb2⟩
  have HX1 := Lib.hid (ext_trans HX.out hb2)
  clear k0 k1 k2 k3
  obtain ⟨k0, k1, k2, k3⟩ := box_at B1 hb2
  have W2 := W1.ext hb2; have Y2 := Y1.ext hb2; have B2 := B1.ext hb2
  clear hb2 W1 Y1 B1 HX HV
  go_wp2_with fail
  refine (HF.out _ W2 Y2).mono ?_; rintro e w3 ⟨rfl, hb3⟩
  have HX2 := Lib.hid (ext_trans HX1.out hb3)
  clear k0 k1 k2 k3
  obtain ⟨k0, k1, k2, k3⟩ := box_at B2 hb3
  have W3 := W2.ext hb3; have Y3 := Y2.ext hb3; have B3 := B2.ext hb3
  clear hb3 W2 Y2 B2 HX1 HF
  go_wp2_with fail
  refine (solve_calls W3).mono ?_; intro e w4 hp
  have hp2 := solve_form hp
  rw [HXV.out] at hp2
  obtain ⟨S, sc, rfl, hS, -, hb4⟩ := hp2
  dsimp only at hS
  have HX4b := Lib.hid (ext_trans HX2.out hb4)
  clear k0 k1 k2 k3 hp
  obtain ⟨k0, k1, k2, k3⟩ := box_at B3 hb4
  have W4 := W3.ext hb4; have Y4 := Y3.ext hb4; have B4 := B3.ext hb4
  clear hb4 W3 Y3 B3 HX2
  go_wp2_with fail
  refine (HFX.out _ S sc W4 hS).mono ?_; rintro e w5 ⟨rfl, hb5⟩
  have HX5 := Lib.hid (ext_trans HX4b.out hb5)
  clear k0 k1 k2 k3
  obtain ⟨k0, k1, k2, k3⟩ := box_at B4 hb5
  have W5 := W4.ext hb5; have Y5 := Y4.ext hb5; have S5 := hS.ext hb5
  have C5 := W5.p.gc
  clear hb5 W4 Y4 B4 HX4b hS HFX HXV W5
  have hym : (y.length : Int) ≤ 20 := by omega
  have ey : Hid (dotN c y y.length = dotZ c y) := Lib.hid (by unfold dotZ; rw [CL.out, YL.out])
  have ex : Hid (dotN c x y.length = dotZ c x) := Lib.hid (by unfold dotZ; rw [CL.out, YL.out])
  clear k0 k1 k3
  go_wp2_with fail
  go_loopw [8, 9, 10] (fun d o i wr => ∃ k m : Nat, k ≤ y.length ∧ i = .int .i64 k ∧ d = .int .i64 (dotN c y k) ∧ o = .int .i64 (dotN c x k) ∧ wr = w5.drewN m) (fun _ _ i _ => y.length - (intOf i).toNat)
  case atStart => exact ⟨0, 0, Nat.zero_le _, rfl, rfl, rfl, rfl⟩
  case round =>
    obtain ⟨k, m, hk, rfl, rfl, rfl, rfl⟩ := hrel
    by_cases hlt : k < y.length
    · obtain ⟨b1, o1, rfl, g1⟩ := C5 k (by rw [CL.out, ← YL.out]; exact hlt)
      obtain ⟨b2, o2, rfl, g2⟩ := S5 k (by rw [XL.out, ← YL.out]; exact hlt)
      obtain ⟨b3, o3, rfl, g3⟩ := Y5 k hlt
      obtain ⟨r1, r2, r3, r4⟩ := YS.out.round (k := k) (by rw [CL.out, ← YL.out]; exact hlt)
      obtain ⟨s1, s2, s3, s4⟩ := XS.out.round (k := k) (by rw [CL.out, ← YL.out]; exact hlt)
      have i1 : k < c.length := by rw [CL.out, ← YL.out]; exact hlt
      have i2 : k < x.length := by rw [XL.out, ← YL.out]; exact hlt
      go_wp2
      go_quiet (fail)
      go_wp2
      go_quiet (fail)
      go_wp2
      go_roundw
      case rel => exact ⟨k + 1, _, by omega, by go_num, rfl, rfl, by first | rfl | exact drewN_add _ _ _⟩
      case measure => simp [intOf]; omega
    · obtain rfl : k = y.length := by omega
      rw [ey.out, ex.out]
      have q1 : (dotZ c x != dotZ c x) = false := by simp
      have q2 : decide (dotZ c y < dotZ c x) = false := decide_eq_false (by have := HX3.out; omega)
      have HX6 := Lib.hid (ext_trans HX5.out (drewN_below w5 m))
      have Y6 := Y5.ext (drewN_below w5 m); have S6 := S5.ext (drewN_below w5 m)
      clear k2 C5 Y5 S5 HX5
      generalize w5.drewN m = w6 at *
      by_cases hq : dotZ c y = dotZ c x
      · have q3 : (dotZ c y == dotZ c x) = true := by simp [hq]
        have hlex := HX4.out hq
        have HL := Lib.hid hlex
        clear hq hlex HX4 HX3
        go_wp2_with fail
        go_loopw [11] (fun i wr => ∃ k m : Nat, k ≤ y.length ∧ i = .int .i64 k ∧ (∀ j, j < k → nth x j = nth y j) ∧ wr = w6.drewN m) (fun i _ => y.length - (intOf i).toNat)
        case atStart => exact ⟨0, 0, Nat.zero_le _, rfl, fun j hj => by omega, rfl⟩
        case round =>
          obtain ⟨k, m2, hk, rfl, he, rfl⟩ := hrel
          have HE := Lib.hid he; clear he
          by_cases hlt : k < y.length
          · obtain ⟨b2, o2, rfl, g2⟩ := S6 k (by rw [XL.out, ← YL.out]; exact hlt)
            obtain ⟨b3, o3, rfl, g3⟩ := Y6 k hlt
            have h0 : (0 : Int) ≤ k := by omega
            have h1 : (k : Int) < y.length := by omega
            have h2 : (k : Int) < x.length := by have := XL.out; have := YL.out; omega
            by_cases hxy : nth x k = nth y k
            · have q4 : (nth x k != nth y k) = false := by simp [hxy]
              have HQ := Lib.hid hxy; clear hxy
              go_wp2_with fail
              go_quiet (fail)
              go_wp2
              go_roundw
              case rel => exact ⟨k + 1, _, by omega, by go_num, fun j hj => by rcases Nat.lt_or_ge j k with e | e; exact HE.out j e; (obtain rfl : j = k := by omega); exact HQ.out, by first | rfl | exact drewN_add _ _ _⟩
              case measure => simp [intOf]; omega
            · have q4 : (nth x k != nth y k) = true := by simp [hxy]
              have q5 : decide (nth x k < nth y k) = true := decide_eq_true (by
                rcases HL.out with e | e
                · rw [e] at hxy; exact absurd rfl hxy
                · exact e.at HE.out hxy)
              clear hxy
              go_wp2_with fail
              go_quiet (fail)
              go_wp2_with fail
              have HXq := Lib.hid (ext_trans (ext_trans HX6.out (drewN_below w6 m2)) (drewN_below _ nq))
              have g2q : ((w6.drewN m2).drewN nq).cell? ⟨b2, o2 + k, none⟩ = some (.int .i64 (nth x k)) := g2
              have g3q : ((w6.drewN m2).drewN nq).cell? ⟨b3, o3 + k, none⟩ = some (.int .i64 (nth y k)) := g3
              clear g2 g3 S6 Y6 HX6
              generalize (w6.drewN m2).drewN nq = W at *
              go_still_tail 10, (by kernel_rfl)
              change wpList _ _ _ _ _ W.drew
              go_wp2_with fail
              refine (alive_calls _).mono ?_; rintro e w7 ⟨rfl, hb7⟩
              have HX7 := Lib.hid (ext_trans (HXq.out.trans (((Below.refl _ W).drew).mono HXq.out.size)) hb7)
              clear hb7
              go_wp2_with fail
              go_ret
              exact ⟨rfl, HX7.out⟩
          · obtain rfl : k = y.length := by omega
            go_wp2_with fail
            refine (alive_calls _).mono ?_; rintro e w7 ⟨rfl, hb7⟩
            have HX7 := Lib.hid (ext_trans (ext_trans HX6.out (drewN_below w6 m2)) hb7)
            clear hb7
            go_wp2_with fail
            go_ret
            exact ⟨rfl, HX7.out⟩
      · have q3 : (dotZ c y == dotZ c x) = false := by simp [hq]
        clear hq HX4 HX3
        go_wp2_with fail
        go_loopw [11] (fun i wr => i = .int .i64 0 ∧ wr = w6) (fun i _ => 0)
        case atStart => exact ⟨rfl, rfl⟩
        case round =>
          obtain ⟨rfl, rfl⟩ := hrel
          by_cases hz : 0 < y.length
          · have hz1 : (0 : Int) < y.length := by omega
            go_wp2_with fail
            refine (alive_calls _).mono ?_; rintro e w7 ⟨rfl, hb7⟩
            have HX7 := Lib.hid (ext_trans HX6.out hb7)
            clear hb7
            go_wp2_with fail
            go_ret
            exact ⟨rfl, HX7.out⟩
          · have hz1 : decide ((0 : Int) < y.length) = false := decide_eq_false (by omega)
            go_wp2_with fail
            refine (alive_calls _).mono ?_; rintro e w7 ⟨rfl, hb7⟩
            have HX7 := Lib.hid (ext_trans HX6.out hb7)
            clear hb7
            go_wp2_with fail
            go_ret
            exact ⟨rfl, HX7.out⟩

theorem vector_walk (A B C U Y : Option Addr) (ca cb cc cu cy : Nat) (a : List (List Int)) (b c u y : List Int) (w : World) (hw : Who w A B C U a b c u) (hY : Ints w Y y) (hy : y.length ≤ maxLen) :
    Calls Try.prog 6 #[.agg #[.slice A a.length ca, .slice B b.length cb, .slice C c.length cc, .slice U u.length cu], .slice Y y.length cy] w fun e w' => e = .returned (.bool true) ∧ Below w.heap.size w w' := by
  cases hs : speaksB a b c u y
  · exact vector_idle A B C U Y ca cb cc cu cy a b c u y w hw hY hy hs
  · exact vector_speaks A B C U Y ca cb cc cu cy a b c u y w hw hY hy hs
end Go.Proofs.Ytbdlfjhhgnhejaa
