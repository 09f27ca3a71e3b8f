/- tinplateref02.Count; Solve of what is not valid. -/
import Derived.Test.YtbdlfjhhgnhejaaRefSol
namespace Go.Proofs.Ytbdlfjhhgnhejaa
open Go.RowKit

set_option maxHeartbeats 1000000 in
theorem refSolve_bad {w : World} {A B C U : Option Addr} {ca cb cc cu : Nat} {a : List (List Int)} {b c u : List Int} (hw : Who w A B C U a b c u) (hok : wholeOk a b c u = false) :
    Calls Try.prog 14 #[.agg #[.slice A a.length ca, .slice B b.length cb, .slice C c.length cc, .slice U u.length cu]] w (SolvePost a b c u w) := by
  have hb0 : ∀ o, Below w.heap.size w (w.alloc o) := fun o => (Below.refl _ _).alloc (Nat.le_refl _) _
  have hv : ∀ o, _ := fun o => refWhole_calls A B C U ca cb cc cu a b c u (w.alloc o) (hw.ext (hb0 _))
  rw [hok] at hv
  have HO := Lib.hid hok; clear hok
  go_enter Try.func14, Try.ntmps14
  go_wp2_with fail
  refine (hv _).mono ?_; rintro e w1 ⟨rfl, hb1⟩
  go_wp2
  go_ret3
  exact ⟨by unfold SolveRes; rw [HO.out]; exact rfl, ext_trans (hb0 _) hb1⟩
theorem refSolve_any {w : World} {A B C U : Option Addr} {ca cb cc cu : Nat} {a : List (List Int)} {b c u : List Int} (hw : Who w A B C U a b c u) :
    Calls Try.prog 14 #[.agg #[.slice A a.length ca, .slice B b.length cb, .slice C c.length cc, .slice U u.length cu]] w (SolvePost a b c u w) := by
  cases hok : wholeOk a b c u
  · exact refSolve_bad hw hok
  · exact refSolve_calls hw hok

theorem cntL_first {a : List (List Int)} {b c u : List Int} {most : Int} {k : Nat} (h : k < (box u).length) : cntL c most (firstF a b u (k + 1)) = cntL c most (firstF a b u k) + if feasB a b (vec u k).1 && decide (dotZ c (vec u k).1 ≤ most) then 1 else 0 := by
  rw [firstF_succ h]
  cases feasB a b (vec u k).1
  · simp
  · simp only [if_true, Bool.true_and, decide_eq_true_eq]; rw [cntL_snoc]
theorem cntL_le {c : List Int} {most : Int} {a : List (List Int)} {b u : List Int} {k : Nat} : cntL c most (firstF a b u k) ≤ k := by
  unfold cntL firstF
  refine Nat.le_trans (List.length_filter_le _ _) (Nat.le_trans (List.length_filter_le _ _) (List.length_take_le _ _))

set_option maxRecDepth 100000 in
set_option maxHeartbeats 2000000 in
theorem refCount_calls {w : World} {A B C U : Option Addr} {ca cb cc cu : Nat} {a : List (List Int)} {b c u : List Int} (most : Int) (hw : Who w A B C U a b c u) (hok : wholeOk a b c u = true) :
    Calls Try.prog 20 #[.agg #[.slice A a.length ca, .slice B b.length cb, .slice C c.length cc, .slice U u.length cu], .int .i64 most] w fun e w' => e = .returned (CountVal a b c u most) ∧ Below w.heap.size w w' := by
  have hb0 : ∀ o, Below w.heap.size w (w.alloc o) := fun o => (Below.refl _ _).alloc (Nat.le_refl _) _
  have hv : ∀ o, _ := fun o => refWhole_calls A B C U ca cb cc cu a b c u (w.alloc o) (hw.ext (hb0 _))
  rw [hok] at hv
  have hbox := box_le hok
  have hlc := hw.p.lc
  go_enter Try.func20, Try.ntmps20
  go_wp2_with fail
  refine (hv _).mono ?_; rintro e w1 ⟨rfl, hb1⟩
  have hx1 := ext_trans (hb0 _) hb1
  have P1 : Blk w1 w.heap.size [.slice A a.length ca, .slice B b.length cb, .slice C c.length cc, .slice U u.length cu] 25 := Blk.ext (Blk.new' w [.slice A a.length ca, .slice B b.length cb, .slice C c.length cc, .slice U u.length cu] _ _ rfl) hb1
  clear hv hb0 hb1
  go_wp2
  go_loopw [6, 7, 8, 9] (fun v i _ _ wr => ∃ k : Nat, k ≤ (box u).length ∧ i = .int .i64 k ∧ v = .int .i64 (cntL c most (firstF a b u k)) ∧ Blk wr w.heap.size [.slice A a.length ca, .slice B b.length cb, .slice C c.length cc, .slice U u.length cu] 25 ∧ Below w.heap.size w wr) (fun _ i _ _ _ => (box u).length - (intOf i).toNat)
  case atStart => exact ⟨0, Nat.zero_le _, rfl, rfl, P1, hx1⟩
  case round =>
    obtain ⟨k, hk, rfl, rfl, P, hb⟩ := hrel
    have p0 : wr.cell? ⟨w.heap.size, 0, none⟩ = some (.slice A a.length ca) := P.cell 0 (by simp)
    have p1 : wr.cell? ⟨w.heap.size, 1, none⟩ = some (.slice B b.length cb) := P.cell 1 (by simp)
    have p2 : wr.cell? ⟨w.heap.size, 2, none⟩ = some (.slice C c.length cc) := P.cell 2 (by simp)
    have p3 : wr.cell? ⟨w.heap.size, 3, none⟩ = some (.slice U u.length cu) := P.cell 3 (by simp)
    have hvec := vector_calls A B C U ca cb cc cu a b c u k wr (hw.ext hb) hok (by omega)
    have hcl := cntL_le (c := c) (most := most) (a := a) (b := b) (u := u) (k := k)
    by_cases hlt : k < (box u).length
    · obtain ⟨v1, v2⟩ := vec_in hlt
      obtain ⟨f1, f2, f3, f4, f5⟩ := vec_facts hok hlt
      have hsu := cntL_first (a := a) (b := b) (c := c) (most := most) hlt
      rw [v1] at hvec
      obtain ⟨x, hx⟩ : ∃ x, Hid ((vec u k).1 = x) := ⟨_, rfl⟩
      rw [hx.out] at hvec f1 f2 f3 f4 f5 hsu
      have F1 := Lib.hid f1; have F3 := Lib.hid f3; have F5 := Lib.hid f5; have HS := Lib.hid hsu
      clear v1 v2 f1 f3 f5 hsu
      obtain ⟨cn, hcn⟩ : ∃ cn, Hid (cntL c most (firstF a b u k) = cn) := ⟨_, rfl⟩
      rw [hcn.out] at hcl ⊢
      go_wp2_with fail
      refine hvec.mono ?_; rintro e w2 ⟨g, rfl, hI, hg, hb2⟩
      have hx2 := hb.trans (hb2.mono hb.size)
      have P2 := P.ext hb2
      have k0 : w2.cell? ⟨w.heap.size, 0, none⟩ = some (.slice A a.length ca) := P2.cell 0 (by simp)
      have k1 : w2.cell? ⟨w.heap.size, 1, none⟩ = some (.slice B b.length cb) := P2.cell 1 (by simp)
      have k2 : w2.cell? ⟨w.heap.size, 2, none⟩ = some (.slice C c.length cc) := P2.cell 2 (by simp)
      have k3 : w2.cell? ⟨w.heap.size, 3, none⟩ = some (.slice U u.length cu) := P2.cell 3 (by simp)
      have hw2 := hw.ext hx2
      have hfe := feasible_at A B C U (some ⟨g, 0, none⟩) ca cb cc cu u.length u.length a b c u x w2 hw2 hok hI.ints F1.out (by have := hw.lu; omega)
      rw [F3.out] at hfe
      have hlx : c.length ≤ x.length := by have := F5.out; omega
      clear hvec p0 p1 p2 p3 P hb
      cases hfb : feasB a b x with
      | false =>
        rw [hfb] at hfe
        have HF := Lib.hid hfb; clear hfb
        go_wp2_with fail
        refine hfe.mono ?_; rintro e w3 ⟨rfl, hb3⟩
        have hx3 := hx2.trans (hb3.mono hx2.size)
        have P3 := P2.ext hb3
        clear k0 k1 k2 k3 P2
        go_wp2
        go_roundw
        case rel => exact ⟨k + 1, by omega, by go_num, by rw [HS.out, HF.out, hcn.out]; simp, P3, hx3⟩
        case measure => simp [intOf]; omega
      | true =>
        rw [hfb] at hfe
        have HF := Lib.hid hfb; clear hfb
        by_cases hle : dotZ c x ≤ most
        · have hd : decide (dotZ c x ≤ most) = true := decide_eq_true hle
          go_wp2_with fail
          refine hfe.mono ?_; rintro e w3 ⟨rfl, hb3⟩
          have hx3 := hx2.trans (hb3.mono hx2.size)
          have P3 := P2.ext hb3
          have k2 : w3.cell? ⟨w.heap.size, 2, none⟩ = some (.slice C c.length cc) := P3.cell 2 (by simp)
          have hC3 := (hw2.p.ext hb3).gc
          have hxx := hI.ints.ext hb3
          go_wp2_with (go_at_call 26; refine (refDot_w _ _ _ _ _ _ c x w3 rfl F1.out hlx hlc hC3 hxx f4).mono ?_; rintro e w4 ⟨rfl, n4, rfl⟩)
          go_roundw
          case rel => exact ⟨k + 1, by omega, by go_num, by rw [HS.out, HF.out, hcn.out, Bool.true_and, hd]; rfl, P3.drewN _, hx3.trans ((drewN_below _ _).mono hx3.size)⟩
          case measure => simp [intOf]; omega
        · have hd : decide (dotZ c x ≤ most) = false := decide_eq_false hle
          go_wp2_with fail
          refine hfe.mono ?_; rintro e w3 ⟨rfl, hb3⟩
          have hx3 := hx2.trans (hb3.mono hx2.size)
          have P3 := P2.ext hb3
          have k2 : w3.cell? ⟨w.heap.size, 2, none⟩ = some (.slice C c.length cc) := P3.cell 2 (by simp)
          have hC3 := (hw2.p.ext hb3).gc
          have hxx := hI.ints.ext hb3
          go_wp2_with (go_at_call 26; refine (refDot_w _ _ _ _ _ _ c x w3 rfl F1.out hlx hlc hC3 hxx f4).mono ?_; rintro e w4 ⟨rfl, n4, rfl⟩)
          go_roundw
          case rel => exact ⟨k + 1, by omega, by go_num, by rw [HS.out, HF.out, hcn.out, Bool.true_and, hd]; simp, P3.drewN _, hx3.trans ((drewN_below _ _).mono hx3.size)⟩
          case measure => simp [intOf]; omega
    · obtain rfl : k = (box u).length := by omega
      rw [vec_out] at hvec
      have hF : firstF a b u (box u).length = feasL a b u := by unfold firstF feasL; rw [List.take_length]
      rw [hF]
      obtain ⟨NB, hNB⟩ : ∃ NB, Hid ((box u).length = NB) := ⟨_, rfl⟩
      rw [hNB.out] at hvec ⊢
      obtain ⟨cn, hcn⟩ : ∃ cn, Hid (cntL c most (feasL a b u) = cn) := ⟨_, rfl⟩
      rw [hcn.out]
      go_wp2_with fail
      refine hvec.mono ?_; rintro e w2 ⟨g, rfl, hI, hg, hb2⟩
      have hx2 := hb.trans (hb2.mono hb.size)
      clear p0 p1 p2 p3 hvec
      go_wp2
      go_ret2
      exact ⟨by unfold CountVal; rw [hok, hcn.out]; exact rfl, hx2⟩
theorem refCount_bad {w : World} {A B C U : Option Addr} {ca cb cc cu : Nat} {a : List (List Int)} {b c u : List Int} (most : Int) (hw : Who w A B C U a b c u) (hok : wholeOk a b c u = false) :
    Calls Try.prog 20 #[.agg #[.slice A a.length ca, .slice B b.length cb, .slice C c.length cc, .slice U u.length cu], .int .i64 most] w fun e w' => e = .returned (CountVal a b c u most) ∧ Below w.heap.size w w' := by
  have hb0 : ∀ o, Below w.heap.size w (w.alloc o) := fun o => (Below.refl _ _).alloc (Nat.le_refl _) _
  have hv : ∀ o, _ := fun o => refWhole_calls A B C U ca cb cc cu a b c u (w.alloc o) (hw.ext (hb0 _))
  rw [hok] at hv
  have HO := Lib.hid hok; clear hok
  go_enter Try.func20, Try.ntmps20
  go_wp2_with fail
  refine (hv _).mono ?_; rintro e w1 ⟨rfl, hb1⟩
  go_wp2
  go_ret2
  exact ⟨by unfold CountVal; rw [HO.out]; exact rfl, ext_trans (hb0 _) hb1⟩
theorem refCount_any {w : World} {A B C U : Option Addr} {ca cb cc cu : Nat} {a : List (List Int)} {b c u : List Int} (most : Int) (hw : Who w A B C U a b c u) :
    Calls Try.prog 20 #[.agg #[.slice A a.length ca, .slice B b.length cb, .slice C c.length cc, .slice U u.length cu], .int .i64 most] w fun e w' => e = .returned (CountVal a b c u most) ∧ Below w.heap.size w w' := by
  cases hok : wholeOk a b c u
  · exact refCount_bad most hw hok
  · exact refCount_calls most hw hok
end Go.Proofs.Ytbdlfjhhgnhejaa
