/- tinplateref02.Check. -/
import Derived.Test.YtbdlfjhhgnhejaaTD
import Derived.Test.YtbdlfjhhgnhejaaCheck
import Derived.Test.YtbdlfjhhgnhejaaRefB
namespace Go.Proofs.Ytbdlfjhhgnhejaa
open Go.RowKit
set_option linter.unusedVariables false
set_option linter.unusedSimpArgs false

theorem nth_pad (u : List Int) {j : Nat} (h : j < u.length) : nth u j = nth (pad u) j := by
  unfold nth pad
  rw [List.getD_eq_getElem?_getD, List.getD_eq_getElem?_getD, List.getElem?_append_left h]
theorem nth_five {j : Nat} : nth [0, 0, 0, 0, 0] j = 0 := by
  rcases j with _ | _ | _ | _ | _ | j <;> rfl
theorem wholeOk_up {a : List (List Int)} {b c u : List Int} (h : wholeOk a b c u = true) : c.length ≤ 5 ∧ u.length = c.length ∧ upOk u = true ∧ progOk a b c = true := by
  unfold wholeOk at h; simp only [Bool.and_eq_true, decide_eq_true_eq] at h; exact ⟨h.1.1.1, h.1.1.2, h.1.2, h.2⟩
theorem treeV_all {L : List Nd} {R : Bool × List Nd} (h : R.2 <:+ L) : (treeV L.length R == (L.length : Int)) = (R.1 && decide (R.2.length = 0)) := by
  obtain ⟨r, M⟩ := R
  have := h.length_le
  unfold treeV
  cases r
  · simp
  · simp only [if_true, Bool.true_and]
    by_cases e : M.length = 0
    · rw [decide_eq_true e]; simp; omega
    · rw [decide_eq_false e]
      have : ((L.length - M.length : Nat) : Int) ≠ L.length := by dsimp only at *; omega
      simpa using this

set_option maxRecDepth 100000 in
set_option maxHeartbeats 4000000 in
theorem refCheck_calls (A B C U X : Option Addr) (ca cb cc cu cx : Nat) (a : List (List Int)) (b c u : List Int) (L : List Nd) (cost : Int) (feas : Bool) (w : World)
    (hw : Who w A B C U a b c u) (hN : Nodes w X L) (hcost : -9223372036854775808 ≤ cost ∧ cost ≤ 9223372036854775807) :
    Calls Try.prog 13 #[.agg #[.slice A a.length ca, .slice B b.length cb, .slice C c.length cc, .slice U u.length cu], .slice X L.length cx, .bool feas, .int .i64 cost] w (CheckPost a b c u L cost feas w) := by
  have hbe : Below w.heap.size w (w.alloc (.cells #[.slice A a.length ca, .slice B b.length cb, .slice C c.length cc, .slice U u.length cu] 25 (0, 0))) := (Below.refl _ _).alloc (Nat.le_refl _) _
  have B0 : Blk (w.alloc (.cells #[.slice A a.length ca, .slice B b.length cb, .slice C c.length cc, .slice U u.length cu] 25 (0, 0))) w.heap.size [.slice A a.length ca, .slice B b.length cb, .slice C c.length cc, .slice U u.length cu] 25 := Blk.new w _ _
  have HW := Lib.hid (hw.ext hbe); have HN := Lib.hid (hN.ext hbe); have HBE := Lib.hid hbe
  clear hw hN hbe
  unfold CheckPost
  obtain ⟨V, hV⟩ : ∃ V, Hid (checkV a b c u L cost feas = V) := ⟨_, Lib.hid rfl⟩
  rw [hV.out]
  obtain ⟨V1, V2⟩ := V
  go_enter Try.func13, Try.ntmps13
  go_wp2_with fail
  generalize (w.alloc (.cells #[.slice A a.length ca, .slice B b.length cb, .slice C c.length cc, .slice U u.length cu] 25 (0, 0))) = W at *
  refine (refWhole_calls A B C U ca cb cc cu a b c u W HW.out).mono ?_
  rintro e w1 ⟨rfl, hb1⟩
  have B1 := B0.ext hb1
  have HX1 := Lib.hid (ext_trans HBE.out hb1)
  have HW1 := Lib.hid (HW.out.ext hb1); have HN1 := Lib.hid (HN.out.ext hb1)
  clear B0 HW HN HBE hb1
  cases hok : wholeOk a b c u
  · have hv := hV.out
    rw [checkV_arg hok] at hv
    injection hv with hv1 hv2
    subst hv1; subst hv2
    clear hV hok
    go_wp2_with fail
    go_ret2
    exact ⟨rfl, HX1.out⟩
  · by_cases hl : 65535 < L.length
    · have hv := hV.out
      rw [checkV_lim hok hl] at hv
      injection hv with hv1 hv2
      subst hv1; subst hv2
      have d1 : decide ((65535 : Int) < L.length) = true := decide_eq_true (by omega)
      clear hV hok
      go_wp2_with fail
      go_ret2
      exact ⟨rfl, HX1.out⟩
    · have hv := hV.out
      rw [checkV_read hok hl] at hv
      injection hv with hv1 hv2
      subst hv2
      have HV1 := Lib.hid hv1
      obtain ⟨h5, hul, hup, hpo⟩ := wholeOk_up hok
      have HUL := Lib.hid hul; have HUP := Lib.hid hup; have HPO := Lib.hid hpo; have HOK := Lib.hid hok
      have hu5 : u.length ≤ 5 := by omega
      have d1 : decide ((65535 : Int) < L.length) = false := decide_eq_false (by omega)
      obtain ⟨T, hT⟩ : ∃ T, Hid (treeV L.length (readF a b c cost (!feas) (L.length + 1) L [0, 0, 0, 0, 0] (pad u)) = T) := ⟨_, Lib.hid rfl⟩
      have HTV : Hid ((T == (L.length : Int)) = V1) := Lib.hid (by rw [← hT.out, treeV_all (readF_suffix ..)]; exact hv1)
      have k0 : w1.cell? ⟨w.heap.size, 0, none⟩ = some (.slice A a.length ca) := B1.cell 0 (by simp)
      have k1 : w1.cell? ⟨w.heap.size, 1, none⟩ = some (.slice B b.length cb) := B1.cell 1 (by simp)
      have k2 : w1.cell? ⟨w.heap.size, 2, none⟩ = some (.slice C c.length cc) := B1.cell 2 (by simp)
      have k3 : w1.cell? ⟨w.heap.size, 3, none⟩ = some (.slice U u.length cu) := B1.cell 3 (by simp)
      have hmk := fun w2 : World => run_makeInts w2 u.length (by omega)
      have hz0 : (0 : Int) ≤ u.length := by omega
      clear hV hok hv1 hul hup hpo B1
      go_wp2_with fail
      refine wp_region_later (w0 := w1) 16 [16, 17, 18, 19, 20, 21, 22, 23, 24, 25, 26, 27, 28, 29, 8, 9]
        [leafS 16 (.agg #[.slice A a.length ca, .slice B b.length cb, .slice C c.length cc, .slice U u.length cu]), leafS 17 (.slice X L.length cx), leafS 18 (.pointer (some ⟨w.heap.size, 3, none⟩)), leafS 19 (.slice U u.length cu), leafS 20 (.int .i64 u.length), leaf1 21 (fun x w => ∃ p, x = .slice (some ⟨p, 0, none⟩) (zeros u.length).length u.length ∧ IBlk w p (zeros u.length)), leafS 22 (.pointer (some ⟨w.heap.size, 3, none⟩)), leafS 23 (.slice U u.length cu), leafS 24 (.bool feas), leafS 25 (.int .i64 cost), leafS 26 (.int .i64 T), leafS 27 (.slice X L.length cx), leafS 28 (.int .i64 L.length), leafS 29 (.bool (T == (L.length : Int))), leafS 8 (.bool (T == (L.length : Int))), leafS 9 (.int .i64 0)]
        (fun w w' => Below w.heap.size w w') (by kernel_rfl) (by kernel_rfl) rfl (F := ?cF5) ?r5c1 (fun _ _ _ => ext_trans) (Below.refl _ _).drew ?r5c2 ?r5c3 ?r5c4
      case r5c1 =>
        intro x
        simp only [fullF, Act.put, List.setIfInBounds_toArray, List.set_cons_zero, List.set_cons_succ]
        rfl
      case r5c2 =>
        refine AllStay.mem ⟨stays_const _ _ _, stays_const _ _ _, stays_const _ _ _, stays_const _ _ _, stays_const _ _ _, stays_of _ (by rintro x w2 w3 ⟨p, h1, h2⟩ hb; exact ⟨p, h1, h2.ext hb⟩), stays_const _ _ _, stays_const _ _ _, stays_const _ _ _, stays_const _ _ _, stays_const _ _ _, stays_const _ _ _, stays_const _ _ _, stays_const _ _ _, stays_const _ _ _, stays_const _ _ _, trivial⟩
      case r5c3 =>
        refine ⟨?_, ?_, ?_, ?_, ?_, ?_, ?_, ?_, ?_, ?_, ?_, ?_, ?_, ?_, ?_, ?_, trivial⟩
        all_goals
          intro x w0 hE hd K hK
          have hc := (bcell hE).1
          have k0' := (hc _ _ (cell_lt k0)).trans k0
          have k1' := (hc _ _ (cell_lt k1)).trans k1
          have k2' := (hc _ _ (cell_lt k2)).trans k2
          have k3' := (hc _ _ (cell_lt k3)).trans k3
          try have e0 : x 16 = _ := hd 0 _ (by decide) rfl
          try have e1 : x 17 = _ := hd 1 _ (by decide) rfl
          try have e2 : x 18 = _ := hd 2 _ (by decide) rfl
          try have e3 : x 19 = _ := hd 3 _ (by decide) rfl
          try have e4 : x 20 = _ := hd 4 _ (by decide) rfl
          try have e5 := hd 5 _ (by decide) rfl
          try have e6 : x 22 = _ := hd 6 _ (by decide) rfl
          try have e7 : x 23 = _ := hd 7 _ (by decide) rfl
          try have e8 : x 24 = _ := hd 8 _ (by decide) rfl
          try have e9 : x 25 = _ := hd 9 _ (by decide) rfl
          try have e10 : x 26 = _ := hd 10 _ (by decide) rfl
          try have e11 : x 27 = _ := hd 11 _ (by decide) rfl
          try have e12 : x 28 = _ := hd 12 _ (by decide) rfl
          try have e13 : x 29 = _ := hd 13 _ (by decide) rfl
          try have e14 : x 8 = _ := hd 14 _ (by decide) rfl
          try have e15 : x 9 = _ := hd 15 _ (by decide) rfl
          have HC := Lib.hid hc; have HE := Lib.hid hE
          clear hd hc hE
          go_simp
          try exact hK _ _ _ (Below.refl _ _) (upd_self _ _ _) (by dsimp only [Act.put]; first | rfl | (simp [*]; done))
        · exact hK _ _ _ ((Below.refl _ _).alloc (Nat.le_refl _) _) (by rw [leaf1_at, upd_self]; exact ⟨w0.heap.size, by rw [zeros_len], IBlk.made _ _⟩) (by dsimp only [Act.put]; first | rfl | (simp [*]; done))
        · obtain ⟨p, e5, hp⟩ := e5
          rw [e5]
          have hcall := tree_calls A B C U X ca cb cc cu cx a b c u L feas cost HPO.out h5 (by omega) hcost (L.length + 1) 0 (zeros u.length) u [0, 0, 0, 0, 0] (pad u) (some ⟨p, 0, none⟩) U u.length cu w0 (by omega) (Nat.zero_le _) (HW1.out.ext HE.out) (HN1.out.ext HE.out) hp.ints (HW1.out.ext HE.out).gu ⟨rfl, by intro x hx; simp at hx; omega⟩ (pad_ends HUP.out hu5) ⟨by rw [zeros_len]; exact HUL.out, fun j _ => by rw [nth_zeros, nth_five]⟩ ⟨HUL.out, fun j hj => nth_pad u (by have := HUL.out; omega)⟩
          rw [List.drop_zero, hT.out] at hcall
          refine hcall.mono ?_
          rintro e w6 ⟨rfl, hb2⟩
          exact hK _ _ _ hb2 (upd_self _ _ _) (by dsimp only [Act.put]; first | rfl | (simp [*]; done))
      case r5c4 =>
        intro x w3 hE hG
        have e0 : x 16 = _ := hG 0 _ rfl
        have e1 : x 17 = _ := hG 1 _ rfl
        have e2 : x 18 = _ := hG 2 _ rfl
        have e3 : x 19 = _ := hG 3 _ rfl
        have e4 : x 20 = _ := hG 4 _ rfl
        have e5 := hG 5 _ rfl
        have e6 : x 22 = _ := hG 6 _ rfl
        have e7 : x 23 = _ := hG 7 _ rfl
        have e8 : x 24 = _ := hG 8 _ rfl
        have e9 : x 25 = _ := hG 9 _ rfl
        have e10 : x 26 = _ := hG 10 _ rfl
        have e11 : x 27 = _ := hG 11 _ rfl
        have e12 : x 28 = _ := hG 12 _ rfl
        have e13 : x 29 = _ := hG 13 _ rfl
        have e14 : x 8 = _ := hG 14 _ rfl
        have e15 : x 9 = _ := hG 15 _ rfl
        clear e5
        have HX2 := Lib.hid (ext_trans HX1.out hE)
        clear hG hE k0 k1 k2 k3 hmk
        refine wpAny_done (by kernel_rfl) ?_ _
        try simp only [Exit.inBlock, Exit.then]
        rw [e0, e1, e2, e3, e4, e6, e7, e8, e9, e10, e11, e12, e13, e14, e15]
        generalize x 21 = V21
        clear e0 e1 e2 e3 e4 e6 e7 e8 e9 e10 e11 e12 e13 e14 e15
        go_wp2_with fail
        go_ret2
        exact ⟨by rw [HTV.out]; rfl, HX2.out⟩
end Go.Proofs.Ytbdlfjhhgnhejaa
