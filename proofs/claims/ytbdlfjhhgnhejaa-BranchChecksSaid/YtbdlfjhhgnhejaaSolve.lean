/- branch.program.best, branch.Solve, branch.Count: what they answer. -/
import Derived.Test.YtbdlfjhhgnhejaaBest
namespace Go.Proofs.Ytbdlfjhhgnhejaa
open Go.RowKit

/-- The feasible vectors in lexicographic order. -/
def feasL (a : List (List Int)) (b u : List Int) : List (List Int) := (box u).filter (feasB a b)

/-- best's three results. -/
def BestRes (c : List Int) (n : Nat) (w' : World) : Option (List Int) → Ending → Prop
  | none, e => e = .returned (.tuple #[.slice none 0 0, .int .i64 0, .bool false])
  | some x, e => ∃ g cap, e = .returned (.tuple #[.slice (some ⟨g, 0, none⟩) n cap, .int .i64 (dotZ c x), .bool true]) ∧ x.length = n ∧ Ints w' (some ⟨g, 0, none⟩) x
def BestPost (a : List (List Int)) (b c u : List Int) (w : World) (e : Ending) (w' : World) : Prop := BestRes c u.length w' (bestL c (feasL a b u)) e ∧ Below w.heap.size w w'

theorem wholeOk_len {a : List (List Int)} {b c u : List Int} (h : wholeOk a b c u = true) : u.length = c.length ∧ 0 < u.length ∧ u.length ≤ 5 := by
  unfold wholeOk at h; simp only [Bool.and_eq_true, decide_eq_true_eq] at h
  have := (progOk_parts h.2).1
  omega

set_option maxRecDepth 100000 in
set_option maxHeartbeats 1000000 in
theorem best_calls {w : World} {A B C U : Option Addr} {ca cb cc cu : Nat} {a : List (List Int)} {b c u : List Int} (hw : Who w A B C U a b c u) (hok : wholeOk a b c u = true) :
    Calls Try.prog 28 #[.agg #[.slice A a.length ca, .slice B b.length cb, .slice C c.length cc, .slice U u.length cu, .int .i64 u.length]] w (BestPost a b c u w) := by
  obtain ⟨hul, h0, h5⟩ := wholeOk_len hok
  have hv := best_visit (w.heap.size + 1) (w.heap.size + 1 + 1) c u h0 (by omega)
  have hbel : ∀ o1 o2 o3, Below w.heap.size w (((w.alloc o1).alloc o2).alloc o3) := fun o1 o2 o3 => (((Below.refl _ _).alloc (Nat.le_refl _) _).alloc (by simp) _).alloc (by simp; omega) _
  have hea : ∀ o1, _ := fun o1 => each_calls (ca := ca) (cb := cb) (cc := cc) (cu := cu) (w0 := w) (w := ((w.alloc o1).alloc (.cells #[.slice none 0 0] 23 (0, 0))).alloc (.cells #[.int .i64 0] 3 (0, 0))) hv hw hok (hbel _ _ _) (by rintro k (h | h) <;> simp <;> omega)
    (fun xa w1 hxa hb1 => ⟨_, _, ((Blk.new' _ [.slice none 0 0] _ _ (by simp)).alloc _).ext hb1, (Blk.new' _ [.int .i64 0] _ _ (by simp)).ext hb1, ⟨rfl, rfl⟩, by simp at hxa; omega, by simp at hxa; omega, by omega⟩)
  have q23 := neqNil
  have HU := Lib.hid hul; clear hul
  go_enter Try.func28, Try.ntmps28
  go_wp2_with fail
  refine (hea _).mono ?_; rintro e w4 ⟨rfl, xa, ⟨v, l, b1, b2, hk, _, _, _⟩, hf⟩
  have hbe : Below w.heap.size w w4 := ((hbel _ _ _).trans (hf.below (by rintro k (h | h) <;> omega) (by simp; omega)))
  have c1 : w4.cell? ⟨w.heap.size + 1, 0, none⟩ = some v := b1.cell 0 (by simp)
  have c2 : w4.cell? ⟨w.heap.size + 1 + 1, 0, none⟩ = some (.int .i64 l) := b2.cell 0 (by simp)
  clear hea hbel b1 b2 hv
  cases hb : bestL c ((box u).filter (feasB a b)) with
  | none =>
    rw [hb] at hk
    obtain ⟨rfl, rfl⟩ := hk
    have HB := Lib.hid hb; clear hb
    go_wp2_with fail
    go_quiet (fail)
    go_wp2
    go_ret3
    exact ⟨by unfold feasL; rw [HB.out]; exact rfl, hbe.trans ((drewN_below _ _).mono hbe.size)⟩
  | some x =>
    rw [hb] at hk
    obtain ⟨g, cap, rfl, k2, k3, k4, k5, k6, k7, rfl⟩ := hk
    have HB := Lib.hid hb; have K3 := Lib.hid k3; clear hb k3
    go_wp2_with fail
    go_quiet (fail)
    go_wp2
    go_ret3
    exact ⟨by unfold feasL; rw [HB.out]; exact ⟨g, cap, rfl, K3.out, k2.ext (drewN_below _ _)⟩, hbe.trans ((drewN_below _ _).mono hbe.size)⟩

theorem best_at {w : World} {A B C U : Option Addr} {ca cb cc cu : Nat} {a : List (List Int)} {b c u : List Int} (hw : Who w A B C U a b c u) (hok : wholeOk a b c u = true) (n : Nat) (hn : u.length = n) :
    Calls Try.prog 28 #[.agg #[.slice A a.length ca, .slice B b.length cb, .slice C c.length cc, .slice U u.length cu, .int .i64 n]] w (BestPost a b c u w) := by
  rw [← hn]; exact best_calls hw hok

/-- What an integer program's optimum is; or its error. -/
def SolveRes (a : List (List Int)) (b c u : List Int) (w' : World) (e : Ending) : Prop :=
  if wholeOk a b c u then match bestL c (feasL a b u) with
    | none => e = .returned (.tuple #[.slice none 0 0, .int .i64 0, .int .i64 10])
    | some x => ∃ g cap, e = .returned (.tuple #[.slice (some ⟨g, 0, none⟩) u.length cap, .int .i64 (dotZ c x), .int .i64 0]) ∧ x.length = u.length ∧ Ints w' (some ⟨g, 0, none⟩) x
  else e = .returned (.tuple #[.slice none 0 0, .int .i64 0, .int .i64 2])
def SolvePost (a : List (List Int)) (b c u : List Int) (w : World) (e : Ending) (w' : World) : Prop := SolveRes a b c u w' e ∧ Below w.heap.size w w'

set_option maxRecDepth 100000 in
set_option maxHeartbeats 1000000 in
theorem solve_calls {w : World} {A B C U : Option Addr} {ca cb cc cu : Nat} {a : List (List Int)} {b c u : List Int} (hw : Who w A B C U a b c u) :
    Calls Try.prog 17 #[.agg #[.slice A a.length ca, .slice B b.length cb, .slice C c.length cc, .slice U u.length cu]] w (SolvePost a b c u w) := by
  have hb0 : ∀ o, Below w.heap.size w (w.alloc o) := fun o => (Below.refl _ _).alloc (Nat.le_refl _) _
  have hof : ∀ o, _ := fun o => of_calls A B C U ca cb cc cu a b c u (w.alloc o) (hw.ext (hb0 _))
  cases hok : wholeOk a b c u with
  | false =>
    unfold ofVal at hof
    rw [hok] at hof
    have HO := Lib.hid hok; clear hok
    go_enter Try.func17, Try.ntmps17
    go_wp2_with fail
    refine (hof _).mono ?_; rintro e w1 ⟨rfl, hb1⟩
    have hx1 := ext_trans (hb0 _) hb1
    go_wp2
    go_ret3
    exact ⟨by unfold SolveRes; rw [HO.out]; exact rfl, by first | exact hx1.alloc (by have := hx1.size; omega) _ | (repeat' (refine Below.setCell ?_ (by dsimp only; have := hx1.size; omega) _); exact hx1.alloc (by have := hx1.size; omega) _)⟩
  | true =>
    obtain ⟨hul, h0, h5⟩ := wholeOk_len hok
    unfold ofVal at hof
    rw [hok] at hof
    have hbe : ∀ w2, Below w.heap.size w w2 → _ := fun w2 h => best_at (ca := ca) (cb := cb) (cc := cc) (cu := cu) (hw.ext h) hok c.length hul
    have HU := Lib.hid hul; clear hul
    have HO := Lib.hid hok; clear hok
    go_enter Try.func17, Try.ntmps17
    go_wp2_with fail
    refine (hof _).mono ?_; rintro e w1 ⟨rfl, hb1⟩
    have hx1 := ext_trans (hb0 _) hb1
    have hs1 := hx1.size
    clear hof
    go_wp2_with fail
    refine (hbe _ (hx1.alloc hs1 _)).mono ?_; rintro e w3 ⟨hr, hb3⟩
    have hall : Below w.heap.size w w3 := (hx1.alloc hs1 _).trans (hb3.mono (by simp; omega))
    clear hbe
    cases hb : bestL c (feasL a b u) with
    | none =>
      rw [hb] at hr
      obtain rfl := hr
      have HB := Lib.hid hb; clear hb
      go_wp2
      go_ret3
      exact ⟨by unfold SolveRes; rw [HO.out, HB.out]; exact rfl, hall⟩
    | some x =>
      rw [hb] at hr
      obtain ⟨g, cap, rfl, k1, k2⟩ := hr
      have HB := Lib.hid hb; have K1 := Lib.hid k1; clear hb k1
      go_wp2
      go_ret3
      exact ⟨by unfold SolveRes; rw [HO.out, HB.out]; exact ⟨g, cap, rfl, K1.out, k2⟩, hall⟩

/-- Count's answer. -/
def CountVal (a : List (List Int)) (b c u : List Int) (most : Int) : Value :=
  if wholeOk a b c u then .tuple #[.int .i64 (cntL c most (feasL a b u)), .int .i64 0] else .tuple #[.int .i64 0, .int .i64 2]

theorem box_len (u : List Int) (h : upOk u = true) : (box u).length ≤ 8 ^ u.length := by
  induction u with
  | nil => simp [box]
  | cons m us ih =>
    unfold upOk at h; simp only [List.all_cons, Bool.and_eq_true, decide_eq_true_eq] at h
    have e : box (m :: us) = (irange (m.toNat + 1)).flatMap fun v => (box us).map (v :: ·) := rfl
    have ih' := ih (by unfold upOk; exact h.2)
    rw [e, List.length_flatMap]; simp only [List.length_map, List.map_const', List.sum_replicate_nat]
    have hl : (irange (m.toNat + 1)).length ≤ 8 := by unfold irange; simp; omega
    rw [List.length_cons, Nat.pow_succ, Nat.mul_comm]
    exact Nat.mul_le_mul ih' hl
theorem feasL_len {a : List (List Int)} {b c u : List Int} (h : wholeOk a b c u = true) : (feasL a b u).length ≤ 32768 := by
  have h5 := (wholeOk_len h).2.2
  unfold wholeOk at h; simp only [Bool.and_eq_true] at h
  have h1 := box_len u h.1.2
  have h2 : 8 ^ u.length ≤ 8 ^ 5 := Nat.pow_le_pow_right (by omega) h5
  have h3 := List.length_filter_le (feasB a b) (box u)
  unfold feasL; omega

theorem blk_new1 (w : World) (o : Obj) (vs : List Value) (T : TypeId) : Blk ((w.alloc o).alloc (.cells vs.toArray T (0, 0))) (w.heap.size + 1) vs T := Blk.new' _ _ _ _ (by simp)
set_option maxRecDepth 100000 in
set_option maxHeartbeats 1000000 in
theorem count_calls {w : World} {A B C U : Option Addr} {ca cb cc cu : Nat} {a : List (List Int)} {b c u : List Int} (most : Int) (hw : Who w A B C U a b c u) :
    Calls Try.prog 19 #[.agg #[.slice A a.length ca, .slice B b.length cb, .slice C c.length cc, .slice U u.length cu], .int .i64 most] w fun e w' => e = .returned (CountVal a b c u most) ∧ Below w.heap.size w w' := by
  have hb0 : ∀ o o', Below w.heap.size w ((w.alloc o).alloc o') := fun o o' => ((Below.refl _ _).alloc (Nat.le_refl _) _).alloc (by simp) _
  have hof : ∀ o o', _ := fun o o' => of_calls A B C U ca cb cc cu a b c u ((w.alloc o).alloc o') (hw.ext (hb0 _ _))
  cases hok : wholeOk a b c u with
  | false =>
    unfold ofVal at hof
    rw [hok] at hof
    have HO := Lib.hid hok; clear hok
    go_enter Try.func19, Try.ntmps19
    go_wp2_with fail
    refine (hof _ _).mono ?_; rintro e w1 ⟨rfl, hb1⟩
    have hx1 := ext_trans (hb0 _ _) hb1
    clear hof
    go_wp2
    go_ret2
    exact ⟨by unfold CountVal; rw [HO.out]; exact rfl, by first | exact hx1.alloc (by have := hx1.size; omega) _ | (repeat' (refine Below.setCell ?_ (by dsimp only; have := hx1.size; omega) _); exact hx1.alloc (by have := hx1.size; omega) _)⟩
  | true =>
    obtain ⟨hul, h0, h5⟩ := wholeOk_len hok
    unfold ofVal at hof
    rw [hok] at hof
    have hlen := feasL_len hok
    have hcn : cntL c most (feasL a b u) ≤ 32768 := Nat.le_trans (List.length_filter_le _ _) hlen
    have hea : ∀ nb w2, Below w.heap.size w w2 → _ := fun nb w2 h => each_at_n (ca := ca) (cb := cb) (cc := cc) (cu := cu) (w0 := w) (w := w2) (count_visit (w.heap.size + 1) nb c u most) hw hok h c.length hul
    have HU := Lib.hid hul; clear hul
    have HO := Lib.hid hok; clear hok
    go_enter Try.func19, Try.ntmps19
    go_wp2_with fail
    refine (hof _ _).mono ?_; rintro e w1 ⟨rfl, hb1⟩
    have hx1 := ext_trans (hb0 _ _) hb1
    have hs1 := hx1.size
    have hs2 := hb1.size
    simp at hs2
    have M1 : Blk w1 (w.heap.size + 1) [.int .i64 most] 3 := Blk.ext (Blk.new' _ [.int .i64 most] _ _ (by simp)) hb1
    clear hof hb0
    go_wp2_with fail
    refine (hea (w1.heap.size + 1) _ ((hx1.alloc hs1 _).alloc (by simp; omega) _) ?_ ?_).mono ?_
    · rintro k rfl; simp; omega
    · intro xa w2 hxa hb2
      simp at hxa
      refine ⟨((M1.alloc _).alloc _).ext hb2, ?_, by omega, by omega, by omega⟩
      refine Blk.ext ?_ hb2
      rw [show wrap64 ((cntL c most [] : Nat) : Int) = 0 from by unfold wrap64 cntL; simp]
      exact blk_new1 w1 _ [.int .i64 0] _
    rintro e w3 ⟨rfl, xa, ⟨m1, m2, _, _, _⟩, hf⟩
    have hall : Below w.heap.size w w3 := (((hx1.alloc hs1 _).alloc (by simp; omega) _).trans (hf.below (by rintro k rfl; omega) (by simp; omega)))
    have c2 : w3.cell? ⟨w1.heap.size + 1, 0, none⟩ = some (.int .i64 (cntL c most (feasL a b u))) := by
      rw [m2.cell 0 (by simp)]; simp only [List.getElem_cons_zero]
      congr 2; unfold feasL at hcn ⊢; unfold wrap64; omega
    clear m2 hea
    go_wp2
    go_ret2
    exact ⟨by unfold CountVal; rw [HO.out]; exact rfl, hall⟩
end Go.Proofs.Ytbdlfjhhgnhejaa
