/- The row LinearDuality. -/
import Derived.Test.YtkljafmdbajfeaaGreatDoorDuA44
import Derived.Test.YtkljafmdbajfeaaGreatDoorDuA45
import Derived.Test.YtkljafmdbajfeaaGreatDoorDuA46
import Derived.Test.YtkljafmdbajfeaaGreatDoorDuA47
namespace Go.Proofs.YtkljafmdbajfeaaGreatDoor
open Go.RowKit
open Lp (EndFound EndEmpty EndFree)
set_option linter.unusedVariables false
set_option linter.unusedSimpArgs false
def EndP (a : List (List Int)) (b c : List Int) (st : Nat) (o : Nat → Int) (kx : Bool) (w : World) (X : Option Addr) (n cx : Nat) (d er : Int) : Prop :=
 (progOk a b c = false ∧ er = 2) ∨
 (progOk a b c = true ∧ ∃ (s : Nat) (x y : Nat → Rat), s < 3 ∧ EndQ (qA a) (qB b) (qB c) c.length a.length s x y ∧
   ((s ≠ st ∧ er = o s) ∨ (s = st ∧ er = 0 ∧ ∃ g xs, X = some ⟨g, 0, none⟩ ∧ n = (if kx then c.length else a.length) ∧ cx = (if kx then c.length else a.length) ∧ IBlk w g xs ∧ PtOf xs d (if kx then c.length else a.length) (if kx then x else y))))
theorem EndP.ext {a : List (List Int)} {b c : List Int} {st : Nat} {o : Nat → Int} {kx : Bool} {w w' : World} {X : Option Addr} {n cx : Nat} {d er : Int} (h : EndP a b c st o kx w X n cx d er) (hb : Below w.heap.size w w') : EndP a b c st o kx w' X n cx d er := by
 rcases h with h | ⟨h1, s, x, y, h2, h3, h4⟩
 ·exact .inl h
 ·refine .inr ⟨h1, s, x, y, h2, h3, ?_⟩
  rcases h4 with h4 | ⟨h4, h5, g, xs, h6, h7, h8, h9, h10⟩
  ·exact .inl h4
  ·exact .inr ⟨h4, h5, g, xs, h6, h7, h8, Blk.ext h9 hb, h10⟩
theorem of_gen {a : List (List Int)} {b c : List Int} {st : Nat} {o : Nat → Int} {kx : Bool} {w w' : World} {e : Ending} (h : OfPost a b c st o kx w w' e) :
  ∃ X n cx d er, e = .returned (.tuple #[.agg #[.slice X n cx, .int .i64 d], .int .i64 er]) ∧ EndP a b c st o kx w' X n cx d er := by
 rcases h with ⟨h1, rfl⟩ | ⟨h1, s, x, y, h2, h3, h4⟩
 ·exact ⟨none, 0, 0, 0, 2, rfl, .inl ⟨h1, rfl⟩⟩
 ·rcases h4 with ⟨h4, rfl⟩ | ⟨h4, g, xs, d, h5, -, h6, h7⟩
  ·exact ⟨none, 0, 0, 0, o s, rfl, .inr ⟨h1, s, x, y, h2, h3, .inl ⟨h4, rfl⟩⟩⟩
  ·exact ⟨some ⟨g, 0, none⟩, _, _, d, 0, h5, .inr ⟨h1, s, x, y, h2, h3, .inr ⟨h4, rfl, g, xs, rfl, rfl, rfl, h6, h7⟩⟩⟩
theorem EndP.bad {a : List (List Int)} {b c : List Int} {st : Nat} {o : Nat → Int} {kx : Bool} {w : World} {X : Option Addr} {n cx : Nat} {d er : Int} (h : EndP a b c st o kx w X n cx d er) (hp : progOk a b c = false) : er = 2 := by
 rcases h with ⟨-, h⟩ | ⟨h, -⟩
 ·exact h
 ·rw [hp] at h; cases h
theorem EndP.good {a : List (List Int)} {b c : List Int} {st : Nat} {o : Nat → Int} {kx : Bool} {w : World} {X : Option Addr} {n cx : Nat} {d er : Int} (h : EndP a b c st o kx w X n cx d er) (hp : progOk a b c = true) :
  ∃ (s : Nat) (x y : Nat → Rat), s < 3 ∧ EndQ (qA a) (qB b) (qB c) c.length a.length s x y ∧
  ((s ≠ st ∧ er = o s) ∨ (s = st ∧ er = 0 ∧ ∃ g xs, X = some ⟨g, 0, none⟩ ∧ n = (if kx then c.length else a.length) ∧ cx = (if kx then c.length else a.length) ∧ IBlk w g xs ∧ PtOf xs d (if kx then c.length else a.length) (if kx then x else y))) := by
 rcases h with ⟨h, -⟩ | ⟨-, h⟩
 ·rw [hp] at h; cases h
 ·exact h
theorem EndP.at {a : List (List Int)} {b c : List Int} {st s0 : Nat} {o : Nat → Int} {kx : Bool} {w : World} {X : Option Addr} {n cx : Nat} {d er : Int} {x0 y0 : Nat → Rat} (h : EndP a b c st o kx w X n cx d er) (hp : progOk a b c = true) (hq : EndQ (qA a) (qB b) (qB c) c.length a.length s0 x0 y0) :
  (s0 ≠ st → er = o s0) ∧ (s0 = st → er = 0 ∧ ∃ x y g xs, EndQ (qA a) (qB b) (qB c) c.length a.length s0 x y ∧ X = some ⟨g, 0, none⟩ ∧ n = (if kx then c.length else a.length) ∧ cx = (if kx then c.length else a.length) ∧ IBlk w g xs ∧ PtOf xs d (if kx then c.length else a.length) (if kx then x else y)) := by
 obtain ⟨s, x, y, h1, h2, h3⟩ := h.good hp
 obtain rfl := end_one h2 hq
 refine ⟨fun hne => ?_, fun he => ?_⟩
 ·rcases h3 with ⟨-, h3⟩ | ⟨h3, -⟩
  ·exact h3
  ·exact absurd h3 hne
 ·rcases h3 with ⟨h3, -⟩ | ⟨-, h4, g, xs, h5, h6, h7, h8, h9⟩
  ·exact absurd he h3
  ·exact ⟨h4, x, y, g, xs, h2, h5, h6, h7, h8, h9⟩
theorem low_pt {xs : List Int} {d : Int} {n g cx : Nat} {x : Nat → Rat} (h : PtOf xs d n x) (hn : n ≤ 6) (w : World) (hI : IBlk w g xs) :
  Calls Tryz.prog 19 #[.agg #[.slice (some ⟨g, 0, none⟩) n cx, .int .i64 d]] w fun e w' => e = .returned (.bool true) ∧ Below w.heap.size w w' := by
 have h1 := lowest1_calls (some ⟨g, 0, none⟩) cx xs d w hI.ints (by rw [h.len]; omega) h.d1 (by have := h.d2; omega) (fun i hi => by have := h.bd i (by rw [← h.len]; exact hi); omega)
 rw [h.len, h.low] at h1
 exact h1
set_option maxRecDepth 100000 in
set_option maxHeartbeats 8000000 in
theorem duality_row (A B C : Option Addr) (ca cb cc : Nat) (a : List (List Int)) (b c : List Int) (w : World) (h : Prog3 w A B C a b c) (hT : TabOk 0 costsO w) (hT2 : TabOk 1 plansO w) :
  Calls Tryz.prog 4 #[.agg #[.slice A a.length ca, .slice B b.length cb, .slice C c.length cc]] w fun e w' => e = .returned (.bool true) ∧ Below w.heap.size w w' := by
 obtain ⟨ua, hua⟩ : ∃ W, w.alloc (.cells #[.slice A a.length ca, .slice B b.length cb, .slice C c.length cc] 25 (0, 0)) = W := ⟨_, rfl⟩
 have ba : Blk ua w.heap.size [.slice A a.length ca, .slice B b.length cb, .slice C c.length cc] 25 := by rw [← hua]; exact Blk.new _ _ _
 have ea : Below w.heap.size w ua := by rw [← hua]; exact (Below.refl _ _).alloc (Nat.le_refl _) _
 have HBA := Lib.hid ba; have HE2 := Lib.hid ea
 have HT := Lib.hid hT; have HT2 := Lib.hid hT2; have HP := Lib.hid h
 have HV := Lib.hid (lightL_calls A B C ca cb cc a b c ua (h.ext ea))
 have p0 := ba.cell 0 (by simp)
 have p1 := ba.cell 1 (by simp)
 have p2 := ba.cell 2 (by simp)
 simp only [List.getElem_cons_zero, List.getElem_cons_succ] at p0 p1 p2
 rw [← hua] at p0 p1 p2
 have HUA := Lib.hid hua
 clear ba ea h hua hT hT2
 go_enter Tryz.func4, Tryz.ntmps4
 go_wp2_with fail
 rw [HUA.out]
 clear p0 p1 p2
 obtain ⟨bp, hbp⟩ : ∃ p, w.heap.size = p := ⟨_, rfl⟩
 rw [hbp] at HBA
 rw [hbp]
 have HBP := Lib.hid hbp
 clear hbp
 refine HV.out.mono ?_; rintro e w1 ⟨rfl, hb1⟩
 clear HV
 have HB1 := Lib.hid (HE2.out.trans (hb1.mono HE2.out.size))
 have HBA1 := Lib.hid (HBA.out.ext hb1)
 clear hb1 HE2 HBA
 cases hv : (fewB a b && decide (c.length ≤ 30)) with
 | false =>
   clear hv
   have HAL := Lib.hid (alive_calls w1 (HT.out.ext HB1.out))
   go_wp2_with fail
   refine HAL.out.mono ?_; rintro e wz ⟨rfl, hbz⟩
   have HBZ := Lib.hid (HB1.out.trans (hbz.mono HB1.out.size))
   clear hbz HAL
   go_wp2
   go_ret
   exact ⟨rfl, HBZ.out⟩
 | true =>
   clear hv
   have HC1 := Lib.hid (minimum_calls A B C ca cb cc a b c w1 (HP.out.ext HB1.out) (HT.out.ext HB1.out))
   have k0 := HBA1.out.cell 0 (by simp)
   have k1 := HBA1.out.cell 1 (by simp)
   have k2 := HBA1.out.cell 2 (by simp)
   simp only [List.getElem_cons_zero, List.getElem_cons_succ, List.map_cons, List.map_nil] at k0 k1 k2
   go_wp2_with fail
   refine HC1.out.mono ?_; rintro r w2 ⟨hpost, hbn⟩
   obtain ⟨X1, n1, c1, d1, e1, rfl, hp1⟩ := of_gen hpost
   have HP1 := Lib.hid hp1
   clear hpost hp1 HC1 k0 k1 k2
   have HB2 := Lib.hid (HB1.out.trans (hbn.mono HB1.out.size))
   have HBA1' := Lib.hid (HBA1.out.ext hbn)
   clear hbn HB1 HBA1
   obtain ⟨w3, hw3⟩ : ∃ W, w2.alloc (.cells #[.slice X1 n1 c1, .int .i64 d1] 29 (0, 0)) = W := ⟨_, rfl⟩
   have hbn : Below w2.heap.size w2 w3 := by rw [← hw3]; exact (Below.refl _ _).alloc (Nat.le_refl _) _
   have HNB : Hid (Blk w3 w2.heap.size [.slice X1 n1 c1, .int .i64 d1] 29) := Lib.hid (by rw [← hw3]; exact Blk.new _ _ _)
   have HD1 := Lib.hid (HP1.out.ext hbn)
   clear HP1
   have HB3 := Lib.hid (HB2.out.trans (hbn.mono HB2.out.size))
   have HBA1'' := Lib.hid (HBA1'.out.ext hbn)
   clear hbn HB2 HBA1'
   obtain ⟨q1, hq1⟩ : ∃ p, w2.heap.size = p := ⟨_, rfl⟩
   rw [hq1] at HNB
   have HN1 := HNB; have HQ2 := Lib.hid hq1; clear HNB hq1
   have HBA1 := HBA1''; clear HBA1''
   have HC2 := Lib.hid (dual_calls A B C ca cb cc a b c w3 (HP.out.ext HB3.out) (HT.out.ext HB3.out))
   have k0 := HBA1.out.cell 0 (by simp)
   have k1 := HBA1.out.cell 1 (by simp)
   have k2 := HBA1.out.cell 2 (by simp)
   simp only [List.getElem_cons_zero, List.getElem_cons_succ, List.map_cons, List.map_nil] at k0 k1 k2
   rw [← hw3] at k0 k1 k2
   have HW2 := Lib.hid hw3; clear hw3
   go_wp2_with fail
   rw [HW2.out]
   rw [HQ2.out]
   refine HC2.out.mono ?_; rintro r w4 ⟨hpost, hbn⟩
   obtain ⟨X2, n2, c2, d2, e2, rfl, hp2⟩ := of_gen hpost
   have HP2 := Lib.hid hp2
   clear hpost hp2 HC2 k0 k1 k2 HW2 HQ2
   have HB4 := Lib.hid (HB3.out.trans (hbn.mono HB3.out.size))
   have HBA1' := Lib.hid (HBA1.out.ext hbn)
   have HN1' := Lib.hid (HN1.out.ext hbn)
   have HD1' := Lib.hid (HD1.out.ext hbn)
   clear hbn HB3 HBA1 HN1 HD1
   obtain ⟨w5, hw5⟩ : ∃ W, w4.alloc (.cells #[.slice X2 n2 c2, .int .i64 d2] 29 (0, 0)) = W := ⟨_, rfl⟩
   have hbn : Below w4.heap.size w4 w5 := by rw [← hw5]; exact (Below.refl _ _).alloc (Nat.le_refl _) _
   have HNB : Hid (Blk w5 w4.heap.size [.slice X2 n2 c2, .int .i64 d2] 29) := Lib.hid (by rw [← hw5]; exact Blk.new _ _ _)
   have HD2 := Lib.hid (HP2.out.ext hbn)
   clear HP2
   have HB5 := Lib.hid (HB4.out.trans (hbn.mono HB4.out.size))
   have HBA1'' := Lib.hid (HBA1'.out.ext hbn)
   have HN1'' := Lib.hid (HN1'.out.ext hbn)
   have HD1'' := Lib.hid (HD1'.out.ext hbn)
   clear hbn HB4 HBA1' HN1' HD1'
   obtain ⟨q2, hq2⟩ : ∃ p, w4.heap.size = p := ⟨_, rfl⟩
   rw [hq2] at HNB
   have HN2 := HNB; have HQ3 := Lib.hid hq2; clear HNB hq2
   have HBA1 := HBA1''; clear HBA1''
   have HN1 := HN1''; clear HN1''
   have HD1 := HD1''; clear HD1''
   have HC3 := Lib.hid (farkas_calls A B C ca cb cc a b c w5 (HP.out.ext HB5.out) (HT2.out.ext HB5.out))
   have k0 := HBA1.out.cell 0 (by simp)
   have k1 := HBA1.out.cell 1 (by simp)
   have k2 := HBA1.out.cell 2 (by simp)
   simp only [List.getElem_cons_zero, List.getElem_cons_succ, List.map_cons, List.map_nil] at k0 k1 k2
   rw [← hw5] at k0 k1 k2
   have HW3 := Lib.hid hw5; clear hw5
   go_wp2_with fail
   rw [HW3.out]
   rw [HQ3.out]
   refine HC3.out.mono ?_; rintro r w6 ⟨hpost, hbn⟩
   obtain ⟨X3, n3, c3, d3, e3, rfl, hp3⟩ := of_gen hpost
   have HP3 := Lib.hid hp3
   clear hpost hp3 HC3 k0 k1 k2 HW3 HQ3
   have HB6 := Lib.hid (HB5.out.trans (hbn.mono HB5.out.size))
   have HBA1' := Lib.hid (HBA1.out.ext hbn)
   have HN1' := Lib.hid (HN1.out.ext hbn)
   have HD1' := Lib.hid (HD1.out.ext hbn)
   have HN2' := Lib.hid (HN2.out.ext hbn)
   have HD2' := Lib.hid (HD2.out.ext hbn)
   clear hbn HB5 HBA1 HN1 HD1 HN2 HD2
   obtain ⟨w7, hw7⟩ : ∃ W, w6.alloc (.cells #[.slice X3 n3 c3, .int .i64 d3] 29 (0, 0)) = W := ⟨_, rfl⟩
   have hbn : Below w6.heap.size w6 w7 := by rw [← hw7]; exact (Below.refl _ _).alloc (Nat.le_refl _) _
   have HNB : Hid (Blk w7 w6.heap.size [.slice X3 n3 c3, .int .i64 d3] 29) := Lib.hid (by rw [← hw7]; exact Blk.new _ _ _)
   have HD3 := Lib.hid (HP3.out.ext hbn)
   clear HP3
   have HB7 := Lib.hid (HB6.out.trans (hbn.mono HB6.out.size))
   have HBA1'' := Lib.hid (HBA1'.out.ext hbn)
   have HN1'' := Lib.hid (HN1'.out.ext hbn)
   have HD1'' := Lib.hid (HD1'.out.ext hbn)
   have HN2'' := Lib.hid (HN2'.out.ext hbn)
   have HD2'' := Lib.hid (HD2'.out.ext hbn)
   clear hbn HB6 HBA1' HN1' HD1' HN2' HD2'
   obtain ⟨q3, hq3⟩ : ∃ p, w6.heap.size = p := ⟨_, rfl⟩
   rw [hq3] at HNB
   have HN3 := HNB; have HQ4 := Lib.hid hq3; clear HNB hq3
   have HBA1 := HBA1''; clear HBA1''
   have HN1 := HN1''; clear HN1''
   have HD1 := HD1''; clear HD1''
   have HN2 := HN2''; clear HN2''
   have HD2 := HD2''; clear HD2''
   have HC4 := Lib.hid (ray1_calls A B C ca cb cc a b c w7 (HP.out.ext HB7.out) (HT2.out.ext HB7.out))
   have k0 := HBA1.out.cell 0 (by simp)
   have k1 := HBA1.out.cell 1 (by simp)
   have k2 := HBA1.out.cell 2 (by simp)
   simp only [List.getElem_cons_zero, List.getElem_cons_succ, List.map_cons, List.map_nil] at k0 k1 k2
   rw [← hw7] at k0 k1 k2
   have HW4 := Lib.hid hw7; clear hw7
   go_wp2_with fail
   rw [HW4.out]
   rw [HQ4.out]
   refine HC4.out.mono ?_; rintro r w8 ⟨hpost, hbn⟩
   obtain ⟨X4, n4, c4, d4, e4, rfl, hp4⟩ := of_gen hpost
   have HP4 := Lib.hid hp4
   clear hpost hp4 HC4 k0 k1 k2 HW4 HQ4
   have HB8 := Lib.hid (HB7.out.trans (hbn.mono HB7.out.size))
   have HBA1' := Lib.hid (HBA1.out.ext hbn)
   have HN1' := Lib.hid (HN1.out.ext hbn)
   have HD1' := Lib.hid (HD1.out.ext hbn)
   have HN2' := Lib.hid (HN2.out.ext hbn)
   have HD2' := Lib.hid (HD2.out.ext hbn)
   have HN3' := Lib.hid (HN3.out.ext hbn)
   have HD3' := Lib.hid (HD3.out.ext hbn)
   clear hbn HB7 HBA1 HN1 HD1 HN2 HD2 HN3 HD3
   obtain ⟨w9, hw9⟩ : ∃ W, w8.alloc (.cells #[.slice X4 n4 c4, .int .i64 d4] 29 (0, 0)) = W := ⟨_, rfl⟩
   have hbn : Below w8.heap.size w8 w9 := by rw [← hw9]; exact (Below.refl _ _).alloc (Nat.le_refl _) _
   have HNB : Hid (Blk w9 w8.heap.size [.slice X4 n4 c4, .int .i64 d4] 29) := Lib.hid (by rw [← hw9]; exact Blk.new _ _ _)
   have HD4 := Lib.hid (HP4.out.ext hbn)
   clear HP4
   have HB9 := Lib.hid (HB8.out.trans (hbn.mono HB8.out.size))
   have HBA1'' := Lib.hid (HBA1'.out.ext hbn)
   have HN1'' := Lib.hid (HN1'.out.ext hbn)
   have HD1'' := Lib.hid (HD1'.out.ext hbn)
   have HN2'' := Lib.hid (HN2'.out.ext hbn)
   have HD2'' := Lib.hid (HD2'.out.ext hbn)
   have HN3'' := Lib.hid (HN3'.out.ext hbn)
   have HD3'' := Lib.hid (HD3'.out.ext hbn)
   clear hbn HB8 HBA1' HN1' HD1' HN2' HD2' HN3' HD3'
   obtain ⟨q4, hq4⟩ : ∃ p, w8.heap.size = p := ⟨_, rfl⟩
   rw [hq4] at HNB
   have HN4 := HNB; have HQ5 := Lib.hid hq4; clear HNB hq4
   have HBA1 := HBA1''; clear HBA1''
   have HN1 := HN1''; clear HN1''
   have HD1 := HD1''; clear HD1''
   have HN2 := HN2''; clear HN2''
   have HD2 := HD2''; clear HD2''
   have HN3 := HN3''; clear HN3''
   have HD3 := HD3''; clear HD3''
   have HVA := Lib.hid (refValid_calls A B C ca cb cc a b c w9 (HP.out.ext HB9.out))
   have k0 := HBA1.out.cell 0 (by simp)
   have k1 := HBA1.out.cell 1 (by simp)
   have k2 := HBA1.out.cell 2 (by simp)
   simp only [List.getElem_cons_zero, List.getElem_cons_succ, List.map_cons, List.map_nil] at k0 k1 k2
   rw [← hw9] at k0 k1 k2
   have HW5 := Lib.hid hw9; clear hw9
   go_wp2_with fail
   rw [HW5.out]
   rw [HQ5.out]
   refine HVA.out.mono ?_; rintro r w10 ⟨rfl, hbn⟩
   clear HVA k0 k1 k2 HW5 HQ5
   have HB10 := Lib.hid (HB9.out.trans (hbn.mono HB9.out.size))
   have HBA1' := Lib.hid (HBA1.out.ext hbn)
   have HN1' := Lib.hid (HN1.out.ext hbn)
   have HD1' := Lib.hid (HD1.out.ext hbn)
   have HN2' := Lib.hid (HN2.out.ext hbn)
   have HD2' := Lib.hid (HD2.out.ext hbn)
   have HN3' := Lib.hid (HN3.out.ext hbn)
   have HD3' := Lib.hid (HD3.out.ext hbn)
   have HN4' := Lib.hid (HN4.out.ext hbn)
   have HD4' := Lib.hid (HD4.out.ext hbn)
   clear hbn HB9 HBA1 HN1 HD1 HN2 HD2 HN3 HD3 HN4 HD4
   have HBA1 := HBA1'; clear HBA1'
   have HN1 := HN1'; clear HN1'
   have HD1 := HD1'; clear HD1'
   have HN2 := HN2'; clear HN2'
   have HD2 := HD2'; clear HD2'
   have HN3 := HN3'; clear HN3'
   have HD3 := HD3'; clear HD3'
   have HN4 := HN4'; clear HN4'
   have HD4 := HD4'; clear HD4'
   cases hpr : progOk a b c with
   | false =>
     obtain rfl := HD1.out.bad hpr
     obtain rfl := HD2.out.bad hpr
     obtain rfl := HD3.out.bad hpr
     obtain rfl := HD4.out.bad hpr
     clear hpr HD1 HD2 HD3 HD4
     have HAL := Lib.hid (alive_calls w10 (HT.out.ext HB10.out))
     go_wp2_with fail
     refine HAL.out.mono ?_; rintro e wz ⟨rfl, hbz⟩
     have HBZ := Lib.hid (HB10.out.trans (hbz.mono HB10.out.size))
     clear hbz HAL
     go_wp2
     go_ret
     exact ⟨rfl, HBZ.out⟩
   | true =>
     have HPR := Lib.hid hpr
     have hc6 : c.length ≤ 6 := (progOk_parts hpr).1.2
     have ha6 : a.length ≤ 6 := (progOk_parts hpr).2.1
     obtain ⟨s, x0, y0, hs3, hq, -⟩ := HD1.out.good hpr
     have t1 := HD1.out.at hpr hq
     have t2 := HD2.out.at hpr hq
     have t3 := HD3.out.at hpr hq
     have t4 := HD4.out.at hpr hq
     have HQQ := Lib.hid hq
     clear HD1 HD2 HD3 HD4 hpr hq
     have hs : s = 0 ∨ s = 1 ∨ s = 2 := by omega
     rcases hs with rfl | rfl | rfl
     ·obtain ⟨rfl, x1, y1, g1, xs, hq1, rfl, rfl, rfl, hI1, hpt1⟩ := t1.2 rfl
      obtain ⟨rfl, x2, y2, g2, ys, hq2, rfl, rfl, rfl, hI2, hpt2⟩ := t2.2 rfl
      obtain rfl := t3.1 (by omega)
      obtain rfl := t4.1 (by omega)
      simp only [if_true, Bool.false_eq_true, if_false] at hpt1 hpt2
      have hf1 : EndFound (qA a) (qB b) (qB c) c.length a.length x1 y1 := by
       rcases hq1 with ⟨-, h, -⟩ | ⟨h, -⟩ | ⟨h, -⟩
       ·exact h
       ·omega
       ·omega
      have hf2 : EndFound (qA a) (qB b) (qB c) c.length a.length x2 y2 := by
       rcases hq2 with ⟨-, h, -⟩ | ⟨h, -⟩ | ⟨h, -⟩
       ·exact h
       ·omega
       ·omega
      have hfe := found_feas HPR.out hf1 hpt1
      have hbo := found_bounds HPR.out hf2 hpt2
      have hlv := found_level HPR.out hf1 hf2 hpt1 hpt2
      have HI1 : Hid (∀ W, Below w10.heap.size w10 W → IBlk W g1 xs) := Lib.hid fun W hW => Blk.ext hI1 hW
      have HI2 : Hid (∀ W, Below w10.heap.size w10 W → IBlk W g2 ys) := Lib.hid fun W hW => Blk.ext hI2 hW
      have HX := Lib.hid hpt1; have HY := Lib.hid hpt2; have HFE := Lib.hid hfe; have HBO := Lib.hid hbo; have HLV := Lib.hid hlv
      have HR10 := Lib.hid (Below.refl w10.heap.size w10)
      simp only [if_true, Bool.false_eq_true, if_false] at HN1 HN2
      simp only [if_true, Bool.false_eq_true, if_false]
      clear t1 t2 t3 t4 hq1 hq2 hI1 hI2 hpt1 hpt2 hf1 hf2 hfe hbo hlv HQQ
      have HCC := Lib.hid (low_pt (cx := c.length) HX.out hc6 w10 (HI1.out w10 HR10.out))
      have q0 := HN1.out.cell 0 (by simp)
      have q1 := HN1.out.cell 1 (by simp)
      simp only [List.getElem_cons_zero, List.getElem_cons_succ, List.map_cons, List.map_nil] at q0 q1
      go_wp2_with fail
      refine HCC.out.mono ?_; rintro r w11 ⟨rfl, hbn⟩
      have HR11 := Lib.hid (HR10.out.trans (hbn.mono HR10.out.size))
      clear HCC q0 q1
      have HB11 := Lib.hid (HB10.out.trans (hbn.mono HB10.out.size))
      have HBA1' := Lib.hid (HBA1.out.ext hbn)
      have HN1' := Lib.hid (HN1.out.ext hbn)
      have HN2' := Lib.hid (HN2.out.ext hbn)
      have HN3' := Lib.hid (HN3.out.ext hbn)
      have HN4' := Lib.hid (HN4.out.ext hbn)
      clear hbn HB10 HBA1 HN1 HN2 HN3 HN4
      have HBA1 := HBA1'; clear HBA1'
      have HN1 := HN1'; clear HN1'
      have HN2 := HN2'; clear HN2'
      have HN3 := HN3'; clear HN3'
      have HN4 := HN4'; clear HN4'
      have HCC := Lib.hid (low_pt (cx := a.length) HY.out ha6 w11 (HI2.out w11 HR11.out))
      have q0 := HN2.out.cell 0 (by simp)
      have q1 := HN2.out.cell 1 (by simp)
      simp only [List.getElem_cons_zero, List.getElem_cons_succ, List.map_cons, List.map_nil] at q0 q1
      go_wp2_with fail
      refine HCC.out.mono ?_; rintro r w12 ⟨rfl, hbn⟩
      have HR12 := Lib.hid (HR11.out.trans (hbn.mono HR11.out.size))
      clear HCC q0 q1
      have HB12 := Lib.hid (HB11.out.trans (hbn.mono HB11.out.size))
      have HBA1' := Lib.hid (HBA1.out.ext hbn)
      have HN1' := Lib.hid (HN1.out.ext hbn)
      have HN2' := Lib.hid (HN2.out.ext hbn)
      have HN3' := Lib.hid (HN3.out.ext hbn)
      have HN4' := Lib.hid (HN4.out.ext hbn)
      clear hbn HB11 HBA1 HN1 HN2 HN3 HN4
      have HBA1 := HBA1'; clear HBA1'
      have HN1 := HN1'; clear HN1'
      have HN2 := HN2'; clear HN2'
      have HN3 := HN3'; clear HN3'
      have HN4 := HN4'; clear HN4'
      have hcc : Calls Tryz.prog 24 #[.agg #[.slice A a.length ca, .slice B b.length cb, .slice C c.length cc], .agg #[.slice (some ⟨g1, 0, none⟩) c.length c.length, .int .i64 d1]] w12 fun e w' => e = .returned (.bool true) ∧ Below w12.heap.size w12 w' := by
       have := feas1_calls A B C (some ⟨g1, 0, none⟩) ca cb cc c.length a b c xs d1 w12 (HP.out.ext HB12.out) (IBlk.ints (HI1.out w12 HR12.out)) (by rw [HX.out.len]; unfold maxLen; omega)
       rw [HX.out.len, HFE.out] at this; exact this
      have HCC := Lib.hid hcc; clear hcc
      have k0 := HBA1.out.cell 0 (by simp)
      have k1 := HBA1.out.cell 1 (by simp)
      have k2 := HBA1.out.cell 2 (by simp)
      have q0 := HN1.out.cell 0 (by simp)
      have q1 := HN1.out.cell 1 (by simp)
      simp only [List.getElem_cons_zero, List.getElem_cons_succ, List.map_cons, List.map_nil] at k0 k1 k2 q0 q1
      go_wp2_with fail
      refine HCC.out.mono ?_; rintro r w13 ⟨rfl, hbn⟩
      have HR13 := Lib.hid (HR12.out.trans (hbn.mono HR12.out.size))
      clear HCC k0 k1 k2 q0 q1
      have HB13 := Lib.hid (HB12.out.trans (hbn.mono HB12.out.size))
      have HBA1' := Lib.hid (HBA1.out.ext hbn)
      have HN1' := Lib.hid (HN1.out.ext hbn)
      have HN2' := Lib.hid (HN2.out.ext hbn)
      have HN3' := Lib.hid (HN3.out.ext hbn)
      have HN4' := Lib.hid (HN4.out.ext hbn)
      clear hbn HB12 HBA1 HN1 HN2 HN3 HN4
      have HBA1 := HBA1'; clear HBA1'
      have HN1 := HN1'; clear HN1'
      have HN2 := HN2'; clear HN2'
      have HN3 := HN3'; clear HN3'
      have HN4 := HN4'; clear HN4'
      have hcc : Calls Tryz.prog 25 #[.agg #[.slice A a.length ca, .slice B b.length cb, .slice C c.length cc], .agg #[.slice (some ⟨g2, 0, none⟩) a.length a.length, .int .i64 d2]] w13 fun e w' => e = .returned (.bool true) ∧ Below w13.heap.size w13 w' := by
       have := bounds1_calls A B C (some ⟨g2, 0, none⟩) ca cb cc a.length a b c ys d2 w13 (HP.out.ext HB13.out) (IBlk.ints (HI2.out w13 HR13.out)) (by rw [HY.out.len]; unfold maxLen; omega)
       rw [HY.out.len, HBO.out] at this; exact this
      have HCC := Lib.hid hcc; clear hcc
      have k0 := HBA1.out.cell 0 (by simp)
      have k1 := HBA1.out.cell 1 (by simp)
      have k2 := HBA1.out.cell 2 (by simp)
      have q0 := HN2.out.cell 0 (by simp)
      have q1 := HN2.out.cell 1 (by simp)
      simp only [List.getElem_cons_zero, List.getElem_cons_succ, List.map_cons, List.map_nil] at k0 k1 k2 q0 q1
      go_wp2_with fail
      refine HCC.out.mono ?_; rintro r w14 ⟨rfl, hbn⟩
      have HR14 := Lib.hid (HR13.out.trans (hbn.mono HR13.out.size))
      clear HCC k0 k1 k2 q0 q1
      have HB14 := Lib.hid (HB13.out.trans (hbn.mono HB13.out.size))
      have HBA1' := Lib.hid (HBA1.out.ext hbn)
      have HN1' := Lib.hid (HN1.out.ext hbn)
      have HN2' := Lib.hid (HN2.out.ext hbn)
      have HN3' := Lib.hid (HN3.out.ext hbn)
      have HN4' := Lib.hid (HN4.out.ext hbn)
      clear hbn HB13 HBA1 HN1 HN2 HN3 HN4
      have HBA1 := HBA1'; clear HBA1'
      have HN1 := HN1'; clear HN1'
      have HN2 := HN2'; clear HN2'
      have HN3 := HN3'; clear HN3'
      have HN4 := HN4'; clear HN4'
      have hcc : Calls Tryz.prog 26 #[.agg #[.slice A a.length ca, .slice B b.length cb, .slice C c.length cc], .agg #[.slice (some ⟨g1, 0, none⟩) c.length c.length, .int .i64 d1], .agg #[.slice (some ⟨g2, 0, none⟩) a.length a.length, .int .i64 d2]] w14 fun e w' => e = .returned (.bool true) ∧ Below w14.heap.size w14 w' := by
       have hbl := (progOk_parts HPR.out).2.2.2.1
       have := level_calls A B C (some ⟨g1, 0, none⟩) (some ⟨g2, 0, none⟩) ca cb cc c.length a.length a b c xs ys d1 d2 w14 (HP.out.ext HB14.out) (IBlk.ints (HI1.out w14 HR14.out)) (IBlk.ints (HI2.out w14 HR14.out)) HX.out.len (by rw [HY.out.len, hbl]) (progOk_parts HPR.out).2.2.2.2.2 (progOk_parts HPR.out).2.2.2.2.1 hc6 (by omega) HX.out.bd (fun i hi => HY.out.bd i (by omega)) HX.out.d1 HX.out.d2 HY.out.d1 HY.out.d2
       rw [HX.out.len, HY.out.len, decide_eq_true HLV.out] at this; exact this
      have HCC := Lib.hid hcc; clear hcc
      have k0 := HBA1.out.cell 0 (by simp)
      have k1 := HBA1.out.cell 1 (by simp)
      have k2 := HBA1.out.cell 2 (by simp)
      have q0 := HN1.out.cell 0 (by simp)
      have q1 := HN1.out.cell 1 (by simp)
      have y0 := HN2.out.cell 0 (by simp)
      have y1 := HN2.out.cell 1 (by simp)
      simp only [List.getElem_cons_zero, List.getElem_cons_succ, List.map_cons, List.map_nil] at k0 k1 k2 q0 q1 y0 y1
      go_wp2_with fail
      refine HCC.out.mono ?_; rintro r w15 ⟨rfl, hbn⟩
      have HR15 := Lib.hid (HR14.out.trans (hbn.mono HR14.out.size))
      clear HCC k0 k1 k2 q0 q1 y0 y1
      have HB15 := Lib.hid (HB14.out.trans (hbn.mono HB14.out.size))
      have HBA1' := Lib.hid (HBA1.out.ext hbn)
      have HN1' := Lib.hid (HN1.out.ext hbn)
      have HN2' := Lib.hid (HN2.out.ext hbn)
      have HN3' := Lib.hid (HN3.out.ext hbn)
      have HN4' := Lib.hid (HN4.out.ext hbn)
      clear hbn HB14 HBA1 HN1 HN2 HN3 HN4
      have HBA1 := HBA1'; clear HBA1'
      have HN1 := HN1'; clear HN1'
      have HN2 := HN2'; clear HN2'
      have HN3 := HN3'; clear HN3'
      have HN4 := HN4'; clear HN4'
      have HAL := Lib.hid (alive_calls w15 (HT.out.ext HB15.out))
      go_wp2_with fail
      refine HAL.out.mono ?_; rintro e wz ⟨rfl, hbz⟩
      have HBZ := Lib.hid (HB15.out.trans (hbz.mono HB15.out.size))
      clear hbz HAL
      go_wp2
      go_ret
      exact ⟨rfl, HBZ.out⟩
     ·obtain rfl := t1.1 (by omega)
      obtain rfl := t2.1 (by omega)
      obtain ⟨rfl, x1, y1, g1, ys, hq1, rfl, rfl, rfl, hI1, hpt1⟩ := t3.2 rfl
      obtain rfl := t4.1 (by omega)
      simp only [if_true, Bool.false_eq_true, if_false] at hpt1
      have hf1 : EndEmpty (qA a) (qB b) c.length a.length y1 := by
       rcases hq1 with ⟨h, -⟩ | ⟨-, h, -⟩ | ⟨h, -⟩
       ·omega
       ·exact h
       ·omega
      have hde := (denies_iff HPR.out hpt1.ok hpt1.pt).2 hf1
      have HI1 : Hid (∀ W, Below w10.heap.size w10 W → IBlk W g1 ys) := Lib.hid fun W hW => Blk.ext hI1 hW
      have HY := Lib.hid hpt1; have HDE := Lib.hid hde
      have HR10 := Lib.hid (Below.refl w10.heap.size w10)
      simp only [if_true, Bool.false_eq_true, if_false] at HN3
      simp only [if_true, Bool.false_eq_true, if_false]
      clear t1 t2 t3 t4 hq1 hI1 hpt1 hf1 hde HQQ
      have HCC := Lib.hid (low_pt (cx := a.length) HY.out ha6 w10 (HI1.out w10 HR10.out))
      have q0 := HN3.out.cell 0 (by simp)
      have q1 := HN3.out.cell 1 (by simp)
      simp only [List.getElem_cons_zero, List.getElem_cons_succ, List.map_cons, List.map_nil] at q0 q1
      go_wp2_with fail
      refine HCC.out.mono ?_; rintro r w11 ⟨rfl, hbn⟩
      have HR11 := Lib.hid (HR10.out.trans (hbn.mono HR10.out.size))
      clear HCC q0 q1
      have HB11 := Lib.hid (HB10.out.trans (hbn.mono HB10.out.size))
      have HBA1' := Lib.hid (HBA1.out.ext hbn)
      have HN1' := Lib.hid (HN1.out.ext hbn)
      have HN2' := Lib.hid (HN2.out.ext hbn)
      have HN3' := Lib.hid (HN3.out.ext hbn)
      have HN4' := Lib.hid (HN4.out.ext hbn)
      clear hbn HB10 HBA1 HN1 HN2 HN3 HN4
      have HBA1 := HBA1'; clear HBA1'
      have HN1 := HN1'; clear HN1'
      have HN2 := HN2'; clear HN2'
      have HN3 := HN3'; clear HN3'
      have HN4 := HN4'; clear HN4'
      have hcc : Calls Tryz.prog 27 #[.agg #[.slice A a.length ca, .slice B b.length cb, .slice C c.length cc], .agg #[.slice (some ⟨g1, 0, none⟩) a.length a.length, .int .i64 d3]] w11 fun e w' => e = .returned (.bool true) ∧ Below w11.heap.size w11 w' := by
       have := denies1_calls A B C (some ⟨g1, 0, none⟩) ca cb cc a.length a b c ys d3 w11 (HP.out.ext HB11.out) (IBlk.ints (HI1.out w11 HR11.out)) (by rw [HY.out.len]; unfold maxLen; omega)
       rw [HY.out.len, HDE.out] at this; exact this
      have HCC := Lib.hid hcc; clear hcc
      have k0 := HBA1.out.cell 0 (by simp)
      have k1 := HBA1.out.cell 1 (by simp)
      have k2 := HBA1.out.cell 2 (by simp)
      have q0 := HN3.out.cell 0 (by simp)
      have q1 := HN3.out.cell 1 (by simp)
      simp only [List.getElem_cons_zero, List.getElem_cons_succ, List.map_cons, List.map_nil] at k0 k1 k2 q0 q1
      go_wp2_with fail
      refine HCC.out.mono ?_; rintro r w12 ⟨rfl, hbn⟩
      have HR12 := Lib.hid (HR11.out.trans (hbn.mono HR11.out.size))
      clear HCC k0 k1 k2 q0 q1
      have HB12 := Lib.hid (HB11.out.trans (hbn.mono HB11.out.size))
      have HBA1' := Lib.hid (HBA1.out.ext hbn)
      have HN1' := Lib.hid (HN1.out.ext hbn)
      have HN2' := Lib.hid (HN2.out.ext hbn)
      have HN3' := Lib.hid (HN3.out.ext hbn)
      have HN4' := Lib.hid (HN4.out.ext hbn)
      clear hbn HB11 HBA1 HN1 HN2 HN3 HN4
      have HBA1 := HBA1'; clear HBA1'
      have HN1 := HN1'; clear HN1'
      have HN2 := HN2'; clear HN2'
      have HN3 := HN3'; clear HN3'
      have HN4 := HN4'; clear HN4'
      have HAL := Lib.hid (alive_calls w12 (HT.out.ext HB12.out))
      go_wp2_with fail
      refine HAL.out.mono ?_; rintro e wz ⟨rfl, hbz⟩
      have HBZ := Lib.hid (HB12.out.trans (hbz.mono HB12.out.size))
      clear hbz HAL
      go_wp2
      go_ret
      exact ⟨rfl, HBZ.out⟩
     ·obtain rfl := t1.1 (by omega)
      obtain rfl := t2.1 (by omega)
      obtain rfl := t3.1 (by omega)
      obtain ⟨rfl, x1, y1, g1, xs, hq1, rfl, rfl, rfl, hI1, hpt1⟩ := t4.2 rfl
      simp only [if_true, Bool.false_eq_true, if_false] at hpt1
      have hf1 : EndFree (qA a) (qB b) (qB c) c.length a.length x1 := by
       rcases hq1 with ⟨h, -⟩ | ⟨h, -⟩ | ⟨-, h, -⟩
       ·omega
       ·omega
       ·exact h
      have hde := falls_of HPR.out hpt1.ok hpt1.pt hf1
      have HI1 : Hid (∀ W, Below w10.heap.size w10 W → IBlk W g1 xs) := Lib.hid fun W hW => Blk.ext hI1 hW
      have HX := Lib.hid hpt1; have HDE := Lib.hid hde
      have HR10 := Lib.hid (Below.refl w10.heap.size w10)
      simp only [if_true, Bool.false_eq_true, if_false] at HN4
      simp only [if_true, Bool.false_eq_true, if_false]
      clear t1 t2 t3 t4 hq1 hI1 hpt1 hf1 hde HQQ
      have HCC := Lib.hid (low_pt (cx := c.length) HX.out hc6 w10 (HI1.out w10 HR10.out))
      have q0 := HN4.out.cell 0 (by simp)
      have q1 := HN4.out.cell 1 (by simp)
      simp only [List.getElem_cons_zero, List.getElem_cons_succ, List.map_cons, List.map_nil] at q0 q1
      go_wp2_with fail
      refine HCC.out.mono ?_; rintro r w11 ⟨rfl, hbn⟩
      have HR11 := Lib.hid (HR10.out.trans (hbn.mono HR10.out.size))
      clear HCC q0 q1
      have HB11 := Lib.hid (HB10.out.trans (hbn.mono HB10.out.size))
      have HBA1' := Lib.hid (HBA1.out.ext hbn)
      have HN1' := Lib.hid (HN1.out.ext hbn)
      have HN2' := Lib.hid (HN2.out.ext hbn)
      have HN3' := Lib.hid (HN3.out.ext hbn)
      have HN4' := Lib.hid (HN4.out.ext hbn)
      clear hbn HB10 HBA1 HN1 HN2 HN3 HN4
      have HBA1 := HBA1'; clear HBA1'
      have HN1 := HN1'; clear HN1'
      have HN2 := HN2'; clear HN2'
      have HN3 := HN3'; clear HN3'
      have HN4 := HN4'; clear HN4'
      have hcc : Calls Tryz.prog 28 #[.agg #[.slice A a.length ca, .slice B b.length cb, .slice C c.length cc], .agg #[.slice (some ⟨g1, 0, none⟩) c.length c.length, .int .i64 d4]] w11 fun e w' => e = .returned (.bool true) ∧ Below w11.heap.size w11 w' := by
       have := falls1_calls A B C (some ⟨g1, 0, none⟩) ca cb cc c.length a b c xs d4 w11 (HP.out.ext HB11.out) (IBlk.ints (HI1.out w11 HR11.out)) (by rw [HX.out.len]; unfold maxLen; omega)
       rw [HX.out.len, HDE.out] at this; exact this
      have HCC := Lib.hid hcc; clear hcc
      have k0 := HBA1.out.cell 0 (by simp)
      have k1 := HBA1.out.cell 1 (by simp)
      have k2 := HBA1.out.cell 2 (by simp)
      have q0 := HN4.out.cell 0 (by simp)
      have q1 := HN4.out.cell 1 (by simp)
      simp only [List.getElem_cons_zero, List.getElem_cons_succ, List.map_cons, List.map_nil] at k0 k1 k2 q0 q1
      go_wp2_with fail
      refine HCC.out.mono ?_; rintro r w12 ⟨rfl, hbn⟩
      have HR12 := Lib.hid (HR11.out.trans (hbn.mono HR11.out.size))
      clear HCC k0 k1 k2 q0 q1
      have HB12 := Lib.hid (HB11.out.trans (hbn.mono HB11.out.size))
      have HBA1' := Lib.hid (HBA1.out.ext hbn)
      have HN1' := Lib.hid (HN1.out.ext hbn)
      have HN2' := Lib.hid (HN2.out.ext hbn)
      have HN3' := Lib.hid (HN3.out.ext hbn)
      have HN4' := Lib.hid (HN4.out.ext hbn)
      clear hbn HB11 HBA1 HN1 HN2 HN3 HN4
      have HBA1 := HBA1'; clear HBA1'
      have HN1 := HN1'; clear HN1'
      have HN2 := HN2'; clear HN2'
      have HN3 := HN3'; clear HN3'
      have HN4 := HN4'; clear HN4'
      have HAL := Lib.hid (alive_calls w12 (HT.out.ext HB12.out))
      go_wp2_with fail
      refine HAL.out.mono ?_; rintro e wz ⟨rfl, hbz⟩
      have HBZ := Lib.hid (HB12.out.trans (hbz.mono HB12.out.size))
      clear hbz HAL
      go_wp2
      go_ret
      exact ⟨rfl, HBZ.out⟩
end Go.Proofs.YtkljafmdbajfeaaGreatDoor
