/- branch.of: an integer program and whether it is valid. -/
import Derived.Test.YtbdlfjhhgnhejaaVal
import Derived.Deep.Light
namespace Go.Proofs.Ytbdlfjhhgnhejaa
open Go.RowKit
set_option linter.unusedVariables false
set_option linter.unusedSimpArgs false

def upOk (u : List Int) : Bool := u.all fun x => decide (0 ≤ x) && decide (x ≤ 7)
/-- Is an integer program valid? -/
def wholeOk (a : List (List Int)) (b c u : List Int) : Bool := decide (c.length ≤ 5) && decide (u.length = c.length) && upOk u && progOk a b c

/-- An integer program's four slices read as a, b, c, u. -/
structure Who (w : World) (A B C U : Option Addr) (a : List (List Int)) (b c u : List Int) : Prop where
  p : Prog3 w A B C a b c
  gu : Ints w U u
  lu : u.length ≤ maxLen
theorem Who.ext {w w' : World} {A B C U : Option Addr} {a : List (List Int)} {b c u : List Int} (h : Who w A B C U a b c u) (hb : Below w.heap.size w w') : Who w' A B C U a b c u :=
  ⟨h.p.ext hb, h.gu.ext hb, h.lu⟩

set_option maxHeartbeats 400000 in
theorem of1_calls (x : Int) (w : World) : Calls Try.prog 32 #[.int .i64 x] w fun e w' => e = .returned (.bool (!(decide (0 ≤ x) && decide (x ≤ 7)))) ∧ w' = w := by
  by_cases h : x < 0
  · have hd : decide (x < 0) = true := decide_eq_true h
    go_enter Try.func32, Try.ntmps32
    go_wp2
    go_ret
    exact ⟨by simp [show ¬ (0 ≤ x) by omega], rfl⟩
  · have hd : decide (x < 0) = false := decide_eq_false h
    go_enter Try.func32, Try.ntmps32
    go_wp2
    go_ret
    exact ⟨by by_cases h7 : x ≤ 7 <;> simp [show (0 ≤ x) by omega, h7] <;> omega, rfl⟩
theorem of1_tells (w : World) (xs : List Int) : Tells 32 #[] (fun x => !(decide (0 ≤ x) && decide (x ≤ 7))) w xs :=
  ⟨fun _ _ => by kernel_rfl, fun x _ w1 _ => (of1_calls x w1).mono fun e w2 ⟨he, hw⟩ => ⟨he, by rw [hw]; exact Below.refl _ _⟩⟩
theorem upOk_any (u : List Int) : (!u.any fun x => !(decide (0 ≤ x) && decide (x ≤ 7))) = upOk u := by
  unfold upOk; rw [List.not_any_eq_all_not]; simp

theorem zeros_ok (n : Nat) : pointOk n (zeros n) 1 = true := by
  unfold pointOk listOk inB zeros; simp

/-- What of answers. -/
def ofVal (A B C U : Option Addr) (ca cb cc cu : Nat) (a : List (List Int)) (b c u : List Int) : Value :=
  .tuple #[.agg #[.slice A a.length ca, .slice B b.length cb, .slice C c.length cc, .slice U u.length cu, .int .i64 c.length], .bool (wholeOk a b c u)]

set_option maxHeartbeats 1000000 in
theorem of_bad (A B C U : Option Addr) (ca cb cc cu : Nat) (a : List (List Int)) (b c u : List Int) (w : World) (h : Who w A B C U a b c u) (hbad : (decide (c.length ≤ 5) && decide (u.length = c.length) && upOk u) = false) :
    Calls Try.prog 21 #[.agg #[.slice A a.length ca, .slice B b.length cb, .slice C c.length cc, .slice U u.length cu]] w fun e w' => e = .returned (ofVal A B C U ca cb cc cu a b c u) ∧ Below w.heap.size w w' := by
  have hlc := h.p.lc; have hlu := h.lu; unfold maxLen at hlc hlu
  have hb00 : ∀ o o', Below w.heap.size w ((w.alloc o).alloc o') := fun o o' => ((Below.refl _ _).alloc (Nat.le_refl _) _).alloc (by simp) _
  have HW : Hid (wholeOk a b c u = false) := by unfold wholeOk; rw [hbad]; exact rfl
  by_cases h1 : c.length ≤ 5
  · have d1 : decide ((c.length : Int) ≤ 5) = true := by simp; omega
    by_cases h2 : u.length = c.length
    · have d2 : ((u.length : Int) == (c.length : Int)) = true := by simp [h2]
      rw [decide_eq_true h1, decide_eq_true h2, Bool.true_and, Bool.true_and] at hbad
      have H2 := Lib.hid h2; clear h2
      have hany := upOk_any u; rw [hbad, Bool.not_eq_false'] at hany
      have HB := Lib.hid hbad; clear hbad
      go_enter Try.func21, Try.ntmps21
      go_wp2_with fail
      refine (containsFunc_int _ _ _ _ _ u _ h.lu (h.gu.ext (hb00 _ _)) (of1_tells _ u)).mono ?_; rw [hany]; rintro e w1 ⟨rfl, hb1⟩
      obtain ⟨hc1, hf1⟩ := bcell hb1
      have hx1 := ext_trans (hb00 _ _) hb1
      have hz1 := hb1.size
      simp at hz1
      clear hany
      go_wp2
      try simp only [Exit.inBlock, Exit.then]
      refine bodyPost_ret (v := ofVal A B C U ca cb cc cu a b c u) (by unfold ofVal; rw [HW.out]; simp [results, Try.results21, go_sem, hc1]) rfl ⟨rfl, ?_⟩
      repeat' (refine Below.setCell ?_ (by dsimp only; omega) _)
      exact hx1
    · have d2 : ((u.length : Int) == (c.length : Int)) = false := by simp; omega
      have H2 := Lib.hid h2; clear h2 hbad
      go_enter Try.func21, Try.ntmps21
      go_wp2
      try simp only [Exit.inBlock, Exit.then]
      refine bodyPost_ret (v := ofVal A B C U ca cb cc cu a b c u) (by unfold ofVal; rw [HW.out]; simp [results, Try.results21, go_sem]) rfl ⟨rfl, ?_⟩
      first | exact hb00 _ _ | (repeat' (refine Below.setCell ?_ (by dsimp only; omega) _); exact hb00 _ _)
  · have d1 : decide ((c.length : Int) ≤ 5) = false := by simp; omega
    clear hbad
    go_enter Try.func21, Try.ntmps21
    go_wp2
    try simp only [Exit.inBlock, Exit.then]
    refine bodyPost_ret (v := ofVal A B C U ca cb cc cu a b c u) (by unfold ofVal; rw [HW.out]; simp [results, Try.results21, go_sem]) rfl ⟨rfl, ?_⟩
    first | exact hb00 _ _ | (repeat' (refine Below.setCell ?_ (by dsimp only; omega) _); exact hb00 _ _)

/-- What Value tells of here, either way: its error. -/
theorem value_any (A B C X : Option Addr) (ca cb cc cx : Nat) (a : List (List Int)) (b c : List Int) (w : World) (h : Prog3 w A B C a b c) (hX : Ints w X (zeros c.length)) :
    Calls Try.prog 33 #[.agg #[.slice A a.length ca, .slice B b.length cb, .slice C c.length cc], .agg #[.slice X c.length cx, .int .i64 1]] w fun e w' => (∃ N n cn d, ∃ er : Int, Hid (er = if progOk a b c then 0 else 2) ∧ e = .returned (.tuple #[.agg #[.slice N n cn, .int .i64 d], .int .i64 er])) ∧ Below w.heap.size w w' := by
  have hm : (zeros c.length).length ≤ maxLen := by rw [zeros_len]; exact h.lc
  have e0 : Value.slice X c.length cx = Value.slice X (zeros c.length).length cx := by rw [zeros_len]
  rw [e0]
  cases h1 : progOk a b c
  · exact (value_bad A B C X ca cb cc cx a b c _ 1 w h hX hm (by rw [h1]; rfl)).mono fun e w' ⟨he, hb⟩ => ⟨⟨_, _, _, _, _, by exact rfl, he⟩, hb⟩
  · refine (value_ok A B C X ca cb cc cx a b c _ 1 w h hX hm h1 (zeros_ok _)).mono fun e w' hp => ?_
    obtain ⟨bb, he, _, _, hb⟩ := hp
    exact ⟨⟨_, _, _, _, _, by exact rfl, he⟩, hb⟩

set_option maxRecDepth 100000 in
set_option maxHeartbeats 1000000 in
theorem of_good (A B C U : Option Addr) (ca cb cc cu : Nat) (a : List (List Int)) (b c u : List Int) (w : World) (h : Who w A B C U a b c u) (hgood : (decide (c.length ≤ 5) && decide (u.length = c.length) && upOk u) = true) :
    Calls Try.prog 21 #[.agg #[.slice A a.length ca, .slice B b.length cb, .slice C c.length cc, .slice U u.length cu]] w fun e w' => e = .returned (ofVal A B C U ca cb cc cu a b c u) ∧ Below w.heap.size w w' := by
  have hlc := h.p.lc; have hlu := h.lu; unfold maxLen at hlc hlu
  have hb00 : ∀ o o', Below w.heap.size w ((w.alloc o).alloc o') := fun o o' => ((Below.refl _ _).alloc (Nat.le_refl _) _).alloc (by simp) _
  have HW : Hid (wholeOk a b c u = progOk a b c) := by unfold wholeOk; rw [hgood, Bool.true_and]; exact rfl
  simp only [Bool.and_eq_true, decide_eq_true_eq] at hgood
  obtain ⟨⟨h1, h2⟩, h3⟩ := hgood
  have d1 : decide ((c.length : Int) ≤ 5) = true := by simp; omega
  have d2 : ((u.length : Int) == (c.length : Int)) = true := by simp [h2]
  have H2 := Lib.hid h2; clear h2
  have hany := upOk_any u; rw [h3, Bool.not_eq_true'] at hany
  have HB := Lib.hid h3; clear h3
  have hmk := fun w => run_makeInts w c.length (by omega)
  go_enter Try.func21, Try.ntmps21
  go_wp2_with fail
  refine (containsFunc_int _ _ _ _ _ u _ h.lu (h.gu.ext (hb00 _ _)) (of1_tells _ u)).mono ?_; rw [hany]; rintro e w1 ⟨rfl, hb1⟩
  obtain ⟨hc1, hf1⟩ := bcell hb1
  have hx1 := ext_trans (hb00 _ _) hb1
  have hz1 := hb1.size
  simp at hz1
  clear hany
  have p1 := (h.ext hx1).p
  have k0 : w1.cell? ⟨w.heap.size, 0, none⟩ = some (.slice A a.length ca) := by rw [hc1 _ _ (by simp; omega)]; go_simp
  have k1 : w1.cell? ⟨w.heap.size, 1, none⟩ = some (.slice B b.length cb) := by rw [hc1 _ _ (by simp; omega)]; go_simp
  have k2 : w1.cell? ⟨w.heap.size, 2, none⟩ = some (.slice C c.length cc) := by rw [hc1 _ _ (by simp; omega)]; go_simp
  have k3 : w1.cell? ⟨w.heap.size, 3, none⟩ = some (.slice U u.length cu) := by rw [hc1 _ _ (by simp; omega)]; go_simp
  have yy : w.heap.size < w1.heap.size := by omega
  have ne1 : ¬ w1.heap.size = w.heap.size := by omega
  have ne2 : ¬ w1.heap.size + 1 = w.heap.size := by omega
  have yy1 : w.heap.size < w1.heap.size + 1 := by omega
  have yy2 : w.heap.size < w1.heap.size + 1 + 1 := by omega
  have B0 : Blk w1 w.heap.size [.slice A a.length ca, .slice B b.length cb, .slice C c.length cc, .slice U u.length cu] 25 := Blk.ext ((Blk.new w _ _).alloc _) hb1
  have B1 : Blk w1 (w.heap.size + 1) [.slice none 0 0, .slice none 0 0, .slice none 0 0, .slice none 0 0, .int .i64 0] 46 := Blk.ext (Blk.new' _ [.slice none 0 0, .slice none 0 0, .slice none 0 0, .slice none 0 0, .int .i64 0] _ _ (by simp)) hb1
  go_upto_region 4 with (fail)
  go_cut [7] (fun s7 wx => ∃ er : Int, Hid (er = if progOk a b c then 0 else 2) ∧ s7 = .int .i64 er ∧ Blk wx w.heap.size [.slice A a.length ca, .slice B b.length cb, .slice C c.length cc, .slice U u.length cu] 25 ∧ Blk wx (w.heap.size + 1) [.slice none 0 0, .slice none 0 0, .slice none 0 0, .slice none 0 0, .int .i64 0] 46 ∧ Below w.heap.size w wx)
  case first =>
    go_region_held3 (fun w' => w'.cell? ⟨w.heap.size, 0, none⟩ = some (.slice A a.length ca) ∧ w'.cell? ⟨w.heap.size, 1, none⟩ = some (.slice B b.length cb) ∧ w'.cell? ⟨w.heap.size, 2, none⟩ = some (.slice C c.length cc))
      (first | (go_keep; done))
      (first
        | (go_at_call 33; refine (value_any A B C _ _ _ _ _ a b c _ (p1.ext (by first | exact ((Below.refl _ _).alloc (Nat.le_refl _) _).drew | exact (((Below.refl _ _).alloc (Nat.le_refl _) _).alloc (by simp) _).drew)) (by first | exact (IBlk.made _ _).drew.ints | exact ((IBlk.made _ _).alloc _).drew.ints | exact (IBlk.made' _ _ _ (by simp)).drew.ints)).mono ?_; rintro e w3 ⟨⟨N3, n3, cn3, d3, er, HER, rfl⟩, hb3⟩; obtain ⟨hc3, hf3⟩ := bcell hb3; have hz3 := hb3.size; simp at hz3; have ne3 : ¬ w3.heap.size = w.heap.size := (by omega); have hx3 : Below w1.heap.size w1 w3 := (by first | exact ext_trans ((Below.refl _ _).alloc (Nat.le_refl _) _).drew hb3 | exact ext_trans (((Below.refl _ _).alloc (Nat.le_refl _) _).alloc (by simp) _).drew hb3)))
    all_goals
      go_wp2_with fail
      go_meet
      first
        | exact ⟨er, HER, rfl, Blk.other (Blk.other (B0.ext hx3) _ _ (by dsimp only; omega)) _ _ (by dsimp only; omega), Blk.other (Blk.other (B1.ext hx3) _ _ (by dsimp only; omega)) _ _ (by dsimp only; omega), ((ext_trans hx1 hx3).setCell (by dsimp only; omega) _).setCell (by dsimp only; omega) _⟩
        | exact ⟨er, HER, rfl, (B0.ext hx3).alloc _, (B1.ext hx3).alloc _, (ext_trans hx1 hx3).alloc (by omega) _⟩
  case rest =>
    obtain ⟨er, HER, rfl, Q0, Q1, hbx⟩ := hcut
    have q0 := Q0.cell 0 (by simp)
    have q1 := Q0.cell 1 (by simp)
    have q2 := Q0.cell 2 (by simp)
    have q3 := Q0.cell 3 (by simp)
    have r0 := Q1.cell 0 (by simp)
    have r1 := Q1.cell 1 (by simp)
    have r2 := Q1.cell 2 (by simp)
    have r3 := Q1.cell 3 (by simp)
    have r4 := Q1.cell 4 (by simp)
    have fr := Q1.free
    simp only [List.getElem_cons_zero, List.getElem_cons_succ] at q0 q1 q2 q3 r0 r1 r2 r3 r4
    cases hp : progOk a b c
    all_goals
      rw [hp] at HER HW
      have HP := Lib.hid hp; clear hp
      obtain rfl := HER.out
      simp only [if_true, if_false, Bool.false_eq_true]
      go_wp2
      try simp only [Exit.inBlock, Exit.then]
      refine bodyPost_ret (v := ofVal A B C U ca cb cc cu a b c u) (by unfold ofVal; rw [HW.out]; simp [results, Try.results21, go_sem, r0, r1, r2, r3, r4]) rfl ⟨rfl, ?_⟩
      repeat' (refine Below.setCell ?_ (by dsimp only; omega) _)
      exact hbx

theorem of_calls (A B C U : Option Addr) (ca cb cc cu : Nat) (a : List (List Int)) (b c u : List Int) (w : World) (h : Who w A B C U a b c u) :
    Calls Try.prog 21 #[.agg #[.slice A a.length ca, .slice B b.length cb, .slice C c.length cc, .slice U u.length cu]] w fun e w' => e = .returned (ofVal A B C U ca cb cc cu a b c u) ∧ Below w.heap.size w w' := by
  cases hg : (decide (c.length ≤ 5) && decide (u.length = c.length) && upOk u)
  · exact of_bad A B C U ca cb cc cu a b c u w h hg
  · exact of_good A B C U ca cb cc cu a b c u w h hg
end Go.Proofs.Ytbdlfjhhgnhejaa
