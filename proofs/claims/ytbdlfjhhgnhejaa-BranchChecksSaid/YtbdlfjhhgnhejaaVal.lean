/- linear.proper and linear.Value: what they answer. -/
import Derived.Test.YtbdlfjhhgnhejaaLow
namespace Go.Proofs.Ytbdlfjhhgnhejaa
open Go.RowKit

/-- Is a point one with n numbers? -/
def pointOk (n : Nat) (xs : List Int) (d : Int) : Bool := decide (xs.length = n) && decide (1 ≤ d) && decide (d ≤ 1125899906842624) && listOk 1125899906842624 xs

set_option maxHeartbeats 400000 in
theorem proper_calls (A : Option Addr) (c : Nat) (xs : List Int) (d : Int) (n : Nat) (w : World) (hm : xs.length ≤ maxLen) (hn : n ≤ maxLen) (hA : Ints w A xs) :
    Calls Try.prog 46 #[.agg #[.slice A xs.length c, .int .i64 d], .int .i64 n] w fun e w' => e = .returned (.bool (pointOk n xs d)) ∧ Below w.heap.size w w' := by
  have hn' := hn; unfold maxLen at hn'
  have hm' := hm; unfold maxLen at hm'
  have hb0 : ∀ o, Below w.heap.size w (w.alloc o) := fun o => (Below.refl _ _).alloc (Nat.le_refl _) _
  by_cases h1 : xs.length = n
  · have d1 : ((xs.length : Int) == (n : Int)) = true := by simp [h1]
    have H1 := Lib.hid h1; clear h1
    by_cases h2 : 1 ≤ d
    · by_cases h3 : d ≤ 1125899906842624
      · go_enter Try.func46, Try.ntmps46
        go_wp2_with (go_at_call 63; refine (listed_calls _ _ xs 1125899906842624 _ hm (by omega) (by omega) (hA.ext (hb0 _))).mono ?_; rintro e w1 ⟨rfl, hb1⟩)
        go_ret
        exact ⟨by simp [pointOk, H1.out, h2, h3], ext_trans (hb0 _) hb1⟩
      · have d3 : decide (d ≤ 1125899906842624) = false := decide_eq_false h3
        go_enter Try.func46, Try.ntmps46
        go_wp2
        go_ret
        exact ⟨by simp [pointOk, d3], hb0 _⟩
    · have d2 : decide (1 ≤ d) = false := decide_eq_false h2
      go_enter Try.func46, Try.ntmps46
      go_wp2
      go_ret
      exact ⟨by simp [pointOk, d2], hb0 _⟩
  · have d1 : ((xs.length : Int) == (n : Int)) = false := by simp; omega
    have H1 := Lib.hid h1; clear h1
    go_enter Try.func46, Try.ntmps46
    go_wp2
    go_ret
    exact ⟨by simp [pointOk, H1.out], hb0 _⟩

theorem inB_bd {m x : Int} (h : inB m x = true) : -m ≤ x ∧ x ≤ m := by unfold inB at h; simp at h; exact h
theorem listOk_nth {m : Int} {xs : List Int} (h : listOk m xs = true) {i : Nat} (hi : i < xs.length) : -m ≤ nth xs i ∧ nth xs i ≤ m := by
  unfold listOk at h; rw [List.all_eq_true] at h; exact inB_bd (h _ (nth_mem hi))
theorem mul_bd {a b x y : Int} (ha : 0 ≤ a) (hx : -a ≤ x ∧ x ≤ a) (hy : -b ≤ y ∧ y ≤ b) : -(a * b) ≤ x * y ∧ x * y ≤ a * b := by
  have e : (x * y).natAbs ≤ (a * b).natAbs := by
    rw [Int.natAbs_mul, Int.natAbs_mul]; exact Nat.mul_le_mul (by omega) (by omega)
  have h0 : 0 ≤ a * b := Int.mul_nonneg ha (by omega)
  omega
/-- Products of lists within bounds are small. -/
theorem small_of {xs ys : List Int} {a b : Int} {n : Nat} (h : listOk a xs = true) (k : listOk b ys = true) (ha : 0 ≤ a) (hb : 0 ≤ b) (hn : xs.length ≤ n) (hl : xs.length ≤ ys.length) (hM : n * (a * b) ≤ 9000000000000000000) : Small xs ys :=
  ⟨a * b, Int.le_trans (Int.mul_le_mul_of_nonneg_right (by omega) (Int.mul_nonneg ha hb)) hM, fun i hi => mul_bd ha (listOk_nth h hi) (listOk_nth k (by omega))⟩

theorem progOk_parts {a : List (List Int)} {b c : List Int} (h : progOk a b c = true) : (1 ≤ c.length ∧ c.length ≤ 6) ∧ a.length ≤ 6 ∧ (∀ r ∈ a, r.length = c.length ∧ listOk 30 r = true) ∧ b.length = a.length ∧ listOk 1000 b = true ∧ listOk 1000 c = true := by
  unfold progOk rowsOk rowOk at h; simp at h
  obtain ⟨⟨⟨⟨⟨⟨h1, h2⟩, h3⟩, h4⟩, h5⟩, h6⟩, h7⟩ := h
  exact ⟨⟨by omega, h2⟩, h3, fun r hr => h4 r hr, h5, h6, h7⟩
theorem pointOk_parts {n : Nat} {xs : List Int} {d : Int} (h : pointOk n xs d = true) : xs.length = n ∧ 1 ≤ d ∧ d ≤ 1125899906842624 ∧ listOk 1125899906842624 xs = true := by
  unfold pointOk at h; simp at h; obtain ⟨⟨⟨h1, h2⟩, h3⟩, h4⟩ := h; exact ⟨h1, h2, h3, h4⟩

/-- linear.Value of a valid program at a proper point. -/
def ValPost (w : World) (xs c : List Int) (d : Int) (e : Ending) (w' : World) : Prop :=
  ∃ b, e = .returned (.tuple #[.agg #[.slice (some ⟨b, 0, none⟩) 1 1, .int .i64 (d.tdiv (gcdN d [dotZ c xs] 1))], .int .i64 0]) ∧ w.heap.size ≤ b ∧ IBlk w' b [(dotZ c xs).tdiv (gcdN d [dotZ c xs] 1)] ∧ Below w.heap.size w w'

set_option maxHeartbeats 1000000 in
theorem value_ok (A B C X : Option Addr) (ca cb cc cx : Nat) (a : List (List Int)) (b c xs : List Int) (d : Int) (w : World) (h : Prog3 w A B C a b c) (hX : Ints w X xs) (hm : xs.length ≤ maxLen) (h1 : progOk a b c = true) (h2 : pointOk c.length xs d = true) :
    Calls Try.prog 33 #[.agg #[.slice A a.length ca, .slice B b.length cb, .slice C c.length cc], .agg #[.slice X xs.length cx, .int .i64 d]] w (ValPost w xs c d) := by
  have hlc := h.lc; unfold maxLen at hlc
  have hb0 : ∀ o, Below w.heap.size w (w.alloc o) := fun o => (Below.refl _ _).alloc (Nat.le_refl _) _
  have hb00 : ∀ o o' o'', Below w.heap.size w (((w.alloc o).alloc o').alloc o'') := fun o o' o'' => (((Below.refl _ _).alloc (Nat.le_refl _) _).alloc (by simp) _).alloc (by simp; omega) _
  go_enter Try.func33, Try.ntmps33
  go_wp2_with fail
  refine (valid_calls _ _ _ _ _ _ a b c _ (h.ext (hb00 _ _ _))).mono ?_; rw [h1]; rintro e w1 ⟨rfl, hb1⟩
  obtain ⟨hc1, hf1⟩ := bcell hb1
  have hx1 := ext_trans (hb00 _ _ _) hb1
  have hz1 := hb1.size
  simp at hz1
  go_wp2_with fail
  refine (proper_calls _ _ xs d c.length _ hm h.lc (hX.ext hx1)).mono ?_; rw [h2]; rintro e w2 ⟨rfl, hb2⟩
  obtain ⟨hc2, hf2⟩ := bcell hb2
  have hx2 := ext_trans hx1 hb2
  have hz2 := hb2.size
  have hz3 : w.heap.size + 1 < w1.heap.size := by omega
  have hz4 : w.heap.size + 2 < w1.heap.size := by omega
  have hz5 : w.heap.size < w1.heap.size := by omega
  have hx3 := hx2
  obtain ⟨pl, pd1, pd2, px⟩ := pointOk_parts h2
  obtain ⟨⟨pc1, pc2⟩, pa, pr, pbl, pb, pc⟩ := progOk_parts h1
  have hsm : Small c xs := small_of pc px (by omega) (by omega) pc2 (by omega) (by omega)
  have PL := Lib.hid pl
  have hle : c.length ≤ xs.length := by omega
  clear pl pr pbl pa h1 h2
  have hI1 := (h.ext hx2).gc
  have hI2 := hX.ext hx2
  have k1 : w2.cell? ⟨w.heap.size, 2, none⟩ = some (.slice C c.length cc) := by rw [hc2 _ _ hz5, hc1 _ _ (by simp; omega)]; go_simp
  have k2 : w2.cell? ⟨w.heap.size + 1, 0, none⟩ = some (.slice X xs.length cx) := by rw [hc2 _ _ hz3, hc1 _ _ (by simp)]; go_simp
  have k3 : w2.cell? ⟨w.heap.size + 1, 1, none⟩ = some (.int .i64 d) := by rw [hc2 _ _ hz3, hc1 _ _ (by simp)]; go_simp
  have k4 : w2.cell? ⟨w.heap.size + 1 + 1, 0, none⟩ = some (.slice none 0 0) := by rw [hc2 _ _ hz4, hc1 _ _ (by simp)]; go_simp
  have k5 : w2.cell? ⟨w.heap.size + 1 + 1, 1, none⟩ = some (.int .i64 0) := by rw [hc2 _ _ hz4, hc1 _ _ (by simp)]; go_simp
  have f4 : w2.frozen? ⟨w.heap.size + 1 + 1, 0, none⟩ = false := by rw [hf2 _ _ hz4, hf1 _ _ (by simp)]; go_simp
  have f5 : w2.frozen? ⟨w.heap.size + 1 + 1, 1, none⟩ = false := by rw [hf2 _ _ hz4, hf1 _ _ (by simp)]; go_simp
  clear hc1 hf1 hc2 hf2
  have y1 : w.heap.size < w2.heap.size := by omega
  have y2 : w.heap.size + 1 < w2.heap.size := by omega
  have y3 : w.heap.size + 1 + 1 < w2.heap.size := by omega
  clear hz1 hz2 hz3 hz4 hz5
  have hdz := dotZ_bd hsm
  go_wp2_with fail
  go_region_held3 (fun w' => w'.cell? ⟨w.heap.size, 2, none⟩ = some (.slice C c.length cc) ∧ w'.cell? ⟨w.heap.size + 1, 0, none⟩ = some (.slice X xs.length cx) ∧ w'.cell? ⟨w.heap.size + 1, 1, none⟩ = some (.int .i64 d))
    (first | (go_keep; done) | (refine ⟨?_, ?_, ?_⟩ <;> (rw [World.cell?_setCell_far _ _ _ _ (by dsimp only; omega), World.cell?_setCell_far _ _ _ _ (by dsimp only; omega)]; (first | rw [hc4 _ _ y1] | rw [hc4 _ _ y2]); assumption)))
    (first
      | (go_at_call 48; refine (linDot_calls _ _ _ _ c xs _ hle h.lc (hI1.ext (drewN_below _ 1)) (hI2.ext (drewN_below _ 1)) hsm).mono ?_; rintro e w3 ⟨rfl, n3, rfl⟩)
      | (go_at_call 47; refine (lowest_calls w2.heap.size 1 [dotZ c xs] d _ (fun i hi => by have : i = 0 := (by simp at hi; omega); subst this; exact hdz) pd1 (by omega) (by simp) (by exact IBlk.single _ _ _ rfl)).mono ?_; rintro e w4 ⟨rfl, hIB, hBut⟩; have hb4 : Below w2.heap.size w2 w4 := hBut.grown (by simp) ((drewN_below _ _).alloc (by simp) _); obtain ⟨hc4, hf4⟩ := bcell hb4))
  go_wp2
  try simp only [Exit.inBlock, Exit.then]
  have z4 : w4.cell? ⟨w.heap.size + 1 + 1, 0, none⟩ = some (.slice none 0 0) := by rw [hc4 _ _ y3]; exact k4
  have z5 : w4.cell? ⟨w.heap.size + 1 + 1, 1, none⟩ = some (.int .i64 0) := by rw [hc4 _ _ y3]; exact k5
  have hall : Below w.heap.size w w4 := hx2.trans (hb4.mono (by omega))
  refine bodyPost_ret (v := .tuple #[.agg #[.slice (some ⟨w2.heap.size, 0, none⟩) 1 1, .int .i64 (d.tdiv (gcdN d [dotZ c xs] 1))], .int .i64 0]) (by simp [results, Try.results33, go_sem, z4, z5]) rfl ⟨w2.heap.size, rfl, by omega, ?_, ?_⟩
  · exact Blk.other (Blk.other hIB _ _ (by dsimp only; omega)) _ _ (by dsimp only; omega)
  · exact (hall.setCell (by dsimp only; omega) _).setCell (by dsimp only; omega) _

set_option maxHeartbeats 400000 in
theorem value_bad (A B C X : Option Addr) (ca cb cc cx : Nat) (a : List (List Int)) (b c xs : List Int) (d : Int) (w : World) (h : Prog3 w A B C a b c) (hX : Ints w X xs) (hm : xs.length ≤ maxLen) (h1 : (progOk a b c && pointOk c.length xs d) = false) :
    Calls Try.prog 33 #[.agg #[.slice A a.length ca, .slice B b.length cb, .slice C c.length cc], .agg #[.slice X xs.length cx, .int .i64 d]] w fun e w' => e = .returned (.tuple #[.agg #[.slice none 0 0, .int .i64 0], .int .i64 2]) ∧ Below w.heap.size w w' := by
  have hlc := h.lc; unfold maxLen at hlc
  have hb00 : ∀ o o' o'', Below w.heap.size w (((w.alloc o).alloc o').alloc o'') := fun o o' o'' => (((Below.refl _ _).alloc (Nat.le_refl _) _).alloc (by simp) _).alloc (by simp; omega) _
  cases h2 : progOk a b c
  · clear h1
    go_enter Try.func33, Try.ntmps33
    go_wp2_with fail
    refine (valid_calls _ _ _ _ _ _ a b c _ (h.ext (hb00 _ _ _))).mono ?_; rw [h2]; rintro e w1 ⟨rfl, hb1⟩
    obtain ⟨hc1, hf1⟩ := bcell hb1
    have hx1 := ext_trans (hb00 _ _ _) hb1
    have hz1 := hb1.size
    simp at hz1
    have k4 : w1.cell? ⟨w.heap.size + 1 + 1, 0, none⟩ = some (.slice none 0 0) := by rw [hc1 _ _ (by simp)]; go_simp
    have k5 : w1.cell? ⟨w.heap.size + 1 + 1, 1, none⟩ = some (.int .i64 0) := by rw [hc1 _ _ (by simp)]; go_simp
    go_wp2
    try simp only [Exit.inBlock, Exit.then]
    refine bodyPost_ret (v := .tuple #[.agg #[.slice none 0 0, .int .i64 0], .int .i64 2]) (by simp [results, Try.results33, go_sem, k4, k5]) rfl ⟨rfl, ?_⟩
    exact (hx1.setCell (by dsimp only; omega) _).setCell (by dsimp only; omega) _
  · rw [h2, Bool.true_and] at h1
    go_enter Try.func33, Try.ntmps33
    go_wp2_with fail
    refine (valid_calls _ _ _ _ _ _ a b c _ (h.ext (hb00 _ _ _))).mono ?_; rw [h2]; rintro e w1 ⟨rfl, hb1⟩
    obtain ⟨hc1, hf1⟩ := bcell hb1
    have hx1 := ext_trans (hb00 _ _ _) hb1
    have hz1 := hb1.size
    simp at hz1
    go_wp2_with fail
    refine (proper_calls _ _ xs d c.length _ hm h.lc (hX.ext hx1)).mono ?_; rw [h1]; rintro e w2 ⟨rfl, hb2⟩
    obtain ⟨hc2, hf2⟩ := bcell hb2
    have hx2 := ext_trans hx1 hb2
    have hz2 := hb2.size
    have k4 : w2.cell? ⟨w.heap.size + 1 + 1, 0, none⟩ = some (.slice none 0 0) := by rw [hc2 _ _ (by omega), hc1 _ _ (by simp)]; go_simp
    have k5 : w2.cell? ⟨w.heap.size + 1 + 1, 1, none⟩ = some (.int .i64 0) := by rw [hc2 _ _ (by omega), hc1 _ _ (by simp)]; go_simp
    have f4 : w2.frozen? ⟨w.heap.size + 1 + 1, 0, none⟩ = false := by rw [hf2 _ _ (by omega), hf1 _ _ (by simp)]; go_simp
    have f5 : w2.frozen? ⟨w.heap.size + 1 + 1, 1, none⟩ = false := by rw [hf2 _ _ (by omega), hf1 _ _ (by simp)]; go_simp
    clear hc1 hf1 hc2 hf2
    go_wp2
    try simp only [Exit.inBlock, Exit.then]
    refine bodyPost_ret (v := .tuple #[.agg #[.slice none 0 0, .int .i64 0], .int .i64 2]) (by simp [results, Try.results33, go_sem, k4, k5]) rfl ⟨rfl, ?_⟩
    exact (hx2.setCell (by dsimp only; omega) _).setCell (by dsimp only; omega) _
end Go.Proofs.Ytbdlfjhhgnhejaa
