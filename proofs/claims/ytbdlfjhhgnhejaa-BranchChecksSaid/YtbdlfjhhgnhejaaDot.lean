/- The sums of products: linear.dot, branch.dot, tinplateref02.dot; no sum overflows where the products are small. -/
import Derived.Test.YtbdlfjhhgnhejaaBase
namespace Go.Proofs.Ytbdlfjhhgnhejaa
open Go.RowKit

/-- The sum of the first k products. -/
def dotN (xs ys : List Int) : Nat → Int
  | 0 => 0
  | k + 1 => dotN xs ys k + nth xs k * nth ys k
/-- The sum of products, as long as xs. -/
def dotZ (xs ys : List Int) : Int := dotN xs ys xs.length
/-- Each product is small. -/
def Small (xs ys : List Int) : Prop := ∃ M : Int, xs.length * M ≤ 9000000000000000000 ∧ ∀ i, i < xs.length → -M ≤ nth xs i * nth ys i ∧ nth xs i * nth ys i ≤ M

theorem dotN_bound {xs ys : List Int} {M : Int} (h : ∀ i, i < xs.length → -M ≤ nth xs i * nth ys i ∧ nth xs i * nth ys i ≤ M) : ∀ k, k ≤ xs.length → -(k * M) ≤ dotN xs ys k ∧ dotN xs ys k ≤ k * M
  | 0, _ => by simp [dotN]
  | k + 1, hk => by
    have ih := dotN_bound h k (by omega)
    have h1 := h k (by omega)
    have e : ((k + 1 : Nat) : Int) * M = k * M + M := by push_cast; rw [Int.add_mul, Int.one_mul]
    rw [e]; simp only [dotN]; omega

theorem Small.round {xs ys : List Int} (h : Small xs ys) {k : Nat} (hk : k < xs.length) : -9000000000000000000 ≤ nth xs k * nth ys k ∧ nth xs k * nth ys k ≤ 9000000000000000000 ∧ -9000000000000000000 ≤ dotN xs ys k + nth xs k * nth ys k ∧ dotN xs ys k + nth xs k * nth ys k ≤ 9000000000000000000 := by
  obtain ⟨M, hM, h⟩ := h
  have h1 := h k hk
  have h2 := dotN_bound h (k + 1) (by omega)
  have h0 : 0 ≤ M := by omega
  have h3 : ((k + 1 : Nat) : Int) * M ≤ xs.length * M := Int.mul_le_mul_of_nonneg_right (by omega) h0
  have h4 : (1 : Int) * M ≤ xs.length * M := Int.mul_le_mul_of_nonneg_right (by omega) h0
  simp only [dotN] at h2
  omega
theorem dotZ_bd {xs ys : List Int} (h : Small xs ys) : -9000000000000000000 ≤ dotZ xs ys ∧ dotZ xs ys ≤ 9000000000000000000 := by
  obtain ⟨M, hM, h⟩ := h
  have := dotN_bound h xs.length (Nat.le_refl _)
  unfold dotZ; omega

set_option maxHeartbeats 400000 in
theorem linDot_calls (A B : Option Addr) (ca cb : Nat) (xs ys : List Int) (w : World) (hl : xs.length ≤ ys.length) (hm : xs.length ≤ maxLen) (hA : Ints w A xs) (hB : Ints w B ys) (hs : Small xs ys) :
    Calls Try.prog 48 #[.slice A xs.length ca, .slice B ys.length cb] w fun e w' => e = .returned (.int .i64 (dotZ xs ys)) ∧ ∃ n, w' = w.drewN n := by
  unfold maxLen at hm
  go_enter Try.func48, Try.ntmps48
  go_wp2
  go_loopw [5, 9] (fun s i wr => ∃ (k n : Nat), k ≤ xs.length ∧ i = .int .i64 k ∧ s = .int .i64 (dotN xs ys k) ∧ wr = w.drewN n) (fun _ i _ => xs.length - (intOf i).toNat)
  case atStart => exact ⟨0, 0, Nat.zero_le _, rfl, rfl, rfl⟩
  case round =>
    obtain ⟨k, n, hk, rfl, rfl, rfl⟩ := hrel
    by_cases hlt : k < xs.length
    · obtain ⟨b1, o1, rfl, g1⟩ := hA k hlt
      obtain ⟨b2, o2, rfl, g2⟩ := hB k (by omega)
      obtain ⟨r1, r2, r3, r4⟩ := hs.round hlt
      have hlt2 : k < ys.length := by omega
      go_wp2
      go_quiet (fail)
      go_wp2
      go_roundw
      case rel => exact ⟨k + 1, _, by omega, by go_num, rfl, rfl⟩
      case measure => simp [intOf]; omega
    · obtain rfl : k = xs.length := by omega
      go_wp2
      go_ret
      exact ⟨rfl, _, rfl⟩

set_option maxHeartbeats 400000 in
theorem brDot_calls (A B : Option Addr) (ca cb : Nat) (xs ys : List Int) (w : World) (hl : xs.length ≤ ys.length) (hm : xs.length ≤ maxLen) (hA : Ints w A xs) (hB : Ints w B ys) (hs : Small xs ys) :
    Calls Try.prog 43 #[.slice A xs.length ca, .slice B ys.length cb] w fun e w' => e = .returned (.int .i64 (dotZ xs ys)) ∧ ∃ n, w' = w.drewN n := by
  unfold maxLen at hm
  go_enter Try.func43, Try.ntmps43
  go_wp2
  go_loopw [5, 9] (fun s i wr => ∃ (k n : Nat), k ≤ xs.length ∧ i = .int .i64 k ∧ s = .int .i64 (dotN xs ys k) ∧ wr = w.drewN n) (fun _ i _ => xs.length - (intOf i).toNat)
  case atStart => exact ⟨0, 0, Nat.zero_le _, rfl, rfl, rfl⟩
  case round =>
    obtain ⟨k, n, hk, rfl, rfl, rfl⟩ := hrel
    by_cases hlt : k < xs.length
    · obtain ⟨b1, o1, rfl, g1⟩ := hA k hlt
      obtain ⟨b2, o2, rfl, g2⟩ := hB k (by omega)
      obtain ⟨r1, r2, r3, r4⟩ := hs.round hlt
      have hlt2 : k < ys.length := by omega
      go_wp2
      go_quiet (fail)
      go_wp2
      go_roundw
      case rel => exact ⟨k + 1, _, by omega, by go_num, rfl, rfl⟩
      case measure => simp [intOf]; omega
    · obtain rfl : k = xs.length := by omega
      go_wp2
      go_ret
      exact ⟨rfl, _, rfl⟩

set_option maxHeartbeats 400000 in
theorem refDot_calls (A B : Option Addr) (ca cb : Nat) (xs ys : List Int) (w : World) (hl : xs.length ≤ ys.length) (hm : xs.length ≤ maxLen) (hA : Ints w A xs) (hB : Ints w B ys) (hs : Small xs ys) :
    Calls Try.prog 26 #[.slice A xs.length ca, .slice B ys.length cb] w fun e w' => e = .returned (.int .i64 (dotZ xs ys)) ∧ ∃ n, w' = w.drewN n := by
  unfold maxLen at hm
  go_enter Try.func26, Try.ntmps26
  go_wp2
  go_loopw [5, 6] (fun s i wr => ∃ (k n : Nat), k ≤ xs.length ∧ i = .int .i64 k ∧ s = .int .i64 (dotN xs ys k) ∧ wr = w.drewN n) (fun _ i _ => xs.length - (intOf i).toNat)
  case atStart => exact ⟨0, 0, Nat.zero_le _, rfl, rfl, rfl⟩
  case round =>
    obtain ⟨k, n, hk, rfl, rfl, rfl⟩ := hrel
    by_cases hlt : k < xs.length
    · obtain ⟨b1, o1, rfl, g1⟩ := hA k hlt
      obtain ⟨b2, o2, rfl, g2⟩ := hB k (by omega)
      obtain ⟨r1, r2, r3, r4⟩ := hs.round hlt
      have hlt2 : k < ys.length := by omega
      go_wp2
      go_quiet (fail)
      go_wp2
      go_roundw
      case rel => exact ⟨k + 1, _, by omega, by go_num, rfl, rfl⟩
      case measure => simp [intOf]; omega
    · obtain rfl : k = xs.length := by omega
      go_wp2
      go_ret
      exact ⟨rfl, _, rfl⟩

theorem brDot_at (A B : Option Addr) (nx ny ca cb : Nat) (xs ys : List Int) (w : World) (n : Nat) (hx : xs.length = nx) (hy : ys.length = ny) (hl : xs.length ≤ ys.length) (hm : xs.length ≤ maxLen) (hA : Ints w A xs) (hB : Ints w B ys) (hs : Small xs ys) :
    Calls Try.prog 43 #[.slice A nx ca, .slice B ny cb] (w.drewN n) fun e w' => e = .returned (.int .i64 (dotZ xs ys)) ∧ ∃ m, w' = w.drewN m := by
  subst hx; subst hy
  exact Calls.quiet_of (brDot_calls A B ca cb xs ys (w.drewN n) hl hm (hA.ext (drewN_below _ _)) (hB.ext (drewN_below _ _)) hs)
/-- The same inside a loop that has drawn. -/
theorem brDot_in (A B : Option Addr) (nx ny ca cb : Nat) (xs ys : List Int) (w : World) (n m : Nat) (hx : xs.length = nx) (hy : ys.length = ny) (hl : xs.length ≤ ys.length) (hm : xs.length ≤ maxLen) (hA : Ints w A xs) (hB : Ints w B ys) (hs : Small xs ys) :
    Calls Try.prog 43 #[.slice A nx ca, .slice B ny cb] (w.drewN (n + m)) fun e w' => e = .returned (.int .i64 (dotZ xs ys)) ∧ ∃ m, w' = w.drewN (n + m) := by
  have h := brDot_at A B nx ny ca cb xs ys (w.drewN n) m hx hy hl hm (hA.ext (drewN_below _ _)) (hB.ext (drewN_below _ _)) hs
  rw [drewN_add] at h
  exact h.mono fun e w' ⟨he, k, hk⟩ => ⟨he, k, by rw [hk, drewN_add]⟩
theorem refDot_at (A B : Option Addr) (nx ny ca cb : Nat) (xs ys : List Int) (w : World) (n : Nat) (hx : xs.length = nx) (hy : ys.length = ny) (hl : xs.length ≤ ys.length) (hm : xs.length ≤ maxLen) (hA : Ints w A xs) (hB : Ints w B ys) (hs : Small xs ys) :
    Calls Try.prog 26 #[.slice A nx ca, .slice B ny cb] (w.drewN n) fun e w' => e = .returned (.int .i64 (dotZ xs ys)) ∧ ∃ m, w' = w.drewN m := by
  subst hx; subst hy
  exact Calls.quiet_of (refDot_calls A B ca cb xs ys (w.drewN n) hl hm (hA.ext (drewN_below _ _)) (hB.ext (drewN_below _ _)) hs)
theorem refDot_in (A B : Option Addr) (nx ny ca cb : Nat) (xs ys : List Int) (w : World) (n m : Nat) (hx : xs.length = nx) (hy : ys.length = ny) (hl : xs.length ≤ ys.length) (hm : xs.length ≤ maxLen) (hA : Ints w A xs) (hB : Ints w B ys) (hs : Small xs ys) :
    Calls Try.prog 26 #[.slice A nx ca, .slice B ny cb] (w.drewN (n + m)) fun e w' => e = .returned (.int .i64 (dotZ xs ys)) ∧ ∃ m, w' = w.drewN (n + m) := by
  have h := refDot_at A B nx ny ca cb xs ys (w.drewN n) m hx hy hl hm (hA.ext (drewN_below _ _)) (hB.ext (drewN_below _ _)) hs
  rw [drewN_add] at h
  exact h.mono fun e w' ⟨he, k, hk⟩ => ⟨he, k, by rw [hk, drewN_add]⟩
/-- The same from any world that draws lead to. -/
theorem refDot_q (A B : Option Addr) (nx ny ca cb : Nat) (xs ys : List Int) (w : World) (n : Nat) (hx : xs.length = nx) (hy : ys.length = ny) (hl : xs.length ≤ ys.length) (hm : xs.length ≤ maxLen) (hA : Ints w A xs) (hB : Ints w B ys) (hs : Small xs ys) :
    Calls Try.prog 26 #[.slice A nx ca, .slice B ny cb] (w.drewN n) fun e w' => e = .returned (.int .i64 (dotZ xs ys)) ∧ ∃ m, w' = w.drewN m := refDot_at A B nx ny ca cb xs ys w n hx hy hl hm hA hB hs
theorem drewN_zero (w : World) : w.drewN 0 = w := rfl
end Go.Proofs.Ytbdlfjhhgnhejaa
