/- Package big: whole numbers behind pointers; of, small, Sign, set, NewInt, Neg. -/
import Derived.Test.YtbdlfjhhgnhejaaBigA
namespace Go.Proofs.Ytbdlfjhhgnhejaa
open Go.RowKit
set_option linter.unusedVariables false
set_option linter.unusedSimpArgs false

/-- The words of a number lie in w as a slice. -/
def WSl (w : World) (v : Value) (n : Nat) : Prop := ∃ A c, v = .slice A (digits n).length c ∧ (digits n).length ≤ c ∧ c ≤ 1000000000 ∧ Wds w A (digits n)
theorem WSl.ext {w w' : World} {v : Value} {n : Nat} (h : WSl w v n) (hb : Below w.heap.size w w') : WSl w' v n := by
  obtain ⟨A, c, h1, h2, h3, h4⟩ := h; exact ⟨A, c, h1, h2, h3, h4.ext hb⟩

theorem nthd_eq {l : List Nat} {i d : Nat} (h : l[i]? = some d) : nthd l i = d := by unfold nthd; rw [List.getD_eq_getElem?_getD, h]; rfl

/-- A new block of digits. -/
theorem wds_new (w : World) (ds : List Nat) (b : Nat) (h : w.heap.size = b) : Wds (w.alloc (.cells (ds.map fun d => Value.int .u32 (d : Nat)).toArray 120 (0, 0))) (some ⟨b, 0, none⟩) ds := by
  subst h
  intro i hi
  refine ⟨w.heap.size, 0, rfl, ?_⟩
  rw [Nat.zero_add, (Blk.new w (ds.map fun d => Value.int .u32 (d : Nat)) _).cell i (by simpa using hi)]
  simp [nthd_lt hi]

theorem digits_two (n : Nat) (h : n < 18446744073709551616) : trimL [n % 4294967296, n / 4294967296] = digits n := by
  rw [trimL_digits (by intro d hd; simp at hd; omega)]
  congr 1; simp [val]; omega

set_option maxHeartbeats 400000 in
theorem of_big (n : Nat) (w : World) (h : n < 18446744073709551616) :
    Calls Try.prog 64 #[.int .u64 n] w fun e w' => ∃ v, e = .returned v ∧ WSl w' v n ∧ Below w.heap.size w w' := by
  have hd := digits_two n h
  have HD := Lib.hid hd
  clear hd
  have h1 : (n : Int) < 18446744073709551616 := by omega
  have hw2 : ∀ w : World, Wds (w.alloc (.cells #[.int .u32 ((n : Int) % 4294967296), .int .u32 ((n : Int) / 4294967296)] 120 (0, 0))) (some ⟨w.heap.size, 0, none⟩) [n % 4294967296, n / 4294967296] := fun w => wds_new w [n % 4294967296, n / 4294967296] _ rfl
  go_enter Try.func64, Try.ntmps64
  go_wp2_with fail
  refine (trim_calls _ 2 [n % 4294967296, n / 4294967296] _ (by simp) (by unfold maxLen; omega) (hw2 w)).mono ?_; rintro e w1 ⟨k, rfl, hk, ht, rfl⟩
  have hw3 := (hw2 w).take k
  rw [ht, HD.out] at hw3
  have hl : k = (digits n).length := by rw [← HD.out, ← ht, List.length_take]; omega
  have HL := Lib.hid hl
  have hkc : k ≤ 2 := by simpa using hk
  clear ht hk hl
  go_wp2
  go_ret
  exact ⟨_, rfl, ⟨_, 2, by rw [← HL.out]; rfl, by rw [← HL.out]; exact hkc, by omega, hw3⟩, (Below.refl _ _).alloc (Nat.le_refl _) _⟩

/-- Its first two digits: is it all? -/
theorem digits_small {n : Nat} : (digits n).length ≤ 2 ↔ n < 18446744073709551616 := by
  constructor
  · intro h
    have h1 := val_lt (digits_dig n)
    rw [val_digits] at h1
    have : 4294967296 ^ (digits n).length ≤ 4294967296 ^ 2 := Nat.pow_le_pow_right (by omega) h
    omega
  · intro h
    rw [← digits_two n h]
    simp only [trimL]; split <;> (try split) <;> simp
theorem digits_cases (n : Nat) (h : n < 18446744073709551616) : (n = 0 ∧ digits n = []) ∨ (0 < n ∧ n < 4294967296 ∧ digits n = [n]) ∨ (4294967296 ≤ n ∧ digits n = [n % 4294967296, n / 4294967296]) := by
  by_cases h0 : n = 0
  · left; exact ⟨h0, by rw [h0, digits_zero]⟩
  · right
    by_cases h1 : n < 4294967296
    · left; exact ⟨by omega, h1, by rw [digits_pos h0, show n / 4294967296 = 0 by omega, digits_zero, Nat.mod_eq_of_lt h1]⟩
    · right; refine ⟨by omega, ?_⟩
      rw [digits_pos h0, digits_pos (n := n / 4294967296) (by omega), show n / 4294967296 / 4294967296 = 0 by omega, digits_zero, Nat.mod_eq_of_lt (by omega : n / 4294967296 < 4294967296)]

theorem or_words (H L : Nat) (hH : H < 4294967296) (hL : L < 4294967296) : bits .or .u64 ((H : Int) * 4294967296) (L : Int) = ((L + 4294967296 * H : Nat) : Int) := by
  have e : (H : Int) * 4294967296 = ((H * 4294967296 : Nat) : Int) := by rw [Int.natCast_mul]; rfl
  rw [e, u64_or_nat _ _ (by omega) (by omega)]
  have := Nat.shiftLeft_add_eq_or_of_lt (i := 32) (b := L) (by omega) H
  rw [Nat.shiftLeft_eq] at this
  rw [show H * 4294967296 = H * 2 ^ 32 from rfl, ← this]
  congr 1; omega

set_option maxHeartbeats 1000000 in
theorem small_yes (n : Nat) (v : Value) (w : World) (h : n < 18446744073709551616) (hv : WSl w v n) :
    Calls Try.prog 84 #[v] w fun e w' => e = .returned (.tuple #[.int .u64 n, .bool true]) ∧ ∃ k, w' = w.drewN k := by
  obtain ⟨A, c, rfl, hc, hm, hA⟩ := hv
  rcases digits_cases n h with ⟨rfl, hd⟩ | ⟨h0, h1, hd⟩ | ⟨h0, hd⟩
  · rw [hd]
    clear hA hc hd
    go_enter Try.func84, Try.ntmps84
    go_wp2
    go_ret2
    exact ⟨rfl, 0, rfl⟩
  · rw [hd] at hA ⊢
    obtain ⟨b, o, rfl, g⟩ := hA 0 (by simp)
    have g' : w.cell? ⟨b, o, none⟩ = some (.int .u32 n) := g
    clear hc hd g hA
    go_enter Try.func84, Try.ntmps84
    go_wp2
    go_ret2
    exact ⟨rfl, 0, rfl⟩
  · rw [hd] at hA ⊢
    obtain ⟨b, o, rfl, g0⟩ := hA 0 (by simp)
    obtain ⟨b', o', e', g1⟩ := hA 1 (by simp)
    injection e' with e'; injection e' with e1 e2; subst e1; subst e2
    have g0' : w.cell? ⟨b, o, none⟩ = some (.int .u32 (n % 4294967296 : Nat)) := g0
    have g1' : w.cell? ⟨b, o + 1, none⟩ = some (.int .u32 (n / 4294967296 : Nat)) := g1
    have hH : n / 4294967296 < 4294967296 := by omega
    have hL : n % 4294967296 < 4294967296 := by omega
    have hn : n = n % 4294967296 + 4294967296 * (n / 4294967296) := by omega
    generalize n / 4294967296 = H at *
    generalize n % 4294967296 = L at *
    have HN := Lib.hid hn
    clear hc hd g0 g1 hA hn h h0
    go_enter Try.func84, Try.ntmps84
    go_wp2_with fail
    go_quiet (fail)
    go_wp2_with fail
    go_ret2
    exact ⟨by rw [or_words H L hH hL, HN.out]; rfl, nq, rfl⟩

set_option maxHeartbeats 1000000 in
theorem small_no (n : Nat) (v : Value) (w : World) (h : 18446744073709551616 ≤ n) (hl : (digits n).length ≤ maxLen) (hv : WSl w v n) :
    Calls Try.prog 84 #[v] w fun e w' => e = .returned (.tuple #[.int .u64 0, .bool false]) ∧ w' = w := by
  obtain ⟨A, c, rfl, hc, hm, hA⟩ := hv
  have h2 : 2 < (digits n).length := by
    rcases Nat.lt_or_ge 2 (digits n).length with h2 | h2
    · exact h2
    · have := digits_small.1 h2; omega
  unfold maxLen at hl
  generalize (digits n).length = N at *
  have e0 : ((N : Int) == 0) = false := by simp; omega
  have e1 : ((N : Int) == 1) = false := by simp; omega
  have e2 : ((N : Int) == 2) = false := by simp; omega
  clear hA hc
  go_enter Try.func84, Try.ntmps84
  go_wp2
  go_ret2
  exact ⟨rfl, rfl⟩

/-- A whole number behind a pointer. -/
def BigP (w : World) (p : Nat) (z : Int) : Prop := ∃ v, Blk w p [.bool (decide (z < 0)), v] 96 ∧ WSl w v z.natAbs
theorem BigP.ext {w w' : World} {p : Nat} {z : Int} (h : BigP w p z) (hb : Below w.heap.size w w') : BigP w' p z := by
  obtain ⟨v, h1, h2⟩ := h; exact ⟨v, h1.ext hb, h2.ext hb⟩
theorem BigP.lt {w : World} {p : Nat} {z : Int} (h : BigP w p z) : p < w.heap.size := by obtain ⟨v, h1, _⟩ := h; exact h1.lt

theorem wslice_len {w : World} {v : Value} {n : Nat} (h : WSl w v n) : ∃ A c, v = .slice A (digits n).length c ∧ (digits n).length ≤ 1000000000 := by
  obtain ⟨A, c, h1, h2, h3, _⟩ := h; exact ⟨A, c, h1, by omega⟩
theorem digits_len_pos {n : Nat} : 0 < (digits n).length ↔ n ≠ 0 := by
  constructor
  · intro h e; rw [e, digits_zero] at h; simp at h
  · intro h; rw [digits_pos h]; simp

/-- What a block's write does to words elsewhere: they stay, if no cell of theirs lies in it. -/
def Off (p : Nat) (w : World) (v : Value) : Prop := ∀ A n c, v = .slice A n c → ∀ a, A = some a → a.block ≠ p

set_option maxHeartbeats 400000 in
theorem set_big (p : Nat) (x : Bool) (v v0 v1 : Value) (n : Nat) (w : World) (hz : Blk w p [v0, v1] 96) (hv : WSl w v n) :
    Calls Try.prog 68 #[.pointer (some ⟨p, 0, none⟩), .bool x, v] w fun e w' => e = .returned (.pointer (some ⟨p, 0, none⟩)) ∧ Blk w' p [.bool (x && decide (0 < n)), v] 96 ∧ But p w w' := by
  obtain ⟨A, c, rfl, hl⟩ := wslice_len hv
  have c0 : w.cell? ⟨p, 0, none⟩ = some v0 := hz.cell 0 (by simp)
  have c1 : w.cell? ⟨p, 1, none⟩ = some v1 := hz.cell 1 (by simp)
  have f := hz.free
  have hd : decide (0 < ((digits n).length : Int)) = decide (0 < n) := by
    have := digits_len_pos (n := n)
    by_cases h : n = 0
    · rw [h, digits_zero]; rfl
    · rw [decide_eq_true (by have := this.2 h; omega), decide_eq_true (by omega)]
  have hset : ∀ b, Blk ((w.setCell ⟨p, 0, none⟩ (.bool b)).setCell ⟨p, 1, none⟩ (.slice A (digits n).length c)) p [.bool b, .slice A (digits n).length c] 96 := fun b => (hz.set 0 (.bool b)).set 1 _
  have hbut : ∀ b, But p w ((w.setCell ⟨p, 0, none⟩ (.bool b)).setCell ⟨p, 1, none⟩ (.slice A (digits n).length c)) := fun b => ((But.refl p w).set 0 _).set 1 _
  have HD := Lib.hid hd; have HS := Lib.hid hset; have HB := Lib.hid hbut
  clear hd hset hbut
  cases x
  · go_enter Try.func68, Try.ntmps68
    go_wp2
    go_ret
    exact ⟨rfl, HS.out false, HB.out false⟩
  · cases hb : decide (0 < n)
    · rw [hb] at HD
      have hd : decide (0 < ((digits n).length : Int)) = false := HD.out
      have hd2 : decide (0 < (digits n).length) = false := by rw [← hd]; simp
      go_enter Try.func68, Try.ntmps68
      go_wp2
      go_ret
      exact ⟨rfl, HS.out false, HB.out false⟩
    · rw [hb] at HD
      have hd : decide (0 < ((digits n).length : Int)) = true := HD.out
      have hd2 : decide (0 < (digits n).length) = true := by rw [← hd]; simp
      go_enter Try.func68, Try.ntmps68
      go_wp2
      go_ret
      exact ⟨rfl, HS.out true, HB.out true⟩
end Go.Proofs.Ytbdlfjhhgnhejaa
