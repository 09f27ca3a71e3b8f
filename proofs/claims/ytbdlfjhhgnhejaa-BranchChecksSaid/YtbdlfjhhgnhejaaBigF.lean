/- Package big: plus of any two, Mul64, times of small numbers. -/
import Derived.Test.YtbdlfjhhgnhejaaBigE
import Derived.Shelf.Bits.Mul64
namespace Go.Proofs.Ytbdlfjhhgnhejaa
open Go.RowKit

set_option maxRecDepth 100000 in
set_option maxHeartbeats 2000000 in
theorem plus_swap (A B : Option Addr) (ca cb : Nat) (a b : List Nat) (w : World) (hl : b.length < a.length) (ha : Dig a) (hb : Dig b) (hm : a.length ≤ 1000000) (hA : Wds w A a) (hB : Wds w B b) :
    Calls Try.prog 86 #[.slice B b.length cb, .slice A a.length ca] w fun e w' => ∃ v, e = .returned v ∧ WSl w' v (val a + val b) ∧ Below w.heap.size w w' := by
  have hmk := fun w => run_makeU32 w (a.length + 1) (by omega)
  have ec : ((a.length + 1 : Nat) : Int) = (a.length : Int) + 1 := by push_cast; rfl
  rw [ec] at hmk
  clear ec
  have hge : decide ((b.length : Int) < a.length) = true := decide_eq_true (by omega)
  go_enter Try.func86, Try.ntmps86
  go_wp2
  go_loopw [6, 7, 21] (fun c _ i wr => ∃ (k cn : Nat) (os : List Nat), k ≤ a.length ∧ i = .int .i64 k ∧ c = .int .u64 cn ∧ UBlk wr w.heap.size os ∧ PlusAt a b os k cn ∧ Below w.heap.size w wr) (fun _ _ i _ => a.length - (intOf i).toNat)
  case atStart => exact ⟨0, 0, List.replicate (a.length + 1) 0, Nat.zero_le _, rfl, rfl, UBlk.made _ _ _ rfl, ⟨by simp, Dig.zeros _, by omega, by simp [val]⟩, (Below.refl _ _).alloc (Nat.le_refl _) _⟩
  case round =>
    obtain ⟨k, cn, os, hk, rfl, rfl, hos, hp, hbe⟩ := hrel
    obtain ⟨p1, p2, p3, p4⟩ := id hp
    have hP := Lib.hid hp; have P1 := Lib.hid p1
    clear hp p1 p4
    by_cases hlt : k < a.length
    · obtain ⟨bA, oA, rfl, gA⟩ := (hA.ext hbe) k hlt
      have xa := ha.nth k
      have c1 := hos.cell k (by have := P1.out; omega)
      have f1 := Blk.free hos k
      by_cases hlb : k < b.length
      · obtain ⟨bB, oB, rfl, gB⟩ := (hB.ext hbe) k hlb
        have xb := hb.nth k
        have hP2 := PlusAt.step hP.out ha hb hlt
        have e1 : (((cn + nthd a k + nthd b k) % 4294967296 : Nat) : Int) = ((cn : Int) + nthd a k + nthd b k) % 4294967296 := castm3 _ _ _
        have e2 : (((cn + nthd a k + nthd b k) / 4294967296 : Nat) : Int) = ((cn : Int) + nthd a k + nthd b k) / 4294967296 := castd3 _ _ _
        have HP2 := Lib.hid hP2; have E1 := Lib.hid e1; have E2 := Lib.hid e2
        clear hP2 e1 e2
        go_wp2
        go_roundw
        case rel => exact ⟨k + 1, _, _, by omega, by go_num, by rw [← E2.out], by rw [← E1.out]; exact hos.set k _, HP2.out, hbe.setCell (by dsimp only; omega) _⟩
        case measure => simp [intOf]; omega
      · have hlb' : decide ((k : Int) < b.length) = false := decide_eq_false (by omega)
        have hP2 := PlusAt.step hP.out ha hb hlt
        rw [nthd_out (l := b) (by omega), Nat.add_zero] at hP2
        have e1 : (((cn + nthd a k) % 4294967296 : Nat) : Int) = ((cn : Int) + nthd a k) % 4294967296 := by omega
        have e2 : (((cn + nthd a k) / 4294967296 : Nat) : Int) = ((cn : Int) + nthd a k) / 4294967296 := by omega
        have HP2 := Lib.hid hP2; have E1 := Lib.hid e1; have E2 := Lib.hid e2
        clear hP2 e1 e2
        go_wp2
        go_roundw
        case rel => exact ⟨k + 1, _, _, by omega, by go_num, by rw [← E2.out], by rw [← E1.out]; exact hos.set k _, HP2.out, hbe.setCell (by dsimp only; omega) _⟩
        case measure => simp [intOf]; omega
    · obtain rfl : k = a.length := by omega
      have c1 := hos.cell a.length (by have := P1.out; omega)
      have f1 := Blk.free hos a.length
      have hd := PlusAt.done hP.out (by omega)
      have HD := Lib.hid hd
      have hcm : (cn : Int) % 4294967296 = cn := by omega
      have hsz := hbe.size
      clear hd
      have htr : ∀ w2, UBlk w2 w.heap.size (os.set a.length cn) → _ := fun w2 h => trim_calls (some ⟨w.heap.size, 0, none⟩) (a.length + 1) (os.set a.length cn) w2 (by simp; have := P1.out; omega) (by unfold maxLen; omega) h.wds
      rw [List.length_set, P1.out] at htr
      have HT := Lib.hid htr
      clear htr
      go_wp2_with fail
      refine (HT.out _ (hos.set a.length cn)).mono ?_; rintro e w3 ⟨n, rfl, hn, ht, rfl⟩
      have hfin := ((hos.set a.length cn).wds).take n
      rw [ht, HD.out] at hfin
      have hnl : n = (digits (val a + val b)).length := by
        rw [← HD.out, ← ht, List.length_take]; simp; have := P1.out; omega
      have HN := Lib.hid hnl
      clear hnl
      go_wp2
      go_ret
      exact ⟨_, rfl, ⟨_, a.length + 1, by rw [← HN.out]; rfl, by rw [← HN.out]; have := P1.out; omega, by omega, hfin⟩, hbe.setCell (by dsimp only; omega) _⟩

theorem plus_calls (v u : Value) (n m : Nat) (w : World) (hn : (digits n).length ≤ 1000000) (hm : (digits m).length ≤ 1000000) (hv : WSl w v n) (hu : WSl w u m) :
    Calls Try.prog 86 #[v, u] w fun e w' => ∃ v, e = .returned v ∧ WSl w' v (n + m) ∧ Below w.heap.size w w' := by
  obtain ⟨A, c, rfl, h1, h2, h3⟩ := hv
  obtain ⟨B, d, rfl, k1, k2, k3⟩ := hu
  by_cases h : (digits m).length ≤ (digits n).length
  · have := plus_loop A B c d (digits n) (digits m) w h (digits_dig n) (digits_dig m) hn h3 k3
    rw [val_digits, val_digits] at this; exact this
  · have := plus_swap B A d c (digits m) (digits n) w (by omega) (digits_dig m) (digits_dig n) hm k3 h3
    rw [val_digits, val_digits, Nat.add_comm m n] at this; exact this
theorem minus_z (v u : Value) (n m : Nat) (w : World) (hn : (digits n).length ≤ 1000000) (hle : m ≤ n) (hv : WSl w v n) (hu : WSl w u m) :
    Calls Try.prog 87 #[v, u] w fun e w' => ∃ v, e = .returned v ∧ WSl w' v (n - m) ∧ Below w.heap.size w w' := by
  obtain ⟨A, c, rfl, h1, h2, h3⟩ := hv
  obtain ⟨B, d, rfl, k1, k2, k3⟩ := hu
  have hl : (digits m).length ≤ (digits n).length := by
    rcases Nat.lt_or_ge (digits n).length (digits m).length with h | h
    · have := digits_len_lt h; omega
    · exact h
  have := minus_calls A B c d (digits n) (digits m) w hl (by rw [val_digits, val_digits]; exact hle) (digits_dig n) (digits_dig m) hn h3 k3
  rw [val_digits, val_digits] at this; exact this

set_option maxHeartbeats 1000000 in
theorem mul64_calls (x y : Nat) (hx : x < 18446744073709551616) (hy : y < 18446744073709551616) (w : World) :
    Calls Try.prog 85 #[.int .u64 x, .int .u64 y] w fun e w' => e = .returned (.tuple #[.int .u64 ((x * y / 18446744073709551616 : Nat) : Int), .int .u64 ((x * y % 18446744073709551616 : Nat) : Int)]) ∧ w' = w := by
  obtain ⟨bd, bt, bw, hhi⟩ := Lib.mul64_hi x y hx hy
  have ba := Lib.half_mul_le (a := x / 4294967296) (b := y / 4294967296) (by omega) (by omega)
  have bb := Lib.half_mul_le (a := x / 4294967296) (b := y % 4294967296) (by omega) (by omega)
  have bc := Lib.half_mul_le (a := x % 4294967296) (b := y / 4294967296) (by omega) (by omega)
  have ba' : x / 4294967296 * (y / 4294967296) < 18446744073709551616 := by omega
  have bb' : x / 4294967296 * (y % 4294967296) < 18446744073709551616 := by omega
  have bc' : x % 4294967296 * (y / 4294967296) < 18446744073709551616 := by omega
  have bh1 : x / 4294967296 * (y / 4294967296) + (x / 4294967296 * (y % 4294967296) + x % 4294967296 * (y % 4294967296) / 4294967296) / 4294967296 < 18446744073709551616 := by omega
  have bh : x / 4294967296 * (y / 4294967296) + (x / 4294967296 * (y % 4294967296) + x % 4294967296 * (y % 4294967296) / 4294967296) / 4294967296 + ((x / 4294967296 * (y % 4294967296) + x % 4294967296 * (y % 4294967296) / 4294967296) % 4294967296 + x % 4294967296 * (y / 4294967296)) / 4294967296 < 18446744073709551616 := by omega
  go_enter Try.func85, Try.ntmps85
  go_wp2
  simp only [Mul64.maskN x hx, Mul64.maskN y hy, Mul64.divN, Mul64.mulN, Mul64.addN, Mul64.wrapN _ bd, Mul64.wrapN _ bb', Mul64.wrapN _ bt, Mul64.maskN _ bt, Mul64.wrapN _ bc', Mul64.wrapN _ bw, Mul64.wrapN _ ba', Mul64.wrapN _ bh1, Mul64.wrapN _ bh, Mul64.wrapM (x * y)]
  rw [hhi]
  go_ret2
  exact ⟨rfl, rfl⟩

theorem digits_four (z : Nat) (h : z / 18446744073709551616 < 18446744073709551616) : trimL [z % 18446744073709551616 % 4294967296, z % 18446744073709551616 / 4294967296, z / 18446744073709551616 % 4294967296, z / 18446744073709551616 / 4294967296] = digits z := by
  rw [trimL_digits (by intro d hd; simp at hd; omega)]
  congr 1; simp [val]; omega

set_option maxHeartbeats 1000000 in
theorem times_small (v u : Value) (n m : Nat) (w : World) (hn : n < 18446744073709551616) (hm : m < 18446744073709551616) (hv : WSl w v n) (hu : WSl w u m) :
    Calls Try.prog 69 #[v, u] w fun e w' => ∃ v, e = .returned v ∧ WSl w' v (n * m) ∧ Below w.heap.size w w' := by
  have hlt : n * m / 18446744073709551616 < 18446744073709551616 := by
    have : n * m ≤ 18446744073709551615 * 18446744073709551615 := Nat.mul_le_mul (by omega) (by omega)
    omega
  have hd := digits_four (n * m) hlt
  have hx := mul64_calls n m hn hm
  have hxs := fun w h => small_yes n v w hn h
  have hys := fun w h => small_yes m u w hm h
  generalize n * m = z at *
  have hb1 : z % 18446744073709551616 < 18446744073709551616 := Nat.mod_lt _ (by omega)
  generalize z % 18446744073709551616 = lo at *
  generalize z / 18446744073709551616 = hi at *
  have hw2 : ∀ w : World, Wds (w.alloc (.cells #[.int .u32 ((lo : Int) % 4294967296), .int .u32 ((lo : Int) / 4294967296), .int .u32 ((hi : Int) % 4294967296), .int .u32 ((hi : Int) / 4294967296)] 120 (0, 0))) (some ⟨w.heap.size, 0, none⟩) [lo % 4294967296, lo / 4294967296, hi % 4294967296, hi / 4294967296] := fun w => wds_new w [lo % 4294967296, lo / 4294967296, hi % 4294967296, hi / 4294967296] _ rfl
  have HD := Lib.hid hd; have HX := Lib.hid hx; have HXS := Lib.hid hxs; have HYS := Lib.hid hys
  clear hd hx hxs hys
  have hv0 := hv
  have hu0 := hu
  obtain ⟨A, c, rfl, -, -, -⟩ := hv0
  obtain ⟨B, d, rfl, -, -, -⟩ := hu0
  go_enter Try.func69, Try.ntmps69
  go_wp2_with fail
  refine (HXS.out _ hv).mono ?_; rintro e w1 ⟨rfl, k1, rfl⟩
  go_wp2_with fail
  refine (HYS.out _ (hu.ext (drewN_below _ _))).mono ?_; rintro e w1 ⟨rfl, k2, rfl⟩
  go_wp2_with fail
  refine (HX.out _).mono ?_; rintro e w1 ⟨rfl, rfl⟩
  go_wp2_with fail
  have hws := hw2 (w.drewN (k1 + k2))
  rw [show (w.drewN (k1 + k2)).heap.size = w.heap.size from rfl] at hws
  have hbe := (drewN_below w (k1 + k2)).alloc (show w.heap.size ≤ w.heap.size from Nat.le_refl _) (.cells #[.int .u32 ((lo : Int) % 4294967296), .int .u32 ((lo : Int) / 4294967296), .int .u32 ((hi : Int) % 4294967296), .int .u32 ((hi : Int) / 4294967296)] 120 (0, 0))
  have HBE := Lib.hid hbe
  clear hbe
  refine (trim_calls _ 4 [lo % 4294967296, lo / 4294967296, hi % 4294967296, hi / 4294967296] _ (by simp) (by unfold maxLen; omega) hws).mono ?_; rintro e w1 ⟨k, rfl, hk, ht, rfl⟩
  have hw3 := hws.take k
  rw [ht, HD.out] at hw3
  have hl : k = (digits z).length := by rw [← HD.out, ← ht, List.length_take]; omega
  have HL := Lib.hid hl
  have hkc : k ≤ 4 := by simpa using hk
  clear ht hk hl hws hw2
  go_wp2
  go_ret
  exact ⟨_, rfl, ⟨_, 4, by rw [← HL.out]; rfl, by rw [← HL.out]; exact hkc, by omega, hw3⟩, HBE.out⟩
end Go.Proofs.Ytbdlfjhhgnhejaa
