/- Package big: minus on digits; plus of any two. -/
import Derived.Test.YtbdlfjhhgnhejaaBigD
namespace Go.Proofs.Ytbdlfjhhgnhejaa
open Go.RowKit
set_option linter.unusedVariables false
set_option linter.unusedSimpArgs false

/-- The difference's digits and borrow behind k steps. -/
def MinAt (a b os : List Nat) (k c : Nat) : Prop := os.length = a.length ∧ Dig os ∧ c ≤ 1 ∧ val (os.take k) + val (b.take k) = val (a.take k) + 4294967296 ^ k * c
/-- The digit and the borrow of one place. -/
def mdig (x y c : Nat) : Nat := (x + 4294967296 * (if x < y + c then 1 else 0)) - (y + c)
def mbor (x y c : Nat) : Nat := if x < y + c then 1 else 0
theorem MinAt.step {a b os : List Nat} {k c : Nat} (h : MinAt a b os k c) (ha : Dig a) (hb : Dig b) (hk : k < a.length) :
    MinAt a b (os.set k (mdig (nthd a k) (nthd b k) c)) (k + 1) (mbor (nthd a k) (nthd b k) c) := by
  obtain ⟨h1, h2, h3, h4⟩ := h
  have x := ha.nth k; have y := hb.nth k
  have e : mdig (nthd a k) (nthd b k) c + nthd b k + c = nthd a k + 4294967296 * mbor (nthd a k) (nthd b k) c := by
    unfold mdig mbor; split <;> omega
  refine ⟨by simpa using h1, h2.set _ (by unfold mdig; split <;> omega), by unfold mbor; split <;> omega, ?_⟩
  rw [val_set_succ (by omega), val_take_succ, val_take_succ, Nat.pow_succ]
  generalize 4294967296 ^ k = P at *
  generalize mdig (nthd a k) (nthd b k) c = d at *
  generalize mbor (nthd a k) (nthd b k) c = r at *
  have e2 : P * d + P * nthd b k + P * c = P * nthd a k + P * 4294967296 * r := by
    rw [← Nat.mul_add, ← Nat.mul_add, e, Nat.mul_add, Nat.mul_assoc]
  omega
theorem MinAt.done {a b os : List Nat} {c : Nat} (h : MinAt a b os a.length c) (ha : Dig a) (hl : b.length ≤ a.length) (hv : val b ≤ val a) : trimL os = digits (val a - val b) := by
  obtain ⟨h1, h2, h3, h4⟩ := h
  rw [trimL_digits h2]
  rw [List.take_length, List.take_of_length_le hl, ← h1, List.take_length, h1] at h4
  have hlt := val_lt h2
  rw [h1] at hlt
  have hc : c = 0 := by
    rcases Nat.lt_or_ge 0 c with h | h
    · have : c = 1 := by omega
      subst this; omega
    · omega
  subst hc
  congr 1; omega

theorem mbor_w {x y c : Nat} (hx : x < 4294967296) (hy : y < 4294967296) (hc : c ≤ 1) : IntKind.u64.wrap (IntKind.u64.wrap ((x : Int) - c) - y) / 9223372036854775808 = ((mbor x y c : Nat) : Int) := by
  rw [IntKind.wrap_u64, IntKind.wrap_u64]; unfold mbor; split <;> omega
theorem mdig_w {x y c : Nat} (hx : x < 4294967296) (hy : y < 4294967296) (hc : c ≤ 1) : IntKind.u64.wrap (IntKind.u64.wrap ((x : Int) - c) - y) % 4294967296 = ((mdig x y c : Nat) : Int) := by
  rw [IntKind.wrap_u64, IntKind.wrap_u64]; unfold mdig; split <;> omega
theorem mbor_z {x c : Nat} (hx : x < 4294967296) (hc : c ≤ 1) : IntKind.u64.wrap ((x : Int) - c) / 9223372036854775808 = ((mbor x 0 c : Nat) : Int) := by
  rw [IntKind.wrap_u64]; unfold mbor; split <;> omega
theorem mdig_z {x c : Nat} (hx : x < 4294967296) (hc : c ≤ 1) : IntKind.u64.wrap ((x : Int) - c) % 4294967296 = ((mdig x 0 c : Nat) : Int) := by
  rw [IntKind.wrap_u64]; unfold mdig; split <;> omega

set_option maxRecDepth 100000 in
set_option maxHeartbeats 2000000 in
theorem minus_calls (A B : Option Addr) (ca cb : Nat) (a b : List Nat) (w : World) (hl : b.length ≤ a.length) (hv : val b ≤ val a) (ha : Dig a) (hb : Dig b) (hm : a.length ≤ 1000000) (hA : Wds w A a) (hB : Wds w B b) :
    Calls Try.prog 87 #[.slice A a.length ca, .slice B b.length cb] w fun e w' => ∃ v, e = .returned v ∧ WSl w' v (val a - val b) ∧ Below w.heap.size w w' := by
  have hmk := fun w => run_makeU32 w a.length (by omega)
  go_enter Try.func87, Try.ntmps87
  go_wp2
  go_loopw [6, 7, 8, 14] (fun c _ _ i wr => ∃ (k cn : Nat) (os : List Nat), k ≤ a.length ∧ i = .int .i64 k ∧ c = .int .u64 cn ∧ UBlk wr w.heap.size os ∧ MinAt a b os k cn ∧ Below w.heap.size w wr) (fun _ _ _ i _ => a.length - (intOf i).toNat)
  case atStart => exact ⟨0, 0, List.replicate a.length 0, Nat.zero_le _, rfl, rfl, UBlk.made _ _ _ rfl, ⟨by simp, Dig.zeros _, by omega, by simp [val]⟩, (Below.refl _ _).alloc (Nat.le_refl _) _⟩
  case round =>
    obtain ⟨k, cn, os, hk, rfl, rfl, hos, hp, hbe⟩ := hrel
    obtain ⟨p1, p2, p3, p4⟩ := id hp
    have hP := Lib.hid hp; have P1 := Lib.hid p1
    clear hp p1 p4
    by_cases hlt : k < a.length
    · obtain ⟨bA, oA, rfl, gA⟩ := (hA.ext hbe) k hlt
      have xa := ha.nth k
      have c1 := hos.cell k (by have := P1.out; omega)
      have f1 := Blk.free hos k
      by_cases hlb : k < b.length
      · obtain ⟨bB, oB, rfl, gB⟩ := (hB.ext hbe) k hlb
        have xb := hb.nth k
        have hP2 := MinAt.step hP.out ha hb hlt
        have HP2 := Lib.hid hP2
        clear hP2
        go_wp2
        go_roundw
        case rel =>
          refine ⟨k + 1, mbor (nthd a k) (nthd b k) cn, _, by omega, by go_num, ?_, ?_, HP2.out, ?_⟩
          · rw [mbor_w xa xb p3]
          · rw [mdig_w xa xb p3]; exact hos.set k _
          · exact hbe.setCell (by dsimp only; omega) _
        case measure => simp [intOf]; omega
      · have hlb' : decide ((k : Int) < b.length) = false := decide_eq_false (by omega)
        have hP2 := MinAt.step hP.out ha hb hlt
        rw [nthd_out (l := b) (by omega)] at hP2
        have HP2 := Lib.hid hP2
        clear hP2
        go_wp2
        go_roundw
        case rel =>
          refine ⟨k + 1, mbor (nthd a k) 0 cn, _, by omega, by go_num, ?_, ?_, HP2.out, ?_⟩
          · rw [mbor_z xa p3]
          · rw [mdig_z xa p3]; exact hos.set k _
          · exact hbe.setCell (by dsimp only; omega) _
        case measure => simp [intOf]; omega
    · obtain rfl : k = a.length := by omega
      have hd := MinAt.done hP.out ha hl hv
      have HD := Lib.hid hd
      clear hd
      have htr := trim_calls (some ⟨w.heap.size, 0, none⟩) a.length os wr (by have := P1.out; omega) (by unfold maxLen; omega) hos.wds
      rw [P1.out] at htr
      have HT := Lib.hid htr
      clear htr
      go_wp2_with fail
      refine (HT.out).mono ?_; rintro e w3 ⟨n, rfl, hn, ht, rfl⟩
      have hfin := (hos.wds).take n
      rw [ht, HD.out] at hfin
      have hnl : n = (digits (val a - val b)).length := by
        rw [← HD.out, ← ht, List.length_take]; have := P1.out; omega
      have HN := Lib.hid hnl
      clear hnl
      go_wp2
      go_ret
      exact ⟨_, rfl, ⟨_, a.length, by rw [← HN.out]; rfl, by rw [← HN.out]; have := P1.out; omega, by omega, hfin⟩, hbe⟩
end Go.Proofs.Ytbdlfjhhgnhejaa
