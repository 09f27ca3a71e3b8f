/- The reference's whole numbers: subD. -/
import Derived.Test.YtbdlfjhhgnhejaaRC
namespace Go.Proofs.Ytbdlfjhhgnhejaa
open Go.RowKit
set_option linter.unusedVariables false
set_option linter.unusedSimpArgs false

/-- The digit and the borrow of one place. -/
def sdig (x y c : Nat) : Nat := (x + 10000 * (if x < y + c then 1 else 0)) - (y + c)
def sbor (x y c : Nat) : Nat := if x < y + c then 1 else 0
/-- The difference's digits and borrow behind k places. -/
structure SubAt (a b ds : List Nat) (k c : Nat) : Prop where
  len : ds.length = k
  dig : T.Dig ds
  c1 : c ≤ 1
  val : T.val ds + T.val (b.take k) = T.val (a.take k) + 10000 ^ k * c
theorem SubAt.step {a b ds : List Nat} {k c : Nat} (h : SubAt a b ds k c) (ha : T.Dig a) (hb : T.Dig b) : SubAt a b (ds ++ [sdig (nthd a k) (nthd b k) c]) (k + 1) (sbor (nthd a k) (nthd b k) c) := by
  have x : nthd a k < 10000 := ha.nth k
  have y : nthd b k < 10000 := hb.nth k
  have hc := h.c1
  have e : sdig (nthd a k) (nthd b k) c + nthd b k + c = nthd a k + 10000 * sbor (nthd a k) (nthd b k) c := by
    unfold sdig sbor; split <;> omega
  have hd : sdig (nthd a k) (nthd b k) c < 10000 := by unfold sdig; split <;> omega
  refine ⟨by rw [List.length_append, h.len]; rfl, fun d hd2 => ?_, by unfold sbor; split <;> omega, ?_⟩
  · rcases List.mem_append.1 hd2 with h1 | h1
    · exact h.dig d h1
    · rw [List.mem_singleton.1 h1]; exact hd
  · have hv := h.val
    rw [T.val_append, h.len, rval_take, rval_take, Nat.pow_succ]
    have e1 : T.val [sdig (nthd a k) (nthd b k) c] = sdig (nthd a k) (nthd b k) c := by simp [T.val]
    rw [e1]
    generalize sdig (nthd a k) (nthd b k) c = d at *
    generalize sbor (nthd a k) (nthd b k) c = r at *
    generalize nthd a k = p at *
    generalize nthd b k = q at *
    generalize 10000 ^ k = P at *
    have e2 : P * d + P * q + P * c = P * p + P * 10000 * r := by
      rw [← Nat.mul_add, ← Nat.mul_add, e, Nat.mul_add, Nat.mul_assoc]
    omega
theorem SubAt.done {a b ds : List Nat} {c : Nat} (h : SubAt a b ds a.length c) (hl : b.length ≤ a.length) (hv : T.val b ≤ T.val a) : T.trimL ds = T.digits (T.val a - T.val b) := by
  rw [T.trimL_digits h.dig]
  have h4 := h.val
  rw [List.take_length, List.take_of_length_le hl] at h4
  have hlt := T.val_lt h.dig
  rw [h.len] at hlt
  have hc1 := h.c1
  have hc : c = 0 := by
    rcases Nat.lt_or_ge 0 c with h0 | h0
    · have : c = 1 := by omega
      subst this; omega
    · omega
  subst hc
  congr 1; omega

set_option maxRecDepth 100000 in
set_option maxHeartbeats 2000000 in
theorem rsubD_calls (A B : Option Addr) (ca cb : Nat) (a b : List Nat) (w : World) (ha : T.Dig a) (hb : T.Dig b) (hla : a.length ≤ 900000) (hl : b.length ≤ a.length) (hv : T.val b ≤ T.val a) (hA : Rds w A a) (hB : Rds w B b) :
    Calls Try.prog 90 #[.slice A a.length ca, .slice B b.length cb] w fun e w' => ∃ v, e = .returned v ∧ OwnD w' w.heap.size v (T.digits (T.val a - T.val b)) ∧ Below w.heap.size w w' := by
  go_enter Try.func90, Try.ntmps90
  go_wp2
  go_loopw [5, 6, 7, 8] (fun v c i _ wr => ∃ (k cn : Nat) (ds : List Nat), k ≤ a.length ∧ i = .int .i64 k ∧ c = .int .i64 cn ∧ OwnD wr w.heap.size v ds ∧ SubAt a b ds k cn ∧ Below w.heap.size w wr) (fun _ _ i _ _ => a.length - (intOf i).toNat)
  case atStart => exact ⟨0, 0, [], Nat.zero_le _, rfl, rfl, OwnD.nil _ _, ⟨rfl, fun d hd => by simp at hd, by omega, by simp [T.val]⟩, Below.refl _ _⟩
  case round =>
    obtain ⟨k, cn, ds, hk, rfl, rfl, hown, hat, hbe⟩ := hrel
    have hc1 := hat.c1
    have hdl : ds.length ≤ 1000000 := by rw [hat.len]; omega
    have hbs := hbe.size
    have HAT := Lib.hid hat; have HB := Lib.hid hbe
    have hA' := hA.ext hbe; have hB' := hB.ext hbe
    clear hat hbe
    by_cases h1 : k < a.length
    · obtain ⟨b1, o1, rfl, g1⟩ := hA' k h1
      have x : nthd a k < 10000 := ha.nth k
      have hs := HAT.out.step ha hb
      by_cases h2 : k < b.length
      · obtain ⟨b2, o2, rfl, g2⟩ := hB' k h2
        have y : nthd b k < 10000 := hb.nth k
        have h3 : (k : Int) < a.length := by omega
        have h4 : (k : Int) < b.length := by omega
        by_cases hlt : nthd a k < nthd b k + cn
        · have e1 : sbor (nthd a k) (nthd b k) cn = 1 := by unfold sbor; rw [if_pos hlt]
          rw [e1] at hs
          have HS := Lib.hid hs
          have HM : Hid ((nthd a k : Int) - cn - nthd b k + 10000 = (sdig (nthd a k) (nthd b k) cn : Nat)) := Lib.hid (by unfold sdig; rw [if_pos hlt]; omega)
          have q1 : decide ((nthd a k : Int) - cn - nthd b k < 0) = true := decide_eq_true (by omega)
          clear hA' hB' HAT hs e1
          go_wp2_with (at_builtin; refine wp_snoc rfl _ _ rfl rfl rfl hown HM.out (by omega) (by omega) ?_)
          intro v' w1 ho hb2
          have HB2 := Lib.hid (hb2.out _ _ HB.out (Nat.le_refl _))
          clear hown hb2 HB hbs
          go_wp2
          go_roundw
          case rel => exact ⟨k + 1, 1, _, by omega, by go_num, rfl, ho.out, HS.out, HB2.out⟩
          case measure => simp [intOf]; omega
        · have e1 : sbor (nthd a k) (nthd b k) cn = 0 := by unfold sbor; rw [if_neg hlt]
          rw [e1] at hs
          have HS := Lib.hid hs
          have HM : Hid ((nthd a k : Int) - cn - nthd b k = (sdig (nthd a k) (nthd b k) cn : Nat)) := Lib.hid (by unfold sdig; rw [if_neg hlt]; omega)
          have q1 : decide ((nthd a k : Int) - cn - nthd b k < 0) = false := decide_eq_false (by omega)
          clear hA' hB' HAT hs e1
          go_wp2_with (at_builtin; refine wp_snoc rfl _ _ rfl rfl rfl hown HM.out (by omega) (by omega) ?_)
          intro v' w1 ho hb2
          have HB2 := Lib.hid (hb2.out _ _ HB.out (Nat.le_refl _))
          clear hown hb2 HB hbs
          go_wp2
          go_roundw
          case rel => exact ⟨k + 1, 0, _, by omega, by go_num, rfl, ho.out, HS.out, HB2.out⟩
          case measure => simp [intOf]; omega
      · have h3 : (k : Int) < a.length := by omega
        rw [rdig_out (l := b) (by omega)] at hs
        by_cases hlt : nthd a k < 0 + cn
        · have e1 : sbor (nthd a k) 0 cn = 1 := by unfold sbor; rw [if_pos hlt]
          rw [e1] at hs
          have HS := Lib.hid hs
          have HM : Hid ((nthd a k : Int) - cn + 10000 = (sdig (nthd a k) 0 cn : Nat)) := Lib.hid (by unfold sdig; rw [if_pos hlt]; omega)
          have q1 : decide ((nthd a k : Int) - cn < 0) = true := decide_eq_true (by omega)
          clear hA' hB' HAT hs e1
          go_wp2_with (at_builtin; refine wp_snoc rfl _ _ rfl rfl rfl hown HM.out (by omega) (by omega) ?_)
          intro v' w1 ho hb2
          have HB2 := Lib.hid (hb2.out _ _ HB.out (Nat.le_refl _))
          clear hown hb2 HB hbs
          go_wp2
          go_roundw
          case rel => exact ⟨k + 1, 1, _, by omega, by go_num, rfl, ho.out, HS.out, HB2.out⟩
          case measure => simp [intOf]; omega
        · have e1 : sbor (nthd a k) 0 cn = 0 := by unfold sbor; rw [if_neg hlt]
          rw [e1] at hs
          have HS := Lib.hid hs
          have HM : Hid ((nthd a k : Int) - cn = (sdig (nthd a k) 0 cn : Nat)) := Lib.hid (by unfold sdig; rw [if_neg hlt]; omega)
          have q1 : decide ((nthd a k : Int) - cn < 0) = false := decide_eq_false (by omega)
          clear hA' hB' HAT hs e1
          go_wp2_with (at_builtin; refine wp_snoc rfl _ _ rfl rfl rfl hown HM.out (by omega) (by omega) ?_)
          intro v' w1 ho hb2
          have HB2 := Lib.hid (hb2.out _ _ HB.out (Nat.le_refl _))
          clear hown hb2 HB hbs
          go_wp2
          go_roundw
          case rel => exact ⟨k + 1, 0, _, by omega, by go_num, rfl, ho.out, HS.out, HB2.out⟩
          case measure => simp [intOf]; omega
    · obtain rfl : k = a.length := by omega
      obtain ⟨A2, c2, rfl, -, -, hR⟩ := hown.rsl
      have htr := rtrim_calls A2 c2 ds wr hdl hR
      rw [HAT.out.done hl hv] at htr
      have HT := Lib.hid htr
      clear hA' hB' HAT hown hR htr
      go_wp2_with fail
      refine HT.out.mono ?_; rintro e w1 ⟨v, rfl, ho, hb1⟩
      have HO := Lib.hid ho; have HB1 := Lib.hid (HB.out.trans (hb1.mono hbs))
      clear ho hb1 HT
      go_wp2
      go_ret
      exact ⟨v, rfl, HO.out.mono hbs, HB1.out⟩
end Go.Proofs.Ytbdlfjhhgnhejaa
