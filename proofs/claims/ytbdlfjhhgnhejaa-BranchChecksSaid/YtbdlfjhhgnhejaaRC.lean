/- The reference's whole numbers: cmpD, addD, subD. -/
import Derived.Test.YtbdlfjhhgnhejaaRB
namespace Go.Proofs.Ytbdlfjhhgnhejaa
open Go.RowKit
set_option linter.unusedVariables false
set_option linter.unusedSimpArgs false

set_option maxHeartbeats 1000000 in
theorem rcmpD_calls (A B : Option Addr) (ca cb : Nat) (n m : Nat) (w : World) (hn : (T.digits n).length ≤ maxLen) (hm : (T.digits m).length ≤ maxLen) (hA : Rds w A (T.digits n)) (hB : Rds w B (T.digits m)) :
    Calls Try.prog 76 #[.slice A (T.digits n).length ca, .slice B (T.digits m).length cb] w fun e w' => e = .returned (.int .i64 (sgn n m)) ∧ ∃ k, w' = w.drewN k := by
  unfold maxLen at hn hm
  by_cases hl : (T.digits n).length < (T.digits m).length
  · have hlt := T.digits_len_lt hl
    have d1 : decide ((T.digits n).length < (T.digits m).length) = true := decide_eq_true (by omega)
    go_enter Try.func76, Try.ntmps76
    go_wp2
    go_ret
    exact ⟨by rw [sgn_lt hlt]; rfl, 0, rfl⟩
  · have d1 : decide ((T.digits n).length < (T.digits m).length) = false := decide_eq_false (by omega)
    by_cases hg : (T.digits m).length < (T.digits n).length
    · have hlt := T.digits_len_lt hg
      have d2 : decide ((T.digits m).length < (T.digits n).length) = true := decide_eq_true (by omega)
      go_enter Try.func76, Try.ntmps76
      go_wp2
      go_ret
      exact ⟨by rw [sgn_gt hlt]; rfl, 0, rfl⟩
    · have d2 : decide ((T.digits m).length < (T.digits n).length) = false := decide_eq_false (by omega)
      have he : (T.digits n).length = (T.digits m).length := by omega
      have HE := Lib.hid he; clear he hl hg
      go_enter Try.func76, Try.ntmps76
      go_wp2
      go_loopw [5] (fun i wr => ∃ j k : Nat, j ≤ (T.digits n).length ∧ i = .int .i64 ((j : Int) - 1) ∧ (T.digits n).drop j = (T.digits m).drop j ∧ wr = w.drewN k) (fun i _ => (intOf i + 1).toNat)
      case atStart => exact ⟨(T.digits n).length, 0, Nat.le_refl _, rfl, by rw [List.drop_length, HE.out, List.drop_length], rfl⟩
      case round =>
        obtain ⟨j, k, hj, rfl, hdr, rfl⟩ := hrel
        have HD := Lib.hid hdr; clear hdr
        cases j with
        | zero =>
          rw [show ((0 : Nat) : Int) - 1 = -1 from rfl]
          have hnm : n = m := by
            have := HD.out
            rw [List.drop_zero, List.drop_zero] at this
            rw [← T.val_digits n, this, T.val_digits]
          have HN := Lib.hid hnm; clear hnm
          go_wp2
          go_ret
          exact ⟨by rw [sgn_eq HN.out]; rfl, _, rfl⟩
        | succ j =>
          rw [show ((j + 1 : Nat) : Int) - 1 = j from by omega]
          obtain ⟨b1, o1, rfl, g1⟩ := hA j (by omega)
          obtain ⟨b2, o2, rfl, g2⟩ := hB j (by have := HE.out; omega)
          have hj0 : (0 : Int) ≤ j := by omega
          have hj1 : (j : Int) < (T.digits n).length := by omega
          have hj2 : (j : Int) < (T.digits m).length := by have := HE.out; omega
          have hdn : (T.digits n).drop j = nthd (T.digits n) j :: (T.digits n).drop (j + 1) := T.drop_nthd (by omega)
          have hdm : (T.digits m).drop j = nthd (T.digits m) j :: (T.digits m).drop (j + 1) := T.drop_nthd (by omega)
          have HDN := Lib.hid hdn; have HDM := Lib.hid hdm
          clear hdn hdm
          have hcase : (nthd (T.digits n) j < nthd (T.digits m) j ∧ sgn n m = -1) ∨ (nthd (T.digits m) j < nthd (T.digits n) j ∧ sgn n m = 1) ∨ (nthd (T.digits n) j = nthd (T.digits m) j ∧ (T.digits n).drop j = (T.digits m).drop j) := by
            rcases Nat.lt_trichotomy (nthd (T.digits n) j) (nthd (T.digits m) j) with h | h | h
            · have := T.val_lt_of (T.digits_dig n) HE.out (by omega) HD.out h
              rw [T.val_digits, T.val_digits] at this
              exact .inl ⟨h, sgn_lt this⟩
            · exact .inr (.inr ⟨h, by rw [HDN.out, HDM.out, h, HD.out]⟩)
            · have := T.val_lt_of (T.digits_dig m) HE.out.symm (by have := HE.out; omega) HD.out.symm h
              rw [T.val_digits, T.val_digits] at this
              exact .inr (.inl ⟨h, sgn_gt this⟩)
          clear HDN HDM HD
          generalize nthd (T.digits n) j = x at *
          generalize nthd (T.digits m) j = y at *
          rcases hcase with ⟨h, hs⟩ | ⟨h, hs⟩ | ⟨rfl, hs⟩
          · have q1 : decide (x < y) = true := decide_eq_true (by omega)
            have HS := Lib.hid hs; clear hs h
            go_wp2_with fail
            go_quiet (fail)
            go_wp2
            go_ret
            exact ⟨by rw [HS.out]; rfl, _, by first | rfl | exact drewN_add _ _ _ | rw [drewN_add, drewN_add]⟩
          · have q1 : decide (x < y) = false := decide_eq_false (by omega)
            have q2 : decide (y < x) = true := decide_eq_true (by omega)
            have HS := Lib.hid hs; clear hs h
            go_wp2_with fail
            go_quiet (fail)
            go_wp2_with fail
            go_quiet (fail)
            go_wp2
            go_ret
            exact ⟨by rw [HS.out]; rfl, _, by first | rfl | exact drewN_add _ _ _ | rw [drewN_add, drewN_add]⟩
          · have q1 : decide (x < x) = false := decide_eq_false (by omega)
            have HS := Lib.hid hs; clear hs
            go_wp2_with fail
            go_quiet (fail)
            go_wp2_with fail
            go_quiet (fail)
            go_wp2
            go_roundw
            case rel => exact ⟨j, _, by omega, rfl, HS.out, by first | rfl | exact drewN_add _ _ _ | rw [drewN_add, drewN_add]⟩
            case measure => simp [intOf]

/-- The sum's digits and carry behind k places. -/
structure AddAt (a b ds : List Nat) (k c : Nat) : Prop where
  len : ds.length = k
  dig : T.Dig ds
  c1 : c ≤ 1
  val : T.val ds + 10000 ^ k * c = T.val (a.take k) + T.val (b.take k)
  le : k ≤ max a.length b.length ∨ (k = max a.length b.length + 1 ∧ c = 0)
theorem rval_take (l : List Nat) (k : Nat) : T.val (l.take (k + 1)) = T.val (l.take k) + 10000 ^ k * nthd l k := by
  by_cases h : k < l.length
  · have e : l.take (k + 1) = l.take k ++ [nthd l k] := T.take_nthd h
    rw [e, T.val_append, List.length_take, Nat.min_eq_left (by omega)]; simp [T.val]
  · have e : nthd l k = 0 := by unfold nthd; rw [List.getD_eq_getElem?_getD, List.getElem?_eq_none (by omega)]; rfl
    rw [e, List.take_of_length_le (by omega), List.take_of_length_le (by omega)]; simp
theorem rdig_out {l : List Nat} {k : Nat} (h : l.length ≤ k) : nthd l k = 0 := by unfold nthd; rw [List.getD_eq_getElem?_getD, List.getElem?_eq_none h]; rfl
theorem AddAt.step {a b ds : List Nat} {k c : Nat} (h : AddAt a b ds k c) (ha : T.Dig a) (hb : T.Dig b) (hk : k < a.length ∨ k < b.length ∨ 0 < c) :
    AddAt a b (ds ++ [(c + nthd a k + nthd b k) % 10000]) (k + 1) ((c + nthd a k + nthd b k) / 10000) := by
  have x : nthd a k < 10000 := ha.nth k
  have y : nthd b k < 10000 := hb.nth k
  have hc := h.c1
  refine ⟨by rw [List.length_append, h.len]; rfl, dig_snoc h.dig _, by omega, ?_, ?_⟩
  · have hv := h.val
    rw [T.val_append, h.len, rval_take, rval_take, Nat.pow_succ]
    generalize nthd a k = p at *
    generalize nthd b k = q at *
    generalize 10000 ^ k = P at *
    have e : T.val [(c + p + q) % 10000] + 10000 * ((c + p + q) / 10000) = c + p + q := by simp [T.val]; omega
    have e2 : P * T.val [(c + p + q) % 10000] + P * 10000 * ((c + p + q) / 10000) = P * c + P * p + P * q := by
      rw [Nat.mul_assoc, ← Nat.mul_add, e, Nat.mul_add, Nat.mul_add]
    omega
  · rcases h.le with h1 | ⟨h1, h2⟩
    · rcases Nat.lt_or_ge k (max a.length b.length) with h3 | h3
      · exact .inl (by omega)
      · have h4 : k = max a.length b.length := by omega
        exact .inr ⟨by omega, by rw [rdig_out (l := a) (by omega), rdig_out (l := b) (by omega)]; omega⟩
    · exfalso; omega
theorem AddAt.done {a b ds : List Nat} {k c : Nat} (h : AddAt a b ds k c) (hk : ¬ (k < a.length ∨ k < b.length ∨ 0 < c)) : T.val ds = T.val a + T.val b := by
  have hv := h.val
  rw [List.take_of_length_le (by omega), List.take_of_length_le (by omega), show c = 0 by omega] at hv
  omega

set_option maxRecDepth 100000 in
set_option maxHeartbeats 2000000 in
theorem raddD_calls (A B : Option Addr) (ca cb : Nat) (a b : List Nat) (w : World) (ha : T.Dig a) (hb : T.Dig b) (hla : a.length ≤ 900000) (hlb : b.length ≤ 900000) (hA : Rds w A a) (hB : Rds w B b) :
    Calls Try.prog 89 #[.slice A a.length ca, .slice B b.length cb] w fun e w' => ∃ v ds, e = .returned v ∧ OwnD w' w.heap.size v ds ∧ T.Dig ds ∧ T.val ds = T.val a + T.val b ∧ ds.length ≤ max a.length b.length + 1 ∧ Below w.heap.size w w' := by
  go_enter Try.func89, Try.ntmps89
  go_wp2
  go_loopw [5, 6, 7, 8] (fun v c i _ wr => ∃ (k cn : Nat) (ds : List Nat), i = .int .i64 k ∧ c = .int .i64 cn ∧ OwnD wr w.heap.size v ds ∧ AddAt a b ds k cn ∧ Below w.heap.size w wr) (fun _ _ i _ _ => max a.length b.length + 1 - (intOf i).toNat)
  case atStart => exact ⟨0, 0, [], rfl, rfl, OwnD.nil _ _, ⟨rfl, fun d hd => by simp at hd, by omega, by simp [T.val], .inl (by omega)⟩, Below.refl _ _⟩
  case round =>
    obtain ⟨k, cn, ds, rfl, rfl, hown, hat, hbe⟩ := hrel
    have hc1 := hat.c1
    have hkm : k ≤ max a.length b.length + 1 := by rcases hat.le with h | h <;> omega
    have hdl : ds.length ≤ 1000000 := by rw [hat.len]; omega
    have hbs := hbe.size
    have HAT := Lib.hid hat; have HB := Lib.hid hbe
    have hA' := hA.ext hbe; have hB' := hB.ext hbe
    clear hat hbe
    by_cases h1 : k < a.length
    · obtain ⟨b1, o1, rfl, g1⟩ := hA' k h1
      have x : nthd a k < 10000 := ha.nth k
      by_cases h2 : k < b.length
      · obtain ⟨b2, o2, rfl, g2⟩ := hB' k h2
        have y : nthd b k < 10000 := hb.nth k
        have hs := Lib.hid (HAT.out.step ha hb (.inl h1))
        have HM : Hid (((cn : Int) + nthd a k + nthd b k) % 10000 = ((cn + nthd a k + nthd b k) % 10000 : Nat)) := Lib.hid (by omega)
        have HD : Hid (((cn : Int) + nthd a k + nthd b k) / 10000 = ((cn + nthd a k + nthd b k) / 10000 : Nat)) := Lib.hid (by omega)
        have h3 : (k : Int) < a.length := by omega
        have h4 : (k : Int) < b.length := by omega
        clear hA' hB' HAT
        go_wp2_with (at_builtin; refine wp_snoc rfl _ _ rfl rfl rfl hown HM.out (by omega) (by omega) ?_)
        intro v' w1 ho hb2
        have HB2 := Lib.hid (hb2.out _ _ HB.out (Nat.le_refl _))
        clear hown hb2 HB hbs
        go_wp2
        go_roundw
        case rel => exact ⟨k + 1, _, _, by go_num, by rw [HD.out], ho.out, hs.out, HB2.out⟩
        case measure => simp [intOf]; omega
      · have hs := HAT.out.step ha hb (.inl h1)
        rw [rdig_out (l := b) (by omega), Nat.add_zero] at hs
        have HS := Lib.hid hs
        have HM : Hid (((cn : Int) + nthd a k) % 10000 = ((cn + nthd a k) % 10000 : Nat)) := Lib.hid (by omega)
        have HD : Hid (((cn : Int) + nthd a k) / 10000 = ((cn + nthd a k) / 10000 : Nat)) := Lib.hid (by omega)
        have h3 : (k : Int) < a.length := by omega
        have h4 : decide (k < b.length) = false := decide_eq_false (by omega)
        clear hA' hB' HAT hs
        go_wp2_with (at_builtin; refine wp_snoc rfl _ _ rfl rfl rfl hown HM.out (by omega) (by omega) ?_)
        intro v' w1 ho hb2
        have HB2 := Lib.hid (hb2.out _ _ HB.out (Nat.le_refl _))
        clear hown hb2 HB hbs
        go_wp2
        go_roundw
        case rel => exact ⟨k + 1, _, _, by go_num, by rw [HD.out], ho.out, HS.out, HB2.out⟩
        case measure => simp [intOf]; omega
    · have h3 : decide (k < a.length) = false := decide_eq_false (by omega)
      by_cases h2 : k < b.length
      · obtain ⟨b2, o2, rfl, g2⟩ := hB' k h2
        have y : nthd b k < 10000 := hb.nth k
        have hs := HAT.out.step ha hb (.inr (.inl h2))
        rw [rdig_out (l := a) (by omega), Nat.add_zero] at hs
        have HS := Lib.hid hs
        have HM : Hid (((cn : Int) + nthd b k) % 10000 = ((cn + nthd b k) % 10000 : Nat)) := Lib.hid (by omega)
        have HD : Hid (((cn : Int) + nthd b k) / 10000 = ((cn + nthd b k) / 10000 : Nat)) := Lib.hid (by omega)
        have h4 : (k : Int) < b.length := by omega
        clear hA' hB' HAT hs
        go_wp2_with (at_builtin; refine wp_snoc rfl _ _ rfl rfl rfl hown HM.out (by omega) (by omega) ?_)
        intro v' w1 ho hb2
        have HB2 := Lib.hid (hb2.out _ _ HB.out (Nat.le_refl _))
        clear hown hb2 HB hbs
        go_wp2
        go_roundw
        case rel => exact ⟨k + 1, _, _, by go_num, by rw [HD.out], ho.out, HS.out, HB2.out⟩
        case measure => simp [intOf]; omega
      · have h4 : decide (k < b.length) = false := decide_eq_false (by omega)
        by_cases h5 : 0 < cn
        · have hs := HAT.out.step ha hb (.inr (.inr h5))
          rw [rdig_out (l := a) (by omega), rdig_out (l := b) (by omega), Nat.add_zero, Nat.add_zero] at hs
          have HS := Lib.hid hs
          have hkm2 : k ≤ max a.length b.length := by rcases HAT.out.le with h | h <;> omega
          have HM : Hid ((cn : Int) % 10000 = (cn % 10000 : Nat)) := Lib.hid (by omega)
          have HD : Hid ((cn : Int) / 10000 = (cn / 10000 : Nat)) := Lib.hid (by omega)
          clear hA' hB' HAT hs
          go_wp2_with (at_builtin; refine wp_snoc rfl _ _ rfl rfl rfl hown HM.out (by omega) (by omega) ?_)
          intro v' w1 ho hb2
          have HB2 := Lib.hid (hb2.out _ _ HB.out (Nat.le_refl _))
          clear hown hb2 HB hbs
          go_wp2
          go_roundw
          case rel => exact ⟨k + 1, _, _, by go_num, by rw [HD.out], ho.out, HS.out, HB2.out⟩
          case measure => simp [intOf]; omega
        · have hfin := Lib.hid (HAT.out.done (by omega))
          have HLN : Hid (ds.length ≤ max a.length b.length + 1) := Lib.hid (by rw [HAT.out.len]; exact hkm)
          obtain rfl : cn = 0 := by omega
          clear hA' hB'
          go_wp2
          go_ret
          exact ⟨_, ds, rfl, hown, HAT.out.dig, hfin.out, HLN.out, HB.out⟩
end Go.Proofs.Ytbdlfjhhgnhejaa
