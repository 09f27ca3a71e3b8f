/- tinplateref01.Valid and tinplateref02.Valid, Feasible: what they answer. -/
import Derived.Test.YtbdlfjhhgnhejaaBox
import Derived.Test.YtbdlfjhhgnhejaaOf
namespace Go.Proofs.Ytbdlfjhhgnhejaa
open Go.RowKit

set_option maxHeartbeats 400000 in
theorem refWithin_calls (n m : Int) (w : World) (h0 : 0 ≤ m) (h1 : m ≤ 4611686018427387904) :
    Calls Try.prog 61 #[.int .i64 n, .int .i64 m] w fun e w' => e = .returned (.bool (inB m n)) ∧ w' = w := by
  by_cases h : -m ≤ n
  · have hh : decide (-m ≤ n) = true := decide_eq_true h
    go_enter Try.func61, Try.ntmps61
    go_wp2
    go_ret
    exact ⟨by simp [inB, h], rfl⟩
  · have hh : decide (-m ≤ n) = false := decide_eq_false h
    go_enter Try.func61, Try.ntmps61
    go_wp2
    go_ret
    exact ⟨by simp [inB, show ¬ (-m ≤ n) by omega], rfl⟩

theorem all_take_false {xs : List Int} {p : Int → Bool} {k : Nat} (hk : k < xs.length) (h : p (nth xs k) = false) : xs.all p = false := by
  rw [List.all_eq_false]; exact ⟨nth xs k, nth_mem hk, by simp [h]⟩
theorem all_of_nth {xs : List Int} {p : Int → Bool} (h : ∀ i, i < xs.length → p (nth xs i) = true) : xs.all p = true := by
  rw [List.all_eq_true]; intro x hx
  obtain ⟨i, hi, rfl⟩ := List.getElem_of_mem hx
  rw [← nth_lt hi]; exact h i hi
theorem all_rows_false {l : List (List Int)} {p : List Int → Bool} {k : Nat} (hk : k < l.length) (h : p (nrow l k) = false) : l.all p = false := by
  rw [List.all_eq_false]; exact ⟨nrow l k, nrow_mem hk, by simp [h]⟩
theorem all_of_nrow {l : List (List Int)} {p : List Int → Bool} (h : ∀ i, i < l.length → p (nrow l i) = true) : l.all p = true := by
  rw [List.all_eq_true]; intro x hx
  obtain ⟨i, hi, rfl⟩ := List.getElem_of_mem hx
  rw [← nrow_lt hi]; exact h i hi

set_option maxHeartbeats 400000 in
theorem costs_calls (A : Option Addr) (c : Nat) (xs : List Int) (n : Nat) (w : World) (hm : xs.length ≤ maxLen) (hn : n ≤ maxLen) (hA : Ints w A xs) :
    Calls Try.prog 39 #[.slice A xs.length c, .int .i64 n] w fun e w' => e = .returned (.bool (decide (xs.length = n) && listOk 1000 xs)) ∧ w' = w := by
  unfold maxLen at hm hn
  by_cases h : xs.length = n
  · subst h
    have h2 : ((xs.length : Int) != (xs.length : Int)) = false := by simp
    go_enter Try.func39, Try.ntmps39
    go_wp2
    go_loop [5] (fun i => ∃ k : Nat, k ≤ xs.length ∧ i = .int .i64 k ∧ ∀ j, j < k → inB 1000 (nth xs j) = true) (fun i => xs.length - (intOf i).toNat)
    case atStart => exact ⟨0, Nat.zero_le _, rfl, fun j hj => by omega⟩
    case round =>
      obtain ⟨k, hk, rfl, hall⟩ := hrel
      by_cases hlt : k < xs.length
      · obtain ⟨b, o, rfl, g⟩ := hA k hlt
        have HA := Lib.hid hall; clear hall
        cases hb : inB 1000 (nth xs k)
        · have HB := Lib.hid hb
          go_wp2_with (go_at_call 61; refine (refWithin_calls _ 1000 _ (by omega) (by omega)).mono ?_; rw [HB.out]; rintro e w' ⟨rfl, rfl⟩)
          go_ret
          exact ⟨by unfold listOk; rw [all_take_false hlt HB.out]; simp, rfl⟩
        · have HB := Lib.hid hb
          go_wp2_with (go_at_call 61; refine (refWithin_calls _ 1000 _ (by omega) (by omega)).mono ?_; rw [HB.out]; rintro e w' ⟨rfl, rfl⟩)
          go_round
          case rel => exact ⟨k + 1, by omega, by go_num, fun j hj => if e : j = k then by rw [e]; exact HB.out else HA.out j (by omega)⟩
          case measure => simp [intOf]; omega
      · obtain rfl : k = xs.length := by omega
        have HA := Lib.hid hall; clear hall
        go_wp2
        go_ret
        exact ⟨by unfold listOk; rw [all_of_nth HA.out]; simp, rfl⟩
  · have h2 : ((xs.length : Int) != (n : Int)) = true := by simp; omega
    have H := Lib.hid h; clear h
    go_enter Try.func39, Try.ntmps39
    go_wp2
    go_ret
    exact ⟨by simp [H.out], rfl⟩

set_option maxHeartbeats 1000000 in
theorem rows_calls (A : Option Addr) (c : Nat) (l : List (List Int)) (n : Nat) (w : World) (hm : l.length ≤ maxLen) (hr : ∀ r ∈ l, r.length ≤ maxLen) (hn : n ≤ maxLen) (hA : Grid w A l) :
    Calls Try.prog 38 #[.slice A l.length c, .int .i64 n] w fun e w' => e = .returned (.bool (rowsOk l n)) ∧ w' = w := by
  unfold maxLen at hm hn
  by_cases h1 : 1 ≤ n
  · have d1 : decide ((n : Int) < 1) = false := by simp; omega
    by_cases h2 : n ≤ 6
    · have d2 : decide (6 < (n : Int)) = false := by simp; omega
      by_cases h3 : l.length ≤ 6
      · have d3 : decide (6 < (l.length : Int)) = false := by simp; omega
        have hE : rowsOk l n = l.all (rowOk n) := by unfold rowsOk; simp [h1, h2, h3]
        have HE := Lib.hid hE; clear hE
        go_enter Try.func38, Try.ntmps38
        go_wp2
        go_loop [5, 6] (fun i _ => ∃ k : Nat, k ≤ l.length ∧ i = .int .i64 k ∧ ∀ j, j < k → rowOk n (nrow l j) = true) (fun i _ => l.length - (intOf i).toNat)
        case atStart => exact ⟨0, Nat.zero_le _, rfl, fun j hj => by omega⟩
        case round =>
          obtain ⟨k, hk, rfl, hall⟩ := hrel
          by_cases hlt : k < l.length
          · obtain ⟨b, o, R, cR, rfl, g, _, hR⟩ := hA k hlt
            have hrl := hr _ (nrow_mem hlt)
            unfold maxLen at hrl
            have HA := Lib.hid hall; clear hall
            by_cases hln : (nrow l k).length = n
            · have e1 : (((nrow l k).length : Int) != (n : Int)) = false := by simp [hln]
              have HL := Lib.hid hln; clear hln
              go_wp2
              go_loop [6] (fun i => ∃ t : Nat, t ≤ n ∧ i = .int .i64 t ∧ ∀ j, j < t → inB 30 (nth (nrow l k) j) = true) (fun i => n - (intOf i).toNat)
              case atStart => exact ⟨0, Nat.zero_le _, rfl, fun j hj => by omega⟩
              case round =>
                obtain ⟨t, ht, rfl, hat⟩ := hrel
                have HT := Lib.hid hat; clear hat
                by_cases htl : t < n
                · have htr : t < (nrow l k).length := by rw [HL.out]; exact htl
                  obtain ⟨b2, o2, rfl, g2⟩ := hR t htr
                  have htr' : (t : Int) < ((nrow l k).length : Int) := by omega
                  cases hb : inB 30 (nth (nrow l k) t)
                  · have HB := Lib.hid hb
                    go_wp2_with (go_at_call 61; refine (refWithin_calls _ 30 _ (by omega) (by omega)).mono ?_; rw [HB.out]; rintro e w' ⟨rfl, rfl⟩)
                    go_ret
                    exact ⟨by rw [show rowsOk l n = false from by rw [HE.out]; exact all_rows_false hlt (by unfold rowOk listOk; rw [all_take_false htr HB.out]; simp)]; rfl, rfl⟩
                  · have HB := Lib.hid hb
                    go_wp2_with (go_at_call 61; refine (refWithin_calls _ 30 _ (by omega) (by omega)).mono ?_; rw [HB.out]; rintro e w' ⟨rfl, rfl⟩)
                    go_round
                    case rel => exact ⟨t + 1, by omega, by go_num, fun j hj => if e : j = t then by rw [e]; exact HB.out else HT.out j (by omega)⟩
                    case measure => simp [intOf]; omega
                · obtain rfl : t = n := by omega
                  go_wp2
                  go_round
                  case rel => exact ⟨k + 1, by omega, by go_num, fun j hj => if e : j = k then by rw [e]; unfold rowOk listOk; rw [all_of_nth (by rw [HL.out]; exact HT.out)]; simp [HL.out] else HA.out j (by omega)⟩
                  case measure => simp [intOf]; omega
            · have e1 : (((nrow l k).length : Int) != (n : Int)) = true := by simp; omega
              have HL := Lib.hid hln; clear hln
              go_wp2
              go_ret
              exact ⟨by rw [show rowsOk l n = false from by rw [HE.out]; exact all_rows_false hlt (by unfold rowOk; simp [HL.out])]; rfl, rfl⟩
          · obtain rfl : k = l.length := by omega
            have HA := Lib.hid hall; clear hall
            go_wp2
            go_ret
            exact ⟨by rw [show rowsOk l n = true from by rw [HE.out]; exact all_of_nrow HA.out]; rfl, rfl⟩
      · have d3 : decide (6 < (l.length : Int)) = true := by simp; omega
        go_enter Try.func38, Try.ntmps38
        go_wp2
        go_ret
        exact ⟨by simp [rowsOk]; omega, rfl⟩
    · have d2 : decide (6 < (n : Int)) = true := by simp; omega
      go_enter Try.func38, Try.ntmps38
      go_wp2
      go_ret
      exact ⟨by simp [rowsOk]; omega, rfl⟩
  · have d1 : decide ((n : Int) < 1) = true := by simp; omega
    go_enter Try.func38, Try.ntmps38
    go_wp2
    go_ret
    exact ⟨by simp [rowsOk]; omega, rfl⟩

theorem costs_simp (n : Nat) (b : Bool) : (decide (n = n) && b) = b := by simp
theorem progOk_ref (a : List (List Int)) (b c : List Int) : (rowsOk a c.length && listOk 1000 c && (decide (b.length = a.length) && listOk 1000 b)) = progOk a b c := by
  unfold progOk; cases rowsOk a c.length <;> cases listOk 1000 c <;> cases decide (b.length = a.length) <;> cases listOk 1000 b <;> rfl

set_option maxHeartbeats 1000000 in
theorem refValid_calls (A B C : Option Addr) (ca cb cc : Nat) (a : List (List Int)) (b c : List Int) (w : World) (h : Prog3 w A B C a b c) :
    Calls Try.prog 27 #[.agg #[.slice A a.length ca, .slice B b.length cb, .slice C c.length cc]] w fun e w' => e = .returned (.bool (progOk a b c)) ∧ Below w.heap.size w w' := by
  have hlb := h.lb; have hla := h.la; have hlc := h.lc; unfold maxLen at hlb hla hlc
  have hb0 : ∀ o, Below w.heap.size w (w.alloc o) := fun o => (Below.refl _ _).alloc (Nat.le_refl _) _
  have hE := progOk_ref a b c
  have HE := Lib.hid hE; clear hE
  cases h1 : rowsOk a c.length
  · go_enter Try.func27, Try.ntmps27
    go_wp2_with (go_at_call 38; refine (rows_calls _ _ a c.length _ h.la h.lr h.lc (h.ga.ext (hb0 _))).mono ?_; rintro e w1 ⟨rfl, rfl⟩)
    go_ret
    exact ⟨by rw [← HE.out, h1]; rfl, hb0 _⟩
  cases h2 : listOk 1000 c
  · go_enter Try.func27, Try.ntmps27
    go_wp2_with fail
    refine (rows_calls _ _ a c.length _ h.la h.lr h.lc (h.ga.ext (hb0 _))).mono ?_; rw [h1]; rintro e w1 ⟨rfl, rfl⟩
    go_wp2_with fail
    refine (costs_calls _ _ c c.length _ h.lc h.lc (h.gc.ext (hb0 _))).mono ?_; rw [h2, costs_simp]; rintro e w1 ⟨rfl, rfl⟩
    go_wp2
    go_ret
    exact ⟨by rw [← HE.out, h1, h2]; rfl, hb0 _⟩
  · go_enter Try.func27, Try.ntmps27
    go_wp2_with fail
    refine (rows_calls _ _ a c.length _ h.la h.lr h.lc (h.ga.ext (hb0 _))).mono ?_; rw [h1]; rintro e w1 ⟨rfl, rfl⟩
    go_wp2_with fail
    refine (costs_calls _ _ c c.length _ h.lc h.lc (h.gc.ext (hb0 _))).mono ?_; rw [h2, costs_simp]; rintro e w1 ⟨rfl, rfl⟩
    go_wp2_with fail
    refine (costs_calls _ _ b a.length _ h.lb h.la (h.gb.ext (hb0 _))).mono ?_; rintro e w1 ⟨rfl, rfl⟩
    go_wp2
    go_ret
    exact ⟨by rw [← HE.out, h1, h2]; rfl, hb0 _⟩
end Go.Proofs.Ytbdlfjhhgnhejaa
