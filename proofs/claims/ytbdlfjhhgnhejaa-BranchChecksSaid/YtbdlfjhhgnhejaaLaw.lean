/- The statements' own small functions: same, light, short. -/
import Derived.Test.YtbdlfjhhgnhejaaRead
import Derived.Test.YtbdlfjhhgnhejaaRef
namespace Go.Proofs.Ytbdlfjhhgnhejaa
open Go.RowKit
set_option linter.unusedVariables false
set_option linter.unusedSimpArgs false

/-- same's answer. -/
def sameB (xs ys : List Int) : Bool := decide (xs = ys)
theorem sameB_len {xs ys : List Int} (h : xs.length ≠ ys.length) : sameB xs ys = false := by
  unfold sameB; exact decide_eq_false fun e => h (by rw [e])
theorem sameB_at {xs ys : List Int} {i : Nat} (h : nth xs i ≠ nth ys i) : sameB xs ys = false := by
  unfold sameB; exact decide_eq_false fun e => h (by rw [e])
theorem sameB_all {xs ys : List Int} (hl : xs.length = ys.length) (h : ∀ i, i < xs.length → nth xs i = nth ys i) : sameB xs ys = true := by
  unfold sameB
  refine decide_eq_true (List.ext_getElem hl fun i h1 h2 => ?_)
  have := h i h1
  rw [nth_lt h1, nth_lt h2] at this; exact this

set_option maxHeartbeats 1000000 in
theorem same_calls (A B : Option Addr) (ca cb : Nat) (xs ys : List Int) (w : World) (hx : xs.length ≤ maxLen) (hy : ys.length ≤ maxLen) (hA : Ints w A xs) (hB : Ints w B ys) :
    Calls Try.prog 18 #[.slice A xs.length ca, .slice B ys.length cb] w fun e w' => e = .returned (.bool (sameB xs ys)) ∧ ∃ k, w' = w.drewN k := by
  unfold maxLen at hx hy
  by_cases hl : xs.length = ys.length
  · have d1 : ((xs.length : Int) != (ys.length : Int)) = false := by simp [hl]
    have HL := Lib.hid hl; clear hl
    go_enter Try.func18, Try.ntmps18
    go_wp2
    go_loopw [5] (fun i wr => ∃ k n : Nat, k ≤ xs.length ∧ i = .int .i64 k ∧ (∀ j, j < k → nth xs j = nth ys j) ∧ wr = w.drewN n) (fun i _ => xs.length - (intOf i).toNat)
    case atStart => exact ⟨0, 0, Nat.zero_le _, rfl, fun j hj => by omega, rfl⟩
    case round =>
      obtain ⟨k, n, hk, rfl, hs, rfl⟩ := hrel
      have HS := Lib.hid hs; clear hs
      by_cases hlt : k < xs.length
      · obtain ⟨b1, o1, rfl, g1⟩ := hA k hlt
        obtain ⟨b2, o2, rfl, g2⟩ := hB k (by rw [← HL.out]; exact hlt)
        have h0 : (0 : Int) ≤ k := by omega
        have h1 : (k : Int) < xs.length := by omega
        have h2 : (k : Int) < ys.length := by have := HL.out; omega
        by_cases hq : nth xs k = nth ys k
        · have q1 : (nth xs k != nth ys k) = false := by simp [hq]
          have HQ := Lib.hid hq; clear hq
          go_wp2_with fail
          go_quiet (fail)
          go_wp2
          go_roundw
          case rel => exact ⟨k + 1, _, by omega, by go_num, fun j hj => by rcases Nat.lt_or_ge j k with e | e; exact HS.out j e; (obtain rfl : j = k := by omega); exact HQ.out, by first | rfl | exact drewN_add _ _ _⟩
          case measure => simp [intOf]; omega
        · have q1 : (nth xs k != nth ys k) = true := by simp [hq]
          have HQ := Lib.hid hq; clear hq
          go_wp2_with fail
          go_quiet (fail)
          go_wp2
          go_ret
          exact ⟨by rw [sameB_at HQ.out]; rfl, _, by first | rfl | exact drewN_add _ _ _⟩
      · obtain rfl : k = xs.length := by omega
        go_wp2
        go_ret
        exact ⟨by rw [sameB_all HL.out HS.out]; rfl, n, rfl⟩
  · have d1 : ((xs.length : Int) != (ys.length : Int)) = true := by simp; omega
    have HL := Lib.hid hl; clear hl
    go_enter Try.func18, Try.ntmps18
    go_wp2
    go_ret
    exact ⟨by rw [sameB_len HL.out]; rfl, 0, rfl⟩

/-- light's answer. -/
def lightB (a : List (List Int)) (b c u : List Int) : Bool := decide (a.length ≤ 20) && decide (b.length ≤ 20) && decide (c.length ≤ 20) && decide (u.length ≤ 20) && a.all fun r => decide (r.length ≤ 20)

set_option maxHeartbeats 1000000 in
theorem light_calls (A B C U : Option Addr) (ca cb cc cu : Nat) (a : List (List Int)) (b c u : List Int) (w : World) (hw : Who w A B C U a b c u) :
    Calls Try.prog 9 #[.agg #[.slice A a.length ca, .slice B b.length cb, .slice C c.length cc, .slice U u.length cu]] w fun e w' => e = .returned (.bool (lightB a b c u)) ∧ Below w.heap.size w w' := by
  have hla := hw.p.la; have hlb := hw.p.lb; have hlc := hw.p.lc; have hlu := hw.lu; unfold maxLen at hla hlb hlc hlu
  have hb0 : ∀ o, Below w.heap.size w (w.alloc o) := fun o => (Below.refl _ _).alloc (Nat.le_refl _) _
  by_cases h1 : a.length ≤ 20
  · have d1 : decide ((20 : Int) < a.length) = false := decide_eq_false (by omega)
    by_cases h2 : b.length ≤ 20
    · have d2 : decide ((20 : Int) < b.length) = false := decide_eq_false (by omega)
      by_cases h3 : c.length ≤ 20
      · have d3 : decide ((20 : Int) < c.length) = false := decide_eq_false (by omega)
        by_cases h4 : u.length ≤ 20
        · have d4 : decide ((20 : Int) < u.length) = false := decide_eq_false (by omega)
          have hG := fun o => hw.p.ga.ext (hb0 o)
          have HR := Lib.hid hw.p.lr
          go_enter Try.func9, Try.ntmps9
          go_wp2
          go_loop [3] (fun i => ∃ k : Nat, k ≤ a.length ∧ i = .int .i64 k ∧ ∀ j, j < k → (nrow a j).length ≤ 20) (fun i => a.length - (intOf i).toNat)
          case atStart => exact ⟨0, Nat.zero_le _, rfl, fun j hj => by omega⟩
          case round =>
            obtain ⟨k, hk, rfl, hs⟩ := hrel
            have HS := Lib.hid hs; clear hs
            by_cases hlt : k < a.length
            · obtain ⟨b1, o1, R, c1, rfl, g1, g2, -⟩ := hG (.cells #[.slice A a.length ca, .slice B b.length cb, .slice C c.length cc, .slice U u.length cu] 25 (0, 0)) k hlt
              have g3 := HR.out (nrow a k) (nrow_mem hlt)
              unfold maxLen at g3
              clear hG
              by_cases hq : (nrow a k).length ≤ 20
              · have q1 : decide ((20 : Int) < (nrow a k).length) = false := decide_eq_false (by omega)
                go_wp2
                go_round
                case rel => exact ⟨k + 1, by omega, by go_num, fun j hj => by rcases Nat.lt_or_ge j k with e | e; exact HS.out j e; (obtain rfl : j = k := by omega); exact hq⟩
                case measure => simp [intOf]; omega
              · have q1 : decide ((20 : Int) < (nrow a k).length) = true := decide_eq_true (by omega)
                go_wp2
                go_ret
                refine ⟨?_, hb0 _⟩
                have : lightB a b c u = false := by
                  unfold lightB
                  rw [all_rows_false hlt (decide_eq_false hq), Bool.and_false]
                rw [this]; rfl
            · clear hG
              go_wp2
              go_ret
              refine ⟨?_, hb0 _⟩
              have : lightB a b c u = true := by
                unfold lightB
                rw [all_of_nrow fun i hi => decide_eq_true (HS.out i (by omega)), decide_eq_true h1, decide_eq_true h2, decide_eq_true h3, decide_eq_true h4]; rfl
              rw [this]; rfl
        · have d4 : decide ((20 : Int) < u.length) = true := decide_eq_true (by omega)
          go_enter Try.func9, Try.ntmps9
          go_wp2
          go_ret
          exact ⟨by simp [lightB, h4], hb0 _⟩
      · have d3 : decide ((20 : Int) < c.length) = true := decide_eq_true (by omega)
        go_enter Try.func9, Try.ntmps9
        go_wp2
        go_ret
        exact ⟨by simp [lightB, h3], hb0 _⟩
    · have d2 : decide ((20 : Int) < b.length) = true := decide_eq_true (by omega)
      go_enter Try.func9, Try.ntmps9
      go_wp2
      go_ret
      exact ⟨by simp [lightB, h2], hb0 _⟩
  · have d1 : decide ((20 : Int) < a.length) = true := decide_eq_true (by omega)
    go_enter Try.func9, Try.ntmps9
    go_wp2
    go_ret
    exact ⟨by simp [lightB, h1], hb0 _⟩

/-- short's answer. -/
def shortB (L : List Nd) : Bool := decide (L.length ≤ 300) && L.all fun n => decide (n.ys.length ≤ 20)

set_option maxHeartbeats 1000000 in
theorem short_calls (X : Option Addr) (cx : Nat) (L : List Nd) (w : World) (hm : L.length ≤ maxLen) (hN : Nodes w X L) :
    Calls Try.prog 10 #[.slice X L.length cx] w fun e w' => e = .returned (.bool (shortB L)) ∧ w' = w := by
  unfold maxLen at hm
  go_enter Try.func10, Try.ntmps10
  go_wp2
  go_loop [3] (fun i => ∃ k : Nat, k ≤ L.length ∧ k ≤ 300 ∧ i = .int .i64 k ∧ ∀ j, (h : j < L.length) → j < k → L[j].ys.length ≤ 20) (fun i => L.length - (intOf i).toNat)
  case atStart => exact ⟨0, Nat.zero_le _, Nat.zero_le _, rfl, fun j h hj => by omega⟩
  case round =>
    obtain ⟨k, hk, hk3, rfl, hs⟩ := hrel
    have HS := Lib.hid hs; clear hs
    by_cases hlt : k < L.length
    · by_cases h3 : k < 300
      · have d3 : decide ((300 : Int) ≤ k) = false := decide_eq_false (by omega)
        obtain ⟨b, off, Y, cy, rfl, -, -, g2, -, -, g4⟩ := hN k hlt
        unfold maxLen at g4
        have g2' : w.cell? ⟨b, off + k * 4 + 2, none⟩ = some (.slice Y L[k].ys.length cy) := by rw [Nat.mul_comm k 4]; exact g2
        clear g2
        by_cases hq : L[k].ys.length ≤ 20
        · have q1 : decide ((20 : Int) < L[k].ys.length) = false := decide_eq_false (by omega)
          have HQ : Hid (∀ j, (h : j < L.length) → j < k + 1 → L[j].ys.length ≤ 20) := Lib.hid fun j h hj => by
            rcases Nat.lt_or_ge j k with e | e
            · exact HS.out j h e
            · obtain rfl : j = k := by omega
              exact hq
          clear hq
          generalize L[k].ys.length = n at *
          go_wp2
          go_round
          case rel => exact ⟨k + 1, by omega, by omega, by go_num, HQ.out⟩
          case measure => simp [intOf]; omega
        · have q1 : decide ((20 : Int) < L[k].ys.length) = true := decide_eq_true (by omega)
          have hf : shortB L = false := by
            unfold shortB
            rw [show (L.all fun n => decide (n.ys.length ≤ 20)) = false from by rw [List.all_eq_false]; exact ⟨L[k], List.getElem_mem _, by simpa using hq⟩, Bool.and_false]
          have HF := Lib.hid hf; clear hq hf
          generalize L[k].ys.length = n at *
          go_wp2
          go_ret
          exact ⟨by rw [HF.out]; rfl, rfl⟩
      · have d3 : decide ((300 : Int) ≤ k) = true := decide_eq_true (by omega)
        go_wp2
        go_ret
        exact ⟨by simp [shortB, show ¬ L.length ≤ 300 by omega], rfl⟩
    · go_wp2
      go_ret
      have : shortB L = true := by
        unfold shortB
        rw [decide_eq_true (by omega : L.length ≤ 300), Bool.true_and, List.all_eq_true]
        intro n hn
        obtain ⟨j, hj, rfl⟩ := List.getElem_of_mem hn
        exact decide_eq_true (HS.out j hj (by omega))
      exact ⟨by rw [this]; rfl, rfl⟩
end Go.Proofs.Ytbdlfjhhgnhejaa
