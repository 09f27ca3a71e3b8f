/- tinplateref02.Valid, Feasible, vector: what they answer. -/
import Derived.Test.YtbdlfjhhgnhejaaRef
import Derived.Test.YtbdlfjhhgnhejaaEach
namespace Go.Proofs.Ytbdlfjhhgnhejaa
open Go.RowKit

set_option maxHeartbeats 1000000 in
theorem refWhole_calls (A B C U : Option Addr) (ca cb cc cu : Nat) (a : List (List Int)) (b c u : List Int) (w : World) (h : Who w A B C U a b c u) :
    Calls Try.prog 15 #[.agg #[.slice A a.length ca, .slice B b.length cb, .slice C c.length cc, .slice U u.length cu]] w fun e w' => e = .returned (.bool (wholeOk a b c u)) ∧ Below w.heap.size w w' := by
  have hlb := h.p.lb; have hla := h.p.la; have hlc := h.p.lc; have hlu := h.lu; unfold maxLen at hlb hla hlc hlu
  have hb0 : ∀ o o', Below w.heap.size w ((w.alloc o).alloc o') := fun o o' => ((Below.refl _ _).alloc (Nat.le_refl _) _).alloc (by simp) _
  have hv : ∀ o o', _ := fun o o' => refValid_calls A B C ca cb cc a b c ((w.alloc o).alloc o') (h.p.ext (hb0 _ _))
  cases h1 : progOk a b c
  · rw [h1] at hv
    have HW : Hid (wholeOk a b c u = false) := by unfold wholeOk; rw [h1, Bool.and_false]; exact (rfl : false = false)
    go_enter Try.func15, Try.ntmps15
    go_wp2_with fail
    refine (hv _ _).mono ?_; rintro e w1 ⟨rfl, hb1⟩
    go_wp2
    go_ret
    exact ⟨by rw [HW.out]; rfl, ext_trans (hb0 _ _) hb1⟩
  rw [h1] at hv
  by_cases h2 : c.length ≤ 5
  · have d2 : decide (5 < (c.length : Int)) = false := by simp; omega
    by_cases h3 : u.length = c.length
    · have d3 : ((u.length : Int) != (c.length : Int)) = false := by simp [h3]
      have hW : wholeOk a b c u = upOk u := by unfold wholeOk; simp [h1, h2, h3]
      have HW := Lib.hid hW; have H3 := Lib.hid h3; clear hW h3
      go_enter Try.func15, Try.ntmps15
      go_wp2_with fail
      refine (hv _ _).mono ?_; rintro e w1 ⟨rfl, hb1⟩
      have hx1 := ext_trans (hb0 _ _) hb1
      obtain ⟨hc1, hf1⟩ := bcell hb1
      have k2 : w1.cell? ⟨w.heap.size, 2, none⟩ = some (.slice C c.length cc) := by rw [hc1 _ _ (by simp; omega)]; go_simp
      have k3 : w1.cell? ⟨w.heap.size, 3, none⟩ = some (.slice U u.length cu) := by rw [hc1 _ _ (by simp; omega)]; go_simp
      have hU := (h.ext hx1).gu
      clear hc1 hf1 hv hb0
      go_wp2
      go_loop [4] (fun i => ∃ k : Nat, k ≤ u.length ∧ i = .int .i64 k ∧ ∀ j, j < k → (decide (0 ≤ nth u j) && decide (nth u j ≤ 7)) = true) (fun i => u.length - (intOf i).toNat)
      case atStart => exact ⟨0, Nat.zero_le _, rfl, fun j hj => by omega⟩
      case round =>
        obtain ⟨k, hk, rfl, hall⟩ := hrel
        have HA := Lib.hid hall; clear hall
        by_cases hlt : k < u.length
        · obtain ⟨bb, o, rfl, g⟩ := hU k hlt
          by_cases h0 : 0 ≤ nth u k
          · have e0 : decide (nth u k < 0) = false := decide_eq_false (by omega)
            by_cases h7 : nth u k ≤ 7
            · have e7 : decide (7 < nth u k) = false := decide_eq_false (by omega)
              go_wp2
              go_round
              case rel => exact ⟨k + 1, by omega, by go_num, fun j hj => if e : j = k then by rw [e]; simp [h0, h7] else HA.out j (by omega)⟩
              case measure => simp [intOf]; omega
            · have e7 : decide (7 < nth u k) = true := decide_eq_true (by omega)
              go_wp2
              go_ret
              exact ⟨by rw [show wholeOk a b c u = false from by rw [HW.out]; exact all_take_false hlt (by simp; omega)]; rfl, hx1⟩
          · have e0 : decide (nth u k < 0) = true := decide_eq_true (by omega)
            go_wp2
            go_ret
            exact ⟨by rw [show wholeOk a b c u = false from by rw [HW.out]; exact all_take_false hlt (by simp; omega)]; rfl, hx1⟩
        · obtain rfl : k = u.length := by omega
          go_wp2
          go_ret
          exact ⟨by rw [show wholeOk a b c u = true from by rw [HW.out]; exact all_of_nth HA.out]; rfl, hx1⟩
    · have d3 : ((u.length : Int) != (c.length : Int)) = true := by simp; omega
      have hW : wholeOk a b c u = false := by unfold wholeOk; simp [h3]
      have HW := Lib.hid hW; have H3 := Lib.hid h3; clear hW h3
      go_enter Try.func15, Try.ntmps15
      go_wp2_with fail
      refine (hv _ _).mono ?_; rintro e w1 ⟨rfl, hb1⟩
      have hx1 := ext_trans (hb0 _ _) hb1
      obtain ⟨hc1, hf1⟩ := bcell hb1
      have k2 : w1.cell? ⟨w.heap.size, 2, none⟩ = some (.slice C c.length cc) := by rw [hc1 _ _ (by simp; omega)]; go_simp
      have k3 : w1.cell? ⟨w.heap.size, 3, none⟩ = some (.slice U u.length cu) := by rw [hc1 _ _ (by simp; omega)]; go_simp
      clear hc1 hf1 hv hb0
      go_wp2
      go_ret
      exact ⟨by rw [HW.out]; rfl, hx1⟩
  · have d2 : decide (5 < (c.length : Int)) = true := by simp; omega
    have hW : wholeOk a b c u = false := by unfold wholeOk; simp [h2]
    have HW := Lib.hid hW; clear hW
    go_enter Try.func15, Try.ntmps15
    go_wp2_with fail
    refine (hv _ _).mono ?_; rintro e w1 ⟨rfl, hb1⟩
    have hx1 := ext_trans (hb0 _ _) hb1
    obtain ⟨hc1, hf1⟩ := bcell hb1
    have k2 : w1.cell? ⟨w.heap.size, 2, none⟩ = some (.slice C c.length cc) := by rw [hc1 _ _ (by simp; omega)]; go_simp
    clear hc1 hf1 hv hb0
    go_wp2
    go_ret
    exact ⟨by rw [HW.out]; rfl, hx1⟩

/-- Do the numbers lie in the box? -/
def inBoxB (u x : List Int) : Bool := (List.range x.length).all fun i => decide (0 ≤ nth x i) && decide (nth x i ≤ nth u i)
/-- Is a vector feasible? -/
def feasQ (a : List (List Int)) (b u x : List Int) : Bool := decide (x.length = u.length) && inBoxB u x && feasB a b x
theorem inBoxB_iff (u x : List Int) : inBoxB u x = true ↔ InBox u x x.length := by
  unfold inBoxB InBox; rw [List.all_eq_true]
  constructor
  · intro h i hi; have := h i (by simpa using hi); simpa using this
  · intro h i hi; have := h i (by simpa using hi); simpa using this
theorem inBoxB_false {u x : List Int} {k : Nat} (hk : k < x.length) (h : ¬ (0 ≤ nth x k ∧ nth x k ≤ nth u k)) : inBoxB u x = false := by
  unfold inBoxB; rw [List.all_eq_false]; exact ⟨k, by simpa using hk, by simpa using h⟩
theorem feasB_false {a : List (List Int)} {b x : List Int} {k : Nat} (hk : k < a.length) (h : ¬ nth b k ≤ dotZ (nrow a k) x) : feasB a b x = false := by
  unfold feasB; rw [List.all_eq_false]; exact ⟨k, by simpa using hk, by simpa using h⟩
theorem feasB_true {a : List (List Int)} {b x : List Int} (h : ∀ i, i < a.length → nth b i ≤ dotZ (nrow a i) x) : feasB a b x = true := by
  unfold feasB; rw [List.all_eq_true]; intro i hi; exact decide_eq_true (h i (by simpa using hi))

set_option maxHeartbeats 1000000 in
theorem feasible_calls (A B C U X : Option Addr) (ca cb cc cu cx : Nat) (a : List (List Int)) (b c u x : List Int) (w : World) (h : Who w A B C U a b c u) (hok : wholeOk a b c u = true) (hX : Ints w X x) (hxm : x.length ≤ maxLen) :
    Calls Try.prog 16 #[.agg #[.slice A a.length ca, .slice B b.length cb, .slice C c.length cc, .slice U u.length cu], .slice X x.length cx] w fun e w' => e = .returned (.bool (feasQ a b u x)) ∧ Below w.heap.size w w' := by
  have hla := h.p.la; have hlu := h.lu; have hxm' := hxm; unfold maxLen at hla hlu hxm'
  have hb0 : ∀ o, Below w.heap.size w (w.alloc o) := fun o => (Below.refl _ _).alloc (Nat.le_refl _) _
  by_cases h1 : x.length = u.length
  · have d1 : ((x.length : Int) != (u.length : Int)) = false := by simp [h1]
    have hQ : feasQ a b u x = (inBoxB u x && feasB a b x) := by unfold feasQ; simp [h1]
    have HQ := Lib.hid hQ; have H1 := Lib.hid h1; clear hQ h1
    have hb1 := hb0 (.cells #[.slice A a.length ca, .slice B b.length cb, .slice C c.length cc, .slice U u.length cu] 25 (0, 0))
    have hX1 := hX.ext hb1
    have hU1 := h.gu.ext hb1
    have hW1 := h.ext hb1
    go_enter Try.func16, Try.ntmps16
    go_wp2
    go_loopw [5] (fun i wr => ∃ k n : Nat, k ≤ x.length ∧ i = .int .i64 k ∧ InBox u x k ∧ wr = (w.alloc (.cells #[.slice A a.length ca, .slice B b.length cb, .slice C c.length cc, .slice U u.length cu] 25 (0, 0))).drewN n) (fun i _ => x.length - (intOf i).toNat)
    case atStart => exact ⟨0, 0, Nat.zero_le _, rfl, fun i hi => by omega, rfl⟩
    case round =>
      obtain ⟨k, n, hk, rfl, hbx, rfl⟩ := hrel
      by_cases hlt : k < x.length
      · have hku : k < u.length := by have := H1.out; omega
        obtain ⟨b1, o1, rfl, g1⟩ := hX1 k hlt
        obtain ⟨b2, o2, rfl, g2⟩ := hU1 k hku
        by_cases h0 : 0 ≤ nth x k
        · have e0 : decide (nth x k < 0) = false := decide_eq_false (by omega)
          by_cases h7 : nth x k ≤ nth u k
          · have e7 : decide (nth u k < nth x k) = false := decide_eq_false (by omega)
            go_wp2_with fail
            go_quiet (fail)
            go_wp2
            go_roundw
            case rel => exact ⟨k + 1, _, by omega, by go_num, fun j hj => if e : j = k then by rw [e]; exact ⟨h0, h7⟩ else hbx j (by omega), by first | rfl | exact drewN_add _ _ _⟩
            case measure => simp [intOf]; omega
          · have e7 : decide (nth u k < nth x k) = true := decide_eq_true (by omega)
            go_wp2_with fail
            go_quiet (fail)
            go_wp2
            go_ret
            exact ⟨by rw [show feasQ a b u x = false from by rw [HQ.out, inBoxB_false hlt (by omega)]; rfl]; rfl, hb1.trans (((drewN_below _ _).mono (by simp)).trans ((drewN_below _ _).mono (by simp)))⟩
        · have e0 : decide (nth x k < 0) = true := decide_eq_true (by omega)
          go_wp2_with fail
          go_quiet (fail)
          go_wp2
          go_ret
          exact ⟨by rw [show feasQ a b u x = false from by rw [HQ.out, inBoxB_false hlt (by omega)]; rfl]; rfl, hb1.trans (((drewN_below _ _).mono (by simp)).trans ((drewN_below _ _).mono (by simp)))⟩
      · obtain rfl : k = x.length := by omega
        obtain ⟨hrow, -, -, hbl⟩ := row_small hok H1.out (by rw [← H1.out]; exact hbx)
        have hIB := (inBoxB_iff u x).2 hbx
        have HB := Lib.hid hIB; have HBL := Lib.hid hbl; clear hIB hbx hbl
        go_wp2
        go_loopw [6] (fun i wr => ∃ k n : Nat, k ≤ a.length ∧ i = .int .i64 k ∧ (∀ j, j < k → nth b j ≤ dotZ (nrow a j) x) ∧ wr = (w.alloc (.cells #[.slice A a.length ca, .slice B b.length cb, .slice C c.length cc, .slice U u.length cu] 25 (0, 0))).drewN n) (fun i _ => a.length - (intOf i).toNat)
        case atStart => exact ⟨0, _, Nat.zero_le _, rfl, fun i hi => by omega, rfl⟩
        case round =>
          obtain ⟨k, n, hk, rfl, hall, rfl⟩ := hrel
          have HA := Lib.hid hall; clear hall
          by_cases hlt : k < a.length
          · obtain ⟨bA, oA, R, cR, rfl, gA, _, gR⟩ := hW1.p.ga k hlt
            have hlt' : k < b.length := by have := HBL.out; omega
            obtain ⟨bB, oB, rfl, gB⟩ := hW1.p.gb k hlt'
            obtain ⟨hsm, hlen⟩ := hrow k hlt
            have hmr := h.p.lr _ (nrow_mem hlt)
            have hle : (nrow a k).length ≤ x.length := by omega
            clear hrow hlen
            by_cases hge : nth b k ≤ dotZ (nrow a k) x
            · have hd : decide (dotZ (nrow a k) x < nth b k) = false := decide_eq_false (by omega)
              go_wp2_with fail
              go_quiet ((go_at_call 26; exact refDot_in _ _ _ _ _ _ (nrow a k) x _ _ _ rfl rfl hle hmr gR hX1 hsm))
              go_wp2
              go_roundw
              case rel => exact ⟨k + 1, _, by omega, by go_num, fun j hj => if e : j = k then e ▸ hge else HA.out j (by omega), by first | rfl | exact drewN_add _ _ _⟩
              case measure => simp [intOf]; omega
            · have hd : decide (dotZ (nrow a k) x < nth b k) = true := decide_eq_true (by omega)
              go_wp2_with fail
              go_quiet ((go_at_call 26; exact refDot_in _ _ _ _ _ _ (nrow a k) x _ _ _ rfl rfl hle hmr gR hX1 hsm))
              go_wp2
              go_ret
              exact ⟨by rw [show feasQ a b u x = false from by rw [HQ.out, HB.out, feasB_false hlt (by omega)]; rfl]; rfl, hb1.trans (((drewN_below _ _).mono (by simp)).trans ((drewN_below _ _).mono (by simp)))⟩
          · obtain rfl : k = a.length := by omega
            clear hrow
            go_wp2
            go_ret
            exact ⟨by rw [show feasQ a b u x = true from by rw [HQ.out, HB.out, feasB_true HA.out]; rfl]; rfl, hb1.trans ((drewN_below _ _).mono (by simp))⟩
  · have d1 : ((x.length : Int) != (u.length : Int)) = true := by simp; omega
    have hQ : feasQ a b u x = false := by unfold feasQ; simp [h1]
    have HQ := Lib.hid hQ; have H1 := Lib.hid h1; clear hQ h1
    go_enter Try.func16, Try.ntmps16
    go_wp2
    go_ret
    exact ⟨by rw [HQ.out]; rfl, hb0 _⟩
theorem feasible_at (A B C U X : Option Addr) (ca cb cc cu nx cx : Nat) (a : List (List Int)) (b c u x : List Int) (w : World) (h : Who w A B C U a b c u) (hok : wholeOk a b c u = true) (hX : Ints w X x) (hn : x.length = nx) (hxm : nx ≤ maxLen) :
    Calls Try.prog 16 #[.agg #[.slice A a.length ca, .slice B b.length cb, .slice C c.length cc, .slice U u.length cu], .slice X nx cx] w fun e w' => e = .returned (.bool (feasQ a b u x)) ∧ Below w.heap.size w w' := by
  subst hn; exact feasible_calls A B C U X ca cb cc cu cx a b c u x w h hok hX hxm
end Go.Proofs.Ytbdlfjhhgnhejaa
