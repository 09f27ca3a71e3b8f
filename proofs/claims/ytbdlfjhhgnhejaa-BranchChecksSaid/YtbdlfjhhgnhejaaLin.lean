/- linear.within, listed, rowed, valid, proper, dot: what they answer. -/
import Derived.Test.YtbdlfjhhgnhejaaSlices
namespace Go.Proofs.Ytbdlfjhhgnhejaa
open Go.RowKit

def inB (m : Int) (x : Int) : Bool := decide (-m ≤ x) && decide (x ≤ m)
def listOk (m : Int) (xs : List Int) : Bool := xs.all (inB m)
def rowOk (n : Nat) (r : List Int) : Bool := decide (r.length = n) && listOk 30 r
def rowsOk (l : List (List Int)) (n : Nat) : Bool := decide (1 ≤ n) && decide (n ≤ 6) && decide (l.length ≤ 6) && l.all (rowOk n)
/-- Is a program valid? -/
def progOk (a : List (List Int)) (b c : List Int) : Bool := rowsOk a c.length && decide (b.length = a.length) && listOk 1000 b && listOk 1000 c

theorem listOk_any (m : Int) (xs : List Int) : (!xs.any fun x => !inB m x) = listOk m xs := by
  unfold listOk; rw [List.not_any_eq_all_not]; simp

set_option maxHeartbeats 400000 in
theorem within_calls (n m : Int) (w : World) (h0 : 0 ≤ m) (h1 : m ≤ 4611686018427387904) :
    Calls Try.prog 80 #[.int .i64 n, .int .i64 m] w fun e w' => e = .returned (.bool (inB m n)) ∧ w' = w := by
  by_cases h : -m ≤ n
  · have hh : decide (-m ≤ n) = true := decide_eq_true h
    go_enter Try.func80, Try.ntmps80
    go_wp2
    go_ret
    exact ⟨by simp [inB, h], rfl⟩
  · have hh : decide (-m ≤ n) = false := decide_eq_false h
    go_enter Try.func80, Try.ntmps80
    go_wp2
    go_ret
    exact ⟨by simp [inB, show ¬ (-m ≤ n) by omega], rfl⟩

set_option maxHeartbeats 400000 in
theorem listed1_calls (n m : Int) (b : Nat) (w : World) (h0 : 0 ≤ m) (h1 : m ≤ 4611686018427387904) (hb : w.cell? ⟨b, 0, none⟩ = some (.int .i64 m)) :
    Calls Try.prog 79 #[.int .i64 n, .pointer (some ⟨b, 0, none⟩)] w fun e w' => e = .returned (.bool (!inB m n)) ∧ w' = w := by
  go_enter Try.func79, Try.ntmps79
  go_wp2_with (go_at_call 80; refine (within_calls n m _ h0 h1).mono ?_; rintro e w' ⟨rfl, rfl⟩)
  go_ret
  exact ⟨rfl, rfl⟩

set_option maxHeartbeats 400000 in
theorem listed_calls (A : Option Addr) (c : Nat) (xs : List Int) (m : Int) (w : World) (hm : xs.length ≤ maxLen) (h0 : 0 ≤ m) (h1 : m ≤ 4611686018427387904) (hA : Ints w A xs) :
    Calls Try.prog 63 #[.slice A xs.length c, .int .i64 m] w fun e w' => e = .returned (.bool (listOk m xs)) ∧ Below w.heap.size w w' := by
  have hT : ∀ w0 : World, w.heap.size < w0.heap.size → w0.cell? ⟨w.heap.size, 0, none⟩ = some (.int .i64 m) → Tells 79 #[.pointer (some ⟨w.heap.size, 0, none⟩)] (fun x => !inB m x) w0 xs := by
    intro w0 hs hw0
    refine ⟨fun _ _ => by kernel_rfl, fun x _ w1 hb => (listed1_calls x m w.heap.size w1 h0 h1 ?_).mono fun e w2 ⟨he, hw⟩ => ⟨he, by rw [hw]; exact Below.refl _ _⟩⟩
    rw [hb.cell (p := ⟨w.heap.size, 0, none⟩) hs]; exact hw0
  go_enter Try.func63, Try.ntmps63
  go_wp2_with (go_at_call 31; refine (containsFunc_int _ _ (fun x => !inB m x) _ _ xs _ hm (hA.ext ((Below.refl _ _).alloc (Nat.le_refl _) _)) (hT _ (by simp) (by go_simp))).mono ?_; rintro e w' ⟨rfl, hb⟩)
  go_ret
  exact ⟨by simp only [← listOk_any m xs]; rfl, ((Below.refl _ _).alloc (Nat.le_refl _) _).trans (hb.mono (by simp))⟩

set_option maxHeartbeats 400000 in
theorem rowed1_calls (A : Option Addr) (c : Nat) (r : List Int) (n b : Nat) (w : World) (hm : r.length ≤ maxLen) (hA : Ints w A r) (hb : w.cell? ⟨b, 0, none⟩ = some (.int .i64 n)) :
    Calls Try.prog 78 #[.slice A r.length c, .pointer (some ⟨b, 0, none⟩)] w fun e w' => e = .returned (.bool (!rowOk n r)) ∧ Below w.heap.size w w' := by
  by_cases h : r.length = n
  · have h1 : ((r.length : Int) == (n : Int)) = true := by simp [h]
    have h2 : ((r.length : Int) != (n : Int)) = false := by simp [h]
    have H := Lib.hid h; clear h
    have hm' := hm; unfold maxLen at hm'
    go_enter Try.func78, Try.ntmps78
    go_wp2_with (go_at_call 63; refine (listed_calls _ _ r 30 _ hm (by omega) (by omega) hA).mono ?_; rintro e w' ⟨rfl, hb2⟩)
    go_ret
    exact ⟨by simp [rowOk, H.out], hb2⟩
  · have h1 : ((r.length : Int) == (n : Int)) = false := by simp; omega
    have h2 : ((r.length : Int) != (n : Int)) = true := by simp; omega
    have H := Lib.hid h; clear h
    go_enter Try.func78, Try.ntmps78
    go_wp2
    go_ret
    exact ⟨by simp [rowOk, H.out], Below.refl _ _⟩

def leN (a : Nat) (k : Int) : Bool := decide ((a : Int) ≤ k)
set_option maxHeartbeats 400000 in
theorem rowed_calls (A : Option Addr) (c : Nat) (l : List (List Int)) (n : Nat) (w : World) (hm : l.length ≤ maxLen) (hr : ∀ r ∈ l, r.length ≤ maxLen) (hn : n ≤ maxLen) (hA : Grid w A l) :
    Calls Try.prog 62 #[.slice A l.length c, .int .i64 n] w fun e w' => e = .returned (.bool (rowsOk l n)) ∧ Below w.heap.size w w' := by
  have hn' := hn; unfold maxLen at hn'
  have hm' := hm; unfold maxLen at hm'
  have hT : ∀ w0 : World, w.heap.size < w0.heap.size → w0.cell? ⟨w.heap.size, 0, none⟩ = some (.int .i64 n) → TellsR 78 #[.pointer (some ⟨w.heap.size, 0, none⟩)] (fun x => !rowOk n x) w0 l := by
    intro w0 hs hw0
    refine ⟨fun _ _ => by kernel_rfl, fun x hx A c w1 hb hx1 => rowed1_calls A c x n w.heap.size w1 (hr x hx) hx1 ?_⟩
    rw [hb.cell (p := ⟨w.heap.size, 0, none⟩) hs]; exact hw0
  by_cases h1 : 1 ≤ n
  · have d1 : decide (1 ≤ (n : Int)) = true := by simp; omega
    by_cases h2 : n ≤ 6
    · have d2 : decide ((n : Int) ≤ 6) = true := by simp; omega
      by_cases h3 : l.length ≤ 6
      · have d3 : decide ((l.length : Int) ≤ 6) = true := by simp; omega
        go_enter Try.func62, Try.ntmps62
        go_wp2_with (go_at_call 77; refine (containsFunc_row _ _ (fun x => !rowOk n x) _ _ l _ hm (hA.ext ((Below.refl _ _).alloc (Nat.le_refl _) _)) (hT _ (by simp) (by go_simp))).mono ?_; rintro e w' ⟨rfl, hb⟩)
        go_ret
        exact ⟨by simp [rowsOk, h1, h2, h3, List.not_any_eq_all_not], ((Below.refl _ _).alloc (Nat.le_refl _) _).trans (hb.mono (by simp))⟩
      · have d3 : decide ((l.length : Int) ≤ 6) = false := by simp; omega
        go_enter Try.func62, Try.ntmps62
        go_wp2
        go_ret
        exact ⟨by simp [rowsOk, h3], ((Below.refl _ _).alloc (Nat.le_refl _) _)⟩
    · have d2 : decide ((n : Int) ≤ 6) = false := by simp; omega
      go_enter Try.func62, Try.ntmps62
      go_wp2
      go_ret
      exact ⟨by simp [rowsOk, h2], ((Below.refl _ _).alloc (Nat.le_refl _) _)⟩
  · have d1 : decide (1 ≤ (n : Int)) = false := by simp; omega
    go_enter Try.func62, Try.ntmps62
    go_wp2
    go_ret
    exact ⟨by simp [rowsOk, h1], ((Below.refl _ _).alloc (Nat.le_refl _) _)⟩

/-- A program's three slices read as a, b, c. -/
structure Prog3 (w : World) (A B C : Option Addr) (a : List (List Int)) (b c : List Int) : Prop where
  ga : Grid w A a
  gb : Ints w B b
  gc : Ints w C c
  la : a.length ≤ maxLen
  lr : ∀ r ∈ a, r.length ≤ maxLen
  lb : b.length ≤ maxLen
  lc : c.length ≤ maxLen
theorem Prog3.ext {w w' : World} {A B C : Option Addr} {a : List (List Int)} {b c : List Int} (h : Prog3 w A B C a b c) (hb : Below w.heap.size w w') : Prog3 w' A B C a b c :=
  ⟨h.ga.ext hb, h.gb.ext hb, h.gc.ext hb, h.la, h.lr, h.lb, h.lc⟩

set_option maxHeartbeats 400000 in
theorem valid_calls (A B C : Option Addr) (ca cb cc : Nat) (a : List (List Int)) (b c : List Int) (w : World) (h : Prog3 w A B C a b c) :
    Calls Try.prog 45 #[.agg #[.slice A a.length ca, .slice B b.length cb, .slice C c.length cc]] w fun e w' => e = .returned (.bool (progOk a b c)) ∧ Below w.heap.size w w' := by
  have hlb := h.lb; have hla := h.la; have hlc := h.lc; unfold maxLen at hlb hla hlc
  have hb0 : ∀ o, Below w.heap.size w (w.alloc o) := fun o => (Below.refl _ _).alloc (Nat.le_refl _) _
  cases h1 : rowsOk a c.length
  · go_enter Try.func45, Try.ntmps45
    go_wp2_with (go_at_call 62; refine (rowed_calls _ _ a c.length _ h.la h.lr h.lc (h.ga.ext (hb0 _))).mono ?_; rintro e w1 ⟨rfl, hb1⟩)
    go_ret
    exact ⟨by simp [progOk, h1], ext_trans (hb0 _) hb1⟩
  by_cases h2 : b.length = a.length
  · have d2 : ((b.length : Int) == (a.length : Int)) = true := by simp [h2]
    have H2 := Lib.hid h2; clear h2
    cases h3 : listOk 1000 b
    · go_enter Try.func45, Try.ntmps45
      go_wp2_with fail
      refine (rowed_calls _ _ a c.length _ h.la h.lr h.lc (h.ga.ext (hb0 _))).mono ?_; rintro e w1 ⟨rfl, hb1⟩
      obtain ⟨hc1, hf1⟩ := bcell hb1
      have hx1 := ext_trans (hb0 _) hb1
      go_wp2_with fail
      refine (listed_calls _ _ b 1000 _ h.lb (by omega) (by omega) (h.gb.ext hx1)).mono ?_; rintro e w2 ⟨rfl, hb2⟩
      go_wp2
      go_ret
      exact ⟨by simp [progOk, h3], ext_trans hx1 hb2⟩
    · go_enter Try.func45, Try.ntmps45
      go_wp2_with fail
      refine (rowed_calls _ _ a c.length _ h.la h.lr h.lc (h.ga.ext (hb0 _))).mono ?_; rintro e w1 ⟨rfl, hb1⟩
      obtain ⟨hc1, hf1⟩ := bcell hb1
      have hx1 := ext_trans (hb0 _) hb1
      have hz1 := hb1.size
      go_wp2_with fail
      refine (listed_calls _ _ b 1000 _ h.lb (by omega) (by omega) (h.gb.ext hx1)).mono ?_; rintro e w2 ⟨rfl, hb2⟩
      obtain ⟨hc2, hf2⟩ := bcell hb2
      have hx2 := ext_trans hx1 hb2
      have hz : w.heap.size < w1.heap.size := by simp at hz1; omega
      go_wp2_with fail
      refine (listed_calls _ _ c 1000 _ h.lc (by omega) (by omega) (h.gc.ext hx2)).mono ?_; rintro e w3 ⟨rfl, hb3⟩
      go_wp2
      go_ret
      exact ⟨by simp [progOk, h3, h1, H2.out], ext_trans hx2 hb3⟩
  · have d2 : ((b.length : Int) == (a.length : Int)) = false := by simp; omega
    have H2 := Lib.hid h2; clear h2
    go_enter Try.func45, Try.ntmps45
    go_wp2_with fail
    refine (rowed_calls _ _ a c.length _ h.la h.lr h.lc (h.ga.ext (hb0 _))).mono ?_; rintro e w1 ⟨rfl, hb1⟩
    obtain ⟨hc1, hf1⟩ := bcell hb1
    go_wp2
    go_ret
    exact ⟨by simp [progOk, H2.out], ext_trans (hb0 _) hb1⟩
end Go.Proofs.Ytbdlfjhhgnhejaa
