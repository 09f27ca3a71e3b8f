/- Package big: a write to one number leaves the others; NewInt, Neg, Sign, Cmp. -/
import Derived.Test.YtbdlfjhhgnhejaaBigB
namespace Go.Proofs.Ytbdlfjhhgnhejaa
open Go.RowKit

/-- Block p is some whole number's. -/
def IntBlk (w : World) (p : Nat) : Prop := ∃ b A n c, Blk w p [.bool b, .slice A n c] 96
theorem BigP.blk {w : World} {p : Nat} {z : Int} (h : BigP w p z) : IntBlk w p := by
  obtain ⟨v, h1, A, c, rfl, _⟩ := h; exact ⟨_, _, _, _, h1⟩
theorem IntBlk.ext {w w' : World} {p : Nat} (h : IntBlk w p) (hb : Below w.heap.size w w') : IntBlk w' p := by
  obtain ⟨b, A, n, c, h⟩ := h; exact ⟨b, A, n, c, h.ext hb⟩
theorem IntBlk.lt {w : World} {p : Nat} (h : IntBlk w p) : p < w.heap.size := by obtain ⟨b, A, n, c, h⟩ := h; exact h.lt
theorem IntBlk.other {w w' : World} {p q : Nat} (h : IntBlk w p) (hb : But q w w') (hne : p ≠ q) : IntBlk w' p := by
  obtain ⟨b, A, n, c, h⟩ := h; exact ⟨b, A, n, c, h.but hb hne⟩
theorem Wds.but {w w' : World} {A : Option Addr} {ds : List Nat} {p : Nat} (h : Wds w A ds) (hp : IntBlk w p) (hb : But p w w') : Wds w' A ds := fun i hi => by
  obtain ⟨b, off, e, hc⟩ := h i hi
  refine ⟨b, off, e, ?_⟩
  have hne : b ≠ p := by
    rintro rfl
    obtain ⟨x, A', n, c, hp⟩ := hp
    have hlt : off + i < 2 := by
      rcases Nat.lt_or_ge (off + i) 2 with h | h
      · exact h
      · unfold Blk at hp; simp [World.cell?, hp] at hc
        rw [List.getElem?_eq_none (by simpa using h)] at hc; simp at hc
    have hv := hp.cell (off + i) (by simpa using hlt)
    rw [hv] at hc
    rcases (show off + i = 0 ∨ off + i = 1 by omega) with h0 | h0 <;> simp [h0] at hc
  rw [World.cell?_of_block (w := w) (hb.block b (cell_lt hc) hne)]; exact hc
theorem WSl.but {w w' : World} {v : Value} {n p : Nat} (h : WSl w v n) (hp : IntBlk w p) (hb : But p w w') : WSl w' v n := by
  obtain ⟨A, c, h1, h2, h3, h4⟩ := h; exact ⟨A, c, h1, h2, h3, h4.but hp hb⟩
theorem BigP.but {w w' : World} {p q : Nat} {z : Int} (h : BigP w q z) (hp : IntBlk w p) (hb : But p w w') (hne : q ≠ p) : BigP w' q z := by
  obtain ⟨v, h1, h2⟩ := h; exact ⟨v, h1.but hb hne, h2.but hp hb⟩

theorem set_z (p : Nat) (x : Bool) (v : Value) (n : Nat) (z : Int) (w : World) (hz : IntBlk w p) (hv : WSl w v n) (hn : z.natAbs = n) (hx : (x && decide (0 < n)) = decide (z < 0)) :
    Calls Try.prog 68 #[.pointer (some ⟨p, 0, none⟩), .bool x, v] w fun e w' => e = .returned (.pointer (some ⟨p, 0, none⟩)) ∧ BigP w' p z ∧ But p w w' := by
  obtain ⟨b, A, k, c, hb⟩ := id hz
  refine (set_big p x v _ _ n w hb hv).mono ?_
  rintro e w' ⟨he, h1, h2⟩
  rw [hx] at h1
  exact ⟨he, ⟨v, h1, by rw [hn]; exact hv.but hz h2⟩, h2⟩

set_option maxHeartbeats 1000000 in
theorem newInt_calls (z : Int) (w : World) (h1 : -9223372036854775808 ≤ z) (h2 : z ≤ 9223372036854775807) :
    Calls Try.prog 51 #[.int .i64 z] w fun e w' => ∃ p, e = .returned (.pointer (some ⟨p, 0, none⟩)) ∧ w.heap.size ≤ p ∧ BigP w' p z ∧ Below w.heap.size w w' := by
  by_cases h : z < 0
  · have hd : decide (z < 0) = true := decide_eq_true h
    obtain ⟨m, hm⟩ : ∃ m : Nat, z = -(m : Int) := ⟨z.natAbs, by omega⟩
    subst hm
    have hw : IntKind.u64.wrap (-IntKind.u64.wrap (-(m : Int))) = m := by simp only [IntKind.wrap_u64]; omega
    have hof := of_big m w (by omega)
    have HW := Lib.hid hw; clear hw
    go_enter Try.func51, Try.ntmps51
    go_wp2_with fail
    rw [HW.out]
    refine hof.mono ?_; rintro e w1 ⟨v, rfl, hv, hb⟩
    have hs := hb.size
    have hv' := hv
    obtain ⟨A, c, rfl, -, -, -⟩ := hv'
    go_wp2
    go_ret
    refine ⟨w1.heap.size, rfl, hs, ⟨.slice A (digits m).length c, ?_, ?_⟩, hb.alloc hs _⟩
    · rw [hd]; exact Blk.new w1 [.bool true, _] _
    · rw [show (-(m : Int)).natAbs = m by omega]; exact hv.ext ((Below.refl _ _).alloc (Nat.le_refl _) _)
  · have hd : decide (z < 0) = false := decide_eq_false h
    obtain ⟨m, rfl⟩ : ∃ m : Nat, z = (m : Int) := ⟨z.natAbs, by omega⟩
    have hof := of_big m w (by omega)
    go_enter Try.func51, Try.ntmps51
    go_wp2_with fail
    refine hof.mono ?_; rintro e w1 ⟨v, rfl, hv, hb⟩
    have hs := hb.size
    have hv' := hv
    obtain ⟨A, c, rfl, -, -, -⟩ := hv'
    go_wp2
    go_ret
    refine ⟨w1.heap.size, rfl, hs, ⟨.slice A (digits m).length c, ?_, ?_⟩, hb.alloc hs _⟩
    · rw [hd]; exact Blk.new w1 [.bool false, _] _
    · rw [show ((m : Int)).natAbs = m by omega]; exact hv.ext ((Below.refl _ _).alloc (Nat.le_refl _) _)

set_option maxHeartbeats 1000000 in
theorem sign_calls (p : Nat) (z : Int) (w : World) (hz : BigP w p z) :
    Calls Try.prog 67 #[.pointer (some ⟨p, 0, none⟩)] w fun e w' => e = .returned (.int .i64 (sgnI z 0)) ∧ w' = w := by
  obtain ⟨v, hb, A, c, rfl, hc, hm, hA⟩ := hz
  have c0 : w.cell? ⟨p, 0, none⟩ = some (.bool (decide (z < 0))) := hb.cell 0 (by simp)
  have c1 : w.cell? ⟨p, 1, none⟩ = some (.slice A (digits z.natAbs).length c) := hb.cell 1 (by simp)
  have hl : (digits z.natAbs).length ≤ 1000000000 := by omega
  clear hb hA
  by_cases h0 : z = 0
  · subst h0
    have e : (digits (0 : Int).natAbs).length = 0 := by show (digits 0).length = 0; rw [digits_zero]; rfl
    rw [e] at c1
    clear e hc hl
    go_enter Try.func67, Try.ntmps67
    go_wp2
    go_ret
    exact ⟨rfl, rfl⟩
  · have hp := (digits_len_pos (n := z.natAbs)).2 (by omega)
    have hs : sgnI z 0 = if z < 0 then -1 else 1 := by
      by_cases h : z < 0
      · rw [sgnI_lt h, if_pos h]
      · rw [sgnI_gt (by omega), if_neg h]
    generalize (digits z.natAbs).length = N at *
    have e1 : ((N : Int) == 0) = false := by simp; omega
    cases hn : decide (z < 0)
    · rw [hn] at c0
      rw [if_neg (of_decide_eq_false hn)] at hs
      have HS := Lib.hid hs
      clear hn hs h0 hp hc
      go_enter Try.func67, Try.ntmps67
      go_wp2
      go_ret
      exact ⟨by rw [HS.out]; rfl, rfl⟩
    · rw [hn] at c0
      rw [if_pos (of_decide_eq_true hn)] at hs
      have HS := Lib.hid hs
      clear hn hs h0 hp hc
      go_enter Try.func67, Try.ntmps67
      go_wp2
      go_ret
      exact ⟨by rw [HS.out]; rfl, rfl⟩

theorem sgn_cmp (x y : Int) : (if (decide (x < 0) != decide (y < 0)) then sgnI (sgnI x 0) (sgnI y 0) else if decide (x < 0) then -sgn x.natAbs y.natAbs else sgn x.natAbs y.natAbs) = sgnI x y := by
  by_cases hx : x < 0 <;> by_cases hy : y < 0
  · simp only [hx, hy]; simp; unfold sgn sgnI; split <;> split <;> (try split) <;> (try split) <;> omega
  · simp only [hx, hy]; simp
    rw [sgnI_lt hx, sgnI_lt (show x < y by omega)]
    by_cases h : y = 0
    · subst h; rw [sgnI_eq rfl]; exact sgnI_lt (by omega)
    · rw [sgnI_gt (show 0 < y by omega)]; exact sgnI_lt (by omega)
  · simp only [hx, hy]; simp
    rw [sgnI_lt hy, sgnI_gt (show y < x by omega)]
    by_cases h : x = 0
    · subst h; rw [sgnI_eq rfl]; exact sgnI_gt (by omega)
    · rw [sgnI_gt (show 0 < x by omega)]; exact sgnI_gt (by omega)
  · simp only [hx, hy]; simp; unfold sgn sgnI; split <;> split <;> (try split) <;> (try split) <;> omega

theorem neqBool (w : World) (a b : Bool) : (binOp .neq 4 (.bool a) (.bool b)).run Try.prog w = .ok (.bool (!(a == b))) w := run_neq_bool _ _ _ _ Try.underlying4
theorem eqlBool (w : World) (a b : Bool) : (binOp .eql 4 (.bool a) (.bool b)).run Try.prog w = .ok (.bool (a == b)) w := run_eql_bool _ _ _ _ Try.underlying4
theorem compare_q (v u : Value) (n m : Nat) (w : World) (k : Nat) (hv : WSl w v n) (hu : WSl w u m) :
    Calls Try.prog 65 #[v, u] (w.drewN k) fun e w' => e = .returned (.int .i64 (sgn n m)) ∧ ∃ k, w' = w.drewN k := by
  obtain ⟨A, c, rfl, h1, h2, h3⟩ := hv
  obtain ⟨B, d, rfl, k1, k2, k3⟩ := hu
  exact Calls.quiet_of (compare_calls A B c d n m (w.drewN k) (by unfold maxLen; omega) (by unfold maxLen; omega) (h3.ext (drewN_below _ _)) (k3.ext (drewN_below _ _)))

set_option maxHeartbeats 400000 in
theorem cmp_calls (p q : Nat) (x y : Int) (w : World) (hx : BigP w p x) (hy : BigP w q y) :
    Calls Try.prog 52 #[.pointer (some ⟨p, 0, none⟩), .pointer (some ⟨q, 0, none⟩)] w fun e w' => e = .returned (.int .i64 (sgnI x y)) ∧ ∃ k, w' = w.drewN k := by
  obtain ⟨v, hb, hv⟩ := id hx
  obtain ⟨u, hd, hu⟩ := id hy
  have c0 : w.cell? ⟨p, 0, none⟩ = some (.bool (decide (x < 0))) := hb.cell 0 (by simp)
  have c1 : w.cell? ⟨p, 1, none⟩ = some v := hb.cell 1 (by simp)
  have d0 : w.cell? ⟨q, 0, none⟩ = some (.bool (decide (y < 0))) := hd.cell 0 (by simp)
  have d1 : w.cell? ⟨q, 1, none⟩ = some u := hd.cell 1 (by simp)
  have hs := sgn_cmp x y
  have hcx : ∀ n, _ := fun n => sign_calls p x (w.drewN n) (hx.ext (drewN_below _ _))
  have hcy : ∀ n, _ := fun n => sign_calls q y (w.drewN n) (hy.ext (drewN_below _ _))
  have hq : ∀ k, _ := fun k => compare_q v u x.natAbs y.natAbs w k hv hu
  clear hb hd
  obtain ⟨S, hS⟩ : ∃ S, Hid (sgn x.natAbs y.natAbs = S) := ⟨_, rfl⟩
  rw [hS.out] at hs hq
  obtain ⟨X, hX⟩ : ∃ X, Hid (sgnI x 0 = X) := ⟨_, rfl⟩
  obtain ⟨Y, hY⟩ : ∃ Y, Hid (sgnI y 0 = Y) := ⟨_, rfl⟩
  rw [hX.out] at hs hcx
  rw [hY.out] at hs hcy
  have hSb : -1 ≤ S ∧ S ≤ 1 := by rw [← hS.out]; unfold sgn; split <;> (try split) <;> omega
  obtain ⟨s1, s2⟩ := hSb
  have HCX := Lib.hid hcx; have HCY := Lib.hid hcy; have HQ := Lib.hid hq
  clear hcx hcy hq
  have q4 := neqBool
  cases bx : decide (x < 0) <;> cases by' : decide (y < 0)
  all_goals
    rw [bx] at c0 hs
    rw [by'] at d0 hs
    have HS := Lib.hid hs
    clear hs bx by'
    go_enter Try.func52, Try.ntmps52
    go_wp2_with fail
    go_quiet ((go_at_call 65; exact HQ.out _))
    go_wp2_with fail
    go_quiet (fail)
    go_wp2_with (first | (go_at_call 67; (with_reducible refine (HCX.out _).mono ?_); rintro e w1 ⟨rfl, rfl⟩) | (go_at_call 67; (with_reducible refine (HCY.out _).mono ?_); rintro e w1 ⟨rfl, rfl⟩) | (go_at_call 66; refine (cmpInt_calls _ _ _).mono ?_; rintro e w1 ⟨rfl, rfl⟩))
    go_ret
    exact ⟨by rw [← HS.out]; rfl, _, by first | rfl | exact drewN_add _ _ _⟩
end Go.Proofs.Ytbdlfjhhgnhejaa
