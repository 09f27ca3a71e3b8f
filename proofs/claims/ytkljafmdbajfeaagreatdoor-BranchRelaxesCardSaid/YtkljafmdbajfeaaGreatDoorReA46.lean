/- branch.reader.read: what it answers, and what it leaves. -/
import Derived.Test.YtkljafmdbajfeaaGreatDoorReA18
import Derived.Test.YtkljafmdbajfeaaGreatDoorReA28
namespace Go.Proofs.YtkljafmdbajfeaaGreatDoor
open Go.RowKit
def readF (a : List (List Int)) (b c : List Int) (cost : Int) (none : Bool) : Nat → List Nd → List Int → List Int → Bool × List Nd
 | 0, L, _, _ => (false, L)
 | _ + 1, [], _, _ => (false, [])
 | k + 1, n :: L, lo, hi =>
   if n.va < 0 then (goodB a b c cost none n.ys n.d lo hi, L)
   else if (c.length : Int) ≤ n.va ∨ n.at' < nth lo n.va.toNat ∨ nth hi n.va.toNat ≤ n.at' then (false, L)
   else
    let p := readF a b c cost none k L lo (hi.set n.va.toNat n.at')
    if p.1 then readF a b c cost none k p.2 (lo.set n.va.toNat (n.at' + 1)) hi else (false, p.2)
def ReadPost (a : List (List Int)) (b c u : List Int) (cost : Int) (none : Bool) (A B C U : Option Addr) (ca cb cc cu r : Nat) (w0 w : World) (R : Bool × List Nd) (e : Ending) (w' : World) : Prop :=
 e = .returned (.bool R.1) ∧ ∃ X cx, Reader w' r A B C U ca cb cc cu a b c u cost none (.slice X R.2.length cx) ∧ R.2.length ≤ cx ∧ cx ≤ maxLen ∧ Nodes w0 X R.2 ∧ But r w w'
theorem Reader.pr {w : World} {r : Nat} {A B C U : Option Addr} {ca cb cc cu : Nat} {a : List (List Int)} {b c u : List Int} {cost : Int} {none : Bool} {left : Value} (h : Reader w r A B C U ca cb cc cu a b c u cost none left) : PrAt w r A B C U ca cb cc cu a b c u cost none :=
 ⟨Blk.cell h 0 (by simp), Blk.cell h 1 (by simp), Blk.cell h 2 (by simp), Blk.cell h 3 (by simp), Blk.cell h 4 (by simp), Blk.cell h 5 (by simp), Blk.cell h 6 (by simp)⟩
theorem readF_len (a : List (List Int)) (b c : List Int) (cost : Int) (none : Bool) : ∀ (k : Nat) (L : List Nd) (lo hi : List Int), (readF a b c cost none k L lo hi).2.length ≤ L.length
 | 0, L, _, _ => Nat.le_refl _
 | _ + 1, [], _, _ => Nat.le_refl _
 | k + 1, n :: L, lo, hi => by
   simp only [readF]
   split
   ·simp
   ·split
    ·simp
    ·have h1 := readF_len a b c cost none k L lo (hi.set n.va.toNat n.at')
     split
     ·have h2 := readF_len a b c cost none k (readF a b c cost none k L lo (hi.set n.va.toNat n.at')).2 (lo.set n.va.toNat (n.at' + 1)) hi
      simp only [List.length_cons]; omega
     ·simp only [List.length_cons]; omega
theorem EndsOk.set {l : List Int} (h : EndsOk l) (v : Nat) {x : Int} (hx : 0 ≤ x ∧ x ≤ 7) : EndsOk (l.set v x) :=
 ⟨by rw [List.length_set]; exact h.1, fun y hy => by
  rcases List.mem_or_eq_of_mem_set hy with h1 | h1
  ·exact h.2 y h1
  ·rw [h1]; exact hx⟩
set_option maxRecDepth 100000 in
set_option maxHeartbeats 4000000 in
theorem read_calls (r : Nat) (A B C U : Option Addr) (ca cb cc cu : Nat) (a : List (List Int)) (b c u : List Int) (cost : Int) (none : Bool) (w0 : World) (hw : Who w0 A B C U a b c u) (hok : progOk a b c = true) (hc5 : c.length ≤ 5) (hcost : -9223372036854775808 ≤ cost ∧ cost ≤ 9223372036854775807) (hr0 : w0.heap.size ≤ r) :
  ∀ (k : Nat) (L : List Nd) (l0 l1 l2 l3 l4 h0 h1 h2 h3 h4 : Int) (X : Option Addr) (cx : Nat) (w : World), L.length < k → L.length ≤ cx → cx ≤ maxLen → Reader w r A B C U ca cb cc cu a b c u cost none (.slice X L.length cx) → Nodes w0 X L → Below w0.heap.size w0 w → EndsOk [l0, l1, l2, l3, l4] → EndsOk [h0, h1, h2, h3, h4] →
   Calls Tryz.prog 153 #[.pointer (some ⟨r, 0, .none⟩), .agg #[.int .i64 l0, .int .i64 l1, .int .i64 l2, .int .i64 l3, .int .i64 l4, .int .i64 h0, .int .i64 h1, .int .i64 h2, .int .i64 h3, .int .i64 h4]] w (ReadPost a b c u cost none A B C U ca cb cc cu r w0 w (readF a b c cost none k L [l0, l1, l2, l3, l4] [h0, h1, h2, h3, h4])) := by
 intro k
 induction k with
 | zero => intro L l0 l1 l2 l3 l4 h0 h1 h2 h3 h4 X cx w h; omega
 | succ k ih =>
   intro L l0 l1 l2 l3 l4 h0 h1 h2 h3 h4 X cx w hk hcx hcm hR hN hb hlo hhi
   have hbx : Below w.heap.size w (w.alloc (.cells #[.int .i64 l0, .int .i64 l1, .int .i64 l2, .int .i64 l3, .int .i64 l4, .int .i64 h0, .int .i64 h1, .int .i64 h2, .int .i64 h3, .int .i64 h4] 186 (0, 0))) := (Below.refl _ _).alloc (Nat.le_refl _) _
   have rl := Blk.lt hR
   cases L with
   | nil =>
     have hnx := next_none r A B C U X ca cb cc cu cx a b c u cost none (w.alloc (.cells #[.int .i64 l0, .int .i64 l1, .int .i64 l2, .int .i64 l3, .int .i64 l4, .int .i64 h0, .int .i64 h1, .int .i64 h2, .int .i64 h3, .int .i64 h4] 186 (0, 0))) (hR.ext hbx)
     go_enter Tryz.func153, Tryz.ntmps153
     go_wp2_with fail
     refine hnx.mono ?_; rintro e w1 ⟨rfl, hb1⟩
     go_wp2_with fail
     go_ret
     exact ⟨rfl, X, cx, (hR.ext (ext_trans hbx hb1)).ext ((Below.refl _ _).alloc (Nat.le_refl _) _), hcx, hcm, hN, (((But.refl r w).ext hbx).ext hb1).alloc _⟩
   | cons n L =>
     obtain ⟨va, at', ys, d⟩ := n
     have hnx := next_some r A B C U X ca cb cc cu cx a b c u cost none ⟨va, at', ys, d⟩ L w0 (w.alloc (.cells #[.int .i64 l0, .int .i64 l1, .int .i64 l2, .int .i64 l3, .int .i64 l4, .int .i64 h0, .int .i64 h1, .int .i64 h2, .int .i64 h3, .int .i64 h4] 186 (0, 0))) (hb.trans (hbx.mono hb.size)) (hR.ext hbx) hN hcx hcm
     have B1 : Blk (w.alloc (.cells #[.int .i64 l0, .int .i64 l1, .int .i64 l2, .int .i64 l3, .int .i64 l4, .int .i64 h0, .int .i64 h1, .int .i64 h2, .int .i64 h3, .int .i64 h4] 186 (0, 0))) w.heap.size [.int .i64 l0, .int .i64 l1, .int .i64 l2, .int .i64 l3, .int .i64 l4, .int .i64 h0, .int .i64 h1, .int .i64 h2, .int .i64 h3, .int .i64 h4] 186 := Blk.new w [.int .i64 l0, .int .i64 l1, .int .i64 l2, .int .i64 l3, .int .i64 l4, .int .i64 h0, .int .i64 h1, .int .i64 h2, .int .i64 h3, .int .i64 h4] _
     generalize hFE : readF a b c cost none (k + 1) (⟨va, at', ys, d⟩ :: L) [l0, l1, l2, l3, l4] [h0, h1, h2, h3, h4] = F
     have hF := hFE.symm
     simp only [readF] at hF
     clear hFE
     have HF := Lib.hid hF; clear hF
     go_enter Tryz.func153, Tryz.ntmps153
     go_wp2_with fail
     refine hnx.mono ?_; rintro e w1 ⟨X1, cx1, Y, cy, rfl, hY, hyl, hR1, hc1, hm1, hN1, hbut⟩
     have hb1 : Below w0.heap.size w0 w1 := (hb.trans (hbx.mono hb.size)).trans (hbut.below hr0 (by have := hb.size; simp; omega))
     have hbut0 : But r w w1 := ((But.refl r w).ext hbx).trans hbut
     have C1 := B1.but hbut (by omega)
     have rl1 := Blk.lt hR1
     have bl1 := C1.lt
     clear hnx hR hN B1 hbut
     have hal : Below w1.heap.size w1 (w1.alloc (.cells #[.int .i64 va, .int .i64 at', .slice Y ys.length cy, .int .i64 d] 128 (0, 0))) := (Below.refl _ _).alloc (Nat.le_refl _) _
     have D0 : Blk (w1.alloc (.cells #[.int .i64 va, .int .i64 at', .slice Y ys.length cy, .int .i64 d] 128 (0, 0))) w1.heap.size [.int .i64 va, .int .i64 at', .slice Y ys.length cy, .int .i64 d] 128 := Blk.new w1 [.int .i64 va, .int .i64 at', .slice Y ys.length cy, .int .i64 d] _
     have D1 := C1.ext hal
     have hR2 := hR1.ext hal
     have hb2 := hb1.trans (hal.mono hb1.size)
     have hbut2 : But r w _ := hbut0.ext hal
     clear hR1 C1 hb1 hbut0
     have hnode := hyl
     by_cases hva : va < 0
     ·have hva2 : decide (va < 0) = true := decide_eq_true hva
      rw [if_pos hva] at HF
      go_wp2_with fail
      generalize (w1.alloc (.cells #[.int .i64 va, .int .i64 at', .slice Y ys.length cy, .int .i64 d] 128 (0, 0))) = W at *
      have n0 : W.cell? ⟨w1.heap.size, 0, .none⟩ = some (.int .i64 va) := D0.cell 0 (by simp)
      have n1 : W.cell? ⟨w1.heap.size, 1, .none⟩ = some (.int .i64 at') := D0.cell 1 (by simp)
      have n2 : W.cell? ⟨w1.heap.size, 2, .none⟩ = some (.slice Y ys.length cy) := D0.cell 2 (by simp)
      have n3 : W.cell? ⟨w1.heap.size, 3, .none⟩ = some (.int .i64 d) := D0.cell 3 (by simp)
      have b0 : W.cell? ⟨w.heap.size, 0, .none⟩ = some (.int .i64 l0) := D1.cell 0 (by simp)
      have b1 : W.cell? ⟨w.heap.size, 1, .none⟩ = some (.int .i64 l1) := D1.cell 1 (by simp)
      have b2 : W.cell? ⟨w.heap.size, 2, .none⟩ = some (.int .i64 l2) := D1.cell 2 (by simp)
      have b3 : W.cell? ⟨w.heap.size, 3, .none⟩ = some (.int .i64 l3) := D1.cell 3 (by simp)
      have b4 : W.cell? ⟨w.heap.size, 4, .none⟩ = some (.int .i64 l4) := D1.cell 4 (by simp)
      have b5 : W.cell? ⟨w.heap.size, 5, .none⟩ = some (.int .i64 h0) := D1.cell 5 (by simp)
      have b6 : W.cell? ⟨w.heap.size, 6, .none⟩ = some (.int .i64 h1) := D1.cell 6 (by simp)
      have b7 : W.cell? ⟨w.heap.size, 7, .none⟩ = some (.int .i64 h2) := D1.cell 7 (by simp)
      have b8 : W.cell? ⟨w.heap.size, 8, .none⟩ = some (.int .i64 h3) := D1.cell 8 (by simp)
      have b9 : W.cell? ⟨w.heap.size, 9, .none⟩ = some (.int .i64 h4) := D1.cell 9 (by simp)
      go_still_tail 5, (by kernel_rfl)
      change wpList _ _ _ _ _ W.drew
      go_wp2_with fail
      refine (good_calls r A B C U Y ca cb cc cu cy a b c u ys cost d va at' none l0 l1 l2 l3 l4 h0 h1 h2 h3 h4 W.drew ((Reader.pr (w := W) (left := .slice X1 L.length cx1) hR2).ext (Below.refl _ _).drew) (hw.ext (hb2.trans (((Below.refl _ W).drew).mono hb2.size))) (hY.ext (hb2.trans (((Below.refl _ W).drew).mono hb2.size))) hyl hok hc5 hlo hhi hcost).mono ?_; rintro e w3 ⟨rfl, hb3⟩
      go_wp2_with fail
      go_ret
      have hb4 := ext_trans (Below.refl _ W).drew hb3
      rw [HF.out]
      exact ⟨rfl, X1, cx1, Blk.ext hR2 hb4, hc1, hm1, hN1, hbut2.ext hb4⟩
     ·have hva2 : decide (va < 0) = false := decide_eq_false hva
      rw [if_neg hva] at HF
      obtain ⟨v, rfl⟩ : ∃ v : Nat, va = v := ⟨va.toNat, by omega⟩
      rw [Int.toNat_natCast] at HF
      go_wp2_with fail
      generalize (w1.alloc (.cells #[.int .i64 v, .int .i64 at', .slice Y ys.length cy, .int .i64 d] 128 (0, 0))) = W at *
      have n0 : W.cell? ⟨w1.heap.size, 0, .none⟩ = some (.int .i64 v) := D0.cell 0 (by simp)
      have n1 : W.cell? ⟨w1.heap.size, 1, .none⟩ = some (.int .i64 at') := D0.cell 1 (by simp)
      have n2 : W.cell? ⟨w1.heap.size, 2, .none⟩ = some (.slice Y ys.length cy) := D0.cell 2 (by simp)
      have n3 : W.cell? ⟨w1.heap.size, 3, .none⟩ = some (.int .i64 d) := D0.cell 3 (by simp)
      obtain ⟨k0, k1, k2, k3, k4, k5, k6⟩ := Reader.pr (w := W) (left := .slice X1 L.length cx1) hR2
      by_cases e1 : (c.length : Int) ≤ v
      ·have d1 : decide ((c.length : Int) ≤ v) = true := decide_eq_true e1
       rw [if_pos (Or.inl e1)] at HF
       go_quiet (fail)
       go_wp2_with fail
       go_ret
       rw [HF.out]
       exact ⟨rfl, X1, cx1, Blk.ext hR2 (drewN_below _ _), hc1, hm1, hN1, hbut2.ext (drewN_below _ _)⟩
      ·have d1 : decide ((c.length : Int) ≤ v) = false := decide_eq_false e1
       have hv5 : v < 5 := by omega
       have lov : W.cell? ⟨w.heap.size, v, .none⟩ = some (.int .i64 (nth [l0, l1, l2, l3, l4] v)) := by
        rw [D1.cell v (by simp; omega)]; rcases v with _ | _ | _ | _ | _ | v <;> first | rfl | omega
       have hiv : W.cell? ⟨w.heap.size, 5 + v, .none⟩ = some (.int .i64 (nth [h0, h1, h2, h3, h4] v)) := by
        rw [D1.cell (5 + v) (by simp; omega)]; rcases v with _ | _ | _ | _ | _ | v <;> first | rfl | omega
       by_cases e2 : at' < nth [l0, l1, l2, l3, l4] v
       ·have d2 : decide (at' < nth [l0, l1, l2, l3, l4] v) = true := decide_eq_true e2
        rw [if_pos (Or.inr (Or.inl e2))] at HF
        generalize nth [l0, l1, l2, l3, l4] v = lv at *
        generalize nth [h0, h1, h2, h3, h4] v = hv at *
        go_quiet (fail)
        go_wp2_with fail
        go_ret
        rw [HF.out]
        exact ⟨rfl, X1, cx1, Blk.ext hR2 (drewN_below _ _), hc1, hm1, hN1, hbut2.ext (drewN_below _ _)⟩
       ·have d2 : decide (at' < nth [l0, l1, l2, l3, l4] v) = false := decide_eq_false e2
        by_cases e3 : nth [h0, h1, h2, h3, h4] v ≤ at'
        ·have d3 : decide (nth [h0, h1, h2, h3, h4] v ≤ at') = true := decide_eq_true e3
         rw [if_pos (Or.inr (Or.inr e3))] at HF
         generalize nth [l0, l1, l2, l3, l4] v = lv at *
         generalize nth [h0, h1, h2, h3, h4] v = hv at *
         go_quiet (fail)
         go_wp2_with fail
         go_ret
         rw [HF.out]
         exact ⟨rfl, X1, cx1, Blk.ext hR2 (drewN_below _ _), hc1, hm1, hN1, hbut2.ext (drewN_below _ _)⟩
        ·have d3 : decide (nth [h0, h1, h2, h3, h4] v ≤ at') = false := decide_eq_false e3
         rw [if_neg (by omega)] at HF
         obtain ⟨lv, hlv⟩ : ∃ lv, Hid (nth [l0, l1, l2, l3, l4] v = lv) := ⟨_, rfl⟩
         obtain ⟨hv, hhv⟩ : ∃ hv, Hid (nth [h0, h1, h2, h3, h4] v = hv) := ⟨_, rfl⟩
         rw [hlv.out] at lov d2 e2
         rw [hhv.out] at hiv d3 e3
         go_quiet (fail)
         go_wp2_with fail
         clear k0 k1 k2 k3 k4 k5 k6 n0 n1 n2 n3 lov hiv
         have hq := drewN_below W nq
         have E0 := D0.ext hq
         have E1 := D1.ext hq
         have hR3 := Blk.ext hR2 hq
         have hb3 := hb2.trans (hq.mono hb2.size)
         have hbut3 := hbut2.ext hq
         clear D0 D1 hR2 hb2 hbut2 hq hal
         generalize W.drewN nq = V at *
         have b0 : V.cell? ⟨w.heap.size, 0, .none⟩ = some (.int .i64 l0) := E1.cell 0 (by simp)
         have b1 : V.cell? ⟨w.heap.size, 1, .none⟩ = some (.int .i64 l1) := E1.cell 1 (by simp)
         have b2 : V.cell? ⟨w.heap.size, 2, .none⟩ = some (.int .i64 l2) := E1.cell 2 (by simp)
         have b3 : V.cell? ⟨w.heap.size, 3, .none⟩ = some (.int .i64 l3) := E1.cell 3 (by simp)
         have b4 : V.cell? ⟨w.heap.size, 4, .none⟩ = some (.int .i64 l4) := E1.cell 4 (by simp)
         have b5 : V.cell? ⟨w.heap.size, 5, .none⟩ = some (.int .i64 h0) := E1.cell 5 (by simp)
         have b6 : V.cell? ⟨w.heap.size, 6, .none⟩ = some (.int .i64 h1) := E1.cell 6 (by simp)
         have b7 : V.cell? ⟨w.heap.size, 7, .none⟩ = some (.int .i64 h2) := E1.cell 7 (by simp)
         have b8 : V.cell? ⟨w.heap.size, 8, .none⟩ = some (.int .i64 h3) := E1.cell 8 (by simp)
         have b9 : V.cell? ⟨w.heap.size, 9, .none⟩ = some (.int .i64 h4) := E1.cell 9 (by simp)
         have wl := E1.lt
         have wl0 := E0.lt
         have ne1 : ¬ w.heap.size = V.heap.size := by omega
         have ne2 : ¬ w.heap.size = V.heap.size + 1 := by omega
         have ne3 : ¬ V.heap.size = w.heap.size := by omega
         have ne4 : ¬ V.heap.size + 1 = w.heap.size := by omega
         have wl2 : w.heap.size < V.heap.size + 1 := by omega
         go_cut [8, 9] (fun s8 s9 wx => ∃ p8 p9, s8 = .pointer (some ⟨p8, 0, .none⟩) ∧ s9 = .pointer (some ⟨p9, 0, .none⟩) ∧ V.heap.size ≤ p8 ∧ V.heap.size ≤ p9 ∧ p8 ≠ p9 ∧ Blk wx p8 [.int .i64 l0, .int .i64 l1, .int .i64 l2, .int .i64 l3, .int .i64 l4, .int .i64 h0, .int .i64 h1, .int .i64 h2, .int .i64 h3, .int .i64 h4] 186 ∧ Blk wx p9 [.int .i64 l0, .int .i64 l1, .int .i64 l2, .int .i64 l3, .int .i64 l4, .int .i64 h0, .int .i64 h1, .int .i64 h2, .int .i64 h3, .int .i64 h4] 186 ∧ Below V.heap.size V wx)
         case first =>
          have P0 : Blk ((V.alloc (.cells #[.int .i64 l0, .int .i64 l1, .int .i64 l2, .int .i64 l3, .int .i64 l4, .int .i64 h0, .int .i64 h1, .int .i64 h2, .int .i64 h3, .int .i64 h4] 186 (0, 0))).alloc (.cells #[.int .i64 l0, .int .i64 l1, .int .i64 l2, .int .i64 l3, .int .i64 l4, .int .i64 h0, .int .i64 h1, .int .i64 h2, .int .i64 h3, .int .i64 h4] 186 (0, 0))).drew V.heap.size [.int .i64 l0, .int .i64 l1, .int .i64 l2, .int .i64 l3, .int .i64 l4, .int .i64 h0, .int .i64 h1, .int .i64 h2, .int .i64 h3, .int .i64 h4] 186 := (Blk.new V [.int .i64 l0, .int .i64 l1, .int .i64 l2, .int .i64 l3, .int .i64 l4, .int .i64 h0, .int .i64 h1, .int .i64 h2, .int .i64 h3, .int .i64 h4] _).alloc _
          have P1 : Blk ((V.alloc (.cells #[.int .i64 l0, .int .i64 l1, .int .i64 l2, .int .i64 l3, .int .i64 l4, .int .i64 h0, .int .i64 h1, .int .i64 h2, .int .i64 h3, .int .i64 h4] 186 (0, 0))).alloc (.cells #[.int .i64 l0, .int .i64 l1, .int .i64 l2, .int .i64 l3, .int .i64 l4, .int .i64 h0, .int .i64 h1, .int .i64 h2, .int .i64 h3, .int .i64 h4] 186 (0, 0))).drew (V.heap.size + 1) [.int .i64 l0, .int .i64 l1, .int .i64 l2, .int .i64 l3, .int .i64 l4, .int .i64 h0, .int .i64 h1, .int .i64 h2, .int .i64 h3, .int .i64 h4] 186 := Blk.new' _ [.int .i64 l0, .int .i64 l1, .int .i64 l2, .int .i64 l3, .int .i64 l4, .int .i64 h0, .int .i64 h1, .int .i64 h2, .int .i64 h3, .int .i64 h4] _ _ (by simp)
          have PB : Below V.heap.size V ((V.alloc (.cells #[.int .i64 l0, .int .i64 l1, .int .i64 l2, .int .i64 l3, .int .i64 l4, .int .i64 h0, .int .i64 h1, .int .i64 h2, .int .i64 h3, .int .i64 h4] 186 (0, 0))).alloc (.cells #[.int .i64 l0, .int .i64 l1, .int .i64 l2, .int .i64 l3, .int .i64 l4, .int .i64 h0, .int .i64 h1, .int .i64 h2, .int .i64 h3, .int .i64 h4] 186 (0, 0))).drew := (((Below.refl _ V).alloc (Nat.le_refl _) _).alloc (by simp) _).drew
          go_region
          all_goals
           go_wp2_with fail
           go_meet
           first
            | exact ⟨V.heap.size, V.heap.size + 1, rfl, rfl, by omega, by omega, by omega, P0, P1, PB⟩
            | exact ⟨V.heap.size + 1, V.heap.size, rfl, rfl, by omega, by omega, by omega, P1, P0, PB⟩
         case rest =>
          obtain ⟨p8, p9, rfl, rfl, g8, g9, gne, D8, D9, hbv⟩ := hcut
          have F0 := E0.ext hbv
          have f0 := F0.cell 0 (by simp)
          have f1 := F0.cell 1 (by simp)
          simp only [List.getElem_cons_zero, List.getElem_cons_succ] at f0 f1
          have q8 := D8.cell (5 + v) (by simp; omega)
          have q9 := D9.cell v (by simp; omega)
          have fr8 := D8.free
          have fr9 := D9.free
          have m1 : ¬ w1.heap.size = p8 := by omega
          have m2 : ¬ w1.heap.size = p9 := by omega
          have m3 : ¬ p8 = p9 := gne
          have m4 : ¬ p9 = p8 := fun h => gne h.symm
          have a1 : -9223372036854775808 ≤ at' + 1 := by have := hlo.nth v; have := hlv.out; omega
          have a2 : at' + 1 ≤ 9223372036854775807 := by have := hhi.nth v; have := hhv.out; omega
          clear b0 b1 b2 b3 b4 b5 b6 b7 b8 b9
          generalize ([.int .i64 l0, .int .i64 l1, .int .i64 l2, .int .i64 l3, .int .i64 l4, .int .i64 h0, .int .i64 h1, .int .i64 h2, .int .i64 h3, .int .i64 h4] : List Value)[5 + v]'(by simp; omega) = z8 at q8
          generalize ([.int .i64 l0, .int .i64 l1, .int .i64 l2, .int .i64 l3, .int .i64 l4, .int .i64 h0, .int .i64 h1, .int .i64 h2, .int .i64 h3, .int .i64 h4] : List Value)[v]'(by simp; omega) = z9 at q9
          go_upto_region 10 with (fail)
          go_cut [] (fun wy => Blk wy p8 ([.int .i64 l0, .int .i64 l1, .int .i64 l2, .int .i64 l3, .int .i64 l4, .int .i64 h0, .int .i64 h1, .int .i64 h2, .int .i64 h3, .int .i64 h4].set (5 + v) (.int .i64 at')) 186 ∧ Blk wy p9 ([.int .i64 l0, .int .i64 l1, .int .i64 l2, .int .i64 l3, .int .i64 l4, .int .i64 h0, .int .i64 h1, .int .i64 h2, .int .i64 h3, .int .i64 h4].set v (.int .i64 (at' + 1))) 186 ∧ Below V.heap.size V wy)
          case first =>
           go_region
           all_goals
            go_wp2_with fail
            go_meet
            first
             | exact ⟨Blk.other (D8.set (5 + v) _) _ _ (by dsimp only; omega), Blk.set (Blk.other D9 _ _ (by dsimp only; omega)) v _, ((hbv.setCell (by dsimp only; omega) _).setCell (by dsimp only; omega) _).drew⟩
             | exact ⟨Blk.set (Blk.other D8 _ _ (by dsimp only; omega)) (5 + v) _, Blk.other (D9.set v _) _ _ (by dsimp only; omega), ((hbv.setCell (by dsimp only; omega) _).setCell (by dsimp only; omega) _).drew⟩
          case rest =>
           obtain ⟨Q8, Q9, hby⟩ := hcut
           have hlvn := hlv.out
           have hhvn := hhv.out
           have hlo9 := hlo.set v (x := at' + 1) (by have := hhi.nth v; have := hlo.nth v; omega)
           have hhi8 := hhi.set v (x := at') (by have := hhi.nth v; have := hlo.nth v; omega)
           have hR4 := Blk.ext hR3 hby
           have hb4 := hb3.trans (hby.mono hb3.size)
           have hbut4 := hbut3.ext hby
           have rV := Blk.lt hR3
           have IH := Lib.hid ih
           clear ih q8 q9 fr8 fr9 D8 D9 f0 f1 F0 hbv E0 E1 hR3 hb3 hbut3 m1 m2 m3 m4 a1 a2 hlvn hhvn d1 d2 d3 hva2 e1 e2 e3 ne1 ne2 ne3 ne4 wl wl0 wl2 hlv hhv
           obtain rfl | rfl | rfl | rfl | rfl : v = 0 ∨ v = 1 ∨ v = 2 ∨ v = 3 ∨ v = 4 := by omega
           ·simp only [List.set_cons_zero, List.set_cons_succ, Nat.reduceAdd] at Q8 Q9 hlo9 hhi8 HF
            have s0 := Q8.cell 0 (by simp)
            have s1 := Q8.cell 1 (by simp)
            have s2 := Q8.cell 2 (by simp)
            have s3 := Q8.cell 3 (by simp)
            have s4 := Q8.cell 4 (by simp)
            have s5 := Q8.cell 5 (by simp)
            have s6 := Q8.cell 6 (by simp)
            have s7 := Q8.cell 7 (by simp)
            have s8 := Q8.cell 8 (by simp)
            have s9 := Q8.cell 9 (by simp)
            simp only [List.getElem_cons_zero, List.getElem_cons_succ] at s0 s1 s2 s3 s4 s5 s6 s7 s8 s9
            have ih1 := IH.out L _ _ _ _ _ _ _ _ _ _ X1 cx1 wc (by simpa using hk) hc1 hm1 hR4 hN1 hb4 hlo hhi8
            obtain ⟨R, hRR⟩ : ∃ R, readF a b c cost none k L [l0, l1, l2, l3, l4] [at', h1, h2, h3, h4] = R := ⟨_, rfl⟩
            rw [hRR] at ih1
            have HF1 : F = if R.1 = true then readF a b c cost none k R.2 [at' + 1, l1, l2, l3, l4] [h0, h1, h2, h3, h4] else (false, R.2) := by rw [← hRR]; exact HF.out
            have HF0 := HF
            clear HF HF0
            have HF := Lib.hid HF1
            clear HF1
            have hlen : R.2.length ≤ L.length := by rw [← hRR]; exact readF_len _ _ _ _ _ _ _ _ _
            clear hRR
            have hkk : L.length < k := by simpa using hk
            go_wp2_with fail
            refine ih1.mono ?_
            obtain ⟨b1, L1⟩ := R
            rintro e w3 ⟨rfl, X3, cx3, hR5, hc3, hm3, hN3, hbut5⟩
            have hb5 : Below w0.heap.size w0 w3 := hb4.trans (hbut5.below hr0 hb4.size)
            have Q9b := Q9.but hbut5 (by omega)
            have t0 := Q9b.cell 0 (by simp)
            have t1 := Q9b.cell 1 (by simp)
            have t2 := Q9b.cell 2 (by simp)
            have t3 := Q9b.cell 3 (by simp)
            have t4 := Q9b.cell 4 (by simp)
            have t5 := Q9b.cell 5 (by simp)
            have t6 := Q9b.cell 6 (by simp)
            have t7 := Q9b.cell 7 (by simp)
            have t8 := Q9b.cell 8 (by simp)
            have t9 := Q9b.cell 9 (by simp)
            simp only [List.getElem_cons_zero, List.getElem_cons_succ] at t0 t1 t2 t3 t4 t5 t6 t7 t8 t9
            have hbut7 := hbut4.trans hbut5
            clear ih1 s0 s1 s2 s3 s4 s5 s6 s7 s8 s9 Q8 Q9 Q9b
            dsimp only at hR5 hc3 hN3 hlen
            cases b1
            ·have hF2 := HF.out
             rw [if_neg (by simp)] at hF2
             have HF3 := Lib.hid hF2
             clear hF2 HF
             go_wp2_with fail
             go_ret
             rw [HF3.out]
             exact ⟨rfl, X3, cx3, hR5, hc3, hm3, hN3, hbut7⟩
            ·have hF2 := HF.out
             rw [if_pos rfl] at hF2
             have HF3 := Lib.hid hF2
             clear hF2 HF
             have ih2 := IH.out L1 _ _ _ _ _ _ _ _ _ _ X3 cx3 w3 (by omega) hc3 hm3 hR5 hN3 hb5 hlo9 hhi
             go_wp2_with fail
             refine ih2.mono ?_
             rintro e w4 ⟨rfl, X4, cx4, hR6, hc4, hm4, hN4, hbut6⟩
             go_wp2_with fail
             go_ret
             rw [HF3.out]
             exact ⟨rfl, X4, cx4, hR6, hc4, hm4, hN4, hbut7.trans hbut6⟩
           ·simp only [List.set_cons_zero, List.set_cons_succ, Nat.reduceAdd] at Q8 Q9 hlo9 hhi8 HF
            have s0 := Q8.cell 0 (by simp)
            have s1 := Q8.cell 1 (by simp)
            have s2 := Q8.cell 2 (by simp)
            have s3 := Q8.cell 3 (by simp)
            have s4 := Q8.cell 4 (by simp)
            have s5 := Q8.cell 5 (by simp)
            have s6 := Q8.cell 6 (by simp)
            have s7 := Q8.cell 7 (by simp)
            have s8 := Q8.cell 8 (by simp)
            have s9 := Q8.cell 9 (by simp)
            simp only [List.getElem_cons_zero, List.getElem_cons_succ] at s0 s1 s2 s3 s4 s5 s6 s7 s8 s9
            have ih1 := IH.out L _ _ _ _ _ _ _ _ _ _ X1 cx1 wc (by simpa using hk) hc1 hm1 hR4 hN1 hb4 hlo hhi8
            obtain ⟨R, hRR⟩ : ∃ R, readF a b c cost none k L [l0, l1, l2, l3, l4] [h0, at', h2, h3, h4] = R := ⟨_, rfl⟩
            rw [hRR] at ih1
            have HF1 : F = if R.1 = true then readF a b c cost none k R.2 [l0, at' + 1, l2, l3, l4] [h0, h1, h2, h3, h4] else (false, R.2) := by rw [← hRR]; exact HF.out
            have HF0 := HF
            clear HF HF0
            have HF := Lib.hid HF1
            clear HF1
            have hlen : R.2.length ≤ L.length := by rw [← hRR]; exact readF_len _ _ _ _ _ _ _ _ _
            clear hRR
            have hkk : L.length < k := by simpa using hk
            go_wp2_with fail
            refine ih1.mono ?_
            obtain ⟨b1, L1⟩ := R
            rintro e w3 ⟨rfl, X3, cx3, hR5, hc3, hm3, hN3, hbut5⟩
            have hb5 : Below w0.heap.size w0 w3 := hb4.trans (hbut5.below hr0 hb4.size)
            have Q9b := Q9.but hbut5 (by omega)
            have t0 := Q9b.cell 0 (by simp)
            have t1 := Q9b.cell 1 (by simp)
            have t2 := Q9b.cell 2 (by simp)
            have t3 := Q9b.cell 3 (by simp)
            have t4 := Q9b.cell 4 (by simp)
            have t5 := Q9b.cell 5 (by simp)
            have t6 := Q9b.cell 6 (by simp)
            have t7 := Q9b.cell 7 (by simp)
            have t8 := Q9b.cell 8 (by simp)
            have t9 := Q9b.cell 9 (by simp)
            simp only [List.getElem_cons_zero, List.getElem_cons_succ] at t0 t1 t2 t3 t4 t5 t6 t7 t8 t9
            have hbut7 := hbut4.trans hbut5
            clear ih1 s0 s1 s2 s3 s4 s5 s6 s7 s8 s9 Q8 Q9 Q9b
            dsimp only at hR5 hc3 hN3 hlen
            cases b1
            ·have hF2 := HF.out
             rw [if_neg (by simp)] at hF2
             have HF3 := Lib.hid hF2
             clear hF2 HF
             go_wp2_with fail
             go_ret
             rw [HF3.out]
             exact ⟨rfl, X3, cx3, hR5, hc3, hm3, hN3, hbut7⟩
            ·have hF2 := HF.out
             rw [if_pos rfl] at hF2
             have HF3 := Lib.hid hF2
             clear hF2 HF
             have ih2 := IH.out L1 _ _ _ _ _ _ _ _ _ _ X3 cx3 w3 (by omega) hc3 hm3 hR5 hN3 hb5 hlo9 hhi
             go_wp2_with fail
             refine ih2.mono ?_
             rintro e w4 ⟨rfl, X4, cx4, hR6, hc4, hm4, hN4, hbut6⟩
             go_wp2_with fail
             go_ret
             rw [HF3.out]
             exact ⟨rfl, X4, cx4, hR6, hc4, hm4, hN4, hbut7.trans hbut6⟩
           ·simp only [List.set_cons_zero, List.set_cons_succ, Nat.reduceAdd] at Q8 Q9 hlo9 hhi8 HF
            have s0 := Q8.cell 0 (by simp)
            have s1 := Q8.cell 1 (by simp)
            have s2 := Q8.cell 2 (by simp)
            have s3 := Q8.cell 3 (by simp)
            have s4 := Q8.cell 4 (by simp)
            have s5 := Q8.cell 5 (by simp)
            have s6 := Q8.cell 6 (by simp)
            have s7 := Q8.cell 7 (by simp)
            have s8 := Q8.cell 8 (by simp)
            have s9 := Q8.cell 9 (by simp)
            simp only [List.getElem_cons_zero, List.getElem_cons_succ] at s0 s1 s2 s3 s4 s5 s6 s7 s8 s9
            have ih1 := IH.out L _ _ _ _ _ _ _ _ _ _ X1 cx1 wc (by simpa using hk) hc1 hm1 hR4 hN1 hb4 hlo hhi8
            obtain ⟨R, hRR⟩ : ∃ R, readF a b c cost none k L [l0, l1, l2, l3, l4] [h0, h1, at', h3, h4] = R := ⟨_, rfl⟩
            rw [hRR] at ih1
            have HF1 : F = if R.1 = true then readF a b c cost none k R.2 [l0, l1, at' + 1, l3, l4] [h0, h1, h2, h3, h4] else (false, R.2) := by rw [← hRR]; exact HF.out
            have HF0 := HF
            clear HF HF0
            have HF := Lib.hid HF1
            clear HF1
            have hlen : R.2.length ≤ L.length := by rw [← hRR]; exact readF_len _ _ _ _ _ _ _ _ _
            clear hRR
            have hkk : L.length < k := by simpa using hk
            go_wp2_with fail
            refine ih1.mono ?_
            obtain ⟨b1, L1⟩ := R
            rintro e w3 ⟨rfl, X3, cx3, hR5, hc3, hm3, hN3, hbut5⟩
            have hb5 : Below w0.heap.size w0 w3 := hb4.trans (hbut5.below hr0 hb4.size)
            have Q9b := Q9.but hbut5 (by omega)
            have t0 := Q9b.cell 0 (by simp)
            have t1 := Q9b.cell 1 (by simp)
            have t2 := Q9b.cell 2 (by simp)
            have t3 := Q9b.cell 3 (by simp)
            have t4 := Q9b.cell 4 (by simp)
            have t5 := Q9b.cell 5 (by simp)
            have t6 := Q9b.cell 6 (by simp)
            have t7 := Q9b.cell 7 (by simp)
            have t8 := Q9b.cell 8 (by simp)
            have t9 := Q9b.cell 9 (by simp)
            simp only [List.getElem_cons_zero, List.getElem_cons_succ] at t0 t1 t2 t3 t4 t5 t6 t7 t8 t9
            have hbut7 := hbut4.trans hbut5
            clear ih1 s0 s1 s2 s3 s4 s5 s6 s7 s8 s9 Q8 Q9 Q9b
            dsimp only at hR5 hc3 hN3 hlen
            cases b1
            ·have hF2 := HF.out
             rw [if_neg (by simp)] at hF2
             have HF3 := Lib.hid hF2
             clear hF2 HF
             go_wp2_with fail
             go_ret
             rw [HF3.out]
             exact ⟨rfl, X3, cx3, hR5, hc3, hm3, hN3, hbut7⟩
            ·have hF2 := HF.out
             rw [if_pos rfl] at hF2
             have HF3 := Lib.hid hF2
             clear hF2 HF
             have ih2 := IH.out L1 _ _ _ _ _ _ _ _ _ _ X3 cx3 w3 (by omega) hc3 hm3 hR5 hN3 hb5 hlo9 hhi
             go_wp2_with fail
             refine ih2.mono ?_
             rintro e w4 ⟨rfl, X4, cx4, hR6, hc4, hm4, hN4, hbut6⟩
             go_wp2_with fail
             go_ret
             rw [HF3.out]
             exact ⟨rfl, X4, cx4, hR6, hc4, hm4, hN4, hbut7.trans hbut6⟩
           ·simp only [List.set_cons_zero, List.set_cons_succ, Nat.reduceAdd] at Q8 Q9 hlo9 hhi8 HF
            have s0 := Q8.cell 0 (by simp)
            have s1 := Q8.cell 1 (by simp)
            have s2 := Q8.cell 2 (by simp)
            have s3 := Q8.cell 3 (by simp)
            have s4 := Q8.cell 4 (by simp)
            have s5 := Q8.cell 5 (by simp)
            have s6 := Q8.cell 6 (by simp)
            have s7 := Q8.cell 7 (by simp)
            have s8 := Q8.cell 8 (by simp)
            have s9 := Q8.cell 9 (by simp)
            simp only [List.getElem_cons_zero, List.getElem_cons_succ] at s0 s1 s2 s3 s4 s5 s6 s7 s8 s9
            have ih1 := IH.out L _ _ _ _ _ _ _ _ _ _ X1 cx1 wc (by simpa using hk) hc1 hm1 hR4 hN1 hb4 hlo hhi8
            obtain ⟨R, hRR⟩ : ∃ R, readF a b c cost none k L [l0, l1, l2, l3, l4] [h0, h1, h2, at', h4] = R := ⟨_, rfl⟩
            rw [hRR] at ih1
            have HF1 : F = if R.1 = true then readF a b c cost none k R.2 [l0, l1, l2, at' + 1, l4] [h0, h1, h2, h3, h4] else (false, R.2) := by rw [← hRR]; exact HF.out
            have HF0 := HF
            clear HF HF0
            have HF := Lib.hid HF1
            clear HF1
            have hlen : R.2.length ≤ L.length := by rw [← hRR]; exact readF_len _ _ _ _ _ _ _ _ _
            clear hRR
            have hkk : L.length < k := by simpa using hk
            go_wp2_with fail
            refine ih1.mono ?_
            obtain ⟨b1, L1⟩ := R
            rintro e w3 ⟨rfl, X3, cx3, hR5, hc3, hm3, hN3, hbut5⟩
            have hb5 : Below w0.heap.size w0 w3 := hb4.trans (hbut5.below hr0 hb4.size)
            have Q9b := Q9.but hbut5 (by omega)
            have t0 := Q9b.cell 0 (by simp)
            have t1 := Q9b.cell 1 (by simp)
            have t2 := Q9b.cell 2 (by simp)
            have t3 := Q9b.cell 3 (by simp)
            have t4 := Q9b.cell 4 (by simp)
            have t5 := Q9b.cell 5 (by simp)
            have t6 := Q9b.cell 6 (by simp)
            have t7 := Q9b.cell 7 (by simp)
            have t8 := Q9b.cell 8 (by simp)
            have t9 := Q9b.cell 9 (by simp)
            simp only [List.getElem_cons_zero, List.getElem_cons_succ] at t0 t1 t2 t3 t4 t5 t6 t7 t8 t9
            have hbut7 := hbut4.trans hbut5
            clear ih1 s0 s1 s2 s3 s4 s5 s6 s7 s8 s9 Q8 Q9 Q9b
            dsimp only at hR5 hc3 hN3 hlen
            cases b1
            ·have hF2 := HF.out
             rw [if_neg (by simp)] at hF2
             have HF3 := Lib.hid hF2
             clear hF2 HF
             go_wp2_with fail
             go_ret
             rw [HF3.out]
             exact ⟨rfl, X3, cx3, hR5, hc3, hm3, hN3, hbut7⟩
            ·have hF2 := HF.out
             rw [if_pos rfl] at hF2
             have HF3 := Lib.hid hF2
             clear hF2 HF
             have ih2 := IH.out L1 _ _ _ _ _ _ _ _ _ _ X3 cx3 w3 (by omega) hc3 hm3 hR5 hN3 hb5 hlo9 hhi
             go_wp2_with fail
             refine ih2.mono ?_
             rintro e w4 ⟨rfl, X4, cx4, hR6, hc4, hm4, hN4, hbut6⟩
             go_wp2_with fail
             go_ret
             rw [HF3.out]
             exact ⟨rfl, X4, cx4, hR6, hc4, hm4, hN4, hbut7.trans hbut6⟩
           ·simp only [List.set_cons_zero, List.set_cons_succ, Nat.reduceAdd] at Q8 Q9 hlo9 hhi8 HF
            have s0 := Q8.cell 0 (by simp)
            have s1 := Q8.cell 1 (by simp)
            have s2 := Q8.cell 2 (by simp)
            have s3 := Q8.cell 3 (by simp)
            have s4 := Q8.cell 4 (by simp)
            have s5 := Q8.cell 5 (by simp)
            have s6 := Q8.cell 6 (by simp)
            have s7 := Q8.cell 7 (by simp)
            have s8 := Q8.cell 8 (by simp)
            have s9 := Q8.cell 9 (by simp)
            simp only [List.getElem_cons_zero, List.getElem_cons_succ] at s0 s1 s2 s3 s4 s5 s6 s7 s8 s9
            have ih1 := IH.out L _ _ _ _ _ _ _ _ _ _ X1 cx1 wc (by simpa using hk) hc1 hm1 hR4 hN1 hb4 hlo hhi8
            obtain ⟨R, hRR⟩ : ∃ R, readF a b c cost none k L [l0, l1, l2, l3, l4] [h0, h1, h2, h3, at'] = R := ⟨_, rfl⟩
            rw [hRR] at ih1
            have HF1 : F = if R.1 = true then readF a b c cost none k R.2 [l0, l1, l2, l3, at' + 1] [h0, h1, h2, h3, h4] else (false, R.2) := by rw [← hRR]; exact HF.out
            have HF0 := HF
            clear HF HF0
            have HF := Lib.hid HF1
            clear HF1
            have hlen : R.2.length ≤ L.length := by rw [← hRR]; exact readF_len _ _ _ _ _ _ _ _ _
            clear hRR
            have hkk : L.length < k := by simpa using hk
            go_wp2_with fail
            refine ih1.mono ?_
            obtain ⟨b1, L1⟩ := R
            rintro e w3 ⟨rfl, X3, cx3, hR5, hc3, hm3, hN3, hbut5⟩
            have hb5 : Below w0.heap.size w0 w3 := hb4.trans (hbut5.below hr0 hb4.size)
            have Q9b := Q9.but hbut5 (by omega)
            have t0 := Q9b.cell 0 (by simp)
            have t1 := Q9b.cell 1 (by simp)
            have t2 := Q9b.cell 2 (by simp)
            have t3 := Q9b.cell 3 (by simp)
            have t4 := Q9b.cell 4 (by simp)
            have t5 := Q9b.cell 5 (by simp)
            have t6 := Q9b.cell 6 (by simp)
            have t7 := Q9b.cell 7 (by simp)
            have t8 := Q9b.cell 8 (by simp)
            have t9 := Q9b.cell 9 (by simp)
            simp only [List.getElem_cons_zero, List.getElem_cons_succ] at t0 t1 t2 t3 t4 t5 t6 t7 t8 t9
            have hbut7 := hbut4.trans hbut5
            clear ih1 s0 s1 s2 s3 s4 s5 s6 s7 s8 s9 Q8 Q9 Q9b
            dsimp only at hR5 hc3 hN3 hlen
            cases b1
            ·have hF2 := HF.out
             rw [if_neg (by simp)] at hF2
             have HF3 := Lib.hid hF2
             clear hF2 HF
             go_wp2_with fail
             go_ret
             rw [HF3.out]
             exact ⟨rfl, X3, cx3, hR5, hc3, hm3, hN3, hbut7⟩
            ·have hF2 := HF.out
             rw [if_pos rfl] at hF2
             have HF3 := Lib.hid hF2
             clear hF2 HF
             have ih2 := IH.out L1 _ _ _ _ _ _ _ _ _ _ X3 cx3 w3 (by omega) hc3 hm3 hR5 hN3 hb5 hlo9 hhi
             go_wp2_with fail
             refine ih2.mono ?_
             rintro e w4 ⟨rfl, X4, cx4, hR6, hc4, hm4, hN4, hbut6⟩
             go_wp2_with fail
             go_ret
             rw [HF3.out]
             exact ⟨rfl, X4, cx4, hR6, hc4, hm4, hN4, hbut7.trans hbut6⟩
end Go.Proofs.YtkljafmdbajfeaaGreatDoor
