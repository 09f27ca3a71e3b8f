/- tinplateref02.tree. -/
import Derived.Test.YtbdlfjhhgnhejaaTA
import Derived.Test.YtbdlfjhhgnhejaaReadB
namespace Go.Proofs.Ytbdlfjhhgnhejaa
open Go.RowKit
set_option linter.unusedVariables false
set_option linter.unusedSimpArgs false

theorem readF_suffix (a : List (List Int)) (b c : List Int) (cost : Int) (none : Bool) : ∀ (k : Nat) (L : List Nd) (lo hi : List Int), (readF a b c cost none k L lo hi).2 <:+ L
  | 0, L, _, _ => List.suffix_refl L
  | _ + 1, [], _, _ => List.suffix_refl []
  | k + 1, n :: L, lo, hi => by
    simp only [readF]
    split
    · exact List.suffix_cons n L
    · split
      · exact List.suffix_cons n L
      · have h1 := readF_suffix a b c cost none k L lo (hi.set n.va.toNat n.at')
        split
        · exact ((readF_suffix a b c cost none k _ (lo.set n.va.toNat (n.at' + 1)) hi).trans h1).trans (List.suffix_cons n L)
        · exact h1.trans (List.suffix_cons n L)

theorem nth_set (l : List Int) (v j : Nat) (x : Int) (hv : v < l.length) : nth (l.set v x) j = if j = v then x else nth l j := by
  unfold nth
  rw [List.getD_eq_getElem?_getD, List.getD_eq_getElem?_getD, List.getElem?_set]
  by_cases e : j = v
  · subst e; simp [hv]
  · simp [e, Ne.symm e]
theorem set_same {n : Nat} {l l5 : List Int} (h5 : n ≤ l5.length) (h : l.length = n ∧ ∀ j, j < n → nth l j = nth l5 j) (v : Nat) (x : Int) : (l.set v x).length = n ∧ ∀ j, j < n → nth (l.set v x) j = nth (l5.set v x) j := by
  refine ⟨by rw [List.length_set]; exact h.1, fun j hj => ?_⟩
  by_cases hv : v < n
  · rw [nth_set _ _ _ _ (by omega), nth_set _ _ _ _ (by omega), h.2 j hj]
  · rw [List.set_eq_of_length_le (by omega), h.2 j hj]
    unfold nth
    rw [List.getD_eq_getElem?_getD, List.getD_eq_getElem?_getD, List.getElem?_set_ne (by omega)]

/-- What the tree answers: the place behind it. -/
def treeV (n : Nat) (R : Bool × List Nd) : Int := if R.1 then ((n - R.2.length : Nat) : Int) else -1
theorem treeV_no (n : Nat) (L : List Nd) : treeV n (false, L) = -1 := rfl
theorem treeV_yes (n : Nat) (L : List Nd) : treeV n (true, L) = ((n - L.length : Nat) : Int) := rfl

set_option maxRecDepth 100000 in
set_option maxHeartbeats 1000000 in
theorem tree_neg (A B C U X LO HI : Option Addr) (na ca nb cb nc cc nu cu nx cx nl cl nh ch : Nat) (feas : Bool) (cost : Int) (w : World) :
    Calls Try.prog 24 #[.agg #[.slice A na ca, .slice B nb cb, .slice C nc cc, .slice U nu cu], .slice X nx cx, .int .i64 (-1), .slice LO nl cl, .slice HI nh ch, .bool feas, .int .i64 cost] w fun e w' => e = .returned (.int .i64 (-1)) ∧ Below w.heap.size w w' := by
  go_enter Try.func24, Try.ntmps24
  go_wp2_with fail
  go_ret
  exact ⟨rfl, (Below.refl _ _).alloc (Nat.le_refl _) _⟩
set_option maxRecDepth 100000 in
set_option maxHeartbeats 1000000 in
theorem tree_over (A B C U X LO HI : Option Addr) (na ca nb cb nc cc nu cu nx cx nl cl nh ch : Nat) (feas : Bool) (cost : Int) (w : World) :
    Calls Try.prog 24 #[.agg #[.slice A na ca, .slice B nb cb, .slice C nc cc, .slice U nu cu], .slice X nx cx, .int .i64 nx, .slice LO nl cl, .slice HI nh ch, .bool feas, .int .i64 cost] w fun e w' => e = .returned (.int .i64 (-1)) ∧ Below w.heap.size w w' := by
  have h0 : decide ((nx : Int) < 0) = false := decide_eq_false (by omega)
  have h1 : decide ((nx : Int) ≤ nx) = true := decide_eq_true (by omega)
  go_enter Try.func24, Try.ntmps24
  go_wp2_with fail
  go_ret
  exact ⟨rfl, (Below.refl _ _).alloc (Nat.le_refl _) _⟩

set_option maxRecDepth 100000 in
set_option maxHeartbeats 4000000 in
theorem tree_calls (A B C U X : Option Addr) (ca cb cc cu cx : Nat) (a : List (List Int)) (b c u : List Int) (L : List Nd) (feas : Bool) (cost : Int) (hok : progOk a b c = true) (hc5 : c.length ≤ 5) (hL : L.length ≤ 65535) (hcost : -9223372036854775808 ≤ cost ∧ cost ≤ 9223372036854775807) :
    ∀ (k j : Nat) (lo hi lo5 hi5 : List Int) (LO HI : Option Addr) (cl ch : Nat) (w : World), L.length - j < k → j ≤ L.length → Who w A B C U a b c u → Nodes w X L → Ints w LO lo → Ints w HI hi → EndsOk lo5 → EndsOk hi5 →
      (lo.length = c.length ∧ ∀ j, j < c.length → nth lo j = nth lo5 j) → (hi.length = c.length ∧ ∀ j, j < c.length → nth hi j = nth hi5 j) →
      Calls Try.prog 24 #[.agg #[.slice A a.length ca, .slice B b.length cb, .slice C c.length cc, .slice U u.length cu], .slice X L.length cx, .int .i64 j, .slice LO lo.length cl, .slice HI hi.length ch, .bool feas, .int .i64 cost] w fun e w' =>
        e = .returned (.int .i64 (treeV L.length (readF a b c cost (!feas) k (L.drop j) lo5 hi5))) ∧ Below w.heap.size w w' := by
  intro k
  induction k with
  | zero => intro j lo hi lo5 hi5 LO HI cl ch w h; omega
  | succ k ih =>
    intro j lo hi lo5 hi5 LO HI cl ch w hk hj hw hN hLO hHI hlo5 hhi5 hlo hhi
    rcases Nat.lt_or_ge j L.length with hlt | hge
    · obtain ⟨bx, ox, Y, cy, rfl, n0, n1, n2, n3, hY, hyl⟩ := hN j hlt
      have hdrop : L.drop j = L[j] :: L.drop (j + 1) := List.drop_eq_getElem_cons hlt
      obtain ⟨R, hR⟩ : ∃ R, readF a b c cost (!feas) (k + 1) (L.drop j) lo5 hi5 = R := ⟨_, rfl⟩
      rw [hR]
      rw [hdrop] at hR
      simp only [readF] at hR
      generalize L[j] = nd at *
      obtain ⟨va, at', ys, d⟩ := nd
      dsimp only at n0 n1 n2 n3 hY hyl hR
      have HR := Lib.hid hR
      have hb0 : Below w.heap.size w (w.alloc (.cells #[.slice A a.length ca, .slice B b.length cb, .slice C c.length cc, .slice U u.length cu] 25 (0, 0))) := (Below.refl _ _).alloc (Nat.le_refl _) _
      have B0 : Blk (w.alloc (.cells #[.slice A a.length ca, .slice B b.length cb, .slice C c.length cc, .slice U u.length cu] 25 (0, 0))) w.heap.size [.slice A a.length ca, .slice B b.length cb, .slice C c.length cc, .slice U u.length cu] 25 := Blk.new w _ _
      have HW := Lib.hid (hw.ext hb0); have HN := Lib.hid (hN.ext hb0); have HLO := Lib.hid (hLO.ext hb0); have HHI := Lib.hid (hHI.ext hb0); have HY := Lib.hid (hY.ext hb0)
      have m0 := (bcell hb0).1 _ _ (cell_lt n0) |>.trans n0
      have m1 := (bcell hb0).1 _ _ (cell_lt n1) |>.trans n1
      have m2 := (bcell hb0).1 _ _ (cell_lt n2) |>.trans n2
      have m3 := (bcell hb0).1 _ _ (cell_lt n3) |>.trans n3
      rw [Nat.mul_comm 4 j] at m0 m1 m2 m3
      have hz : (j : Int) < L.length := by omega
      have h0 : decide ((j : Int) < 0) = false := decide_eq_false (by omega)
      have h1 : decide ((L.length : Int) ≤ j) = false := decide_eq_false (by omega)
      have HL := Lib.hid hlo; have HH := Lib.hid hhi; have HL5 := Lib.hid hlo5; have HH5 := Lib.hid hhi5; have HIH := Lib.hid ih; have HOK := Lib.hid hok; have HYL := Lib.hid hyl
      have HBE := Lib.hid hb0
      clear hR hw hN hLO hHI hY n0 n1 n2 n3 hlo hhi hlo5 hhi5 ih hok hyl hdrop hb0
      by_cases hva : va < 0
      · have g0 : decide (va < 0) = true := decide_eq_true hva
        have HRE := HR.out
        rw [if_pos hva] at HRE
        have HR2 := Lib.hid HRE.symm; clear HRE HR
        have hb1 : Below (w.alloc (.cells #[.slice A a.length ca, .slice B b.length cb, .slice C c.length cc, .slice U u.length cu] 25 (0, 0))).heap.size (w.alloc (.cells #[.slice A a.length ca, .slice B b.length cb, .slice C c.length cc, .slice U u.length cu] 25 (0, 0))) ((w.alloc (.cells #[.slice A a.length ca, .slice B b.length cb, .slice C c.length cc, .slice U u.length cu] 25 (0, 0))).alloc (.cells #[.int .i64 va, .int .i64 at', .slice Y ys.length cy, .int .i64 d] 34 (0, 0))) := (Below.refl _ _).alloc (Nat.le_refl _) _
        have hb2 : Below w.heap.size w ((w.alloc (.cells #[.slice A a.length ca, .slice B b.length cb, .slice C c.length cc, .slice U u.length cu] 25 (0, 0))).alloc (.cells #[.int .i64 va, .int .i64 at', .slice Y ys.length cy, .int .i64 d] 34 (0, 0))) := ext_trans HBE.out hb1
        have G0 : GoodAt ((w.alloc (.cells #[.slice A a.length ca, .slice B b.length cb, .slice C c.length cc, .slice U u.length cu] 25 (0, 0))).alloc (.cells #[.int .i64 va, .int .i64 at', .slice Y ys.length cy, .int .i64 d] 34 (0, 0))) w.heap.size A B C U Y ca cb cc cu cy a b c u ys va at' d := ⟨(Blk.new w _ _).alloc _, Blk.new' _ [.int .i64 va, .int .i64 at', .slice Y ys.length cy, .int .i64 d] _ _ (by simp)⟩
        have HB2 := Lib.hid hb2; have HG0 := Lib.hid G0
        have HW1 := Lib.hid (HW.out.ext hb1); have HN1 := Lib.hid (HN.out.ext hb1); have HLO1 := Lib.hid (HLO.out.ext hb1); have HHI1 := Lib.hid (HHI.out.ext hb1); have HY1 := Lib.hid (HY.out.ext hb1)
        clear hb1 hb2 G0 HW HN HLO HHI HY HBE B0
        go_enter Try.func24, Try.ntmps24
        go_wp2_with fail
        generalize ((w.alloc (.cells #[.slice A a.length ca, .slice B b.length cb, .slice C c.length cc, .slice U u.length cu] 25 (0, 0))).alloc (.cells #[.int .i64 va, .int .i64 at', .slice Y ys.length cy, .int .i64 d] 34 (0, 0))) = W at *
        clear m0 m1 m2 m3
        refine (refGood_calls A B C U Y LO HI ca cb cc cu cy cl ch a b c u ys lo hi lo5 hi5 va at' d cost feas W HW1.out HY1.out HYL.out HLO1.out HHI1.out HOK.out hc5 HL5.out HH5.out HL.out HH.out hcost).mono ?_
        rintro e w1 ⟨rfl, hbx⟩
        have HX := Lib.hid (ext_trans HB2.out hbx)
        clear hbx HG0 HW1 HN1 HLO1 HHI1 HY1 HB2
        generalize goodB a b c cost (!feas) ys d lo5 hi5 = G at *
        have hdl : (L.drop (j + 1)).length = L.length - (j + 1) := List.length_drop
        have HD := Lib.hid hdl; clear hdl
        cases G
        · go_wp2_with fail
          go_ret
          exact ⟨by rw [HR2.out]; rfl, HX.out⟩
        · have hj1 : Hid ((j : Int) + 1 = ((L.length - (L.length - (j + 1)) : Nat) : Int)) := Lib.hid (by omega)
          go_wp2_with fail
          go_ret
          exact ⟨by rw [HR2.out, treeV_yes, HD.out, ← hj1.out]; go_num, HX.out⟩
      · obtain ⟨v, rfl⟩ : ∃ v : Nat, va = v := ⟨va.toNat, by omega⟩
        have g0 : decide ((v : Int) < 0) = false := decide_eq_false hva
        have HRE := HR.out
        rw [if_neg hva, Int.toNat_natCast] at HRE
        have HR2 := Lib.hid HRE.symm; clear HRE HR
        have hb1 : Below (w.alloc (.cells #[.slice A a.length ca, .slice B b.length cb, .slice C c.length cc, .slice U u.length cu] 25 (0, 0))).heap.size (w.alloc (.cells #[.slice A a.length ca, .slice B b.length cb, .slice C c.length cc, .slice U u.length cu] 25 (0, 0))) ((w.alloc (.cells #[.slice A a.length ca, .slice B b.length cb, .slice C c.length cc, .slice U u.length cu] 25 (0, 0))).alloc (.cells #[.int .i64 (v : Int), .int .i64 at', .slice Y ys.length cy, .int .i64 d] 34 (0, 0))) := (Below.refl _ _).alloc (Nat.le_refl _) _
        have hb2 : Below w.heap.size w ((w.alloc (.cells #[.slice A a.length ca, .slice B b.length cb, .slice C c.length cc, .slice U u.length cu] 25 (0, 0))).alloc (.cells #[.int .i64 (v : Int), .int .i64 at', .slice Y ys.length cy, .int .i64 d] 34 (0, 0))) := ext_trans HBE.out hb1
        have G0 : GoodAt ((w.alloc (.cells #[.slice A a.length ca, .slice B b.length cb, .slice C c.length cc, .slice U u.length cu] 25 (0, 0))).alloc (.cells #[.int .i64 (v : Int), .int .i64 at', .slice Y ys.length cy, .int .i64 d] 34 (0, 0))) w.heap.size A B C U Y ca cb cc cu cy a b c u ys (v : Int) at' d := ⟨(Blk.new w _ _).alloc _, Blk.new' _ [.int .i64 (v : Int), .int .i64 at', .slice Y ys.length cy, .int .i64 d] _ _ (by simp)⟩
        have HB2 := Lib.hid hb2; have HG0 := Lib.hid G0
        have HW1 := Lib.hid (HW.out.ext hb1); have HN1 := Lib.hid (HN.out.ext hb1); have HLO1 := Lib.hid (HLO.out.ext hb1); have HHI1 := Lib.hid (HHI.out.ext hb1); have HY1 := Lib.hid (HY.out.ext hb1)
        clear hb1 hb2 G0 HW HN HLO HHI HY HBE B0
        go_enter Try.func24, Try.ntmps24
        go_wp2_with fail
        generalize ((w.alloc (.cells #[.slice A a.length ca, .slice B b.length cb, .slice C c.length cc, .slice U u.length cu] 25 (0, 0))).alloc (.cells #[.int .i64 (v : Int), .int .i64 at', .slice Y ys.length cy, .int .i64 d] 34 (0, 0))) = W at *
        clear m0 m1 m2 m3
        have k0 : W.cell? ⟨w.heap.size, 0, none⟩ = some (.slice A a.length ca) := HG0.out.b0.cell 0 (by simp)
        have k1 : W.cell? ⟨w.heap.size, 1, none⟩ = some (.slice B b.length cb) := HG0.out.b0.cell 1 (by simp)
        have k2 : W.cell? ⟨w.heap.size, 2, none⟩ = some (.slice C c.length cc) := HG0.out.b0.cell 2 (by simp)
        have k3 : W.cell? ⟨w.heap.size, 3, none⟩ = some (.slice U u.length cu) := HG0.out.b0.cell 3 (by simp)
        have n0 : W.cell? ⟨w.heap.size + 1, 0, none⟩ = some (.int .i64 (v : Int)) := HG0.out.b1.cell 0 (by simp)
        have n1 : W.cell? ⟨w.heap.size + 1, 1, none⟩ = some (.int .i64 at') := HG0.out.b1.cell 1 (by simp)
        have HLL := Lib.hid HL.out.1
        have HHL := Lib.hid HH.out.1
        by_cases hv : v < lo.length
        · have t1 : decide ((lo.length : Int) ≤ v) = false := decide_eq_false (by omega)
          have hvh : v < hi.length := by have := HLL.out; have := HHL.out; omega
          obtain ⟨bL, oL, rfl, gL⟩ := HLO1.out v hv
          obtain ⟨bH, oH, rfl, gH⟩ := HHI1.out v hvh
          have hn1 : nth lo v = nth lo5 v := HL.out.2 v (by have := HLL.out; omega)
          have hn2 : nth hi v = nth hi5 v := HH.out.2 v (by have := HLL.out; omega)
          have HN1' := Lib.hid hn1; have HN2' := Lib.hid hn2; clear hn1 hn2
          have hvz : (v : Int) < lo.length := by omega
          have hvz2 : (v : Int) < hi.length := by omega
          by_cases ha : at' < nth lo v
          · have t2 : decide (at' < nth lo v) = true := decide_eq_true ha
            have HF : Hid ((c.length : Int) ≤ v ∨ at' < nth lo5 v ∨ nth hi5 v ≤ at') := Lib.hid (.inr (.inl (by rw [← HN1'.out]; exact ha)))
            refine wp_region_later (w0 := W) 25 [41, 42, 43, 44, 45, 46, 47, 48, 49, 50, 51, 52, 53, 54, 55, 56, 57, 58, 59, 60, 61, 62, 63, 64, 65]
              [leafS 41 (.pointer (some ⟨w.heap.size + 1, 0, none⟩)), leafS 42 (.int .i64 (v : Int)), leafS 43 (.slice (some ⟨bL, oL, none⟩) lo.length cl), leafS 44 (.int .i64 lo.length), leafS 45 (.bool false), leafS 46 (.bool false), leafS 47 (.pointer (some ⟨w.heap.size + 1, 1, none⟩)), leafS 48 (.int .i64 at'), leafS 49 (.slice (some ⟨bL, oL, none⟩) lo.length cl), leafS 50 (.pointer (some ⟨w.heap.size + 1, 0, none⟩)), leafS 51 (.int .i64 (v : Int)), leafS 52 (.pointer (some ⟨bL, oL + v, none⟩)), leafS 53 (.int .i64 (nth lo v)), leafS 54 (.bool true), leafS 55 (.bool true), leafS 56 (.bool true), leafS 57 (undef), leafS 58 (undef), leafS 59 (undef), leafS 60 (undef), leafS 61 (undef), leafS 62 (undef), leafS 63 (undef), leafS 64 (undef), leafS 65 (.bool true)]
              (fun w w' => Below w.heap.size w w') (by kernel_rfl) (by kernel_rfl) rfl (F := ?cFB) ?rBc1 (fun _ _ _ => ext_trans) (Below.refl _ _).drew ?rBc2 ?rBc3 ?rBc4
            case rBc1 =>
              intro x
              simp only [fullF, Act.put, List.setIfInBounds_toArray, List.set_cons_zero, List.set_cons_succ]
              rfl
            case rBc2 =>
              refine AllStay.mem ⟨stays_const _ _ _, stays_const _ _ _, stays_const _ _ _, stays_const _ _ _, stays_const _ _ _, stays_const _ _ _, stays_const _ _ _, stays_const _ _ _, stays_const _ _ _, stays_const _ _ _, stays_const _ _ _, stays_const _ _ _, stays_const _ _ _, stays_const _ _ _, stays_const _ _ _, stays_const _ _ _, stays_const _ _ _, stays_const _ _ _, stays_const _ _ _, stays_const _ _ _, stays_const _ _ _, stays_const _ _ _, stays_const _ _ _, stays_const _ _ _, stays_const _ _ _, trivial⟩
            case rBc3 =>
              refine ⟨?_, ?_, ?_, ?_, ?_, ?_, ?_, ?_, ?_, ?_, ?_, ?_, ?_, ?_, ?_, ?_, ?_, ?_, ?_, ?_, ?_, ?_, ?_, ?_, ?_, trivial⟩
              all_goals
                intro x w0 hE hd K hK
                have hc := (bcell hE).1
                have n0' := (hc _ _ (cell_lt n0)).trans n0
                have n1' := (hc _ _ (cell_lt n1)).trans n1
                have gL' := (hc _ _ (cell_lt gL)).trans gL
                have gH' := (hc _ _ (cell_lt gH)).trans gH
                try have e0 : x 41 = _ := hd 0 _ (by decide) rfl
                try have e1 : x 42 = _ := hd 1 _ (by decide) rfl
                try have e2 : x 43 = _ := hd 2 _ (by decide) rfl
                try have e3 : x 44 = _ := hd 3 _ (by decide) rfl
                try have e4 : x 45 = _ := hd 4 _ (by decide) rfl
                try have e5 : x 46 = _ := hd 5 _ (by decide) rfl
                try have e6 : x 47 = _ := hd 6 _ (by decide) rfl
                try have e7 : x 48 = _ := hd 7 _ (by decide) rfl
                try have e8 : x 49 = _ := hd 8 _ (by decide) rfl
                try have e9 : x 50 = _ := hd 9 _ (by decide) rfl
                try have e10 : x 51 = _ := hd 10 _ (by decide) rfl
                try have e11 : x 52 = _ := hd 11 _ (by decide) rfl
                try have e12 : x 53 = _ := hd 12 _ (by decide) rfl
                try have e13 : x 54 = _ := hd 13 _ (by decide) rfl
                try have e14 : x 55 = _ := hd 14 _ (by decide) rfl
                try have e15 : x 56 = _ := hd 15 _ (by decide) rfl
                try have e16 : x 57 = _ := hd 16 _ (by decide) rfl
                try have e17 : x 58 = _ := hd 17 _ (by decide) rfl
                try have e18 : x 59 = _ := hd 18 _ (by decide) rfl
                try have e19 : x 60 = _ := hd 19 _ (by decide) rfl
                try have e20 : x 61 = _ := hd 20 _ (by decide) rfl
                try have e21 : x 62 = _ := hd 21 _ (by decide) rfl
                try have e22 : x 63 = _ := hd 22 _ (by decide) rfl
                try have e23 : x 64 = _ := hd 23 _ (by decide) rfl
                try have e24 : x 65 = _ := hd 24 _ (by decide) rfl
                have HC := Lib.hid hc; have HE := Lib.hid hE
                clear hd hc hE
                go_simp
                try exact hK _ _ _ (Below.refl _ _) (upd_self _ _ _) (by dsimp only [Act.put]; first | rfl | (simp [*]; done))
            case rBc4 =>
              intro x w3 hE hG
              have e0 : x 41 = _ := hG 0 _ rfl
              have e1 : x 42 = _ := hG 1 _ rfl
              have e2 : x 43 = _ := hG 2 _ rfl
              have e3 : x 44 = _ := hG 3 _ rfl
              have e4 : x 45 = _ := hG 4 _ rfl
              have e5 : x 46 = _ := hG 5 _ rfl
              have e6 : x 47 = _ := hG 6 _ rfl
              have e7 : x 48 = _ := hG 7 _ rfl
              have e8 : x 49 = _ := hG 8 _ rfl
              have e9 : x 50 = _ := hG 9 _ rfl
              have e10 : x 51 = _ := hG 10 _ rfl
              have e11 : x 52 = _ := hG 11 _ rfl
              have e12 : x 53 = _ := hG 12 _ rfl
              have e13 : x 54 = _ := hG 13 _ rfl
              have e14 : x 55 = _ := hG 14 _ rfl
              have e15 : x 56 = _ := hG 15 _ rfl
              have e16 : x 57 = _ := hG 16 _ rfl
              have e17 : x 58 = _ := hG 17 _ rfl
              have e18 : x 59 = _ := hG 18 _ rfl
              have e19 : x 60 = _ := hG 19 _ rfl
              have e20 : x 61 = _ := hG 20 _ rfl
              have e21 : x 62 = _ := hG 21 _ rfl
              have e22 : x 63 = _ := hG 22 _ rfl
              have e23 : x 64 = _ := hG 23 _ rfl
              have e24 : x 65 = _ := hG 24 _ rfl
              have HX := Lib.hid (ext_trans HB2.out hE)
              clear hG hE k0 k1 k2 k3 n0 n1 HG0 HW1 HN1 HLO1 HHI1 HY1 HB2
              refine wpAny_done (by kernel_rfl) ?_ _
              try simp only [Exit.inBlock, Exit.then]
              rw [e0, e1, e2, e3, e4, e5, e6, e7, e8, e9, e10, e11, e12, e13, e14, e15, e16, e17, e18, e19, e20, e21, e22, e23, e24]
              clear e0 e1 e2 e3 e4 e5 e6 e7 e8 e9 e10 e11 e12 e13 e14 e15 e16 e17 e18 e19 e20 e21 e22 e23 e24
              go_wp2_with fail
              go_ret
              exact ⟨by rw [HR2.out, if_pos HF.out]; rfl, HX.out⟩
          · have t2 : decide (at' < nth lo v) = false := decide_eq_false ha
            obtain ⟨q3, t3⟩ : ∃ q : Bool, decide (nth hi v ≤ at') = q := ⟨_, rfl⟩
            have HQ3 := Lib.hid t3
            have HA := Lib.hid ha; clear ha
            refine wp_region_later (w0 := W) 25 [41, 42, 43, 44, 45, 46, 47, 48, 49, 50, 51, 52, 53, 54, 55, 56, 57, 58, 59, 60, 61, 62, 63, 64, 65]
              [leafS 41 (.pointer (some ⟨w.heap.size + 1, 0, none⟩)), leafS 42 (.int .i64 (v : Int)), leafS 43 (.slice (some ⟨bL, oL, none⟩) lo.length cl), leafS 44 (.int .i64 lo.length), leafS 45 (.bool false), leafS 46 (.bool false), leafS 47 (.pointer (some ⟨w.heap.size + 1, 1, none⟩)), leafS 48 (.int .i64 at'), leafS 49 (.slice (some ⟨bL, oL, none⟩) lo.length cl), leafS 50 (.pointer (some ⟨w.heap.size + 1, 0, none⟩)), leafS 51 (.int .i64 (v : Int)), leafS 52 (.pointer (some ⟨bL, oL + v, none⟩)), leafS 53 (.int .i64 (nth lo v)), leafS 54 (.bool false), leafS 55 (.bool false), leafS 56 (.bool false), leafS 57 (.pointer (some ⟨w.heap.size + 1, 1, none⟩)), leafS 58 (.int .i64 at'), leafS 59 (.slice (some ⟨bH, oH, none⟩) hi.length ch), leafS 60 (.pointer (some ⟨w.heap.size + 1, 0, none⟩)), leafS 61 (.int .i64 (v : Int)), leafS 62 (.pointer (some ⟨bH, oH + v, none⟩)), leafS 63 (.int .i64 (nth hi v)), leafS 64 (.bool q3), leafS 65 (.bool q3)]
              (fun w w' => Below w.heap.size w w') (by kernel_rfl) (by kernel_rfl) rfl (F := ?cFC) ?rCc1 (fun _ _ _ => ext_trans) (Below.refl _ _).drew ?rCc2 ?rCc3 ?rCc4
            case rCc1 =>
              intro x
              simp only [fullF, Act.put, List.setIfInBounds_toArray, List.set_cons_zero, List.set_cons_succ]
              rfl
            case rCc2 =>
              refine AllStay.mem ⟨stays_const _ _ _, stays_const _ _ _, stays_const _ _ _, stays_const _ _ _, stays_const _ _ _, stays_const _ _ _, stays_const _ _ _, stays_const _ _ _, stays_const _ _ _, stays_const _ _ _, stays_const _ _ _, stays_const _ _ _, stays_const _ _ _, stays_const _ _ _, stays_const _ _ _, stays_const _ _ _, stays_const _ _ _, stays_const _ _ _, stays_const _ _ _, stays_const _ _ _, stays_const _ _ _, stays_const _ _ _, stays_const _ _ _, stays_const _ _ _, stays_const _ _ _, trivial⟩
            case rCc3 =>
              refine ⟨?_, ?_, ?_, ?_, ?_, ?_, ?_, ?_, ?_, ?_, ?_, ?_, ?_, ?_, ?_, ?_, ?_, ?_, ?_, ?_, ?_, ?_, ?_, ?_, ?_, trivial⟩
              all_goals
                intro x w0 hE hd K hK
                have hc := (bcell hE).1
                have n0' := (hc _ _ (cell_lt n0)).trans n0
                have n1' := (hc _ _ (cell_lt n1)).trans n1
                have gL' := (hc _ _ (cell_lt gL)).trans gL
                have gH' := (hc _ _ (cell_lt gH)).trans gH
                try have e0 : x 41 = _ := hd 0 _ (by decide) rfl
                try have e1 : x 42 = _ := hd 1 _ (by decide) rfl
                try have e2 : x 43 = _ := hd 2 _ (by decide) rfl
                try have e3 : x 44 = _ := hd 3 _ (by decide) rfl
                try have e4 : x 45 = _ := hd 4 _ (by decide) rfl
                try have e5 : x 46 = _ := hd 5 _ (by decide) rfl
                try have e6 : x 47 = _ := hd 6 _ (by decide) rfl
                try have e7 : x 48 = _ := hd 7 _ (by decide) rfl
                try have e8 : x 49 = _ := hd 8 _ (by decide) rfl
                try have e9 : x 50 = _ := hd 9 _ (by decide) rfl
                try have e10 : x 51 = _ := hd 10 _ (by decide) rfl
                try have e11 : x 52 = _ := hd 11 _ (by decide) rfl
                try have e12 : x 53 = _ := hd 12 _ (by decide) rfl
                try have e13 : x 54 = _ := hd 13 _ (by decide) rfl
                try have e14 : x 55 = _ := hd 14 _ (by decide) rfl
                try have e15 : x 56 = _ := hd 15 _ (by decide) rfl
                try have e16 : x 57 = _ := hd 16 _ (by decide) rfl
                try have e17 : x 58 = _ := hd 17 _ (by decide) rfl
                try have e18 : x 59 = _ := hd 18 _ (by decide) rfl
                try have e19 : x 60 = _ := hd 19 _ (by decide) rfl
                try have e20 : x 61 = _ := hd 20 _ (by decide) rfl
                try have e21 : x 62 = _ := hd 21 _ (by decide) rfl
                try have e22 : x 63 = _ := hd 22 _ (by decide) rfl
                try have e23 : x 64 = _ := hd 23 _ (by decide) rfl
                try have e24 : x 65 = _ := hd 24 _ (by decide) rfl
                have HC := Lib.hid hc; have HE := Lib.hid hE
                clear hd hc hE
                go_simp
                try exact hK _ _ _ (Below.refl _ _) (upd_self _ _ _) (by dsimp only [Act.put]; first | rfl | (simp [*]; done))
            case rCc4 =>
              intro x w3 hE hG
              have e0 : x 41 = _ := hG 0 _ rfl
              have e1 : x 42 = _ := hG 1 _ rfl
              have e2 : x 43 = _ := hG 2 _ rfl
              have e3 : x 44 = _ := hG 3 _ rfl
              have e4 : x 45 = _ := hG 4 _ rfl
              have e5 : x 46 = _ := hG 5 _ rfl
              have e6 : x 47 = _ := hG 6 _ rfl
              have e7 : x 48 = _ := hG 7 _ rfl
              have e8 : x 49 = _ := hG 8 _ rfl
              have e9 : x 50 = _ := hG 9 _ rfl
              have e10 : x 51 = _ := hG 10 _ rfl
              have e11 : x 52 = _ := hG 11 _ rfl
              have e12 : x 53 = _ := hG 12 _ rfl
              have e13 : x 54 = _ := hG 13 _ rfl
              have e14 : x 55 = _ := hG 14 _ rfl
              have e15 : x 56 = _ := hG 15 _ rfl
              have e16 : x 57 = _ := hG 16 _ rfl
              have e17 : x 58 = _ := hG 17 _ rfl
              have e18 : x 59 = _ := hG 18 _ rfl
              have e19 : x 60 = _ := hG 19 _ rfl
              have e20 : x 61 = _ := hG 20 _ rfl
              have e21 : x 62 = _ := hG 21 _ rfl
              have e22 : x 63 = _ := hG 22 _ rfl
              have e23 : x 64 = _ := hG 23 _ rfl
              have e24 : x 65 = _ := hG 24 _ rfl
              have HX := Lib.hid (ext_trans HB2.out hE)
              have HG1 := Lib.hid (HG0.out.ext hE); have HW2 := Lib.hid (HW1.out.ext hE); have HN2 := Lib.hid (HN1.out.ext hE); have HLO2 := Lib.hid (HLO1.out.ext hE); have HHI2 := Lib.hid (HHI1.out.ext hE); have HY2 := Lib.hid (HY1.out.ext hE)
              clear hG hE k0 k1 k2 k3 n0 n1 gL gH HG0 HW1 HN1 HLO1 HHI1 HY1 HB2
              refine wpAny_done (by kernel_rfl) ?_ _
              try simp only [Exit.inBlock, Exit.then]
              rw [e0, e1, e2, e3, e4, e5, e6, e7, e8, e9, e10, e11, e12, e13, e14, e15, e16, e17, e18, e19, e20, e21, e22, e23, e24]
              clear e0 e1 e2 e3 e4 e5 e6 e7 e8 e9 e10 e11 e12 e13 e14 e15 e16 e17 e18 e19 e20 e21 e22 e23 e24
              cases q3
              case' true =>
                have HF : Hid ((c.length : Int) ≤ v ∨ at' < nth lo5 v ∨ nth hi5 v ≤ at') := Lib.hid (.inr (.inr (by rw [← HN2'.out]; exact of_decide_eq_true HQ3.out)))
                go_wp2_with fail
                go_ret
                exact ⟨by rw [HR2.out, if_pos HF.out]; rfl, HX.out⟩
              have HF : Hid (¬ ((c.length : Int) ≤ v ∨ at' < nth lo5 v ∨ nth hi5 v ≤ at')) := Lib.hid (by
                rw [← HN1'.out, ← HN2'.out]
                have := of_decide_eq_false HQ3.out; have := HA.out; have := HLL.out; omega)
              have HAT : Hid (0 ≤ at' ∧ at' ≤ 6) := Lib.hid (by
                have h1 := HL5.out.nth v; have h2 := HH5.out.nth v
                rw [← HN1'.out] at h1; rw [← HN2'.out] at h2
                have := of_decide_eq_false HQ3.out; have := HA.out; omega)
              obtain ⟨R1, hR1⟩ : ∃ R1, Hid (readF a b c cost (!feas) k (L.drop (j + 1)) lo5 (hi5.set v at') = R1) := ⟨_, Lib.hid rfl⟩
              obtain ⟨T1, hT1⟩ : ∃ T1, Hid (treeV L.length R1 = T1) := ⟨_, Lib.hid rfl⟩
              obtain ⟨J, hJ⟩ : ∃ J : Nat, Hid (J = j + 1) := ⟨_, Lib.hid rfl⟩
              have hw1 : IntKind.i64.wrap ((j : Int) + 1) = (J : Int) := by rw [hJ.out]; exact (IntWalk.i64_in _ (by omega)).trans (by omega)
              have k0 : w3.cell? ⟨w.heap.size, 0, none⟩ = some (.slice A a.length ca) := HG1.out.b0.cell 0 (by simp)
              have k1 : w3.cell? ⟨w.heap.size, 1, none⟩ = some (.slice B b.length cb) := HG1.out.b0.cell 1 (by simp)
              have k2 : w3.cell? ⟨w.heap.size, 2, none⟩ = some (.slice C c.length cc) := HG1.out.b0.cell 2 (by simp)
              have k3 : w3.cell? ⟨w.heap.size, 3, none⟩ = some (.slice U u.length cu) := HG1.out.b0.cell 3 (by simp)
              have n0 : w3.cell? ⟨w.heap.size + 1, 0, none⟩ = some (.int .i64 (v : Int)) := HG1.out.b1.cell 0 (by simp)
              have n1 : w3.cell? ⟨w.heap.size + 1, 1, none⟩ = some (.int .i64 at') := HG1.out.b1.cell 1 (by simp)
              go_wp2_with fail
              refine wp_region_later (w0 := w3) 15 [66, 67, 68, 69, 70, 71, 72, 73, 74, 75, 76, 77, 78, 79, 16]
                [leafS 66 (.agg #[.slice A a.length ca, .slice B b.length cb, .slice C c.length cc, .slice U u.length cu]), leafS 67 (.slice (some ⟨bx, ox, none⟩) L.length cx), leafS 68 (.int .i64 j), leafS 69 (.int .i64 J), leafS 70 (.slice (some ⟨bL, oL, none⟩) lo.length cl), leafS 71 (.slice (some ⟨bH, oH, none⟩) hi.length ch), leafS 72 (.pointer (some ⟨w.heap.size + 1, 0, none⟩)), leafS 73 (.int .i64 (v : Int)), leafS 74 (.pointer (some ⟨w.heap.size + 1, 1, none⟩)), leafS 75 (.int .i64 at'), leaf1 76 (fun x w => ∃ g cap, x = .slice (some ⟨g, 0, none⟩) hi.length cap ∧ Ints w (some ⟨g, 0, none⟩) (hi.set v at')), leafS 77 (.bool feas), leafS 78 (.int .i64 cost), leafS 79 (.int .i64 T1), leafS 16 (.int .i64 T1)]
                (fun w w' => Below w.heap.size w w') (by kernel_rfl) (by kernel_rfl) rfl (F := ?cFS) ?rSc1 (fun _ _ _ => ext_trans) (Below.refl _ _).drew ?rSc2 ?rSc3 ?rSc4
              case rSc1 =>
                intro x
                simp only [fullF, Act.put, List.setIfInBounds_toArray, List.set_cons_zero, List.set_cons_succ]
                rfl
              case rSc2 =>
                refine AllStay.mem ⟨stays_const _ _ _, stays_const _ _ _, stays_const _ _ _, stays_const _ _ _, stays_const _ _ _, stays_const _ _ _, stays_const _ _ _, stays_const _ _ _, stays_const _ _ _, stays_const _ _ _, stays_of _ (by rintro x w5 w6 ⟨g, cap, h1, h2⟩ hb; exact ⟨g, cap, h1, h2.ext hb⟩), stays_const _ _ _, stays_const _ _ _, stays_const _ _ _, stays_const _ _ _, trivial⟩
              case rSc3 =>
                refine ⟨?_, ?_, ?_, ?_, ?_, ?_, ?_, ?_, ?_, ?_, ?_, ?_, ?_, ?_, ?_, trivial⟩
                all_goals
                  intro x w0 hE hd K hK
                  have hc := (bcell hE).1
                  have k0' := (hc _ _ (cell_lt k0)).trans k0
                  have k1' := (hc _ _ (cell_lt k1)).trans k1
                  have k2' := (hc _ _ (cell_lt k2)).trans k2
                  have k3' := (hc _ _ (cell_lt k3)).trans k3
                  have n0' := (hc _ _ (cell_lt n0)).trans n0
                  have n1' := (hc _ _ (cell_lt n1)).trans n1
                  try have e0 : x 66 = _ := hd 0 _ (by decide) rfl
                  try have e1 : x 67 = _ := hd 1 _ (by decide) rfl
                  try have e2 : x 68 = _ := hd 2 _ (by decide) rfl
                  try have e3 : x 69 = _ := hd 3 _ (by decide) rfl
                  try have e4 : x 70 = _ := hd 4 _ (by decide) rfl
                  try have e5 : x 71 = _ := hd 5 _ (by decide) rfl
                  try have e6 : x 72 = _ := hd 6 _ (by decide) rfl
                  try have e7 : x 73 = _ := hd 7 _ (by decide) rfl
                  try have e8 : x 74 = _ := hd 8 _ (by decide) rfl
                  try have e9 : x 75 = _ := hd 9 _ (by decide) rfl
                  try have e10 := hd 10 _ (by decide) rfl
                  try have e11 : x 77 = _ := hd 11 _ (by decide) rfl
                  try have e12 : x 78 = _ := hd 12 _ (by decide) rfl
                  try have e13 : x 79 = _ := hd 13 _ (by decide) rfl
                  try have e14 : x 16 = _ := hd 14 _ (by decide) rfl
                  have HC := Lib.hid hc; have HE := Lib.hid hE
                  clear hd hc hE
                  go_simp
                  try exact hK _ _ _ (Below.refl _ _) (upd_self _ _ _) (by dsimp only [Act.put]; first | rfl | (simp [*]; done))
                · refine (with_calls _ ch hi v at' w0 (HHI2.out.ext HE.out) (by have := HHL.out; omega) hvh).mono ?_
                  rintro e w6 ⟨g, cap, rfl, hI, hb2⟩
                  exact hK _ _ _ hb2 (by rw [leaf1_at, upd_self]; exact ⟨g, cap, rfl, hI⟩) (by dsimp only [Act.put]; first | rfl | (simp [*]; done))
                · obtain ⟨g, cap, e10, hI⟩ := e10
                  rw [e10]
                  have hcall := HIH.out J lo (hi.set v at') lo5 (hi5.set v at') (some ⟨bL, oL, none⟩) (some ⟨g, 0, none⟩) cl cap w0 (by have := hJ.out; omega) (by have := hJ.out; omega) (HW2.out.ext HE.out) (HN2.out.ext HE.out) (HLO2.out.ext HE.out) hI HL5.out (HH5.out.set v (by have := HAT.out; omega)) HL.out (set_same (by have := HH5.out.1; omega) HH.out v _)
                  rw [hJ.out, hR1.out, hT1.out, List.length_set, ← hJ.out] at hcall
                  refine hcall.mono ?_
                  rintro e w6 ⟨rfl, hb2⟩
                  exact hK _ _ _ hb2 (upd_self _ _ _) (by dsimp only [Act.put]; first | rfl | (simp [*]; done))
              case rSc4 =>
                intro x w4 hE hG
                have e0 : x 66 = _ := hG 0 _ rfl
                have e1 : x 67 = _ := hG 1 _ rfl
                have e2 : x 68 = _ := hG 2 _ rfl
                have e3 : x 69 = _ := hG 3 _ rfl
                have e4 : x 70 = _ := hG 4 _ rfl
                have e5 : x 71 = _ := hG 5 _ rfl
                have e6 : x 72 = _ := hG 6 _ rfl
                have e7 : x 73 = _ := hG 7 _ rfl
                have e8 : x 74 = _ := hG 8 _ rfl
                have e9 : x 75 = _ := hG 9 _ rfl
                have e10 := hG 10 _ rfl
                have e11 : x 77 = _ := hG 11 _ rfl
                have e12 : x 78 = _ := hG 12 _ rfl
                have e13 : x 79 = _ := hG 13 _ rfl
                have e14 : x 16 = _ := hG 14 _ rfl
                have HX3 := Lib.hid (ext_trans HX.out hE)
                have HG2 := Lib.hid (HG1.out.ext hE); have HW3 := Lib.hid (HW2.out.ext hE); have HN3 := Lib.hid (HN2.out.ext hE); have HLO3 := Lib.hid (HLO2.out.ext hE); have HHI3 := Lib.hid (HHI2.out.ext hE)
                clear hG hE k0 k1 k2 k3 n0 n1 HG1 HW2 HN2 HLO2 HHI2 HY2
                refine wpAny_done (by kernel_rfl) ?_ _
                try simp only [Exit.inBlock, Exit.then]
                rw [e0, e1, e2, e3, e4, e5, e6, e7, e8, e9, e11, e12, e13, e14]
                generalize x 76 = V76
                clear e0 e1 e2 e3 e4 e5 e6 e7 e8 e9 e10 e11 e12 e13 e14
                obtain ⟨T2, hT2⟩ : ∃ T, Hid (treeV L.length R = T) := ⟨_, Lib.hid rfl⟩
                have HT2 : Hid (∀ (w5 : World) (g cap : Nat), Below w4.heap.size w4 w5 → Ints w5 (some ⟨g, 0, none⟩) (lo.set v (at' + 1)) → Calls Try.prog 24 #[.agg #[.slice A a.length ca, .slice B b.length cb, .slice C c.length cc, .slice U u.length cu], .slice (some ⟨bx, ox, none⟩) L.length cx, .int .i64 T1, .slice (some ⟨g, 0, none⟩) lo.length cap, .slice (some ⟨bH, oH, none⟩) hi.length ch, .bool feas, .int .i64 cost] w5 fun e w' => e = .returned (.int .i64 T2) ∧ Below w5.heap.size w5 w') := Lib.hid (by
                  intro w5 g cap hb hI
                  have hr2 := HR2.out
                  rw [if_neg HF.out, hR1.out] at hr2
                  obtain ⟨ok1, L1⟩ := R1
                  cases ok1
                  · have e1 : T1 = -1 := hT1.out.symm
                    have e2 : T2 = -1 := by rw [← hT2.out, hr2]; rfl
                    rw [e1, e2]; exact tree_neg A B C U (some ⟨bx, ox, none⟩) (some ⟨g, 0, none⟩) (some ⟨bH, oH, none⟩) _ _ _ _ _ _ _ _ _ _ _ _ _ _ feas cost w5
                  · have hs : L1 <:+ L.drop (j + 1) := by have := readF_suffix a b c cost (!feas) k (L.drop (j + 1)) lo5 (hi5.set v at'); rw [hR1.out] at this; exact this
                    have hsl := hs.length_le
                    rw [List.length_drop] at hsl
                    have hs2 : L1 = L.drop (L.length - L1.length) := List.suffix_iff_eq_drop.1 (hs.trans (List.drop_suffix _ _))
                    have e1 : T1 = ((L.length - L1.length : Nat) : Int) := hT1.out.symm
                    have e2 : T2 = treeV L.length (readF a b c cost (!feas) k L1 (lo5.set v (at' + 1)) hi5) := by rw [← hT2.out, hr2]; rfl
                    have := HIH.out (L.length - L1.length) (lo.set v (at' + 1)) hi (lo5.set v (at' + 1)) hi5 (some ⟨g, 0, none⟩) (some ⟨bH, oH, none⟩) cap ch w5 (by omega) (by omega) (HW3.out.ext hb) (HN3.out.ext hb) hI (HHI3.out.ext hb) (HL5.out.set v (by have := HAT.out; omega)) HH5.out (set_same (by have := HL5.out.1; omega) HL.out v _) HH.out
                    rw [← hs2, ← e2, List.length_set] at this
                    rw [e1]; exact this)
                have hw2 : IntKind.i64.wrap (at' + 1) = at' + 1 := IntWalk.i64_in _ (by have := HAT.out; omega)
                have k0 : w4.cell? ⟨w.heap.size, 0, none⟩ = some (.slice A a.length ca) := HG2.out.b0.cell 0 (by simp)
                have k1 : w4.cell? ⟨w.heap.size, 1, none⟩ = some (.slice B b.length cb) := HG2.out.b0.cell 1 (by simp)
                have k2 : w4.cell? ⟨w.heap.size, 2, none⟩ = some (.slice C c.length cc) := HG2.out.b0.cell 2 (by simp)
                have k3 : w4.cell? ⟨w.heap.size, 3, none⟩ = some (.slice U u.length cu) := HG2.out.b0.cell 3 (by simp)
                have n0 : w4.cell? ⟨w.heap.size + 1, 0, none⟩ = some (.int .i64 (v : Int)) := HG2.out.b1.cell 0 (by simp)
                have n1 : w4.cell? ⟨w.heap.size + 1, 1, none⟩ = some (.int .i64 at') := HG2.out.b1.cell 1 (by simp)
                go_wp2_with fail
                refine wp_region_later (w0 := w4) 15 [80, 81, 82, 83, 84, 85, 86, 87, 88, 89, 90, 91, 92, 93, 14]
                  [leafS 80 (.agg #[.slice A a.length ca, .slice B b.length cb, .slice C c.length cc, .slice U u.length cu]), leafS 81 (.slice (some ⟨bx, ox, none⟩) L.length cx), leafS 82 (.int .i64 T1), leafS 83 (.slice (some ⟨bL, oL, none⟩) lo.length cl), leafS 84 (.pointer (some ⟨w.heap.size + 1, 0, none⟩)), leafS 85 (.int .i64 (v : Int)), leafS 86 (.pointer (some ⟨w.heap.size + 1, 1, none⟩)), leafS 87 (.int .i64 at'), leafS 88 (.int .i64 (at' + 1)), leaf1 89 (fun x w => ∃ g cap, x = .slice (some ⟨g, 0, none⟩) lo.length cap ∧ Ints w (some ⟨g, 0, none⟩) (lo.set v (at' + 1))), leafS 90 (.slice (some ⟨bH, oH, none⟩) hi.length ch), leafS 91 (.bool feas), leafS 92 (.int .i64 cost), leafS 93 (.int .i64 T2), leafS 14 (.int .i64 T2)]
                  (fun w w' => Below w.heap.size w w') (by kernel_rfl) (by kernel_rfl) rfl (F := ?cFT) ?rTc1 (fun _ _ _ => ext_trans) (Below.refl _ _).drew ?rTc2 ?rTc3 ?rTc4
                case rTc1 =>
                  intro x
                  simp only [fullF, Act.put, List.setIfInBounds_toArray, List.set_cons_zero, List.set_cons_succ]
                  rfl
                case rTc2 =>
                  refine AllStay.mem ⟨stays_const _ _ _, stays_const _ _ _, stays_const _ _ _, stays_const _ _ _, stays_const _ _ _, stays_const _ _ _, stays_const _ _ _, stays_const _ _ _, stays_const _ _ _, stays_of _ (by rintro x w5 w6 ⟨g, cap, h1, h2⟩ hb; exact ⟨g, cap, h1, h2.ext hb⟩), stays_const _ _ _, stays_const _ _ _, stays_const _ _ _, stays_const _ _ _, stays_const _ _ _, trivial⟩
                case rTc3 =>
                  refine ⟨?_, ?_, ?_, ?_, ?_, ?_, ?_, ?_, ?_, ?_, ?_, ?_, ?_, ?_, ?_, trivial⟩
                  all_goals
                    intro x w0 hE hd K hK
                    have hc := (bcell hE).1
                    have k0' := (hc _ _ (cell_lt k0)).trans k0
                    have k1' := (hc _ _ (cell_lt k1)).trans k1
                    have k2' := (hc _ _ (cell_lt k2)).trans k2
                    have k3' := (hc _ _ (cell_lt k3)).trans k3
                    have n0' := (hc _ _ (cell_lt n0)).trans n0
                    have n1' := (hc _ _ (cell_lt n1)).trans n1
                    try have e0 : x 80 = _ := hd 0 _ (by decide) rfl
                    try have e1 : x 81 = _ := hd 1 _ (by decide) rfl
                    try have e2 : x 82 = _ := hd 2 _ (by decide) rfl
                    try have e3 : x 83 = _ := hd 3 _ (by decide) rfl
                    try have e4 : x 84 = _ := hd 4 _ (by decide) rfl
                    try have e5 : x 85 = _ := hd 5 _ (by decide) rfl
                    try have e6 : x 86 = _ := hd 6 _ (by decide) rfl
                    try have e7 : x 87 = _ := hd 7 _ (by decide) rfl
                    try have e8 : x 88 = _ := hd 8 _ (by decide) rfl
                    try have e9 := hd 9 _ (by decide) rfl
                    try have e10 : x 90 = _ := hd 10 _ (by decide) rfl
                    try have e11 : x 91 = _ := hd 11 _ (by decide) rfl
                    try have e12 : x 92 = _ := hd 12 _ (by decide) rfl
                    try have e13 : x 93 = _ := hd 13 _ (by decide) rfl
                    try have e14 : x 14 = _ := hd 14 _ (by decide) rfl
                    have HC := Lib.hid hc; have HE := Lib.hid hE
                    clear hd hc hE
                    go_simp
                    try exact hK _ _ _ (Below.refl _ _) (upd_self _ _ _) (by dsimp only [Act.put]; first | rfl | (simp [*]; done))
                  · refine (with_calls _ cl lo v (at' + 1) w0 (HLO3.out.ext HE.out) (by have := HLL.out; omega) hv).mono ?_
                    rintro e w6 ⟨g, cap, rfl, hI, hb2⟩
                    exact hK _ _ _ hb2 (by rw [leaf1_at, upd_self]; exact ⟨g, cap, rfl, hI⟩) (by dsimp only [Act.put]; first | rfl | (simp [*]; done))
                  · obtain ⟨g, cap, e9, hI⟩ := e9
                    rw [e9]
                    refine (HT2.out w0 g cap HE.out hI).mono ?_
                    rintro e w6 ⟨rfl, hb2⟩
                    exact hK _ _ _ hb2 (upd_self _ _ _) (by dsimp only [Act.put]; first | rfl | (simp [*]; done))
                case rTc4 =>
                  intro x w7 hE hG
                  have e0 : x 80 = _ := hG 0 _ rfl
                  have e1 : x 81 = _ := hG 1 _ rfl
                  have e2 : x 82 = _ := hG 2 _ rfl
                  have e3 : x 83 = _ := hG 3 _ rfl
                  have e4 : x 84 = _ := hG 4 _ rfl
                  have e5 : x 85 = _ := hG 5 _ rfl
                  have e6 : x 86 = _ := hG 6 _ rfl
                  have e7 : x 87 = _ := hG 7 _ rfl
                  have e8 : x 88 = _ := hG 8 _ rfl
                  have e9 := hG 9 _ rfl
                  have e10 : x 90 = _ := hG 10 _ rfl
                  have e11 : x 91 = _ := hG 11 _ rfl
                  have e12 : x 92 = _ := hG 12 _ rfl
                  have e13 : x 93 = _ := hG 13 _ rfl
                  have e14 : x 14 = _ := hG 14 _ rfl
                  have HX4 := Lib.hid (ext_trans HX3.out hE)
                  clear hG hE k0 k1 k2 k3 n0 n1
                  refine wpAny_done (by kernel_rfl) ?_ _
                  try simp only [Exit.inBlock, Exit.then]
                  rw [e0, e1, e2, e3, e4, e5, e6, e7, e8, e10, e11, e12, e13, e14]
                  generalize x 89 = V89
                  clear e0 e1 e2 e3 e4 e5 e6 e7 e8 e9 e10 e11 e12 e13 e14
                  go_wp2_with fail
                  go_ret
                  exact ⟨by rw [hT2.out]; rfl, HX4.out⟩
        · have t1 : decide ((lo.length : Int) ≤ v) = true := decide_eq_true (by omega)
          have hv2 : lo.length ≤ v := by omega
          have HF : Hid ((c.length : Int) ≤ v ∨ at' < nth lo5 v ∨ nth hi5 v ≤ at') := Lib.hid (.inl (by have := HLL.out; omega))
          refine wp_region_later (w0 := W) 25 [41, 42, 43, 44, 45, 46, 47, 48, 49, 50, 51, 52, 53, 54, 55, 56, 57, 58, 59, 60, 61, 62, 63, 64, 65]
            [leafS 41 (.pointer (some ⟨w.heap.size + 1, 0, none⟩)), leafS 42 (.int .i64 (v : Int)), leafS 43 (.slice LO lo.length cl), leafS 44 (.int .i64 lo.length), leafS 45 (.bool true), leafS 46 (.bool true), leafS 47 (undef), leafS 48 (undef), leafS 49 (undef), leafS 50 (undef), leafS 51 (undef), leafS 52 (undef), leafS 53 (undef), leafS 54 (undef), leafS 55 (.bool true), leafS 56 (.bool true), leafS 57 (undef), leafS 58 (undef), leafS 59 (undef), leafS 60 (undef), leafS 61 (undef), leafS 62 (undef), leafS 63 (undef), leafS 64 (undef), leafS 65 (.bool true)]
            (fun w w' => Below w.heap.size w w') (by kernel_rfl) (by kernel_rfl) rfl (F := ?cFA) ?rAc1 (fun _ _ _ => ext_trans) (Below.refl _ _).drew ?rAc2 ?rAc3 ?rAc4
          case rAc1 =>
            intro x
            simp only [fullF, Act.put, List.setIfInBounds_toArray, List.set_cons_zero, List.set_cons_succ]
            rfl
          case rAc2 =>
            refine AllStay.mem ⟨stays_const _ _ _, stays_const _ _ _, stays_const _ _ _, stays_const _ _ _, stays_const _ _ _, stays_const _ _ _, stays_const _ _ _, stays_const _ _ _, stays_const _ _ _, stays_const _ _ _, stays_const _ _ _, stays_const _ _ _, stays_const _ _ _, stays_const _ _ _, stays_const _ _ _, stays_const _ _ _, stays_const _ _ _, stays_const _ _ _, stays_const _ _ _, stays_const _ _ _, stays_const _ _ _, stays_const _ _ _, stays_const _ _ _, stays_const _ _ _, stays_const _ _ _, trivial⟩
          case rAc3 =>
            refine ⟨?_, ?_, ?_, ?_, ?_, ?_, ?_, ?_, ?_, ?_, ?_, ?_, ?_, ?_, ?_, ?_, ?_, ?_, ?_, ?_, ?_, ?_, ?_, ?_, ?_, trivial⟩
            all_goals
              intro x w0 hE hd K hK
              have hc := (bcell hE).1
              have n0' := (hc _ _ (cell_lt n0)).trans n0
              have n1' := (hc _ _ (cell_lt n1)).trans n1
              try have e0 : x 41 = _ := hd 0 _ (by decide) rfl
              try have e1 : x 42 = _ := hd 1 _ (by decide) rfl
              try have e2 : x 43 = _ := hd 2 _ (by decide) rfl
              try have e3 : x 44 = _ := hd 3 _ (by decide) rfl
              try have e4 : x 45 = _ := hd 4 _ (by decide) rfl
              try have e5 : x 46 = _ := hd 5 _ (by decide) rfl
              try have e6 : x 47 = _ := hd 6 _ (by decide) rfl
              try have e7 : x 48 = _ := hd 7 _ (by decide) rfl
              try have e8 : x 49 = _ := hd 8 _ (by decide) rfl
              try have e9 : x 50 = _ := hd 9 _ (by decide) rfl
              try have e10 : x 51 = _ := hd 10 _ (by decide) rfl
              try have e11 : x 52 = _ := hd 11 _ (by decide) rfl
              try have e12 : x 53 = _ := hd 12 _ (by decide) rfl
              try have e13 : x 54 = _ := hd 13 _ (by decide) rfl
              try have e14 : x 55 = _ := hd 14 _ (by decide) rfl
              try have e15 : x 56 = _ := hd 15 _ (by decide) rfl
              try have e16 : x 57 = _ := hd 16 _ (by decide) rfl
              try have e17 : x 58 = _ := hd 17 _ (by decide) rfl
              try have e18 : x 59 = _ := hd 18 _ (by decide) rfl
              try have e19 : x 60 = _ := hd 19 _ (by decide) rfl
              try have e20 : x 61 = _ := hd 20 _ (by decide) rfl
              try have e21 : x 62 = _ := hd 21 _ (by decide) rfl
              try have e22 : x 63 = _ := hd 22 _ (by decide) rfl
              try have e23 : x 64 = _ := hd 23 _ (by decide) rfl
              try have e24 : x 65 = _ := hd 24 _ (by decide) rfl
              have HC := Lib.hid hc; have HE := Lib.hid hE
              clear hd hc hE
              go_simp
              try exact hK _ _ _ (Below.refl _ _) (upd_self _ _ _) (by dsimp only [Act.put]; first | rfl | (simp [*]; done))
          case rAc4 =>
            intro x w3 hE hG
            have e0 : x 41 = _ := hG 0 _ rfl
            have e1 : x 42 = _ := hG 1 _ rfl
            have e2 : x 43 = _ := hG 2 _ rfl
            have e3 : x 44 = _ := hG 3 _ rfl
            have e4 : x 45 = _ := hG 4 _ rfl
            have e5 : x 46 = _ := hG 5 _ rfl
            have e6 : x 47 = _ := hG 6 _ rfl
            have e7 : x 48 = _ := hG 7 _ rfl
            have e8 : x 49 = _ := hG 8 _ rfl
            have e9 : x 50 = _ := hG 9 _ rfl
            have e10 : x 51 = _ := hG 10 _ rfl
            have e11 : x 52 = _ := hG 11 _ rfl
            have e12 : x 53 = _ := hG 12 _ rfl
            have e13 : x 54 = _ := hG 13 _ rfl
            have e14 : x 55 = _ := hG 14 _ rfl
            have e15 : x 56 = _ := hG 15 _ rfl
            have e16 : x 57 = _ := hG 16 _ rfl
            have e17 : x 58 = _ := hG 17 _ rfl
            have e18 : x 59 = _ := hG 18 _ rfl
            have e19 : x 60 = _ := hG 19 _ rfl
            have e20 : x 61 = _ := hG 20 _ rfl
            have e21 : x 62 = _ := hG 21 _ rfl
            have e22 : x 63 = _ := hG 22 _ rfl
            have e23 : x 64 = _ := hG 23 _ rfl
            have e24 : x 65 = _ := hG 24 _ rfl
            have HX := Lib.hid (ext_trans HB2.out hE)
            clear hG hE k0 k1 k2 k3 n0 n1 HG0 HW1 HN1 HLO1 HHI1 HY1 HB2
            refine wpAny_done (by kernel_rfl) ?_ _
            try simp only [Exit.inBlock, Exit.then]
            rw [e0, e1, e2, e3, e4, e5, e6, e7, e8, e9, e10, e11, e12, e13, e14, e15, e16, e17, e18, e19, e20, e21, e22, e23, e24]
            clear e0 e1 e2 e3 e4 e5 e6 e7 e8 e9 e10 e11 e12 e13 e14 e15 e16 e17 e18 e19 e20 e21 e22 e23 e24
            go_wp2_with fail
            go_ret
            exact ⟨by rw [HR2.out, if_pos HF.out]; rfl, HX.out⟩
    · obtain rfl : j = L.length := by omega
      rw [List.drop_length]
      exact tree_over A B C U X LO HI _ _ _ _ _ _ _ _ _ _ _ _ _ _ feas cost w
end Go.Proofs.Ytbdlfjhhgnhejaa
