/- linear.Bounds and linear.Denies: what they answer. -/
import Derived.Test.YtkljafmdbajfeaaGreatDoorChK47
namespace Go.Proofs.YtkljafmdbajfeaaGreatDoor
open Go.RowKit
set_option linter.unusedVariables false
set_option linter.unusedSimpArgs false
theorem bounds_dual (a : List (List Int)) (b c ys : List Int) (d : Int) : dualS a b c ys d (fun j => IntKind.i64.wrap (nth c j * d)) = boundsS a b c ys d := by
  unfold dualS boundsS
  cases h1 : progOk a b c with
  | false => rfl
  | true =>
    cases h2 : pointOk a.length ys d with
    | false => rfl
    | true =>
      obtain ⟨⟨k1, k2⟩, k3, k4, k5, k6, k7⟩ := progOk_parts h1
      obtain ⟨p1, p2, p3, p4⟩ := pointOk_parts h2
      have e : ∀ j, j < c.length → IntKind.i64.wrap (nth c j * d) = nth c j * d := fun j hj => by
        have h1 := listOk_nth k7 hj
        have h2 := mul_bd (a := 1000) (b := 1125899906842624) (x := nth c j) (y := d) (by omega) h1 (by omega)
        rw [IntKind.wrap_i64]; omega
      congr 1
      rw [Bool.eq_iff_iff, List.all_eq_true, List.all_eq_true]
      constructor
      · intro h j hj
        have := h j hj
        simpa only [e j (List.mem_range.1 hj)] using this
      · intro h j hj
        have := h j hj
        simpa only [e j (List.mem_range.1 hj)] using this
theorem dotN_flip (xs ys : List Int) : ∀ k, dotN xs ys k = dotN ys xs k
  | 0 => rfl
  | k + 1 => by simp only [dotN]; rw [dotN_flip xs ys k, Int.mul_comm]
theorem dotZ_flip {xs ys : List Int} (h : xs.length = ys.length) : dotZ xs ys = dotZ ys xs := by unfold dotZ; rw [dotN_flip, h]
theorem level_flip {a : List (List Int)} {b c ys : List Int} {d : Int} (h1 : progOk a b c = true) (h2 : pointOk a.length ys d = true) : Small ys b ∧ ys.length = b.length ∧ ys.length ≤ 6 := by
  obtain ⟨⟨k1, k2⟩, k3, k4, k5, k6, k7⟩ := progOk_parts h1
  obtain ⟨p1, p2, p3, p4⟩ := pointOk_parts h2
  exact ⟨small_of p4 k6 (by omega) (by omega) (n := 6) (by omega) (by omega) (by omega), by omega, by omega⟩
theorem denies_dual (a : List (List Int)) (b c ys : List Int) (d : Int) : (dualS a b c ys d (fun _ => 0) && decide (0 < dotZ b ys)) = deniesS a b c ys d := rfl
theorem dualS_parts {a : List (List Int)} {b c ys : List Int} {d : Int} {lim : Nat → Int} (h : dualS a b c ys d lim = true) : progOk a b c = true ∧ pointOk a.length ys d = true := by
  unfold dualS at h; simp only [Bool.and_eq_true] at h; exact ⟨h.1.1.1, h.1.1.2⟩
theorem denies1L_calls (j : Nat) (w : World) : Calls Tryz.prog 110 #[.int .i64 j] w fun e w' => e = .returned (.int .i64 0) ∧ Below w.heap.size w w' := by
  go_enter Tryz.func110, Tryz.ntmps110
  go_wp2
  go_ret
  exact ⟨rfl, Below.refl _ _⟩
set_option maxHeartbeats 1000000 in
theorem bounds1L_calls (A B C X : Option Addr) (bp xp : Nat) (la ca lb cb cc lx cx : Nat) (c : List Int) (d : Int) (j : Nat) (w : World) (hba : Blk w bp [.slice A la ca, .slice B lb cb, .slice C c.length cc] 25) (hbx : Blk w xp [.slice X lx cx, .int .i64 d] 29) (hC : Ints w C c) (hj : j < c.length) :
    Calls Tryz.prog 111 #[.int .i64 j, .pointer (some ⟨bp, 0, none⟩), .pointer (some ⟨xp, 0, none⟩)] w fun e w' => e = .returned (.int .i64 (IntKind.i64.wrap (nth c j * d))) ∧ Below w.heap.size w w' := by
  have k2 := hba.cell 2 (by simp)
  have x1 := hbx.cell 1 (by simp)
  simp only [List.getElem_cons_zero, List.getElem_cons_succ] at k2 x1
  obtain ⟨b2, o2, rfl, hc⟩ := hC j hj
  have hj1 : (j : Int) < c.length := by omega
  obtain ⟨n, hn⟩ : ∃ n, nth c j = n := ⟨_, rfl⟩
  rw [hn] at hc
  obtain ⟨p, hp⟩ : ∃ p, IntKind.i64.wrap (n * d) = p := ⟨_, rfl⟩
  have wq1 := hp
  have HN := Lib.hid hn; have HP := Lib.hid hp
  clear hba hbx hC hn hp
  go_enter Tryz.func111, Tryz.ntmps111
  go_wp2
  go_quiet (fail)
  go_wp2
  go_ret
  exact ⟨by rw [HN.out, HP.out]; rfl, drewN_below _ _⟩
set_option maxRecDepth 100000 in
set_option maxHeartbeats 1000000 in
theorem deniesL_calls (A B C X : Option Addr) (ca cb cc cx : Nat) (a : List (List Int)) (b c xs : List Int) (d : Int) (w : World) (h : Prog3 w A B C a b c) (hX : Ints w X xs) (hm : xs.length ≤ maxLen) :
    Calls Tryz.prog 50 #[.agg #[.slice A a.length ca, .slice B b.length cb, .slice C c.length cc], .agg #[.slice X xs.length cx, .int .i64 d]] w fun e w' => e = .returned (.bool (deniesS a b c xs d)) ∧ Below w.heap.size w w' := by
  obtain ⟨wa, hwa⟩ : ∃ wa, w.alloc (.cells #[.slice A a.length ca, .slice B b.length cb, .slice C c.length cc] 25 (0, 0)) = wa := ⟨_, rfl⟩
  obtain ⟨wb, hwb⟩ : ∃ wb, wa.alloc (.cells #[.slice X xs.length cx, .int .i64 d] 29 (0, 0)) = wb := ⟨_, rfl⟩
  have sa : wa.heap.size = w.heap.size + 1 := by rw [← hwa]; simp
  have ba : Blk wa w.heap.size [.slice A a.length ca, .slice B b.length cb, .slice C c.length cc] 25 := by rw [← hwa]; exact Blk.new _ _ _
  have bb : Blk wb (w.heap.size + 1) [.slice X xs.length cx, .int .i64 d] 29 := by rw [← hwb, ← sa]; exact Blk.new _ _ _
  have ea : Below w.heap.size w wa := by rw [← hwa]; exact (Below.refl _ _).alloc (Nat.le_refl _) _
  have eb : Below wa.heap.size wa wb := by rw [← hwb]; exact (Below.refl _ _).alloc (Nat.le_refl _) _
  have e2 : Below w.heap.size w wb := ea.trans (eb.mono (by omega))
  have HBA := Lib.hid (ba.ext eb); have HBB := Lib.hid bb; have HE2 := Lib.hid e2
  have HV := Lib.hid (dualL_calls A B C X ca cb cc cx a b c xs d wb (h.ext e2) (hX.ext e2) hm 110 #[] (fun _ => 0) ⟨fun _ _ => by kernel_rfl, fun j hj w1 hb => denies1L_calls j w1⟩)
  have HP := Lib.hid h; have HX := Lib.hid hX
  have p0 := (ba.ext eb).cell 0 (by simp)
  have p1 := (ba.ext eb).cell 1 (by simp)
  have p2 := (ba.ext eb).cell 2 (by simp)
  simp only [List.getElem_cons_zero, List.getElem_cons_succ] at p0 p1 p2
  rw [← hwb, ← hwa] at p0 p1 p2
  have HWA := Lib.hid hwa; have HWB := Lib.hid hwb
  clear ba bb ea eb e2 h hX sa hwa hwb
  go_enter Tryz.func50, Tryz.ntmps50
  go_wp2_with fail
  rw [HWA.out, HWB.out]
  clear p0 p1 p2
  obtain ⟨bp, hbp⟩ : ∃ bp, w.heap.size = bp := ⟨_, rfl⟩
  obtain ⟨xp, hxp⟩ : ∃ xp, w.heap.size + 1 = xp := ⟨_, rfl⟩
  rw [hbp] at HBA
  rw [hxp] at HBB
  rw [hxp, hbp]
  have HBP := Lib.hid hbp
  clear hbp hxp
  refine HV.out.mono ?_; rintro e w1 ⟨rfl, hb1⟩
  have HB1 := Lib.hid (HE2.out.trans (hb1.mono HE2.out.size)); have HBA1 := Lib.hid (HBA.out.ext hb1); have HBB1 := Lib.hid (HBB.out.ext hb1)
  clear hb1 HV HBA HBB HE2
  cases hv : dualS a b c xs d (fun _ => 0) with
  | false =>
    have HVV := Lib.hid hv
    clear hv
    go_wp2
    go_ret
    exact ⟨by rw [← denies_dual, HVV.out]; rfl, HB1.out⟩
  | true =>
    have HVV := Lib.hid hv
    clear hv
    obtain ⟨g1, g2⟩ := dualS_parts HVV.out
    obtain ⟨hs, hl, hl6⟩ := level_flip g1 g2
    have hdt := linDot_calls X B cx cb xs b w1 (by omega) hm (HX.out.ext HB1.out) (HP.out.ext HB1.out).gb hs
    rw [dotZ_flip hl] at hdt
    have HDT := Lib.hid hdt
    clear g1 g2 hs hl hl6 hdt
    have k1 := HBA1.out.cell 1 (by simp)
    have x0 := HBB1.out.cell 0 (by simp)
    simp only [List.getElem_cons_zero, List.getElem_cons_succ] at k1 x0
    go_wp2_with fail
    refine HDT.out.mono ?_
    rintro e w5 ⟨rfl, kq, hkq⟩
    have HB5 : Hid (Below w1.heap.size w1 w5) := Lib.hid (by rw [hkq]; exact drewN_below _ _)
    clear hkq HDT
    go_wp2
    go_ret
    exact ⟨by rw [← denies_dual, HVV.out]; rfl, HB1.out.trans (HB5.out.mono HB1.out.size)⟩
set_option maxRecDepth 100000 in
set_option maxHeartbeats 1000000 in
theorem boundsL_calls (A B C X : Option Addr) (ca cb cc cx : Nat) (a : List (List Int)) (b c xs : List Int) (d : Int) (w : World) (h : Prog3 w A B C a b c) (hX : Ints w X xs) (hm : xs.length ≤ maxLen) :
    Calls Tryz.prog 51 #[.agg #[.slice A a.length ca, .slice B b.length cb, .slice C c.length cc], .agg #[.slice X xs.length cx, .int .i64 d]] w fun e w' => e = .returned (.bool (boundsS a b c xs d)) ∧ Below w.heap.size w w' := by
  obtain ⟨wa, hwa⟩ : ∃ wa, w.alloc (.cells #[.slice A a.length ca, .slice B b.length cb, .slice C c.length cc] 25 (0, 0)) = wa := ⟨_, rfl⟩
  obtain ⟨wb, hwb⟩ : ∃ wb, wa.alloc (.cells #[.slice X xs.length cx, .int .i64 d] 29 (0, 0)) = wb := ⟨_, rfl⟩
  have sa : wa.heap.size = w.heap.size + 1 := by rw [← hwa]; simp
  have ba : Blk wa w.heap.size [.slice A a.length ca, .slice B b.length cb, .slice C c.length cc] 25 := by rw [← hwa]; exact Blk.new _ _ _
  have bb : Blk wb (w.heap.size + 1) [.slice X xs.length cx, .int .i64 d] 29 := by rw [← hwb, ← sa]; exact Blk.new _ _ _
  have ea : Below w.heap.size w wa := by rw [← hwa]; exact (Below.refl _ _).alloc (Nat.le_refl _) _
  have eb : Below wa.heap.size wa wb := by rw [← hwb]; exact (Below.refl _ _).alloc (Nat.le_refl _) _
  have e2 : Below w.heap.size w wb := ea.trans (eb.mono (by omega))
  have HBA := Lib.hid (ba.ext eb); have HBB := Lib.hid bb; have HE2 := Lib.hid e2
  have hTN : TellsN 111 #[.pointer (some ⟨w.heap.size, 0, none⟩), .pointer (some ⟨w.heap.size + 1, 0, none⟩)] (fun j => IntKind.i64.wrap (nth c j * d)) c.length wb := ⟨fun _ _ => by kernel_rfl, fun j hj w1 hb => bounds1L_calls A B C X _ _ _ ca _ cb cc _ cx c d j w1 ((ba.ext eb).ext hb) (bb.ext hb) ((h.ext e2).ext hb).gc hj⟩
  have HV := Lib.hid (dualL_calls A B C X ca cb cc cx a b c xs d wb (h.ext e2) (hX.ext e2) hm _ _ _ hTN)
  clear hTN
  have HP := Lib.hid h; have HX := Lib.hid hX
  have p0 := (ba.ext eb).cell 0 (by simp)
  have p1 := (ba.ext eb).cell 1 (by simp)
  have p2 := (ba.ext eb).cell 2 (by simp)
  simp only [List.getElem_cons_zero, List.getElem_cons_succ] at p0 p1 p2
  rw [← hwb, ← hwa] at p0 p1 p2
  have HWA := Lib.hid hwa; have HWB := Lib.hid hwb
  clear ba bb ea eb e2 h hX sa hwa hwb
  go_enter Tryz.func51, Tryz.ntmps51
  go_wp2_with fail
  rw [HWA.out, HWB.out]
  clear p0 p1 p2
  obtain ⟨bp, hbp⟩ : ∃ bp, w.heap.size = bp := ⟨_, rfl⟩
  obtain ⟨xp, hxp⟩ : ∃ xp, w.heap.size + 1 = xp := ⟨_, rfl⟩
  rw [hbp] at HBA
  rw [hxp] at HBB
  rw [hxp, hbp] at HV
  rw [hxp, hbp]
  have HBP := Lib.hid hbp
  clear hbp hxp
  refine HV.out.mono ?_; rintro e w1 ⟨rfl, hb1⟩
  have HB1 := Lib.hid (HE2.out.trans (hb1.mono HE2.out.size))
  clear hb1 HV HBA HBB HE2
  rw [bounds_dual]
  go_wp2
  go_ret
  exact ⟨rfl, HB1.out⟩
end Go.Proofs.YtkljafmdbajfeaaGreatDoor

/- tinplatelaw01.few and light: what they answer. -/
namespace Go.Proofs.YtkljafmdbajfeaaGreatDoor
open Go.RowKit
set_option linter.unusedVariables false
set_option linter.unusedSimpArgs false
def fewB (a : List (List Int)) (b : List Int) : Bool := decide (a.length ≤ 30) && ((List.range a.length).all fun i => decide ((nrow a i).length ≤ 30)) && decide (b.length ≤ 30)
set_option maxHeartbeats 1000000 in
theorem few_calls (A B : Option Addr) (ca cb : Nat) (a : List (List Int)) (b : List Int) (w : World) (hA : Grid w A a) (hl : a.length ≤ maxLen) (hr : ∀ r ∈ a, r.length ≤ maxLen) (hb : b.length ≤ maxLen) :
    Calls Tryz.prog 29 #[.slice A a.length ca, .slice B b.length cb] w fun e w' => e = .returned (.bool (fewB a b)) ∧ w' = w := by
  unfold maxLen at hl hb
  have HR := Lib.hid hr
  clear hr
  go_enter Tryz.func29, Tryz.ntmps29
  go_wp2
  go_loop [5] (fun i => ∃ k : Nat, k ≤ a.length ∧ i = .int .i64 k ∧ k ≤ 30 ∧ ∀ j, j < k → (nrow a j).length ≤ 30) (fun i => a.length - (intOf i).toNat)
  case atStart => exact ⟨0, Nat.zero_le _, rfl, Nat.zero_le _, fun j hj => by omega⟩
  case round =>
    obtain ⟨k, hk, rfl, h30, hall⟩ := hrel
    have HA := Lib.hid hall; clear hall
    by_cases hlt : k < a.length
    · obtain ⟨bb, o, R, cR, rfl, hrc, -, -⟩ := hA k hlt
      have hk1 : (k : Int) < a.length := by omega
      have hrl := HR.out _ (nrow_mem hlt)
      unfold maxLen at hrl
      by_cases h3 : k = 30
      · have d3 : decide (30 ≤ (k : Int)) = true := decide_eq_true (by omega)
        have H3 := Lib.hid h3
        clear h3
        go_wp2
        go_ret
        exact ⟨by have := H3.out; unfold fewB; rw [decide_eq_false (show ¬ a.length ≤ 30 by omega)]; rfl, rfl⟩
      · have d3 : decide (30 ≤ (k : Int)) = false := decide_eq_false (by omega)
        by_cases h4 : (nrow a k).length ≤ 30
        · have d4 : decide (30 < ((nrow a k).length : Int)) = false := decide_eq_false (by omega)
          have H4 := Lib.hid h4
          clear h4
          go_wp2
          go_round
          case rel => exact ⟨k + 1, by omega, by go_num, by omega, fun j hj => if e : j = k then by rw [e]; exact H4.out else HA.out j (by omega)⟩
          case measure => simp [intOf]; omega
        · have d4 : decide (30 < ((nrow a k).length : Int)) = true := decide_eq_true (by omega)
          have H4 := Lib.hid h4
          clear h4
          go_wp2
          go_ret
          exact ⟨by unfold fewB; rw [all_range_false hlt (decide_eq_false H4.out), Bool.and_false]; rfl, rfl⟩
    · obtain rfl : k = a.length := by omega
      have hd : decide ((b.length : Int) ≤ 30) = decide (b.length ≤ 30) := by rw [decide_eq_decide]; omega
      have H30 := Lib.hid h30; have HD := Lib.hid hd
      clear hd h30
      go_wp2
      go_ret
      exact ⟨by unfold fewB; rw [decide_eq_true H30.out, all_range_true fun i hi => decide_eq_true (HA.out i hi), ← HD.out]; rfl, rfl⟩
set_option maxHeartbeats 1000000 in
theorem lightL_calls (A B C : Option Addr) (ca cb cc : Nat) (a : List (List Int)) (b c : List Int) (w : World) (h : Prog3 w A B C a b c) :
    Calls Tryz.prog 14 #[.agg #[.slice A a.length ca, .slice B b.length cb, .slice C c.length cc]] w fun e w' => e = .returned (.bool (fewB a b && decide (c.length ≤ 30))) ∧ Below w.heap.size w w' := by
  have hlc := h.lc; unfold maxLen at hlc
  have hb0 : ∀ o, Below w.heap.size w (w.alloc o) := fun o => (Below.refl _ _).alloc (Nat.le_refl _) _
  have hd : decide ((c.length : Int) ≤ 30) = decide (c.length ≤ 30) := by rw [decide_eq_decide]; omega
  have HD := Lib.hid hd
  clear hd
  cases hf : fewB a b with
  | false =>
    have HF := Lib.hid hf; clear hf
    go_enter Tryz.func14, Tryz.ntmps14
    go_wp2_with (go_at_call 29; refine (few_calls _ _ _ _ a b _ (h.ga.ext (hb0 _)) h.la h.lr h.lb).mono ?_; rw [HF.out]; rintro e w1 ⟨rfl, rfl⟩)
    go_ret
    exact ⟨rfl, hb0 _⟩
  | true =>
    have HF := Lib.hid hf; clear hf
    go_enter Tryz.func14, Tryz.ntmps14
    go_wp2_with (go_at_call 29; refine (few_calls _ _ _ _ a b _ (h.ga.ext (hb0 _)) h.la h.lr h.lb).mono ?_; rw [HF.out]; rintro e w1 ⟨rfl, rfl⟩)
    go_ret
    exact ⟨by rw [Bool.true_and, ← HD.out]; rfl, hb0 _⟩
end Go.Proofs.YtkljafmdbajfeaaGreatDoor

/- tinplateref01.gcd: what it answers. -/
namespace Go.Proofs.YtkljafmdbajfeaaGreatDoor
open Go.RowKit
set_option linter.unusedVariables false
set_option linter.unusedSimpArgs false
set_option maxHeartbeats 1000000 in
theorem gcd1_calls (a b : Int) (w : World) (ha : -9000000000000000000 ≤ a ∧ a ≤ 9000000000000000000) (hb : -9000000000000000000 ≤ b ∧ b ≤ 9000000000000000000) :
    Calls Tryz.prog 71 #[.int .i64 a, .int .i64 b] w fun e w' => e = .returned (.int .i64 (Int.gcd a b)) ∧ Below w.heap.size w w' := by
  obtain ⟨x1, x2⟩ := ha
  obtain ⟨x3, x4⟩ := hb
  go_enter Tryz.func71, Tryz.ntmps71
  go_wp2
  go_loopw [0, 1] (fun g nn wr => ∃ (m : Nat) (gv nv : Int), g = .int .i64 gv ∧ nn = .int .i64 nv ∧ Nat.gcd gv.natAbs nv.natAbs = Nat.gcd a.natAbs b.natAbs ∧ -9000000000000000000 ≤ gv ∧ gv ≤ 9000000000000000000 ∧ -9000000000000000000 ≤ nv ∧ nv ≤ 9000000000000000000 ∧ wr = w.drewN m) (fun _ nn _ => (intOf nn).natAbs)
  case atStart => exact ⟨0, a, b, rfl, rfl, rfl, x1, x2, x3, x4, rfl⟩
  case round =>
    obtain ⟨m, gv, nv, rfl, rfl, hgg, y1, y2, y3, y4, rfl⟩ := hrel
    have HGG := Lib.hid hgg; clear hgg
    by_cases h0 : nv = 0
    · subst h0
      have HG : Hid (gv.natAbs = Nat.gcd a.natAbs b.natAbs) := Lib.hid (by rw [← HGG.out]; simp)
      obtain ⟨G, hG⟩ : ∃ G : Nat, gv.natAbs = G := ⟨_, rfl⟩
      have hGc : gv = (G : Int) ∨ gv = -(G : Int) := by omega
      have HG2 := Lib.hid hG
      clear hG HGG
      rcases hGc with rfl | rfl
      all_goals
        go_wp2
        go_ret
        refine ⟨?_, drewN_below _ _⟩
        unfold Int.gcd
        rw [← HG.out, HG2.out]
        simp
        omega
    · have h1 : (nv != 0) = true := by simp [h0]
      have h2 : (nv == 0) = false := by simp [h0]
      have t1 : (gv.tmod nv).natAbs < nv.natAbs := by rw [Int.natAbs_tmod]; exact Nat.mod_lt _ (by omega)
      have HT := Lib.hid t1; clear t1
      go_wp2
      go_quiet (fail)
      go_wp2
      go_roundw
      case rel => exact ⟨_, nv, gv.tmod nv, rfl, rfl, by rw [← HGG.out, Int.natAbs_tmod]; rw [Nat.gcd_comm nv.natAbs, ← Nat.gcd_rec, Nat.gcd_comm], y3, y4, by have := HT.out; omega, by have := HT.out; omega, drewN_add _ _ _⟩
      case measure => have := HT.out; simpa [intOf] using this
set_option maxHeartbeats 400000 in
theorem value1_bad (A B C X : Option Addr) (ca cb cc cx : Nat) (a : List (List Int)) (b c xs : List Int) (d : Int) (w : World) (h : Prog3 w A B C a b c) (hX : Ints w X xs) (hm : xs.length ≤ maxLen) (h1 : (progOk a b c && pointOk c.length xs d) = false) :
    Calls Tryz.prog 54 #[.agg #[.slice A a.length ca, .slice B b.length cb, .slice C c.length cc], .agg #[.slice X xs.length cx, .int .i64 d]] w fun e w' => e = .returned (.tuple #[.agg #[.slice none 0 0, .int .i64 0], .int .i64 2]) ∧ Below w.heap.size w w' := by
  have hlc := h.lc; unfold maxLen at hlc
  have hb00 : ∀ o o' o'', Below w.heap.size w (((w.alloc o).alloc o').alloc o'') := fun o o' o'' => (((Below.refl _ _).alloc (Nat.le_refl _) _).alloc (by simp) _).alloc (by simp; omega) _
  cases h2 : progOk a b c
  · clear h1
    go_enter Tryz.func54, Tryz.ntmps54
    go_wp2_with fail
    refine (refValid_calls _ _ _ _ _ _ a b c _ (h.ext (hb00 _ _ _))).mono ?_; rw [h2]; rintro e w1 ⟨rfl, hb1⟩
    obtain ⟨hc1, hf1⟩ := bcell hb1
    have hx1 := ext_trans (hb00 _ _ _) hb1
    have hz1 := hb1.size
    simp at hz1
    have k4 : w1.cell? ⟨w.heap.size + 1 + 1, 0, none⟩ = some (.slice none 0 0) := by rw [hc1 _ _ (by simp)]; go_simp
    have k5 : w1.cell? ⟨w.heap.size + 1 + 1, 1, none⟩ = some (.int .i64 0) := by rw [hc1 _ _ (by simp)]; go_simp
    go_wp2
    try simp only [Exit.inBlock, Exit.then]
    refine bodyPost_ret (v := .tuple #[.agg #[.slice none 0 0, .int .i64 0], .int .i64 2]) (by simp [results, Tryz.results54, go_sem, k4, k5]) rfl ⟨rfl, ?_⟩
    exact (hx1.setCell (by dsimp only; omega) _).setCell (by dsimp only; omega) _
  · rw [h2, Bool.true_and] at h1
    go_enter Tryz.func54, Tryz.ntmps54
    go_wp2_with fail
    refine (refValid_calls _ _ _ _ _ _ a b c _ (h.ext (hb00 _ _ _))).mono ?_; rw [h2]; rintro e w1 ⟨rfl, hb1⟩
    obtain ⟨hc1, hf1⟩ := bcell hb1
    have hx1 := ext_trans (hb00 _ _ _) hb1
    have hz1 := hb1.size
    simp at hz1
    go_wp2_with fail
    refine (proper1_calls _ _ xs d c.length _ hm h.lc (hX.ext hx1)).mono ?_; rw [h1]; rintro e w2 ⟨rfl, hb2⟩
    obtain ⟨hc2, hf2⟩ := bcell hb2
    have hx2 := ext_trans hx1 hb2
    have hz2 := hb2.size
    have k4 : w2.cell? ⟨w.heap.size + 1 + 1, 0, none⟩ = some (.slice none 0 0) := by rw [hc2 _ _ (by omega), hc1 _ _ (by simp)]; go_simp
    have k5 : w2.cell? ⟨w.heap.size + 1 + 1, 1, none⟩ = some (.int .i64 0) := by rw [hc2 _ _ (by omega), hc1 _ _ (by simp)]; go_simp
    have f4 : w2.frozen? ⟨w.heap.size + 1 + 1, 0, none⟩ = false := by rw [hf2 _ _ (by omega), hf1 _ _ (by simp)]; go_simp
    have f5 : w2.frozen? ⟨w.heap.size + 1 + 1, 1, none⟩ = false := by rw [hf2 _ _ (by omega), hf1 _ _ (by simp)]; go_simp
    clear hc1 hf1 hc2 hf2
    go_wp2
    try simp only [Exit.inBlock, Exit.then]
    refine bodyPost_ret (v := .tuple #[.agg #[.slice none 0 0, .int .i64 0], .int .i64 2]) (by simp [results, Tryz.results54, go_sem, k4, k5]) rfl ⟨rfl, ?_⟩
    exact (hx2.setCell (by dsimp only; omega) _).setCell (by dsimp only; omega) _
end Go.Proofs.YtkljafmdbajfeaaGreatDoor

/- tinplateref01.Value: what it answers at a proper point. -/
namespace Go.Proofs.YtkljafmdbajfeaaGreatDoor
open Go.RowKit
set_option linter.unusedVariables false
set_option linter.unusedSimpArgs false
theorem keep_cell {w : World} {xp qp : Nat} {u v x : Value} {o : Obj} (h : w.cell? ⟨xp, 1, none⟩ = some x) (hne : xp ≠ qp) (hl : xp < w.heap.size) : (((w.setCell ⟨qp, 0, none⟩ u).setCell ⟨qp, 1, none⟩ v).alloc o).drew.cell? ⟨xp, 1, none⟩ = some x := by
  show (((w.setCell ⟨qp, 0, none⟩ u).setCell ⟨qp, 1, none⟩ v).alloc o).cell? ⟨xp, 1, none⟩ = some x
  rw [((Below.refl _ ((w.setCell ⟨qp, 0, none⟩ u).setCell ⟨qp, 1, none⟩ v)).alloc (Nat.le_refl _) o).cell (by simpa using hl)]
  rw [World.cell?_setCell_far _ _ _ _ (by dsimp only; omega), World.cell?_setCell_far _ _ _ _ (by dsimp only; omega)]; exact h
theorem one_blk (w : World) (qp : Nat) (u v : Value) (x : Int) : IBlk (((w.setCell ⟨qp, 0, none⟩ u).setCell ⟨qp, 1, none⟩ v).alloc (.cells #[.int .i64 x] 3 (0, 0))).drew w.heap.size [x] := by
  have h := Blk.new ((w.setCell ⟨qp, 0, none⟩ u).setCell ⟨qp, 1, none⟩ v) [.int .i64 x] 3
  have e : ((w.setCell ⟨qp, 0, none⟩ u).setCell ⟨qp, 1, none⟩ v).heap.size = w.heap.size := by simp
  rw [e] at h
  exact h
theorem one_below {B : Nat} {w0 w : World} {u v : Value} (h : Below B w0 w) {qp : Nat} (hq : B ≤ qp) (hs : B ≤ ((w.setCell ⟨qp, 0, none⟩ u).setCell ⟨qp, 1, none⟩ v).heap.size) (o : Obj) : Below B w0 (((w.setCell ⟨qp, 0, none⟩ u).setCell ⟨qp, 1, none⟩ v).alloc o).drew :=
  (((h.setCell (p := ⟨qp, 0, none⟩) hq u).setCell (p := ⟨qp, 1, none⟩) hq v).alloc (hs) o).drew
set_option maxRecDepth 100000 in
set_option maxHeartbeats 4000000 in
theorem value1_ok (A B C X : Option Addr) (ca cb cc cx : Nat) (a : List (List Int)) (b c xs : List Int) (d : Int) (w : World) (h : Prog3 w A B C a b c) (hX : Ints w X xs) (hm : xs.length ≤ maxLen) (h1 : progOk a b c = true) (h2 : pointOk c.length xs d = true) :
    Calls Tryz.prog 54 #[.agg #[.slice A a.length ca, .slice B b.length cb, .slice C c.length cc], .agg #[.slice X xs.length cx, .int .i64 d]] w (ValPost w xs c d) := by
  obtain ⟨wa, hwa⟩ : ∃ wa, w.alloc (.cells #[.slice A a.length ca, .slice B b.length cb, .slice C c.length cc] 25 (0, 0)) = wa := ⟨_, rfl⟩
  obtain ⟨wb, hwb⟩ : ∃ wb, wa.alloc (.cells #[.slice X xs.length cx, .int .i64 d] 29 (0, 0)) = wb := ⟨_, rfl⟩
  obtain ⟨wc, hwc⟩ : ∃ wc, wb.alloc (.cells #[.slice none 0 0, .int .i64 0] 29 (0, 0)) = wc := ⟨_, rfl⟩
  have hlc := h.lc
  have sa : wa.heap.size = w.heap.size + 1 := by rw [← hwa]; simp
  have ba : Blk wa w.heap.size [.slice A a.length ca, .slice B b.length cb, .slice C c.length cc] 25 := by rw [← hwa]; exact Blk.new _ _ _
  have bb : Blk wb (w.heap.size + 1) [.slice X xs.length cx, .int .i64 d] 29 := by rw [← hwb, ← sa]; exact Blk.new _ _ _
  have ea : Below w.heap.size w wa := by rw [← hwa]; exact (Below.refl _ _).alloc (Nat.le_refl _) _
  have eb : Below wa.heap.size wa wb := by rw [← hwb]; exact (Below.refl _ _).alloc (Nat.le_refl _) _
  have sb : wb.heap.size = w.heap.size + 1 + 1 := by rw [← hwb, ← sa]; simp
  have bc : Blk wc (w.heap.size + 1 + 1) [.slice none 0 0, .int .i64 0] 29 := by rw [← hwc, ← sb]; exact Blk.new _ _ _
  have ec : Below wb.heap.size wb wc := by rw [← hwc]; exact (Below.refl _ _).alloc (Nat.le_refl _) _
  have e2 : Below w.heap.size w wc := (ea.trans (eb.mono (by omega))).trans (ec.mono (by omega))
  have HBA := Lib.hid ((ba.ext eb).ext ec); have HBB := Lib.hid (bb.ext ec); have HBQ := Lib.hid bc; have HE2 := Lib.hid e2
  have HP := Lib.hid h; have HX := Lib.hid hX
  have HV := Lib.hid (refValid_calls A B C ca cb cc a b c wc (h.ext e2))
  have p0 := ((ba.ext eb).ext ec).cell 0 (by simp)
  have p1 := ((ba.ext eb).ext ec).cell 1 (by simp)
  have p2 := ((ba.ext eb).ext ec).cell 2 (by simp)
  simp only [List.getElem_cons_zero, List.getElem_cons_succ] at p0 p1 p2
  rw [← hwc, ← hwb, ← hwa] at p0 p1 p2
  have HWA := Lib.hid hwa; have HWB := Lib.hid hwb; have HWC := Lib.hid hwc; have H1 := Lib.hid h1; have H2 := Lib.hid h2
  clear ba bb bc ea eb ec e2 h hX sa sb hwa hwb hwc h1 h2
  go_enter Tryz.func54, Tryz.ntmps54
  go_wp2_with fail
  rw [HWA.out, HWB.out, HWC.out]
  clear p0 p1 p2
  obtain ⟨bp, hbp⟩ : ∃ bp, w.heap.size = bp := ⟨_, rfl⟩
  obtain ⟨xp, hxp⟩ : ∃ xp, w.heap.size + 1 = xp := ⟨_, rfl⟩
  obtain ⟨qp, hqp⟩ : ∃ qp, w.heap.size + 1 + 1 = qp := ⟨_, rfl⟩
  rw [hbp] at HBA
  rw [hqp] at HBQ
  rw [hqp]
  rw [hxp] at HBB
  rw [hxp, hbp]
  have HXQ : Hid (xp ≠ qp) := Lib.hid (by omega)
  have HBP := Lib.hid hbp; have HQP := Lib.hid hqp
  clear hbp hxp hqp
  refine HV.out.mono ?_; rw [H1.out]; rintro e w1 ⟨rfl, hb1⟩
  have HB1 := Lib.hid (HE2.out.trans (hb1.mono HE2.out.size)); have HBA1 := Lib.hid (HBA.out.ext hb1); have HBB1 := Lib.hid (HBB.out.ext hb1); have HBQ1 := Lib.hid (HBQ.out.ext hb1)
  clear hb1 HV HBA HBB HBQ HE2
  have k0 := HBA1.out.cell 0 (by simp)
  have k2 := HBA1.out.cell 2 (by simp)
  have x0 := HBB1.out.cell 0 (by simp)
  have x1 := HBB1.out.cell 1 (by simp)
  simp only [List.getElem_cons_zero, List.getElem_cons_succ] at k0 k2 x0 x1
  have HPR := Lib.hid (proper1_calls X cx xs d c.length w1 hm hlc (HX.out.ext HB1.out))
  go_wp2_with fail
  refine HPR.out.mono ?_; rw [H2.out]; rintro e w2 ⟨rfl, hb2⟩
  have HB2 := Lib.hid (HB1.out.trans (hb2.mono HB1.out.size)); have HBA2 := Lib.hid (HBA1.out.ext hb2); have HBB2 := Lib.hid (HBB1.out.ext hb2); have HBQ2 := Lib.hid (HBQ1.out.ext hb2)
  clear hb2 HPR HBA1 HBB1 HBQ1 HB1 k0 k2 x0 x1
  have k2 := HBA2.out.cell 2 (by simp)
  have x0 := HBB2.out.cell 0 (by simp)
  simp only [List.getElem_cons_zero, List.getElem_cons_succ] at k2 x0
  obtain ⟨hs, hl⟩ := cost_small H1.out H2.out
  have hdz := dotZ_bd hs
  have HDT := Lib.hid (dot1_calls C X cc cx c xs w2 hl hlc (HP.out.ext HB2.out).gc (HX.out.ext HB2.out) hs)
  clear hs hl
  go_wp2_with fail
  refine HDT.out.mono ?_; rintro e w3 ⟨rfl, kq, hkq⟩
  have hb3 : Below w2.heap.size w2 w3 := by rw [hkq]; exact drewN_below _ _
  have HB3 := Lib.hid (HB2.out.trans (hb3.mono HB2.out.size)); have HBB3 := Lib.hid (HBB2.out.ext hb3); have HBQ3 := Lib.hid (HBQ2.out.ext hb3)
  clear hb3 hkq HDT HBA2 HBB2 HBQ2 HB2 k2 x0
  obtain ⟨dz, hz⟩ : ∃ dz, dotZ c xs = dz := ⟨_, rfl⟩
  unfold ValPost
  rw [hz] at hdz ⊢
  have HZ := Lib.hid hz
  clear hz
  obtain ⟨-, p2, p3, -⟩ := pointOk_parts H2.out
  have x1 := HBB3.out.cell 1 (by simp)
  simp only [List.getElem_cons_zero, List.getElem_cons_succ] at x1
  have HGC := Lib.hid (gcd1_calls dz d w3 hdz (by omega))
  go_wp2_with fail
  refine HGC.out.mono ?_; rintro e w4 ⟨rfl, hb4⟩
  have HB4 := Lib.hid (HB3.out.trans (hb4.mono HB3.out.size)); have HBB4 := Lib.hid (HBB3.out.ext hb4); have HBQ4 := Lib.hid (HBQ3.out.ext hb4)
  clear hb4 HGC HBB3 HBQ3 HB3 x1
  have hgp := gcdN_pos p2 [dz] 1
  have hge : (Int.gcd dz d) = gcdN d [dz] 1 := by show Nat.gcd _ _ = Nat.gcd _ _; rw [Nat.gcd_comm]; rfl
  rw [hge]
  obtain ⟨G, hG⟩ : ∃ G : Nat, gcdN d [dz] 1 = G := ⟨_, rfl⟩
  rw [hG] at hgp ⊢
  have HG := Lib.hid hG
  clear hG hge
  have g0 : ((G : Int) == 0) = false := by simp; omega
  have g1 : ¬ G = 0 := by omega
  have x1 := HBB4.out.cell 1 (by simp)
  simp only [List.getElem_cons_zero, List.getElem_cons_succ] at x1
  have t1 := tdiv_bd dz G hdz
  have t2 := tdiv_bd d G (by omega)
  obtain ⟨q1, hq1⟩ : ∃ q, dz.tdiv G = q := ⟨_, rfl⟩
  obtain ⟨q2, hq2⟩ : ∃ q, d.tdiv G = q := ⟨_, rfl⟩
  rw [hq1] at t1
  rw [hq2] at t2
  have wq1 : IntKind.i64.wrap (dz.tdiv G) = q1 := by rw [IntKind.wrap_i64, ← hq1]; rw [hq1]; omega
  have wq2 : IntKind.i64.wrap (d.tdiv G) = q2 := by rw [IntKind.wrap_i64, ← hq2]; rw [hq2]; omega
  have HQ1 := Lib.hid hq1; have HQ2 := Lib.hid hq2
  clear hq1 hq2 t1 t2
  have y0 := HBQ4.out.cell 0 (by simp)
  have y1 := HBQ4.out.cell 1 (by simp)
  have f0 := Blk.free HBQ4.out 0
  have f1 := Blk.free HBQ4.out 1
  simp only [List.getElem_cons_zero, List.getElem_cons_succ] at y0 y1
  have hxl := Blk.lt HBB4.out
  have hql := Blk.lt HBQ4.out
  have hxq : xp ≠ qp := by have := HXQ.out; exact this
  go_wp2_with fail
  go_region_held3 (fun w' => w'.cell? ⟨xp, 1, none⟩ = some (.int .i64 d))
    (first | (go_keep; done) | exact keep_cell x1 hxq hxl)
    (fail)
  all_goals
    go_wp2
    try simp only [Exit.inBlock, Exit.then]
    refine bodyPost_ret (v := .tuple #[.agg #[.slice (some ⟨w4.heap.size, 0, none⟩) 1 1, .int .i64 q2], .int .i64 0]) (by simp [results, Tryz.results54, go_sem, y0, y1, hxl, hql]) rfl ⟨w4.heap.size, by rw [HZ.out, HG.out, HQ2.out], HB4.out.size, ?_, ?_⟩
    · rw [HZ.out, HG.out, HQ1.out]
      exact one_blk w4 qp _ _ q1
    · exact one_below HB4.out (by have := HQP.out; omega) (by simpa using HB4.out.size) _
end Go.Proofs.YtkljafmdbajfeaaGreatDoor

/- A copy of a list of ints: append to an empty literal. -/
namespace Go.Proofs.YtkljafmdbajfeaaGreatDoor
open Go.RowKit
set_option linter.unusedVariables false
set_option linter.unusedSimpArgs false
theorem run_app_noneI {P : Program} (w : World) (base : Nat) (t ty e : TypeId) (i : TypeInfo) (size : Nat) (ht : P.underlying t = some (.slice e)) (hi : P.info? e = some i)
    (v : Value) (n : Nat) (xs : List Value) (hown : w.ownsRow base e size v n xs) (cx : Nat) :
    (Builtin.append_ #[t, t] ty #[v, .slice none 0 cx]).run P w = .ok v w := by
  rcases hown.2 with ⟨rfl, rfl⟩ | ⟨g, cap, cur, rfl, _, _, hnc, _⟩
  · simp [Builtin.append_, run_underlying ht, sizeOf, typeInfo, hi, Builtin.lenOf, Builtin.firstCells]
  · simp [Builtin.append_, run_underlying ht, sizeOf, typeInfo, hi, Builtin.lenOf, Builtin.firstCells, hnc, storeCells]
set_option maxRecDepth 100000 in
theorem wpList_copyI {ops : Array Oper} {rest : List Oper} {o : Oper} {a : Act} {Q : Exit → Act → World → Prop} (hgd : o.guard = none) (s x : Operand)
    (ho : o.op = .call { callee := .builtin .append, args := #[s, x], argTypes := #[23, 23] }) {w : World} {base g0 : Nat} {X : Option Addr} {cx : Nat} {xs : List Int}
    (hs : a.eval s = .slice (some ⟨g0, 0, none⟩) 0 0) (hx : a.eval x = .slice X xs.length cx) (hown : w.ownsRow base 3 1 (.slice (some ⟨g0, 0, none⟩) 0 0) 0 []) (hN : Ints w X xs) (hl : xs.length ≤ 1000) (hb : base ≤ w.heap.size)
    (h : ∀ X' cx' w', Hid (Ints w' X' xs) → xs.length ≤ cx' → cx' ≤ maxLen → Hid (Below base w w') → wpList Tryz.prog ops Q rest (a.put o.dst (.slice X' xs.length cx')) w') :
    wpList Tryz.prog ops Q (o :: rest) a w := by
  obtain ⟨i0, hi, hz0, hz1, hz2⟩ := info_parts infoInt
  cases X with
  | none =>
    have hL : xs = [] := by
      cases xs with
      | nil => rfl
      | cons n L => obtain ⟨b, o, e, -⟩ := hN 0 (by simp); cases e
    subst hL
    refine wpList_plain hgd fun K hK => ?_
    have hrun := run_app_noneI (P := Tryz.prog) w base 23 o.type 3 i0 1 Tryz.underlying23 hi _ _ _ hown cx
    unfold Oper.wp execOp
    rw [List.length_nil] at hx
    simp only [ho, resolve, invoke, builtin, Sem.run_bind, Sem.run_pure, Result.andThen_ok, List.map_toArray, List.map_cons, List.map_nil, hs, hx, hrun]
    exact hK _ _ (h (some ⟨g0, 0, none⟩) 0 w (Lib.hid fun i hi => by simp at hi) (Nat.le_refl _) (Nat.zero_le _) (Lib.hid (Below.refl _ _)))
  | some ad =>
    obtain ⟨b, of, f⟩ := ad
    have hnews : ∀ j u, (xs.map (Value.int .i64))[j]? = some u → w.cell? ((⟨b, of, f⟩ : Addr).add j) = some u := fun j u hu => by
      have hj : j < xs.length := by have := (List.getElem?_eq_some_iff.1 hu).1; simpa using this
      obtain ⟨b', o', e, hc⟩ := hN j hj
      injection e with e; injection e with e1 e2 e3
      subst e1; subst e2; subst e3
      rw [Addr.add_lit, hc]
      simp [hj] at hu
      rw [← hu]; simp [nth, hj]
    refine wpList_append_own _ hgd s x 23 ho base 3 i0 _ 1 8 Tryz.underlying23 hi hz0 hz1 hz2 rfl (by decide) _ 0 [] hs hown ⟨b, of, f⟩ xs.length cx (xs.map (Value.int .i64)) hx (by simp) hnews (fun u hu => by obtain ⟨n, -, rfl⟩ := List.mem_map.1 hu; rfl) (by show 0 + xs.length ≤ maxLen; exact Nat.le_trans (by omega) (show 1000 ≤ maxLen by decide)) (by omega) hb ?_
    intro v' w' h1 hg h2
    rw [List.nil_append, Nat.zero_add] at h1
    have hbl : Below base w w' := (Below.refl base w).grown hg hb (own_block hown)
    rcases id h1.2 with ⟨e, -⟩ | ⟨g, cap, cur, rfl, hbg, -, hnc, hcm, -⟩
    · exact absurd (h2.1 e).1 (by simp)
    · obtain ⟨A, c, e, k1, k2, k3⟩ := own_ints h1
      injection e with e1 e2 e3
      subst e1; subst e3
      exact h _ _ w' (Lib.hid k3) k1 k2 (Lib.hid hbl)
end Go.Proofs.YtkljafmdbajfeaaGreatDoor
