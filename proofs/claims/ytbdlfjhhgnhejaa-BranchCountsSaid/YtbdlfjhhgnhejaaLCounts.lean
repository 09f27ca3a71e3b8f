/- BranchCounts: the walk of the statement. -/
import Derived.Test.YtbdlfjhhgnhejaaLVector
import Derived.Test.YtbdlfjhhgnhejaaPlainC
import Derived.Test.YtbdlfjhhgnhejaaLater
namespace Go.Proofs.Ytbdlfjhhgnhejaa
open Go.RowKit
set_option linter.unusedVariables false
set_option linter.unusedSimpArgs false

/-- What the loop over the box keeps. -/
def MoreAt (w5 : World) (tail : Value → List Value) (u : List Int) (n : Nat) (i : Value) (wr : World) : Prop :=
  ∃ (k : Nat) (v : Value), k ≤ n ∧ i = .int .i64 k ∧ Blk wr w5.heap.size (tail v) 25 ∧ wr.ownsRow (w5.heap.size + 1) 3 1 v k (((wider u).take k).map (Value.int .i64)) ∧ Below w5.heap.size w5 wr
theorem count_at (A B C U : Option Addr) (na nb nc nu ca cb cc cu : Nat) (a : List (List Int)) (b c u : List Int) (most : Int) (w : World) (h : Who w A B C U a b c u) (ha : a.length = na) (hb : b.length = nb) (hc : c.length = nc) (hu : u.length = nu) :
    Calls Try.prog 19 #[.agg #[.slice A na ca, .slice B nb cb, .slice C nc cc, .slice U nu cu], .int .i64 most] w fun e w' => e = .returned (CountVal a b c u most) ∧ Below w.heap.size w w' := by
  subst ha; subst hb; subst hc; subst hu; exact count_calls most h
theorem ints_tail {w : World} {A : Option Addr} {xs : List Int} (h : Ints w A xs) : Ints w (A.map fun x => ⟨x.block, x.off + 1, none⟩) xs.tail := fun i hi => by
  rw [List.length_tail] at hi
  obtain ⟨b, o, rfl, g⟩ := h (i + 1) (by omega)
  refine ⟨b, o + 1, rfl, ?_⟩
  have e : nth xs.tail i = nth xs (i + 1) := by cases xs <;> simp [nth]
  rw [e, Nat.add_assoc, Nat.add_comm 1 i]; exact g
theorem ints_tail1 {w : World} {A : Option Addr} {xs : List Int} (hl : xs.length ≤ 1) : Ints w A xs.tail := fun i hi => by
  rw [List.length_tail] at hi; omega
theorem grid_tail {w : World} {A : Option Addr} {a : List (List Int)} (h : Grid w A a) : Grid w (A.map fun x => ⟨x.block, x.off + 1, none⟩) a.tail := fun i hi => by
  rw [List.length_tail] at hi
  obtain ⟨b, o, R, c, rfl, g, h1, h2⟩ := h (i + 1) (by omega)
  have e : nrow a.tail i = nrow a (i + 1) := by cases a <;> simp [nrow]
  rw [e]
  exact ⟨b, o + 1, R, c, rfl, by rw [Nat.add_assoc, Nat.add_comm 1 i]; exact g, h1, h2⟩
theorem grid_tail1 {w : World} {A : Option Addr} {a : List (List Int)} (hl : a.length ≤ 1) : Grid w A a.tail := fun i hi => by
  rw [List.length_tail] at hi; omega
theorem lone_cell (k : IntKind) (n : Int) : ∀ u ∈ [Value.int k n], u.oneCell' = true := fun u h => by
  obtain rfl : u = .int k n := by simpa using h
  rfl
theorem own_ext {w w' : World} {base n size : Nat} {e : TypeId} {v : Value} {xs : List Value} (h : w.ownsRow base e size v n xs) (hb : Below w.heap.size w w') : w'.ownsRow base e size v n xs :=
  ⟨h.1, h.2.imp id fun ⟨g, cap, cur, h1, h2, h3, r⟩ => ⟨g, cap, cur, h1, h2, (hb.block g (lt_of_block h3)).trans h3, r⟩⟩
theorem own_set {w : World} {base n size : Nat} {e : TypeId} {v : Value} {xs : List Value} (h : w.ownsRow base e size v n xs) (a : Addr) (x : Value) (ha : a.block < base) : (w.setCell a x).ownsRow base e size v n xs :=
  ⟨h.1, h.2.imp id fun ⟨g, cap, cur, h1, h2, h3, r⟩ => ⟨g, cap, cur, h1, h2, by rw [Below.heap_setCell _ _ _ _ (by omega)]; exact h3, r⟩⟩
theorem Blk.grown {w w' : World} {b : Nat} {vs : List Value} {T : TypeId} {row : Option Nat} (h : Blk w b vs T) (hg : w.grownBy w' row) (hne : some b ≠ row) : Blk w' b vs T := by
  have := h.lt
  unfold Blk at *; rw [hg.block b this hne]; exact h
theorem count_ok {a : List (List Int)} {b c u : List Int} (m : Int) (h : wholeOk a b c u = true) : CountVal a b c u m = .tuple #[.int .i64 (cntL c m (feasL a b u) : Nat), .int .i64 0] := by
  unfold CountVal; rw [if_pos h]

set_option maxRecDepth 100000 in
set_option maxHeartbeats 1000000 in
theorem counts_idle (A B C U : Option Addr) (ca cb cc cu : Nat) (a : List (List Int)) (b c u : List Int) (m1 m2 : Int) (w : World) (hw : Who w A B C U a b c u) (hs : (lightB a b c u && wholeOk a b c u) = false) :
    Calls Try.prog 8 #[.agg #[.slice A a.length ca, .slice B b.length cb, .slice C c.length cc, .slice U u.length cu], .int .i64 m1, .int .i64 m2] w fun e w' => e = .returned (.bool true) ∧ Below w.heap.size w w' := by
  have hb0 : ∀ o, Below w.heap.size w (w.alloc o) := fun o => (Below.refl _ _).alloc (Nat.le_refl _) _
  have hli : ∀ o, _ := fun o => light_calls A B C U ca cb cc cu a b c u (w.alloc o) (hw.ext (hb0 o))
  have B0 := Blk.new w [.slice A a.length ca, .slice B b.length cb, .slice C c.length cc, .slice U u.length cu] 25
  have W0 := hw.ext (hb0 (.cells #[.slice A a.length ca, .slice B b.length cb, .slice C c.length cc, .slice U u.length cu] 25 (0, 0)))
  have HX0 := Lib.hid (hb0 (.cells #[.slice A a.length ca, .slice B b.length cb, .slice C c.length cc, .slice U u.length cu] 25 (0, 0)))
  clear hb0 hw
  cases hl : lightB a b c u
  · rw [hl] at hli
    clear hs hl
    go_enter Try.func8, Try.ntmps8
    go_wp2_with fail
    refine (hli _).mono ?_; rintro e w1 ⟨rfl, hb1⟩
    have HX := Lib.hid (ext_trans HX0.out hb1)
    clear hb1 HX0 hli W0 B0
    go_wp2_with fail
    refine (alive_calls _).mono ?_; rintro e w2 ⟨rfl, hb2⟩
    have HX2 := Lib.hid (ext_trans HX.out hb2)
    clear hb2
    go_wp2_with fail
    go_ret
    exact ⟨rfl, HX2.out⟩
  · have hok : wholeOk a b c u = false := by simpa [hl] using hs
    rw [hl] at hli
    have hv : ∀ w2, Who w2 A B C U a b c u → _ := fun w2 h => refWhole_calls A B C U ca cb cc cu a b c u w2 h
    rw [hok] at hv
    clear hs hl hok
    go_enter Try.func8, Try.ntmps8
    go_wp2_with fail
    refine (hli _).mono ?_; rintro e w1 ⟨rfl, hb1⟩
    have HX := Lib.hid (ext_trans HX0.out hb1)
    obtain ⟨k0, k1, k2, k3⟩ := box_at B0 hb1
    have W1 := W0.ext hb1
    clear hb1 HX0 hli W0 B0
    go_wp2_with fail
    refine (hv _ W1).mono ?_; rintro e w2 ⟨rfl, hb2⟩
    have HX1 := Lib.hid (ext_trans HX.out hb2)
    clear hb2 hv W1 k0 k1 k2 k3
    go_wp2_with fail
    refine (alive_calls _).mono ?_; rintro e w3 ⟨rfl, hb3⟩
    have HX2 := Lib.hid (ext_trans HX1.out hb3)
    clear hb3
    go_wp2_with fail
    go_ret
    exact ⟨rfl, HX2.out⟩

set_option maxRecDepth 100000 in
set_option maxHeartbeats 2000000 in
theorem counts_main (A B C U : Option Addr) (ca cb cc cu : Nat) (a : List (List Int)) (b c u : List Int) (m1 m2 lo hi : Int) (w : World) (hw : Who w A B C U a b c u) (hl : lightB a b c u = true) (hok : wholeOk a b c u = true)
    (hmin : (if m2 < m1 then m2 else m1) = lo) (hmax : (if m1 < m2 then m2 else m1) = hi) (hlh : lo ≤ hi) (hca : a.length ≤ ca ∧ ca ≤ maxLen) (hcb : b.length ≤ cb ∧ cb ≤ maxLen) :
    Calls Try.prog 8 #[.agg #[.slice A a.length ca, .slice B b.length cb, .slice C c.length cc, .slice U u.length cu], .int .i64 m1, .int .i64 m2] w fun e w' => e = .returned (.bool true) ∧ Below w.heap.size w w' := by
  have hb0 : ∀ o, Below w.heap.size w (w.alloc o) := fun o => (Below.refl _ _).alloc (Nat.le_refl _) _
  have hli : ∀ o, _ := fun o => light_calls A B C U ca cb cc cu a b c u (w.alloc o) (hw.ext (hb0 o))
  have B0 := Blk.new w [.slice A a.length ca, .slice B b.length cb, .slice C c.length cc, .slice U u.length cu] 25
  have W0 := hw.ext (hb0 (.cells #[.slice A a.length ca, .slice B b.length cb, .slice C c.length cc, .slice U u.length cu] 25 (0, 0)))
  have HX0 := Lib.hid (hb0 (.cells #[.slice A a.length ca, .slice B b.length cb, .slice C c.length cc, .slice U u.length cu] 25 (0, 0)))
  have hv : ∀ w2, Who w2 A B C U a b c u → _ := fun w2 h => refWhole_calls A B C U ca cb cc cu a b c u w2 h
  rw [hok] at hv
  rw [hl] at hli
  have HV := Lib.hid hv; have HOK := Lib.hid hok; have HLH := Lib.hid hlh; have HCA := Lib.hid hca; have HCB := Lib.hid hcb
  clear hb0 hw hv hl hok hlh hca hcb
  go_enter Try.func8, Try.ntmps8
  go_wp2_with fail
  refine (hli _).mono ?_; rintro e w1 ⟨rfl, hb1⟩
  have HX := Lib.hid (ext_trans HX0.out hb1)
  obtain ⟨k0, k1, k2, k3⟩ := box_at B0 hb1
  have W1 := W0.ext hb1; have B1 := B0.ext hb1
  clear hb1 HX0 hli W0 B0
  go_wp2_with fail
  refine (HV.out _ W1).mono ?_; rintro e w2 ⟨rfl, hb2⟩
  have HX1 := Lib.hid (ext_trans HX.out hb2)
  clear k0 k1 k2 k3
  obtain ⟨k0, k1, k2, k3⟩ := box_at B1 hb2
  have W2 := W1.ext hb2; have B2 := B1.ext hb2
  clear hb2 W1 B1 HX HV
  go_wp2_with fail
  obtain ⟨X, hX⟩ : ∃ X, cntL c lo (feasL a b u) = X := ⟨_, rfl⟩
  obtain ⟨Y, hY⟩ : ∃ Y, cntL c hi (feasL a b u) = Y := ⟨_, rfl⟩
  have hXY : X ≤ Y := by rw [← hX, ← hY]; exact cntL_mono HLH.out
  have HCX : Hid (CountVal a b c u lo = .tuple #[.int .i64 (X : Nat), .int .i64 0]) := Lib.hid (by rw [count_ok lo HOK.out, hX])
  have HCY : Hid (CountVal a b c u hi = .tuple #[.int .i64 (Y : Nat), .int .i64 0]) := Lib.hid (by rw [count_ok hi HOK.out, hY])
  have HX' := Lib.hid hX; have HY' := Lib.hid hY
  clear hX hY
  refine (count_calls lo W2).mono ?_
  rw [HCX.out]
  rintro e w3 ⟨rfl, hb3⟩
  have HX2 := Lib.hid (ext_trans HX1.out hb3)
  clear k0 k1 k2 k3
  obtain ⟨k0, k1, k2, k3⟩ := box_at B2 hb3
  have W3 := W2.ext hb3; have B3 := B2.ext hb3
  clear hb3 W2 B2 HX1
  go_wp2_with fail
  refine (count_calls hi W3).mono ?_
  rw [HCY.out]
  rintro e w4 ⟨rfl, hb4⟩
  have HX3 := Lib.hid (ext_trans HX2.out hb4)
  clear k0 k1 k2 k3
  obtain ⟨k0, k1, k2, k3⟩ := box_at B3 hb4
  have W4 := W3.ext hb4; have B4 := B3.ext hb4
  clear hb4 W3 B3 HX2
  go_wp2_with fail
  refine (solve_calls W4).mono ?_; intro e w5 hp
  have hp2 := solve_form hp
  obtain ⟨S, sc, he, -, -, hb5⟩ := hp2
  have HX4 := Lib.hid (ext_trans HX3.out hb5)
  clear k0 k1 k2 k3 hp
  obtain ⟨k0, k1, k2, k3⟩ := box_at B4 hb5
  have W5 := W4.ext hb5; have B5 := B4.ext hb5
  clear hb5 W4 B4 HX3
  cases hb : bestL c (feasL a b u) with
  | none =>
    have hy0 : Y = 0 := by rw [← HY'.out]; exact cntL_none hb
    subst hy0
    obtain rfl : X = 0 := by omega
    have hsv : solveV a b c u = ([], 0, 10) := by unfold solveV; rw [if_pos HOK.out, hb]
    rw [hsv] at he
    subst he
    clear hb hsv
    go_wp2_with fail
    refine (alive_calls _).mono ?_; rintro e w6 ⟨rfl, hb6⟩
    have HX5 := Lib.hid (ext_trans HX4.out hb6)
    clear hb6
    go_wp2_with fail
    go_ret
    exact ⟨rfl, HX5.out⟩
  | some x =>
    have hsv : solveV a b c u = (x, dotZ c x, 0) := by unfold solveV; rw [if_pos HOK.out, hb]
    have px : 0 < X ↔ dotZ c x ≤ lo := by rw [← HX'.out]; exact cntL_pos (feasL_sorted a b u) hb
    have py : 0 < Y ↔ dotZ c x ≤ hi := by rw [← HY'.out]; exact cntL_pos (feasL_sorted a b u) hb
    rw [hsv] at he
    dsimp only at he
    subst he
    clear hb hsv
    have dx : decide ((X : Int) < 0) = false := decide_eq_false (by omega)
    have dy : decide (Y < X) = false := decide_eq_false (by omega)
    go_wp2_with fail
    clear dx dy
    have BM := Blk.new w5 [.slice A a.length ca, .slice B b.length cb, .slice C c.length cc, .slice none 0 0] 25
    have bl5 := B5.lt
    have hul : (u.length : Int) ≤ 9223372036854775807 := by have := W5.lu; unfold maxLen at this; omega
    have hup : upOk u = true := by have := HOK.out; unfold wholeOk at this; simp only [Bool.and_eq_true] at this; exact this.1.2
    have HUP := Lib.hid hup
    have HW5 := Lib.hid W5; have HB5 := Lib.hid B5
    clear k0 k1 k2 k3 hup W5 B5 px py hmin hmax
    go_loopw [17] (MoreAt w5 (fun v => [.slice A a.length ca, .slice B b.length cb, .slice C c.length cc, v]) u u.length) (fun i _ => u.length - (intOf i).toNat)
    case atStart => exact ⟨0, _, Nat.zero_le _, rfl, BM, World.ownsRow_nil _ _ _ _, (Below.refl _ _).alloc (Nat.le_refl _) _⟩
    case round =>
      obtain ⟨k, v, hk, rfl, hbm, hown, hbe⟩ := hrel
      dsimp only at hbm
      have W6 := HW5.out.ext hbe; have B6 := HB5.out.ext hbe
      have U6 := W6.gu
      have k3 : wr.cell? ⟨w.heap.size, 3, none⟩ = some (.slice U u.length cu) := B6.cell 3 (by simp)
      have m3 : wr.cell? ⟨w5.heap.size, 3, none⟩ = some v := hbm.cell 3 (by simp)
      by_cases hlt : k < u.length
      · obtain ⟨bu, ou, rfl, gu⟩ := U6 k hlt
        have hux : 0 ≤ nth u k ∧ nth u k ≤ 7 := by
          have := HUP.out; unfold upOk at this; rw [List.all_eq_true] at this
          simpa using this (nth u k) (nth_mem hlt)
        have hk1 : (k : Int) < u.length := by omega
        have hbl := hbm.lt
        go_wp2_with fail
        have hwr : IntKind.i64.wrap (nth u k + 1) = nth u k + 1 := IntWalk.i64_in _ (by omega)
        have hmn : (if 7 < nth u k + 1 then 7 else nth u k + 1) = min (nth u k + 1) 7 := by omega
        refine wp_region_later (w0 := wr) 10 [102, 103, 104, 105, 106, 107, 108, 109, 110, 111]
          [leafS 102 (.pointer (some ⟨w5.heap.size, 3, none⟩)), leafS 103 v, leafS 104 (.pointer (some ⟨w.heap.size, 3, none⟩)), leafS 105 (.slice (some ⟨bu, ou, none⟩) u.length cu), leafS 106 (.int .i64 k), leafS 107 (.pointer (some ⟨bu, ou + k, none⟩)),
           leafS 108 (.int .i64 (nth u k)), leafS 109 (.int .i64 (nth u k + 1)), leafS 110 (.int .i64 (min (nth u k + 1) 7)), leaf1 111 (fun x w => ∃ p, x = .slice (some ⟨p, 0, none⟩) 1 1 ∧ Blk w p [.int .i64 (min (nth u k + 1) 7)] 3 ∧ w5.heap.size < p)]
          (fun w w' => Below w.heap.size w w') (by kernel_rfl) (by kernel_rfl) rfl (F := ?cF) ?c1 (fun _ _ _ => ext_trans) (Below.refl _ _).drew ?c2 ?c3 ?c4
        case c1 =>
          intro x
          simp only [fullF, Act.put, List.setIfInBounds_toArray, List.set_cons_zero, List.set_cons_succ]
          rfl
        case c2 =>
          refine AllStay.mem ⟨stays_const _ _ _, stays_const _ _ _, stays_const _ _ _, stays_const _ _ _, stays_const _ _ _, stays_const _ _ _, stays_const _ _ _, stays_const _ _ _, stays_const _ _ _, stays_of _ ?_, trivial⟩
          rintro x w1 w2 ⟨p, h1, h2, h3⟩ hb
          exact ⟨p, h1, h2.ext hb, h3⟩
        case c3 =>
          refine ⟨?_, ?_, ?_, ?_, ?_, ?_, ?_, ?_, ?_, ?_, trivial⟩
          all_goals
            intro x w0 hE hd K hK
            have hc := (bcell hE).1
            have k3' := (hc _ _ (cell_lt k3)).trans k3
            have m3' := (hc _ _ (cell_lt m3)).trans m3
            have gu' := (hc _ _ (cell_lt gu)).trans gu
            try have e0 : x 102 = _ := hd 0 _ (by decide) rfl
            try have e1 : x 103 = _ := hd 1 _ (by decide) rfl
            try have e2 : x 104 = _ := hd 2 _ (by decide) rfl
            try have e3 : x 105 = _ := hd 3 _ (by decide) rfl
            try have e4 : x 106 = _ := hd 4 _ (by decide) rfl
            try have e5 : x 107 = _ := hd 5 _ (by decide) rfl
            try have e6 : x 108 = _ := hd 6 _ (by decide) rfl
            try have e7 : x 109 = _ := hd 7 _ (by decide) rfl
            try have e8 : x 110 = _ := hd 8 _ (by decide) rfl
            have HC := Lib.hid hc; have HE := Lib.hid hE
            clear hd hc hE
            go_simp
            try exact hK _ _ _ (Below.refl _ _) (upd_self _ _ _) (by dsimp only [Act.put]; first | rfl | (simp [*]; done))
          exact hK _ _ _ ((Below.refl _ _).alloc (Nat.le_refl _) _) ⟨w0.heap.size, upd_self _ _ _, Blk.new _ [_] _, Nat.lt_of_lt_of_le hbl HE.out.size⟩ (by dsimp only [Act.put]; first | rfl | (simp [*]; done))
        case c4 =>
          intro x w0 hE hG
          have e1 : x 103 = _ := hG 1 _ rfl
          obtain ⟨p, e9, hp, hpl⟩ := hG 9 _ rfl
          refine tail_one (i := 10) (by kernel_rfl) rfl ?_
          intro K hK
          rw [if_pos (by rfl)]
          have hown0 := own_ext hown hE
          obtain ⟨i0, hi, hz0, hz1, hz2⟩ := info_parts infoInt
          have hlu : u.length ≤ 5 := (wholeOk_len HOK.out).2.2
          refine wp_append_own _ (.tmp 103) (.tmp 111) 23 rfl (w5.heap.size + 1) 3 i0 (.int .i64 0) 1 8 Try.underlying23 hi hz0 hz1 hz2 rfl (by decide) v k _ e1 hown0 ⟨p, 0, none⟩ 1 1 [.int .i64 (min (nth u k + 1) 7)] e9 rfl ?_ (lone_cell _ _) (by unfold maxLen; omega) (by omega) (by have := hE.size; omega) ?_
          · intro j y hy
            rcases j with _ | j
            · simp at hy; subst hy; exact hp.cell 0 (by simp)
            · simp at hy
          intro v' w1 hown1 hgrow _
          obtain ⟨g, cap, rfl⟩ : ∃ g cap, v' = .slice (some ⟨g, 0, none⟩) (k + 1) cap := by
            rcases hown1.2 with ⟨-, h0⟩ | ⟨g, cap, cur, e, -⟩
            · omega
            · exact ⟨g, cap, e⟩
          have hrow : ∀ q, v.ownBlock = some q → w5.heap.size + 1 ≤ q := fun q hq => (World.ownsRow.lt hown q hq).1
          have bm1 := (hbm.ext hE).grown hgrow (fun e => by have := hrow _ e.symm; omega)
          have hbe1 : Below w5.heap.size w5 w1 := (hbe.trans (hE.mono hbe.size)).grown hgrow (by have := hE.size; omega) (fun q hq => by have := hrow q hq; omega)
          have hnext : ((wider u).take (k + 1)).map (Value.int .i64) = ((wider u).take k).map (Value.int .i64) ++ [.int .i64 (min (nth u k + 1) 7)] := by
            have hkw : k < (wider u).length := by rw [wider_len]; exact hlt
            rw [take_nth hkw, List.map_append]
            congr 1
            have : nth (wider u) k = min (nth u k + 1) 7 := by rw [nth_lt hkw, nth_lt hlt]; simp [wider]
            rw [this]; rfl
          have HO1 := Lib.hid hown1; have HN := Lib.hid hnext; have HBE1 := Lib.hid hbe1
          have m31 : w1.cell? ⟨w5.heap.size, 3, none⟩ = some v := bm1.cell 3 (by simp)
          have mf1 := bm1.free 3
          have hbm1 := bm1.lt
          have HBM := Lib.hid bm1
          clear hown hown0 hown1 hgrow hrow bm1 hbe1 hnext hG hp hE hbm hbe W6 B6 U6 k3 m3 gu hwr hmn
          refine hK _ _ ?_
          refine tail_one (i := 11) (by kernel_rfl) rfl ?_
          intro K2 hK2
          go_simp
          refine hK2 _ _ ?_
          refine tail_one (i := 12) (by kernel_rfl) rfl ?_
          intro K3 hK3
          go_simp
          refine hK3 _ _ ?_
          refine wpAny_done (by kernel_rfl) ?_ _
          simp only [Exit.inBlock, Exit.then]
          go_wp2
          go_roundw
          case rel => exact ⟨k + 1, _, by omega, by go_num, HBM.out.set 3 _, by rw [HN.out]; exact own_set HO1.out _ _ (by dsimp only; omega), HBE1.out.setCell (Nat.le_refl _) _⟩
          case measure => simp [intOf]; omega
      · obtain rfl : k = u.length := by omega
        have hwl : (wider u).take u.length = wider u := by rw [← wider_len u, List.take_length]
        rw [hwl] at hown
        have k0 : wr.cell? ⟨w.heap.size, 0, none⟩ = some (.slice A a.length ca) := B6.cell 0 (by simp)
        have k1 : wr.cell? ⟨w.heap.size, 1, none⟩ = some (.slice B b.length cb) := B6.cell 1 (by simp)
        have m0 : wr.cell? ⟨w5.heap.size, 0, none⟩ = some (.slice A a.length ca) := hbm.cell 0 (by simp)
        have m1 : wr.cell? ⟨w5.heap.size, 1, none⟩ = some (.slice B b.length cb) := hbm.cell 1 (by simp)
        have m2 : wr.cell? ⟨w5.heap.size, 2, none⟩ = some (.slice C c.length cc) := hbm.cell 2 (by simp)
        have f0 := hbm.free 0; have f1 := hbm.free 1; have hbl := hbm.lt
        have hupw : upOk (wider u) = true := upOk_wider HUP.out
        clear hwl
        by_cases ha0 : 0 < a.length
        · have hq : (0 : Int) < a.length := by omega
          obtain ⟨hca1, hca2⟩ := HCA.out
          obtain ⟨hcb1, hcb2⟩ := HCB.out
          have hpr : Hid (b.length = a.length) := Lib.hid (by
            have := HOK.out; unfold wholeOk at this; simp only [Bool.and_eq_true] at this
            exact (progOk_parts this.2).2.2.2.1)
          have hb0 : 0 < b.length := by have := hpr.out; omega
          have hq2 : (0 : Int) < b.length := by omega
          have hu0 := (wholeOk_len HOK.out).2.1
          obtain ⟨g, cap, rfl, hg1, hg2, hgi⟩ := ints_of_own hown hu0
          have HOWN := Lib.hid hown; have HBE := Lib.hid hbe
          unfold maxLen at hca2 hcb2
          have hcnt : Hid (CountVal a.tail b.tail c (wider u) hi = .tuple #[.int .i64 (cntL c hi (feasL a.tail b.tail (wider u)) : Nat), .int .i64 0]) := Lib.hid (count_ok hi (wholeOk_tail (wholeOk_wider HOK.out)))
          have hmore : Hid (Y ≤ cntL c hi (feasL a.tail b.tail (wider u))) := Lib.hid (by rw [← HY'.out]; exact cntL_sub (feasL_wider HUP.out))
          generalize cntL c hi (feasL a.tail b.tail (wider u)) = Z at *
          have fin : Hid (∀ (W : World) (A' B' : Option Addr) (ca' cb' : Nat), Below w5.heap.size w5 W → W.ownsRow (w5.heap.size + 1) 3 1 (.slice (some ⟨g, 0, none⟩) (wider u).length cap) u.length ((wider u).map (Value.int .i64)) → ((A' = A ∧ a.length ≤ 1) ∨ A' = A.map fun x => ⟨x.block, x.off + 1, none⟩) → ((B' = B ∧ b.length ≤ 1) ∨ B' = B.map fun x => ⟨x.block, x.off + 1, none⟩) →
              Calls Try.prog 19 #[.agg #[.slice A' (a.length - 1) ca', .slice B' (b.length - 1) cb', .slice C c.length cc, .slice (some ⟨g, 0, none⟩) (wider u).length cap], .int .i64 hi] W fun e w' => e = .returned (.tuple #[.int .i64 (Z : Nat), .int .i64 0]) ∧ Below W.heap.size W w') := Lib.hid (by
            intro W A' B' ca' cb' hW hO hA hB
            have hw' := HW5.out.ext hW
            obtain ⟨g2, cap2, e, -, -, hI⟩ := ints_of_own hO hu0
            injection e with e e2 e3; subst e3
            rw [← e] at hI
            have hlu2 : (wider u).length ≤ maxLen := by rw [wider_len]; exact hw'.lu
            have hga : Grid W A' a.tail := by
              rcases hA with ⟨rfl, h⟩ | rfl
              · exact grid_tail1 h
              · exact grid_tail hw'.p.ga
            have hgb : Ints W B' b.tail := by
              rcases hB with ⟨rfl, h⟩ | rfl
              · exact ints_tail1 h
              · exact ints_tail hw'.p.gb
            have := count_at A' B' C (some ⟨g, 0, none⟩) (a.length - 1) (b.length - 1) c.length (wider u).length ca' cb' cc cap a.tail b.tail c (wider u) hi W ⟨⟨hga, hgb, hw'.p.gc, by rw [List.length_tail]; have := hw'.p.la; omega, fun r hr => hw'.p.lr r (List.mem_of_mem_tail hr), by rw [List.length_tail]; have := hw'.p.lb; omega, hw'.p.lc⟩, hI, hlu2⟩ (by rw [List.length_tail]) (by rw [List.length_tail]) rfl rfl
            rw [hcnt.out] at this
            exact this)
          clear hown hbe hgi hcnt HW5
          have HQ := Lib.hid hmore.out
          have q1 : decide ((Y : Int) ≤ Z) = true := decide_eq_true (by have := hmore.out; omega)
          go_wp2_with fail
          all_goals
            refine (fin.out _ _ _ _ _ ((HBE.out.setCell (Nat.le_refl _) _).setCell (Nat.le_refl _) _) (own_set (own_set HOWN.out _ _ (by simp)) _ _ (by simp)) ?_ ?_).mono ?_
            · first | exact .inr rfl | exact .inl ⟨rfl, by omega⟩
            · first | exact .inr rfl | exact .inl ⟨rfl, by omega⟩
            rintro e w6 ⟨rfl, hb6⟩
            have HX5 := Lib.hid (ext_trans (((HX4.out.trans (HBE.out.mono HX4.out.size)).setCell (by dsimp only; omega) _).setCell (by dsimp only; omega) _) hb6)
            clear hb6
            go_wp2_with fail
            refine (alive_calls _).mono ?_; rintro e w7 ⟨rfl, hb7⟩
            have HX6 := Lib.hid (ext_trans HX5.out hb7)
            clear hb7
            go_wp2_with fail
            go_ret
            exact ⟨rfl, HX6.out⟩
        · have hq : decide ((0 : Int) < a.length) = false := decide_eq_false (by omega)
          have hu0 := (wholeOk_len HOK.out).2.1
          obtain ⟨g, cap, rfl, hg1, hg2, hgi⟩ := ints_of_own hown hu0
          have HBE := Lib.hid hbe
          have hcnt : Hid (CountVal a b c (wider u) hi = .tuple #[.int .i64 (cntL c hi (feasL a b (wider u)) : Nat), .int .i64 0]) := Lib.hid (count_ok hi (wholeOk_wider HOK.out))
          have hmore : Hid (Y ≤ cntL c hi (feasL a b (wider u))) := Lib.hid (by rw [← HY'.out]; exact cntL_sub (feasL_wider0 HUP.out))
          generalize cntL c hi (feasL a b (wider u)) = Z at *
          have fin := count_at A B C (some ⟨g, 0, none⟩) a.length b.length c.length (wider u).length ca cb cc cap a b c (wider u) hi wr ⟨W6.p, hgi, by rw [wider_len]; exact W6.lu⟩ rfl rfl rfl rfl
          rw [hcnt.out] at fin
          have FIN := Lib.hid fin
          clear fin hown hbe hgi hcnt HW5 W6 B6 U6 hupw
          have q1 : decide ((Y : Int) ≤ Z) = true := decide_eq_true (by have := hmore.out; omega)
          go_wp2_with fail
          refine FIN.out.mono ?_
          rintro e w6 ⟨rfl, hb6⟩
          have HX5 := Lib.hid (ext_trans (HX4.out.trans (HBE.out.mono HX4.out.size)) hb6)
          clear hb6
          go_wp2_with fail
          refine (alive_calls _).mono ?_; rintro e w7 ⟨rfl, hb7⟩
          have HX6 := Lib.hid (ext_trans HX5.out hb7)
          clear hb7
          go_wp2_with fail
          go_ret
          exact ⟨rfl, HX6.out⟩

theorem counts_walk (A B C U : Option Addr) (ca cb cc cu : Nat) (a : List (List Int)) (b c u : List Int) (m1 m2 : Int) (w : World) (hw : Who w A B C U a b c u) (hca : a.length ≤ ca ∧ ca ≤ maxLen) (hcb : b.length ≤ cb ∧ cb ≤ maxLen) :
    Calls Try.prog 8 #[.agg #[.slice A a.length ca, .slice B b.length cb, .slice C c.length cc, .slice U u.length cu], .int .i64 m1, .int .i64 m2] w fun e w' => e = .returned (.bool true) ∧ Below w.heap.size w w' := by
  cases hs : (lightB a b c u && wholeOk a b c u)
  · exact counts_idle A B C U ca cb cc cu a b c u m1 m2 w hw hs
  · rw [Bool.and_eq_true] at hs
    exact counts_main A B C U ca cb cc cu a b c u m1 m2 _ _ w hw hs.1 hs.2 rfl rfl (by split <;> split <;> omega) hca hcb
end Go.Proofs.Ytbdlfjhhgnhejaa
