/- linear.ints: vectors as rows of ints. -/
import Derived.Test.YtkljafmdbajfeaaGreatDoorNoA06
import Derived.Test.YtkljafmdbajfeaaGreatDoorNoA28
namespace Go.Proofs.YtkljafmdbajfeaaGreatDoor
open Go.RowKit Go.ChangeMaps
open Lp (V)
set_option linter.unusedVariables false
set_option linter.unusedSimpArgs false
theorem infoRow : (Tryz.prog.info? 23).map (fun i => (i.zero, i.size, i.bytes)) = some (some (.slice none 0 0), 1, 24) := by kernel_rfl
structure GRow (w : World) (base : Nat) (v : Value) (i n : Nat) (fs : List V) : Prop where
  ex : ∃ gs : List Nat, gs.length = i ∧ w.ownsRow base 23 1 v i (gs.map fun g => .slice (some ⟨g, 0, none⟩) n n) ∧ OwnC isSl w v ∧ ∀ j, ∀ hj : j < gs.length, ∃ hf : j < fs.length, base ≤ gs[j] ∧ IBlk w gs[j] (intsTo fs[j] n n)
theorem GRow.ext {w w' : World} {base i n : Nat} {v : Value} {fs : List V} (h : GRow w base v i n fs) (hb : Below w.heap.size w w') : GRow w' base v i n fs := by
  obtain ⟨gs, h1, h2, h4, h3⟩ := h.ex
  exact ⟨gs, h1, own_ext h2 hb, h4.ext h2 hb, fun j hj => by obtain ⟨hf, h, k⟩ := h3 j hj; exact ⟨hf, h, Blk.ext k hb⟩⟩
theorem GRow.grid {w : World} {base n : Nat} {v : Value} {fs : List V} (h : GRow w base v fs.length n fs) : ∃ A c, v = .slice A fs.length c ∧ fs.length ≤ c ∧ c ≤ maxLen ∧ Grid w A (fs.map fun f => intsTo f n n) := by
  obtain ⟨gs, h1, h2, -, h3⟩ := h.ex
  obtain ⟨-, h4⟩ := id h2
  rcases h4 with ⟨rfl, h0⟩ | ⟨g, cap, cur, rfl, hg, hh, h5, h6, _⟩
  · exact ⟨none, 0, by rw [h0], by omega, Nat.zero_le _, fun i hi => by simp at hi; omega⟩
  · refine ⟨_, cap, rfl, h5, h6, fun j hj => ?_⟩
    have hj' : j < fs.length := by simpa using hj
    obtain ⟨hf, -, hI⟩ := h3 j (by omega)
    have e : nrow (fs.map fun f => intsTo f n n) j = intsTo fs[j] n n := by rw [nrow_lt hj]; simp
    refine ⟨g, 0, some ⟨gs[j]'(by omega), 0, none⟩, n, rfl, ?_, by rw [e, intsTo_len]; exact Nat.le_refl _, by rw [e]; exact hI.ints⟩
    rw [Nat.zero_add, h2.cellAt j (by omega), e, intsTo_len]
    simp [h1, hj']
theorem IBlk.grown {w w' : World} {v : Value} {g : Nat} {xs : List Int} (h : IBlk w g xs) (h0 : 0 < xs.length) (hq : OwnC isSl w v) (hg : w.grownBy w' v.ownBlock) : IBlk w' g xs := by
  have hb : w'.heap[g]? = w.heap[g]? := hg.block g h.lt (fun e => by
    have := hq g e.symm 0 _ (h.cell 0 h0)
    obtain ⟨A, n, c, e2⟩ := this; cases e2)
  exact hb.trans h
theorem GRow.push {w w' : World} {base i n g : Nat} {v v' : Value} {fs : List V} {gs : List Nat} (h0 : 0 < n) (h1 : gs.length = i) (h4 : OwnC isSl w v) (h3 : ∀ j, ∀ hj : j < gs.length, ∃ hf : j < fs.length, base ≤ gs[j] ∧ IBlk w gs[j] (intsTo fs[j] n n)) (hi : i < fs.length) (hb : base ≤ g) (hx : IBlk w g (intsTo fs[i] n n))
    (ho : w'.ownsRow base 23 1 v' (i + 1) ((gs.map fun g => Value.slice (some ⟨g, 0, none⟩) n n) ++ [.slice (some ⟨g, 0, none⟩) n n])) (hg : w.grownBy w' v.ownBlock) (hc : OwnC isSl w' v') : GRow w' base v' (i + 1) n fs := by
  refine ⟨gs ++ [g], by simp [h1], by simpa using ho, hc, fun j hj => ?_⟩
  have hjl : j < fs.length := by simp at hj; omega
  refine ⟨hjl, ?_⟩
  rw [List.getElem_append]
  split
  · rename_i h; obtain ⟨hf, h6, h5⟩ := h3 j h; exact ⟨h6, h5.grown (by rw [intsTo_len]; exact h0) h4 hg⟩
  · rename_i h
    have : j = i := by simp at hj; omega
    subst this
    simp only [h1, Nat.sub_self, List.getElem_cons_zero]
    exact ⟨hb, hx.grown (by rw [intsTo_len]; exact h0) h4 hg⟩
set_option maxRecDepth 100000 in
set_option maxHeartbeats 2000000 in
theorem ints_calls (A : Option Addr) (c n : Nat) (fs : List V) (w : World) (h : VecsP w A n fs) (hl : fs.length ≤ 1000) (h0 : 0 < n) (hn : n ≤ 1000) :
    Calls Tryz.prog 81 #[.slice A fs.length c] w fun e w' => ∃ v, e = .returned v ∧ GRow w' w.heap.size v fs.length n fs ∧ Below w.heap.size w w' := by
  obtain ⟨i0, hi0, hz0, hz1, hz2⟩ := info_parts infoRow
  have HH := Lib.hid h
  clear h
  go_enter Tryz.func81, Tryz.ntmps81
  go_wp2
  go_loopw [3, 8] (fun tv ti wr => ∃ (i : Nat), i ≤ fs.length ∧ ti = .int .i64 i ∧ Hid (GRow wr w.heap.size tv i n fs) ∧ Hid (Below w.heap.size w wr)) (fun _ ti _ => fs.length - (intOf ti).toNat)
  case atStart => exact ⟨0, Nat.zero_le _, rfl, Lib.hid ⟨[], rfl, World.ownsRow_nil _ _ _ _, OwnC.nil _ _ _ _, fun j hj => by simp at hj⟩, Lib.hid (Below.refl _ _)⟩
  case round =>
    obtain ⟨i, hi, rfl, hP, hbe⟩ := hrel
    by_cases hlt : i < fs.length
    · have hn1 : (i : Int) < fs.length := by omega
      obtain ⟨b, o, u, rfl, hc, hv⟩ := (HH.out.ext hbe.out) i hlt
      have HIN := Lib.hid (vecInts_calls n fs[i] u wr hv hn)
      obtain ⟨gs0, -, hq2, -⟩ := hP.out.ex
      obtain ⟨A3, c3, rfl, hc3, hc4⟩ := own_size hq2
      clear hv hq2
      go_wp2_with fail
      refine HIN.out.mono ?_; rintro e w2 ⟨g, rfl, hg, hI, hb2⟩
      have hA : Below w2.heap.size w2 (w2.alloc (.cells #[.slice (some ⟨g, 0, none⟩) n n] 23 (0, 0))) := (Below.refl _ _).alloc (Nat.le_refl _) _
      have hB := Blk.new w2 [.slice (some ⟨g, 0, none⟩) n n] 23
      have hP2 := (hP.out.ext hb2).ext hA
      obtain ⟨gs, hps1, hps2, hps4, hps3⟩ := hP2.ex
      have HO1 := Lib.hid hps2; have HC1 := Lib.hid hps4; have HBL := Lib.hid hB; have HA := Lib.hid hA; have H3 := Lib.hid hps3; have HX : Hid (IBlk _ g _) := Lib.hid (Blk.ext hI hA); have HB2 := Lib.hid hb2
      have hsz := hbe.out.size
      have hsz2 := hb2.size
      clear hP2 hps2 hps3 hps4 hB hA hI hb2 HIN
      go_wp2_with (at_builtin; refine wpList_append_all isSl rfl _ _ 22 rfl w.heap.size 23 i0 (.slice none 0 0) 24 Tryz.underlying22 hi0 hz0 hz1 hz2 rfl ⟨_, _, _, rfl⟩ _ _ _ rfl HO1.out HC1.out ⟨w2.heap.size, 0, none⟩ 1 1 [.slice (some ⟨g, 0, none⟩) n n] rfl ?qc1 ?qc2 ?qc3 ?qc7 ?qc8 ?qc4 ?qc5 ?qc6 ?_)
      case qc1 => rfl
      case qc2 =>
        intro j u hj
        cases j with
        | zero => simp at hj; subst hj; exact HBL.out.cell 0 (by simp)
        | succ j => simp at hj
      case qc3 => intro u hu; simp at hu; subst hu; rfl
      case qc7 => intro u hu; simp at hu; subst hu; exact ⟨_, _, _, rfl⟩
      case qc8 => omega
      case qc4 => unfold maxLen; omega
      case qc5 => omega
      case qc6 => exact Nat.le_trans (by omega : w.heap.size ≤ w2.heap.size) HA.out.size
      intro v' w3 hown' hgrow hoc
      have hb23 : Below w.heap.size w2 w3 := ((HA.out.mono (by omega)).grown hgrow (Nat.le_trans (by omega : w.heap.size ≤ w2.heap.size) HA.out.size) (own_block HO1.out))
      have hP3 : GRow w3 w.heap.size v' (i + 1) n fs := GRow.push h0 hps1 HC1.out H3.out hlt (by omega) HX.out hown' hgrow hoc
      have HP3 := Lib.hid hP3; have HB3 := Lib.hid ((hbe.out.trans (HB2.out.mono hsz)).trans hb23)
      clear hown' hgrow hoc hP3 hb23 HO1
      go_wp2
      go_roundw
      case rel => exact ⟨i + 1, by omega, by go_num, HP3, HB3⟩
      case measure => simp [intOf]; omega
    · obtain rfl : i = fs.length := by omega
      go_wp2
      go_ret
      exact ⟨_, rfl, hP.out, hbe.out⟩
end Go.Proofs.YtkljafmdbajfeaaGreatDoor

/- linear.Hermite. -/
namespace Go.Proofs.YtkljafmdbajfeaaGreatDoor
open Go.RowKit Go.ChangeMaps
open Lp (Lt V Ech BdV Bd pivots lv cnt Gen From)
set_option linter.unusedVariables false
set_option linter.unusedSimpArgs false
theorem rowsOk_in {l : List (List Int)} {n : Nat} (h : rowsOk l n = true) : 1 ≤ n ∧ n ≤ 6 ∧ l.length ≤ 6 ∧ (∀ r ∈ l, r.length = n) ∧ ∀ r ∈ l, ∀ x ∈ r, -30 ≤ x ∧ x ≤ 30 := by
  unfold rowsOk rowOk listOk inB at h
  simp only [Bool.and_eq_true, decide_eq_true_eq, List.all_eq_true] at h
  obtain ⟨⟨⟨h1, h2⟩, h3⟩, h4⟩ := h
  exact ⟨h1, h2, h3, fun r hr => (h4 r hr).1, fun r hr x hx => (h4 r hr).2 x hx⟩
theorem nth_bd {r : List Int} {X : Nat} (h : ∀ x ∈ r, -(X : Int) ≤ x ∧ x ≤ X) : BdV X (nth r) := fun i => by
  rcases Nat.lt_or_ge i r.length with h1 | h1
  · have := h _ (nth_mem h1); omega
  · rw [nth_beyond h1]; simp
theorem tri_six {m : Nat} (h : m ≤ 6) : tri m + m ≤ 21 := by
  have := tri_mono h
  have e : tri 6 = 15 := rfl
  omega
theorem wide_21 {k : Nat} (hk : k ≤ 21) {z : Int} (hz : z.natAbs ≤ lv 30 k) : Wide z :=
  wide_of_lv (by omega) (by omega) (Nat.le_trans (Nat.pow_le_pow_right (by omega) hk) (by omega)) hz
theorem own_low {w : World} {base base' size n : Nat} {e : TypeId} {v : Value} {xs : List Value} (h : w.ownsRow base e size v n xs) (hb : base' ≤ base) : w.ownsRow base' e size v n xs := by
  refine ⟨h.1, ?_⟩
  rcases h.2 with h0 | ⟨g, cap, cur, rfl, hg, h3⟩
  · exact .inl h0
  · exact .inr ⟨g, cap, cur, rfl, Nat.le_trans hb hg, h3⟩
theorem GRow.low {w : World} {base base' i n : Nat} {v : Value} {fs : List V} (h : GRow w base v i n fs) (hb : base' ≤ base) : GRow w base' v i n fs := by
  obtain ⟨gs, k1, k2, k3, k4⟩ := h.ex
  exact ⟨gs, k1, own_low k2 hb, k3, fun j hj => by obtain ⟨hf, h5, h6⟩ := k4 j hj; exact ⟨hf, Nat.le_trans hb h5, h6⟩⟩
structure HermiteV (w w' : World) (v : Value) (l : List (List Int)) (n : Nat) (rows : Lt) : Prop where
  grid : GRow w' w.heap.size v (rowsOf rows n).length n (rowsOf rows n)
  ech : Ech n rows
  red : Lp.Red rows
  gen : ∀ x, Gen (From rows 0) x ↔ Gen (· ∈ l.map nth) x
  cnt : cnt rows n ≤ l.length
  below : Below w.heap.size w w'
set_option maxRecDepth 100000 in
set_option maxHeartbeats 2000000 in
theorem hermite_bad (A : Option Addr) (c n : Nat) (l : List (List Int)) (w : World) (h : Grid w A l) (hl : l.length ≤ maxLen) (hn : n ≤ maxLen) (hr : ∀ r ∈ l, r.length ≤ maxLen) (hok : rowsOk l n = false) :
    Calls Tryz.prog 31 #[.slice A l.length c, .int .i64 n] w fun e w' => e = .returned (.tuple #[.slice none 0 0, .int .i64 2]) ∧ Below w.heap.size w w' := by
  have HRW := Lib.hid (rowed_calls A c l n w hl hr hn h)
  go_enter Tryz.func31, Tryz.ntmps31
  go_wp2_with fail
  refine HRW.out.mono ?_; rw [hok]; rintro e w1 ⟨rfl, hb1⟩
  go_wp2
  go_ret2
  exact ⟨rfl, hb1⟩
set_option maxRecDepth 100000 in
set_option maxHeartbeats 2000000 in
theorem hermite_good (A : Option Addr) (c n : Nat) (l : List (List Int)) (w : World) (h : Grid w A l) (hok : rowsOk l n = true) :
    Calls Tryz.prog 31 #[.slice A l.length c, .int .i64 n] w fun e w' => ∃ v rows, e = .returned (.tuple #[v, .int .i64 0]) ∧ HermiteV w w' v l n rows := by
  obtain ⟨h1, h6, hl6, hrow, hx⟩ := rowsOk_in hok
  have HRW := Lib.hid (rowed_calls A c l n w (by unfold maxLen; omega) (fun r hr => by rw [hrow r hr]; unfold maxLen; omega) (by unfold maxLen; omega) h)
  have HG := Lib.hid h
  have HROW : Hid (∀ r ∈ l, r.length = n) := Lib.hid hrow
  have HX : Hid (∀ r ∈ l, ∀ x ∈ r, -30 ≤ x ∧ x ≤ 30) := Lib.hid hx
  clear h hrow hx
  go_enter Tryz.func31, Tryz.ntmps31
  go_wp2_with fail
  refine HRW.out.mono ?_; rw [hok]; rintro e w1 ⟨rfl, hb1⟩
  have HV := Lib.hid (vectors_calls A c n l w1 (HG.out.ext hb1) (by omega) (by omega) HROW.out (fun r hr x hx => by have := HX.out r hr x hx; omega))
  have HB1 := Lib.hid hb1
  clear hb1 HRW
  go_wp2_with fail
  refine HV.out.mono ?_; rintro e w2 ⟨A2, c2, rfl, hvs, hb2⟩
  have hlat := lat_calls n 30 (l.map nth) A2 c2 w2 hvs (by omega) (by omega) (by simp; omega) (fun f hf i hi => by
    obtain ⟨r, hr, rfl⟩ := List.mem_map.1 hf
    exact nth_beyond (by rw [HROW.out r hr]; exact hi)) (fun f hf => by
    obtain ⟨r, hr, rfl⟩ := List.mem_map.1 hf
    exact nth_bd (fun x hx => HX.out r hr x hx)) (by omega) (fun z hz => wide_21 (by rw [List.length_map]; exact tri_six hl6) hz)
  rw [List.length_map] at hlat
  have HLAT := Lib.hid hlat
  have HB2 := Lib.hid (HB1.out.trans (hb2.mono HB1.out.size))
  clear hlat hvs hb2 HV HB1
  go_wp2_with fail
  refine HLAT.out.mono ?_; rintro e w3 ⟨L, M, rows, rfl, hL, hM, hl3, hE, hR, hgen, hcnt, -, hb3⟩
  have HR := Lib.hid (rows_calls L M n rows w3 hl3 (by omega) (by omega))
  have HB3 := Lib.hid (HB2.out.trans (hb3.mono HB2.out.size))
  have HE := Lib.hid hE; have HRED := Lib.hid hR; have HGEN := Lib.hid hgen
  have hle : (rowsOf rows n).length ≤ 1000 := by rw [rowsOf_len]; have := pivots_le rows n; omega
  clear hl3 hb3 hE hR hgen HLAT HB2 hL hM
  go_wp2_with fail
  refine HR.out.mono ?_; rintro e w4 ⟨A4, c4, rfl, hvs4, hb4⟩
  have HI := Lib.hid (ints_calls A4 c4 n (rowsOf rows n) w4 hvs4 hle (by omega) (by omega))
  have HB4 := Lib.hid (HB3.out.trans (hb4.mono HB3.out.size))
  clear hvs4 hb4 HR HB3
  go_wp2_with fail
  refine HI.out.mono ?_; rintro e w5 ⟨v, rfl, hg, hb5⟩
  have HG5 := Lib.hid hg; have HB5 := Lib.hid hb5
  clear hg hb5 HI
  go_wp2
  go_ret2
  refine ⟨v, rows, rfl, HG5.out.low HB4.out.size, HE.out, HRED.out, HGEN.out, hcnt, HB4.out.trans (HB5.out.mono HB4.out.size)⟩
end Go.Proofs.YtkljafmdbajfeaaGreatDoor

/- exact.Lattice.Reduce: a vector's own one of those that differ from it by the lattice. -/
namespace Go.Proofs.YtkljafmdbajfeaaGreatDoor
open Go.RowKit Go.ChangeMaps
open Lp (Lt V Ech BdV Bd pivots lv cnt Gen From Least)
set_option linter.unusedVariables false
set_option linter.unusedSimpArgs false
structure RedAt (n B : Nat) (rows : Lt) (f0 : V) (P : Nat) (f : V) : Prop where
  red : ∀ p r, p < P → rows p = some r → 0 ≤ f p ∧ f p < r p
  gen : Gen (From rows 0) fun i => f0 i - f i
  bd : BdV (lv B (cnt rows P)) f
  high : ∀ i, n ≤ i → f i = 0
theorem RedAt.start {n B : Nat} {rows : Lt} {f : V} (hb : BdV B f) (hh : ∀ i, n ≤ i → f i = 0) : RedAt n B rows f 0 f :=
  ⟨fun p r h => by omega, Gen.zero.cast fun i => by omega, hb, hh⟩
theorem RedAt.step {n B P p : Nat} {rows : Lt} {f0 f r : V} (h : RedAt n B rows f0 P f) (hE : Ech n rows) (hB : 0 < B) (hbd : Bd B rows) (hP : P ≤ p) (hno : ∀ q, P ≤ q → q < p → rows q = none) (hr : rows p = some r) :
    RedAt n B rows f0 (p + 1) (fun i => f i + -(f p / r p) * r i) := by
  have hrp := hE.pos p r hr
  have hm : f p + -(f p / r p) * r p = f p % r p := by
    have := Int.emod_add_mul_ediv (f p) (r p)
    have h2 : -(f p / r p) * r p = -(r p * (f p / r p)) := by rw [Int.neg_mul, Int.mul_comm]
    rw [h2]; omega
  have hc : cnt rows (p + 1) = cnt rows p + 1 := by simp only [cnt]; rw [hr]; rfl
  have hmono : lv B (cnt rows P) ≤ lv B (cnt rows p) := Lp.lv_mono hB (Lp.cnt_mono _ hP)
  refine ⟨fun q s hq hs => ?_, ?_, fun i => ?_, fun i hi => ?_⟩
  · rcases Nat.lt_or_ge q p with h1 | h1
    · have hr0 := hE.low p r hr q h1
      show 0 ≤ f q + -(f p / r p) * r q ∧ f q + -(f p / r p) * r q < s q
      rw [hr0]
      rcases Nat.lt_or_ge q P with h2 | h2
      · simpa using h.red q s h2 hs
      · rw [hno q h2 h1] at hs; cases hs
    · have : q = p := by omega
      subst this
      rw [hr] at hs; cases hs
      show 0 ≤ f q + -(f q / r q) * r q ∧ f q + -(f q / r q) * r q < r q
      rw [hm]; exact ⟨Int.emod_nonneg _ (by omega), Int.emod_lt_of_pos _ hrp⟩
  · exact (h.gen.addMul (f p / r p) (.one ⟨p, by omega, hr⟩)).cast fun i => by grind
  · rw [hc]
    have h1 := quo_bound hrp (Lp.lv_pos hB (cnt rows p)) (Nat.le_trans (h.bd p) hmono) (Nat.le_trans (hbd p r hr i) (Lp.lv_mono hB (Nat.zero_le (cnt rows p))))
    have h2 := Nat.le_trans (h.bd i) hmono
    have h3 : (-(f p / r p) * r i).natAbs ≤ lv B (cnt rows p) * lv B (cnt rows p) := by
      have h4 : (-(f p / r p)).natAbs ≤ lv B (cnt rows p) := by
        have h5 := Nat.le_trans (h.bd p) hmono
        have h6 : (f p / r p).natAbs ≤ (f p).natAbs := by
          rcases Int.lt_or_le (f p) 0 with h7 | h7
          · have h8 : f p ≤ f p / r p := Int.le_ediv_of_mul_le hrp (by
              have : f p * r p ≤ f p * 1 := Int.mul_le_mul_of_nonpos_left (by omega) (by omega)
              omega)
            have h9 : f p / r p < 0 := Int.ediv_neg_of_neg_of_pos h7 hrp
            omega
          · have h8 : f p / r p ≤ f p := Int.ediv_le_self (r p) h7
            have h9 : 0 ≤ f p / r p := Int.ediv_nonneg h7 (by omega)
            omega
        omega
      exact Lp.mul_abs h4 (Nat.le_trans (hbd p r hr i) (Lp.lv_mono hB (Nat.zero_le (cnt rows p))))
    have h4 : lv B (cnt rows p) * 1 ≤ lv B (cnt rows p) * lv B (cnt rows p) := Nat.mul_le_mul_left _ (Lp.lv_pos hB _)
    show (f i + -(f p / r p) * r i).natAbs ≤ 3 * (lv B (cnt rows p) * lv B (cnt rows p))
    omega
  · show f i + -(f p / r p) * r i = 0
    rw [h.high i hi, hE.high p r hr i hi]; simp
theorem Ints.butP {w w' : World} {A : Option Addr} {xs : List Int} {g : Nat} (h : Ints w A xs) (hp : Ptrs w g) (hb : But g w w') : Ints w' A xs := fun i hi => by
  obtain ⟨b, o, e, hc⟩ := h i hi
  have hne : b ≠ g := by rintro rfl; exact hp.no _ _ _ hc
  exact ⟨b, o, e, (World.cell?_of_block (a := ⟨b, o + i, none⟩) (hb.block b (cell_lt hc) hne)).trans hc⟩
set_option maxRecDepth 100000 in
set_option maxHeartbeats 2000000 in
theorem reduce_calls (L M n B : Nat) (rows : Lt) (f : V) (v : Value) (w : World) (h : LatP w L M n rows) (hv : VecP w v n f) (h0 : 0 < n) (hn : n ≤ 1000) (hE : Ech n rows) (hbd : Bd B rows) (hf : BdV B f) (hh : ∀ i, n ≤ i → f i = 0) (hB : 0 < B)
    (hw : ∀ z : Int, z.natAbs ≤ lv B (cnt rows n) → Wide z) :
    Calls Tryz.prog 89 #[.pointer (some ⟨L, 0, none⟩), v] w fun e w' => ∃ g c f', e = .returned (.slice (some ⟨g, 0, none⟩) n c) ∧ n ≤ c ∧ c ≤ maxLen ∧ w.heap.size ≤ g ∧ OwnV w' g n n f' ∧ Least rows f' ∧ Gen (From rows 0) (fun i => f i - f' i) ∧ BdV (lv B (cnt rows n)) f' ∧ (∀ i, n ≤ i → f' i = 0) ∧ Below w.heap.size w w' := by
  have hA : Below w.heap.size w (w.alloc (.cells #[] 150 (0, 0))) := (Below.refl _ _).alloc (Nat.le_refl _) _
  have HV := Lib.hid (hv.ext hA); have HA := Lib.hid hA
  have HL := Lib.hid h
  have HST := Lib.hid (RedAt.start (n := n) (rows := rows) hf hh)
  have HE := Lib.hid hE; have HBD := Lib.hid hbd
  clear h hv hA hE hbd hf hh
  go_enter Tryz.func89, Tryz.ntmps89
  go_wp2_with (at_builtin; refine wpList_copy rfl _ _ rfl rfl _ n f v rfl rfl HV.out h0 hn ?_)
  intro c2 w2 hc1 hc2 hO hb2
  have hb12 := HA.out.trans (hb2.mono (by omega))
  have HPS := Lib.hid (pivots_calls L M n rows w2 (HL.out.ext hb12) hn)
  have HO := Lib.hid hO; have HB2 := Lib.hid hb12
  clear hO hb2 hb12 HV HA
  go_wp2_with fail
  refine HPS.out.mono ?_; rintro e w3 ⟨A, cp, rfl, hcp1, hcp2, hints, hb3⟩
  have HB3 := Lib.hid (HB2.out.trans (hb3.mono HB2.out.size)); have HI := Lib.hid hints
  have HO3 : Hid (OwnV w3 (w.heap.size + 1) n n f) := Lib.hid (HO.out.ext hb3)
  have hlen : (pivI rows n).length = (pivots rows n).length := pivI_len rows n
  have hle := pivots_le rows n
  clear hb3 hints HPS HO HB2
  generalize hN : (pivI rows n).length = N at *
  go_wp2_with fail
  go_loopw [14] (fun ti wr => ∃ (i P : Nat) (f' : V), i ≤ N ∧ P ≤ n ∧ ti = .int .i64 i ∧ Hid (OwnV wr (w.heap.size + 1) n n f') ∧ Hid (RedAt n B rows f P f') ∧ Hid (∀ j, ∀ hj : j < (pivots rows n).length, (j < i → (pivots rows n)[j] < P) ∧ (i ≤ j → P ≤ (pivots rows n)[j])) ∧ Hid (Ints wr A (pivI rows n)) ∧ Hid (Below w.heap.size w wr)) (fun ti _ => N - (intOf ti).toNat)
  case atStart => exact ⟨0, 0, f, Nat.zero_le _, Nat.zero_le _, rfl, HO3, HST, Lib.hid (fun j hj => ⟨fun h => by omega, fun _ => Nat.zero_le _⟩), HI, HB3⟩
  case round =>
    clear HO3 HST HI HB3
    obtain ⟨i, P, f', hi, hPn, rfl, hO, hR, hPp, hIn, hbe⟩ := hrel
    by_cases hlt : i < N
    · have hn1 : (i : Int) < N := by omega
      have hii : i < (pivots rows n).length := by omega
      obtain ⟨bA, oA, rfl, hcA⟩ := hIn.out i (by omega)
      rw [pivI_nth hii] at hcA
      have hmem := Lp.mem_pivots.1 (List.getElem_mem hii)
      have hPp1 := (hPp.out i hii).2 (Nat.le_refl _)
      obtain ⟨p, hpe⟩ : ∃ p, (pivots rows n)[i] = p := ⟨_, rfl⟩
      rw [hpe] at hcA hmem hPp1
      obtain ⟨hpn, hps⟩ := hmem
      obtain ⟨r, hrp⟩ := Option.isSome_iff_exists.1 hps
      have hstep := hR.out.step HE.out hB HBD.out hPp1 (fun q h1 h2 => Lp.pivots_gap hii (P := P) (fun j hj hj' => (hPp.out j hj').1 hj) h1 (by rw [hpe]; exact h2)) hrp
      obtain ⟨F, hM, hF⟩ := HL.out.map
      have hFp : ∃ v, F p = some v ∧ VecP w v n r := by
        rcases hF p hpn with ⟨-, h2⟩ | ⟨v, x, h1, h2, h3⟩
        · rw [hrp] at h2; cases h2
        · rw [hrp] at h2; injection h2 with h2; subst h2; exact ⟨v, h1, h3⟩
      obtain ⟨vp, hFp1, hvp⟩ := hFp
      have hc1r := (HL.out.ext hbe.out).c1
      have hrpos := HE.out.pos p r hrp
      have hcp1' : cnt rows p + 1 ≤ cnt rows n := by
        have h1 : cnt rows (p + 1) = cnt rows p + 1 := by simp only [cnt]; rw [hps]; rfl
        have h2 : cnt rows (p + 1) ≤ cnt rows n := Lp.cnt_mono _ (by omega)
        omega
      have hmono : lv B (cnt rows P) ≤ lv B (cnt rows p) := Lp.lv_mono hB (Lp.cnt_mono _ hPp1)
      have hmono2 : lv B (cnt rows p) ≤ lv B (cnt rows n) := Lp.lv_mono hB (by omega)
      have hbf : BdV (lv B (cnt rows p)) f' := hR.out.bd.mono hmono
      have hbr : BdV (lv B (cnt rows p)) r := (HBD.out p r hrp).mono (Lp.lv_mono hB (Nat.zero_le _))
      have hdn := down_calls L M (w.heap.size + 1) c2 n p F f' r vp wr hc1r (hM.ext hbe.out) hFp1 hO.out ((hvp.low.ext hbe.out).mono fun b hb => by omega) hn hpn hrpos
        (fun i _ => hw _ (Nat.le_trans (hbf i) hmono2)) (fun i _ => hw _ (Nat.le_trans (hbr i) hmono2)) (fun i _ => wide_lv hw hB hcp1' (by
          have := quo_bound hrpos (Lp.lv_pos hB (cnt rows p)) (hbf p) (hbr i)
          simp only [lv]; exact this))
      have HDN := Lib.hid hdn; have HSTEP := Lib.hid hstep
      clear hdn hstep hM hF hvp hFp1 hbf hbr hmono hmono2 hc1r
      go_wp2_with fail
      refine HDN.out.mono ?_; rintro e w5 ⟨rfl, hO5, hb5⟩
      have HO5 := Lib.hid hO5
      have HI5 := Lib.hid (hIn.out.butP hO.out.ptrs hb5)
      have HB5 := Lib.hid (hbe.out.trans (hb5.below (by omega) hbe.out.size))
      have hsucc : ∀ j, ∀ hj : j < (pivots rows n).length, (j < i + 1 → (pivots rows n)[j] < p + 1) ∧ (i + 1 ≤ j → p + 1 ≤ (pivots rows n)[j]) := fun j hj => by
        refine ⟨fun h => ?_, fun h => ?_⟩
        · rcases Nat.lt_or_ge j i with h1 | h1
          · have := Lp.pivots_lt hj hii h1; omega
          · have : j = i := by omega
            subst this; omega
        · have := Lp.pivots_lt hii hj (by omega); omega
      have HSC := Lib.hid hsucc
      clear hsucc hO5 hb5 HDN
      go_wp2
      go_roundw
      case rel => exact ⟨i + 1, p + 1, _, by omega, by omega, by go_num, HO5, HSTEP, HSC, HI5, HB5⟩
      case measure => simp [intOf]; omega
    · obtain rfl : i = N := by omega
      go_wp2
      go_ret
      have hR := hR.out
      refine ⟨_, c2, f', rfl, hc1, hc2, by omega, hO.out, fun p r hr => ?_, hR.gen, hR.bd.mono (Lp.lv_mono hB (Lp.cnt_mono _ hPn)), hR.high, hbe.out⟩
      refine hR.red p r ?_ hr
      rcases Nat.lt_or_ge p P with h1 | h1
      · exact h1
      · have := Lp.pivots_end (L := rows) (n := n) (P := P) HE.out.lt (fun j hj => (hPp.out j hj).1 (by omega)) h1
        rw [hr] at this; cases this
end Go.Proofs.YtkljafmdbajfeaaGreatDoor
