/- Package exact: Of, a vector of ints; linear.vectors. -/
import Derived.Test.YtkljafmdbajfeaaGreatDoorNoA20
import Derived.Test.YtkljafmdbajfeaaGreatDoorNoA27
namespace Go.Proofs.YtkljafmdbajfeaaGreatDoor
open Go.RowKit Go.ChangeMaps
set_option linter.unusedVariables false
set_option linter.unusedSimpArgs false
def pv (p : Nat) : Value := .pointer (some ⟨p, 0, none⟩)
theorem nth_beyond {xs : List Int} {i : Nat} (h : xs.length ≤ i) : nth xs i = 0 := by
  unfold nth; rw [List.getD_eq_getElem?_getD, List.getElem?_eq_none h]; rfl
structure PRow (w : World) (base : Nat) (v : Value) (i : Nat) (xs : List Int) : Prop where
  ex : ∃ ps : List Nat, ps.length = i ∧ w.ownsRow base 150 1 v i (ps.map pv) ∧ OwnC isPtr w v ∧ ∀ j, ∀ hj : j < ps.length, BigP w ps[j] (nth xs j)
theorem PRow.ext {w w' : World} {base i : Nat} {v : Value} {xs : List Int} (h : PRow w base v i xs) (hb : Below w.heap.size w w') : PRow w' base v i xs := by
  obtain ⟨ps, h1, h2, h4, h3⟩ := h.ex
  exact ⟨ps, h1, own_ext h2 hb, h4.ext h2 hb, fun j hj => (h3 j hj).ext hb⟩
theorem PRow.vec {w : World} {base i : Nat} {v : Value} {xs : List Int} (h : PRow w base v i xs) : VecP w v i (nth xs) := by
  obtain ⟨ps, h1, h2, -, h3⟩ := h.ex
  obtain ⟨-, h4⟩ := id h2
  rcases h4 with ⟨rfl, h0⟩ | ⟨g, cap, cur, rfl, hg, hh, h5, h6, _⟩
  · subst h0; exact ⟨none, 0, rfl, Nat.le_refl _, Nat.zero_le _, fun i hi => by omega⟩
  · refine ⟨_, cap, rfl, h5, h6, fun j hj => ⟨g, 0, ps[j]'(by omega), rfl, trivial, ?_, h3 j (by omega)⟩⟩
    rw [Nat.zero_add, h2.cellAt j (by omega)]
    simp [pv, h1, hj]
set_option maxRecDepth 100000 in
set_option maxHeartbeats 2000000 in
theorem vecOf_calls (A : Option Addr) (c : Nat) (xs : List Int) (w : World) (h : Ints w A xs) (hl : xs.length ≤ 1000) (hr : ∀ x ∈ xs, -9223372036854775808 ≤ x ∧ x ≤ 9223372036854775807) :
    Calls Tryz.prog 90 #[.slice A xs.length c] w fun e w' => ∃ v, e = .returned v ∧ VecP w' v xs.length (nth xs) ∧ Below w.heap.size w w' := by
  obtain ⟨i0, hi0, hz0, hz1, hz2⟩ := info_parts infoPtr
  have HH := Lib.hid h
  have HR : Hid (∀ x ∈ xs, -9223372036854775808 ≤ x ∧ x ≤ 9223372036854775807) := Lib.hid hr
  clear h hr
  go_enter Tryz.func90, Tryz.ntmps90
  go_wp2
  go_loopw [3, 8] (fun tv ti wr => ∃ (i : Nat), i ≤ xs.length ∧ ti = .int .i64 i ∧ Hid (PRow wr w.heap.size tv i xs) ∧ Hid (Below w.heap.size w wr)) (fun _ ti _ => xs.length - (intOf ti).toNat)
  case atStart => exact ⟨0, Nat.zero_le _, rfl, Lib.hid ⟨[], rfl, World.ownsRow_nil _ _ _ _, OwnC.nil _ _ _ _, fun j hj => by simp at hj⟩, Lib.hid (Below.refl _ _)⟩
  case round =>
    obtain ⟨i, hi, rfl, hP, hbe⟩ := hrel
    by_cases hlt : i < xs.length
    · have hn1 : (i : Int) < xs.length := by omega
      obtain ⟨b, o, rfl, hc⟩ := (HH.out.ext hbe.out) i hlt
      have hm := HR.out _ (List.getElem_mem hlt)
      rw [← nth_lt hlt] at hm
      have hnew := newInt_calls (nth xs i) wr hm.1 hm.2
      have HNEW := Lib.hid hnew
      obtain ⟨ps0, -, hq2, -⟩ := hP.out.ex
      obtain ⟨A3, c3, rfl, hc3, hc4⟩ := own_size hq2
      clear hm hnew hq2
      go_wp2_with fail
      refine HNEW.out.mono ?_; rintro e w2 ⟨p, rfl, hp, hz, hb2⟩
      have hA : Below w2.heap.size w2 (w2.alloc (.cells #[.pointer (some ⟨p, 0, none⟩)] 150 (0, 0))) := (Below.refl _ _).alloc (Nat.le_refl _) _
      have hB := Blk.new w2 [.pointer (some ⟨p, 0, none⟩)] 150
      have hP2 := (hP.out.ext hb2).ext hA
      obtain ⟨ps, hps1, hps2, hps4, hps3⟩ := hP2.ex
      have HO1 := Lib.hid hps2; have HC1 := Lib.hid hps4; have HBL := Lib.hid hB; have HA := Lib.hid hA; have H3 := Lib.hid hps3; have HZ := Lib.hid (hz.ext hA); have HB2 := Lib.hid hb2
      have hsz := hbe.out.size
      have hsz2 := hb2.size
      clear hP2 hps2 hps3 hps4 hB hA hz hb2 HNEW
      go_wp2_with (at_builtin; refine wpList_append_all isPtr rfl _ _ 112 rfl w.heap.size 150 i0 (.pointer none) 8 Tryz.underlying112 hi0 hz0 hz1 hz2 rfl ⟨_, rfl⟩ _ _ _ rfl HO1.out HC1.out ⟨w2.heap.size, 0, none⟩ 1 1 [.pointer (some ⟨p, 0, none⟩)] rfl ?qc1 ?qc2 ?qc3 ?qc7 ?qc8 ?qc4 ?qc5 ?qc6 ?_)
      case qc1 => rfl
      case qc2 =>
        intro j u hj
        cases j with
        | zero => simp at hj; subst hj; exact HBL.out.cell 0 (by simp)
        | succ j => simp at hj
      case qc3 => intro u hu; simp at hu; subst hu; rfl
      case qc7 => intro u hu; simp at hu; subst hu; exact ⟨_, rfl⟩
      case qc8 => omega
      case qc4 => unfold maxLen; omega
      case qc5 => omega
      case qc6 => simp; omega
      intro v' w3 hown' hgrow hoc
      have hb23 : Below w.heap.size w2 w3 := ((HA.out.mono (by omega)).grown hgrow (by simp; omega) (own_block HO1.out))
      have hP3 : PRow w3 w.heap.size v' (i + 1) xs := by
        refine ⟨ps ++ [p], by simp [hps1], by simpa [pv] using hown', hoc, fun j hj => ?_⟩
        rw [List.getElem_append]
        split
        · rename_i h1; exact (H3.out j h1).grown HC1.out isPtr_no hgrow
        · rename_i h1
          have : j = i := by simp at hj; omega
          subst this
          simp only [hps1, Nat.sub_self, List.getElem_cons_zero]
          exact HZ.out.grown HC1.out isPtr_no hgrow
      have HP3 := Lib.hid hP3; have HB3 := Lib.hid ((hbe.out.trans (HB2.out.mono hsz)).trans hb23)
      clear hown' hgrow hoc hP3 hb23 HO1
      go_wp2
      go_roundw
      case rel => exact ⟨i + 1, by omega, by go_num, HP3, HB3⟩
      case measure => simp [intOf]; omega
    · obtain rfl : i = xs.length := by omega
      go_wp2
      go_ret
      exact ⟨_, rfl, hP.out.vec, hbe.out⟩
end Go.Proofs.YtkljafmdbajfeaaGreatDoor

/- linear.vectors; exact.Lattice.Rows: lists of vectors. -/
namespace Go.Proofs.YtkljafmdbajfeaaGreatDoor
open Go.RowKit Go.ChangeMaps
open Lp (Lt V Ech BdV Bd pivots lv cnt)
set_option linter.unusedVariables false
set_option linter.unusedSimpArgs false
theorem infoVec : (Tryz.prog.info? 112).map (fun i => (i.zero, i.size, i.bytes)) = some (some (.slice none 0 0), 1, 24) := by kernel_rfl
structure VRow (w : World) (base : Nat) (v : Value) (i n : Nat) (fs : List V) : Prop where
  ex : ∃ vs : List Value, vs.length = i ∧ w.ownsRow base 112 1 v i vs ∧ OwnC isSl w v ∧ ∀ j, ∀ hj : j < vs.length, ∃ hf : j < fs.length, VecP w vs[j] n fs[j]
theorem VRow.ext {w w' : World} {base i n : Nat} {v : Value} {fs : List V} (h : VRow w base v i n fs) (hb : Below w.heap.size w w') : VRow w' base v i n fs := by
  obtain ⟨vs, h1, h2, h4, h3⟩ := h.ex
  exact ⟨vs, h1, own_ext h2 hb, h4.ext h2 hb, fun j hj => by obtain ⟨hf, h⟩ := h3 j hj; exact ⟨hf, h.ext hb⟩⟩
theorem VRow.vecs {w : World} {base n : Nat} {v : Value} {fs : List V} (h : VRow w base v fs.length n fs) : ∃ A c, v = .slice A fs.length c ∧ fs.length ≤ c ∧ c ≤ maxLen ∧ VecsP w A n fs := by
  obtain ⟨vs, h1, h2, -, h3⟩ := h.ex
  obtain ⟨-, h4⟩ := id h2
  rcases h4 with ⟨rfl, h0⟩ | ⟨g, cap, cur, rfl, hg, hh, h5, h6, _⟩
  · exact ⟨none, 0, by rw [h0], by omega, Nat.zero_le _, fun i hi => by omega⟩
  · refine ⟨_, cap, rfl, h5, h6, fun j hj => ⟨g, 0, vs[j]'(by omega), rfl, ?_, (h3 j (by omega)).2⟩⟩
    rw [Nat.zero_add, h2.cellAt j (by omega)]
    simp [h1, hj]
theorem VRow.push {w w' : World} {base i n : Nat} {v v' x : Value} {fs : List V} {vs : List Value} (h1 : vs.length = i) (h4 : OwnC isSl w v) (h3 : ∀ j, ∀ hj : j < vs.length, ∃ hf : j < fs.length, VecP w vs[j] n fs[j]) (hi : i < fs.length) (hx : VecP w x n fs[i])
    (ho : w'.ownsRow base 112 1 v' (i + 1) (vs ++ [x])) (hg : w.grownBy w' v.ownBlock) (hc : OwnC isSl w' v') : VRow w' base v' (i + 1) n fs := by
  refine ⟨vs ++ [x], by simp [h1], ho, hc, fun j hj => ?_⟩
  have hjl : j < fs.length := by simp at hj; omega
  refine ⟨hjl, ?_⟩
  rw [List.getElem_append]
  split
  · rename_i h; obtain ⟨hf, h5⟩ := h3 j h; exact h5.grown h4 isSl_no isSl_noP hg
  · rename_i h
    have : j = i := by simp at hj; omega
    subst this
    simp only [h1, Nat.sub_self, List.getElem_cons_zero]
    exact hx.grown h4 isSl_no isSl_noP hg
set_option maxRecDepth 100000 in
set_option maxHeartbeats 2000000 in
theorem vectors_calls (A : Option Addr) (c n : Nat) (l : List (List Int)) (w : World) (h : Grid w A l) (hl : l.length ≤ 1000) (hn : n ≤ 1000) (hrow : ∀ r ∈ l, r.length = n) (hr : ∀ r ∈ l, ∀ x ∈ r, -9223372036854775808 ≤ x ∧ x ≤ 9223372036854775807) :
    Calls Tryz.prog 83 #[.slice A l.length c] w fun e w' => ∃ A' c', e = .returned (.slice A' l.length c') ∧ VecsP w' A' n (l.map nth) ∧ Below w.heap.size w w' := by
  obtain ⟨i0, hi0, hz0, hz1, hz2⟩ := info_parts infoVec
  have HH := Lib.hid h
  have HR : Hid (∀ r ∈ l, ∀ x ∈ r, -9223372036854775808 ≤ x ∧ x ≤ 9223372036854775807) := Lib.hid hr
  clear h hr
  go_enter Tryz.func83, Tryz.ntmps83
  go_wp2
  go_loopw [3, 8] (fun tv ti wr => ∃ (i : Nat), i ≤ l.length ∧ ti = .int .i64 i ∧ Hid (VRow wr w.heap.size tv i n (l.map nth)) ∧ Hid (Below w.heap.size w wr)) (fun _ ti _ => l.length - (intOf ti).toNat)
  case atStart => exact ⟨0, Nat.zero_le _, rfl, Lib.hid ⟨[], rfl, World.ownsRow_nil _ _ _ _, OwnC.nil _ _ _ _, fun j hj => by simp at hj⟩, Lib.hid (Below.refl _ _)⟩
  case round =>
    obtain ⟨i, hi, rfl, hP, hbe⟩ := hrel
    by_cases hlt : i < l.length
    · have hn1 : (i : Int) < l.length := by omega
      obtain ⟨b, o, R, cR, rfl, hc, hcR, hints⟩ := HH.out i hlt
      have hc' := ((bcell hbe.out).1 _ _ (cell_lt hc)).trans hc
      have hmem := nrow_mem hlt
      have hlen := hrow _ hmem
      have hof := vecOf_calls R cR (nrow l i) wr (hints.ext hbe.out) (by omega) (HR.out _ hmem)
      rw [hlen] at hof
      have hc2 : wr.cell? ⟨b, o + i, none⟩ = some (.slice R n cR) := by rw [← hlen]; exact hc'
      have HOF := Lib.hid hof
      obtain ⟨vs0, -, hq2, -⟩ := hP.out.ex
      obtain ⟨A3, c3, rfl, hc3, hc4⟩ := own_size hq2
      clear hof hq2 hints hc hc' hcR
      go_wp2_with fail
      refine HOF.out.mono ?_; rintro e w2 ⟨x, rfl, hx, hb2⟩
      obtain ⟨Ax, cx, rfl, -⟩ := id hx
      have hA : Below w2.heap.size w2 (w2.alloc (.cells #[.slice Ax n cx] 112 (0, 0))) := (Below.refl _ _).alloc (Nat.le_refl _) _
      have hB := Blk.new w2 [.slice Ax n cx] 112
      have hP2 := (hP.out.ext hb2).ext hA
      obtain ⟨vs, hps1, hps2, hps4, hps3⟩ := hP2.ex
      have HO1 := Lib.hid hps2; have HC1 := Lib.hid hps4; have HBL := Lib.hid hB; have HA := Lib.hid hA; have H3 := Lib.hid hps3; have HX := Lib.hid (hx.ext hA); have HB2 := Lib.hid hb2
      have hsz := hbe.out.size
      have hsz2 := hb2.size
      clear hP2 hps2 hps3 hps4 hB hA hx hb2 HOF
      go_wp2_with (at_builtin; refine wpList_append_all isSl rfl _ _ 101 rfl w.heap.size 112 i0 (.slice none 0 0) 24 Tryz.underlying101 hi0 hz0 hz1 hz2 rfl ⟨_, _, _, rfl⟩ _ _ _ rfl HO1.out HC1.out ⟨w2.heap.size, 0, none⟩ 1 1 [.slice Ax n cx] rfl ?qc1 ?qc2 ?qc3 ?qc7 ?qc8 ?qc4 ?qc5 ?qc6 ?_)
      case qc1 => rfl
      case qc2 =>
        intro j u hj
        cases j with
        | zero => simp at hj; subst hj; exact HBL.out.cell 0 (by simp)
        | succ j => simp at hj
      case qc3 => intro u hu; simp at hu; subst hu; rfl
      case qc7 => intro u hu; simp at hu; subst hu; exact ⟨_, _, _, rfl⟩
      case qc8 => omega
      case qc4 => unfold maxLen; omega
      case qc5 => omega
      case qc6 => exact Nat.le_trans (by omega : w.heap.size ≤ w2.heap.size) HA.out.size
      intro v' w3 hown' hgrow hoc
      have hb23 : Below w.heap.size w2 w3 := ((HA.out.mono (by omega)).grown hgrow (Nat.le_trans (by omega : w.heap.size ≤ w2.heap.size) HA.out.size) (own_block HO1.out))
      have hfi : (l.map nth)[i]'(by simpa using hlt) = nth (nrow l i) := by simp [nrow_lt hlt]
      have hP3 : VRow w3 w.heap.size v' (i + 1) n (l.map nth) := VRow.push hps1 HC1.out H3.out (by simpa using hlt) (by rw [hfi]; exact HX.out) hown' hgrow hoc
      have HP3 := Lib.hid hP3; have HB3 := Lib.hid ((hbe.out.trans (HB2.out.mono hsz)).trans hb23)
      clear hown' hgrow hoc hP3 hb23 HO1
      go_wp2
      go_roundw
      case rel => exact ⟨i + 1, by omega, by go_num, HP3, HB3⟩
      case measure => simp [intOf]; omega
    · obtain rfl : i = l.length := by omega
      have hv := hP.out
      have e0 : l.length = (l.map nth).length := by simp
      rw [e0] at hv
      obtain ⟨A', c', rfl, -, -, hvs⟩ := hv.vecs
      have e1 := e0.symm
      have HVS := Lib.hid hvs
      rw [← e0]
      clear e0 e1 hv hvs
      go_wp2
      go_ret
      exact ⟨A', c', rfl, HVS.out, hbe.out⟩
end Go.Proofs.YtkljafmdbajfeaaGreatDoor

/- exact.Lattice.Rows: the basis. -/
namespace Go.Proofs.YtkljafmdbajfeaaGreatDoor
open Go.RowKit Go.ChangeMaps
open Lp (Lt V Ech BdV Bd pivots lv cnt)
set_option linter.unusedVariables false
set_option linter.unusedSimpArgs false
def rowsOf (rows : Lt) (n : Nat) : List V := (pivots rows n).map fun p => (rows p).getD fun _ => 0
theorem rowsOf_len (rows : Lt) (n : Nat) : (rowsOf rows n).length = (pivots rows n).length := by unfold rowsOf; simp
set_option maxRecDepth 100000 in
set_option maxHeartbeats 2000000 in
theorem rows_calls (L M n : Nat) (rows : Lt) (w : World) (h : LatP w L M n rows) (h0 : 0 < n) (hn : n ≤ 1000) :
    Calls Tryz.prog 84 #[.pointer (some ⟨L, 0, none⟩)] w fun e w' => ∃ A' c', e = .returned (.slice A' (rowsOf rows n).length c') ∧ VecsP w' A' n (rowsOf rows n) ∧ Below w.heap.size w w' := by
  obtain ⟨i0, hi0, hz0, hz1, hz2⟩ := info_parts infoVec
  have HPS := Lib.hid (pivots_calls L M n rows w h hn)
  have HL := Lib.hid h
  have hle := pivots_le rows n
  clear h
  go_enter Tryz.func84, Tryz.ntmps84
  go_wp2_with fail
  refine HPS.out.mono ?_; rintro e w1 ⟨A, cp, rfl, hcp1, hcp2, hints, hb1⟩
  have HB1 := Lib.hid hb1; have HI := Lib.hid hints
  have hlen : (pivI rows n).length = (pivots rows n).length := pivI_len rows n
  have hlen2 : (rowsOf rows n).length = (pivots rows n).length := rowsOf_len rows n
  clear hb1 hints HPS
  generalize hN : (pivI rows n).length = N at *
  go_wp2_with fail
  go_loopw [3, 9] (fun tv ti wr => ∃ (i : Nat), i ≤ N ∧ ti = .int .i64 i ∧ Hid (VRow wr w1.heap.size tv i n (rowsOf rows n)) ∧ Hid (Below w1.heap.size w1 wr)) (fun _ ti _ => N - (intOf ti).toNat)
  case atStart => exact ⟨0, Nat.zero_le _, rfl, Lib.hid ⟨[], rfl, World.ownsRow_nil _ _ _ _, OwnC.nil _ _ _ _, fun j hj => by simp at hj⟩, Lib.hid (Below.refl _ _)⟩
  case round =>
    obtain ⟨i, hi, rfl, hP, hbe1⟩ := hrel
    have hbe := Lib.hid (HB1.out.trans (hbe1.out.mono HB1.out.size))
    by_cases hlt : i < N
    · have hn1 : (i : Int) < N := by omega
      have hii : i < (pivots rows n).length := by omega
      obtain ⟨bA, oA, rfl, hcA⟩ := (HI.out.ext hbe1.out) i (by omega)
      rw [pivI_nth hii] at hcA
      have hmem := Lp.mem_pivots.1 (List.getElem_mem hii)
      have hfi : ∃ hf : i < (rowsOf rows n).length, (rowsOf rows n)[i] = (rows ((pivots rows n)[i])).getD fun _ => 0 := ⟨by omega, by simp [rowsOf]⟩
      obtain ⟨p, hpe⟩ : ∃ p, (pivots rows n)[i] = p := ⟨_, rfl⟩
      rw [hpe] at hcA hmem
      obtain ⟨hf, hfe⟩ := hfi
      rw [hpe] at hfe
      obtain ⟨hpn, hps⟩ := hmem
      obtain ⟨r, hrp⟩ := Option.isSome_iff_exists.1 hps
      have hl := HL.out.ext hbe.out
      have hc1 := hl.c1
      obtain ⟨F, hM, hF⟩ := hl.map
      have hlook := hM.look p (by omega)
      have hFp : ∃ v, F p = some v ∧ VecP wr v n r := by
        rcases hF p hpn with ⟨-, h2⟩ | ⟨v, x, h1, h2, h3⟩
        · rw [hrp] at h2; cases h2
        · rw [hrp] at h2; injection h2 with h2; subst h2; exact ⟨v, h1, h3⟩
      obtain ⟨v, hFp1, hv⟩ := hFp
      rw [hFp1, Option.getD_some] at hlook
      rw [hrp, Option.getD_some] at hfe
      rw [← hfe] at hv
      obtain ⟨Ax, cx, rfl, -⟩ := id hv
      obtain ⟨vs0, -, hq2, -⟩ := hP.out.ex
      obtain ⟨A3, c3, rfl, hc3, hc4⟩ := own_size hq2
      have hA : Below wr.heap.size wr (wr.alloc (.cells #[.slice Ax n cx] 112 (0, 0))) := (Below.refl _ _).alloc (Nat.le_refl _) _
      have hB := Blk.new wr [.slice Ax n cx] 112
      have hP2 := hP.out.ext hA
      obtain ⟨vs, hps1, hps2, hps4, hps3⟩ := hP2.ex
      have HO1 := Lib.hid hps2; have HC1 := Lib.hid hps4; have HBL := Lib.hid hB; have HA := Lib.hid hA; have H3 := Lib.hid hps3; have HX := Lib.hid (hv.ext hA)
      have hsz := hbe.out.size
      have hsz1 := hbe1.out.size
      have hsz0 := HB1.out.size
      clear hP2 hps2 hps3 hps4 hB hA hv hq2 hM hF hl hFp1 hrp hfe
      go_wp2_with (at_builtin; refine wpList_append_all isSl rfl _ _ 101 rfl w1.heap.size 112 i0 (.slice none 0 0) 24 Tryz.underlying101 hi0 hz0 hz1 hz2 rfl ⟨_, _, _, rfl⟩ _ _ _ rfl HO1.out HC1.out ⟨wr.heap.size, 0, none⟩ 1 1 [.slice Ax n cx] rfl ?qc1 ?qc2 ?qc3 ?qc7 ?qc8 ?qc4 ?qc5 ?qc6 ?_)
      case qc1 => rfl
      case qc2 =>
        intro j u hj
        cases j with
        | zero => simp at hj; subst hj; exact HBL.out.cell 0 (by simp)
        | succ j => simp at hj
      case qc3 => intro u hu; simp at hu; subst hu; rfl
      case qc7 => intro u hu; simp at hu; subst hu; exact ⟨_, _, _, rfl⟩
      case qc8 => omega
      case qc4 => unfold maxLen; omega
      case qc5 => omega
      case qc6 => exact Nat.le_trans hsz1 HA.out.size
      intro v' w3 hown' hgrow hoc
      have hb23 : Below w1.heap.size wr w3 := ((HA.out.mono hsz1).grown hgrow (Nat.le_trans hsz1 HA.out.size) (own_block HO1.out))
      have hP3 : VRow w3 w1.heap.size v' (i + 1) n (rowsOf rows n) := VRow.push hps1 HC1.out H3.out hf HX.out hown' hgrow hoc
      have HP3 := Lib.hid hP3; have HB3 := Lib.hid (hbe1.out.trans hb23)
      clear hown' hgrow hoc hP3 hb23 HO1
      go_wp2
      go_roundw
      case rel => exact ⟨i + 1, by omega, by go_num, HP3, HB3⟩
      case measure => simp [intOf]; omega
    · obtain rfl : i = N := by omega
      have hv := hP.out
      have e0 : i = (rowsOf rows n).length := by omega
      have hv2 := hv
      rw [e0] at hv2
      obtain ⟨A', c', rfl, -, -, hvs⟩ := hv2.vecs
      have HVS := Lib.hid hvs
      clear hv hv2 hvs e0
      go_wp2
      go_ret
      exact ⟨A', c', rfl, HVS.out, hbe.out⟩
end Go.Proofs.YtkljafmdbajfeaaGreatDoor

/- exact.Vec.Ints; linear.ints. -/
namespace Go.Proofs.YtkljafmdbajfeaaGreatDoor
open Go.RowKit Go.ChangeMaps
open Lp (V)
set_option linter.unusedVariables false
set_option linter.unusedSimpArgs false
def intsTo (f : V) (n i : Nat) : List Int := (List.range n).map fun j => if j < i then wrap64 (f j) else 0
theorem intsTo_len (f : V) (n i : Nat) : (intsTo f n i).length = n := by unfold intsTo; simp
theorem intsTo_zero (f : V) (n : Nat) : intsTo f n 0 = zeros n := by
  unfold intsTo zeros
  apply List.ext_getElem (by simp)
  intro i h1 h2; simp
theorem intsTo_set (f : V) {n i : Nat} (hi : i < n) : (intsTo f n i).set i (wrap64 (f i)) = intsTo f n (i + 1) := by
  unfold intsTo
  apply List.ext_getElem (by simp)
  intro j h1 h2
  rw [List.getElem_set]
  simp only [List.getElem_map, List.getElem_range]
  by_cases hj : i = j
  · subst hj; simp
  · rw [if_neg hj]
    by_cases h3 : j < i
    · rw [if_pos h3, if_pos (by omega)]
    · rw [if_neg h3, if_neg (by omega)]
set_option maxRecDepth 100000 in
set_option maxHeartbeats 2000000 in
theorem vecInts_calls (n : Nat) (f : V) (v : Value) (w : World) (hv : VecP w v n f) (hn : n ≤ 1000) :
    Calls Tryz.prog 91 #[v] w fun e w' => ∃ g, e = .returned (.slice (some ⟨g, 0, none⟩) n n) ∧ w.heap.size ≤ g ∧ IBlk w' g (intsTo f n n) ∧ Below w.heap.size w w' := by
  obtain ⟨A, c, rfl, hc, -⟩ := id hv
  have hmk := fun w => run_makeInts w n (by omega)
  have HV := Lib.hid hv
  have H0 : Hid (IBlk (w.alloc (.cells ((zeros n).map (Value.int .i64)).toArray 3 (0, 0))) w.heap.size (intsTo f n 0)) := Lib.hid (by rw [intsTo_zero]; exact IBlk.made w n)
  have HA : Hid (Below w.heap.size w (w.alloc (.cells ((zeros n).map (Value.int .i64)).toArray 3 (0, 0)))) := Lib.hid ((Below.refl _ _).alloc (Nat.le_refl _) _)
  clear hv
  go_enter Tryz.func91, Tryz.ntmps91
  go_wp2_with fail
  go_loopw [11] (fun ti wr => ∃ (i : Nat), i ≤ n ∧ ti = .int .i64 i ∧ Hid (IBlk wr w.heap.size (intsTo f n i)) ∧ Hid (Below w.heap.size w wr)) (fun ti _ => n - (intOf ti).toNat)
  case atStart => exact ⟨0, Nat.zero_le _, rfl, H0, HA⟩
  case round =>
    obtain ⟨i, hi, rfl, hI, hbe⟩ := hrel
    by_cases hlt : i < n
    · have hn1 : (i : Int) < n := by omega
      obtain ⟨b, o, p, rfl, -, hc2, hz⟩ := (HV.out.ext hbe.out).at hlt
      have HI64 := Lib.hid (int64_calls p (f i) wr hz)
      clear hz
      go_wp2_with fail
      refine HI64.out.mono ?_; rintro e w2 ⟨rfl, hb2⟩
      have hI2 : IBlk w2 w.heap.size (intsTo f n i) := Blk.ext hI.out hb2
      have hl := intsTo_len f n i
      have g3 := hI2.cell i (by omega)
      have f3 := Blk.free hI2 i
      have hset := hI2.set i (wrap64 (f i))
      rw [intsTo_set f hlt] at hset
      have HST := Lib.hid hset; have HB := Lib.hid (hbe.out.trans (hb2.mono hbe.out.size))
      clear hset hI2 hb2 HI64 hl
      go_wp2
      go_roundw
      case rel => exact ⟨i + 1, by omega, by go_num, HST, Lib.hid (HB.out.setCell (Nat.le_refl _) _)⟩
      case measure => simp [intOf]; omega
    · obtain rfl : i = n := by omega
      go_wp2
      go_ret
      exact ⟨_, rfl, Nat.le_refl _, hI.out, hbe.out⟩
end Go.Proofs.YtkljafmdbajfeaaGreatDoor
