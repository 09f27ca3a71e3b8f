/- The reference's whole numbers: Of, cmpD. -/
import Derived.Test.YtbdlfjhhgnhejaaRA
namespace Go.Proofs.Ytbdlfjhhgnhejaa
open Go.RowKit
set_option linter.unusedVariables false
set_option linter.unusedSimpArgs false

theorem ofD_step {a q : Nat} {ds : List Nat} (h : a = T.val ds + 10000 ^ ds.length * q) : a = T.val (ds ++ [q % 10000]) + 10000 ^ (ds ++ [q % 10000]).length * (q / 10000) := by
  rw [T.val_append, List.length_append, List.length_singleton, Nat.pow_succ, Nat.mul_assoc, Nat.add_assoc, ← Nat.mul_add]
  have : T.val [q % 10000] + 10000 * (q / 10000) = q := by simp [T.val]; omega
  rw [this]; exact h
theorem ofD_len {a q : Nat} {ds : List Nat} (h : a = T.val ds + 10000 ^ ds.length * q) (hq : 0 < q) (ha : a ≤ 9223372036854775808) (h5 : ds.length ≤ 5) : ds.length ≤ 4 := by
  rcases Nat.lt_or_ge ds.length 5 with h1 | h1
  · omega
  · have e : ds.length = 5 := by omega
    rw [e] at h
    have : 10000 ^ 5 * 1 ≤ 10000 ^ 5 * q := Nat.mul_le_mul_left _ hq
    omega
theorem dig_snoc {ds : List Nat} (h : T.Dig ds) (q : Nat) : T.Dig (ds ++ [q % 10000]) := fun d hd => by
  rcases List.mem_append.1 hd with h1 | h1
  · exact h d h1
  · obtain rfl : d = q % 10000 := by simpa using h1
    exact Nat.mod_lt _ (by omega)
theorem ofD_done {a : Nat} {ds : List Nat} (h : a = T.val ds + 10000 ^ ds.length * 0) : T.val ds = a := by omega

theorem tmod_neg (q : Nat) : (-(q : Int)).tmod 10000 = -((q % 10000 : Nat) : Int) := by
  rw [Int.neg_tmod]; congr 1
theorem tdiv_neg (q : Nat) : (-(q : Int)).tdiv 10000 = -((q / 10000 : Nat) : Int) := by
  rw [Int.neg_tdiv]; congr 1

theorem new_cell (w : World) (T : TypeId) (x : Value) : ∀ (j : Nat) (u : Value), [x][j]? = some u → (w.alloc (.cells #[x] T (0, 0))).cell? (Addr.add ⟨w.heap.size, 0, none⟩ j) = some u := fun j u h => by
  rcases j with _ | j
  · simp at h; subst h; exact (Blk.new w [x] T).cell 0 (by simp)
  · simp at h
theorem one_cell (k : IntKind) (n : Int) : ∀ u ∈ [Value.int k n], u.oneCell' = true := fun u h => by
  obtain rfl : u = .int k n := by simpa using h
  rfl
set_option maxRecDepth 100000 in
/-- The append of one digit to digits of the call's own. -/
theorem wp_snoc {ops : Array Oper} {rest : List Oper} {o : Oper} {a : Act} {Q : Exit → Act → World → Prop} (hgd : o.guard = none) (s x : Operand)
    (ho : o.op = .call { callee := .builtin .append, args := #[s, x], argTypes := #[23, 23] }) {wr : World} {base : Nat} {v : Value} {ds : List Nat} {d : Nat} {z : Int} (hs : a.eval s = v)
    (hx : a.eval x = .slice (some ⟨wr.heap.size, 0, none⟩) 1 1) (hown : OwnD wr base v ds) (hz : z = (d : Nat)) (hl : ds.length ≤ 1000000) (hb : base ≤ wr.heap.size)
    (h : ∀ v' w', Hid (OwnD w' base v' (ds ++ [d])) → Hid (∀ (B : Nat) (w0 : World), Below B w0 wr → B ≤ base → Below B w0 w') → wpList Try.prog ops Q rest (a.put o.dst v') w') :
    wpList Try.prog ops Q (o :: rest) a (wr.alloc (.cells #[.int .i64 z] 3 (0, 0))) := by
  subst hz
  obtain ⟨i0, hi, hz0, hz1, hz2⟩ := info_parts infoInt
  refine wpList_append_own _ hgd s x 23 ho base 3 i0 (.int .i64 0) 1 8 Try.underlying23 hi hz0 hz1 hz2 rfl (by decide) v ds.length _ hs (World.ownsRow.alloc hown _) ⟨wr.heap.size, 0, none⟩ 1 1 [.int .i64 (d : Nat)] hx rfl (new_cell _ _ _) (one_cell _ _) (by unfold maxLen; omega) (by omega) (by simp; omega) ?_
  intro v' w' h1 hg _
  refine h v' w' (Lib.hid (by unfold OwnD; rw [List.length_append, List.map_append]; exact h1)) (Lib.hid fun B w0 hB hBb => ?_)
  refine ((hB.alloc (by omega) _).grown hg (by simp; omega) fun k hk => ?_)
  have := (World.ownsRow.lt hown k hk).1
  omega

set_option maxRecDepth 100000 in
set_option maxHeartbeats 1000000 in
theorem rOf_pos (a : Nat) (w : World) (ha : a ≤ 9223372036854775807) :
    Calls Try.prog 59 #[.int .i64 a] w fun e w' => ∃ v, e = .returned v ∧ RBo w' w.heap.size v a ∧ Below w.heap.size w w' := by
  obtain ⟨i0, hi, hz0, hz1, hz2⟩ := info_parts infoInt
  have B0 := Blk.new w [.bool false, .slice none 0 0] 101
  have ha2 : (a : Int) ≤ 9223372036854775807 := by omega
  go_enter Try.func59, Try.ntmps59
  go_wp2
  go_loopw [0, 3, 5] (fun n v _ wr => ∃ (q : Nat) (ds : List Nat), n = .int .i64 q ∧ q ≤ a ∧ Hid (a = T.val ds + 10000 ^ ds.length * q) ∧ ds.length ≤ 5 ∧ T.Dig ds ∧ OwnD wr (w.heap.size + 1) v ds ∧ Below (w.heap.size + 1) (w.alloc (.cells #[.bool false, .slice none 0 0] 101 (0, 0))) wr) (fun n _ _ _ => (intOf n).toNat)
  case atStart => exact ⟨a, [], rfl, Nat.le_refl _, Lib.hid (by simp [T.val]), by simp, fun d hd => by simp at hd, OwnD.nil _ _, Below.refl _ _⟩
  case round =>
    obtain ⟨q, ds, rfl, hqa, hval, hl5, hdig, hown, hbe⟩ := hrel
    by_cases hq : q = 0
    · subst hq
      have hva := ofD_done hval.out
      obtain ⟨A, c, rfl, hc, hcm, hR⟩ := hown.rsl
      have hwh := rwhole_calls false A c ds wr (by omega) hdig hR
      rw [hva] at hwh
      have B1 := B0.below hbe (by simp)
      have c0 := B1.cell 0 (by simp); have c1 := B1.cell 1 (by simp)
      simp only [List.getElem_cons_zero, List.getElem_cons_succ] at c0 c1
      have bs := hbe.size
      simp at bs
      have HBE : Hid (Below w.heap.size w wr) := Lib.hid (((Below.refl _ w).alloc (Nat.le_refl _) _).trans (hbe.mono (by omega)))
      have HB1 := Lib.hid B1
      clear hval hva hdig hown hR hbe B0 B1 hc hcm
      go_wp2_with fail
      refine hwh.mono ?_; rintro e w1 ⟨v, rfl, ⟨sl, rfl, ho⟩, hb1⟩
      have B2 := HB1.out.ext hb1
      have c0 := B2.cell 0 (by simp); have c1 := B2.cell 1 (by simp)
      simp only [List.getElem_cons_zero, List.getElem_cons_succ] at c0 c1
      have f0 := B2.free 0; have f1 := B2.free 1
      have bl := B2.lt
      have HX := Lib.hid (HBE.out.trans (hb1.mono HBE.out.size))
      obtain ⟨A2, k2, rfl, -, -, -⟩ := ho.rsl
      have HO := Lib.hid ho
      rw [show decide (sgnd false a < 0) = false from by rw [sgnd_neg]; rfl]
      generalize (T.digits (sgnd false a).natAbs).length = L2 at *
      clear hwh hb1 B2 ho
      go_wp2_with fail
      try simp only [Exit.inBlock, Exit.then]
      refine bodyPost_ret (v := .agg #[.bool false, .slice A2 L2 k2]) (by simp [results, Try.results59, go_sem, bl, c0, c1]) rfl ⟨_, rfl, ⟨_, by simp; rfl, ?_⟩, (HX.out.setCell (Nat.le_refl _) _).setCell (Nat.le_refl _) _⟩
      have := HO.out
      rw [sgnd_abs] at this
      exact ((this.set _ _ (by dsimp only; omega)).set _ _ (by dsimp only; omega)).mono (by omega)
    · have hl4 := ofD_len hval.out (by omega) (by omega) hl5
      have hq0 : ((q : Int) != 0) = true := by simp; omega
      have hstep := Lib.hid (ofD_step hval.out)
      have hd2 := dig_snoc hdig q
      have e1 : ((q % 10000 : Nat) : Int) = (q : Int) % 10000 := by omega
      have e2 : ((q / 10000 : Nat) : Int) = (q : Int) / 10000 := by omega
      have E1 := Lib.hid e1; have E2 := Lib.hid e2; have HD2 := Lib.hid hd2; have HQ := Lib.hid hq
      clear hval hdig e1 e2 hd2 hq
      have hbs := hbe.size
      simp at hbs
      have HB := Lib.hid hbe
      clear hbe
      go_wp2_with (at_builtin; refine wp_snoc rfl _ _ rfl rfl rfl hown E1.out.symm (by omega) (by omega) ?_)
      intro v' w1 ho hb
      have HB2 := Lib.hid (hb.out _ _ HB.out (Nat.le_refl _))
      clear hown hb HB hbs
      go_wp2
      go_roundw
      case rel => exact ⟨q / 10000, _, by rw [E2.out], by omega, hstep, by simp; omega, HD2.out, ho.out, HB2.out⟩
      case measure => have := HQ.out; simp [intOf]; omega
set_option maxRecDepth 100000 in
set_option maxHeartbeats 1000000 in
theorem rOf_neg (a : Nat) (w : World) (h0 : 0 < a) (ha : a ≤ 9223372036854775808) :
    Calls Try.prog 59 #[.int .i64 (-(a : Int))] w fun e w' => ∃ v, e = .returned v ∧ RBo w' w.heap.size v (-(a : Int)) ∧ Below w.heap.size w w' := by
  obtain ⟨i0, hi, hz0, hz1, hz2⟩ := info_parts infoInt
  have B0 := Blk.new w [.bool false, .slice none 0 0] 101
  have ha2 : (a : Int) ≤ 9223372036854775808 := by omega
  have ha3 : decide (-(a : Int) < 0) = true := decide_eq_true (by omega)
  go_enter Try.func59, Try.ntmps59
  go_wp2
  go_loopw [0, 3, 5] (fun n v _ wr => ∃ (q : Nat) (ds : List Nat), n = .int .i64 (-(q : Int)) ∧ q ≤ a ∧ Hid (a = T.val ds + 10000 ^ ds.length * q) ∧ ds.length ≤ 5 ∧ T.Dig ds ∧ OwnD wr (w.heap.size + 1) v ds ∧ Below (w.heap.size + 1) (w.alloc (.cells #[.bool false, .slice none 0 0] 101 (0, 0))) wr) (fun n _ _ _ => (-(intOf n)).toNat)
  case atStart => exact ⟨a, [], rfl, Nat.le_refl _, Lib.hid (by simp [T.val]), by simp, fun d hd => by simp at hd, OwnD.nil _ _, Below.refl _ _⟩
  case round =>
    obtain ⟨q, ds, rfl, hqa, hval, hl5, hdig, hown, hbe⟩ := hrel
    by_cases hq : q = 0
    · subst hq
      have hva := ofD_done hval.out
      obtain ⟨A, c, rfl, hc, hcm, hR⟩ := hown.rsl
      have hwh := rwhole_calls true A c ds wr (by omega) hdig hR
      rw [hva] at hwh
      have B1 := B0.below hbe (by simp)
      have c0 := B1.cell 0 (by simp); have c1 := B1.cell 1 (by simp)
      simp only [List.getElem_cons_zero, List.getElem_cons_succ] at c0 c1
      have bs := hbe.size
      simp at bs
      have HBE : Hid (Below w.heap.size w wr) := Lib.hid (((Below.refl _ w).alloc (Nat.le_refl _) _).trans (hbe.mono (by omega)))
      have HB1 := Lib.hid B1
      clear hval hva hdig hown hR hbe B0 B1 hc hcm
      go_wp2_with fail
      refine hwh.mono ?_; rintro e w1 ⟨v, rfl, ⟨sl, rfl, ho⟩, hb1⟩
      have B2 := HB1.out.ext hb1
      have c0 := B2.cell 0 (by simp); have c1 := B2.cell 1 (by simp)
      simp only [List.getElem_cons_zero, List.getElem_cons_succ] at c0 c1
      have f0 := B2.free 0; have f1 := B2.free 1
      have bl := B2.lt
      have HX := Lib.hid (HBE.out.trans (hb1.mono HBE.out.size))
      obtain ⟨A2, k2, rfl, -, -, -⟩ := ho.rsl
      have HO := Lib.hid ho
      rw [show decide (sgnd true a < 0) = true from by rw [sgnd_neg]; simp; omega]
      generalize (T.digits (sgnd true a).natAbs).length = L2 at *
      clear hwh hb1 B2 ho
      go_wp2_with fail
      try simp only [Exit.inBlock, Exit.then]
      refine bodyPost_ret (v := .agg #[.bool true, .slice A2 L2 k2]) (by simp [results, Try.results59, go_sem, bl, c0, c1]) rfl ⟨_, rfl, ⟨_, by rw [decide_eq_true (by omega : -(a : Int) < 0)], ?_⟩, (HX.out.setCell (Nat.le_refl _) _).setCell (Nat.le_refl _) _⟩
      rw [Int.natAbs_neg, Int.natAbs_natCast]
      have := HO.out
      rw [sgnd_abs] at this
      exact ((this.set _ _ (by dsimp only; omega)).set _ _ (by dsimp only; omega)).mono (by omega)
    · have hl4 := ofD_len hval.out (by omega) (by omega) hl5
      have hq0 : (-(q : Int) != 0) = true := by simp; omega
      have hstep := Lib.hid (ofD_step hval.out)
      have hd2 := dig_snoc hdig q
      have e2 : (-(q : Int)).tdiv 10000 = -((q / 10000 : Nat) : Int) := tdiv_neg q
      have e1 : (-(q : Int)).tmod 10000 = -((q % 10000 : Nat) : Int) := tmod_neg q
      have h1 : q % 10000 < 10000 := Nat.mod_lt _ (by omega)
      have h2 : q / 10000 < q := Nat.div_lt_self (by omega) (by omega)
      have HD2 := Lib.hid hd2; have HQ := Lib.hid hq
      have hbs := hbe.size
      simp at hbs
      have HB := Lib.hid hbe
      generalize q % 10000 = r at *
      generalize q / 10000 = q2 at *
      have hbd : (0 : Int) ≤ q ∧ (q : Int) ≤ 9223372036854775808 ∧ (0 : Int) ≤ q2 ∧ (q2 : Int) ≤ 9223372036854775808 := by omega
      clear hval hdig hd2 hq hbe
      by_cases hr : r = 0
      · subst hr
        rw [show -((0 : Nat) : Int) = 0 from rfl] at e1
        go_wp2_with (at_builtin; refine wp_snoc (d := 0) rfl _ _ rfl rfl rfl hown rfl (by omega) (by omega) ?_)
        intro v' w1 ho hb
        have HB2 := Lib.hid (hb.out _ _ HB.out (Nat.le_refl _))
        clear hown hb HB hbs
        go_wp2
        go_roundw
        case rel => exact ⟨q2, _, rfl, by omega, hstep, by simp; omega, HD2.out, ho.out, HB2.out⟩
        case measure => have := HQ.out; simp [intOf]; omega
      · have hr0 : decide (-(r : Int) < 0) = true := decide_eq_true (by omega)
        go_wp2_with (at_builtin; refine wp_snoc (d := r) rfl _ _ rfl rfl rfl hown (by simp) (by omega) (by omega) ?_)
        intro v' w1 ho hb
        have HB2 := Lib.hid (hb.out _ _ HB.out (Nat.le_refl _))
        clear hown hb HB hbs
        go_wp2
        go_roundw
        case rel => exact ⟨q2, _, rfl, by omega, hstep, by simp; omega, HD2.out, ho.out, HB2.out⟩
        case measure => have := HQ.out; simp [intOf]; omega

theorem rOf_calls (z : Int) (w : World) (h : -9223372036854775808 ≤ z ∧ z ≤ 9223372036854775807) :
    Calls Try.prog 59 #[.int .i64 z] w fun e w' => ∃ v, e = .returned v ∧ RBo w' w.heap.size v z ∧ Below w.heap.size w w' := by
  rcases Int.lt_or_le z 0 with hz | hz
  · obtain ⟨a, rfl⟩ : ∃ a : Nat, z = -(a : Int) := ⟨z.natAbs, by omega⟩
    exact rOf_neg a w (by omega) (by omega)
  · obtain ⟨a, rfl⟩ : ∃ a : Nat, z = a := ⟨z.toNat, by omega⟩
    exact rOf_pos a w (by omega)
end Go.Proofs.Ytbdlfjhhgnhejaa
