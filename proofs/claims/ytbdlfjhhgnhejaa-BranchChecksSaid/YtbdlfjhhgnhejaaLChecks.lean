/- BranchChecks: the walk of the statement. -/
import Derived.Test.YtbdlfjhhgnhejaaLVector
import Derived.Test.YtbdlfjhhgnhejaaLLimit
import Derived.Laws.OwnMore
import Derived.Test.YtbdlfjhhgnhejaaTE
namespace Go.Proofs.Ytbdlfjhhgnhejaa
open Go.RowKit
set_option linter.unusedVariables false
set_option linter.unusedSimpArgs false

theorem run_app_none {P : Program} (w : World) (base : Nat) (t ty e : TypeId) (i : TypeInfo) (size : Nat) (ht : P.underlying t = some (.slice e)) (hi : P.info? e = some i)
    (v : Value) (n : Nat) (xs : List Value) (hown : w.ownsRow base e size v n xs) (cx : Nat) :
    (Builtin.append_ #[t, t] ty #[v, .slice none 0 cx]).run P w = .ok v w := by
  rcases hown.2 with ⟨rfl, rfl⟩ | ⟨g, cap, cur, rfl, _, _, hnc, _⟩
  · simp [Builtin.append_, run_underlying ht, sizeOf, typeInfo, hi, Builtin.lenOf, Builtin.firstCells]
  · simp [Builtin.append_, run_underlying ht, sizeOf, typeInfo, hi, Builtin.lenOf, Builtin.firstCells, hnc, storeCells]

/-- What lies from a place on. -/
def cellsOf (w : World) (b o n : Nat) : List Value := (List.range n).map fun j => (w.cell? ⟨b, o + j, none⟩).getD undef
theorem cellsOf_len (w : World) (b o n : Nat) : (cellsOf w b o n).length = n := by simp [cellsOf]
theorem cellsOf_get {w : World} {b o n j : Nat} {x : Value} (hj : j < n) (h : w.cell? ⟨b, o + j, none⟩ = some x) : (cellsOf w b o n)[j]? = some x := by
  simp [cellsOf, hj, h]
/-- A cell of nodes. -/
theorem node_cell {w : World} {b o : Nat} {L : List Nd} (h : Nodes w (some ⟨b, o, none⟩) L) {j : Nat} (hj : j < L.length * 4) : ∃ x, w.cell? ⟨b, o + j, none⟩ = some x ∧ x.oneCell' = true := by
  obtain ⟨i, r, hr, rfl⟩ : ∃ i r, r < 4 ∧ j = 4 * i + r := ⟨j / 4, j % 4, by omega, by omega⟩
  obtain ⟨b', o', Y, cy, e, c0, c1, c2, c3, -, -⟩ := h i (by omega)
  injection e with e; injection e with e1 e2; subst e1; subst e2
  have : r = 0 ∨ r = 1 ∨ r = 2 ∨ r = 3 := by omega
  rcases this with rfl | rfl | rfl | rfl
  · exact ⟨_, c0, rfl⟩
  · exact ⟨_, c1, rfl⟩
  · exact ⟨_, c2, rfl⟩
  · exact ⟨_, c3, rfl⟩
theorem nodes_copied {w w' : World} {b o g cap base : Nat} {L : List Nd} (h : Nodes w (some ⟨b, o, none⟩) L) (hb : Below w.heap.size w w')
    (hown : w'.ownsRow base 34 4 (.slice (some ⟨g, 0, none⟩) L.length cap) L.length (cellsOf w b o (L.length * 4))) : Nodes w' (some ⟨g, 0, none⟩) L := fun i hi => by
  obtain ⟨b', o', Y, cy, e, c0, c1, c2, c3, hY, hl⟩ := h i hi
  injection e with e; injection e with e1 e2; subst e1; subst e2
  have hc := hown.cells (g := g) rfl
  have g' : ∀ r x, 4 * i + r < L.length * 4 → w.cell? ⟨b, o + (4 * i + r), none⟩ = some x → w'.cell? ⟨g, 0 + 4 * i + r, none⟩ = some x := fun r x hr hx => by
    have := hc (4 * i + r) x (cellsOf_get hr hx)
    rw [Addr.add_lit] at this
    rw [← this]; congr 2; omega
  exact ⟨g, 0, Y, cy, rfl, g' 0 _ (by omega) c0, g' 1 _ (by omega) c1, g' 2 _ (by omega) c2, g' 3 _ (by omega) c3, hY.ext hb, hl⟩

/-- Nodes are appended to an own row that is empty, and not nil. -/
theorem wp_nodes {ops : Array Oper} {rest : List Oper} {o : Oper} {a : Act} {Q : Exit → Act → World → Prop} (hgd : o.guard = none) (s x : Operand)
    (ho : o.op = .call { callee := .builtin .append, args := #[s, x], argTypes := #[26, 26] }) {w : World} {base g0 : Nat} {X : Option Addr} {cx : Nat} {L : List Nd}
    (hs : a.eval s = .slice (some ⟨g0, 0, none⟩) 0 0) (hx : a.eval x = .slice X L.length cx) (hown : w.ownsRow base 34 4 (.slice (some ⟨g0, 0, none⟩) 0 0) 0 []) (hN : Nodes w X L) (hl : L.length ≤ 300) (hb : base ≤ w.heap.size) {w0 : World} (hw0 : Below w0.heap.size w0 w) (hbase : w0.heap.size ≤ base) (hg0 : base ≤ g0)
    (hwN : Nodes w0 X L)
    (h : ∀ X' cx' w', Hid (Nodes w' X' L) → L.length ≤ cx' → cx' ≤ maxLen → Hid (Below w0.heap.size w0 w') → wpList Try.prog ops Q rest (a.put o.dst (.slice X' L.length cx')) w') :
    wpList Try.prog ops Q (o :: rest) a w := by
  obtain ⟨i0, hi, hz0, hz1, hz2⟩ := info_parts infoNode
  cases X with
  | none =>
    have hL : L = [] := by
      cases L with
      | nil => rfl
      | cons n L => obtain ⟨b, o, Y, cy, e, -⟩ := hN 0 (by simp); cases e
    subst hL
    refine wpList_plain hgd fun K hK => ?_
    have hrun := run_app_none (P := Try.prog) w base 26 o.type 34 i0 4 Try.underlying26 hi _ _ _ hown cx
    unfold Oper.wp execOp
    rw [List.length_nil] at hx
    simp only [ho, resolve, invoke, builtin, Sem.run_bind, Sem.run_pure, Result.andThen_ok, List.map_toArray, List.map_cons, List.map_nil, hs, hx, hrun]
    exact hK _ _ (h (some ⟨g0, 0, none⟩) 0 w (Lib.hid fun i hi => by simp at hi) (Nat.le_refl _) (Nat.zero_le _) (Lib.hid hw0))
  | some ad =>
    obtain ⟨b, of, f⟩ := ad
    by_cases htt : True
    · have hplain : L = [] ∨ f = none := by
        cases L with
        | nil => exact .inl rfl
        | cons n L => obtain ⟨b', o', Y, cy, e, -⟩ := hN 0 (by simp); injection e with e; injection e with e1 e2 e3; exact .inr e3
      have hnews : ∀ j u, (cellsOf w b of (L.length * 4))[j]? = some u → w.cell? ((⟨b, of, f⟩ : Addr).add j) = some u ∧ u.oneCell' = true := fun j u hu => by
        have hj : j < L.length * 4 := by have := (List.getElem?_eq_some_iff.1 hu).1; rwa [cellsOf_len] at this
        rcases hplain with e | rfl
        · subst e; simp at hj
        · obtain ⟨y, hy, h1⟩ := node_cell hN hj
          rw [cellsOf_get hj hy] at hu
          injection hu with hu; subst hu
          exact ⟨by rw [Addr.add_lit]; exact hy, h1⟩
      refine wpList_append_own _ hgd s x 26 ho base 34 i0 _ 4 48 Try.underlying26 hi hz0 hz1 hz2 rfl (by decide) _ 0 [] hs hown ⟨b, of, f⟩ L.length cx (cellsOf w b of (L.length * 4)) hx (cellsOf_len ..) (fun j u hu => (hnews j u hu).1) (fun u hu => by obtain ⟨j, hj, e⟩ := List.getElem_of_mem hu; exact (hnews j u (List.getElem?_eq_some_iff.2 ⟨hj, e⟩)).2) (by unfold maxLen; omega) (by omega) hb ?_
      intro v' w' h1 hg h2
      rw [List.nil_append, Nat.zero_add] at h1
      rcases h1.2 with ⟨e, -⟩ | ⟨g, cap, cur, rfl, hbg, -, hnc, hcm, -⟩
      · exact absurd (h2.1 e).1 (by simp)
      · have hbl : Below w0.heap.size w0 w' := hw0.grown hg hw0.size fun k hk => by
          simp [Value.ownBlock] at hk; omega
        refine h (some ⟨g, 0, none⟩) cap w' (Lib.hid ?_) hnc hcm (Lib.hid hbl)
        rcases hplain with e | rfl
        · subst e; exact fun i hi => by simp at hi
        · have hnn : cellsOf w0 b of (L.length * 4) = cellsOf w b of (L.length * 4) := by
            unfold cellsOf
            refine List.map_congr_left fun j hj => ?_
            obtain ⟨y, hy, -⟩ := node_cell hwN (List.mem_range.1 hj)
            rw [(bcell hw0).1 _ _ (cell_lt hy)]
          rw [← hnn] at h1
          exact nodes_copied hwN hbl h1
    · exact absurd trivial htt

theorem shortB_len {L : List Nd} (h : shortB L = true) : L.length ≤ 300 := by
  unfold shortB at h; simp only [Bool.and_eq_true, decide_eq_true_eq] at h; exact h.1
set_option maxRecDepth 100000 in
set_option maxHeartbeats 1000000 in
theorem checks_idle (A B C U X : Option Addr) (ca cb cc cu cx : Nat) (a : List (List Int)) (b c u : List Int) (L : List Nd) (feas : Bool) (cost : Int) (w : World) (hw : Who w A B C U a b c u) (hN : Nodes w X L) (hL : L.length ≤ maxLen) (hs : (lightB a b c u && shortB L) = false) :
    Calls Try.prog 3 #[.agg #[.slice A a.length ca, .slice B b.length cb, .slice C c.length cc, .slice U u.length cu], .slice X L.length cx, .bool feas, .int .i64 cost] w fun e w' => e = .returned (.bool true) ∧ Below w.heap.size w w' := by
  have hb0 : ∀ o, Below w.heap.size w (w.alloc o) := fun o => (Below.refl _ _).alloc (Nat.le_refl _) _
  have hli : ∀ o, _ := fun o => light_calls A B C U ca cb cc cu a b c u (w.alloc o) (hw.ext (hb0 o))
  have hsh : ∀ w2, Nodes w2 X L → _ := fun w2 h => short_calls X cx L w2 hL h
  have N0 := hN.ext (hb0 (.cells #[.slice A a.length ca, .slice B b.length cb, .slice C c.length cc, .slice U u.length cu] 25 (0, 0)))
  have HX0 := Lib.hid (hb0 (.cells #[.slice A a.length ca, .slice B b.length cb, .slice C c.length cc, .slice U u.length cu] 25 (0, 0)))
  clear hb0 hw hN hL
  cases hl : lightB a b c u
  · rw [hl] at hli
    clear hs hl hsh N0
    go_enter Try.func3, Try.ntmps3
    go_wp2_with fail
    refine (hli _).mono ?_; rintro e w1 ⟨rfl, hb1⟩
    have HX := Lib.hid (ext_trans HX0.out hb1)
    clear hb1 HX0 hli
    go_wp2_with fail
    refine (alive_calls _).mono ?_; rintro e w2 ⟨rfl, hb2⟩
    have HX2 := Lib.hid (ext_trans HX.out hb2)
    clear hb2
    go_wp2_with fail
    go_ret
    exact ⟨rfl, HX2.out⟩
  · have hsb : shortB L = false := by simpa [hl] using hs
    rw [hl] at hli
    rw [hsb] at hsh
    clear hs hl hsb
    go_enter Try.func3, Try.ntmps3
    go_wp2_with fail
    refine (hli _).mono ?_; rintro e w1 ⟨rfl, hb1⟩
    have HX := Lib.hid (ext_trans HX0.out hb1)
    have N1 := N0.ext hb1
    clear hb1 HX0 hli N0
    go_wp2_with fail
    refine (hsh _ N1).mono ?_; rintro e w2 ⟨rfl, rfl⟩
    clear hsh N1
    go_wp2_with fail
    refine (alive_calls _).mono ?_; rintro e w3 ⟨rfl, hb3⟩
    have HX2 := Lib.hid (ext_trans HX.out hb3)
    clear hb3
    go_wp2_with fail
    go_ret
    exact ⟨rfl, HX2.out⟩

set_option maxRecDepth 100000 in
set_option maxHeartbeats 2000000 in
theorem checks_main (A B C U X : Option Addr) (ca cb cc cu cx : Nat) (a : List (List Int)) (b c u : List Int) (L : List Nd) (feas : Bool) (cost : Int) (w : World) (hw : Who w A B C U a b c u) (hN : Nodes w X L) (hL : L.length ≤ cx) (hcx : cx ≤ maxLen) (hcost : Hid (-9223372036854775808 ≤ cost ∧ cost ≤ 9223372036854775807)) (hl : lightB a b c u = true) (hs : shortB L = true) :
    Calls Try.prog 3 #[.agg #[.slice A a.length ca, .slice B b.length cb, .slice C c.length cc, .slice U u.length cu], .slice X L.length cx, .bool feas, .int .i64 cost] w fun e w' => e = .returned (.bool true) ∧ Below w.heap.size w w' := by
  have hb0 : ∀ o, Below w.heap.size w (w.alloc o) := fun o => (Below.refl _ _).alloc (Nat.le_refl _) _
  have hli : ∀ o, _ := fun o => light_calls A B C U ca cb cc cu a b c u (w.alloc o) (hw.ext (hb0 o))
  have hsh : ∀ w2, Nodes w2 X L → _ := fun w2 h => short_calls X cx L w2 (Nat.le_trans hL hcx) h
  have B0 := Blk.new w [.slice A a.length ca, .slice B b.length cb, .slice C c.length cc, .slice U u.length cu] 25
  have W0 := hw.ext (hb0 (.cells #[.slice A a.length ca, .slice B b.length cb, .slice C c.length cc, .slice U u.length cu] 25 (0, 0)))
  have N0 := hN.ext (hb0 (.cells #[.slice A a.length ca, .slice B b.length cb, .slice C c.length cc, .slice U u.length cu] 25 (0, 0)))
  have HX0 := Lib.hid (hb0 (.cells #[.slice A a.length ca, .slice B b.length cb, .slice C c.length cc, .slice U u.length cu] 25 (0, 0)))
  have HL := Lib.hid hL; have HCX := Lib.hid hcx
  rw [hl] at hli
  rw [hs] at hsh
  have HL3 := Lib.hid (shortB_len hs)
  clear hb0 hw hN hL hcx hl hs
  go_enter Try.func3, Try.ntmps3
  go_wp2_with fail
  refine (hli _).mono ?_; rintro e w1 ⟨rfl, hb1⟩
  have HX := Lib.hid (ext_trans HX0.out hb1)
  obtain ⟨k0, k1, k2, k3⟩ := box_at B0 hb1
  have W1 := W0.ext hb1; have N1 := N0.ext hb1; have B1 := B0.ext hb1
  clear hb1 HX0 hli N0 W0 B0
  go_wp2_with fail
  refine (hsh _ N1).mono ?_; rintro e w2 ⟨rfl, rfl⟩
  clear hsh
  go_wp2_with (at_builtin; go_loud (refine wp_nodes (w0 := w2) (base := w2.heap.size) (g0 := w2.heap.size) (L := L) rfl _ _ rfl rfl rfl (World.ownsRow_made w2 #[] 0 (Nat.le_refl _) (Nat.zero_le _) rfl) (N1.ext ((Below.refl _ w2).alloc (Nat.le_refl _) _)) HL3.out (by simp) ((Below.refl _ w2).alloc (Nat.le_refl _) _) (Nat.le_refl _) (Nat.le_refl _) N1 ?_))
  intro X2 cx2 w3 hN2 hc1 hc2 hb3
  have HX1 := Lib.hid (ext_trans HX.out hb3.out)
  have W3 := Lib.hid (W1.ext hb3.out); have B3 := Lib.hid (B1.ext hb3.out); have N3 := Lib.hid (N1.ext hb3.out)
  clear k0 k1 k2 k3 W1 B1 N1 hb3
  obtain ⟨k0, k1, k2, k3⟩ := box_at B3.out (Below.refl _ _)
  go_wp2_with fail
  refine (check_calls A B C U X2 ca cb cc cu cx2 a b c u L cost feas _ W3.out hN2.out hc1 hc2 hcost.out).mono ?_
  rintro e w4 ⟨he, hb4⟩
  have HX2 := Lib.hid (ext_trans HX1.out hb4)
  have W4 := Lib.hid (W3.out.ext hb4); have B4 := Lib.hid (B3.out.ext hb4); have N4 := Lib.hid (N3.out.ext hb4); have M4 := Lib.hid (hN2.out.ext hb4)
  clear k0 k1 k2 k3 W3 B3 N3 hN2 HX1 HX hb4
  obtain ⟨k0, k1, k2, k3⟩ := box_at B4.out (Below.refl _ _)
  have hrc := refCheck_calls A B C U X ca cb cc cu cx a b c u L cost feas w4 W4.out N4.out hcost.out
  unfold CheckPost at hrc
  obtain ⟨V, hV⟩ : ∃ V, checkV a b c u L cost feas = V := ⟨_, rfl⟩
  rw [hV] at he hrc
  clear hV
  obtain ⟨v1, v2⟩ := V
  dsimp only at he hrc
  subst he
  go_wp2_with fail
  refine hrc.mono ?_
  rintro e w5 ⟨rfl, hb5⟩
  have HX3 := Lib.hid (ext_trans HX2.out hb5)
  have N5 := Lib.hid (N4.out.ext hb5); have M5 := Lib.hid (M4.out.ext hb5)
  have HS3 := Lib.hid HL3.out
  clear k0 k1 k2 k3 W4 B4 N4 M4 HX2 hrc hb5
  have hlm := HL3.out
  clear HL3 HL HCX hcost
  have hx1 : (v1 != v1) = false := bne_self_eq_false v1
  have hx2 : (v2 != v2) = false := bne_self_eq_false v2
  go_wp2_with fail
  go_loopw [14] (fun i wr => ∃ k : Nat, k ≤ L.length ∧ i = .int .i64 k ∧ Below w5.heap.size w5 wr) (fun i _ => L.length - (intOf i).toNat)
  case atStart => exact ⟨0, Nat.zero_le _, rfl, Below.refl _ _⟩
  case round =>
    obtain ⟨k, hk, rfl, hbr⟩ := hrel
    have HBR := Lib.hid hbr; clear hbr
    by_cases hlt : k < L.length
    · obtain ⟨p, po, Y2, cy2, rfl, m0, m1, m2, m3, -, -⟩ := M5.out k hlt
      obtain ⟨q, qo, Y, cy, rfl, n0, n1, n2, n3, -, -⟩ := N5.out k hlt
      have hcc := (bcell HBR.out).1
      rw [Nat.mul_comm 4 k] at m0 m1 m3 n0 n1 n3
      have p0 := (hcc _ _ (cell_lt m0)).trans m0; have p1 := (hcc _ _ (cell_lt m1)).trans m1; have p3 := (hcc _ _ (cell_lt m3)).trans m3
      have q0 := (hcc _ _ (cell_lt n0)).trans n0; have q1 := (hcc _ _ (cell_lt n1)).trans n1; have q3 := (hcc _ _ (cell_lt n3)).trans n3
      clear m0 m1 m2 m3 n0 n1 n2 n3 hcc
      generalize L[k].va = va at *
      generalize L[k].at' = at' at *
      generalize L[k].d = d at *
      have hz : (k : Int) < L.length := by omega
      have hva : (va != va) = false := bne_self_eq_false va
      have hat : (at' != at') = false := bne_self_eq_false at'
      have hd : (d != d) = false := bne_self_eq_false d
      go_wp2_with fail
      refine wp_region_later (w0 := wr) 37 [57, 58, 59, 60, 61, 62, 63, 64, 65, 66, 67, 68, 69, 70, 71, 72, 73, 74, 75, 76, 77, 78, 79, 80, 81, 82, 83, 84, 85, 86, 87, 88, 89, 90, 91, 92, 93]
        [leafS 57 (.slice (some ⟨p, po, none⟩) L.length cx2), leafS 58 (.int .i64 k), leafS 59 (.pointer (some ⟨p, po + k * 4, none⟩)), leafS 60 (.pointer (some ⟨p, po + k * 4, none⟩)), leafS 61 (.int .i64 va), leafS 62 (.slice (some ⟨q, qo, none⟩) L.length cx), leafS 63 (.int .i64 k), leafS 64 (.pointer (some ⟨q, qo + k * 4, none⟩)), leafS 65 (.pointer (some ⟨q, qo + k * 4, none⟩)), leafS 66 (.int .i64 va), leafS 67 (.bool false), leafS 68 (.bool false), leafS 69 (.slice (some ⟨p, po, none⟩) L.length cx2), leafS 70 (.int .i64 k), leafS 71 (.pointer (some ⟨p, po + k * 4, none⟩)), leafS 72 (.pointer (some ⟨p, po + k * 4 + 1, none⟩)), leafS 73 (.int .i64 at'), leafS 74 (.slice (some ⟨q, qo, none⟩) L.length cx), leafS 75 (.int .i64 k), leafS 76 (.pointer (some ⟨q, qo + k * 4, none⟩)), leafS 77 (.pointer (some ⟨q, qo + k * 4 + 1, none⟩)), leafS 78 (.int .i64 at'), leafS 79 (.bool false), leafS 80 (.bool false), leafS 81 (.bool false), leafS 82 (.slice (some ⟨p, po, none⟩) L.length cx2), leafS 83 (.int .i64 k), leafS 84 (.pointer (some ⟨p, po + k * 4, none⟩)), leafS 85 (.pointer (some ⟨p, po + k * 4 + 3, none⟩)), leafS 86 (.int .i64 d), leafS 87 (.slice (some ⟨q, qo, none⟩) L.length cx), leafS 88 (.int .i64 k), leafS 89 (.pointer (some ⟨q, qo + k * 4, none⟩)), leafS 90 (.pointer (some ⟨q, qo + k * 4 + 3, none⟩)), leafS 91 (.int .i64 d), leafS 92 (.bool false), leafS 93 (.bool false)]
        (fun w w' => Below w.heap.size w w') (by kernel_rfl) (by kernel_rfl) rfl (F := ?cF11) ?r11c1 (fun _ _ _ => ext_trans) (Below.refl _ _).drew ?r11c2 ?r11c3 ?r11c4
      case r11c1 =>
        intro x
        simp only [fullF, Act.put, List.setIfInBounds_toArray, List.set_cons_zero, List.set_cons_succ]
        rfl
      case r11c2 =>
        refine AllStay.mem ⟨stays_const _ _ _, stays_const _ _ _, stays_const _ _ _, stays_const _ _ _, stays_const _ _ _, stays_const _ _ _, stays_const _ _ _, stays_const _ _ _, stays_const _ _ _, stays_const _ _ _, stays_const _ _ _, stays_const _ _ _, stays_const _ _ _, stays_const _ _ _, stays_const _ _ _, stays_const _ _ _, stays_const _ _ _, stays_const _ _ _, stays_const _ _ _, stays_const _ _ _, stays_const _ _ _, stays_const _ _ _, stays_const _ _ _, stays_const _ _ _, stays_const _ _ _, stays_const _ _ _, stays_const _ _ _, stays_const _ _ _, stays_const _ _ _, stays_const _ _ _, stays_const _ _ _, stays_const _ _ _, stays_const _ _ _, stays_const _ _ _, stays_const _ _ _, stays_const _ _ _, stays_const _ _ _, trivial⟩
      case r11c3 =>
        refine ⟨?_, ?_, ?_, ?_, ?_, ?_, ?_, ?_, ?_, ?_, ?_, ?_, ?_, ?_, ?_, ?_, ?_, ?_, ?_, ?_, ?_, ?_, ?_, ?_, ?_, ?_, ?_, ?_, ?_, ?_, ?_, ?_, ?_, ?_, ?_, ?_, ?_, trivial⟩
        all_goals
          intro x w0 hE hd K hK
          have hc := (bcell hE).1
          have p0' := (hc _ _ (cell_lt p0)).trans p0
          have p1' := (hc _ _ (cell_lt p1)).trans p1
          have p3' := (hc _ _ (cell_lt p3)).trans p3
          have q0' := (hc _ _ (cell_lt q0)).trans q0
          have q1' := (hc _ _ (cell_lt q1)).trans q1
          have q3' := (hc _ _ (cell_lt q3)).trans q3
          try have e0 : x 57 = _ := hd 0 _ (by decide) rfl
          try have e1 : x 58 = _ := hd 1 _ (by decide) rfl
          try have e2 : x 59 = _ := hd 2 _ (by decide) rfl
          try have e3 : x 60 = _ := hd 3 _ (by decide) rfl
          try have e4 : x 61 = _ := hd 4 _ (by decide) rfl
          try have e5 : x 62 = _ := hd 5 _ (by decide) rfl
          try have e6 : x 63 = _ := hd 6 _ (by decide) rfl
          try have e7 : x 64 = _ := hd 7 _ (by decide) rfl
          try have e8 : x 65 = _ := hd 8 _ (by decide) rfl
          try have e9 : x 66 = _ := hd 9 _ (by decide) rfl
          try have e10 : x 67 = _ := hd 10 _ (by decide) rfl
          try have e11 : x 68 = _ := hd 11 _ (by decide) rfl
          try have e12 : x 69 = _ := hd 12 _ (by decide) rfl
          try have e13 : x 70 = _ := hd 13 _ (by decide) rfl
          try have e14 : x 71 = _ := hd 14 _ (by decide) rfl
          try have e15 : x 72 = _ := hd 15 _ (by decide) rfl
          try have e16 : x 73 = _ := hd 16 _ (by decide) rfl
          try have e17 : x 74 = _ := hd 17 _ (by decide) rfl
          try have e18 : x 75 = _ := hd 18 _ (by decide) rfl
          try have e19 : x 76 = _ := hd 19 _ (by decide) rfl
          try have e20 : x 77 = _ := hd 20 _ (by decide) rfl
          try have e21 : x 78 = _ := hd 21 _ (by decide) rfl
          try have e22 : x 79 = _ := hd 22 _ (by decide) rfl
          try have e23 : x 80 = _ := hd 23 _ (by decide) rfl
          try have e24 : x 81 = _ := hd 24 _ (by decide) rfl
          try have e25 : x 82 = _ := hd 25 _ (by decide) rfl
          try have e26 : x 83 = _ := hd 26 _ (by decide) rfl
          try have e27 : x 84 = _ := hd 27 _ (by decide) rfl
          try have e28 : x 85 = _ := hd 28 _ (by decide) rfl
          try have e29 : x 86 = _ := hd 29 _ (by decide) rfl
          try have e30 : x 87 = _ := hd 30 _ (by decide) rfl
          try have e31 : x 88 = _ := hd 31 _ (by decide) rfl
          try have e32 : x 89 = _ := hd 32 _ (by decide) rfl
          try have e33 : x 90 = _ := hd 33 _ (by decide) rfl
          try have e34 : x 91 = _ := hd 34 _ (by decide) rfl
          try have e35 : x 92 = _ := hd 35 _ (by decide) rfl
          try have e36 : x 93 = _ := hd 36 _ (by decide) rfl
          have HC := Lib.hid hc; have HE := Lib.hid hE
          clear hd hc hE
          go_simp
          try exact hK _ _ _ (Below.refl _ _) (upd_self _ _ _) (by dsimp only [Act.put]; first | rfl | (simp [*]; done))
      case r11c4 =>
        intro x w6 hE hG
        have e0 : x 57 = _ := hG 0 _ rfl
        have e1 : x 58 = _ := hG 1 _ rfl
        have e2 : x 59 = _ := hG 2 _ rfl
        have e3 : x 60 = _ := hG 3 _ rfl
        have e4 : x 61 = _ := hG 4 _ rfl
        have e5 : x 62 = _ := hG 5 _ rfl
        have e6 : x 63 = _ := hG 6 _ rfl
        have e7 : x 64 = _ := hG 7 _ rfl
        have e8 : x 65 = _ := hG 8 _ rfl
        have e9 : x 66 = _ := hG 9 _ rfl
        have e10 : x 67 = _ := hG 10 _ rfl
        have e11 : x 68 = _ := hG 11 _ rfl
        have e12 : x 69 = _ := hG 12 _ rfl
        have e13 : x 70 = _ := hG 13 _ rfl
        have e14 : x 71 = _ := hG 14 _ rfl
        have e15 : x 72 = _ := hG 15 _ rfl
        have e16 : x 73 = _ := hG 16 _ rfl
        have e17 : x 74 = _ := hG 17 _ rfl
        have e18 : x 75 = _ := hG 18 _ rfl
        have e19 : x 76 = _ := hG 19 _ rfl
        have e20 : x 77 = _ := hG 20 _ rfl
        have e21 : x 78 = _ := hG 21 _ rfl
        have e22 : x 79 = _ := hG 22 _ rfl
        have e23 : x 80 = _ := hG 23 _ rfl
        have e24 : x 81 = _ := hG 24 _ rfl
        have e25 : x 82 = _ := hG 25 _ rfl
        have e26 : x 83 = _ := hG 26 _ rfl
        have e27 : x 84 = _ := hG 27 _ rfl
        have e28 : x 85 = _ := hG 28 _ rfl
        have e29 : x 86 = _ := hG 29 _ rfl
        have e30 : x 87 = _ := hG 30 _ rfl
        have e31 : x 88 = _ := hG 31 _ rfl
        have e32 : x 89 = _ := hG 32 _ rfl
        have e33 : x 90 = _ := hG 33 _ rfl
        have e34 : x 91 = _ := hG 34 _ rfl
        have e35 : x 92 = _ := hG 35 _ rfl
        have e36 : x 93 = _ := hG 36 _ rfl
        have HB6 := Lib.hid (ext_trans HBR.out hE)
        clear hG hE p0 p1 p3 q0 q1 q3
        refine wpAny_done (by kernel_rfl) ?_ _
        try simp only [Exit.inBlock, Exit.then]
        rw [e0, e1, e2, e3, e4, e5, e6, e7, e8, e9, e10, e11, e12, e13, e14, e15, e16, e17, e18, e19, e20, e21, e22, e23, e24, e25, e26, e27, e28, e29, e30, e31, e32, e33, e34, e35, e36]
        clear e0 e1 e2 e3 e4 e5 e6 e7 e8 e9 e10 e11 e12 e13 e14 e15 e16 e17 e18 e19 e20 e21 e22 e23 e24 e25 e26 e27 e28 e29 e30 e31 e32 e33 e34 e35 e36
        go_wp2_with fail
        go_roundw
        case rel => exact ⟨k + 1, by omega, by go_num, HB6.out⟩
        case measure => simp [intOf]; omega
    · obtain rfl : k = L.length := by omega
      have HX4 := Lib.hid (ext_trans HX3.out HBR.out)
      go_wp2_with fail
      refine (alive_calls _).mono ?_; rintro e w7 ⟨rfl, hb7⟩
      have HX5 := Lib.hid (ext_trans HX4.out hb7)
      clear hb7
      go_wp2_with fail
      go_ret
      exact ⟨rfl, HX5.out⟩

theorem checks_walk (A B C U X : Option Addr) (ca cb cc cu cx : Nat) (a : List (List Int)) (b c u : List Int) (L : List Nd) (feas : Bool) (cost : Int) (w : World) (hw : Who w A B C U a b c u) (hN : Nodes w X L) (hL : L.length ≤ cx) (hcx : cx ≤ maxLen) (hcost : -9223372036854775808 ≤ cost ∧ cost ≤ 9223372036854775807) :
    Calls Try.prog 3 #[.agg #[.slice A a.length ca, .slice B b.length cb, .slice C c.length cc, .slice U u.length cu], .slice X L.length cx, .bool feas, .int .i64 cost] w fun e w' => e = .returned (.bool true) ∧ Below w.heap.size w w' := by
  cases hs : (lightB a b c u && shortB L)
  · exact checks_idle A B C U X ca cb cc cu cx a b c u L feas cost w hw hN (Nat.le_trans hL hcx) hs
  · rw [Bool.and_eq_true] at hs
    exact checks_main A B C U X ca cb cc cu cx a b c u L feas cost w hw hN hL hcx (Lib.hid hcost) hs.1 hs.2
end Go.Proofs.Ytbdlfjhhgnhejaa
