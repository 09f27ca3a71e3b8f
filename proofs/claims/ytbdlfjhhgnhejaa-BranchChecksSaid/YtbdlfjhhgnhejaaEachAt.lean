/- branch.program.each's inner function, by induction on how many variables are left; and each itself. -/
import Derived.Test.YtbdlfjhhgnhejaaEach
namespace Go.Proofs.Ytbdlfjhhgnhejaa
open Go.RowKit

/-- How the inner function ends. -/
def AtPost (Inv : Nat → List (List Int) → World → Prop) (S : Nat → Prop) (xa j : Nat) (xs : List Int) (L : List (List Int)) (w : World) (e : Ending) (w' : World) : Prop :=
  e = .returned (.tuple #[]) ∧ ∃ xs', IBlk w' xa xs' ∧ xs'.length = xs.length ∧ xs'.take j = xs.take j ∧ Inv xa L w' ∧ Fr S w w'

theorem InBox.mono_take {u xs ys : List Int} {j : Nat} (h : InBox u xs j) (ht : ys.take j = xs.take j) (h1 : j ≤ xs.length) (h2 : j ≤ ys.length) : InBox u ys j := fun i hi => by
  rw [nth_take ht hi (by omega) (by omega)]; exact h i hi

set_option maxHeartbeats 2000000 in
theorem each_at {vid : FuncId} {vcaps : Array Value} {V : Nat → Prop} {Inv : Nat → List (List Int) → World → Prop} {w0 : World} {A B C U : Option Addr} {ca cb cc cu : Nat} {a : List (List Int)} {b c u : List Int} {pb xc xa ac vc : Nat}
    (hv : Visit vid vcaps V Inv c u) (hw0 : Who w0 A B C U a b c u) (hok : wholeOk a b c u = true) (hap : Apt w0 V pb xc xa ac vc) : ∀ (d j : Nat), j + d = u.length → ∀ (w : World) (L : List (List Int)) (xs : List Int),
    EC w0 w A B C U ca cb cc cu a b c u vid vcaps pb xc xa ac vc → IBlk w xa xs → xs.length = u.length → InBox u xs j → Inv xa L w →
    Calls Try.prog 42 #[.int .i64 j, .pointer (some ⟨pb, 0, none⟩), .pointer (some ⟨xc, 0, none⟩), .pointer (some ⟨ac, 0, none⟩), .pointer (some ⟨vc, 0, none⟩)] w (AtPost Inv (fun k => V k ∨ k = xa) xa j xs (L ++ compl a b (u.drop j) (xs.take j)) w) := by
  intro d
  induction d with
  | zero =>
    intro j hj w L xs hec hx hxl hxb hinv
    obtain rfl : j = u.length := by omega
    rw [List.drop_length, ← hxl, List.take_length]
    rw [hxl]
    refine (each_leaf hv hw0 hok hap L xs hec hx hxl hxb hinv).mono ?_
    rintro e w' ⟨he, xs', h1, h2, h3, h4, h5⟩
    exact ⟨he, xs', h1, h2, by rw [← hxl, h3, List.take_length], h4, h5⟩
  | succ d ih =>
    intro j hj w L xs hec hx hxl hxb hinv
    have hlu := hw0.lu; unfold maxLen at hlu
    have hju : j < u.length := by omega
    have hjx : j < xs.length := by omega
    have HJ := Lib.hid hj; have HXL := Lib.hid hxl
    clear hj hxl
    have p0 : w.cell? ⟨pb, 4, none⟩ = some (.int .i64 u.length) := hec.P.cell 4 (by simp)
    have x0 : w.cell? ⟨xc, 0, none⟩ = some (.slice (some ⟨xa, 0, none⟩) u.length u.length) := hec.X.cell 0 (by simp)
    have xj := hx.cell j hjx
    have fj := Blk.free hx j
    have hup : upOk u = true := by unfold wholeOk at hok; simp only [Bool.and_eq_true] at hok; exact hok.1.2
    have hm := (List.all_eq_true.1 hup) (nth u j) (nth_mem hju)
    simp at hm
    obtain ⟨hm0, hm7⟩ := hm
    have hdj : (j : Int) < u.length := by omega
    go_enter Try.func42, Try.ntmps42
    go_wp2_with fail
    go_loopg [15] ((nth u j).toNat + 1) (fun g _ wr => ∃ v : Nat, g + v = (nth u j).toNat + 1 ∧ ∃ xs', IBlk wr xa xs' ∧ xs'.length = xs.length ∧ xs'.take j = xs.take j ∧ nth xs' j = v ∧ Inv xa (L ++ doneV a b (u.drop (j + 1)) (xs.take j) v) wr ∧ Fr (fun k => V k ∨ k = xa) w wr)
    case atStart =>
      refine ⟨0, by omega, xs.set j 0, hx.set j 0, by simp, take_set 0, nth_set_eq hjx 0, ?_, (Fr.refl _ _).set (Or.inl (Or.inr rfl)) _⟩
      rw [doneV_zero, List.append_nil]
      exact hv.stable _ _ _ _ hinv ((Fr.refl (· = xa) w).set (Or.inl rfl) _)
    case round =>
      obtain ⟨v, hg, xs', hx', hl', ht', hn', hinv', hfr⟩ := hrel
      have hec' := hec.fr hap hfr
      clear xj fj x0 p0
      have p3 : wr.cell? ⟨pb, 3, none⟩ = some (.slice U u.length cu) := hec'.P.cell 3 (by simp)
      have x0 : wr.cell? ⟨xc, 0, none⟩ = some (.slice (some ⟨xa, 0, none⟩) u.length u.length) := hec'.X.cell 0 (by simp)
      have a0 : wr.cell? ⟨ac, 0, none⟩ = some (.func (.func 42) #[] #[.pointer (some ⟨pb, 0, none⟩), .pointer (some ⟨xc, 0, none⟩), .pointer (some ⟨ac, 0, none⟩), .pointer (some ⟨vc, 0, none⟩)]) := hec'.F.cell 0 (by simp)
      obtain ⟨bU, oU, rfl, gU⟩ := (hw0.ext hec'.D).gu j hju
      have xj := hx'.cell j (by omega)
      rw [hn'] at xj
      by_cases hle : (v : Int) ≤ nth u j
      · have hd : decide ((v : Int) ≤ nth u j) = true := decide_eq_true hle
        have HG := Lib.hid hg; have HL := Lib.hid hl'; have HT := Lib.hid ht'; have HN := Lib.hid hn'
        clear hg hl' ht' hn'
        have hbox : InBox u xs' (j + 1) := fun i hi => if e : i = j then by subst e; rw [HN.out]; omega else hxb.mono_take HT.out (by omega) (by have := HL.out; omega) i (by omega)
        have htk : xs'.take (j + 1) = xs.take j ++ [(v : Int)] := by rw [take_nth (by have := HL.out; omega), HT.out, HN.out]
        have hih : ∀ nq, _ := fun nq => ih (j + 1) (by have := HJ.out; omega) (wr.drewN nq) _ xs' (hec'.fr hap ((Fr.refl _ _).drewN nq)) (hx'.drewN nq) (by rw [HL.out, HXL.out]) hbox (hv.stable _ _ _ _ hinv' ((Fr.refl _ _).drewN nq))
        have ec : ((j + 1 : Nat) : Int) = (j : Int) + 1 := by push_cast; rfl
        rw [ec, htk, List.append_assoc, ← doneV_succ] at hih
        have HTK := Lib.hid htk; have hj0 : (0 : Int) ≤ j := by omega
        clear htk ec ih
        go_wp2_with fail
        go_quiet (fail)
        go_wp2_with (go_at_call 42; refine (hih _).mono ?_; rintro e w4 ⟨rfl, xs4, hx4, hl4, ht4, hinv4, hf4⟩; have hf5 := ((Fr.refl (fun k => V k ∨ k = xa) wr).drewN nq).trans hf4; have hec4 := hec'.fr hap hf5; have y0 : w4.cell? ⟨xc, 0, none⟩ = some (.slice (some ⟨xa, 0, none⟩) u.length u.length) := hec4.X.cell 0 (by simp); have HL4 := Lib.hid hl4; have HT4 := Lib.hid ht4; clear hl4 ht4; have yj : w4.cell? ⟨xa, j, none⟩ = some (.int .i64 v) := (by rw [hx4.cell j (by have := HL.out; have := HL4.out; omega), nth_take HT4.out (by omega) (by have := HL.out; have := HL4.out; omega) (by have := HL.out; omega), HN.out]); have yf := Blk.free hx4 j)
        go_roundg (gk - 1)
        case measure => have := HG.out; omega
        case rel =>
          have l4 : xs4.length = xs.length := by rw [HL4.out, HL.out]
          refine ⟨v + 1, by have := HG.out; omega, xs4.set j ((v : Int) + 1), hx4.set j _, by simpa using l4, ?_, ?_, hv.stable _ _ _ _ hinv4 ((Fr.refl (· = xa) w4).set (Or.inl rfl) _), (hfr.trans hf5).set (Or.inl (Or.inr rfl)) _⟩
          · rw [take_set, ← HT.out]
            have := congrArg (List.take j) HT4.out
            rwa [List.take_take, List.take_take, Nat.min_eq_left (by omega)] at this
          · rw [nth_set_eq (by omega)]; push_cast; rfl
      · have hd : decide ((v : Int) ≤ nth u j) = false := decide_eq_false hle
        have HG := Lib.hid hg; have HL := Lib.hid hl'; have HT := Lib.hid ht'; have HN := Lib.hid hn'
        clear hg hl' ht' hn'
        go_wp2_with fail
        go_quiet (fail)
        go_wp2_with fail
        go_end0
        have hv1 : v = (nth u j).toNat + 1 := by have := HG.out; omega
        rw [hv1, doneV_all, show nth u j :: u.drop (j + 1) = u.drop j by rw [nth_lt hju, ← List.drop_eq_getElem_cons hju]] at hinv'
        exact ⟨rfl, xs', hx'.drewN _, HL.out, HT.out, hv.stable _ _ _ _ hinv' ((Fr.refl _ _).drewN _), hfr.drewN _⟩
end Go.Proofs.Ytbdlfjhhgnhejaa
