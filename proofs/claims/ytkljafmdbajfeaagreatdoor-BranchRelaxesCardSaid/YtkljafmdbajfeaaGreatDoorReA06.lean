/- branch.program.each's inner function, by induction on how many variables are left; and each itself. -/
import Derived.Test.YtkljafmdbajfeaaGreatDoorReA05
namespace Go.Proofs.YtkljafmdbajfeaaGreatDoor
open Go.RowKit
def AtPost (Inv : Nat → List (List Int) → World → Prop) (S : Nat → Prop) (xa j : Nat) (xs : List Int) (L : List (List Int)) (w : World) (e : Ending) (w' : World) : Prop :=
 e = .returned (.tuple #[]) ∧ ∃ xs', IBlk w' xa xs' ∧ xs'.length = xs.length ∧ xs'.take j = xs.take j ∧ Inv xa L w' ∧ Fr S w w'
theorem InBox.mono_take {u xs ys : List Int} {j : Nat} (h : InBox u xs j) (ht : ys.take j = xs.take j) (h1 : j ≤ xs.length) (h2 : j ≤ ys.length) : InBox u ys j := fun i hi => by
 rw [nth_take ht hi (by omega) (by omega)]; exact h i hi
set_option maxHeartbeats 2000000 in
theorem each_at {vid : FuncId} {vcaps : Array Value} {V : Nat → Prop} {Inv : Nat → List (List Int) → World → Prop} {w0 : World} {A B C U : Option Addr} {ca cb cc cu : Nat} {a : List (List Int)} {b c u : List Int} {pb xc xa ac vc : Nat}
  (hv : Visit vid vcaps V Inv c u) (hw0 : Who w0 A B C U a b c u) (hok : wholeOk a b c u = true) (hap : Apt w0 V pb xc xa ac vc) : ∀ (d j : Nat), j + d = u.length → ∀ (w : World) (L : List (List Int)) (xs : List Int),
  EC w0 w A B C U ca cb cc cu a b c u vid vcaps pb xc xa ac vc → IBlk w xa xs → xs.length = u.length → InBox u xs j → Inv xa L w →
  Calls Tryz.prog 192 #[.int .i64 j, .pointer (some ⟨pb, 0, none⟩), .pointer (some ⟨xc, 0, none⟩), .pointer (some ⟨ac, 0, none⟩), .pointer (some ⟨vc, 0, none⟩)] w (AtPost Inv (fun k => V k ∨ k = xa) xa j xs (L ++ compl a b (u.drop j) (xs.take j)) w) := by
 intro d
 induction d with
 | zero =>
   intro j hj w L xs hec hx hxl hxb hinv
   obtain rfl : j = u.length := by omega
   rw [List.drop_length, ← hxl, List.take_length]
   rw [hxl]
   refine (each_leaf hv hw0 hok hap L xs hec hx hxl hxb hinv).mono ?_
   rintro e w' ⟨he, xs', h1, h2, h3, h4, h5⟩
   exact ⟨he, xs', h1, h2, by rw [← hxl, h3, List.take_length], h4, h5⟩
 | succ d ih =>
   intro j hj w L xs hec hx hxl hxb hinv
   have hlu := hw0.lu; unfold maxLen at hlu
   have hju : j < u.length := by omega
   have hjx : j < xs.length := by omega
   have HJ := Lib.hid hj; have HXL := Lib.hid hxl
   clear hj hxl
   have p0 : w.cell? ⟨pb, 4, none⟩ = some (.int .i64 u.length) := hec.P.cell 4 (by simp)
   have x0 : w.cell? ⟨xc, 0, none⟩ = some (.slice (some ⟨xa, 0, none⟩) u.length u.length) := hec.X.cell 0 (by simp)
   have xj := hx.cell j hjx
   have fj := Blk.free hx j
   have hup : upOk u = true := by unfold wholeOk at hok; simp only [Bool.and_eq_true] at hok; exact hok.1.2
   have hm := (List.all_eq_true.1 hup) (nth u j) (nth_mem hju)
   simp at hm
   obtain ⟨hm0, hm7⟩ := hm
   have hdj : (j : Int) < u.length := by omega
   go_enter Tryz.func192, Tryz.ntmps192
   go_wp2_with fail
   go_loopg [15] ((nth u j).toNat + 1) (fun g _ wr => ∃ v : Nat, g + v = (nth u j).toNat + 1 ∧ ∃ xs', IBlk wr xa xs' ∧ xs'.length = xs.length ∧ xs'.take j = xs.take j ∧ nth xs' j = v ∧ Inv xa (L ++ doneV a b (u.drop (j + 1)) (xs.take j) v) wr ∧ Fr (fun k => V k ∨ k = xa) w wr)
   case atStart =>
    refine ⟨0, by omega, xs.set j 0, hx.set j 0, by simp, take_set 0, nth_set_eq hjx 0, ?_, (Fr.refl _ _).set (Or.inl (Or.inr rfl)) _⟩
    rw [doneV_zero, List.append_nil]
    exact hv.stable _ _ _ _ hinv ((Fr.refl (· = xa) w).set (Or.inl rfl) _)
   case round =>
    obtain ⟨v, hg, xs', hx', hl', ht', hn', hinv', hfr⟩ := hrel
    have hec' := hec.fr hap hfr
    clear xj fj x0 p0
    have p3 : wr.cell? ⟨pb, 3, none⟩ = some (.slice U u.length cu) := hec'.P.cell 3 (by simp)
    have x0 : wr.cell? ⟨xc, 0, none⟩ = some (.slice (some ⟨xa, 0, none⟩) u.length u.length) := hec'.X.cell 0 (by simp)
    have a0 : wr.cell? ⟨ac, 0, none⟩ = some (.func (.func 192) #[] #[.pointer (some ⟨pb, 0, none⟩), .pointer (some ⟨xc, 0, none⟩), .pointer (some ⟨ac, 0, none⟩), .pointer (some ⟨vc, 0, none⟩)]) := hec'.F.cell 0 (by simp)
    obtain ⟨bU, oU, rfl, gU⟩ := (hw0.ext hec'.D).gu j hju
    have xj := hx'.cell j (by omega)
    rw [hn'] at xj
    by_cases hle : (v : Int) ≤ nth u j
    ·have hd : decide ((v : Int) ≤ nth u j) = true := decide_eq_true hle
     have HG := Lib.hid hg; have HL := Lib.hid hl'; have HT := Lib.hid ht'; have HN := Lib.hid hn'
     clear hg hl' ht' hn'
     have hbox : InBox u xs' (j + 1) := fun i hi => if e : i = j then by subst e; rw [HN.out]; omega else hxb.mono_take HT.out (by omega) (by have := HL.out; omega) i (by omega)
     have htk : xs'.take (j + 1) = xs.take j ++ [(v : Int)] := by rw [take_nth (by have := HL.out; omega), HT.out, HN.out]
     have hih : ∀ nq, _ := fun nq => ih (j + 1) (by have := HJ.out; omega) (wr.drewN nq) _ xs' (hec'.fr hap ((Fr.refl _ _).drewN nq)) (hx'.drewN nq) (by rw [HL.out, HXL.out]) hbox (hv.stable _ _ _ _ hinv' ((Fr.refl _ _).drewN nq))
     have ec : ((j + 1 : Nat) : Int) = (j : Int) + 1 := by push_cast; rfl
     rw [ec, htk, List.append_assoc, ← doneV_succ] at hih
     have HTK := Lib.hid htk; have hj0 : (0 : Int) ≤ j := by omega
     clear htk ec ih
     go_wp2_with fail
     go_quiet (fail)
     go_wp2_with (go_at_call 192; refine (hih _).mono ?_; rintro e w4 ⟨rfl, xs4, hx4, hl4, ht4, hinv4, hf4⟩; have hf5 := ((Fr.refl (fun k => V k ∨ k = xa) wr).drewN nq).trans hf4; have hec4 := hec'.fr hap hf5; have y0 : w4.cell? ⟨xc, 0, none⟩ = some (.slice (some ⟨xa, 0, none⟩) u.length u.length) := hec4.X.cell 0 (by simp); have HL4 := Lib.hid hl4; have HT4 := Lib.hid ht4; clear hl4 ht4; have yj : w4.cell? ⟨xa, j, none⟩ = some (.int .i64 v) := (by rw [hx4.cell j (by have := HL.out; have := HL4.out; omega), nth_take HT4.out (by omega) (by have := HL.out; have := HL4.out; omega) (by have := HL.out; omega), HN.out]); have yf := Blk.free hx4 j)
     go_roundg (gk - 1)
     case measure => have := HG.out; omega
     case rel =>
      have l4 : xs4.length = xs.length := by rw [HL4.out, HL.out]
      refine ⟨v + 1, by have := HG.out; omega, xs4.set j ((v : Int) + 1), hx4.set j _, by simpa using l4, ?_, ?_, hv.stable _ _ _ _ hinv4 ((Fr.refl (· = xa) w4).set (Or.inl rfl) _), (hfr.trans hf5).set (Or.inl (Or.inr rfl)) _⟩
      ·rw [take_set, ← HT.out]
       have := congrArg (List.take j) HT4.out
       rwa [List.take_take, List.take_take, Nat.min_eq_left (by omega)] at this
      ·rw [nth_set_eq (by omega)]; push_cast; rfl
    ·have hd : decide ((v : Int) ≤ nth u j) = false := decide_eq_false hle
     have HG := Lib.hid hg; have HL := Lib.hid hl'; have HT := Lib.hid ht'; have HN := Lib.hid hn'
     clear hg hl' ht' hn'
     go_wp2_with fail
     go_quiet (fail)
     go_wp2_with fail
     go_end0
     have hv1 : v = (nth u j).toNat + 1 := by have := HG.out; omega
     rw [hv1, doneV_all, show nth u j :: u.drop (j + 1) = u.drop j by rw [nth_lt hju, ← List.drop_eq_getElem_cons hju]] at hinv'
     exact ⟨rfl, xs', hx'.drewN _, HL.out, HT.out, hv.stable _ _ _ _ hinv' ((Fr.refl _ _).drewN _), hfr.drewN _⟩
end Go.Proofs.YtkljafmdbajfeaaGreatDoor

/- tinplateref01.Valid and tinplateref02.Valid, Feasible: what they answer. -/
namespace Go.Proofs.YtkljafmdbajfeaaGreatDoor
open Go.RowKit
set_option maxHeartbeats 400000 in
theorem refWithin_calls (n m : Int) (w : World) (h0 : 0 ≤ m) (h1 : m ≤ 4611686018427387904) :
  Calls Tryz.prog 127 #[.int .i64 n, .int .i64 m] w fun e w' => e = .returned (.bool (inB m n)) ∧ w' = w := by
 by_cases h : -m ≤ n
 ·have hh : decide (-m ≤ n) = true := decide_eq_true h
  go_enter Tryz.func127, Tryz.ntmps127
  go_wp2
  go_ret
  exact ⟨by simp [inB, h], rfl⟩
 ·have hh : decide (-m ≤ n) = false := decide_eq_false h
  go_enter Tryz.func127, Tryz.ntmps127
  go_wp2
  go_ret
  exact ⟨by simp [inB, show ¬ (-m ≤ n) by omega], rfl⟩
theorem all_take_false {xs : List Int} {p : Int → Bool} {k : Nat} (hk : k < xs.length) (h : p (nth xs k) = false) : xs.all p = false := by
 rw [List.all_eq_false]; exact ⟨nth xs k, nth_mem hk, by simp [h]⟩
theorem all_of_nth {xs : List Int} {p : Int → Bool} (h : ∀ i, i < xs.length → p (nth xs i) = true) : xs.all p = true := by
 rw [List.all_eq_true]; intro x hx
 obtain ⟨i, hi, rfl⟩ := List.getElem_of_mem hx
 rw [← nth_lt hi]; exact h i hi
theorem all_rows_false {l : List (List Int)} {p : List Int → Bool} {k : Nat} (hk : k < l.length) (h : p (nrow l k) = false) : l.all p = false := by
 rw [List.all_eq_false]; exact ⟨nrow l k, nrow_mem hk, by simp [h]⟩
theorem all_of_nrow {l : List (List Int)} {p : List Int → Bool} (h : ∀ i, i < l.length → p (nrow l i) = true) : l.all p = true := by
 rw [List.all_eq_true]; intro x hx
 obtain ⟨i, hi, rfl⟩ := List.getElem_of_mem hx
 rw [← nrow_lt hi]; exact h i hi
set_option maxHeartbeats 400000 in
theorem costs_calls (A : Option Addr) (c : Nat) (xs : List Int) (n : Nat) (w : World) (hm : xs.length ≤ maxLen) (hn : n ≤ maxLen) (hA : Ints w A xs) :
  Calls Tryz.prog 67 #[.slice A xs.length c, .int .i64 n] w fun e w' => e = .returned (.bool (decide (xs.length = n) && listOk 1000 xs)) ∧ w' = w := by
 unfold maxLen at hm hn
 by_cases h : xs.length = n
 ·subst h
  have h2 : ((xs.length : Int) != (xs.length : Int)) = false := by simp
  go_enter Tryz.func67, Tryz.ntmps67
  go_wp2
  go_loop [5] (fun i => ∃ k : Nat, k ≤ xs.length ∧ i = .int .i64 k ∧ ∀ j, j < k → inB 1000 (nth xs j) = true) (fun i => xs.length - (intOf i).toNat)
  case atStart => exact ⟨0, Nat.zero_le _, rfl, fun j hj => by omega⟩
  case round =>
   obtain ⟨k, hk, rfl, hall⟩ := hrel
   by_cases hlt : k < xs.length
   ·obtain ⟨b, o, rfl, g⟩ := hA k hlt
    have HA := Lib.hid hall; clear hall
    cases hb : inB 1000 (nth xs k)
    ·have HB := Lib.hid hb
     go_wp2_with (go_at_call 127; refine (refWithin_calls _ 1000 _ (by omega) (by omega)).mono ?_; rw [HB.out]; rintro e w' ⟨rfl, rfl⟩)
     go_ret
     exact ⟨by unfold listOk; rw [all_take_false hlt HB.out]; simp, rfl⟩
    ·have HB := Lib.hid hb
     go_wp2_with (go_at_call 127; refine (refWithin_calls _ 1000 _ (by omega) (by omega)).mono ?_; rw [HB.out]; rintro e w' ⟨rfl, rfl⟩)
     go_round
     case rel => exact ⟨k + 1, by omega, by go_num, fun j hj => if e : j = k then by rw [e]; exact HB.out else HA.out j (by omega)⟩
     case measure => simp [intOf]; omega
   ·obtain rfl : k = xs.length := by omega
    have HA := Lib.hid hall; clear hall
    go_wp2
    go_ret
    exact ⟨by unfold listOk; rw [all_of_nth HA.out]; simp, rfl⟩
 ·have h2 : ((xs.length : Int) != (n : Int)) = true := by simp; omega
  have H := Lib.hid h; clear h
  go_enter Tryz.func67, Tryz.ntmps67
  go_wp2
  go_ret
  exact ⟨by simp [H.out], rfl⟩
set_option maxHeartbeats 1000000 in
theorem refRows_calls (A : Option Addr) (c : Nat) (l : List (List Int)) (n : Nat) (w : World) (hm : l.length ≤ maxLen) (hr : ∀ r ∈ l, r.length ≤ maxLen) (hn : n ≤ maxLen) (hA : Grid w A l) :
  Calls Tryz.prog 66 #[.slice A l.length c, .int .i64 n] w fun e w' => e = .returned (.bool (rowsOk l n)) ∧ w' = w := by
 unfold maxLen at hm hn
 by_cases h1 : 1 ≤ n
 ·have d1 : decide ((n : Int) < 1) = false := by simp; omega
  by_cases h2 : n ≤ 6
  ·have d2 : decide (6 < (n : Int)) = false := by simp; omega
   by_cases h3 : l.length ≤ 6
   ·have d3 : decide (6 < (l.length : Int)) = false := by simp; omega
    have hE : rowsOk l n = l.all (rowOk n) := by unfold rowsOk; simp [h1, h2, h3]
    have HE := Lib.hid hE; clear hE
    go_enter Tryz.func66, Tryz.ntmps66
    go_wp2
    go_loop [5, 6] (fun i _ => ∃ k : Nat, k ≤ l.length ∧ i = .int .i64 k ∧ ∀ j, j < k → rowOk n (nrow l j) = true) (fun i _ => l.length - (intOf i).toNat)
    case atStart => exact ⟨0, Nat.zero_le _, rfl, fun j hj => by omega⟩
    case round =>
     obtain ⟨k, hk, rfl, hall⟩ := hrel
     by_cases hlt : k < l.length
     ·obtain ⟨b, o, R, cR, rfl, g, _, hR⟩ := hA k hlt
      have hrl := hr _ (nrow_mem hlt)
      unfold maxLen at hrl
      have HA := Lib.hid hall; clear hall
      by_cases hln : (nrow l k).length = n
      ·have e1 : (((nrow l k).length : Int) != (n : Int)) = false := by simp [hln]
       have HL := Lib.hid hln; clear hln
       go_wp2
       go_loop [6] (fun i => ∃ t : Nat, t ≤ n ∧ i = .int .i64 t ∧ ∀ j, j < t → inB 30 (nth (nrow l k) j) = true) (fun i => n - (intOf i).toNat)
       case atStart => exact ⟨0, Nat.zero_le _, rfl, fun j hj => by omega⟩
       case round =>
        obtain ⟨t, ht, rfl, hat⟩ := hrel
        have HT := Lib.hid hat; clear hat
        by_cases htl : t < n
        ·have htr : t < (nrow l k).length := by rw [HL.out]; exact htl
         obtain ⟨b2, o2, rfl, g2⟩ := hR t htr
         have htr' : (t : Int) < ((nrow l k).length : Int) := by omega
         cases hb : inB 30 (nth (nrow l k) t)
         ·have HB := Lib.hid hb
          go_wp2_with (go_at_call 127; refine (refWithin_calls _ 30 _ (by omega) (by omega)).mono ?_; rw [HB.out]; rintro e w' ⟨rfl, rfl⟩)
          go_ret
          exact ⟨by rw [show rowsOk l n = false from by rw [HE.out]; exact all_rows_false hlt (by unfold rowOk listOk; rw [all_take_false htr HB.out]; simp)]; rfl, rfl⟩
         ·have HB := Lib.hid hb
          go_wp2_with (go_at_call 127; refine (refWithin_calls _ 30 _ (by omega) (by omega)).mono ?_; rw [HB.out]; rintro e w' ⟨rfl, rfl⟩)
          go_round
          case rel => exact ⟨t + 1, by omega, by go_num, fun j hj => if e : j = t then by rw [e]; exact HB.out else HT.out j (by omega)⟩
          case measure => simp [intOf]; omega
        ·obtain rfl : t = n := by omega
         go_wp2
         go_round
         case rel => exact ⟨k + 1, by omega, by go_num, fun j hj => if e : j = k then by rw [e]; unfold rowOk listOk; rw [all_of_nth (by rw [HL.out]; exact HT.out)]; simp [HL.out] else HA.out j (by omega)⟩
         case measure => simp [intOf]; omega
      ·have e1 : (((nrow l k).length : Int) != (n : Int)) = true := by simp; omega
       have HL := Lib.hid hln; clear hln
       go_wp2
       go_ret
       exact ⟨by rw [show rowsOk l n = false from by rw [HE.out]; exact all_rows_false hlt (by unfold rowOk; simp [HL.out])]; rfl, rfl⟩
     ·obtain rfl : k = l.length := by omega
      have HA := Lib.hid hall; clear hall
      go_wp2
      go_ret
      exact ⟨by rw [show rowsOk l n = true from by rw [HE.out]; exact all_of_nrow HA.out]; rfl, rfl⟩
   ·have d3 : decide (6 < (l.length : Int)) = true := by simp; omega
    go_enter Tryz.func66, Tryz.ntmps66
    go_wp2
    go_ret
    exact ⟨by simp [rowsOk]; omega, rfl⟩
  ·have d2 : decide (6 < (n : Int)) = true := by simp; omega
   go_enter Tryz.func66, Tryz.ntmps66
   go_wp2
   go_ret
   exact ⟨by simp [rowsOk]; omega, rfl⟩
 ·have d1 : decide ((n : Int) < 1) = true := by simp; omega
  go_enter Tryz.func66, Tryz.ntmps66
  go_wp2
  go_ret
  exact ⟨by simp [rowsOk]; omega, rfl⟩
theorem costs_simp (n : Nat) (b : Bool) : (decide (n = n) && b) = b := by simp
theorem progOk_ref (a : List (List Int)) (b c : List Int) : (rowsOk a c.length && listOk 1000 c && (decide (b.length = a.length) && listOk 1000 b)) = progOk a b c := by
 unfold progOk; cases rowsOk a c.length <;> cases listOk 1000 c <;> cases decide (b.length = a.length) <;> cases listOk 1000 b <;> rfl
set_option maxHeartbeats 1000000 in
theorem refValid_calls (A B C : Option Addr) (ca cb cc : Nat) (a : List (List Int)) (b c : List Int) (w : World) (h : Prog3 w A B C a b c) :
  Calls Tryz.prog 17 #[.agg #[.slice A a.length ca, .slice B b.length cb, .slice C c.length cc]] w fun e w' => e = .returned (.bool (progOk a b c)) ∧ Below w.heap.size w w' := by
 have hlb := h.lb; have hla := h.la; have hlc := h.lc; unfold maxLen at hlb hla hlc
 have hb0 : ∀ o, Below w.heap.size w (w.alloc o) := fun o => (Below.refl _ _).alloc (Nat.le_refl _) _
 have hE := progOk_ref a b c
 have HE := Lib.hid hE; clear hE
 cases h1 : rowsOk a c.length
 ·go_enter Tryz.func17, Tryz.ntmps17
  go_wp2_with (go_at_call 66; refine (refRows_calls _ _ a c.length _ h.la h.lr h.lc (h.ga.ext (hb0 _))).mono ?_; rintro e w1 ⟨rfl, rfl⟩)
  go_ret
  exact ⟨by rw [← HE.out, h1]; rfl, hb0 _⟩
 cases h2 : listOk 1000 c
 ·go_enter Tryz.func17, Tryz.ntmps17
  go_wp2_with fail
  refine (refRows_calls _ _ a c.length _ h.la h.lr h.lc (h.ga.ext (hb0 _))).mono ?_; rw [h1]; rintro e w1 ⟨rfl, rfl⟩
  go_wp2_with fail
  refine (costs_calls _ _ c c.length _ h.lc h.lc (h.gc.ext (hb0 _))).mono ?_; rw [h2, costs_simp]; rintro e w1 ⟨rfl, rfl⟩
  go_wp2
  go_ret
  exact ⟨by rw [← HE.out, h1, h2]; rfl, hb0 _⟩
 ·go_enter Tryz.func17, Tryz.ntmps17
  go_wp2_with fail
  refine (refRows_calls _ _ a c.length _ h.la h.lr h.lc (h.ga.ext (hb0 _))).mono ?_; rw [h1]; rintro e w1 ⟨rfl, rfl⟩
  go_wp2_with fail
  refine (costs_calls _ _ c c.length _ h.lc h.lc (h.gc.ext (hb0 _))).mono ?_; rw [h2, costs_simp]; rintro e w1 ⟨rfl, rfl⟩
  go_wp2_with fail
  refine (costs_calls _ _ b a.length _ h.lb h.la (h.gb.ext (hb0 _))).mono ?_; rintro e w1 ⟨rfl, rfl⟩
  go_wp2
  go_ret
  exact ⟨by rw [← HE.out, h1, h2]; rfl, hb0 _⟩
end Go.Proofs.YtkljafmdbajfeaaGreatDoor
