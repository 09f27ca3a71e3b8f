/- branch.program.each as a whole. -/
import Derived.Laws.EntriesVeiled
import Derived.Test.YtkljafmdbajfeaaGreatDoorReA06
namespace Go.Proofs.YtkljafmdbajfeaaGreatDoor
open Go.RowKit
def EachPost (V : Nat → Prop) (Inv : Nat → List (List Int) → World → Prop) (a : List (List Int)) (b u : List Int) (w : World) (e : Ending) (w' : World) : Prop :=
 e = .returned (.tuple #[]) ∧ ∃ xa, Inv xa ((box u).filter (feasB a b)) w' ∧ Fr V w w'
set_option maxHeartbeats 1000000 in
theorem each_calls {vid : FuncId} {vcaps : Array Value} {V : Nat → Prop} {Inv : Nat → List (List Int) → World → Prop} {w0 w : World} {A B C U : Option Addr} {ca cb cc cu : Nat} {a : List (List Int)} {b c u : List Int}
  (hv : Visit vid vcaps V Inv c u) (hw0 : Who w0 A B C U a b c u) (hok : wholeOk a b c u = true) (hB : Below w0.heap.size w0 w) (hV : ∀ k, V k → w0.heap.size ≤ k ∧ k < w.heap.size)
  (hinit : ∀ xa w1, w.heap.size ≤ xa → Below w.heap.size w w1 → Inv xa [] w1) :
  Calls Tryz.prog 156 #[.agg #[.slice A a.length ca, .slice B b.length cb, .slice C c.length cc, .slice U u.length cu, .int .i64 u.length], .func (.func vid) #[] vcaps] w (EachPost V Inv a b u w) := by
 have hul : u.length ≤ 5 := by
  unfold wholeOk at hok; simp only [Bool.and_eq_true, decide_eq_true_eq] at hok; omega
 have hsz := hB.size
 have hap : Apt w0 V w.heap.size (w.heap.size + 1 + 1 + 1) (w.heap.size + 1 + 1) (w.heap.size + 1 + 1 + 1 + 1) (w.heap.size + 1) := ⟨fun k hk => by have := hV k hk; omega, by omega⟩
 have hmk := fun w => run_makeInts w u.length (by omega)
 have hcf : ∀ args w1, (callFunc 192 args).run Tryz.prog w1 = .ok (.enter 192 args) w1 := fun _ _ => by kernel_rfl
 have hul' : u.length ≤ 9000000000000000000 := by omega
 go_enter Tryz.func156, Tryz.ntmps156
 have hat : ∀ w1, _ := fun w1 => each_at (ca := ca) (cb := cb) (cc := cc) (cu := cu) hv hw0 hok hap u.length 0 (by omega) w1 [] (zeros u.length)
 have hbel : ∀ o1 o2 o3 o4 o5, Below w.heap.size w (((((w.alloc o1).alloc o2).alloc o3).alloc o4).alloc o5) := fun o1 o2 o3 o4 o5 => (((((Below.refl _ _).alloc (Nat.le_refl _) _).alloc (by simp) _).alloc (by simp; omega) _).alloc (by simp; omega) _).alloc (by simp; omega) _
 go_wp2_with (go_at_call 192; refine (hat _ ?ec ?ib (zeros_len _) (fun i hi => by omega) (hinit _ _ (by omega) (hbel _ _ _ _ _))).mono ?rest; case' rest => rintro e w' ⟨rfl, xs', _, _, _, hinv, hf⟩)
 case ec => exact ⟨((((Blk.new' w [.slice A a.length ca, .slice B b.length cb, .slice C c.length cc, .slice U u.length cu, .int .i64 u.length] _ _ rfl).alloc _).alloc _).alloc _).alloc _, (Blk.new' _ [.slice (some ⟨w.heap.size + 1 + 1, 0, none⟩) u.length u.length] _ _ (by simp)).alloc _,
   Blk.new' _ [_] _ _ (by simp), (((Blk.new' _ [.func (.func vid) #[] vcaps] _ _ (by simp)).alloc _).alloc _).alloc _, hB.trans ((hbel _ _ _ _ _).mono hsz)⟩
 case ib => exact ((IBlk.made' _ _ _ (by simp)).alloc _).alloc _
 ·go_end0
  refine ⟨rfl, w.heap.size + 1 + 1, ?_, ?_⟩
  ·have e := compl_root a b u
   rw [List.nil_append, List.drop_zero, List.take_zero, e] at hinv
   exact hinv
  ·exact ⟨hf.os.trans (hbel _ _ _ _ _).os, hf.tape.trans (hbel _ _ _ _ _).tape, hf.output.trans (hbel _ _ _ _ _).output, Nat.le_trans (hbel _ _ _ _ _).size hf.size, fun k hk hv => (hf.block k (Nat.lt_of_lt_of_le hk (hbel _ _ _ _ _).size) (by rintro (h | h); exact hv h; omega)).trans ((hbel _ _ _ _ _).block k hk)⟩
end Go.Proofs.YtkljafmdbajfeaaGreatDoor

/- slices.Clone; the two function values that each is handed; best, Solve, Count. -/
namespace Go.Proofs.YtkljafmdbajfeaaGreatDoor
open Go.RowKit
set_option linter.unusedVariables false
set_option linter.unusedSimpArgs false
theorem ints_of_own {w : World} {base n : Nat} {v : Value} {xs : List Int} (h : w.ownsRow base 3 1 v n (xs.map (Value.int .i64))) (hn : 0 < n) : ∃ g cap, v = .slice (some ⟨g, 0, none⟩) xs.length cap ∧ base ≤ g ∧ g < w.heap.size ∧ Ints w (some ⟨g, 0, none⟩) xs := by
 have hl := h.1
 simp at hl
 obtain ⟨-, h2⟩ := id h
 rcases h2 with ⟨_, h0⟩ | ⟨g, cap, cur, rfl, hg, hh, _⟩
 ·omega
 ·subst hl
  refine ⟨g, cap, rfl, hg, lt_of_block hh, fun i hi => ⟨g, 0, rfl, ?_⟩⟩
  rw [Nat.zero_add, h.cellAt i (by omega)]; simp [nth, hi]
theorem eqlNil (w : World) (a : Option Addr) (n c n' c' : Nat) : (binOp .eql 23 (.slice a n c) (.slice none n' c')).run Tryz.prog w = .ok (.bool a.isNone) w := Lib.run_eql_slice_nil w _ _ a n c n' c' Tryz.underlying23
theorem neqNil (w : World) (a : Option Addr) (n c n' c' : Nat) : (binOp .neq 23 (.slice a n c) (.slice none n' c')).run Tryz.prog w = .ok (.bool (!a.isNone)) w := run_neq_slice_nil_any w _ _ a n c n' c' Tryz.underlying23
set_option maxRecDepth 100000 in
set_option maxHeartbeats 1000000 in
theorem clone_calls (b c n : Nat) (xs : List Int) (w : World) (hn : xs.length = n) (h0 : 0 < n) (h1 : n ≤ 1000000) (hA : Ints w (some ⟨b, 0, none⟩) xs) :
  Calls Tryz.prog 158 #[.slice (some ⟨b, 0, none⟩) n c] w fun e w' => ∃ g cap, e = .returned (.slice (some ⟨g, 0, none⟩) n cap) ∧ w.heap.size ≤ g ∧ g < w'.heap.size ∧ Ints w' (some ⟨g, 0, none⟩) xs ∧ Below w.heap.size w w' := by
 obtain ⟨i0, hi, hz0, hz1, hz2⟩ := info_parts infoInt
 have q22 := eqlNil
 have A := Lib.hid hA
 have HN := Lib.hid hn
 clear hA hn
 go_enter Tryz.func158, Tryz.ntmps158
 go_wp2_with (at_builtin; refine wpList_append_own _ rfl _ _ 23 rfl w.heap.size 3 i0 (.int .i64 0) 1 8 Tryz.underlying23 hi hz0 hz1 hz2 rfl (by decide) _ _ _ rfl (World.ownsRow_made w #[] 0 (Nat.le_refl _) (Nat.zero_le _) rfl) ⟨b, 0, none⟩ n c (xs.map (Value.int .i64)) rfl ?qc1 ?qc2 ?qc3 ?qc4 ?qc5 ?qc6 ?_)
 case qc1 => rw [List.length_map, HN.out, Nat.mul_one]
 case qc2 =>
  intro j u hj
  have hjn : j < xs.length := by
   have := (List.getElem?_eq_some_iff.1 hj).1
   simpa using this
  obtain ⟨b', o', e', hc⟩ := A.out j hjn
  injection e' with e'
  injection e' with e1 e2
  subst e1; subst e2
  rw [Addr.add_lit]
  refine Lib.cell?_alloc_some _ ?_
  rw [hc]
  have e : (xs.map (Value.int .i64))[j]? = some (Value.int .i64 (nth xs j)) := by simp [nth_lt hjn, hjn]
  rw [e] at hj
  exact hj
 case qc3 => intro u hu; obtain ⟨x, _, rfl⟩ := List.mem_map.1 hu; rfl
 case qc4 => unfold maxLen; omega
 case qc5 => omega
 case qc6 => simp
 intro v' w1 hown hgrow hnil
 have hb := ((Below.refl _ w).alloc (Nat.le_refl _) _).grown hgrow (by simp) (by intro k hk; simp [Value.ownBlock] at hk; omega)
 obtain ⟨g, cap, rfl, hg1, hg2, hg3⟩ := ints_of_own (by simpa using hown) (by omega)
 go_wp2
 go_ret
 exact ⟨g, cap, by simp [HN.out], hg1, hg2, hg3, hb⟩
def bestL (c : List Int) : List (List Int) → Option (List Int)
 | [] => none
 | x :: l => some (l.foldl (fun m y => if dotZ c y < dotZ c m then y else m) x)
theorem bestL_snoc (c : List Int) (L : List (List Int)) (x : List Int) : bestL c (L ++ [x]) = match bestL c L with | none => some x | some m => some (if dotZ c x < dotZ c m then x else m) := by
 cases L with
 | nil => rfl
 | cons y l => simp [bestL, List.foldl_append]
def Kept (c : List Int) (n ob lb xa : Nat) (w : World) : Option (List Int) → Value → Int → Prop
 | none, v, l => v = .slice none 0 0 ∧ l = 0
 | some x, v, l => ∃ g cap, v = .slice (some ⟨g, 0, none⟩) n cap ∧ Ints w (some ⟨g, 0, none⟩) x ∧ x.length = n ∧ g < w.heap.size ∧ g ≠ ob ∧ g ≠ lb ∧ g ≠ xa ∧ l = dotZ c x
def BestInv (ob lb : Nat) (c : List Int) (n : Nat) (xa : Nat) (L : List (List Int)) (w : World) : Prop :=
 ∃ v l, Blk w ob [v] 23 ∧ Blk w lb [.int .i64 l] 3 ∧ Kept c n ob lb xa w (bestL c L) v l ∧ xa ≠ ob ∧ xa ≠ lb ∧ ob ≠ lb
theorem Ints.fr {S : Nat → Prop} {w w' : World} {g : Nat} {x : List Int} (h : Ints w (some ⟨g, 0, none⟩) x) (hf : Fr S w w') (hg : g < w.heap.size) (hn : ¬ S g) : Ints w' (some ⟨g, 0, none⟩) x := fun i hi => by
 obtain ⟨b, o, e, hc⟩ := h i hi
 injection e with e; injection e with e1 e2; subst e1; subst e2
 exact ⟨g, 0, rfl, by rw [World.cell?_of_block (w := w) (hf.block g hg hn)]; exact hc⟩
theorem Kept.fr {S : Nat → Prop} {c : List Int} {n ob lb xa : Nat} {w w' : World} {o : Option (List Int)} {v : Value} {l : Int} (h : Kept c n ob lb xa w o v l) (hf : Fr S w w') (hS : ∀ g, S g → g = xa ∨ g = ob ∨ g = lb) : Kept c n ob lb xa w' o v l := by
 cases o with
 | none => exact h
 | some x =>
   obtain ⟨g, cap, h1, h2, h3, h4, h5, h6, h7, h8⟩ := h
   exact ⟨g, cap, h1, h2.fr hf h4 (fun hs => by rcases hS g hs with h | h | h; exact h7 h; exact h5 h; exact h6 h), h3, Nat.lt_of_lt_of_le h4 hf.size, h5, h6, h7, h8⟩
set_option maxHeartbeats 1000000 in
theorem best1_calls (ob lb : Nat) (c : List Int) (n cx : Nat) (xa : Nat) (L : List (List Int)) (x : List Int) (w : World) (h : BestInv ob lb c n xa L w) (hx : IBlk w xa x) (hl : x.length = n) (h0 : 0 < n) (h1 : n ≤ 1000000) :
  Calls Tryz.prog 157 #[.slice (some ⟨xa, 0, none⟩) n cx, .int .i64 (dotZ c x), .pointer (some ⟨ob, 0, none⟩), .pointer (some ⟨lb, 0, none⟩)] w fun e w' => e = .returned (.tuple #[]) ∧ BestInv ob lb c n xa (L ++ [x]) w' ∧ Fr (fun k => k = ob ∨ k = lb) w w' := by
 obtain ⟨v, l, b1, b2, hk, n1, n2, n3⟩ := h
 have c1 : w.cell? ⟨ob, 0, none⟩ = some v := b1.cell 0 (by simp)
 have c2 : w.cell? ⟨lb, 0, none⟩ = some (.int .i64 l) := b2.cell 0 (by simp)
 have f1 := b1.free 0
 have f2 := b2.free 0
 have l1 := b1.lt
 have l2 := b2.lt
 have q22 := eqlNil
 have hs := bestL_snoc c L x
 have hcl := clone_calls xa cx n x w hl h0 h1 hx.ints
 have keep : Kept c n ob lb xa w (some x) (.slice (some ⟨xa, 0, none⟩) n cx) (dotZ c x) → True := fun _ => trivial
 clear keep
 have fin : ∀ (w1 : World) (g cap : Nat), w.heap.size ≤ g → g < w1.heap.size → Ints w1 (some ⟨g, 0, none⟩) x → Below w.heap.size w w1 → bestL c (L ++ [x]) = some x →
   BestInv ob lb c n xa (L ++ [x]) ((w1.setCell ⟨ob, 0, none⟩ (.slice (some ⟨g, 0, none⟩) n cap)).setCell ⟨lb, 0, none⟩ (.int .i64 (dotZ c x))) ∧ Fr (fun k => k = ob ∨ k = lb) w ((w1.setCell ⟨ob, 0, none⟩ (.slice (some ⟨g, 0, none⟩) n cap)).setCell ⟨lb, 0, none⟩ (.int .i64 (dotZ c x))) := by
  intro w1 g cap g1 g2 hi hb1 hbe
  have lx : xa < w.heap.size := Blk.lt hx
  have hfr : Fr (fun k => k = ob ∨ k = lb) w1 ((w1.setCell ⟨ob, 0, none⟩ (.slice (some ⟨g, 0, none⟩) n cap)).setCell ⟨lb, 0, none⟩ (.int .i64 (dotZ c x))) := ((Fr.refl (fun k => k = ob ∨ k = lb) w1).set (Or.inl (Or.inl rfl)) _).set (Or.inl (Or.inr rfl)) _
  refine ⟨⟨_, _, (((b1.ext hb1).set 0 (.slice (some ⟨g, 0, none⟩) n cap)).other ⟨lb, 0, none⟩ (.int .i64 (dotZ c x)) n3), (((b2.ext hb1).other _ _ (Ne.symm n3)).set 0 (.int .i64 (dotZ c x))), ?_, n1, n2, n3⟩, (Fr.ofBelow hb1).trans hfr⟩
  rw [hbe]
  exact ⟨g, cap, rfl, hi.fr hfr g2 (by rintro (h | h) <;> omega), hl, by simpa using g2, by omega, by omega, by omega, rfl⟩
 have FIN := Lib.hid fin; have B1 := Lib.hid b1; have B2 := Lib.hid b2
 clear fin b1 b2
 cases hb : bestL c L with
 | none =>
   rw [hb] at hk hs
   obtain ⟨rfl, rfl⟩ := hk
   have HS := Lib.hid hs; have HB := Lib.hid hb; clear hs hb
   go_enter Tryz.func157, Tryz.ntmps157
   go_wp2_with (go_at_call 158; refine hcl.mono ?_; rintro e w1 ⟨g, cap, rfl, g1, g2, g3, hb1⟩; obtain ⟨hc1, hf1⟩ := bcell hb1)
   go_end0
   exact ⟨rfl, FIN.out w1 g cap g1 g2 g3 hb1 HS.out⟩
 | some m =>
   rw [hb] at hk hs
   obtain ⟨g0, cap0, rfl, k2, k3, k4, k5, k6, k7, rfl⟩ := hk
   by_cases hlt : dotZ c x < dotZ c m
   ·have hd : decide (dotZ c x < dotZ c m) = true := decide_eq_true hlt
    simp only [if_pos hlt] at hs
    have HS := Lib.hid hs; have HB := Lib.hid hb; clear hs hb k3
    go_enter Tryz.func157, Tryz.ntmps157
    go_wp2_with (go_at_call 158; refine hcl.mono ?_; rintro e w1 ⟨g, cap, rfl, g1, g2, g3, hb1⟩; obtain ⟨hc1, hf1⟩ := bcell hb1)
    go_end0
    exact ⟨rfl, FIN.out w1 g cap g1 g2 g3 hb1 HS.out⟩
   ·have hd : decide (dotZ c x < dotZ c m) = false := decide_eq_false hlt
    simp only [if_neg hlt] at hs
    have HS := Lib.hid hs; have HB := Lib.hid hb; have K3 := Lib.hid k3; clear hs hb k3
    go_enter Tryz.func157, Tryz.ntmps157
    go_wp2
    go_end0
    exact ⟨rfl, ⟨_, _, B1.out, B2.out, by rw [HS.out]; exact ⟨g0, cap0, rfl, k2, K3.out, k4, k5, k6, k7, rfl⟩, n1, n2, n3⟩, Fr.refl _ _⟩
theorem best_visit (ob lb : Nat) (c u : List Int) (h0 : 0 < u.length) (h1 : u.length ≤ 1000000) : Visit 157 #[.pointer (some ⟨ob, 0, none⟩), .pointer (some ⟨lb, 0, none⟩)] (fun k => k = ob ∨ k = lb) (BestInv ob lb c u.length) c u where
 enters := fun _ _ => by kernel_rfl
 stable := fun xa L w w' ⟨v, l, b1, b2, hk, n1, n2, n3⟩ hf => ⟨v, l, b1.fr hf (Ne.symm n1), b2.fr hf (Ne.symm n2), hk.fr hf (fun g hg => Or.inl hg), n1, n2, n3⟩
 call := fun xa L x w hi hx hl _ _ => best1_calls ob lb c u.length _ xa L x w hi hx hl h0 h1
end Go.Proofs.YtkljafmdbajfeaaGreatDoor

/- branch.program.best, branch.Solve, branch.Count: what they answer. -/
namespace Go.Proofs.YtkljafmdbajfeaaGreatDoor
open Go.RowKit
def feasL (a : List (List Int)) (b u : List Int) : List (List Int) := (box u).filter (feasB a b)
def BestRes (c : List Int) (n : Nat) (w' : World) : Option (List Int) → Ending → Prop
 | none, e => e = .returned (.tuple #[.slice none 0 0, .int .i64 0, .bool false])
 | some x, e => ∃ g cap, e = .returned (.tuple #[.slice (some ⟨g, 0, none⟩) n cap, .int .i64 (dotZ c x), .bool true]) ∧ x.length = n ∧ Ints w' (some ⟨g, 0, none⟩) x
def BestPost (a : List (List Int)) (b c u : List Int) (w : World) (e : Ending) (w' : World) : Prop := BestRes c u.length w' (bestL c (feasL a b u)) e ∧ Below w.heap.size w w'
theorem wholeOk_len {a : List (List Int)} {b c u : List Int} (h : wholeOk a b c u = true) : u.length = c.length ∧ 0 < u.length ∧ u.length ≤ 5 := by
 unfold wholeOk at h; simp only [Bool.and_eq_true, decide_eq_true_eq] at h
 have := (progOk_parts h.2).1
 omega
set_option maxRecDepth 100000 in
set_option maxHeartbeats 1000000 in
theorem best_calls {w : World} {A B C U : Option Addr} {ca cb cc cu : Nat} {a : List (List Int)} {b c u : List Int} (hw : Who w A B C U a b c u) (hok : wholeOk a b c u = true) :
  Calls Tryz.prog 108 #[.agg #[.slice A a.length ca, .slice B b.length cb, .slice C c.length cc, .slice U u.length cu, .int .i64 u.length]] w (BestPost a b c u w) := by
 obtain ⟨hul, h0, h5⟩ := wholeOk_len hok
 have hv := best_visit (w.heap.size + 1) (w.heap.size + 1 + 1) c u h0 (by omega)
 have hbel : ∀ o1 o2 o3, Below w.heap.size w (((w.alloc o1).alloc o2).alloc o3) := fun o1 o2 o3 => (((Below.refl _ _).alloc (Nat.le_refl _) _).alloc (by simp) _).alloc (by simp; omega) _
 have hea : ∀ o1, _ := fun o1 => each_calls (ca := ca) (cb := cb) (cc := cc) (cu := cu) (w0 := w) (w := ((w.alloc o1).alloc (.cells #[.slice none 0 0] 23 (0, 0))).alloc (.cells #[.int .i64 0] 3 (0, 0))) hv hw hok (hbel _ _ _) (by rintro k (h | h) <;> simp <;> omega)
  (fun xa w1 hxa hb1 => ⟨_, _, ((Blk.new' _ [.slice none 0 0] _ _ (by simp)).alloc _).ext hb1, (Blk.new' _ [.int .i64 0] _ _ (by simp)).ext hb1, ⟨rfl, rfl⟩, by simp at hxa; omega, by simp at hxa; omega, by omega⟩)
 have q23 := neqNil
 have HU := Lib.hid hul; clear hul
 go_enter Tryz.func108, Tryz.ntmps108
 go_wp2_with fail
 refine (hea _).mono ?_; rintro e w4 ⟨rfl, xa, ⟨v, l, b1, b2, hk, _, _, _⟩, hf⟩
 have hbe : Below w.heap.size w w4 := ((hbel _ _ _).trans (hf.below (by rintro k (h | h) <;> omega) (by simp; omega)))
 have c1 : w4.cell? ⟨w.heap.size + 1, 0, none⟩ = some v := b1.cell 0 (by simp)
 have c2 : w4.cell? ⟨w.heap.size + 1 + 1, 0, none⟩ = some (.int .i64 l) := b2.cell 0 (by simp)
 clear hea hbel b1 b2 hv
 cases hb : bestL c ((box u).filter (feasB a b)) with
 | none =>
   rw [hb] at hk
   obtain ⟨rfl, rfl⟩ := hk
   have HB := Lib.hid hb; clear hb
   go_wp2_with fail
   go_quiet (fail)
   go_wp2
   go_ret3
   exact ⟨by unfold feasL; rw [HB.out]; exact rfl, hbe.trans ((drewN_below _ _).mono hbe.size)⟩
 | some x =>
   rw [hb] at hk
   obtain ⟨g, cap, rfl, k2, k3, k4, k5, k6, k7, rfl⟩ := hk
   have HB := Lib.hid hb; have K3 := Lib.hid k3; clear hb k3
   go_wp2_with fail
   go_quiet (fail)
   go_wp2
   go_ret3
   exact ⟨by unfold feasL; rw [HB.out]; exact ⟨g, cap, rfl, K3.out, k2.ext (drewN_below _ _)⟩, hbe.trans ((drewN_below _ _).mono hbe.size)⟩
theorem best_at {w : World} {A B C U : Option Addr} {ca cb cc cu : Nat} {a : List (List Int)} {b c u : List Int} (hw : Who w A B C U a b c u) (hok : wholeOk a b c u = true) (n : Nat) (hn : u.length = n) :
  Calls Tryz.prog 108 #[.agg #[.slice A a.length ca, .slice B b.length cb, .slice C c.length cc, .slice U u.length cu, .int .i64 n]] w (BestPost a b c u w) := by
 rw [← hn]; exact best_calls hw hok
def SolveRes (a : List (List Int)) (b c u : List Int) (w' : World) (e : Ending) : Prop :=
 if wholeOk a b c u then match bestL c (feasL a b u) with
  | none => e = .returned (.tuple #[.slice none 0 0, .int .i64 0, .int .i64 10])
  | some x => ∃ g cap, e = .returned (.tuple #[.slice (some ⟨g, 0, none⟩) u.length cap, .int .i64 (dotZ c x), .int .i64 0]) ∧ x.length = u.length ∧ Ints w' (some ⟨g, 0, none⟩) x
 else e = .returned (.tuple #[.slice none 0 0, .int .i64 0, .int .i64 2])
def SolvePost (a : List (List Int)) (b c u : List Int) (w : World) (e : Ending) (w' : World) : Prop := SolveRes a b c u w' e ∧ Below w.heap.size w w'
set_option maxRecDepth 100000 in
set_option maxHeartbeats 1000000 in
theorem solve_calls {w : World} {A B C U : Option Addr} {ca cb cc cu : Nat} {a : List (List Int)} {b c u : List Int} (hw : Who w A B C U a b c u) :
  Calls Tryz.prog 49 #[.agg #[.slice A a.length ca, .slice B b.length cb, .slice C c.length cc, .slice U u.length cu]] w (SolvePost a b c u w) := by
 have hb0 : ∀ o, Below w.heap.size w (w.alloc o) := fun o => (Below.refl _ _).alloc (Nat.le_refl _) _
 have hof : ∀ o, _ := fun o => of_calls A B C U ca cb cc cu a b c u (w.alloc o) (hw.ext (hb0 _))
 cases hok : wholeOk a b c u with
 | false =>
   unfold ofVal at hof
   rw [hok] at hof
   have HO := Lib.hid hok; clear hok
   go_enter Tryz.func49, Tryz.ntmps49
   go_wp2_with fail
   refine (hof _).mono ?_; rintro e w1 ⟨rfl, hb1⟩
   have hx1 := ext_trans (hb0 _) hb1
   go_wp2
   go_ret3
   exact ⟨by unfold SolveRes; rw [HO.out]; exact rfl, by first | exact hx1.alloc (by have := hx1.size; omega) _ | (repeat' (refine Below.setCell ?_ (by dsimp only; have := hx1.size; omega) _); exact hx1.alloc (by have := hx1.size; omega) _)⟩
 | true =>
   obtain ⟨hul, h0, h5⟩ := wholeOk_len hok
   unfold ofVal at hof
   rw [hok] at hof
   have hbe : ∀ w2, Below w.heap.size w w2 → _ := fun w2 h => best_at (ca := ca) (cb := cb) (cc := cc) (cu := cu) (hw.ext h) hok c.length hul
   have HU := Lib.hid hul; clear hul
   have HO := Lib.hid hok; clear hok
   go_enter Tryz.func49, Tryz.ntmps49
   go_wp2_with fail
   refine (hof _).mono ?_; rintro e w1 ⟨rfl, hb1⟩
   have hx1 := ext_trans (hb0 _) hb1
   have hs1 := hx1.size
   clear hof
   go_wp2_with fail
   refine (hbe _ (hx1.alloc hs1 _)).mono ?_; rintro e w3 ⟨hr, hb3⟩
   have hall : Below w.heap.size w w3 := (hx1.alloc hs1 _).trans (hb3.mono (by simp; omega))
   clear hbe
   cases hb : bestL c (feasL a b u) with
   | none =>
     rw [hb] at hr
     obtain rfl := hr
     have HB := Lib.hid hb; clear hb
     go_wp2
     go_ret3
     exact ⟨by unfold SolveRes; rw [HO.out, HB.out]; exact rfl, hall⟩
   | some x =>
     rw [hb] at hr
     obtain ⟨g, cap, rfl, k1, k2⟩ := hr
     have HB := Lib.hid hb; have K1 := Lib.hid k1; clear hb k1
     go_wp2
     go_ret3
     exact ⟨by unfold SolveRes; rw [HO.out, HB.out]; exact ⟨g, cap, rfl, K1.out, k2⟩, hall⟩
end Go.Proofs.YtkljafmdbajfeaaGreatDoor
