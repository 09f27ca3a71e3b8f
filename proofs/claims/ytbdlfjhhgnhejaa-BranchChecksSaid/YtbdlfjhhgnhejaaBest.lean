/- slices.Clone; the two function values that each is handed; best, Solve, Count. -/
import Derived.Test.YtbdlfjhhgnhejaaEachAll
namespace Go.Proofs.Ytbdlfjhhgnhejaa
open Go.RowKit
set_option linter.unusedVariables false
set_option linter.unusedSimpArgs false

theorem ints_of_own {w : World} {base n : Nat} {v : Value} {xs : List Int} (h : w.ownsRow base 3 1 v n (xs.map (Value.int .i64))) (hn : 0 < n) : ∃ g cap, v = .slice (some ⟨g, 0, none⟩) xs.length cap ∧ base ≤ g ∧ g < w.heap.size ∧ Ints w (some ⟨g, 0, none⟩) xs := by
  have hl := h.1
  simp at hl
  obtain ⟨-, h2⟩ := id h
  rcases h2 with ⟨_, h0⟩ | ⟨g, cap, cur, rfl, hg, hh, _⟩
  · omega
  · subst hl
    refine ⟨g, cap, rfl, hg, lt_of_block hh, fun i hi => ⟨g, 0, rfl, ?_⟩⟩
    rw [Nat.zero_add, h.cellAt i (by omega)]; simp [nth, hi]

/-- A slice of ints held against nil. -/
theorem eqlNil (w : World) (a : Option Addr) (n c n' c' : Nat) : (binOp .eql 23 (.slice a n c) (.slice none n' c')).run Try.prog w = .ok (.bool a.isNone) w := Lib.run_eql_slice_nil w _ _ a n c n' c' Try.underlying23
theorem neqNil (w : World) (a : Option Addr) (n c n' c' : Nat) : (binOp .neq 23 (.slice a n c) (.slice none n' c')).run Try.prog w = .ok (.bool (!a.isNone)) w := run_neq_slice_nil_any w _ _ a n c n' c' Try.underlying23

set_option maxRecDepth 100000 in
set_option maxHeartbeats 1000000 in
theorem clone_calls (b c n : Nat) (xs : List Int) (w : World) (hn : xs.length = n) (h0 : 0 < n) (h1 : n ≤ 1000000) (hA : Ints w (some ⟨b, 0, none⟩) xs) :
    Calls Try.prog 41 #[.slice (some ⟨b, 0, none⟩) n c] w fun e w' => ∃ g cap, e = .returned (.slice (some ⟨g, 0, none⟩) n cap) ∧ w.heap.size ≤ g ∧ g < w'.heap.size ∧ Ints w' (some ⟨g, 0, none⟩) xs ∧ Below w.heap.size w w' := by
  obtain ⟨i0, hi, hz0, hz1, hz2⟩ := info_parts infoInt
  have q22 := eqlNil
  have A := Lib.hid hA
  have HN := Lib.hid hn
  clear hA hn
  go_enter Try.func41, Try.ntmps41
  go_wp2_with (at_builtin; refine wpList_append_own _ rfl _ _ 23 rfl w.heap.size 3 i0 (.int .i64 0) 1 8 Try.underlying23 hi hz0 hz1 hz2 rfl (by decide) _ _ _ rfl (World.ownsRow_made w #[] 0 (Nat.le_refl _) (Nat.zero_le _) rfl) ⟨b, 0, none⟩ n c (xs.map (Value.int .i64)) rfl ?qc1 ?qc2 ?qc3 ?qc4 ?qc5 ?qc6 ?_)
  case qc1 => rw [List.length_map, HN.out, Nat.mul_one]
  case qc2 =>
    intro j u hj
    have hjn : j < xs.length := by
      have := (List.getElem?_eq_some_iff.1 hj).1
      simpa using this
    obtain ⟨b', o', e', hc⟩ := A.out j hjn
    injection e' with e'
    injection e' with e1 e2
    subst e1; subst e2
    rw [Addr.add_lit]
    refine Lib.cell?_alloc_some _ ?_
    rw [hc]
    have e : (xs.map (Value.int .i64))[j]? = some (Value.int .i64 (nth xs j)) := by simp [nth_lt hjn, hjn]
    rw [e] at hj
    exact hj
  case qc3 => intro u hu; obtain ⟨x, _, rfl⟩ := List.mem_map.1 hu; rfl
  case qc4 => unfold maxLen; omega
  case qc5 => omega
  case qc6 => simp
  intro v' w1 hown hgrow hnil
  have hb := ((Below.refl _ w).alloc (Nat.le_refl _) _).grown hgrow (by simp) (by intro k hk; simp [Value.ownBlock] at hk; omega)
  obtain ⟨g, cap, rfl, hg1, hg2, hg3⟩ := ints_of_own (by simpa using hown) (by omega)
  go_wp2
  go_ret
  exact ⟨g, cap, by simp [HN.out], hg1, hg2, hg3, hb⟩

/-- How many of these vectors cost at most so much. -/
def cntL (c : List Int) (most : Int) (L : List (List Int)) : Nat := (L.filter fun x => decide (dotZ c x ≤ most)).length
theorem cntL_snoc (c : List Int) (most : Int) (L : List (List Int)) (x : List Int) : cntL c most (L ++ [x]) = cntL c most L + if dotZ c x ≤ most then 1 else 0 := by
  unfold cntL; rw [List.filter_append, List.length_append]; by_cases h : dotZ c x ≤ most <;> simp [List.filter_cons, h]
/-- What Count's function value keeps. -/
def CntInv (mb nb : Nat) (c : List Int) (most : Int) (xa : Nat) (L : List (List Int)) (w : World) : Prop :=
  Blk w mb [.int .i64 most] 3 ∧ Blk w nb [.int .i64 (wrap64 (cntL c most L))] 3 ∧ xa ≠ mb ∧ xa ≠ nb ∧ mb ≠ nb
theorem wrap_wrap (n : Int) : wrap64 (wrap64 n + 1) = wrap64 (n + 1) := by unfold wrap64; omega

set_option maxHeartbeats 400000 in
theorem count1_calls (mb nb : Nat) (c : List Int) (most : Int) (xa : Nat) (L : List (List Int)) (x : List Int) (v : Value) (w : World) (h : CntInv mb nb c most xa L w) :
    Calls Try.prog 30 #[v, .int .i64 (dotZ c x), .pointer (some ⟨mb, 0, none⟩), .pointer (some ⟨nb, 0, none⟩)] w fun e w' => e = .returned (.tuple #[]) ∧ CntInv mb nb c most xa (L ++ [x]) w' ∧ Fr (· = nb) w w' := by
  obtain ⟨h1, h2, h3, h4, h5⟩ := h
  have c1 : w.cell? ⟨mb, 0, none⟩ = some (.int .i64 most) := h1.cell 0 (by simp)
  have c2 : w.cell? ⟨nb, 0, none⟩ = some (.int .i64 (wrap64 (cntL c most L))) := h2.cell 0 (by simp)
  have f2 := h2.free 0
  have hs := cntL_snoc c most L x
  have HS := Lib.hid hs; clear hs
  by_cases hle : dotZ c x ≤ most
  · have hd : decide (dotZ c x ≤ most) = true := decide_eq_true hle
    go_enter Try.func30, Try.ntmps30
    go_wp2
    go_end0
    refine ⟨rfl, ⟨h1.other _ _ h5, ?_, h3, h4, h5⟩, (Fr.refl (· = nb) w).set (Or.inl rfl) _⟩
    rw [HS.out, if_pos hle]
    have e : wrap64 ((cntL c most L + 1 : Nat) : Int) = wrap64 (wrap64 (cntL c most L) + 1) := by push_cast; exact (wrap_wrap _).symm
    rw [e]
    exact h2.set 0 (.int .i64 (wrap64 (wrap64 (cntL c most L) + 1)))
  · have hd : decide (dotZ c x ≤ most) = false := decide_eq_false hle
    go_enter Try.func30, Try.ntmps30
    go_wp2
    go_end0
    exact ⟨rfl, ⟨h1, by rw [HS.out, if_neg (by omega), Nat.add_zero]; exact h2, h3, h4, h5⟩, Fr.refl _ _⟩

theorem count_visit (mb nb : Nat) (c u : List Int) (most : Int) : Visit 30 #[.pointer (some ⟨mb, 0, none⟩), .pointer (some ⟨nb, 0, none⟩)] (· = nb) (CntInv mb nb c most) c u where
  enters := fun _ _ => by kernel_rfl
  stable := fun xa L w w' ⟨h1, h2, h3, h4, h5⟩ hf => ⟨h1.fr hf (Ne.symm h3), h2.fr hf (Ne.symm h4), h3, h4, h5⟩
  call := fun xa L x w hi _ _ _ _ => count1_calls mb nb c most xa L x _ w hi

/-- The first of the cheapest vectors. -/
def bestL (c : List Int) : List (List Int) → Option (List Int)
  | [] => none
  | x :: l => some (l.foldl (fun m y => if dotZ c y < dotZ c m then y else m) x)
theorem bestL_snoc (c : List Int) (L : List (List Int)) (x : List Int) : bestL c (L ++ [x]) = match bestL c L with | none => some x | some m => some (if dotZ c x < dotZ c m then x else m) := by
  cases L with
  | nil => rfl
  | cons y l => simp [bestL, List.foldl_append]
/-- What lies in best's two variables. -/
def Kept (c : List Int) (n ob lb xa : Nat) (w : World) : Option (List Int) → Value → Int → Prop
  | none, v, l => v = .slice none 0 0 ∧ l = 0
  | some x, v, l => ∃ g cap, v = .slice (some ⟨g, 0, none⟩) n cap ∧ Ints w (some ⟨g, 0, none⟩) x ∧ x.length = n ∧ g < w.heap.size ∧ g ≠ ob ∧ g ≠ lb ∧ g ≠ xa ∧ l = dotZ c x
/-- What best's function value keeps. -/
def BestInv (ob lb : Nat) (c : List Int) (n : Nat) (xa : Nat) (L : List (List Int)) (w : World) : Prop :=
  ∃ v l, Blk w ob [v] 23 ∧ Blk w lb [.int .i64 l] 3 ∧ Kept c n ob lb xa w (bestL c L) v l ∧ xa ≠ ob ∧ xa ≠ lb ∧ ob ≠ lb
theorem Ints.fr {S : Nat → Prop} {w w' : World} {g : Nat} {x : List Int} (h : Ints w (some ⟨g, 0, none⟩) x) (hf : Fr S w w') (hg : g < w.heap.size) (hn : ¬ S g) : Ints w' (some ⟨g, 0, none⟩) x := fun i hi => by
  obtain ⟨b, o, e, hc⟩ := h i hi
  injection e with e; injection e with e1 e2; subst e1; subst e2
  exact ⟨g, 0, rfl, by rw [World.cell?_of_block (w := w) (hf.block g hg hn)]; exact hc⟩
theorem Kept.fr {S : Nat → Prop} {c : List Int} {n ob lb xa : Nat} {w w' : World} {o : Option (List Int)} {v : Value} {l : Int} (h : Kept c n ob lb xa w o v l) (hf : Fr S w w') (hS : ∀ g, S g → g = xa ∨ g = ob ∨ g = lb) : Kept c n ob lb xa w' o v l := by
  cases o with
  | none => exact h
  | some x =>
    obtain ⟨g, cap, h1, h2, h3, h4, h5, h6, h7, h8⟩ := h
    exact ⟨g, cap, h1, h2.fr hf h4 (fun hs => by rcases hS g hs with h | h | h; exact h7 h; exact h5 h; exact h6 h), h3, Nat.lt_of_lt_of_le h4 hf.size, h5, h6, h7, h8⟩

set_option maxHeartbeats 1000000 in
theorem best1_calls (ob lb : Nat) (c : List Int) (n cx : Nat) (xa : Nat) (L : List (List Int)) (x : List Int) (w : World) (h : BestInv ob lb c n xa L w) (hx : IBlk w xa x) (hl : x.length = n) (h0 : 0 < n) (h1 : n ≤ 1000000) :
    Calls Try.prog 40 #[.slice (some ⟨xa, 0, none⟩) n cx, .int .i64 (dotZ c x), .pointer (some ⟨ob, 0, none⟩), .pointer (some ⟨lb, 0, none⟩)] w fun e w' => e = .returned (.tuple #[]) ∧ BestInv ob lb c n xa (L ++ [x]) w' ∧ Fr (fun k => k = ob ∨ k = lb) w w' := by
  obtain ⟨v, l, b1, b2, hk, n1, n2, n3⟩ := h
  have c1 : w.cell? ⟨ob, 0, none⟩ = some v := b1.cell 0 (by simp)
  have c2 : w.cell? ⟨lb, 0, none⟩ = some (.int .i64 l) := b2.cell 0 (by simp)
  have f1 := b1.free 0
  have f2 := b2.free 0
  have l1 := b1.lt
  have l2 := b2.lt
  have q22 := eqlNil
  have hs := bestL_snoc c L x
  have hcl := clone_calls xa cx n x w hl h0 h1 hx.ints
  have keep : Kept c n ob lb xa w (some x) (.slice (some ⟨xa, 0, none⟩) n cx) (dotZ c x) → True := fun _ => trivial
  clear keep
  have fin : ∀ (w1 : World) (g cap : Nat), w.heap.size ≤ g → g < w1.heap.size → Ints w1 (some ⟨g, 0, none⟩) x → Below w.heap.size w w1 → bestL c (L ++ [x]) = some x →
      BestInv ob lb c n xa (L ++ [x]) ((w1.setCell ⟨ob, 0, none⟩ (.slice (some ⟨g, 0, none⟩) n cap)).setCell ⟨lb, 0, none⟩ (.int .i64 (dotZ c x))) ∧ Fr (fun k => k = ob ∨ k = lb) w ((w1.setCell ⟨ob, 0, none⟩ (.slice (some ⟨g, 0, none⟩) n cap)).setCell ⟨lb, 0, none⟩ (.int .i64 (dotZ c x))) := by
    intro w1 g cap g1 g2 hi hb1 hbe
    have lx : xa < w.heap.size := Blk.lt hx
    have hfr : Fr (fun k => k = ob ∨ k = lb) w1 ((w1.setCell ⟨ob, 0, none⟩ (.slice (some ⟨g, 0, none⟩) n cap)).setCell ⟨lb, 0, none⟩ (.int .i64 (dotZ c x))) := ((Fr.refl (fun k => k = ob ∨ k = lb) w1).set (Or.inl (Or.inl rfl)) _).set (Or.inl (Or.inr rfl)) _
    refine ⟨⟨_, _, (((b1.ext hb1).set 0 (.slice (some ⟨g, 0, none⟩) n cap)).other ⟨lb, 0, none⟩ (.int .i64 (dotZ c x)) n3), (((b2.ext hb1).other _ _ (Ne.symm n3)).set 0 (.int .i64 (dotZ c x))), ?_, n1, n2, n3⟩, (Fr.ofBelow hb1).trans hfr⟩
    rw [hbe]
    exact ⟨g, cap, rfl, hi.fr hfr g2 (by rintro (h | h) <;> omega), hl, by simpa using g2, by omega, by omega, by omega, rfl⟩
  have FIN := Lib.hid fin; have B1 := Lib.hid b1; have B2 := Lib.hid b2
  clear fin b1 b2
  cases hb : bestL c L with
  | none =>
    rw [hb] at hk hs
    obtain ⟨rfl, rfl⟩ := hk
    have HS := Lib.hid hs; have HB := Lib.hid hb; clear hs hb
    go_enter Try.func40, Try.ntmps40
    go_wp2_with (go_at_call 41; refine hcl.mono ?_; rintro e w1 ⟨g, cap, rfl, g1, g2, g3, hb1⟩; obtain ⟨hc1, hf1⟩ := bcell hb1)
    go_end0
    exact ⟨rfl, FIN.out w1 g cap g1 g2 g3 hb1 HS.out⟩
  | some m =>
    rw [hb] at hk hs
    obtain ⟨g0, cap0, rfl, k2, k3, k4, k5, k6, k7, rfl⟩ := hk
    by_cases hlt : dotZ c x < dotZ c m
    · have hd : decide (dotZ c x < dotZ c m) = true := decide_eq_true hlt
      simp only [if_pos hlt] at hs
      have HS := Lib.hid hs; have HB := Lib.hid hb; clear hs hb k3
      go_enter Try.func40, Try.ntmps40
      go_wp2_with (go_at_call 41; refine hcl.mono ?_; rintro e w1 ⟨g, cap, rfl, g1, g2, g3, hb1⟩; obtain ⟨hc1, hf1⟩ := bcell hb1)
      go_end0
      exact ⟨rfl, FIN.out w1 g cap g1 g2 g3 hb1 HS.out⟩
    · have hd : decide (dotZ c x < dotZ c m) = false := decide_eq_false hlt
      simp only [if_neg hlt] at hs
      have HS := Lib.hid hs; have HB := Lib.hid hb; have K3 := Lib.hid k3; clear hs hb k3
      go_enter Try.func40, Try.ntmps40
      go_wp2
      go_end0
      exact ⟨rfl, ⟨_, _, B1.out, B2.out, by rw [HS.out]; exact ⟨g0, cap0, rfl, k2, K3.out, k4, k5, k6, k7, rfl⟩, n1, n2, n3⟩, Fr.refl _ _⟩

theorem best_visit (ob lb : Nat) (c u : List Int) (h0 : 0 < u.length) (h1 : u.length ≤ 1000000) : Visit 40 #[.pointer (some ⟨ob, 0, none⟩), .pointer (some ⟨lb, 0, none⟩)] (fun k => k = ob ∨ k = lb) (BestInv ob lb c u.length) c u where
  enters := fun _ _ => by kernel_rfl
  stable := fun xa L w w' ⟨v, l, b1, b2, hk, n1, n2, n3⟩ hf => ⟨v, l, b1.fr hf (Ne.symm n1), b2.fr hf (Ne.symm n2), hk.fr hf (fun g hg => Or.inl hg), n1, n2, n3⟩
  call := fun xa L x w hi hx hl _ _ => best1_calls ob lb c u.length _ xa L x w hi hx hl h0 h1
end Go.Proofs.Ytbdlfjhhgnhejaa
