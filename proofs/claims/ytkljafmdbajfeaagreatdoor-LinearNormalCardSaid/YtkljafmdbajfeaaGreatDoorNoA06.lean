/- The rows of a lattice are reduced by those behind them, one by one. Plain mathematics. -/
import Derived.Test.YtkljafmdbajfeaaGreatDoorNoA00
import Derived.Test.YtkljafmdbajfeaaGreatDoorNoA02
import Derived.Test.YtkljafmdbajfeaaGreatDoorNoA05
namespace Go.Proofs.YtkljafmdbajfeaaGreatDoor.Lp
set_option linter.unusedVariables false
set_option linter.unusedSimpArgs false
structure TidyAt (n X : Nat) (L0 L : Lt) (P : Nat) : Prop where
  ech : Ech n L
  same : ∀ q, (L q).isSome = (L0 q).isSome
  gen : ∀ x, Gen (From L 0) x ↔ Gen (From L0 0) x
  red : ∀ p r q s, L p = some r → L q = some s → q < p → p < P → 0 ≤ s p ∧ s p < r p
  keep : ∀ p, P ≤ p → L p = L0 p
  bd : Bd (lv X (cnt L0 P)) L
structure TidyIn (n X : Nat) (L0 L : Lt) (p Q : Nat) : Prop where
  ech : Ech n L
  same : ∀ q, (L q).isSome = (L0 q).isSome
  gen : ∀ x, Gen (From L 0) x ↔ Gen (From L0 0) x
  red : ∀ a r q s, L a = some r → L q = some s → q < a → a < p → 0 ≤ s a ∧ s a < r a
  keep : ∀ a, p ≤ a → L a = L0 a
  bd : Bd (lv X (cnt L0 p + 1)) L
  rest : ∀ q s, Q ≤ q → L q = some s → BdV (lv X (cnt L0 p)) s
  here : ∀ q s r, q < Q → q < p → L q = some s → L p = some r → 0 ≤ s p ∧ s p < r p
theorem TidyAt.start {n X : Nat} {L : Lt} (h : Ech n L) (hb : Bd X L) : TidyAt n X L L 0 :=
  ⟨h, fun q => rfl, fun x => Iff.rfl, fun p r q s _ _ _ h => by omega, fun p _ => rfl, hb⟩
theorem TidyAt.into {n X P p : Nat} {L0 L : Lt} (h : TidyAt n X L0 L P) (hX : 0 < X) (hP : P ≤ p) (hno : ∀ q, P ≤ q → q < p → L q = none) : TidyIn n X L0 L p 0 := by
  have hm : lv X (cnt L0 P) ≤ lv X (cnt L0 p) := lv_mono hX (cnt_mono L0 hP)
  refine ⟨h.ech, h.same, h.gen, fun a r q s ha hq hqa hap => ?_, fun a ha => h.keep a (by omega), h.bd.mono (Nat.le_trans hm (lv_step hX _)), fun q s _ hs => (h.bd q s hs).mono hm, fun q s r hq => by omega⟩
  rcases Nat.lt_or_ge a P with h1 | h1
  · exact h.red a r q s ha hq hqa h1
  · rw [hno a h1 hap] at ha; cases ha
theorem TidyIn.step {n X p Q q : Nat} {L0 L : Lt} {r s : V} (h : TidyIn n X L0 L p Q) (hX : 0 < X) (h0 : Bd X L0) (hQ : Q ≤ q) (hno : ∀ a, Q ≤ a → a < q → L a = none) (hq : L q = some s) (hp : L p = some r) (hqp : q < p) :
    TidyIn n X L0 (put L q fun i => s i + -(s p / r p) * r i) p (q + 1) := by
  have hrp := h.ech.pos p r hp
  have hsq := h.ech.pos q s hq
  have hr0 : ∀ i, i < p → r i = 0 := h.ech.low p r hp
  have hX1 := lv_pos hX (cnt L0 p)
  have hbr : BdV (lv X (cnt L0 p)) r := by
    have := h.keep p (Nat.le_refl _)
    rw [hp] at this
    exact (h0 p r this.symm).mono (lv_mono hX (Nat.zero_le _))
  have hbs := h.rest q s hQ hq
  have hmod : s p + -(s p / r p) * r p = s p % r p := by
    have := Int.emod_add_mul_ediv (s p) (r p)
    have h2 : -(s p / r p) * r p = -(r p * (s p / r p)) := by rw [Int.neg_mul, Int.mul_comm]
    rw [h2]; omega
  have hm0 := Int.emod_nonneg (s p) (by omega : r p ≠ 0)
  have hm1 := Int.emod_lt_of_pos (s p) hrp
  refine ⟨h.ech.put (h.ech.lt q s hq) (fun i hi => ?_) (fun i hi => ?_) ?_, fun a => ?_, fun x => ?_, fun a u c t ha hc hca hap => ?_, fun a ha => ?_, fun a t ha => ?_, fun a t haQ ha => ?_, fun a t u haq hap ha hu => ?_⟩
  · rw [h.ech.low q s hq i hi, hr0 i (by omega)]; simp
  · rw [h.ech.high q s hq i hi, h.ech.high p r hp i hi]; simp
  · rw [hr0 q hqp]; simp; exact hsq
  · rw [← h.same a]
    by_cases e : a = q
    · subst e; rw [put_same, hq]; rfl
    · rw [put_other _ _ _ e]
  · rw [← h.gen x]; exact down_gen hp hq (by omega) _ x
  · rcases put_some ha with ⟨rfl, rfl⟩ | ⟨hne, ha'⟩
    · have hcq : c ≠ a := by omega
      rw [put_other _ _ _ hcq] at hc
      have := h.red a s c t hq hc hca hap
      show 0 ≤ t a ∧ t a < s a + -(s p / r p) * r a
      rw [hr0 a hqp]; simpa using this
    · rcases put_some hc with ⟨rfl, rfl⟩ | ⟨hne2, hc⟩
      · have := h.red a u c s ha' hq hca hap
        show 0 ≤ s a + -(s p / r p) * r a ∧ s a + -(s p / r p) * r a < u a
        rw [hr0 a hap]; simpa using this
      · exact h.red a u c t ha' hc hca hap
  · rw [put_other _ _ _ (by omega)]; exact h.keep a ha
  · rcases put_some ha with ⟨rfl, rfl⟩ | ⟨hne, ha⟩
    · intro i
      have h1 : (-(s p / r p)).natAbs ≤ lv X (cnt L0 p) := by
        have h2 := hbs p
        have h3 : (s p / r p).natAbs ≤ (s p).natAbs := by
          rcases Int.lt_or_le (s p) 0 with h4 | h4
          · have h5 : s p ≤ s p / r p := Int.le_ediv_of_mul_le hrp (by
              have : s p * r p ≤ s p * 1 := Int.mul_le_mul_of_nonpos_left (by omega) (by omega)
              omega)
            have h6 : s p / r p < 0 := Int.ediv_neg_of_neg_of_pos h4 hrp
            omega
          · have h5 : s p / r p ≤ s p := Int.ediv_le_self (r p) h4
            have h6 : 0 ≤ s p / r p := Int.ediv_nonneg h4 (by omega)
            omega
        omega
      have h2 := mul_abs h1 (hbr i)
      have h3 := hbs i
      have h4 : lv X (cnt L0 p) * 1 ≤ lv X (cnt L0 p) * lv X (cnt L0 p) := Nat.mul_le_mul_left _ hX1
      show (s i + -(s p / r p) * r i).natAbs ≤ 3 * (lv X (cnt L0 p) * lv X (cnt L0 p))
      omega
    · exact h.bd a t ha
  · rw [put_other _ _ _ (by omega)] at ha
    exact h.rest a t (by omega) ha
  · have hpq : p ≠ q := by omega
    rw [put_other _ _ _ hpq, hp] at hu
    cases hu
    rcases put_some ha with ⟨rfl, rfl⟩ | ⟨hne, ha⟩
    · show 0 ≤ s p + -(s p / r p) * r p ∧ s p + -(s p / r p) * r p < r p
      rw [hmod]; exact ⟨hm0, hm1⟩
    · rcases Nat.lt_or_ge a Q with h1 | h1
      · exact h.here a t r h1 hap ha hp
      · rw [hno a h1 (by omega)] at ha; cases ha
theorem TidyIn.done {n X p Q : Nat} {L0 L : Lt} {r : V} (h : TidyIn n X L0 L p Q) (hp : L p = some r) (hno : ∀ a, Q ≤ a → a < p → L a = none) : TidyAt n X L0 L (p + 1) := by
  have hc : cnt L0 (p + 1) = cnt L0 p + 1 := by simp only [cnt]; rw [← h.same p, hp]; rfl
  refine ⟨h.ech, h.same, h.gen, fun a u q s ha hq hqa hap => ?_, fun a ha => h.keep a (by omega), by rw [hc]; exact h.bd⟩
  rcases Nat.lt_or_ge a p with h1 | h1
  · exact h.red a u q s ha hq hqa h1
  · have : a = p := by omega
    subst this
    rcases Nat.lt_or_ge q Q with h2 | h2
    · exact h.here q s u h2 hqa hq ha
    · rw [hno q h2 hqa] at hq; cases hq
theorem TidyAt.all {n X P : Nat} {L0 L : Lt} (h : TidyAt n X L0 L P) (hP : ∀ q, P ≤ q → L q = none) : Red L := fun p r q s hp hq hqp => by
  rcases Nat.lt_or_ge p P with h1 | h1
  · exact h.red p r q s hp hq hqp h1
  · rw [hP p h1] at hp; cases hp
def pivots (L : Lt) (n : Nat) : List Nat := (List.range n).filter fun p => (L p).isSome
theorem pivots_succ (L : Lt) (n : Nat) : pivots L (n + 1) = pivots L n ++ if (L n).isSome then [n] else [] := by
  unfold pivots; rw [List.range_succ, List.filter_append]; simp [List.filter_cons]
theorem mem_pivots {L : Lt} {n p : Nat} : p ∈ pivots L n ↔ p < n ∧ (L p).isSome = true := by unfold pivots; simp [List.mem_filter]
theorem pivots_sorted (L : Lt) (n : Nat) : (pivots L n).Pairwise (· < ·) := by unfold pivots; exact List.pairwise_lt_range.filter _
theorem pivots_lt {L : Lt} {n i j : Nat} (hi : i < (pivots L n).length) (hj : j < (pivots L n).length) (h : i < j) : (pivots L n)[i] < (pivots L n)[j] := List.pairwise_iff_getElem.1 (pivots_sorted L n) i j hi hj h
theorem pivots_gap {L : Lt} {n i P : Nat} (hi : i < (pivots L n).length) (hP : ∀ j, j < i → ∀ hj : j < (pivots L n).length, (pivots L n)[j] < P) {q : Nat} (h1 : P ≤ q) (h2 : q < (pivots L n)[i]) : L q = none := by
  cases hq : L q with
  | none => rfl
  | some r =>
    exfalso
    have hn : (pivots L n)[i] < n := (mem_pivots.1 (List.getElem_mem hi)).1
    have hm : q ∈ pivots L n := mem_pivots.2 ⟨by omega, by rw [hq]; rfl⟩
    obtain ⟨j, hj, e⟩ := List.getElem_of_mem hm
    rcases Nat.lt_or_ge j i with h | h
    · have := hP j h hj; omega
    · rcases Nat.lt_or_ge i j with h3 | h3
      · have := pivots_lt hi hj h3; omega
      · have : i = j := by omega
        subst this; omega
theorem pivots_end {L : Lt} {n P : Nat} (hE : ∀ p r, L p = some r → p < n) (hP : ∀ j, ∀ hj : j < (pivots L n).length, (pivots L n)[j] < P) {q : Nat} (h1 : P ≤ q) : L q = none := by
  cases hq : L q with
  | none => rfl
  | some r =>
    exfalso
    have hm : q ∈ pivots L n := mem_pivots.2 ⟨hE q r hq, by rw [hq]; rfl⟩
    obtain ⟨j, hj, e⟩ := List.getElem_of_mem hm
    have := hP j hj; omega
theorem pivots_congr {L M : Lt} {n : Nat} (h : ∀ q, (L q).isSome = (M q).isSome) : pivots L n = pivots M n := by
  unfold pivots; congr 1; funext p; exact h p
end Go.Proofs.YtkljafmdbajfeaaGreatDoor.Lp

/- slices.IndexFunc and slices.ContainsFunc at []int and [][]int: whatever function value is handed in, if it answers like a Lean predicate and only makes memory. -/
namespace Go.Proofs.YtkljafmdbajfeaaGreatDoor
open Go.RowKit
def Enters (fid : FuncId) : Prop := ∀ args w, (callFunc fid args).run Tryz.prog w = .ok (.enter fid args) w
def Tells (fid : FuncId) (caps : Array Value) (p : Int → Bool) (w : World) (xs : List Int) : Prop :=
  Enters fid ∧ ∀ x ∈ xs, ∀ w1, Below w.heap.size w w1 → Calls Tryz.prog fid (#[.int .i64 x] ++ caps) w1 fun e w2 => e = .returned (.bool (p x)) ∧ Below w1.heap.size w1 w2
def TellsR (fid : FuncId) (caps : Array Value) (p : List Int → Bool) (w : World) (l : List (List Int)) : Prop :=
  Enters fid ∧ ∀ x ∈ l, ∀ A c w1, Below w.heap.size w w1 → Ints w1 A x → Calls Tryz.prog fid (#[.slice A x.length c] ++ caps) w1 fun e w2 => e = .returned (.bool (p x)) ∧ Below w1.heap.size w1 w2
set_option maxHeartbeats 400000 in
theorem indexFunc_int (fid : FuncId) (caps : Array Value) (p : Int → Bool) (A : Option Addr) (c : Nat) (xs : List Int) (w : World) (hm : xs.length ≤ maxLen)
    (hA : Ints w A xs) (hf : Tells fid caps p w xs) :
    Calls Tryz.prog 151 #[.slice A xs.length c, .func (.func fid) #[] caps] w fun e w' => ∃ r : Int, e = .returned (.int .i64 r) ∧ decide (0 ≤ r) = xs.any p ∧ Below w.heap.size w w' := by
  unfold maxLen at hm
  obtain ⟨hent, hf⟩ := hf
  go_enter Tryz.func151, Tryz.ntmps151
  go_wp2
  go_loopw [8] (fun i wr => ∃ k : Nat, k ≤ xs.length ∧ i = .int .i64 k ∧ (xs.take k).any p = false ∧ Below w.heap.size w wr) (fun i _ => xs.length - (intOf i).toNat)
  case atStart => exact ⟨0, Nat.zero_le _, rfl, by simp, Below.refl _ _⟩
  case round =>
    obtain ⟨k, hk, rfl, hn, hb⟩ := hrel
    by_cases hlt : k < xs.length
    · obtain ⟨b, off, rfl, g⟩ := (hA.ext hb) k hlt
      have hcall := hf (nth xs k) (nth_mem hlt) wr hb
      have ht := take_nth hlt
      have hany : xs.any p = ((xs.take k).any p || (p (nth xs k) || (xs.drop (k + 1)).any p)) := by
        rw [← List.any_cons, nth_lt hlt, ← List.drop_eq_getElem_cons hlt, ← List.any_append, List.take_append_drop]
      have hany2 : (xs.take (k + 1)).any p = ((xs.take k).any p || p (nth xs k)) := by rw [ht, List.any_append]; simp
      have HH := Lib.hid hany; have H2 := Lib.hid hany2; have HN := Lib.hid hn
      clear hany hany2 hn ht
      cases hp : p (nth xs k)
      all_goals
        rw [hp] at hcall
        have HP := Lib.hid hp
        clear hp
        go_wp2_with (rw [hent, Oper.upon_enter]; refine hcall.mono ?_; rintro e w2 ⟨rfl, hb2⟩)
      · go_roundw
        case rel => exact ⟨k + 1, by omega, by go_num, by rw [H2.out, HN.out, HP.out]; rfl, ext_trans hb hb2⟩
        case measure => simp [intOf]; omega
      · go_ret
        exact ⟨_, rfl, by rw [HH.out, HP.out]; simp, ext_trans hb hb2⟩
    · obtain rfl : k = xs.length := by omega
      go_wp2
      go_ret
      rw [List.take_length] at hn
      exact ⟨_, rfl, by rw [hn]; rfl, hb⟩
set_option maxHeartbeats 400000 in
theorem containsFunc_int (fid : FuncId) (caps : Array Value) (p : Int → Bool) (A : Option Addr) (c : Nat) (xs : List Int) (w : World) (hm : xs.length ≤ maxLen)
    (hA : Ints w A xs) (hf : Tells fid caps p w xs) :
    Calls Tryz.prog 98 #[.slice A xs.length c, .func (.func fid) #[] caps] w fun e w' => e = .returned (.bool (xs.any p)) ∧ Below w.heap.size w w' := by
  go_enter Tryz.func98, Tryz.ntmps98
  go_wp2_with (go_at_call 151; refine (indexFunc_int fid caps p _ _ xs _ hm hA hf).mono ?_; rintro e w' ⟨r, rfl, hr, hb⟩)
  go_ret
  exact ⟨rfl, hb⟩
set_option maxHeartbeats 400000 in
theorem indexFunc_row (fid : FuncId) (caps : Array Value) (p : List Int → Bool) (A : Option Addr) (c : Nat) (xs : List (List Int)) (w : World) (hm : xs.length ≤ maxLen)
    (hA : Grid w A xs) (hf : TellsR fid caps p w xs) :
    Calls Tryz.prog 159 #[.slice A xs.length c, .func (.func fid) #[] caps] w fun e w' => ∃ r : Int, e = .returned (.int .i64 r) ∧ decide (0 ≤ r) = xs.any p ∧ Below w.heap.size w w' := by
  unfold maxLen at hm
  obtain ⟨hent, hf⟩ := hf
  go_enter Tryz.func159, Tryz.ntmps159
  go_wp2
  go_loopw [8] (fun i wr => ∃ k : Nat, k ≤ xs.length ∧ i = .int .i64 k ∧ (xs.take k).any p = false ∧ Below w.heap.size w wr) (fun i _ => xs.length - (intOf i).toNat)
  case atStart => exact ⟨0, Nat.zero_le _, rfl, by simp, Below.refl _ _⟩
  case round =>
    obtain ⟨k, hk, rfl, hn, hb⟩ := hrel
    by_cases hlt : k < xs.length
    · obtain ⟨b, off, R, cR, rfl, g, _, hR⟩ := (hA.ext hb) k hlt
      have hcall := hf (nrow xs k) (nrow_mem hlt) R cR wr hb hR
      have ht := take_nrow hlt
      have hany : xs.any p = ((xs.take k).any p || (p (nrow xs k) || (xs.drop (k + 1)).any p)) := by
        rw [← List.any_cons, nrow_lt hlt, ← List.drop_eq_getElem_cons hlt, ← List.any_append, List.take_append_drop]
      have hany2 : (xs.take (k + 1)).any p = ((xs.take k).any p || p (nrow xs k)) := by rw [ht, List.any_append]; simp
      have HH := Lib.hid hany; have H2 := Lib.hid hany2; have HN := Lib.hid hn
      clear hany hany2 hn ht
      cases hp : p (nrow xs k)
      all_goals
        rw [hp] at hcall
        have HP := Lib.hid hp
        clear hp
        go_wp2_with (rw [hent, Oper.upon_enter]; refine hcall.mono ?_; rintro e w2 ⟨rfl, hb2⟩)
      · go_roundw
        case rel => exact ⟨k + 1, by omega, by go_num, by rw [H2.out, HN.out, HP.out]; rfl, ext_trans hb hb2⟩
        case measure => simp [intOf]; omega
      · go_ret
        exact ⟨_, rfl, by rw [HH.out, HP.out]; simp, ext_trans hb hb2⟩
    · obtain rfl : k = xs.length := by omega
      go_wp2
      go_ret
      rw [List.take_length] at hn
      exact ⟨_, rfl, by rw [hn]; rfl, hb⟩
set_option maxHeartbeats 400000 in
theorem containsFunc_row (fid : FuncId) (caps : Array Value) (p : List Int → Bool) (A : Option Addr) (c : Nat) (xs : List (List Int)) (w : World) (hm : xs.length ≤ maxLen)
    (hA : Grid w A xs) (hf : TellsR fid caps p w xs) :
    Calls Tryz.prog 112 #[.slice A xs.length c, .func (.func fid) #[] caps] w fun e w' => e = .returned (.bool (xs.any p)) ∧ Below w.heap.size w w' := by
  go_enter Tryz.func112, Tryz.ntmps112
  go_wp2_with (go_at_call 159; refine (indexFunc_row fid caps p _ _ xs _ hm hA hf).mono ?_; rintro e w' ⟨r, rfl, hr, hb⟩)
  go_ret
  exact ⟨rfl, hb⟩
end Go.Proofs.YtkljafmdbajfeaaGreatDoor

/- linear.within, listed, rowed, valid, proper, dot: what they answer. -/
namespace Go.Proofs.YtkljafmdbajfeaaGreatDoor
open Go.RowKit
def inB (m : Int) (x : Int) : Bool := decide (-m ≤ x) && decide (x ≤ m)
def listOk (m : Int) (xs : List Int) : Bool := xs.all (inB m)
def rowOk (n : Nat) (r : List Int) : Bool := decide (r.length = n) && listOk 30 r
def rowsOk (l : List (List Int)) (n : Nat) : Bool := decide (1 ≤ n) && decide (n ≤ 6) && decide (l.length ≤ 6) && l.all (rowOk n)
def progOk (a : List (List Int)) (b c : List Int) : Bool := rowsOk a c.length && decide (b.length = a.length) && listOk 1000 b && listOk 1000 c
theorem listOk_any (m : Int) (xs : List Int) : (!xs.any fun x => !inB m x) = listOk m xs := by
  unfold listOk; rw [List.not_any_eq_all_not]; simp
set_option maxHeartbeats 400000 in
theorem within_calls (n m : Int) (w : World) (h0 : 0 ≤ m) (h1 : m ≤ 4611686018427387904) :
    Calls Tryz.prog 145 #[.int .i64 n, .int .i64 m] w fun e w' => e = .returned (.bool (inB m n)) ∧ w' = w := by
  by_cases h : -m ≤ n
  · have hh : decide (-m ≤ n) = true := decide_eq_true h
    go_enter Tryz.func145, Tryz.ntmps145
    go_wp2
    go_ret
    exact ⟨by simp [inB, h], rfl⟩
  · have hh : decide (-m ≤ n) = false := decide_eq_false h
    go_enter Tryz.func145, Tryz.ntmps145
    go_wp2
    go_ret
    exact ⟨by simp [inB, show ¬ (-m ≤ n) by omega], rfl⟩
set_option maxHeartbeats 400000 in
theorem listed1_calls (n m : Int) (b : Nat) (w : World) (h0 : 0 ≤ m) (h1 : m ≤ 4611686018427387904) (hb : w.cell? ⟨b, 0, none⟩ = some (.int .i64 m)) :
    Calls Tryz.prog 144 #[.int .i64 n, .pointer (some ⟨b, 0, none⟩)] w fun e w' => e = .returned (.bool (!inB m n)) ∧ w' = w := by
  go_enter Tryz.func144, Tryz.ntmps144
  go_wp2_with (go_at_call 145; refine (within_calls n m _ h0 h1).mono ?_; rintro e w' ⟨rfl, rfl⟩)
  go_ret
  exact ⟨rfl, rfl⟩
set_option maxHeartbeats 400000 in
theorem listed_calls (A : Option Addr) (c : Nat) (xs : List Int) (m : Int) (w : World) (hm : xs.length ≤ maxLen) (h0 : 0 ≤ m) (h1 : m ≤ 4611686018427387904) (hA : Ints w A xs) :
    Calls Tryz.prog 88 #[.slice A xs.length c, .int .i64 m] w fun e w' => e = .returned (.bool (listOk m xs)) ∧ Below w.heap.size w w' := by
  have hT : ∀ w0 : World, w.heap.size < w0.heap.size → w0.cell? ⟨w.heap.size, 0, none⟩ = some (.int .i64 m) → Tells 144 #[.pointer (some ⟨w.heap.size, 0, none⟩)] (fun x => !inB m x) w0 xs := by
    intro w0 hs hw0
    refine ⟨fun _ _ => by kernel_rfl, fun x _ w1 hb => (listed1_calls x m w.heap.size w1 h0 h1 ?_).mono fun e w2 ⟨he, hw⟩ => ⟨he, by rw [hw]; exact Below.refl _ _⟩⟩
    rw [hb.cell (p := ⟨w.heap.size, 0, none⟩) hs]; exact hw0
  go_enter Tryz.func88, Tryz.ntmps88
  go_wp2_with (go_at_call 98; refine (containsFunc_int _ _ (fun x => !inB m x) _ _ xs _ hm (hA.ext ((Below.refl _ _).alloc (Nat.le_refl _) _)) (hT _ (by simp) (by go_simp))).mono ?_; rintro e w' ⟨rfl, hb⟩)
  go_ret
  exact ⟨by simp only [← listOk_any m xs]; rfl, ((Below.refl _ _).alloc (Nat.le_refl _) _).trans (hb.mono (by simp))⟩
set_option maxHeartbeats 400000 in
theorem rowed1_calls (A : Option Addr) (c : Nat) (r : List Int) (n b : Nat) (w : World) (hm : r.length ≤ maxLen) (hA : Ints w A r) (hb : w.cell? ⟨b, 0, none⟩ = some (.int .i64 n)) :
    Calls Tryz.prog 137 #[.slice A r.length c, .pointer (some ⟨b, 0, none⟩)] w fun e w' => e = .returned (.bool (!rowOk n r)) ∧ Below w.heap.size w w' := by
  by_cases h : r.length = n
  · have h1 : ((r.length : Int) == (n : Int)) = true := by simp [h]
    have h2 : ((r.length : Int) != (n : Int)) = false := by simp [h]
    have H := Lib.hid h; clear h
    have hm' := hm; unfold maxLen at hm'
    go_enter Tryz.func137, Tryz.ntmps137
    go_wp2_with (go_at_call 88; refine (listed_calls _ _ r 30 _ hm (by omega) (by omega) hA).mono ?_; rintro e w' ⟨rfl, hb2⟩)
    go_ret
    exact ⟨by simp [rowOk, H.out], hb2⟩
  · have h1 : ((r.length : Int) == (n : Int)) = false := by simp; omega
    have h2 : ((r.length : Int) != (n : Int)) = true := by simp; omega
    have H := Lib.hid h; clear h
    go_enter Tryz.func137, Tryz.ntmps137
    go_wp2
    go_ret
    exact ⟨by simp [rowOk, H.out], Below.refl _ _⟩
set_option maxHeartbeats 400000 in
theorem rowed_calls (A : Option Addr) (c : Nat) (l : List (List Int)) (n : Nat) (w : World) (hm : l.length ≤ maxLen) (hr : ∀ r ∈ l, r.length ≤ maxLen) (hn : n ≤ maxLen) (hA : Grid w A l) :
    Calls Tryz.prog 80 #[.slice A l.length c, .int .i64 n] w fun e w' => e = .returned (.bool (rowsOk l n)) ∧ Below w.heap.size w w' := by
  have hn' := hn; unfold maxLen at hn'
  have hm' := hm; unfold maxLen at hm'
  have hT : ∀ w0 : World, w.heap.size < w0.heap.size → w0.cell? ⟨w.heap.size, 0, none⟩ = some (.int .i64 n) → TellsR 137 #[.pointer (some ⟨w.heap.size, 0, none⟩)] (fun x => !rowOk n x) w0 l := by
    intro w0 hs hw0
    refine ⟨fun _ _ => by kernel_rfl, fun x hx A c w1 hb hx1 => rowed1_calls A c x n w.heap.size w1 (hr x hx) hx1 ?_⟩
    rw [hb.cell (p := ⟨w.heap.size, 0, none⟩) hs]; exact hw0
  by_cases h1 : 1 ≤ n
  · have d1 : decide (1 ≤ (n : Int)) = true := by simp; omega
    by_cases h2 : n ≤ 6
    · have d2 : decide ((n : Int) ≤ 6) = true := by simp; omega
      by_cases h3 : l.length ≤ 6
      · have d3 : decide ((l.length : Int) ≤ 6) = true := by simp; omega
        go_enter Tryz.func80, Tryz.ntmps80
        go_wp2_with (go_at_call 112; refine (containsFunc_row _ _ (fun x => !rowOk n x) _ _ l _ hm (hA.ext ((Below.refl _ _).alloc (Nat.le_refl _) _)) (hT _ (by simp) (by go_simp))).mono ?_; rintro e w' ⟨rfl, hb⟩)
        go_ret
        exact ⟨by simp [rowsOk, h1, h2, h3, List.not_any_eq_all_not], ((Below.refl _ _).alloc (Nat.le_refl _) _).trans (hb.mono (by simp))⟩
      · have d3 : decide ((l.length : Int) ≤ 6) = false := by simp; omega
        go_enter Tryz.func80, Tryz.ntmps80
        go_wp2
        go_ret
        exact ⟨by simp [rowsOk, h3], ((Below.refl _ _).alloc (Nat.le_refl _) _)⟩
    · have d2 : decide ((n : Int) ≤ 6) = false := by simp; omega
      go_enter Tryz.func80, Tryz.ntmps80
      go_wp2
      go_ret
      exact ⟨by simp [rowsOk, h2], ((Below.refl _ _).alloc (Nat.le_refl _) _)⟩
  · have d1 : decide (1 ≤ (n : Int)) = false := by simp; omega
    go_enter Tryz.func80, Tryz.ntmps80
    go_wp2
    go_ret
    exact ⟨by simp [rowsOk, h1], ((Below.refl _ _).alloc (Nat.le_refl _) _)⟩
structure Prog3 (w : World) (A B C : Option Addr) (a : List (List Int)) (b c : List Int) : Prop where
  ga : Grid w A a
  gb : Ints w B b
  gc : Ints w C c
  la : a.length ≤ maxLen
  lr : ∀ r ∈ a, r.length ≤ maxLen
  lb : b.length ≤ maxLen
  lc : c.length ≤ maxLen
theorem Prog3.ext {w w' : World} {A B C : Option Addr} {a : List (List Int)} {b c : List Int} (h : Prog3 w A B C a b c) (hb : Below w.heap.size w w') : Prog3 w' A B C a b c :=
  ⟨h.ga.ext hb, h.gb.ext hb, h.gc.ext hb, h.la, h.lr, h.lb, h.lc⟩
set_option maxHeartbeats 400000 in
theorem valid_calls (A B C : Option Addr) (ca cb cc : Nat) (a : List (List Int)) (b c : List Int) (w : World) (h : Prog3 w A B C a b c) :
    Calls Tryz.prog 96 #[.agg #[.slice A a.length ca, .slice B b.length cb, .slice C c.length cc]] w fun e w' => e = .returned (.bool (progOk a b c)) ∧ Below w.heap.size w w' := by
  have hlb := h.lb; have hla := h.la; have hlc := h.lc; unfold maxLen at hlb hla hlc
  have hb0 : ∀ o, Below w.heap.size w (w.alloc o) := fun o => (Below.refl _ _).alloc (Nat.le_refl _) _
  cases h1 : rowsOk a c.length
  · go_enter Tryz.func96, Tryz.ntmps96
    go_wp2_with (go_at_call 80; refine (rowed_calls _ _ a c.length _ h.la h.lr h.lc (h.ga.ext (hb0 _))).mono ?_; rintro e w1 ⟨rfl, hb1⟩)
    go_ret
    exact ⟨by simp [progOk, h1], ext_trans (hb0 _) hb1⟩
  by_cases h2 : b.length = a.length
  · have d2 : ((b.length : Int) == (a.length : Int)) = true := by simp [h2]
    have H2 := Lib.hid h2; clear h2
    cases h3 : listOk 1000 b
    · go_enter Tryz.func96, Tryz.ntmps96
      go_wp2_with fail
      refine (rowed_calls _ _ a c.length _ h.la h.lr h.lc (h.ga.ext (hb0 _))).mono ?_; rintro e w1 ⟨rfl, hb1⟩
      obtain ⟨hc1, hf1⟩ := bcell hb1
      have hx1 := ext_trans (hb0 _) hb1
      go_wp2_with fail
      refine (listed_calls _ _ b 1000 _ h.lb (by omega) (by omega) (h.gb.ext hx1)).mono ?_; rintro e w2 ⟨rfl, hb2⟩
      go_wp2
      go_ret
      exact ⟨by simp [progOk, h3], ext_trans hx1 hb2⟩
    · go_enter Tryz.func96, Tryz.ntmps96
      go_wp2_with fail
      refine (rowed_calls _ _ a c.length _ h.la h.lr h.lc (h.ga.ext (hb0 _))).mono ?_; rintro e w1 ⟨rfl, hb1⟩
      obtain ⟨hc1, hf1⟩ := bcell hb1
      have hx1 := ext_trans (hb0 _) hb1
      have hz1 := hb1.size
      go_wp2_with fail
      refine (listed_calls _ _ b 1000 _ h.lb (by omega) (by omega) (h.gb.ext hx1)).mono ?_; rintro e w2 ⟨rfl, hb2⟩
      obtain ⟨hc2, hf2⟩ := bcell hb2
      have hx2 := ext_trans hx1 hb2
      have hz : w.heap.size < w1.heap.size := by simp at hz1; omega
      go_wp2_with fail
      refine (listed_calls _ _ c 1000 _ h.lc (by omega) (by omega) (h.gc.ext hx2)).mono ?_; rintro e w3 ⟨rfl, hb3⟩
      go_wp2
      go_ret
      exact ⟨by simp [progOk, h3, h1, H2.out], ext_trans hx2 hb3⟩
  · have d2 : ((b.length : Int) == (a.length : Int)) = false := by simp; omega
    have H2 := Lib.hid h2; clear h2
    go_enter Tryz.func96, Tryz.ntmps96
    go_wp2_with fail
    refine (rowed_calls _ _ a c.length _ h.la h.lr h.lc (h.ga.ext (hb0 _))).mono ?_; rintro e w1 ⟨rfl, hb1⟩
    obtain ⟨hc1, hf1⟩ := bcell hb1
    go_wp2
    go_ret
    exact ⟨by simp [progOk, H2.out], ext_trans (hb0 _) hb1⟩
end Go.Proofs.YtkljafmdbajfeaaGreatDoor

/- The sums of products: linear.dot, branch.dot, tinplateref02.dot; no sum overflows where the products are small. -/
namespace Go.Proofs.YtkljafmdbajfeaaGreatDoor
open Go.RowKit
end Go.Proofs.YtkljafmdbajfeaaGreatDoor

/- linear.lowest: a point in lowest terms. -/
namespace Go.Proofs.YtkljafmdbajfeaaGreatDoor
open Go.RowKit
def gcdN (d : Int) (xs : List Int) : Nat → Nat
  | 0 => d.natAbs
  | k + 1 => Nat.gcd (gcdN d xs k) (nth xs k).natAbs
theorem gcdN_pos {d : Int} (h : 1 ≤ d) (xs : List Int) : ∀ k, 1 ≤ gcdN d xs k
  | 0 => by simp [gcdN]; omega
  | k + 1 => Nat.gcd_pos_of_pos_left _ (gcdN_pos h xs k)
theorem gcdN_le {d : Int} (h : 1 ≤ d) (xs : List Int) : ∀ k, gcdN d xs k ≤ d.natAbs
  | 0 => Nat.le_refl _
  | k + 1 => Nat.le_trans (Nat.gcd_le_left _ (gcdN_pos h xs k)) (gcdN_le h xs k)
def divK (g : Int) (xs : List Int) (k : Nat) : List Int := (xs.take k).map (fun x => x.tdiv g) ++ xs.drop k
theorem divK_len (g : Int) (xs : List Int) (k : Nat) (hk : k ≤ xs.length) : (divK g xs k).length = xs.length := by simp [divK]; omega
theorem divK_nth (g : Int) (xs : List Int) (k : Nat) (hk : k < xs.length) : nth (divK g xs k) k = nth xs k := by
  rw [nth_lt (by rw [divK_len _ _ _ (by omega)]; exact hk), nth_lt hk]
  unfold divK
  rw [List.getElem_append_right (by simp; omega)]; simp [Nat.min_eq_left (Nat.le_of_lt hk)]
theorem divK_set (g : Int) (xs : List Int) (k : Nat) (hk : k < xs.length) : (divK g xs k).set k ((nth xs k).tdiv g) = divK g xs (k + 1) := by
  unfold divK
  have e : k - (List.map (fun x => x.tdiv g) (List.take k xs)).length = 0 := by simp; omega
  rw [List.set_append_right _ _ (by simp; omega), e, take_nth hk, List.drop_eq_getElem_cons hk]
  simp only [List.set_cons_zero, List.map_append, List.map_cons, List.map_nil, List.append_assoc, List.singleton_append]
theorem divK_all (g : Int) (xs : List Int) : divK g xs xs.length = xs.map (fun x => x.tdiv g) := by simp [divK]
theorem tdiv_bd (x g : Int) (h : -9000000000000000000 ≤ x ∧ x ≤ 9000000000000000000) : -9000000000000000000 ≤ x.tdiv g ∧ x.tdiv g ≤ 9000000000000000000 := by
  have := Int.natAbs_tdiv_le_natAbs x g
  omega
set_option maxHeartbeats 1000000 in
theorem lowest_calls (b c : Nat) (xs : List Int) (d : Int) (w : World) (hx : ∀ i, i < xs.length → -9000000000000000000 ≤ nth xs i ∧ nth xs i ≤ 9000000000000000000) (hd : 1 ≤ d) (hd2 : d ≤ 9000000000000000000) (hm : xs.length ≤ 1000) (hI : IBlk w b xs) :
    Calls Tryz.prog 101 #[.slice (some ⟨b, 0, none⟩) xs.length c, .int .i64 d] w fun e w' => e = .returned (.agg #[.slice (some ⟨b, 0, none⟩) xs.length c, .int .i64 (d.tdiv (gcdN d xs xs.length))]) ∧ IBlk w' b (xs.map (fun x => x.tdiv (gcdN d xs xs.length))) ∧ But b w w' := by
  have hG1 := gcdN_pos hd xs xs.length
  have hG2 := gcdN_le hd xs xs.length
  obtain ⟨G, HG⟩ : ∃ G : Nat, Hid (gcdN d xs xs.length = G) := ⟨_, rfl⟩
  rw [HG.out] at hG1 hG2 ⊢
  have hG3 : (G : Int) ≤ d := by omega
  clear hG2
  go_enter Tryz.func101, Tryz.ntmps101
  go_wp2
  go_loopw [5, 7, 12] (fun g _ i wr => ∃ (k n : Nat) (gv : Int), k ≤ xs.length ∧ i = .int .i64 k ∧ g = .int .i64 gv ∧ gv.natAbs = gcdN d xs k ∧ -9000000000000000000 ≤ gv ∧ gv ≤ 9000000000000000000 ∧ wr = (w.alloc (.cells #[.slice none 0 0, .int .i64 0] 29)).drewN n) (fun _ _ i _ => xs.length - (intOf i).toNat)
  case atStart => exact ⟨0, 0, d, Nat.zero_le _, rfl, rfl, rfl, by omega, by omega, rfl⟩
  case round =>
    obtain ⟨k, n, gv, hk, rfl, rfl, hg, hg1, hg2, rfl⟩ := hrel
    by_cases hlt : k < xs.length
    · have c1 := hI.cell k hlt
      obtain ⟨x1, x2⟩ := hx k hlt
      have hbl := Blk.lt hI
      have HG := Lib.hid hg; clear hg
      go_wp2
      obtain ⟨wo, hwo⟩ : ∃ wo : World, wo = ((w.alloc (.cells #[.slice none 0 0, .int .i64 0] 29)).drewN n) := ⟨_, rfl⟩
      go_loopw [5, 7] (fun g nn wr => ∃ (m : Nat) (gv nv : Int), g = .int .i64 gv ∧ nn = .int .i64 nv ∧ Nat.gcd gv.natAbs nv.natAbs = gcdN d xs (k + 1) ∧ -9000000000000000000 ≤ gv ∧ gv ≤ 9000000000000000000 ∧ -9000000000000000000 ≤ nv ∧ nv ≤ 9000000000000000000 ∧ wr = (w.alloc (.cells #[.slice none 0 0, .int .i64 0] 29)).drewN m) (fun _ nn _ => (intOf nn).natAbs)
      case atStart => exact ⟨_, gv, nth xs k, rfl, rfl, by rw [HG.out]; rfl, hg1, hg2, x1, x2, rfl⟩
      case round =>
        obtain ⟨m, gv, nv, rfl, rfl, hgg, y1, y2, y3, y4, rfl⟩ := hrel
        have HGG := Lib.hid hgg; clear hgg
        by_cases h0 : nv = 0
        · subst h0
          go_wp2
          go_roundw
          case rel => exact ⟨k + 1, _, gv, by omega, by go_num, rfl, by rw [← HGG.out]; simp, y1, y2, rfl⟩
          case measure => simp [intOf]; omega
        · have h1 : (nv != 0) = true := by simp [h0]
          have h2 : (nv == 0) = false := by simp [h0]
          have t1 : (gv.tmod nv).natAbs < nv.natAbs := by rw [Int.natAbs_tmod]; exact Nat.mod_lt _ (by omega)
          have HT := Lib.hid t1; clear t1
          go_wp2
          go_quiet (fail)
          go_wp2
          go_roundw
          case rel => exact ⟨_, nv, gv.tmod nv, rfl, rfl, by rw [← HGG.out, Int.natAbs_tmod]; rw [Nat.gcd_comm nv.natAbs, ← Nat.gcd_rec, Nat.gcd_comm], y3, y4, by have := HT.out; omega, by have := HT.out; omega, drewN_add _ _ _⟩
          case measure => have := HT.out; simpa [intOf] using this
    · obtain rfl : k = xs.length := by omega
      have hbl := Blk.lt hI
      rw [HG.out] at hg
      have hGc : gv = (G : Int) ∨ gv = -(G : Int) := by omega
      clear hg hg1 hg2 hlt hk HG
      rcases hGc with rfl | rfl
      all_goals
        go_wp2
        go_loopw [8, 29] (fun _ i wr => ∃ (k : Nat), k ≤ xs.length ∧ i = .int .i64 k ∧ IBlk wr b (divK G xs k) ∧ But b w wr ∧ Blk wr w.heap.size [.slice none 0 0, .int .i64 0] 29) (fun _ i _ => xs.length - (intOf i).toNat)
        case atStart => exact ⟨0, Nat.zero_le _, rfl, (hI.alloc _).drewN n, ((But.refl _ _).alloc _).ext (drewN_below _ _), (Blk.new _ _ _).drewN n⟩
        case round =>
          obtain ⟨k, hk, rfl, hB, hbut, hQ⟩ := hrel
          by_cases hlt : k < xs.length
          · have c1 := hB.cell k (by rw [divK_len _ _ _ hk]; exact hlt)
            have e1 := divK_nth G xs k hlt
            rw [e1] at c1
            have f1 := Blk.free hB k
            obtain ⟨t1, t2⟩ := tdiv_bd _ G (hx k hlt)
            clear e1
            go_wp2
            go_roundw
            case rel => exact ⟨k + 1, by omega, by go_num, by rw [← divK_set _ _ _ hlt]; exact hB.set k _, hbut.set _ _, hQ.other _ _ (by simp; omega)⟩
            case measure => simp [intOf]; omega
          · obtain rfl : k = xs.length := by omega
            have q0 := hQ.cell 0 (by simp)
            have q1 := hQ.cell 1 (by simp)
            have f0 := hQ.free 0
            have f1 := hQ.free 1
            obtain ⟨t1, t2⟩ := tdiv_bd d G (by omega)
            simp only [List.getElem_cons_zero, List.getElem_cons_succ] at q0 q1
            go_wp2
            rw [divK_all] at hB
            (try simp only [Exit.inBlock, Exit.then])
            refine bodyPost_ret (v := .agg #[.slice (some ⟨b, 0, none⟩) xs.length c, .int .i64 (d.tdiv G)]) (by simp [results, Tryz.results101, go_sem, q0, q1]) rfl ⟨rfl, ?_, ?_⟩
            · exact Blk.other (Blk.other hB _ _ (by simp; omega)) _ _ (by simp; omega)
            · exact (hbut.setNew (by simp) _).setNew (by simp) _
end Go.Proofs.YtkljafmdbajfeaaGreatDoor

/- linear.proper and linear.Value: what they answer. -/
namespace Go.Proofs.YtkljafmdbajfeaaGreatDoor
open Go.RowKit
theorem inB_bd {m x : Int} (h : inB m x = true) : -m ≤ x ∧ x ≤ m := by unfold inB at h; simp at h; exact h
theorem listOk_nth {m : Int} {xs : List Int} (h : listOk m xs = true) {i : Nat} (hi : i < xs.length) : -m ≤ nth xs i ∧ nth xs i ≤ m := by
  unfold listOk at h; rw [List.all_eq_true] at h; exact inB_bd (h _ (nth_mem hi))
end Go.Proofs.YtkljafmdbajfeaaGreatDoor
