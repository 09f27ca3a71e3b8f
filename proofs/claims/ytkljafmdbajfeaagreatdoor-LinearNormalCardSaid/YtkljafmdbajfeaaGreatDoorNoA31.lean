/- Plain laws of normal forms: all numbers are ints, a form is its own, membership, what is left of a vector. -/
import Derived.Test.YtkljafmdbajfeaaGreatDoorNoA08
import Derived.Test.YtkljafmdbajfeaaGreatDoorNoA10
import Derived.Test.YtkljafmdbajfeaaGreatDoorNoA22
import Derived.Test.YtkljafmdbajfeaaGreatDoorNoA29
import Derived.Test.YtkljafmdbajfeaaGreatDoorNoA30
namespace Go.Proofs.YtkljafmdbajfeaaGreatDoor
open Go.RowKit
open Lp (Lt V Ech pivots Gen From Least Piv fac)
set_option linter.unusedVariables false
set_option linter.unusedSimpArgs false
def InL (l : List (List Int)) (v : V) : Prop := Gen (· ∈ l.map nth) v
theorem piv_of {n : Nat} {rows : Lt} (hE : Ech n rows) : Piv n rows (pivots rows n).length (fun i => (pivots rows n).getD i 0) fun i => (rows ((pivots rows n).getD i 0)).getD fun _ => 0 := by
  have hget : ∀ i, ∀ h : i < (pivots rows n).length, (pivots rows n).getD i 0 = (pivots rows n)[i] := fun i h => by simp [h]
  refine ⟨fun i j hij hj => ?_, fun i hi => ?_, fun q r hq => ?_⟩
  · rw [hget i (by omega), hget j hj]; exact Lp.pivots_lt _ _ hij
  · have := (Lp.mem_pivots.1 (List.getElem_mem hi)).2
    rw [hget i hi]
    cases e : rows (pivots rows n)[i] with
    | none => rw [e] at this; cases this
    | some r => rfl
  · have hm : q ∈ pivots rows n := Lp.mem_pivots.2 ⟨hE.lt q r hq, by rw [hq]; rfl⟩
    obtain ⟨i, hi, e⟩ := List.getElem_of_mem hm
    exact ⟨i, hi, by rw [hget i hi]; exact e⟩
theorem mul_cancel_nat {a b c : Nat} (ha : 0 < a) (h : a * b ≤ c * a) : b ≤ c := by
  rw [Nat.mul_comm c a] at h; exact Nat.le_of_mul_le_mul_left h ha
theorem size_in {l : List (List Int)} {n : Nat} {rows : Lt} (hok : rowsOk l n = true) (hE : Ech n rows) (hg : ∀ x, Gen (From rows 0) x ↔ InL l x) :
    ∃ D : Nat, 0 < D ∧ (∀ q r, rows q = some r → r q ≤ D) ∧ ∀ v Y, InL l v → (∀ q r, rows q = some r → (v q).natAbs ≤ Y * D) → ∀ c, (v c).natAbs ≤ 3149280000000 * Y := by
  obtain ⟨h1, h6, hl6, hrow, hx⟩ := rowsOk_in hok
  have hp := piv_of hE
  have hk : (pivots rows n).length ≤ 6 := Nat.le_trans (by
    unfold pivots
    refine Nat.le_trans (List.length_filter_le _ _) ?_
    rw [List.length_range]; exact Nat.le_refl _) h6
  obtain ⟨k, hkk⟩ : ∃ k, (pivots rows n).length = k := ⟨_, rfl⟩
  rw [hkk] at hp hk
  obtain ⟨D, d1, d2, d3, d4⟩ := hp.size hE (R := (· ∈ l.map nth)) (B := 30) (by omega) (fun r hr i => by
    obtain ⟨x, hxl, rfl⟩ := List.mem_map.1 hr
    exact nth_bd (fun y hy => hx x hxl y hy) i) hg
  have hK : fac k * 30 ^ k ≤ 524880000000 := Lp.fac_all hk
  refine ⟨D.natAbs, by omega, fun q r hq => ?_, fun v Y hv hY c => ?_⟩
  · obtain ⟨i, hi, e⟩ := hp.all q r hq
    have h2 := d3 i hi
    have h3 := hp.row i hi
    rw [e] at h3
    have e2 := Option.some.inj (h3.symm.trans hq)
    rw [e, e2] at h2
    have := Int.le_of_dvd (b := (D.natAbs : Int)) (by omega) (Int.dvd_natAbs.2 h2)
    exact this
  · have h2 := d4 v (Y * D.natAbs) ((hg v).2 hv) (fun j hj => hY _ _ (hp.row j hj)) c
    have h3 : k * (fac k * 30 ^ k * (Y * D.natAbs)) ≤ 3149280000000 * Y * D.natAbs := by
      have e : 3149280000000 * Y * D.natAbs = 6 * (524880000000 * (Y * D.natAbs)) := by rw [Nat.mul_assoc 3149280000000]; omega
      rw [e]
      exact Nat.mul_le_mul hk (Nat.mul_le_mul_right _ hK)
    exact mul_cancel_nat (by omega) (Nat.le_trans h2 h3)
theorem form_small {l : List (List Int)} {n : Nat} {rows : Lt} (hok : rowsOk l n = true) (hE : Ech n rows) (hR : Lp.Red rows) (hg : ∀ x, Gen (From rows 0) x ↔ InL l x) {q : Nat} {r : V} (hq : rows q = some r) (c : Nat) : (r c).natAbs ≤ 3149280000000 := by
  obtain ⟨D, d0, d1, d2⟩ := size_in hok hE hg
  have h := d2 r 1 ((hg r).1 (Gen.one ⟨q, Nat.zero_le _, hq⟩)) (fun p s hp => ?_) c
  · omega
  · have h1 := d1 p s hp
    rcases Nat.lt_trichotomy p q with h2 | h2 | h2
    · rw [hE.low q r hq p h2]; simp
    · subst h2
      have e := Option.some.inj (hp.symm.trans hq)
      subst e
      have := hE.pos p s hp
      omega
    · obtain ⟨h3, h4⟩ := hR p s q r hp hq h2
      omega
theorem left_small {l : List (List Int)} {xs : List Int} {rows : Lt} {f : V} (hok : rowsOk l xs.length = true) (hls : listOk 1000 xs = true) (h : RedV l xs rows f) (c : Nat) : (f c).natAbs ≤ 3200000000000000 := by
  obtain ⟨D, d0, d1, d2⟩ := size_in hok h.ech h.gen
  have hx : ∀ c, (nth xs c).natAbs ≤ 1000 := fun c => by
    rcases Nat.lt_or_ge c xs.length with h2 | h2
    · have := listOk_nth hls h2; omega
    · rw [nth_beyond h2]; simp
  have h1 := d2 (fun i => nth xs i - f i) 1001 ((h.gen _).1 h.rest) (fun p s hp => ?_) c
  · have := hx c
    omega
  · have h1 := d1 p s hp
    obtain ⟨h3, h4⟩ := h.least p s hp
    have h5 := hx p
    have h6 : 1001 * D ≥ 1000 + D := by omega
    show (nth xs p - f p).natAbs ≤ 1001 * D
    omega
theorem wrap64_big {z : Int} (h : z.natAbs ≤ 4000000000000000000) : wrap64 z = z := by unfold wrap64; omega
theorem intsTo_at {f : V} {n i : Nat} (hi : i < n) (h : (f i).natAbs ≤ 4000000000000000000) : nth (intsTo f n n) i = f i := by
  rw [nth_lt (by rw [intsTo_len]; exact hi)]
  unfold intsTo
  simp [hi, wrap64_big h]
theorem nth_ints {f : V} {n : Nat} (hh : ∀ i, n ≤ i → f i = 0) (h : ∀ i, (f i).natAbs ≤ 4000000000000000000) : nth (intsTo f n n) = f := by
  funext i
  rcases Nat.lt_or_ge i n with h1 | h1
  · exact intsTo_at h1 (h i)
  · rw [nth_beyond (by rw [intsTo_len]; exact h1), hh i h1]
def formL (rows : Lt) (n : Nat) : List (List Int) := (rowsOf rows n).map fun f => intsTo f n n
theorem rowsOf_mem {n : Nat} {rows : Lt} (hE : Ech n rows) (f : V) : f ∈ rowsOf rows n ↔ From rows 0 f := by
  unfold rowsOf
  rw [List.mem_map]
  constructor
  · rintro ⟨p, hp, rfl⟩
    have := (Lp.mem_pivots.1 hp).2
    cases e : rows p with
    | none => rw [e] at this; cases this
    | some r => exact ⟨p, Nat.zero_le _, e⟩
  · rintro ⟨q, -, hq⟩
    exact ⟨q, Lp.mem_pivots.2 ⟨hE.lt q f hq, by rw [hq]; rfl⟩, by rw [hq]; rfl⟩
structure FormOf (l : List (List Int)) (n : Nat) (rows : Lt) : Prop where
  ok : rowsOk l n = true
  ech : Ech n rows
  red : Lp.Red rows
  gen : ∀ x, Gen (From rows 0) x ↔ InL l x
theorem FormOf.small {l : List (List Int)} {n : Nat} {rows : Lt} (h : FormOf l n rows) {q : Nat} {r : V} (hq : rows q = some r) (c : Nat) : (r c).natAbs ≤ 3149280000000 := form_small h.ok h.ech h.red h.gen hq c
theorem FormOf.nth {l : List (List Int)} {n : Nat} {rows : Lt} (h : FormOf l n rows) {q : Nat} {r : V} (hq : rows q = some r) : nth (intsTo r n n) = r :=
  nth_ints (h.ech.high q r hq) fun i => by have := h.small hq i; omega
theorem formL_nth {l : List (List Int)} {n : Nat} {rows : Lt} (h : FormOf l n rows) : (formL rows n).map nth = rowsOf rows n := by
  unfold formL
  rw [List.map_map]
  refine (List.map_congr_left fun f hf => ?_).trans (List.map_id _)
  obtain ⟨q, -, hq⟩ := (rowsOf_mem h.ech f).1 hf
  exact h.nth hq
theorem inL_form {l : List (List Int)} {n : Nat} {rows : Lt} (h : FormOf l n rows) (v : V) : InL (formL rows n) v ↔ InL l v := by
  unfold InL
  rw [formL_nth h]
  rw [gen_iff (fun r => rowsOf_mem h.ech r) v]
  exact h.gen v
theorem form_one {a b : List (List Int)} {n : Nat} {ra rb : Lt} (h : FormOf a n ra) (k : FormOf b n rb) (e : ∀ v, InL a v ↔ InL b v) : ra = rb :=
  funext (h.ech.same k.ech h.red k.red fun v => by rw [h.gen, k.gen]; exact e v)
theorem form_same {a b : List (List Int)} {n : Nat} {ra rb : Lt} (h : FormOf a n ra) (k : FormOf b n rb) : formL ra n = formL rb n ↔ ∀ v, InL a v ↔ InL b v := by
  constructor
  · intro e v
    rw [← inL_form h v, ← inL_form k v, e]
  · intro e; rw [form_one h k e]
theorem form_again {l : List (List Int)} {n : Nat} {rows rows2 : Lt} (h : FormOf l n rows) (k : FormOf (formL rows n) n rows2) : formL rows2 n = formL rows n :=
  (form_same k h).2 (inL_form h)
theorem form_sub {a b : List (List Int)} : (∀ v, InL a v ↔ InL b v) ↔ (∀ r ∈ a, InL b (nth r)) ∧ ∀ r ∈ b, InL a (nth r) := by
  constructor
  · intro h
    exact ⟨fun r hr => (h _).1 (Gen.one (List.mem_map.2 ⟨r, hr, rfl⟩)), fun r hr => (h _).2 (Gen.one (List.mem_map.2 ⟨r, hr, rfl⟩))⟩
  · rintro ⟨h1, h2⟩ v
    exact ⟨Gen.lift fun r hr => by obtain ⟨x, hx, rfl⟩ := List.mem_map.1 hr; exact h1 x hx, Gen.lift fun r hr => by obtain ⟨x, hx, rfl⟩ := List.mem_map.1 hr; exact h2 x hx⟩
theorem RedV.form {l : List (List Int)} {xs : List Int} {rows : Lt} {f : V} (h : RedV l xs rows f) (hok : rowsOk l xs.length = true) : FormOf l xs.length rows := ⟨hok, h.ech, h.red, h.gen⟩
theorem least_zero {n : Nat} {rows : Lt} (hE : Ech n rows) : Least rows fun _ => 0 := fun p r hp => ⟨Int.le_refl _, hE.pos p r hp⟩
theorem left_eq {l : List (List Int)} {xs ys : List Int} {ra rb : Lt} {f g : V} (h : RedV l xs ra f) (k : RedV l ys rb g) (hok : rowsOk l xs.length = true) (hl : ys.length = xs.length) : f = g ↔ InL l fun i => nth xs i - nth ys i := by
  have hk : FormOf l xs.length rb := by have := k.form (by rw [hl]; exact hok); rw [hl] at this; exact this
  have e : ra = rb := form_one (h.form hok) hk fun _ => Iff.rfl
  subst e
  have h1 := (h.gen _).1 h.rest
  have h2 := (h.gen _).1 k.rest
  constructor
  · intro e
    subst e
    exact (h1.sub h2).cast fun i => by omega
  · intro hd
    refine h.ech.unique h.least k.least ((h.gen _).2 (((hd.sub h1).addMul 1 h2).cast fun i => ?_))
    show f i - g i = nth xs i - nth ys i - (nth xs i - f i) + 1 * (nth ys i - g i)
    omega
theorem member_iff {l : List (List Int)} {xs : List Int} {rows : Lt} {f : V} (h : RedV l xs rows f) : ((List.range xs.length).all fun i => decide (f i = 0)) = true ↔ InL l (nth xs) := by
  have h1 := (h.gen _).1 h.rest
  rw [List.all_eq_true]
  constructor
  · intro k
    refine h1.cast fun i => ?_
    rcases Nat.lt_or_ge i xs.length with h2 | h2
    · have := of_decide_eq_true (k i (List.mem_range.2 h2)); omega
    · rw [h.high i h2]; omega
  · intro hx i _
    have h2 : f = fun _ => 0 := h.ech.unique h.least (least_zero h.ech) ((h.gen _).2 ((hx.sub h1).cast fun i => by omega))
    exact decide_eq_true (by rw [h2])
theorem RedV.nth {l : List (List Int)} {xs : List Int} {rows : Lt} {f : V} (h : RedV l xs rows f) (hok : rowsOk l xs.length = true) (hls : listOk 1000 xs = true) : nth (intsTo f xs.length xs.length) = f :=
  nth_ints h.high fun i => by have := left_small hok hls h i; omega
theorem ints_eq {f g : V} {n : Nat} (hf : nth (intsTo f n n) = f) (hg : nth (intsTo g n n) = g) : intsTo f n n = intsTo g n n ↔ f = g :=
  ⟨fun e => by rw [← hf, ← hg, e], fun e => by rw [e]⟩
theorem left_again {l : List (List Int)} {xs : List Int} {ra rb : Lt} {f g : V} (h : RedV l xs ra f) (hok : rowsOk l xs.length = true) (hls : listOk 1000 xs = true) (k : RedV l (intsTo f xs.length xs.length) rb g) : f = g := by
  have hn := h.nth hok hls
  refine (left_eq h k hok (intsTo_len _ _ _)).2 (((h.gen _).1 h.rest).cast fun i => ?_)
  rw [hn]
def subL (xs ys : List Int) (n : Nat) : List Int := (List.range n).map fun i => nth xs i - nth ys i
theorem subL_len (xs ys : List Int) (n : Nat) : (subL xs ys n).length = n := by unfold subL; simp
theorem subL_nth {xs ys : List Int} {n : Nat} (hx : xs.length = n) (hy : ys.length = n) : nth (subL xs ys n) = fun i => nth xs i - nth ys i := by
  funext i
  rcases Nat.lt_or_ge i n with h | h
  · rw [nth_lt (by rw [subL_len]; exact h)]; unfold subL; simp
  · rw [nth_beyond (by rw [subL_len]; exact h), nth_beyond (by omega), nth_beyond (by omega)]; rfl
end Go.Proofs.YtkljafmdbajfeaaGreatDoor

/- Package exact: rows of rational numbers that may be set. -/
namespace Go.Proofs.YtkljafmdbajfeaaGreatDoor
open Go.RowKit
set_option linter.unusedVariables false
set_option linter.unusedSimpArgs false
theorem RatP.butP {w w' : World} {p q : Nat} {x : Rat} (h : RatP w q x) (hp : Ptrs w p) (hb : But p w w') : RatP w' q x := by
  obtain ⟨h1, h2, v, h3, h4⟩ := h
  have hne := hp.ne h2
  have hs := hb.block q h2.lt hne
  refine ⟨h1.same hs, h2.butP hp hb, v, (World.cell?_of_block (a := ⟨q, 2, none⟩) hs).trans h3, ?_⟩
  rcases h4 with h | ⟨h5, h⟩
  · exact .inl (h.butP hp hb)
  · exact .inr ⟨h5, h.butP hp hb⟩
theorem ratZero (w : World) : RatP (w.alloc (.cells #[.bool false, .slice none 0 0, .slice none 0 0] 203 (0, 0))) w.heap.size 0 := by
  have hb := Blk.new w [.bool false, .slice none 0 0, .slice none 0 0] 203
  have hz : ∀ w : World, WSl w (.slice none 0 0) 0 := fun w => ⟨none, 0, by rw [digits_zero]; rfl, by rw [digits_zero]; exact Nat.le_refl _, by omega, fun i hi => by rw [digits_zero] at hi; simp at hi⟩
  exact ⟨RatBlk.new w, ⟨(RatBlk.new w).int, _, hb.cell 0 (by simp), hb.cell 1 (by simp), hz _⟩, _, hb.cell 2 (by simp), .inr ⟨rfl, hz _⟩⟩
structure RowQ (w : World) (B b n m : Nat) (P : Nat → Nat) (q : Nat → Rat) : Prop where
  ptrs : Ptrs w b
  lt : b < w.heap.size
  new : B ≤ b
  fr : ∀ i, w.frozen? ⟨b, i, none⟩ = false
  ex : ∀ i, i < n → ∃ a, w.cell? ⟨b, i, none⟩ = some (.pointer a)
  cell : ∀ i, i < m → w.cell? ⟨b, i, none⟩ = some (.pointer (some ⟨P i, 0, none⟩))
  num : ∀ i, i < m → RatP w (P i) (q i)
  low : ∀ i, i < m → B ≤ P i
  inj : ∀ i j, i < m → j < m → P i = P j → i = j
theorem RowQ.ext {w w' : World} {B b n m : Nat} {P : Nat → Nat} {q : Nat → Rat} (h : RowQ w B b n m P q) (hb : Below w.heap.size w w') : RowQ w' B b n m P q := by
  have hs := hb.block b h.lt
  have hc : ∀ o, w'.cell? ⟨b, o, none⟩ = w.cell? ⟨b, o, none⟩ := fun o => World.cell?_of_block (a := ⟨b, o, none⟩) hs
  exact ⟨h.ptrs.same hs, Nat.lt_of_lt_of_le h.lt hb.size, h.new, fun i => (World.frozen?_of_block (a := ⟨b, i, none⟩) hs).trans (h.fr i), fun i hi => by rw [hc]; exact h.ex i hi, fun i hi => by rw [hc]; exact h.cell i hi, fun i hi => (h.num i hi).ext hb, h.low, h.inj⟩
theorem RowQ.congr {w : World} {B b n m : Nat} {P : Nat → Nat} {q r : Nat → Rat} (h : RowQ w B b n m P q) (e : ∀ i, i < m → q i = r i) : RowQ w B b n m P r :=
  { h with num := fun i hi => by rw [← e i hi]; exact h.num i hi }
theorem RowQ.ne {w : World} {B b n m p : Nat} {P : Nat → Nat} {q : Nat → Rat} (h : RowQ w B b n m P q) (hp : IntBlk w p) : b ≠ p := by
  rintro rfl
  obtain ⟨x, A, k, c, h0, -⟩ := hp.c
  obtain ⟨a, e⟩ := h.ptrs _ _ h0; cases e
theorem RowQ.other {w w' : World} {B b n m p : Nat} {P : Nat → Nat} {q : Nat → Rat} (h : RowQ w B b n m P q) (hp : RatBlk w p) (hb : But p w w') (hne : ∀ i, i < m → P i ≠ p) : RowQ w' B b n m P q := by
  have hs := hb.block b h.lt (h.ne hp.int)
  have hc : ∀ o, w'.cell? ⟨b, o, none⟩ = w.cell? ⟨b, o, none⟩ := fun o => World.cell?_of_block (a := ⟨b, o, none⟩) hs
  exact ⟨h.ptrs.same hs, Nat.lt_of_lt_of_le h.lt hb.size, h.new, fun i => (World.frozen?_of_block (a := ⟨b, i, none⟩) hs).trans (h.fr i), fun i hi => by rw [hc]; exact h.ex i hi, fun i hi => by rw [hc]; exact h.cell i hi, fun i hi => (h.num i hi).but hp.int hb (hne i hi), h.low, h.inj⟩
theorem RowQ.set {w w' : World} {B b n m k : Nat} {P : Nat → Nat} {q : Nat → Rat} {x : Rat} (h : RowQ w B b n m P q) (hk : k < m) (hx : RatP w' (P k) x) (hb : But (P k) w w') : RowQ w' B b n m P (fun i => if i = k then x else q i) := by
  have hp := (h.num k hk).blk
  have hs := hb.block b h.lt (h.ne hp.int)
  have hc : ∀ o, w'.cell? ⟨b, o, none⟩ = w.cell? ⟨b, o, none⟩ := fun o => World.cell?_of_block (a := ⟨b, o, none⟩) hs
  refine ⟨h.ptrs.same hs, Nat.lt_of_lt_of_le h.lt hb.size, h.new, fun i => (World.frozen?_of_block (a := ⟨b, i, none⟩) hs).trans (h.fr i), fun i hi => by rw [hc]; exact h.ex i hi, fun i hi => by rw [hc]; exact h.cell i hi, fun i hi => ?_, h.low, h.inj⟩
  by_cases e : i = k
  · subst e; rw [if_pos rfl]; exact hx
  · rw [if_neg e]; exact (h.num i hi).but hp.int hb (fun e2 => e (h.inj i k hi hk e2))
theorem RowQ.put {w : World} {B b n m p : Nat} {P : Nat → Nat} {q : Nat → Rat} (h : RowQ w B b n m P q) (hm : m < n) (hp : RatP w p (q m)) (hB : B ≤ p) (hne : ∀ i, i < m → P i ≠ p) :
    RowQ (w.setCell ⟨b, m, none⟩ (.pointer (some ⟨p, 0, none⟩))) B b n (m + 1) (fun i => if i = m then p else P i) q := by
  have hb : But b w (w.setCell ⟨b, m, none⟩ (.pointer (some ⟨p, 0, none⟩))) := (But.refl b w).set m _
  obtain ⟨a0, h0⟩ := h.ex m hm
  have hsame := World.cell?_setCell_same w ⟨b, m, none⟩ (.pointer (some ⟨p, 0, none⟩)) h0
  have hoth : ∀ o, o ≠ m → (w.setCell ⟨b, m, none⟩ (.pointer (some ⟨p, 0, none⟩))).cell? ⟨b, o, none⟩ = w.cell? ⟨b, o, none⟩ := fun o ho =>
    World.cell?_setCell_other w ⟨b, m, none⟩ ⟨b, o, none⟩ _ (by intro e; injection e with _ e; exact ho e.symm)
  refine ⟨fun o x e => ?_, Nat.lt_of_lt_of_le h.lt hb.size, h.new, fun j => ?_, fun j hj => ?_, fun j hj => ?_, fun j hj => ?_, fun j hj => ?_, fun i j hi hj e => ?_⟩
  · by_cases ho : o = m
    · subst ho; rw [hsame] at e; injection e with e; exact ⟨_, e.symm⟩
    · rw [hoth o ho] at e; exact h.ptrs o x e
  · simp only [World.frozen?_setCell]; exact h.fr j
  · by_cases ho : j = m
    · subst ho; exact ⟨_, hsame⟩
    · rw [hoth j ho]; exact h.ex j hj
  · by_cases ho : j = m
    · subst ho; rw [if_pos rfl]; exact hsame
    · rw [if_neg ho, hoth j ho]; exact h.cell j (by omega)
  · by_cases ho : j = m
    · subst ho; rw [if_pos rfl]; exact hp.butP h.ptrs hb
    · rw [if_neg ho]; exact (h.num j (by omega)).butP h.ptrs hb
  · by_cases ho : j = m
    · rw [if_pos ho]; exact hB
    · rw [if_neg ho]; exact h.low j (by omega)
  · by_cases hi' : i = m <;> by_cases hj' : j = m
    · omega
    · rw [if_pos hi', if_neg hj'] at e; exact absurd e.symm (hne j (by omega))
    · rw [if_neg hi', if_pos hj'] at e; exact absurd e (hne i (by omega))
    · rw [if_neg hi', if_neg hj'] at e; exact h.inj i j (by omega) (by omega) e
theorem infoRatP : (Tryz.prog.info? 201).map (fun i => (i.zero, i.size, i.bytes)) = some (some (.pointer none), 1, 8) := by kernel_rfl
theorem run_makeRow (w : World) (n : Nat) (h : n ≤ 35184372088832) :
    (Instr.makeSlice 82 (.int .i64 n) (.int .i64 n)).run Tryz.prog w = .ok (.slice (some ⟨w.heap.size, 0, none⟩) n n) (w.alloc (.cells (nils n).toArray 201 (0, 0))) := by
  obtain ⟨i, hi, hz, hs, hb⟩ := info_parts infoRatP
  rw [run_make w 82 201 i (.pointer none) Tryz.underlying82 hi hz .i64 .i64 n n (by omega) (by omega) (by rw [hb]; omega) (by omega)]
  simp only [Int.toNat_natCast, hs, Nat.mul_one]
  rw [madeNils]
theorem RowQ.made (w : World) (n : Nat) (P : Nat → Nat) (q : Nat → Rat) : RowQ (w.alloc (.cells (nils n).toArray 201 (0, 0))) w.heap.size w.heap.size n 0 P q := by
  have hb := Blk.new w (nils n) 201
  refine ⟨fun o x e => ?_, hb.lt, Nat.le_refl _, fun i => hb.free i, fun i hi => ⟨none, ?_⟩, fun i hi => by omega, fun i hi => by omega, fun i hi => by omega, fun i j hi => by omega⟩
  · have := cell_in hb e
    exact ⟨none, List.eq_of_mem_replicate this⟩
  · have hl : i < (nils n).length := by unfold nils; simpa using hi
    rw [hb.cell i hl]; simp [nils]
end Go.Proofs.YtkljafmdbajfeaaGreatDoor

/- Package exact: entries, a row of zeros. -/
namespace Go.Proofs.YtkljafmdbajfeaaGreatDoor
open Go.RowKit
set_option linter.unusedVariables false
set_option linter.unusedSimpArgs false
set_option maxRecDepth 100000 in
set_option maxHeartbeats 2000000 in
theorem entries_calls (n : Nat) (w : World) (hn : n ≤ 1000) :
    Calls Tryz.prog 212 #[.int .i64 n] w fun e w' => ∃ b P, e = .returned (.slice (some ⟨b, 0, none⟩) n n) ∧ RowQ w' w.heap.size b n n P (fun _ => 0) ∧ Below w.heap.size w w' := by
  have hmk := fun w => run_makeRow w n (by omega)
  have HO := Lib.hid (RowQ.made w n (fun i => i) (fun _ => 0))
  have HA : Hid (Below w.heap.size w (w.alloc (.cells (nils n).toArray 201 (0, 0)))) := Lib.hid ((Below.refl _ _).alloc (Nat.le_refl _) _)
  go_enter Tryz.func212, Tryz.ntmps212
  go_wp2_with fail
  go_loopw [9] (fun t wr => ∃ (i : Nat) (P : Nat → Nat), i ≤ n ∧ t = .int .i64 i ∧ Hid (RowQ wr w.heap.size w.heap.size n i P (fun _ => 0)) ∧ Hid (Below w.heap.size w wr)) (fun t _ => n - (intOf t).toNat)
  case atStart => exact ⟨0, _, Nat.zero_le _, rfl, HO, HA⟩
  case round =>
    obtain ⟨i, P, hi, rfl, hW, hbe⟩ := hrel
    by_cases hlt : i < n
    · have hn1 : (i : Int) < n := by omega
      have hA1 : Below wr.heap.size wr (wr.alloc (.cells #[.bool false, .slice none 0 0, .slice none 0 0] 203 (0, 0))) := (Below.refl _ _).alloc (Nat.le_refl _) _
      have hz := ratZero wr
      have hW2 := hW.out.ext hA1
      obtain ⟨a5, hc5⟩ := hW2.ex i hlt
      have hf5 := hW2.fr i
      have hsz := hbe.out.size
      have hput := hW2.put hlt hz hsz (fun j hj e => by have := (hW.out.num j hj).lt; omega)
      have hbl := hW.out.lt
      have hbb := (hbe.out.trans (hA1.mono hsz)).setCell (p := ⟨w.heap.size, i, none⟩) (Nat.le_refl _) (.pointer (some ⟨wr.heap.size, 0, none⟩))
      rw [World.setCell_alloc_past _ _ _ _ hbl] at hput hbb
      have HP := Lib.hid hput; have HB := Lib.hid hbb
      have hc6 := hc5
      clear hA1 hz hW2 hput hbb
      go_wp2
      go_roundw
      case rel => exact ⟨i + 1, _, by omega, by go_num, HP, HB⟩
      case measure => simp [intOf]; omega
    · obtain rfl : i = n := by omega
      go_wp2
      go_ret
      exact ⟨_, P, rfl, hW.out, hbe.out⟩
end Go.Proofs.YtkljafmdbajfeaaGreatDoor
