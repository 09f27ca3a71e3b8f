/- Package exact: a simplex tableau in memory. -/
import Derived.Test.YtkljafmdbajfeaaGreatDoorNoA10
import Derived.Test.YtkljafmdbajfeaaGreatDoorNoA31
namespace Go.Proofs.YtkljafmdbajfeaaGreatDoor
open Go.RowKit
open Lp (Tab Bas)
set_option linter.unusedVariables false
set_option linter.unusedSimpArgs false
def NoW (w : World) (p : Nat) : Prop := ∀ o n, w.cell? ⟨p, o, none⟩ ≠ some (.int .u32 n)
theorem WSl.butW {w w' : World} {v : Value} {n p : Nat} (h : WSl w v n) (hp : NoW w p) (hb : But p w w') : WSl w' v n := by
  obtain ⟨A, c, h1, h2, h3, h4⟩ := h
  refine ⟨A, c, h1, h2, h3, fun i hi => ?_⟩
  obtain ⟨b, off, e, hc⟩ := h4 i hi
  refine ⟨b, off, e, ?_⟩
  have hne : b ≠ p := by rintro rfl; exact hp _ _ hc
  rw [World.cell?_of_block (w := w) (hb.block b (cell_lt hc) hne)]; exact hc
theorem BigP.butW {w w' : World} {p q : Nat} {z : Int} (h : BigP w q z) (hp : NoW w p) (hb : But p w w') (hne : q ≠ p) : BigP w' q z := by
  have hq := hb.block q h.lt hne
  obtain ⟨h0, v, h1, h2, h3⟩ := h
  exact ⟨h0.same hq, v, (World.cell?_of_block (a := ⟨q, 0, none⟩) hq).trans h1, (World.cell?_of_block (a := ⟨q, 1, none⟩) hq).trans h2, h3.butW hp hb⟩
theorem RatP.butW {w w' : World} {p q : Nat} {x : Rat} (h : RatP w q x) (hp : NoW w p) (hb : But p w w') (hne : q ≠ p) : RatP w' q x := by
  obtain ⟨h1, h2, v, h3, h4⟩ := h
  have hs := hb.block q h2.lt hne
  refine ⟨h1.same hs, h2.butW hp hb hne, v, (World.cell?_of_block (a := ⟨q, 2, none⟩) hs).trans h3, ?_⟩
  rcases h4 with h | ⟨h5, h⟩
  · exact .inl (h.butW hp hb)
  · exact .inr ⟨h5, h.butW hp hb⟩
theorem RowQ.butW {w w' : World} {B b n m p : Nat} {P : Nat → Nat} {q : Nat → Rat} (h : RowQ w B b n m P q) (hp : NoW w p) (hb : But p w w') (hbp : b ≠ p) (hne : ∀ i, i < m → P i ≠ p) : RowQ w' B b n m P q := by
  have hs := hb.block b h.lt hbp
  have hc : ∀ o, w'.cell? ⟨b, o, none⟩ = w.cell? ⟨b, o, none⟩ := fun o => World.cell?_of_block (a := ⟨b, o, none⟩) hs
  exact ⟨h.ptrs.same hs, Nat.lt_of_lt_of_le h.lt hb.size, h.new, fun i => (World.frozen?_of_block (a := ⟨b, i, none⟩) hs).trans (h.fr i), fun i hi => by rw [hc]; exact h.ex i hi, fun i hi => by rw [hc]; exact h.cell i hi, fun i hi => (h.num i hi).butW hp hb (hne i hi), h.low, h.inj⟩
def isI (x : Value) : Prop := ∃ n, x = .int .i64 n
def isB (x : Value) : Prop := ∃ b, x = .bool b
structure TA where
  A : Option Addr
  cA : Nat
  bA : Option Addr
  cb : Nat
  sA : Option Addr
  cs : Nat
  hb : Nat
  rb : Nat → Nat
  P : Nat → Nat → Nat
structure TabD (w : World) (B t n m : Nat) (D : TA) (T : Tab) (Bs : Bas) (sg : Nat → Int) (sh : Nat → Bool) : Prop where
  bt : B ≤ t
  t0 : w.cell? ⟨t, 0, none⟩ = some (.int .i64 n)
  t1 : w.cell? ⟨t, 1, none⟩ = some (.int .i64 m)
  t2 : w.cell? ⟨t, 2, none⟩ = some (.slice D.A m D.cA)
  t3 : w.cell? ⟨t, 3, none⟩ = some (.slice D.bA m D.cb)
  t4 : w.cell? ⟨t, 4, none⟩ = some (.slice D.sA m D.cs)
  t5 : w.cell? ⟨t, 5, none⟩ = some (.slice (some ⟨D.hb, 0, none⟩) (n + 2 * m : Nat) (n + 2 * m : Nat))
  row : ∀ i, i < m → ∃ R, D.A = some ⟨R, 0, none⟩ ∧ w.cell? ⟨R, i, none⟩ = some (.slice (some ⟨D.rb i, 0, none⟩) (n + 2 * m + 1 : Nat) (n + 2 * m + 1 : Nat))
  num : ∀ i, i < m → RowQ w B (D.rb i) (n + 2 * m + 1) (n + 2 * m + 1) (D.P i) (T i)
  inj : ∀ i j k l, i < m → j < m → k < n + 2 * m + 1 → l < n + 2 * m + 1 → D.P i k = D.P j l → i = j
  bas : ∀ i, i < m → ∃ b, D.bA = some ⟨b, 0, none⟩ ∧ w.cell? ⟨b, i, none⟩ = some (.int .i64 (Bs i))
  basO : ∀ b, D.bA = some ⟨b, 0, none⟩ → 0 < m ∧ B ≤ b ∧ b < w.heap.size ∧ b ≠ t ∧ AllC isI w b ∧ ∀ i, w.frozen? ⟨b, i, none⟩ = false
  sgn : ∀ i, i < m → ∃ s, D.sA = some ⟨s, 0, none⟩ ∧ D.bA ≠ some ⟨s, 0, none⟩ ∧ w.cell? ⟨s, i, none⟩ = some (.int .i64 (sg i))
  shut : ∀ j, j < n + 2 * m → w.cell? ⟨D.hb, j, none⟩ = some (.bool (sh j))
  shO : B ≤ D.hb ∧ D.hb < w.heap.size ∧ AllC isB w D.hb ∧ ∀ i, w.frozen? ⟨D.hb, i, none⟩ = false
section
variable {w w' : World} {B t n m : Nat} {D : TA} {T : Tab} {Bs : Bas} {sg : Nat → Int} {sh : Nat → Bool}
theorem TabD.congr {T' : Tab} {Bs' : Bas} {sh' : Nat → Bool} (h : TabD w B t n m D T Bs sg sh) (hT : ∀ i j, i < m → j < n + 2 * m + 1 → T i j = T' i j) (hB : ∀ i, i < m → Bs i = Bs' i) (hS : ∀ j, j < n + 2 * m → sh j = sh' j) : TabD w B t n m D T' Bs' sg sh' :=
  { h with num := fun i hi => (h.num i hi).congr fun j hj => hT i j hi hj, bas := fun i hi => by rw [← hB i hi]; exact h.bas i hi, shut := fun j hj => by rw [← hS j hj]; exact h.shut j hj }
theorem TabD.ext (h : TabD w B t n m D T Bs sg sh) (hb : Below w.heap.size w w') : TabD w' B t n m D T Bs sg sh := by
  have hc : ∀ b o x, w.cell? ⟨b, o, none⟩ = some x → w'.cell? ⟨b, o, none⟩ = some x := fun b o x e => (hb.cell (p := ⟨b, o, none⟩) (cell_lt e)).trans e
  refine ⟨h.bt, hc _ _ _ h.t0, hc _ _ _ h.t1, hc _ _ _ h.t2, hc _ _ _ h.t3, hc _ _ _ h.t4, hc _ _ _ h.t5, fun i hi => ?_, fun i hi => (h.num i hi).ext hb, h.inj, fun i hi => ?_, fun b e => ?_, fun i hi => ?_, fun j hj => hc _ _ _ (h.shut j hj), ?_⟩
  · obtain ⟨R, e, h1⟩ := h.row i hi; exact ⟨R, e, hc _ _ _ h1⟩
  · obtain ⟨b, e, h1⟩ := h.bas i hi; exact ⟨b, e, hc _ _ _ h1⟩
  · obtain ⟨hm0, h1, hl, h2, h3, h4⟩ := h.basO b e
    exact ⟨hm0, h1, Nat.lt_of_lt_of_le hl hb.size, h2, h3.same (hb.block b hl), fun i => (World.frozen?_of_block (a := ⟨b, i, none⟩) (hb.block b hl)).trans (h4 i)⟩
  · obtain ⟨s, e, h2, h1⟩ := h.sgn i hi; exact ⟨s, e, h2, hc _ _ _ h1⟩
  · obtain ⟨h1, h2, h3, h4⟩ := h.shO
    exact ⟨h1, Nat.lt_of_lt_of_le h2 hb.size, h3.same (hb.block _ h2), fun i => (World.frozen?_of_block (a := ⟨D.hb, i, none⟩) (hb.block _ h2)).trans (h4 i)⟩
theorem ne_rat {p b o : Nat} {x : Value} (hp : RatBlk w p) (h : w.cell? ⟨b, 0, none⟩ = some x) (hx : ∀ c, x ≠ .bool c) : b ≠ p := by
  rintro rfl
  obtain ⟨c, A, k, c2, h0, -⟩ := hp.int.c
  rw [h] at h0; injection h0 with h0; exact hx _ h0
theorem TabD.hb_ne (h : TabD w B t n m D T Bs sg sh) {p : Nat} (hp : RatBlk w p) : D.hb ≠ p := by
  rintro e
  obtain ⟨c, A, k, c2, -, h1⟩ := hp.int.c
  rw [← e] at h1
  obtain ⟨b, e2⟩ := h.shO.2.2.1 _ _ h1
  cases e2
theorem all_ne {Q : Value → Prop} {p b : Nat} (hp : RatBlk w p) (h : AllC Q w b) (hQ : ∀ A k c, ¬ Q (.slice A k c)) : b ≠ p := by
  rintro rfl
  obtain ⟨c, A, k, c2, -, h1⟩ := hp.int.c
  exact hQ _ _ _ (h _ _ h1)
theorem TabD.setRat (h : TabD w B t n m D T Bs sg sh) {i k : Nat} {x : Rat} (hi : i < m) (hk : k < n + 2 * m + 1) (hx : RatP w' (D.P i k) x) (hb : But (D.P i k) w w') :
    TabD w' B t n m D (fun a b => if a = i ∧ b = k then x else T a b) Bs sg sh := by
  have hp := ((h.num i hi).num k hk).blk
  have hc : ∀ b o x y, w.cell? ⟨b, 0, none⟩ = some y → (∀ c, y ≠ .bool c) → w.cell? ⟨b, o, none⟩ = some x → w'.cell? ⟨b, o, none⟩ = some x := fun b o x y e hy ex =>
    (World.cell?_of_block (a := ⟨b, o, none⟩) (hb.block b (cell_lt ex) (ne_rat (o := 0) hp e hy))).trans ex
  have ht : ∀ o x, w.cell? ⟨t, o, none⟩ = some x → w'.cell? ⟨t, o, none⟩ = some x := fun o x e => hc t o x _ h.t0 (fun c e => by cases e) e
  refine ⟨h.bt, ht _ _ h.t0, ht _ _ h.t1, ht _ _ h.t2, ht _ _ h.t3, ht _ _ h.t4, ht _ _ h.t5, fun a ha => ?_, fun a ha => ?_, h.inj, fun a ha => ?_, fun b e => ?_, fun a ha => ?_, fun j hj => ?_, ?_⟩
  · obtain ⟨R, e, h1⟩ := h.row a ha
    obtain ⟨R', e', h0⟩ := h.row 0 (by omega)
    rw [e] at e'; injection e' with e'; injection e' with e'; subst e'
    exact ⟨R, e, hc _ _ _ _ h0 (fun c e => by cases e) h1⟩
  · by_cases hai : a = i
    · subst hai
      refine ((h.num a ha).set hk hx hb).congr fun j hj => ?_
      by_cases e : j = k
      · rw [if_pos e, if_pos ⟨rfl, e⟩]
      · rw [if_neg e, if_neg (fun c => e c.2)]
    · refine ((h.num a ha).other hp hb (fun j hj e => hai (h.inj a i j k ha hi hj hk e))).congr fun j hj => ?_
      rw [if_neg (fun c => hai c.1)]
  · obtain ⟨b, e, h1⟩ := h.bas a ha
    obtain ⟨b', e', h0⟩ := h.bas 0 (by omega)
    rw [e] at e'; injection e' with e'; injection e' with e'; subst e'
    exact ⟨b, e, hc _ _ _ _ h0 (fun c e => by cases e) h1⟩
  · obtain ⟨hm0, h1, hl, h2, h3, h4⟩ := h.basO b e
    have hne := all_ne hp h3 (fun A k c e => by obtain ⟨n, e⟩ := e; cases e)
    exact ⟨hm0, h1, Nat.lt_of_lt_of_le hl hb.size, h2, h3.same (hb.block b hl hne), fun i => (World.frozen?_of_block (a := ⟨b, i, none⟩) (hb.block b hl hne)).trans (h4 i)⟩
  · obtain ⟨s, e, h2, h1⟩ := h.sgn a ha
    obtain ⟨s', e', -, h0⟩ := h.sgn 0 (by omega)
    rw [e] at e'; injection e' with e'; injection e' with e'; subst e'
    exact ⟨s, e, h2, hc _ _ _ _ h0 (fun c e => by cases e) h1⟩
  · exact (World.cell?_of_block (a := ⟨D.hb, j, none⟩) (hb.block _ h.shO.2.1 (h.hb_ne hp))).trans (h.shut j hj)
  · obtain ⟨h1, h2, h3, h4⟩ := h.shO
    have hs := hb.block _ h2 (h.hb_ne hp)
    exact ⟨h1, Nat.lt_of_lt_of_le h2 hb.size, h3.same hs, fun i => (World.frozen?_of_block (a := ⟨D.hb, i, none⟩) hs).trans (h4 i)⟩
theorem rat_ne_all {Q : Value → Prop} {p b : Nat} (hp : RatBlk w p) (h : AllC Q w b) (hQ : ∀ A k c, ¬ Q (.slice A k c)) : p ≠ b := fun e => all_ne hp h hQ e.symm
theorem TabD.setBas (h : TabD w B t n m D T Bs sg sh) {i b : Nat} (hi : i < m) (hbA : D.bA = some ⟨b, 0, none⟩) (s : Nat) :
    TabD (w.setCell ⟨b, i, none⟩ (.int .i64 s)) B t n m D T (Lp.pivB Bs i s) sg sh := by
  have hb : But b w (w.setCell ⟨b, i, none⟩ (.int .i64 s)) := (But.refl b w).set i _
  obtain ⟨hm0, hB, hl, hbt, hall, hfr⟩ := h.basO b hbA
  have hno : NoW w b := fun o n e => by obtain ⟨k, e2⟩ := hall o _ e; cases e2
  obtain ⟨b', e', h0⟩ := h.bas i hi
  rw [hbA] at e'; injection e' with e'; injection e' with e'; subst e'
  have hsame := World.cell?_setCell_same w ⟨b, i, none⟩ (.int .i64 s) h0
  have hoth : ∀ o, o ≠ i → (w.setCell ⟨b, i, none⟩ (.int .i64 s)).cell? ⟨b, o, none⟩ = w.cell? ⟨b, o, none⟩ := fun o ho =>
    World.cell?_setCell_other w ⟨b, i, none⟩ ⟨b, o, none⟩ _ (by intro e; injection e with _ e; exact ho e.symm)
  have hc : ∀ c o x, c ≠ b → w.cell? ⟨c, o, none⟩ = some x → (w.setCell ⟨b, i, none⟩ (.int .i64 s)).cell? ⟨c, o, none⟩ = some x := fun c o x hcb ex =>
    (World.cell?_of_block (a := ⟨c, o, none⟩) (hb.block c (cell_lt ex) hcb)).trans ex
  have ht : ∀ o x, w.cell? ⟨t, o, none⟩ = some x → (w.setCell ⟨b, i, none⟩ (.int .i64 s)).cell? ⟨t, o, none⟩ = some x := fun o x e => hc t o x (Ne.symm hbt) e
  have hhb : D.hb ≠ b := by
    rintro e
    have h1 := h.shO.2.2.1
    rw [e] at h1
    obtain ⟨c, e2⟩ := h1 i _ h0
    cases e2
  refine ⟨h.bt, ht _ _ h.t0, ht _ _ h.t1, ht _ _ h.t2, ht _ _ h.t3, ht _ _ h.t4, ht _ _ h.t5, fun a ha => ?_, fun a ha => ?_, h.inj, fun a ha => ?_, fun c e => ?_, fun a ha => ?_, fun j hj => hc _ _ _ hhb (h.shut j hj), ?_⟩
  · obtain ⟨R, e, h1⟩ := h.row a ha
    exact ⟨R, e, hc _ _ _ (by rintro rfl; obtain ⟨k, e2⟩ := hall _ _ h1; cases e2) h1⟩
  · refine (h.num a ha).butW hno hb ?_ (fun j hj => rat_ne_all ((h.num a ha).num j hj).blk hall (fun A k c e => by obtain ⟨n, e⟩ := e; cases e))
    intro e
    have h1 := (h.num a ha).cell 0 (by omega)
    rw [e] at h1
    obtain ⟨k, e2⟩ := hall _ _ h1; cases e2
  · refine ⟨b, hbA, ?_⟩
    unfold Lp.pivB
    by_cases e : a = i
    · subst e; rw [if_pos rfl]; exact hsame
    · rw [if_neg e, hoth a e]
      obtain ⟨b', e', h1⟩ := h.bas a ha
      rw [hbA] at e'; injection e' with e'; injection e' with e'; subst e'
      exact h1
  · rw [hbA] at e; injection e with e; injection e with e; subst e
    refine ⟨hm0, hB, Nat.lt_of_lt_of_le hl hb.size, hbt, fun o x ex => ?_, fun j => by simp only [World.frozen?_setCell]; exact hfr j⟩
    by_cases ho : o = i
    · subst ho; rw [hsame] at ex; injection ex with ex; exact ⟨_, ex.symm⟩
    · rw [hoth o ho] at ex; exact hall o x ex
  · obtain ⟨s', e, h2, h1⟩ := h.sgn a ha
    exact ⟨s', e, h2, hc _ _ _ (by rintro rfl; exact h2 hbA) h1⟩
  · obtain ⟨h1, h2, h3, h4⟩ := h.shO
    have hs := hb.block _ h2 hhb
    exact ⟨h1, Nat.lt_of_lt_of_le h2 hb.size, h3.same hs, fun j => by simp only [World.frozen?_setCell]; exact h4 j⟩
theorem TabD.setSh (h : TabD w B t n m D T Bs sg sh) {i : Nat} (hi : i < n + 2 * m) (x : Bool) :
    TabD (w.setCell ⟨D.hb, i, none⟩ (.bool x)) B t n m D T Bs sg (fun j => if j = i then x else sh j) := by
  have hb : But D.hb w (w.setCell ⟨D.hb, i, none⟩ (.bool x)) := (But.refl _ w).set i _
  obtain ⟨hB, hl, hall, hfr⟩ := h.shO
  have hno : NoW w D.hb := fun o n e => by obtain ⟨k, e2⟩ := hall o _ e; cases e2
  have h0 := h.shut i hi
  have hsame := World.cell?_setCell_same w ⟨D.hb, i, none⟩ (.bool x) h0
  have hoth : ∀ o, o ≠ i → (w.setCell ⟨D.hb, i, none⟩ (.bool x)).cell? ⟨D.hb, o, none⟩ = w.cell? ⟨D.hb, o, none⟩ := fun o ho =>
    World.cell?_setCell_other w ⟨D.hb, i, none⟩ ⟨D.hb, o, none⟩ _ (by intro e; injection e with _ e; exact ho e.symm)
  have hc : ∀ c o y z, w.cell? ⟨c, z, none⟩ = some y → ¬ isB y → ∀ v, w.cell? ⟨c, o, none⟩ = some v → (w.setCell ⟨D.hb, i, none⟩ (.bool x)).cell? ⟨c, o, none⟩ = some v := fun c o y z ey hy v ev =>
    (World.cell?_of_block (a := ⟨c, o, none⟩) (hb.block c (cell_lt ev) (by rintro rfl; exact hy (hall _ _ ey)))).trans ev
  have hI : ∀ n, ¬ isB (.int .i64 n) := fun n e => by obtain ⟨k, e⟩ := e; cases e
  have hS : ∀ A k c, ¬ isB (.slice A k c) := fun A k c e => by obtain ⟨n, e⟩ := e; cases e
  have ht : ∀ o v, w.cell? ⟨t, o, none⟩ = some v → (w.setCell ⟨D.hb, i, none⟩ (.bool x)).cell? ⟨t, o, none⟩ = some v := fun o v e => hc t o _ _ h.t0 (hI _) v e
  refine ⟨h.bt, ht _ _ h.t0, ht _ _ h.t1, ht _ _ h.t2, ht _ _ h.t3, ht _ _ h.t4, ht _ _ h.t5, fun a ha => ?_, fun a ha => ?_, h.inj, fun a ha => ?_, fun c e => ?_, fun a ha => ?_, fun j hj => ?_, ?_⟩
  · obtain ⟨R, e, h1⟩ := h.row a ha
    exact ⟨R, e, hc _ _ _ _ h1 (hS _ _ _) _ h1⟩
  · refine (h.num a ha).butW hno hb ?_ (fun j hj => rat_ne_all ((h.num a ha).num j hj).blk hall hS)
    intro e
    have h1 := (h.num a ha).cell 0 (by omega)
    rw [e] at h1
    obtain ⟨k, e2⟩ := hall _ _ h1; cases e2
  · obtain ⟨b, e, h1⟩ := h.bas a ha
    exact ⟨b, e, hc _ _ _ _ h1 (hI _) _ h1⟩
  · obtain ⟨hm0, h1, h5, h2, h3, h4⟩ := h.basO c e
    obtain ⟨b', e', h6⟩ := h.bas 0 hm0
    rw [e] at e'; injection e' with e'; injection e' with e'; subst e'
    have hne : c ≠ D.hb := by rintro rfl; exact hI _ (hall _ _ h6)
    exact ⟨hm0, h1, Nat.lt_of_lt_of_le h5 hb.size, h2, h3.same (hb.block c h5 hne), fun j => by simp only [World.frozen?_setCell]; exact h4 j⟩
  · obtain ⟨s', e, h2, h1⟩ := h.sgn a ha
    exact ⟨s', e, h2, hc _ _ _ _ h1 (hI _) _ h1⟩
  · by_cases e : j = i
    · subst e; rw [if_pos rfl]; exact hsame
    · rw [if_neg e, hoth j e]; exact h.shut j hj
  · refine ⟨hB, Nat.lt_of_lt_of_le hl hb.size, fun o y ey => ?_, fun j => by simp only [World.frozen?_setCell]; exact hfr j⟩
    by_cases ho : o = i
    · subst ho; rw [hsame] at ey; injection ey with ey; exact ⟨_, ey.symm⟩
    · rw [hoth o ho] at ey; exact hall o y ey
end
end Go.Proofs.YtkljafmdbajfeaaGreatDoor

/- What a call on a tableau may change; sizes of rational numbers. -/
namespace Go.Proofs.YtkljafmdbajfeaaGreatDoor
open Go.RowKit
set_option linter.unusedVariables false
set_option linter.unusedSimpArgs false
structure Chg (S : Nat → Prop) (w w' : World) : Prop where
  os : w'.os = w.os
  tape : w'.tape = w.tape
  output : w'.output = w.output
  size : w.heap.size ≤ w'.heap.size
  block : ∀ k, k < w.heap.size → ¬ S k → w'.heap[k]? = w.heap[k]?
  words : ∀ k o n, w.cell? ⟨k, o, none⟩ = some (.int .u32 n) → w'.heap[k]? = w.heap[k]?
section
variable {S : Nat → Prop} {w w' w'' : World}
theorem Chg.refl (S : Nat → Prop) (w : World) : Chg S w w := ⟨rfl, rfl, rfl, Nat.le_refl _, fun _ _ _ => rfl, fun _ _ _ _ => rfl⟩
theorem Chg.trans (h : Chg S w w') (k : Chg S w' w'') : Chg S w w'' :=
  ⟨k.os.trans h.os, k.tape.trans h.tape, k.output.trans h.output, Nat.le_trans h.size k.size, fun i hi hb => (k.block i (Nat.lt_of_lt_of_le hi h.size) hb).trans (h.block i hi hb), fun i o n hc => by
    have h1 := h.words i o n hc
    have h2 : w'.cell? ⟨i, o, none⟩ = some (.int .u32 n) := (World.cell?_of_block (a := ⟨i, o, none⟩) h1).trans hc
    exact (k.words i o n h2).trans h1⟩
theorem Chg.mono {R : Nat → Prop} (h : Chg S w w') (hs : ∀ k, S k → R k) : Chg R w w' := ⟨h.os, h.tape, h.output, h.size, fun k hk ht => h.block k hk fun hS => ht (hs k hS), h.words⟩
theorem Chg.ofBelow (h : Below w.heap.size w w') : Chg S w w' := ⟨h.os, h.tape, h.output, h.size, fun k hk _ => h.block k hk, fun k o n hc => h.block k (cell_lt hc)⟩
theorem Chg.ext (h : Chg S w w') (k : Below w'.heap.size w' w'') : Chg S w w'' := h.trans (.ofBelow k)
theorem Chg.ofBut {p : Nat} (h : But p w w') (hp : NoW w p) (hs : S p) : Chg S w w' :=
  ⟨h.os, h.tape, h.output, h.size, fun k hk hS => h.block k hk (fun e => hS (e ▸ hs)), fun k o n hc => h.block k (cell_lt hc) (fun e => by subst e; exact hp _ _ hc)⟩
theorem Chg.below {B : Nat} (h : Chg S w w') (hs : ∀ k, S k → B ≤ k) (hB : B ≤ w.heap.size) : Below B w w' :=
  ⟨h.os, h.tape, h.output, h.size, fun k hk => h.block k (by omega) fun hS => by have := hs k hS; omega⟩
theorem IntBlk.noW {p : Nat} (h : IntBlk w p) : NoW w p := fun o n e => h.no _ _ _ e
theorem RatBlk.noW {p : Nat} (h : RatBlk w p) : NoW w p := h.int.noW
theorem WSl.chg {v : Value} {n : Nat} (h : WSl w v n) (hc : Chg S w w') : WSl w' v n := by
  obtain ⟨A, c, h1, h2, h3, h4⟩ := h
  refine ⟨A, c, h1, h2, h3, fun i hi => ?_⟩
  obtain ⟨b, off, e, h5⟩ := h4 i hi
  exact ⟨b, off, e, (World.cell?_of_block (w := w) (hc.words _ _ _ h5)).trans h5⟩
theorem RatP.chg {p : Nat} {x : Rat} (h : RatP w p x) (hc : Chg S w w') (hp : ¬ S p) : RatP w' p x := by
  have hs := hc.block p h.lt hp
  obtain ⟨h1, ⟨h2, u, h5, h6, h7⟩, v, h3, h4⟩ := h
  refine ⟨h1.same hs, ⟨h2.same hs, u, (World.cell?_of_block (a := ⟨p, 0, none⟩) hs).trans h5, (World.cell?_of_block (a := ⟨p, 1, none⟩) hs).trans h6, h7.chg hc⟩, v, (World.cell?_of_block (a := ⟨p, 2, none⟩) hs).trans h3, ?_⟩
  rcases h4 with h | ⟨h8, h⟩
  · exact .inl (h.chg hc)
  · exact .inr ⟨h8, h.chg hc⟩
theorem RowQ.chg {B b n m : Nat} {P : Nat → Nat} {q : Nat → Rat} (h : RowQ w B b n m P q) (hc : Chg S w w') (hb : ¬ S b) (hP : ∀ i, i < m → ¬ S (P i)) : RowQ w' B b n m P q := by
  have hs := hc.block b h.lt hb
  have hcc : ∀ o, w'.cell? ⟨b, o, none⟩ = w.cell? ⟨b, o, none⟩ := fun o => World.cell?_of_block (a := ⟨b, o, none⟩) hs
  exact ⟨h.ptrs.same hs, Nat.lt_of_lt_of_le h.lt hc.size, h.new, fun i => (World.frozen?_of_block (a := ⟨b, i, none⟩) hs).trans (h.fr i), fun i hi => by rw [hcc]; exact h.ex i hi, fun i hi => by rw [hcc]; exact h.cell i hi, fun i hi => (h.num i hi).chg hc (hP i hi), h.low, h.inj⟩
end
def inT (D : TA) (n m k : Nat) : Prop := (∃ i j, i < m ∧ j < n + 2 * m + 1 ∧ D.P i j = k) ∨ (0 < m ∧ D.bA = some ⟨k, 0, none⟩) ∨ k = D.hb
theorem TabD.old {w : World} {B t n m : Nat} {D : TA} {T : Lp.Tab} {Bs : Lp.Bas} {sg : Nat → Int} {sh : Nat → Bool} (h : TabD w B t n m D T Bs sg sh) : ∀ k, inT D n m k → B ≤ k ∧ k < w.heap.size := by
  rintro k (⟨i, j, hi, hj, rfl⟩ | ⟨hm, e⟩ | rfl)
  · exact ⟨(h.num i hi).low j hj, ((h.num i hi).num j hj).lt⟩
  · have := h.basO k e; exact ⟨this.2.1, this.2.2.1⟩
  · exact ⟨h.shO.1, h.shO.2.1⟩
def Sq (k : Nat) (x : Rat) : Prop := (digits x.num.natAbs).length ≤ k ∧ (digits x.den).length ≤ k
theorem Sq.rsm {k : Nat} {x : Rat} (h : Sq k x) (hk : k ≤ 10000000) : RSm x := ⟨Nat.le_trans h.1 hk, Nat.le_trans h.2 hk⟩
theorem Sq.mono {k l : Nat} {x : Rat} (h : Sq k x) (hk : k ≤ l) : Sq l x := ⟨Nat.le_trans h.1 hk, Nat.le_trans h.2 hk⟩
theorem mkRat_le (n : Int) (d : Nat) (hd : d ≠ 0) : (mkRat n d).num.natAbs ≤ n.natAbs ∧ (mkRat n d).den ≤ d := by
  rw [Rat.num_mkRat, Rat.den_mkRat, if_neg hd, if_neg hd]
  refine ⟨?_, Nat.div_le_self _ _⟩
  rw [Int.natAbs_ediv_of_dvd (Int.ofNat_dvd_left.2 (Nat.gcd_dvd_right _ _))]
  exact Nat.div_le_self _ _
theorem Sq.mul {k l : Nat} {x y : Rat} (hx : Sq k x) (hy : Sq l y) : Sq (k + l) (x * y) := by
  have h := mkRat_le (x.num * y.num) (x.den * y.den) (Nat.ne_of_gt (Nat.mul_pos x.den_pos y.den_pos))
  rw [rat_mul_mk] at h
  refine ⟨Nat.le_trans (digits_mono_len h.1) ?_, Nat.le_trans (digits_mono_len h.2) ?_⟩
  · rw [Int.natAbs_mul]; exact Nat.le_trans (mul_len _ _) (by have := hx.1; have := hy.1; omega)
  · exact Nat.le_trans (mul_len _ _) (by have := hx.2; have := hy.2; omega)
theorem Sq.neg {k : Nat} {x : Rat} (hx : Sq k x) : Sq k (-x) := by
  unfold Sq at *; rw [Rat.neg_num, Int.natAbs_neg, Rat.neg_den]; exact hx
theorem Sq.add {k l : Nat} {x y : Rat} (hx : Sq k x) (hy : Sq l y) : Sq (k + l + 1) (x + y) := by
  have h := mkRat_le (x.num * (y.den : Int) + y.num * (x.den : Int)) (x.den * y.den) (Nat.ne_of_gt (Nat.mul_pos x.den_pos y.den_pos))
  rw [rat_add_mk] at h
  refine ⟨Nat.le_trans (digits_mono_len h.1) ?_, Nat.le_trans (digits_mono_len h.2) ?_⟩
  · refine abs_add_len (k := k + l) ?_ ?_
    · rw [Int.natAbs_mul, Int.natAbs_natCast]; exact Nat.le_trans (mul_len _ _) (by have := hx.1; have := hy.2; omega)
    · rw [Int.natAbs_mul, Int.natAbs_natCast]; exact Nat.le_trans (mul_len _ _) (by have := hy.1; have := hx.2; omega)
  · exact Nat.le_trans (mul_len _ _) (by have := hx.2; have := hy.2; omega)
theorem Sq.sub {k l : Nat} {x y : Rat} (hx : Sq k x) (hy : Sq l y) : Sq (k + l + 1) (x - y) := by
  rw [Rat.sub_eq_add_neg]; exact hx.add hy.neg
theorem Sq.inv {k : Nat} {x : Rat} (hx : Sq k x) (h0 : x.num ≠ 0) : Sq k x⁻¹ := by
  unfold Sq at *
  rw [Rat.den_inv, if_neg h0, Rat.num_inv, Int.natAbs_mul, Int.natAbs_natCast, Int.natAbs_sign_of_ne_zero h0, Nat.one_mul]
  exact ⟨hx.2, hx.1⟩
end Go.Proofs.YtkljafmdbajfeaaGreatDoor
