/- A map from ints, known by what it holds: look-up, store, store of an entry. -/
import Derived.Maps.OwnSet
import Derived.WideKeyEntry
import Derived.Test.YtkljafmdbajfeaaGreatDoorReA03
import Derived.Test.YtkljafmdbajfeaaGreatDoorReA09
import Derived.Test.YtkljafmdbajfeaaGreatDoorReA23
import Derived.Test.YtkljafmdbajfeaaGreatDoorReA27
namespace Go.Proofs.YtkljafmdbajfeaaGreatDoor
open Go.RowKit Go.ChangeMaps Go.MapKept
open Go.Maps (Keyed)
open Go.WideElems (findIdx_arr findIdx_born set_self)
set_option linter.unusedVariables false
set_option linter.unusedSimpArgs false
end Go.Proofs.YtkljafmdbajfeaaGreatDoor

/- Package exact: vectors of whole numbers in memory; add. -/
namespace Go.Proofs.YtkljafmdbajfeaaGreatDoor
open Go.RowKit
set_option linter.unusedVariables false
set_option linter.unusedSimpArgs false
def Ptrs (w : World) (p : Nat) : Prop := ∀ o x, w.cell? ⟨p, o, none⟩ = some x → ∃ a, x = .pointer a
theorem Ptrs.no {w : World} {p : Nat} (h : Ptrs w p) (o : Nat) (k : IntKind) (n : Int) : w.cell? ⟨p, o, none⟩ ≠ some (.int k n) := fun e => by
 obtain ⟨a, h1⟩ := h _ _ e; cases h1
theorem Ptrs.same {w w' : World} {p : Nat} (h : Ptrs w p) (hb : w'.heap[p]? = w.heap[p]?) : Ptrs w' p := fun o x e => h o x (by rw [← e]; exact (World.cell?_of_block (a := ⟨p, o, none⟩) hb).symm)
theorem Ptrs.ne {w : World} {p q : Nat} {z : Int} (h : Ptrs w p) (k : BigP w q z) : q ≠ p := by
 rintro rfl
 obtain ⟨-, v, h1, -⟩ := k
 obtain ⟨a, h2⟩ := h _ _ h1; cases h2
theorem WSl.butP {w w' : World} {v : Value} {n p : Nat} (h : WSl w v n) (hp : Ptrs w p) (hb : But p w w') : WSl w' v n := by
 obtain ⟨A, c, h1, h2, h3, h4⟩ := h
 refine ⟨A, c, h1, h2, h3, fun i hi => ?_⟩
 obtain ⟨b, off, e, hc⟩ := h4 i hi
 refine ⟨b, off, e, ?_⟩
 have hne : b ≠ p := by rintro rfl; exact hp.no _ _ _ hc
 rw [World.cell?_of_block (w := w) (hb.block b (cell_lt hc) hne)]; exact hc
theorem BigP.butP {w w' : World} {p q : Nat} {z : Int} (h : BigP w q z) (hp : Ptrs w p) (hb : But p w w') : BigP w' q z := by
 have hne := hp.ne h
 have hq := hb.block q h.lt hne
 obtain ⟨h0, v, h1, h2, h3⟩ := h
 exact ⟨h0.same hq, v, (World.cell?_of_block (a := ⟨q, 0, none⟩) hq).trans h1, (World.cell?_of_block (a := ⟨q, 1, none⟩) hq).trans h2, h3.butP hp hb⟩
def VecX (X : Nat → Prop) (w : World) (v : Value) (n : Nat) (f : Nat → Int) : Prop :=
 ∃ A c, v = .slice A n c ∧ n ≤ c ∧ c ≤ maxLen ∧ ∀ i, i < n → ∃ b o p, A = some ⟨b, o, none⟩ ∧ X b ∧ w.cell? ⟨b, o + i, none⟩ = some (.pointer (some ⟨p, 0, none⟩)) ∧ BigP w p (f i)
abbrev VecP := VecX fun _ => True
theorem VecX.ext {X : Nat → Prop} {w w' : World} {v : Value} {n : Nat} {f : Nat → Int} (h : VecX X w v n f) (hb : Below w.heap.size w w') : VecX X w' v n f := by
 obtain ⟨A, c, h1, h2, h3, h4⟩ := h
 refine ⟨A, c, h1, h2, h3, fun i hi => ?_⟩
 obtain ⟨b, o, p, e, hx, hc, hz⟩ := h4 i hi
 exact ⟨b, o, p, e, hx, (hb.cell (p := ⟨b, o + i, none⟩) (cell_lt hc)).trans hc, hz.ext hb⟩
theorem VecX.mono {X Y : Nat → Prop} {w : World} {v : Value} {n : Nat} {f : Nat → Int} (h : VecX X w v n f) (hb : ∀ b, X b → Y b) : VecX Y w v n f := by
 obtain ⟨A, c, h1, h2, h3, h4⟩ := h
 refine ⟨A, c, h1, h2, h3, fun i hi => ?_⟩
 obtain ⟨b, o, p, e, hx, hc, hz⟩ := h4 i hi
 exact ⟨b, o, p, e, hb b hx, hc, hz⟩
theorem VecX.at {X : Nat → Prop} {w : World} {A : Option Addr} {n c m : Nat} {f : Nat → Int} (h : VecX X w (.slice A m c) n f) {i : Nat} (hi : i < n) : ∃ b o p, A = some ⟨b, o, none⟩ ∧ X b ∧ w.cell? ⟨b, o + i, none⟩ = some (.pointer (some ⟨p, 0, none⟩)) ∧ BigP w p (f i) := by
 obtain ⟨A', c', h1, h2, h3, h4⟩ := h
 injection h1 with e1 e2 e3
 subst e1
 exact h4 i hi
structure OwnV (w : World) (b n m : Nat) (f : Nat → Int) : Prop where
 ptrs : Ptrs w b
 lt : b < w.heap.size
 fr : ∀ i, w.frozen? ⟨b, i, none⟩ = false
 ex : ∀ i, i < n → ∃ a, w.cell? ⟨b, i, none⟩ = some (.pointer a)
 num : ∀ i, i < m → ∃ p, w.cell? ⟨b, i, none⟩ = some (.pointer (some ⟨p, 0, none⟩)) ∧ BigP w p (f i)
theorem OwnV.ext {w w' : World} {b n m : Nat} {f : Nat → Int} (h : OwnV w b n m f) (hb : Below w.heap.size w w') : OwnV w' b n m f := by
 have hs := hb.block b h.lt
 have hc : ∀ o, w'.cell? ⟨b, o, none⟩ = w.cell? ⟨b, o, none⟩ := fun o => World.cell?_of_block (a := ⟨b, o, none⟩) hs
 refine ⟨h.ptrs.same hs, Nat.lt_of_lt_of_le h.lt hb.size, fun i => (World.frozen?_of_block (a := ⟨b, i, none⟩) hs).trans (h.fr i), fun i hi => ?_, fun i hi => ?_⟩
 ·rw [hc]; exact h.ex i hi
 ·obtain ⟨p, h1, h2⟩ := h.num i hi
  exact ⟨p, by rw [hc]; exact h1, h2.ext hb⟩
theorem OwnV.set {w : World} {b n m m' i p : Nat} {f g : Nat → Int} (h : OwnV w b n m f) (hi : i < n) (hp : BigP w p (g i)) (hm : ∀ j, j < m' → j ≠ i → j < m ∧ f j = g j) : OwnV (w.setCell ⟨b, i, none⟩ (.pointer (some ⟨p, 0, none⟩))) b n m' g := by
 have hb : But b w (w.setCell ⟨b, i, none⟩ (.pointer (some ⟨p, 0, none⟩))) := (But.refl b w).set i _
 obtain ⟨a0, h0⟩ := h.ex i hi
 have hsame := World.cell?_setCell_same w ⟨b, i, none⟩ (.pointer (some ⟨p, 0, none⟩)) h0
 have hoth : ∀ o, o ≠ i → (w.setCell ⟨b, i, none⟩ (.pointer (some ⟨p, 0, none⟩))).cell? ⟨b, o, none⟩ = w.cell? ⟨b, o, none⟩ := fun o ho =>
  World.cell?_setCell_other w ⟨b, i, none⟩ ⟨b, o, none⟩ _ (by intro e; injection e with _ e; exact ho e.symm)
 refine ⟨fun o x e => ?_, Nat.lt_of_lt_of_le h.lt hb.size, fun j => ?_, fun j hj => ?_, fun j hj => ?_⟩
 ·by_cases ho : o = i
  ·subst ho; rw [hsame] at e; injection e with e; exact ⟨_, e.symm⟩
  ·rw [hoth o ho] at e; exact h.ptrs o x e
 ·simp only [World.frozen?_setCell]; exact h.fr j
 ·by_cases ho : j = i
  ·subst ho; exact ⟨_, hsame⟩
  ·rw [hoth j ho]; exact h.ex j hj
 ·by_cases ho : j = i
  ·subst ho; exact ⟨p, hsame, hp.butP h.ptrs hb⟩
  ·obtain ⟨h1, h2⟩ := hm j hj ho
   obtain ⟨q, h3, h4⟩ := h.num j h1
   exact ⟨q, by rw [hoth j ho]; exact h3, by rw [← h2]; exact h4.butP h.ptrs hb⟩
theorem OwnV.vec {w : World} {b n c : Nat} {f : Nat → Int} (h : OwnV w b n n f) (h1 : n ≤ c) (h2 : c ≤ maxLen) : VecX (· = b) w (.slice (some ⟨b, 0, none⟩) n c) n f :=
 ⟨_, c, rfl, h1, h2, fun i hi => by obtain ⟨p, h3, h4⟩ := h.num i hi; exact ⟨b, 0, p, rfl, rfl, by rw [Nat.zero_add]; exact h3, h4⟩⟩
end Go.Proofs.YtkljafmdbajfeaaGreatDoor

/- Package exact: mix, a new vector of two. -/
namespace Go.Proofs.YtkljafmdbajfeaaGreatDoor
open Go.RowKit
set_option linter.unusedVariables false
set_option linter.unusedSimpArgs false
def nils (n : Nat) : List Value := List.replicate n (.pointer none)
theorem infoPtr : (Tryz.prog.info? 150).map (fun i => (i.zero, i.size, i.bytes)) = some (some (.pointer none), 1, 8) := by kernel_rfl
theorem madeNils (n : Nat) : madeCells (Value.pointer none).cells n = (nils n).toArray := by
 unfold madeCells nils
 apply Array.ext
 ·simp
 ·intro j h1 h2; simp [Value.cells, Nat.mod_one]
theorem run_makeVec (w : World) (n : Nat) (h : n ≤ 35184372088832) :
  (Instr.makeSlice 112 (.int .i64 n) (.int .i64 n)).run Tryz.prog w = .ok (.slice (some ⟨w.heap.size, 0, none⟩) n n) (w.alloc (.cells (nils n).toArray 150 (0, 0))) := by
 obtain ⟨i, hi, hz, hs, hb⟩ := info_parts infoPtr
 rw [run_make w 112 150 i (.pointer none) Tryz.underlying112 hi hz .i64 .i64 n n (by omega) (by omega) (by rw [hb]; omega) (by omega)]
 simp only [Int.toNat_natCast, hs, Nat.mul_one]
 rw [madeNils]
theorem OwnV.made (w : World) (n : Nat) (f : Nat → Int) : OwnV (w.alloc (.cells (nils n).toArray 150 (0, 0))) w.heap.size n 0 f := by
 have hb := Blk.new w (nils n) 150
 refine ⟨fun o x e => ?_, hb.lt, fun i => hb.free i, fun i hi => ⟨none, ?_⟩, fun i hi => by omega⟩
 ·have := cell_in hb e
  exact ⟨none, List.eq_of_mem_replicate this⟩
 ·have hl : i < (nils n).length := by unfold nils; simpa using hi
  rw [hb.cell i hl]; simp [nils]
end Go.Proofs.YtkljafmdbajfeaaGreatDoor

/- Package exact: down: a vector's number in a pivot's column brought below the pivot. -/
namespace Go.Proofs.YtkljafmdbajfeaaGreatDoor
open Go.RowKit Go.ChangeMaps
set_option linter.unusedVariables false
set_option linter.unusedSimpArgs false
end Go.Proofs.YtkljafmdbajfeaaGreatDoor

/- A region that draws its order, in which the calls that change old memory are chained: constants beside, and one fact that goes from call to call. -/
namespace Go.Proofs.YtkljafmdbajfeaaGreatDoor
open Go.RowKit
set_option linter.unusedVariables false
set_option linter.unusedSimpArgs false
theorem nat_inj {ch : List Nat} (hnd : ch.Nodup) {j j' i : Nat} (h : ch[j]? = some i) (h' : ch[j']? = some i) : j = j' := ds_inj (ds := ch) hnd h h'
def given (ch : List Nat) (ds : List Tmp) (k : Nat) (x : Tmp → Value) : List Value := (ch.take k).map fun i => x (ds.getD i 0)
variable {P : Program} {Q : Exit → Act → World → Prop} {a0 : Act} {w0 : World} {F : (Tmp → Value) → Act}
end Go.Proofs.YtkljafmdbajfeaaGreatDoor

/- Package exact: a lattice in memory; insert. -/
namespace Go.Proofs.YtkljafmdbajfeaaGreatDoor
open Go.RowKit Go.ChangeMaps
open Lp (Lt V lv)
set_option linter.unusedVariables false
set_option linter.unusedSimpArgs false
end Go.Proofs.YtkljafmdbajfeaaGreatDoor

/- Package exact: Pivots; a copy of a vector. -/
namespace Go.Proofs.YtkljafmdbajfeaaGreatDoor
open Go.RowKit Go.ChangeMaps
open Lp (Lt V)
set_option linter.unusedVariables false
set_option linter.unusedSimpArgs false
theorem own_block {w : World} {base size n : Nat} {e : TypeId} {v : Value} {xs : List Value} (h : w.ownsRow base e size v n xs) : ∀ k, v.ownBlock = some k → base ≤ k := by
 intro k hk
 rcases h.2 with ⟨rfl, -⟩ | ⟨g, cap, cur, rfl, hg, -⟩
 ·simp [Value.ownBlock] at hk
 ·simp [Value.ownBlock] at hk; omega
theorem own_size {w : World} {base size n : Nat} {e : TypeId} {v : Value} {xs : List Value} (h : w.ownsRow base e size v n xs) : ∃ A c, v = .slice A n c ∧ n ≤ c ∧ c ≤ maxLen := by
 rcases h.2 with ⟨rfl, rfl⟩ | ⟨g, cap, cur, rfl, hg, -, h1, h2, -⟩
 ·exact ⟨none, 0, rfl, Nat.le_refl _, Nat.zero_le _⟩
 ·exact ⟨_, cap, rfl, h1, h2⟩
theorem own_ext {w w' : World} {size n : Nat} {base : Nat} {e : TypeId} {v : Value} {xs : List Value} (h : w.ownsRow base e size v n xs) (hb : Below w.heap.size w w') : w'.ownsRow base e size v n xs := by
 refine ⟨h.1, ?_⟩
 rcases h.2 with h0 | ⟨g, cap, cur, rfl, hg, hh, h3⟩
 ·exact .inl h0
 ·exact .inr ⟨g, cap, cur, rfl, hg, (hb.block g (lt_of_block hh)).trans hh, h3⟩
end Go.Proofs.YtkljafmdbajfeaaGreatDoor

/- Package exact: a copy of a vector; tidy. -/
namespace Go.Proofs.YtkljafmdbajfeaaGreatDoor
open Go.RowKit Go.ChangeMaps
open Lp (Lt V lv)
set_option linter.unusedVariables false
set_option linter.unusedSimpArgs false
def NoBlk (w : World) (p : Nat) : Prop := False
end Go.Proofs.YtkljafmdbajfeaaGreatDoor

/- Package exact: Lat, the lattice of some vectors. -/
namespace Go.Proofs.YtkljafmdbajfeaaGreatDoor
open Go.RowKit Go.ChangeMaps
open Lp (Lt V lv)
set_option linter.unusedVariables false
set_option linter.unusedSimpArgs false
end Go.Proofs.YtkljafmdbajfeaaGreatDoor

/- append onto an own row: what all its cells are stays so. -/
namespace Go.Proofs.YtkljafmdbajfeaaGreatDoor
open Go.RowKit Go.ChangeMaps
set_option linter.unusedVariables false
set_option linter.unusedSimpArgs false
def AllC (Q : Value → Prop) (w : World) (g : Nat) : Prop := ∀ o x, w.cell? ⟨g, o, none⟩ = some x → Q x
def OwnC (Q : Value → Prop) (w : World) (v : Value) : Prop := ∀ g, v.ownBlock = some g → AllC Q w g
theorem AllC.same {Q : Value → Prop} {w w' : World} {g : Nat} (h : AllC Q w g) (hb : w'.heap[g]? = w.heap[g]?) : AllC Q w' g := fun o x e => h o x (by rw [← e]; exact (World.cell?_of_block (a := ⟨g, o, none⟩) hb).symm)
theorem AllC.made {Q : Value → Prop} {w : World} {g : Nat} {cs : Array Value} {e : TypeId} (h : w.heap[g]? = some (.cells cs e (0, 0))) (hq : ∀ x ∈ cs, Q x) : AllC Q w g := fun o x hx => by
 simp only [World.cell?, h] at hx
 simp at hx
 obtain ⟨hl, rfl⟩ := Array.getElem?_eq_some_iff.1 hx
 exact hq _ (Array.getElem_mem hl)
theorem run_append_all {Q : Value → Prop} {w : World} (base : Nat) (t ty e : TypeId) (i : TypeInfo) (z : Value) (bytes : Nat) (ht : Tryz.prog.underlying t = some (.slice e)) (hi : Tryz.prog.info? e = some i) (hz : i.zero = some z)
  (hsize : i.size = 1) (hby : i.bytes = bytes) (hzs : z.cells = #[z]) (hQz : Q z)
  (v : Value) (n : Nat) (xs : List Value) (hown : w.ownsRow base e 1 v n xs) (hall : OwnC Q w v)
  (a : Addr) (m c : Nat) (news : List Value) (hl : news.length = m) (hnews : ∀ j u, news[j]? = some u → w.cell? (a.add j) = some u) (h1 : ∀ u ∈ news, u.oneCell' = true) (hQn : ∀ u ∈ news, Q u)
  (h0 : 0 < m) (h63 : n + m ≤ maxLen) (hbytes : (n + m) * bytes ≤ 140737488355328) (hbase : base ≤ w.heap.size) :
  ∃ v' w', (Builtin.append_ #[t, t] ty #[v, .slice (some a) m c]).run Tryz.prog w = .ok v' w' ∧ w'.ownsRow base e 1 v' (n + m) (xs ++ news) ∧ w.grownBy w' v.ownBlock ∧ OwnC Q w' v' := by
 obtain ⟨v', w', hr, ho, hg, -⟩ := run_append_own (P := Tryz.prog) w base t ty e i z 1 bytes ht hi hz hsize hby (by rw [hzs]; rfl) (by omega) v n xs hown a m c news (by rw [hl, Nat.mul_one]) hnews h1 h63 hbytes hbase
 refine ⟨v', w', hr, ho, hg, ?_⟩
 have hzc : ∀ k, ∀ x ∈ Builtin.zeroCells z.cells k, Q x := fun k x hx => by
  rw [Builtin.zeroCells, Array.mem_map] at hx
  obtain ⟨q, -, rfl⟩ := hx
  rw [hzs]
  simpa [Nat.mod_one] using hQz
 subst hl
 rcases hown.2 with ⟨rfl, rfl⟩ | ⟨g, cap, cur, rfl, hbg, hgh, hnc, hcm, hcs, htake⟩
 ·have hn := run_append_nil (P := Tryz.prog) w t ty e i z ht hi hz a news.length c news (by rw [hsize, Nat.mul_one]) hnews h0 (by simp only [maxLen] at h63; omega) (by rw [hby]; have hb := hbytes; simp only [Nat.zero_add] at hb; omega)
  rw [hn] at hr
  injection hr with e1 e2
  subst e1; subst e2
  intro g hg
  simp [Value.ownBlock] at hg
  subst hg
  refine AllC.made (heap_alloc_new w.drew _) fun x hx => ?_
  rcases Array.mem_append.1 hx with h | h
  ·exact hQn x (by simpa using h)
  ·exact hzc _ x h
 ·have hall' : ∀ x ∈ cur, Q x := fun x hx => by
   obtain ⟨o, ho, rfl⟩ := Array.getElem_of_mem hx
   refine hall g rfl o _ ?_
   simp [World.cell?, hgh, ho]
  by_cases hroom : n + news.length ≤ cap
  ·have hrm := run_append_room (P := Tryz.prog) w t ty e i ht hi g n cap cur hgh a news.length c news (by rw [hsize, Nat.mul_one]) hnews h1 hroom (by rw [hsize]; omega)
   rw [hrm] at hr
   injection hr with e1 e2
   subst e1; subst e2
   intro g' hg'
   simp [Value.ownBlock] at hg'
   subst hg'
   refine AllC.made (setRow_heap w g cur _ e _ hgh) fun x hx => ?_
   rw [List.mem_toArray, List.mem_append, List.mem_append] at hx
   rcases hx with (h | h) | h
   ·exact hall' x (by simpa using List.mem_of_mem_take h)
   ·exact hQn x h
   ·exact hall' x (by simpa using List.mem_of_mem_drop h)
  ·have holds : ∀ j u, xs[j]? = some u → w.cell? ((⟨g, 0, none⟩ : Addr).add j) = some u := hown.cells (g := g) rfl
   have hgr := run_append_grow (P := Tryz.prog) w t ty e i z ht hi hz ⟨g, 0, none⟩ n cap xs (by rw [hsize]; exact hown.1) holds a news.length c news (by rw [hsize, Nat.mul_one]) hnews (by omega) (by simp only [maxLen] at h63; omega) (by rw [hby]; exact growslice_fits (by omega) hbytes)
   rw [hgr] at hr
   injection hr with e1 e2
   subst e1; subst e2
   intro g' hg'
   simp [Value.ownBlock] at hg'
   subst hg'
   refine AllC.made (heap_alloc_new w.drew _) fun x hx => ?_
   rcases Array.mem_append.1 hx with h | h
   ·rcases Array.mem_append.1 h with h2 | h2
    ·have : x ∈ xs := by simpa using h2
     rw [← htake] at this
     exact hall' x (by simpa using List.mem_of_mem_take this)
    ·exact hQn x (by simpa using h2)
   ·exact hzc _ x h
theorem wpList_append_all {ops : Array Oper} {rest : List Oper} {o : Oper} {a : Act} {R : Exit → Act → World → Prop} {w : World} (Q : Value → Prop) (hgd : o.guard = none) (s x : Operand) (t : TypeId)
  (ho : o.op = .call { callee := .builtin .append, args := #[s, x], argTypes := #[t, t] })
  (base : Nat) (e : TypeId) (i : TypeInfo) (z : Value) (bytes : Nat) (ht : Tryz.prog.underlying t = some (.slice e)) (hi : Tryz.prog.info? e = some i) (hz : i.zero = some z)
  (hsize : i.size = 1) (hby : i.bytes = bytes) (hzs : z.cells = #[z]) (hQz : Q z)
  (v : Value) (n : Nat) (xs : List Value) (hs : a.eval s = v) (hown : w.ownsRow base e 1 v n xs) (hall : OwnC Q w v)
  (ad : Addr) (m c : Nat) (news : List Value) (hx : a.eval x = .slice (some ad) m c) (hl : news.length = m) (hnews : ∀ j u, news[j]? = some u → w.cell? (ad.add j) = some u) (h1 : ∀ u ∈ news, u.oneCell' = true) (hQn : ∀ u ∈ news, Q u)
  (h0 : 0 < m) (h63 : n + m ≤ maxLen) (hbytes : (n + m) * bytes ≤ 140737488355328) (hbase : base ≤ w.heap.size)
  (h : ∀ v' w', w'.ownsRow base e 1 v' (n + m) (xs ++ news) → w.grownBy w' v.ownBlock → OwnC Q w' v' → wpList Tryz.prog ops R rest (a.put o.dst v') w') : wpList Tryz.prog ops R (o :: rest) a w :=
 wpList_plain hgd fun K hK => by
  obtain ⟨v', w', hr, h2, h3, h4⟩ := run_append_all (w := w) base t o.type e i z bytes ht hi hz hsize hby hzs hQz v n xs hown hall ad m c news hl hnews h1 hQn h0 h63 hbytes hbase
  unfold Oper.wp execOp
  simp only [ho, resolve, invoke, builtin, Sem.run_bind, Sem.run_pure, Result.andThen_ok, List.map_toArray, List.map_cons, List.map_nil, hs, hx, hr]
  exact hK _ _ (h v' w' h2 h3 h4)
theorem OwnC.nil (Q : Value → Prop) (w : World) (n c : Nat) : OwnC Q w (.slice none n c) := fun g h => by simp [Value.ownBlock] at h
theorem OwnC.ext {Q : Value → Prop} {w w' : World} {base size n : Nat} {e : TypeId} {v : Value} {xs : List Value} (h : OwnC Q w v) (ho : w.ownsRow base e size v n xs) (hb : Below w.heap.size w w') : OwnC Q w' v := fun g hg => (h g hg).same (hb.block g (World.ownsRow.lt ho g hg).2)
def isPtr (x : Value) : Prop := ∃ a, x = .pointer a
def isSl (x : Value) : Prop := ∃ A n c, x = .slice A n c
end Go.Proofs.YtkljafmdbajfeaaGreatDoor

/- Package exact: Of, a vector of ints; linear.vectors. -/
namespace Go.Proofs.YtkljafmdbajfeaaGreatDoor
open Go.RowKit Go.ChangeMaps
set_option linter.unusedVariables false
set_option linter.unusedSimpArgs false
def pv (p : Nat) : Value := .pointer (some ⟨p, 0, none⟩)
end Go.Proofs.YtkljafmdbajfeaaGreatDoor

/- linear.vectors; exact.Lattice.Rows: lists of vectors. -/
namespace Go.Proofs.YtkljafmdbajfeaaGreatDoor
open Go.RowKit Go.ChangeMaps
open Lp (Lt V lv)
set_option linter.unusedVariables false
set_option linter.unusedSimpArgs false
end Go.Proofs.YtkljafmdbajfeaaGreatDoor

/- exact.Lattice.Rows: the basis. -/
namespace Go.Proofs.YtkljafmdbajfeaaGreatDoor
open Go.RowKit Go.ChangeMaps
open Lp (Lt V lv)
set_option linter.unusedVariables false
set_option linter.unusedSimpArgs false
end Go.Proofs.YtkljafmdbajfeaaGreatDoor

/- exact.Vec.Ints; linear.ints. -/
namespace Go.Proofs.YtkljafmdbajfeaaGreatDoor
open Go.RowKit Go.ChangeMaps
open Lp (V)
set_option linter.unusedVariables false
set_option linter.unusedSimpArgs false
def intsTo (f : V) (n i : Nat) : List Int := (List.range n).map fun j => if j < i then wrap64 (f j) else 0
theorem intsTo_len (f : V) (n i : Nat) : (intsTo f n i).length = n := by unfold intsTo; simp
theorem intsTo_zero (f : V) (n : Nat) : intsTo f n 0 = zeros n := by
 unfold intsTo zeros
 apply List.ext_getElem (by simp)
 intro i h1 h2; simp
theorem intsTo_set (f : V) {n i : Nat} (hi : i < n) : (intsTo f n i).set i (wrap64 (f i)) = intsTo f n (i + 1) := by
 unfold intsTo
 apply List.ext_getElem (by simp)
 intro j h1 h2
 rw [List.getElem_set]
 simp only [List.getElem_map, List.getElem_range]
 by_cases hj : i = j
 ·subst hj; simp
 ·rw [if_neg hj]
  by_cases h3 : j < i
  ·rw [if_pos h3, if_pos (by omega)]
  ·rw [if_neg h3, if_neg (by omega)]
set_option maxRecDepth 100000 in
set_option maxHeartbeats 2000000 in
theorem vecInts_calls (n : Nat) (f : V) (v : Value) (w : World) (hv : VecP w v n f) (hn : n ≤ 1000) :
  Calls Tryz.prog 91 #[v] w fun e w' => ∃ g, e = .returned (.slice (some ⟨g, 0, none⟩) n n) ∧ w.heap.size ≤ g ∧ IBlk w' g (intsTo f n n) ∧ Below w.heap.size w w' := by
 obtain ⟨A, c, rfl, hc, -⟩ := id hv
 have hmk := fun w => run_makeInts w n (by omega)
 have HV := Lib.hid hv
 have H0 : Hid (IBlk (w.alloc (.cells ((zeros n).map (Value.int .i64)).toArray 3 (0, 0))) w.heap.size (intsTo f n 0)) := Lib.hid (by rw [intsTo_zero]; exact IBlk.made w n)
 have HA : Hid (Below w.heap.size w (w.alloc (.cells ((zeros n).map (Value.int .i64)).toArray 3 (0, 0)))) := Lib.hid ((Below.refl _ _).alloc (Nat.le_refl _) _)
 clear hv
 go_enter Tryz.func91, Tryz.ntmps91
 go_wp2_with fail
 go_loopw [11] (fun ti wr => ∃ (i : Nat), i ≤ n ∧ ti = .int .i64 i ∧ Hid (IBlk wr w.heap.size (intsTo f n i)) ∧ Hid (Below w.heap.size w wr)) (fun ti _ => n - (intOf ti).toNat)
 case atStart => exact ⟨0, Nat.zero_le _, rfl, H0, HA⟩
 case round =>
  obtain ⟨i, hi, rfl, hI, hbe⟩ := hrel
  by_cases hlt : i < n
  ·have hn1 : (i : Int) < n := by omega
   obtain ⟨b, o, p, rfl, -, hc2, hz⟩ := (HV.out.ext hbe.out).at hlt
   have HI64 := Lib.hid (int64_calls p (f i) wr hz)
   clear hz
   go_wp2_with fail
   refine HI64.out.mono ?_; rintro e w2 ⟨rfl, hb2⟩
   have hI2 : IBlk w2 w.heap.size (intsTo f n i) := Blk.ext hI.out hb2
   have hl := intsTo_len f n i
   have g3 := hI2.cell i (by omega)
   have f3 := Blk.free hI2 i
   have hset := hI2.set i (wrap64 (f i))
   rw [intsTo_set f hlt] at hset
   have HST := Lib.hid hset; have HB := Lib.hid (hbe.out.trans (hb2.mono hbe.out.size))
   clear hset hI2 hb2 HI64 hl
   go_wp2
   go_roundw
   case rel => exact ⟨i + 1, by omega, by go_num, HST, Lib.hid (HB.out.setCell (Nat.le_refl _) _)⟩
   case measure => simp [intOf]; omega
  ·obtain rfl : i = n := by omega
   go_wp2
   go_ret
   exact ⟨_, rfl, Nat.le_refl _, hI.out, hbe.out⟩
end Go.Proofs.YtkljafmdbajfeaaGreatDoor

/- linear.ints: vectors as rows of ints. -/
namespace Go.Proofs.YtkljafmdbajfeaaGreatDoor
open Go.RowKit Go.ChangeMaps
open Lp (V)
set_option linter.unusedVariables false
set_option linter.unusedSimpArgs false
end Go.Proofs.YtkljafmdbajfeaaGreatDoor

/- linear.Hermite. -/
namespace Go.Proofs.YtkljafmdbajfeaaGreatDoor
open Go.RowKit Go.ChangeMaps
open Lp (Lt V lv)
set_option linter.unusedVariables false
set_option linter.unusedSimpArgs false
end Go.Proofs.YtkljafmdbajfeaaGreatDoor

/- exact.Lattice.Reduce: a vector's own one of those that differ from it by the lattice. -/
namespace Go.Proofs.YtkljafmdbajfeaaGreatDoor
open Go.RowKit Go.ChangeMaps
open Lp (Lt V lv)
set_option linter.unusedVariables false
set_option linter.unusedSimpArgs false
end Go.Proofs.YtkljafmdbajfeaaGreatDoor

/- Package exact: rows of rational numbers that may be set. -/
namespace Go.Proofs.YtkljafmdbajfeaaGreatDoor
open Go.RowKit
set_option linter.unusedVariables false
set_option linter.unusedSimpArgs false
theorem RatP.butP {w w' : World} {p q : Nat} {x : Rat} (h : RatP w q x) (hp : Ptrs w p) (hb : But p w w') : RatP w' q x := by
 obtain ⟨h1, h2, v, h3, h4⟩ := h
 have hne := hp.ne h2
 have hs := hb.block q h2.lt hne
 refine ⟨h1.same hs, h2.butP hp hb, v, (World.cell?_of_block (a := ⟨q, 2, none⟩) hs).trans h3, ?_⟩
 rcases h4 with h | ⟨h5, h⟩
 ·exact .inl (h.butP hp hb)
 ·exact .inr ⟨h5, h.butP hp hb⟩
theorem ratZero (w : World) : RatP (w.alloc (.cells #[.bool false, .slice none 0 0, .slice none 0 0] 203 (0, 0))) w.heap.size 0 := by
 have hb := Blk.new w [.bool false, .slice none 0 0, .slice none 0 0] 203
 have hz : ∀ w : World, WSl w (.slice none 0 0) 0 := fun w => ⟨none, 0, by rw [digits_zero]; rfl, by rw [digits_zero]; exact Nat.le_refl _, by omega, fun i hi => by rw [digits_zero] at hi; simp at hi⟩
 exact ⟨RatBlk.new w, ⟨(RatBlk.new w).int, _, hb.cell 0 (by simp), hb.cell 1 (by simp), hz _⟩, _, hb.cell 2 (by simp), .inr ⟨rfl, hz _⟩⟩
structure RowQ (w : World) (B b n m : Nat) (P : Nat → Nat) (q : Nat → Rat) : Prop where
 ptrs : Ptrs w b
 lt : b < w.heap.size
 new : B ≤ b
 fr : ∀ i, w.frozen? ⟨b, i, none⟩ = false
 ex : ∀ i, i < n → ∃ a, w.cell? ⟨b, i, none⟩ = some (.pointer a)
 cell : ∀ i, i < m → w.cell? ⟨b, i, none⟩ = some (.pointer (some ⟨P i, 0, none⟩))
 num : ∀ i, i < m → RatP w (P i) (q i)
 low : ∀ i, i < m → B ≤ P i
 inj : ∀ i j, i < m → j < m → P i = P j → i = j
theorem RowQ.ext {w w' : World} {B b n m : Nat} {P : Nat → Nat} {q : Nat → Rat} (h : RowQ w B b n m P q) (hb : Below w.heap.size w w') : RowQ w' B b n m P q := by
 have hs := hb.block b h.lt
 have hc : ∀ o, w'.cell? ⟨b, o, none⟩ = w.cell? ⟨b, o, none⟩ := fun o => World.cell?_of_block (a := ⟨b, o, none⟩) hs
 exact ⟨h.ptrs.same hs, Nat.lt_of_lt_of_le h.lt hb.size, h.new, fun i => (World.frozen?_of_block (a := ⟨b, i, none⟩) hs).trans (h.fr i), fun i hi => by rw [hc]; exact h.ex i hi, fun i hi => by rw [hc]; exact h.cell i hi, fun i hi => (h.num i hi).ext hb, h.low, h.inj⟩
theorem RowQ.congr {w : World} {B b n m : Nat} {P : Nat → Nat} {q r : Nat → Rat} (h : RowQ w B b n m P q) (e : ∀ i, i < m → q i = r i) : RowQ w B b n m P r :=
 { h with num := fun i hi => by rw [← e i hi]; exact h.num i hi }
theorem RowQ.ne {w : World} {B b n m p : Nat} {P : Nat → Nat} {q : Nat → Rat} (h : RowQ w B b n m P q) (hp : IntBlk w p) : b ≠ p := by
 rintro rfl
 obtain ⟨x, A, k, c, h0, -⟩ := hp.c
 obtain ⟨a, e⟩ := h.ptrs _ _ h0; cases e
theorem RowQ.other {w w' : World} {B b n m p : Nat} {P : Nat → Nat} {q : Nat → Rat} (h : RowQ w B b n m P q) (hp : RatBlk w p) (hb : But p w w') (hne : ∀ i, i < m → P i ≠ p) : RowQ w' B b n m P q := by
 have hs := hb.block b h.lt (h.ne hp.int)
 have hc : ∀ o, w'.cell? ⟨b, o, none⟩ = w.cell? ⟨b, o, none⟩ := fun o => World.cell?_of_block (a := ⟨b, o, none⟩) hs
 exact ⟨h.ptrs.same hs, Nat.lt_of_lt_of_le h.lt hb.size, h.new, fun i => (World.frozen?_of_block (a := ⟨b, i, none⟩) hs).trans (h.fr i), fun i hi => by rw [hc]; exact h.ex i hi, fun i hi => by rw [hc]; exact h.cell i hi, fun i hi => (h.num i hi).but hp.int hb (hne i hi), h.low, h.inj⟩
theorem RowQ.set {w w' : World} {B b n m k : Nat} {P : Nat → Nat} {q : Nat → Rat} {x : Rat} (h : RowQ w B b n m P q) (hk : k < m) (hx : RatP w' (P k) x) (hb : But (P k) w w') : RowQ w' B b n m P (fun i => if i = k then x else q i) := by
 have hp := (h.num k hk).blk
 have hs := hb.block b h.lt (h.ne hp.int)
 have hc : ∀ o, w'.cell? ⟨b, o, none⟩ = w.cell? ⟨b, o, none⟩ := fun o => World.cell?_of_block (a := ⟨b, o, none⟩) hs
 refine ⟨h.ptrs.same hs, Nat.lt_of_lt_of_le h.lt hb.size, h.new, fun i => (World.frozen?_of_block (a := ⟨b, i, none⟩) hs).trans (h.fr i), fun i hi => by rw [hc]; exact h.ex i hi, fun i hi => by rw [hc]; exact h.cell i hi, fun i hi => ?_, h.low, h.inj⟩
 by_cases e : i = k
 ·subst e; rw [if_pos rfl]; exact hx
 ·rw [if_neg e]; exact (h.num i hi).but hp.int hb (fun e2 => e (h.inj i k hi hk e2))
theorem RowQ.put {w : World} {B b n m p : Nat} {P : Nat → Nat} {q : Nat → Rat} (h : RowQ w B b n m P q) (hm : m < n) (hp : RatP w p (q m)) (hB : B ≤ p) (hne : ∀ i, i < m → P i ≠ p) :
  RowQ (w.setCell ⟨b, m, none⟩ (.pointer (some ⟨p, 0, none⟩))) B b n (m + 1) (fun i => if i = m then p else P i) q := by
 have hb : But b w (w.setCell ⟨b, m, none⟩ (.pointer (some ⟨p, 0, none⟩))) := (But.refl b w).set m _
 obtain ⟨a0, h0⟩ := h.ex m hm
 have hsame := World.cell?_setCell_same w ⟨b, m, none⟩ (.pointer (some ⟨p, 0, none⟩)) h0
 have hoth : ∀ o, o ≠ m → (w.setCell ⟨b, m, none⟩ (.pointer (some ⟨p, 0, none⟩))).cell? ⟨b, o, none⟩ = w.cell? ⟨b, o, none⟩ := fun o ho =>
  World.cell?_setCell_other w ⟨b, m, none⟩ ⟨b, o, none⟩ _ (by intro e; injection e with _ e; exact ho e.symm)
 refine ⟨fun o x e => ?_, Nat.lt_of_lt_of_le h.lt hb.size, h.new, fun j => ?_, fun j hj => ?_, fun j hj => ?_, fun j hj => ?_, fun j hj => ?_, fun i j hi hj e => ?_⟩
 ·by_cases ho : o = m
  ·subst ho; rw [hsame] at e; injection e with e; exact ⟨_, e.symm⟩
  ·rw [hoth o ho] at e; exact h.ptrs o x e
 ·simp only [World.frozen?_setCell]; exact h.fr j
 ·by_cases ho : j = m
  ·subst ho; exact ⟨_, hsame⟩
  ·rw [hoth j ho]; exact h.ex j hj
 ·by_cases ho : j = m
  ·subst ho; rw [if_pos rfl]; exact hsame
  ·rw [if_neg ho, hoth j ho]; exact h.cell j (by omega)
 ·by_cases ho : j = m
  ·subst ho; rw [if_pos rfl]; exact hp.butP h.ptrs hb
  ·rw [if_neg ho]; exact (h.num j (by omega)).butP h.ptrs hb
 ·by_cases ho : j = m
  ·rw [if_pos ho]; exact hB
  ·rw [if_neg ho]; exact h.low j (by omega)
 ·by_cases hi' : i = m <;> by_cases hj' : j = m
  ·omega
  ·rw [if_pos hi', if_neg hj'] at e; exact absurd e.symm (hne j (by omega))
  ·rw [if_neg hi', if_pos hj'] at e; exact absurd e (hne i (by omega))
  ·rw [if_neg hi', if_neg hj'] at e; exact h.inj i j (by omega) (by omega) e
theorem infoRatP : (Tryz.prog.info? 201).map (fun i => (i.zero, i.size, i.bytes)) = some (some (.pointer none), 1, 8) := by kernel_rfl
theorem run_makeRow (w : World) (n : Nat) (h : n ≤ 35184372088832) :
  (Instr.makeSlice 82 (.int .i64 n) (.int .i64 n)).run Tryz.prog w = .ok (.slice (some ⟨w.heap.size, 0, none⟩) n n) (w.alloc (.cells (nils n).toArray 201 (0, 0))) := by
 obtain ⟨i, hi, hz, hs, hb⟩ := info_parts infoRatP
 rw [run_make w 82 201 i (.pointer none) Tryz.underlying82 hi hz .i64 .i64 n n (by omega) (by omega) (by rw [hb]; omega) (by omega)]
 simp only [Int.toNat_natCast, hs, Nat.mul_one]
 rw [madeNils]
theorem RowQ.made (w : World) (n : Nat) (P : Nat → Nat) (q : Nat → Rat) : RowQ (w.alloc (.cells (nils n).toArray 201 (0, 0))) w.heap.size w.heap.size n 0 P q := by
 have hb := Blk.new w (nils n) 201
 refine ⟨fun o x e => ?_, hb.lt, Nat.le_refl _, fun i => hb.free i, fun i hi => ⟨none, ?_⟩, fun i hi => by omega, fun i hi => by omega, fun i hi => by omega, fun i j hi => by omega⟩
 ·have := cell_in hb e
  exact ⟨none, List.eq_of_mem_replicate this⟩
 ·have hl : i < (nils n).length := by unfold nils; simpa using hi
  rw [hb.cell i hl]; simp [nils]
end Go.Proofs.YtkljafmdbajfeaaGreatDoor

/- Package exact: entries, a row of zeros. -/
namespace Go.Proofs.YtkljafmdbajfeaaGreatDoor
open Go.RowKit
set_option linter.unusedVariables false
set_option linter.unusedSimpArgs false
set_option maxRecDepth 100000 in
set_option maxHeartbeats 2000000 in
theorem entries_calls (n : Nat) (w : World) (hn : n ≤ 1000) :
  Calls Tryz.prog 212 #[.int .i64 n] w fun e w' => ∃ b P, e = .returned (.slice (some ⟨b, 0, none⟩) n n) ∧ RowQ w' w.heap.size b n n P (fun _ => 0) ∧ Below w.heap.size w w' := by
 have hmk := fun w => run_makeRow w n (by omega)
 have HO := Lib.hid (RowQ.made w n (fun i => i) (fun _ => 0))
 have HA : Hid (Below w.heap.size w (w.alloc (.cells (nils n).toArray 201 (0, 0)))) := Lib.hid ((Below.refl _ _).alloc (Nat.le_refl _) _)
 go_enter Tryz.func212, Tryz.ntmps212
 go_wp2_with fail
 go_loopw [9] (fun t wr => ∃ (i : Nat) (P : Nat → Nat), i ≤ n ∧ t = .int .i64 i ∧ Hid (RowQ wr w.heap.size w.heap.size n i P (fun _ => 0)) ∧ Hid (Below w.heap.size w wr)) (fun t _ => n - (intOf t).toNat)
 case atStart => exact ⟨0, _, Nat.zero_le _, rfl, HO, HA⟩
 case round =>
  obtain ⟨i, P, hi, rfl, hW, hbe⟩ := hrel
  by_cases hlt : i < n
  ·have hn1 : (i : Int) < n := by omega
   have hA1 : Below wr.heap.size wr (wr.alloc (.cells #[.bool false, .slice none 0 0, .slice none 0 0] 203 (0, 0))) := (Below.refl _ _).alloc (Nat.le_refl _) _
   have hz := ratZero wr
   have hW2 := hW.out.ext hA1
   obtain ⟨a5, hc5⟩ := hW2.ex i hlt
   have hf5 := hW2.fr i
   have hsz := hbe.out.size
   have hput := hW2.put hlt hz hsz (fun j hj e => by have := (hW.out.num j hj).lt; omega)
   have hbl := hW.out.lt
   have hbb := (hbe.out.trans (hA1.mono hsz)).setCell (p := ⟨w.heap.size, i, none⟩) (Nat.le_refl _) (.pointer (some ⟨wr.heap.size, 0, none⟩))
   rw [World.setCell_alloc_past _ _ _ _ hbl] at hput hbb
   have HP := Lib.hid hput; have HB := Lib.hid hbb
   have hc6 := hc5
   clear hA1 hz hW2 hput hbb
   go_wp2
   go_roundw
   case rel => exact ⟨i + 1, _, by omega, by go_num, HP, HB⟩
   case measure => simp [intOf]; omega
  ·obtain rfl : i = n := by omega
   go_wp2
   go_ret
   exact ⟨_, P, rfl, hW.out, hbe.out⟩
end Go.Proofs.YtkljafmdbajfeaaGreatDoor
