/- What a slice of ints, of rows, reads as in memory; how such readings outlive a call that only makes memory. Plain lemmas, no function of the program. -/
import Derived.Test.YtkljafmdbajfeaaGreatDoorProg
import Derived.WalkKit
import Derived.WalkSpells
import Derived.Deep.QuietTactic
import Derived.BigQuiet
import Derived.Deep.LoopGhost
import Derived.Deep.RegionHeld3
import Derived.Lib.Hide
import Derived.Deep.DeepCutAuto
import Derived.Deep.CutBlock
import Derived.Deep.Light
import Derived.StillTailTactics
import Derived.RegionTactic
namespace Go.Proofs.YtkljafmdbajfeaaGreatDoor
open Go.RowKit
theorem cell_lt {w : World} {a : Addr} {v : Value} (h : w.cell? a = some v) : a.block < w.heap.size := by
  unfold World.cell? at h
  rcases Nat.lt_or_ge a.block w.heap.size with hl | hl
  · exact hl
  · rw [Array.getElem?_eq_none hl] at h; simp at h
def nth (xs : List Int) (i : Nat) : Int := xs.getD i 0
def nrow (l : List (List Int)) (i : Nat) : List Int := l.getD i []
def Ints (w : World) (A : Option Addr) (xs : List Int) : Prop :=
  ∀ i, i < xs.length → ∃ b off, A = some ⟨b, off, none⟩ ∧ w.cell? ⟨b, off + i, none⟩ = some (.int .i64 (nth xs i))
def Grid (w : World) (A : Option Addr) (l : List (List Int)) : Prop :=
  ∀ i, i < l.length → ∃ b off R c, A = some ⟨b, off, none⟩ ∧ w.cell? ⟨b, off + i, none⟩ = some (.slice R (nrow l i).length c) ∧ (nrow l i).length ≤ c ∧ Ints w R (nrow l i)
theorem Ints.ext {w w' : World} {A : Option Addr} {xs : List Int} (h : Ints w A xs) (hb : Below w.heap.size w w') : Ints w' A xs := fun i hi => by
  obtain ⟨b, off, e, hc⟩ := h i hi
  exact ⟨b, off, e, by rw [hb.cell (cell_lt hc)]; exact hc⟩
theorem Grid.ext {w w' : World} {A : Option Addr} {l : List (List Int)} (h : Grid w A l) (hb : Below w.heap.size w w') : Grid w' A l := fun i hi => by
  obtain ⟨b, off, R, c, e, hc, hl, hr⟩ := h i hi
  exact ⟨b, off, R, c, e, by rw [hb.cell (cell_lt hc)]; exact hc, hl, hr.ext hb⟩
theorem Ints.nil (w : World) (A : Option Addr) : Ints w A [] := fun i hi => by simp at hi
theorem drewN_add (w : World) (m n : Nat) : (w.drewN m).drewN n = w.drewN (m + n) := by simp [World.drewN, Nat.add_assoc]
theorem drewN_below (w : World) (n : Nat) : Below w.heap.size w (w.drewN n) := ⟨rfl, rfl, rfl, Nat.le_refl _, fun _ _ => rfl⟩
theorem bcell {W w1 : World} (hb : Below W.heap.size W w1) : (∀ b o, b < W.heap.size → w1.cell? ⟨b, o, none⟩ = W.cell? ⟨b, o, none⟩) ∧ (∀ b o, b < W.heap.size → w1.frozen? ⟨b, o, none⟩ = W.frozen? ⟨b, o, none⟩) :=
  ⟨fun b o h => hb.cell (p := ⟨b, o, none⟩) h, fun b o h => hb.frozen (p := ⟨b, o, none⟩) h⟩
theorem ext_trans {a b c : World} (h : Below a.heap.size a b) (k : Below b.heap.size b c) : Below a.heap.size a c := h.trans (k.mono h.size)
theorem nth_lt {xs : List Int} {i : Nat} (h : i < xs.length) : nth xs i = xs[i] := by unfold nth; simp [h]
theorem nth_mem {xs : List Int} {i : Nat} (h : i < xs.length) : nth xs i ∈ xs := by rw [nth_lt h]; exact List.getElem_mem h
theorem nrow_lt {l : List (List Int)} {i : Nat} (h : i < l.length) : nrow l i = l[i] := by unfold nrow; simp [h]
theorem nrow_mem {l : List (List Int)} {i : Nat} (h : i < l.length) : nrow l i ∈ l := by rw [nrow_lt h]; exact List.getElem_mem h
theorem take_nth {xs : List Int} {i : Nat} (h : i < xs.length) : xs.take (i + 1) = xs.take i ++ [nth xs i] := by
  rw [List.take_succ_eq_append_getElem h, nth_lt h]
theorem take_nrow {l : List (List Int)} {i : Nat} (h : i < l.length) : l.take (i + 1) = l.take i ++ [nrow l i] := by
  rw [List.take_succ_eq_append_getElem h, nrow_lt h]
end Go.Proofs.YtkljafmdbajfeaaGreatDoor

/- A region that draws its order, whose operations make memory and calls but change nothing that another has made: one walk of each operation serves every order. -/
namespace Go.Proofs.YtkljafmdbajfeaaGreatDoor
open Go.RowKit
set_option linter.unusedVariables false
set_option linter.unusedSimpArgs false
structure Leaves where
  T : List Tmp
  p : List Value → World → Prop
def Leaves.at (s : Leaves) (x : Tmp → Value) (w : World) : Prop := s.p (s.T.map x) w
def leaf1 (t : Tmp) (q : Value → World → Prop) : Leaves := ⟨[t], fun l w => match l with | [v] => q v w | _ => False⟩
theorem leaf1_at (t : Tmp) (q : Value → World → Prop) (x : Tmp → Value) (w : World) : (leaf1 t q).at x w = q (x t) w := rfl
def upd (x : Tmp → Value) (t : Option Tmp) (v : Value) : Tmp → Value := fun u => if t = some u then v else x u
theorem upd_self (x : Tmp → Value) (t : Tmp) (v : Value) : upd x (some t) v t = v := by simp [upd]
theorem upd_ne {x : Tmp → Value} {t u : Tmp} {v : Value} (h : t ≠ u) : upd x (some t) v u = x u := by simp [upd, h]
def waitsOn (ops : Array Oper) (i : Nat) : List Nat :=
  match ops[i]? with
  | none => []
  | some o => (o.after.toList.filter fun e => Region.binds .any e).map (·.on)
def reaches (ops : Array Oper) (m : Nat) : Nat → Nat → Nat → Bool
  | 0, k, j => (waitsOn ops k).contains j
  | n + 1, k, j => (waitsOn ops k).contains j || (List.range m).any fun i => (waitsOn ops i).contains j && reaches ops m n k i
def laterB (ops : Array Oper) (m : Nat) (ds : List Tmp) (Ts : List (List Tmp)) : Bool :=
  Region.noSelect ops && ds.length == m && decide (m ≤ ops.size) && decide ds.Nodup &&
  (List.range m).all (fun i => match ops[i]? with
    | none => false
    | some o => o.dst == ds[i]? && (waitsOn ops i).all (fun j => decide (j < i)) &&
        (o.looksAt ops).all (fun t => (List.range m).all fun j => !(ds[j]? == some t) || (waitsOn ops i).contains j) &&
        ((Ts.getD i []).all fun t => (ds[i]? == some t) || (waitsOn ops i).any fun j => ds[j]? == some t)) &&
  (List.range ops.size).all (fun k => decide (k < m) || (waitsOn ops k).any (fun j => decide (m ≤ j) && decide (j < ops.size)) || (List.range m).all fun j => reaches ops m m k j)
structure LaterOk (ops : Array Oper) (m : Nat) (ds : List Tmp) (Ts : List (List Tmp)) : Prop where
  sel : Region.noSelect ops = true
  len : ds.length = m
  le : m ≤ ops.size
  nodup : ds.Nodup
  dst : ∀ i o, i < m → ops[i]? = some o → o.dst = ds[i]?
  topo : ∀ i, i < m → ∀ j ∈ waitsOn ops i, j < i
  look : ∀ i o, i < m → ops[i]? = some o → ∀ t ∈ o.looksAt ops, ∀ j, j < m → ds[j]? = some t → j ∈ waitsOn ops i
  supp : ∀ i, i < m → ∀ t ∈ Ts.getD i [], ds[i]? = some t ∨ ∃ j ∈ waitsOn ops i, ds[j]? = some t
  rest : ∀ k, k < ops.size → m ≤ k → (∃ j ∈ waitsOn ops k, m ≤ j ∧ j < ops.size) ∨ ∀ j, j < m → reaches ops m m k j = true
theorem LaterOk.of {ops : Array Oper} {m : Nat} {ds : List Tmp} {Ts : List (List Tmp)} (h : laterB ops m ds Ts = true) : LaterOk ops m ds Ts := by
  simp only [laterB, Bool.and_eq_true, beq_iff_eq, decide_eq_true_eq, List.all_eq_true, List.mem_range] at h
  obtain ⟨⟨⟨⟨⟨h1, h2⟩, h3⟩, h4⟩, h5⟩, h6⟩ := h
  have g : ∀ i o, i < m → ops[i]? = some o → ((o.dst = ds[i]? ∧ ∀ j ∈ waitsOn ops i, j < i) ∧ ∀ t ∈ o.looksAt ops, ∀ j, j < m → ds[j]? = some t → j ∈ waitsOn ops i) ∧ ∀ t ∈ Ts.getD i [], ds[i]? = some t ∨ ∃ j ∈ waitsOn ops i, ds[j]? = some t := fun i o hi ho => by
    have := h5 i hi
    rw [ho] at this
    simp only [Bool.and_eq_true, beq_iff_eq, List.all_eq_true, decide_eq_true_eq, List.mem_range, Bool.or_eq_true, Bool.not_eq_true', List.contains_iff_mem, List.any_eq_true] at this
    refine ⟨⟨this.1.1, fun t ht j hj hd => ?_⟩, this.2⟩
    rcases this.1.2 t ht j hj with e | e
    · simp [hd] at e
    · exact e
  have ex : ∀ i, i < m → ∃ o, ops[i]? = some o := fun i hi => ⟨ops[i], Array.getElem?_eq_getElem (by omega)⟩
  refine ⟨h1, h2, h3, h4, fun i o hi ho => (g i o hi ho).1.1.1, fun i hi => ?_, fun i o hi ho => (g i o hi ho).1.2, fun i hi => ?_, fun k hk hmk => ?_⟩
  · obtain ⟨o, ho⟩ := ex i hi; exact (g i o hi ho).1.1.2
  · obtain ⟨o, ho⟩ := ex i hi; exact (g i o hi ho).2
  · have := h6 k hk
    simp only [Bool.or_eq_true, Bool.and_eq_true, decide_eq_true_eq, List.all_eq_true, List.any_eq_true, List.mem_range] at this
    rcases this with (e | e) | e
    · omega
    · exact .inl e
    · exact .inr e
theorem getD_true_of_false {a : Array Bool} {k : Nat} (h : a.getD k true = false) : a.getD k false = false := by
  by_cases hk : k < a.size
  · simp [hk] at h ⊢; exact h
  · simp [hk] at h
theorem reaches_listed {ops : Array Oper} {m : Nat} {listed : Array Bool} (hc : ∀ i, i < m → listed.getD i false = true → ∀ j ∈ waitsOn ops i, listed.getD j false = true) {k : Nat} (hk : ∀ j ∈ waitsOn ops k, listed.getD j false = true) : ∀ n j, reaches ops m n k j = true → listed.getD j false = true
  | 0, j, h => by
    unfold reaches at h
    exact hk j (List.contains_iff_mem.1 h)
  | n + 1, j, h => by
    unfold reaches at h
    simp only [Bool.or_eq_true, List.contains_iff_mem, List.any_eq_true, List.mem_range, Bool.and_eq_true] at h
    rcases h with h | ⟨i, hi, h1, h2⟩
    · exact hk j h
    · exact hc i hi (reaches_listed hc hk n i h2) j h1
def fullF : Act → List Tmp → (Tmp → Value) → Act
  | a, [], _ => a
  | a, t :: ds, x => fullF (a.put (some t) (x t)) ds x
theorem put_get (a : Act) (d t : Tmp) (v : Value) : (a.put (some d) v).tmps[t]? = if d = t ∧ t < a.tmps.size then some v else a.tmps[t]? := by
  simp only [Act.put]
  by_cases e : d = t
  · subst e
    by_cases h : d < a.tmps.size
    · simp [h]
    · simp [h]
  · simp [e, Array.getElem?_setIfInBounds_ne e]
theorem put_size (a : Act) (d : Option Tmp) (v : Value) : (a.put d v).tmps.size = a.tmps.size := by cases d <;> simp [Act.put]
theorem put_defers (a : Act) (d : Option Tmp) (v : Value) : (a.put d v).defers = a.defers := by cases d <;> simp [Act.put]
theorem fullF_get : ∀ (ds : List Tmp) (a : Act) (x : Tmp → Value) (t : Tmp), (fullF a ds x).tmps[t]? = if t ∈ ds ∧ t < a.tmps.size then some (x t) else a.tmps[t]?
  | [], a, x, t => by simp [fullF]
  | d :: ds, a, x, t => by
    rw [fullF, fullF_get ds, put_size, put_get]
    by_cases h : t < a.tmps.size
    · by_cases h1 : t ∈ ds
      · simp [h, h1]
      · by_cases h2 : d = t
        · subst h2; simp [h, h1]
        · simp [h1, h2, Ne.symm h2]
    · simp [h]
theorem fullF_size : ∀ (ds : List Tmp) (a : Act) (x : Tmp → Value), (fullF a ds x).tmps.size = a.tmps.size
  | [], _, _ => rfl
  | d :: ds, a, x => by rw [fullF, fullF_size ds, put_size]
theorem fullF_defers : ∀ (ds : List Tmp) (a : Act) (x : Tmp → Value), (fullF a ds x).defers = a.defers
  | [], _, _ => rfl
  | d :: ds, a, x => by rw [fullF, fullF_defers ds, put_defers]
theorem act_ext {a b : Act} (h1 : a.defers = b.defers) (h2 : a.tmps.size = b.tmps.size) (h3 : ∀ t : Nat, a.tmps[t]? = b.tmps[t]?) : a = b := by
  obtain ⟨x, d⟩ := a; obtain ⟨y, e⟩ := b
  dsimp only at h1 h2 h3
  subst h1
  have : x = y := Array.ext_getElem? h3
  rw [this]
structure Filled (m : Nat) (ds : List Tmp) (listed : Array Bool) (x : Tmp → Value) (a0 a : Act) : Prop where
  size : a.tmps.size = a0.tmps.size
  defers : a.defers = a0.defers
  yes : ∀ i t, i < m → listed.getD i false = true → ds[i]? = some t → a.tmps[t]? = if t < a0.tmps.size then some (x t) else none
  no : ∀ t, (∀ i, i < m → listed.getD i false = true → ds[i]? ≠ some t) → a.tmps[t]? = a0.tmps[t]?
theorem getD_set {l : Array Bool} {i j : Nat} {d : Bool} (h : (l.setIfInBounds i true).getD j d = true) : j = i ∨ l.getD j d = true := by
  by_cases e : i = j
  · exact .inl e.symm
  · rw [getD_set_ne d e] at h; exact .inr h
theorem ds_inj {ds : List Tmp} (h : ds.Nodup) {i j : Nat} {t : Tmp} (hi : ds[i]? = some t) (hj : ds[j]? = some t) : i = j := by
  obtain ⟨hi', e1⟩ := List.getElem?_eq_some_iff.1 hi
  obtain ⟨hj', e2⟩ := List.getElem?_eq_some_iff.1 hj
  rcases Nat.lt_trichotomy i j with hlt | he | hgt
  · exact absurd (e1.trans e2.symm) ((List.pairwise_iff_getElem.1 h) i j hi' hj' hlt)
  · exact he
  · exact absurd (e2.trans e1.symm) ((List.pairwise_iff_getElem.1 h) j i hj' hi' hgt)
theorem Filled.put {m : Nat} {ds : List Tmp} {listed : Array Bool} {x : Tmp → Value} {a0 a : Act} (h : Filled m ds listed x a0 a) (hn : ds.Nodup) {i : Nat} {t : Tmp} (hi : i < m) (hl : i < listed.size) (ht : ds[i]? = some t) (v : Value) :
    Filled m ds (listed.setIfInBounds i true) (upd x (some t) v) a0 (a.put (some t) v) := by
  refine ⟨by rw [put_size, h.size], by rw [put_defers, h.defers], fun j u hj hlj hu => ?_, fun u hu => ?_⟩
  · rw [put_get, h.size]
    by_cases e : t = u
    · subst e
      by_cases hs : t < a0.tmps.size
      · simp [hs, upd]
      · have : a.tmps[t]? = none := by rw [Array.getElem?_eq_none_iff, h.size]; exact Nat.le_of_not_lt hs
        simp [hs, this]
    · rcases getD_set hlj with e2 | e2
      · subst e2; rw [ht] at hu; exact absurd (Option.some.inj hu) e
      · simp [e, upd, h.yes j u hj e2 hu]
  · have hne : t ≠ u := fun e => hu i hi (by simp [hl]) (by rw [← e]; exact ht)
    rw [put_get]
    simp only [hne, false_and, if_false]
    exact h.no u fun j hj hlj hju => hu j hj (getD_set_true hlj) hju
theorem Filled.start (m : Nat) (ds : List Tmp) (n : Nat) (x : Tmp → Value) (a : Act) : Filled m ds (Array.replicate n false) x a a :=
  ⟨rfl, rfl, fun i t _ h _ => by simp [Array.getElem?_replicate] at h; split at h <;> simp at h, fun _ _ => rfl⟩
theorem Filled.full {m : Nat} {ds : List Tmp} {listed : Array Bool} {x : Tmp → Value} {a0 a : Act} (h : Filled m ds listed x a0 a) (hlen : ds.length = m) (hall : ∀ i, i < m → listed.getD i false = true) : a = fullF a0 ds x := by
  refine act_ext (by rw [h.defers, fullF_defers]) (by rw [h.size, fullF_size]) fun t => ?_
  rw [fullF_get]
  by_cases hm : t ∈ ds
  · obtain ⟨i, hi, e⟩ := List.getElem_of_mem hm
    have e' : ds[i]? = some t := by rw [List.getElem?_eq_getElem hi, e]
    rw [h.yes i t (by omega) (hall i (by omega)) e']
    by_cases hs : t < a0.tmps.size
    · simp [hs, hm]
    · simp [hs]
  · simp only [hm, false_and, if_false]
    exact h.no t fun i _ _ e => hm (List.mem_of_getElem? e)
theorem Filled.sees {m : Nat} {ds : List Tmp} {listed : Array Bool} {x : Tmp → Value} {a0 a : Act} (h : Filled m ds listed x a0 a) (hlen : ds.length = m) {t : Tmp} (ht : ∀ j, j < m → ds[j]? = some t → listed.getD j false = true) : a.tmps[t]? = (fullF a0 ds x).tmps[t]? := by
  rw [fullF_get]
  by_cases hm : t ∈ ds
  · obtain ⟨i, hi, e⟩ := List.getElem_of_mem hm
    have e' : ds[i]? = some t := by rw [List.getElem?_eq_getElem hi, e]
    rw [h.yes i t (by omega) (ht i (by omega) e') e']
    by_cases hs : t < a0.tmps.size
    · simp [hs, hm]
    · simp [hs]
  · simp only [hm, false_and, if_false]
    exact h.no t fun i _ _ e => hm (List.mem_of_getElem? e)
theorem execOp_sees {ops : Array Oper} {o : Oper} (hs : ∀ cs b, o.op ≠ .select cs b) {a b : Act} (h : ∀ t ∈ o.looksAt ops, a.tmps[t]? = b.tmps[t]?) : execOp a.eval o = execOp b.eval o :=
  execOp_congr o hs fun x hx => by
    cases x with
    | tmp t =>
      have := h t (List.mem_append_left _ (List.mem_filterMap.2 ⟨.tmp t, by simpa using hx, rfl⟩))
      simp only [Act.eval, Array.getD_eq_getD_getElem?, this]
    | _ => rfl
theorem wanted_sees {ops : Array Oper} {o : Oper} {a b : Act} (h : ∀ t ∈ o.looksAt ops, a.tmps[t]? = b.tmps[t]?) : Region.wanted o (yielded ops a.tmps) = Region.wanted o (yielded ops b.tmps) := by
  unfold Region.wanted
  cases hg : o.guard with
  | none => rfl
  | some gw =>
    obtain ⟨g, want⟩ := gw
    have hy : yielded ops a.tmps g = yielded ops b.tmps g := by
      unfold yielded
      cases ht : (ops[g]?).bind (·.dst) with
      | none => rfl
      | some t =>
        have := h t (by simp [Oper.looksAt, hg, ht])
        simp [this]
    simp only [hy]
theorem put_same {a b : Act} {t : Tmp} {u v : Value} (hs : a.tmps.size = b.tmps.size) (h : b.put (some t) u = b.put (some t) v) : a.put (some t) u = a.put (some t) v := by
  by_cases hb : t < b.tmps.size
  · have h1 := put_get b t t u
    rw [h, put_get] at h1
    simp [hb] at h1
    rw [h1]
  · have hb' : a.tmps.size ≤ t := by rw [hs]; exact Nat.le_of_not_lt hb
    simp only [Act.put]
    rw [Array.setIfInBounds_eq_of_size_le hb', Array.setIfInBounds_eq_of_size_le hb']
theorem wp_sees {P : Program} {ops : Array Oper} {o : Oper} {t : Tmp} (hd : o.dst = some t) (hs : ∀ cs b, o.op ≠ .select cs b) {a b : Act} (hsz : a.tmps.size = b.tmps.size) (h : ∀ t ∈ o.looksAt ops, a.tmps[t]? = b.tmps[t]?) {w : World} {R : Value → World → Prop} {K : Act → World → Prop} {Q : Exit → Act → World → Prop}
    (hK : ∀ v w', R v w' → K (a.put (some t) v) w') (hh : o.wp P b w (fun b' w' => ∃ v, b' = b.put (some t) v ∧ R v w') (fun _ _ _ => False)) : o.wp P a w K Q := by
  unfold Oper.wp at *
  rw [execOp_sees hs h]
  have fin : ∀ u w', (∃ v, b.put o.dst u = b.put (some t) v ∧ R v w') → K (a.put o.dst u) w' := fun u w' ⟨v, e, hR⟩ => by
    rw [hd] at e ⊢
    rw [put_same hsz e]; exact hK v w' hR
  generalize (execOp b.eval o).run P w = r at *
  cases r with
  | ok n w' =>
    cases n <;> simp only [Oper.upon] at hh ⊢
    case value u => exact fin u w' hh
    case skip => exact fin undef w' hh
    case defer d =>
      obtain ⟨v, e, -⟩ := hh
      have e2 := congrArg Act.defers e
      rw [put_defers, put_defers] at e2
      have := congrArg List.length e2
      simp at this
    case enter f args =>
      refine Calls.mono hh fun e w'' he => ?_
      cases e with
      | returned u => exact fin u w'' he
      | panicked c => exact he.elim
      | outgrown => obtain ⟨_, _, h0⟩ := he; exact h0.elim
    case row row args => exact Rows.mono hh fun u w'' he => fin u w'' he
  | halt y w' => cases y <;> simp only [Oper.upon] at hh ⊢
theorem at_congr {s : Leaves} {x y : Tmp → Value} {w : World} (h : ∀ t ∈ s.T, x t = y t) (hx : s.at x w) : s.at y w := by
  unfold Leaves.at at *
  rw [← List.map_congr_left h]; exact hx
theorem count_set {l : Array Bool} {i : Nat} (hi : l.getD i true = false) : (l.setIfInBounds i true).toList.count false + 1 = l.toList.count false := by
  have hlt : i < l.size := by
    rcases Nat.lt_or_ge i l.size with h | h
    · exact h
    · simp [Array.getElem?_eq_none h] at hi
  have hv : l.toList[i]'(by simpa using hlt) = false := by simpa [hlt] using hi
  have hpos : 0 < l.toList.count false := List.count_pos_iff.2 (by rw [← hv]; exact List.getElem_mem _)
  rw [Array.toList_setIfInBounds, List.count_set (by simpa using hlt), hv]
  rw [if_pos (show (false == false) = true from rfl), if_neg (show ¬ (true == false) = true by decide)]
  omega
section
variable {P : Program} {ops : Array Oper} {Q : Exit → Act → World → Prop} {m : Nat} {ds : List Tmp} {G : List Leaves} {E : World → World → Prop} {a0 : Act} {w0 : World} {F : (Tmp → Value) → Act}
end
abbrev leafS (t : Tmp) (c : Value) : Leaves := leaf1 t fun v _ => v = c
theorem tail_one {P : Program} {ops : Array Oper} {Q : Exit → Act → World → Prop} {fuel i : Nat} {o : Oper} {listed : Array Bool} {a : Act} {w : World} (hr : Region.ready .any ops listed = [i]) (ho : ops[i]? = some o)
    (h : ∀ K' : Act → World → Prop, (∀ a w, wpAny P .any ops Q fuel (listed.setIfInBounds i true) a w → K' a w) → if Region.wanted o (yielded ops a.tmps) = true then Oper.wp P o a w K' Q else K' (a.put o.dst undef) w) :
    wpAny P .any ops Q (fuel + 1) listed a w := by
  refine wpAny_all hr (by simp) fun j hj => ?_
  obtain rfl : j = i := by simpa using hj
  exact wpOp_step ho h
end Go.Proofs.YtkljafmdbajfeaaGreatDoor
