/- BranchLimit: the walk of the statement. -/
import Derived.Test.YtbdlfjhhgnhejaaAlive
import Derived.Test.YtbdlfjhhgnhejaaLater
namespace Go.Proofs.Ytbdlfjhhgnhejaa
open Go.RowKit
set_option linter.unusedVariables false
set_option linter.unusedSimpArgs false

theorem infoNode : (Try.prog.info? 34).map (fun i => (i.zero, i.size, i.bytes)) = some (some (.agg #[.int .i64 0, .int .i64 0, .slice none 0 0, .int .i64 0]), 4, 48) := by kernel_rfl

/-- A node without multipliers. -/
def nodeVals (n : Nd) : List Value := [.int .i64 n.va, .int .i64 n.at', .slice none 0 0, .int .i64 n.d]
/-- Block b holds the nodes f 0, .., f (n - 1), none with multipliers. -/
def NBlk (w : World) (b n : Nat) (f : Nat → Nd) : Prop :=
  ∃ vs : List Value, Blk w b vs 34 ∧ vs.length = n * 4 ∧ ∀ j, j < n → vs[j * 4]? = some (.int .i64 (f j).va) ∧ vs[j * 4 + 1]? = some (.int .i64 (f j).at') ∧ vs[j * 4 + 2]? = some (.slice none 0 0) ∧ vs[j * 4 + 3]? = some (.int .i64 (f j).d)
theorem madeNodes (n : Nat) : ∃ vs : List Value, madeCells (Value.agg #[.int .i64 0, .int .i64 0, .slice none 0 0, .int .i64 0]).cells (n * 4) = vs.toArray ∧ vs.length = n * 4 ∧ ∀ j, j < n → vs[j * 4]? = some (.int .i64 0) ∧ vs[j * 4 + 1]? = some (.int .i64 0) ∧ vs[j * 4 + 2]? = some (.slice none 0 0) ∧ vs[j * 4 + 3]? = some (.int .i64 0) := by
  refine ⟨(madeCells (Value.agg #[.int .i64 0, .int .i64 0, .slice none 0 0, .int .i64 0]).cells (n * 4)).toList, by simp, by simp [madeCells], fun j hj => ?_⟩
  have h0 : j * 4 % 4 = 0 := by omega
  have h1 : (j * 4 + 1) % 4 = 1 := by omega
  have h2 : (j * 4 + 2) % 4 = 2 := by omega
  have h3 : (j * 4 + 3) % 4 = 3 := by omega
  refine ⟨?_, ?_, ?_, ?_⟩
  all_goals simp [madeCells, Value.cells]
  · exact ⟨_, List.getElem?_range (by omega), by rw [h0]; rfl⟩
  · exact ⟨_, List.getElem?_range (by omega), by rw [h1]; rfl⟩
  · exact ⟨_, List.getElem?_range (by omega), by rw [h2]; rfl⟩
  · exact ⟨_, List.getElem?_range (by omega), by rw [h3]; rfl⟩

theorem NBlk.cells {w : World} {b n : Nat} {f : Nat → Nd} (h : NBlk w b n f) {j : Nat} (hj : j < n) : w.cell? ⟨b, j * 4, none⟩ = some (.int .i64 (f j).va) ∧ w.cell? ⟨b, j * 4 + 1, none⟩ = some (.int .i64 (f j).at') ∧ w.cell? ⟨b, j * 4 + 2, none⟩ = some (.slice none 0 0) ∧ w.cell? ⟨b, j * 4 + 3, none⟩ = some (.int .i64 (f j).d) := by
  obtain ⟨vs, hb, hl, hv⟩ := h
  obtain ⟨h0, h1, h2, h3⟩ := hv j hj
  have g : ∀ i (hi : i < n * 4) v, vs[i]? = some v → w.cell? ⟨b, i, none⟩ = some v := fun i hi v h => by
    rw [hb.cell i (by omega)]
    rw [List.getElem?_eq_getElem (by omega)] at h; exact h
  exact ⟨g _ (by omega) _ h0, g _ (by omega) _ h1, g _ (by omega) _ h2, g _ (by omega) _ h3⟩
theorem NBlk.lt {w : World} {b n : Nat} {f : Nat → Nd} (h : NBlk w b n f) : b < w.heap.size := by obtain ⟨vs, hb, -⟩ := h; exact hb.lt
theorem NBlk.free {w : World} {b n : Nat} {f : Nat → Nd} (h : NBlk w b n f) (i : Nat) : w.frozen? ⟨b, i, none⟩ = false := by obtain ⟨vs, hb, -⟩ := h; exact hb.free i
theorem NBlk.ext {w w' : World} {b n : Nat} {f : Nat → Nd} (h : NBlk w b n f) (hb : Below w.heap.size w w') : NBlk w' b n f := by
  obtain ⟨vs, h1, h2⟩ := h; exact ⟨vs, h1.ext hb, h2⟩
/-- A node is stored. -/
theorem NBlk.set {w : World} {b n : Nat} {f : Nat → Nd} (h : NBlk w b n f) {k : Nat} (hk : k < n) (nd : Nd) (hy : nd.ys = []) :
    NBlk ((((w.setCell ⟨b, k * 4, none⟩ (.int .i64 nd.va)).setCell ⟨b, k * 4 + 1, none⟩ (.int .i64 nd.at')).setCell ⟨b, k * 4 + 2, none⟩ (.slice none 0 0)).setCell ⟨b, k * 4 + 3, none⟩ (.int .i64 nd.d)) b n fun j => if j = k then nd else f j := by
  obtain ⟨vs, hb, hl, hv⟩ := h
  refine ⟨_, (((hb.set _ _).set _ _).set _ _).set _ _, by simp [hl], fun j hj => ?_⟩
  obtain ⟨h0, h1, h2, h3⟩ := hv j hj
  by_cases e : j = k
  · subst e
    dsimp only
    rw [if_pos rfl]
    refine ⟨?_, ?_, ?_, ?_⟩
    · rw [List.getElem?_set_ne (by omega), List.getElem?_set_ne (by omega), List.getElem?_set_ne (by omega), List.getElem?_set_self (by omega)]
    · rw [List.getElem?_set_ne (by omega), List.getElem?_set_ne (by omega), List.getElem?_set_self (by simp; omega)]
    · rw [List.getElem?_set_ne (by omega), List.getElem?_set_self (by simp; omega)]
    · rw [List.getElem?_set_self (by simp; omega)]
  · dsimp only
    rw [if_neg e]
    refine ⟨?_, ?_, ?_, ?_⟩
    all_goals
      rw [List.getElem?_set_ne (by omega), List.getElem?_set_ne (by omega), List.getElem?_set_ne (by omega), List.getElem?_set_ne (by omega)]
      assumption
/-- The nodes as a list. -/
theorem NBlk.nodes {w : World} {b n : Nat} {f : Nat → Nd} (h : NBlk w b n f) (hf : ∀ j, (f j).ys = []) (m : Nat) (hm : m ≤ n) : Nodes w (some ⟨b, 0, none⟩) ((List.range m).map f) := fun i hi => by
  rw [List.length_map, List.length_range] at hi
  obtain ⟨h0, h1, h2, h3⟩ := h.cells (j := i) (by omega)
  have e : ((List.range m).map f)[i]'(by simpa using hi) = f i := by simp
  rw [e]
  exact ⟨b, 0, none, 0, rfl, by rw [Nat.zero_add, Nat.mul_comm 4 i]; exact h0, by rw [Nat.zero_add, Nat.mul_comm 4 i]; exact h1, by rw [Nat.zero_add, Nat.mul_comm 4 i, hf i]; exact h2, by rw [Nat.zero_add, Nat.mul_comm 4 i]; exact h3, by rw [hf i]; exact Ints.nil _ _, by rw [hf i]; simp [maxLen]⟩

/-- A leaf, an empty node. -/
def nLeaf : Nd := ⟨-1, 0, [], 1⟩
def nZero : Nd := ⟨0, 0, [], 0⟩
/-- What the statement has written behind k rounds; in the end. -/
def limK (k : Nat) (j : Nat) : Nd := if j < k then nLeaf else nZero
def limE (t k : Nat) (j : Nat) : Nd := if j = 0 then ⟨0, (t % 7 : Nat), [], 0⟩ else limK k j
theorem limK_step (k : Nat) : (fun j => if j = k then nLeaf else limK k j) = limK (k + 1) := by
  funext j
  unfold limK
  by_cases h : j = k
  · subst h; simp
  · by_cases h2 : j < k
    · simp [h, h2, show j < k + 1 by omega]
    · simp [h, h2, show ¬ j < k + 1 by omega]
theorem limK_ys (k j : Nat) : (limK k j).ys = [] := by unfold limK; split <;> rfl
theorem limE_ys (t k j : Nat) : (limE t k j).ys = [] := by unfold limE; split; rfl; exact limK_ys k j

theorem run_makeNodes (n : Nat) (z : Int) (hz : z = n) (h : n ≤ 100000) : ∃ vs : List Value, vs.length = n * 4 ∧ (∀ j, j < n → vs[j * 4]? = some (.int .i64 0) ∧ vs[j * 4 + 1]? = some (.int .i64 0) ∧ vs[j * 4 + 2]? = some (.slice none 0 0) ∧ vs[j * 4 + 3]? = some (.int .i64 0)) ∧
    ∀ w : World, (Instr.makeSlice 26 (.int .i64 z) (.int .i64 z)).run Try.prog w = .ok (.slice (some ⟨w.heap.size, 0, none⟩) n n) (w.alloc (.cells vs.toArray 34 (0, 0))) := by
  subst hz
  obtain ⟨vs, h1, h2, h3⟩ := madeNodes n
  refine ⟨vs, h2, h3, fun w => ?_⟩
  obtain ⟨i, hi, hz, hs, hb⟩ := info_parts infoNode
  rw [run_make w 26 34 i _ Try.underlying26 hi hz .i64 .i64 n n (by omega) (by omega) (by rw [hb]; omega) (by omega)]
  simp only [Int.toNat_natCast, hs]
  rw [h1]

/-- The world in which the statement's proof is made. -/
def limW (w : World) : World := ((w.alloc (.cells #[.int .i64 1] 3 (0, 0))).alloc (.cells #[.int .i64 7] 3 (0, 0))).alloc (.cells #[.slice none 0 0, .slice none 0 0, .slice (some ⟨w.heap.size, 0, none⟩) 1 1, .slice (some ⟨w.heap.size + 1, 0, none⟩) 1 1] 25 (0, 0))
theorem limW_size (w : World) : (limW w).heap.size = w.heap.size + 1 + 1 + 1 := by unfold limW; simp
theorem limW_below (w : World) : Below w.heap.size w (limW w) := by
  unfold limW
  exact (((Below.refl _ _).alloc (Nat.le_refl _) _).alloc (by simp) _).alloc (by simp; omega) _
theorem limW_box (w : World) : Blk (limW w) (w.heap.size + 1 + 1) [.slice none 0 0, .slice none 0 0, .slice (some ⟨w.heap.size, 0, none⟩) 1 1, .slice (some ⟨w.heap.size + 1, 0, none⟩) 1 1] 25 := by
  unfold limW; exact Blk.new' _ [.slice none 0 0, .slice none 0 0, .slice (some ⟨w.heap.size, 0, none⟩) 1 1, .slice (some ⟨w.heap.size + 1, 0, none⟩) 1 1] _ _ (by simp)
theorem limW_who (w : World) : Who (limW w) none none (some ⟨w.heap.size, 0, none⟩) (some ⟨w.heap.size + 1, 0, none⟩) [] [] [1] [7] := by
  have b0 : IBlk (limW w) w.heap.size [1] := by unfold limW; exact ((Blk.new w [.int .i64 1] _).alloc _).alloc _
  have b1 : IBlk (limW w) (w.heap.size + 1) [7] := by unfold limW; exact (Blk.new' _ [.int .i64 7] _ _ (by simp)).alloc _
  exact ⟨⟨fun i hi => by simp at hi, Ints.nil _ _, b0.ints, Nat.zero_le _, fun r hr => (by cases hr), Nat.zero_le _, (by unfold maxLen; simp)⟩, b1.ints, (by unfold maxLen; simp)⟩

theorem lim_ok : wholeOk [] [] [1] [7] = true := by kernel_rfl
theorem lim_read (t7 k : Nat) (h : t7 < 7) (rest : List Nd) : readF [] [] [1] 0 false (k + 4) (⟨0, (t7 : Nat), [], 0⟩ :: nLeaf :: nLeaf :: rest) [0, 0, 0, 0, 0] (pad [7]) = (true, rest) := by
  have : t7 = 0 ∨ t7 = 1 ∨ t7 = 2 ∨ t7 = 3 ∨ t7 = 4 ∨ t7 = 5 ∨ t7 = 6 := by omega
  clear h
  rcases this with rfl | rfl | rfl | rfl | rfl | rfl | rfl <;> rfl
/-- The statement's list, its first three nodes written out. -/
theorem lim_list (t n m : Nat) (h3 : 3 ≤ m) (hn : m ≤ n) : ∃ rest : List Nd, (List.range m).map (limE t n) = ⟨0, (t % 7 : Nat), [], 0⟩ :: nLeaf :: nLeaf :: rest ∧ rest.length + 3 = m := by
  obtain ⟨k, rfl⟩ : ∃ k, m = k + 3 := ⟨m - 3, by omega⟩
  refine ⟨((List.range k).map fun i => i + 3).map (limE t n), ?_, by simp⟩
  have e : List.range (k + 3) = 0 :: 1 :: 2 :: (List.range k).map fun i => i + 3 := by
    rw [Nat.add_comm, List.range_add]
    simp [List.range_succ, Nat.add_comm]
  rw [e]
  simp only [List.map_cons]
  have l1 : limE t n 1 = nLeaf := by unfold limE limK; simp; omega
  have l2 : limE t n 2 = nLeaf := by unfold limE limK; simp; omega
  rw [l1, l2]; rfl
theorem lim_check (t n m : Nat) (h3 : 3 ≤ m) (hn : m ≤ n) (hl : Hid (¬ 65535 < m)) : checkV [] [] [1] [7] ((List.range m).map (limE t n)) 0 true = (decide (m = 3), 0) := by
  obtain ⟨rest, e, hr⟩ := lim_list t n m h3 hn
  have hlen : ((List.range m).map (limE t n)).length = m := by simp
  rw [checkV_read lim_ok (by rw [hlen]; exact hl.out), hlen]
  obtain ⟨k, rfl⟩ : ∃ k, m = k + 3 := ⟨m - 3, by omega⟩
  rw [e]
  have := lim_read (t % 7) k (Nat.mod_lt _ (by omega)) rest
  rw [show (!true) = false from rfl, show k + 3 + 1 = k + 4 from rfl, this]
  simp only [Bool.true_and]
  congr 1
  have : rest.length = k := by omega
  rw [this]; simp
theorem lim_over (t n : Nat) (hl : Hid (65535 < n)) : checkV [] [] [1] [7] ((List.range n).map (limE t n)) 0 true = (false, 3) :=
  checkV_lim lim_ok (by rw [List.length_map, List.length_range]; exact hl.out)
theorem check_at (A B C U X : Option Addr) (na nb nc nu nl ca cb cc cu cx : Nat) (a : List (List Int)) (b c u : List Int) (L : List Nd) (cost : Int) (feas : Bool) (w : World)
    (hw : Who w A B C U a b c u) (hN : Nodes w X L) (hL : L.length ≤ cx) (hcx : cx ≤ maxLen) (hcost : -9223372036854775808 ≤ cost ∧ cost ≤ 9223372036854775807) (ha : a.length = na) (hb : b.length = nb) (hc : c.length = nc) (hu : u.length = nu) (hl : L.length = nl) :
    Calls Try.prog 12 #[.agg #[.slice A na ca, .slice B nb cb, .slice C nc cc, .slice U nu cu], .slice X nl cx, .bool feas, .int .i64 cost] w (CheckPost a b c u L cost feas w) := by
  subst ha; subst hb; subst hc; subst hu; subst hl; exact check_calls A B C U X ca cb cc cu cx a b c u L cost feas w hw hN hL hcx hcost

theorem lim_start (w : World) (n : Nat) (vs : List Value) (hvl : vs.length = n * 4) (hvc : ∀ j, j < n → vs[j * 4]? = some (.int .i64 0) ∧ vs[j * 4 + 1]? = some (.int .i64 0) ∧ vs[j * 4 + 2]? = some (.slice none 0 0) ∧ vs[j * 4 + 3]? = some (.int .i64 0)) (b : Nat) (hb : w.heap.size = b) :
    NBlk (w.alloc (.cells vs.toArray 34 (0, 0))) b n (limK 0) := ⟨vs, Blk.new' _ _ _ _ hb, hvl, fun j hj => by unfold limK; simpa [nZero] using hvc j hj⟩

set_option maxRecDepth 100000 in
set_option maxHeartbeats 1000000 in
theorem limit_more (t : Nat) (w : World) (ht : t < 256) : Calls Try.prog 4 #[.bool true, .int .u8 t] w fun e w' => e = .returned (.bool true) ∧ Below w.heap.size w w' := by
  obtain ⟨n, hn⟩ : ∃ n : Nat, n = 65536 := ⟨_, rfl⟩
  obtain ⟨vs, hvl, hvc, hmk⟩ := run_makeNodes n 65536 (by omega) (by omega)
  have H0 := Lib.hid (lim_start (limW w) n vs hvl hvc (w.heap.size + 1 + 1 + 1) (limW_size w))
  have HN := Lib.hid hn
  have HO : Hid (65535 < n) := Lib.hid (by omega)
  have hn1 : (n : Int) ≤ 65536 := by omega
  clear hn hvl hvc
  go_enter Try.func4, Try.ntmps4
  go_wp2_with fail
  clear hmk
  go_loopw [8] (fun i wr => ∃ k : Nat, k ≤ n ∧ i = .int .i64 k ∧ NBlk wr (w.heap.size + 1 + 1 + 1) n (limK k) ∧ Below (w.heap.size + 1 + 1 + 1) (limW w) wr) (fun i _ => n - (intOf i).toNat)
  case atStart => exact ⟨0, Nat.zero_le _, rfl, H0.out, (Below.refl _ (limW w)).alloc (by rw [limW_size]; exact Nat.le_refl _) _⟩
  case round =>
    obtain ⟨k, hk, rfl, hnb, hbe⟩ := hrel
    by_cases hlt : k < n
    · have h1 : (k : Int) < 65536 := by have := HN.out; omega
      have h2 : (k : Int) < n := by omega
      have bl := hnb.lt
      obtain ⟨c0, c1, c2, c3⟩ := hnb.cells hlt
      have f0 := hnb.free (k * 4); have f1 := hnb.free (k * 4 + 1); have f2 := hnb.free (k * 4 + 2); have f3 := hnb.free (k * 4 + 3)
      have HS := Lib.hid (hnb.set hlt nLeaf rfl)
      have HB := Lib.hid hbe
      clear hnb hbe
      go_wp2
      go_roundw
      case rel => exact ⟨k + 1, by omega, by go_num, by rw [← limK_step]; exact HS.out, ((((HB.out.setCell (Nat.le_refl _) _).setCell (Nat.le_refl _) _).setCell (Nat.le_refl _) _).setCell (Nat.le_refl _) _)⟩
      case measure => simp [intOf]; omega
    · have h1 : decide ((k : Int) < 65536) = false := decide_eq_false (by have := HN.out; omega)
      obtain rfl : k = n := by omega
      have hk0 : (0 : Int) < k := by have := HN.out; omega
      have hk1 : 0 < k := by have := HN.out; omega
      have hk2 : Hid (k ≤ maxLen) := Lib.hid (by have := HN.out; unfold maxLen; omega)
      have bl := hnb.lt
      obtain ⟨c0, c1, c2, c3⟩ := hnb.cells hk1
      have f0 := hnb.free 0; have f1 := hnb.free 1; have f2 := hnb.free 2; have f3 := hnb.free 3
      have HS : Hid (NBlk ((((wr.setCell ⟨w.heap.size + 1 + 1 + 1, 0, none⟩ (.int .i64 0)).setCell ⟨w.heap.size + 1 + 1 + 1, 1, none⟩ (.int .i64 ((t : Int) % 7))).setCell ⟨w.heap.size + 1 + 1 + 1, 2, none⟩ (.slice none 0 0)).setCell ⟨w.heap.size + 1 + 1 + 1, 3, none⟩ (.int .i64 0)) (w.heap.size + 1 + 1 + 1) k (limE t k)) := Lib.hid (by
        have := hnb.set hk1 ⟨0, (t % 7 : Nat), [], 0⟩ rfl
        rw [← (by omega : ((t % 7 : Nat) : Int) = (t : Int) % 7)]
        rw [Nat.zero_mul] at this
        exact this)
      have HBW : Hid (Below (limW w).heap.size (limW w) ((((wr.setCell ⟨w.heap.size + 1 + 1 + 1, 0, none⟩ (.int .i64 0)).setCell ⟨w.heap.size + 1 + 1 + 1, 1, none⟩ (.int .i64 ((t : Int) % 7))).setCell ⟨w.heap.size + 1 + 1 + 1, 2, none⟩ (.slice none 0 0)).setCell ⟨w.heap.size + 1 + 1 + 1, 3, none⟩ (.int .i64 0))) := Lib.hid (by
        rw [limW_size]
        exact ((((hbe.setCell (Nat.le_refl _) _).setCell (Nat.le_refl _) _).setCell (Nat.le_refl _) _).setCell (Nat.le_refl _) _))
      simp only [Nat.zero_mul, Nat.zero_add] at c0 c1 c2 c3
      have B0 := (limW_box w).below hbe (by omega)
      obtain ⟨k0, k1, k2, k3⟩ : wr.cell? ⟨w.heap.size + 1 + 1, 0, none⟩ = some (.slice none 0 0) ∧ wr.cell? ⟨w.heap.size + 1 + 1, 1, none⟩ = some (.slice none 0 0) ∧ wr.cell? ⟨w.heap.size + 1 + 1, 2, none⟩ = some (.slice (some ⟨w.heap.size, 0, none⟩) 1 1) ∧ wr.cell? ⟨w.heap.size + 1 + 1, 3, none⟩ = some (.slice (some ⟨w.heap.size + 1, 0, none⟩) 1 1) := ⟨B0.cell 0 (by simp), B0.cell 1 (by simp), B0.cell 2 (by simp), B0.cell 3 (by simp)⟩
      clear hnb hbe B0 H0
      go_wp2_with fail
      clear c0 c1 c2 c3 f0 f1 f2 f3 k0 k1 k2 k3 bl
      generalize ((((wr.setCell ⟨w.heap.size + 1 + 1 + 1, 0, none⟩ (.int .i64 0)).setCell ⟨w.heap.size + 1 + 1 + 1, 1, none⟩ (.int .i64 ((t : Int) % 7))).setCell ⟨w.heap.size + 1 + 1 + 1, 2, none⟩ (.slice none 0 0)).setCell ⟨w.heap.size + 1 + 1 + 1, 3, none⟩ (.int .i64 0)) = W at *
      refine (check_at none none _ _ _ 0 0 1 1 k 0 0 1 1 k [] [] [1] [7] ((List.range k).map (limE t k)) 0 true W ((limW_who w).ext HBW.out) (HS.out.nodes (limE_ys t k) k (Nat.le_refl _)) (by simp) hk2.out ⟨by omega, by omega⟩ rfl rfl rfl rfl (by simp)).mono ?_
      unfold CheckPost
      rw [lim_over t k HO]
      rintro e w2 ⟨rfl, hb2⟩
      have HX2 := Lib.hid (ext_trans (ext_trans (limW_below w) HBW.out) hb2)
      clear hb2
      go_wp2_with fail
      refine (alive_calls _).mono ?_; rintro e w3 ⟨rfl, hb3⟩
      have HX3 := Lib.hid (ext_trans HX2.out hb3)
      clear hb3
      go_wp2_with fail
      go_ret
      exact ⟨rfl, HX3.out⟩

set_option maxRecDepth 100000 in
set_option maxHeartbeats 1000000 in
theorem limit_less (t : Nat) (w : World) (ht : t < 256) : Calls Try.prog 4 #[.bool false, .int .u8 t] w fun e w' => e = .returned (.bool true) ∧ Below w.heap.size w w' := by
  obtain ⟨n, hn⟩ : ∃ n : Nat, n = 65535 := ⟨_, rfl⟩
  obtain ⟨vs, hvl, hvc, hmk⟩ := run_makeNodes n 65535 (by omega) (by omega)
  have H0 := Lib.hid (lim_start (limW w) n vs hvl hvc (w.heap.size + 1 + 1 + 1) (limW_size w))
  have HN := Lib.hid hn
  have HO : Hid (¬ 65535 < n) := Lib.hid (by omega)
  have hn1 : (n : Int) ≤ 65536 := by omega
  clear hn hvl hvc
  go_enter Try.func4, Try.ntmps4
  go_wp2_with fail
  clear hmk
  go_loopw [8] (fun i wr => ∃ k : Nat, k ≤ n ∧ i = .int .i64 k ∧ NBlk wr (w.heap.size + 1 + 1 + 1) n (limK k) ∧ Below (w.heap.size + 1 + 1 + 1) (limW w) wr) (fun i _ => n - (intOf i).toNat)
  case atStart => exact ⟨0, Nat.zero_le _, rfl, H0.out, (Below.refl _ (limW w)).alloc (by rw [limW_size]; exact Nat.le_refl _) _⟩
  case round =>
    obtain ⟨k, hk, rfl, hnb, hbe⟩ := hrel
    by_cases hlt : k < n
    · have h1 : (k : Int) < 65535 := by have := HN.out; omega
      have h2 : (k : Int) < n := by omega
      have bl := hnb.lt
      obtain ⟨c0, c1, c2, c3⟩ := hnb.cells hlt
      have f0 := hnb.free (k * 4); have f1 := hnb.free (k * 4 + 1); have f2 := hnb.free (k * 4 + 2); have f3 := hnb.free (k * 4 + 3)
      have HS := Lib.hid (hnb.set hlt nLeaf rfl)
      have HB := Lib.hid hbe
      clear hnb hbe
      go_wp2
      go_roundw
      case rel => exact ⟨k + 1, by omega, by go_num, by rw [← limK_step]; exact HS.out, ((((HB.out.setCell (Nat.le_refl _) _).setCell (Nat.le_refl _) _).setCell (Nat.le_refl _) _).setCell (Nat.le_refl _) _)⟩
      case measure => simp [intOf]; omega
    · have h1 : decide ((k : Int) < 65535) = false := decide_eq_false (by have := HN.out; omega)
      obtain rfl : k = n := by omega
      have hk0 : (0 : Int) < k := by have := HN.out; omega
      have hk1 : 0 < k := by have := HN.out; omega
      have hk2 : Hid (k ≤ maxLen) := Lib.hid (by have := HN.out; unfold maxLen; omega)
      have bl := hnb.lt
      obtain ⟨c0, c1, c2, c3⟩ := hnb.cells hk1
      have f0 := hnb.free 0; have f1 := hnb.free 1; have f2 := hnb.free 2; have f3 := hnb.free 3
      have HS : Hid (NBlk ((((wr.setCell ⟨w.heap.size + 1 + 1 + 1, 0, none⟩ (.int .i64 0)).setCell ⟨w.heap.size + 1 + 1 + 1, 1, none⟩ (.int .i64 ((t : Int) % 7))).setCell ⟨w.heap.size + 1 + 1 + 1, 2, none⟩ (.slice none 0 0)).setCell ⟨w.heap.size + 1 + 1 + 1, 3, none⟩ (.int .i64 0)) (w.heap.size + 1 + 1 + 1) k (limE t k)) := Lib.hid (by
        have := hnb.set hk1 ⟨0, (t % 7 : Nat), [], 0⟩ rfl
        rw [← (by omega : ((t % 7 : Nat) : Int) = (t : Int) % 7)]
        rw [Nat.zero_mul] at this
        exact this)
      have HBW : Hid (Below (limW w).heap.size (limW w) ((((wr.setCell ⟨w.heap.size + 1 + 1 + 1, 0, none⟩ (.int .i64 0)).setCell ⟨w.heap.size + 1 + 1 + 1, 1, none⟩ (.int .i64 ((t : Int) % 7))).setCell ⟨w.heap.size + 1 + 1 + 1, 2, none⟩ (.slice none 0 0)).setCell ⟨w.heap.size + 1 + 1 + 1, 3, none⟩ (.int .i64 0))) := Lib.hid (by
        rw [limW_size]
        exact ((((hbe.setCell (Nat.le_refl _) _).setCell (Nat.le_refl _) _).setCell (Nat.le_refl _) _).setCell (Nat.le_refl _) _))
      simp only [Nat.zero_mul, Nat.zero_add] at c0 c1 c2 c3
      have B0 := (limW_box w).below hbe (by omega)
      obtain ⟨k0, k1, k2, k3⟩ : wr.cell? ⟨w.heap.size + 1 + 1, 0, none⟩ = some (.slice none 0 0) ∧ wr.cell? ⟨w.heap.size + 1 + 1, 1, none⟩ = some (.slice none 0 0) ∧ wr.cell? ⟨w.heap.size + 1 + 1, 2, none⟩ = some (.slice (some ⟨w.heap.size, 0, none⟩) 1 1) ∧ wr.cell? ⟨w.heap.size + 1 + 1, 3, none⟩ = some (.slice (some ⟨w.heap.size + 1, 0, none⟩) 1 1) := ⟨B0.cell 0 (by simp), B0.cell 1 (by simp), B0.cell 2 (by simp), B0.cell 3 (by simp)⟩
      clear hnb hbe B0 H0
      go_wp2_with fail
      clear c0 c1 c2 c3 f0 f1 f2 f3 k0 k1 k2 k3 bl
      generalize ((((wr.setCell ⟨w.heap.size + 1 + 1 + 1, 0, none⟩ (.int .i64 0)).setCell ⟨w.heap.size + 1 + 1 + 1, 1, none⟩ (.int .i64 ((t : Int) % 7))).setCell ⟨w.heap.size + 1 + 1 + 1, 2, none⟩ (.slice none 0 0)).setCell ⟨w.heap.size + 1 + 1 + 1, 3, none⟩ (.int .i64 0)) = W at *
      refine (check_at none none _ _ _ 0 0 1 1 k 0 0 1 1 k [] [] [1] [7] ((List.range k).map (limE t k)) 0 true W ((limW_who w).ext HBW.out) (HS.out.nodes (limE_ys t k) k (Nat.le_refl _)) (by simp) hk2.out ⟨by omega, by omega⟩ rfl rfl rfl rfl (by simp)).mono ?_
      unfold CheckPost
      rw [lim_check t k k (by have := HN.out; omega) (Nat.le_refl _) HO, show decide (k = 3) = false from decide_eq_false (by have := HN.out; omega)]
      rintro e w2 ⟨rfl, hb2⟩
      have HX2 := Lib.hid (ext_trans (ext_trans (limW_below w) HBW.out) hb2)
      have HS2 := HS.out.ext hb2
      have HBW2 := Lib.hid (ext_trans HBW.out hb2)
      have B0 := (limW_box w).ext HBW2.out
      obtain ⟨k0, k1, k2, k3⟩ : w2.cell? ⟨w.heap.size + 1 + 1, 0, none⟩ = some (.slice none 0 0) ∧ w2.cell? ⟨w.heap.size + 1 + 1, 1, none⟩ = some (.slice none 0 0) ∧ w2.cell? ⟨w.heap.size + 1 + 1, 2, none⟩ = some (.slice (some ⟨w.heap.size, 0, none⟩) 1 1) ∧ w2.cell? ⟨w.heap.size + 1 + 1, 3, none⟩ = some (.slice (some ⟨w.heap.size + 1, 0, none⟩) 1 1) := ⟨B0.cell 0 (by simp), B0.cell 1 (by simp), B0.cell 2 (by simp), B0.cell 3 (by simp)⟩
      have hk3 : (3 : Int) ≤ k := by have := HN.out; omega
      have HS3 := Lib.hid HS2
      clear hb2 B0 HS2 HS HBW
      go_wp2_with fail
      refine wp_region_later (w0 := w2) 9 [53, 54, 55, 56, 52, 57, 58, 11, 12]
        [leafS 53 (.agg #[.slice none 0 0, .slice none 0 0, .slice (some ⟨w.heap.size, 0, none⟩) 1 1, .slice (some ⟨w.heap.size + 1, 0, none⟩) 1 1]), leafS 54 (.slice (some ⟨w.heap.size + 1 + 1 + 1, 0, none⟩) k k), leafS 55 (.slice (some ⟨w.heap.size + 1 + 1 + 1, 0, none⟩) 3 k),
         leafS 56 (.tuple #[.bool true, .int .i64 0]), leafS 52 (.tuple #[.bool true, .int .i64 0]), leafS 57 (.bool true), leafS 58 (.int .i64 0), leafS 11 (.bool true), leafS 12 (.int .i64 0)]
        (fun w w' => Below w.heap.size w w') (by kernel_rfl) (by kernel_rfl) rfl (F := ?cF) ?c1 (fun _ _ _ => ext_trans) (Below.refl _ _).drew ?c2 ?c3 ?c4
      case c1 =>
        intro x
        simp only [fullF, Act.put, List.setIfInBounds_toArray, List.set_cons_zero, List.set_cons_succ]
        rfl
      case c2 => exact AllStay.mem ⟨stays_const _ _ _, stays_const _ _ _, stays_const _ _ _, stays_const _ _ _, stays_const _ _ _, stays_const _ _ _, stays_const _ _ _, stays_const _ _ _, stays_const _ _ _, trivial⟩
      case c3 =>
        refine ⟨?_, ?_, ?_, ?_, ?_, ?_, ?_, ?_, ?_, trivial⟩
        all_goals
          intro x w0 hE hd K hK
          have hc := (bcell hE).1
          have k0' := (hc _ _ (cell_lt k0)).trans k0
          have k1' := (hc _ _ (cell_lt k1)).trans k1
          have k2' := (hc _ _ (cell_lt k2)).trans k2
          have k3' := (hc _ _ (cell_lt k3)).trans k3
          try have e0 : x 53 = _ := hd 0 _ (by decide) rfl
          try have e1 : x 54 = _ := hd 1 _ (by decide) rfl
          try have e2 : x 55 = _ := hd 2 _ (by decide) rfl
          try have e3 : x 56 = _ := hd 3 _ (by decide) rfl
          try have e4 : x 52 = _ := hd 4 _ (by decide) rfl
          try have e5 : x 57 = _ := hd 5 _ (by decide) rfl
          try have e6 : x 58 = _ := hd 6 _ (by decide) rfl
          have HC := Lib.hid hc; have HE := Lib.hid hE
          clear hd hc hE
          go_simp
          try exact hK _ _ _ (Below.refl _ _) (upd_self _ _ _) (by dsimp only [Act.put]; first | rfl | (simp [*]; done))
        refine (check_at none none _ _ _ 0 0 1 1 3 0 0 1 1 k [] [] [1] [7] ((List.range 3).map (limE t k)) 0 true w0 ((limW_who w).ext (ext_trans HBW2.out HE.out)) ((HS3.out.ext HE.out).nodes (limE_ys t k) 3 (by have := HN.out; omega)) (by simp; have := HN.out; omega) hk2.out ⟨by omega, by omega⟩ rfl rfl rfl rfl (by simp)).mono ?_
        unfold CheckPost
        rw [lim_check t k 3 (by omega) (by have := HN.out; omega) (Lib.hid (by omega))]
        rintro e w3 ⟨rfl, hb3⟩
        exact hK _ _ _ hb3 (upd_self _ _ _) (by dsimp only [Act.put]; first | rfl | (simp [*]; done))
      case c4 =>
        intro x w3 hE hG
        have e0 : x 53 = _ := hG 0 _ rfl
        have e1 : x 54 = _ := hG 1 _ rfl
        have e2 : x 55 = _ := hG 2 _ rfl
        have e3 : x 56 = _ := hG 3 _ rfl
        have e4 : x 52 = _ := hG 4 _ rfl
        have e5 : x 57 = _ := hG 5 _ rfl
        have e6 : x 58 = _ := hG 6 _ rfl
        have e7 : x 11 = _ := hG 7 _ rfl
        have e8 : x 12 = _ := hG 8 _ rfl
        have HX3 := Lib.hid (ext_trans HX2.out hE)
        clear hG hE k0 k1 k2 k3
        refine wpAny_done (by kernel_rfl) ?_ _
        try simp only [Exit.inBlock, Exit.then]
        rw [e0, e1, e2, e3, e4, e5, e6, e7, e8]
        clear e0 e1 e2 e3 e4 e5 e6 e7 e8
        go_wp2_with fail
        refine (alive_calls _).mono ?_; rintro e w4 ⟨rfl, hb4⟩
        have HX4 := Lib.hid (ext_trans HX3.out hb4)
        clear hb4
        go_wp2_with fail
        go_ret
        exact ⟨rfl, HX4.out⟩

theorem limit_walk (more : Bool) (t : Nat) (w : World) (ht : t < 256) : Calls Try.prog 4 #[.bool more, .int .u8 t] w fun e w' => e = .returned (.bool true) ∧ Below w.heap.size w w' := by
  cases more
  · exact limit_less t w ht
  · exact limit_more t w ht
end Go.Proofs.Ytbdlfjhhgnhejaa
