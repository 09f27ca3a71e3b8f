/- tinplateref02.vector: the k-th vector of the box. -/
import Derived.Test.YtbdlfjhhgnhejaaRefB
namespace Go.Proofs.Ytbdlfjhhgnhejaa
open Go.RowKit

theorem wholeOk_len' {a : List (List Int)} {b c u : List Int} (h : wholeOk a b c u = true) : u.length = c.length ∧ 0 < u.length ∧ u.length ≤ 5 := by
  unfold wholeOk at h; simp only [Bool.and_eq_true, decide_eq_true_eq] at h
  have := (progOk_parts h.2).1
  omega

theorem zero_beq (Q : Nat) : ((Q : Int) == 0) = (Q == 0) := by rw [Bool.eq_iff_iff]; simp
/-- The digits of k, the last variable first, and what is left of k. -/
def vec : List Int → Nat → List Int × Nat
  | [], k => ([], k)
  | m :: us, k => (((vec us k).2 % (m.toNat + 1) : Nat) :: (vec us k).1, (vec us k).2 / (m.toNat + 1))
theorem vec_len : ∀ (u : List Int) (k : Nat), (vec u k).1.length = u.length
  | [], _ => rfl
  | _ :: us, k => by simp [vec, vec_len us k]
theorem vec_le : ∀ (u : List Int) (k : Nat), (vec u k).2 ≤ k
  | [], _ => Nat.le_refl _
  | _ :: us, k => Nat.le_trans (Nat.div_le_self _ _) (vec_le us k)
/-- The vector as far as it is filled: j variables are still 0. -/
def partV (u : List Int) (k j : Nat) : List Int := zeros j ++ (vec (u.drop j) k).1
theorem partV_len (u : List Int) (k j : Nat) (hj : j ≤ u.length) : (partV u k j).length = u.length := by
  unfold partV; rw [List.length_append, zeros_len, vec_len, List.length_drop]; omega
theorem vec_drop (u : List Int) (k j : Nat) (hj : j < u.length) : vec (u.drop j) k = ((((vec (u.drop (j + 1)) k).2 % ((nth u j).toNat + 1) : Nat) : Int) :: (vec (u.drop (j + 1)) k).1, (vec (u.drop (j + 1)) k).2 / ((nth u j).toNat + 1)) := by
  rw [List.drop_eq_getElem_cons hj, nth_lt hj]; rfl
theorem partV_set (u : List Int) (k j : Nat) (hj : j < u.length) : (partV u k (j + 1)).set j (((vec (u.drop (j + 1)) k).2 % ((nth u j).toNat + 1) : Nat) : Int) = partV u k j := by
  unfold partV
  rw [vec_drop u k j hj, show zeros (j + 1) = zeros j ++ [0] from by unfold zeros; rw [List.replicate_succ'], List.append_assoc]
  rw [List.set_append_right _ _ (by simp [zeros_len]), zeros_len, Nat.sub_self]; rfl

set_option maxRecDepth 100000 in
set_option maxHeartbeats 1000000 in
theorem vector_calls (A B C U : Option Addr) (ca cb cc cu : Nat) (a : List (List Int)) (b c u : List Int) (k : Nat) (w : World) (h : Who w A B C U a b c u) (hok : wholeOk a b c u = true) (hk : k ≤ 1000000) :
    Calls Try.prog 25 #[.agg #[.slice A a.length ca, .slice B b.length cb, .slice C c.length cc, .slice U u.length cu], .int .i64 k] w fun e w' => ∃ g, e = .returned (.tuple #[.slice (some ⟨g, 0, none⟩) u.length u.length, .bool ((vec u k).2 == 0)]) ∧ IBlk w' g (vec u k).1 ∧ w.heap.size ≤ g ∧ Below w.heap.size w w' := by
  obtain ⟨hul, h0, h5⟩ := wholeOk_len' hok
  have hup : upOk u = true := by unfold wholeOk at hok; simp only [Bool.and_eq_true] at hok; exact hok.1.2
  have hmk := fun w => run_makeInts w u.length (by omega)
  have hb0 : ∀ o, Below w.heap.size w (w.alloc o) := fun o => (Below.refl _ _).alloc (Nat.le_refl _) _
  have HU := Lib.hid hul; clear hul
  go_enter Try.func25, Try.ntmps25
  go_wp2
  go_loopw [1, 7] (fun q i wr => ∃ j : Nat, j ≤ u.length ∧ i = .int .i64 ((j : Int) - 1) ∧ q = .int .i64 (vec (u.drop j) k).2 ∧ IBlk wr (w.heap.size + 1) (partV u k j) ∧ Blk wr w.heap.size [.slice A a.length ca, .slice B b.length cb, .slice C c.length cc, .slice U u.length cu] 25 ∧ Below w.heap.size w wr) (fun _ i _ => (intOf i + 1).toNat)
  case atStart =>
    refine ⟨u.length, Nat.le_refl _, rfl, by rw [List.drop_length]; rfl, ?_, (Blk.new' w [.slice A a.length ca, .slice B b.length cb, .slice C c.length cc, .slice U u.length cu] _ _ rfl).alloc _, ((Below.refl _ _).alloc (Nat.le_refl _) _).alloc (by simp) _⟩
    have e : partV u k u.length = zeros u.length := by unfold partV; rw [List.drop_length]; simp [vec]
    rw [e]; exact IBlk.made' _ _ _ (by simp)
  case round =>
    obtain ⟨j, hj, rfl, rfl, hx, hp, hb⟩ := hrel
    have p3 : wr.cell? ⟨w.heap.size, 3, none⟩ = some (.slice U u.length cu) := hp.cell 3 (by simp)
    cases j with
    | zero =>
      rw [show ((0 : Nat) : Int) - 1 = -1 from rfl]
      have e0 : partV u k 0 = (vec u k).1 := rfl
      rw [e0] at hx
      rw [List.drop_zero]
      have hle := vec_le u k
      obtain ⟨X, hX⟩ : ∃ X, Hid ((vec u k).1 = X) := ⟨_, rfl⟩
      obtain ⟨Q, hQ⟩ : ∃ Q, Hid ((vec u k).2 = Q) := ⟨_, rfl⟩
      rw [hX.out] at hx
      rw [hQ.out] at hle ⊢
      go_wp2
      go_ret2
      exact ⟨w.heap.size + 1, by rw [hQ.out]; simp only [zero_beq]; rfl, by rw [hX.out]; exact hx, by omega, hb⟩
    | succ j =>
      have hju : j < u.length := by omega
      rw [show ((j + 1 : Nat) : Int) - 1 = j from by omega]
      obtain ⟨bU, oU, rfl, gU0⟩ := h.gu j hju
      have hbU : bU < w.heap.size := cell_lt gU0
      have gU : wr.cell? ⟨bU, oU + j, none⟩ = some (.int .i64 (nth u j)) := by rw [hb.cell (p := ⟨bU, oU + j, none⟩) hbU]; exact gU0
      have nU : ¬ w.heap.size + 1 = bU := by omega
      clear gU0
      have hm := (List.all_eq_true.1 hup) (nth u j) (nth_mem hju)
      simp at hm
      have hset := partV_set u k j hju
      have hvd := vec_drop u k j hju
      obtain ⟨M, hM⟩ : ∃ M : Nat, nth u j = M := ⟨(nth u j).toNat, by omega⟩
      have hQ1 := vec_le (u.drop (j + 1)) k
      rw [hM] at gU hm hset hvd
      rw [Int.toNat_natCast] at hset hvd
      have hfr := Blk.free hx j
      have hlen := partV_len u k (j + 1) hj
      have hcx := hx.cell j (by omega)
      have HS := Lib.hid hset; have HV := Lib.hid hvd; have HM := Lib.hid hM; have HL := Lib.hid hlen
      clear hset hvd hM hlen
      obtain ⟨Q, hQ⟩ : ∃ Q, Hid ((vec (u.drop (j + 1)) k).2 = Q) := ⟨_, rfl⟩
      rw [hQ.out] at hQ1 ⊢
      have eq1 : (Q : Int) % ((M : Int) + 1) = ((Q % (M + 1) : Nat) : Int) := by push_cast; rfl
      have eq2 : (Q : Int) / ((M : Int) + 1) = ((Q / (M + 1) : Nat) : Int) := by push_cast; rfl
      have q1 : 0 ≤ (Q : Int) / ((M : Int) + 1) := by rw [eq2]; exact Int.natCast_nonneg _
      have q2 : (Q : Int) / ((M : Int) + 1) ≤ 1000000 := by rw [eq2]; have hq : Q / (M + 1) ≤ 1000000 := Nat.le_trans (Nat.div_le_self Q (M + 1)) (by omega); generalize Q / (M + 1) = z at hq ⊢; omega
      have E1 := Lib.hid eq1; have E2 := Lib.hid eq2
      clear eq1 eq2
      have hj0 : (0 : Int) ≤ j := by omega
      have hj1 : (j : Int) < u.length := by omega
      go_wp2
      go_roundw
      case rel =>
        refine ⟨j, by omega, rfl, ?_, ?_, hp.other _ _ (by simp), hb.setCell (by dsimp only; omega) _⟩
        · simp only [HV.out, hQ.out]; first | rfl | rw [E2.out]
        · rw [← HS.out, hQ.out, E1.out]; exact hx.set j _
      case measure => simp [intOf]

theorem flat_len (M : Nat) (B : List (List Int)) : ((irange M).flatMap fun t => B.map (t :: ·)).length = M * B.length := by
  rw [List.length_flatMap]; simp only [List.length_map, List.map_const', List.sum_replicate_nat]; unfold irange; simp
theorem flatMap_get (M : Nat) (B : List (List Int)) : ∀ (v r : Nat), v < M → r < B.length → ((irange M).flatMap fun t => B.map (t :: ·))[v * B.length + r]? = some ((v : Int) :: B.getD r []) := by
  induction M with
  | zero => intro v r hv; omega
  | succ M ih =>
    intro v r hv hr
    have hl := flat_len M B
    rw [irange_succ, List.flatMap_append]
    by_cases hvM : v < M
    · rw [List.getElem?_append_left (by rw [hl]; calc v * B.length + r < v * B.length + B.length := by omega
        _ = (v + 1) * B.length := by rw [Nat.add_mul, Nat.one_mul]
        _ ≤ M * B.length := Nat.mul_le_mul_right _ hvM)]
      exact ih v r hvM hr
    · obtain rfl : v = M := by omega
      rw [List.getElem?_append_right (by rw [hl]; omega), hl, show v * B.length + r - v * B.length = r by omega]
      simp [List.getElem?_eq_getElem hr]
theorem box_pos : ∀ u : List Int, 0 < (box u).length
  | [] => by simp [box]
  | m :: us => by
    have e : box (m :: us) = (irange (m.toNat + 1)).flatMap fun v => (box us).map (v :: ·) := rfl
    rw [e, List.length_flatMap]; simp only [List.length_map, List.map_const', List.sum_replicate_nat]
    exact Nat.mul_pos (by unfold irange; simp) (box_pos us)
theorem box_length (m : Int) (us : List Int) : (box (m :: us)).length = (m.toNat + 1) * (box us).length := by
  have e : box (m :: us) = (irange (m.toNat + 1)).flatMap fun v => (box us).map (v :: ·) := rfl
  rw [e, flat_len]
/-- The k-th vector, and how often the box has been gone through. -/
theorem vec_box : ∀ (u : List Int) (k : Nat), (vec u k).2 = k / (box u).length ∧ (box u)[k % (box u).length]? = some (vec u k).1
  | [], k => by simp [vec, box, Nat.mod_one]
  | m :: us, k => by
    obtain ⟨h1, h2⟩ := vec_box us k
    have hp := box_pos us
    refine ⟨?_, ?_⟩
    · rw [box_length, vec, h1, Nat.div_div_eq_div_mul, Nat.mul_comm]
    · have hmod : k % ((m.toNat + 1) * (box us).length) = (k / (box us).length % (m.toNat + 1)) * (box us).length + k % (box us).length := by
        rw [Nat.mul_comm (m.toNat + 1), Nat.mod_mul, Nat.mul_comm (box us).length]; omega
      have e : box (m :: us) = (irange (m.toNat + 1)).flatMap fun v => (box us).map (v :: ·) := rfl
      rw [box_length, hmod, e, flatMap_get _ _ _ _ (Nat.mod_lt _ (by omega)) (Nat.mod_lt _ hp)]
      simp only [vec, h1]
      rw [List.getD_eq_getElem?_getD, h2]; rfl
theorem vec_in {u : List Int} {k : Nat} (h : k < (box u).length) : ((vec u k).2 == 0) = true ∧ (box u).take (k + 1) = (box u).take k ++ [(vec u k).1] := by
  obtain ⟨h1, h2⟩ := vec_box u k
  rw [Nat.div_eq_of_lt h] at h1
  rw [Nat.mod_eq_of_lt h] at h2
  refine ⟨by rw [h1]; rfl, ?_⟩
  rw [List.take_add_one, h2]; rfl
theorem vec_out (u : List Int) : ((vec u (box u).length).2 == 0) = false := by
  rw [(vec_box u _).1, Nat.div_self (box_pos u)]; rfl
theorem vec_inBox : ∀ {u : List Int} {x : List Int}, upOk u = true → x ∈ box u → InBox u x u.length ∧ x.length = u.length
  | [], x, _, hx => by simp [box] at hx; subst hx; exact ⟨fun i hi => by simp at hi, rfl⟩
  | m :: us, x, hu, hx => by
    have e : box (m :: us) = (irange (m.toNat + 1)).flatMap fun v => (box us).map (v :: ·) := rfl
    rw [e, List.mem_flatMap] at hx
    obtain ⟨t, ht, hx⟩ := hx
    obtain ⟨r, hr, rfl⟩ := List.mem_map.1 hx
    unfold upOk at hu; simp only [List.all_cons, Bool.and_eq_true, decide_eq_true_eq] at hu
    obtain ⟨h1, h2⟩ := vec_inBox (u := us) (by unfold upOk; exact hu.2) hr
    unfold irange at ht; rw [List.mem_map] at ht
    obtain ⟨q, hq, rfl⟩ := ht
    rw [List.mem_range] at hq
    refine ⟨fun i hi => ?_, by simp [h2]⟩
    cases i with
    | zero => simp only [nth, List.getD_cons_zero]; have : Int.ofNat q = (q : Int) := rfl; omega
    | succ i => simp only [nth, List.getD_cons_succ]; exact h1 i (by simpa using hi)
end Go.Proofs.Ytbdlfjhhgnhejaa
