/- math/bits: the leading zeros of a word. -/
import Derived.Lib.BitFns
import Derived.Lib.ItoaNum
import Derived.Shelf.Small.Bits
import Derived.Test.YtkljafmdbajfeaaGreatDoorNoA12
namespace Go.Proofs.YtkljafmdbajfeaaGreatDoor
open Go.RowKit Go.Shelf
set_option linter.unusedVariables false
set_option linter.unusedSimpArgs false
def lz_ren : Go.Shelf.Ren := ⟨fun | 133 => 234 | 128 => 240 | n => n, fun | 51 => 240 | 3 => 3 | 4 => 4 | 46 => 241 | 5 => 5 | 9 => 9 | n => n, fun | n => n⟩
theorem lz_lays : Go.Proofs.Lays.n133 Tryz.prog lz_ren := {
  mixed := by kernel_rfl
  f128 := Tryz.func240.trans (congrArg some (by kernel_rfl))
  f133 := Tryz.func234.trans (congrArg some (by kernel_rfl))
  t3 := Tryz.underlying3
  a3 := Tryz.isAgg3
  z3 := Tryz.sizeOf3
  v3 := Tryz.zeroValue3
  t4 := Tryz.underlying4
  a4 := Tryz.isAgg4
  z4 := Tryz.sizeOf4
  v4 := Tryz.zeroValue4
  t5 := Tryz.underlying5
  a5 := Tryz.isAgg5
  z5 := Tryz.sizeOf5
  v5 := Tryz.zeroValue5
  t9 := Tryz.underlying9
  a9 := Tryz.isAgg9
  z9 := Tryz.sizeOf9
  v9 := Tryz.zeroValue9
  t46 := Tryz.underlying241
  a46 := Tryz.isAgg241
  z46 := Tryz.sizeOf241
  v46 := Tryz.zeroValue241
  t51 := Tryz.underlying240
  a51 := Tryz.isAgg240
  z51 := Tryz.sizeOf240
  v51 := Tryz.zeroValue240 }
theorem lz_bound (x s : Nat) (h0 : 0 < x) (hs : s = 32 - Lib.bitLen x) (hx : x < 4294967296) : s < 32 ∧ 2147483648 ≤ x * 2 ^ s ∧ x * 2 ^ s < 4294967296 := by
  obtain ⟨h1, h2, h3⟩ := Lib.bitLenAux_bounds 64 x (by omega) (by omega)
  have h4 := Lib.bitLen_le x 32 (by omega) (by omega)
  unfold Lib.bitLen at h4 hs
  generalize Lib.bitLenAux 64 x = l at *
  subst hs
  refine ⟨by omega, ?_, ?_⟩
  · have : 2 ^ (l - 1) * 2 ^ (32 - l) ≤ x * 2 ^ (32 - l) := Nat.mul_le_mul_right _ h2
    rw [← Nat.pow_add, show l - 1 + (32 - l) = 31 by omega] at this
    exact this
  · have : x * 2 ^ (32 - l) < 2 ^ l * 2 ^ (32 - l) := Nat.mul_lt_mul_of_pos_right h3 (Nat.two_pow_pos _)
    rw [← Nat.pow_add, show l + (32 - l) = 32 by omega] at this
    exact this
theorem lz32_calls (x : Nat) (w : World) (h0 : 0 < x) (hx : x < 4294967296) :
    Calls Tryz.prog 234 #[.int .u32 x] w fun e w' => ∃ s : Nat, e = .returned (.int .i64 s) ∧ (s < 32 ∧ 2147483648 ≤ x * 2 ^ s ∧ x * 2 ^ s < 4294967296) ∧ w' = w := by
  have l := Lib.bitLen_le x 32 (by omega) (by omega)
  have hb := lz_bound x _ h0 rfl hx
  refine (Any.bits_LeadingZeros32 lz_lays (x : Int) w (by omega) (by omega)).mono ?_
  rintro e w' ⟨rfl, rfl⟩
  exact ⟨32 - Lib.bitLen x, by rw [show (x : Int).toNat = x by omega]; congr 2; omega, hb, rfl⟩
end Go.Proofs.YtkljafmdbajfeaaGreatDoor

/- Long division: how a round's guess is put right, in digits. Plain mathematics. -/
namespace Go.Proofs.YtkljafmdbajfeaaGreatDoor
set_option linter.unusedVariables false
theorem val_top2 {l : List Nat} {n : Nat} (h : l.length = n + 2) : val l = (nthd l (n + 1) * 4294967296 + nthd l n) * 4294967296 ^ n + val (l.take n) := by
  have h1 := val_take_succ l (n + 1)
  have h2 := val_take_succ l n
  have h3 : l.take (n + 1 + 1) = l := List.take_of_length_le (by omega)
  rw [h3, h2, Nat.pow_succ] at h1
  rw [h1]
  generalize 4294967296 ^ n = P
  generalize nthd l (n + 1) = x
  generalize nthd l n = y
  grind
theorem top3_ring (v t x y z B P : Nat) (h : v = (x * B + y) * (P * B) + (t + P * z)) : v = ((x * B + y) * B + z) * P + t := by
  rw [h]; grind
theorem val_top3 {l : List Nat} {n : Nat} (h : l.length = n + 3) : val l = ((nthd l (n + 2) * 4294967296 + nthd l (n + 1)) * 4294967296 + nthd l n) * 4294967296 ^ n + val (l.take n) := by
  have h1 := val_top2 (n := n + 1) h
  have h2 := val_take_succ l n
  have h3 : 4294967296 ^ (n + 1) = 4294967296 ^ n * 4294967296 := Nat.pow_succ _ _
  rw [h3, h2] at h1
  exact top3_ring _ _ _ _ _ _ _ h1
theorem round_trial {rest d : List Nat} {j n : Nat} (hn : d.length = n + 2) (hr : Dig rest) (hd : Dig d) (hj : j + (n + 2) < rest.length) (h1 : 0 < nthd d (n + 1)) (hlt : val ((rest.drop j).take (n + 3)) < val d * 4294967296) :
    Trial 4294967296 (4294967296 ^ n) (nthd d (n + 1)) (nthd d n) (val (d.take n)) (nthd rest (j + n + 2)) (nthd rest (j + n + 1)) (nthd rest (j + n)) (val (((rest.drop j).take (n + 3)).take n)) (val d) (val ((rest.drop j).take (n + 3))) := by
  have hl : ((rest.drop j).take (n + 3)).length = n + 3 := by simp; omega
  have e := val_top3 hl
  rw [nthd_win (by omega), nthd_win (by omega), nthd_win (by omega)] at e
  have v1 := val_lt (hd.take n)
  have v2 := val_lt (((hr.drop j).take (n + 3)).take n)
  rw [List.length_take, Nat.min_eq_left (by omega)] at v1 v2
  exact ⟨by omega, Nat.pow_pos (by omega), val_top2 hn, e, h1, hd.nth _, v1, hr.nth _, hr.nth _, v2, hlt⟩
theorem round_yes {U D q B vn s : Nat} (hD : 0 < D) (he : q * D + vn = U + B * s) (hs : s ≤ 1) (hv : vn < B) (hU : U < B) (g1 : U / D ≤ q) (g2 : q ≤ U / D + 1) :
    (s = 0 → q = U / D ∧ vn + q * D = U) ∧ (s ≠ 0 → q = U / D + 1 ∧ ∀ vm c, vm < B → c ≤ 1 → vm + B * c = vn + D → vm + (q - 1) * D = U) := by
  have h1 := Nat.div_add_mod U D
  have h2 := Nat.mod_lt U hD
  refine ⟨fun h0 => ?_, fun h0 => ?_⟩
  · subst h0
    rcases Nat.lt_or_ge (U / D) q with h3 | h3
    · have h4 := Nat.mul_le_mul_right D h3
      rw [Nat.succ_mul, Nat.mul_comm] at h4; omega
    · have : q = U / D := by omega
      exact ⟨this, by omega⟩
  · have : s = 1 := by omega
    subst this
    have hq : q = U / D + 1 := by
      rcases Nat.lt_or_ge (U / D) q with h3 | h3
      · omega
      · have : q = U / D := by omega
        subst this
        rw [Nat.mul_comm] at he; omega
    refine ⟨hq, fun vm c hm hc hmc => ?_⟩
    subst hq
    rw [Nat.add_sub_cancel]
    rw [Nat.add_mul, Nat.one_mul] at he
    have h5 : U / D * D = D * (U / D) := Nat.mul_comm _ _
    have hc1 : c = 1 := by
      rcases Nat.eq_zero_or_pos c with h6 | h6
      · subst h6; omega
      · omega
    subst hc1; omega
structure BackAt (rest bk : List Nat) (s i n : Nat) : Prop where
  len : bk.length = n
  dig : Dig bk
  value : 2 ^ s * val (bk.take i) + nthd rest 0 % 2 ^ s = val (rest.take i) + 4294967296 ^ i * (nthd rest i % 2 ^ s)
theorem BackAt.start (rest : List Nat) (s n : Nat) : BackAt rest (List.replicate n 0) s 0 n := ⟨by simp, Dig.zeros n, by simp [val]⟩
theorem BackAt.step {rest bk : List Nat} {s i n : Nat} (h : BackAt rest bk s i n) (hr : Dig rest) (hs : s < 32) (hi : i < n) :
    BackAt rest (bk.set i ((nthd rest i + 4294967296 * nthd rest (i + 1)) / 2 ^ s % 4294967296)) s (i + 1) n := by
  refine ⟨by rw [List.length_set]; exact h.len, wdig_set h.dig i (Nat.mod_lt _ (by omega)), ?_⟩
  rw [val_set_succ (by rw [h.len]; exact hi), val_take_succ rest i, Nat.pow_succ]
  exact back_step hs (hr.nth i) h.value
theorem BackAt.done {rest bk : List Nat} {s n A M : Nat} (h : BackAt rest bk s n n) (hz : nthd rest n = 0) (hv : val (rest.take n) = A * 2 ^ s % (M * 2 ^ s)) (hm : 0 < M) : val bk = A % M := by
  have hv2 := h.value
  rw [← h.len, List.take_length, h.len, hz, Nat.zero_mod, Nat.mul_zero, Nat.add_zero, hv, Nat.mul_mod_mul_right] at hv2
  have hp := Nat.two_pow_pos s
  have h1 : nthd rest 0 % 2 ^ s < 2 ^ s := Nat.mod_lt _ hp
  have h2 : (2 ^ s * val bk + nthd rest 0 % 2 ^ s) % 2 ^ s = 0 := by rw [hv2, Nat.mul_mod_left]
  rw [Nat.mul_add_mod, Nat.mod_mod] at h2
  rw [h2, Nat.add_zero, Nat.mul_comm] at hv2
  exact Nat.eq_of_mul_eq_mul_right hp hv2
theorem ShAt.divisor {b os : List Nat} {s : Nat} (hs : s < 32) (h : ShAt b os s b.length) (hb : Dig b) (hl : 0 < b.length) (ht : nthd b (b.length - 1) * 2 ^ s < 4294967296) : val (os.take b.length) = val b * 2 ^ s ∧ (2147483648 ≤ nthd b (b.length - 1) * 2 ^ s → 0 < nthd (os.take b.length) (b.length - 1)) := by
  have hv := h.done
  have hlen := h.len
  have e1 : val os = val (os.take b.length) + 4294967296 ^ b.length * nthd os b.length := by
    have := val_take_succ os b.length
    rwa [← hlen, List.take_length] at this
  have e2 : val b = val (b.take (b.length - 1)) + 4294967296 ^ (b.length - 1) * nthd b (b.length - 1) := by
    have := val_take_succ b (b.length - 1)
    rwa [Nat.sub_add_cancel hl, List.take_length] at this
  have v1 := val_lt (hb.take (b.length - 1))
  rw [List.length_take, Nat.min_eq_left (by omega)] at v1
  have hpw : 4294967296 ^ b.length = 4294967296 ^ (b.length - 1) * 4294967296 := by rw [← Nat.pow_succ, Nat.succ_eq_add_one, Nat.sub_add_cancel hl]
  have hlt : val b * 2 ^ s < 4294967296 ^ b.length := by
    -- all digits below the highest are less than one of it; the highest times 2^s leaves room for 2^s
    have hs1 : (nthd b (b.length - 1) + 1) * 2 ^ s ≤ 4294967296 := by
      have hB := pow_split hs
      have h7 : nthd b (b.length - 1) < 2 ^ (32 - s) := by
        refine Nat.lt_of_mul_lt_mul_right (a := 2 ^ s) ?_
        rw [Nat.mul_comm (2 ^ (32 - s)), ← hB]; exact ht
      have := Nat.mul_le_mul_right (2 ^ s) h7
      rw [Nat.mul_comm (2 ^ (32 - s)), ← hB] at this
      exact this
    have h8 : val b < 4294967296 ^ (b.length - 1) * (nthd b (b.length - 1) + 1) := by rw [e2, Nat.mul_add]; omega
    have h9 : val b * 2 ^ s < 4294967296 ^ (b.length - 1) * (nthd b (b.length - 1) + 1) * 2 ^ s := Nat.mul_lt_mul_of_pos_right h8 (Nat.two_pow_pos s)
    rw [Nat.mul_assoc] at h9
    have := Nat.mul_le_mul_left (4294967296 ^ (b.length - 1)) hs1
    rw [hpw]; omega
  have hz : nthd os b.length = 0 := by
    rcases Nat.eq_zero_or_pos (nthd os b.length) with h5 | h5
    · exact h5
    · have := Nat.mul_le_mul_left (4294967296 ^ b.length) h5
      omega
  rw [hz, Nat.mul_zero, Nat.add_zero] at e1
  refine ⟨by omega, fun hge => ?_⟩
  rcases Nat.eq_zero_or_pos (nthd (os.take b.length) (b.length - 1)) with h5 | h5
  · exfalso
    have e3 := val_take_succ (os.take b.length) (b.length - 1)
    rw [Nat.sub_add_cancel hl, h5, Nat.mul_zero, Nat.add_zero] at e3
    rw [List.take_take, List.take_take, Nat.min_self, Nat.min_eq_left (by omega)] at e3
    have v2 := val_lt (h.dig.take (b.length - 1))
    rw [List.length_take, Nat.min_eq_left (by omega)] at v2
    have h6 : 4294967296 ^ (b.length - 1) * nthd b (b.length - 1) * 2 ^ s ≤ val b * 2 ^ s := Nat.mul_le_mul_right _ (by omega)
    rw [Nat.mul_assoc] at h6
    have h7 := Nat.mul_le_mul_left (4294967296 ^ (b.length - 1)) (show 1 ≤ nthd b (b.length - 1) * 2 ^ s by omega)
    omega
  · exact h5
end Go.Proofs.YtkljafmdbajfeaaGreatDoor
