/- Long division, digit by digit: the guess of a digit, in plain numbers. -/
import Derived.Test.YtkljafmdbajfeaaGreatDoorReA14
namespace Go.Proofs.YtkljafmdbajfeaaGreatDoor
open Go.RowKit
set_option linter.unusedVariables false
set_option linter.unusedSimpArgs false
structure Trial (b P d1 d2 dl u0 u1 u2 ul D U : Nat) : Prop where
 b2 : 2 ≤ b
 hP : 0 < P
 d : D = (d1 * b + d2) * P + dl
 u : U = ((u0 * b + u1) * b + u2) * P + ul
 pos : 0 < d1
 h2 : d2 < b
 hl : dl < P
 w1 : u1 < b
 w2 : u2 < b
 wl : ul < P
 lt : U < D * b
variable {b P d1 d2 dl u0 u1 u2 ul D U q r : Nat}
theorem Trial.dpos (h : Trial b P d1 d2 dl u0 u1 u2 ul D U) : b * P ≤ D := by
 have h1 : 1 * b ≤ d1 * b := Nat.mul_le_mul_right b h.pos
 have h2 : b * P ≤ (d1 * b + d2) * P := Nat.mul_le_mul_right P (by omega)
 rw [h.d]; omega
theorem Trial.top (h : Trial b P d1 d2 dl u0 u1 u2 ul D U) : u0 ≤ d1 := by
 refine Classical.byContradiction fun hn => ?_
 have h0 : d1 + 1 ≤ u0 := by omega
 have e1 : D < (d1 * b + d2 + 1) * P := by rw [h.d, Nat.add_mul (d1 * b + d2) 1 P]; have := h.hl; omega
 have e2 : d1 * b + d2 + 1 ≤ (d1 + 1) * b := by rw [Nat.add_mul]; have := h.h2; omega
 have e3 : D < (d1 + 1) * b * P := Nat.lt_of_lt_of_le e1 (Nat.mul_le_mul_right P e2)
 have e4 : D * b < (d1 + 1) * b * P * b := Nat.mul_lt_mul_of_pos_right e3 (by have := h.b2; omega)
 have e5 : (d1 + 1) * b * P * b ≤ u0 * b * P * b := Nat.mul_le_mul_right b (Nat.mul_le_mul_right P (Nat.mul_le_mul_right b h0))
 have e6 : u0 * b * P * b = u0 * b * b * P := by rw [Nat.mul_assoc (u0 * b), Nat.mul_comm P b, ← Nat.mul_assoc]
 have e7 : u0 * b * b * P ≤ ((u0 * b + u1) * b + u2) * P := Nat.mul_le_mul_right P (by rw [Nat.add_mul]; omega)
 have := h.lt; have := h.u; omega
theorem Trial.first (h : Trial b P d1 d2 dl u0 u1 u2 ul D U) : U / D ≤ (u0 * b + u1) / d1 := by
 rw [Nat.le_div_iff_mul_le h.pos]
 have h1 : U / D * D ≤ U := Nat.div_mul_le_self U D
 have h2 : U < (u0 * b + u1 + 1) * (b * P) := by
  have e : ((u0 * b + u1) * b + u2 + 1) * P ≤ ((u0 * b + u1 + 1) * b) * P := Nat.mul_le_mul_right P (by rw [Nat.add_mul (u0 * b + u1) 1 b]; have := h.w2; omega)
  rw [Nat.add_mul _ 1 P] at e
  have := h.u; have := h.wl
  rw [← Nat.mul_assoc]; omega
 have h3 : U / D * d1 * (b * P) ≤ U / D * D := by
  rw [Nat.mul_assoc]
  refine Nat.mul_le_mul_left _ ?_
  rw [h.d, ← Nat.mul_assoc]
  have : d1 * b * P ≤ (d1 * b + d2) * P := Nat.mul_le_mul_right P (by omega)
  omega
 have h4 : U / D * d1 * (b * P) < (u0 * b + u1 + 1) * (b * P) := by omega
 have := Nat.lt_of_mul_lt_mul_right h4
 omega
structure Guess (b d1 u0 u1 D U q r : Nat) : Prop where
 eq : q * d1 + r = u0 * b + u1
 ge : U / D ≤ q
theorem Trial.start (h : Trial b P d1 d2 dl u0 u1 u2 ul D U) : Guess b d1 u0 u1 D U ((u0 * b + u1) / d1) ((u0 * b + u1) % d1) :=
 ⟨by rw [Nat.mul_comm]; exact Nat.div_add_mod _ _, h.first⟩
theorem Trial.quot (h : Trial b P d1 d2 dl u0 u1 u2 ul D U) : U / D < b := by
 rw [Nat.div_lt_iff_lt_mul (by have := h.dpos; have := Nat.mul_pos (show 0 < b by have := h.b2; omega) h.hP; omega), Nat.mul_comm]
 exact h.lt
theorem Trial.step (h : Trial b P d1 d2 dl u0 u1 u2 ul D U) (g : Guess b d1 u0 u1 D U q r) (hc : b ≤ q ∨ r * b + u2 < q * d2) : 0 < q ∧ Guess b d1 u0 u1 D U (q - 1) (r + d1) := by
 have hq : 0 < q := by
  rcases hc with h1 | h1
  ·have := h.b2; omega
  ·rcases Nat.eq_zero_or_pos q with e | e
   ·subst e; simp at h1
   ·exact e
 obtain ⟨k, rfl⟩ : ∃ k, q = k + 1 := ⟨q - 1, by omega⟩
 refine ⟨hq, by have := g.eq; rw [Nat.add_mul] at this; rw [Nat.add_sub_cancel]; omega, ?_⟩
 rw [Nat.add_sub_cancel]
 rcases hc with h1 | h1
 ·have := h.quot; omega
 ·-- the guess times the divisor is more
  have hDp : 0 < D := by have := h.dpos; have := Nat.mul_pos (show 0 < b by have := h.b2; omega) h.hP; omega
  have e1 : U < (k + 1) * D := by
   have e2 : (k + 1) * (d1 * b + d2) = (k + 1) * d1 * b + (k + 1) * d2 := by rw [Nat.mul_add, Nat.mul_assoc]
   have e3 : ((k + 1) * d1 + r) * b = (u0 * b + u1) * b := by rw [g.eq]
   rw [Nat.add_mul] at e3
   have e4 : (u0 * b + u1) * b + u2 + 1 ≤ (k + 1) * (d1 * b + d2) := by omega
   have e5 := Nat.mul_le_mul_right P e4
   rw [Nat.add_mul _ 1 P, Nat.mul_assoc (k + 1)] at e5
   have e6 : (k + 1) * D = (k + 1) * ((d1 * b + d2) * P) + (k + 1) * dl := by rw [h.d, Nat.mul_add]
   have := h.u; have := h.wl
   omega
  have := (Nat.div_lt_iff_lt_mul hDp).2 e1
  omega
theorem Trial.fit (h : Trial b P d1 d2 dl u0 u1 u2 ul D U) (g : Guess b d1 u0 u1 D U q r) (hc : ¬ (r < b ∧ (b ≤ q ∨ r * b + u2 < q * d2))) : q < b ∧ q ≤ U / D + 1 := by
 have htop := h.top
 have hq : q < b := by
  refine Classical.byContradiction fun hn => ?_
  have hbq : b ≤ q := by omega
  have hr : b ≤ r := by
   refine Classical.byContradiction fun hn2 => hc ⟨by omega, .inl hbq⟩
  have e1 : b * d1 ≤ q * d1 := Nat.mul_le_mul_right d1 hbq
  have e2 : u0 * b ≤ d1 * b := Nat.mul_le_mul_right b htop
  have := g.eq; have := h.w1
  rw [Nat.mul_comm b d1] at e1
  omega
 refine ⟨hq, ?_⟩
 have hsmall : q * d2 ≤ r * b + u2 := by
  by_cases hr : r < b
  ·refine Classical.byContradiction fun hn => hc ⟨hr, .inr (by omega)⟩
  ·have e1 : b * b ≤ r * b := Nat.mul_le_mul_right b (by omega)
   have e2 : q * d2 ≤ b * b := Nat.mul_le_mul (by omega) (by have := h.h2; omega)
   omega
 have hDp : b * P ≤ D := h.dpos
 have hbP : 0 < b * P := Nat.mul_pos (by have := h.b2; omega) h.hP
 have e1 : q * (d1 * b + d2) ≤ (u0 * b + u1) * b + u2 := by
  have e3 : (q * d1 + r) * b = (u0 * b + u1) * b := by rw [g.eq]
  rw [Nat.add_mul] at e3
  rw [Nat.mul_add, ← Nat.mul_assoc]; omega
 have e2 := Nat.mul_le_mul_right P e1
 have e3 : q * dl < b * P := by
  have h1 : q * dl ≤ q * P := Nat.mul_le_mul_left q (by have := h.hl; omega)
  have h2 : q * P < b * P := Nat.mul_lt_mul_of_pos_right hq h.hP
  omega
 have e4 : q * D < U + D := by
  rw [h.d, Nat.mul_add, ← Nat.mul_assoc]
  have := h.u; have := h.d
  omega
 rcases Nat.eq_zero_or_pos q with e | e
 ·rw [e]; exact Nat.zero_le _
 ·obtain ⟨k, rfl⟩ : ∃ k, q = k + 1 := ⟨q - 1, by omega⟩
  rw [Nat.add_mul] at e4
  have : k * D ≤ U := by omega
  have := (Nat.le_div_iff_mul_le (show 0 < D by omega)).2 this
  omega
end Go.Proofs.YtkljafmdbajfeaaGreatDoor

/- Long division: taking a multiple of the divisor away, and giving the divisor back, in digits. -/
namespace Go.Proofs.YtkljafmdbajfeaaGreatDoor
open Go.RowKit
set_option linter.unusedVariables false
set_option linter.unusedSimpArgs false
structure TakeAt (u d : List Nat) (q : Nat) (os : List Nat) (i c s : Nat) : Prop where
 len : os.length = u.length
 dig : Dig os
 rest : os.drop i = u.drop i
 car : c < 4294967296
 bor : s ≤ 1
 value : q * val (d.take i) + val (os.take i) = val (u.take i) + 4294967296 ^ i * (c + s)
theorem TakeAt.start (u d : List Nat) (q : Nat) (hu : Dig u) : TakeAt u d q u 0 0 0 := ⟨rfl, hu, rfl, by omega, by omega, by simp [val]⟩
def tcar (c q y : Nat) : Nat := c + q * y
theorem tcar_lt {c q y : Nat} (hc : c < 4294967296) (hq : q < 4294967296) (hy : y < 4294967296) : tcar c q y < 18446744073709551616 ∧ tcar c q y / 4294967296 < 4294967296 := by
 have := wmul_digit hq hy
 unfold tcar; omega
theorem take_digit (x k s : Nat) (hx : x < 4294967296) (hk : k < 4294967296) (hs : s ≤ 1) : ∃ o t, o < 4294967296 ∧ t ≤ 1 ∧ k + s + o = x + 4294967296 * t ∧ o = mdig x k s ∧ t = mbor x k s := by
 refine ⟨mdig x k s, mbor x k s, ?_, ?_, ?_, rfl, rfl⟩ <;> simp only [mdig, mbor] <;> split <;> omega
theorem TakeAt.step {u d os : List Nat} {q i c s : Nat} (h : TakeAt u d q os i c s) (hd : Dig d) (hi : i < u.length) (hq : q < 4294967296) :
  TakeAt u d q (os.set i (mdig (nthd u i) (tcar c q (nthd d i) % 4294967296) s)) (i + 1) (tcar c q (nthd d i) / 4294967296) (mbor (nthd u i) (tcar c q (nthd d i) % 4294967296) s) := by
 have hil : i < os.length := by rw [h.len]; exact hi
 have hy := hd.nth i
 obtain ⟨hT, hT2⟩ := tcar_lt h.car hq hy
 have hx : nthd u i < 4294967296 := by
  have e : nthd u i = nthd os i := by
   rw [nthd_lt hi, nthd_lt hil]
   have := congrArg (fun l => l[0]?) h.rest
   simp [hi, hil] at this
   exact this.symm
  rw [e]; exact h.dig.nth i
 obtain ⟨o, t, ho, ht, he, e1, e2⟩ := take_digit (nthd u i) (tcar c q (nthd d i) % 4294967296) s hx (Nat.mod_lt _ (by omega)) h.bor
 rw [← e1, ← e2]
 refine ⟨by rw [List.length_set]; exact h.len, wdig_set h.dig i ho, ?_, hT2, ht, ?_⟩
 ·rw [List.drop_set_of_lt (by omega)]
  have := congrArg (List.drop 1) h.rest
  rw [List.drop_drop, List.drop_drop] at this
  exact this
 ·rw [val_set_succ hil, val_take_succ u i, val_take_succ d i, Nat.mul_add, Nat.pow_succ]
  have hv := h.value
  have e3 : q * (4294967296 ^ i * nthd d i) = 4294967296 ^ i * (q * nthd d i) := by rw [← Nat.mul_assoc, Nat.mul_comm q, Nat.mul_assoc]
  rw [e3]
  have e4 : tcar c q (nthd d i) % 4294967296 + 4294967296 * (tcar c q (nthd d i) / 4294967296) = c + q * nthd d i := by unfold tcar; omega
  generalize tcar c q (nthd d i) % 4294967296 = k at *
  generalize tcar c q (nthd d i) / 4294967296 = c' at *
  generalize q * nthd d i = p at *
  generalize 4294967296 ^ i = P at *
  have e5 : P * (k + s + o) = P * (nthd u i + 4294967296 * t) := by rw [he]
  have e6 : P * (k + 4294967296 * c') = P * (c + p) := by rw [e4]
  rw [Nat.mul_assoc P 4294967296]
  simp only [Nat.mul_add] at *
  omega
theorem TakeAt.done {u d os : List Nat} {q c s : Nat} (h : TakeAt u d q os u.length c s) (hl : d.length < u.length) (hc : c = 0) : q * val d + val os = val u + 4294967296 ^ u.length * s := by
 have hv := h.value
 rw [List.take_length, ← h.len, List.take_length, List.take_of_length_le (by rw [h.len]; omega), h.len, hc, Nat.zero_add] at hv
 exact hv
structure GiveAt (u d os : List Nat) (i c : Nat) : Prop where
 len : os.length = u.length
 dig : Dig os
 rest : os.drop i = u.drop i
 car : c ≤ 1
 value : val (os.take i) + 4294967296 ^ i * c = val (u.take i) + val (d.take i)
theorem GiveAt.start (u d : List Nat) (hu : Dig u) : GiveAt u d u 0 0 := ⟨rfl, hu, rfl, by omega, by simp [val]⟩
theorem GiveAt.step {u d os : List Nat} {i c : Nat} (h : GiveAt u d os i c) (hd : Dig d) (hi : i < u.length) :
  GiveAt u d (os.set i ((c + nthd u i + nthd d i) % 4294967296)) (i + 1) ((c + nthd u i + nthd d i) / 4294967296) := by
 have hil : i < os.length := by rw [h.len]; exact hi
 have hy := hd.nth i
 have hx : nthd u i < 4294967296 := by
  have e : nthd u i = nthd os i := by
   rw [nthd_lt hi, nthd_lt hil]
   have := congrArg (fun l => l[0]?) h.rest
   simp [hi, hil] at this
   exact this.symm
  rw [e]; exact h.dig.nth i
 have hc := h.car
 refine ⟨by rw [List.length_set]; exact h.len, wdig_set h.dig i (Nat.mod_lt _ (by omega)), ?_, by omega, ?_⟩
 ·rw [List.drop_set_of_lt (by omega)]
  have := congrArg (List.drop 1) h.rest
  rw [List.drop_drop, List.drop_drop] at this
  exact this
 ·rw [val_set_succ hil, val_take_succ u i, val_take_succ d i, Nat.pow_succ]
  exact (carry_step _ c (nthd u i) (nthd d i) _ _ _ h.value).trans (by omega)
theorem GiveAt.done {u d os : List Nat} {c : Nat} (h : GiveAt u d os u.length c) (hl : d.length < u.length) : val os + 4294967296 ^ u.length * c = val u + val d := by
 have hv := h.value
 rw [List.take_length, ← h.len, List.take_length, List.take_of_length_le (by rw [h.len]; omega), h.len] at hv
 exact hv
end Go.Proofs.YtkljafmdbajfeaaGreatDoor

/- Long division: shift, back, and the rounds, in digits. -/
namespace Go.Proofs.YtkljafmdbajfeaaGreatDoor
open Go.RowKit
set_option linter.unusedVariables false
set_option linter.unusedSimpArgs false
structure ShAt (a os : List Nat) (s i : Nat) : Prop where
 len : os.length = a.length + 1
 dig : Dig os
 value : val os = val (a.take i) * 2 ^ s
 low : nthd os i < 2 ^ s
 zero : ∀ j, i < j → nthd os j = 0
theorem val_zeros (n : Nat) : val (List.replicate n 0) = 0 := by
 induction n with
 | zero => rfl
 | succ n ih => rw [List.replicate_succ]; simp only [val]; omega
theorem nthd_zeros (n j : Nat) : nthd (List.replicate n 0) j = 0 := by
 unfold nthd; rw [List.getD_eq_getElem?_getD, List.getElem?_replicate]; split <;> rfl
theorem ShAt.start (a : List Nat) (s : Nat) : ShAt a (List.replicate (a.length + 1) 0) s 0 :=
 ⟨by simp, fun d hd => by rw [(List.mem_replicate.1 hd).2]; omega, by rw [val_zeros]; simp [val], by rw [nthd_zeros]; exact Nat.two_pow_pos s, fun j _ => nthd_zeros _ j⟩
theorem pow_split {s : Nat} (hs : s < 32) : 4294967296 = 2 ^ s * 2 ^ (32 - s) := by
 rw [← Nat.pow_add, show s + (32 - s) = 32 by omega]
theorem sh_low {x s : Nat} (hs : s < 32) : x * 2 ^ s % 4294967296 = 2 ^ s * (x % 2 ^ (32 - s)) := by
 rw [Nat.mul_comm x]
 have h := Nat.mul_mod_mul_left (2 ^ s) x (2 ^ (32 - s))
 rw [← pow_split hs] at h; exact h
theorem sh_room {x s o : Nat} (hs : s < 32) (ho : o < 2 ^ s) : o + x * 2 ^ s % 4294967296 < 4294967296 ∧ o ||| x * 2 ^ s % 4294967296 = o + x * 2 ^ s % 4294967296 := by
 rw [sh_low hs]
 have h1 : x % 2 ^ (32 - s) < 2 ^ (32 - s) := Nat.mod_lt _ (Nat.two_pow_pos _)
 refine ⟨?_, ?_⟩
 ·have h2 : 2 ^ s * (x % 2 ^ (32 - s)) + 2 ^ s ≤ 2 ^ s * 2 ^ (32 - s) := by
   rw [show 2 ^ s * (x % 2 ^ (32 - s)) + 2 ^ s = 2 ^ s * (x % 2 ^ (32 - s) + 1) by rw [Nat.mul_add, Nat.mul_one]]
   exact Nat.mul_le_mul_left _ h1
  rw [← pow_split hs] at h2
  omega
 ·rw [Nat.or_comm, ← Nat.two_pow_add_eq_or_of_lt ho, Nat.add_comm]
theorem sh_top {x s : Nat} (hs : s < 32) (hx : x < 4294967296) : x * 2 ^ s / 4294967296 < 2 ^ s := by
 rw [Nat.div_lt_iff_lt_mul (by omega), Nat.mul_comm (2 ^ s)]
 exact Nat.mul_lt_mul_of_pos_right hx (Nat.two_pow_pos s)
theorem ShAt.step {a os : List Nat} {s i : Nat} (h : ShAt a os s i) (ha : Dig a) (hs : s < 32) (hi : i < a.length) :
  ShAt a ((os.set i (nthd os i + nthd a i * 2 ^ s % 4294967296)).set (i + 1) (nthd a i * 2 ^ s / 4294967296)) s (i + 1) := by
 have hx := ha.nth i
 have hr := (sh_room (x := nthd a i) hs h.low).1
 have ht := sh_top hs hx
 have hp : 2 ^ s ≤ 4294967296 := by
  have : 2 ^ s ≤ 2 ^ 32 := Nat.pow_le_pow_right (by omega) (by omega)
  omega
 have hl1 : i < os.length := by rw [h.len]; omega
 refine ⟨by simp [h.len], wdig_set (wdig_set h.dig _ hr) _ (by omega), ?_, ?_, fun j hj => ?_⟩
 ·have h1 := wval_set os i (nthd os i + nthd a i * 2 ^ s % 4294967296) hl1
  have h2 := wval_set (os.set i (nthd os i + nthd a i * 2 ^ s % 4294967296)) (i + 1) (nthd a i * 2 ^ s / 4294967296) (by rw [List.length_set, h.len]; omega)
  rw [wnthd_set _ _ _ _ (by omega), h.zero (i + 1) (by omega), Nat.mul_zero, Nat.add_zero, Nat.pow_succ] at h2
  rw [val_take_succ, Nat.add_mul, ← h.value, h2]
  have e : nthd a i * 2 ^ s % 4294967296 + 4294967296 * (nthd a i * 2 ^ s / 4294967296) = nthd a i * 2 ^ s := Nat.mod_add_div _ _
  have e2 : 4294967296 ^ i * nthd a i * 2 ^ s = 4294967296 ^ i * (nthd a i * 2 ^ s) := Nat.mul_assoc _ _ _
  rw [e2]
  generalize nthd a i * 2 ^ s = v at *
  generalize 4294967296 ^ i = P at *
  have e3 : P * (v % 4294967296 + 4294967296 * (v / 4294967296)) = P * v := by rw [e]
  rw [Nat.mul_assoc P 4294967296]
  simp only [Nat.mul_add] at *
  omega
 ·have : nthd ((os.set i (nthd os i + nthd a i * 2 ^ s % 4294967296)).set (i + 1) (nthd a i * 2 ^ s / 4294967296)) (i + 1) = nthd a i * 2 ^ s / 4294967296 := by
   rw [nthd_lt (by simp [h.len]; omega)]; simp
  rw [this]; exact ht
 ·rw [wnthd_set _ _ _ _ (by omega), wnthd_set _ _ _ _ (by omega)]; exact h.zero j (by omega)
theorem ShAt.done {a os : List Nat} {s : Nat} (h : ShAt a os s a.length) : val os = val a * 2 ^ s := by
 have := h.value; rw [List.take_length] at this; exact this
theorem back_digit {s x y : Nat} (hs : s < 32) (hx : x < 4294967296) : 2 ^ s * ((x + 4294967296 * y) / 2 ^ s % 4294967296) + x % 2 ^ s = x + 4294967296 * (y % 2 ^ s) := by
 have hp := Nat.two_pow_pos s
 have hq := Nat.two_pow_pos (32 - s)
 have hB := pow_split hs
 have e1 : (x + 4294967296 * y) / 2 ^ s = x / 2 ^ s + 2 ^ (32 - s) * y := by
  rw [hB, Nat.mul_assoc, Nat.add_mul_div_left _ _ hp]
 have e2 : 2 ^ (32 - s) * y = 2 ^ (32 - s) * (y % 2 ^ s) + 4294967296 * (y / 2 ^ s) := by
  have := Nat.mod_add_div y (2 ^ s)
  have e : 2 ^ (32 - s) * y = 2 ^ (32 - s) * (y % 2 ^ s + 2 ^ s * (y / 2 ^ s)) := by rw [this]
  rw [e, Nat.mul_add, ← Nat.mul_assoc, Nat.mul_comm (2 ^ (32 - s)) (2 ^ s), ← hB]
 have h1 : x / 2 ^ s < 2 ^ (32 - s) := by rw [Nat.div_lt_iff_lt_mul hp, Nat.mul_comm, ← hB]; exact hx
 have h2 : y % 2 ^ s < 2 ^ s := Nat.mod_lt _ hp
 have h3 : 2 ^ (32 - s) * (y % 2 ^ s) + 2 ^ (32 - s) ≤ 4294967296 := by
  have : 2 ^ (32 - s) * (y % 2 ^ s + 1) ≤ 2 ^ (32 - s) * 2 ^ s := Nat.mul_le_mul_left _ h2
  rw [Nat.mul_comm (2 ^ (32 - s)) (2 ^ s), ← hB, Nat.mul_add, Nat.mul_one] at this
  exact this
 rw [e1, e2, ← Nat.add_assoc, Nat.add_mul_mod_self_left, Nat.mod_eq_of_lt (by omega), Nat.mul_add, ← Nat.mul_assoc, ← hB]
 have := Nat.mod_add_div x (2 ^ s)
 omega
theorem back_step {s x y P T R l : Nat} (hs : s < 32) (hx : x < 4294967296) (h : 2 ^ s * T + l = R + P * (x % 2 ^ s)) :
  2 ^ s * (T + P * ((x + 4294967296 * y) / 2 ^ s % 4294967296)) + l = R + P * x + P * 4294967296 * (y % 2 ^ s) := by
 have e := congrArg (P * ·) (back_digit (y := y) hs hx)
 simp only [Nat.mul_add] at e ⊢
 have e2 : 2 ^ s * (P * ((x + 4294967296 * y) / 2 ^ s % 4294967296)) = P * (2 ^ s * ((x + 4294967296 * y) / 2 ^ s % 4294967296)) := by rw [← Nat.mul_assoc, Nat.mul_comm (2 ^ s) P, Nat.mul_assoc]
 rw [e2, Nat.mul_assoc P 4294967296]
 omega
def putD (rest : List Nat) (j : Nat) (nw : List Nat) : List Nat := rest.take j ++ nw ++ rest.drop (j + nw.length)
theorem putD_len {rest nw : List Nat} {j : Nat} (h : j + nw.length ≤ rest.length) : (putD rest j nw).length = rest.length := by unfold putD; simp; omega
theorem putD_dig {rest nw : List Nat} {j : Nat} (h : Dig rest) (hn : Dig nw) : Dig (putD rest j nw) := fun d hd => by
 unfold putD at hd
 rcases List.mem_append.1 hd with h1 | h1
 ·rcases List.mem_append.1 h1 with h2 | h2
  ·exact h d (List.mem_of_mem_take h2)
  ·exact hn d h2
 ·exact h d (List.mem_of_mem_drop h1)
theorem putD_val {rest nw : List Nat} {j : Nat} (h : j + nw.length ≤ rest.length) : val (putD rest j nw) + 4294967296 ^ j * val ((rest.drop j).take nw.length) = val rest + 4294967296 ^ j * val nw := by
 have e : rest = rest.take j ++ ((rest.drop j).take nw.length ++ rest.drop (j + nw.length)) := by
  rw [← List.drop_drop, List.take_append_drop, List.take_append_drop]
 have hl : (rest.take j).length = j := by simp; omega
 have hl2 : ((rest.drop j).take nw.length).length = nw.length := by simp; omega
 have e2 : val rest = val (rest.take j) + 4294967296 ^ j * (val ((rest.drop j).take nw.length) + 4294967296 ^ nw.length * val (rest.drop (j + nw.length))) := by
  conv => lhs; rw [e]
  rw [val_append, val_append, hl, hl2]
 unfold putD
 rw [e2, List.append_assoc, val_append, val_append, hl]
 simp only [Nat.mul_add]
 omega
theorem putD_nth {rest nw : List Nat} {j i : Nat} (h : j + nw.length ≤ rest.length) (hi : j + nw.length ≤ i) : nthd (putD rest j nw) i = nthd rest i := by
 unfold nthd putD
 rw [List.getD_eq_getElem?_getD, List.getD_eq_getElem?_getD, List.getElem?_append_right (by simp; omega), List.getElem?_drop]
 congr 2
 simp; omega
theorem putD_win {rest nw : List Nat} {j : Nat} (h : j + nw.length ≤ rest.length) : (putD rest j nw).drop j = nw ++ rest.drop (j + nw.length) := by
 unfold putD
 rw [List.append_assoc, List.drop_append]
 have hl : (rest.take j).length = j := by simp; omega
 rw [hl, Nat.sub_self, List.drop_zero, List.drop_eq_nil_of_le (by omega), List.nil_append]
structure LongAt (A D n : Nat) (rest out : List Nat) (j : Nat) : Prop where
 dig : Dig rest
 dout : Dig out
 value : val rest + val out * D = A
 top : val ((rest.drop j).take n) < D
 high : ∀ i, j + n ≤ i → nthd rest i = 0
 zero : ∀ i, i < j → nthd out i = 0
theorem LongAt.under {A D n : Nat} {rest out : List Nat} {j : Nat} (h : LongAt A D n rest out (j + 1)) (hj : j + n < rest.length) :
  val ((rest.drop j).take (n + 1)) = nthd rest j + 4294967296 * val ((rest.drop (j + 1)).take n) ∧ val ((rest.drop j).take (n + 1)) < D * 4294967296 := by
 have e : (rest.drop j).take (n + 1) = nthd rest j :: (rest.drop (j + 1)).take n := by
  rw [drop_nthd (by omega), List.take_succ_cons]
 rw [e]
 have h1 := h.dig.nth j
 have h2 := h.top
 refine ⟨by simp only [val], ?_⟩
 simp only [val]
 have h3 : 4294967296 * (val ((rest.drop (j + 1)).take n) + 1) ≤ 4294967296 * D := Nat.mul_le_mul_left _ h2
 rw [Nat.mul_comm D]; omega
theorem LongAt.step {A D n : Nat} {rest out nw : List Nat} {j q : Nat} (h : LongAt A D n rest out (j + 1)) (hj : j + n < rest.length) (hjo : j < out.length) (hD : D < 4294967296 ^ n)
  (hq : q = val ((rest.drop j).take (n + 1)) / D) (hqb : q < 4294967296) (hnl : nw.length = n + 1) (hnd : Dig nw) (hnv : val nw + q * D = val ((rest.drop j).take (n + 1))) : LongAt A D n (putD rest j nw) (out.set j q) j := by
 have hD0 : 0 < D := by
  rcases Nat.eq_zero_or_pos D with e | e
  ·have := (h.under hj).2; rw [e] at this; simp at this
  ·exact e
 have hlt : val nw < D := by
  have h1 := Nat.mod_add_div (val ((rest.drop j).take (n + 1))) D
  have h2 := Nat.mod_lt (val ((rest.drop j).take (n + 1))) hD0
  rw [Nat.mul_comm D, ← hq] at h1
  omega
 have hlen : j + nw.length ≤ rest.length := by omega
 have hsplit : val nw = val (nw.take n) + 4294967296 ^ n * nthd nw n := by
  have := val_take_succ nw n
  rwa [← hnl, List.take_length] at this
 have hz : nthd nw n = 0 := by
  rcases Nat.eq_zero_or_pos (nthd nw n) with e | e
  ·exact e
  ·have : 4294967296 ^ n * 1 ≤ 4294967296 ^ n * nthd nw n := Nat.mul_le_mul_left _ e
   omega
 refine ⟨putD_dig h.dig hnd, wdig_set h.dout j hqb, ?_, ?_, fun i hi => ?_, fun i hi => ?_⟩
 ·have h1 := putD_val hlen
  rw [hnl, ← hnv] at h1
  have h2 := wval_set out j q hjo
  rw [h.zero j (by omega), Nat.mul_zero, Nat.add_zero] at h2
  rw [h2, Nat.add_mul]
  have h3 := h.value
  simp only [Nat.mul_add] at h1
  rw [Nat.mul_assoc]
  omega
 ·rw [putD_win hlen, List.take_append_of_le_length (by omega)]
  omega
 ·rcases Nat.lt_or_ge i (j + n + 1) with e | e
  ·have e2 : i = j + n := by omega
   subst e2
   have : nthd (putD rest j nw) (j + n) = nthd nw n := by
    have h1 : nthd ((putD rest j nw).drop j) n = nthd (putD rest j nw) (j + n) := by
     unfold nthd; rw [List.getD_eq_getElem?_getD, List.getD_eq_getElem?_getD, List.getElem?_drop]
    rw [← h1, putD_win hlen]
    unfold nthd; rw [List.getD_eq_getElem?_getD, List.getD_eq_getElem?_getD, List.getElem?_append_left (by omega)]
   rw [this, hz]
  ·rw [putD_nth hlen (by omega)]; exact h.high i (by omega)
 ·rw [wnthd_set _ _ _ _ (by omega)]; exact h.zero i (by omega)
theorem LongAt.done {A D n : Nat} {rest out : List Nat} (h : LongAt A D n rest out 0) (hn : n ≤ rest.length) : val out = A / D ∧ val (rest.take n) = A % D ∧ val rest = val (rest.take n) := by
 have ht := h.top
 rw [List.drop_zero] at ht
 have hz : ∀ m, n ≤ m → val (rest.take m) = val (rest.take n) := fun m hm => by
  induction m with
  | zero => have : n = 0 := by omega
            subst this; rfl
  | succ m ih =>
    rcases Nat.lt_or_ge m n with e | e
    ·have : n = m + 1 := by omega
     rw [this]
    ·rw [val_take_succ, h.high m (by omega), Nat.mul_zero, Nat.add_zero]; exact ih e
 have hr : val rest = val (rest.take n) := by
  have := hz rest.length hn
  rwa [List.take_length] at this
 have hv := h.value
 rw [hr] at hv
 have hD0 : 0 < D := by omega
 refine ⟨?_, ?_, hr⟩
 ·rw [← hv, Nat.add_mul_div_right _ _ hD0, Nat.div_eq_of_lt ht, Nat.zero_add]
 ·rw [← hv, Nat.add_mul_mod_self_right, Nat.mod_eq_of_lt ht]
end Go.Proofs.YtkljafmdbajfeaaGreatDoor
