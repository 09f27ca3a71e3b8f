/- Package big: shift. -/
import Derived.Outline
import Derived.Test.YtkljafmdbajfeaaGreatDoorReA14
import Derived.Test.YtkljafmdbajfeaaGreatDoorReA15
namespace Go.Proofs.YtkljafmdbajfeaaGreatDoor
open Go.RowKit
set_option linter.unusedVariables false
set_option linter.unusedSimpArgs false
theorem sh_wrap {x s : Nat} (hs : s < 32) (hx : x < 4294967296) : IntKind.u64.wrap ((x : Int) * 2 ^ s) = ((x * 2 ^ s : Nat) : Int) := by
 have h1 : 2 ^ s ≤ 2 ^ 31 := Nat.pow_le_pow_right (by omega) (by omega)
 have h2 : x * 2 ^ s ≤ 4294967295 * 2 ^ 31 := Nat.mul_le_mul (by omega) h1
 have e : ((x * 2 ^ s : Nat) : Int) = (x : Int) * 2 ^ s := by rw [Int.natCast_mul, Int.natCast_pow]; rfl
 rw [← e, IntKind.wrap_u64]
 omega
set_option maxRecDepth 100000 in
set_option maxHeartbeats 1000000 in
theorem shift_calls (A : Option Addr) (c : Nat) (a : List Nat) (s : Nat) (w : World) (hs : s < 32) (hm : a.length ≤ 100000000) (ha : Dig a) (hA : Wds w A a) :
  Calls Tryz.prog 235 #[.slice A a.length c, .int .i64 s] w fun e w' => ∃ p os, e = .returned (.slice (some ⟨p, 0, none⟩) (a.length + 1) (a.length + 1)) ∧ w.heap.size ≤ p ∧ UBlk w' p os ∧ ShAt a os s a.length ∧ Below w.heap.size w w' := by
 have hmk := fun w => run_makeU32 w (a.length + 1) (by omega)
 have ec : ((a.length + 1 : Nat) : Int) = (a.length : Int) + 1 := by push_cast; rfl
 rw [ec] at hmk
 clear ec
 go_enter Tryz.func235, Tryz.ntmps235
 go_wp2
 clear hmk
 go_loopw [6, 7, 8, 15] (fun _ _ _ i wr => ∃ (n : Nat) (os : List Nat), n ≤ a.length ∧ i = .int .i64 n ∧ UBlk wr w.heap.size os ∧ Hid (ShAt a os s n) ∧ Below w.heap.size w wr) (fun _ _ _ i _ => a.length - (intOf i).toNat)
 case atStart => exact ⟨0, _, Nat.zero_le _, rfl, UBlk.made _ _ _ rfl, Lib.hid (ShAt.start a s), (Below.refl _ _).alloc (Nat.le_refl _) _⟩
 case round =>
  obtain ⟨i, os, hi, rfl, hos, hsh, hbe⟩ := hrel
  by_cases hlt : i < a.length
  ·obtain ⟨b1, o1, rfl, g1⟩ := (hA.ext hbe) i hlt
   have hx := ha.nth i
   have hln : Hid (os.length = a.length + 1) := Lib.hid hsh.out.len
   have g3 := hos.cell i (by rw [hln.out]; omega)
   have f3 := Blk.free hos i
   have g4 := hos.cell (i + 1) (by rw [hln.out]; omega)
   have f4 := Blk.free hos (i + 1)
   have hn1 : (i : Int) < a.length := by omega
   have ho : nthd os i < 4294967296 := hsh.out.dig.nth i
   have hw1 : IntKind.u64.wrap ((nthd a i : Int) * 2 ^ s) = ((nthd a i * 2 ^ s : Nat) : Int) := sh_wrap hs hx
   have E1 : Hid (bits .or .u32 (nthd os i : Int) (IntKind.u64.wrap ((nthd a i : Int) * 2 ^ s) % 4294967296) = ((nthd os i + nthd a i * 2 ^ s % 4294967296 : Nat) : Int)) := Lib.hid (by
    rw [hw1, ← castm, u32_or_nat _ _ ho (Nat.mod_lt _ (by omega)), (sh_room hs hsh.out.low).2])
   have E2 : Hid (IntKind.u64.wrap ((nthd a i : Int) * 2 ^ s) / 4294967296 % 4294967296 = ((nthd a i * 2 ^ s / 4294967296 : Nat) : Int)) := Lib.hid (by
    rw [hw1, ← castd, ← castm, Nat.mod_eq_of_lt]
    have := sh_top hs hx
    have : 2 ^ s ≤ 2 ^ 32 := Nat.pow_le_pow_right (by omega) (by omega)
    omega)
   have hst := Lib.hid (hsh.out.step ha hs hlt)
   have HS := Lib.hid (fun wq : World => fun (h : UBlk wq w.heap.size os) => (h.set i (nthd os i + nthd a i * 2 ^ s % 4294967296)).set (i + 1) (nthd a i * 2 ^ s / 4294967296))
   have HOS := Lib.hid hos
   clear hw1 hos
   go_wp2
   go_roundw
   case rel => exact ⟨i + 1, _, by omega, by go_num, by rw [E1.out, E2.out]; exact HS.out _ HOS.out, hst.out, (hbe.setCell (Nat.le_refl _) _).setCell (Nat.le_refl _) _⟩
   case measure => simp [intOf]; omega
  ·obtain rfl : i = a.length := by omega
   go_wp2
   go_ret
   exact ⟨_, _, rfl, Nat.le_refl _, hos, hsh.out, hbe⟩
end Go.Proofs.YtkljafmdbajfeaaGreatDoor

/- Package big: take and give: a multiple of the divisor taken from a window of a block; the divisor given back. -/
namespace Go.Proofs.YtkljafmdbajfeaaGreatDoor
open Go.RowKit
set_option linter.unusedVariables false
set_option linter.unusedSimpArgs false
theorem putD_nth_in {rest nw : List Nat} {j i : Nat} (h : j + nw.length ≤ rest.length) (hi : i < nw.length) : nthd (putD rest j nw) (j + i) = nthd nw i := by
 have h1 : nthd ((putD rest j nw).drop j) i = nthd (putD rest j nw) (j + i) := by
  unfold nthd; rw [List.getD_eq_getElem?_getD, List.getD_eq_getElem?_getD, List.getElem?_drop]
 rw [← h1, putD_win h]
 unfold nthd; rw [List.getD_eq_getElem?_getD, List.getD_eq_getElem?_getD, List.getElem?_append_left (by omega)]
theorem putD_set {rest nw : List Nat} {j i : Nat} (x : Nat) (h : j + nw.length ≤ rest.length) (hi : i < nw.length) : (putD rest j nw).set (j + i) x = putD rest j (nw.set i x) := by
 have hl : (rest.take j).length = j := by simp; omega
 unfold putD
 rw [List.set_append_left _ _ (by simp; omega), List.set_append_right _ _ (by omega), hl, Nat.add_sub_cancel_left, List.length_set]
theorem putD_self {rest : List Nat} {j l : Nat} (h : j + l ≤ rest.length) : putD rest j ((rest.drop j).take l) = rest := by
 unfold putD
 have e : ((rest.drop j).take l).length = l := by simp; omega
 rw [e, ← List.drop_drop, List.append_assoc, List.take_append_drop, List.take_append_drop]
theorem Wds.but2 {w w' : World} {A : Option Addr} {ds : List Nat} {p : Nat} (h : Wds w A ds) (hne : ∀ b o, A = some ⟨b, o, none⟩ → b ≠ p) (hb : But p w w') : Wds w' A ds := fun i hi => by
 obtain ⟨b, off, e, hc⟩ := h i hi
 exact ⟨b, off, e, by rw [World.cell?_of_block (w := w) (hb.block b (cell_lt hc) (hne b off e))]; exact hc⟩
theorem tdig_w {x k s : Nat} (hx : x < 4294967296) (hk : k < 4294967296) (hs : s ≤ 1) : IntKind.u64.wrap (IntKind.u64.wrap ((x : Int) - k) - s) % 4294967296 = ((mdig x k s : Nat) : Int) := by
 simp only [IntKind.wrap_u64, mdig]; split <;> omega
theorem tbor_w {x k s : Nat} (hx : x < 4294967296) (hk : k < 4294967296) (hs : s ≤ 1) : IntKind.u64.wrap (IntKind.u64.wrap ((x : Int) - k) - s) / 9223372036854775808 = ((mbor x k s : Nat) : Int) := by
 simp only [IntKind.wrap_u64, mbor]; split <;> omega
theorem nthd_win {rest : List Nat} {j l i : Nat} (hi : i < l) : nthd ((rest.drop j).take l) i = nthd rest (j + i) := by
 unfold nthd; rw [List.getD_eq_getElem?_getD, List.getD_eq_getElem?_getD, List.getElem?_take, if_pos hi, List.getElem?_drop]
theorem TakeAt.nth {u d os : List Nat} {q i c s : Nat} (h : TakeAt u d q os i c s) (hi : i < u.length) : nthd u i = nthd os i := by
 have hil : i < os.length := by rw [h.len]; exact hi
 rw [nthd_lt hi, nthd_lt hil]
 have := congrArg (fun l => l[0]?) h.rest
 simp [hi, hil] at this
 exact this.symm
set_option maxRecDepth 100000 in
set_option maxHeartbeats 1000000 in
theorem take_calls (R j l cr : Nat) (os : List Nat) (A : Option Addr) (c : Nat) (d : List Nat) (q : Nat) (w : World) (hos : UBlk w R os) (hjl : j + l ≤ os.length) (hm : os.length ≤ 1000000000) (hdl : d.length ≤ 1000000000)
  (ho : Dig os) (hd : Dig d) (hA : Wds w A d) (hne : ∀ b o, A = some ⟨b, o, none⟩ → b ≠ R) (hq : q < 4294967296) :
  Calls Tryz.prog 236 #[.slice (some ⟨R, j, none⟩) l cr, .slice A d.length c, .int .u64 q] w fun e w' => ∃ nw cc s, e = .returned (.bool (decide (s ≠ 0))) ∧ UBlk w' R (putD os j nw) ∧ TakeAt ((os.drop j).take l) d q nw l cc s ∧ (d.length < l → cc = 0) ∧ But R w w' := by
 go_enter Tryz.func236, Tryz.ntmps236
 go_wp2
 go_loopw [7, 8, 9, 10, 13] (fun b c _ _ i wr => ∃ (n : Nat) (nw : List Nat) (cc s : Nat), n ≤ l ∧ i = .int .i64 n ∧ c = .int .u64 cc ∧ b = .int .u64 s ∧ UBlk wr R (putD os j nw) ∧ Hid (TakeAt ((os.drop j).take l) d q nw n cc s) ∧ Hid (d.length < n → cc = 0) ∧ But R w wr) (fun _ _ _ _ i _ => l - (intOf i).toNat)
 case atStart => exact ⟨0, _, 0, 0, Nat.zero_le _, rfl, rfl, rfl, by rw [putD_self hjl]; exact hos, Lib.hid (TakeAt.start _ d q ((ho.drop j).take l)), Lib.hid (fun _ => rfl), But.refl _ _⟩
 case round =>
  obtain ⟨i, nw, cc, s, hi, rfl, rfl, rfl, hos, hta, hcz, hbe⟩ := hrel
  by_cases hlt : i < l
  ·have hul : ((os.drop j).take l).length = l := by simp; omega
   have hln : nw.length = l := by rw [hta.out.len, hul]
   have hst := hta.out.step hd (by rw [hul]; exact hlt) hq
   have hnx := hta.out.nth (by rw [hul]; exact hlt)
   have hcc := hta.out.car
   have hs1 := hta.out.bor
   have hx : nthd nw i < 4294967296 := hta.out.dig.nth i
   have g3 := hos.cell (j + i) (by rw [putD_len (by omega)]; omega)
   rw [putD_nth_in (by omega) (by omega)] at g3
   have f3 := Blk.free hos (j + i)
   have hset := fun x : Nat => hos.set (j + i) x
   have HSET : Hid (∀ x : Nat, UBlk (wr.setCell ⟨R, j + i, none⟩ (.int .u32 (x : Nat))) R (putD os j (nw.set i x))) := Lib.hid fun x => by
    rw [← putD_set x (by omega) (by omega)]; exact hset x
   rw [hnx] at hst
   have HST := Lib.hid hst
   have hn1 : (i : Int) < l := by omega
   clear hst hnx hset hul hln hos
   by_cases hlm : i < d.length
   ·obtain ⟨b2, o2, rfl, g2⟩ := (hA.but2 hne hbe) i hlm
    have y : nthd d i < 4294967296 := hd.nth i
    have hp := wmul_digit hq y
    obtain ⟨t1, t2⟩ := tcar_lt hcc hq y
    have hc1 : ((tcar cc q (nthd d i) : Nat) : Int) = (cc : Int) + (q : Int) * (nthd d i : Nat) := by unfold tcar; rw [Int.natCast_add, Int.natCast_mul]
    have hmk : bits .and .u64 ((cc : Int) + (q : Int) * (nthd d i : Nat)) 4294967295 = ((tcar cc q (nthd d i) % 4294967296 : Nat) : Int) := by rw [← hc1]; exact Mul64.maskN _ t1
    have E0 : Hid (((tcar cc q (nthd d i) / 4294967296 : Nat) : Int) = ((cc : Int) + (q : Int) * (nthd d i : Nat)) / 4294967296) := Lib.hid (by rw [← hc1, castd])
    have E1 : Hid (IntKind.u64.wrap (IntKind.u64.wrap ((nthd nw i : Int) - bits .and .u64 ((cc : Int) + (q : Int) * (nthd d i : Nat)) 4294967295) - s) % 4294967296 = ((mdig (nthd nw i) (tcar cc q (nthd d i) % 4294967296) s : Nat) : Int)) := Lib.hid (by
     rw [hmk]; exact tdig_w hx (Nat.mod_lt _ (by omega)) hs1)
    have E2 : Hid (IntKind.u64.wrap (IntKind.u64.wrap ((nthd nw i : Int) - bits .and .u64 ((cc : Int) + (q : Int) * (nthd d i : Nat)) 4294967295) - s) / 9223372036854775808 = ((mbor (nthd nw i) (tcar cc q (nthd d i) % 4294967296) s : Nat) : Int)) := Lib.hid (by
     rw [hmk]; exact tbor_w hx (Nat.mod_lt _ (by omega)) hs1)
    clear hc1 hmk
    go_wp2
    go_roundw
    case rel => exact ⟨i + 1, _, _, _, by omega, by go_num, by rw [← E0.out], by rw [E2.out], by rw [E1.out]; exact HSET.out _, HST.out, Lib.hid (fun h => by omega), hbe.set _ _⟩
    case measure => simp [intOf]; omega
   ·have hz : nthd d i = 0 := nthd_out (by omega)
    rw [hz] at HST
    have hmk : bits .and .u64 (cc : Int) 4294967295 = ((tcar cc q 0 % 4294967296 : Nat) : Int) := by rw [Mul64.maskN _ (by omega)]; rfl
    have E0 : Hid (((tcar cc q 0 / 4294967296 : Nat) : Int) = (cc : Int) / 4294967296) := Lib.hid (by show ((cc / 4294967296 : Nat) : Int) = _; rw [castd])
    have E1 : Hid (IntKind.u64.wrap (IntKind.u64.wrap ((nthd nw i : Int) - bits .and .u64 (cc : Int) 4294967295) - s) % 4294967296 = ((mdig (nthd nw i) (tcar cc q 0 % 4294967296) s : Nat) : Int)) := Lib.hid (by
     rw [hmk]; exact tdig_w hx (Nat.mod_lt _ (by omega)) hs1)
    have E2 : Hid (IntKind.u64.wrap (IntKind.u64.wrap ((nthd nw i : Int) - bits .and .u64 (cc : Int) 4294967295) - s) / 9223372036854775808 = ((mbor (nthd nw i) (tcar cc q 0 % 4294967296) s : Nat) : Int)) := Lib.hid (by
     rw [hmk]; exact tbor_w hx (Nat.mod_lt _ (by omega)) hs1)
    have hlm' : decide ((i : Int) < d.length) = false := decide_eq_false (by omega)
    clear hmk hz
    go_wp2
    go_roundw
    case rel => exact ⟨i + 1, _, _, _, by omega, by go_num, by rw [← E0.out], by rw [E2.out], by rw [E1.out]; exact HSET.out _, HST.out, Lib.hid (fun h => by show cc / 4294967296 = 0; omega), hbe.set _ _⟩
    case measure => simp [intOf]; omega
  ·obtain rfl : i = l := by omega
   by_cases h0 : s = 0
   ·subst h0
    go_wp2
    go_ret
    exact ⟨nw, cc, 0, rfl, hos, hta.out, hcz.out, hbe⟩
   ·have hs1 := hta.out.bor
    obtain rfl : s = 1 := by omega
    go_wp2
    go_ret
    exact ⟨nw, cc, 1, rfl, hos, hta.out, hcz.out, hbe⟩
set_option maxRecDepth 100000 in
set_option maxHeartbeats 1000000 in
theorem give_calls (R j l cr : Nat) (os : List Nat) (A : Option Addr) (c : Nat) (d : List Nat) (w : World) (hos : UBlk w R os) (hjl : j + l ≤ os.length) (hm : os.length ≤ 1000000000) (hdl : d.length ≤ 1000000000)
  (ho : Dig os) (hd : Dig d) (hA : Wds w A d) (hne : ∀ b o, A = some ⟨b, o, none⟩ → b ≠ R) :
  Calls Tryz.prog 237 #[.slice (some ⟨R, j, none⟩) l cr, .slice A d.length c] w fun e w' => ∃ nw cc, e = .returned (.tuple #[]) ∧ UBlk w' R (putD os j nw) ∧ GiveAt ((os.drop j).take l) d nw l cc ∧ But R w w' := by
 go_enter Tryz.func237, Tryz.ntmps237
 go_wp2
 go_loopw [4, 5, 8] (fun c _ i wr => ∃ (n : Nat) (nw : List Nat) (cc : Nat), n ≤ l ∧ i = .int .i64 n ∧ c = .int .u64 cc ∧ UBlk wr R (putD os j nw) ∧ Hid (GiveAt ((os.drop j).take l) d nw n cc) ∧ But R w wr) (fun _ _ i _ => l - (intOf i).toNat)
 case atStart => exact ⟨0, _, 0, Nat.zero_le _, rfl, rfl, by rw [putD_self hjl]; exact hos, Lib.hid (GiveAt.start _ d ((ho.drop j).take l)), But.refl _ _⟩
 case round =>
  obtain ⟨i, nw, cc, hi, rfl, rfl, hos, hta, hbe⟩ := hrel
  by_cases hlt : i < l
  ·have hul : ((os.drop j).take l).length = l := by simp; omega
   have hln : nw.length = l := by rw [hta.out.len, hul]
   have hst := hta.out.step hd (by rw [hul]; exact hlt)
   have hnx : nthd ((os.drop j).take l) i = nthd nw i := by
    rw [nthd_lt (by omega), nthd_lt (by omega)]
    have := congrArg (fun l => l[0]?) hta.out.rest
    simp [hln, hlt, hul] at this
    simp; exact this.symm
   have hcc := hta.out.car
   have hx : nthd nw i < 4294967296 := hta.out.dig.nth i
   have g3 := hos.cell (j + i) (by rw [putD_len (by omega)]; omega)
   rw [putD_nth_in (by omega) (by omega)] at g3
   have f3 := Blk.free hos (j + i)
   have hset := fun x : Nat => hos.set (j + i) x
   have HSET : Hid (∀ x : Nat, UBlk (wr.setCell ⟨R, j + i, none⟩ (.int .u32 (x : Nat))) R (putD os j (nw.set i x))) := Lib.hid fun x => by
    rw [← putD_set x (by omega) (by omega)]; exact hset x
   rw [hnx] at hst
   have HST := Lib.hid hst
   have hn1 : (i : Int) < l := by omega
   clear hst hnx hset hul hln hos
   by_cases hlm : i < d.length
   ·obtain ⟨b2, o2, rfl, g2⟩ := (hA.but2 hne hbe) i hlm
    have y : nthd d i < 4294967296 := hd.nth i
    have E1 : Hid ((((cc + nthd nw i + nthd d i) % 4294967296 : Nat) : Int) = ((cc : Int) + nthd nw i + nthd d i) % 4294967296) := Lib.hid (castm3 _ _ _)
    have E2 : Hid ((((cc + nthd nw i + nthd d i) / 4294967296 : Nat) : Int) = ((cc : Int) + nthd nw i + nthd d i) / 4294967296) := Lib.hid (castd3 _ _ _)
    go_wp2
    go_roundw
    case rel => exact ⟨i + 1, _, _, by omega, by go_num, by rw [← E2.out], by rw [← E1.out]; exact HSET.out _, HST.out, hbe.set _ _⟩
    case measure => simp [intOf]; omega
   ·have hz : nthd d i = 0 := nthd_out (by omega)
    rw [hz, Nat.add_zero] at HST
    have E1 : Hid ((((cc + nthd nw i) % 4294967296 : Nat) : Int) = ((cc : Int) + nthd nw i) % 4294967296) := Lib.hid (by omega)
    have E2 : Hid ((((cc + nthd nw i) / 4294967296 : Nat) : Int) = ((cc : Int) + nthd nw i) / 4294967296) := Lib.hid (by omega)
    have hlm' : decide ((i : Int) < d.length) = false := decide_eq_false (by omega)
    clear hz
    go_wp2
    go_roundw
    case rel => exact ⟨i + 1, _, _, by omega, by go_num, by rw [← E2.out], by rw [← E1.out]; exact HSET.out _, HST.out, hbe.set _ _⟩
    case measure => simp [intOf]; omega
  ·obtain rfl : i = l := by omega
   go_wp2
   go_end0
   exact ⟨nw, cc, rfl, hos, hta.out, hbe⟩
end Go.Proofs.YtkljafmdbajfeaaGreatDoor

/- Package big: times of any two numbers. -/
namespace Go.Proofs.YtkljafmdbajfeaaGreatDoor
open Go.RowKit
set_option linter.unusedVariables false
set_option linter.unusedSimpArgs false
set_option maxRecDepth 100000 in
set_option maxHeartbeats 2000000 in
theorem times_big (v u : Value) (n m : Nat) (w : World) (hbig : 18446744073709551616 ≤ n) (hn : (digits n).length ≤ 100000000) (hm : (digits m).length ≤ 100000000) (hv : WSl w v n) (hu : WSl w u m) :
  Calls Tryz.prog 199 #[v, u] w fun e w' => ∃ v, e = .returned v ∧ WSl w' v (n * m) ∧ Below w.heap.size w w' := by
 have hv0 := hv
 have hu0 := hu
 obtain ⟨A, ca, rfl, hca, hcm, hA⟩ := hv0
 obtain ⟨B, cb, rfl, hcb, hcm2, hB⟩ := hu0
 have ha := digits_dig n
 have hb := digits_dig m
 have hvn := val_digits n
 have hvm := val_digits m
 have hsm : ∀ w2, WSl w2 (.slice A (digits n).length ca) n → _ := fun w2 h => small_no n _ w2 hbig (by unfold maxLen; omega) h
 have hs := hsm w hv
 have HS := Lib.hid hs
 clear hsm hs
 go_enter Tryz.func199, Tryz.ntmps199
 go_wp2_with fail
 refine HS.out.mono ?_; rintro e w1 ⟨rfl, e1⟩
 rw [e1]
 clear e1 w1 HS hbig
 generalize digits n = a at *
 generalize digits m = b at *
 have HV := Lib.hid hvn; have HM := Lib.hid hvm
 clear hvn hvm hv hu hca hcb hcm hcm2
 have hmk := fun w => run_makeU32 w (a.length + b.length) (by omega)
 have ec : ((a.length + b.length : Nat) : Int) = (a.length : Int) + b.length := by push_cast; rfl
 rw [ec] at hmk
 clear ec
 go_wp2_with fail
 clear hmk
 go_loopw [12, 13, 14, 15, 16, 55] (fun _ _ _ _ _ i wr => ∃ (n : Nat) (os : List Nat), n ≤ a.length ∧ i = .int .i64 n ∧ UBlk wr w.heap.size os ∧ WRow a b os n ∧ Below w.heap.size w wr) (fun _ _ _ _ _ i _ => a.length - (intOf i).toNat)
 case atStart => exact ⟨0, _, Nat.zero_le _, rfl, UBlk.made _ _ _ rfl, WRow.start a b, (Below.refl _ _).alloc (Nat.le_refl _) _⟩
 case round =>
  obtain ⟨i, os, hi, rfl, hos, hrow, hbe⟩ := hrel
  by_cases hlt : i < a.length
  ·have hin := Lib.hid hrow.enter
   obtain ⟨b1, o1, rfl, g1⟩ := (hA.ext hbe) i hlt
   have hn1 : (i : Int) < a.length := by omega
   have hx := ha.nth i
   clear hrow
   go_wp2_with fail
   go_loopw [14, 15, 16, 62] (fun c _ _ k wr => ∃ (j cn : Nat) (os : List Nat), j ≤ b.length ∧ k = .int .i64 j ∧ c = .int .u64 cn ∧ UBlk wr w.heap.size os ∧ Hid (WIn a b os i j cn) ∧ Below w.heap.size w wr) (fun _ _ _ k _ => b.length - (intOf k).toNat)
   case atStart => exact ⟨0, 0, os, Nat.zero_le _, rfl, rfl, hos, hin, hbe⟩
   case round =>
    clear hos hin hbe
    obtain ⟨j, cn, os, hj, rfl, rfl, hos, hin, hbe⟩ := hrel
    have hcar := hin.out.car
    have hln : Hid (os.length = a.length + b.length) := Lib.hid hin.out.len
    have bl := Blk.lt hos
    by_cases hlm : j < b.length
    ·obtain ⟨b2, o2, rfl, g2⟩ := (hB.ext hbe) j hlm
     have g3 := hos.cell (i + j) (by rw [hln.out]; omega)
     have f3 := Blk.free hos (i + j)
     have y : nthd b j < 4294967296 := hb.nth j
     have o : nthd os (i + j) < 4294967296 := hin.out.dig.nth (i + j)
     have hp := wmul_digit hx y
     have hst := Lib.hid (hin.out.step ha hb hlt hlm)
     have hset := Lib.hid (fun wq : World => fun h : UBlk wq w.heap.size os => h.set (i + j) ((nthd os (i + j) + nthd a i * nthd b j + cn) % 4294967296))
     have HOS := Lib.hid hos; have HB := Lib.hid hbe
     have hpi : ((nthd a i * nthd b j : Nat) : Int) = (nthd a i : Int) * nthd b j := by push_cast; rfl
     have hp2 : 0 ≤ (nthd a i : Int) * nthd b j ∧ (nthd a i : Int) * nthd b j ≤ 18446744065119617025 := by omega
     have E1 : Hid ((((nthd os (i + j) + nthd a i * nthd b j + cn) % 4294967296 : Nat) : Int) = ((cn : Int) + ((nthd a i : Int) * nthd b j + nthd os (i + j))) % 4294967296) := Lib.hid (by omega)
     have E2 : Hid ((((nthd os (i + j) + nthd a i * nthd b j + cn) / 4294967296 : Nat) : Int) = ((cn : Int) + ((nthd a i : Int) * nthd b j + nthd os (i + j))) / 4294967296) := Lib.hid (by omega)
     have h1 : (j : Int) < b.length := by omega
     have h2 : (i : Int) + j < (a.length : Int) + b.length := by omega
     clear hpi hp hos hin hbe
     go_wp2_with fail
     go_roundw
     case rel => exact ⟨j + 1, _, _, by omega, by go_num, by rw [← E2.out], by rw [← E1.out]; exact hset.out _ HOS.out, hst.out, HB.out.setCell (Nat.le_refl _) _⟩
     case measure => simp [intOf]; omega
    ·obtain rfl : j = b.length := by omega
     have g3 := hos.cell (i + b.length) (by rw [hln.out]; omega)
     have f3 := Blk.free hos (i + b.length)
     have h2 : (i : Int) + b.length < (a.length : Int) + b.length := by omega
     have hst := Lib.hid (hin.out.done hlt)
     have hset := Lib.hid (hos.set (i + b.length) cn)
     have HB := Lib.hid hbe
     have hcm : (cn : Int) % 4294967296 = cn := by omega
     clear hos hin hbe
     go_wp2_with fail
     go_roundw
     case rel => exact ⟨i + 1, _, by omega, by go_num, hset.out, hst.out, HB.out.setCell (Nat.le_refl _) _⟩
     case measure => simp [intOf]; omega
  ·obtain rfl : i = a.length := by omega
   have htr := trim_calls (some ⟨w.heap.size, 0, none⟩) (a.length + b.length) os wr (by rw [hrow.len]; omega) (by unfold maxLen; omega) hos.wds
   rw [hrow.len] at htr
   have hd := hrow.done
   rw [HV.out, HM.out] at hd
   have HD := Lib.hid hd; have HT := Lib.hid htr; have HB := Lib.hid hbe; have HW := Lib.hid hos.wds
   have HL := Lib.hid hrow.len
   clear hd htr hbe hos hrow hA hB ha hb
   go_wp2_with fail
   refine HT.out.mono ?_; rintro e w3 ⟨k, rfl, hk, ht, rfl⟩
   have hfin := HW.out.take k
   rw [ht, HD.out] at hfin
   have hkl : k = (digits (n * m)).length := by
    rw [← HD.out, ← ht, List.length_take, HL.out]; have := HL.out; omega
   have HK := Lib.hid hkl; have HF := Lib.hid hfin
   clear hkl hfin ht HT
   go_wp2
   go_ret
   exact ⟨_, rfl, ⟨_, _, by rw [← HK.out]; rfl, by rw [← HK.out]; omega, by omega, HF.out⟩, HB.out⟩
set_option maxRecDepth 100000 in
set_option maxHeartbeats 2000000 in
theorem times_snd (v u : Value) (n m : Nat) (w : World) (hsmall : n < 18446744073709551616) (hbig : 18446744073709551616 ≤ m) (hn : (digits n).length ≤ 100000000) (hm : (digits m).length ≤ 100000000) (hv : WSl w v n) (hu : WSl w u m) :
  Calls Tryz.prog 199 #[v, u] w fun e w' => ∃ v, e = .returned v ∧ WSl w' v (n * m) ∧ Below w.heap.size w w' := by
 have hv0 := hv
 have hu0 := hu
 obtain ⟨A, ca, rfl, hca, hcm, hA⟩ := hv0
 obtain ⟨B, cb, rfl, hcb, hcm2, hB⟩ := hu0
 have ha := digits_dig n
 have hb := digits_dig m
 have hvn := val_digits n
 have hvm := val_digits m
 have hs := small_yes n _ w hsmall hv
 have ht := fun k h => small_no m (.slice B (digits m).length cb) (w.drewN k) hbig (by unfold maxLen; omega) h
 have HS := Lib.hid hs; have HT := Lib.hid ht
 clear hs ht
 go_enter Tryz.func199, Tryz.ntmps199
 go_wp2_with fail
 refine HS.out.mono ?_; rintro e w1 ⟨rfl, k1, e1⟩
 rw [e1]
 clear e1 w1 HS
 go_wp2_with fail
 refine (HT.out k1 (hu.ext (drewN_below w k1))).mono ?_; rintro e w1 ⟨rfl, e1⟩
 rw [e1]
 clear e1 w1 HT hbig hsmall
 generalize digits n = a at *
 generalize digits m = b at *
 have HV := Lib.hid hvn; have HM := Lib.hid hvm
 clear hvn hvm hv hu hca hcb hcm hcm2
 have hmk := fun w => run_makeU32 w (a.length + b.length) (by omega)
 have ec : ((a.length + b.length : Nat) : Int) = (a.length : Int) + b.length := by push_cast; rfl
 rw [ec] at hmk
 clear ec
 go_wp2_with fail
 clear hmk
 go_loopw [12, 13, 14, 15, 16, 55] (fun _ _ _ _ _ i wr => ∃ (n : Nat) (os : List Nat), n ≤ a.length ∧ i = .int .i64 n ∧ UBlk wr w.heap.size os ∧ WRow a b os n ∧ Below w.heap.size w wr) (fun _ _ _ _ _ i _ => a.length - (intOf i).toNat)
 case atStart => exact ⟨0, _, Nat.zero_le _, rfl, UBlk.made _ _ _ rfl, WRow.start a b, (drewN_below w k1).alloc (Nat.le_refl _) _⟩
 case round =>
  obtain ⟨i, os, hi, rfl, hos, hrow, hbe⟩ := hrel
  by_cases hlt : i < a.length
  ·have hin := Lib.hid hrow.enter
   obtain ⟨b1, o1, rfl, g1⟩ := (hA.ext hbe) i hlt
   have hn1 : (i : Int) < a.length := by omega
   have hx := ha.nth i
   clear hrow
   go_wp2_with fail
   go_loopw [14, 15, 16, 62] (fun c _ _ k wr => ∃ (j cn : Nat) (os : List Nat), j ≤ b.length ∧ k = .int .i64 j ∧ c = .int .u64 cn ∧ UBlk wr w.heap.size os ∧ Hid (WIn a b os i j cn) ∧ Below w.heap.size w wr) (fun _ _ _ k _ => b.length - (intOf k).toNat)
   case atStart => exact ⟨0, 0, os, Nat.zero_le _, rfl, rfl, hos, hin, hbe⟩
   case round =>
    clear hos hin hbe
    obtain ⟨j, cn, os, hj, rfl, rfl, hos, hin, hbe⟩ := hrel
    have hcar := hin.out.car
    have hln : Hid (os.length = a.length + b.length) := Lib.hid hin.out.len
    have bl := Blk.lt hos
    by_cases hlm : j < b.length
    ·obtain ⟨b2, o2, rfl, g2⟩ := (hB.ext hbe) j hlm
     have g3 := hos.cell (i + j) (by rw [hln.out]; omega)
     have f3 := Blk.free hos (i + j)
     have y : nthd b j < 4294967296 := hb.nth j
     have o : nthd os (i + j) < 4294967296 := hin.out.dig.nth (i + j)
     have hp := wmul_digit hx y
     have hst := Lib.hid (hin.out.step ha hb hlt hlm)
     have hset := Lib.hid (fun wq : World => fun h : UBlk wq w.heap.size os => h.set (i + j) ((nthd os (i + j) + nthd a i * nthd b j + cn) % 4294967296))
     have HOS := Lib.hid hos; have HB := Lib.hid hbe
     have hpi : ((nthd a i * nthd b j : Nat) : Int) = (nthd a i : Int) * nthd b j := by push_cast; rfl
     have hp2 : 0 ≤ (nthd a i : Int) * nthd b j ∧ (nthd a i : Int) * nthd b j ≤ 18446744065119617025 := by omega
     have E1 : Hid ((((nthd os (i + j) + nthd a i * nthd b j + cn) % 4294967296 : Nat) : Int) = ((cn : Int) + ((nthd a i : Int) * nthd b j + nthd os (i + j))) % 4294967296) := Lib.hid (by omega)
     have E2 : Hid ((((nthd os (i + j) + nthd a i * nthd b j + cn) / 4294967296 : Nat) : Int) = ((cn : Int) + ((nthd a i : Int) * nthd b j + nthd os (i + j))) / 4294967296) := Lib.hid (by omega)
     have h1 : (j : Int) < b.length := by omega
     have h2 : (i : Int) + j < (a.length : Int) + b.length := by omega
     clear hpi hp hos hin hbe
     go_wp2_with fail
     go_roundw
     case rel => exact ⟨j + 1, _, _, by omega, by go_num, by rw [← E2.out], by rw [← E1.out]; exact hset.out _ HOS.out, hst.out, HB.out.setCell (Nat.le_refl _) _⟩
     case measure => simp [intOf]; omega
    ·obtain rfl : j = b.length := by omega
     have g3 := hos.cell (i + b.length) (by rw [hln.out]; omega)
     have f3 := Blk.free hos (i + b.length)
     have h2 : (i : Int) + b.length < (a.length : Int) + b.length := by omega
     have hst := Lib.hid (hin.out.done hlt)
     have hset := Lib.hid (hos.set (i + b.length) cn)
     have HB := Lib.hid hbe
     have hcm : (cn : Int) % 4294967296 = cn := by omega
     clear hos hin hbe
     go_wp2_with fail
     go_roundw
     case rel => exact ⟨i + 1, _, by omega, by go_num, hset.out, hst.out, HB.out.setCell (Nat.le_refl _) _⟩
     case measure => simp [intOf]; omega
  ·obtain rfl : i = a.length := by omega
   have htr := trim_calls (some ⟨w.heap.size, 0, none⟩) (a.length + b.length) os wr (by rw [hrow.len]; omega) (by unfold maxLen; omega) hos.wds
   rw [hrow.len] at htr
   have hd := hrow.done
   rw [HV.out, HM.out] at hd
   have HD := Lib.hid hd; have HT := Lib.hid htr; have HB := Lib.hid hbe; have HW := Lib.hid hos.wds
   have HL := Lib.hid hrow.len
   clear hd htr hbe hos hrow hA hB ha hb
   go_wp2_with fail
   refine HT.out.mono ?_; rintro e w3 ⟨k, rfl, hk, ht, rfl⟩
   have hfin := HW.out.take k
   rw [ht, HD.out] at hfin
   have hkl : k = (digits (n * m)).length := by
    rw [← HD.out, ← ht, List.length_take, HL.out]; have := HL.out; omega
   have HK := Lib.hid hkl; have HF := Lib.hid hfin
   clear hkl hfin ht HT
   go_wp2
   go_ret
   exact ⟨_, rfl, ⟨_, _, by rw [← HK.out]; rfl, by rw [← HK.out]; omega, by omega, HF.out⟩, HB.out⟩
theorem times_calls (v u : Value) (n m : Nat) (w : World) (hn : (digits n).length ≤ 100000000) (hm : (digits m).length ≤ 100000000) (hv : WSl w v n) (hu : WSl w u m) :
  Calls Tryz.prog 199 #[v, u] w fun e w' => ∃ v, e = .returned v ∧ WSl w' v (n * m) ∧ Below w.heap.size w w' := by
 rcases Nat.lt_or_ge n 18446744073709551616 with h | h
 ·rcases Nat.lt_or_ge m 18446744073709551616 with h2 | h2
  ·exact times_small v u n m w h h2 hv hu
  ·exact times_snd v u n m w h h2 hn hm hv hu
 ·exact times_big v u n m w h hn hm hv hu
end Go.Proofs.YtkljafmdbajfeaaGreatDoor
