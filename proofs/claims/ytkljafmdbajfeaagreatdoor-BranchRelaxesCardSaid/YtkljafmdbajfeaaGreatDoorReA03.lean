/- Package big: minus on digits; plus of any two. -/
import Derived.Test.YtkljafmdbajfeaaGreatDoorReA00
import Derived.Test.YtkljafmdbajfeaaGreatDoorReA02
namespace Go.Proofs.YtkljafmdbajfeaaGreatDoor
open Go.RowKit
set_option linter.unusedVariables false
set_option linter.unusedSimpArgs false
def MinAt (a b os : List Nat) (k c : Nat) : Prop := os.length = a.length ∧ Dig os ∧ c ≤ 1 ∧ val (os.take k) + val (b.take k) = val (a.take k) + 4294967296 ^ k * c
def mdig (x y c : Nat) : Nat := (x + 4294967296 * (if x < y + c then 1 else 0)) - (y + c)
def mbor (x y c : Nat) : Nat := if x < y + c then 1 else 0
theorem MinAt.step {a b os : List Nat} {k c : Nat} (h : MinAt a b os k c) (ha : Dig a) (hb : Dig b) (hk : k < a.length) :
  MinAt a b (os.set k (mdig (nthd a k) (nthd b k) c)) (k + 1) (mbor (nthd a k) (nthd b k) c) := by
 obtain ⟨h1, h2, h3, h4⟩ := h
 have x := ha.nth k; have y := hb.nth k
 have e : mdig (nthd a k) (nthd b k) c + nthd b k + c = nthd a k + 4294967296 * mbor (nthd a k) (nthd b k) c := by
  unfold mdig mbor; split <;> omega
 refine ⟨by simpa using h1, h2.set _ (by unfold mdig; split <;> omega), by unfold mbor; split <;> omega, ?_⟩
 rw [val_set_succ (by omega), val_take_succ, val_take_succ, Nat.pow_succ]
 generalize 4294967296 ^ k = P at *
 generalize mdig (nthd a k) (nthd b k) c = d at *
 generalize mbor (nthd a k) (nthd b k) c = r at *
 have e2 : P * d + P * nthd b k + P * c = P * nthd a k + P * 4294967296 * r := by
  rw [← Nat.mul_add, ← Nat.mul_add, e, Nat.mul_add, Nat.mul_assoc]
 omega
theorem MinAt.done {a b os : List Nat} {c : Nat} (h : MinAt a b os a.length c) (ha : Dig a) (hl : b.length ≤ a.length) (hv : val b ≤ val a) : trimL os = digits (val a - val b) := by
 obtain ⟨h1, h2, h3, h4⟩ := h
 rw [trimL_digits h2]
 rw [List.take_length, List.take_of_length_le hl, ← h1, List.take_length, h1] at h4
 have hlt := val_lt h2
 rw [h1] at hlt
 have hc : c = 0 := by
  rcases Nat.lt_or_ge 0 c with h | h
  ·have : c = 1 := by omega
   subst this; omega
  ·omega
 subst hc
 congr 1; omega
theorem mbor_w {x y c : Nat} (hx : x < 4294967296) (hy : y < 4294967296) (hc : c ≤ 1) : IntKind.u64.wrap (IntKind.u64.wrap ((x : Int) - c) - y) / 9223372036854775808 = ((mbor x y c : Nat) : Int) := by
 rw [IntKind.wrap_u64, IntKind.wrap_u64]; unfold mbor; split <;> omega
theorem mdig_w {x y c : Nat} (hx : x < 4294967296) (hy : y < 4294967296) (hc : c ≤ 1) : IntKind.u64.wrap (IntKind.u64.wrap ((x : Int) - c) - y) % 4294967296 = ((mdig x y c : Nat) : Int) := by
 rw [IntKind.wrap_u64, IntKind.wrap_u64]; unfold mdig; split <;> omega
theorem mbor_z {x c : Nat} (hx : x < 4294967296) (hc : c ≤ 1) : IntKind.u64.wrap ((x : Int) - c) / 9223372036854775808 = ((mbor x 0 c : Nat) : Int) := by
 rw [IntKind.wrap_u64]; unfold mbor; split <;> omega
theorem mdig_z {x c : Nat} (hx : x < 4294967296) (hc : c ≤ 1) : IntKind.u64.wrap ((x : Int) - c) % 4294967296 = ((mdig x 0 c : Nat) : Int) := by
 rw [IntKind.wrap_u64]; unfold mdig; split <;> omega
set_option maxRecDepth 100000 in
set_option maxHeartbeats 2000000 in
theorem minus_calls (A B : Option Addr) (ca cb : Nat) (a b : List Nat) (w : World) (hl : b.length ≤ a.length) (hv : val b ≤ val a) (ha : Dig a) (hb : Dig b) (hm : a.length ≤ 100000000) (hA : Wds w A a) (hB : Wds w B b) :
  Calls Tryz.prog 209 #[.slice A a.length ca, .slice B b.length cb] w fun e w' => ∃ v, e = .returned v ∧ WSl w' v (val a - val b) ∧ Below w.heap.size w w' := by
 have hmk := fun w => run_makeU32 w a.length (by omega)
 go_enter Tryz.func209, Tryz.ntmps209
 go_wp2
 go_loopw [6, 7, 8, 14] (fun c _ _ i wr => ∃ (k cn : Nat) (os : List Nat), k ≤ a.length ∧ i = .int .i64 k ∧ c = .int .u64 cn ∧ UBlk wr w.heap.size os ∧ MinAt a b os k cn ∧ Below w.heap.size w wr) (fun _ _ _ i _ => a.length - (intOf i).toNat)
 case atStart => exact ⟨0, 0, List.replicate a.length 0, Nat.zero_le _, rfl, rfl, UBlk.made _ _ _ rfl, ⟨by simp, Dig.zeros _, by omega, by simp [val]⟩, (Below.refl _ _).alloc (Nat.le_refl _) _⟩
 case round =>
  obtain ⟨k, cn, os, hk, rfl, rfl, hos, hp, hbe⟩ := hrel
  obtain ⟨p1, p2, p3, p4⟩ := id hp
  have hP := Lib.hid hp; have P1 := Lib.hid p1
  clear hp p1 p4
  by_cases hlt : k < a.length
  ·obtain ⟨bA, oA, rfl, gA⟩ := (hA.ext hbe) k hlt
   have xa := ha.nth k
   have c1 := hos.cell k (by have := P1.out; omega)
   have f1 := Blk.free hos k
   by_cases hlb : k < b.length
   ·obtain ⟨bB, oB, rfl, gB⟩ := (hB.ext hbe) k hlb
    have xb := hb.nth k
    have hP2 := MinAt.step hP.out ha hb hlt
    have HP2 := Lib.hid hP2
    clear hP2
    go_wp2
    go_roundw
    case rel =>
     refine ⟨k + 1, mbor (nthd a k) (nthd b k) cn, _, by omega, by go_num, ?_, ?_, HP2.out, ?_⟩
     ·rw [mbor_w xa xb p3]
     ·rw [mdig_w xa xb p3]; exact hos.set k _
     ·exact hbe.setCell (by dsimp only; omega) _
    case measure => simp [intOf]; omega
   ·have hlb' : decide ((k : Int) < b.length) = false := decide_eq_false (by omega)
    have hP2 := MinAt.step hP.out ha hb hlt
    rw [nthd_out (l := b) (by omega)] at hP2
    have HP2 := Lib.hid hP2
    clear hP2
    go_wp2
    go_roundw
    case rel =>
     refine ⟨k + 1, mbor (nthd a k) 0 cn, _, by omega, by go_num, ?_, ?_, HP2.out, ?_⟩
     ·rw [mbor_z xa p3]
     ·rw [mdig_z xa p3]; exact hos.set k _
     ·exact hbe.setCell (by dsimp only; omega) _
    case measure => simp [intOf]; omega
  ·obtain rfl : k = a.length := by omega
   have hd := MinAt.done hP.out ha hl hv
   have HD := Lib.hid hd
   clear hd
   have htr := trim_calls (some ⟨w.heap.size, 0, none⟩) a.length os wr (by have := P1.out; omega) (by unfold maxLen; omega) hos.wds
   rw [P1.out] at htr
   have HT := Lib.hid htr
   clear htr
   go_wp2_with fail
   refine (HT.out).mono ?_; rintro e w3 ⟨n, rfl, hn, ht, rfl⟩
   have hfin := (hos.wds).take n
   rw [ht, HD.out] at hfin
   have hnl : n = (digits (val a - val b)).length := by
    rw [← HD.out, ← ht, List.length_take]; have := P1.out; omega
   have HN := Lib.hid hnl
   clear hnl
   go_wp2
   go_ret
   exact ⟨_, rfl, ⟨_, a.length, by rw [← HN.out]; rfl, by rw [← HN.out]; have := P1.out; omega, by omega, hfin⟩, hbe⟩
end Go.Proofs.YtkljafmdbajfeaaGreatDoor

/- slices.IndexFunc and slices.ContainsFunc at []int and [][]int: whatever function value is handed in, if it answers like a Lean predicate and only makes memory. -/
namespace Go.Proofs.YtkljafmdbajfeaaGreatDoor
open Go.RowKit
def Enters (fid : FuncId) : Prop := ∀ args w, (callFunc fid args).run Tryz.prog w = .ok (.enter fid args) w
def Tells (fid : FuncId) (caps : Array Value) (p : Int → Bool) (w : World) (xs : List Int) : Prop :=
 Enters fid ∧ ∀ x ∈ xs, ∀ w1, Below w.heap.size w w1 → Calls Tryz.prog fid (#[.int .i64 x] ++ caps) w1 fun e w2 => e = .returned (.bool (p x)) ∧ Below w1.heap.size w1 w2
def TellsR (fid : FuncId) (caps : Array Value) (p : List Int → Bool) (w : World) (l : List (List Int)) : Prop :=
 Enters fid ∧ ∀ x ∈ l, ∀ A c w1, Below w.heap.size w w1 → Ints w1 A x → Calls Tryz.prog fid (#[.slice A x.length c] ++ caps) w1 fun e w2 => e = .returned (.bool (p x)) ∧ Below w1.heap.size w1 w2
set_option maxHeartbeats 400000 in
theorem indexFunc_int (fid : FuncId) (caps : Array Value) (p : Int → Bool) (A : Option Addr) (c : Nat) (xs : List Int) (w : World) (hm : xs.length ≤ maxLen)
  (hA : Ints w A xs) (hf : Tells fid caps p w xs) :
  Calls Tryz.prog 151 #[.slice A xs.length c, .func (.func fid) #[] caps] w fun e w' => ∃ r : Int, e = .returned (.int .i64 r) ∧ decide (0 ≤ r) = xs.any p ∧ Below w.heap.size w w' := by
 unfold maxLen at hm
 obtain ⟨hent, hf⟩ := hf
 go_enter Tryz.func151, Tryz.ntmps151
 go_wp2
 go_loopw [8] (fun i wr => ∃ k : Nat, k ≤ xs.length ∧ i = .int .i64 k ∧ (xs.take k).any p = false ∧ Below w.heap.size w wr) (fun i _ => xs.length - (intOf i).toNat)
 case atStart => exact ⟨0, Nat.zero_le _, rfl, by simp, Below.refl _ _⟩
 case round =>
  obtain ⟨k, hk, rfl, hn, hb⟩ := hrel
  by_cases hlt : k < xs.length
  ·obtain ⟨b, off, rfl, g⟩ := (hA.ext hb) k hlt
   have hcall := hf (nth xs k) (nth_mem hlt) wr hb
   have ht := take_nth hlt
   have hany : xs.any p = ((xs.take k).any p || (p (nth xs k) || (xs.drop (k + 1)).any p)) := by
    rw [← List.any_cons, nth_lt hlt, ← List.drop_eq_getElem_cons hlt, ← List.any_append, List.take_append_drop]
   have hany2 : (xs.take (k + 1)).any p = ((xs.take k).any p || p (nth xs k)) := by rw [ht, List.any_append]; simp
   have HH := Lib.hid hany; have H2 := Lib.hid hany2; have HN := Lib.hid hn
   clear hany hany2 hn ht
   cases hp : p (nth xs k)
   all_goals
    rw [hp] at hcall
    have HP := Lib.hid hp
    clear hp
    go_wp2_with (rw [hent, Oper.upon_enter]; refine hcall.mono ?_; rintro e w2 ⟨rfl, hb2⟩)
   ·go_roundw
    case rel => exact ⟨k + 1, by omega, by go_num, by rw [H2.out, HN.out, HP.out]; rfl, ext_trans hb hb2⟩
    case measure => simp [intOf]; omega
   ·go_ret
    exact ⟨_, rfl, by rw [HH.out, HP.out]; simp, ext_trans hb hb2⟩
  ·obtain rfl : k = xs.length := by omega
   go_wp2
   go_ret
   rw [List.take_length] at hn
   exact ⟨_, rfl, by rw [hn]; rfl, hb⟩
set_option maxHeartbeats 400000 in
theorem containsFunc_int (fid : FuncId) (caps : Array Value) (p : Int → Bool) (A : Option Addr) (c : Nat) (xs : List Int) (w : World) (hm : xs.length ≤ maxLen)
  (hA : Ints w A xs) (hf : Tells fid caps p w xs) :
  Calls Tryz.prog 98 #[.slice A xs.length c, .func (.func fid) #[] caps] w fun e w' => e = .returned (.bool (xs.any p)) ∧ Below w.heap.size w w' := by
 go_enter Tryz.func98, Tryz.ntmps98
 go_wp2_with (go_at_call 151; refine (indexFunc_int fid caps p _ _ xs _ hm hA hf).mono ?_; rintro e w' ⟨r, rfl, hr, hb⟩)
 go_ret
 exact ⟨rfl, hb⟩
set_option maxHeartbeats 400000 in
theorem indexFunc_row (fid : FuncId) (caps : Array Value) (p : List Int → Bool) (A : Option Addr) (c : Nat) (xs : List (List Int)) (w : World) (hm : xs.length ≤ maxLen)
  (hA : Grid w A xs) (hf : TellsR fid caps p w xs) :
  Calls Tryz.prog 159 #[.slice A xs.length c, .func (.func fid) #[] caps] w fun e w' => ∃ r : Int, e = .returned (.int .i64 r) ∧ decide (0 ≤ r) = xs.any p ∧ Below w.heap.size w w' := by
 unfold maxLen at hm
 obtain ⟨hent, hf⟩ := hf
 go_enter Tryz.func159, Tryz.ntmps159
 go_wp2
 go_loopw [8] (fun i wr => ∃ k : Nat, k ≤ xs.length ∧ i = .int .i64 k ∧ (xs.take k).any p = false ∧ Below w.heap.size w wr) (fun i _ => xs.length - (intOf i).toNat)
 case atStart => exact ⟨0, Nat.zero_le _, rfl, by simp, Below.refl _ _⟩
 case round =>
  obtain ⟨k, hk, rfl, hn, hb⟩ := hrel
  by_cases hlt : k < xs.length
  ·obtain ⟨b, off, R, cR, rfl, g, _, hR⟩ := (hA.ext hb) k hlt
   have hcall := hf (nrow xs k) (nrow_mem hlt) R cR wr hb hR
   have ht := take_nrow hlt
   have hany : xs.any p = ((xs.take k).any p || (p (nrow xs k) || (xs.drop (k + 1)).any p)) := by
    rw [← List.any_cons, nrow_lt hlt, ← List.drop_eq_getElem_cons hlt, ← List.any_append, List.take_append_drop]
   have hany2 : (xs.take (k + 1)).any p = ((xs.take k).any p || p (nrow xs k)) := by rw [ht, List.any_append]; simp
   have HH := Lib.hid hany; have H2 := Lib.hid hany2; have HN := Lib.hid hn
   clear hany hany2 hn ht
   cases hp : p (nrow xs k)
   all_goals
    rw [hp] at hcall
    have HP := Lib.hid hp
    clear hp
    go_wp2_with (rw [hent, Oper.upon_enter]; refine hcall.mono ?_; rintro e w2 ⟨rfl, hb2⟩)
   ·go_roundw
    case rel => exact ⟨k + 1, by omega, by go_num, by rw [H2.out, HN.out, HP.out]; rfl, ext_trans hb hb2⟩
    case measure => simp [intOf]; omega
   ·go_ret
    exact ⟨_, rfl, by rw [HH.out, HP.out]; simp, ext_trans hb hb2⟩
  ·obtain rfl : k = xs.length := by omega
   go_wp2
   go_ret
   rw [List.take_length] at hn
   exact ⟨_, rfl, by rw [hn]; rfl, hb⟩
set_option maxHeartbeats 400000 in
theorem containsFunc_row (fid : FuncId) (caps : Array Value) (p : List Int → Bool) (A : Option Addr) (c : Nat) (xs : List (List Int)) (w : World) (hm : xs.length ≤ maxLen)
  (hA : Grid w A xs) (hf : TellsR fid caps p w xs) :
  Calls Tryz.prog 112 #[.slice A xs.length c, .func (.func fid) #[] caps] w fun e w' => e = .returned (.bool (xs.any p)) ∧ Below w.heap.size w w' := by
 go_enter Tryz.func112, Tryz.ntmps112
 go_wp2_with (go_at_call 159; refine (indexFunc_row fid caps p _ _ xs _ hm hA hf).mono ?_; rintro e w' ⟨r, rfl, hr, hb⟩)
 go_ret
 exact ⟨rfl, hb⟩
end Go.Proofs.YtkljafmdbajfeaaGreatDoor

/- linear.within, listed, rowed, valid, proper, dot: what they answer. -/
namespace Go.Proofs.YtkljafmdbajfeaaGreatDoor
open Go.RowKit
def inB (m : Int) (x : Int) : Bool := decide (-m ≤ x) && decide (x ≤ m)
def listOk (m : Int) (xs : List Int) : Bool := xs.all (inB m)
def rowOk (n : Nat) (r : List Int) : Bool := decide (r.length = n) && listOk 30 r
def rowsOk (l : List (List Int)) (n : Nat) : Bool := decide (1 ≤ n) && decide (n ≤ 6) && decide (l.length ≤ 6) && l.all (rowOk n)
def progOk (a : List (List Int)) (b c : List Int) : Bool := rowsOk a c.length && decide (b.length = a.length) && listOk 1000 b && listOk 1000 c
theorem listOk_any (m : Int) (xs : List Int) : (!xs.any fun x => !inB m x) = listOk m xs := by
 unfold listOk; rw [List.not_any_eq_all_not]; simp
set_option maxHeartbeats 400000 in
theorem within_calls (n m : Int) (w : World) (h0 : 0 ≤ m) (h1 : m ≤ 4611686018427387904) :
  Calls Tryz.prog 145 #[.int .i64 n, .int .i64 m] w fun e w' => e = .returned (.bool (inB m n)) ∧ w' = w := by
 by_cases h : -m ≤ n
 ·have hh : decide (-m ≤ n) = true := decide_eq_true h
  go_enter Tryz.func145, Tryz.ntmps145
  go_wp2
  go_ret
  exact ⟨by simp [inB, h], rfl⟩
 ·have hh : decide (-m ≤ n) = false := decide_eq_false h
  go_enter Tryz.func145, Tryz.ntmps145
  go_wp2
  go_ret
  exact ⟨by simp [inB, show ¬ (-m ≤ n) by omega], rfl⟩
set_option maxHeartbeats 400000 in
theorem listed1_calls (n m : Int) (b : Nat) (w : World) (h0 : 0 ≤ m) (h1 : m ≤ 4611686018427387904) (hb : w.cell? ⟨b, 0, none⟩ = some (.int .i64 m)) :
  Calls Tryz.prog 144 #[.int .i64 n, .pointer (some ⟨b, 0, none⟩)] w fun e w' => e = .returned (.bool (!inB m n)) ∧ w' = w := by
 go_enter Tryz.func144, Tryz.ntmps144
 go_wp2_with (go_at_call 145; refine (within_calls n m _ h0 h1).mono ?_; rintro e w' ⟨rfl, rfl⟩)
 go_ret
 exact ⟨rfl, rfl⟩
set_option maxHeartbeats 400000 in
theorem listed_calls (A : Option Addr) (c : Nat) (xs : List Int) (m : Int) (w : World) (hm : xs.length ≤ maxLen) (h0 : 0 ≤ m) (h1 : m ≤ 4611686018427387904) (hA : Ints w A xs) :
  Calls Tryz.prog 88 #[.slice A xs.length c, .int .i64 m] w fun e w' => e = .returned (.bool (listOk m xs)) ∧ Below w.heap.size w w' := by
 have hT : ∀ w0 : World, w.heap.size < w0.heap.size → w0.cell? ⟨w.heap.size, 0, none⟩ = some (.int .i64 m) → Tells 144 #[.pointer (some ⟨w.heap.size, 0, none⟩)] (fun x => !inB m x) w0 xs := by
  intro w0 hs hw0
  refine ⟨fun _ _ => by kernel_rfl, fun x _ w1 hb => (listed1_calls x m w.heap.size w1 h0 h1 ?_).mono fun e w2 ⟨he, hw⟩ => ⟨he, by rw [hw]; exact Below.refl _ _⟩⟩
  rw [hb.cell (p := ⟨w.heap.size, 0, none⟩) hs]; exact hw0
 go_enter Tryz.func88, Tryz.ntmps88
 go_wp2_with (go_at_call 98; refine (containsFunc_int _ _ (fun x => !inB m x) _ _ xs _ hm (hA.ext ((Below.refl _ _).alloc (Nat.le_refl _) _)) (hT _ (by simp) (by go_simp))).mono ?_; rintro e w' ⟨rfl, hb⟩)
 go_ret
 exact ⟨by simp only [← listOk_any m xs]; rfl, ((Below.refl _ _).alloc (Nat.le_refl _) _).trans (hb.mono (by simp))⟩
set_option maxHeartbeats 400000 in
theorem rowed1_calls (A : Option Addr) (c : Nat) (r : List Int) (n b : Nat) (w : World) (hm : r.length ≤ maxLen) (hA : Ints w A r) (hb : w.cell? ⟨b, 0, none⟩ = some (.int .i64 n)) :
  Calls Tryz.prog 137 #[.slice A r.length c, .pointer (some ⟨b, 0, none⟩)] w fun e w' => e = .returned (.bool (!rowOk n r)) ∧ Below w.heap.size w w' := by
 by_cases h : r.length = n
 ·have h1 : ((r.length : Int) == (n : Int)) = true := by simp [h]
  have h2 : ((r.length : Int) != (n : Int)) = false := by simp [h]
  have H := Lib.hid h; clear h
  have hm' := hm; unfold maxLen at hm'
  go_enter Tryz.func137, Tryz.ntmps137
  go_wp2_with (go_at_call 88; refine (listed_calls _ _ r 30 _ hm (by omega) (by omega) hA).mono ?_; rintro e w' ⟨rfl, hb2⟩)
  go_ret
  exact ⟨by simp [rowOk, H.out], hb2⟩
 ·have h1 : ((r.length : Int) == (n : Int)) = false := by simp; omega
  have h2 : ((r.length : Int) != (n : Int)) = true := by simp; omega
  have H := Lib.hid h; clear h
  go_enter Tryz.func137, Tryz.ntmps137
  go_wp2
  go_ret
  exact ⟨by simp [rowOk, H.out], Below.refl _ _⟩
set_option maxHeartbeats 400000 in
theorem rowed_calls (A : Option Addr) (c : Nat) (l : List (List Int)) (n : Nat) (w : World) (hm : l.length ≤ maxLen) (hr : ∀ r ∈ l, r.length ≤ maxLen) (hn : n ≤ maxLen) (hA : Grid w A l) :
  Calls Tryz.prog 80 #[.slice A l.length c, .int .i64 n] w fun e w' => e = .returned (.bool (rowsOk l n)) ∧ Below w.heap.size w w' := by
 have hn' := hn; unfold maxLen at hn'
 have hm' := hm; unfold maxLen at hm'
 have hT : ∀ w0 : World, w.heap.size < w0.heap.size → w0.cell? ⟨w.heap.size, 0, none⟩ = some (.int .i64 n) → TellsR 137 #[.pointer (some ⟨w.heap.size, 0, none⟩)] (fun x => !rowOk n x) w0 l := by
  intro w0 hs hw0
  refine ⟨fun _ _ => by kernel_rfl, fun x hx A c w1 hb hx1 => rowed1_calls A c x n w.heap.size w1 (hr x hx) hx1 ?_⟩
  rw [hb.cell (p := ⟨w.heap.size, 0, none⟩) hs]; exact hw0
 by_cases h1 : 1 ≤ n
 ·have d1 : decide (1 ≤ (n : Int)) = true := by simp; omega
  by_cases h2 : n ≤ 6
  ·have d2 : decide ((n : Int) ≤ 6) = true := by simp; omega
   by_cases h3 : l.length ≤ 6
   ·have d3 : decide ((l.length : Int) ≤ 6) = true := by simp; omega
    go_enter Tryz.func80, Tryz.ntmps80
    go_wp2_with (go_at_call 112; refine (containsFunc_row _ _ (fun x => !rowOk n x) _ _ l _ hm (hA.ext ((Below.refl _ _).alloc (Nat.le_refl _) _)) (hT _ (by simp) (by go_simp))).mono ?_; rintro e w' ⟨rfl, hb⟩)
    go_ret
    exact ⟨by simp [rowsOk, h1, h2, h3, List.not_any_eq_all_not], ((Below.refl _ _).alloc (Nat.le_refl _) _).trans (hb.mono (by simp))⟩
   ·have d3 : decide ((l.length : Int) ≤ 6) = false := by simp; omega
    go_enter Tryz.func80, Tryz.ntmps80
    go_wp2
    go_ret
    exact ⟨by simp [rowsOk, h3], ((Below.refl _ _).alloc (Nat.le_refl _) _)⟩
  ·have d2 : decide ((n : Int) ≤ 6) = false := by simp; omega
   go_enter Tryz.func80, Tryz.ntmps80
   go_wp2
   go_ret
   exact ⟨by simp [rowsOk, h2], ((Below.refl _ _).alloc (Nat.le_refl _) _)⟩
 ·have d1 : decide (1 ≤ (n : Int)) = false := by simp; omega
  go_enter Tryz.func80, Tryz.ntmps80
  go_wp2
  go_ret
  exact ⟨by simp [rowsOk, h1], ((Below.refl _ _).alloc (Nat.le_refl _) _)⟩
structure Prog3 (w : World) (A B C : Option Addr) (a : List (List Int)) (b c : List Int) : Prop where
 ga : Grid w A a
 gb : Ints w B b
 gc : Ints w C c
 la : a.length ≤ maxLen
 lr : ∀ r ∈ a, r.length ≤ maxLen
 lb : b.length ≤ maxLen
 lc : c.length ≤ maxLen
theorem Prog3.ext {w w' : World} {A B C : Option Addr} {a : List (List Int)} {b c : List Int} (h : Prog3 w A B C a b c) (hb : Below w.heap.size w w') : Prog3 w' A B C a b c :=
 ⟨h.ga.ext hb, h.gb.ext hb, h.gc.ext hb, h.la, h.lr, h.lb, h.lc⟩
set_option maxHeartbeats 400000 in
theorem valid_calls (A B C : Option Addr) (ca cb cc : Nat) (a : List (List Int)) (b c : List Int) (w : World) (h : Prog3 w A B C a b c) :
  Calls Tryz.prog 96 #[.agg #[.slice A a.length ca, .slice B b.length cb, .slice C c.length cc]] w fun e w' => e = .returned (.bool (progOk a b c)) ∧ Below w.heap.size w w' := by
 have hlb := h.lb; have hla := h.la; have hlc := h.lc; unfold maxLen at hlb hla hlc
 have hb0 : ∀ o, Below w.heap.size w (w.alloc o) := fun o => (Below.refl _ _).alloc (Nat.le_refl _) _
 cases h1 : rowsOk a c.length
 ·go_enter Tryz.func96, Tryz.ntmps96
  go_wp2_with (go_at_call 80; refine (rowed_calls _ _ a c.length _ h.la h.lr h.lc (h.ga.ext (hb0 _))).mono ?_; rintro e w1 ⟨rfl, hb1⟩)
  go_ret
  exact ⟨by simp [progOk, h1], ext_trans (hb0 _) hb1⟩
 by_cases h2 : b.length = a.length
 ·have d2 : ((b.length : Int) == (a.length : Int)) = true := by simp [h2]
  have H2 := Lib.hid h2; clear h2
  cases h3 : listOk 1000 b
  ·go_enter Tryz.func96, Tryz.ntmps96
   go_wp2_with fail
   refine (rowed_calls _ _ a c.length _ h.la h.lr h.lc (h.ga.ext (hb0 _))).mono ?_; rintro e w1 ⟨rfl, hb1⟩
   obtain ⟨hc1, hf1⟩ := bcell hb1
   have hx1 := ext_trans (hb0 _) hb1
   go_wp2_with fail
   refine (listed_calls _ _ b 1000 _ h.lb (by omega) (by omega) (h.gb.ext hx1)).mono ?_; rintro e w2 ⟨rfl, hb2⟩
   go_wp2
   go_ret
   exact ⟨by simp [progOk, h3], ext_trans hx1 hb2⟩
  ·go_enter Tryz.func96, Tryz.ntmps96
   go_wp2_with fail
   refine (rowed_calls _ _ a c.length _ h.la h.lr h.lc (h.ga.ext (hb0 _))).mono ?_; rintro e w1 ⟨rfl, hb1⟩
   obtain ⟨hc1, hf1⟩ := bcell hb1
   have hx1 := ext_trans (hb0 _) hb1
   have hz1 := hb1.size
   go_wp2_with fail
   refine (listed_calls _ _ b 1000 _ h.lb (by omega) (by omega) (h.gb.ext hx1)).mono ?_; rintro e w2 ⟨rfl, hb2⟩
   obtain ⟨hc2, hf2⟩ := bcell hb2
   have hx2 := ext_trans hx1 hb2
   have hz : w.heap.size < w1.heap.size := by simp at hz1; omega
   go_wp2_with fail
   refine (listed_calls _ _ c 1000 _ h.lc (by omega) (by omega) (h.gc.ext hx2)).mono ?_; rintro e w3 ⟨rfl, hb3⟩
   go_wp2
   go_ret
   exact ⟨by simp [progOk, h3, h1, H2.out], ext_trans hx2 hb3⟩
 ·have d2 : ((b.length : Int) == (a.length : Int)) = false := by simp; omega
  have H2 := Lib.hid h2; clear h2
  go_enter Tryz.func96, Tryz.ntmps96
  go_wp2_with fail
  refine (rowed_calls _ _ a c.length _ h.la h.lr h.lc (h.ga.ext (hb0 _))).mono ?_; rintro e w1 ⟨rfl, hb1⟩
  obtain ⟨hc1, hf1⟩ := bcell hb1
  go_wp2
  go_ret
  exact ⟨by simp [progOk, H2.out], ext_trans (hb0 _) hb1⟩
end Go.Proofs.YtkljafmdbajfeaaGreatDoor
