/- Package big: plus and minus on digits. -/
import Derived.Test.YtkljafmdbajfeaaGreatDoorNoA03
namespace Go.Proofs.YtkljafmdbajfeaaGreatDoor
open Go.RowKit
def UBlk (w : World) (b : Nat) (ds : List Nat) : Prop := Blk w b (ds.map fun d => Value.int .u32 (d : Nat)) 240
theorem UBlk.cell {w : World} {b : Nat} {ds : List Nat} (h : UBlk w b ds) (i : Nat) (hi : i < ds.length) : w.cell? ⟨b, i, none⟩ = some (.int .u32 (nthd ds i : Nat)) := by
  rw [Blk.cell h i (by simpa using hi)]; simp [nthd_lt hi]
theorem UBlk.set {w : World} {b : Nat} {ds : List Nat} (h : UBlk w b ds) (i d : Nat) : UBlk (w.setCell ⟨b, i, none⟩ (.int .u32 (d : Nat))) b (ds.set i d) := by
  have := Blk.set h i (.int .u32 (d : Nat)); unfold UBlk; rw [List.map_set]; exact this
theorem UBlk.wds {w : World} {b : Nat} {ds : List Nat} (h : UBlk w b ds) : Wds w (some ⟨b, 0, none⟩) ds := fun i hi => ⟨b, 0, rfl, by rw [Nat.zero_add]; exact h.cell i hi⟩
theorem infoU32 : (Tryz.prog.info? 240).map (fun i => (i.zero, i.size, i.bytes)) = some (some (.int .u32 0), 1, 4) := by kernel_rfl
theorem madeU32 (n : Nat) : madeCells (Value.int .u32 0).cells n = Array.replicate n (.int .u32 0) := by
  unfold madeCells
  apply Array.ext
  · simp
  · intro j h1 h2; simp [Value.cells, Nat.mod_one]
theorem run_makeU32 (w : World) (n : Nat) (h : n ≤ 35184372088832) :
    (Instr.makeSlice 194 (.int .i64 n) (.int .i64 n)).run Tryz.prog w = .ok (.slice (some ⟨w.heap.size, 0, none⟩) n n) (w.alloc (.cells (Array.replicate n (.int .u32 0)) 240 (0, 0))) := by
  obtain ⟨i, hi, hz, hs, hb⟩ := info_parts infoU32
  rw [run_make w 194 240 i (.int .u32 0) Tryz.underlying194 hi hz .i64 .i64 n n (by omega) (by omega) (by rw [hb]; omega) (by omega)]
  simp only [Int.toNat_natCast, hs, Nat.mul_one]
  rw [madeU32]
theorem UBlk.made (w : World) (n b : Nat) (h : w.heap.size = b) : UBlk (w.alloc (.cells (Array.replicate n (.int .u32 0)) 240 (0, 0))) b (List.replicate n 0) := by
  have e : Array.replicate n (Value.int .u32 0) = ((List.replicate n 0).map fun d : Nat => Value.int .u32 (d : Nat)).toArray := by rw [List.map_replicate]; simp
  rw [e]; exact Blk.new' _ _ _ _ h
theorem nthd_out {l : List Nat} {i : Nat} (h : l.length ≤ i) : nthd l i = 0 := by unfold nthd; rw [List.getD_eq_getElem?_getD, List.getElem?_eq_none h]; rfl
theorem val_take_succ (l : List Nat) (k : Nat) : val (l.take (k + 1)) = val (l.take k) + 4294967296 ^ k * nthd l k := by
  by_cases h : k < l.length
  · rw [take_nthd h, val_append, List.length_take, Nat.min_eq_left (by omega)]; simp [val]
  · rw [nthd_out (by omega), List.take_of_length_le (by omega), List.take_of_length_le (by omega)]; simp
theorem take_set_succ {l : List Nat} {k : Nat} (h : k < l.length) (d : Nat) : (l.set k d).take (k + 1) = l.take k ++ [d] := by
  rw [List.take_succ_eq_append_getElem (by simpa using h), List.take_set_of_le (by omega)]; simp
theorem val_set_succ {l : List Nat} {k : Nat} (h : k < l.length) (d : Nat) : val ((l.set k d).take (k + 1)) = val (l.take k) + 4294967296 ^ k * d := by
  rw [take_set_succ h, val_append, List.length_take, Nat.min_eq_left (by omega)]; simp [val]
theorem Dig.set {l : List Nat} (h : Dig l) (k : Nat) {d : Nat} (hd : d < 4294967296) : Dig (l.set k d) := fun x hx => by
  rcases List.mem_or_eq_of_mem_set hx with h1 | h1
  · exact h x h1
  · rw [h1]; exact hd
theorem Dig.zeros (n : Nat) : Dig (List.replicate n 0) := fun d hd => by rw [(List.mem_replicate.1 hd).2]; omega
theorem carry_step (P c x y T A B : Nat) (h : T + P * c = A + B) : T + P * ((c + x + y) % 4294967296) + P * 4294967296 * ((c + x + y) / 4294967296) = A + P * x + (B + P * y) := by
  have e : (c + x + y) % 4294967296 + 4294967296 * ((c + x + y) / 4294967296) = c + x + y := by omega
  have e2 : P * ((c + x + y) % 4294967296) + P * 4294967296 * ((c + x + y) / 4294967296) = P * c + P * x + P * y := by
    rw [Nat.mul_assoc, ← Nat.mul_add, e, Nat.mul_add, Nat.mul_add]
  omega
theorem castm (s : Nat) : ((s % 4294967296 : Nat) : Int) = (s : Int) % 4294967296 := by omega
theorem castd (s : Nat) : ((s / 4294967296 : Nat) : Int) = (s : Int) / 4294967296 := by omega
theorem castm3 (x y z : Nat) : (((x + y + z) % 4294967296 : Nat) : Int) = ((x : Int) + y + z) % 4294967296 := by omega
theorem castd3 (x y z : Nat) : (((x + y + z) / 4294967296 : Nat) : Int) = ((x : Int) + y + z) / 4294967296 := by omega
def PlusAt (a b os : List Nat) (k c : Nat) : Prop := os.length = a.length + 1 ∧ Dig os ∧ c ≤ 1 ∧ val (os.take k) + 4294967296 ^ k * c = val (a.take k) + val (b.take k)
theorem PlusAt.step {a b os : List Nat} {k c : Nat} (h : PlusAt a b os k c) (ha : Dig a) (hb : Dig b) (hk : k < a.length) :
    PlusAt a b (os.set k ((c + nthd a k + nthd b k) % 4294967296)) (k + 1) ((c + nthd a k + nthd b k) / 4294967296) := by
  obtain ⟨h1, h2, h3, h4⟩ := h
  have x := ha.nth k; have y := hb.nth k
  refine ⟨by simpa using h1, h2.set _ (Nat.mod_lt _ (by omega)), by omega, ?_⟩
  rw [val_set_succ (by omega), val_take_succ, val_take_succ, Nat.pow_succ]
  exact carry_step _ _ _ _ _ _ _ h4
theorem PlusAt.done {a b os : List Nat} {c : Nat} (h : PlusAt a b os a.length c) (hl : b.length ≤ a.length) : trimL (os.set a.length c) = digits (val a + val b) := by
  obtain ⟨h1, h2, h3, h4⟩ := h
  rw [trimL_digits (h2.set _ (by omega))]
  congr 1
  have := val_set_succ (l := os) (k := a.length) (by omega) c
  rw [List.take_of_length_le (by simp; omega)] at this
  rw [this, h4, List.take_length, List.take_of_length_le hl]
set_option maxRecDepth 100000 in
set_option maxHeartbeats 2000000 in
theorem plus_loop (A B : Option Addr) (ca cb : Nat) (a b : List Nat) (w : World) (hl : b.length ≤ a.length) (ha : Dig a) (hb : Dig b) (hm : a.length ≤ 100000000) (hA : Wds w A a) (hB : Wds w B b) :
    Calls Tryz.prog 207 #[.slice A a.length ca, .slice B b.length cb] w fun e w' => ∃ v, e = .returned v ∧ WSl w' v (val a + val b) ∧ Below w.heap.size w w' := by
  have hmk := fun w => run_makeU32 w (a.length + 1) (by omega)
  have ec : ((a.length + 1 : Nat) : Int) = (a.length : Int) + 1 := by push_cast; rfl
  rw [ec] at hmk
  clear ec
  have hge : decide ((a.length : Int) < b.length) = false := decide_eq_false (by omega)
  go_enter Tryz.func207, Tryz.ntmps207
  go_wp2
  go_loopw [6, 7, 21] (fun c _ i wr => ∃ (k cn : Nat) (os : List Nat), k ≤ a.length ∧ i = .int .i64 k ∧ c = .int .u64 cn ∧ UBlk wr w.heap.size os ∧ PlusAt a b os k cn ∧ Below w.heap.size w wr) (fun _ _ i _ => a.length - (intOf i).toNat)
  case atStart => exact ⟨0, 0, List.replicate (a.length + 1) 0, Nat.zero_le _, rfl, rfl, UBlk.made _ _ _ rfl, ⟨by simp, Dig.zeros _, by omega, by simp [val]⟩, (Below.refl _ _).alloc (Nat.le_refl _) _⟩
  case round =>
    obtain ⟨k, cn, os, hk, rfl, rfl, hos, hp, hbe⟩ := hrel
    obtain ⟨p1, p2, p3, p4⟩ := id hp
    have hP := Lib.hid hp; have P1 := Lib.hid p1
    clear hp p1 p4
    by_cases hlt : k < a.length
    · obtain ⟨bA, oA, rfl, gA⟩ := (hA.ext hbe) k hlt
      have xa := ha.nth k
      have c1 := hos.cell k (by have := P1.out; omega)
      have f1 := Blk.free hos k
      by_cases hlb : k < b.length
      · obtain ⟨bB, oB, rfl, gB⟩ := (hB.ext hbe) k hlb
        have xb := hb.nth k
        have hP2 := PlusAt.step hP.out ha hb hlt
        have e1 : (((cn + nthd a k + nthd b k) % 4294967296 : Nat) : Int) = ((cn : Int) + nthd a k + nthd b k) % 4294967296 := castm3 _ _ _
        have e2 : (((cn + nthd a k + nthd b k) / 4294967296 : Nat) : Int) = ((cn : Int) + nthd a k + nthd b k) / 4294967296 := castd3 _ _ _
        have HP2 := Lib.hid hP2; have E1 := Lib.hid e1; have E2 := Lib.hid e2
        clear hP2 e1 e2
        go_wp2
        go_roundw
        case rel => exact ⟨k + 1, _, _, by omega, by go_num, by rw [← E2.out], by rw [← E1.out]; exact hos.set k _, HP2.out, hbe.setCell (by dsimp only; omega) _⟩
        case measure => simp [intOf]; omega
      · have hlb' : decide ((k : Int) < b.length) = false := decide_eq_false (by omega)
        have hP2 := PlusAt.step hP.out ha hb hlt
        rw [nthd_out (l := b) (by omega), Nat.add_zero] at hP2
        have e1 : (((cn + nthd a k) % 4294967296 : Nat) : Int) = ((cn : Int) + nthd a k) % 4294967296 := by omega
        have e2 : (((cn + nthd a k) / 4294967296 : Nat) : Int) = ((cn : Int) + nthd a k) / 4294967296 := by omega
        have HP2 := Lib.hid hP2; have E1 := Lib.hid e1; have E2 := Lib.hid e2
        clear hP2 e1 e2
        go_wp2
        go_roundw
        case rel => exact ⟨k + 1, _, _, by omega, by go_num, by rw [← E2.out], by rw [← E1.out]; exact hos.set k _, HP2.out, hbe.setCell (by dsimp only; omega) _⟩
        case measure => simp [intOf]; omega
    · obtain rfl : k = a.length := by omega
      have c1 := hos.cell a.length (by have := P1.out; omega)
      have f1 := Blk.free hos a.length
      have hd := PlusAt.done hP.out hl
      have HD := Lib.hid hd
      have hcm : (cn : Int) % 4294967296 = cn := by omega
      have hsz := hbe.size
      clear hd
      have htr : ∀ w2, UBlk w2 w.heap.size (os.set a.length cn) → _ := fun w2 h => trim_calls (some ⟨w.heap.size, 0, none⟩) (a.length + 1) (os.set a.length cn) w2 (by simp; have := P1.out; omega) (by unfold maxLen; omega) h.wds
      rw [List.length_set, P1.out] at htr
      have HT := Lib.hid htr
      clear htr
      go_wp2_with fail
      refine (HT.out _ (hos.set a.length cn)).mono ?_; rintro e w3 ⟨n, rfl, hn, ht, rfl⟩
      have hfin := ((hos.set a.length cn).wds).take n
      rw [ht, HD.out] at hfin
      have hnl : n = (digits (val a + val b)).length := by
        rw [← HD.out, ← ht, List.length_take]; simp; have := P1.out; omega
      have HN := Lib.hid hnl
      clear hnl
      go_wp2
      go_ret
      exact ⟨_, rfl, ⟨_, a.length + 1, by rw [← HN.out]; rfl, by rw [← HN.out]; have := P1.out; omega, by omega, hfin⟩, hbe.setCell (by dsimp only; omega) _⟩
end Go.Proofs.YtkljafmdbajfeaaGreatDoor

/- Package big: minus on digits; plus of any two. -/
namespace Go.Proofs.YtkljafmdbajfeaaGreatDoor
open Go.RowKit
set_option linter.unusedVariables false
set_option linter.unusedSimpArgs false
def MinAt (a b os : List Nat) (k c : Nat) : Prop := os.length = a.length ∧ Dig os ∧ c ≤ 1 ∧ val (os.take k) + val (b.take k) = val (a.take k) + 4294967296 ^ k * c
def mdig (x y c : Nat) : Nat := (x + 4294967296 * (if x < y + c then 1 else 0)) - (y + c)
def mbor (x y c : Nat) : Nat := if x < y + c then 1 else 0
theorem MinAt.step {a b os : List Nat} {k c : Nat} (h : MinAt a b os k c) (ha : Dig a) (hb : Dig b) (hk : k < a.length) :
    MinAt a b (os.set k (mdig (nthd a k) (nthd b k) c)) (k + 1) (mbor (nthd a k) (nthd b k) c) := by
  obtain ⟨h1, h2, h3, h4⟩ := h
  have x := ha.nth k; have y := hb.nth k
  have e : mdig (nthd a k) (nthd b k) c + nthd b k + c = nthd a k + 4294967296 * mbor (nthd a k) (nthd b k) c := by
    unfold mdig mbor; split <;> omega
  refine ⟨by simpa using h1, h2.set _ (by unfold mdig; split <;> omega), by unfold mbor; split <;> omega, ?_⟩
  rw [val_set_succ (by omega), val_take_succ, val_take_succ, Nat.pow_succ]
  generalize 4294967296 ^ k = P at *
  generalize mdig (nthd a k) (nthd b k) c = d at *
  generalize mbor (nthd a k) (nthd b k) c = r at *
  have e2 : P * d + P * nthd b k + P * c = P * nthd a k + P * 4294967296 * r := by
    rw [← Nat.mul_add, ← Nat.mul_add, e, Nat.mul_add, Nat.mul_assoc]
  omega
theorem MinAt.done {a b os : List Nat} {c : Nat} (h : MinAt a b os a.length c) (ha : Dig a) (hl : b.length ≤ a.length) (hv : val b ≤ val a) : trimL os = digits (val a - val b) := by
  obtain ⟨h1, h2, h3, h4⟩ := h
  rw [trimL_digits h2]
  rw [List.take_length, List.take_of_length_le hl, ← h1, List.take_length, h1] at h4
  have hlt := val_lt h2
  rw [h1] at hlt
  have hc : c = 0 := by
    rcases Nat.lt_or_ge 0 c with h | h
    · have : c = 1 := by omega
      subst this; omega
    · omega
  subst hc
  congr 1; omega
theorem mbor_w {x y c : Nat} (hx : x < 4294967296) (hy : y < 4294967296) (hc : c ≤ 1) : IntKind.u64.wrap (IntKind.u64.wrap ((x : Int) - c) - y) / 9223372036854775808 = ((mbor x y c : Nat) : Int) := by
  rw [IntKind.wrap_u64, IntKind.wrap_u64]; unfold mbor; split <;> omega
theorem mdig_w {x y c : Nat} (hx : x < 4294967296) (hy : y < 4294967296) (hc : c ≤ 1) : IntKind.u64.wrap (IntKind.u64.wrap ((x : Int) - c) - y) % 4294967296 = ((mdig x y c : Nat) : Int) := by
  rw [IntKind.wrap_u64, IntKind.wrap_u64]; unfold mdig; split <;> omega
theorem mbor_z {x c : Nat} (hx : x < 4294967296) (hc : c ≤ 1) : IntKind.u64.wrap ((x : Int) - c) / 9223372036854775808 = ((mbor x 0 c : Nat) : Int) := by
  rw [IntKind.wrap_u64]; unfold mbor; split <;> omega
theorem mdig_z {x c : Nat} (hx : x < 4294967296) (hc : c ≤ 1) : IntKind.u64.wrap ((x : Int) - c) % 4294967296 = ((mdig x 0 c : Nat) : Int) := by
  rw [IntKind.wrap_u64]; unfold mdig; split <;> omega
set_option maxRecDepth 100000 in
set_option maxHeartbeats 2000000 in
theorem minus_calls (A B : Option Addr) (ca cb : Nat) (a b : List Nat) (w : World) (hl : b.length ≤ a.length) (hv : val b ≤ val a) (ha : Dig a) (hb : Dig b) (hm : a.length ≤ 100000000) (hA : Wds w A a) (hB : Wds w B b) :
    Calls Tryz.prog 209 #[.slice A a.length ca, .slice B b.length cb] w fun e w' => ∃ v, e = .returned v ∧ WSl w' v (val a - val b) ∧ Below w.heap.size w w' := by
  have hmk := fun w => run_makeU32 w a.length (by omega)
  go_enter Tryz.func209, Tryz.ntmps209
  go_wp2
  go_loopw [6, 7, 8, 14] (fun c _ _ i wr => ∃ (k cn : Nat) (os : List Nat), k ≤ a.length ∧ i = .int .i64 k ∧ c = .int .u64 cn ∧ UBlk wr w.heap.size os ∧ MinAt a b os k cn ∧ Below w.heap.size w wr) (fun _ _ _ i _ => a.length - (intOf i).toNat)
  case atStart => exact ⟨0, 0, List.replicate a.length 0, Nat.zero_le _, rfl, rfl, UBlk.made _ _ _ rfl, ⟨by simp, Dig.zeros _, by omega, by simp [val]⟩, (Below.refl _ _).alloc (Nat.le_refl _) _⟩
  case round =>
    obtain ⟨k, cn, os, hk, rfl, rfl, hos, hp, hbe⟩ := hrel
    obtain ⟨p1, p2, p3, p4⟩ := id hp
    have hP := Lib.hid hp; have P1 := Lib.hid p1
    clear hp p1 p4
    by_cases hlt : k < a.length
    · obtain ⟨bA, oA, rfl, gA⟩ := (hA.ext hbe) k hlt
      have xa := ha.nth k
      have c1 := hos.cell k (by have := P1.out; omega)
      have f1 := Blk.free hos k
      by_cases hlb : k < b.length
      · obtain ⟨bB, oB, rfl, gB⟩ := (hB.ext hbe) k hlb
        have xb := hb.nth k
        have hP2 := MinAt.step hP.out ha hb hlt
        have HP2 := Lib.hid hP2
        clear hP2
        go_wp2
        go_roundw
        case rel =>
          refine ⟨k + 1, mbor (nthd a k) (nthd b k) cn, _, by omega, by go_num, ?_, ?_, HP2.out, ?_⟩
          · rw [mbor_w xa xb p3]
          · rw [mdig_w xa xb p3]; exact hos.set k _
          · exact hbe.setCell (by dsimp only; omega) _
        case measure => simp [intOf]; omega
      · have hlb' : decide ((k : Int) < b.length) = false := decide_eq_false (by omega)
        have hP2 := MinAt.step hP.out ha hb hlt
        rw [nthd_out (l := b) (by omega)] at hP2
        have HP2 := Lib.hid hP2
        clear hP2
        go_wp2
        go_roundw
        case rel =>
          refine ⟨k + 1, mbor (nthd a k) 0 cn, _, by omega, by go_num, ?_, ?_, HP2.out, ?_⟩
          · rw [mbor_z xa p3]
          · rw [mdig_z xa p3]; exact hos.set k _
          · exact hbe.setCell (by dsimp only; omega) _
        case measure => simp [intOf]; omega
    · obtain rfl : k = a.length := by omega
      have hd := MinAt.done hP.out ha hl hv
      have HD := Lib.hid hd
      clear hd
      have htr := trim_calls (some ⟨w.heap.size, 0, none⟩) a.length os wr (by have := P1.out; omega) (by unfold maxLen; omega) hos.wds
      rw [P1.out] at htr
      have HT := Lib.hid htr
      clear htr
      go_wp2_with fail
      refine (HT.out).mono ?_; rintro e w3 ⟨n, rfl, hn, ht, rfl⟩
      have hfin := (hos.wds).take n
      rw [ht, HD.out] at hfin
      have hnl : n = (digits (val a - val b)).length := by
        rw [← HD.out, ← ht, List.length_take]; have := P1.out; omega
      have HN := Lib.hid hnl
      clear hnl
      go_wp2
      go_ret
      exact ⟨_, rfl, ⟨_, a.length, by rw [← HN.out]; rfl, by rw [← HN.out]; have := P1.out; omega, by omega, hfin⟩, hbe⟩
end Go.Proofs.YtkljafmdbajfeaaGreatDoor
