/- The sums of products: linear.dot, branch.dot, tinplateref02.dot; no sum overflows where the products are small. -/
import Derived.Test.YtkljafmdbajfeaaGreatDoorReA00
import Derived.Test.YtkljafmdbajfeaaGreatDoorReA03
namespace Go.Proofs.YtkljafmdbajfeaaGreatDoor
open Go.RowKit
def dotN (xs ys : List Int) : Nat → Int
 | 0 => 0
 | k + 1 => dotN xs ys k + nth xs k * nth ys k
def dotZ (xs ys : List Int) : Int := dotN xs ys xs.length
def Small (xs ys : List Int) : Prop := ∃ M : Int, xs.length * M ≤ 9000000000000000000 ∧ ∀ i, i < xs.length → -M ≤ nth xs i * nth ys i ∧ nth xs i * nth ys i ≤ M
theorem dotN_bound {xs ys : List Int} {M : Int} (h : ∀ i, i < xs.length → -M ≤ nth xs i * nth ys i ∧ nth xs i * nth ys i ≤ M) : ∀ k, k ≤ xs.length → -(k * M) ≤ dotN xs ys k ∧ dotN xs ys k ≤ k * M
 | 0, _ => by simp [dotN]
 | k + 1, hk => by
   have ih := dotN_bound h k (by omega)
   have h1 := h k (by omega)
   have e : ((k + 1 : Nat) : Int) * M = k * M + M := by push_cast; rw [Int.add_mul, Int.one_mul]
   rw [e]; simp only [dotN]; omega
theorem Small.round {xs ys : List Int} (h : Small xs ys) {k : Nat} (hk : k < xs.length) : -9000000000000000000 ≤ nth xs k * nth ys k ∧ nth xs k * nth ys k ≤ 9000000000000000000 ∧ -9000000000000000000 ≤ dotN xs ys k + nth xs k * nth ys k ∧ dotN xs ys k + nth xs k * nth ys k ≤ 9000000000000000000 := by
 obtain ⟨M, hM, h⟩ := h
 have h1 := h k hk
 have h2 := dotN_bound h (k + 1) (by omega)
 have h0 : 0 ≤ M := by omega
 have h3 : ((k + 1 : Nat) : Int) * M ≤ xs.length * M := Int.mul_le_mul_of_nonneg_right (by omega) h0
 have h4 : (1 : Int) * M ≤ xs.length * M := Int.mul_le_mul_of_nonneg_right (by omega) h0
 simp only [dotN] at h2
 omega
theorem dotZ_bd {xs ys : List Int} (h : Small xs ys) : -9000000000000000000 ≤ dotZ xs ys ∧ dotZ xs ys ≤ 9000000000000000000 := by
 obtain ⟨M, hM, h⟩ := h
 have := dotN_bound h xs.length (Nat.le_refl _)
 unfold dotZ; omega
set_option maxHeartbeats 400000 in
theorem linDot_calls (A B : Option Addr) (ca cb : Nat) (xs ys : List Int) (w : World) (hl : xs.length ≤ ys.length) (hm : xs.length ≤ maxLen) (hA : Ints w A xs) (hB : Ints w B ys) (hs : Small xs ys) :
  Calls Tryz.prog 100 #[.slice A xs.length ca, .slice B ys.length cb] w fun e w' => e = .returned (.int .i64 (dotZ xs ys)) ∧ ∃ n, w' = w.drewN n := by
 unfold maxLen at hm
 go_enter Tryz.func100, Tryz.ntmps100
 go_wp2
 go_loopw [5, 9] (fun s i wr => ∃ (k n : Nat), k ≤ xs.length ∧ i = .int .i64 k ∧ s = .int .i64 (dotN xs ys k) ∧ wr = w.drewN n) (fun _ i _ => xs.length - (intOf i).toNat)
 case atStart => exact ⟨0, 0, Nat.zero_le _, rfl, rfl, rfl⟩
 case round =>
  obtain ⟨k, n, hk, rfl, rfl, rfl⟩ := hrel
  by_cases hlt : k < xs.length
  ·obtain ⟨b1, o1, rfl, g1⟩ := hA k hlt
   obtain ⟨b2, o2, rfl, g2⟩ := hB k (by omega)
   obtain ⟨r1, r2, r3, r4⟩ := hs.round hlt
   have hlt2 : k < ys.length := by omega
   go_wp2
   go_quiet (fail)
   go_wp2
   go_roundw
   case rel => exact ⟨k + 1, _, by omega, by go_num, rfl, rfl⟩
   case measure => simp [intOf]; omega
  ·obtain rfl : k = xs.length := by omega
   go_wp2
   go_ret
   exact ⟨rfl, _, rfl⟩
set_option maxHeartbeats 400000 in
theorem brDot_calls (A B : Option Addr) (ca cb : Nat) (xs ys : List Int) (w : World) (hl : xs.length ≤ ys.length) (hm : xs.length ≤ maxLen) (hA : Ints w A xs) (hB : Ints w B ys) (hs : Small xs ys) :
  Calls Tryz.prog 193 #[.slice A xs.length ca, .slice B ys.length cb] w fun e w' => e = .returned (.int .i64 (dotZ xs ys)) ∧ ∃ n, w' = w.drewN n := by
 unfold maxLen at hm
 go_enter Tryz.func193, Tryz.ntmps193
 go_wp2
 go_loopw [5, 9] (fun s i wr => ∃ (k n : Nat), k ≤ xs.length ∧ i = .int .i64 k ∧ s = .int .i64 (dotN xs ys k) ∧ wr = w.drewN n) (fun _ i _ => xs.length - (intOf i).toNat)
 case atStart => exact ⟨0, 0, Nat.zero_le _, rfl, rfl, rfl⟩
 case round =>
  obtain ⟨k, n, hk, rfl, rfl, rfl⟩ := hrel
  by_cases hlt : k < xs.length
  ·obtain ⟨b1, o1, rfl, g1⟩ := hA k hlt
   obtain ⟨b2, o2, rfl, g2⟩ := hB k (by omega)
   obtain ⟨r1, r2, r3, r4⟩ := hs.round hlt
   have hlt2 : k < ys.length := by omega
   go_wp2
   go_quiet (fail)
   go_wp2
   go_roundw
   case rel => exact ⟨k + 1, _, by omega, by go_num, rfl, rfl⟩
   case measure => simp [intOf]; omega
  ·obtain rfl : k = xs.length := by omega
   go_wp2
   go_ret
   exact ⟨rfl, _, rfl⟩
theorem brDot_at (A B : Option Addr) (nx ny ca cb : Nat) (xs ys : List Int) (w : World) (n : Nat) (hx : xs.length = nx) (hy : ys.length = ny) (hl : xs.length ≤ ys.length) (hm : xs.length ≤ maxLen) (hA : Ints w A xs) (hB : Ints w B ys) (hs : Small xs ys) :
  Calls Tryz.prog 193 #[.slice A nx ca, .slice B ny cb] (w.drewN n) fun e w' => e = .returned (.int .i64 (dotZ xs ys)) ∧ ∃ m, w' = w.drewN m := by
 subst hx; subst hy
 exact Calls.quiet_of (brDot_calls A B ca cb xs ys (w.drewN n) hl hm (hA.ext (drewN_below _ _)) (hB.ext (drewN_below _ _)) hs)
theorem brDot_in (A B : Option Addr) (nx ny ca cb : Nat) (xs ys : List Int) (w : World) (n m : Nat) (hx : xs.length = nx) (hy : ys.length = ny) (hl : xs.length ≤ ys.length) (hm : xs.length ≤ maxLen) (hA : Ints w A xs) (hB : Ints w B ys) (hs : Small xs ys) :
  Calls Tryz.prog 193 #[.slice A nx ca, .slice B ny cb] (w.drewN (n + m)) fun e w' => e = .returned (.int .i64 (dotZ xs ys)) ∧ ∃ m, w' = w.drewN (n + m) := by
 have h := brDot_at A B nx ny ca cb xs ys (w.drewN n) m hx hy hl hm (hA.ext (drewN_below _ _)) (hB.ext (drewN_below _ _)) hs
 rw [drewN_add] at h
 exact h.mono fun e w' ⟨he, k, hk⟩ => ⟨he, k, by rw [hk, drewN_add]⟩
end Go.Proofs.YtkljafmdbajfeaaGreatDoor

/- linear.lowest: a point in lowest terms. -/
namespace Go.Proofs.YtkljafmdbajfeaaGreatDoor
open Go.RowKit
def gcdN (d : Int) (xs : List Int) : Nat → Nat
 | 0 => d.natAbs
 | k + 1 => Nat.gcd (gcdN d xs k) (nth xs k).natAbs
theorem gcdN_pos {d : Int} (h : 1 ≤ d) (xs : List Int) : ∀ k, 1 ≤ gcdN d xs k
 | 0 => by simp [gcdN]; omega
 | k + 1 => Nat.gcd_pos_of_pos_left _ (gcdN_pos h xs k)
theorem gcdN_le {d : Int} (h : 1 ≤ d) (xs : List Int) : ∀ k, gcdN d xs k ≤ d.natAbs
 | 0 => Nat.le_refl _
 | k + 1 => Nat.le_trans (Nat.gcd_le_left _ (gcdN_pos h xs k)) (gcdN_le h xs k)
def divK (g : Int) (xs : List Int) (k : Nat) : List Int := (xs.take k).map (fun x => x.tdiv g) ++ xs.drop k
theorem divK_len (g : Int) (xs : List Int) (k : Nat) (hk : k ≤ xs.length) : (divK g xs k).length = xs.length := by simp [divK]; omega
theorem divK_nth (g : Int) (xs : List Int) (k : Nat) (hk : k < xs.length) : nth (divK g xs k) k = nth xs k := by
 rw [nth_lt (by rw [divK_len _ _ _ (by omega)]; exact hk), nth_lt hk]
 unfold divK
 rw [List.getElem_append_right (by simp; omega)]; simp [Nat.min_eq_left (Nat.le_of_lt hk)]
theorem divK_set (g : Int) (xs : List Int) (k : Nat) (hk : k < xs.length) : (divK g xs k).set k ((nth xs k).tdiv g) = divK g xs (k + 1) := by
 unfold divK
 have e : k - (List.map (fun x => x.tdiv g) (List.take k xs)).length = 0 := by simp; omega
 rw [List.set_append_right _ _ (by simp; omega), e, take_nth hk, List.drop_eq_getElem_cons hk]
 simp only [List.set_cons_zero, List.map_append, List.map_cons, List.map_nil, List.append_assoc, List.singleton_append]
theorem divK_all (g : Int) (xs : List Int) : divK g xs xs.length = xs.map (fun x => x.tdiv g) := by simp [divK]
theorem tdiv_bd (x g : Int) (h : -9000000000000000000 ≤ x ∧ x ≤ 9000000000000000000) : -9000000000000000000 ≤ x.tdiv g ∧ x.tdiv g ≤ 9000000000000000000 := by
 have := Int.natAbs_tdiv_le_natAbs x g
 omega
set_option maxHeartbeats 1000000 in
theorem lowest_calls (b c : Nat) (xs : List Int) (d : Int) (w : World) (hx : ∀ i, i < xs.length → -9000000000000000000 ≤ nth xs i ∧ nth xs i ≤ 9000000000000000000) (hd : 1 ≤ d) (hd2 : d ≤ 9000000000000000000) (hm : xs.length ≤ 1000) (hI : IBlk w b xs) :
  Calls Tryz.prog 101 #[.slice (some ⟨b, 0, none⟩) xs.length c, .int .i64 d] w fun e w' => e = .returned (.agg #[.slice (some ⟨b, 0, none⟩) xs.length c, .int .i64 (d.tdiv (gcdN d xs xs.length))]) ∧ IBlk w' b (xs.map (fun x => x.tdiv (gcdN d xs xs.length))) ∧ But b w w' := by
 have hG1 := gcdN_pos hd xs xs.length
 have hG2 := gcdN_le hd xs xs.length
 obtain ⟨G, HG⟩ : ∃ G : Nat, Hid (gcdN d xs xs.length = G) := ⟨_, rfl⟩
 rw [HG.out] at hG1 hG2 ⊢
 have hG3 : (G : Int) ≤ d := by omega
 clear hG2
 go_enter Tryz.func101, Tryz.ntmps101
 go_wp2
 go_loopw [5, 7, 12] (fun g _ i wr => ∃ (k n : Nat) (gv : Int), k ≤ xs.length ∧ i = .int .i64 k ∧ g = .int .i64 gv ∧ gv.natAbs = gcdN d xs k ∧ -9000000000000000000 ≤ gv ∧ gv ≤ 9000000000000000000 ∧ wr = (w.alloc (.cells #[.slice none 0 0, .int .i64 0] 29)).drewN n) (fun _ _ i _ => xs.length - (intOf i).toNat)
 case atStart => exact ⟨0, 0, d, Nat.zero_le _, rfl, rfl, rfl, by omega, by omega, rfl⟩
 case round =>
  obtain ⟨k, n, gv, hk, rfl, rfl, hg, hg1, hg2, rfl⟩ := hrel
  by_cases hlt : k < xs.length
  ·have c1 := hI.cell k hlt
   obtain ⟨x1, x2⟩ := hx k hlt
   have hbl := Blk.lt hI
   have HG := Lib.hid hg; clear hg
   go_wp2
   obtain ⟨wo, hwo⟩ : ∃ wo : World, wo = ((w.alloc (.cells #[.slice none 0 0, .int .i64 0] 29)).drewN n) := ⟨_, rfl⟩
   go_loopw [5, 7] (fun g nn wr => ∃ (m : Nat) (gv nv : Int), g = .int .i64 gv ∧ nn = .int .i64 nv ∧ Nat.gcd gv.natAbs nv.natAbs = gcdN d xs (k + 1) ∧ -9000000000000000000 ≤ gv ∧ gv ≤ 9000000000000000000 ∧ -9000000000000000000 ≤ nv ∧ nv ≤ 9000000000000000000 ∧ wr = (w.alloc (.cells #[.slice none 0 0, .int .i64 0] 29)).drewN m) (fun _ nn _ => (intOf nn).natAbs)
   case atStart => exact ⟨_, gv, nth xs k, rfl, rfl, by rw [HG.out]; rfl, hg1, hg2, x1, x2, rfl⟩
   case round =>
    obtain ⟨m, gv, nv, rfl, rfl, hgg, y1, y2, y3, y4, rfl⟩ := hrel
    have HGG := Lib.hid hgg; clear hgg
    by_cases h0 : nv = 0
    ·subst h0
     go_wp2
     go_roundw
     case rel => exact ⟨k + 1, _, gv, by omega, by go_num, rfl, by rw [← HGG.out]; simp, y1, y2, rfl⟩
     case measure => simp [intOf]; omega
    ·have h1 : (nv != 0) = true := by simp [h0]
     have h2 : (nv == 0) = false := by simp [h0]
     have t1 : (gv.tmod nv).natAbs < nv.natAbs := by rw [Int.natAbs_tmod]; exact Nat.mod_lt _ (by omega)
     have HT := Lib.hid t1; clear t1
     go_wp2
     go_quiet (fail)
     go_wp2
     go_roundw
     case rel => exact ⟨_, nv, gv.tmod nv, rfl, rfl, by rw [← HGG.out, Int.natAbs_tmod]; rw [Nat.gcd_comm nv.natAbs, ← Nat.gcd_rec, Nat.gcd_comm], y3, y4, by have := HT.out; omega, by have := HT.out; omega, drewN_add _ _ _⟩
     case measure => have := HT.out; simpa [intOf] using this
  ·obtain rfl : k = xs.length := by omega
   have hbl := Blk.lt hI
   rw [HG.out] at hg
   have hGc : gv = (G : Int) ∨ gv = -(G : Int) := by omega
   clear hg hg1 hg2 hlt hk HG
   rcases hGc with rfl | rfl
   all_goals
    go_wp2
    go_loopw [8, 29] (fun _ i wr => ∃ (k : Nat), k ≤ xs.length ∧ i = .int .i64 k ∧ IBlk wr b (divK G xs k) ∧ But b w wr ∧ Blk wr w.heap.size [.slice none 0 0, .int .i64 0] 29) (fun _ i _ => xs.length - (intOf i).toNat)
    case atStart => exact ⟨0, Nat.zero_le _, rfl, (hI.alloc _).drewN n, ((But.refl _ _).alloc _).ext (drewN_below _ _), (Blk.new _ _ _).drewN n⟩
    case round =>
     obtain ⟨k, hk, rfl, hB, hbut, hQ⟩ := hrel
     by_cases hlt : k < xs.length
     ·have c1 := hB.cell k (by rw [divK_len _ _ _ hk]; exact hlt)
      have e1 := divK_nth G xs k hlt
      rw [e1] at c1
      have f1 := Blk.free hB k
      obtain ⟨t1, t2⟩ := tdiv_bd _ G (hx k hlt)
      clear e1
      go_wp2
      go_roundw
      case rel => exact ⟨k + 1, by omega, by go_num, by rw [← divK_set _ _ _ hlt]; exact hB.set k _, hbut.set _ _, hQ.other _ _ (by simp; omega)⟩
      case measure => simp [intOf]; omega
     ·obtain rfl : k = xs.length := by omega
      have q0 := hQ.cell 0 (by simp)
      have q1 := hQ.cell 1 (by simp)
      have f0 := hQ.free 0
      have f1 := hQ.free 1
      obtain ⟨t1, t2⟩ := tdiv_bd d G (by omega)
      simp only [List.getElem_cons_zero, List.getElem_cons_succ] at q0 q1
      go_wp2
      rw [divK_all] at hB
      (try simp only [Exit.inBlock, Exit.then])
      refine bodyPost_ret (v := .agg #[.slice (some ⟨b, 0, none⟩) xs.length c, .int .i64 (d.tdiv G)]) (by simp [results, Tryz.results101, go_sem, q0, q1]) rfl ⟨rfl, ?_, ?_⟩
      ·exact Blk.other (Blk.other hB _ _ (by simp; omega)) _ _ (by simp; omega)
      ·exact (hbut.setNew (by simp) _).setNew (by simp) _
end Go.Proofs.YtkljafmdbajfeaaGreatDoor

/- linear.proper and linear.Value: what they answer. -/
namespace Go.Proofs.YtkljafmdbajfeaaGreatDoor
open Go.RowKit
def pointOk (n : Nat) (xs : List Int) (d : Int) : Bool := decide (xs.length = n) && decide (1 ≤ d) && decide (d ≤ 1125899906842624) && listOk 1125899906842624 xs
set_option maxHeartbeats 400000 in
theorem proper_calls (A : Option Addr) (c : Nat) (xs : List Int) (d : Int) (n : Nat) (w : World) (hm : xs.length ≤ maxLen) (hn : n ≤ maxLen) (hA : Ints w A xs) :
  Calls Tryz.prog 97 #[.agg #[.slice A xs.length c, .int .i64 d], .int .i64 n] w fun e w' => e = .returned (.bool (pointOk n xs d)) ∧ Below w.heap.size w w' := by
 have hn' := hn; unfold maxLen at hn'
 have hm' := hm; unfold maxLen at hm'
 have hb0 : ∀ o, Below w.heap.size w (w.alloc o) := fun o => (Below.refl _ _).alloc (Nat.le_refl _) _
 by_cases h1 : xs.length = n
 ·have d1 : ((xs.length : Int) == (n : Int)) = true := by simp [h1]
  have H1 := Lib.hid h1; clear h1
  by_cases h2 : 1 ≤ d
  ·by_cases h3 : d ≤ 1125899906842624
   ·go_enter Tryz.func97, Tryz.ntmps97
    go_wp2_with (go_at_call 88; refine (listed_calls _ _ xs 1125899906842624 _ hm (by omega) (by omega) (hA.ext (hb0 _))).mono ?_; rintro e w1 ⟨rfl, hb1⟩)
    go_ret
    exact ⟨by simp [pointOk, H1.out, h2, h3], ext_trans (hb0 _) hb1⟩
   ·have d3 : decide (d ≤ 1125899906842624) = false := decide_eq_false h3
    go_enter Tryz.func97, Tryz.ntmps97
    go_wp2
    go_ret
    exact ⟨by simp [pointOk, d3], hb0 _⟩
  ·have d2 : decide (1 ≤ d) = false := decide_eq_false h2
   go_enter Tryz.func97, Tryz.ntmps97
   go_wp2
   go_ret
   exact ⟨by simp [pointOk, d2], hb0 _⟩
 ·have d1 : ((xs.length : Int) == (n : Int)) = false := by simp; omega
  have H1 := Lib.hid h1; clear h1
  go_enter Tryz.func97, Tryz.ntmps97
  go_wp2
  go_ret
  exact ⟨by simp [pointOk, H1.out], hb0 _⟩
theorem inB_bd {m x : Int} (h : inB m x = true) : -m ≤ x ∧ x ≤ m := by unfold inB at h; simp at h; exact h
theorem listOk_nth {m : Int} {xs : List Int} (h : listOk m xs = true) {i : Nat} (hi : i < xs.length) : -m ≤ nth xs i ∧ nth xs i ≤ m := by
 unfold listOk at h; rw [List.all_eq_true] at h; exact inB_bd (h _ (nth_mem hi))
theorem mul_bd {a b x y : Int} (ha : 0 ≤ a) (hx : -a ≤ x ∧ x ≤ a) (hy : -b ≤ y ∧ y ≤ b) : -(a * b) ≤ x * y ∧ x * y ≤ a * b := by
 have e : (x * y).natAbs ≤ (a * b).natAbs := by
  rw [Int.natAbs_mul, Int.natAbs_mul]; exact Nat.mul_le_mul (by omega) (by omega)
 have h0 : 0 ≤ a * b := Int.mul_nonneg ha (by omega)
 omega
theorem small_of {xs ys : List Int} {a b : Int} {n : Nat} (h : listOk a xs = true) (k : listOk b ys = true) (ha : 0 ≤ a) (hb : 0 ≤ b) (hn : xs.length ≤ n) (hl : xs.length ≤ ys.length) (hM : n * (a * b) ≤ 9000000000000000000) : Small xs ys :=
 ⟨a * b, Int.le_trans (Int.mul_le_mul_of_nonneg_right (by omega) (Int.mul_nonneg ha hb)) hM, fun i hi => mul_bd ha (listOk_nth h hi) (listOk_nth k (by omega))⟩
theorem progOk_parts {a : List (List Int)} {b c : List Int} (h : progOk a b c = true) : (1 ≤ c.length ∧ c.length ≤ 6) ∧ a.length ≤ 6 ∧ (∀ r ∈ a, r.length = c.length ∧ listOk 30 r = true) ∧ b.length = a.length ∧ listOk 1000 b = true ∧ listOk 1000 c = true := by
 unfold progOk rowsOk rowOk at h; simp at h
 obtain ⟨⟨⟨⟨⟨⟨h1, h2⟩, h3⟩, h4⟩, h5⟩, h6⟩, h7⟩ := h
 exact ⟨⟨by omega, h2⟩, h3, fun r hr => h4 r hr, h5, h6, h7⟩
theorem pointOk_parts {n : Nat} {xs : List Int} {d : Int} (h : pointOk n xs d = true) : xs.length = n ∧ 1 ≤ d ∧ d ≤ 1125899906842624 ∧ listOk 1125899906842624 xs = true := by
 unfold pointOk at h; simp at h; obtain ⟨⟨⟨h1, h2⟩, h3⟩, h4⟩ := h; exact ⟨h1, h2, h3, h4⟩
def ValPost (w : World) (xs c : List Int) (d : Int) (e : Ending) (w' : World) : Prop :=
 ∃ b, e = .returned (.tuple #[.agg #[.slice (some ⟨b, 0, none⟩) 1 1, .int .i64 (d.tdiv (gcdN d [dotZ c xs] 1))], .int .i64 0]) ∧ w.heap.size ≤ b ∧ IBlk w' b [(dotZ c xs).tdiv (gcdN d [dotZ c xs] 1)] ∧ Below w.heap.size w w'
set_option maxHeartbeats 1000000 in
theorem value_ok (A B C X : Option Addr) (ca cb cc cx : Nat) (a : List (List Int)) (b c xs : List Int) (d : Int) (w : World) (h : Prog3 w A B C a b c) (hX : Ints w X xs) (hm : xs.length ≤ maxLen) (h1 : progOk a b c = true) (h2 : pointOk c.length xs d = true) :
  Calls Tryz.prog 41 #[.agg #[.slice A a.length ca, .slice B b.length cb, .slice C c.length cc], .agg #[.slice X xs.length cx, .int .i64 d]] w (ValPost w xs c d) := by
 have hlc := h.lc; unfold maxLen at hlc
 have hb0 : ∀ o, Below w.heap.size w (w.alloc o) := fun o => (Below.refl _ _).alloc (Nat.le_refl _) _
 have hb00 : ∀ o o' o'', Below w.heap.size w (((w.alloc o).alloc o').alloc o'') := fun o o' o'' => (((Below.refl _ _).alloc (Nat.le_refl _) _).alloc (by simp) _).alloc (by simp; omega) _
 go_enter Tryz.func41, Tryz.ntmps41
 go_wp2_with fail
 refine (valid_calls _ _ _ _ _ _ a b c _ (h.ext (hb00 _ _ _))).mono ?_; rw [h1]; rintro e w1 ⟨rfl, hb1⟩
 obtain ⟨hc1, hf1⟩ := bcell hb1
 have hx1 := ext_trans (hb00 _ _ _) hb1
 have hz1 := hb1.size
 simp at hz1
 go_wp2_with fail
 refine (proper_calls _ _ xs d c.length _ hm h.lc (hX.ext hx1)).mono ?_; rw [h2]; rintro e w2 ⟨rfl, hb2⟩
 obtain ⟨hc2, hf2⟩ := bcell hb2
 have hx2 := ext_trans hx1 hb2
 have hz2 := hb2.size
 have hz3 : w.heap.size + 1 < w1.heap.size := by omega
 have hz4 : w.heap.size + 2 < w1.heap.size := by omega
 have hz5 : w.heap.size < w1.heap.size := by omega
 have hx3 := hx2
 obtain ⟨pl, pd1, pd2, px⟩ := pointOk_parts h2
 obtain ⟨⟨pc1, pc2⟩, pa, pr, pbl, pb, pc⟩ := progOk_parts h1
 have hsm : Small c xs := small_of pc px (by omega) (by omega) pc2 (by omega) (by omega)
 have PL := Lib.hid pl
 have hle : c.length ≤ xs.length := by omega
 clear pl pr pbl pa h1 h2
 have hI1 := (h.ext hx2).gc
 have hI2 := hX.ext hx2
 have k1 : w2.cell? ⟨w.heap.size, 2, none⟩ = some (.slice C c.length cc) := by rw [hc2 _ _ hz5, hc1 _ _ (by simp; omega)]; go_simp
 have k2 : w2.cell? ⟨w.heap.size + 1, 0, none⟩ = some (.slice X xs.length cx) := by rw [hc2 _ _ hz3, hc1 _ _ (by simp)]; go_simp
 have k3 : w2.cell? ⟨w.heap.size + 1, 1, none⟩ = some (.int .i64 d) := by rw [hc2 _ _ hz3, hc1 _ _ (by simp)]; go_simp
 have k4 : w2.cell? ⟨w.heap.size + 1 + 1, 0, none⟩ = some (.slice none 0 0) := by rw [hc2 _ _ hz4, hc1 _ _ (by simp)]; go_simp
 have k5 : w2.cell? ⟨w.heap.size + 1 + 1, 1, none⟩ = some (.int .i64 0) := by rw [hc2 _ _ hz4, hc1 _ _ (by simp)]; go_simp
 have f4 : w2.frozen? ⟨w.heap.size + 1 + 1, 0, none⟩ = false := by rw [hf2 _ _ hz4, hf1 _ _ (by simp)]; go_simp
 have f5 : w2.frozen? ⟨w.heap.size + 1 + 1, 1, none⟩ = false := by rw [hf2 _ _ hz4, hf1 _ _ (by simp)]; go_simp
 clear hc1 hf1 hc2 hf2
 have y1 : w.heap.size < w2.heap.size := by omega
 have y2 : w.heap.size + 1 < w2.heap.size := by omega
 have y3 : w.heap.size + 1 + 1 < w2.heap.size := by omega
 clear hz1 hz2 hz3 hz4 hz5
 have hdz := dotZ_bd hsm
 go_wp2_with fail
 go_region_held3 (fun w' => w'.cell? ⟨w.heap.size, 2, none⟩ = some (.slice C c.length cc) ∧ w'.cell? ⟨w.heap.size + 1, 0, none⟩ = some (.slice X xs.length cx) ∧ w'.cell? ⟨w.heap.size + 1, 1, none⟩ = some (.int .i64 d))
  (first | (go_keep; done) | (refine ⟨?_, ?_, ?_⟩ <;> (rw [World.cell?_setCell_far _ _ _ _ (by dsimp only; omega), World.cell?_setCell_far _ _ _ _ (by dsimp only; omega)]; (first | rw [hc4 _ _ y1] | rw [hc4 _ _ y2]); assumption)))
  (first
    | (go_at_call 100; refine (linDot_calls _ _ _ _ c xs _ hle h.lc (hI1.ext (drewN_below _ 1)) (hI2.ext (drewN_below _ 1)) hsm).mono ?_; rintro e w3 ⟨rfl, n3, rfl⟩)
    | (go_at_call 101; refine (lowest_calls w2.heap.size 1 [dotZ c xs] d _ (fun i hi => by have : i = 0 := (by simp at hi; omega); subst this; exact hdz) pd1 (by omega) (by simp) (by exact IBlk.single _ _ _ rfl)).mono ?_; rintro e w4 ⟨rfl, hIB, hBut⟩; have hb4 : Below w2.heap.size w2 w4 := hBut.grown (by simp) ((drewN_below _ _).alloc (by simp) _); obtain ⟨hc4, hf4⟩ := bcell hb4))
 go_wp2
 try simp only [Exit.inBlock, Exit.then]
 have z4 : w4.cell? ⟨w.heap.size + 1 + 1, 0, none⟩ = some (.slice none 0 0) := by rw [hc4 _ _ y3]; exact k4
 have z5 : w4.cell? ⟨w.heap.size + 1 + 1, 1, none⟩ = some (.int .i64 0) := by rw [hc4 _ _ y3]; exact k5
 have hall : Below w.heap.size w w4 := hx2.trans (hb4.mono (by omega))
 refine bodyPost_ret (v := .tuple #[.agg #[.slice (some ⟨w2.heap.size, 0, none⟩) 1 1, .int .i64 (d.tdiv (gcdN d [dotZ c xs] 1))], .int .i64 0]) (by simp [results, Tryz.results41, go_sem, z4, z5]) rfl ⟨w2.heap.size, rfl, by omega, ?_, ?_⟩
 ·exact Blk.other (Blk.other hIB _ _ (by dsimp only; omega)) _ _ (by dsimp only; omega)
 ·exact (hall.setCell (by dsimp only; omega) _).setCell (by dsimp only; omega) _
set_option maxHeartbeats 400000 in
theorem value_bad (A B C X : Option Addr) (ca cb cc cx : Nat) (a : List (List Int)) (b c xs : List Int) (d : Int) (w : World) (h : Prog3 w A B C a b c) (hX : Ints w X xs) (hm : xs.length ≤ maxLen) (h1 : (progOk a b c && pointOk c.length xs d) = false) :
  Calls Tryz.prog 41 #[.agg #[.slice A a.length ca, .slice B b.length cb, .slice C c.length cc], .agg #[.slice X xs.length cx, .int .i64 d]] w fun e w' => e = .returned (.tuple #[.agg #[.slice none 0 0, .int .i64 0], .int .i64 2]) ∧ Below w.heap.size w w' := by
 have hlc := h.lc; unfold maxLen at hlc
 have hb00 : ∀ o o' o'', Below w.heap.size w (((w.alloc o).alloc o').alloc o'') := fun o o' o'' => (((Below.refl _ _).alloc (Nat.le_refl _) _).alloc (by simp) _).alloc (by simp; omega) _
 cases h2 : progOk a b c
 ·clear h1
  go_enter Tryz.func41, Tryz.ntmps41
  go_wp2_with fail
  refine (valid_calls _ _ _ _ _ _ a b c _ (h.ext (hb00 _ _ _))).mono ?_; rw [h2]; rintro e w1 ⟨rfl, hb1⟩
  obtain ⟨hc1, hf1⟩ := bcell hb1
  have hx1 := ext_trans (hb00 _ _ _) hb1
  have hz1 := hb1.size
  simp at hz1
  have k4 : w1.cell? ⟨w.heap.size + 1 + 1, 0, none⟩ = some (.slice none 0 0) := by rw [hc1 _ _ (by simp)]; go_simp
  have k5 : w1.cell? ⟨w.heap.size + 1 + 1, 1, none⟩ = some (.int .i64 0) := by rw [hc1 _ _ (by simp)]; go_simp
  go_wp2
  try simp only [Exit.inBlock, Exit.then]
  refine bodyPost_ret (v := .tuple #[.agg #[.slice none 0 0, .int .i64 0], .int .i64 2]) (by simp [results, Tryz.results41, go_sem, k4, k5]) rfl ⟨rfl, ?_⟩
  exact (hx1.setCell (by dsimp only; omega) _).setCell (by dsimp only; omega) _
 ·rw [h2, Bool.true_and] at h1
  go_enter Tryz.func41, Tryz.ntmps41
  go_wp2_with fail
  refine (valid_calls _ _ _ _ _ _ a b c _ (h.ext (hb00 _ _ _))).mono ?_; rw [h2]; rintro e w1 ⟨rfl, hb1⟩
  obtain ⟨hc1, hf1⟩ := bcell hb1
  have hx1 := ext_trans (hb00 _ _ _) hb1
  have hz1 := hb1.size
  simp at hz1
  go_wp2_with fail
  refine (proper_calls _ _ xs d c.length _ hm h.lc (hX.ext hx1)).mono ?_; rw [h1]; rintro e w2 ⟨rfl, hb2⟩
  obtain ⟨hc2, hf2⟩ := bcell hb2
  have hx2 := ext_trans hx1 hb2
  have hz2 := hb2.size
  have k4 : w2.cell? ⟨w.heap.size + 1 + 1, 0, none⟩ = some (.slice none 0 0) := by rw [hc2 _ _ (by omega), hc1 _ _ (by simp)]; go_simp
  have k5 : w2.cell? ⟨w.heap.size + 1 + 1, 1, none⟩ = some (.int .i64 0) := by rw [hc2 _ _ (by omega), hc1 _ _ (by simp)]; go_simp
  have f4 : w2.frozen? ⟨w.heap.size + 1 + 1, 0, none⟩ = false := by rw [hf2 _ _ (by omega), hf1 _ _ (by simp)]; go_simp
  have f5 : w2.frozen? ⟨w.heap.size + 1 + 1, 1, none⟩ = false := by rw [hf2 _ _ (by omega), hf1 _ _ (by simp)]; go_simp
  clear hc1 hf1 hc2 hf2
  go_wp2
  try simp only [Exit.inBlock, Exit.then]
  refine bodyPost_ret (v := .tuple #[.agg #[.slice none 0 0, .int .i64 0], .int .i64 2]) (by simp [results, Tryz.results41, go_sem, k4, k5]) rfl ⟨rfl, ?_⟩
  exact (hx2.setCell (by dsimp only; omega) _).setCell (by dsimp only; omega) _
end Go.Proofs.YtkljafmdbajfeaaGreatDoor
