/- linear.lowest: a point in lowest terms. -/
import Derived.Test.YtbdlfjhhgnhejaaMem
import Derived.Test.YtbdlfjhhgnhejaaLin
import Derived.Test.YtbdlfjhhgnhejaaDot
namespace Go.Proofs.Ytbdlfjhhgnhejaa
open Go.RowKit

/-- The greatest common divisor of d and the first k numbers. -/
def gcdN (d : Int) (xs : List Int) : Nat → Nat
  | 0 => d.natAbs
  | k + 1 => Nat.gcd (gcdN d xs k) (nth xs k).natAbs
theorem gcdN_pos {d : Int} (h : 1 ≤ d) (xs : List Int) : ∀ k, 1 ≤ gcdN d xs k
  | 0 => by simp [gcdN]; omega
  | k + 1 => Nat.gcd_pos_of_pos_left _ (gcdN_pos h xs k)
theorem gcdN_le {d : Int} (h : 1 ≤ d) (xs : List Int) : ∀ k, gcdN d xs k ≤ d.natAbs
  | 0 => Nat.le_refl _
  | k + 1 => Nat.le_trans (Nat.gcd_le_left _ (gcdN_pos h xs k)) (gcdN_le h xs k)
/-- The first k numbers divided by g. -/
def divK (g : Int) (xs : List Int) (k : Nat) : List Int := (xs.take k).map (fun x => x.tdiv g) ++ xs.drop k
theorem divK_len (g : Int) (xs : List Int) (k : Nat) (hk : k ≤ xs.length) : (divK g xs k).length = xs.length := by simp [divK]; omega
theorem divK_nth (g : Int) (xs : List Int) (k : Nat) (hk : k < xs.length) : nth (divK g xs k) k = nth xs k := by
  rw [nth_lt (by rw [divK_len _ _ _ (by omega)]; exact hk), nth_lt hk]
  unfold divK
  rw [List.getElem_append_right (by simp; omega)]; simp [Nat.min_eq_left (Nat.le_of_lt hk)]
theorem divK_set (g : Int) (xs : List Int) (k : Nat) (hk : k < xs.length) : (divK g xs k).set k ((nth xs k).tdiv g) = divK g xs (k + 1) := by
  unfold divK
  have e : k - (List.map (fun x => x.tdiv g) (List.take k xs)).length = 0 := by simp; omega
  rw [List.set_append_right _ _ (by simp; omega), e, take_nth hk, List.drop_eq_getElem_cons hk]
  simp only [List.set_cons_zero, List.map_append, List.map_cons, List.map_nil, List.append_assoc, List.singleton_append]
theorem divK_all (g : Int) (xs : List Int) : divK g xs xs.length = xs.map (fun x => x.tdiv g) := by simp [divK]
theorem tdiv_bd (x g : Int) (h : -9000000000000000000 ≤ x ∧ x ≤ 9000000000000000000) : -9000000000000000000 ≤ x.tdiv g ∧ x.tdiv g ≤ 9000000000000000000 := by
  have := Int.natAbs_tdiv_le_natAbs x g
  omega

set_option maxHeartbeats 1000000 in
theorem lowest_calls (b c : Nat) (xs : List Int) (d : Int) (w : World) (hx : ∀ i, i < xs.length → -9000000000000000000 ≤ nth xs i ∧ nth xs i ≤ 9000000000000000000) (hd : 1 ≤ d) (hd2 : d ≤ 9000000000000000000) (hm : xs.length ≤ 1000) (hI : IBlk w b xs) :
    Calls Try.prog 47 #[.slice (some ⟨b, 0, none⟩) xs.length c, .int .i64 d] w fun e w' => e = .returned (.agg #[.slice (some ⟨b, 0, none⟩) xs.length c, .int .i64 (d.tdiv (gcdN d xs xs.length))]) ∧ IBlk w' b (xs.map (fun x => x.tdiv (gcdN d xs xs.length))) ∧ But b w w' := by
  have hG1 := gcdN_pos hd xs xs.length
  have hG2 := gcdN_le hd xs xs.length
  obtain ⟨G, HG⟩ : ∃ G : Nat, Hid (gcdN d xs xs.length = G) := ⟨_, rfl⟩
  rw [HG.out] at hG1 hG2 ⊢
  have hG3 : (G : Int) ≤ d := by omega
  clear hG2
  go_enter Try.func47, Try.ntmps47
  go_wp2
  go_loopw [5, 7, 12] (fun g _ i wr => ∃ (k n : Nat) (gv : Int), k ≤ xs.length ∧ i = .int .i64 k ∧ g = .int .i64 gv ∧ gv.natAbs = gcdN d xs k ∧ -9000000000000000000 ≤ gv ∧ gv ≤ 9000000000000000000 ∧ wr = (w.alloc (.cells #[.slice none 0 0, .int .i64 0] 73)).drewN n) (fun _ _ i _ => xs.length - (intOf i).toNat)
  case atStart => exact ⟨0, 0, d, Nat.zero_le _, rfl, rfl, rfl, by omega, by omega, rfl⟩
  case round =>
    obtain ⟨k, n, gv, hk, rfl, rfl, hg, hg1, hg2, rfl⟩ := hrel
    by_cases hlt : k < xs.length
    · have c1 := hI.cell k hlt
      obtain ⟨x1, x2⟩ := hx k hlt
      have hbl := Blk.lt hI
      have HG := Lib.hid hg; clear hg
      go_wp2
      obtain ⟨wo, hwo⟩ : ∃ wo : World, wo = ((w.alloc (.cells #[.slice none 0 0, .int .i64 0] 73)).drewN n) := ⟨_, rfl⟩
      go_loopw [5, 7] (fun g nn wr => ∃ (m : Nat) (gv nv : Int), g = .int .i64 gv ∧ nn = .int .i64 nv ∧ Nat.gcd gv.natAbs nv.natAbs = gcdN d xs (k + 1) ∧ -9000000000000000000 ≤ gv ∧ gv ≤ 9000000000000000000 ∧ -9000000000000000000 ≤ nv ∧ nv ≤ 9000000000000000000 ∧ wr = (w.alloc (.cells #[.slice none 0 0, .int .i64 0] 73)).drewN m) (fun _ nn _ => (intOf nn).natAbs)
      case atStart => exact ⟨_, gv, nth xs k, rfl, rfl, by rw [HG.out]; rfl, hg1, hg2, x1, x2, rfl⟩
      case round =>
        obtain ⟨m, gv, nv, rfl, rfl, hgg, y1, y2, y3, y4, rfl⟩ := hrel
        have HGG := Lib.hid hgg; clear hgg
        by_cases h0 : nv = 0
        · subst h0
          go_wp2
          go_roundw
          case rel => exact ⟨k + 1, _, gv, by omega, by go_num, rfl, by rw [← HGG.out]; simp, y1, y2, rfl⟩
          case measure => simp [intOf]; omega
        · have h1 : (nv != 0) = true := by simp [h0]
          have h2 : (nv == 0) = false := by simp [h0]
          have t1 : (gv.tmod nv).natAbs < nv.natAbs := by rw [Int.natAbs_tmod]; exact Nat.mod_lt _ (by omega)
          have HT := Lib.hid t1; clear t1
          go_wp2
          go_quiet (fail)
          go_wp2
          go_roundw
          case rel => exact ⟨_, nv, gv.tmod nv, rfl, rfl, by rw [← HGG.out, Int.natAbs_tmod]; rw [Nat.gcd_comm nv.natAbs, ← Nat.gcd_rec, Nat.gcd_comm], y3, y4, by have := HT.out; omega, by have := HT.out; omega, drewN_add _ _ _⟩
          case measure => have := HT.out; simpa [intOf] using this
    · obtain rfl : k = xs.length := by omega
      have hbl := Blk.lt hI
      rw [HG.out] at hg
      have hGc : gv = (G : Int) ∨ gv = -(G : Int) := by omega
      clear hg hg1 hg2 hlt hk HG
      rcases hGc with rfl | rfl
      all_goals
        go_wp2
        go_loopw [8, 29] (fun _ i wr => ∃ (k : Nat), k ≤ xs.length ∧ i = .int .i64 k ∧ IBlk wr b (divK G xs k) ∧ But b w wr ∧ Blk wr w.heap.size [.slice none 0 0, .int .i64 0] 73) (fun _ i _ => xs.length - (intOf i).toNat)
        case atStart => exact ⟨0, Nat.zero_le _, rfl, (hI.alloc _).drewN n, ((But.refl _ _).alloc _).ext (drewN_below _ _), (Blk.new _ _ _).drewN n⟩
        case round =>
          obtain ⟨k, hk, rfl, hB, hbut, hQ⟩ := hrel
          by_cases hlt : k < xs.length
          · have c1 := hB.cell k (by rw [divK_len _ _ _ hk]; exact hlt)
            have e1 := divK_nth G xs k hlt
            rw [e1] at c1
            have f1 := Blk.free hB k
            obtain ⟨t1, t2⟩ := tdiv_bd _ G (hx k hlt)
            clear e1
            go_wp2
            go_roundw
            case rel => exact ⟨k + 1, by omega, by go_num, by rw [← divK_set _ _ _ hlt]; exact hB.set k _, hbut.set _ _, hQ.other _ _ (by simp; omega)⟩
            case measure => simp [intOf]; omega
          · obtain rfl : k = xs.length := by omega
            have q0 := hQ.cell 0 (by simp)
            have q1 := hQ.cell 1 (by simp)
            have f0 := hQ.free 0
            have f1 := hQ.free 1
            obtain ⟨t1, t2⟩ := tdiv_bd d G (by omega)
            simp only [List.getElem_cons_zero, List.getElem_cons_succ] at q0 q1
            go_wp2
            rw [divK_all] at hB
            (try simp only [Exit.inBlock, Exit.then])
            refine bodyPost_ret (v := .agg #[.slice (some ⟨b, 0, none⟩) xs.length c, .int .i64 (d.tdiv G)]) (by simp [results, Try.results47, go_sem, q0, q1]) rfl ⟨rfl, ?_, ?_⟩
            · exact Blk.other (Blk.other hB _ _ (by simp; omega)) _ _ (by simp; omega)
            · exact (hbut.setNew (by simp) _).setNew (by simp) _
end Go.Proofs.Ytbdlfjhhgnhejaa
