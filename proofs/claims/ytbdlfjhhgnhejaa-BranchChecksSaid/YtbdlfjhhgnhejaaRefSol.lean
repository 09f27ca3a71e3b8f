/- tinplateref02.Solve and Count: what they answer. -/
import Derived.Test.YtbdlfjhhgnhejaaVec
import Derived.Test.YtbdlfjhhgnhejaaSolve
import Derived.Test.YtbdlfjhhgnhejaaWLast
namespace Go.Proofs.Ytbdlfjhhgnhejaa
open Go.RowKit Go.Proofs.YtbdlfjhhgnhejaaW.PrintLast

theorem refDot_w (A B : Option Addr) (nx ny ca cb : Nat) (xs ys : List Int) (w : World) (hx : xs.length = nx) (hy : ys.length = ny) (hl : xs.length ≤ ys.length) (hm : xs.length ≤ maxLen) (hA : Ints w A xs) (hB : Ints w B ys) (hs : Small xs ys) :
    Calls Try.prog 26 #[.slice A nx ca, .slice B ny cb] w fun e w' => e = .returned (.int .i64 (dotZ xs ys)) ∧ ∃ m, w' = w.drewN m := refDot_at A B nx ny ca cb xs ys w 0 hx hy hl hm hA hB hs
/-- The best so far, in a variable. -/
def KeptR (n : Nat) (w : World) : Option (List Int) → Value → Prop
  | none, v => v = .slice none 0 0
  | some x, v => ∃ g, v = .slice (some ⟨g, 0, none⟩) n n ∧ Ints w (some ⟨g, 0, none⟩) x ∧ x.length = n
theorem KeptR.ext {n : Nat} {w w' : World} {o : Option (List Int)} {v : Value} (h : KeptR n w o v) (hb : Below w.heap.size w w') : KeptR n w' o v := by
  cases o with
  | none => exact h
  | some x => obtain ⟨g, h1, h2, h3⟩ := h; exact ⟨g, h1, h2.ext hb, h3⟩
/-- Does a vector take the best one's place? -/
def takesB (c x : List Int) : Option (List Int) → Bool
  | none => true
  | some m => decide (dotZ c x < dotZ c m)
theorem bestL_takes (c : List Int) (L : List (List Int)) (x : List Int) : bestL c (L ++ [x]) = if takesB c x (bestL c L) then some x else bestL c L := by
  rw [bestL_snoc]; cases bestL c L with
  | none => rfl
  | some m => by_cases h : dotZ c x < dotZ c m <;> simp [takesB, h]
/-- The feasible ones of the first k vectors. -/
def firstF (a : List (List Int)) (b u : List Int) (k : Nat) : List (List Int) := ((box u).take k).filter (feasB a b)
theorem firstF_succ {a : List (List Int)} {b u : List Int} {k : Nat} (h : k < (box u).length) : firstF a b u (k + 1) = firstF a b u k ++ if feasB a b (vec u k).1 then [(vec u k).1] else [] := by
  unfold firstF; rw [(vec_in h).2, List.filter_append]; simp [List.filter_cons]
theorem vec_facts {a : List (List Int)} {b c u : List Int} (hok : wholeOk a b c u = true) {k : Nat} (h : k < (box u).length) : (vec u k).1.length = u.length ∧ InBox u (vec u k).1 u.length ∧ feasQ a b u (vec u k).1 = feasB a b (vec u k).1 ∧ Small c (vec u k).1 ∧ c.length = (vec u k).1.length := by
  have hup : upOk u = true := by unfold wholeOk at hok; simp only [Bool.and_eq_true] at hok; exact hok.1.2
  have hm : (vec u k).1 ∈ box u := by
    have := (vec_in h).2
    have h2 : (vec u k).1 ∈ (box u).take (k + 1) := by rw [this]; simp
    exact List.mem_of_mem_take h2
  obtain ⟨h1, h2⟩ := vec_inBox hup hm
  obtain ⟨-, h3, h4, -⟩ := row_small hok h2 h1
  refine ⟨h2, h1, ?_, h3, h4⟩
  unfold feasQ
  rw [(inBoxB_iff u _).2 (by rw [h2]; exact h1)]; simp [h2]
theorem box_le {a : List (List Int)} {b c u : List Int} (hok : wholeOk a b c u = true) : (box u).length ≤ 32768 := by
  have h5 := (wholeOk_len hok).2.2
  unfold wholeOk at hok; simp only [Bool.and_eq_true] at hok
  have h1 := box_len u hok.1.2
  have h2 : 8 ^ u.length ≤ 8 ^ 5 := Nat.pow_le_pow_right (by omega) h5
  omega

theorem foldl_mem (c : List Int) : ∀ (l : List (List Int)) (x : List Int), l.foldl (fun m y => if dotZ c y < dotZ c m then y else m) x ∈ x :: l
  | [], x => by simp
  | y :: l, x => by
    simp only [List.foldl_cons]
    by_cases h : dotZ c y < dotZ c x
    · rw [if_pos h]; exact List.mem_cons_of_mem _ (foldl_mem c l y)
    · rw [if_neg h]
      have := foldl_mem c l x
      simp only [List.mem_cons] at this ⊢
      rcases this with h | h
      · exact Or.inl h
      · exact Or.inr (Or.inr h)
theorem bestL_mem {c m : List Int} {L : List (List Int)} (h : bestL c L = some m) : m ∈ L := by
  cases L with
  | nil => simp [bestL] at h
  | cons x l => simp only [bestL, Option.some.injEq] at h; rw [← h]; exact foldl_mem c l x
theorem small_best {a : List (List Int)} {b c u m : List Int} {k : Nat} {BO : Option (List Int)} (hok : wholeOk a b c u = true) (h : BO = some m) (h2 : bestL c (firstF a b u k) = BO) : Small c m := by
  rw [h] at h2
  have h3 := bestL_mem h2
  unfold firstF at h3
  have h4 := List.mem_of_mem_take (List.mem_filter.1 h3).1
  have hup : upOk u = true := by unfold wholeOk at hok; simp only [Bool.and_eq_true] at hok; exact hok.1.2
  obtain ⟨h5, h6⟩ := vec_inBox hup h4
  exact (row_small hok h6 h5).2.1

set_option maxRecDepth 100000 in
set_option maxHeartbeats 2000000 in
theorem refSolve_calls {w : World} {A B C U : Option Addr} {ca cb cc cu : Nat} {a : List (List Int)} {b c u : List Int} (hw : Who w A B C U a b c u) (hok : wholeOk a b c u = true) :
    Calls Try.prog 14 #[.agg #[.slice A a.length ca, .slice B b.length cb, .slice C c.length cc, .slice U u.length cu]] w (SolvePost a b c u w) := by
  have hb0 : ∀ o, Below w.heap.size w (w.alloc o) := fun o => (Below.refl _ _).alloc (Nat.le_refl _) _
  have hv : ∀ o, _ := fun o => refWhole_calls A B C U ca cb cc cu a b c u (w.alloc o) (hw.ext (hb0 _))
  rw [hok] at hv
  have hbox := box_le hok
  have hlc := hw.p.lc
  go_enter Try.func14, Try.ntmps14
  go_wp2_with fail
  refine (hv _).mono ?_; rintro e w1 ⟨rfl, hb1⟩
  have hx1 := ext_trans (hb0 _) hb1
  have P1 : Blk w1 w.heap.size [.slice A a.length ca, .slice B b.length cb, .slice C c.length cc, .slice U u.length cu] 25 := Blk.ext (Blk.new' w [.slice A a.length ca, .slice B b.length cb, .slice C c.length cc, .slice U u.length cu] _ _ rfl) hb1
  clear hv hb0 hb1
  go_wp2
  go_loopw [5, 6, 7, 8] (fun v i _ _ wr => ∃ k : Nat, k ≤ (box u).length ∧ i = .int .i64 k ∧ KeptR u.length wr (bestL c (firstF a b u k)) v ∧ Blk wr w.heap.size [.slice A a.length ca, .slice B b.length cb, .slice C c.length cc, .slice U u.length cu] 25 ∧ Below w.heap.size w wr) (fun _ i _ _ _ => (box u).length - (intOf i).toNat)
  case atStart => exact ⟨0, Nat.zero_le _, rfl, rfl, P1, hx1⟩
  case round =>
    obtain ⟨k, hk, rfl, hkept, P, hb⟩ := hrel
    have p0 : wr.cell? ⟨w.heap.size, 0, none⟩ = some (.slice A a.length ca) := P.cell 0 (by simp)
    have p1 : wr.cell? ⟨w.heap.size, 1, none⟩ = some (.slice B b.length cb) := P.cell 1 (by simp)
    have p2 : wr.cell? ⟨w.heap.size, 2, none⟩ = some (.slice C c.length cc) := P.cell 2 (by simp)
    have p3 : wr.cell? ⟨w.heap.size, 3, none⟩ = some (.slice U u.length cu) := P.cell 3 (by simp)
    have hvec := vector_calls A B C U ca cb cc cu a b c u k wr (hw.ext hb) hok (by omega)
    have hlt0 := P.lt
    have q22 := eqlNil
    by_cases hlt : k < (box u).length
    · obtain ⟨v1, v2⟩ := vec_in hlt
      obtain ⟨f1, f2, f3, f4, f5⟩ := vec_facts hok hlt
      have hsu := firstF_succ (a := a) (b := b) hlt
      rw [v1] at hvec
      obtain ⟨x, hx⟩ : ∃ x, Hid ((vec u k).1 = x) := ⟨_, rfl⟩
      rw [hx.out] at hvec f1 f2 f3 f4 f5 hsu
      have F1 := Lib.hid f1; have F3 := Lib.hid f3; have F5 := Lib.hid f5; have HS := Lib.hid hsu
      clear v1 v2 f1 f3 f5 hsu
      go_wp2_with fail
      refine hvec.mono ?_; rintro e w2 ⟨g, rfl, hI, hg, hb2⟩
      obtain ⟨hc2, hf2⟩ := bcell hb2
      have hx2 := hb.trans (hb2.mono hb.size)
      have hk2 := hkept.ext hb2
      have P2 := P.ext hb2
      have k0 : w2.cell? ⟨w.heap.size, 0, none⟩ = some (.slice A a.length ca) := P2.cell 0 (by simp)
      have k1 : w2.cell? ⟨w.heap.size, 1, none⟩ = some (.slice B b.length cb) := P2.cell 1 (by simp)
      have k2 : w2.cell? ⟨w.heap.size, 2, none⟩ = some (.slice C c.length cc) := P2.cell 2 (by simp)
      have k3 : w2.cell? ⟨w.heap.size, 3, none⟩ = some (.slice U u.length cu) := P2.cell 3 (by simp)
      have hw2 := hw.ext hx2
      have hfe := feasible_at A B C U (some ⟨g, 0, none⟩) ca cb cc cu u.length u.length a b c u x w2.drew (hw2.ext (Below.refl _ _).drew) hok (hI.ints.ext (Below.refl _ _).drew) F1.out (by have := hw.lu; omega)
      rw [F3.out] at hfe
      have l2 := P2.lt
      clear hc2 hf2 hvec p0 p1 p2 p3 P hb hkept hlt0 hb2
      go_upto_region 8 with (fail)
      obtain ⟨BO, hBO⟩ : ∃ BO, Hid (bestL c (firstF a b u k) = BO) := ⟨_, rfl⟩
      rw [hBO.out] at hk2
      obtain ⟨T, hT⟩ : ∃ T : Bool, Hid ((feasB a b x && takesB c x BO) = T) := ⟨_, rfl⟩
      go_cut [39] (fun s wx => s = .bool T ∧ Below w2.heap.size w2 wx)
      case first =>
        have hlx : c.length ≤ x.length := by have := F5.out; omega
        have hxu : x.length ≤ maxLen := by have := F1.out; have := hw.lu; omega
        cases hfb : feasB a b x with
        | false =>
          rw [hfb] at hfe hT
          have HF := Lib.hid hfb; clear hfb
          obtain rfl : T = false := hT.out.symm
          refine start_ (n := 18) (S := fun w' => w'.cell? ⟨w.heap.size, 0, none⟩ = some (.slice A a.length ca) ∧ w'.cell? ⟨w.heap.size, 1, none⟩ = some (.slice B b.length cb) ∧ w'.cell? ⟨w.heap.size, 2, none⟩ = some (.slice C c.length cc) ∧ w'.cell? ⟨w.heap.size, 3, none⟩ = some (.slice U u.length cu)) (ds := []) #[false, false, false, false, false, false, false, false, false, false, false, false, false, false, false, false, false, false] (by kernel_rfl) rfl rfl ⟨k0, k1, k2, k3⟩ (fun hHeld => ?_)
          refine pure_ (i := 1) (N := some 23) (v := ?_) (a' := ?_) #[false, true, false, false, false, false, false, false, false, false, false, false, false, false, false, false, false, false] rfl rfl (by kernel_rfl) (fun _ _ _ h => h) (Or.inl ⟨by rfl, ?_⟩) ?_ ?_
          rotate_left
          · intro w'
            go_simp
            with_reducible rfl
          rotate_left
          · simp only [Act.put, List.setIfInBounds_toArray, List.set_cons_zero, List.set_cons_succ]
            rfl
          refine take_ (i := 0) (N := some 22) (v := ?_) (a' := ?_) #[true, true, false, false, false, false, false, false, false, false, false, false, false, false, false, false, false, false] rfl rfl (by kernel_rfl) (fun _ _ _ h => h) (Or.inl ⟨by rfl, ?_⟩) hHeld ?_ ?_
          rotate_left
          · rintro w' ⟨s0, s1, s2, s3⟩
            go_simp
            with_reducible rfl
          rotate_left
          · simp only [Act.put, List.setIfInBounds_toArray, List.set_cons_zero, List.set_cons_succ]
            rfl
          refine one_ (i := 2) (N := some 24) #[true, true, true, false, false, false, false, false, false, false, false, false, false, false, false, false, false, false] rfl rfl (by kernel_rfl) (by decide) (fun K hK => ?_)
          refine goes_ Try.func16 (by kernel_rfl) rfl #[.agg #[.slice A a.length ca, .slice B b.length cb, .slice C c.length cc, .slice U u.length cu], .slice (some ⟨g, 0, none⟩) u.length u.length] (by rfl) rfl rfl (by simp only [List.map_toArray, List.map_cons, List.map_nil]; rfl) ?_
          with_reducible refine (hfe).mono ?_
          rintro e w3 ⟨rfl, hb3⟩
          refine ⟨_, rfl, ?_⟩
          have hbz := ext_trans (Below.refl w2.heap.size w2).drew hb3
          have P3 := P2.ext hbz
          refine hK.out _ _ ⟨P3.cell 0 (by simp), P3.cell 1 (by simp), P3.cell 2 (by simp), P3.cell 3 (by simp)⟩ (fun hHeld => ?_)
          clear hK K
          refine norm_ (a' := ?_) ?_ ?_
          rotate_left
          · show Act.put _ (some 24) _ = _
            simp only [Act.put, List.setIfInBounds_toArray, List.set_cons_zero, List.set_cons_succ]
            rfl
          refine pure_ (i := 3) (N := some 25) (v := ?_) (a' := ?_) #[true, true, true, true, false, false, false, false, false, false, false, false, false, false, false, false, false, false] rfl rfl (by kernel_rfl) (fun _ _ _ h => h) (Or.inl ⟨by rfl, ?_⟩) ?_ ?_
          rotate_left
          · intro w'
            go_simp
            with_reducible rfl
          rotate_left
          · simp only [Act.put, List.setIfInBounds_toArray, List.set_cons_zero, List.set_cons_succ]
            rfl
          refine pure_ (i := 4) (N := some 26) (v := undef) (a' := ?_) #[true, true, true, true, true, false, false, false, false, false, false, false, false, false, false, false, false, false] rfl rfl (by kernel_rfl) (fun _ _ _ h => h) (Or.inr ⟨by rfl, rfl⟩) ?_ ?_
          rotate_left
          · simp only [Act.put, List.setIfInBounds_toArray, List.set_cons_zero, List.set_cons_succ]
            rfl
          refine pure_ (i := 5) (N := some 27) (v := undef) (a' := ?_) #[true, true, true, true, true, true, false, false, false, false, false, false, false, false, false, false, false, false] rfl rfl (by kernel_rfl) (fun _ _ _ h => h) (Or.inr ⟨by rfl, rfl⟩) ?_ ?_
          rotate_left
          · simp only [Act.put, List.setIfInBounds_toArray, List.set_cons_zero, List.set_cons_succ]
            rfl
          refine pure_ (i := 6) (N := some 28) (v := undef) (a' := ?_) #[true, true, true, true, true, true, true, false, false, false, false, false, false, false, false, false, false, false] rfl rfl (by kernel_rfl) (fun _ _ _ h => h) (Or.inr ⟨by rfl, rfl⟩) ?_ ?_
          rotate_left
          · simp only [Act.put, List.setIfInBounds_toArray, List.set_cons_zero, List.set_cons_succ]
            rfl
          refine pure_ (i := 7) (N := some 29) (v := undef) (a' := ?_) #[true, true, true, true, true, true, true, true, false, false, false, false, false, false, false, false, false, false] rfl rfl (by kernel_rfl) (fun _ _ _ h => h) (Or.inr ⟨by rfl, rfl⟩) ?_ ?_
          rotate_left
          · simp only [Act.put, List.setIfInBounds_toArray, List.set_cons_zero, List.set_cons_succ]
            rfl
          refine pure_ (i := 8) (N := some 30) (v := undef) (a' := ?_) #[true, true, true, true, true, true, true, true, true, false, false, false, false, false, false, false, false, false] rfl rfl (by kernel_rfl) (fun _ _ _ h => h) (Or.inr ⟨by rfl, rfl⟩) ?_ ?_
          rotate_left
          · simp only [Act.put, List.setIfInBounds_toArray, List.set_cons_zero, List.set_cons_succ]
            rfl
          refine pure_ (i := 9) (N := some 31) (v := undef) (a' := ?_) #[true, true, true, true, true, true, true, true, true, true, false, false, false, false, false, false, false, false] rfl rfl (by kernel_rfl) (fun _ _ _ h => h) (Or.inr ⟨by rfl, rfl⟩) ?_ ?_
          rotate_left
          · simp only [Act.put, List.setIfInBounds_toArray, List.set_cons_zero, List.set_cons_succ]
            rfl
          refine pure_ (i := 10) (N := some 32) (v := undef) (a' := ?_) #[true, true, true, true, true, true, true, true, true, true, true, false, false, false, false, false, false, false] rfl rfl (by kernel_rfl) (fun _ _ _ h => h) (Or.inr ⟨by rfl, rfl⟩) ?_ ?_
          rotate_left
          · simp only [Act.put, List.setIfInBounds_toArray, List.set_cons_zero, List.set_cons_succ]
            rfl
          refine pure_ (i := 11) (N := some 33) (v := undef) (a' := ?_) #[true, true, true, true, true, true, true, true, true, true, true, true, false, false, false, false, false, false] rfl rfl (by kernel_rfl) (fun _ _ _ h => h) (Or.inr ⟨by rfl, rfl⟩) ?_ ?_
          rotate_left
          · simp only [Act.put, List.setIfInBounds_toArray, List.set_cons_zero, List.set_cons_succ]
            rfl
          refine pure_ (i := 12) (N := some 34) (v := undef) (a' := ?_) #[true, true, true, true, true, true, true, true, true, true, true, true, true, false, false, false, false, false] rfl rfl (by kernel_rfl) (fun _ _ _ h => h) (Or.inr ⟨by rfl, rfl⟩) ?_ ?_
          rotate_left
          · simp only [Act.put, List.setIfInBounds_toArray, List.set_cons_zero, List.set_cons_succ]
            rfl
          refine pure_ (i := 13) (N := some 35) (v := undef) (a' := ?_) #[true, true, true, true, true, true, true, true, true, true, true, true, true, true, false, false, false, false] rfl rfl (by kernel_rfl) (fun _ _ _ h => h) (Or.inr ⟨by rfl, rfl⟩) ?_ ?_
          rotate_left
          · simp only [Act.put, List.setIfInBounds_toArray, List.set_cons_zero, List.set_cons_succ]
            rfl
          refine pure_ (i := 14) (N := some 36) (v := undef) (a' := ?_) #[true, true, true, true, true, true, true, true, true, true, true, true, true, true, true, false, false, false] rfl rfl (by kernel_rfl) (fun _ _ _ h => h) (Or.inr ⟨by rfl, rfl⟩) ?_ ?_
          rotate_left
          · simp only [Act.put, List.setIfInBounds_toArray, List.set_cons_zero, List.set_cons_succ]
            rfl
          refine pure_ (i := 15) (N := some 37) (v := undef) (a' := ?_) #[true, true, true, true, true, true, true, true, true, true, true, true, true, true, true, true, false, false] rfl rfl (by kernel_rfl) (fun _ _ _ h => h) (Or.inr ⟨by rfl, rfl⟩) ?_ ?_
          rotate_left
          · simp only [Act.put, List.setIfInBounds_toArray, List.set_cons_zero, List.set_cons_succ]
            rfl
          refine pure_ (i := 16) (N := some 38) (v := undef) (a' := ?_) #[true, true, true, true, true, true, true, true, true, true, true, true, true, true, true, true, true, false] rfl rfl (by kernel_rfl) (fun _ _ _ h => h) (Or.inr ⟨by rfl, rfl⟩) ?_ ?_
          rotate_left
          · simp only [Act.put, List.setIfInBounds_toArray, List.set_cons_zero, List.set_cons_succ]
            rfl
          refine pure_ (i := 17) (N := some 39) (v := ?_) (a' := ?_) #[true, true, true, true, true, true, true, true, true, true, true, true, true, true, true, true, true, true] rfl rfl (by kernel_rfl) (fun _ _ _ h => h) (Or.inl ⟨by rfl, ?_⟩) ?_ ?_
          rotate_left
          · intro w'
            go_simp
            with_reducible rfl
          rotate_left
          · simp only [Act.put, List.setIfInBounds_toArray, List.set_cons_zero, List.set_cons_succ]
            rfl
          refine done_ (by kernel_rfl) ?_
          (go_wp2_with fail; go_meet; exact ⟨rfl, hbz⟩)
        | true =>
          rw [hfb] at hfe hT
          have HF := Lib.hid hfb; clear hfb
          cases hbo : BO with
          | none =>
            rw [hbo] at hk2 hT
            obtain rfl : u5 = .slice none 0 0 := hk2
            have HB := Lib.hid hbo; clear hbo
            obtain rfl : T = true := hT.out.symm
            refine start_ (n := 18) (S := fun w' => w'.cell? ⟨w.heap.size, 0, none⟩ = some (.slice A a.length ca) ∧ w'.cell? ⟨w.heap.size, 1, none⟩ = some (.slice B b.length cb) ∧ w'.cell? ⟨w.heap.size, 2, none⟩ = some (.slice C c.length cc) ∧ w'.cell? ⟨w.heap.size, 3, none⟩ = some (.slice U u.length cu)) (ds := []) #[false, false, false, false, false, false, false, false, false, false, false, false, false, false, false, false, false, false] (by kernel_rfl) rfl rfl ⟨k0, k1, k2, k3⟩ (fun hHeld => ?_)
            refine pure_ (i := 1) (N := some 23) (v := ?_) (a' := ?_) #[false, true, false, false, false, false, false, false, false, false, false, false, false, false, false, false, false, false] rfl rfl (by kernel_rfl) (fun _ _ _ h => h) (Or.inl ⟨by rfl, ?_⟩) ?_ ?_
            rotate_left
            · intro w'
              go_simp
              with_reducible rfl
            rotate_left
            · simp only [Act.put, List.setIfInBounds_toArray, List.set_cons_zero, List.set_cons_succ]
              rfl
            refine take_ (i := 0) (N := some 22) (v := ?_) (a' := ?_) #[true, true, false, false, false, false, false, false, false, false, false, false, false, false, false, false, false, false] rfl rfl (by kernel_rfl) (fun _ _ _ h => h) (Or.inl ⟨by rfl, ?_⟩) hHeld ?_ ?_
            rotate_left
            · rintro w' ⟨s0, s1, s2, s3⟩
              go_simp
              with_reducible rfl
            rotate_left
            · simp only [Act.put, List.setIfInBounds_toArray, List.set_cons_zero, List.set_cons_succ]
              rfl
            refine one_ (i := 2) (N := some 24) #[true, true, true, false, false, false, false, false, false, false, false, false, false, false, false, false, false, false] rfl rfl (by kernel_rfl) (by decide) (fun K hK => ?_)
            refine goes_ Try.func16 (by kernel_rfl) rfl #[.agg #[.slice A a.length ca, .slice B b.length cb, .slice C c.length cc, .slice U u.length cu], .slice (some ⟨g, 0, none⟩) u.length u.length] (by rfl) rfl rfl (by simp only [List.map_toArray, List.map_cons, List.map_nil]; rfl) ?_
            with_reducible refine (hfe).mono ?_
            rintro e w3 ⟨rfl, hb3⟩
            refine ⟨_, rfl, ?_⟩
            have hbz := ext_trans (Below.refl w2.heap.size w2).drew hb3
            have P3 := P2.ext hbz
            refine hK.out _ _ ⟨P3.cell 0 (by simp), P3.cell 1 (by simp), P3.cell 2 (by simp), P3.cell 3 (by simp)⟩ (fun hHeld => ?_)
            clear hK K
            refine norm_ (a' := ?_) ?_ ?_
            rotate_left
            · show Act.put _ (some 24) _ = _
              simp only [Act.put, List.setIfInBounds_toArray, List.set_cons_zero, List.set_cons_succ]
              rfl
            refine pure_ (i := 3) (N := some 25) (v := ?_) (a' := ?_) #[true, true, true, true, false, false, false, false, false, false, false, false, false, false, false, false, false, false] rfl rfl (by kernel_rfl) (fun _ _ _ h => h) (Or.inl ⟨by rfl, ?_⟩) ?_ ?_
            rotate_left
            · intro w'
              go_simp
              with_reducible rfl
            rotate_left
            · simp only [Act.put, List.setIfInBounds_toArray, List.set_cons_zero, List.set_cons_succ]
              rfl
            refine pure_ (i := 4) (N := some 26) (v := ?_) (a' := ?_) #[true, true, true, true, true, false, false, false, false, false, false, false, false, false, false, false, false, false] rfl rfl (by kernel_rfl) (fun _ _ _ h => h) (Or.inl ⟨by rfl, ?_⟩) ?_ ?_
            rotate_left
            · intro w'
              go_simp
              with_reducible rfl
            rotate_left
            · simp only [Act.put, List.setIfInBounds_toArray, List.set_cons_zero, List.set_cons_succ]
              rfl
            refine pure_ (i := 5) (N := some 27) (v := ?_) (a' := ?_) #[true, true, true, true, true, true, false, false, false, false, false, false, false, false, false, false, false, false] rfl rfl (by kernel_rfl) (fun _ _ _ h => h) (Or.inl ⟨by rfl, ?_⟩) ?_ ?_
            rotate_left
            · intro w'
              go_simp
              with_reducible rfl
            rotate_left
            · simp only [Act.put, List.setIfInBounds_toArray, List.set_cons_zero, List.set_cons_succ]
              rfl
            refine pure_ (i := 6) (N := some 28) (v := ?_) (a' := ?_) #[true, true, true, true, true, true, true, false, false, false, false, false, false, false, false, false, false, false] rfl rfl (by kernel_rfl) (fun _ _ _ h => h) (Or.inl ⟨by rfl, ?_⟩) ?_ ?_
            rotate_left
            · intro w'
              go_simp
              with_reducible rfl
            rotate_left
            · simp only [Act.put, List.setIfInBounds_toArray, List.set_cons_zero, List.set_cons_succ]
              rfl
            refine pure_ (i := 7) (N := some 29) (v := undef) (a' := ?_) #[true, true, true, true, true, true, true, true, false, false, false, false, false, false, false, false, false, false] rfl rfl (by kernel_rfl) (fun _ _ _ h => h) (Or.inr ⟨by rfl, rfl⟩) ?_ ?_
            rotate_left
            · simp only [Act.put, List.setIfInBounds_toArray, List.set_cons_zero, List.set_cons_succ]
              rfl
            refine pure_ (i := 8) (N := some 30) (v := undef) (a' := ?_) #[true, true, true, true, true, true, true, true, true, false, false, false, false, false, false, false, false, false] rfl rfl (by kernel_rfl) (fun _ _ _ h => h) (Or.inr ⟨by rfl, rfl⟩) ?_ ?_
            rotate_left
            · simp only [Act.put, List.setIfInBounds_toArray, List.set_cons_zero, List.set_cons_succ]
              rfl
            refine pure_ (i := 9) (N := some 31) (v := undef) (a' := ?_) #[true, true, true, true, true, true, true, true, true, true, false, false, false, false, false, false, false, false] rfl rfl (by kernel_rfl) (fun _ _ _ h => h) (Or.inr ⟨by rfl, rfl⟩) ?_ ?_
            rotate_left
            · simp only [Act.put, List.setIfInBounds_toArray, List.set_cons_zero, List.set_cons_succ]
              rfl
            refine pure_ (i := 10) (N := some 32) (v := undef) (a' := ?_) #[true, true, true, true, true, true, true, true, true, true, true, false, false, false, false, false, false, false] rfl rfl (by kernel_rfl) (fun _ _ _ h => h) (Or.inr ⟨by rfl, rfl⟩) ?_ ?_
            rotate_left
            · simp only [Act.put, List.setIfInBounds_toArray, List.set_cons_zero, List.set_cons_succ]
              rfl
            refine pure_ (i := 11) (N := some 33) (v := undef) (a' := ?_) #[true, true, true, true, true, true, true, true, true, true, true, true, false, false, false, false, false, false] rfl rfl (by kernel_rfl) (fun _ _ _ h => h) (Or.inr ⟨by rfl, rfl⟩) ?_ ?_
            rotate_left
            · simp only [Act.put, List.setIfInBounds_toArray, List.set_cons_zero, List.set_cons_succ]
              rfl
            refine pure_ (i := 12) (N := some 34) (v := undef) (a' := ?_) #[true, true, true, true, true, true, true, true, true, true, true, true, true, false, false, false, false, false] rfl rfl (by kernel_rfl) (fun _ _ _ h => h) (Or.inr ⟨by rfl, rfl⟩) ?_ ?_
            rotate_left
            · simp only [Act.put, List.setIfInBounds_toArray, List.set_cons_zero, List.set_cons_succ]
              rfl
            refine pure_ (i := 13) (N := some 35) (v := undef) (a' := ?_) #[true, true, true, true, true, true, true, true, true, true, true, true, true, true, false, false, false, false] rfl rfl (by kernel_rfl) (fun _ _ _ h => h) (Or.inr ⟨by rfl, rfl⟩) ?_ ?_
            rotate_left
            · simp only [Act.put, List.setIfInBounds_toArray, List.set_cons_zero, List.set_cons_succ]
              rfl
            refine pure_ (i := 14) (N := some 36) (v := undef) (a' := ?_) #[true, true, true, true, true, true, true, true, true, true, true, true, true, true, true, false, false, false] rfl rfl (by kernel_rfl) (fun _ _ _ h => h) (Or.inr ⟨by rfl, rfl⟩) ?_ ?_
            rotate_left
            · simp only [Act.put, List.setIfInBounds_toArray, List.set_cons_zero, List.set_cons_succ]
              rfl
            refine pure_ (i := 15) (N := some 37) (v := undef) (a' := ?_) #[true, true, true, true, true, true, true, true, true, true, true, true, true, true, true, true, false, false] rfl rfl (by kernel_rfl) (fun _ _ _ h => h) (Or.inr ⟨by rfl, rfl⟩) ?_ ?_
            rotate_left
            · simp only [Act.put, List.setIfInBounds_toArray, List.set_cons_zero, List.set_cons_succ]
              rfl
            refine pure_ (i := 16) (N := some 38) (v := ?_) (a' := ?_) #[true, true, true, true, true, true, true, true, true, true, true, true, true, true, true, true, true, false] rfl rfl (by kernel_rfl) (fun _ _ _ h => h) (Or.inl ⟨by rfl, ?_⟩) ?_ ?_
            rotate_left
            · intro w'
              go_simp
              with_reducible rfl
            rotate_left
            · simp only [Act.put, List.setIfInBounds_toArray, List.set_cons_zero, List.set_cons_succ]
              rfl
            refine pure_ (i := 17) (N := some 39) (v := ?_) (a' := ?_) #[true, true, true, true, true, true, true, true, true, true, true, true, true, true, true, true, true, true] rfl rfl (by kernel_rfl) (fun _ _ _ h => h) (Or.inl ⟨by rfl, ?_⟩) ?_ ?_
            rotate_left
            · intro w'
              go_simp
              with_reducible rfl
            rotate_left
            · simp only [Act.put, List.setIfInBounds_toArray, List.set_cons_zero, List.set_cons_succ]
              rfl
            refine done_ (by kernel_rfl) ?_
            (go_wp2_with fail; go_meet; exact ⟨rfl, hbz⟩)
          | some m =>
            rw [hbo] at hk2 hT
            obtain ⟨gm, rfl, m1, m2⟩ := hk2
            have HB := Lib.hid hbo; clear hbo
            have hTd : decide (dotZ c x < dotZ c m) = T := hT.out
            have M2 := Lib.hid m2; clear m2
            have hsm : Small c m := small_best hok HB.out hBO.out
            have hlm : c.length ≤ m.length := by have := M2.out; have := F1.out; omega
            refine start_ (n := 18) (S := fun w' => w'.cell? ⟨w.heap.size, 0, none⟩ = some (.slice A a.length ca) ∧ w'.cell? ⟨w.heap.size, 1, none⟩ = some (.slice B b.length cb) ∧ w'.cell? ⟨w.heap.size, 2, none⟩ = some (.slice C c.length cc) ∧ w'.cell? ⟨w.heap.size, 3, none⟩ = some (.slice U u.length cu)) (ds := []) #[false, false, false, false, false, false, false, false, false, false, false, false, false, false, false, false, false, false] (by kernel_rfl) rfl rfl ⟨k0, k1, k2, k3⟩ (fun hHeld => ?_)
            refine pure_ (i := 1) (N := some 23) (v := ?_) (a' := ?_) #[false, true, false, false, false, false, false, false, false, false, false, false, false, false, false, false, false, false] rfl rfl (by kernel_rfl) (fun _ _ _ h => h) (Or.inl ⟨by rfl, ?_⟩) ?_ ?_
            rotate_left
            · intro w'
              go_simp
              with_reducible rfl
            rotate_left
            · simp only [Act.put, List.setIfInBounds_toArray, List.set_cons_zero, List.set_cons_succ]
              rfl
            refine take_ (i := 0) (N := some 22) (v := ?_) (a' := ?_) #[true, true, false, false, false, false, false, false, false, false, false, false, false, false, false, false, false, false] rfl rfl (by kernel_rfl) (fun _ _ _ h => h) (Or.inl ⟨by rfl, ?_⟩) hHeld ?_ ?_
            rotate_left
            · rintro w' ⟨s0, s1, s2, s3⟩
              go_simp
              with_reducible rfl
            rotate_left
            · simp only [Act.put, List.setIfInBounds_toArray, List.set_cons_zero, List.set_cons_succ]
              rfl
            refine one_ (i := 2) (N := some 24) #[true, true, true, false, false, false, false, false, false, false, false, false, false, false, false, false, false, false] rfl rfl (by kernel_rfl) (by decide) (fun K hK => ?_)
            refine goes_ Try.func16 (by kernel_rfl) rfl #[.agg #[.slice A a.length ca, .slice B b.length cb, .slice C c.length cc, .slice U u.length cu], .slice (some ⟨g, 0, none⟩) u.length u.length] (by rfl) rfl rfl (by simp only [List.map_toArray, List.map_cons, List.map_nil]; rfl) ?_
            with_reducible refine (hfe).mono ?_
            rintro e w3 ⟨rfl, hb3⟩
            refine ⟨_, rfl, ?_⟩
            have hbz := ext_trans (Below.refl w2.heap.size w2).drew hb3
            have P3 := P2.ext hbz
            have hC3 := (hw2.p.ext hbz).gc
            have hx3 := hI.ints.ext hbz
            have hm3 := m1.ext hbz
            refine hK.out _ _ ⟨P3.cell 0 (by simp), P3.cell 1 (by simp), P3.cell 2 (by simp), P3.cell 3 (by simp)⟩ (fun hHeld => ?_)
            clear hK K
            refine norm_ (a' := ?_) ?_ ?_
            rotate_left
            · show Act.put _ (some 24) _ = _
              simp only [Act.put, List.setIfInBounds_toArray, List.set_cons_zero, List.set_cons_succ]
              rfl
            refine pure_ (i := 3) (N := some 25) (v := ?_) (a' := ?_) #[true, true, true, true, false, false, false, false, false, false, false, false, false, false, false, false, false, false] rfl rfl (by kernel_rfl) (fun _ _ _ h => h) (Or.inl ⟨by rfl, ?_⟩) ?_ ?_
            rotate_left
            · intro w'
              go_simp
              with_reducible rfl
            rotate_left
            · simp only [Act.put, List.setIfInBounds_toArray, List.set_cons_zero, List.set_cons_succ]
              rfl
            refine pure_ (i := 4) (N := some 26) (v := ?_) (a' := ?_) #[true, true, true, true, true, false, false, false, false, false, false, false, false, false, false, false, false, false] rfl rfl (by kernel_rfl) (fun _ _ _ h => h) (Or.inl ⟨by rfl, ?_⟩) ?_ ?_
            rotate_left
            · intro w'
              go_simp
              with_reducible rfl
            rotate_left
            · simp only [Act.put, List.setIfInBounds_toArray, List.set_cons_zero, List.set_cons_succ]
              rfl
            refine pure_ (i := 5) (N := some 27) (v := ?_) (a' := ?_) #[true, true, true, true, true, true, false, false, false, false, false, false, false, false, false, false, false, false] rfl rfl (by kernel_rfl) (fun _ _ _ h => h) (Or.inl ⟨by rfl, ?_⟩) ?_ ?_
            rotate_left
            · intro w'
              go_simp
              with_reducible rfl
            rotate_left
            · simp only [Act.put, List.setIfInBounds_toArray, List.set_cons_zero, List.set_cons_succ]
              rfl
            refine pure_ (i := 6) (N := some 28) (v := ?_) (a' := ?_) #[true, true, true, true, true, true, true, false, false, false, false, false, false, false, false, false, false, false] rfl rfl (by kernel_rfl) (fun _ _ _ h => h) (Or.inl ⟨by rfl, ?_⟩) ?_ ?_
            rotate_left
            · intro w'
              go_simp
              with_reducible rfl
            rotate_left
            · simp only [Act.put, List.setIfInBounds_toArray, List.set_cons_zero, List.set_cons_succ]
              rfl
            refine pure_ (i := 7) (N := some 29) (v := ?_) (a' := ?_) #[true, true, true, true, true, true, true, true, false, false, false, false, false, false, false, false, false, false] rfl rfl (by kernel_rfl) (fun _ _ _ h => h) (Or.inl ⟨by rfl, ?_⟩) ?_ ?_
            rotate_left
            · intro w'
              go_simp
              with_reducible rfl
            rotate_left
            · simp only [Act.put, List.setIfInBounds_toArray, List.set_cons_zero, List.set_cons_succ]
              rfl
            refine pure_ (i := 9) (N := some 31) (v := ?_) (a' := ?_) #[true, true, true, true, true, true, true, true, false, true, false, false, false, false, false, false, false, false] rfl rfl (by kernel_rfl) (fun _ _ _ h => h) (Or.inl ⟨by rfl, ?_⟩) ?_ ?_
            rotate_left
            · intro w'
              go_simp
              with_reducible rfl
            rotate_left
            · simp only [Act.put, List.setIfInBounds_toArray, List.set_cons_zero, List.set_cons_succ]
              rfl
            refine pure_ (i := 11) (N := some 33) (v := ?_) (a' := ?_) #[true, true, true, true, true, true, true, true, false, true, false, true, false, false, false, false, false, false] rfl rfl (by kernel_rfl) (fun _ _ _ h => h) (Or.inl ⟨by rfl, ?_⟩) ?_ ?_
            rotate_left
            · intro w'
              go_simp
              with_reducible rfl
            rotate_left
            · simp only [Act.put, List.setIfInBounds_toArray, List.set_cons_zero, List.set_cons_succ]
              rfl
            refine pure_ (i := 13) (N := some 35) (v := ?_) (a' := ?_) #[true, true, true, true, true, true, true, true, false, true, false, true, false, true, false, false, false, false] rfl rfl (by kernel_rfl) (fun _ _ _ h => h) (Or.inl ⟨by rfl, ?_⟩) ?_ ?_
            rotate_left
            · intro w'
              go_simp
              with_reducible rfl
            rotate_left
            · simp only [Act.put, List.setIfInBounds_toArray, List.set_cons_zero, List.set_cons_succ]
              rfl
            refine take_ (i := 8) (N := some 30) (v := ?_) (a' := ?_) #[true, true, true, true, true, true, true, true, true, true, false, true, false, true, false, false, false, false] rfl rfl (by kernel_rfl) (fun _ _ _ h => h) (Or.inl ⟨by rfl, ?_⟩) hHeld ?_ ?_
            rotate_left
            · rintro w' ⟨s0, s1, s2, s3⟩
              go_simp
              with_reducible rfl
            rotate_left
            · simp only [Act.put, List.setIfInBounds_toArray, List.set_cons_zero, List.set_cons_succ]
              rfl
            refine take_ (i := 12) (N := some 34) (v := ?_) (a' := ?_) #[true, true, true, true, true, true, true, true, true, true, false, true, true, true, false, false, false, false] rfl rfl (by kernel_rfl) (fun _ _ _ h => h) (Or.inl ⟨by rfl, ?_⟩) hHeld ?_ ?_
            rotate_left
            · rintro w' ⟨s0, s1, s2, s3⟩
              go_simp
              with_reducible rfl
            rotate_left
            · simp only [Act.put, List.setIfInBounds_toArray, List.set_cons_zero, List.set_cons_succ]
              rfl
            refine one_ (i := 10) (N := some 32) #[true, true, true, true, true, true, true, true, true, true, true, true, true, true, false, false, false, false] rfl rfl (by kernel_rfl) (by decide) (fun K hK => ?_)
            refine goes_ Try.func26 (by kernel_rfl) rfl #[.slice C c.length cc, .slice (some ⟨g, 0, none⟩) u.length u.length] (by rfl) rfl rfl (by simp only [List.map_toArray, List.map_cons, List.map_nil]; rfl) ?_
            with_reducible refine (refDot_w C (some ⟨g, 0, none⟩) c.length u.length cc u.length c x w3 rfl F1.out hlx hlc hC3 hx3 f4).mono ?_
            rintro e w4 ⟨rfl, n4, rfl⟩
            refine ⟨_, rfl, ?_⟩
            refine hK.out _ _ ⟨P3.cell 0 (by simp), P3.cell 1 (by simp), P3.cell 2 (by simp), P3.cell 3 (by simp)⟩ (fun hHeld => ?_)
            clear hK K
            refine norm_ (a' := ?_) ?_ ?_
            rotate_left
            · show Act.put _ (some 32) _ = _
              simp only [Act.put, List.setIfInBounds_toArray, List.set_cons_zero, List.set_cons_succ]
              rfl
            refine one_ (i := 14) (N := some 36) #[true, true, true, true, true, true, true, true, true, true, true, true, true, true, true, false, false, false] rfl rfl (by kernel_rfl) (by decide) (fun K hK => ?_)
            refine goes_ Try.func26 (by kernel_rfl) rfl #[.slice C c.length cc, .slice (some ⟨gm, 0, none⟩) u.length u.length] (by rfl) rfl rfl (by simp only [List.map_toArray, List.map_cons, List.map_nil]; rfl) ?_
            with_reducible refine (refDot_q C (some ⟨gm, 0, none⟩) c.length u.length cc u.length c m w3 n4 rfl M2.out hlm hlc hC3 hm3 hsm).mono ?_
            rintro e w5 ⟨rfl, n5, rfl⟩
            refine ⟨_, rfl, ?_⟩
            refine hK.out _ _ ⟨P3.cell 0 (by simp), P3.cell 1 (by simp), P3.cell 2 (by simp), P3.cell 3 (by simp)⟩ (fun hHeld => ?_)
            clear hK K
            refine norm_ (a' := ?_) ?_ ?_
            rotate_left
            · show Act.put _ (some 36) _ = _
              simp only [Act.put, List.setIfInBounds_toArray, List.set_cons_zero, List.set_cons_succ]
              rfl
            refine pure_ (i := 15) (N := some 37) (v := ?_) (a' := ?_) #[true, true, true, true, true, true, true, true, true, true, true, true, true, true, true, true, false, false] rfl rfl (by kernel_rfl) (fun _ _ _ h => h) (Or.inl ⟨by rfl, ?_⟩) ?_ ?_
            rotate_left
            · intro w'
              go_simp
              with_reducible rfl
            rotate_left
            · simp only [Act.put, List.setIfInBounds_toArray, List.set_cons_zero, List.set_cons_succ]
              rfl
            refine pure_ (i := 16) (N := some 38) (v := ?_) (a' := ?_) #[true, true, true, true, true, true, true, true, true, true, true, true, true, true, true, true, true, false] rfl rfl (by kernel_rfl) (fun _ _ _ h => h) (Or.inl ⟨by rfl, ?_⟩) ?_ ?_
            rotate_left
            · intro w'
              go_simp
              with_reducible rfl
            rotate_left
            · simp only [Act.put, List.setIfInBounds_toArray, List.set_cons_zero, List.set_cons_succ]
              rfl
            refine pure_ (i := 17) (N := some 39) (v := ?_) (a' := ?_) #[true, true, true, true, true, true, true, true, true, true, true, true, true, true, true, true, true, true] rfl rfl (by kernel_rfl) (fun _ _ _ h => h) (Or.inl ⟨by rfl, ?_⟩) ?_ ?_
            rotate_left
            · intro w'
              go_simp
              with_reducible rfl
            rotate_left
            · simp only [Act.put, List.setIfInBounds_toArray, List.set_cons_zero, List.set_cons_succ]
              rfl
            refine done_ (by kernel_rfl) ?_
            (go_wp2_with fail; go_meet; exact ⟨by first | rfl | rw [hTd], hbz.trans ((drewN_below _ _).mono hbz.size)⟩)
      case rest =>
        obtain ⟨rfl, hb3⟩ := hcut
        have hxc := hx2.trans (hb3.mono hx2.size)
        have PC := P2.ext hb3
        have hIC := hI.ints.ext hb3
        have hkc := hk2.ext hb3
        have hbt := bestL_takes c (firstF a b u k) x
        rw [hBO.out] at hbt
        have HBT := Lib.hid hbt
        clear hbt k0 k1 k2 k3 l2 P2
        cases T with
        | false =>
          go_wp2
          go_roundw
          case rel =>
            refine ⟨k + 1, by omega, by go_num, ?_, PC, hxc⟩
            rw [HS.out]
            cases hfb : feasB a b x with
            | false => simp only [Bool.false_eq_true, if_false, List.append_nil]; rw [hBO.out]; exact hkc
            | true =>
              have hT' := hT.out
              rw [hfb, Bool.true_and] at hT'
              simp only [if_true]; rw [HBT.out, hT']; exact hkc
          case measure => simp [intOf]; omega
        | true =>
          go_wp2
          go_roundw
          case rel =>
            refine ⟨k + 1, by omega, by go_num, ?_, PC, hxc⟩
            have hT' := hT.out
            rw [Bool.and_eq_true] at hT'
            rw [HS.out, hT'.1]
            simp only [if_true]; rw [HBT.out, hT'.2]
            exact ⟨g, rfl, hIC, F1.out⟩
          case measure => simp [intOf]; omega
    · obtain rfl : k = (box u).length := by omega
      rw [vec_out] at hvec
      have hF : firstF a b u (box u).length = feasL a b u := by unfold firstF feasL; rw [List.take_length]
      rw [hF] at hkept
      obtain ⟨NB, hNB⟩ : ∃ NB, Hid ((box u).length = NB) := ⟨_, rfl⟩
      rw [hNB.out] at hvec ⊢
      go_wp2_with fail
      refine hvec.mono ?_; rintro e w2 ⟨g, rfl, hI, hg, hb2⟩
      have hx2 := hb.trans (hb2.mono hb.size)
      have hk2 := hkept.ext hb2
      have P2 := P.ext hb2
      have k2 : w2.cell? ⟨w.heap.size, 2, none⟩ = some (.slice C c.length cc) := P2.cell 2 (by simp)
      clear p0 p1 p2 p3 hvec
      cases hbl : bestL c (feasL a b u) with
      | none =>
        rw [hbl] at hk2
        obtain rfl : u5 = .slice none 0 0 := hk2
        have HB := Lib.hid hbl; clear hbl
        go_wp2
        go_ret3
        exact ⟨by unfold SolveRes; rw [hok, HB.out]; exact rfl, hx2⟩
      | some m =>
        rw [hbl] at hk2
        obtain ⟨gm, rfl, m1, m2⟩ := hk2
        have M2 := Lib.hid m2
        have HB := Lib.hid hbl; clear hbl m2
        have hsm : Small c m := small_best hok rfl (by rw [hF]; exact HB.out)
        have hwl := (wholeOk_len hok).1
        have hlm : c.length ≤ m.length := by have := M2.out; omega
        have HWL := Lib.hid hwl; clear hwl
        have hC2 := (hw.p.ext hx2).gc
        go_wp2_with (go_at_call 26; refine (refDot_w _ _ _ _ _ _ c m w2 rfl M2.out hlm hlc hC2 m1 hsm).mono ?_; rintro e w4 ⟨rfl, n4, rfl⟩)
        go_ret3
        exact ⟨by unfold SolveRes; rw [hok, HB.out]; exact ⟨gm, u.length, rfl, M2.out, m1.ext (drewN_below _ _)⟩, hx2.trans ((drewN_below _ _).mono hx2.size)⟩
end Go.Proofs.Ytbdlfjhhgnhejaa
