/- slices.IndexFunc and slices.ContainsFunc at []int and [][]int: whatever function value is handed in, if it answers like a Lean predicate and only makes memory. -/
import Derived.Test.YtbdlfjhhgnhejaaBase
namespace Go.Proofs.Ytbdlfjhhgnhejaa
open Go.RowKit

/-- Function fid has a body of its own. -/
def Enters (fid : FuncId) : Prop := ∀ args w, (callFunc fid args).run Try.prog w = .ok (.enter fid args) w
/-- A function value that answers as p at ints, in every world that is w with new memory. -/
def Tells (fid : FuncId) (caps : Array Value) (p : Int → Bool) (w : World) (xs : List Int) : Prop :=
  Enters fid ∧ ∀ x ∈ xs, ∀ w1, Below w.heap.size w w1 → Calls Try.prog fid (#[.int .i64 x] ++ caps) w1 fun e w2 => e = .returned (.bool (p x)) ∧ Below w1.heap.size w1 w2
/-- A function value that answers as p at rows. -/
def TellsR (fid : FuncId) (caps : Array Value) (p : List Int → Bool) (w : World) (l : List (List Int)) : Prop :=
  Enters fid ∧ ∀ x ∈ l, ∀ A c w1, Below w.heap.size w w1 → Ints w1 A x → Calls Try.prog fid (#[.slice A x.length c] ++ caps) w1 fun e w2 => e = .returned (.bool (p x)) ∧ Below w1.heap.size w1 w2

set_option maxHeartbeats 400000 in
theorem indexFunc_int (fid : FuncId) (caps : Array Value) (p : Int → Bool) (A : Option Addr) (c : Nat) (xs : List Int) (w : World) (hm : xs.length ≤ maxLen)
    (hA : Ints w A xs) (hf : Tells fid caps p w xs) :
    Calls Try.prog 44 #[.slice A xs.length c, .func (.func fid) #[] caps] w fun e w' => ∃ r : Int, e = .returned (.int .i64 r) ∧ decide (0 ≤ r) = xs.any p ∧ Below w.heap.size w w' := by
  unfold maxLen at hm
  obtain ⟨hent, hf⟩ := hf
  go_enter Try.func44, Try.ntmps44
  go_wp2
  go_loopw [8] (fun i wr => ∃ k : Nat, k ≤ xs.length ∧ i = .int .i64 k ∧ (xs.take k).any p = false ∧ Below w.heap.size w wr) (fun i _ => xs.length - (intOf i).toNat)
  case atStart => exact ⟨0, Nat.zero_le _, rfl, by simp, Below.refl _ _⟩
  case round =>
    obtain ⟨k, hk, rfl, hn, hb⟩ := hrel
    by_cases hlt : k < xs.length
    · obtain ⟨b, off, rfl, g⟩ := (hA.ext hb) k hlt
      have hcall := hf (nth xs k) (nth_mem hlt) wr hb
      have ht := take_nth hlt
      have hany : xs.any p = ((xs.take k).any p || (p (nth xs k) || (xs.drop (k + 1)).any p)) := by
        rw [← List.any_cons, nth_lt hlt, ← List.drop_eq_getElem_cons hlt, ← List.any_append, List.take_append_drop]
      have hany2 : (xs.take (k + 1)).any p = ((xs.take k).any p || p (nth xs k)) := by rw [ht, List.any_append]; simp
      have HH := Lib.hid hany; have H2 := Lib.hid hany2; have HN := Lib.hid hn
      clear hany hany2 hn ht
      cases hp : p (nth xs k)
      all_goals
        rw [hp] at hcall
        have HP := Lib.hid hp
        clear hp
        go_wp2_with (rw [hent, Oper.upon_enter]; refine hcall.mono ?_; rintro e w2 ⟨rfl, hb2⟩)
      · go_roundw
        case rel => exact ⟨k + 1, by omega, by go_num, by rw [H2.out, HN.out, HP.out]; rfl, ext_trans hb hb2⟩
        case measure => simp [intOf]; omega
      · go_ret
        exact ⟨_, rfl, by rw [HH.out, HP.out]; simp, ext_trans hb hb2⟩
    · obtain rfl : k = xs.length := by omega
      go_wp2
      go_ret
      rw [List.take_length] at hn
      exact ⟨_, rfl, by rw [hn]; rfl, hb⟩

set_option maxHeartbeats 400000 in
theorem containsFunc_int (fid : FuncId) (caps : Array Value) (p : Int → Bool) (A : Option Addr) (c : Nat) (xs : List Int) (w : World) (hm : xs.length ≤ maxLen)
    (hA : Ints w A xs) (hf : Tells fid caps p w xs) :
    Calls Try.prog 31 #[.slice A xs.length c, .func (.func fid) #[] caps] w fun e w' => e = .returned (.bool (xs.any p)) ∧ Below w.heap.size w w' := by
  go_enter Try.func31, Try.ntmps31
  go_wp2_with (go_at_call 44; refine (indexFunc_int fid caps p _ _ xs _ hm hA hf).mono ?_; rintro e w' ⟨r, rfl, hr, hb⟩)
  go_ret
  exact ⟨rfl, hb⟩
set_option maxHeartbeats 400000 in
theorem indexFunc_row (fid : FuncId) (caps : Array Value) (p : List Int → Bool) (A : Option Addr) (c : Nat) (xs : List (List Int)) (w : World) (hm : xs.length ≤ maxLen)
    (hA : Grid w A xs) (hf : TellsR fid caps p w xs) :
    Calls Try.prog 91 #[.slice A xs.length c, .func (.func fid) #[] caps] w fun e w' => ∃ r : Int, e = .returned (.int .i64 r) ∧ decide (0 ≤ r) = xs.any p ∧ Below w.heap.size w w' := by
  unfold maxLen at hm
  obtain ⟨hent, hf⟩ := hf
  go_enter Try.func91, Try.ntmps91
  go_wp2
  go_loopw [8] (fun i wr => ∃ k : Nat, k ≤ xs.length ∧ i = .int .i64 k ∧ (xs.take k).any p = false ∧ Below w.heap.size w wr) (fun i _ => xs.length - (intOf i).toNat)
  case atStart => exact ⟨0, Nat.zero_le _, rfl, by simp, Below.refl _ _⟩
  case round =>
    obtain ⟨k, hk, rfl, hn, hb⟩ := hrel
    by_cases hlt : k < xs.length
    · obtain ⟨b, off, R, cR, rfl, g, _, hR⟩ := (hA.ext hb) k hlt
      have hcall := hf (nrow xs k) (nrow_mem hlt) R cR wr hb hR
      have ht := take_nrow hlt
      have hany : xs.any p = ((xs.take k).any p || (p (nrow xs k) || (xs.drop (k + 1)).any p)) := by
        rw [← List.any_cons, nrow_lt hlt, ← List.drop_eq_getElem_cons hlt, ← List.any_append, List.take_append_drop]
      have hany2 : (xs.take (k + 1)).any p = ((xs.take k).any p || p (nrow xs k)) := by rw [ht, List.any_append]; simp
      have HH := Lib.hid hany; have H2 := Lib.hid hany2; have HN := Lib.hid hn
      clear hany hany2 hn ht
      cases hp : p (nrow xs k)
      all_goals
        rw [hp] at hcall
        have HP := Lib.hid hp
        clear hp
        go_wp2_with (rw [hent, Oper.upon_enter]; refine hcall.mono ?_; rintro e w2 ⟨rfl, hb2⟩)
      · go_roundw
        case rel => exact ⟨k + 1, by omega, by go_num, by rw [H2.out, HN.out, HP.out]; rfl, ext_trans hb hb2⟩
        case measure => simp [intOf]; omega
      · go_ret
        exact ⟨_, rfl, by rw [HH.out, HP.out]; simp, ext_trans hb hb2⟩
    · obtain rfl : k = xs.length := by omega
      go_wp2
      go_ret
      rw [List.take_length] at hn
      exact ⟨_, rfl, by rw [hn]; rfl, hb⟩

set_option maxHeartbeats 400000 in
theorem containsFunc_row (fid : FuncId) (caps : Array Value) (p : List Int → Bool) (A : Option Addr) (c : Nat) (xs : List (List Int)) (w : World) (hm : xs.length ≤ maxLen)
    (hA : Grid w A xs) (hf : TellsR fid caps p w xs) :
    Calls Try.prog 77 #[.slice A xs.length c, .func (.func fid) #[] caps] w fun e w' => e = .returned (.bool (xs.any p)) ∧ Below w.heap.size w w' := by
  go_enter Try.func77, Try.ntmps77
  go_wp2_with (go_at_call 91; refine (indexFunc_row fid caps p _ _ xs _ hm hA hf).mono ?_; rintro e w' ⟨r, rfl, hr, hb⟩)
  go_ret
  exact ⟨rfl, hb⟩
end Go.Proofs.Ytbdlfjhhgnhejaa
