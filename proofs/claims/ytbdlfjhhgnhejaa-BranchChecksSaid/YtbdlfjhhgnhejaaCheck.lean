/- branch.Check: what it answers. -/
import Derived.Test.YtbdlfjhhgnhejaaReadB
import Derived.Outline
namespace Go.Proofs.Ytbdlfjhhgnhejaa
open Go.RowKit

/-- Check's answer. -/
def checkV (a : List (List Int)) (b c u : List Int) (L : List Nd) (cost : Int) (feas : Bool) : Bool × Int :=
  if wholeOk a b c u then
    if 65535 < L.length then (false, 3)
    else ((readF a b c cost (!feas) (L.length + 1) L [0, 0, 0, 0, 0] (pad u)).1 && decide ((readF a b c cost (!feas) (L.length + 1) L [0, 0, 0, 0, 0] (pad u)).2.length = 0), 0)
  else (false, 2)
theorem checkV_arg {a : List (List Int)} {b c u : List Int} {L : List Nd} {cost : Int} {feas : Bool} (h : wholeOk a b c u = false) : checkV a b c u L cost feas = (false, 2) := by
  simp only [checkV, h, Bool.false_eq_true, if_false]
theorem checkV_lim {a : List (List Int)} {b c u : List Int} {L : List Nd} {cost : Int} {feas : Bool} (h : wholeOk a b c u = true) (hl : 65535 < L.length) : checkV a b c u L cost feas = (false, 3) := by
  simp only [checkV, h, hl, if_true]
theorem checkV_read {a : List (List Int)} {b c u : List Int} {L : List Nd} {cost : Int} {feas : Bool} (h : wholeOk a b c u = true) (hl : ¬ 65535 < L.length) : checkV a b c u L cost feas = ((readF a b c cost (!feas) (L.length + 1) L [0, 0, 0, 0, 0] (pad u)).1 && decide ((readF a b c cost (!feas) (L.length + 1) L [0, 0, 0, 0, 0] (pad u)).2.length = 0), 0) := by
  simp only [checkV, h, hl, if_true, if_false]
theorem pad_ends {u : List Int} (h : upOk u = true) (h5 : u.length ≤ 5) : EndsOk (pad u) := by
  refine ⟨pad_len h5, fun x hx => ?_⟩
  unfold pad at hx
  rcases List.mem_append.1 hx with h1 | h1
  · unfold upOk at h; rw [List.all_eq_true] at h; have := h x h1; simpa using this
  · rw [(List.mem_replicate.1 h1).2]; omega


def CheckPost (a : List (List Int)) (b c u : List Int) (L : List Nd) (cost : Int) (feas : Bool) (w : World) (e : Ending) (w' : World) : Prop :=
  e = .returned (.tuple #[.bool (checkV a b c u L cost feas).1, .int .i64 (checkV a b c u L cost feas).2]) ∧ Below w.heap.size w w'

set_option maxRecDepth 100000 in
set_option maxHeartbeats 1000000 in
theorem check_bad (A B C U X : Option Addr) (ca cb cc cu cx : Nat) (a : List (List Int)) (b c u : List Int) (L : List Nd) (cost : Int) (feas : Bool) (w : World)
    (hw : Who w A B C U a b c u) (hok : wholeOk a b c u = false) :
    Calls Try.prog 12 #[.agg #[.slice A a.length ca, .slice B b.length cb, .slice C c.length cc, .slice U u.length cu], .slice X L.length cx, .bool feas, .int .i64 cost] w (CheckPost a b c u L cost feas w) := by
  have hb0 : ∀ o, Below w.heap.size w (w.alloc o) := fun o => (Below.refl _ _).alloc (Nat.le_refl _) _
  have hof : ∀ o, _ := fun o => of_calls A B C U ca cb cc cu a b c u (w.alloc o) (hw.ext (hb0 o))
  have HV := Lib.hid (checkV_arg (L := L) (cost := cost) (feas := feas) hok)
  unfold ofVal at hof
  rw [hok] at hof
  clear hok hw
  go_enter Try.func12, Try.ntmps12
  go_wp2_with fail
  refine (hof _).mono ?_; rintro e w1 ⟨rfl, hb1⟩
  have hx1 := ext_trans (hb0 _) hb1
  have hs1 := hx1.size
  have HX := Lib.hid hx1
  clear hb1 hx1 hb0 hof
  go_wp2_with fail
  go_ret2
  unfold CheckPost
  exact ⟨by rw [HV.out]; rfl, HX.out.alloc hs1 _⟩

set_option maxRecDepth 100000 in
set_option maxHeartbeats 1000000 in
theorem check_lim (A B C U X : Option Addr) (ca cb cc cu cx : Nat) (a : List (List Int)) (b c u : List Int) (L : List Nd) (cost : Int) (feas : Bool) (w : World)
    (hw : Who w A B C U a b c u) (hok : wholeOk a b c u = true) (hl : Hid (65535 < L.length)) :
    Calls Try.prog 12 #[.agg #[.slice A a.length ca, .slice B b.length cb, .slice C c.length cc, .slice U u.length cu], .slice X L.length cx, .bool feas, .int .i64 cost] w (CheckPost a b c u L cost feas w) := by
  have hb0 : ∀ o, Below w.heap.size w (w.alloc o) := fun o => (Below.refl _ _).alloc (Nat.le_refl _) _
  have hof : ∀ o, _ := fun o => of_calls A B C U ca cb cc cu a b c u (w.alloc o) (hw.ext (hb0 o))
  have HV := Lib.hid (checkV_lim (cost := cost) (feas := feas) hok hl.out)
  unfold ofVal at hof
  rw [hok] at hof
  clear hok hw
  have hd : Hid (decide ((65535 : Int) < L.length) = true) := Lib.hid (decide_eq_true (by have := hl.out; omega))
  go_enter Try.func12, Try.ntmps12
  go_wp2_with fail
  refine (hof _).mono ?_; rintro e w1 ⟨rfl, hb1⟩
  have hx1 := ext_trans (hb0 _) hb1
  have hs1 := hx1.size
  have HX := Lib.hid hx1
  clear hb1 hx1 hb0 hof
  have hd2 := hd.out
  go_wp2_with fail
  go_ret2
  unfold CheckPost
  exact ⟨by rw [HV.out]; rfl, HX.out.alloc hs1 _⟩

set_option maxRecDepth 100000 in
set_option maxHeartbeats 1000000 in
theorem check_read (A B C U X : Option Addr) (ca cb cc cu cx : Nat) (a : List (List Int)) (b c u : List Int) (L : List Nd) (cost : Int) (feas : Bool) (w : World)
    (hw : Who w A B C U a b c u) (hok : wholeOk a b c u = true) (hl : Hid (¬ 65535 < L.length)) (hN : Nodes w X L) (hL : L.length ≤ cx) (hcx : cx ≤ maxLen) (hcost : Hid (-9223372036854775808 ≤ cost ∧ cost ≤ 9223372036854775807)) :
    Calls Try.prog 12 #[.agg #[.slice A a.length ca, .slice B b.length cb, .slice C c.length cc, .slice U u.length cu], .slice X L.length cx, .bool feas, .int .i64 cost] w (CheckPost a b c u L cost feas w) := by
  have hb0 : ∀ o, Below w.heap.size w (w.alloc o) := fun o => (Below.refl _ _).alloc (Nat.le_refl _) _
  have hof : ∀ o, _ := fun o => of_calls A B C U ca cb cc cu a b c u (w.alloc o) (hw.ext (hb0 o))
  have HV := Lib.hid (checkV_read (cost := cost) (feas := feas) hok hl.out)
  obtain ⟨hul, h0, h5⟩ := wholeOk_len hok
  have HPE := Lib.hid (pad_ends (u := u) (by unfold wholeOk at hok; simp only [Bool.and_eq_true] at hok; exact hok.1.2) h5)
  have HPR : Hid (progOk a b c = true) := Lib.hid (by unfold wholeOk at hok; simp only [Bool.and_eq_true] at hok; exact hok.2)
  unfold ofVal at hof
  rw [hok] at hof
  have HW := Lib.hid hw; have HN := Lib.hid hN; have HL := Lib.hid hL; have HCX := Lib.hid hcx; have H5 := Lib.hid h5; have HUL := Lib.hid hul
  clear hok hw hN hL hcx h5 h0 hul
  have hd : Hid (decide ((65535 : Int) < L.length) = false) := Lib.hid (decide_eq_false (by have := hl.out; omega))
  go_enter Try.func12, Try.ntmps12
  go_wp2_with fail
  refine (hof _).mono ?_; rintro e w1 ⟨rfl, hb1⟩
  have hx1 := ext_trans (hb0 _) hb1
  have hs1 := hx1.size
  have HX := Lib.hid hx1
  clear hb1 hx1 hb0 hof
  have hd2 := hd.out
  go_wp2_with fail
  clear hd2
  have hx2 : ∀ o1 o2, Below w.heap.size w ((w1.alloc o1).alloc o2) := fun o1 o2 => (HX.out.alloc hs1 _).alloc (by simp; omega) _
  refine (whole_calls A B C U ca cb cc cu c.length a b c u _ (HW.out.ext (hx2 _ _)) H5.out).mono ?_
  rintro e w3 ⟨⟨h0, h1, h2, h3, h4, hp, rfl⟩, hb3⟩
  have R0 : Reader w3 (w1.heap.size + 1) A B C U ca cb cc cu a b c u cost (!feas) (.slice X L.length cx) := Blk.ext (Blk.new' _ [.slice A a.length ca, .slice B b.length cb, .slice C c.length cc, .slice U u.length cu, .int .i64 c.length, .int .i64 cost, .bool (!feas), .slice .none 0 0, .slice X L.length cx] _ _ (by simp)) hb3
  have hx3 := ext_trans (hx2 _ _) hb3
  have hs3 := hx3.size
  have hpe := HPE.out
  rw [hp] at hpe
  have hrd := read_calls (w1.heap.size + 1) A B C U ca cb cc cu a b c u cost (!feas) w HW.out HPR.out (by rw [← HUL.out]; exact H5.out) hcost.out (by omega) (L.length + 1) L 0 0 0 0 0 h0 h1 h2 h3 h4 X cx w3 (Nat.lt_succ_self _) HL.out HCX.out R0 HN.out hx3 ⟨rfl, fun x hx => by simp at hx; omega⟩ hpe
  rw [← hp] at hrd
  have HV2 := HV.out
  obtain ⟨F, hF⟩ : ∃ F, readF a b c cost (!feas) (L.length + 1) L [0, 0, 0, 0, 0] (pad u) = F := ⟨_, rfl⟩
  rw [hF] at hrd HV2
  have HV3 := Lib.hid HV2
  clear HV2 HV hF hpe
  have HB3 := Lib.hid hb3; have HX3 := Lib.hid hx3; have HP := Lib.hid hp
  clear hb3 hx3 hp hx2 R0
  go_wp2_with fail
  refine hrd.mono ?_
  obtain ⟨b1, L1⟩ := F
  rintro e w4 ⟨rfl, X1, cx1, hR, hc1, hm1, hN1, hbut⟩
  dsimp only at hR hc1
  have hs4 := hbut.size
  have hr8 : w4.cell? ⟨w1.heap.size + 1, 8, .none⟩ = some (.slice X1 L1.length cx1) := Blk.cell hR 8 (by simp)
  have hx4 : Hid (Below w.heap.size w w4) := Lib.hid (HX3.out.trans (hbut.below (by omega) hs3))
  have hm1' := hm1
  unfold maxLen at hm1'
  clear hrd hR hN1 hbut hm1
  cases b1
  · go_wp2_with fail
    go_ret2
    unfold CheckPost
    exact ⟨by rw [HV3.out]; rfl, hx4.out⟩
  · cases L1 with
    | nil =>
      go_wp2_with fail
      go_ret2
      unfold CheckPost
      exact ⟨by rw [HV3.out]; rfl, hx4.out⟩
    | cons n L1 =>
      rw [show ((n :: L1).length : Nat) = L1.length + 1 from rfl] at hr8 hc1
      have hz : ((L1.length : Int) + 1 == 0) = false := by simp; omega
      go_wp2_with fail
      go_ret2
      unfold CheckPost
      exact ⟨by rw [HV3.out]; rfl, hx4.out⟩

theorem check_calls (A B C U X : Option Addr) (ca cb cc cu cx : Nat) (a : List (List Int)) (b c u : List Int) (L : List Nd) (cost : Int) (feas : Bool) (w : World)
    (hw : Who w A B C U a b c u) (hN : Nodes w X L) (hL : L.length ≤ cx) (hcx : cx ≤ maxLen) (hcost : -9223372036854775808 ≤ cost ∧ cost ≤ 9223372036854775807) :
    Calls Try.prog 12 #[.agg #[.slice A a.length ca, .slice B b.length cb, .slice C c.length cc, .slice U u.length cu], .slice X L.length cx, .bool feas, .int .i64 cost] w (CheckPost a b c u L cost feas w) := by
  cases hok : wholeOk a b c u
  · exact check_bad A B C U X ca cb cc cu cx a b c u L cost feas w hw hok
  · by_cases hl : 65535 < L.length
    · exact check_lim A B C U X ca cb cc cu cx a b c u L cost feas w hw hok (Lib.hid hl)
    · exact check_read A B C U X ca cb cc cu cx a b c u L cost feas w hw hok (Lib.hid hl) hN hL hcx (Lib.hid hcost)
end Go.Proofs.Ytbdlfjhhgnhejaa
