/- linear.Minimum, Dual, Farkas, Ray. -/
import Derived.Test.YtkljafmdbajfeaaGreatDoorWeA09
import Derived.Test.YtkljafmdbajfeaaGreatDoorWeA42
namespace Go.Proofs.YtkljafmdbajfeaaGreatDoor
open Go.RowKit Go.ChangeMaps
set_option linter.unusedVariables false
set_option linter.unusedSimpArgs false
structure TabOk (g : Nat) (o : Nat → Int) (w : World) : Prop where
 c0 : w.cell? ⟨g, 0, none⟩ = some (.int .i64 (o 0))
 c1 : w.cell? ⟨g, 1, none⟩ = some (.int .i64 (o 1))
 c2 : w.cell? ⟨g, 2, none⟩ = some (.int .i64 (o 2))
theorem TabOk.ext {g : Nat} {o : Nat → Int} {w w' : World} (h : TabOk g o w) (hb : Below w.heap.size w w') : TabOk g o w' := by
 have hc : ∀ k x, w.cell? ⟨g, k, none⟩ = some x → w'.cell? ⟨g, k, none⟩ = some x := fun k x e => (hb.cell (p := ⟨g, k, none⟩) (cell_lt e)).trans e
 exact ⟨hc _ _ h.c0, hc _ _ h.c1, hc _ _ h.c2⟩
def costsO (s : Nat) : Int := if s = 0 then 0 else if s = 1 then 10 else 11
def plansO (_ : Nat) : Int := 10
theorem enter_at {f : FuncId} {fn : Func} {c : Code} (hf : Tryz.prog.funcs[f]? = some fn) (hname : (fn.name == "runtime.NumGoroutine") = false) (hb : fn.body = some c) (args : Array Value) (w : World) : (callFunc f args).run Tryz.prog w = .ok (.enter f args) w := by
 have h1 : fn.name ≠ "runtime.NumGoroutine" := by simpa using hname
 simp [callFunc, hf, h1, hb]
set_option maxRecDepth 100000 in
set_option maxHeartbeats 1000000 in
theorem minimum_take (W : World) (s : Value) (A1 : Option Addr) (n1 c1 : Nat) (A2 : Option Addr) (n2 c2 : Nat) : Calls Tryz.prog 64 #[.agg #[s, .slice A1 n1 c1, .slice A2 n2 c2]] W fun e w' => e = .returned (if true then .slice A1 n1 c1 else .slice A2 n2 c2) ∧ Below W.heap.size W w' := by
 have hb := Blk.new W [s, .slice A1 n1 c1, .slice A2 n2 c2] 84
 have q1 := hb.cell 1 (by simp)
 simp only [List.getElem_cons_zero, List.getElem_cons_succ] at q1
 have hA : Below W.heap.size W (W.alloc (.cells #[s, .slice A1 n1 c1, .slice A2 n2 c2] 84 (0, 0))) := (Below.refl _ _).alloc (Nat.le_refl _) _
 have HA := Lib.hid hA
 clear hb hA
 go_enter Tryz.func64, Tryz.ntmps64
 go_wp2
 go_ret
 exact ⟨rfl, HA.out⟩
set_option maxRecDepth 100000 in
set_option maxHeartbeats 2000000 in
theorem minimum_calls (A B C : Option Addr) (ca cb cc : Nat) (a : List (List Int)) (b c : List Int) (w : World) (h : Prog3 w A B C a b c) (hc : TabOk 0 costsO w) :
  Calls Tryz.prog 16 #[.agg #[.slice A a.length ca, .slice B b.length cb, .slice C c.length cc]] w fun e w' => OfPost a b c 0 costsO true w w' e ∧ Below w.heap.size w w' := by
 have hb0 : Below w.heap.size w (w.alloc (.cells #[.slice A a.length ca, .slice B b.length cb, .slice C c.length cc] 25 (0, 0))) := (Below.refl _ _).alloc (Nat.le_refl _) _
 have hb1 : Below w.heap.size w ((w.alloc (.cells #[.slice A a.length ca, .slice B b.length cb, .slice C c.length cc] 25 (0, 0))).alloc (.cells #[.slice none 0 0, .int .i64 0] 29 (0, 0))) := hb0.alloc (by simp) _
 have bk := Blk.new (w.alloc (.cells #[.slice A a.length ca, .slice B b.length cb, .slice C c.length cc] 25 (0, 0))) [.slice none 0 0, .int .i64 0] 29
 have hsz : (w.alloc (.cells #[.slice A a.length ca, .slice B b.length cb, .slice C c.length cc] 25 (0, 0))).heap.size = w.heap.size + 1 := by simp
 rw [hsz] at bk
 clear hsz
 obtain ⟨g0, g1, g2⟩ := hc.ext hb1
 have HOF := Lib.hid (of_any A B C ca cb cc a b c 0 costsO true 64 _ (h.ext hb1) (by omega) (by intro h; first | decide | cases h) (by intro h; first | decide | cases h) (enter_at Tryz.func64 (by kernel_rfl) rfl) minimum_take)
 have HB1 := Lib.hid hb1; have HBK := Lib.hid bk
 clear hb0 hb1 bk h hc
 go_enter Tryz.func16, Tryz.ntmps16
 go_wp2_with fail
 refine HOF.out.mono ?_; rintro e w2 ⟨hpost, hb2⟩
 have bl2 := HBK.out.ext hb2
 obtain ⟨rp, hrp⟩ : ∃ rp, w.heap.size + 1 = rp := ⟨_, rfl⟩
 rw [hrp] at bl2 ⊢
 have hB2 := HB1.out.trans (hb2.mono HB1.out.size)
 have hrl := HBK.out.lt
 have hsz := hb2.size
 have c0 := bl2.cell 0 (by simp)
 have c1 := bl2.cell 1 (by simp)
 have f0 := bl2.free 0
 have f1 := bl2.free 1
 simp only [List.getElem_cons_zero, List.getElem_cons_succ] at c0 c1
 obtain ⟨PA, PN, PC, d, k, rfl, hfin⟩ : ∃ (PA : Option Addr) (PN PC : Nat) (d k : Int), e = .returned (.tuple #[.agg #[.slice PA PN PC, .int .i64 d], .int .i64 k]) ∧ OfPost a b c 0 costsO true w ((w2.setCell ⟨rp, 0, none⟩ (.slice PA PN PC)).setCell ⟨rp, 1, none⟩ (.int .i64 d)) e := by
  rcases hpost with ⟨h1, h2⟩ | ⟨h1, s, x, y, h3, h4, h5⟩
  ·exact ⟨none, 0, 0, 0, 2, h2, .inl ⟨h1, h2⟩⟩
  ·rcases h5 with ⟨h5, h6⟩ | ⟨h5, g, xs, d, h6, h7, h8, h9⟩
   ·exact ⟨none, 0, 0, 0, _, h6, .inr ⟨h1, s, x, y, h3, h4, .inl ⟨h5, h6⟩⟩⟩
   ·refine ⟨_, _, _, d, 0, h6, .inr ⟨h1, s, x, y, h3, h4, .inr ⟨h5, g, xs, d, h6, Nat.le_trans HB1.out.size h7, h8.but (((But.refl rp w2).set 0 _).set 1 _) (by omega), h9⟩⟩⟩
 have bl3 := (bl2.set 0 (.slice PA PN PC)).set 1 (.int .i64 d)
 have q0 := bl3.cell 0 (by simp)
 have q1 := bl3.cell 1 (by simp)
 simp only [List.getElem_cons_zero, List.getElem_cons_succ, List.set_cons_zero, List.set_cons_succ] at q0 q1
 have HBF := Lib.hid ((hB2.setCell (p := ⟨rp, 0, none⟩) (by show _ ≤ rp; omega) (.slice PA PN PC)).setCell (p := ⟨rp, 1, none⟩) (by show _ ≤ rp; omega) (.int .i64 d))
 have HFN := Lib.hid hfin
 clear hpost hb2 bl2 bl3 hB2 hfin HOF HBK hrl hsz hrp
 go_wp2
 (try simp only [Exit.inBlock, Exit.then])
 refine bodyPost_ret (v := .tuple #[.agg #[.slice PA PN PC, .int .i64 d], .int .i64 k]) (by simp [results, Tryz.results16, go_sem, q0, q1]) rfl ⟨HFN.out, HBF.out⟩
set_option maxRecDepth 100000 in
set_option maxHeartbeats 1000000 in
theorem ray1_take (W : World) (s : Value) (A1 : Option Addr) (n1 c1 : Nat) (A2 : Option Addr) (n2 c2 : Nat) : Calls Tryz.prog 74 #[.agg #[s, .slice A1 n1 c1, .slice A2 n2 c2]] W fun e w' => e = .returned (if true then .slice A1 n1 c1 else .slice A2 n2 c2) ∧ Below W.heap.size W w' := by
 have hb := Blk.new W [s, .slice A1 n1 c1, .slice A2 n2 c2] 84
 have q1 := hb.cell 1 (by simp)
 simp only [List.getElem_cons_zero, List.getElem_cons_succ] at q1
 have hA : Below W.heap.size W (W.alloc (.cells #[s, .slice A1 n1 c1, .slice A2 n2 c2] 84 (0, 0))) := (Below.refl _ _).alloc (Nat.le_refl _) _
 have HA := Lib.hid hA
 clear hb hA
 go_enter Tryz.func74, Tryz.ntmps74
 go_wp2
 go_ret
 exact ⟨rfl, HA.out⟩
set_option maxRecDepth 100000 in
set_option maxHeartbeats 2000000 in
theorem ray1_calls (A B C : Option Addr) (ca cb cc : Nat) (a : List (List Int)) (b c : List Int) (w : World) (h : Prog3 w A B C a b c) (hc : TabOk 1 plansO w) :
  Calls Tryz.prog 23 #[.agg #[.slice A a.length ca, .slice B b.length cb, .slice C c.length cc]] w fun e w' => OfPost a b c 2 plansO true w w' e ∧ Below w.heap.size w w' := by
 have hb0 : Below w.heap.size w (w.alloc (.cells #[.slice A a.length ca, .slice B b.length cb, .slice C c.length cc] 25 (0, 0))) := (Below.refl _ _).alloc (Nat.le_refl _) _
 have hb1 : Below w.heap.size w ((w.alloc (.cells #[.slice A a.length ca, .slice B b.length cb, .slice C c.length cc] 25 (0, 0))).alloc (.cells #[.slice none 0 0, .int .i64 0] 29 (0, 0))) := hb0.alloc (by simp) _
 have bk := Blk.new (w.alloc (.cells #[.slice A a.length ca, .slice B b.length cb, .slice C c.length cc] 25 (0, 0))) [.slice none 0 0, .int .i64 0] 29
 have hsz : (w.alloc (.cells #[.slice A a.length ca, .slice B b.length cb, .slice C c.length cc] 25 (0, 0))).heap.size = w.heap.size + 1 := by simp
 rw [hsz] at bk
 clear hsz
 obtain ⟨g0, g1, g2⟩ := hc.ext hb1
 have HOF := Lib.hid (of_any A B C ca cb cc a b c 2 plansO true 74 _ (h.ext hb1) (by omega) (by intro h; first | decide | cases h) (by intro h; first | decide | cases h) (enter_at Tryz.func74 (by kernel_rfl) rfl) ray1_take)
 have HB1 := Lib.hid hb1; have HBK := Lib.hid bk
 clear hb0 hb1 bk h hc
 go_enter Tryz.func23, Tryz.ntmps23
 go_wp2_with fail
 refine HOF.out.mono ?_; rintro e w2 ⟨hpost, hb2⟩
 have bl2 := HBK.out.ext hb2
 obtain ⟨rp, hrp⟩ : ∃ rp, w.heap.size + 1 = rp := ⟨_, rfl⟩
 rw [hrp] at bl2 ⊢
 have hB2 := HB1.out.trans (hb2.mono HB1.out.size)
 have hrl := HBK.out.lt
 have hsz := hb2.size
 have c0 := bl2.cell 0 (by simp)
 have c1 := bl2.cell 1 (by simp)
 have f0 := bl2.free 0
 have f1 := bl2.free 1
 simp only [List.getElem_cons_zero, List.getElem_cons_succ] at c0 c1
 obtain ⟨PA, PN, PC, d, k, rfl, hfin⟩ : ∃ (PA : Option Addr) (PN PC : Nat) (d k : Int), e = .returned (.tuple #[.agg #[.slice PA PN PC, .int .i64 d], .int .i64 k]) ∧ OfPost a b c 2 plansO true w ((w2.setCell ⟨rp, 0, none⟩ (.slice PA PN PC)).setCell ⟨rp, 1, none⟩ (.int .i64 d)) e := by
  rcases hpost with ⟨h1, h2⟩ | ⟨h1, s, x, y, h3, h4, h5⟩
  ·exact ⟨none, 0, 0, 0, 2, h2, .inl ⟨h1, h2⟩⟩
  ·rcases h5 with ⟨h5, h6⟩ | ⟨h5, g, xs, d, h6, h7, h8, h9⟩
   ·exact ⟨none, 0, 0, 0, _, h6, .inr ⟨h1, s, x, y, h3, h4, .inl ⟨h5, h6⟩⟩⟩
   ·refine ⟨_, _, _, d, 0, h6, .inr ⟨h1, s, x, y, h3, h4, .inr ⟨h5, g, xs, d, h6, Nat.le_trans HB1.out.size h7, h8.but (((But.refl rp w2).set 0 _).set 1 _) (by omega), h9⟩⟩⟩
 have bl3 := (bl2.set 0 (.slice PA PN PC)).set 1 (.int .i64 d)
 have q0 := bl3.cell 0 (by simp)
 have q1 := bl3.cell 1 (by simp)
 simp only [List.getElem_cons_zero, List.getElem_cons_succ, List.set_cons_zero, List.set_cons_succ] at q0 q1
 have HBF := Lib.hid ((hB2.setCell (p := ⟨rp, 0, none⟩) (by show _ ≤ rp; omega) (.slice PA PN PC)).setCell (p := ⟨rp, 1, none⟩) (by show _ ≤ rp; omega) (.int .i64 d))
 have HFN := Lib.hid hfin
 clear hpost hb2 bl2 bl3 hB2 hfin HOF HBK hrl hsz hrp
 go_wp2
 (try simp only [Exit.inBlock, Exit.then])
 refine bodyPost_ret (v := .tuple #[.agg #[.slice PA PN PC, .int .i64 d], .int .i64 k]) (by simp [results, Tryz.results23, go_sem, q0, q1]) rfl ⟨HFN.out, HBF.out⟩
end Go.Proofs.YtkljafmdbajfeaaGreatDoor

/- linear.Feasible: what it answers. -/
namespace Go.Proofs.YtkljafmdbajfeaaGreatDoor
open Go.RowKit
set_option linter.unusedVariables false
set_option linter.unusedSimpArgs false
def nnB (xs : List Int) : Bool := xs.all fun x => decide (0 ≤ x)
theorem nnB_any (xs : List Int) : (xs.any fun x => decide (x < 0)) = !nnB xs := by
 unfold nnB
 induction xs with
 | nil => rfl
 | cons x xs ih =>
   rw [List.any_cons, List.all_cons, ih]
   by_cases h : x < 0
   ·rw [decide_eq_true h, decide_eq_false (show ¬ 0 ≤ x by omega)]; rfl
   ·rw [decide_eq_false h, decide_eq_true (show 0 ≤ x by omega)]; simp
def feasS (a : List (List Int)) (b c xs : List Int) (d : Int) : Bool := progOk a b c && pointOk c.length xs d && nnB xs && (List.range a.length).all fun i => decide (nth b i * d ≤ dotZ (nrow a i) xs)
theorem all_range_true {n : Nat} {p : Nat → Bool} (h : ∀ i, i < n → p i = true) : (List.range n).all p = true := List.all_eq_true.2 fun i hi => h i (List.mem_range.1 hi)
theorem all_range_false {n i : Nat} {p : Nat → Bool} (hi : i < n) (h : p i = false) : (List.range n).all p = false := by
 cases e : (List.range n).all p with
 | false => rfl
 | true => have := List.all_eq_true.1 e i (List.mem_range.2 hi); rw [h] at this; cases this
theorem negative_calls (x : Int) (w : World) : Calls Tryz.prog 99 #[.int .i64 x] w fun e w' => e = .returned (.bool (decide (x < 0))) ∧ w' = w := by
 go_enter Tryz.func99, Tryz.ntmps99
 go_wp2
 go_ret
 exact ⟨rfl, rfl⟩
theorem negative_tells (w : World) (xs : List Int) : Tells 99 #[] (fun x => decide (x < 0)) w xs :=
 ⟨fun _ _ => by kernel_rfl, fun x _ w1 hb => (negative_calls x w1).mono fun e w2 ⟨he, hw⟩ => ⟨he, by rw [hw]; exact Below.refl _ _⟩⟩
theorem point_small {a : List (List Int)} {b c xs : List Int} {d : Int} (h1 : progOk a b c = true) (h2 : pointOk c.length xs d = true) {i : Nat} (hi : i < a.length) : Small (nrow a i) xs ∧ (nrow a i).length ≤ xs.length ∧ (nrow a i).length = c.length := by
 obtain ⟨⟨k1, k2⟩, k3, k4, k5, k6, k7⟩ := progOk_parts h1
 obtain ⟨p1, p2, p3, p4⟩ := pointOk_parts h2
 obtain ⟨r1, r2⟩ := k4 _ (nrow_mem hi)
 exact ⟨small_of r2 p4 (by omega) (by omega) (n := 6) (by omega) (by omega) (by omega), by omega, r1⟩
set_option maxRecDepth 100000 in
set_option maxHeartbeats 4000000 in
theorem feasibleL_calls (A B C X : Option Addr) (ca cb cc cx : Nat) (a : List (List Int)) (b c xs : List Int) (d : Int) (w : World) (h : Prog3 w A B C a b c) (hX : Ints w X xs) (hm : xs.length ≤ maxLen) :
  Calls Tryz.prog 40 #[.agg #[.slice A a.length ca, .slice B b.length cb, .slice C c.length cc], .agg #[.slice X xs.length cx, .int .i64 d]] w fun e w' => e = .returned (.bool (feasS a b c xs d)) ∧ Below w.heap.size w w' := by
 obtain ⟨wa, hwa⟩ : ∃ wa, w.alloc (.cells #[.slice A a.length ca, .slice B b.length cb, .slice C c.length cc] 25 (0, 0)) = wa := ⟨_, rfl⟩
 obtain ⟨wb, hwb⟩ : ∃ wb, wa.alloc (.cells #[.slice X xs.length cx, .int .i64 d] 29 (0, 0)) = wb := ⟨_, rfl⟩
 have hlc := h.lc
 have sa : wa.heap.size = w.heap.size + 1 := by rw [← hwa]; simp
 have ba : Blk wa w.heap.size [.slice A a.length ca, .slice B b.length cb, .slice C c.length cc] 25 := by rw [← hwa]; exact Blk.new _ _ _
 have bb : Blk wb (w.heap.size + 1) [.slice X xs.length cx, .int .i64 d] 29 := by rw [← hwb, ← sa]; exact Blk.new _ _ _
 have ea : Below w.heap.size w wa := by rw [← hwa]; exact (Below.refl _ _).alloc (Nat.le_refl _) _
 have eb : Below wa.heap.size wa wb := by rw [← hwb]; exact (Below.refl _ _).alloc (Nat.le_refl _) _
 have e2 : Below w.heap.size w wb := ea.trans (eb.mono (by omega))
 have HBA := Lib.hid (ba.ext eb); have HBB := Lib.hid bb; have HE2 := Lib.hid e2
 have HP := Lib.hid h; have HX := Lib.hid hX
 have HV := Lib.hid (valid_calls A B C ca cb cc a b c wb (h.ext e2))
 have p0 := (ba.ext eb).cell 0 (by simp)
 have p1 := (ba.ext eb).cell 1 (by simp)
 have p2 := (ba.ext eb).cell 2 (by simp)
 simp only [List.getElem_cons_zero, List.getElem_cons_succ] at p0 p1 p2
 rw [← hwb, ← hwa] at p0 p1 p2
 have HWA := Lib.hid hwa; have HWB := Lib.hid hwb
 clear ba bb ea eb e2 h hX sa hwa hwb
 go_enter Tryz.func40, Tryz.ntmps40
 go_wp2_with fail
 rw [HWA.out, HWB.out]
 clear p0 p1 p2
 obtain ⟨bp, hbp⟩ : ∃ bp, w.heap.size = bp := ⟨_, rfl⟩
 obtain ⟨xp, hxp⟩ : ∃ xp, w.heap.size + 1 = xp := ⟨_, rfl⟩
 rw [hbp] at HBA
 rw [hxp] at HBB
 rw [hxp, hbp]
 have HBP := Lib.hid hbp
 clear hbp hxp
 refine HV.out.mono ?_; rintro e w1 ⟨rfl, hb1⟩
 have HB1 := Lib.hid (HE2.out.trans (hb1.mono HE2.out.size)); have HBA1 := Lib.hid (HBA.out.ext hb1); have HBB1 := Lib.hid (HBB.out.ext hb1)
 clear hb1 HV HBA HBB HE2
 cases hv : progOk a b c with
 | false =>
   have HVV := Lib.hid hv
   clear hv
   go_wp2
   go_ret
   exact ⟨by unfold feasS; rw [HVV.out]; rfl, HB1.out⟩
 | true =>
   have HVV := Lib.hid hv
   clear hv
   have k0 := HBA1.out.cell 0 (by simp)
   have k2 := HBA1.out.cell 2 (by simp)
   have x0 := HBB1.out.cell 0 (by simp)
   have x1 := HBB1.out.cell 1 (by simp)
   simp only [List.getElem_cons_zero, List.getElem_cons_succ] at k0 k2 x0 x1
   have HPR := Lib.hid (proper_calls X cx xs d c.length w1 hm hlc (HX.out.ext HB1.out))
   go_wp2_with fail
   refine HPR.out.mono ?_; rintro e w2 ⟨rfl, hb2⟩
   have HB2 := Lib.hid (HB1.out.trans (hb2.mono HB1.out.size)); have HBA2 := Lib.hid (HBA1.out.ext hb2); have HBB2 := Lib.hid (HBB1.out.ext hb2)
   clear hb2 HPR HBA1 HBB1 HB1 k0 k2 x0 x1
   cases hp : pointOk c.length xs d with
   | false =>
     have HPP := Lib.hid hp
     clear hp
     go_wp2
     go_ret
     exact ⟨by unfold feasS; rw [HVV.out, HPP.out]; rfl, HB2.out⟩
   | true =>
     have HPP := Lib.hid hp
     clear hp
     have k0 := HBA2.out.cell 0 (by simp)
     have x0 := HBB2.out.cell 0 (by simp)
     simp only [List.getElem_cons_zero] at k0 x0
     have hcf := containsFunc_int 99 #[] (fun x => decide (x < 0)) X cx xs w2 hm (HX.out.ext HB2.out) (negative_tells w2 xs)
     have HCF := Lib.hid hcf
     clear hcf
     go_wp2_with fail
     refine HCF.out.mono ?_; rintro e w3 ⟨rfl, hb3⟩
     rw [nnB_any]
     have HB3 := Lib.hid (HB2.out.trans (hb3.mono HB2.out.size)); have HBA3 := Lib.hid (HBA2.out.ext hb3); have HBB3 := Lib.hid (HBB2.out.ext hb3)
     clear hb3 HCF HBA2 HBB2 HB2 k0 x0
     cases hn : nnB xs with
     | false =>
       have HNN := Lib.hid hn
       clear hn
       go_wp2
       go_ret
       exact ⟨by unfold feasS; rw [HVV.out, HPP.out, HNN.out]; rfl, HB3.out⟩
     | true =>
       have HNN := Lib.hid hn
       clear hn
       have k0 := HBA3.out.cell 0 (by simp)
       simp only [List.getElem_cons_zero] at k0
       obtain ⟨⟨q1, q2⟩, q3, q4, q5, q6, q7⟩ := progOk_parts HVV.out
       obtain ⟨p1, p2, p3, p4⟩ := pointOk_parts HPP.out
       have H5 := Lib.hid q5; have H6 := Lib.hid q6; have H1 := Lib.hid p1
       clear q4 q5 q6 q7 p1 p4
       go_wp2_with fail
       go_loopw [26] (fun ti wr => ∃ (i : Nat), i ≤ a.length ∧ ti = .int .i64 i ∧ Hid (∀ k, k < i → nth b k * d ≤ dotZ (nrow a k) xs) ∧ Hid (Below w3.heap.size w3 wr)) (fun ti _ => a.length - (intOf ti).toNat)
       case atStart => exact ⟨0, Nat.zero_le _, rfl, Lib.hid (fun k hk => by omega), Lib.hid (Below.refl _ _)⟩
       case round =>
        obtain ⟨i, hi, rfl, hD, hbe⟩ := hrel
        clear k0
        by_cases hlt : i < a.length
        ·have hi1 : (i : Int) < a.length := by omega
         have hbw := HB3.out.trans (hbe.out.mono HB3.out.size)
         have hP := HP.out.ext hbw
         obtain ⟨bb, o, R, cR, rfl, hc, hcR, hints⟩ := hP.ga i hlt
         obtain ⟨bb2, o2, rfl, hcb⟩ := hP.gb i (by have := H5.out; omega)
         have k1 := (HBA3.out.ext hbe.out).cell 1 (by simp)
         have x0 := (HBB3.out.ext hbe.out).cell 0 (by simp)
         have x1 := (HBB3.out.ext hbe.out).cell 1 (by simp)
         simp only [List.getElem_cons_zero, List.getElem_cons_succ] at k1 x0 x1
         obtain ⟨hs, hl, -⟩ := point_small HVV.out HPP.out hlt
         have HDT := Lib.hid (fun W (hW : Below wr.heap.size wr W) => linDot_calls R X cR cx (nrow a i) xs W hl (by omega) (hints.ext hW) ((HX.out.ext hbw).ext hW) hs)
         have hbl : (i : Int) < b.length := by have := H5.out; omega
         have hbd : -4611686018427387904 ≤ nth b i * d ∧ nth b i * d ≤ 4611686018427387904 := by
          have h1 := listOk_nth H6.out (i := i) (by have := H5.out; omega)
          have h2 := mul_bd (a := 1000) (b := 1125899906842624) (x := nth b i) (y := d) (by omega) h1 (by omega)
          omega
         obtain ⟨bi, hbi⟩ : ∃ bi, nth b i = bi := ⟨_, rfl⟩
         rw [hbi] at hbd hcb
         obtain ⟨bd, hbdd⟩ : ∃ bd, bi * d = bd := ⟨_, rfl⟩
         have wq1 : IntKind.i64.wrap (bi * d) = bd := by rw [IntKind.wrap_i64, ← hbdd]; omega
         have HBI := Lib.hid hbi; have HBD := Lib.hid hbdd
         clear hbi hbdd
         have HBW := Lib.hid hbw
         clear hP hcR hints hs hbw hbd
         go_wp2_with fail
         refine wp_region_keys (w0 := wr) 12 [31, 32, 33, 34, 35, 36, 37, 38, 39, 40, 41, 42]
          [leafS 31 (.slice R (nrow a i).length cR), leafS 32 (.pointer (some ⟨xp, 0, none⟩)), leafS 33 (.slice X xs.length cx), leafS 34 (.int .i64 (dotZ (nrow a i) xs)), leafS 35 (.pointer (some ⟨bp, 1, none⟩)), leafS 36 (.slice (some ⟨bb2, o2, none⟩) b.length cb), leafS 37 (.int .i64 i), leafS 38 (.pointer (some ⟨bb2, o2 + i, none⟩)), leafS 39 (.int .i64 bi), leafS 40 (.pointer (some ⟨xp, 1, none⟩)), leafS 41 (.int .i64 d), leafS 42 (.int .i64 bd)]
          [] [none, none, none, none, none, none, none, none, none, none, none, none] (fun _ _ => False) (by kernel_rfl) (by kernel_rfl) (by kernel_rfl) rfl (F := ?cFr6) ?r6c1 ?r6c2 ?r6c3 ?r6c4
         case r6c1 =>
          intro x
          simp only [fullF, Act.put, List.setIfInBounds_toArray, List.set_cons_zero, List.set_cons_succ]
          rfl
         case r6c2 =>
          exact ⟨keeps_const _ _ _ _ _ _ _, keeps_const _ _ _ _ _ _ _, keeps_const _ _ _ _ _ _ _, keeps_const _ _ _ _ _ _ _, keeps_const _ _ _ _ _ _ _, keeps_const _ _ _ _ _ _ _, keeps_const _ _ _ _ _ _ _, keeps_const _ _ _ _ _ _ _, keeps_const _ _ _ _ _ _ _, keeps_const _ _ _ _ _ _ _, keeps_const _ _ _ _ _ _ _, keeps_const _ _ _ _ _ _ _, trivial⟩
         case r6c3 =>
          refine ⟨?_, ?_, ?_, ?_, ?_, ?_, ?_, ?_, ?_, ?_, ?_, ?_, trivial⟩
          all_goals
           intro xx wq HE hd K hK
           have hc := (bcell HE).1
           have k1' := (hc _ _ (cell_lt k1)).trans k1
           have x0' := (hc _ _ (cell_lt x0)).trans x0
           have x1' := (hc _ _ (cell_lt x1)).trans x1
           have hcb' := (hc _ _ (cell_lt hcb)).trans hcb
           try have e0 : xx 31 = _ := hd 0 _ (by decide) rfl
           try have e1 : xx 32 = _ := hd 1 _ (by decide) rfl
           try have e2 : xx 33 = _ := hd 2 _ (by decide) rfl
           try have e3 : xx 34 = _ := hd 3 _ (by decide) rfl
           try have e4 : xx 35 = _ := hd 4 _ (by decide) rfl
           try have e5 : xx 36 = _ := hd 5 _ (by decide) rfl
           try have e6 : xx 37 = _ := hd 6 _ (by decide) rfl
           try have e7 : xx 38 = _ := hd 7 _ (by decide) rfl
           try have e8 : xx 39 = _ := hd 8 _ (by decide) rfl
           try have e9 : xx 40 = _ := hd 9 _ (by decide) rfl
           try have e10 : xx 41 = _ := hd 10 _ (by decide) rfl
           try have e11 : xx 42 = _ := hd 11 _ (by decide) rfl
           have HE := Lib.hid HE
           have HC := Lib.hid hc
           clear hd hc
           all_goals go_simp
           try (refine hK _ _ _ (mv_const _ rfl) ?_; dsimp only [Act.put]; first | done | rfl | (simp [*]; done))
          ·refine (HDT.out wq HE.out).mono ?_
           rintro e w2 ⟨rfl, kq, hkq⟩
           exact hK _ _ _ (mv_plain (by rw [hkq]; exact drewN_below _ _) rfl rfl) (by first | (dsimp only [Act.put]; done) | (dsimp only [Act.put]; first | rfl | (simp [*]; done) | (simp [*, ptr]; done)))
         case r6c4 =>
          intro xx wz hE hG hA
          have e0 : xx 31 = _ := hG 0 _ rfl
          have e1 : xx 32 = _ := hG 1 _ rfl
          have e2 : xx 33 = _ := hG 2 _ rfl
          have e3 : xx 34 = _ := hG 3 _ rfl
          have e4 : xx 35 = _ := hG 4 _ rfl
          have e5 : xx 36 = _ := hG 5 _ rfl
          have e6 : xx 37 = _ := hG 6 _ rfl
          have e7 : xx 38 = _ := hG 7 _ rfl
          have e8 : xx 39 = _ := hG 8 _ rfl
          have e9 : xx 40 = _ := hG 9 _ rfl
          have e10 : xx 41 = _ := hG 10 _ rfl
          have e11 : xx 42 = _ := hG 11 _ rfl
          have HE := Lib.hid (hbe.out.trans (hE.mono hbe.out.size))
          clear hG hA hE
          (refine tail_one (i := 12) (by kernel_rfl) rfl ?_; intro K hK; go_simp; refine hK _ _ ?_; clear hK)
          refine wpAny_done (by kernel_rfl) ?_ _
          obtain ⟨dz, hdz⟩ : ∃ dz, dotZ (nrow a i) xs = dz := ⟨_, rfl⟩
          rw [hdz]
          have HDZ := Lib.hid hdz
          clear hdz
          by_cases hlz : dz < bd
          ·have hd2 : decide (dz < bd) = true := decide_eq_true hlz
           have HLZ := Lib.hid hlz
           go_wp2
           go_ret
           refine ⟨?_, HB3.out.trans (HE.out.mono HB3.out.size)⟩
           unfold feasS
           rw [all_range_false (i := i) (by omega) (decide_eq_false (by rw [HBI.out, HBD.out, HDZ.out]; have := HLZ.out; omega)), Bool.and_false]; rfl
          ·have hd2 : decide (dz < bd) = false := decide_eq_false hlz
           have HN2 : Hid (∀ k, k < i + 1 → nth b k * d ≤ dotZ (nrow a k) xs) := Lib.hid (fun k hk => by
            by_cases e : k = i
            ·subst e; rw [HBI.out, HBD.out, HDZ.out]; omega
            ·exact hD.out k (by omega))
           clear hD
           go_wp2
           go_roundw
           case rel => exact ⟨i + 1, by omega, by go_num, HN2, HE⟩
           case measure => simp [intOf]; omega
        ·obtain rfl : i = a.length := by omega
         go_wp2
         go_ret
         exact ⟨by unfold feasS; rw [HVV.out, HPP.out, HNN.out, all_range_true fun i hi => decide_eq_true (hD.out i hi)]; rfl, HB3.out.trans (hbe.out.mono HB3.out.size)⟩
end Go.Proofs.YtkljafmdbajfeaaGreatDoor
