/- linear.Minimum, Dual, Farkas, Ray. -/
import Derived.Test.YtkljafmdbajfeaaGreatDoorDuA08
import Derived.Test.YtkljafmdbajfeaaGreatDoorDuA41
namespace Go.Proofs.YtkljafmdbajfeaaGreatDoor
open Go.RowKit Go.ChangeMaps
set_option linter.unusedVariables false
set_option linter.unusedSimpArgs false
structure TabOk (g : Nat) (o : Nat → Int) (w : World) : Prop where
 c0 : w.cell? ⟨g, 0, none⟩ = some (.int .i64 (o 0))
 c1 : w.cell? ⟨g, 1, none⟩ = some (.int .i64 (o 1))
 c2 : w.cell? ⟨g, 2, none⟩ = some (.int .i64 (o 2))
theorem TabOk.ext {g : Nat} {o : Nat → Int} {w w' : World} (h : TabOk g o w) (hb : Below w.heap.size w w') : TabOk g o w' := by
 have hc : ∀ k x, w.cell? ⟨g, k, none⟩ = some x → w'.cell? ⟨g, k, none⟩ = some x := fun k x e => (hb.cell (p := ⟨g, k, none⟩) (cell_lt e)).trans e
 exact ⟨hc _ _ h.c0, hc _ _ h.c1, hc _ _ h.c2⟩
def costsO (s : Nat) : Int := if s = 0 then 0 else if s = 1 then 10 else 11
def plansO (_ : Nat) : Int := 10
theorem enter_at {f : FuncId} {fn : Func} {c : Code} (hf : Tryz.prog.funcs[f]? = some fn) (hname : (fn.name == "runtime.NumGoroutine") = false) (hb : fn.body = some c) (args : Array Value) (w : World) : (callFunc f args).run Tryz.prog w = .ok (.enter f args) w := by
 have h1 : fn.name ≠ "runtime.NumGoroutine" := by simpa using hname
 simp [callFunc, hf, h1, hb]
set_option maxRecDepth 100000 in
set_option maxHeartbeats 1000000 in
theorem minimum_take (W : World) (s : Value) (A1 : Option Addr) (n1 c1 : Nat) (A2 : Option Addr) (n2 c2 : Nat) : Calls Tryz.prog 64 #[.agg #[s, .slice A1 n1 c1, .slice A2 n2 c2]] W fun e w' => e = .returned (if true then .slice A1 n1 c1 else .slice A2 n2 c2) ∧ Below W.heap.size W w' := by
 have hb := Blk.new W [s, .slice A1 n1 c1, .slice A2 n2 c2] 84
 have q1 := hb.cell 1 (by simp)
 simp only [List.getElem_cons_zero, List.getElem_cons_succ] at q1
 have hA : Below W.heap.size W (W.alloc (.cells #[s, .slice A1 n1 c1, .slice A2 n2 c2] 84 (0, 0))) := (Below.refl _ _).alloc (Nat.le_refl _) _
 have HA := Lib.hid hA
 clear hb hA
 go_enter Tryz.func64, Tryz.ntmps64
 go_wp2
 go_ret
 exact ⟨rfl, HA.out⟩
set_option maxRecDepth 100000 in
set_option maxHeartbeats 2000000 in
theorem minimum_calls (A B C : Option Addr) (ca cb cc : Nat) (a : List (List Int)) (b c : List Int) (w : World) (h : Prog3 w A B C a b c) (hc : TabOk 0 costsO w) :
  Calls Tryz.prog 16 #[.agg #[.slice A a.length ca, .slice B b.length cb, .slice C c.length cc]] w fun e w' => OfPost a b c 0 costsO true w w' e ∧ Below w.heap.size w w' := by
 have hb0 : Below w.heap.size w (w.alloc (.cells #[.slice A a.length ca, .slice B b.length cb, .slice C c.length cc] 25 (0, 0))) := (Below.refl _ _).alloc (Nat.le_refl _) _
 have hb1 : Below w.heap.size w ((w.alloc (.cells #[.slice A a.length ca, .slice B b.length cb, .slice C c.length cc] 25 (0, 0))).alloc (.cells #[.slice none 0 0, .int .i64 0] 29 (0, 0))) := hb0.alloc (by simp) _
 have bk := Blk.new (w.alloc (.cells #[.slice A a.length ca, .slice B b.length cb, .slice C c.length cc] 25 (0, 0))) [.slice none 0 0, .int .i64 0] 29
 have hsz : (w.alloc (.cells #[.slice A a.length ca, .slice B b.length cb, .slice C c.length cc] 25 (0, 0))).heap.size = w.heap.size + 1 := by simp
 rw [hsz] at bk
 clear hsz
 obtain ⟨g0, g1, g2⟩ := hc.ext hb1
 have HOF := Lib.hid (of_any A B C ca cb cc a b c 0 costsO true 64 _ (h.ext hb1) (by omega) (by intro h; first | decide | cases h) (by intro h; first | decide | cases h) (enter_at Tryz.func64 (by kernel_rfl) rfl) minimum_take)
 have HB1 := Lib.hid hb1; have HBK := Lib.hid bk
 clear hb0 hb1 bk h hc
 go_enter Tryz.func16, Tryz.ntmps16
 go_wp2_with fail
 refine HOF.out.mono ?_; rintro e w2 ⟨hpost, hb2⟩
 have bl2 := HBK.out.ext hb2
 obtain ⟨rp, hrp⟩ : ∃ rp, w.heap.size + 1 = rp := ⟨_, rfl⟩
 rw [hrp] at bl2 ⊢
 have hB2 := HB1.out.trans (hb2.mono HB1.out.size)
 have hrl := HBK.out.lt
 have hsz := hb2.size
 have c0 := bl2.cell 0 (by simp)
 have c1 := bl2.cell 1 (by simp)
 have f0 := bl2.free 0
 have f1 := bl2.free 1
 simp only [List.getElem_cons_zero, List.getElem_cons_succ] at c0 c1
 obtain ⟨PA, PN, PC, d, k, rfl, hfin⟩ : ∃ (PA : Option Addr) (PN PC : Nat) (d k : Int), e = .returned (.tuple #[.agg #[.slice PA PN PC, .int .i64 d], .int .i64 k]) ∧ OfPost a b c 0 costsO true w ((w2.setCell ⟨rp, 0, none⟩ (.slice PA PN PC)).setCell ⟨rp, 1, none⟩ (.int .i64 d)) e := by
  rcases hpost with ⟨h1, h2⟩ | ⟨h1, s, x, y, h3, h4, h5⟩
  ·exact ⟨none, 0, 0, 0, 2, h2, .inl ⟨h1, h2⟩⟩
  ·rcases h5 with ⟨h5, h6⟩ | ⟨h5, g, xs, d, h6, h7, h8, h9⟩
   ·exact ⟨none, 0, 0, 0, _, h6, .inr ⟨h1, s, x, y, h3, h4, .inl ⟨h5, h6⟩⟩⟩
   ·refine ⟨_, _, _, d, 0, h6, .inr ⟨h1, s, x, y, h3, h4, .inr ⟨h5, g, xs, d, h6, Nat.le_trans HB1.out.size h7, h8.but (((But.refl rp w2).set 0 _).set 1 _) (by omega), h9⟩⟩⟩
 have bl3 := (bl2.set 0 (.slice PA PN PC)).set 1 (.int .i64 d)
 have q0 := bl3.cell 0 (by simp)
 have q1 := bl3.cell 1 (by simp)
 simp only [List.getElem_cons_zero, List.getElem_cons_succ, List.set_cons_zero, List.set_cons_succ] at q0 q1
 have HBF := Lib.hid ((hB2.setCell (p := ⟨rp, 0, none⟩) (by show _ ≤ rp; omega) (.slice PA PN PC)).setCell (p := ⟨rp, 1, none⟩) (by show _ ≤ rp; omega) (.int .i64 d))
 have HFN := Lib.hid hfin
 clear hpost hb2 bl2 bl3 hB2 hfin HOF HBK hrl hsz hrp
 go_wp2
 (try simp only [Exit.inBlock, Exit.then])
 refine bodyPost_ret (v := .tuple #[.agg #[.slice PA PN PC, .int .i64 d], .int .i64 k]) (by simp [results, Tryz.results16, go_sem, q0, q1]) rfl ⟨HFN.out, HBF.out⟩
set_option maxRecDepth 100000 in
set_option maxHeartbeats 1000000 in
theorem dual_take (W : World) (s : Value) (A1 : Option Addr) (n1 c1 : Nat) (A2 : Option Addr) (n2 c2 : Nat) : Calls Tryz.prog 72 #[.agg #[s, .slice A1 n1 c1, .slice A2 n2 c2]] W fun e w' => e = .returned (if false then .slice A1 n1 c1 else .slice A2 n2 c2) ∧ Below W.heap.size W w' := by
 have hb := Blk.new W [s, .slice A1 n1 c1, .slice A2 n2 c2] 84
 have q1 := hb.cell 2 (by simp)
 simp only [List.getElem_cons_zero, List.getElem_cons_succ] at q1
 have hA : Below W.heap.size W (W.alloc (.cells #[s, .slice A1 n1 c1, .slice A2 n2 c2] 84 (0, 0))) := (Below.refl _ _).alloc (Nat.le_refl _) _
 have HA := Lib.hid hA
 clear hb hA
 go_enter Tryz.func72, Tryz.ntmps72
 go_wp2
 go_ret
 exact ⟨rfl, HA.out⟩
set_option maxRecDepth 100000 in
set_option maxHeartbeats 2000000 in
theorem dual_calls (A B C : Option Addr) (ca cb cc : Nat) (a : List (List Int)) (b c : List Int) (w : World) (h : Prog3 w A B C a b c) (hc : TabOk 0 costsO w) :
  Calls Tryz.prog 21 #[.agg #[.slice A a.length ca, .slice B b.length cb, .slice C c.length cc]] w fun e w' => OfPost a b c 0 costsO false w w' e ∧ Below w.heap.size w w' := by
 have hb0 : Below w.heap.size w (w.alloc (.cells #[.slice A a.length ca, .slice B b.length cb, .slice C c.length cc] 25 (0, 0))) := (Below.refl _ _).alloc (Nat.le_refl _) _
 have hb1 : Below w.heap.size w ((w.alloc (.cells #[.slice A a.length ca, .slice B b.length cb, .slice C c.length cc] 25 (0, 0))).alloc (.cells #[.slice none 0 0, .int .i64 0] 29 (0, 0))) := hb0.alloc (by simp) _
 have bk := Blk.new (w.alloc (.cells #[.slice A a.length ca, .slice B b.length cb, .slice C c.length cc] 25 (0, 0))) [.slice none 0 0, .int .i64 0] 29
 have hsz : (w.alloc (.cells #[.slice A a.length ca, .slice B b.length cb, .slice C c.length cc] 25 (0, 0))).heap.size = w.heap.size + 1 := by simp
 rw [hsz] at bk
 clear hsz
 obtain ⟨g0, g1, g2⟩ := hc.ext hb1
 have HOF := Lib.hid (of_any A B C ca cb cc a b c 0 costsO false 72 _ (h.ext hb1) (by omega) (by intro h; first | decide | cases h) (by intro h; first | decide | cases h) (enter_at Tryz.func72 (by kernel_rfl) rfl) dual_take)
 have HB1 := Lib.hid hb1; have HBK := Lib.hid bk
 clear hb0 hb1 bk h hc
 go_enter Tryz.func21, Tryz.ntmps21
 go_wp2_with fail
 refine HOF.out.mono ?_; rintro e w2 ⟨hpost, hb2⟩
 have bl2 := HBK.out.ext hb2
 obtain ⟨rp, hrp⟩ : ∃ rp, w.heap.size + 1 = rp := ⟨_, rfl⟩
 rw [hrp] at bl2 ⊢
 have hB2 := HB1.out.trans (hb2.mono HB1.out.size)
 have hrl := HBK.out.lt
 have hsz := hb2.size
 have c0 := bl2.cell 0 (by simp)
 have c1 := bl2.cell 1 (by simp)
 have f0 := bl2.free 0
 have f1 := bl2.free 1
 simp only [List.getElem_cons_zero, List.getElem_cons_succ] at c0 c1
 obtain ⟨PA, PN, PC, d, k, rfl, hfin⟩ : ∃ (PA : Option Addr) (PN PC : Nat) (d k : Int), e = .returned (.tuple #[.agg #[.slice PA PN PC, .int .i64 d], .int .i64 k]) ∧ OfPost a b c 0 costsO false w ((w2.setCell ⟨rp, 0, none⟩ (.slice PA PN PC)).setCell ⟨rp, 1, none⟩ (.int .i64 d)) e := by
  rcases hpost with ⟨h1, h2⟩ | ⟨h1, s, x, y, h3, h4, h5⟩
  ·exact ⟨none, 0, 0, 0, 2, h2, .inl ⟨h1, h2⟩⟩
  ·rcases h5 with ⟨h5, h6⟩ | ⟨h5, g, xs, d, h6, h7, h8, h9⟩
   ·exact ⟨none, 0, 0, 0, _, h6, .inr ⟨h1, s, x, y, h3, h4, .inl ⟨h5, h6⟩⟩⟩
   ·refine ⟨_, _, _, d, 0, h6, .inr ⟨h1, s, x, y, h3, h4, .inr ⟨h5, g, xs, d, h6, Nat.le_trans HB1.out.size h7, h8.but (((But.refl rp w2).set 0 _).set 1 _) (by omega), h9⟩⟩⟩
 have bl3 := (bl2.set 0 (.slice PA PN PC)).set 1 (.int .i64 d)
 have q0 := bl3.cell 0 (by simp)
 have q1 := bl3.cell 1 (by simp)
 simp only [List.getElem_cons_zero, List.getElem_cons_succ, List.set_cons_zero, List.set_cons_succ] at q0 q1
 have HBF := Lib.hid ((hB2.setCell (p := ⟨rp, 0, none⟩) (by show _ ≤ rp; omega) (.slice PA PN PC)).setCell (p := ⟨rp, 1, none⟩) (by show _ ≤ rp; omega) (.int .i64 d))
 have HFN := Lib.hid hfin
 clear hpost hb2 bl2 bl3 hB2 hfin HOF HBK hrl hsz hrp
 go_wp2
 (try simp only [Exit.inBlock, Exit.then])
 refine bodyPost_ret (v := .tuple #[.agg #[.slice PA PN PC, .int .i64 d], .int .i64 k]) (by simp [results, Tryz.results21, go_sem, q0, q1]) rfl ⟨HFN.out, HBF.out⟩
set_option maxRecDepth 100000 in
set_option maxHeartbeats 1000000 in
theorem farkas_take (W : World) (s : Value) (A1 : Option Addr) (n1 c1 : Nat) (A2 : Option Addr) (n2 c2 : Nat) : Calls Tryz.prog 73 #[.agg #[s, .slice A1 n1 c1, .slice A2 n2 c2]] W fun e w' => e = .returned (if false then .slice A1 n1 c1 else .slice A2 n2 c2) ∧ Below W.heap.size W w' := by
 have hb := Blk.new W [s, .slice A1 n1 c1, .slice A2 n2 c2] 84
 have q1 := hb.cell 2 (by simp)
 simp only [List.getElem_cons_zero, List.getElem_cons_succ] at q1
 have hA : Below W.heap.size W (W.alloc (.cells #[s, .slice A1 n1 c1, .slice A2 n2 c2] 84 (0, 0))) := (Below.refl _ _).alloc (Nat.le_refl _) _
 have HA := Lib.hid hA
 clear hb hA
 go_enter Tryz.func73, Tryz.ntmps73
 go_wp2
 go_ret
 exact ⟨rfl, HA.out⟩
set_option maxRecDepth 100000 in
set_option maxHeartbeats 2000000 in
theorem farkas_calls (A B C : Option Addr) (ca cb cc : Nat) (a : List (List Int)) (b c : List Int) (w : World) (h : Prog3 w A B C a b c) (hc : TabOk 1 plansO w) :
  Calls Tryz.prog 22 #[.agg #[.slice A a.length ca, .slice B b.length cb, .slice C c.length cc]] w fun e w' => OfPost a b c 1 plansO false w w' e ∧ Below w.heap.size w w' := by
 have hb0 : Below w.heap.size w (w.alloc (.cells #[.slice A a.length ca, .slice B b.length cb, .slice C c.length cc] 25 (0, 0))) := (Below.refl _ _).alloc (Nat.le_refl _) _
 have hb1 : Below w.heap.size w ((w.alloc (.cells #[.slice A a.length ca, .slice B b.length cb, .slice C c.length cc] 25 (0, 0))).alloc (.cells #[.slice none 0 0, .int .i64 0] 29 (0, 0))) := hb0.alloc (by simp) _
 have bk := Blk.new (w.alloc (.cells #[.slice A a.length ca, .slice B b.length cb, .slice C c.length cc] 25 (0, 0))) [.slice none 0 0, .int .i64 0] 29
 have hsz : (w.alloc (.cells #[.slice A a.length ca, .slice B b.length cb, .slice C c.length cc] 25 (0, 0))).heap.size = w.heap.size + 1 := by simp
 rw [hsz] at bk
 clear hsz
 obtain ⟨g0, g1, g2⟩ := hc.ext hb1
 have HOF := Lib.hid (of_any A B C ca cb cc a b c 1 plansO false 73 _ (h.ext hb1) (by omega) (by intro h; first | decide | cases h) (by intro h; first | decide | cases h) (enter_at Tryz.func73 (by kernel_rfl) rfl) farkas_take)
 have HB1 := Lib.hid hb1; have HBK := Lib.hid bk
 clear hb0 hb1 bk h hc
 go_enter Tryz.func22, Tryz.ntmps22
 go_wp2_with fail
 refine HOF.out.mono ?_; rintro e w2 ⟨hpost, hb2⟩
 have bl2 := HBK.out.ext hb2
 obtain ⟨rp, hrp⟩ : ∃ rp, w.heap.size + 1 = rp := ⟨_, rfl⟩
 rw [hrp] at bl2 ⊢
 have hB2 := HB1.out.trans (hb2.mono HB1.out.size)
 have hrl := HBK.out.lt
 have hsz := hb2.size
 have c0 := bl2.cell 0 (by simp)
 have c1 := bl2.cell 1 (by simp)
 have f0 := bl2.free 0
 have f1 := bl2.free 1
 simp only [List.getElem_cons_zero, List.getElem_cons_succ] at c0 c1
 obtain ⟨PA, PN, PC, d, k, rfl, hfin⟩ : ∃ (PA : Option Addr) (PN PC : Nat) (d k : Int), e = .returned (.tuple #[.agg #[.slice PA PN PC, .int .i64 d], .int .i64 k]) ∧ OfPost a b c 1 plansO false w ((w2.setCell ⟨rp, 0, none⟩ (.slice PA PN PC)).setCell ⟨rp, 1, none⟩ (.int .i64 d)) e := by
  rcases hpost with ⟨h1, h2⟩ | ⟨h1, s, x, y, h3, h4, h5⟩
  ·exact ⟨none, 0, 0, 0, 2, h2, .inl ⟨h1, h2⟩⟩
  ·rcases h5 with ⟨h5, h6⟩ | ⟨h5, g, xs, d, h6, h7, h8, h9⟩
   ·exact ⟨none, 0, 0, 0, _, h6, .inr ⟨h1, s, x, y, h3, h4, .inl ⟨h5, h6⟩⟩⟩
   ·refine ⟨_, _, _, d, 0, h6, .inr ⟨h1, s, x, y, h3, h4, .inr ⟨h5, g, xs, d, h6, Nat.le_trans HB1.out.size h7, h8.but (((But.refl rp w2).set 0 _).set 1 _) (by omega), h9⟩⟩⟩
 have bl3 := (bl2.set 0 (.slice PA PN PC)).set 1 (.int .i64 d)
 have q0 := bl3.cell 0 (by simp)
 have q1 := bl3.cell 1 (by simp)
 simp only [List.getElem_cons_zero, List.getElem_cons_succ, List.set_cons_zero, List.set_cons_succ] at q0 q1
 have HBF := Lib.hid ((hB2.setCell (p := ⟨rp, 0, none⟩) (by show _ ≤ rp; omega) (.slice PA PN PC)).setCell (p := ⟨rp, 1, none⟩) (by show _ ≤ rp; omega) (.int .i64 d))
 have HFN := Lib.hid hfin
 clear hpost hb2 bl2 bl3 hB2 hfin HOF HBK hrl hsz hrp
 go_wp2
 (try simp only [Exit.inBlock, Exit.then])
 refine bodyPost_ret (v := .tuple #[.agg #[.slice PA PN PC, .int .i64 d], .int .i64 k]) (by simp [results, Tryz.results22, go_sem, q0, q1]) rfl ⟨HFN.out, HBF.out⟩
set_option maxRecDepth 100000 in
set_option maxHeartbeats 1000000 in
theorem ray1_take (W : World) (s : Value) (A1 : Option Addr) (n1 c1 : Nat) (A2 : Option Addr) (n2 c2 : Nat) : Calls Tryz.prog 74 #[.agg #[s, .slice A1 n1 c1, .slice A2 n2 c2]] W fun e w' => e = .returned (if true then .slice A1 n1 c1 else .slice A2 n2 c2) ∧ Below W.heap.size W w' := by
 have hb := Blk.new W [s, .slice A1 n1 c1, .slice A2 n2 c2] 84
 have q1 := hb.cell 1 (by simp)
 simp only [List.getElem_cons_zero, List.getElem_cons_succ] at q1
 have hA : Below W.heap.size W (W.alloc (.cells #[s, .slice A1 n1 c1, .slice A2 n2 c2] 84 (0, 0))) := (Below.refl _ _).alloc (Nat.le_refl _) _
 have HA := Lib.hid hA
 clear hb hA
 go_enter Tryz.func74, Tryz.ntmps74
 go_wp2
 go_ret
 exact ⟨rfl, HA.out⟩
set_option maxRecDepth 100000 in
set_option maxHeartbeats 2000000 in
theorem ray1_calls (A B C : Option Addr) (ca cb cc : Nat) (a : List (List Int)) (b c : List Int) (w : World) (h : Prog3 w A B C a b c) (hc : TabOk 1 plansO w) :
  Calls Tryz.prog 23 #[.agg #[.slice A a.length ca, .slice B b.length cb, .slice C c.length cc]] w fun e w' => OfPost a b c 2 plansO true w w' e ∧ Below w.heap.size w w' := by
 have hb0 : Below w.heap.size w (w.alloc (.cells #[.slice A a.length ca, .slice B b.length cb, .slice C c.length cc] 25 (0, 0))) := (Below.refl _ _).alloc (Nat.le_refl _) _
 have hb1 : Below w.heap.size w ((w.alloc (.cells #[.slice A a.length ca, .slice B b.length cb, .slice C c.length cc] 25 (0, 0))).alloc (.cells #[.slice none 0 0, .int .i64 0] 29 (0, 0))) := hb0.alloc (by simp) _
 have bk := Blk.new (w.alloc (.cells #[.slice A a.length ca, .slice B b.length cb, .slice C c.length cc] 25 (0, 0))) [.slice none 0 0, .int .i64 0] 29
 have hsz : (w.alloc (.cells #[.slice A a.length ca, .slice B b.length cb, .slice C c.length cc] 25 (0, 0))).heap.size = w.heap.size + 1 := by simp
 rw [hsz] at bk
 clear hsz
 obtain ⟨g0, g1, g2⟩ := hc.ext hb1
 have HOF := Lib.hid (of_any A B C ca cb cc a b c 2 plansO true 74 _ (h.ext hb1) (by omega) (by intro h; first | decide | cases h) (by intro h; first | decide | cases h) (enter_at Tryz.func74 (by kernel_rfl) rfl) ray1_take)
 have HB1 := Lib.hid hb1; have HBK := Lib.hid bk
 clear hb0 hb1 bk h hc
 go_enter Tryz.func23, Tryz.ntmps23
 go_wp2_with fail
 refine HOF.out.mono ?_; rintro e w2 ⟨hpost, hb2⟩
 have bl2 := HBK.out.ext hb2
 obtain ⟨rp, hrp⟩ : ∃ rp, w.heap.size + 1 = rp := ⟨_, rfl⟩
 rw [hrp] at bl2 ⊢
 have hB2 := HB1.out.trans (hb2.mono HB1.out.size)
 have hrl := HBK.out.lt
 have hsz := hb2.size
 have c0 := bl2.cell 0 (by simp)
 have c1 := bl2.cell 1 (by simp)
 have f0 := bl2.free 0
 have f1 := bl2.free 1
 simp only [List.getElem_cons_zero, List.getElem_cons_succ] at c0 c1
 obtain ⟨PA, PN, PC, d, k, rfl, hfin⟩ : ∃ (PA : Option Addr) (PN PC : Nat) (d k : Int), e = .returned (.tuple #[.agg #[.slice PA PN PC, .int .i64 d], .int .i64 k]) ∧ OfPost a b c 2 plansO true w ((w2.setCell ⟨rp, 0, none⟩ (.slice PA PN PC)).setCell ⟨rp, 1, none⟩ (.int .i64 d)) e := by
  rcases hpost with ⟨h1, h2⟩ | ⟨h1, s, x, y, h3, h4, h5⟩
  ·exact ⟨none, 0, 0, 0, 2, h2, .inl ⟨h1, h2⟩⟩
  ·rcases h5 with ⟨h5, h6⟩ | ⟨h5, g, xs, d, h6, h7, h8, h9⟩
   ·exact ⟨none, 0, 0, 0, _, h6, .inr ⟨h1, s, x, y, h3, h4, .inl ⟨h5, h6⟩⟩⟩
   ·refine ⟨_, _, _, d, 0, h6, .inr ⟨h1, s, x, y, h3, h4, .inr ⟨h5, g, xs, d, h6, Nat.le_trans HB1.out.size h7, h8.but (((But.refl rp w2).set 0 _).set 1 _) (by omega), h9⟩⟩⟩
 have bl3 := (bl2.set 0 (.slice PA PN PC)).set 1 (.int .i64 d)
 have q0 := bl3.cell 0 (by simp)
 have q1 := bl3.cell 1 (by simp)
 simp only [List.getElem_cons_zero, List.getElem_cons_succ, List.set_cons_zero, List.set_cons_succ] at q0 q1
 have HBF := Lib.hid ((hB2.setCell (p := ⟨rp, 0, none⟩) (by show _ ≤ rp; omega) (.slice PA PN PC)).setCell (p := ⟨rp, 1, none⟩) (by show _ ≤ rp; omega) (.int .i64 d))
 have HFN := Lib.hid hfin
 clear hpost hb2 bl2 bl3 hB2 hfin HOF HBK hrl hsz hrp
 go_wp2
 (try simp only [Exit.inBlock, Exit.then])
 refine bodyPost_ret (v := .tuple #[.agg #[.slice PA PN PC, .int .i64 d], .int .i64 k]) (by simp [results, Tryz.results23, go_sem, q0, q1]) rfl ⟨HFN.out, HBF.out⟩
end Go.Proofs.YtkljafmdbajfeaaGreatDoor

/- linear.Feasible: what it answers. -/
namespace Go.Proofs.YtkljafmdbajfeaaGreatDoor
open Go.RowKit
set_option linter.unusedVariables false
set_option linter.unusedSimpArgs false
def nnB (xs : List Int) : Bool := xs.all fun x => decide (0 ≤ x)
def feasS (a : List (List Int)) (b c xs : List Int) (d : Int) : Bool := progOk a b c && pointOk c.length xs d && nnB xs && (List.range a.length).all fun i => decide (nth b i * d ≤ dotZ (nrow a i) xs)
theorem all_range_true {n : Nat} {p : Nat → Bool} (h : ∀ i, i < n → p i = true) : (List.range n).all p = true := List.all_eq_true.2 fun i hi => h i (List.mem_range.1 hi)
theorem all_range_false {n i : Nat} {p : Nat → Bool} (hi : i < n) (h : p i = false) : (List.range n).all p = false := by
 cases e : (List.range n).all p with
 | false => rfl
 | true => have := List.all_eq_true.1 e i (List.mem_range.2 hi); rw [h] at this; cases this
theorem point_small {a : List (List Int)} {b c xs : List Int} {d : Int} (h1 : progOk a b c = true) (h2 : pointOk c.length xs d = true) {i : Nat} (hi : i < a.length) : Small (nrow a i) xs ∧ (nrow a i).length ≤ xs.length ∧ (nrow a i).length = c.length := by
 obtain ⟨⟨k1, k2⟩, k3, k4, k5, k6, k7⟩ := progOk_parts h1
 obtain ⟨p1, p2, p3, p4⟩ := pointOk_parts h2
 obtain ⟨r1, r2⟩ := k4 _ (nrow_mem hi)
 exact ⟨small_of r2 p4 (by omega) (by omega) (n := 6) (by omega) (by omega) (by omega), by omega, r1⟩
end Go.Proofs.YtkljafmdbajfeaaGreatDoor
