/- branch.of: an integer program and whether it is valid. -/
import Derived.Deep.Light
import Derived.Test.YtkljafmdbajfeaaGreatDoorReA00
import Derived.Test.YtkljafmdbajfeaaGreatDoorReA04
namespace Go.Proofs.YtkljafmdbajfeaaGreatDoor
open Go.RowKit
set_option linter.unusedVariables false
set_option linter.unusedSimpArgs false
def upOk (u : List Int) : Bool := u.all fun x => decide (0 ≤ x) && decide (x ≤ 7)
def wholeOk (a : List (List Int)) (b c u : List Int) : Bool := decide (c.length ≤ 5) && decide (u.length = c.length) && upOk u && progOk a b c
structure Who (w : World) (A B C U : Option Addr) (a : List (List Int)) (b c u : List Int) : Prop where
 p : Prog3 w A B C a b c
 gu : Ints w U u
 lu : u.length ≤ maxLen
theorem Who.ext {w w' : World} {A B C U : Option Addr} {a : List (List Int)} {b c u : List Int} (h : Who w A B C U a b c u) (hb : Below w.heap.size w w') : Who w' A B C U a b c u :=
 ⟨h.p.ext hb, h.gu.ext hb, h.lu⟩
set_option maxHeartbeats 400000 in
theorem of1_calls (x : Int) (w : World) : Calls Tryz.prog 155 #[.int .i64 x] w fun e w' => e = .returned (.bool (!(decide (0 ≤ x) && decide (x ≤ 7)))) ∧ w' = w := by
 by_cases h : x < 0
 ·have hd : decide (x < 0) = true := decide_eq_true h
  go_enter Tryz.func155, Tryz.ntmps155
  go_wp2
  go_ret
  exact ⟨by simp [show ¬ (0 ≤ x) by omega], rfl⟩
 ·have hd : decide (x < 0) = false := decide_eq_false h
  go_enter Tryz.func155, Tryz.ntmps155
  go_wp2
  go_ret
  exact ⟨by by_cases h7 : x ≤ 7 <;> simp [show (0 ≤ x) by omega, h7] <;> omega, rfl⟩
theorem of1_tells (w : World) (xs : List Int) : Tells 155 #[] (fun x => !(decide (0 ≤ x) && decide (x ≤ 7))) w xs :=
 ⟨fun _ _ => by kernel_rfl, fun x _ w1 _ => (of1_calls x w1).mono fun e w2 ⟨he, hw⟩ => ⟨he, by rw [hw]; exact Below.refl _ _⟩⟩
theorem upOk_any (u : List Int) : (!u.any fun x => !(decide (0 ≤ x) && decide (x ≤ 7))) = upOk u := by
 unfold upOk; rw [List.not_any_eq_all_not]; simp
theorem zeros_ok (n : Nat) : pointOk n (zeros n) 1 = true := by
 unfold pointOk listOk inB zeros; simp
def ofVal (A B C U : Option Addr) (ca cb cc cu : Nat) (a : List (List Int)) (b c u : List Int) : Value :=
 .tuple #[.agg #[.slice A a.length ca, .slice B b.length cb, .slice C c.length cc, .slice U u.length cu, .int .i64 c.length], .bool (wholeOk a b c u)]
set_option maxHeartbeats 1000000 in
theorem of_bad (A B C U : Option Addr) (ca cb cc cu : Nat) (a : List (List Int)) (b c u : List Int) (w : World) (h : Who w A B C U a b c u) (hbad : (decide (c.length ≤ 5) && decide (u.length = c.length) && upOk u) = false) :
  Calls Tryz.prog 107 #[.agg #[.slice A a.length ca, .slice B b.length cb, .slice C c.length cc, .slice U u.length cu]] w fun e w' => e = .returned (ofVal A B C U ca cb cc cu a b c u) ∧ Below w.heap.size w w' := by
 have hlc := h.p.lc; have hlu := h.lu; unfold maxLen at hlc hlu
 have hb00 : ∀ o o', Below w.heap.size w ((w.alloc o).alloc o') := fun o o' => ((Below.refl _ _).alloc (Nat.le_refl _) _).alloc (by simp) _
 have HW : Hid (wholeOk a b c u = false) := by unfold wholeOk; rw [hbad]; exact rfl
 by_cases h1 : c.length ≤ 5
 ·have d1 : decide ((c.length : Int) ≤ 5) = true := by simp; omega
  by_cases h2 : u.length = c.length
  ·have d2 : ((u.length : Int) == (c.length : Int)) = true := by simp [h2]
   rw [decide_eq_true h1, decide_eq_true h2, Bool.true_and, Bool.true_and] at hbad
   have H2 := Lib.hid h2; clear h2
   have hany := upOk_any u; rw [hbad, Bool.not_eq_false'] at hany
   have HB := Lib.hid hbad; clear hbad
   go_enter Tryz.func107, Tryz.ntmps107
   go_wp2_with fail
   refine (containsFunc_int _ _ _ _ _ u _ h.lu (h.gu.ext (hb00 _ _)) (of1_tells _ u)).mono ?_; rw [hany]; rintro e w1 ⟨rfl, hb1⟩
   obtain ⟨hc1, hf1⟩ := bcell hb1
   have hx1 := ext_trans (hb00 _ _) hb1
   have hz1 := hb1.size
   simp at hz1
   clear hany
   go_wp2
   try simp only [Exit.inBlock, Exit.then]
   refine bodyPost_ret (v := ofVal A B C U ca cb cc cu a b c u) (by unfold ofVal; rw [HW.out]; simp [results, Tryz.results107, go_sem, hc1]) rfl ⟨rfl, ?_⟩
   repeat' (refine Below.setCell ?_ (by dsimp only; omega) _)
   exact hx1
  ·have d2 : ((u.length : Int) == (c.length : Int)) = false := by simp; omega
   have H2 := Lib.hid h2; clear h2 hbad
   go_enter Tryz.func107, Tryz.ntmps107
   go_wp2
   try simp only [Exit.inBlock, Exit.then]
   refine bodyPost_ret (v := ofVal A B C U ca cb cc cu a b c u) (by unfold ofVal; rw [HW.out]; simp [results, Tryz.results107, go_sem]) rfl ⟨rfl, ?_⟩
   first | exact hb00 _ _ | (repeat' (refine Below.setCell ?_ (by dsimp only; omega) _); exact hb00 _ _)
 ·have d1 : decide ((c.length : Int) ≤ 5) = false := by simp; omega
  clear hbad
  go_enter Tryz.func107, Tryz.ntmps107
  go_wp2
  try simp only [Exit.inBlock, Exit.then]
  refine bodyPost_ret (v := ofVal A B C U ca cb cc cu a b c u) (by unfold ofVal; rw [HW.out]; simp [results, Tryz.results107, go_sem]) rfl ⟨rfl, ?_⟩
  first | exact hb00 _ _ | (repeat' (refine Below.setCell ?_ (by dsimp only; omega) _); exact hb00 _ _)
theorem value_any (A B C X : Option Addr) (ca cb cc cx : Nat) (a : List (List Int)) (b c : List Int) (w : World) (h : Prog3 w A B C a b c) (hX : Ints w X (zeros c.length)) :
  Calls Tryz.prog 41 #[.agg #[.slice A a.length ca, .slice B b.length cb, .slice C c.length cc], .agg #[.slice X c.length cx, .int .i64 1]] w fun e w' => (∃ N n cn d, ∃ er : Int, Hid (er = if progOk a b c then 0 else 2) ∧ e = .returned (.tuple #[.agg #[.slice N n cn, .int .i64 d], .int .i64 er])) ∧ Below w.heap.size w w' := by
 have hm : (zeros c.length).length ≤ maxLen := by rw [zeros_len]; exact h.lc
 have e0 : Value.slice X c.length cx = Value.slice X (zeros c.length).length cx := by rw [zeros_len]
 rw [e0]
 cases h1 : progOk a b c
 ·exact (value_bad A B C X ca cb cc cx a b c _ 1 w h hX hm (by rw [h1]; rfl)).mono fun e w' ⟨he, hb⟩ => ⟨⟨_, _, _, _, _, by exact rfl, he⟩, hb⟩
 ·refine (value_ok A B C X ca cb cc cx a b c _ 1 w h hX hm h1 (zeros_ok _)).mono fun e w' hp => ?_
  obtain ⟨bb, he, _, _, hb⟩ := hp
  exact ⟨⟨_, _, _, _, _, by exact rfl, he⟩, hb⟩
set_option maxRecDepth 100000 in
set_option maxHeartbeats 1000000 in
theorem of_good (A B C U : Option Addr) (ca cb cc cu : Nat) (a : List (List Int)) (b c u : List Int) (w : World) (h : Who w A B C U a b c u) (hgood : (decide (c.length ≤ 5) && decide (u.length = c.length) && upOk u) = true) :
  Calls Tryz.prog 107 #[.agg #[.slice A a.length ca, .slice B b.length cb, .slice C c.length cc, .slice U u.length cu]] w fun e w' => e = .returned (ofVal A B C U ca cb cc cu a b c u) ∧ Below w.heap.size w w' := by
 have hlc := h.p.lc; have hlu := h.lu; unfold maxLen at hlc hlu
 have hb00 : ∀ o o', Below w.heap.size w ((w.alloc o).alloc o') := fun o o' => ((Below.refl _ _).alloc (Nat.le_refl _) _).alloc (by simp) _
 have HW : Hid (wholeOk a b c u = progOk a b c) := by unfold wholeOk; rw [hgood, Bool.true_and]; exact rfl
 simp only [Bool.and_eq_true, decide_eq_true_eq] at hgood
 obtain ⟨⟨h1, h2⟩, h3⟩ := hgood
 have d1 : decide ((c.length : Int) ≤ 5) = true := by simp; omega
 have d2 : ((u.length : Int) == (c.length : Int)) = true := by simp [h2]
 have H2 := Lib.hid h2; clear h2
 have hany := upOk_any u; rw [h3, Bool.not_eq_true'] at hany
 have HB := Lib.hid h3; clear h3
 have hmk := fun w => run_makeInts w c.length (by omega)
 go_enter Tryz.func107, Tryz.ntmps107
 go_wp2_with fail
 refine (containsFunc_int _ _ _ _ _ u _ h.lu (h.gu.ext (hb00 _ _)) (of1_tells _ u)).mono ?_; rw [hany]; rintro e w1 ⟨rfl, hb1⟩
 obtain ⟨hc1, hf1⟩ := bcell hb1
 have hx1 := ext_trans (hb00 _ _) hb1
 have hz1 := hb1.size
 simp at hz1
 clear hany
 have p1 := (h.ext hx1).p
 have k0 : w1.cell? ⟨w.heap.size, 0, none⟩ = some (.slice A a.length ca) := by rw [hc1 _ _ (by simp; omega)]; go_simp
 have k1 : w1.cell? ⟨w.heap.size, 1, none⟩ = some (.slice B b.length cb) := by rw [hc1 _ _ (by simp; omega)]; go_simp
 have k2 : w1.cell? ⟨w.heap.size, 2, none⟩ = some (.slice C c.length cc) := by rw [hc1 _ _ (by simp; omega)]; go_simp
 have k3 : w1.cell? ⟨w.heap.size, 3, none⟩ = some (.slice U u.length cu) := by rw [hc1 _ _ (by simp; omega)]; go_simp
 have yy : w.heap.size < w1.heap.size := by omega
 have ne1 : ¬ w1.heap.size = w.heap.size := by omega
 have ne2 : ¬ w1.heap.size + 1 = w.heap.size := by omega
 have yy1 : w.heap.size < w1.heap.size + 1 := by omega
 have yy2 : w.heap.size < w1.heap.size + 1 + 1 := by omega
 have B0 : Blk w1 w.heap.size [.slice A a.length ca, .slice B b.length cb, .slice C c.length cc, .slice U u.length cu] 65 := Blk.ext ((Blk.new w _ _).alloc _) hb1
 have B1 : Blk w1 (w.heap.size + 1) [.slice none 0 0, .slice none 0 0, .slice none 0 0, .slice none 0 0, .int .i64 0] 131 := Blk.ext (Blk.new' _ [.slice none 0 0, .slice none 0 0, .slice none 0 0, .slice none 0 0, .int .i64 0] _ _ (by simp)) hb1
 go_upto_region 4 with (fail)
 go_cut [7] (fun s7 wx => ∃ er : Int, Hid (er = if progOk a b c then 0 else 2) ∧ s7 = .int .i64 er ∧ Blk wx w.heap.size [.slice A a.length ca, .slice B b.length cb, .slice C c.length cc, .slice U u.length cu] 65 ∧ Blk wx (w.heap.size + 1) [.slice none 0 0, .slice none 0 0, .slice none 0 0, .slice none 0 0, .int .i64 0] 131 ∧ Below w.heap.size w wx)
 case first =>
  go_region_held3 (fun w' => w'.cell? ⟨w.heap.size, 0, none⟩ = some (.slice A a.length ca) ∧ w'.cell? ⟨w.heap.size, 1, none⟩ = some (.slice B b.length cb) ∧ w'.cell? ⟨w.heap.size, 2, none⟩ = some (.slice C c.length cc))
   (first | (go_keep; done))
   (first
     | (go_at_call 41; refine (value_any A B C _ _ _ _ _ a b c _ (p1.ext (by first | exact ((Below.refl _ _).alloc (Nat.le_refl _) _).drew | exact (((Below.refl _ _).alloc (Nat.le_refl _) _).alloc (by simp) _).drew)) (by first | exact (IBlk.made _ _).drew.ints | exact ((IBlk.made _ _).alloc _).drew.ints | exact (IBlk.made' _ _ _ (by simp)).drew.ints)).mono ?_; rintro e w3 ⟨⟨N3, n3, cn3, d3, er, HER, rfl⟩, hb3⟩; obtain ⟨hc3, hf3⟩ := bcell hb3; have hz3 := hb3.size; simp at hz3; have ne3 : ¬ w3.heap.size = w.heap.size := (by omega); have hx3 : Below w1.heap.size w1 w3 := (by first | exact ext_trans ((Below.refl _ _).alloc (Nat.le_refl _) _).drew hb3 | exact ext_trans (((Below.refl _ _).alloc (Nat.le_refl _) _).alloc (by simp) _).drew hb3)))
  all_goals
   go_wp2_with fail
   go_meet
   first
    | exact ⟨er, HER, rfl, Blk.other (Blk.other (B0.ext hx3) _ _ (by dsimp only; omega)) _ _ (by dsimp only; omega), Blk.other (Blk.other (B1.ext hx3) _ _ (by dsimp only; omega)) _ _ (by dsimp only; omega), ((ext_trans hx1 hx3).setCell (by dsimp only; omega) _).setCell (by dsimp only; omega) _⟩
    | exact ⟨er, HER, rfl, (B0.ext hx3).alloc _, (B1.ext hx3).alloc _, (ext_trans hx1 hx3).alloc (by omega) _⟩
 case rest =>
  obtain ⟨er, HER, rfl, Q0, Q1, hbx⟩ := hcut
  have q0 := Q0.cell 0 (by simp)
  have q1 := Q0.cell 1 (by simp)
  have q2 := Q0.cell 2 (by simp)
  have q3 := Q0.cell 3 (by simp)
  have r0 := Q1.cell 0 (by simp)
  have r1 := Q1.cell 1 (by simp)
  have r2 := Q1.cell 2 (by simp)
  have r3 := Q1.cell 3 (by simp)
  have r4 := Q1.cell 4 (by simp)
  have fr := Q1.free
  simp only [List.getElem_cons_zero, List.getElem_cons_succ] at q0 q1 q2 q3 r0 r1 r2 r3 r4
  cases hp : progOk a b c
  all_goals
   rw [hp] at HER HW
   have HP := Lib.hid hp; clear hp
   obtain rfl := HER.out
   simp only [if_true, if_false, Bool.false_eq_true]
   go_wp2
   try simp only [Exit.inBlock, Exit.then]
   refine bodyPost_ret (v := ofVal A B C U ca cb cc cu a b c u) (by unfold ofVal; rw [HW.out]; simp [results, Tryz.results107, go_sem, r0, r1, r2, r3, r4]) rfl ⟨rfl, ?_⟩
   repeat' (refine Below.setCell ?_ (by dsimp only; omega) _)
   exact hbx
theorem of_calls (A B C U : Option Addr) (ca cb cc cu : Nat) (a : List (List Int)) (b c u : List Int) (w : World) (h : Who w A B C U a b c u) :
  Calls Tryz.prog 107 #[.agg #[.slice A a.length ca, .slice B b.length cb, .slice C c.length cc, .slice U u.length cu]] w fun e w' => e = .returned (ofVal A B C U ca cb cc cu a b c u) ∧ Below w.heap.size w w' := by
 cases hg : (decide (c.length ≤ 5) && decide (u.length = c.length) && upOk u)
 ·exact of_bad A B C U ca cb cc cu a b c u w h hg
 ·exact of_good A B C U ca cb cc cu a b c u w h hg
end Go.Proofs.YtkljafmdbajfeaaGreatDoor

/- The vectors of a box in lexicographic order; which are feasible; what they cost. Plain mathematics. -/
namespace Go.Proofs.YtkljafmdbajfeaaGreatDoor
def irange (n : Nat) : List Int := (List.range n).map Int.ofNat
def box : List Int → List (List Int)
 | [] => [[]]
 | m :: us => (irange (m.toNat + 1)).flatMap fun v => (box us).map (v :: ·)
def feasB (a : List (List Int)) (b x : List Int) : Bool := (List.range a.length).all fun i => decide (nth b i ≤ dotZ (nrow a i) x)
def doneV (a : List (List Int)) (b us p : List Int) (v : Nat) : List (List Int) := ((irange v).flatMap fun t => (box us).map fun r => p ++ t :: r).filter (feasB a b)
def compl (a : List (List Int)) (b us p : List Int) : List (List Int) := ((box us).map fun r => p ++ r).filter (feasB a b)
theorem irange_succ (n : Nat) : irange (n + 1) = irange n ++ [(n : Int)] := by unfold irange; rw [List.range_succ]; simp
theorem doneV_zero (a : List (List Int)) (b us p : List Int) : doneV a b us p 0 = [] := rfl
theorem doneV_succ (a : List (List Int)) (b us p : List Int) (v : Nat) : doneV a b us p (v + 1) = doneV a b us p v ++ compl a b us (p ++ [(v : Int)]) := by
 unfold doneV compl; rw [irange_succ]; simp [List.flatMap_append, List.filter_append]
theorem doneV_all (a : List (List Int)) (b us p : List Int) (m : Int) : doneV a b us p (m.toNat + 1) = compl a b (m :: us) p := by
 have e : box (m :: us) = (irange (m.toNat + 1)).flatMap fun v => (box us).map (v :: ·) := rfl
 unfold doneV compl; rw [e, List.map_flatMap]; congr 2; funext t; simp [List.map_map, Function.comp_def]
theorem compl_nil (a : List (List Int)) (b p : List Int) : compl a b [] p = if feasB a b p then [p] else [] := by
 unfold compl box; simp [List.filter_cons]
theorem compl_root (a : List (List Int)) (b us : List Int) : compl a b us [] = (box us).filter (feasB a b) := by unfold compl; simp
def InBox (u x : List Int) (j : Nat) : Prop := ∀ i, i < j → 0 ≤ nth x i ∧ nth x i ≤ nth u i
theorem nth_take {xs ys : List Int} {j i : Nat} (h : xs.take j = ys.take j) (hi : i < j) (hx : i < xs.length) (hy : i < ys.length) : nth xs i = nth ys i := by
 rw [nth_lt hx, nth_lt hy]
 have := congrArg (fun l => l[i]?) h
 simpa [List.getElem?_take, hi, hx, hy] using this
theorem nth_set_eq {xs : List Int} {j : Nat} (h : j < xs.length) (v : Int) : nth (xs.set j v) j = v := by rw [nth_lt (by simpa using h)]; simp
theorem take_set {xs : List Int} {j : Nat} (v : Int) : (xs.set j v).take j = xs.take j := by
 rw [List.take_set_of_le]; omega
end Go.Proofs.YtkljafmdbajfeaaGreatDoor

/- branch.program.each: the function value that is handed in sees each feasible vector of the box, in lexicographic order. -/
namespace Go.Proofs.YtkljafmdbajfeaaGreatDoor
open Go.RowKit
structure Visit (vid : FuncId) (vcaps : Array Value) (V : Nat → Prop) (Inv : Nat → List (List Int) → World → Prop) (c u : List Int) : Prop where
 enters : Enters vid
 stable : ∀ xa L w w', Inv xa L w → Fr (· = xa) w w' → Inv xa L w'
 call : ∀ xa L x w, Inv xa L w → IBlk w xa x → x.length = u.length → InBox u x u.length → ¬ V xa → Calls Tryz.prog vid (#[.slice (some ⟨xa, 0, none⟩) u.length u.length, .int .i64 (dotZ c x)] ++ vcaps) w fun e w' => e = .returned (.tuple #[]) ∧ Inv xa (L ++ [x]) w' ∧ Fr V w w'
structure EC (w0 w : World) (A B C U : Option Addr) (ca cb cc cu : Nat) (a : List (List Int)) (b c u : List Int) (vid : FuncId) (vcaps : Array Value) (pb xc xa ac vc : Nat) : Prop where
 P : Blk w pb [.slice A a.length ca, .slice B b.length cb, .slice C c.length cc, .slice U u.length cu, .int .i64 u.length] 131
 X : Blk w xc [.slice (some ⟨xa, 0, none⟩) u.length u.length] 23
 F : Blk w ac [.func (.func 192) #[] #[.pointer (some ⟨pb, 0, none⟩), .pointer (some ⟨xc, 0, none⟩), .pointer (some ⟨ac, 0, none⟩), .pointer (some ⟨vc, 0, none⟩)]] 229
 Y : Blk w vc [.func (.func vid) #[] vcaps] 189
 D : Below w0.heap.size w0 w
structure Apt (w0 : World) (V : Nat → Prop) (pb xc xa ac vc : Nat) : Prop where
 v : ∀ k, V k → w0.heap.size ≤ k ∧ k ≠ pb ∧ k ≠ xc ∧ k ≠ xa ∧ k ≠ ac ∧ k ≠ vc
 xa : w0.heap.size ≤ xa ∧ xa ≠ pb ∧ xa ≠ xc ∧ xa ≠ ac ∧ xa ≠ vc
theorem EC.fr {w0 w w' : World} {A B C U : Option Addr} {ca cb cc cu : Nat} {a : List (List Int)} {b c u : List Int} {vid : FuncId} {vcaps : Array Value} {pb xc xa ac vc : Nat} {V : Nat → Prop}
  (h : EC w0 w A B C U ca cb cc cu a b c u vid vcaps pb xc xa ac vc) (ha : Apt w0 V pb xc xa ac vc) (hf : Fr (fun k => V k ∨ k = xa) w w') : EC w0 w' A B C U ca cb cc cu a b c u vid vcaps pb xc xa ac vc :=
 ⟨h.P.fr hf (by rintro (k | k); exact (ha.v _ k).2.1 rfl; exact ha.xa.2.1 k.symm), h.X.fr hf (by rintro (k | k); exact (ha.v _ k).2.2.1 rfl; exact ha.xa.2.2.1 k.symm),
  h.F.fr hf (by rintro (k | k); exact (ha.v _ k).2.2.2.2.1 rfl; exact ha.xa.2.2.2.1 k.symm), h.Y.fr hf (by rintro (k | k); exact (ha.v _ k).2.2.2.2.2 rfl; exact ha.xa.2.2.2.2 k.symm),
  h.D.trans (hf.below (by rintro k (hk | hk); exact (ha.v _ hk).1; rw [hk]; exact ha.xa.1) h.D.size)⟩
theorem row_small {a : List (List Int)} {b c u : List Int} (h : wholeOk a b c u = true) {x : List Int} (hx : x.length = u.length) (hi : InBox u x u.length) : (∀ i, i < a.length → Small (nrow a i) x ∧ (nrow a i).length = x.length) ∧ Small c x ∧ c.length = x.length ∧ b.length = a.length := by
 unfold wholeOk at h; simp only [Bool.and_eq_true, decide_eq_true_eq] at h
 obtain ⟨⟨⟨h1, h2⟩, h3⟩, h4⟩ := h
 obtain ⟨⟨pc1, pc2⟩, pa, pr, pbl, pb, pc⟩ := progOk_parts h4
 have hx7 : listOk 7 x = true := by
  unfold listOk; rw [List.all_eq_true]
  intro v hv
  obtain ⟨i, hi1, rfl⟩ := List.getElem_of_mem hv
  have := hi i (by omega)
  rw [nth_lt hi1] at this
  have hu := (List.all_eq_true.1 h3) (nth u i) (nth_mem (by omega))
  simp at hu
  unfold inB; simp; omega
 refine ⟨fun i hi => ?_, ?_, by omega, pbl⟩
 ·have := pr _ (nrow_mem hi)
  exact ⟨small_of this.2 hx7 (by omega) (by omega) (n := 6) (by omega) (by omega) (by omega), by omega⟩
 ·exact small_of pc hx7 (by omega) (by omega) (n := 6) (by omega) (by omega) (by omega)
def LeafPost (Inv : Nat → List (List Int) → World → Prop) (S : Nat → Prop) (xa : Nat) (xs : List Int) (L : List (List Int)) (w : World) (e : Ending) (w' : World) : Prop :=
 e = .returned (.tuple #[]) ∧ ∃ xs', IBlk w' xa xs' ∧ xs'.length = xs.length ∧ xs'.take xs.length = xs ∧ Inv xa L w' ∧ Fr S w w'
set_option maxHeartbeats 1000000 in
theorem each_leaf {vid : FuncId} {vcaps : Array Value} {V : Nat → Prop} {Inv : Nat → List (List Int) → World → Prop} {w0 w : World} {A B C U : Option Addr} {ca cb cc cu : Nat} {a : List (List Int)} {b c u : List Int} {pb xc xa ac vc : Nat}
  (hv : Visit vid vcaps V Inv c u) (hw0 : Who w0 A B C U a b c u) (hok : wholeOk a b c u = true) (hap : Apt w0 V pb xc xa ac vc) (L : List (List Int)) (x : List Int)
  (hec : EC w0 w A B C U ca cb cc cu a b c u vid vcaps pb xc xa ac vc) (hx : IBlk w xa x) (hxl : x.length = u.length) (hxb : InBox u x u.length) (hinv : Inv xa L w) :
  Calls Tryz.prog 192 #[.int .i64 u.length, .pointer (some ⟨pb, 0, none⟩), .pointer (some ⟨xc, 0, none⟩), .pointer (some ⟨ac, 0, none⟩), .pointer (some ⟨vc, 0, none⟩)] w (LeafPost Inv (fun k => V k ∨ k = xa) xa x (L ++ compl a b [] x) w) := by
 obtain ⟨hrow, hcs, hcl, hbl⟩ := row_small hok hxl hxb
 have hlu := hw0.lu; have hla := hw0.p.la; unfold maxLen at hlu hla
 have p0 := hec.P.cell 0 (by simp)
 have p1 := hec.P.cell 1 (by simp)
 have p2 := hec.P.cell 2 (by simp)
 have p3 := hec.P.cell 3 (by simp)
 have p4 := hec.P.cell 4 (by simp)
 have x0 := hec.X.cell 0 (by simp)
 have y0 := hec.Y.cell 0 (by simp)
 simp only [List.getElem_cons_zero, List.getElem_cons_succ] at p0 p1 p2 p3 p4 x0 y0
 go_enter Tryz.func192, Tryz.ntmps192
 go_wp2_with fail
 go_loopw [6, 7, 40] (fun _ _ i wr => ∃ k n : Nat, k ≤ a.length ∧ i = .int .i64 k ∧ (∀ i, i < k → nth b i ≤ dotZ (nrow a i) x) ∧ wr = w.drewN n) (fun _ _ i _ => a.length - (intOf i).toNat)
 case atStart => exact ⟨0, 0, Nat.zero_le _, rfl, fun i hi => by omega, rfl⟩
 case round =>
  obtain ⟨k, n, hk, rfl, hall, rfl⟩ := hrel
  by_cases hlt : k < a.length
  ·obtain ⟨bA, oA, R, cR, rfl, gA, _, gR⟩ := (hw0.p.ext hec.D).ga k hlt
   obtain ⟨bB, oB, rfl, gB⟩ := (hw0.p.ext hec.D).gb k (by omega)
   have hlt' : k < b.length := by omega
   obtain ⟨hsm, hlen⟩ := hrow k hlt
   clear hrow
   have hx2 := IBlk.ints hx
   have hle : (nrow a k).length ≤ x.length := by omega
   have hmr := hw0.p.lr _ (nrow_mem hlt)
   have HL := Lib.hid hxl; have HLN := Lib.hid hlen; have HB := Lib.hid hbl; have HCL := Lib.hid hcl
   clear hxl hlen hbl hcl
   by_cases hge : nth b k ≤ dotZ (nrow a k) x
   ·have hd : decide (dotZ (nrow a k) x < nth b k) = false := decide_eq_false (by omega)
    go_wp2_with fail
    go_quiet ((go_at_call 193; exact brDot_in _ _ _ _ _ _ (nrow a k) x _ _ _ rfl HL.out hle hmr gR hx2 hsm))
    go_wp2
    go_roundw
    case rel => exact ⟨k + 1, _, by omega, by go_num, fun i hi => if e : i = k then e ▸ hge else hall i (by omega), rfl⟩
    case measure => simp [intOf]; omega
   ·have hd : decide (dotZ (nrow a k) x < nth b k) = true := decide_eq_true (by omega)
    go_wp2_with fail
    go_quiet ((go_at_call 193; exact brDot_in _ _ _ _ _ _ (nrow a k) x _ _ _ rfl HL.out hle hmr gR hx2 hsm))
    go_wp2
    go_end0
    have hno : feasB a b x = false := by
     unfold feasB; rw [List.all_eq_false]; exact ⟨k, by simpa using hlt, by simpa using hge⟩
    exact ⟨rfl, x, (hx.drewN n).drewN nq, rfl, List.take_length, by rw [compl_nil, hno]; simpa using hv.stable _ _ _ _ hinv (((Fr.refl _ _).drewN n).drewN nq), ((Fr.refl _ _).drewN n).drewN nq⟩
  ·obtain rfl : k = a.length := by omega
   have hyes : feasB a b x = true := by
    unfold feasB; rw [List.all_eq_true]; intro i hi; exact decide_eq_true (hall i (by simpa using hi))
   clear hrow
   have hent := hv.enters
   have hx2 := (IBlk.ints hx)
   have hC := (hw0.p.ext hec.D).gc
   have hlc := hw0.p.lc
   have hle : c.length ≤ x.length := by omega
   have hcall : ∀ m, _ := fun m => hv.call xa L x (w.drewN m) (hv.stable _ _ _ _ hinv ((Fr.refl _ _).drewN _)) (hx.drewN m) hxl hxb (fun h => (hap.v _ h).2.2.2.1 rfl)
   have HXL := Lib.hid hxl; have HBL := Lib.hid hbl; have HCL := Lib.hid hcl; have HY := Lib.hid hyes
   clear hxl hbl hcl hyes hall
   go_wp2_with fail
   go_region_held3 (fun w' => w'.cell? ⟨vc, 0, none⟩ = some (.func (.func vid) #[] vcaps) ∧ w'.cell? ⟨xc, 0, none⟩ = some (.slice (some ⟨xa, 0, none⟩) u.length u.length) ∧ w'.cell? ⟨pb, 2, none⟩ = some (.slice C c.length cc))
    (first | (go_keep; done))
    (first
      | (go_at_call 193; refine (brDot_in _ _ _ _ _ _ c x w n 1 rfl HXL.out hle hlc hC hx2 hcs).mono ?_; rintro e w3 ⟨rfl, m3, rfl⟩)
      | (rw [hent, Oper.upon_enter]; refine (hcall _).mono ?_; rintro e w4 ⟨rfl, hi4, hf4⟩; have hfr := ((Fr.refl (fun k => V k ∨ k = xa) w).drewN _).trans (hf4.mono (fun k hk => Or.inl hk)); have hec4 := hec.fr hap hfr; have z1 : w4.cell? ⟨vc, 0, none⟩ = some (.func (.func vid) #[] vcaps) := hec4.Y.cell 0 (by simp); have z2 : w4.cell? ⟨xc, 0, none⟩ = some (.slice (some ⟨xa, 0, none⟩) u.length u.length) := hec4.X.cell 0 (by simp); have z3 : w4.cell? ⟨pb, 2, none⟩ = some (.slice C c.length cc) := hec4.P.cell 2 (by simp); have hx4 := Blk.fr (hx.drewN _) hf4 (fun h => (hap.v _ h).2.2.2.1 rfl)))
   go_wp2
   go_end0
   exact ⟨rfl, x, hx4, rfl, List.take_length, by rw [compl_nil, HY.out]; exact hi4, hfr⟩
end Go.Proofs.YtkljafmdbajfeaaGreatDoor
