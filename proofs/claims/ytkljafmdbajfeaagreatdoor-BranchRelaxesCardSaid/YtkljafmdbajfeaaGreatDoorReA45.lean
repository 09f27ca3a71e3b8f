/- linear.Minimum, Dual, Farkas, Ray. -/
import Derived.Test.YtkljafmdbajfeaaGreatDoorReA04
import Derived.Test.YtkljafmdbajfeaaGreatDoorReA06
import Derived.Test.YtkljafmdbajfeaaGreatDoorReA29
import Derived.Test.YtkljafmdbajfeaaGreatDoorReA44
namespace Go.Proofs.YtkljafmdbajfeaaGreatDoor
open Go.RowKit Go.ChangeMaps
set_option linter.unusedVariables false
set_option linter.unusedSimpArgs false
structure TabOk (g : Nat) (o : Nat → Int) (w : World) : Prop where
 c0 : w.cell? ⟨g, 0, none⟩ = some (.int .i64 (o 0))
 c1 : w.cell? ⟨g, 1, none⟩ = some (.int .i64 (o 1))
 c2 : w.cell? ⟨g, 2, none⟩ = some (.int .i64 (o 2))
theorem TabOk.ext {g : Nat} {o : Nat → Int} {w w' : World} (h : TabOk g o w) (hb : Below w.heap.size w w') : TabOk g o w' := by
 have hc : ∀ k x, w.cell? ⟨g, k, none⟩ = some x → w'.cell? ⟨g, k, none⟩ = some x := fun k x e => (hb.cell (p := ⟨g, k, none⟩) (cell_lt e)).trans e
 exact ⟨hc _ _ h.c0, hc _ _ h.c1, hc _ _ h.c2⟩
def costsO (s : Nat) : Int := if s = 0 then 0 else if s = 1 then 10 else 11
theorem enter_at {f : FuncId} {fn : Func} {c : Code} (hf : Tryz.prog.funcs[f]? = some fn) (hname : (fn.name == "runtime.NumGoroutine") = false) (hb : fn.body = some c) (args : Array Value) (w : World) : (callFunc f args).run Tryz.prog w = .ok (.enter f args) w := by
 have h1 : fn.name ≠ "runtime.NumGoroutine" := by simpa using hname
 simp [callFunc, hf, h1, hb]
set_option maxRecDepth 100000 in
set_option maxHeartbeats 1000000 in
theorem minimum_take (W : World) (s : Value) (A1 : Option Addr) (n1 c1 : Nat) (A2 : Option Addr) (n2 c2 : Nat) : Calls Tryz.prog 64 #[.agg #[s, .slice A1 n1 c1, .slice A2 n2 c2]] W fun e w' => e = .returned (if true then .slice A1 n1 c1 else .slice A2 n2 c2) ∧ Below W.heap.size W w' := by
 have hb := Blk.new W [s, .slice A1 n1 c1, .slice A2 n2 c2] 84
 have q1 := hb.cell 1 (by simp)
 simp only [List.getElem_cons_zero, List.getElem_cons_succ] at q1
 have hA : Below W.heap.size W (W.alloc (.cells #[s, .slice A1 n1 c1, .slice A2 n2 c2] 84 (0, 0))) := (Below.refl _ _).alloc (Nat.le_refl _) _
 have HA := Lib.hid hA
 clear hb hA
 go_enter Tryz.func64, Tryz.ntmps64
 go_wp2
 go_ret
 exact ⟨rfl, HA.out⟩
set_option maxRecDepth 100000 in
set_option maxHeartbeats 2000000 in
theorem minimum_calls (A B C : Option Addr) (ca cb cc : Nat) (a : List (List Int)) (b c : List Int) (w : World) (h : Prog3 w A B C a b c) (hc : TabOk 0 costsO w) :
  Calls Tryz.prog 16 #[.agg #[.slice A a.length ca, .slice B b.length cb, .slice C c.length cc]] w fun e w' => OfPost a b c 0 costsO true w w' e ∧ Below w.heap.size w w' := by
 have hb0 : Below w.heap.size w (w.alloc (.cells #[.slice A a.length ca, .slice B b.length cb, .slice C c.length cc] 25 (0, 0))) := (Below.refl _ _).alloc (Nat.le_refl _) _
 have hb1 : Below w.heap.size w ((w.alloc (.cells #[.slice A a.length ca, .slice B b.length cb, .slice C c.length cc] 25 (0, 0))).alloc (.cells #[.slice none 0 0, .int .i64 0] 29 (0, 0))) := hb0.alloc (by simp) _
 have bk := Blk.new (w.alloc (.cells #[.slice A a.length ca, .slice B b.length cb, .slice C c.length cc] 25 (0, 0))) [.slice none 0 0, .int .i64 0] 29
 have hsz : (w.alloc (.cells #[.slice A a.length ca, .slice B b.length cb, .slice C c.length cc] 25 (0, 0))).heap.size = w.heap.size + 1 := by simp
 rw [hsz] at bk
 clear hsz
 obtain ⟨g0, g1, g2⟩ := hc.ext hb1
 have HOF := Lib.hid (of_any A B C ca cb cc a b c 0 costsO true 64 _ (h.ext hb1) (by omega) (by intro h; first | decide | cases h) (by intro h; first | decide | cases h) (enter_at Tryz.func64 (by kernel_rfl) rfl) minimum_take)
 have HB1 := Lib.hid hb1; have HBK := Lib.hid bk
 clear hb0 hb1 bk h hc
 go_enter Tryz.func16, Tryz.ntmps16
 go_wp2_with fail
 refine HOF.out.mono ?_; rintro e w2 ⟨hpost, hb2⟩
 have bl2 := HBK.out.ext hb2
 obtain ⟨rp, hrp⟩ : ∃ rp, w.heap.size + 1 = rp := ⟨_, rfl⟩
 rw [hrp] at bl2 ⊢
 have hB2 := HB1.out.trans (hb2.mono HB1.out.size)
 have hrl := HBK.out.lt
 have hsz := hb2.size
 have c0 := bl2.cell 0 (by simp)
 have c1 := bl2.cell 1 (by simp)
 have f0 := bl2.free 0
 have f1 := bl2.free 1
 simp only [List.getElem_cons_zero, List.getElem_cons_succ] at c0 c1
 obtain ⟨PA, PN, PC, d, k, rfl, hfin⟩ : ∃ (PA : Option Addr) (PN PC : Nat) (d k : Int), e = .returned (.tuple #[.agg #[.slice PA PN PC, .int .i64 d], .int .i64 k]) ∧ OfPost a b c 0 costsO true w ((w2.setCell ⟨rp, 0, none⟩ (.slice PA PN PC)).setCell ⟨rp, 1, none⟩ (.int .i64 d)) e := by
  rcases hpost with ⟨h1, h2⟩ | ⟨h1, s, x, y, h3, h4, h5⟩
  ·exact ⟨none, 0, 0, 0, 2, h2, .inl ⟨h1, h2⟩⟩
  ·rcases h5 with ⟨h5, h6⟩ | ⟨h5, g, xs, d, h6, h7, h8, h9⟩
   ·exact ⟨none, 0, 0, 0, _, h6, .inr ⟨h1, s, x, y, h3, h4, .inl ⟨h5, h6⟩⟩⟩
   ·refine ⟨_, _, _, d, 0, h6, .inr ⟨h1, s, x, y, h3, h4, .inr ⟨h5, g, xs, d, h6, Nat.le_trans HB1.out.size h7, h8.but (((But.refl rp w2).set 0 _).set 1 _) (by omega), h9⟩⟩⟩
 have bl3 := (bl2.set 0 (.slice PA PN PC)).set 1 (.int .i64 d)
 have q0 := bl3.cell 0 (by simp)
 have q1 := bl3.cell 1 (by simp)
 simp only [List.getElem_cons_zero, List.getElem_cons_succ, List.set_cons_zero, List.set_cons_succ] at q0 q1
 have HBF := Lib.hid ((hB2.setCell (p := ⟨rp, 0, none⟩) (by show _ ≤ rp; omega) (.slice PA PN PC)).setCell (p := ⟨rp, 1, none⟩) (by show _ ≤ rp; omega) (.int .i64 d))
 have HFN := Lib.hid hfin
 clear hpost hb2 bl2 bl3 hB2 hfin HOF HBK hrl hsz hrp
 go_wp2
 (try simp only [Exit.inBlock, Exit.then])
 refine bodyPost_ret (v := .tuple #[.agg #[.slice PA PN PC, .int .i64 d], .int .i64 k]) (by simp [results, Tryz.results16, go_sem, q0, q1]) rfl ⟨HFN.out, HBF.out⟩
end Go.Proofs.YtkljafmdbajfeaaGreatDoor

/- linear.Feasible: what it answers. -/
namespace Go.Proofs.YtkljafmdbajfeaaGreatDoor
open Go.RowKit
set_option linter.unusedVariables false
set_option linter.unusedSimpArgs false
def nnB (xs : List Int) : Bool := xs.all fun x => decide (0 ≤ x)
def feasS (a : List (List Int)) (b c xs : List Int) (d : Int) : Bool := progOk a b c && pointOk c.length xs d && nnB xs && (List.range a.length).all fun i => decide (nth b i * d ≤ dotZ (nrow a i) xs)
end Go.Proofs.YtkljafmdbajfeaaGreatDoor

/- tinplateref01.Proper, atLeast0, dot and Feasible: what they answer. -/
namespace Go.Proofs.YtkljafmdbajfeaaGreatDoor
open Go.RowKit
set_option linter.unusedVariables false
set_option linter.unusedSimpArgs false
end Go.Proofs.YtkljafmdbajfeaaGreatDoor

/- tinplateref01.column: what it answers. -/
namespace Go.Proofs.YtkljafmdbajfeaaGreatDoor
open Go.RowKit Go.ChangeMaps
set_option linter.unusedVariables false
set_option linter.unusedSimpArgs false
end Go.Proofs.YtkljafmdbajfeaaGreatDoor

/- tinplateref01.Bounds, Denies and Falls: what they answer. -/
namespace Go.Proofs.YtkljafmdbajfeaaGreatDoor
open Go.RowKit
set_option linter.unusedVariables false
set_option linter.unusedSimpArgs false
theorem cost_small {a : List (List Int)} {b c xs : List Int} {d : Int} (h1 : progOk a b c = true) (h2 : pointOk c.length xs d = true) : Small c xs ∧ c.length ≤ xs.length := by
 obtain ⟨⟨k1, k2⟩, k3, k4, k5, k6, k7⟩ := progOk_parts h1
 obtain ⟨p1, p2, p3, p4⟩ := pointOk_parts h2
 exact ⟨small_of k7 p4 (by omega) (by omega) (n := 6) (by omega) (by omega) (by omega), by omega⟩
end Go.Proofs.YtkljafmdbajfeaaGreatDoor

/- Plain laws of linear programs, said of points with one divisor: weak duality, the one end of a program, what a least point is ahead of. -/
namespace Go.Proofs.YtkljafmdbajfeaaGreatDoor
open Lp (Tab sumTo Feas LexLe EndFound EndEmpty EndFree)
set_option linter.unusedVariables false
set_option linter.unusedSimpArgs false
theorem sumTo_le {n : Nat} {f g : Nat → Rat} (h : ∀ i, i < n → f i ≤ g i) : sumTo n f ≤ sumTo n g := by
 induction n with
 | zero => exact Rat.le_refl
 | succ n ih => unfold Lp.sumTo; have h1 := ih fun i hi => h i (by omega); have h2 := h n (by omega); grind
theorem mulr_le {x y z : Rat} (h : x ≤ y) (hz : 0 ≤ z) : x * z ≤ y * z := Rat.mul_le_mul_of_nonneg_right h hz
theorem mull_le {x y z : Rat} (h : x ≤ y) (hz : 0 ≤ z) : z * x ≤ z * y := Rat.mul_le_mul_of_nonneg_left h hz
theorem sum_swap (m n : Nat) (A : Tab) (Y x : Nat → Rat) : (sumTo m fun i => Y i * sumTo n fun j => A i j * x j) = sumTo n fun j => (sumTo m fun i => Y i * A i j) * x j := by
 have e1 : (sumTo m fun i => Y i * sumTo n fun j => A i j * x j) = sumTo m fun i => sumTo n fun j => Y i * A i j * x j :=
  Lp.sumTo_congr fun i hi => by rw [← Lp.sumTo_mul]; exact Lp.sumTo_congr fun j hj => by grind
 rw [e1, Lp.sumTo_comm]
 exact Lp.sumTo_congr fun j hj => by rw [← Lp.sumTo_mulr]
theorem weak {A : Tab} {b c : Nat → Rat} {n m : Nat} {x Y : Nat → Rat} (hx : Feas A b n m x) (h0 : ∀ i, i < m → 0 ≤ Y i) (hY : ∀ j, j < n → (sumTo m fun i => Y i * A i j) ≤ c j) :
  (sumTo m fun i => Y i * b i) ≤ sumTo n fun j => c j * x j := by
 have h1 : (sumTo m fun i => Y i * b i) ≤ sumTo m fun i => Y i * sumTo n fun j => A i j * x j := sumTo_le fun i hi => mull_le (hx.ge i hi) (h0 i hi)
 rw [sum_swap] at h1
 exact Rat.le_trans h1 (sumTo_le fun j hj => mulr_le (hY j hj) (hx.nn j hj))
theorem sum0 (n : Nat) (f : Nat → Rat) : (sumTo n fun j => 0 * f j) = 0 := Lp.sumTo_zero fun _ _ => by grind
theorem empty_feas {A : Tab} {b : Nat → Rat} {n m : Nat} {x Y : Nat → Rat} (h : EndEmpty A b n m Y) (hx : Feas A b n m x) : False := by
 have h1 := weak (c := fun _ => 0) hx h.nn h.le
 rw [sum0] at h1
 have h2 := h.pos
 grind
structure Pt (xs : List Int) (d : Int) (n : Nat) (x : Nat → Rat) : Prop where
 len : xs.length = n
 d1 : 1 ≤ d
 val : ∀ i, i < n → ((nth xs i : Int) : Rat) = x i * (d : Rat)
theorem PtOf.pt {xs : List Int} {d : Int} {n : Nat} {x : Nat → Rat} (h : PtOf xs d n x) : Pt xs d n x := ⟨h.len, h.d1, h.val⟩
theorem rpos {d : Int} (h : 1 ≤ d) : (0 : Rat) < (d : Rat) := by
 have h1 : ((0 : Int) : Rat) < (d : Rat) := Rat.intCast_lt_intCast.2 (by omega)
 simpa using h1
theorem Pt.of {xs : List Int} {d : Int} {n : Nat} (hl : xs.length = n) (hd : 1 ≤ d) : Pt xs d n fun i => (nth xs i : Rat) / (d : Rat) := by
 refine ⟨hl, hd, fun i hi => ?_⟩
 have h1 := rpos hd
 have h2 : (d : Rat) ≠ 0 := by grind
 exact (Rat.div_mul_cancel h2).symm
theorem dotN_sum (xs ys : List Int) : ∀ k, ((dotN xs ys k : Int) : Rat) = sumTo k fun i => ((nth xs i : Int) : Rat) * ((nth ys i : Int) : Rat)
 | 0 => rfl
 | k + 1 => by
   simp only [dotN, Lp.sumTo]
   rw [Rat.intCast_add, Rat.intCast_mul, dotN_sum xs ys k]
theorem Pt.dot {xs : List Int} {d : Int} {n : Nat} {x : Nat → Rat} (h : Pt xs d n x) {r : List Int} (hr : r.length = n) : ((dotZ r xs : Int) : Rat) = (sumTo n fun j => ((nth r j : Int) : Rat) * x j) * (d : Rat) := by
 unfold dotZ
 rw [dotN_sum, hr, ← Lp.sumTo_mulr]
 exact Lp.sumTo_congr fun j hj => by rw [h.val j hj]; grind
theorem mulr_lt {x y z : Rat} (hz : 0 < z) (h : x < y) : x * z < y * z := Rat.mul_lt_mul_of_pos_right h hz
theorem mulr_le_iff {x y z : Rat} (hz : 0 < z) : x * z ≤ y * z ↔ x ≤ y := by
 constructor
 ·intro h
  refine Classical.byContradiction fun hn => ?_
  have := mulr_lt hz (x := y) (y := x) (by grind)
  grind
 ·intro h; exact mulr_le h (by grind)
theorem cross_le {p q d e : Int} {x y : Rat} (hd : 1 ≤ d) (he : 1 ≤ e) (hp : (p : Rat) = x * (d : Rat)) (hq : (q : Rat) = y * (e : Rat)) : p * e ≤ q * d ↔ x ≤ y := by
 have h1 := rpos hd
 have h2 := rpos he
 have h3 : (0 : Rat) < (d : Rat) * (e : Rat) := Rat.mul_pos h1 h2
 rw [← Rat.intCast_le_intCast, Rat.intCast_mul, Rat.intCast_mul, hp, hq, ← mulr_le_iff h3 (x := x) (y := y)]
 have e1 : x * (d : Rat) * (e : Rat) = x * ((d : Rat) * (e : Rat)) := by grind
 have e2 : y * (e : Rat) * (d : Rat) = y * ((d : Rat) * (e : Rat)) := by grind
 rw [e1, e2]
theorem over_le {p q d : Int} {x y : Rat} (hd : 1 ≤ d) (hp : (p : Rat) = x * (d : Rat)) (hq : (q : Rat) = y * (d : Rat)) : p ≤ q ↔ x ≤ y := by
 rw [← Rat.intCast_le_intCast, hp, hq, mulr_le_iff (rpos hd)]
theorem zero_cast (d : Int) : ((0 : Int) : Rat) = 0 * (d : Rat) := by simp
theorem int_over (p d : Int) : ((p * d : Int) : Rat) = (p : Rat) * (d : Rat) := Rat.intCast_mul p d
theorem nnB_iff {xs : List Int} : nnB xs = true ↔ ∀ i, i < xs.length → 0 ≤ nth xs i := by
 unfold nnB
 rw [List.all_eq_true]
 constructor
 ·intro h i hi; exact of_decide_eq_true (h _ (nth_mem hi))
 ·intro h x hx
  obtain ⟨i, hi, rfl⟩ := List.getElem_of_mem hx
  have := h i hi
  rw [nth_lt hi] at this
  exact decide_eq_true this
theorem Pt.nn {xs : List Int} {d : Int} {n : Nat} {x : Nat → Rat} (h : Pt xs d n x) : nnB xs = true ↔ ∀ i, i < n → 0 ≤ x i := by
 rw [nnB_iff, h.len]
 constructor
 ·intro k i hi; exact (over_le h.d1 (zero_cast d) (h.val i hi)).1 (k i hi)
 ·intro k i hi; exact (over_le h.d1 (zero_cast d) (h.val i hi)).2 (k i hi)
theorem listOk_of {m : Int} {xs : List Int} (h : ∀ i, i < xs.length → -m ≤ nth xs i ∧ nth xs i ≤ m) : listOk m xs = true := by
 unfold listOk
 rw [List.all_eq_true]
 intro x hx
 obtain ⟨i, hi, rfl⟩ := List.getElem_of_mem hx
 have := h i hi
 rw [nth_lt hi] at this
 unfold inB
 simp [this.1, this.2]
theorem PtOf.ok {xs : List Int} {d : Int} {n : Nat} {x : Nat → Rat} (h : PtOf xs d n x) : pointOk n xs d = true := by
 have h1 := h.d1; have h2 := h.d2
 have h3 : listOk 1125899906842624 xs = true := listOk_of fun i hi => by have := h.bd i (by rw [← h.len]; exact hi); omega
 unfold pointOk
 rw [h3, decide_eq_true h.len, decide_eq_true h1, decide_eq_true (by omega)]; rfl
theorem pointOk.pt {n : Nat} {xs : List Int} {d : Int} (h : pointOk n xs d = true) : Pt xs d n fun i => (nth xs i : Rat) / (d : Rat) := by
 obtain ⟨h1, h2, -, -⟩ := pointOk_parts h; exact Pt.of h1 h2
theorem row_len {a : List (List Int)} {b c : List Int} (h : progOk a b c = true) {i : Nat} (hi : i < a.length) : (nrow a i).length = c.length := ((progOk_parts h).2.2.1 _ (nrow_mem hi)).1
section
variable {a : List (List Int)} {b c xs ys : List Int} {d e : Int} {x y : Nat → Rat}
theorem feas_iff (hp : progOk a b c = true) (ho : pointOk c.length xs d = true) (h : Pt xs d c.length x) : feasS a b c xs d = true ↔ Feas (qA a) (qB b) c.length a.length x := by
 unfold feasS
 rw [hp, ho, Bool.true_and, Bool.true_and, Bool.and_eq_true, h.nn, List.all_eq_true]
 have key : ∀ i, i < a.length → (nth b i * d ≤ dotZ (nrow a i) xs ↔ qB b i ≤ sumTo c.length fun j => qA a i j * x j) := fun i hi =>
  over_le h.d1 (int_over _ _) (h.dot (row_len hp hi))
 constructor
 ·rintro ⟨h1, h2⟩
  exact ⟨h1, fun i hi => (key i hi).1 (of_decide_eq_true (h2 i (List.mem_range.2 hi)))⟩
 ·rintro ⟨h1, h2⟩
  exact ⟨h1, fun i hi => decide_eq_true ((key i (List.mem_range.1 hi)).2 (h2 i (List.mem_range.1 hi)))⟩
theorem feasS_parts (h : feasS a b c xs d = true) : progOk a b c = true ∧ pointOk c.length xs d = true := by
 unfold feasS at h; simp only [Bool.and_eq_true] at h; exact ⟨h.1.1.1, h.1.1.2⟩
theorem feasS_feas (h : feasS a b c xs d = true) : Feas (qA a) (qB b) c.length a.length fun i => (nth xs i : Rat) / (d : Rat) := by
 obtain ⟨h1, h2⟩ := feasS_parts h
 exact (feas_iff h1 h2 (pointOk.pt h2)).1 h
/-! LinearDuality -/
/-! LinearWeak, LinearLeast -/
theorem found_cost (h : feasS a b c xs d = true) (k : EndFound (qA a) (qB b) (qB c) c.length a.length x y) {ms : List Int} (hm : PtOf ms e c.length x) : dotZ c ms * d ≤ dotZ c xs * e := by
 obtain ⟨h1, h2⟩ := feasS_parts h
 refine (cross_le hm.d1 (pointOk_parts h2).2.1 (hm.pt.dot rfl) ((pointOk.pt h2).dot rfl)).2 ?_
 have h3 := weak (feasS_feas h) k.nn k.le
 have h4 := k.level
 show (sumTo c.length fun j => qB c j * x j) ≤ sumTo c.length fun j => qB c j * ((nth xs j : Rat) / (d : Rat))
 grind
end
section
variable {a : List (List Int)} {b c xs ds : List Int} {d e k : Int} {z : Nat → Rat}
end
theorem val_parts (z d : Int) (hd : 1 ≤ d) : ∃ g v e : Int, 1 ≤ g ∧ z.tdiv (gcdN d [z] 1) = v ∧ d.tdiv (gcdN d [z] 1) = e ∧ z = v * g ∧ d = e * g ∧ 1 ≤ e := by
 have h1 := gcdN_pos hd [z] 1
 have h2 := gcdN_dvd_d d [z] 1
 have h3 := gcdN_dvd_x d [z] (k := 1) (i := 0) (by omega)
 obtain ⟨G, hG⟩ : ∃ G : Nat, gcdN d [z] 1 = G := ⟨_, rfl⟩
 rw [hG] at h1 h2 h3 ⊢
 have h3 : G ∣ z.natAbs := h3
 have k1 : (G : Int) ∣ z := Int.ofNat_dvd_left.2 h3
 have k2 : (G : Int) ∣ d := Int.ofNat_dvd_left.2 h2
 obtain ⟨v, rfl⟩ := k1
 obtain ⟨e, rfl⟩ := k2
 have hg : (G : Int) ≠ 0 := by omega
 refine ⟨G, v, e, by omega, Int.mul_tdiv_cancel_left _ hg, Int.mul_tdiv_cancel_left _ hg, Int.mul_comm _ _, Int.mul_comm _ _, ?_⟩
 rcases Int.lt_or_le 0 e with h | h
 ·omega
 ·have := Int.mul_nonpos_of_nonneg_of_nonpos (a := (G : Int)) (b := e) (by omega) h; omega
end Go.Proofs.YtkljafmdbajfeaaGreatDoor

/- Values of points, and what Minimum gives where a program has a point. -/
namespace Go.Proofs.YtkljafmdbajfeaaGreatDoor
open Go.RowKit
open Lp (EndFound EndEmpty EndFree)
set_option linter.unusedVariables false
set_option linter.unusedSimpArgs false
theorem tdiv_nat {z : Int} (G : Nat) : (z.tdiv (G : Int)).natAbs ≤ z.natAbs := by rw [Int.natAbs_tdiv]; exact Nat.div_le_self _ _
theorem value_one (A B C X : Option Addr) (ca cb cc cx : Nat) (a : List (List Int)) (b c xs : List Int) (d : Int) (w : World) (h : Prog3 w A B C a b c) (hX : Ints w X xs) (hm : xs.length ≤ maxLen) (h1 : progOk a b c = true) (h2 : pointOk c.length xs d = true) :
  ∃ v e g : Int, 1 ≤ g ∧ dotZ c xs = v * g ∧ d = e * g ∧ (-9223372036854775808 ≤ v ∧ v ≤ 9223372036854775807) ∧ (1 ≤ e ∧ e ≤ 1125899906842624) ∧
  Calls Tryz.prog 41 #[.agg #[.slice A a.length ca, .slice B b.length cb, .slice C c.length cc], .agg #[.slice X xs.length cx, .int .i64 d]] w fun r w' => ∃ p, r = .returned (.tuple #[.agg #[.slice (some ⟨p, 0, none⟩) 1 1, .int .i64 e], .int .i64 0]) ∧ IBlk w' p [v] ∧ Below w.heap.size w w' := by
 obtain ⟨-, p2, p3, -⟩ := pointOk_parts h2
 obtain ⟨g, v, e, g1, g2, g3, g4, g5, g6⟩ := val_parts (dotZ c xs) d p2
 obtain ⟨hs, hl⟩ := cost_small h1 h2
 have hz := dotZ_bd hs
 have t1 := tdiv_nat (z := dotZ c xs) (gcdN d [dotZ c xs] 1)
 have t2 := tdiv_nat (z := d) (gcdN d [dotZ c xs] 1)
 rw [g2] at t1
 rw [g3] at t2
 refine ⟨v, e, g, g1, g4, g5, by omega, by omega, (value_ok A B C X ca cb cc cx a b c xs d w h hX hm h1 h2).mono ?_⟩
 rintro r w' ⟨p, k1, -, k3, k4⟩
 rw [g3] at k1
 rw [g2] at k3
 exact ⟨p, k1, k3, k4⟩
end Go.Proofs.YtkljafmdbajfeaaGreatDoor
