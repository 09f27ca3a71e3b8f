/- branch.program.each: the function value that is handed in sees each feasible vector of the box, in lexicographic order. -/
import Derived.Test.YtbdlfjhhgnhejaaOf
import Derived.Test.YtbdlfjhhgnhejaaFr
import Derived.Test.YtbdlfjhhgnhejaaBox
namespace Go.Proofs.Ytbdlfjhhgnhejaa
open Go.RowKit

/-- A function value that each may call: it keeps Inv, whatever is done to the vector's block xa, and writes its own blocks V alone. -/
structure Visit (vid : FuncId) (vcaps : Array Value) (V : Nat → Prop) (Inv : Nat → List (List Int) → World → Prop) (c u : List Int) : Prop where
  enters : Enters vid
  stable : ∀ xa L w w', Inv xa L w → Fr (· = xa) w w' → Inv xa L w'
  call : ∀ xa L x w, Inv xa L w → IBlk w xa x → x.length = u.length → InBox u x u.length → ¬ V xa → Calls Try.prog vid (#[.slice (some ⟨xa, 0, none⟩) u.length u.length, .int .i64 (dotZ c x)] ++ vcaps) w fun e w' => e = .returned (.tuple #[]) ∧ Inv xa (L ++ [x]) w' ∧ Fr V w w'

/-- What lies in memory while each runs. -/
structure EC (w0 w : World) (A B C U : Option Addr) (ca cb cc cu : Nat) (a : List (List Int)) (b c u : List Int) (vid : FuncId) (vcaps : Array Value) (pb xc xa ac vc : Nat) : Prop where
  P : Blk w pb [.slice A a.length ca, .slice B b.length cb, .slice C c.length cc, .slice U u.length cu, .int .i64 u.length] 46
  X : Blk w xc [.slice (some ⟨xa, 0, none⟩) u.length u.length] 23
  F : Blk w ac [.func (.func 42) #[] #[.pointer (some ⟨pb, 0, none⟩), .pointer (some ⟨xc, 0, none⟩), .pointer (some ⟨ac, 0, none⟩), .pointer (some ⟨vc, 0, none⟩)]] 84
  Y : Blk w vc [.func (.func vid) #[] vcaps] 69
  D : Below w0.heap.size w0 w

/-- Which blocks are not the visitor's own, and lie above the data. -/
structure Apt (w0 : World) (V : Nat → Prop) (pb xc xa ac vc : Nat) : Prop where
  v : ∀ k, V k → w0.heap.size ≤ k ∧ k ≠ pb ∧ k ≠ xc ∧ k ≠ xa ∧ k ≠ ac ∧ k ≠ vc
  xa : w0.heap.size ≤ xa ∧ xa ≠ pb ∧ xa ≠ xc ∧ xa ≠ ac ∧ xa ≠ vc

theorem EC.fr {w0 w w' : World} {A B C U : Option Addr} {ca cb cc cu : Nat} {a : List (List Int)} {b c u : List Int} {vid : FuncId} {vcaps : Array Value} {pb xc xa ac vc : Nat} {V : Nat → Prop}
    (h : EC w0 w A B C U ca cb cc cu a b c u vid vcaps pb xc xa ac vc) (ha : Apt w0 V pb xc xa ac vc) (hf : Fr (fun k => V k ∨ k = xa) w w') : EC w0 w' A B C U ca cb cc cu a b c u vid vcaps pb xc xa ac vc :=
  ⟨h.P.fr hf (by rintro (k | k); exact (ha.v _ k).2.1 rfl; exact ha.xa.2.1 k.symm), h.X.fr hf (by rintro (k | k); exact (ha.v _ k).2.2.1 rfl; exact ha.xa.2.2.1 k.symm),
   h.F.fr hf (by rintro (k | k); exact (ha.v _ k).2.2.2.2.1 rfl; exact ha.xa.2.2.2.1 k.symm), h.Y.fr hf (by rintro (k | k); exact (ha.v _ k).2.2.2.2.2 rfl; exact ha.xa.2.2.2.2 k.symm),
   h.D.trans (hf.below (by rintro k (hk | hk); exact (ha.v _ hk).1; rw [hk]; exact ha.xa.1) h.D.size)⟩

/-- What the walk of the leaf wants of a row. -/
theorem row_small {a : List (List Int)} {b c u : List Int} (h : wholeOk a b c u = true) {x : List Int} (hx : x.length = u.length) (hi : InBox u x u.length) : (∀ i, i < a.length → Small (nrow a i) x ∧ (nrow a i).length = x.length) ∧ Small c x ∧ c.length = x.length ∧ b.length = a.length := by
  unfold wholeOk at h; simp only [Bool.and_eq_true, decide_eq_true_eq] at h
  obtain ⟨⟨⟨h1, h2⟩, h3⟩, h4⟩ := h
  obtain ⟨⟨pc1, pc2⟩, pa, pr, pbl, pb, pc⟩ := progOk_parts h4
  have hx7 : listOk 7 x = true := by
    unfold listOk; rw [List.all_eq_true]
    intro v hv
    obtain ⟨i, hi1, rfl⟩ := List.getElem_of_mem hv
    have := hi i (by omega)
    rw [nth_lt hi1] at this
    have hu := (List.all_eq_true.1 h3) (nth u i) (nth_mem (by omega))
    simp at hu
    unfold inB; simp; omega
  refine ⟨fun i hi => ?_, ?_, by omega, pbl⟩
  · have := pr _ (nrow_mem hi)
    exact ⟨small_of this.2 hx7 (by omega) (by omega) (n := 6) (by omega) (by omega) (by omega), by omega⟩
  · exact small_of pc hx7 (by omega) (by omega) (n := 6) (by omega) (by omega) (by omega)

/-- How the leaf ends. -/
def LeafPost (Inv : Nat → List (List Int) → World → Prop) (S : Nat → Prop) (xa : Nat) (xs : List Int) (L : List (List Int)) (w : World) (e : Ending) (w' : World) : Prop :=
  e = .returned (.tuple #[]) ∧ ∃ xs', IBlk w' xa xs' ∧ xs'.length = xs.length ∧ xs'.take xs.length = xs ∧ Inv xa L w' ∧ Fr S w w'

set_option maxHeartbeats 1000000 in
theorem each_leaf {vid : FuncId} {vcaps : Array Value} {V : Nat → Prop} {Inv : Nat → List (List Int) → World → Prop} {w0 w : World} {A B C U : Option Addr} {ca cb cc cu : Nat} {a : List (List Int)} {b c u : List Int} {pb xc xa ac vc : Nat}
    (hv : Visit vid vcaps V Inv c u) (hw0 : Who w0 A B C U a b c u) (hok : wholeOk a b c u = true) (hap : Apt w0 V pb xc xa ac vc) (L : List (List Int)) (x : List Int)
    (hec : EC w0 w A B C U ca cb cc cu a b c u vid vcaps pb xc xa ac vc) (hx : IBlk w xa x) (hxl : x.length = u.length) (hxb : InBox u x u.length) (hinv : Inv xa L w) :
    Calls Try.prog 42 #[.int .i64 u.length, .pointer (some ⟨pb, 0, none⟩), .pointer (some ⟨xc, 0, none⟩), .pointer (some ⟨ac, 0, none⟩), .pointer (some ⟨vc, 0, none⟩)] w (LeafPost Inv (fun k => V k ∨ k = xa) xa x (L ++ compl a b [] x) w) := by
  obtain ⟨hrow, hcs, hcl, hbl⟩ := row_small hok hxl hxb
  have hlu := hw0.lu; have hla := hw0.p.la; unfold maxLen at hlu hla
  have p0 := hec.P.cell 0 (by simp)
  have p1 := hec.P.cell 1 (by simp)
  have p2 := hec.P.cell 2 (by simp)
  have p3 := hec.P.cell 3 (by simp)
  have p4 := hec.P.cell 4 (by simp)
  have x0 := hec.X.cell 0 (by simp)
  have y0 := hec.Y.cell 0 (by simp)
  simp only [List.getElem_cons_zero, List.getElem_cons_succ] at p0 p1 p2 p3 p4 x0 y0
  go_enter Try.func42, Try.ntmps42
  go_wp2_with fail
  go_loopw [6, 7, 40] (fun _ _ i wr => ∃ k n : Nat, k ≤ a.length ∧ i = .int .i64 k ∧ (∀ i, i < k → nth b i ≤ dotZ (nrow a i) x) ∧ wr = w.drewN n) (fun _ _ i _ => a.length - (intOf i).toNat)
  case atStart => exact ⟨0, 0, Nat.zero_le _, rfl, fun i hi => by omega, rfl⟩
  case round =>
    obtain ⟨k, n, hk, rfl, hall, rfl⟩ := hrel
    by_cases hlt : k < a.length
    · obtain ⟨bA, oA, R, cR, rfl, gA, _, gR⟩ := (hw0.p.ext hec.D).ga k hlt
      obtain ⟨bB, oB, rfl, gB⟩ := (hw0.p.ext hec.D).gb k (by omega)
      have hlt' : k < b.length := by omega
      obtain ⟨hsm, hlen⟩ := hrow k hlt
      clear hrow
      have hx2 := IBlk.ints hx
      have hle : (nrow a k).length ≤ x.length := by omega
      have hmr := hw0.p.lr _ (nrow_mem hlt)
      have HL := Lib.hid hxl; have HLN := Lib.hid hlen; have HB := Lib.hid hbl; have HCL := Lib.hid hcl
      clear hxl hlen hbl hcl
      by_cases hge : nth b k ≤ dotZ (nrow a k) x
      · have hd : decide (dotZ (nrow a k) x < nth b k) = false := decide_eq_false (by omega)
        go_wp2_with fail
        go_quiet ((go_at_call 43; exact brDot_in _ _ _ _ _ _ (nrow a k) x _ _ _ rfl HL.out hle hmr gR hx2 hsm))
        go_wp2
        go_roundw
        case rel => exact ⟨k + 1, _, by omega, by go_num, fun i hi => if e : i = k then e ▸ hge else hall i (by omega), rfl⟩
        case measure => simp [intOf]; omega
      · have hd : decide (dotZ (nrow a k) x < nth b k) = true := decide_eq_true (by omega)
        go_wp2_with fail
        go_quiet ((go_at_call 43; exact brDot_in _ _ _ _ _ _ (nrow a k) x _ _ _ rfl HL.out hle hmr gR hx2 hsm))
        go_wp2
        go_end0
        have hno : feasB a b x = false := by
          unfold feasB; rw [List.all_eq_false]; exact ⟨k, by simpa using hlt, by simpa using hge⟩
        exact ⟨rfl, x, (hx.drewN n).drewN nq, rfl, List.take_length, by rw [compl_nil, hno]; simpa using hv.stable _ _ _ _ hinv (((Fr.refl _ _).drewN n).drewN nq), ((Fr.refl _ _).drewN n).drewN nq⟩
    · obtain rfl : k = a.length := by omega
      have hyes : feasB a b x = true := by
        unfold feasB; rw [List.all_eq_true]; intro i hi; exact decide_eq_true (hall i (by simpa using hi))
      clear hrow
      have hent := hv.enters
      have hx2 := (IBlk.ints hx)
      have hC := (hw0.p.ext hec.D).gc
      have hlc := hw0.p.lc
      have hle : c.length ≤ x.length := by omega
      have hcall : ∀ m, _ := fun m => hv.call xa L x (w.drewN m) (hv.stable _ _ _ _ hinv ((Fr.refl _ _).drewN _)) (hx.drewN m) hxl hxb (fun h => (hap.v _ h).2.2.2.1 rfl)
      have HXL := Lib.hid hxl; have HBL := Lib.hid hbl; have HCL := Lib.hid hcl; have HY := Lib.hid hyes
      clear hxl hbl hcl hyes hall
      go_wp2_with fail
      go_region_held3 (fun w' => w'.cell? ⟨vc, 0, none⟩ = some (.func (.func vid) #[] vcaps) ∧ w'.cell? ⟨xc, 0, none⟩ = some (.slice (some ⟨xa, 0, none⟩) u.length u.length) ∧ w'.cell? ⟨pb, 2, none⟩ = some (.slice C c.length cc))
        (first | (go_keep; done))
        (first
          | (go_at_call 43; refine (brDot_in _ _ _ _ _ _ c x w n 1 rfl HXL.out hle hlc hC hx2 hcs).mono ?_; rintro e w3 ⟨rfl, m3, rfl⟩)
          | (rw [hent, Oper.upon_enter]; refine (hcall _).mono ?_; rintro e w4 ⟨rfl, hi4, hf4⟩; have hfr := ((Fr.refl (fun k => V k ∨ k = xa) w).drewN _).trans (hf4.mono (fun k hk => Or.inl hk)); have hec4 := hec.fr hap hfr; have z1 : w4.cell? ⟨vc, 0, none⟩ = some (.func (.func vid) #[] vcaps) := hec4.Y.cell 0 (by simp); have z2 : w4.cell? ⟨xc, 0, none⟩ = some (.slice (some ⟨xa, 0, none⟩) u.length u.length) := hec4.X.cell 0 (by simp); have z3 : w4.cell? ⟨pb, 2, none⟩ = some (.slice C c.length cc) := hec4.P.cell 2 (by simp); have hx4 := Blk.fr (hx.drewN _) hf4 (fun h => (hap.v _ h).2.2.2.1 rfl)))
      go_wp2
      go_end0
      exact ⟨rfl, x, hx4, rfl, List.take_length, by rw [compl_nil, HY.out]; exact hi4, hfr⟩
end Go.Proofs.Ytbdlfjhhgnhejaa
