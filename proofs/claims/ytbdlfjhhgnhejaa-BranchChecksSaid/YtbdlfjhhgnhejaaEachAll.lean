/- branch.program.each as a whole. -/
import Derived.Test.YtbdlfjhhgnhejaaEachAt
import Derived.Laws.EntriesVeiled
namespace Go.Proofs.Ytbdlfjhhgnhejaa
open Go.RowKit

/-- How each ends. -/
def EachPost (V : Nat → Prop) (Inv : Nat → List (List Int) → World → Prop) (a : List (List Int)) (b u : List Int) (w : World) (e : Ending) (w' : World) : Prop :=
  e = .returned (.tuple #[]) ∧ ∃ xa, Inv xa ((box u).filter (feasB a b)) w' ∧ Fr V w w'

set_option maxHeartbeats 1000000 in
theorem each_calls {vid : FuncId} {vcaps : Array Value} {V : Nat → Prop} {Inv : Nat → List (List Int) → World → Prop} {w0 w : World} {A B C U : Option Addr} {ca cb cc cu : Nat} {a : List (List Int)} {b c u : List Int}
    (hv : Visit vid vcaps V Inv c u) (hw0 : Who w0 A B C U a b c u) (hok : wholeOk a b c u = true) (hB : Below w0.heap.size w0 w) (hV : ∀ k, V k → w0.heap.size ≤ k ∧ k < w.heap.size)
    (hinit : ∀ xa w1, w.heap.size ≤ xa → Below w.heap.size w w1 → Inv xa [] w1) :
    Calls Try.prog 29 #[.agg #[.slice A a.length ca, .slice B b.length cb, .slice C c.length cc, .slice U u.length cu, .int .i64 u.length], .func (.func vid) #[] vcaps] w (EachPost V Inv a b u w) := by
  have hul : u.length ≤ 5 := by
    unfold wholeOk at hok; simp only [Bool.and_eq_true, decide_eq_true_eq] at hok; omega
  have hsz := hB.size
  have hap : Apt w0 V w.heap.size (w.heap.size + 1 + 1 + 1) (w.heap.size + 1 + 1) (w.heap.size + 1 + 1 + 1 + 1) (w.heap.size + 1) := ⟨fun k hk => by have := hV k hk; omega, by omega⟩
  have hmk := fun w => run_makeInts w u.length (by omega)
  have hcf : ∀ args w1, (callFunc 42 args).run Try.prog w1 = .ok (.enter 42 args) w1 := fun _ _ => by kernel_rfl
  have hul' : u.length ≤ 9000000000000000000 := by omega
  go_enter Try.func29, Try.ntmps29
  have hat : ∀ w1, _ := fun w1 => each_at (ca := ca) (cb := cb) (cc := cc) (cu := cu) hv hw0 hok hap u.length 0 (by omega) w1 [] (zeros u.length)
  have hbel : ∀ o1 o2 o3 o4 o5, Below w.heap.size w (((((w.alloc o1).alloc o2).alloc o3).alloc o4).alloc o5) := fun o1 o2 o3 o4 o5 => (((((Below.refl _ _).alloc (Nat.le_refl _) _).alloc (by simp) _).alloc (by simp; omega) _).alloc (by simp; omega) _).alloc (by simp; omega) _
  go_wp2_with (go_at_call 42; refine (hat _ ?ec ?ib (zeros_len _) (fun i hi => by omega) (hinit _ _ (by omega) (hbel _ _ _ _ _))).mono ?rest; case' rest => rintro e w' ⟨rfl, xs', _, _, _, hinv, hf⟩)
  case ec => exact ⟨((((Blk.new' w [.slice A a.length ca, .slice B b.length cb, .slice C c.length cc, .slice U u.length cu, .int .i64 u.length] _ _ rfl).alloc _).alloc _).alloc _).alloc _, (Blk.new' _ [.slice (some ⟨w.heap.size + 1 + 1, 0, none⟩) u.length u.length] _ _ (by simp)).alloc _,
      Blk.new' _ [_] _ _ (by simp), (((Blk.new' _ [.func (.func vid) #[] vcaps] _ _ (by simp)).alloc _).alloc _).alloc _, hB.trans ((hbel _ _ _ _ _).mono hsz)⟩
  case ib => exact ((IBlk.made' _ _ _ (by simp)).alloc _).alloc _
  · go_end0
    refine ⟨rfl, w.heap.size + 1 + 1, ?_, ?_⟩
    · have e := compl_root a b u
      rw [List.nil_append, List.drop_zero, List.take_zero, e] at hinv
      exact hinv
    · exact ⟨hf.os.trans (hbel _ _ _ _ _).os, hf.tape.trans (hbel _ _ _ _ _).tape, hf.output.trans (hbel _ _ _ _ _).output, Nat.le_trans (hbel _ _ _ _ _).size hf.size, fun k hk hv => (hf.block k (Nat.lt_of_lt_of_le hk (hbel _ _ _ _ _).size) (by rintro (h | h); exact hv h; omega)).trans ((hbel _ _ _ _ _).block k hk)⟩

theorem each_at_n {vid : FuncId} {vcaps : Array Value} {V : Nat → Prop} {Inv : Nat → List (List Int) → World → Prop} {w0 w : World} {A B C U : Option Addr} {ca cb cc cu : Nat} {a : List (List Int)} {b c u : List Int}
    (hv : Visit vid vcaps V Inv c u) (hw0 : Who w0 A B C U a b c u) (hok : wholeOk a b c u = true) (hB : Below w0.heap.size w0 w) (n : Nat) (hn : u.length = n) (hV : ∀ k, V k → w0.heap.size ≤ k ∧ k < w.heap.size)
    (hinit : ∀ xa w1, w.heap.size ≤ xa → Below w.heap.size w w1 → Inv xa [] w1) :
    Calls Try.prog 29 #[.agg #[.slice A a.length ca, .slice B b.length cb, .slice C c.length cc, .slice U u.length cu, .int .i64 n], .func (.func vid) #[] vcaps] w (EachPost V Inv a b u w) := by
  rw [← hn]; exact each_calls hv hw0 hok hB hV hinit
end Go.Proofs.Ytbdlfjhhgnhejaa
