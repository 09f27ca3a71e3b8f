/- A frame: which blocks a call may have written. Plain lemmas. -/
import Derived.Test.YtbdlfjhhgnhejaaMem
namespace Go.Proofs.Ytbdlfjhhgnhejaa
open Go.RowKit

/-- w' is w with new memory, but for the blocks of S. -/
structure Fr (S : Nat → Prop) (w w' : World) : Prop where
  os : w'.os = w.os
  tape : w'.tape = w.tape
  output : w'.output = w.output
  size : w.heap.size ≤ w'.heap.size
  block : ∀ k, k < w.heap.size → ¬ S k → w'.heap[k]? = w.heap[k]?
variable {S : Nat → Prop} {w w' w'' : World}
theorem Fr.refl (S : Nat → Prop) (w : World) : Fr S w w := ⟨rfl, rfl, rfl, Nat.le_refl _, fun _ _ _ => rfl⟩
theorem Fr.trans (h : Fr S w w') (k : Fr S w' w'') : Fr S w w'' :=
  ⟨k.os.trans h.os, k.tape.trans h.tape, k.output.trans h.output, Nat.le_trans h.size k.size, fun i hi hb => (k.block i (Nat.lt_of_lt_of_le hi h.size) hb).trans (h.block i hi hb)⟩
theorem Fr.mono {T : Nat → Prop} (h : Fr S w w') (hs : ∀ k, S k → T k) : Fr T w w' := ⟨h.os, h.tape, h.output, h.size, fun k hk ht => h.block k hk fun hS => ht (hs k hS)⟩
theorem Fr.ofBelow (h : Below w.heap.size w w') : Fr S w w' := ⟨h.os, h.tape, h.output, h.size, fun k hk _ => h.block k hk⟩
theorem Fr.alloc (h : Fr S w w') (o : Obj) : Fr S w (w'.alloc o) := h.trans (Fr.ofBelow ((Below.refl _ _).alloc (Nat.le_refl _) _))
theorem Fr.drewN (h : Fr S w w') (n : Nat) : Fr S w (w'.drewN n) := ⟨h.os, h.tape, h.output, h.size, h.block⟩
theorem Fr.drew (h : Fr S w w') : Fr S w w'.drew := ⟨h.os, h.tape, h.output, h.size, h.block⟩
theorem Fr.set (h : Fr S w w') {a : Addr} (ha : S a.block ∨ w.heap.size ≤ a.block) (v : Value) : Fr S w (w'.setCell a v) :=
  ⟨h.os, h.tape, h.output, by simpa using h.size, fun k hk hb => by
    rw [Below.heap_setCell _ _ _ _ (fun e => by rcases ha with ha | ha; exact hb (e ▸ ha); omega)]; exact h.block k hk hb⟩
theorem Fr.below {B : Nat} (h : Fr S w w') (hs : ∀ k, S k → B ≤ k) (hB : B ≤ w.heap.size) : Below B w w' :=
  ⟨h.os, h.tape, h.output, h.size, fun k hk => h.block k (by omega) fun hS => by have := hs k hS; omega⟩
/-- All that the frame may have written is new. -/
theorem Fr.ext (h : Fr S w w') (hs : ∀ k, S k → w.heap.size ≤ k) : Below w.heap.size w w' := h.below hs (Nat.le_refl _)
theorem Blk.fr {b : Nat} {vs : List Value} {T : TypeId} (h : Blk w b vs T) (hf : Fr S w w') (hb : ¬ S b) : Blk w' b vs T := by
  have := h.lt
  unfold Blk at *; rw [hf.block b this hb]; exact h
end Go.Proofs.Ytbdlfjhhgnhejaa
