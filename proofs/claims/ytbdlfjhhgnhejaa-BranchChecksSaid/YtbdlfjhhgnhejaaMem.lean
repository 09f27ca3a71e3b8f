/- Blocks that are known whole: what a made slice of ints holds, what a store leaves, what a call that only makes memory leaves. -/
import Derived.Test.YtbdlfjhhgnhejaaBase
namespace Go.Proofs.Ytbdlfjhhgnhejaa
open Go.RowKit

/-- Block b holds just these values. -/
def Blk (w : World) (b : Nat) (vs : List Value) (T : TypeId) : Prop := w.heap[b]? = some (.cells vs.toArray T (0, 0))
/-- Block b holds just these numbers. -/
def IBlk (w : World) (b : Nat) (xs : List Int) : Prop := Blk w b (xs.map (Value.int .i64)) 3

theorem Blk.lt {w : World} {b : Nat} {vs : List Value} {T : TypeId} (h : Blk w b vs T) : b < w.heap.size := lt_of_block h
theorem Blk.cell {w : World} {b : Nat} {vs : List Value} {T : TypeId} (h : Blk w b vs T) (i : Nat) (hi : i < vs.length) : w.cell? ⟨b, i, none⟩ = some vs[i] := by
  unfold Blk at h; simp [World.cell?, h, hi]
theorem Blk.free {w : World} {b : Nat} {vs : List Value} {T : TypeId} (h : Blk w b vs T) (i : Nat) : w.frozen? ⟨b, i, none⟩ = false := by
  unfold Blk at h; simp [World.frozen?, h]
theorem Blk.set {w : World} {b : Nat} {vs : List Value} {T : TypeId} (h : Blk w b vs T) (i : Nat) (v : Value) : Blk (w.setCell ⟨b, i, none⟩ v) b (vs.set i v) T := by
  have hlt := h.lt
  unfold Blk at *
  have h' : w.heap[b] = .cells vs.toArray T (0, 0) := by simpa [Array.getElem?_eq_getElem hlt] using h
  show (w.heap.modify b _)[b]? = _
  rw [Array.getElem?_eq_getElem (by simpa using hlt), Array.getElem_modify_self, h']
  simp
theorem Blk.other {w : World} {b : Nat} {vs : List Value} {T : TypeId} (h : Blk w b vs T) (a : Addr) (v : Value) (hb : b ≠ a.block) : Blk (w.setCell a v) b vs T := by
  unfold Blk at *; rw [Below.heap_setCell _ _ _ _ hb]; exact h
theorem Blk.below {w w' : World} {b B : Nat} {vs : List Value} {T : TypeId} (h : Blk w b vs T) (hb : Below B w w') (hB : b < B) : Blk w' b vs T := by
  unfold Blk at *; rw [hb.block b hB]; exact h
theorem Blk.ext {w w' : World} {b : Nat} {vs : List Value} {T : TypeId} (h : Blk w b vs T) (hb : Below w.heap.size w w') : Blk w' b vs T := h.below hb h.lt
theorem Blk.alloc {w : World} {b : Nat} {vs : List Value} {T : TypeId} (h : Blk w b vs T) (o : Obj) : Blk (w.alloc o) b vs T := h.ext ((Below.refl _ _).alloc (Nat.le_refl _) _)
theorem Blk.new (w : World) (vs : List Value) (T : TypeId) : Blk (w.alloc (.cells vs.toArray T (0, 0))) w.heap.size vs T := by
  exact heap_alloc_new _ _
theorem Blk.new' (w : World) (vs : List Value) (T : TypeId) (b : Nat) (h : w.heap.size = b) : Blk (w.alloc (.cells vs.toArray T (0, 0))) b vs T := by subst h; exact Blk.new _ _ _
theorem Blk.drewN {w : World} {b : Nat} {vs : List Value} {T : TypeId} (h : Blk w b vs T) (n : Nat) : Blk (w.drewN n) b vs T := h

theorem IBlk.cell {w : World} {b : Nat} {xs : List Int} (h : IBlk w b xs) (i : Nat) (hi : i < xs.length) : w.cell? ⟨b, i, none⟩ = some (.int .i64 (nth xs i)) := by
  rw [Blk.cell h i (by simpa using hi)]; simp [nth_lt hi]
theorem IBlk.set {w : World} {b : Nat} {xs : List Int} (h : IBlk w b xs) (i : Nat) (v : Int) : IBlk (w.setCell ⟨b, i, none⟩ (.int .i64 v)) b (xs.set i v) := by
  have := Blk.set h i (.int .i64 v); unfold IBlk; rw [List.map_set]; exact this
theorem IBlk.ints {w : World} {b : Nat} {xs : List Int} (h : IBlk w b xs) : Ints w (some ⟨b, 0, none⟩) xs := fun i hi => ⟨b, 0, rfl, by rw [Nat.zero_add]; exact h.cell i hi⟩

/-- n zeros. -/
def zeros (n : Nat) : List Int := List.replicate n 0
theorem zeros_len (n : Nat) : (zeros n).length = n := List.length_replicate
theorem nth_zeros (n i : Nat) : nth (zeros n) i = 0 := by unfold nth zeros; simp [List.getElem?_replicate]; split <;> rfl
theorem infoInt : (Try.prog.info? 3).map (fun i => (i.zero, i.size, i.bytes)) = some (some (.int .i64 0), 1, 8) := by kernel_rfl
theorem madeZeros (n : Nat) : madeCells (Value.int .i64 0).cells n = ((zeros n).map (Value.int .i64)).toArray := by
  unfold madeCells zeros
  apply Array.ext
  · simp
  · intro j h1 h2; simp [Value.cells, Nat.mod_one]
theorem run_makeInts (w : World) (n : Nat) (h : n ≤ 35184372088832) :
    (Instr.makeSlice 23 (.int .i64 n) (.int .i64 n)).run Try.prog w = .ok (.slice (some ⟨w.heap.size, 0, none⟩) n n) (w.alloc (.cells ((zeros n).map (Value.int .i64)).toArray 3 (0, 0))) := by
  obtain ⟨i, hi, hz, hs, hb⟩ := info_parts infoInt
  rw [run_make w 23 3 i (.int .i64 0) Try.underlying23 hi hz .i64 .i64 n n (by omega) (by omega) (by rw [hb]; omega) (by omega)]
  simp only [Int.toNat_natCast, hs, Nat.mul_one]
  rw [madeZeros]
theorem IBlk.made (w : World) (n : Nat) : IBlk (w.alloc (.cells ((zeros n).map (Value.int .i64)).toArray 3 (0, 0))) w.heap.size (zeros n) := Blk.new _ _ _
theorem IBlk.single (w : World) (v : Int) (b : Nat) (h : w.heap.size = b) : IBlk (w.alloc (.cells #[.int .i64 v] 3 (0, 0))) b [v] := by subst h; exact Blk.new _ [.int .i64 v] _
theorem IBlk.made' (w : World) (n b : Nat) (h : w.heap.size = b) : IBlk (w.alloc (.cells ((zeros n).map (Value.int .i64)).toArray 3 (0, 0))) b (zeros n) := by subst h; exact Blk.new _ _ _
theorem IBlk.drew {w : World} {b : Nat} {xs : List Int} (h : IBlk w b xs) : IBlk w.drew b xs := h
theorem IBlk.alloc {w : World} {b : Nat} {xs : List Int} (h : IBlk w b xs) (o : Obj) : IBlk (w.alloc o) b xs := Blk.alloc h o

/-- w' is w with new memory, but for block b. -/
structure But (b : Nat) (w w' : World) : Prop where
  os : w'.os = w.os
  tape : w'.tape = w.tape
  output : w'.output = w.output
  size : w.heap.size ≤ w'.heap.size
  block : ∀ k, k < w.heap.size → k ≠ b → w'.heap[k]? = w.heap[k]?
theorem But.refl (b : Nat) (w : World) : But b w w := ⟨rfl, rfl, rfl, Nat.le_refl _, fun _ _ _ => rfl⟩
theorem But.ext {b : Nat} {w w' w'' : World} (h : But b w w') (k : Below w'.heap.size w' w'') : But b w w'' :=
  ⟨k.os.trans h.os, k.tape.trans h.tape, k.output.trans h.output, Nat.le_trans h.size k.size, fun i hi hb => (k.block i (Nat.lt_of_lt_of_le hi h.size)).trans (h.block i hi hb)⟩
theorem But.trans {b : Nat} {w w' w'' : World} (h : But b w w') (k : But b w' w'') : But b w w'' :=
  ⟨k.os.trans h.os, k.tape.trans h.tape, k.output.trans h.output, Nat.le_trans h.size k.size, fun i hi hb => (k.block i (Nat.lt_of_lt_of_le hi h.size) hb).trans (h.block i hi hb)⟩
theorem But.alloc {b : Nat} {w w' : World} (h : But b w w') (o : Obj) : But b w (w'.alloc o) := h.ext ((Below.refl _ _).alloc (Nat.le_refl _) _)
theorem But.set {b : Nat} {w w' : World} (h : But b w w') (i : Nat) (v : Value) : But b w (w'.setCell ⟨b, i, none⟩ v) :=
  ⟨h.os, h.tape, h.output, by simpa using h.size, fun k hk hb => by rw [Below.heap_setCell _ _ _ _ hb]; exact h.block k hk hb⟩
/-- A store into a block that was not there. -/
theorem But.setNew {b : Nat} {w w' : World} (h : But b w w') {a : Addr} (ha : w.heap.size ≤ a.block) (v : Value) : But b w (w'.setCell a v) :=
  ⟨h.os, h.tape, h.output, by simpa using h.size, fun k hk hb => by rw [Below.heap_setCell _ _ _ _ (by omega)]; exact h.block k hk hb⟩
theorem But.below {b B : Nat} {w w' : World} (h : But b w w') (hB : B ≤ b) (hs : B ≤ w.heap.size) : Below B w w' :=
  ⟨h.os, h.tape, h.output, h.size, fun k hk => h.block k (by omega) (by omega)⟩
theorem But.grown {w w0 w' : World} (h : But w.heap.size w0 w') (hs : w.heap.size ≤ w0.heap.size) (hb : Below w.heap.size w w0) : Below w.heap.size w w' := hb.trans (h.below (Nat.le_refl _) hs)
theorem Blk.but {w w' : World} {b b' : Nat} {vs : List Value} {T : TypeId} (h : Blk w b vs T) (hb : But b' w w') (hne : b ≠ b') : Blk w' b vs T := by
  have := h.lt
  unfold Blk at *; rw [hb.block b this hne]; exact h
end Go.Proofs.Ytbdlfjhhgnhejaa
