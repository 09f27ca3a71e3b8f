/- The vectors of a box in lexicographic order; which are feasible; what they cost. Plain mathematics. -/
import Derived.Test.YtbdlfjhhgnhejaaDot
namespace Go.Proofs.Ytbdlfjhhgnhejaa

/-- 0, 1, .., n - 1. -/
def irange (n : Nat) : List Int := (List.range n).map Int.ofNat
/-- All vectors of a box, in lexicographic order. -/
def box : List Int → List (List Int)
  | [] => [[]]
  | m :: us => (irange (m.toNat + 1)).flatMap fun v => (box us).map (v :: ·)
/-- Does a vector satisfy all rows? -/
def feasB (a : List (List Int)) (b x : List Int) : Bool := (List.range a.length).all fun i => decide (nth b i ≤ dotZ (nrow a i) x)
/-- The completions of a prefix within the rest of the box whose next number is below v, that are feasible. -/
def doneV (a : List (List Int)) (b us p : List Int) (v : Nat) : List (List Int) := ((irange v).flatMap fun t => (box us).map fun r => p ++ t :: r).filter (feasB a b)
/-- The feasible completions of a prefix. -/
def compl (a : List (List Int)) (b us p : List Int) : List (List Int) := ((box us).map fun r => p ++ r).filter (feasB a b)

theorem irange_succ (n : Nat) : irange (n + 1) = irange n ++ [(n : Int)] := by unfold irange; rw [List.range_succ]; simp
theorem doneV_zero (a : List (List Int)) (b us p : List Int) : doneV a b us p 0 = [] := rfl
theorem doneV_succ (a : List (List Int)) (b us p : List Int) (v : Nat) : doneV a b us p (v + 1) = doneV a b us p v ++ compl a b us (p ++ [(v : Int)]) := by
  unfold doneV compl; rw [irange_succ]; simp [List.flatMap_append, List.filter_append]
theorem doneV_all (a : List (List Int)) (b us p : List Int) (m : Int) : doneV a b us p (m.toNat + 1) = compl a b (m :: us) p := by
  have e : box (m :: us) = (irange (m.toNat + 1)).flatMap fun v => (box us).map (v :: ·) := rfl
  unfold doneV compl; rw [e, List.map_flatMap]; congr 2; funext t; simp [List.map_map, Function.comp_def]
theorem compl_nil (a : List (List Int)) (b p : List Int) : compl a b [] p = if feasB a b p then [p] else [] := by
  unfold compl box; simp [List.filter_cons]
theorem compl_root (a : List (List Int)) (b us : List Int) : compl a b us [] = (box us).filter (feasB a b) := by unfold compl; simp

/-- A vector's numbers lie in the first j ends of the box. -/
def InBox (u x : List Int) (j : Nat) : Prop := ∀ i, i < j → 0 ≤ nth x i ∧ nth x i ≤ nth u i
theorem nth_take {xs ys : List Int} {j i : Nat} (h : xs.take j = ys.take j) (hi : i < j) (hx : i < xs.length) (hy : i < ys.length) : nth xs i = nth ys i := by
  rw [nth_lt hx, nth_lt hy]
  have := congrArg (fun l => l[i]?) h
  simpa [List.getElem?_take, hi, hx, hy] using this
theorem nth_set_eq {xs : List Int} {j : Nat} (h : j < xs.length) (v : Int) : nth (xs.set j v) j = v := by rw [nth_lt (by simpa using h)]; simp
theorem take_set {xs : List Int} {j : Nat} (v : Int) : (xs.set j v).take j = xs.take j := by
  rw [List.take_set_of_le]; omega
end Go.Proofs.Ytbdlfjhhgnhejaa
