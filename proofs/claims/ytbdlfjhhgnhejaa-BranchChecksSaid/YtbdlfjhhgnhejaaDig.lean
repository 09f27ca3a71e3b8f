/- Numbers as digits to the base 2^32, the lowest first. Plain mathematics. -/
import Derived.Test.YtbdlfjhhgnhejaaBase
namespace Go.Proofs.Ytbdlfjhhgnhejaa

/-- What digits are worth. -/
def val : List Nat → Nat
  | [] => 0
  | d :: ds => d + 4294967296 * val ds
/-- The digits of a number, none behind the last that is not 0. -/
def digits (n : Nat) : List Nat := if h : n = 0 then [] else n % 4294967296 :: digits (n / 4294967296)
termination_by n
decreasing_by exact Nat.div_lt_self (by omega) (by omega)
/-- Each is a digit. -/
def Dig (ds : List Nat) : Prop := ∀ d ∈ ds, d < 4294967296
/-- Without the zeros at the end. -/
def trimL : List Nat → List Nat
  | [] => []
  | d :: ds => if d = 0 ∧ trimL ds = [] then [] else d :: trimL ds
/-- The i-th digit. -/
def nthd (ds : List Nat) (i : Nat) : Nat := ds.getD i 0

theorem digits_zero : digits 0 = [] := by unfold digits; simp
theorem digits_pos {n : Nat} (h : n ≠ 0) : digits n = n % 4294967296 :: digits (n / 4294967296) := by rw [digits, dif_neg h]
theorem digits_nil {n : Nat} (h : digits n = []) : n = 0 := by
  by_cases h0 : n = 0
  · exact h0
  · rw [digits_pos h0] at h; simp at h
theorem val_digits : ∀ n, val (digits n) = n := by
  intro n
  induction n using Nat.strongRecOn with
  | _ n ih =>
    by_cases h : n = 0
    · subst h; rw [digits_zero]; rfl
    · rw [digits_pos h, val, ih _ (Nat.div_lt_self (by omega) (by omega))]; omega
theorem digits_dig : ∀ n, Dig (digits n) := by
  intro n
  induction n using Nat.strongRecOn with
  | _ n ih =>
    by_cases h : n = 0
    · subst h; rw [digits_zero]; intro d hd; simp at hd
    · rw [digits_pos h]; intro d hd
      rcases List.mem_cons.1 hd with rfl | hd
      · exact Nat.mod_lt _ (by omega)
      · exact ih _ (Nat.div_lt_self (by omega) (by omega)) d hd
theorem trimL_digits : ∀ {ds : List Nat}, Dig ds → trimL ds = digits (val ds)
  | [], _ => by rw [val, digits_zero]; rfl
  | d :: ds, h => by
    have hd := h d (by simp)
    have ih := trimL_digits (ds := ds) fun x hx => h x (List.mem_cons_of_mem _ hx)
    rw [trimL, val, ih]
    by_cases h0 : d + 4294967296 * val ds = 0
    · rw [h0, digits_zero, if_pos ⟨by omega, by rw [show val ds = 0 by omega, digits_zero]⟩]
    · rw [digits_pos h0, if_neg (fun ⟨e1, e2⟩ => h0 (by have := digits_nil e2; omega))]
      congr 1
      · omega
      · congr 1; omega
theorem Dig.nth {ds : List Nat} (h : Dig ds) (i : Nat) : nthd ds i < 4294967296 := by
  unfold nthd
  by_cases hi : i < ds.length
  · rw [List.getD_eq_getElem?_getD, List.getElem?_eq_getElem hi]; exact h _ (List.getElem_mem hi)
  · rw [List.getD_eq_getElem?_getD, List.getElem?_eq_none (by omega)]; simp
theorem nthd_lt {ds : List Nat} {i : Nat} (h : i < ds.length) : nthd ds i = ds[i] := by unfold nthd; simp [h]
theorem val_append : ∀ (a b : List Nat), val (a ++ b) = val a + 4294967296 ^ a.length * val b
  | [], b => by simp [val]
  | d :: a, b => by
    simp only [List.cons_append, val, List.length_cons, val_append a b, Nat.pow_succ, Nat.mul_add]
    rw [Nat.mul_comm (4294967296 ^ a.length) 4294967296, Nat.mul_assoc, Nat.add_assoc]
theorem val_lt : ∀ {ds : List Nat}, Dig ds → val ds < 4294967296 ^ ds.length
  | [], _ => by simp [val]
  | d :: ds, h => by
    have hd := h d (by simp)
    have ih := val_lt (ds := ds) fun x hx => h x (List.mem_cons_of_mem _ hx)
    rw [val, List.length_cons, Nat.pow_succ]; omega
theorem Dig.take {ds : List Nat} (h : Dig ds) (k : Nat) : Dig (ds.take k) := fun d hd => h d (List.mem_of_mem_take hd)
theorem Dig.drop {ds : List Nat} (h : Dig ds) (k : Nat) : Dig (ds.drop k) := fun d hd => h d (List.mem_of_mem_drop hd)
theorem take_nthd {ds : List Nat} {i : Nat} (h : i < ds.length) : ds.take (i + 1) = ds.take i ++ [nthd ds i] := by
  rw [List.take_succ_eq_append_getElem h, nthd_lt h]
theorem drop_nthd {ds : List Nat} {i : Nat} (h : i < ds.length) : ds.drop i = nthd ds i :: ds.drop (i + 1) := by
  rw [List.drop_eq_getElem_cons h, nthd_lt h]
theorem digits_ge : ∀ {n : Nat}, n ≠ 0 → 4294967296 ^ ((digits n).length - 1) ≤ n := by
  intro n
  induction n using Nat.strongRecOn with
  | _ n ih =>
    intro h0
    rw [digits_pos h0, List.length_cons, Nat.add_sub_cancel]
    by_cases h1 : n / 4294967296 = 0
    · rw [h1, digits_zero]; simp; omega
    · have h2 := ih (n / 4294967296) (Nat.div_lt_self (by omega) (by omega)) h1
      have hl : 0 < (digits (n / 4294967296)).length := by rw [digits_pos h1]; simp
      have e : 4294967296 ^ (digits (n / 4294967296)).length = 4294967296 * 4294967296 ^ ((digits (n / 4294967296)).length - 1) := by
        rw [← Nat.pow_succ', Nat.succ_eq_add_one, Nat.sub_add_cancel hl]
      rw [e]
      have := Nat.mul_le_mul_left 4294967296 h2
      omega
/-- A number with more digits is greater. -/
theorem digits_len_lt {n m : Nat} (h : (digits n).length < (digits m).length) : n < m := by
  have h1 := val_lt (digits_dig n)
  rw [val_digits] at h1
  have h2 := digits_ge (n := m) (fun e => by rw [e, digits_zero] at h; simp at h)
  have h3 : 4294967296 ^ (digits n).length ≤ 4294967296 ^ ((digits m).length - 1) := Nat.pow_le_pow_right (by omega) (by omega)
  omega
/-- Of two lists of the same length, alike from i + 1 on, the i-th digit decides. -/
theorem val_lt_of {a b : List Nat} (ha : Dig a) (hl : a.length = b.length) {i : Nat} (hi : i < a.length) (hd : a.drop (i + 1) = b.drop (i + 1)) (h : nthd a i < nthd b i) : val a < val b := by
  have ea : val a = val (a.take i) + 4294967296 ^ i * val (a.drop i) := by
    have := val_append (a.take i) (a.drop i); rw [List.take_append_drop] at this; rw [this, List.length_take, Nat.min_eq_left (by omega)]
  have eb : val b = val (b.take i) + 4294967296 ^ i * val (b.drop i) := by
    have := val_append (b.take i) (b.drop i); rw [List.take_append_drop] at this; rw [this, List.length_take, Nat.min_eq_left (by omega)]
  have hb := val_lt (ha.take i)
  rw [List.length_take, Nat.min_eq_left (by omega)] at hb
  rw [ea, eb, drop_nthd hi, drop_nthd (by omega : i < b.length), val, val, hd]
  have : 4294967296 ^ i * (nthd a i + 4294967296 * val (b.drop (i + 1))) + 4294967296 ^ i ≤ 4294967296 ^ i * (nthd b i + 4294967296 * val (b.drop (i + 1))) := by
    rw [← Nat.mul_succ]; exact Nat.mul_le_mul_left _ (by omega)
  omega
end Go.Proofs.Ytbdlfjhhgnhejaa
