/- Plain laws of counts: monotone in the cost, in the box and in the rows. -/
import Derived.Test.YtbdlfjhhgnhejaaPlain
namespace Go.Proofs.Ytbdlfjhhgnhejaa

theorem cntL_mono {c : List Int} {m n : Int} {L : List (List Int)} (h : m ≤ n) : cntL c m L ≤ cntL c n L := by
  unfold cntL
  have e : (L.filter fun x => decide (dotZ c x ≤ m)) = (L.filter fun x => decide (dotZ c x ≤ n)).filter fun x => decide (dotZ c x ≤ m) := by
    rw [List.filter_filter]
    congr 1; funext x
    by_cases h1 : dotZ c x ≤ m
    · simp [h1, show dotZ c x ≤ n by omega]
    · simp [h1]
  rw [e]
  exact (List.filter_sublist).length_le
theorem cntL_sub {c : List Int} {m : Int} {L L' : List (List Int)} (h : L.Sublist L') : cntL c m L ≤ cntL c m L' := (h.filter _).length_le
theorem cntL_none {c : List Int} {m : Int} {L : List (List Int)} (h : bestL c L = none) : cntL c m L = 0 := by
  rw [bestL_none] at h; subst h; rfl
/-- There are some exactly from the least cost on. -/
theorem cntL_pos {c x : List Int} {m : Int} {L : List (List Int)} (hs : L.Pairwise LexLt) (h : bestL c L = some x) : (0 < cntL c m L) ↔ dotZ c x ≤ m := by
  obtain ⟨h1, h2⟩ := bestL_least hs h
  unfold cntL
  rw [List.length_pos_iff_exists_mem]
  constructor
  · rintro ⟨y, hy⟩
    obtain ⟨h3, h4⟩ := List.mem_filter.1 hy
    have := (h2 y h3).1
    have := of_decide_eq_true h4
    omega
  · intro hm
    exact ⟨x, List.mem_filter.2 ⟨h1, decide_eq_true hm⟩⟩

theorem flatMap_sub {α β : Type} {f g : α → List β} (h : ∀ v, (f v).Sublist (g v)) : ∀ l : List α, (l.flatMap f).Sublist (l.flatMap g)
  | [] => by simp
  | v :: l => by rw [List.flatMap_cons, List.flatMap_cons]; exact (h v).append (flatMap_sub h l)
theorem irange_sub {m n : Nat} (h : m ≤ n) : (irange m).Sublist (irange n) := by
  induction n with
  | zero => obtain rfl : m = 0 := by omega
            exact List.Sublist.refl _
  | succ n ih =>
    rcases Nat.lt_or_ge m (n + 1) with h1 | h1
    · rw [irange_succ]; exact (ih (by omega)).trans (List.sublist_append_left _ _)
    · obtain rfl : m = n + 1 := by omega
      exact List.Sublist.refl _
theorem flatMap_subl {α β : Type} (f : α → List β) {l l' : List α} (h : l.Sublist l') : (l.flatMap f).Sublist (l'.flatMap f) := by
  induction h with
  | slnil => exact List.Sublist.refl _
  | cons a _ ih => rw [List.flatMap_cons]; exact ih.trans (List.sublist_append_right _ _)
  | cons_cons a _ ih => rw [List.flatMap_cons, List.flatMap_cons]; exact (List.Sublist.refl _).append ih
/-- The wider box. -/
def wider (u : List Int) : List Int := u.map fun x => min (x + 1) 7
theorem wider_len (u : List Int) : (wider u).length = u.length := by unfold wider; simp
theorem box_wider : ∀ {u : List Int}, upOk u = true → (box u).Sublist (box (wider u))
  | [], _ => List.Sublist.refl _
  | m :: us, h => by
    unfold upOk at h
    rw [List.all_cons, Bool.and_eq_true] at h
    have hm : 0 ≤ m ∧ m ≤ 7 := by simpa using h.1
    have ih := box_wider (u := us) h.2
    show ((irange (m.toNat + 1)).flatMap _).Sublist ((irange ((min (m + 1) 7).toNat + 1)).flatMap _)
    exact (flatMap_subl _ (irange_sub (by omega))).trans (flatMap_sub (fun v => ih.map _) _)
theorem upOk_wider {u : List Int} (h : upOk u = true) : upOk (wider u) = true := by
  unfold upOk wider at *
  rw [List.all_map, List.all_eq_true] at *
  intro x hx
  have := h x hx
  simp at this ⊢
  omega
theorem feasB_tail {a : List (List Int)} {b x : List Int} (h : feasB a b x = true) : feasB a.tail b.tail x = true := by
  refine feasB_true fun i hi => ?_
  rw [List.length_tail] at hi
  unfold feasB at h
  rw [List.all_eq_true] at h
  have := h (i + 1) (by rw [List.mem_range]; omega)
  have h2 := of_decide_eq_true this
  have e1 : nth b.tail i = nth b (i + 1) := by cases b <;> simp [nth]
  have e2 : nrow a.tail i = nrow a (i + 1) := by cases a <;> simp [nrow]
  rw [e1, e2]; exact h2
theorem feasL_wider {a : List (List Int)} {b u : List Int} (h : upOk u = true) : (feasL a b u).Sublist (feasL a.tail b.tail (wider u)) := by
  unfold feasL
  have e : (box u).filter (feasB a b) = ((box u).filter (feasB a.tail b.tail)).filter (feasB a b) := by
    rw [List.filter_filter]
    congr 1; funext x
    cases hx : feasB a b x
    · simp
    · rw [feasB_tail hx]; rfl
  rw [e]
  exact List.filter_sublist.trans ((box_wider h).filter _)
theorem feasL_wider0 {a : List (List Int)} {b u : List Int} (h : upOk u = true) : (feasL a b u).Sublist (feasL a b (wider u)) := (box_wider h).filter _
theorem wholeOk_wider {a : List (List Int)} {b c u : List Int} (h : wholeOk a b c u = true) : wholeOk a b c (wider u) = true := by
  unfold wholeOk at *
  simp only [Bool.and_eq_true] at *
  exact ⟨⟨⟨h.1.1.1, by rw [wider_len]; exact h.1.1.2⟩, upOk_wider h.1.2⟩, h.2⟩
theorem progOk_tail {a : List (List Int)} {b c : List Int} (h : progOk a b c = true) : progOk a.tail b.tail c = true := by
  unfold progOk rowsOk listOk at *
  simp only [Bool.and_eq_true, decide_eq_true_eq, List.all_eq_true, List.length_tail] at *
  obtain ⟨⟨⟨⟨⟨⟨h1, h2⟩, h3⟩, h4⟩, h5⟩, h6⟩, h7⟩ := h
  exact ⟨⟨⟨⟨⟨⟨h1, h2⟩, by omega⟩, fun r hr => h4 r (List.mem_of_mem_tail hr)⟩, by omega⟩, fun x hx => h6 x (List.mem_of_mem_tail hx)⟩, h7⟩
theorem wholeOk_tail {a : List (List Int)} {b c u : List Int} (h : wholeOk a b c u = true) : wholeOk a.tail b.tail c u = true := by
  unfold wholeOk at *
  simp only [Bool.and_eq_true] at *
  exact ⟨h.1, progOk_tail h.2⟩
end Go.Proofs.Ytbdlfjhhgnhejaa
