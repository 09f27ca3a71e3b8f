/- linear.Minimum, Dual, Farkas, Ray. -/
import Derived.Test.YtkljafmdbajfeaaGreatDoorNoA16
import Derived.Test.YtkljafmdbajfeaaGreatDoorNoA26
import Derived.Test.YtkljafmdbajfeaaGreatDoorNoA45
namespace Go.Proofs.YtkljafmdbajfeaaGreatDoor
open Go.RowKit Go.ChangeMaps
set_option linter.unusedVariables false
set_option linter.unusedSimpArgs false
structure TabOk (g : Nat) (o : Nat → Int) (w : World) : Prop where
  c0 : w.cell? ⟨g, 0, none⟩ = some (.int .i64 (o 0))
  c1 : w.cell? ⟨g, 1, none⟩ = some (.int .i64 (o 1))
  c2 : w.cell? ⟨g, 2, none⟩ = some (.int .i64 (o 2))
theorem TabOk.ext {g : Nat} {o : Nat → Int} {w w' : World} (h : TabOk g o w) (hb : Below w.heap.size w w') : TabOk g o w' := by
  have hc : ∀ k x, w.cell? ⟨g, k, none⟩ = some x → w'.cell? ⟨g, k, none⟩ = some x := fun k x e => (hb.cell (p := ⟨g, k, none⟩) (cell_lt e)).trans e
  exact ⟨hc _ _ h.c0, hc _ _ h.c1, hc _ _ h.c2⟩
def costsO (s : Nat) : Int := if s = 0 then 0 else if s = 1 then 10 else 11
theorem enter_at {f : FuncId} {fn : Func} {c : Code} (hf : Tryz.prog.funcs[f]? = some fn) (hname : (fn.name == "runtime.NumGoroutine") = false) (hb : fn.body = some c) (args : Array Value) (w : World) : (callFunc f args).run Tryz.prog w = .ok (.enter f args) w := by
  have h1 : fn.name ≠ "runtime.NumGoroutine" := by simpa using hname
  simp [callFunc, hf, h1, hb]
set_option maxRecDepth 100000 in
set_option maxHeartbeats 1000000 in
theorem minimum_take (W : World) (s : Value) (A1 : Option Addr) (n1 c1 : Nat) (A2 : Option Addr) (n2 c2 : Nat) : Calls Tryz.prog 64 #[.agg #[s, .slice A1 n1 c1, .slice A2 n2 c2]] W fun e w' => e = .returned (if true then .slice A1 n1 c1 else .slice A2 n2 c2) ∧ Below W.heap.size W w' := by
  have hb := Blk.new W [s, .slice A1 n1 c1, .slice A2 n2 c2] 84
  have q1 := hb.cell 1 (by simp)
  simp only [List.getElem_cons_zero, List.getElem_cons_succ] at q1
  have hA : Below W.heap.size W (W.alloc (.cells #[s, .slice A1 n1 c1, .slice A2 n2 c2] 84 (0, 0))) := (Below.refl _ _).alloc (Nat.le_refl _) _
  have HA := Lib.hid hA
  clear hb hA
  go_enter Tryz.func64, Tryz.ntmps64
  go_wp2
  go_ret
  exact ⟨rfl, HA.out⟩
set_option maxRecDepth 100000 in
set_option maxHeartbeats 2000000 in
theorem minimum_calls (A B C : Option Addr) (ca cb cc : Nat) (a : List (List Int)) (b c : List Int) (w : World) (h : Prog3 w A B C a b c) (hc : TabOk 0 costsO w) :
    Calls Tryz.prog 16 #[.agg #[.slice A a.length ca, .slice B b.length cb, .slice C c.length cc]] w fun e w' => OfPost a b c 0 costsO true w w' e ∧ Below w.heap.size w w' := by
  have hb0 : Below w.heap.size w (w.alloc (.cells #[.slice A a.length ca, .slice B b.length cb, .slice C c.length cc] 25 (0, 0))) := (Below.refl _ _).alloc (Nat.le_refl _) _
  have hb1 : Below w.heap.size w ((w.alloc (.cells #[.slice A a.length ca, .slice B b.length cb, .slice C c.length cc] 25 (0, 0))).alloc (.cells #[.slice none 0 0, .int .i64 0] 29 (0, 0))) := hb0.alloc (by simp) _
  have bk := Blk.new (w.alloc (.cells #[.slice A a.length ca, .slice B b.length cb, .slice C c.length cc] 25 (0, 0))) [.slice none 0 0, .int .i64 0] 29
  have hsz : (w.alloc (.cells #[.slice A a.length ca, .slice B b.length cb, .slice C c.length cc] 25 (0, 0))).heap.size = w.heap.size + 1 := by simp
  rw [hsz] at bk
  clear hsz
  obtain ⟨g0, g1, g2⟩ := hc.ext hb1
  have HOF := Lib.hid (of_any A B C ca cb cc a b c 0 costsO true 64 _ (h.ext hb1) (by omega) (by intro h; first | decide | cases h) (by intro h; first | decide | cases h) (enter_at Tryz.func64 (by kernel_rfl) rfl) minimum_take)
  have HB1 := Lib.hid hb1; have HBK := Lib.hid bk
  clear hb0 hb1 bk h hc
  go_enter Tryz.func16, Tryz.ntmps16
  go_wp2_with fail
  refine HOF.out.mono ?_; rintro e w2 ⟨hpost, hb2⟩
  have bl2 := HBK.out.ext hb2
  obtain ⟨rp, hrp⟩ : ∃ rp, w.heap.size + 1 = rp := ⟨_, rfl⟩
  rw [hrp] at bl2 ⊢
  have hB2 := HB1.out.trans (hb2.mono HB1.out.size)
  have hrl := HBK.out.lt
  have hsz := hb2.size
  have c0 := bl2.cell 0 (by simp)
  have c1 := bl2.cell 1 (by simp)
  have f0 := bl2.free 0
  have f1 := bl2.free 1
  simp only [List.getElem_cons_zero, List.getElem_cons_succ] at c0 c1
  obtain ⟨PA, PN, PC, d, k, rfl, hfin⟩ : ∃ (PA : Option Addr) (PN PC : Nat) (d k : Int), e = .returned (.tuple #[.agg #[.slice PA PN PC, .int .i64 d], .int .i64 k]) ∧ OfPost a b c 0 costsO true w ((w2.setCell ⟨rp, 0, none⟩ (.slice PA PN PC)).setCell ⟨rp, 1, none⟩ (.int .i64 d)) e := by
    rcases hpost with ⟨h1, h2⟩ | ⟨h1, s, x, y, h3, h4, h5⟩
    · exact ⟨none, 0, 0, 0, 2, h2, .inl ⟨h1, h2⟩⟩
    · rcases h5 with ⟨h5, h6⟩ | ⟨h5, g, xs, d, h6, h7, h8, h9⟩
      · exact ⟨none, 0, 0, 0, _, h6, .inr ⟨h1, s, x, y, h3, h4, .inl ⟨h5, h6⟩⟩⟩
      · refine ⟨_, _, _, d, 0, h6, .inr ⟨h1, s, x, y, h3, h4, .inr ⟨h5, g, xs, d, h6, Nat.le_trans HB1.out.size h7, h8.but (((But.refl rp w2).set 0 _).set 1 _) (by omega), h9⟩⟩⟩
  have bl3 := (bl2.set 0 (.slice PA PN PC)).set 1 (.int .i64 d)
  have q0 := bl3.cell 0 (by simp)
  have q1 := bl3.cell 1 (by simp)
  simp only [List.getElem_cons_zero, List.getElem_cons_succ, List.set_cons_zero, List.set_cons_succ] at q0 q1
  have HBF := Lib.hid ((hB2.setCell (p := ⟨rp, 0, none⟩) (by show _ ≤ rp; omega) (.slice PA PN PC)).setCell (p := ⟨rp, 1, none⟩) (by show _ ≤ rp; omega) (.int .i64 d))
  have HFN := Lib.hid hfin
  clear hpost hb2 bl2 bl3 hB2 hfin HOF HBK hrl hsz hrp
  go_wp2
  (try simp only [Exit.inBlock, Exit.then])
  refine bodyPost_ret (v := .tuple #[.agg #[.slice PA PN PC, .int .i64 d], .int .i64 k]) (by simp [results, Tryz.results16, go_sem, q0, q1]) rfl ⟨HFN.out, HBF.out⟩
end Go.Proofs.YtkljafmdbajfeaaGreatDoor

/- The statements' own small functions in layer 1: same. -/
namespace Go.Proofs.YtkljafmdbajfeaaGreatDoor
open Go.RowKit
set_option linter.unusedVariables false
set_option linter.unusedSimpArgs false
def sameB (xs ys : List Int) : Bool := decide (xs = ys)
theorem sameB_len {xs ys : List Int} (h : xs.length ≠ ys.length) : sameB xs ys = false := by
  unfold sameB; exact decide_eq_false fun e => h (by rw [e])
theorem sameB_at {xs ys : List Int} {i : Nat} (h : nth xs i ≠ nth ys i) : sameB xs ys = false := by
  unfold sameB; exact decide_eq_false fun e => h (by rw [e])
theorem sameB_all {xs ys : List Int} (hl : xs.length = ys.length) (h : ∀ i, i < xs.length → nth xs i = nth ys i) : sameB xs ys = true := by
  unfold sameB
  refine decide_eq_true (List.ext_getElem hl fun i h1 h2 => ?_)
  have := h i h1
  rw [nth_lt h1, nth_lt h2] at this; exact this
set_option maxHeartbeats 1000000 in
theorem same_calls (A B : Option Addr) (ca cb : Nat) (xs ys : List Int) (w : World) (hx : xs.length ≤ maxLen) (hy : ys.length ≤ maxLen) (hA : Ints w A xs) (hB : Ints w B ys) :
    Calls Tryz.prog 36 #[.slice A xs.length ca, .slice B ys.length cb] w fun e w' => e = .returned (.bool (sameB xs ys)) ∧ ∃ k, w' = w.drewN k := by
  unfold maxLen at hx hy
  by_cases hl : xs.length = ys.length
  · have d1 : ((xs.length : Int) != (ys.length : Int)) = false := by simp [hl]
    have HL := Lib.hid hl; clear hl
    go_enter Tryz.func36, Tryz.ntmps36
    go_wp2
    go_loopw [5] (fun i wr => ∃ k n : Nat, k ≤ xs.length ∧ i = .int .i64 k ∧ (∀ j, j < k → nth xs j = nth ys j) ∧ wr = w.drewN n) (fun i _ => xs.length - (intOf i).toNat)
    case atStart => exact ⟨0, 0, Nat.zero_le _, rfl, fun j hj => by omega, rfl⟩
    case round =>
      obtain ⟨k, n, hk, rfl, hs, rfl⟩ := hrel
      have HS := Lib.hid hs; clear hs
      by_cases hlt : k < xs.length
      · obtain ⟨b1, o1, rfl, g1⟩ := hA k hlt
        obtain ⟨b2, o2, rfl, g2⟩ := hB k (by rw [← HL.out]; exact hlt)
        have h0 : (0 : Int) ≤ k := by omega
        have h1 : (k : Int) < xs.length := by omega
        have h2 : (k : Int) < ys.length := by have := HL.out; omega
        by_cases hq : nth xs k = nth ys k
        · have q1 : (nth xs k != nth ys k) = false := by simp [hq]
          have HQ := Lib.hid hq; clear hq
          go_wp2_with fail
          go_quiet (fail)
          go_wp2
          go_roundw
          case rel => exact ⟨k + 1, _, by omega, by go_num, fun j hj => by rcases Nat.lt_or_ge j k with e | e; exact HS.out j e; (obtain rfl : j = k := by omega); exact HQ.out, by first | rfl | exact drewN_add _ _ _⟩
          case measure => simp [intOf]; omega
        · have q1 : (nth xs k != nth ys k) = true := by simp [hq]
          have HQ := Lib.hid hq; clear hq
          go_wp2_with fail
          go_quiet (fail)
          go_wp2
          go_ret
          exact ⟨by rw [sameB_at HQ.out]; rfl, _, by first | rfl | exact drewN_add _ _ _⟩
      · obtain rfl : k = xs.length := by omega
        go_wp2
        go_ret
        exact ⟨by rw [sameB_all HL.out HS.out]; rfl, n, rfl⟩
  · have d1 : ((xs.length : Int) != (ys.length : Int)) = true := by simp; omega
    have HL := Lib.hid hl; clear hl
    go_enter Tryz.func36, Tryz.ntmps36
    go_wp2
    go_ret
    exact ⟨by rw [sameB_len HL.out]; rfl, 0, rfl⟩
end Go.Proofs.YtkljafmdbajfeaaGreatDoor

/- tinplatelaw01.lists and normal: what they answer. -/
namespace Go.Proofs.YtkljafmdbajfeaaGreatDoor
open Go.RowKit
set_option linter.unusedVariables false
set_option linter.unusedSimpArgs false
def lastP (p : Nat → Nat) : Nat → Int
  | 0 => -1
  | i + 1 => p i
set_option maxRecDepth 100000 in
set_option maxHeartbeats 4000000 in
theorem normal_calls (A : Option Addr) (ca n : Nat) (l : List (List Int)) (p : Nat → Nat) (w : World) (hA : Grid w A l) (hn : n ≤ 6) (hl : l.length ≤ 6) (hr : ∀ i, i < l.length → (nrow l i).length = n) (hp : ∀ i, i < l.length → p i < n)
    (h0 : ∀ i, i < l.length → ∀ c, c < p i → nth (nrow l i) c = 0) (h1 : ∀ i, i < l.length → 1 ≤ nth (nrow l i) (p i)) (h2 : ∀ i j, i < j → j < l.length → 0 ≤ nth (nrow l i) (p j) ∧ nth (nrow l i) (p j) < nth (nrow l j) (p j)) (h3 : ∀ i, i < l.length → lastP p i < p i) :
    Calls Tryz.prog 39 #[.slice A l.length ca] w fun e w' => e = .returned (.bool true) ∧ ∃ k, w' = w.drewN k := by
  have HR := Lib.hid hr; have HP := Lib.hid hp; have H0 := Lib.hid h0; have H1 := Lib.hid h1; have H2 := Lib.hid h2; have H3 := Lib.hid h3; have HA := Lib.hid hA
  clear hr hp h0 h1 h2 h3 hA
  go_enter Tryz.func39, Tryz.ntmps39
  go_wp2
  go_loopw [3, 4] (fun tl ti wr => ∃ (i m : Nat), i ≤ l.length ∧ ti = .int .i64 i ∧ tl = .int .i64 (lastP p i) ∧ wr = w.drewN m) (fun _ ti _ => l.length - (intOf ti).toNat)
  case atStart => exact ⟨0, 0, Nat.zero_le _, rfl, rfl, rfl⟩
  case round =>
    obtain ⟨i, m, hi, rfl, rfl, rfl⟩ := hrel
    by_cases hlt : i < l.length
    · have hi1 : (i : Int) < l.length := by omega
      obtain ⟨b1, o1, R, cR, rfl, c1, -, c2⟩ := HA.out i hlt
      have hrl := HR.out i hlt
      have hpi := HP.out i hlt
      have hla := H3.out i hlt
      have HC2 := Lib.hid c2
      have HI := Lib.hid hlt
      rw [hrl] at c1
      have HRL := Lib.hid hrl
      obtain ⟨q, hq⟩ : ∃ q, p i = q := ⟨_, rfl⟩
      obtain ⟨la, hlq⟩ : ∃ la, lastP p i = la := ⟨_, rfl⟩
      rw [hq] at hpi hla
      rw [hlq] at hla
      rw [hlq]
      have HQ := Lib.hid hq
      clear hrl c2 hq hlq
      go_wp2
      go_loopw [5] (fun tc wr => ∃ (c m' : Nat), c ≤ q ∧ tc = .int .i64 c ∧ wr = w.drewN m') (fun tc _ => q - (intOf tc).toNat)
      case atStart => exact ⟨0, m, Nat.zero_le _, rfl, rfl⟩
      case round =>
        obtain ⟨c, m', hc, rfl, rfl⟩ := hrel
        have hcn : c < n := by omega
        have hc1 : (c : Int) < n := by omega
        obtain ⟨b2, o2, hR2, c3⟩ := HC2.out c (by rw [HRL.out]; exact hcn)
        subst hR2
        by_cases hcq : c < q
        · have hz := H0.out i HI.out c (by rw [HQ.out]; exact hcq)
          rw [hz] at c3
          have HZ := Lib.hid hz
          clear hz
          go_wp2
          go_roundw
          case rel => exact ⟨c + 1, m', by omega, by go_num, rfl⟩
          case measure => simp [intOf]; omega
        · obtain rfl : c = q := by omega
          have hge := H1.out i HI.out
          rw [HQ.out] at hge
          obtain ⟨x, hx⟩ : ∃ x, nth (nrow l i) c = x := ⟨_, rfl⟩
          rw [hx] at c3 hge
          have HX := Lib.hid hx
          have x0 : (x == 0) = false := by simp; omega
          have x1 : decide (x < 1) = false := decide_eq_false (by omega)
          have x2 : decide ((c : Int) ≤ la) = false := decide_eq_false (by omega)
          have x3 : decide (n ≤ c) = false := decide_eq_false (by omega)
          clear hx hge
          go_wp2
          go_loopw [6] (fun tk wr => ∃ (k m'' : Nat), k ≤ i ∧ tk = .int .i64 k ∧ wr = w.drewN m'') (fun tk _ => i - (intOf tk).toNat)
          case atStart => exact ⟨0, m', Nat.zero_le _, rfl, rfl⟩
          case round =>
            obtain ⟨k, m'', hk, rfl, rfl⟩ := hrel
            by_cases hki : k < i
            · have hk1 : (k : Int) < i := by omega
              have hk2 : (k : Int) < l.length := by omega
              obtain ⟨b3, o3, R3, cR3, hAA, d1, -, d2⟩ := HA.out k (by omega)
              injection hAA with hAA
              injection hAA with e1 e2
              subst e1 e2
              have hrk := HR.out k (by omega)
              obtain ⟨b4, o4, hR4, d3⟩ := d2 c (by rw [hrk]; exact hcn)
              subst hR4
              rw [hrk] at d1
              have hb := H2.out k i hki HI.out
              rw [HQ.out, HX.out] at hb
              obtain ⟨y, hy⟩ : ∃ y, nth (nrow l k) c = y := ⟨_, rfl⟩
              rw [hy] at d3 hb
              have y0 : decide (y < 0) = false := decide_eq_false (by omega)
              have y1 : decide (x ≤ y) = false := decide_eq_false (by omega)
              clear hrk hb hy d2
              go_wp2
              go_quiet (fail)
              go_wp2
              go_roundw
              case rel => exact ⟨k + 1, _, by omega, by go_num, by first | rfl | exact drewN_add _ _ _⟩
              case measure => simp [intOf]; omega
            · obtain rfl : k = i := by omega
              go_wp2
              go_roundw
              case rel => exact ⟨k + 1, m'', by omega, by go_num, by show _ = Value.int .i64 (p k : Int); rw [HQ.out], rfl⟩
              case measure => simp [intOf]; omega
    · obtain rfl : i = l.length := by omega
      go_wp2
      go_ret
      exact ⟨rfl, m, rfl⟩
theorem rows_ext {a b : List (List Int)} (hl : a.length = b.length) (h : ∀ i, i < a.length → nrow a i = nrow b i) : a = b := by
  refine List.ext_getElem hl fun i h1 h2 => ?_
  have := h i h1
  unfold nrow at this
  simpa [h1, h2] using this
set_option maxRecDepth 100000 in
set_option maxHeartbeats 4000000 in
theorem lists_calls (A B : Option Addr) (ca cb : Nat) (a b : List (List Int)) (w : World) (hA : Grid w A a) (hB : Grid w B b) (ha : a.length ≤ 1000) (hb : b.length ≤ 1000) (hra : ∀ r ∈ a, r.length ≤ maxLen) (hrb : ∀ r ∈ b, r.length ≤ maxLen) :
    Calls Tryz.prog 33 #[.slice A a.length ca, .slice B b.length cb] w fun e w' => e = .returned (.bool (decide (a = b))) ∧ Below w.heap.size w w' := by
  by_cases hl : a.length = b.length
  · have d1 : ((a.length : Int) != (b.length : Int)) = false := by simp [hl]
    have HL := Lib.hid hl; have HA := Lib.hid hA; have HB := Lib.hid hB; have HRA := Lib.hid hra; have HRB := Lib.hid hrb
    clear hl hA hB hra hrb
    go_enter Tryz.func33, Tryz.ntmps33
    go_wp2
    go_loopw [5] (fun ti wr => ∃ (i : Nat), i ≤ a.length ∧ ti = .int .i64 i ∧ Hid (∀ j, j < i → nrow a j = nrow b j) ∧ Hid (Below w.heap.size w wr)) (fun ti _ => a.length - (intOf ti).toNat)
    case atStart => exact ⟨0, Nat.zero_le _, rfl, Lib.hid (fun j hj => by omega), Lib.hid (Below.refl _ _)⟩
    case round =>
      obtain ⟨i, hi, rfl, hall, hbe⟩ := hrel
      by_cases hlt : i < a.length
      · have hi1 : (i : Int) < a.length := by omega
        have hi2 : (i : Int) < b.length := by rw [← HL.out]; exact hi1
        obtain ⟨b1, o1, R, cR, rfl, c1, -, c2⟩ := (HA.out.ext hbe.out) i hlt
        obtain ⟨b2, o2, S, cS, rfl, d1, -, d2⟩ := (HB.out.ext hbe.out) i (by rw [← HL.out]; exact hlt)
        have hr1 := HRA.out _ (nrow_mem hlt)
        have hr2 := HRB.out _ (nrow_mem (l := b) (i := i) (by rw [← HL.out]; exact hlt))
        have HSM := Lib.hid (fun W (hW : Below wr.heap.size wr W) => same_calls R S cR cS (nrow a i) (nrow b i) W hr1 hr2 (c2.ext hW) (d2.ext hW))
        have HLT := Lib.hid hlt
        clear c2 d2 hr1 hr2
        obtain ⟨e, he⟩ : ∃ e, sameB (nrow a i) (nrow b i) = e := ⟨_, rfl⟩
        rw [he] at HSM
        have HEE := Lib.hid he
        clear he
        go_wp2_with fail
        refine wp_region_keys (w0 := wr) 10 [17, 18, 19, 20, 21, 22, 23, 24, 25, 26]
          [leafS 17 (.slice (some ⟨b1, o1, none⟩) a.length ca), leafS 18 (.int .i64 i), leafS 19 (.pointer (some ⟨b1, o1 + i, none⟩)), leafS 20 (.slice R (nrow a i).length cR), leafS 21 (.slice (some ⟨b2, o2, none⟩) b.length cb), leafS 22 (.int .i64 i), leafS 23 (.pointer (some ⟨b2, o2 + i, none⟩)), leafS 24 (.slice S (nrow b i).length cS), leafS 25 (.bool e), leafS 26 (.bool (!e))]
          [] [none, none, none, none, none, none, none, none, none, none] NoBlk (by kernel_rfl) (by kernel_rfl) (by kernel_rfl) rfl (F := ?cFl6) ?l6c1 ?l6c2 ?l6c3 ?l6c4
        case l6c1 =>
          intro x
          simp only [fullF, Act.put, List.setIfInBounds_toArray, List.set_cons_zero, List.set_cons_succ]
          rfl
        case l6c2 =>
          exact ⟨keeps_const _ _ _ _ _ _ _, keeps_const _ _ _ _ _ _ _, keeps_const _ _ _ _ _ _ _, keeps_const _ _ _ _ _ _ _, keeps_const _ _ _ _ _ _ _, keeps_const _ _ _ _ _ _ _, keeps_const _ _ _ _ _ _ _, keeps_const _ _ _ _ _ _ _, keeps_const _ _ _ _ _ _ _, keeps_const _ _ _ _ _ _ _, trivial⟩
        case l6c3 =>
          refine ⟨?_, ?_, ?_, ?_, ?_, ?_, ?_, ?_, ?_, ?_, trivial⟩
          all_goals
            intro xx wq HE hd K hK
            have hc := (bcell HE).1
            have c1' := (hc _ _ (cell_lt c1)).trans c1
            have d1' := (hc _ _ (cell_lt d1)).trans d1
            try have e0 : xx 17 = _ := hd 0 _ (by decide) rfl
            try have e1 : xx 18 = _ := hd 1 _ (by decide) rfl
            try have e2 : xx 19 = _ := hd 2 _ (by decide) rfl
            try have e3 : xx 20 = _ := hd 3 _ (by decide) rfl
            try have e4 : xx 21 = _ := hd 4 _ (by decide) rfl
            try have e5 : xx 22 = _ := hd 5 _ (by decide) rfl
            try have e6 : xx 23 = _ := hd 6 _ (by decide) rfl
            try have e7 : xx 24 = _ := hd 7 _ (by decide) rfl
            try have e8 : xx 25 = _ := hd 8 _ (by decide) rfl
            try have e9 : xx 26 = _ := hd 9 _ (by decide) rfl
            have HE := Lib.hid HE
            have HC := Lib.hid hc
            clear hd hc
            all_goals go_simp
            try (refine hK _ _ _ (mv_const _ rfl) ?_; dsimp only [Act.put]; first | done | rfl | (simp [*]; done))
          · refine (HSM.out wq HE.out).mono ?_
            rintro e w3 ⟨rfl, k3, hk3⟩
            exact hK _ _ _ (mv_plain (by rw [hk3]; exact drewN_below _ _) rfl rfl) (by first | (dsimp only [Act.put]; done) | (dsimp only [Act.put]; first | rfl | (simp [*]; done) | (simp [*, ptr]; done)))
        case l6c4 =>
          intro xx wz hE hG hA
          have e0 : xx 17 = _ := hG 0 _ rfl
          have e1 : xx 18 = _ := hG 1 _ rfl
          have e2 : xx 19 = _ := hG 2 _ rfl
          have e3 : xx 20 = _ := hG 3 _ rfl
          have e4 : xx 21 = _ := hG 4 _ rfl
          have e5 : xx 22 = _ := hG 5 _ rfl
          have e6 : xx 23 = _ := hG 6 _ rfl
          have e7 : xx 24 = _ := hG 7 _ rfl
          have e8 : xx 25 = _ := hG 8 _ rfl
          have e9 : xx 26 = _ := hG 9 _ rfl
          have HBz := Lib.hid (hbe.out.trans (hE.mono hbe.out.size))
          clear hG hA hE
          refine wpAny_done (by kernel_rfl) ?_ _
          rw [e9]
          cases e with
          | true =>
            have HN : Hid (∀ j, j < i + 1 → nrow a j = nrow b j) := Lib.hid (fun j hj => by
              by_cases e : j = i
              · subst e; exact of_decide_eq_true HEE.out
              · exact hall.out j (by omega))
            clear hall
            go_wp2
            go_roundw
            case rel => exact ⟨i + 1, by have := HLT.out; omega, by go_num, HN, HBz⟩
            case measure => have := HLT.out; simp [intOf]; omega
          | false =>
            have HN : Hid (decide (a = b) = false) := Lib.hid (decide_eq_false fun e => by
              have h := HEE.out
              unfold sameB at h
              have := of_decide_eq_false h
              exact this (by rw [e]))
            clear hall
            go_wp2
            go_ret
            exact ⟨by rw [HN.out]; rfl, HBz.out⟩
      · obtain rfl : i = a.length := by omega
        have HD : Hid (decide (a = b) = true) := Lib.hid (decide_eq_true (rows_ext HL.out hall.out))
        clear hall
        go_wp2
        go_ret
        exact ⟨by rw [HD.out]; rfl, hbe.out⟩
  · have d1 : ((a.length : Int) != (b.length : Int)) = true := by simp; omega
    have hd : decide (a = b) = false := decide_eq_false fun e => hl (by rw [e])
    have HD := Lib.hid hd
    clear hl hd
    go_enter Tryz.func33, Tryz.ntmps33
    go_wp2
    go_ret
    exact ⟨by rw [HD.out]; rfl, Below.refl _ _⟩
end Go.Proofs.YtkljafmdbajfeaaGreatDoor
