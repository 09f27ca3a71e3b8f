/- linear.solved: a program's end. -/
import Derived.Test.YtkljafmdbajfeaaGreatDoorNoB36
namespace Go.Proofs.YtkljafmdbajfeaaGreatDoor
set_option linter.unusedVariables false
set_option linter.unusedSimpArgs false
open Go.Lib (hid)
section
open Go.RowKit Go.ChangeMaps
open Lp (IsI Tab)
def Dull (w:World) (p:Nat):Prop:=∀ o x,w.cell? ⟨p,o,none⟩=some x→(∀ a,x≠.pointer a)∧(∀ b,x≠.bool b)∧∀ n,x≠.int .u32 n
theorem Blk.dull {w:World} {b:Nat} {vs:List Value} {T:TypeId} (h:Blk w b vs T) (hv:∀ x∈vs,(∀ a,x≠.pointer a)∧(∀ b,x≠.bool b)∧∀ n,x≠.int .u32 n):Dull w b:=fun o x e=>hv x (cell_in h e)
theorem RatP.keep {w w':World} {p q:Nat} {x:Rat} (h:RatP w q x) (hp:Dull w p) (hb:But p w w'):RatP w' q x:=by
 refine h.butW (fun o n e=>(hp o _ e).2.2 n rfl) hb ?_
 rintro rfl
 obtain ⟨c,A',k',c2,h0,-⟩:=h.blk.int.c
 exact (hp 0 _ h0).2.1 c rfl
theorem RatsX.keep {w w':World} {v:Value} {n p:Nat} {q:Nat→Rat} (h:RatsX w v n q) (hp:Dull w p) (hb:But p w w'):RatsX w' v n q:=by
 obtain ⟨A,c,h1,h2,h3,h4⟩:=h
 refine ⟨A,c,h1,h2,h3,fun i hi=>?_⟩
 obtain ⟨a,o,g,e,hc,hz⟩:=h4 i hi
 refine ⟨a,o,g,e,?_,hz.keep hp hb⟩
 have hne:a≠p:=by rintro rfl;exact (hp _ _ hc).1 _ rfl
 exact (World.cell?_of_block (a:=⟨a,o+i,none⟩) (hb.block a (cell_lt hc) hne)).trans hc
theorem RatsX.chgQ {w w':World} {u v:Value} {n:Nat} {q:Nat→Rat} (h:RatsX w v n q) (hc:Chg (fun k=>u.ownBlock=some k) w w') (hq:OwnC isSl w u):RatsX w' v n q:=by
 obtain ⟨A,c,h1,h2,h3,h4⟩:=h
 refine ⟨A,c,h1,h2,h3,fun i hi=>?_⟩
 obtain ⟨a,o,g,e,hcc,hz⟩:=h4 i hi
 have ho:∀ k x,w.cell? ⟨a,k,none⟩=some x→¬ isSl x→u.ownBlock≠some a:=fun k x e1 e2 e3=>e2 (hq a e3 _ _ e1)
 have hn:u.ownBlock≠some a:=ho _ _ hcc (fun ⟨A,n,c,e⟩=>by cases e)
 refine ⟨a,o,g,e,(World.cell?_of_block (a:=⟨a,o+i,none⟩) (hc.block a (cell_lt hcc) hn)).trans hcc,hz.chg hc fun e3=>?_⟩
 obtain ⟨b,A',k',c2,h0,-⟩:=hz.blk.int.c
 exact absurd (hq g e3 _ _ h0) (fun ⟨A,n,c,e⟩=>by cases e)
structure RRow (w:World) (base:Nat) (v:Value) (i n:Nat) (q:Tab):Prop where
 ex:∃ vs:List Value,vs.length=i∧w.ownsRow base 82 1 v i vs∧OwnC isSl w v∧∀ j,∀ hj:j<vs.length,RatsX w vs[j] n (q j)
theorem RRow.ext {w w':World} {base i n:Nat} {v:Value} {q:Tab} (h:RRow w base v i n q) (hb:Below w.heap.size w w'):RRow w' base v i n q:=by
 obtain ⟨vs,h1,h2,h4,h3⟩:=h.ex
 exact ⟨vs,h1,own_ext h2 hb,h4.ext h2 hb,fun j hj=>(h3 j hj).ext hb⟩
theorem RRow.rows {w:World} {base i n:Nat} {v:Value} {q:Tab} (h:RRow w base v i n q):RowsX w v i n q:=by
 obtain ⟨vs,h1,h2,-,h3⟩:=h.ex
 obtain ⟨-,h4⟩:=id h2
 rcases h4 with ⟨rfl,h0⟩|⟨g,cap,cur,rfl,hg,hh,h5,h6,_⟩
 ·subst h0;exact ⟨none,0,rfl,fun i hi=>by omega⟩
 ·refine ⟨_,cap,rfl,fun j hj=>⟨g,0,vs[j]'(by omega),rfl,?_,h3 j (by omega)⟩⟩
  rw [Nat.zero_add,h2.cellAt j (by omega)]
  simp [h1,hj]
def qA (a:List (List Int)) (i j:Nat):Rat:=(nth (nrow a i) j:Rat)
def qB (b:List Int) (i:Nat):Rat:=(nth b i:Rat)
theorem listOk_at {k:Int} {xs:List Int} (h:listOk k xs=true) {i:Nat} (hi:i<xs.length) : -k≤nth xs i∧nth xs i≤k:=by
 unfold listOk at h
 have:=List.all_eq_true.1 h _ (nth_mem hi)
 unfold inB at this;simpa using this
theorem progOk.parts {a:List (List Int)} {b c:List Int} (h:progOk a b c=true):1≤c.length∧c.length≤6∧a.length≤6∧b.length=a.length∧(∀ r∈a,r.length=c.length∧listOk 30 r=true)∧listOk 1000 b=true∧listOk 1000 c=true:=by
 unfold progOk rowsOk at h
 simp only [Bool.and_eq_true,decide_eq_true_eq,List.all_eq_true] at h
 obtain ⟨⟨⟨⟨⟨⟨h1,h2⟩,h3⟩,h4⟩,h5⟩,h6⟩,h7⟩:=h
 refine ⟨h1,h2,h3,h5,fun r hr=>?_,h6,h7⟩
 have:=h4 r hr
 unfold rowOk at this;simpa using this
theorem lpSmall {a:List (List Int)} {b c:List Int} (h:progOk a b c=true):Lp.SmallT (qA a) (qB b) c.length a.length:=by
 obtain ⟨h1,h2,h3,h4,h5,h6,h7⟩:=progOk.parts h
 refine ⟨h3,fun i j hi hj=>⟨_,rfl,?_⟩,fun i hi=>⟨_,rfl,?_⟩⟩
 ·obtain ⟨k1,k2⟩:=h5 _ (nrow_mem hi)
  have:=listOk_at k2 (i:=j) (by omega)
  omega
 ·have:=listOk_at h6 (i:=i) (by omega)
  omega
set_option maxRecDepth 100000 in
set_option maxHeartbeats 4000000 in
theorem solvedL_calls (A B C:Option Addr) (ca cb cc:Nat) (a:List (List Int)) (b c:List Int) (w:World) (h:Prog3 w A B C a b c) (hok:progOk a b c=true) :
 Calls Tryz.prog 125 #[.agg #[.slice A a.length ca,.slice B b.length cb,.slice C c.length cc]] w fun e w'=>MinRes (qA a) (qB b) (qB c) c.length a.length w' e∧Below w.heap.size w w':=by
 obtain ⟨h1,h2,h3,h4,h5,h6,h7⟩:=progOk.parts hok
 have HSM:=hid (lpSmall hok)
 have H5:Hid (∀ r∈a,r.length=c.length∧∀ x∈r,-9223372036854775808≤x∧x≤9223372036854775807):=hid (fun r hr=>⟨(h5 r hr).1,fun x hx=>by
  have:=List.all_eq_true.1 (h5 r hr).2 x hx
  unfold inB at this;simp at this;omega⟩)
 have H6:Hid (∀ x∈b,-9223372036854775808≤x∧x≤9223372036854775807):=hid (fun x hx=>by
  have:=List.all_eq_true.1 h6 x hx
  unfold inB at this;simp at this;omega)
 have H7:Hid (∀ x∈c,-9223372036854775808≤x∧x≤9223372036854775807):=hid (fun x hx=>by
  have:=List.all_eq_true.1 h7 x hx
  unfold inB at this;simp at this;omega)
 have HC1:Hid (∀ j,j<c.length→IsI (qB c j) 1000):=hid (fun j hj=>⟨_,rfl,by have:=listOk_at h7 hj;omega⟩)
 obtain ⟨i0,hi0,hz0,hz1,hz2⟩:=info_parts infoRowQ
 have hb0:Below w.heap.size w (w.alloc (.cells #[.slice A a.length ca,.slice B b.length cb,.slice C c.length cc] 25 (0,0))):=(Below.refl _ _).alloc (Nat.le_refl _) _
 have hb1:Below w.heap.size w ((w.alloc (.cells #[.slice A a.length ca,.slice B b.length cb,.slice C c.length cc] 25 (0,0))).alloc (.cells #[.int .i64 0,.slice none 0 0,.slice none 0 0] 84 (0,0))):=hb0.alloc (by simp) _
 have hk1:=(Blk.new w [.slice A a.length ca,.slice B b.length cb,.slice C c.length cc] 25).alloc (.cells #[.int .i64 0,.slice none 0 0,.slice none 0 0] 84 (0,0))
 have hk2:=Blk.new (w.alloc (.cells #[.slice A a.length ca,.slice B b.length cb,.slice C c.length cc] 25 (0,0))) [.int .i64 0,.slice none 0 0,.slice none 0 0] 84
 have HP:=hid h
 have H4:=hid h4
 have hbl6:b.length≤6:=by omega
 clear h hok h4 h5 h6 h7 hb0
 have hsz:(w.alloc (.cells #[.slice A a.length ca,.slice B b.length cb,.slice C c.length cc] 25 (0,0))).heap.size=w.heap.size+1:=by simp
 rw [hsz] at hk2
 clear hsz
 have c0:=hk1.cell 0 (by simp)
 simp only [List.getElem_cons_zero] at c0
 go_enter Tryz.func125,Tryz.ntmps125
 go_wp2_with fail
 obtain ⟨rp,hrp⟩:∃ rp,w.heap.size+1=rp:=⟨_,rfl⟩
 obtain ⟨pp,hpp⟩:∃ pp,w.heap.size=pp:=⟨_,rfl⟩
 obtain ⟨w1,hw1⟩:∃ w1,((w.alloc (.cells #[.slice A a.length ca,.slice B b.length cb,.slice C c.length cc] 25 (0,0))).alloc (.cells #[.int .i64 0,.slice none 0 0,.slice none 0 0] 84 (0,0)))=w1:=⟨_,rfl⟩
 rw [hw1] at hb1 hk1 hk2 ⊢
 rw [hrp] at hk2 ⊢
 rw [hpp] at hk1 hrp ⊢
 have HK1:=hid hk1;have HK2:=hid hk2;have HB1:=hid hb1;have HRP:=hid hrp;have HPP:=hid hpp
 clear hk1 hk2 hb1 hrp hpp hw1 c0
 go_loopw [3,9] (fun tv ti wr=>∃ (i:Nat),i≤a.length∧ti=.int .i64 i∧Hid (RRow wr w1.heap.size tv i c.length (qA a))∧Hid (Below w1.heap.size w1 wr)) (fun _ ti _=>a.length-(intOf ti).toNat)
 case atStart=>exact ⟨0,Nat.zero_le _,rfl,hid ⟨[],rfl,World.ownsRow_nil _ _ _ _,OwnC.nil _ _ _ _,fun j hj=>by simp at hj⟩,hid (Below.refl _ _)⟩
 case round =>
  obtain ⟨i,hi,rfl,hP,hbe⟩:=hrel
  by_cases hlt:i<a.length
  ·have hn1:(i:Int)<a.length:=by omega
   have hbw:=HB1.out.trans (hbe.out.mono HB1.out.size)
   obtain ⟨bb,o,R,cR,rfl,hc,hcR,hints⟩:=HP.out.ga i hlt
   have hc':=((bcell hbw).1 _ _ (cell_lt hc)).trans hc
   obtain ⟨hlen,hbd⟩:=H5.out _ (nrow_mem hlt)
   have hof:=rats_calls R cR (nrow a i) wr (hints.ext hbw) (by omega) hbd
   rw [hlen] at hof
   have hc2:wr.cell? ⟨bb,o+i,none⟩=some (.slice R c.length cR):=by rw [←hlen];exact hc'
   have HOF:=hid hof
   obtain ⟨vs0,-,hq2,-⟩:=hP.out.ex
   obtain ⟨A3,c3,rfl,hc3,hc4⟩:=own_size hq2
   clear hof hq2 hints hc hc' hcR hbw hlen hbd
   go_wp2_with fail
   refine HOF.out.mono ?_;rintro e w2 ⟨x,rfl,hx,hb2⟩
   obtain ⟨Ax,cx,rfl,-⟩:=id hx
   have hA:Below w2.heap.size w2 (w2.alloc (.cells #[.slice Ax c.length cx] 82 (0,0))):=(Below.refl _ _).alloc (Nat.le_refl _) _
   have hB:=Blk.new w2 [.slice Ax c.length cx] 82
   have hP2:=(hP.out.ext hb2).ext hA
   obtain ⟨vs,hps1,hps2,hps4,hps3⟩:=hP2.ex
   have HO1:=hid hps2;have HC1':=hid hps4;have HBL:=hid hB;have HA:=hid hA;have H3:=hid hps3;have HX:=hid (hx.ext hA);have HB2:=hid hb2
   have hsz:=hbe.out.size
   have hsz2:=hb2.size
   clear hP2 hps2 hps3 hps4 hB hA hx hb2 HOF
   go_wp2_with (at_builtin;refine wpList_append_all isSl rfl _ _ 214 rfl w1.heap.size 82 i0 (.slice none 0 0) 24 Tryz.underlying214 hi0 hz0 hz1 hz2 rfl ⟨_,_,_,rfl⟩ _ _ _ rfl HO1.out HC1'.out ⟨w2.heap.size,0,none⟩ 1 1 [.slice Ax c.length cx] rfl ?qc1 ?qc2 ?qc3 ?qc7 ?qc8 ?qc4 ?qc5 ?qc6 ?_)
   case qc1=>rfl
   case qc2 =>
    intro j u hj
    cases j with
    | zero=>simp at hj;subst hj;exact HBL.out.cell 0 (by simp)
    | succ j=>simp at hj
   case qc3=>intro u hu;simp at hu;subst hu;rfl
   case qc7=>intro u hu;simp at hu;subst hu;exact ⟨_,_,_,rfl⟩
   case qc8=>omega
   case qc4=>unfold maxLen;omega
   case qc5=>omega
   case qc6=>exact Nat.le_trans (by omega:w1.heap.size≤w2.heap.size) HA.out.size
   intro v' w3 hown' hgrow hoc
   have hb23:Below w1.heap.size w2 w3:=((HA.out.mono (by omega)).grown hgrow (Nat.le_trans (by omega:w1.heap.size≤w2.heap.size) HA.out.size) (own_block HO1.out))
   have hch:=Chg.ofGrown hgrow HC1'.out (fun n ⟨A,k,c,e⟩=>by cases e)
   have hP3:RRow w3 w1.heap.size v' (i+1) c.length (qA a):=by
    refine ⟨vs ++ [.slice Ax c.length cx],by simp [hps1],hown',hoc,fun j hj=>?_⟩
    rw [List.getElem_append]
    split
    ·rename_i h1;exact (H3.out j h1).chgQ hch HC1'.out
    ·rename_i h1
     have:j=i:=by simp at hj;omega
     subst this
     simp only [hps1,Nat.sub_self,List.getElem_cons_zero]
     exact HX.out.chgQ hch HC1'.out
   have HP3:=hid hP3;have HB3:=hid ((hbe.out.trans (HB2.out.mono hsz)).trans hb23)
   clear hown' hgrow hoc hP3 hb23 HO1 hch
   go_wp2
   go_roundw
   case rel=>exact ⟨i+1,by omega,by go_num,HP3,HB3⟩
   case measure=>simp [intOf];omega
  ·obtain rfl:i=a.length:=by omega
   obtain ⟨vs0,-,hq2,-⟩:=hP.out.ex
   obtain ⟨A3,c3,rfl,hc3,hc4⟩:=own_size hq2
   have HROW:=hid hP.out.rows
   have bl1:=HK1.out.ext hbe.out
   have k1:=bl1.cell 1 (by simp)
   have k2:=bl1.cell 2 (by simp)
   simp only [List.getElem_cons_zero,List.getElem_cons_succ] at k1 k2
   have HB4:=hid (HB1.out.trans (hbe.out.mono HB1.out.size))
   have HK4:=hid (HK2.out.ext hbe.out)
   clear hq2 hP bl1 hbe
   go_wp2_with fail
   refine wp_region_keys (w0:=wr) 7 [19,20,21,22,23,24,25]
    [leafS 19 (.slice A3 a.length c3),leafS 20 (.pointer (some ⟨pp,1,none⟩)),leafS 21 (.slice B b.length cb),leaf1 22 (fun v w=>RatsX w v b.length (fun i=>(nth b i:Rat))),leafS 23 (.pointer (some ⟨pp,2,none⟩)),leafS 24 (.slice C c.length cc),leaf1 25 (fun v w=>RatsX w v c.length (fun i=>(nth c i:Rat)))]
    [] [none,none,none,none,none,none,none] (fun _ _=>False) (by kernel_rfl) (by kernel_rfl) (by kernel_rfl) rfl (F:=?cFr7) ?r7c1 ?r7c2 ?r7c3 ?r7c4
   case r7c1 =>
    intro x
    simp only [fullF,Act.put,List.setIfInBounds_toArray,List.set_cons_zero,List.set_cons_succ]
    rfl
   case r7c2 =>
    exact ⟨keeps_const _ _ _ _ _ _ _,keeps_const _ _ _ _ _ _ _,keeps_const _ _ _ _ _ _ _,keeps_calm (⟨fun v w w' h hb=>h.ext hb,fun v w w' p h hp=>hp.elim⟩) _ _ _ _ _,keeps_const _ _ _ _ _ _ _,keeps_const _ _ _ _ _ _ _,keeps_calm (⟨fun v w w' h hb=>h.ext hb,fun v w w' p h hp=>hp.elim⟩) _ _ _ _ _,trivial⟩
   case r7c3 =>
    refine ⟨?_,?_,?_,?_,?_,?_,?_,trivial⟩
    all_goals
     intro xx wq HE hd K hK
     have hc:=(bcell HE).1
     have k1':=(hc _ _ (cell_lt k1)).trans k1
     have k2':=(hc _ _ (cell_lt k2)).trans k2
     try have e0:xx 19=_:=hd 0 _ (by decide) rfl
     try have e1:xx 20=_:=hd 1 _ (by decide) rfl
     try have e2:xx 21=_:=hd 2 _ (by decide) rfl
     try have g3:=hd 3 _ (by decide) rfl
     try have e4:xx 23=_:=hd 4 _ (by decide) rfl
     try have e5:xx 24=_:=hd 5 _ (by decide) rfl
     try have g6:=hd 6 _ (by decide) rfl
     have HE:=hid HE
     have HC:=hid hc
     clear hd hc
     all_goals go_simp
     try (refine hK _ _ _ (mv_const _ rfl) ?_;dsimp only [Act.put];first|done|rfl|(simp [*];done))
    ·refine (rats_calls B cb b wq (HP.out.gb.ext (HB4.out.trans (HE.out.mono HB4.out.size))) (by omega) H6.out).mono ?_
     rintro e w2 ⟨v2,rfl,hv2,hb2⟩
     exact hK _ _ _ (mv_plain hb2 hv2 rfl) (by first|(dsimp only [Act.put];done)|(dsimp only [Act.put];first|rfl|(simp [*];done)|(simp [*,ptr];done)))
    ·refine (rats_calls C cc c wq (HP.out.gc.ext (HB4.out.trans (HE.out.mono HB4.out.size))) (by omega) H7.out).mono ?_
     rintro e w2 ⟨v2,rfl,hv2,hb2⟩
     exact hK _ _ _ (mv_plain hb2 hv2 rfl) (by first|(dsimp only [Act.put];done)|(dsimp only [Act.put];first|rfl|(simp [*];done)|(simp [*,ptr];done)))
   case r7c4 =>
    intro xx wz hE hG hA
    have e0:xx 19=_:=hG 0 _ rfl
    have e1:xx 20=_:=hG 1 _ rfl
    have e2:xx 21=_:=hG 2 _ rfl
    have g3:=hG 3 _ rfl
    have e4:xx 23=_:=hG 4 _ rfl
    have e5:xx 24=_:=hG 5 _ rfl
    have g6:=hG 6 _ rfl
    have hrb:RatsX wz _ b.length (fun i=>(nth b i:Rat)):=g3
    have hrc:RatsX wz _ c.length (fun i=>(nth c i:Rat)):=g6
    have HE:=hid hE;have HRB:=hid hrb;have HRC:=hid hrc
    clear hG hA hE g3 g6 hrb hrc
    obtain ⟨vB,hvB⟩:∃ v,xx 22=v:=⟨_,rfl⟩
    obtain ⟨vC,hvC⟩:∃ v,xx 25=v:=⟨_,rfl⟩
    rw [hvB] at HRB;rw [hvC] at HRC
    have HMN:=hid (exMin_calls (.slice A3 a.length c3) vB vC c.length a.length (qA a) (qB b) (qB c) wz (HROW.out.ext HE.out) (by rw [←H4.out];exact HRB.out) HRC.out (by omega) (by omega) HSM.out HC1.out)
    refine tail_one (i:=7) (by kernel_rfl) rfl ?_
    intro K hK
    go_simp
    refine HMN.out.mono ?_;rintro e w5 ⟨hres,hb5⟩
    have HB5:=hid (HB4.out.trans ((HE.out.trans (hb5.mono HE.out.size)).mono HB4.out.size))
    have hbl:=HK4.out.ext (HE.out.trans (hb5.mono HE.out.size))
    have HBL:=hid hbl
    have hdl:=hbl.dull (fun x hx=>by
     simp only [List.mem_cons,List.not_mem_nil,or_false] at hx
     rcases hx with rfl|rfl|rfl<;>exact ⟨fun _ e=>(by cases e),fun _ e=>(by cases e),fun _ e=>(by cases e)⟩)
    have HDL:=hid hdl
    have hrw:w.heap.size≤rp:=by have:=HRP.out;have:=HPP.out;omega
    have HRW:=hid hrw
    have hfin:∀ st x y,Below w.heap.size w (((w5.setCell ⟨rp,0,none⟩ st).setCell ⟨rp,1,none⟩ x).setCell ⟨rp,2,none⟩ y):=fun st x y=>((HB5.out.setCell (p:=⟨rp,0,none⟩) HRW.out _).setCell (p:=⟨rp,1,none⟩) HRW.out _).setCell (p:=⟨rp,2,none⟩) HRW.out _
    have hbt:∀ st x y,But rp w5 (((w5.setCell ⟨rp,0,none⟩ st).setCell ⟨rp,1,none⟩ x).setCell ⟨rp,2,none⟩ y):=fun st x y=>((((But.refl rp w5).set 0 _).set 1 _).set 2 _)
    have hall:∀ st x y,e=.returned (.agg #[st,x,y])→(∃ k,st=.int .i64 k)→(∃ A n c,x=.slice A n c)→(∃ A n c,y=.slice A n c)→MinRes (qA a) (qB b) (qB c) c.length a.length w5 e→MinRes (qA a) (qB b) (qB c) c.length a.length (((w5.setCell ⟨rp,0,none⟩ st).setCell ⟨rp,1,none⟩ x).setCell ⟨rp,2,none⟩ y) e:=by
     intro st x y _ _ _ _ hm
     rcases hm with ⟨v,q,h1,h2,h3,h4⟩|⟨v,q,h1,h2,h3,h4⟩|⟨u,v,q,r,h1,h2,h3,h4,h5,h6⟩
     ·exact .inl ⟨v,q,h1,h2.keep HDL.out (hbt _ _ _),h3,h4⟩
     ·exact .inr (.inl ⟨v,q,h1,h2.keep HDL.out (hbt _ _ _),h3,h4⟩)
     ·exact .inr (.inr ⟨u,v,q,r,h1,h2.keep HDL.out (hbt _ _ _),h3.keep HDL.out (hbt _ _ _),h4,h5,h6⟩)
    obtain ⟨st,x,y,rfl,hst,hx,hy⟩:∃ st x y,e=.returned (.agg #[st,x,y])∧(∃ k,st=.int .i64 k)∧(∃ A n c,x=.slice A n c)∧(∃ A n c,y=.slice A n c):=by
     rcases hres with ⟨v,q,h1,h2,h3,h4⟩|⟨v,q,h1,h2,h3,h4⟩|⟨u,v,q,r,h1,h2,h3,h4,h5,h6⟩
     ·obtain ⟨A,c,e,-⟩:=h2;exact ⟨_,_,_,h1,⟨_,rfl⟩,⟨_,_,_,rfl⟩,⟨_,_,_,e⟩⟩
     ·obtain ⟨A,c,e,-⟩:=h2;exact ⟨_,_,_,h1,⟨_,rfl⟩,⟨_,_,_,e⟩,⟨_,_,_,rfl⟩⟩
     ·obtain ⟨A,c,e,-⟩:=h2;obtain ⟨A2,c2,e2,-⟩:=h3;exact ⟨_,_,_,h1,⟨_,rfl⟩,⟨_,_,_,e⟩,⟨_,_,_,e2⟩⟩
    have HF:=hid (hall st x y rfl hst hx hy hres);have HFB:=hid (hfin st x y)
    have p0:=hbl.cell 0 (by simp)
    have p1:=hbl.cell 1 (by simp)
    have p2:=hbl.cell 2 (by simp)
    have f0:=hbl.free 0
    have f1:=hbl.free 1
    have f2:=hbl.free 2
    have bl3:=((hbl.set 0 st).set 1 x).set 2 y
    have q0:=bl3.cell 0 (by simp)
    have q1:=bl3.cell 1 (by simp)
    have q2:=bl3.cell 2 (by simp)
    simp only [List.getElem_cons_zero,List.getElem_cons_succ,List.set_cons_zero,List.set_cons_succ] at p0 p1 p2 q0 q1 q2
    obtain ⟨ks,rfl⟩:=hst
    obtain ⟨Ax,nx,cx,rfl⟩:=hx
    obtain ⟨Ay,ny,cy,rfl⟩:=hy
    clear hall hfin hbt hbl hdl bl3 hres hb5 HMN hrw
    refine hK _ _ ?_
    clear hK
    (refine tail_one (i:=8) (by kernel_rfl) rfl ?_;intro K hK;go_simp;refine hK _ _ ?_;clear hK)
    refine wpAny_done (by kernel_rfl) ?_ _
    go_wp2
    (try simp only [Exit.inBlock,Exit.then])
    refine bodyPost_ret (v:=.agg #[.int .i64 ks,.slice Ax nx cx,.slice Ay ny cy]) (by simp [results,Tryz.results125,go_sem,q0,q1,q2]) rfl ⟨HF.out,HFB.out⟩
end
section
open Go.RowKit Go.ChangeMaps
open Lp (Tab EndEmpty EndFree EndFound)
def EndQ (A:Tab) (b c:Nat→Rat) (n m:Nat) (s:Nat) (x y:Nat→Rat):Prop :=
 (s=0∧EndFound A b c n m x y∧DenB n x∧DenB m y)∨(s=1∧EndEmpty A b n m y∧DenB m y)∨(s=2∧EndFree A b c n m x∧DenB n x)
theorem MinRes.endQ {A:Tab} {b c:Nat→Rat} {n m:Nat} {w:World} {e:Ending} (h:MinRes A b c n m w e):∃ (s:Nat) (x y:Nat→Rat) (A1:Option Addr) (n1 c1:Nat) (A2:Option Addr) (n2 c2:Nat),e=.returned (.agg #[.int .i64 s,.slice A1 n1 c1,.slice A2 n2 c2])∧s<3∧EndQ A b c n m s x y ∧
 (s≠1→RatsX w (.slice A1 n1 c1) n x)∧(s≠2→RatsX w (.slice A2 n2 c2) m y):=by
 rcases h with ⟨v,y,rfl,h2,h3,h4⟩|⟨v,x,rfl,h2,h3,h4⟩|⟨u,v,x,y,rfl,h2,h3,h4,h5,h6⟩
 ·obtain ⟨A',c',rfl,-⟩:=id h2
  exact ⟨1,fun _=>0,y,_,_,_,_,_,_,rfl,by omega,.inr (.inl ⟨rfl,h3,h4⟩),fun h=>absurd rfl h,fun _=>h2⟩
 ·obtain ⟨A',c',rfl,-⟩:=id h2
  exact ⟨2,x,fun _=>0,_,_,_,_,_,_,rfl,by omega,.inr (.inr ⟨rfl,h3,h4⟩),fun _=>h2,fun h=>absurd rfl h⟩
 ·obtain ⟨A',c',rfl,-⟩:=id h2
  obtain ⟨A2',c2',rfl,-⟩:=id h3
  exact ⟨0,x,y,_,_,_,_,_,_,rfl,by omega,.inl ⟨rfl,h4,h5,h6⟩,fun _=>h2,fun _=>h3⟩
def nilPt:Value:=.agg #[.slice none 0 0,.int .i64 0]
def OfPost (a:List (List Int)) (b c:List Int) (st:Nat) (o:Nat→Int) (kx:Bool) (w w':World) (e:Ending):Prop :=
 (progOk a b c=false∧e=.returned (.tuple #[nilPt,.int .i64 2])) ∨
 (progOk a b c=true∧∃ (s:Nat) (x y:Nat→Rat),s<3∧EndQ (qA a) (qB b) (qB c) c.length a.length s x y ∧
   ((s≠st∧e=.returned (.tuple #[nilPt,.int .i64 (o s)])) ∨
    (s=st∧∃ g xs d,e=.returned (.tuple #[.agg #[.slice (some ⟨g,0,none⟩) (if kx then c.length else a.length) (if kx then c.length else a.length),.int .i64 d],.int .i64 0])∧w.heap.size≤g∧IBlk w' g xs∧PtOf xs d (if kx then c.length else a.length) (if kx then x else y))))
def OfC (rp:Nat) (wx:World) (_:List Value) (w:World):Prop:=But rp wx w∧Blk w rp [.slice none 0 0,.int .i64 0] 29
set_option maxRecDepth 100000 in
set_option maxHeartbeats 4000000 in
theorem of_any (A B C:Option Addr) (ca cb cc:Nat) (a:List (List Int)) (b c:List Int) (st:Nat) (o:Nat→Int) (kx:Bool) (F:Nat) (w:World) (h:Prog3 w A B C a b c) (hst:st<3) (hk1:kx=true→st≠1) (hk2:kx=false→st≠2)
 (hEn:∀ args w,(callFunc F args).run Tryz.prog w=.ok (.enter F args) w)
 (hF:∀ (W:World) (s:Value) (A1:Option Addr) (n1 c1:Nat) (A2:Option Addr) (n2 c2:Nat),Calls Tryz.prog F #[.agg #[s,.slice A1 n1 c1,.slice A2 n2 c2]] W fun e w'=>e=.returned (if kx then .slice A1 n1 c1 else .slice A2 n2 c2)∧Below W.heap.size W w') :
 Calls Tryz.prog 65 #[.agg #[.int .i64 st,.int .i64 (o 0),.int .i64 (o 1),.int .i64 (o 2),.func (.func F) #[] #[]],.agg #[.slice A a.length ca,.slice B b.length cb,.slice C c.length cc]] w fun e w'=>OfPost a b c st o kx w w' e∧Below w.heap.size w w':=by
 have HEn:=hid hEn
 clear hEn
 have HF:=hid hF;have HK1:=hid hk1;have HK2:=hid hk2
 clear hF hk1 hk2
 obtain ⟨wa,hwa⟩:∃ wa,wa=w.alloc (.cells #[.int .i64 st,.int .i64 (o 0),.int .i64 (o 1),.int .i64 (o 2),.func (.func F) #[] #[]] 87 (0,0)):=⟨_,rfl⟩
 obtain ⟨wb,hwb⟩:∃ wb,wb=wa.alloc (.cells #[.slice A a.length ca,.slice B b.length cb,.slice C c.length cc] 25 (0,0)):=⟨_,rfl⟩
 obtain ⟨wc,hwc⟩:∃ wc,wc=wb.alloc (.cells #[.slice none 0 0,.int .i64 0] 29 (0,0)):=⟨_,rfl⟩
 have ba:Blk wa w.heap.size [.int .i64 st,.int .i64 (o 0),.int .i64 (o 1),.int .i64 (o 2),.func (.func F) #[] #[]] 87:=by rw [hwa];exact Blk.new _ _ _
 have bb:Blk wb wa.heap.size [.slice A a.length ca,.slice B b.length cb,.slice C c.length cc] 25:=by rw [hwb];exact Blk.new _ _ _
 have bc:Blk wc wb.heap.size [.slice none 0 0,.int .i64 0] 29:=by rw [hwc];exact Blk.new _ _ _
 have sa:wa.heap.size=w.heap.size+1:=by rw [hwa];simp
 have sb:wb.heap.size=w.heap.size+1+1:=by rw [hwb];simp [sa]
 have e1:Below w.heap.size w wa:=by rw [hwa];exact (Below.refl _ _).alloc (Nat.le_refl _) _
 have e2:Below w.heap.size w wb:=by rw [hwb];exact e1.alloc (by omega) _
 have e3:Below w.heap.size w wc:=by rw [hwc];exact e2.alloc (by omega) _
 have bba:Below wa.heap.size wa wb:=by rw [hwb];exact (Below.refl _ _).alloc (Nat.le_refl _) _
 have bcb:Below wb.heap.size wb wc:=by rw [hwc];exact (Below.refl _ _).alloc (Nat.le_refl _) _
 have ba3:=(ba.ext bba).ext bcb
 have bb3:=bb.ext bcb
 have hval:=valid_calls A B C ca cb cc a b c wc (h.ext e3)
 have HP:=hid (h.ext e3);have HE3:=hid e3;have HV:=hid hval;have HA3:=hid ba3;have HB3:=hid bb3;have HC3:=hid bc;have SA:=hid sa;have SB:=hid sb
 have p0:=bb3.cell 0 (by simp)
 have p1:=bb3.cell 1 (by simp)
 have p2:=bb3.cell 2 (by simp)
 simp only [List.getElem_cons_zero,List.getElem_cons_succ] at p0 p1 p2
 rw [sa] at p0 p1 p2
 rw [hwc,hwb,hwa] at p0 p1 p2
 go_enter Tryz.func65,Tryz.ntmps65
 clear h hval e1 e2 e3 bba bcb ba3 bb3 ba bb bc sa sb
 go_wp2_with fail
 rw [←hwa,←hwb,←hwc]
 clear p0 p1 p2 hwa hwb hwc
 obtain ⟨bp,hbp⟩:∃ bp,w.heap.size=bp:=⟨_,rfl⟩
 obtain ⟨pp,hpp⟩:∃ pp,w.heap.size+1=pp:=⟨_,rfl⟩
 obtain ⟨rp,hrp⟩:∃ rp,w.heap.size+1+1=rp:=⟨_,rfl⟩
 rw [hbp] at HA3
 rw [SA.out,hpp] at HB3
 rw [SB.out,hrp] at HC3
 rw [hrp,hpp,hbp]
 have hwr:w.heap.size≤rp:=by omega
 have hbr:bp≠rp:=by omega
 have hpr:pp≠rp:=by omega
 have HWR:=hid hwr;have HBR:=hid hbr;have HPR:=hid hpr
 clear hbp hpp hrp hwr hbr hpr SA SB
 refine HV.out.mono ?_;rintro e w1 ⟨rfl,hb1⟩
 have HB1:=hid (HE3.out.trans (hb1.mono HE3.out.size))
 have HA4:=hid (HA3.out.ext hb1);have HB4:=hid (HB3.out.ext hb1);have HC4:=hid (HC3.out.ext hb1)
 have HP4:=hid (HP.out.ext hb1)
 clear hb1 HV HA3 HB3 HC3 HP HE3
 cases hok:progOk a b c with
 | false =>
   have HOK:=hid hok
   clear hok
   have c0:=HC4.out.cell 0 (by simp)
   have c1:=HC4.out.cell 1 (by simp)
   have f0:=HC4.out.free 0
   have f1:=HC4.out.free 1
   simp only [List.getElem_cons_zero,List.getElem_cons_succ] at c0 c1
   have bl3:=(HC4.out.set 0 (.slice none 0 0)).set 1 (.int .i64 0)
   have q0:=bl3.cell 0 (by simp)
   have q1:=bl3.cell 1 (by simp)
   simp only [List.getElem_cons_zero,List.getElem_cons_succ,List.set_cons_zero,List.set_cons_succ] at q0 q1
   have HBF:=hid ((HB1.out.setCell (p:=⟨rp,0,none⟩) HWR.out (.slice none 0 0)).setCell (p:=⟨rp,1,none⟩) HWR.out (.int .i64 0))
   clear bl3
   go_wp2
   (try simp only [Exit.inBlock,Exit.then])
   refine bodyPost_ret (v:=.tuple #[nilPt,.int .i64 2]) (by simp [results,Tryz.results65,go_sem,q0,q1,nilPt]) rfl ⟨.inl ⟨HOK.out,rfl⟩,HBF.out⟩
 | true =>
   have HSO:=hid (solvedL_calls A B C ca cb cc a b c w1 HP4.out hok)
   have HOK:=hid hok
   clear hok
   have p0:=HB4.out.cell 0 (by simp)
   have p1:=HB4.out.cell 1 (by simp)
   have p2:=HB4.out.cell 2 (by simp)
   simp only [List.getElem_cons_zero,List.getElem_cons_succ] at p0 p1 p2
   go_wp2_with fail
   refine HSO.out.mono ?_;rintro e w2 ⟨hres,hb2⟩
   obtain ⟨s,x,y,A1,n1,c1,A2,n2,c2,rfl,hs3,hq,hx,hy⟩:=hres.endQ
   have HB2:=hid (HB1.out.trans (hb2.mono HB1.out.size))
   have HA5:=hid (HA4.out.ext hb2);have HC5:=hid (HC4.out.ext hb2)
   have HX:=hid hx;have HY:=hid hy;have HQ:=hid hq
   clear hres hb2 hx hy hq HSO p0 p1 p2 HB4 HA4 HC4 HB1 HP4
   have hd0:=HA5.out.cell 0 (by simp)
   simp only [List.getElem_cons_zero] at hd0
   obtain ⟨qp,hqp⟩:∃ qp,w2.heap.size=qp:=⟨_,rfl⟩
   obtain ⟨w4,hw4⟩:∃ w4,w2.alloc (.cells #[.int .i64 s,.slice A1 n1 c1,.slice A2 n2 c2] 84 (0,0))=w4:=⟨_,rfl⟩
   have hkr4:Blk w4 qp [.int .i64 s,.slice A1 n1 c1,.slice A2 n2 c2] 84:=by
    rw [←hw4,←hqp];exact Blk.new _ _ _
   have hb24:Below w2.heap.size w2 w4:=by
    rw [←hw4];exact (Below.refl _ _).alloc (Nat.le_refl _) _
   have j0:=hkr4.cell 0 (by simp)
   have j1:=hkr4.cell 1 (by simp)
   have j2:=hkr4.cell 2 (by simp)
   simp only [List.getElem_cons_zero,List.getElem_cons_succ] at j0 j1 j2
   have a0:=(HA5.out.ext hb24).cell 0 (by simp)
   have a4:=(HA5.out.ext hb24).cell 4 (by simp)
   simp only [List.getElem_cons_zero,List.getElem_cons_succ] at a0 a4
   have HA6:=hid (HA5.out.ext hb24);have HC6:=hid (HC5.out.ext hb24)
   have HKR:=hid hkr4;have HB24:=hid hb24
   have HQP:=hid hqp
   have hne:qp≠rp:=by have:=HC5.out.lt;omega
   have HNE:=hid hne
   have HB6:=hid (HB2.out.trans (hb24.mono HB2.out.size))
   clear hkr4 hb24 hne hd0
   have J:=hid (And.intro j0 (And.intro j1 j2));have AA:=hid (And.intro a0 a4)
   rw [←hw4] at j0 j1 j2 a0 a4
   rw [←hqp] at j0 j1 j2
   have HW4:=hid hw4
   clear hqp hw4
   by_cases hss:s=st
   ·have he:((s:Int) == (st:Int))=true:=by simp [hss]
    have HSS:=hid hss
    clear hss
    have hEn:=HEn.out
    go_wp2_with fail
    clear hEn
    refine (HF.out _ _ _ _ _ _ _ _).mono ?_;rintro e w5 ⟨rfl,hb5⟩
    rw [HW4.out] at hb5
    clear j0 j1 j2 a0 a4 he
    have HB5:=hid (HB6.out.trans (hb5.mono HB6.out.size));have HC7:=hid (HC6.out.ext hb5)
    have hpt:RatsX w4 (if kx then .slice A1 n1 c1 else .slice A2 n2 c2) (if kx then c.length else a.length) (if kx then x else y)∧DenB (if kx then c.length else a.length) (if kx then x else y):=by
     have h1:=HSS.out
     have hq:=HQ.out
     cases kx with
     | true =>
       have hs1:s≠1:=fun e=>HK1.out rfl (by omega)
       refine ⟨(HX.out hs1).ext HB24.out,?_⟩
       rcases hq with ⟨-,-,h,-⟩|⟨e,-⟩|⟨-,-,h⟩
       ·exact h
       ·exact absurd e hs1
       ·exact h
     | false =>
       have hs1:s≠2:=fun e=>HK2.out rfl (by omega)
       refine ⟨(HY.out hs1).ext HB24.out,?_⟩
       rcases hq with ⟨-,-,-,h⟩|⟨-,-,h⟩|⟨e,-⟩
       ·exact h
       ·exact h
       ·exact absurd e hs1
    have hmn:(if kx then c.length else a.length)≤1000:=by
     obtain ⟨h1,h2,h3,-⟩:=progOk.parts HOK.out
     cases kx<;>simp<;>omega
    obtain ⟨vv,hvv⟩:∃ vv,(if kx then Value.slice A1 n1 c1 else Value.slice A2 n2 c2)=vv:=⟨_,rfl⟩
    rw [hvv] at hpt ⊢
    have HPD:=hid (pointed_calls vv (if kx then c.length else a.length) (if kx then x else y) w5 (hpt.1.ext hb5) hmn hpt.2)
    obtain ⟨kk,hkk⟩:∃ kk,(if kx then c.length else a.length)=kk:=⟨_,rfl⟩
    have HKK:=hid hkk
    rw [hkk] at HPD
    clear hpt hmn hb5 hvv hkk HF
    go_wp2_with fail
    refine HPD.out.mono ?_;rintro e w6 ⟨g,xs,d,rfl,hg,hI,hpt,hb6⟩
    have hc6:=HC7.out.ext hb6
    have c0:=hc6.cell 0 (by simp)
    have c1':=hc6.cell 1 (by simp)
    have f0:=hc6.free 0
    have f1:=hc6.free 1
    simp only [List.getElem_cons_zero,List.getElem_cons_succ] at c0 c1'
    have hgr:rp<g:=by have:=HC7.out.lt;omega
    have hbt:But rp w6 ((w6.setCell ⟨rp,0,none⟩ (.slice (some ⟨g,0,none⟩) kk kk)).setCell ⟨rp,1,none⟩ (.int .i64 d)):=((But.refl rp w6).set 0 _).set 1 _
    have HIF:=hid (hI.but hbt (by omega))
    have HBF:=hid ((HB5.out.trans (hb6.mono HB5.out.size)).trans (hbt.below HWR.out (by have:=HB5.out.size;have:=hb6.size;omega)))
    have bl3:=(hc6.set 0 (.slice (some ⟨g,0,none⟩) kk kk)).set 1 (.int .i64 d)
    have q0:=bl3.cell 0 (by simp)
    have q1:=bl3.cell 1 (by simp)
    simp only [List.getElem_cons_zero,List.getElem_cons_succ,List.set_cons_zero,List.set_cons_succ] at q0 q1
    have HPT:=hid hpt
    have HGW:Hid (w.heap.size≤g):=hid (by have:=HB5.out.size;omega)
    clear hbt bl3 hc6 hI hb6 hpt hg HPD
    go_wp2
    (try simp only [Exit.inBlock,Exit.then])
    refine bodyPost_ret (v:=.tuple #[.agg #[.slice (some ⟨g,0,none⟩) kk kk,.int .i64 d],.int .i64 0]) (by simp [results,Tryz.results65,go_sem,q0,q1]) rfl ⟨.inr ⟨HOK.out,s,x,y,hs3,HQ.out,.inr ⟨HSS.out,g,xs,d,by rw [HKK.out],HGW.out,HIF.out,by rw [HKK.out];exact HPT.out⟩⟩,HBF.out⟩
   ·have he:((s:Int) == (st:Int))=false:=by simp;omega
    have HSS:=hid hss
    clear hss
    go_wp2_with fail
    rw [HQP.out,HW4.out]
    clear j0 j1 j2 a0 a4 he
    obtain ⟨j0,j1,j2⟩:=J.out
    have hoc:w4.cell? ⟨bp,1+s,none⟩=some (.int .i64 (o s)):=by
     have h1:s=0∨s=1∨s=2:=by omega
     rcases h1 with rfl|rfl|rfl
     ·exact HA6.out.cell 1 (by simp)
     ·exact HA6.out.cell 2 (by simp)
     ·exact HA6.out.cell 3 (by simp)
    have hs31:(s:Int)<3:=by omega
    have HCX:Hid (∀ w',But rp w4 w'→w'.cell? ⟨qp,0,none⟩=some (.int .i64 s)∧w'.cell? ⟨bp,1+s,none⟩=some (.int .i64 (o s))):=hid fun w' hb=>⟨(World.cell?_of_block (a:=⟨qp,0,none⟩) (hb.block qp (cell_lt j0) HNE.out)).trans j0,(World.cell?_of_block (a:=⟨bp,1+s,none⟩) (hb.block bp (cell_lt hoc) HBR.out)).trans hoc⟩
    clear j0 j1 j2 hoc
    refine wp_region_stores (w0:=w4) 8 [18,19,20,21,22,23,100006,5]
     [some (.agg #[.slice none 0 0,.int .i64 0]),some (.pointer (some ⟨qp,0,none⟩)),some (.int .i64 s),some (.pointer (some ⟨bp,1,none⟩)),some (.pointer (some ⟨bp,1+s,none⟩)),some (.int .i64 (o s)),none,some (.int .i64 (o s))]
     [6] [] (fun _ _ _=>True) (fun _ _=>True) (OfC rp w4) (by kernel_rfl) (by kernel_rfl) (by kernel_rfl) (by exact Nat.le_of_ble_eq_true rfl) (F:=?cFr5) ?r5c1 (fun _ _ _ _ h _=>h) (fun _ _ _ _ h _=>h) (fun l w1 w2 h hb=>⟨h.1.ext hb,h.2.ext hb⟩) (⟨(But.refl rp w4).ext (drewN_below w4 1),HC6.out⟩) ?r5c3 ?r5c4
    case r5c1 =>
     intro x
     simp only [fullF,Act.put,List.setIfInBounds_toArray,List.set_cons_zero,List.set_cons_succ]
     rfl
    case r5c3 =>
     refine ⟨?_,?_,?_,?_,?_,?_,?_,?_,trivial⟩
     all_goals
      intro xx wq kk hkk hC hcon hfl hlk hwt K hK
      try have e0:xx 18=_:=hcon 0 _ (by decide) rfl
      try have e1:xx 19=_:=hcon 1 _ (by decide) rfl
      try have e2:xx 20=_:=hcon 2 _ (by decide) rfl
      try have e3:xx 21=_:=hcon 3 _ (by decide) rfl
      try have e4:xx 22=_:=hcon 4 _ (by decide) rfl
      try have e5:xx 23=_:=hcon 5 _ (by decide) rfl
      try have e7:xx 5=_:=hcon 7 _ (by decide) rfl
      have HC:=hid hC;clear hC
      have HL:=hid hlk;clear hlk
      have HW:=hid hwt;clear hwt
      clear hcon hfl
      go_simp
      try (refine hK _ _ _ ⟨rfl,rfl⟩ ?_;dsimp only [Act.put];first|done|rfl|(simp [*];done))
     ·have hC:=HC.out
      have h3:=(HCX.out _ hC.1).1
      go_simp
      exact hK _ _ _ ⟨rfl,rfl⟩ (by first|(dsimp only [Act.put];done)|(dsimp only [Act.put];first|rfl|(simp [*];done)|(simp [*,ptr];done)))
     ·have hC:=HC.out
      have h3:=(HCX.out _ hC.1).2
      go_simp
      exact hK _ _ _ ⟨rfl,rfl⟩ (by first|(dsimp only [Act.put];done)|(dsimp only [Act.put];first|rfl|(simp [*];done)|(simp [*,ptr];done)))
     ·have hC:=HC.out
      obtain rfl:=HL.out 0 rfl
      have hC:(OfC rp w4) [] wq:=HC.out
      have c0:=hC.2.cell 0 (by simp)
      have c1:=hC.2.cell 1 (by simp)
      have f0:=hC.2.free 0
      have f1:=hC.2.free 1
      simp only [List.getElem_cons_zero,List.getElem_cons_succ] at c0 c1
      go_simp
      exact hK undef _ _ (MGood.link rfl rfl ⟨((hC.1.set 0 _).set 1 _),(hC.2.set 0 _).set 1 _⟩ trivial) (by first|(dsimp only [Act.put];done)|(dsimp only [Act.put];first|rfl|(simp [*];done)|(simp [*,ptr];done)))
    case r5c4 =>
     intro xx wz hG hC
     have e0:xx 18=_:=hG 0 _ (by decide) rfl
     have e1:xx 19=_:=hG 1 _ (by decide) rfl
     have e2:xx 20=_:=hG 2 _ (by decide) rfl
     have e3:xx 21=_:=hG 3 _ (by decide) rfl
     have e4:xx 22=_:=hG 4 _ (by decide) rfl
     have e5:xx 23=_:=hG 5 _ (by decide) rfl
     have e7:xx 5=_:=hG 7 _ (by decide) rfl
     have hC:(OfC rp w4) [xx 100006] wz:=hC
     have q0:=hC.2.cell 0 (by simp)
     have q1:=hC.2.cell 1 (by simp)
     simp only [List.getElem_cons_zero,List.getElem_cons_succ] at q0 q1
     have HBF:=hid (HB6.out.trans (hC.1.below HWR.out HB6.out.size))
     clear hC hG
     go_wp2
     (try simp only [Exit.inBlock,Exit.then])
     refine bodyPost_ret (v:=.tuple #[nilPt,.int .i64 (o s)]) (by simp [results,Tryz.results65,go_sem,q0,q1,nilPt,e7]) rfl ⟨.inr ⟨HOK.out,s,x,y,hs3,HQ.out,.inl ⟨HSS.out,rfl⟩⟩,HBF.out⟩
end
end Go.Proofs.YtkljafmdbajfeaaGreatDoor
