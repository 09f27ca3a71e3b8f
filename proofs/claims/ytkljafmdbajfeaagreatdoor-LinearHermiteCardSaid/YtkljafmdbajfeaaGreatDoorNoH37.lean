/- linear.solved: a program's end. -/
import Derived.Test.YtkljafmdbajfeaaGreatDoorNoH36
namespace Go.Proofs.YtkljafmdbajfeaaGreatDoor
set_option linter.unusedVariables false
set_option linter.unusedSimpArgs false
open Go.Lib (hid)
section
open Go.RowKit Go.ChangeMaps
open Lp (IsI Tab)
def Dull (w:World) (p:Nat):Prop:=∀ o x,w.cell? ⟨p,o,none⟩=some x→(∀ a,x≠.pointer a)∧(∀ b,x≠.bool b)∧∀ n,x≠.int .u32 n
theorem Blk.dull {w:World} {b:Nat} {vs:List Value} {T:TypeId} (h:Blk w b vs T) (hv:∀ x∈vs,(∀ a,x≠.pointer a)∧(∀ b,x≠.bool b)∧∀ n,x≠.int .u32 n):Dull w b:=fun o x e=>hv x (cell_in h e)
theorem RatP.keep {w w':World} {p q:Nat} {x:Rat} (h:RatP w q x) (hp:Dull w p) (hb:But p w w'):RatP w' q x:=by
 refine h.butW (fun o n e=>(hp o _ e).2.2 n rfl) hb ?_
 rintro rfl
 obtain ⟨c,A',k',c2,h0,-⟩:=h.blk.int.c
 exact (hp 0 _ h0).2.1 c rfl
theorem RatsX.keep {w w':World} {v:Value} {n p:Nat} {q:Nat→Rat} (h:RatsX w v n q) (hp:Dull w p) (hb:But p w w'):RatsX w' v n q:=by
 obtain ⟨A,c,h1,h2,h3,h4⟩:=h
 refine ⟨A,c,h1,h2,h3,fun i hi=>?_⟩
 obtain ⟨a,o,g,e,hc,hz⟩:=h4 i hi
 refine ⟨a,o,g,e,?_,hz.keep hp hb⟩
 have hne:a≠p:=by rintro rfl;exact (hp _ _ hc).1 _ rfl
 exact (World.cell?_of_block (a:=⟨a,o+i,none⟩) (hb.block a (cell_lt hc) hne)).trans hc
theorem RatsX.chgQ {w w':World} {u v:Value} {n:Nat} {q:Nat→Rat} (h:RatsX w v n q) (hc:Chg (fun k=>u.ownBlock=some k) w w') (hq:OwnC isSl w u):RatsX w' v n q:=by
 obtain ⟨A,c,h1,h2,h3,h4⟩:=h
 refine ⟨A,c,h1,h2,h3,fun i hi=>?_⟩
 obtain ⟨a,o,g,e,hcc,hz⟩:=h4 i hi
 have ho:∀ k x,w.cell? ⟨a,k,none⟩=some x→¬ isSl x→u.ownBlock≠some a:=fun k x e1 e2 e3=>e2 (hq a e3 _ _ e1)
 have hn:u.ownBlock≠some a:=ho _ _ hcc (fun ⟨A,n,c,e⟩=>by cases e)
 refine ⟨a,o,g,e,(World.cell?_of_block (a:=⟨a,o+i,none⟩) (hc.block a (cell_lt hcc) hn)).trans hcc,hz.chg hc fun e3=>?_⟩
 obtain ⟨b,A',k',c2,h0,-⟩:=hz.blk.int.c
 exact absurd (hq g e3 _ _ h0) (fun ⟨A,n,c,e⟩=>by cases e)
structure RRow (w:World) (base:Nat) (v:Value) (i n:Nat) (q:Tab):Prop where
 ex:∃ vs:List Value,vs.length=i∧w.ownsRow base 82 1 v i vs∧OwnC isSl w v∧∀ j,∀ hj:j<vs.length,RatsX w vs[j] n (q j)
theorem RRow.ext {w w':World} {base i n:Nat} {v:Value} {q:Tab} (h:RRow w base v i n q) (hb:Below w.heap.size w w'):RRow w' base v i n q:=by
 obtain ⟨vs,h1,h2,h4,h3⟩:=h.ex
 exact ⟨vs,h1,own_ext h2 hb,h4.ext h2 hb,fun j hj=>(h3 j hj).ext hb⟩
theorem RRow.rows {w:World} {base i n:Nat} {v:Value} {q:Tab} (h:RRow w base v i n q):RowsX w v i n q:=by
 obtain ⟨vs,h1,h2,-,h3⟩:=h.ex
 obtain ⟨-,h4⟩:=id h2
 rcases h4 with ⟨rfl,h0⟩|⟨g,cap,cur,rfl,hg,hh,h5,h6,_⟩
 ·subst h0;exact ⟨none,0,rfl,fun i hi=>by omega⟩
 ·refine ⟨_,cap,rfl,fun j hj=>⟨g,0,vs[j]'(by omega),rfl,?_,h3 j (by omega)⟩⟩
  rw [Nat.zero_add,h2.cellAt j (by omega)]
  simp [h1,hj]
def qA (a:List (List Int)) (i j:Nat):Rat:=(nth (nrow a i) j:Rat)
def qB (b:List Int) (i:Nat):Rat:=(nth b i:Rat)
theorem listOk_at {k:Int} {xs:List Int} (h:listOk k xs=true) {i:Nat} (hi:i<xs.length) : -k≤nth xs i∧nth xs i≤k:=by
 unfold listOk at h
 have:=List.all_eq_true.1 h _ (nth_mem hi)
 unfold inB at this;simpa using this
theorem progOk.parts {a:List (List Int)} {b c:List Int} (h:progOk a b c=true):1≤c.length∧c.length≤6∧a.length≤6∧b.length=a.length∧(∀ r∈a,r.length=c.length∧listOk 30 r=true)∧listOk 1000 b=true∧listOk 1000 c=true:=by
 unfold progOk rowsOk at h
 simp only [Bool.and_eq_true,decide_eq_true_eq,List.all_eq_true] at h
 obtain ⟨⟨⟨⟨⟨⟨h1,h2⟩,h3⟩,h4⟩,h5⟩,h6⟩,h7⟩:=h
 refine ⟨h1,h2,h3,h5,fun r hr=>?_,h6,h7⟩
 have:=h4 r hr
 unfold rowOk at this;simpa using this
theorem lpSmall {a:List (List Int)} {b c:List Int} (h:progOk a b c=true):Lp.SmallT (qA a) (qB b) c.length a.length:=by
 obtain ⟨h1,h2,h3,h4,h5,h6,h7⟩:=progOk.parts h
 refine ⟨h3,fun i j hi hj=>⟨_,rfl,?_⟩,fun i hi=>⟨_,rfl,?_⟩⟩
 ·obtain ⟨k1,k2⟩:=h5 _ (nrow_mem hi)
  have:=listOk_at k2 (i:=j) (by omega)
  omega
 ·have:=listOk_at h6 (i:=i) (by omega)
  omega
set_option maxRecDepth 100000 in
set_option maxHeartbeats 4000000 in
theorem solvedL_calls (A B C:Option Addr) (ca cb cc:Nat) (a:List (List Int)) (b c:List Int) (w:World) (h:Prog3 w A B C a b c) (hok:progOk a b c=true) :
 Calls Tryz.prog 125 #[.agg #[.slice A a.length ca,.slice B b.length cb,.slice C c.length cc]] w fun e w'=>MinRes (qA a) (qB b) (qB c) c.length a.length w' e∧Below w.heap.size w w':=by
 obtain ⟨h1,h2,h3,h4,h5,h6,h7⟩:=progOk.parts hok
 have HSM:=hid (lpSmall hok)
 have H5:Hid (∀ r∈a,r.length=c.length∧∀ x∈r,-9223372036854775808≤x∧x≤9223372036854775807):=hid (fun r hr=>⟨(h5 r hr).1,fun x hx=>by
  have:=List.all_eq_true.1 (h5 r hr).2 x hx
  unfold inB at this;simp at this;omega⟩)
 have H6:Hid (∀ x∈b,-9223372036854775808≤x∧x≤9223372036854775807):=hid (fun x hx=>by
  have:=List.all_eq_true.1 h6 x hx
  unfold inB at this;simp at this;omega)
 have H7:Hid (∀ x∈c,-9223372036854775808≤x∧x≤9223372036854775807):=hid (fun x hx=>by
  have:=List.all_eq_true.1 h7 x hx
  unfold inB at this;simp at this;omega)
 have HC1:Hid (∀ j,j<c.length→IsI (qB c j) 1000):=hid (fun j hj=>⟨_,rfl,by have:=listOk_at h7 hj;omega⟩)
 obtain ⟨i0,hi0,hz0,hz1,hz2⟩:=info_parts infoRowQ
 have hb0:Below w.heap.size w (w.alloc (.cells #[.slice A a.length ca,.slice B b.length cb,.slice C c.length cc] 25 (0,0))):=(Below.refl _ _).alloc (Nat.le_refl _) _
 have hb1:Below w.heap.size w ((w.alloc (.cells #[.slice A a.length ca,.slice B b.length cb,.slice C c.length cc] 25 (0,0))).alloc (.cells #[.int .i64 0,.slice none 0 0,.slice none 0 0] 84 (0,0))):=hb0.alloc (by simp) _
 have hk1:=(Blk.new w [.slice A a.length ca,.slice B b.length cb,.slice C c.length cc] 25).alloc (.cells #[.int .i64 0,.slice none 0 0,.slice none 0 0] 84 (0,0))
 have hk2:=Blk.new (w.alloc (.cells #[.slice A a.length ca,.slice B b.length cb,.slice C c.length cc] 25 (0,0))) [.int .i64 0,.slice none 0 0,.slice none 0 0] 84
 have HP:=hid h
 have H4:=hid h4
 have hbl6:b.length≤6:=by omega
 clear h hok h4 h5 h6 h7 hb0
 have hsz:(w.alloc (.cells #[.slice A a.length ca,.slice B b.length cb,.slice C c.length cc] 25 (0,0))).heap.size=w.heap.size+1:=by simp
 rw [hsz] at hk2
 clear hsz
 have c0:=hk1.cell 0 (by simp)
 simp only [List.getElem_cons_zero] at c0
 go_enter Tryz.func125,Tryz.ntmps125
 go_wp2_with fail
 obtain ⟨rp,hrp⟩:∃ rp,w.heap.size+1=rp:=⟨_,rfl⟩
 obtain ⟨pp,hpp⟩:∃ pp,w.heap.size=pp:=⟨_,rfl⟩
 obtain ⟨w1,hw1⟩:∃ w1,((w.alloc (.cells #[.slice A a.length ca,.slice B b.length cb,.slice C c.length cc] 25 (0,0))).alloc (.cells #[.int .i64 0,.slice none 0 0,.slice none 0 0] 84 (0,0)))=w1:=⟨_,rfl⟩
 rw [hw1] at hb1 hk1 hk2 ⊢
 rw [hrp] at hk2 ⊢
 rw [hpp] at hk1 hrp ⊢
 have HK1:=hid hk1;have HK2:=hid hk2;have HB1:=hid hb1;have HRP:=hid hrp;have HPP:=hid hpp
 clear hk1 hk2 hb1 hrp hpp hw1 c0
 go_loopw [3,9] (fun tv ti wr=>∃ (i:Nat),i≤a.length∧ti=.int .i64 i∧Hid (RRow wr w1.heap.size tv i c.length (qA a))∧Hid (Below w1.heap.size w1 wr)) (fun _ ti _=>a.length-(intOf ti).toNat)
 case atStart=>exact ⟨0,Nat.zero_le _,rfl,hid ⟨[],rfl,World.ownsRow_nil _ _ _ _,OwnC.nil _ _ _ _,fun j hj=>by simp at hj⟩,hid (Below.refl _ _)⟩
 case round =>
  obtain ⟨i,hi,rfl,hP,hbe⟩:=hrel
  by_cases hlt:i<a.length
  ·have hn1:(i:Int)<a.length:=by omega
   have hbw:=HB1.out.trans (hbe.out.mono HB1.out.size)
   obtain ⟨bb,o,R,cR,rfl,hc,hcR,hints⟩:=HP.out.ga i hlt
   have hc':=((bcell hbw).1 _ _ (cell_lt hc)).trans hc
   obtain ⟨hlen,hbd⟩:=H5.out _ (nrow_mem hlt)
   have hof:=rats_calls R cR (nrow a i) wr (hints.ext hbw) (by omega) hbd
   rw [hlen] at hof
   have hc2:wr.cell? ⟨bb,o+i,none⟩=some (.slice R c.length cR):=by rw [←hlen];exact hc'
   have HOF:=hid hof
   obtain ⟨vs0,-,hq2,-⟩:=hP.out.ex
   obtain ⟨A3,c3,rfl,hc3,hc4⟩:=own_size hq2
   clear hof hq2 hints hc hc' hcR hbw hlen hbd
   go_wp2_with fail
   refine HOF.out.mono ?_;rintro e w2 ⟨x,rfl,hx,hb2⟩
   obtain ⟨Ax,cx,rfl,-⟩:=id hx
   have hA:Below w2.heap.size w2 (w2.alloc (.cells #[.slice Ax c.length cx] 82 (0,0))):=(Below.refl _ _).alloc (Nat.le_refl _) _
   have hB:=Blk.new w2 [.slice Ax c.length cx] 82
   have hP2:=(hP.out.ext hb2).ext hA
   obtain ⟨vs,hps1,hps2,hps4,hps3⟩:=hP2.ex
   have HO1:=hid hps2;have HC1':=hid hps4;have HBL:=hid hB;have HA:=hid hA;have H3:=hid hps3;have HX:=hid (hx.ext hA);have HB2:=hid hb2
   have hsz:=hbe.out.size
   have hsz2:=hb2.size
   clear hP2 hps2 hps3 hps4 hB hA hx hb2 HOF
   go_wp2_with (at_builtin;refine wpList_append_all isSl rfl _ _ 214 rfl w1.heap.size 82 i0 (.slice none 0 0) 24 Tryz.underlying214 hi0 hz0 hz1 hz2 rfl ⟨_,_,_,rfl⟩ _ _ _ rfl HO1.out HC1'.out ⟨w2.heap.size,0,none⟩ 1 1 [.slice Ax c.length cx] rfl ?qc1 ?qc2 ?qc3 ?qc7 ?qc8 ?qc4 ?qc5 ?qc6 ?_)
   case qc1=>rfl
   case qc2 =>
    intro j u hj
    cases j with
    | zero=>simp at hj;subst hj;exact HBL.out.cell 0 (by simp)
    | succ j=>simp at hj
   case qc3=>intro u hu;simp at hu;subst hu;rfl
   case qc7=>intro u hu;simp at hu;subst hu;exact ⟨_,_,_,rfl⟩
   case qc8=>omega
   case qc4=>unfold maxLen;omega
   case qc5=>omega
   case qc6=>exact Nat.le_trans (by omega:w1.heap.size≤w2.heap.size) HA.out.size
   intro v' w3 hown' hgrow hoc
   have hb23:Below w1.heap.size w2 w3:=((HA.out.mono (by omega)).grown hgrow (Nat.le_trans (by omega:w1.heap.size≤w2.heap.size) HA.out.size) (own_block HO1.out))
   have hch:=Chg.ofGrown hgrow HC1'.out (fun n ⟨A,k,c,e⟩=>by cases e)
   have hP3:RRow w3 w1.heap.size v' (i+1) c.length (qA a):=by
    refine ⟨vs ++ [.slice Ax c.length cx],by simp [hps1],hown',hoc,fun j hj=>?_⟩
    rw [List.getElem_append]
    split
    ·rename_i h1;exact (H3.out j h1).chgQ hch HC1'.out
    ·rename_i h1
     have:j=i:=by simp at hj;omega
     subst this
     simp only [hps1,Nat.sub_self,List.getElem_cons_zero]
     exact HX.out.chgQ hch HC1'.out
   have HP3:=hid hP3;have HB3:=hid ((hbe.out.trans (HB2.out.mono hsz)).trans hb23)
   clear hown' hgrow hoc hP3 hb23 HO1 hch
   go_wp2
   go_roundw
   case rel=>exact ⟨i+1,by omega,by go_num,HP3,HB3⟩
   case measure=>simp [intOf];omega
  ·obtain rfl:i=a.length:=by omega
   obtain ⟨vs0,-,hq2,-⟩:=hP.out.ex
   obtain ⟨A3,c3,rfl,hc3,hc4⟩:=own_size hq2
   have HROW:=hid hP.out.rows
   have bl1:=HK1.out.ext hbe.out
   have k1:=bl1.cell 1 (by simp)
   have k2:=bl1.cell 2 (by simp)
   simp only [List.getElem_cons_zero,List.getElem_cons_succ] at k1 k2
   have HB4:=hid (HB1.out.trans (hbe.out.mono HB1.out.size))
   have HK4:=hid (HK2.out.ext hbe.out)
   clear hq2 hP bl1 hbe
   go_wp2_with fail
   refine wp_region_kc (w0:=wr) 7 [19,20,21,22,23,24,25]
    [.c (.slice A3 a.length c3),.c (.pointer (some ⟨pp,1,none⟩)),.c (.slice B b.length cb),.l none (leaf1 · (fun v w=>RatsX w v b.length (fun i=>(nth b i:Rat)))),.c (.pointer (some ⟨pp,2,none⟩)),.c (.slice C c.length cc),.l none (leaf1 · (fun v w=>RatsX w v c.length (fun i=>(nth c i:Rat))))]
    [] (fun _ _=>False) (by kernel_rfl) (by kernel_rfl) (by kernel_rfl) rfl (F:=?cFr7) ?r7c1 ?r7c2 ?r7c3 ?r7c4
   case r7c1 =>
    intro x
    simp only [fullC,Act.put,List.setIfInBounds_toArray,List.set_cons_zero,List.set_cons_succ]
    rfl
   case r7c2 =>
    exact ⟨keeps_calm (⟨fun v w w' h hb=>h.ext hb,fun v w w' p h hp=>hp.elim⟩) _ _ _ _ _,keeps_calm (⟨fun v w w' h hb=>h.ext hb,fun v w w' p h hp=>hp.elim⟩) _ _ _ _ _,trivial⟩
   case r7c3 =>
    refine ⟨?_,?_,?_,?_,?_,?_,?_,trivial⟩
    all_goals
     intro xx wq HE hd K hK
     have hc:=(bcell HE).1
     have k1':=(hc _ _ (cell_lt k1)).trans k1
     have k2':=(hc _ _ (cell_lt k2)).trans k2
     try have g3:=hd 3 _ (by decide) rfl
     try have g6:=hd 6 _ (by decide) rfl
     have HE:=hid HE
     have HC:=hid hc
     clear hd hc
     all_goals go_simp
     try (refine hK _ _ _ (mv_const _ rfl) ?_;dsimp only [Act.put];first|done|rfl|(simp [*];done))
    ·refine (rats_calls B cb b wq (HP.out.gb.ext (HB4.out.trans (HE.out.mono HB4.out.size))) (by omega) H6.out).mono ?_
     rintro e w2 ⟨v2,rfl,hv2,hb2⟩
     exact hK _ _ _ (mv_plain hb2 hv2 rfl) (by first|(dsimp only [Act.put];done)|(dsimp only [Act.put];first|rfl|(simp [*];done)|(simp [*,ptr];done)))
    ·refine (rats_calls C cc c wq (HP.out.gc.ext (HB4.out.trans (HE.out.mono HB4.out.size))) (by omega) H7.out).mono ?_
     rintro e w2 ⟨v2,rfl,hv2,hb2⟩
     exact hK _ _ _ (mv_plain hb2 hv2 rfl) (by first|(dsimp only [Act.put];done)|(dsimp only [Act.put];first|rfl|(simp [*];done)|(simp [*,ptr];done)))
   case r7c4 =>
    intro xx wz hE hG hA
    have e2:xx 21=_:=hG 2 _ rfl
    have g3:=hG 3 _ rfl
    have g6:=hG 6 _ rfl
    have hrb:RatsX wz _ b.length (fun i=>(nth b i:Rat)):=g3
    have hrc:RatsX wz _ c.length (fun i=>(nth c i:Rat)):=g6
    have HE:=hid hE;have HRB:=hid hrb;have HRC:=hid hrc
    clear hG hA hE g3 g6 hrb hrc
    obtain ⟨vB,hvB⟩:∃ v,xx 22=v:=⟨_,rfl⟩
    obtain ⟨vC,hvC⟩:∃ v,xx 25=v:=⟨_,rfl⟩
    rw [hvB] at HRB;rw [hvC] at HRC
    have HMN:=hid (exMin_calls (.slice A3 a.length c3) vB vC c.length a.length (qA a) (qB b) (qB c) wz (HROW.out.ext HE.out) (by rw [←H4.out];exact HRB.out) HRC.out (by omega) (by omega) HSM.out HC1.out)
    refine tail_one (i:=7) (by kernel_rfl) rfl ?_
    intro K hK
    go_simp
    refine HMN.out.mono ?_;rintro e w5 ⟨hres,hb5⟩
    have HB5:=hid (HB4.out.trans ((HE.out.trans (hb5.mono HE.out.size)).mono HB4.out.size))
    have hbl:=HK4.out.ext (HE.out.trans (hb5.mono HE.out.size))
    have HBL:=hid hbl
    have hdl:=hbl.dull (fun x hx=>by
     simp only [List.mem_cons,List.not_mem_nil,or_false] at hx
     rcases hx with rfl|rfl|rfl<;>exact ⟨fun _ e=>(by cases e),fun _ e=>(by cases e),fun _ e=>(by cases e)⟩)
    have HDL:=hid hdl
    have hrw:w.heap.size≤rp:=by have:=HRP.out;have:=HPP.out;omega
    have HRW:=hid hrw
    have hfin:∀ st x y,Below w.heap.size w (((w5.setCell ⟨rp,0,none⟩ st).setCell ⟨rp,1,none⟩ x).setCell ⟨rp,2,none⟩ y):=fun st x y=>((HB5.out.setCell (p:=⟨rp,0,none⟩) HRW.out _).setCell (p:=⟨rp,1,none⟩) HRW.out _).setCell (p:=⟨rp,2,none⟩) HRW.out _
    have hbt:∀ st x y,But rp w5 (((w5.setCell ⟨rp,0,none⟩ st).setCell ⟨rp,1,none⟩ x).setCell ⟨rp,2,none⟩ y):=fun st x y=>((((But.refl rp w5).set 0 _).set 1 _).set 2 _)
    have hall:∀ st x y,e=.returned (.agg #[st,x,y])→(∃ k,st=.int .i64 k)→(∃ A n c,x=.slice A n c)→(∃ A n c,y=.slice A n c)→MinRes (qA a) (qB b) (qB c) c.length a.length w5 e→MinRes (qA a) (qB b) (qB c) c.length a.length (((w5.setCell ⟨rp,0,none⟩ st).setCell ⟨rp,1,none⟩ x).setCell ⟨rp,2,none⟩ y) e:=by
     intro st x y _ _ _ _ hm
     rcases hm with ⟨v,q,h1,h2,h3,h4⟩|⟨v,q,h1,h2,h3,h4⟩|⟨u,v,q,r,h1,h2,h3,h4,h5,h6⟩
     ·exact .inl ⟨v,q,h1,h2.keep HDL.out (hbt _ _ _),h3,h4⟩
     ·exact .inr (.inl ⟨v,q,h1,h2.keep HDL.out (hbt _ _ _),h3,h4⟩)
     ·exact .inr (.inr ⟨u,v,q,r,h1,h2.keep HDL.out (hbt _ _ _),h3.keep HDL.out (hbt _ _ _),h4,h5,h6⟩)
    obtain ⟨st,x,y,rfl,hst,hx,hy⟩:∃ st x y,e=.returned (.agg #[st,x,y])∧(∃ k,st=.int .i64 k)∧(∃ A n c,x=.slice A n c)∧(∃ A n c,y=.slice A n c):=by
     rcases hres with ⟨v,q,h1,h2,h3,h4⟩|⟨v,q,h1,h2,h3,h4⟩|⟨u,v,q,r,h1,h2,h3,h4,h5,h6⟩
     ·obtain ⟨A,c,e,-⟩:=h2;exact ⟨_,_,_,h1,⟨_,rfl⟩,⟨_,_,_,rfl⟩,⟨_,_,_,e⟩⟩
     ·obtain ⟨A,c,e,-⟩:=h2;exact ⟨_,_,_,h1,⟨_,rfl⟩,⟨_,_,_,e⟩,⟨_,_,_,rfl⟩⟩
     ·obtain ⟨A,c,e,-⟩:=h2;obtain ⟨A2,c2,e2,-⟩:=h3;exact ⟨_,_,_,h1,⟨_,rfl⟩,⟨_,_,_,e⟩,⟨_,_,_,e2⟩⟩
    have HF:=hid (hall st x y rfl hst hx hy hres);have HFB:=hid (hfin st x y)
    have p0:=hbl.cell 0 (by simp)
    have p1:=hbl.cell 1 (by simp)
    have p2:=hbl.cell 2 (by simp)
    have f0:=hbl.free 0
    have f1:=hbl.free 1
    have f2:=hbl.free 2
    have bl3:=((hbl.set 0 st).set 1 x).set 2 y
    have q0:=bl3.cell 0 (by simp)
    have q1:=bl3.cell 1 (by simp)
    have q2:=bl3.cell 2 (by simp)
    simp only [List.getElem_cons_zero,List.getElem_cons_succ,List.set_cons_zero,List.set_cons_succ] at p0 p1 p2 q0 q1 q2
    obtain ⟨ks,rfl⟩:=hst
    obtain ⟨Ax,nx,cx,rfl⟩:=hx
    obtain ⟨Ay,ny,cy,rfl⟩:=hy
    clear hall hfin hbt hbl hdl bl3 hres hb5 HMN hrw
    refine hK _ _ ?_
    clear hK
    (refine tail_one (i:=8) (by kernel_rfl) rfl ?_;intro K hK;go_simp;refine hK _ _ ?_;clear hK)
    refine wpAny_done (by kernel_rfl) ?_ _
    go_wp2
    (try simp only [Exit.inBlock,Exit.then])
    refine bodyPost_ret (v:=.agg #[.int .i64 ks,.slice Ax nx cx,.slice Ay ny cy]) (by simp [results,Tryz.results125,go_sem,q0,q1,q2]) rfl ⟨HF.out,HFB.out⟩
end
end Go.Proofs.YtkljafmdbajfeaaGreatDoor
