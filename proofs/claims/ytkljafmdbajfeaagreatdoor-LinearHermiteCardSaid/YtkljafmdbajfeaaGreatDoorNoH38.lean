/- linear.ending.of: a program's end, if it is what is asked for. -/
import Derived.Test.YtkljafmdbajfeaaGreatDoorNoH10
import Derived.Test.YtkljafmdbajfeaaGreatDoorNoH23
import Derived.Test.YtkljafmdbajfeaaGreatDoorNoH37
namespace Go.Proofs.YtkljafmdbajfeaaGreatDoor
set_option linter.unusedVariables false
set_option linter.unusedSimpArgs false
open Go.Lib (hid)
section
open Go.RowKit Go.ChangeMaps
open Lp (Tab EndEmpty EndFree EndFound)
def EndQ (A:Tab) (b c:Nat→Rat) (n m:Nat) (s:Nat) (x y:Nat→Rat):Prop :=
 (s=0∧EndFound A b c n m x y∧DenB n x∧DenB m y)∨(s=1∧EndEmpty A b n m y∧DenB m y)∨(s=2∧EndFree A b c n m x∧DenB n x)
theorem MinRes.endQ {A:Tab} {b c:Nat→Rat} {n m:Nat} {w:World} {e:Ending} (h:MinRes A b c n m w e):∃ (s:Nat) (x y:Nat→Rat) (A1:Option Addr) (n1 c1:Nat) (A2:Option Addr) (n2 c2:Nat),e=.returned (.agg #[.int .i64 s,.slice A1 n1 c1,.slice A2 n2 c2])∧s<3∧EndQ A b c n m s x y ∧
 (s≠1→RatsX w (.slice A1 n1 c1) n x)∧(s≠2→RatsX w (.slice A2 n2 c2) m y):=by
 rcases h with ⟨v,y,rfl,h2,h3,h4⟩|⟨v,x,rfl,h2,h3,h4⟩|⟨u,v,x,y,rfl,h2,h3,h4,h5,h6⟩
 ·obtain ⟨A',c',rfl,-⟩:=id h2
  exact ⟨1,fun _=>0,y,_,_,_,_,_,_,rfl,by omega,.inr (.inl ⟨rfl,h3,h4⟩),fun h=>absurd rfl h,fun _=>h2⟩
 ·obtain ⟨A',c',rfl,-⟩:=id h2
  exact ⟨2,x,fun _=>0,_,_,_,_,_,_,rfl,by omega,.inr (.inr ⟨rfl,h3,h4⟩),fun _=>h2,fun h=>absurd rfl h⟩
 ·obtain ⟨A',c',rfl,-⟩:=id h2
  obtain ⟨A2',c2',rfl,-⟩:=id h3
  exact ⟨0,x,y,_,_,_,_,_,_,rfl,by omega,.inl ⟨rfl,h4,h5,h6⟩,fun _=>h2,fun _=>h3⟩
def nilPt:Value:=.agg #[.slice none 0 0,.int .i64 0]
def OfPost (a:List (List Int)) (b c:List Int) (st:Nat) (o:Nat→Int) (kx:Bool) (w w':World) (e:Ending):Prop :=
 (progOk a b c=false∧e=.returned (.tuple #[nilPt,.int .i64 2])) ∨
 (progOk a b c=true∧∃ (s:Nat) (x y:Nat→Rat),s<3∧EndQ (qA a) (qB b) (qB c) c.length a.length s x y ∧
   ((s≠st∧e=.returned (.tuple #[nilPt,.int .i64 (o s)])) ∨
    (s=st∧∃ g xs d,e=.returned (.tuple #[.agg #[.slice (some ⟨g,0,none⟩) (if kx then c.length else a.length) (if kx then c.length else a.length),.int .i64 d],.int .i64 0])∧w.heap.size≤g∧IBlk w' g xs∧PtOf xs d (if kx then c.length else a.length) (if kx then x else y))))
def OfC (rp:Nat) (wx:World) (_:List Value) (w:World):Prop:=But rp wx w∧Blk w rp [.slice none 0 0,.int .i64 0] 29
set_option maxRecDepth 100000 in
set_option maxHeartbeats 4000000 in
theorem of_any (A B C:Option Addr) (ca cb cc:Nat) (a:List (List Int)) (b c:List Int) (st:Nat) (o:Nat→Int) (kx:Bool) (F:Nat) (w:World) (h:Prog3 w A B C a b c) (hst:st<3) (hk1:kx=true→st≠1) (hk2:kx=false→st≠2)
 (hEn:∀ args w,(callFunc F args).run Tryz.prog w=.ok (.enter F args) w)
 (hF:∀ (W:World) (s:Value) (A1:Option Addr) (n1 c1:Nat) (A2:Option Addr) (n2 c2:Nat),Calls Tryz.prog F #[.agg #[s,.slice A1 n1 c1,.slice A2 n2 c2]] W fun e w'=>e=.returned (if kx then .slice A1 n1 c1 else .slice A2 n2 c2)∧Below W.heap.size W w') :
 Calls Tryz.prog 65 #[.agg #[.int .i64 st,.int .i64 (o 0),.int .i64 (o 1),.int .i64 (o 2),.func (.func F) #[] #[]],.agg #[.slice A a.length ca,.slice B b.length cb,.slice C c.length cc]] w fun e w'=>OfPost a b c st o kx w w' e∧Below w.heap.size w w':=by
 have HEn:=hid hEn
 clear hEn
 have HF:=hid hF;have HK1:=hid hk1;have HK2:=hid hk2
 clear hF hk1 hk2
 obtain ⟨wa,hwa⟩:∃ wa,wa=w.alloc (.cells #[.int .i64 st,.int .i64 (o 0),.int .i64 (o 1),.int .i64 (o 2),.func (.func F) #[] #[]] 87 (0,0)):=⟨_,rfl⟩
 obtain ⟨wb,hwb⟩:∃ wb,wb=wa.alloc (.cells #[.slice A a.length ca,.slice B b.length cb,.slice C c.length cc] 25 (0,0)):=⟨_,rfl⟩
 obtain ⟨wc,hwc⟩:∃ wc,wc=wb.alloc (.cells #[.slice none 0 0,.int .i64 0] 29 (0,0)):=⟨_,rfl⟩
 have ba:Blk wa w.heap.size [.int .i64 st,.int .i64 (o 0),.int .i64 (o 1),.int .i64 (o 2),.func (.func F) #[] #[]] 87:=by rw [hwa];exact Blk.new _ _ _
 have bb:Blk wb wa.heap.size [.slice A a.length ca,.slice B b.length cb,.slice C c.length cc] 25:=by rw [hwb];exact Blk.new _ _ _
 have bc:Blk wc wb.heap.size [.slice none 0 0,.int .i64 0] 29:=by rw [hwc];exact Blk.new _ _ _
 have sa:wa.heap.size=w.heap.size+1:=by rw [hwa];simp
 have sb:wb.heap.size=w.heap.size+1+1:=by rw [hwb];simp [sa]
 have e1:Below w.heap.size w wa:=by rw [hwa];exact (Below.refl _ _).alloc (Nat.le_refl _) _
 have e2:Below w.heap.size w wb:=by rw [hwb];exact e1.alloc (by omega) _
 have e3:Below w.heap.size w wc:=by rw [hwc];exact e2.alloc (by omega) _
 have bba:Below wa.heap.size wa wb:=by rw [hwb];exact (Below.refl _ _).alloc (Nat.le_refl _) _
 have bcb:Below wb.heap.size wb wc:=by rw [hwc];exact (Below.refl _ _).alloc (Nat.le_refl _) _
 have ba3:=(ba.ext bba).ext bcb
 have bb3:=bb.ext bcb
 have hval:=valid_calls A B C ca cb cc a b c wc (h.ext e3)
 have HP:=hid (h.ext e3);have HE3:=hid e3;have HV:=hid hval;have HA3:=hid ba3;have HB3:=hid bb3;have HC3:=hid bc;have SA:=hid sa;have SB:=hid sb
 have p0:=bb3.cell 0 (by simp)
 have p1:=bb3.cell 1 (by simp)
 have p2:=bb3.cell 2 (by simp)
 simp only [List.getElem_cons_zero,List.getElem_cons_succ] at p0 p1 p2
 rw [sa] at p0 p1 p2
 rw [hwc,hwb,hwa] at p0 p1 p2
 go_enter Tryz.func65,Tryz.ntmps65
 clear h hval e1 e2 e3 bba bcb ba3 bb3 ba bb bc sa sb
 go_wp2_with fail
 rw [←hwa,←hwb,←hwc]
 clear p0 p1 p2 hwa hwb hwc
 obtain ⟨bp,hbp⟩:∃ bp,w.heap.size=bp:=⟨_,rfl⟩
 obtain ⟨pp,hpp⟩:∃ pp,w.heap.size+1=pp:=⟨_,rfl⟩
 obtain ⟨rp,hrp⟩:∃ rp,w.heap.size+1+1=rp:=⟨_,rfl⟩
 rw [hbp] at HA3
 rw [SA.out,hpp] at HB3
 rw [SB.out,hrp] at HC3
 rw [hrp,hpp,hbp]
 have hwr:w.heap.size≤rp:=by omega
 have hbr:bp≠rp:=by omega
 have hpr:pp≠rp:=by omega
 have HWR:=hid hwr;have HBR:=hid hbr;have HPR:=hid hpr
 clear hbp hpp hrp hwr hbr hpr SA SB
 refine HV.out.mono ?_;rintro e w1 ⟨rfl,hb1⟩
 have HB1:=hid (HE3.out.trans (hb1.mono HE3.out.size))
 have HA4:=hid (HA3.out.ext hb1);have HB4:=hid (HB3.out.ext hb1);have HC4:=hid (HC3.out.ext hb1)
 have HP4:=hid (HP.out.ext hb1)
 clear hb1 HV HA3 HB3 HC3 HP HE3
 cases hok:progOk a b c with
 | false =>
   have HOK:=hid hok
   clear hok
   have c0:=HC4.out.cell 0 (by simp)
   have c1:=HC4.out.cell 1 (by simp)
   have f0:=HC4.out.free 0
   have f1:=HC4.out.free 1
   simp only [List.getElem_cons_zero,List.getElem_cons_succ] at c0 c1
   have bl3:=(HC4.out.set 0 (.slice none 0 0)).set 1 (.int .i64 0)
   have q0:=bl3.cell 0 (by simp)
   have q1:=bl3.cell 1 (by simp)
   simp only [List.getElem_cons_zero,List.getElem_cons_succ,List.set_cons_zero,List.set_cons_succ] at q0 q1
   have HBF:=hid ((HB1.out.setCell (p:=⟨rp,0,none⟩) HWR.out (.slice none 0 0)).setCell (p:=⟨rp,1,none⟩) HWR.out (.int .i64 0))
   clear bl3
   go_wp2
   (try simp only [Exit.inBlock,Exit.then])
   refine bodyPost_ret (v:=.tuple #[nilPt,.int .i64 2]) (by simp [results,Tryz.results65,go_sem,q0,q1,nilPt]) rfl ⟨.inl ⟨HOK.out,rfl⟩,HBF.out⟩
 | true =>
   have HSO:=hid (solvedL_calls A B C ca cb cc a b c w1 HP4.out hok)
   have HOK:=hid hok
   clear hok
   have p0:=HB4.out.cell 0 (by simp)
   have p1:=HB4.out.cell 1 (by simp)
   have p2:=HB4.out.cell 2 (by simp)
   simp only [List.getElem_cons_zero,List.getElem_cons_succ] at p0 p1 p2
   go_wp2_with fail
   refine HSO.out.mono ?_;rintro e w2 ⟨hres,hb2⟩
   obtain ⟨s,x,y,A1,n1,c1,A2,n2,c2,rfl,hs3,hq,hx,hy⟩:=hres.endQ
   have HB2:=hid (HB1.out.trans (hb2.mono HB1.out.size))
   have HA5:=hid (HA4.out.ext hb2);have HC5:=hid (HC4.out.ext hb2)
   have HX:=hid hx;have HY:=hid hy;have HQ:=hid hq
   clear hres hb2 hx hy hq HSO p0 p1 p2 HB4 HA4 HC4 HB1 HP4
   have hd0:=HA5.out.cell 0 (by simp)
   simp only [List.getElem_cons_zero] at hd0
   obtain ⟨qp,hqp⟩:∃ qp,w2.heap.size=qp:=⟨_,rfl⟩
   obtain ⟨w4,hw4⟩:∃ w4,w2.alloc (.cells #[.int .i64 s,.slice A1 n1 c1,.slice A2 n2 c2] 84 (0,0))=w4:=⟨_,rfl⟩
   have hkr4:Blk w4 qp [.int .i64 s,.slice A1 n1 c1,.slice A2 n2 c2] 84:=by
    rw [←hw4,←hqp];exact Blk.new _ _ _
   have hb24:Below w2.heap.size w2 w4:=by
    rw [←hw4];exact (Below.refl _ _).alloc (Nat.le_refl _) _
   have j0:=hkr4.cell 0 (by simp)
   have j1:=hkr4.cell 1 (by simp)
   have j2:=hkr4.cell 2 (by simp)
   simp only [List.getElem_cons_zero,List.getElem_cons_succ] at j0 j1 j2
   have a0:=(HA5.out.ext hb24).cell 0 (by simp)
   have a4:=(HA5.out.ext hb24).cell 4 (by simp)
   simp only [List.getElem_cons_zero,List.getElem_cons_succ] at a0 a4
   have HA6:=hid (HA5.out.ext hb24);have HC6:=hid (HC5.out.ext hb24)
   have HKR:=hid hkr4;have HB24:=hid hb24
   have HQP:=hid hqp
   have hne:qp≠rp:=by have:=HC5.out.lt;omega
   have HNE:=hid hne
   have HB6:=hid (HB2.out.trans (hb24.mono HB2.out.size))
   clear hkr4 hb24 hne hd0
   have J:=hid (And.intro j0 (And.intro j1 j2));have AA:=hid (And.intro a0 a4)
   rw [←hw4] at j0 j1 j2 a0 a4
   rw [←hqp] at j0 j1 j2
   have HW4:=hid hw4
   clear hqp hw4
   by_cases hss:s=st
   ·have he:((s:Int) == (st:Int))=true:=by simp [hss]
    have HSS:=hid hss
    clear hss
    have hEn:=HEn.out
    go_wp2_with fail
    clear hEn
    refine (HF.out _ _ _ _ _ _ _ _).mono ?_;rintro e w5 ⟨rfl,hb5⟩
    rw [HW4.out] at hb5
    clear j0 j1 j2 a0 a4 he
    have HB5:=hid (HB6.out.trans (hb5.mono HB6.out.size));have HC7:=hid (HC6.out.ext hb5)
    have hpt:RatsX w4 (if kx then .slice A1 n1 c1 else .slice A2 n2 c2) (if kx then c.length else a.length) (if kx then x else y)∧DenB (if kx then c.length else a.length) (if kx then x else y):=by
     have h1:=HSS.out
     have hq:=HQ.out
     cases kx with
     | true =>
       have hs1:s≠1:=fun e=>HK1.out rfl (by omega)
       refine ⟨(HX.out hs1).ext HB24.out,?_⟩
       rcases hq with ⟨-,-,h,-⟩|⟨e,-⟩|⟨-,-,h⟩
       ·exact h
       ·exact absurd e hs1
       ·exact h
     | false =>
       have hs1:s≠2:=fun e=>HK2.out rfl (by omega)
       refine ⟨(HY.out hs1).ext HB24.out,?_⟩
       rcases hq with ⟨-,-,-,h⟩|⟨-,-,h⟩|⟨e,-⟩
       ·exact h
       ·exact h
       ·exact absurd e hs1
    have hmn:(if kx then c.length else a.length)≤1000:=by
     obtain ⟨h1,h2,h3,-⟩:=progOk.parts HOK.out
     cases kx<;>simp<;>omega
    obtain ⟨vv,hvv⟩:∃ vv,(if kx then Value.slice A1 n1 c1 else Value.slice A2 n2 c2)=vv:=⟨_,rfl⟩
    rw [hvv] at hpt ⊢
    have HPD:=hid (pointed_calls vv (if kx then c.length else a.length) (if kx then x else y) w5 (hpt.1.ext hb5) hmn hpt.2)
    obtain ⟨kk,hkk⟩:∃ kk,(if kx then c.length else a.length)=kk:=⟨_,rfl⟩
    have HKK:=hid hkk
    rw [hkk] at HPD
    clear hpt hmn hb5 hvv hkk HF
    go_wp2_with fail
    refine HPD.out.mono ?_;rintro e w6 ⟨g,xs,d,rfl,hg,hI,hpt,hb6⟩
    have hc6:=HC7.out.ext hb6
    have c0:=hc6.cell 0 (by simp)
    have c1':=hc6.cell 1 (by simp)
    have f0:=hc6.free 0
    have f1:=hc6.free 1
    simp only [List.getElem_cons_zero,List.getElem_cons_succ] at c0 c1'
    have hgr:rp<g:=by have:=HC7.out.lt;omega
    have hbt:But rp w6 ((w6.setCell ⟨rp,0,none⟩ (.slice (some ⟨g,0,none⟩) kk kk)).setCell ⟨rp,1,none⟩ (.int .i64 d)):=((But.refl rp w6).set 0 _).set 1 _
    have HIF:=hid (hI.but hbt (by omega))
    have HBF:=hid ((HB5.out.trans (hb6.mono HB5.out.size)).trans (hbt.below HWR.out (by have:=HB5.out.size;have:=hb6.size;omega)))
    have bl3:=(hc6.set 0 (.slice (some ⟨g,0,none⟩) kk kk)).set 1 (.int .i64 d)
    have q0:=bl3.cell 0 (by simp)
    have q1:=bl3.cell 1 (by simp)
    simp only [List.getElem_cons_zero,List.getElem_cons_succ,List.set_cons_zero,List.set_cons_succ] at q0 q1
    have HPT:=hid hpt
    have HGW:Hid (w.heap.size≤g):=hid (by have:=HB5.out.size;omega)
    clear hbt bl3 hc6 hI hb6 hpt hg HPD
    go_wp2
    (try simp only [Exit.inBlock,Exit.then])
    refine bodyPost_ret (v:=.tuple #[.agg #[.slice (some ⟨g,0,none⟩) kk kk,.int .i64 d],.int .i64 0]) (by simp [results,Tryz.results65,go_sem,q0,q1]) rfl ⟨.inr ⟨HOK.out,s,x,y,hs3,HQ.out,.inr ⟨HSS.out,g,xs,d,by rw [HKK.out],HGW.out,HIF.out,by rw [HKK.out];exact HPT.out⟩⟩,HBF.out⟩
   ·have he:((s:Int) == (st:Int))=false:=by simp;omega
    have HSS:=hid hss
    clear hss
    go_wp2_with fail
    rw [HQP.out,HW4.out]
    clear j0 j1 j2 a0 a4 he
    obtain ⟨j0,j1,j2⟩:=J.out
    have hoc:w4.cell? ⟨bp,1+s,none⟩=some (.int .i64 (o s)):=by
     have h1:s=0∨s=1∨s=2:=by omega
     rcases h1 with rfl|rfl|rfl
     ·exact HA6.out.cell 1 (by simp)
     ·exact HA6.out.cell 2 (by simp)
     ·exact HA6.out.cell 3 (by simp)
    have hs31:(s:Int)<3:=by omega
    have HCX:Hid (∀ w',But rp w4 w'→w'.cell? ⟨qp,0,none⟩=some (.int .i64 s)∧w'.cell? ⟨bp,1+s,none⟩=some (.int .i64 (o s))):=hid fun w' hb=>⟨(World.cell?_of_block (a:=⟨qp,0,none⟩) (hb.block qp (cell_lt j0) HNE.out)).trans j0,(World.cell?_of_block (a:=⟨bp,1+s,none⟩) (hb.block bp (cell_lt hoc) HBR.out)).trans hoc⟩
    clear j0 j1 j2 hoc
    refine wp_region_stores (w0:=w4) 8 [18,19,20,21,22,23,100006,5]
     [some (.agg #[.slice none 0 0,.int .i64 0]),some (.pointer (some ⟨qp,0,none⟩)),some (.int .i64 s),some (.pointer (some ⟨bp,1,none⟩)),some (.pointer (some ⟨bp,1+s,none⟩)),some (.int .i64 (o s)),none,some (.int .i64 (o s))]
     [6] [] (fun _ _ _=>True) (fun _ _=>True) (OfC rp w4) (by kernel_rfl) (by kernel_rfl) (by kernel_rfl) (by exact Nat.le_of_ble_eq_true rfl) (F:=?cFr5) ?r5c1 (fun _ _ _ _ h _=>h) (fun _ _ _ _ h _=>h) (fun l w1 w2 h hb=>⟨h.1.ext hb,h.2.ext hb⟩) (⟨(But.refl rp w4).ext (drewN_below w4 1),HC6.out⟩) ?r5c3 ?r5c4
    case r5c1 =>
     intro x
     simp only [fullF,Act.put,List.setIfInBounds_toArray,List.set_cons_zero,List.set_cons_succ]
     rfl
    case r5c3 =>
     refine ⟨?_,?_,?_,?_,?_,?_,?_,?_,trivial⟩
     all_goals
      intro xx wq kk hkk hC hcon hfl hlk hwt K hK
      try have e0:xx 18=_:=hcon 0 _ (by decide) rfl
      try have e1:xx 19=_:=hcon 1 _ (by decide) rfl
      try have e2:xx 20=_:=hcon 2 _ (by decide) rfl
      try have e3:xx 21=_:=hcon 3 _ (by decide) rfl
      try have e4:xx 22=_:=hcon 4 _ (by decide) rfl
      try have e5:xx 23=_:=hcon 5 _ (by decide) rfl
      try have e7:xx 5=_:=hcon 7 _ (by decide) rfl
      have HC:=hid hC;clear hC
      have HL:=hid hlk;clear hlk
      have HW:=hid hwt;clear hwt
      clear hcon hfl
      go_simp
      try (refine hK _ _ _ ⟨rfl,rfl⟩ ?_;dsimp only [Act.put];first|done|rfl|(simp [*];done))
     ·have hC:=HC.out
      have h3:=(HCX.out _ hC.1).1
      go_simp
      exact hK _ _ _ ⟨rfl,rfl⟩ (by first|(dsimp only [Act.put];done)|(dsimp only [Act.put];first|rfl|(simp [*];done)|(simp [*,ptr];done)))
     ·have hC:=HC.out
      have h3:=(HCX.out _ hC.1).2
      go_simp
      exact hK _ _ _ ⟨rfl,rfl⟩ (by first|(dsimp only [Act.put];done)|(dsimp only [Act.put];first|rfl|(simp [*];done)|(simp [*,ptr];done)))
     ·have hC:=HC.out
      obtain rfl:=HL.out 0 rfl
      have hC:(OfC rp w4) [] wq:=HC.out
      have c0:=hC.2.cell 0 (by simp)
      have c1:=hC.2.cell 1 (by simp)
      have f0:=hC.2.free 0
      have f1:=hC.2.free 1
      simp only [List.getElem_cons_zero,List.getElem_cons_succ] at c0 c1
      go_simp
      exact hK undef _ _ (MGood.link rfl rfl ⟨((hC.1.set 0 _).set 1 _),(hC.2.set 0 _).set 1 _⟩ trivial) (by first|(dsimp only [Act.put];done)|(dsimp only [Act.put];first|rfl|(simp [*];done)|(simp [*,ptr];done)))
    case r5c4 =>
     intro xx wz hG hC
     have e0:xx 18=_:=hG 0 _ (by decide) rfl
     have e1:xx 19=_:=hG 1 _ (by decide) rfl
     have e2:xx 20=_:=hG 2 _ (by decide) rfl
     have e3:xx 21=_:=hG 3 _ (by decide) rfl
     have e4:xx 22=_:=hG 4 _ (by decide) rfl
     have e5:xx 23=_:=hG 5 _ (by decide) rfl
     have e7:xx 5=_:=hG 7 _ (by decide) rfl
     have hC:(OfC rp w4) [xx 100006] wz:=hC
     have q0:=hC.2.cell 0 (by simp)
     have q1:=hC.2.cell 1 (by simp)
     simp only [List.getElem_cons_zero,List.getElem_cons_succ] at q0 q1
     have HBF:=hid (HB6.out.trans (hC.1.below HWR.out HB6.out.size))
     clear hC hG
     go_wp2
     (try simp only [Exit.inBlock,Exit.then])
     refine bodyPost_ret (v:=.tuple #[nilPt,.int .i64 (o s)]) (by simp [results,Tryz.results65,go_sem,q0,q1,nilPt,e7]) rfl ⟨.inr ⟨HOK.out,s,x,y,hs3,HQ.out,.inl ⟨HSS.out,rfl⟩⟩,HBF.out⟩
end
section
open Go.RowKit Go.ChangeMaps
structure TabOk (g:Nat) (o:Nat→Int) (w:World):Prop where
 c0:w.cell? ⟨g,0,none⟩=some (.int .i64 (o 0))
 c1:w.cell? ⟨g,1,none⟩=some (.int .i64 (o 1))
 c2:w.cell? ⟨g,2,none⟩=some (.int .i64 (o 2))
theorem TabOk.ext {g:Nat} {o:Nat→Int} {w w':World} (h:TabOk g o w) (hb:Below w.heap.size w w'):TabOk g o w':=by
 have hc:∀ k x,w.cell? ⟨g,k,none⟩=some x→w'.cell? ⟨g,k,none⟩=some x:=fun k x e=>(hb.cell (p:=⟨g,k,none⟩) (cell_lt e)).trans e
 exact ⟨hc _ _ h.c0,hc _ _ h.c1,hc _ _ h.c2⟩
def costsO (s:Nat):Int:=if s=0 then 0 else if s=1 then 10 else 11
theorem enter_at {f:FuncId} {fn:Func} {c:Code} (hf:Tryz.prog.funcs[f]? = some fn) (hname:(fn.name == "runtime.NumGoroutine")=false) (hb:fn.body=some c) (args:Array Value) (w:World):(callFunc f args).run Tryz.prog w=.ok (.enter f args) w:=by
 have h1:fn.name≠"runtime.NumGoroutine":=by simpa using hname
 simp [callFunc,hf,h1,hb]
set_option maxRecDepth 100000 in
set_option maxHeartbeats 1000000 in
theorem minimum_take (W:World) (s:Value) (A1:Option Addr) (n1 c1:Nat) (A2:Option Addr) (n2 c2:Nat):Calls Tryz.prog 64 #[.agg #[s,.slice A1 n1 c1,.slice A2 n2 c2]] W fun e w'=>e=.returned (if true then .slice A1 n1 c1 else .slice A2 n2 c2)∧Below W.heap.size W w':=by
 have hb:=Blk.new W [s,.slice A1 n1 c1,.slice A2 n2 c2] 84
 have q1:=hb.cell 1 (by simp)
 simp only [List.getElem_cons_zero,List.getElem_cons_succ] at q1
 have hA:Below W.heap.size W (W.alloc (.cells #[s,.slice A1 n1 c1,.slice A2 n2 c2] 84 (0,0))):=(Below.refl _ _).alloc (Nat.le_refl _) _
 have HA:=hid hA
 clear hb hA
 go_enter Tryz.func64,Tryz.ntmps64
 go_wp2
 go_ret
 exact ⟨rfl,HA.out⟩
set_option maxRecDepth 100000 in
set_option maxHeartbeats 2000000 in
theorem minimum_calls (A B C:Option Addr) (ca cb cc:Nat) (a:List (List Int)) (b c:List Int) (w:World) (h:Prog3 w A B C a b c) (hc:TabOk 0 costsO w) :
 Calls Tryz.prog 16 #[.agg #[.slice A a.length ca,.slice B b.length cb,.slice C c.length cc]] w fun e w'=>OfPost a b c 0 costsO true w w' e∧Below w.heap.size w w':=by
 have hb0:Below w.heap.size w (w.alloc (.cells #[.slice A a.length ca,.slice B b.length cb,.slice C c.length cc] 25 (0,0))):=(Below.refl _ _).alloc (Nat.le_refl _) _
 have hb1:Below w.heap.size w ((w.alloc (.cells #[.slice A a.length ca,.slice B b.length cb,.slice C c.length cc] 25 (0,0))).alloc (.cells #[.slice none 0 0,.int .i64 0] 29 (0,0))):=hb0.alloc (by simp) _
 have bk:=Blk.new (w.alloc (.cells #[.slice A a.length ca,.slice B b.length cb,.slice C c.length cc] 25 (0,0))) [.slice none 0 0,.int .i64 0] 29
 have hsz:(w.alloc (.cells #[.slice A a.length ca,.slice B b.length cb,.slice C c.length cc] 25 (0,0))).heap.size=w.heap.size+1:=by simp
 rw [hsz] at bk
 clear hsz
 obtain ⟨g0,g1,g2⟩:=hc.ext hb1
 have HOF:=hid (of_any A B C ca cb cc a b c 0 costsO true 64 _ (h.ext hb1) (by omega) (by intro h;first|decide|cases h) (by intro h;first|decide|cases h) (enter_at Tryz.func64 (by kernel_rfl) rfl) minimum_take)
 have HB1:=hid hb1;have HBK:=hid bk
 clear hb0 hb1 bk h hc
 go_enter Tryz.func16,Tryz.ntmps16
 go_wp2_with fail
 refine HOF.out.mono ?_;rintro e w2 ⟨hpost,hb2⟩
 have bl2:=HBK.out.ext hb2
 obtain ⟨rp,hrp⟩:∃ rp,w.heap.size+1=rp:=⟨_,rfl⟩
 rw [hrp] at bl2 ⊢
 have hB2:=HB1.out.trans (hb2.mono HB1.out.size)
 have hrl:=HBK.out.lt
 have hsz:=hb2.size
 have c0:=bl2.cell 0 (by simp)
 have c1:=bl2.cell 1 (by simp)
 have f0:=bl2.free 0
 have f1:=bl2.free 1
 simp only [List.getElem_cons_zero,List.getElem_cons_succ] at c0 c1
 obtain ⟨PA,PN,PC,d,k,rfl,hfin⟩:∃ (PA:Option Addr) (PN PC:Nat) (d k:Int),e=.returned (.tuple #[.agg #[.slice PA PN PC,.int .i64 d],.int .i64 k])∧OfPost a b c 0 costsO true w ((w2.setCell ⟨rp,0,none⟩ (.slice PA PN PC)).setCell ⟨rp,1,none⟩ (.int .i64 d)) e:=by
  rcases hpost with ⟨h1,h2⟩|⟨h1,s,x,y,h3,h4,h5⟩
  ·exact ⟨none,0,0,0,2,h2,.inl ⟨h1,h2⟩⟩
  ·rcases h5 with ⟨h5,h6⟩|⟨h5,g,xs,d,h6,h7,h8,h9⟩
   ·exact ⟨none,0,0,0,_,h6,.inr ⟨h1,s,x,y,h3,h4,.inl ⟨h5,h6⟩⟩⟩
   ·refine ⟨_,_,_,d,0,h6,.inr ⟨h1,s,x,y,h3,h4,.inr ⟨h5,g,xs,d,h6,Nat.le_trans HB1.out.size h7,h8.but (((But.refl rp w2).set 0 _).set 1 _) (by omega),h9⟩⟩⟩
 have bl3:=(bl2.set 0 (.slice PA PN PC)).set 1 (.int .i64 d)
 have q0:=bl3.cell 0 (by simp)
 have q1:=bl3.cell 1 (by simp)
 simp only [List.getElem_cons_zero,List.getElem_cons_succ,List.set_cons_zero,List.set_cons_succ] at q0 q1
 have HBF:=hid ((hB2.setCell (p:=⟨rp,0,none⟩) (by show _≤rp;omega) (.slice PA PN PC)).setCell (p:=⟨rp,1,none⟩) (by show _≤rp;omega) (.int .i64 d))
 have HFN:=hid hfin
 clear hpost hb2 bl2 bl3 hB2 hfin HOF HBK hrl hsz hrp
 go_wp2
 (try simp only [Exit.inBlock,Exit.then])
 refine bodyPost_ret (v:=.tuple #[.agg #[.slice PA PN PC,.int .i64 d],.int .i64 k]) (by simp [results,Tryz.results16,go_sem,q0,q1]) rfl ⟨HFN.out,HBF.out⟩
end
section
open Go.RowKit
theorem all_range_true {n:Nat} {p:Nat→Bool} (h:∀ i,i<n→p i=true):(List.range n).all p=true:=List.all_eq_true.2 fun i hi=>h i (List.mem_range.1 hi)
theorem all_range_false {n i:Nat} {p:Nat→Bool} (hi:i<n) (h:p i=false):(List.range n).all p=false:=by
 cases e:(List.range n).all p with
 | false=>rfl
 | true=>have:=List.all_eq_true.1 e i (List.mem_range.2 hi);rw [h] at this;cases this
end
section
open Go.RowKit
end
section
open Go.RowKit Go.ChangeMaps
end
section
open Go.RowKit
end
section
open Go.RowKit Go.ChangeMaps
end
section
open Go.RowKit
end
section
open Go.RowKit
end
section
open Go.RowKit
def fewB (a:List (List Int)) (b:List Int):Bool:=decide (a.length≤30) && ((List.range a.length).all fun i=>decide ((nrow a i).length≤30)) && decide (b.length≤30)
set_option maxHeartbeats 1000000 in
theorem few_calls (A B:Option Addr) (ca cb:Nat) (a:List (List Int)) (b:List Int) (w:World) (hA:Grid w A a) (hl:a.length≤maxLen) (hr:∀ r∈a,r.length≤maxLen) (hb:b.length≤maxLen) :
 Calls Tryz.prog 29 #[.slice A a.length ca,.slice B b.length cb] w fun e w'=>e=.returned (.bool (fewB a b))∧w'=w:=by
 unfold maxLen at hl hb
 have HR:=hid hr
 clear hr
 go_enter Tryz.func29,Tryz.ntmps29
 go_wp2
 go_loop [5] (fun i=>∃ k:Nat,k≤a.length∧i=.int .i64 k∧k≤30∧∀ j,j<k→(nrow a j).length≤30) (fun i=>a.length-(intOf i).toNat)
 case atStart=>exact ⟨0,Nat.zero_le _,rfl,Nat.zero_le _,fun j hj=>by omega⟩
 case round =>
  obtain ⟨k,hk,rfl,h30,hall⟩:=hrel
  have HA:=hid hall;clear hall
  by_cases hlt:k<a.length
  ·obtain ⟨bb,o,R,cR,rfl,hrc,-,-⟩:=hA k hlt
   have hk1:(k:Int)<a.length:=by omega
   have hrl:=HR.out _ (nrow_mem hlt)
   unfold maxLen at hrl
   by_cases h3:k=30
   ·have d3:decide (30≤(k:Int))=true:=decide_eq_true (by omega)
    have H3:=hid h3
    clear h3
    go_wp2
    go_ret
    exact ⟨by have:=H3.out;unfold fewB;rw [decide_eq_false (show ¬ a.length≤30 by omega)];rfl,rfl⟩
   ·have d3:decide (30≤(k:Int))=false:=decide_eq_false (by omega)
    by_cases h4:(nrow a k).length≤30
    ·have d4:decide (30<((nrow a k).length:Int))=false:=decide_eq_false (by omega)
     have H4:=hid h4
     clear h4
     go_wp2
     go_round
     case rel=>exact ⟨k+1,by omega,by go_num,by omega,fun j hj=>if e:j=k then by rw [e];exact H4.out else HA.out j (by omega)⟩
     case measure=>simp [intOf];omega
    ·have d4:decide (30<((nrow a k).length:Int))=true:=decide_eq_true (by omega)
     have H4:=hid h4
     clear h4
     go_wp2
     go_ret
     exact ⟨by unfold fewB;rw [all_range_false hlt (decide_eq_false H4.out),Bool.and_false];rfl,rfl⟩
  ·obtain rfl:k=a.length:=by omega
   have hd:decide ((b.length:Int)≤30)=decide (b.length≤30):=by rw [decide_eq_decide];omega
   have H30:=hid h30;have HD:=hid hd
   clear hd h30
   go_wp2
   go_ret
   exact ⟨by unfold fewB;rw [decide_eq_true H30.out,all_range_true fun i hi=>decide_eq_true (HA.out i hi),←HD.out];rfl,rfl⟩
end
section
open Go.RowKit
end
section
open Go.RowKit
end
section
open Go.RowKit
theorem run_app_noneI {P:Program} (w:World) (base:Nat) (t ty e:TypeId) (i:TypeInfo) (size:Nat) (ht:P.underlying t=some (.slice e)) (hi:P.info? e=some i)
 (v:Value) (n:Nat) (xs:List Value) (hown:w.ownsRow base e size v n xs) (cx:Nat) :
 (Builtin.append_ #[t,t] ty #[v,.slice none 0 cx]).run P w=.ok v w:=by
 rcases hown.2 with ⟨rfl,rfl⟩|⟨g,cap,cur,rfl,_,_,hnc,_⟩
 ·simp [Builtin.append_,run_underlying ht,sizeOf,typeInfo,hi,Builtin.lenOf,Builtin.firstCells]
 ·simp [Builtin.append_,run_underlying ht,sizeOf,typeInfo,hi,Builtin.lenOf,Builtin.firstCells,hnc,storeCells]
set_option maxRecDepth 100000 in
theorem wpList_copyI {ops:Array Oper} {rest:List Oper} {o:Oper} {a:Act} {Q:Exit→Act→World→Prop} (hgd:o.guard=none) (s x:Operand)
 (ho:o.op=.call { callee:=.builtin .append,args:=#[s,x],argTypes:=#[23,23] }) {w:World} {base g0:Nat} {X:Option Addr} {cx:Nat} {xs:List Int}
 (hs:a.eval s=.slice (some ⟨g0,0,none⟩) 0 0) (hx:a.eval x=.slice X xs.length cx) (hown:w.ownsRow base 3 1 (.slice (some ⟨g0,0,none⟩) 0 0) 0 []) (hN:Ints w X xs) (hl:xs.length≤1000) (hb:base≤w.heap.size)
 (h:∀ X' cx' w',Hid (Ints w' X' xs)→xs.length≤cx'→cx'≤maxLen→Hid (Below base w w')→wpList Tryz.prog ops Q rest (a.put o.dst (.slice X' xs.length cx')) w') :
 wpList Tryz.prog ops Q (o :: rest) a w:=by
 obtain ⟨i0,hi,hz0,hz1,hz2⟩:=info_parts infoInt
 cases X with
 | none =>
   have hL:xs=[]:=by
    cases xs with
    | nil=>rfl
    | cons n L=>obtain ⟨b,o,e,-⟩:=hN 0 (by simp);cases e
   subst hL
   refine wpList_plain hgd fun K hK=>?_
   have hrun:=run_app_noneI (P:=Tryz.prog) w base 23 o.type 3 i0 1 Tryz.underlying23 hi _ _ _ hown cx
   unfold Oper.wp execOp
   rw [List.length_nil] at hx
   simp only [ho,resolve,invoke,builtin,Sem.run_bind,Sem.run_pure,Result.andThen_ok,List.map_toArray,List.map_cons,List.map_nil,hs,hx,hrun]
   exact hK _ _ (h (some ⟨g0,0,none⟩) 0 w (hid fun i hi=>by simp at hi) (Nat.le_refl _) (Nat.zero_le _) (hid (Below.refl _ _)))
 | some ad =>
   obtain ⟨b,of,f⟩:=ad
   have hnews:∀ j u,(xs.map (Value.int .i64))[j]? = some u→w.cell? ((⟨b,of,f⟩:Addr).add j)=some u:=fun j u hu=>by
    have hj:j<xs.length:=by have:=(List.getElem?_eq_some_iff.1 hu).1;simpa using this
    obtain ⟨b',o',e,hc⟩:=hN j hj
    injection e with e;injection e with e1 e2 e3
    subst e1;subst e2;subst e3
    rw [Addr.add_lit,hc]
    simp [hj] at hu
    rw [←hu];simp [nth,hj]
   refine wpList_append_own _ hgd s x 23 ho base 3 i0 _ 1 8 Tryz.underlying23 hi hz0 hz1 hz2 rfl (by decide) _ 0 [] hs hown ⟨b,of,f⟩ xs.length cx (xs.map (Value.int .i64)) hx (by simp) hnews (fun u hu=>by obtain ⟨n,-,rfl⟩:=List.mem_map.1 hu;rfl) (by show 0+xs.length≤maxLen;exact Nat.le_trans (by omega) (show 1000≤maxLen by decide)) (by omega) hb ?_
   intro v' w' h1 hg h2
   rw [List.nil_append,Nat.zero_add] at h1
   have hbl:Below base w w':=(Below.refl base w).grown hg hb (own_block hown)
   rcases id h1.2 with ⟨e,-⟩|⟨g,cap,cur,rfl,hbg,-,hnc,hcm,-⟩
   ·exact absurd (h2.1 e).1 (by simp)
   ·obtain ⟨A,c,e,k1,k2,k3⟩:=own_ints h1
    injection e with e1 e2 e3
    subst e1;subst e3
    exact h _ _ w' (hid k3) k1 k2 (hid hbl)
end
end Go.Proofs.YtkljafmdbajfeaaGreatDoor
