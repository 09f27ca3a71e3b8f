/- A region that draws its order, whose operations make memory and calls but change nothing that another has made: one walk of each operation serves every order. -/
import Derived.RegionTactic
import Derived.Test.YtkljafmdbajfeaaGreatDoorNoH00
namespace Go.Proofs.YtkljafmdbajfeaaGreatDoor
set_option linter.unusedVariables false
set_option linter.unusedSimpArgs false
section
open Go.RowKit
structure Leaves where
 T:List Tmp
 p:List Value→World→Prop
def Leaves.at (s:Leaves) (x:Tmp→Value) (w:World):Prop:=s.p (s.T.map x) w
def leaf1 (t:Tmp) (q:Value→World→Prop):Leaves:=⟨[t],fun l w=>match l with|[v]=>q v w|_=>False⟩
theorem leaf1_at (t:Tmp) (q:Value→World→Prop) (x:Tmp→Value) (w:World):(leaf1 t q).at x w=q (x t) w:=rfl
def upd (x:Tmp→Value) (t:Option Tmp) (v:Value):Tmp→Value:=fun u=>if t=some u then v else x u
theorem upd_self (x:Tmp→Value) (t:Tmp) (v:Value):upd x (some t) v t=v:=by simp [upd]
theorem upd_ne {x:Tmp→Value} {t u:Tmp} {v:Value} (h:t≠u):upd x (some t) v u=x u:=by simp [upd,h]
def waitsOn (ops:Array Oper) (i:Nat):List Nat :=
 match ops[i]? with
 | none=>[]
 | some o=>(o.after.toList.filter fun e=>Region.binds .any e).map (·.on)
def reaches (ops:Array Oper) (m:Nat):Nat→Nat→Nat→Bool
 | 0,k,j=>(waitsOn ops k).contains j
 | n+1,k,j=>(waitsOn ops k).contains j || (List.range m).any fun i=>(waitsOn ops i).contains j && reaches ops m n k i
def laterB (ops:Array Oper) (m:Nat) (ds:List Tmp) (Ts:List (List Tmp)):Bool :=
 Region.noSelect ops && ds.length == m && decide (m≤ops.size) && decide ds.Nodup &&
 (List.range m).all (fun i=>match ops[i]? with
   | none=>false
   | some o=>o.dst == ds[i]? && (waitsOn ops i).all (fun j=>decide (j<i)) &&
      (o.looksAt ops).all (fun t=>(List.range m).all fun j=>!(ds[j]? == some t) || (waitsOn ops i).contains j) &&
      ((Ts.getD i []).all fun t=>(ds[i]? == some t) || (waitsOn ops i).any fun j=>ds[j]? == some t)) &&
 (List.range ops.size).all (fun k=>decide (k<m) || (waitsOn ops k).any (fun j=>decide (m≤j) && decide (j<ops.size)) || (List.range m).all fun j=>reaches ops m m k j)
structure LaterOk (ops:Array Oper) (m:Nat) (ds:List Tmp) (Ts:List (List Tmp)):Prop where
 sel:Region.noSelect ops=true
 len:ds.length=m
 le:m≤ops.size
 nodup:ds.Nodup
 dst:∀ i o,i<m→ops[i]? = some o→o.dst=ds[i]?
 topo:∀ i,i<m→∀ j∈waitsOn ops i,j<i
 look:∀ i o,i<m→ops[i]? = some o→∀ t∈o.looksAt ops,∀ j,j<m→ds[j]? = some t→j∈waitsOn ops i
 supp:∀ i,i<m→∀ t∈Ts.getD i [],ds[i]? = some t∨∃ j∈waitsOn ops i,ds[j]? = some t
 rest:∀ k,k<ops.size→m≤k→(∃ j∈waitsOn ops k,m≤j∧j<ops.size)∨∀ j,j<m→reaches ops m m k j=true
theorem LaterOk.of {ops:Array Oper} {m:Nat} {ds:List Tmp} {Ts:List (List Tmp)} (h:laterB ops m ds Ts=true):LaterOk ops m ds Ts:=by
 simp only [laterB,Bool.and_eq_true,beq_iff_eq,decide_eq_true_eq,List.all_eq_true,List.mem_range] at h
 obtain ⟨⟨⟨⟨⟨h1,h2⟩,h3⟩,h4⟩,h5⟩,h6⟩:=h
 have g:∀ i o,i<m→ops[i]? = some o→((o.dst=ds[i]? ∧ ∀ j∈waitsOn ops i,j<i)∧∀ t∈o.looksAt ops,∀ j,j<m→ds[j]? = some t→j∈waitsOn ops i)∧∀ t∈Ts.getD i [],ds[i]? = some t∨∃ j∈waitsOn ops i,ds[j]? = some t:=fun i o hi ho=>by
  have:=h5 i hi
  rw [ho] at this
  simp only [Bool.and_eq_true,beq_iff_eq,List.all_eq_true,decide_eq_true_eq,List.mem_range,Bool.or_eq_true,Bool.not_eq_true',List.contains_iff_mem,List.any_eq_true] at this
  refine ⟨⟨this.1.1,fun t ht j hj hd=>?_⟩,this.2⟩
  rcases this.1.2 t ht j hj with e|e
  ·simp [hd] at e
  ·exact e
 have ex:∀ i,i<m→∃ o,ops[i]? = some o:=fun i hi=>⟨ops[i],Array.getElem?_eq_getElem (by omega)⟩
 refine ⟨h1,h2,h3,h4,fun i o hi ho=>(g i o hi ho).1.1.1,fun i hi=>?_,fun i o hi ho=>(g i o hi ho).1.2,fun i hi=>?_,fun k hk hmk=>?_⟩
 ·obtain ⟨o,ho⟩:=ex i hi;exact (g i o hi ho).1.1.2
 ·obtain ⟨o,ho⟩:=ex i hi;exact (g i o hi ho).2
 ·have:=h6 k hk
  simp only [Bool.or_eq_true,Bool.and_eq_true,decide_eq_true_eq,List.all_eq_true,List.any_eq_true,List.mem_range] at this
  rcases this with (e|e)|e
  ·omega
  ·exact .inl e
  ·exact .inr e
theorem getD_true_of_false {a:Array Bool} {k:Nat} (h:a.getD k true=false):a.getD k false=false:=by
 by_cases hk:k<a.size
 ·simp [hk] at h ⊢;exact h
 ·simp [hk] at h
theorem reaches_listed {ops:Array Oper} {m:Nat} {listed:Array Bool} (hc:∀ i,i<m→listed.getD i false=true→∀ j∈waitsOn ops i,listed.getD j false=true) {k:Nat} (hk:∀ j∈waitsOn ops k,listed.getD j false=true):∀ n j,reaches ops m n k j=true→listed.getD j false=true
 | 0,j,h=>by
   unfold reaches at h
   exact hk j (List.contains_iff_mem.1 h)
 | n+1,j,h=>by
   unfold reaches at h
   simp only [Bool.or_eq_true,List.contains_iff_mem,List.any_eq_true,List.mem_range,Bool.and_eq_true] at h
   rcases h with h|⟨i,hi,h1,h2⟩
   ·exact hk j h
   ·exact hc i hi (reaches_listed hc hk n i h2) j h1
def fullF:Act→List Tmp→(Tmp→Value)→Act
 | a,[],_=>a
 | a,t :: ds,x=>fullF (a.put (some t) (x t)) ds x
theorem put_get (a:Act) (d t:Tmp) (v:Value):(a.put (some d) v).tmps[t]? = if d=t∧t<a.tmps.size then some v else a.tmps[t]? := by
 simp only [Act.put]
 by_cases e:d=t
 ·subst e
  by_cases h:d<a.tmps.size
  ·simp [h]
  ·simp [h]
 ·simp [e,Array.getElem?_setIfInBounds_ne e]
theorem put_size (a:Act) (d:Option Tmp) (v:Value):(a.put d v).tmps.size=a.tmps.size:=by cases d<;>simp [Act.put]
theorem put_defers (a:Act) (d:Option Tmp) (v:Value):(a.put d v).defers=a.defers:=by cases d<;>simp [Act.put]
theorem fullF_get:∀ (ds:List Tmp) (a:Act) (x:Tmp→Value) (t:Tmp),(fullF a ds x).tmps[t]? = if t∈ds∧t<a.tmps.size then some (x t) else a.tmps[t]?
 | [],a,x,t=>by simp [fullF]
 | d :: ds,a,x,t=>by
   rw [fullF,fullF_get ds,put_size,put_get]
   by_cases h:t<a.tmps.size
   ·by_cases h1:t∈ds
    ·simp [h,h1]
    ·by_cases h2:d=t
     ·subst h2;simp [h,h1]
     ·simp [h1,h2,Ne.symm h2]
   ·simp [h]
theorem fullF_size:∀ (ds:List Tmp) (a:Act) (x:Tmp→Value),(fullF a ds x).tmps.size=a.tmps.size
 | [],_,_=>rfl
 | d :: ds,a,x=>by rw [fullF,fullF_size ds,put_size]
theorem fullF_defers:∀ (ds:List Tmp) (a:Act) (x:Tmp→Value),(fullF a ds x).defers=a.defers
 | [],_,_=>rfl
 | d :: ds,a,x=>by rw [fullF,fullF_defers ds,put_defers]
theorem act_ext {a b:Act} (h1:a.defers=b.defers) (h2:a.tmps.size=b.tmps.size) (h3:∀ t:Nat,a.tmps[t]? = b.tmps[t]?):a=b:=by
 obtain ⟨x,d⟩:=a;obtain ⟨y,e⟩:=b
 dsimp only at h1 h2 h3
 subst h1
 have:x=y:=Array.ext_getElem? h3
 rw [this]
structure Filled (m:Nat) (ds:List Tmp) (listed:Array Bool) (x:Tmp→Value) (a0 a:Act):Prop where
 size:a.tmps.size=a0.tmps.size
 defers:a.defers=a0.defers
 yes:∀ i t,i<m→listed.getD i false=true→ds[i]? = some t→a.tmps[t]? = if t<a0.tmps.size then some (x t) else none
 no:∀ t,(∀ i,i<m→listed.getD i false=true→ds[i]? ≠ some t)→a.tmps[t]? = a0.tmps[t]?
theorem getD_set {l:Array Bool} {i j:Nat} {d:Bool} (h:(l.setIfInBounds i true).getD j d=true):j=i∨l.getD j d=true:=by
 by_cases e:i=j
 ·exact .inl e.symm
 ·rw [getD_set_ne d e] at h;exact .inr h
theorem ds_inj {ds:List Tmp} (h:ds.Nodup) {i j:Nat} {t:Tmp} (hi:ds[i]? = some t) (hj:ds[j]? = some t):i=j:=by
 obtain ⟨hi',e1⟩:=List.getElem?_eq_some_iff.1 hi
 obtain ⟨hj',e2⟩:=List.getElem?_eq_some_iff.1 hj
 rcases Nat.lt_trichotomy i j with hlt|he|hgt
 ·exact absurd (e1.trans e2.symm) ((List.pairwise_iff_getElem.1 h) i j hi' hj' hlt)
 ·exact he
 ·exact absurd (e2.trans e1.symm) ((List.pairwise_iff_getElem.1 h) j i hj' hi' hgt)
theorem Filled.put {m:Nat} {ds:List Tmp} {listed:Array Bool} {x:Tmp→Value} {a0 a:Act} (h:Filled m ds listed x a0 a) (hn:ds.Nodup) {i:Nat} {t:Tmp} (hi:i<m) (hl:i<listed.size) (ht:ds[i]? = some t) (v:Value) :
 Filled m ds (listed.setIfInBounds i true) (upd x (some t) v) a0 (a.put (some t) v):=by
 refine ⟨by rw [put_size,h.size],by rw [put_defers,h.defers],fun j u hj hlj hu=>?_,fun u hu=>?_⟩
 ·rw [put_get,h.size]
  by_cases e:t=u
  ·subst e
   by_cases hs:t<a0.tmps.size
   ·simp [hs,upd]
   ·have:a.tmps[t]? = none:=by rw [Array.getElem?_eq_none_iff,h.size];exact Nat.le_of_not_lt hs
    simp [hs,this]
  ·rcases getD_set hlj with e2|e2
   ·subst e2;rw [ht] at hu;exact absurd (Option.some.inj hu) e
   ·simp [e,upd,h.yes j u hj e2 hu]
 ·have hne:t≠u:=fun e=>hu i hi (by simp [hl]) (by rw [←e];exact ht)
  rw [put_get]
  simp only [hne,false_and,if_false]
  exact h.no u fun j hj hlj hju=>hu j hj (getD_set_true hlj) hju
theorem Filled.start (m:Nat) (ds:List Tmp) (n:Nat) (x:Tmp→Value) (a:Act):Filled m ds (Array.replicate n false) x a a :=
 ⟨rfl,rfl,fun i t _ h _=>by simp [Array.getElem?_replicate] at h;split at h<;>simp at h,fun _ _=>rfl⟩
theorem Filled.full {m:Nat} {ds:List Tmp} {listed:Array Bool} {x:Tmp→Value} {a0 a:Act} (h:Filled m ds listed x a0 a) (hlen:ds.length=m) (hall:∀ i,i<m→listed.getD i false=true):a=fullF a0 ds x:=by
 refine act_ext (by rw [h.defers,fullF_defers]) (by rw [h.size,fullF_size]) fun t=>?_
 rw [fullF_get]
 by_cases hm:t∈ds
 ·obtain ⟨i,hi,e⟩:=List.getElem_of_mem hm
  have e':ds[i]? = some t:=by rw [List.getElem?_eq_getElem hi,e]
  rw [h.yes i t (by omega) (hall i (by omega)) e']
  by_cases hs:t<a0.tmps.size
  ·simp [hs,hm]
  ·simp [hs]
 ·simp only [hm,false_and,if_false]
  exact h.no t fun i _ _ e=>hm (List.mem_of_getElem? e)
theorem Filled.sees {m:Nat} {ds:List Tmp} {listed:Array Bool} {x:Tmp→Value} {a0 a:Act} (h:Filled m ds listed x a0 a) (hlen:ds.length=m) {t:Tmp} (ht:∀ j,j<m→ds[j]? = some t→listed.getD j false=true):a.tmps[t]? = (fullF a0 ds x).tmps[t]? := by
 rw [fullF_get]
 by_cases hm:t∈ds
 ·obtain ⟨i,hi,e⟩:=List.getElem_of_mem hm
  have e':ds[i]? = some t:=by rw [List.getElem?_eq_getElem hi,e]
  rw [h.yes i t (by omega) (ht i (by omega) e') e']
  by_cases hs:t<a0.tmps.size
  ·simp [hs,hm]
  ·simp [hs]
 ·simp only [hm,false_and,if_false]
  exact h.no t fun i _ _ e=>hm (List.mem_of_getElem? e)
theorem execOp_sees {ops:Array Oper} {o:Oper} (hs:∀ cs b,o.op≠.select cs b) {a b:Act} (h:∀ t∈o.looksAt ops,a.tmps[t]? = b.tmps[t]?):execOp a.eval o=execOp b.eval o :=
 execOp_congr o hs fun x hx=>by
  cases x with
  | tmp t =>
    have:=h t (List.mem_append_left _ (List.mem_filterMap.2 ⟨.tmp t,by simpa using hx,rfl⟩))
    simp only [Act.eval,Array.getD_eq_getD_getElem?,this]
  | _=>rfl
theorem wanted_sees {ops:Array Oper} {o:Oper} {a b:Act} (h:∀ t∈o.looksAt ops,a.tmps[t]? = b.tmps[t]?):Region.wanted o (yielded ops a.tmps)=Region.wanted o (yielded ops b.tmps):=by
 unfold Region.wanted
 cases hg:o.guard with
 | none=>rfl
 | some gw =>
   obtain ⟨g,want⟩:=gw
   have hy:yielded ops a.tmps g=yielded ops b.tmps g:=by
    unfold yielded
    cases ht:(ops[g]?).bind (·.dst) with
    | none=>rfl
    | some t =>
      have:=h t (by simp [Oper.looksAt,hg,ht])
      simp [this]
   simp only [hy]
theorem put_same {a b:Act} {t:Tmp} {u v:Value} (hs:a.tmps.size=b.tmps.size) (h:b.put (some t) u=b.put (some t) v):a.put (some t) u=a.put (some t) v:=by
 by_cases hb:t<b.tmps.size
 ·have h1:=put_get b t t u
  rw [h,put_get] at h1
  simp [hb] at h1
  rw [h1]
 ·have hb':a.tmps.size≤t:=by rw [hs];exact Nat.le_of_not_lt hb
  simp only [Act.put]
  rw [Array.setIfInBounds_eq_of_size_le hb',Array.setIfInBounds_eq_of_size_le hb']
theorem wp_sees {P:Program} {ops:Array Oper} {o:Oper} {t:Tmp} (hd:o.dst=some t) (hs:∀ cs b,o.op≠.select cs b) {a b:Act} (hsz:a.tmps.size=b.tmps.size) (h:∀ t∈o.looksAt ops,a.tmps[t]? = b.tmps[t]?) {w:World} {R:Value→World→Prop} {K:Act→World→Prop} {Q:Exit→Act→World→Prop}
 (hK:∀ v w',R v w'→K (a.put (some t) v) w') (hh:o.wp P b w (fun b' w'=>∃ v,b'=b.put (some t) v∧R v w') (fun _ _ _=>False)):o.wp P a w K Q:=by
 unfold Oper.wp at *
 rw [execOp_sees hs h]
 have fin:∀ u w',(∃ v,b.put o.dst u=b.put (some t) v∧R v w')→K (a.put o.dst u) w':=fun u w' ⟨v,e,hR⟩=>by
  rw [hd] at e ⊢
  rw [put_same hsz e];exact hK v w' hR
 generalize (execOp b.eval o).run P w=r at *
 cases r with
 | ok n w' =>
   cases n<;>simp only [Oper.upon] at hh ⊢
   case value u=>exact fin u w' hh
   case skip=>exact fin undef w' hh
   case defer d =>
    obtain ⟨v,e,-⟩:=hh
    have e2:=congrArg Act.defers e
    rw [put_defers,put_defers] at e2
    have:=congrArg List.length e2
    simp at this
   case enter f args =>
    refine Calls.mono hh fun e w'' he=>?_
    cases e with
    | returned u=>exact fin u w'' he
    | panicked c=>exact he.elim
    | outgrown=>obtain ⟨_,_,h0⟩:=he;exact h0.elim
   case row row args=>exact Rows.mono hh fun u w'' he=>fin u w'' he
 | halt y w'=>cases y<;>simp only [Oper.upon] at hh ⊢
theorem at_congr {s:Leaves} {x y:Tmp→Value} {w:World} (h:∀ t∈s.T,x t=y t) (hx:s.at x w):s.at y w:=by
 unfold Leaves.at at *
 rw [←List.map_congr_left h];exact hx
theorem count_set {l:Array Bool} {i:Nat} (hi:l.getD i true=false):(l.setIfInBounds i true).toList.count false+1=l.toList.count false:=by
 have hlt:i<l.size:=by
  rcases Nat.lt_or_ge i l.size with h|h
  ·exact h
  ·simp [Array.getElem?_eq_none h] at hi
 have hv:l.toList[i]'(by simpa using hlt)=false:=by simpa [hlt] using hi
 have hpos:0<l.toList.count false:=List.count_pos_iff.2 (by rw [←hv];exact List.getElem_mem _)
 rw [Array.toList_setIfInBounds,List.count_set (by simpa using hlt),hv]
 rw [if_pos (show (false == false)=true from rfl),if_neg (show ¬ (true == false)=true by decide)]
 omega
section
variable {P:Program} {ops:Array Oper} {Q:Exit→Act→World→Prop} {m:Nat} {ds:List Tmp} {G:List Leaves} {E:World→World→Prop} {a0:Act} {w0:World} {F:(Tmp→Value)→Act}
end
abbrev leafS (t:Tmp) (c:Value):Leaves:=leaf1 t fun v _=>v=c
theorem tail_one {P:Program} {ops:Array Oper} {Q:Exit→Act→World→Prop} {fuel i:Nat} {o:Oper} {listed:Array Bool} {a:Act} {w:World} (hr:Region.ready .any ops listed=[i]) (ho:ops[i]? = some o)
 (h:∀ K':Act→World→Prop,(∀ a w,wpAny P .any ops Q fuel (listed.setIfInBounds i true) a w→K' a w)→if Region.wanted o (yielded ops a.tmps)=true then Oper.wp P o a w K' Q else K' (a.put o.dst undef) w) :
 wpAny P .any ops Q (fuel+1) listed a w:=by
 refine wpAny_all hr (by simp) fun j hj=>?_
 obtain rfl:j=i:=by simpa using hj
 exact wpOp_step ho h
end
section
open Go.RowKit
section
variable {P:Program} {ops:Array Oper} {Q:Exit→Act→World→Prop} {m:Nat} {ds:List Tmp} {Ts:List (List Tmp)} {a0:Act} {w0:World} {F:(Tmp→Value)→Act}
theorem inv_go (ok:LaterOk ops m ds Ts) (hF:∀ x,fullF a0 ds x=F x) (Inv:Array Bool→(Tmp→Value)→World→Prop)
 (step:∀ i o t (listed:Array Bool),i<m→ops[i]? = some o→ds[i]? = some t→i<listed.size→listed.getD i true=false→(∀ j∈waitsOn ops i,listed.getD j false=true)→(∀ k,k<m→listed.getD k false=true→∀ j∈waitsOn ops k,listed.getD j false=true)→∀ x w,Inv listed x w →
   ∀ K:Act→World→Prop,(∀ v w' b,Inv (listed.setIfInBounds i true) (upd x (some t) v) w'→b=(F x).put (some t) v→K b w')→if Region.wanted o (yielded ops (F x).tmps)=true then o.wp P (F x) w K (fun _ _ _=>False) else K ((F x).put o.dst undef) w)
 (fin:∀ x w,Inv (Array.replicate m true ++ Array.replicate (ops.size-m) false) x w→wpAny P .any ops Q (ops.size-m) (Array.replicate m true ++ Array.replicate (ops.size-m) false) (F x) w) :
 ∀ (r fuel:Nat) (listed:Array Bool) (x:Tmp→Value) (a:Act) (w:World),listed.size=ops.size→listed.toList.count false=fuel→fuel=r+(ops.size-m)→(∀ k,m≤k→k<ops.size→listed.getD k true=false) →
  (∀ i,i<m→listed.getD i false=true→∀ j∈waitsOn ops i,listed.getD j false=true) →
  Inv listed x w→Filled m ds listed x a0 a→wpAny P .any ops Q fuel listed a w:=by
 intro r
 induction r with
 | zero =>
   intro fuel listed x a w hsz hcnt hfuel hrest hclosed hinv hfill
   -- all of the first m have come up
   have hle:=ok.le
   have hall:∀ i,i<m→listed.getD i false=true:=by
    intro i hi
    cases hv:listed.getD i false
    ·exfalso
     -- then more than n - m are false
     have hsplit:listed.toList.count false=(listed.toList.take m).count false+(listed.toList.drop m).count false:=by
      rw [←List.count_append,List.take_append_drop]
     have hdrop:(listed.toList.drop m).count false=ops.size-m:=by
      have:∀ b∈listed.toList.drop m,false=b:=fun b hb=>by
       obtain ⟨k,hk,e⟩:=List.getElem_of_mem hb
       rw [List.length_drop] at hk
       have hkk:m+k<listed.size:=by simp at hk;omega
       have:=hrest (m+k) (by omega) (by omega)
       rw [List.getElem_drop] at e
       simp [hkk] at this
       rw [←e];simpa using this.symm
      rw [List.count_eq_length.2 this,List.length_drop];simp [hsz]
     have htake:0<(listed.toList.take m).count false:=by
      rw [List.count_pos_iff]
      have hil:i<listed.size:=by omega
      have:(listed.toList.take m)[i]'(by simp;omega)=false:=by
       rw [List.getElem_take];simpa [hil] using hv
      rw [←this];exact List.getElem_mem _
     omega
    ·rfl
   have hpre:listed=Array.replicate m true ++ Array.replicate (ops.size-m) false:=by
    apply Array.ext
    ·simp;omega
    ·intro k h1 h2
     by_cases hk:k<m
     ·have:=hall k hk
      simp [h1] at this
      rw [Array.getElem_append_left (by simpa using hk)];simpa using this
     ·have:=hrest k (by omega) (by omega)
      simp [h1] at this
      rw [Array.getElem_append_right (by simp;omega)];simpa using this
   rw [hfill.full ok.len hall,hF,hfuel,Nat.zero_add,hpre]
   exact fin x w (by rw [←hpre];exact hinv)
 | succ r ih =>
   intro fuel listed x a w hsz hcnt hfuel hrest hclosed hinv hfill
   have hle:=ok.le
   obtain ⟨fuel,rfl⟩:∃ f,fuel=f+1:=⟨fuel-1,by omega⟩
   -- one of the first m has not come up
   have hex:∃ i,i<m∧listed.getD i false=false:=by
    refine Classical.byContradiction fun hno=>?_
    have hall:∀ i,i<m→listed.getD i false=true:=fun i hi=>by
     cases hv:listed.getD i false
     ·exact absurd ⟨i,hi,hv⟩ hno
     ·rfl
    have hsplit:listed.toList.count false=(listed.toList.take m).count false+(listed.toList.drop m).count false:=by
     rw [←List.count_append,List.take_append_drop]
    have htake:(listed.toList.take m).count false=0:=by
     rw [List.count_eq_zero]
     intro hmem
     obtain ⟨k,hk,e⟩:=List.getElem_of_mem hmem
     rw [List.length_take] at hk
     have hkl:k<listed.size:=by simp at hk;omega
     have:=hall k (by omega)
     rw [List.getElem_take] at e
     simp [hkl] at this
     simp [this] at e
    have hd:(listed.toList.drop m).count false≤ops.size-m:=by
     refine Nat.le_trans List.count_le_length ?_
     rw [List.length_drop];simp [hsz]
    omega
   refine ⟨fun h0=>?_,fun i hi=>?_⟩
   ·exfalso
    -- the first of them may come up
    have hmin:∀ k,(∀ j,j<k→j<m→listed.getD j false=true)∨∃ i,i<m∧listed.getD i false=false∧∀ j,j<i→listed.getD j false=true:=by
     intro k
     induction k with
     | zero=>exact .inl fun j hj=>by omega
     | succ k ihk =>
       rcases ihk with h1|h1
       ·by_cases hkm:k<m
        ·cases hv:listed.getD k false
         ·exact .inr ⟨k,hkm,hv,fun j hj=>h1 j hj (by omega)⟩
         ·refine .inl fun j hj hjm=>?_
          rcases Nat.lt_or_ge j k with h2|h2
          ·exact h1 j h2 hjm
          ·have:j=k:=by omega
           subst this;exact hv
        ·refine .inl fun j hj hjm=>h1 j (by omega) hjm
       ·exact .inr h1
    rcases hmin m with h1|⟨i,him,hif,hlow⟩
    ·obtain ⟨i,hi,hv⟩:=hex
     rw [h1 i hi hi] at hv;cases hv
    ·have hil:i<listed.size:=by omega
     have:i∈Region.ready .any ops listed:=by
      rw [mem_ready]
      refine ⟨by simpa [hil] using hif,ops[i]'(by omega),Array.getElem?_eq_getElem (by omega),fun e he hb=>?_⟩
      refine hlow _ (ok.topo i him _ ?_)
      unfold waitsOn
      rw [Array.getElem?_eq_getElem (by omega)]
      exact List.mem_map.2 ⟨e,List.mem_filter.2 ⟨by simpa using he,hb⟩,rfl⟩
     rw [h0] at this;cases this
   ·obtain ⟨hun,o,ho,hafter⟩:=mem_ready.1 hi
    have hin:i<ops.size:=(Array.getElem?_eq_some_iff.1 ho).1
    have hwl:∀ j∈waitsOn ops i,listed.getD j false=true:=by
     intro j hj
     unfold waitsOn at hj
     rw [ho] at hj
     obtain ⟨e,he,rfl⟩:=List.mem_map.1 hj
     obtain ⟨he1,he2⟩:=List.mem_filter.1 he
     exact hafter e (by simpa using he1) he2
    have him:i<m:=by
     rcases Nat.lt_or_ge i m with h|h
     ·exact h
     ·obtain ⟨k,hk,hv⟩:=hex
      rcases ok.rest i hin h with ⟨j,hj,hmj,hjn⟩|hre
      ·have:=hwl j hj;rw [getD_true_of_false (hrest j hmj hjn)] at this;cases this
      ·rw [reaches_listed hclosed hwl m k (hre k hk)] at hv;cases hv
    obtain ⟨t,ht⟩:∃ t,ds[i]? = some t:=⟨_,List.getElem?_eq_getElem (by rw [ok.len];exact him)⟩
    have hd:o.dst=some t:=(ok.dst i o him ho).trans ht
    have hsees:∀ u∈o.looksAt ops,a.tmps[u]? = (F x).tmps[u]? := fun u hu=>by
     rw [←hF]
     exact hfill.sees ok.len fun j hj hju=>hwl j (ok.look i o him ho u hu j hj hju)
    have hasz:a.tmps.size=(F x).tmps.size:=by rw [←hF,fullF_size,hfill.size]
    have hsel:=fun cs b=>Region.noSelect_spec ok.sel i o cs b ho
    -- what is left behind it
    have hnext:∀ v w',Inv (listed.setIfInBounds i true) (upd x (some t) v) w'→wpAny P .any ops Q fuel (listed.setIfInBounds i true) (a.put (some t) v) w':=by
     intro v w' hw
     have hlis:i<listed.size:=by omega
     refine ih fuel _ (upd x (some t) v) _ w' (by simp [hsz]) (by have:=count_set hun;omega) (by omega) (fun k hk hkn=>?_) (fun j hj hlj=>?_) hw (hfill.put ok.nodup him hlis ht v)
     ·rw [getD_set_ne true (by omega)];exact hrest k hk hkn
     ·intro k hk
      rcases getD_set hlj with e|e
      ·subst e;exact getD_set_true (hwl k hk)
      ·exact getD_set_true (hclosed j hj e k hk)
    have hst:=step i o t listed him ho ht (by omega) hun hwl hclosed x w hinv
    unfold wpOp
    simp only [ho]
    rw [wanted_sees hsees]
    by_cases hw:Region.wanted o (yielded ops (F x).tmps)=true
    ·rw [if_pos hw]
     refine .inl (wp_sees hd hsel hasz hsees (R:=fun v w'=>Inv (listed.setIfInBounds i true) (upd x (some t) v) w') (fun v w' h=>hnext v w' h) ?_)
     have:=hst (fun b' w'=>∃ v,b'=(F x).put (some t) v∧Inv (listed.setIfInBounds i true) (upd x (some t) v) w') (fun v w' b h1 hb=>⟨v,hb,h1⟩)
     rw [if_pos hw] at this
     exact this
    ·rw [if_neg hw]
     have:=hst (fun b' w'=>∃ v,b'=(F x).put (some t) v∧Inv (listed.setIfInBounds i true) (upd x (some t) v) w') (fun v w' b h1 hb=>⟨v,hb,h1⟩)
     rw [if_neg hw,hd] at this
     obtain ⟨v,e,h1⟩:=this
     rw [hd,put_same hasz e]
     exact hnext v w h1
end
def ptr (p:Nat):Value:=.pointer (some ⟨p,0,none⟩)
theorem ptr_inj {p q:Nat} (h:ptr p=ptr q):p=q:=by unfold ptr at h;injection h with h;injection h with h;injection h
theorem own_once:∀ {own:List (Option Tmp)} {i j:Nat} {t:Tmp},(own.filterMap id).Nodup→i≠j→own[i]? = some (some t)→own[j]? = some (some t)→False
 | [],i,j,t,_,_,h,_=>by simp at h
 | o :: own,i,j,t,hn,hne,hi,hj=>by
   have hmem:∀ k:Nat,own[k]? = some (some t)→t∈own.filterMap id:=fun k hk=>List.mem_filterMap.2 ⟨some t,List.mem_of_getElem? hk,rfl⟩
   cases i with
   | zero =>
     cases j with
     | zero=>exact hne rfl
     | succ j =>
       simp at hi hj;subst hi
       simp only [List.filterMap_cons,id] at hn
       exact (List.nodup_cons.1 hn).1 (hmem j hj)
   | succ i =>
     cases j with
     | zero =>
       simp at hi hj;subst hj
       simp only [List.filterMap_cons,id] at hn
       exact (List.nodup_cons.1 hn).1 (hmem i hi)
     | succ j =>
       refine own_once (own:=own) (i:=i) (j:=j) (t:=t) ?_ (by omega) (by simpa using hi) (by simpa using hj)
       cases o with
       | none=>simpa using hn
       | some u=>simp only [List.filterMap_cons,id] at hn;exact (List.nodup_cons.1 hn).2
def ownB (ops:Array Oper) (m:Nat) (ds:List Tmp) (Ts:List (List Tmp)) (Ks:List Tmp) (own:List (Option Tmp)):Bool :=
 own.length == m && (own.filterMap id).Nodup &&
 (List.range m).all fun i =>
   (match own.getD i none with
     | none=>true
     | some t=>Ks.contains t && (waitsOn ops i).any fun j=>ds[j]? == some t) &&
   (Ts.getD i []).all fun t=>!Ks.contains t || own.getD i none == some t || ds[i]? == some t
structure Mv (B:Nat) (FB:World→Nat→Prop) (Ks:List Tmp) (t:Tmp) (own:Option Tmp) (s:Leaves) (x:Tmp→Value) (w:World) (v:Value) (w':World):Prop where
 row:w.grownBy w' none∨∃ t' p,own=some t'∧x t'=ptr p∧B≤p∧FB w p∧FB w' p∧w.grownBy w' (some p)
 leaf:s.at (upd x (some t) v) w'
 key:t∈Ks→∃ p,v=ptr p∧w.heap.size≤p∧p<w'.heap.size
structure Keeps (B:Nat) (FB:World→Nat→Prop) (Ks Os:List Tmp) (d:Tmp) (s:Leaves):Prop where
 plain:∀ l w w',s.p l w→w.grownBy w' none→s.p l w'
 owned:∀ (x:Tmp→Value) w w' p,FB w p→FB w' p→B≤p→w.grownBy w' (some p)→(∀ t∈s.T,t∈Ks→x t=ptr p→d=t∧t∈Os)→s.at x w→s.at x w'
def AllKeep (B:Nat) (FB:World→Nat→Prop) (Ks Os:List Tmp):List Tmp→List Leaves→Prop
 | d :: ds,s :: g=>Keeps B FB Ks Os d s∧AllKeep B FB Ks Os ds g
 | _,_=>True
theorem AllKeep.get {B:Nat} {FB:World→Nat→Prop} {Ks Os:List Tmp}:∀ {ds:List Tmp} {g:List Leaves},AllKeep B FB Ks Os ds g→∀ (i:Nat) (d:Tmp) (s:Leaves),ds[i]? = some d→g[i]? = some s→Keeps B FB Ks Os d s
 | d :: ds,s :: g,h,i,d',s',hd,hs=>by
   cases i with
   | zero=>simp at hd hs;subst hd;subst hs;exact h.1
   | succ i=>exact AllKeep.get h.2 i d' s' (by simpa using hd) (by simpa using hs)
 | [],_,_,i,_,_,hd,_=>by simp at hd
 | _ :: _,[],_,i,_,_,_,hs=>by simp at hs
def KStepAt (P:Program) (ops:Array Oper) (F:(Tmp→Value)→Act) (B:Nat) (FB:World→Nat→Prop) (Ks:List Tmp) (w0:World) (G:List Leaves) (i:Nat) (o:Oper) (t:Tmp) (own:Option Tmp) (s:Leaves):Prop :=
 ∀ x w,Below B w0 w→(∀ j s',(waitsOn ops i).contains j=true→G[j]? = some s'→s'.at x w) →
  ∀ K:Act→World→Prop,(∀ v w' b,Mv B FB Ks t own s x w v w'→b=(F x).put (some t) v→K b w')→if Region.wanted o (yielded ops (F x).tmps)=true then o.wp P (F x) w K (fun _ _ _=>False) else K ((F x).put o.dst undef) w
inductive Lf
 | c (v:Value)
 | l (own:Option Tmp) (s:Tmp→Leaves)
@[reducible] def Lf.leaf (t:Tmp):Lf→Leaves
 | .c v=>leafS t v
 | .l _ s=>s t
@[reducible] def Lf.own:Lf→Option Tmp
 | .c _=>none
 | .l o _=>o
def leavesOf:List Tmp→List Lf→List Leaves
 | t :: ds,f :: fs=>f.leaf t :: leavesOf ds fs
 | _,_=>[]
def fullC:Act→List Tmp→List Lf→(Tmp→Value)→Act
 | a,t :: ds,.c v :: fs,x=>fullC (a.put (some t) v) ds fs x
 | a,t :: ds,.l _ _ :: fs,x=>fullC (a.put (some t) (x t)) ds fs x
 | a,_,_,_=>a
def Agree:List Tmp→List Lf→(Tmp→Value)→Prop
 | t :: ds,.c v :: fs,x=>x t=v∧Agree ds fs x
 | _ :: ds,.l _ _ :: fs,x=>Agree ds fs x
 | _,_,_=>True
theorem agree_full:∀ {ds:List Tmp} {fs:List Lf} {x:Tmp→Value} {a:Act},ds.length=fs.length→Agree ds fs x→fullF a ds x=fullC a ds fs x
 | [],[],_,_,_,_=>rfl
 | t :: ds,.c v :: fs,x,a,h,k=>by obtain ⟨k1,k2⟩:=k;unfold fullF fullC;rw [k1];exact agree_full (by simpa using h) k2
 | t :: ds,.l _ _ :: fs,x,a,h,k=>by unfold fullF fullC;exact agree_full (by simpa using h) k
 | [],_ :: _,_,_,h,_=>by simp at h
 | _ :: _,[],_,_,h,_=>by simp at h
theorem agree_upd:∀ {ds:List Tmp} {fs:List Lf} {x:Tmp→Value} {t:Tmp} {v:Value},(∀ (i:Nat) (u:Value),ds[i]? = some t→fs[i]? = some (.c u)→v=u)→Agree ds fs x→Agree ds fs (upd x (some t) v)
 | [],_,_,_,_,_,_=>by simp [Agree]
 | _ :: _,[],_,_,_,_,_=>by simp [Agree]
 | d :: ds,.c u :: fs,x,t,v,h,k=>by
   obtain ⟨k1,k2⟩:=k
   refine ⟨?_,agree_upd (fun i u hd hf=>h (i+1) u (by simpa using hd) (by simpa using hf)) k2⟩
   by_cases e:t=d
   ·subst e;rw [upd_self];exact h 0 u rfl rfl
   ·rw [upd_ne e];exact k1
 | d :: ds,.l _ _ :: fs,x,t,v,h,k=>by
   unfold Agree at k ⊢
   exact agree_upd (fun i u hd hf=>h (i+1) u (by simpa using hd) (by simpa using hf)) k
theorem agree_ex:∀ {ds:List Tmp} {fs:List Lf},ds.Nodup→∃ x,Agree ds fs x
 | [],_,_=>⟨fun _=>undef,by simp [Agree]⟩
 | _ :: _,[],_=>⟨fun _=>undef,by simp [Agree]⟩
 | d :: ds,.c v :: fs,h=>by
   obtain ⟨x,hx⟩:=agree_ex (fs:=fs) (List.nodup_cons.1 h).2
   refine ⟨upd x (some d) v,upd_self _ _ _,agree_upd (fun i u hd hf=>?_) hx⟩
   exact absurd (List.mem_of_getElem? hd) (List.nodup_cons.1 h).1
 | d :: ds,.l _ _ :: fs,h=>by
   obtain ⟨x,hx⟩:=agree_ex (fs:=fs) (List.nodup_cons.1 h).2
   exact ⟨x,hx⟩
theorem leavesOf_len:∀ {ds:List Tmp} {fs:List Lf},ds.length=fs.length→(leavesOf ds fs).length=fs.length
 | [],[],_=>rfl
 | _ :: ds,_ :: fs,h=>by unfold leavesOf;simp only [List.length_cons];rw [leavesOf_len (by simpa using h)]
 | [],_ :: _,h=>by simp at h
 | _ :: _,[],h=>by simp at h
theorem leavesOf_at:∀ {ds:List Tmp} {fs:List Lf} {i:Nat} {t:Tmp} {f:Lf},ds[i]? = some t→fs[i]? = some f→(leavesOf ds fs)[i]? = some (f.leaf t)
 | d :: ds,g :: fs,i,t,f,hd,hf=>by
   cases i with
   | zero=>simp at hd hf;subst hd;subst hf;rfl
   | succ i=>unfold leavesOf;simpa using leavesOf_at (by simpa using hd) (by simpa using hf)
 | [],_,_,_,_,hd,_=>by simp at hd
 | _ :: _,[],_,_,_,_,hf=>by simp at hf
theorem keeps_const (B:Nat) (FB:World→Nat→Prop) (Ks Os:List Tmp) (d t:Tmp) (c:Value):Keeps B FB Ks Os d (leafS t c):=by
 constructor
 ·intro l w w' h _
  match l,h with
  | [v],h=>exact h
 ·intro x w w' p _ _ _ _ _ h
  exact h
theorem kc {B:Nat}{FB:World → Nat → Prop}{Ks Os:List Tmp}{d t:Tmp}{c:Value}:Keeps B FB Ks Os d (leafS t c):=keeps_const _ _ _ _ _ _ _
def KeepC (B:Nat) (FB:World→Nat→Prop) (Ks Os:List Tmp):List Tmp→List Lf→Prop
 | _ :: ds,.c _ :: fs=>KeepC B FB Ks Os ds fs
 | d :: ds,.l _ s :: fs=>Keeps B FB Ks Os d (s d)∧KeepC B FB Ks Os ds fs
 | _,_=>True
theorem KeepC.all {B:Nat} {FB:World→Nat→Prop} {Ks Os:List Tmp}:∀ {ds:List Tmp} {fs:List Lf},KeepC B FB Ks Os ds fs→AllKeep B FB Ks Os ds (leavesOf ds fs)
 | d :: ds,.c v :: fs,h=>⟨keeps_const _ _ _ _ _ _ _,KeepC.all (ds:=ds) h⟩
 | d :: ds,.l o s :: fs,h=>⟨h.1,KeepC.all h.2⟩
 | [],_,_=>by simp [leavesOf,AllKeep]
 | _ :: _,[],_=>by simp [leavesOf,AllKeep]
def KSteps (P:Program) (ops:Array Oper) (F:(Tmp→Value)→Act) (B:Nat) (FB:World→Nat→Prop) (Ks:List Tmp) (w0:World) (G:List Leaves):Nat→List Oper→List Tmp→List Lf→Prop
 | i,o :: l,t :: ds,f :: fs=>KStepAt P ops F B FB Ks w0 G i o t f.own (f.leaf t)∧KSteps P ops F B FB Ks w0 G (i+1) l ds fs
 | _,_,_,_=>True
theorem KSteps.get {P:Program} {ops:Array Oper} {F:(Tmp→Value)→Act} {B:Nat} {FB:World→Nat→Prop} {Ks:List Tmp} {w0:World} {G:List Leaves}:∀ (l:List Oper) (ds:List Tmp) (fs:List Lf) (n:Nat),KSteps P ops F B FB Ks w0 G n l ds fs →
 ∀ i o t f,l[i]? = some o→ds[i]? = some t→fs[i]? = some f→KStepAt P ops F B FB Ks w0 G (n+i) o t f.own (f.leaf t)
 | o' :: l,t' :: ds,f' :: fs,n,h,i,o,t,f,ho,ht,hf=>by
   obtain ⟨h1,h2⟩:=h
   cases i with
   | zero=>simp at ho ht hf;subst ho;subst ht;subst hf;exact h1
   | succ i =>
     have:=KSteps.get l ds fs (n+1) h2 i o t f (by simpa using ho) (by simpa using ht) (by simpa using hf)
     rw [Nat.add_right_comm] at this;exact this
 | [],_,_,_,_,i,_,_,_,ho,_,_=>by simp at ho
 | _ :: _,[],_,_,_,i,_,_,_,_,ht,_=>by simp at ht
 | _ :: _,_ :: _,[],_,_,i,_,_,_,_,_,hf=>by simp at hf
structure KInv (ops:Array Oper) (m:Nat) (ds:List Tmp) (B:Nat) (Ks:List Tmp) (w0:World) (G:List Leaves) (listed:Array Bool) (x:Tmp→Value) (w:World):Prop where
 below:Below B w0 w
 fact:∀ i s,i<m→listed.getD i false=true→G[i]? = some s→s.at x w
 key:∀ i t,i<m→listed.getD i false=true→ds[i]? = some t→t∈Ks→∃ p,x t=ptr p∧p<w.heap.size
 apart:∀ i j t u,i<m→j<m→i≠j→listed.getD i false=true→listed.getD j false=true→ds[i]? = some t→ds[j]? = some u→t∈Ks→u∈Ks→x t≠x u
variable {P:Program} {Q:Exit→Act→World→Prop} {a0:Act} {w0:World} {F:(Tmp→Value)→Act}
theorem wp_region_kc {id:Nat} {l:List Oper} (m:Nat) (ds:List Tmp) (fs:List Lf) (Ks:List Tmp) (FB:World→Nat→Prop) (hm:P.follows .mixedOrders=true)
 (hB:laterB l.toArray m ds ((leavesOf ds fs).map (·.T))=true) (hO:ownB l.toArray m ds ((leavesOf ds fs).map (·.T)) Ks (fs.map Lf.own)=true) (hlenF:fs.length=m)
 (hF:∀ x,fullC a0 ds fs x=F x)
 (keep:KeepC w0.heap.size FB Ks ((fs.map Lf.own).filterMap fun o=>o) ds fs)
 (steps:KSteps P l.toArray F w0.heap.size FB Ks w0 (leavesOf ds fs) 0 l ds fs)
 (fin:∀ x w,Below w0.heap.size w0 w→(∀ (j:Nat) s',(leavesOf ds fs)[j]? = some s'→s'.at x w)→(∀ t u,t∈Ks→u∈Ks→t∈ds→u∈ds→t≠u→x t≠x u)→wpAny P .any l.toArray Q (l.length-m) (Array.replicate m true ++ Array.replicate (l.length-m) false) (F x) w) :
 (Code.region id l.toArray true).wp P Q a0 w0:=by
 have ok:=LaterOk.of hB
 have hle:=ok.le
 have hsz:l.toArray.size=l.length:=by simp
 have hdf:ds.length=fs.length:=by rw [ok.len,hlenF]
 have hlenG:(leavesOf ds fs).length=m:=by rw [leavesOf_len hdf,hlenF]
 have keep:=keep.all
 obtain ⟨G,hG⟩:∃ G,leavesOf ds fs=G:=⟨_,rfl⟩
 obtain ⟨own,hw⟩:∃ own,fs.map Lf.own=own:=⟨_,rfl⟩
 rw [hG] at hB hO steps fin hlenG keep ok
 rw [hw] at hO keep
 simp only [ownB,Bool.and_eq_true,beq_iff_eq,decide_eq_true_eq,List.all_eq_true,List.mem_range] at hO
 obtain ⟨⟨hol,hnd⟩,hoo⟩:=hO
 have step:∀ i o t (listed:Array Bool),i<m→l.toArray[i]? = some o→ds[i]? = some t→i<listed.size→listed.getD i true=false→(∀ j∈waitsOn l.toArray i,listed.getD j false=true)→(∀ k,k<m→listed.getD k false=true→∀ j∈waitsOn l.toArray k,listed.getD j false=true)→∀ x w,KInv l.toArray m ds w0.heap.size Ks w0 G listed x w∧Agree ds fs x →
  ∀ K:Act→World→Prop,(∀ v w' b,(KInv l.toArray m ds w0.heap.size Ks w0 G (listed.setIfInBounds i true) (upd x (some t) v) w'∧Agree ds fs (upd x (some t) v))→b=(fullF a0 ds x).put (some t) v→K b w')→if Region.wanted o (yielded l.toArray (fullF a0 ds x).tmps)=true then o.wp P (fullF a0 ds x) w K (fun _ _ _=>False) else K ((fullF a0 ds x).put o.dst undef) w:=by
  intro i o t listed him ho ht hil hun hwl hclosed x w ⟨hI,hA⟩ K hK
  rw [(agree_full hdf hA).trans (hF x)] at hK ⊢
  obtain ⟨f,hf⟩:∃ f,fs[i]? = some f:=⟨_,List.getElem?_eq_getElem (by omega)⟩
  have hs:G[i]? = some (f.leaf t):=by rw [←hG];exact leavesOf_at ht hf
  have how:own[i]? = some f.own:=by rw [←hw];simp [hf]
  have hst:=KSteps.get l ds fs 0 steps i o t f (by simpa using ho) ht hf
  obtain ⟨s,hsf⟩:∃ s,f.leaf t=s:=⟨_,rfl⟩
  obtain ⟨ow,hof⟩:∃ ow,f.own=ow:=⟨_,rfl⟩
  rw [hsf] at hs hst
  rw [hof] at how hst
  rw [Nat.zero_add] at hst
  refine hst x w hI.below (fun j s' hj hs'=>?_) K fun v w' b hmv hb=>hK v w' b ⟨?_,agree_upd (fun i' u hd hfu=>?_) hA⟩ hb
  ·have hjw:=List.contains_iff_mem.1 hj
   exact hI.fact j s' (Nat.lt_trans (ok.topo i him j hjw) him) (hwl j hjw) hs'
  rotate_left
  ·have e:=ds_inj ok.nodup hd ht
   subst e
   rw [hf] at hfu;injection hfu with hfu
   subst hfu
   have hml:=hmv.leaf
   rw [←hsf] at hml
   have:upd x (some t) v t=u:=hml
   rwa [upd_self] at this
  have huf:listed.getD i false=false:=by simpa [hil] using hun
  -- a place of an operation that has come up is not t
  have hplace:∀ j u,j<m→listed.getD j false=true→(ds[j]? = some u∨∃ k∈waitsOn l.toArray j,ds[k]? = some u)→t≠u:=by
   intro j u hj hlj hu e
   subst e
   rcases hu with h1|⟨k,hk,h1⟩
   ·have:=ds_inj ok.nodup h1 ht
    subst this;rw [huf] at hlj;cases hlj
   ·have:=ds_inj ok.nodup h1 ht
    subst this
    have:=hclosed j hj hlj k hk
    rw [huf] at this;cases this
  have hgrow:∃ row,w.grownBy w' row:=by
   rcases hmv.row with h|⟨_,p,_,_,_,_,_,h⟩
   ·exact ⟨none,h⟩
   ·exact ⟨some p,h⟩
  have hsize:w.heap.size≤w'.heap.size:=by obtain ⟨row,h⟩:=hgrow;exact h.size
  refine ⟨?_,fun j s' hj hlj hs'=>?_,fun j u hj hlj hu hk=>?_,fun j k u z hj hk' hne hlj hlk hu hz hku hkz=>?_⟩
  ·rcases hmv.row with h|⟨_,p,_,_,hp,_,_,h⟩
   ·exact hI.below.grown h hI.below.size (fun k hk=>by cases hk)
   ·exact hI.below.grown h hI.below.size (fun k hk=>by injection hk with hk;omega)
  ·rcases getD_set hlj with e|e
   ·subst e;rw [hs] at hs';cases hs';exact hmv.leaf
   ·have hji:j≠i:=fun e2=>by subst e2;rw [huf] at e;cases e
    have hT:(G.map (·.T)).getD j []=s'.T:=by simp [hs']
    have hsupp:∀ u∈s'.T,ds[j]? = some u∨∃ k∈waitsOn l.toArray j,ds[k]? = some u:=fun u hu=>ok.supp j hj u (by rw [hT];exact hu)
    obtain ⟨d,hd⟩:∃ d,ds[j]? = some d:=⟨_,List.getElem?_eq_getElem (by rw [ok.len];exact hj)⟩
    have hkeep:=AllKeep.get keep j d s' hd hs'
    refine at_congr (x:=x) (fun u hu=>(upd_ne (hplace j u hj e (hsupp u hu))).symm) ?_
    rcases hmv.row with h|⟨t',p,h1,h2,h3,h4,h5,h6⟩
    ·exact hkeep.plain _ _ _ (hI.fact j s' hj e hs') h
    ·refine hkeep.owned x w w' p h4 h5 h3 h6 (fun u hu hku hup=>?_) (hI.fact j s' hj e hs')
     -- the key u of j is p: so it is t'
     subst h1
     have hoi:=(hoo i him).1
     have hgi:own.getD i none=some t':=by simp [how]
     rw [hgi] at hoi
     simp only [Bool.and_eq_true,List.contains_iff_mem,List.any_eq_true,beq_iff_eq] at hoi
     obtain ⟨hkt,q,hq,hqt⟩:=hoi
     have hqm:q<m:=Nat.lt_trans (ok.topo i him q hq) him
     have hql:=hwl q hq
     have hoj:=(hoo j hj).2 u (by rw [hT];exact hu)
     simp only [Bool.or_eq_true,Bool.not_eq_true',beq_iff_eq] at hoj
     rcases hoj with (h7|h7)|h7
     ·rw [List.contains_iff_mem.2 hku] at h7;cases h7
     ·-- j owns u: another key than t'
      exfalso
      have hut:u≠t':=fun e3=>by
       subst e3
       -- two operations own one key
       have hj':own[j]? = some (some u):=by
        rw [List.getD_eq_getElem?_getD] at h7
        cases h8:own[j]? with
        | none=>rw [h8] at h7;cases h7
        | some z=>rw [h8] at h7;rw [←h7];rfl
       exact own_once hnd hji hj' how
      have hoj1:=(hoo j hj).1
      rw [h7] at hoj1
      simp only [Bool.and_eq_true,List.contains_iff_mem,List.any_eq_true,beq_iff_eq] at hoj1
      obtain ⟨-,r,hr,hru⟩:=hoj1
      have hrm:r<m:=Nat.lt_trans (ok.topo j hj r hr) hj
      have hrq:r≠q:=fun e4=>by subst e4;rw [hru] at hqt;injection hqt with hqt;exact hut hqt
      exact hI.apart r q u t' hrm hqm hrq (hclosed j hj e r hr) hql hru hqt hku hkt (hup.trans h2.symm)
     ·by_cases hut:u=t'
      ·refine ⟨by rw [hd] at h7;injection h7,?_⟩
       rw [hut];exact List.mem_filterMap.2 ⟨some t',List.mem_of_getElem? how,rfl⟩
      ·exfalso
       have hjq:j≠q:=fun e4=>by subst e4;rw [hqt] at h7;injection h7 with h7;exact hut h7.symm
       exact hI.apart j q u t' hj hqm hjq e hql h7 hqt hku hkt (hup.trans h2.symm)
  ·rcases getD_set hlj with e|e
   ·subst e;rw [ht] at hu;injection hu with hu;subst hu
    obtain ⟨p,hv,_,hp⟩:=hmv.key hk
    exact ⟨p,by rw [upd_self,hv],hp⟩
   ·obtain ⟨p,hp,hpl⟩:=hI.key j u hj e hu hk
    exact ⟨p,by rw [upd_ne (hplace j u hj e (.inl hu)),hp],by omega⟩
  ·rcases getD_set hlj with e|e<;>rcases getD_set hlk with e2|e2
   ·subst e;subst e2;exact absurd rfl hne
   ·subst e;rw [ht] at hu;injection hu with hu;subst hu
    obtain ⟨p,hv,hp,_⟩:=hmv.key hku
    obtain ⟨q,hq,hql⟩:=hI.key k z hk' e2 hz hkz
    rw [upd_self,upd_ne (hplace k z hk' e2 (.inl hz)),hv,hq]
    intro e3;have:=ptr_inj e3;omega
   ·subst e2;rw [ht] at hz;injection hz with hz;subst hz
    obtain ⟨p,hv,hp,_⟩:=hmv.key hkz
    obtain ⟨q,hq,hql⟩:=hI.key j u hj e hu hku
    rw [upd_self,upd_ne (hplace j u hj e (.inl hu)),hv,hq]
    intro e3;have:=ptr_inj e3;omega
   ·rw [upd_ne (hplace j u hj e (.inl hu)),upd_ne (hplace k z hk' e2 (.inl hz))]
    exact hI.apart j k u z hj hk' hne e e2 hu hz hku hkz
 obtain ⟨x0,hx0⟩:=agree_ex (fs:=fs) ok.nodup
 refine wp_region_any hm (inv_go ok (fun _=>rfl) (fun listed x w=>KInv l.toArray m ds w0.heap.size Ks w0 G listed x w∧Agree ds fs x) step (fun x w hI=>?_) m _ _ x0 a0 _ (by simp) ?_ (by omega) (fun k _ hk=>?_) (fun i _ h=>?_) ⟨⟨(Below.refl _ _).drew,fun i s _ h=>?_,fun i t _ h=>?_,fun i j t u _ _ _ h=>?_⟩,hx0⟩ (Filled.start _ _ _ _ _))
 ·obtain ⟨hI,hA⟩:=hI
  rw [(agree_full hdf hA).trans (hF x)]
  have hall:∀ i,i<m→(Array.replicate m true ++ Array.replicate (l.toArray.size-m) false).getD i false=true:=fun i hi=>by
   simp [Array.getElem?_append,hi]
  rw [hsz] at hall ⊢
  refine fin x w hI.below (fun j s' hs'=>?_) (fun t u hkt hku htd hud hne=>?_)
  ·have hj:j<m:=by rw [←hlenG];exact (List.getElem?_eq_some_iff.1 hs').1
   exact hI.fact j s' hj (by rw [hsz];exact hall j hj) hs'
  ·obtain ⟨i,hi,e⟩:=List.getElem_of_mem htd
   obtain ⟨j,hj,e2⟩:=List.getElem_of_mem hud
   have hi':i<m:=by rw [ok.len] at hi;exact hi
   have hj':j<m:=by rw [ok.len] at hj;exact hj
   have hij:i≠j:=fun e3=>by subst e3;exact hne (e.symm.trans e2)
   exact hI.apart i j t u hi' hj' hij (by rw [hsz];exact hall i hi') (by rw [hsz];exact hall j hj') (by rw [List.getElem?_eq_getElem hi,e]) (by rw [List.getElem?_eq_getElem hj,e2]) hkt hku
 ·simp [Array.toList_replicate]
 ·simp [Array.getElem?_replicate];split<;>simp_all
 all_goals
  exfalso
  simp [Array.getElem?_replicate] at h
  split at h<;>simp at h
end
end Go.Proofs.YtkljafmdbajfeaaGreatDoor
