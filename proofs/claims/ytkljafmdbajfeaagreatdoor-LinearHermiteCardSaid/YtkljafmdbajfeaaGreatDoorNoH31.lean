/- A region that draws its order and ends in stores: constants beside, and one fact that goes from call to call, store to store. -/
import Derived.Test.YtkljafmdbajfeaaGreatDoorNoH21
namespace Go.Proofs.YtkljafmdbajfeaaGreatDoor
set_option linter.unusedVariables false
set_option linter.unusedSimpArgs false
section
open Go.RowKit
def storesB (ops:Array Oper) (m:Nat) (ds:List Tmp):Bool :=
 Region.noSelect ops && ds.length == m && m == ops.size && decide ds.Nodup &&
 (List.range m).all (fun i=>match ops[i]? with
   | none=>false
   | some o=>(o.dst == ds[i]? || (o.dst == none && decide (100000≤ds.getD i 0))) && (waitsOn ops i).all (fun j=>decide (j<i)) &&
      (o.looksAt ops).all (fun t=>(List.range m).all fun j=>!(ds[j]? == some t) || (waitsOn ops i).contains j))
structure StoresOk (ops:Array Oper) (m:Nat) (ds:List Tmp):Prop where
 sel:Region.noSelect ops=true
 len:ds.length=m
 le:m=ops.size
 nodup:ds.Nodup
 dst:∀ i o,i<m→ops[i]? = some o→o.dst=ds[i]? ∨ (o.dst=none∧100000≤ds.getD i 0)
 topo:∀ i,i<m→∀ j∈waitsOn ops i,j<i
 look:∀ i o,i<m→ops[i]? = some o→∀ t∈o.looksAt ops,∀ j,j<m→ds[j]? = some t→j∈waitsOn ops i
theorem StoresOk.of {ops:Array Oper} {m:Nat} {ds:List Tmp} (h:storesB ops m ds=true):StoresOk ops m ds:=by
 simp only [storesB,Bool.and_eq_true,beq_iff_eq,decide_eq_true_eq,List.all_eq_true,List.mem_range] at h
 obtain ⟨⟨⟨⟨h1,h2⟩,h3⟩,h4⟩,h5⟩:=h
 have g:∀ i o,i<m→ops[i]? = some o→((o.dst=ds[i]? ∨ (o.dst=none∧100000≤ds.getD i 0))∧∀ j∈waitsOn ops i,j<i)∧∀ t∈o.looksAt ops,∀ j,j<m→ds[j]? = some t→j∈waitsOn ops i:=fun i o hi ho=>by
  have:=h5 i hi
  rw [ho] at this
  simp only [Bool.and_eq_true,beq_iff_eq,List.all_eq_true,decide_eq_true_eq,List.mem_range,Bool.or_eq_true,Bool.not_eq_true',List.contains_iff_mem] at this
  refine ⟨this.1,fun t ht j hj hd=>?_⟩
  rcases this.2 t ht j hj with e|e
  ·simp [hd] at e
  ·exact e
 have e:∀ i,i<m→∃ o,ops[i]? = some o:=fun i hi=>⟨_,Array.getElem?_eq_getElem (by omega)⟩
 exact ⟨h1,h2,h3,h4,fun i o hi ho=>(g i o hi ho).1.1,fun i hi j hj=>by obtain ⟨o,ho⟩:=e i hi;exact (g i o hi ho).1.2 j hj,fun i o hi ho=>(g i o hi ho).2⟩
theorem put_big {o:Oper} {t:Tmp} {a b:Act} (hd:o.dst=some t∨(o.dst=none∧a.tmps.size≤t)) (hs:b.tmps.size=a.tmps.size) {v:Value}:b.put o.dst v=b.put (some t) v:=by
 rcases hd with h|⟨h,h2⟩
 ·rw [h]
 ·rw [h]
  simp only [Act.put]
  rw [Array.setIfInBounds_eq_of_size_le (by omega)]
theorem wp_seesS {P:Program} {ops:Array Oper} {o:Oper} {t:Tmp} {a b:Act} (hd:o.dst=some t∨(o.dst=none∧a.tmps.size≤t)) (hs:∀ cs b,o.op≠.select cs b) (hsz:a.tmps.size=b.tmps.size) (h:∀ t∈o.looksAt ops,a.tmps[t]? = b.tmps[t]?) {w:World} {R:Value→World→Prop} {K:Act→World→Prop} {Q:Exit→Act→World→Prop}
 (hK:∀ v w',R v w'→K (a.put (some t) v) w') (hh:o.wp P b w (fun b' w'=>∃ v,b'=b.put (some t) v∧R v w') (fun _ _ _=>False)):o.wp P a w K Q:=by
 unfold Oper.wp at *
 rw [execOp_sees hs h]
 have fin:∀ u w',(∃ v,b.put o.dst u=b.put (some t) v∧R v w')→K (a.put o.dst u) w':=fun u w' ⟨v,e,hR⟩=>by
  rw [put_big hd hsz.symm] at e
  rw [put_big hd rfl,put_same hsz e];exact hK v w' hR
 generalize (execOp b.eval o).run P w=r at *
 cases r with
 | ok n w' =>
   cases n<;>simp only [Oper.upon] at hh ⊢
   case value u=>exact fin u w' hh
   case skip=>exact fin undef w' hh
   case defer d =>
    obtain ⟨v,e,-⟩:=hh
    have e2:=congrArg Act.defers e
    rw [put_defers,put_defers] at e2
    have:=congrArg List.length e2
    simp at this
   case enter f args =>
    refine Calls.mono hh fun e w'' he=>?_
    cases e with
    | returned u=>exact fin u w'' he
    | panicked c=>exact he.elim
    | outgrown=>obtain ⟨_,_,h0⟩:=he;exact h0.elim
   case row row args=>exact Rows.mono hh fun u w'' he=>fin u w'' he
 | halt y w'=>cases y<;>simp only [Oper.upon] at hh ⊢
section
variable {P:Program} {ops:Array Oper} {Q:Exit→Act→World→Prop} {m:Nat} {ds:List Tmp} {a0:Act} {w0:World} {F:(Tmp→Value)→Act}
theorem inv_goS (ok:StoresOk ops m ds) (hbig:a0.tmps.size≤100000) (hF:∀ x,fullF a0 ds x=F x) (Inv:Array Bool→(Tmp→Value)→World→Prop)
 (step:∀ i o t (listed:Array Bool),i<m→ops[i]? = some o→ds[i]? = some t→i<listed.size→listed.getD i true=false→(∀ j∈waitsOn ops i,listed.getD j false=true)→(∀ k,k<m→listed.getD k false=true→∀ j∈waitsOn ops k,listed.getD j false=true)→∀ x w,Inv listed x w →
   ∀ K:Act→World→Prop,(∀ v w' b,Inv (listed.setIfInBounds i true) (upd x (some t) v) w'→b=(F x).put (some t) v→K b w')→if Region.wanted o (yielded ops (F x).tmps)=true then o.wp P (F x) w K (fun _ _ _=>False) else K ((F x).put o.dst undef) w)
 (fin:∀ x w,Inv (Array.replicate m true ++ Array.replicate (ops.size-m) false) x w→wpAny P .any ops Q (ops.size-m) (Array.replicate m true ++ Array.replicate (ops.size-m) false) (F x) w) :
 ∀ (r fuel:Nat) (listed:Array Bool) (x:Tmp→Value) (a:Act) (w:World),listed.size=ops.size→listed.toList.count false=fuel→fuel=r+(ops.size-m)→(∀ k,m≤k→k<ops.size→listed.getD k true=false) →
  (∀ i,i<m→listed.getD i false=true→∀ j∈waitsOn ops i,listed.getD j false=true) →
  Inv listed x w→Filled m ds listed x a0 a→wpAny P .any ops Q fuel listed a w:=by
 intro r
 induction r with
 | zero =>
   intro fuel listed x a w hsz hcnt hfuel hrest hclosed hinv hfill
   -- all of the first m have come up
   have hle:=Nat.le_of_eq ok.le
   have hall:∀ i,i<m→listed.getD i false=true:=by
    intro i hi
    cases hv:listed.getD i false
    ·exfalso
     -- then more than n - m are false
     have hsplit:listed.toList.count false=(listed.toList.take m).count false+(listed.toList.drop m).count false:=by
      rw [←List.count_append,List.take_append_drop]
     have hdrop:(listed.toList.drop m).count false=ops.size-m:=by
      have:∀ b∈listed.toList.drop m,false=b:=fun b hb=>by
       obtain ⟨k,hk,e⟩:=List.getElem_of_mem hb
       rw [List.length_drop] at hk
       have hkk:m+k<listed.size:=by simp at hk;omega
       have:=hrest (m+k) (by omega) (by omega)
       rw [List.getElem_drop] at e
       simp [hkk] at this
       rw [←e];simpa using this.symm
      rw [List.count_eq_length.2 this,List.length_drop];simp [hsz]
     have htake:0<(listed.toList.take m).count false:=by
      rw [List.count_pos_iff]
      have hil:i<listed.size:=by omega
      have:(listed.toList.take m)[i]'(by simp;omega)=false:=by
       rw [List.getElem_take];simpa [hil] using hv
      rw [←this];exact List.getElem_mem _
     omega
    ·rfl
   have hpre:listed=Array.replicate m true ++ Array.replicate (ops.size-m) false:=by
    apply Array.ext
    ·simp;omega
    ·intro k h1 h2
     by_cases hk:k<m
     ·have:=hall k hk
      simp [h1] at this
      rw [Array.getElem_append_left (by simpa using hk)];simpa using this
     ·have:=hrest k (by omega) (by omega)
      simp [h1] at this
      rw [Array.getElem_append_right (by simp;omega)];simpa using this
   rw [hfill.full ok.len hall,hF,hfuel,Nat.zero_add,hpre]
   exact fin x w (by rw [←hpre];exact hinv)
 | succ r ih =>
   intro fuel listed x a w hsz hcnt hfuel hrest hclosed hinv hfill
   have hle:=Nat.le_of_eq ok.le
   obtain ⟨fuel,rfl⟩:∃ f,fuel=f+1:=⟨fuel-1,by omega⟩
   -- one of the first m has not come up
   have hex:∃ i,i<m∧listed.getD i false=false:=by
    refine Classical.byContradiction fun hno=>?_
    have hall:∀ i,i<m→listed.getD i false=true:=fun i hi=>by
     cases hv:listed.getD i false
     ·exact absurd ⟨i,hi,hv⟩ hno
     ·rfl
    have hsplit:listed.toList.count false=(listed.toList.take m).count false+(listed.toList.drop m).count false:=by
     rw [←List.count_append,List.take_append_drop]
    have htake:(listed.toList.take m).count false=0:=by
     rw [List.count_eq_zero]
     intro hmem
     obtain ⟨k,hk,e⟩:=List.getElem_of_mem hmem
     rw [List.length_take] at hk
     have hkl:k<listed.size:=by simp at hk;omega
     have:=hall k (by omega)
     rw [List.getElem_take] at e
     simp [hkl] at this
     simp [this] at e
    have hd:(listed.toList.drop m).count false≤ops.size-m:=by
     refine Nat.le_trans List.count_le_length ?_
     rw [List.length_drop];simp [hsz]
    omega
   refine ⟨fun h0=>?_,fun i hi=>?_⟩
   ·exfalso
    -- the first of them may come up
    have hmin:∀ k,(∀ j,j<k→j<m→listed.getD j false=true)∨∃ i,i<m∧listed.getD i false=false∧∀ j,j<i→listed.getD j false=true:=by
     intro k
     induction k with
     | zero=>exact .inl fun j hj=>by omega
     | succ k ihk =>
       rcases ihk with h1|h1
       ·by_cases hkm:k<m
        ·cases hv:listed.getD k false
         ·exact .inr ⟨k,hkm,hv,fun j hj=>h1 j hj (by omega)⟩
         ·refine .inl fun j hj hjm=>?_
          rcases Nat.lt_or_ge j k with h2|h2
          ·exact h1 j h2 hjm
          ·have:j=k:=by omega
           subst this;exact hv
        ·refine .inl fun j hj hjm=>h1 j (by omega) hjm
       ·exact .inr h1
    rcases hmin m with h1|⟨i,him,hif,hlow⟩
    ·obtain ⟨i,hi,hv⟩:=hex
     rw [h1 i hi hi] at hv;cases hv
    ·have hil:i<listed.size:=by omega
     have:i∈Region.ready .any ops listed:=by
      rw [mem_ready]
      refine ⟨by simpa [hil] using hif,ops[i]'(by omega),Array.getElem?_eq_getElem (by omega),fun e he hb=>?_⟩
      refine hlow _ (ok.topo i him _ ?_)
      unfold waitsOn
      rw [Array.getElem?_eq_getElem (by omega)]
      exact List.mem_map.2 ⟨e,List.mem_filter.2 ⟨by simpa using he,hb⟩,rfl⟩
     rw [h0] at this;cases this
   ·obtain ⟨hun,o,ho,hafter⟩:=mem_ready.1 hi
    have hin:i<ops.size:=(Array.getElem?_eq_some_iff.1 ho).1
    have hwl:∀ j∈waitsOn ops i,listed.getD j false=true:=by
     intro j hj
     unfold waitsOn at hj
     rw [ho] at hj
     obtain ⟨e,he,rfl⟩:=List.mem_map.1 hj
     obtain ⟨he1,he2⟩:=List.mem_filter.1 he
     exact hafter e (by simpa using he1) he2
    have him:i<m:=by
     rcases Nat.lt_or_ge i m with h|h
     ·exact h
     ·obtain ⟨k,hk,hv⟩:=hex
      have:=ok.le;omega
    obtain ⟨t,ht⟩:∃ t,ds[i]? = some t:=⟨_,List.getElem?_eq_getElem (by rw [ok.len];exact him)⟩
    have hd:o.dst=some t∨(o.dst=none∧a.tmps.size≤t):=by
     rcases ok.dst i o him ho with h|⟨h,h2⟩
     ·exact .inl (h.trans ht)
     ·refine .inr ⟨h,?_⟩
      rw [hfill.size]
      have e0:ds.getD i 0=t:=by rw [List.getD_eq_getElem?_getD,ht];rfl
      rw [e0] at h2
      exact Nat.le_trans hbig h2
    have hsees:∀ u∈o.looksAt ops,a.tmps[u]? = (F x).tmps[u]? := fun u hu=>by
     rw [←hF]
     exact hfill.sees ok.len fun j hj hju=>hwl j (ok.look i o him ho u hu j hj hju)
    have hasz:a.tmps.size=(F x).tmps.size:=by rw [←hF,fullF_size,hfill.size]
    have hsel:=fun cs b=>Region.noSelect_spec ok.sel i o cs b ho
    -- what is left behind it
    have hnext:∀ v w',Inv (listed.setIfInBounds i true) (upd x (some t) v) w'→wpAny P .any ops Q fuel (listed.setIfInBounds i true) (a.put (some t) v) w':=by
     intro v w' hw
     have hlis:i<listed.size:=by omega
     refine ih fuel _ (upd x (some t) v) _ w' (by simp [hsz]) (by have:=count_set hun;omega) (by omega) (fun k hk hkn=>?_) (fun j hj hlj=>?_) hw (hfill.put ok.nodup him hlis ht v)
     ·rw [getD_set_ne true (by omega)];exact hrest k hk hkn
     ·intro k hk
      rcases getD_set hlj with e|e
      ·subst e;exact getD_set_true (hwl k hk)
      ·exact getD_set_true (hclosed j hj e k hk)
    have hst:=step i o t listed him ho ht (by omega) hun hwl hclosed x w hinv
    unfold wpOp
    simp only [ho]
    rw [wanted_sees hsees]
    by_cases hw:Region.wanted o (yielded ops (F x).tmps)=true
    ·rw [if_pos hw]
     refine .inl (wp_seesS hd hsel hasz hsees (R:=fun v w'=>Inv (listed.setIfInBounds i true) (upd x (some t) v) w') (fun v w' h=>hnext v w' h) ?_)
     have:=hst (fun b' w'=>∃ v,b'=(F x).put (some t) v∧Inv (listed.setIfInBounds i true) (upd x (some t) v) w') (fun v w' b h1 hb=>⟨v,hb,h1⟩)
     rw [if_pos hw] at this
     exact this
    ·rw [if_neg hw]
     have:=hst (fun b' w'=>∃ v,b'=(F x).put (some t) v∧Inv (listed.setIfInBounds i true) (upd x (some t) v) w') (fun v w' b h1 hb=>⟨v,hb,h1⟩)
     rw [if_neg hw,put_big hd hasz.symm] at this
     obtain ⟨v,e,h1⟩:=this
     rw [put_big hd rfl,put_same hasz e]
     exact hnext v w h1
end
def mixB (ops:Array Oper) (m:Nat) (cs:List (Option Value)) (ch fl:List Nat):Bool :=
 decide (cs.length=m) && decide ch.Nodup && ch.all (fun i=>decide (i<m) && ((cs.getD i none).isNone) && !fl.contains i) && fl.all (fun i=>(cs.getD i none).isNone) && (List.range m).all (fun i=>(cs.getD i none).isSome || ch.contains i || fl.contains i) &&
 (List.range ch.length).all fun j=>j == 0 || (waitsOn ops (ch.getD j 0)).contains (ch.getD (j-1) 0)
def MGood (cs:List (Option Value)) (fl:List Nat) (Fl:Nat→Value→World→Prop) (R:World→World→Prop) (C:List Value→World→Prop) (i:Nat) (vs:List Value) (w:World) (v:Value) (w':World):Prop :=
 match cs.getD i none with
 | some c=>v=c∧w'=w
 | none=>if fl.contains i=true then Fl i v w'∧Below w.heap.size w w' else C (vs ++ [v]) w'∧R w w'
theorem MGood.flt {cs:List (Option Value)} {fl:List Nat} {Fl:Nat→Value→World→Prop} {R:World→World→Prop} {C:List Value→World→Prop} {i:Nat} {vs:List Value} {w w':World} {v:Value} (h1:cs.getD i none=none) (h2:fl.contains i=true) (h:Fl i v w') (hb:Below w.heap.size w w'):MGood cs fl Fl R C i vs w v w':=by
 unfold MGood;rw [h1];simp only [h2,if_true];exact ⟨h,hb⟩
theorem MGood.link {cs:List (Option Value)} {fl:List Nat} {Fl:Nat→Value→World→Prop} {R:World→World→Prop} {C:List Value→World→Prop} {i:Nat} {vs:List Value} {w w':World} {v:Value} (h1:cs.getD i none=none) (h2:fl.contains i=false) (h:C (vs ++ [v]) w') (hr:R w w'):MGood cs fl Fl R C i vs w v w':=by
 unfold MGood;rw [h1];simp only [h2,if_false,Bool.false_eq_true];exact ⟨h,hr⟩
theorem given_len {ch:List Nat} {ds:List Tmp} {k:Nat} {x:Tmp→Value}:(given ch ds k x).length=min k ch.length:=by unfold given;simp
def SStepAt (P:Program) (ops:Array Oper) (F:(Tmp→Value)→Act) (cs:List (Option Value)) (ch fl:List Nat) (ds:List Tmp) (Fl:Nat→Value→World→Prop) (R:World→World→Prop) (C:List Value→World→Prop) (i:Nat) (o:Oper) (t:Tmp):Prop :=
 ∀ x w k,k≤ch.length→C (given ch ds k x) w→(∀ j c,(waitsOn ops i).contains j=true→cs.getD j none=some c→x (ds.getD j 0)=c)→(∀ j,(waitsOn ops i).contains j=true→fl.contains j=true→Fl j (x (ds.getD j 0)) w)→(∀ j,ch[j]? = some i→k=j)→(∀ j q,ch[j]? = some q→(waitsOn ops q).contains i=true→k≤j) →
  ∀ K:Act→World→Prop,(∀ v w' b,MGood cs fl Fl R C i (given ch ds k x) w v w'→b=(F x).put (some t) v→K b w')→if Region.wanted o (yielded ops (F x).tmps)=true then o.wp P (F x) w K (fun _ _ _=>False) else K ((F x).put o.dst undef) w
def SStepsFrom (P:Program) (ops:Array Oper) (F:(Tmp→Value)→Act) (cs:List (Option Value)) (ch fl:List Nat) (ds0:List Tmp) (Fl:Nat→Value→World→Prop) (R:World→World→Prop) (C:List Value→World→Prop):Nat→List Oper→List Tmp→Prop
 | i,o :: l,t :: ds=>SStepAt P ops F cs ch fl ds0 Fl R C i o t∧SStepsFrom P ops F cs ch fl ds0 Fl R C (i+1) l ds
 | _,_,_=>True
theorem SStepsFrom.get {P:Program} {ops:Array Oper} {F:(Tmp→Value)→Act} {cs:List (Option Value)} {ch fl:List Nat} {ds0:List Tmp} {Fl:Nat→Value→World→Prop} {R:World→World→Prop} {C:List Value→World→Prop}:∀ (l:List Oper) (ds:List Tmp) (n:Nat),SStepsFrom P ops F cs ch fl ds0 Fl R C n l ds →
 ∀ i o t,l[i]? = some o→ds[i]? = some t→SStepAt P ops F cs ch fl ds0 Fl R C (n+i) o t
 | o' :: l,t' :: ds,n,h,i,o,t,ho,ht=>by
   obtain ⟨h1,h2⟩:=h
   cases i with
   | zero=>simp at ho ht;subst ho;subst ht;exact h1
   | succ i =>
     have:=SStepsFrom.get l ds (n+1) h2 i o t (by simpa using ho) (by simpa using ht)
     rw [Nat.add_right_comm] at this;exact this
 | [],_,_,_,i,_,_,ho,_=>by simp at ho
 | _ :: _,[],_,_,i,_,_,_,ht=>by simp at ht
structure SInv (m:Nat) (ds:List Tmp) (cs:List (Option Value)) (ch fl:List Nat) (Fl:Nat→Value→World→Prop) (C:List Value→World→Prop) (listed:Array Bool) (x:Tmp→Value) (w:World):Prop where
 con:∀ i c,i<m→listed.getD i false=true→cs.getD i none=some c→x (ds.getD i 0)=c
 flt:∀ i,i<m→listed.getD i false=true→fl.contains i=true→Fl i (x (ds.getD i 0)) w
 link:∃ k,k≤ch.length∧(∀ j i,ch[j]? = some i→(listed.getD i false=true↔j<k))∧C (given ch ds k x) w
variable {P:Program} {Q:Exit→Act→World→Prop} {a0:Act} {w0:World} {F:(Tmp→Value)→Act}
theorem wp_region_stores {id:Nat} {l:List Oper} (m:Nat) (ds:List Tmp) (cs:List (Option Value)) (ch fl:List Nat) (Fl:Nat→Value→World→Prop) (R:World→World→Prop) (C:List Value→World→Prop) (hm:P.follows .mixedOrders=true)
 (hB:storesB l.toArray m ds=true) (hO:mixB l.toArray m cs ch fl=true) (hbig:a0.tmps.size≤100000) (hF:∀ x,fullF a0 ds x=F x)
 (hFR:∀ i v w w',Fl i v w→R w w'→Fl i v w') (hFB:∀ i v w w',Fl i v w→Below w.heap.size w w'→Fl i v w') (hCB:∀ vs w w',C vs w→Below w.heap.size w w'→C vs w') (h0:C [] w0.drew)
 (steps:SStepsFrom P l.toArray F cs ch fl ds Fl R C 0 l ds)
 (fin:∀ x w,(∀ i c,i<m→cs.getD i none=some c→x (ds.getD i 0)=c)→C (given ch ds ch.length x) w→Q .normal (F x) w) :
 (Code.region id l.toArray true).wp P Q a0 w0:=by
 have ok:=StoresOk.of hB
 have hle:=Nat.le_of_eq ok.le
 have hsz:l.toArray.size=l.length:=by simp
 simp only [mixB,Bool.and_eq_true,decide_eq_true_eq,List.all_eq_true,List.mem_range,Bool.or_eq_true,beq_iff_eq,List.contains_iff_mem,Bool.not_eq_true'] at hO
 obtain ⟨⟨⟨⟨⟨hcl,hnd⟩,hch⟩,hfl⟩,hall⟩,hlink⟩:=hO
 have hdsg:∀ {i t},ds[i]? = some t→ds.getD i 0=t:=fun h=>by rw [List.getD_eq_getElem?_getD,h];rfl
 have hchn:∀ {j i},ch[j]? = some i→i<m∧cs.getD i none=none∧fl.contains i=false:=fun h=>by
  have:=hch _ (List.mem_of_getElem? h)
  exact ⟨this.1.1,by simpa using this.1.2,this.2⟩
 have hinj:∀ {j j' i},ch[j]? = some i→ch[j']? = some i→j=j':=fun h h'=>nat_inj hnd h h'
 have step:∀ i o t (listed:Array Bool),i<m→l.toArray[i]? = some o→ds[i]? = some t→i<listed.size→listed.getD i true=false→(∀ j∈waitsOn l.toArray i,listed.getD j false=true)→(∀ k,k<m→listed.getD k false=true→∀ j∈waitsOn l.toArray k,listed.getD j false=true)→∀ x w,SInv m ds cs ch fl Fl C listed x w →
  ∀ K:Act→World→Prop,(∀ v w' b,SInv m ds cs ch fl Fl C (listed.setIfInBounds i true) (upd x (some t) v) w'→b=(F x).put (some t) v→K b w')→if Region.wanted o (yielded l.toArray (F x).tmps)=true then o.wp P (F x) w K (fun _ _ _=>False) else K ((F x).put o.dst undef) w:=by
  intro i o t listed him ho ht hil hun hwl hclosed x w hI K hK
  have huf:listed.getD i false=false:=by simpa [hil] using hun
  obtain ⟨k,hk,hks,hC⟩:=hI.link
  have hst:=SStepsFrom.get l ds 0 steps i o t (by simpa using ho) ht
  rw [Nat.zero_add] at hst
  -- a link comes up when those before it have
  have hkj:∀ j,ch[j]? = some i→k=j:=fun j hj=>by
   have h1:¬ j<k:=fun h=>by rw [(hks j i hj).2 h] at huf;cases huf
   rcases Nat.lt_or_ge k j with h2|h2
   ·exfalso
    have hjl:=(List.getElem?_eq_some_iff.1 hj).1
    have h3:=hlink j hjl
    rcases h3 with h3|h3
    ·omega
    ·have h4:ch.getD j 0=i:=by rw [List.getD_eq_getElem?_getD,hj];rfl
     have h5:ch[j-1]? = some (ch.getD (j-1) 0):=by rw [List.getD_eq_getElem?_getD,List.getElem?_eq_getElem (by omega)];rfl
     rw [h4] at h3
     have h6:=(hks (j-1) _ h5).1 (hwl _ h3)
     omega
   ·omega
  have hne:∀ j,j<m→listed.getD j false=true→t≠ds.getD j 0:=fun j hj hlj e=>by
   have h1:ds[j]? = some t:=by rw [e,List.getD_eq_getElem?_getD,List.getElem?_eq_getElem (by rw [ok.len];exact hj)];rfl
   have:=ds_inj ok.nodup h1 ht
   subst this;rw [huf] at hlj;cases hlj
  have hgiv:∀ v,given ch ds k (upd x (some t) v)=given ch ds k x:=fun v=>by
   unfold given
   apply List.map_congr_left
   intro q hq
   obtain ⟨j,hj,e⟩:=List.getElem_of_mem hq
   rw [List.length_take] at hj
   rw [List.getElem_take] at e
   have hq':ch[j]? = some q:=by rw [List.getElem?_eq_getElem (by omega),e]
   exact upd_ne (hne q (hchn hq').1 ((hks j q hq').2 (by omega)))
  refine hst x w k hk hC (fun j c hj hc=>?_) (fun j hj hf=>?_) hkj (fun j q hj hq=>?_) K fun v w' b hg hb=>hK v w' b ?_ hb
  ·have hjw:=List.contains_iff_mem.1 hj
   exact hI.con j c (Nat.lt_trans (ok.topo i him j hjw) him) (hwl j hjw) hc
  ·have hjw:=List.contains_iff_mem.1 hj
   exact hI.flt j (Nat.lt_trans (ok.topo i him j hjw) him) (hwl j hjw) hf
  ·rcases Nat.lt_or_ge j k with h1|h1
   ·have h2:=(hks j q hj).2 h1
    have:=hclosed q (hchn hj).1 h2 i (List.contains_iff_mem.1 hq)
    rw [huf] at this;cases this
   ·exact h1
  unfold MGood at hg
  have hself:upd x (some t) v (ds.getD i 0)=v:=by rw [hdsg ht];exact upd_self _ _ _
  have hlinks:i ∉ ch→∀ j q,ch[j]? = some q→((listed.setIfInBounds i true).getD q false=true↔j<k):=fun hi j q hj=>by
   have hqi:q≠i:=fun e=>hi (by subst e;exact List.mem_of_getElem? hj)
   rw [←hks j q hj]
   constructor
   ·intro h;rcases getD_set h with e|e
    ·exact absurd e hqi
    ·exact e
   ·exact getD_set_true
  cases hci:cs.getD i none with
  | some c =>
    rw [hci] at hg
    obtain ⟨hgc,rfl⟩:=hg
    refine ⟨fun j c' hj hlj hc=>?_,fun j hj hlj hf=>?_,?_⟩
    ·rcases getD_set hlj with e|e
     ·subst e;rw [hc] at hci;cases hci;rw [hself];exact hgc
     ·rw [upd_ne (hne j hj e)];exact hI.con j c' hj e hc
    ·rcases getD_set hlj with e|e
     ·subst e;have:=hfl j (List.contains_iff_mem.1 hf);rw [hci] at this;simp at this
     ·rw [upd_ne (hne j hj e)];exact hI.flt j hj e hf
    ·refine ⟨k,hk,hlinks (fun hi=>?_),by rw [hgiv];exact hC⟩
     have:=(hch i hi).1.2;rw [hci] at this;simp at this
  | none =>
    rw [hci] at hg
    by_cases hfi:fl.contains i=true
    ·simp only [hfi,if_true] at hg
     obtain ⟨hgf,hgb⟩:=hg
     refine ⟨fun j c hj hlj hc=>?_,fun j hj hlj hf=>?_,?_⟩
     ·rcases getD_set hlj with e|e
      ·subst e;rw [hc] at hci;cases hci
      ·rw [upd_ne (hne j hj e)];exact hI.con j c hj e hc
     ·rcases getD_set hlj with e|e
      ·subst e;rw [hself];exact hgf
      ·rw [upd_ne (hne j hj e)];exact hFB _ _ _ _ (hI.flt j hj e hf) hgb
     ·refine ⟨k,hk,hlinks (fun hi=>?_),by rw [hgiv];exact hCB _ _ _ hC hgb⟩
      have:=(hch i hi).2
      rw [hfi] at this;cases this
    ·simp only [hfi,if_false,Bool.false_eq_true] at hg
     obtain ⟨hgc,hgr⟩:=hg
     have hmem:i∈ch:=by
      rcases hall i him with (h|h)|h
      ·rw [hci] at h;simp at h
      ·exact h
      ·exact absurd (List.contains_iff_mem.2 h) hfi
     obtain ⟨j0,hj0,e0⟩:=List.getElem_of_mem hmem
     have hj0':ch[j0]? = some i:=by rw [List.getElem?_eq_getElem hj0,e0]
     have:=hkj j0 hj0'
     subst this
     refine ⟨fun j c hj hlj hc=>?_,fun j hj hlj hf=>?_,k+1,by omega,fun j q hj=>?_,?_⟩
     ·rcases getD_set hlj with e|e
      ·subst e;rw [hc] at hci;cases hci
      ·rw [upd_ne (hne j hj e)];exact hI.con j c hj e hc
     ·rcases getD_set hlj with e|e
      ·subst e;exact absurd hf hfi
      ·rw [upd_ne (hne j hj e)];exact hFR _ _ _ _ (hI.flt j hj e hf) hgr
     ·constructor
      ·intro h;rcases getD_set h with e|e
       ·rw [e] at hj;have:=hinj hj hj0';omega
       ·have:=(hks j q hj).1 e;omega
      ·intro h
       by_cases hjk:j=k
       ·subst hjk;rw [hj0'] at hj;injection hj with hj;subst hj
        simp [hil]
       ·exact getD_set_true ((hks j q hj).2 (by omega))
     ·have e1:given ch ds (k+1) (upd x (some t) v)=given ch ds k x ++ [v]:=by
       rw [←hgiv v]
       unfold given
       rw [List.take_add_one,hj0',List.map_append]
       simp only [Option.toList_some,List.map_cons,List.map_nil]
       rw [hself]
      rw [e1];exact hgc
 refine wp_region_any hm (inv_goS ok hbig hF (SInv m ds cs ch fl Fl C) step (fun x w hI=>?_) m _ _ (fun _=>undef) a0 _ (by simp) ?_ (by omega) (fun k _ hk=>?_) (fun i _ h=>?_) ⟨fun i c _ h=>?_,fun i _ h=>?_,0,Nat.zero_le _,fun j i hj=>?_,h0⟩ (Filled.start _ _ _ _ _))
 ·have hm0:l.toArray.size-m=0:=by have:=ok.le;omega
  rw [hm0]
  have hall':∀ i,i<m→(Array.replicate m true ++ Array.replicate (l.toArray.size-m) false).getD i false=true:=fun i hi=>by
   simp [Array.getElem?_append,hi]
  obtain ⟨k,hk,hks,hC⟩:=hI.link
  have hkl:k=ch.length:=by
   rcases Nat.lt_or_ge k ch.length with h|h
   ·have h1:ch[k]? = some ch[k]:=List.getElem?_eq_getElem h
    have:=(hks k _ h1).1 (hall' _ (hchn h1).1)
    omega
   ·omega
  subst hkl
  refine wpAny_done ?_ (fin x w (fun i c hi hc=>hI.con i c hi (hall' i hi) hc) hC) _
  rw [List.eq_nil_iff_forall_not_mem]
  intro i hi
  obtain ⟨hun,o,ho,-⟩:=mem_ready.1 hi
  have hin:i<l.toArray.size:=(Array.getElem?_eq_some_iff.1 ho).1
  have h1:i<m:=by have:=ok.le;omega
  simp [Array.getElem?_append,h1] at hun
 ·simp [Array.toList_replicate]
 ·simp [Array.getElem?_replicate];split<;>simp_all
 all_goals first
  | (exfalso
     simp [Array.getElem?_replicate] at h
     split at h<;>simp at h
     done)
  | (constructor
     ·intro h
      exfalso
      simp [Array.getElem?_replicate] at h
      split at h<;>simp at h
     ·intro h;omega)
end
end Go.Proofs.YtkljafmdbajfeaaGreatDoor
