/- The arguments of the linear statements, as they lie in memory: a program, a point, rows, numbers; the laid tables. -/
import Derived.Deep.Slices
import Derived.Deep.Fields
import Derived.Deep.Matrix
import Derived.ChangeSame
import Derived.Lib.SmallJoins
import Derived.ProofKit
import Derived.OpenShut
import Derived.ChangeOld
import Derived.SizedLaws
import Derived.Test.YtkljafmdbajfeaaGreatDoorNoH48
namespace Go.Proofs.YtkljafmdbajfeaaGreatDoor
set_option linter.unusedVariables false
set_option linter.unusedSimpArgs false
section
open Go.RowKit Go.ChangeShapes Go.WideShapes Go.Deep Go.Joins Go.ChangeAt
def InI (xs:List Int):Prop:=∀ n∈xs,(Lit.int .i64 n).wf=true
theorem cell_spot {w:World} {a:Addr} {v:Value} (h:w.cell? a=some v):a.spot=none:=by
 obtain ⟨b,o,s⟩:=a
 cases s with
 | none=>rfl
 | some s =>
   unfold World.cell? at h
   split at h<;>simp at h
theorem add_none (b o i:Nat):Addr.add ⟨b,o,none⟩ i=⟨b,o+i,none⟩:=by
 unfold Addr.add;split
 ·subst_vars;rfl
 ·rfl
theorem addr_flat {w:World} {a:Addr} {v:Value} (h:w.cell? (a.add 0)=some v):a=⟨a.block,a.off,none⟩:=by
 have:=cell_spot (a:=a) (by simpa [Addr.add] using h)
 obtain ⟨b,o,s⟩:=a
 dsimp only at this;subst this;rfl
section
variable {H:Type} {enc:TypeId × Value→H} {w:World}
theorem open_list {fuel:Nat} {v:Value} {x:DataW H × List MemPlace} (h:DataW.trod enc Tryz.prog w 0 (fun _=>true) true fuel 23 [v]=some x) :
 ∃ A c xs,v=.slice A (List.length xs) c∧Ints w A xs∧xs.length≤c∧c≤maxLen∧InI xs:=by
 rcases open_ints Tryz.underlying23 Tryz.underlying3 (by kernel_rfl) h with ⟨hcs,-⟩|⟨a,len,cap,zs,hcs,-,hl,hm,hz,-,hcell,hwf⟩
 ·exact ⟨none,0,[],by simpa using hcs,Ints.nil _ _,Nat.le_refl _,Nat.zero_le _,fun n hn=>by cases hn⟩
 ·simp only [if_true] at hz
  have hlt:(zs.take len).length=len:=by rw [List.length_take];omega
  refine ⟨some a,cap,zs.take len,by rw [hlt];simpa using hcs,fun i hi=>?_,by omega,hm,fun n hn=>hwf n (List.mem_of_mem_take hn)⟩
  rw [hlt] at hi
  have hf:=addr_flat (hcell 0 (by omega))
  have hc:=hcell i (by omega)
  rw [hf,add_none] at hc
  refine ⟨a.block,a.off,congrArg some hf,?_⟩
  have e:nth (zs.take len) i=zs.getD i 0:=by unfold nth;simp [List.getElem?_take,hi]
  rw [e];exact hc
theorem open_grid {fuel:Nat} {v:Value} {x:DataW H × List MemPlace} (h:DataW.trod enc Tryz.prog w 0 (fun _=>true) true fuel 22 [v]=some x) :
 ∃ A c l,v=.slice A (List.length l) c∧Grid w A l∧l.length≤c∧c≤maxLen∧∀ r∈l,r.length≤maxLen∧InI r:=by
 rcases open_int_rows Tryz.underlying22 Tryz.underlying23 Tryz.underlying3 (by kernel_rfl) (by kernel_rfl) h with ⟨hcs,-⟩|⟨a,len,cap,A,L,C,Z,hcs,-,hl,hm,-,hrow⟩
 ·exact ⟨none,0,[],by simpa using hcs,fun i hi=>by simp at hi,Nat.le_refl _,Nat.zero_le _,fun r hr=>by cases hr⟩
 ·have hlt:((List.range len).map fun r=>(Z r).take (L r)).length=len:=by simp
  have hrl:∀ r,r<cap→((Z r).take (L r)).length=L r:=fun r hr=>by
   obtain ⟨-,h1,-,h3,-⟩:=hrow r hr
   rw [List.length_take];omega
  refine ⟨some a,cap,(List.range len).map fun r=>(Z r).take (L r),by rw [hlt];simpa using hcs,fun i hi=>?_,by omega,hm,fun r hr=>?_⟩
  ·rw [hlt] at hi
   obtain ⟨h1,h2,h3,h4,h5,h6,h7⟩:=hrow i (by omega)
   have hf:=addr_flat (hrow 0 (by omega)).1
   rw [hf,add_none] at h1
   have en:nrow ((List.range len).map fun r=>(Z r).take (L r)) i=(Z i).take (L i):=by unfold nrow;simp [hi]
   rw [en]
   refine ⟨a.block,a.off,A i,C i,congrArg some hf,by rw [hrl i (by omega)];exact h1,by rw [hrl i (by omega)];exact h2,fun j hj=>?_⟩
   rw [hrl i (by omega)] at hj
   cases hA:A i with
   | none=>have:=h6 hA;omega
   | some a' =>
     obtain ⟨-,h8⟩:=h7 a' hA
     have hf':=addr_flat (h8 0 (by omega))
     have hc:=h8 j (by omega)
     rw [hf',add_none] at hc
     refine ⟨a'.block,a'.off,congrArg some hf',?_⟩
     have e:nth ((Z i).take (L i)) j=(Z i).getD j 0:=by unfold nth;simp [List.getElem?_take,hj]
     rw [e];exact hc
  ·obtain ⟨r',hr',rfl⟩:=List.mem_map.1 hr
   have hr':=List.mem_range.1 hr'
   obtain ⟨-,h2,h3,-,h5,-⟩:=hrow r' (by omega)
   exact ⟨by rw [hrl r' (by omega)];exact Nat.le_trans h2 h3,fun n hn=>h5 n (List.mem_of_mem_take hn)⟩
end
end
section
open Go.RowKit Go.ChangeShapes Go.WideShapes Go.ChangeAt
section
variable {H:Type} {enc:TypeId × Value→H} {w:World}
set_option maxRecDepth 100000 in
theorem open_nums {b0:Nat} {r:Reach} {v:Value} {d:DataW H} {p:List MemPlace} (hv:Value.okWide Tryz.prog w r b0 23 v) (h:DataW.Trod enc Tryz.prog w 0 (fun _=>true) true 23 v d p) :
 ∃ X cx,∃ (xs:List Int),v=.slice X xs.length cx∧Ints w X xs∧xs.length≤cx∧xs.length≤maxLen∧InI xs:=by
 obtain ⟨A,len,cap,rfl⟩:=okWide_slice Tryz.underlying23 hv
 obtain ⟨f,g⟩:=h
 obtain ⟨X,cx,xs,e,g0,l0,m0,w0⟩:=open_list (v:=.slice A len cap) g
 exact ⟨X,cx,xs,e,g0,l0,Nat.le_trans l0 m0,w0⟩
set_option maxRecDepth 100000 in
theorem open_rows {b0:Nat} {r:Reach} {v:Value} {d:DataW H} {p:List MemPlace} (hv:Value.okWide Tryz.prog w r b0 22 v) (h:DataW.Trod enc Tryz.prog w 0 (fun _=>true) true 22 v d p) :
 ∃ A c,∃ (l:List (List Int)),v=.slice A l.length c∧Grid w A l∧l.length≤c∧l.length≤maxLen∧∀ r∈l,r.length≤maxLen:=by
 obtain ⟨B,len,cap,rfl⟩:=okWide_slice Tryz.underlying22 hv
 obtain ⟨f,g⟩:=h
 obtain ⟨A,c,l,e,g0,l0,m0,w0⟩:=open_grid (v:=.slice B len cap) g
 exact ⟨A,c,l,e,g0,l0,Nat.le_trans l0 m0,fun r hr=>(w0 r hr).1⟩
end
end
end Go.Proofs.YtkljafmdbajfeaaGreatDoor
