import Derived.Test.YtjmlnnanfkiakaaGreatDoorSForm
set_option linter.all false
set_option maxRecDepth 100000
namespace Go.Gk
def idleB(s:Lby)(f:Int):Bool:=bif f==0 then s.By==[] else bif f==1 then s.Node==[] else bif f==2 then s.Join==[] else bif f==3 then s.Public==[] else bif f==4 then s.Name==[] else bif f==5 then(s.Tags.length:Int)==0 else bif f==6 then s.Until==0 else bif f==7 then s.Uses==0 else !s.Ready
theorem Kyg(s:Lby)(f:Int):Lel s f=some (idleB s f):=by
 unfold Lel idleB
 cases (f==0)<;>cases (f==1)<;>cases (f==2)<;>cases (f==3)<;>cases (f==4)<;>cases (f==5)<;>cases (f==6)<;>cases (f==7)<;>rfl
theorem Kyh(l:List Int)(v:Int):Lek l v=some (l.contains v):=by
 have key:∀ (l:List Int) (i:Nat),∃ r,rangeM (σ:=Unit) (ρ:=Int) (fun i1 x3 s2=>bif (v:Int)==x3 then(bi (some (i1:Int)) fun v=>some (.out v)) else(some (.go ()))) i l ()=some r∧((∃ j:Int,r=.out j∧0≤j∧l.contains v=true)∨(r=.go ()∧l.contains v=false)):=by
  intro l
  induction l with
  | nil=>intro i;exact⟨_,rfl,.inr ⟨rfl,rfl⟩⟩
  | cons x l ih=>
   intro i
   simp only[rangeM,List.contains_cons]
   cases hx:(v==x) with
   | true=>exact⟨_,rfl,.inl ⟨_,rfl,by omega,rfl⟩⟩
   | false=>
    obtain⟨r,h1,h2⟩:=ih (i+1)
    exact⟨r,h1,by simpa using h2⟩
 unfold Lek Lej
 obtain⟨r,h1,h2⟩:=key l 0
 rw[h1]
 rcases h2 with⟨j,rfl,hj,hc⟩ | ⟨rfl,hc⟩
 ·show some (decide (j≥0))=_
  rw[hc,decide_eq_true hj]
 rw[hc];rfl
theorem Kyi{ρ:Type}{f:Int→Option (LS Int ρ)}(bad:Int→Bool)(v w:ρ)(n:Nat)(hn:n≤1000)(hf:∀ s:Int,f s=bif decide (s<(n:Int)) then(bif bad s then some (.out v) else some (.go (wi (s+1)))) else some (.out w)) :
  ∀ (d i k:Nat),i+d=n→d<k→loopM f k (i:Int)=some (bif (List.range' i d).any (fun j=>bad (j:Int)) then v else w)
 | 0,i,k+1,hi,hk=>by
  simp only[loopM,hf,decide_eq_false (show ¬ (i:Int)<(n:Int) by omega),cond_false]
  rfl
 | d+1,i,k+1,hi,hk=>by
  simp only[loopM,hf,decide_eq_true (show(i:Int)<(n:Int) by omega),cond_true]
  have ih:=Kyi bad v w n hn hf d (i+1) k (by omega) (by omega)
  rw[List.range'_succ,List.any_cons]
  cases hb:bad (i:Int) with
  | true=>rfl
  | false=>
   simp only[cond_false,Bool.false_or]
   rw[Kxl (by omega) (by omega)]
   exact ih
theorem Kyj(s:Lby)(used:List Int):loopM (σ:=Int) (ρ:=Unit ⊕ Int) (fun s37=>bif decide ((s37:Int)<9) then(bi (Lek used s37) fun y47=>bi (bif !y47 then(bi (Lel s s37) fun y52=>some (!y52)) else(some false)) fun q49=>bif q49 then(bi (some 3) fun v=>some (.out (.inr v))) else(some (.go (wi (s37+1))))) else(some (.out (.inl ())))) 400 0 =
  some (bif (List.range' 0 9).any (fun j=>!(used.contains (j:Int))&&!idleB s (j:Int)) then .inr 3 else .inl ()):=by
 refine Kyi (fun x=>!(used.contains x)&&!idleB s x) (Sum.inr 3:Unit ⊕ Int) (Sum.inl ()) 9 (by decide) (fun x=>?_) 9 0 400 rfl (by decide)
 rw[Kyh,Kyg]
 cases used.contains x<;>cases idleB s x<;>rfl
end Go.Gk
