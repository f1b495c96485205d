import Derived.Test.YtfnjahjbpaoepaaGreatDoorSA
set_option linter.all false
set_option maxRecDepth 100000
namespace Go.Gk
def keyT:List Str:=[[115,49],[115,50],[],[97,110,110],[98,111,98],[99,105,100],[122,101,100],[65],[110,97],[110,98],[110,99],[110,100],[107,49],[107,50],[98,111,120],[119,101,98],[109,97,99],[100,98],[110,111,110,101],[97],[98],[122,122]]
def pubT:List Str:=[[48,97],[48,98],[48,99],[48,100],[48,101],[49,97],[49,98],[],[120,121,122],[48,65],List.replicate 21 97]
def tagsT:List (List Str):=[[],[[119,101,98]],[[100,98]],[[100,98],[119,101,98]],[[110,111,110,101]],[[119,101,98],[100,98]],[[]],[[97],[98]]]
def ndT:List Str:=[[],[110,97],[110,98],[110,99],[110,100]]
def jnT:List Str:=[[],[107,49],[107,50]]
theorem Kup:∀ x∈ndT,x∈keyT:=by decide
theorem Kuq:∀ x∈jnT,x∈keyT:=by decide
structure StepOk(s:Kxx):Prop where
 sv:s.Server∈keyT
 by_:s.By∈keyT
 nd:s.Node∈ndT
 jn:s.Join∈jnT
 nm:s.Name∈keyT
 pb:s.Public∈pubT
 tg:s.Tags∈tagsT
end Go.Gk
namespace Go.Gk
theorem rf98(s:Kxx):Lac s 98=Kzz s.By:=by
 unfold Lac
 show bi (bi (Kzz s.By) fun y13=>bi (some y13) fun v=>some (.inr v)) (fun q=>orI q fun a3=>some 0)=_
 cases Kzz s.By<;>rfl
theorem Lgb(s:Kxx):Lac s 110=Kzz s.Node:=by
 unfold Lac
 show bi (bi (Kzz s.Node) fun y13=>bi (some y13) fun v=>some (.inr v)) (fun q=>orI q fun a3=>some 0)=_
 cases Kzz s.Node<;>rfl
theorem Lgc(s:Kxx):Lac s 106=Kzz s.Join:=by
 unfold Lac
 show bi (bi (Kzz s.Join) fun y13=>bi (some y13) fun v=>some (.inr v)) (fun q=>orI q fun a3=>some 0)=_
 cases Kzz s.Join<;>rfl
theorem Lgd(s:Kxx):Lac s 109=Kzz s.Name:=by
 unfold Lac
 show bi (bi (Kzz s.Name) fun y13=>bi (some y13) fun v=>some (.inr v)) (fun q=>orI q fun a3=>some 0)=_
 cases Kzz s.Name<;>rfl
theorem rf66(s:Kxx):Lac s 66=bif !(s.By==[]) then Kzz s.By else some 0:=by
 unfold Lac
 show bi (bif !(s.By==[]) then(bi (Kzz s.By) fun y24=>bi (some y24) fun v=>some (.inr v)) else(some (.inl ()))) (fun q=>orI q fun a3=>some 0)=_
 cases (s.By==[])<;>cases Kzz s.By<;>rfl
theorem rf74(s:Kxx):Lac s 74=bif !(s.Join==[]) then Kzz s.Join else some 0:=by
 unfold Lac
 show bi (bif !(s.Join==[]) then(bi (Kzz s.Join) fun y24=>bi (some y24) fun v=>some (.inr v)) else(some (.inl ()))) (fun q=>orI q fun a3=>some 0)=_
 cases (s.Join==[])<;>cases Kzz s.Join<;>rfl
theorem Lge(s:Kxx){b:Bool}(h:Laa s.Public=some b):Lac s 112=some (bif b then 0 else 5):=by
 unfold Lac
 rw[h]
 cases b<;>rfl
theorem Lgf(s:Kxx){e:Int}(h:Lab s.Tags=some e)(hl:s.Tags.length≤10):Lac s 116=some e:=by
 unfold Lac
 rw[h,dF (show ¬ ((s.Tags.length:Int)>10) by omega)]
 rfl
theorem Lgg(s:Kxx):Lac s 117=some (bif !(decide (0≤s.Until)&&decide (s.Until≤999999999)) then 1 else 0):=by
 unfold Lac
 show bi (bif !(decide (0≤s.Until)&&decide (s.Until≤999999999)) then(bi (some 1) fun v=>some (.inr v)) else(some (.inl ()))) (fun q=>orI q fun a3=>some 0)=_
 cases (decide (0≤s.Until)&&decide (s.Until≤999999999))<;>rfl
theorem Lgh(s:Kxx):Lac s 115=some (bif !(decide (0≤s.Uses)&&decide (s.Uses≤999999999)) then 1 else 0):=by
 unfold Lac
 show bi (bif !(decide (0≤s.Uses)&&decide (s.Uses≤999999999)) then(bi (some 1) fun v=>some (.inr v)) else(some (.inl ()))) (fun q=>orI q fun a3=>some 0)=_
 cases (decide (0≤s.Uses)&&decide (s.Uses≤999999999))<;>rfl
theorem Lgi(s:Kxx):Lac s 114=some 0:=by
 unfold Lac
 rfl
theorem Ktz{x:Str}{b:Bool}(h:Kzw x=some b):Kzz x=some (bif b then 0 else 5):=by
 unfold Kzz;rw[h];cases b<;>rfl
theorem Kua{x:Str}{b e:Bool}(h:Kyw 1000000 x=some b):Kyz 1000000 x e=some (bif b||(e&&(x==[])) then 0 else 5):=by
 unfold Kyz;rw[h];cases b<;>cases e<;>cases (x==[])<;>rfl
theorem pf0(s:Kxx){b:Bool}(h:Kyw 1000000 s.By=some b):Kze 1000000 s 0=some (bif b||((s.Kind==3)&&(s.By==[])) then 0 else 5):=by
 unfold Kze;rw[Kua h];rfl
theorem pf1(s:Kxx){b:Bool}(h:Kyw 1000000 s.Node=some b):Kze 1000000 s 1=some (bif b then 0 else 5):=by
 unfold Kze;rw[Kua h];cases b<;>rfl
theorem pf2(s:Kxx){b:Bool}(h:Kyw 1000000 s.Join=some b):Kze 1000000 s 2=some (bif b||((s.Kind==3)&&(s.Join==[])) then 0 else 5):=by
 unfold Kze;rw[Kua h];rfl
theorem pf3(s:Kxx){b:Bool}(h:Kza s.Public=some b):Kze 1000000 s 3=some (bif b then 0 else 5):=by
 unfold Kze;rw[h];cases b<;>rfl
theorem pf4(s:Kxx){b:Bool}(h:Kyw 1000000 s.Name=some b):Kze 1000000 s 4=some (bif b then 0 else 5):=by
 unfold Kze;rw[Kua h];cases b<;>rfl
theorem pf5(s:Kxx){e:Int}(h:Kzb 1000000 s.Tags=some e)(hl:s.Tags.length≤10):Kze 1000000 s 5=some e:=by
 have:Kzc 1000000 s.Tags=some e:=by
  unfold Kzc
  rw[h,dF (show ¬ ((s.Tags.length:Int)>10) by omega)]
  rfl
 unfold Kze;rw[this];rfl
theorem pnum(n:Int):Kzd n=some (bif !(decide (0≤n)&&decide (n≤999999999)) then 1 else 0):=by
 unfold Kzd Kyx
 by_cases h1:0≤n<;>by_cases h2:n≤999999999<;>simp[h1,h2,bi_some,show(n<0)=¬ (0≤n) from by simp,show(n>999999999)=¬ (n≤999999999) from by simp]
theorem pf6(s:Kxx):Kze 1000000 s 6=some (bif !(decide (0≤s.Until)&&decide (s.Until≤999999999)) then 1 else 0):=by
 unfold Kze;rw[pnum s.Until];rfl
theorem pf7(s:Kxx):Kze 1000000 s 7=some (bif !(decide (0≤s.Uses)&&decide (s.Uses≤999999999)) then 1 else 0):=by
 unfold Kze;rw[pnum s.Uses];rfl
theorem pf8(s:Kxx):Kze 1000000 s 8=some 0:=by
 unfold Kze;rfl
theorem Kub{α σ ρ:Type}{f:α→σ→Option (LS σ ρ)}(bad:α→Bool)(v:ρ)(s:σ)(m:List α)(hf:∀ x∈m,f x s=some (bif bad x then .out v else .go s)):rangePM f m s=some (bif m.any bad then .out v else .go s):=by
 refine Knj.2 fun m' hp=>?_
 rw[←hp.any_eq]
 have hf':∀ x∈m',f x s=some (bif bad x then .out v else .go s):=fun x hx=>hf x (hp.mem_iff.1 hx)
 clear hp hf
 induction m' with
 | nil=>rfl
 | cons x m' ih=>
  simp only[rangeLM,hf' x List.mem_cons_self,List.any_cons]
  cases bad x with
  | true=>rfl
  | false=>exact ih fun y hy=>hf' y (mCo _ hy)
end Go.Gk
namespace Go.Gk
def idleB(s:Kxx)(f:Int):Bool:=bif f==0 then s.By==[] else bif f==1 then s.Node==[] else bif f==2 then s.Join==[] else bif f==3 then s.Public==[] else bif f==4 then s.Name==[] else bif f==5 then(s.Tags.length:Int)==0 else bif f==6 then s.Until==0 else bif f==7 then s.Uses==0 else !s.Ready
theorem Kuc(s:Kxx)(f:Int):Kzh s f=some (idleB s f):=by
 unfold Kzh idleB
 cases (f==0)<;>cases (f==1)<;>cases (f==2)<;>cases (f==3)<;>cases (f==4)<;>cases (f==5)<;>cases (f==6)<;>cases (f==7)<;>rfl
theorem Kud(l:List Int)(v:Int):Kzg l v=some (l.contains v):=by
 have key:∀ (l:List Int) (i:Nat),∃ r,rangeM (σ:=Unit) (ρ:=Int) (fun i1 x3 s2=>bif (v:Int)==x3 then(bi (some (i1:Int)) fun v=>some (.out v)) else(some (.go ()))) i l ()=some r∧((∃ j:Int,r=.out j∧0≤j∧l.contains v=true)∨(r=.go ()∧l.contains v=false)):=by
  intro l
  induction l with
  | nil=>intro i;exact⟨_,rfl,.inr ⟨rfl,rfl⟩⟩
  | cons x l ih=>
   intro i
   simp only[rangeM,List.contains_cons]
   cases hx:(v==x) with
   | true=>exact⟨_,rfl,.inl ⟨_,rfl,by omega,rfl⟩⟩
   | false=>
    obtain⟨r,h1,h2⟩:=ih (i+1)
    exact⟨r,h1,by simpa using h2⟩
 unfold Kzg Kzf
 obtain⟨r,h1,h2⟩:=key l 0
 rw[h1]
 rcases h2 with⟨j,rfl,hj,hc⟩ | ⟨rfl,hc⟩
 ·show some (decide (j≥0))=_
  rw[hc,dT hj]
 rw[hc];rfl
theorem Kue{ρ:Type}{f:Int→Option (LS Int ρ)}(bad:Int→Bool)(v w:ρ)(n:Nat)(hn:n≤1000)(hf:∀ s:Int,f s=bif decide (s<(n:Int)) then(bif bad s then some (.out v) else some (.go (wi (s+1)))) else some (.out w)) :
  ∀ (d i k:Nat),i+d=n→d<k→loopM f k (i:Int)=some (bif (List.range' i d).any (fun j=>bad (j:Int)) then v else w)
 | 0,i,k+1,hi,hk=>by
  simp only[loopM,hf,decide_eq_false (show ¬ (i:Int)<(n:Int) by omega),cond_false]
  rfl
 | d+1,i,k+1,hi,hk=>by
  simp only[loopM,hf,decide_eq_true (show(i:Int)<(n:Int) by omega),cond_true]
  have ih:=Kue bad v w n hn hf d (i+1) k (by omega) (by omega)
  rw[List.range'_succ,List.any_cons]
  cases hb:bad (i:Int) with
  | true=>rfl
  | false=>
   simp only[cond_false,Bool.false_or]
   rw[Ktc (by omega) (by omega)]
   exact ih
theorem Kuf(s:Kxx)(used:List Int):loopM (σ:=Int) (ρ:=Unit ⊕ Int) (fun s37=>bif decide ((s37:Int)<9) then(bi (Kzg used s37) fun y47=>bi (bif !y47 then(bi (Kzh s s37) fun y52=>some (!y52)) else(some false)) fun q49=>bif q49 then(bi (some 3) fun v=>some (.out (.inr v))) else(some (.go (wi (s37+1))))) else(some (.out (.inl ())))) 1000000 0 =
  some (bif (List.range' 0 9).any (fun j=>!(used.contains (j:Int))&&!idleB s (j:Int)) then .inr 3 else .inl ()):=by
 refine Kue (fun x=>!(used.contains x)&&!idleB s x) (Sum.inr 3:Unit ⊕ Int) (Sum.inl ()) 9 (by decide) (fun x=>?_) 9 0 1000000 rfl (by decide)
 rw[Kud,Kuc]
 cases used.contains x<;>cases idleB s x<;>rfl
end Go.Gk
namespace Go.Gk
def outF(vals:List Int):LS Unit Int:=match vals.find? (fun y=>(y:Int) != 0) with
 | some e=>.out e
 | none=>.go ()
theorem Kug{α:Type}{f:Nat→α→Unit→Option (LS Unit Int)}(F:α→Option Int)(hf:∀ i x,f i x ()=bi (F x) fun y=>bif (y:Int) != 0 then(bi (some y) fun v=>some (.out v)) else(some (.go ()))) :
  ∀ (l:List α) (i:Nat) (vals:List Int),l.map F=vals.map some→rangeM f i l ()=some (outF vals)
 | [],i,[],_=>rfl
 | [],i,_ :: _,h=>by cases h
 | _ :: _,i,[],h=>by cases h
 | x :: l,i,v :: vals,h=>by
  simp only[List.map_cons,List.cons.injEq] at h
  simp only[rangeM,hf,h.1,bi_some,outF,List.find?_cons]
  cases (v != 0) with
  | true=>rfl
  | false=>exact Kug F hf l (i+1) vals h.2
def ltr:List Int:=[98,110,106,112,109,116,117,115,114]
def idleM(s:Kxx):List (Int×Bool):=[(98,(s.By:Str)==[]),(106,(s.Join:Str)==[]),(109,(s.Name:Str)==[]),(110,(s.Node:Str)==[]),(112,(s.Public:Str)==[]),(114,!s.Ready),(115,(s.Uses:Int)==0),(116,((s.Tags.length:Int):Int)==0),(117,(s.Until:Int)==0)]
theorem Kuh(a b c d e x y z w:Bool):mSet (mSet (mSet (mSet (mSet (mSet (mSet (mSet (mSet ([]:List (Int×Bool)) 98 a) 110 b) 106 c) 112 d) 109 e) 116 x) 117 y) 115 z) 114 w=[(98,a),(106,c),(109,e),(110,b),(112,d),(114,w),(115,z),(116,x),(117,y)]:=by
 have e0:mSet ([]:List (Int×Bool)) 98 a=[(98,a)]:=rfl
 have e1:mSet ([(98,a)]:List (Int×Bool)) 110 b=[(98,a),(110,b)]:=rfl
 have e2:mSet ([(98,a),(110,b)]:List (Int×Bool)) 106 c=[(98,a),(106,c),(110,b)]:=rfl
 have e3:mSet ([(98,a),(106,c),(110,b)]:List (Int×Bool)) 112 d=[(98,a),(106,c),(110,b),(112,d)]:=rfl
 have e4:mSet ([(98,a),(106,c),(110,b),(112,d)]:List (Int×Bool)) 109 e=[(98,a),(106,c),(109,e),(110,b),(112,d)]:=rfl
 have e5:mSet ([(98,a),(106,c),(109,e),(110,b),(112,d)]:List (Int×Bool)) 116 x=[(98,a),(106,c),(109,e),(110,b),(112,d),(116,x)]:=rfl
 have e6:mSet ([(98,a),(106,c),(109,e),(110,b),(112,d),(116,x)]:List (Int×Bool)) 117 y=[(98,a),(106,c),(109,e),(110,b),(112,d),(116,x),(117,y)]:=rfl
 have e7:mSet ([(98,a),(106,c),(109,e),(110,b),(112,d),(116,x),(117,y)]:List (Int×Bool)) 115 z=[(98,a),(106,c),(109,e),(110,b),(112,d),(115,z),(116,x),(117,y)]:=rfl
 have e8:mSet ([(98,a),(106,c),(109,e),(110,b),(112,d),(115,z),(116,x),(117,y)]:List (Int×Bool)) 114 w=[(98,a),(106,c),(109,e),(110,b),(112,d),(114,w),(115,z),(116,x),(117,y)]:=rfl
 rw[e0,e1,e2,e3,e4,e5,e6,e7,e8]
theorem Kui(s:Kxx):mSet (mSet (mSet (mSet (mSet (mSet (mSet (mSet (mSet ([]:List (Int×Bool)) 98 ((s.By:Str)==[])) 110 ((s.Node:Str)==[])) 106 ((s.Join:Str)==[])) 112 ((s.Public:Str)==[])) 109 ((s.Name:Str)==[])) 116 (((s.Tags.length:Int):Int)==0)) 117 ((s.Until:Int)==0)) 115 ((s.Uses:Int)==0)) 114 (!s.Ready)=idleM s:=Kuh _ _ _ _ _ _ _ _ _
theorem Lgj(f:Nat→Bool)(a b c d e x y z w:Bool):(!(f 0)&&!a||(!(f 1)&&!b||(!(f 2)&&!c||(!(f 3)&&!d||(!(f 4)&&!e||(!(f 5)&&!x||(!(f 6)&&!y||(!(f 7)&&!z||(!(f 8)&&!w||false))))))))) =
  (!a&&!(f 0)||(!c&&!(f 2)||(!e&&!(f 4)||(!b&&!(f 1)||(!d&&!(f 3)||(!w&&!(f 8)||(!z&&!(f 7)||(!x&&!(f 5)||(!y&&!(f 6)||false))))))))):=by
 generalize f 0=f0;generalize f 1=f1;generalize f 2=f2;generalize f 3=f3;generalize f 4=f4;generalize f 5=f5;generalize f 6=f6;generalize f 7=f7;generalize f 8=f8
 cases f0<;>cases f1<;>cases f2<;>cases f3<;>cases f4<;>cases f5<;>cases f6<;>cases f7<;>cases f8<;>simp[Bool.or_comm,Bool.or_left_comm,Bool.or_assoc]
theorem Kuj(s:Kxx)(fl:List Int)(lo:Str)(hx:∀ j<9,decide ((Lib.indexByte lo ((ltr.getD j 0).toNat.toUInt8):Int)<0)=!(fl.contains (j:Int))) :
  (List.range' 0 9).any (fun j=>!(fl.contains (j:Int))&&!idleB s (j:Int))=(idleM s).any fun x=>!x.2&&decide ((Lib.indexByte lo (x.1.toNat.toUInt8):Int)<0):=by
 have h0:=hx 0 (by decide);have h1:=hx 1 (by decide);have h2:=hx 2 (by decide);have h3:=hx 3 (by decide);have h4:=hx 4 (by decide)
 have h5:=hx 5 (by decide);have h6:=hx 6 (by decide);have h7:=hx 7 (by decide);have h8:=hx 8 (by decide)
 have key:=Lgj (fun j=>fl.contains (j:Int)) ((s.By:Str)==[]) ((s.Node:Str)==[]) ((s.Join:Str)==[]) ((s.Public:Str)==[]) ((s.Name:Str)==[]) (((s.Tags.length:Int):Int)==0) ((s.Until:Int)==0) ((s.Uses:Int)==0) (!s.Ready)
 refine Eq.trans key ?_
 show(!_&&!(fl.contains ((0:Nat):Int))||(!_&&!(fl.contains ((2:Nat):Int))||(!_&&!(fl.contains ((4:Nat):Int))||(!_&&!(fl.contains ((1:Nat):Int))||(!_&&!(fl.contains ((3:Nat):Int))||(!_&&!(fl.contains ((8:Nat):Int))||(!_&&!(fl.contains ((7:Nat):Int))||(!_&&!(fl.contains ((5:Nat):Int))||(!_&&!(fl.contains ((6:Nat):Int))||false)))))))))=_
 rw[←h0,←h1,←h2,←h3,←h4,←h5,←h6,←h7,←h8]
 rfl
theorem Kuk(s:Kxx)(fl vals:List Int)(h:fl.map (Kze 1000000 s)=vals.map some) :
  (bi (rangeM (σ:=Unit) (ρ:=Int) (fun i19 x21 s20=>bi (Kze 1000000 s x21) fun y30=>bif (y30:Int) != 0 then(bi (some y30) fun v=>some (.out v)) else(some (.go ()))) 0 fl ()) fun q=>goI q fun a24=>bi (loopM (σ:=Int) (ρ:=Unit ⊕ Int) (fun s37=>bif decide ((s37:Int)<9) then(bi (Kzg fl s37) fun y47=>bi (bif !y47 then(bi (Kzh s s37) fun y52=>some (!y52)) else(some false)) fun q49=>bif q49 then(bi (some 3) fun v=>some (.out (.inr v))) else(some (.go (wi (s37+1))))) else(some (.out (.inl ())))) 1000000 0) fun q=>orI q fun a41=>some 0) =
  some (match vals.find? (fun y=>(y:Int) != 0) with | some e=>e | none=>bif (List.range' 0 9).any (fun j=>!(fl.contains (j:Int))&&!idleB s (j:Int)) then 3 else 0):=by
 rw[Kug (Kze 1000000 s) (fun i x=>rfl) fl 0 vals h,Kuf]
 unfold outF
 cases vals.find? (fun y=>(y:Int) != 0) with
 | some e=>rfl
 | none=>cases (List.range' 0 9).any (fun j=>!(fl.contains (j:Int))&&!idleB s (j:Int))<;>rfl
theorem Kul(s:Kxx)(us lo:Str)(vals:List Int)(ha:asc us=true)(hl:Ksp us=some lo)(hu:Kzy s.Kind=some us)(h:us.map (fun x=>Lac s (x.toNat:Int))=vals.map some) :
  gd (asc us) (bi (rangeM (σ:=Unit) (ρ:=Int) (fun sn23 x22 s21=>bi (Lac s (x22.toNat:Int)) fun y63=>bif (y63:Int) != 0 then(bi (some y63) fun v=>some (.out v)) else(some (.go ()))) 0 us ()) fun q=>goI q fun s21=>bi (Kzy s.Kind) fun y30=>bi (Ksp y30) fun y32=>bi (rangePM (σ:=Unit) (ρ:=Int) (fun x41 s40=>bi (bif !x41.2 then(bi (Ksi y32 x41.1) fun y54=>some (decide ((y54:Int)<0))) else(some false)) fun q51=>bif q51 then(bi (some 3) fun v=>some (.out v)) else(some (.go ()))) (mSet (mSet (mSet (mSet (mSet (mSet (mSet (mSet (mSet ([]:List (Int×Bool)) 98 ((s.By:Str)==[])) 110 ((s.Node:Str)==[])) 106 ((s.Join:Str)==[])) 112 ((s.Public:Str)==[])) 109 ((s.Name:Str)==[])) 116 (((s.Tags.length:Int):Int)==0)) 117 ((s.Until:Int)==0)) 115 ((s.Uses:Int)==0)) 114 (!s.Ready)) ()) fun q=>goI q fun s40=>some 0) =
  some (match vals.find? (fun y=>(y:Int) != 0) with | some e=>e | none=>bif (idleM s).any (fun x=>!x.2&&decide ((Lib.indexByte lo (x.1.toNat.toUInt8):Int)<0)) then 3 else 0):=by
 rw[ha,Kug (fun x:UInt8=>Lac s (x.toNat:Int)) (fun i x=>rfl) us 0 vals h,hu,Kui]
 simp only[bi_some,hl]
 rw[Kub (f:=_) (fun x:Int×Bool=>!x.2&&decide ((Lib.indexByte lo (x.1.toNat.toUInt8):Int)<0)) 3 () (idleM s) (fun x _=>by
  unfold Ksi
  cases x.2<;>simp only[Bool.not_true,Bool.not_false,cond_true,cond_false,bi_some,Bool.true_and,Bool.false_and]
  cases decide ((Lib.indexByte lo (x.1.toNat.toUInt8):Int)<0)<;>rfl)]
 unfold outF
 cases vals.find? (fun y=>(y:Int) != 0) with
 | some e=>rfl
 | none=>cases (idleM s).any (fun x=>!x.2&&decide ((Lib.indexByte lo (x.1.toNat.toUInt8):Int)<0))<;>rfl
theorem Lgk{s:Kxx}{m n:Option Int}{fl vals:List Int}{lo:Str}(hx:∀ j<9,decide ((Lib.indexByte lo ((ltr.getD j 0).toNat.toUInt8):Int)<0)=!(fl.contains (j:Int)))
  (h1:m=some (match vals.find? (fun y=>(y:Int) != 0) with | some e=>e | none=>bif (List.range' 0 9).any (fun j=>!(fl.contains (j:Int))&&!idleB s (j:Int)) then 3 else 0))
  (h2:n=some (match vals.find? (fun y=>(y:Int) != 0) with | some e=>e | none=>bif (idleM s).any (fun x=>!x.2&&decide ((Lib.indexByte lo (x.1.toNat.toUInt8):Int)<0)) then 3 else 0)):∃ e,m=some e∧n=some e:=by
 rw[Kuj s fl lo hx] at h1
 exact⟨_,h1,h2⟩
end Go.Gk
namespace Go.Gk
theorem Kum(n:Int):∃ b,Kyv n=some b∧Kzu n=some b:=by
 refine⟨_,rfl,?_⟩
 unfold Kzu Kzt
 rw[bi_some,Option.some.injEq,Bool.eq_iff_iff]
 simp;omega
theorem Kun{x:Str}{b:Bool}(h:Kzw x=some b)(h0:(x==[])=true):b=false:=by
 have:x=[]:=by simpa using h0
 subst this
 have e:Kzw []=some false:=rfl
 rw[e] at h;exact(oSi h).symm
theorem Kuo{α β:Type}{m:Option α}{g:α→Option β}{r:α}{v:Option β}(h:m=some r)(k:g r=v):bi m g=v:=by rw[h];exact k
end Go.Gk
