import Derived.Test.YtjmlnnanfkiakaaGreatDoorSForm2
set_option linter.all false
set_option maxRecDepth 100000
namespace Go.Gk
def outF(vals:List Int):LS Unit Int:=match vals.find? (fun y=>(y:Int) != 0) with
 | some e=>.out e
 | none=>.go ()
theorem Kyk{α:Type}{f:Nat→α→Unit→Option (LS Unit Int)}(F:α→Option Int)(hf:∀ i x,f i x ()=bi (F x) fun y=>bif (y:Int) != 0 then(bi (some y) fun v=>some (.out v)) else(some (.go ()))) :
  ∀ (l:List α) (i:Nat) (vals:List Int),l.map F=vals.map some→rangeM f i l ()=some (outF vals)
 | [],i,[],_=>rfl
 | [],i,_ :: _,h=>by cases h
 | _ :: _,i,[],h=>by cases h
 | x :: l,i,v :: vals,h=>by
  simp only[List.map_cons,List.cons.injEq] at h
  simp only[rangeM,hf,h.1,bi_some,outF,List.find?_cons]
  cases (v != 0) with
  | true=>rfl
  | false=>exact Kyk F hf l (i+1) vals h.2
def ltr:List Int:=[98,110,106,112,109,116,117,115,114]
def idleM(s:Lby):List (Int×Bool):=[(98,(s.By:Str)==[]),(106,(s.Join:Str)==[]),(109,(s.Name:Str)==[]),(110,(s.Node:Str)==[]),(112,(s.Public:Str)==[]),(114,!s.Ready),(115,(s.Uses:Int)==0),(116,((s.Tags.length:Int):Int)==0),(117,(s.Until:Int)==0)]
theorem Kyl(a b c d e x y z w:Bool):mSet (mSet (mSet (mSet (mSet (mSet (mSet (mSet (mSet ([]:List (Int×Bool)) 98 a) 110 b) 106 c) 112 d) 109 e) 116 x) 117 y) 115 z) 114 w=[(98,a),(106,c),(109,e),(110,b),(112,d),(114,w),(115,z),(116,x),(117,y)]:=by
 have e0:mSet ([]:List (Int×Bool)) 98 a=[(98,a)]:=rfl
 have e1:mSet ([(98,a)]:List (Int×Bool)) 110 b=[(98,a),(110,b)]:=rfl
 have e2:mSet ([(98,a),(110,b)]:List (Int×Bool)) 106 c=[(98,a),(106,c),(110,b)]:=rfl
 have e3:mSet ([(98,a),(106,c),(110,b)]:List (Int×Bool)) 112 d=[(98,a),(106,c),(110,b),(112,d)]:=rfl
 have e4:mSet ([(98,a),(106,c),(110,b),(112,d)]:List (Int×Bool)) 109 e=[(98,a),(106,c),(109,e),(110,b),(112,d)]:=rfl
 have e5:mSet ([(98,a),(106,c),(109,e),(110,b),(112,d)]:List (Int×Bool)) 116 x=[(98,a),(106,c),(109,e),(110,b),(112,d),(116,x)]:=rfl
 have e6:mSet ([(98,a),(106,c),(109,e),(110,b),(112,d),(116,x)]:List (Int×Bool)) 117 y=[(98,a),(106,c),(109,e),(110,b),(112,d),(116,x),(117,y)]:=rfl
 have e7:mSet ([(98,a),(106,c),(109,e),(110,b),(112,d),(116,x),(117,y)]:List (Int×Bool)) 115 z=[(98,a),(106,c),(109,e),(110,b),(112,d),(115,z),(116,x),(117,y)]:=rfl
 have e8:mSet ([(98,a),(106,c),(109,e),(110,b),(112,d),(115,z),(116,x),(117,y)]:List (Int×Bool)) 114 w=[(98,a),(106,c),(109,e),(110,b),(112,d),(114,w),(115,z),(116,x),(117,y)]:=rfl
 rw[e0,e1,e2,e3,e4,e5,e6,e7,e8]
theorem Kym(s:Lby):mSet (mSet (mSet (mSet (mSet (mSet (mSet (mSet (mSet ([]:List (Int×Bool)) 98 ((s.By:Str)==[])) 110 ((s.Node:Str)==[])) 106 ((s.Join:Str)==[])) 112 ((s.Public:Str)==[])) 109 ((s.Name:Str)==[])) 116 (((s.Tags.length:Int):Int)==0)) 117 ((s.Until:Int)==0)) 115 ((s.Uses:Int)==0)) 114 (!s.Ready)=idleM s:=Kyl _ _ _ _ _ _ _ _ _
theorem Lmv(f:Nat→Bool)(a b c d e x y z w:Bool):(!(f 0)&&!a||(!(f 1)&&!b||(!(f 2)&&!c||(!(f 3)&&!d||(!(f 4)&&!e||(!(f 5)&&!x||(!(f 6)&&!y||(!(f 7)&&!z||(!(f 8)&&!w||false))))))))) =
  (!a&&!(f 0)||(!c&&!(f 2)||(!e&&!(f 4)||(!b&&!(f 1)||(!d&&!(f 3)||(!w&&!(f 8)||(!z&&!(f 7)||(!x&&!(f 5)||(!y&&!(f 6)||false))))))))):=by
 generalize f 0=f0;generalize f 1=f1;generalize f 2=f2;generalize f 3=f3;generalize f 4=f4;generalize f 5=f5;generalize f 6=f6;generalize f 7=f7;generalize f 8=f8
 cases f0<;>cases f1<;>cases f2<;>cases f3<;>cases f4<;>cases f5<;>cases f6<;>cases f7<;>cases f8<;>simp[Bool.or_comm,Bool.or_left_comm,Bool.or_assoc]
theorem Kyn(s:Lby)(fl:List Int)(lo:Str)(hx:∀ j<9,decide ((Lib.indexByte lo ((ltr.getD j 0).toNat.toUInt8):Int)<0)=!(fl.contains (j:Int))) :
  (List.range' 0 9).any (fun j=>!(fl.contains (j:Int))&&!idleB s (j:Int))=(idleM s).any fun x=>!x.2&&decide ((Lib.indexByte lo (x.1.toNat.toUInt8):Int)<0):=by
 have h0:=hx 0 (by decide);have h1:=hx 1 (by decide);have h2:=hx 2 (by decide);have h3:=hx 3 (by decide);have h4:=hx 4 (by decide)
 have h5:=hx 5 (by decide);have h6:=hx 6 (by decide);have h7:=hx 7 (by decide);have h8:=hx 8 (by decide)
 have key:=Lmv (fun j=>fl.contains (j:Int)) ((s.By:Str)==[]) ((s.Node:Str)==[]) ((s.Join:Str)==[]) ((s.Public:Str)==[]) ((s.Name:Str)==[]) (((s.Tags.length:Int):Int)==0) ((s.Until:Int)==0) ((s.Uses:Int)==0) (!s.Ready)
 refine Eq.trans key ?_
 show(!_&&!(fl.contains ((0:Nat):Int))||(!_&&!(fl.contains ((2:Nat):Int))||(!_&&!(fl.contains ((4:Nat):Int))||(!_&&!(fl.contains ((1:Nat):Int))||(!_&&!(fl.contains ((3:Nat):Int))||(!_&&!(fl.contains ((8:Nat):Int))||(!_&&!(fl.contains ((7:Nat):Int))||(!_&&!(fl.contains ((5:Nat):Int))||(!_&&!(fl.contains ((6:Nat):Int))||false)))))))))=_
 rw[←h0,←h1,←h2,←h3,←h4,←h5,←h6,←h7,←h8]
 rfl
theorem Kyo(s:Lby)(fl vals:List Int)(h:fl.map (Lei 400 s)=vals.map some) :
  (bi (rangeM (σ:=Unit) (ρ:=Int) (fun i19 x21 s20=>bi (Lei 400 s x21) fun y30=>bif (y30:Int) != 0 then(bi (some y30) fun v=>some (.out v)) else(some (.go ()))) 0 fl ()) fun q=>goI q fun a24=>bi (loopM (σ:=Int) (ρ:=Unit ⊕ Int) (fun s37=>bif decide ((s37:Int)<9) then(bi (Lek fl s37) fun y47=>bi (bif !y47 then(bi (Lel s s37) fun y52=>some (!y52)) else(some false)) fun q49=>bif q49 then(bi (some 3) fun v=>some (.out (.inr v))) else(some (.go (wi (s37+1))))) else(some (.out (.inl ())))) 400 0) fun q=>orI q fun a41=>some 0) =
  some (match vals.find? (fun y=>(y:Int) != 0) with | some e=>e | none=>bif (List.range' 0 9).any (fun j=>!(fl.contains (j:Int))&&!idleB s (j:Int)) then 3 else 0):=by
 rw[Kyk (Lei 400 s) (fun i x=>rfl) fl 0 vals h,Kyj]
 unfold outF
 cases vals.find? (fun y=>(y:Int) != 0) with
 | some e=>rfl
 | none=>cases (List.range' 0 9).any (fun j=>!(fl.contains (j:Int))&&!idleB s (j:Int))<;>rfl
theorem Kyp(s:Lby)(us lo:Str)(vals:List Int)(ha:asc us=true)(hl:Kvp us=some lo)(hu:Ldm s.Kind=some us)(h:us.map (fun x=>Ldp s (x.toNat:Int))=vals.map some) :
  gd (asc us) (bi (rangeM (σ:=Unit) (ρ:=Int) (fun sn23 x22 s21=>bi (Ldp s (x22.toNat:Int)) fun y63=>bif (y63:Int) != 0 then(bi (some y63) fun v=>some (.out v)) else(some (.go ()))) 0 us ()) fun q=>goI q fun s21=>bi (Ldm s.Kind) fun y30=>bi (Kvp y30) fun y32=>bi (rangePM (σ:=Unit) (ρ:=Int) (fun x41 s40=>bi (bif !x41.2 then(bi (Kvm y32 x41.1) fun y54=>some (decide ((y54:Int)<0))) else(some false)) fun q51=>bif q51 then(bi (some 3) fun v=>some (.out v)) else(some (.go ()))) (mSet (mSet (mSet (mSet (mSet (mSet (mSet (mSet (mSet ([]:List (Int×Bool)) 98 ((s.By:Str)==[])) 110 ((s.Node:Str)==[])) 106 ((s.Join:Str)==[])) 112 ((s.Public:Str)==[])) 109 ((s.Name:Str)==[])) 116 (((s.Tags.length:Int):Int)==0)) 117 ((s.Until:Int)==0)) 115 ((s.Uses:Int)==0)) 114 (!s.Ready)) ()) fun q=>goI q fun s40=>some 0) =
  some (match vals.find? (fun y=>(y:Int) != 0) with | some e=>e | none=>bif (idleM s).any (fun x=>!x.2&&decide ((Lib.indexByte lo (x.1.toNat.toUInt8):Int)<0)) then 3 else 0):=by
 rw[ha,Kyk (fun x:UInt8=>Ldp s (x.toNat:Int)) (fun i x=>rfl) us 0 vals h,hu,Kym]
 simp only[bi_some,hl]
 rw[Kyf (f:=_) (fun x:Int×Bool=>!x.2&&decide ((Lib.indexByte lo (x.1.toNat.toUInt8):Int)<0)) 3 () (idleM s) (fun x _=>by
  unfold Kvm
  cases x.2<;>simp only[Bool.not_true,Bool.not_false,cond_true,cond_false,bi_some,Bool.true_and,Bool.false_and]
  cases decide ((Lib.indexByte lo (x.1.toNat.toUInt8):Int)<0)<;>rfl)]
 unfold outF
 cases vals.find? (fun y=>(y:Int) != 0) with
 | some e=>rfl
 | none=>cases (idleM s).any (fun x=>!x.2&&decide ((Lib.indexByte lo (x.1.toNat.toUInt8):Int)<0))<;>rfl
theorem Lmw{s:Lby}{m n:Option Int}{fl vals:List Int}{lo:Str}(hx:∀ j<9,decide ((Lib.indexByte lo ((ltr.getD j 0).toNat.toUInt8):Int)<0)=!(fl.contains (j:Int)))
  (h1:m=some (match vals.find? (fun y=>(y:Int) != 0) with | some e=>e | none=>bif (List.range' 0 9).any (fun j=>!(fl.contains (j:Int))&&!idleB s (j:Int)) then 3 else 0))
  (h2:n=some (match vals.find? (fun y=>(y:Int) != 0) with | some e=>e | none=>bif (idleM s).any (fun x=>!x.2&&decide ((Lib.indexByte lo (x.1.toNat.toUInt8):Int)<0)) then 3 else 0)):∃ e,m=some e∧n=some e:=by
 rw[Kyn s fl lo hx] at h1
 exact⟨_,h1,h2⟩
end Go.Gk
