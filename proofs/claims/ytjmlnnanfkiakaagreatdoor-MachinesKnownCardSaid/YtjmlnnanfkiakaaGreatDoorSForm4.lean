import Derived.Test.YtjmlnnanfkiakaaGreatDoorSForm3
set_option linter.all false
set_option maxRecDepth 100000
namespace Go.Gk
theorem Kyq(n:Int):∃ b,Lec n=some b∧Ldl n=some b:=by
 refine⟨_,rfl,?_⟩
 unfold Ldl Ldd
 rw[bi_some,Option.some.injEq,Bool.eq_iff_iff]
 simp;omega
theorem Kyr{x:Str}{b:Bool}(h:Ldf x=some b)(h0:(x==[])=true):b=false:=by
 have:x=[]:=by simpa using h0
 subst this
 have e:Ldf []=some false:=rfl
 rw[e] at h;exact(Option.some.inj h).symm
theorem Kys{α β:Type}{m:Option α}{g:α→Option β}{r:α}{v:Option β}(h:m=some r)(k:g r=v):bi m g=v:=by rw[h];exact k
theorem Kyt(s:Lby)(h:StepOk s)(k1:1≤s.Kind)(k2:s.Kind≤9):∃ e,
  (bi (Led s.Kind) fun y17=>bi (rangeM (σ:=Unit) (ρ:=Int) (fun i19 x21 s20=>bi (Lei 400 s x21) fun y30=>bif (y30:Int) != 0 then(bi (some y30) fun v=>some (.out v)) else(some (.go ()))) 0 y17 ()) fun q=>goI q fun a24=>bi (loopM (σ:=Int) (ρ:=Unit ⊕ Int) (fun s37=>bif decide ((s37:Int)<9) then(bi (Lek y17 s37) fun y47=>bi (bif !y47 then(bi (Lel s s37) fun y52=>some (!y52)) else(some false)) fun q49=>bif q49 then(bi (some 3) fun v=>some (.out (.inr v))) else(some (.go (wi (s37+1))))) else(some (.out (.inl ())))) 400 0) fun q=>orI q fun a41=>some 0)=some e∧
  (bi (Ldm s.Kind) fun y17=>gd (asc y17) (bi (rangeM (σ:=Unit) (ρ:=Int) (fun sn23 x22 s21=>bi (Ldp s (x22.toNat:Int)) fun y63=>bif (y63:Int) != 0 then(bi (some y63) fun v=>some (.out v)) else(some (.go ()))) 0 y17 ()) fun q=>goI q fun s21=>bi (Ldm s.Kind) fun y30=>bi (Kvp y30) fun y32=>bi (rangePM (σ:=Unit) (ρ:=Int) (fun x41 s40=>bi (bif !x41.2 then(bi (Kvm y32 x41.1) fun y54=>some (decide ((y54:Int)<0))) else(some false)) fun q51=>bif q51 then(bi (some 3) fun v=>some (.out v)) else(some (.go ()))) (mSet (mSet (mSet (mSet (mSet (mSet (mSet (mSet (mSet ([]:List (Int×Bool)) 98 ((s.By:Str)==[])) 110 ((s.Node:Str)==[])) 106 ((s.Join:Str)==[])) 112 ((s.Public:Str)==[])) 109 ((s.Name:Str)==[])) 116 (((s.Tags.length:Int):Int)==0)) 117 ((s.Until:Int)==0)) 115 ((s.Uses:Int)==0)) 114 (!s.Ready)) ()) fun q=>goI q fun s40=>some 0))=some e:=by
 obtain⟨b0,hb0,hb0'⟩:=Kyv _ h.by_
 obtain⟨b1,hb1,hb1'⟩:=Kyv _ (Kyy _ h.nd)
 obtain⟨b2,hb2,hb2'⟩:=Kyv _ (Kyz _ h.jn)
 obtain⟨b4,hb4,hb4'⟩:=Kyv _ h.nm
 obtain⟨b3,hb3,hb3'⟩:=Kyw _ h.pb
 obtain⟨e5,he5,he5',hl5⟩:=Kyx _ h.tg
 have R98:=(rf98 s).trans (Kyd hb0')
 have R110:=(Lmn s).trans (Kyd hb1')
 have R106:=(Lmo s).trans (Kyd hb2')
 have R109:=(Lmp s).trans (Kyd hb4')
 have R66:=rf66 s;rw[Kyd hb0'] at R66
 have R74:=rf74 s;rw[Kyd hb2'] at R74
 have R112:=Lmq s hb3'
 have R116:=Lmr s he5' hl5
 have R117:=Lms s;have R115:=Lmt s;have R114:=Lmu s
 have P0:=pf0 s hb0;have P1:=pf1 s hb1;have P2:=pf2 s hb2;have P3:=pf3 s hb3;have P4:=pf4 s hb4;have P5:=pf5 s he5 hl5
 have P6:=pf6 s;have P7:=pf7 s;have P8:=pf8 s
 have Z0:=fun h0=>Kyr hb0' h0
 have Z2:=fun h0=>Kyr hb2' h0
 have K:s.Kind=1∨s.Kind=2∨s.Kind=3∨s.Kind=4∨s.Kind=5∨s.Kind=6∨s.Kind=7∨s.Kind=8∨s.Kind=9:=by omega
 have U:∀ {k:Int} {us:Str},s.Kind=k→Ldm k=some us→Ldm s.Kind=some us:=fun e h=>by rw[e];exact h
 have F:∀ {k:Int} {us:List Int},s.Kind=k→Led k=some us→Led s.Kind=some us:=fun e h=>by rw[e];exact h
 rcases K with K | K | K | K | K | K | K | K | K<;>rw[K] at P0 P2
 ·exact Lmw (fl:=[0,2,5,6,7,8]) (lo:=[98,106,116,117,115,114]) (vals:=[bif b0 then 0 else 5,bif b2 then 0 else 5,e5,_,_,0]) (by decide)
   (Kys (F K rfl)<|Kyo s _ _ (by simp only[List.map_cons,List.map_nil,P0,P2,P5,P6,P7,P8];cases b0<;>cases b2<;>rfl))
   (Kys (U K rfl)<|Kyp s _ _ _ rfl rfl (U K rfl) (by
    show[Ldp s 98,Ldp s 106,Ldp s 116,Ldp s 117,Ldp s 115,Ldp s 114]=_
    rw[R98,R106,R116,R117,R115,R114];rfl))
 ·exact Lmw (fl:=[0,2]) (lo:=[98,106]) (vals:=[bif b0 then 0 else 5,bif b2 then 0 else 5]) (by decide)
   (Kys (F K rfl)<|Kyo s _ _ (by simp only[List.map_cons,List.map_nil,P0,P2];cases b0<;>cases b2<;>rfl))
   (Kys (U K rfl)<|Kyp s _ _ _ rfl rfl (U K rfl) (by
    show[Ldp s 98,Ldp s 106]=_
    rw[R98,R106];rfl))
 ·exact Lmw (fl:=[0,1,2,3,4]) (lo:=[98,110,106,112,109]) (vals:=[bif b0||(s.By==[]) then 0 else 5,bif b1 then 0 else 5,bif b2||(s.Join==[]) then 0 else 5,bif b3 then 0 else 5,bif b4 then 0 else 5]) (by decide)
   (Kys (F K rfl)<|Kyo s _ _ (by simp only[List.map_cons,List.map_nil,P0,P1,P2,P3,P4];rfl))
   (Kys (U K rfl)<|Kyp s _ _ _ rfl rfl (U K rfl) (by
    show[Ldp s 66,Ldp s 110,Ldp s 74,Ldp s 112,Ldp s 109]=_
    rw[R66,R110,R74,R112,R109]
    cases (s.By==[])<;>cases (s.Join==[])<;>cases b0<;>cases b2<;>rfl))
 ·exact Lmw (fl:=[0,1]) (lo:=[98,110]) (vals:=[bif b0 then 0 else 5,bif b1 then 0 else 5]) (by decide)
   (Kys (F K rfl)<|Kyo s _ _ (by simp only[List.map_cons,List.map_nil,P0,P1];cases b0<;>cases b1<;>rfl))
   (Kys (U K rfl)<|Kyp s _ _ _ rfl rfl (U K rfl) (by
    show[Ldp s 98,Ldp s 110]=_
    rw[R98,R110];rfl))
 ·exact Lmw (fl:=[0,1,3]) (lo:=[98,110,112]) (vals:=[bif b0 then 0 else 5,bif b1 then 0 else 5,bif b3 then 0 else 5]) (by decide)
   (Kys (F K rfl)<|Kyo s _ _ (by simp only[List.map_cons,List.map_nil,P0,P1,P3];cases b0<;>cases b1<;>rfl))
   (Kys (U K rfl)<|Kyp s _ _ _ rfl rfl (U K rfl) (by
    show[Ldp s 98,Ldp s 110,Ldp s 112]=_
    rw[R98,R110,R112];rfl))
 ·exact Lmw (fl:=[0,1,4]) (lo:=[98,110,109]) (vals:=[bif b0 then 0 else 5,bif b1 then 0 else 5,bif b4 then 0 else 5]) (by decide)
   (Kys (F K rfl)<|Kyo s _ _ (by simp only[List.map_cons,List.map_nil,P0,P1,P4];cases b0<;>cases b1<;>rfl))
   (Kys (U K rfl)<|Kyp s _ _ _ rfl rfl (U K rfl) (by
    show[Ldp s 98,Ldp s 110,Ldp s 109]=_
    rw[R98,R110,R109];rfl))
 ·exact Lmw (fl:=[0,1,5]) (lo:=[98,110,116]) (vals:=[bif b0 then 0 else 5,bif b1 then 0 else 5,e5]) (by decide)
   (Kys (F K rfl)<|Kyo s _ _ (by simp only[List.map_cons,List.map_nil,P0,P1,P5];cases b0<;>cases b1<;>rfl))
   (Kys (U K rfl)<|Kyp s _ _ _ rfl rfl (U K rfl) (by
    show[Ldp s 98,Ldp s 110,Ldp s 116]=_
    rw[R98,R110,R116];rfl))
 all_goals
  exact Lmw (fl:=[0,1]) (lo:=[98,110]) (vals:=[bif b0 then 0 else 5,bif b1 then 0 else 5]) (by decide)
   (Kys (F K rfl)<|Kyo s _ _ (by simp only[List.map_cons,List.map_nil,P0,P1];cases b0<;>cases b1<;>rfl))
   (Kys (U K rfl)<|Kyp s _ _ _ rfl rfl (U K rfl) (by
    show[Ldp s 98,Ldp s 110]=_
    rw[R98,R110];rfl))
theorem Kyu{s:Lby}(h:StepOk s):∃ e,Lem 400 s=some e∧Ldq s=some e:=by
 obtain⟨b,hb,hb'⟩:=Kyq s.At
 obtain⟨c,hc,hc'⟩:=Kyv _ h.sv
 obtain⟨d,hd,hd'⟩:=Kya s.No 1 1000000
 obtain⟨f,hf,hf'⟩:=Kya s.Kind 1 9
 unfold Lem Ldq
 rw[hb,hb',bi_some,bi_some]
 cases b with
 | false=>exact⟨1,rfl,rfl⟩
 | true=>
  simp only[Bool.not_true,cond_false]
  rw[hc,hc',bi_some,bi_some]
  cases c with
  | false=>exact⟨5,rfl,rfl⟩
  | true=>
   simp only[Bool.not_true,cond_false]
   rw[hd,hd',bi_some,bi_some]
   cases d with
   | true=>exact⟨1,rfl,rfl⟩
   | false=>
    simp only[Bool.not_false,Bool.not_true,cond_false]
    rw[hf,hf',bi_some,bi_some]
    cases f with
    | true=>exact⟨4,rfl,rfl⟩
    | false=>
     simp only[Bool.not_false,Bool.not_true,cond_false]
     have:1≤s.Kind∧s.Kind≤9:=by
      unfold Ldj at hf'
      simpa using hf'
     exact Kyt s h this.1 this.2
end Go.Gk
