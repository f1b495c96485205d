import Derived.Test.YtfnjahjbpaoepaaGreatDoorBC
set_option linter.all false
set_option maxRecDepth 100000
namespace Go.Gk
theorem Lfy{vals:List Int}{X:Int}(h:(match vals.find? (fun y=>(y:Int) != 0) with | some e=>e | none=>X)=0):∀ v∈vals,v=0:=by
 cases hf:vals.find? (fun y=>(y:Int) != 0) with
 | some e=>
  rw[hf] at h
  have:=List.find?_some hf
  rw[show e=0 from h] at this
  cases this
 | none=>
  intro v hv
  have:=List.find?_eq_none.1 hf v hv
  simpa using this
structure GoodS(s:Kxx):Prop where
 ok:StepOk s
 a0:0≤s.At
 a1:s.At<345686400
 n0:1≤s.No
 n1:s.No≤1000000
 k0:1≤s.Kind
 k1:s.Kind≤9
 u0:s.Kind=1→0≤s.Until∧s.Until≤999999999
 v0:s.Kind=1→0≤s.Uses∧s.Uses≤999999999
theorem no0{a:Int}{P:Prop}(h:(some a:Option Int)=some 0)(hn:a≠0):P:=absurd (oSi h) hn
theorem Lfz{s:Kxx}(ho:StepOk s)(h0:Lad s=some 0):GoodS s:=by
 obtain⟨b,hb,hb'⟩:=Kum s.At
 have hbv:b=((decide ((s.At:Int)≥0))&&(decide ((s.At:Int)<345686400))):=(oSi hb).symm
 have hg:=ho.g
 unfold Lad at h0
 rw[hb',bi_some,keyR _ hg.sv,bi_some,in1L,bi_some,in1L,bi_some] at h0
 cases b with
 | false=>exact no0 h0 (by decide)
 | true=>
 rw[Bool.not_true,cond_false] at h0
 cases hkb:keyB s.Server with
 | false=>rw[hkb] at h0;exact no0 h0 (by decide)
 | true=>
 rw[hkb,Bool.not_true,cond_false] at h0
 by_cases hn:1≤s.No∧s.No≤1000000
 ·rw[dT hn,Bool.not_true,cond_false] at h0
  by_cases hk:1≤s.Kind∧s.Kind≤9
  ·rw[dT hk,Bool.not_true,cond_false] at h0
   have hbb:=Bool.and_eq_true_iff.1 hbv.symm
   have key:s.Kind=1→(0≤s.Until∧s.Until≤999999999)∧(0≤s.Uses∧s.Uses≤999999999):=fun hK=>by
    obtain⟨b0,_,hb0'⟩:=keyG _ hg.by_
    obtain⟨b2,_,hb2'⟩:=keyG _ hg.jn
    obtain⟨e5,_,R116⟩:=tagG s hg.tg
    have R98:=(rf98 s).trans (Ktz hb0')
    have R106:=(Lgc s).trans (Ktz hb2')
    have R117:=Lgg s;have R115:=Lgh s;have R114:=Lgi s
    have hu:Kzy s.Kind=some [98,106,116,117,115,114]:=by rw[hK];rfl
    have ht:=Kul s [98,106,116,117,115,114] [98,106,116,117,115,114] [bif b0 then 0 else 5,bif b2 then 0 else 5,e5,bif !(decide (0≤s.Until)&&decide (s.Until≤999999999)) then 1 else 0,bif !(decide (0≤s.Uses)&&decide (s.Uses≤999999999)) then 1 else 0,0] rfl rfl hu (by
     show[Lac s 98,Lac s 106,Lac s 116,Lac s 117,Lac s 115,Lac s 114]=_
     rw[R98,R106,R116,R117,R115,R114];rfl)
    have h1:=(Kuo hu ht).symm.trans h0
    have hv:=Lfy (oSi h1)
    have hU:=hv (bif !(decide (0≤s.Until)&&decide (s.Until≤999999999)) then 1 else 0) (by simp)
    have hV:=hv (bif !(decide (0≤s.Uses)&&decide (s.Uses≤999999999)) then 1 else 0) (by simp)
    constructor
    ·cases hc:(decide (0≤s.Until)&&decide (s.Until≤999999999)) with
     | true=>simpa using hc
     | false=>rw[hc] at hU;cases hU
    cases hc:(decide (0≤s.Uses)&&decide (s.Uses≤999999999)) with
    | true=>simpa using hc
    | false=>rw[hc] at hV;cases hV
   exact⟨ho,of_decide_eq_true hbb.1,of_decide_eq_true hbb.2,hn.1,hn.2,hk.1,hk.2,fun h=>(key h).1,fun h=>(key h).2⟩
  rw[dF hk] at h0
  exact no0 h0 (by decide)
 rw[dF hn] at h0
 exact no0 h0 (by decide)
def dsh(x:Str):Str:=bif (x:Str)==[] then[45] else x
theorem Kdk(x:Str):Kzn x=some (dsh x):=by
 unfold Kzn dsh
 cases (x==[])<;>rfl
theorem Kdl(x:Str):Laj x=some (dsh x):=by
 unfold Laj dsh
 cases (x==[])<;>rfl
theorem Kdm{x:Str}{n:Nat}(h:x.length≤n)(hn:1≤n):(dsh x).length≤n:=by
 unfold dsh
 cases (x==[]) with
 | true=>exact hn
 | false=>exact h
def wd(s:Kxx)(f:Int):Str:=if f=0 then dsh s.By else if f=1 then dsh s.Node else if f=2 then dsh s.Join else if f=3 then dsh s.Public else if f=4 then dsh s.Name else if f=5 then dsh (Lib.join s.Tags [44]) else if f=6 then Lib.itoa s.Until else if f=7 then Lib.itoa s.Uses else bif s.Ready then[121,101,115] else[110,111]
theorem Kdn:∀ x∈pubT,x.length≤21:=by decide
theorem Kdo:∀ l∈tagsT,(Lib.join l [44]).length≤20∧l.length≤10:=by decide
theorem Kdp:∀ (k n:Nat),n<10 ^ (k+1)→(Lib.decDigits n).length≤k+1
 | 0,n,h=>by
  rw[Lib.decDigits,dif_pos (by simpa using h)]
  simp
 | k+1,n,h=>by
  rw[Lib.decDigits]
  split
  ·simp
  have h2:n / 10<10 ^ (k+1):=Nat.div_lt_of_lt_mul (by rw[Nat.mul_comm,←Nat.pow_succ];exact h)
  have:=Kdp k (n / 10) h2
  simp
  omega
theorem Kdq{n:Int}(h0:0≤n)(h1:n≤999999999):(Lib.itoa n).length≤9:=by
 rw[show n=((n.toNat:Nat):Int) by omega,Kap]
 exact Kdp 8 _ (by omega)
theorem Kdr{l:List Str}{c:UInt8}(h1:l.length≤100)(h2:(Lib.join l [c]).length≤100000):Ksm l [c]=some (Lib.join l [c]):=by
 unfold Ksm
 rw[Nat.ble_eq_true_of_le (by omega),Nat.ble_eq_true_of_le (by omega)]
 rfl
def inK(s:Kxx)(f:Int):Prop:=0≤f∧f≤8∧((f=6∨f=7)→s.Kind=1)
theorem Kds{s:Kxx}(h:GoodS s){f:Int}(hf:inK s f):(wd s f).length≤21:=by
 obtain⟨h1,h2,h3⟩:=hf
 have K:f=0∨f=1∨f=2∨f=3∨f=4∨f=5∨f=6∨f=7∨f=8:=by omega
 rcases K with rfl | rfl | rfl | rfl | rfl | rfl | rfl | rfl | rfl
 ·exact Kdm (Nat.le_trans (Kbn _ h.ok.by_) (by decide)) (by decide)
 ·exact Kdm (Nat.le_trans (Kbn _ (Kup _ h.ok.nd)) (by decide)) (by decide)
 ·exact Kdm (Nat.le_trans (Kbn _ (Kuq _ h.ok.jn)) (by decide)) (by decide)
 ·exact Kdm (Kdn _ h.ok.pb) (by decide)
 ·exact Kdm (Nat.le_trans (Kbn _ h.ok.nm) (by decide)) (by decide)
 ·exact Kdm (Nat.le_trans (Kdo _ h.ok.tg).1 (by decide)) (by decide)
 ·have:=h.u0 (h3 (.inl rfl))
  exact Nat.le_trans (Kdq this.1 this.2) (by decide)
 ·have:=h.v0 (h3 (.inr rfl))
  exact Nat.le_trans (Kdq this.1 this.2) (by decide)
 show List.length (bif s.Ready then([121,101,115]:Str) else[110,111])≤21
 cases s.Ready<;>decide
theorem Kdt{s:Kxx}(h:GoodS s){f:Int}(hf:inK s f):Kzp s f=some (wd s f):=by
 obtain⟨h1,h2,h3⟩:=hf
 have K:f=0∨f=1∨f=2∨f=3∨f=4∨f=5∨f=6∨f=7∨f=8:=by omega
 rcases K with rfl | rfl | rfl | rfl | rfl | rfl | rfl | rfl | rfl
 ·unfold Kzp;rw[Kdk];rfl
 ·unfold Kzp;rw[Kdk s.Node];rfl
 ·unfold Kzp;rw[Kdk s.Join];rfl
 ·unfold Kzp;rw[Kdk s.Public];rfl
 ·unfold Kzp;rw[Kdk s.Name];rfl
 ·have ht:=Kdo _ h.ok.tg
  unfold Kzp
  rw[Kdr (by omega) (by omega),bi_some,Kdk (Lib.join s.Tags [44])]
  rfl
 ·have:=h.u0 (h3 (.inl rfl))
  unfold Kzp;rw[Kau (n:=s.Until) (by omega) (by omega)];rfl
 ·have:=h.v0 (h3 (.inr rfl))
  unfold Kzp;rw[Kau (n:=s.Uses) (by omega) (by omega)];rfl
 show(bi (Kzo s.Ready) fun y35=>some y35)=some (bif s.Ready then([121,101,115]:Str) else[110,111])
 unfold Kzo
 cases s.Ready<;>rfl
def wbR(s:Kxx)(sn13:Nat)(x12:UInt8)(s11:List Str):Option (LS (List Str) Str):=bi (bif ((x12.toNat:Int):Int)==117 then(some (((x12.toNat:Int):Int)==117)) else(some (((x12.toNat:Int):Int)==115))) fun q24=>bif q24 then(bi (Ksj ((mGet (mSet (mSet ([]:List (Int×Int)) 117 s.Until) 115 s.Uses) (x12.toNat:Int)).getD 0)) fun y29=>bi (apd s11 [y29]) fun y31=>some (.go y31)) else(bif ((x12.toNat:Int):Int)==114 then(bi (apd s11 [((mGet (mSet (mSet ([]:List (Bool×Str)) true [121,101,115]) false [110,111]) s.Ready).getD [])]) fun y35=>some (.go y35)) else(bif ((x12.toNat:Int):Int)==116 then(bi (Ksm s.Tags [44]) fun y39=>bi (Laj y39) fun y41=>bi (apd s11 [y41]) fun y43=>some (.go y43)) else(bi (Laj ((mGet (mSet (mSet (mSet (mSet (mSet ([]:List (Int×Str)) 98 s.By) 110 s.Node) 106 s.Join) 112 s.Public) 109 s.Name) (x12.toNat:Int)).getD [])) fun y46=>bi (apd s11 [y46]) fun y48=>some (.go y48))))
theorem Kdu{s:Kxx}(h:GoodS s){f:Int}(hf:inK s f)(i:Nat)(acc:List Str)(ha:acc.length≤100000):wbR s i (ltrB f) acc=some (.go (acc++[wd s f])):=by
 obtain⟨h1,h2,h3⟩:=hf
 have ap:∀ w:Str,apd acc [w]=some (acc++[w]):=fun w=>Ktj (by simp;omega)
 have K:f=0∨f=1∨f=2∨f=3∨f=4∨f=5∨f=6∨f=7∨f=8:=by omega
 rcases K with rfl | rfl | rfl | rfl | rfl | rfl | rfl | rfl | rfl
 ·show(bi (Laj s.By) fun y46=>bi (apd acc [y46]) fun y48=>some (LS.go y48))=_
  rw[Kdl,bi_some,ap];rfl
 ·show(bi (Laj s.Node) fun y46=>bi (apd acc [y46]) fun y48=>some (LS.go y48))=_
  rw[Kdl,bi_some,ap];rfl
 ·show(bi (Laj s.Join) fun y46=>bi (apd acc [y46]) fun y48=>some (LS.go y48))=_
  rw[Kdl,bi_some,ap];rfl
 ·show(bi (Laj s.Public) fun y46=>bi (apd acc [y46]) fun y48=>some (LS.go y48))=_
  rw[Kdl,bi_some,ap];rfl
 ·show(bi (Laj s.Name) fun y46=>bi (apd acc [y46]) fun y48=>some (LS.go y48))=_
  rw[Kdl,bi_some,ap];rfl
 ·have ht:=Kdo _ h.ok.tg
  show(bi (Ksm s.Tags [44]) fun y39=>bi (Laj y39) fun y41=>bi (apd acc [y41]) fun y43=>some (LS.go y43))=_
  rw[Kdr (by omega) (by omega),bi_some,Kdl,bi_some,ap];rfl
 ·have:=h.u0 (h3 (.inl rfl))
  show(bi (Ksj s.Until) fun y29=>bi (apd acc [y29]) fun y31=>some (LS.go y31))=_
  rw[Kau (by omega) (by omega),bi_some,ap];rfl
 ·have:=h.v0 (h3 (.inr rfl))
  show(bi (Ksj s.Uses) fun y29=>bi (apd acc [y29]) fun y31=>some (LS.go y31))=_
  rw[Kau (by omega) (by omega),bi_some,ap];rfl
 show(bi (apd acc [((mGet (mSet (mSet ([]:List (Bool×Str)) true [121,101,115]) false [110,111]) s.Ready).getD [])]) fun y35=>some (LS.go y35))=some (.go (acc++[bif s.Ready then([121,101,115]:Str) else[110,111]]))
 rw[ap]
 cases s.Ready<;>rfl
end Go.Gk
namespace Go.Gk
theorem Kcr{b s:Str}(h:b.length+s.length≤1000000):Kzq b s=some ((s.length:Int),b++s):=by
 unfold Kzq
 rw[show Koi b=some () from rfl,bi_some,Kaa (Ktj (by omega))]
theorem Lfv{y:Int}(h1:1≤y)(h2:y≤9){fl:List Int}(h:Kyy y=some fl):∀ f∈fl,(f=6∨f=7)→y=1:=by
 have K:y=1∨y=2∨y=3∨y=4∨y=5∨y=6∨y=7∨y=8∨y=9:=by omega
 rcases K with rfl | rfl | rfl | rfl | rfl | rfl | rfl | rfl | rfl<;>(obtain rfl:=oSi h;decide)
theorem Kcs{y:Int}(h1:1≤y)(h2:y≤9):∃ kw,getZ kwT y=some kw∧kw.length≤7:=by
 have K:y=1∨y=2∨y=3∨y=4∨y=5∨y=6∨y=7∨y=8∨y=9:=by omega
 rcases K with rfl | rfl | rfl | rfl | rfl | rfl | rfl | rfl | rfl<;>exact⟨_,rfl,by decide⟩
theorem Lfw{s:Kxx}(h:GoodS s):∀ (fl:List Int) (i:Nat) (acc:List Str),(∀ f∈fl,inK s f)→acc.length+fl.length≤1000→rangeF (σ:=List Str) (fun i26 x28 s27=>bi (Kzp s x28) fun y37=>bi (apd s27 [y37]) fun y39=>some y39) i fl acc=some (acc++fl.map (wd s))
 | [],i,acc,_,_=>by simp[rangeF]
 | f :: fl,i,acc,hf,hl=>by
  have hl':acc.length+(fl.length+1)≤1000:=hl
  have ih:=Lfw h fl (i+1) (acc++[wd s f]) (fun g hg=>hf g (mCo _ hg)) (by simp;omega)
  simp only[rangeF,Kdt h (hf f List.mem_cons_self),bi_some,Ktj (show acc.length + [wd s f].length≤4294967296 by simp;omega)]
  rw[ih]
  simp
theorem Lfx{s:Kxx}(h:GoodS s):∀ (fl:List Int) (i:Nat) (acc:List Str),(∀ f∈fl,inK s f)→acc.length+fl.length≤1000→rangeM (wbR s) i (fl.map ltrB) acc=some (.go (acc++fl.map (wd s)))
 | [],i,acc,_,_=>by simp[rangeM]
 | f :: fl,i,acc,hf,hl=>by
  have hl':acc.length+(fl.length+1)≤1000:=hl
  have ih:=Lfx h fl (i+1) (acc++[wd s f]) (fun g hg=>hf g (mCo _ hg)) (by simp;omega)
  rw[List.map_cons,Kae (Kdu h (hf f mCs) i acc (by omega)),ih]
  simp
theorem Kct(c:UInt8):∀ r:List Str,(∀ x∈r,x.length≤21)→(Lib.joinTail [c] r).length≤22 * r.length
 | [],_=>by simp[Lib.joinTail]
 | y :: r,h=>by
  have ih:=Kct c r fun x hx=>h x (mCo _ hx)
  have h1:=h y mCs
  unfold Lib.joinTail at ih ⊢
  simp only[List.map_cons,List.flatten_cons,List.length_append,List.length_cons,List.length_nil] at ih ⊢
  omega
def rtP(i5:Nat)(x7:Kxx)(s6:List UInt8):Option (List UInt8):=bi (Ksj x7.At) fun y16=>bi (Ksj x7.No) fun y18=>bi Kzm fun y20=>bi (getZ y20 x7.Kind) fun x22=>bi (Kyy x7.Kind) fun y24=>bi (rangeF (σ:=List Str) (fun i26 x28 s27=>bi (Kzp x7 x28) fun y37=>bi (apd s27 [y37]) fun y39=>some y39) 0 y24 [y16,x7.Server,y18,x22]) fun q29=>bi (Ksm q29 [32]) fun y41=>bi (catZ y41 [10]) fun y43=>bi (Kzq s6 y43) fun y45=>some y45.2
def rtR(i1:Nat)(x3:Kxx)(s2:List UInt8):Option (List UInt8):=bi (Ksj x3.At) fun y12=>bi (catZ y12 [32]) fun y14=>bi (catZ y14 x3.Server) fun y16=>bi (catZ y16 [32]) fun y18=>bi (Ksj x3.No) fun y20=>bi (catZ y18 y20) fun y22=>bi (catZ y22 [32]) fun y24=>bi (Lak x3) fun y26=>bi (catZ y24 y26) fun y28=>bi (catZ y28 [10]) fun y30=>bi (Kzq s2 y30) fun y32=>some y32.2
theorem Kcu(s:Kxx):Lak s=bi Lai fun y1=>bi (getZ y1 s.Kind) fun x3=>bi (Kzy s.Kind) fun y5=>bi (Ksp y5) fun y7=>gd (asc y7) (bi (rangeM (wbR s) 0 y7 [x3]) fun q=>goI q fun s11=>bi (Ksm s11 [32]) fun y20=>some y20):=rfl
theorem Kcv{s:Kxx}(h:GoodS s):∃ row:Str,(∀ i acc,acc.length≤500000→rtP i s acc=some (acc++row))∧(∀ i acc,acc.length≤500000→rtR i s acc=some (acc++row))∧row.length≤1000:=by
 obtain⟨fl,us,k1,k2,k3,k4,k5,k6,k7,k8⟩:=Kcg h.k0 h.k1
 obtain⟨kw,w1,w2⟩:=Kcs h.k0 h.k1
 have hin:∀ f∈fl,inK s f:=fun f hf=>⟨(k5 f hf).1,(k5 f hf).2,Lfv h.k0 h.k1 k1 f hf⟩
 have e1:=Kdq h.a0 (show s.At≤999999999 by have:=h.a1;omega)
 have e2:=Kdq (show 0≤s.No by have:=h.n0;omega) (show s.No≤999999999 by have:=h.n1;omega)
 have e3:=Kbn _ h.ok.sv
 have hA:=Kau (n:=s.At) (by have:=h.a0;omega) (by have:=h.a1;omega)
 have hN:=Kau (n:=s.No) (by have:=h.n0;omega) (by have:=h.n1;omega)
 have hw:∀ x∈fl.map (wd s),x.length≤21:=fun x hx=>by
  obtain⟨f,hf,rfl⟩:=List.mem_map.1 hx
  exact Kds h (hin f hf)
 have ht:=Kct 32 (fl.map (wd s)) hw
 rw[List.length_map] at ht
 have hj:(Lib.join (kw :: fl.map (wd s)) [32]).length≤200:=by
  rw[Lib.join_cons,List.length_append];omega
 have hjl:(kw :: fl.map (wd s)).length≤100:=by simp;omega
 have hjj:Lib.join ([Lib.itoa s.At,s.Server,Lib.itoa s.No,kw]++fl.map (wd s)) [32]=Lib.itoa s.At++[32]++s.Server++[32]++Lib.itoa s.No++[32]++Lib.join (kw :: fl.map (wd s)) [32]:=by
  simp[Lib.join_cons,Lib.joinTail]
 refine⟨Lib.itoa s.At++[32]++s.Server++[32]++Lib.itoa s.No++[32]++Lib.join (kw :: fl.map (wd s)) [32]++[10],fun i acc ha=>?_,fun i acc ha=>?_,?_⟩
 ·have hW:=Lfw h fl 0 [Lib.itoa s.At,s.Server,Lib.itoa s.No,kw] hin (by simp;omega)
  unfold rtP
  rw[Kaa hA,Kaa hN,show Kzm=some kwT from rfl,bi_some,Kaa w1,Kaa k1,Kaa hW,Kaa (Kdr (by simp;omega) (by rw[hjj];simp;omega)),hjj,Kaa (Kag (by simp;omega)),Kaa (Kcr (by simp;omega))]
 ·have hW:=Lfx h fl 0 [kw] hin (by simp;omega)
  have hL:Lak s=some (Lib.join (kw :: fl.map (wd s)) [32]):=by
   rw[Kcu,show Lai=some kwT from rfl,bi_some,Kaa w1,Kaa k2,Kaa k3,k4,show(gd true (bi (rangeM (wbR s) 0 (fl.map ltrB) [kw]) fun q=>goI q fun s11=>bi (Ksm s11 [32]) fun y20=>some y20))=bi (rangeM (wbR s) 0 (fl.map ltrB) [kw]) fun q=>goI q fun s11=>bi (Ksm s11 [32]) fun y20=>some y20 from rfl,Kaa hW]
   show(bi (Ksm (kw :: fl.map (wd s)) [32]) fun y20=>some y20)=_
   rw[Kdr hjl (by omega)]
   rfl
  unfold rtR
  rw[Kaa hA,Kaa (Kag (by simp;omega)),Kaa (Kag (by simp;omega)),Kaa (Kag (by simp;omega)),Kaa hN,Kaa (Kag (by simp;omega)),Kaa (Kag (by simp;omega)),Kaa hL,Kaa (Kag (by simp;omega)),Kaa (Kag (by simp;omega)),Kaa (Kcr (by simp;omega))]
 simp;omega
theorem Kcw(l:List Kxx):Kzs 1000000 l=bi (Kzl 1000000 l) fun y1=>bif (y1:Int) != 0 then(some ([],y1)) else(bi (rangeF rtP 0 l ([]:Str)) fun q8=>bi (Kzr q8) fun y47=>bif decide ((y47:Int)>200000) then(some ([],2)) else(bi (Koj q8) fun y51=>some (y51,0))):=rfl
theorem Kcx(l:List Kxx):Lal l=bi (rangeF rtR 0 l ([]:Str)) fun q4=>bi (Koj q4) fun y34=>some y34:=rfl
theorem Kcy{l:List Kxx}(h:∀ x∈l,GoodS x)(hl:l.length≤100):∃ t:Str,rangeF rtP 0 l ([]:Str)=some t∧Lal l=some t∧t.length≤100000:=by
 obtain⟨s,t,h1,h2,h3,h4⟩:=Ksw (f:=rtP) (g:=rtR) l (fun i (s t:List UInt8)=>s=t∧s.length≤1000 * i) (fun i x s t hx hI=>by
  obtain⟨rfl,hI2⟩:=hI
  have hi:i<l.length:=(gEs.1 hx).1
  obtain⟨row,r1,r2,r3⟩:=Kcv (h x (mOg hx))
  exact⟨_,_,r1 i s (by omega),r2 i s (by omega),rfl,by simp;omega⟩) l 0 [] [] rfl ⟨rfl,by simp⟩
 subst h3
 refine⟨s,h1,?_,by omega⟩
 rw[Kcx,Kaa h2]
 rfl
theorem Kcz{l:List Kxx}(h:∀ x∈l,StepOk x)(hl:l.length≤100):∃ t e,Kzs 1000000 l=some (t,e)∧Lah l=some e∧(e=0→Lal l=some t∧t.length≤100000)∧(e≠0→t=[]):=by
 obtain⟨e,c1,c2,c3⟩:=Lft fun x hx=>(h x hx).g
 rw[Kcw,Kaa c1]
 by_cases he:e=0
 ·subst he
  obtain⟨t,t1,t2,t3⟩:=Kcy (fun x hx=>Lfz (h x hx) ((c3 rfl).2 x hx)) hl
  have hLen:Kzr t=some (t.length:Int):=rfl
  refine⟨t,0,?_,c2,fun _=>⟨t2,t3⟩,fun h0=>absurd rfl h0⟩
  rw[show(((0:Int) != 0):Bool)=false from rfl,cond_false,Kaa t1,Kaa hLen,dF (show ¬ ((t.length:Int)>200000) by omega)]
  rfl
 refine⟨[],e,?_,c2,fun h0=>absurd h0 he,fun _=>rfl⟩
 rw[bne_iff_ne.2 he]
 rfl
theorem Kda(a:Kxx):Lbk a a=some true:=by
 obtain⟨b,h1,h2⟩:=Kvg a.Tags a.Tags
 rw[h2 rfl] at h1
 unfold Lbk
 rw[Kaa h1]
 simp
theorem Kdb(l:List Kxx):Lbm l l=some true:=by
 unfold Lbm Lbl
 rw[show(((l.length:Int):Int) != (l.length:Int))=false by simp,cond_false]
 rcases Ksu (f:=fun (i3:Nat) (x5:Kxx) (s4:Unit)=>bi (getZ l (i3:Int)) fun x14=>bi (Lbk x5 x14) fun y16=>bif !y16 then(bi (some false) fun v=>some (LS.out v)) else(some (LS.go ()))) l (fun _ _=>True) (fun _:Bool=>False) (fun i x s hx _=>.inl ⟨(),by rw[Kaa (Ksy hx),Kaa (Kda x)];rfl,trivial⟩) l 0 () rfl trivial with⟨s',h1,_⟩ | ⟨q,_,h2⟩
 ·rw[Kaa h1];rfl
 exact h2.elim
end Go.Gk
