import Derived.Test.YtfnjahjbpaoepaaGreatDoorWCmp
set_option linter.all false
set_option maxRecDepth 100000
namespace Go.Gk
def cmpI(x y:Int):Int:=if x<y then -1 else if x>y then 1 else 0
theorem Kyp(x y:Int):Lax x y=some (cmpI x y):=by
 unfold Lax Law cmpI
 have:∀ z:Int,(z != z)=false:=fun z=>by simp
 rw[this,this]
 by_cases h:x<y
 ·simp[h]
 by_cases h2:y<x<;>simp[h,h2]
theorem Kyq(x y:Int):Lat x y=some (cmpI x y):=by
 unfold Lat Las cmpI
 have:∀ z:Int,(z != z)=false:=fun z=>by simp
 rw[this,this]
 by_cases h:x<y
 ·simp[h]
 by_cases h2:y<x<;>simp[h,h2]
theorem Kyr:∀ (l:List Int),Lau l=some ((l.find? (· != 0)).getD 0):=by
 intro l
 unfold Lau
 have key:∀ (m:List Int) (i:Nat),(bi (rangeM (σ:=Unit) (ρ:=Int) (fun i1 x3 s2=>bif (x3:Int) != 0 then(bi (some x3) fun v=>some (.out v)) else(some (.go ()))) i m ()) fun q=>goI q fun a6=>some 0)=some ((m.find? (· != 0)).getD 0):=by
  intro m
  induction m with
  | nil=>intro i;rfl
  | cons y m ih=>
   intro i
   cases hy:(y != 0) with
   | true=>simp[rangeM,hy]
   | false=>
    simp only[rangeM,hy,cond_false,List.find?_cons]
    exact ih (i+1)
 exact key l 0
theorem Kys(x y:Int):Lau [x,y]=some (if x=0 then y else x):=by
 rw[Kyr]
 by_cases h:x=0
 ·by_cases h2:y=0
  ·simp[h,h2]
  simp[h,bne_iff_ne.2 h2]
 simp[h,bne_iff_ne.2 h]
theorem Kyt{a b:Kzo}(ha:AOk a)(hb:AOk b):Lav a b=some (cmpA a b):=by
 unfold Lav cmpA
 by_cases hs:a.Six=b.Six
 ·rw[if_pos hs,hs,show(b.Six==b.Six)=true by simp]
  simp only[Bool.not_true,cond_false,Kyq,bi_some,Kys]
  have:=ha.h0;have:=ha.h1;have:=ha.l0;have:=ha.l1;have:=hb.h0;have:=hb.h1;have:=hb.l0;have:=hb.l1
  congr 1
  unfold cmpI cmpN nm
  by_cases h1:a.Hi<b.Hi
  ·rw[if_pos h1,if_neg (by decide),if_pos (by omega)]
  rw[if_neg h1]
  by_cases h2:a.Hi>b.Hi
  ·rw[if_pos h2,if_neg (by decide),if_neg (by omega),if_pos (by omega)]
  rw[if_neg h2,if_pos rfl]
  by_cases h3:a.Lo<b.Lo
  ·rw[if_pos h3,if_pos (by omega)]
  rw[if_neg h3]
  by_cases h4:a.Lo>b.Lo
  ·rw[if_pos h4,if_neg (by omega),if_pos (by omega)]
  rw[if_neg h4,if_neg (by omega),if_neg (by omega)]
 rw[if_neg hs,beq_eq_false_iff_ne.2 hs]
 cases b.Six<;>rfl
def cmpP(p q:Kzp):Int:=if cmpA p.Addr q.Addr=0 then cmpI p.Bits q.Bits else cmpA p.Addr q.Addr
theorem Kyu{p q:Kzp}(hp:AOk p.Addr)(hq:AOk q.Addr):Laz p q=some (cmpP p q):=by
 unfold Laz cmpP
 rw[Kyt hp hq,Kyp]
 simp only[bi_some,Kys]
theorem Kyv{p q:Kzp}(hp:AOk p.Addr)(hq:AOk q.Addr)(k:Nat)(hk:10≤k):Lbt k p q=some (cmpP p q):=by
 unfold Lbt cmpP
 rw[Kyk hp hq k hk,Kyp]
 simp only[bi_some,Kys]
def afZ(a:Kzo):Int:=if a.Six=false∧(a.Hi≠0∨a.Lo≥4294967296) then 3 else 0
theorem afP(a:Kzo):Lal a=some (afZ a):=by
 unfold Lal afZ
 cases h:a.Six
 ·by_cases h2:a.Hi=0
  ·by_cases h3:a.Lo≥4294967296
   ·simp[h2,h3]
   simp[h2,h3]
  simp[h2,bne_iff_ne.2 h2]
 simp
theorem afR(a:Kzo)(h0:0≤a.Hi):Lbk a=some (afZ a):=by
 unfold Lbk afZ
 cases h:a.Six
 ·by_cases h2:a.Hi=0
  ·by_cases h3:a.Lo≥4294967296
   ·simp[h2,h3,show(4294967295:Int)<a.Lo by omega]
   simp[h2,h3,show ¬ (4294967295:Int)<a.Lo by omega]
  simp[h2,show(0:Int)<a.Hi by omega]
 simp
theorem Kyw(n a b:Int):Lan n a b=some (!decide (a≤n∧n≤b)):=by
 unfold Lan
 congr 1
 rw[Bool.eq_iff_iff]
 simp
theorem Kyx(n a b:Int):Lbp n a b=some (decide (a≤n∧n≤b)):=by
 unfold Lbp
 congr 1
 rw[Bool.eq_iff_iff]
 simp
theorem Kyy(n a b:Int):Lbl n a b=some (decide (a≤n∧n≤b)):=by
 unfold Lbl
 congr 1
 rw[Bool.eq_iff_iff]
 simp
def opn(p:Kzp):Nat:=((lnN p.Addr:Int) - p.Bits).toNat
def pfA(p:Kzp):Int:=if afZ p.Addr≠0 then 3 else if ¬ (0≤p.Bits∧p.Bits≤lnN p.Addr) then 1 else if cl (nm p.Addr) (opn p)≠nm p.Addr then 3 else 0
theorem Kyz(a:Kzo):afZ a=0∨afZ a=3:=by unfold afZ;split<;>simp
theorem Kza{p:Kzp}(h:AOk p.Addr):Laq p=some (pfA p):=by
 unfold Laq pfA
 rw[afP]
 rcases Kyz p.Addr with e | e
 ·rw[e]
  simp only[bi_some,bne_self_eq_false,cond_false,Kyc,Kyd,Kyw,ne_eq,not_true_eq_false,if_false]
  by_cases hb:0≤p.Bits∧p.Bits≤lnN p.Addr
  ·rw[dT hb,if_neg (not_not_intro hb)]
   simp only[Bool.not_true,cond_false]
   rw[Kyf h p.Bits hb.1 hb.2]
   simp only[bi_some]
   rw[Kya]
   unfold opn
   by_cases hc:cl (nm p.Addr) ((lnN p.Addr:Int) - p.Bits).toNat=nm p.Addr
   ·rw[dT ((Kxz h).2 ⟨rfl,hc⟩),if_neg (not_not_intro hc)];rfl
   rw[dF fun e=>hc ((Kxz h).1 e).2,if_pos hc];rfl
  rw[dF hb,if_pos hb];rfl
 rw[e];rfl
theorem Kzb{n m:Nat}(hn:n<2 ^ 128)(hm:m<2 ^ 128){f:Bool}(h:w9 n f=w9 m f):n=m:=by
 have h1:=Kyh 5 (Nat.le_refl _) hn f
 rw[h,Kyh 5 (Nat.le_refl _) hm f] at h1
 have:=congrArg nm (oSi h1)
 rw[Kxx,Kxx] at this
 exact this.symm
def l9(w:W9):List Int:=[w.1,w.2.1,w.2.2.1,w.2.2.2.1,w.2.2.2.2.1,w.2.2.2.2.2.1,w.2.2.2.2.2.2.1,w.2.2.2.2.2.2.2.1,w.2.2.2.2.2.2.2.2]
theorem Kzc{v w:W9}(h:l9 v=l9 w):v=w:=by
 obtain⟨v0,v1,v2,v3,v4,v5,v6,v7,v8⟩:=v
 obtain⟨w0,w1,w2,w3,w4,w5,w6,w7,w8⟩:=w
 unfold l9 at h
 simp only[List.cons.injEq,and_true] at h
 obtain⟨rfl,rfl,rfl,rfl,rfl,rfl,rfl,rfl,rfl⟩:=h
 rfl
theorem Kzd(v w:W9)(p:Prop)[Decidable p](h:v=w ↔ p):decide (([v.1,v.2.1,v.2.2.1,v.2.2.2.1,v.2.2.2.2.1,v.2.2.2.2.2.1,v.2.2.2.2.2.2.1,v.2.2.2.2.2.2.2.1,v.2.2.2.2.2.2.2.2]:List Int)=([w.1,w.2.1,w.2.2.1,w.2.2.2.1,w.2.2.2.2.1,w.2.2.2.2.2.1,w.2.2.2.2.2.2.1,w.2.2.2.2.2.2.2.1,w.2.2.2.2.2.2.2.2]:List Int))=decide p:=by
 rw[Bool.eq_iff_iff]
 simp only[decide_eq_true_eq]
 exact⟨fun e=>h.1 (Kzc e),fun e=>by rw[h.2 e]⟩
theorem Kze(v w:W9)(n m:Nat)(h:v=w ↔ n=m):(bif !decide (([v.1,v.2.1,v.2.2.1,v.2.2.2.1,v.2.2.2.2.1,v.2.2.2.2.2.1,v.2.2.2.2.2.2.1,v.2.2.2.2.2.2.2.1,v.2.2.2.2.2.2.2.2]:List Int)=([w.1,w.2.1,w.2.2.1,w.2.2.2.1,w.2.2.2.2.1,w.2.2.2.2.2.1,w.2.2.2.2.2.2.1,w.2.2.2.2.2.2.2.1,w.2.2.2.2.2.2.2.2]:List Int)) then(some (3:Int)) else(some 0))=some (if n≠m then 3 else 0):=by
 rw[Kzd v w (n=m) h]
 by_cases hc:n=m
 ·simp[hc]
 simp[hc]
theorem Kzf{p:Kzp}(h:AOk p.Addr)(k:Nat)(hk:10≤k):Lbm k p=some (pfA p):=by
 have hcut:∀ hb:0≤p.Bits∧p.Bits≤lnN p.Addr,(bi (Lac k p.Addr p.Bits) fun y11=>bi (Laa k p.Addr) fun y13=>bif !decide (([y11.1,y11.2.1,y11.2.2.1,y11.2.2.2.1,y11.2.2.2.2.1,y11.2.2.2.2.2.1,y11.2.2.2.2.2.2.1,y11.2.2.2.2.2.2.2.1,y11.2.2.2.2.2.2.2.2]:List Int)=([y13.1,y13.2.1,y13.2.2.1,y13.2.2.2.1,y13.2.2.2.2.1,y13.2.2.2.2.2.1,y13.2.2.2.2.2.2.1,y13.2.2.2.2.2.2.2.1,y13.2.2.2.2.2.2.2.2]:List Int)) then(some (3:Int)) else(some 0))=some (if cl (nm p.Addr) (opn p)≠nm p.Addr then 3 else 0):=fun hb=>by
  have e1:=Kwz h k (by omega) p.Bits hb.1 (by rw[Kyd];exact hb.2)
  rw[Kyd] at e1
  have e3:((lnN p.Addr:Int) - p.Bits).toNat=opn p:=rfl
  rw[e3] at e1
  rw[e1,Kwu h k (by omega),bi_some,bi_some]
  have e4:w9 (cl (nm p.Addr) (opn p)) p.Addr.Six=w9 (nm p.Addr) p.Addr.Six ↔ cl (nm p.Addr) (opn p)=nm p.Addr:=⟨fun e=>Kzb (Nat.lt_of_le_of_lt (Kyg _ _) (Kwo h)) (Kwo h) e,fun e=>by rw[e]⟩
  have e5:=Kze (w9 (cl (nm p.Addr) (opn p)) p.Addr.Six) (w9 (nm p.Addr) p.Addr.Six) (cl (nm p.Addr) (opn p)) (nm p.Addr) e4
  exact e5
 unfold Lbm pfA
 rw[afR _ h.h0]
 by_cases e:afZ p.Addr=0
 ·rw[e,if_neg (not_not_intro rfl)]
  simp only[bi_some,bne_self_eq_false,cond_false,Kwv,Kyd,Kyy]
  by_cases hb:0≤p.Bits∧p.Bits≤lnN p.Addr
  ·rw[dT hb,if_neg (not_not_intro hb)]
   simp only[Bool.not_true,cond_false]
   exact hcut hb
  rw[dF hb,if_pos hb]
  simp only[Bool.not_false,cond_true]
 rw[if_pos e,bi_some,bne_iff_ne.2 e,cond_true]
 rcases Kyz p.Addr with e2 | e2
 ·exact absurd e2 e
 rw[e2]
structure VP(p:Kzp):Prop where
 ok:AOk p.Addr
 b0:0≤p.Bits
 b1:p.Bits≤lnN p.Addr
 cut:cl (nm p.Addr) (opn p)=nm p.Addr
theorem VP.of{p:Kzp}(h:AOk p.Addr)(h0:pfA p=0):VP p:=by
 unfold pfA at h0
 by_cases h1:afZ p.Addr=0
 ·rw[if_neg (not_not_intro h1)] at h0
  by_cases hb:0≤p.Bits∧p.Bits≤lnN p.Addr
  ·rw[if_neg (not_not_intro hb)] at h0
   by_cases hc:cl (nm p.Addr) (opn p)=nm p.Addr
   ·exact⟨h,hb.1,hb.2,hc⟩
   rw[if_pos hc] at h0;omega
  rw[if_pos hb] at h0;omega
 rw[if_pos h1] at h0;omega
def hold(p:Kzp)(a:Kzo):Bool:=decide (p.Addr.Six=a.Six∧cl (nm a) (opn p)=nm p.Addr)
end Go.Gk
