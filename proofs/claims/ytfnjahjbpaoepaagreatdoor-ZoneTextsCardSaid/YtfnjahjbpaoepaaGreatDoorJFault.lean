import Derived.Test.YtfnjahjbpaoepaaGreatDoorJRec
set_option linter.all false
set_option maxRecDepth 100000
namespace Go.Gk
open ZZ
def okG(r:Kyb):Prop:=r.Name.length≤39000∧r.To.length≤39000∧r.Words.length≤39000∧0≤r.Addr.Hi
theorem recG(r:Kyb)(h:okG r):∃ e,Kzn 40000 r=some e∧Lak r=some e:=by
 obtain⟨h1,h2,h3,h4⟩:=h
 obtain⟨ab,a1,a2⟩:=Ktc r.Addr h4
 have p1:=Lim r.Words h3
 have p2:=Lin r.Words h3
 obtain⟨ot,o1,o2⟩:=Ktf r.Life 0 1000000
 have hle:=Lgr r.Name [42,46]
 have d1:=Lgx 39998 (Lib.trimPrefix r.Name [42,46]) (by omega)
 have d2:=Lgy (Lib.trimPrefix r.Name [42,46]) (by omega)
 have d3:=Lgx 39998 r.To (by omega)
 have d4:=Lgy r.To (by omega)
 have hb:Kzg r.Name=some (Lib.trimPrefix r.Name [42,46]):=rfl
 have ht:Kto r.Name [42,46]=some (Lib.trimPrefix r.Name [42,46]):=rfl
 have hk:Lae=some [1,5,12,16,28]:=rfl
 have hha:Kzi r.Kind=some ((r.Kind==1)||(r.Kind==28)):=rfl
 have hhn:Kzk r.Kind=some ((r.Kind==5)||(r.Kind==12)):=rfl
 have hwe:(r.Words==[])=true→plB r.Words=true∧decide ((r.Words.length:Int)>200)=false:=fun e=>by
  rw[beq_iff_eq.1 e]
  exact⟨by decide +kernel,rfl⟩
 unfold Kzn Lak
 rw[hb,ht,hk,hha,hhn]
 simp only[bi_some]
 rw[d1,d2,d3,d4,Ktd,Kte,a1,a2,p1,p2,o1,o2]
 simp only[bi_some]
 generalize (domF (Lib.trimPrefix r.Name [42,46]) != 0)=x1
 generalize decide ((r.Name.length:Int)>253)=x2
 cases x1<;>cases x2<;>try exact⟨_,rfl,rfl⟩
 simp only[Bool.or_false,cond_false]
 cases hkb:kindB r.Kind with
 | false=>exact⟨_,rfl,rfl⟩
 | true=>
  simp only[Bool.not_true,cond_false]
  have hk':r.Kind=1∨r.Kind=5∨r.Kind=12∨r.Kind=16∨r.Kind=28:=by simpa [kindB] using hkb
  generalize (domF r.To != 0)=x3
  generalize (ab != 0)=x4
  generalize (r.Words==[])=x5 at hwe
  generalize plB r.Words=pl at hwe
  generalize decide ((r.Words.length:Int)>200)=x9 at hwe
  generalize (r.To==[])=x6
  generalize ((r.Addr.Six==false)&&((r.Addr.Hi==0)&&((r.Addr.Lo==0)&&true)))=x7
  generalize r.Addr.Six=x8
  rcases hk' with e | e | e | e | e<;>rw[e]<;>cases x3<;>cases x4<;>cases x6<;>cases x7<;>cases x8<;>cases ot<;>cases pl<;>cases x5<;>cases x9<;>first | exact⟨_,rfl,rfl⟩ | (exfalso;exact absurd (hwe rfl) (by decide))
def okZ(z:Kyc):Prop:=z.Root.length≤39000∧z.Records.length≤100000∧∀ r∈z.Records,okG r
theorem Lia(z:Kyc)(h:okZ z):∃ e,Kzt 40000 z=some e∧Lao z=some e∧(e=0→domF z.Root=0∧∀ r∈z.Records,Kzn 40000 r=some 0):=by
 obtain⟨h1,h2,h3⟩:=h
 unfold Kzt Lao
 rw[Lgx 39998 _ (by omega),Lgy _ (by omega)]
 simp only[bi_some]
 cases hd:(domF z.Root != 0) with
 | true=>exact⟨_,rfl,rfl,fun e=>by rw[e] at hd;cases hd⟩
 | false=>
  have hd0:domF z.Root=0:=by simpa using hd
  simp only[cond_false]
  cases decide ((z.Records.length:Int)>2000) with
  | true=>exact⟨2,rfl,rfl,fun e=>by cases e⟩
  | false=>
  simp only[cond_false]
  generalize hf:(fun (i7:Nat) (x9:Kyb) (s8:Unit)=>_)=f
  generalize hg:(fun (i7:Nat) (x9:Kyb) (s8:Unit)=>_)=g
  obtain⟨r,e1,e2,e3⟩:=Lhb (f:=f) (g:=g) (fun v=>v≠0) z.Records 0 (by
   intro j x hj hx
   obtain⟨rf,r1,r2⟩:=recG x (h3 x hx)
   have hb:=Lgr x.Name [42,46]
   have hb':=(h3 x hx).1
   obtain⟨u,u1,_⟩:=Lha (Lib.trimPrefix x.Name [42,46]) z.Root (by omega) (by omega)
   have hb1:Kzg x.Name=some (Lib.trimPrefix x.Name [42,46]):=rfl
   have hb2:Lal x.Name=some (Lib.trimPrefix x.Name [42,46]):=rfl
   subst hf;subst hg
   simp only[r1,r2,bi_some,hb1,hb2,Ksy,u1]
   cases hrf:(rf != 0) with
   | true=>exact⟨_,rfl,rfl,fun v e=>by cases e;simpa using hrf⟩
   | false=>
    simp only[cond_false]
    cases u with
    | false=>exact⟨_,rfl,rfl,fun v e=>by cases e;decide⟩
    | true=>
     simp only[Bool.not_true,cond_false]
     cases hj0:((j:Int)==0) with
     | true=>exact⟨_,rfl,rfl,fun v e=>by cases e⟩
     | false=>
      have hj1:(j:Int)≠0:=by simpa using hj0
      obtain⟨o,_,ho⟩:=Kwq z.Records (r:=wi ((j:Int) - 1)) (by rw[Kwl (by omega) (by omega)];omega) (by rw[Kwl (by omega) (by omega)];omega)
      obtain⟨c,c1,c2,_⟩:=Ktj o x
      simp only[cond_false,ho,bi_some,c1,c2]
      have hcomm:((x.Kind==5)||(o.Kind==5))=((o.Kind==5)||(x.Kind==5)):=Bool.or_comm _ _
      rw[hcomm]
      cases (c==0) with
      | true=>exact⟨_,rfl,rfl,fun v e=>by cases e;decide⟩
      | false=>
       cases decide (c>0) with
       | true=>exact⟨_,rfl,rfl,fun v e=>by cases e;decide⟩
       | false=>
        cases ((o.Name==x.Name)&&((o.Kind==5)||(x.Kind==5))) with
        | true=>exact⟨_,rfl,rfl,fun v e=>by cases e;decide⟩
        | false=>exact⟨_,rfl,rfl,fun v e=>by cases e⟩)
  rw[e1,e2]
  cases r with
  | out v=>exact⟨v,rfl,rfl,fun e=>absurd e (e3 v rfl)⟩
  | go u=>
   refine⟨0,rfl,rfl,fun _=>⟨hd0,fun b hb=>?_⟩⟩
   obtain⟨j,hj⟩:=List.getElem?_of_mem hb
   have:=Ksx z.Records 0 e1 j b hj
   subst hf
   simp only at this
   obtain⟨rf,r1,r2⟩:=recG b (h3 b hb)
   rw[r1] at this ⊢
   simp only[bi_some] at this
   cases hrf:(rf != 0) with
   | true=>rw[hrf] at this;cases this
   | false=>rw[show rf=0 from by simpa using hrf]
end Go.Gk
