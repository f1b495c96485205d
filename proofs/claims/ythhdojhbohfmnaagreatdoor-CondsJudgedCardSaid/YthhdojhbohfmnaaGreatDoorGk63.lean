import Derived.Test.YthhdojhbohfmnaaGreatDoorGk62
set_option linter.all false
namespace Go.Gk
variable{P:Program}{Γ:TypeId→Option TI}{N:Nat}{fr:Fr}{hp:List Ob}{d:Tmp}{ty:TypeId}{pos:String}{after:Array Edge}{gd':Option (Nat×Bool)}
theorem Kpj(hΓ:TOK P Γ){t te:TypeId}{i1 i2:TI}{x:Operand}{n:Nat}{k:IntKind}(l:List Int)(h1:Γ t=some i1)(h1':i1.desc=.array n te)(h2:Γ te=some i2)(hs:Nat.beq i2.size 1=true)(hl:Nat.beq l.length n=true)
  (hm:Nat.ble n 4294967296=true) (hx:fr.ev x=some (.rp (l.map fun z=>D.v (.int k z)))):OpP P N ⟨some d,.slice t x none none none,ty,pos,after,gd'⟩ fr hp (.d (Sl (eN k) l)):=fun Z w M a' hr=>by
 obtain⟨u1,_⟩:=hΓ t _ h1
 rw[h1'] at u1
 obtain⟨_,inf,e1,e2,e3,e4⟩:=hΓ te _ h2
 have hs1:inf.size=1:=e2.trans (nEq hs)
 obtain rfl:=nEq hl
 have hmx:=nBe hm
 have hfl:l.flatMap (eN k)=l.map fun z=>D.v (.int k z):=by
  clear hx hm hl hmx h1' u1
  induction l with
  | nil=>rfl
  | cons z l ih=>simp only[List.flatMap_cons,List.map_cons,ih];rfl
 have hvx:=hr.ev hx
 generalize hvv:a'.eval x=vx at hvx
 cases hvx with
 | rp vs hb hO hc hv=>
  rename_i b off
  have hbd:=Kgj (P:=P) (w:=w) (b:=false) (l:=0) (h:=l.length) (len:=l.length) (cap:=l.length) hr (lo:=none) (hi:=none) rfl rfl (by omega) (Nat.le_refl _)
  refine⟨.slice (some ⟨b,off,none⟩) l.length l.length,?_,.d ?_⟩
  ·simp only[Option.map_none] at hbd
   simp[execOp,Instr.sliceAt,run_underlying u1,hvv,Instr.sureAddr,hbd,sizeOf,typeInfo,e1,hs1,Addr.add]
  ·unfold Sl
   rw[hfl]
   refine .ro _ _ b off _ vs hb (fun j hj=>hO j hj) (Nat.le_refl _) (by simp only[maxLen];omega) hc hv
end Go.Gk
