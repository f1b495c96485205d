import Derived.Test.YtcihhlhmkcaeeaaGreatDoorGk68
set_option linter.all false
namespace Go.Gk
section
variable{P:Program}{Γ:TypeId→Option TI}{F N:Nat}{fr:Fr}{hp:List Ob}{g:G}{Q:GPost}{ops:Array Oper}{rest:List Oper}{α:Type}{enc:α→List D}
variable{d:Tmp}{ty:TypeId}{pos:String}{after:Array Edge}
theorem Kqv(hΓ:TOK P Γ){gd':Option (Nat×Bool)}{t e:TypeId}{len:Nat}{i1 i2:TI}{parts:Array (Nat×Operand)}{pg:List (Nat×G)}{gs:List G}{ds:List D}(h1:Γ t=some i1)(h1':i1.desc=.slice e)(h2:Γ e=some i2)
  (hz:(i2.zero.cells.toList.all (·.oneCell'))=true) (hz':Nat.blt 0 i2.zero.cells.size=true) (hlen:Nat.ble (len * i2.size) 16777216=true) (hlen':Nat.ble len 16777216=true) (hp':evParts fr parts.toList=some pg) (hf:fillG (fun i=>some (i * i2.size,i2.size)) (zerosG i2 len) pg=some gs) (hds:toDs gs=some ds) :
  OpS P N ⟨some d,.buildSlice t len parts,ty,pos,after,gd'⟩ fr hp (.sv hp.length len) (hp++[.rowv e i2.size len ds]):=fun Z w M a hr=>by
 obtain⟨cs,r1,r2,r3,r4⟩:=Kbj hΓ hr h1 h1' h2 hz hz' hlen hp' hf
 have hgs:=Kbf hds
 have hle:=nBe hlen'
 have hlen'':len≤maxLen:=by simp only[maxLen];omega
 have ho:voff len=0:=by unfold voff;omega
 have hc:vcap len=len:=by unfold vcap;omega
 have hdl:ds.length=len * i2.size:=by rw[←r3,hgs];simp
 obtain⟨f1,f2,f3⟩:=Kqk hr.heap (.rowv e i2.size len ds) cs e len fun w' O' hst hh=>⟨hdl,cs,hh,by rw[ho,hc,r2,r3];exact Nat.le_of_eq (Nat.zero_add _),by rw[hc];exact Nat.le_refl _,by rw[hc];exact hlen'',fun j dd hj=>by
  obtain⟨v,e1,e2,e3⟩:=r4 j (.d dd) (by rw[hgs,gMp,hj];rfl)
  cases e3 with
  | d h=>exact⟨v,by rw[ho,Nat.zero_add];exact e1,h.step hst⟩⟩
 have hv:VR (w.alloc (.cells cs e)) (ownZ Z (hp++[.rowv e i2.size len ds]) (M.app [some (w.heap.size,len)])) (M.app [some (w.heap.size,len)]) (.sv hp.length len) (.slice (some ⟨w.heap.size,voff len,none⟩) len (vcap len)):=.sv (by rw[←hr.heap.len];simp) (by rw[hc];exact Nat.le_refl _) (by rw[hc];exact hlen'')
 rw[ho,hc] at hv
 exact⟨_,_,_,by simp[execOp,r1],f1,hv,f2,f3⟩
theorem Kqw(hΓ:TOK P Γ){t e:TypeId}{len:Nat}{i1 i2:TI}{parts:Array (Nat×Operand)}{pg:List (Nat×G)}{gs:List G}(l:List α)(h1:Γ t=some i1)(h1':i1.desc=.slice e)(h2:Γ e=some i2)
  (hz:(i2.zero.cells.toList.all (·.oneCell'))=true) (hz':Nat.blt 0 i2.zero.cells.size=true) (hlen:Nat.ble (len * i2.size) 16777216=true) (hlen':Nat.ble len 16777216=true) (hp':evParts fr parts.toList=some pg) (hf:fillG (fun i=>some (i * i2.size,i2.size)) (zerosG i2 len) pg=some gs) (hds:toDs gs=some (l.flatMap enc)) (hl:len=l.length)
  (hd:Nat.blt d N=true) (hF:F≤hp.length) (k:EO P F N ops rest Q ((d,.sv hp.length l.length) :: fr) (hp++[.rowv e i2.size l.length (l.flatMap enc)])):EO P F N ops (⟨some d,.buildSlice t len parts,ty,pos,after,none⟩ :: rest) Q fr hp:=by
 subst hl
 exact eo_s hF (nblt.1 hd) (Kqv hΓ h1 h1' h2 hz hz' hlen hlen' hp' hf hds) k
end
end Go.Gk
