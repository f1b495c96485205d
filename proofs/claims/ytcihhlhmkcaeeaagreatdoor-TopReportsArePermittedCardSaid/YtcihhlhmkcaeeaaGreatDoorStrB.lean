import Derived.Test.YtcihhlhmkcaeeaaGreatDoorGt
import Derived.Test.YtcihhlhmkcaeeaaGreatDoorMStrB
import Derived.Laws.Externs
set_option linter.all false
set_option maxRecDepth 100000
namespace Go.Gk
def ExtT(P:Program)(f:FuncId)(gs:List G)(g:G):Prop:=∃ vs r,plainV gs=some vs∧Ext P f vs r∧∀ w O M,VR w O M g r
section
variable{P:Program}{F N:Nat}{fr:Fr}{hp:List Ob}{g:G}{Q:GPost}{ops:Array Oper}{rest:List Oper}
variable{d:Tmp}{ty:TypeId}{pos:String}{after:Array Edge}{gd:Option (Nat×Bool)}
theorem Kth{fop:Operand}{args:Array Operand}{ts:Array TypeId}{f:FuncId}{gs:List G}{g:G}(hf:fr.ev fop=some (.fn (.func f) [] []))(ha:args.toList.mapM fr.ev=some gs)(he:ExtT P f gs g) :
  OpP P N ⟨some d,.call ⟨.value fop,args,ts⟩,ty,pos,after,gd⟩ fr hp g:=fun Z w M a hr=>by
 obtain⟨vs,r,hv,he,hg⟩:=he
 have hvf:=hr.ev hf
 have hav:args.map a.eval=vs.toArray:=by
  have:=Kcm hr _ ha hv
  apply Array.ext'
  simpa using this
 simp only[execOp,resolve]
 generalize a.eval fop=vf at hvf
 cases hvf with
 | fn l1 l2 r1 r2=>
  rename_i v1 v2
  have e1:v1=#[]:=Array.eq_empty_of_size_eq_zero (by simpa using l1)
  have e2:v2=#[]:=Array.eq_empty_of_size_eq_zero (by simpa using l2)
  subst e1;subst e2
  exact⟨r,by simp[Deferred.ofValue,invoke,hav,he w],hg _ _ _⟩
theorem Kti{fop:Operand}{args:Array Operand}{ts:Array TypeId}{f:FuncId}{gs:List G}(hd:Nat.blt d N=true)(hf:fr.ev fop=some (.fn (.func f) [] []))(ha:args.toList.mapM fr.ev=some gs)(he:ExtT P f gs g)
  (k:EO P F N ops rest Q ((d,g) :: fr) hp):EO P F N ops (⟨some d,.call ⟨.value fop,args,ts⟩,ty,pos,after,none⟩ :: rest) Q fr hp:=eo_p hd (Kth hf ha he) k
end
end Go.Gk
namespace Go.Proofs.YtcihhlhmkcaeeaaGreatDoor
open Go.Gk
def sub64E:Array Value→Sem Value:=fun args=>do
 let (x,y,b)←Extern.MathBitsCarry.three "Sub64" args
 pure (Extern.MathBitsCarry.pair ((x+Extern.MathBitsCarry.m64 - y - b) % Extern.MathBitsCarry.m64) (if x<y+b then 1 else 0))
theorem Ktj{w:World}{O:Ow}{M:Mp}(a b:Int):VR w O M (.tup [.d (.v (.int .u64 a)),.d (.v (.int .u64 b))]) (.tuple #[.int .u64 a,.int .u64 b]):=.tup rfl fun j g v hg hv=>by
 match j with
 | 0=>cases hg;cases hv;exact .d (.v _ rfl)
 | 1=>cases hg;cases hv;exact .d (.v _ rfl)
 | j+2=>cases hg
theorem Ktf{x y c:Int}{r:Int×Int}(h:Kro x y c=some r):ExtT Tryz.prog 239 [.d (.v (.int .u64 x)),.d (.v (.int .u64 y)),.d (.v (.int .u64 c))] (.tup [.d (.v (.int .u64 r.1)),.d (.v (.int .u64 r.2))]):=by
 obtain⟨h1,h⟩:=Kdx h
 cases h
 simp only[Bool.and_eq_true,decide_eq_true_eq] at h1
 exact⟨_,_,rfl,Kcl Tryz.func239 (by kernel_rfl) (by kernel_rfl) (by kernel_rfl) (e:=add64Entry) (by kernel_rfl) fun w=>run_add64 x y c h1.1 h1.2.1 h1.2.2.1 h1.2.2.2 w,fun _ _ _=>Ktj _ _⟩
theorem Ktg{x y c:Int}{r:Int×Int}(h:Krp x y c=some r):ExtT Tryz.prog 240 [.d (.v (.int .u64 x)),.d (.v (.int .u64 y)),.d (.v (.int .u64 c))] (.tup [.d (.v (.int .u64 r.1)),.d (.v (.int .u64 r.2))]):=by
 obtain⟨h1,h⟩:=Kdx h
 cases h
 simp only[Bool.and_eq_true,decide_eq_true_eq] at h1
 obtain⟨X,rfl⟩:=Int.eq_ofNat_of_zero_le h1.1
 obtain⟨Y,rfl⟩:=Int.eq_ofNat_of_zero_le h1.2.1
 obtain⟨b,rfl⟩:=Int.eq_ofNat_of_zero_le h1.2.2.1
 have hb:b≤1:=by omega
 refine⟨_,_,rfl,Kcl Tryz.func240 (by kernel_rfl) (by kernel_rfl) (by kernel_rfl) (e:=sub64E) (by kernel_rfl) fun w=>?_,fun _ _ _=>Ktj _ _⟩
 have:b=0∨b=1:=by omega
 rcases this with rfl | rfl<;>rfl
end Go.Proofs.YtcihhlhmkcaeeaaGreatDoor
