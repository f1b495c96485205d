import Derived.Test.YthhdojhbohfmnaaGreatDoorGk58
set_option linter.all false
namespace Go.Gk
open Go.Instr
section
variable{P:Program}{Γ:TypeId→Option TI}{F N:Nat}{fr:Fr}{hp:List Ob}{d:Tmp}{ty:TypeId}{pos:String}{after:Array Edge}{gd':Option (Nat×Bool)}{t':TypeId}{Z:Env}{M:Mp}{w:World}{Q:GPost}{ops:Array Oper}{rest:List Oper}
def makeZ{α:Type}(z:α)(n:Int):Option (List α):=match n with
 | .ofNat k=>bif Nat.ble k 16777216 then some (List.replicate k z) else none
 | _=>none
theorem Kom{α:Type}(enc:α→List D)(z:α):∀ n:Nat,(List.replicate n z).flatMap enc=(List.replicate n (enc z)).flatten
 | 0=>rfl
 | n+1=>by rw[List.replicate_succ,List.flatMap_cons,Kom enc z n,List.replicate_succ,List.flatten_cons]
theorem Kon{α:Type}{enc:α→List D}{z:α}{n:Int}{r:List α}(hΓ:TOK P Γ){t e:TypeId}{i1 i2:TI}{x y:Operand}{k1 k2:IntKind}(hz:makeZ z n=some r)(h1:Γ t=some i1)(h1':i1.desc=.slice e)(h2:Γ e=some i2)(hz1:(i2.zero.cells.toList.all (·.oneCell'))=true)(hz2:Nat.blt 0 i2.zero.cells.size=true)(hz3:Nat.beq i2.zero.cells.size i2.size=true)
  (hb:Nat.ble i2.bytes 16777216=true) (he:i2.zero.cells.toList.map D.v=enc z) (hx:fr.ev x=some (.d (.v (.int k1 n)))) (hy:fr.ev y=some (.d (.v (.int k2 n)))) (hd:Nat.blt d N=true) (hF:F≤hp.length)
  (k:EO P F N ops rest Q ((d,.sl hp.length r.length) :: fr) (hp++[.row e i2.size r.length (r.flatMap enc)])):EO P F N ops (⟨some d,.makeSlice t x y,ty,pos,after,none⟩ :: rest) Q fr hp:=by
 unfold makeZ at hz
 cases n with
 | negSucc _=>cases hz
 | ofNat m=>
  simp only at hz
  cases hm:Nat.ble m 16777216 with
  | false=>rw[hm] at hz;cases hz
  | true=>
   rw[hm] at hz
   cases hz
   have hm':=nBe hm
   have hb':=nBe hb
   rw[List.length_replicate] at k
   have hzz:zerosD i2 m=(List.replicate m z).flatMap enc:=by rw[Kom,←he];rfl
   refine Kgp hΓ m m h1 h1' h2 hz1 hz2 hz3 hx hy (Nat.le_refl _) (by simp only[maxLen];omega) ?_ hd hF (by rw[hzz];exact k)
   calc i2.bytes * m≤16777216 * 16777216:=Nat.mul_le_mul hb' hm'
    _=281474976710656:=by decide
end
end Go.Gk
