import Derived.Test.YtmecneoeklldeaaGreatDoorGt
import Derived.Test.YtmecneoeklldeaaGreatDoorMStr9
import Derived.Test.YtmecneoeklldeaaGreatDoorGk58
import Derived.Test.YtmecneoeklldeaaGreatDoorLays
import Derived.Shelf.Strconv.Itoa3
import Derived.Lib.AppendIntMem
import Derived.Shelf.Strings.SlTrimAscii
import Derived.Shelf.Strings.Replace
set_option linter.all false
set_option maxRecDepth 100000
namespace Go.Proofs.YtmecneoeklldeaaGreatDoor
open Go.Gk Go.Shelf Go.RowKit Go.Sort Go.Lib
theorem Lbj {w:World} (h:TabX w):Lib.TabIs Tryz.prog w "internal/strconv.uint64pow10" .u64 Lib.pow10Tab:=by
 obtain⟨t,e,h⟩:=h.2.2.1
 unfold Lib.TabIs World.var?
 rw[show Tryz.prog.globalNamed "internal/strconv.uint64pow10" = some 1 by kernel_rfl]
 show(match w.heap[1]? with | some (.cells cs _ _)=>some cs | _=>none)=_
 rw[h]
theorem Ktj{n:Int}{r:Str}(h:Kqv n=some r):Pure Tryz.prog 31 [I n] (S r):=by
 obtain⟨h1,h⟩:=Khg h
 cases h
 rw[Bool.and_eq_true,decide_eq_true_eq,decide_eq_true_eq] at h1
 exact Pure.of_belowX rfl rfl fun w hT=>(Tryz.strconv_Itoa n h1.1 h1.2 w (Lbj hT)).mono fun e w' ⟨he,k,os,hw⟩=>⟨he,by subst hw;exact Lib.below_grow w.heap.size w (Nat.le_refl _) k os⟩
theorem Ktn{w:World}{O:Ow}{M:Mp}{r:Int}{e:Value}(h2:e.oneCell'=true):VR w O M (.tup [I r,.d (.v e)]) (.tuple #[.int .i64 r,e]):=.tup rfl fun j g v hg hv=>by
 match j with
 | 0=>cases hg;cases hv;exact .d (.v _ rfl)
 | 1=>cases hg;cases hv;exact .d (.v _ h2)
 | j+2=>cases hg
theorem Ktk{s:Str}{r:Int}(h:Kqz s=some r):Pure Tryz.prog 91 [S s] (.tup [I r,.d (.v .nilIface)]):=by
 obtain⟨h1,h⟩:=Khg h
 exact EC.of_belowX rfl fun w hT=>(Tryz.strconv_Atoi ⟨s.toArray⟩ r (by have:=Nat.le_of_ble_eq_true h1;simpa using this) h w).mono fun e w' ⟨he,t,hw⟩=>⟨_,_,he,rfl,fun O M=>Ktn rfl,by subst hw;exact Lib.bytesWorld_below _ _ _⟩
theorem Ktl{s old new r:Str}(h:Krb s old new=some r):Pure Tryz.prog 83 [S s,S old,S new] (S r):=by
 obtain⟨h1,h⟩:=Khg h
 simp only[Bool.and_eq_true] at h1
 obtain⟨h1,h2,h3⟩:=h1
 have h1:=Nat.le_of_ble_eq_true h1
 have h2:=nblt.1 h2
 have h3:=Nat.le_of_ble_eq_true h3
 cases h
 have hc:Lib.countB (⟨s.toArray⟩:ByteArray) (⟨old.toArray⟩:ByteArray)≤s.length:=by
  have:=Lib.countB_le (⟨old.toArray⟩:ByteArray) (by simpa using h1) s.length ⟨s.toArray⟩ (by simp)
  exact this
 refine Pure.of_belowX rfl rfl fun w hT=>?_
 obtain⟨m,hm⟩:=hT.2.1
 refine(Tryz.strings_ReplaceAll ⟨s.toArray⟩ ⟨old.toArray⟩ ⟨new.toArray⟩ m w (by simpa using h2) hm (by simpa using h1) ?_).mono fun e w' h=>h
 have:=Nat.mul_le_mul_right new.length hc
 simp
 omega
theorem Pure_of_args{f:FuncId}{gs:List G}{r:Value}(h1:r.oneCell'=true)(h:∀ (w:World) (O:Ow) (M:Mp) (vs:Array Value),vs.size=gs.length→(∀ (j:Nat) (g:G) (v:Value),gs[j]?=some g→vs[j]?=some v→VR w O M g v)→Calls Tryz.prog f vs w fun e w'=>e=.returned r∧RowKit.Below w.heap.size w w'):Pure Tryz.prog f gs (.d (.v r)):=by
 intro Z w M vs hr hsz hvs
 refine(h w _ M vs hsz hvs).mono ?_
 rintro e w' ⟨rfl,hb⟩
 have hst:Stp w (own [] M) w' (own [] M):=.mk' hb.size (fun b hlt _=>hb.block b hlt) (fun _ _ h=>h) hb.os hb.tape hb.output rfl (fun g=>g) fun x hx _=>hb.block _ (hr.bags.tgs x hx).1
 have hr':RelH Z [] M w':=by
  refine⟨hr.len,fun i o m h=>by simp at h,hr.apart,fun b hz=>Nat.lt_of_lt_of_le (hr.old b hz) hb.size,hr.amb_stp hst,hr.inj,hr.bags.mono rfl hb.size (fun _ _ h=>h) (fun _ _ _ _ h=>h)⟩
 exact⟨r,.d (.v r),[],M,rfl,⟨rfl,rfl⟩,hr',.d (.v r h1),hst,⟨by simp,fun i hi=>by simp at hi⟩⟩
theorem Kto(l:List Str):(l.map fun x=>(⟨x.toArray⟩:ByteArray)).map (·.data.toList)=l:=by
 induction l with
 | nil=>rfl
 | cons x l ih=>simp only[List.map_cons,ih]
theorem Ktp(l:List Str)(j:Nat):(l.flatMap eS)[j]?=(l[j]?).map fun x=>D.v (.string ⟨x.toArray⟩):=by
 have:l.flatMap eS=l.map fun x=>D.v (.string ⟨x.toArray⟩):=by
  induction l with
  | nil=>rfl
  | cons x l ih=>simp only[List.flatMap_cons,List.map_cons,ih];rfl
 rw[this,List.getElem?_map]
theorem Ktm{l:List Str}{sep r:Str}(h:Kqy l sep=some r):Pure Tryz.prog 76 [.d (Sl eS l),S sep] (S r):=by
 obtain⟨h1,h⟩:=Khg h
 simp only[Bool.and_eq_true] at h1
 obtain⟨h1,h2⟩:=h1
 have h1:=Nat.le_of_ble_eq_true h1
 have h2:=Nat.le_of_ble_eq_true h2
 cases h
 refine Pure_of_args rfl fun w O M vs hsz hvs=>?_
 obtain⟨a,b,rfl⟩:∃ a b,vs=#[a,b]:=by
  obtain⟨vs⟩:=vs
  match vs,hsz with
  | [a,b],_=>exact⟨a,b,rfl⟩
 have ha:=hvs 0 _ _ rfl rfl
 have hb:=hvs 1 _ _ rfl rfl
 obtain rfl:=vr_v hb
 unfold Sl at ha
 cases ha with
 | d ha=>
  generalize hn:l.length=n at ha
  generalize hx:l.flatMap eS=xs at ha
  cases ha with
  | nil=>
   obtain rfl:l=[]:=List.eq_nil_of_length_eq_zero hn
   exact(Tryz.strings_Join_none none 0 ⟨sep.toArray⟩ w).mono fun e w' ⟨he,hw⟩=>⟨he,by subst hw;exact RowKit.Below.refl _ _⟩
  | ro n xs b off cap us hb' hO hnc hm hc hv=>
   subst hn;subst hx
   have key:=Tryz.strings_Join b off cap (l.map fun x=>(⟨x.toArray⟩:ByteArray)) ⟨sep.toArray⟩ w (fun j x hj=>by
    rw[List.getElem?_map] at hj
    obtain⟨y,hy,rfl⟩:=Option.map_eq_some_iff.1 hj
    have hd:(l.flatMap eS)[j]?=some (D.v (.string ⟨y.toArray⟩)):=by rw[Ktp,hy];rfl
    have hcell:=hc j _ hd
    have hvv:=hv j _ hd
    generalize us j=u at hcell hvv
    cases hvv
    exact hcell) hb' (by simp;omega) (by simpa using hnc) (by rw[Kto];simpa using (show(Lib.join l sep).length≤140737488355328 by omega))
   rw[Kto,List.length_map] at key
   exact key.mono fun e w' ⟨he,hw⟩=>⟨by simpa using he,hw⟩
end Go.Proofs.YtmecneoeklldeaaGreatDoor
