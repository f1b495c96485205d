import Derived.Test.YtfnjahjbpaoepaaGreatDoorPUW
import Derived.Test.YtfnjahjbpaoepaaGreatDoorMStr6
import Derived.Test.YtfnjahjbpaoepaaGreatDoorLays
import Derived.Test.YtfnjahjbpaoepaaGreatDoorStr4
import Derived.Test.YtfnjahjbpaoepaaGreatDoorWrapX
import Derived.Test.YtfnjahjbpaoepaaGreatDoorLays3
import Derived.Shelf.Strconv.Atoi
set_option linter.all false
set_option maxRecDepth 100000
namespace Go.Proofs.YtfnjahjbpaoepaaGreatDoor
open Go.Gk Go.Shelf Go.RowKit Go.Sort Go.Lib
theorem Kwb{w:World}{O:Ow}{M:Mp}{x y v:Value}(h:VR w O M (.tup [.d (.v x),.d (.v y)]) v):v=.tuple #[x,y]:=by
 cases h with
 | tup hl h=>
  rename_i vs
  obtain⟨l⟩:=vs
  match l,hl with
  | [a,b],_=>
   have h0:=vr_v (h 0 _ a rfl rfl)
   have h1:=vr_v (h 1 _ b rfl rfl)
   rw[h0,h1]
theorem Kwc{w:World}{O:Ow}{M:Mp}{x y:Value}(h1:x.oneCell'=true)(h2:y.oneCell'=true):VR w O M (.tup [.d (.v x),.d (.v y)]) (.tuple #[x,y]):=.tup rfl fun j g v hg hv=>by
 match j with
 | 0=>cases hg;cases hv;exact .d (.v _ h1)
 | 1=>cases hg;cases hv;exact .d (.v _ h2)
 | j+2=>cases hg
theorem Kvy{s:Str}{r:Int}(h:Kug s=some r):Pure Tryz.prog 168 [S s] (.tup [I r,.d (.v .nilIface)]):=by
 obtain⟨h1,h⟩:=Kcz h
 exact EC.of_belowX rfl fun w hT=>(Any.strconv_Atoi YtfnjahjbpaoepaaGreatDoor.l172 ⟨s.toArray⟩ r (by have:=Nat.le_of_ble_eq_true h1;simpa using this) h w).mono fun e w' ⟨he,t,hw⟩=>⟨_,_,he,rfl,fun O M=>Kwc rfl rfl,by subst hw;exact Lib.bytesWorld_below _ _ _⟩
theorem Kwd{s:Str}{b k n:Int}{e:Value}(h:Kul 0 s b k=some (n,e))(w:World)(hT:TabX w):Calls Tryz.prog 350 #[.string ⟨s.toArray⟩,.int .i64 b,.int .i64 k] w fun r w'=>r=.returned (.tuple #[.int .u64 n,e])∧Below w.heap.size w w':=by
 refine(Kuo h tabEnv w ⟨[],[]⟩ #[.string ⟨s.toArray⟩,.int .i64 b,.int .i64 k] (Kxw w hT) rfl (fun j g u hg hu=>?_)).mono ?_
 ·match j with
  | 0=>cases hg;cases hu;exact .d (.v _ rfl)
  | 1=>cases hg;cases hu;exact .d (.v _ rfl)
  | 2=>cases hg;cases hu;exact .d (.v _ rfl)
  | j+3=>cases hg
 rintro e w' ⟨u,g,hp',M',rfl,⟨rfl,rfl⟩,_,hvr,hst,_⟩
 exact⟨by rw[Kwb hvr],hst.os,hst.tape,hst.output,hst.size,fun k hk=>hst.keep k hk Kjx⟩
theorem Kwe{s:Str}{b k n:Int}(h:Kul 0 s b k=some (n,.nilIface))(w:World)(hT:TabX w):Calls Tryz.prog 349 #[.string ⟨s.toArray⟩,.int .i64 b,.int .i64 k] w fun r w'=>r=.returned (.tuple #[.int .u64 n,.nilIface])∧Below w.heap.size w w':=by
 have e1:∀ args w,(callFunc 350 args).run Tryz.prog w=.ok (.enter 350 args) w:=enters_of Tryz.func350 (by kernel_rfl) rfl
 have t1:=Tryz.underlying93
 have hI:=Kwd h w hT
 clear h hT
 go_enter Tryz.func349,Tryz.ntmps349
 go_wp2_with (go_at_fn 350;refine hI.mono ?_;rintro e W1 ⟨rfl,hW⟩)
 go_wp2
 go_ret2
 exact⟨rfl,hW⟩
theorem Kwf{s:Str}{b k n c:Int}(hs:s.length≤281474976710656)(hc:c=1∨c=2)(h:Kul 0 s b k=some (n,.iface 317 (.int .i64 c)))(w:World)(hT:TabX w) :
  Calls Tryz.prog 349 #[.string ⟨s.toArray⟩,.int .i64 b,.int .i64 k] w fun r w'=>(∃ t x,r=.returned (.tuple #[.int .u64 n,.iface t x]))∧Below w.heap.size w w':=by
 have e1:∀ args w,(callFunc 350 args).run Tryz.prog w=.ok (.enter 350 args) w:=enters_of Tryz.func350 (by kernel_rfl) rfl
 have e2:∀ args w,(callFunc 242 args).run Tryz.prog w=.ok (.enter 242 args) w:=enters_of Tryz.func242 (by kernel_rfl) rfl
 have t1:=Tryz.underlying93
 have hE:∀ (fn:ByteArray) (W:World),TabX W→Calls Tryz.prog 242 #[.string fn,.string ⟨s.toArray⟩,.int .i64 b,.int .i64 k,.iface 317 (.int .i64 c)] W fun r w'=>(∃ t x,r=.returned (.iface t x))∧Below W.heap.size W w':=fun fn W hW=>by
  obtain⟨t1,x1,h1⟩:=hW.2.2.2.2.1
  obtain⟨t2,x2,h2⟩:=hW.2.2.2.2.2
  rcases hc with rfl | rfl
  ·exact(Tryz.strconv_toError_range fn ⟨s.toArray⟩ b k _ W (by simpa using hs) h2 (.inr ⟨_,_,rfl⟩)).mono fun e w' ⟨N,he,_,_,hb⟩=>⟨⟨_,_,he⟩,hb⟩
  ·exact(Tryz.strconv_toError_syntax fn ⟨s.toArray⟩ b k _ W (by simpa using hs) h1 (.inr ⟨_,_,rfl⟩)).mono fun e w' ⟨N,he,_,_,hb⟩=>⟨⟨_,_,he⟩,hb⟩
 have hI:=Kwd h w hT
 have hK:∀ W1:World,Below w.heap.size w W1→TabX W1:=fun W1 hb=>Kxt w W1 (fun b hb'=>hb.block b (Kxv hT b hb')) hT
 clear h hs hc hT
 go_enter Tryz.func349,Tryz.ntmps349
 go_wp2_with (go_at_fn 350;refine hI.mono ?_)
 rintro e W1 ⟨rfl,hb1⟩
 have hT1:=hK W1 hb1
 go_wp2_with (go_at_fn 242;refine(hE _ _ hT1).mono ?_)
 rintro e W2 ⟨⟨t,x,rfl⟩,hb2⟩
 go_wp2
 go_ret2
 exact⟨⟨t,x,rfl⟩,hb1.trans (hb2.mono hb1.size)⟩
theorem Kvz{s:Str}{b k z:Int}(h:Kue s b k=some (some z)):Pure Tryz.prog 349 [S s,I b,I k] (.tup [U z,.d (.v .nilIface)]):=by
 obtain⟨⟨n,e⟩,hy,h⟩:=Kcy h
 split at h
 ·rename_i n' heq
  cases heq
  cases h
  refine EC.of_belowX rfl fun w hT=>(Kwe hy w hT).mono fun e w' ⟨he,hb⟩=>⟨_,_,he,rfl,fun O M=>?_,hb⟩
  exact .tup rfl fun j g v hg hv=>by
   match j with
   | 0=>cases hg;cases hv;exact .d (.v _ rfl)
   | 1=>cases hg;cases hv;exact .d (.v _ rfl)
   | j+2=>cases hg
 ·obtain⟨_,h⟩:=Kcz h;cases h
 ·obtain⟨_,h⟩:=Kcz h;cases h
 cases h
theorem Kwa{s:Str}{b k:Int}(h:Kue s b k=some none):Errs Tryz.prog 349 [S s,I b,I k]:=by
 obtain⟨⟨n,e⟩,hy,h⟩:=Kcy h
 have key:∀ c:Int,c=1∨c=2→s.length≤281474976710656→e=.iface 317 (.int .i64 c)→Errs Tryz.prog 349 [S s,I b,I k]:=fun c hc hs he=>by
  subst he
  refine EC.of_belowX rfl fun w hT=>(Kwf hs hc hy w hT).mono fun e w' ⟨⟨t,x,he⟩,hb⟩=>⟨_,.tup [.junk,.d (.v (.iface t x))],he,⟨t,x,rfl⟩,fun O M=>?_,hb⟩
  exact .tup rfl fun j g v hg hv=>by
   match j with
   | 0=>cases hg;cases hv;exact .junk _
   | 1=>cases hg;cases hv;exact .d (.v _ rfl)
   | j+2=>cases hg
 split at h
 ·cases h
 ·rename_i heq
  obtain⟨h1,h⟩:=Kcz h
  exact key 1 (.inl rfl) (Nat.le_of_ble_eq_true h1) (Prod.mk.inj heq).2
 ·rename_i heq
  obtain⟨h1,h⟩:=Kcz h
  exact key 2 (.inr rfl) (Nat.le_of_ble_eq_true h1) (Prod.mk.inj heq).2
 cases h
end Go.Proofs.YtfnjahjbpaoepaaGreatDoor
