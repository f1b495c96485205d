import Derived.Test.YtcihhlhmkcaeeaaGreatDoorGt
import Derived.Test.YtcihhlhmkcaeeaaGreatDoorMStr
import Derived.Test.YtcihhlhmkcaeeaaGreatDoorLays
import Derived.Shelf.Strings.SlTrimAscii
set_option linter.all false
set_option maxRecDepth 100000
namespace Go.Proofs.YtcihhlhmkcaeeaaGreatDoor
open Go.Gk Go.Shelf
theorem Ksi(s:List UInt8)(c:UInt8)(hs:s.length<4294967281):EC Tryz.prog 171 [S s,S [c],I 0,I (-1)] [] fun g hp'=>g=.sl 0 (Lib.split s [c]).length∧hp'=[.row 9 1 (Lib.split s [c]).length (((Lib.split s [c]).map fun x=>Value.string ⟨x.toArray⟩).map D.v)]:=by
 have e0:(Lib.splitB ⟨#[c]⟩ 0 (Lib.count s [c]) ⟨s.toArray⟩).map Value.string=(Lib.split s [c]).map fun x=>Value.string ⟨x.toArray⟩:=by
  unfold Lib.split
  rw[show Lib.splitK [c] 0 (Lib.count s [c]) s=Lib.splitK (⟨#[c]⟩:ByteArray).data.toList 0 (Lib.count s [c]) (⟨s.toArray⟩:ByteArray).data.toList from rfl,←Lib.splitB_data,List.map_map]
  rfl
 have e1:(Lib.splitB ⟨#[c]⟩ 0 (Lib.count s [c]) ⟨s.toArray⟩).length=(Lib.split s [c]).length:=by
  have:=congrArg List.length e0
  simpa using this
 have hN:(Lib.split s [c]).length=Lib.count s [c]+1:=by rw[←e1];exact Lib.splitB_all ⟨#[c]⟩ (Nat.le_refl _) 0 _ _ rfl
 have hle:Lib.count s [c]≤s.length:=Lib.countB_le ⟨#[c]⟩ (Nat.le_refl _) s.length ⟨s.toArray⟩ (by simp)
 refine EC.of_alloc (gs:=[S s,S [c],I 0,I (-1)]) (n:=(Lib.split s [c]).length) (sz:=1) (vs:=[.string ⟨s.toArray⟩,.string ⟨#[c]⟩,.int .i64 0,.int .i64 (-1)]) (xs:=(Lib.split s [c]).map fun x=>Value.string ⟨x.toArray⟩) rfl (fun v hv=>?_) (by simp) (by simp only[maxLen];omega) fun w=>?_
 ·obtain⟨x,_,rfl⟩:=List.mem_map.1 hv
  rfl
 have c1:=Any.strings_genSplit_core Tryz.lays221 (by kernel_rfl) ⟨s.toArray⟩ ⟨#[c]⟩ 0 (-1) (Lib.count s [c]+1) w (by simpa using hs) (Nat.le_refl _) (Nat.zero_le _)
  (fun x cc hx=>(Tryz.strings_Index_one x c _).mono fun e w' ⟨h1,h2⟩=>⟨by rw[h1,←Lib.index_one],h2⟩)
  ((Tryz.strings_Count_one ⟨s.toArray⟩ c w).mono fun e w' ⟨h1,h2⟩=>⟨by rw[h1];show _=Ending.returned (Value.int .i64 ((Lib.count s [c]:Nat):Int));rw[Lib.count_one];rfl,h2⟩)
  (by decide) (by decide) (by
   rw[if_pos (by decide)]
   show _=min (((Lib.count s [c]:Nat):Int)+1) (((⟨s.toArray⟩:ByteArray).size:Int)+1)
   have:(⟨s.toArray⟩:ByteArray).size=s.length:=by simp
   rw[this]
   omega)
 rw[Nat.add_sub_cancel,e1,hN] at c1
 have e2:Lib.cellsOf (Lib.splitB ⟨#[c]⟩ 0 (Lib.count s [c]) ⟨s.toArray⟩) (Lib.count s [c]+1)=((Lib.split s [c]).map fun x=>Value.string ⟨x.toArray⟩).toArray:=by
  rw[←hN,←e1,Lib.cellsOf_full,e0]
 rw[e2] at c1
 rw[hN]
 exact c1
theorem Ksj(s cs:List UInt8)(hs:s.length≤1099511627776)(hc:cs.length<4294967281)(ha:∀ b∈cs,b.toNat<128):Pure Tryz.prog 129 [S s,S cs] (S (Lib.trimS s cs)):=
 Pure.of_below rfl rfl fun w=>Any.strings_Trim_laid Tryz.lays160 (by kernel_rfl) ⟨s.toArray⟩ ⟨cs.toArray⟩ w (by simp;omega) (by simpa using hc) (fun j b hb=>ha b (List.mem_of_getElem? hb))
theorem Ksk(s p:List UInt8):Pure Tryz.prog 159 [S s,S p] (B (Lib.hasPrefix s p)):=Pure.of_same rfl rfl fun w=>Tryz.strings_HasPrefix ⟨s.toArray⟩ ⟨p.toArray⟩ w
theorem Ksl(s p:List UInt8):Pure Tryz.prog 136 [S s,S p] (S (Lib.trimPrefix s p)):=Pure.of_same rfl rfl fun w=>Tryz.strings_TrimPrefix ⟨s.toArray⟩ ⟨p.toArray⟩ w
theorem Ksm(s p:List UInt8):Pure Tryz.prog 137 [S s,S p] (.tup [S (Lib.trimPrefix s p),B (Lib.hasPrefix s p)]):=
 Pure.of_same2 rfl (fun w O M=>.tup rfl fun j g v hg hv=>by
  match j with
  | 0=>cases hg;cases hv;exact .d (.v _ rfl)
  | 1=>cases hg;cases hv;exact .d (.v _ rfl)
  | j+2=>cases hg) fun w=>Tryz.strings_CutPrefix ⟨s.toArray⟩ ⟨p.toArray⟩ w
theorem Ksn(s:List UInt8)(c:UInt8):Pure Tryz.prog 250 [S s,S [c]] (I (Lib.indexByte s c)):=Pure.of_same rfl rfl fun w=>Tryz.stringslite_Index_one ⟨s.toArray⟩ c w
theorem Ksv:∀ (s:List UInt8) (c:UInt8),Lib.indexByte s c<s.length
 | [],c=>by simp[Lib.indexByte]
 | b :: s,c=>by
  have:=Ksv s c
  unfold Lib.indexByte
  split<;>(try split)<;>simp<;>omega
theorem Kso(s:List UInt8)(c:UInt8)(hs:s.length≤1099511627776):Pure Tryz.prog 217 [S s,S [c]] (.tup [S (cut1 s c).1,S (cut1 s c).2.1,B (cut1 s c).2.2]):=by
 have hi:=Ksn s c
 have hlt:=Ksv s c
 refine Pure.enter (Fr.of 0 [S s,S [c]]) Tryz.func217 rfl (Fr.of_ok _) rfl rfl ?_
 unfold cut1
 by_cases h0:0≤Lib.indexByte s c
 ·rw[if_pos h0]
  obtain⟨k,hk⟩:=Int.eq_ofNat_of_zero_le h0
  rw[hk] at hi hlt ⊢
  have e1:IntKind.i64.wrap ((k:Int)+1)=((k+1:Nat):Int):=Kcr (by omega)
  repeat' (first | refine Koq (Kct rfl (by first | (simp;done) | omega | (simp;omega))) ?_ | refine Kor (Kct rfl (by first | (simp;done) | omega | (simp;omega))) ?_ | refine eo_x hΓ rfl rfl ?_ | refine Kpb ?_ | refine Kpd rfl rfl ?_ | refine Kpe rfl ?_ | refine Kpg rfl rfl (fun h=>?_) (fun h=>?_) | refine Koj ?_ | refine Kph ?_ | refine Kon ?_ | refine Kok ?_ | refine Kom ?_ | refine Kol ?_ | refine Koq rfl ?_ | refine Kor rfl ?_ | refine Kop rfl (fun h=>?_) (fun h=>?_) | refine Kqi rfl (Nat.zero_le _) rfl rfl (Lqk Tryz.func250 rfl rfl) hi rfl rfl ?_ | refine gl_x hΓ rfl rfl ?_ | refine Kbu ?_ | refine Kbv rfl rfl ?_ | refine Kby hΓ rfl rfl rfl ?_ | refine Kbx rfl rfl (fun h=>?_) (fun h=>?_) | refine Kbt rfl (by kernel_rfl) ?_ | refine gl_o rfl (by exact Kci hΓ 0 k rfl rfl rfl rfl rfl (by omega) (by omega)) ?_ | refine gl_o rfl (by exact Kci hΓ (k+1) s.length rfl rfl rfl (congrArg some e1) rfl (by omega) (by omega)) ?_)
  all_goals exact⟨by simp,Kcf hΓ rfl (by simp[retG])⟩
 rw[if_neg h0]
 repeat' (first | refine Koq (Kct rfl (by first | (simp;done) | omega | (simp;omega))) ?_ | refine Kor (Kct rfl (by first | (simp;done) | omega | (simp;omega))) ?_ | refine eo_x hΓ rfl rfl ?_ | refine Kpb ?_ | refine Kpd rfl rfl ?_ | refine Kpe rfl ?_ | refine Kpg rfl rfl (fun h=>?_) (fun h=>?_) | refine Koj ?_ | refine Kph ?_ | refine Kon ?_ | refine Kok ?_ | refine Kom ?_ | refine Kol ?_ | refine Koq rfl ?_ | refine Kor rfl ?_ | refine Kop rfl (fun h=>?_) (fun h=>?_) | refine Kqi rfl (Nat.zero_le _) rfl rfl (Lqk Tryz.func250 rfl rfl) hi rfl rfl ?_)
 all_goals exact⟨by simp,Kcf hΓ rfl (by simp[retG])⟩
theorem Ksp(s:List UInt8)(c:UInt8)(hs:s.length≤1099511627776):Pure Tryz.prog 172 [S s,S [c]] (.tup [S (cut1 s c).1,S (cut1 s c).2.1,B (cut1 s c).2.2]):=by
 refine Pure.enter (Fr.of 0 [S s,S [c]]) Tryz.func172 rfl (Fr.of_ok _) rfl rfl ?_
 repeat' (first | refine eo_x hΓ rfl rfl ?_ | refine Kpb ?_ | refine Kpd rfl rfl ?_ | refine Kpe rfl ?_ | refine Kpg rfl rfl (fun h=>?_) (fun h=>?_) | refine Koj ?_ | refine Kph ?_ | refine Kon ?_ | refine Kok ?_ | refine Kom ?_ | refine Kol ?_ | refine Koq rfl ?_ | refine Kor rfl ?_ | refine Kop rfl (fun h=>?_) (fun h=>?_) | refine Kqi rfl (Nat.zero_le _) rfl rfl (Lqk Tryz.func217 rfl rfl) (Kso s c hs) rfl rfl ?_)
 all_goals exact⟨by simp,Kcf hΓ rfl rfl⟩
theorem Ksq{s p:Str}{r:Bool}(h:Kqx s p=some r):Pure Tryz.prog 159 [S s,S p] (B r):=by
 cases h;exact Ksk s p
theorem Ksr{s p r:Str}(h:Kqy s p=some r):Pure Tryz.prog 136 [S s,S p] (S r):=by
 cases h;exact Ksl s p
theorem Kss{s p:Str}{r:Str×Bool}(h:Kqz s p=some r):Pure Tryz.prog 137 [S s,S p] (.tup [S r.1,B r.2]):=by
 cases h;exact Ksm s p
theorem Kst{s cs r:Str}(h:Krb s cs=some r):Pure Tryz.prog 129 [S s,S cs] (S r):=by
 obtain⟨h1,h⟩:=Kdx h
 simp only[Bool.and_eq_true] at h1
 cases h;exact Ksj s cs (Nat.le_of_ble_eq_true h1.1) (nblt.1 h1.2.1) fun b hb=>nblt.1 (List.all_eq_true.1 h1.2.2 b hb)
theorem Ksw(l:List Str):(l.map fun x=>Value.string ⟨x.toArray⟩).map D.v=l.flatMap eS:=by
 induction l with
 | nil=>rfl
 | cons x l ih=>simp only[List.map_cons,List.flatMap_cons,ih];rfl
theorem Ksu{s sep:Str}{r:List Str}(h:Krc s sep=some r):EC Tryz.prog 119 [S s,S sep] [] fun g hp'=>g=.sl 0 r.length∧hp'=[.row 9 1 r.length (r.flatMap eS)]:=by
 unfold Krc at h
 split at h
 ·rename_i c
  obtain⟨h1,h⟩:=Kdx h
  cases h
  refine Koy (Fr.of 0 _) Tryz.func119 rfl (Fr.of_ok _) (Nat.le_of_ble_eq_true rfl) fun _=>?_
  refine Kdm ?_
  refine go hΓ 9 rfl ?_
  have hc:=Ksi s c (nblt.1 h1)
  rw[Ksw] at hc
  refine Kew [] (.sl 0 (Lib.split s [c]).length) [.row 9 1 (Lib.split s [c]).length ((Lib.split s [c]).flatMap eS)] (Lqk Tryz.func171 rfl rfl) hc rfl (Nat.le_of_ble_eq_true rfl) rfl rfl rfl rfl rfl rfl rfl rfl rfl rfl ?_
  refine Kdk hΓ 4 rfl ?_
  exact Kfn hΓ [] (.inr rfl) rfl rfl rfl rfl (.inl rfl)
 cases h
end Go.Proofs.YtcihhlhmkcaeeaaGreatDoor
