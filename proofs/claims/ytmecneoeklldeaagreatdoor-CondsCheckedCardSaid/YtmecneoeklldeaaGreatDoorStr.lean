import Derived.Test.YtmecneoeklldeaaGreatDoorGt
import Derived.Test.YtmecneoeklldeaaGreatDoorMStr
import Derived.Test.YtmecneoeklldeaaGreatDoorLays
import Derived.Shelf.Strings.SlTrimAscii
set_option linter.all false
set_option maxRecDepth 100000
namespace Go.Proofs.YtmecneoeklldeaaGreatDoor
open Go.Gk Go.Shelf
theorem Ksy(s:List UInt8)(n:Nat)(h1:n≤9223372036854775807)(h2:s.length * n≤140737488355328):Pure Tryz.prog 66 [S s,I n] (S (Lib.repeatL s n)):=
 Pure.of_below rfl rfl fun w=>Tryz.strings_Repeat ⟨s.toArray⟩ n w h1 (by simpa using h2)
theorem Ksz(s:List UInt8)(c:UInt8)(hs:s.length<4294967281):EC Tryz.prog 88 [S s,S [c],I 0,I (-1)] [] fun g hp'=>g=.sl 0 (Lib.split s [c]).length∧hp'=[.row 9 1 (Lib.split s [c]).length (((Lib.split s [c]).map fun x=>Value.string ⟨x.toArray⟩).map D.v)]:=by
 have e0:(Lib.splitB ⟨#[c]⟩ 0 (Lib.count s [c]) ⟨s.toArray⟩).map Value.string=(Lib.split s [c]).map fun x=>Value.string ⟨x.toArray⟩:=by
  unfold Lib.split
  rw[show Lib.splitK [c] 0 (Lib.count s [c]) s=Lib.splitK (⟨#[c]⟩:ByteArray).data.toList 0 (Lib.count s [c]) (⟨s.toArray⟩:ByteArray).data.toList from rfl,←Lib.splitB_data,List.map_map]
  rfl
 have e1:(Lib.splitB ⟨#[c]⟩ 0 (Lib.count s [c]) ⟨s.toArray⟩).length=(Lib.split s [c]).length:=by
  have:=congrArg List.length e0
  simpa using this
 have hN:(Lib.split s [c]).length=Lib.count s [c]+1:=by rw[←e1];exact Lib.splitB_all ⟨#[c]⟩ (Nat.le_refl _) 0 _ _ rfl
 have hle:Lib.count s [c]≤s.length:=Lib.countB_le ⟨#[c]⟩ (Nat.le_refl _) s.length ⟨s.toArray⟩ (by simp)
 refine EC.of_alloc (gs:=[S s,S [c],I 0,I (-1)]) (n:=(Lib.split s [c]).length) (sz:=1) (vs:=[.string ⟨s.toArray⟩,.string ⟨#[c]⟩,.int .i64 0,.int .i64 (-1)]) (xs:=(Lib.split s [c]).map fun x=>Value.string ⟨x.toArray⟩) rfl (fun v hv=>?_) (by simp) (by simp only[maxLen];omega) fun w=>?_
 ·obtain⟨x,_,rfl⟩:=List.mem_map.1 hv
  rfl
 have c1:=Any.strings_genSplit_core Tryz.lays221 (by kernel_rfl) ⟨s.toArray⟩ ⟨#[c]⟩ 0 (-1) (Lib.count s [c]+1) w (by simpa using hs) (Nat.le_refl _) (Nat.zero_le _)
  (fun x cc hx=>(Tryz.strings_Index_one x c _).mono fun e w' ⟨h1,h2⟩=>⟨by rw[h1,←Lib.index_one],h2⟩)
  ((Tryz.strings_Count_one ⟨s.toArray⟩ c w).mono fun e w' ⟨h1,h2⟩=>⟨by rw[h1];show _=Ending.returned (Value.int .i64 ((Lib.count s [c]:Nat):Int));rw[Lib.count_one];rfl,h2⟩)
  (by decide) (by decide) (by
   rw[if_pos (by decide)]
   show _=min (((Lib.count s [c]:Nat):Int)+1) (((⟨s.toArray⟩:ByteArray).size:Int)+1)
   have:(⟨s.toArray⟩:ByteArray).size=s.length:=by simp
   rw[this]
   omega)
 rw[Nat.add_sub_cancel,e1,hN] at c1
 have e2:Lib.cellsOf (Lib.splitB ⟨#[c]⟩ 0 (Lib.count s [c]) ⟨s.toArray⟩) (Lib.count s [c]+1)=((Lib.split s [c]).map fun x=>Value.string ⟨x.toArray⟩).toArray:=by
  rw[←hN,←e1,Lib.cellsOf_full,e0]
 rw[e2] at c1
 rw[hN]
 exact c1
theorem Kta(s cs:List UInt8)(hs:s.length≤1099511627776)(hc:cs.length<4294967281)(ha:∀ b∈cs,b.toNat<128):Pure Tryz.prog 115 [S s,S cs] (S (Lib.trimS s cs)):=
 Pure.of_below rfl rfl fun w=>Any.strings_Trim_laid Tryz.lays160 (by kernel_rfl) ⟨s.toArray⟩ ⟨cs.toArray⟩ w (by simp;omega) (by simpa using hc) (fun j b hb=>ha b (List.mem_of_getElem? hb))
theorem Ktb(s p:List UInt8):Pure Tryz.prog 107 [S s,S p] (B (Lib.hasPrefix s p)):=Pure.of_same rfl rfl fun w=>Tryz.strings_HasPrefix ⟨s.toArray⟩ ⟨p.toArray⟩ w
theorem Ktc(s p:List UInt8):Pure Tryz.prog 90 [S s,S p] (S (Lib.trimPrefix s p)):=Pure.of_same rfl rfl fun w=>Tryz.strings_TrimPrefix ⟨s.toArray⟩ ⟨p.toArray⟩ w
theorem Ktd{s p:Str}{r:Bool}(h:Kqi s p=some r):Pure Tryz.prog 107 [S s,S p] (B r):=by
 cases h;exact Ktb s p
theorem Kte{s p r:Str}(h:Kqj s p=some r):Pure Tryz.prog 90 [S s,S p] (S r):=by
 cases h;exact Ktc s p
theorem Ktf{s cs r:Str}(h:Kqm s cs=some r):Pure Tryz.prog 115 [S s,S cs] (S r):=by
 obtain⟨h1,h⟩:=Khg h
 simp only[Bool.and_eq_true] at h1
 cases h;exact Kta s cs (Nat.le_of_ble_eq_true h1.1) (nblt.1 h1.2.1) fun b hb=>nblt.1 (List.all_eq_true.1 h1.2.2 b hb)
theorem Kti(l:List Str):(l.map fun x=>Value.string ⟨x.toArray⟩).map D.v=l.flatMap eS:=by
 induction l with
 | nil=>rfl
 | cons x l ih=>simp only[List.map_cons,List.flatMap_cons,ih];rfl
theorem Ktg{s sep:Str}{r:List Str}(h:Kqn s sep=some r):EC Tryz.prog 84 [S s,S sep] [] fun g hp'=>g=.sl 0 r.length∧hp'=[.row 9 1 r.length (r.flatMap eS)]:=by
 unfold Kqn at h
 split at h
 ·rename_i c
  obtain⟨h1,h⟩:=Khg h
  cases h
  refine Kol (Fr.of 0 _) Tryz.func84 rfl (Fr.of_ok _) (Nat.le_of_ble_eq_true rfl) fun _=>?_
  refine Kgx ?_
  refine go hΓ 9 rfl ?_
  have hc:=Ksz s c (nblt.1 h1)
  rw[Kti] at hc
  refine Kid [] (.sl 0 (Lib.split s [c]).length) [.row 9 1 (Lib.split s [c]).length ((Lib.split s [c]).flatMap eS)] (Lbh Tryz.func88 rfl rfl) hc rfl (Nat.le_of_ble_eq_true rfl) rfl rfl rfl rfl rfl rfl rfl rfl rfl rfl ?_
  refine Kgv hΓ 4 rfl ?_
  exact Kis hΓ [] (.inr rfl) rfl rfl rfl rfl (.inl rfl)
 cases h
theorem Kth{s:Str}{n:Int}{r:Str}(h:Kqo s n=some r):Pure Tryz.prog 66 [S s,I n] (S r):=by
 unfold Kqo at h
 split at h
 ·obtain⟨h1,h⟩:=Khg h
  simp only[Bool.and_eq_true] at h1
  cases h;exact Ksy s _ (Nat.le_of_ble_eq_true h1.1) (Nat.le_of_ble_eq_true h1.2)
 cases h
end Go.Proofs.YtmecneoeklldeaaGreatDoor
