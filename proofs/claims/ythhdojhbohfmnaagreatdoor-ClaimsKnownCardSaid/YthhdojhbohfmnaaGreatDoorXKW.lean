import Derived.Test.YthhdojhbohfmnaaGreatDoorXKM
import Derived.Test.YthhdojhbohfmnaaGreatDoorGt
import Derived.Test.YthhdojhbohfmnaaGreatDoorStr
import Derived.Test.YthhdojhbohfmnaaGreatDoorStr9
import Derived.Test.YthhdojhbohfmnaaGreatDoorStrC
import Derived.Test.YthhdojhbohfmnaaGreatDoorGk64
import Derived.Test.YthhdojhbohfmnaaGreatDoorGk66
import Derived.Test.YthhdojhbohfmnaaGreatDoorBk5
import Derived.Test.YthhdojhbohfmnaaGreatDoorGk57
import Derived.Test.YthhdojhbohfmnaaGreatDoorSoLays
import Derived.Test.YthhdojhbohfmnaaGreatDoorXKW1
set_option maxHeartbeats 8000000
set_option linter.all false
set_option maxRecDepth 100000
namespace Go.Proofs.YthhdojhbohfmnaaGreatDoor
open Go.Gk
theorem Lbc{s1:List Kxb}{s2:List Kxb}{r:Bool}(h:Kzr s1 s2=some r):Pure Tryz.prog 55 [.d (Sl Kwu s1),.d (Sl Kwu s2)] (B r):=by
 unfold Kzr at h
 refine QP Tryz.func55 E E E<|gA 15 E<|jC E h (fun h1=>?_) fun h2=>gA 10 E<|bK h2 fun q6 hq6 h7=>Kgt 0 E fun hb9=>Kka (R:=fun a8=>q6=.go a8) (fun a8=>[]) (fun a8=>[]) ?_ ?_
 ·exact gA 7 E<|oSi h1▸gP E E
 ·refine gA 1 E<|Kgs s1 hq6 (fun i3 s4=>[(0,.d (Sl Kwu s1)),(1,.d (Sl Kwu s2)),(12,I (s1.length:Int)),(13,I (i3:Int))]) (fun s4=>[]) ⟨⟨E,E,E,E,tV⟩,[],E,.inl E⟩ (fun i3 x5 s4 y13 hx10 hlt hy11 hout12=>?_) (fun s4 hgo=>?_)
  ·refine gA 6 E<|Kge E (dT (Int.ofNat_lt.2 hlt))<|gA 11 E<|jD<|gA 2 E<|gl_o E (Kgu hΓ (enc:=Kwu) (Kgn hx10) E E E E E (fun _=>E))<|bK hy11 fun x14 hx14 h15=>Kgb hΓ 3 E<|gl_o E (Kgu hΓ (enc:=Kwu) hx14 E E E E E (fun _=>E))<|Kgb hΓ 1 E<|gl_o E (Kor hΓ [83,29] (b:=(((x5.At:Int)==x14.At)&&(((x5.Node:Str)==x14.Node)&&(((x5.Name:Str)==x14.Name)&&((((x5.Value.Kind:Int)==x14.Value.Kind)&&(((x5.Value.Number:Int)==x14.Value.Number)&&(((x5.Value.Words:Str)==x14.Value.Words)&&(decide (([x5.Value.Version.1,x5.Value.Version.2.1,x5.Value.Version.2.2.1,x5.Value.Version.2.2.2]:List Int)=[x14.Value.Version.1,x14.Value.Version.2.1,x14.Value.Version.2.2.1,x14.Value.Version.2.2.2])&&true))))&&true))))) (by kernel_rfl) (by kernel_rfl) E E E)<|Kgb hΓ 2 E<|jC E h15 (fun h16=>?_) fun h19=>gA 7 E ?_
   ·refine gA 8 E<|bK h16 fun v17 hv17 h18=>?_
    cases h18
    obtain rfl:=hout12 _ rfl
    cases h7
    exact gA 4 E<|oSi hv17▸gP E E
   cases h19
   exact⟨_,E,⟨⟨E,E,E,Kfg E (Kff (nLl hlt hb9)),tV⟩,[],E,.inl E⟩⟩
  subst hgo
  exact gA 6 E<|Kgf E (dF (Int.lt_irrefl _))<|gA 4 E<|⟨_,E,⟨tV,[],E,.inl E⟩⟩
 intro a8 ha
 subst ha
 replace h7:=Kjv h7
 exact gA 7 E<|oSi h7▸gP E E
theorem Lbd{a:Kxa}{b:Kxa}{r:Int×Bool}(h:Kzs a b=some r):Pure Tryz.prog 56 [.agg [I a.Kind,I a.Number,S a.Words,I a.Version.1,I a.Version.2.1,I a.Version.2.2.1,I a.Version.2.2.2],.agg [I b.Kind,I b.Number,S b.Words,I b.Version.1,I b.Version.2.1,I b.Version.2.2.1,I b.Version.2.2.2]] (.tup [I r.1,B r.2]):=by
 unfold Kzs at h
 refine QP Tryz.func56 E E E<|gA 2 E<|Kro E E E E Z<|Kro E E E E Z<|gO 14 E<|jC E h (fun h1=>?_) fun h2=>gA 3 E<|Koi (ds:=[.v (.int .i64 a.Kind),.v (.int .i64 a.Number),.v (.string ⟨a.Words.toArray⟩),.v (.int .i64 a.Version.1),.v (.int .i64 a.Version.2.1),.v (.int .i64 a.Version.2.2.1),.v (.int .i64 a.Version.2.2.2)]) 0 2 [.dead,.box 29 [I b.Kind,I b.Number,S b.Words,I b.Version.1,I b.Version.2.1,I b.Version.2.2.1,I b.Version.2.2.2]] E E E Z<|Koi (ds:=[.v (.int .i64 b.Kind),.v (.int .i64 b.Number),.v (.string ⟨b.Words.toArray⟩),.v (.int .i64 b.Version.1),.v (.int .i64 b.Version.2.1),.v (.int .i64 b.Version.2.2.1),.v (.int .i64 b.Version.2.2.2)]) 1 3 [.dead,.dead] E E E Z<|jD<|bK h2 fun y3 hy3 h4=>gA 4 E<|Khm C (Ldd hy3) E E E E E E<|bK h4 fun y5 hy5 h6=>Kgb hΓ 4 E<|Khm C (Kvt hy5) E E E E E E<|Kgb hΓ 1 E<|gl_o E (Kos hΓ ([a.Version.1,a.Version.2.1,a.Version.2.2.1,a.Version.2.2.2]:List Int) E E E E E E E)<|Kgb hΓ 1 E<|gl_o E (Kos hΓ ([b.Version.1,b.Version.2.1,b.Version.2.2.1,b.Version.2.2.2]:List Int) E E E E E E E)<|bK h6 fun y7 hy7 h8=>Khm C (Ldx hy7) E E E E E E<|Khg hΓ (enc:=(eN .i64)) [y3,y5,y7] E E E E E E E E E E E E<|bK h8 fun y9 hy9 h10=>Khm C (Lde hy9) E E E E E E<|Kgb hΓ 5 E<|oSi h10▸gP E E
 exact gA 8 E<|oSi h1▸gP E E
theorem Lbe{c:Int}{r:Bool}(h:Kzt c=some r):Pure Tryz.prog 212 [.d (.v (.int .u8 c))] (B r):=by
 unfold Kzt at h
 refine QP Tryz.func212 E E E<|gA 10 E<|Kgj 3 [(2,B false),(8,B ((decide ((c:Int)≥48))&&(decide ((c:Int)≤57))))] [] ?_ ?_
 ·refine Kqh E E (fun hb=>?_) (fun hb=>?_)
  ·exact gO 4 E<|⟨⟨E,Kfh E (Kie hb),tV⟩,[],E,.inl E⟩
  exact gO 4 E<|⟨⟨E,Kfh E (Kif hb),tV⟩,[],E,.inl E⟩
 exact gO 4 E<|oSi h▸gP E E
theorem Lbf{k:Nat}{s:Str}{v_at:Int}{r:Int}(h:Kzu k s v_at=some r):Pure Tryz.prog 279 [S s,I v_at] (I r):=by
 unfold Kzu at h
 refine QP Tryz.func279 E E E<|gA 6 E<|bK h fun q4 hq4 h5=>Kkb [(1,I q4)] [] ?_ ?_
 ·refine gA 1 E<|Kgq hq4 (fun s2=>[(0,S s),(1,I s2)]) (fun s2=>[]) ⟨⟨E,E,tV⟩,[],E,.inl E⟩ (fun s2 y10 hy8 hout9=>?_)
  refine gA 8 E<|bK hy8 fun q11 hq11 h12=>Kgj 5 [(0,S s),(1,I s2),(14,B q11)] [] ?_ ?_
  ·refine Kqh E E (fun hb=>?_) (fun hb=>?_)
   ·have h13:=cT hq11 hb
    exact bK h13 fun c14 hc14 h15=>gO 2 E<|Kqf E<|eo_o E (Kgv hΓ hc14 E E E E)<|bK h15 fun y16 hy16 h17=>Kqf E<|Khl C (Lbe hy16) E Z E E E E E<|gO 2 E<|oSi h17▸⟨⟨E,E,E,tV⟩,[],E,.inl E⟩
   have h18:=cF hq11 hb
   exact gO 6 E<|oSi h18▸⟨⟨E,E,E,tV⟩,[],E,.inl E⟩
  refine gO 2 E<|jC E h12 (fun h19=>?_) fun h20=>gA 4 E ?_
  ·exact gA 9 E<|oSi h19▸⟨_,E,⟨⟨E,E,tV⟩,[],E,.inl E⟩⟩
  cases h20
  obtain rfl:=hout9 _ rfl
  exact⟨⟨E,tV⟩,[],E,.inl E⟩
 exact gA 8 E<|oSi h5▸gP E E
theorem Lbg{k:Nat}{s:Str}{most:Int}{r:Int×Bool}(h:Kzv k s most=some r):Pure Tryz.prog 335 [S s,I most] (.tup [I r.1,B r.2]):=by
 unfold Kzv at h
 refine QP Tryz.func335 E E E<|bK h fun y1 hy1 h2=>gA 9 E<|Khl C (Kvm hy1) E Z E E E E E<|gO 9 E<|Kgj 5 [(0,S s),(6,S y1),(19,B (((y1:Str)==[])||(decide (((y1.length:Int):Int)>most))))] [] ?_ ?_
 ·refine Kqh E E (fun hb=>?_) (fun hb=>?_)
  ·exact gO 6 E<|⟨⟨E,E,Kfh E (or_t hb),tV⟩,[],E,.inl E⟩
  exact gO 6 E<|⟨⟨E,E,Kfh E (or_f hb),tV⟩,[],E,.inl E⟩
 refine gO 1 E<|bK h2 fun q3 hq3 h4=>Kgj 8 [(0,S s),(6,S y1),(28,B q3)] [] ?_ ?_
 ·refine Kqh E E (fun hb=>?_) (fun hb=>?_)
  ·have h5:=cT hq3 hb
   exact gO 9 E<|oSi h5▸⟨⟨E,E,E,tV⟩,[],E,.inl E⟩
  have h6:=cF hq3 hb
  refine bK h6 fun c7 hc7 h8=>gO 1 E<|Kqf E<|eo_o E (Kgv hΓ hc7 E E E E)<|gO 2 E<|Kgj 3 [(0,S s),(6,S y1),(20,B false),(27,B ((((c7.toNat:Int):Int)==48)&&(!((s:Str)==[48]))))] [] ?_ ?_
  ·refine Kqh E E (fun hb=>?_) (fun hb=>?_)
   ·exact gO 4 E<|⟨⟨E,E,E,Kfh E (Kie hb),tV⟩,[],E,.inl E⟩
   exact gO 4 E<|⟨⟨E,E,E,Kfh E (Kif hb),tV⟩,[],E,.inl E⟩
  exact gO 2 E<|oSi h8▸⟨⟨E,E,E,tV⟩,[],E,.inl E⟩
 refine gO 2 E<|jC E h4 (fun h9=>?_) fun h10=>gA 8 E<|bK h10 fun q14 hq14 h15=>Kka (R:=fun a16=>q14=.inl a16) (fun a16=>[(0,S s)]) (fun a16=>[]) ?_ ?_
 ·exact gA 8 E<|oSi h9▸gP E E
 ·refine gA 1 E<|Kgq hq14 (fun s12=>[(0,S s),(6,S y1),(7,I s12)]) (fun s12=>[]) ⟨⟨E,E,E,tV⟩,[],E,.inl E⟩ (fun s12 y20 hy18 hout19=>?_)
  refine gA 9 E<|jC E hy18 (fun h21=>?_) fun h34=>gA 4 E ?_
  ·refine bK h21 fun c22 hc22 h23=>gA 8 E<|eo_o E (Kgv hΓ hc22 E E E E)<|gO 2 E<|bK h23 fun q24 hq24 h25=>Kgj 5 [(0,S s),(6,S y1),(7,I s12),(44,B q24)] [] ?_ ?_
   ·refine Kqh E E (fun hb=>?_) (fun hb=>?_)
    ·have h26:=cT hq24 hb
     exact gO 6 E<|oSi h26▸⟨⟨E,E,E,E,tV⟩,[],E,.inl E⟩
    have h27:=cF hq24 hb
    exact bK h27 fun c28 hc28 h29=>gO 2 E<|Kqf E<|eo_o E (Kgv hΓ hc28 E E E E)<|gO 3 E<|oSi h29▸⟨⟨E,E,E,E,tV⟩,[],E,.inl E⟩
   refine gO 2 E<|jC E h25 (fun h30=>?_) fun h33=>gA 8 E<|oSi h33▸⟨_,E,⟨⟨E,E,E,tV⟩,[],E,.inl E⟩⟩
   refine gA 9 E<|bK h30 fun v31 hv31 h32=>?_
   cases h32
   obtain rfl:=hout19 _ rfl
   cases h15
   exact gA 4 E<|oSi hv31▸gP E E
  cases h34
  obtain rfl:=hout19 _ rfl
  exact⟨_,E,⟨⟨E,tV⟩,[],E,.inl E⟩⟩
 intro a16 ha
 subst ha
 replace h15:=Kju h15
 exact bK h15 fun y35 hy35 h36=>gA 4 E<|Khl C (Kvr hy35) E Z E E E E E<|gO 8 E<|jD<|gA 2 E<|gl_o E (Kny hΓ E E E E)<|Kgb hΓ 5 E<|oSi h36▸gP E E
theorem Lbh{k:Nat}{s:Str}{r:Int×Bool}(h:Kzw k s=some r):Pure Tryz.prog 280 [S s] (.tup [I r.1,B r.2]):=by
 unfold Kzw at h
 exact QP Tryz.func280 E E E<|bK h fun y1 hy1 h2=>gA 9 E<|Khl C (Lbg hy1) E Z E E E E E<|gO 7 E<|oSi h2▸gP E E
theorem Lbi{k:Nat}{t:Kxe}{s:Str}{r:Kxe}(h:Kzx k t s=some r):EC Tryz.prog 213 [.ptr 0 0,S s] [.box 129 [S t.kind,I t.v_at,I t.v_end,S t.name,I t.value.Kind,I t.value.Number,S t.value.Words,I t.value.Version.1,I t.value.Version.2.1,I t.value.Version.2.2.1,I t.value.Version.2.2.2]] fun g hp'=>g=.tup []∧hp'=[.box 129 [S r.kind,I r.v_at,I r.v_end,S r.name,I r.value.Kind,I r.value.Number,S r.value.Words,I r.value.Version.1,I r.value.Version.2.1,I r.value.Version.2.2.1,I r.value.Version.2.2.2]]:=by
 unfold Kzx at h
 refine QN Tryz.func213 E Z<|bK h fun c1 hc1 h2=>gA 14 E<|eo_o E (Kgv hΓ hc1 E E E E)<|bK h2 fun q3 hq3 h4=>gO 3 E<|Kkb [(0,.ptr 0 0),(1,S s),(4,I q3)] [.box 129 [S t.kind,I t.v_at,I t.v_end,S t.name,I t.value.Kind,I t.value.Number,S t.value.Words,I t.value.Version.1,I t.value.Version.2.1,I t.value.Version.2.2.1,I t.value.Version.2.2.2]] ?_ ?_
 ·refine jC E hq3 (fun h5=>?_) fun h6=>gA 1 E<|oSi h6▸⟨⟨E,E,E,tV⟩,[],E,.inl E⟩
  exact gA 5 E<|oSi h5▸⟨⟨E,E,E,tV⟩,[],E,.inl E⟩
 refine bK h4 fun y7 hy7 h8=>gA 6 E<|Khl C (Lbf hy7) E Z E E E E E<|gO 2 E<|Krs hΓ E E E E E E E E Z<|Kht [.box 129 [S t.kind,I t.v_at,I y7,S t.name,I t.value.Kind,I t.value.Number,S t.value.Words,I t.value.Version.1,I t.value.Version.2.1,I t.value.Version.2.2.1,I t.value.Version.2.2.2]] E<|gO 3 E<|jD<|bK h8 fun z9 hz9 h10=>gA 9 E<|gl_o E (Kgx hΓ hz9 E E E E E)<|bK h10 fun y11 hy11 h12=>Khm C (Lbh hy11) E E E E E E<|Kgb hΓ 12 E<|jC E h12 (fun h13=>?_) fun h14=>gA 1 E<|oSi h14▸Khy hΓ [] (.inl E) E E E E (.inl E)
 exact gA 4 E<|Kec hΓ (gs:=[I 1,I y11.1,S [],I 0,I 0,I 0,I 0]) E E E E E E E<|gO 2 E<|Krs hΓ E E E E E E E E Z<|Kht [.box 129 [S [118,97,108,117,101],I t.v_at,I y7,S t.name,I t.value.Kind,I t.value.Number,S t.value.Words,I t.value.Version.1,I t.value.Version.2.1,I t.value.Version.2.2.1,I t.value.Version.2.2.2]] E<|gO 2 E<|Krs hΓ E E E E E E E E Z<|Kht [.box 129 [S [118,97,108,117,101],I t.v_at,I y7,S t.name,I 1,I y11.1,S [],I 0,I 0,I 0,I 0]] E<|gO 1 E<|oSi h13▸Khy hΓ [] (.inl E) E E E E (.inl E)
theorem Lbj{k:Nat}{t:Kxe}{s:Str}{r:Kxe}(h:Kzy k t s=some r):EC Tryz.prog 214 [.ptr 0 0,S s] [.box 129 [S t.kind,I t.v_at,I t.v_end,S t.name,I t.value.Kind,I t.value.Number,S t.value.Words,I t.value.Version.1,I t.value.Version.2.1,I t.value.Version.2.2.1,I t.value.Version.2.2.2]] fun g hp'=>g=.tup []∧hp'=[.box 129 [S r.kind,I r.v_at,I r.v_end,S r.name,I r.value.Kind,I r.value.Number,S r.value.Words,I r.value.Version.1,I r.value.Version.2.1,I r.value.Version.2.2.1,I r.value.Version.2.2.2]]:=by
 unfold Kzy at h
 refine QN Tryz.func214 E Z<|gA 2 E<|Khi (t:=0) 5 1 E Z<|gO 12 E<|bK h fun q4 hq4 h5=>Kka (R:=fun a6=>q4=.inl a6) (fun a6=>[]) (fun a6=>[.box 129 [S t.kind,I t.v_at,I t.v_end,S t.name,I t.value.Kind,I t.value.Number,S t.value.Words,I t.value.Version.1,I t.value.Version.2.1,I t.value.Version.2.2.1,I t.value.Version.2.2.2],rO 5 1 (eN .u8) a6]) ?_ ?_
 ·refine gA 1 E<|Kgq hq4 (fun s2=>[(0,.ptr 0 0),(1,S s),(4,.sl 1 s2.1.length),(5,I s2.2)]) (fun s2=>[.box 129 [S t.kind,I t.v_at,I t.v_end,S t.name,I t.value.Kind,I t.value.Number,S t.value.Words,I t.value.Version.1,I t.value.Version.2.1,I t.value.Version.2.2.1,I t.value.Version.2.2.2],rO 5 1 (eN .u8) s2.1]) ⟨⟨E,E,E,E,tV⟩,[],E,.inl E⟩ (fun s2 y10 hy8 hout9=>?_)
  refine gA 9 E<|Kgd E (fun hb=>?_) (fun hb=>?_)
  ·have h11:=cT hy8 hb
   refine bK h11 fun c12 hc12 h13=>gA 8 E<|eo_o E (Kgv hΓ hc12 E E E E)<|bK h13 fun q14 hq14 h15=>gO 4 E<|Kkc (q:=q14) (fun a16=>[(0,.ptr 0 0),(1,S s),(4,.sl 1 s2.1.length),(5,I a16.1),(6,.d (.v (.int .u8 a16.2)))]) (fun a16=>[.box 129 [S t.kind,I t.v_at,I t.v_end,S t.name,I t.value.Kind,I t.value.Number,S t.value.Words,I t.value.Version.1,I t.value.Version.2.1,I t.value.Version.2.2.1,I t.value.Version.2.2.2],rO 5 1 (eN .u8) s2.1]) ?_ ?_
   ·refine gA 8 E<|Kgd E (fun hb=>?_) (fun hb=>?_)
    ·have h17:=cT hq14 hb
     refine bK h17 fun y18 hy18 h19=>gA 8 E<|eo_o E (Kik hΓ hy18 E E E E E E E E E)<|Kec hΓ (gs:=[I 2,I 0,S y18,I 0,I 0,I 0,I 0]) E E E E E E E<|gO 2 E<|Krs hΓ E E E E E E E E Z<|Kht [.box 129 [S [118,97,108,117,101],I t.v_at,I t.v_end,S t.name,I t.value.Kind,I t.value.Number,S t.value.Words,I t.value.Version.1,I t.value.Version.2.1,I t.value.Version.2.2.1,I t.value.Version.2.2.2],rO 5 1 (eN .u8) s2.1] E<|gO 2 E<|Krs hΓ E E E E E E E E Z<|Kht [.box 129 [S [118,97,108,117,101],I t.v_at,I (wi (s2.2+1)),S t.name,I t.value.Kind,I t.value.Number,S t.value.Words,I t.value.Version.1,I t.value.Version.2.1,I t.value.Version.2.2.1,I t.value.Version.2.2.2],rO 5 1 (eN .u8) s2.1] E<|gO 2 E<|Krs hΓ E E E E E E E E Z<|Kht [.box 129 [S [118,97,108,117,101],I t.v_at,I (wi (s2.2+1)),S t.name,I 2,I 0,S y18,I 0,I 0,I 0,I 0],rO 5 1 (eN .u8) s2.1] E<|gO 4 E<|bK h19 fun v20 hv20 h21=>?_
     cases h21
     cases h15
     refine gA 4 E<|bK hv20 fun v22 hv22 h23=>?_
     cases h23
     obtain rfl:=hout9 _ rfl
     cases h5
     exact gA 3 E<|oSi hv22▸Khy hΓ [_] (.inr E) E E E E (.inr ⟨HB.mk E,E⟩)
    have h24:=cF hq14 hb
    refine gA 5 E<|Kgj 3 [(0,.ptr 0 0),(1,S s),(4,.sl 1 s2.1.length),(5,I s2.2),(6,.d (.v (.int .u8 (c12.toNat:Int)))),(44,B ((decide (((c12.toNat:Int):Int)<32))||(decide (((c12.toNat:Int):Int)>126))))] [.box 129 [S t.kind,I t.v_at,I t.v_end,S t.name,I t.value.Kind,I t.value.Number,S t.value.Words,I t.value.Version.1,I t.value.Version.2.1,I t.value.Version.2.2.1,I t.value.Version.2.2.2],rO 5 1 (eN .u8) s2.1] ?_ ?_
    ·refine Kqh E E (fun hb=>?_) (fun hb=>?_)
     ·exact gO 4 E<|⟨⟨E,E,E,E,E,Kfh E (or_t hb),tV⟩,[],E,.inl E⟩
     exact gO 4 E<|⟨⟨E,E,E,E,E,Kfh E (or_f hb),tV⟩,[],E,.inl E⟩
    refine gO 3 E<|jC E h24 (fun h25=>?_) fun h30=>gA 7 E<|jC E h30 (fun h31=>?_) fun h52=>?_
    ·refine gA 2 E<|bK h25 fun v26 hv26 h27=>?_
     cases h27
     cases h15
     refine gA 4 E<|bK hv26 fun v28 hv28 h29=>?_
     cases h29
     obtain rfl:=hout9 _ rfl
     cases h5
     exact gA 3 E<|oSi hv28▸Khy hΓ [_] (.inr E) E E E E (.inr ⟨HB.mk E,E⟩)
    ·refine gA 15 E<|bK h31 fun q32 hq32 h33=>Kgj 11 [(0,.ptr 0 0),(1,S s),(4,.sl 1 s2.1.length),(5,I (wi (s2.2+1))),(65,B q32)] [.box 129 [S t.kind,I t.v_at,I t.v_end,S t.name,I t.value.Kind,I t.value.Number,S t.value.Words,I t.value.Version.1,I t.value.Version.2.1,I t.value.Version.2.2.1,I t.value.Version.2.2.2],rO 5 1 (eN .u8) s2.1] ?_ ?_
     ·refine Kqh E E (fun hb=>?_) (fun hb=>?_)
      ·have h34:=cT hq32 hb
       exact gO 12 E<|oSi h34▸⟨⟨E,E,E,E,E,tV⟩,[],E,.inl E⟩
      have h35:=cF hq32 hb
      refine bK h35 fun c36 hc36 h37=>gO 2 E<|Kqf E<|eo_o E (Kgv hΓ hc36 E E E E)<|gO 2 E<|bK h37 fun q38 hq38 h39=>Kgj 5 [(0,.ptr 0 0),(1,S s),(4,.sl 1 s2.1.length),(5,I (wi (s2.2+1))),(54,B false),(64,B q38)] [.box 129 [S t.kind,I t.v_at,I t.v_end,S t.name,I t.value.Kind,I t.value.Number,S t.value.Words,I t.value.Version.1,I t.value.Version.2.1,I t.value.Version.2.2.1,I t.value.Version.2.2.2],rO 5 1 (eN .u8) s2.1] ?_ ?_
      ·refine Kqh E E (fun hb=>?_) (fun hb=>?_)
       ·have h40:=cT hq38 hb
        exact bK h40 fun c41 hc41 h42=>gO 2 E<|Kqf E<|eo_o E (Kgv hΓ hc41 E E E E)<|gO 3 E<|oSi h42▸⟨⟨E,E,E,E,E,E,tV⟩,[],E,.inl E⟩
       have h43:=cF hq38 hb
       exact gO 6 E<|oSi h43▸⟨⟨E,E,E,E,E,E,tV⟩,[],E,.inl E⟩
      exact gO 2 E<|oSi h39▸⟨⟨E,E,E,E,E,tV⟩,[],E,.inl E⟩
     refine gO 2 E<|jC E h33 (fun h44=>?_) fun h49=>bK h49 fun c50 hc50 h51=>gA 5 E<|eo_o E (Kgv hΓ hc50 E E E E)<|gO 3 E<|oSi h51▸⟨_,E,⟨⟨E,E,E,E,E,tV⟩,[],E,.inl E⟩⟩
     refine gA 3 E<|bK h44 fun v45 hv45 h46=>?_
     cases h46
     cases h15
     refine gA 4 E<|bK hv45 fun v47 hv47 h48=>?_
     cases h48
     obtain rfl:=hout9 _ rfl
     cases h5
     exact gA 3 E<|oSi hv47▸Khy hΓ [_] (.inr E) E E E E (.inr ⟨HB.mk E,E⟩)
    exact gA 2 E<|oSi h52▸⟨_,E,⟨⟨E,E,E,E,E,tV⟩,[],E,.inl E⟩⟩
   intro a16 ha
   subst ha
   replace h15:=Kju h15
   exact gA 4 E<|Khf hΓ (enc:=(eN .u8)) [a16.2] E E E E E E E E E E E E Z<|bK h15 fun y53 hy53 h54=>Khu hΓ (enc:=(eN .u8)) hy53 E E E E E E E E E (fun _=>E) E E E E<|gO 9 E<|oSi h54▸⟨_,E,⟨⟨E,E,E,E,tV⟩,[],E,.inl E⟩⟩
  have h55:=cF hy8 hb
  refine gA 4 E ?_
  cases h55
  obtain rfl:=hout9 _ rfl
  exact⟨_,E,⟨tV,[],E,.inl E⟩⟩
 intro a6 ha
 subst ha
 replace h5:=Kju h5
 exact oSi h5▸Khy hΓ [_] (.inl E) E E E E (.inr ⟨HB.mk E,E⟩)
theorem Lbk{s:Str}{r:Bool}(h:Kzz s=some r):Pure Tryz.prog 215 [S s] (B r):=by
 unfold Kzz at h
 refine QP Tryz.func215 E E E<|gA 11 E<|bK h fun q1 hq1 h2=>Kgj 4 [(0,S s),(2,B false),(10,B q1)] [] ?_ ?_
 ·refine Kqh E E (fun hb=>?_) (fun hb=>?_)
  ·have h3:=cT hq1 hb
   exact bK h3 fun c4 hc4 h5=>gO 1 E<|Kqf E<|eo_o E (Kgv hΓ hc4 E E E E)<|gO 3 E<|oSi h5▸⟨⟨E,E,E,tV⟩,[],E,.inl E⟩
  have h6:=cF hq1 hb
  exact gO 5 E<|oSi h6▸⟨⟨E,E,E,tV⟩,[],E,.inl E⟩
 refine gO 1 E<|bK h2 fun q7 hq7 h8=>Kgj 4 [(2,B false),(15,B q7)] [] ?_ ?_
 ·refine Kqh E E (fun hb=>?_) (fun hb=>?_)
  ·have h9:=cT hq7 hb
   exact bK h9 fun c10 hc10 h11=>gO 1 E<|Kqf E<|eo_o E (Kgv hΓ hc10 E E E E)<|bK h11 fun y12 hy12 h13=>Kqf E<|Khl C (Lbe hy12) E Z E E E E E<|gO 2 E<|oSi h13▸⟨⟨E,E,tV⟩,[],E,.inl E⟩
  have h14:=cF hq7 hb
  exact gO 5 E<|oSi h14▸⟨⟨E,E,tV⟩,[],E,.inl E⟩
 exact gO 4 E<|oSi h8▸gP E E
theorem Lbl{k:Nat}{l:List Str}{r:(List Int)×Bool}(h:Laa k l=some r):Pure Tryz.prog 281 [.d (Sl eS l)] (.tup [.d (Sl (eN .i64) r.1),B r.2]):=by
 unfold Laa at h
 refine QP Tryz.func281 E E E<|gA 8 E<|Khi (t:=0) 3 1 E Z<|gO 10 E<|bK h fun q4 hq4 h5=>Kgt 9 E fun hb7=>Kka (R:=fun a6=>q4=.go a6) (fun a6=>[(4,.sl 0 a6.length)]) (fun a6=>[rO 3 1 (eN .i64) a6]) ?_ ?_
 ·refine gA 1 E<|Kgs l hq4 (fun i1 s2=>[(4,.sl 0 s2.length),(9,.d (Sl eS l)),(10,I (l.length:Int)),(11,I (i1:Int))]) (fun s2=>[rO 3 1 (eN .i64) s2]) ⟨⟨E,E,E,E,tV⟩,[],E,.inl E⟩ (fun i1 x3 s2 y11 hx8 hlt hy9 hout10=>?_) (fun s2 hgo=>?_)
  ·refine gA 6 E<|Kge E (dT (Int.ofNat_lt.2 hlt))<|gA 6 E<|eo_o E (Kgu hΓ (enc:=eS) (Kgn hx8) E E E E E (fun _=>E))<|bK hy9 fun y12 hy12 h13=>gO 7 E<|Khl C (Lbh hy12) E Z E E E E E<|gO 14 E<|jC E h13 (fun h14=>?_) fun h17=>gA 5 E<|Khf hΓ (enc:=(eN .i64)) [y12.1] E E E E E E E E E E E E Z<|bK h17 fun y18 hy18 h19=>Khu hΓ (enc:=(eN .i64)) hy18 E E E E E E E E E (fun _=>E) E E E E<|gO 8 E ?_
   ·refine gA 10 E<|bK h14 fun v15 hv15 h16=>?_
    cases h16
    obtain rfl:=hout10 _ rfl
    cases h5
    exact gA 4 E<|oSi hv15▸gP E E
   cases h19
   exact⟨_,E,⟨⟨E,E,E,Kfg E (Kff (nLl hlt hb7)),tV⟩,[],E,.inl E⟩⟩
  subst hgo
  exact gA 6 E<|Kgf E (dF (Int.lt_irrefl _))<|gA 4 E<|⟨_,E,⟨⟨E,tV⟩,[],E,.inl E⟩⟩
 intro a6 ha
 subst ha
 replace h5:=Kjv h5
 exact gA 5 E<|Khr 0 [2,4,27] _ [.dead] E E E Z<|gO 4 E<|oSi h5▸gP E E
theorem Lbm{k:Nat}{t:Kxe}{s:Str}{r:Kxe}(h:Lab k t s=some r):EC Tryz.prog 216 [.ptr 0 0,S s] [.box 129 [S t.kind,I t.v_at,I t.v_end,S t.name,I t.value.Kind,I t.value.Number,S t.value.Words,I t.value.Version.1,I t.value.Version.2.1,I t.value.Version.2.2.1,I t.value.Version.2.2.2]] fun g hp'=>g=.tup []∧hp'=[.box 129 [S r.kind,I r.v_at,I r.v_end,S r.name,I r.value.Kind,I r.value.Number,S r.value.Words,I r.value.Version.1,I r.value.Version.2.1,I r.value.Version.2.2.1,I r.value.Version.2.2.2]]:=by
 unfold Lab at h
 refine QN Tryz.func216 E Z<|gA 10 E<|Krs hΓ E E E E E E E E Z<|Kht [.box 129 [S t.kind,I t.v_at,I (wi (t.v_at+1)),S t.name,I t.value.Kind,I t.value.Number,S t.value.Words,I t.value.Version.1,I t.value.Version.2.1,I t.value.Version.2.2.1,I t.value.Version.2.2.2]] E<|gO 3 E<|bK h fun q4 hq4 h5=>Kkb [(0,.ptr 0 0),(1,S s)] [.box 129 [S t.kind,I t.v_at,I q4,S t.name,I t.value.Kind,I t.value.Number,S t.value.Words,I t.value.Version.1,I t.value.Version.2.1,I t.value.Version.2.2.1,I t.value.Version.2.2.2]] ?_ ?_
 ·refine gA 1 E<|Kgq hq4 (fun s2=>[(0,.ptr 0 0),(1,S s)]) (fun s2=>[.box 129 [S t.kind,I t.v_at,I s2,S t.name,I t.value.Kind,I t.value.Number,S t.value.Words,I t.value.Version.1,I t.value.Version.2.1,I t.value.Version.2.2.1,I t.value.Version.2.2.2]]) ⟨⟨E,E,tV⟩,[],E,.inl E⟩ (fun s2 y10 hy8 hout9=>?_)
  refine gA 11 E<|bK hy8 fun q11 hq11 h12=>Kgj 17 [(0,.ptr 0 0),(1,S s),(39,B q11)] [.box 129 [S t.kind,I t.v_at,I s2,S t.name,I t.value.Kind,I t.value.Number,S t.value.Words,I t.value.Version.1,I t.value.Version.2.1,I t.value.Version.2.2.1,I t.value.Version.2.2.2]] ?_ ?_
  ·refine Kqh E E (fun hb=>?_) (fun hb=>?_)
   ·have h13:=cT hq11 hb
    refine bK h13 fun c14 hc14 h15=>gO 5 E<|Kqf E<|eo_o E (Kgv hΓ hc14 E E E E)<|bK h15 fun y16 hy16 h17=>Kqf E<|Khl C (Lbe hy16) E Z E E E E E<|gO 1 E<|bK h17 fun q18 hq18 h19=>Kgj 8 [(0,.ptr 0 0),(1,S s),(22,B true),(38,B q18)] [.box 129 [S t.kind,I t.v_at,I s2,S t.name,I t.value.Kind,I t.value.Number,S t.value.Words,I t.value.Version.1,I t.value.Version.2.1,I t.value.Version.2.2.1,I t.value.Version.2.2.2]] ?_ ?_
    ·refine Kqh E E (fun hb=>?_) (fun hb=>?_)
     ·have h20:=cT hq18 hb
      exact gO 9 E<|oSi h20▸⟨⟨E,E,E,E,tV⟩,[],E,.inl E⟩
     have h21:=cF hq18 hb
     exact bK h21 fun c22 hc22 h23=>gO 5 E<|Kqf E<|eo_o E (Kgv hΓ hc22 E E E E)<|gO 3 E<|oSi h23▸⟨⟨E,E,E,E,tV⟩,[],E,.inl E⟩
    exact gO 2 E<|oSi h19▸⟨⟨E,E,E,tV⟩,[],E,.inl E⟩
   have h24:=cF hq11 hb
   exact gO 18 E<|oSi h24▸⟨⟨E,E,E,tV⟩,[],E,.inl E⟩
  refine gO 2 E<|jC E h12 (fun h25=>?_) fun h26=>gA 4 E ?_
  ·exact gA 11 E<|Krs hΓ E E E E E E E E Z<|Kht [.box 129 [S t.kind,I t.v_at,I (wi (s2+1)),S t.name,I t.value.Kind,I t.value.Number,S t.value.Words,I t.value.Version.1,I t.value.Version.2.1,I t.value.Version.2.2.1,I t.value.Version.2.2.2]] E<|gO 2 E<|oSi h25▸⟨_,E,⟨⟨E,E,tV⟩,[],E,.inl E⟩⟩
  cases h26
  obtain rfl:=hout9 _ rfl
  exact⟨⟨E,E,tV⟩,[],E,.inl E⟩
 refine gA 2 E<|jD<|bK h5 fun z27 hz27 h28=>gA 10 E<|gl_o E (Kgx hΓ hz27 E E E E E)<|bK h28 fun y29 hy29 h30=>Khm C (Pure.rows (Kvo hy29) E E) E E E E E E<|bK h30 fun y31 hy31 h32=>Kgb hΓ 6 E<|Khl C (Lbl hy31) E Z E E E E E<|gO 13 E<|Kgj 4 [(0,.ptr 0 0),(5,.d (Sl (eN .i64) y31.1)),(70,B ((!y31.2)||(decide (((y29.length:Int):Int)>4))))] [.box 129 [S t.kind,I t.v_at,I q4,S t.name,I t.value.Kind,I t.value.Number,S t.value.Words,I t.value.Version.1,I t.value.Version.2.1,I t.value.Version.2.2.1,I t.value.Version.2.2.2]] ?_ ?_
 ·refine Kqh E E (fun hb=>?_) (fun hb=>?_)
  ·exact gO 5 E<|⟨⟨E,E,Kfh E (or_t hb),tV⟩,[],E,.inl E⟩
  exact gO 5 E<|⟨⟨E,E,Kfh E (or_f hb),tV⟩,[],E,.inl E⟩
 refine gO 2 E<|jC E h32 (fun h33=>?_) fun h34=>gA 6 E<|Kec hΓ (gs:=[I 4,I 0,S [],I 0,I 0,I 0,I 0]) E E E E E E E<|gO 2 E<|Krs hΓ E E E E E E E E Z<|Kht [.box 129 [S [118,97,108,117,101],I t.v_at,I q4,S t.name,I t.value.Kind,I t.value.Number,S t.value.Words,I t.value.Version.1,I t.value.Version.2.1,I t.value.Version.2.2.1,I t.value.Version.2.2.2]] E<|gO 2 E<|Krs hΓ E E E E E E E E Z<|Kht [.box 129 [S [118,97,108,117,101],I t.v_at,I q4,S t.name,I 4,I 0,S [],I 0,I 0,I 0,I 0]] E<|gO 7 E<|eo_o E (Kof hΓ (n:=4) (a:=(0:Int)) E E E E E E E)<|gO 1 E<|eo_s Z (nblt.1 E) (Kog hΓ (pre:=[S [118,97,108,117,101],I t.v_at,I q4,S t.name,I 4,I 0,S []]) (post:=[]) (l:=[0,0,0,0]) (xs:=y31.1) (k:=.i64) (p:=7) (o:=(0:Int).toNat) (n:=4 - (0:Int).toNat) (Kod (a:=0) (n:=4) E) E E E E E E E E E)<|Kht [.box 129 [S [118,97,108,117,101],I t.v_at,I q4,S t.name,I 4,I 0,S [],I (cpA (0:Int).toNat y31.1 0 0),I (cpA (0:Int).toNat y31.1 1 0),I (cpA (0:Int).toNat y31.1 2 0),I (cpA (0:Int).toNat y31.1 3 0)]] E<|gO 1 E<|oSi h34▸Khy hΓ [] (.inl E) E E E E (.inl E)
 exact gA 2 E<|oSi h33▸Khy hΓ [] (.inr E) E E E E (.inl E)
theorem Lbn{c:Int}{r:Bool}(h:Lac c=some r):Pure Tryz.prog 282 [.d (.v (.int .u8 c))] (B r):=by
 unfold Lac at h
 refine QP Tryz.func282 E E E<|gA 10 E<|Kgj 3 [(0,.d (.v (.int .u8 c))),(2,B false),(8,B ((decide ((c:Int)≥97))&&(decide ((c:Int)≤122))))] [] ?_ ?_
 ·refine Kqh E E (fun hb=>?_) (fun hb=>?_)
  ·exact gO 4 E<|⟨⟨E,E,Kfh E (Kie hb),tV⟩,[],E,.inl E⟩
  exact gO 4 E<|⟨⟨E,E,Kfh E (Kif hb),tV⟩,[],E,.inl E⟩
 refine gO 1 E<|bK h fun q1 hq1 h2=>Kgj 3 [(0,.d (.v (.int .u8 c))),(2,B false),(12,B q1)] [] ?_ ?_
 ·refine Kqh E E (fun hb=>?_) (fun hb=>?_)
  ·have h3:=cT hq1 hb
   exact gO 4 E<|oSi h3▸⟨⟨E,E,E,tV⟩,[],E,.inl E⟩
  have h4:=cF hq1 hb
  exact bK h4 fun y5 hy5 h6=>gO 1 E<|Kqf E<|Khl C (Lbe hy5) E Z E E E E E<|gO 2 E<|oSi h6▸⟨⟨E,E,E,tV⟩,[],E,.inl E⟩
 refine gO 1 E<|Kgj 3 [(0,.d (.v (.int .u8 c))),(2,B false),(16,B (q1||((c:Int)==45)))] [] ?_ ?_
 ·refine Kqh E E (fun hb=>?_) (fun hb=>?_)
  ·exact gO 4 E<|⟨⟨E,E,Kfh E (or_t hb),tV⟩,[],E,.inl E⟩
  exact gO 4 E<|⟨⟨E,E,Kfh E (or_f hb),tV⟩,[],E,.inl E⟩
 refine gO 1 E<|Kgj 3 [(2,B false),(20,B ((q1||((c:Int)==45))||((c:Int)==95)))] [] ?_ ?_
 ·refine Kqh E E (fun hb=>?_) (fun hb=>?_)
  ·exact gO 4 E<|⟨⟨E,Kfh E (or_t hb),tV⟩,[],E,.inl E⟩
  exact gO 4 E<|⟨⟨E,Kfh E (or_f hb),tV⟩,[],E,.inl E⟩
 exact gO 4 E<|oSi h2▸gP E E
theorem Lbo{k:Nat}{t:Kxe}{s:Str}{r:Kxe}(h:Lad k t s=some r):EC Tryz.prog 217 [.ptr 0 0,S s] [.box 129 [S t.kind,I t.v_at,I t.v_end,S t.name,I t.value.Kind,I t.value.Number,S t.value.Words,I t.value.Version.1,I t.value.Version.2.1,I t.value.Version.2.2.1,I t.value.Version.2.2.2]] fun g hp'=>g=.tup []∧hp'=[.box 129 [S r.kind,I r.v_at,I r.v_end,S r.name,I r.value.Kind,I r.value.Number,S r.value.Words,I r.value.Version.1,I r.value.Version.2.1,I r.value.Version.2.2.1,I r.value.Version.2.2.2]]:=by
 unfold Lad at h
 refine QN Tryz.func217 E Z<|gA 9 E<|Krs hΓ E E E E E E E E Z<|Kht [.box 129 [S t.kind,I t.v_at,I t.v_at,S t.name,I t.value.Kind,I t.value.Number,S t.value.Words,I t.value.Version.1,I t.value.Version.2.1,I t.value.Version.2.2.1,I t.value.Version.2.2.2]] E<|gO 3 E<|bK h fun q4 hq4 h5=>Kkb [(0,.ptr 0 0),(1,S s)] [.box 129 [S t.kind,I t.v_at,I q4,S t.name,I t.value.Kind,I t.value.Number,S t.value.Words,I t.value.Version.1,I t.value.Version.2.1,I t.value.Version.2.2.1,I t.value.Version.2.2.2]] ?_ ?_
 ·refine gA 1 E<|Kgq hq4 (fun s2=>[(0,.ptr 0 0),(1,S s)]) (fun s2=>[.box 129 [S t.kind,I t.v_at,I s2,S t.name,I t.value.Kind,I t.value.Number,S t.value.Words,I t.value.Version.1,I t.value.Version.2.1,I t.value.Version.2.2.1,I t.value.Version.2.2.2]]) ⟨⟨E,E,tV⟩,[],E,.inl E⟩ (fun s2 y10 hy8 hout9=>?_)
  refine gA 11 E<|bK hy8 fun q11 hq11 h12=>Kgj 8 [(0,.ptr 0 0),(1,S s),(26,B q11)] [.box 129 [S t.kind,I t.v_at,I s2,S t.name,I t.value.Kind,I t.value.Number,S t.value.Words,I t.value.Version.1,I t.value.Version.2.1,I t.value.Version.2.2.1,I t.value.Version.2.2.2]] ?_ ?_
  ·refine Kqh E E (fun hb=>?_) (fun hb=>?_)
   ·have h13:=cT hq11 hb
    exact bK h13 fun c14 hc14 h15=>gO 5 E<|Kqf E<|eo_o E (Kgv hΓ hc14 E E E E)<|bK h15 fun y16 hy16 h17=>Kqf E<|Khl C (Lbn hy16) E Z E E E E E<|gO 2 E<|oSi h17▸⟨⟨E,E,E,tV⟩,[],E,.inl E⟩
   have h18:=cF hq11 hb
   exact gO 9 E<|oSi h18▸⟨⟨E,E,E,tV⟩,[],E,.inl E⟩
  refine gO 2 E<|jC E h12 (fun h19=>?_) fun h20=>gA 4 E ?_
  ·exact gA 11 E<|Krs hΓ E E E E E E E E Z<|Kht [.box 129 [S t.kind,I t.v_at,I (wi (s2+1)),S t.name,I t.value.Kind,I t.value.Number,S t.value.Words,I t.value.Version.1,I t.value.Version.2.1,I t.value.Version.2.2.1,I t.value.Version.2.2.2]] E<|gO 2 E<|oSi h19▸⟨_,E,⟨⟨E,E,tV⟩,[],E,.inl E⟩⟩
  cases h20
  obtain rfl:=hout9 _ rfl
  exact⟨⟨E,E,tV⟩,[],E,.inl E⟩
 refine gA 2 E<|Kjg [.box 129 [S t.kind,I t.v_at,I q4,S t.name,I t.value.Kind,I t.value.Number,S t.value.Words,I t.value.Version.1,I t.value.Version.2.1,I t.value.Version.2.2.1,I t.value.Version.2.2.2]] [6,10] [14,17] [14,17] hmix (by kernel_rfl) (by kernel_rfl) ⟨E,tV⟩ Z<|bK h5 fun z21 hz21 h22=>go_E hΓ 11 E<|ge_q E (.inl E) (fun _ _=>Kji (qt_p (Kgx hΓ hz21 E E E E E)))<|go_E hΓ 2 E<|Kjk [.box 129 [S [110,97,109,101],I t.v_at,I q4,S t.name,I t.value.Kind,I t.value.Number,S t.value.Words,I t.value.Version.1,I t.value.Version.2.1,I t.value.Version.2.2.1,I t.value.Version.2.2.2]] E E (Kjl E) (Kjq (Kkl hΓ E E E E E E E E E))<|go_E hΓ 2 E<|Kjk [.box 129 [S [110,97,109,101],I t.v_at,I q4,S z21,I t.value.Kind,I t.value.Number,S t.value.Words,I t.value.Version.1,I t.value.Version.2.1,I t.value.Version.2.2.1,I t.value.Version.2.2.2]] E E (Kjl E) (Kjq (Kkl hΓ E E E E E E E E E))<|Kjh<|gA 9 E<|Kgj 6 [(0,.ptr 0 0),(61,B (((z21:Str)==[116,114,117,101])||((z21:Str)==[102,97,108,115,101])))] [.box 129 [S [110,97,109,101],I t.v_at,I q4,S z21,I t.value.Kind,I t.value.Number,S t.value.Words,I t.value.Version.1,I t.value.Version.2.1,I t.value.Version.2.2.1,I t.value.Version.2.2.2]] ?_ ?_
 ·refine Kqh E E (fun hb=>?_) (fun hb=>?_)
  ·exact gO 7 E<|⟨⟨E,Kfh E (or_t hb),tV⟩,[],E,.inl E⟩
  exact gO 7 E<|⟨⟨E,Kfh E (or_f hb),tV⟩,[],E,.inl E⟩
 refine gO 2 E<|jC E h22 (fun h23=>?_) fun h26=>gA 1 E<|oSi h26▸Khy hΓ [] (.inl E) E E E E (.inl E)
 refine gA 4 E<|Kec hΓ (gs:=[I 3,I 0,S [],I 0,I 0,I 0,I 0]) E E E E E E E<|gO 2 E<|Krs hΓ E E E E E E E E Z<|Kht [.box 129 [S [118,97,108,117,101],I t.v_at,I q4,S z21,I t.value.Kind,I t.value.Number,S t.value.Words,I t.value.Version.1,I t.value.Version.2.1,I t.value.Version.2.2.1,I t.value.Version.2.2.2]] E<|gO 2 E<|Krs hΓ E E E E E E E E Z<|Kht [.box 129 [S [118,97,108,117,101],I t.v_at,I q4,S z21,I 3,I 0,S [],I 0,I 0,I 0,I 0]] E<|gO 11 E<|jC E h23 (fun h24=>?_) fun h25=>gA 1 E<|oSi h25▸Khy hΓ [] (.inl E) E E E E (.inl E)
 exact gA 5 E<|Krs hΓ E E E E E E E E Z<|Kht [.box 129 [S [118,97,108,117,101],I t.v_at,I q4,S z21,I 3,I 1,S [],I 0,I 0,I 0,I 0]] E<|gO 1 E<|oSi h24▸Khy hΓ [] (.inl E) E E E E (.inl E)
theorem Lbp{k:Nat}{s:Str}{v_at:Int}{r:Kxe}(h:Lae k s v_at=some r):Pure Tryz.prog 161 [S s,I v_at] (.agg [S r.kind,I r.v_at,I r.v_end,S r.name,I r.value.Kind,I r.value.Number,S r.value.Words,I r.value.Version.1,I r.value.Version.2.1,I r.value.Version.2.2.1,I r.value.Version.2.2.2]):=by
 unfold Lae at h
 refine QP Tryz.func161 E E E<|gA 2 E<|Krn hΓ E E E Z<|gO 5 E<|Kec hΓ (gs:=[S [98,97,100],I v_at,I 0,S [],I 0,I 0,S [],I 0,I 0,I 0,I 0]) E E E E E E E<|Krn hΓ E E E Z<|Krs hΓ E E E E E E E E Z<|Kht [.box 129 [S [],I 0,I 0,S [],I 0,I 0,S [],I 0,I 0,I 0,I 0],.box 129 [S [98,97,100],I v_at,I 0,S [],I 0,I 0,S [],I 0,I 0,I 0,I 0]] E<|gO 11 E<|Kgd E (fun hb=>?_) (fun hb=>?_)
 ·have h1:=cT h hb
  exact gA 3 E<|Krs hΓ E E E E E E E E Z<|Kht [.box 129 [S [],I 0,I 0,S [],I 0,I 0,S [],I 0,I 0,I 0,I 0],.box 129 [S [101,110,100],I v_at,I 0,S [],I 0,I 0,S [],I 0,I 0,I 0,I 0]] E<|gO 5 E<|Krs hΓ E E E E E E E E Z<|Kht [.box 129 [S [101,110,100],I v_at,I 0,S [],I 0,I 0,S [],I 0,I 0,I 0,I 0],.box 129 [S [101,110,100],I v_at,I 0,S [],I 0,I 0,S [],I 0,I 0,I 0,I 0]] E<|gO 4 E<|oSi h1▸gP E E
 have h2:=cF h hb
 refine gA 5 E<|Khf hΓ (enc:=eS) [[61,61],[33,61],[60,61],[62,61],[38,38],[124,124],[60],[62],[33],[40],[41]] E E E E E E E E E E E E Z<|gO 4 E<|bK h2 fun q6 hq6 h7=>Kgt 17 E fun hb9=>Kka (R:=fun a8=>q6=.go a8) (fun a8=>[(0,S s),(1,I v_at),(4,.ptr 0 0),(5,.ptr 1 0)]) (fun a8=>[.box 129 [S [],I 0,I 0,S [],I 0,I 0,S [],I 0,I 0,I 0,I 0],.box 129 [S [98,97,100],I v_at,I 0,S [],I 0,I 0,S [],I 0,I 0,I 0,I 0]]) ?_ ?_
 ·refine gA 1 E<|Kgs [[61,61],[33,61],[60,61],[62,61],[38,38],[124,124],[60],[62],[33],[40],[41]] hq6 (fun i3 s4=>[(0,S s),(1,I v_at),(4,.ptr 0 0),(5,.ptr 1 0),(17,.d (Sl eS [[61,61],[33,61],[60,61],[62,61],[38,38],[124,124],[60],[62],[33],[40],[41]])),(18,I ([[61,61],[33,61],[60,61],[62,61],[38,38],[124,124],[60],[62],[33],[40],[41]].length:Int)),(19,I (i3:Int))]) (fun s4=>[.box 129 [S [],I 0,I 0,S [],I 0,I 0,S [],I 0,I 0,I 0,I 0],.box 129 [S [98,97,100],I v_at,I 0,S [],I 0,I 0,S [],I 0,I 0,I 0,I 0]]) ⟨⟨E,E,E,E,E,E,E,tV⟩,[],E,.inl E⟩ (fun i3 x5 s4 y13 hx10 hlt hy11 hout12=>?_) (fun s4 hgo=>?_)
  ·refine gA 6 E<|Kge E (dT (Int.ofNat_lt.2 hlt))<|gA 6 E<|eo_o E (Kgu hΓ (enc:=eS) (Kgn hx10) E E E E E (fun _=>E))<|bK hy11 fun z14 hz14 h15=>gO 8 E<|eo_o E (Kgx hΓ hz14 E E E E E)<|bK h15 fun y16 hy16 h17=>gO 1 E<|Khl C (Kvl hy16) E Z E E E E E<|gO 2 E<|jC E h17 (fun h18=>?_) fun h21=>gA 7 E ?_
   ·refine gA 8 E<|Krs hΓ E E E E E E E E Z<|Kht [.box 129 [S [],I 0,I 0,S [],I 0,I 0,S [],I 0,I 0,I 0,I 0],.box 129 [S x5,I v_at,I 0,S [],I 0,I 0,S [],I 0,I 0,I 0,I 0]] E<|gO 1 E<|Krs hΓ E E E E E E E E Z<|Kht [.box 129 [S [],I 0,I 0,S [],I 0,I 0,S [],I 0,I 0,I 0,I 0],.box 129 [S x5,I v_at,I (wi (v_at+(x5.length:Int))),S [],I 0,I 0,S [],I 0,I 0,I 0,I 0]] E<|gO 5 E<|Krs hΓ E E E E E E E E Z<|Kht [.box 129 [S x5,I v_at,I (wi (v_at+(x5.length:Int))),S [],I 0,I 0,S [],I 0,I 0,I 0,I 0],.box 129 [S x5,I v_at,I (wi (v_at+(x5.length:Int))),S [],I 0,I 0,S [],I 0,I 0,I 0,I 0]] E<|gO 5 E<|bK h18 fun v19 hv19 h20=>?_
    cases h20
    obtain rfl:=hout12 _ rfl
    cases h7
    exact gA 4 E<|oSi hv19▸gP E E
   cases h21
   exact⟨_,E,⟨⟨E,E,E,E,E,E,Kfg E (Kff (nLl hlt hb9)),tV⟩,[],E,.inl E⟩⟩
  subst hgo
  exact gA 6 E<|Kgf E (dF (Int.lt_irrefl _))<|gA 4 E<|⟨_,E,⟨⟨E,E,E,E,tV⟩,[],E,.inl E⟩⟩
 intro a8 ha
 subst ha
 replace h7:=Kjv h7
 refine bK h7 fun c22 hc22 h23=>gA 6 E<|eo_o E (Kgv hΓ hc22 E E E E)<|bK h23 fun q24 hq24 h25=>gO 3 E<|Kkb [(4,.ptr 0 0),(5,.ptr 1 0)] [.box 129 [S [],I 0,I 0,S [],I 0,I 0,S [],I 0,I 0,I 0,I 0],.box 129 [S q24.kind,I q24.v_at,I q24.v_end,S q24.name,I q24.value.Kind,I q24.value.Number,S q24.value.Words,I q24.value.Version.1,I q24.value.Version.2.1,I q24.value.Version.2.2.1,I q24.value.Version.2.2.2]] ?_ ?_
 ·refine bK hq24 fun y26 hy26 h27=>gA 4 E<|Khl C (Lbe hy26) E Z E E E E E<|gO 1 E<|bK h27 fun q28 hq28 h29=>Kgj 17 [(0,S s),(1,I v_at),(4,.ptr 0 0),(5,.ptr 1 0),(8,.d (.v (.int .u8 (c22.toNat:Int)))),(60,B q28)] [.box 129 [S [],I 0,I 0,S [],I 0,I 0,S [],I 0,I 0,I 0,I 0],.box 129 [S [98,97,100],I v_at,I 0,S [],I 0,I 0,S [],I 0,I 0,I 0,I 0]] ?_ ?_
  ·refine Kqh E E (fun hb=>?_) (fun hb=>?_)
   ·have h30:=cT hq28 hb
    exact gO 18 E<|oSi h30▸⟨⟨E,E,E,E,E,E,tV⟩,[],E,.inl E⟩
   have h31:=cF hq28 hb
   refine gO 3 E<|Kgj 6 [(0,S s),(1,I v_at),(4,.ptr 0 0),(5,.ptr 1 0),(8,.d (.v (.int .u8 (c22.toNat:Int)))),(43,B false),(52,B ((((c22.toNat:Int):Int)==45)&&(decide ((wi (v_at+1):Int)<(s.length:Int)))))] [.box 129 [S [],I 0,I 0,S [],I 0,I 0,S [],I 0,I 0,I 0,I 0],.box 129 [S [98,97,100],I v_at,I 0,S [],I 0,I 0,S [],I 0,I 0,I 0,I 0]] ?_ ?_
   ·refine Kqh E E (fun hb=>?_) (fun hb=>?_)
    ·exact gO 7 E<|⟨⟨E,E,E,E,E,E,Kfh E (Kie hb),tV⟩,[],E,.inl E⟩
    exact gO 7 E<|⟨⟨E,E,E,E,E,E,Kfh E (Kif hb),tV⟩,[],E,.inl E⟩
   refine gO 1 E<|bK h31 fun q32 hq32 h33=>Kgj 6 [(0,S s),(1,I v_at),(4,.ptr 0 0),(5,.ptr 1 0),(8,.d (.v (.int .u8 (c22.toNat:Int)))),(43,B false),(59,B q32)] [.box 129 [S [],I 0,I 0,S [],I 0,I 0,S [],I 0,I 0,I 0,I 0],.box 129 [S [98,97,100],I v_at,I 0,S [],I 0,I 0,S [],I 0,I 0,I 0,I 0]] ?_ ?_
   ·refine Kqh E E (fun hb=>?_) (fun hb=>?_)
    ·have h34:=cT hq32 hb
     exact bK h34 fun c35 hc35 h36=>gO 3 E<|Kqf E<|eo_o E (Kgv hΓ hc35 E E E E)<|bK h36 fun y37 hy37 h38=>Kqf E<|Khl C (Lbe hy37) E Z E E E E E<|gO 2 E<|oSi h38▸⟨⟨E,E,E,E,E,E,E,tV⟩,[],E,.inl E⟩
    have h39:=cF hq32 hb
    exact gO 7 E<|oSi h39▸⟨⟨E,E,E,E,E,E,E,tV⟩,[],E,.inl E⟩
   exact gO 2 E<|oSi h33▸⟨⟨E,E,E,E,E,E,tV⟩,[],E,.inl E⟩
  refine gO 3 E<|Kgd E (fun hb=>?_) (fun hb=>?_)
  ·have h40:=cT h29 hb
   exact bK h40 fun y41 hy41 h42=>gA 2 E<|Khk [1] (.tup []) [.box 129 [S [],I 0,I 0,S [],I 0,I 0,S [],I 0,I 0,I 0,I 0],.box 129 [S y41.kind,I y41.v_at,I y41.v_end,S y41.name,I y41.value.Kind,I y41.value.Number,S y41.value.Words,I y41.value.Version.1,I y41.value.Version.2.1,I y41.value.Version.2.2.1,I y41.value.Version.2.2.2]] C (Lbi hy41) E Z E E E E E E E E E E<|gO 2 E<|oSi h42▸⟨⟨E,E,tV⟩,[],E,.inl E⟩
  have h43:=cF h29 hb
  refine gA 7 E<|Kgd E (fun hb=>?_) (fun hb=>?_)
  ·have h44:=cT h43 hb
   exact bK h44 fun y45 hy45 h46=>gA 2 E<|Khk [1] (.tup []) [.box 129 [S [],I 0,I 0,S [],I 0,I 0,S [],I 0,I 0,I 0,I 0],.box 129 [S y45.kind,I y45.v_at,I y45.v_end,S y45.name,I y45.value.Kind,I y45.value.Number,S y45.value.Words,I y45.value.Version.1,I y45.value.Version.2.1,I y45.value.Version.2.2.1,I y45.value.Version.2.2.2]] C (Lbj hy45) E Z E E E E E E E E E E<|gO 2 E<|oSi h46▸⟨⟨E,E,tV⟩,[],E,.inl E⟩
  have h47:=cF h43 hb
  refine bK h47 fun z48 hz48 h49=>gA 4 E<|eo_o E (Kgx hΓ hz48 E E E E E)<|bK h49 fun y50 hy50 h51=>Khl C (Lbk hy50) E Z E E E E E<|gO 3 E<|Kgd E (fun hb=>?_) (fun hb=>?_)
  ·have h52:=cT h51 hb
   exact bK h52 fun y53 hy53 h54=>gA 2 E<|Khk [1] (.tup []) [.box 129 [S [],I 0,I 0,S [],I 0,I 0,S [],I 0,I 0,I 0,I 0],.box 129 [S y53.kind,I y53.v_at,I y53.v_end,S y53.name,I y53.value.Kind,I y53.value.Number,S y53.value.Words,I y53.value.Version.1,I y53.value.Version.2.1,I y53.value.Version.2.2.1,I y53.value.Version.2.2.2]] C (Lbm hy53) E Z E E E E E E E E E E<|gO 2 E<|oSi h54▸⟨⟨E,E,tV⟩,[],E,.inl E⟩
  have h55:=cF h51 hb
  refine gA 5 E<|Kgj 3 [(0,S s),(4,.ptr 0 0),(5,.ptr 1 0),(81,B ((decide (((c22.toNat:Int):Int)≥97))&&(decide (((c22.toNat:Int):Int)≤122))))] [.box 129 [S [],I 0,I 0,S [],I 0,I 0,S [],I 0,I 0,I 0,I 0],.box 129 [S [98,97,100],I v_at,I 0,S [],I 0,I 0,S [],I 0,I 0,I 0,I 0]] ?_ ?_
  ·refine Kqh E E (fun hb=>?_) (fun hb=>?_)
   ·exact gO 4 E<|⟨⟨E,E,E,Kfh E (Kie hb),tV⟩,[],E,.inl E⟩
   exact gO 4 E<|⟨⟨E,E,E,Kfh E (Kif hb),tV⟩,[],E,.inl E⟩
  refine gO 3 E<|jC E h55 (fun h56=>?_) fun h59=>gA 2 E<|oSi h59▸⟨⟨E,E,tV⟩,[],E,.inl E⟩
  exact bK h56 fun y57 hy57 h58=>gA 2 E<|Khk [1] (.tup []) [.box 129 [S [],I 0,I 0,S [],I 0,I 0,S [],I 0,I 0,I 0,I 0],.box 129 [S y57.kind,I y57.v_at,I y57.v_end,S y57.name,I y57.value.Kind,I y57.value.Number,S y57.value.Words,I y57.value.Version.1,I y57.value.Version.2.1,I y57.value.Version.2.2.1,I y57.value.Version.2.2.2]] C (Lbo hy57) E Z E E E E E E E E E E<|gO 2 E<|oSi h58▸⟨⟨E,E,tV⟩,[],E,.inl E⟩
 exact gA 4 E<|Krs hΓ E E E E E E E E Z<|Kht [.box 129 [S q24.kind,I q24.v_at,I q24.v_end,S q24.name,I q24.value.Kind,I q24.value.Number,S q24.value.Words,I q24.value.Version.1,I q24.value.Version.2.1,I q24.value.Version.2.2.1,I q24.value.Version.2.2.2],.box 129 [S q24.kind,I q24.v_at,I q24.v_end,S q24.name,I q24.value.Kind,I q24.value.Number,S q24.value.Words,I q24.value.Version.1,I q24.value.Version.2.1,I q24.value.Version.2.2.1,I q24.value.Version.2.2.2]] E<|gO 3 E<|oSi h25▸gP E E
theorem Lbq{k:Nat}{p:Kxf}{r:Kxf}(h:Laf k p=some r):EC Tryz.prog 81 [.ptr 0 0] [.box 131 [S p.s,S p.tok.kind,I p.tok.v_at,I p.tok.v_end,S p.tok.name,I p.tok.value.Kind,I p.tok.value.Number,S p.tok.value.Words,I p.tok.value.Version.1,I p.tok.value.Version.2.1,I p.tok.value.Version.2.2.1,I p.tok.value.Version.2.2.2,B p.bad,I p.v_at]] fun g hp'=>g=.tup []∧hp'=[.box 131 [S r.s,S r.tok.kind,I r.tok.v_at,I r.tok.v_end,S r.tok.name,I r.tok.value.Kind,I r.tok.value.Number,S r.tok.value.Words,I r.tok.value.Version.1,I r.tok.value.Version.2.1,I r.tok.value.Version.2.2.1,I r.tok.value.Version.2.2.2,B r.bad,I r.v_at]]:=by
 unfold Laf at h
 refine QN Tryz.func81 E Z<|gA 11 E<|bK h fun q4 hq4 h5=>Kkb [(0,.ptr 0 0),(2,I q4)] [.box 131 [S p.s,S p.tok.kind,I p.tok.v_at,I p.tok.v_end,S p.tok.name,I p.tok.value.Kind,I p.tok.value.Number,S p.tok.value.Words,I p.tok.value.Version.1,I p.tok.value.Version.2.1,I p.tok.value.Version.2.2.1,I p.tok.value.Version.2.2.2,B p.bad,I p.v_at]] ?_ ?_
 ·refine gA 1 E<|Kgq hq4 (fun s2=>[(0,.ptr 0 0),(2,I s2)]) (fun s2=>[.box 131 [S p.s,S p.tok.kind,I p.tok.v_at,I p.tok.v_end,S p.tok.name,I p.tok.value.Kind,I p.tok.value.Number,S p.tok.value.Words,I p.tok.value.Version.1,I p.tok.value.Version.2.1,I p.tok.value.Version.2.2.1,I p.tok.value.Version.2.2.2,B p.bad,I p.v_at]]) ⟨⟨E,E,tV⟩,[],E,.inl E⟩ (fun s2 y10 hy8 hout9=>?_)
  refine gA 11 E<|bK hy8 fun q11 hq11 h12=>Kgj 17 [(0,.ptr 0 0),(2,I s2),(32,B q11)] [.box 131 [S p.s,S p.tok.kind,I p.tok.v_at,I p.tok.v_end,S p.tok.name,I p.tok.value.Kind,I p.tok.value.Number,S p.tok.value.Words,I p.tok.value.Version.1,I p.tok.value.Version.2.1,I p.tok.value.Version.2.2.1,I p.tok.value.Version.2.2.2,B p.bad,I p.v_at]] ?_ ?_
  ·refine Kqh E E (fun hb=>?_) (fun hb=>?_)
   ·have h13:=cT hq11 hb
    refine bK h13 fun c14 hc14 h15=>gO 5 E<|Kqf E<|eo_o E (Kgv hΓ hc14 E E E E)<|gO 2 E<|bK h15 fun q16 hq16 h17=>Kgj 8 [(0,.ptr 0 0),(2,I s2),(15,B true),(31,B q16)] [.box 131 [S p.s,S p.tok.kind,I p.tok.v_at,I p.tok.v_end,S p.tok.name,I p.tok.value.Kind,I p.tok.value.Number,S p.tok.value.Words,I p.tok.value.Version.1,I p.tok.value.Version.2.1,I p.tok.value.Version.2.2.1,I p.tok.value.Version.2.2.2,B p.bad,I p.v_at]] ?_ ?_
    ·refine Kqh E E (fun hb=>?_) (fun hb=>?_)
     ·have h18:=cT hq16 hb
      exact gO 9 E<|oSi h18▸⟨⟨E,E,E,E,tV⟩,[],E,.inl E⟩
     have h19:=cF hq16 hb
     exact bK h19 fun c20 hc20 h21=>gO 5 E<|Kqf E<|eo_o E (Kgv hΓ hc20 E E E E)<|gO 3 E<|oSi h21▸⟨⟨E,E,E,E,tV⟩,[],E,.inl E⟩
    exact gO 2 E<|oSi h17▸⟨⟨E,E,E,tV⟩,[],E,.inl E⟩
   have h22:=cF hq11 hb
   exact gO 18 E<|oSi h22▸⟨⟨E,E,E,tV⟩,[],E,.inl E⟩
  refine gO 2 E<|jC E h12 (fun h23=>?_) fun h24=>gA 4 E ?_
  ·exact gA 9 E<|oSi h23▸⟨_,E,⟨⟨E,E,tV⟩,[],E,.inl E⟩⟩
  cases h24
  obtain rfl:=hout9 _ rfl
  exact⟨⟨E,E,tV⟩,[],E,.inl E⟩
 exact bK h5 fun y25 hy25 h26=>gA 8 E<|Khl C (Lbp hy25) E Z E E E E E<|gO 2 E<|Krs hΓ E E E E E E E E Z<|Kht [.box 131 [S p.s,S y25.kind,I y25.v_at,I y25.v_end,S y25.name,I y25.value.Kind,I y25.value.Number,S y25.value.Words,I y25.value.Version.1,I y25.value.Version.2.1,I y25.value.Version.2.2.1,I y25.value.Version.2.2.2,B p.bad,I p.v_at]] E<|gO 1 E<|oSi h26▸Khy hΓ [] (.inl E) E E E E (.inl E)
theorem Lbr{p:Kxf}{r:Kxg×Kxf}(h:Lag p=some r):EC Tryz.prog 83 [.ptr 0 0] [.box 131 [S p.s,S p.tok.kind,I p.tok.v_at,I p.tok.v_end,S p.tok.name,I p.tok.value.Kind,I p.tok.value.Number,S p.tok.value.Words,I p.tok.value.Version.1,I p.tok.value.Version.2.1,I p.tok.value.Version.2.2.1,I p.tok.value.Version.2.2.2,B p.bad,I p.v_at]] fun g hp'=>g=.agg [I r.1.Kind,S r.1.Name,S r.1.Op,I r.1.Value.Kind,I r.1.Value.Number,S r.1.Value.Words,I r.1.Value.Version.1,I r.1.Value.Version.2.1,I r.1.Value.Version.2.2.1,I r.1.Value.Version.2.2.2,.d (.ro r.1.Kids.n r.1.Kids.xs)]∧hp'=[.box 131 [S r.2.s,S r.2.tok.kind,I r.2.tok.v_at,I r.2.tok.v_end,S r.2.tok.name,I r.2.tok.value.Kind,I r.2.tok.value.Number,S r.2.tok.value.Words,I r.2.tok.value.Version.1,I r.2.tok.value.Version.2.1,I r.2.tok.value.Version.2.2.1,I r.2.tok.value.Version.2.2.2,B r.2.bad,I r.2.v_at]]:=by
 unfold Lag at h
 refine QN Tryz.func83 E Z<|gA 2 E<|Krn hΓ E E E Z<|bK h fun q1 hq1 h2=>gO 12 E<|Kkb [(2,.ptr 1 0)] [.box 131 [S q1.s,S q1.tok.kind,I q1.tok.v_at,I q1.tok.v_end,S q1.tok.name,I q1.tok.value.Kind,I q1.tok.value.Number,S q1.tok.value.Words,I q1.tok.value.Version.1,I q1.tok.value.Version.2.1,I q1.tok.value.Version.2.2.1,I q1.tok.value.Version.2.2.2,B q1.bad,I q1.v_at],.box 32 [I 0,S [],S [],I 0,I 0,S [],I 0,I 0,I 0,I 0,.d (.ro (KD.mk 0 []).n (KD.mk 0 []).xs)]] ?_ ?_
 ·refine jC E hq1 (fun h3=>?_) fun h4=>gA 1 E<|oSi h4▸⟨⟨E,tV⟩,[],E,.inl E⟩
  exact gA 10 E<|Krs hΓ E E E E E E E E Z<|Kht [.box 131 [S p.s,S p.tok.kind,I p.tok.v_at,I p.tok.v_end,S p.tok.name,I p.tok.value.Kind,I p.tok.value.Number,S p.tok.value.Words,I p.tok.value.Version.1,I p.tok.value.Version.2.1,I p.tok.value.Version.2.2.1,I p.tok.value.Version.2.2.2,B true,I p.v_at],.box 32 [I 0,S [],S [],I 0,I 0,S [],I 0,I 0,I 0,I 0,.d (.ro (KD.mk 0 []).n (KD.mk 0 []).xs)]] E<|gO 2 E<|Krs hΓ E E E E E E E E Z<|Kht [.box 131 [S p.s,S p.tok.kind,I p.tok.v_at,I p.tok.v_end,S p.tok.name,I p.tok.value.Kind,I p.tok.value.Number,S p.tok.value.Words,I p.tok.value.Version.1,I p.tok.value.Version.2.1,I p.tok.value.Version.2.2.1,I p.tok.value.Version.2.2.2,B true,I p.tok.v_at],.box 32 [I 0,S [],S [],I 0,I 0,S [],I 0,I 0,I 0,I 0,.d (.ro (KD.mk 0 []).n (KD.mk 0 []).xs)]] E<|gO 1 E<|oSi h3▸⟨⟨E,tV⟩,[],E,.inl E⟩
 exact gA 3 E<|Kec hΓ (gs:=[I 0,S [],S [],I 0,I 0,S [],I 0,I 0,I 0,I 0,.d (.ro (KD.mk 0 []).n (KD.mk 0 []).xs)]) E E E E E E E<|Krs hΓ E E E E E E E E Z<|Kht [.box 131 [S q1.s,S q1.tok.kind,I q1.tok.v_at,I q1.tok.v_end,S q1.tok.name,I q1.tok.value.Kind,I q1.tok.value.Number,S q1.tok.value.Words,I q1.tok.value.Version.1,I q1.tok.value.Version.2.1,I q1.tok.value.Version.2.2.1,I q1.tok.value.Version.2.2.2,B q1.bad,I q1.v_at],.box 32 [I 0,S [],S [],I 0,I 0,S [],I 0,I 0,I 0,I 0,.d (.ro (KD.mk 0 []).n (KD.mk 0 []).xs)]] E<|gO 3 E<|oSi h2▸Khy hΓ [_] (.inr E) E E E E (.inr ⟨HB.mk E,E⟩)
theorem Lbs{s:List Str}{v:Str}{r:Int}(h:Lah s v=some r):Pure Tryz.prog 172 [.d (Sl eS s),S v] (I r):=by
 unfold Lah at h
 refine QP Tryz.func172 E E E<|gA 13 E<|bK h fun q4 hq4 h5=>Kgt 0 E fun hb7=>Kka (R:=fun a6=>q4=.go a6) (fun a6=>[]) (fun a6=>[]) ?_ ?_
 ·refine gA 1 E<|Kgs s hq4 (fun i1 s2=>[(0,.d (Sl eS s)),(1,S v),(7,I (s.length:Int)),(8,I (i1:Int))]) (fun s2=>[]) ⟨⟨E,E,E,E,tV⟩,[],E,.inl E⟩ (fun i1 x3 s2 y11 hx8 hlt hy9 hout10=>?_) (fun s2 hgo=>?_)
  ·refine gA 6 E<|Kge E (dT (Int.ofNat_lt.2 hlt))<|gA 15 E<|eo_o E (Kgu hΓ (enc:=eS) (Kgn hx8) E E E E E (fun _=>E))<|gO 4 E<|jC E hy9 (fun h12=>?_) fun h15=>gA 7 E ?_
   ·refine gA 9 E<|bK h12 fun v13 hv13 h14=>?_
    cases h14
    obtain rfl:=hout10 _ rfl
    cases h5
    exact gA 4 E<|oSi hv13▸gP E E
   cases h15
   exact⟨_,E,⟨⟨E,E,E,Kfg E (Kff (nLl hlt hb7)),tV⟩,[],E,.inl E⟩⟩
  subst hgo
  exact gA 6 E<|Kgf E (dF (Int.lt_irrefl _))<|gA 4 E<|⟨_,E,⟨tV,[],E,.inl E⟩⟩
 intro a6 ha
 subst ha
 replace h5:=Kjv h5
 exact gA 7 E<|oSi h5▸gP E E
theorem Lbt{s:List Str}{v:Str}{r:Bool}(h:Lai s v=some r):Pure Tryz.prog 227 [.d (Sl eS s),S v] (B r):=by
 unfold Lai at h
 exact QP Tryz.func227 E E E<|bK h fun y1 hy1 h2=>gA 9 E<|Khl C (Lbs hy1) E Z E E E E E<|gO 5 E<|oSi h2▸gP E E
theorem Lbu{op:Str}{r:Bool}(h:Laj op=some r):Pure Tryz.prog 220 [S op] (B r):=by
 unfold Laj at h
 exact QP Tryz.func220 E E E<|gA 7 E<|Khf hΓ (enc:=eS) [[61,61],[33,61],[60],[60,61],[62],[62,61]] E E E E E E E E E E E E Z<|bK h fun y1 hy1 h2=>gO 1 E<|Khl C (Lbt hy1) E Z E E E E E<|gO 4 E<|oSi h2▸gP E E
theorem Lbv{k:Nat}{p:Kxf}{r:Kxg×Kxf}(h:Lak k p=some r):EC Tryz.prog 283 [.ptr 0 0] [.box 131 [S p.s,S p.tok.kind,I p.tok.v_at,I p.tok.v_end,S p.tok.name,I p.tok.value.Kind,I p.tok.value.Number,S p.tok.value.Words,I p.tok.value.Version.1,I p.tok.value.Version.2.1,I p.tok.value.Version.2.2.1,I p.tok.value.Version.2.2.2,B p.bad,I p.v_at]] fun g hp'=>g=.agg [I r.1.Kind,S r.1.Name,S r.1.Op,I r.1.Value.Kind,I r.1.Value.Number,S r.1.Value.Words,I r.1.Value.Version.1,I r.1.Value.Version.2.1,I r.1.Value.Version.2.2.1,I r.1.Value.Version.2.2.2,.d (.ro r.1.Kids.n r.1.Kids.xs)]∧hp'=[.box 131 [S r.2.s,S r.2.tok.kind,I r.2.tok.v_at,I r.2.tok.v_end,S r.2.tok.name,I r.2.tok.value.Kind,I r.2.tok.value.Number,S r.2.tok.value.Words,I r.2.tok.value.Version.1,I r.2.tok.value.Version.2.1,I r.2.tok.value.Version.2.2.1,I r.2.tok.value.Version.2.2.2,B r.2.bad,I r.2.v_at]]:=by
 unfold Lak at h
 refine QN Tryz.func283 E Z<|gA 2 E<|Krn hΓ E E E Z<|gO 9 E<|Kec hΓ (gs:=[I 3,I 1,S [],I 0,I 0,I 0,I 0]) E E E E E E E<|Kec hΓ (gs:=[I 1,S p.tok.name,S [61,61],I 3,I 1,S [],I 0,I 0,I 0,I 0,.d (.ro (KD.mk 0 []).n (KD.mk 0 []).xs)]) E E E E E E E<|Krn hΓ E E E Z<|Krs hΓ E E E E E E E E Z<|Kht [.box 131 [S p.s,S p.tok.kind,I p.tok.v_at,I p.tok.v_end,S p.tok.name,I p.tok.value.Kind,I p.tok.value.Number,S p.tok.value.Words,I p.tok.value.Version.1,I p.tok.value.Version.2.1,I p.tok.value.Version.2.2.1,I p.tok.value.Version.2.2.2,B p.bad,I p.v_at],.box 32 [I 0,S [],S [],I 0,I 0,S [],I 0,I 0,I 0,I 0,.d (.ro (KD.mk 0 []).n (KD.mk 0 []).xs)],.box 32 [I 1,S p.tok.name,S [61,61],I 3,I 1,S [],I 0,I 0,I 0,I 0,.d (.ro (KD.mk 0 []).n (KD.mk 0 []).xs)]] E<|bK h fun y1 hy1 h2=>gO 5 E<|Khk [0] (.tup []) [.box 131 [S y1.s,S y1.tok.kind,I y1.tok.v_at,I y1.tok.v_end,S y1.tok.name,I y1.tok.value.Kind,I y1.tok.value.Number,S y1.tok.value.Words,I y1.tok.value.Version.1,I y1.tok.value.Version.2.1,I y1.tok.value.Version.2.2.1,I y1.tok.value.Version.2.2.2,B y1.bad,I y1.v_at],.box 32 [I 0,S [],S [],I 0,I 0,S [],I 0,I 0,I 0,I 0,.d (.ro (KD.mk 0 []).n (KD.mk 0 []).xs)],.box 32 [I 1,S p.tok.name,S [61,61],I 3,I 1,S [],I 0,I 0,I 0,I 0,.d (.ro (KD.mk 0 []).n (KD.mk 0 []).xs)]] C (Lbq hy1) E Z E E E E E E E E E E<|bK h2 fun y3 hy3 h4=>gO 10 E<|Khl C (Lbu hy3) E Z E E E E E<|gO 3 E<|jC E h4 (fun h5=>?_) fun h6=>gA 10 E<|Krs hΓ E E E E E E E E Z<|Kht [.box 131 [S y1.s,S y1.tok.kind,I y1.tok.v_at,I y1.tok.v_end,S y1.tok.name,I y1.tok.value.Kind,I y1.tok.value.Number,S y1.tok.value.Words,I y1.tok.value.Version.1,I y1.tok.value.Version.2.1,I y1.tok.value.Version.2.2.1,I y1.tok.value.Version.2.2.2,B y1.bad,I y1.v_at],.box 32 [I 0,S [],S [],I 0,I 0,S [],I 0,I 0,I 0,I 0,.d (.ro (KD.mk 0 []).n (KD.mk 0 []).xs)],.box 32 [I 1,S p.tok.name,S y1.tok.kind,I 3,I 1,S [],I 0,I 0,I 0,I 0,.d (.ro (KD.mk 0 []).n (KD.mk 0 []).xs)]] E<|bK h6 fun y7 hy7 h8=>gO 5 E<|Khk [0] (.tup []) [.box 131 [S y7.s,S y7.tok.kind,I y7.tok.v_at,I y7.tok.v_end,S y7.tok.name,I y7.tok.value.Kind,I y7.tok.value.Number,S y7.tok.value.Words,I y7.tok.value.Version.1,I y7.tok.value.Version.2.1,I y7.tok.value.Version.2.2.1,I y7.tok.value.Version.2.2.2,B y7.bad,I y7.v_at],.box 32 [I 0,S [],S [],I 0,I 0,S [],I 0,I 0,I 0,I 0,.d (.ro (KD.mk 0 []).n (KD.mk 0 []).xs)],.box 32 [I 1,S p.tok.name,S y1.tok.kind,I 3,I 1,S [],I 0,I 0,I 0,I 0,.d (.ro (KD.mk 0 []).n (KD.mk 0 []).xs)]] C (Lbq hy7) E Z E E E E E E E E E E<|gO 13 E<|jC E h8 (fun h9=>?_) fun h12=>?_
 ·exact gA 3 E<|Krs hΓ E E E E E E E E Z<|Kht [.box 131 [S y1.s,S y1.tok.kind,I y1.tok.v_at,I y1.tok.v_end,S y1.tok.name,I y1.tok.value.Kind,I y1.tok.value.Number,S y1.tok.value.Words,I y1.tok.value.Version.1,I y1.tok.value.Version.2.1,I y1.tok.value.Version.2.2.1,I y1.tok.value.Version.2.2.2,B y1.bad,I y1.v_at],.box 32 [I 1,S p.tok.name,S [61,61],I 3,I 1,S [],I 0,I 0,I 0,I 0,.d (.ro (KD.mk 0 []).n (KD.mk 0 []).xs)],.box 32 [I 1,S p.tok.name,S [61,61],I 3,I 1,S [],I 0,I 0,I 0,I 0,.d (.ro (KD.mk 0 []).n (KD.mk 0 []).xs)]] E<|gO 4 E<|oSi h5▸Khy hΓ [_,_] (.inr E) E E E E (.inr ⟨HB.mk E,E⟩)
 ·exact bK h9 fun y10 hy10 h11=>gA 3 E<|Khk [0] (.agg [I y10.1.Kind,S y10.1.Name,S y10.1.Op,I y10.1.Value.Kind,I y10.1.Value.Number,S y10.1.Value.Words,I y10.1.Value.Version.1,I y10.1.Value.Version.2.1,I y10.1.Value.Version.2.2.1,I y10.1.Value.Version.2.2.2,.d (.ro y10.1.Kids.n y10.1.Kids.xs)]) [.box 131 [S y10.2.s,S y10.2.tok.kind,I y10.2.tok.v_at,I y10.2.tok.v_end,S y10.2.tok.name,I y10.2.tok.value.Kind,I y10.2.tok.value.Number,S y10.2.tok.value.Words,I y10.2.tok.value.Version.1,I y10.2.tok.value.Version.2.1,I y10.2.tok.value.Version.2.2.1,I y10.2.tok.value.Version.2.2.2,B y10.2.bad,I y10.2.v_at],.box 32 [I 0,S [],S [],I 0,I 0,S [],I 0,I 0,I 0,I 0,.d (.ro (KD.mk 0 []).n (KD.mk 0 []).xs)],.box 32 [I 1,S p.tok.name,S y1.tok.kind,I 3,I 1,S [],I 0,I 0,I 0,I 0,.d (.ro (KD.mk 0 []).n (KD.mk 0 []).xs)]] C (Lbr hy10) E Z E E E E E E E E E E<|Krs hΓ E E E E E E E E Z<|Kht [.box 131 [S y10.2.s,S y10.2.tok.kind,I y10.2.tok.v_at,I y10.2.tok.v_end,S y10.2.tok.name,I y10.2.tok.value.Kind,I y10.2.tok.value.Number,S y10.2.tok.value.Words,I y10.2.tok.value.Version.1,I y10.2.tok.value.Version.2.1,I y10.2.tok.value.Version.2.2.1,I y10.2.tok.value.Version.2.2.2,B y10.2.bad,I y10.2.v_at],.box 32 [I y10.1.Kind,S y10.1.Name,S y10.1.Op,I y10.1.Value.Kind,I y10.1.Value.Number,S y10.1.Value.Words,I y10.1.Value.Version.1,I y10.1.Value.Version.2.1,I y10.1.Value.Version.2.2.1,I y10.1.Value.Version.2.2.2,.d (.ro y10.1.Kids.n y10.1.Kids.xs)],.box 32 [I 1,S p.tok.name,S y1.tok.kind,I 3,I 1,S [],I 0,I 0,I 0,I 0,.d (.ro (KD.mk 0 []).n (KD.mk 0 []).xs)]] E<|gO 4 E<|oSi h11▸Khy hΓ [_,_] (.inr E) E E E E (.inr ⟨HB.mk E,E⟩)
 exact gA 10 E<|Krs hΓ E E E E E E E E Z<|Kht [.box 131 [S y7.s,S y7.tok.kind,I y7.tok.v_at,I y7.tok.v_end,S y7.tok.name,I y7.tok.value.Kind,I y7.tok.value.Number,S y7.tok.value.Words,I y7.tok.value.Version.1,I y7.tok.value.Version.2.1,I y7.tok.value.Version.2.2.1,I y7.tok.value.Version.2.2.2,B y7.bad,I y7.v_at],.box 32 [I 0,S [],S [],I 0,I 0,S [],I 0,I 0,I 0,I 0,.d (.ro (KD.mk 0 []).n (KD.mk 0 []).xs)],.box 32 [I 1,S p.tok.name,S y1.tok.kind,I y7.tok.value.Kind,I y7.tok.value.Number,S y7.tok.value.Words,I y7.tok.value.Version.1,I y7.tok.value.Version.2.1,I y7.tok.value.Version.2.2.1,I y7.tok.value.Version.2.2.2,.d (.ro (KD.mk 0 []).n (KD.mk 0 []).xs)]] E<|bK h12 fun y13 hy13 h14=>gO 5 E<|Khk [0] (.tup []) [.box 131 [S y13.s,S y13.tok.kind,I y13.tok.v_at,I y13.tok.v_end,S y13.tok.name,I y13.tok.value.Kind,I y13.tok.value.Number,S y13.tok.value.Words,I y13.tok.value.Version.1,I y13.tok.value.Version.2.1,I y13.tok.value.Version.2.2.1,I y13.tok.value.Version.2.2.2,B y13.bad,I y13.v_at],.box 32 [I 0,S [],S [],I 0,I 0,S [],I 0,I 0,I 0,I 0,.d (.ro (KD.mk 0 []).n (KD.mk 0 []).xs)],.box 32 [I 1,S p.tok.name,S y1.tok.kind,I y7.tok.value.Kind,I y7.tok.value.Number,S y7.tok.value.Words,I y7.tok.value.Version.1,I y7.tok.value.Version.2.1,I y7.tok.value.Version.2.2.1,I y7.tok.value.Version.2.2.2,.d (.ro (KD.mk 0 []).n (KD.mk 0 []).xs)]] C (Lbq hy13) E Z E E E E E E E E E E<|gO 5 E<|Krs hΓ E E E E E E E E Z<|Kht [.box 131 [S y13.s,S y13.tok.kind,I y13.tok.v_at,I y13.tok.v_end,S y13.tok.name,I y13.tok.value.Kind,I y13.tok.value.Number,S y13.tok.value.Words,I y13.tok.value.Version.1,I y13.tok.value.Version.2.1,I y13.tok.value.Version.2.2.1,I y13.tok.value.Version.2.2.2,B y13.bad,I y13.v_at],.box 32 [I 1,S p.tok.name,S y1.tok.kind,I y7.tok.value.Kind,I y7.tok.value.Number,S y7.tok.value.Words,I y7.tok.value.Version.1,I y7.tok.value.Version.2.1,I y7.tok.value.Version.2.2.1,I y7.tok.value.Version.2.2.2,.d (.ro (KD.mk 0 []).n (KD.mk 0 []).xs)],.box 32 [I 1,S p.tok.name,S y1.tok.kind,I y7.tok.value.Kind,I y7.tok.value.Number,S y7.tok.value.Words,I y7.tok.value.Version.1,I y7.tok.value.Version.2.1,I y7.tok.value.Version.2.2.1,I y7.tok.value.Version.2.2.2,.d (.ro (KD.mk 0 []).n (KD.mk 0 []).xs)]] E<|gO 3 E<|oSi h14▸Khy hΓ [_,_] (.inr E) E E E E (.inr ⟨HB.mk E,E⟩)
theorem Lbw{rc_posture_parser_cond:Kxf→Option (Kxg×Kxf)}(ih_posture_parser_cond:∀ {p:Kxf} {r:Kxg×Kxf},rc_posture_parser_cond p=some r→EC Tryz.prog 82 [.ptr 0 0] [.box 131 [S p.s,S p.tok.kind,I p.tok.v_at,I p.tok.v_end,S p.tok.name,I p.tok.value.Kind,I p.tok.value.Number,S p.tok.value.Words,I p.tok.value.Version.1,I p.tok.value.Version.2.1,I p.tok.value.Version.2.2.1,I p.tok.value.Version.2.2.2,B p.bad,I p.v_at]] fun g hp'=>g=.agg [I r.1.Kind,S r.1.Name,S r.1.Op,I r.1.Value.Kind,I r.1.Value.Number,S r.1.Value.Words,I r.1.Value.Version.1,I r.1.Value.Version.2.1,I r.1.Value.Version.2.2.1,I r.1.Value.Version.2.2.2,.d (.ro r.1.Kids.n r.1.Kids.xs)]∧hp'=[.box 131 [S r.2.s,S r.2.tok.kind,I r.2.tok.v_at,I r.2.tok.v_end,S r.2.tok.name,I r.2.tok.value.Kind,I r.2.tok.value.Number,S r.2.tok.value.Words,I r.2.tok.value.Version.1,I r.2.tok.value.Version.2.1,I r.2.tok.value.Version.2.2.1,I r.2.tok.value.Version.2.2.2,B r.2.bad,I r.2.v_at]]){k:Nat}{p:Kxf}{r:Kxg×Kxf}(h:Lal rc_posture_parser_cond k p=some r):EC Tryz.prog 218 [.ptr 0 0] [.box 131 [S p.s,S p.tok.kind,I p.tok.v_at,I p.tok.v_end,S p.tok.name,I p.tok.value.Kind,I p.tok.value.Number,S p.tok.value.Words,I p.tok.value.Version.1,I p.tok.value.Version.2.1,I p.tok.value.Version.2.2.1,I p.tok.value.Version.2.2.2,B p.bad,I p.v_at]] fun g hp'=>g=.agg [I r.1.Kind,S r.1.Name,S r.1.Op,I r.1.Value.Kind,I r.1.Value.Number,S r.1.Value.Words,I r.1.Value.Version.1,I r.1.Value.Version.2.1,I r.1.Value.Version.2.2.1,I r.1.Value.Version.2.2.2,.d (.ro r.1.Kids.n r.1.Kids.xs)]∧hp'=[.box 131 [S r.2.s,S r.2.tok.kind,I r.2.tok.v_at,I r.2.tok.v_end,S r.2.tok.name,I r.2.tok.value.Kind,I r.2.tok.value.Number,S r.2.tok.value.Words,I r.2.tok.value.Version.1,I r.2.tok.value.Version.2.1,I r.2.tok.value.Version.2.2.1,I r.2.tok.value.Version.2.2.2,B r.2.bad,I r.2.v_at]]:=by
 induction k generalizing p r with
 | zero=>unfold Lal at h;cases h
 | succ k ih0=>
  have ih:∀ {p:Kxf} {r:Kxg×Kxf},Lal rc_posture_parser_cond k p=some r→EC Tryz.prog 218 [.ptr 0 0] [.box 131 [S p.s,S p.tok.kind,I p.tok.v_at,I p.tok.v_end,S p.tok.name,I p.tok.value.Kind,I p.tok.value.Number,S p.tok.value.Words,I p.tok.value.Version.1,I p.tok.value.Version.2.1,I p.tok.value.Version.2.2.1,I p.tok.value.Version.2.2.2,B p.bad,I p.v_at]] fun g hp'=>g=.agg [I r.1.Kind,S r.1.Name,S r.1.Op,I r.1.Value.Kind,I r.1.Value.Number,S r.1.Value.Words,I r.1.Value.Version.1,I r.1.Value.Version.2.1,I r.1.Value.Version.2.2.1,I r.1.Value.Version.2.2.2,.d (.ro r.1.Kids.n r.1.Kids.xs)]∧hp'=[.box 131 [S r.2.s,S r.2.tok.kind,I r.2.tok.v_at,I r.2.tok.v_end,S r.2.tok.name,I r.2.tok.value.Kind,I r.2.tok.value.Number,S r.2.tok.value.Words,I r.2.tok.value.Version.1,I r.2.tok.value.Version.2.1,I r.2.tok.value.Version.2.2.1,I r.2.tok.value.Version.2.2.2,B r.2.bad,I r.2.v_at]]:=by intro p r h;first | exact ih0 h | exact ih0 _ _ h
  refine Kpz (Fr.of 0 _) Tryz.func218 E (Fr.of_ok _) Z fun _=>?_
  refine Kgc ?_
  unfold Lal at h
  refine gA 2 E ?_
  refine Krn hΓ E E E Z ?_
  refine gO 19 E ?_
  refine Kgd E (fun hb=>?_) (fun hb=>?_)
  ·have h1:=cT h hb
   obtain⟨y2,hy2,h3⟩:=Kgk h1
   refine gA 3 E ?_
   refine Khk [0] (.tup []) [.box 131 [S y2.s,S y2.tok.kind,I y2.tok.v_at,I y2.tok.v_end,S y2.tok.name,I y2.tok.value.Kind,I y2.tok.value.Number,S y2.tok.value.Words,I y2.tok.value.Version.1,I y2.tok.value.Version.2.1,I y2.tok.value.Version.2.2.1,I y2.tok.value.Version.2.2.2,B y2.bad,I y2.v_at],.box 32 [I 0,S [],S [],I 0,I 0,S [],I 0,I 0,I 0,I 0,.d (.ro (KD.mk 0 []).n (KD.mk 0 []).xs)]] C (Lbq hy2) E Z E E E E E E E E E E ?_
   obtain⟨y4,hy4,h5⟩:=Kgk h3
   refine gO 5 E ?_
   refine Khk [0] (.agg [I y4.1.Kind,S y4.1.Name,S y4.1.Op,I y4.1.Value.Kind,I y4.1.Value.Number,S y4.1.Value.Words,I y4.1.Value.Version.1,I y4.1.Value.Version.2.1,I y4.1.Value.Version.2.2.1,I y4.1.Value.Version.2.2.2,.d (.ro y4.1.Kids.n y4.1.Kids.xs)]) [.box 131 [S y4.2.s,S y4.2.tok.kind,I y4.2.tok.v_at,I y4.2.tok.v_end,S y4.2.tok.name,I y4.2.tok.value.Kind,I y4.2.tok.value.Number,S y4.2.tok.value.Words,I y4.2.tok.value.Version.1,I y4.2.tok.value.Version.2.1,I y4.2.tok.value.Version.2.2.1,I y4.2.tok.value.Version.2.2.2,B y4.2.bad,I y4.2.v_at],.box 32 [I 0,S [],S [],I 0,I 0,S [],I 0,I 0,I 0,I 0,.d (.ro (KD.mk 0 []).n (KD.mk 0 []).xs)]] C (ih hy4) E Z E E E E E E E E E E ?_
   refine Khf hΓ (enc:=Kxh) [y4.1] E E E E E E E E E E E E Z ?_
   refine Kec hΓ (gs:=[I 2,S [],S [],I 0,I 0,S [],I 0,I 0,I 0,I 0,.d (.ro (pk Kxh [y4.1]).n (pk Kxh [y4.1]).xs)]) E E E E E E E ?_
   refine Krs hΓ E E E E E E E E Z ?_
   refine Kht [.box 131 [S y4.2.s,S y4.2.tok.kind,I y4.2.tok.v_at,I y4.2.tok.v_end,S y4.2.tok.name,I y4.2.tok.value.Kind,I y4.2.tok.value.Number,S y4.2.tok.value.Words,I y4.2.tok.value.Version.1,I y4.2.tok.value.Version.2.1,I y4.2.tok.value.Version.2.2.1,I y4.2.tok.value.Version.2.2.2,B y4.2.bad,I y4.2.v_at],.box 32 [I 2,S [],S [],I 0,I 0,S [],I 0,I 0,I 0,I 0,.d (.ro (pk Kxh [y4.1]).n (pk Kxh [y4.1]).xs)]] E ?_
   refine gO 5 E ?_
   obtain rfl:=oSi h5
   exact Khy hΓ [_] (.inr E) E E E E (.inr ⟨HB.mk E,E⟩)
  have h6:=cF h hb
  refine gA 6 E ?_
  refine Kgd E (fun hb=>?_) (fun hb=>?_)
  ·have h7:=cT h6 hb
   obtain⟨y8,hy8,h9⟩:=Kgk h7
   refine gA 3 E ?_
   refine Khk [0] (.tup []) [.box 131 [S y8.s,S y8.tok.kind,I y8.tok.v_at,I y8.tok.v_end,S y8.tok.name,I y8.tok.value.Kind,I y8.tok.value.Number,S y8.tok.value.Words,I y8.tok.value.Version.1,I y8.tok.value.Version.2.1,I y8.tok.value.Version.2.2.1,I y8.tok.value.Version.2.2.2,B y8.bad,I y8.v_at],.box 32 [I 0,S [],S [],I 0,I 0,S [],I 0,I 0,I 0,I 0,.d (.ro (KD.mk 0 []).n (KD.mk 0 []).xs)]] C (Lbq hy8) E Z E E E E E E E E E E ?_
   obtain⟨y10,hy10,h11⟩:=Kgk h9
   refine gO 5 E ?_
   refine Khk [0] (.agg [I y10.1.Kind,S y10.1.Name,S y10.1.Op,I y10.1.Value.Kind,I y10.1.Value.Number,S y10.1.Value.Words,I y10.1.Value.Version.1,I y10.1.Value.Version.2.1,I y10.1.Value.Version.2.2.1,I y10.1.Value.Version.2.2.2,.d (.ro y10.1.Kids.n y10.1.Kids.xs)]) [.box 131 [S y10.2.s,S y10.2.tok.kind,I y10.2.tok.v_at,I y10.2.tok.v_end,S y10.2.tok.name,I y10.2.tok.value.Kind,I y10.2.tok.value.Number,S y10.2.tok.value.Words,I y10.2.tok.value.Version.1,I y10.2.tok.value.Version.2.1,I y10.2.tok.value.Version.2.2.1,I y10.2.tok.value.Version.2.2.2,B y10.2.bad,I y10.2.v_at],.box 32 [I 0,S [],S [],I 0,I 0,S [],I 0,I 0,I 0,I 0,.d (.ro (KD.mk 0 []).n (KD.mk 0 []).xs)]] C (ih_posture_parser_cond hy10) E Z E E E E E E E E E E ?_
   refine Krn hΓ E E E Z ?_
   refine Krs hΓ E E E E E E E E Z ?_
   refine Kht [.box 131 [S y10.2.s,S y10.2.tok.kind,I y10.2.tok.v_at,I y10.2.tok.v_end,S y10.2.tok.name,I y10.2.tok.value.Kind,I y10.2.tok.value.Number,S y10.2.tok.value.Words,I y10.2.tok.value.Version.1,I y10.2.tok.value.Version.2.1,I y10.2.tok.value.Version.2.2.1,I y10.2.tok.value.Version.2.2.2,B y10.2.bad,I y10.2.v_at],.box 32 [I 0,S [],S [],I 0,I 0,S [],I 0,I 0,I 0,I 0,.d (.ro (KD.mk 0 []).n (KD.mk 0 []).xs)],.box 32 [I y10.1.Kind,S y10.1.Name,S y10.1.Op,I y10.1.Value.Kind,I y10.1.Value.Number,S y10.1.Value.Words,I y10.1.Value.Version.1,I y10.1.Value.Version.2.1,I y10.1.Value.Version.2.2.1,I y10.1.Value.Version.2.2.2,.d (.ro y10.1.Kids.n y10.1.Kids.xs)]] E ?_
   refine gO 11 E ?_
   refine Kgd E (fun hb=>?_) (fun hb=>?_)
   ·have h12:=cT h11 hb
    refine gA 3 E ?_
    refine Krs hΓ E E E E E E E E Z ?_
    refine Kht [.box 131 [S y10.2.s,S y10.2.tok.kind,I y10.2.tok.v_at,I y10.2.tok.v_end,S y10.2.tok.name,I y10.2.tok.value.Kind,I y10.2.tok.value.Number,S y10.2.tok.value.Words,I y10.2.tok.value.Version.1,I y10.2.tok.value.Version.2.1,I y10.2.tok.value.Version.2.2.1,I y10.2.tok.value.Version.2.2.2,B y10.2.bad,I y10.2.v_at],.box 32 [I y10.1.Kind,S y10.1.Name,S y10.1.Op,I y10.1.Value.Kind,I y10.1.Value.Number,S y10.1.Value.Words,I y10.1.Value.Version.1,I y10.1.Value.Version.2.1,I y10.1.Value.Version.2.2.1,I y10.1.Value.Version.2.2.2,.d (.ro y10.1.Kids.n y10.1.Kids.xs)],.box 32 [I y10.1.Kind,S y10.1.Name,S y10.1.Op,I y10.1.Value.Kind,I y10.1.Value.Number,S y10.1.Value.Words,I y10.1.Value.Version.1,I y10.1.Value.Version.2.1,I y10.1.Value.Version.2.2.1,I y10.1.Value.Version.2.2.2,.d (.ro y10.1.Kids.n y10.1.Kids.xs)]] E ?_
    refine gO 6 E ?_
    obtain rfl:=oSi h12
    exact Khy hΓ [_,_] (.inr E) E E E E (.inr ⟨HB.mk E,E⟩)
   have h13:=cF h11 hb
   refine gA 13 E ?_
   refine Kgd E (fun hb=>?_) (fun hb=>?_)
   ·have h14:=cT h13 hb
    obtain⟨y15,hy15,h16⟩:=Kgk h14
    refine gA 3 E ?_
    refine Khk [0] (.agg [I y15.1.Kind,S y15.1.Name,S y15.1.Op,I y15.1.Value.Kind,I y15.1.Value.Number,S y15.1.Value.Words,I y15.1.Value.Version.1,I y15.1.Value.Version.2.1,I y15.1.Value.Version.2.2.1,I y15.1.Value.Version.2.2.2,.d (.ro y15.1.Kids.n y15.1.Kids.xs)]) [.box 131 [S y15.2.s,S y15.2.tok.kind,I y15.2.tok.v_at,I y15.2.tok.v_end,S y15.2.tok.name,I y15.2.tok.value.Kind,I y15.2.tok.value.Number,S y15.2.tok.value.Words,I y15.2.tok.value.Version.1,I y15.2.tok.value.Version.2.1,I y15.2.tok.value.Version.2.2.1,I y15.2.tok.value.Version.2.2.2,B y15.2.bad,I y15.2.v_at],.box 32 [I 0,S [],S [],I 0,I 0,S [],I 0,I 0,I 0,I 0,.d (.ro (KD.mk 0 []).n (KD.mk 0 []).xs)],.box 32 [I y10.1.Kind,S y10.1.Name,S y10.1.Op,I y10.1.Value.Kind,I y10.1.Value.Number,S y10.1.Value.Words,I y10.1.Value.Version.1,I y10.1.Value.Version.2.1,I y10.1.Value.Version.2.2.1,I y10.1.Value.Version.2.2.2,.d (.ro y10.1.Kids.n y10.1.Kids.xs)]] C (Lbr hy15) E Z E E E E E E E E E E ?_
    refine Krs hΓ E E E E E E E E Z ?_
    refine Kht [.box 131 [S y15.2.s,S y15.2.tok.kind,I y15.2.tok.v_at,I y15.2.tok.v_end,S y15.2.tok.name,I y15.2.tok.value.Kind,I y15.2.tok.value.Number,S y15.2.tok.value.Words,I y15.2.tok.value.Version.1,I y15.2.tok.value.Version.2.1,I y15.2.tok.value.Version.2.2.1,I y15.2.tok.value.Version.2.2.2,B y15.2.bad,I y15.2.v_at],.box 32 [I y15.1.Kind,S y15.1.Name,S y15.1.Op,I y15.1.Value.Kind,I y15.1.Value.Number,S y15.1.Value.Words,I y15.1.Value.Version.1,I y15.1.Value.Version.2.1,I y15.1.Value.Version.2.2.1,I y15.1.Value.Version.2.2.2,.d (.ro y15.1.Kids.n y15.1.Kids.xs)],.box 32 [I y10.1.Kind,S y10.1.Name,S y10.1.Op,I y10.1.Value.Kind,I y10.1.Value.Number,S y10.1.Value.Words,I y10.1.Value.Version.1,I y10.1.Value.Version.2.1,I y10.1.Value.Version.2.2.1,I y10.1.Value.Version.2.2.2,.d (.ro y10.1.Kids.n y10.1.Kids.xs)]] E ?_
    refine gO 6 E ?_
    obtain rfl:=oSi h16
    exact Khy hΓ [_,_] (.inr E) E E E E (.inr ⟨HB.mk E,E⟩)
   have h17:=cF h13 hb
   obtain⟨y18,hy18,h19⟩:=Kgk h17
   refine gA 5 E ?_
   refine Khk [0] (.tup []) [.box 131 [S y18.s,S y18.tok.kind,I y18.tok.v_at,I y18.tok.v_end,S y18.tok.name,I y18.tok.value.Kind,I y18.tok.value.Number,S y18.tok.value.Words,I y18.tok.value.Version.1,I y18.tok.value.Version.2.1,I y18.tok.value.Version.2.2.1,I y18.tok.value.Version.2.2.2,B y18.bad,I y18.v_at],.box 32 [I 0,S [],S [],I 0,I 0,S [],I 0,I 0,I 0,I 0,.d (.ro (KD.mk 0 []).n (KD.mk 0 []).xs)],.box 32 [I y10.1.Kind,S y10.1.Name,S y10.1.Op,I y10.1.Value.Kind,I y10.1.Value.Number,S y10.1.Value.Words,I y10.1.Value.Version.1,I y10.1.Value.Version.2.1,I y10.1.Value.Version.2.2.1,I y10.1.Value.Version.2.2.2,.d (.ro y10.1.Kids.n y10.1.Kids.xs)]] C (Lbq hy18) E Z E E E E E E E E E E ?_
   refine gO 5 E ?_
   refine Krs hΓ E E E E E E E E Z ?_
   refine Kht [.box 131 [S y18.s,S y18.tok.kind,I y18.tok.v_at,I y18.tok.v_end,S y18.tok.name,I y18.tok.value.Kind,I y18.tok.value.Number,S y18.tok.value.Words,I y18.tok.value.Version.1,I y18.tok.value.Version.2.1,I y18.tok.value.Version.2.2.1,I y18.tok.value.Version.2.2.2,B y18.bad,I y18.v_at],.box 32 [I y10.1.Kind,S y10.1.Name,S y10.1.Op,I y10.1.Value.Kind,I y10.1.Value.Number,S y10.1.Value.Words,I y10.1.Value.Version.1,I y10.1.Value.Version.2.1,I y10.1.Value.Version.2.2.1,I y10.1.Value.Version.2.2.2,.d (.ro y10.1.Kids.n y10.1.Kids.xs)],.box 32 [I y10.1.Kind,S y10.1.Name,S y10.1.Op,I y10.1.Value.Kind,I y10.1.Value.Number,S y10.1.Value.Words,I y10.1.Value.Version.1,I y10.1.Value.Version.2.1,I y10.1.Value.Version.2.2.1,I y10.1.Value.Version.2.2.2,.d (.ro y10.1.Kids.n y10.1.Kids.xs)]] E ?_
   refine gO 5 E ?_
   obtain rfl:=oSi h19
   exact Khy hΓ [_,_] (.inr E) E E E E (.inr ⟨HB.mk E,E⟩)
  have h20:=cF h6 hb
  refine gA 6 E ?_
  refine Kgd E (fun hb=>?_) (fun hb=>?_)
  ·have h21:=cT h20 hb
   obtain⟨y22,hy22,h23⟩:=Kgk h21
   refine gA 3 E ?_
   refine Khk [0] (.agg [I y22.1.Kind,S y22.1.Name,S y22.1.Op,I y22.1.Value.Kind,I y22.1.Value.Number,S y22.1.Value.Words,I y22.1.Value.Version.1,I y22.1.Value.Version.2.1,I y22.1.Value.Version.2.2.1,I y22.1.Value.Version.2.2.2,.d (.ro y22.1.Kids.n y22.1.Kids.xs)]) [.box 131 [S y22.2.s,S y22.2.tok.kind,I y22.2.tok.v_at,I y22.2.tok.v_end,S y22.2.tok.name,I y22.2.tok.value.Kind,I y22.2.tok.value.Number,S y22.2.tok.value.Words,I y22.2.tok.value.Version.1,I y22.2.tok.value.Version.2.1,I y22.2.tok.value.Version.2.2.1,I y22.2.tok.value.Version.2.2.2,B y22.2.bad,I y22.2.v_at],.box 32 [I 0,S [],S [],I 0,I 0,S [],I 0,I 0,I 0,I 0,.d (.ro (KD.mk 0 []).n (KD.mk 0 []).xs)]] C (Lbv hy22) E Z E E E E E E E E E E ?_
   refine Krs hΓ E E E E E E E E Z ?_
   refine Kht [.box 131 [S y22.2.s,S y22.2.tok.kind,I y22.2.tok.v_at,I y22.2.tok.v_end,S y22.2.tok.name,I y22.2.tok.value.Kind,I y22.2.tok.value.Number,S y22.2.tok.value.Words,I y22.2.tok.value.Version.1,I y22.2.tok.value.Version.2.1,I y22.2.tok.value.Version.2.2.1,I y22.2.tok.value.Version.2.2.2,B y22.2.bad,I y22.2.v_at],.box 32 [I y22.1.Kind,S y22.1.Name,S y22.1.Op,I y22.1.Value.Kind,I y22.1.Value.Number,S y22.1.Value.Words,I y22.1.Value.Version.1,I y22.1.Value.Version.2.1,I y22.1.Value.Version.2.2.1,I y22.1.Value.Version.2.2.2,.d (.ro y22.1.Kids.n y22.1.Kids.xs)]] E ?_
   refine gO 5 E ?_
   obtain rfl:=oSi h23
   exact Khy hΓ [_] (.inr E) E E E E (.inr ⟨HB.mk E,E⟩)
  have h24:=cF h20 hb
  obtain⟨y25,hy25,h26⟩:=Kgk h24
  refine gA 6 E ?_
  refine Khk [0] (.agg [I y25.1.Kind,S y25.1.Name,S y25.1.Op,I y25.1.Value.Kind,I y25.1.Value.Number,S y25.1.Value.Words,I y25.1.Value.Version.1,I y25.1.Value.Version.2.1,I y25.1.Value.Version.2.2.1,I y25.1.Value.Version.2.2.2,.d (.ro y25.1.Kids.n y25.1.Kids.xs)]) [.box 131 [S y25.2.s,S y25.2.tok.kind,I y25.2.tok.v_at,I y25.2.tok.v_end,S y25.2.tok.name,I y25.2.tok.value.Kind,I y25.2.tok.value.Number,S y25.2.tok.value.Words,I y25.2.tok.value.Version.1,I y25.2.tok.value.Version.2.1,I y25.2.tok.value.Version.2.2.1,I y25.2.tok.value.Version.2.2.2,B y25.2.bad,I y25.2.v_at],.box 32 [I 0,S [],S [],I 0,I 0,S [],I 0,I 0,I 0,I 0,.d (.ro (KD.mk 0 []).n (KD.mk 0 []).xs)]] C (Lbr hy25) E Z E E E E E E E E E E ?_
  refine Krs hΓ E E E E E E E E Z ?_
  refine Kht [.box 131 [S y25.2.s,S y25.2.tok.kind,I y25.2.tok.v_at,I y25.2.tok.v_end,S y25.2.tok.name,I y25.2.tok.value.Kind,I y25.2.tok.value.Number,S y25.2.tok.value.Words,I y25.2.tok.value.Version.1,I y25.2.tok.value.Version.2.1,I y25.2.tok.value.Version.2.2.1,I y25.2.tok.value.Version.2.2.2,B y25.2.bad,I y25.2.v_at],.box 32 [I y25.1.Kind,S y25.1.Name,S y25.1.Op,I y25.1.Value.Kind,I y25.1.Value.Number,S y25.1.Value.Words,I y25.1.Value.Version.1,I y25.1.Value.Version.2.1,I y25.1.Value.Version.2.2.1,I y25.1.Value.Version.2.2.2,.d (.ro y25.1.Kids.n y25.1.Kids.xs)]] E ?_
  refine gO 3 E ?_
  obtain rfl:=oSi h26
  exact Khy hΓ [_] (.inr E) E E E E (.inr ⟨HB.mk E,E⟩)
theorem Lbx{kind:Int}{l:List Kxg}{r:Kxg}(h:Lam kind l=some r):Pure Tryz.prog 163 [I kind,.d (Sl Kxh l)] (.agg [I r.Kind,S r.Name,S r.Op,I r.Value.Kind,I r.Value.Number,S r.Value.Words,I r.Value.Version.1,I r.Value.Version.2.1,I r.Value.Version.2.2.1,I r.Value.Version.2.2.2,.d (.ro r.Kids.n r.Kids.xs)]):=by
 unfold Lam at h
 refine QP Tryz.func163 E E E<|gA 2 E<|Krn hΓ E E E Z<|gO 10 E<|jC E h (fun h1=>?_) fun h4=>gA 5 E<|eo_s Z (nblt.1 E) (Kkt 32 11 10 (OpP.s (Kkr hΓ [10] (gs:=[I kind,S [],S [],I 0,I 0,S [],I 0,I 0,I 0,I 0,.d (.v (.slice none 0 0))]) E E E E E E)) E)<|Krn hΓ E E E Z<|Krs hΓ E E E E E E E E Z<|Kht [.box 32 [I 0,S [],S [],I 0,I 0,S [],I 0,I 0,I 0,I 0,.d (.ro (KD.mk 0 []).n (KD.mk 0 []).xs)],rO 32 11 Kxh ([]:List Kxg),.box 32 [I kind,S [],S [],I 0,I 0,S [],I 0,I 0,I 0,I 0,.sl 1 ([]:List Kxg).length]] E<|gO 10 E<|bK h4 fun q8 hq8 h9=>Kgt 16 E fun hb11=>Kkb [(4,.ptr 0 0),(5,.ptr 2 0)] [.box 32 [I 0,S [],S [],I 0,I 0,S [],I 0,I 0,I 0,I 0,.d (.ro (KD.mk 0 []).n (KD.mk 0 []).xs)],rO 32 11 Kxh q8,.box 32 [I kind,S [],S [],I 0,I 0,S [],I 0,I 0,I 0,I 0,.sl 1 q8.length]] ?_ ?_
 ·exact bK h1 fun x2 hx2 h3=>gA 3 E<|eo_o E (Kgu hΓ (enc:=Kxh) hx2 E E E E E (fun _=>E))<|gO 1 E<|Krs hΓ E E E E E E E E Z<|Kht [.box 32 [I x2.Kind,S x2.Name,S x2.Op,I x2.Value.Kind,I x2.Value.Number,S x2.Value.Words,I x2.Value.Version.1,I x2.Value.Version.2.1,I x2.Value.Version.2.2.1,I x2.Value.Version.2.2.2,.d (.ro x2.Kids.n x2.Kids.xs)]] E<|gO 4 E<|oSi h3▸gP E E
 ·refine gA 1 E<|Kia l hq8 (fun i5 s6=>[(0,I kind),(4,.ptr 0 0),(5,.ptr 2 0),(16,.d (Sl Kxh l)),(17,I (l.length:Int)),(18,I (i5:Int))]) (fun s6=>[.box 32 [I 0,S [],S [],I 0,I 0,S [],I 0,I 0,I 0,I 0,.d (.ro (KD.mk 0 []).n (KD.mk 0 []).xs)],rO 32 11 Kxh s6,.box 32 [I kind,S [],S [],I 0,I 0,S [],I 0,I 0,I 0,I 0,.sl 1 s6.length]]) ⟨⟨E,E,E,E,E,E,tV⟩,[],E,.inl E⟩ (fun i5 x7 s6 y15 hx12 hlt hy13=>?_) (?_)
  ·refine gA 6 E<|Kge E (dT (Int.ofNat_lt.2 hlt))<|gA 6 E<|eo_o E (Kgu hΓ (enc:=Kxh) (Kgn hx12) E E E E E (fun _=>E))<|gO 1 E<|Krn hΓ E E E Z<|Krs hΓ E E E E E E E E Z<|Kht [.box 32 [I 0,S [],S [],I 0,I 0,S [],I 0,I 0,I 0,I 0,.d (.ro (KD.mk 0 []).n (KD.mk 0 []).xs)],rO 32 11 Kxh s6,.box 32 [I kind,S [],S [],I 0,I 0,S [],I 0,I 0,I 0,I 0,.sl 1 s6.length],.box 32 [I x7.Kind,S x7.Name,S x7.Op,I x7.Value.Kind,I x7.Value.Number,S x7.Value.Words,I x7.Value.Version.1,I x7.Value.Version.2.1,I x7.Value.Version.2.2.1,I x7.Value.Version.2.2.2,.d (.ro x7.Kids.n x7.Kids.xs)]] E<|gO 10 E<|jC E hy13 (fun h16=>?_) fun h21=>gA 4 E<|Khf hΓ (enc:=Kxh) [x7] E E E E E E E E E E E E Z<|bK h21 fun y22 hy22 h23=>Kkw 1 [.box 32 [I 0,S [],S [],I 0,I 0,S [],I 0,I 0,I 0,I 0,.d (.ro (KD.mk 0 []).n (KD.mk 0 []).xs)],rO 32 11 Kxh s6,.box 32 [I kind,S [],S [],I 0,I 0,S [],I 0,I 0,I 0,I 0,.junk],.box 32 [I x7.Kind,S x7.Name,S x7.Op,I x7.Value.Kind,I x7.Value.Number,S x7.Value.Words,I x7.Value.Version.1,I x7.Value.Version.2.1,I x7.Value.Version.2.2.1,I x7.Value.Version.2.2.2,.d (.ro x7.Kids.n x7.Kids.xs)]] E Z<|Khu hΓ (enc:=Kxh) hy22 E E E E E E E E E (fun _=>E) E E E E<|gO 1 E<|Krs hΓ E E E E E E E E Z<|Kht [.box 32 [I 0,S [],S [],I 0,I 0,S [],I 0,I 0,I 0,I 0,.d (.ro (KD.mk 0 []).n (KD.mk 0 []).xs)],rO 32 11 Kxh y22,.box 32 [I kind,S [],S [],I 0,I 0,S [],I 0,I 0,I 0,I 0,.sl 1 y22.length],.box 32 [I x7.Kind,S x7.Name,S x7.Op,I x7.Value.Kind,I x7.Value.Number,S x7.Value.Words,I x7.Value.Version.1,I x7.Value.Version.2.1,I x7.Value.Version.2.2.1,I x7.Value.Version.2.2.2,.d (.ro x7.Kids.n x7.Kids.xs)]] E<|gO 7 E ?_
   ·refine bK h16 fun l17 hl17 h18=>gA 4 E<|eo_o E (Kly (Krb hΓ (g:=.d (.ro x7.Kids.n x7.Kids.xs)) E) (G.Le.unk Lba hl17))<|bK h18 fun y19 hy19 h20=>Kkw 1 [.box 32 [I 0,S [],S [],I 0,I 0,S [],I 0,I 0,I 0,I 0,.d (.ro (KD.mk 0 []).n (KD.mk 0 []).xs)],rO 32 11 Kxh s6,.box 32 [I kind,S [],S [],I 0,I 0,S [],I 0,I 0,I 0,I 0,.junk],.box 32 [I x7.Kind,S x7.Name,S x7.Op,I x7.Value.Kind,I x7.Value.Number,S x7.Value.Words,I x7.Value.Version.1,I x7.Value.Version.2.1,I x7.Value.Version.2.2.1,I x7.Value.Version.2.2.2,.d (.ro x7.Kids.n x7.Kids.xs)]] E Z<|Khu hΓ (enc:=Kxh) hy19 E E E E E E E E E (fun _=>E) E E E E<|gO 1 E<|Krs hΓ E E E E E E E E Z<|Kht [.box 32 [I 0,S [],S [],I 0,I 0,S [],I 0,I 0,I 0,I 0,.d (.ro (KD.mk 0 []).n (KD.mk 0 []).xs)],rO 32 11 Kxh y19,.box 32 [I kind,S [],S [],I 0,I 0,S [],I 0,I 0,I 0,I 0,.sl 1 y19.length],.box 32 [I x7.Kind,S x7.Name,S x7.Op,I x7.Value.Kind,I x7.Value.Number,S x7.Value.Words,I x7.Value.Version.1,I x7.Value.Version.2.1,I x7.Value.Version.2.2.1,I x7.Value.Version.2.2.2,.d (.ro x7.Kids.n x7.Kids.xs)]] E<|gO 7 E ?_
    cases h20
    exact⟨⟨E,E,E,E,E,Kfg E (Kff (nLl hlt hb11)),tV⟩,[_],E,.inr ⟨HB.mk E,FB.mk E,Z⟩⟩
   cases h23
   exact⟨⟨E,E,E,E,E,Kfg E (Kff (nLl hlt hb11)),tV⟩,[_],E,.inr ⟨HB.mk E,FB.mk E,Z⟩⟩
  exact gA 6 E<|Kgf E (dF (Int.lt_irrefl _))<|gA 4 E<|⟨⟨E,E,tV⟩,[],E,.inl E⟩
 exact gA 4 E<|Khr 1 [39] _ [.box 32 [I 0,S [],S [],I 0,I 0,S [],I 0,I 0,I 0,I 0,.d (.ro (KD.mk 0 []).n (KD.mk 0 []).xs)],.dead,.box 32 [I kind,S [],S [],I 0,I 0,S [],I 0,I 0,I 0,I 0,.d (.ro (pk Kxh q8).n (pk Kxh q8).xs)]] E E E Z<|Krs hΓ E E E E E E E E Z<|Kht [.box 32 [I kind,S [],S [],I 0,I 0,S [],I 0,I 0,I 0,I 0,.d (.ro (pk Kxh q8).n (pk Kxh q8).xs)],.dead,.box 32 [I kind,S [],S [],I 0,I 0,S [],I 0,I 0,I 0,I 0,.d (.ro (pk Kxh q8).n (pk Kxh q8).xs)]] E<|gO 3 E<|oSi h9▸gP E E
theorem Lby{rc_posture_parser_cond:Kxf→Option (Kxg×Kxf)}(ih_posture_parser_cond:∀ {p:Kxf} {r:Kxg×Kxf},rc_posture_parser_cond p=some r→EC Tryz.prog 82 [.ptr 0 0] [.box 131 [S p.s,S p.tok.kind,I p.tok.v_at,I p.tok.v_end,S p.tok.name,I p.tok.value.Kind,I p.tok.value.Number,S p.tok.value.Words,I p.tok.value.Version.1,I p.tok.value.Version.2.1,I p.tok.value.Version.2.2.1,I p.tok.value.Version.2.2.2,B p.bad,I p.v_at]] fun g hp'=>g=.agg [I r.1.Kind,S r.1.Name,S r.1.Op,I r.1.Value.Kind,I r.1.Value.Number,S r.1.Value.Words,I r.1.Value.Version.1,I r.1.Value.Version.2.1,I r.1.Value.Version.2.2.1,I r.1.Value.Version.2.2.2,.d (.ro r.1.Kids.n r.1.Kids.xs)]∧hp'=[.box 131 [S r.2.s,S r.2.tok.kind,I r.2.tok.v_at,I r.2.tok.v_end,S r.2.tok.name,I r.2.tok.value.Kind,I r.2.tok.value.Number,S r.2.tok.value.Words,I r.2.tok.value.Version.1,I r.2.tok.value.Version.2.1,I r.2.tok.value.Version.2.2.1,I r.2.tok.value.Version.2.2.2,B r.2.bad,I r.2.v_at]]){k:Nat}{p:Kxf}{r:Kxg×Kxf}(h:Lan rc_posture_parser_cond k p=some r):EC Tryz.prog 162 [.ptr 0 0] [.box 131 [S p.s,S p.tok.kind,I p.tok.v_at,I p.tok.v_end,S p.tok.name,I p.tok.value.Kind,I p.tok.value.Number,S p.tok.value.Words,I p.tok.value.Version.1,I p.tok.value.Version.2.1,I p.tok.value.Version.2.2.1,I p.tok.value.Version.2.2.2,B p.bad,I p.v_at]] fun g hp'=>g=.agg [I r.1.Kind,S r.1.Name,S r.1.Op,I r.1.Value.Kind,I r.1.Value.Number,S r.1.Value.Words,I r.1.Value.Version.1,I r.1.Value.Version.2.1,I r.1.Value.Version.2.2.1,I r.1.Value.Version.2.2.2,.d (.ro r.1.Kids.n r.1.Kids.xs)]∧hp'=[.box 131 [S r.2.s,S r.2.tok.kind,I r.2.tok.v_at,I r.2.tok.v_end,S r.2.tok.name,I r.2.tok.value.Kind,I r.2.tok.value.Number,S r.2.tok.value.Words,I r.2.tok.value.Version.1,I r.2.tok.value.Version.2.1,I r.2.tok.value.Version.2.2.1,I r.2.tok.value.Version.2.2.2,B r.2.bad,I r.2.v_at]]:=by
 unfold Lan at h
 refine QN Tryz.func162 E Z<|gA 2 E<|Krn hΓ E E E Z<|bK h fun y1 hy1 h2=>gO 5 E<|Khk [0] (.agg [I y1.1.Kind,S y1.1.Name,S y1.1.Op,I y1.1.Value.Kind,I y1.1.Value.Number,S y1.1.Value.Words,I y1.1.Value.Version.1,I y1.1.Value.Version.2.1,I y1.1.Value.Version.2.2.1,I y1.1.Value.Version.2.2.2,.d (.ro y1.1.Kids.n y1.1.Kids.xs)]) [.box 131 [S y1.2.s,S y1.2.tok.kind,I y1.2.tok.v_at,I y1.2.tok.v_end,S y1.2.tok.name,I y1.2.tok.value.Kind,I y1.2.tok.value.Number,S y1.2.tok.value.Words,I y1.2.tok.value.Version.1,I y1.2.tok.value.Version.2.1,I y1.2.tok.value.Version.2.2.1,I y1.2.tok.value.Version.2.2.2,B y1.2.bad,I y1.2.v_at],.box 32 [I 0,S [],S [],I 0,I 0,S [],I 0,I 0,I 0,I 0,.d (.ro (KD.mk 0 []).n (KD.mk 0 []).xs)]] C (Lbw ih_posture_parser_cond hy1) E Z E E E E E E E E E E<|Khh hΓ (enc:=Kxh) [y1.1] E E E E E E E E E E E E Z<|gO 4 E<|bK h2 fun q6 hq6 h7=>Kkb [(2,.ptr 1 0),(3,.sl 2 q6.2.length)] [.box 131 [S q6.1.s,S q6.1.tok.kind,I q6.1.tok.v_at,I q6.1.tok.v_end,S q6.1.tok.name,I q6.1.tok.value.Kind,I q6.1.tok.value.Number,S q6.1.tok.value.Words,I q6.1.tok.value.Version.1,I q6.1.tok.value.Version.2.1,I q6.1.tok.value.Version.2.2.1,I q6.1.tok.value.Version.2.2.2,B q6.1.bad,I q6.1.v_at],.box 32 [I 0,S [],S [],I 0,I 0,S [],I 0,I 0,I 0,I 0,.d (.ro (KD.mk 0 []).n (KD.mk 0 []).xs)],rO 32 11 Kxh q6.2] ?_ ?_
 ·refine gA 1 E<|Kgq hq6 (fun s4=>[(0,.ptr 0 0),(2,.ptr 1 0),(3,.sl 2 s4.2.length)]) (fun s4=>[.box 131 [S s4.1.s,S s4.1.tok.kind,I s4.1.tok.v_at,I s4.1.tok.v_end,S s4.1.tok.name,I s4.1.tok.value.Kind,I s4.1.tok.value.Number,S s4.1.tok.value.Words,I s4.1.tok.value.Version.1,I s4.1.tok.value.Version.2.1,I s4.1.tok.value.Version.2.2.1,I s4.1.tok.value.Version.2.2.2,B s4.1.bad,I s4.1.v_at],.box 32 [I 0,S [],S [],I 0,I 0,S [],I 0,I 0,I 0,I 0,.d (.ro (KD.mk 0 []).n (KD.mk 0 []).xs)],rO 32 11 Kxh s4.2]) ⟨⟨E,E,E,tV⟩,[],E,.inl E⟩ (fun s4 y12 hy10 hout11=>?_)
  refine gA 9 E<|Kgj 7 [(0,.ptr 0 0),(2,.ptr 1 0),(3,.sl 2 s4.2.length),(19,B ((!s4.1.bad)&&((s4.1.tok.kind:Str)==[38,38])))] [.box 131 [S s4.1.s,S s4.1.tok.kind,I s4.1.tok.v_at,I s4.1.tok.v_end,S s4.1.tok.name,I s4.1.tok.value.Kind,I s4.1.tok.value.Number,S s4.1.tok.value.Words,I s4.1.tok.value.Version.1,I s4.1.tok.value.Version.2.1,I s4.1.tok.value.Version.2.2.1,I s4.1.tok.value.Version.2.2.2,B s4.1.bad,I s4.1.v_at],.box 32 [I 0,S [],S [],I 0,I 0,S [],I 0,I 0,I 0,I 0,.d (.ro (KD.mk 0 []).n (KD.mk 0 []).xs)],rO 32 11 Kxh s4.2] ?_ ?_
  ·refine Kqh E E (fun hb=>?_) (fun hb=>?_)
   ·exact gO 8 E<|⟨⟨E,E,E,Kfh E (Kie hb),tV⟩,[],E,.inl E⟩
   exact gO 8 E<|⟨⟨E,E,E,Kfh E (Kif hb),tV⟩,[],E,.inl E⟩
  refine gO 2 E<|jC E hy10 (fun h13=>?_) fun h20=>gA 4 E ?_
  ·exact bK h13 fun y14 hy14 h15=>gA 6 E<|Khk [0] (.tup []) [.box 131 [S y14.s,S y14.tok.kind,I y14.tok.v_at,I y14.tok.v_end,S y14.tok.name,I y14.tok.value.Kind,I y14.tok.value.Number,S y14.tok.value.Words,I y14.tok.value.Version.1,I y14.tok.value.Version.2.1,I y14.tok.value.Version.2.2.1,I y14.tok.value.Version.2.2.2,B y14.bad,I y14.v_at],.box 32 [I 0,S [],S [],I 0,I 0,S [],I 0,I 0,I 0,I 0,.d (.ro (KD.mk 0 []).n (KD.mk 0 []).xs)],rO 32 11 Kxh s4.2] C (Lbq hy14) E Z E E E E E E E E E E<|bK h15 fun y16 hy16 h17=>gO 5 E<|Khk [0] (.agg [I y16.1.Kind,S y16.1.Name,S y16.1.Op,I y16.1.Value.Kind,I y16.1.Value.Number,S y16.1.Value.Words,I y16.1.Value.Version.1,I y16.1.Value.Version.2.1,I y16.1.Value.Version.2.2.1,I y16.1.Value.Version.2.2.2,.d (.ro y16.1.Kids.n y16.1.Kids.xs)]) [.box 131 [S y16.2.s,S y16.2.tok.kind,I y16.2.tok.v_at,I y16.2.tok.v_end,S y16.2.tok.name,I y16.2.tok.value.Kind,I y16.2.tok.value.Number,S y16.2.tok.value.Words,I y16.2.tok.value.Version.1,I y16.2.tok.value.Version.2.1,I y16.2.tok.value.Version.2.2.1,I y16.2.tok.value.Version.2.2.2,B y16.2.bad,I y16.2.v_at],.box 32 [I 0,S [],S [],I 0,I 0,S [],I 0,I 0,I 0,I 0,.d (.ro (KD.mk 0 []).n (KD.mk 0 []).xs)],rO 32 11 Kxh s4.2] C (Lbw ih_posture_parser_cond hy16) E Z E E E E E E E E E E<|Khf hΓ (enc:=Kxh) [y16.1] E E E E E E E E E E E E Z<|bK h17 fun y18 hy18 h19=>Khu hΓ (enc:=Kxh) hy18 E E E E E E E E E (fun _=>E) E E E E<|gO 3 E<|oSi h19▸⟨_,E,⟨⟨E,E,E,tV⟩,[],E,.inl E⟩⟩
  cases h20
  obtain rfl:=hout11 _ rfl
  exact⟨⟨E,E,tV⟩,[],E,.inl E⟩
 exact bK h7 fun y21 hy21 h22=>gA 4 E<|Khr 2 [3,27] _ [.box 131 [S q6.1.s,S q6.1.tok.kind,I q6.1.tok.v_at,I q6.1.tok.v_end,S q6.1.tok.name,I q6.1.tok.value.Kind,I q6.1.tok.value.Number,S q6.1.tok.value.Words,I q6.1.tok.value.Version.1,I q6.1.tok.value.Version.2.1,I q6.1.tok.value.Version.2.2.1,I q6.1.tok.value.Version.2.2.2,B q6.1.bad,I q6.1.v_at],.box 32 [I 0,S [],S [],I 0,I 0,S [],I 0,I 0,I 0,I 0,.d (.ro (KD.mk 0 []).n (KD.mk 0 []).xs)],.dead] E E E Z<|Khl C (Lbx hy21) E Z E E E E E<|Krs hΓ E E E E E E E E Z<|Kht [.box 131 [S q6.1.s,S q6.1.tok.kind,I q6.1.tok.v_at,I q6.1.tok.v_end,S q6.1.tok.name,I q6.1.tok.value.Kind,I q6.1.tok.value.Number,S q6.1.tok.value.Words,I q6.1.tok.value.Version.1,I q6.1.tok.value.Version.2.1,I q6.1.tok.value.Version.2.2.1,I q6.1.tok.value.Version.2.2.2,B q6.1.bad,I q6.1.v_at],.box 32 [I y21.Kind,S y21.Name,S y21.Op,I y21.Value.Kind,I y21.Value.Number,S y21.Value.Words,I y21.Value.Version.1,I y21.Value.Version.2.1,I y21.Value.Version.2.2.1,I y21.Value.Version.2.2.2,.d (.ro y21.Kids.n y21.Kids.xs)],.dead] E<|gO 3 E<|oSi h22▸Khy hΓ [_,_] (.inr E) E E E E (.inr ⟨HB.mk E,E⟩)
theorem Lbz{k:Nat}{p:Kxf}{r:Kxg×Kxf}(h:Lao k p=some r):EC Tryz.prog 82 [.ptr 0 0] [.box 131 [S p.s,S p.tok.kind,I p.tok.v_at,I p.tok.v_end,S p.tok.name,I p.tok.value.Kind,I p.tok.value.Number,S p.tok.value.Words,I p.tok.value.Version.1,I p.tok.value.Version.2.1,I p.tok.value.Version.2.2.1,I p.tok.value.Version.2.2.2,B p.bad,I p.v_at]] fun g hp'=>g=.agg [I r.1.Kind,S r.1.Name,S r.1.Op,I r.1.Value.Kind,I r.1.Value.Number,S r.1.Value.Words,I r.1.Value.Version.1,I r.1.Value.Version.2.1,I r.1.Value.Version.2.2.1,I r.1.Value.Version.2.2.2,.d (.ro r.1.Kids.n r.1.Kids.xs)]∧hp'=[.box 131 [S r.2.s,S r.2.tok.kind,I r.2.tok.v_at,I r.2.tok.v_end,S r.2.tok.name,I r.2.tok.value.Kind,I r.2.tok.value.Number,S r.2.tok.value.Words,I r.2.tok.value.Version.1,I r.2.tok.value.Version.2.1,I r.2.tok.value.Version.2.2.1,I r.2.tok.value.Version.2.2.2,B r.2.bad,I r.2.v_at]]:=by
 induction k generalizing p r with
 | zero=>unfold Lao at h;cases h
 | succ k ih0=>
  have ih:∀ {p:Kxf} {r:Kxg×Kxf},Lao k p=some r→EC Tryz.prog 82 [.ptr 0 0] [.box 131 [S p.s,S p.tok.kind,I p.tok.v_at,I p.tok.v_end,S p.tok.name,I p.tok.value.Kind,I p.tok.value.Number,S p.tok.value.Words,I p.tok.value.Version.1,I p.tok.value.Version.2.1,I p.tok.value.Version.2.2.1,I p.tok.value.Version.2.2.2,B p.bad,I p.v_at]] fun g hp'=>g=.agg [I r.1.Kind,S r.1.Name,S r.1.Op,I r.1.Value.Kind,I r.1.Value.Number,S r.1.Value.Words,I r.1.Value.Version.1,I r.1.Value.Version.2.1,I r.1.Value.Version.2.2.1,I r.1.Value.Version.2.2.2,.d (.ro r.1.Kids.n r.1.Kids.xs)]∧hp'=[.box 131 [S r.2.s,S r.2.tok.kind,I r.2.tok.v_at,I r.2.tok.v_end,S r.2.tok.name,I r.2.tok.value.Kind,I r.2.tok.value.Number,S r.2.tok.value.Words,I r.2.tok.value.Version.1,I r.2.tok.value.Version.2.1,I r.2.tok.value.Version.2.2.1,I r.2.tok.value.Version.2.2.2,B r.2.bad,I r.2.v_at]]:=by intro p r h;first | exact ih0 h | exact ih0 _ _ h
  refine Kpz (Fr.of 0 _) Tryz.func82 E (Fr.of_ok _) Z fun _=>?_
  refine Kgc ?_
  unfold Lao at h
  refine gA 2 E ?_
  refine Krn hΓ E E E Z ?_
  obtain⟨y1,hy1,h2⟩:=Kgk h
  refine gO 5 E ?_
  refine Khk [0] (.agg [I y1.1.Kind,S y1.1.Name,S y1.1.Op,I y1.1.Value.Kind,I y1.1.Value.Number,S y1.1.Value.Words,I y1.1.Value.Version.1,I y1.1.Value.Version.2.1,I y1.1.Value.Version.2.2.1,I y1.1.Value.Version.2.2.2,.d (.ro y1.1.Kids.n y1.1.Kids.xs)]) [.box 131 [S y1.2.s,S y1.2.tok.kind,I y1.2.tok.v_at,I y1.2.tok.v_end,S y1.2.tok.name,I y1.2.tok.value.Kind,I y1.2.tok.value.Number,S y1.2.tok.value.Words,I y1.2.tok.value.Version.1,I y1.2.tok.value.Version.2.1,I y1.2.tok.value.Version.2.2.1,I y1.2.tok.value.Version.2.2.2,B y1.2.bad,I y1.2.v_at],.box 32 [I 0,S [],S [],I 0,I 0,S [],I 0,I 0,I 0,I 0,.d (.ro (KD.mk 0 []).n (KD.mk 0 []).xs)]] C (Lby ih hy1) E Z E E E E E E E E E E ?_
  refine Khh hΓ (enc:=Kxh) [y1.1] E E E E E E E E E E E E Z ?_
  refine gO 4 E ?_
  obtain⟨q6,hq6,h7⟩:=Kgk h2
  refine Kkb [(2,.ptr 1 0),(3,.sl 2 q6.2.length)] [.box 131 [S q6.1.s,S q6.1.tok.kind,I q6.1.tok.v_at,I q6.1.tok.v_end,S q6.1.tok.name,I q6.1.tok.value.Kind,I q6.1.tok.value.Number,S q6.1.tok.value.Words,I q6.1.tok.value.Version.1,I q6.1.tok.value.Version.2.1,I q6.1.tok.value.Version.2.2.1,I q6.1.tok.value.Version.2.2.2,B q6.1.bad,I q6.1.v_at],.box 32 [I 0,S [],S [],I 0,I 0,S [],I 0,I 0,I 0,I 0,.d (.ro (KD.mk 0 []).n (KD.mk 0 []).xs)],rO 32 11 Kxh q6.2] ?_ ?_
  ·refine gA 1 E ?_
   refine Kgq hq6 (fun s4=>[(0,.ptr 0 0),(2,.ptr 1 0),(3,.sl 2 s4.2.length)]) (fun s4=>[.box 131 [S s4.1.s,S s4.1.tok.kind,I s4.1.tok.v_at,I s4.1.tok.v_end,S s4.1.tok.name,I s4.1.tok.value.Kind,I s4.1.tok.value.Number,S s4.1.tok.value.Words,I s4.1.tok.value.Version.1,I s4.1.tok.value.Version.2.1,I s4.1.tok.value.Version.2.2.1,I s4.1.tok.value.Version.2.2.2,B s4.1.bad,I s4.1.v_at],.box 32 [I 0,S [],S [],I 0,I 0,S [],I 0,I 0,I 0,I 0,.d (.ro (KD.mk 0 []).n (KD.mk 0 []).xs)],rO 32 11 Kxh s4.2]) ⟨⟨E,E,E,tV⟩,[],E,.inl E⟩ (fun s4 y12 hy10 hout11=>?_)
   refine gA 9 E ?_
   refine Kgj 7 [(0,.ptr 0 0),(2,.ptr 1 0),(3,.sl 2 s4.2.length),(19,B ((!s4.1.bad)&&((s4.1.tok.kind:Str)==[124,124])))] [.box 131 [S s4.1.s,S s4.1.tok.kind,I s4.1.tok.v_at,I s4.1.tok.v_end,S s4.1.tok.name,I s4.1.tok.value.Kind,I s4.1.tok.value.Number,S s4.1.tok.value.Words,I s4.1.tok.value.Version.1,I s4.1.tok.value.Version.2.1,I s4.1.tok.value.Version.2.2.1,I s4.1.tok.value.Version.2.2.2,B s4.1.bad,I s4.1.v_at],.box 32 [I 0,S [],S [],I 0,I 0,S [],I 0,I 0,I 0,I 0,.d (.ro (KD.mk 0 []).n (KD.mk 0 []).xs)],rO 32 11 Kxh s4.2] ?_ ?_
   ·refine Kqh E E (fun hb=>?_) (fun hb=>?_)
    ·refine gO 8 E ?_
     exact⟨⟨E,E,E,Kfh E (Kie hb),tV⟩,[],E,.inl E⟩
    refine gO 8 E ?_
    exact⟨⟨E,E,E,Kfh E (Kif hb),tV⟩,[],E,.inl E⟩
   refine gO 2 E ?_
   refine Kgd E (fun hb=>?_) (fun hb=>?_)
   ·have h13:=cT hy10 hb
    obtain⟨y14,hy14,h15⟩:=Kgk h13
    refine gA 6 E ?_
    refine Khk [0] (.tup []) [.box 131 [S y14.s,S y14.tok.kind,I y14.tok.v_at,I y14.tok.v_end,S y14.tok.name,I y14.tok.value.Kind,I y14.tok.value.Number,S y14.tok.value.Words,I y14.tok.value.Version.1,I y14.tok.value.Version.2.1,I y14.tok.value.Version.2.2.1,I y14.tok.value.Version.2.2.2,B y14.bad,I y14.v_at],.box 32 [I 0,S [],S [],I 0,I 0,S [],I 0,I 0,I 0,I 0,.d (.ro (KD.mk 0 []).n (KD.mk 0 []).xs)],rO 32 11 Kxh s4.2] C (Lbq hy14) E Z E E E E E E E E E E ?_
    obtain⟨y16,hy16,h17⟩:=Kgk h15
    refine gO 5 E ?_
    refine Khk [0] (.agg [I y16.1.Kind,S y16.1.Name,S y16.1.Op,I y16.1.Value.Kind,I y16.1.Value.Number,S y16.1.Value.Words,I y16.1.Value.Version.1,I y16.1.Value.Version.2.1,I y16.1.Value.Version.2.2.1,I y16.1.Value.Version.2.2.2,.d (.ro y16.1.Kids.n y16.1.Kids.xs)]) [.box 131 [S y16.2.s,S y16.2.tok.kind,I y16.2.tok.v_at,I y16.2.tok.v_end,S y16.2.tok.name,I y16.2.tok.value.Kind,I y16.2.tok.value.Number,S y16.2.tok.value.Words,I y16.2.tok.value.Version.1,I y16.2.tok.value.Version.2.1,I y16.2.tok.value.Version.2.2.1,I y16.2.tok.value.Version.2.2.2,B y16.2.bad,I y16.2.v_at],.box 32 [I 0,S [],S [],I 0,I 0,S [],I 0,I 0,I 0,I 0,.d (.ro (KD.mk 0 []).n (KD.mk 0 []).xs)],rO 32 11 Kxh s4.2] C (Lby ih hy16) E Z E E E E E E E E E E ?_
    refine Khf hΓ (enc:=Kxh) [y16.1] E E E E E E E E E E E E Z ?_
    obtain⟨y18,hy18,h19⟩:=Kgk h17
    refine Khu hΓ (enc:=Kxh) hy18 E E E E E E E E E (fun _=>E) E E E E ?_
    refine gO 3 E ?_
    obtain rfl:=oSi h19
    exact⟨_,E,⟨⟨E,E,E,tV⟩,[],E,.inl E⟩⟩
   have h20:=cF hy10 hb
   refine gA 4 E ?_
   obtain rfl:=oSi h20
   obtain rfl:=hout11 _ rfl
   exact⟨⟨E,E,tV⟩,[],E,.inl E⟩
  obtain⟨y21,hy21,h22⟩:=Kgk h7
  refine gA 4 E ?_
  refine Khr 2 [3,27] _ [.box 131 [S q6.1.s,S q6.1.tok.kind,I q6.1.tok.v_at,I q6.1.tok.v_end,S q6.1.tok.name,I q6.1.tok.value.Kind,I q6.1.tok.value.Number,S q6.1.tok.value.Words,I q6.1.tok.value.Version.1,I q6.1.tok.value.Version.2.1,I q6.1.tok.value.Version.2.2.1,I q6.1.tok.value.Version.2.2.2,B q6.1.bad,I q6.1.v_at],.box 32 [I 0,S [],S [],I 0,I 0,S [],I 0,I 0,I 0,I 0,.d (.ro (KD.mk 0 []).n (KD.mk 0 []).xs)],.dead] E E E Z ?_
  refine Khl C (Lbx hy21) E Z E E E E E ?_
  refine Krs hΓ E E E E E E E E Z ?_
  refine Kht [.box 131 [S q6.1.s,S q6.1.tok.kind,I q6.1.tok.v_at,I q6.1.tok.v_end,S q6.1.tok.name,I q6.1.tok.value.Kind,I q6.1.tok.value.Number,S q6.1.tok.value.Words,I q6.1.tok.value.Version.1,I q6.1.tok.value.Version.2.1,I q6.1.tok.value.Version.2.2.1,I q6.1.tok.value.Version.2.2.2,B q6.1.bad,I q6.1.v_at],.box 32 [I y21.Kind,S y21.Name,S y21.Op,I y21.Value.Kind,I y21.Value.Number,S y21.Value.Words,I y21.Value.Version.1,I y21.Value.Version.2.1,I y21.Value.Version.2.2.1,I y21.Value.Version.2.2.2,.d (.ro y21.Kids.n y21.Kids.xs)],.dead] E ?_
  refine gO 3 E ?_
  obtain rfl:=oSi h22
  exact Khy hΓ [_,_] (.inr E) E E E E (.inr ⟨HB.mk E,E⟩)
theorem Lca{k:Nat}{c:Kxg}{r:Int×Int}(h:Lap k c=some r):Pure Tryz.prog 164 [.agg [I c.Kind,S c.Name,S c.Op,I c.Value.Kind,I c.Value.Number,S c.Value.Words,I c.Value.Version.1,I c.Value.Version.2.1,I c.Value.Version.2.2.1,I c.Value.Version.2.2.2,.d (.ro c.Kids.n c.Kids.xs)]] (.tup [I r.1,I r.2]):=by
 induction k generalizing c r with
 | zero=>unfold Lap at h;cases h
 | succ k ih0=>
  have ih:∀ {c:Kxg} {r:Int×Int},Lap k c=some r→Pure Tryz.prog 164 [.agg [I c.Kind,S c.Name,S c.Op,I c.Value.Kind,I c.Value.Number,S c.Value.Words,I c.Value.Version.1,I c.Value.Version.2.1,I c.Value.Version.2.2.1,I c.Value.Version.2.2.2,.d (.ro c.Kids.n c.Kids.xs)]] (.tup [I r.1,I r.2]):=by intro c r h;first | exact ih0 h | exact ih0 _ _ h
  refine Pure.enter (Fr.of 0 _) Tryz.func164 E (Fr.of_ok _) E E ?_
  refine Kgc ?_
  unfold Lap at h
  refine gA 2 E ?_
  refine Kro E E E E Z ?_
  obtain⟨q1,hq1,h2⟩:=Kgk h
  refine gO 12 E ?_
  refine Kkb [(1,.ptr 0 0),(2,I q1),(3,I 0)] [.box 32 [I c.Kind,S c.Name,S c.Op,I c.Value.Kind,I c.Value.Number,S c.Value.Words,I c.Value.Version.1,I c.Value.Version.2.1,I c.Value.Version.2.2.1,I c.Value.Version.2.2.2,.d (.ro c.Kids.n c.Kids.xs)]] ?_ ?_
  ·refine Kgd E (fun hb=>?_) (fun hb=>?_)
   ·have h3:=cT hq1 hb
    refine gA 3 E ?_
    obtain rfl:=oSi h3
    exact⟨⟨E,E,E,tV⟩,[],E,.inl E⟩
   have h4:=cF hq1 hb
   refine gA 1 E ?_
   obtain rfl:=oSi h4
   exact⟨⟨E,E,E,tV⟩,[],E,.inl E⟩
  obtain⟨l5,hl5,h6⟩:=Kgk h2
  refine gA 5 E ?_
  refine eo_o E (Kly (Krb hΓ (g:=.d (.ro c.Kids.n c.Kids.xs)) E) (G.Le.unk Lba hl5)) ?_
  refine gO 4 E ?_
  obtain⟨q10,hq10,h11⟩:=Kgk h6
  refine Kgt 12 E fun hb13=>?_
  refine Kkb [(2,I q10.1),(3,I q10.2)] [.box 32 [I c.Kind,S c.Name,S c.Op,I c.Value.Kind,I c.Value.Number,S c.Value.Words,I c.Value.Version.1,I c.Value.Version.2.1,I c.Value.Version.2.2.1,I c.Value.Version.2.2.2,.d (.ro c.Kids.n c.Kids.xs)]] ?_ ?_
  ·refine gA 1 E ?_
   refine Kia l5 hq10 (fun i7 s8=>[(2,I s8.1),(3,I s8.2),(12,.d (Sl Kxh l5)),(13,I (l5.length:Int)),(14,I (i7:Int))]) (fun s8=>[.box 32 [I c.Kind,S c.Name,S c.Op,I c.Value.Kind,I c.Value.Number,S c.Value.Words,I c.Value.Version.1,I c.Value.Version.2.1,I c.Value.Version.2.2.1,I c.Value.Version.2.2.2,.d (.ro c.Kids.n c.Kids.xs)]]) ⟨⟨E,E,E,E,E,tV⟩,[],E,.inl E⟩ (fun i7 x9 s8 y17 hx14 hlt hy15=>?_) (?_)
   ·refine gA 6 E ?_
    refine Kge E (dT (Int.ofNat_lt.2 hlt)) ?_
    refine gA 6 E ?_
    refine eo_o E (Kgu hΓ (enc:=Kxh) (Kgn hx14) E E E E E (fun _=>E)) ?_
    refine gO 1 E ?_
    refine Krn hΓ E E E Z ?_
    refine Krs hΓ E E E E E E E E Z ?_
    refine Kht [.box 32 [I c.Kind,S c.Name,S c.Op,I c.Value.Kind,I c.Value.Number,S c.Value.Words,I c.Value.Version.1,I c.Value.Version.2.1,I c.Value.Version.2.2.1,I c.Value.Version.2.2.2,.d (.ro c.Kids.n c.Kids.xs)],.box 32 [I x9.Kind,S x9.Name,S x9.Op,I x9.Value.Kind,I x9.Value.Number,S x9.Value.Words,I x9.Value.Version.1,I x9.Value.Version.2.1,I x9.Value.Version.2.2.1,I x9.Value.Version.2.2.2,.d (.ro x9.Kids.n x9.Kids.xs)]] E ?_
    obtain⟨y18,hy18,h19⟩:=Kgk hy15
    refine gO 5 E ?_
    refine Khl C (ih hy18) E Z E E E E E ?_
    refine gO 23 E ?_
    obtain rfl:=oSi h19
    exact⟨⟨E,E,E,E,Kfg E (Kff (nLl hlt hb13)),tV⟩,[_],E,.inr ⟨HB.mk E,FB.mk E,Z⟩⟩
   refine gA 6 E ?_
   refine Kgf E (dF (Int.lt_irrefl _)) ?_
   refine gA 4 E ?_
   exact⟨⟨E,E,tV⟩,[],E,.inl E⟩
  refine gA 11 E ?_
  obtain rfl:=oSi h11
  exact gP E E
theorem Lcb{v_k:Kxg}{x:Kxg}{r:Bool}(h:Laq v_k x=some r):EC Tryz.prog 284 [.agg [I v_k.Kind,S v_k.Name,S v_k.Op,I v_k.Value.Kind,I v_k.Value.Number,S v_k.Value.Words,I v_k.Value.Version.1,I v_k.Value.Version.2.1,I v_k.Value.Version.2.2.1,I v_k.Value.Version.2.2.2,.d (.ro v_k.Kids.n v_k.Kids.xs)],.ptr 0 0] [.box 32 [I x.Kind,S x.Name,S x.Op,I x.Value.Kind,I x.Value.Number,S x.Value.Words,I x.Value.Version.1,I x.Value.Version.2.1,I x.Value.Version.2.2.1,I x.Value.Version.2.2.2,.d (.ro x.Kids.n x.Kids.xs)]] fun g hp'=>g=B r∧hp'=[.box 32 [I x.Kind,S x.Name,S x.Op,I x.Value.Kind,I x.Value.Number,S x.Value.Words,I x.Value.Version.1,I x.Value.Version.2.1,I x.Value.Version.2.2.1,I x.Value.Version.2.2.2,.d (.ro x.Kids.n x.Kids.xs)]]:=by
 unfold Laq at h
 exact QN Tryz.func284 E Z<|gA 2 E<|Kro E E E E Z<|gO 14 E<|oSi h▸Khy hΓ [_] (.inr E) E E E E (.inr ⟨HB.mk E,E⟩)
theorem Lcc{s:List Kxg}{f:Kxg}{r:Int}(h:Lar s f=some r):EC Tryz.prog 297 [.d (Sl Kxh s),.fn (.func 284) [] [.ptr 0 0]] [.box 32 [I f.Kind,S f.Name,S f.Op,I f.Value.Kind,I f.Value.Number,S f.Value.Words,I f.Value.Version.1,I f.Value.Version.2.1,I f.Value.Version.2.2.1,I f.Value.Version.2.2.2,.d (.ro f.Kids.n f.Kids.xs)]] fun g hp'=>g=I r∧hp'=[.box 32 [I f.Kind,S f.Name,S f.Op,I f.Value.Kind,I f.Value.Number,S f.Value.Words,I f.Value.Version.1,I f.Value.Version.2.1,I f.Value.Version.2.2.1,I f.Value.Version.2.2.2,.d (.ro f.Kids.n f.Kids.xs)]]:=by
 unfold Lar at h
 refine QN Tryz.func297 E Z<|gA 13 E<|bK h fun q4 hq4 h5=>Kgt 0 E fun hb7=>Kka (R:=fun a6=>q4=.go a6) (fun a6=>[]) (fun a6=>[.box 32 [I f.Kind,S f.Name,S f.Op,I f.Value.Kind,I f.Value.Number,S f.Value.Words,I f.Value.Version.1,I f.Value.Version.2.1,I f.Value.Version.2.2.1,I f.Value.Version.2.2.2,.d (.ro f.Kids.n f.Kids.xs)]]) ?_ ?_
 ·refine gA 1 E<|Kgs s hq4 (fun i1 s2=>[(0,.d (Sl Kxh s)),(1,.fn (.func 284) [] [.ptr 0 0]),(7,I (s.length:Int)),(8,I (i1:Int))]) (fun s2=>[.box 32 [I f.Kind,S f.Name,S f.Op,I f.Value.Kind,I f.Value.Number,S f.Value.Words,I f.Value.Version.1,I f.Value.Version.2.1,I f.Value.Version.2.2.1,I f.Value.Version.2.2.2,.d (.ro f.Kids.n f.Kids.xs)]]) ⟨⟨E,E,E,E,tV⟩,[],E,.inl E⟩ (fun i1 x3 s2 y11 hx8 hlt hy9 hout10=>?_) (fun s2 hgo=>?_)
  ·refine gA 6 E<|Kge E (dT (Int.ofNat_lt.2 hlt))<|gA 15 E<|eo_o E (Kgu hΓ (enc:=Kxh) (Kgn hx8) E E E E E (fun _=>E))<|bK hy9 fun y12 hy12 h13=>gO 1 E<|Khk [0] (B y12) [.box 32 [I f.Kind,S f.Name,S f.Op,I f.Value.Kind,I f.Value.Number,S f.Value.Words,I f.Value.Version.1,I f.Value.Version.2.1,I f.Value.Version.2.2.1,I f.Value.Version.2.2.2,.d (.ro f.Kids.n f.Kids.xs)]] C (Lcb hy12) E Z E E E E E E E E E E<|gO 2 E<|jC E h13 (fun h14=>?_) fun h17=>gA 7 E ?_
   ·refine gA 9 E<|bK h14 fun v15 hv15 h16=>?_
    cases h16
    obtain rfl:=hout10 _ rfl
    cases h5
    exact gA 4 E<|oSi hv15▸Khy hΓ [] (.inr E) E E E E (.inl E)
   cases h17
   exact⟨_,E,⟨⟨E,E,E,Kfg E (Kff (nLl hlt hb7)),tV⟩,[],E,.inl E⟩⟩
  subst hgo
  exact gA 6 E<|Kgf E (dF (Int.lt_irrefl _))<|gA 4 E<|⟨_,E,⟨tV,[],E,.inl E⟩⟩
 intro a6 ha
 subst ha
 replace h5:=Kjv h5
 exact gA 7 E<|oSi h5▸Khy hΓ [] (.inr E) E E E E (.inl E)
theorem Lcd{s:List Kxg}{f:Kxg}{r:Bool}(h:Las s f=some r):EC Tryz.prog 233 [.d (Sl Kxh s),.fn (.func 284) [] [.ptr 0 0]] [.box 32 [I f.Kind,S f.Name,S f.Op,I f.Value.Kind,I f.Value.Number,S f.Value.Words,I f.Value.Version.1,I f.Value.Version.2.1,I f.Value.Version.2.2.1,I f.Value.Version.2.2.2,.d (.ro f.Kids.n f.Kids.xs)]] fun g hp'=>g=B r∧hp'=[.box 32 [I f.Kind,S f.Name,S f.Op,I f.Value.Kind,I f.Value.Number,S f.Value.Words,I f.Value.Version.1,I f.Value.Version.2.1,I f.Value.Version.2.2.1,I f.Value.Version.2.2.2,.d (.ro f.Kids.n f.Kids.xs)]]:=by
 unfold Las at h
 exact QN Tryz.func233 E Z<|bK h fun y1 hy1 h2=>gA 9 E<|Khk [0] (I y1) [.box 32 [I f.Kind,S f.Name,S f.Op,I f.Value.Kind,I f.Value.Number,S f.Value.Words,I f.Value.Version.1,I f.Value.Version.2.1,I f.Value.Version.2.2.1,I f.Value.Version.2.2.2,.d (.ro f.Kids.n f.Kids.xs)]] C (Lcc hy1) E Z E E E E E E E E E E<|gO 5 E<|oSi h2▸Khy hΓ [] (.inr E) E E E E (.inl E)
theorem Lce{c:Kxg}{r:Bool}(h:Lat c=some r):Pure Tryz.prog 219 [.agg [I c.Kind,S c.Name,S c.Op,I c.Value.Kind,I c.Value.Number,S c.Value.Words,I c.Value.Version.1,I c.Value.Version.2.1,I c.Value.Version.2.2.1,I c.Value.Version.2.2.2,.d (.ro c.Kids.n c.Kids.xs)]] (B r):=by
 unfold Lat at h
 refine QP Tryz.func219 E E E<|gA 2 E<|Kro E E E E Z<|bK h fun l1 hl1 h2=>gO 6 E<|eo_o E (Kly (Krb hΓ (g:=.d (.ro c.Kids.n c.Kids.xs)) E) (G.Le.unk Lba hl1))<|bK h2 fun q3 hq3 h4=>gO 11 E<|Kkc (q:=q3) (fun a5=>[(1,.ptr 0 0)]) (fun a5=>[.box 32 [I c.Kind,S c.Name,S c.Op,I c.Value.Kind,I c.Value.Number,S c.Value.Words,I c.Value.Version.1,I c.Value.Version.2.1,I c.Value.Version.2.2.1,I c.Value.Version.2.2.2,.d (.ro c.Kids.n c.Kids.xs)]]) ?_ ?_
 ·refine gA 7 E<|jC E hq3 (fun h6=>?_) fun h9=>gA 6 E<|jC E h9 (fun h10=>?_) fun h15=>?_
  ·refine gA 9 E<|bK h6 fun v7 hv7 h8=>?_
   cases h8
   cases h4
   exact gA 2 E<|oSi hv7▸gP E E
  ·refine gA 6 E<|jC E h10 (fun h11=>?_) fun h14=>gA 2 E<|oSi h14▸⟨_,E,⟨⟨E,tV⟩,[],E,.inl E⟩⟩
   refine gA 7 E<|bK h11 fun v12 hv12 h13=>?_
   cases h13
   cases h4
   exact gA 2 E<|oSi hv12▸gP E E
  refine gA 5 E<|bK h15 fun q16 hq16 h17=>Kgj 5 [(1,.ptr 0 0),(16,B q16)] [.box 32 [I c.Kind,S c.Name,S c.Op,I c.Value.Kind,I c.Value.Number,S c.Value.Words,I c.Value.Version.1,I c.Value.Version.2.1,I c.Value.Version.2.2.1,I c.Value.Version.2.2.2,.d (.ro c.Kids.n c.Kids.xs)]] ?_ ?_
  ·refine Kqh E E (fun hb=>?_) (fun hb=>?_)
   ·have h18:=cT hq16 hb
    exact gO 6 E<|oSi h18▸⟨⟨E,E,tV⟩,[],E,.inl E⟩
   have h19:=cF hq16 hb
   exact bK h19 fun l20 hl20 h21=>gO 1 E<|Kqf E<|eo_o E (Kly (Krb hΓ (g:=.d (.ro c.Kids.n c.Kids.xs)) E) (G.Le.unk Lba hl20))<|bK h21 fun y22 hy22 h23=>gO 1 E<|Kqf E<|Khk [0] (B y22) [.box 32 [I c.Kind,S c.Name,S c.Op,I c.Value.Kind,I c.Value.Number,S c.Value.Words,I c.Value.Version.1,I c.Value.Version.2.1,I c.Value.Version.2.2.1,I c.Value.Version.2.2.2,.d (.ro c.Kids.n c.Kids.xs)]] C (Lcd hy22) E Z E E E E E E E E E E<|gO 2 E<|oSi h23▸⟨⟨E,E,tV⟩,[],E,.inl E⟩
  refine gO 2 E<|jC E h17 (fun h24=>?_) fun h27=>gA 2 E<|oSi h27▸⟨_,E,⟨⟨E,tV⟩,[],E,.inl E⟩⟩
  refine gA 7 E<|bK h24 fun v25 hv25 h26=>?_
  cases h26
  cases h4
  exact gA 2 E<|oSi hv25▸gP E E
 intro a5 ha
 subst ha
 replace h4:=Kju h4
 refine gA 7 E<|Kgj 4 [(1,.ptr 0 0),(32,B (((c.Name:Str)==[])&&((c.Op:Str)==[])))] [.box 32 [I c.Kind,S c.Name,S c.Op,I c.Value.Kind,I c.Value.Number,S c.Value.Words,I c.Value.Version.1,I c.Value.Version.2.1,I c.Value.Version.2.2.1,I c.Value.Version.2.2.2,.d (.ro c.Kids.n c.Kids.xs)]] ?_ ?_
 ·refine Kqh E E (fun hb=>?_) (fun hb=>?_)
  ·exact gO 5 E<|⟨⟨E,Kfh E (Kie hb),tV⟩,[],E,.inl E⟩
  exact gO 5 E<|⟨⟨E,Kfh E (Kif hb),tV⟩,[],E,.inl E⟩
 refine gO 1 E<|Kgj 5 [(38,B ((((c.Name:Str)==[])&&((c.Op:Str)==[]))&&(((c.Value.Kind:Int)==0)&&(((c.Value.Number:Int)==0)&&(((c.Value.Words:Str)==[])&&(decide (([c.Value.Version.1,c.Value.Version.2.1,c.Value.Version.2.2.1,c.Value.Version.2.2.2]:List Int)=[0,0,0,0])&&true))))))] [.box 32 [I c.Kind,S c.Name,S c.Op,I c.Value.Kind,I c.Value.Number,S c.Value.Words,I c.Value.Version.1,I c.Value.Version.2.1,I c.Value.Version.2.2.1,I c.Value.Version.2.2.2,.d (.ro c.Kids.n c.Kids.xs)]] ?_ ?_
 ·refine Kqh E E (fun hb=>?_) (fun hb=>?_)
  ·exact gO 2 E<|Kqf E<|Kec hΓ (gs:=[I 0,I 0,S [],I 0,I 0,I 0,I 0]) E E E E E E E<|Kqf E<|eo_o E (Koq hΓ [29] (b:=(((c.Value.Kind:Int)==0)&&(((c.Value.Number:Int)==0)&&(((c.Value.Words:Str)==[])&&(decide (([c.Value.Version.1,c.Value.Version.2.1,c.Value.Version.2.2.1,c.Value.Version.2.2.2]:List Int)=[0,0,0,0])&&true))))) (by kernel_rfl) (by kernel_rfl) E E E)<|gO 2 E<|⟨⟨Kfh E (Kie hb),tV⟩,[],E,.inl E⟩
  exact gO 6 E<|⟨⟨Kfh E (Kif hb),tV⟩,[],E,.inl E⟩
 exact gO 4 E<|oSi h4▸gP E E
theorem Lcf{k:Nat}{c:Kxg}{r:Int}(h:Lau k c=some r):Pure Tryz.prog 165 [.agg [I c.Kind,S c.Name,S c.Op,I c.Value.Kind,I c.Value.Number,S c.Value.Words,I c.Value.Version.1,I c.Value.Version.2.1,I c.Value.Version.2.2.1,I c.Value.Version.2.2.2,.d (.ro c.Kids.n c.Kids.xs)]] (I r):=by
 induction k generalizing c r with
 | zero=>unfold Lau at h;cases h
 | succ k ih0=>
  have ih:∀ {c:Kxg} {r:Int},Lau k c=some r→Pure Tryz.prog 165 [.agg [I c.Kind,S c.Name,S c.Op,I c.Value.Kind,I c.Value.Number,S c.Value.Words,I c.Value.Version.1,I c.Value.Version.2.1,I c.Value.Version.2.2.1,I c.Value.Version.2.2.2,.d (.ro c.Kids.n c.Kids.xs)]] (I r):=by intro c r h;first | exact ih0 h | exact ih0 _ _ h
  refine Pure.enter (Fr.of 0 _) Tryz.func165 E (Fr.of_ok _) E E ?_
  refine Kgc ?_
  unfold Lau at h
  refine gA 2 E ?_
  refine Kro E E E E Z ?_
  obtain⟨y1,hy1,h2⟩:=Kgk h
  refine gO 8 E ?_
  refine Khl C (Lcz hy1) E Z E E E E E ?_
  refine gO 2 E ?_
  refine Kgd E (fun hb=>?_) (fun hb=>?_)
  ·have h3:=cT h2 hb
   refine gA 7 E ?_
   obtain rfl:=oSi h3
   exact gP E E
  have h4:=cF h2 hb
  obtain⟨y5,hy5,h6⟩:=Kgk h4
  refine gA 6 E ?_
  refine Khl C (Lce hy5) E Z E E E E E ?_
  refine gO 3 E ?_
  refine Kgd E (fun hb=>?_) (fun hb=>?_)
  ·have h7:=cT h6 hb
   refine gA 7 E ?_
   obtain rfl:=oSi h7
   exact gP E E
  have h8:=cF h6 hb
  obtain⟨q9,hq9,h10⟩:=Kgk h8
  refine gA 10 E ?_
  refine Kkc (q:=q9) (fun a11=>[(1,.ptr 0 0)]) (fun a11=>[.box 32 [I c.Kind,S c.Name,S c.Op,I c.Value.Kind,I c.Value.Number,S c.Value.Words,I c.Value.Version.1,I c.Value.Version.2.1,I c.Value.Version.2.2.1,I c.Value.Version.2.2.2,.d (.ro c.Kids.n c.Kids.xs)]]) ?_ ?_
  ·refine Kgd E (fun hb=>?_) (fun hb=>?_)
   ·have h12:=cT hq9 hb
    obtain⟨y13,hy13,h14⟩:=Kgk h12
    refine gA 6 E ?_
    refine Khl C (Lcy hy13) E Z E E E E E ?_
    refine gO 2 E ?_
    refine Kgj 4 [(1,.ptr 0 0),(25,B ((!y13)||((c.Name:Str)==[116,114,117,101])))] [.box 32 [I c.Kind,S c.Name,S c.Op,I c.Value.Kind,I c.Value.Number,S c.Value.Words,I c.Value.Version.1,I c.Value.Version.2.1,I c.Value.Version.2.2.1,I c.Value.Version.2.2.2,.d (.ro c.Kids.n c.Kids.xs)]] ?_ ?_
    ·refine Kqh E E (fun hb=>?_) (fun hb=>?_)
     ·refine gO 5 E ?_
      exact⟨⟨E,Kfh E (or_t hb),tV⟩,[],E,.inl E⟩
     refine gO 5 E ?_
     exact⟨⟨E,Kfh E (or_f hb),tV⟩,[],E,.inl E⟩
    refine gO 1 E ?_
    refine Kgj 4 [(1,.ptr 0 0),(30,B (((!y13)||((c.Name:Str)==[116,114,117,101]))||((c.Name:Str)==[102,97,108,115,101])))] [.box 32 [I c.Kind,S c.Name,S c.Op,I c.Value.Kind,I c.Value.Number,S c.Value.Words,I c.Value.Version.1,I c.Value.Version.2.1,I c.Value.Version.2.2.1,I c.Value.Version.2.2.2,.d (.ro c.Kids.n c.Kids.xs)]] ?_ ?_
    ·refine Kqh E E (fun hb=>?_) (fun hb=>?_)
     ·refine gO 5 E ?_
      exact⟨⟨E,Kfh E (or_t hb),tV⟩,[],E,.inl E⟩
     refine gO 5 E ?_
     exact⟨⟨E,Kfh E (or_f hb),tV⟩,[],E,.inl E⟩
    refine gO 1 E ?_
    obtain⟨q15,hq15,h16⟩:=Kgk h14
    refine Kgj 4 [(1,.ptr 0 0),(35,B q15)] [.box 32 [I c.Kind,S c.Name,S c.Op,I c.Value.Kind,I c.Value.Number,S c.Value.Words,I c.Value.Version.1,I c.Value.Version.2.1,I c.Value.Version.2.2.1,I c.Value.Version.2.2.2,.d (.ro c.Kids.n c.Kids.xs)]] ?_ ?_
    ·refine Kqh E E (fun hb=>?_) (fun hb=>?_)
     ·have h17:=cT hq15 hb
      refine gO 5 E ?_
      obtain rfl:=oSi h17
      exact⟨⟨E,E,tV⟩,[],E,.inl E⟩
     have h18:=cF hq15 hb
     obtain⟨y19,hy19,h20⟩:=Kgk h18
     refine gO 2 E ?_
     refine Kqf E ?_
     refine Khl C (Lbk hy19) E Z E E E E E ?_
     refine gO 2 E ?_
     obtain rfl:=oSi h20
     exact⟨⟨E,E,tV⟩,[],E,.inl E⟩
    refine gO 3 E ?_
    refine Kgd E (fun hb=>?_) (fun hb=>?_)
    ·have h21:=cT h16 hb
     refine gA 8 E ?_
     obtain⟨v22,hv22,h23⟩:=Kgk h21
     obtain rfl:=oSi h23
     obtain rfl:=oSi h10
     refine gA 2 E ?_
     obtain rfl:=oSi hv22
     exact gP E E
    have h24:=cF h16 hb
    obtain⟨y25,hy25,h26⟩:=Kgk h24
    refine gA 4 E ?_
    refine Khl C (Lbu hy25) E Z E E E E E ?_
    refine gO 4 E ?_
    refine Kgd E (fun hb=>?_) (fun hb=>?_)
    ·have h27:=cT h26 hb
     refine gA 8 E ?_
     obtain⟨v28,hv28,h29⟩:=Kgk h27
     obtain rfl:=oSi h29
     obtain rfl:=oSi h10
     refine gA 2 E ?_
     obtain rfl:=oSi hv28
     exact gP E E
    have h30:=cF h26 hb
    obtain⟨y31,hy31,h32⟩:=Kgk h30
    refine gA 8 E ?_
    refine Khl C (Ldb hy31) E Z E E E E E ?_
    refine gO 9 E ?_
    refine Kgd E (fun hb=>?_) (fun hb=>?_)
    ·have h33:=cT h32 hb
     refine gA 8 E ?_
     obtain⟨v34,hv34,h35⟩:=Kgk h33
     obtain rfl:=oSi h35
     obtain rfl:=oSi h10
     refine gA 2 E ?_
     obtain rfl:=oSi hv34
     exact gP E E
    have h36:=cF h32 hb
    refine gA 9 E ?_
    refine Kgj 4 [(1,.ptr 0 0),(55,B (((c.Value.Kind:Int)==3)&&(!((c.Op:Str)==[61,61]))))] [.box 32 [I c.Kind,S c.Name,S c.Op,I c.Value.Kind,I c.Value.Number,S c.Value.Words,I c.Value.Version.1,I c.Value.Version.2.1,I c.Value.Version.2.2.1,I c.Value.Version.2.2.2,.d (.ro c.Kids.n c.Kids.xs)]] ?_ ?_
    ·refine Kqh E E (fun hb=>?_) (fun hb=>?_)
     ·refine gO 5 E ?_
      exact⟨⟨E,Kfh E (Kie hb),tV⟩,[],E,.inl E⟩
     refine gO 5 E ?_
     exact⟨⟨E,Kfh E (Kif hb),tV⟩,[],E,.inl E⟩
    refine gO 1 E ?_
    refine Kgj 4 [(1,.ptr 0 0),(60,B ((((c.Value.Kind:Int)==3)&&(!((c.Op:Str)==[61,61])))&&(!((c.Op:Str)==[33,61]))))] [.box 32 [I c.Kind,S c.Name,S c.Op,I c.Value.Kind,I c.Value.Number,S c.Value.Words,I c.Value.Version.1,I c.Value.Version.2.1,I c.Value.Version.2.2.1,I c.Value.Version.2.2.2,.d (.ro c.Kids.n c.Kids.xs)]] ?_ ?_
    ·refine Kqh E E (fun hb=>?_) (fun hb=>?_)
     ·refine gO 5 E ?_
      exact⟨⟨E,Kfh E (Kie hb),tV⟩,[],E,.inl E⟩
     refine gO 5 E ?_
     exact⟨⟨E,Kfh E (Kif hb),tV⟩,[],E,.inl E⟩
    refine gO 2 E ?_
    refine Kgd E (fun hb=>?_) (fun hb=>?_)
    ·have h37:=cT h36 hb
     refine gA 6 E ?_
     obtain⟨v38,hv38,h39⟩:=Kgk h37
     obtain rfl:=oSi h39
     obtain rfl:=oSi h10
     refine gA 2 E ?_
     obtain rfl:=oSi hv38
     exact gP E E
    have h40:=cF h36 hb
    refine gA 1 E ?_
    obtain rfl:=oSi h40
    exact⟨_,E,⟨⟨E,tV⟩,[],E,.inl E⟩⟩
   have h41:=cF hq9 hb
   refine gA 1 E ?_
   obtain rfl:=oSi h41
   exact⟨_,E,⟨⟨E,tV⟩,[],E,.inl E⟩⟩
  intro a11 ha
  subst ha
  replace h10:=Kju h10
  obtain⟨l42,hl42,h43⟩:=Kgk h10
  refine gA 5 E ?_
  refine eo_o E (Kly (Krb hΓ (g:=.d (.ro c.Kids.n c.Kids.xs)) E) (G.Le.unk Lba hl42)) ?_
  refine gO 4 E ?_
  obtain⟨q47,hq47,h48⟩:=Kgk h43
  refine Kgt 62 E fun hb50=>?_
  refine Kka (R:=fun a49=>q47=.go a49) (fun a49=>[]) (fun a49=>[.box 32 [I c.Kind,S c.Name,S c.Op,I c.Value.Kind,I c.Value.Number,S c.Value.Words,I c.Value.Version.1,I c.Value.Version.2.1,I c.Value.Version.2.2.1,I c.Value.Version.2.2.2,.d (.ro c.Kids.n c.Kids.xs)]]) ?_ ?_
  ·refine gA 1 E ?_
   refine Kgs l42 hq47 (fun i44 s45=>[(62,.d (Sl Kxh l42)),(63,I (l42.length:Int)),(64,I (i44:Int))]) (fun s45=>[.box 32 [I c.Kind,S c.Name,S c.Op,I c.Value.Kind,I c.Value.Number,S c.Value.Words,I c.Value.Version.1,I c.Value.Version.2.1,I c.Value.Version.2.2.1,I c.Value.Version.2.2.2,.d (.ro c.Kids.n c.Kids.xs)]]) ⟨⟨E,E,E,tV⟩,[],E,.inl E⟩ (fun i44 x46 s45 y54 hx51 hlt hy52 hout53=>?_) (fun s45 hgo=>?_)
   ·refine gA 6 E ?_
    refine Kge E (dT (Int.ofNat_lt.2 hlt)) ?_
    refine gA 6 E ?_
    refine eo_o E (Kgu hΓ (enc:=Kxh) (Kgn hx51) E E E E E (fun _=>E)) ?_
    refine gO 1 E ?_
    refine Krn hΓ E E E Z ?_
    refine Krs hΓ E E E E E E E E Z ?_
    refine Kht [.box 32 [I c.Kind,S c.Name,S c.Op,I c.Value.Kind,I c.Value.Number,S c.Value.Words,I c.Value.Version.1,I c.Value.Version.2.1,I c.Value.Version.2.2.1,I c.Value.Version.2.2.2,.d (.ro c.Kids.n c.Kids.xs)],.box 32 [I x46.Kind,S x46.Name,S x46.Op,I x46.Value.Kind,I x46.Value.Number,S x46.Value.Words,I x46.Value.Version.1,I x46.Value.Version.2.1,I x46.Value.Version.2.2.1,I x46.Value.Version.2.2.2,.d (.ro x46.Kids.n x46.Kids.xs)]] E ?_
    obtain⟨y55,hy55,h56⟩:=Kgk hy52
    refine gO 5 E ?_
    refine Khl C (ih hy55) E Z E E E E E ?_
    refine gO 9 E ?_
    refine Kgd E (fun hb=>?_) (fun hb=>?_)
    ·have h57:=cT h56 hb
     refine gA 9 E ?_
     obtain⟨v58,hv58,h59⟩:=Kgk h57
     obtain rfl:=oSi h59
     obtain rfl:=hout53 _ rfl
     obtain rfl:=oSi h48
     refine gA 4 E ?_
     obtain rfl:=oSi hv58
     exact gP E E
    have h60:=cF h56 hb
    refine gA 7 E ?_
    obtain rfl:=oSi h60
    exact⟨_,E,⟨⟨E,E,Kfg E (Kff (nLl hlt hb50)),tV⟩,[_],E,.inr ⟨HB.mk E,FB.mk E,Z⟩⟩⟩
   subst hgo
   refine gA 6 E ?_
   refine Kgf E (dF (Int.lt_irrefl _)) ?_
   refine gA 4 E ?_
   exact⟨_,E,⟨tV,[],E,.inl E⟩⟩
  intro a49 ha
  subst ha
  replace h48:=Kjv h48
  refine gA 7 E ?_
  obtain rfl:=oSi h48
  exact gP E E
theorem Lcg{k:Nat}{c:Kxg}{r:Int}(h:Lav k c=some r):Pure Tryz.prog 84 [.agg [I c.Kind,S c.Name,S c.Op,I c.Value.Kind,I c.Value.Number,S c.Value.Words,I c.Value.Version.1,I c.Value.Version.2.1,I c.Value.Version.2.2.1,I c.Value.Version.2.2.2,.d (.ro c.Kids.n c.Kids.xs)]] (I r):=by
 unfold Lav at h
 refine QP Tryz.func84 E E E<|gA 2 E<|Kro E E E E Z<|bK h fun y1 hy1 h2=>gO 7 E<|Khl C (Lca hy1) E Z E E E E E<|gO 12 E<|Kgj 3 [(1,.ptr 0 0),(15,B ((decide ((y1.1:Int)>100))||(decide ((y1.2:Int)>30))))] [.box 32 [I c.Kind,S c.Name,S c.Op,I c.Value.Kind,I c.Value.Number,S c.Value.Words,I c.Value.Version.1,I c.Value.Version.2.1,I c.Value.Version.2.2.1,I c.Value.Version.2.2.2,.d (.ro c.Kids.n c.Kids.xs)]] ?_ ?_
 ·refine Kqh E E (fun hb=>?_) (fun hb=>?_)
  ·exact gO 4 E<|⟨⟨E,Kfh E (or_t hb),tV⟩,[],E,.inl E⟩
  exact gO 4 E<|⟨⟨E,Kfh E (or_f hb),tV⟩,[],E,.inl E⟩
 refine gO 2 E<|jC E h2 (fun h3=>?_) fun h4=>bK h4 fun y5 hy5 h6=>gA 5 E<|Khl C (Lcf hy5) E Z E E E E E<|gO 4 E<|oSi h6▸gP E E
 exact gA 7 E<|oSi h3▸gP E E
theorem Lch{k:Nat}{text:Str}{r:Kxg×Int×Int}(h:Law k text=some r):Pure Tryz.prog 9 [S text] (.tup [.agg [I r.1.Kind,S r.1.Name,S r.1.Op,I r.1.Value.Kind,I r.1.Value.Number,S r.1.Value.Words,I r.1.Value.Version.1,I r.1.Value.Version.2.1,I r.1.Value.Version.2.2.1,I r.1.Value.Version.2.2.2,.d (.ro r.1.Kids.n r.1.Kids.xs)],I r.2.1,I r.2.2]):=by
 unfold Law at h
 refine QP Tryz.func9 E E E<|gA 2 E<|Krn hΓ E E E Z<|gO 12 E<|Kgd E (fun hb=>?_) (fun hb=>?_)
 ·have h1:=cT h hb
  exact gA 2 E<|Kec hΓ (gs:=[I 0,S [],S [],I 0,I 0,S [],I 0,I 0,I 0,I 0,.d (.ro (KD.mk 0 []).n (KD.mk 0 []).xs)]) E E E E E E E<|Krs hΓ E E E E E E E E Z<|Kht [.box 32 [I 0,S [],S [],I 0,I 0,S [],I 0,I 0,I 0,I 0,.d (.ro (KD.mk 0 []).n (KD.mk 0 []).xs)]] E<|gO 6 E<|oSi h1▸gP E E
 have h2:=cF h hb
 refine gA 5 E<|Kec hΓ (gs:=[S text,S [],I 0,I 0,S [],I 0,I 0,S [],I 0,I 0,I 0,I 0,B false,I 0]) E E E E E E E<|Kro E E E E Z<|bK h2 fun y3 hy3 h4=>gO 6 E<|Khk [1] (.tup []) [.box 32 [I 0,S [],S [],I 0,I 0,S [],I 0,I 0,I 0,I 0,.d (.ro (KD.mk 0 []).n (KD.mk 0 []).xs)],.box 131 [S y3.s,S y3.tok.kind,I y3.tok.v_at,I y3.tok.v_end,S y3.tok.name,I y3.tok.value.Kind,I y3.tok.value.Number,S y3.tok.value.Words,I y3.tok.value.Version.1,I y3.tok.value.Version.2.1,I y3.tok.value.Version.2.2.1,I y3.tok.value.Version.2.2.2,B y3.bad,I y3.v_at]] C (Lbq hy3) E Z E E E E E E E E E E<|bK h4 fun y5 hy5 h6=>gO 5 E<|Khk [1] (.agg [I y5.1.Kind,S y5.1.Name,S y5.1.Op,I y5.1.Value.Kind,I y5.1.Value.Number,S y5.1.Value.Words,I y5.1.Value.Version.1,I y5.1.Value.Version.2.1,I y5.1.Value.Version.2.2.1,I y5.1.Value.Version.2.2.2,.d (.ro y5.1.Kids.n y5.1.Kids.xs)]) [.box 32 [I 0,S [],S [],I 0,I 0,S [],I 0,I 0,I 0,I 0,.d (.ro (KD.mk 0 []).n (KD.mk 0 []).xs)],.box 131 [S y5.2.s,S y5.2.tok.kind,I y5.2.tok.v_at,I y5.2.tok.v_end,S y5.2.tok.name,I y5.2.tok.value.Kind,I y5.2.tok.value.Number,S y5.2.tok.value.Words,I y5.2.tok.value.Version.1,I y5.2.tok.value.Version.2.1,I y5.2.tok.value.Version.2.2.1,I y5.2.tok.value.Version.2.2.2,B y5.2.bad,I y5.2.v_at]] C (Lbz hy5) E Z E E E E E E E E E E<|Krn hΓ E E E Z<|Krs hΓ E E E E E E E E Z<|Kht [.box 32 [I 0,S [],S [],I 0,I 0,S [],I 0,I 0,I 0,I 0,.d (.ro (KD.mk 0 []).n (KD.mk 0 []).xs)],.box 131 [S y5.2.s,S y5.2.tok.kind,I y5.2.tok.v_at,I y5.2.tok.v_end,S y5.2.tok.name,I y5.2.tok.value.Kind,I y5.2.tok.value.Number,S y5.2.tok.value.Words,I y5.2.tok.value.Version.1,I y5.2.tok.value.Version.2.1,I y5.2.tok.value.Version.2.2.1,I y5.2.tok.value.Version.2.2.2,B y5.2.bad,I y5.2.v_at],.box 32 [I y5.1.Kind,S y5.1.Name,S y5.1.Op,I y5.1.Value.Kind,I y5.1.Value.Number,S y5.1.Value.Words,I y5.1.Value.Version.1,I y5.1.Value.Version.2.1,I y5.1.Value.Version.2.2.1,I y5.1.Value.Version.2.2.2,.d (.ro y5.1.Kids.n y5.1.Kids.xs)]] E<|gO 11 E<|Kgj 7 [(2,.ptr 0 0),(5,.ptr 1 0),(6,.ptr 2 0),(31,B ((!y5.2.bad)&&(!((y5.2.tok.kind:Str)==[101,110,100]))))] [.box 32 [I 0,S [],S [],I 0,I 0,S [],I 0,I 0,I 0,I 0,.d (.ro (KD.mk 0 []).n (KD.mk 0 []).xs)],.box 131 [S y5.2.s,S y5.2.tok.kind,I y5.2.tok.v_at,I y5.2.tok.v_end,S y5.2.tok.name,I y5.2.tok.value.Kind,I y5.2.tok.value.Number,S y5.2.tok.value.Words,I y5.2.tok.value.Version.1,I y5.2.tok.value.Version.2.1,I y5.2.tok.value.Version.2.2.1,I y5.2.tok.value.Version.2.2.2,B y5.2.bad,I y5.2.v_at],.box 32 [I y5.1.Kind,S y5.1.Name,S y5.1.Op,I y5.1.Value.Kind,I y5.1.Value.Number,S y5.1.Value.Words,I y5.1.Value.Version.1,I y5.1.Value.Version.2.1,I y5.1.Value.Version.2.2.1,I y5.1.Value.Version.2.2.2,.d (.ro y5.1.Kids.n y5.1.Kids.xs)]] ?_ ?_
 ·refine Kqh E E (fun hb=>?_) (fun hb=>?_)
  ·exact gO 8 E<|⟨⟨E,E,E,Kfh E (Kie hb),tV⟩,[],E,.inl E⟩
  exact gO 8 E<|⟨⟨E,E,E,Kfh E (Kif hb),tV⟩,[],E,.inl E⟩
 refine bK h6 fun q7 hq7 h8=>gO 2 E<|Kkb [(2,.ptr 0 0),(5,.ptr 1 0),(6,.ptr 2 0)] [.box 32 [I 0,S [],S [],I 0,I 0,S [],I 0,I 0,I 0,I 0,.d (.ro (KD.mk 0 []).n (KD.mk 0 []).xs)],.box 131 [S q7.s,S q7.tok.kind,I q7.tok.v_at,I q7.tok.v_end,S q7.tok.name,I q7.tok.value.Kind,I q7.tok.value.Number,S q7.tok.value.Words,I q7.tok.value.Version.1,I q7.tok.value.Version.2.1,I q7.tok.value.Version.2.2.1,I q7.tok.value.Version.2.2.2,B q7.bad,I q7.v_at],.box 32 [I y5.1.Kind,S y5.1.Name,S y5.1.Op,I y5.1.Value.Kind,I y5.1.Value.Number,S y5.1.Value.Words,I y5.1.Value.Version.1,I y5.1.Value.Version.2.1,I y5.1.Value.Version.2.2.1,I y5.1.Value.Version.2.2.2,.d (.ro y5.1.Kids.n y5.1.Kids.xs)]] ?_ ?_
 ·refine jC E hq7 (fun h9=>?_) fun h12=>gA 1 E<|oSi h12▸⟨⟨E,E,E,tV⟩,[],E,.inl E⟩
  exact bK h9 fun y10 hy10 h11=>gA 2 E<|Khk [1] (.agg [I y10.1.Kind,S y10.1.Name,S y10.1.Op,I y10.1.Value.Kind,I y10.1.Value.Number,S y10.1.Value.Words,I y10.1.Value.Version.1,I y10.1.Value.Version.2.1,I y10.1.Value.Version.2.2.1,I y10.1.Value.Version.2.2.2,.d (.ro y10.1.Kids.n y10.1.Kids.xs)]) [.box 32 [I 0,S [],S [],I 0,I 0,S [],I 0,I 0,I 0,I 0,.d (.ro (KD.mk 0 []).n (KD.mk 0 []).xs)],.box 131 [S y10.2.s,S y10.2.tok.kind,I y10.2.tok.v_at,I y10.2.tok.v_end,S y10.2.tok.name,I y10.2.tok.value.Kind,I y10.2.tok.value.Number,S y10.2.tok.value.Words,I y10.2.tok.value.Version.1,I y10.2.tok.value.Version.2.1,I y10.2.tok.value.Version.2.2.1,I y10.2.tok.value.Version.2.2.2,B y10.2.bad,I y10.2.v_at],.box 32 [I y5.1.Kind,S y5.1.Name,S y5.1.Op,I y5.1.Value.Kind,I y5.1.Value.Number,S y5.1.Value.Words,I y5.1.Value.Version.1,I y5.1.Value.Version.2.1,I y5.1.Value.Version.2.2.1,I y5.1.Value.Version.2.2.2,.d (.ro y5.1.Kids.n y5.1.Kids.xs)]] C (Lbr hy10) E Z E E E E E E E E E E<|gO 1 E<|oSi h11▸⟨⟨E,E,E,tV⟩,[],E,.inl E⟩
 refine gA 10 E<|jC E h8 (fun h13=>?_) fun h14=>bK h14 fun y15 hy15 h16=>gA 6 E<|Khl C (Lcg hy15) E Z E E E E E<|gO 9 E<|jC E h16 (fun h17=>?_) fun h18=>?_
 ·exact gA 1 E<|Kjg [.dead,.box 131 [S q7.s,S q7.tok.kind,I q7.tok.v_at,I q7.tok.v_end,S q7.tok.name,I q7.tok.value.Kind,I q7.tok.value.Number,S q7.tok.value.Words,I q7.tok.value.Version.1,I q7.tok.value.Version.2.1,I q7.tok.value.Version.2.2.1,I q7.tok.value.Version.2.2.2,B q7.bad,I q7.v_at]] [4] [5] [] hmix (by kernel_rfl) (by kernel_rfl) ⟨E,tV⟩ Z<|ge_q E (.inl E) (fun _ _=>Kji (qt_p (Kjs hΓ (gs:=[I 0,S [],S [],I 0,I 0,S [],I 0,I 0,I 0,I 0,.d (.ro (KD.mk 0 []).n (KD.mk 0 []).xs)]) E E E E E E)))<|go_E hΓ 4 E<|Kjk [.box 32 [I 0,S [],S [],I 0,I 0,S [],I 0,I 0,I 0,I 0,.d (.ro (KD.mk 0 []).n (KD.mk 0 []).xs)],.box 131 [S q7.s,S q7.tok.kind,I q7.tok.v_at,I q7.tok.v_end,S q7.tok.name,I q7.tok.value.Kind,I q7.tok.value.Number,S q7.tok.value.Words,I q7.tok.value.Version.1,I q7.tok.value.Version.2.1,I q7.tok.value.Version.2.2.1,I q7.tok.value.Version.2.2.2,B q7.bad,I q7.v_at],.box 32 [I y5.1.Kind,S y5.1.Name,S y5.1.Op,I y5.1.Value.Kind,I y5.1.Value.Number,S y5.1.Value.Words,I y5.1.Value.Version.1,I y5.1.Value.Version.2.1,I y5.1.Value.Version.2.2.1,I y5.1.Value.Version.2.2.2,.d (.ro y5.1.Kids.n y5.1.Kids.xs)]] E E (Kjm ⟨E,tV⟩) (Kjq (Kkl hΓ E E E E E E E E E))<|go_E hΓ 2 E<|Kjh<|gA 3 E<|oSi h13▸gP E E
 ·exact gA 2 E<|Kec hΓ (gs:=[I 0,S [],S [],I 0,I 0,S [],I 0,I 0,I 0,I 0,.d (.ro (KD.mk 0 []).n (KD.mk 0 []).xs)]) E E E E E E E<|gO 1 E<|Krs hΓ E E E E E E E E Z<|Kht [.box 32 [I 0,S [],S [],I 0,I 0,S [],I 0,I 0,I 0,I 0,.d (.ro (KD.mk 0 []).n (KD.mk 0 []).xs)],.box 131 [S q7.s,S q7.tok.kind,I q7.tok.v_at,I q7.tok.v_end,S q7.tok.name,I q7.tok.value.Kind,I q7.tok.value.Number,S q7.tok.value.Words,I q7.tok.value.Version.1,I q7.tok.value.Version.2.1,I q7.tok.value.Version.2.2.1,I q7.tok.value.Version.2.2.2,B q7.bad,I q7.v_at],.box 32 [I y5.1.Kind,S y5.1.Name,S y5.1.Op,I y5.1.Value.Kind,I y5.1.Value.Number,S y5.1.Value.Words,I y5.1.Value.Version.1,I y5.1.Value.Version.2.1,I y5.1.Value.Version.2.2.1,I y5.1.Value.Version.2.2.2,.d (.ro y5.1.Kids.n y5.1.Kids.xs)]] E<|gO 6 E<|oSi h17▸gP E E
 exact gA 5 E<|Krs hΓ E E E E E E E E Z<|Kht [.box 32 [I y5.1.Kind,S y5.1.Name,S y5.1.Op,I y5.1.Value.Kind,I y5.1.Value.Number,S y5.1.Value.Words,I y5.1.Value.Version.1,I y5.1.Value.Version.2.1,I y5.1.Value.Version.2.2.1,I y5.1.Value.Version.2.2.2,.d (.ro y5.1.Kids.n y5.1.Kids.xs)],.box 131 [S q7.s,S q7.tok.kind,I q7.tok.v_at,I q7.tok.v_end,S q7.tok.name,I q7.tok.value.Kind,I q7.tok.value.Number,S q7.tok.value.Words,I q7.tok.value.Version.1,I q7.tok.value.Version.2.1,I q7.tok.value.Version.2.2.1,I q7.tok.value.Version.2.2.2,B q7.bad,I q7.v_at],.box 32 [I y5.1.Kind,S y5.1.Name,S y5.1.Op,I y5.1.Value.Kind,I y5.1.Value.Number,S y5.1.Value.Words,I y5.1.Value.Version.1,I y5.1.Value.Version.2.1,I y5.1.Value.Version.2.2.1,I y5.1.Value.Version.2.2.2,.d (.ro y5.1.Kids.n y5.1.Kids.xs)]] E<|gO 5 E<|oSi h18▸gP E E
theorem Lci{k:Nat}{r:Bool}(h:Lax k=some r):Pure Tryz.prog 12 [] (B r):=by
 unfold Lax at h
 refine QP Tryz.func12 E E E<|bK h fun y1 hy1 h2=>gA 7 E<|Khl C (Lch hy1) E Z E E E E E<|gO 4 E<|Krn hΓ E E E Z<|Krs hΓ E E E E E E E E Z<|Kht [.box 32 [I y1.1.Kind,S y1.1.Name,S y1.1.Op,I y1.1.Value.Kind,I y1.1.Value.Number,S y1.1.Value.Words,I y1.1.Value.Version.1,I y1.1.Value.Version.2.1,I y1.1.Value.Version.2.2.1,I y1.1.Value.Version.2.2.2,.d (.ro y1.1.Kids.n y1.1.Kids.xs)]] E<|gO 9 E<|Kgj 4 [(0,B false),(1,.ptr 0 0),(15,B (((y1.2.2:Int)==0)&&((y1.1.Kind:Int)==1)))] [.box 32 [I y1.1.Kind,S y1.1.Name,S y1.1.Op,I y1.1.Value.Kind,I y1.1.Value.Number,S y1.1.Value.Words,I y1.1.Value.Version.1,I y1.1.Value.Version.2.1,I y1.1.Value.Version.2.2.1,I y1.1.Value.Version.2.2.2,.d (.ro y1.1.Kids.n y1.1.Kids.xs)]] ?_ ?_
 ·refine Kqh E E (fun hb=>?_) (fun hb=>?_)
  ·exact gO 5 E<|⟨⟨E,E,Kfh E (Kie hb),tV⟩,[],E,.inl E⟩
  exact gO 5 E<|⟨⟨E,E,Kfh E (Kif hb),tV⟩,[],E,.inl E⟩
 refine gO 1 E<|Kgj 4 [(0,B false),(20,B ((((y1.2.2:Int)==0)&&((y1.1.Kind:Int)==1))&&((y1.1.Name:Str)==[97])))] [.box 32 [I y1.1.Kind,S y1.1.Name,S y1.1.Op,I y1.1.Value.Kind,I y1.1.Value.Number,S y1.1.Value.Words,I y1.1.Value.Version.1,I y1.1.Value.Version.2.1,I y1.1.Value.Version.2.2.1,I y1.1.Value.Version.2.2.2,.d (.ro y1.1.Kids.n y1.1.Kids.xs)]] ?_ ?_
 ·refine Kqh E E (fun hb=>?_) (fun hb=>?_)
  ·exact gO 5 E<|⟨⟨E,Kfh E (Kie hb),tV⟩,[],E,.inl E⟩
  exact gO 5 E<|⟨⟨E,Kfh E (Kif hb),tV⟩,[],E,.inl E⟩
 exact gO 4 E<|oSi h2▸gP E E
theorem Lcj{k:Nat}{l:List Int}{al:List Bool}{r:Bool×(List Bool)}(h:Laz k l al=some r):EC Tryz.prog 6 [.d (Sl (eN .i64) l)] [.bag al [] []] fun g hp'=>g=B r.1∧hp'=[.bag r.2 [] []]:=by
 unfold Laz at h
 refine QN Tryz.func6 E Z<|gA 8 E<|Kec hΓ (gs:=[.d (Sl (eN .i64) l),I 0]) E E E E E E E<|Kro E E E E Z<|bK h fun y1 hy1 h2=>gO 7 E<|Khk [1] (I y1.1) [.bag al [] [],.box 25 (fQ y1.2)] C (Lcm hy1) E Z E E E E E E E E E E<|bK h2 fun y3 hy3 h4=>Khk [1] (.sl 2 y3.1.length) [.bag al [] [],.box 25 (fQ y3.2),rO 83 10 Kwu y3.1] C (Lcs hy3) E Z E E E E E E E E E E<|Khr 2 [35] _ [.bag al [] [],.box 25 (fQ y3.2),.dead] E E E Z<|bK h4 fun y5 hy5 h6=>gO 2 E<|Khk [1] (I y5.1) [.bag al [] [],.box 25 (fQ y5.2),.dead] C (Lcm hy5) E Z E E E E E E E E E E<|bK h6 fun y7 hy7 h8=>Khk [1] (.sl 3 y7.1.length) [.bag al [] [],.box 25 (fQ y7.2),.dead,rO 83 10 Kwu y7.1] C (Lcs hy7) E Z E E E E E E E E E E<|gO 11 E<|bK h8 fun q9 hq9 h10=>Kgj 3 [(3,.ptr 1 0),(4,.d (Sl Kwu y3.1)),(5,.sl 3 y7.1.length),(46,B q9.2)] [.bag al [] [],.box 25 (fQ q9.1),.dead,rO 83 10 Kwu y7.1] ?_ ?_
 ·refine Kqh E E (fun hb=>?_) (fun hb=>?_)
  ·have h11:=cT hq9 hb
   exact bK h11 fun y12 hy12 h13=>gO 1 E<|Kqf E<|Khk [1] (B y12.1) [.bag al [] [],.box 25 (fQ y12.2),.dead,rO 83 10 Kwu y7.1] C (Lcn hy12) E Z E E E E E E E E E E<|gO 2 E<|oSi h13▸⟨⟨E,E,E,E,tV⟩,[],E,.inl E⟩
  have h14:=cF hq9 hb
  exact gO 4 E<|oSi h14▸⟨⟨E,E,E,E,tV⟩,[],E,.inl E⟩
 refine bK h10 fun q15 hq15 h16=>gO 2 E<|Kkb [(3,.ptr 1 0),(4,.d (Sl Kwu y3.1)),(5,.sl 3 q15.2.length)] [.bag al [] [],.box 25 (fQ q15.1),.dead,rO 83 10 Kwu q15.2] ?_ ?_
 ·refine jC E hq15 (fun h17=>?_) fun h33=>gA 1 E<|oSi h33▸⟨⟨E,E,E,tV⟩,[],E,.inl E⟩
  refine bK h17 fun y18 hy18 h19=>gA 6 E<|Khk [1] (I y18.1) [.bag al [] [],.box 25 (fQ y18.2),.dead,rO 83 10 Kwu y7.1] C (Lcl hy18) E Z E E E E E E E E E E<|bK h19 fun z20 hz20 h21=>eo_o E (Khb hΓ (enc:=Kwu) hz20 E E E E E E (fun _=>E))<|bK h21 fun y22 hy22 h23=>Khk [] (.sl 4 y22.length) [.bag al [] [],.box 25 (fQ y18.2),.dead,rO 83 10 Kwu y7.1,rO 83 10 Kwu y22] C (Lct hy22) E Z E E E E E E E E E E<|gO 3 E<|Klo 3 [.bag al [] [],.box 25 (fQ y18.2),.dead,.dead,rO 83 10 Kwu y22] E Z<|Kjc 4 3 [.bag al [] [],.box 25 (fQ y18.2),.dead,rO 83 10 Kwu y22,.dead] E E E E E E<|bK h23 fun y24 hy24 h25=>gA 3 E<|Khk [1] (B y24.1) [.bag al [] [],.box 25 (fQ y24.2),.dead,rO 83 10 Kwu y22,.dead] C (Lcn hy24) E Z E E E E E E E E E E<|gO 2 E<|jC E h25 (fun h26=>?_) fun h32=>gA 1 E<|oSi h32▸⟨⟨E,E,E,tV⟩,[_],E,.inr ⟨HB.mk E,FB.mk E,Z⟩⟩
  refine bK h26 fun y27 hy27 h28=>gA 3 E<|Khk [1] (.agg [I y27.1.Kind,I y27.1.Number,S y27.1.Words,I y27.1.Version.1,I y27.1.Version.2.1,I y27.1.Version.2.2.1,I y27.1.Version.2.2.2]) [.bag al [] [],.box 25 (fQ y27.2),.dead,rO 83 10 Kwu y22,.dead] C (Lcu hy27) E Z E E E E E E E E E E<|bK h28 fun x29 hx29 h30=>?_
  have hj31:=Kid hx29
  exact eo_o E (Kgw hΓ hx29 E E E E E E)<|gO 1 E<|Khe hΓ (sz:=10) (enc:=Kwu) (z':=(⟨x29.At,x29.Node,x29.Name,y27.1⟩:Kxb)) ((0:Int).toNat) 3 hj31 E E E E (fun _=>E) E E E E E E Z<|Kht [.bag al [] [],.box 25 (fQ y27.2),.dead,rO 83 10 Kwu (y22.set ((0:Int).toNat) (⟨x29.At,x29.Node,x29.Name,y27.1⟩:Kxb)),.dead] E<|Kkk 5 (n':=(y22.set ((0:Int).toNat) (⟨x29.At,x29.Node,x29.Name,y27.1⟩:Kxb)).length) E List.length_set.symm<|gO 1 E<|oSi h30▸⟨⟨E,E,E,tV⟩,[_],E,.inr ⟨HB.mk E,FB.mk E,Z⟩⟩
 refine bK h16 fun y34 hy34 h35=>gA 4 E<|Khk [1] (I y34.1) [.bag al [] [],.box 25 (fQ y34.2),.dead,rO 83 10 Kwu q15.2] C (Lcv hy34) E Z E E E E E E E E E E<|gO 1 E<|Khf hΓ (enc:=eS) [[110,97],[110,98],[]] E E E E E E E E E E E E Z<|bK h35 fun y36 hy36 h37=>Khk [1] (S y36.1) [.bag al [] [],.box 25 (fQ y36.2),.dead,rO 83 10 Kwu q15.2] C (Lco hy36) E Z E E E E E E E E E E<|gO 1 E<|Khf hΓ (enc:=eS) [[111,115],[100,105,115,107],[118,101,114,115,105,111,110],[65]] E E E E E E E E E E E E Z<|bK h37 fun y38 hy38 h39=>Khk [1] (S y38.1) [.bag al [] [],.box 25 (fQ y38.2),.dead,rO 83 10 Kwu q15.2] C (Lco hy38) E Z E E E E E E E E E E<|bK h39 fun y40 hy40 h41=>gO 1 E<|Khk [1] (I y40.1) [.bag al [] [],.box 25 (fQ y40.2),.dead,rO 83 10 Kwu q15.2] C (Lcw hy40) E Z E E E E E E E E E E<|bK h41 fun y42 hy42 h43=>gO 1 E<|Khk [1] (.agg [I y42.1.Kind,I y42.1.Number,S y42.1.Words,I y42.1.Version.1,I y42.1.Version.2.1,I y42.1.Version.2.2.1,I y42.1.Version.2.2.2]) [.bag al [] [],.box 25 (fQ y42.2),.dead,rO 83 10 Kwu q15.2] C (Lcu hy42) E Z E E E E E E E E E E<|bK h43 fun y44 hy44 h45=>gO 1 E<|Khk [1] (.agg [I y44.1.Kind,I y44.1.Number,S y44.1.Words,I y44.1.Version.1,I y44.1.Version.2.1,I y44.1.Version.2.2.1,I y44.1.Version.2.2.2]) [.bag al [] [],.box 25 (fQ y44.2),.dead,rO 83 10 Kwu q15.2] C (Lcu hy44) E Z E E E E E E E E E E<|Krn hΓ E E E Z<|Krn hΓ E E E Z<|gO 4 E<|Krs hΓ E E E E E E E E Z<|Kht [.bag al [] [],.box 25 (fQ y44.2),.dead,rO 83 10 Kwu q15.2,.box 29 [I y42.1.Kind,I y42.1.Number,S y42.1.Words,I y42.1.Version.1,I y42.1.Version.2.1,I y42.1.Version.2.2.1,I y42.1.Version.2.2.2],.box 29 [I 0,I 0,S [],I 0,I 0,I 0,I 0]] E<|Krs hΓ E E E E E E E E Z<|Kht [.bag al [] [],.box 25 (fQ y44.2),.dead,rO 83 10 Kwu q15.2,.box 29 [I y42.1.Kind,I y42.1.Number,S y42.1.Words,I y42.1.Version.1,I y42.1.Version.2.1,I y42.1.Version.2.2.1,I y42.1.Version.2.2.2],.box 29 [I y44.1.Kind,I y44.1.Number,S y44.1.Words,I y44.1.Version.1,I y44.1.Version.2.1,I y44.1.Version.2.2.1,I y44.1.Version.2.2.2]] E<|bK h45 fun y46 hy46 h47=>gO 9 E<|Khk [0] (.tup [.agg [I y46.1.Kind,I y46.1.Number,S y46.1.Words,I y46.1.Version.1,I y46.1.Version.2.1,I y46.1.Version.2.2.1,I y46.1.Version.2.2.2],B y46.2.1,I y46.2.2.1]) [.bag y46.2.2.2 [] [],.box 25 (fQ y44.2),.dead,rO 83 10 Kwu q15.2,.box 29 [I y42.1.Kind,I y42.1.Number,S y42.1.Words,I y42.1.Version.1,I y42.1.Version.2.1,I y42.1.Version.2.2.1,I y42.1.Version.2.2.2],.box 29 [I y44.1.Kind,I y44.1.Number,S y44.1.Words,I y44.1.Version.1,I y44.1.Version.2.1,I y44.1.Version.2.2.1,I y44.1.Version.2.2.2]] C (Ldo hy46) E Z E E E E E E E E E E<|gO 4 E<|Krn hΓ E E E Z<|Krs hΓ E E E E E E E E Z<|Kht [.bag y46.2.2.2 [] [],.box 25 (fQ y44.2),.dead,rO 83 10 Kwu q15.2,.box 29 [I y42.1.Kind,I y42.1.Number,S y42.1.Words,I y42.1.Version.1,I y42.1.Version.2.1,I y42.1.Version.2.2.1,I y42.1.Version.2.2.2],.box 29 [I y44.1.Kind,I y44.1.Number,S y44.1.Words,I y44.1.Version.1,I y44.1.Version.2.1,I y44.1.Version.2.2.1,I y44.1.Version.2.2.2],.box 29 [I y46.1.Kind,I y46.1.Number,S y46.1.Words,I y46.1.Version.1,I y46.1.Version.2.1,I y46.1.Version.2.2.1,I y46.1.Version.2.2.2]] E<|bK h47 fun y48 hy48 h49=>gO 8 E<|Khr 3 [5,87] _ [.bag y46.2.2.2 [] [],.box 25 (fQ y44.2),.dead,.dead,.box 29 [I y42.1.Kind,I y42.1.Number,S y42.1.Words,I y42.1.Version.1,I y42.1.Version.2.1,I y42.1.Version.2.2.1,I y42.1.Version.2.2.2],.box 29 [I y44.1.Kind,I y44.1.Number,S y44.1.Words,I y44.1.Version.1,I y44.1.Version.2.1,I y44.1.Version.2.2.1,I y44.1.Version.2.2.2],.box 29 [I y46.1.Kind,I y46.1.Number,S y46.1.Words,I y46.1.Version.1,I y46.1.Version.2.1,I y46.1.Version.2.2.1,I y46.1.Version.2.2.2]] E E E Z<|Khl C (Ldw hy48) E Z E E E E E<|bK h49 fun y50 hy50 h51=>gO 11 E<|Khl C (Ldz hy50) E Z E E E E E<|bK h51 fun y52 hy52 h53=>gO 12 E<|Khl C (Leh hy52) E Z E E E E E<|bK h53 fun y54 hy54 h55=>gO 7 E<|Khl C (Ldg hy54) E Z E E E E E<|gO 4 E<|Kgd E (fun hb=>?_) (fun hb=>?_)
 ·have h56:=cT h55 hb
  exact gA 7 E<|oSi h56▸Khy hΓ [_,_,_,_,_,_] (.inr E) E E E E (.inr ⟨HB.mk E,E⟩)
 have h57:=cF h55 hb
 refine gA 3 E<|jD<|bK h57 fun y58 hy58 h59=>gA 2 E<|Khm C (Lei hy58) E E E E E E<|bK h59 fun y60 hy60 h61=>Kgb hΓ 1 E<|Khm C (Lek hy60) E E E E E E<|bK h61 fun y62 hy62 h63=>Kgb hΓ 1 E<|Khm C (Lek hy62) E E E E E E<|bK h63 fun y64 hy64 h65=>Kgb hΓ 1 E<|Khm C (Lel hy64) E E E E E E<|Khg hΓ (enc:=(eN .i64)) [y52,y58,y60,y62,y64] E E E E E E E E E E E E<|bK h65 fun y66 hy66 h67=>Khm C (Lem hy66) E E E E E E<|bK h67 fun y68 hy68 h69=>Kgb hΓ 2 E<|Khm C (Leh hy68) E E E E E E<|Khg hΓ (enc:=(eN .i64)) [y52,y68] E E E E E E E E E E E E<|bK h69 fun y70 hy70 h71=>Khm C (Lem hy70) E E E E E E<|bK h71 fun y72 hy72 h73=>Kgb hΓ 1 E<|Khm C (Lef hy72) E E E E E E<|bK h73 fun y74 hy74 h75=>Kgb hΓ 1 E<|Khm C (Lef hy74) E E E E E E<|Khg hΓ (enc:=(eN .i64)) [y72,y74] E E E E E E E E E E E E<|bK h75 fun y76 hy76 h77=>Khm C (Lem hy76) E E E E E E<|Kgb hΓ 7 E<|Krn hΓ E E E Z<|bK h77 fun q78 hq78 h79=>gO 14 E<|Kkb [(4,.d (Sl Kwu y3.1)),(5,.d (Sl Kwu q15.2)),(10,.ptr 4 0),(11,.ptr 5 0),(12,.ptr 6 0),(13,B y46.2.1),(14,I y46.2.2.1),(15,.d (Sl Kwu y48.1)),(16,I y48.2),(17,I y50.1),(18,B y50.2.1),(19,I y50.2.2),(21,I y66),(22,I y70),(23,I y76),(24,.ptr 7 0),(25,B q78.2)] [.bag y46.2.2.2 [] [],.box 25 (fQ y44.2),.dead,.dead,.box 29 [I y42.1.Kind,I y42.1.Number,S y42.1.Words,I y42.1.Version.1,I y42.1.Version.2.1,I y42.1.Version.2.2.1,I y42.1.Version.2.2.2],.box 29 [I y44.1.Kind,I y44.1.Number,S y44.1.Words,I y44.1.Version.1,I y44.1.Version.2.1,I y44.1.Version.2.2.1,I y44.1.Version.2.2.2],.box 29 [I y46.1.Kind,I y46.1.Number,S y46.1.Words,I y46.1.Version.1,I y46.1.Version.2.1,I y46.1.Version.2.2.1,I y46.1.Version.2.2.2],.box 29 [I q78.1.Kind,I q78.1.Number,S q78.1.Words,I q78.1.Version.1,I q78.1.Version.2.1,I q78.1.Version.2.2.1,I q78.1.Version.2.2.2]] ?_ ?_
 ·refine jC E hq78 (fun h80=>?_) fun h83=>gA 1 E<|oSi h83▸⟨⟨E,E,E,E,E,E,E,E,E,E,E,E,E,E,E,E,E,tV⟩,[],E,.inl E⟩
  exact bK h80 fun y81 hy81 h82=>gA 6 E<|Khl C (Kal hy81) E Z E E E E E<|gO 3 E<|Krs hΓ E E E E E E E E Z<|Kht [.bag y46.2.2.2 [] [],.box 25 (fQ y44.2),.dead,.dead,.box 29 [I y42.1.Kind,I y42.1.Number,S y42.1.Words,I y42.1.Version.1,I y42.1.Version.2.1,I y42.1.Version.2.2.1,I y42.1.Version.2.2.2],.box 29 [I y44.1.Kind,I y44.1.Number,S y44.1.Words,I y44.1.Version.1,I y44.1.Version.2.1,I y44.1.Version.2.2.1,I y44.1.Version.2.2.2],.box 29 [I y46.1.Kind,I y46.1.Number,S y46.1.Words,I y46.1.Version.1,I y46.1.Version.2.1,I y46.1.Version.2.2.1,I y46.1.Version.2.2.2],.box 29 [I y81.1.Kind,I y81.1.Number,S y81.1.Words,I y81.1.Version.1,I y81.1.Version.2.1,I y81.1.Version.2.2.1,I y81.1.Version.2.2.2]] E<|gO 2 E<|oSi h82▸⟨⟨E,E,E,E,E,E,E,E,E,E,E,E,E,E,E,E,E,tV⟩,[],E,.inl E⟩
 refine gA 8 E<|Kgj 4 [(4,.d (Sl Kwu y3.1)),(5,.d (Sl Kwu q15.2)),(10,.ptr 4 0),(11,.ptr 5 0),(13,B y46.2.1),(15,.d (Sl Kwu y48.1)),(16,I y48.2),(17,I y50.1),(18,B y50.2.1),(19,I y50.2.2),(22,I y70),(23,I y76),(25,B q78.2),(144,B (((y46.2.2.1:Int) != y66)||(!(((y46.1.Kind:Int)==q78.1.Kind)&&(((y46.1.Number:Int)==q78.1.Number)&&(((y46.1.Words:Str)==q78.1.Words)&&(decide (([y46.1.Version.1,y46.1.Version.2.1,y46.1.Version.2.2.1,y46.1.Version.2.2.2]:List Int)=[q78.1.Version.1,q78.1.Version.2.1,q78.1.Version.2.2.1,q78.1.Version.2.2.2])&&true)))))))] [.bag y46.2.2.2 [] [],.box 25 (fQ y44.2),.dead,.dead,.box 29 [I y42.1.Kind,I y42.1.Number,S y42.1.Words,I y42.1.Version.1,I y42.1.Version.2.1,I y42.1.Version.2.2.1,I y42.1.Version.2.2.2],.box 29 [I y44.1.Kind,I y44.1.Number,S y44.1.Words,I y44.1.Version.1,I y44.1.Version.2.1,I y44.1.Version.2.2.1,I y44.1.Version.2.2.2],.box 29 [I y46.1.Kind,I y46.1.Number,S y46.1.Words,I y46.1.Version.1,I y46.1.Version.2.1,I y46.1.Version.2.2.1,I y46.1.Version.2.2.2],.box 29 [I q78.1.Kind,I q78.1.Number,S q78.1.Words,I q78.1.Version.1,I q78.1.Version.2.1,I q78.1.Version.2.2.1,I q78.1.Version.2.2.2]] ?_ ?_
 ·refine Kqh E E (fun hb=>?_) (fun hb=>?_)
  ·exact gO 5 E<|⟨⟨E,E,E,E,E,E,E,E,E,E,E,E,E,Kfh E (or_t hb),tV⟩,[],E,.inl E⟩
  exact gO 2 E<|Kqf E<|eo_o E (Kor hΓ [29] (b:=(((y46.1.Kind:Int)==q78.1.Kind)&&(((y46.1.Number:Int)==q78.1.Number)&&(((y46.1.Words:Str)==q78.1.Words)&&(decide (([y46.1.Version.1,y46.1.Version.2.1,y46.1.Version.2.2.1,y46.1.Version.2.2.2]:List Int)=[q78.1.Version.1,q78.1.Version.2.1,q78.1.Version.2.2.1,q78.1.Version.2.2.2])&&true))))) (by kernel_rfl) (by kernel_rfl) E E E)<|gO 2 E<|⟨⟨E,E,E,E,E,E,E,E,E,E,E,E,E,Kfh E (or_f hb),tV⟩,[],E,.inl E⟩
 refine gO 1 E<|Kgj 4 [(4,.d (Sl Kwu y3.1)),(5,.d (Sl Kwu q15.2)),(10,.ptr 4 0),(11,.ptr 5 0),(15,.d (Sl Kwu y48.1)),(16,I y48.2),(17,I y50.1),(18,B y50.2.1),(19,I y50.2.2),(22,I y70),(23,I y76),(149,B ((((y46.2.2.1:Int) != y66)||(!(((y46.1.Kind:Int)==q78.1.Kind)&&(((y46.1.Number:Int)==q78.1.Number)&&(((y46.1.Words:Str)==q78.1.Words)&&(decide (([y46.1.Version.1,y46.1.Version.2.1,y46.1.Version.2.2.1,y46.1.Version.2.2.2]:List Int)=[q78.1.Version.1,q78.1.Version.2.1,q78.1.Version.2.2.1,q78.1.Version.2.2.2])&&true))))))||(!((y46.2.1:Bool)==q78.2))))] [.bag y46.2.2.2 [] [],.box 25 (fQ y44.2),.dead,.dead,.box 29 [I y42.1.Kind,I y42.1.Number,S y42.1.Words,I y42.1.Version.1,I y42.1.Version.2.1,I y42.1.Version.2.2.1,I y42.1.Version.2.2.2],.box 29 [I y44.1.Kind,I y44.1.Number,S y44.1.Words,I y44.1.Version.1,I y44.1.Version.2.1,I y44.1.Version.2.2.1,I y44.1.Version.2.2.2],.box 29 [I y46.1.Kind,I y46.1.Number,S y46.1.Words,I y46.1.Version.1,I y46.1.Version.2.1,I y46.1.Version.2.2.1,I y46.1.Version.2.2.2],.box 29 [I q78.1.Kind,I q78.1.Number,S q78.1.Words,I q78.1.Version.1,I q78.1.Version.2.1,I q78.1.Version.2.2.1,I q78.1.Version.2.2.2]] ?_ ?_
 ·refine Kqh E E (fun hb=>?_) (fun hb=>?_)
  ·exact gO 5 E<|⟨⟨E,E,E,E,E,E,E,E,E,E,E,Kfh E (or_t hb),tV⟩,[],E,.inl E⟩
  exact gO 5 E<|⟨⟨E,E,E,E,E,E,E,E,E,E,E,Kfh E (or_f hb),tV⟩,[],E,.inl E⟩
 refine gO 2 E<|Kgd E (fun hb=>?_) (fun hb=>?_)
 ·have h84:=cT h79 hb
  exact gA 7 E<|oSi h84▸Khy hΓ [_,_,_,_,_,_,_] (.inr E) E E E E (.inr ⟨HB.mk E,E⟩)
 have h85:=cF h79 hb
 refine bK h85 fun q86 hq86 h87=>gA 14 E<|Kkb [(10,.ptr 4 0),(11,.ptr 5 0),(15,.d (Sl Kwu y48.1)),(16,I y48.2),(17,I y50.1),(18,B y50.2.1),(19,I y50.2.2),(22,I q86.1),(23,I y76),(26,.d (Sl Kwu q86.2))] [.bag y46.2.2.2 [] [],.box 25 (fQ y44.2),.dead,.dead,.box 29 [I y42.1.Kind,I y42.1.Number,S y42.1.Words,I y42.1.Version.1,I y42.1.Version.2.1,I y42.1.Version.2.2.1,I y42.1.Version.2.2.2],.box 29 [I y44.1.Kind,I y44.1.Number,S y44.1.Words,I y44.1.Version.1,I y44.1.Version.2.1,I y44.1.Version.2.2.1,I y44.1.Version.2.2.2],.box 29 [I y46.1.Kind,I y46.1.Number,S y46.1.Words,I y46.1.Version.1,I y46.1.Version.2.1,I y46.1.Version.2.2.1,I y46.1.Version.2.2.2],.box 29 [I q78.1.Kind,I q78.1.Number,S q78.1.Words,I q78.1.Version.1,I q78.1.Version.2.1,I q78.1.Version.2.2.1,I q78.1.Version.2.2.2]] ?_ ?_
 ·refine jC E hq86 (fun h88=>?_) fun h91=>gA 1 E<|oSi h91▸⟨⟨E,E,E,E,E,E,E,E,E,E,tV⟩,[],E,.inl E⟩
  exact bK h88 fun y89 hy89 h90=>gA 3 E<|Khl C (Ler hy89) E Z E E E E E<|gO 6 E<|oSi h90▸⟨⟨E,E,E,E,E,E,E,E,E,E,tV⟩,[],E,.inl E⟩
 refine gA 8 E<|bK h87 fun q92 hq92 h93=>Kgj 5 [(10,.ptr 4 0),(11,.ptr 5 0),(17,I y50.1),(18,B y50.2.1),(19,I y50.2.2),(23,I y76),(166,B q92)] [.bag y46.2.2.2 [] [],.box 25 (fQ y44.2),.dead,.dead,.box 29 [I y42.1.Kind,I y42.1.Number,S y42.1.Words,I y42.1.Version.1,I y42.1.Version.2.1,I y42.1.Version.2.2.1,I y42.1.Version.2.2.2],.box 29 [I y44.1.Kind,I y44.1.Number,S y44.1.Words,I y44.1.Version.1,I y44.1.Version.2.1,I y44.1.Version.2.2.1,I y44.1.Version.2.2.2],.box 29 [I y46.1.Kind,I y46.1.Number,S y46.1.Words,I y46.1.Version.1,I y46.1.Version.2.1,I y46.1.Version.2.2.1,I y46.1.Version.2.2.2],.box 29 [I q78.1.Kind,I q78.1.Number,S q78.1.Words,I q78.1.Version.1,I q78.1.Version.2.1,I q78.1.Version.2.2.1,I q78.1.Version.2.2.2]] ?_ ?_
 ·refine Kqh E E (fun hb=>?_) (fun hb=>?_)
  ·have h94:=cT hq92 hb
   exact gO 6 E<|oSi h94▸⟨⟨E,E,E,E,E,E,E,tV⟩,[],E,.inl E⟩
  have h95:=cF hq92 hb
  exact bK h95 fun y96 hy96 h97=>gO 2 E<|Kqf E<|Khl C (Lbc hy96) E Z E E E E E<|gO 3 E<|oSi h97▸⟨⟨E,E,E,E,E,E,E,tV⟩,[],E,.inl E⟩
 refine gO 2 E<|Kgd E (fun hb=>?_) (fun hb=>?_)
 ·have h98:=cT h93 hb
  exact gA 7 E<|oSi h98▸Khy hΓ [_,_,_,_,_,_,_] (.inr E) E E E E (.inr ⟨HB.mk E,E⟩)
 have h99:=cF h93 hb
 refine bK h99 fun q100 hq100 h101=>gA 15 E<|Kkb [(17,I y50.1),(18,B y50.2.1),(19,I y50.2.2),(23,I y76),(27,I q100.1),(28,B q100.2)] [.bag y46.2.2.2 [] [],.box 25 (fQ y44.2),.dead,.dead,.box 29 [I y42.1.Kind,I y42.1.Number,S y42.1.Words,I y42.1.Version.1,I y42.1.Version.2.1,I y42.1.Version.2.2.1,I y42.1.Version.2.2.2],.box 29 [I y44.1.Kind,I y44.1.Number,S y44.1.Words,I y44.1.Version.1,I y44.1.Version.2.1,I y44.1.Version.2.2.1,I y44.1.Version.2.2.2],.box 29 [I y46.1.Kind,I y46.1.Number,S y46.1.Words,I y46.1.Version.1,I y46.1.Version.2.1,I y46.1.Version.2.2.1,I y46.1.Version.2.2.2],.box 29 [I q78.1.Kind,I q78.1.Number,S q78.1.Words,I q78.1.Version.1,I q78.1.Version.2.1,I q78.1.Version.2.2.1,I q78.1.Version.2.2.2]] ?_ ?_
 ·refine jC E hq100 (fun h102=>?_) fun h105=>gA 1 E<|oSi h105▸⟨⟨E,E,E,E,E,E,tV⟩,[],E,.inl E⟩
  exact bK h102 fun y103 hy103 h104=>gA 3 E<|Khl C (Lbd hy103) E Z E E E E E<|gO 6 E<|oSi h104▸⟨⟨E,E,E,E,E,E,tV⟩,[],E,.inl E⟩
 refine gA 7 E<|Kgj 4 [(18,B y50.2.1),(28,B q100.2),(182,B (((y50.2.2:Int)==y76)&&((y50.1:Int)==q100.1)))] [.bag y46.2.2.2 [] [],.box 25 (fQ y44.2),.dead,.dead,.box 29 [I y42.1.Kind,I y42.1.Number,S y42.1.Words,I y42.1.Version.1,I y42.1.Version.2.1,I y42.1.Version.2.2.1,I y42.1.Version.2.2.2],.box 29 [I y44.1.Kind,I y44.1.Number,S y44.1.Words,I y44.1.Version.1,I y44.1.Version.2.1,I y44.1.Version.2.2.1,I y44.1.Version.2.2.2],.box 29 [I y46.1.Kind,I y46.1.Number,S y46.1.Words,I y46.1.Version.1,I y46.1.Version.2.1,I y46.1.Version.2.2.1,I y46.1.Version.2.2.2],.box 29 [I q78.1.Kind,I q78.1.Number,S q78.1.Words,I q78.1.Version.1,I q78.1.Version.2.1,I q78.1.Version.2.2.1,I q78.1.Version.2.2.2]] ?_ ?_
 ·refine Kqh E E (fun hb=>?_) (fun hb=>?_)
  ·exact gO 5 E<|⟨⟨E,E,Kfh E (Kie hb),tV⟩,[],E,.inl E⟩
  exact gO 5 E<|⟨⟨E,E,Kfh E (Kif hb),tV⟩,[],E,.inl E⟩
 refine gO 1 E<|Kgj 4 [(187,B ((((y50.2.2:Int)==y76)&&((y50.1:Int)==q100.1))&&((y50.2.1:Bool)==q100.2)))] [.bag y46.2.2.2 [] [],.box 25 (fQ y44.2),.dead,.dead,.box 29 [I y42.1.Kind,I y42.1.Number,S y42.1.Words,I y42.1.Version.1,I y42.1.Version.2.1,I y42.1.Version.2.2.1,I y42.1.Version.2.2.2],.box 29 [I y44.1.Kind,I y44.1.Number,S y44.1.Words,I y44.1.Version.1,I y44.1.Version.2.1,I y44.1.Version.2.2.1,I y44.1.Version.2.2.2],.box 29 [I y46.1.Kind,I y46.1.Number,S y46.1.Words,I y46.1.Version.1,I y46.1.Version.2.1,I y46.1.Version.2.2.1,I y46.1.Version.2.2.2],.box 29 [I q78.1.Kind,I q78.1.Number,S q78.1.Words,I q78.1.Version.1,I q78.1.Version.2.1,I q78.1.Version.2.2.1,I q78.1.Version.2.2.2]] ?_ ?_
 ·refine Kqh E E (fun hb=>?_) (fun hb=>?_)
  ·exact gO 5 E<|⟨⟨Kfh E (Kie hb),tV⟩,[],E,.inl E⟩
  exact gO 5 E<|⟨⟨Kfh E (Kif hb),tV⟩,[],E,.inl E⟩
 refine gO 1 E<|bK h101 fun q106 hq106 h107=>Kgj 2 [(190,B q106)] [.bag y46.2.2.2 [] [],.box 25 (fQ y44.2),.dead,.dead,.box 29 [I y42.1.Kind,I y42.1.Number,S y42.1.Words,I y42.1.Version.1,I y42.1.Version.2.1,I y42.1.Version.2.2.1,I y42.1.Version.2.2.2],.box 29 [I y44.1.Kind,I y44.1.Number,S y44.1.Words,I y44.1.Version.1,I y44.1.Version.2.1,I y44.1.Version.2.2.1,I y44.1.Version.2.2.2],.box 29 [I y46.1.Kind,I y46.1.Number,S y46.1.Words,I y46.1.Version.1,I y46.1.Version.2.1,I y46.1.Version.2.2.1,I y46.1.Version.2.2.2],.box 29 [I q78.1.Kind,I q78.1.Number,S q78.1.Words,I q78.1.Version.1,I q78.1.Version.2.1,I q78.1.Version.2.2.1,I q78.1.Version.2.2.2]] ?_ ?_
 ·refine Kqh E E (fun hb=>?_) (fun hb=>?_)
  ·have h108:=cT hq106 hb
   exact bK h108 fun y109 hy109 h110=>Kqf E<|Khl C (Lci hy109) E Z E E E E E<|gO 2 E<|oSi h110▸⟨⟨E,tV⟩,[],E,.inl E⟩
  have h111:=cF hq106 hb
  exact gO 3 E<|oSi h111▸⟨⟨E,tV⟩,[],E,.inl E⟩
 exact gO 4 E<|oSi h107▸Khy hΓ [_,_,_,_,_,_,_] (.inr E) E E E E (.inr ⟨HB.mk E,E⟩)
end Go.Proofs.YthhdojhbohfmnaaGreatDoor
