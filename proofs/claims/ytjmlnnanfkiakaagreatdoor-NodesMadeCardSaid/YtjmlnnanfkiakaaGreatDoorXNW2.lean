import Derived.Test.YtjmlnnanfkiakaaGreatDoorXNM
import Derived.Test.YtjmlnnanfkiakaaGreatDoorGt
import Derived.Test.YtjmlnnanfkiakaaGreatDoorStrS
import Derived.Test.YtjmlnnanfkiakaaGreatDoorStrK
import Derived.Test.YtjmlnnanfkiakaaGreatDoorXNW1
set_option maxHeartbeats 8000000
set_option linter.all false
set_option maxRecDepth 100000
namespace Go.Proofs.YtjmlnnanfkiakaaGreatDoor
open Go.Gk
theorem Lpw{k:Nat}{w:(Int×Int×Int×Int×Int×Int×Int×Int×Int)}{r:Lgi}(h:Lir k w=some r):Pure Tryz.prog 390 [.agg [I w.1,I w.2.1,I w.2.2.1,I w.2.2.2.1,I w.2.2.2.2.1,I w.2.2.2.2.2.1,I w.2.2.2.2.2.2.1,I w.2.2.2.2.2.2.2.1,I w.2.2.2.2.2.2.2.2]] (.agg [B r.Six,U r.Hi,U r.Lo]):=by
 unfold Lir at h
 refine Pure.enter (Fr.of 0 _) Tryz.func390 E (Fr.of_ok _) E E<|Kjm<|gA 2 E<|Kxo E E E E Z<|Kxn hΓ E E E Z<|gO 4 E<|Kxn hΓ E E E Z<|gO 8 E<|bK h fun q4 hq4 h5=>Knu [(1,.ptr 0 0),(2,.ptr 1 0),(3,.ptr 2 0)] [.box 326 [I w.1,I w.2.1,I w.2.2.1,I w.2.2.2.1,I w.2.2.2.2.1,I w.2.2.2.2.2.1,I w.2.2.2.2.2.2.1,I w.2.2.2.2.2.2.2.1,I w.2.2.2.2.2.2.2.2],.box 252 [B false,U 0,U 0],.box 252 [B q4.Six,U q4.Hi,U q4.Lo]] ?_ ?_
 ·refine gA 1 E<|Kka hq4 (fun s2=>[(1,.ptr 0 0),(2,.ptr 1 0),(3,.ptr 2 0),(5,I s2.2)]) (fun s2=>[.box 326 [I w.1,I w.2.1,I w.2.2.1,I w.2.2.2.1,I w.2.2.2.2.1,I w.2.2.2.2.2.1,I w.2.2.2.2.2.2.1,I w.2.2.2.2.2.2.2.1,I w.2.2.2.2.2.2.2.2],.box 252 [B false,U 0,U 0],.box 252 [B s2.1.Six,U s2.1.Hi,U s2.1.Lo]]) ⟨⟨E,E,E,E,tV⟩,[],E,.inl E⟩ (fun s2 y10 hy8 hout9=>?_)
  refine gA 6 E<|jC E hy8 (fun h11=>?_) fun h20=>gA 4 E ?_
  ·exact gA 11 E<|Kmu [.box 326 [I w.1,I w.2.1,I w.2.2.1,I w.2.2.2.1,I w.2.2.2.2.1,I w.2.2.2.2.2.1,I w.2.2.2.2.2.2.1,I w.2.2.2.2.2.2.2.1,I w.2.2.2.2.2.2.2.2],.dead,.box 252 [B s2.1.Six,U s2.1.Hi,U s2.1.Lo]] [1,4] [11] [11] hmix (by kernel_rfl) (by kernel_rfl) ⟨E,E,tV⟩ Z<|bK h11 fun x12 hx12 h13=>go_E hΓ 3 E<|ge_q E (.inl E) (fun _ _=>Kmx (qt_p (Kqs hΓ hx12 E E E E E E)))<|ge_p E (fun hp hs=>Kqt hΓ (f:=fun z=>.d (.v (.int .i64 z))) hx12 E E E E (hs 0 _ E E) E) E<|bK h13 fun y14 hy14 h15=>go_E hΓ 3 E<|ge_q E (.inl E) (fun _ _=>Kmx (qt_p (Klu hy14 E E)))<|go_E hΓ 2 E<|Kmz [.box 326 [I w.1,I w.2.1,I w.2.2.1,I w.2.2.2.1,I w.2.2.2.2.1,I w.2.2.2.2.2.1,I w.2.2.2.2.2.2.1,I w.2.2.2.2.2.2.2.1,I w.2.2.2.2.2.2.2.2],.box 252 [B false,U 0,U 0],.box 252 [B s2.1.Six,U s2.1.Hi,U (bitsV .or .u64 s2.1.Lo y14)]] E E (Kna E) (Knf (Kof hΓ E E E E E E E E E))<|Kmw<|gA 1 E<|Kmu [.box 326 [I w.1,I w.2.1,I w.2.2.1,I w.2.2.2.1,I w.2.2.2.2.1,I w.2.2.2.2.2.1,I w.2.2.2.2.2.2.1,I w.2.2.2.2.2.2.2.1,I w.2.2.2.2.2.2.2.2],.dead,.box 252 [B s2.1.Six,U s2.1.Hi,U (bitsV .or .u64 s2.1.Lo y14)]] [1,5] [12] [12] hmix (by kernel_rfl) (by kernel_rfl) ⟨E,E,tV⟩ Z<|bK h15 fun x16 hx16 h17=>go_E hΓ 4 E<|ge_q E (.inl E) (fun _ _=>Kmx (qt_p (Kqs hΓ hx16 E E E E E E)))<|ge_p E (fun hp hs=>Kqt hΓ (f:=fun z=>.d (.v (.int .i64 z))) hx16 E E E E (hs 0 _ E E) E) E<|bK h17 fun y18 hy18 h19=>go_E hΓ 3 E<|ge_q E (.inl E) (fun _ _=>Kmx (qt_p (Klu hy18 E E)))<|go_E hΓ 2 E<|Kmz [.box 326 [I w.1,I w.2.1,I w.2.2.1,I w.2.2.2.1,I w.2.2.2.2.1,I w.2.2.2.2.2.1,I w.2.2.2.2.2.2.1,I w.2.2.2.2.2.2.2.1,I w.2.2.2.2.2.2.2.2],.box 252 [B false,U 0,U 0],.box 252 [B s2.1.Six,U (bitsV .or .u64 s2.1.Hi y18),U (bitsV .or .u64 s2.1.Lo y14)]] E E (Kna E) (Knf (Kof hΓ E E E E E E E E E))<|Kmw<|gA 6 E<|oSi h19▸⟨_,E,⟨⟨E,E,E,E,tV⟩,[],E,.inl E⟩⟩
  cases h20
  obtain rfl:=hout9 _ rfl
  exact⟨⟨E,E,E,tV⟩,[],E,.inl E⟩
 exact gA 3 E<|eo_o E (Kqs hΓ (l:=List.replicate 9 ()) (z:=()) E E E E E E E)<|gO 3 E<|Kxs hΓ E E E E E E E E Z<|Kld [.box 326 [I w.1,I w.2.1,I w.2.2.1,I w.2.2.2.1,I w.2.2.2.2.1,I w.2.2.2.2.2.1,I w.2.2.2.2.2.2.1,I w.2.2.2.2.2.2.2.1,I w.2.2.2.2.2.2.2.2],.box 252 [B false,U 0,U 0],.box 252 [B (decide ((w.2.2.2.2.2.2.2.2:Int)>0)),U q4.Hi,U q4.Lo]] E<|gO 5 E<|Kxs hΓ E E E E E E E E Z<|Kld [.box 326 [I w.1,I w.2.1,I w.2.2.1,I w.2.2.2.1,I w.2.2.2.2.1,I w.2.2.2.2.2.1,I w.2.2.2.2.2.2.1,I w.2.2.2.2.2.2.2.1,I w.2.2.2.2.2.2.2.2],.box 252 [B (decide ((w.2.2.2.2.2.2.2.2:Int)>0)),U q4.Hi,U q4.Lo],.box 252 [B (decide ((w.2.2.2.2.2.2.2.2:Int)>0)),U q4.Hi,U q4.Lo]] E<|gO 3 E<|oSi h5▸gP E E
theorem Lpx{k:Nat}{a:Lgi}{bits:Int}{r:Lgj}(h:Lis k a bits=some r):Pure Tryz.prog 339 [.agg [B a.Six,U a.Hi,U a.Lo],I bits] (.agg [B r.Addr.Six,U r.Addr.Hi,U r.Addr.Lo,I r.Bits]):=by
 unfold Lis at h
 exact Pure.enter (Fr.of 0 _) Tryz.func339 E (Fr.of_ok _) E E<|Kjm<|gA 2 E<|Kxo E E E E Z<|Kxn hΓ E E E Z<|bK h fun y1 hy1 h2=>gO 6 E<|Kkv C (Lpt hy1) E Z E E E E E<|bK h2 fun y3 hy3 h4=>Kkv C (Lpw hy3) E Z E E E E E<|gO 1 E<|Khr hΓ (gs:=[B y3.Six,U y3.Hi,U y3.Lo,I bits]) E E E E E E E<|Kxs hΓ E E E E E E E E Z<|Kld [.box 252 [B a.Six,U a.Hi,U a.Lo],.box 257 [B y3.Six,U y3.Hi,U y3.Lo,I bits]] E<|gO 3 E<|oSi h4▸gP E E
theorem Lpy{k:Nat}{s:Lgd}{r:Lgj×Lgd}(h:Liu k s=some r):EC Tryz.prog 255 [.ptr 0 0] [.box 25 (fQ s)] fun g hp'=>g=.agg [B r.1.Addr.Six,U r.1.Addr.Hi,U r.1.Addr.Lo,I r.1.Bits]∧hp'=[.box 25 (fQ r.2)]:=by
 unfold Liu at h
 refine Kvz (Fr.of 0 _) Tryz.func255 E (Fr.of_ok _) Z fun _=>Kjm<|gA 2 E<|Kxn hΓ E E E Z<|bK h fun y1 hy1 h2=>gO 5 E<|Kku [0] (.agg [B y1.1.Six,U y1.1.Hi,U y1.1.Lo]) [.box 25 (fQ y1.2),.box 257 [B false,U 0,U 0,I 0]] C (Lpp hy1) E Z E E E E E E E E E E<|Kxn hΓ E E E Z<|Kxs hΓ E E E E E E E E Z<|Kld [.box 25 (fQ y1.2),.box 257 [B false,U 0,U 0,I 0],.box 252 [B y1.1.Six,U y1.1.Hi,U y1.1.Lo]] E<|gO 5 E<|Kkp hΓ (enc:=(eN .i64)) [0,8,24,27,28,29,30,31,32] E E E E E E E E E E E E Z<|bK h2 fun y3 hy3 h4=>Kku [0] (I y3.1) [.box 25 (fQ y3.2),.box 257 [B false,U 0,U 0,I 0],.box 252 [B y1.1.Six,U y1.1.Hi,U y1.1.Lo]] C (Lod hy3) E Z E E E E E E E E E E<|bK h4 fun q5 hq5 h6=>gO 10 E<|Knu [(2,.ptr 1 0),(3,.ptr 2 0),(4,I q5.2)] [.box 25 (fQ q5.1),.box 257 [B false,U 0,U 0,I 0],.box 252 [B y1.1.Six,U y1.1.Hi,U y1.1.Lo]] ?_ ?_
 ·refine jC E hq5 (fun h7=>?_) fun h10=>gA 1 E<|oSi h10▸⟨⟨E,E,E,tV⟩,[],E,.inl E⟩
  exact gA 2 E<|Kkp hΓ (enc:=(eN .i64)) [0,8,32,48,63,64,65,96,127,128] E E E E E E E E E E E E Z<|bK h7 fun y8 hy8 h9=>Kku [0] (I y8.1) [.box 25 (fQ y8.2),.box 257 [B false,U 0,U 0,I 0],.box 252 [B y1.1.Six,U y1.1.Hi,U y1.1.Lo]] C (Lod hy8) E Z E E E E E E E E E E<|gO 2 E<|oSi h9▸⟨⟨E,E,E,tV⟩,[],E,.inl E⟩
 exact bK h6 fun y11 hy11 h12=>gA 5 E<|Kkv C (Lpx hy11) E Z E E E E E<|Kxs hΓ E E E E E E E E Z<|Kld [.box 25 (fQ q5.1),.box 257 [B y11.Addr.Six,U y11.Addr.Hi,U y11.Addr.Lo,I y11.Bits],.box 252 [B y1.1.Six,U y1.1.Hi,U y1.1.Lo]] E<|gO 3 E<|oSi h12▸Kli hΓ [_,_] (.inr E) E E E E (.inr ⟨HB.mk E,E⟩)
theorem Lpz{s:Lgd}{low:Int}{high:Int}{r:Int×Lgd}(h:Liv s low high=some r):EC Tryz.prog 256 [.ptr 0 0,I low,I high] [.box 25 (fQ s)] fun g hp'=>g=I r.1∧hp'=[.box 25 (fQ r.2)]:=by
 unfold Liv at h
 refine Kvz (Fr.of 0 _) Tryz.func256 E (Fr.of_ok _) Z fun _=>Kjm<|bK h fun y1 hy1 h2=>gA 9 E<|Kku [0] (B y1.1) [.box 25 (fQ y1.2)] C (Loe hy1) E Z E E E E E E E E E E<|gO 2 E<|jC E h2 (fun h3=>?_) fun h6=>bK h6 fun y7 hy7 h8=>gA 7 E<|Kku [0] (I y7.1) [.box 25 (fQ y7.2)] C (Loc hy7) E Z E E E E E E E E E E<|gO 4 E<|oSi h8▸Kli hΓ [] (.inr E) E E E E (.inl E)
 exact gA 9 E<|Kkp hΓ (enc:=(eN .i64)) [wi (low - 1),wi (high+1),low,high,-1099511627776,1099511627776] E E E E E E E E E E E E Z<|bK h3 fun y4 hy4 h5=>Kku [0] (I y4.1) [.box 25 (fQ y4.2)] C (Lod hy4) E Z E E E E E E E E E E<|gO 5 E<|oSi h5▸Kli hΓ [] (.inr E) E E E E (.inl E)
theorem Lqa{k:Nat}{s:Lgd}{r:Lgj×Lgd}(h:Liw k s=some r):EC Tryz.prog 175 [.ptr 0 0] [.box 25 (fQ s)] fun g hp'=>g=.agg [B r.1.Addr.Six,U r.1.Addr.Hi,U r.1.Addr.Lo,I r.1.Bits]∧hp'=[.box 25 (fQ r.2)]:=by
 unfold Liw at h
 refine Kvz (Fr.of 0 _) Tryz.func175 E (Fr.of_ok _) Z fun _=>Kjm<|gA 2 E<|Kxn hΓ E E E Z<|bK h fun y1 hy1 h2=>gO 5 E<|Kku [0] (.agg [B y1.1.Addr.Six,U y1.1.Addr.Hi,U y1.1.Addr.Lo,I y1.1.Bits]) [.box 25 (fQ y1.2),.box 257 [B false,U 0,U 0,I 0]] C (Lpy hy1) E Z E E E E E E E E E E<|Kxn hΓ E E E Z<|Kxs hΓ E E E E E E E E Z<|Kld [.box 25 (fQ y1.2),.box 257 [B false,U 0,U 0,I 0],.box 257 [B y1.1.Addr.Six,U y1.1.Addr.Hi,U y1.1.Addr.Lo,I y1.1.Bits]] E<|bK h2 fun y3 hy3 h4=>gO 6 E<|Kku [0] (B y3.1) [.box 25 (fQ y3.2),.box 257 [B false,U 0,U 0,I 0],.box 257 [B y1.1.Addr.Six,U y1.1.Addr.Hi,U y1.1.Addr.Lo,I y1.1.Bits]] C (Loe hy3) E Z E E E E E E E E E E<|bK h4 fun q5 hq5 h6=>gO 2 E<|Knu [(2,.ptr 1 0),(3,.ptr 2 0)] [.box 25 (fQ q5.1),.box 257 [B false,U 0,U 0,I 0],.box 257 [B q5.2.Addr.Six,U q5.2.Addr.Hi,U q5.2.Addr.Lo,I q5.2.Bits]] ?_ ?_
 ·refine jC E hq5 (fun h7=>?_) fun h12=>gA 1 E<|oSi h12▸⟨⟨E,E,tV⟩,[],E,.inl E⟩
  exact bK h7 fun y8 hy8 h9=>gA 2 E<|Kku [0] (.agg [B y8.1.Six,U y8.1.Hi,U y8.1.Lo]) [.box 25 (fQ y8.2),.box 257 [B false,U 0,U 0,I 0],.box 257 [B y1.1.Addr.Six,U y1.1.Addr.Hi,U y1.1.Addr.Lo,I y1.1.Bits]] C (Lpq hy8) E Z E E E E E E E E E E<|bK h9 fun y10 hy10 h11=>gO 1 E<|Kku [0] (I y10.1) [.box 25 (fQ y10.2),.box 257 [B false,U 0,U 0,I 0],.box 257 [B y1.1.Addr.Six,U y1.1.Addr.Hi,U y1.1.Addr.Lo,I y1.1.Bits]] C (Lpz hy10) E Z E E E E E E E E E E<|Khr hΓ (gs:=[B y8.1.Six,U y8.1.Hi,U y8.1.Lo,I y10.1]) E E E E E E E<|Kxs hΓ E E E E E E E E Z<|Kld [.box 25 (fQ y10.2),.box 257 [B false,U 0,U 0,I 0],.box 257 [B y8.1.Six,U y8.1.Hi,U y8.1.Lo,I y10.1]] E<|gO 1 E<|oSi h11▸⟨⟨E,E,tV⟩,[],E,.inl E⟩
 exact gA 4 E<|Kxs hΓ E E E E E E E E Z<|Kld [.box 25 (fQ q5.1),.box 257 [B q5.2.Addr.Six,U q5.2.Addr.Hi,U q5.2.Addr.Lo,I q5.2.Bits],.box 257 [B q5.2.Addr.Six,U q5.2.Addr.Hi,U q5.2.Addr.Lo,I q5.2.Bits]] E<|gO 3 E<|oSi h6▸Kli hΓ [_,_] (.inr E) E E E E (.inr ⟨HB.mk E,E⟩)
theorem Lqb{k:Nat}{s:Lgd}{al:BagT}{r:(List Lgk)×Lgd×BagT}(h:Lix k s al=some r):EC Tryz.prog 77 [.ptr 0 0] [.box 25 (fQ s),bg al] fun g hp'=>g=.sl 2 r.1.length∧hp'=[.box 25 (fQ r.2.1),bg r.2.2,rO 255 3 Lnq r.1]:=by
 unfold Lix at h
 refine Kqd (Fr.of 0 _) Tryz.func77 E (Fr.of_ok _) Z fun _=>Kjm<|gA 7 E<|Kks (t:=0) 255 3 E Z<|gO 5 E<|Kkp hΓ (enc:=eS) [[110,97],[110,98],[110,99],[110,100]] E E E E E E E E E E E E Z<|gO 4 E<|bK h fun q4 hq4 h5=>Kkd 8 E fun hb7=>Knu [(0,.ptr 0 0),(3,.sl 2 q4.2.2.length)] [.box 25 (fQ q4.1),bg q4.2.1,rO 255 3 Lnq q4.2.2] ?_ ?_
 ·refine gA 1 E<|Klk [[110,97],[110,98],[110,99],[110,100]] hq4 (fun i1 s2=>[(0,.ptr 0 0),(3,.sl 2 s2.2.2.length),(8,.d (Sl eS [[110,97],[110,98],[110,99],[110,100]])),(9,I ([[110,97],[110,98],[110,99],[110,100]].length:Int)),(10,I (i1:Int))]) (fun s2=>[.box 25 (fQ s2.1),bg s2.2.1,rO 255 3 Lnq s2.2.2]) ⟨⟨E,E,E,E,E,tV⟩,[],E,.inl E⟩ (fun i1 x3 s2 y11 hx8 hlt hy9=>?_) (?_)
  ·refine gA 6 E<|Kjo E (decide_eq_true (Int.ofNat_lt.2 hlt))<|gA 7 E<|eo_o E (Kke hΓ (enc:=eS) (Kjx hx8) E E E E E (fun _=>E))<|bK hy9 fun y12 hy12 h13=>gO 9 E<|Kku [0] (B y12.1) [.box 25 (fQ y12.2),bg s2.2.1,rO 255 3 Lnq s2.2.2] C (Loe hy12) E Z E E E E E E E E E E<|gO 2 E<|jC E h13 (fun h14=>?_) fun h15=>bK h15 fun y16 hy16 h17=>gA 7 E<|Kkv C (Lpn hy16) E Z E E E E E<|eo_s Z (nblt.1 E) (Kpi hΓ (enc:=Lno) [y16] E E E E E E E E E E E)<|eo_o E (Kqn (Kok hΓ [2] (gs:=[S x3,.d (Slf Lno [y16]),.d (.v (.slice none 0 0))]) E E E E E E) (g':=.agg [S x3,.d (Slt 252 3 Lno (1,[y16])),.d (Slt 257 4 Lnp (1,[]))]) (G.Le.agg ⟨.refl _,G.Le.tagF,G.Le.tagN,tV⟩))<|eo_s Z (nblt.1 E) (Kqo hΓ [1,2] [S [],.d (Slt 252 3 Lno (1,[])),.d (Slt 257 4 Lnp (1,[]))] (hi:=show Γ 255=some ⟨_,_,_,_⟩ from E) E ⟨.refl _,G.Le.tagN,G.Le.tagN,tV⟩)<|Kld [.box 25 (fQ y12.2),bg s2.2.1,rO 255 3 Lnq s2.2.2,.box 255 [S [],.d (Slt 252 3 Lno (1,[])),.d (Slt 257 4 Lnp (1,[]))]] E<|Kxs hΓ E E E E E E E E Z<|Kld [.box 25 (fQ y12.2),bg s2.2.1,rO 255 3 Lnq s2.2.2,.box 255 [S x3,.d (Slt 252 3 Lno (1,[y16])),.d (Slt 257 4 Lnp (1,[]))]] E<|bK h17 fun y18 hy18 h19=>gO 6 E<|Kku [0] (B y18.1) [.box 25 (fQ y18.2),bg s2.2.1,rO 255 3 Lnq s2.2.2,.box 255 [S x3,.d (Slt 252 3 Lno (1,[y16])),.d (Slt 257 4 Lnp (1,[]))]] C (Loe hy18) E Z E E E E E E E E E E<|bK h19 fun q20 hq20 h21=>gO 2 E<|Knu [(0,.ptr 0 0),(3,.sl 2 s2.2.2.length),(6,.ptr 3 0),(8,.d (Sl eS [[110,97],[110,98],[110,99],[110,100]])),(9,I ([[110,97],[110,98],[110,99],[110,100]].length:Int)),(10,I (i1:Int))] [.box 25 (fQ y18.2),bg q20.1,rO 255 3 Lnq s2.2.2,.box 255 [S x3,.d (Slt 252 3 Lno q20.2),.d (Slt 257 4 Lnp (1,[]))]] ?_ ?_
   ·refine gA 8 E ?_
    cases h14
    exact⟨⟨E,E,E,E,Kiv E (Kiu (nLl hlt hb7)),tV⟩,[],E,.inl E⟩
   ·refine jC E hq20 (fun h22=>?_) fun h27=>gA 1 E<|oSi h27▸⟨⟨E,E,E,E,E,E,tV⟩,[],E,.inl E⟩
    exact Kmu [.dead,.dead,.dead,.box 255 [S x3,.d (Slt 252 3 Lno (1,[y16])),.d (Slt 257 4 Lnp (1,[]))]] [1] [6,8] [8] hmix (by kernel_rfl) (by kernel_rfl) ⟨E,tV⟩ Z<|bK h22 fun y23 hy23 h24=>go_E hΓ 4 E<|Knh C (Lpo hy23) E E E E E E<|Kni hΓ (enc:=Lno) [y23] E E E E E E E E E E E E<|bK h24 fun y25 hy25 h26=>ge_h [.box 25 (fQ y18.2),.bag y25.2 (arX s2.2.1.2.1 s2.2.1.2.2.1 s2.2.1.2.2.2.1 s2.2.1.2.2.2.2.1 s2.2.1.2.2.2.2.2) [],rO 255 3 Lnq s2.2.2,.box 255 [S x3,.d (Slt 252 3 Lno (1,[y16])),.d (Slt 257 4 Lnp (1,[]))]] E E E (Knb ⟨E,tV⟩) (Kne (Kqm hΓ (enc:=Lno) (bg:=1) hy25 E E E E E E E E (fun _=>E) E E))<|go_E hΓ 1 E<|Kmz [.box 25 (fQ y18.2),.bag y25.2 (arX s2.2.1.2.1 s2.2.1.2.2.1 s2.2.1.2.2.2.1 s2.2.1.2.2.2.2.1 s2.2.1.2.2.2.2.2) [],rO 255 3 Lnq s2.2.2,.box 255 [S x3,.d (Slt 252 3 Lno y25.1),.d (Slt 257 4 Lnp (1,[]))]] E E (Kna E) (Knf (Kof hΓ E E E E E E E E E))<|Kmw<|oSi h26▸⟨⟨E,E,E,E,E,E,tV⟩,[],E,.inl E⟩
   refine bK h21 fun y28 hy28 h29=>gA 5 E<|Kku [0] (B y28.1) [.box 25 (fQ y28.2),bg q20.1,rO 255 3 Lnq s2.2.2,.box 255 [S x3,.d (Slt 252 3 Lno q20.2),.d (Slt 257 4 Lnp (1,[]))]] C (Loe hy28) E Z E E E E E E E E E E<|bK h29 fun q30 hq30 h31=>gO 2 E<|Knu [(0,.ptr 0 0),(3,.sl 2 s2.2.2.length),(6,.ptr 3 0),(8,.d (Sl eS [[110,97],[110,98],[110,99],[110,100]])),(9,I ([[110,97],[110,98],[110,99],[110,100]].length:Int)),(10,I (i1:Int))] [.box 25 (fQ q30.1),bg q30.2.1,rO 255 3 Lnq s2.2.2,.box 255 [S x3,.d (Slt 252 3 Lno q20.2),.d (Slt 257 4 Lnp q30.2.2)]] ?_ ?_
   ·refine jC E hq30 (fun h32=>?_) fun h37=>gA 1 E<|oSi h37▸⟨⟨E,E,E,E,E,E,tV⟩,[],E,.inl E⟩
    exact Kmu [.dead,.dead,.dead,.box 255 [S x3,.d (Slt 252 3 Lno q20.2),.d (Slt 257 4 Lnp (1,[]))]] [1] [5,8,10] [10] hmix (by kernel_rfl) (by kernel_rfl) ⟨E,tV⟩ Z<|go_E hΓ 2 E<|ge_q E (.inl E) (fun _ _=>Kmx (qt_p (Knl hΓ (gs:=[B false,U 0,U 167772160]) E E E E E E)))<|go_E hΓ 1 E<|Kni hΓ (enc:=(eN .i64)) [8,16] E E E E E E E E E E E E<|bK h32 fun y33 hy33 h34=>ge_h [.box 25 (fQ y33.2),bg q20.1,rO 255 3 Lnq s2.2.2,.box 255 [S x3,.d (Slt 252 3 Lno q20.2),.d (Slt 257 4 Lnp (1,[]))]] E E E (Knb ⟨E,tV⟩) (Kng [0] (I y33.1) [.box 25 (fQ y33.2),bg q20.1,rO 255 3 Lnq s2.2.2,.box 255 [S x3,.d (Slt 252 3 Lno q20.2),.d (Slt 257 4 Lnp (1,[]))]] C (Lod hy33) E E E E E E E E E E)<|ge_q E (.inl E) (fun _ _=>Kmx (qt_p (Knl hΓ (gs:=[B false,U 0,U 167772160,I y33.1]) E E E E E E)))<|Kni hΓ (enc:=Lnp) [(⟨(⟨false,0,167772160⟩:Lgi),y33.1⟩:Lgj)] E E E E E E E E E E E E<|bK h34 fun y35 hy35 h36=>ge_h [.box 25 (fQ y33.2),.bag y35.2 (arX q20.1.2.1 q20.1.2.2.1 q20.1.2.2.2.1 q20.1.2.2.2.2.1 q20.1.2.2.2.2.2) [],rO 255 3 Lnq s2.2.2,.box 255 [S x3,.d (Slt 252 3 Lno q20.2),.d (Slt 257 4 Lnp (1,[]))]] E E E (Knb ⟨E,tV⟩) (Kne (Kqm hΓ (enc:=Lnp) (bg:=1) hy35 E E E E E E E E (fun _=>E) E E))<|go_E hΓ 1 E<|Kmz [.box 25 (fQ y33.2),.bag y35.2 (arX q20.1.2.1 q20.1.2.2.1 q20.1.2.2.2.1 q20.1.2.2.2.2.1 q20.1.2.2.2.2.2) [],rO 255 3 Lnq s2.2.2,.box 255 [S x3,.d (Slt 252 3 Lno q20.2),.d (Slt 257 4 Lnp y35.1)]] E E (Kna E) (Knf (Kof hΓ E E E E E E E E E))<|Kmw<|oSi h36▸⟨⟨E,E,E,E,E,E,tV⟩,[],E,.inl E⟩
   refine bK h31 fun y38 hy38 h39=>gA 5 E<|Kku [0] (B y38.1) [.box 25 (fQ y38.2),bg q30.2.1,rO 255 3 Lnq s2.2.2,.box 255 [S x3,.d (Slt 252 3 Lno q20.2),.d (Slt 257 4 Lnp q30.2.2)]] C (Loe hy38) E Z E E E E E E E E E E<|bK h39 fun q40 hq40 h41=>gO 2 E<|Knu [(0,.ptr 0 0),(3,.sl 2 s2.2.2.length),(6,.ptr 3 0),(8,.d (Sl eS [[110,97],[110,98],[110,99],[110,100]])),(9,I ([[110,97],[110,98],[110,99],[110,100]].length:Int)),(10,I (i1:Int))] [.box 25 (fQ y38.2),bg q40.1,rO 255 3 Lnq s2.2.2,.box 255 [S x3,.d (Slt 252 3 Lno q20.2),.d (Slt 257 4 Lnp q40.2)]] ?_ ?_
   ·refine jC E hq40 (fun h42=>?_) fun h45=>gA 1 E<|oSi h45▸⟨⟨E,E,E,E,E,E,tV⟩,[],E,.inl E⟩
    exact gA 3 E<|Khr hΓ (gs:=[B false,U 0,U 0,I 0]) E E E E E E E<|Kkp hΓ (enc:=Lnp) [(⟨(⟨false,0,0⟩:Lgi),0⟩:Lgj)] E E E E E E E E E E E E Z<|bK h42 fun y43 hy43 h44=>eo_s Z (nblt.1 E) (Kqm hΓ (enc:=Lnp) (bg:=1) hy43 E E E E E E E E (fun _=>E) E E)<|gO 1 E<|Kxs hΓ E E E E E E E E Z<|Kld [.box 25 (fQ y38.2),.bag y43.2 (arX q30.2.1.2.1 q30.2.1.2.2.1 q30.2.1.2.2.2.1 q30.2.1.2.2.2.2.1 q30.2.1.2.2.2.2.2) [],rO 255 3 Lnq s2.2.2,.box 255 [S x3,.d (Slt 252 3 Lno q20.2),.d (Slt 257 4 Lnp y43.1)]] E<|gO 1 E<|oSi h44▸⟨⟨E,E,E,E,E,E,tV⟩,[],E,.inl E⟩
   refine gA 4 E<|Kkp hΓ (enc:=Lnq) [(⟨x3,q20.2,q40.2⟩:Lgk)] E E E E E E E E E E E E Z<|bK h41 fun y46 hy46 h47=>Kle hΓ (enc:=Lnq) hy46 E E E E E E E E E (fun _=>E) E E E E<|gO 8 E ?_
   cases h47
   exact⟨⟨E,E,E,E,Kiv E (Kiu (nLl hlt hb7)),tV⟩,[_],E,.inr ⟨HB.mk E,FB.mk E,Z⟩⟩
  exact gA 6 E<|Kjp E (decide_eq_false (Int.lt_irrefl _))<|gA 4 E<|⟨⟨E,E,tV⟩,[],E,.inl E⟩
 refine gA 8 E<|bK h5 fun q48 hq48 h49=>Kjt 3 [(0,.ptr 0 0),(3,.sl 2 q4.2.2.length),(64,B q48.2)] [.box 25 (fQ q48.1),bg q4.2.1,rO 255 3 Lnq q4.2.2] ?_ ?_
 ·refine Kwh E E (fun hb=>?_) (fun hb=>?_)
  ·have h50:=cT hq48 hb
   exact bK h50 fun y51 hy51 h52=>gO 1 E<|Kwf E<|Kku [0] (B y51.1) [.box 25 (fQ y51.2),bg q4.2.1,rO 255 3 Lnq q4.2.2] C (Loe hy51) E Z E E E E E E E E E E<|gO 2 E<|oSi h52▸⟨⟨E,E,E,tV⟩,[],E,.inl E⟩
  have h53:=cF hq48 hb
  exact gO 4 E<|oSi h53▸⟨⟨E,E,E,tV⟩,[],E,.inl E⟩
 refine bK h49 fun q54 hq54 h55=>gO 2 E<|Knu [(3,.sl 2 q54.2.2.length)] [.box 25 (fQ q54.1),bg q54.2.1,rO 255 3 Lnq q54.2.2] ?_ ?_
 ·refine jC E hq54 (fun h56=>?_) fun h80=>gA 1 E<|oSi h80▸⟨⟨E,tV⟩,[],E,.inl E⟩
  refine bK h56 fun y57 hy57 h58=>gA 6 E<|Kku [0] (I y57.1) [.box 25 (fQ y57.2),bg q4.2.1,rO 255 3 Lnq q4.2.2] C (Lob hy57) E Z E E E E E E E E E E<|bK h58 fun x59 hx59 h60=>?_
  have hj61:=Kln hx59
  refine eo_o E (Kkg hΓ hx59 E E E E E E)<|bK h60 fun y62 hy62 h63=>gO 6 E<|Kku [0] (I y62.1) [.box 25 (fQ y62.2),bg q4.2.1,rO 255 3 Lnq q4.2.2] C (Lob hy62) E Z E E E E E E E E E E<|gO 3 E<|gA 6 E<|jC E h63 (fun h64=>?_) fun h67=>gA 6 E<|jC E h67 (fun h68=>?_) fun h75=>?_
  ·exact gA 3 E<|Kkp hΓ (enc:=eS) [[],[110,97]] E E E E E E E E E E E E Z<|bK h64 fun y65 hy65 h66=>Kku [0] (S y65.1) [.box 25 (fQ y65.2),bg q4.2.1,rO 255 3 Lnq q4.2.2] C (Log hy65) E Z E E E E E E E E E E<|gO 2 E<|Kko hΓ (enc:=Lnq) (z':=(⟨y65.1,x59.Addrs,x59.Routes⟩:Lgk)) y57.1.toNat 0 hj61 E E E E (fun _=>E) E E E E E E Z<|Kld [.box 25 (fQ y65.2),bg q4.2.1,rO 255 3 Lnq (q4.2.2.set y57.1.toNat (⟨y65.1,x59.Addrs,x59.Routes⟩:Lgk))] E<|Koe 3 (n':=(q4.2.2.set y57.1.toNat (⟨y65.1,x59.Addrs,x59.Routes⟩:Lgk)).length) E List.length_set.symm<|gO 2 E<|oSi h66▸⟨⟨E,tV⟩,[],E,.inl E⟩
  ·exact Kmu [.dead,.dead,rO 255 3 Lnq q4.2.2] [4] [6,9,12] [12] hmix (by kernel_rfl) (by kernel_rfl) ⟨E,tV⟩ Z<|go_E hΓ 4 E<|ge_p E (fun hp hs=>Kkm hΓ (enc:=Lnq) y57.1.toNat 1 hj61 E E E (hs 2 _ E E) (fun _=>E) (g:=.d (Slt 252 3 Lno x59.Addrs)) E) E<|bK h68 fun y69 hy69 h70=>go_E hΓ 1 E<|ge_h [.box 25 (fQ y69.2),bg q4.2.1,rO 255 3 Lnq q4.2.2] E E E (Knb ⟨E,tV⟩) (Kng [0] (.agg [B y69.1.Six,U y69.1.Hi,U y69.1.Lo]) [.box 25 (fQ y69.2),bg q4.2.1,rO 255 3 Lnq q4.2.2] C (Lpq hy69) E E E E E E E E E E)<|bK h70 fun y71 hy71 h72=>Knh C (Lpn hy71) E E E E E E<|Kni hΓ (enc:=Lno) [y69.1,y71] E E E E E E E E E E E E<|bK h72 fun y73 hy73 h74=>ge_h [.box 25 (fQ y69.2),.bag y73.2 (arX q4.2.1.2.1 q4.2.1.2.2.1 q4.2.1.2.2.2.1 q4.2.1.2.2.2.2.1 q4.2.1.2.2.2.2.2) [],rO 255 3 Lnq q4.2.2] E E E (Knb ⟨E,tV⟩) (Kne (Kqm hΓ (enc:=Lno) (bg:=1) hy73 E E E E E E E E (fun _=>E) E E))<|go_E hΓ 2 E<|Kmz [.box 25 (fQ y69.2),.bag y73.2 (arX q4.2.1.2.1 q4.2.1.2.2.1 q4.2.1.2.2.2.1 q4.2.1.2.2.2.2.1 q4.2.1.2.2.2.2.2) [],rO 255 3 Lnq (q4.2.2.set y57.1.toNat (⟨x59.Node,y73.1,x59.Routes⟩:Lgk))] E E (Kna E) (Knf (Kpj hΓ (enc:=Lnq) (z':=(⟨x59.Node,y73.1,x59.Routes⟩:Lgk)) y57.1.toNat 1 hj61 E E E E (fun _=>E) E E E E E E E))<|Kmw<|gA 1 E<|oSi h74▸⟨⟨Kuv E (by simp),tV⟩,[],E,.inl E⟩
  exact Kmu [.dead,.dead,rO 255 3 Lnq q4.2.2] [4] [6,9,12] [12] hmix (by kernel_rfl) (by kernel_rfl) ⟨E,tV⟩ Z<|go_E hΓ 4 E<|ge_p E (fun hp hs=>Kkm hΓ (enc:=Lnq) y57.1.toNat 2 hj61 E E E (hs 2 _ E E) (fun _=>E) (g:=.d (Slt 257 4 Lnp x59.Routes)) E) E<|bK h75 fun y76 hy76 h77=>go_E hΓ 1 E<|ge_h [.box 25 (fQ y76.2),bg q4.2.1,rO 255 3 Lnq q4.2.2] E E E (Knb ⟨E,tV⟩) (Kng [0] (.agg [B y76.1.Addr.Six,U y76.1.Addr.Hi,U y76.1.Addr.Lo,I y76.1.Bits]) [.box 25 (fQ y76.2),bg q4.2.1,rO 255 3 Lnq q4.2.2] C (Lqa hy76) E E E E E E E E E E)<|ge_q E (.inl E) (fun _ _=>Kmx (qt_p (Knl hΓ (gs:=[B false,U 0,U 0,I 0]) E E E E E E)))<|Kni hΓ (enc:=Lnp) [y76.1,(⟨(⟨false,0,0⟩:Lgi),0⟩:Lgj)] E E E E E E E E E E E E<|bK h77 fun y78 hy78 h79=>ge_h [.box 25 (fQ y76.2),.bag y78.2 (arX q4.2.1.2.1 q4.2.1.2.2.1 q4.2.1.2.2.2.1 q4.2.1.2.2.2.2.1 q4.2.1.2.2.2.2.2) [],rO 255 3 Lnq q4.2.2] E E E (Knb ⟨E,tV⟩) (Kne (Kqm hΓ (enc:=Lnp) (bg:=1) hy78 E E E E E E E E (fun _=>E) E E))<|go_E hΓ 2 E<|Kmz [.box 25 (fQ y76.2),.bag y78.2 (arX q4.2.1.2.1 q4.2.1.2.2.1 q4.2.1.2.2.2.1 q4.2.1.2.2.2.2.1 q4.2.1.2.2.2.2.2) [],rO 255 3 Lnq (q4.2.2.set y57.1.toNat (⟨x59.Node,x59.Addrs,y78.1⟩:Lgk))] E E (Kna E) (Knf (Kpj hΓ (enc:=Lnq) (z':=(⟨x59.Node,x59.Addrs,y78.1⟩:Lgk)) y57.1.toNat 2 hj61 E E E E (fun _=>E) E E E E E E E))<|Kmw<|gA 1 E<|oSi h79▸⟨⟨Kuv E (by simp),tV⟩,[],E,.inl E⟩
 exact gA 8 E<|Knq<|oSi h55▸Kli hΓ [] (.inr E) E E E E (.inl E)
theorem Lqc{s:Lgd}{r:Int×Lgd}(h:Liy s=some r):EC Tryz.prog 42 [.ptr 0 0] [.box 25 (fQ s)] fun g hp'=>g=I r.1∧hp'=[.box 25 (fQ r.2)]:=by
 unfold Liy at h
 exact Kvz (Fr.of 0 _) Tryz.func42 E (Fr.of_ok _) Z fun _=>Kjm<|bK h fun y1 hy1 h2=>gA 9 E<|Kku [0] (I y1.1) [.box 25 (fQ y1.2)] C (Lob hy1) E Z E E E E E E E E E E<|bK h2 fun y3 hy3 h4=>gO 1 E<|Kku [0] (I y3.1) [.box 25 (fQ y3.2)] C (Lob hy3) E Z E E E E E E E E E E<|gO 1 E<|Kkp hΓ (enc:=(eN .i64)) [345686399,-1,345686400] E E E E E E E E E E E E Z<|bK h4 fun y5 hy5 h6=>Kku [0] (I y5.1) [.box 25 (fQ y5.2)] C (Lod hy5) E Z E E E E E E E E E E<|Kkp hΓ (enc:=(eN .i64)) [0,5,20,40,60,80,120,y1.1,y3.1,y5.1] E E E E E E E E E E E E Z<|bK h6 fun y7 hy7 h8=>Kku [0] (I y7.1) [.box 25 (fQ y7.2)] C (Lod hy7) E Z E E E E E E E E E E<|gO 4 E<|oSi h8▸Kli hΓ [] (.inr E) E E E E (.inl E)
theorem Lqd{k:Nat}{s:Str}{r:Bool}(h:Liz k s=some r):Pure Tryz.prog 107 [S s] (B r):=by
 unfold Liz at h
 refine Pure.enter (Fr.of 0 _) Tryz.func107 E (Fr.of_ok _) E E<|Kjm<|gA 11 E<|bK h fun q4 hq4 h5=>Knt (R:=fun a6=>q4=.inl a6) (fun a6=>[(0,S s)]) (fun a6=>[]) ?_ ?_
 ·refine gA 1 E<|Kka hq4 (fun s2=>[(0,S s),(3,I s2)]) (fun s2=>[]) ⟨⟨E,E,tV⟩,[],E,.inl E⟩ (fun s2 y10 hy8 hout9=>?_)
  refine gA 9 E<|Kjn E (fun hb=>?_) (fun hb=>?_)
  ·have h11:=cT hy8 hb
   refine bK h11 fun c12 hc12 h13=>gA 8 E<|eo_o E (Kkf hΓ hc12 E E E E)<|gO 8 E<|Kjt 3 [(0,S s),(3,I s2),(4,.d (.v (.int .u8 (c12.toNat:Int)))),(19,B ((decide (((c12.toNat:Int):Int)≥97))&&(decide (((c12.toNat:Int):Int)≤122))))] [] ?_ ?_
   ·refine Kwh E E (fun hb=>?_) (fun hb=>?_)
    ·exact gO 4 E<|⟨⟨E,E,E,Kiw E (Klo hb),tV⟩,[],E,.inl E⟩
    exact gO 4 E<|⟨⟨E,E,E,Kiw E (Klp hb),tV⟩,[],E,.inl E⟩
   refine gO 1 E<|Kjt 19 [(0,S s),(3,I s2),(39,B (((decide (((c12.toNat:Int):Int)≥97))&&(decide (((c12.toNat:Int):Int)≤122)))||((decide ((s2:Int)>0))&&((((decide (((c12.toNat:Int):Int)≥48))&&(decide (((c12.toNat:Int):Int)≤57)))||(((c12.toNat:Int):Int)==45))||(((c12.toNat:Int):Int)==95)))))] [] ?_ ?_
   ·refine Kwh E E (fun hb=>?_) (fun hb=>?_)
    ·exact gO 20 E<|⟨⟨E,E,Kiw E (or_t hb),tV⟩,[],E,.inl E⟩
    refine gO 3 E<|Kjt 15 [(0,S s),(3,I s2),(20,B false),(38,B ((decide ((s2:Int)>0))&&((((decide (((c12.toNat:Int):Int)≥48))&&(decide (((c12.toNat:Int):Int)≤57)))||(((c12.toNat:Int):Int)==45))||(((c12.toNat:Int):Int)==95))))] [] ?_ ?_
    ·refine Kwh E E (fun hb=>?_) (fun hb=>?_)
     ·refine gO 3 E<|Kjt 3 [(0,S s),(3,I s2),(4,.d (.v (.int .u8 (c12.toNat:Int)))),(20,B false),(23,B true),(29,B ((decide (((c12.toNat:Int):Int)≥48))&&(decide (((c12.toNat:Int):Int)≤57))))] [] ?_ ?_
      ·refine Kwh E E (fun hb=>?_) (fun hb=>?_)
       ·exact gO 4 E<|⟨⟨E,E,E,E,E,Kiw E (Klo hb),tV⟩,[],E,.inl E⟩
       exact gO 4 E<|⟨⟨E,E,E,E,E,Kiw E (Klp hb),tV⟩,[],E,.inl E⟩
      refine gO 1 E<|Kjt 3 [(0,S s),(3,I s2),(4,.d (.v (.int .u8 (c12.toNat:Int)))),(20,B false),(23,B true),(33,B (((decide (((c12.toNat:Int):Int)≥48))&&(decide (((c12.toNat:Int):Int)≤57)))||(((c12.toNat:Int):Int)==45)))] [] ?_ ?_
      ·refine Kwh E E (fun hb=>?_) (fun hb=>?_)
       ·exact gO 4 E<|⟨⟨E,E,E,E,E,Kiw E (or_t hb),tV⟩,[],E,.inl E⟩
       exact gO 4 E<|⟨⟨E,E,E,E,E,Kiw E (or_f hb),tV⟩,[],E,.inl E⟩
      refine gO 1 E<|Kjt 3 [(0,S s),(3,I s2),(20,B false),(23,B true),(37,B ((((decide (((c12.toNat:Int):Int)≥48))&&(decide (((c12.toNat:Int):Int)≤57)))||(((c12.toNat:Int):Int)==45))||(((c12.toNat:Int):Int)==95)))] [] ?_ ?_
      ·refine Kwh E E (fun hb=>?_) (fun hb=>?_)
       ·exact gO 4 E<|⟨⟨E,E,E,E,Kiw E (or_t hb),tV⟩,[],E,.inl E⟩
       exact gO 4 E<|⟨⟨E,E,E,E,Kiw E (or_f hb),tV⟩,[],E,.inl E⟩
      exact gO 2 E<|⟨⟨E,E,E,Kiw E (Klo hb),tV⟩,[],E,.inl E⟩
     exact gO 16 E<|⟨⟨E,E,E,Kiw E (Klp hb),tV⟩,[],E,.inl E⟩
    exact gO 2 E<|⟨⟨E,E,Kiw E (or_f hb),tV⟩,[],E,.inl E⟩
   refine gO 3 E<|jC E h13 (fun h14=>?_) fun h17=>gA 8 E<|oSi h17▸⟨_,E,⟨⟨E,E,tV⟩,[],E,.inl E⟩⟩
   refine gA 8 E<|bK h14 fun v15 hv15 h16=>?_
   cases h16
   obtain rfl:=hout9 _ rfl
   cases h5
   exact gA 4 E<|oSi hv15▸gP E E
  have h18:=cF hy8 hb
  refine gA 4 E ?_
  cases h18
  obtain rfl:=hout9 _ rfl
  exact⟨_,E,⟨⟨E,tV⟩,[],E,.inl E⟩⟩
 intro a6 ha
 subst ha
 replace h5:=Knn h5
 refine gA 6 E<|Kjt 4 [(47,B ((!((s:Str)==[]))&&(decide (((s.length:Int):Int)≤40))))] [] ?_ ?_
 ·refine Kwh E E (fun hb=>?_) (fun hb=>?_)
  ·exact gO 5 E<|⟨⟨Kiw E (Klo hb),tV⟩,[],E,.inl E⟩
  exact gO 5 E<|⟨⟨Kiw E (Klp hb),tV⟩,[],E,.inl E⟩
 exact gO 4 E<|oSi h5▸gP E E
theorem Lqe{k:Nat}{l:List Str}{r:Int}(h:Lja k l=some r):Pure Tryz.prog 106 [.d (Sl eS l)] (I r):=by
 unfold Lja at h
 refine Pure.enter (Fr.of 0 _) Tryz.func106 E (Fr.of_ok _) E E<|Kjm<|gA 13 E<|bK h fun q4 hq4 h5=>Kkd 0 E fun hb7=>Knt (R:=fun a6=>q4=.go a6) (fun a6=>[]) (fun a6=>[]) ?_ ?_
 ·refine gA 1 E<|Kkc l hq4 (fun i1 s2=>[(0,.d (Sl eS l)),(5,.d (Sl eS l)),(6,I (l.length:Int)),(7,I (i1:Int))]) (fun s2=>[]) ⟨⟨E,E,E,E,tV⟩,[],E,.inl E⟩ (fun i1 x3 s2 y11 hx8 hlt hy9 hout10=>?_) (fun s2 hgo=>?_)
  ·refine gA 6 E<|Kjo E (decide_eq_true (Int.ofNat_lt.2 hlt))<|gA 7 E<|eo_o E (Kke hΓ (enc:=eS) (Kjx hx8) E E E E E (fun _=>E))<|bK hy9 fun y12 hy12 h13=>gO 9 E<|Kkv C (Lqd hy12) E Z E E E E E<|gO 3 E<|jC E h13 (fun h14=>?_) fun h17=>gA 7 E<|bK h17 fun q18 hq18 h19=>Kjt 8 [(0,.d (Sl eS l)),(5,.d (Sl eS l)),(6,I (l.length:Int)),(7,I (i1:Int)),(25,B q18)] [] ?_ ?_
   ·refine gA 9 E<|bK h14 fun v15 hv15 h16=>?_
    cases h16
    obtain rfl:=hout10 _ rfl
    cases h5
    exact gA 4 E<|oSi hv15▸gP E E
   ·refine Kwh E E (fun hb=>?_) (fun hb=>?_)
    ·have h20:=cT hq18 hb
     exact bK h20 fun x21 hx21 h22=>gO 4 E<|Kwf E<|eo_o E (Kke hΓ (enc:=eS) hx21 E E E E E (fun _=>E))<|gO 4 E<|oSi h22▸⟨⟨E,E,E,E,E,tV⟩,[],E,.inl E⟩
    have h23:=cF hq18 hb
    exact gO 9 E<|oSi h23▸⟨⟨E,E,E,E,E,tV⟩,[],E,.inl E⟩
   refine gO 2 E<|jC E h19 (fun h24=>?_) fun h27=>gA 7 E ?_
   ·refine gA 8 E<|bK h24 fun v25 hv25 h26=>?_
    cases h26
    obtain rfl:=hout10 _ rfl
    cases h5
    exact gA 4 E<|oSi hv25▸gP E E
   cases h27
   exact⟨_,E,⟨⟨E,E,E,Kiv E (Kiu (nLl hlt hb7)),tV⟩,[],E,.inl E⟩⟩
  subst hgo
  exact gA 6 E<|Kjp E (decide_eq_false (Int.lt_irrefl _))<|gA 4 E<|⟨_,E,⟨tV,[],E,.inl E⟩⟩
 intro a6 ha
 subst ha
 replace h5:=Kno h5
 exact gA 7 E<|oSi h5▸gP E E
theorem Lqf{n:Int}{low:Int}{high:Int}{r:Bool}(h:Ljb n low high=some r):Pure Tryz.prog 108 [I n,I low,I high] (B r):=by
 unfold Ljb at h
 refine Pure.enter (Fr.of 0 _) Tryz.func108 E (Fr.of_ok _) E E<|Kjm<|gA 11 E<|Kjt 4 [(6,B false),(14,B ((decide ((n:Int)<low))||(decide ((n:Int)>high))))] [] ?_ ?_
 ·refine Kwh E E (fun hb=>?_) (fun hb=>?_)
  ·exact gO 5 E<|⟨⟨E,Kiw E (or_t hb),tV⟩,[],E,.inl E⟩
  exact gO 5 E<|⟨⟨E,Kiw E (or_f hb),tV⟩,[],E,.inl E⟩
 exact gO 4 E<|oSi h▸gP E E
theorem Lqg{k:Nat}{d:Lgf}{r:Int}(h:Ljc k d=some r):Pure Tryz.prog 29 [.agg (fD d)] (I r):=by
 unfold Ljc at h
 refine Pure.enter (Fr.of 0 _) Tryz.func29 E (Fr.of_ok _) E E<|Kjm<|gA 2 E<|Kxo E E E E Z<|gO 12 E<|jC E h (fun h1=>?_) fun h2=>bK h2 fun y3 hy3 h4=>gA 7 E<|Kkv C (Lqe hy3) E Z E E E E E<|gO 9 E<|jC E h4 (fun h5=>?_) fun h6=>?_
 ·exact gA 7 E<|oSi h1▸gP E E
 ·exact gA 8 E<|oSi h5▸gP E E
 refine gA 11 E<|jC E h6 (fun h7=>?_) fun h8=>gA 11 E<|bK h8 fun q12 hq12 h13=>Kkd 23 E fun hb15=>Knt (R:=fun a14=>q12=.go a14) (fun a14=>[(1,.ptr 0 0)]) (fun a14=>[.box 29 (fD d)]) ?_ ?_
 ·exact gA 7 E<|oSi h7▸gP E E
 ·refine gA 1 E<|Kkc d.Owners hq12 (fun i9 s10=>[(1,.ptr 0 0),(23,.d (Sl Lnk d.Owners)),(24,I (d.Owners.length:Int)),(25,I (i9:Int))]) (fun s10=>[.box 29 (fD d)]) ⟨⟨E,E,E,E,tV⟩,[],E,.inl E⟩ (fun i9 x11 s10 y19 hx16 hlt hy17 hout18=>?_) (fun s10 hgo=>?_)
  ·refine gA 6 E<|Kjo E (decide_eq_true (Int.ofNat_lt.2 hlt))<|gA 7 E<|eo_o E (Kke hΓ (enc:=Lnk) (Kjx hx16) E E E E E (fun _=>E))<|gO 1 E<|Kxn hΓ E E E Z<|gO 1 E<|Kxs hΓ E E E E E E E E Z<|Kld [.box 29 (fD d),.box 155 [S x11.Tag,.d (Sl eS x11.Users)]] E<|bK hy17 fun y20 hy20 h21=>gO 7 E<|Kkv C (Lqd hy20) E Z E E E E E<|gO 3 E<|jC E h21 (fun h22=>?_) fun h25=>bK h25 fun q26 hq26 h27=>gA 4 E<|Knu [(1,.ptr 0 0),(5,.ptr 1 0),(23,.d (Sl Lnk d.Owners)),(24,I (d.Owners.length:Int)),(25,I (i9:Int)),(47,B q26)] [.box 29 (fD d),.box 155 [S x11.Tag,.d (Sl eS x11.Users)]] ?_ ?_
   ·refine gA 9 E<|bK h22 fun v23 hv23 h24=>?_
    cases h24
    obtain rfl:=hout18 _ rfl
    cases h13
    exact gA 4 E<|oSi hv23▸gP E E
   ·refine Kjq hmix (by kernel_rfl)<|gA 3 E<|Kib E E (fun hb=>?_) (fun hb=>?_)
    ·have h28:=cT hq26 hb
     exact bK h28 fun x29 hx29 h30=>Kjl hΓ 6 E<|Kix E E (Kke hΓ (enc:=Lnk) hx29 E E E E E (fun _=>E))<|Kjl hΓ 5 E<|oSi h30▸⟨⟨E,E,E,E,E,E,tV⟩,[],E,.inl E⟩
    have h31:=cF hq26 hb
    exact Kjl hΓ 12 E<|oSi h31▸⟨⟨E,E,E,E,E,E,tV⟩,[],E,.inl E⟩
   refine gA 1 E<|jC E h27 (fun h32=>?_) fun h35=>gA 10 E<|bK h35 fun q39 hq39 h40=>Kkd 49 E fun hb42=>Knt (R:=fun a41=>q39=.go a41) (fun a41=>[(1,.ptr 0 0),(23,.d (Sl Lnk d.Owners)),(24,I (d.Owners.length:Int)),(25,I (i9:Int))]) (fun a41=>[.box 29 (fD d),.box 155 [S x11.Tag,.d (Sl eS x11.Users)]]) ?_ ?_
   ·refine gA 9 E<|bK h32 fun v33 hv33 h34=>?_
    cases h34
    obtain rfl:=hout18 _ rfl
    cases h13
    exact gA 4 E<|oSi hv33▸gP E E
   ·refine gA 1 E<|Kkc x11.Users hq39 (fun i36 s37=>[(1,.ptr 0 0),(5,.ptr 1 0),(23,.d (Sl Lnk d.Owners)),(24,I (d.Owners.length:Int)),(25,I (i9:Int)),(49,.d (Sl eS x11.Users)),(50,I (x11.Users.length:Int)),(51,I (i36:Int))]) (fun s37=>[.box 29 (fD d),.box 155 [S x11.Tag,.d (Sl eS x11.Users)]]) ⟨⟨E,E,E,E,E,E,E,E,tV⟩,[],E,.inl E⟩ (fun i36 x38 s37 y46 hx43 hlt hy44 hout45=>?_) (fun s37 hgo=>?_)
    ·refine gA 6 E<|Kjo E (decide_eq_true (Int.ofNat_lt.2 hlt))<|gA 7 E<|eo_o E (Kke hΓ (enc:=eS) (Kjx hx43) E E E E E (fun _=>E))<|bK hy44 fun y47 hy47 h48=>gO 11 E<|Kkv C (Loy hy47) E Z E E E E E<|gO 3 E<|jC E h48 (fun h49=>?_) fun h54=>gA 7 E<|bK h54 fun q55 hq55 h56=>Kjt 9 [(1,.ptr 0 0),(5,.ptr 1 0),(23,.d (Sl Lnk d.Owners)),(24,I (d.Owners.length:Int)),(25,I (i9:Int)),(49,.d (Sl eS x11.Users)),(50,I (x11.Users.length:Int)),(51,I (i36:Int)),(72,B q55)] [.box 29 (fD d),.box 155 [S x11.Tag,.d (Sl eS x11.Users)]] ?_ ?_
     ·refine gA 9 E<|bK h49 fun v50 hv50 h51=>?_
      cases h51
      obtain rfl:=hout45 _ rfl
      cases h40
      refine gA 5 E<|bK hv50 fun v52 hv52 h53=>?_
      cases h53
      obtain rfl:=hout18 _ rfl
      cases h13
      exact gA 4 E<|oSi hv52▸gP E E
     ·refine Kwh E E (fun hb=>?_) (fun hb=>?_)
      ·have h57:=cT hq55 hb
       exact bK h57 fun x58 hx58 h59=>gO 5 E<|Kwf E<|eo_o E (Kke hΓ (enc:=eS) hx58 E E E E E (fun _=>E))<|gO 4 E<|oSi h59▸⟨⟨E,E,E,E,E,E,E,E,E,tV⟩,[],E,.inl E⟩
      have h60:=cF hq55 hb
      exact gO 10 E<|oSi h60▸⟨⟨E,E,E,E,E,E,E,E,E,tV⟩,[],E,.inl E⟩
     refine gO 2 E<|jC E h56 (fun h61=>?_) fun h66=>gA 7 E ?_
     ·refine gA 8 E<|bK h61 fun v62 hv62 h63=>?_
      cases h63
      obtain rfl:=hout45 _ rfl
      cases h40
      refine gA 5 E<|bK hv62 fun v64 hv64 h65=>?_
      cases h65
      obtain rfl:=hout18 _ rfl
      cases h13
      exact gA 4 E<|oSi hv64▸gP E E
     cases h66
     exact⟨_,E,⟨⟨E,E,E,E,E,E,E,Kiv E (Kiu (nLl hlt hb42)),tV⟩,[],E,.inl E⟩⟩
    subst hgo
    exact gA 6 E<|Kjp E (decide_eq_false (Int.lt_irrefl _))<|gA 4 E<|⟨_,E,⟨⟨E,E,E,E,tV⟩,[],E,.inl E⟩⟩
   intro a41 ha
   subst ha
   replace h40:=Kno h40
   refine gA 6 E ?_
   cases h40
   exact⟨_,E,⟨⟨E,E,E,Kiv E (Kiu (nLl hlt hb15)),tV⟩,[_],E,.inr ⟨HB.mk E,FB.mk E,Z⟩⟩⟩
  subst hgo
  exact gA 6 E<|Kjp E (decide_eq_false (Int.lt_irrefl _))<|gA 4 E<|⟨_,E,⟨⟨E,tV⟩,[],E,.inl E⟩⟩
 intro a14 ha
 subst ha
 replace h13:=Kno h13
 refine bK h13 fun y67 hy67 h68=>gA 6 E<|Kkv C (Lqf hy67) E Z E E E E E<|gO 2 E<|jC E h68 (fun h69=>?_) fun h70=>gA 8 E<|oSi h70▸gP E E
 exact gA 7 E<|oSi h69▸gP E E
theorem Lqh{n:Int}{r:Bool}(h:Ljd n=some r):Pure Tryz.prog 138 [I n] (B r):=by
 unfold Ljd at h
 refine Pure.enter (Fr.of 0 _) Tryz.func138 E (Fr.of_ok _) E E<|Kjm<|gA 10 E<|Kjt 3 [(2,B false),(8,B ((decide ((n:Int)≥0))&&(decide ((n:Int)<345686400))))] [] ?_ ?_
 ·refine Kwh E E (fun hb=>?_) (fun hb=>?_)
  ·exact gO 4 E<|⟨⟨E,Kiw E (Klo hb),tV⟩,[],E,.inl E⟩
  exact gO 4 E<|⟨⟨E,Kiw E (Klp hb),tV⟩,[],E,.inl E⟩
 exact gO 4 E<|oSi h▸gP E E
theorem Lqi{kind:Int}{r:List Int}(h:Lje kind=some r):Pure Tryz.prog 120 [I kind] (.d (Sl (eN .i64) r)):=by
 unfold Lje at h
 refine Pure.enter (Fr.of 0 _) Tryz.func120 E (Fr.of_ok _) E E<|Kjm<|gA 18 E<|jC E h (fun h1=>?_) fun h2=>gA 6 E<|jC E h2 (fun h3=>?_) fun h4=>?_
 ·exact gA 2 E<|Kkp hΓ (enc:=(eN .i64)) [0,2,5,6,7,8] E E E E E E E E E E E E Z<|gO 6 E<|oSi h1▸gP E E
 ·exact gA 2 E<|Kkp hΓ (enc:=(eN .i64)) [0,2] E E E E E E E E E E E E Z<|gO 6 E<|oSi h3▸gP E E
 refine gA 6 E<|jC E h4 (fun h5=>?_) fun h6=>gA 6 E<|jC E h6 (fun h7=>?_) fun h8=>?_
 ·exact gA 2 E<|Kkp hΓ (enc:=(eN .i64)) [0,1,2,3,4] E E E E E E E E E E E E Z<|gO 6 E<|oSi h5▸gP E E
 ·exact gA 2 E<|Kkp hΓ (enc:=(eN .i64)) [0,1,3] E E E E E E E E E E E E Z<|gO 6 E<|oSi h7▸gP E E
 refine gA 6 E<|jC E h8 (fun h9=>?_) fun h10=>gA 6 E<|jC E h10 (fun h11=>?_) fun h12=>?_
 ·exact gA 2 E<|Kkp hΓ (enc:=(eN .i64)) [0,1,4] E E E E E E E E E E E E Z<|gO 6 E<|oSi h9▸gP E E
 ·exact gA 2 E<|Kkp hΓ (enc:=(eN .i64)) [0,1,5] E E E E E E E E E E E E Z<|gO 6 E<|oSi h11▸gP E E
 exact gA 5 E<|Kkp hΓ (enc:=(eN .i64)) [0,1] E E E E E E E E E E E E Z<|gO 4 E<|oSi h12▸gP E E
theorem Lqj{k:Nat}{s:Str}{empty:Bool}{r:Int}(h:Ljf k s empty=some r):Pure Tryz.prog 270 [S s,B empty] (I r):=by
 unfold Ljf at h
 refine Pure.enter (Fr.of 0 _) Tryz.func270 E (Fr.of_ok _) E E<|Kjm<|bK h fun y1 hy1 h2=>gA 9 E<|Kkv C (Lqd hy1) E Z E E E E E<|gO 2 E<|Kjt 7 [(15,B ((!y1)&&(!(empty&&((s:Str)==[])))))] [] ?_ ?_
 ·refine Kwh E E (fun hb=>?_) (fun hb=>?_)
  ·refine gO 2 E<|Kjt 3 [(8,B true),(13,B (empty&&((s:Str)==[])))] [] ?_ ?_
   ·refine Kwh E E (fun hb=>?_) (fun hb=>?_)
    ·exact gO 4 E<|⟨⟨E,Kiw E (Klo hb),tV⟩,[],E,.inl E⟩
    exact gO 4 E<|⟨⟨E,Kiw E (Klp hb),tV⟩,[],E,.inl E⟩
   exact gO 3 E<|⟨⟨Kiw E (Klo hb),tV⟩,[],E,.inl E⟩
  exact gO 8 E<|⟨⟨Kiw E (Klp hb),tV⟩,[],E,.inl E⟩
 refine gO 2 E<|jC E h2 (fun h3=>?_) fun h4=>gA 8 E<|oSi h4▸gP E E
 exact gA 7 E<|oSi h3▸gP E E
theorem Lqk{s:Str}{r:Bool}(h:Ljg s=some r):Pure Tryz.prog 151 [S s] (B r):=by
 unfold Ljg at h
 refine Pure.enter (Fr.of 0 _) Tryz.func151 E (Fr.of_ok _) E E<|Kjm<|gA 10 E<|Kjt 4 [(0,S s),(2,B false),(9,B ((!((s:Str)==[]))&&(decide (((s.length:Int):Int)≤20))))] [] ?_ ?_
 ·refine Kwh E E (fun hb=>?_) (fun hb=>?_)
  ·exact gO 5 E<|⟨⟨E,E,Kiw E (Klo hb),tV⟩,[],E,.inl E⟩
  exact gO 5 E<|⟨⟨E,E,Kiw E (Klp hb),tV⟩,[],E,.inl E⟩
 refine gO 1 E<|bK h fun q1 hq1 h2=>Kjt 4 [(2,B false),(14,B q1)] [] ?_ ?_
 ·refine Kwh E E (fun hb=>?_) (fun hb=>?_)
  ·have h3:=cT hq1 hb
   exact bK h3 fun y4 hy4 h5=>gO 1 E<|Kwf E<|Kkv C (Lft hy4) E Z E E E E E<|gO 3 E<|oSi h5▸⟨⟨E,E,tV⟩,[],E,.inl E⟩
  have h6:=cF hq1 hb
  exact gO 5 E<|oSi h6▸⟨⟨E,E,tV⟩,[],E,.inl E⟩
 exact gO 4 E<|oSi h2▸gP E E
theorem Lql{k:Nat}{l:List Str}{r:Int}(h:Ljh k l=some r):Pure Tryz.prog 271 [.d (Sl eS l)] (I r):=by
 unfold Ljh at h
 refine Pure.enter (Fr.of 0 _) Tryz.func271 E (Fr.of_ok _) E E<|Kjm<|gA 13 E<|jC E h (fun h1=>?_) fun h2=>bK h2 fun y3 hy3 h4=>gA 5 E<|Kkv C (Lqe hy3) E Z E E E E E<|gO 4 E<|oSi h4▸gP E E
 exact gA 7 E<|oSi h1▸gP E E
theorem Lqm{n:Int}{r:Int}(h:Lji n=some r):Pure Tryz.prog 272 [I n] (I r):=by
 unfold Lji at h
 refine Pure.enter (Fr.of 0 _) Tryz.func272 E (Fr.of_ok _) E E<|Kjm<|bK h fun y1 hy1 h2=>gA 9 E<|Kkv C (Lqf hy1) E Z E E E E E<|gO 2 E<|jC E h2 (fun h3=>?_) fun h4=>gA 8 E<|oSi h4▸gP E E
 exact gA 7 E<|oSi h3▸gP E E
theorem Lqn{k:Nat}{s:Lgg}{field:Int}{r:Int}(h:Ljj k s field=some r):Pure Tryz.prog 193 [.agg (fS s),I field] (I r):=by
 unfold Ljj at h
 refine Pure.enter (Fr.of 0 _) Tryz.func193 E (Fr.of_ok _) E E<|Kjm<|gA 2 E<|Kxo E E E E Z<|bK h fun q1 hq1 h2=>gO 17 E<|Knw (q:=q1) (fun a3=>[]) (fun a3=>[.box 37 (fS s)]) ?_ ?_
 ·refine gA 7 E<|jC E hq1 (fun h4=>?_) fun h9=>gA 6 E<|jC E h9 (fun h10=>?_) fun h15=>?_
  ·refine bK h4 fun y5 hy5 h6=>gA 5 E<|Kkv C (Lqj hy5) E Z E E E E E<|gO 5 E<|bK h6 fun v7 hv7 h8=>?_
   cases h8
   cases h2
   exact gA 2 E<|oSi hv7▸gP E E
  ·refine bK h10 fun y11 hy11 h12=>gA 4 E<|Kkv C (Lqj hy11) E Z E E E E E<|gO 5 E<|bK h12 fun v13 hv13 h14=>?_
   cases h14
   cases h2
   exact gA 2 E<|oSi hv13▸gP E E
  refine gA 6 E<|jC E h15 (fun h16=>?_) fun h21=>gA 6 E<|jC E h21 (fun h22=>?_) fun h29=>?_
  ·refine bK h16 fun y17 hy17 h18=>gA 5 E<|Kkv C (Lqj hy17) E Z E E E E E<|gO 5 E<|bK h18 fun v19 hv19 h20=>?_
   cases h20
   cases h2
   exact gA 2 E<|oSi hv19▸gP E E
  ·refine bK h22 fun y23 hy23 h24=>gA 4 E<|Kkv C (Lqk hy23) E Z E E E E E<|gO 3 E<|jC E h24 (fun h25=>?_) fun h28=>gA 2 E<|oSi h28▸⟨_,E,⟨tV,[],E,.inl E⟩⟩
   refine gA 7 E<|bK h25 fun v26 hv26 h27=>?_
   cases h27
   cases h2
   exact gA 2 E<|oSi hv26▸gP E E
  refine gA 6 E<|jC E h29 (fun h30=>?_) fun h35=>gA 6 E<|jC E h35 (fun h36=>?_) fun h41=>?_
  ·refine bK h30 fun y31 hy31 h32=>gA 4 E<|Kkv C (Lqj hy31) E Z E E E E E<|gO 5 E<|bK h32 fun v33 hv33 h34=>?_
   cases h34
   cases h2
   exact gA 2 E<|oSi hv33▸gP E E
  ·refine bK h36 fun y37 hy37 h38=>gA 4 E<|Kkv C (Lql hy37) E Z E E E E E<|gO 5 E<|bK h38 fun v39 hv39 h40=>?_
   cases h40
   cases h2
   exact gA 2 E<|oSi hv39▸gP E E
  refine gA 6 E<|jC E h41 (fun h42=>?_) fun h47=>gA 6 E<|jC E h47 (fun h48=>?_) fun h53=>?_
  ·refine bK h42 fun y43 hy43 h44=>gA 4 E<|Kkv C (Lqm hy43) E Z E E E E E<|gO 5 E<|bK h44 fun v45 hv45 h46=>?_
   cases h46
   cases h2
   exact gA 2 E<|oSi hv45▸gP E E
  ·refine bK h48 fun y49 hy49 h50=>gA 4 E<|Kkv C (Lqm hy49) E Z E E E E E<|gO 5 E<|bK h50 fun v51 hv51 h52=>?_
   cases h52
   cases h2
   exact gA 2 E<|oSi hv51▸gP E E
  exact gA 2 E<|oSi h53▸⟨_,E,⟨tV,[],E,.inl E⟩⟩
 intro a3 ha
 subst ha
 replace h2:=Knn h2
 exact gA 7 E<|oSi h2▸gP E E
theorem Lqo{s:List Int}{v:Int}{r:Int}(h:Ljk s v=some r):Pure Tryz.prog 273 [.d (Sl (eN .i64) s),I v] (I r):=by
 unfold Ljk at h
 refine Pure.enter (Fr.of 0 _) Tryz.func273 E (Fr.of_ok _) E E<|Kjm<|gA 13 E<|bK h fun q4 hq4 h5=>Kkd 0 E fun hb7=>Knt (R:=fun a6=>q4=.go a6) (fun a6=>[]) (fun a6=>[]) ?_ ?_
 ·refine gA 1 E<|Kkc s hq4 (fun i1 s2=>[(0,.d (Sl (eN .i64) s)),(1,I v),(7,I (s.length:Int)),(8,I (i1:Int))]) (fun s2=>[]) ⟨⟨E,E,E,E,tV⟩,[],E,.inl E⟩ (fun i1 x3 s2 y11 hx8 hlt hy9 hout10=>?_) (fun s2 hgo=>?_)
  ·refine gA 6 E<|Kjo E (decide_eq_true (Int.ofNat_lt.2 hlt))<|gA 15 E<|eo_o E (Kke hΓ (enc:=(eN .i64)) (Kjx hx8) E E E E E (fun _=>E))<|gO 4 E<|jC E hy9 (fun h12=>?_) fun h15=>gA 7 E ?_
   ·refine gA 9 E<|bK h12 fun v13 hv13 h14=>?_
    cases h14
    obtain rfl:=hout10 _ rfl
    cases h5
    exact gA 4 E<|oSi hv13▸gP E E
   cases h15
   exact⟨_,E,⟨⟨E,E,E,Kiv E (Kiu (nLl hlt hb7)),tV⟩,[],E,.inl E⟩⟩
  subst hgo
  exact gA 6 E<|Kjp E (decide_eq_false (Int.lt_irrefl _))<|gA 4 E<|⟨_,E,⟨tV,[],E,.inl E⟩⟩
 intro a6 ha
 subst ha
 replace h5:=Kno h5
 exact gA 7 E<|oSi h5▸gP E E
theorem Lqp{s:List Int}{v:Int}{r:Bool}(h:Ljl s v=some r):Pure Tryz.prog 194 [.d (Sl (eN .i64) s),I v] (B r):=by
 unfold Ljl at h
 exact Pure.enter (Fr.of 0 _) Tryz.func194 E (Fr.of_ok _) E E<|Kjm<|bK h fun y1 hy1 h2=>gA 9 E<|Kkv C (Lqo hy1) E Z E E E E E<|gO 5 E<|oSi h2▸gP E E
theorem Lqq{s:Lgg}{field:Int}{r:Bool}(h:Ljm s field=some r):Pure Tryz.prog 195 [.agg (fS s),I field] (B r):=by
 unfold Ljm at h
 refine Pure.enter (Fr.of 0 _) Tryz.func195 E (Fr.of_ok _) E E<|Kjm<|gA 2 E<|Kxo E E E E Z<|gO 16 E<|jC E h (fun h1=>?_) fun h2=>gA 6 E<|jC E h2 (fun h3=>?_) fun h4=>?_
 ·exact gA 11 E<|oSi h1▸gP E E
 ·exact gA 11 E<|oSi h3▸gP E E
 refine gA 6 E<|jC E h4 (fun h5=>?_) fun h6=>gA 6 E<|jC E h6 (fun h7=>?_) fun h8=>?_
 ·exact gA 11 E<|oSi h5▸gP E E
 ·exact gA 11 E<|oSi h7▸gP E E
 refine gA 6 E<|jC E h8 (fun h9=>?_) fun h10=>gA 6 E<|jC E h10 (fun h11=>?_) fun h12=>?_
 ·exact gA 11 E<|oSi h9▸gP E E
 ·exact gA 12 E<|oSi h11▸gP E E
 refine gA 6 E<|jC E h12 (fun h13=>?_) fun h14=>gA 6 E<|jC E h14 (fun h15=>?_) fun h16=>?_
 ·exact gA 11 E<|oSi h13▸gP E E
 ·exact gA 11 E<|oSi h15▸gP E E
 exact gA 12 E<|oSi h16▸gP E E
theorem Lqr{k:Nat}{s:Lgg}{r:Int}(h:Ljn k s=some r):Pure Tryz.prog 88 [.agg (fS s)] (I r):=by
 unfold Ljn at h
 refine Pure.enter (Fr.of 0 _) Tryz.func88 E (Fr.of_ok _) E E<|Kjm<|gA 2 E<|Kxo E E E E Z<|bK h fun y1 hy1 h2=>gO 9 E<|Kkv C (Lqh hy1) E Z E E E E E<|gO 4 E<|jC E h2 (fun h3=>?_) fun h4=>bK h4 fun y5 hy5 h6=>gA 4 E<|Kkv C (Lqd hy5) E Z E E E E E<|gO 4 E<|jC E h6 (fun h7=>?_) fun h8=>?_
 ·exact gA 8 E<|oSi h3▸gP E E
 ·exact gA 8 E<|oSi h7▸gP E E
 refine bK h8 fun y9 hy9 h10=>gA 4 E<|Kkv C (Lqf hy9) E Z E E E E E<|gO 3 E<|jC E h10 (fun h11=>?_) fun h12=>bK h12 fun y13 hy13 h14=>gA 4 E<|Kkv C (Lqf hy13) E Z E E E E E<|gO 3 E<|jC E h14 (fun h15=>?_) fun h16=>?_
 ·exact gA 8 E<|oSi h11▸gP E E
 ·exact gA 8 E<|oSi h15▸gP E E
 refine bK h16 fun y17 hy17 h18=>gA 7 E<|Kkv C (Lqi hy17) E Z E E E E E<|gO 11 E<|bK h18 fun q22 hq22 h23=>Kkd 3 E fun hb25=>Knt (R:=fun a24=>q22=.go a24) (fun a24=>[(1,.ptr 0 0),(3,.d (Sl (eN .i64) y17))]) (fun a24=>[.box 37 (fS s)]) ?_ ?_
 ·refine gA 1 E<|Kkc y17 hq22 (fun i19 s20=>[(1,.ptr 0 0),(3,.d (Sl (eN .i64) y17)),(29,.d (Sl (eN .i64) y17)),(30,I (y17.length:Int)),(31,I (i19:Int))]) (fun s20=>[.box 37 (fS s)]) ⟨⟨E,E,E,E,E,tV⟩,[],E,.inl E⟩ (fun i19 x21 s20 y29 hx26 hlt hy27 hout28=>?_) (fun s20 hgo=>?_)
  ·refine gA 6 E<|Kjo E (decide_eq_true (Int.ofNat_lt.2 hlt))<|gA 6 E<|eo_o E (Kke hΓ (enc:=(eN .i64)) (Kjx hx26) E E E E E (fun _=>E))<|bK hy27 fun y30 hy30 h31=>gO 8 E<|Kkv C (Lqn hy30) E Z E E E E E<|gO 9 E<|jC E h31 (fun h32=>?_) fun h35=>gA 7 E ?_
   ·refine gA 9 E<|bK h32 fun v33 hv33 h34=>?_
    cases h34
    obtain rfl:=hout28 _ rfl
    cases h23
    exact gA 4 E<|oSi hv33▸gP E E
   cases h35
   exact⟨_,E,⟨⟨E,E,E,E,Kiv E (Kiu (nLl hlt hb25)),tV⟩,[],E,.inl E⟩⟩
  subst hgo
  exact gA 6 E<|Kjp E (decide_eq_false (Int.lt_irrefl _))<|gA 4 E<|⟨_,E,⟨⟨E,E,tV⟩,[],E,.inl E⟩⟩
 intro a24 ha
 subst ha
 replace h23:=Kno h23
 refine gA 7 E<|bK h23 fun q39 hq39 h40=>Knt (R:=fun a41=>q39=.inl a41) (fun a41=>[]) (fun a41=>[.box 37 (fS s)]) ?_ ?_
 ·refine gA 1 E<|Kka hq39 (fun s37=>[(1,.ptr 0 0),(3,.d (Sl (eN .i64) y17)),(42,I s37)]) (fun s37=>[.box 37 (fS s)]) ⟨⟨E,E,E,tV⟩,[],E,.inl E⟩ (fun s37 y45 hy43 hout44=>?_)
  refine gA 6 E<|jC E hy43 (fun h46=>?_) fun h59=>gA 4 E ?_
  ·refine bK h46 fun y47 hy47 h48=>gA 14 E<|Kkv C (Lqp hy47) E Z E E E E E<|gO 2 E<|bK h48 fun q49 hq49 h50=>Kjt 5 [(1,.ptr 0 0),(3,.d (Sl (eN .i64) y17)),(42,I s37),(54,B q49)] [.box 37 (fS s)] ?_ ?_
   ·refine Kwh E E (fun hb=>?_) (fun hb=>?_)
    ·have h51:=cT hq49 hb
     exact bK h51 fun y52 hy52 h53=>gO 2 E<|Kwf E<|Kkv C (Lqq hy52) E Z E E E E E<|gO 3 E<|oSi h53▸⟨⟨E,E,E,E,tV⟩,[],E,.inl E⟩
    have h54:=cF hq49 hb
    exact gO 6 E<|oSi h54▸⟨⟨E,E,E,E,tV⟩,[],E,.inl E⟩
   refine gO 2 E<|jC E h50 (fun h55=>?_) fun h58=>gA 7 E<|oSi h58▸⟨_,E,⟨⟨E,E,E,tV⟩,[],E,.inl E⟩⟩
   refine gA 8 E<|bK h55 fun v56 hv56 h57=>?_
   cases h57
   obtain rfl:=hout44 _ rfl
   cases h40
   exact gA 4 E<|oSi hv56▸gP E E
  cases h59
  obtain rfl:=hout44 _ rfl
  exact⟨_,E,⟨tV,[],E,.inl E⟩⟩
 intro a41 ha
 subst ha
 replace h40:=Knn h40
 exact gA 7 E<|oSi h40▸gP E E
theorem Lqs{a:Lgg}{b:Lgg}{r:Int}(h:Ljo a b=some r):Pure Tryz.prog 89 [.agg (fS a),.agg (fS b)] (I r):=by
 unfold Ljo at h
 exact Pure.enter (Fr.of 0 _) Tryz.func89 E (Fr.of_ok _) E E<|Kjm<|gA 2 E<|Kxo E E E E Z<|Kxo E E E E Z<|gO 4 E<|Kjq hmix (by kernel_rfl)<|bK h fun y1 hy1 h2=>gA 4 E<|Kkw C (Lom hy1) E E E E E E<|bK h2 fun y3 hy3 h4=>Kjl hΓ 4 E<|Kkw C (Lfu hy3) E E E E E E<|bK h4 fun y5 hy5 h6=>Kjl hΓ 4 E<|Kkw C (Lom hy5) E E E E E E<|Kkq hΓ (enc:=(eN .i64)) [y1,y3,y5] E E E E E E E E E E E E<|bK h6 fun y7 hy7 h8=>Kkw C (Lon hy7) E E E E E E<|Kjl hΓ 4 E<|oSi h8▸gP E E
theorem Lqt{s:Lgg}{r:Lgl}(h:Ljp s=some r):Pure Tryz.prog 92 [.agg (fS s)] (.agg [S r.server,I r.no]):=by
 unfold Ljp at h
 exact Pure.enter (Fr.of 0 _) Tryz.func92 E (Fr.of_ok _) E E<|Kjm<|gA 2 E<|Kxo E E E E Z<|Kxn hΓ E E E Z<|gO 8 E<|Khr hΓ (gs:=[S s.Server,I s.No]) E E E E E E E<|Kxs hΓ E E E E E E E E Z<|Kld [.box 37 (fS s),.box 150 [S s.Server,I s.No]] E<|gO 3 E<|oSi h▸gP E E
theorem Lqu{k:Nat}{l:List Lgg}{r:Int}(h:Ljq k l=some r):Pure Tryz.prog 33 [.d (Sl Lnm l)] (I r):=by
 unfold Ljq at h
 refine Pure.enter (Fr.of 0 _) Tryz.func33 E (Fr.of_ok _) E E<|Kjm<|gA 13 E<|jC E h (fun h1=>?_) fun h2=>gA 4 E<|eo_s Z (nblt.1 E) (Kox false)<|Kld [mOb (kD Lnr) false eB ([]:List (Lgl×Bool))] E<|gO 11 E<|bK h2 fun q6 hq6 h7=>Kkd 0 E fun hb9=>Knt (R:=fun a8=>q6=.go a8) (fun a8=>[]) (fun a8=>[mOb (kD Lnr) false eB a8]) ?_ ?_
 ·exact gA 7 E<|oSi h1▸gP E E
 ·refine gA 1 E<|Kkc l hq6 (fun i3 s4=>[(0,.d (Sl Lnm l)),(3,.map 0),(11,.d (Sl Lnm l)),(12,I (l.length:Int)),(13,I (i3:Int))]) (fun s4=>[mOb (kD Lnr) false eB s4]) ⟨⟨E,E,E,E,E,tV⟩,[],E,.inl E⟩ (fun i3 x5 s4 y13 hx10 hlt hy11 hout12=>?_) (fun s4 hgo=>?_)
  ·refine gA 6 E<|Kjo E (decide_eq_true (Int.ofNat_lt.2 hlt))<|gA 7 E<|eo_o E (Kke hΓ (enc:=Lnm) (Kjx hx10) E E E E E (fun _=>E))<|gO 1 E<|Kxn hΓ E E E Z<|gO 1 E<|Kxs hΓ E E E E E E E E Z<|Kld [mOb (kD Lnr) false eB s4,.box 37 (fS x5)] E<|bK hy11 fun y14 hy14 h15=>gO 6 E<|Kkv C (Lqr hy14) E Z E E E E E<|gO 9 E<|jC E h15 (fun h16=>?_) fun h19=>bK h19 fun q20 hq20 h21=>gA 4 E<|Knu [(0,.d (Sl Lnm l)),(3,.map 0),(5,.ptr 1 0),(11,.d (Sl Lnm l)),(12,I (l.length:Int)),(13,I (i3:Int)),(34,B q20)] [mOb (kD Lnr) false eB s4,.box 37 (fS x5)] ?_ ?_
   ·refine gA 10 E<|bK h16 fun v17 hv17 h18=>?_
    cases h18
    obtain rfl:=hout12 _ rfl
    cases h7
    exact gA 4 E<|oSi hv17▸gP E E
   ·refine Kjq hmix (by kernel_rfl)<|gA 3 E<|Kib E E (fun hb=>?_) (fun hb=>?_)
    ·have h22:=cT hq20 hb
     exact bK h22 fun x23 hx23 h24=>Kjl hΓ 3 E<|Kix E E (Kke hΓ (enc:=Lnm) hx23 E E E E E (fun _=>E))<|bK h24 fun y25 hy25 h26=>Kjl hΓ 2 E<|Kkx C (Lqs hy25) E E E E E E E<|Kjl hΓ 3 E<|oSi h26▸⟨⟨E,E,E,E,E,E,E,tV⟩,[],E,.inl E⟩
    have h27:=cF hq20 hb
    exact Kjl hΓ 10 E<|oSi h27▸⟨⟨E,E,E,E,E,E,E,tV⟩,[],E,.inl E⟩
   refine gA 1 E<|jC E h21 (fun h28=>?_) fun h31=>bK h31 fun y32 hy32 h33=>gA 7 E<|Kkv C (Lqt hy32) E Z E E E E E<|eo_o E (Kso hΓ (kenc:=Lnr) (agg:=false) (enc:=eB) s4 y32 (false:Bool) E E E Lpu (fun _=>E) E E E E E E E)<|gO 2 E<|jC E h33 (fun h34=>?_) fun h37=>?_
   ·refine gA 9 E<|bK h28 fun v29 hv29 h30=>?_
    cases h30
    obtain rfl:=hout12 _ rfl
    cases h7
    exact gA 4 E<|oSi hv29▸gP E E
   ·refine gA 9 E<|bK h34 fun v35 hv35 h36=>?_
    cases h36
    obtain rfl:=hout12 _ rfl
    cases h7
    exact gA 4 E<|oSi hv35▸gP E E
   refine bK h37 fun y38 hy38 h39=>gA 5 E<|Kkv C (Lqt hy38) E Z E E E E E<|eo_u Z (Ksp hΓ (kenc:=Lnr) (agg:=false) (enc:=eB) (id:=0) s4 y38 true E E Lpu (fun _=>E) E E E E E)<|Kld [mOb (kD Lnr) false eB (mSet s4 y38 true),.box 37 (fS x5)] E<|gO 7 E ?_
   cases h39
   exact⟨_,E,⟨⟨E,E,E,E,Kiv E (Kiu (nLl hlt hb9)),tV⟩,[_],E,.inr ⟨HB.mk E,FB.mk E,Z⟩⟩⟩
  subst hgo
  exact gA 6 E<|Kjp E (decide_eq_false (Int.lt_irrefl _))<|gA 4 E<|⟨_,E,⟨tV,[],E,.inl E⟩⟩
 intro a8 ha
 subst ha
 replace h7:=Kno h7
 exact gA 7 E<|oSi h7▸gP E E
theorem Lqv{k:Nat}{d:Lgf}{l:List Lgg}{r:Int}(h:Ljr k d l=some r):Pure Tryz.prog 85 [.agg (fD d),.d (Sl Lnm l)] (I r):=by
 unfold Ljr at h
 refine Pure.enter (Fr.of 0 _) Tryz.func85 E (Fr.of_ok _) E E<|Kjm<|gA 2 E<|Kxo E E E E Z<|bK h fun y1 hy1 h2=>gO 7 E<|Kkv C (Lqg hy1) E Z E E E E E<|gO 9 E<|jC E h2 (fun h3=>?_) fun h4=>bK h4 fun y5 hy5 h6=>gA 5 E<|Kkv C (Lqu hy5) E Z E E E E E<|gO 4 E<|oSi h6▸gP E E
 exact gA 8 E<|oSi h3▸gP E E
theorem Lqw{a:Lgi}{r:Int}(h:Ljs a=some r):Pure Tryz.prog 257 [.agg [B a.Six,U a.Hi,U a.Lo]] (I r):=by
 unfold Ljs at h
 refine Pure.enter (Fr.of 0 _) Tryz.func257 E (Fr.of_ok _) E E<|Kjm<|gA 2 E<|Kxo E E E E Z<|gO 10 E<|Kjt 9 [(15,B ((!a.Six)&&(((a.Hi:Int) != 0)||(decide ((a.Lo:Int)≥4294967296)))))] [.box 252 [B a.Six,U a.Hi,U a.Lo]] ?_ ?_
 ·refine Kwh E E (fun hb=>?_) (fun hb=>?_)
  ·refine gO 4 E<|Kjt 4 [(6,B true),(14,B (((a.Hi:Int) != 0)||(decide ((a.Lo:Int)≥4294967296))))] [.box 252 [B a.Six,U a.Hi,U a.Lo]] ?_ ?_
   ·refine Kwh E E (fun hb=>?_) (fun hb=>?_)
    ·exact gO 5 E<|⟨⟨E,Kiw E (or_t hb),tV⟩,[],E,.inl E⟩
    exact gO 5 E<|⟨⟨E,Kiw E (or_f hb),tV⟩,[],E,.inl E⟩
   exact gO 2 E<|⟨⟨Kiw E (Klo hb),tV⟩,[],E,.inl E⟩
  exact gO 10 E<|⟨⟨Kiw E (Klp hb),tV⟩,[],E,.inl E⟩
 refine gO 2 E<|jC E h (fun h1=>?_) fun h2=>gA 8 E<|oSi h2▸gP E E
 exact gA 7 E<|oSi h1▸gP E E
theorem Lqx{a:Lgi}{r:Int}(h:Ljt a=some r):Pure Tryz.prog 340 [.agg [B a.Six,U a.Hi,U a.Lo]] (I r):=by
 unfold Ljt at h
 refine Pure.enter (Fr.of 0 _) Tryz.func340 E (Fr.of_ok _) E E<|Kjm<|gA 2 E<|Kxo E E E E Z<|gO 10 E<|jC E h (fun h1=>?_) fun h2=>gA 8 E<|oSi h2▸gP E E
 exact gA 7 E<|oSi h1▸gP E E
theorem Lqy{n:Int}{r:Int×Int}(h:Lju n=some r):Pure Tryz.prog 391 [I n] (.tup [U r.1,U r.2]):=by
 unfold Lju at h
 refine Pure.enter (Fr.of 0 _) Tryz.func391 E (Fr.of_ok _) E E<|Kjm<|gA 15 E<|jC E h (fun h1=>?_) fun h2=>gA 7 E<|jC E h2 (fun h3=>?_) fun h6=>?_
 ·exact gA 9 E<|oSi h1▸gP E E
 ·exact bK h3 fun y4 hy4 h5=>gA 4 E<|eo_o E (Klu hy4 E E)<|gO 8 E<|oSi h5▸gP E E
 refine gA 7 E<|jC E h6 (fun h7=>?_) fun h8=>gA 4 E<|Kjq hmix (by kernel_rfl)<|bK h8 fun y9 hy9 h10=>gA 1 E<|gl_o E (Klu hy9 E E)<|Kjl hΓ 6 E<|oSi h10▸gP E E
 exact gA 9 E<|oSi h7▸gP E E
theorem Lqz{a:Lgi}{n:Int}{r:Lgi}(h:Ljv a n=some r):Pure Tryz.prog 341 [.agg [B a.Six,U a.Hi,U a.Lo],I n] (.agg [B r.Six,U r.Hi,U r.Lo]):=by
 unfold Ljv at h
 exact Pure.enter (Fr.of 0 _) Tryz.func341 E (Fr.of_ok _) E E<|Kjm<|gA 2 E<|Kxo E E E E Z<|Kxn hΓ E E E Z<|bK h fun y1 hy1 h2=>gO 5 E<|Kkv C (Lqx hy1) E Z E E E E E<|bK h2 fun y3 hy3 h4=>gO 2 E<|Kkv C (Lqy hy3) E Z E E E E E<|gO 14 E<|Kxs hΓ E E E E E E E E Z<|Kld [.box 252 [B a.Six,U (bitsV .andNot .u64 a.Hi y3.1),U a.Lo],.box 252 [B false,U 0,U 0]] E<|gO 9 E<|Kxs hΓ E E E E E E E E Z<|Kld [.box 252 [B a.Six,U (bitsV .andNot .u64 a.Hi y3.1),U (bitsV .andNot .u64 a.Lo y3.2)],.box 252 [B false,U 0,U 0]] E<|gO 5 E<|Kxs hΓ E E E E E E E E Z<|Kld [.box 252 [B a.Six,U (bitsV .andNot .u64 a.Hi y3.1),U (bitsV .andNot .u64 a.Lo y3.2)],.box 252 [B a.Six,U (bitsV .andNot .u64 a.Hi y3.1),U (bitsV .andNot .u64 a.Lo y3.2)]] E<|gO 3 E<|oSi h4▸gP E E
theorem Lra{p:Lgj}{r:Int}(h:Ljw p=some r):Pure Tryz.prog 258 [.agg [B p.Addr.Six,U p.Addr.Hi,U p.Addr.Lo,I p.Bits]] (I r):=by
 unfold Ljw at h
 refine Pure.enter (Fr.of 0 _) Tryz.func258 E (Fr.of_ok _) E E<|Kjm<|gA 2 E<|Kxo E E E E Z<|bK h fun y1 hy1 h2=>gO 9 E<|Kkv C (Lqw hy1) E Z E E E E E<|gO 4 E<|jC E h2 (fun h3=>?_) fun h4=>gA 1 E<|Kjq hmix (by kernel_rfl)<|bK h4 fun y5 hy5 h6=>gA 4 E<|Kkw C (Lqx hy5) E E E E E E<|bK h6 fun y7 hy7 h8=>Kkw C (Lqf hy7) E E E E E E<|Kjl hΓ 3 E<|jC E h8 (fun h9=>?_) fun h10=>?_
 ·exact gA 8 E<|oSi h3▸gP E E
 ·exact gA 8 E<|oSi h9▸gP E E
 refine gA 1 E<|Kjq hmix (by kernel_rfl)<|bK h10 fun y11 hy11 h12=>gA 4 E<|Kkw C (Lqz hy11) E E E E E E<|Kjl hΓ 2 E<|gl_o E (Klt hΓ [252] (b:=(((y11.Six:Bool)==p.Addr.Six)&&(((y11.Hi:Int)==p.Addr.Hi)&&(((y11.Lo:Int)==p.Addr.Lo)&&true)))) (by kernel_rfl) (by kernel_rfl) E E E)<|Kjl hΓ 3 E<|jC E h12 (fun h13=>?_) fun h14=>gA 9 E<|oSi h14▸gP E E
 exact gA 8 E<|oSi h13▸gP E E
theorem Lrb{s:List Lgj}{v:Lgj}{r:Int}(h:Ljx s v=some r):Pure Tryz.prog 263 [.d (Sl Lnp s),.agg [B v.Addr.Six,U v.Addr.Hi,U v.Addr.Lo,I v.Bits]] (I r):=by
 unfold Ljx at h
 refine Pure.enter (Fr.of 0 _) Tryz.func263 E (Fr.of_ok _) E E<|Kjm<|gA 2 E<|Kxo E E E E Z<|gO 11 E<|bK h fun q4 hq4 h5=>Kkd 0 E fun hb7=>Knt (R:=fun a6=>q4=.go a6) (fun a6=>[]) (fun a6=>[.box 257 [B v.Addr.Six,U v.Addr.Hi,U v.Addr.Lo,I v.Bits]]) ?_ ?_
 ·refine gA 1 E<|Kkc s hq4 (fun i1 s2=>[(0,.d (Sl Lnp s)),(3,.ptr 0 0),(7,I (s.length:Int)),(8,I (i1:Int))]) (fun s2=>[.box 257 [B v.Addr.Six,U v.Addr.Hi,U v.Addr.Lo,I v.Bits]]) ⟨⟨E,E,E,E,tV⟩,[],E,.inl E⟩ (fun i1 x3 s2 y11 hx8 hlt hy9 hout10=>?_) (fun s2 hgo=>?_)
  ·refine gA 6 E<|Kjo E (decide_eq_true (Int.ofNat_lt.2 hlt))<|gA 11 E<|Kjq hmix (by kernel_rfl)<|gA 3 E<|gl_o E (Kke hΓ (enc:=Lnp) (Kjx hx8) E E E E E (fun _=>E))<|Kjl hΓ 1 E<|gl_o E (Kls hΓ [257,252] (b:=((((v.Addr.Six:Bool)==x3.Addr.Six)&&(((v.Addr.Hi:Int)==x3.Addr.Hi)&&(((v.Addr.Lo:Int)==x3.Addr.Lo)&&true)))&&(((v.Bits:Int)==x3.Bits)&&true))) (by kernel_rfl) (by kernel_rfl) E E E)<|Kjl hΓ 2 E<|jC E hy9 (fun h12=>?_) fun h15=>gA 7 E ?_
   ·refine gA 9 E<|bK h12 fun v13 hv13 h14=>?_
    cases h14
    obtain rfl:=hout10 _ rfl
    cases h5
    exact gA 4 E<|oSi hv13▸gP E E
   cases h15
   exact⟨_,E,⟨⟨E,E,E,Kiv E (Kiu (nLl hlt hb7)),tV⟩,[],E,.inl E⟩⟩
  subst hgo
  exact gA 6 E<|Kjp E (decide_eq_false (Int.lt_irrefl _))<|gA 4 E<|⟨_,E,⟨tV,[],E,.inl E⟩⟩
 intro a6 ha
 subst ha
 replace h5:=Kno h5
 exact gA 7 E<|oSi h5▸gP E E
theorem Lrc{s:List Lgj}{v:Lgj}{r:Bool}(h:Ljy s v=some r):Pure Tryz.prog 184 [.d (Sl Lnp s),.agg [B v.Addr.Six,U v.Addr.Hi,U v.Addr.Lo,I v.Bits]] (B r):=by
 unfold Ljy at h
 exact Pure.enter (Fr.of 0 _) Tryz.func184 E (Fr.of_ok _) E E<|Kjm<|gA 2 E<|Kxo E E E E Z<|bK h fun y1 hy1 h2=>gO 7 E<|Kkv C (Lrb hy1) E Z E E E E E<|gO 5 E<|oSi h2▸gP E E
theorem Lrd{k:Nat}{l:List Lgk}{r:Int}(h:Ljz k l=some r):Pure Tryz.prog 176 [.d (Sl Lnq l)] (I r):=by
 unfold Ljz at h
 refine Pure.enter (Fr.of 0 _) Tryz.func176 E (Fr.of_ok _) E E<|Kjm<|gA 13 E<|jC E h (fun h1=>?_) fun h2=>gA 4 E<|eo_s Z (nblt.1 E) (Kox false)<|Kld [mOb (kD Lno) false eB ([]:List (Lgi×Bool))] E<|gO 11 E<|bK h2 fun q6 hq6 h7=>Kkd 0 E fun hb9=>Knt (R:=fun a8=>q6=.go a8) (fun a8=>[]) (fun a8=>[mOb (kD Lno) false eB a8]) ?_ ?_
 ·exact gA 7 E<|oSi h1▸gP E E
 ·refine gA 1 E<|Kkc l hq6 (fun i3 s4=>[(0,.d (Sl Lnq l)),(3,.map 0),(16,.d (Sl Lnq l)),(17,I (l.length:Int)),(18,I (i3:Int))]) (fun s4=>[mOb (kD Lno) false eB s4]) ⟨⟨E,E,E,E,E,tV⟩,[],E,.inl E⟩ (fun i3 x5 s4 y13 hx10 hlt hy11 hout12=>?_) (fun s4 hgo=>?_)
  ·refine gA 6 E<|Kjo E (decide_eq_true (Int.ofNat_lt.2 hlt))<|gA 7 E<|eo_o E (Kke hΓ (enc:=Lnq) (Kjx hx10) E E E E E (fun _=>E))<|gO 1 E<|eo_s Z (nblt.1 E) (Kqo hΓ [1,2] [S [],.d (Slt 252 3 Lno (1,[])),.d (Slt 257 4 Lnp (1,[]))] (hi:=show Γ 255=some ⟨_,_,_,_⟩ from E) E ⟨.refl _,G.Le.tagN,G.Le.tagN,tV⟩)<|Kld [mOb (kD Lno) false eB s4,.box 255 [S [],.d (Slt 252 3 Lno (1,[])),.d (Slt 257 4 Lnp (1,[]))]] E<|gO 1 E<|Kxs hΓ E E E E E E E E Z<|Kld [mOb (kD Lno) false eB s4,.box 255 [S x5.Node,.d (Slt 252 3 Lno x5.Addrs),.d (Slt 257 4 Lnp x5.Routes)]] E<|bK hy11 fun y14 hy14 h15=>gO 7 E<|Kkv C (Lqd hy14) E Z E E E E E<|gO 3 E<|jC E h15 (fun h16=>?_) fun h19=>bK h19 fun q20 hq20 h21=>gA 4 E<|Knu [(0,.d (Sl Lnq l)),(3,.map 0),(5,.ptr 1 0),(16,.d (Sl Lnq l)),(17,I (l.length:Int)),(18,I (i3:Int)),(39,B q20)] [mOb (kD Lno) false eB s4,.box 255 [S x5.Node,.d (Slt 252 3 Lno x5.Addrs),.d (Slt 257 4 Lnp x5.Routes)]] ?_ ?_
   ·refine gA 9 E<|bK h16 fun v17 hv17 h18=>?_
    cases h18
    obtain rfl:=hout12 _ rfl
    cases h7
    exact gA 4 E<|oSi hv17▸gP E E
   ·refine Kjq hmix (by kernel_rfl)<|gA 3 E<|Kib E E (fun hb=>?_) (fun hb=>?_)
    ·have h22:=cT hq20 hb
     exact bK h22 fun x23 hx23 h24=>Kjl hΓ 5 E<|Kix E E (Kke hΓ (enc:=Lnq) hx23 E E E E E (fun _=>E))<|Kjl hΓ 5 E<|oSi h24▸⟨⟨E,E,E,E,E,E,E,tV⟩,[],E,.inl E⟩
    have h25:=cF hq20 hb
    exact Kjl hΓ 11 E<|oSi h25▸⟨⟨E,E,E,E,E,E,E,tV⟩,[],E,.inl E⟩
   refine gA 1 E<|jC E h21 (fun h26=>?_) fun h29=>gA 6 E<|eo_o E (Kqn (Kxb hΓ (g:=.d (Slt 252 3 Lno x5.Addrs)) E) G.Le.unt)<|gO 4 E<|jC E h29 (fun h30=>?_) fun h33=>?_
   ·refine gA 9 E<|bK h26 fun v27 hv27 h28=>?_
    cases h28
    obtain rfl:=hout12 _ rfl
    cases h7
    exact gA 4 E<|oSi hv27▸gP E E
   ·refine gA 9 E<|bK h30 fun v31 hv31 h32=>?_
    cases h32
    obtain rfl:=hout12 _ rfl
    cases h7
    exact gA 4 E<|oSi hv31▸gP E E
   refine gA 6 E<|eo_o E (Kqn (Kxb hΓ (g:=.d (Slt 252 3 Lno x5.Addrs)) E) G.Le.unt)<|gO 4 E<|bK h33 fun q37 hq37 h38=>Kkd 45 E fun hb40=>Knt (R:=fun a39=>q37=.go a39) (fun a39=>[(0,.d (Sl Lnq l)),(3,.map 0),(5,.ptr 1 0),(16,.d (Sl Lnq l)),(17,I (l.length:Int)),(18,I (i3:Int))]) (fun a39=>[mOb (kD Lno) false eB a39,.box 255 [S x5.Node,.d (Slt 252 3 Lno x5.Addrs),.d (Slt 257 4 Lnp x5.Routes)]]) ?_ ?_
   ·refine gA 1 E<|Kkc x5.Addrs.2 hq37 (fun i34 s35=>[(0,.d (Sl Lnq l)),(3,.map 0),(5,.ptr 1 0),(16,.d (Sl Lnq l)),(17,I (l.length:Int)),(18,I (i3:Int)),(45,.d (Sl Lno x5.Addrs.2)),(46,I (x5.Addrs.2.length:Int)),(47,I (i34:Int))]) (fun s35=>[mOb (kD Lno) false eB s35,.box 255 [S x5.Node,.d (Slt 252 3 Lno x5.Addrs),.d (Slt 257 4 Lnp x5.Routes)]]) ⟨⟨E,E,E,E,E,E,E,E,E,tV⟩,[],E,.inl E⟩ (fun i34 x36 s35 y44 hx41 hlt hy42 hout43=>?_) (fun s35 hgo=>?_)
    ·refine gA 6 E<|Kjo E (decide_eq_true (Int.ofNat_lt.2 hlt))<|gA 6 E<|eo_o E (Kke hΓ (enc:=Lno) (Kjx hx41) E E E E E (fun _=>E))<|gO 1 E<|Kxn hΓ E E E Z<|Kxs hΓ E E E E E E E E Z<|Kld [mOb (kD Lno) false eB s35,.box 255 [S x5.Node,.d (Slt 252 3 Lno x5.Addrs),.d (Slt 257 4 Lnp x5.Routes)],.box 252 [B x36.Six,U x36.Hi,U x36.Lo]] E<|bK hy42 fun y45 hy45 h46=>gO 6 E<|Kkv C (Lqw hy45) E Z E E E E E<|gO 9 E<|jC E h46 (fun h47=>?_) fun h52=>gA 7 E<|eo_o E (Kso hΓ (kenc:=Lno) (agg:=false) (enc:=eB) s35 x36 (false:Bool) E E E Lpv (fun _=>E) E E E E E E E)<|gO 2 E<|jC E h52 (fun h53=>?_) fun h58=>?_
     ·refine gA 10 E<|bK h47 fun v48 hv48 h49=>?_
      cases h49
      obtain rfl:=hout43 _ rfl
      cases h38
      refine gA 6 E<|bK hv48 fun v50 hv50 h51=>?_
      cases h51
      obtain rfl:=hout12 _ rfl
      cases h7
      exact gA 4 E<|oSi hv50▸gP E E
     ·refine gA 9 E<|bK h53 fun v54 hv54 h55=>?_
      cases h55
      obtain rfl:=hout43 _ rfl
      cases h38
      refine gA 6 E<|bK hv54 fun v56 hv56 h57=>?_
      cases h57
      obtain rfl:=hout12 _ rfl
      cases h7
      exact gA 4 E<|oSi hv56▸gP E E
     refine gA 5 E<|eo_u Z (Ksp hΓ (kenc:=Lno) (agg:=false) (enc:=eB) (id:=0) s35 x36 true E E Lpv (fun _=>E) E E E E E)<|Kld [mOb (kD Lno) false eB (mSet s35 x36 true),.box 255 [S x5.Node,.d (Slt 252 3 Lno x5.Addrs),.d (Slt 257 4 Lnp x5.Routes)],.box 252 [B x36.Six,U x36.Hi,U x36.Lo]] E<|gO 7 E ?_
     cases h58
     exact⟨_,E,⟨⟨E,E,E,E,E,E,E,E,Kiv E (Kiu (nLl hlt hb40)),tV⟩,[_],E,.inr ⟨HB.mk E,FB.mk E,Z⟩⟩⟩
    subst hgo
    exact gA 6 E<|Kjp E (decide_eq_false (Int.lt_irrefl _))<|gA 4 E<|⟨_,E,⟨⟨E,E,E,E,E,E,tV⟩,[],E,.inl E⟩⟩
   intro a39 ha
   subst ha
   replace h38:=Kno h38
   refine gA 5 E<|eo_o E (Kqn (Kxb hΓ (g:=.d (Slt 257 4 Lnp x5.Routes)) E) G.Le.unt)<|gO 4 E<|jC E h38 (fun h59=>?_) fun h62=>gA 5 E<|eo_o E (Kqn (Kxb hΓ (g:=.d (Slt 257 4 Lnp x5.Routes)) E) G.Le.unt)<|gO 4 E<|bK h62 fun q66 hq66 h67=>Kkd 67 E fun hb69=>Knt (R:=fun a68=>q66=.go a68) (fun a68=>[(0,.d (Sl Lnq l)),(3,.map 0),(16,.d (Sl Lnq l)),(17,I (l.length:Int)),(18,I (i3:Int))]) (fun a68=>[mOb (kD Lno) false eB a39,.box 255 [S x5.Node,.d (Slt 252 3 Lno x5.Addrs),.d (Slt 257 4 Lnp x5.Routes)]]) ?_ ?_
   ·refine gA 9 E<|bK h59 fun v60 hv60 h61=>?_
    cases h61
    obtain rfl:=hout12 _ rfl
    cases h7
    exact gA 4 E<|oSi hv60▸gP E E
   ·refine gA 1 E<|Kkc x5.Routes.2 hq66 (fun i63 s64=>[(0,.d (Sl Lnq l)),(3,.map 0),(5,.ptr 1 0),(16,.d (Sl Lnq l)),(17,I (l.length:Int)),(18,I (i3:Int)),(67,.d (Sl Lnp x5.Routes.2)),(68,I (x5.Routes.2.length:Int)),(69,I (i63:Int))]) (fun s64=>[mOb (kD Lno) false eB a39,.box 255 [S x5.Node,.d (Slt 252 3 Lno x5.Addrs),.d (Slt 257 4 Lnp x5.Routes)]]) ⟨⟨E,E,E,E,E,E,E,E,E,tV⟩,[],E,.inl E⟩ (fun i63 x65 s64 y73 hx70 hlt hy71 hout72=>?_) (fun s64 hgo=>?_)
    ·refine gA 6 E<|Kjo E (decide_eq_true (Int.ofNat_lt.2 hlt))<|gA 7 E<|eo_o E (Kke hΓ (enc:=Lnp) (Kjx hx70) E E E E E (fun _=>E))<|gO 1 E<|Kxn hΓ E E E Z<|gO 1 E<|Kxs hΓ E E E E E E E E Z<|Kld [mOb (kD Lno) false eB a39,.box 255 [S x5.Node,.d (Slt 252 3 Lno x5.Addrs),.d (Slt 257 4 Lnp x5.Routes)],.box 257 [B x65.Addr.Six,U x65.Addr.Hi,U x65.Addr.Lo,I x65.Bits]] E<|bK hy71 fun y74 hy74 h75=>gO 6 E<|Kkv C (Lra hy74) E Z E E E E E<|gO 9 E<|jC E h75 (fun h76=>?_) fun h81=>gA 3 E<|Kjq hmix (by kernel_rfl)<|gA 1 E<|gl_o E (Kqn (Kxb hΓ (g:=.d (Slt 257 4 Lnp x5.Routes)) E) G.Le.unt)<|bK h81 fun z82 hz82 h83=>Kjl hΓ 1 E<|gl_o E (Kkl hΓ (enc:=Lnp) hz82 E E E E E E (fun _=>E))<|bK h83 fun y84 hy84 h85=>Kjl hΓ 1 E<|Kkw C (Lrc hy84) E E E E E E<|Kjl hΓ 2 E<|jC E h85 (fun h86=>?_) fun h91=>?_
     ·refine gA 10 E<|bK h76 fun v77 hv77 h78=>?_
      cases h78
      obtain rfl:=hout72 _ rfl
      cases h67
      refine gA 5 E<|bK hv77 fun v79 hv79 h80=>?_
      cases h80
      obtain rfl:=hout12 _ rfl
      cases h7
      exact gA 4 E<|oSi hv79▸gP E E
     ·refine gA 8 E<|bK h86 fun v87 hv87 h88=>?_
      cases h88
      obtain rfl:=hout72 _ rfl
      cases h67
      refine gA 5 E<|bK hv87 fun v89 hv89 h90=>?_
      cases h90
      obtain rfl:=hout12 _ rfl
      cases h7
      exact gA 4 E<|oSi hv89▸gP E E
     refine gA 7 E ?_
     cases h91
     exact⟨_,E,⟨⟨E,E,E,E,E,E,E,E,Kiv E (Kiu (nLl hlt hb69)),tV⟩,[_],E,.inr ⟨HB.mk E,FB.mk E,Z⟩⟩⟩
    subst hgo
    exact gA 6 E<|Kjp E (decide_eq_false (Int.lt_irrefl _))<|gA 4 E<|⟨_,E,⟨⟨E,E,E,E,E,tV⟩,[],E,.inl E⟩⟩
   intro a68 ha
   subst ha
   replace h67:=Kno h67
   refine gA 6 E ?_
   cases h67
   exact⟨_,E,⟨⟨E,E,E,E,Kiv E (Kiu (nLl hlt hb9)),tV⟩,[_],E,.inr ⟨HB.mk E,FB.mk E,Z⟩⟩⟩
  subst hgo
  exact gA 6 E<|Kjp E (decide_eq_false (Int.lt_irrefl _))<|gA 4 E<|⟨_,E,⟨tV,[],E,.inl E⟩⟩
 intro a8 ha
 subst ha
 replace h7:=Kno h7
 exact gA 7 E<|oSi h7▸gP E E
theorem Lre{d:Lgf}{r:Lgp}(h:Lka d=some r):EC Tryz.prog 86 [.agg (fD d)] [] fun g hp'=>g=.ptr 4 0∧hp'=(oN r 0 1 2 3 []):=by
 unfold Lka at h
 refine Kqd (Fr.of 0 _) Tryz.func86 E (Fr.of_ok _) Z fun _=>Kjm<|gA 2 E<|Kxo E E E E Z<|gO 6 E<|eo_s Z (nblt.1 E) (Kox false)<|Kld [.box 29 (fD d),mObB ([]:List (Str×Bool))] E<|eo_s Z (nblt.1 E) (Kox false)<|Kld [.box 29 (fD d),mObB ([]:List (Str×Bool)),mObH ([]:List (Str×Nat))] E<|eo_s Z (nblt.1 E) (Kox true)<|Kld [.box 29 (fD d),mObB ([]:List (Str×Bool)),mObH ([]:List (Str×Nat)),mObM ([]:List (Str×Lgn))] E<|eo_s Z (nblt.1 E) (Kox false)<|Kld [.box 29 (fD d),mObB ([]:List (Str×Bool)),mObH ([]:List (Str×Nat)),mObM ([]:List (Str×Lgn)),mObT ([]:List (Str×(Tl Lgo)))] E<|Khr hΓ (gs:=[.d (Sl eS d.Users),.d (Sl Lnk d.Owners),I d.Life,B d.Approve,.map 1,.map 2,.map 3,.map 4]) E E E E E E E<|Kxo E E E E Z<|gO 12 E<|bK h fun q4 hq4 h5=>Kkd 14 E fun hb7=>Knu [(3,.ptr 5 0)] [.box 29 (fD d),mObB q4,mObH ([]:List (Str×Nat)),mObM ([]:List (Str×Lgn)),mObT ([]:List (Str×(Tl Lgo))),.box 206 [.d (Sl eS d.Users),.d (Sl Lnk d.Owners),I d.Life,B d.Approve,.map 1,.map 2,.map 3,.map 4]] ?_ ?_
 ·refine gA 1 E<|Klk d.Users hq4 (fun i1 s2=>[(3,.ptr 5 0),(14,.d (Sl eS d.Users)),(15,I (d.Users.length:Int)),(16,I (i1:Int))]) (fun s2=>[.box 29 (fD d),mObB s2,mObH ([]:List (Str×Nat)),mObM ([]:List (Str×Lgn)),mObT ([]:List (Str×(Tl Lgo))),.box 206 [.d (Sl eS d.Users),.d (Sl Lnk d.Owners),I d.Life,B d.Approve,.map 1,.map 2,.map 3,.map 4]]) ⟨⟨E,E,E,E,tV⟩,[],E,.inl E⟩ (fun i1 x3 s2 y11 hx8 hlt hy9=>?_) (?_)
  ·refine gA 6 E<|Kjo E (decide_eq_true (Int.ofNat_lt.2 hlt))<|gA 6 E<|eo_o E (Kke hΓ (enc:=eS) (Kjx hx8) E E E E E (fun _=>E))<|gO 10 E<|eo_u Z (Kpf hΓ (kv:=kS) (agg:=false) (enc:=eB) (id:=1) s2 x3 true E E E Kor E E E E E)<|Kld [.box 29 (fD d),mObB (mSet s2 x3 true),mObH ([]:List (Str×Nat)),mObM ([]:List (Str×Lgn)),mObT ([]:List (Str×(Tl Lgo))),.box 206 [.d (Sl eS d.Users),.d (Sl Lnk d.Owners),I d.Life,B d.Approve,.map 1,.map 2,.map 3,.map 4]] E<|gO 7 E ?_
   cases hy9
   exact⟨⟨E,E,E,Kiv E (Kiu (nLl hlt hb7)),tV⟩,[],E,.inl E⟩
  exact gA 6 E<|Kjp E (decide_eq_false (Int.lt_irrefl _))<|gA 4 E<|⟨⟨E,tV⟩,[],E,.inl E⟩
 exact gA 8 E<|Kpy 0 [.dead,mObB q4,mObH ([]:List (Str×Nat)),mObM ([]:List (Str×Lgn)),mObT ([]:List (Str×(Tl Lgo))),.box 206 [.d (Sl eS d.Users),.d (Sl Lnk d.Owners),I d.Life,B d.Approve,.map 1,.map 2,.map 3,.map 4]] E Z<|Kns 1 0 [mObB q4,.dead,mObH ([]:List (Str×Nat)),mObM ([]:List (Str×Lgn)),mObT ([]:List (Str×(Tl Lgo))),.box 206 [.d (Sl eS d.Users),.d (Sl Lnk d.Owners),I d.Life,B d.Approve,.map 0,.map 2,.map 3,.map 4]] E E E E E E<|Kns 2 1 [mObB q4,mObH ([]:List (Str×Nat)),.dead,mObM ([]:List (Str×Lgn)),mObT ([]:List (Str×(Tl Lgo))),.box 206 [.d (Sl eS d.Users),.d (Sl Lnk d.Owners),I d.Life,B d.Approve,.map 0,.map 1,.map 3,.map 4]] E E E E E E<|Kns 3 2 [mObB q4,mObH ([]:List (Str×Nat)),mObM ([]:List (Str×Lgn)),.dead,mObT ([]:List (Str×(Tl Lgo))),.box 206 [.d (Sl eS d.Users),.d (Sl Lnk d.Owners),I d.Life,B d.Approve,.map 0,.map 1,.map 2,.map 4]] E E E E E E<|Kns 4 3 [mObB q4,mObH ([]:List (Str×Nat)),mObM ([]:List (Str×Lgn)),mObT ([]:List (Str×(Tl Lgo))),.dead,.box 206 [.d (Sl eS d.Users),.d (Sl Lnk d.Owners),I d.Life,B d.Approve,.map 0,.map 1,.map 2,.map 3]] E E E E E E<|Kns 5 4 [mObB q4,mObH ([]:List (Str×Nat)),mObM ([]:List (Str×Lgn)),mObT ([]:List (Str×(Tl Lgo))),.box 206 [.d (Sl eS d.Users),.d (Sl Lnk d.Owners),I d.Life,B d.Approve,.map 0,.map 1,.map 2,.map 3],.dead] E E E E E E<|Knq<|oSi h5▸Kli hΓ [_] (.inr E) E E E E (.inr ⟨HB.mk E,E⟩)
theorem Lrf{p:Nat}{v_at:Int}{al:BagT}{r:Int}(h:Lkb p v_at al=some r):EC Tryz.prog 264 [.d (.hd (some 0) p),I v_at] [bg al] fun g hp'=>g=I r∧hp'=[bg al]:=by
 unfold Lkb at h
 refine Kvz (Fr.of 0 _) Tryz.func264 E (Fr.of_ok _) Z fun _=>Kjm<|gA 10 E<|eo_o E ((Ksf hΓ E E E E).1)<|gO 3 E<|jC E h (fun h1=>?_) fun h2=>gK h2 fun hg4 h3=>gA 3 E<|eo_o E (Kto hg4 E)<|eo_o E (Ktp hΓ hg4 E E E E E E)<|bK h3 fun m5 hm5 h6=>eo_o E (Ktq hΓ (enc:=Lnw) (bg:=0) m5 E E (ArU.l _ (Kru (fun _ _=>E) hm5 m5)) E (g:=B m5.revoked) E E)<|gO 1 E<|bK h6 fun q7 hq7 h8=>Kjt 8 [(0,.d (.hd (some 0) p)),(21,B q7)] [bg al] ?_ ?_
 ·exact gA 8 E<|oSi h1▸Kli hΓ [] (.inr E) E E E E (.inl E)
 ·refine Kwh E E (fun hb=>?_) (fun hb=>?_)
  ·have h9:=cT hq7 hb
   exact gO 9 E<|oSi h9▸⟨⟨E,E,tV⟩,[],E,.inl E⟩
  have h10:=cF hq7 hb
  exact gK h10 fun hg12 h11=>gO 2 E<|Kwf E<|eo_o E (Kto hg12 E)<|Kwf E<|eo_o E (Ktp hΓ hg12 E E E E E E)<|Kwf E<|eo_o E (Ktp hΓ hg12 E E E E E E)<|bK h11 fun m13 hm13 h14=>Kwf E<|eo_o E (Ktq hΓ (enc:=Lnw) (bg:=0) m13 E E (ArU.l _ (Kru (fun _ _=>E) hm13 m13)) E (g:=I m13.Join.Until) E E)<|gO 3 E<|oSi h14▸⟨⟨E,E,tV⟩,[],E,.inl E⟩
 refine gO 3 E<|jC E h8 (fun h15=>?_) fun h16=>gA 1 E<|Kjq hmix (by kernel_rfl)<|gK h16 fun hg18 h17=>gA 1 E<|gl_o E (Kto hg18 E)<|gl_o E (Ktp hΓ hg18 E E E E E E)<|bK h17 fun m19 hm19 h20=>gl_o E (Ktq hΓ (enc:=Lnw) (bg:=0) m19 E E (ArU.l _ (Kru (fun _ _=>E) hm19 m19)) E (g:=I m19.used) E E)<|gK h20 fun hg22 h21=>Kjl hΓ 1 E<|gl_o E (Kto hg22 E)<|gl_o E (Ktp hΓ hg22 E E E E E E)<|gl_o E (Ktp hΓ hg22 E E E E E E)<|bK h21 fun m23 hm23 h24=>gl_o E (Ktq hΓ (enc:=Lnw) (bg:=0) m23 E E (ArU.l _ (Kru (fun _ _=>E) hm23 m23)) E (g:=I m23.Join.Left) E E)<|Kjl hΓ 4 E<|jC E h24 (fun h25=>?_) fun h26=>?_
 ·exact gA 8 E<|oSi h15▸Kli hΓ [] (.inr E) E E E E (.inl E)
 ·exact gA 8 E<|oSi h25▸Kli hΓ [] (.inr E) E E E E (.inl E)
 exact gA 9 E<|oSi h26▸Kli hΓ [] (.inr E) E E E E (.inl E)
theorem Lrg{n:Lgp}{v_public:Str}{r:Bool}(h:Lkc n v_public=some r):EC Tryz.prog 265 [.ptr 4 0,S v_public] (oN n 0 1 2 3 []) fun g hp'=>g=B r∧hp'=(oN n 0 1 2 3 []):=by
 unfold Lkc at h
 refine Kvz (Fr.of 0 _) Tryz.func265 E (Fr.of_ok _) Z fun _=>Kjm<|gA 12 E<|Kps hΓ (kv:=kS) (agg:=true) (enc:=Lnt) n.there E E E E E Z (fun mr1 bs2 cl3 hpm4 hbl5 hbn6=>?_)
 refine Kld [mObB n.users,mObH n.passes,mObS kS true Lnt n.there (rawM kS Lnt mr1 bs2 cl3),mObT n.story,bN n 0 1 2 3,.iter 2 cl3 []] E<|gO 2 E<|bK h fun q12 hq12 h13=>gA 1 E<|Kss hq12 hpm4 hbl5 hbn6 (fun s7=>[(1,S v_public),(11,.ptr 5 0)]) (fun sn9 s7=>[mObB n.users,mObH n.passes,mObS kS true Lnt n.there (rawM kS Lnt mr1 bs2 cl3),mObT n.story,bN n 0 1 2 3,.iter 2 cl3 sn9]) ⟨⟨E,E,tV⟩,[],E,.inl E⟩ (fun sn9 s7 hdone14 hstep15=>?_)
 refine gA 2 E<|Kpt (kv:=kS) (agg:=true) (enc:=Lnt) n.there mr1 bs2 cl3 sn9 (oN n 0 1 2 3 [.dead]) E E E E E Z (fun hdsn9=>?_) (fun j10 x8 b11 hjsn9 hbsn9 hnsn9=>?_)
 ·have hqsn9:=hdone14 hdsn9
  subst hqsn9
  replace h13:=Kno h13
  exact gO 16 E<|oSi h13▸Kli hΓ [_] (.inr E) E E E E (.inr ⟨HB.mk E,E⟩)
 obtain⟨s16,h17,houtsn9⟩:=hstep15 j10 x8 b11 hjsn9 hbsn9 hnsn9
 have hssn9:=h17
 refine gO 10 E<|eo_o E (Kpu (kv:=kS) (agg:=true) (enc:=Lnt) n.there mr1 bs2 cl3 sn9 hjsn9 hbsn9 E E E E (fun _=>E))<|gO 1 E<|Kxn hΓ E E E Z<|Kxs hΓ E E E E E E E E Z<|Kld [mObB n.users,mObH n.passes,mObS kS true Lnt n.there (rawM kS Lnt mr1 bs2 cl3),mObT n.story,bN n 0 1 2 3,.iter 2 cl3 (sn9++[b11]),.box 77 (fM x8.2)] E<|gO 10 E<|jC E h17 (fun h18=>?_) fun h21=>gA 2 E ?_
 ·refine gA 5 E<|Kuo (kv:=kS) (agg:=true) (enc:=Lnt) (id:=2) n.there (oN n 0 1 2 3 [.iter 2 cl3 (sn9++[b11]),.box 77 (fM x8.2)]) E E Z<|gA 2 E<|bK h18 fun v19 hv19 h20=>?_
  cases h20
  obtain rfl:=houtsn9 _ rfl
  cases h13
  exact gA 3 E<|oSi hv19▸Kli hΓ [_,_] (.inr E) E E E E (.inr ⟨HB.mk E,E⟩)
 cases h21
 exact⟨j10,x8,b11,_,hjsn9,hbsn9,hnsn9,hssn9,⟨⟨E,E,tV⟩,[_],E,.inr ⟨HB.mk E,FB.mk E,Z⟩⟩⟩
theorem Lrh{s:List Str}{r:List Str}(h:Lkd s=some r):EC Tryz.prog 213 [.d (Sl eS s)] [] fun g hp'=>g=.sl 0 r.length∧hp'=[rO 9 1 eS r]:=by
 unfold Lkd at h
 refine Kqd (Fr.of 0 _) Tryz.func213 E (Fr.of_ok _) Z fun _=>Kjm<|gA 2 E<|Kks (t:=0) 9 1 E Z<|gO 6 E<|Kje hΓ E E E E E fun b hbn=>?_
 rcases b with _ | _
 ·exact gO 7 E<|Kkr hΓ (enc:=eS) ([]:List Str) E E E E E E E E E E E E Z<|bK h fun y1 hy1 h2=>gO 1 E<|Kle hΓ (enc:=eS) hy1 E E E E E E E E E (fun _=>E) E E E E<|gO 3 E<|Kqb 0 [.dead,rO 9 1 eS y1] E Z<|Kmp 1 0 [rO 9 1 eS y1,.dead] E E E E E E<|gA 1 E<|Knq<|oSi h2▸Kli hΓ [_] (.inr E) E E E E (.inr ⟨HB.mk E,E⟩)
 obtain rfl:=List.eq_nil_of_length_eq_zero (hbn rfl).1
 replace h:(some ([]:List Str):Option (List Str))=some r:=h
 exact gO 5 E<|Kks (t:=0) 9 1 E Z<|gO 4 E<|Kpy 0 [.dead,rO 9 1 eS ([]:List Str)] E Z<|Kns 1 0 [rO 9 1 eS ([]:List Str),.dead] E E E E E E<|Knq<|oSi h▸Kli hΓ [_] (.inr E) E E E E (.inr ⟨HB.mk E,E⟩)
theorem Lri{n:Lgp}{v_at:Int}{user:Str}{r:Int}(h:Lke n v_at user=some r):EC Tryz.prog 266 [.ptr 4 0,I v_at,S user] (oN n 0 1 2 3 []) fun g hp'=>g=I r∧hp'=(oN n 0 1 2 3 []):=by
 unfold Lke at h
 refine Kvz (Fr.of 0 _) Tryz.func266 E (Fr.of_ok _) Z fun _=>Kjm<|gA 12 E<|jC E h (fun h1=>?_) fun h2=>gA 16 E<|oSi h2▸Kli hΓ [] (.inr E) E E E E (.inl E)
 exact gA 7 E<|oSi h1▸Kli hΓ [] (.inr E) E E E E (.inl E)
theorem Lrj{n:Lgp}{v_at:Int}{m:Lgn}{key:Bool}{al:BagT}{r:Lgp×BagT}(h:Lkf n v_at m key al=some r):EC Tryz.prog 267 [.ptr 4 0,I v_at,.agg (fM m),B key] (oN n 0 1 2 3 [bg al]) fun g hp'=>g=.tup []∧hp'=(oN r.1 0 1 2 3 [bg r.2]):=by
 unfold Lkf at h
 exact Kqd (Fr.of 0 _) Tryz.func267 E (Fr.of_ok _) Z fun _=>Kjm<|gA 2 E<|Kxo E E E E Z<|gO 3 E<|Kmu [.dead,.dead,.dead,.dead,bN n 0 1 2 3,.dead,.box 77 (fM m)] [3,5,6] [7] [] hmix (by kernel_rfl) (by kernel_rfl) ⟨E,E,tV⟩ Z<|go_E hΓ 7 E<|Kmz [mObB n.users,mObH n.passes,mObM (mSet n.there m.Node m),mObT n.story,bN n 0 1 2 3,bg al,.box 77 (fM m)] E E (Knb ⟨E,E,tV⟩) (Knf (Kpf hΓ (kv:=kS) (agg:=true) (enc:=Lnt) (id:=2) n.there m.Node m E E E Kor E E E E E))<|Kmw<|gA 1 E<|Kmu [.dead,.dead,.dead,mObT n.story,bN n 0 1 2 3,.dead,.box 77 (fM m)] [3,5,9,11,12,14] [18,19] [19] hmix (by kernel_rfl) (by kernel_rfl) ⟨E,E,E,tV⟩ Z<|go_E hΓ 12 E<|ge_p E (fun hp hs=>Krl hΓ (kv:=kS) (te:=233) (sz:=11) (enc:=Lnu) n.story m.Node E E E E Kor E (hs 3 _ E E) E E E) E<|go_E hΓ 3 E<|ge_q E (.inl E) (fun _ _=>Kmx (qt_p (Knl hΓ (gs:=[I v_at,S m.Node,S m.User,S m.Name,S m.Public,.d (Sl eS m.Tags),I m.Joined,I m.Expires,B m.Approved,B false,B key]) E E E E E E)))<|Kni hΓ (enc:=Lnu) [(⟨v_at,m,false,key⟩:Lgo)] E E E E E E E E E E E E<|bK h fun y1 hy1 h2=>ge_h [mObB n.users,mObH n.passes,mObM (mSet n.there m.Node m),mObT n.story,bN n 0 1 2 3,.bag y1.2 (arX al.2.1 al.2.2.1 al.2.2.2.1 al.2.2.2.2.1 al.2.2.2.2.2) [],.box 77 (fM m)] E E E (Knb ⟨E,E,E,tV⟩) (Kne (Kqm hΓ (enc:=Lnu) (bg:=5) hy1 E E E E E E E E (fun _=>E) E E))<|Kmz [mObB n.users,mObH n.passes,mObM (mSet n.there m.Node m),mObT (mSet n.story m.Node y1.1),bN n 0 1 2 3,.bag y1.2 (arX al.2.1 al.2.2.1 al.2.2.2.1 al.2.2.2.2.1 al.2.2.2.2.2) [],.box 77 (fM m)] E E (Kna E) (Knf (Kpf hΓ (kv:=kS) (agg:=false) (enc:=(eT 233 11 Lnu)) (id:=3) n.story m.Node y1.1 E E E Kor E E E E E))<|Kmw<|Knq<|oSi h2▸Kli hΓ [_] (.inl E) E E E E (.inr ⟨HB.mk E,E⟩)
theorem Lrk{n:Lgp}{s:Lgg}{al:BagT}{r:Int×Lgp×BagT}(h:Lkg n s al=some r):EC Tryz.prog 188 [.ptr 4 0,.agg (fS s)] (oN n 0 1 2 3 [bg al]) fun g hp'=>g=I r.1∧hp'=(oN r.2.1 0 1 2 3 [bg r.2.2]):=by
 unfold Lkg at h
 refine Kqd (Fr.of 0 _) Tryz.func188 E (Fr.of_ok _) Z fun _=>Kjm<|gA 2 E<|Kxo E E E E Z<|gO 15 E<|jC E h (fun h1=>?_) fun h2=>gA 3 E<|Kjq hmix (by kernel_rfl)<|gA 6 E<|gl_o E (Ksb hΓ (kv:=kS) (agg:=false) (enc:=(eH (some 0))) n.passes s.Join (0:Nat) E E E E Kor E E E (Ksa E) E)<|bK h2 fun q3 hq3 h4=>Kjl hΓ 5 E<|Knu [(0,.ptr 4 0),(3,.ptr 6 0),(5,.d (.hd (some 0) ((mGet n.passes s.Join).getD 0))),(43,B q3)] (oN n 0 1 2 3 [bg al,.box 37 (fS s)]) ?_ ?_
 ·exact gA 7 E<|Knq<|oSi h1▸Kli hΓ [_] (.inr E) E E E E (.inr ⟨HB.mk E,E⟩)
 ·refine Kjq hmix (by kernel_rfl)<|gA 4 E<|Kib E E (fun hb=>?_) (fun hb=>?_)
  ·have h5:=cT hq3 hb
   refine Kjl hΓ 6 E<|Kix E E (Kpb hΓ (kv:=kS) (agg:=false) (enc:=eB) n.users s.By (false:Bool) E E E E Kor E E E E E E E)<|Kjl hΓ 3 E<|Kib E E (fun hb=>?_) (fun hb=>?_)
   ·have h6:=cT h5 hb
    exact Kjl hΓ 9 E<|oSi h6▸⟨⟨E,E,E,E,tV⟩,[],E,.inl E⟩
   have h7:=cF h5 hb
   refine Kjl hΓ 4 E<|Kib E E (fun hb=>?_) (fun hb=>?_)
   ·have h8:=cT h7 hb
    exact Kjl hΓ 1 E<|Kix E E ((Ksf hΓ E E E E).1)<|Kjl hΓ 3 E<|oSi h8▸⟨⟨E,E,E,E,tV⟩,[],E,.inl E⟩
   have h9:=cF h7 hb
   exact Kjl hΓ 5 E<|oSi h9▸⟨⟨E,E,E,E,tV⟩,[],E,.inl E⟩
  have h10:=cF hq3 hb
  refine Kjl hΓ 14 E<|Kib E E (fun hb=>?_) (fun hb=>?_)
  ·have h11:=cT h10 hb
   exact Kjl hΓ 1 E<|Kix E E ((Ksf hΓ E E E E).1)<|Kjl hΓ 3 E<|oSi h11▸⟨⟨E,E,E,E,tV⟩,[],E,.inl E⟩
  have h12:=cF h10 hb
  exact Kjl hΓ 5 E<|oSi h12▸⟨⟨E,E,E,E,tV⟩,[],E,.inl E⟩
 refine gA 1 E<|jC E h4 (fun h13=>?_) fun h14=>bK h14 fun y15 hy15 h16=>gA 8 E<|Kku [5] (I y15) (oN n 0 1 2 3 [bg al,.box 37 (fS s)]) C (Lrf hy15) E Z E E E E E E E E E E<|gO 9 E<|jC E h16 (fun h17=>?_) fun h18=>?_
 ·exact gA 7 E<|Knq<|oSi h13▸Kli hΓ [_] (.inr E) E E E E (.inr ⟨HB.mk E,E⟩)
 ·exact gA 8 E<|Knq<|oSi h17▸Kli hΓ [_] (.inr E) E E E E (.inr ⟨HB.mk E,E⟩)
 refine gA 5 E<|Kjq hmix (by kernel_rfl)<|gA 6 E<|gl_o E (Krl hΓ (kv:=kS) (te:=233) (sz:=11) (enc:=Lnu) n.story s.Node E E E E Kor E E E E E)<|bK h18 fun b19 hb19 h20=>gl_o E ((Ktu hΓ hb19 E E E E).2)<|Kjl hΓ 3 E<|jC E h20 (fun h21=>?_) fun h22=>bK h22 fun y23 hy23 h24=>gA 5 E<|Kku [0,1,2,3,4] (B y23) (oN n 0 1 2 3 [bg al,.box 37 (fS s)]) C (Lrg hy23) E Z E E E E E E E E E E<|gO 3 E<|jC E h24 (fun h25=>?_) fun h26=>?_
 ·exact gA 8 E<|Knq<|oSi h21▸Kli hΓ [_] (.inr E) E E E E (.inr ⟨HB.mk E,E⟩)
 ·exact gA 8 E<|Knq<|oSi h25▸Kli hΓ [_] (.inr E) E E E E (.inr ⟨HB.mk E,E⟩)
 refine gA 6 E<|eo_o E (Kpv hΓ (kv:=kS) (agg:=true) (enc:=Lnt) n.there E E E E)<|gO 4 E<|jC E h26 (fun h27=>?_) fun h28=>gA 4 E<|Kmu [.dead,.dead,.dead,.dead,bN n 0 1 2 3,.dead,.box 37 (fS s)] [1,3,5,7,9,14] [17,18] [] hmix (by kernel_rfl) (by kernel_rfl) ⟨E,E,tV⟩ Z<|go_E hΓ 16 E<|ge_q E (.inl E) (fun _ _=>Kmx (qt_p (Knl hΓ (gs:=[S s.Node,S s.By,S s.Name,S s.Public,.d (Sl eS []),I s.At,I 0,B (!n.d.Approve)]) E E E E E E)))<|ge_h (oN n 0 1 2 3 [bg al,.box 37 (fS s),.box 77 [S [],S [],S [],S [],.d (Sl eS []),I 0,I 0,B false]]) E E E (Knb ⟨E,E,tV⟩) (Kne (Knj hΓ (hi:=show Γ 77=some ⟨_,_,_,_⟩ from E) E))<|Kmz (oN n 0 1 2 3 [bg al,.box 37 (fS s),.box 77 [S s.Node,S s.By,S s.Name,S s.Public,.d (Sl eS []),I s.At,I 0,B (!n.d.Approve)]]) E E (Knb ⟨E,E,tV⟩) (Knf (Kof hΓ E E E E E E E E E))<|Kmw<|gA 5 E<|eo_o E ((Ksf hΓ E E E E).2)<|bK h28 fun q29 hq29 h30=>gO 2 E<|Knu [(0,.ptr 4 0),(3,.ptr 6 0),(7,.ptr 7 0)] (oN n 0 1 2 3 [bg q29.1,.box 37 (fS s),.box 77 (fM q29.2)]) ?_ ?_
 ·exact gA 8 E<|Knq<|oSi h27▸Kli hΓ [_] (.inr E) E E E E (.inr ⟨HB.mk E,E⟩)
 ·refine jC E hq29 (fun h31=>?_) fun h66=>gA 1 E<|oSi h66▸⟨⟨E,E,E,tV⟩,[],E,.inl E⟩
  refine gK h31 fun hg33 h32=>gA 3 E<|eo_o E (Kto hg33 E)<|eo_o E (Ktp hΓ hg33 E E E E E E)<|bK h32 fun m34 hm34 h35=>eo_o E (Ktq hΓ (enc:=Lnw) (bg:=5) m34 E E (ArU.l _ (Kru (fun _ _=>E) hm34 m34)) E (g:=I m34.used) E E)<|gK h35 fun hg37 h36=>gO 1 E<|eo_o E (Kto hg37 E)<|eo_o E (Ktp hΓ hg37 E E E E E E)<|bK h36 fun m38 hm38 h39=>eo_u Z (Ktr hΓ (enc:=Lnw) (bg:=5) m38 (⟨m38.Join,m38.revoked,wi (m34.used+1)⟩:Lgr) E E (ArU.l _ (Kru (fun _ _=>E) hm38 (⟨m38.Join,m38.revoked,wi (m34.used+1)⟩:Lgr))) E E (by intro e;cases e) E E E E E E E) ?_
  refine Kld (oN n 0 1 2 3 [.bag al.1 (arX (hSet al.2.1 ((mGet n.passes s.Join).getD 0) (⟨m38.Join,m38.revoked,wi (m34.used+1)⟩:Lgr)) al.2.2.1 al.2.2.2.1 al.2.2.2.2.1 al.2.2.2.2.2) [],.box 37 (fS s),.box 77 [S s.Node,S s.By,S s.Name,S s.Public,.d (Sl eS []),I s.At,I 0,B (!n.d.Approve)]]) E<|gK h39 fun hg41 h40=>gO 5 E<|eo_o E (Kto hg41 E)<|eo_o E (Ktp hΓ hg41 E E E E E E)<|eo_o E (Ktp hΓ hg41 E E E E E E)<|bK h40 fun m42 hm42 h43=>eo_o E (Ktq hΓ (enc:=Lnw) (bg:=5) m42 E E (ArU.l _ (Kru (fun _ _=>E) hm42 m42)) E (g:=.d (Sl eS m42.Join.Tags)) E E)<|bK h43 fun y44 hy44 h45=>Kkv C (Pure.rows (Lrh hy44) E E) E Z E E E E E<|gO 1 E<|Kxs hΓ E E E E E E E E Z<|Kld (oN n 0 1 2 3 [.bag al.1 (arX (hSet al.2.1 ((mGet n.passes s.Join).getD 0) (⟨m38.Join,m38.revoked,wi (m34.used+1)⟩:Lgr)) al.2.2.1 al.2.2.2.1 al.2.2.2.2.1 al.2.2.2.2.2) [],.box 37 (fS s),.box 77 [S s.Node,S s.By,S s.Name,S s.Public,.d (Sl eS y44),I s.At,I 0,B (!n.d.Approve)]]) E<|gK h45 fun hg47 h46=>gO 6 E<|eo_o E (Kto hg47 E)<|eo_o E (Ktp hΓ hg47 E E E E E E)<|eo_o E (Ktp hΓ hg47 E E E E E E)<|bK h46 fun m48 hm48 h49=>eo_o E (Ktq hΓ (enc:=Lnw) (bg:=5) m48 E E (ArU.l _ (Kru (fun _ _=>E) hm48 m48)) E (g:=.d (Sl eS m48.Join.Tags)) E E)<|bK h49 fun q50 hq50 h51=>gO 4 E<|Knu [(0,.ptr 4 0),(3,.ptr 6 0),(5,.d (.hd (some 0) ((mGet n.passes s.Join).getD 0))),(7,.ptr 7 0)] (oN n 0 1 2 3 [.bag al.1 (arX (hSet al.2.1 ((mGet n.passes s.Join).getD 0) (⟨m38.Join,m38.revoked,wi (m34.used+1)⟩:Lgr)) al.2.2.1 al.2.2.2.1 al.2.2.2.2.1 al.2.2.2.2.2) [],.box 37 (fS s),.box 77 [S s.Node,S q50,S s.Name,S s.Public,.d (Sl eS y44),I s.At,I 0,B (!n.d.Approve)]]) ?_ ?_
  ·refine jC E hq50 (fun h52=>?_) fun h57=>gA 1 E<|oSi h57▸⟨⟨E,E,E,E,tV⟩,[],E,.inl E⟩
   exact gK h52 fun hg54 h53=>gA 2 E<|eo_o E (Kto hg54 E)<|eo_o E (Ktp hΓ hg54 E E E E E E)<|eo_o E (Ktp hΓ hg54 E E E E E E)<|bK h53 fun m55 hm55 h56=>eo_o E (Ktq hΓ (enc:=Lnw) (bg:=5) m55 E E (ArU.l _ (Kru (fun _ _=>E) hm55 m55)) E (g:=S m55.Join.By) E E)<|gO 1 E<|Kxs hΓ E E E E E E E E Z<|Kld (oN n 0 1 2 3 [.bag al.1 (arX (hSet al.2.1 ((mGet n.passes s.Join).getD 0) (⟨m38.Join,m38.revoked,wi (m34.used+1)⟩:Lgr)) al.2.2.1 al.2.2.2.1 al.2.2.2.2.1 al.2.2.2.2.2) [],.box 37 (fS s),.box 77 [S s.Node,S m55.Join.By,S s.Name,S s.Public,.d (Sl eS y44),I s.At,I 0,B (!n.d.Approve)]]) E<|gO 1 E<|oSi h56▸⟨⟨E,E,E,E,tV⟩,[],E,.inl E⟩
  refine gA 5 E<|bK h51 fun q58 hq58 h59=>Kjt 6 [(0,.ptr 4 0),(3,.ptr 6 0),(7,.ptr 7 0),(126,B q58)] (oN n 0 1 2 3 [.bag al.1 (arX (hSet al.2.1 ((mGet n.passes s.Join).getD 0) (⟨m38.Join,m38.revoked,wi (m34.used+1)⟩:Lgr)) al.2.2.1 al.2.2.2.1 al.2.2.2.2.1 al.2.2.2.2.2) [],.box 37 (fS s),.box 77 [S s.Node,S q50,S s.Name,S s.Public,.d (Sl eS y44),I s.At,I 0,B (!n.d.Approve)]]) ?_ ?_
  ·refine Kwh E E (fun hb=>?_) (fun hb=>?_)
   ·have h60:=cT hq58 hb
    exact gO 7 E<|oSi h60▸⟨⟨E,E,E,E,tV⟩,[],E,.inl E⟩
   have h61:=cF hq58 hb
   exact gK h61 fun hg63 h62=>gO 1 E<|Kwf E<|eo_o E (Kto hg63 E)<|Kwf E<|eo_o E (Ktp hΓ hg63 E E E E E E)<|Kwf E<|eo_o E (Ktp hΓ hg63 E E E E E E)<|bK h62 fun m64 hm64 h65=>Kwf E<|eo_o E (Ktq hΓ (enc:=Lnw) (bg:=5) m64 E E (ArU.l _ (Kru (fun _ _=>E) hm64 m64)) E (g:=B m64.Join.Ready) E E)<|gO 2 E<|oSi h65▸⟨⟨E,E,E,E,tV⟩,[],E,.inl E⟩
  exact gO 1 E<|Kxs hΓ E E E E E E E E Z<|Kld (oN n 0 1 2 3 [.bag al.1 (arX (hSet al.2.1 ((mGet n.passes s.Join).getD 0) (⟨m38.Join,m38.revoked,wi (m34.used+1)⟩:Lgr)) al.2.2.1 al.2.2.2.1 al.2.2.2.2.1 al.2.2.2.2.2) [],.box 37 (fS s),.box 77 [S s.Node,S q50,S s.Name,S s.Public,.d (Sl eS y44),I s.At,I 0,B q58]]) E<|gO 1 E<|oSi h59▸⟨⟨E,E,E,tV⟩,[],E,.inl E⟩
 exact bK h30 fun y67 hy67 h68=>gA 8 E<|Kku [0,1,2,3,4] (I y67) (oN n 0 1 2 3 [bg q29.1,.box 37 (fS s),.box 77 (fM q29.2)]) C (Lri hy67) E Z E E E E E E E E E E<|gO 1 E<|Kxs hΓ E E E E E E E E Z<|Kld (oN n 0 1 2 3 [bg q29.1,.box 37 (fS s),.box 77 [S q29.2.Node,S q29.2.User,S q29.2.Name,S q29.2.Public,.d (Sl eS q29.2.Tags),I q29.2.Joined,I y67,B q29.2.Approved]]) E<|bK h68 fun y69 hy69 h70=>gO 8 E<|Kku [0,1,2,3,4,5] (.tup []) (oN y69.1 0 1 2 3 [bg y69.2,.box 37 (fS s),.box 77 [S q29.2.Node,S q29.2.User,S q29.2.Name,S q29.2.Public,.d (Sl eS q29.2.Tags),I q29.2.Joined,I y67,B q29.2.Approved]]) C (Lrj hy69) E Z E E E E E E E E E E<|gO 8 E<|Knq<|oSi h70▸Kli hΓ [_,_] (.inr E) E E E E (.inr ⟨HB.mk E,E⟩)
theorem Lrl{o:Lge}{x:Str}{r:Bool}(h:Lkh o x=some r):EC Tryz.prog 210 [.agg [S o.Tag,.d (Sl eS o.Users)],.ptr 0 0] [.box 9 [S x]] fun g hp'=>g=B r∧hp'=[.box 9 [S x]]:=by
 unfold Lkh at h
 exact Kvz (Fr.of 0 _) Tryz.func210 E (Fr.of_ok _) Z fun _=>Kjm<|gA 2 E<|Kxo E E E E Z<|gO 13 E<|oSi h▸Kli hΓ [_] (.inr E) E E E E (.inr ⟨HB.mk E,E⟩)
theorem Lrm{s:List Lge}{f:Str}{r:Int}(h:Lki s f=some r):EC Tryz.prog 209 [.d (Sl Lnk s),.fn (.func 210) [] [.ptr 0 0]] [.box 9 [S f]] fun g hp'=>g=I r∧hp'=[.box 9 [S f]]:=by
 unfold Lki at h
 refine Kvz (Fr.of 0 _) Tryz.func209 E (Fr.of_ok _) Z fun _=>Kjm<|gA 13 E<|bK h fun q4 hq4 h5=>Kkd 0 E fun hb7=>Knt (R:=fun a6=>q4=.go a6) (fun a6=>[]) (fun a6=>[.box 9 [S f]]) ?_ ?_
 ·refine gA 1 E<|Kkc s hq4 (fun i1 s2=>[(0,.d (Sl Lnk s)),(1,.fn (.func 210) [] [.ptr 0 0]),(7,I (s.length:Int)),(8,I (i1:Int))]) (fun s2=>[.box 9 [S f]]) ⟨⟨E,E,E,E,tV⟩,[],E,.inl E⟩ (fun i1 x3 s2 y11 hx8 hlt hy9 hout10=>?_) (fun s2 hgo=>?_)
  ·refine gA 6 E<|Kjo E (decide_eq_true (Int.ofNat_lt.2 hlt))<|gA 15 E<|eo_o E (Kke hΓ (enc:=Lnk) (Kjx hx8) E E E E E (fun _=>E))<|bK hy9 fun y12 hy12 h13=>gO 1 E<|Kku [0] (B y12) [.box 9 [S f]] C (Lrl hy12) E Z E E E E E E E E E E<|gO 2 E<|jC E h13 (fun h14=>?_) fun h17=>gA 7 E ?_
   ·refine gA 9 E<|bK h14 fun v15 hv15 h16=>?_
    cases h16
    obtain rfl:=hout10 _ rfl
    cases h5
    exact gA 4 E<|oSi hv15▸Kli hΓ [] (.inr E) E E E E (.inl E)
   cases h17
   exact⟨_,E,⟨⟨E,E,E,Kiv E (Kiu (nLl hlt hb7)),tV⟩,[],E,.inl E⟩⟩
  subst hgo
  exact gA 6 E<|Kjp E (decide_eq_false (Int.lt_irrefl _))<|gA 4 E<|⟨_,E,⟨tV,[],E,.inl E⟩⟩
 intro a6 ha
 subst ha
 replace h5:=Kno h5
 exact gA 7 E<|oSi h5▸Kli hΓ [] (.inr E) E E E E (.inl E)
theorem Lrn{d:Lgf}{user:Str}{tag:Str}{r:Bool×Bool}(h:Lkj d user tag=some r):Pure Tryz.prog 102 [.agg (fD d),S user,S tag] (.tup [B r.1,B r.2]):=by
 unfold Lkj at h
 refine Pure.enter (Fr.of 0 _) Tryz.func102 E (Fr.of_ok _) E E<|Kjm<|gA 2 E<|Kxo E E E E Z<|Kxo E E E E Z<|bK h fun y1 hy1 h2=>gO 9 E<|Kku [1] (I y1) [.box 29 (fD d),.box 9 [S tag]] C (Lrm hy1) E Z E E E E E E E E E E<|gO 8 E<|bK h2 fun q3 hq3 h4=>Kjt 9 [(6,B false),(7,B false),(8,I y1),(24,B q3)] [.box 29 (fD d),.box 9 [S tag]] ?_ ?_
 ·refine Kwh E E (fun hb=>?_) (fun hb=>?_)
  ·have h5:=cT hq3 hb
   exact bK h5 fun x6 hx6 h7=>gO 3 E<|Kwf E<|eo_o E (Kke hΓ (enc:=Lnk) hx6 E E E E E (fun _=>E))<|bK h7 fun y8 hy8 h9=>gO 3 E<|Kwf E<|Kkv C (Loy hy8) E Z E E E E E<|gO 2 E<|oSi h9▸⟨⟨E,E,E,E,tV⟩,[],E,.inl E⟩
  have h10:=cF hq3 hb
  exact gO 10 E<|oSi h10▸⟨⟨E,E,E,E,tV⟩,[],E,.inl E⟩
 exact gO 7 E<|oSi h4▸gP E E
theorem Lro{n:Lgp}{user:Str}{tags:List Str}{r:Int}(h:Lkk n user tags=some r):EC Tryz.prog 268 [.ptr 4 0,S user,.d (Sl eS tags)] (oN n 0 1 2 3 []) fun g hp'=>g=I r∧hp'=(oN n 0 1 2 3 []):=by
 unfold Lkk at h
 refine Kvz (Fr.of 0 _) Tryz.func268 E (Fr.of_ok _) Z fun _=>Kjm<|gA 13 E<|bK h fun q4 hq4 h5=>Kkd 11 E fun hb7=>Knt (R:=fun a6=>q4=.go a6) (fun a6=>[]) (fun a6=>(oN n 0 1 2 3 [])) ?_ ?_
 ·refine gA 1 E<|Kkc tags hq4 (fun i1 s2=>[(0,.ptr 4 0),(1,S user),(11,.d (Sl eS tags)),(12,I (tags.length:Int)),(13,I (i1:Int))]) (fun s2=>(oN n 0 1 2 3 [])) ⟨⟨E,E,E,E,E,tV⟩,[],E,.inl E⟩ (fun i1 x3 s2 y11 hx8 hlt hy9 hout10=>?_) (fun s2 hgo=>?_)
  ·refine gA 6 E<|Kjo E (decide_eq_true (Int.ofNat_lt.2 hlt))<|gA 6 E<|eo_o E (Kke hΓ (enc:=eS) (Kjx hx8) E E E E E (fun _=>E))<|bK hy9 fun y12 hy12 h13=>gO 12 E<|Kkv C (Lrn hy12) E Z E E E E E<|gO 14 E<|jC E h13 (fun h14=>?_) fun h17=>gA 8 E<|jC E h17 (fun h18=>?_) fun h21=>?_
   ·refine gA 9 E<|bK h14 fun v15 hv15 h16=>?_
    cases h16
    obtain rfl:=hout10 _ rfl
    cases h5
    exact gA 4 E<|oSi hv15▸Kli hΓ [] (.inr E) E E E E (.inl E)
   ·refine gA 8 E<|bK h18 fun v19 hv19 h20=>?_
    cases h20
    obtain rfl:=hout10 _ rfl
    cases h5
    exact gA 4 E<|oSi hv19▸Kli hΓ [] (.inr E) E E E E (.inl E)
   refine gA 7 E ?_
   cases h21
   exact⟨_,E,⟨⟨E,E,E,E,Kiv E (Kiu (nLl hlt hb7)),tV⟩,[],E,.inl E⟩⟩
  subst hgo
  exact gA 6 E<|Kjp E (decide_eq_false (Int.lt_irrefl _))<|gA 4 E<|⟨_,E,⟨tV,[],E,.inl E⟩⟩
 intro a6 ha
 subst ha
 replace h5:=Kno h5
 exact gA 7 E<|oSi h5▸Kli hΓ [] (.inr E) E E E E (.inl E)
theorem Lrp{n:Lgp}{s:Lgg}{al:BagT}{r:Int×Lgp×BagT}(h:Lkl n s al=some r):EC Tryz.prog 189 [.ptr 4 0,.agg (fS s)] (oN n 0 1 2 3 [bg al]) fun g hp'=>g=I r.1∧hp'=(oN r.2.1 0 1 2 3 [bg r.2.2]):=by
 unfold Lkl at h
 refine Kqd (Fr.of 0 _) Tryz.func189 E (Fr.of_ok _) Z fun _=>Kjm<|gA 2 E<|Kxo E E E E Z<|gO 5 E<|Kjq hmix (by kernel_rfl)<|gA 6 E<|gl_o E (Ksb hΓ (kv:=kS) (agg:=false) (enc:=(eH (some 0))) n.passes s.Join (0:Nat) E E E E Kor E E E (Ksa E) E)<|gl_o E ((Ksf hΓ E E E E).2)<|Kjl hΓ 2 E<|jC E h (fun h1=>?_) fun h2=>bK h2 fun y3 hy3 h4=>gA 7 E<|Kkv C (Lqf hy3) E Z E E E E E<|gO 1 E<|bK h4 fun q5 hq5 h6=>Kjt 7 [(0,.ptr 4 0),(3,.ptr 6 0),(24,B q5)] (oN n 0 1 2 3 [bg al,.box 37 (fS s)]) ?_ ?_
 ·exact gA 7 E<|Knq<|oSi h1▸Kli hΓ [_] (.inr E) E E E E (.inr ⟨HB.mk E,E⟩)
 ·refine Kwh E E (fun hb=>?_) (fun hb=>?_)
  ·have h7:=cT hq5 hb
   exact gO 8 E<|oSi h7▸⟨⟨E,E,E,tV⟩,[],E,.inl E⟩
  have h8:=cF hq5 hb
  exact bK h8 fun y9 hy9 h10=>gO 5 E<|Kwf E<|Kkv C (Lqf hy9) E Z E E E E E<|gO 2 E<|oSi h10▸⟨⟨E,E,E,tV⟩,[],E,.inl E⟩
 refine gO 2 E<|jC E h6 (fun h11=>?_) fun h12=>bK h12 fun y13 hy13 h14=>gA 10 E<|Kku [0,1,2,3,4] (I y13) (oN n 0 1 2 3 [bg al,.box 37 (fS s)]) C (Lro hy13) E Z E E E E E E E E E E<|gO 9 E<|jC E h14 (fun h15=>?_) fun h16=>?_
 ·exact gA 7 E<|Knq<|oSi h11▸Kli hΓ [_] (.inr E) E E E E (.inr ⟨HB.mk E,E⟩)
 ·exact gA 8 E<|Knq<|oSi h15▸Kli hΓ [_] (.inr E) E E E E (.inr ⟨HB.mk E,E⟩)
 exact gA 3 E<|Kmu [.dead,.dead,.dead,.dead,bN n 0 1 2 3,.dead,.box 37 (fS s)] [3,5,7,9,11,14,16,18] [21,22] [] hmix (by kernel_rfl) (by kernel_rfl) ⟨E,E,tV⟩ Z<|bK h16 fun y17 hy17 h18=>go_E hΓ 12 E<|Knh C (Pure.rows (Lrh hy17) E E) E E E E E E<|go_E hΓ 6 E<|ge_q E (.inl E) (fun _ _=>Kmx (qt_p (Knl hΓ (gs:=[S s.Join,S s.By,.d (Sl eS y17),I s.Until,I s.Uses,B s.Ready]) E E E E E E)))<|ge_q E (.inl E) (fun _ _=>Kmx (qt_p (Knl hΓ (gs:=[S s.Join,S s.By,.d (Sl eS y17),I s.Until,I s.Uses,B s.Ready,B false,I 0]) E E E E E E)))<|ge_h (oN n 0 1 2 3 [bg al,.box 37 (fS s),.box 215 [S s.Join,S s.By,.d (Sl eS y17),I s.Until,I s.Uses,B s.Ready,B false,I 0]]) E E E (Knb ⟨E,E,tV⟩) (Kne (Knk E E E))<|Kmz [mObB n.users,mObH (mSet n.passes s.Join (al.1.length+1)),mObM n.there,mObT n.story,bN n 0 1 2 3,.bag (al.1++[false]) (arX ((al.1.length,(⟨(⟨s.Join,s.By,y17,s.Until,s.Uses,s.Ready⟩:Lgq),false,0⟩:Lgr)) :: al.2.1) al.2.2.1 al.2.2.2.1 al.2.2.2.2.1 al.2.2.2.2.2) [],.box 37 (fS s),.dead] E E (Knb ⟨E,E,tV⟩) (Knf (Kpz (Krs (hp2:=(oN n 0 1 2 3 [.bag (al.1++[false]) (arX ((al.1.length,(⟨(⟨s.Join,s.By,y17,s.Until,s.Uses,s.Ready⟩:Lgq),false,0⟩:Lgr)) :: al.2.1) al.2.2.1 al.2.2.2.1 al.2.2.2.2.1 al.2.2.2.2.2) [],.box 37 (fS s),.dead])) (bg:=5) (id:=7) (a:=(fB 215 Lnw) al.1.length (⟨(⟨s.Join,s.By,y17,s.Until,s.Uses,s.Ready⟩:Lgq),false,0⟩:Lgr)) [(55,some 0)] ⟨E,tV⟩ E E ⟨E,E⟩ E E (Krx _ Krw) E E) (Kpf hΓ (kv:=kS) (agg:=false) (enc:=(eH (some 0))) (id:=1) n.passes s.Join (al.1.length+1) E E E Kor E E E E E) Z))<|Kmw<|gA 7 E<|Knq<|oSi h18▸Kli hΓ [_,_] (.inr E) E E E E (.inr ⟨HB.mk E,E⟩)
theorem Lrq{n:Lgp}{s:Lgg}{al:BagT}{r:Int×BagT}(h:Lkm n s al=some r):EC Tryz.prog 190 [.ptr 4 0,.agg (fS s)] (oN n 0 1 2 3 [bg al]) fun g hp'=>g=I r.1∧hp'=(oN n 0 1 2 3 [bg r.2]):=by
 unfold Lkm at h
 refine Kvz (Fr.of 0 _) Tryz.func190 E (Fr.of_ok _) Z fun _=>Kjm<|gA 2 E<|Kxo E E E E Z<|gO 4 E<|Kjq hmix (by kernel_rfl)<|gA 6 E<|gl_o E (Ksb hΓ (kv:=kS) (agg:=false) (enc:=(eH (some 0))) n.passes s.Join (0:Nat) E E E E Kor E E E (Ksa E) E)<|Kjl hΓ 8 E<|eo_o E ((Ksf hΓ E E E E).1)<|gO 3 E<|jC E h (fun h1=>?_) fun h2=>gA 1 E<|Kjq hmix (by kernel_rfl)<|gK h2 fun hg4 h3=>gA 1 E<|gl_o E (Kto hg4 E)<|gl_o E (Ktp hΓ hg4 E E E E E E)<|gl_o E (Ktp hΓ hg4 E E E E E E)<|bK h3 fun m5 hm5 h6=>gl_o E (Ktq hΓ (enc:=Lnw) (bg:=5) m5 E E (ArU.l _ (Kru (fun _ _=>E) hm5 m5)) E (g:=S m5.Join.By) E E)<|Kjl hΓ 6 E<|jC E h6 (fun h7=>?_) fun h8=>?_
 ·exact gA 8 E<|oSi h1▸Kli hΓ [_] (.inr E) E E E E (.inr ⟨HB.mk E,E⟩)
 ·exact gA 8 E<|oSi h7▸Kli hΓ [_] (.inr E) E E E E (.inr ⟨HB.mk E,E⟩)
 refine gK h8 fun hg10 h9=>gA 3 E<|eo_o E (Kto hg10 E)<|eo_o E (Ktp hΓ hg10 E E E E E E)<|bK h9 fun m11 hm11 h12=>eo_o E (Ktq hΓ (enc:=Lnw) (bg:=5) m11 E E (ArU.l _ (Kru (fun _ _=>E) hm11 m11)) E (g:=B m11.revoked) E E)<|gO 3 E<|jC E h12 (fun h13=>?_) fun h14=>gK h14 fun hg16 h15=>gA 6 E<|eo_o E (Kto hg16 E)<|eo_o E (Ktp hΓ hg16 E E E E E E)<|bK h15 fun m17 hm17 h18=>eo_u Z (Ktr hΓ (enc:=Lnw) (bg:=5) m17 (⟨m17.Join,true,m17.used⟩:Lgr) E E (ArU.l _ (Kru (fun _ _=>E) hm17 (⟨m17.Join,true,m17.used⟩:Lgr))) E E (by intro e;cases e) E E E E E E E) ?_
 ·exact gA 8 E<|oSi h13▸Kli hΓ [_] (.inr E) E E E E (.inr ⟨HB.mk E,E⟩)
 exact Kld (oN n 0 1 2 3 [.bag al.1 (arX (hSet al.2.1 ((mGet n.passes s.Join).getD 0) (⟨m17.Join,true,m17.used⟩:Lgr)) al.2.2.1 al.2.2.2.1 al.2.2.2.2.1 al.2.2.2.2.2) [],.box 37 (fS s)]) E<|gO 8 E<|oSi h18▸Kli hΓ [_] (.inr E) E E E E (.inr ⟨HB.mk E,E⟩)
theorem Lrr{t:Str}{x:Lgp}{x2:Str}{r:Bool}(h:Lkn t x x2=some r):EC Tryz.prog 269 [S t,.ptr 5 0,.ptr 6 0] (oN x 0 1 2 3 [.box 144 [.ptr 4 0],.box 9 [S x2]]) fun g hp'=>g=B r∧hp'=(oN x 0 1 2 3 [.box 144 [.ptr 4 0],.box 9 [S x2]]):=by
 unfold Lkn at h
 exact Kvz (Fr.of 0 _) Tryz.func269 E (Fr.of_ok _) Z fun _=>Kjm<|gA 6 E<|Kjq hmix (by kernel_rfl)<|bK h fun y1 hy1 h2=>gA 6 E<|Kkw C (Lrn hy1) E E E E E E<|Kjl hΓ 14 E<|oSi h2▸Kli hΓ [] (.inr E) E E E E (.inl E)
theorem Lrs{s:List Str}{f:Lgp}{f2:Str}{r:Int}(h:Lko s f f2=some r):EC Tryz.prog 246 [.d (Sl eS s),.fn (.func 269) [] [.ptr 5 0,.ptr 6 0]] (oN f 0 1 2 3 [.box 144 [.ptr 4 0],.box 9 [S f2]]) fun g hp'=>g=I r∧hp'=(oN f 0 1 2 3 [.box 144 [.ptr 4 0],.box 9 [S f2]]):=by
 unfold Lko at h
 refine Kvz (Fr.of 0 _) Tryz.func246 E (Fr.of_ok _) Z fun _=>Kjm<|gA 13 E<|bK h fun q4 hq4 h5=>Kkd 0 E fun hb7=>Knt (R:=fun a6=>q4=.go a6) (fun a6=>[]) (fun a6=>(oN f 0 1 2 3 [.box 144 [.ptr 4 0],.box 9 [S f2]])) ?_ ?_
 ·refine gA 1 E<|Kkc s hq4 (fun i1 s2=>[(0,.d (Sl eS s)),(1,.fn (.func 269) [] [.ptr 5 0,.ptr 6 0]),(7,I (s.length:Int)),(8,I (i1:Int))]) (fun s2=>(oN f 0 1 2 3 [.box 144 [.ptr 4 0],.box 9 [S f2]])) ⟨⟨E,E,E,E,tV⟩,[],E,.inl E⟩ (fun i1 x3 s2 y11 hx8 hlt hy9 hout10=>?_) (fun s2 hgo=>?_)
  ·refine gA 6 E<|Kjo E (decide_eq_true (Int.ofNat_lt.2 hlt))<|gA 15 E<|eo_o E (Kke hΓ (enc:=eS) (Kjx hx8) E E E E E (fun _=>E))<|bK hy9 fun y12 hy12 h13=>gO 1 E<|Kku [0,1,2,3,4,5,6] (B y12) (oN f 0 1 2 3 [.box 144 [.ptr 4 0],.box 9 [S f2]]) C (Lrr hy12) E Z E E E E E E E E E E<|gO 2 E<|jC E h13 (fun h14=>?_) fun h17=>gA 7 E ?_
   ·refine gA 9 E<|bK h14 fun v15 hv15 h16=>?_
    cases h16
    obtain rfl:=hout10 _ rfl
    cases h5
    exact gA 4 E<|oSi hv15▸Kli hΓ [] (.inr E) E E E E (.inl E)
   cases h17
   exact⟨_,E,⟨⟨E,E,E,Kiv E (Kiu (nLl hlt hb7)),tV⟩,[],E,.inl E⟩⟩
  subst hgo
  exact gA 6 E<|Kjp E (decide_eq_false (Int.lt_irrefl _))<|gA 4 E<|⟨_,E,⟨tV,[],E,.inl E⟩⟩
 intro a6 ha
 subst ha
 replace h5:=Kno h5
 exact gA 7 E<|oSi h5▸Kli hΓ [] (.inr E) E E E E (.inl E)
theorem Lrt{s:List Str}{f:Lgp}{f2:Str}{r:Bool}(h:Lkp s f f2=some r):EC Tryz.prog 158 [.d (Sl eS s),.fn (.func 269) [] [.ptr 5 0,.ptr 6 0]] (oN f 0 1 2 3 [.box 144 [.ptr 4 0],.box 9 [S f2]]) fun g hp'=>g=B r∧hp'=(oN f 0 1 2 3 [.box 144 [.ptr 4 0],.box 9 [S f2]]):=by
 unfold Lkp at h
 exact Kvz (Fr.of 0 _) Tryz.func158 E (Fr.of_ok _) Z fun _=>Kjm<|bK h fun y1 hy1 h2=>gA 9 E<|Kku [0,1,2,3,4,5,6] (I y1) (oN f 0 1 2 3 [.box 144 [.ptr 4 0],.box 9 [S f2]]) C (Lrs hy1) E Z E E E E E E E E E E<|gO 5 E<|oSi h2▸Kli hΓ [] (.inr E) E E E E (.inl E)
theorem Lru{n:Lgp}{user:Str}{m:Lgn}{r:Bool}(h:Lkq n user m=some r):EC Tryz.prog 191 [.ptr 4 0,S user,.agg (fM m)] (oN n 0 1 2 3 []) fun g hp'=>g=B r∧hp'=(oN n 0 1 2 3 []):=by
 unfold Lkq at h
 refine Kvz (Fr.of 0 _) Tryz.func191 E (Fr.of_ok _) Z fun _=>Kjm<|gA 2 E<|Kxo E E E E Z<|Kxo E E E E Z<|Kxo E E E E Z<|gO 12 E<|jC E h (fun h1=>?_) fun h2=>bK h2 fun y3 hy3 h4=>gA 7 E<|Kku [0,1,2,3,4,5,6] (B y3) (oN n 0 1 2 3 [.box 144 [.ptr 4 0],.box 9 [S user],.box 77 (fM m)]) C (Lrt hy3) E Z E E E E E E E E E E<|gO 4 E<|oSi h4▸Kli hΓ [_,_,_] (.inr E) E E E E (.inr ⟨HB.mk E,E⟩)
 exact gA 7 E<|oSi h1▸Kli hΓ [_,_,_] (.inr E) E E E E (.inr ⟨HB.mk E,E⟩)
end Go.Proofs.YtjmlnnanfkiakaaGreatDoor
