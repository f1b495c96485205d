import Derived.Test.YtfnjahjbpaoepaaGreatDoorXZM
import Derived.Test.YtfnjahjbpaoepaaGreatDoorGt
import Derived.Test.YtfnjahjbpaoepaaGreatDoorStr
import Derived.Test.YtfnjahjbpaoepaaGreatDoorStr2
import Derived.Test.YtfnjahjbpaoepaaGreatDoorStr4
import Derived.Test.YtfnjahjbpaoepaaGreatDoorStr5
import Derived.Test.YtfnjahjbpaoepaaGreatDoorStr6
import Derived.Test.YtfnjahjbpaoepaaGreatDoorStr7
import Derived.Test.YtfnjahjbpaoepaaGreatDoorStr8
import Derived.Test.YtfnjahjbpaoepaaGreatDoorBld
import Derived.Test.YtfnjahjbpaoepaaGreatDoorXZW2
set_option linter.all false
set_option maxRecDepth 100000
namespace Go.Proofs.YtfnjahjbpaoepaaGreatDoor
open Go.Gk
set_option maxHeartbeats 8000000 in
theorem Lce{k:Nat}{l:List Int}{r:Bool}(h:Lcd k l=some r):Pure Tryz.prog 4 [.d (Sl (eN .i64) l)] (B r):=by
 unfold Lcd at h
 refine QP Tryz.func4 E E E<|gA 8 E<|Kau hΓ (gs:=[.d (Sl (eN .i64) l),I 0]) E E E E E E E<|Kmj E E E E Z<|bK h fun y1 hy1 h2=>gO 6 E<|Kdx [0] (.agg [S y1.1.Root,.d (Sl Lch y1.1.Records)]) [.box 25 (fQ y1.2)] C (Ldi hy1) E Z E E E E E E E E E E<|Kmi hΓ E E E Z<|Kmn hΓ E E E E E E E E Z<|Keg [.box 25 (fQ y1.2),.box 48 [S y1.1.Root,.d (Sl Lch y1.1.Records)]] E<|bK h2 fun y3 hy3 h4=>gO 5 E<|Kdy C (Leh hy3) E Z E E E E E<|bK h4 fun y5 hy5 h6=>gO 11 E<|Kdy C (Leu hy5) E Z E E E E E<|gO 9 E<|bK h6 fun q7 hq7 h8=>Kcx 9 [(3,.ptr 0 0),(5,S y3.1),(7,I y5),(39,B q7)] [.box 25 (fQ y1.2),.box 48 [S y1.1.Root,.d (Sl Lch y1.1.Records)]] ?_ ?_
 ·refine Klc E E (fun hb=>?_) (fun hb=>?_)
  ·have h9:=cT hq7 hb
   exact gO 10 E<|oSi h9▸⟨⟨E,E,E,E,tV⟩,[],E,.inl E⟩
  have h10:=cF hq7 hb
  refine gO 3 E<|bK h10 fun q11 hq11 h12=>Kcx 5 [(3,.ptr 0 0),(5,S y3.1),(7,I y5),(30,B false),(38,B q11)] [.box 25 (fQ y1.2),.box 48 [S y1.1.Root,.d (Sl Lch y1.1.Records)]] ?_ ?_
  ·refine Klc E E (fun hb=>?_) (fun hb=>?_)
   ·have h13:=cT hq11 hb
    exact bK h13 fun y14 hy14 h15=>gO 2 E<|Kla E<|Kdy C (Lfc hy14) E Z E E E E E<|gO 3 E<|oSi h15▸⟨⟨E,E,E,E,E,tV⟩,[],E,.inl E⟩
   have h16:=cF hq11 hb
   exact gO 6 E<|oSi h16▸⟨⟨E,E,E,E,E,tV⟩,[],E,.inl E⟩
  exact gO 2 E<|oSi h12▸⟨⟨E,E,E,E,tV⟩,[],E,.inl E⟩
 refine gO 1 E<|Kcx 7 [(3,.ptr 0 0),(47,B (q7||(((y5:Int) != 0)&&(!((y3.1:Str)==[])))))] [.box 25 (fQ y1.2),.box 48 [S y1.1.Root,.d (Sl Lch y1.1.Records)]] ?_ ?_
 ·refine Klc E E (fun hb=>?_) (fun hb=>?_)
  ·exact gO 8 E<|⟨⟨E,Kby E (or_t hb),tV⟩,[],E,.inl E⟩
  refine gO 3 E<|Kcx 3 [(3,.ptr 0 0),(40,B false),(46,B (((y5:Int) != 0)&&(!((y3.1:Str)==[]))))] [.box 25 (fQ y1.2),.box 48 [S y1.1.Root,.d (Sl Lch y1.1.Records)]] ?_ ?_
  ·refine Klc E E (fun hb=>?_) (fun hb=>?_)
   ·exact gO 4 E<|⟨⟨E,E,Kby E (Ket hb),tV⟩,[],E,.inl E⟩
   exact gO 4 E<|⟨⟨E,E,Kby E (Keu hb),tV⟩,[],E,.inl E⟩
  exact gO 2 E<|⟨⟨E,Kby E (or_f hb),tV⟩,[],E,.inl E⟩
 refine gO 2 E<|Kcr E (fun hb=>?_) (fun hb=>?_)
 ·have h17:=cT h8 hb
  exact gA 7 E<|oSi h17▸gP E E
 have h18:=cF h8 hb
 refine bK h18 fun y19 hy19 h20=>gA 5 E<|Kdx [0] (S y19.1) [.box 25 (fQ y19.2),.box 48 [S y1.1.Root,.d (Sl Lch y1.1.Records)]] C (Lff hy19) E Z E E E E E E E E E E<|bK h20 fun y21 hy21 h22=>gO 6 E<|Kdy C (Lfr hy21) E Z E E E E E<|gO 4 E<|Kmi hΓ E E E Z<|Kmn hΓ E E E E E E E E Z<|Keg [.box 25 (fQ y19.2),.box 48 [S y1.1.Root,.d (Sl Lch y1.1.Records)],.box 48 [S y21.1.Root,.d (Sl Lch y21.1.Records)]] E<|bK h22 fun y23 hy23 h24=>gO 7 E<|Kdy C (Lgd hy23) E Z E E E E E<|gO 4 E<|Kmi hΓ E E E Z<|Kmn hΓ E E E E E E E E Z<|Keg [.box 25 (fQ y19.2),.box 48 [S y1.1.Root,.d (Sl Lch y1.1.Records)],.box 48 [S y21.1.Root,.d (Sl Lch y21.1.Records)],.box 48 [S y23.1.Root,.d (Sl Lch y23.1.Records)]] E<|gO 10 E<|Kcx 4 [(9,.ptr 2 0),(12,.ptr 3 0),(69,B (((y21.2.2:Int)==y23.2.2)&&((y21.2.1:Int)==y23.2.1)))] [.box 25 (fQ y19.2),.box 48 [S y1.1.Root,.d (Sl Lch y1.1.Records)],.box 48 [S y21.1.Root,.d (Sl Lch y21.1.Records)],.box 48 [S y23.1.Root,.d (Sl Lch y23.1.Records)]] ?_ ?_
 ·refine Klc E E (fun hb=>?_) (fun hb=>?_)
  ·exact gO 5 E<|⟨⟨E,E,Kby E (Ket hb),tV⟩,[],E,.inl E⟩
  exact gO 5 E<|⟨⟨E,E,Kby E (Keu hb),tV⟩,[],E,.inl E⟩
 refine gO 1 E<|bK h24 fun q25 hq25 h26=>Kcx 4 [(74,B q25)] [.box 25 (fQ y19.2),.box 48 [S y1.1.Root,.d (Sl Lch y1.1.Records)],.box 48 [S y21.1.Root,.d (Sl Lch y21.1.Records)],.box 48 [S y23.1.Root,.d (Sl Lch y23.1.Records)]] ?_ ?_
 ·refine Klc E E (fun hb=>?_) (fun hb=>?_)
  ·have h27:=cT hq25 hb
   exact bK h27 fun y28 hy28 h29=>gO 2 E<|Kla E<|Kdy C (Lgf hy28) E Z E E E E E<|gO 2 E<|oSi h29▸⟨⟨E,tV⟩,[],E,.inl E⟩
  have h30:=cF hq25 hb
  exact gO 5 E<|oSi h30▸⟨⟨E,tV⟩,[],E,.inl E⟩
 refine gO 1 E<|bK h26 fun q31 hq31 h32=>Kcx 2 [(77,B q31)] [.box 25 (fQ y19.2),.box 48 [S y1.1.Root,.d (Sl Lch y1.1.Records)],.box 48 [S y21.1.Root,.d (Sl Lch y21.1.Records)],.box 48 [S y23.1.Root,.d (Sl Lch y23.1.Records)]] ?_ ?_
 ·refine Klc E E (fun hb=>?_) (fun hb=>?_)
  ·have h33:=cT hq31 hb
   exact bK h33 fun y34 hy34 h35=>Kla E<|Kdy C (Lgh hy34) E Z E E E E E<|gO 2 E<|oSi h35▸⟨⟨E,tV⟩,[],E,.inl E⟩
  have h36:=cF hq31 hb
  exact gO 3 E<|oSi h36▸⟨⟨E,tV⟩,[],E,.inl E⟩
 exact gO 4 E<|oSi h32▸gP E E
end Go.Proofs.YtfnjahjbpaoepaaGreatDoor
