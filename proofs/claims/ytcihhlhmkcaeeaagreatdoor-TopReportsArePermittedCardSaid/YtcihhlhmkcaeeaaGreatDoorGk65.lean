import Derived.Test.YtcihhlhmkcaeeaaGreatDoorGk56
set_option linter.all false
namespace Go.Gk
open Go.Sort
structure CmpT{α:Type}(cf:α→α→Option Int):Prop where
 tot:∀ x y,∃ r,cf x y=some r
 swo:SWO (ltO cf)
structure SrtP{α:Type}(cf:α→α→Option Int)(l r:List α):Prop where
 perm:r.Perm l
 srt:r.Pairwise fun x y=>ltO cf y x=false
open Classical in
noncomputable def sortD {α γ:Type} (cf:α→α→Option Int) (l:List α) (f:List α→Option γ):Option γ:=
 if h:(CmpT cf∧l.length<4611686018427387904)∧∃ v,∀ r,SrtP cf l r→f r=some v then some (Classical.choose h.2) else none
theorem SrtP.length{α:Type}{cf:α→α→Option Int}{l r:List α}(h:SrtP cf l r):r.length=l.length:=h.perm.length_eq
theorem Knk{α:Type}{cf:α→α→Option Int}(H:CmpT cf)(l:List α):SrtP cf l (l.mergeSort fun x y=>!ltO cf y x) where
 perm:=List.mergeSort_perm _ _
 srt:=by
  refine(List.pairwise_mergeSort (le:=fun x y=>!ltO cf y x) (fun a b c h1 h2=>?_) (fun a b=>?_) l).imp fun h=>by simpa using h
  ·have h1:ltO cf b a=false:=by simpa using h1
   have h2:ltO cf c b=false:=by simpa using h2
   simpa using H.swo.ntrans c b a h2 h1
  cases h:ltO cf b a with
  | false=>rfl
  | true=>
   cases h':ltO cf a b with
   | false=>rfl
   | true=>have:=H.swo.trans a b a h' h;rw[H.swo.irrefl] at this;cases this
theorem Knl{α γ:Type}{cf:α→α→Option Int}{l:List α}{f:List α→Option γ}{v:γ}(h:sortD cf l f=some v):(CmpT cf∧l.length<4611686018427387904)∧∀ r,SrtP cf l r→f r=some v:=by
 unfold sortD at h
 split at h
 ·rename_i hh
  cases h
  exact⟨hh.1,Classical.choose_spec hh.2⟩
 cases h
theorem Knm{α γ:Type}{cf:α→α→Option Int}{l:List α}{f:List α→Option γ}{v:γ}(H:CmpT cf)(hl:l.length<4611686018427387904)(h:∀ r,SrtP cf l r→f r=some v):sortD cf l f=some v:=by
 unfold sortD
 have hh:(CmpT cf∧l.length<4611686018427387904)∧∃ v,∀ r,SrtP cf l r→f r=some v:=⟨⟨H,hl⟩,v,h⟩
 rw[dif_pos hh]
 have h1:=Classical.choose_spec hh.2 _ (Knk H l)
 rw[h _ (Knk H l)] at h1
 exact h1.symm
end Go.Gk
