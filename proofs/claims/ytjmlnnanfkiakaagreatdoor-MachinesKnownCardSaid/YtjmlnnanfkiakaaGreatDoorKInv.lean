import Derived.Test.YtjmlnnanfkiakaaGreatDoorKSort
set_option linter.all false
set_option maxRecDepth 100000
namespace Go.Gk
theorem Ksx{V:Type}{m:List (Str×V)}{T:List Str}{k:Str}{v:V}(h:∀ e∈m,e.1∈T)(hk:k∈T):∀ e∈mSet m k v,e.1∈T:=by
 intro e he
 unfold mSet at he
 split at he
 ·rcases List.mem_or_eq_of_mem_set he with h1 | rfl
  ·exact h e h1
  exact hk
 rcases List.mem_append.1 ((Kkf k v m).mem_iff.1 he) with h1 | h1
 ·exact h e h1
 rw[List.mem_singleton.1 h1];exact hk
theorem Ksy{V:Type}{m:List (Str×V)}{T:List Str}{k:Str}(h:∀ e∈m,e.1∈T):∀ e∈mDel m k,e.1∈T:=by
 intro e he
 unfold mDel at he
 split at he
 ·exact h e (List.mem_of_mem_eraseIdx he)
 exact h e he
structure KInv(A:Ab):Prop where
 th:∀ e∈A.th,e.1∈ndT
 ps:∀ e∈A.ps,e.1∈jnT
 pk:∀ k p,mGet A.ps k=some p→p.Join.Key=k
theorem Ksz{m:List (Str×Lcf)}{k0:Str}{v:Lcf}(h:∀ k p,mGet m k=some p→p.Join.Key=k)(hv:v.Join.Key=k0):∀ k p,mGet (mSet m k0 v) k=some p→p.Join.Key=k:=fun k p hp=>by
 rw[Kwv] at hp
 split at hp
 ·rename_i hq
  cases hp
  rw[hv];exact(beq_iff_eq.1 hq).symm
 exact h k p hp
theorem Kta{c:Bool}{x y:Int×Ab}(h1:KInv x.2)(h2:KInv y.2):KInv (bif c then x else y).2:=by cases c<;>assumption
section
variable{A:Ab}{s:Lby}
theorem Ktb(hK:KInv A){z:Int}{m:Lcb}{key:Bool}(hm:m.Node∈ndT):KInv (setA A z m key):=⟨Ksx hK.th hm,hK.ps,hK.pk⟩
theorem Ktc(hI:AInv A)(hK:KInv A)(hs:StepOk s):KInv (stepA A s).2:=by
 unfold stepA
 refine Kta ?_ (Kta hK (Kta ?_ (Kta ?_ ?_)))
 ·unfold joinA
  have hB:∀ op:Option Lcf,(∀ p,op=some p→mGet A.ps s.Join=some p)→KInv (joinB A s op).2:=fun op hop=>by
   unfold joinB
   refine Kta hK (Kta hK (Kta hK ?_))
   unfold joinC
   cases op with
   | none=>exact⟨Ksx (k:=s.Node) hK.th hs.nd,hK.ps,hK.pk⟩
   | some p=>exact⟨Ksx (k:=s.Node) hK.th hs.nd,Ksx hK.ps hs.jn,Ksz hK.pk (show p.Join.Key=s.Join from hK.pk _ p (hop p rfl))⟩
  refine Kta hK (Kta hK ?_)
  split
  ·exact hB none fun p e=>by cases e
  rename_i p hp
  exact Kta hK (hB _ fun p' e=>by cases e;exact hp)
 ·unfold keyA
  split
  ·exact hK
  exact Kta hK (Kta hK ⟨hK.th,Ksx hK.ps hs.jn,Ksz hK.pk rfl⟩)
 ·unfold revA
  split
  ·exact hK
  rename_i p hp
  exact Kta hK (Kta hK ⟨hK.th,Ksx hK.ps hs.jn,Ksz hK.pk (show p.Join.Key=s.Join from hK.pk _ p hp)⟩)
 split
 ·exact hK
 rename_i m hm
 have hn:m.Node∈ndT:=by rw[(hI.th _ _ hm).1];exact hs.nd
 refine Kta hK ?_
 unfold turnA
 refine Kta (Kta hK (Ktb hK hn)) (Kta (Kta hK ⟨Ksx (k:=m.Node) hK.th hn,hK.ps,hK.pk⟩) (Kta (Kta hK (Ktb hK hn)) (Kta (Kta hK (Kta hK (Ktb hK hn))) (Kta (Kta hK (Ktb hK hn)) ⟨Ksy hK.th,hK.ps,hK.pk⟩))))
theorem Ktd:∀ {l:List Lby} {A:Ab},AInv A→KInv A→AllV l→KInv (runA A l)
 | [],_,_,hK,_=>hK
 | x :: l,A,hI,hK,h=>Ktd (A:=(stepA A x).2) (Kay hI (h x List.mem_cons_self)) (Ktc hI hK (h x List.mem_cons_self).ok) fun s hs=>h s (List.mem_cons_of_mem _ hs)
theorem A0_k(d:Lbx):KInv (A0 d):=⟨fun e h=>(by cases h),fun e h=>(by cases h),fun k p h=>(by cases h)⟩
theorem Kte:∀ x∈ndT,x.length≤4294967296:=by decide
theorem Ktf:∀ x∈jnT,x.length≤4294967296:=by decide
structure Fit(A:Ab):Prop where
 inv:AInv A
 k:KInv A
theorem Ktg{d:Lbx}{l:List Lby}(hl:AllV l):Fit (runA (A0 d) l):=⟨Kca (A0_inv d) hl,Ktd (A0_inv d) (A0_k d) hl⟩
theorem Fit.thn(h:Fit A):A.th.length≤5:=h.inv.sth.len h.k.th
theorem Fit.psn(h:Fit A):A.ps.length≤3:=h.inv.sps.len h.k.ps
theorem Kth{V:Type}{m:List (Str×V)}{T:List Str}(h:∀ e∈m,e.1∈T)(hn:m.length≤100)(hT:∀ x∈T,x.length≤4294967296):((decide (m.length≤4294967296))&&m.all (fun e=>decide (e.1.length≤4294967296)))=true:=by
 rw[Bool.and_eq_true]
 exact⟨decide_eq_true (by omega),List.all_eq_true.2 fun e he=>decide_eq_true (hT _ (h e he))⟩
theorem Fit.node(h:Fit A):∀ e∈A.th,e.2.Node=e.1:=fun e he=>(h.inv.th e.1 e.2 (h.inv.sth.get he)).1
end
end Go.Gk
