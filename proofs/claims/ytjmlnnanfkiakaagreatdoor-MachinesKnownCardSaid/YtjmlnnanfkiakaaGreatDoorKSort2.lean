import Derived.Test.YtjmlnnanfkiakaaGreatDoorKInv
set_option linter.all false
set_option maxRecDepth 100000
namespace Go.Gk
theorem Kuq(n:Nat)(h:n≤5):∃ y,Lgh (IntKind.u64.wrap ((n:Int)))=some y:=by
 rcases(show n=0∨n=1∨n=2∨n=3∨n=4∨n=5 by omega) with rfl | rfl | rfl | rfl | rfl | rfl<;>exact⟨_,rfl⟩
theorem Kur:Ord (fun x y:Lcb=>Op.bytesLess x.Node y.Node):=⟨fun a b=>Kuk _ _,fun a b c=>Kul _ _ _⟩
theorem Kus(x y:Lcb):∃ c,Lgi x y=some c∧decide (c<0)=Op.bytesLess x.Node y.Node:=⟨Lib.compareBytes x.Node y.Node,rfl,Kuj _ _⟩
theorem Kut(x:List Lcb)(hl:x.length≤5):∃ m,Lgj 400 x 0 (x.length:Int)=some m∧m.Pairwise (fun x y=>Op.bytesLess y.Node x.Node=false)∧m.length=x.length∧m.Perm x:=by
 cases x with
 | nil=>exact⟨[],rfl,List.Pairwise.nil,rfl,.refl _⟩
 | cons q C=>
  obtain⟨m,m1,m2,m3,m4⟩:=Kui (cmp:=Lgi) Kur Kus (fun _=>rfl) (q :: C).length (by omega) 400 (by decide) (fun _=>rfl) 400 [q] C (List.pairwise_singleton _ _) rfl (by simp at hl;omega)
  refine⟨m,?_,m2,m3,by simpa using m4⟩
  unfold Lgj
  have m1':=m1
  simp only[List.singleton_append,List.length_singleton] at m1'
  rw[show wi (0+1)=((1:Nat):Int) from rfl,m1']
  rfl
theorem Kuu(x:List Lcb)(h:x.length≤5):∃ m,Lgl 400 x=some m∧m.Pairwise (fun x y=>Op.bytesLess y.Node x.Node=false)∧m.length=x.length∧m.Perm x:=by
 obtain⟨r,h1,h2,h3,h4⟩:=Kut x h
 refine⟨r,?_,h2,h3,h4⟩
 unfold Lgl
 obtain⟨y,hy⟩:=Kuq x.length h
 rw[hy,bi_some]
 unfold Lgk
 have hw:wi ((x.length:Int) - 0)=x.length:=by rw[Kxl (by omega) (by omega)];omega
 refine Kys (r:=r) (Kys (r:=r) (Lbg ?_) rfl) rfl
 rw[hw,decide_eq_true (show(x.length:Int)≤12 by omega),h1]
 rfl
theorem Kuv(n:Nat)(h:n≤5):∃ y,Lgh (IntKind.u64.wrap ((n:Int)))=some y:=by
 rcases(show n=0∨n=1∨n=2∨n=3∨n=4∨n=5 by omega) with rfl | rfl | rfl | rfl | rfl | rfl<;>exact⟨_,rfl⟩
theorem Kuw:Ord (fun x y:Lce=>Op.bytesLess x.Key y.Key):=⟨fun a b=>Kuk _ _,fun a b c=>Kul _ _ _⟩
theorem Kux(x y:Lce):∃ c,Lgq x y=some c∧decide (c<0)=Op.bytesLess x.Key y.Key:=⟨Lib.compareBytes x.Key y.Key,rfl,Kuj _ _⟩
theorem Kuy(x:List Lce)(hl:x.length≤5):∃ m,Lgr 400 x 0 (x.length:Int)=some m∧m.Pairwise (fun x y=>Op.bytesLess y.Key x.Key=false)∧m.length=x.length∧m.Perm x:=by
 cases x with
 | nil=>exact⟨[],rfl,List.Pairwise.nil,rfl,.refl _⟩
 | cons q C=>
  obtain⟨m,m1,m2,m3,m4⟩:=Kui (cmp:=Lgq) Kuw Kux (fun _=>rfl) (q :: C).length (by omega) 400 (by decide) (fun _=>rfl) 400 [q] C (List.pairwise_singleton _ _) rfl (by simp at hl;omega)
  refine⟨m,?_,m2,m3,by simpa using m4⟩
  unfold Lgr
  have m1':=m1
  simp only[List.singleton_append,List.length_singleton] at m1'
  rw[show wi (0+1)=((1:Nat):Int) from rfl,m1']
  rfl
theorem Kuz(x:List Lce)(h:x.length≤5):∃ m,Lgt 400 x=some m∧m.Pairwise (fun x y=>Op.bytesLess y.Key x.Key=false)∧m.length=x.length∧m.Perm x:=by
 obtain⟨r,h1,h2,h3,h4⟩:=Kuy x h
 refine⟨r,?_,h2,h3,h4⟩
 unfold Lgt
 obtain⟨y,hy⟩:=Kuv x.length h
 rw[hy,bi_some]
 unfold Lgs
 have hw:wi ((x.length:Int) - 0)=x.length:=by rw[Kxl (by omega) (by omega)];omega
 refine Kys (r:=r) (Kys (r:=r) (Lbg ?_) rfl) rfl
 rw[hw,decide_eq_true (show(x.length:Int)≤12 by omega),h1]
 rfl
end Go.Gk
