/- Contracts of functions, and plain facts, for the law that the last text of this claim proves. -/
import Derived.Test.YtnadlhpkpnfmbaaGreatDoorD6
import Derived.Test.YtnadlhpkpnfmbaaGreatDoorD5
import Derived.Test.YtnadlhpkpnfmbaaGreatDoorD2
import Derived.Test.YtnadlhpkpnfmbaaGreatDoorD4
import Derived.Test.YtnadlhpkpnfmbaaGreatDoorD1
import Derived.Test.YtnadlhpkpnfmbaaGreatDoorD3
set_option linter.unusedSimpArgs false
set_option linter.unusedVariables false
namespace Go.Proofs.YtnadlhpkpnfmbaaGreatDoor
open Go.Vc Go.RowKit Go.Sei
section
variable {w:Wd} {ls:List LineD} {p:OA} {cap:Nat}
theorem znM (hg:GlobK w) (hM:LinsM (fun _=>True) w p ls) (hlen:ls.length<=140737488351232) :
  CB 35 #[.agg #[.slice p ls.length cap]] w (.tuple #[zu (((jN ls).map (·.1)).getD []),i64 (if (jN ls).isSome then 0 else 2)]):=by
 refine qa 16 [.agg #[.slice p ls.length cap]] (.c .p .p) Tryz.func35 ?_;refine⟨Unit,fun _=>⟨[(1,At0 w.heap.size)],[]⟩,fun _ X=>X.heap[w.heap.size]?=some (.cells #[.slice p ls.length cap] 47 (0,0))/\Bw w X,⟨(),(cvE rfl rfl),zz w _,zba _ _⟩,?_⟩;rintro _ X ⟨f1,b1⟩;have hX:=hM.below b1;refine⟨_,rfl,za f1,hlt f1,cmo (ztA (cap:=cap) (hg.below b1) hX hlen) ?_⟩;rintro e Y ⟨bY,hno,hyes⟩;have b2:=zst b1 bY
 cases he:jN ls with
 | none =>
  obtain rfl:=hno he;exact brT ⟨rfl,b2⟩
 | some x =>
  obtain⟨l,rfl,_,_⟩:=hyes x he;exact brF ⟨rfl,b2⟩
theorem zh1 (hg:GlobK w) (hM:LinsM (fun _=>True) w p ls) (hlen:ls.length<=140737488351232) :
  CB 28 #[.agg #[.slice p ls.length cap]] w (.bool (jN ls).isSome):=by
 refine qa 13 [.agg #[.slice p ls.length cap]] (.c .p .p) Tryz.func28 ?_;refine⟨Unit,fun _=>⟨[(1,At0 w.heap.size)],[]⟩,fun _ X=>X.heap[w.heap.size]?=some (.cells #[.slice p ls.length cap] 47 (0,0))/\Bw w X,⟨(),(cvE rfl rfl),zz w _,zba _ _⟩,?_⟩;rintro _ X ⟨f1,b1⟩;have hX:=hM.below b1;refine⟨_,rfl,za f1,hlt f1,cmo (ztA (cap:=cap) (hg.below b1) hX hlen) ?_⟩;rintro e Y ⟨bY,hno,hyes⟩;have b2:=zst b1 bY
 cases he:jN ls with
 | none =>
  obtain rfl:=hno he;exact⟨rfl,b2⟩
 | some x =>
  obtain⟨l,rfl,_,_⟩:=hyes x he;exact⟨rfl,b2⟩
theorem zgN (hg:GlobK w) (s:Bs) (hs:s.length<=140737488351232):Calls PG 45 #[zu s] w fun e w'=>∃ p cap,e = .returned (.agg #[.slice p ((qc s).1.getD []).length cap])/\LinsM (fun b=>w.heap.size<=b) w' p ((qc s).1.getD [])/\((qc s).1.getD []).length<=40/\Bw w w':=by
 refine qa 13 [zu s] (.c .p (.c .p .p)) Tryz.func45 ?_;refine⟨Unit,fun _=>⟨[(0,zu s),(2,At0 w.heap.size)],[]⟩,fun _ X=>X.heap[w.heap.size]?=some (.cells #[.slice none 0 0] 47 (0,0))/\Bw w X,⟨(),(cvE rfl rfl),zz w _,zba _ _⟩,?_⟩;rintro _ X ⟨f1,b1⟩;refine⟨Nat×OA×Nat,fun y=>⟨[(2,At0 w.heap.size),(3,At0 y.1)],[]⟩,fun y X=>X.heap[w.heap.size]?=some (.cells #[.slice none 0 0] 47 (0,0))/\X.heap[y.1]?=some (.cells #[.slice y.2.1 ((qc s).1.getD []).length y.2.2] 47 (0,0))/\LinsM (fun b=>w.heap.size<b) X y.2.1 ((qc s).1.getD [])/\((qc s).1.getD []).length<=40/\Bw w X,?_,?_⟩
 ·refine cmo (zjO (hg.below b1) s hs) ?_;rintro e Y ⟨⟨p,cap,rfl,h40,hM⟩,bY⟩;have fY:=zb bY f1;refine zn (X:=Y) (v := .agg #[.slice p ((qc s).1.getD []).length cap]) k47 rfl rfl rfl fun Z hbZ fZ sZ=>?_;have h0:=hlt f1;have b2:=zst b1 bY;exact⟨(Y.heap.size,p,cap),(cvE rfl rfl),zb hbZ fY,fZ,(hM.below hbZ).weak fun b hb=>by omega,h40,(zst b2 hbZ)⟩
 clear f1 b1 X;rintro⟨tb,p,cap⟩ X ⟨f1,ft,hM,h40,b1⟩;dsimp only at ft hM ⊢;exact⟨_,rfl,za ft,hlt ft,zr (v := .agg #[.slice p ((qc s).1.getD []).length cap]) k47 f1 rfl rfl rfl ⟨[.slice p ((qc s).1.getD []).length cap],rfl,za (zm f1),p,cap,rfl,(hM.by fun b cs ty fr hb hc=>zo (by omega)).weak fun b hb=>by omega,h40,zj b1 (Ge _) _⟩⟩
theorem zjz (hg:GlobK w) (s:Bs) (hs:s.length<=140737488351232) (er:Int) (at_:Nat):CB 47 #[zu s,i64 er,i64 (at_:Nat)] w (.bool (decide ((qc s).2.2=er)&&(decide ((qc s).2.1=at_)&&decide ((qc s).1.getD []=[])))):=by
 refine qa 30 [zu s,i64 er,i64 (at_:Nat)] (.s .p (.c .p .p)) Tryz.func47 ?_;refine⟨Nat×OA×Nat,fun y=>⟨[(1,i64 er),(2,i64 (at_:Nat)),(7,At0 y.1),(8,i64 ((qc s).2.1:Nat)),(9,i64 (qc s).2.2)],[]⟩,fun y X=>X.heap[y.1]?=some (.cells #[.slice y.2.1 ((qc s).1.getD []).length y.2.2] 47 (0,0))/\Bw w X,?_,?_⟩
 ·refine cmo (zjO hg s hs) ?_;rintro e Y ⟨⟨p,cap,rfl,h40,hM⟩,bY⟩;exact zn (X:=Y) (v := .agg #[.slice p ((qc s).1.getD []).length cap]) k47 rfl rfl rfl fun Z hbZ fZ sZ=>⟨(Y.heap.size,p,cap),(cvE rfl rfl),fZ,(zst bY hbZ)⟩
 rintro⟨tb,p,cap⟩ X ⟨ft,b1⟩;dsimp only at ft ⊢;refine biE (fun h1=>?_) fun h1=>?_
 ·have h1:decide ((qc s).2.2=er)=true:=h1;rw [h1,UA];refine biE (fun h2=>?_) fun h2=>?_
  ·have h2:decide ((qc s).2.1=at_)=true:=zX.symm.trans h2;rw [h2,UA];refine⟨_,zc (za ft) (i:=0) rfl,rb ?_,b1⟩;show decide ((((qc s).1.getD []).length:Int)=0)=_;rw [QH];constructor
   ·intro h;exact Jf (by omega)
   ·intro h;rw [h];rfl
  ·have h2:decide ((qc s).2.1=at_)=false:=zX.symm.trans h2;exact⟨rb (by rw [h2];rfl),b1⟩
 ·have h1:decide ((qc s).2.2=er)=false:=h1;exact brF ⟨rb (by rw [h1];rfl),b1⟩
end
mutual
def sameT:Trm->Trm->Bool
 | .mk k n l,.mk k2 n2 l2=>decide (k=k2)&&(decide (n=n2)&&(decide (l.length=l2.length)&&sameK l l2))
def sameK:List Trm->List Trm->Bool
 | [],_=>true
 | _::_,[]=>false
 | a::r,b::r2=>sameT a b&&sameK r r2
end
abbrev zbI:Nat->Prop:=fun _=>True
theorem KidsT.kid {Q:Nat->Prop} {w:Wd} {q:OA} {l:List Trm} (h:KidsT Q w q l) {i:Nat} (hi:i<l.length) :
  ∃ b o q2 c2,q=some ⟨b,o,none⟩/\zw w ⟨b,o+i*3,none⟩ (zf l[i] q2 c2)/\b<w.heap.size/\l[i].name.length<=140737488351232/\KidsT Q w q2 l[i].kids:=by
 obtain⟨_,b,o,hq,hcl⟩:=h.inv;obtain⟨q2,c2,hn,_,hc,hk⟩:=hcl i hi;refine⟨b,o,q2,c2,by rcases hq with h | h;omega;exact h,hc,?_,hn,hk⟩;have h0:=hc 0 _ rfl;unfold World.cell? at h0
 split at h0
 ·rename_i hb;exact hlt hb
 ·cases h0
section
variable {w:Wd}
theorem zho (s:Bs):CB 13 #[zu s] w (.agg (zf (.mk 1 s []) none 0).toArray):=by
 refine qa 5 [zu s] (.c .p .p) Tryz.func13 ?_;refine⟨Unit,fun _=>⟨[(0,zu s),(2,At0 w.heap.size)],[]⟩,fun _ X=>X.heap[w.heap.size]?=some (.cells (zf zT none 0).toArray 24 (0,0))/\Bw w X,⟨(),(cvE rfl rfl),zz w _,zba _ _⟩,?_⟩;rintro _ X ⟨f1,b1⟩;exact⟨zf (.mk 1 s []) none 0,rfl,zr (v := .agg (zf (.mk 1 s []) none 0).toArray) k24 f1 rfl rfl rfl ⟨zf (.mk 1 s []) none 0,rfl,za (zm f1),rfl,zj b1 (Ge _) _⟩⟩
theorem zmP {k:UInt8} {a b:Trm} {q p:OA} {c d:Nat} (hq:KidsT zbI w q a.kids) (hp:KidsT zbI w p b.kids) (ha:a.name.length<=140737488351232) (hb:b.name.length<=140737488351232) :
  Calls PG 19 #[u8 k,.agg (zf a q c).toArray,.agg (zf b p d).toArray] w fun e w'=>∃ r,e = .returned (.agg (zf (.mk k [] [a,b]) r 2).toArray)/\KidsT zbI w' r [a,b]/\Bw w w':=by
 refine qa 12 [u8 k,.agg (zf a q c).toArray,.agg (zf b p d).toArray] (.c .p .p) Tryz.func19 ?_;refine⟨Unit,fun _=>⟨[(0,u8 k),(4,At0 w.heap.size),(5,At0 (w.heap.size+1)),(6,At0 (w.heap.size+2))],[]⟩,fun _ X=>X.heap[w.heap.size]?=some (.cells (zf a q c).toArray 24 (0,0))/\X.heap[w.heap.size+1]?=some (.cells (zf b p d).toArray 24 (0,0))/\X.heap[w.heap.size+2]?=some (.cells (zf zT none 0).toArray 24 (0,0))/\Bw w X/\X.heap.size=w.heap.size+3,?_,?_⟩
 ·obtain⟨W1,e1⟩:=nm (w.alloc (.cells (zf a q c).toArray 24));have n1:W1.heap.size=w.heap.size+1:=by rw [e1];exact wz _ _
  have f1:W1.heap[w.heap.size]?=some (.cells (zf a q c).toArray 24 (0,0)):=by rw [e1];exact zz w _
  have b1:Bw w W1:=by rw [e1];exact zba _ _
  obtain⟨W2,e2⟩:=nm (W1.alloc (.cells (zf b p d).toArray 24));have n2:W2.heap.size=w.heap.size+2:=by rw [e2,wz,n1]
  have f2:W2.heap[w.heap.size+1]?=some (.cells (zf b p d).toArray 24 (0,0)):=by rw [e2,<- n1];exact zz W1 _
  have b2:Bw W1 W2:=by rw [e2];exact zba _ _
  obtain⟨W3,e3⟩:=nm (W2.alloc (.cells (zf zT none 0).toArray 24));have n3:W3.heap.size=w.heap.size+3:=by rw [e3,wz,n2]
  have f3:W3.heap[w.heap.size+2]?=some (.cells (zf zT none 0).toArray 24 (0,0)):=by rw [e3,<- n2];exact zz W2 _
  have b3:Bw W2 W3:=by rw [e3];exact zba _ _
  refine⟨(),⟨.cons rfl (.cons ?_ (.cons ?_ (.cons ?_ .nil))),rfl⟩,?_⟩
  ·rfl
  ·show some (At0 (w.alloc (.cells (zf a q c).toArray 24)).heap.size)=_;rw [wz]
  ·show some (At0 ((w.alloc (.cells (zf a q c).toArray 24)).alloc (.cells (zf b p d).toArray 24)).heap.size)=_;rw [wz,wz]
  ·show _/\_;have key:W3.heap[w.heap.size]?=some (.cells (zf a q c).toArray 24 (0,0))/\W3.heap[w.heap.size+1]?=some (.cells (zf b p d).toArray 24 (0,0))/\W3.heap[w.heap.size+2]?=some (.cells (zf zT none 0).toArray 24 (0,0))/\Bw w W3/\W3.heap.size=w.heap.size+3:=⟨zb b3 (zb b2 f1),zb b3 f2,f3,zst b1 (zst b2 b3),n3⟩;rw [e3,e2,e1] at key;exact key
 rintro _ X ⟨f1,f2,f3,b1,n1⟩;refine⟨_,rfl,za f1,hlt f1,_,rfl,za f2,hlt f2,⟨by decide,by decide,rfl⟩,zf a q c++zf b p d,rfl,zf (.mk k [] [a,b]) (some ⟨X.heap.size,0,none⟩) 2,rfl,?_⟩;have bN:=zba X (.cells (zf a q c++zf b p d).toArray 24);have fN:=zz X (.cells (zf a q c++zf b p d).toArray 24);have f3N:=zb bN f3;refine zr (v := .agg (zf (.mk k [] [a,b]) (some ⟨X.heap.size,0,none⟩) 2).toArray) k24 f3N rfl rfl rfl ?_;have b9:=zj (B:=w.heap.size) ((zst b1 bN)) (by omega:w.heap.size<=w.heap.size+2) (zf (.mk k [] [a,b]) (some ⟨X.heap.size,0,none⟩) 2).toArray;exact⟨zf (.mk k [] [a,b]) (some ⟨X.heap.size,0,none⟩) 2,rfl,za (zm f3N),some ⟨X.heap.size,0,none⟩,rfl,.two (q:=q) (cap:=c) (p:=p) (cp:=d) trivial (za ((zo (by omega)).trans fN)) ha (hq.kept b9) hb (hp.kept b9),b9⟩
structure TwoB (w:Wd) (a b:Trm) (q p:OA) (c d:Nat) (X:Wd):Prop where
 x:X.heap[w.heap.size]?=some (.cells (zf a q c).toArray 24 (0,0))
 y:X.heap[w.heap.size+1]?=some (.cells (zf b p d).toArray 24 (0,0))
 k:KidsT zbI X q a.kids
 l:KidsT zbI X p b.kids
 b:Bw w X
theorem TwoB.below {a b:Trm} {q p:OA} {c d:Nat} {X Y:Wd} (h:TwoB w a b q p c d X) (hb:Bw X Y):TwoB w a b q p c d Y :=
 ⟨zb hb h.x,zb hb h.y,h.k.kept hb,h.l.kept hb,h.b.trans (hb.mono h.b.size)⟩
def zvj (a b:Trm):Prop:=∀ (q p:OA) (c d:Nat) (w:Wd),KidsT zbI w q a.kids->KidsT zbI w p b.kids->CB 78 #[.agg (zf a q c).toArray,.agg (zf b p d).toArray] w (.bool (sameT a b))
theorem ztV {k k2:UInt8} {n n2:Bs} {l l2:List Trm} (ih:∀ x∈l,∀ y,zvj x y):zvj (.mk k n l) (.mk k2 n2 l2):=by
 intro q p c d w hq hp;refine qa 46 [.agg (zf (.mk k n l) q c).toArray,.agg (zf (.mk k2 n2 l2) p d).toArray] (.c .p (.c .p .p)) Tryz.func78 ?_;refine⟨Unit,fun _=>⟨[(2,At0 w.heap.size),(3,At0 (w.heap.size+1))],[]⟩,fun _ X=>TwoB w (.mk k n l) (.mk k2 n2 l2) q p c d X,?_,?_⟩
 ·obtain⟨W1,e1⟩:=nm (w.alloc (.cells (zf (.mk k n l) q c).toArray 24));have n1:W1.heap.size=w.heap.size+1:=by rw [e1];exact wz _ _
  have f1:W1.heap[w.heap.size]?=some (.cells (zf (.mk k n l) q c).toArray 24 (0,0)):=by rw [e1];exact zz w _
  have b1:Bw w W1:=by rw [e1];exact zba _ _
  obtain⟨W2,e2⟩:=nm (W1.alloc (.cells (zf (.mk k2 n2 l2) p d).toArray 24));have f2:W2.heap[w.heap.size+1]?=some (.cells (zf (.mk k2 n2 l2) p d).toArray 24 (0,0)):=by rw [e2,<- n1];exact zz W1 _
  have b2:Bw W1 W2:=by rw [e2];exact zba _ _
  refine⟨(),⟨.cons rfl (.cons ?_ .nil),rfl⟩,?_⟩
  ·show some (At0 (w.alloc (.cells (zf (.mk k n l) q c).toArray 24)).heap.size)=_;rw [wz]
  ·have b12:=zst b1 b2;have key:TwoB w (.mk k n l) (.mk k2 n2 l2) q p c d W2:=⟨zb b2 f1,f2,hq.kept b12,hp.kept b12,b12⟩;rw [e2,e1] at key;exact key
 rintro _ X hX;have hl1:l.length<=140737488351232:=hq.inv.1;have hl2:l2.length<=140737488351232:=hp.inv.1;rw [sameT];refine⟨Unit,fun _=>⟨[(2,At0 w.heap.size),(3,At0 (w.heap.size+1))],[]⟩,fun _ Y=>X=Y/\k=k2/\n=n2/\l.length=l2.length,?_,?_⟩
 ·refine⟨_,zc (za hX.x) (i:=0) rfl,_,zc (za hX.y) (i:=0) rfl,biE (fun h1=>?_) fun h1=>?_⟩
  ·have h1:(!decide ((k.toNat:Int)=(k2.toNat:Int)))=true:=h1;rw [jb] at h1;exact brT (brT ⟨rb (by rw [show decide (k=k2)=false by simpa using h1];rfl),hX.b⟩)
  have h1:(!decide ((k.toNat:Int)=(k2.toNat:Int)))=false:=h1;rw [jb] at h1;have h1:k=k2:=by simpa using h1
  rw [Uu h1,UA];refine⟨_,zc (za hX.x) (i:=1) rfl,_,zc (za hX.y) (i:=1) rfl,_,fun w=>zfm _ _ n n2 w,biE (fun h2=>?_) fun h2=>?_⟩
  ·have h2:(!decide (n=n2))=true:=h2;exact brT ⟨rb (by rw [show decide (n=n2)=false by simpa using h2];rfl),hX.b⟩
  have h2:(!decide (n=n2))=false:=h2;have h2:n=n2:=by simpa using h2
  rw [Uu h2,UA];refine⟨_,zc (za hX.x) (i:=2) rfl,_,zc (za hX.y) (i:=2) rfl,biE (fun h3=>?_) fun h3=>?_⟩
  ·have h3:(!decide ((l.length:Int)=(l2.length:Int)))=true:=h3;rw [zX] at h3;exact⟨rb (by rw [show decide (l.length=l2.length)=false by simpa using h3];rfl),hX.b⟩
  ·have h3:(!decide ((l.length:Int)=(l2.length:Int)))=false:=h3;rw [zX] at h3;exact⟨(),(cvE rfl rfl),rfl,h1,h2,by simpa using h3⟩
 rintro _ _ ⟨rfl,h1,h2,h3⟩;rw [Uu h1,Uu h2,Uu h3,UA,UA,UA];obtain⟨R,hR⟩:=nm (sameK l l2);rw [<- hR];refine⟨_,zc (za hX.x) (i:=2) rfl,Nat,fun i=>⟨[(2,At0 w.heap.size),(3,At0 (w.heap.size+1)),(28,.slice q l.length c),(29,i64 (l.length:Nat)),(30,.int .i64 (i:Nat))],[]⟩,fun i X=>TwoB w (.mk k n l) (.mk k2 n2 l2) q p c d X/\i<=l.length/\R=sameK (l.drop i) (l2.drop i),fun i=>l.length-i,0,(cvE rfl rfl),⟨hX,Gg _,hR⟩,?_⟩;clear hX hR X hq hp;rintro i X ⟨hX,hi,hR⟩;dsimp only at hi hR ⊢;refine biE (fun hc=>?_) fun hc=>?_
 ·have hc:(i:Int)<(l.length:Int):=dT hc;have hil:i<l.length:=by omega
  have hil2:i<l2.length:=by omega
  rw [Jo hil,Jo hil2,sameK] at hR;refine DrawE.ord [] [0,1,2,3,4,5,6,7,8,9,10,11] (by kernel_rfl) ?_;have hD:=hX.below (Gj X.heap.size X).drew;obtain⟨b1,o1,q1,c1,rfl,e1,s1,m1,k1⟩:=hD.k.kid (l:=l) hil;obtain⟨b2,o2,q2,c2,rfl,e2,s2,m2,k2'⟩:=hD.l.kid (l:=l2) hil2;refine⟨_,zc (za hD.x) (i:=2) rfl,i,rfl,hil,_,rfl,e1,s1,_,zc (za hD.y) (i:=2) rfl,i,rfl,hil2,_,rfl,e2,s2,cmo (ih l[i] (gM hil) l2[i] q1 q2 c1 c2 _ k1 k2') ?_⟩;rintro e Y ⟨rfl,bY⟩;refine⟨bY,?_⟩;have hY:=hD.below bY;refine biE (fun h=>?_) fun h=>?_
  ·have h:(!sameT l[i] l2[i])=true:=h;refine⟨rb ?_,hY.b⟩;rw [hR,show sameT l[i] l2[i]=false by simpa using h];rfl
  ·have h:(!sameT l[i] l2[i])=false:=h;rw [show sameT l[i] l2[i]=true by simpa using h,UA] at hR;exact nxI (by omega) ⟨i+1,(cvE rfl rfl),⟨hY,hil,hR⟩,zdc (by omega)⟩
 ·have hc:¬ (i:Int)<(l.length:Int):=dF hc;rw [JA (by omega),sameK] at hR;exact⟨rb hR.symm,hX.b⟩
theorem ztr:∀ a b,zvj a b
 | .mk k n l,.mk k2 n2 l2=>ztV fun x hx y=>ztr x y
end
def zfR:List LineD->List LineD->Bool
 | [],_=>true
 | _::_,[]=>false
 | a::r,b::r2=>(decide (a.kind=b.kind)&&(decide (a.name=b.name)&&sameT a.term b.term))&&zfR r r2
def zi6 (a b:List LineD):Bool:=decide (a.length=b.length)&&zfR a b
theorem LinsM.line {Q:Nat->Prop} {w:Wd} {p:OA} {ls:List LineD} (h:LinsM Q w p ls) {i:Nat} (hi:i<ls.length) :
  ∃ b o q c,p=some ⟨b,o,none⟩/\zw w ⟨b,o+i*5,none⟩ (zC ls[i].kind ls[i].name ls[i].term q c)/\b<w.heap.size/\ls[i].kind<=255/\ls[i].name.length<=140737488351232/\ls[i].term.name.length<=140737488351232/\KidsT Q w q ls[i].term.kids:=by
 obtain⟨rows,hrl,zcI,hrk,_⟩:=h;have hrn:rows.length=ls.length:=by rw [<- hrl,QQ]
 have hir:i<rows.length:=by omega
 have hxr:rows[i].1=ls[i]:=by
  have:(rows.map (·.1))[i]?=ls[i]?:=by rw [hrl]
  rw [KU,gE hir,gE hi] at this;exact Ug this
 obtain⟨bk,o,hp,hbk,hcl⟩:=zcI.at hir;obtain⟨k1,k2,k3,k4⟩:=hrk rows[i] (gM hir);have hcell:zw w ⟨bk,o+i*5,none⟩ (zC rows[i].1.kind rows[i].1.name rows[i].1.term rows[i].2.1 rows[i].2.2):=hcl i hir;rw [hxr] at hcell k1 k2 k3 k4;exact⟨bk,o,_,_,hp,hcell,hbk,k1,k2,k3,k4⟩
section
variable {w:Wd}
structure TwoM (w:Wd) (a b:List LineD) (q p:OA) (c d:Nat) (X:Wd):Prop where
 x:X.heap[w.heap.size]?=some (.cells #[.slice q a.length c] 47 (0,0))
 y:X.heap[w.heap.size+1]?=some (.cells #[.slice p b.length d] 47 (0,0))
 k:LinsM zbI X q a
 l:LinsM zbI X p b
 b:Bw w X
theorem TwoM.below {a b:List LineD} {q p:OA} {c d:Nat} {X Y:Wd} (h:TwoM w a b q p c d X) (hb:Bw X Y):TwoM w a b q p c d Y :=
 ⟨zb hb h.x,zb hb h.y,h.k.below hb,h.l.below hb,h.b.trans (hb.mono h.b.size)⟩
theorem znJ {a b:List LineD} {q p:OA} {c d:Nat} (ha:a.length<=140737488351232) (hb:b.length<=140737488351232) (hq:LinsM zbI w q a) (hp:LinsM zbI w p b) :
  CB 36 #[.agg #[.slice q a.length c],.agg #[.slice p b.length d]] w (.bool (zi6 a b)):=by
 refine qa 49 [.agg #[.slice q a.length c],.agg #[.slice p b.length d]] (.c .p (.c .p (.s (.s .p (.b (.l (.s .p (.s .p (.s (.b (.c .p (.c .p .p))) .p)))))) .p))) Tryz.func36 ?_;refine⟨Unit,fun _=>⟨[(2,At0 w.heap.size),(3,At0 (w.heap.size+1))],[]⟩,fun _ X=>TwoM w a b q p c d X,?_,?_⟩
 ·obtain⟨W1,e1⟩:=nm (w.alloc (.cells #[.slice q a.length c] 47));have n1:W1.heap.size=w.heap.size+1:=by rw [e1];exact wz _ _
  have f1:W1.heap[w.heap.size]?=some (.cells #[.slice q a.length c] 47 (0,0)):=by rw [e1];exact zz w _
  have b1:Bw w W1:=by rw [e1];exact zba _ _
  obtain⟨W2,e2⟩:=nm (W1.alloc (.cells #[.slice p b.length d] 47));have f2:W2.heap[w.heap.size+1]?=some (.cells #[.slice p b.length d] 47 (0,0)):=by rw [e2,<- n1];exact zz W1 _
  have b2:Bw W1 W2:=by rw [e2];exact zba _ _
  refine⟨(),⟨.cons rfl (.cons ?_ .nil),rfl⟩,?_⟩
  ·show some (At0 (w.alloc (.cells #[.slice q a.length c] 47)).heap.size)=_;rw [wz]
  ·have b12:=zst b1 b2;have key:TwoM w a b q p c d W2:=⟨zb b2 f1,f2,hq.below b12,hp.below b12,b12⟩;rw [e2,e1] at key;exact key
 rintro _ X hX;unfold zi6;refine⟨Unit,fun _=>⟨[(2,At0 w.heap.size),(3,At0 (w.heap.size+1))],[]⟩,fun _ Y=>X=Y/\a.length=b.length,?_,?_⟩
 ·refine⟨_,zc (za hX.x) (i:=0) rfl,_,zc (za hX.y) (i:=0) rfl,biE (fun h3=>?_) fun h3=>?_⟩
  ·have h3:(!decide ((a.length:Int)=(b.length:Int)))=true:=h3;rw [zX] at h3;exact⟨rb (by rw [show decide (a.length=b.length)=false by simpa using h3];rfl),hX.b⟩
  ·have h3:(!decide ((a.length:Int)=(b.length:Int)))=false:=h3;rw [zX] at h3;exact⟨(),(cvE rfl rfl),rfl,by simpa using h3⟩
 rintro _ _ ⟨rfl,hlen⟩;rw [Uu hlen,UA];obtain⟨R,hR⟩:=nm (zfR a b);rw [<- hR];refine⟨_,zc (za hX.x) (i:=0) rfl,Nat,fun i=>⟨[(2,At0 w.heap.size),(3,At0 (w.heap.size+1)),(16,.slice q a.length c),(17,i64 (a.length:Nat)),(18,.int .i64 (i:Nat))],[]⟩,fun i X=>TwoM w a b q p c d X/\i<=a.length/\R=zfR (a.drop i) (b.drop i),fun i=>a.length-i,0,(cvE rfl rfl),⟨hX,Gg _,hR⟩,?_⟩;clear hX hR X hq hp;rintro i X ⟨hX,hi,hR⟩;dsimp only at hi hR ⊢;refine biE (fun hc=>?_) fun hc=>?_
 ·have hc:(i:Int)<(a.length:Int):=dT hc;have hil:i<a.length:=by omega
  have hil2:i<b.length:=by omega
  rw [Jo hil,Jo hil2,zfR] at hR;obtain⟨u,hu⟩:=nm (a[i]);obtain⟨v,hv⟩:=nm (b[i]);rw [<- hu,<- hv] at hR;obtain⟨b1,o1,q1,c1,rfl,e1,s1,_,_,m1,k1⟩:=hX.k.line hil;rw [<- hu] at e1 m1 k1;refine⟨Nat,fun x=>⟨[(2,At0 w.heap.size),(3,At0 (w.heap.size+1)),(5,.int .i64 (i:Nat)),(6,At0 x),(16,.slice (some ⟨b1,o1,none⟩) a.length c),(17,i64 (a.length:Nat)),(18,.int .i64 (i:Nat))],[]⟩,fun x Y=>TwoM w a b (some ⟨b1,o1,none⟩) p c d Y/\Y.heap[x]?=some (.cells (zC u.kind u.name u.term q1 c1).toArray 49 (0,0))/\KidsT zbI Y q1 u.term.kids,?_,?_⟩
  ·exact⟨i,rfl,hil,_,rfl,e1,s1,zn (X:=X) (v := .agg (zC u.kind u.name u.term q1 c1).toArray) k49 rfl rfl rfl fun Y hbY fY sY=>⟨X.heap.size,(cvE rfl rfl),hX.below hbY,fY,k1.kept hbY⟩⟩
  clear hX e1 s1 k1 X;rintro x X ⟨hX,fx,k1⟩;obtain⟨b2,o2,q2,c2,rfl,e2,s2,_,_,m2,k2⟩:=hX.l.line hil2;rw [<- hv] at e2 m2 k2;refine⟨Nat,fun y=>⟨[(2,At0 w.heap.size),(3,At0 (w.heap.size+1)),(6,At0 x),(7,At0 y),(16,.slice (some ⟨b1,o1,none⟩) a.length c),(17,i64 (a.length:Nat)),(18,.int .i64 (i:Nat))],[]⟩,fun y Y=>TwoM w a b (some ⟨b1,o1,none⟩) (some ⟨b2,o2,none⟩) c d Y/\Y.heap[x]?=some (.cells (zC u.kind u.name u.term q1 c1).toArray 49 (0,0))/\KidsT zbI Y q1 u.term.kids/\Y.heap[y]?=some (.cells (zC v.kind v.name v.term q2 c2).toArray 49 (0,0))/\KidsT zbI Y q2 v.term.kids,?_,?_⟩
  ·exact⟨_,zc (za hX.y) (i:=0) rfl,i,rfl,hil2,_,rfl,e2,s2,zn (X:=X) (v := .agg (zC v.kind v.name v.term q2 c2).toArray) k49 rfl rfl rfl fun Y hbY fY sY=>⟨X.heap.size,(cvE rfl rfl),hX.below hbY,zb hbY fx,k1.kept hbY,fY,k2.kept hbY⟩⟩
  clear hX fx k1 e2 s2 k2 X;rintro y X ⟨hX,fx,k1,fy,k2⟩;refine⟨_,zc (za fx) (i:=0) rfl,_,zc (za fy) (i:=0) rfl,biE (fun h1=>?_) fun h1=>?_⟩
  ·have h1:(!decide ((u.kind:Int)=(v.kind:Int)))=true:=h1;rw [zX] at h1;exact brT (brT ⟨rb (by rw [hR,show decide (u.kind=v.kind)=false by simpa using h1];rfl),hX.b⟩)
  have h1:(!decide ((u.kind:Int)=(v.kind:Int)))=false:=h1;rw [zX] at h1;rw [show decide (u.kind=v.kind)=true by simpa using h1,UA] at hR;refine⟨_,zc (za fx) (i:=1) rfl,_,zc (za fy) (i:=1) rfl,_,fun w=>zfm _ _ u.name v.name w,biE (fun h2=>?_) fun h2=>?_⟩
  ·have h2:(!decide (u.name=v.name))=true:=h2;exact brT ⟨rb (by rw [hR,show decide (u.name=v.name)=false by simpa using h2];rfl),hX.b⟩
  have h2:(!decide (u.name=v.name))=false:=h2;rw [show decide (u.name=v.name)=true by simpa using h2,UA] at hR;have t1:zw X ⟨x,0+2,none⟩ (zf u.term q1 c1):=jD (o:=2) (n:=3) fx;have t2:zw X ⟨y,0+2,none⟩ (zf v.term q2 c2):=jD (o:=2) (n:=3) fy;refine⟨_,rfl,t1,hlt fx,_,rfl,t2,hlt fy,cmo (ztr u.term v.term q1 q2 c1 c2 X k1 k2) ?_⟩;rintro e Y ⟨rfl,bY⟩;have hY:=hX.below bY;refine biE (fun h=>?_) fun h=>?_
  ·have h:(!sameT u.term v.term)=true:=h;refine⟨rb ?_,hY.b⟩;rw [hR,show sameT u.term v.term=false by simpa using h];rfl
  ·have h:(!sameT u.term v.term)=false:=h;rw [show sameT u.term v.term=true by simpa using h,UA] at hR;exact nxI (by omega) ⟨i+1,(cvE rfl rfl),⟨hY,hil,hR⟩,zdc (by omega)⟩
 ·have hc:¬ (i:Int)<(a.length:Int):=dF hc;rw [JA (by omega),zfR] at hR;exact⟨rb hR.symm,hX.b⟩
end
theorem za2 {E:Env} {x:Operand} {v:Value} {f:Value->Prop} (h:opd E x=some v) (k:f v):zZ E x f:=by unfold zZ;rw [h];exact k
theorem zY {E:Env} {t u:Nat} {v:Value} (h:u≠t):Env.find (zdD (some u) v E) t=Env.find E t:=by
 show VEnv.find ((u,v)::E.vs) t=VEnv.find E.vs t;have:Nat.beq u t=false:=by cases hb:Nat.beq u t with | false=>rfl | true=>exact GA (JR hb) h
 simp only [VEnv.find,this]
theorem zbW {E:Env} {t:Nat} {v:Value}:Env.find (zdD (some t) v E) t=some v:=by
 show VEnv.find ((t,v)::E.vs) t=some v;simp only [VEnv.find,US]
def zt3:Code->Array Oper
 | .region _ ops _=>ops
 | _ => #[]
def zw8:Code->Code
 | .seq a _=>a
 | c=>c
def zrJ:Code->Code
 | .seq _ b=>b
 | c=>c
noncomputable def zdR:Array Oper:=zt3 (zw8 (zrJ (zrJ (zrJ (zrJ ((Tryz.f51.body).getD .skip))))))
def lkD (D:Nat->Bool):List (Nat×Bs×Value)->Bs->Option Value
 | [],_=>none
 | (i,k,v)::r,q=>if q=k then (if D i=true then some v else none) else lkD D r q
theorem zfv {D D':Nat->Bool}:∀ {l:List (Nat×Bs×Value)},(∀ p∈l,D' p.1=D p.1)->lkD D' l=lkD D l
 | [],_=>rfl
 | (i,k,v)::r,h=>by
  funext q;have h1:D' i=D i:=h (i,k,v) (Kz ..);simp only [lkD,h1,zfv (l:=r) fun p hp=>h p (JW _ hp)]
theorem zkI {D:Nat->Bool}:∀ {l:List (Nat×Bs×Value)},(∀ p∈l,D p.1=false)->lkD D l=fun _=>none
 | [],_=>rfl
 | (i,k,v)::r,h=>by
  funext q;have h1:D i=false:=h (i,k,v) (Kz ..);simp only [lkD,h1,zkI (l:=r) fun p hp=>h p (JW _ hp)]
  split <;> rfl
theorem zqa {D:Nat->Bool} {i:Nat} {k:Bs} {v:Value}:∀ {l:List (Nat×Bs×Value)},(i,k,v)∈l->(l.map (·.1)).Nodup->(l.map (·.2.1)).Nodup->lkD (fun j=>Nat.beq j i||D j) l=fun q=>if q=k then some v else lkD D l q
 | [],h,_,_=>by cases h
 | (a,b,c)::r,h,h1,h2=>by
  rw [UF,QX] at h1 h2;funext q;rcases UG.1 h with e | e
  ·simp only [UK] at e;obtain⟨rfl,rfl,rfl⟩:=e;by_cases hq:q=k
   ·simp only [lkD,hq,Gx,US,Bool.true_or]
   ·simp only [lkD,hq,Gt];rw [zfv fun p hp=>?_];have:p.1≠i:=fun e=>h1.1 (by rw [<- e];exact Kk (f:=(·.1)) hp);have:Nat.beq p.1 i=false:=(by cases hb:Nat.beq p.1 i with | false=>rfl | true=>exact GA (JR hb) this);rw [this,Ux]
  ·have hk:k≠b:=fun e'=>h2.1 (by show b∈_;rw [<- e'];exact Kk (f:=fun p:Nat×Bs×Value=>p.2.1) e);have hi:i≠a:=fun e'=>h1.1 (by show a∈_;rw [<- e'];exact Kk (f:=fun p:Nat×Bs×Value=>p.1) e);have hb:Nat.beq a i=false:=by cases hb:Nat.beq a i with | false=>rfl | true=>exact GA (JR hb).symm hi
   have ih:=congrFun (zqa (D:=D) e h1.2 h2.2) q;simp only [lkD,hb,Ux,ih];by_cases hq:q=b
   ·have hqk:¬ q=k:=fun e=>hk (e.symm.trans hq);rw [Gz hq,Gy hqk,Gz hq]
   ·rw [Gy hq,Gy hq]
section
variable {x:ExD} {q:OA} {c:Nat} {w:Wd}
def ze0 (x:ExD) (q:OA) (c:Nat) (mb:Nat):List Value:=exC x q c++[i64 (x.ev.length:Nat),.map (some mb)]
abbrev zaK (r:RelD):Value := .agg (zd r).toArray
def crX (x:ExD):RelD:=zaU x.ev.length (jx x.ev.length) (jx x.ev.length)
def nwI (x:ExD):List (Nat×Bs×Value):=[(5,[112,111],zaK (x.po)),(8,[114,102],zaK (x.rf)),(11,[99,111],zaK (x.co)),(14,[114,109,119],zaK (x.rm)),(17,[100,97,116,97],zaK (x.dt)),(20,[99,116,114,108],zaK (x.ct)),(23,[102,114],zaK (frX x)),(26,[108,111,99],zaK (zkH x)),(30,[105,100],zaK (idR x.ev.length (jx x.ev.length))),(34,[101,120,116],zaK (zk2 x (crX x))),(38,[105,110,116],zaK (zkO x (crX x)))]
def nwT (x:ExD) (q:OA) (c bx:Nat):List (Nat×Nat×Value):=[(0,15,.agg (exC x q c).toArray),(1,16,i64 (x.ev.length:Nat)),(3,18,.pointer (some ⟨bx,0+1,none⟩)),(4,19,zaK x.po),(6,20,.pointer (some ⟨bx,0+50,none⟩)),(7,21,zaK x.rf),(9,22,.pointer (some ⟨bx,0+99,none⟩)),(10,23,zaK x.co),(12,24,.pointer (some ⟨bx,0+246,none⟩)),(13,25,zaK x.rm),(15,26,.pointer (some ⟨bx,0+148,none⟩)),(16,27,zaK x.dt),(18,28,.pointer (some ⟨bx,0+197,none⟩)),(19,29,zaK x.ct),(21,30,.agg (exC x q c).toArray),(22,31,zaK (frX x)),(24,32,.agg (exC x q c).toArray),(25,33,zaK (zkH x)),(27,34,i64 (x.ev.length:Nat)),(28,35,s64 (jx x.ev.length)),(29,36,zaK (idR x.ev.length (jx x.ev.length))),(31,37,.agg (exC x q c).toArray),(32,38,zaK (crX x)),(33,39,zaK (zk2 x (crX x))),(35,40,.agg (exC x q c).toArray),(36,41,zaK (crX x)),(37,42,zaK (zkO x (crX x)))]
def nwB (x:ExD) (bx cb:Nat):VEnv:=[(1,At0 bx),(3,i64 (x.ev.length:Nat)),(4,s64 (jx x.ev.length)),(5,At0 cb)]
theorem zfW {α β:Type} [DecidableEq β] {f:α->β}:∀ {l:List α},(l.map f).Nodup->∀ a∈l,∀ b∈l,f a=f b->a=b
 | [],_,a,ha,_,_,_=>by cases ha
 | y::r,h,a,ha,b,hb,e=>by
  rw [UF,QX] at h;rcases UG.1 ha with ea | ha'
  ·rcases UG.1 hb with eb | hb'
   ·rw [ea,eb]
   ·exact GA (by rw [<- ea,e];exact Kk (f:=f) hb') h.1
  ·rcases UG.1 hb with eb | hb'
   ·exact GA (by rw [<- eb,<- e];exact Kk (f:=f) ha') h.1
   ·exact zfW h.2 a ha' b hb' e
def zks:List Nat:=[0,1,3,4,6,7,9,10,12,13,15,16,18,19,21,22,24,25,27,28,29,31,32,33,35,36,37]
def zlJ:List Nat:=[15,16,18,19,20,21,22,23,24,25,26,27,28,29,30,31,32,33,34,35,36,37,38,39,40,41,42]
def zkQ:List Nat:=[5,8,11,14,17,20,23,26,30,34,38]
theorem zr4 (bx:Nat):((nwT x q c bx).map (·.1)).Nodup:=show zks.Nodup by decide
theorem zoq (bx:Nat):((nwT x q c bx).map (·.2.1)).Nodup:=show zlJ.Nodup by decide
theorem zr6:((nwI x).map (·.1)).Nodup:=show zkQ.Nodup by decide
theorem zpZ:((nwI x).map (·.2.1)).Nodup:=by show ([[112,111],[114,102],[99,111],[114,109,119],[100,97,116,97],[99,116,114,108],[102,114],[108,111,99],[105,100],[101,120,116],[105,110,116]]:List Bs).Nodup;decide
theorem zuf:∀ p∈nwI x,p.1<43:=by
 have h:∀ a∈zkQ,a<43:=by decide
 exact fun p hp=>h p.1 (Kk (f:=(·.1)) hp)
theorem zue (bx:Nat):∀ p∈nwT x q c bx,(p.1 ∉ (nwI x).map (·.1))/\p.1≠2/\p.1<39:=by
 have h:∀ a∈zks,a ∉ zkQ/\a≠2/\a<39:=by decide
 exact fun p hp=>h p.1 (Kk (f:=(·.1)) hp)
theorem zr5 (bx:Nat):∀ p∈nwT x q c bx,15<=p.2.1/\p.2.1≠17/\p.2.1<43:=by
 have h:∀ a∈zlJ,15<=a/\a≠17/\a<43:=by decide
 exact fun p hp=>h p.2.1 (Kk (f:=fun p:Nat×Nat×Value=>p.2.1) hp)
structure MpN (x:ExD) (q:OA) (c:Nat) (R0:Wd) (D:Nat->Bool) (E:Env) (w:Wd) (mb:Nat):Prop where
 lo:R0.heap.size<=mb
 f:Env.find E 17=some (.map (some mb))
 m:MapF zbQ w mb (lkD D (nwI x))
 a:D 39=true->Env.find E 43=some (.map (some mb))
 b:D 40=true->Env.find E 44=some (.agg (ze0 x q c mb).toArray)
 e:D 41=true->∃ bb,R0.heap.size<=bb/\w.heap[bb]?=some (.cells (ze0 x q c mb).toArray 120 (0,0))/\Env.find E 45=some (At0 bb)/\(D 42=true->Env.find E 2=some (At0 bb))
structure JN (x:ExD) (q:OA) (c bx cb:Nat) (R0:Wd) (D:Nat->Bool) (E:Env) (w:Wd):Prop where
 ds:E.ds=[]
 bs:CovL E.vs (nwB x bx cb)
 tb:∀ p∈nwT x q c bx,D p.1=true->Env.find E p.2.1=some p.2.2
 bl:Bw R0 w
 mp:D 2=true->∃ mb,MpN x q c R0 D E w mb
 o1:D 40=true->D 39=true
 o2:D 41=true->D 40=true
 o3:D 42=true->D 41=true
 o4:D 2=false->D 39=false/\∀ p∈nwI x,D p.1=false
section
variable {bx cb i t:Nat} {v:Value} {R0:Wd} {D:Nat->Bool} {E:Env} {w':Wd}
theorem zcZ (h:CovL E.vs (nwB x bx cb)) {t:Nat} (ht:5<t\/t=2) (v:Value):CovL (zdD (some t) v E).vs (nwB x bx cb):=by
 have k:=h.find;have g:∀ n u,VEnv.find (nwB x bx cb) n=some u->t≠n->VEnv.find (zdD (some t) v E).vs n=some u:=fun n u hf hne=>(zY (E:=E) (t:=n) (u:=t) (v:=v) hne).trans (k n u hf);exact .cons (g 1 _ rfl (by omega)) (.cons (g 3 _ rfl (by omega)) (.cons (g 4 _ rfl (by omega)) (.cons (g 5 _ rfl (by omega)) .nil)))
theorem orD (h:(Nat.beq i t||D i)=true) (hne:i≠t):D i=true:=by
 have:Nat.beq i t=false:=by cases hb:Nat.beq i t with | false=>rfl | true=>exact GA (JR hb) hne
 rwa [this,Ux] at h
theorem zcH (hne:i≠t):(Nat.beq i t||D i)=D i:=by
 have:Nat.beq i t=false:=by cases hb:Nat.beq i t with | false=>rfl | true=>exact GA (JR hb) hne
 rw [this,Ux]
theorem JN.put (h:JN x q c bx cb R0 D E w) (hm:(i,t,v)∈nwT x q c bx) (hb:Bw w w'):JN x q c bx cb R0 (fun j=>Nat.beq j i||D j) (zdD (some t) v E) w':=by
 obtain⟨s1,s2,s3⟩:=zr5 bx _ hm;obtain⟨o1,o2,o3⟩:=zue bx _ hm;dsimp only at s1 s2 s3 o1 o2 o3;refine⟨h.ds,zcZ h.bs (.inl (by omega)) v,fun p hp hd=>?_,h.bl.trans (hb.mono h.bl.size),fun hd=>?_,fun hd=>by rw [QI];exact .inr (h.o1 (orD hd (by omega))),fun hd=>by rw [QI];exact .inr (h.o2 (orD hd (by omega))),fun hd=>by rw [QI];exact .inr (h.o3 (orD hd (by omega))),fun hd=>?_⟩
 rotate_left 1
 rotate_left 1
 ·have hd:(Nat.beq 2 i||D 2)=false:=hd;rw [zcH (by omega)] at hd;obtain⟨k1,k2⟩:=h.o4 hd;exact⟨(zcH (by omega)).trans k1,fun p hp=>(zcH fun e=>o1 (by rw [<- e];exact Kk (f:=fun p:Nat×Bs×Value=>p.1) hp)).trans (k2 p hp)⟩
 ·by_cases e:p.1=i
  ·have:=zfW (zr4 bx) p hp _ hm e;rw [this];exact zbW
  ·have e2:t≠p.2.1:=fun e'=>e (by rw [zfW (zoq bx) p hp _ hm e'.symm]);rw [zY e2];exact h.tb p hp (orD hd e)
 ·obtain⟨mb,hM⟩:=h.mp (orD hd (by omega));have ml:=zah hM.m;refine⟨mb,hM.lo,(zY (by omega)).trans hM.f,?_,fun hd=>(zY (by omega)).trans (hM.a (orD hd (by omega))),fun hd=>(zY (by omega)).trans (hM.b (orD hd (by omega))),fun hd=>?_⟩
  ·rw [zfv fun p hp=>zcH fun e=>o1 (by rw [<- e];exact Kk (f:=(·.1)) hp)];exact hM.m.below hb
  ·obtain⟨bb,hlo,hbx,hf,h2⟩:=hM.e (orD hd (by omega));exact⟨bb,hlo,zb hb hbx,(zY (by omega)).trans hf,fun hd=>(zY (by omega)).trans (h2 (orD hd (by omega)))⟩
def okI (i:Nat):Bool:=decide (i<39)&&(decide (i≠2)&&decide (i ∉ zks))
theorem JN.ins (h:JN x q c bx cb R0 D E w) {k:Bs} (hm:(i,k,v)∈nwI x) (h2:D 2=true) (hok:okI i=true) :
  ∃ mb,opd E (.tmp 17)=some (.map (some mb))/\∀ {K:Wd->Prop},(∀ w',JN x q c bx cb R0 (fun j=>Nat.beq j i||D j) E w'->K w')->SatR ((Instr.mapUpdate 118 (.map (some mb)) (zbQ k) v).run PG w) fun _ w'=>K w':=by
 unfold okI at hok;rw [bAT,bAT,dE,dE,dE] at hok;obtain⟨hi,hi2,hni⟩:=hok;replace hni:i ∉ (nwT x q c bx).map (·.1):=hni;obtain⟨mb,hM⟩:=h.mp h2;refine⟨mb,hM.f,fun {K} hK=>?_⟩;obtain⟨o,hr,hm'⟩:=zaa zj2 Tryz.underlying118 hM.m k v;refine⟨_,_,hr,hK _ ?_⟩;have ml:=zah hM.m;refine⟨h.ds,h.bs,fun p hp hd=>h.tb p hp (orD hd fun e=>hni (by rw [<- e];exact Kk (f:=(·.1)) hp)),jh h.bl hM.lo o,fun _=>⟨mb,hM.lo,hM.f,?_,fun hd=>hM.a (orD hd (by omega)),fun hd=>hM.b (orD hd (by omega)),fun hd=>?_⟩,fun hd=>by rw [QI];exact .inr (h.o1 (orD hd (by omega))),fun hd=>by rw [QI];exact .inr (h.o2 (orD hd (by omega))),fun hd=>by rw [QI];exact .inr (h.o3 (orD hd (by omega))),fun hd=>GA h2 (by have hd:(Nat.beq 2 i||D 2)=false:=hd;rw [zcH (by omega)] at hd;rw [hd];decide)⟩
 ·rw [zqa hm zr6 zpZ];exact hm'
 ·obtain⟨bb,hlo,hbx,hf,h2⟩:=hM.e (orD hd (by omega));refine⟨bb,hlo,?_,hf,fun hd=>h2 (orD hd (by omega))⟩;have hne:bb≠mb:=by
   rintro rfl;obtain⟨es,cl,hh,_⟩:=hM.m;rw [hh] at hbx;cases hbx
  exact (zl hne).trans hbx
end
theorem jw {a b:Bool} (h:(a&&b)=true):a=true:=by cases a with | true=>rfl | false=>cases h
theorem zds {a b:Bool} (h:(a&&b)=true):b=true:=by cases a with | true=>exact h | false=>cases h
theorem mTn {bx:Nat} {p:Nat×Nat×Value} (i:Nat) (h:(nwT x q c bx)[i]?=some p):p∈nwT x q c bx:=JY h
theorem mIn {p:Nat×Bs×Value} (i:Nat) (h:(nwI x)[i]?=some p):p∈nwI x:=JY h
theorem znw:zG (crX x).to:=za0 fun i _ _=>by
 by_cases h:(jx x.ev.length).testBit i=true
 ·rw [Gz h];exact KE Ua (jE _)
 ·rw [Gy h];decide
structure R0N (x:ExD) (q:OA) (c bx cb:Nat) (R0:Wd):Prop where
 h:ExH R0 bx x q c
 cr:R0.heap[cb]?=some (.cells (zd (crX x)).toArray 30 (0,0))
 v:ExV R0 x q
 t:Tz64M R0
theorem ziu:∀ (A B C xs:List Value),B.length=xs.length->zcs (A++(B++C)) A.length xs=A++(xs++C)
 | A,B,C,[],h=>by rw [Jf h];rfl
 | A,[],C,y::xs,h=>by simp at h
 | A,b::B,C,y::xs,h=>by
  have e:(A++(b::B++C)).set A.length y=(A++[y])++(B++C):=by
   rw [JP _ _ (Ge _),UW];simp
  rw [zcs,e];have:=ziu (A++[y]) B C xs (by simpa using h);rw [lap,List.length_singleton] at this;rw [this];simp
theorem zqA {xs z:List Value} (hx:xs.length=333) (hz:z.length=335) {a b d:Operand} {n:Int} {r:Option Nat}:zdx (zfU [(0,333,true),(333,1,false),(334,1,false)]) z (zgA [(0,a),(1,b),(2,d)] [.agg xs.toArray,i64 n,.map r])=some (xs++[i64 n,.map r]):=by
 have e1:(Value.agg xs.toArray).cells.size=333:=hx;have e0:(Value.agg xs.toArray).cells.toList=xs:=rfl;have e2:(i64 n).cells.size=1:=rfl;have e3:(Value.map r).cells.size=1:=rfl;have h2:(i64 n).cells.toList=[i64 n]:=rfl;have h3:(Value.map r).cells.toList=[.map r]:=rfl;have hz2:z=z.take 333++z.drop 333:=(JQ 333 z).symm;have hzt:(z.take 333).length=333:=by rw [Qu];omega
 have hzd:(z.drop 333).length=2:=by rw [Qt];omega
 obtain⟨u,v,huv⟩:∃ u v,z.drop 333=[u,v]:=by
  match z.drop 333,hzd with
  | [u,v],_=>exact⟨u,v,rfl⟩
 have hp:zcs z 0 xs=xs++[u,v]:=by
  rw [hz2,huv];exact ziu [] _ _ _ (by rw [hx,hzt])
 have l1:(xs++[u,v]).length=335:=by rw [lap,hx];rfl
 simp only [zgA,zdx,zfU,List.getElem?_cons_zero,Ju,e0,e1,e2,e3,h2,h3,hz,hp];simp only [US,UY,UA,l1];have s1:zcs (xs++[u,v]) 333 [i64 n]=xs++[i64 n,v]:=by
  simp only [zcs];rw [JP _ _ (by omega),hx];rfl
 have l2:(xs++[i64 n,v]).length=335:=by rw [lap,hx];rfl
 have s2:zcs (xs++[i64 n,v]) 334 [.map r]=xs++[i64 n,.map r]:=by
  simp only [zcs];rw [JP _ _ (by omega),hx];rfl
 have b1:Nat.ble 333 335=true:=rfl;have b2:Nat.ble (333+1) 335=true:=rfl;have b3:Nat.ble (334+1) 335=true:=rfl;simp only [s1,l2,s2,b3]
theorem zro:(ztp).length=335:=by kernel_rfl
section
variable {bx cb i t:Nat} {v:Value} {R0:Wd} {D:Nat->Bool} {E:Env}
abbrev NwS (i:Nat):Prop:=∀ {x:ExD} {q:OA} {c:Nat} {w:Wd} {bx cb:Nat} {R0:Wd} {D:Nat->Bool} {E:Env},R0N x q c bx cb R0->JN x q c bx cb R0 D E w->zhP zdR D i=true->zb1 (sg 46) zdR i E w fun E' w'=>JN x q c bx cb R0 (fun j=>Nat.beq j i||D j) E' w'
theorem wT {E:Env} {t:Nat} {v:Value} {f:Value->Prop} (h:VEnv.find E.vs t=some v) (k:f v):zZ E (.tmp t) f:=za2 (x := .tmp t) h k
theorem zxl:NwS 0:=fun hR h hd=>wT (h.bs.find 1 _ rfl) ⟨_,zI _ _ _,za (zb h.bl hR.h),hlt (zb h.bl hR.h),h.put (mTn 0 rfl) (Gj _ _)⟩
theorem zwf:NwS 21:=fun hR h hd=>wT (h.bs.find 1 _ rfl) ⟨_,zI _ _ _,za (zb h.bl hR.h),hlt (zb h.bl hR.h),h.put (mTn 14 rfl) (Gj _ _)⟩
theorem zwc:NwS 24:=fun hR h hd=>wT (h.bs.find 1 _ rfl) ⟨_,zI _ _ _,za (zb h.bl hR.h),hlt (zb h.bl hR.h),h.put (mTn 16 rfl) (Gj _ _)⟩
theorem zv5:NwS 31:=fun hR h hd=>wT (h.bs.find 1 _ rfl) ⟨_,zI _ _ _,za (zb h.bl hR.h),hlt (zb h.bl hR.h),h.put (mTn 21 rfl) (Gj _ _)⟩
theorem zv1:NwS 35:=fun hR h hd=>wT (h.bs.find 1 _ rfl) ⟨_,zI _ _ _,za (zb h.bl hR.h),hlt (zb h.bl hR.h),h.put (mTn 24 rfl) (Gj _ _)⟩
theorem zv4:NwS 32:=fun hR h hd=>wT (h.bs.find 5 _ rfl) ⟨_,ze _,za (zb h.bl hR.cr),hlt (zb h.bl hR.cr),h.put (mTn 22 rfl) (Gj _ _)⟩
theorem zv0:NwS 36:=fun hR h hd=>wT (h.bs.find 5 _ rfl) ⟨_,ze _,za (zb h.bl hR.cr),hlt (zb h.bl hR.cr),h.put (mTn 25 rfl) (Gj _ _)⟩
theorem zxk:NwS 1:=fun hR h hd=>wT (h.bs.find 3 _ rfl) (h.put (mTn 1 rfl) (Gj _ _))
theorem zv9:NwS 27:=fun hR h hd=>wT (h.bs.find 3 _ rfl) (h.put (mTn 18 rfl) (Gj _ _))
theorem zv8:NwS 28:=fun hR h hd=>wT (h.bs.find 4 _ rfl) (h.put (mTn 19 rfl) (Gj _ _))
theorem zxi:NwS 3:=fun hR h hd=>wT (h.bs.find 1 _ rfl) (h.put (mTn 2 rfl) (Gj _ _))
theorem zxh:NwS 4:=fun hR h hd=>wT (h.tb _ (mTn 2 rfl) (jw hd)) ⟨_,ze _,qi (zb h.bl hR.h) (i:=0) (by decide) rfl,hlt (zb h.bl hR.h),h.put (mTn 3 rfl) (Gj _ _)⟩
theorem zxf:NwS 6:=fun hR h hd=>wT (h.bs.find 1 _ rfl) (h.put (mTn 4 rfl) (Gj _ _))
theorem zxe:NwS 7:=fun hR h hd=>wT (h.tb _ (mTn 4 rfl) (jw hd)) ⟨_,ze _,qi (zb h.bl hR.h) (i:=1) (by decide) rfl,hlt (zb h.bl hR.h),h.put (mTn 5 rfl) (Gj _ _)⟩
theorem zxc:NwS 9:=fun hR h hd=>wT (h.bs.find 1 _ rfl) (h.put (mTn 6 rfl) (Gj _ _))
theorem zwq:NwS 10:=fun hR h hd=>wT (h.tb _ (mTn 6 rfl) (jw hd)) ⟨_,ze _,qi (zb h.bl hR.h) (i:=2) (by decide) rfl,hlt (zb h.bl hR.h),h.put (mTn 7 rfl) (Gj _ _)⟩
theorem zwo:NwS 12:=fun hR h hd=>wT (h.bs.find 1 _ rfl) (h.put (mTn 8 rfl) (Gj _ _))
theorem zwn:NwS 13:=fun hR h hd=>wT (h.tb _ (mTn 8 rfl) (jw hd)) ⟨_,ze _,qi (zb h.bl hR.h) (i:=5) (by decide) rfl,hlt (zb h.bl hR.h),h.put (mTn 9 rfl) (Gj _ _)⟩
theorem zwl:NwS 15:=fun hR h hd=>wT (h.bs.find 1 _ rfl) (h.put (mTn 10 rfl) (Gj _ _))
theorem zwk:NwS 16:=fun hR h hd=>wT (h.tb _ (mTn 10 rfl) (jw hd)) ⟨_,ze _,qi (zb h.bl hR.h) (i:=3) (by decide) rfl,hlt (zb h.bl hR.h),h.put (mTn 11 rfl) (Gj _ _)⟩
theorem zwi:NwS 18:=fun hR h hd=>wT (h.bs.find 1 _ rfl) (h.put (mTn 12 rfl) (Gj _ _))
theorem zwh:NwS 19:=fun hR h hd=>wT (h.tb _ (mTn 12 rfl) (jw hd)) ⟨_,ze _,qi (zb h.bl hR.h) (i:=4) (by decide) rfl,hlt (zb h.bl hR.h),h.put (mTn 13 rfl) (Gj _ _)⟩
theorem zwe:NwS 22:=fun hR h hd=>wT (h.tb _ (mTn 14 rfl) (jw hd)) (cmo (zw0 (hR.v.below h.bl) (hR.t.below h.bl)) fun e w3 k=>by obtain⟨rfl,hb⟩:=k;exact h.put (mTn 15 rfl) (hb))
theorem zwb:NwS 25:=fun hR h hd=>wT (h.tb _ (mTn 16 rfl) (jw hd)) (cmo (zvp (hR.v.below h.bl) (hR.t.below h.bl)) fun e w3 k=>by obtain⟨rfl,hb⟩:=k;exact h.put (mTn 17 rfl) (hb))
theorem zv7:NwS 29:=fun hR h hd=>wT (h.tb _ (mTn 18 rfl) (jw hd)) (wT (h.tb _ (mTn 19 rfl) (jw (zds hd))) (cmo (ztk (by have:=hR.v.n;omega) (jE _)) fun e w3 k=>by obtain⟨rfl,hb⟩:=k;exact h.put (mTn 20 rfl) (hb)))
theorem zv3:NwS 33:=fun hR h hd=>wT (h.tb _ (mTn 21 rfl) (jw hd)) (wT (h.tb _ (mTn 22 rfl) (jw (zds hd))) (cmo (zvv (hR.v.below h.bl) znw (hR.t.below h.bl)) fun e w3 k=>by obtain⟨rfl,hb⟩:=k;exact h.put (mTn 23 rfl) (hb)))
theorem zvZ:NwS 37:=fun hR h hd=>wT (h.tb _ (mTn 24 rfl) (jw hd)) (wT (h.tb _ (mTn 25 rfl) (jw (zds hd))) (cmo (zvt (hR.v.below h.bl) znw (hR.t.below h.bl)) fun e w3 k=>by obtain⟨rfl,hb⟩:=k;exact h.put (mTn 26 rfl) (hb)))
theorem zhD {x:ExD} {q:OA} {c:Nat} {w:Wd} {bx cb i:Nat} {k:Bs} {v:Value} {R0:Wd} {D:Nat->Bool} {E:Env} (h:JN x q c bx cb R0 D E w) (hm:(i,k,v)∈nwI x) (h2:D 2=true) (hok:okI i=true) {t:Nat} (ht:Env.find E t=some v):zZ E (.tmp 17) fun m=>zZ E (.const (zbQ k)) fun a=>zZ E (.tmp t) fun b=>SatR ((Instr.mapUpdate 118 m a b).run PG w) fun _ w'=>JN x q c bx cb R0 (fun j=>Nat.beq j i||D j) E w':=by
 obtain⟨mb,hf,hk⟩:=h.ins hm h2 hok;exact za2 (x := .tmp 17) hf (za2 (x := .const _) rfl (wT ht (hk fun w' h=>h)))
theorem zxg:NwS 5:=fun hR h hd=>zhD h (mIn 0 rfl) (jw hd) rfl (h.tb _ (mTn 3 rfl) (jw (zds hd)))
theorem zxd:NwS 8:=fun hR h hd=>zhD h (mIn 1 rfl) (jw hd) rfl (h.tb _ (mTn 5 rfl) (jw (zds hd)))
theorem zwp:NwS 11:=fun hR h hd=>zhD h (mIn 2 rfl) (jw hd) rfl (h.tb _ (mTn 7 rfl) (jw (zds hd)))
theorem zwm:NwS 14:=fun hR h hd=>zhD h (mIn 3 rfl) (jw hd) rfl (h.tb _ (mTn 9 rfl) (jw (zds hd)))
theorem zwj:NwS 17:=fun hR h hd=>zhD h (mIn 4 rfl) (jw hd) rfl (h.tb _ (mTn 11 rfl) (jw (zds hd)))
theorem zwg:NwS 20:=fun hR h hd=>zhD h (mIn 5 rfl) (jw hd) rfl (h.tb _ (mTn 13 rfl) (jw (zds hd)))
theorem zwd:NwS 23:=fun hR h hd=>zhD h (mIn 6 rfl) (jw hd) rfl (h.tb _ (mTn 15 rfl) (jw (zds hd)))
theorem zwa:NwS 26:=fun hR h hd=>zhD h (mIn 7 rfl) (jw hd) rfl (h.tb _ (mTn 17 rfl) (jw (zds hd)))
theorem zv6:NwS 30:=fun hR h hd=>zhD h (mIn 8 rfl) (jw hd) rfl (h.tb _ (mTn 20 rfl) (jw (zds hd)))
theorem zv2:NwS 34:=fun hR h hd=>zhD h (mIn 9 rfl) (jw hd) rfl (h.tb _ (mTn 23 rfl) (jw (zds hd)))
theorem zvY:NwS 38:=fun hR h hd=>zhD h (mIn 10 rfl) (jw hd) rfl (h.tb _ (mTn 26 rfl) (jw (zds hd)))
theorem JN.env (h:JN x q c bx cb R0 D E w) {i:Nat} (hi:i ∉ (nwT x q c bx).map (·.1)) {t:Nat} (ht:t ∉ (nwT x q c bx).map (·.2.1)) (v:Value):∀ p∈nwT x q c bx,(fun j=>Nat.beq j i||D j) p.1=true->Env.find (zdD (some t) v E) p.2.1=some p.2.2:=fun p hp hd=>by
 rw [zY fun e=>ht (by rw [e];exact Kk (f:=fun p:Nat×Nat×Value=>p.2.1) hp)];exact h.tb p hp (orD hd fun e=>hi (by rw [<- e];exact Kk (f:=fun p:Nat×Nat×Value=>p.1) hp))
theorem zhp {i:Nat} (hi:i ∉ (nwI x).map (·.1)):lkD (fun j=>Nat.beq j i||D j) (nwI x)=lkD D (nwI x) :=
 zfv fun p hp=>zcH fun e=>hi (by rw [<- e];exact Kk (f:=fun p:Nat×Bs×Value=>p.1) hp)
theorem zxj (hR:R0N x q c bx cb R0) (hJ:JN x q c bx cb R0 D E w) (hD:D 2=false):zb1 (sg 46) zdR 2 E w fun E' w'=>JN x q c bx cb R0 (fun j=>Nat.beq j 2||D j) E' w':=by
 obtain⟨h39,hk⟩:=hJ.o4 hD;have hlk:=zkI hk;refine⟨Value.map (some w.heap.size),w.alloc (.map #[] 0),rfl,?_⟩;have m3:MapF (key:=zbQ) (w.alloc (.map #[] 0)) w.heap.size (fun (_:Bs)=>none):=MapF.new;refine⟨hJ.ds,zcZ hJ.bs (.inl (by decide)) _,hJ.env (show 2 ∉ zks by decide) (show 17 ∉ zlJ by decide) _,hJ.bl.trans ((zba _ _).mono hJ.bl.size),fun _=>⟨w.heap.size,hJ.bl.size,zbW,?_,fun hd=>?_,fun hd=>?_,fun hd=>?_⟩,hJ.o1,hJ.o2,hJ.o3,fun hd=>by cases hd⟩
 ·rw [zhp (show 2 ∉ zkQ by decide),hlk];exact m3
 ·exact GA (orD hd (by decide)) (by rw [h39];decide)
 ·exact GA (hJ.o1 (orD hd (by decide))) (by rw [h39];decide)
 ·exact GA (hJ.o1 (hJ.o2 (orD hd (by decide)))) (by rw [h39];decide)
theorem zvX (hR:R0N x q c bx cb R0) (hJ:JN x q c bx cb R0 D E w) (h2:D 2=true):zb1 (sg 46) zdR 39 E w fun E' w'=>JN x q c bx cb R0 (fun j=>Nat.beq j 39||D j) E' w':=by
 obtain⟨mb,hM⟩:=hJ.mp h2;refine za2 (x := .tmp 17) hM.f ⟨hJ.ds,zcZ hJ.bs (.inl (by decide)) _,hJ.env (show 39 ∉ zks by decide) (show 43 ∉ zlJ by decide) _,hJ.bl,fun _=>⟨mb,hM.lo,(zY (by decide)).trans hM.f,?_,fun _=>zbW,fun hd=>(zY (by decide)).trans (hM.b (orD hd (by decide))),fun hd=>?_⟩,fun _=>rfl,hJ.o2,hJ.o3,fun hd=>GA ((zcH (by decide)).symm.trans hd) (by rw [h2];decide)⟩
 ·rw [zhp (show 39 ∉ zkQ by decide)];exact hM.m
 ·obtain⟨bb,hlo,hbx,hf,h2⟩:=hM.e (orD hd (by decide));exact⟨bb,hlo,hbx,(zY (by decide)).trans hf,fun hd=>(zY (by decide)).trans (h2 (orD hd (by decide)))⟩
theorem zvW (hR:R0N x q c bx cb R0) (hJ:JN x q c bx cb R0 D E w) (h2:D 2=true) (h0:D 0=true) (h1:D 1=true) (h39:D 39=true):zb1 (sg 46) zdR 40 E w fun E' w'=>JN x q c bx cb R0 (fun j=>Nat.beq j 40||D j) E' w':=by
 obtain⟨mb,hM⟩:=hJ.mp h2;refine za2 (x := .tmp 15) (v := .agg (exC x q c).toArray) (hJ.tb _ (mTn 0 rfl) h0) (za2 (x := .tmp 16) (v:=i64 (x.ev.length:Nat)) (hJ.tb _ (mTn 1 rfl) h1) (za2 (x := .tmp 43) (v := .map (some mb)) (hM.a h39) ⟨ze0 x q c mb,zqA (zI x q c) zro,hJ.ds,zcZ hJ.bs (.inl (by decide)) _,hJ.env (show 40 ∉ zks by decide) (show 44 ∉ zlJ by decide) _,hJ.bl,fun _=>⟨mb,hM.lo,(zY (by decide)).trans hM.f,?_,fun hd=>(zY (by decide)).trans (hM.a (orD hd (by decide))),fun _=>zbW,fun hd=>?_⟩,fun _=>h39,fun _=>rfl,hJ.o3,fun hd=>GA ((zcH (by decide)).symm.trans hd) (by rw [h2];decide)⟩))
 ·rw [zhp (show 40 ∉ zkQ by decide)];exact hM.m
 ·obtain⟨bb,hlo,hbx,hf,h2⟩:=hM.e (orD hd (by decide));exact⟨bb,hlo,hbx,(zY (by decide)).trans hf,fun hd=>(zY (by decide)).trans (h2 (orD hd (by decide)))⟩
theorem zvV (hR:R0N x q c bx cb R0) (hJ:JN x q c bx cb R0 D E w) (h2:D 2=true) (h40:D 40=true) (h41:D 41=false):zb1 (sg 46) zdR 41 E w fun E' w'=>JN x q c bx cb R0 (fun j=>Nat.beq j 41||D j) E' w':=by
 obtain⟨mb,hM⟩:=hJ.mp h2;refine za2 (x := .tmp 44) (v := .agg (ze0 x q c mb).toArray) (hM.b h40) ?_;have f1:(w.alloc (.cells (ze0 x q c mb).toArray 120)).heap[w.heap.size]?=some (.cells (ze0 x q c mb).toArray 120 (0,0)):=zz w _;have bw:=zba w (.cells (ze0 x q c mb).toArray 120);refine⟨hJ.ds,zcZ hJ.bs (.inl (by decide)) _,hJ.env (show 41 ∉ zks by decide) (show 45 ∉ zlJ by decide) _,hJ.bl.trans (bw.mono hJ.bl.size),fun _=>⟨mb,hM.lo,(zY (by decide)).trans hM.f,?_,fun hd=>(zY (by decide)).trans (hM.a (orD hd (by decide))),fun hd=>(zY (by decide)).trans (hM.b (orD hd (by decide))),fun _=>⟨w.heap.size,hJ.bl.size,f1,zbW,fun hd=>?_⟩⟩,hJ.o1,fun _=>h40,fun _=>rfl,fun hd=>GA ((zcH (by decide)).symm.trans hd) (by rw [h2];decide)⟩
 ·rw [zhp (show 41 ∉ zkQ by decide)];exact hM.m.below bw
 ·exact GA (hJ.o3 (orD hd (by decide))) (by rw [h41];decide)
theorem zvU (hR:R0N x q c bx cb R0) (hJ:JN x q c bx cb R0 D E w) (h2:D 2=true) (h41:D 41=true):zb1 (sg 46) zdR 42 E w fun E' w'=>JN x q c bx cb R0 (fun j=>Nat.beq j 42||D j) E' w':=by
 obtain⟨mb,hM⟩:=hJ.mp h2;obtain⟨bb,hlo,hbx,hf,_⟩:=hM.e h41;refine za2 (x := .tmp 45) (v:=At0 bb) hf ⟨hJ.ds,zcZ hJ.bs (.inr rfl) _,hJ.env (show 42 ∉ zks by decide) (show 2 ∉ zlJ by decide) _,hJ.bl,fun _=>⟨mb,hM.lo,(zY (by decide)).trans hM.f,?_,fun hd=>(zY (by decide)).trans (hM.a (orD hd (by decide))),fun hd=>(zY (by decide)).trans (hM.b (orD hd (by decide))),fun _=>⟨bb,hlo,hbx,(zY (by decide)).trans hf,fun _=>zbW⟩⟩,hJ.o1,hJ.o2,fun _=>h41,fun hd=>GA ((zcH (by decide)).symm.trans hd) (by rw [h2];decide)⟩;rw [zhp (show 42 ∉ zkQ by decide)];exact hM.m
theorem JN.d2 (h:JN x q c bx cb R0 D E w) (h39:D 39=true):D 2=true:=by
 cases h2:D 2 with
 | true=>rfl
 | false=>rw [(h.o4 h2).1] at h39;cases h39
theorem zs1 {P:Nat->Prop} (h0:P 0) (h1:P 1) (h2:P 2) (h3:P 3) (h4:P 4) (h5:P 5) (h6:P 6) (h7:P 7) (h8:P 8) (h9:P 9) (h10:P 10) (h11:P 11) (h12:P 12) (h13:P 13) (h14:P 14) (h15:P 15) (h16:P 16) (h17:P 17) (h18:P 18) (h19:P 19) (h20:P 20) (h21:P 21) (h22:P 22) (h23:P 23) (h24:P 24) (h25:P 25) (h26:P 26) (h27:P 27) (h28:P 28) (h29:P 29) (h30:P 30) (h31:P 31) (h32:P 32) (h33:P 33) (h34:P 34) (h35:P 35) (h36:P 36) (h37:P 37) (h38:P 38) (h39:P 39) (h40:P 40) (h41:P 41) (h42:P 42) (hr:∀ i,P (i+43)):∀ i,P i
 | 0=>h0
 | 1=>h1
 | 2=>h2
 | 3=>h3
 | 4=>h4
 | 5=>h5
 | 6=>h6
 | 7=>h7
 | 8=>h8
 | 9=>h9
 | 10=>h10
 | 11=>h11
 | 12=>h12
 | 13=>h13
 | 14=>h14
 | 15=>h15
 | 16=>h16
 | 17=>h17
 | 18=>h18
 | 19=>h19
 | 20=>h20
 | 21=>h21
 | 22=>h22
 | 23=>h23
 | 24=>h24
 | 25=>h25
 | 26=>h26
 | 27=>h27
 | 28=>h28
 | 29=>h29
 | 30=>h30
 | 31=>h31
 | 32=>h32
 | 33=>h33
 | 34=>h34
 | 35=>h35
 | 36=>h36
 | 37=>h37
 | 38=>h38
 | 39=>h39
 | 40=>h40
 | 41=>h41
 | 42=>h42
 | i+43=>hr i
end
theorem zl7 (hv:ExV w x q) (hT:Tz64M w):Calls PG 51 #[.agg (exC x q c).toArray] w fun e w'=>∃ bb mb,e = .returned (At0 bb)/\w.heap.size<=bb/\w.heap.size<=mb/\w'.heap[bb]?=some (.cells (ze0 x q c mb).toArray 120 (0,0))/\MapF zbQ w' mb (lkD (fun _=>true) (nwI x))/\Bw w w':=by
 have hn:=hv.n;refine zmC (S:=sg 46) (zbF _) (args:=[.agg (exC x q c).toArray]) (.c (.m .p) (.s (.m .p) (.s (.m .p) (.c (.m .p) (.c .i (.m .p)))))) Tryz.func51 rfl rfl (JS rfl) rfl ?_;refine⟨Unit,fun _=>⟨[(1,At0 w.heap.size)],[]⟩,fun _ X=>ExH X w.heap.size x q c/\Bw w X,⟨(),(cvE rfl rfl),zz w _,zba _ _⟩,?_⟩;rintro _ X ⟨fX,bX⟩;refine⟨_,jq (za fX),cmo zh4 ?_⟩;rintro e Y ⟨rfl,h⟩;subst h;refine⟨Nat,fun cb=>⟨nwB x w.heap.size cb,[]⟩,fun cb R=>R0N x q c w.heap.size cb R/\Bw w R,?_,?_⟩
 ·refine cmo (znO (by omega) (jE _) (jE _)) ?_;rintro e Y ⟨rfl,bY⟩;have b1:=zst bX bY;refine zn (X:=Y) (v := .agg (zd (crX x)).toArray) k30 (ze _) rfl (zD _) fun Z hbZ fZ sZ=>?_;have b2:=zst b1 hbZ;exact⟨Y.heap.size,(cvE rfl rfl),⟨zb hbZ (zb bY fX),fZ,hv.below b2,hT.below b2⟩,b2⟩
 clear fX bX X;rintro cb R0 ⟨hR,b0⟩;refine⟨Nat×Nat,fun y=>⟨[(2,At0 y.1)],[]⟩,fun y X=>w.heap.size<=y.1/\w.heap.size<=y.2/\X.heap[y.1]?=some (.cells (ze0 x q c y.2).toArray 120 (0,0))/\MapF zbQ X y.2 (lkD (fun _=>true) (nwI x))/\Bw w X,?_,?_⟩
 ·refine⟨by kernel_rfl,fun D E w'=>JN x q c w.heap.size cb R0 D E w',?_,?_,?_⟩
  ·exact⟨rfl,.cons rfl (.cons rfl (.cons rfl (.cons rfl .nil))),(fun p _ h=>by cases h),(Gj _ _).drew,(fun h=>by cases h),(fun h=>by cases h),(fun h=>by cases h),(fun h=>by cases h),fun _=>⟨rfl,fun _ _=>rfl⟩⟩
  ·intro D E w' i hJ hD hdep;have key:∀ i,D i=false->zhP zdR D i=true->zb1 (sg 46) zdR i E w' fun E' w''=>JN x q c w.heap.size cb R0 (fun j=>Nat.beq j i||D j) E' w'':=by
    refine zs1 (P:=fun i=>D i=false->zhP zdR D i=true->zb1 (sg 46) zdR i E w' fun E' w''=>JN x q c w.heap.size cb R0 (fun j=>Nat.beq j i||D j) E' w'')
     (fun _ hd=>zxl hR hJ hd)
     (fun _ hd=>zxk hR hJ hd)
     (fun hD _=>zxj hR hJ hD)
     (fun _ hd=>zxi hR hJ hd)
     (fun _ hd=>zxh hR hJ hd)
     (fun _ hd=>zxg hR hJ hd)
     (fun _ hd=>zxf hR hJ hd)
     (fun _ hd=>zxe hR hJ hd)
     (fun _ hd=>zxd hR hJ hd)
     (fun _ hd=>zxc hR hJ hd)
     (fun _ hd=>zwq hR hJ hd)
     (fun _ hd=>zwp hR hJ hd)
     (fun _ hd=>zwo hR hJ hd)
     (fun _ hd=>zwn hR hJ hd)
     (fun _ hd=>zwm hR hJ hd)
     (fun _ hd=>zwl hR hJ hd)
     (fun _ hd=>zwk hR hJ hd)
     (fun _ hd=>zwj hR hJ hd)
     (fun _ hd=>zwi hR hJ hd)
     (fun _ hd=>zwh hR hJ hd)
     (fun _ hd=>zwg hR hJ hd)
     (fun _ hd=>zwf hR hJ hd)
     (fun _ hd=>zwe hR hJ hd)
     (fun _ hd=>zwd hR hJ hd)
     (fun _ hd=>zwc hR hJ hd)
     (fun _ hd=>zwb hR hJ hd)
     (fun _ hd=>zwa hR hJ hd)
     (fun _ hd=>zv9 hR hJ hd)
     (fun _ hd=>zv8 hR hJ hd)
     (fun _ hd=>zv7 hR hJ hd)
     (fun _ hd=>zv6 hR hJ hd)
     (fun _ hd=>zv5 hR hJ hd)
     (fun _ hd=>zv4 hR hJ hd)
     (fun _ hd=>zv3 hR hJ hd)
     (fun _ hd=>zv2 hR hJ hd)
     (fun _ hd=>zv1 hR hJ hd)
     (fun _ hd=>zv0 hR hJ hd)
     (fun _ hd=>zvZ hR hJ hd)
     (fun _ hd=>zvY hR hJ hd)
     (fun _ hd=>zvX hR hJ (jw hd))
     (fun _ hd=>zvW hR hJ (hJ.d2 (jw (zds (zds hd)))) (jw hd) (jw (zds hd)) (jw (zds (zds hd))))
     (fun hD hd=>zvV hR hJ (hJ.d2 (hJ.o1 (jw hd))) (jw hd) hD)
     (fun hD hd=>zvU hR hJ (hJ.d2 (hJ.o1 (hJ.o2 (jw hd)))) (jw hd))
     ?_
    exact fun i _ _=>trivial
   exact key i hD hdep
  ·intro D E w' hall hJ;obtain⟨mb,hM⟩:=hJ.mp (hall 2 (by decide));obtain⟨bb,hlo,hbx,_,h2⟩:=hM.e (hall 41 (by decide));have e1:lkD D (nwI x)=lkD (fun _=>true) (nwI x):=(zfv fun p hp=>(hall p.1 (zuf p hp)).symm).symm;exact⟨(bb,mb),⟨.cons (h2 (hall 42 (by decide))) .nil,hJ.ds⟩,UU b0.size hlo,UU b0.size hM.lo,hbx,by rw [<- e1];exact hM.m,b0.trans (hJ.bl.mono b0.size)⟩
 rintro⟨bb,mb⟩ X ⟨h1,h2,f1,m1,b1⟩;exact⟨bb,mb,rfl,h1,h2,f1,m1,b1⟩
end
structure WldH (x:ExD) (q:OA) (c bb mb:Nat) (g:Bs->RelD) (Y:Wd):Prop where
 f:Y.heap[bb]?=some (.cells (ze0 x q c mb).toArray 120 (0,0))
 m:∃ h,MapF zbQ Y mb h/\∀ s,(h s).getD (zaK zp)=zaK (g s)
 w:∀ s,zG (g s).to
 v:ExV Y x q
 t:Tz64M Y
section
variable {x:ExD} {q:OA} {c bb mb:Nat} {g:Bs->RelD} {w Y Z:Wd}
theorem WldH.below (h:WldH x q c bb mb g Y) (hb:Bw Y Z):WldH x q c bb mb g Z:=by
 obtain⟨k,hk,hg⟩:=h.m;exact⟨zb hb h.f,⟨k,hk.below hb,hg⟩,h.w,h.v.below hb,h.t.below hb⟩
def zrc (x:ExD) (q:OA) (c bb mb:Nat) (t:Trm):Prop:=∀ {g:Bs->RelD} {Y:Wd} {p:OA} {cap:Nat},WldH x q c bb mb g Y->KidsT zbI Y p t.kids->t.name.length<=140737488351232 ->
 Calls PG 52 #[At0 bb,.agg (zf t p cap).toArray] Y fun e w'=>e = .returned (.agg (zd (valT x g t)).toArray)/\Bw Y w'/\zG (valT x g t).to
theorem zg1 (x:ExD) (q:OA) (c mb:Nat):(ze0 x q c mb)[334]?=some (.map (some mb)):=by
 unfold ze0;rw [Jl (by rw [zI];decide),zI];rfl
theorem ztP (x:ExD) (q:OA) (c mb:Nat):(ze0 x q c mb)[333]?=some (i64 (x.ev.length:Nat)):=by
 unfold ze0;rw [Jl (by rw [zI];decide),zI];rfl
theorem ztu (h:WldH x q c bb mb g Y) (s:Bs) {w2:Wd} (hb:Bw Y w2):(Instr.lookup 118 (.map (some mb)) (zu s) false).run PG w2 = .ok (zaK (g s)) w2:=by
 obtain⟨k,hk,hg⟩:=h.m;have:=zhs zj2 Tryz.underlying118 (z:=zaK zp) (zjS (by kernel_rfl)) (hk.below hb) s false;refine this.trans ?_;rw [Gy (by decide),hg]
theorem zpc (s:Bs) (kids:List Trm):zrc x q c bb mb (.mk 1 s kids):=by
 intro g Y p cap hW hK hl;refine qa 91 [At0 bb,.agg (zf (.mk 1 s kids) p cap).toArray] (.c .p .p) Tryz.func52 ?_;have hv:valT x g (.mk 1 s kids)=g s:=by rw [valT];rfl
 rw [hv];obtain⟨L,hL⟩:=nm (Y.heap.size);refine⟨Unit,fun _=>⟨[(0,At0 bb),(3,At0 L),(4,At0 (L+1))],[]⟩,fun _ X=>X.heap[L]?=some (.cells (zf (.mk 1 s kids) p cap).toArray 24 (0,0))/\zN X (L+1) zp/\Bw Y X,?_,?_⟩
 ·obtain⟨W1,e1⟩:=nm (Y.alloc (.cells (zf (.mk 1 s kids) p cap).toArray 24));have n1:W1.heap.size=L+1:=by rw [e1,hL];exact wz _ _
  have f1:W1.heap[L]?=some (.cells (zf (.mk 1 s kids) p cap).toArray 24 (0,0)):=by rw [e1,hL];exact zz Y _
  have b1:Bw Y W1:=by rw [e1];exact zba _ _
  obtain⟨W2,e2⟩:=nm (W1.alloc (.cells (zd zp).toArray 30));have f2:zN W2 (L+1) zp:=by rw [e2,<- n1];exact zz W1 _
  have b2:Bw W1 W2:=by rw [e2];exact zba _ _
  have key:W2.heap[L]?=some (.cells (zf (.mk 1 s kids) p cap).toArray 24 (0,0))/\zN W2 (L+1) zp/\Bw Y W2:=⟨zb b2 f1,f2,zst b1 b2⟩;rw [e2,e1] at key;refine⟨(),⟨.cons rfl (.cons (by rw [hL];rfl) (.cons ?_ .nil)),rfl⟩,key⟩;show some (At0 (Y.alloc (.cells (zf (.mk 1 s kids) p cap).toArray 24)).heap.size)=_;rw [wz,hL]
 rintro _ X ⟨f1,f0,bX⟩;refine⟨_,zc (za f1) (i:=0) rfl,Gp (fun _=>DrawE.ord [7] [0,1,2,3,4,5,6,7] (by kernel_rfl) ?_) (fun h=>GA (show true=false from h) (by decide))⟩;have hX:=hW.below bX;exact⟨_,zc (za (hdr hX.f)) (i:=334) (zg1 x q c mb),_,zc (za (hdr f1)) (i:=1) rfl,_,fun w2 hb=>ztu hX s ((Gj _ X).drew.trans hb),zr (v := .agg (zd (g s)).toArray) k30 (hdr f0) (ze _) (ze _) (zD _) ⟨zd (g s),ze _,za (zm (hdr f0)),rfl,zj bX.drew (by omega) _,hW.w s⟩⟩
end
def zxD:Prop:=∀ {r:RelD} {Y:Wd},zG r.to->CB 69 #[.agg (zd r).toArray] Y (.bool (zut r))
def zdw (ls:List LineD) (x:ExD):Bool×Bs×Int:=match zhF ls x with
 | none=>(false,[],2)
 | some (b,s)=>(b,s,0)
section
variable {x:ExD} {q p:OA} {c cap bb mb L:Nat} {g:Bs->RelD} {w X Y Z:Wd} {ls:List LineD}
theorem zml (h:(jN ls).isSome=true):∀ l∈ls,l.kind<=3/\l.name.length<=16/\VT l.term:=by
 unfold jN at h
 split at h
 ·cases h
 ·split at h
  ·cases h
  ·rename_i lets e;exact (zdX ls _ _ 0 lets (fun s hs=>by cases hs) (by decide) e).1
theorem zdG:zG zp.to:=fun i _=>(by show 0<2^64;decide)
theorem jJ {P:Prop} [Decidable P] {a b:RelD} (h1:P->zG a.to) (h2:¬ P->zG b.to):zG (if P then a else b).to:=by
 by_cases h:P
 ·rw [Gz h];exact h1 h
 ·rw [Gy h];exact h2 h
theorem zoe (hv:ExV w x q) (hT:Tz64M w) (s:Bs):zG (qb x s).to:=by
 have hn:=hv.n;have loc:zG (zf3 x).to:=zb8 (by omega);have it:∀ r,zby x r=true->zG (zaG x r).to/\zG (zmd x r).to:=fun r h=>by
  have:=(zeS h).2.1;exact⟨zb8 (by omega),zb8 (by omega)⟩
 have idw:zG (idR x.ev.length (jx x.ev.length)).to:=za0 fun i _ _=>KE Ua (jE _);exact jJ (fun _=>hv.po) fun _=>jJ (fun _=>hv.rf) fun _=>jJ (fun _=>hv.co) fun _=>jJ (fun _=>hv.rm) fun _=>jJ (fun _=>hv.dt) fun _=>jJ (fun _=>hv.ct) fun _=>jJ (fun _=>jJ (fun _=>(zmh hv hT).2) fun _=>zdG) fun _=>jJ (fun _=>jJ (fun _=>loc) fun _=>zdG) fun _=>jJ (fun _=>idw) fun _=>jJ (fun _=>jJ (fun h=>(it _ h).1) fun _=>zdG) fun _=>jJ (fun _=>jJ (fun h=>(it _ h).2) fun _=>zdG) fun _=>zdG
theorem zpY (s:Bs):(lkD (fun _=>true) (nwI x) s).getD (zaK zp)=zaK (qb x s):=by
 unfold qb;simp only [lkD,nwI,crX,Gx];by_cases h1:s=[112,111]
 ·simp only [Gz h1,QE]
 by_cases h2:s=[114,102]
 ·simp only [Gy h1,Gz h2,QE]
 by_cases h3:s=[99,111]
 ·simp only [Gy h1,Gy h2,Gz h3,QE]
 by_cases h4:s=[114,109,119]
 ·simp only [Gy h1,Gy h2,Gy h3,Gz h4,QE]
 by_cases h5:s=[100,97,116,97]
 ·simp only [Gy h1,Gy h2,Gy h3,Gy h4,Gz h5,QE]
 by_cases h6:s=[99,116,114,108]
 ·simp only [Gy h1,Gy h2,Gy h3,Gy h4,Gy h5,Gz h6,QE]
 by_cases h7:s=[102,114]
 ·simp only [Gy h1,Gy h2,Gy h3,Gy h4,Gy h5,Gy h6,Gz h7,QE]
 by_cases h8:s=[108,111,99]
 ·simp only [Gy h1,Gy h2,Gy h3,Gy h4,Gy h5,Gy h6,Gy h7,Gz h8,QE]
 by_cases h9:s=[105,100]
 ·simp only [Gy h1,Gy h2,Gy h3,Gy h4,Gy h5,Gy h6,Gy h7,Gy h8,Gz h9,QE]
 by_cases h10:s=[101,120,116]
 ·simp only [Gy h1,Gy h2,Gy h3,Gy h4,Gy h5,Gy h6,Gy h7,Gy h8,Gy h9,Gz h10,QE]
 by_cases h11:s=[105,110,116]
 ·simp only [Gy h1,Gy h2,Gy h3,Gy h4,Gy h5,Gy h6,Gy h7,Gy h8,Gy h9,Gy h10,Gz h11,QE]
 simp only [Gy h1,Gy h2,Gy h3,Gy h4,Gy h5,Gy h6,Gy h7,Gy h8,Gy h9,Gy h10,Gy h11,Option.getD_none]
theorem WldH.put (h:WldH x q c bb mb g Y) (hv:ExV w x q) (hT:Tz64M w) (hb:Bw w Y) (hmb:w.heap.size<=mb) (nq:Bs) {r:RelD} (hr:zG r.to) {K:Wd->Prop} (k:∀ V,WldH x q c bb mb (qx g nq r) V->Bw w V->(∀ (j:Nat) (cs:Array Value) (t:TypeId) (fr:Nat×Nat),Y.heap[j]?=some (Obj.cells cs t fr)->V.heap[j]?=some (Obj.cells cs t fr))->K V) :
  SatR ((Instr.mapUpdate 118 (.map (some mb)) (zu nq) (zaK r)).run PG Y) fun _ w'=>K w':=by
 obtain⟨f,hf,hg⟩:=h.m;obtain⟨o,hrun,hm⟩:=zaa zj2 Tryz.underlying118 hf nq (zaK r);have hne:∀ j,(∃ (cs:Array Value) (t:TypeId) (fr:Nat×Nat),Y.heap[j]?=some (Obj.cells cs t fr))->j≠mb:=by
  intro j hj0 e;subst e;obtain⟨cs,t,fr,hj⟩:=hj0;obtain⟨es,cl,hh,_⟩:=hf;rw [hh] at hj;cases hj
 have hput:∀ (j:Nat) (cs:Array Value) (t:TypeId) (fr:Nat×Nat),Y.heap[j]?=some (Obj.cells cs t fr)->(Y.putObj mb o).heap[j]?=some (Obj.cells cs t fr):=fun j cs t fr hj=>(zl (hne j ⟨_,_,_,hj⟩)).trans hj;have bV:Bw w (Y.putObj mb o):=jh hb hmb o;refine⟨_,_,hrun,k _ ⟨hput _ _ _ _ h.f,⟨_,hm,fun s=>?_⟩,fun s=>jJ (fun _=>hr) fun _=>h.w s,hv.below bV,hT.below bV⟩ bV hput⟩;unfold qx;by_cases hs:s=nq
 ·rw [Gz hs,Gz hs];rfl
 ·rw [Gy hs,Gy hs];exact hg s
structure HoM (w:Wd) (ls:List LineD) (p:OA) (cap:Nat) (x:ExD) (q:OA) (c L:Nat) (X:Wd):Prop where
 m:X.heap[L]?=some (.cells #[.slice p ls.length cap] 47 (0,0))
 e:ExH X (L+1) x q c
 b:Bw w X
theorem HoM.below (h:HoM w ls p cap x q c L X) (hb:Bw X Y):HoM w ls p cap x q c L Y:=⟨zb hb h.m,zb hb h.e,h.b.trans (hb.mono h.b.size)⟩
theorem zh2 (hg:GlobK w) (hM:LinsM zbI w p ls) (hlen:ls.length<=140737488351232) (hv:ExV w x q) (hT:Tz64M w) (hval:∀ bb mb,∀ l∈ls,VT l.term->zrc x q c bb mb l.term) (hirr:∀ l∈ls,l.kind=2->zxD) :
  CB 29 #[.agg #[.slice p ls.length cap],.agg (exC x q c).toArray] w (.tuple #[.bool (zdw ls x).1,zu (zdw ls x).2.1,i64 (zdw ls x).2.2]):=by
 refine qa 61 [.agg #[.slice p ls.length cap],.agg (exC x q c).toArray] (.c .p (.c (.s .p .p) (.c .p (.s (.s .p (.b (.l (.s .p (.s .p (.s (.b (.c .p (.c .p (.s .p (.c (.s .p (.b .p)) (.s .p .p)))))) .p)))))) .p)))) Tryz.func29 ?_;obtain⟨L,hL⟩:=nm (w.heap.size);refine⟨Unit,fun _=>⟨[(2,At0 L),(3,At0 (L+1))],[]⟩,fun _ X=>HoM w ls p cap x q c L X,?_,?_⟩
 ·obtain⟨W1,e1⟩:=nm (w.alloc (.cells #[.slice p ls.length cap] 47));have n1:W1.heap.size=L+1:=by rw [e1,hL];exact wz _ _
  have f1:W1.heap[L]?=some (.cells #[.slice p ls.length cap] 47 (0,0)):=by rw [e1,hL];exact zz w _
  have b1:Bw w W1:=by rw [e1];exact zba _ _
  obtain⟨W2,e2⟩:=nm (W1.alloc (.cells (exC x q c).toArray 37));have f2:ExH W2 (L+1) x q c:=by rw [e2,<- n1];exact zz W1 _
  have b2:Bw W1 W2:=by rw [e2];exact zba _ _
  have key:HoM w ls p cap x q c L W2:=⟨zb b2 f1,f2,zst b1 b2⟩;rw [e2,e1] at key;refine⟨(),⟨.cons (by rw [hL];rfl) (.cons ?_ .nil),rfl⟩,key⟩;show some (At0 (w.alloc (.cells #[.slice p ls.length cap] 47)).heap.size)=_;rw [wz,hL]
 rintro _ X hX;have no:((jN ls).isSome&&zS x)=false->zdw ls x=(false,[],2):=fun h=>by unfold zdw zhF;rw [h];rfl
 refine⟨Unit,fun _=>⟨[(2,At0 L),(3,At0 (L+1))],[]⟩,fun _ X=>HoM w ls p cap x q c L X/\(jN ls).isSome=true/\zS x=true,?_,?_⟩
 ·refine⟨_,rfl,za hX.m,hlt hX.m,cmo (zh1 (cap:=cap) (hg.below hX.b) (hM.below hX.b) hlen) ?_⟩;rintro e Y ⟨rfl,bY⟩;have hY:=hX.below bY;refine biE (fun h=>?_) fun h=>?_
  ·have h:(!(jN ls).isSome)=true:=h;refine brT ?_;rw [no (by rw [zkz h];rfl)];exact⟨rfl,hY.b⟩
  ·have h:(!(jN ls).isSome)=false:=h;refine⟨exC x q c,zI _ _ _,za hY.e,hlt hY.e,cmo (zch (hv.below hY.b) (hT.below hY.b)) ?_⟩;rintro e Z ⟨rfl,bZ⟩;have hZ:=hY.below bZ;refine biE (fun h2=>?_) fun h2=>?_
   ·have h2:(!zS x)=true:=h2;rw [no (by rw [zkz h2,Uk])];exact⟨rfl,hZ.b⟩
   ·have h2:(!zS x)=false:=h2;exact⟨(),(cvE rfl rfl),hZ,zky h,zky h2⟩
 clear hX X;rintro _ X ⟨hX,hsome,hright⟩;have hkinds:=zml hsome;have hres:zdw ls x=((jo x (qb x) ls).1,(jo x (qb x) ls).2,0):=by
  unfold zdw zhF;rw [hsome,hright];rfl
 rw [hres];obtain⟨R,hR⟩:=nm (jo x (qb x) ls);rw [<- hR];refine⟨Nat×Nat,fun y=>⟨[(2,At0 L),(7,At0 y.1)],[]⟩,fun y X=>HoM w ls p cap x q c L X/\w.heap.size<=y.2/\WldH x q c y.1 y.2 (qb x) X,?_,?_⟩
 ·refine⟨exC x q c,zI _ _ _,za hX.e,hlt hX.e,cmo (zl7 (hv.below hX.b) (hT.below hX.b)) ?_⟩;rintro e Y ⟨bb,mb,rfl,h1,h2,f1,m1,b1⟩;have hY:=hX.below b1;exact⟨(bb,mb),(cvE rfl rfl),hY,UU hX.b.size h2,f1,⟨_,m1,zpY⟩,zoe hv hT,hv.below hY.b,hT.below hY.b⟩
 clear hX X;rintro⟨bb,mb⟩ X ⟨hX,hmb,hW⟩;dsimp only at hmb hW ⊢;refine⟨_,zc (za hX.m) (i:=0) rfl,Nat×(Bs->RelD),fun y=>⟨[(2,At0 L),(7,At0 bb),(23,.slice p ls.length cap),(24,i64 (ls.length:Nat)),(25,.int .i64 (y.1:Nat))],[]⟩,fun y X=>HoM w ls p cap x q c L X/\WldH x q c bb mb y.2 X/\y.1<=ls.length/\R=jo x y.2 (ls.drop y.1),fun y=>ls.length-y.1,(0,qb x),(cvE rfl rfl),⟨hX,hW,Gg _,hR⟩,?_⟩;clear hX hW hR hres X;rintro⟨i,g⟩ X ⟨hX,hW,hi,hR⟩;dsimp only at hW hi hR ⊢;refine biE (fun hc=>?_) fun hc=>?_
 ·have hc:(i:Int)<(ls.length:Int):=dT hc;have hil:i<ls.length:=by omega
  rw [Jo hil,jo] at hR;obtain⟨u,hu⟩:=nm (ls[i]);have hum:u∈ls:=by rw [hu];exact gM hil
  rw [<- hu] at hR;obtain⟨k3,kn,kv⟩:=hkinds u hum;obtain⟨b1,o1,q1,c1,rfl,e1,s1,_,_,m1,kk⟩:=(hM.below hX.b).line hil;rw [<- hu] at e1 m1 kk;refine⟨Nat,fun b9=>⟨[(2,At0 L),(7,At0 bb),(9,At0 b9),(23,.slice (some ⟨b1,o1,none⟩) ls.length cap),(24,i64 (ls.length:Nat)),(25,.int .i64 (i:Nat))],[]⟩,fun b9 Y=>HoM w ls (some ⟨b1,o1,none⟩) cap x q c L Y/\WldH x q c bb mb g Y/\Y.heap[b9]?=some (.cells (zC u.kind u.name u.term q1 c1).toArray 49 (0,0))/\KidsT zbI Y q1 u.term.kids,?_,?_⟩
  ·exact⟨i,rfl,hil,_,rfl,e1,s1,zn (X:=X) (v := .agg (zC u.kind u.name u.term q1 c1).toArray) k49 rfl rfl rfl fun Y hbY fY sY=>⟨X.heap.size,(cvE rfl rfl),hX.below hbY,hW.below hbY,fY,kk.kept hbY⟩⟩
  clear hX hW e1 s1 kk X;rintro b9 X ⟨hX,hW,fx,kk⟩;obtain⟨v,hv'⟩:∃ v,v=valT x g u.term:=⟨_,rfl⟩;rw [<- hv'] at hR;refine⟨Nat,fun b10=>⟨[(2,At0 L),(7,At0 bb),(9,At0 b9),(10,At0 b10),(23,.slice (some ⟨b1,o1,none⟩) ls.length cap),(24,i64 (ls.length:Nat)),(25,.int .i64 (i:Nat))],[]⟩,fun b10 Y=>HoM w ls (some ⟨b1,o1,none⟩) cap x q c L Y/\WldH x q c bb mb g Y/\Y.heap[b9]?=some (.cells (zC u.kind u.name u.term q1 c1).toArray 49 (0,0))/\zN Y b10 v/\zG v.to,?_,?_⟩
  ·have t1:zw X ⟨b9,0+2,none⟩ (zf u.term q1 c1):=jD (o:=2) (n:=3) fx;refine⟨_,rfl,t1,hlt fx,cmo (hval bb mb u hum kv hW kk m1) ?_⟩;rintro e Y ⟨rfl,bY,hw⟩;rw [<- hv'] at hw ⊢;exact zn (X:=Y) (v := .agg (zd v).toArray) k30 (ze _) (by kernel_rfl) (zD _) fun Z hbZ fZ sZ=>⟨Y.heap.size,(cvE rfl rfl),(hX.below bY).below hbZ,(hW.below bY).below hbZ,zb hbZ (zb bY fx),fZ,hw⟩
  clear hX hW fx kk X;rintro b10 X ⟨hX,hW,fx,fv,hw⟩;refine⟨Bool×(Bs->RelD),fun y=>⟨[(2,At0 L),(7,At0 bb),(9,At0 b9),(11,.bool y.1),(23,.slice (some ⟨b1,o1,none⟩) ls.length cap),(24,i64 (ls.length:Nat)),(25,.int .i64 (i:Nat))],[]⟩,fun y Y=>HoM w ls (some ⟨b1,o1,none⟩) cap x q c L Y/\WldH x q c bb mb y.2 Y/\Y.heap[b9]?=some (.cells (zC u.kind u.name u.term q1 c1).toArray 49 (0,0))/\R=(if y.1=true then jo x y.2 (ls.drop (i+1)) else (false,u.name)),?_,?_⟩
  ·refine⟨_,zc (za fx) (i:=0) rfl,biE (fun h0=>?_) fun h0=>?_⟩
   ·have h0:((u.kind:Nat):Int)=0:=dT h0;rw [Gz (by omega)] at hR;have bd:=(Gj X.heap.size X).drew;exact DrawE.ord [7] [0,1,2,3,4,5,6,7] (by kernel_rfl) ⟨_,zc (za (hdr hW.f)) (i:=334) (zg1 x q c mb),_,zc (za (hdr fx)) (i:=1) rfl,zd v,ze _,za (hdr fv),hlt (hdr fv),WldH.put (hW.below bd) hv hT hX.b.drew hmb u.name hw fun V hV bV keep=>⟨(true,qx g u.name v),(cvE rfl rfl),⟨keep _ _ _ _ (hdr hX.m),keep _ _ _ _ (hdr hX.e),bV⟩,hV,keep _ _ _ _ (hdr fx),hR⟩⟩
   have h0:¬ ((u.kind:Nat):Int)=0:=dF h0;rw [Gy (by omega)] at hR;refine biE (fun h1=>?_) fun h1=>?_
   ·have h1:((u.kind:Nat):Int)=1:=dT h1;rw [Gz (by omega:u.kind=1)] at hR;refine⟨zd v,ze _,za fv,hlt fv,cmo (zc3 hw (hW.t)) ?_⟩;rintro e Y ⟨rfl,bY⟩;exact⟨(jg v,g),(cvE rfl rfl),hX.below bY,hW.below bY,zb bY fx,by rw [hR]⟩
   have h1:¬ ((u.kind:Nat):Int)=1:=dF h1;rw [Gy (by omega:¬ u.kind=1)] at hR;refine biE (fun h2=>?_) fun h2=>?_
   ·have h2:((u.kind:Nat):Int)=2:=dT h2;rw [Gz (by omega:u.kind=2)] at hR;refine⟨zd v,ze _,za fv,hlt fv,cmo (hirr u hum (by omega) hw) ?_⟩;rintro e Y ⟨rfl,bY⟩;exact⟨(zut v,g),(cvE rfl rfl),hX.below bY,hW.below bY,zb bY fx,by rw [hR]⟩
   have h2:¬ ((u.kind:Nat):Int)=2:=dF h2;rw [Gy (by omega:¬ u.kind=2)] at hR;refine biE (fun h3=>?_) fun h3=>?_
   ·refine⟨zd v,ze _,za fv,hlt fv,cmo (znN hw) ?_⟩;rintro e Y ⟨rfl,bY⟩;exact⟨(zaS v,g),(cvE rfl rfl),hX.below bY,hW.below bY,zb bY fx,by rw [hR]⟩
   ·have h3:¬ ((u.kind:Nat):Int)=3:=dF h3;omega
  clear hX hW fx fv hR X;rintro⟨ok,g2⟩ X ⟨hX,hW,fx,hR⟩;dsimp only at hW hR ⊢;refine biE (fun h=>?_) fun h=>?_
  ·have h:(!ok)=true:=h;rw [zkz h,Gy (by decide)] at hR;refine DrawE.ord [] [0,1,2,3,4] (by kernel_rfl) ⟨_,zc (za (hdr fx)) (i:=1) rfl,?_⟩;rw [hR];exact⟨rfl,hX.b.drew⟩
  ·have h:(!ok)=false:=h;rw [zky h,Gz rfl] at hR;exact nxI (by omega) ⟨(i+1,g2),(cvE rfl rfl),⟨hX,hW,hil,hR⟩,zdc (by omega)⟩
 ·have hc:¬ (i:Int)<(ls.length:Int):=dF hc;rw [JA (by omega),jo] at hR;rw [hR];exact⟨rfl,hX.b⟩
end
section
variable {n:Nat} {w:Wd} {r:RelD}
theorem RelOk.idr (h:n<=48) (s:Nat):RelOk n (idR n s) := .of rfl h (fun i j hi hb=>by
  unfold idR at hb;rw [zaz,bAT,dE,Ud,Kn,bAT,dE] at hb;obtain⟨h1,_,h2⟩:=hb;omega) (za0 fun i _ h=>KE Qx (z6 (by omega)))
end
def inS (rd wr fe:Bool) (m:UInt8) (th:Int) (s:Bs):Bool :=
 if s=[82] then rd
 else if s=[87] then wr
 else if s=[70] then fe
 else if s=[77] then rd||wr
 else if s=[65] then rd&&(decide (m=1)||decide (m=3))
 else if s=[76] then wr&&(decide (m=2)||decide (m=3))
 else if s=[88] then (rd||wr)&&decide (m=3)
 else if s=[70,70] then fe&&decide (m=3)
 else if s=[70,76] then fe&&decide (m=4)
 else if s=[70,83] then fe&&decide (m=5)
 else if s=[73] then decide (th = -1)
 else false
theorem zuv (e:Ev) (s:Bs):zaZ e s=inS (decide (e.k=1)) (decide (e.k=2)) (decide (e.k=3)) e.m e.th s:=rfl
section
variable {w:Wd} {e:Ev} {s:Bs}
theorem zo1:Calls PG 149 #[.agg (evE.enc e).toArray,zu s] w fun r w'=>r = .returned (.bool (zaZ e s))/\Bw w w':=by
 refine qa 99 [.agg (evE.enc e).toArray,zu s] (.c .p (.c .p .p)) Tryz.func149 ?_;rw [zuv];obtain⟨L,hL⟩:=nm (w.heap.size);refine⟨Unit,fun _=>⟨[(1,zu s),(2,At0 L)],[]⟩,fun _ X=>X.heap[L]?=some (.cells (evE.enc e).toArray 158 (0,0))/\Bw w X,⟨(),⟨.cons rfl (.cons (by rw [hL];rfl) .nil),rfl⟩,by rw [hL];exact zz w _,zba _ _⟩,?_⟩;rintro _ X ⟨f,hb⟩;obtain⟨rd,hrd⟩:=nm (decide (e.k=1));obtain⟨wr,hwr⟩:=nm (decide (e.k=2));obtain⟨fe,hfe⟩:=nm (decide (e.k=3));rw [<- hrd,<- hwr,<- hfe];refine⟨Unit,fun _=>⟨[(1,zu s),(2,At0 L),(5,.bool rd),(6,.bool wr),(7,.bool fe)],[]⟩,fun _ X=>X.heap[L]?=some (.cells (evE.enc e).toArray 158 (0,0))/\Bw w X,?_,?_⟩
 ·refine DrawE.ord [] [0,1,2,3,4,5,6,7,8,9,10,11] (by kernel_rfl) ⟨u8 e.k,zc (za (hdr f)) (i:=1) rfl,u8 e.k,zc (za (hdr f)) (i:=1) rfl,u8 e.k,zc (za (hdr f)) (i:=1) rfl,?_⟩;have c1:decide ((e.k.toNat:Int)=1)=rd:=by rw [hrd];exact jb e.k 1
  have c2:decide ((e.k.toNat:Int)=2)=wr:=by rw [hwr];exact jb e.k 2
  have c3:decide ((e.k.toNat:Int)=3)=fe:=by rw [hfe];exact jb e.k 3
  exact⟨(),⟨.cons rfl (.cons rfl (.cons (Gs (fun b=>some (Value.bool b)) c1) (.cons (Gs (fun b=>some (Value.bool b)) c2) (.cons (Gs (fun b=>some (Value.bool b)) c3) .nil)))),rfl⟩,hdr f,hb.drew⟩
 clear f hb X;rintro _ X ⟨f,hb⟩;have m1:decide ((e.m.toNat:Int)=1)=decide (e.m=1):=jb e.m 1;have m2:decide ((e.m.toNat:Int)=2)=decide (e.m=2):=jb e.m 2;have m3:decide ((e.m.toNat:Int)=3)=decide (e.m=3):=jb e.m 3;have m4:decide ((e.m.toNat:Int)=4)=decide (e.m=4):=jb e.m 4;have m5:decide ((e.m.toNat:Int)=5)=decide (e.m=5):=jb e.m 5;refine⟨_,fun w=>zF _ _ s [82] w,biE (fun h=>?_) fun h=>?_⟩
 ·obtain rfl:s=[82]:=dT h;exact⟨rfl,hb⟩
 have h0:¬ s=[82]:=dF h;clear h;refine⟨_,fun w=>zF _ _ s [87] w,biE (fun h=>?_) fun h=>?_⟩
 ·obtain rfl:s=[87]:=dT h;exact⟨rfl,hb⟩
 have h1:¬ s=[87]:=dF h;clear h;refine⟨_,fun w=>zF _ _ s [70] w,biE (fun h=>?_) fun h=>?_⟩
 ·obtain rfl:s=[70]:=dT h;exact⟨rfl,hb⟩
 have h2:¬ s=[70]:=dF h;clear h;refine⟨_,fun w=>zF _ _ s [77] w,biE (fun h=>?_) fun h=>?_⟩
 ·obtain rfl:s=[77]:=dT h;refine biE (fun k=>?_) fun k=>?_
  ·have k:rd=true:=k;exact⟨rb (by show _=(rd||wr);rw [k];rfl),hb⟩
  ·have k:rd=false:=k;exact⟨rb (by show _=(rd||wr);rw [k];rfl),hb⟩
 have h3:¬ s=[77]:=dF h;clear h;refine⟨_,fun w=>zF _ _ s [65] w,biE (fun h=>?_) fun h=>?_⟩
 ·obtain rfl:s=[65]:=dT h;refine biE (fun k=>?_) fun k=>?_
  ·have k:rd=true:=k;refine⟨u8 e.m,zc (za f) (i:=4) rfl,biE (fun q=>?_) fun q=>?_⟩
   ·have q:decide (e.m=1)=true:=m1.symm.trans q;exact⟨rb (by show _=(rd&&(decide (e.m=1)||decide (e.m=3)));rw [k,q];rfl),hb⟩
   ·have q:decide (e.m=1)=false:=m1.symm.trans q;exact⟨u8 e.m,zc (za f) (i:=4) rfl,rb (by show _=(rd&&(decide (e.m=1)||decide (e.m=3)));rw [k,q,<- m3];rfl),hb⟩
  ·have k:rd=false:=k;exact⟨rb (by show _=(rd&&(decide (e.m=1)||decide (e.m=3)));rw [k];rfl),hb⟩
 have h4:¬ s=[65]:=dF h;clear h;refine⟨_,fun w=>zF _ _ s [76] w,biE (fun h=>?_) fun h=>?_⟩
 ·obtain rfl:s=[76]:=dT h;refine biE (fun k=>?_) fun k=>?_
  ·have k:wr=true:=k;refine⟨u8 e.m,zc (za f) (i:=4) rfl,biE (fun q=>?_) fun q=>?_⟩
   ·have q:decide (e.m=2)=true:=m2.symm.trans q;exact⟨rb (by show _=(wr&&(decide (e.m=2)||decide (e.m=3)));rw [k,q];rfl),hb⟩
   ·have q:decide (e.m=2)=false:=m2.symm.trans q;exact⟨u8 e.m,zc (za f) (i:=4) rfl,rb (by show _=(wr&&(decide (e.m=2)||decide (e.m=3)));rw [k,q,<- m3];rfl),hb⟩
  ·have k:wr=false:=k;exact⟨rb (by show _=(wr&&(decide (e.m=2)||decide (e.m=3)));rw [k];rfl),hb⟩
 have h5:¬ s=[76]:=dF h;clear h;refine⟨_,fun w=>zF _ _ s [88] w,biE (fun h=>?_) fun h=>?_⟩
 ·obtain rfl:s=[88]:=dT h;refine biE (fun k=>?_) fun k=>?_
  ·have k:rd=true:=k;exact brT ⟨u8 e.m,zc (za f) (i:=4) rfl,rb (by show _=((rd||wr)&&decide (e.m=3));rw [k,<- m3];rfl),hb⟩
  ·have k:rd=false:=k;refine biE (fun q=>?_) fun q=>?_
   ·have q:wr=true:=q;exact⟨u8 e.m,zc (za f) (i:=4) rfl,rb (by show _=((rd||wr)&&decide (e.m=3));rw [k,q,<- m3];rfl),hb⟩
   ·have q:wr=false:=q;exact⟨rb (by show _=((rd||wr)&&decide (e.m=3));rw [k,q];rfl),hb⟩
 have h6:¬ s=[88]:=dF h;clear h;refine⟨_,fun w=>zF _ _ s [70,70] w,biE (fun h=>?_) fun h=>?_⟩
 ·obtain rfl:s=[70,70]:=dT h;refine biE (fun k=>?_) fun k=>?_
  ·have k:fe=true:=k;exact⟨u8 e.m,zc (za f) (i:=4) rfl,rb (by show _=(fe&&decide (e.m=3));rw [k,<- m3];rfl),hb⟩
  ·have k:fe=false:=k;exact⟨rb (by show _=(fe&&decide (e.m=3));rw [k];rfl),hb⟩
 have h7:¬ s=[70,70]:=dF h;clear h;refine⟨_,fun w=>zF _ _ s [70,76] w,biE (fun h=>?_) fun h=>?_⟩
 ·obtain rfl:s=[70,76]:=dT h;refine biE (fun k=>?_) fun k=>?_
  ·have k:fe=true:=k;exact⟨u8 e.m,zc (za f) (i:=4) rfl,rb (by show _=(fe&&decide (e.m=4));rw [k,<- m4];rfl),hb⟩
  ·have k:fe=false:=k;exact⟨rb (by show _=(fe&&decide (e.m=4));rw [k];rfl),hb⟩
 have h8:¬ s=[70,76]:=dF h;clear h;refine⟨_,fun w=>zF _ _ s [70,83] w,biE (fun h=>?_) fun h=>?_⟩
 ·obtain rfl:s=[70,83]:=dT h;refine biE (fun k=>?_) fun k=>?_
  ·have k:fe=true:=k;exact⟨u8 e.m,zc (za f) (i:=4) rfl,rb (by show _=(fe&&decide (e.m=5));rw [k,<- m5];rfl),hb⟩
  ·have k:fe=false:=k;exact⟨rb (by show _=(fe&&decide (e.m=5));rw [k];rfl),hb⟩
 have h9:¬ s=[70,83]:=dF h;clear h;refine⟨_,fun w=>zF _ _ s [73] w,biE (fun h=>?_) fun h=>?_⟩
 ·obtain rfl:s=[73]:=dT h;exact⟨i64 e.th,zc (za f) (i:=0) rfl,rfl,hb⟩
 have h10:¬ s=[73]:=dF h;clear h;refine⟨rb ?_,hb⟩;unfold inS;rw [Gy h0,Gy h1,Gy h2,Gy h3,Gy h4,Gy h5,Gy h6,Gy h7,Gy h8,Gy h9,Gy h10]
end
section
variable {x:ExD} {q:OA} {c bb mb:Nat} {g:Bs->RelD} {w Y Z:Wd}
def zcj (x:ExD) (s:Bs) (i:Nat):Bool:=match x.ev[i]? with | some e=>zaZ e s | none=>false
theorem zrI (x:ExD) (s:Bs):zdJ x s=orG ((List.range x.ev.length).filter (zcj x s)):=rfl
theorem ztZ (hW:WldH x q c bb mb g w) (s:Bs):CB 102 #[At0 bb,zu s] w (s64 (zdJ x s)):=by
 refine qa 35 [At0 bb,zu s] (.s .p (.s .p (.s (.s .p (.b (.l (.s .p (.s .p (.s (.b (.c .p (.c .p .p))) .p)))))) .p))) Tryz.func102 ?_;have hn:=hW.v.n;refine⟨_,zc (za hW.f) (i:=0) (v := .slice q x.ev.length c) rfl,Nat×OA×Nat,fun y=>⟨[(0,At0 bb),(1,zu s),(5,.slice y.2.1 ((List.range y.1).filter (zcj x s)).length y.2.2),(14,.slice q x.ev.length c),(15,i64 (x.ev.length:Nat)),(16,.int .i64 (y.1:Nat))],[]⟩,fun y X=>OwnS zE 3 w.heap.size X y.2.1 y.2.2 ((List.range y.1).filter (zcj x s))/\Bw w X/\y.1<=x.ev.length,fun y=>x.ev.length-y.1,(0,none,0),(cvE rfl rfl),⟨OwnS.nil,Gj _ _,Gg _⟩,?_⟩;rintro⟨i,p,cp⟩ X ⟨ho,hb,hi⟩;dsimp only at ho hi ⊢;have hl:((List.range i).filter (zcj x s)).length<=i:=UU (JL _ _) (by rw [KV];exact Ge _);refine biE (fun hc=>?_) fun hc=>?_
 ·have hc:(i:Int)<(x.ev.length:Int):=dT hc;have hil:i<x.ev.length:=by omega
  obtain⟨b,o,rfl,hbl,hev⟩:=zcd (hW.v.ev.below hb) hil;obtain⟨e,he⟩:=nm (x.ev.getD i ev0);rw [<- he] at hev;have hm:zcj x s i=zaZ e s:=by
   unfold zcj;rw [he,gDe,gE hil];rfl
  refine⟨Nat,fun b7=>⟨[(0,At0 bb),(1,zu s),(5,.slice p ((List.range i).filter (zcj x s)).length cp),(6,i64 (i:Nat)),(7,At0 b7),(14,.slice (some ⟨b,o,none⟩) x.ev.length c),(15,i64 (x.ev.length:Nat)),(16,.int .i64 (i:Nat))],[]⟩,fun b7 V=>V.heap[b7]?=some (.cells (evE.enc e).toArray 158 (0,0))/\OwnS zE 3 w.heap.size V p cp ((List.range i).filter (zcj x s))/\Bw w V,?_,?_⟩
  ·exact⟨i,rfl,hil,evE.enc e,rfl,hev,hbl,zn (X:=X) (v := .agg (evE.enc e).toArray) zd3 rfl rfl rfl fun V hbV fV sV=>⟨X.heap.size,(cvE rfl rfl),fV,ho.below hbV,zst hb hbV⟩⟩
  clear ho hb hev hbl X;rintro b7 X ⟨f7,ho,hb⟩;refine⟨Bool,fun v=>⟨[(0,At0 bb),(1,zu s),(5,.slice p ((List.range i).filter (zcj x s)).length cp),(6,i64 (i:Nat)),(14,.slice (some ⟨b,o,none⟩) x.ev.length c),(15,i64 (x.ev.length:Nat)),(16,.int .i64 (i:Nat)),(23,.bool v)],[]⟩,fun v V=>v=zaZ e s/\OwnS zE 3 w.heap.size V p cp ((List.range i).filter (zcj x s))/\Bw w V,?_,?_⟩
  ·refine⟨evE.enc e,rfl,za f7,hlt f7,cmo (zo1 (e:=e) (s:=s)) ?_⟩;rintro r V ⟨rfl,bV⟩;exact⟨zaZ e s,(cvE rfl rfl),rfl,ho.below bV,zst hb bV⟩
  clear f7 ho hb X;rintro v X ⟨hv,ho,hb⟩;have hsz:=hb.size;refine biE (fun h=>?_) fun h=>?_
  ·have h:v=true:=h;have hmt:zcj x s i=true:=by rw [hm,<- hv,h]
   have er:(List.range (i+1)).filter (zcj x s)=(List.range i).filter (zcj x s)++[i]:=by
    rw [QY,Kv,Qn,hmt];rfl
   refine⟨⟨by decide,by decide,rfl⟩,zE.enc i,rfl,?_⟩;have hba:Bw X (X.alloc (.cells (zE.enc i).toArray 3)):=zba _ _;have sa:(X.alloc (.cells (zE.enc i).toArray 3)).heap.size=X.heap.size+1:=wz _ _;refine jr (E:=zE) (T:=3) (B:=w.heap.size) (l:=(List.range i).filter (zcj x s)) (news:=[i]) (cap:=cp) (m:=1) Tryz.underlying128 k3 rfl rfl rfl (ho.below hba) rfl (qH zE i) (by omega) (by omega) (by show (((List.range i).filter (zcj x s)).length+1)*8<=_;omega) ?_;intro p2 c2 V oV gV hbV hat;exact nxI (by omega) ⟨(i+1,p2,c2),⟨.cons rfl (.cons rfl (.cons (by show _=some (Value.slice p2 ((List.range (i+1)).filter (zcj x s)).length c2);rw [er];rfl) (.cons rfl (.cons rfl (.cons rfl .nil))))),rfl⟩,⟨by show OwnS _ _ _ _ _ _ ((List.range (i+1)).filter (zcj x s));rw [er];exact oV,(zst hb hba).trans hbV,hil⟩,zdc (by omega)⟩
  ·have h:v=false:=h;have hmt:zcj x s i=false:=by rw [hm,<- hv,h]
   have er:(List.range (i+1)).filter (zcj x s)=(List.range i).filter (zcj x s):=by
    rw [QY,Kv,Qn,hmt];simp
   exact nxI (by omega) ⟨(i+1,p,cp),⟨.cons rfl (.cons rfl (.cons (by show _=some (Value.slice p ((List.range (i+1)).filter (zcj x s)).length cp);rw [er];rfl) (.cons rfl (.cons rfl (.cons rfl .nil))))),rfl⟩,⟨by show OwnS _ _ _ _ _ _ ((List.range (i+1)).filter (zcj x s));rw [er];exact ho,hb,hil⟩,zdc (by omega)⟩
 ·have hc:¬ (i:Int)<(x.ev.length:Int):=dF hc;obtain rfl:i=x.ev.length:=by omega
  refine cmo (zwU (p:=p) (cp:=cp) ho.row (fun a ha=>?_) (by omega)) ?_
  ·have:=Ur.1 (QV.1 ha).1;omega
  rintro e Y ⟨rfl,h⟩;subst h;exact⟨rfl,hb⟩
end
section
variable {ra rb:RelD} {w:Wd}
theorem zth {ba bb i:Nat} (fa:w.heap[ba]?=some (.cells (zd ra).toArray 30 (0,0))) (fb:w.heap[bb]?=some (.cells (zd rb).toArray 30 (0,0))) (ha:zG ra.to) (hb:zG rb.to) (hi:i<48) :
  CB 56 (i64 (i:Nat)::[At0 ba,At0 bb]).toArray w (s64 (zao (ra.to i) (rb.to i))):=by
 refine zJ 14 (i64 (i:Nat)::[At0 ba,At0 bb]) Tryz.func56 ?_;refine DrawE.ord [] [0,1,2,3,4,5,6,7,8,9] (by kernel_rfl) ?_;have hd:Bw w w.drew:=(Gj _ w).drew;exact⟨i,rfl,hi,_,zag (hdr fa) hi,i,rfl,hi,_,zag (hdr fb) hi,_,zbZ (ha i hi) (hb i hi),rfl,hd⟩
theorem zvq (ha:zG ra.to) (hb:zG rb.to):CB 17 #[.agg (zd ra).toArray,.agg (zd rb).toArray] w (.tuple #[.agg (zd (zdU ra rb).1).toArray,i64 (zdU ra rb).2]):=by
 refine qa 10 [.agg (zd ra).toArray,.agg (zd rb).toArray] (.c .p .p) Tryz.func17 ?_;obtain⟨L,hL⟩:=nm (w.heap.size);refine⟨Unit,fun _=>⟨[(2,At0 L),(3,At0 (L+1)),(4,At0 (L+2)),(5,i64 0)],[]⟩,fun _ X=>X.heap[L]?=some (.cells (zd ra).toArray 30 (0,0))/\X.heap[L+1]?=some (.cells (zd rb).toArray 30 (0,0))/\X.heap[L+2]?=some (.cells (zd zp).toArray 30 (0,0))/\Bw w X,?_,?_⟩
 ·have s1:=wz w (.cells (zd ra).toArray 30);have s2:=wz (w.alloc (.cells (zd ra).toArray 30)) (.cells (zd rb).toArray 30);have h2:=zz (w.alloc (.cells (zd ra).toArray 30)) (.cells (zd rb).toArray 30);have h3:=zz ((w.alloc (.cells (zd ra).toArray 30)).alloc (.cells (zd rb).toArray 30)) (.cells (zd zp).toArray 30);rw [s1] at s2 h2;rw [s2] at h3;refine⟨(),⟨.cons (by rw [hL];rfl) (.cons (by rw [hL,<- s1];rfl) (.cons (by rw [hL,<- s2];rfl) (.cons rfl .nil))),rfl⟩,?_,?_,?_,?_⟩
  ·rw [hL];exact qm _ (qm _ (zz w _))
  ·rw [hL];exact qm _ h2
  ·rw [hL];exact h3
  ·exact (((zba w _)).alloc (by simp) _).alloc (by simp;omega) _
 rintro _ X ⟨f0,f1,f2,hbX⟩;refine cmo (zer (row:=fun i=>zao (ra.to i) (rb.to i)) f0 f1 ha hb (by kernel_rfl) (fun e h1 h2 i Y hi hbY=>?_)) ?_
 ·have h48:=(qT h1).2.1;exact zth (zb hbY f0) (zb hbY f1) ha hb (by omega)
 rintro e Y ⟨rfl,hbY⟩;exact zr (v := .agg (zd (zdU ra rb).1).toArray) k30 (zb hbY f2) rfl rfl (zD _) ⟨zd (zdU ra rb).1,ze _,za (zm (zb hbY f2)),rfl,zj ((zst hbX hbY)) (by omega) _⟩
end
section
variable {x:ExD} {q p:OA} {c cap bb mb L:Nat} {g:Bs->RelD} {w X Y:Wd} {t:Trm} {kids:List Trm} {r:RelD}
theorem zpf (h:0<kids.length):valH x g kids=valT x g kids[0]:=by
 cases kids with
 | nil=>exact GA h (by decide)
 | cons a l=>rw [valH];rfl
theorem zpe (h:1<kids.length):valS x g kids=valT x g kids[1]:=by
 cases kids with
 | nil=>exact GA h (by decide)
 | cons a l=>cases l with
  | nil=>exact GA (show 1<1 from h) (by decide)
  | cons b l=>rw [valS,valH];rfl
theorem zp2:∀ n:Nat,n<10->n≠1->n≠9->∀ len:Nat,(len:Int)=jG n->0<len/\(n≠6->n≠7->n≠8->1<len/\(n=2\/n=3\/n=4\/n=5))
 | 0,_,_,_,len,h=>by have:jG 0 = -1:=rfl;omega
 | 1,_,h,_,_,_=>GA rfl h
 | 2,_,_,_,len,h=>by have:jG 2=2:=rfl;omega
 | 3,_,_,_,len,h=>by have:jG 3=2:=rfl;omega
 | 4,_,_,_,len,h=>by have:jG 4=2:=rfl;omega
 | 5,_,_,_,len,h=>by have:jG 5=2:=rfl;omega
 | 6,_,_,_,len,h=>by have:jG 6=1:=rfl;omega
 | 7,_,_,_,len,h=>by have:jG 7=1:=rfl;omega
 | 8,_,_,_,len,h=>by have:jG 8=1:=rfl;omega
 | 9,_,_,h,_,_=>GA rfl h
 | n+10,h,_,_,_,_=>GA h (by omega)
structure VaB (x:ExD) (q:OA) (c bb mb:Nat) (g:Bs->RelD) (w:Wd) (L:Nat) (t:Trm) (p:OA) (cap:Nat) (X:Wd):Prop where
 tm:X.heap[L]?=some (.cells (zf t p cap).toArray 24 (0,0))
 z:zN X (L+1) zp
 k:KidsT zbI X p t.kids
 wd:WldH x q c bb mb g X
 b:Bw w X
theorem VaB.below (h:VaB x q c bb mb g w L t p cap X) (hb:Bw X Y):VaB x q c bb mb g w L t p cap Y :=
 ⟨zb hb h.tm,zb hb h.z,h.k.kept hb,h.wd.below hb,zst h.b hb⟩
def zwS:Prop:=∀ {r:RelD} {Y:Wd},zG r.to->Tz64M Y->Calls PG 22 #[.agg (zd r).toArray] Y fun e w'=>e = .returned (.agg (zd (zkq r)).toArray)/\Bw Y w'/\zG (zkq r).to
def zwR:Prop:=∀ {r:RelD} {Y:Wd},zG r.to->Tz64M Y->Calls PG 23 #[.agg (zd r).toArray] Y fun e w'=>e = .returned (.agg (zd (zmR r)).toArray)/\Bw Y w'/\zG (zmR r).to
theorem ztQ {k:UInt8} {nq:Bs} (hPS:(k=7->zwS)/\(k=8->zwR)) (hv:VT (.mk k nq kids)) (ih:∀ y∈kids,zrc x q c bb mb y):zrc x q c bb mb (.mk k nq kids):=by
 intro g w p cap hW hK hl;obtain⟨hk10,hkl,_,hkv⟩:=hv.inv;refine qa 91 [At0 bb,.agg (zf (.mk k nq kids) p cap).toArray] (.c .p (.c (.s .p (.b .p)) (.c .p (.c (.s .p (.b .p)) (.c .p (.c .p (.c (.s .p (.b .p)) .p))))))) Tryz.func52 ?_;obtain⟨R,hR⟩:=nm (valT x g (.mk k nq kids));rw [<- hR];rw [valT] at hR;obtain⟨L,hL⟩:=nm (w.heap.size);have nk:∀ m:UInt8,decide ((k.toNat:Int)=(m.toNat:Int))=decide (k=m):=fun m=>jb k m;refine⟨Unit,fun _=>⟨[(0,At0 bb),(3,At0 L),(4,At0 (L+1))],[]⟩,fun _ X=>VaB x q c bb mb g w L (.mk k nq kids) p cap X,?_,?_⟩
 ·obtain⟨W1,e1⟩:=nm (w.alloc (.cells (zf (.mk k nq kids) p cap).toArray 24));have n1:W1.heap.size=L+1:=by rw [e1,hL];exact wz _ _
  have f1:W1.heap[L]?=some (.cells (zf (.mk k nq kids) p cap).toArray 24 (0,0)):=by rw [e1,hL];exact zz w _
  have b1:Bw w W1:=by rw [e1];exact zba _ _
  obtain⟨W2,e2⟩:=nm (W1.alloc (.cells (zd zp).toArray 30));have f2:zN W2 (L+1) zp:=by rw [e2,<- n1];exact zz W1 _
  have b2:Bw W1 W2:=by rw [e2];exact zba _ _
  have b12:=zst b1 b2;have key:VaB x q c bb mb g w L (.mk k nq kids) p cap W2:=⟨zb b2 f1,f2,hK.kept b12,hW.below b12,b12⟩;rw [e2,e1] at key;refine⟨(),⟨.cons rfl (.cons (by rw [hL];rfl) (.cons ?_ .nil)),rfl⟩,key⟩;show some (At0 (w.alloc (.cells (zf (.mk k nq kids) p cap).toArray 24)).heap.size)=_;rw [wz,hL]
 clear hW hK;have ret:∀ {V:Wd},VaB x q c bb mb g w L (.mk k nq kids) p cap V->zG R.to->SatR ((storeVar 30 ⟨L+1,0,none⟩ (.agg (zd R).toArray)).run PG V) fun _ w'=>∃ cells,cells.length=49/\zw w' ⟨L+1,0,none⟩ cells/\Ending.returned (.agg cells.toArray) = .returned (.agg (zd R).toArray)/\Bw w w'/\zG R.to:=fun {V} hV hw =>
  zbp hV.z (by omega) hV.b fun Z fZ bZ=>⟨zd R,ze _,za fZ,rfl,bZ,hw⟩
 rintro _ X hX;refine⟨Unit,fun _=>⟨[(0,At0 bb),(3,At0 L),(4,At0 (L+1))],[]⟩,fun _ Y=>X=Y/\k≠1/\k≠9,?_,?_⟩
 ·refine⟨_,zc (za hX.tm) (i:=0) rfl,biE (fun h1=>?_) fun h1=>?_⟩
  ·have h1:k=1:=dT ((nk 1).symm.trans h1);rw [Gz h1] at hR;rw [hR];refine DrawE.ord [7] [0,1,2,3,4,5,6,7] (by kernel_rfl) ⟨_,zc (za (hdr hX.wd.f)) (i:=334) (zg1 x q c mb),_,zc (za (hdr hX.tm)) (i:=1) rfl,_,fun w2 hb=>ztu hX.wd nq ((Gj _ X).drew.trans hb),?_⟩;have hw:=hX.wd.w nq;rw [<- hR] at hw ⊢;exact ret (hX.below (Gj _ X).drew) hw
  have h1:k≠1:=dF ((nk 1).symm.trans h1);rw [Gy h1] at hR;refine biE (fun h9=>?_) fun h9=>?_
  ·have h9:k=9:=dT ((nk 9).symm.trans h9);rw [Gz h9] at hR;have hn:=hX.wd.v.n;have bd:=(Gj X.heap.size X).drew;have hXd:=hX.below bd;have hm:zdJ x nq<2^64:=by rw [zrI];exact zl2 fun a ha=>by have:=Ur.1 (QV.1 ha).1;omega
   refine DrawE.ord [9] [0,1,2,3,4,5,6,7,8,9] (by kernel_rfl) ⟨_,zc (za hXd.wd.f) (i:=333) (ztP x q c mb),_,zc (za hXd.tm) (i:=1) rfl,cmo (ztZ hXd.wd nq) ?_⟩;rintro e V1 ⟨rfl,v1⟩;refine⟨v1,cmo (ztk (n:=x.ev.length) (s:=zdJ x nq) (by omega) hm) ?_⟩;rintro e V2 ⟨rfl,v2⟩;refine⟨v2,?_⟩;have hw:=(RelOk.idr (n:=x.ev.length) (by omega) (zdJ x nq)).w;rw [<- hR] at hw ⊢;exact ret ((hXd.below v1).below v2) hw
  ·have h9:k≠9:=dF ((nk 9).symm.trans h9);exact⟨(),(cvE rfl rfl),rfl,h1,h9⟩
 rintro _ _ ⟨rfl,h1,h9⟩;rw [Gy h1,Gy h9] at hR;have nat:∀ m:UInt8,k≠m->k.toNat≠m.toNat:=fun m h e=>h (Uh.1 e);obtain⟨hlen,hbin⟩:=zp2 k.toNat hk10 (nat 1 h1) (nat 9 h9) kids.length hkl;obtain⟨a,hae⟩:=nm (valT x g kids[0]);rw [zpf hlen,<- hae] at hR;refine⟨Nat,fun b5=>⟨[(0,At0 bb),(3,At0 L),(4,At0 (L+1)),(5,At0 b5)],[]⟩,fun b5 Y=>VaB x q c bb mb g w L (.mk k nq kids) p cap Y/\zN Y b5 a/\zG a.to,?_,?_⟩
 ·obtain⟨b,o,q2,c2,hp,hc,hbl,hnl,hkk⟩:=KidsT.kid (l:=kids) hX.k hlen;refine⟨_,zc (za hX.tm) (i:=2) (v := .slice p kids.length cap) rfl,?_⟩;subst hp;refine⟨0,rfl,hlen,_,rfl,hc,hbl,cmo (ih kids[0] (gM hlen) hX.wd hkk hnl) ?_⟩;rintro e Y ⟨rfl,bY,hw⟩;rw [<- hae] at hw ⊢;exact zn (X:=Y) (v := .agg (zd a).toArray) k30 (ze _) (by kernel_rfl) (zD _) fun Z hbZ fZ sZ=>⟨Y.heap.size,(cvE rfl rfl),(hX.below bY).below hbZ,fZ,hw⟩
 clear hX X;rintro b5 X ⟨hX,fa,ha⟩;refine⟨Unit,fun _=>⟨[(0,At0 bb),(3,At0 L),(4,At0 (L+1)),(5,At0 b5)],[]⟩,fun _ Y=>X=Y/\k≠6/\k≠7/\k≠8,?_,?_⟩
 ·refine⟨_,zc (za hX.tm) (i:=0) rfl,biE (fun h=>?_) fun h6=>?_⟩
  ·have h:k=6:=dT ((nk 6).symm.trans h);have e:R=qE a:=by rw [hR,Gz (by rw [h];decide),h];rfl
   refine⟨zd a,ze _,za fa,hlt fa,cmo (zgj ha hX.wd.t) ?_⟩;rintro e9 Y ⟨rfl,bY,hw⟩;rw [<- e] at hw ⊢;exact ret (hX.below bY) hw
  have h6:k≠6:=dF ((nk 6).symm.trans h6);refine biE (fun h=>?_) fun h7=>?_
  ·have h:k=7:=dT ((nk 7).symm.trans h);have e:R=zkq a:=by rw [hR,Gz (by rw [h];decide),h];rfl
   refine⟨zd a,ze _,za fa,hlt fa,cmo (hPS.1 h ha hX.wd.t) ?_⟩;rintro e9 Y ⟨rfl,bY,hw⟩;rw [<- e] at hw ⊢;exact ret (hX.below bY) hw
  have h7:k≠7:=dF ((nk 7).symm.trans h7);refine biE (fun h=>?_) fun h8=>?_
  ·have h:k=8:=dT ((nk 8).symm.trans h);have e:R=zmR a:=by rw [hR,Gz (by rw [h];decide),h];rfl
   refine⟨zd a,ze _,za fa,hlt fa,cmo (hPS.2 h ha hX.wd.t) ?_⟩;rintro e9 Y ⟨rfl,bY,hw⟩;rw [<- e] at hw ⊢;exact ret (hX.below bY) hw
  have h8:k≠8:=dF ((nk 8).symm.trans h8);exact⟨(),(cvE rfl rfl),rfl,h6,h7,h8⟩
 rintro _ _ ⟨rfl,h6,h7,h8⟩;rw [Gy (by rintro (h | h | h);exact h6 h;exact h7 h;exact h8 h)] at hR;obtain⟨hlen2,hk4⟩:=hbin (nat 6 h6) (nat 7 h7) (nat 8 h8);obtain⟨b',hbe⟩:∃ b',b'=valT x g kids[1]:=⟨_,rfl⟩;rw [zpe hlen2,<- hbe] at hR;refine⟨Nat,fun b6=>⟨[(0,At0 bb),(3,At0 L),(4,At0 (L+1)),(5,At0 b5),(6,At0 b6)],[]⟩,fun b6 Y=>VaB x q c bb mb g w L (.mk k nq kids) p cap Y/\zN Y b5 a/\zN Y b6 b'/\zG b'.to,?_,?_⟩
 ·obtain⟨b,o,q2,c2,hp,hc,hbl,hnl,hkk⟩:=KidsT.kid (l:=kids) hX.k hlen2;refine⟨_,zc (za hX.tm) (i:=2) (v := .slice p kids.length cap) rfl,?_⟩;subst hp;refine⟨1,rfl,hlen2,_,rfl,hc,hbl,cmo (ih kids[1] (gM hlen2) hX.wd hkk hnl) ?_⟩;rintro e Y ⟨rfl,bY,hw⟩;rw [<- hbe] at hw ⊢;exact zn (X:=Y) (v := .agg (zd b').toArray) k30 (ze _) (by kernel_rfl) (zD _) fun Z hbZ fZ sZ=>⟨Y.heap.size,(cvE rfl rfl),(hX.below bY).below hbZ,zb hbZ (zb bY fa),fZ,hw⟩
 clear hX fa X;rintro b6 X ⟨hX,fa,fb,hb⟩;refine⟨Nat,fun b7=>⟨[(3,At0 L),(4,At0 (L+1)),(5,At0 b5),(6,At0 b6),(7,At0 b7)],[]⟩,fun b7 Y=>VaB x q c bb mb g w L (.mk k nq kids) p cap Y/\zN Y b5 a/\zN Y b6 b'/\zN Y b7 zp/\X.heap.size<=b7,?_,?_⟩
 ·have bz:=zba X (.cells (zd zp).toArray 30);exact⟨X.heap.size,(cvE rfl rfl),hX.below bz,zb bz fa,zb bz fb,zz X _,Ge _⟩
 have hXs:=hX.b.size;have hXz:=hlt hX.z;clear hX fa fb;obtain⟨S0,hS0⟩:=nm (X.heap.size);rw [<- hS0] at hXs hXz ⊢;clear hS0 X;rintro b7 X ⟨hX,fa,fb,fz,h7s⟩;refine⟨Unit,fun _=>⟨[(4,At0 (L+1)),(7,At0 b7)],[]⟩,fun _ Y=>zN Y (L+1) zp/\Bw w Y/\zN Y b7 R/\zG R.to,?_,?_⟩
 ·refine⟨_,zc (za hX.tm) (i:=0) rfl,?_⟩;have fin:∀ {V:Wd},Bw X V->zG R.to->SatR ((storeVar 30 ⟨b7,0,none⟩ (.agg (zd R).toArray)).run PG V) fun _ w'=>zN w' (L+1) zp/\Bw w w'/\zN w' b7 R/\zG R.to:=fun {V} hV hw =>
   zr (v := .agg (zd R).toArray) k30 (zb hV fz) (ze _) (ze _) (zD _) ⟨(zo (by omega)).trans (zb hV hX.z),zj (zst hX.b hV) (by omega) _,zm (zb hV fz),hw⟩
  refine biE (fun h=>?_) fun h2b=>?_
  ·have h:k=2:=dT ((nk 2).symm.trans h);have e:R=(zK a b').1:=by rw [hR,h];rfl
   refine⟨zd a,ze _,za fa,hlt fa,zd b',ze _,za fb,hlt fb,cmo (znI ha hb) ?_⟩;rintro e9 Y ⟨rfl,bY⟩;have hw:zG (zK a b').1.to:=zih ha hb;rw [<- e] at hw ⊢;obtain⟨u,w',g1,g2⟩:=fin bY hw;exact⟨u,w',g1,(),(cvE rfl rfl),g2⟩
  have h2b:k≠2:=dF ((nk 2).symm.trans h2b);refine biE (fun h=>?_) fun h3b=>?_
  ·have h:k=3:=dT ((nk 3).symm.trans h);have e:R=(qK a b').1:=by rw [hR,h];rfl
   refine⟨zd a,ze _,za fa,hlt fa,zd b',ze _,za fb,hlt fb,cmo (zmJ ha hb) ?_⟩;rintro e9 Y ⟨rfl,bY⟩;have hw:zG (qK a b').1.to:=zln ha;rw [<- e] at hw ⊢;obtain⟨u,w',g1,g2⟩:=fin bY hw;exact⟨u,w',g1,(),(cvE rfl rfl),g2⟩
  have h3b:k≠3:=dF ((nk 3).symm.trans h3b);refine biE (fun h=>?_) fun h4b=>?_
  ·have h:k=4:=dT ((nk 4).symm.trans h);have e:R=(zdU a b').1:=by rw [hR,h];rfl
   refine⟨zd a,ze _,za fa,hlt fa,zd b',ze _,za fb,hlt fb,cmo (zvq ha hb) ?_⟩;rintro e9 Y ⟨rfl,bY⟩;have hw:zG (zdU a b').1.to:=zow ha;rw [<- e] at hw ⊢;obtain⟨u,w',g1,g2⟩:=fin bY hw;exact⟨u,w',g1,(),(cvE rfl rfl),g2⟩
  have h4b:k≠4:=dF ((nk 4).symm.trans h4b);refine biE (fun h=>?_) fun h5b=>?_
  ·have h:k=5:=dT ((nk 5).symm.trans h);have e:R=(qf a b').1:=by rw [hR,h];rfl
   refine⟨zd a,ze _,za fa,hlt fa,zd b',ze _,za fb,hlt fb,cmo (zcg ha hb hX.wd.t) ?_⟩;rintro e9 Y ⟨rfl,bY⟩;have hw:zG (qf a b').1.to:=zcO ha hb;rw [<- e] at hw ⊢;obtain⟨u,w',g1,g2⟩:=fin bY hw;exact⟨u,w',g1,(),(cvE rfl rfl),g2⟩
  have h5b:k≠5:=dF ((nk 5).symm.trans h5b)
  exfalso
  have n2:=nat 2 h2b;have n3:=nat 3 h3b;have n4:=nat 4 h4b;have n5:=nat 5 h5b;rcases hk4 with h | h | h | h
  ·exact n2 h
  ·exact n3 h
  ·exact n4 h
  ·exact n5 h
 rintro _ Y ⟨fz,bY,fR,hw⟩;exact⟨zd R,ze _,za fR,hlt fR,zbp fz (by omega) bY fun Z fZ bZ=>⟨zd R,ze _,za fZ,rfl,bZ,hw⟩⟩
end
section
variable {x:ExD} {g:Bs->RelD} {lets:Bs->Bool}
theorem ziR {n:Nat} (h:n<=48) (a b:Nat):RelOk n (zaU n a b) := .of rfl h (fun i j hi hb=>by
  unfold zaU at hb;rw [zaz,bAT,dE] at hb;obtain⟨h1,h2⟩:=hb;refine⟨h1,?_⟩
  split at h2
  ·rw [Ud,bAT,zbT] at h2;by_cases hj:j<64
   ·have h3:=h2.2;rw [zec (by omega) (by omega) hj,dE] at h3;omega
   ·have:=JF (nL (jE (n:Int)) (Kb (show 0<2 by decide) (show 64<=j by omega)));rw [this] at h2;exact GA h2.2 (by decide)
  ·rw [QD] at h2;cases h2) (za0 fun i _ h=>by
  split
  ·rw [zbT];exact KE Qx (jE _)
  ·decide)
theorem zoN {n i j:Nat} (h:n<=48) (hi:i<n) (hj:j<n):zg (zaU n (jx n) (jx n)) i j=true:=by
 have hb:∀ k,k<n->(jx (n:Int)).testBit k=true:=fun k hk=>by
  rw [zbT,zec (by omega) (by omega) (by omega),dE];omega
 unfold zaU;rw [zaz,Uu hi,UA,Gz (hb i hi),Ud,hb j hj];rfl
theorem zke (hx:XOk x) (hr:zS x=true) {s:Bs} (h:zal s=true):RelOk x.ev.length (qb x s):=by
 have hc:=ziR hx.n (jx x.ev.length) (jx x.ev.length);have hf:zby x (zaU x.ev.length (jx x.ev.length) (jx x.ev.length))=true:=by
  unfold zby;rw [hc.ok,hr,Uu hc.n];rfl
 have hn:(zaU x.ev.length (jx x.ev.length) (jx x.ev.length)).n.toNat=x.ev.length:=by have:=hc.n;omega
 unfold qb;dsimp only
 split
 ·exact hx.po
 split
 ·exact hx.rf
 split
 ·exact hx.co
 split
 ·exact hx.rm
 split
 ·exact hx.dt
 split
 ·exact hx.ct
 split
 ·unfold frX;rw [Gz hr];exact zmi hx
 split
 ·unfold zkH;rw [Gz hr];exact .pick hx.n _
 split
 ·exact .idr hx.n _
 split
 ·unfold zk2;rw [Gz hf];unfold zaG;rw [hn];exact .pick hx.n _
 split
 ·unfold zkO;rw [Gz hf];unfold zmd;rw [hn];exact .pick hx.n _
 ·rename_i h1 h2 h3 h4 h5 h6 h7 h8 h9 h10 h11
  exfalso
  unfold zal at h;rw [Qk] at h;obtain⟨w,hw,he⟩:=h;have he:=(dT he).symm;subst he;simp only [UG,Qv,Gu] at hw;rcases hw with h | h | h | h | h | h | h | h | h | h | h
  ·exact h1 h
  ·exact h2 h
  ·exact h3 h
  ·exact h7 h
  ·exact h4 h
  ·exact h5 h
  ·exact h6 h
  ·exact h8 h
  ·exact h9 h
  ·exact h10 h
  ·exact h11 h
end
structure EvB (w:Wd) (ls:List LineD) (p:OA) (cap:Nat) (t:Trm) (tq:OA) (tc:Nat) (x:ExD) (q:OA) (c L:Nat) (X:Wd):Prop where
 t:X.heap[L]?=some (.cells (zf t tq tc).toArray 24 (0,0))
 m:X.heap[L+1]?=some (.cells #[.slice p ls.length cap] 47 (0,0))
 e:ExH X (L+2) x q c
 z:zN X (L+3) zp
 b:Bw w X
 s:L+4<=X.heap.size
section
variable {x:ExD} {q p tq:OA} {c cap tc L:Nat} {w X Y:Wd} {ls:List LineD} {t:Trm}
theorem EvB.upto (h:EvB w ls p cap t tq tc x q c L X) (hL:w.heap.size<=L+4) (hb:Below (L+4) X Y):EvB w ls p cap t tq tc x q c L Y :=
 ⟨(hb.block _ (by omega)).trans h.t,(hb.block _ (by omega)).trans h.m,(hb.block _ (by omega)).trans h.e,(hb.block _ (by omega)).trans h.z,h.b.trans (hb.mono hL),UU h.s hb.size⟩
theorem EvB.below (h:EvB w ls p cap t tq tc x q c L X) (hL:w.heap.size<=L+4) (hb:Bw X Y):EvB w ls p cap t tq tc x q c L Y:=h.upto hL (hb.mono h.s)
end
abbrev zxB:=Trm×OA×Nat
section
variable {Q:Nat->Prop} {w X:Wd} {p:OA} {rows:List zxB}
structure PuB (w:Wd) (L:Nat) (t:Trm) (q:OA) (cap:Nat) (u:Trm) (qu:OA) (cu:Nat) (X:Wd):Prop where
 t:X.heap[L]?=some (.cells (zf t q cap).toArray 24 (0,0))
 u:X.heap[L+1]?=some (.cells (zf u qu cu).toArray 24 (0,0))
 z:X.heap[L+2]?=some (.cells (zf zT none 0).toArray 24 (0,0))
 b:Bw w X
 s:L+3<=X.heap.size
theorem PuB.upto {L:Nat} {t u:Trm} {q qu:OA} {cap cu:Nat} {Y:Wd} (h:PuB w L t q cap u qu cu X) (hL:w.heap.size<=L+3) (hb:Below (L+3) X Y):PuB w L t q cap u qu cu Y :=
 ⟨(hb.block _ (by omega)).trans h.t,(hb.block _ (by omega)).trans h.u,(hb.block _ (by omega)).trans h.z,h.b.trans (hb.mono hL),UU h.s hb.size⟩
end
def SPr (a b:Pr):Prop:=a.deep=b.deep/\a.most=b.most
theorem SPr.put {a b:Pr} (h:SPr a b) (s t:Bs):SPr (qZ a s) (qZ b t):=h
section
variable {x:ExD} {n i j:Nat} {r:RelD} {g:Bs->RelD}
theorem zjl (j:Nat):∀ (l:List Nat) (s:Nat),(l.foldl (fun s i=>s|||2^i) s).testBit j=(s.testBit j||l.any fun i=>decide (j=i))
 | [],s=>by simp
 | a::r,s=>by rw [QO,zjl j r,Ut,zdd,UE,Bool.or_assoc]
theorem zlq {l:List Nat}:(l.any fun k=>decide (i=k))=true↔i∈l:=by
 rw [Qk];exact⟨fun ⟨k,hk,he⟩=>by rw [dT he];exact hk,fun h=>⟨i,h,Uu rfl⟩⟩
theorem zuH (hi:i<x.ev.length):x.ev[i]?=some (evA x i):=by
 rw [gE hi];unfold evA;rw [gDe,gE hi];rfl
theorem zcn (s:Bs) (hi:i<x.ev.length):(zdJ x s).testBit i=zaZ (evA x i) s:=by
 unfold zdJ;show (List.foldl _ 0 _).testBit i=_;rw [zjl,QD,Ux,Bool.eq_iff_iff,zlq,QV,zuH hi];exact⟨fun h=>h.2,fun h=>⟨Ur.2 hi,h⟩⟩
theorem idL (hr:RelOk n r) {s:Nat} (hi:i<n):zg (qf (idR n s) r).1 i j=(s.testBit i&&zg r i j):=by
 rw [Bool.eq_iff_iff,zcP (RelOk.id hr.le s) hr hi,bAT];constructor
 ·rintro⟨k,hk,h1,h2⟩;rw [zf7] at h1;simp only [bAT,dE] at h1;obtain⟨_,h3,rfl⟩:=h1;exact⟨h3,h2⟩
 ·rintro⟨h1,h2⟩;exact⟨i,hi,by rw [zf7,Uu hi,h1,Uu rfl];rfl,h2⟩
theorem idT (hr:RelOk n r) {s:Nat} (hi:i<n):zg (qf r (idR n s)).1 i j=(zg r i j&&s.testBit j):=by
 have h48:=hr.le;rw [Bool.eq_iff_iff,zcP hr (RelOk.id hr.le s) hi,bAT];constructor
 ·rintro⟨k,hk,h1,h2⟩;rw [zf7] at h2;simp only [bAT,dE] at h2;obtain⟨_,h3,rfl⟩:=h2;exact⟨h1,h3⟩
 ·rintro⟨h1,h2⟩;have hj:=(hr.bit (by omega) h1).2;exact⟨j,hj,h1,by rw [zf7,Uu hj,h2,Uu rfl];rfl⟩
def zgB (x:ExD) (r:RelD) (s t:Bs):RelD:=(qf (qf (idR x.ev.length (zdJ x s)) r).1 (idR x.ev.length (zdJ x t))).1
def zjy (x:ExD) (s f t:Bs):RelD:=(qf (qf (qf (qf (idR x.ev.length (zdJ x s)) x.po).1 (idR x.ev.length (zdJ x f))).1 x.po).1 (idR x.ev.length (zdJ x t))).1
theorem jl (hr:RelOk x.ev.length r) (s t:Bs):RelOk x.ev.length (zgB x r s t):=((RelOk.id hr.le _).then hr).then (.id hr.le _)
theorem zbM (hr:RelOk x.ev.length r) (s t:Bs) (hi:i<x.ev.length) (hj:j<x.ev.length):zg (zgB x r s t) i j=(zaZ (evA x i) s&&zg r i j&&zaZ (evA x j) t):=by
 unfold zgB;rw [idT ((RelOk.id hr.le _).then hr) hi,idL hr hi,zcn s hi,zcn t hj]
theorem zdj (h:XOk x) (s f t:Bs):RelOk x.ev.length (zjy x s f t):=((((RelOk.id h.n _).then h.po).then (.id h.n _)).then h.po).then (.id h.n _)
theorem zeq (h:XOk x) (s:Bs) {f:Bs} {md:UInt8} (t:Bs) (hf:∀ e,zaZ e f=(decide (e.k=3)&&decide (e.m=md))) (hi:i<x.ev.length) (hj:j<x.ev.length):zg (zjy x s f t) i j=(zaZ (evA x i) s&&zg (zB x md) i j&&zaZ (evA x j) t):=by
 have h1:=(RelOk.id h.n (zdJ x s)).then h.po;have h2:=h1.then (.id h.n (zdJ x f));have h3:=h.po.then (.id h.n (j6 x md));have hm:∀ k,k<x.ev.length->(j6 x md).testBit k=zaZ (evA x k) f:=fun k hk=>by
  rw [hf];unfold j6;rw [zjl,QD,Ux,Bool.eq_iff_iff,zlq,QV];exact⟨fun h=>h.2,fun h=>⟨Ur.2 hk,h⟩⟩
 unfold zjy;rw [idT (h2.then h.po) hi,zcn t hj];congr 1;unfold zB;rw [Bool.eq_iff_iff,zcP h2 h.po hi,bAT,zcP h3 h.po hi];constructor
 ·rintro⟨k,hk,a,b⟩;rw [idT h1 hi,idL h.po hi,zcn s hi,zcn f hk] at a;simp only [bAT] at a;exact⟨a.1.1,k,hk,by rw [idT h.po hi,hm k hk,a.1.2,a.2];rfl,b⟩
 ·rintro⟨h0,k,hk,a,b⟩;rw [idT h.po hi,hm k hk,bAT] at a;exact⟨k,hk,by rw [idT h1 hi,idL h.po hi,zcn s hi,zcn f hk,h0,a.1,a.2];rfl,b⟩
theorem zqQ {W:Nat}:∀ (es:List Ev) (i h:Nat),zdy x W i es h=true->∀ k,k<es.length->¬ (x.dt.to (i+k)|||x.ct.to (i+k)|||x.rm.to (i+k)=0)->(es.getD k ev0).k=1/\zao (x.dt.to (i+k)|||x.rm.to (i+k)) W=0/\zao (x.dt.to (i+k)|||x.ct.to (i+k)|||x.rm.to (i+k)) (x.po.to (i+k))=0
 | [],_,_,_,k,hk,_=>by simp at hk
 | e::es,i,h,hd,0,_,hne=>by
  unfold zdy at hd;dsimp only at hd;have hne:¬ (x.dt.to i|||x.ct.to i|||x.rm.to i=0):=hne;rw [Gy hne] at hd
  split at hd
  ·rename_i hc;exact hc
  ·cases hd
 | e::es,i,h,hd,k+1,hk,hne=>by
  obtain⟨h',hd'⟩:=(zqP hd).2;have:=zqQ es (i+1) h' hd' k (by simpa using hk) (by rw [show i+1+k=i+(k+1) by omega];exact hne);rw [show i+1+k=i+(k+1) by omega] at this;simpa using this
theorem zmM (j:Nat):∀ (l:List Nat) (s:Nat),(l.foldl (fun s i=>if (evA x i).k=2 then s|||2^i else s) s).testBit j=(s.testBit j||l.any fun i=>decide (j=i)&&isW x i)
 | [],s=>by simp
 | a::r,s=>by
  rw [QO,zmM j r,UE,<- Bool.or_assoc];congr 1;unfold isW;by_cases h:(evA x a).k=2
  ·rw [Gz h,Ut,zdd,Uu h,Bool.and_true]
  ·rw [Gy h,Uj h,Uk,Uz]
theorem zo8 (hb:(zfO x).testBit j=true):isW x j=true/\j<x.ev.length:=by
 unfold zfO at hb;rw [zmM,QD,Ux,Qk] at hb;obtain⟨k,hk,he⟩:=hb;rw [bAT,dE] at he;obtain⟨rfl,h2⟩:=he;exact⟨h2,Ur.1 hk⟩
theorem zkL {a b:Nat} (hb:b<2^64) (h:zao a b=0) (hj:j<64) (ha:a.testBit j=true):b.testBit j=true:=by
 have h2:=Gs (fun s=>s.testBit j) h;simp only [QD] at h2;rw [zd1,zcV hb hj,ha,UA] at h2;simpa using h2
theorem zbm (h:XOk x) (hi:i<x.ev.length):(∀ j,zg x.dt i j=true\/zg x.rm i j=true->isW x j=true)/\∀ j,zg x.dt i j=true\/zg x.ct i j=true\/zg x.rm i j=true->isR x i=true/\zg x.po i j=true:=by
 have h48:=h.n;have hd:=h.dep;unfold za9 at hd;have key:=zqQ x.ev 0 0 hd i hi;rw [UY] at key;have j64:∀ j,zg x.dt i j=true\/zg x.ct i j=true\/zg x.rm i j=true->j<64:=fun j hj=>by
  rcases hj with h1 | h1 | h1
  ·have:=(h.dt.bit (by omega) h1).2;omega
  ·have:=(h.ct.bit (by omega) h1).2;omega
  ·have:=(h.rm.bit (by omega) h1).2;omega
 have ne:∀ j,zg x.dt i j=true\/zg x.ct i j=true\/zg x.rm i j=true->(x.dt.to i|||x.ct.to i|||x.rm.to i).testBit j=true:=fun j hj=>by
  rw [Ut,Ut,QI,QI];rcases hj with h1 | h1 | h1
  ·exact .inl (.inl h1)
  ·exact .inl (.inr h1)
  ·exact .inr h1
 have go:=fun j hj=>key fun e=>by have:=ne j hj;rw [e,QD] at this;cases this
 have hW:zfO x<2^64:=Nat.lt_pow_two_of_testBit _ fun k hk=>by
  cases hb:(zfO x).testBit k with
  | false=>rfl
  | true=>have:=(zo8 hb).2;omega
 refine⟨fun j hj=>?_,fun j hj=>?_⟩
 ·have hj3:zg x.dt i j=true\/zg x.ct i j=true\/zg x.rm i j=true:=hj.elim .inl fun h => .inr (.inr h);refine (zo8 (zkL hW (go j hj3).2.1 (j64 j hj3) ?_)).1;rw [Ut,QI];exact hj
 ·exact⟨Uu (go j hj).1,zkL (h.po.w i (by omega)) (go j hj).2.2 (j64 j hj) (ne j hj)⟩
theorem zqr:zaZ (evA x i) [82]=isR x i:=rfl
theorem zqq:zaZ (evA x i) [87]=isW x i:=rfl
theorem zqs:zaZ (evA x i) [77]=zaf x i:=rfl
theorem zwB (e:Ev):zaZ e [70,70]=(decide (e.k=3)&&decide (e.m=3)):=rfl
theorem zty (e:Ev):zaZ e [70,76]=(decide (e.k=3)&&decide (e.m=4)):=rfl
theorem zqt (e:Ev):zaZ e [70,83]=(decide (e.k=3)&&decide (e.m=5)):=rfl
structure BasR (x:ExD) (g:Bs->RelD):Prop where
 po:g [112,111]=x.po
 rf:g [114,102]=x.rf
 co:g [99,111]=x.co
 rm:g [114,109,119]=x.rm
 dt:g [100,97,116,97]=x.dt
 ct:g [99,116,114,108]=x.ct
 fr:g [102,114]=frM x
 lo:g [108,111,99]=zf3 x
 ex:g [101,120,116]=qb x [101,120,116]
theorem zc1 (hr:zS x=true):BasR x (qb x):=⟨rfl,rfl,rfl,rfl,rfl,rfl,Gz hr,Gz hr,rfl⟩
theorem BasR.put (h:BasR x g) {s:Bs} (hs:zal s=false) (v:RelD):BasR x (qx g s v):=by
 have ne:∀ t:Bs,zal t=true->qx g s v t=g t:=fun t ht=>by
  unfold qx;rw [Gy];rintro rfl;rw [hs] at ht;cases ht
 exact⟨(ne _ (by decide)).trans h.po,(ne _ (by decide)).trans h.rf,(ne _ (by decide)).trans h.co,(ne _ (by decide)).trans h.rm,(ne _ (by decide)).trans h.dt,(ne _ (by decide)).trans h.ct,(ne _ (by decide)).trans h.fr,(ne _ (by decide)).trans h.lo,(ne _ (by decide)).trans h.ex⟩
theorem qr (s:Bs) (v:RelD):qx g s v s=v:=by unfold qx;rw [Gz rfl]
theorem zav {s t:Bs} (h:t≠s) (v:RelD):qx g s v t=g t:=by unfold qx;rw [Gy h]
theorem vN (s:Bs):valT x g (.mk 1 s [])=g s:=by rw [valT,Gz rfl]
theorem vS (s:Bs):valT x g (.mk 9 s [])=idR x.ev.length (zdJ x s):=by rw [valT,Gy (by decide),Gz rfl]
theorem vU (a b:Trm):valT x g (.mk 2 [] [a,b])=(zK (valT x g a) (valT x g b)).1:=by rw [valT,valH,valS,valH];rfl
theorem vI (a b:Trm):valT x g (.mk 3 [] [a,b])=(qK (valT x g a) (valT x g b)).1:=by rw [valT,valH,valS,valH];rfl
theorem vQ (a b:Trm):valT x g (.mk 5 [] [a,b])=(qf (valT x g a) (valT x g b)).1:=by rw [valT,valH,valS,valH];rfl
theorem zqv (s:Bs) (t:Trm) (l:List LineD):jo x g (⟨0,s,t⟩::l)=jo x (qx g s (valT x g t)) l:=by rw [jo,Gz rfl]
theorem zkV (s:Bs) (t:Trm) (l:List LineD):jo x g (⟨1,s,t⟩::l)=if jg (valT x g t)=true then jo x g l else (false,s):=by rw [jo];rfl
theorem zqw (s:Bs) (t:Trm) (l:List LineD):jo x g (⟨3,s,t⟩::l)=if zaS (valT x g t)=true then jo x g l else (false,s):=by rw [jo];rfl
theorem zlt {n:Nat} {a b:RelD} (ha:RelOk n a) (hb:RelOk n b) (h:∀ i j,i<n->j<n->zg a i j=zg b i j):jg a=jg b:=by
 rw [Bool.eq_iff_iff];exact⟨zlu ha hb fun i j hi hj h2=>by rw [h i j hi hj];exact h2,zlu hb ha fun i j hi hj h2=>by rw [<- h i j hi hj];exact h2⟩
def zdt (m:Nat) (x:ExD):Bool×Bs:=(decide (zai m x=0),[[],[99,111,104,101,114,101,110,116],[97,116,111,109,105,99],[111,114,100,101,114]].getD (zai m x) [])
theorem zfi (h:XOk x) {K R2:RelD} {m:Nat} (hK:RelOk x.ev.length K) (h2:RelOk x.ev.length R2) (hb:∀ i j,i<x.ev.length->j<x.ev.length->zg K i j=zg (qV m x) i j)
  (hb2:∀ i j,i<x.ev.length->j<x.ev.length->zg R2 i j=zg (if m=2 then x.rf else zaG x x.rf) i j):jg (zK (zK (zK K R2).1 x.co).1 (frM x)).1=jg (z8 (qV m x) [if m=2 then x.rf else zaG x x.rf,x.co,frM x]):=by
 have r2:=zrX h (m:=m);have k2:=zqh h (m:=m);have fr:=zmi h;show _=jg (zK (zK (zK (qV m x) (if m=2 then x.rf else zaG x x.rf)).1 x.co).1 (frM x)).1;refine zlt (((hK.union h2).union h.co).union fr) (((k2.union r2).union h.co).union fr) fun i j hi hj=>?_;rw [zP ((hK.union h2).union h.co) fr hi,zP (hK.union h2) h.co hi,zP hK h2 hi,zP ((k2.union r2).union h.co) fr hi,zP (k2.union r2) h.co hi,zP k2 r2 hi,hb i j hi hj,hb2 i j hi hj]
theorem zjd (h:XOk x) (hr:zS x=true):RelOk x.ev.length (qK x.rf (qb x [101,120,116])).1:=h.rf.both (zke h hr (by decide))
theorem zgM (h:XOk x) (hr:zS x=true) (hi:i<x.ev.length) (hj:j<x.ev.length):zg (qK x.rf (qb x [101,120,116])).1 i j=zg (zaG x x.rf) i j:=by
 have hc:=ziR h.n (jx x.ev.length) (jx x.ev.length);have hf:zby x (zaU x.ev.length (jx x.ev.length) (jx x.ev.length))=true:=by
  unfold zby;rw [hc.ok,hr,Uu hc.n];rfl
 have he:qb x [101,120,116]=zaG x (zaU x.ev.length (jx x.ev.length) (jx x.ev.length)):=Gz hf;rw [zhW h.rf (zke h hr (by decide)) hi,he,znl hc hi hj,znl h.rf hi hj,zoN h.n hi hj,UA]
theorem zd2 (m:Nat) (hi:i<x.ev.length) (hj:j<x.ev.length):zg (qV m x) i j=(zg x.po i j&&(zaf x i&&(zaf x j&&zcb m x (zB x 3) (zB x 4) (zB x 5) i j))):=by
 unfold qV;rw [zcR,Uu hi,Uu hj];rfl
theorem zoD (h:XOk x) (hr:zS x=true) (m:Nat):jo x (qb x) (zbb m)=if jg (z8 (zan x) [x.rf,x.co,frM x])=true then (if zaS (qK x.rm (qf (frM x) x.co).1).1=true then jo x (qb x) (zgl m) else (false,[97,116,111,109,105,99])) else (false,[99,111,104,101,114,101,110,116]):=by
 have b:=zc1 hr;have fr:=zmi h;have lo:RelOk x.ev.length (zf3 x) := .pick h.n _;have l2:RelOk x.ev.length (zan x) := .pick h.n _;unfold zbb;rw [zkV,zqw];simp only [vU,vI,vQ,vN,b.po,b.lo,b.rf,b.co,b.fr,b.rm];have e:jg (zK (zK (zK (qK x.po (zf3 x)).1 x.rf).1 x.co).1 (frM x)).1=jg (z8 (zan x) [x.rf,x.co,frM x]):=by
  show _=jg (zK (zK (zK (zan x) x.rf).1 x.co).1 (frM x)).1;refine zlt ((((h.po.both lo).union h.rf).union h.co).union fr) (((l2.union h.rf).union h.co).union fr) fun i j hi hj=>?_;rw [zP (((h.po.both lo).union h.rf).union h.co) fr hi,zP ((h.po.both lo).union h.rf) h.co hi,zP (h.po.both lo) h.rf hi,zP ((l2.union h.rf).union h.co) fr hi,zP (l2.union h.rf) h.co hi,zP l2 h.rf hi,zhW h.po lo hi];unfold zf3 zan;rw [zcR,zcR,Uu hi,Uu hj];rfl
 rw [e]
end
section
variable {x:ExD} {i j:Nat} {g:Bs->RelD}
theorem jn {s:Bs} {t:Trm} {v:RelD} {l:List LineD} (h:valT x g t=v):jo x g (⟨0,s,t⟩::l)=jo x (qx g s v) l:=by rw [zqv,h]
theorem zed {s:Bs} {t:Trm} {v:RelD} (h:valT x g t=v):jo x g [⟨1,s,t⟩]=if jg v=true then (true,[]) else (false,s):=by rw [zkV,h];rfl
theorem zp9 (h:XOk x):RelOk x.ev.length (qK x.po (zf3 x)).1:=h.po.both (.pick h.n _)
theorem zuk (h:XOk x) (hi:i<x.ev.length) (hj:j<x.ev.length):zg (qK x.po (zf3 x)).1 i j=(zg x.po i j&&zaJ x i j):=by
 have lo:RelOk x.ev.length (zf3 x) := .pick h.n _;rw [zhW h.po lo hi];unfold zf3;rw [zcR,Uu hi,Uu hj];rfl
def FrR (x:ExD):RelD:=zjy x [77] [70,70] [77]
def BdR (x:ExD):RelD:=(zK (zgB x x.po [88] [77]) (zgB x x.po [77] [88])).1
def zgi (x:ExD):RelD:=(zK (zgB x x.po [65] [77]) (zjy x [82] [70,76] [77])).1
def zid (x:ExD):RelD:=(zK (zgB x x.po [77] [76]) (zjy x [77] [70,83] [87])).1
def zie (x:ExD):RelD:=(zK (zgB x (qK x.po (zf3 x)).1 [87] [87]) (zjy x [87] [70,83] [87])).1
def zgG (x:ExD):RelD:=(zjy x [82] [70,76] [82])
def zjM (x:ExD):RelD:=(zjy x [87] [70,83] [87])
def K2R (x:ExD):RelD:=(zgB x x.po [77] [77])
def K3R (x:ExD):RelD:=(zK (zK (zK (zgB x x.po [82] [77]) (zgB x x.po [87] [87])).1 (FrR x)).1 (BdR x)).1
def K4R (x:ExD):RelD:=(zK (zK (zK (zgB x x.po [82] [77]) (zie x)).1 (FrR x)).1 (BdR x)).1
def K5R (x:ExD):RelD:=(zK (zK (zgi x) (zid x)).1 (FrR x)).1
def K6R (x:ExD):RelD:=(zK (zK (zK (zK (zK x.dt (qf x.ct (idR x.ev.length (zdJ x [87]))).1).1 x.rm).1 (zgG x)).1 (zjM x)).1 (FrR x)).1
theorem zex (h:XOk x):RelOk x.ev.length (FrR x):=zdj h _ _ _
theorem znD (h:XOk x):RelOk x.ev.length (BdR x):=(jl h.po _ _).union (jl h.po _ _)
theorem zi4 (h:XOk x):RelOk x.ev.length (zie x):=(jl (zp9 h) _ _).union (zdj h _ _ _)
theorem zmc (h:XOk x):RelOk x.ev.length (zgi x):=(jl h.po _ _).union (zdj h _ _ _)
theorem zlH (h:XOk x):RelOk x.ev.length (zid x):=(jl h.po _ _).union (zdj h _ _ _)
theorem zjv (h:XOk x):RelOk x.ev.length (zgG x):=zdj h _ _ _
theorem zlG (h:XOk x):RelOk x.ev.length (zjM x):=zdj h _ _ _
theorem zwy (h:XOk x):RelOk x.ev.length (K2R x):=jl h.po _ _
theorem zww (h:XOk x):RelOk x.ev.length (K3R x):=(((jl h.po _ _).union (jl h.po _ _)).union (zex h)).union (znD h)
theorem zwv (h:XOk x):RelOk x.ev.length (K4R x):=(((jl h.po _ _).union (zi4 h)).union (zex h)).union (znD h)
theorem zwu (h:XOk x):RelOk x.ev.length (K5R x):=((zmc h).union (zlH h)).union (zex h)
theorem zwt (h:XOk x):RelOk x.ev.length (K6R x):=(((((h.dt.union (h.ct.then (.id h.n _))).union h.rm).union (zjv h)).union (zlG h)).union (zex h))
theorem zjw (h:XOk x) (hi:i<x.ev.length) (hj:j<x.ev.length):zg (FrR x) i j=(zaf x i&&zg (zB x 3) i j&&zaf x j):=zeq h [77] [77] zwB hi hj
theorem zq5 (h:XOk x) (hi:i<x.ev.length) (hj:j<x.ev.length):zg (BdR x) i j=((zaf x i&&decide ((evA x i).m=3))&&zg x.po i j&&zaf x j||zaf x i&&zg x.po i j&&(zaf x j&&decide ((evA x j).m=3))):=by
 unfold BdR;rw [zP (jl h.po _ _) (jl h.po _ _) hi,zbM h.po _ _ hi hj,zbM h.po _ _ hi hj];rfl
theorem zrF (h:XOk x) (hi:i<x.ev.length) (hj:j<x.ev.length):zg (zie x) i j=(isW x i&&(zg x.po i j&&zaJ x i j)&&isW x j||isW x i&&zg (zB x 5) i j&&isW x j):=by
 unfold zie;rw [zP (jl (zp9 h) _ _) (zdj h _ _ _) hi,zbM (zp9 h) _ _ hi hj,zuk h hi hj,zeq h _ _ zqt hi hj];rfl
theorem zsk (h:XOk x) (hi:i<x.ev.length) (hj:j<x.ev.length):zg (zgi x) i j=((isR x i&&zO x i 1)&&zg x.po i j&&zaf x j||isR x i&&zg (zB x 4) i j&&zaf x j):=by
 unfold zgi;rw [zP (jl h.po _ _) (zdj h _ _ _) hi,zbM h.po _ _ hi hj,zeq h _ _ zty hi hj];rfl
theorem zrE (h:XOk x) (hi:i<x.ev.length) (hj:j<x.ev.length):zg (zid x) i j=(zaf x i&&zg x.po i j&&(isW x j&&zO x j 2)||zaf x i&&zg (zB x 5) i j&&isW x j):=by
 unfold zid;rw [zP (jl h.po _ _) (zdj h _ _ _) hi,zbM h.po _ _ hi hj,zeq h _ _ zqt hi hj];rfl
theorem zsj (h:XOk x) (hi:i<x.ev.length) (hj:j<x.ev.length):zg (zgG x) i j=(isR x i&&zg (zB x 4) i j&&isR x j):=zeq h [82] [82] zty hi hj
theorem zrD (h:XOk x) (hi:i<x.ev.length) (hj:j<x.ev.length):zg (zjM x) i j=(isW x i&&zg (zB x 5) i j&&isW x j):=zeq h [87] [87] zqt hi hj
theorem zuq (h:XOk x) (hi:i<x.ev.length) (hj:j<x.ev.length):zg (K2R x) i j=zg (qV 2 x) i j:=by
 unfold K2R;rw [zbM h.po _ _ hi hj,zd2 2 hi hj];simp only [zqr,zqq,zqs,zcb,jF,zO,zaf];generalize zg x.po i j=P at ⊢;generalize isR x i=ri at ⊢;generalize isW x i=wi at ⊢;generalize isR x j=rj at ⊢;generalize isW x j=wj at ⊢;clear hi hj h
 revert P ri wi rj wj
 decide +kernel
theorem zup (h:XOk x) (hi:i<x.ev.length) (hj:j<x.ev.length):zg (K3R x) i j=zg (qV 3 x) i j:=by
 have hF:zg (zB x 3) i j=true->zg x.po i j=true:=zaw h 3 hi;unfold K3R;rw [zP (((jl h.po _ _).union (jl h.po _ _)).union (zex h)) (znD h) hi,zP ((jl h.po _ _).union (jl h.po _ _)) (zex h) hi,zP (jl h.po _ _) (jl h.po _ _) hi,zbM h.po _ _ hi hj,zbM h.po _ _ hi hj,zjw h hi hj,zq5 h hi hj,zd2 3 hi hj];simp only [zqr,zqq,zqs,zcb,jF,zO,zaf];generalize zg x.po i j=P at hF ⊢;generalize zg (zB x 3) i j=F at hF ⊢;generalize decide ((evA x i).m=3)=si at hF ⊢;generalize decide ((evA x j).m=3)=sj at hF ⊢;generalize isR x i=ri at hF ⊢;generalize isW x i=wi at hF ⊢;generalize isR x j=rj at hF ⊢;generalize isW x j=wj at hF ⊢
 revert hF
 clear hi hj h
 revert P F si sj ri wi rj wj
 decide +kernel
theorem zuo (h:XOk x) (hi:i<x.ev.length) (hj:j<x.ev.length):zg (K4R x) i j=zg (qV 4 x) i j:=by
 have hF:zg (zB x 3) i j=true->zg x.po i j=true:=zaw h 3 hi;have hH:zg (zB x 5) i j=true->zg x.po i j=true:=zaw h 5 hi;unfold K4R;rw [zP (((jl h.po _ _).union (zi4 h)).union (zex h)) (znD h) hi,zP ((jl h.po _ _).union (zi4 h)) (zex h) hi,zP (jl h.po _ _) (zi4 h) hi,zbM h.po _ _ hi hj,zrF h hi hj,zjw h hi hj,zq5 h hi hj,zd2 4 hi hj];simp only [zqr,zqq,zqs,zcb,jF,zO,zaf];generalize zg x.po i j=P at hF hH ⊢;generalize zg (zB x 3) i j=F at hF hH ⊢;generalize zg (zB x 5) i j=H at hF hH ⊢;generalize decide ((evA x i).m=3)=si at hF hH ⊢;generalize decide ((evA x j).m=3)=sj at hF hH ⊢;generalize zaJ x i j=sm at hF hH ⊢;generalize isR x i=ri at hF hH ⊢;generalize isW x i=wi at hF hH ⊢;generalize isR x j=rj at hF hH ⊢;generalize isW x j=wj at hF hH ⊢
 revert hH
 revert hF
 clear hi hj h
 revert P F H si sj sm ri wi rj wj
 decide +kernel
theorem zun (h:XOk x) (hi:i<x.ev.length) (hj:j<x.ev.length):zg (K5R x) i j=zg (qV 5 x) i j:=by
 have hF:zg (zB x 3) i j=true->zg x.po i j=true:=zaw h 3 hi;have hG:zg (zB x 4) i j=true->zg x.po i j=true:=zaw h 4 hi;have hH:zg (zB x 5) i j=true->zg x.po i j=true:=zaw h 5 hi;unfold K5R;rw [zP ((zmc h).union (zlH h)) (zex h) hi,zP (zmc h) (zlH h) hi,zsk h hi hj,zrE h hi hj,zjw h hi hj,zd2 5 hi hj];simp only [zqr,zqq,zqs,zcb,jF,zO,zaf];generalize zg x.po i j=P at hF hG hH ⊢;generalize zg (zB x 3) i j=F at hF hG hH ⊢;generalize zg (zB x 4) i j=G at hF hG hH ⊢;generalize zg (zB x 5) i j=H at hF hG hH ⊢;generalize decide ((evA x i).m=3)=si at hF hG hH ⊢;generalize decide ((evA x j).m=3)=sj at hF hG hH ⊢;generalize decide ((evA x i).m=1)=ai at hF hG hH ⊢;generalize decide ((evA x j).m=2)=lj at hF hG hH ⊢;generalize isR x i=ri at hF hG hH ⊢;generalize isW x i=wi at hF hG hH ⊢;generalize isR x j=rj at hF hG hH ⊢;generalize isW x j=wj at hF hG hH ⊢
 revert hH
 revert hG
 revert hF
 clear hi hj h
 revert P F G H si sj ai lj ri wi rj wj
 decide +kernel
theorem zum (h:XOk x) (hi:i<x.ev.length) (hj:j<x.ev.length):zg (K6R x) i j=zg (qV 6 x) i j:=by
 have hF:zg (zB x 3) i j=true->zg x.po i j=true:=zaw h 3 hi;have hG:zg (zB x 4) i j=true->zg x.po i j=true:=zaw h 4 hi;have hH:zg (zB x 5) i j=true->zg x.po i j=true:=zaw h 5 hi;have hD:zg x.dt i j=true->isR x i=true/\zg x.po i j=true/\isW x j=true:=fun e=>⟨((zbm h hi).2 j (.inl e)).1,((zbm h hi).2 j (.inl e)).2,(zbm h hi).1 j (.inl e)⟩;have hC:zg x.ct i j=true->isR x i=true/\zg x.po i j=true:=fun e=>(zbm h hi).2 j (.inr (.inl e));have hM:zg x.rm i j=true->isR x i=true/\zg x.po i j=true/\isW x j=true:=fun e=>⟨((zbm h hi).2 j (.inr (.inr e))).1,((zbm h hi).2 j (.inr (.inr e))).2,(zbm h hi).1 j (.inr e)⟩;unfold K6R;rw [zP (((((h.dt.union (h.ct.then (.id h.n _))).union h.rm).union (zjv h)).union (zlG h))) (zex h) hi,zP ((((h.dt.union (h.ct.then (.id h.n _))).union h.rm).union (zjv h))) (zlG h) hi,zP (((h.dt.union (h.ct.then (.id h.n _))).union h.rm)) (zjv h) hi,zP (h.dt.union (h.ct.then (.id h.n _))) h.rm hi,zP h.dt (h.ct.then (.id h.n _)) hi,idT h.ct hi,zcn [87] hj,zsj h hi hj,zrD h hi hj,zjw h hi hj,zd2 6 hi hj];simp only [zqr,zqq,zqs,zcb,jF,zO,zaf];generalize zg x.po i j=P at hF hG hH hD hC hM ⊢;generalize zg (zB x 3) i j=F at hF hG hH hD hC hM ⊢;generalize zg (zB x 4) i j=G at hF hG hH hD hC hM ⊢;generalize zg (zB x 5) i j=H at hF hG hH hD hC hM ⊢;generalize zg x.dt i j=dt at hF hG hH hD hC hM ⊢;generalize zg x.ct i j=ct at hF hG hH hD hC hM ⊢;generalize zg x.rm i j=rm at hF hG hH hD hC hM ⊢;generalize isR x i=ri at hF hG hH hD hC hM ⊢;generalize isW x i=wi at hF hG hH hD hC hM ⊢;generalize isR x j=rj at hF hG hH hD hC hM ⊢;generalize isW x j=wj at hF hG hH hD hC hM ⊢
 revert hM
 revert hC
 revert hD
 revert hH
 revert hG
 revert hF
 clear hi hj h
 revert P F G H dt ct rm ri wi rj wj
 decide +kernel
theorem zvS (h:XOk x) (hr:zS x=true):jo x (qb x) (zgl 2)=if jg (z8 (qV 2 x) [if 2=2 then x.rf else zaG x x.rf,x.co,frM x])=true then (true,[]) else (false,[111,114,100,101,114]):=by
 have b0:=zc1 hr;refine (zed (v:=(zK (zK (zK (K2R x) x.rf).1 x.co).1 (frM x)).1) (by simp only [vU,vQ,vS,vN,b0.po,b0.rf,b0.co,b0.fr];rfl)).trans ?_;rw [zfi h (m:=2) (zwy h) h.rf (fun i j hi hj=>zuq h hi hj) fun i j hi hj=>rfl]
theorem zvR (h:XOk x) (hr:zS x=true):jo x (qb x) (zgl 3)=if jg (z8 (qV 3 x) [if 3=2 then x.rf else zaG x x.rf,x.co,frM x])=true then (true,[]) else (false,[111,114,100,101,114]):=by
 have b0:=zc1 hr;refine (jn (v:=FrR x) (by simp only [vU,vI,vQ,vS,vN,b0.po,b0.rf,b0.co,b0.fr,b0.lo,b0.dt,b0.ct,b0.rm];rfl)).trans ?_;have b1:=b0.put (s:=[102,101,110,99,101,100]) (by decide) (FrR x);have l10:(qx (qb x) [102,101,110,99,101,100] (FrR x)) [102,101,110,99,101,100]=FrR x:=by rw [qr]
 refine (jn (v:=BdR x) (by simp only [vU,vI,vQ,vS,vN,b1.po,b1.rf,b1.co,b1.fr,b1.lo,b1.dt,b1.ct,b1.rm,l10];rfl)).trans ?_;have b2:=b1.put (s:=[98,111,117,110,100]) (by decide) (BdR x);have l20:(qx (qx (qb x) [102,101,110,99,101,100] (FrR x)) [98,111,117,110,100] (BdR x)) [102,101,110,99,101,100]=FrR x:=by rw [zav (by decide),qr]
 have l21:(qx (qx (qb x) [102,101,110,99,101,100] (FrR x)) [98,111,117,110,100] (BdR x)) [98,111,117,110,100]=BdR x:=by rw [qr]
 refine (jn (v:=K3R x) (by simp only [vU,vI,vQ,vS,vN,b2.po,b2.rf,b2.co,b2.fr,b2.lo,b2.dt,b2.ct,b2.rm,l20,l21];rfl)).trans ?_;have b3:=b2.put (s:=[107,101,112,116]) (by decide) (K3R x);refine (zed (v:=(zK (zK (zK (K3R x) (qK x.rf (qb x [101,120,116])).1).1 x.co).1 (frM x)).1) (by simp only [vU,vI,vN,b3.rf,b3.co,b3.fr,b3.ex,qr])).trans ?_;rw [zfi h (m:=3) (zww h) (zjd h hr) (fun i j hi hj=>zup h hi hj) fun i j hi hj=>zgM h hr hi hj]
theorem zvQ (h:XOk x) (hr:zS x=true):jo x (qb x) (zgl 4)=if jg (z8 (qV 4 x) [if 4=2 then x.rf else zaG x x.rf,x.co,frM x])=true then (true,[]) else (false,[111,114,100,101,114]):=by
 have b0:=zc1 hr;refine (jn (v:=FrR x) (by simp only [vU,vI,vQ,vS,vN,b0.po,b0.rf,b0.co,b0.fr,b0.lo,b0.dt,b0.ct,b0.rm];rfl)).trans ?_;have b1:=b0.put (s:=[102,101,110,99,101,100]) (by decide) (FrR x);have l10:(qx (qb x) [102,101,110,99,101,100] (FrR x)) [102,101,110,99,101,100]=FrR x:=by rw [qr]
 refine (jn (v:=BdR x) (by simp only [vU,vI,vQ,vS,vN,b1.po,b1.rf,b1.co,b1.fr,b1.lo,b1.dt,b1.ct,b1.rm,l10];rfl)).trans ?_;have b2:=b1.put (s:=[98,111,117,110,100]) (by decide) (BdR x);have l20:(qx (qx (qb x) [102,101,110,99,101,100] (FrR x)) [98,111,117,110,100] (BdR x)) [102,101,110,99,101,100]=FrR x:=by rw [zav (by decide),qr]
 have l21:(qx (qx (qb x) [102,101,110,99,101,100] (FrR x)) [98,111,117,110,100] (BdR x)) [98,111,117,110,100]=BdR x:=by rw [qr]
 refine (jn (v:=zie x) (by simp only [vU,vI,vQ,vS,vN,b2.po,b2.rf,b2.co,b2.fr,b2.lo,b2.dt,b2.ct,b2.rm,l20,l21];rfl)).trans ?_;have b3:=b2.put (s:=[115,116,111,114,101,115]) (by decide) (zie x);have l30:(qx (qx (qx (qb x) [102,101,110,99,101,100] (FrR x)) [98,111,117,110,100] (BdR x)) [115,116,111,114,101,115] (zie x)) [102,101,110,99,101,100]=FrR x:=by rw [zav (by decide),zav (by decide),qr]
 have l31:(qx (qx (qx (qb x) [102,101,110,99,101,100] (FrR x)) [98,111,117,110,100] (BdR x)) [115,116,111,114,101,115] (zie x)) [98,111,117,110,100]=BdR x:=by rw [zav (by decide),qr]
 have l32:(qx (qx (qx (qb x) [102,101,110,99,101,100] (FrR x)) [98,111,117,110,100] (BdR x)) [115,116,111,114,101,115] (zie x)) [115,116,111,114,101,115]=zie x:=by rw [qr]
 refine (jn (v:=K4R x) (by simp only [vU,vI,vQ,vS,vN,b3.po,b3.rf,b3.co,b3.fr,b3.lo,b3.dt,b3.ct,b3.rm,l30,l31,l32];rfl)).trans ?_;have b4:=b3.put (s:=[107,101,112,116]) (by decide) (K4R x);refine (zed (v:=(zK (zK (zK (K4R x) (qK x.rf (qb x [101,120,116])).1).1 x.co).1 (frM x)).1) (by simp only [vU,vI,vN,b4.rf,b4.co,b4.fr,b4.ex,qr])).trans ?_;rw [zfi h (m:=4) (zwv h) (zjd h hr) (fun i j hi hj=>zuo h hi hj) fun i j hi hj=>zgM h hr hi hj]
theorem zvP (h:XOk x) (hr:zS x=true):jo x (qb x) (zgl 5)=if jg (z8 (qV 5 x) [if 5=2 then x.rf else zaG x x.rf,x.co,frM x])=true then (true,[]) else (false,[111,114,100,101,114]):=by
 have b0:=zc1 hr;refine (jn (v:=FrR x) (by simp only [vU,vI,vQ,vS,vN,b0.po,b0.rf,b0.co,b0.fr,b0.lo,b0.dt,b0.ct,b0.rm];rfl)).trans ?_;have b1:=b0.put (s:=[102,101,110,99,101,100]) (by decide) (FrR x);have l10:(qx (qb x) [102,101,110,99,101,100] (FrR x)) [102,101,110,99,101,100]=FrR x:=by rw [qr]
 refine (jn (v:=zgi x) (by simp only [vU,vI,vQ,vS,vN,b1.po,b1.rf,b1.co,b1.fr,b1.lo,b1.dt,b1.ct,b1.rm,l10];rfl)).trans ?_;have b2:=b1.put (s:=[108,111,97,100,115]) (by decide) (zgi x);have l20:(qx (qx (qb x) [102,101,110,99,101,100] (FrR x)) [108,111,97,100,115] (zgi x)) [102,101,110,99,101,100]=FrR x:=by rw [zav (by decide),qr]
 have l21:(qx (qx (qb x) [102,101,110,99,101,100] (FrR x)) [108,111,97,100,115] (zgi x)) [108,111,97,100,115]=zgi x:=by rw [qr]
 refine (jn (v:=zid x) (by simp only [vU,vI,vQ,vS,vN,b2.po,b2.rf,b2.co,b2.fr,b2.lo,b2.dt,b2.ct,b2.rm,l20,l21];rfl)).trans ?_;have b3:=b2.put (s:=[115,116,111,114,101,115]) (by decide) (zid x);have l30:(qx (qx (qx (qb x) [102,101,110,99,101,100] (FrR x)) [108,111,97,100,115] (zgi x)) [115,116,111,114,101,115] (zid x)) [102,101,110,99,101,100]=FrR x:=by rw [zav (by decide),zav (by decide),qr]
 have l31:(qx (qx (qx (qb x) [102,101,110,99,101,100] (FrR x)) [108,111,97,100,115] (zgi x)) [115,116,111,114,101,115] (zid x)) [108,111,97,100,115]=zgi x:=by rw [zav (by decide),qr]
 have l32:(qx (qx (qx (qb x) [102,101,110,99,101,100] (FrR x)) [108,111,97,100,115] (zgi x)) [115,116,111,114,101,115] (zid x)) [115,116,111,114,101,115]=zid x:=by rw [qr]
 refine (jn (v:=K5R x) (by simp only [vU,vI,vQ,vS,vN,b3.po,b3.rf,b3.co,b3.fr,b3.lo,b3.dt,b3.ct,b3.rm,l30,l31,l32];rfl)).trans ?_;have b4:=b3.put (s:=[107,101,112,116]) (by decide) (K5R x);refine (zed (v:=(zK (zK (zK (K5R x) (qK x.rf (qb x [101,120,116])).1).1 x.co).1 (frM x)).1) (by simp only [vU,vI,vN,b4.rf,b4.co,b4.fr,b4.ex,qr])).trans ?_;rw [zfi h (m:=5) (zwu h) (zjd h hr) (fun i j hi hj=>zun h hi hj) fun i j hi hj=>zgM h hr hi hj]
theorem zvO (h:XOk x) (hr:zS x=true):jo x (qb x) (zgl 6)=if jg (z8 (qV 6 x) [if 6=2 then x.rf else zaG x x.rf,x.co,frM x])=true then (true,[]) else (false,[111,114,100,101,114]):=by
 have b0:=zc1 hr;refine (jn (v:=FrR x) (by simp only [vU,vI,vQ,vS,vN,b0.po,b0.rf,b0.co,b0.fr,b0.lo,b0.dt,b0.ct,b0.rm];rfl)).trans ?_;have b1:=b0.put (s:=[102,101,110,99,101,100]) (by decide) (FrR x);have l10:(qx (qb x) [102,101,110,99,101,100] (FrR x)) [102,101,110,99,101,100]=FrR x:=by rw [qr]
 refine (jn (v:=zgG x) (by simp only [vU,vI,vQ,vS,vN,b1.po,b1.rf,b1.co,b1.fr,b1.lo,b1.dt,b1.ct,b1.rm,l10];rfl)).trans ?_;have b2:=b1.put (s:=[108,111,97,100,115]) (by decide) (zgG x);have l20:(qx (qx (qb x) [102,101,110,99,101,100] (FrR x)) [108,111,97,100,115] (zgG x)) [102,101,110,99,101,100]=FrR x:=by rw [zav (by decide),qr]
 have l21:(qx (qx (qb x) [102,101,110,99,101,100] (FrR x)) [108,111,97,100,115] (zgG x)) [108,111,97,100,115]=zgG x:=by rw [qr]
 refine (jn (v:=zjM x) (by simp only [vU,vI,vQ,vS,vN,b2.po,b2.rf,b2.co,b2.fr,b2.lo,b2.dt,b2.ct,b2.rm,l20,l21];rfl)).trans ?_;have b3:=b2.put (s:=[115,116,111,114,101,115]) (by decide) (zjM x);have l30:(qx (qx (qx (qb x) [102,101,110,99,101,100] (FrR x)) [108,111,97,100,115] (zgG x)) [115,116,111,114,101,115] (zjM x)) [102,101,110,99,101,100]=FrR x:=by rw [zav (by decide),zav (by decide),qr]
 have l31:(qx (qx (qx (qb x) [102,101,110,99,101,100] (FrR x)) [108,111,97,100,115] (zgG x)) [115,116,111,114,101,115] (zjM x)) [108,111,97,100,115]=zgG x:=by rw [zav (by decide),qr]
 have l32:(qx (qx (qx (qb x) [102,101,110,99,101,100] (FrR x)) [108,111,97,100,115] (zgG x)) [115,116,111,114,101,115] (zjM x)) [115,116,111,114,101,115]=zjM x:=by rw [qr]
 refine (jn (v:=K6R x) (by simp only [vU,vI,vQ,vS,vN,b3.po,b3.rf,b3.co,b3.fr,b3.lo,b3.dt,b3.ct,b3.rm,l30,l31,l32];rfl)).trans ?_;have b4:=b3.put (s:=[107,101,112,116]) (by decide) (K6R x);refine (zed (v:=(zK (zK (zK (K6R x) (qK x.rf (qb x [101,120,116])).1).1 x.co).1 (frM x)).1) (by simp only [vU,vI,vN,b4.rf,b4.co,b4.fr,b4.ex,qr])).trans ?_;rw [zfi h (m:=6) (zwt h) (zjd h hr) (fun i j hi hj=>zum h hi hj) fun i j hi hj=>zgM h hr hi hj]
theorem zoZ (hw:WX x) (hr:zS x=true) {m:Nat} (h1:1<=m) (h6:m<=6):jo x (qb x) (zbb m)=zdt m x:=by
 have h:=ztM hw hr;have qY:jo x (qb x) (zgl m)=if m=1 then (true,[]) else if jg (z8 (qV m x) [if m=2 then x.rf else zaG x x.rf,x.co,frM x])=true then (true,[]) else (false,[111,114,100,101,114]):=by
  rcases (by omega:m=1\/m=2\/m=3\/m=4\/m=5\/m=6) with rfl | rfl | rfl | rfl | rfl | rfl
  ·rfl
  ·exact zvS h hr
  ·exact zvR h hr
  ·exact zvQ h hr
  ·exact zvP h hr
  ·exact zvO h hr
 rw [zoD h hr,qY];unfold zdt zai;obtain⟨P,hP⟩:=nm (jg (z8 (zan x) [x.rf,x.co,frM x]));obtain⟨Q,hQ⟩:=nm (zaS (qK x.rm (qf (frM x) x.co).1).1);obtain⟨O,hO⟩:=nm (jg (z8 (qV m x) [if m=2 then x.rf else zaG x x.rf,x.co,frM x]));rw [<- hP,<- hQ,<- hO];clear hP hQ hO qY;by_cases hm:m=1
 ·simp only [hm,Gx]
  cases P <;> cases Q <;> rfl
 ·simp only [Gy hm]
  cases P <;> cases Q <;> cases O <;> rfl
end
end Go.Proofs.YtnadlhpkpnfmbaaGreatDoor
namespace Go.Sei
def zct (ns:List Nat):Nat:=ns.foldl (· * ·) 1
theorem zg8 (ns:List Nat) (n:Nat):zct (ns++[n])=zct ns*n:=by
 unfold zct;rw [KT];rfl
def zmb (init:List UInt8) (Ts:List (List PathD)):List MixD:=(zcf (Ts.map List.length)).filterMap fun ds=>zkE init (zcw Ts ds)
theorem zhb:∀ (Ts:List (List PathD)) (ds:List Nat) (T:List PathD) (d:Nat),Ts.length=ds.length->zcw (Ts++[T]) (ds++[d])=zcw Ts ds++(match T[d]? with | some P=>[P] | none=>[])
 | [],[],T,d,_=>by
  show (match T[d]? with | some P=>[P] | none=>[])++[]=_;rw [QM];rfl
 | [],_::_,_,_,h=>by simp at h
 | _::_,[],_,_,h=>by simp at h
 | A::Ts,e::ds,T,d,h=>by
  show (match A[e]? with | some P=>[P] | none=>[])++zcw (Ts++[T]) (ds++[d])=((match A[e]? with | some P=>[P] | none=>[])++zcw Ts ds)++_;rw [zhb Ts ds T d (by simpa using h),KO]
theorem zlZ (ns:List Nat) (n:Nat):ql (ns++[n])=ql ns*n:=by
 rw [zei];show _*(n*1)=_;rw [Gf]
theorem ziO:∀ (ns:List Nat) (a:Nat),ns.foldl (· * ·) a=a*ql ns
 | [],a=>(Gf a).symm
 | n::ns,a=>by
  show ns.foldl (· * ·) (a*n)=a*(n*ql ns);rw [ziO ns,UJ]
theorem zoi:∀ ns:List Nat,ql ns.reverse=zct ns:=fun ns=>by
 have h:∀ l:List Nat,ql l.reverse=ql l:=fun l=>by
  induction l with
  | nil=>rfl
  | cons n l ih =>
   rw [KW,zlZ,ih];exact UV _ _
 rw [h];unfold zct;rw [ziO,Nat.one_mul]
end Go.Sei
namespace Go.Proofs.YtnadlhpkpnfmbaaGreatDoor
open Go.Vc Go.RowKit Go.Sei
theorem zs2 {b o:Nat} {w:Wd}:Calls PG 90 #[.pointer (some ⟨b,o,none⟩)] w fun e w'=>e = .returned (.func (.func 141) #[] #[At0 w.heap.size])/\w'.heap[w.heap.size]?=some (.cells #[.pointer (some ⟨b,o,none⟩)] 244 (0,0))/\w'.heap.size=w.heap.size+1/\Bw w w':=by
 refine zJ 4 [.pointer (some ⟨b,o,none⟩)] Tryz.func90 ?_;exact⟨rfl,zz w _,wz _ _,(zba w _)⟩
def ztg (B:Nat) (F:Nat->Prop) (Y:Wd) (x:zgE):Prop:=OwnS evE 158 B Y x.2.1 x.2.2 x.1.ev/\∀ a,x.2.1=some a->F a.block
theorem zfZ (B:Nat):ziW 37 89 (ztg B):=by
 rintro F G Y Z x ⟨h1,h2⟩ hs hg;refine⟨h1.same fun a ha=>?_,fun a ha=>hg _ (h2 a ha)⟩;obtain⟨_,_,cur,hc⟩:=zA h1 ha;exact hs _ cur _ (h2 a ha) hc (by decide) (by decide)
theorem zlA {B B1 bx c0:Nat} {p0:OA} {l0:List zgE} {xs:List ExD} {w W0:Wd} {Rd:Nat->Prop} {pm:Value} (ho:OwnS exE 37 B w p0 c0 l0) (hn:∀ x∈l0,OwnS evE 158 B w x.2.1 x.2.2 x.1.ev) (hB:B<=w.heap.size)
  (hI:zri PG 141 [At0 bx] xs W0 Rd (StX B1) GvX) (hW0:W0.heap.size<=w.heap.size) (hRd:∀ k,Rd k->k<W0.heap.size/\w.heap[k]?=W0.heap[k]?) (hRB:∀ k,Rd k->k<B\/k=bx) (fb:w.heap[bx]?=some (.cells #[pm] 244 (0,0))) (hB1:B<=B1) (hlen:l0.length+xs.length<=30000) :
  Calls PG 89 #[.slice p0 l0.length c0,.func (.func 141) #[] #[At0 bx]] w fun e w'=>(∃ (new:List zgE) (p:OA) (c:Nat),e = .returned (.slice p (l0++new).length c)/\new.map (·.1)=xs/\OwnS exE 37 B w' p c (l0++new)/\∀ x∈l0++new,OwnS evE 158 B w' x.2.1 x.2.2 x.1.ev)/\Below B w w':=by
 refine qa 13 [.slice p0 l0.length c0,.func (.func 141) #[] #[At0 bx]] (.c .p .p) Tryz.func89 ?_;obtain⟨L,hL⟩:=nm (w.heap.size);refine⟨Unit,fun _=>⟨[(1,.func (.func 141) #[] #[At0 bx]),(2,At0 L)],[]⟩,fun _ X=>X.heap[L]?=some (.cells [.slice p0 l0.length c0].toArray 89 (0,0))/\X.heap.size=L+1/\Bw w X,?_,?_⟩
 ·exact⟨(),⟨.cons rfl (.cons (by rw [hL];rfl) .nil),rfl⟩,by rw [hL];exact zz w _,by rw [hL];exact wz _ _,(zba w _)⟩
 rintro _ W ⟨fL,sW,hbW⟩;have hbxw:=hlt fb;obtain⟨F0,hF0⟩:∃ F0:Nat->Prop,F0=fun k=>k=L\/(∃ a,p0=some a/\k=a.block)\/∃ x∈l0,∃ a,x.2.1=some a/\k=a.block:=⟨_,rfl⟩;have hF0B:∀ k,F0 k->B<=k/\k<W.heap.size/\(k≠L->k≠bx):=by
  intro k hk;rw [hF0] at hk;rcases hk with rfl | ⟨a,ha,rfl⟩ | ⟨x,hx,a,ha,rfl⟩
  ·exact⟨by omega,by omega,fun h=>(h rfl).elim⟩
  ·obtain⟨h1,h2,cur,h3⟩:=zA ho ha;exact⟨h1,by omega,fun _ e=>by rw [e,fb] at h3;simp at h3⟩
  ·obtain⟨h1,h2,cur,h3⟩:=zA (hn x hx) ha;exact⟨h1,by omega,fun _ e=>by rw [e,fb] at h3;simp at h3⟩
 have hG0:Gath exE 37 89 B W.heap.size L W (ztg B) l0 F0 W:=by
  refine⟨Ge _,by rw [hF0];exact .inl rfl,fun k hk=>(hF0B k hk).2.1,⟨p0,c0,fL,ho.below hbW,fun a ha=>by rw [hF0];exact .inr (.inl ⟨a,ha,rfl⟩)⟩,fun x hx=>⟨(hn x hx).below hbW,fun a ha=>by rw [hF0];exact .inr (.inr ⟨x,hx,a,ha,rfl⟩)⟩,Gj _ _⟩
 refine zt5 (zbF _) rfl (lb := #[At0 bx]) rfl rfl hI (fun pre vs W k ⟨x,q,c,h1,h2,h3⟩ ⟨x',a,c',h4,h5⟩=>?_) (by have:=hbW.size;omega) (fun k hk=>⟨(hRd k hk).1,?_⟩) (fun pre vs W ⟨x,q,c,_,h,_⟩=>by rw [h];rfl) (by decide)
  F0 (fun pre F Y=>∃ xs',(∃ new,xs'=l0++new/\new.map (·.1)=pre/\new.length<=xs.length)/\Gath exE 37 89 B W.heap.size L W (ztg B) xs' F Y) (fun k hk=>?_) (Gath.iter (zfZ B) (by omega)) ⟨l0,⟨[],by simp,rfl,Gg _⟩,hG0⟩ ?_ ?_
 ·rw [h2] at h4;have h6:exC x q c=exC x' (some a) c':=by
   have h7:=Value.agg.inj (Jv h4);simpa using h7
  have h8:Value.slice q x.ev.length c=Value.slice (some a) x'.ev.length c':=Jv h6;have h9:q=some a:=by injection h8
  obtain⟨_,_,cur,hc⟩:=zA h3 h9;rw [h5];exact⟨_,_,_,hc⟩
 ·rw [<- (hRd k hk).2];exact hbW.block k (by have:=(hRd k hk).1;omega)
 ·intro h;obtain⟨h1,h2,h3⟩:=hF0B k h;have h4:=(hRd k hk).1;rcases hRB k hk with h5 | h5
  ·omega
  ·exact h3 (by omega) h5
 ·rintro yl pre x vs F Y hyl hpre ⟨xs',⟨new,rfl,hnew',hnl⟩,hG⟩ ⟨x',q,c,hlast,rfl,oq⟩ hgv hfy ⟨lo,hlo⟩;have hxx:x=x':=by simpa using hlast
  subst hxx;have hYs:=hG.size;refine zn (X:=Y) (v := .agg (exC x q c).toArray) k37 (zI _ _ _) zbY (zdk _ _ _) fun Z hbZ fZ sZ=>?_;have fZ:ExH Z Y.heap.size x q c:=fZ;obtain⟨F1,hF1⟩:∃ F1:Nat->Prop,F1=fun k=>F k\/GvX [.agg (exC x q c).toArray] k:=⟨_,rfl⟩;rw [<- hF1];have hq1:∀ a,q=some a->F1 a.block:=fun a ha=>by
   rw [hF1];exact .inr ⟨x,a,c,by rw [ha],rfl⟩
  have hgq:∀ k,GvX [.agg (exC x q c).toArray] k->∃ a,q=some a/\k=a.block:=by
   rintro k ⟨x',a,c',h4,h5⟩;have h6:exC x q c=exC x' (some a) c':=by
    have h7:=Value.agg.inj (Jv h4);simpa using h7
   have h8:Value.slice q x.ev.length c=Value.slice (some a) x'.ev.length c':=Jv h6;have h9:q=some a:=by injection h8
   exact⟨a,h9,h5⟩
  have hlt1:∀ k,F1 k->k<Y.heap.size:=fun k hk=>by
   rw [hF1] at hk;rcases hk with hk | hk
   ·exact hG.lt k hk
   ·obtain⟨a,ha,rfl⟩:=hgq k hk;exact (zA oq ha).2.1
  have hFF:∀ k,F k->F1 k:=fun k hk=>by rw [hF1];exact .inl hk
  have hG1:Gath exE 37 89 B W.heap.size L W (ztg B) (l0++new) F1 Z:=by
   obtain⟨p,c',h1,h2,h3⟩:=hG.row;have sZ:=hbZ.size;exact⟨by omega,hFF _ hG.inL,fun k hk=>by have:=hlt1 k hk;omega,⟨p,c',zb hbZ h1,h2.below hbZ,fun a ha=>hFF _ (h3 a ha)⟩,fun y hy=>⟨(hG.nest y hy).1.below hbZ,fun a ha=>hFF _ ((hG.nest y hy).2 a ha)⟩,hG.old.trans (hbZ.mono (by omega))⟩
  refine⟨rfl,F1,KeepsG.below hbZ fun k hk => .inl hk,⟨_,⟨new,rfl,hnew',hnl⟩,hG1⟩,?_⟩;rintro O Y2 hY2 ⟨xs2,⟨new2,rfl,hnew2,hnl2⟩,hG2⟩;clear hG1 hnew' hnl hG;have hYl:=hlt hlo;have fY:ExH Y2 Y.heap.size x q c:=by rw [hY2];exact (zl (by omega)).trans fZ
  have oq2:OwnS evE 158 B1 Y2 q c x.ev:=by
   rw [hY2];refine (oq.below hbZ).same fun a ha=>zl fun e=>?_;obtain⟨_,_,cur,hc⟩:=zA oq ha;rw [e,hlo] at hc
   cases hc
  obtain⟨p,c',h4,h5,h6⟩:=hG2.row;refine⟨_,zc (za h4) (i:=0) rfl,exC x q c,zI _ _ _,za fY,hlt fY,?_⟩;obtain⟨nx,hnx⟩:∃ nx:zgE,nx=(x,q,c):=⟨_,rfl⟩;have hen:exC x q c=exE.enc nx:=by rw [hnx];rfl
  have hpl:pre.length<xs.length:=by
   obtain⟨t,ht⟩:=hpre;rw [<- ht];simp only [lap,Qs];omega
  have hn2:new2.length=pre.length:=by rw [<- hnew2,QQ]
  refine⟨⟨by decide,by decide,zbY⟩,exE.enc nx,by rw [<- hen];exact zbA (zI _ _ _) zbY,?_⟩;have hw2:W.heap.size<=Y2.heap.size:=hG2.size;obtain⟨v,Y5,hrun,S,hrun2,F',hG',hK',hFF'⟩:=hG2.stepX (P:=PG) (ty:=89) (cap1:=1) (zfZ B) (by decide) Tryz.underlying89 k37 rfl rfl (by show _=333;exact zbY) k89 rfl (by omega) (by omega) (Gj _ _) nx (by rw [lap];omega) (by rw [lap];show (_+1)*2416<=_;omega)
   (fun G Z _ _ h3 h4=>zfZ B F1 G Y2 Z nx ⟨by rw [hnx];exact oq2.lower hB1,fun a ha=>by rw [hnx] at ha;exact hq1 a ha⟩ h3 h4) p c' h4
  unfold zeK zaI;exact SatR.mk hrun (SatR.mk hrun2 ⟨F',⟨_,⟨new2++[nx],by rw [KO],by rw [QT,hnew2,hnx];rfl,by rw [lap];show _+1<=_;omega⟩,hG'⟩,hK'⟩)
 ·rintro D F Y hD hfD ⟨xs',⟨new,rfl,hnew',hnl⟩,hG⟩ hdef;obtain⟨p,c',h4,h5,h6⟩:=hG.row;refine⟨_,zc (za h4) (i:=0) rfl,_,rfl,hdef,?_⟩;have kp:∀ a:Addr,F a.block->(Y.putObj D (.deferred none)).heap[a.block]?=Y.heap[a.block]?:=fun a h2=>zl fun e=>by rw [<- e] at hfD;exact hfD h2
  exact⟨⟨new,p,c',rfl,hnew',h5.same fun a ha=>kp a (h6 a ha),fun x hx=>(hG.nest x hx).1.same fun a ha=>kp a ((hG.nest x hx).2 a ha)⟩,jh ((hbW.mono hB).trans hG.old) (by omega) _⟩
structure MixX where
 m:MixD
 q:OA
 c:Nat
 p1:OA
 c1:Nat
 p2:OA
 c2:Nat
 p3:OA
 c3:Nat
 xs:List za1
 ys:List za1
def zov (x:MixX):List Value:=exC x.m.base x.q x.c++[.slice x.p1 x.m.rs.length x.c1,.slice x.p2 x.xs.length x.c2,.slice x.p3 x.ys.length x.c3]
theorem zp5 (x:MixX):(zov x).length=336:=by
 unfold zov;rw [lap,zI];rfl
theorem zkF (x:MixX):(zov x).all Value.oneCell'=true:=by
 unfold zov;rw [QL,zdk];rfl
def zjs:Enc MixX:=⟨zov,336,zp5,by decide,fun a u hu=>Qj.1 (zkF a) u hu⟩
structure NInM (B:Nat) (F:Nat->Prop) (Y:Wd) (x:MixX):Prop where
 e2:x.xs.map (·.1)=x.m.rs.map (·.2)
 e3:x.ys.map (·.1)=x.m.wr
 ev:RowIn evE 158 B F Y x.q x.c x.m.base.ev
 r1:RowIn zE 3 B F Y x.p1 x.c1 (x.m.rs.map (·.1))
 r2:RowIn ja 128 B F Y x.p2 x.c2 x.xs
 n2:∀ y∈x.xs,RowIn zE 3 B F Y y.2.1 y.2.2 y.1
 r3:RowIn ja 128 B F Y x.p3 x.c3 x.ys
 n3:∀ y∈x.ys,RowIn zE 3 B F Y y.2.1 y.2.2 y.1
theorem NInM.same {B:Nat} {F G:Nat->Prop} {Y Z:Wd} {x:MixX} (h:NInM B F Y x) (k:∀ {α:Type} {E:Enc α} {T c:Nat} {q:OA} {l:List α},T≠172->T≠166->T≠4->RowIn E T B F Y q c l->RowIn E T B G Z q c l):NInM B G Z x :=
 ⟨h.e2,h.e3,k (by decide) (by decide) (by decide) h.ev,k (by decide) (by decide) (by decide) h.r1,k (by decide) (by decide) (by decide) h.r2,fun y hy=>k (by decide) (by decide) (by decide) (h.n2 y hy),k (by decide) (by decide) (by decide) h.r3,fun y hy=>k (by decide) (by decide) (by decide) (h.n3 y hy)⟩
theorem NInM.lower {B B':Nat} {F:Nat->Prop} {Y:Wd} {x:MixX} (h:NInM B F Y x) (hB:B'<=B):NInM B' (fun k=>B'<=k) Y x:=by
 have k:∀ {α:Type} {E:Enc α} {T c:Nat} {q:OA} {l:List α},RowIn E T B F Y q c l->RowIn E T B' (fun k=>B'<=k) Y q c l:=fun {α E T c q l} hr=>⟨hr.own.lower hB,fun a ha=>(zA (hr.own.lower hB) ha).1⟩;exact⟨h.e2,h.e3,k h.ev,k h.r1,k h.r2,fun y hy=>k (h.n2 y hy),k h.r3,fun y hy=>k (h.n3 y hy)⟩
theorem ziF (B:Nat):ziW 172 166 (NInM B):=by
 rintro F G Y Z x h hs hg;refine h.same fun {α E T c q l} t1 t2 _ hr=>⟨hr.own.same fun a ha=>?_,fun a ha=>hg _ (hr.inF a ha)⟩;obtain⟨_,_,cur,hc⟩:=zA hr.own ha;exact hs _ cur _ (hr.inF a ha) hc t1 t2
abbrev TpR:=List zee×OA×Nat
def tpE:Enc TpR where
 sz:=1
 enc x:=[.slice x.2.1 x.1.length x.2.2]
 len x:=rfl
 one x v hv:=by
  simp at hv;subst hv;rfl
 pos:=by decide
structure MxS (B:Nat) (Z:Wd) (L bP:Nat) (ss:List Nat) (ps:OA) (cs:Nat) (ts:List TpR) (pT:OA) (cT:Nat):Prop where
 f0:Z.heap[L]?=some (.cells #[At0 bP] 169 (0,0))
 f1:Z.heap[L+1]?=some (.cells #[.slice none 0 0] 166 (0,0))
 f2:Z.heap[L+2]?=some (.cells #[.bool false] 4 (0,0))
 f3:Z.heap[L+3]?=some (.cells #[.slice pT ts.length cT] 232 (0,0))
 own:OwnS zE 3 B Z ps cs ss
 rk:OwnS tpE 233 B Z pT cT ts
 n1:∀ z∈ts,OwnS jQ 241 B Z z.2.1 z.2.2 z.1
 n2:∀ z∈ts,∀ x∈z.1,PthO B Z x
theorem PthO.same {B:Nat} {Y Z:Wd} {x:zee} (h:PthO B Y x) (k:∀ {α:Type} {E:Enc α} {T c:Nat} {q:OA} {l:List α},T=158\/T=326->OwnS E T B Y q c l->OwnS E T B Z q c l):PthO B Z x :=
 ⟨k (.inl rfl) h.1,k (.inr rfl) h.2.1,k (.inr rfl) h.2.2.1,k (.inr rfl) h.2.2.2⟩
theorem MxS.below {B:Nat} {Z Y:Wd} {L bP:Nat} {ss:List Nat} {ps:OA} {cs:Nat} {ts:List TpR} {pT:OA} {cT:Nat} (h:MxS B Z L bP ss ps cs ts pT cT) (hb:Bw Z Y):MxS B Y L bP ss ps cs ts pT cT :=
 ⟨zb hb h.f0,zb hb h.f1,zb hb h.f2,zb hb h.f3,h.own.below hb,h.rk.below hb,fun z hz=>(h.n1 z hz).below hb,fun z hz x hx=>(h.n2 z hz x hx).same fun {α E T c q l} _ ho=>ho.below hb⟩
theorem MxS.size {B:Nat} {Z Y:Wd} {L bP n:Nat} {ss:List Nat} {ps ps':OA} {cs cs':Nat} {ts:List TpR} {pT:OA} {cT:Nat} (h:MxS B Z L bP ss ps cs ts pT cT) (ho:OwnS zE 3 B Y ps' cs' (ss++[n])) (g:Z.grownBy Y (ps.map Addr.block)):MxS B Y L bP (ss++[n]) ps' cs' ts pT cT :=
 ⟨qp h.f0 h.own (by decide) g,qp h.f1 h.own (by decide) g,qp h.f2 h.own (by decide) g,qp h.f3 h.own (by decide) g,ho,zat h.rk h.own (by decide) g,fun z hz=>zat (h.n1 z hz) h.own (by decide) g,fun z hz x hx=>(h.n2 z hz x hx).same fun {α E T c q l} ht hoo=>zat hoo h.own (by rcases ht with rfl | rfl <;> decide) g⟩
theorem zxx {B c:Nat} {V1:Wd} {p:OA} {l:List TpR} {y:TpR} {a:Addr} (ho:OwnS tpE 233 B V1 p c l) (ha:zw V1 a ([y].flatMap tpE.enc)) (hB:B<=V1.heap.size) (hl:l.length<=100000) {K:Value->Wd->Prop}
  (h:∀ p' c' w',OwnS tpE 233 B w' p' c' (l++[y])->V1.grownBy w' (p.map Addr.block)->(∀ a,p'=some a->p=some a\/a.block=V1.heap.size)->K (.slice p' (l++[y]).length c') w') :
  SatR ((Builtin.append_ #[232,232] 232 #[.slice p l.length c,.slice (some a) 1 1]).run PG V1) K :=
 jr (E:=tpE) (T:=233) (B:=B) (l:=l) (news:=[y]) (cap:=c) (m:=1) Tryz.underlying232 zso rfl rfl rfl ho rfl ha hB (by omega) (by show (l.length+1)*24<=_;omega) fun p' c' w' a1 a2 _ a4=>h p' c' w' a1 (by rw [zaP] at a2;exact a2) a4
theorem zxz {B c:Nat} {V1:Wd} {p:OA} {l:List zee} {y:zee} {a:Addr} (ho:OwnS jQ 241 B V1 p c l) (ha:zw V1 a ([y].flatMap jQ.enc)) (hB:B<=V1.heap.size) (hl:l.length<=100000) {K:Value->Wd->Prop}
  (h:∀ p' c' w',OwnS jQ 241 B w' p' c' (l++[y])->V1.grownBy w' (p.map Addr.block)->(∀ a,p'=some a->p=some a\/a.block=V1.heap.size)->K (.slice p' (l++[y]).length c') w') :
  SatR ((Builtin.append_ #[233,233] 233 #[.slice p l.length c,.slice (some a) 1 1]).run PG V1) K :=
 jr (E:=jQ) (T:=241) (B:=B) (l:=l) (news:=[y]) (cap:=c) (m:=1) Tryz.underlying233 zoA rfl rfl rfl ho rfl ha hB (by omega) (by show (l.length+1)*104<=_;omega) fun p' c' w' a1 a2 _ a4=>h p' c' w' a1 (by rw [zaP] at a2;exact a2) a4
structure ThrQ (V:List UInt8) (l:List InsD):Prop where
 l12:l.length<=12
 ex:∀ x∈l,zeu x
 ok:jX l 6=true
 m:(zaD l (ded V)).length<=4096
abbrev zR (V:List UInt8) (l:List InsD):List PathD:=(zaD l (ded V)).map zcS
def wrE (R:RunD) (i:Nat) (v:UInt8):Bool:=(List.range i).any fun j=>decide ((R.ev j).k=2)&&decide ((R.ev j).v=v)
def wrL (rs:List RunD) (v:UInt8):Bool:=rs.any fun R=>wrE R R.many v
theorem zlC (rs:List RunD):zar rs=qo.filter (wrL rs):=rfl
def wrC (f:UInt8->Bool):List Value:=seg 256 fun i => .bool (f (UInt8.ofNat i))
theorem zlD (f:UInt8->Bool) {i:Nat} (h:i<256):(wrC f)[i]?=some (.bool (f (UInt8.ofNat i))):=zdK _ h
theorem zrr (f:UInt8->Bool) (x:UInt8):(wrC f).set x.toNat (.bool true)=wrC fun v=>f v||decide (x=v):=by
 have hx:=x.toNat_lt;apply KQ;intro j;by_cases hj:j<256
 ·rw [zlD _ hj];by_cases e:x.toNat=j
  ·subst e;rw [JC (by unfold wrC;rw [zM];exact hx),UInt8.ofNat_toNat,Uu rfl,Bool.or_true]
  ·rw [JV e,zlD _ hj];have:x≠UInt8.ofNat j:=fun h=>e (by rw [h,KH];omega);rw [Uj this,Uz]
 ·rw [JJ (by unfold wrC;rw [QS,zM];omega),JJ (by unfold wrC;rw [zM];omega)]
theorem zmN (f:UInt8->Bool):(wrC f).length=256:=zM _ _
theorem zo9 (rs:List RunD) (R:RunD) (v:UInt8):wrL (rs++[R]) v=(wrL rs v||wrE R R.many v):=by
 unfold wrL;rw [List.any_append];simp
theorem zpa (R:RunD) (i:Nat) (v:UInt8):wrE R (i+1) v=(wrE R i v||(decide ((R.ev i).k=2)&&decide ((R.ev i).v=v))):=by
 unfold wrE;rw [QY,List.any_append];simp
theorem zmj (p:UInt8->Bool) (x:UInt8):[x].filter p=if p x=true then [x] else []:=by
 rw [Qn,List.filter_nil]
theorem zqZ {k:Nat} (h:k<256):∃ hl:k<qo.length,qo[k]=UInt8.ofNat k:=by
 have hl:qo.length=256:=by unfold qo;rw [QQ,KV]
 refine⟨by rw [hl];exact h,?_⟩;simp [qo]
theorem zw2:List.replicate 256 (Value.bool false)=wrC fun _=>false:=by kernel_rfl
section
variable {l:List InsD} {dom:List UInt8} {q p:OA} {cap cd:Nat} {w:Wd}
theorem zo7 (hl:SlR qF w q l) (hp:SlR zW w p dom) (h12:l.length<=12) (hx:∀ x∈l,zeu x) (hR:∀ R∈zaD l dom,R.many<=24) (hm:(zaD l dom).length<=4096) (hqb:∀ a,q=some a->a.block<w.heap.size) (hpb:∀ a,p=some a->a.block<w.heap.size) (hdl:dom.length<=1000) :
  Calls PG 137 #[.slice q l.length cap,.slice p dom.length cd] w fun e w'=>(∃ (p':OA) (c':Nat),e = .returned (.tuple #[.slice p' (zar (zaD l dom)).length c',.bool true])/\OwnS zW 5 w.heap.size w' p' c' (zar (zaD l dom)))/\Bw w w':=by
 refine qa 55 [.slice q l.length cap,.slice p dom.length cd] (.c .p (.c .p (.c .p (.c .p (.s .p (.c .p .p)))))) Tryz.func137 ?_;obtain⟨L,hL⟩:=nm (w.heap.size);refine⟨Unit,fun _=>⟨[(0,.slice q l.length cap),(1,.slice p dom.length cd),(4,AtR L),(5,AtR (L+1))],[]⟩,fun _ X=>X.heap[L]?=some (.cells #[.slice none 0 0] 72 (0,0))/\X.heap[L+1]?=some (.cells #[.bool false] 4 (0,0))/\X.heap.size=L+2/\Bw w X,?_,?_⟩
 ·have s1:=wz w (.cells #[.slice none 0 0] 72);have h2:=zz (w.alloc (.cells #[.slice none 0 0] 72)) (.cells #[.bool false] 4);have s2:=wz (w.alloc (.cells #[.slice none 0 0] 72)) (.cells #[.bool false] 4);rw [s1] at h2 s2;refine⟨(),⟨.cons rfl (.cons rfl (.cons (by rw [hL];rfl) (.cons (by rw [hL,<- s1];rfl) .nil))),rfl⟩,?_,?_,?_,?_⟩
  ·rw [hL];exact qm _ (zz w _)
  ·rw [hL];exact h2
  ·rw [hL];exact s2
  ·exact ((zba w _)).alloc (by simp) _
 rintro _ X ⟨f0,f1,sX,hbX⟩;refine⟨Unit,fun _=>⟨[(0,.slice q l.length cap),(1,.slice p dom.length cd),(4,AtR L),(5,AtR (L+1)),(6,AtR (L+2))],[]⟩,fun _ Y=>Y.heap[L+2]?=some (.cells (wrC fun _=>false).toArray 281 (0,0))/\Y.heap.size=L+3/\Bw X Y,?_,?_⟩
 ·refine⟨(),⟨.cons rfl (.cons rfl (.cons rfl (.cons rfl (.cons (by rw [<- sX];rfl) .nil)))),rfl⟩,?_,?_,?_⟩
  ·rw [<- sX,<- zw2];exact zz X _
  ·have:=wz X (.cells (List.replicate 256 (Value.bool false)).toArray 281);rw [sX] at this;exact this
  ·exact (zba X _)
 rintro _ Y ⟨f2,sY,hbY⟩;refine⟨Unit,fun _=>⟨[(0,.slice q l.length cap),(1,.slice p dom.length cd),(4,AtR L),(5,AtR (L+1)),(6,AtR (L+2)),(7,AtR (L+3))],[]⟩,fun _ Z=>Z.heap[L+3]?=some (.cells [i64 (0:Nat)].toArray 3 (0,0))/\Z.heap.size=L+4/\Bw Y Z,?_,?_⟩
 ·refine zn (X:=Y) (v:=i64 0) k3 rfl rfl rfl fun Z hbZ fZ sZ=>?_;rw [sY] at fZ sZ;exact⟨(),⟨.cons rfl (.cons rfl (.cons rfl (.cons rfl (.cons rfl (.cons (by rw [<- sY];rfl) .nil))))),rfl⟩,fZ,sZ,hbZ⟩
 rintro _ V ⟨f3,sV,hbV⟩;have hXV:Bw X V:=zst hbY hbV;have hwV:=zst hbX hXV;have f0:=zb hXV f0;have f1:=zb hXV f1;have f2:=zb hbV f2;clear hbX hbY hbV hXV;obtain⟨xs,hxs⟩:=nm (zaD l dom);rw [<- hxs] at hR hm ⊢;refine⟨Nat,fun D1=>⟨[(4,AtR L),(5,AtR (L+1)),(6,AtR (L+2))],[{ target := .collected D1,args := #[] }]⟩,fun D1 U=>U.heap[L+2]?=some (.cells (wrC (wrL xs)).toArray 281 (0,0))/\U.heap[D1]?=some (.deferred (some []))/\L+2<D1/\Below (L+2) V U,?_,?_⟩
 ·refine cmo zjB ?_;rintro e W ⟨rfl,fi,fd,sW,hbW⟩;have hwW:=zst hwV hbW;have hI:=zmo (q:=q) (p:=p) (hl.below hwW) (hp.below hwW) fi fd (fun a ha=>by have:=hqb a ha;have:=hwW.size;omega) (fun a ha=>by have:=hpb a ha;have:=hwW.size;omega) h12 hx hdl;rw [<- hxs] at hI;obtain⟨J,hJ⟩:∃ J:List RunD->Wd->Prop,J=fun pre Y=>W.heap.size<=Y.heap.size/\Y.heap[L+2]?=some (.cells (wrC (wrL pre)).toArray 281 (0,0))/\Y.heap[L+3]?=some (.cells [i64 pre.length].toArray 3 (0,0))/\Below (L+2) W Y:=⟨_,rfl⟩;obtain⟨F0,hF0⟩:∃ F0:Nat->Prop,F0=fun k=>k=L+2\/k=L+3:=⟨_,rfl⟩;refine zdN (zbF _) rfl (lb := #[AtR V.heap.size,AtR (V.heap.size+1)]) rfl rfl hI (Ge _) (fun k hk=>⟨?_,rfl⟩) (fun pre vs W ⟨R,b,_,h,_⟩=>by rw [h];rfl) (by decide)
   F0 (fun pre F Y=>F=F0/\J pre Y) (fun _ _ _ _=>False) (fun k hk=>?_)
   (joG (F:=F0) (J:=J) (fun k h=>by rw [hF0] at h;omega) (fun s A h=>by rw [hJ] at h;exact h.1) (fun pre A B h hb=>by
    rw [hJ] at h ⊢;obtain⟨h1,h2,h3,h4⟩:=h;exact⟨UU h1 hb.size,zaA hb (by omega) h2,zaA hb (by omega) h3,h4.trans (hb.mono (by omega))⟩))
   (fun ex=>⟨fun _ _ _ _ h=>h.elim,fun _ _ _ _ h=>h.elim⟩) ⟨rfl,by rw [hJ];exact⟨Ge _,zb hbW f2,zb hbW f3,Gj _ _⟩⟩ ?_ ?_ ?_
  ·rcases hk with ((rfl | rfl) | ⟨a,ha,rfl⟩ | ⟨a,ha,rfl⟩) | h
   ·omega
   ·omega
   ·have:=hqb a ha;have:=hwW.size;omega
   ·have:=hpb a ha;have:=hwW.size;omega
   ·exact h.elim
  ·rw [hF0];rcases hk with (rfl | rfl) | ⟨a,ha,rfl⟩ | ⟨a,ha,rfl⟩
   ·omega
   ·omega
   ·have:=hqb a ha;omega
   ·have:=hpb a ha;omega
  ·rintro yl pre x vs F Y hyl hpre hJ0 ⟨R,b,hlast,rfl,fR⟩ hfy ⟨lo,hlo⟩;have hxR:x=R:=by simpa using hlast
   subst hxR;refine⟨rfl,F,KeepsG.refl _ _,hJ0,?_⟩;rintro o Y2 hY2 ⟨rfl,hJ2⟩;rw [hJ] at hJ2;obtain⟨h1,h2,h3,h4⟩:=hJ2;have hbl:b≠yl:=fun e=>by
    rw [e] at fR;rw [fR] at hlo
    cases hlo
   have fR2:zaW Y2 b x:=by rw [hY2];exact (zl hbl).trans fR
   have r1:=hR x (hpre.subset (by simp));have hpl:pre.length<xs.length:=by
    obtain⟨t,ht⟩:=hpre;rw [<- ht];simp only [lap,Qs];omega
   refine⟨_,zc (za h3) (i:=0) rfl,?_⟩;refine brN (Uj (by omega)) ?_;refine⟨_,zc (za h3) (i:=0) rfl,?_⟩;refine⟨((pre.length+1:Nat):Int),(zk (by omega)).trans (by omega),?_⟩;refine zy k3 h3 (o:=0) (v:=i64 (pre.length+1:Nat)) rfl rfl (by show 0<1;decide) rfl fun Z fZ gZ sZ=>?_;have fRZ:zaW Z b x:=(gZ.block b (hlt fR2) (fun e=>by
    have e:b=L+3:=(by simpa using e);rw [e] at fR2;rw [fR2] at h3;simp at h3)).trans fR2
   have f2Z:=(gZ.block (L+2) (hlt h2) (by simp)).trans h2;have kZ:KeepsG F F Y2 Z:=KeepsG.grown gZ (by rw [hF0];exact .inr rfl);have bZ:Below (L+2) W Z:=h4.trans (zq gZ (by omega) (by omega));refine DrawE.ord [] [0,1,2,3,4,5,6,7,8,9] (by kernel_rfl) ?_;have hdZ:Bw Z Z.drew:=(Gj _ _).drew;refine⟨_,zc (za (hdr fRZ)) (i:=18) (zb3 x),?_⟩;refine⟨x.many,rfl,r1,?_⟩;have ecut:je (some ⟨b,0+19,none⟩) 24 0 7=some ⟨b,19,none⟩:=by rw [zdm,UY]
   refine⟨Nat,fun i=>⟨[(6,AtR (L+2)),(7,AtR (L+3)),(29,.slice (some ⟨b,19,none⟩) (x.many-0) (24-0)),(30,i64 (x.many:Nat)),(31,i64 (i:Nat))],[]⟩,
    fun i T=>i<=x.many/\T.heap[L+2]?=some (.cells (wrC fun v=>wrL pre v||wrE x i v).toArray 281 (0,0))/\zaW T b x/\T.heap[L+3]?=some (.cells [i64 (pre.length+1:Nat)].toArray 3 (0,0))/\KeepsG F F Y2 T/\Below (L+2) W T,fun i=>x.many-i,0,
    ⟨.cons rfl (.cons rfl (.cons (by rw [<- ecut];rfl) (.cons rfl (.cons rfl .nil)))),rfl⟩,⟨Gg _,?_,hdr fRZ,hdr fZ,kZ.trans (KeepsG.below hdZ fun k h => .inl h),bZ.drew⟩,?_⟩
   ·have e:(fun v=>wrL pre v||wrE x 0 v)=wrL pre:=by
     funext v;show (wrL pre v||false)=_;rw [Uz]
    rw [e];exact f2Z
   rintro i T ⟨hi,t2,tR,t3,kT,bT⟩;have hTs:=kT.size;refine biE (fun hc=>?_) fun hc=>?_
   ·have hc:(i:Int)<(x.many:Int):=dT hc;have him:i<x.many:=(by omega);refine⟨i,rfl,him,?_⟩;have hev:zw T ⟨b,19+i*7,none⟩ (evE.enc (x.ev i)):=by
     have:=zV (n:=i*7) (m:=7) (zmV tR);rw [zqK x.ev (show i<24 by omega)] at this;exact this
    refine⟨evE.enc (x.ev i),rfl,hev,hlt tR,?_⟩;refine zn (X:=T) (v := .agg (evE.enc (x.ev i)).toArray) zd3 rfl rfl rfl fun T2 hb2 fT2 sT2=>?_;have k2:KeepsG F F Y2 T2:=kT.trans (KeepsG.below hb2 fun k h => .inl h);have b2:Below (L+2) W T2:=bT.trans (hb2.mono (by omega));have n1:=zpa x i;refine⟨_,zc (za fT2) (i:=1) rfl,?_⟩;have u2:=zb hb2 t2;have uR:=zb hb2 tR;have u3:=zb hb2 t3;refine biE (fun hk=>?_) fun hk=>?_
    ·have hk:(x.ev i).k=2:=qG.1 (dT hk);refine⟨_,zc (za fT2) (i:=3) rfl,?_⟩;refine⟨((x.ev i).v).toNat,rfl,((x.ev i).v).toNat_lt,?_⟩;refine zy k4 u2 (o:=0+((x.ev i).v).toNat*1) (v := .bool true) rfl rfl (by rw [zmN];have:=((x.ev i).v).toNat_lt;omega) rfl fun T3 fT3 gT3 sT3=>?_;rw [UY,Gf,zrr] at fT3;have k3:KeepsG F F Y2 T3:=k2.trans (KeepsG.grown gT3 (by rw [hF0];exact .inl rfl));have hT2s:=k2.size;refine nxI (by omega) ?_;refine⟨i+1,(cvE rfl rfl),⟨him,?_,(gT3.block b (hlt uR) (fun e=>by
      have e:b=L+2:=(by simpa using e);rw [e] at uR;rw [uR] at u2;simp at u2)).trans uR,(gT3.block (L+3) (hlt u3) (by simp)).trans u3,k3,b2.trans (zq gT3 (by omega) (Ge _))⟩,zdc (by omega)⟩
     have e:(fun v=>wrL pre v||wrE x (i+1) v)=fun v=>(wrL pre v||wrE x i v)||decide ((x.ev i).v=v):=by
      funext v;rw [n1,Uu hk,UA,Bool.or_assoc]
     rw [e];exact fT3
    ·have hk:¬ (x.ev i).k=2:=fun e=>(dF hk) (by rw [e];rfl);refine nxI (by omega) ?_;refine⟨i+1,(cvE rfl rfl),⟨him,?_,uR,u3,k2,b2⟩,zdc (by omega)⟩;have e:(fun v=>wrL pre v||wrE x (i+1) v)=fun v=>(wrL pre v||wrE x i v):=by
      funext v;rw [n1,Uj hk,Ul,Uz]
     rw [e];exact u2
   ·have hc:¬ (i:Int)<(x.many:Int):=dF hc;obtain rfl:i=x.many:=(by omega);refine⟨F,⟨rfl,?_⟩,kT⟩;rw [hJ];refine⟨by omega,?_,by rw [lap];exact t3,bT⟩;have e:wrL (pre++[x])=fun v=>wrL pre v||wrE x x.many v:=by
     funext v;exact zo9 pre x v
    rw [e];exact t2
  ·rintro D1 F Y hD hfD ⟨rfl,hj⟩ hdef;rw [hJ] at hj;obtain⟨h1,h2,h3,h4⟩:=hj;exact⟨D1,(cvE rfl rfl),h2,hdef,by omega,(hbW.mono (by omega)).trans h4⟩
  ·rintro D ex pre F Y hD hfD hpre h;exact h.elim
 clear f2 f3;rintro D1 U ⟨f2,fD1,hLD,bU⟩;have f0:U.heap[L]?=some (.cells #[.slice none 0 0] 72 (0,0)):=(bU.block L (by omega)).trans f0;have f1:U.heap[L+1]?=some (.cells #[.bool false] 4 (0,0)):=(bU.block (L+1) (by omega)).trans f1;have hwU:Bw w U:=hwV.trans (bU.mono (by omega));have sU:=hlt f2;have sD:=hlt fD1;clear bU hwV;refine⟨List UInt8×OA×Nat,fun s=>⟨[(4,AtR L),(5,AtR (L+1)),(11,.slice s.2.1 s.1.length s.2.2)],[{ target := .collected D1,args := #[] }]⟩,fun s Z=>s.1=zar xs/\OwnS zW 5 U.heap.size Z s.2.1 s.2.2 s.1/\Bw U Z,?_,?_⟩
 ·refine⟨wrC (wrL xs),zmN _,za f2,hlt f2,?_⟩;refine⟨Nat×OA×Nat,fun s=>⟨[(4,AtR L),(5,AtR (L+1)),(11,.slice s.2.1 ((qo.take s.1).filter (wrL xs)).length s.2.2),(42,.agg (wrC (wrL xs)).toArray),(43,i64 (s.1:Nat))],[{ target := .collected D1,args := #[] }]⟩,
   fun s Z=>s.1<=256/\OwnS zW 5 U.heap.size Z s.2.1 s.2.2 ((qo.take s.1).filter (wrL xs))/\Bw U Z,fun s=>256-s.1,(0,none,0),
   (cvE rfl rfl),⟨Gg _,OwnS.nil,Gj _ _⟩,?_⟩
  rintro⟨k,r,c⟩ Z ⟨hk,ho,hbZ⟩;dsimp only at hk ho ⊢;have hZs:=hbZ.size;refine biE (fun hc=>?_) fun hc=>?_
  ·have hc:(k:Int)<256:=dT hc;have hk2:k<256:=by omega
   have tk:qo.take (k+1)=qo.take k++[UInt8.ofNat k]:=by
    obtain⟨hlb,hbk⟩:=zqZ hk2;rw [tsg hlb,hbk]
   have fl:(qo.take (k+1)).filter (wrL xs)=(qo.take k).filter (wrL xs)++(if wrL xs (UInt8.ofNat k)=true then [UInt8.ofNat k] else []):=by
    rw [tk,Kv,zmj]
   have hfl:((qo.take k).filter (wrL xs)).length<=256:=by
    have h1:=JL (wrL xs) (qo.take k);rw [Qu] at h1;omega
   refine⟨k,rfl,hk2,?_⟩;refine zbv (by rw [Gf];exact zlD _ hk2) ?_;refine biE (fun hv=>?_) fun hv=>?_
   ·rw [Gz hv] at fl;refine⟨_,w8N k,?_⟩;refine⟨⟨by decide,by decide,rfl⟩,zW.enc (UInt8.ofNat k),rfl,?_⟩;have hba:Bw Z (Z.alloc (.cells (zW.enc (UInt8.ofNat k)).toArray 5)):=zba _ _;refine jr (E:=zW) (T:=5) (B:=U.heap.size) (l:=(qo.take k).filter (wrL xs)) (news:=[UInt8.ofNat k]) (cap:=c) (m:=1) Tryz.underlying72 k5 rfl rfl rfl (ho.below hba) rfl (qH zW (UInt8.ofNat k)) (by have:=hba.size;omega) (by omega) (by show (((qo.take k).filter (wrL xs)).length+1)*1<=_;omega) ?_;intro p2 c2 T oT gT hbT hat;refine nxI (by omega) ?_;refine⟨(k+1,p2,c2),⟨.cons rfl (.cons rfl (.cons (by rw [fl];rfl) (.cons rfl (.cons rfl .nil)))),rfl⟩,⟨hk2,by show OwnS zW _ _ _ _ _ ((qo.take (k+1)).filter (wrL xs));rw [fl];exact oT,(hbZ.trans (hba.mono hZs)).trans hbT⟩,zdc (by omega)⟩
   ·have hv:wrL xs (UInt8.ofNat k)=false:=hv;rw [hv,Gy Ku,QM] at fl;refine nxI (by omega) ?_;exact⟨(k+1,r,c),⟨.cons rfl (.cons rfl (.cons (by rw [fl];rfl) (.cons rfl (.cons rfl .nil)))),rfl⟩,⟨hk2,by show OwnS zW _ _ _ _ _ ((qo.take (k+1)).filter (wrL xs));rw [fl];exact ho,hbZ⟩,zdc (by omega)⟩
  ·have hc:¬ (k:Int)<256:=dF hc;obtain rfl:k=256:=by omega
   have e:(qo.take 256).filter (wrL xs)=zar xs:=by
    rw [zlC,JE (by unfold qo;rw [QQ,KV];exact Ge _)]
   rw [e] at ho;exact⟨(zar xs,r,c),⟨.cons rfl (.cons rfl (.cons (by rw [e];rfl) .nil)),rfl⟩,rfl,ho,hbZ⟩
 rintro⟨ys,r,c⟩ Z ⟨rfl,ho,hbZ⟩;dsimp only at ho ⊢;have hZs:=hbZ.size;have g0:=zb hbZ f0;have g1:=zb hbZ f1;have gD:=zb hbZ fD1;refine zy k72 g0 (o:=0) (v := .slice r (zar xs).length c) rfl rfl (by show 0<1;decide) rfl fun Z1 fZ1 gZ1 sZ1=>?_;have g1':=(gZ1.block (L+1) (hlt g1) (by simp)).trans g1;refine zy k4 g1' (o:=0) (v := .bool true) rfl rfl (by show 0<1;decide) rfl fun Z2 fZ2 gZ2 sZ2=>?_;have k2:∀ k,k<Z.heap.size->k≠L->k≠L+1->Z2.heap[k]?=Z.heap[k]?:=fun k hk n1 n2=>(gZ2.block k (by rw [sZ1];exact hk) (by simpa using n2)).trans (gZ1.block k hk (by simpa using n1));have fZ1':=(gZ2.block L (hlt fZ1) (by simp)).trans fZ1;refine⟨_,rfl,(k2 D1 (hlt gD) (by omega) (by omega)).trans gD,?_⟩;refine⟨.slice r (zar xs).length c,?_,.bool true,?_,⟨r,c,rfl,?_⟩,?_⟩
 ·exact zc (za ((zl (by omega)).trans fZ1')) (i:=0) rfl
 ·exact zc (za ((zl (by omega)).trans fZ2)) (i:=0) rfl
 ·refine OwnS.lower (ho.same fun a ha=>?_) hwU.size;have h:=za8 ho ha;exact (zl (by omega)).trans (k2 _ h.2.1 (by omega) (by omega))
 ·have hwZ:=zst hwU hbZ;exact jh ((hwZ.trans (zq gZ1 hwZ.size (by omega))).trans (zq gZ2 (by rw [sZ1];exact hwZ.size) (by omega))) (by omega) _
end
theorem zej {a b:Nat}:decide ((a:Int)<(b:Int))=decide (a<b):=by rw [QH];omega
def jH (c:Cnd):Bool:=decide (c.thread=0)&&(decide (c.n=0)&&decide (c.val=0))
theorem zaV {threads locs d:Nat} (c:Cnd):zaE threads locs (d+1) c=(if c.kind=0 then jH c&&decide (c.kids.length=0) else
  if c.kind=1 then decide (c.thread.toNat<threads)&&(decide (c.n.toNat<8)&&decide (c.kids.length=0)) else
  if c.kind=2 then decide (c.n.toNat<locs)&&(decide (c.thread=0)&&decide (c.kids.length=0)) else
  if c.kind=3\/c.kind=4 then jH c&&(decide (2<=c.kids.length)&&c.kids.all (zaE threads locs d)) else
  if c.kind=5 then jH c&&(decide (c.kids.length=1)&&c.kids.all (zaE threads locs d)) else false):=by
 obtain⟨k,t,n,v,kids⟩:=c;rfl
def ztI (c:Cnd):Prop:=(c.kind=3\/c.kind=4)/\jH c=true/\2<=c.kids.length\/c.kind=5/\jH c=true/\c.kids.length=1
theorem zmu {threads locs d:Nat} {c:Cnd} (h:ztI c):zaE threads locs (d+1) c=c.kids.all (zaE threads locs d):=by
 rw [zaV];rcases h with ⟨h1,h2,h3⟩ | ⟨h1,h2,h3⟩
 ·rw [Gy (by rcases h1 with h | h <;> rw [h] <;> decide),Gy (by rcases h1 with h | h <;> rw [h] <;> decide),Gy (by rcases h1 with h | h <;> rw [h] <;> decide),Gz h1,h2,Uu h3];rfl
 ·rw [Gy (by rw [h1];decide),Gy (by rw [h1];decide),Gy (by rw [h1];decide),Gy (by rw [h1];decide),Gz h1,h2,Uu h3];rfl
theorem zla {B threads locs:Nat} {w:Wd} (hB:B<=w.heap.size):∀ (d:Nat) (c:Cnd) (b o:Nat) (p:OA) (cap:Nat),d<=1000->b<B->zw w ⟨b,o,none⟩ (zbB c p cap)->KidsV B w p c.kids ->
  Calls PG 225 #[.pointer (some ⟨b,o,none⟩),i64 threads,i64 locs,i64 d] w fun e w'=>e = .returned (.bool (zaE threads locs d c))/\w=w':=by
 intro d
 induction d with
 | zero =>
  intro c b o p cap _ hb hc hk;refine zJ 141 [.pointer (some ⟨b,o,none⟩),i64 threads,i64 locs,i64 0] Tryz.func225 ?_;exact brT ⟨rfl,rfl⟩
 | succ d ih =>
  intro c b o p cap hd hb hc hk;refine qa 141 [.pointer (some ⟨b,o,none⟩),i64 threads,i64 locs,i64 (d+1:Nat)] (.s .p (.s .p (.c .p (.c .p .p)))) Tryz.func225 ?_;have hbl:b<w.heap.size:=nL hb hB;refine biE (fun h=>?_) fun h=>?_
  ·have h:((d+1:Nat):Int)=0:=dT h;omega
  clear h;refine⟨Unit,fun _=>⟨[(0,.pointer (some ⟨b,o,none⟩)),(1,i64 threads),(2,i64 locs),(3,i64 (d+1:Nat)),(9,.bool (jH c))],[]⟩,fun _ X=>w=X,?_,?_⟩
  ·have fin:∀ {v:Bool},v=jH c->some (Value.bool v)=some (.bool (jH c)):=fun h=>by rw [h]
   refine⟨_,zc hc (i:=1) rfl,biE (fun h1=>?_) fun h1=>?_⟩
   ·have h1:decide (c.thread=0)=true:=(u8d c.thread 0).symm.trans h1;refine⟨_,zc hc (i:=2) rfl,biE (fun h2=>?_) fun h2=>?_⟩
    ·have h2:decide (c.n=0)=true:=(u8d c.n 0).symm.trans h2;exact⟨_,zc hc (i:=3) rfl,(),⟨.cons rfl (.cons rfl (.cons rfl (.cons rfl (.cons (fin (by unfold jH;rw [h1,h2];exact u8d c.val 0)) .nil)))),rfl⟩,rfl⟩
    ·have h2:decide (c.n=0)=false:=(u8d c.n 0).symm.trans h2;exact⟨(),⟨.cons rfl (.cons rfl (.cons rfl (.cons rfl (.cons (fin (by unfold jH;rw [h1,h2];rfl)) .nil)))),rfl⟩,rfl⟩
   ·have h1:decide (c.thread=0)=false:=(u8d c.thread 0).symm.trans h1;exact brF ⟨(),⟨.cons rfl (.cons rfl (.cons rfl (.cons rfl (.cons (fin (by unfold jH;rw [h1];rfl)) .nil)))),rfl⟩,rfl⟩
  rintro _ _ rfl;refine⟨Unit,fun _=>⟨[(0,.pointer (some ⟨b,o,none⟩)),(1,i64 threads),(2,i64 locs),(3,i64 (d+1:Nat))],[]⟩,fun _ X=>ztI c/\w=X,?_,?_⟩
  ·have hkn:c.kids.length<=140737488351232:=by have:=hk.inv.1;omega
   refine⟨_,zc hc (i:=0) rfl,biE (fun h0=>?_) fun h0=>?_⟩
   ·have h0:c.kind=0:=dT ((u8d c.kind 0).symm.trans h0);have e:zaE threads locs (d+1) c=(jH c&&decide (c.kids.length=0)):=(by rw [zaV,Gz h0]);rw [e];refine biE (fun h=>?_) fun h=>?_
    ·have h:jH c=true:=h;exact⟨_,zc hc (i:=4) rfl,rb (by rw [h,UA];exact zcy),rfl⟩
    ·have h:jH c=false:=h;exact⟨rb (by rw [h];rfl),rfl⟩
   have h0:¬ c.kind=0:=dF ((u8d c.kind 0).symm.trans h0);refine biE (fun h1=>?_) fun h1=>?_
   ·have h1:c.kind=1:=dT ((u8d c.kind 1).symm.trans h1);have e:zaE threads locs (d+1) c=(decide (c.thread.toNat<threads)&&(decide (c.n.toNat<8)&&decide (c.kids.length=0))):=(by rw [zaV,Gy h0,Gz h1]);rw [e];refine⟨_,zc hc (i:=1) rfl,_,qN _,biE (fun h=>?_) fun h=>?_⟩
    ·have h:decide (c.thread.toNat<threads)=true:=zej.symm.trans h;refine⟨_,zc hc (i:=2) rfl,biE (fun h2=>?_) fun h2=>?_⟩
     ·have h2:decide (c.n.toNat<8)=true:=(zej (b:=8)).symm.trans h2;exact⟨_,zc hc (i:=4) rfl,rb (by rw [h,h2];exact zcy),rfl⟩
     ·have h2:decide (c.n.toNat<8)=false:=(zej (b:=8)).symm.trans h2;exact⟨rb (by rw [h,h2];rfl),rfl⟩
    ·have h:decide (c.thread.toNat<threads)=false:=zej.symm.trans h;exact brF ⟨rb (by rw [h];rfl),rfl⟩
   have h1:¬ c.kind=1:=dF ((u8d c.kind 1).symm.trans h1);refine biE (fun h2=>?_) fun h2=>?_
   ·have h2:c.kind=2:=dT ((u8d c.kind 2).symm.trans h2);have e:zaE threads locs (d+1) c=(decide (c.n.toNat<locs)&&(decide (c.thread=0)&&decide (c.kids.length=0))):=(by rw [zaV,Gy h0,Gy h1,Gz h2]);rw [e];refine⟨_,zc hc (i:=2) rfl,_,qN _,biE (fun h=>?_) fun h=>?_⟩
    ·have h:decide (c.n.toNat<locs)=true:=zej.symm.trans h;refine⟨_,zc hc (i:=1) rfl,biE (fun h3=>?_) fun h3=>?_⟩
     ·have h3:decide (c.thread=0)=true:=(u8d c.thread 0).symm.trans h3;exact⟨_,zc hc (i:=4) rfl,rb (by rw [h,h3];exact zcy),rfl⟩
     ·have h3:decide (c.thread=0)=false:=(u8d c.thread 0).symm.trans h3;exact⟨rb (by rw [h,h3];rfl),rfl⟩
    ·have h:decide (c.n.toNat<locs)=false:=zej.symm.trans h;exact brF ⟨rb (by rw [h];rfl),rfl⟩
   have h2:¬ c.kind=2:=dF ((u8d c.kind 2).symm.trans h2);have g34:∀ (hk34:c.kind=3\/c.kind=4),zaE threads locs (d+1) c=(jH c&&(decide (2<=c.kids.length)&&c.kids.all (zaE threads locs d))):=fun hk34=>by
    rw [zaV,Gy h0,Gy h1,Gy h2,Gz hk34]
   refine biE (fun h3=>?_) fun h3=>?_
   ·have h3':decide ((c.kind.toNat:Int)=3)=true:=h3;have h3:c.kind=3\/c.kind=4 := .inl (dT ((u8d c.kind 3).symm.trans h3));refine brE h3' (biE (fun h=>?_) fun h=>?_)
    ·have h:(!jH c)=true:=h;have h:jH c=false:=(by simpa using h);exact brT ⟨rb (by rw [g34 h3,h];rfl),rfl⟩
    ·have h:(!jH c)=false:=h;have h:jH c=true:=(by simpa using h);refine⟨_,zc hc (i:=4) rfl,biE (fun h4=>?_) fun h4=>?_⟩
     ·have h4:(c.kids.length:Int)<2:=dT h4;exact⟨rb (by rw [g34 h3,Uj (by omega)];simp),rfl⟩
     ·have h4:¬ (c.kids.length:Int)<2:=dF h4;exact⟨(),(cvE rfl rfl),.inl ⟨h3,h,by omega⟩,rfl⟩
   have h3:¬ c.kind=3:=dF ((u8d c.kind 3).symm.trans h3);refine biE (fun h4=>?_) fun h4=>?_
   ·have h3:c.kind=3\/c.kind=4 := .inr (dT ((u8d c.kind 4).symm.trans h4));refine biE (fun h=>?_) fun h=>?_
    ·have h:(!jH c)=true:=h;have h:jH c=false:=(by simpa using h);exact brT ⟨rb (by rw [g34 h3,h];rfl),rfl⟩
    ·have h:(!jH c)=false:=h;have h:jH c=true:=(by simpa using h);refine⟨_,zc hc (i:=4) rfl,biE (fun h4=>?_) fun h4=>?_⟩
     ·have h4:(c.kids.length:Int)<2:=dT h4;exact⟨rb (by rw [g34 h3,Uj (by omega)];simp),rfl⟩
     ·have h4:¬ (c.kids.length:Int)<2:=dF h4;exact⟨(),(cvE rfl rfl),.inl ⟨h3,h,by omega⟩,rfl⟩
   have h4:¬ c.kind=4:=dF ((u8d c.kind 4).symm.trans h4);have h34:¬ (c.kind=3\/c.kind=4):=fun h=>h.elim h3 h4;refine biE (fun h5=>?_) fun h5=>?_
   ·have h5:c.kind=5:=dT ((u8d c.kind 5).symm.trans h5);have e:zaE threads locs (d+1) c=(jH c&&(decide (c.kids.length=1)&&c.kids.all (zaE threads locs d))):=(by rw [zaV,Gy h0,Gy h1,Gy h2,Gy h34,Gz h5]);refine biE (fun h=>?_) fun h=>?_
    ·have h:(!jH c)=true:=h;have h:jH c=false:=(by simpa using h);exact brT ⟨rb (by rw [e,h];rfl),rfl⟩
    ·have h:(!jH c)=false:=h;have h:jH c=true:=(by simpa using h);refine⟨_,zc hc (i:=4) rfl,biE (fun h4=>?_) fun h4=>?_⟩
     ·have h4:(!decide ((c.kids.length:Int)=1))=true:=h4;have h4:¬ (c.kids.length:Int)=1:=(by simpa using h4);exact⟨rb (by rw [e,Uj (by omega)];simp),rfl⟩
     ·have h4:(!decide ((c.kids.length:Int)=1))=false:=h4;have h4:(c.kids.length:Int)=1:=(by simpa using h4);exact⟨(),(cvE rfl rfl),.inr ⟨h5,h,by omega⟩,rfl⟩
   have h5:¬ c.kind=5:=dF ((u8d c.kind 5).symm.trans h5);exact⟨rb (by rw [zaV,Gy h0,Gy h1,Gy h2,Gy h34,Gy h5]),rfl⟩
  rintro _ _ ⟨ha,rfl⟩;rw [zmu ha];refine⟨_,zc hc (i:=4) rfl,?_⟩;obtain⟨hn,b1,o1,hp,hks⟩:=hk.inv;refine⟨Nat,fun k=>⟨[(0,.pointer (some ⟨b,o,none⟩)),(1,i64 threads),(2,i64 locs),(3,i64 (d+1:Nat)),(124,i64 c.kids.length),(125,i64 (k:Nat))],[]⟩,fun k X=>k<=c.kids.length/\(∀ x∈c.kids.take k,zaE threads locs d x=true)/\w=X,fun k=>c.kids.length-k,0,
   (cvE rfl rfl),⟨Gg _,by simp,rfl⟩,?_⟩
  rintro k _ ⟨hk,hall,rfl⟩;dsimp only at hk hall ⊢;refine biE (fun hc2=>?_) fun hc2=>?_
  ·have hc2:(k:Int)<(c.kids.length:Int):=dT hc2;have hkl:k<c.kids.length:=by omega
   rcases hp with hp | rfl
   ·omega
   obtain⟨q,cq,hb1,hq,hkq⟩:=hks k hkl;refine⟨_,zc hc (i:=4) rfl,k,rfl,hkl,(d:Int),(zk (by omega)).trans (by omega),cmo (ih c.kids[k] b1 (o1+k*5) q cq (by omega) hb1 hq hkq) ?_⟩;rintro e _ ⟨rfl,rfl⟩;refine biE (fun h=>?_) fun h=>?_
   ·have h:(!zaE threads locs d c.kids[k])=true:=h;refine⟨rb ?_,rfl⟩;symm;rw [KM];exact⟨c.kids[k],gM _,by simpa using h⟩
   ·have h:(!zaE threads locs d c.kids[k])=false:=h;refine⟨_,(zk (by omega)).trans rfl,k+1,(cvE rfl rfl),⟨hkl,?_,rfl⟩,zdc (by omega)⟩;rw [tsg hkl];intro x hx;rcases QU.1 hx with hx | hx
    ·exact hall x hx
    ·simp only [KA] at hx;rw [hx];simpa using h
  ·have hc2:¬ (k:Int)<(c.kids.length:Int):=dF hc2;obtain rfl:k=c.kids.length:=by omega
   rw [Qw] at hall;exact⟨rb (Qj.2 hall).symm,rfl⟩
theorem zvw {B threads locs cap:Nat} {p:OA} {c:Cnd} {w:Wd} (hB:B<=w.heap.size) (hk:KidsV B w p c.kids) :
  CB 192 #[.agg (zbB c p cap).toArray,i64 threads,i64 locs] w (.bool (zaE threads locs 20 c)):=by
 refine zJ 10 [.agg (zbB c p cap).toArray,i64 threads,i64 locs] Tryz.func192 ?_;have hb:Bw w (w.alloc (.cells (zbB c p cap).toArray 101)):=zba w _;have hn:=zz w (.cells (zbB c p cap).toArray 101);refine cmo (zla (B:=w.heap.size+1) (by rw [wz];omega) 20 c w.heap.size 0 p cap (by omega) (by omega) (za hn) ((hk.kept (hb.mono hB)).wider (by omega))) ?_;rintro e _ ⟨rfl,rfl⟩;exact⟨rfl,hb⟩
theorem zkG {g:Nat} {p:Prg} {p1 p2 p3 p4:OA} {c1 c2 c3 c4 B:Nat} {w:Wd} (hc:zw w ⟨g,0,none⟩ (zam p p1 c1 p2 c2 p3 c3 p4 c4)) (hg:g<w.heap.size) (h1:RowB zma B w p1 p.locs) (hB:B<=w.heap.size) (hcap:p.locs.length<=c1) (hl:PrgLen p) :
  CB 184 #[At0 g] w (.bool (zfu p)):=by
 refine qa 56 [At0 g] (.s .p (.c .p .p)) Tryz.func184 ?_;have hbd:Bw w w.drew:=(Gj _ w).drew;have hcd:zw w.drew ⟨g,0,none⟩ (zam p p1 c1 p2 c2 p3 c3 p4 c4):=zt hbd hc;have h1d:SlR zma w.drew p1 p.locs:=(h1.below (hbd.mono hB)).slr (UU hB hbd.size);have hln:=hl.locs;refine⟨Unit,fun _=>⟨[(0,At0 g)],[]⟩,fun _ X=>(1<=p.locs.length/\p.locs.length<=6/\p.init.length=p.locs.length)/\X=w.drew,?_,?_⟩
 ·refine DrawE.ord [] [0,1,2,3,4,5,6,7,8,9,10,11,12,13,14,15,16,17,18,19,20,21,22,23,24,25,26] (by kernel_rfl) ⟨_,zc hcd (i:=1) rfl,biE (fun ha=>?_) fun ha=>?_⟩
  ·have ha:(p.locs.length:Int)<1:=dT ha;exact brT (brT ⟨rb (by unfold zfu;rw [Uj (by omega)];rfl),hbd⟩)
  ·have ha:¬ (p.locs.length:Int)<1:=dF ha;refine⟨_,zc hcd (i:=1) rfl,biE (fun hd=>?_) fun hd=>?_⟩
   ·have hd:(6:Int)<(p.locs.length:Int):=dT hd;exact brT ⟨rb (by unfold zfu;rw [Uj (p:=p.locs.length<=6) (by omega)];simp),hbd⟩
   ·have hd:¬ (6:Int)<(p.locs.length:Int):=dF hd;refine⟨_,zc hcd (i:=2) rfl,_,zc hcd (i:=1) rfl,biE (fun he=>?_) fun he=>?_⟩
    ·have he:(!decide ((p.init.length:Int)=(p.locs.length:Int)))=true:=he;have he:¬ (p.init.length:Int)=(p.locs.length:Int):=(by simpa using he);exact⟨rb (by unfold zfu;rw [Uj (p:=p.init.length=p.locs.length) (by omega)];simp),hbd⟩
    ·have he:(!decide ((p.init.length:Int)=(p.locs.length:Int)))=false:=he;have he:(p.init.length:Int)=(p.locs.length:Int):=(by simpa using he);exact⟨(),(cvE rfl rfl),⟨by omega,by omega,by omega⟩,rfl⟩
 rintro _ _ ⟨⟨l1,l6,li⟩,rfl⟩;have hdef:zfu p=zeM [] p.locs:=by unfold zfu;rw [Uu l1,Uu l6,Uu li];rfl
 rw [hdef];refine⟨_,zc hcd (i:=1) rfl,?_⟩;refine⟨Nat,fun k=>⟨[(0,At0 g),(35,.slice p1 p.locs.length c1),(36,i64 p.locs.length),(37,i64 (k:Nat))],[]⟩,fun k X=>k<=p.locs.length/\zeM (p.locs.take k) (p.locs.drop k)=zeM [] p.locs/\X=w.drew,fun k=>p.locs.length-k,0,
  (cvE rfl rfl),⟨Gg _,rfl,rfl⟩,?_⟩
 rintro k _ ⟨hk,hna,rfl⟩;dsimp only at hk hna ⊢;refine biE (fun hc2=>?_) fun hc2=>?_
 ·have hc2:(k:Int)<(p.locs.length:Int):=dT hc2;have hkl:k<p.locs.length:=by omega
  obtain⟨b,o,rfl,hb,hat⟩:=h1d.at hkl;have hbk:Bw w w.drew:=hbd;refine⟨k,rfl,hkl,_,zc (hat k hkl) (i:=0) rfl,?_⟩;have hs:p.locs[k].length<=140737488351232:=hl.loc _ (gM _);have hstep:zeM [] p.locs=(zfq p.locs[k]&&(!((p.locs.take k).any fun q=>decide (q=p.locs[k]))&&zeM (p.locs.take (k+1)) (p.locs.drop (k+1)))):=by
   rw [<- hna,Jo hkl,tsg hkl];rfl
  refine cmo (zvn p.locs[k] hs _) ?_;rintro e _ ⟨rfl,rfl⟩;refine biE (fun h=>?_) fun h=>?_
  ·have h:(!zfq p.locs[k])=true:=h;have h:zfq p.locs[k]=false:=by simpa using h
   exact brT ⟨rb (by rw [hstep,h];rfl),hbd⟩
  ·have h:(!zfq p.locs[k])=false:=h;have h:zfq p.locs[k]=true:=by simpa using h
   refine⟨_,zc hcd (i:=1) rfl,k,rfl,by omega,?_⟩;have hsub:SlR zma w.drew (je (some ⟨b,o,none⟩) c1 0 1) (p.locs.take k):=SlR.sub h1d (lo:=0) (hi:=k) (Gg _) (by omega) hcap;have htl:(p.locs.take k).length=k:=by rw [Qu];omega
   have hcn:=zmG (je (some ⟨b,o,none⟩) c1 0 1) (c1-0) (p.locs.take k) p.locs[k] w.drew hsub (by omega);rw [htl] at hcn;refine cmo hcn ?_;rintro e _ ⟨rfl,rfl⟩;refine biE (fun h5=>?_) fun h5=>?_
   ·have h5:((p.locs.take k).any fun q=>decide (q=p.locs[k]))=true:=h5;exact⟨rb (by rw [hstep,h5];simp),hbd⟩
   ·have h5:((p.locs.take k).any fun q=>decide (q=p.locs[k]))=false:=h5;exact⟨_,(zk (by omega)).trans rfl,k+1,(cvE rfl rfl),⟨hkl,by rw [hstep,h,h5];rfl,rfl⟩,zdc (by omega)⟩
 ·have hc2:¬ (k:Int)<(p.locs.length:Int):=dF hc2;obtain rfl:k=p.locs.length:=by omega
  rw [Qm] at hna;exact⟨rb hna,hbd⟩
structure DmV (B:Nat) (X:Wd) (g bx:Nat) (p:Prg):Prop where
 hB:B<=X.heap.size
 hg:g<X.heap.size
 len:PrgLen p
 h:∃ p1 c1 p2 c2 p3 c3 p4 c4,zw X ⟨g,0,none⟩ (zam p p1 c1 p2 c2 p3 c3 p4 c4)/\RowB zma B X p1 p.locs/\RowB zW B X p2 p.init/\ThrsV B X p3 p.threads/\KidsV B X p4 p.cond.kids/\p.locs.length<=c1
 b:X.heap[bx]?=some (.cells #[At0 g] 169 (0,0))
 G:GlobC X
theorem DmV.below {B:Nat} {X Y:Wd} {g bx:Nat} {p:Prg} (h:DmV B X g bx p) (hb:Bw X Y):DmV B Y g bx p:=by
 obtain⟨p1,c1,p2,c2,p3,c3,p4,c4,h0,h1,h2,h3,h4,h5⟩:=h.h;have hb':=hb.mono h.hB;exact⟨UU h.hB hb.size,nL h.hg hb.size,h.len,⟨p1,c1,p2,c2,p3,c3,p4,c4,zt hb h0,h1.below hb',h2.below hb',h3.below hb',h4.kept hb',h5⟩,zb hb h.b,h.G.below hb⟩
def zlW (sel:Bool) (bx:Nat):Value:=match sel with
 | false => .func (.func 186) #[] #[]
 | true => .func (.func 188) #[] #[.pointer (some ⟨bx,0,none⟩)]
def zcG (sel:Bool) (p:Prg) (l:List InsD):Bool:=match sel with
 | false=>decide (l.length<=12)
 | true=>jX l p.locs.length
section
variable {B g bx:Nat} {p:Prg} {w:Wd}
theorem zrH (q:OA) (cap:Nat) (l:List InsD):Calls PG 186 #[.slice q l.length cap] w fun e w'=>e = .returned (.bool (decide (l.length<=12)))/\w=w':=by
 refine zJ 6 [.slice q l.length cap] Tryz.func186 ?_;refine⟨rb ?_,rfl⟩;rw [QH];show ((l.length:Int)<=12)↔_;omega
theorem zpn (h:DmV B w g bx p) {q:OA} {cap:Nat} {l:List InsD} (hl:SlR qF w q l) (hn:l.length<=140737488351232) :
  CB 188 #[.slice q l.length cap,At0 bx] w (.bool (jX l p.locs.length)):=by
 refine zJ 11 [.slice q l.length cap,At0 bx] Tryz.func188 ?_;obtain⟨p1,c1,p2,c2,p3,c3,p4,c4,h0,h1,h2,h3,h4,h5⟩:=h.h;refine⟨_,zc (za h.b) (i:=0) rfl,_,zc h0 (i:=1) rfl,cmo (zlw hl h.G hn) ?_⟩;rintro e V ⟨rfl,hb⟩;exact⟨rfl,hb⟩
theorem znq (sel:Bool) (h:DmV B w g bx p):CB 180 #[zlW sel bx,At0 bx] w (.bool (p.threads.all (zcG sel p))):=by
 refine zJ 20 [zlW sel bx,At0 bx] Tryz.func180 ?_;obtain⟨p1,c1,p2,c2,p3,c3,p4,c4,h0,h1,h2,h3,h4,h5⟩:=h.h;obtain⟨xs,hxs,hr,hx⟩:=h3;have hlen:p.threads.length=xs.length:=by rw [<- hxs,QQ]
 have hln:=h.len.threads;refine⟨_,zc (za h.b) (i:=0) rfl,_,zc h0 (i:=3) rfl,?_⟩;refine⟨Nat,fun k=>⟨[(0,zlW sel bx),(1,At0 bx),(9,.slice p3 p.threads.length c3),(10,i64 p.threads.length),(11,i64 (k:Nat))],[]⟩,fun k X=>k<=p.threads.length/\(∀ l∈p.threads.take k,zcG sel p l=true)/\Bw w X,fun k=>p.threads.length-k,0,
  (cvE rfl rfl),⟨Gg _,by simp,Gj _ _⟩,?_⟩
 rintro k X ⟨hk,hall,hbX⟩;dsimp only at hk hall ⊢;have hX:=h.below hbX;refine biE (fun hc=>?_) fun hc=>?_
 ·have hc:(k:Int)<(p.threads.length:Int):=dT hc;have hkl:k<p.threads.length:=by omega
  have hkx:k<xs.length:=by omega
  have e1:p.threads[k]=xs[k].1:=by simp [<- hxs]
  obtain⟨b,o,hp3,hat⟩:=hr.get;rcases hp3 with hp3 | rfl
  ·omega
  refine⟨k,rfl,hkl,?_⟩;obtain⟨hb1,ha1⟩:=hat k hkx;refine⟨_,zc (jf (hbX.mono h.hB) hb1 ha1) (i:=0) rfl,?_⟩;have zcI:SlR qF X xs[k].2.1 xs[k].1:=((hx _ (gM hkx)).below (hbX.mono h.hB)).slr hX.hB;have hln1:xs[k].1.length<=140737488351232:=by rw [<- e1];exact h.len.thread _ (gM _)
  have hfin:zcG sel p xs[k].1=false->p.threads.all (zcG sel p)=false:=fun hf=>by
   rw [KM];exact⟨p.threads[k],gM _,by rw [e1,hf];simp⟩
  have hgo:zcG sel p xs[k].1=true->∀ l∈p.threads.take (k+1),zcG sel p l=true:=fun ht=>by
   rw [tsg hkl];intro x hx;rcases QU.1 hx with hx | hx
   ·exact hall x hx
   ·simp only [KA] at hx;rw [hx,e1];exact ht
  cases sel with
  | false =>
   refine cmo (zrH xs[k].2.1 xs[k].2.2 xs[k].1) ?_;rintro e _ ⟨rfl,rfl⟩;refine biE (fun hb=>?_) fun hb=>?_
   ·have hb:(!zcG false p xs[k].1)=true:=hb;exact⟨rb (hfin (by simpa using hb)).symm,hbX⟩
   ·have hb:(!zcG false p xs[k].1)=false:=hb;exact⟨_,(zk (by omega)).trans rfl,k+1,(cvE rfl rfl),⟨hkl,hgo (by simpa using hb),hbX⟩,zdc (by omega)⟩
  | true =>
   refine cmo (zpn hX (cap:=xs[k].2.2) zcI hln1) ?_;rintro e Y ⟨rfl,hbY⟩;refine biE (fun hb=>?_) fun hb=>?_
   ·have hb:(!zcG true p xs[k].1)=true:=hb;exact⟨rb (hfin (by simpa using hb)).symm,(zst hbX hbY)⟩
   ·have hb:(!zcG true p xs[k].1)=false:=hb;exact⟨_,(zk (by omega)).trans rfl,k+1,(cvE rfl rfl),⟨hkl,hgo (by simpa using hb),(zst hbX hbY)⟩,zdc (by omega)⟩
 ·have hc:¬ (k:Int)<(p.threads.length:Int):=dF hc;obtain rfl:k=p.threads.length:=by omega
  rw [Qw] at hall;exact⟨rb (Qj.2 hall).symm,hbX⟩
theorem zuR (h:DmV B w g bx p):CB 181 #[At0 bx] w (.bool (zem p.name)):=by
 refine zJ 7 [At0 bx] Tryz.func181 ?_;obtain⟨p1,c1,p2,c2,p3,c3,p4,c4,h0,h1,h2,h3,h4,h5⟩:=h.h;refine⟨_,zc (za h.b) (i:=0) rfl,_,zc h0 (i:=0) rfl,cmo (zqk p.name h.len.name w) ?_⟩;rintro e V ⟨rfl,hb⟩;exact⟨rfl,hb⟩
theorem zuQ (h:DmV B w g bx p):CB 183 #[At0 bx] w (.bool (zfu p)):=by
 refine zJ 4 [At0 bx] Tryz.func183 ?_;obtain⟨p1,c1,p2,c2,p3,c3,p4,c4,h0,h1,h2,h3,h4,h5⟩:=h.h;refine⟨_,zc (za h.b) (i:=0) rfl,cmo (zkG h0 h.hg h1 h.hB h5 h.len) ?_⟩;rintro e V ⟨rfl,hb⟩;exact⟨rfl,hb⟩
def evV (bx:Nat):Value := .func (.func 180) #[] #[At0 bx]
theorem zuP (h:DmV B w g bx p) {ev:Nat} (hev:w.heap[ev]?=some (.cells #[evV bx] 276 (0,0))):CB 185 #[At0 bx,At0 ev] w (.bool (decide (1<=p.threads.length)&&(decide (p.threads.length<=4)&&p.threads.all fun l=>decide (l.length<=12)))):=by
 refine zJ 21 [At0 bx,At0 ev] Tryz.func185 ?_;obtain⟨p1,c1,p2,c2,p3,c3,p4,c4,h0,h1,h2,h3,h4,h5⟩:=h.h;refine⟨_,zc (za h.b) (i:=0) rfl,_,zc h0 (i:=3) rfl,biE (fun ha=>?_) fun ha=>?_⟩
 ·have ha:(1:Int)<=(p.threads.length:Int):=dT ha;refine⟨_,zc (za h.b) (i:=0) rfl,_,zc h0 (i:=3) rfl,biE (fun hb=>?_) fun hb=>?_⟩
  ·have hb:(p.threads.length:Int)<=4:=dT hb;refine⟨_,zc (za hev) (i:=0) rfl,cmo (znq false h) ?_⟩;rintro e V ⟨rfl,hbV⟩;refine⟨rb ?_,hbV⟩;rw [Uu (by omega),Uu (by omega),UA,UA];rfl
  ·have hb:¬ (p.threads.length:Int)<=4:=dF hb;exact⟨rb (by rw [Uj (p:=p.threads.length<=4) (by omega)];simp),Gj _ _⟩
 ·have ha:¬ (1:Int)<=(p.threads.length:Int):=dF ha;exact brF ⟨rb (by rw [Uj (p:=1<=p.threads.length) (by omega)];rfl),Gj _ _⟩
theorem zuO (h:DmV B w g bx p) {ev:Nat} (hev:w.heap[ev]?=some (.cells #[evV bx] 276 (0,0))):CB 187 #[At0 ev,At0 bx] w (.bool (p.threads.all fun l=>jX l p.locs.length)):=by
 refine zJ 6 [At0 ev,At0 bx] Tryz.func187 ?_;refine⟨_,zc (za hev) (i:=0) rfl,cmo (znq true h) ?_⟩;rintro e V ⟨rfl,hbV⟩;exact⟨rfl,hbV⟩
theorem zuN (h:DmV B w g bx p):CB 190 #[At0 bx] w (.bool (decide (p.ask=1)||(decide (p.ask=2)||decide (p.ask=3)))):=by
 refine zJ 21 [At0 bx] Tryz.func190 ?_;obtain⟨p1,c1,p2,c2,p3,c3,p4,c4,h0,h1,h2,h3,h4,h5⟩:=h.h;refine⟨_,zc (za h.b) (i:=0) rfl,_,zc h0 (i:=4) rfl,biE (fun ha=>?_) fun ha=>?_⟩
 ·have ha:decide (p.ask=1)=true:=(u8d p.ask 1).symm.trans ha;exact brT ⟨rb (by rw [ha];rfl),Gj _ _⟩
 ·have ha:decide (p.ask=1)=false:=(u8d p.ask 1).symm.trans ha;refine⟨_,zc (za h.b) (i:=0) rfl,_,zc h0 (i:=4) rfl,biE (fun hb=>?_) fun hb=>?_⟩
  ·have hb:decide (p.ask=2)=true:=(u8d p.ask 2).symm.trans hb;exact⟨rb (by rw [ha,hb];rfl),Gj _ _⟩
  ·have hb:decide (p.ask=2)=false:=(u8d p.ask 2).symm.trans hb;exact⟨_,zc (za h.b) (i:=0) rfl,_,zc h0 (i:=4) rfl,rb (by rw [ha,hb];exact u8d p.ask 3),Gj _ _⟩
theorem zuM (h:DmV B w g bx p):CB 191 #[At0 bx] w (.bool (zaE p.threads.length p.locs.length 20 p.cond)):=by
 refine zJ 17 [At0 bx] Tryz.func191 ?_;have hbd:Bw w w.drew:=(Gj _ w).drew;have hd:=h.below hbd;obtain⟨p1,c1,p2,c2,p3,c3,p4,c4,h0,h1,h2,h3,h4,h5⟩:=hd.h;refine DrawE.ord [] [0,1,2,3,4,5,6,7,8,9,10,11,12,13,14,15] (by kernel_rfl) ⟨_,zc (za hd.b) (i:=0) rfl,zbB p.cond p4 c4,rfl,zV (n:=5) (m:=5) h0,hd.hg,_,zc (za hd.b) (i:=0) rfl,_,zc h0 (i:=3) rfl,_,zc (za hd.b) (i:=0) rfl,_,zc h0 (i:=1) rfl,cmo (zvw hd.hB h4) ?_⟩;rintro e V ⟨rfl,hbV⟩;exact⟨hbV,rfl,hbd.trans hbV⟩
def zuL (bx ev:Nat):List Value:=[i64 70,.func (.func 181) #[] #[At0 bx],i64 71,.func (.func 183) #[] #[At0 bx],
 i64 72,.func (.func 185) #[] #[At0 bx,At0 ev],i64 73,.func (.func 187) #[] #[At0 ev,At0 bx],
 i64 75,.func (.func 190) #[] #[At0 bx],i64 74,.func (.func 191) #[] #[At0 bx]]
theorem zoM {g:Nat} {w:Wd}:Calls PG 134 #[At0 g] w fun e w'=>e = .returned (.slice (some ⟨w.heap.size+2,0,none⟩) 6 6) /\
  w'.heap[w.heap.size]?=some (.cells #[At0 g] 169 (0,0))/\w'.heap[w.heap.size+1]?=some (.cells #[evV w.heap.size] 276 (0,0)) /\
  w'.heap[w.heap.size+2]?=some (.cells (zuL w.heap.size (w.heap.size+1)).toArray 228 (0,0))/\w'.heap.size=w.heap.size+3/\Bw w w':=by
 refine zJ 18 [At0 g] Tryz.func134 ?_;have hs:=wz w (.cells (At0 g).cells 169);refine zn (X:=w.alloc (.cells (At0 g).cells 169)) (v:=evV w.heap.size) zxq rfl rfl rfl fun V hbV fV sV=>?_;generalize hev:(w.alloc (.cells (At0 g).cells 169)).heap.size=ev at *;refine⟨[i64 70,.func (.func 181) #[] #[.pointer (some ⟨w.heap.size,0,none⟩)]],rfl,[i64 71,.func (.func 183) #[] #[.pointer (some ⟨w.heap.size,0,none⟩)]],rfl,[i64 72,.func (.func 185) #[] #[.pointer (some ⟨w.heap.size,0,none⟩),At0 ev]],rfl,[i64 73,.func (.func 187) #[] #[At0 ev,.pointer (some ⟨w.heap.size,0,none⟩)]],rfl,[i64 75,.func (.func 190) #[] #[.pointer (some ⟨w.heap.size,0,none⟩)]],rfl,[i64 74,.func (.func 191) #[] #[.pointer (some ⟨w.heap.size,0,none⟩)]],rfl,⟨by decide,by decide,rfl⟩,zuL w.heap.size ev,rfl,?_⟩;subst hs;refine⟨?_,?_,?_,?_,?_,?_⟩
 ·rw [sV];rfl
 ·exact qm _ (zb (show Below _ _ _ from hev▸hbV) (zz w _))
 ·exact qm _ fV
 ·rw [show w.heap.size+2=V.heap.size from sV.symm];exact zz _ _
 ·rw [wz,sV]
 ·exact (((zba w _)).trans (hbV.mono (by omega))).alloc (by omega) _
end
def okL (p:Prg):List Bool:=[zem p.name,zfu p,decide (1<=p.threads.length)&&(decide (p.threads.length<=4)&&p.threads.all fun l=>decide (l.length<=12)),p.threads.all (fun l=>jX l p.locs.length),
 decide (p.ask=1)||(decide (p.ask=2)||decide (p.ask=3)),zaE p.threads.length p.locs.length 20 p.cond]
theorem zm8 {p:Prg}:zhk p=(okL p).all id:=by
 unfold zhk okL;simp only [UD,List.all_nil,Bool.and_true,id]
theorem znK {B:Nat} {p:Prg} {vs:List Value} {w:Wd} (hB:B<=w.heap.size) (hp:PrgV B w vs p) (hG:GlobC w) :
  Calls PG 85 #[.agg vs.toArray] w fun e w'=>∃ n:Int,e = .returned (i64 n)/\(n=0↔zhk p=true)/\Bw w w':=by
 obtain⟨hl,p1,c1,p2,c2,p3,c3,p4,c4,rfl,h1,h2,h3,h4,h5⟩:=hp;refine zJ 18 [.agg (zam p p1 c1 p2 c2 p3 c3 p4 c4).toArray] Tryz.func85 ?_;obtain⟨L,hL⟩:=nm (w.heap.size);have hn:=zz w (.cells (Value.agg (zam p p1 c1 p2 c2 p3 c3 p4 c4).toArray).cells 103);have hs:=wz w (.cells (Value.agg (zam p p1 c1 p2 c2 p3 c3 p4 c4).toArray).cells 103);have hb:Bw w (w.alloc (.cells (Value.agg (zam p p1 c1 p2 c2 p3 c3 p4 c4).toArray).cells 103)):=zba w _;refine cmo zoM ?_;rintro e V ⟨rfl,hbx,hev,hsl,hsz,hbV⟩;have hbw:Bw w V:=zst hb hbV;have p1':some (Value.slice (some ⟨(w.alloc (.cells (Value.agg (zam p p1 c1 p2 c2 p3 c3 p4 c4).toArray).cells 103)).heap.size+2,0,none⟩) 6 6)=some (Value.slice (some ⟨L+3,0,none⟩) 6 6):=by rw [hs,hL]
 have hD:DmV B V L (L+1) p:=by
  have hbB:=hbw.mono hB;rw [hs,<- hL] at hbx;refine⟨UU hB hbw.size,by omega,hl,⟨p1,c1,p2,c2,p3,c3,p4,c4,za (zb hbV (hL▸hn)),h1.below hbB,h2.below hbB,h3.below hbB,h4.kept hbB,h5⟩,hbx,hG.below hbw⟩
 rw [hs,<- hL] at hev hsl;clear hn hs hb hbx hbV hsz;refine⟨Nat,fun j=>⟨[(5,.slice (some ⟨L+3,0,none⟩) 6 6),(6,i64 6),(7,i64 (j:Nat))],[]⟩,
  fun j X=>j<=6/\(∀ i,i<j->(okL p)[i]?=some true)/\DmV B X L (L+1) p/\X.heap[L+2]?=some (.cells #[evV (L+1)] 276 (0,0))/\X.heap[L+3]?=some (.cells (zuL (L+1) (L+2)).toArray 228 (0,0))/\Bw w X,fun j=>6-j,0,
  ⟨.cons p1' (.cons rfl (.cons rfl .nil)),rfl⟩,⟨Gg _,fun i hi=>by omega,hD,hev,hsl,hbw⟩,?_⟩
 clear hD hev hsl hbw p1';rintro j X ⟨hj,hpre,hD,hev,hsl,hbw⟩;dsimp only at hj hpre ⊢;refine biE (fun hc=>?_) fun hc=>?_
 ·have hc:(j:Int)<6:=dT hc;have hno:∀ {i:Nat},(okL p)[i]?=some false->zhk p=false:=fun h=>by rw [zm8];exact zq8 h
  have hcs:j=0\/j=1\/j=2\/j=3\/j=4\/j=5:=by omega
  rcases hcs with rfl | rfl | rfl | rfl | rfl | rfl
  ·refine⟨0,rfl,by decide,?_⟩;refine⟨[i64 70,.func (.func 181) #[] #[At0 (L+1)]],rfl,zV (n:=0) (m:=2) (za hsl),hlt hsl,zn (X:=X) (v := .agg [i64 70,.func (.func 181) #[] #[At0 (L+1)]].toArray) zoB rfl rfl rfl fun Y hbY fY sY=>?_⟩;have hY:=hD.below hbY;have hevY:=zb hbY hev;have hslY:=zb hbY hsl;refine⟨_,zc (za fY) (i:=1) rfl,cmo (zuR hY) ?_⟩;rintro e W ⟨rfl,hbW⟩;have hbX:Bw w W:=((zst hbw hbY)).trans (hbW.mono (UU hbw.size hbY.size));refine biE (fun hb=>?_) fun hb=>?_
   ·have hb:(!((okL p)[0]'(by show 0<6;decide)))=true:=hb;have hb:(okL p)[0]?=some false:=(by rw [gE (by show 0<6;decide)];exact Gs some (by rw [<- UL ((okL p)[0]'(by show 0<6;decide)),hb];rfl));exact⟨_,zc (za (zb hbW fY)) (i:=0) rfl,70,rfl,⟨fun h=>GA h (by decide),fun h=>by rw [hno hb] at h;cases h⟩,hbX⟩
   ·have hb:(!((okL p)[0]'(by show 0<6;decide)))=false:=hb;have hb:(okL p)[0]?=some true:=(by rw [gE (by show 0<6;decide)];exact Gs some (by rw [<- UL ((okL p)[0]'(by show 0<6;decide)),hb];rfl));refine⟨_,(zk (by omega)).trans rfl,1,(cvE rfl rfl),⟨by omega,fun i hi=>?_,hY.below hbW,zb hbW hevY,zb hbW hslY,hbX⟩,by decide⟩;by_cases hik:i=0
    ·rw [hik];exact hb
    ·exact hpre i (by omega)
  ·refine⟨1,rfl,by decide,?_⟩;refine⟨[i64 71,.func (.func 183) #[] #[At0 (L+1)]],rfl,zV (n:=2) (m:=2) (za hsl),hlt hsl,zn (X:=X) (v := .agg [i64 71,.func (.func 183) #[] #[At0 (L+1)]].toArray) zoB rfl rfl rfl fun Y hbY fY sY=>?_⟩;have hY:=hD.below hbY;have hevY:=zb hbY hev;have hslY:=zb hbY hsl;refine⟨_,zc (za fY) (i:=1) rfl,cmo (zuQ hY) ?_⟩;rintro e W ⟨rfl,hbW⟩;have hbX:Bw w W:=((zst hbw hbY)).trans (hbW.mono (UU hbw.size hbY.size));refine biE (fun hb=>?_) fun hb=>?_
   ·have hb:(!((okL p)[1]'(by show 1<6;decide)))=true:=hb;have hb:(okL p)[1]?=some false:=(by rw [gE (by show 1<6;decide)];exact Gs some (by rw [<- UL ((okL p)[1]'(by show 1<6;decide)),hb];rfl));exact⟨_,zc (za (zb hbW fY)) (i:=0) rfl,71,rfl,⟨fun h=>GA h (by decide),fun h=>by rw [hno hb] at h;cases h⟩,hbX⟩
   ·have hb:(!((okL p)[1]'(by show 1<6;decide)))=false:=hb;have hb:(okL p)[1]?=some true:=(by rw [gE (by show 1<6;decide)];exact Gs some (by rw [<- UL ((okL p)[1]'(by show 1<6;decide)),hb];rfl));refine⟨_,(zk (by omega)).trans rfl,2,(cvE rfl rfl),⟨by omega,fun i hi=>?_,hY.below hbW,zb hbW hevY,zb hbW hslY,hbX⟩,by decide⟩;by_cases hik:i=1
    ·rw [hik];exact hb
    ·exact hpre i (by omega)
  ·refine⟨2,rfl,by decide,?_⟩;refine⟨[i64 72,.func (.func 185) #[] #[At0 (L+1),At0 (L+2)]],rfl,zV (n:=4) (m:=2) (za hsl),hlt hsl,zn (X:=X) (v := .agg [i64 72,.func (.func 185) #[] #[At0 (L+1),At0 (L+2)]].toArray) zoB rfl rfl rfl fun Y hbY fY sY=>?_⟩;have hY:=hD.below hbY;have hevY:=zb hbY hev;have hslY:=zb hbY hsl;refine⟨_,zc (za fY) (i:=1) rfl,cmo (zuP hY hevY) ?_⟩;rintro e W ⟨rfl,hbW⟩;have hbX:Bw w W:=((zst hbw hbY)).trans (hbW.mono (UU hbw.size hbY.size));refine biE (fun hb=>?_) fun hb=>?_
   ·have hb:(!((okL p)[2]'(by show 2<6;decide)))=true:=hb;have hb:(okL p)[2]?=some false:=(by rw [gE (by show 2<6;decide)];exact Gs some (by rw [<- UL ((okL p)[2]'(by show 2<6;decide)),hb];rfl));exact⟨_,zc (za (zb hbW fY)) (i:=0) rfl,72,rfl,⟨fun h=>GA h (by decide),fun h=>by rw [hno hb] at h;cases h⟩,hbX⟩
   ·have hb:(!((okL p)[2]'(by show 2<6;decide)))=false:=hb;have hb:(okL p)[2]?=some true:=(by rw [gE (by show 2<6;decide)];exact Gs some (by rw [<- UL ((okL p)[2]'(by show 2<6;decide)),hb];rfl));refine⟨_,(zk (by omega)).trans rfl,3,(cvE rfl rfl),⟨by omega,fun i hi=>?_,hY.below hbW,zb hbW hevY,zb hbW hslY,hbX⟩,by decide⟩;by_cases hik:i=2
    ·rw [hik];exact hb
    ·exact hpre i (by omega)
  ·refine⟨3,rfl,by decide,?_⟩;refine⟨[i64 73,.func (.func 187) #[] #[At0 (L+2),At0 (L+1)]],rfl,zV (n:=6) (m:=2) (za hsl),hlt hsl,zn (X:=X) (v := .agg [i64 73,.func (.func 187) #[] #[At0 (L+2),At0 (L+1)]].toArray) zoB rfl rfl rfl fun Y hbY fY sY=>?_⟩;have hY:=hD.below hbY;have hevY:=zb hbY hev;have hslY:=zb hbY hsl;refine⟨_,zc (za fY) (i:=1) rfl,cmo (zuO hY hevY) ?_⟩;rintro e W ⟨rfl,hbW⟩;have hbX:Bw w W:=((zst hbw hbY)).trans (hbW.mono (UU hbw.size hbY.size));refine biE (fun hb=>?_) fun hb=>?_
   ·have hb:(!((okL p)[3]'(by show 3<6;decide)))=true:=hb;have hb:(okL p)[3]?=some false:=(by rw [gE (by show 3<6;decide)];exact Gs some (by rw [<- UL ((okL p)[3]'(by show 3<6;decide)),hb];rfl));exact⟨_,zc (za (zb hbW fY)) (i:=0) rfl,73,rfl,⟨fun h=>GA h (by decide),fun h=>by rw [hno hb] at h;cases h⟩,hbX⟩
   ·have hb:(!((okL p)[3]'(by show 3<6;decide)))=false:=hb;have hb:(okL p)[3]?=some true:=(by rw [gE (by show 3<6;decide)];exact Gs some (by rw [<- UL ((okL p)[3]'(by show 3<6;decide)),hb];rfl));refine⟨_,(zk (by omega)).trans rfl,4,(cvE rfl rfl),⟨by omega,fun i hi=>?_,hY.below hbW,zb hbW hevY,zb hbW hslY,hbX⟩,by decide⟩;by_cases hik:i=3
    ·rw [hik];exact hb
    ·exact hpre i (by omega)
  ·refine⟨4,rfl,by decide,?_⟩;refine⟨[i64 75,.func (.func 190) #[] #[At0 (L+1)]],rfl,zV (n:=8) (m:=2) (za hsl),hlt hsl,zn (X:=X) (v := .agg [i64 75,.func (.func 190) #[] #[At0 (L+1)]].toArray) zoB rfl rfl rfl fun Y hbY fY sY=>?_⟩;have hY:=hD.below hbY;have hevY:=zb hbY hev;have hslY:=zb hbY hsl;refine⟨_,zc (za fY) (i:=1) rfl,cmo (zuN hY) ?_⟩;rintro e W ⟨rfl,hbW⟩;have hbX:Bw w W:=((zst hbw hbY)).trans (hbW.mono (UU hbw.size hbY.size));refine biE (fun hb=>?_) fun hb=>?_
   ·have hb:(!((okL p)[4]'(by show 4<6;decide)))=true:=hb;have hb:(okL p)[4]?=some false:=(by rw [gE (by show 4<6;decide)];exact Gs some (by rw [<- UL ((okL p)[4]'(by show 4<6;decide)),hb];rfl));exact⟨_,zc (za (zb hbW fY)) (i:=0) rfl,75,rfl,⟨fun h=>GA h (by decide),fun h=>by rw [hno hb] at h;cases h⟩,hbX⟩
   ·have hb:(!((okL p)[4]'(by show 4<6;decide)))=false:=hb;have hb:(okL p)[4]?=some true:=(by rw [gE (by show 4<6;decide)];exact Gs some (by rw [<- UL ((okL p)[4]'(by show 4<6;decide)),hb];rfl));refine⟨_,(zk (by omega)).trans rfl,5,(cvE rfl rfl),⟨by omega,fun i hi=>?_,hY.below hbW,zb hbW hevY,zb hbW hslY,hbX⟩,by decide⟩;by_cases hik:i=4
    ·rw [hik];exact hb
    ·exact hpre i (by omega)
  ·refine⟨5,rfl,by decide,?_⟩;refine⟨[i64 74,.func (.func 191) #[] #[At0 (L+1)]],rfl,zV (n:=10) (m:=2) (za hsl),hlt hsl,zn (X:=X) (v := .agg [i64 74,.func (.func 191) #[] #[At0 (L+1)]].toArray) zoB rfl rfl rfl fun Y hbY fY sY=>?_⟩;have hY:=hD.below hbY;have hevY:=zb hbY hev;have hslY:=zb hbY hsl;refine⟨_,zc (za fY) (i:=1) rfl,cmo (zuM hY) ?_⟩;rintro e W ⟨rfl,hbW⟩;have hbX:Bw w W:=((zst hbw hbY)).trans (hbW.mono (UU hbw.size hbY.size));refine biE (fun hb=>?_) fun hb=>?_
   ·have hb:(!((okL p)[5]'(by show 5<6;decide)))=true:=hb;have hb:(okL p)[5]?=some false:=(by rw [gE (by show 5<6;decide)];exact Gs some (by rw [<- UL ((okL p)[5]'(by show 5<6;decide)),hb];rfl));exact⟨_,zc (za (zb hbW fY)) (i:=0) rfl,74,rfl,⟨fun h=>GA h (by decide),fun h=>by rw [hno hb] at h;cases h⟩,hbX⟩
   ·have hb:(!((okL p)[5]'(by show 5<6;decide)))=false:=hb;have hb:(okL p)[5]?=some true:=(by rw [gE (by show 5<6;decide)];exact Gs some (by rw [<- UL ((okL p)[5]'(by show 5<6;decide)),hb];rfl));refine⟨_,(zk (by omega)).trans rfl,6,(cvE rfl rfl),⟨by omega,fun i hi=>?_,hY.below hbW,zb hbW hevY,zb hbW hslY,hbX⟩,by decide⟩;by_cases hik:i=5
    ·rw [hik];exact hb
    ·exact hpre i (by omega)
 ·have hc:¬ (j:Int)<6:=dF hc;obtain rfl:j=6:=by omega
  exact⟨0,rfl,⟨fun _=>by rw [zm8];exact zlr hpre rfl,fun _=>rfl⟩,hbw⟩
def ThrsW (B:Nat) (w:Wd) (p:OA) (l:List (List InsD)):Prop:=∃ xs:List ztc,xs.map (·.1)=l/\RowB ztU B w p xs/\∀ x∈xs,RowB qF B w x.2.1 x.1/\∀ a,x.2.1=some a->a.block<B
structure PrgX (B:Nat) (w:Wd) (vs:List Value) (p:Prg):Prop where
 v:PrgV B w vs p
 th:∃ p3 c3,vs[3]?=some (.slice p3 p.threads.length c3)/\ThrsW B w p3 p.threads
 init:∃ p2 c2,vs[2]?=some (.slice p2 p.init.length c2)/\RowB zW B w p2 p.init
theorem ThrsW.below {B:Nat} {w w2:Wd} {p:OA} {l:List (List InsD)} (h:ThrsW B w p l) (hb:Below B w w2):ThrsW B w2 p l:=by
 obtain⟨xs,h1,h2,h3⟩:=h;exact⟨xs,h1,h2.below hb,fun x hx=>⟨(h3 x hx).1.below hb,(h3 x hx).2⟩⟩
theorem PrgX.below {B:Nat} {w w2:Wd} {vs:List Value} {p:Prg} (h:PrgX B w vs p) (hb:Below B w w2):PrgX B w2 vs p:=by
 obtain⟨h1,⟨p3,c3,h2,h3⟩,⟨p2,c2,h4,h5⟩⟩:=h;exact⟨h1.below hb,⟨p3,c3,h2,h3.below hb⟩,⟨p2,c2,h4,h5.below hb⟩⟩
def zg7 (threads:List (List InsD)) (vals:List UInt8):Bool :=
 decide (1<=vals.length)&&(decide (vals.length<=12)&&((threads.all fun l=>decide ((zaD l vals).length<=4096))&&(decide ((vals++threads.flatMap fun l=>zar (zaD l vals)).length<=12)&&zeF (vals++threads.flatMap fun l=>zar (zaD l vals)))))
def zfl (threads:List (List InsD)) (vals:List UInt8):List UInt8:=ded (vals++threads.flatMap fun l=>zar (zaD l vals))
def zig (threads:List (List InsD)):Nat->List UInt8->Option (List UInt8)
 | 0,_=>none
 | n+1,vals=>if zg7 threads vals=true then (if (zfl threads vals).length=vals.length then some vals else zig threads n (zfl threads vals)) else none
structure RunK (l:List InsD) (R:RunD):Prop where
 m:R.many<=R.pc
 p:R.pc<=l.length
 d:∀ i,R.deps i<2^32
 c:R.ctl<2^32
 s:∀ i,R.data i<2^32/\R.ctrl i<2^32/\R.att i<2^32
theorem zvT {n:Nat} (h:n<32):2^n<2^32:=Kc (by decide) h
theorem zlE {f:Nat->Nat} {b:Nat} (h:∀ i,f i<b) {k v:Nat} (hv:v<b):∀ i,upd f k v i<b:=fun i=>by
 by_cases e:i=k
 ·rw [e,ji];exact hv
 ·rw [za3 _ _ e];exact h i
theorem RunK.emit {l:List InsD} {R:RunD} (h:RunK l R) {k a v m:UInt8} {d:Nat} (hd:d<2^32):(∀ i,(zcB R k a v m d).deps i<2^32)/\(zcB R k a v m d).ctl<2^32/\∀ i,(zcB R k a v m d).data i<2^32/\(zcB R k a v m d).ctrl i<2^32/\(zcB R k a v m d).att i<2^32:=by
 unfold zcB;exact⟨h.d,h.c,fun i=>⟨zlE (fun i=>(h.s i).1) hd i,zlE (fun i=>(h.s i).2.1) h.c i,(h.s i).2.2⟩⟩
theorem RunK.exec {l:List InsD} {R:RunD} {x:InsD} {v:UInt8} (h:RunK l R) (hx:zeu x) (hp:R.pc<l.length) (h12:l.length<=12):RunK l (qw R x v):=by
 obtain⟨e1,e2⟩:=zjA (R:=R) (v:=v) hx;have hm:=h.m;have hb:=zvT (n:=R.many) (by omega);have hs:(∀ i,(qw R x v).deps i<2^32)/\(qw R x v).ctl<2^32/\∀ i,(qw R x v).data i<2^32/\(qw R x v).ctrl i<2^32/\(qw R x v).att i<2^32:=by
  unfold qw zoL;rcases hx with ⟨ho,_⟩ | ⟨ho,_⟩ | ho
  ·rw [Gz ho];have:=h.emit (k:=1) (a:=x.loc) (v:=v) (m:=x.mode) (d:=0) (by decide);exact⟨zlE this.1 hb,this.2.1,this.2.2⟩
  ·rw [Gy (by rw [ho];decide),Gz ho];refine h.emit (k:=2) (a:=x.loc) (v:=(zbs x.ar x.an R).1) (m:=x.mode) ?_;unfold zbs
   split
   ·exact h.d _
   ·exact (by decide:0<2^32)
  ·rw [Gy (by rw [ho];decide),Gy (by rw [ho];decide),Gy (by rw [ho];decide),Gy (by rw [ho];decide),Gy (by rw [ho];decide),Gy (by rw [ho];decide),Gz ho];exact h.emit (k:=3) (a:=0) (v:=0) (m:=x.mode) (d:=0) (by decide)
 exact⟨by rw [e1,e2];omega,by rw [e1];omega,hs.1,hs.2.1,hs.2.2⟩
theorem RunK.go {l:List InsD} (h12:l.length<=12) (hx:∀ x∈l,zeu x):∀ (n:Nat) (R:RunD),RunK l R->RunK l (goR l n R)
 | 0,R,h=>h
 | n+1,R,h=>by
  unfold goR
  split
  ·exact h
  ·rename_i x he
   split
   ·exact h
   ·have hp:=(Jq.1 he).1;have hm:x∈l:=JY he;exact RunK.go h12 hx n _ (h.exec (hx x hm) hp h12)
theorem RunK.spread {l:List InsD} {dom:List UInt8} (h12:l.length<=12) (hx:∀ x∈l,zeu x):∀ (n:Nat) (R:RunD),RunK l R->∀ S∈qh l dom n R,RunK l S
 | 0,R,h,S,hS=>by
  have hS:S∈[goR l l.length R]:=hS;rw [KA] at hS;rw [hS];exact RunK.go h12 hx _ _ h
 | n+1,R,h,S,hS=>by
  have hg:=RunK.go h12 hx l.length R h;unfold qh at hS
  split at hS
  ·rw [KA] at hS;rw [hS];exact hg
  ·rename_i x he;obtain⟨v,_,hS⟩:=List.mem_flatMap.1 hS;have hp:=(Jq.1 he).1;have hm:x∈l:=JY he;exact RunK.spread h12 hx n _ (hg.exec (hx x hm) hp h12) S hS
theorem zns {l:List InsD} {dom:List UInt8} (h12:l.length<=12) (hx:∀ x∈l,zeu x):∀ R∈zaD l dom,R.many<=24/\zvl R:=fun R hR=>by
 have h0:RunK l zn9:=⟨Ge _,Gg _,fun _=>(by decide:0<2^32),(by decide:0<2^32),fun _=>⟨(by decide:0<2^32),(by decide:0<2^32),(by decide:0<2^32)⟩⟩;have h:=RunK.spread h12 hx _ _ h0 R hR;have:=h.m;have:=h.p;exact⟨by omega,fun i _=>h.s i⟩
end Go.Proofs.YtnadlhpkpnfmbaaGreatDoor
