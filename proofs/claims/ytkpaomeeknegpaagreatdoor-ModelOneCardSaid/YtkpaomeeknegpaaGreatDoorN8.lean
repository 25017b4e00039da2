/- Contracts of functions, and plain facts, for the law that the last text of this claim proves. -/
import Derived.Test.YtkpaomeeknegpaaGreatDoorN6
import Derived.Test.YtkpaomeeknegpaaGreatDoorN7
import Derived.Test.YtkpaomeeknegpaaGreatDoorN1
import Derived.Test.YtkpaomeeknegpaaGreatDoorN2
import Derived.Test.YtkpaomeeknegpaaGreatDoorN5
import Derived.LaidEql
import Derived.Test.YtkpaomeeknegpaaGreatDoorRows
import Derived.ProofKit
import Derived.OpenShut
import Derived.LaidLaws
import Derived.Below
import Derived.HandedShaped
import Derived.KernelRfl
import Derived.WalkKit
import Derived.ChangeOld
import Derived.SevenTiedAt
import Derived.LaidHandle
import Derived.Stop.LaidErr
import Derived.Lib.LaidTab
import Derived.SizedLaws
import Derived.Test.YtkpaomeeknegpaaGreatDoorN4
set_option linter.unusedSimpArgs false
set_option linter.unusedVariables false
namespace Go.Proofs.YtkpaomeeknegpaaGreatDoor
open Go.Vc Go.RowKit Go.Sei
structure FndV (X:Wd) (F:List ExD) (xs:List zca) (q:OA):Prop where
 e:xs.map (·.1)=F
 row:SlR exE X q xs
 ev:∀ x∈xs,SlR evE X x.2.1 x.1.ev
theorem FndV.below {X Y:Wd} {F:List ExD} {xs:List zca} {q:OA} (h:FndV X F xs q) (hb:Bw X Y):FndV Y F xs q:=⟨h.e,h.row.below hb,fun x hx=>(h.ev x hx).below hb⟩
theorem FndV.at {X:Wd} {F:List ExD} {xs:List zca} {q:OA} {i n:Nat} {want:List UInt8} (h:FndV X F xs q) (hs:zfT F i n want=true) (hi:i<n):xs.length=n/\∃ (b o:Nat) (y:zca),q=some ⟨b,o,none⟩/\b<X.heap.size/\zG X ⟨b,o+i*333,none⟩ (exC y.1 y.2.1 y.2.2)/\ExV X y.1 y.2.1/\zkU y.1 want=true/\y.1=F.getD i (ex0 0):=by
 unfold zfT at hs;rw [bAT,bAT,dE] at hs;have hl:xs.length=n:=by
  have:=Gk List.length h.e;rw [QO] at this;omega
 have hix:i<xs.length:=by omega
 obtain⟨b,o,hq,hb,hat⟩:=h.row.at hix;obtain⟨y,hy⟩:∃ y,xs[i]=y:=⟨_,rfl⟩;have hym:y∈xs:=by rw [<- hy];exact gM hix
 have hF:y.1=F.getD i (ex0 0):=by
  rw [<- h.e,gDe,KV,gE hix,hy];rfl
 have hF2:y.1∈F:=by
  rw [<- h.e];exact Km hym
 have hatk:=hat i hix;rw [hy] at hatk;exact⟨hl,b,o,y,hq,hb,hatk,zsR (Ql.1 hs.2.1 _ hF2) (h.ev y hym),by rw [hF];exact hs.2.2,hF⟩
theorem zda {W:Wd} {g:Nat} {cs:List Value} {l:List InsD} (h:W.heap[g]?=some (.cells cs.toArray 55 (0,0))) (hc:cs=l.flatMap zE.enc):RowB zE W.heap.size W (some ⟨g,0,none⟩) l :=
 .inr ⟨g,0,rfl,hlt h,by rw [<- hc];exact za h⟩
theorem zu3 {w:Wd} (hG:GlobE w):CB 8 #[] w (.bool true):=by
 refine qz 98 [] (.s .p (.c .p (.c .p (.c .p (.c .p (.c .p (.c .p .p))))))) Tryz.func8 ?_;refine⟨List zca×OA×Nat,fun s=>⟨[(1,.slice s.2.1 s.1.length s.2.2)],[]⟩,fun s X=>FndV X sbF s.1 s.2.1/\Bw w X,?_,?_⟩
 ·have b0:=(Gc w.heap.size w);refine cmo (zmv (l:=0) (v:=1) (m:=0)) ?_;rintro e V1 ⟨rfl,hv1⟩;have b1:=zst b0 hv1;refine cmo (zmW (d:=0) (l:=1) (m:=0)) ?_;rintro e V2 ⟨rfl,hv2⟩;have b2:=zst b1 hv2;refine⟨⟨by decide,by decide,rfl⟩,zE.enc (stI 0 1 0)++zE.enc (ldI 0 1 0),by kernel_rfl,?_⟩;obtain⟨V3,e3⟩:=nm (V2.alloc (.cells (zE.enc (stI 0 1 0)++zE.enc (ldI 0 1 0)).toArray 55));have hv3:Bw V2 V3:=by rw [e3];exact (zba _ _)
  have f3:V3.heap[V2.heap.size]?=some (.cells (zE.enc (stI 0 1 0)++zE.enc (ldI 0 1 0)).toArray 55 (0,0)):=by rw [e3];exact zw _ _
  rw [<- e3];have b3:=zst b2 hv3;refine cmo (zmv (l:=1) (v:=1) (m:=0)) ?_;rintro e V4 ⟨rfl,hv4⟩;have b4:=zst b3 hv4;refine cmo (zmW (d:=0) (l:=0) (m:=0)) ?_;rintro e V5 ⟨rfl,hv5⟩;have b5:=zst b4 hv5;refine⟨⟨by decide,by decide,rfl⟩,zE.enc (stI 1 1 0)++zE.enc (ldI 0 0 0),by kernel_rfl,?_⟩;obtain⟨V6,e6⟩:=nm (V5.alloc (.cells (zE.enc (stI 1 1 0)++zE.enc (ldI 0 0 0)).toArray 55));have hv6:Bw V5 V6:=by rw [e6];exact (zba _ _)
  have f6:V6.heap[V5.heap.size]?=some (.cells (zE.enc (stI 1 1 0)++zE.enc (ldI 0 0 0)).toArray 55 (0,0)):=by rw [e6];exact zw _ _
  rw [<- e6];have b6:=zst b5 hv6;refine cmo (znt (la:=[stI 0 1 0,ldI 0 1 0]) (lb:=[stI 1 1 0,ldI 0 0 0]) (zda (zb hv6 (zb hv5 (zb hv4 (f3)))) (l:=[stI 0 1 0,ldI 0 1 0]) rfl) (zda (f6) (l:=[stI 1 1 0,ldI 0 0 0]) rfl) (JS rfl) (JS rfl) (fun a h=>by cases h;exact hlt (zb hv6 (zb hv5 (zb hv4 (f3))))) (fun a h=>by cases h;exact hlt (f6))) ?_;rintro e V7 ⟨⟨vs,rfl,hP⟩,hv7⟩;have b7:=zst b6 hv7;refine cmo (zha (p:=sbP) (V:=[0,1]) (a:=0) (b:=0) (UX _) hP (hG.below b7) zvP zt4) ?_;rintro e V8 ⟨⟨xs,q,c,rfl,h1,h2,h3⟩,hv8⟩;have b8:=zst b7 hv8;exact⟨(xs,q,c),(cvE rfl rfl),⟨h1,h2,h3⟩,b8⟩
 rintro s1 W1 ⟨g1,hb1⟩;refine⟨List zca×OA×Nat,fun s=>⟨[(1,.slice s1.2.1 s1.1.length s1.2.2),(2,.slice s.2.1 s.1.length s.2.2)],[]⟩,fun s X=>FndV X mpF s.1 s.2.1/\FndV X sbF s1.1 s1.2.1/\Bw w X,?_,?_⟩
 ·have b0:=hb1;refine cmo (zmv (l:=0) (v:=1) (m:=0)) ?_;rintro e V1 ⟨rfl,hv1⟩;have b1:=zst b0 hv1;refine cmo (zmv (l:=1) (v:=1) (m:=0)) ?_;rintro e V2 ⟨rfl,hv2⟩;have b2:=zst b1 hv2;refine⟨⟨by decide,by decide,rfl⟩,zE.enc (stI 0 1 0)++zE.enc (stI 1 1 0),by kernel_rfl,?_⟩;obtain⟨V3,e3⟩:=nm (V2.alloc (.cells (zE.enc (stI 0 1 0)++zE.enc (stI 1 1 0)).toArray 55));have hv3:Bw V2 V3:=by rw [e3];exact (zba _ _)
  have f3:V3.heap[V2.heap.size]?=some (.cells (zE.enc (stI 0 1 0)++zE.enc (stI 1 1 0)).toArray 55 (0,0)):=by rw [e3];exact zw _ _
  rw [<- e3];have b3:=zst b2 hv3;refine cmo (zmW (d:=1) (l:=1) (m:=0)) ?_;rintro e V4 ⟨rfl,hv4⟩;have b4:=zst b3 hv4;refine cmo (zmW (d:=0) (l:=0) (m:=0)) ?_;rintro e V5 ⟨rfl,hv5⟩;have b5:=zst b4 hv5;refine⟨⟨by decide,by decide,rfl⟩,zE.enc (ldI 1 1 0)++zE.enc (ldI 0 0 0),by kernel_rfl,?_⟩;obtain⟨V6,e6⟩:=nm (V5.alloc (.cells (zE.enc (ldI 1 1 0)++zE.enc (ldI 0 0 0)).toArray 55));have hv6:Bw V5 V6:=by rw [e6];exact (zba _ _)
  have f6:V6.heap[V5.heap.size]?=some (.cells (zE.enc (ldI 1 1 0)++zE.enc (ldI 0 0 0)).toArray 55 (0,0)):=by rw [e6];exact zw _ _
  rw [<- e6];have b6:=zst b5 hv6;refine cmo (znt (la:=[stI 0 1 0,stI 1 1 0]) (lb:=[ldI 1 1 0,ldI 0 0 0]) (zda (zb hv6 (zb hv5 (zb hv4 (f3)))) (l:=[stI 0 1 0,stI 1 1 0]) rfl) (zda (f6) (l:=[ldI 1 1 0,ldI 0 0 0]) rfl) (JS rfl) (JS rfl) (fun a h=>by cases h;exact hlt (zb hv6 (zb hv5 (zb hv4 (f3))))) (fun a h=>by cases h;exact hlt (f6))) ?_;rintro e V7 ⟨⟨vs,rfl,hP⟩,hv7⟩;have b7:=zst b6 hv7;refine cmo (zha (p:=mpP) (V:=[0,1]) (a:=0) (b:=0) (UX _) hP (hG.below b7) zvS zut) ?_;rintro e V8 ⟨⟨xs,q,c,rfl,h1,h2,h3⟩,hv8⟩;have b8:=zst b7 hv8;have bt:Bw W1 V8:=by
   have c1:=hv1;have c2:=zst c1 hv2;have c3:=zst c2 hv3;have c4:=zst c3 hv4;have c5:=zst c4 hv5;have c6:=zst c5 hv6;have c7:=zst c6 hv7;have c8:=zst c7 hv8;exact c8
  exact⟨(xs,q,c),(cvE rfl rfl),⟨h1,h2,h3⟩,g1.below bt,b8⟩
 rintro s2 W2 ⟨g2,g1,hb2⟩;refine⟨List zca×OA×Nat,fun s=>⟨[(1,.slice s1.2.1 s1.1.length s1.2.2),(2,.slice s2.2.1 s2.1.length s2.2.2),(3,.slice s.2.1 s.1.length s.2.2)],[]⟩,fun s X=>FndV X raF s.1 s.2.1/\FndV X sbF s1.1 s1.2.1/\FndV X mpF s2.1 s2.2.1/\Bw w X,?_,?_⟩
 ·have b0:=hb2;refine cmo (zmv (l:=0) (v:=1) (m:=0)) ?_;rintro e V1 ⟨rfl,hv1⟩;have b1:=zst b0 hv1;refine cmo (zmv (l:=1) (v:=1) (m:=2)) ?_;rintro e V2 ⟨rfl,hv2⟩;have b2:=zst b1 hv2;refine⟨⟨by decide,by decide,rfl⟩,zE.enc (stI 0 1 0)++zE.enc (stI 1 1 2),by kernel_rfl,?_⟩;obtain⟨V3,e3⟩:=nm (V2.alloc (.cells (zE.enc (stI 0 1 0)++zE.enc (stI 1 1 2)).toArray 55));have hv3:Bw V2 V3:=by rw [e3];exact (zba _ _)
  have f3:V3.heap[V2.heap.size]?=some (.cells (zE.enc (stI 0 1 0)++zE.enc (stI 1 1 2)).toArray 55 (0,0)):=by rw [e3];exact zw _ _
  rw [<- e3];have b3:=zst b2 hv3;refine cmo (zmW (d:=1) (l:=1) (m:=1)) ?_;rintro e V4 ⟨rfl,hv4⟩;have b4:=zst b3 hv4;refine cmo (zmW (d:=0) (l:=0) (m:=0)) ?_;rintro e V5 ⟨rfl,hv5⟩;have b5:=zst b4 hv5;refine⟨⟨by decide,by decide,rfl⟩,zE.enc (ldI 1 1 1)++zE.enc (ldI 0 0 0),by kernel_rfl,?_⟩;obtain⟨V6,e6⟩:=nm (V5.alloc (.cells (zE.enc (ldI 1 1 1)++zE.enc (ldI 0 0 0)).toArray 55));have hv6:Bw V5 V6:=by rw [e6];exact (zba _ _)
  have f6:V6.heap[V5.heap.size]?=some (.cells (zE.enc (ldI 1 1 1)++zE.enc (ldI 0 0 0)).toArray 55 (0,0)):=by rw [e6];exact zw _ _
  rw [<- e6];have b6:=zst b5 hv6;refine cmo (znt (la:=[stI 0 1 0,stI 1 1 2]) (lb:=[ldI 1 1 1,ldI 0 0 0]) (zda (zb hv6 (zb hv5 (zb hv4 (f3)))) (l:=[stI 0 1 0,stI 1 1 2]) rfl) (zda (f6) (l:=[ldI 1 1 1,ldI 0 0 0]) rfl) (JS rfl) (JS rfl) (fun a h=>by cases h;exact hlt (zb hv6 (zb hv5 (zb hv4 (f3))))) (fun a h=>by cases h;exact hlt (f6))) ?_;rintro e V7 ⟨⟨vs,rfl,hP⟩,hv7⟩;have b7:=zst b6 hv7;refine cmo (zha (p:=raP) (V:=[0,1]) (a:=0) (b:=0) (UX _) hP (hG.below b7) zvQ zue) ?_;rintro e V8 ⟨⟨xs,q,c,rfl,h1,h2,h3⟩,hv8⟩;have b8:=zst b7 hv8;have bt:Bw W2 V8:=by
   have c1:=hv1;have c2:=zst c1 hv2;have c3:=zst c2 hv3;have c4:=zst c3 hv4;have c5:=zst c4 hv5;have c6:=zst c5 hv6;have c7:=zst c6 hv7;have c8:=zst c7 hv8;exact c8
  exact⟨(xs,q,c),(cvE rfl rfl),⟨h1,h2,h3⟩,g1.below bt,g2.below bt,b8⟩
 rintro s3 W3 ⟨g3,g1,g2,hb3⟩;refine⟨List zca×OA×Nat,fun s=>⟨[(1,.slice s1.2.1 s1.1.length s1.2.2),(2,.slice s2.2.1 s2.1.length s2.2.2),(3,.slice s3.2.1 s3.1.length s3.2.2),(4,.slice s.2.1 s.1.length s.2.2)],[]⟩,fun s X=>FndV X coF s.1 s.2.1/\FndV X sbF s1.1 s1.2.1/\FndV X mpF s2.1 s2.2.1/\FndV X raF s3.1 s3.2.1/\Bw w X,?_,?_⟩
 ·have b0:=hb3;refine cmo (zmv (l:=0) (v:=1) (m:=0)) ?_;rintro e V1 ⟨rfl,hv1⟩;have b1:=zst b0 hv1;refine cmo (zmW (d:=0) (l:=0) (m:=0)) ?_;rintro e V2 ⟨rfl,hv2⟩;have b2:=zst b1 hv2;refine⟨⟨by decide,by decide,rfl⟩,zE.enc (stI 0 1 0)++zE.enc (ldI 0 0 0),by kernel_rfl,?_⟩;obtain⟨V3,e3⟩:=nm (V2.alloc (.cells (zE.enc (stI 0 1 0)++zE.enc (ldI 0 0 0)).toArray 55));have hv3:Bw V2 V3:=by rw [e3];exact (zba _ _)
  have f3:V3.heap[V2.heap.size]?=some (.cells (zE.enc (stI 0 1 0)++zE.enc (ldI 0 0 0)).toArray 55 (0,0)):=by rw [e3];exact zw _ _
  rw [<- e3];have b3:=zst b2 hv3;refine cmo (znt (la:=[stI 0 1 0,ldI 0 0 0]) (lb:=[]) (zda (f3) (l:=[stI 0 1 0,ldI 0 0 0]) rfl) (.inl rfl) (JS rfl) (JS rfl) (fun a h=>by cases h;exact hlt (f3)) (fun a h=>by cases h)) ?_;rintro e V4 ⟨⟨vs,rfl,hP⟩,hv4⟩;have b4:=zst b3 hv4;refine cmo (zha (p:=coP) (V:=[0,1]) (a:=0) (b:=0) (UX _) hP (hG.below b4) zv1 zuX) ?_;rintro e V5 ⟨⟨xs,q,c,rfl,h1,h2,h3⟩,hv5⟩;have b5:=zst b4 hv5;have bt:Bw W3 V5:=by
   have c1:=hv1;have c2:=zst c1 hv2;have c3:=zst c2 hv3;have c4:=zst c3 hv4;have c5:=zst c4 hv5;exact c5
  exact⟨(xs,q,c),(cvE rfl rfl),⟨h1,h2,h3⟩,g1.below bt,g2.below bt,g3.below bt,b5⟩
 rintro s4 W4 ⟨g4,g1,g2,g3,hb4⟩;obtain⟨l1,n1,o1,y1,q1,d1,at1,v1,say1,_⟩:=g1.at zr7 (by decide);obtain⟨l2,n2,o2,y2,q2,d2,at2,v2,say2,r2⟩:=g2.at zsw (by decide);obtain⟨l3,n3,o3,y3,q3,d3,at3,v3,say3,r3⟩:=g3.at zsj (by decide);obtain⟨l4,n4,o4,y4,q4,d4,at4,v4,say4,_⟩:=g4.at ztj (by decide);have hTW:=hG.t64.below hb4;have rg2:y2.1.regs 9=1:=by rw [r2];exact zus
 have rg3:y3.1.regs 9=1:=by rw [r3];exact zud
 have i2:1<s2.1.length:=by omega
 have i3:1<s3.1.length:=by omega
 have i1:0<s1.1.length:=by omega
 have i4:0<s4.1.length:=by omega
 obtain⟨xs1,p1,c1⟩:=s1;obtain⟨xs2,p2,c2⟩:=s2;obtain⟨xs3,p3,c3⟩:=s3;obtain⟨xs4,p4,c4⟩:=s4;dsimp only at l1 l2 l3 l4 i1 i2 i3 i4 q1 q2 q3 q4 ⊢;subst q1 q2 q3 q4;have no:∀ {n m:Nat},n=m->(!decide ((n:Int)=(m:Int)))=false:=fun {n m} h=>by rw [h,Ut rfl];rfl
 refine⟨Unit,fun _=>⟨[(1,.slice (some ⟨n1,o1,none⟩) xs1.length c1),(2,.slice (some ⟨n2,o2,none⟩) xs2.length c2),(3,.slice (some ⟨n3,o3,none⟩) xs3.length c3),(4,.slice (some ⟨n4,o4,none⟩) xs4.length c4)],[]⟩,fun _ X=>W4=X,?_,?_⟩
 ·exact brN (no (m:=1) l1) (brN (no (m:=2) l2) (brN (no (m:=2) l3) (brN (no (m:=1) l4) ⟨(),(cvE rfl rfl),rfl⟩)))
 rintro _ _ rfl;obtain⟨X0,hX0⟩:∃ X0:Value,X0 = .agg (zbH).toArray:=⟨_,rfl⟩;refine⟨Nat×Nat,fun s=>⟨[(1,.slice (some ⟨n1,o1,none⟩) xs1.length c1),(4,.slice (some ⟨n4,o4,none⟩) xs4.length c4),(5,At0 s.1),(6,At0 s.2)],[]⟩,fun s X=>ExH X s.1 y2.1 y2.2.1 y2.2.2/\ExH X s.2 y3.1 y3.2.1 y3.2.2/\Bw W4 X,?_,?_⟩
 ·have dW:Bw W4 W4.drew:=(Gc _ _).drew;have zex:Obj.cells (zbH).toArray 46=Obj.cells (zbH).toArray 46:=rfl;have two:∀ {W:Wd},Bw W4 W->Bw W4 ((W.alloc (.cells (zbH).toArray 46)).alloc (.cells (zbH).toArray 46))/\((W.alloc (.cells (zbH).toArray 46)).alloc (.cells (zbH).toArray 46)).heap[W.heap.size]?=some (.cells (zbH).toArray 46 (0,0))/\((W.alloc (.cells (zbH).toArray 46)).alloc (.cells (zbH).toArray 46)).heap[(W.alloc (.cells (zbH).toArray 46)).heap.size]?=some (.cells (zbH).toArray 46 (0,0))/\W.heap.size<(W.alloc (.cells (zbH).toArray 46)).heap.size:=fun {W} hW=>by
   have b1:=hW.alloc hW.size (.cells (zbH).toArray 46);exact⟨b1.alloc b1.size _,qP _ (zw W _),zw _ _,by rw [wz];omega⟩
  have s8:∀ {W:Wd} {bx bv:Nat},Bw W4 W->W.heap[bx]?=some (.cells (zbH).toArray 46 (0,0))->W.heap[bv]?=some (.cells (zbH).toArray 46 (0,0))->bx≠bv->W4.heap.size<=bx->∀ {K:Wd->Prop},(∀ D,(Bw W4 D/\ExH D bx y2.1 y2.2.1 y2.2.2/\D.heap[bv]?=some (.cells (zbH).toArray 46 (0,0)))->K D)->SatR ((storeVar 46 ⟨bx,0,none⟩ (.agg (exC y2.1 y2.2.1 y2.2.2).toArray)).run PG W) fun _ w'=>K w':=fun {W bx bv} hW fx fy hne hx {K} k =>
   zt (v := .agg (exC y2.1 y2.2.1 y2.2.2).toArray) k46 fx (zC _ _ _) jC (zbj _ _ _) (k _ ⟨zl hW hx _,zn fx,(zq (fun e=>hne e.symm)).trans fy⟩)
  have s9:∀ {W:Wd} {bx bv:Nat},(Bw W4 W/\ExH W bx y2.1 y2.2.1 y2.2.2/\W.heap[bv]?=some (.cells (zbH).toArray 46 (0,0)))->bx≠bv->W4.heap.size<=bv->∀ {K:Wd->Prop},(∀ D,(ExH D bx y2.1 y2.2.1 y2.2.2/\ExH D bv y3.1 y3.2.1 y3.2.2/\Bw W4 D)->K D)->SatR ((storeVar 46 ⟨bv,0,none⟩ (.agg (exC y3.1 y3.2.1 y3.2.2).toArray)).run PG W) fun _ w'=>K w':=fun {W bx bv} h hne hx {K} k =>
   zt (v := .agg (exC y3.1 y3.2.1 y3.2.2).toArray) k46 h.2.2 (zC _ _ _) jC (zbj _ _ _) (k _ ⟨(zq hne).trans h.2.1,zn h.2.2,zl h.1 hx _⟩)
  have hba:∀ (A:Wd) (o:Obj),Bw A (A.alloc o):=fun A o=>(zba _ _);refine DrawE.treeR [8,9] (.op 0 (.op 1 (.op 2 (.op 3 (.op 4 (.alt (.op 6 (.alt (.op 7 (.alt (.op 8 (.op 5 (.op 9 .nil))) (.op 5 (.op 8 (.op 9 .nil))))) (.op 5 (.op 7 (.op 8 (.op 9 .nil)))))) (.alt (.op 7 (.alt (.op 6 (.alt (.op 8 (.op 5 (.op 9 .nil))) (.op 5 (.op 8 (.op 9 .nil))))) (.op 5 (.op 6 (.op 8 (.op 9 .nil)))))) (.op 5 (.alt (.op 6 (.op 7 (.op 8 (.op 9 .nil)))) (.op 7 (.op 6 (.op 8 (.op 9 .nil))))))))))))) (by kernel_rfl) ⟨1,rfl,i2,exC y2.1 y2.2.1 y2.2.2,zC _ _ _,zZ dW d2 at2,d2,1,rfl,i3,?_⟩;obtain⟨U,hU⟩:=nm (W4.drew);have bU:Bw W4 U:=by rw [hU];exact dW
  obtain⟨t1,t2,t3,t4⟩:=two bU;have sU:=bU.size;rw [<- hU];refine Gh ?_ ?_
  ·refine⟨hba _ _,Gh ?_ ?_⟩
   ·refine⟨hba _ _,Gh ?_ ?_⟩
    ·exact s8 t1 t2 t3 (by omega) (by omega) fun D hD=>⟨exC y3.1 y3.2.1 y3.2.2,zC _ _ _,zZ hD.1 d3 at3,nL d3 (Below.size hD.1),s9 hD (by omega) (by omega) fun F hF=>⟨(_,_),(cvE rfl rfl),hF⟩⟩
    ·exact⟨exC y3.1 y3.2.1 y3.2.2,zC _ _ _,zZ t1 d3 at3,nL d3 (Below.size t1),s8 t1 t2 t3 (by omega) (by omega) fun D hD=>s9 hD (by omega) (by omega) fun F hF=>⟨(_,_),(cvE rfl rfl),hF⟩⟩
   ·exact⟨exC y3.1 y3.2.1 y3.2.2,zC _ _ _,zZ (bU.alloc sU _) d3 at3,nL d3 (Below.size (bU.alloc sU _)),hba _ _,s8 t1 t2 t3 (by omega) (by omega) fun D hD=>s9 hD (by omega) (by omega) fun F hF=>⟨(_,_),(cvE rfl rfl),hF⟩⟩
  ·refine Gh ?_ ?_
   ·refine⟨hba _ _,Gh ?_ ?_⟩
    ·refine⟨hba _ _,Gh ?_ ?_⟩
     ·exact s8 t1 t3 t2 (by omega) (by omega) fun D hD=>⟨exC y3.1 y3.2.1 y3.2.2,zC _ _ _,zZ hD.1 d3 at3,nL d3 (Below.size hD.1),s9 hD (by omega) (by omega) fun F hF=>⟨(_,_),(cvE rfl rfl),hF⟩⟩
     ·exact⟨exC y3.1 y3.2.1 y3.2.2,zC _ _ _,zZ t1 d3 at3,nL d3 (Below.size t1),s8 t1 t3 t2 (by omega) (by omega) fun D hD=>s9 hD (by omega) (by omega) fun F hF=>⟨(_,_),(cvE rfl rfl),hF⟩⟩
    ·exact⟨exC y3.1 y3.2.1 y3.2.2,zC _ _ _,zZ (bU.alloc sU _) d3 at3,nL d3 (Below.size (bU.alloc sU _)),hba _ _,s8 t1 t3 t2 (by omega) (by omega) fun D hD=>s9 hD (by omega) (by omega) fun F hF=>⟨(_,_),(cvE rfl rfl),hF⟩⟩
   ·refine⟨exC y3.1 y3.2.1 y3.2.2,zC _ _ _,zZ bU d3 at3,nL d3 (Below.size bU),Gh ?_ ?_⟩
    ·exact⟨hba _ _,hba _ _,s8 t1 t2 t3 (by omega) (by omega) fun D hD=>s9 hD (by omega) (by omega) fun F hF=>⟨(_,_),(cvE rfl rfl),hF⟩⟩
    ·exact⟨hba _ _,hba _ _,s8 t1 t3 t2 (by omega) (by omega) fun D hD=>s9 hD (by omega) (by omega) fun F hF=>⟨(_,_),(cvE rfl rfl),hF⟩⟩
 rintro⟨bx,bv⟩ X ⟨fx,fv,hbX⟩;dsimp only at fx fv ⊢;have bw:=zst hb4 hbX;have ex9:(exC y2.1 y2.2.1 y2.2.2)[304]?=some (u8 (y2.1.regs 9)):=zhb y2.1 y2.2.1 y2.2.2 (i:=9) (by decide);have ev9:(exC y3.1 y3.2.1 y3.2.2)[304]?=some (u8 (y3.1.regs 9)):=zhb y3.1 y3.2.1 y3.2.2 (i:=9) (by decide);have one:∀ {r:UInt8},r=1->decide ((r.toNat:Int)=1)=true:=fun h=>by rw [h];rfl
 refine⟨1,rfl,by decide,?_⟩;refine⟨1,rfl,by decide,?_⟩;refine⟨u8 (y2.1.regs 9),zc (za fx) ex9,brE (one rg2) ⟨1,rfl,by decide,?_⟩⟩;refine⟨1,rfl,by decide,?_⟩;refine⟨u8 (y3.1.regs 9),zc (za fv) ev9,brE (one rg3) ⟨0,rfl,i1,exC y1.1 y1.2.1 y1.2.2,zC _ _ _,zZ hbX d1 at1,nL d1 (Below.size hbX),⟨by decide,by decide,rfl⟩,[u8 0,u8 3,u8 0,u8 0,u8 0,u8 0],rfl,?_⟩⟩;obtain⟨T0,eT0⟩:∃ T,T=X.alloc (.cells ([u8 0,u8 3,u8 0,u8 0,u8 0,u8 0]:List Value).toArray 5):=⟨_,rfl⟩;have ba0:Bw X T0:=by rw [eT0];exact (zba _ _)
 have fa0:T0.heap[X.heap.size]?=some (.cells ([u8 0,u8 3,u8 0,u8 0,u8 0,u8 0]:List Value).toArray 5 (0,0)):=by rw [eT0];exact zw _ _
 rw [<- eT0];have bt0:=zst hbX ba0;refine cmo (zjW (ws:=[0,3,0,0,0,0]) (v1.below bt0) (hTW.below bt0) (SlR.of_cells (hlt fa0) (by exact za fa0)) say1 (by decide)) ?_;rintro e Z1 ⟨rfl,hz1⟩;have bz1:=zst bt0 hz1;have k1:=zst ba0 hz1;refine brT ⟨exC y2.1 y2.2.1 y2.2.2,zC _ _ _,za (zb k1 fx),hlt (zb k1 fx),⟨by decide,by decide,rfl⟩,[u8 0,u8 3,u8 3,u8 0,u8 0,u8 0],rfl,?_⟩;obtain⟨T1,eT1⟩:∃ T,T=Z1.alloc (.cells ([u8 0,u8 3,u8 3,u8 0,u8 0,u8 0]:List Value).toArray 5):=⟨_,rfl⟩;have ba1:Bw Z1 T1:=by rw [eT1];exact (zba _ _)
 have fa1:T1.heap[Z1.heap.size]?=some (.cells ([u8 0,u8 3,u8 3,u8 0,u8 0,u8 0]:List Value).toArray 5 (0,0)):=by rw [eT1];exact zw _ _
 rw [<- eT1];have bt1:=zst bz1 ba1;refine cmo (zjW (ws:=[0,3,3,0,0,0]) (v2.below bt1) (hTW.below bt1) (SlR.of_cells (hlt fa1) (by exact za fa1)) say2 (by decide)) ?_;rintro e Z2 ⟨rfl,hz2⟩;have bz2:=zst bt1 hz2;have k2:=((zst k1 ba1)).trans (hz2.mono (by have:=k1.size;have:=ba1.size;omega));refine brT ⟨exC y3.1 y3.2.1 y3.2.2,zC _ _ _,za (zb k2 fv),hlt (zb k2 fv),⟨by decide,by decide,rfl⟩,[u8 0,u8 3,u8 3,u8 0,u8 3,u8 0],rfl,?_⟩;obtain⟨T2,eT2⟩:∃ T,T=Z2.alloc (.cells ([u8 0,u8 3,u8 3,u8 0,u8 3,u8 0]:List Value).toArray 5):=⟨_,rfl⟩;have ba2:Bw Z2 T2:=by rw [eT2];exact (zba _ _)
 have fa2:T2.heap[Z2.heap.size]?=some (.cells ([u8 0,u8 3,u8 3,u8 0,u8 3,u8 0]:List Value).toArray 5 (0,0)):=by rw [eT2];exact zw _ _
 rw [<- eT2];have bt2:=zst bz2 ba2;refine cmo (zjW (ws:=[0,3,3,0,3,0]) (v3.below bt2) (hTW.below bt2) (SlR.of_cells (hlt fa2) (by exact za fa2)) say3 (by decide)) ?_;rintro e Z3 ⟨rfl,hz3⟩;have bz3:=zst bt2 hz3;have k3:=((zst k2 ba2)).trans (hz3.mono (by have:=k2.size;have:=ba2.size;omega));refine brT ⟨0,rfl,i4,exC y4.1 y4.2.1 y4.2.2,zC _ _ _,zZ bz3 d4 at4,nL d4 (Below.size bz3),⟨by decide,by decide,rfl⟩,[u8 1,u8 1,u8 1,u8 1,u8 1,u8 1],rfl,?_⟩;obtain⟨T3,eT3⟩:∃ T,T=Z3.alloc (.cells ([u8 1,u8 1,u8 1,u8 1,u8 1,u8 1]:List Value).toArray 5):=⟨_,rfl⟩;have ba3:Bw Z3 T3:=by rw [eT3];exact (zba _ _)
 have fa3:T3.heap[Z3.heap.size]?=some (.cells ([u8 1,u8 1,u8 1,u8 1,u8 1,u8 1]:List Value).toArray 5 (0,0)):=by rw [eT3];exact zw _ _
 rw [<- eT3];have bt3:=zst bz3 ba3;refine cmo (zjW (ws:=[1,1,1,1,1,1]) (v4.below bt3) (hTW.below bt3) (SlR.of_cells (hlt fa3) (by exact za fa3)) say4 (by decide)) ?_;rintro e Z4 ⟨rfl,hz4⟩;have bz4:=zst bt3 hz4;have k4:=((zst k3 ba3)).trans (hz4.mono (by have:=k3.size;have:=ba3.size;omega));exact⟨rfl,(zst hb4 bz4)⟩
section
variable {w:Wd} {B:Nat} {pc:List Value} {p:Prg}
theorem ztx (hB:B<=w.heap.size) (hP:PrgX B w pc p) (hG:GlobE w) :
  Calls PG 7 #[.agg pc.toArray] w fun e w'=>((∃ V,zdt p=true/\zcc p V 200/\∃ (xs:List zca) (q:OA) (c:Nat),e = .returned (.tuple #[.slice q xs.length c,.bool true])/\xs.map (·.1)=qm p V/\OwnS exE 46 w.heap.size w' q c xs/\∀ x∈xs,OwnS evE 49 w.heap.size w' x.2.1 x.2.2 x.1.ev)\/e = .returned (.tuple #[.slice none 0 0,.bool false]))/\Bw w w':=by
 refine qz 22 [.agg pc.toArray] (.c .p (.s .p (.s .p .p))) Tryz.func7 ?_;obtain⟨L,hL⟩:=nm (w.heap.size);have hpc:=hP.v.size;refine⟨Unit,fun _=>⟨[(1,At0 L)],[]⟩,fun _ X=>X.heap[L]?=some (.cells pc.toArray 29 (0,0))/\Bw w X,⟨(),⟨.cons (by rw [hL];rfl) .nil,rfl⟩,by rw [hL];exact zw w _,(zba w _)⟩,?_⟩;rintro _ X ⟨f0,hbX⟩;refine⟨pc,hpc,za f0,hlt f0,cmo (zvb (UO hB hbX.size) (hP.below (hbX.mono hB))) ?_⟩;rintro e Y ⟨⟨b,rfl⟩,hbY⟩;have hwY:=zst hbX hbY;have f0Y:=zb hbY f0
 cases b with
 | false =>
  exact brT (brT ⟨.inr rfl,hwY⟩)
 | true =>
  refine brF ⟨pc,hpc,za f0Y,hlt f0Y,cmo (zkA (UO hB hwY.size) (hP.v.below (hwY.mono hB)) (hG.c.below hwY)) ?_⟩;rintro e Z ⟨m,rfl,hm,hbZ⟩;have hwZ:=zst hwY hbZ;have f0Z:=zb hbZ f0Y;refine biE (fun h=>?_) fun h=>?_
  ·exact⟨.inr rfl,hwZ⟩
  have hm0:m=0:=by
   have h2:(!decide ((m:Int)=0))=false:=h;simpa using h2
  have hok:=hm.1 hm0;refine⟨pc,hpc,za f0Z,hlt f0Z,cmo (zmo (most:=200) (UO hB hwZ.size) (hP.below (hwZ.mono hB)) (hG.below hwZ) hok (by decide) fun V _=>zmc (zfi hok)) ?_⟩;rintro e U ⟨(⟨V,hco,xs,q,c,rfl,hxs,oX,oE⟩ | ⟨_,rfl⟩),hbU⟩
  ·exact⟨.inl ⟨V,hok,hco,xs,q,c,rfl,hxs,oX.lower hwZ.size,fun x hx=>(oE x hx).lower hwZ.size⟩,(zst hwZ hbU)⟩
  ·exact⟨.inr rfl,(zst hwZ hbU)⟩
end
theorem zgo:∀ l:List UInt8,l.flatMap zR.enc=l.map u8
 | []=>rfl
 | a::l=>by rw [KT,zgo l];rfl
theorem zqu {P:Program} {iT:TI} {T B g cap i:Nat} {v:UInt8} {l:List UInt8} {w:Wd} (hT:TIok P T iT) (hs:iT.size=1) (h:OwnS zR T B w (some ⟨g,0,none⟩) cap l) (hi:i<l.length) {K:Wd->Prop}
  (k:∀ w',OwnS zR T B w' (some ⟨g,0,none⟩) cap (l.set i v)->w.grownBy w' (some g)->K w'):SatR ((storeVar T ⟨g,0+i*1,none⟩ (u8 v)).run P w) fun _ w'=>K w':=by
 rcases h.inv with ⟨h,_⟩ | ⟨g',cur,hg,hB,hc,hl,hm,hs2,ht⟩
 ·cases h
 ·simp only [Qa,Uv,Gj] at hg;subst hg;have e:cur=cur.toList.toArray:=rfl;have hsz:cur.toList.length=cap:=by
   have:cur.toList.length=cur.size:=rfl;rw [this,hs2];exact UY _
  refine zm hT (cs:=cur.toList) (by rw [<- e];exact hc) (o:=0+i*1) (v:=u8 v) rfl hs (by omega) rfl fun w' fw gw sw=>k w' ?_ gw;unfold OwnS World.ownsRow;have ht:cur.toList.take (l.length*1)=l.flatMap zR.enc:=ht;refine⟨by rw [qB],.inr ⟨g,cap,_,rfl,hB,fw,by rw [QR];exact hl,hm,?_,?_⟩⟩
  ·show (cur.toList.set (0+i*1) (u8 v)).length=_;rw [QR];exact hs2
  ·show (cur.toList.set (0+i*1) (u8 v)).take ((l.set i v).length*1)=_;rw [UY,US,UY,QR,List.take_set,<- UY l.length,ht,zgo,zgo,UK]
section
variable {p:Prg} {V:List UInt8}
def zcM (p:Prg) (x:ExD) (j:Nat):List UInt8:=(List.range p.init.length).map (j9 (fun a=>p.init.getD a 0) (x.ev.take j))
theorem zaM (p:Prg) (x:ExD) (j:Nat):(zcM p x j).length=p.init.length:=by unfold zcM;rw [QO,KW]
theorem zfp {p:Prg} {x:ExD} {j a:Nat} (h:a<p.init.length):(zcM p x j)[a]?=some (j9 (fun a=>p.init.getD a 0) (x.ev.take j) a):=by
 unfold zcM;rw [KV,Ki h];rfl
theorem zux (p:Prg) (x:ExD):zcM p x 0=p.init:=by
 refine KR fun a=>?_;by_cases h:a<p.init.length
 ·rw [zfp h];show some (p.init.getD a 0)=_;rw [gDe,gE h];rfl
 ·rw [JK (by rw [zaM];omega),JK (by omega)]
theorem znv {x:ExD} {j:Nat} (hj:j<x.ev.length):x.ev.take (j+1)=x.ev.take j++[evA x j]:=by
 rw [List.take_add_one];congr 1;unfold evA;rw [gDe,gE hj];rfl
theorem zgb (ν:Nat->UInt8) {x:ExD} {j:Nat} (hj:j<x.ev.length):j9 ν (x.ev.take (j+1))=if (evA x j).k=2 then upd (j9 ν (x.ev.take j)) (evA x j).l.toNat (evA x j).v else j9 ν (x.ev.take j):=by
 rw [znv hj,zdI];rfl
theorem zuu {x:ExD} {j:Nat} (hj:j<x.ev.length) (hk:(evA x j).k=2):zcM p x (j+1)=(zcM p x j).set (evA x j).l.toNat (evA x j).v:=by
 refine KR fun a=>?_;by_cases h:a<p.init.length
 ·rw [zfp h,zgb _ hj,Gq hk,List.getElem?_set];by_cases e:(evA x j).l.toNat=a
  ·rw [Gq e,Gq (by rw [zaM];omega),e,zL]
  ·rw [Gp e,qk _ _ (fun h=>e h.symm),zfp h]
 ·rw [JK (by rw [zaM];omega),JK (by rw [QR,zaM];omega)]
theorem zuv {x:ExD} {j:Nat} (hj:j<x.ev.length) (hk:¬ (evA x j).k=2):zcM p x (j+1)=zcM p x j:=by
 unfold zcM;rw [zgb _ hj,Gp hk]
theorem zpC (hO:OkG p) {x:ExD} (hx:x∈qm p V) {i:Nat} (hi:i<p.init.length):evA x i=⟨-1,2,UInt8.ofNat i,p.init[i],0,0,0⟩:=by
 obtain⟨took,m,hC,hm,hx,t1,t2⟩:=zaY hO hx;obtain⟨h1,ds,hd,rfl⟩:=zav hx;exact hC.ini hi
theorem zuw (hO:OkG p) {x:ExD} (hx:x∈qm p V) {j:Nat} (hj:j<p.init.length) (hjn:j<x.ev.length):zcM p x (j+1)=zcM p x j:=by
 have h6:=hO.i6;have hall:∀ n,n<=p.init.length->n<=x.ev.length->j9 (fun a=>p.init.getD a 0) (x.ev.take n)=fun a=>p.init.getD a 0:=fun n=>by
  induction n with
  | zero=>intro _ _;rfl
  | succ n ih =>
   intro h1 h2;rw [zgb _ (by omega),ih (by omega) (by omega),zpC hO hx (show n<p.init.length by omega),Gq rfl];funext a;by_cases e:a=(UInt8.ofNat n).toNat
   ·rw [e,zL];have:(UInt8.ofNat n).toNat=n:=(by rw [KI];omega);rw [this,gDe,gE (by omega)];rfl
   ·rw [qk _ _ e]
 unfold zcM;rw [hall (j+1) (by omega) (by omega),hall j (by omega) (by omega)]
theorem zun (hO:OkG p) (h1:p.threads.length<=1) {x:ExD} (hx:x∈qm p V) {i:Nat} (hi:p.init.length<=i) (hil:i<x.ev.length):(evA x i).th=0:=by
 obtain⟨took,m,hC,hm,hx,t1,t2⟩:=zaY hO hx;obtain⟨_,ds,hd,rfl⟩:=zav hx;have hia:evA (zA m ds) i∈m.base.ev.drop p.init.length:=by
  unfold evA;rw [gDe,gE hil];have:m.base.ev[i]?=(m.base.ev.drop p.init.length)[i-p.init.length]?:=by
   rw [Kx,show p.init.length+(i-p.init.length)=i by omega]
  refine JZ (i:=i-p.init.length) ?_;rw [<- this];exact gE hil
 rcases zj9 hO h1 hC t1 t2 with ⟨_,_,e⟩ | ⟨l,R,_,_,_,e⟩
 ·rw [e,JB (by rw [zV];exact UX _)] at hia
  cases hia
 ·rw [e,List.drop_left' (zV ..)] at hia;obtain⟨d,_,hd⟩:=UL.1 hia;rw [<- hd];rfl
def zmT (p:Prg):Prg:={ p with threads:=p.threads.take 1 }
theorem zsr {B:Nat} {w:Wd} {pc:List Value} (hP:PrgX B w pc p) (h1:1<p.threads.length) {p3:OA} {c3 cq:Nat} (h3:pc[3]?=some (.slice p3 p.threads.length c3)):PrgX B w (pc.set 3 (.slice p3 1 cq)) (zmT p):=by
 obtain⟨⟨hPl,p1,c1,p2,c2,p3',c3',p4,c4,hvs,g1,g2,g3,g4,g5⟩,⟨q3,d3,hq,ts,hts,zcO,htr⟩,q2,d2,hi1,hi2⟩:=hP;have e3:q3=p3:=by
  rw [h3] at hq;simp only [Qa,Qc] at hq;exact hq.1.symm
 subst e3;have htl:(zmT p).threads.length=1:=by
  show (p.threads.take 1).length=1;rw [Qw];omega
 have hts':(ts.take 1).map (·.1)=(zmT p).threads:=by rw [List.map_take,hts];rfl
 have hrow':RowB zoI B w q3 (ts.take 1):=by
  rcases zcO with h | ⟨b,o,hp,hb,hc⟩
  ·exact .inl (by rw [h];rfl)
  ·refine .inr ⟨b,o,hp,hb,fun i v hi=>hc i v ?_⟩;rw [<- JQ 1 ts,Kh,Jr (Js.1 hi).1];exact hi
 have hm:∀ x∈ts.take 1,x∈ts:=fun x hx=>Ka hx;subst hvs;have hset:(ja p p1 c1 p2 c2 p3' c3' p4 c4).set 3 (.slice q3 1 cq)=ja (zmT p) p1 c1 p2 c2 q3 cq p4 c4:=by
  have:ja (zmT p) p1 c1 p2 c2 q3 cq p4 c4=(ja p p1 c1 p2 c2 p3' c3' p4 c4).set 3 (.slice q3 (zmT p).threads.length cq):=rfl;rw [this,htl]
 rw [hset];refine⟨⟨⟨hPl.name,hPl.locs,hPl.loc,hPl.init,by rw [htl];decide,fun l h=>hPl.thread l (Ka h)⟩,p1,c1,p2,c2,q3,cq,p4,c4,rfl,g1,g2,⟨_,hts',hrow',fun x hx=>(htr x (hm x hx)).1⟩,g4,g5⟩,⟨q3,cq,rfl,_,hts',hrow',fun x hx=>htr x (hm x hx)⟩,q2,d2,hi1,hi2⟩
end
end Go.Proofs.YtkpaomeeknegpaaGreatDoor
namespace Go.Vc
open Go.RowKit
end Go.Vc
namespace Go.Proofs.YtkpaomeeknegpaaGreatDoor
open Go.Vc Go.RowKit Go.Sei
theorem zqI {X:Wd} {b:Nat} {x:ExD} {q:OA} {c l:Nat} (fx:zG X ⟨b,0,none⟩ (exC x q c)) (hl:l<6):X.cell? ⟨b,0+295+32+l*1,none⟩=some (u8 (x.mem l)):=by
 obtain⟨A,Z,hA,hE⟩:=zm5 x q c [];have h1:=hE x.mem;rw [QL] at h1;have h1:exC x q c=_:=h1;have h2:(exC x q c)[327+l]?=some (u8 (x.mem l)):=by
  rw [h1,q8 hA,Jr (by rw [zD];exact hl)];exact zbJ (n:=6) (fun i=>u8 (x.mem i)) hl
 have h3:=zc fx h2;have e:0+(327+l)=0+295+32+l*1:=by omega
 rw [e] at h3;exact h3
theorem zqU {p:Prg} {V:List UInt8} {most:Nat} (hO:OkG p) (hc:zcc p V most) (hm:most<=20000) {x:ExD} (hx:x∈qm p V) {w:Wd} {q:OA} (he:SlR evE w q x.ev):ExW w x q/\jh x=true:=by
 have hg:=znh hO hc hm hx;have hI:=(zcp hO hx).ok;obtain⟨took,m,hC,_,hx2,_⟩:=zaY hO hx;obtain⟨_,ds,hd,rfl⟩:=zav hx2;exact⟨⟨he,hg.n,fun l=>by have:=hg.w8 l;omega,hI.po.w,hI.rf.w,hI.co.w,hI.dt.w,hI.ct.w,hI.rm.w⟩,hC.right hd⟩
section
variable {w:Wd} {pc:List Value} {p:Prg}
theorem zmV (hP:PrgX w.heap.size w pc p) (hcap:∃ p3 c3,pc[3]?=some (.slice p3 p.threads.length c3)/\p.threads.length<=c3) (hG:GlobE w) :
  CB 3 #[.agg pc.toArray] w (.bool true):=by
 refine zeW (S:=sg 113) (zbT _) (args:=[.agg pc.toArray])
  (.c .p (.c .p (.c .p (.c .p (.s .p (.c (.s .p (.b (.l (.s .p (.s .p (.c (.b (.c .p (.c .p (.c (.s .p (.b (.l (.s .p (.c (.b .p) .p))))) (.s .p (.s .p (.c .p (.c (.s .p (.b (.l (.s .p (.s .p (.c (.b (.s .p .p)) .p)))))) (.s .p (.b (.l (.s .p (.s .p (.c (.b (.s .p .p)) .p)))))))))))))) .p)))))) .p)))))) Tryz.func3 rfl rfl (JS rfl) rfl ?_
 obtain⟨L,hL⟩:=nm (w.heap.size);have hpc:=hP.v.size;refine⟨Unit,fun _=>⟨[(1,At0 L)],[]⟩,fun _ X=>X.heap[L]?=some (.cells pc.toArray 29 (0,0))/\Bw w X,⟨(),⟨.cons (by rw [hL];rfl) .nil,rfl⟩,by rw [hL];exact zw w _,(zba w _)⟩,?_⟩;rintro _ X ⟨f0,hbX⟩;have aw:∀ Y,Bw w Y->Calls PG 8 #[] Y fun e w'=>e = .returned (.bool true)/\Bw w w':=fun Y hwY=>cmo (zu3 (hG.below hwY)) fun e U h=>⟨h.1,hwY.trans (h.2.mono hwY.size)⟩;refine⟨List Value×Prg,fun s=>⟨[(1,At0 L)],[]⟩,fun s X=>X.heap[L]?=some (.cells s.1.toArray 29 (0,0))/\PrgX w.heap.size w s.1 s.2/\s.2.threads.length<=1/\Bw w X,?_,?_⟩
 ·obtain⟨p3,c3,h3,hcap⟩:=hcap;have ld3:X.cell? ⟨L,0+3,none⟩=some (.slice p3 p.threads.length c3):=zc (za f0) (i:=3) (by simpa using h3);refine⟨_,ld3,biE (fun h=>?_) fun h=>?_⟩
  ·have h:(1:Int)<(p.threads.length:Int):=dT h;have h1:1<p.threads.length:=by omega
   obtain⟨q3,d3,hq,ts,hts,zcO,htr⟩:=hP.th;have e3:q3=p3:=by
    rw [h3] at hq;simp only [Qa,Qc] at hq;exact hq.1.symm
   subst e3;obtain⟨b3,o3,hp3,_,_⟩:=zd8 zcO (show 0<ts.length by have:=Gk List.length hts;rw [QO] at this;omega);subst hp3;refine⟨_,ld3,1,rfl,by omega,?_⟩;have hcut:qQ (some ⟨b3,o3,none⟩) c3 0 1=some ⟨b3,o3,none⟩:=by
    unfold qQ;rw [Gp (by omega)];rfl
   refine zm (cs:=pc) k24 f0 (o:=0+3) (v := .slice (qQ (some ⟨b3,o3,none⟩) c3 0 1) 1 c3) rfl rfl (by rw [hpc];decide) rfl ?_;intro S fS gS sS;rw [hcut] at fS;exact⟨(pc.set 3 (.slice (some ⟨b3,o3,none⟩) 1 c3),zmT p),(cvE rfl rfl),fS,zsr hP h1 h3,by show (p.threads.take 1).length<=1;rw [Qw];omega,zk gS hbX.size (by omega) |> hbX.trans⟩
  ·have h:¬ (1:Int)<(p.threads.length:Int):=dF h;exact⟨(pc,p),(cvE rfl rfl),f0,hP,by show p.threads.length<=1;omega,hbX⟩
 clear f0 hbX hP hcap hpc;clear X;rintro⟨pc,p⟩ X ⟨f0,hP,ht1,hbX⟩;dsimp only at f0 hP ht1;have hpc:=hP.v.size;refine⟨Bool×List zca×OA×Nat,fun s=>⟨[(1,At0 L),(3,.slice s.2.2.1 s.2.1.length s.2.2.2),(4,.bool s.1)],[]⟩,fun s Y=>(s.1=true->∃ V,zdt p=true/\zcc p V 200/\s.2.1.map (·.1)=qm p V/\OwnS exE 46 w.heap.size Y s.2.2.1 s.2.2.2 s.2.1/\∀ x∈s.2.1,OwnS evE 49 w.heap.size Y x.2.1 x.2.2 x.1.ev)/\Y.heap[L]?=some (.cells pc.toArray 29 (0,0))/\Bw w Y,?_,?_⟩
 ·refine⟨pc,hpc,za f0,hlt f0,cmo (ztx hbX.size (hP.below hbX) (hG.below hbX)) ?_⟩;rintro e Y ⟨hcase,hbY⟩;have hwY:=zst hbX hbY;have fY:=zb hbY f0;obtain⟨V,hok,hco,xs,q,c,rfl,hxs,oX,oE⟩ | rfl:=hcase
  ·exact⟨(true,xs,q,c),(cvE rfl rfl),fun _=>⟨V,hok,hco,hxs,oX.lower hbX.size,fun x hx=>(oE x hx).lower hbX.size⟩,fY,hwY⟩
  ·exact⟨(false,[],none,0),(cvE rfl rfl),(fun h=>by cases h),fY,hwY⟩
 clear f0 hbX;clear X;rintro⟨ok,xs,q,c⟩ Y ⟨hcase,f0,hwY⟩;dsimp only at hcase ⊢;refine⟨Unit,fun _=>⟨[(1,At0 L),(3,.slice q xs.length c)],[]⟩,fun _ X=>X=Y/\ok=true,?_,?_⟩
 ·cases ok with
  | false =>
   refine brT (cmo (aw Y hwY) ?_);rintro e U ⟨rfl,hbU⟩;exact⟨rfl,hbU⟩
  | true =>
   exact brF ⟨(),(cvE rfl rfl),rfl,rfl⟩
 rintro _ _ ⟨rfl,rfl⟩;obtain⟨V,hok,hco,hxs,oX,oE⟩:=hcase rfl;clear hcase;rename_i Y;have hO:=zfi hok;have sYw:=hwY.size;have hT:Tz64M Y:=hG.t64.below hwY;have hVn:V.Nodup:=by
  have:=(zeB hO hco.1).2;rw [<- this];exact (zcR V).imp fun h e=>by rw [e] at h;exact Nat.lt_irrefl _ h
 obtain⟨hlaw,i0,hi0,hone⟩:=zss hO hco (by decide) hVn ht1;have hlen:xs.length=(qm p V).length:=by rw [<- hxs,QO]
 have hn20:xs.length<=9223372036854775807:=by
  rcases oX.inv with ⟨_,h2,h⟩ | ⟨_,_,_,_,_,h,h2,_⟩
  ·rw [h];exact Ga _
  ·unfold maxLen at h2;omega
 obtain⟨cnt,hcnt⟩:∃ cnt:Nat->Nat,cnt=fun i=>if i0<i then 1 else 0:=⟨_,rfl⟩
 have c0:cnt 0=0:=by rw [hcnt];exact Gp (Uc _)
 have cN:cnt xs.length=1:=by rw [hcnt];exact Gq (by omega)
 have ca:cnt i0=0:=by rw [hcnt];exact Gp (Nat.lt_irrefl _)
 have cb:cnt (i0+1)=1:=by rw [hcnt];exact Gq (QC _)
 have cc:∀ i,i≠i0->cnt (i+1)=cnt i:=fun i h=>by
  rw [hcnt];dsimp only;by_cases h1:i0<i
  ·rw [Gq h1,Gq (by omega)]
  ·rw [Gp h1,Gp (by omega)]
 refine⟨Unit,fun _=>⟨[(5,i64 (cnt xs.length:Nat))],[]⟩,fun _ Z=>Bw Y Z,?_,?_⟩
 ·refine⟨Nat,fun i=>⟨[(1,At0 L),(5,i64 (cnt i:Nat)),(31,.slice q xs.length c),(32,i64 xs.length),(33,i64 (i:Nat))],[]⟩,fun i Z=>i<=xs.length/\Bw Y Z,fun i=>xs.length-i,0,⟨.cons rfl (.cons (by rw [c0];rfl) (.cons rfl (.cons rfl (.cons rfl .nil)))),rfl⟩,⟨Ga _,Gc _ _⟩,?_⟩;rintro i Z ⟨hi,hbZ⟩;refine biE (fun hc=>?_) fun hc=>?_
  rotate_left
  ·have hc:¬ (i:Int)<(xs.length:Int):=dF hc;obtain rfl:i=xs.length:=by omega
   exact⟨(),(cvE rfl rfl),hbZ⟩
  have hc:(i:Int)<(xs.length:Int):=dT hc;have hil:i<xs.length:=by omega
  obtain⟨b,o,rfl,hlb,hat⟩:=oX.row.at hil;obtain⟨x,hx⟩:∃ x,xs[i]=x:=⟨_,rfl⟩;have hat:=hat i hil;rw [hx] at hat;have hxm:x∈xs:=by rw [<- hx];exact gM hil
  have hxc:x.1∈qm p V:=by rw [<- hxs];exact Km hxm
  have hxi:(qm p V)[i]?=some x.1:=by rw [<- hxs,KV,gE hil,hx];rfl
  have hev:=(oE x hxm).row;obtain⟨xe,qx,cx⟩:=x;dsimp only at hat hxc hev hxi;obtain⟨hv,hright⟩:=zqU hO hco (by decide) hxc hev;have hI:=zcp hO hxc;have hx48:=hI.ok.n;obtain⟨hl1,hl2⟩:=hlaw xe hxc;have h1i:=hone i xe hxi;have hho:∀ m:Nat,1<=m->m<=6->zdh m xe=decide (qG 1 xe=0):=fun m h1 h2=>by
   unfold zdh zal;rw [Ut h1,Ut h2,hright];show decide (qG m xe=0)=_;exact QH.2 (hl1 m)
  clear hx hxm;refine⟨Unit,fun _=>⟨[(1,At0 L),(5,i64 (cnt (i+1):Nat)),(31,.slice (some ⟨b,o,none⟩) xs.length c),(32,i64 xs.length),(33,i64 (i:Nat))],[]⟩,fun _ Z=>Bw Y Z,?_,?_⟩
  rotate_left
  ·rintro _ Z2 hbZ2;exact nxI (by omega) ⟨i+1,(cvE rfl rfl),⟨hil,hbZ2⟩,zdc (by omega)⟩
  refine⟨Nat,fun M=>⟨[(1,At0 L),(5,i64 (cnt i:Nat)),(7,At0 M),(31,.slice (some ⟨b,o,none⟩) xs.length c),(32,i64 xs.length),(33,i64 (i:Nat))],[]⟩,fun M U=>ExH U M xe qx cx/\Bw Y U,?_,?_⟩
  ·exact⟨i,rfl,hil,exC xe qx cx,zC _ _ _,zr hbZ hat,nL hlb hbZ.size,zo (X:=Z) (v := .agg (exC xe qx cx).toArray) k46 (zC _ _ _) jC (zbj _ _ _) fun U hbU fU sU=>⟨Z.heap.size,(cvE rfl rfl),fU,(zst hbZ hbU)⟩⟩
  clear hbZ;clear Z;rintro M Z ⟨fM,hbZ⟩;obtain⟨hb,hhb⟩:=nm (decide (qG 1 xe=0));rw [<- hhb] at hho;refine⟨Unit,fun _=>⟨[(1,At0 L),(5,i64 (cnt i:Nat)),(7,At0 M),(8,.bool hb),(31,.slice (some ⟨b,o,none⟩) xs.length c),(32,i64 xs.length),(33,i64 (i:Nat))],[]⟩,fun _ U=>ExH U M xe qx cx/\Bw Y U,?_,?_⟩
  ·refine⟨exC xe qx cx,zC _ _ _,za fM,hlt fM,cmo (zkC (m:=1) (hv.below hbZ) (hT.below hbZ)) ?_⟩;rintro e U ⟨rfl,hbU⟩;have:zdh (1:UInt8).toNat xe=hb:=hho 1 (by decide) (by decide);rw [this];exact⟨(),(cvE rfl rfl),zb hbU fM,(zst hbZ hbU)⟩
  clear fM hbZ;clear Z;rintro _ Z ⟨fM,hbZ⟩;refine⟨Unit,fun _=>⟨[(1,At0 L),(5,i64 (cnt i:Nat)),(7,At0 M),(8,.bool hb),(31,.slice (some ⟨b,o,none⟩) xs.length c),(32,i64 xs.length),(33,i64 (i:Nat))],[]⟩,fun _ U=>Bw Z U,?_,?_⟩
  ·refine⟨UInt8,fun m=>⟨[(1,At0 L),(5,i64 (cnt i:Nat)),(7,At0 M),(8,.bool hb),(9,u8 m),(31,.slice (some ⟨b,o,none⟩) xs.length c),(32,i64 xs.length),(33,i64 (i:Nat))],[]⟩,fun m U=>(2<=m.toNat/\m.toNat<=7)/\Bw Z U,fun m=>7-m.toNat,2,(cvE rfl rfl),⟨⟨by decide,by decide⟩,Gc _ _⟩,?_⟩;rintro m U ⟨⟨hm2,hm7⟩,hbU⟩;refine biE (fun hc=>?_) fun hc=>?_
   ·have hc:((m.toNat:Nat):Int)<=6:=dT hc;have hm6:m.toNat<=6:=(by omega);refine⟨Unit,fun _=>⟨[(1,At0 L),(5,i64 (cnt i:Nat)),(7,At0 M),(8,.bool hb),(9,u8 m),(31,.slice (some ⟨b,o,none⟩) xs.length c),(32,i64 xs.length),(33,i64 (i:Nat))],[]⟩,fun _ U=>Bw Z U,?_,?_⟩
    ·have fU:=zb hbU fM;have hYU:=zst hbZ hbU;refine⟨exC xe qx cx,zC _ _ _,za fU,hlt fU,cmo (zkC (m:=m) (hv.below hYU) (hT.below hYU)) ?_⟩;rintro e S ⟨rfl,hbS⟩;rw [hho m.toNat (by omega) hm6];exact⟨_,fun w=>zjg _ _ _ _ w,brN (by rw [Ut rfl];rfl) ⟨(),(cvE rfl rfl),(zst hbU hbS)⟩⟩
    ·rintro _ S hbS;refine⟨((m+1).toNat:Int),zpU m 1,?_⟩;have hm1:(m+1).toNat=m.toNat+1:=by
      rw [UInt8.toNat_add];show (m.toNat+1)%256=_;omega
     exact⟨m+1,(cvE rfl rfl),⟨⟨by omega,by omega⟩,hbS⟩,by show 7-(m+1).toNat<7-m.toNat;omega⟩
   ·exact⟨(),(cvE rfl rfl),hbU⟩
  rintro _ U hbU;have hYU:=zst hbZ hbU;replace fM:=zb hbU fM;clear hbU hbZ;clear Z;have sU:=hYU.size;by_cases hbr:qG 1 xe=0
  rotate_left
  ·have e:hb=false:=by rw [hhb];exact Ui hbr
   subst e;refine brT ?_;have hii:i≠i0:=fun e=>hbr (h1i.2 e);exact⟨(),⟨.cons rfl (.cons (by rw [cc i hii];rfl) (.cons rfl (.cons rfl (.cons rfl .nil)))),rfl⟩,hYU⟩
  have e:hb=true:=by rw [hhb];exact Ut hbr
  subst e;refine brF ?_;have hii:=h1i.1 hbr;have cia:cnt i=0:=by rw [hii];exact ca
  have cib:cnt (i+1)=1:=by rw [hii];exact cb
  refine⟨((cnt (i+1):Nat):Int),(ze (by omega)).trans (by omega),?_⟩;obtain⟨hcons,hfin⟩:=hl2 hbr;have h6:=hO.i6;have hk1:=hO.i1;have hkn:p.init.length<=xe.ev.length:=by rw [<- hI.ini];exact zic _
  obtain⟨ν,hν⟩:∃ ν:Nat->UInt8,ν=fun a=>p.init.getD a 0:=⟨_,rfl⟩;refine⟨OA×Nat,fun s=>⟨[(1,At0 L),(5,i64 (cnt (i+1):Nat)),(7,At0 M),(10,.slice s.1 p.init.length s.2),(31,.slice (some ⟨b,o,none⟩) xs.length c),(32,i64 xs.length),(33,i64 (i:Nat))],[]⟩,fun s S=>OwnS zR 5 U.heap.size S s.1 s.2 p.init/\Bw U S,?_,?_⟩
  ·obtain⟨q2,c2,hq2,hrow2⟩:=hP.init;obtain⟨b2,o2,hp2,_,_⟩:=zd8 hrow2 (show 0<p.init.length by omega);have hcn:q2=none->c2=0:=fun h=>by rw [hp2] at h;cases h
   refine⟨⟨by decide,by decide,rfl⟩,[],rfl,?_⟩;have hb0:Bw U (U.alloc (.cells #[] 5)):=zba U _;have hw0:=hwY.trans ((hYU.trans (hb0.mono sU)).mono sYw);refine⟨.slice q2 p.init.length c2,zc (za (zb (hYU.trans (hb0.mono sU)) f0)) (i:=2) (by simpa using hq2),zfI (E:=zR) (T:=5) (B:=U.heap.size) (l:=[]) (news:=p.init) (cap:=0) Tryz.underlying23 k5 rfl rfl rfl zfg rfl ((hrow2.below hw0).slr hw0.size) hcn hb0.size (by simp;omega) (by show (0+p.init.length)*1<=_;omega) ?_⟩;intro q1 k1 S oS gS hbS;rw [QV] at oS;exact⟨(q1,k1),(cvE rfl rfl),oS,hb0.trans hbS⟩
  rintro⟨q1,k1⟩ S ⟨oS,hbS⟩;dsimp only at oS ⊢;obtain⟨g,rfl,hUg⟩:∃ g,q1=some ⟨g,0,none⟩/\U.heap.size<=g:=by
   rcases oS.inv with ⟨_,_,h⟩ | ⟨g,_,h,h2,_⟩
   ·rw [h] at hk1;exact Gr hk1 (by decide)
   ·exact⟨g,h,h2⟩
  have hMU:=hlt fM;refine⟨Unit,fun _=>⟨[(1,At0 L),(5,i64 (cnt (i+1):Nat)),(7,At0 M),(10,.slice (some ⟨g,0,none⟩) p.init.length k1),(31,.slice (some ⟨b,o,none⟩) xs.length c),(32,i64 xs.length),(33,i64 (i:Nat))],[]⟩,fun _ S=>OwnS zR 5 U.heap.size S (some ⟨g,0,none⟩) k1 (zcM p xe xe.ev.length)/\Bw U S,?_,?_⟩
  ·refine⟨_,zaE (za (zb hbS fM)),Nat,fun j=>⟨[(1,At0 L),(5,i64 (cnt (i+1):Nat)),(7,At0 M),(10,.slice (some ⟨g,0,none⟩) p.init.length k1),(31,.slice (some ⟨b,o,none⟩) xs.length c),(32,i64 xs.length),(33,i64 (i:Nat)),(57,.slice qx xe.ev.length cx),(58,i64 xe.ev.length),(59,i64 (j:Nat))],[]⟩,fun j S=>j<=xe.ev.length/\OwnS zR 5 U.heap.size S (some ⟨g,0,none⟩) k1 (zcM p xe j)/\Bw U S,fun j=>xe.ev.length-j,0,(cvE rfl rfl),⟨Ga _,by rw [zux];exact oS,hbS⟩,?_⟩;clear oS hbS;clear S;rintro j S ⟨hj,oS,hbS⟩;refine biE (fun hc=>?_) fun hc=>?_
   rotate_left
   ·have hc:¬ (j:Int)<(xe.ev.length:Int):=dF hc;obtain rfl:j=xe.ev.length:=(by omega);exact⟨(),(cvE rfl rfl),oS,hbS⟩
   have hc:(j:Int)<(xe.ev.length:Int):=dT hc;have hjl:j<xe.ev.length:=by omega
   obtain⟨be,oe,rfl,hbe,hate⟩:=zs1 hev (by omega);obtain⟨e,he⟩:∃ e,evA xe j=e:=⟨_,rfl⟩;have sS:=hbS.size;have hYS:=hYU.trans (hbS.mono sU);refine⟨Unit,fun _=>⟨[(1,At0 L),(5,i64 (cnt (i+1):Nat)),(7,At0 M),(10,.slice (some ⟨g,0,none⟩) p.init.length k1),(31,.slice (some ⟨b,o,none⟩) xs.length c),(32,i64 xs.length),(33,i64 (i:Nat)),(57,.slice (some ⟨be,oe,none⟩) xe.ev.length cx),(58,i64 xe.ev.length),(59,i64 (j:Nat))],[]⟩,fun _ S=>OwnS zR 5 U.heap.size S (some ⟨g,0,none⟩) k1 (zcM p xe (j+1))/\Bw U S,?_,?_⟩
   rotate_left
   ·rintro _ S2 ⟨oS2,hbS2⟩;exact nxI (by omega) ⟨j+1,(cvE rfl rfl),⟨hjl,oS2,hbS2⟩,zdc (by omega)⟩
   have hcv:zG S ⟨be,oe+j*7,none⟩ (evE.enc e):=by rw [<- he];exact zr hYS (hate j hjl)
   refine⟨j,rfl,hjl,evE.enc e,rfl,hcv,nL hbe hYS.size,zo (X:=S) (v := .agg (evE.enc e).toArray) k49 rfl rfl (Ql.2 fun u hu=>evE.one _ u hu) fun T hbT fN sT=>?_⟩;have oT:=oS.below hbT;have hUT:=hbS.trans (hbT.mono sS);refine⟨_,zc (za fN) (i:=0) rfl,biE (fun h=>?_) fun h=>?_⟩
   ·have h:e.th = -1:=dT h;have hjk:j<p.init.length:=QB fun hle=>by
     have:=zun hO ht1 hxc hle hjl;rw [he,h] at this;exact Gr this (by decide)
    rw [zuw hO hxc hjk hjl];exact⟨(),(cvE rfl rfl),oT,hUT⟩
   have h:¬ e.th = -1:=dF h;refine⟨_,zc (za fN) (i:=1) rfl,biE (fun h2=>?_) fun h2=>?_⟩
   ·have h2:e.k=2:=dT ((zce (x:=e.k) (y:=2)).symm.trans h2);have hloc:e.l.toNat<p.init.length:=by
     have:=hI.loc j hjl (Ut (by rw [he];exact h2));rw [hI.ini,he] at this;exact this
    refine⟨_,zc (za fN) (i:=2) rfl,_,zc (za fN) (i:=3) rfl,e.l.toNat,rfl,hloc,zqu k5 rfl oT (by rw [zaM];exact hloc) fun V2 oV gV=>?_⟩;have:=zuu (p:=p) hjl (by rw [he];exact h2);rw [he] at this;rw [<- this] at oV;exact⟨(),(cvE rfl rfl),oV,hUT.trans (zk gV hUT.size hUg)⟩
   have h2:¬ e.k=2:=dF ((zce (x:=e.k) (y:=2)).symm.trans h2);have hmn:=zuv (p:=p) hjl (by rw [he];exact h2);have hTd:Bw T T.drew:=(Gc _ _).drew;have hUd:=zst hUT hTd;refine DrawE.ord [] [0,1,2,3,4,5,6,7,8,9,10,11,12,13] (by kernel_rfl) ⟨_,zc (za (hdr fN)) (i:=1) rfl,biE (fun h3=>?_) fun h3=>?_⟩
   ·have h3:e.k=1:=dT ((zce (x:=e.k) (y:=1)).symm.trans h3);have hloc:e.l.toNat<p.init.length:=by
     obtain⟨s,s1,s2,s3,s4⟩:=zg9 hI.ok hI.loc (zfh hO ht1 hxc hbr) hjl (Ut (by rw [he];exact h3));obtain⟨g1,_⟩:=(zfW hI.ok.rf).1 hI.ok.rfR;obtain⟨w1,_,w3,_⟩:=g1 s j s2 hjl s3;have:=hI.loc s s2 w1;rw [w3,he,hI.ini] at this;exact this
    have hval:j9 (fun a=>p.init.getD a 0) (xe.ev.take j) e.l.toNat=e.v:=by
     have hsp:xe.ev=xe.ev.take j++evA xe j::xe.ev.drop (j+1):=by
      conv=>lhs;rw [<- JQ (j+1) xe.ev,znv hjl,KQ]
      rfl
     have:=hcons (fun a=>p.init.getD a 0) _ _ _ hsp (by rw [he];exact h3);rw [he] at this;exact this.symm
    have hcell:=zfp (p:=p) (x:=xe) (j:=j) hloc;rw [hval] at hcell;refine⟨_,zc (za (hdr fN)) (i:=2) rfl,e.l.toNat,rfl,hloc,?_⟩;have hg:=oT.row;obtain⟨bg,og,hq,_,hatg⟩:=(hg.below hTd).at (show e.l.toNat<(zcM p xe j).length by rw [zaM];exact hloc);have hgm:(zcM p xe j)[e.l.toNat]'(by rw [zaM];exact hloc)=e.v:=by
     rw [gE (by rw [zaM];exact hloc)] at hcell;exact Ug hcell
    have hc2:=hatg e.l.toNat (by rw [zaM];exact hloc);rw [hgm] at hc2;simp only [Qa,Uv,Gj] at hq;obtain⟨rfl,rfl⟩:=hq;refine⟨_,zc hc2 (i:=0) rfl,_,zc (za (hdr fN)) (i:=3) rfl,brN (by rw [Ut rfl];rfl) ?_⟩;rw [hmn];exact⟨(),(cvE rfl rfl),oT.below hTd,hUd⟩
   ·refine brF ?_;rw [hmn];exact⟨(),(cvE rfl rfl),oT.below hTd,hUd⟩
  clear oS hbS;clear S;rintro _ S ⟨oS,hbS⟩;refine⟨Nat,fun t=>⟨[(1,At0 L),(5,i64 (cnt (i+1):Nat)),(7,At0 M),(31,.slice (some ⟨b,o,none⟩) xs.length c),(32,i64 xs.length),(33,i64 (i:Nat)),(92,.slice (some ⟨g,0,none⟩) p.init.length k1),(93,i64 p.init.length),(94,i64 (t:Nat))],[]⟩,fun t Z=>t<=p.init.length/\Bw S Z,fun t=>p.init.length-t,0,(cvE rfl rfl),⟨Ga _,Gc _ _⟩,?_⟩;rintro t Z ⟨ht,hbZ⟩;have sS:=hbS.size;have hUZ:=hbS.trans (hbZ.mono sS);refine biE (fun hc=>?_) fun hc=>?_
  ·have hc:(t:Int)<(p.init.length:Int):=dT hc;have htl:t<p.init.length:=by omega
   refine⟨Unit,fun _=>⟨[(1,At0 L),(5,i64 (cnt (i+1):Nat)),(7,At0 M),(31,.slice (some ⟨b,o,none⟩) xs.length c),(32,i64 xs.length),(33,i64 (i:Nat)),(92,.slice (some ⟨g,0,none⟩) p.init.length k1),(93,i64 p.init.length),(94,i64 (t:Nat))],[]⟩,fun _ Z=>Bw S Z,?_,?_⟩
   rotate_left
   ·rintro _ Z2 hbZ2;exact nxI (by omega) ⟨t+1,(cvE rfl rfl),⟨htl,hbZ2⟩,zdc (by omega)⟩
   have hl3:t<(zcM p xe xe.ev.length).length:=by rw [zaM];exact htl
   obtain⟨bg,og,hq,_,hatg⟩:=(oS.row.below hbZ).at hl3;have hc2:=hatg t hl3;have hgm:(zcM p xe xe.ev.length)[t]=xe.mem t:=by
    have h1:=zfp (p:=p) (x:=xe) (j:=xe.ev.length) htl;rw [gE hl3,Qy] at h1;rw [Ug h1];exact (hfin _ t htl).symm
   rw [hgm] at hc2;simp only [Qa,Uv,Gj] at hq;obtain⟨rfl,rfl⟩:=hq;refine⟨t,rfl,htl,_,zc hc2 (i:=0) rfl,t,rfl,by omega,?_⟩;exact⟨_,zqI (za (zb hUZ fM)) (by omega),brN (by rw [Ut rfl];rfl) ⟨(),(cvE rfl rfl),hbZ⟩⟩
  ·exact⟨(),(cvE rfl rfl),hYU.trans (hUZ.mono sU)⟩
 rintro _ Z hbZ;refine brE (by rw [cN];rfl) (cmo (aw Z (hwY.trans (hbZ.mono sYw))) ?_);rintro e U ⟨rfl,hbU⟩;exact⟨rfl,hbU⟩
end
end Go.Proofs.YtkpaomeeknegpaaGreatDoor
namespace Go.Proofs.YtkpaomeeknegpaaGreatDoor
open Go.Vc Go.RowKit Go.Sei
open Go.ChangeShapes Go.WideShapes Go.ChangeAt
section
variable {H:Type} {enc:TypeId×Value->H} {P:Program} {w:Wd} {base:Nat} {spare:Nat->Bool} {held:Bool} {fuel:Nat} {t:TypeId} {cs:List Value} {x:DataW H×List MemPlace}
theorem znY (ht:P.underlying t=some (.int .u8)) (h:DataW.trod enc P w base spare held fuel t cs=some x):∃ b:UInt8,cs=[u8 b]/\x.1 = .lit (.int .u8 b.toNat):=by
 obtain⟨n,rfl,rfl,hw⟩:=DataW.trod_int ht h;have hb:=bounds_u8 hw;have e:((UInt8.ofNat n.toNat).toNat:Int)=n:=by
  rw [KI];omega
 exact⟨UInt8.ofNat n.toNat,by rw [u8,e],by rw [e]⟩
theorem zhT {n:Nat} {e:TypeId} (ht:P.underlying t=some (.array n e)) (he:P.underlying e=some (.int .u8)) (hc:P.cellsOf e=1) (hn:P.cellsOf t=n)
  (h:DataW.trod enc P w base spare held fuel t cs=some x):∃ bs:List UInt8,bs.length=n/\cs=bs.map u8/\x.1 = .agg (bs.map fun b => .lit (.int .u8 b.toNat)):=by
 obtain⟨xs,m,rfl,rfl,hl,hx,hel⟩:=DataW.trod_array ht h;rw [hn] at hl;have each:∀ i (h:i<n),∃ b:UInt8,cs[i]?=some (u8 b)/\xs[i]?.map (·.1)=some (.lit (.int .u8 b.toNat)):=fun i hi=>by
  have h1:=hel i hi;rw [hc,gE (by omega)] at h1;obtain⟨b,h2,h3⟩:=znY he h1;refine⟨b,?_,by rw [gE (by omega),Uf,h3]⟩;have:((cs.drop (i*1)).take 1)[0]?=some (u8 b):=by rw [h2];rfl
  simpa using this
 have:∀ k,k<=n->∃ bs:List UInt8,bs.length=k/\cs.take k=bs.map u8/\(xs.take k).map (·.1)=bs.map fun b => .lit (.int .u8 b.toNat):=by
  intro k
  induction k with
  | zero=>exact fun _=>⟨[],rfl,by simp,by simp⟩
  | succ k ih =>
   intro hk;obtain⟨bs,h1,h2,h3⟩:=ih (by omega);obtain⟨b,h4,h5⟩:=each k (by omega);have hk1:k<cs.length:=by omega
   have hk2:k<xs.length:=by omega
   rw [gE hk1] at h4;rw [gE hk2] at h5;refine⟨bs++[b],by simp [h1],?_,?_⟩
   ·rw [tsg hk1,h2,Ug h4];simp
   ·rw [tsg hk2,QS,h3];simp at h5;simp [h5]
 obtain⟨bs,h1,h2,h3⟩:=this n (UX _);rw [JH (by omega)] at h2 h3;exact⟨bs,h1,h2,by rw [<- h3]⟩
end
theorem zbx:Tryz.prog.cellsOf 5=1:=by kernel_rfl
theorem zuZ:Tryz.prog.cellsOf 4=1:=by kernel_rfl
theorem zmj (b o i:Nat):(⟨b,o,none⟩:Addr).add i=⟨b,o+i,none⟩:=by
 unfold Addr.add;by_cases h:i=0
 ·simp [h]
 ·simp [h]
section
variable {w:Wd} {base:Nat} {cs:List Value}
theorem zkt {a:Addr} {n:Nat} (hn:0<n) (h:w.cells? base a n=some cs):a.spot=none/\a.block<w.heap.size/\zG w ⟨a.block,a.off,none⟩ cs:=by
 obtain⟨_,hl,hc⟩:=World.cells?_some h;have h0:=hc 0 hn;rw [gE (by omega)] at h0;have hs:a.spot=none:=by simpa [Addr.add] using World.cell?_spot h0
 obtain⟨b,o,s⟩:=a;dsimp only at hs;subst hs;refine⟨rfl,JA _ _ h0,zaO fun i v hv=>?_⟩;have hi:i<n:=by have:=(Js.1 hv).1;omega
 have:=(hc i hi).trans hv;rw [zmj] at this;exact this
end
theorem zqd:ownKnob Tryz.prog.godebug=none:=by kernel_rfl
theorem zjV:laidOutB PG=true:=by kernel_rfl
section
variable {H:Type} {enc:TypeId×Value->H} {P:Program} {w:Wd} {base:Nat} {spare:Nat->Bool} {held:Bool} {fuel:Nat} {t e:TypeId} {cs:List Value} {x:DataW H×List MemPlace}
def Opens (enc:TypeId×Value->H) (P:Program) (w:Wd) (base:Nat) (spare:Nat->Bool) (held:Bool) (t:TypeId) (R:List Value->Prop):Prop :=
 ∀ fuel cs x,DataW.trod enc P w base spare held fuel t cs=some x->R cs
theorem Opens.field {fs:Array Field} {R:List Value->Prop} {i:Nat} {f:Field} {n:Nat} {xs:List (DataW H×List MemPlace)} {m:Nat} (hel:∀ (i:Nat) (f:Field),fs[i]?=some f->DataW.trod enc P w base spare held m f.type ((cs.drop f.offset).take (P.cellsOf f.type))=xs[i]?)
  (hl:xs.length=fs.size) (hi:fs[i]?=some f) {o:Nat} (hoo:f.offset=o) (hn:P.cellsOf f.type=n) (ho:Opens enc P w base spare held f.type R):R ((cs.drop o).take n):=by
 subst hoo;have h1:=hel i f hi;have:i<fs.size:=(Jk.1 hi).1;rw [gE (by omega),hn] at h1;exact ho _ _ _ h1
theorem jU (ht:P.underlying t=some (.int .u8)):Opens enc P w base spare held t fun cs=>∃ b:UInt8,cs=[u8 b]:=fun fuel cs x h=>by
 obtain⟨b,h,_⟩:=znY ht h;exact⟨b,h⟩
theorem zmR (ht:P.underlying t=some .bool):Opens enc P w base spare held t fun cs=>∃ b:Bool,cs=[.bool b]:=fun fuel cs x h=>by
 obtain⟨b,h,_⟩:=DataW.trod_bool ht h;exact⟨b,h⟩
theorem zsA {β:Type} {n:Nat} (i0:β) {Q:Nat->β->Prop} (h:∀ i,i<n->∃ b,Q i b):∃ bs:List β,bs.length=n/\∀ i (hi:i<bs.length),Q i bs[i]:=by
 have h2:∀ i,∃ b,i<n->Q i b:=fun i=>by
  by_cases hi:i<n
  ·obtain⟨b,hb⟩:=h i hi;exact⟨b,fun _=>hb⟩
  ·exact⟨i0,fun h=>Gr h hi⟩
 obtain⟨g,hg⟩:=Classical.axiomOfChoice h2;refine⟨(List.range n).map g,by simp,fun i hi=>?_⟩;simp only [Qs,Kz];exact hg i (by simpa using hi)
theorem cut (cs:List Value) (o n o':Nat) (h:o+n=o'):cs.drop o=(cs.drop o).take n++cs.drop o':=by
 rw [<- h,<- Ul,JQ]
end
theorem cC (t n:Nat) (h:Tryz.prog.cellsOf t=n):Tryz.prog.cellsOf t=n:=h
theorem ze8 {H:Type} {enc:TypeId×Value->H} {a:Assume} {C:Checked} {os:Os} {f:FuncId} {fn:Func} {s:ChangeSpec} {conds:List PathCond} {apart fresh handsOn again:Bool} {X:Wd->Array Value->Prop}
  (hX:∀ (w w':Wd) (args:Array Value),w.heap=w'.heap->X w args->X w' args)
  (own:ownKnob C.prog.godebug=none) (started:os.Started) (noInit:C.prog.inits.idxOf? f=none) (hfn:C.prog.funcs[f]?=some fn)
  (witness:∃ (w:Wd) (tape:Tape) (i:Input),w.os=os/\(w.forCall tape i).Shaped C.prog/\i.vars=[]/\Input.okWide C.prog (w.forCall tape i) .any w.heap.size f i /\
   ((s.pre enc C.prog fn conds apart (w.forCall tape i).memory i.args/\X (w.forCall tape i).memory i.args)/\sizedMet enc C.prog fn (OpenSpec.ofChange s) apart (w.forCall tape i).memory i.args)/\a.holds C.prog (lone (Frame.enter C.prog f i.args .normal) [] (w.forCall tape i)))
  (contract:∀ (W:Wd) (base:Nat) (args:Array Value) (ds gs:List (DataW H)) (before:List MemPlace),
   (∀ (j:Nat) t v,fn.params[j]?=some t->args[j]?=some v->Value.okWide C.prog W .any base t v) ->
   DataW.Whole enc C.prog fn.params.toList s.vars apart W args.toList ds gs before->X W args->W.ShapedOpen C.prog ->
   (∃ ds gs before,DataW.Whole enc C.prog fn.params.toList (OpenSpec.ofChange s).vars apart W args.toList ds gs before/\∀ n∈DataW.weightsEach C.prog (fn.params.toList++(OpenSpec.ofChange s).bare.plain.varTypes C.prog) (ds++gs),n<=reachBytes) ->
   Calls C.prog f args W fun e W'=>∃ v,e = .returned v/\s.post enc C.prog fn apart fresh handsOn again W args v W') :
  ReturnsInHanded a C os f .any (fun w args=>(s.pre enc C.prog fn conds apart w args/\X w args)/\sizedMet enc C.prog fn (OpenSpec.ofChange s) apart w args) (s.post enc C.prog fn apart fresh handsOn again):=by
 refine returnsInHanded_of_calls own started noInit witness ?_;intro w tape i _ hsh _ hok hpre hholds;obtain⟨_,_,_,fn',hfn',_,_,_,_,hval⟩:=hok;have e:fn'=fn:=Ug (hfn'.symm.trans hfn);subst e;obtain⟨⟨⟨ds,gs,before,hw,hc⟩,hx⟩,hz⟩:=hpre;have hw':=DataW.Whole.of_heap (w':=w.forCall tape i) (by rfl) hw;obtain⟨_,ds2,gs2,before2,hw2,hall⟩:=hz;refine (contract (w.forCall tape i) w.heap.size i.args ds gs before hval hw' (hX _ _ _ (by rfl) hx) hsh ⟨ds2,gs2,before2,DataW.Whole.of_heap (w':=w.forCall tape i) (by rfl) hw2,fun n hn=>dT (Ql.1 hall n hn)⟩).mono fun e W' ⟨v,he,hp⟩=>?_;subst he;exact ChangeSpec.post_blind hp
section
variable {H:Type} {enc:TypeId×Value->H} {P:Program} {w:Wd} {base:Nat} {spare:Nat->Bool} {held:Bool} {fuel:Nat} {t:TypeId} {cs:List Value} {x:DataW H×List MemPlace}
def Wgt (P:Program) (t:TypeId) (d:DataW H):Prop:=∀ n∈d.weights P t,n<=reachBytes
theorem zr1 {ds:List (DataW H)} {e:TypeId} (h:∀ n∈DataW.weightsAll P e ds,n<=reachBytes):∀ d∈ds,Wgt P e d:=by
 induction ds with
 | nil=>intro d hd;cases hd
 | cons a r ih =>
  intro d hd;simp only [DataW.weightsAll,QT] at h;rcases UE.1 hd with rfl | hd
  ·exact fun n hn=>h n (.inl hn)
  ·exact ih (fun n hn=>h n (.inr hn)) d hd
end
theorem zh1 {H:Type}:∀ {a b:List UInt8},a.map (fun b=>(DataW.lit (.int .u8 b.toNat):DataW H))=b.map (fun b=>DataW.lit (.int .u8 b.toNat))->a=b
 | [],[],_=>rfl
 | [],_::_,h=>by cases h
 | _::_,[],h=>by cases h
 | x::a,y::b,h=>by
  simp only [UD,QM,DataW.lit.injEq,Lit.int.injEq,true_and] at h;rw [zh1 h.2,Uh.1 (by omega:x.toNat=y.toNat)]
section
variable {H:Type} {enc:TypeId×Value->H} {P:Program} {w:Wd} {base:Nat} {spare:Nat->Bool} {held:Bool} {fuel F:Nat} {t e:TypeId} {cs:List Value} {x:DataW H×List MemPlace}
def OpensW (enc:TypeId×Value->H) (P:Program) (w:Wd) (base:Nat) (spare:Nat->Bool) (held:Bool) (F:Nat) (t:TypeId) (R:List Value->Prop):Prop :=
 ∀ n,n<F->∀ cs x,DataW.trod enc P w base spare held n t cs=some x->Wgt P t x.1->R cs
theorem zbs {R:List Value->Prop} (h:Opens enc P w base spare held t R):OpensW enc P w base spare held F t R:=fun n _ cs x h1 _=>h n cs x h1
theorem OpensW.field {fs:Array Field} {R:List Value->Prop} (ht:P.underlying t=some (.struct fs)) (h:DataW.trod enc P w base spare held fuel t cs=some x) (hw:Wgt P t x.1) (hF:fuel<=F) {i:Nat} {f:Field} (hf:fs[i]?=some f) {T o k:Nat} (hT:f.type=T) (hO:f.offset=o) (hk:P.cellsOf T=k)
  (ho:OpensW enc P w base spare held F T R):R ((cs.drop o).take k):=by
 subst hT hO hk;obtain⟨xs,n,rfl,rfl,hl,hx,hel⟩:=KL ht h;have h1:=hel i f hf;have hi:i<xs.length:=by rw [hx];exact (Jk.1 hf).1
 rw [gE hi] at h1;refine ho n (by omega) _ _ h1 fun m hm=>hw m ?_;simp only [DataW.weights,ht];refine DataW.weights_mem_each (j:=i) (t:=f.type) (d:=xs[i].1) ?_ ?_ m hm
 ·rw [KV];have:fs.toList[i]?=some f:=by simpa using hf
  rw [this];rfl
 ·rw [KV,gE hi];rfl
theorem zhR (ht:P.underlying t=some .string):OpensW enc P w base spare held F t fun cs=>∃ s:List UInt8,s.length<=140737488351232/\cs=[qJ s]:=fun n _ cs x h hw=>by
 obtain⟨s,rfl,rfl,_⟩:=DataW.trod_string ht h;refine⟨s.data.toList,hw _ (by simp [DataW.weights]),?_⟩;unfold qJ bs;rw [Array.toArray_toList]
theorem zcL {β:Type} (i0:β) {f:β->List Value} {Q:β->Prop} {sz:Nat} (hp:0<sz) (ht:P.underlying t=some (.slice e)) (hc:P.cellsOf e=sz) (hb:Nat.ble 1 (P.bytesOf e)=true) (ho:OpensW enc P w base spare held F e fun cs=>∃ b,Q b/\cs=f b) :
  OpensW enc P w base spare held (F+1) t fun cs=>∃ (p:OA) (cap:Nat) (l:List β),cs=[.slice p l.length cap]/\(l.length<=140737488351232/\l.length*P.bytesOf e<=140737488351232)/\l.length<=cap/\(∀ b∈l,Q b)/\∃ b o,(l.length=0\/p=some ⟨b,o,none⟩)/\∀ i (hi:i<l.length),b<w.heap.size/\zG w ⟨b,o+i*sz,none⟩ (f l[i]):=fun n hn cs x h hw=>by
 rcases DataW.trod_slice ht h with ⟨rfl,_⟩ | ⟨a,len,cap,elems,qE,n,rfl,rfl,hx,_,hlc,hcm,hlen,hel,_,_⟩
 ·exact⟨none,0,[],rfl,⟨by simp,by simp⟩,by simp,by simp,0,0,.inl rfl,fun i hi=>by simp at hi⟩
 ·subst hx;have hw':∀ m,m∈((elems.map (·.1)).length+(qE.map (·.1)).length)*P.bytesOf e::(DataW.weightsAll P e (elems.map (·.1))++DataW.weightsAll P e (qE.map (·.1)))->m<=reachBytes:=fun m hm=>by
   refine hw m ?_;simp only [DataW.weights,ht];exact hm
  have hb:=JS hb;have hlb:len<=140737488351232/\len*P.bytesOf e<=140737488351232:=by
   have h1:=hw' _ KA;simp only [QO] at h1;have:elems.length*1<=(elems.length+qE.length)*P.bytesOf e:=Ur (QA _ _) hb;have h2:elems.length*P.bytesOf e<=(elems.length+qE.length)*P.bytesOf e:=Ur (QA _ _) (UX _);have hr:reachBytes=140737488351232:=rfl;rw [<- hlen];omega
  have each:∀ i,i<len->∃ m:β,Q m/\(a.add (i*sz)).spot=none/\(a.add (i*sz)).block<w.heap.size/\zG w ⟨(a.add (i*sz)).block,(a.add (i*sz)).off,none⟩ (f m):=fun i hi=>by
   have h1:=hel i hi;rw [hc,gE (by omega),Option.bind_eq_some_iff] at h1;obtain⟨cs,h2,h3⟩:=h1;obtain⟨m,hq,rfl⟩:=ho n (by omega) _ _ h3 (zr1 (ds:=elems.map (·.1)) (fun m hm=>hw' m (JY _ (JW _ hm))) _ (Km (gM _)));exact⟨m,hq,zkt hp h2⟩
  obtain⟨l,h1,h2⟩:=zsA i0 each;refine⟨some a,cap,l,by rw [h1],by rw [h1];exact hlb,by omega,fun b hb=>?_,a.block,a.off,?_,fun i hi=>?_⟩
  ·obtain⟨i,hi,rfl⟩:=Kj hb;exact (h2 i hi).1
  ·by_cases h00:l.length=0
   ·exact .inl h00
   ·right;have hsp:a.spot=none:=by
     have:=(h2 0 (by omega)).2.1;simpa [Addr.add] using this
    obtain⟨b,o,s⟩:=a;dsimp only at hsp;subst hsp;rfl
  ·have hsp:a.spot=none:=by
    have:=(h2 0 (by omega)).2.1;simpa [Addr.add] using this
   obtain⟨b,o,s⟩:=a;dsimp only at hsp;subst hsp;have:=(h2 i hi).2.2;rw [zmj] at this;exact this
end
section
variable {H:Type} {enc:TypeId×Value->H} {P:Program} {w:Wd} {base:Nat} {spare:Nat->Bool} {held:Bool} {fuel F:Nat} {t e:TypeId} {cs:List Value} {x:DataW H×List MemPlace}
theorem zfU {α:Type} {E:Enc α} {p:OA} {l:List α} (h:∃ b o,(l.length=0\/p=some ⟨b,o,none⟩)/\∀ i (hi:i<l.length),b<w.heap.size/\zG w ⟨b,o+i*E.sz,none⟩ (E.enc l[i])):RowB E w.heap.size w p l:=by
 obtain⟨b,o,hp,hc⟩:=h;by_cases h0:l=[]
 ·exact .inl h0
 ·have hl0:0<l.length:=List.length_pos_iff.2 h0;rcases hp with hp | rfl
  ·omega
  ·exact RowB.of_slr (.inr ⟨b,o,rfl,(hc 0 hl0).1,fun i hi=>(hc i hi).2⟩)
end
section
variable {H:Type} {enc:TypeId×Value->H} {w:Wd} {base:Nat} {spare:Nat->Bool} {held:Bool} {F:Nat}
theorem zjc:Opens enc PG w base spare held 53 fun cs=>∃ (r:Bool) (n:UInt8),cs=[.bool r,u8 n]:=fun fuel cs x h=>by
 obtain⟨xs,m,rfl,rfl,hl,hx,hel⟩:=KL Tryz.underlying53 h;rw [cC 53 2 (by kernel_rfl)] at hl;obtain⟨b0,e0⟩:=Opens.field (o:=0) (i:=0) hel hx rfl rfl zuZ (zmR Tryz.underlying4);obtain⟨b1,e1⟩:=Opens.field (o:=1) (i:=1) hel hx rfl rfl zbx (jU Tryz.underlying5);refine⟨b0,b1,?_⟩;have h0:cs=cs.drop 0:=rfl;have h9:cs.drop 2=[]:=JC (by omega);rw [h0,cut cs 0 1 1 rfl,cut cs 1 1 2 rfl,e0,e1,h9];rfl
theorem zo9:Opens enc PG w base spare held 55 fun cs=>∃ x:InsD,True/\cs=zE.enc x:=fun fuel cs x h=>by
 obtain⟨xs,m,rfl,rfl,hl,hx,hel⟩:=KL Tryz.underlying55 h;rw [cC 55 10 (by kernel_rfl)] at hl;obtain⟨b0,e0⟩:=Opens.field (o:=0) (i:=0) hel hx rfl rfl zbx (jU Tryz.underlying5);obtain⟨b1,e1⟩:=Opens.field (o:=1) (i:=1) hel hx rfl rfl zbx (jU Tryz.underlying5);obtain⟨b2,e2⟩:=Opens.field (o:=2) (i:=2) hel hx rfl rfl zbx (jU Tryz.underlying5);obtain⟨r3,n3,e3⟩:=Opens.field (o:=3) (i:=3) hel hx rfl rfl (cC 53 2 (by kernel_rfl)) zjc;obtain⟨r4,n4,e4⟩:=Opens.field (o:=5) (i:=4) hel hx rfl rfl (cC 53 2 (by kernel_rfl)) zjc;obtain⟨b5,e5⟩:=Opens.field (o:=7) (i:=5) hel hx rfl rfl zbx (jU Tryz.underlying5);obtain⟨b6,e6⟩:=Opens.field (o:=8) (i:=6) hel hx rfl rfl zbx (jU Tryz.underlying5);obtain⟨b7,e7⟩:=Opens.field (o:=9) (i:=7) hel hx rfl rfl zbx (jU Tryz.underlying5);refine⟨⟨b0,b1,b2,r3,n3,r4,n4,b5,b6,b7⟩,trivial,?_⟩;have h0:cs=cs.drop 0:=rfl;have h9:cs.drop 10=[]:=JC (by omega);rw [h0,cut cs 0 1 1 rfl,cut cs 1 1 2 rfl,cut cs 2 1 3 rfl,cut cs 3 2 5 rfl,cut cs 5 2 7 rfl,cut cs 7 1 8 rfl,cut cs 8 1 9 rfl,cut cs 9 1 10 rfl,e0,e1,e2,e3,e4,e5,e6,e7,h9];rfl
theorem zmS:OpensW enc PG w base spare held F 51 fun cs=>∃ x:znl,(x.1.length<=140737488351232/\RowB zE w.heap.size w x.2.1 x.1)/\cs=zoI.enc x:=fun n hn cs x h hw=>by
 obtain⟨p,cap,l,h1,h2,_,_,h3⟩:=zcL (F:=n) (⟨0,0,0,false,0,false,0,0,0,0⟩:InsD) (f:=zE.enc) (Q:=fun _=>True) (sz:=10) (by decide) Tryz.underlying51 (by kernel_rfl) (by kernel_rfl) (zbs zo9) n (QC n) cs x h hw;exact⟨(l,p,cap),⟨h2.1,zfU h3⟩,h1⟩
theorem zhS:∀ F,OpensW enc PG w base spare held F 27 fun cs=>∃ x:Cnd×OA×Nat,KidsV w.heap.size w x.2.1 x.1.kids/\cs=zae x.1 x.2.1 x.2.2
 | 0=>fun n hn=>Gr hn (Uc _)
 | F+1=>fun n hn cs x h hw=>by
  have ih:=zhS F;have hF:n<=F+1:=by omega
  have hl:cs.length=5:=by
   obtain⟨xs,m,_,_,hl,_,_⟩:=KL Tryz.underlying27 h;rw [cC 27 5 (by kernel_rfl)] at hl;exact hl
  obtain⟨b0,e0⟩:=OpensW.field (F:=F+1) (o:=0) (i:=0) Tryz.underlying27 h hw hF rfl rfl rfl zbx (zbs (jU Tryz.underlying5));obtain⟨b1,e1⟩:=OpensW.field (F:=F+1) (o:=1) (i:=1) Tryz.underlying27 h hw hF rfl rfl rfl zbx (zbs (jU Tryz.underlying5));obtain⟨b2,e2⟩:=OpensW.field (F:=F+1) (o:=2) (i:=2) Tryz.underlying27 h hw hF rfl rfl rfl zbx (zbs (jU Tryz.underlying5));obtain⟨b3,e3⟩:=OpensW.field (F:=F+1) (o:=3) (i:=3) Tryz.underlying27 h hw hF rfl rfl rfl zbx (zbs (jU Tryz.underlying5));obtain⟨p,cap,l,e4,hll,_,hQ,b,o,hp,hc⟩:=OpensW.field (F:=F+1) (o:=4) (i:=4) Tryz.underlying27 h hw hF rfl rfl rfl (cC 25 1 (by kernel_rfl))
   (zcL (F:=F) ((.mk 0 0 0 0 [],none,0):Cnd×OA×Nat) (f:=fun x=>zae x.1 x.2.1 x.2.2) (Q:=fun x=>KidsV w.heap.size w x.2.1 x.1.kids) (sz:=5) (by decide) Tryz.underlying25 (by kernel_rfl) (by kernel_rfl) ih)
  refine⟨(.mk b0 b1 b2 b3 (l.map (·.1)),p,cap),?_,?_⟩
  ·refine .mk p (l.map (·.1)) (by rw [QO];have:=hll.2;rw [show Tryz.prog.bytesOf 27=32 by kernel_rfl] at this;exact this) b o (by rw [QO];exact hp) (fun i=>(l.getD i (.mk 0 0 0 0 [],none,0)).2.1) (fun i=>(l.getD i (.mk 0 0 0 0 [],none,0)).2.2) (fun i hi=>?_) (fun i hi=>?_)
   ·have hi':i<l.length:=(by rw [QO] at hi;exact hi);have e:l.getD i (.mk 0 0 0 0 [],none,0)=l[i]:=(by rw [gDe,gE hi'];rfl);rw [e,Qs];exact hc i hi'
   ·have hi':i<l.length:=(by rw [QO] at hi;exact hi);have e:l.getD i (.mk 0 0 0 0 [],none,0)=l[i]:=(by rw [gDe,gE hi'];rfl);rw [e,Qs];exact hQ _ (gM hi')
  ·have h0:cs=cs.drop 0:=rfl;have h9:cs.drop 5=[]:=JC (by omega);rw [h0,cut cs 0 1 1 rfl,cut cs 1 1 2 rfl,cut cs 2 1 3 rfl,cut cs 3 1 4 rfl,cut cs 4 1 5 rfl,e0,e1,e2,e3,e4,h9];simp [zae,Cnd.kind,Cnd.thread,Cnd.n,Cnd.val,Cnd.kids]
end
section
variable {H:Type} {enc:TypeId×Value->H} {w:Wd} {base:Nat} {spare:Nat->Bool} {held:Bool} {F:Nat}
theorem zlp:OpensW enc PG w base spare held F 29 fun cs=>∃ p:Prg,PrgX w.heap.size w cs p/\∃ p3 c3,cs[3]?=some (.slice p3 p.threads.length c3)/\p.threads.length<=c3:=fun n hn cs x h hw=>by
 have hF:n<=n+1:=Nat.le_succ n;have hl:cs.length=10:=by
  obtain⟨xs,m,_,_,hl,_,_⟩:=KL Tryz.underlying29 h;rw [cC 29 10 (by kernel_rfl)] at hl;exact hl
 obtain⟨nm,k0,e0⟩:=OpensW.field (F:=n+1) (o:=0) (i:=0) Tryz.underlying29 h hw hF rfl rfl rfl (cC 9 1 (by kernel_rfl)) (zhR Tryz.underlying9);obtain⟨p1,c1,l1,e1,k1,kc1,q1,r1⟩:=OpensW.field (F:=n+1) (o:=1) (i:=1) Tryz.underlying29 h hw hF rfl rfl rfl (cC 22 1 (by kernel_rfl))
  (zcL (F:=n) ([]:List UInt8) (f:=zlu.enc) (Q:=fun s=>s.length<=140737488351232) (sz:=1) (by decide) Tryz.underlying22 (by kernel_rfl) (by kernel_rfl) (zhR Tryz.underlying9))
 obtain⟨p2,c2,l2,e2,k2,kc2,q2,r2⟩:=OpensW.field (F:=n+1) (o:=2) (i:=2) Tryz.underlying29 h hw hF rfl rfl rfl (cC 23 1 (by kernel_rfl))
  (zcL (F:=n) (0:UInt8) (f:=zR.enc) (Q:=fun _=>True) (sz:=1) (by decide) Tryz.underlying23 zbx (by kernel_rfl) (zbs (fun fuel cs x h=>by
   obtain⟨b,hb⟩:=jU Tryz.underlying5 fuel cs x h;exact⟨b,trivial,hb⟩)))
 obtain⟨p3,c3,l3,e3,k3,kc3,q3,r3⟩:=OpensW.field (F:=n+1) (o:=3) (i:=3) Tryz.underlying29 h hw hF rfl rfl rfl (cC 24 1 (by kernel_rfl))
  (zcL (F:=n) (([],none,0):znl) (f:=zoI.enc) (Q:=fun x=>x.1.length<=140737488351232/\RowB zE w.heap.size w x.2.1 x.1) (sz:=1) (by decide) Tryz.underlying24 (by kernel_rfl) (by kernel_rfl) zmS)
 obtain⟨b4,e4⟩:=OpensW.field (F:=n+1) (o:=4) (i:=4) Tryz.underlying29 h hw hF rfl rfl rfl zbx (zbs (jU Tryz.underlying5));obtain⟨⟨c,p4,c4⟩,hk,e5⟩:=OpensW.field (F:=n+1) (o:=5) (i:=5) Tryz.underlying29 h hw hF rfl rfl rfl (cC 27 5 (by kernel_rfl)) (zhS (n+1));have hc3:cs[3]?=some (.slice p3 (l3.map (·.1)).length c3):=by
  have:=Gk (fun l=>l[0]?) e3;simpa using this
 refine⟨⟨nm,l1,l2,l3.map (·.1),b4,c⟩,⟨⟨⟨k0,k1.1,q1,k2.1,by rw [QO];exact k3.1,fun l hl=>?_⟩,p1,c1,p2,c2,p3,c3,p4,c4,?_,zfU r1,zfU r2,⟨l3,rfl,zfU r3,fun x hx=>(q3 x hx).2⟩,hk,kc1⟩,⟨p3,c3,hc3,l3,rfl,zfU r3,fun x hx=>⟨(q3 x hx).2,fun hne a ha=>?_⟩⟩,⟨p2,c2,?_,zfU r2⟩⟩,p3,c3,hc3,by rw [QO];exact kc3⟩
 ·obtain⟨x,hx,rfl⟩:=UL.1 hl;exact (q3 x hx).1
 ·have h0:cs=cs.drop 0:=rfl;have h9:cs.drop 10=[]:=JC (by omega);rw [h0,cut cs 0 1 1 rfl,cut cs 1 1 2 rfl,cut cs 2 1 3 rfl,cut cs 3 1 4 rfl,cut cs 4 1 5 rfl,cut cs 5 5 10 rfl,e0,e1,e2,e3,e4,e5,h9];simp [ja,zae]
 ·have hl:=List.length_pos_iff.2 hne;obtain⟨b,o,e,hb,_⟩:=zd8 (q3 x hx).2 hl;rw [ha] at e;obtain rfl:=Ug e;exact hb
 ·have:=Gk (fun l=>l[0]?) e2;simpa using this
theorem zpa {a:Array Value} {d:DataW H} {p:List MemPlace} (h:DataW.Trod enc PG w base spare held 29 (.agg a) d p) (hw:Wgt PG 29 d):∃ p:Prg,PrgX w.heap.size w a.toList p/\∃ p3 c3,a.toList[3]?=some (.slice p3 p.threads.length c3)/\p.threads.length<=c3:=by
 obtain⟨fuel,h⟩:=h;exact zlp (F:=fuel+1) fuel (QC _) _ _ h hw
end
theorem flatMap_map {α:Type} (f:α->Value):∀ l:List (List α),l.flatMap (fun x=>x.map f)=l.flatten.map f
 | []=>rfl
 | a::l=>by rw [KT,flatMap_map f l,List.flatten_cons,QS]
structure GlobP (W:Wd):Prop where
 t32:Tz32M W
 t64:Tz64M W
 needs:GlobC W
abbrev zbp : List (String × DataW Unit) := [("math/bits.deBruijn32tab", Rows.laid_math_bits_deBruijn32tab), ("math/bits.deBruijn64tab", Rows.laid_math_bits_deBruijn64tab), ("seisin/check.needs", Rows.laid_seisin_check_needs)]
theorem zcv {W:Wd} (h:laidMetH PG zbp W) (hsh:W.ShapedOpen PG):GlobP W:=by
 have h0:laidMet PG zbp W:=h;have h1:=h0.tail;have h2:=h1.tail;have t32:Tz32M W:=by
  obtain⟨ps,⟨g',t',cs,fuel,p,q,hg',ht',hv,hd,_,_⟩,_⟩:=h0
  obtain rfl := Ug ((show Tryz.prog.globalNamed "math/bits.deBruijn32tab" = some 2 by kernel_rfl).symm.trans hg')
  obtain rfl:=Ug ((show (Tryz.prog.globals[2]?).map (·.type)=some 268 by kernel_rfl).symm.trans ht');obtain⟨bs,h1,h2,h3⟩:=zhT Tryz.underlying268 Tryz.underlying5 (by kernel_rfl) (by kernel_rfl) hd;have hbs:bs=ziS:=by
   have e:(Rows.laid_math_bits_deBruijn32tab:DataW Unit) = .agg (ziS.map fun b => .lit (.int .u8 b.toNat)):=rfl;exact zh1 (DataW.agg.inj (h3.symm.trans e))
  subst hbs;refine zaO fun i v hvv=>?_;have hc:=World.var?_cell hg' hv i;rw [<- hvv,<- h2];simpa using hc
 have t64:Tz64M W:=by
  obtain⟨ps,⟨g',t',cs,fuel,p,q,hg',ht',hv,hd,_,_⟩,_⟩:=h1
  obtain rfl := Ug ((show Tryz.prog.globalNamed "math/bits.deBruijn64tab" = some 1 by kernel_rfl).symm.trans hg')
  obtain rfl:=Ug ((show (Tryz.prog.globals[1]?).map (·.type)=some 255 by kernel_rfl).symm.trans ht');obtain⟨bs,h1,h2,h3⟩:=zhT Tryz.underlying255 Tryz.underlying5 (by kernel_rfl) (by kernel_rfl) hd;have hbs:bs=ziR:=by
   have e:(Rows.laid_math_bits_deBruijn64tab:DataW Unit) = .agg (ziR.map fun b => .lit (.int .u8 b.toNat)):=rfl;exact zh1 (DataW.agg.inj (h3.symm.trans e))
  subst hbs;refine zaO fun i v hvv=>?_;have hc:=World.var?_cell hg' hv i;rw [<- hvv,<- h2];simpa using hc
 have needs:GlobC W:=by
  obtain⟨ps,⟨g',t',cs,fuel,p,q,hg',ht',hv,hd,_,_⟩,_⟩:=h2
  obtain rfl := Ug ((show Tryz.prog.globalNamed "seisin/check.needs" = some 0 by kernel_rfl).symm.trans hg')
  obtain rfl:=Ug ((show (Tryz.prog.globals[0]?).map (·.type)=some 243 by kernel_rfl).symm.trans ht');obtain⟨bs,h1,h2,h3⟩:=zhT Tryz.underlying243 Tryz.underlying5 (by kernel_rfl) (by kernel_rfl) hd;have hbs:bs=zfk:=by
   match bs,h1 with
   | [b0,b1,b2,b3,b4,b5,b6,b7,b8],_ =>
    simp only [Rows.laid_seisin_check_needs,UD,List.map_nil,DataW.agg.injEq,QM,DataW.lit.injEq,Lit.int.injEq,true_and,Gj] at h3;simp only [zfk,QM,Gj];obtain⟨a0,a1,a2,a3,a4,a5,a6,a7,a8⟩:=h3;refine⟨?_,?_,?_,?_,?_,?_,?_,?_,?_⟩ <;> (apply Uh.1;simp;omega)
  subst hbs;refine zaO fun i v hvv=>?_;have hc:=World.var?_cell hg' hv i;rw [<- hvv,<- h2];simpa using hc
 exact⟨t32,t64,needs⟩
def ztK:DataW Unit->List Value
 | .lit (.int k n)=>[.int k n]
 | .lit (.string s)=>[.string ⟨s.toArray⟩]
 | _=>[]
def ztJ:DataW Unit->List Value
 | .agg ps=>ps.flatMap ztK
 | x=>ztK x
def zqL:DataW Unit->List Value
 | .agg ps=>ps.flatMap ztJ
 | x=>ztJ x
def zqb (h:Array Obj) (g:Nat) (cs:List Value):Array Obj:=h.modify g fun
 | .cells _ t frozen => .cells cs.toArray t frozen
 | o=>o
def zvr (h:Array Obj):Array Obj :=
 let h1:=zqb h 2 (zqL Rows.laid_math_bits_deBruijn32tab)
 let h2:=zqb h1 1 (zqL Rows.laid_math_bits_deBruijn64tab)
 zqb h2 0 (zqL Rows.laid_seisin_check_needs)
noncomputable def zh5 (os:Os):Wd :=
 { World.holding PG os ⟨#[],#[],[]⟩ with heap:=zvr (World.holding PG os ⟨#[],#[],[]⟩).heap }
theorem zh4 (os:Os) (args:Array Value):laidMetH PG zbp ((zh5 os).forCall (fun _ _=>0) ⟨#[],args,[]⟩).memory:=by
 show laidMet PG zbp _;exact laidMet_of_run' 8 (by kernel_rfl) (by kernel_rfl)
end Go.Proofs.YtkpaomeeknegpaaGreatDoor
