/- Contracts of functions, and plain facts, for the law that the last text of this claim proves. -/
import Derived.Test.YtnadlhpkpnfmbaaGreatDoorD7
import Derived.Test.YtnadlhpkpnfmbaaGreatDoorD4
import Derived.Test.YtnadlhpkpnfmbaaGreatDoorD1
import Derived.Test.YtnadlhpkpnfmbaaGreatDoorD5
import Derived.Test.YtnadlhpkpnfmbaaGreatDoorD2
import Derived.Test.YtnadlhpkpnfmbaaGreatDoorRows
import Derived.ProofKit
import Derived.OpenShut
import Derived.LaidLaws
import Derived.Below
import Derived.HandedShaped
import Derived.KernelRfl
import Derived.WalkKit
import Derived.ChangeOld
import Derived.SevenTiedAt
import Derived.LaidHandle
import Derived.Stop.LaidErr
import Derived.Lib.LaidTab
import Derived.SizedLaws
set_option linter.unusedSimpArgs false
set_option linter.unusedVariables false
namespace Go.Proofs.YtnadlhpkpnfmbaaGreatDoor
open Go.Vc Go.RowKit Go.Sei
theorem zmW {α:Type} {E:Enc α} {B:Nat} {w:Wd} {p:OA} {l:List α} (h:RowB E B w p l) {i:Nat} (hi:i<l.length):∃ b o,p=some ⟨b,o,none⟩/\b<B/\∀ i (h:i<l.length),zw w ⟨b,o+i*E.sz,none⟩ (E.enc l[i]):=by
 obtain⟨b,o,hp,hat⟩:=h.get;rcases hp with hp | hp
 ·omega
 ·exact⟨b,o,hp,(hat i hi).1,fun j hj=>(hat j hj).2⟩
section
variable {B n:Nat} {p:Prg} {pc:List Value} {V:List UInt8} {w:Wd}
theorem zrb (hB:B<=w.heap.size) (hP:PrgX B w pc p) (hG:GlobE w) (hok:zhk p=true) (hx:∀ l∈p.threads,∀ x∈l,zeu x) (h12:∀ l∈p.threads,l.length<=12) (hi1:1<=p.init.length) (hi12:p.init.length<=12) (his:zeF p.init=true) (hQ:zig p.threads n (ded p.init)=some V) :
  Calls PG 86 #[.agg pc.toArray,i64 16] w fun e w'=>(∃ (q:OA) (c:Nat),e = .returned (.tuple #[.slice q V.length c,i64 0])/\OwnS zW 5 w.heap.size w' q c V)/\Bw w w':=by
 refine qa 60 [.agg pc.toArray,i64 16] (.c .p (.s .p (.c .p .p))) Tryz.func86 ?_;obtain⟨L,hL⟩:=nm (w.heap.size);have hpc:=hP.v.size;have hthr:=hP.v.len.threads;refine⟨Unit,fun _=>⟨[(1,i64 16),(2,AtR L)],[]⟩,fun _ X=>X.heap[L]?=some (.cells pc.toArray 103 (0,0))/\Bw w X,⟨(),⟨.cons rfl (.cons (by rw [hL];rfl) .nil),rfl⟩,by rw [hL];exact zz w _,(zba w _)⟩,?_⟩;rintro _ X ⟨f0,hbX⟩;refine brF (brF ⟨pc,hpc,za f0,hlt f0,cmo (znK (UU hB hbX.size) (hP.v.below (hbX.mono hB)) (hG.c.below hbX)) ?_⟩);rintro e Y ⟨m,rfl,hm,hbY⟩;have hm0:m=0:=hm.2 hok;subst hm0;refine brF ?_;have hwY:=zst hbX hbY;have f0:=zb hbY f0;obtain⟨_,⟨p3,c3,h3,xs,hxs,zcI,hxr⟩,⟨p2,c2,h2,hinit⟩⟩:=hP;refine⟨OA×Nat,fun s=>⟨[(1,i64 16),(2,AtR L),(6,.slice s.1 (ded p.init).length s.2)],[]⟩,fun s Z=>OwnS zW 5 w.heap.size Z s.1 s.2 (ded p.init)/\Z.heap[L]?=some (.cells pc.toArray 103 (0,0))/\Bw w Z,?_,?_⟩
 ·refine⟨_,zc (za f0) (i:=2) (by simpa using h2),cmo (zeW ((hinit.below (hwY.mono hB)).slr (UU hB hwY.size)) hi1 hi12 his) ?_⟩;rintro e Z ⟨⟨q,c,rfl,ho⟩,hbZ⟩;exact⟨(q,c),(cvE rfl rfl),OwnS.lower ho hwY.size,zb hbZ f0,(zst hwY hbZ)⟩
 rintro⟨q,c⟩ X ⟨ho,f0,hbX⟩;refine⟨Nat×List UInt8×OA×Nat,fun s=>⟨[(1,i64 16),(2,AtR L),(6,.slice s.2.2.1 s.2.1.length s.2.2.2)],[]⟩,
  fun s Z=>zig p.threads s.1 s.2.1=some V/\OwnS zW 5 w.heap.size Z s.2.2.1 s.2.2.2 s.2.1/\Z.heap[L]?=some (.cells pc.toArray 103 (0,0))/\Bw w Z,fun s=>s.1,(n,ded p.init,q,c),
  (cvE rfl rfl),⟨hQ,ho,f0,hbX⟩,?_⟩
 rintro⟨k,vals,q,c⟩ X ⟨hQ,ho,f0,hbX⟩;dsimp only at hQ ho ⊢
 cases k with
 | zero=>cases hQ
 | succ k =>
 have hQ:(if zg7 p.threads vals=true then (if (zfl p.threads vals).length=vals.length then some vals else zig p.threads k (zfl p.threads vals)) else none)=some V:=hQ;have hr:zg7 p.threads vals=true:=by
  cases h:zg7 p.threads vals with
  | true=>rfl
  | false=>rw [h] at hQ;cases hQ
 rw [Gz hr] at hQ;unfold zg7 at hr;simp only [bAT,dE,Qj] at hr;obtain⟨r1,r2,r3,r4,r5⟩:=hr;refine brN (Uj (by omega)) ?_;have hq0:q=none->c=0:=fun e=>by
  rcases ho.inv with ⟨_,h,_⟩ | ⟨g,_,h,_⟩
  ·exact h
  ·rw [e] at h;cases h
 have hqb:∀ a,q=some a->a.block<X.heap.size:=fun a ha=>(za8 ho ha).2.1;refine cmo (zlz ho.row (by omega) hq0) ?_;rintro e Y ⟨⟨q1,k1,rfl,o1⟩,hbY⟩;have hwY:=zst hbX hbY;have f0Y:=zb hbY f0;have hl3:xs.length=p.threads.length:=by rw [<- hxs,QQ]
 refine⟨_,zc (za f0Y) (i:=3) (by simpa using h3),?_⟩;obtain⟨g,hg⟩:∃ g:List InsD->List UInt8,g=fun l=>zar (zaD l vals):=⟨_,rfl⟩;rw [<- hg] at r4 r5;have hnx:zfl p.threads vals=ded (vals++p.threads.flatMap g):=by unfold zfl;rw [hg]
 refine⟨Nat×OA×Nat,fun s=>⟨[(1,i64 16),(2,AtR L),(6,.slice q vals.length c),(7,.slice s.2.1 (vals++(p.threads.take s.1).flatMap g).length s.2.2),(33,.slice p3 p.threads.length c3),(34,i64 p.threads.length),(35,i64 (s.1:Nat))],[]⟩,
  fun s Z=>s.1<=p.threads.length/\OwnS zW 5 X.heap.size Z s.2.1 s.2.2 (vals++(p.threads.take s.1).flatMap g)/\Bw X Z,fun s=>p.threads.length-s.1,(0,q1,k1),
  ⟨.cons rfl (.cons rfl (.cons rfl (.cons (by rw [Us,Qp,QM];rfl) (.cons rfl (.cons rfl (.cons rfl .nil)))))),rfl⟩,⟨Gg _,by show OwnS zW _ _ _ _ _ (vals++(p.threads.take 0).flatMap g);rw [Us,Qp,QM];exact o1,hbY⟩,?_⟩
 rintro⟨m,q1,k1⟩ Y ⟨hm,o1,hbY⟩;dsimp only at hm o1 ⊢;have hwY:=zst hbX hbY;have f0Y:=zb hbY f0;have hXY:=hbY.size;have lenTake:∀ j,(vals++(p.threads.take j).flatMap g).length<=12:=fun j=>by
  have e:p.threads.flatMap g=(p.threads.take j).flatMap g++(p.threads.drop j).flatMap g:=by rw [<- Kf,JQ]
  rw [e,<- KO,lap] at r4;omega
 refine biE (fun hc=>?_) fun hc=>?_
 ·have hc:(m:Int)<(p.threads.length:Int):=dT hc;have hmt:m<p.threads.length:=by omega
  have hmx:m<xs.length:=by omega
  obtain⟨b3,o3,hp3,hb3,hat3⟩:=zmW (zcI.below (hwY.mono hB)) hmx;have hB2:b3<Y.heap.size:=nL hb3 (UU hB hwY.size);have e3:some (Value.slice p3 p.threads.length c3)=some (Value.slice (some ⟨b3,o3,none⟩) p.threads.length c3):=by rw [hp3]
  subst hp3;refine⟨m,rfl,hmt,zpo xs[m],by have:=zc (hat3 m hmx) (i:=0) (v:=zpo xs[m]) rfl;exact this,?_⟩;obtain⟨hrm,hrb⟩:=hxr _ (gM hmx);have hxm:xs[m].1=p.threads[m]:=by
   have:=Gs (fun l=>l[m]?) hxs;simp only [KU,gE hmx,gE hmt,Uf,KZ] at this;exact this
  have hmem:=gM hmt;have ex:=hx _ hmem;have e12:=h12 _ hmem;have hxl:xs[m].1.length=p.threads[m].length:=by rw [hxm]
  have hw:=zo7 (w:=Y) (l:=p.threads[m]) (dom:=vals) (q:=xs[m].2.1) (p:=q) (cap:=xs[m].2.2) (cd:=c) (by rw [<- hxm];exact (hrm.below (hwY.mono hB)).slr (UU hB hwY.size)) (ho.row.below hbY) e12 ex (fun R hR=>(zns e12 ex R hR).1) (r3 _ hmem) (fun a ha=>nL (hrb a ha) (UU hB hwY.size)) (fun a ha=>nL (hqb a ha) hXY) (by omega);rw [<- hxl] at hw;have eg:zar (zaD p.threads[m] vals)=g p.threads[m]:=by rw [hg]
  rw [eg] at hw;refine cmo hw ?_;rintro e Z ⟨⟨q2,k2,rfl,o2⟩,hbZ⟩;refine brF ?_;have tk:(p.threads.take (m+1)).flatMap g=(p.threads.take m).flatMap g++g p.threads[m]:=by
   rw [tsg hmt,Kf,KS,Qp,QM]
  have l1:=lenTake m;have l2:=lenTake (m+1);rw [tk,<- KO,lap] at l2;have hXZ:=hbY.trans (hbZ.mono hXY);have hsZ:=hbZ.size;refine zgX (E:=zW) (T:=5) (B:=X.heap.size) (l:=vals++(p.threads.take m).flatMap g) (news:=g p.threads[m]) (cap:=k1) (m:=(g p.threads[m]).length) Tryz.underlying72 k5 rfl rfl rfl (o1.below hbZ) rfl o2.row (fun e=>by
   rcases o2.inv with ⟨_,h,_⟩ | ⟨g',_,h,_⟩
   ·exact h
   ·rw [e] at h;cases h) (by omega) (by omega) (by show ((vals++(p.threads.take m).flatMap g).length+(g p.threads[m]).length)*1<=_;omega) ?_
  intro q4 k4 U oU gU hbU;rw [KO,<- tk] at oU ⊢;exact nxI (by omega) ⟨(m+1,q4,k4),(cvE rfl rfl),⟨hmt,oU,hXZ.trans hbU⟩,zdc (by omega)⟩
 ·have hc:¬ (m:Int)<(p.threads.length:Int):=dF hc;obtain rfl:m=p.threads.length:=by omega
  rw [Qw] at o1 ⊢;refine cmo (zeW o1.row (by rw [lap];omega) r4 r5) ?_;rintro e Z ⟨⟨q2,k2,rfl,o2⟩,hbZ⟩;rw [<- hnx] at o2 ⊢;have hXZ:=hbY.trans (hbZ.mono hXY);have hwZ:=zst hbX hXZ;refine biE (fun he=>?_) fun he=>?_
  ·have he:(zfl p.threads vals).length=vals.length:=by
    have:=dT he;omega
   rw [Gz he] at hQ;simp only [KZ] at hQ;subst hQ;exact⟨⟨q,c,rfl,ho.below hXZ⟩,hwZ⟩
  ·have he:¬ (zfl p.threads vals).length=vals.length:=fun e=>(dF he) (by rw [e]);rw [Gy he] at hQ;exact⟨(k,zfl p.threads vals,q2,k2),(cvE rfl rfl),⟨hQ,OwnS.lower o2 hwY.size,zb hXZ f0,hwZ⟩,QA k⟩
end
section
variable {w:Wd} {bP cv B:Nat} {pc:List Value} {qv:OA} {V:List UInt8} {p:Prg}
theorem zsb (fP:w.heap[bP]?=some (.cells pc.toArray 103 (0,0))) (hB:B<=w.heap.size) (hP:PrgX B w pc p) (hil:p.locs.length=p.init.length) (hi6:p.init.length<=6) (hG:GlobE w) (hV:SlR zW w qv V) (hv1:1<=V.length) (hv12:V.length<=12) (hvs:zeF V=true) (hd12:(ded V).length<=12)
  (ht4:p.threads.length<=4) (hT:∀ l∈p.threads,ThrQ V l) (hall:∀ k,k<=p.threads.length->zct ((p.threads.take k).map fun l=>(zR V l).length)<=4096) (hpb:∀ l∈p.threads,∀ P∈zR V l,PathB p.init.length P)
  (hsome:∀ ds∈zcf ((p.threads.map (zR V)).map List.length),(zkE p.init (zcw (p.threads.map (zR V)) ds)).isSome=true) :
  Calls PG 87 #[At0 bP,.slice qv V.length cv] w fun e w'=>(∃ (ms:List MixX) (q:OA) (c:Nat),e = .returned (.tuple #[.slice q ms.length c,.bool true])/\ms.map (·.m)=zmb p.init (p.threads.map (zR V))/\OwnS zjs 172 w.heap.size w' q c ms/\∀ x∈ms,NInM w.heap.size (fun k=>w.heap.size<=k) w' x)/\Bw w w':=by
 refine qa 89 [At0 bP,.slice qv V.length cv] (.c .p (.c .p (.s .p (.s .p (.c .p (.c .p (.s .p .p))))))) Tryz.func87 ?_;obtain⟨L,hL⟩:=nm (w.heap.size);have hbP:=hlt fP;refine⟨Unit,fun _=>⟨[(1,.slice qv V.length cv),(2,At0 L),(4,At0 (L+1)),(5,At0 (L+2))],[]⟩,fun _ X=>X.heap[L]?=some (.cells #[At0 bP] 169 (0,0))/\X.heap[L+1]?=some (.cells #[.slice none 0 0] 166 (0,0))/\X.heap[L+2]?=some (.cells #[.bool false] 4 (0,0))/\X.heap.size=L+3/\Bw w X,?_,?_⟩
 ·have s1:=wz w (.cells #[At0 bP] 169);have h2:=zz (w.alloc (.cells #[At0 bP] 169)) (.cells #[.slice none 0 0] 166);have s2:=wz (w.alloc (.cells #[At0 bP] 169)) (.cells #[.slice none 0 0] 166);have h3:=zz ((w.alloc (.cells #[At0 bP] 169)).alloc (.cells #[.slice none 0 0] 166)) (.cells #[.bool false] 4);have s3:=wz ((w.alloc (.cells #[At0 bP] 169)).alloc (.cells #[.slice none 0 0] 166)) (.cells #[.bool false] 4);rw [s1] at h2 s2;rw [s2] at h3 s3;refine⟨(),⟨.cons rfl (.cons (by rw [hL];rfl) (.cons (by rw [hL,<- s1];rfl) (.cons (by rw [hL,<- s2];rfl) .nil))),rfl⟩,?_,?_,?_,?_,?_⟩
  ·rw [hL];exact qm _ (qm _ (zz w _))
  ·rw [hL];exact qm _ h2
  ·rw [hL];exact h3
  ·rw [hL];exact s3
  ·exact (((zba w _)).alloc (by simp) _).alloc (by simp;omega) _
 rintro _ X ⟨f0,f1,f2,sX,hbX⟩;refine⟨Unit,fun _=>⟨[(1,.slice qv V.length cv),(2,At0 L),(4,At0 (L+1)),(5,At0 (L+2)),(6,At0 (L+3))],[]⟩,fun _ Y=>MxS w.heap.size Y L bP [] none 0 [] none 0/\Bw w Y,?_,?_⟩
 ·refine⟨(),⟨.cons rfl (.cons rfl (.cons rfl (.cons rfl (.cons (by rw [<- sX];rfl) .nil)))),rfl⟩,⟨qm _ f0,qm _ f1,qm _ f2,by rw [<- sX];exact zz X _,OwnS.nil,OwnS.nil,fun z hz=>(by cases hz),fun z hz=>(by cases hz)⟩,hbX.alloc hbX.size _⟩
 clear f0 f1 f2 sX hbX;rintro _ X ⟨hS,hbX⟩;have hP0:=hP;obtain⟨_,⟨p3,c3,h3,xs,hxs,zcI,hxr⟩,⟨p2,c2,h2,hinit⟩⟩:=hP;have hxl:xs.length=p.threads.length:=by rw [<- hxs,QQ]
 refine⟨(List TpR×OA×Nat)×OA×Nat,fun s=>⟨[(2,At0 L),(4,At0 (L+1)),(5,At0 (L+2)),(6,At0 (L+3)),(7,.slice s.2.1 (p.threads.map fun l=>(zR V l).length).length s.2.2)],[]⟩,fun s Z=>MxS w.heap.size Z L bP (p.threads.map fun l=>(zR V l).length) s.2.1 s.2.2 s.1.1 s.1.2.1 s.1.2.2/\s.1.1.map (fun z=>z.1.map (·.1))=p.threads.map (zR V)/\Bw w Z,?_,?_⟩
 ·refine⟨_,zc (za hS.f0) (i:=0) rfl,_,zc (za (zb hbX fP)) (i:=3) (by simpa using h3),?_⟩;refine⟨Nat×(List TpR×OA×Nat)×OA×Nat,fun s=>⟨[(1,.slice qv V.length cv),(2,At0 L),(4,At0 (L+1)),(5,At0 (L+2)),(6,At0 (L+3)),(7,.slice s.2.2.1 ((p.threads.take s.1).map fun l=>(zR V l).length).length s.2.2.2),(8,i64 (zct ((p.threads.take s.1).map fun l=>(zR V l).length):Nat)),(23,.slice p3 p.threads.length c3),(24,i64 p.threads.length),(25,i64 (s.1:Nat))],[]⟩,
   fun s Z=>s.1<=p.threads.length/\MxS w.heap.size Z L bP ((p.threads.take s.1).map fun l=>(zR V l).length) s.2.2.1 s.2.2.2 s.2.1.1 s.2.1.2.1 s.2.1.2.2/\s.2.1.1.map (fun z=>z.1.map (·.1))=(p.threads.take s.1).map (zR V)/\Bw w Z,fun s=>p.threads.length-s.1,(0,([],none,0),none,0),
   (cvE rfl rfl),⟨Gg _,hS,rfl,hbX⟩,?_⟩
  clear hS hbX;rintro⟨k,⟨ts,pT,cT⟩,ps,cs⟩ Z ⟨hk,hS,hz,hbZ⟩;dsimp only at hk hS hz ⊢;have hts:ts.length=k:=by
   have:=Gs List.length hz;rw [QQ,QQ,Qu] at this;omega
  refine biE (fun hc=>?_) fun hc=>?_
  ·have hc:(k:Int)<(p.threads.length:Int):=dT hc;have hkl:k<p.threads.length:=by omega
   have hkx:k<xs.length:=by omega
   have hZs:=hbZ.size;obtain⟨l,hlk⟩:∃ l,p.threads[k]=l:=⟨_,rfl⟩;have hlm:l∈p.threads:=by rw [<- hlk];exact gM hkl
   have hQ:=hT l hlm;obtain⟨b3,o3,hp3,hb3,hat3⟩:=zmW (zcI.below (hbZ.mono hB)) hkx;have hB2:b3<Z.heap.size:=by omega
   have e3:some (Value.slice p3 p.threads.length c3)=some (Value.slice (some ⟨b3,o3,none⟩) p.threads.length c3):=by rw [hp3]
   subst hp3;refine⟨k,rfl,hkl,zpo xs[k],by have:=zc (hat3 k hkx) (i:=0) (v:=zpo xs[k]) rfl;exact this,?_⟩;obtain⟨hrm,hrb⟩:=hxr _ (gM hkx);have hxm:xs[k].1=l:=by
    have:=Gs (fun l=>l[k]?) hxs;simp only [KU,gE hkx,gE hkl,Uf,KZ] at this;rw [this,hlk]
   have hpt:(p.threads.take (k+1))=p.threads.take k++[l]:=by rw [tsg hkl,hlk]
   refine cmo (ztf (l:=xs[k].1) (vals:=V) ((hrm.below (hbZ.mono hB)).slr (by omega)) (hV.below hbZ) hv1 hv12 hvs (by rw [hxm];exact hQ.ex) (by rw [hxm];exact hQ.ok) (hG.below hbZ) (by rw [hxm];exact zns hQ.l12 hQ.ex) (by rw [hxm];exact hQ.m) (fun a ha=>by have:=hrb a ha;omega) hd12) ?_;rintro e Y ⟨⟨rk,pk,ck,rfl,hrk,ork,onk⟩,hbY⟩;rw [hxm] at hrk;have hrk:rk.map (·.1)=zR V l:=hrk;have hrkl:rk.length=(zR V l).length:=by rw [<- hrk,QQ]
   have hpl:(zR V l).length<=4096:=by rw [QQ];exact hQ.m
   have hSY:=hS.below hbY;have hpr:=hall (k+1) hkl;have hpr0:=hall k (by omega);rw [hpt,QT] at hpr;have hpr:zct ((p.threads.take k).map (fun l=>(zR V l).length)++[(zR V l).length])<=4096:=hpr;rw [zg8,<- hrkl] at hpr;obtain⟨A,hA⟩:=nm (zct ((p.threads.take k).map fun l=>(zR V l).length));have hA2:zct ((p.threads.take (k+1)).map fun l=>(zR V l).length)=A*rk.length:=by
    rw [hpt,QT];show zct ((p.threads.take k).map (fun l=>(zR V l).length)++[(zR V l).length])=_;rw [zg8,<- hrkl,hA]
   rw [<- hA] at hpr hpr0 ⊢;obtain⟨nz,hnz⟩:∃ nz:TpR,nz=(rk,pk,ck):=⟨_,rfl⟩;have hen:[Value.slice pk rk.length ck]=tpE.enc nz:=by rw [hnz];rfl
   refine⟨((A*rk.length:Nat):Int),by rw [<- QK];exact zk (by omega),brF (brN (Uj (by omega)) ⟨_,zc (za hSY.f3) (i:=0) rfl,⟨by decide,by decide,rfl⟩,tpE.enc nz,by rw [<- hen];rfl,?_⟩)⟩;have hb1:Bw Y (Y.alloc (.cells (tpE.enc nz).toArray 233)):=zba _ _;have hS1:=hSY.below hb1;have ork1:=ork.below hb1;have onk1:=fun x hx=>(onk x hx).same (Z:=Y.alloc (.cells (tpE.enc nz).toArray 233)) fun {α E T c q l} _ ho=>ho.below hb1;unfold zeK zaI;show SatR _ _;refine zxx hS1.rk (qH tpE nz) (by have:=hb1.size;have:=hbY.size;omega) (by omega) fun p' c' U oU gU hat1=>?_;have f0U:=qp hS1.f0 hS1.rk (by decide) gU;have f1U:=qp hS1.f1 hS1.rk (by decide) gU;have f2U:=qp hS1.f2 hS1.rk (by decide) gU;have f3U:=qp hS1.f3 hS1.rk (by decide) gU;refine zy zxt f3U (o:=0) (v := .slice p' (ts++[nz]).length c') rfl rfl (by show 0<1;decide) rfl fun S fS gS sS=>?_;have hbZY:=hbZ.trans (hbY.mono hZs);have sY:=hbY.size;have sb1:=hb1.size;have hbU:Bw w U:=(hbZY.trans (hb1.mono (by omega))).trans (q5 hS1.rk (by omega) (Ge _) gU);have hbS:Bw w S:=hbU.trans (zq gS hbU.size (by omega));have hSS:MxS w.heap.size S L bP ((p.threads.take k).map fun l=>(zR V l).length) ps cs (ts++[nz]) p' c':=by
    have kU:∀ {α:Type} {E:Enc α} {T cc:Nat} {r:OA} {ll:List α},T≠233->T≠232->OwnS E T w.heap.size (Y.alloc (.cells (tpE.enc nz).toArray 233)) r cc ll->OwnS E T w.heap.size S r cc ll:=fun {α E T cc r ll} h1 h2 h=>qq (zat h hS1.rk h1 gU) f3U h2 gS;have kB:∀ {b:Nat} {o:Obj},b≠L+3->U.heap[b]?=some o->S.heap[b]?=some o:=fun {b o} hb h=>(gS.block b (hlt h) (by simpa using hb)).trans h;have kP:∀ x:zee,PthO w.heap.size (Y.alloc (.cells (tpE.enc nz).toArray 233)) x->PthO w.heap.size S x:=fun x hx=>hx.same fun {α E T c q l} ht ho=>kU (by rcases ht with rfl | rfl <;> decide) (by rcases ht with rfl | rfl <;> decide) ho;refine⟨kB (by omega) f0U,kB (by omega) f1U,kB (by omega) f2U,fS,kU (by decide) (by decide) hS1.own,qq oU f3U (by decide) gS,fun z hz=>?_,fun z hz=>?_⟩
    ·rcases QU.1 hz with hz | hz
     ·exact kU (by decide) (by decide) (hS1.n1 z hz)
     ·rw [KA.1 hz,hnz];exact kU (by decide) (by decide) (ork1.lower hZs)
    ·rcases QU.1 hz with hz | hz
     ·exact fun x hx=>kP x (hS1.n2 z hz x hx)
     ·rw [KA.1 hz,hnz];exact fun x hx=>kP x ((onk1 x hx).mono hZs)
   clear hS1 ork1 onk1 hSY hS oU gU hat1 f0U f1U f2U f3U fS gS;refine⟨⟨by decide,by decide,rfl⟩,zE.enc rk.length,rfl,?_⟩;have hb2:Bw S (S.alloc (.cells (zE.enc rk.length).toArray 3)):=zba _ _;have hS2:=hSS.below hb2;have sbS:=hbS.size;have sb2:=hb2.size;unfold zeK zaI;show SatR _ _;refine zo2 hS2.own (qH zE rk.length) (by omega) (by rw [QQ,Qu];omega) fun p2' c2' V' oV gV hat2=>?_;rw [zaP] at gV;have hSV:=hS2.size oV gV;have hzz:((p.threads.take k).map fun l=>(zR V l).length)++[rk.length]=(p.threads.take (k+1)).map fun l=>(zR V l).length:=by
    rw [hpt,QT,hrkl];rfl
   rw [hzz] at hSV ⊢;refine nxI (by omega) ⟨(k+1,(ts++[nz],p',c'),p2',c2'),⟨.cons rfl (.cons rfl (.cons rfl (.cons rfl (.cons rfl (.cons rfl (.cons (by show _=some (i64 (zct ((p.threads.take (k+1)).map fun l=>(zR V l).length):Nat));rw [hA2];rfl) (.cons rfl (.cons rfl (.cons rfl .nil))))))))),rfl⟩,⟨hkl,hSV,?_,hbS.trans ((hb2.mono sbS).trans (q5 hS2.own (by omega) (Ge _) gV))⟩,zdc (by omega)⟩;rw [hpt,QT,QT,hz,hnz];show _++[rk.map (·.1)]=_++[zR V l];rw [hrk]
  ·have hc:¬ (k:Int)<(p.threads.length:Int):=dF hc;obtain rfl:k=p.threads.length:=by omega
   rw [Qw] at hz hS ⊢;exact⟨((ts,pT,cT),ps,cs),(cvE rfl rfl),hS,hz,hbZ⟩
 rintro⟨⟨ts,pT,cT⟩,ps,cs⟩ X ⟨hS,hz,hbX⟩;dsimp only at hS hz ⊢;obtain⟨Q,hQ⟩:=nm (X.heap.size);refine⟨Unit,fun _=>⟨[(2,At0 L),(4,At0 (L+1)),(5,At0 (L+2)),(6,At0 (L+3)),(7,.slice ps (p.threads.map fun l=>(zR V l).length).length cs),(13,At0 Q)],[]⟩,fun _ Z=>MxS w.heap.size Z L bP (p.threads.map fun l=>(zR V l).length) ps cs ts pT cT/\Z.heap[Q]?=some (.cells #[.slice none 0 0] 166 (0,0))/\Z.heap.size=Q+1/\Bw w Z,?_,?_⟩
 ·refine⟨(),⟨.cons rfl (.cons rfl (.cons rfl (.cons rfl (.cons rfl (.cons (by rw [hQ];rfl) .nil))))),rfl⟩,hS.below ((zba X _)),by rw [hQ];exact zz X _,by rw [hQ];exact wz _ _,hbX.alloc hbX.size _⟩
 have hQw:w.heap.size+4<=Q:=by have:=hlt hS.f3;omega
 clear hS hbX hQ;clear X;rintro _ X ⟨hS,fQ,sX,hbX⟩;obtain⟨Ts,hTs⟩:=nm (p.threads.map (zR V));have hTl:Ts.length=p.threads.length:=by rw [hTs,QQ]
 have htl:ts.length=p.threads.length:=by have:=Gs List.length hz;simpa using this
 have hsz:(p.threads.map fun l=>(zR V l).length)=Ts.map List.length:=by rw [hTs,UM];rfl
 rw [hsz] at hS ⊢;rw [<- hTs] at hsome hz ⊢;have hsl1:(Ts.map List.length).length<=1000:=by rw [QQ];omega
 have hsl2:∀ n∈Ts.map List.length,n<=1000000:=fun n hn=>by
  rw [hTs,UM] at hn;obtain⟨l,hl,rfl⟩:=UP.1 hn;have:=(hT l hl).m;show ((zaD l (ded V)).map zcS).length<=_;rw [QQ];omega
 have hmemT:∀ z∈ts,∀ x∈z.1,PathB p.init.length x.1:=fun z hz' x hx=>by
  have h1:z.1.map (·.1)∈Ts:=by rw [<- hz];exact UP.2 ⟨z,hz',rfl⟩
  rw [hTs] at h1;obtain⟨l,hl,he⟩:=UP.1 h1;exact hpb l hl x.1 (by rw [he];exact UP.2 ⟨x,hx,rfl⟩)
 refine cmo zpX ?_;rintro e V1 ⟨rfl,fo,sV1,hbV1⟩;have hI:=ztt fo (hS.own.row.below hbV1) (fun a ha=>by have:=(zA hS.own ha).2.1;omega) hsl1 hsl2;have hS1:=hS.below hbV1;have hb1:Bw w V1:=zst hbX hbV1;have hG0:Gath zjs 172 166 Q V1.heap.size Q V1 (NInM w.heap.size) [] (fun k=>k=Q) V1 :=
  ⟨Ge _,rfl,fun k hk=>by omega,⟨none,0,zb hbV1 fQ,OwnS.nil,fun a h=>by cases h⟩,fun x hx=>(by cases hx),Gj _ _⟩
 obtain⟨f,hf⟩:∃ f:List Nat->Option MixD,f=fun ds=>zkE p.init (zcw Ts ds):=⟨_,rfl⟩;have hmix:zmb p.init Ts=(zcf (Ts.map List.length)).filterMap f:=by rw [hf];rfl
 refine zdN (zbF _) rfl (lb := #[At0 X.heap.size]) rfl rfl hI (Ge _) (fun k hk=>⟨?_,rfl⟩) (fun pre vs W ⟨l,q,_,h,_⟩=>by rw [h];rfl) (by decide)
  (fun k=>k=Q) (fun pre F Y=>∃ ms,(ms.map (·.m)=pre.filterMap f/\ms.length<=pre.length)/\Gath zjs 172 166 Q V1.heap.size Q V1 (NInM w.heap.size) ms F Y) (fun _ _ _ _=>False) (fun k hk=>?_) (Gath.iter (ziF _) (by omega)) (fun ex=>⟨fun _ _ _ _ h=>h.elim,fun _ _ _ _ h=>h.elim⟩) ⟨[],⟨rfl,Gg _⟩,hG0⟩ ?_ ?_ ?_
 ·rcases hk with (rfl | ⟨a,ha,rfl⟩) | h
  ·omega
  ·have:=(zA hS.own ha).2.1;omega
  ·exact h.elim
 ·rcases hk with rfl | ⟨a,ha,rfl⟩
  ·omega
  ·obtain⟨_,_,cur,hc⟩:=zA hS.own ha;intro e;rw [e,fQ] at hc;simp at hc
 ·rintro yl pre ds vs F Y hyl hpre hJ0 ⟨l,qd,hlast,rfl,hsl,hcel⟩ hfy ⟨lo,hlo⟩;have hdx:ds=l:=by simpa using hlast
  subst hdx;refine⟨rfl,F,KeepsG.refl _ _,hJ0,?_⟩;rintro O Y2 hY2 ⟨ms,⟨hms,hml⟩,hG2⟩;have hslY:SlR zE Y2 qd ds:=by
   rw [hY2];refine q9 hsl fun a ha=>zl fun e=>?_;obtain⟨cur,hcur⟩:=hcel a ha;rw [e,hlo] at hcur
   cases hcur
  obtain⟨hdl,hdlt⟩:=znt (hpre.subset (JO _ (KA.2 rfl)));have hsome1:=hsome ds (hpre.subset (JO _ (KA.2 rfl)));rw [QQ] at hdl;have hY2s:=hG2.size;have old:∀ {k:Nat} {ob:Obj},k<Q->V1.heap[k]?=some ob->Y2.heap[k]?=some ob:=fun {k ob} hk h=>(hG2.old.block k hk).trans h;have g0:=old (by omega) hS1.f0;have g3:=old (by omega) hS1.f3;have kR:∀ {α:Type} {E:Enc α} {T cc:Nat} {r:OA} {ll:List α},T≠166->OwnS E T w.heap.size X r cc ll->OwnS E T w.heap.size Y2 r cc ll:=fun {α E T cc r ll} hT h=>h.same fun a ha=>by
   have hq:a.block≠Q:=fun e=>by
    obtain⟨_,_,cur,hc⟩:=zA h ha;rw [e,fQ] at hc;simp at hc;exact hT hc.2.symm
   have:=(zA h ha).2.1;exact (hG2.old.block _ (by omega)).trans (hbV1.block _ this)
  have rkY:=kR (by decide) hS.rk;have n1Y:=fun z hz=>kR (by decide) (hS.n1 z hz);have n2Y:∀ z∈ts,∀ x∈z.1,PthO w.heap.size Y2 x:=fun z hz x hx=>(hS.n2 z hz x hx).same fun {α E T c q l} ht ho=>kR (by rcases ht with rfl | rfl <;> decide) ho;have fPY:Y2.heap[bP]?=some (.cells pc.toArray 103 (0,0)):=old (by omega) ((hb1.block bP hbP).trans fP);have hbwY:Bw w Y2:=hb1.trans (hG2.old.mono (by omega));refine⟨Nat×List zee×OA×Nat,fun s=>⟨[(2,At0 L),(6,At0 (L+3)),(13,At0 Q),(15,.slice s.2.2.1 s.2.1.length s.2.2.2),(58,.slice qd ds.length ds.length),(59,i64 ds.length),(60,i64 (s.1:Nat))],[]⟩,
   fun s Z=>s.1<=ds.length/\OwnS jQ 241 Y2.heap.size Z s.2.2.1 s.2.2.2 s.2.1/\s.2.1.map (·.1)=zcw (Ts.take s.1) (ds.take s.1)/\s.2.1.length=s.1/\(∀ x∈s.2.1,∃ z∈ts,x∈z.1)/\Bw Y2 Z,fun s=>ds.length-s.1,(0,[],none,0),
   (cvE rfl rfl),⟨Gg _,OwnS.nil,by simp [zcw],rfl,fun x hx=>(by cases hx),Gj _ _⟩,?_⟩
  rintro⟨k,Cs,pC,cC⟩ Z ⟨hk,oC,hCs,hCl,hCm,hbZ⟩;dsimp only at hk oC hCs hCl hCm ⊢;have hZs:=hbZ.size;refine biE (fun hc=>?_) fun hc=>?_
  ·have hc:(k:Int)<(ds.length:Int):=dT hc;have hkl:k<ds.length:=by omega
   have hkt:k<ts.length:=by omega
   obtain⟨z,hzk⟩:∃ z,ts[k]=z:=⟨_,rfl⟩;have hzm:z∈ts:=by rw [<- hzk];exact gM hkt
   have hkT:k<Ts.length:=by omega
   have hzT:Ts[k]=z.1.map (·.1):=by
    have h1:Ts[k]?=some (z.1.map (·.1)):=(by rw [<- hz,KU,gE hkt,hzk];rfl);rw [gE hkT] at h1;exact Ug h1
   obtain⟨d,hd⟩:∃ d,ds[k]=d:=⟨_,rfl⟩;have hdz:d<z.1.length:=by
    have:=hdlt k (Ts[k].length) d (by rw [KU,gE hkT];rfl) (by rw [gE hkl,hd]);rw [hzT,QQ] at this;exact this
   obtain⟨x,hx⟩:∃ x,z.1[d]=x:=⟨_,rfl⟩;have hxm:x∈z.1:=by rw [<- hx];exact gM hdz
   have hpick:zcw (Ts.take (k+1)) (ds.take (k+1))=zcw (Ts.take k) (ds.take k)++[x.1]:=by
    rw [tsg hkT,tsg hkl,hd,hzT,zhb _ _ _ _ (by rw [Qu,Qu];omega),KU,gE hdz,hx];rfl
   obtain⟨bD,oD,hpD,hlD,hatD⟩:=(hslY.below hbZ).at hkl;obtain⟨bT,oT,hpT,hlT,hatT⟩:=(rkY.below hbZ).row.at hkt;obtain⟨bz,oz,hpz,hlz,hatz⟩:=((n1Y z hzm).below hbZ).row.at hdz;subst hpD;subst hpT;refine⟨k,rfl,hkl,i64 d,by have:=zc (hatD k hkl) (i:=0) (v:=i64 d) (by rw [hd];rfl);exact this,_,zc (za (zb hbZ g3)) (i:=0) rfl,k,rfl,hkt,.slice z.2.1 z.1.length z.2.2,by have:=zc (hatT k hkt) (i:=0) (v := .slice z.2.1 z.1.length z.2.2) (by rw [hzk];rfl);exact this,?_⟩;rw [hpz];refine⟨d,rfl,hdz,jQ.enc x,jQ.len x,by rw [<- hx];exact hatz d hdz,hlz,?_⟩;refine⟨⟨by decide,by decide,rfl⟩,jQ.enc x,zbA (jQ.len x) rfl,?_⟩;have hb2:Bw Z (Z.alloc (.cells (jQ.enc x).toArray 241)):=zba _ _;have sb2:=hb2.size;unfold zeK zaI;show SatR _ _;refine zxz (oC.below hb2) (qH jQ x) (by omega) (by omega) fun p' c' U oU gU hat1=>nxI (by omega) ⟨(k+1,Cs++[x],p',c'),(cvE rfl rfl),⟨hkl,oU,by rw [QT,hCs,hpick];rfl,by rw [lap,hCl];rfl,fun y hy=>?_,hbZ.trans ((hb2.mono hZs).trans (q5 (oC.below hb2) (by omega) (Ge _) gU))⟩,zdc (by omega)⟩;rcases QU.1 hy with hy | hy
   ·exact hCm y hy
   ·rw [KA.1 hy];exact⟨z,hzm,hxm⟩
  have hc:¬ (k:Int)<(ds.length:Int):=dF hc;obtain rfl:k=ds.length:=by omega
  rw [Qw,JE (by omega)] at hCs;obtain⟨q1,k1,q2,k2,q3,k3,q4,k4,hvs,_⟩:=hP0.v.h;have hpc1:pc[1]?=some (.slice q1 p.init.length k1):=by rw [hvs,<- hil];rfl
  have hZw:w.heap.size<=Z.heap.size:=by have:=hbwY.size;omega
  refine⟨_,zc (za (zb hbZ g0)) (i:=0) rfl,?_⟩;obtain⟨mx,hmx⟩:∃ mx,zkE p.init (Cs.map (·.1))=some mx:=by
   rw [hCs];exact Option.isSome_iff_exists.1 hsome1
  have hfd:f ds=some mx:=by rw [hf,<- hmx,hCs]
  refine cmo (zmE (zb hbZ fPY) hpc1 h2 ((hinit.below (((zst hbwY hbZ)).mono hB)).slr (by omega)) hi6 oC.row (fun x hx=>?_) (fun x hx=>?_) (by omega)) ?_
  ·obtain⟨z,hz1,hx1⟩:=hCm x hx;obtain⟨o1,o2,o3,o4⟩:=n2Y z hz1 x hx1;refine⟨fun a ha=>?_,(o1.below hbZ).row,(o2.below hbZ).row,(o3.below hbZ).row,(o4.below hbZ).row⟩;rcases ha with ha | ha | ha
   ·exact (zA (o2.below hbZ) ha).2.1
   ·exact (zA (o3.below hbZ) ha).2.1
   ·exact (zA (o4.below hbZ) ha).2.1
  ·obtain⟨z,hz1,hx1⟩:=hCm x hx;exact hmemT z hz1 x hx1
  rintro e U ⟨⟨vs,hres⟩,hbU⟩;rw [hmx] at hres;obtain⟨rfl,x1,x2,x3,x4,y1,y2,y3,y4,xs',ys',hvs',m1,m2,m3,m4,m5,m6,m7,m8⟩:=hres;obtain⟨nx,hnx⟩:∃ nx:MixX,nx=⟨mx,x1,y1,x2,y2,x3,y3,x4,y4,xs',ys'⟩:=⟨_,rfl⟩;have hen:vs=zjs.enc nx:=by rw [hvs',hnx];rfl
  have hvl:vs.length=336:=by rw [hen];exact zjs.len nx
  have hv1:vs.all Value.oneCell'=true:=by rw [hen];exact zkF nx
  have hUs:=hbU.size;refine zn (X:=U) (v := .agg vs.toArray) zqi hvl zaq hv1 fun V' hbV fV sV=>?_;have fV:V'.heap[U.heap.size]?=some (.cells vs.toArray 172 (0,0)):=fV;refine brF ?_;have hbY2V:Bw Y2 V':=(hbZ.trans (hbU.mono hZs)).trans (hbV.mono (by omega));obtain⟨pr,cr,h4,h5,h6⟩:=hG2.row;refine⟨_,zc (za (zb hbY2V h4)) (i:=0) rfl,vs,hvl,za fV,hlt fV,⟨by decide,by decide,zaq⟩,zjs.enc nx,by rw [<- hen];exact zbA hvl zaq,?_⟩;have hpl:pre.length<1000000000:=by
   obtain⟨t,ht⟩:=hpre;have h7:(pre++[ds]++t).length=ql (Ts.map List.length).reverse:=by
    rw [ht];unfold zcf;rw [QQ,KV]
   have h8:ql (Ts.map List.length).reverse<=4096:=by
    have h9:=hall p.threads.length (Ge _);rw [Qw,hsz] at h9;rw [zoi];exact h9
   simp only [lap,Qs] at h7;omega
  have hnw:∀ (G:Nat->Prop) (S:Wd),(∀ k,Y2.heap.size<=k->k<V'.heap.size->S.heap[k]?=V'.heap[k]?)->(∀ k,Y2.heap.size<=k->k<V'.heap.size->G k)->NInM w.heap.size G S nx:=by
   intro G S hs hg;have kp:∀ {α:Type} {E:Enc α} {T cc:Nat} {r:OA} {ll:List α},OwnS E T Z.heap.size U r cc ll->RowIn E T w.heap.size G S r cc ll:=fun {α E T cc r ll} h=>by
    have ol:∀ a,r=some a->Y2.heap.size<=a.block/\a.block<V'.heap.size:=fun a ha=>⟨by have:=(zA h ha).1;omega,by have:=(zA h ha).2.1;omega⟩;exact⟨OwnS.lower ((h.below hbV).same fun a ha=>hs _ (ol a ha).1 (ol a ha).2) hZw,fun a ha=>hg _ (ol a ha).1 (ol a ha).2⟩
   rw [hnx];exact⟨m3,m6,kp m1,kp m2,kp m4,fun y hy=>kp (m5 y hy),kp m7,fun y hy=>kp (m8 y hy)⟩
  obtain⟨v,Y5,hrun,S,hrun2,F',hG',hK',hFF'⟩:=hG2.step (P:=PG) (ty:=166) (cap1:=1) (ziF _) (by decide) Tryz.underlying166 zqi rfl rfl (by show _=336;exact zaq) zwA rfl (by omega) (Ge _) hbY2V nx (by omega) (by show (ms.length+1)*2488<=_;omega) hnw pr cr h4;unfold zeK zaI;refine SatR.mk hrun (SatR.mk hrun2 ⟨F',⟨_,⟨?_,by rw [lap,lap];show ms.length+1<=pre.length+1;omega⟩,hG'⟩,hK'⟩);rw [QT,List.filterMap_append,hms];show _++[nx.m]=_++List.filterMap f [ds];rw [show List.filterMap f [ds]=[mx] by rw [List.filterMap_cons,hfd];rfl,hnx]
 ·rintro D F Y hD hfD ⟨ms,⟨hms,hml⟩,hG⟩ hdef;obtain⟨pr,cr,h4,h5,h6⟩:=hG.row;have hYs:=hG.size;have old:∀ {k:Nat} {ob:Obj},k<Q->V1.heap[k]?=some ob->Y.heap[k]?=some ob:=fun {k ob} hk h=>(hG.old.block k hk).trans h;have g1:=old (by omega) hS1.f1;have g2:=old (by omega) hS1.f2;refine⟨_,zc (za h4) (i:=0) rfl,zy zwA g1 (o:=0) (v := .slice pr ms.length cr) rfl rfl (by show 0<1;decide) rfl fun Z1 fZ1 gZ1 sZ1=>zy k4 ((gZ1.block (L+2) (hlt g2) (by simp)).trans g2) (o:=0) (v := .bool true) rfl rfl (by show 0<1;decide) rfl fun Z2 fZ2 gZ2 sZ2=>?_⟩;have k2:∀ k,k<Y.heap.size->k≠L+1->k≠L+2->Z2.heap[k]?=Y.heap[k]?:=fun k hk n1 n2=>(gZ2.block k (by rw [sZ1];exact hk) (by simpa using n2)).trans (gZ1.block k hk (by simpa using n1));refine⟨_,rfl,(k2 D (hlt hdef) (by omega) (by omega)).trans hdef,?_⟩;have f2':=(gZ2.block (L+1) (hlt fZ1) (by simp)).trans fZ1;have kp:∀ a:Addr,a.block≠L+1->a.block≠L+2->F a.block->a.block<Y.heap.size->(Z2.putObj D (.deferred none)).heap[a.block]?=Y.heap[a.block]?:=fun a n1 n2 h2 h3=>(zl fun e=>by rw [<- e] at hfD;exact hfD h2).trans (k2 _ h3 n1 n2);have hwY:=hb1.trans (hG.old.mono (by omega));have b2:=(hwY.trans (zq gZ1 hwY.size (by omega))).trans (zq gZ2 (by have:=hwY.size;omega) (by omega));have ne:∀ {α:Type} {E:Enc α} {T B' cc:Nat} {r:OA} {ll:List α},T≠166->T≠4->OwnS E T B' Y r cc ll->∀ a,r=some a->a.block≠L+1/\a.block≠L+2:=fun {α E T B' cc r ll} t1 t2 h a ha=>by
   obtain⟨_,_,cur,hc⟩:=zA h ha;refine⟨fun e=>?_,fun e=>?_⟩
   ·rw [e,g1] at hc;simp at hc;exact t1 hc.2.symm
   ·rw [e,g2] at hc;simp at hc;exact t2 hc.2.symm
  refine⟨.slice pr ms.length cr,zc (za ((zl (by omega)).trans f2')) (i:=0) rfl,.bool true,zc (za ((zl (by omega)).trans fZ2)) (i:=0) rfl,⟨ms,pr,cr,rfl,by rw [hms,hmix],?_,fun x hx=>?_⟩,jh b2 (by omega) _⟩
  ·exact OwnS.lower (h5.same fun a ha=>kp a (ne (by decide) (by decide) h5 a ha).1 (ne (by decide) (by decide) h5 a ha).2 (h6 a ha) (zA h5 ha).2.1) (by omega)
  ·exact (hG.nest x hx).same fun {α E T c q l} t1 t2 t3 hr=>⟨hr.own.same fun a ha=>kp a (ne t2 t3 hr.own a ha).1 (ne t2 t3 hr.own a ha).2 (hr.inF a ha) (zA hr.own ha).2.1,fun a ha=>(zA hr.own ha).1⟩
 ·rintro D ex pre F Y hD hfD hpre h;exact h.elim
end
abbrev zac (p:Prg) (V:List UInt8):List MixD:=zmb p.init (p.threads.map (zR V))
def zay (m:MixD):List ExD:=if zd8 m 1=0 then [] else zgf m
abbrev zcL (p:Prg) (V:List UInt8):List ExD:=(zac p V).flatMap zay
structure CandQ (p:Prg) (n:Nat) (V:List UInt8) (most:Nat):Prop where
 ok:zhk p=true
 il:p.locs.length=p.init.length
 i1:1<=p.init.length
 i6:p.init.length<=6
 is:zeF p.init=true
 vals:zig p.threads n (ded p.init)=some V
 v1:1<=V.length
 v12:V.length<=12
 vs:zeF V=true
 d12:(ded V).length<=12
 t4:p.threads.length<=4
 th:∀ l∈p.threads,ThrQ V l
 all:∀ k,k<=p.threads.length->zct ((p.threads.take k).map fun l=>(zR V l).length)<=4096
 pb:∀ l∈p.threads,∀ P∈zR V l,PathB p.init.length P
 some:∀ ds∈zcf ((p.threads.map (zR V)).map List.length),(zkE p.init (zcw (p.threads.map (zR V)) ds)).isSome=true
 ml:(zac p V).length<=5000
 mb:∀ m∈zac p V,MixB m
 m20:most<=20000
 cnt:((zac p V).map fun m=>zd8 m 20001).sum<=most
 len:(zcL p V).length<=30000
theorem zpp {l:List Nat} (k:Nat):(l.take k).sum<=l.sum:=by
 have:l.sum=(l.take k).sum+(l.drop k).sum:=by rw [<- List.sum_append,JQ]
 omega
theorem zsY {m:MixD} {xs ys:List za1} {lim:Nat} (h1:xs.map (·.1)=m.rs.map (·.2)) (h2:ys.map (·.1)=m.wr):zqV lim (xs.map (·.1)) (ys.map (·.1))=zd8 m lim:=by
 rw [h1,h2];rfl
section
variable {w:Wd} {B n most:Nat} {pc:List Value} {p:Prg} {V:List UInt8}
theorem ztn (hB:B<=w.heap.size) (hP:PrgX B w pc p) (hG:GlobE w) (hQ:CandQ p n V most) :
  Calls PG 46 #[.agg pc.toArray,i64 most] w fun e w'=>(∃ (xs:List zgE) (q:OA) (c:Nat),e = .returned (.tuple #[.slice q xs.length c,i64 0])/\xs.map (·.1)=zcL p V/\OwnS exE 37 w.heap.size w' q c xs/\∀ x∈xs,OwnS evE 158 w.heap.size w' x.2.1 x.2.2 x.1.ev)/\Bw w w':=by
 refine qa 74 [.agg pc.toArray,i64 most] (.c .p (.s .p (.s .p (.s .p (.c .p (.s .p (.s .p (.c .p (.c .p (.c .p .p)))))))))) Tryz.func46 ?_;obtain⟨L,hL⟩:=nm (w.heap.size);have hpc:=hP.v.size;have hm20:=hQ.m20;refine⟨Unit,fun _=>⟨[(1,i64 most),(2,At0 L)],[]⟩,fun _ X=>X.heap[L]?=some (.cells pc.toArray 103 (0,0))/\L<X.heap.size/\Bw w X,⟨(),⟨.cons rfl (.cons (by rw [hL];rfl) .nil),rfl⟩,by rw [hL];exact zz w _,by rw [hL];exact hlt (zz w _),(zba w _)⟩,?_⟩;rintro _ X ⟨f0,sX,hbX⟩;refine brN (Uj (by omega)) (brN (Uj (by omega)) ⟨pc,hpc,za f0,hlt f0,cmo (znK (UU hB hbX.size) (hP.v.below (hbX.mono hB)) (hG.c.below hbX)) ?_⟩);rintro e Y ⟨m,rfl,hm,hbY⟩;have hm0:m=0:=hm.2 hQ.ok;subst hm0;refine brF ?_;have hwY:=zst hbX hbY;have f0:=zb hbY f0;refine⟨pc,hpc,za f0,hlt f0,cmo (zrb (UU hB hwY.size) (hP.below (hwY.mono hB)) (hG.below hwY) hQ.ok (fun l hl=>(hQ.th l hl).ex) (fun l hl=>(hQ.th l hl).l12) hQ.i1 (by have:=hQ.i6;omega) hQ.is hQ.vals) ?_⟩;rintro e Z ⟨⟨qv,cv,rfl,oV⟩,hbZ⟩;refine brF ?_;have hwZ:=zst hwY hbZ;have f0:=zb hbZ f0;clear hbX hbY hwY;obtain⟨V0,hV0⟩:=nm (V);refine⟨List MixX×OA×Nat,fun s=>⟨[(1,i64 most),(8,.slice s.2.1 s.1.length s.2.2),(9,.bool true)],[]⟩,fun s U=>s.1.map (·.m)=zac p V/\OwnS zjs 172 w.heap.size U s.2.1 s.2.2 s.1/\(∀ x∈s.1,NInM w.heap.size (fun k=>w.heap.size<=k) U x)/\Bw w U,?_,?_⟩
 ·refine cmo (zsb f0 (UU hB hwZ.size) (hP.below (hwZ.mono hB)) hQ.il hQ.i6 (hG.below hwZ) oV.row hQ.v1 hQ.v12 hQ.vs hQ.d12 hQ.t4 hQ.th hQ.all hQ.pb hQ.some) ?_;rintro e U ⟨⟨ms,q,c,rfl,hms,oM,nM⟩,hbU⟩;exact⟨(ms,q,c),(cvE rfl rfl),hms,oM.lower hwZ.size,fun x hx=>(nM x hx).lower hwZ.size,(zst hwZ hbU)⟩
 clear oV hbZ hwZ f0;rintro⟨ms,q,c⟩ X ⟨hms,oM,nM,hbX⟩;dsimp only at hms oM nM ⊢;refine brF ?_;have hml:ms.length<=5000:=by have:=hQ.ml;rw [<- hms,QQ] at this;exact this
 have hmb:∀ x∈ms,MixB x.m:=fun x hx=>hQ.mb x.m (by rw [<- hms];exact UP.2 ⟨x,hx,rfl⟩);have hsum:(ms.map fun x=>zd8 x.m 20001).sum<=most:=by
  have:=hQ.cnt;rw [<- hms,UM] at this;exact this
 have htake:∀ k,((ms.take k).map fun x=>zd8 x.m 20001).sum<=most:=fun k=>by
  have:=zpp (l:=ms.map fun x=>zd8 x.m 20001) k;rw [<- List.map_take] at this;omega
 obtain⟨tot,htot⟩:=nm ((ms.map fun x=>zd8 x.m 20001).sum);have cnt:∀ {Z:Wd} {k lim:Nat} (hk:k<ms.length),OwnS zjs 172 w.heap.size Z q c ms->(∀ x∈ms,NInM w.heap.size (fun k=>w.heap.size<=k) Z x)->1<=lim->lim<=100000->∃ b o,q=some ⟨b,o,none⟩/\Calls PG 88 #[.pointer (some ⟨b,o+k*336,none⟩),i64 lim] Z fun e w'=>e = .returned (i64 (zd8 ms[k].m lim:Nat))/\Z=w':=fun {Z k lim} hk oM nM h1 h2=>by
  obtain⟨b,o,hq,hb,hat⟩:=oM.row.at hk;have hx:=nM ms[k] (gM hk);have hb1:=hmb ms[k] (gM hk);have hxl:ms[k].xs.length=ms[k].m.rs.length:=by have:=Gs List.length hx.e2;simpa using this
  have hyl:ms[k].ys.length=ms[k].m.wr.length:=by have:=Gs List.length hx.e3;simpa using this
  refine⟨b,o,hq,?_⟩;have:=zsQ (lim:=lim) (r := .slice ms[k].p1 ms[k].m.rs.length ms[k].c1) (hat k hk) hx.r2.own.row hx.r3.own.row (fun y hy=>?_) (fun y hy=>?_) (by have:=hb1.rl;omega) (by have:=hb1.wl;omega) h1 h2
  ·rw [zsY hx.e2 hx.e3] at this;exact this
  ·have h3:y.1∈ms[k].m.rs.map (·.2):=by rw [<- hx.e2];exact UP.2 ⟨y,hy,rfl⟩
   obtain⟨r,hr,he⟩:=UP.1 h3;rw [<- he];exact (hb1.rs r hr).2.1
  ·have h3:y.1∈ms[k].m.wr:=by rw [<- hx.e3];exact UP.2 ⟨y,hy,rfl⟩
   have:=(hb1.wr _ h3).1;omega
 refine⟨Unit,fun _=>⟨[(8,.slice q ms.length c),(10,i64 tot)],[]⟩,fun _ Z=>X=Z,?_,?_⟩
 ·refine⟨Nat,fun k=>⟨[(1,i64 most),(8,.slice q ms.length c),(10,i64 (((ms.take k).map fun x=>zd8 x.m 20001).sum:Nat)),(40,i64 ms.length),(41,i64 (k:Nat))],[]⟩,
   fun k Z=>k<=ms.length/\X=Z,fun k=>ms.length-k,0,(cvE rfl rfl),⟨Gg _,rfl⟩,?_⟩
  rintro k _ ⟨hk,rfl⟩;dsimp only;refine biE (fun hc=>?_) fun hc=>?_
  ·have hc:(k:Int)<(ms.length:Int):=dT hc;have hkl:k<ms.length:=by omega
   obtain⟨b,o,hq,hcall⟩:=cnt (lim:=20001) hkl oM nM (by decide) (by decide);have htk:((ms.take (k+1)).map fun x=>zd8 x.m 20001).sum=((ms.take k).map fun x=>zd8 x.m 20001).sum+zd8 ms[k].m 20001:=by
    rw [tsg hkl,QT,List.sum_append];show _+(zd8 ms[k].m 20001+0)=_;rw [UR]
   have h1:=htake (k+1);subst hq;refine⟨k,rfl,hkl,cmo hcall ?_⟩;rintro e _ ⟨rfl,rfl⟩;refine⟨((((ms.take (k+1)).map fun x=>zd8 x.m 20001).sum:Nat):Int),?_,?_⟩
   ·rw [htk,Int.natCast_add];exact zk (by omega)
   exact brN (Uj (by omega)) (nxI (by omega) ⟨k+1,(cvE rfl rfl),⟨hkl,rfl⟩,zdc (by omega)⟩)
  ·have hc:¬ (k:Int)<(ms.length:Int):=dF hc;obtain rfl:k=ms.length:=by omega
   rw [Qw,<- htot];exact⟨(),(cvE rfl rfl),rfl⟩
 rintro _ _ rfl;have hXs:=hbX.size;refine⟨OA×Nat,fun s=>⟨[(8,.slice q ms.length c),(12,.slice s.1 0 s.2)],[]⟩,fun s Z=>OwnS exE 37 X.heap.size Z s.1 s.2 []/\Bw X Z,?_,?_⟩
 ·exact zdV (E:=exE) Tryz.underlying89 k37 rfl (by show _=333;exact zbY) rfl tot (by show 2416*tot<=_;omega) (by unfold maxLen;omega) fun Z oZ hbZ sZ=>⟨(some ⟨X.heap.size,0,none⟩,tot),(cvE rfl rfl),oZ,hbZ⟩
 rintro⟨p0,c0⟩ Y ⟨oY,hbY⟩;dsimp only at oY ⊢;refine⟨List zgE×OA×Nat,fun s=>⟨[(12,.slice s.2.1 s.1.length s.2.2)],[]⟩,fun s Z=>s.1.map (·.1)=zcL p V/\OwnS exE 37 X.heap.size Z s.2.1 s.2.2 s.1/\(∀ x∈s.1,OwnS evE 158 X.heap.size Z x.2.1 x.2.2 x.1.ev)/\Bw X Z,?_,?_⟩
 ·refine⟨Nat×List zgE×OA×Nat,fun s=>⟨[(8,.slice q ms.length c),(12,.slice s.2.2.1 s.2.1.length s.2.2.2),(57,i64 ms.length),(58,i64 (s.1:Nat))],[]⟩,
   fun s Z=>s.1<=ms.length/\s.2.1.map (·.1)=(ms.take s.1).flatMap (fun x=>zay x.m)/\OwnS exE 37 X.heap.size Z s.2.2.1 s.2.2.2 s.2.1/\(∀ x∈s.2.1,OwnS evE 158 X.heap.size Z x.2.1 x.2.2 x.1.ev)/\Bw X Z,fun s=>ms.length-s.1,(0,[],p0,c0),
   (cvE rfl rfl),⟨Gg _,rfl,oY,fun x hx=>(by cases hx),hbY⟩,?_⟩
  clear oY hbY;rintro⟨k,outs,po,co⟩ Z ⟨hk,hou,oZ,nZ,hbZ⟩;dsimp only at hk hou oZ nZ ⊢;have hZs:=hbZ.size;have oMZ:OwnS zjs 172 w.heap.size Z q c ms:=oM.same fun a ha=>hbZ.block _ (zA oM ha).2.1;have nMZ:∀ x∈ms,NInM w.heap.size (fun k=>w.heap.size<=k) Z x:=fun x hx=>(nM x hx).same fun {α E T c q l} _ _ _ hr=>⟨hr.own.same fun a ha=>hbZ.block _ (zA hr.own ha).2.1,hr.inF⟩;refine biE (fun hc=>?_) fun hc=>?_
  ·have hc:(k:Int)<(ms.length:Int):=dT hc;have hkl:k<ms.length:=by omega
   obtain⟨b,o,hq,hcall⟩:=cnt (lim:=1) hkl oMZ nMZ (by decide) (by decide);obtain⟨x,hx⟩:∃ x,ms[k]=x:=⟨_,rfl⟩;have hxm:x∈ms:=by rw [<- hx];exact gM hkl
   have htk:(ms.take (k+1)).flatMap (fun x=>zay x.m)=(ms.take k).flatMap (fun x=>zay x.m)++zay x.m:=by
    rw [tsg hkl,Kf,hx,KS,Qp,QM]
   rw [hx] at hcall;have hat:zw Z ⟨b,o+k*336,none⟩ (zov x):=by
    obtain⟨b',o',hq',_,hat⟩:=oMZ.row.at hkl;rw [hq] at hq';have:=hat k hkl;simp only [KZ,Uw,Gr] at hq';rw [<- hx,hq'.1,hq'.2];exact this
   have hbX2:b<X.heap.size:=(zA oM hq).2.1;subst hq;refine⟨k,rfl,hkl,cmo hcall ?_⟩;rintro e _ ⟨rfl,rfl⟩;refine biE (fun h=>?_) fun h=>?_
   ·have h:zd8 x.m 1=0:=UC (dT h);have hc0:zay x.m=[]:=Gz h;rw [hc0,QM] at htk;exact nxI (by omega) ⟨(k+1,outs,po,co),(cvE rfl rfl),⟨hkl,by rw [hou,htk],oZ,nZ,hbZ⟩,zdc (by omega)⟩
   have h:zd8 x.m 1≠0:=fun e=>(dF h) (by rw [e];rfl);have hc1:zay x.m=zgf x.m:=Gy h;rw [hc1] at htk;refine⟨k,rfl,hkl,cmo zs2 ?_⟩;rintro e U ⟨rfl,fU,sU,hbU⟩;have hxM:=nMZ x hxm;have hxB:=hmb x hxm;obtain⟨Rd,hRd⟩:∃ Rd:Nat->Prop,Rd=fun k=>k<X.heap.size\/k=Z.heap.size:=⟨_,rfl⟩;have ltX:∀ {α:Type} {E:Enc α} {T cc:Nat} {r:OA} {ll:List α},RowIn E T w.heap.size (fun k=>w.heap.size<=k) X r cc ll->∀ a,r=some a->Rd a.block:=fun {α E T cc r ll} h a ha=>by rw [hRd];exact .inl (zA h.own ha).2.1
   have hX:=nM x hxm;have hM:MixM Rd U b (o+k*336) x.m x.q x.c x.p1 x.p2 x.p3 x.c1 x.c2 x.c3 x.xs x.ys:=by
    have r:∀ {α:Type} {E:Enc α} {T cc:Nat} {r:OA} {ll:List α},RowIn E T w.heap.size (fun k=>w.heap.size<=k) Z r cc ll->SlR E U r ll:=fun {α E T cc r ll} h=>(h.own.below hbU).row;refine⟨zt hbU hat,r hxM.ev,fun e=>?_,r hxM.r1,hxM.e2,r hxM.r2,fun y hy=>r (hxM.n2 y hy),hxM.e3,r hxM.r3,fun y hy=>r (hxM.n3 y hy),by rw [hRd];exact .inl hbX2,ltX hX.ev,ltX hX.r1,ltX hX.r2,ltX hX.r3,fun y hy=>ltX (hX.n2 y hy),fun y hy=>ltX (hX.n3 y hy)⟩;rcases hxM.ev.own.inv with ⟨_,h,_⟩ | ⟨g,cur,h,_⟩
    ·exact h
    ·rw [e] at h;cases h
   have hRl:∀ k,Rd k->k<U.heap.size:=fun k hk=>by
    rw [hRd] at hk;omega
   have hTU:Tz64M U:=hG.t64.below (hbX.trans ((hbZ.trans (hbU.mono hZs)).mono hXs));have htz:=za4 hG.t64;have hI:=zs3 hM fU (by rw [hRd];exact .inr rfl) hRl hTU (by rw [hRd];left;omega) hxB hxB.ev;have hln:outs.length+(zgf x.m).length<=30000:=by
    have h2:=hQ.len;have h3:(zcL p V)=ms.flatMap (fun x=>zay x.m):=by
     show (zac p V).flatMap zay=_;rw [<- hms,Qo]
    rw [h3] at h2;have h4:ms.flatMap (fun x=>zay x.m)=(ms.take (k+1)).flatMap (fun x=>zay x.m)++(ms.drop (k+1)).flatMap (fun x=>zay x.m):=(by rw [<- Kf,JQ]);rw [h4,htk,<- hou,lap,lap,QQ] at h2;omega
   refine cmo (zlA (oZ.below hbU) (fun y hy=>(nZ y hy).below hbU) (by omega) hI (Ge _) (fun k hk=>⟨hRl k hk,rfl⟩) (fun k hk=>by rw [hRd] at hk;exact hk) fU (by omega) hln) ?_;rintro e T ⟨⟨new,pn,cn,rfl,zz,oT,nT⟩,hbT⟩;exact nxI (by omega) ⟨(k+1,outs++new,pn,cn),(cvE rfl rfl),⟨hkl,by rw [QT,hou,zz,htk],oT,nT,(hbZ.trans (hbU.mono hZs)).trans hbT⟩,zdc (by omega)⟩
  ·have hc:¬ (k:Int)<(ms.length:Int):=dF hc;obtain rfl:k=ms.length:=by omega
   rw [Qw] at hou;refine⟨(outs,po,co),(cvE rfl rfl),?_,oZ,nZ,hbZ⟩;rw [hou];show ms.flatMap _=(zac p V).flatMap zay;rw [<- hms,Qo]
 rintro⟨outs,po,co⟩ Z ⟨hou,oZ,nZ,hbZ⟩;exact⟨⟨outs,po,co,rfl,hou,oZ.lower hXs,fun x hx=>(nZ x hx).lower hXs⟩,hbX.trans (hbZ.mono hXs)⟩
end
def zqI (x:InsD):Bool:=(decide (x.op=1)&&decide (x.dst.toNat<8))||((decide (x.op=2)&&(!x.ar||decide (x.an.toNat<8)))||decide (x.op=7))
theorem zsG {x:InsD} (h:zqI x=true):zeu x:=by
 unfold zqI at h;simp only [QI,bAT,dE,KJ] at h;rcases h with ⟨h1,h2⟩ | ⟨h1,h2⟩ | h1
 ·exact .inl ⟨h1,h2⟩
 ·refine .inr (.inl ⟨h1,fun h=>?_⟩);rcases h2 with h2 | h2
  ·rw [h] at h2;cases h2
  ·exact h2
 ·exact .inr (.inr h1)
def zpS (locs:Nat) (P:PathD):Bool :=
 decide (P.ev.length<=24)&&((P.ev.all fun e => !(decide (e.k=1)||decide (e.k=2))||decide (e.l.toNat<locs))&&((P.data.all fun p=>decide (p.1<P.ev.length)&&decide (p.2<P.ev.length))&&((P.ctrl.all fun p=>decide (p.1<P.ev.length)&&decide (p.2<P.ev.length))&&((P.rmw.all fun p=>decide (p.1<P.ev.length)&&decide (p.2<P.ev.length)) &&
  (decide (P.data.length<=100000)&&(decide (P.ctrl.length<=100000)&&decide (P.rmw.length<=100000)))))))
theorem zpR {locs:Nat} {P:PathD} (h:zpS locs P=true):PathB locs P:=by
 unfold zpS at h;simp only [bAT,QI,dE,Qj,KJ,Bool.or_eq_false_iff,decide_eq_false_iff_not] at h;obtain⟨h1,h2,h3,h4,h5,h6,h7,h8⟩:=h;refine⟨h1,fun e he hk=>?_,h3,h4,h5,h6,h7,h8⟩;rcases h2 e he with h | h
 ·rcases hk with hk | hk
  ·exact (h.1 hk).elim
  ·exact (h.2 hk).elim
 ·exact h
def zmB (p:Prg) (n:Nat) (V:List UInt8) (most:Nat):Bool :=
 zhk p&&(decide (p.locs.length=p.init.length)&&(decide (1<=p.init.length)&&(decide (p.init.length<=6)&&(zeF p.init&&(decide (zig p.threads n (ded p.init)=some V)&&(decide (1<=V.length)&&(decide (V.length<=12)&&(zeF V&&(decide ((ded V).length<=12)&&(decide (p.threads.length<=4) &&
  ((p.threads.all fun l=>decide (l.length<=12)&&(l.all zqI&&(jX l 6&&decide ((zaD l (ded V)).length<=4096)))) &&
   (((List.range (p.threads.length+1)).all fun k=>decide (zct ((p.threads.take k).map fun l=>(zR V l).length)<=4096)) &&
    ((p.threads.all fun l=>(zR V l).all (zpS p.init.length)) &&
     (((zcf ((p.threads.map (zR V)).map List.length)).all fun ds=>(zkE p.init (zcw (p.threads.map (zR V)) ds)).isSome) &&
      (decide ((zac p V).length<=5000)&&((zac p V).all zp4&&(decide (most<=20000)&&(decide (((zac p V).map fun m=>zd8 m 20001).sum<=most)&&decide ((zcL p V).length<=30000)))))))))))))))))))
theorem zqX {p:Prg} {n:Nat} {V:List UInt8} {most:Nat} (h:zmB p n V most=true):CandQ p n V most:=by
 unfold zmB at h;simp only [bAT,dE,Qj,Ur] at h;obtain⟨h1,h2,h3,h4,h5,h6,h7,h8,h9,h10,h11,h12,h13,h14,h15,h16,h17,h18,h19,h20⟩:=h;exact⟨h1,h2,h3,h4,h5,h6,h7,h8,h9,h10,h11,fun l hl=>⟨(h12 l hl).1,fun x hx=>zsG ((h12 l hl).2.1 x hx),(h12 l hl).2.2.1,(h12 l hl).2.2.2⟩,fun k hk=>h13 k (by omega),fun l hl P hP=>zpR (h14 l hl P hP),h15,h16,fun m hm=>zsc (h17 m hm),h18,h19,h20⟩
def stI (l v m:UInt8):InsD:=⟨2,0,l,false,v,false,0,0,m,0⟩
def zuA (x:ExD):Bool:=decide (x.ev.length<=20)&&(zgZ x.po&&(zgZ x.rf&&(zgZ x.co&&(zgZ x.dt&&(zgZ x.ct&&zgZ x.rm)))))
abbrev lnA (s:Bs):List LineD:=(qc s).1.getD []
def ze2:Bs:=[101,109,112,116,121,32,91,82,93,59,112,111,32,97,115,32,120]
def zry:Bs:=[101,109,112,116,121,32,99,111,32,97,115,32,120]
def zvE:Bs:=[108,101,116,32,97,32,61,32,98]
def zvD:Bs:=[108,101,116,32,112,111,32,61,32,114,102]
def zvC:Bs:=[101,109,112,116,121,32,112,111]
def zia:Bs:=[101,109,112,116,121,32,91,82,93,32,59,32,112,111,32,97,115,32,120,10]
def zkm:Bs:=[97,99,121,99,108,105,99,32,40,112,111,32,124,32,114,102,41,43,32,97,115,32,120,10]
def tmA:Trm := .mk 2 [] [.mk 2 [] [.mk 2 [] [nmT [112,111],nmT [114,102]],nmT [99,111]],nmT [102,114]]
def tmB:Trm := .mk 5 [] [.mk 9 [82] [],nmT [112,111]]
theorem pa2:((jN (lnA ze2)).map (·.1)).getD []=zia:=by kernel_rfl
theorem zxb:(jN (lnA ze2)).isSome=true:=by kernel_rfl
theorem pa3:((jN (lnA znT)).map (·.1)).getD []=zkm:=by kernel_rfl
theorem zxa:(jN (lnA znT)).isSome=true:=by kernel_rfl
theorem sm1:zi6 (lnA zfP) [⟨1,[111,114,100,101,114],tmA⟩]=true:=by kernel_rfl
theorem sm2:zi6 (lnA ze2) [⟨3,[120],tmB⟩]=true:=by kernel_rfl
theorem ln4:lnA zry=[⟨3,[120],nmT [99,111]⟩]:=by kernel_rfl
def zmk (s:Bs) (er:Int) (at_:Nat):Bool:=decide ((qc s).2.2=er)&&(decide ((qc s).2.1=at_)&&decide ((qc s).1.getD []=[]))
theorem fa5:zmk zvE 112 8=true:=by kernel_rfl
theorem fa6:zmk zvD 111 4=true:=by kernel_rfl
theorem fa7:zmk zvC 110 8=true:=by kernel_rfl
def zhT:Prg:=⟨[116],[[120]],[0],[[stI 0 1 0]],1,.mk 0 0 0 0 []⟩
theorem zuZ:zmB zhT 5 [0,1] 1=true:=by kernel_rfl
theorem zqW:(zcL zhT [0,1]).length=1:=by kernel_rfl
abbrev zlB:ExD:=(zcL zhT [0,1]).getD 0 (ex0 0)
theorem ztN:zuA zlB=true:=by kernel_rfl
theorem ztO:zdw [⟨3,[120],nmT [99,111]⟩] zlB=(false,[120],0):=by kernel_rfl
section
variable {w X Y:Wd}
def MoB (X:Wd) (d:Nat) (s:Bs):Prop:=∃ p cap,X.heap[d]?=some (.cells #[.slice p (lnA s).length cap] 47 (0,0))/\LinsM zbI X p (lnA s)/\(lnA s).length<=40
theorem MoB.below {d:Nat} {s:Bs} (h:MoB X d s) (hb:Bw X Y):MoB Y d s:=by
 obtain⟨p,cap,h1,h2,h3⟩:=h;exact⟨p,cap,zb hb h1,h2.below hb,h3⟩
def TeB (X:Wd) (d:Nat) (t:Trm):Prop:=∃ p cap,X.heap[d]?=some (.cells (zf t p cap).toArray 24 (0,0))/\KidsT zbI X p t.kids
theorem TeB.below {d:Nat} {t:Trm} (h:TeB X d t) (hb:Bw X Y):TeB Y d t:=by
 obtain⟨p,cap,h1,h2⟩:=h;exact⟨p,cap,zb hb h1,h2.kept hb⟩
structure FndC (X:Wd) (F:List ExD) (xs:List zgE) (q:OA):Prop where
 e:xs.map (·.1)=F
 row:SlR exE X q xs
 ev:∀ x∈xs,SlR evE X x.2.1 x.1.ev
theorem FndC.below {F:List ExD} {xs:List zgE} {q:OA} (h:FndC X F xs q) (hb:Bw X Y):FndC Y F xs q:=⟨h.e,h.row.below hb,fun x hx=>(h.ev x hx).below hb⟩
theorem zeg {r:RelD} (h:zgZ r=true):zG r.to:=by
 unfold zgZ at h;rw [Qj] at h;exact fun i hi=>dT (h i (Ur.2 hi))
theorem zsA {x:ExD} {q:OA} (h:zuA x=true) (he:SlR evE X q x.ev):ExV X x q:=by
 unfold zuA at h;simp only [bAT,dE] at h;obtain⟨h1,h2,h3,h4,h5,h6,h7⟩:=h;exact⟨he,h1,zeg h2,zeg h3,zeg h4,zeg h5,zeg h6,zeg h7⟩
theorem FndC.one {xs:List zgE} {q:OA} (h:FndC X (zcL zhT [0,1]) xs q):xs.length=1/\∃ (b o:Nat) (p:OA) (c:Nat),q=some ⟨b,o,none⟩/\b<X.heap.size/\zw X ⟨b,o+0*333,none⟩ (exC zlB p c)/\ExV X zlB p:=by
 have hl:xs.length=1:=by
  have:=Gs List.length h.e;rw [QQ,zqW] at this;exact this
 have hix:0<xs.length:=by omega
 obtain⟨b,o,hq,hb,hat⟩:=h.row.at hix;obtain⟨y,hy⟩:∃ y,xs[0]=y:=⟨_,rfl⟩;have hym:y∈xs:=by rw [<- hy];exact gM hix
 have hF:y.1=zlB:=by
  show _=(zcL zhT [0,1]).getD 0 (ex0 0);rw [<- h.e,gDe,KU,gE hix,hy];rfl
 have hatk:=hat 0 hix;rw [hy] at hatk;have hev:=h.ev y hym;obtain⟨y1,p,c⟩:=y;dsimp only at hF hev;subst hF;exact⟨hl,b,o,p,c,hq,hb,hatk,zsA ztN hev⟩
theorem zuY {W:Wd} {bs bi bn bt:Nat} (g1:W.heap[bs]?=some (.cells #[zu [120]] 9 (0,0))) (g2:W.heap[bi]?=some (.cells #[u8 0] 5 (0,0)))
  (g3:W.heap[bn]?=some (.cells (qF.enc (stI 0 1 0)).toArray 96 (0,0))) (g4:W.heap[bt]?=some (.cells #[.slice (some ⟨bn,0,none⟩) 1 1] 97 (0,0))) :
  PrgX W.heap.size W (zam zhT (some ⟨bs,0,none⟩) 1 (some ⟨bi,0,none⟩) 1 (some ⟨bt,0,none⟩) 1 none 0) zhT:=by
 have rI:RowB zW W.heap.size W (some ⟨bi,0,none⟩) [0] := .inr ⟨bi,0,rfl,hlt g2,za g2⟩;have hx:RowB qF W.heap.size W (some ⟨bn,0,none⟩) [stI 0 1 0] := .inr ⟨bn,0,rfl,hlt g3,by
  have:[stI 0 1 0].flatMap qF.enc=qF.enc (stI 0 1 0):=by rw [KS,Qp,QM]
  rw [this];exact za g3⟩
 have rr:RowB ztU W.heap.size W (some ⟨bt,0,none⟩) [([stI 0 1 0],some ⟨bn,0,none⟩,1)] := .inr ⟨bt,0,rfl,hlt g4,za g4⟩;have rT:ThrsW W.heap.size W (some ⟨bt,0,none⟩) [[stI 0 1 0]]:=by
  refine⟨[([stI 0 1 0],some ⟨bn,0,none⟩,1)],rfl,rr,fun x h=>?_⟩;obtain rfl:=KA.1 h;exact⟨hx,fun a ha=>by cases ha;exact hlt g3⟩
 refine⟨⟨⟨by show 1<=_;decide,by show 1<=_;decide,fun s hs=>?_,by show 1<=_;decide,by show 1<=_;decide,fun l h=>?_⟩,some ⟨bs,0,none⟩,1,some ⟨bi,0,none⟩,1,some ⟨bt,0,none⟩,1,none,0,rfl,?_,rI,?_,?_,?_⟩,⟨_,_,rfl,rT⟩,⟨_,_,rfl,rI⟩⟩
 ·have hs:s=[120]:=by simpa [zhT] using hs
  rw [hs];decide
 ·have hs:l=[stI 0 1 0]:=by simpa [zhT] using h
  rw [hs];decide
 ·exact .inr ⟨bs,0,rfl,hlt g1,za g1⟩
 ·obtain⟨xs,hxs,hr,hx⟩:=rT;exact⟨xs,hxs,hr,fun x h=>(hx x h).1⟩
 ·exact .mk none [] (by decide) 0 0 (.inl rfl) (fun _=>none) (fun _=>0) (fun i hi=>by simp at hi) (fun i hi=>by simp at hi)
 ·show 1<=1;decide
theorem LinsM.one {k b cap:Nat} {nq:Bs} {t:Trm} {q:OA} (f:X.heap[b]?=some (.cells (zC k nq t q cap).toArray 49 (0,0))) (hk:k<=255) (hn:nq.length<=140737488351232) (ht:t.name.length<=140737488351232) (kk:KidsT zbI X q t.kids):LinsM zbI X (some ⟨b,0,none⟩) [⟨k,nq,t⟩]:=by
 refine⟨[(⟨k,nq,t⟩,q,cap)],rfl,SlR.of_cells (hlt f) ?_,fun x hx=>?_,fun _ _ _=>trivial⟩
 ·have:[((⟨k,nq,t⟩,q,cap):zdF)].flatMap zkK.enc=zC k nq t q cap:=by rw [KS,Qp,QM];rfl
  rw [this];exact za f
 ·obtain rfl:=KA.1 hx;exact⟨hk,hn,ht,kk⟩
structure GlobA (w:Wd):Prop where
 k:GlobK w
 e:GlobE w
theorem GlobA.below (h:GlobA w) (hb:Bw w X):GlobA X:=⟨h.k.below hb,h.e.below hb⟩
theorem zeO {s:Bs} (h:Nat.ble s.length 140737488351232=true):s.length<=140737488351232:=JS h
theorem zvh (hG:GlobA w):CB 11 #[] w (.bool true):=by
 refine qa 110 [] (.s .p (.c .p (.c .p (.c .p (.c .p (.c .p (.c .p (.c .p (.c .p (.c .p .p)))))))))) Tryz.func11 ?_;refine⟨Nat,fun d=>⟨[(1,At0 d)],[]⟩,fun d X=>MoB X d zfP/\Bw w X,?_,?_⟩
 ·skip
  refine cmo (zgN (hG.k) zfP (zeO rfl)) ?_;rintro e Y ⟨p,cap,rfl,hM,h40,bY⟩;refine zn (X:=Y) (v := .agg #[.slice p (lnA zfP).length cap]) k47 rfl rfl rfl fun Z hbZ fZ sZ=>?_;have mZ:MoB Z Y.heap.size zfP:=⟨p,cap,fZ,(hM.below hbZ).weak fun b _=>trivial,h40⟩;have bZ:=zst bY hbZ;exact⟨Y.heap.size,(cvE rfl rfl),mZ,bZ⟩
 rintro d1 X ⟨m1,b0⟩;refine⟨Nat,fun d=>⟨[(1,At0 d1),(2,At0 d)],[]⟩,fun d X=>MoB X d1 zfP/\MoB X d ze2/\Bw w X,?_,?_⟩
 ·skip
  refine cmo (zgN (hG.k.below b0) ze2 (zeO rfl)) ?_;rintro e Y ⟨p,cap,rfl,hM,h40,bY⟩;refine zn (X:=Y) (v := .agg #[.slice p (lnA ze2).length cap]) k47 rfl rfl rfl fun Z hbZ fZ sZ=>?_;have mZ:MoB Z Y.heap.size ze2:=⟨p,cap,fZ,(hM.below hbZ).weak fun b _=>trivial,h40⟩;have bZ:=zst bY hbZ;exact⟨Y.heap.size,(cvE rfl rfl),m1.below bZ,mZ,(zst b0 bZ)⟩
 clear m1 b0 X;rintro d2 X ⟨m1,m2,b0⟩;refine⟨Unit,fun _=>⟨[(1,At0 d1),(2,At0 d2),(3,zu zia),(4,i64 0)],[]⟩,fun _ X=>MoB X d1 zfP/\MoB X d2 ze2/\Bw w X,?_,?_⟩
 ·obtain⟨p,cap,f2,hM,h40⟩:=m2;refine⟨_,rfl,za f2,hlt f2,cmo (znM (cap:=cap) (hG.k.below b0) hM (by omega)) ?_⟩;rintro e Y ⟨rfl,bY⟩;exact⟨(),⟨.cons rfl (.cons rfl (.cons (Gs (fun s=>some (zu s)) pa2) (.cons (Gs (fun n=>some (i64 n)) (Gz zxb)) .nil))),rfl⟩,m1.below bY,⟨p,cap,zb bY f2,hM.below bY,h40⟩,(zst b0 bY)⟩
 clear m1 m2 b0 X;rintro _ X ⟨m1,m2,b0⟩;refine⟨Nat,fun d=>⟨[(1,At0 d1),(2,At0 d2),(3,zu zia),(4,i64 0),(5,At0 d)],[]⟩,fun d X=>MoB X d1 zfP/\MoB X d2 ze2/\MoB X d znT/\Bw w X,?_,?_⟩
 ·skip
  refine cmo (zgN (hG.k.below b0) znT (zeO rfl)) ?_;rintro e Y ⟨p,cap,rfl,hM,h40,bY⟩;refine zn (X:=Y) (v := .agg #[.slice p (lnA znT).length cap]) k47 rfl rfl rfl fun Z hbZ fZ sZ=>?_;have mZ:MoB Z Y.heap.size znT:=⟨p,cap,fZ,(hM.below hbZ).weak fun b _=>trivial,h40⟩;have bZ:=zst bY hbZ;exact⟨Y.heap.size,(cvE rfl rfl),m1.below bZ,m2.below bZ,mZ,(zst b0 bZ)⟩
 clear m1 m2 b0 X;rintro d5 X ⟨m1,m2,m5,b0⟩;refine⟨Unit,fun _=>⟨[(1,At0 d1),(2,At0 d2),(3,zu zia),(4,i64 0),(6,zu zkm),(7,i64 0)],[]⟩,fun _ X=>MoB X d1 zfP/\MoB X d2 ze2/\Bw w X,?_,?_⟩
 ·obtain⟨p,cap,f2,hM,h40⟩:=m5;refine⟨_,rfl,za f2,hlt f2,cmo (znM (cap:=cap) (hG.k.below b0) hM (by omega)) ?_⟩;rintro e Y ⟨rfl,bY⟩;exact⟨(),⟨.cons rfl (.cons rfl (.cons rfl (.cons rfl (.cons (Gs (fun s=>some (zu s)) pa3) (.cons (Gs (fun n=>some (i64 n)) (Gz zxa)) .nil))))),rfl⟩,m1.below bY,m2.below bY,(zst b0 bY)⟩
 clear m1 m2 m5 b0 X;rintro _ X ⟨m1,m2,b0⟩;refine⟨Nat,fun d=>⟨[(1,At0 d1),(2,At0 d2),(3,zu zia),(4,i64 0),(6,zu zkm),(7,i64 0),(8,At0 d)],[]⟩,fun d X=>MoB X d1 zfP/\MoB X d2 ze2/\TeB X d tmA/\Bw w X,?_,?_⟩
 ·refine cmo (zho [112,111]) ?_;rintro e V1 ⟨rfl,v1⟩;refine cmo (zho [114,102]) ?_;rintro e V2 ⟨rfl,v2⟩;refine cmo (zmP (k:=2) (a:=nmT [112,111]) (b:=nmT [114,102]) .nil .nil (by decide) (by decide)) ?_;rintro e V3 ⟨r3,rfl,k3,v3⟩;refine cmo (zho [99,111]) ?_;rintro e V4 ⟨rfl,v4⟩;refine cmo (zmP (k:=2) (a := .mk 2 [] [nmT [112,111],nmT [114,102]]) (b:=nmT [99,111]) (k3.kept v4) .nil (by decide) (by decide)) ?_;rintro e V5 ⟨r5,rfl,k5,v5⟩;refine cmo (zho [102,114]) ?_;rintro e V6 ⟨rfl,v6⟩;refine cmo (zmP (k:=2) (a := .mk 2 [] [.mk 2 [] [nmT [112,111],nmT [114,102]],nmT [99,111]]) (b:=nmT [102,114]) (k5.kept v6) .nil (by decide) (by decide)) ?_;rintro e V7 ⟨r7,rfl,k7,v7⟩;refine zn (X:=V7) (v := .agg (zf tmA r7 2).toArray) k24 rfl rfl rfl fun Z hbZ fZ sZ=>?_;have c2:=zst v1 v2;have c3:=zst c2 v3;have c4:=zst c3 v4;have c5:=zst c4 v5;have c6:=zst c5 v6;have c7:=zst c6 v7;have bZ:=zst c7 hbZ;exact⟨V7.heap.size,(cvE rfl rfl),m1.below bZ,m2.below bZ,⟨r7,2,fZ,k7.kept hbZ⟩,(zst b0 bZ)⟩
 clear m1 m2 b0 X;rintro d8 X ⟨m1,m2,t8,b0⟩;refine⟨List zgE×OA×Nat,fun s=>⟨[(1,At0 d1),(2,At0 d2),(3,zu zia),(4,i64 0),(6,zu zkm),(7,i64 0),(8,At0 d8),(9,.slice s.2.1 s.1.length s.2.2),(10,i64 0)],[]⟩,fun s X=>MoB X d1 zfP/\MoB X d2 ze2/\TeB X d8 tmA/\FndC X (zcL zhT [0,1]) s.1 s.2.1/\Bw w X,?_,?_⟩
 ·refine⟨⟨by decide,by decide,rfl⟩,[zu [120]],rfl,?_⟩;obtain⟨V1,e1⟩:=nm (X.alloc (.cells [zu [120]].toArray 9));have v1:Bw X V1:=by rw [e1];exact zba _ _
  have f1:V1.heap[X.heap.size]?=some (.cells #[zu [120]] 9 (0,0)):=by rw [e1];exact zz _ _
  rw [<- e1];refine⟨⟨by decide,by decide,rfl⟩,[u8 0],rfl,?_⟩;obtain⟨V2,e2⟩:=nm (V1.alloc (.cells [u8 0].toArray 5));have v2:Bw V1 V2:=by rw [e2];exact zba _ _
  have f2:V2.heap[V1.heap.size]?=some (.cells #[u8 0] 5 (0,0)):=by rw [e2];exact zz _ _
  rw [<- e2];refine⟨_,rfl,qF.enc (stI 0 1 0),by kernel_rfl,?_⟩;refine⟨⟨by decide,by decide,rfl⟩,qF.enc (stI 0 1 0),by kernel_rfl,?_⟩;obtain⟨V3,e3⟩:=nm (V2.alloc (.cells (qF.enc (stI 0 1 0)).toArray 96));have v3:Bw V2 V3:=by rw [e3];exact zba _ _
  have f3:V3.heap[V2.heap.size]?=some (.cells (qF.enc (stI 0 1 0)).toArray 96 (0,0)):=by rw [e3];exact zz _ _
  rw [<- e3];refine⟨⟨by decide,by decide,rfl⟩,[.slice (some ⟨V2.heap.size,0,none⟩) 1 1],rfl,?_⟩;obtain⟨V4,e4⟩:=nm (V3.alloc (.cells [.slice (some ⟨V2.heap.size,0,none⟩) 1 1].toArray 97));have v4:Bw V3 V4:=by rw [e4];exact zba _ _
  have f4:V4.heap[V3.heap.size]?=some (.cells #[.slice (some ⟨V2.heap.size,0,none⟩) 1 1] 97 (0,0)):=by rw [e4];exact zz _ _
  rw [<- e4];refine⟨zam zhT (some ⟨X.heap.size,0,none⟩) 1 (some ⟨V1.heap.size,0,none⟩) 1 (some ⟨V3.heap.size,0,none⟩) 1 none 0,rfl,?_⟩;have c2:=zst v1 v2;have c3:=zst c2 v3;have c4:=zst c3 v4;have hP:=zuY (W:=V4) (zb v4 (zb v3 (zb v2 f1))) (zb v4 (zb v3 f2)) (zb v4 f3) f4;refine cmo (ztn (B:=V4.heap.size) (n:=5) (V:=[0,1]) (Ge _) hP ((hG.e.below b0).below c4) (zqX zuZ)) ?_;rintro e Z ⟨⟨xs,q,c,rfl,h1,h2,h3⟩,bZ⟩;have c5:=zst c4 bZ;exact⟨(xs,q,c),(cvE rfl rfl),m1.below c5,m2.below c5,t8.below c5,⟨h1,h2.row,fun x hx=>(h3 x hx).row⟩,(zst b0 c5)⟩
 clear m1 m2 t8 b0 X;rintro⟨xs,q,c⟩ X ⟨m1,m2,t8,hF,b0⟩;dsimp only at hF ⊢;obtain⟨hl,bb,ob,p,cx,hq,hbb,hcx,hvx⟩:=hF.one;subst hq;refine⟨Unit,fun _=>⟨[(1,At0 d1),(2,At0 d2),(3,zu zia),(4,i64 0),(6,zu zkm),(7,i64 0),(8,At0 d8),(9,.slice (some ⟨bb,ob,none⟩) 1 c)],[]⟩,fun _ Y=>X=Y,?_,?_⟩
 ·refine Gp (fun h=>GA (show false=true from h) (by decide)) (fun _=>biE (fun h=>?_) fun _=>?_)
  ·have h:(!decide ((xs.length:Int)=1))=true:=h;rw [hl] at h;cases h
  ·exact⟨(),⟨.cons rfl (.cons rfl (.cons rfl (.cons rfl (.cons rfl (.cons rfl (.cons rfl (.cons (by show some (Value.slice (some ⟨bb,ob,none⟩) xs.length c)=_;rw [hl]) .nil))))))),rfl⟩,rfl⟩
 rintro _ _ rfl;refine⟨Unit,fun _=>⟨[(1,At0 d1),(2,At0 d2),(3,zu zia),(4,i64 0),(6,zu zkm),(7,i64 0),(8,At0 d8),(11,.bool false),(12,zu [120]),(13,i64 0)],[]⟩,fun _ Y=>MoB Y d1 zfP/\MoB Y d2 ze2/\TeB Y d8 tmA/\Bw w Y,?_,?_⟩
 ·have bd:=(Gj X.heap.size X).drew;refine DrawE.ord [] [1,2,3,0,4,5,6,7,8,9,10,11] (by kernel_rfl) ⟨0,rfl,by decide,?_⟩;refine⟨exC zlB p cx,zI _ _ _,hcx,hbb,cmo (zgN (hG.k.below ((zst b0 bd))) zry (zeO rfl)) ?_⟩;rintro e Y ⟨p4,cap4,rfl,hM,h40,bY⟩;refine⟨bY,?_⟩;have b1:=zst bd bY;have b2:=zst b0 b1;have hh:zdw (lnA zry) zlB=(false,[120],0):=by rw [ln4];exact ztO
  have hone:∀ l∈lnA zry,l=⟨3,[120],nmT [99,111]⟩:=fun l hl=>by rw [ln4] at hl;exact KA.1 hl
  refine cmo (zh2 (cap:=cap4) (q:=p) (c:=cx) (hG.k.below b2) (hM.weak fun b _=>trivial) (by omega) (hvx.below b1) ((hG.e.below b2).t64) (fun bb mb l hl _=>by rw [hone l hl];exact zpc _ _) (fun l hl h=>by rw [hone l hl] at h;cases h)) ?_;rintro e Z ⟨rfl,bZ⟩;rw [hh];refine⟨bZ,?_⟩;have b3:=zst b1 bZ;exact⟨(),(cvE rfl rfl),m1.below b3,m2.below b3,t8.below b3,(zst b0 b3)⟩
 clear m1 m2 t8 b0 hF hbb hcx hvx X;rintro _ X ⟨⟨p1,k1,f1,hM1,h1⟩,⟨p2,k2,f2,hM2,h2⟩,⟨p8,k8,f8,hK8⟩,b0⟩;have bd:=(Gj X.heap.size X).drew;have bw:=zst b0 bd;refine DrawE.ord [] (List.range 50) (by kernel_rfl) ⟨0,rfl,0,rfl,Gp (fun _=>⟨_,rfl,za (hdr f1),hlt (hdr f1),_,rfl,za (hdr f8),hlt (hdr f8),zC 1 [111,114,100,101,114] tmA p8 k8,rfl,⟨by decide,by decide,rfl⟩,zC 1 [111,114,100,101,114] tmA p8 k8,rfl,?_⟩) (fun h=>GA (show true=false from h) (by decide))⟩;obtain⟨V1,e1⟩:=nm (X.drew.alloc (.cells (zC 1 [111,114,100,101,114] tmA p8 k8).toArray 49));have v1:Below X.drew.heap.size X.drew V1:=by rw [e1];exact zba _ _
 have g1:V1.heap[X.drew.heap.size]?=some (.cells (zC 1 [111,114,100,101,114] tmA p8 k8).toArray 49 (0,0)):=by rw [e1];exact zz _ _
 rw [<- e1];refine⟨v1,?_⟩;have c1:=zst bd v1;refine⟨_,rfl,cmo (znJ (a:=lnA zfP) (b:=[⟨1,[111,114,100,101,114],tmA⟩]) (c:=k1) (d:=1) (by omega) (by decide) (hM1.below c1) (LinsM.one g1 (by decide) (by decide) (by decide) (hK8.kept c1))) ?_⟩;rintro e V2 ⟨rfl,v2⟩;refine⟨v2,?_⟩;have c2:=zst c1 v2;refine Gp (fun _=>⟨_,rfl,za (zb c2 f2),hlt (zb c2 f2),zf (.mk 9 [82] []) none 0,rfl,cmo (zho [112,111]) ?_⟩) (fun h=>GA ((sm1).symm.trans h) (by decide));rintro e V3 ⟨rfl,v3⟩;refine⟨v3,?_⟩;have c3:=zst c2 v3;refine cmo (zmP (k:=5) (a := .mk 9 [82] []) (b:=nmT [112,111]) .nil .nil (by decide) (by decide)) ?_;rintro e V4 ⟨r4,rfl,k4,v4⟩;refine⟨v4,?_⟩;have c4:=zst c3 v4;refine⟨zC 3 [120] tmB r4 2,rfl,⟨by decide,by decide,rfl⟩,zC 3 [120] tmB r4 2,rfl,?_⟩;obtain⟨V5,e5⟩:=nm (V4.alloc (.cells (zC 3 [120] tmB r4 2).toArray 49));have v5:Bw V4 V5:=by rw [e5];exact zba _ _
 have g5:V5.heap[V4.heap.size]?=some (.cells (zC 3 [120] tmB r4 2).toArray 49 (0,0)):=by rw [e5];exact zz _ _
 rw [<- e5];refine⟨v5,?_⟩;have c5:=zst c4 v5;refine⟨_,rfl,cmo (znJ (a:=lnA ze2) (b:=[⟨3,[120],tmB⟩]) (c:=k2) (d:=1) (by omega) (by decide) (hM2.below c5) (LinsM.one g5 (by decide) (by decide) (by decide) (k4.kept v5))) ?_⟩;rintro e V6 ⟨rfl,v6⟩;refine⟨v6,?_⟩;have c6:=zst c5 v6;refine Gp (fun _=>⟨_,fun w=>zF _ _ zia zia w,Gp (fun _=>⟨_,fun w=>zF _ _ zkm zkm w,Gp (fun _=>?_) (fun h=>GA (((Uu rfl)).symm.trans h) (by decide))⟩) (fun h=>GA (((Uu rfl)).symm.trans h) (by decide))⟩) (fun h=>GA ((sm2).symm.trans h) (by decide));have hK6:=hG.k.below ((zst b0 c6));refine cmo (zjz hK6 zvE (zeO rfl) 112 8) ?_;rintro e V7 ⟨rfl,v7⟩;refine⟨v7,?_⟩;have c7:=zst c6 v7;refine Gp (fun _=>cmo (zjz (hG.k.below ((zst b0 c7))) zvD (zeO rfl) 111 4) ?_) (fun h=>GA ((fa5).symm.trans h) (by decide));rintro e V8 ⟨rfl,v8⟩;refine⟨v8,?_⟩;have c8:=zst c7 v8;refine Gp (fun _=>cmo (zjz (hG.k.below ((zst b0 c8))) zvC (zeO rfl) 110 8) ?_) (fun h=>GA ((fa6).symm.trans h) (by decide));rintro e V9 ⟨rfl,v9⟩;refine⟨v9,?_⟩;have c9:=zst c8 v9;exact Gp (fun _=>Gp (fun _=>⟨_,fun w=>zF _ _ [120] [120] w,rb (Uu rfl),(zst b0 c9)⟩) (fun h=>GA (show true=false from h) (by decide))) (fun h=>GA ((fa7).symm.trans h) (by decide))
end
section
variable {b c:Nat} {x:ExD} {q:OA} {w:Wd}
theorem zrn {m:UInt8} (hv:ExV w x q) (hT:Tz64M w):CB 30 #[u8 m,.agg (exC x q c).toArray] w (u8 (UInt8.ofNat (zey m.toNat x))):=by
 refine qa 15 [u8 m,.agg (exC x q c).toArray] (.c .p .p) Tryz.func30 ?_;obtain⟨L,hL⟩:=nm (w.heap.size);refine⟨Unit,fun _=>⟨[(0,u8 m),(3,At0 L)],[]⟩,fun _ X=>ExH X L x q c/\Bw w X,⟨(),⟨.cons rfl (.cons (by rw [hL];rfl) .nil),rfl⟩,by rw [hL];exact zz w _,(zba w _)⟩,?_⟩;rintro _ X ⟨fX,hbX⟩;refine cmo zng ?_;rintro e _ ⟨rfl,rfl⟩;refine biE (fun h1=>?_) fun h1=>?_
 ·have h1:j3 m.toNat=false:=by
   have h1:(!j3 m.toNat)=true:=h1;simpa using h1
  refine brT ?_;have e0:zey m.toNat x=0:=by unfold zey;rw [Gy fun h=>by rw [h1] at h;cases h.1]
  rw [e0];exact⟨rfl,hbX⟩
 ·have h1:j3 m.toNat=true:=by
   have h1:(!j3 m.toNat)=false:=h1;simpa using h1
  refine⟨exC x q c,zI _ _ _,za fX,hlt fX,cmo (zch (hv.below hbX) (hT.below hbX)) ?_⟩;rintro e Y ⟨rfl,hbY⟩;have bY:=zst hbX hbY;refine biE (fun h2=>?_) fun h2=>?_
  ·have h2:zS x=false:=by
    have h2:(!zS x)=true:=h2;simpa using h2
   have e0:zey m.toNat x=0:=by unfold zey;rw [Gy fun h=>by rw [h2] at h;cases h.2]
   rw [e0];exact⟨rfl,bY⟩
  ·have h2:zS x=true:=by
    have h2:(!zS x)=false:=h2;simpa using h2
   have e0:zey m.toNat x=zai m.toNat x:=Gz ⟨h1,h2⟩;rw [e0];refine cmo (zlm h1 (zb hbY fX) (hv.below bY) (zkf h2) (hT.below bY)) ?_;rintro e Z ⟨rfl,hbZ⟩;exact⟨rfl,(zst bY hbZ)⟩
end
section
variable {q p:OA} {c cap L:Nat} {x:ExD} {w X Y:Wd}
theorem zpd {bb mb:Nat}:∀ t,VT t->noPS t=true->zrc x q c bb mb t
 | .mk k nq kids,hv,hn=>by
  rw [noPS,bAT,bAT,dE,dE] at hn;exact ztQ ⟨fun e=>GA e hn.1.1,fun e=>GA e hn.1.2⟩ hv fun y hy=>zpd y (hv.inv.2.2.2 y hy) (zkB hn.2 hy)
theorem zvy (m:UInt8):CB 26 #[u8 m] w (zu (zdz m.toNat)):=by
 refine zJ 16 [u8 m] Tryz.func26 ?_;have d:∀ k:UInt8,decide ((m.toNat:Int)=(k.toNat:Int))=decide (m=k):=fun k=>jb m k;refine biE (fun h=>?_) fun h1=>?_
 ·have h:m=1:=dT ((d 1).symm.trans h);subst h;exact⟨by kernel_rfl,Gj _ _⟩
 have h1:m≠1:=dF ((d 1).symm.trans h1);refine biE (fun h=>?_) fun h2=>?_
 ·have h:m=2:=dT ((d 2).symm.trans h);subst h;exact⟨by kernel_rfl,Gj _ _⟩
 have h2:m≠2:=dF ((d 2).symm.trans h2);refine biE (fun h=>?_) fun h3=>?_
 ·have h:m=3:=dT ((d 3).symm.trans h);subst h;exact⟨by kernel_rfl,Gj _ _⟩
 have h3:m≠3:=dF ((d 3).symm.trans h3);refine biE (fun h=>?_) fun h4=>?_
 ·have h:m=4:=dT ((d 4).symm.trans h);subst h;exact⟨by kernel_rfl,Gj _ _⟩
 have h4:m≠4:=dF ((d 4).symm.trans h4);refine biE (fun h=>?_) fun h5=>?_
 ·have h:m=5:=dT ((d 5).symm.trans h);subst h;exact⟨by kernel_rfl,Gj _ _⟩
 have h5:m≠5:=dF ((d 5).symm.trans h5);refine biE (fun h=>?_) fun h6=>?_
 ·have h:m=6:=dT ((d 6).symm.trans h);subst h;exact⟨by kernel_rfl,Gj _ _⟩
 have h6:m≠6:=dF ((d 6).symm.trans h6);have e:zdz m.toNat=[]:=znB fun h=>by
  have hk:∀ k:UInt8,m≠k->m.toNat≠k.toNat:=fun k h e=>h (Uh.1 e);have a1:m.toNat≠1:=hk 1 h1;have a2:m.toNat≠2:=hk 2 h2;have a3:m.toNat≠3:=hk 3 h3;have a4:m.toNat≠4:=hk 4 h4;have a5:m.toNat≠5:=hk 5 h5;have a6:m.toNat≠6:=hk 6 h6;omega
 rw [e];exact⟨rfl,Gj _ _⟩
theorem zu3 (m:Nat) (x:ExD):zey m x<=3:=by
 have key:∀ A B C:Bool,(if A=true then (if B=true then (if m=1 then 0 else if C=true then 0 else 3) else 2) else 1)<=3:=fun A B C=>by
  by_cases hm:m=1 <;> cases A <;> cases B <;> cases C <;> simp [hm]
 unfold zey
 split
 ·exact key _ _ _
 ·exact Gg _
theorem zqN (d:Nat) (a b:Bool) (w:Wd):(Op.equalIn (d+1) 4 (.bool a) (.bool b)).run PG w = .ok (decide (a=b)) w:=by
 simp only [Op.equalIn,Ga,Uv Tryz.underlying4,Qa,Gb]
 cases a <;> cases b <;> rfl
theorem zoI (x y:Operand) (a b:Bool) (w:Wd):(do eqGuard .eql 4 x y (.bool a) (.bool b);binOp .eql 4 (.bool a) (.bool b)).run PG w = .ok (.bool (decide (a=b))) w:=by
 have h:(Op.equal 4 (.bool a) (.bool b)).run PG w = .ok (decide (a=b)) w:=zqN 9999 a b w;have h1:(eqGuard .eql 4 x y (.bool a) (.bool b)).run PG w = .ok () w:=rfl;rw [Ga,h1];simp only [Qa,binOp,Ga,h,Gb]
structure BkB (w:Wd) (L:Nat) (x:ExD) (q:OA) (c:Nat) (X:Wd):Prop where
 E:ExH X L x q c
 bl:Bw w X
theorem BkB.below (h:BkB w L x q c X) (hb:Bw X Y):BkB w L x q c Y:=⟨zb hb h.E,zst h.bl hb⟩
theorem zmw {m:UInt8} (hv0:SlR evE w q x.ev/\WX x) (hG:GlobA w) :
  CB 5 #[.agg (exC x q c).toArray,u8 m] w (.bool true):=by
 refine qa 93 [.agg (exC x q c).toArray,u8 m] (.c .p (.c (.s .p .p) (.c .p (.c .p (.c (.s .p .p) (.c (.s .p .p) (.c .p (.c (.s .p .p) (.c .p .p))))))))) Tryz.func5 ?_;have aw:∀ {X:Wd},Bw w X->Calls PG 11 #[] X fun e w'=>e = .returned (.bool true)/\Bw w w':=fun {X} b=>(zvh (hG.below b)).mono fun e Y h=>⟨h.1,zst b h.2⟩;obtain⟨L,hL⟩:=nm (w.heap.size);refine⟨Unit,fun _=>⟨[(1,u8 m),(2,At0 L)],[]⟩,fun _ X=>BkB w L x q c X,⟨(),⟨.cons rfl (.cons (by rw [hL];rfl) .nil),rfl⟩,by rw [hL];exact zz w _,zba _ _⟩,?_⟩;rintro _ X hX;refine⟨Unit,fun _=>⟨[(1,u8 m),(2,At0 L)],[]⟩,fun _ Y=>X=Y/\x.ev.length<=16,?_,?_⟩
 ·refine⟨_,jq (za hX.E),biE (fun h=>?_) fun h=>?_⟩
  ·refine cmo (aw hX.bl) ?_;rintro e Z ⟨rfl,bZ⟩;exact⟨rfl,bZ⟩
  ·have h:¬ (16:Int)<(x.ev.length:Int):=dF h;exact⟨(),(cvE rfl rfl),rfl,by omega⟩
 rintro _ _ ⟨rfl,h16⟩;have hv:ExV w x q:=⟨hv0.1,by omega,hv0.2.po,hv0.2.rf,hv0.2.co,hv0.2.dt,hv0.2.ct,hv0.2.rm⟩;have hw:=hv0.2;clear hv0;obtain⟨s,hs⟩:=nm (zdz m.toNat);have hsl:s.length<=500:=by rw [hs];exact zq2 _
 refine⟨Unit,fun _=>⟨[(1,u8 m),(2,At0 L),(5,zu s)],[]⟩,fun _ X=>BkB w L x q c X,?_,?_⟩
 ·refine cmo (zvy m) ?_;rintro e Y ⟨rfl,bY⟩;rw [<- hs];exact⟨(),(cvE rfl rfl),hX.below bY⟩
 clear hX X;rintro _ X hX;obtain⟨r,hr⟩:=nm (qc s);refine⟨Nat×OA×Nat,fun y=>⟨[(1,u8 m),(2,At0 L),(5,zu s),(6,At0 y.1),(7,i64 (r.2.1:Nat)),(8,i64 r.2.2)],[]⟩,fun y X=>BkB w L x q c X/\X.heap[y.1]?=some (.cells #[.slice y.2.1 (r.1.getD []).length y.2.2] 47 (0,0))/\LinsM zbI X y.2.1 (r.1.getD []),?_,?_⟩
 ·refine cmo (zjO (hG.k.below hX.bl) s (by omega)) ?_;rw [<- hr];rintro e Y ⟨⟨p,cap,rfl,h40,hM⟩,bY⟩;exact zn (X:=Y) (v := .agg #[.slice p (r.1.getD []).length cap]) k47 rfl rfl rfl fun Z hbZ fZ sZ=>⟨(Y.heap.size,p,cap),(cvE rfl rfl),(hX.below bY).below hbZ,fZ,(hM.below hbZ).weak fun b _=>trivial⟩
 clear hX X;rintro⟨b6,p,cap⟩ X ⟨hX,f6,hM⟩;dsimp only at f6 hM ⊢;refine⟨Unit,fun _=>⟨[(1,u8 m),(2,At0 L),(6,At0 b6),(7,i64 (r.2.1:Nat)),(8,i64 r.2.2)],[]⟩,fun _ Y=>X=Y/\1<=m.toNat/\m.toNat<=6,?_,?_⟩
 ·have out:¬ (1<=m.toNat/\m.toNat<=6)->s=[]:=fun h=>by rw [hs];exact znB h
  refine biE (fun h=>?_) fun h=>?_
  ·have h:(m.toNat:Int)<1:=dT h;have hs0:s=[]:=out (by omega);refine brT ⟨_,fun w=>zF _ _ s [] w,Gp (fun _=>cmo (aw hX.bl) ?_) (fun h=>GA hs0 (dF h))⟩;rintro e Z ⟨rfl,bZ⟩;exact⟨rfl,bZ⟩
  ·have h:¬ (m.toNat:Int)<1:=dF h;refine biE (fun h1=>?_) fun h1=>?_
   ·have h1:(6:Int)<(m.toNat:Int):=dT h1;have hs0:s=[]:=out (by omega);refine⟨_,fun w=>zF _ _ s [] w,Gp (fun _=>cmo (aw hX.bl) ?_) (fun h=>GA hs0 (dF h))⟩;rintro e Z ⟨rfl,bZ⟩;exact⟨rfl,bZ⟩
   ·have h1:¬ (6:Int)<(m.toNat:Int):=dF h1;exact⟨(),(cvE rfl rfl),rfl,by omega,by omega⟩
 rintro _ _ ⟨rfl,m1,m6⟩;obtain⟨hpar,hex,hpl⟩:=zs4 m1 m6;rw [<- hs,<- hr] at hpar;subst hpar;obtain⟨ls,hls⟩:=nm (zbb m.toNat);replace f6:X.heap[b6]?=some (.cells #[.slice p ls.length cap] 47 (0,0)):=by rw [hls];exact f6
 replace hM:LinsM zbI X p ls:=by rw [hls];exact hM
 rw [<- hls] at hex;have pl:∀ l∈ls,noPS l.term=true/\l.kind≠2:=fun l hl=>by
  unfold zdP at hpl;rw [<- hls,Qj] at hpl;have:=hpl l hl;rw [bAT,dE] at this;exact this
 have hl40:ls.length<=40:=by
  refine Nat.le_of_not_lt fun h=>?_;unfold jN at hex;rw [Gz h] at hex
  cases hex
 refine⟨Unit,fun _=>⟨[(1,u8 m),(2,At0 L),(6,At0 b6)],[]⟩,fun _ Y=>BkB w L x q c Y/\Y.heap[b6]?=some (.cells #[.slice p ls.length cap] 47 (0,0))/\LinsM zbI Y p ls,?_,?_⟩
 ·refine brN (show (!decide ((0:Int)=0))=false from rfl) (brN (show (!decide ((0:Int)=0))=false from rfl) ⟨_,rfl,za f6,hlt f6,cmo (zh1 (cap:=cap) (hG.k.below hX.bl) hM (by omega)) ?_⟩);rintro e Y ⟨rfl,bY⟩;rw [hex];exact brF ⟨(),(cvE rfl rfl),hX.below bY,zb bY f6,hM.below bY⟩
 clear hX f6 hM X;rintro _ X ⟨hX,f6,hM⟩;obtain⟨H,hH⟩:=nm (zdw ls x);refine⟨Unit,fun _=>⟨[(1,u8 m),(2,At0 L),(9,.bool H.1),(10,zu H.2.1),(11,i64 H.2.2)],[]⟩,fun _ Y=>BkB w L x q c Y,?_,?_⟩
 ·refine⟨_,rfl,za f6,hlt f6,exC x q c,zI _ _ _,za hX.E,hlt hX.E,cmo (zh2 (cap:=cap) (hG.k.below hX.bl) hM (by omega) (hv.below hX.bl) (hG.e.t64.below hX.bl) (fun bb mb l hl hvl=>zpd l.term hvl (pl l hl).1) fun l hl h2=>GA h2 (pl l hl).2) ?_⟩;rintro e Y ⟨rfl,bY⟩;rw [<- hH];exact⟨(),(cvE rfl rfl),hX.below bY⟩
 clear hX f6 hM X;rintro _ X hX;refine⟨Unit,fun _=>⟨[(1,u8 m),(2,At0 L),(9,.bool H.1),(10,zu H.2.1),(11,i64 H.2.2)],[]⟩,fun _ Y=>BkB w L x q c Y/\zS x=true,?_,?_⟩
 ·refine⟨exC x q c,zI _ _ _,za hX.E,hlt hX.E,cmo (zch (hv.below hX.bl) (hG.e.t64.below hX.bl)) ?_⟩;rintro e Y ⟨rfl,bY⟩;replace hX:=hX.below bY;refine biE (fun h=>?_) fun h=>?_
  ·have h:(!zS x)=true:=h;have e0:H=(false,[],2):=by
    rw [hH];unfold zdw zhF;rw [zkz h,Uk];rfl
   subst e0;refine Gp (fun _=>brT ⟨_,fun w=>zF _ _ [] [] w,Gp (fun _=>cmo (aw hX.bl) ?_) (fun h=>GA rfl (dF h))⟩) (fun h=>GA (show decide ((2:Int)=2)=false from h) (by decide));rintro e Z ⟨rfl,bZ⟩;exact⟨rfl,bZ⟩
  ·have h:(!zS x)=false:=h;exact⟨(),(cvE rfl rfl),hX,zky h⟩
 clear hX X;rintro _ X ⟨hX,hright⟩;have hkn:j3 m.toNat=true:=by unfold j3;rw [Uu m1,Uu m6];rfl
 have hbro:zey m.toNat x=zai m.toNat x:=by unfold zey;rw [Gz ⟨hkn,hright⟩]
 have hb3:=zu3 m.toNat x;have e0:H=((zdt m.toNat x).1,(zdt m.toNat x).2,0):=by
  rw [hH];unfold zdw zhF;rw [hex,hright,hls,zoZ hw hright m1 m6];rfl
 subst e0;obtain⟨B,hB⟩:=nm (zai m.toNat x);rw [hbro,<- hB] at hb3;obtain⟨W,hW⟩:=nm ((zdt m.toNat x).2);refine⟨Unit,fun _=>⟨[(1,u8 m),(2,At0 L),(9,.bool (zdt m.toNat x).1),(10,zu (zdt m.toNat x).2),(11,i64 0),(12,zu W)],[]⟩,fun _ Y=>BkB w L x q c Y,?_,?_⟩
 ·refine⟨[zu [],zu [99,111,104,101,114,101,110,116],zu [97,116,111,109,105,99],zu [111,114,100,101,114]],rfl,exC x q c,zI _ _ _,za hX.E,hlt hX.E,cmo (zrn (m:=m) (hv.below hX.bl) (hG.e.t64.below hX.bl)) ?_⟩;rintro e Y ⟨rfl,bY⟩;rw [hbro,<- hB];have hX:=hX.below bY;unfold zdt at hW;rw [<- hB] at hW;clear hH hls hex hl40 hr hs hbro;rcases (by omega:B=0\/B=1\/B=2\/B=3) with e | e | e | e
  ·subst W;rw [e];exact⟨0,rfl,by decide,(),(cvE rfl rfl),hX⟩
  ·subst W;rw [e];exact⟨1,rfl,by decide,(),(cvE rfl rfl),hX⟩
  ·subst W;rw [e];exact⟨2,rfl,by decide,(),(cvE rfl rfl),hX⟩
  ·subst W;rw [e];exact⟨3,rfl,by decide,(),(cvE rfl rfl),hX⟩
 clear hX X;rintro _ X hX;refine Gp (fun _=>⟨exC x q c,zI _ _ _,za hX.E,hlt hX.E,cmo (ztl (m:=m) (hv.below hX.bl) (hG.e.t64.below hX.bl)) ?_⟩) (fun h=>GA (show decide ((0:Int)=0)=false from h) (by decide));rintro e Y ⟨rfl,bY⟩;replace hX:=hX.below bY;have hho:zf8 m.toNat x=(zdt m.toNat x).1:=by unfold zf8 zdt;rw [hkn,hright];rfl
 rw [hho];refine⟨_,fun w=>zoI _ _ (zdt m.toNat x).1 (zdt m.toNat x).1 w,Gp (fun _=>?_) (fun h=>GA rfl (dF h))⟩;rw [<- hW];refine⟨_,fun w=>zF _ _ W W w,Gp (fun _=>cmo (aw hX.bl) ?_) (fun h=>GA rfl (dF h))⟩;rintro e Z ⟨rfl,bZ⟩;exact⟨rfl,bZ⟩
end
end Go.Proofs.YtnadlhpkpnfmbaaGreatDoor
namespace Go.Proofs.YtnadlhpkpnfmbaaGreatDoor
open Go.Vc Go.RowKit Go.Sei
open Go.ChangeShapes Go.WideShapes Go.ChangeAt
section
variable {H:Type} {enc:TypeId×Value->H} {P:Program} {w:Wd} {base:Nat} {spare:Nat->Bool} {held:Bool} {fuel:Nat} {t:TypeId} {cs:List Value} {x:DataW H×List MemPlace}
theorem zm6 (ht:P.underlying t=some (.int .u8)) (h:DataW.trod enc P w base spare held fuel t cs=some x):∃ b:UInt8,cs=[u8 b]/\x.1 = .lit (.int .u8 b.toNat):=by
 obtain⟨n,rfl,rfl,hw⟩:=Um ht h;have hb:=bounds_u8 hw;have e:((UInt8.ofNat n.toNat).toNat:Int)=n:=by
  rw [KH];omega
 exact⟨UInt8.ofNat n.toNat,by rw [u8,e],by rw [e]⟩
theorem zfj {n:Nat} {e:TypeId} (ht:P.underlying t=some (.array n e)) (he:P.underlying e=some (.int .u8)) (hc:P.cellsOf e=1) (hn:P.cellsOf t=n)
  (h:DataW.trod enc P w base spare held fuel t cs=some x):∃ bs:List UInt8,bs.length=n/\cs=bs.map u8/\x.1 = .agg (bs.map fun b => .lit (.int .u8 b.toNat)):=by
 obtain⟨xs,m,rfl,rfl,hl,hx,hel⟩:=DataW.trod_array ht h;rw [hn] at hl;have each:∀ i (h:i<n),∃ b:UInt8,cs[i]?=some (u8 b)/\xs[i]?.map (·.1)=some (.lit (.int .u8 b.toNat)):=fun i hi=>by
  have h1:=hel i hi;rw [hc,gE (by omega)] at h1;obtain⟨b,h2,h3⟩:=zm6 he h1;refine⟨b,?_,by rw [gE (by omega),Uf,h3]⟩;have:((cs.drop (i*1)).take 1)[0]?=some (u8 b):=by rw [h2];rfl
  simpa using this
 have:∀ k,k<=n->∃ bs:List UInt8,bs.length=k/\cs.take k=bs.map u8/\(xs.take k).map (·.1)=bs.map fun b => .lit (.int .u8 b.toNat):=by
  intro k
  induction k with
  | zero=>exact fun _=>⟨[],rfl,by simp,by simp⟩
  | succ k ih =>
   intro hk;obtain⟨bs,h1,h2,h3⟩:=ih (by omega);obtain⟨b,h4,h5⟩:=each k (by omega);have hk1:k<cs.length:=by omega
   have hk2:k<xs.length:=by omega
   rw [gE hk1] at h4;rw [gE hk2] at h5;refine⟨bs++[b],by simp [h1],?_,?_⟩
   ·rw [tsg hk1,h2,Ug h4];simp
   ·rw [tsg hk2,QT,h3];simp at h5;simp [h5]
 obtain⟨bs,h1,h2,h3⟩:=this n (Ge _);rw [JE (by omega)] at h2 h3;exact⟨bs,h1,h2,by rw [<- h3]⟩
theorem zuc (ht:P.underlying t=some (.int .i64)) (h:DataW.trod enc P w base spare held fuel t cs=some x):∃ b:Int,cs=[i64 b]/\x.1 = .lit (.int .i64 b):=by
 obtain⟨n,rfl,rfl,_⟩:=Um ht h;exact⟨n,rfl,rfl⟩
theorem zm7 {n:Nat} {e:TypeId} (ht:P.underlying t=some (.array n e)) (he:P.underlying e=some (.int .i64)) (hc:P.cellsOf e=1) (hn:P.cellsOf t=n)
  (h:DataW.trod enc P w base spare held fuel t cs=some x):∃ bs:List Int,bs.length=n/\cs=bs.map i64/\x.1 = .agg (bs.map fun b => .lit (.int .i64 b)):=by
 obtain⟨xs,m,rfl,rfl,hl,hx,hel⟩:=DataW.trod_array ht h;rw [hn] at hl;have each:∀ i (h:i<n),∃ b:Int,cs[i]?=some (i64 b)/\xs[i]?.map (·.1)=some (.lit (.int .i64 b)):=fun i hi=>by
  have h1:=hel i hi;rw [hc,gE (by omega)] at h1;obtain⟨b,h2,h3⟩:=zuc he h1;refine⟨b,?_,by rw [gE (by omega),Uf,h3]⟩;have:((cs.drop (i*1)).take 1)[0]?=some (i64 b):=by rw [h2];rfl
  simpa using this
 have:∀ k,k<=n->∃ bs:List Int,bs.length=k/\cs.take k=bs.map i64/\(xs.take k).map (·.1)=bs.map fun b => .lit (.int .i64 b):=by
  intro k
  induction k with
  | zero=>exact fun _=>⟨[],rfl,by simp,by simp⟩
  | succ k ih =>
   intro hk;obtain⟨bs,h1,h2,h3⟩:=ih (by omega);obtain⟨b,h4,h5⟩:=each k (by omega);have hk1:k<cs.length:=by omega
   have hk2:k<xs.length:=by omega
   rw [gE hk1] at h4;rw [gE hk2] at h5;refine⟨bs++[b],by simp [h1],?_,?_⟩
   ·rw [tsg hk1,h2,Ug h4];simp
   ·rw [tsg hk2,QT,h3];simp at h5;simp [h5]
 obtain⟨bs,h1,h2,h3⟩:=this n (Ge _);rw [JE (by omega)] at h2 h3;exact⟨bs,h1,h2,by rw [<- h3]⟩
end
theorem zd9:Tryz.prog.cellsOf 5=1:=by kernel_rfl
theorem zls (b o i:Nat):(⟨b,o,none⟩:Addr).add i=⟨b,o+i,none⟩:=by
 unfold Addr.add;by_cases h:i=0
 ·simp [h]
 ·simp [h]
section
variable {w:Wd} {base:Nat} {cs:List Value}
theorem zjG {a:Addr} {n:Nat} (hn:0<n) (h:w.cells? base a n=some cs):a.spot=none/\a.block<w.heap.size/\zw w ⟨a.block,a.off,none⟩ cs:=by
 obtain⟨_,hl,hc⟩:=World.cells?_some h;have h0:=hc 0 hn;rw [gE (by omega)] at h0;have hs:a.spot=none:=by simpa [Addr.add] using World.cell?_spot h0
 obtain⟨b,o,s⟩:=a;dsimp only at hs;subst hs;refine⟨rfl,Jy _ _ h0,qQ fun i v hv=>?_⟩;have hi:i<n:=by have:=(Jq.1 hv).1;omega
 have:=(hc i hi).trans hv;rw [zls] at this;exact this
end
theorem zpA:ownKnob Tryz.prog.godebug=none:=by kernel_rfl
theorem ze9:laidOutB PG=true:=by kernel_rfl
section
variable {H:Type} {enc:TypeId×Value->H} {P:Program} {w:Wd} {base:Nat} {spare:Nat->Bool} {held:Bool} {fuel:Nat} {t e:TypeId} {cs:List Value} {x:DataW H×List MemPlace}
def Opens (enc:TypeId×Value->H) (P:Program) (w:Wd) (base:Nat) (spare:Nat->Bool) (held:Bool) (t:TypeId) (R:List Value->Prop):Prop :=
 ∀ fuel cs x,DataW.trod enc P w base spare held fuel t cs=some x->R cs
theorem Opens.field {fs:Array Field} {R:List Value->Prop} {i:Nat} {f:Field} {n:Nat} {xs:List (DataW H×List MemPlace)} {m:Nat} (hel:∀ (i:Nat) (f:Field),fs[i]?=some f->DataW.trod enc P w base spare held m f.type ((cs.drop f.offset).take (P.cellsOf f.type))=xs[i]?)
  (hl:xs.length=fs.size) (hi:fs[i]?=some f) {o:Nat} (hoo:f.offset=o) (hn:P.cellsOf f.type=n) (ho:Opens enc P w base spare held f.type R):R ((cs.drop o).take n):=by
 subst hoo;have h1:=hel i f hi;have:i<fs.size:=(Jk.1 hi).1;rw [gE (by omega),hn] at h1;exact ho _ _ _ h1
theorem zcT (ht:P.underlying t=some (.int .u8)):Opens enc P w base spare held t fun cs=>∃ b:UInt8,cs=[u8 b]:=fun fuel cs x h=>by
 obtain⟨b,h,_⟩:=zm6 ht h;exact⟨b,h⟩
theorem ziD (ht:P.underlying t=some (.int .i64)):Opens enc P w base spare held t fun cs=>∃ b:Int,cs=[.int .i64 b]:=fun fuel cs x h=>by
 obtain⟨n,h,_,_⟩:=Um ht h;exact⟨n,h⟩
theorem zon (ht:P.underlying t=some (.int .u64)):Opens enc P w base spare held t fun cs=>∃ n:Nat,n<18446744073709551616/\cs=[.int .u64 (n:Int)]:=fun fuel cs x h=>by
 obtain⟨n,rfl,_,hw⟩:=Um ht h;have hb:0<=n/\n<=18446744073709551615:=by
  simp only [Lit.wf,dE,bAT] at hw
  first
   | exact⟨by simpa [IntKind.min,IntKind.signed,IntKind.bits] using hw.1,by simpa [IntKind.max,IntKind.signed,IntKind.bits] using hw.2⟩
   | (simp [IntKind.min,IntKind.max,IntKind.signed,IntKind.bits] at hw;omega)
 exact⟨n.toNat,by omega,by congr 2;omega⟩
theorem ziC {n:Nat} (ht:P.underlying t=some (.array n e)) (he:P.underlying e=some (.int .u8)) (hc:P.cellsOf e=1) (hn:P.cellsOf t=n):Opens enc P w base spare held t fun cs=>∃ bs:List UInt8,bs.length=n/\cs=bs.map u8:=fun fuel cs x h=>by
 obtain⟨bs,h1,h2,_⟩:=zfj ht he hc hn h;exact⟨bs,h1,h2⟩
theorem zne {β:Type} {n:Nat} (i0:β) {Q:Nat->β->Prop} (h:∀ i,i<n->∃ b,Q i b):∃ bs:List β,bs.length=n/\∀ i (hi:i<bs.length),Q i bs[i]:=by
 have h2:∀ i,∃ b,i<n->Q i b:=fun i=>by
  by_cases hi:i<n
  ·obtain⟨b,hb⟩:=h i hi;exact⟨b,fun _=>hb⟩
  ·exact⟨i0,fun h=>GA h hi⟩
 obtain⟨g,hg⟩:=Classical.axiomOfChoice h2;refine⟨(List.range n).map g,by simp,fun i hi=>?_⟩;simp only [Qq,Ky];exact hg i (by simpa using hi)
theorem znk {β:Type} {f:β->List Value} {sz:Nat}:∀ (bs:List β) (cs:List Value),cs.length=bs.length*sz->(∀ i (h:i<bs.length),(cs.drop (i*sz)).take sz=f bs[i])->cs=bs.flatMap f
 | [],cs,hl,_=>by simpa using hl
 | b::r,cs,hl,h=>by
  have h0:=h 0 (by simp);simp only [UZ,Up,List.getElem_cons_zero] at h0;rw [KS,<- h0]
  conv=>lhs;rw [<- JQ sz cs]
  congr 1;refine znk (sz:=sz) r (cs.drop sz) (by rw [Qt,hl,Qs,Gd];omega) fun i hi=>?_;have h1:=h (i+1) (by simpa using hi);rw [Un];simpa [Gd,UQ] using h1
theorem ziE {β:Type} (i0:β) {f:β->List Value} {Q:β->Prop} {n sz:Nat} (ht:P.underlying t=some (.array n e)) (hc:P.cellsOf e=sz) (hn:P.cellsOf t=n*sz) (ho:Opens enc P w base spare held e fun cs=>∃ b,Q b/\cs=f b) :
  Opens enc P w base spare held t fun cs=>∃ bs:List β,bs.length=n/\(∀ b∈bs,Q b)/\cs=bs.flatMap f:=fun fuel cs x h=>by
 obtain⟨xs,m,rfl,rfl,hl,hx,hel⟩:=DataW.trod_array ht h;rw [hn] at hl;have each:∀ i,i<n->∃ b:β,Q b/\(cs.drop (i*sz)).take sz=f b:=fun i hi=>by
  have h1:=hel i hi;rw [hc,gE (by omega)] at h1;exact ho _ _ _ h1
 obtain⟨bs,h1,h2⟩:=zne i0 each;refine⟨bs,h1,fun b hb=>?_,znk bs cs (by rw [hl,h1]) fun i hi=>(h2 i hi).2⟩;obtain⟨i,hi,rfl⟩:=Kh hb;exact (h2 i hi).1
theorem zpV {β:Type} (i0:β) {f:β->List Value} {Q:β->Prop} {sz:Nat} (hp:0<sz) (ht:P.underlying t=some (.slice e)) (hc:P.cellsOf e=sz) (ho:Opens enc P w base spare held e fun cs=>∃ b,Q b/\cs=f b) :
  Opens enc P w base spare held t fun cs=>∃ (p:OA) (cap:Nat) (l:List β),cs=[.slice p l.length cap]/\l.length<=9223372036854775807/\(p=none->cap=0)/\(∀ b∈l,Q b)/\∃ b o,(l.length=0\/p=some ⟨b,o,none⟩)/\∀ i (hi:i<l.length),b<w.heap.size/\zw w ⟨b,o+i*sz,none⟩ (f l[i]):=fun fuel cs x h=>by
 rcases DataW.trod_slice ht h with ⟨rfl,_⟩ | ⟨a,len,cap,elems,qY,n,_,rfl,_,_,hlc,hcm,hlen,hel,_,_⟩
 ·exact⟨none,0,[],rfl,by simp,fun _=>rfl,by simp,0,0,.inl rfl,fun i hi=>by simp at hi⟩
 ·have each:∀ i,i<len->∃ m:β,Q m/\(a.add (i*sz)).spot=none/\(a.add (i*sz)).block<w.heap.size/\zw w ⟨(a.add (i*sz)).block,(a.add (i*sz)).off,none⟩ (f m):=fun i hi=>by
   have h1:=hel i hi;rw [hc,gE (by omega),Option.bind_eq_some_iff] at h1;obtain⟨cs,h2,h3⟩:=h1;obtain⟨m,hq,rfl⟩:=ho _ _ _ h3;exact⟨m,hq,zjG hp h2⟩
  obtain⟨l,h1,h2⟩:=zne i0 each;have hm:maxLen=9223372036854775807:=rfl;refine⟨some a,cap,l,by rw [h1],by omega,(fun h=>by cases h),fun b hb=>?_,a.block,a.off,?_,fun i hi=>?_⟩
  ·obtain⟨i,hi,rfl⟩:=Kh hb;exact (h2 i hi).1
  ·by_cases h00:l.length=0
   ·exact .inl h00
   ·right;have hsp:a.spot=none:=by
     have:=(h2 0 (by omega)).2.1;simpa [Addr.add] using this
    obtain⟨b,o,s⟩:=a;dsimp only at hsp;subst hsp;rfl
  ·have hsp:a.spot=none:=by
    have:=(h2 0 (by omega)).2.1;simpa [Addr.add] using this
   obtain⟨b,o,s⟩:=a;dsimp only at hsp;subst hsp;have:=(h2 i hi).2.2;rw [zls] at this;exact this
theorem cut (cs:List Value) (o n o':Nat) (h:o+n=o'):cs.drop o=(cs.drop o).take n++cs.drop o':=by
 rw [<- h,<- Un,JQ]
end
theorem cC (t n:Nat) (h:Tryz.prog.cellsOf t=n):Tryz.prog.cellsOf t=n:=h
theorem zfc {H:Type} {enc:TypeId×Value->H} {a:Assume} {C:Checked} {os:Os} {f:FuncId} {fn:Func} {s:ChangeSpec} {conds:List PathCond} {apart fresh handsOn again:Bool} {X:Wd->Array Value->Prop}
  (hX:∀ (w w':Wd) (args:Array Value),w.heap=w'.heap->X w args->X w' args)
  (own:ownKnob C.prog.godebug=none) (started:os.Started) (noInit:C.prog.inits.idxOf? f=none) (hfn:C.prog.funcs[f]?=some fn)
  (witness:∃ (w:Wd) (tape:Tape) (i:Input),w.os=os/\(w.forCall tape i).Shaped C.prog/\i.vars=[]/\Input.okWide C.prog (w.forCall tape i) .any w.heap.size f i /\
   ((s.pre enc C.prog fn conds apart (w.forCall tape i).memory i.args/\X (w.forCall tape i).memory i.args)/\sizedMet enc C.prog fn (OpenSpec.ofChange s) apart (w.forCall tape i).memory i.args)/\a.holds C.prog (lone (Frame.enter C.prog f i.args .normal) [] (w.forCall tape i)))
  (contract:∀ (W:Wd) (base:Nat) (args:Array Value) (ds gs:List (DataW H)) (before:List MemPlace),
   (∀ (j:Nat) t v,fn.params[j]?=some t->args[j]?=some v->Value.okWide C.prog W .any base t v) ->
   DataW.Whole enc C.prog fn.params.toList s.vars apart W args.toList ds gs before->X W args->W.ShapedOpen C.prog ->
   (∃ ds gs before,DataW.Whole enc C.prog fn.params.toList (OpenSpec.ofChange s).vars apart W args.toList ds gs before/\∀ n∈DataW.weightsEach C.prog (fn.params.toList++(OpenSpec.ofChange s).bare.plain.varTypes C.prog) (ds++gs),n<=reachBytes) ->
   Calls C.prog f args W fun e W'=>∃ v,e = .returned v/\s.post enc C.prog fn apart fresh handsOn again W args v W') :
  ReturnsInHanded a C os f .any (fun w args=>(s.pre enc C.prog fn conds apart w args/\X w args)/\sizedMet enc C.prog fn (OpenSpec.ofChange s) apart w args) (s.post enc C.prog fn apart fresh handsOn again):=by
 refine returnsInHanded_of_calls own started noInit witness ?_;intro w tape i _ hsh _ hok hpre hholds;obtain⟨_,_,_,fn',hfn',_,_,_,_,hval⟩:=hok;have e:fn'=fn:=Ug (hfn'.symm.trans hfn);subst e;obtain⟨⟨⟨ds,gs,before,hw,hc⟩,hx⟩,hz⟩:=hpre;have hw':=DataW.Whole.of_heap (w':=w.forCall tape i) (by rfl) hw;obtain⟨_,ds2,gs2,before2,hw2,hall⟩:=hz;refine (contract (w.forCall tape i) w.heap.size i.args ds gs before hval hw' (hX _ _ _ (by rfl) hx) hsh ⟨ds2,gs2,before2,DataW.Whole.of_heap (w':=w.forCall tape i) (by rfl) hw2,fun n hn=>dT (Qj.1 hall n hn)⟩).mono fun e W' ⟨v,he,hp⟩=>?_;subst he;exact ChangeSpec.post_blind hp
theorem zht {H:Type}:∀ {a b:List UInt8},a.map (fun b=>(DataW.lit (.int .u8 b.toNat):DataW H))=b.map (fun b=>DataW.lit (.int .u8 b.toNat))->a=b
 | [],[],_=>rfl
 | [],_::_,h=>by cases h
 | _::_,[],h=>by cases h
 | x::a,y::b,h=>by
  simp only [UF,QN,QJ,UH,Gw] at h;rw [zht h.2,Uh.1 (by omega:x.toNat=y.toNat)]
set_option linter.unusedSectionVars false
section
variable {H:Type} {enc:TypeId×Value->H} {P:Program} {w:Wd} {base:Nat} {spare:Nat->Bool} {held:Bool} {fuel:Nat} {t:TypeId} {cs:List Value} {x:DataW H×List MemPlace}
theorem zhj {n:Nat} {e:TypeId} (ht:P.underlying t=some (.array n e)) (he:P.underlying e=some .string) (hc:P.cellsOf e=1) (hn:P.cellsOf t=n)
  (h:DataW.trod enc P w base spare held fuel t cs=some x):∃ ls:List (List UInt8),ls.length=n/\cs=ls.map zu/\x.1 = .agg (ls.map fun b => .lit (.string b)):=by
 obtain⟨xs,m,rfl,rfl,hl,hx,hel⟩:=DataW.trod_array ht h;rw [hn] at hl;have each:∀ i (h:i<n),∃ b:List UInt8,cs[i]?=some (zu b)/\xs[i]?.map (·.1)=some (.lit (.string b)):=fun i hi=>by
  have h1:=hel i hi;rw [hc,gE (by omega)] at h1;obtain⟨s,h2,h3,_⟩:=DataW.trod_string he h1;have es:Value.string s=zu s.data.toList:=by unfold zu bs;cases s;rfl
  refine⟨s.data.toList,?_,by rw [gE (by omega),Uf,h3]⟩;have:((cs.drop (i*1)).take 1)[0]?=some (zu s.data.toList):=by rw [h2,es];rfl
  simpa using this
 have:∀ k,k<=n->∃ ls:List (List UInt8),ls.length=k/\cs.take k=ls.map zu/\(xs.take k).map (·.1)=ls.map fun b => .lit (.string b):=by
  intro k
  induction k with
  | zero=>exact fun _=>⟨[],rfl,by simp,by simp⟩
  | succ k ih =>
   intro hk;obtain⟨ls,h1,h2,h3⟩:=ih (by omega);obtain⟨b,h4,h5⟩:=each k (by omega);have hk1:k<cs.length:=by omega
   have hk2:k<xs.length:=by omega
   rw [gE hk1] at h4;rw [gE hk2] at h5;refine⟨ls++[b],by simp [h1],?_,?_⟩
   ·rw [tsg hk1,h2,Ug h4];simp
   ·rw [tsg hk2,QT,h3];simp at h5;simp [h5]
 obtain⟨ls,h1,h2,h3⟩:=this n (Ge _);rw [JE (by omega)] at h2 h3;exact⟨ls,h1,h2,by rw [<- h3]⟩
theorem zg3:∀ {a b:List (List UInt8)},(a.map fun b=>(DataW.lit (.string b):DataW Unit))=(b.map fun b => .lit (.string b))->a=b
 | [],[],_=>rfl
 | [],_::_,h=>by cases h
 | _::_,[],h=>by cases h
 | x::r,y::t,h=>by
  simp only [UF,QN,QJ,Lit.string.injEq] at h;rw [h.1,zg3 h.2]
def zpq:List Int:=[0,0,1,2,3,4,0,0,0,0]
theorem zqy {W:Wd} (h1:zw W ⟨3,0,none⟩ (qg.map zu)) (h2:zw W ⟨1,0,none⟩ (zpq.map i64)) (h3:zw W ⟨2,0,none⟩ (jY.map zu)) (h4:zw W ⟨0,0,none⟩ (zfn.map i64)) (h5:GlobC W) (h6:Tz64M W) (h7:Tz32M W):GlobA W:=by
 refine⟨⟨h1,h2,h3,h4,?_⟩,⟨h5,h6,h7⟩⟩;have h0:=h1 0 _ rfl;unfold World.cell? at h0
 split at h0
 ·rename_i hb;exact hlt hb
 ·cases h0
end
theorem zhq {α:Type} (d:α) (f:α->Value) (n:Nat) (l:List α) (h:l.length=n):l.map f=(List.range n).map fun i=>f (l.getD i d):=by
 apply KQ;intro i;rw [KU,KU];by_cases hi:i<n
 ·rw [Kg hi,gE (by omega),Uf,Uf,gDe,gE (by omega)];rfl
 ·rw [JJ (by omega),JJ (by rw [KV];omega)];rfl
theorem zgu {α:Type} (f:α->Value):∀ l:List α,l.flatMap (fun x=>[f x])=l.map f
 | []=>rfl
 | a::l=>by rw [KS,zgu f l];rfl
theorem flatMap_map {α:Type} (f:α->Value):∀ l:List (List α),l.flatMap (fun x=>x.map f)=l.flatten.map f
 | []=>rfl
 | a::l=>by rw [KS,flatMap_map f l,List.flatten_cons,QT]
section
variable {H:Type} {enc:TypeId×Value->H} {w:Wd} {base:Nat} {spare:Nat->Bool} {held:Bool}
theorem zpW:Opens enc PG w base spare held 158 fun cs=>∃ e:Ev,True/\cs=evE.enc e:=fun fuel cs x h=>by
 obtain⟨xs,m,rfl,rfl,hl,hx,hel⟩:=KK Tryz.underlying158 h;rw [cC 158 7 (by kernel_rfl)] at hl;obtain⟨b0,e0⟩:=Opens.field (o:=0) (i:=0) hel hx rfl rfl (cC 3 1 (by kernel_rfl)) (ziD Tryz.underlying3);obtain⟨b1,e1⟩:=Opens.field (o:=1) (i:=1) hel hx rfl rfl zd9 (zcT Tryz.underlying5);obtain⟨b2,e2⟩:=Opens.field (o:=2) (i:=2) hel hx rfl rfl zd9 (zcT Tryz.underlying5);obtain⟨b3,e3⟩:=Opens.field (o:=3) (i:=3) hel hx rfl rfl zd9 (zcT Tryz.underlying5);obtain⟨b4,e4⟩:=Opens.field (o:=4) (i:=4) hel hx rfl rfl zd9 (zcT Tryz.underlying5);obtain⟨b5,e5⟩:=Opens.field (o:=5) (i:=5) hel hx rfl rfl zd9 (zcT Tryz.underlying5);obtain⟨b6,e6⟩:=Opens.field (o:=6) (i:=6) hel hx rfl rfl zd9 (zcT Tryz.underlying5);refine⟨⟨b0,b1,b2,b3,b4,b5,b6⟩,trivial,?_⟩;have h0:cs=cs.drop 0:=rfl;have h9:cs.drop 7=[]:=JA (by omega);rw [h0,cut cs 0 1 1 rfl,cut cs 1 1 2 rfl,cut cs 2 1 3 rfl,cut cs 3 1 4 rfl,cut cs 4 1 5 rfl,cut cs 5 1 6 rfl,cut cs 6 1 7 rfl,e0,e1,e2,e3,e4,e5,e6,h9];rfl
theorem zbU:Opens enc PG w base spare held 30 fun cs=>∃ r:RelD,zG r.to/\cs=zd r:=fun fuel cs x h=>by
 obtain⟨xs,m,rfl,rfl,hl,hx,hel⟩:=KK Tryz.underlying30 h;rw [cC 30 49 (by kernel_rfl)] at hl;obtain⟨n,e0⟩:=Opens.field (o:=0) (i:=0) hel hx rfl rfl (cC 3 1 (by kernel_rfl)) (ziD Tryz.underlying3);obtain⟨bs,h1,h2,e1⟩:=Opens.field (o:=1) (i:=1) hel hx rfl rfl (cC 28 48 (by kernel_rfl)) (ziE (β:=Nat) 0 (f:=fun n=>[s64 n]) (Q:=fun n=>n<18446744073709551616) (n:=48) (sz:=1) Tryz.underlying28 (by kernel_rfl) (by kernel_rfl) (zon Tryz.underlying27));refine⟨⟨n,fun i=>bs.getD i 0⟩,fun i hi=>?_,?_⟩
 ·show bs.getD i 0<2^64;rw [gDe,gE (by omega)];exact h2 _ (gM _)
 have h0:cs=cs.drop 0:=rfl;have h9:cs.drop 49=[]:=JA (by omega);rw [h0,cut cs 0 1 1 rfl,cut cs 1 48 49 rfl,e0,e1,h9,zgu,zhq 0 s64 48 bs h1,QM];rfl
theorem zkt:Opens enc PG w base spare held 35 fun cs=>∃ (f g:Nat->UInt8),cs=seg 32 (fun i=>u8 (f i))++seg 6 (fun i=>u8 (g i)):=fun fuel cs x h=>by
 obtain⟨xs,m,rfl,rfl,hl,hx,hel⟩:=KK Tryz.underlying35 h;rw [cC 35 38 (by kernel_rfl)] at hl;have row:Opens enc PG w base spare held 31 fun cs=>∃ bs:List UInt8,bs.length=8/\cs=bs.map u8:=ziC Tryz.underlying31 Tryz.underlying5 zd9 (cC 31 8 (by kernel_rfl));obtain⟨bss,h1,h2,e0⟩:=Opens.field (o:=0) (i:=0) hel hx rfl rfl (cC 32 32 (by kernel_rfl)) (ziE (β:=List UInt8) [] (f:=fun bs=>bs.map u8) (Q:=fun bs=>bs.length=8) (n:=4) (sz:=8) Tryz.underlying32 (by kernel_rfl) (by kernel_rfl) row);obtain⟨ms,h3,e1⟩:=Opens.field (o:=32) (i:=1) hel hx rfl rfl (cC 33 6 (by kernel_rfl)) (ziC Tryz.underlying33 Tryz.underlying5 zd9 (cC 33 6 (by kernel_rfl)));have hfl:bss.flatten.length=32:=by
  match bss,h1 with
  | [a,b,c,d],_ =>
   have:=h2 a (by simp);have:=h2 b (by simp);have:=h2 c (by simp);have:=h2 d (by simp);simp only [List.flatten_cons,List.flatten_nil,lap,QR];omega
 refine⟨fun i=>bss.flatten.getD i 0,fun i=>ms.getD i 0,?_⟩;have h0:cs=cs.drop 0:=rfl;have h9:cs.drop 38=[]:=JA (by omega);rw [h0,cut cs 0 32 32 rfl,cut cs 32 6 38 rfl,e0,e1,h9,flatMap_map,zhq 0 u8 32 _ hfl,zhq 0 u8 6 ms h3,QM];rfl
theorem ztY {α:Type} {E:Enc α} {p:OA} {l:List α} {b o:Nat} (h1:l.length=0\/p=some ⟨b,o,none⟩) (h2:∀ i (hi:i<l.length),b<w.heap.size/\zw w ⟨b,o+i*E.sz,none⟩ (E.enc l[i])):SlR E w p l:=by
 rcases h1 with h | h
 ·exact .inl (Jf h)
 ·by_cases h0:l=[]
  ·exact .inl h0
  ·have hl:=List.length_pos_iff.2 h0;exact .inr ⟨b,o,h,(h2 0 hl).1,fun i hi=>(h2 i hi).2⟩
theorem zl4:Opens enc PG w base spare held 37 fun cs=>∃ (x:ExD) (q:OA) (c:Nat),(SlR evE w q x.ev/\WX x)/\cs=exC x q c:=fun fuel cs x h=>by
 obtain⟨xs,m,rfl,rfl,hl,hx,hel⟩:=KK Tryz.underlying37 h;rw [cC 37 333 (by kernel_rfl)] at hl;obtain⟨q,c,l,e0,_,_,_,b,o,hp,hc⟩:=Opens.field (o:=0) (i:=0) hel hx rfl rfl (cC 25 1 (by kernel_rfl)) (zpV (β:=Ev) ev0 (f:=evE.enc) (Q:=fun _=>True) (sz:=7) (by decide) Tryz.underlying25 (by kernel_rfl) zpW);have c49:=cC 30 49 (by kernel_rfl);obtain⟨r1,w1,e1⟩:=Opens.field (o:=1) (i:=1) hel hx rfl rfl c49 zbU;obtain⟨r2,w2,e2⟩:=Opens.field (o:=50) (i:=2) hel hx rfl rfl c49 zbU;obtain⟨r3,w3,e3⟩:=Opens.field (o:=99) (i:=3) hel hx rfl rfl c49 zbU;obtain⟨r4,w4,e4⟩:=Opens.field (o:=148) (i:=4) hel hx rfl rfl c49 zbU;obtain⟨r5,w5,e5⟩:=Opens.field (o:=197) (i:=5) hel hx rfl rfl c49 zbU;obtain⟨r6,w6,e6⟩:=Opens.field (o:=246) (i:=6) hel hx rfl rfl c49 zbU;obtain⟨f,g,e7⟩:=Opens.field (o:=295) (i:=7) hel hx rfl rfl (cC 35 38 (by kernel_rfl)) zkt;refine⟨⟨l,r1,r2,r3,r4,r5,r6,f,g⟩,q,c,⟨ztY hp hc,⟨w1,w2,w3,w4,w5,w6⟩⟩,?_⟩;have h0:cs=cs.drop 0:=rfl;have h9:cs.drop 333=[]:=JA (by omega);rw [h0,cut cs 0 1 1 rfl,cut cs 1 49 50 rfl,cut cs 50 49 99 rfl,cut cs 99 49 148 rfl,cut cs 148 49 197 rfl,cut cs 197 49 246 rfl,cut cs 246 49 295 rfl,cut cs 295 38 333 rfl,e0,e1,e2,e3,e4,e5,e6,e7,h9,QM];rfl
theorem zl5 {a:Array Value} {d:DataW H} {p:List MemPlace} (h:DataW.Trod enc PG w base spare held 37 (.agg a) d p):∃ (x:ExD) (q:OA) (c:Nat),Value.agg a = .agg (exC x q c).toArray/\(SlR evE w q x.ev/\WX x):=by
 obtain⟨fuel,h⟩:=h;obtain⟨x,q,c,hr,hc⟩:=zl4 _ _ _ h;have:a.toList=exC x q c:=hc;exact⟨x,q,c,by rw [<- this],hr⟩
end
theorem zop {P:Program} {w:Wd} {r:Reach} {base:Nat} {t:TypeId} {v:Value} (ht:P.underlying t=some (.int .u8)) (h:Value.okWide P w r base t v):∃ b:UInt8,v=u8 b:=by
 unfold Value.okWide at h;rw [ht] at h
 cases v with
 | int k n =>
  have h1:k = .u8/\IntKind.has .u8 n:=by
   simp only [Cell.okWide,Cell.ok,ht] at h;obtain⟨rfl,h⟩:=h;exact⟨rfl,h⟩
  obtain⟨rfl,h2⟩:=h1;have h3:0<=n/\n<=255:=⟨by have:=h2.1;simpa [IntKind.min,IntKind.signed,IntKind.bits] using this,by have:=h2.2;simpa [IntKind.max,IntKind.signed,IntKind.bits] using this⟩;have e:((UInt8.ofNat n.toNat).toNat:Int)=n:=by
   rw [KH];omega
  exact⟨UInt8.ofNat n.toNat,by rw [u8,e]⟩
 | _=>simp_all [Cell.okWide,Cell.ok]
structure GlobL11 (W:Wd):Prop where
 t32:Tz32M W
 t64:Tz64M W
 needs:GlobC W
 cnd:zw W ⟨0,0,none⟩ (zfn.map i64)
 cst:zw W ⟨1,0,none⟩ (zpq.map i64)
 csg:zw W ⟨2,0,none⟩ (jY.map zu)
 cop:zw W ⟨3,0,none⟩ (qg.map zu)
abbrev zak : List (String × DataW Unit) := [("math/bits.deBruijn32tab", Rows.laid_math_bits_deBruijn32tab), ("math/bits.deBruijn64tab", Rows.laid_math_bits_deBruijn64tab), ("seisin/check.needs", Rows.laid_seisin_check_needs), ("seisin/cat.needs", Rows.laid_seisin_cat_needs), ("seisin/cat.strength", Rows.laid_seisin_cat_strength), ("seisin/cat.signs", Rows.laid_seisin_cat_signs), ("seisin/cat.openers", Rows.laid_seisin_cat_openers)]
theorem q7 {W:Wd} (h:laidMetH PG zak W) (hsh:W.ShapedOpen PG):GlobL11 W:=by
 have h0:laidMet PG zak W:=h;have h1:=h0.tail;have h2:=h1.tail;have h3:=h2.tail;have h4:=h3.tail;have h5:=h4.tail;have h6:=h5.tail;have t32:Tz32M W:=by
  obtain⟨ps,⟨g',t',cs,fuel,p,q,hg',ht',hv,hd,_,_⟩,_⟩:=h0
  obtain rfl := Ug ((show Tryz.prog.globalNamed "math/bits.deBruijn32tab" = some 9 by kernel_rfl).symm.trans hg')
  obtain rfl:=Ug ((show (Tryz.prog.globals[9]?).map (·.type)=some 369 by kernel_rfl).symm.trans ht');obtain⟨bs,h1,h2,h3⟩:=zfj Tryz.underlying369 Tryz.underlying5 (by kernel_rfl) (by kernel_rfl) hd;have hbs:bs=zij:=by
   have e:(Rows.laid_math_bits_deBruijn32tab:DataW Unit) = .agg (zij.map fun b => .lit (.int .u8 b.toNat)):=rfl;exact zht (UB (h3.symm.trans e))
  subst hbs;refine qQ fun i v hvv=>?_;have hc:=Ui hg' hv i;rw [<- hvv,<- h2];simpa using hc
 have t64:Tz64M W:=by
  obtain⟨ps,⟨g',t',cs,fuel,p,q,hg',ht',hv,hd,_,_⟩,_⟩:=h1
  obtain rfl := Ug ((show Tryz.prog.globalNamed "math/bits.deBruijn64tab" = some 4 by kernel_rfl).symm.trans hg')
  obtain rfl:=Ug ((show (Tryz.prog.globals[4]?).map (·.type)=some 299 by kernel_rfl).symm.trans ht');obtain⟨bs,h1,h2,h3⟩:=zfj Tryz.underlying299 Tryz.underlying5 (by kernel_rfl) (by kernel_rfl) hd;have hbs:bs=zii:=by
   have e:(Rows.laid_math_bits_deBruijn64tab:DataW Unit) = .agg (zii.map fun b => .lit (.int .u8 b.toNat)):=rfl;exact zht (UB (h3.symm.trans e))
  subst hbs;refine qQ fun i v hvv=>?_;have hc:=Ui hg' hv i;rw [<- hvv,<- h2];simpa using hc
 have needs:GlobC W:=by
  obtain⟨ps,⟨g',t',cs,fuel,p,q,hg',ht',hv,hd,_,_⟩,_⟩:=h2
  obtain rfl := Ug ((show Tryz.prog.globalNamed "seisin/check.needs" = some 8 by kernel_rfl).symm.trans hg')
  obtain rfl:=Ug ((show (Tryz.prog.globals[8]?).map (·.type)=some 359 by kernel_rfl).symm.trans ht');obtain⟨bs,h1,h2,h3⟩:=zfj Tryz.underlying359 Tryz.underlying5 (by kernel_rfl) (by kernel_rfl) hd;have hbs:bs=zfo:=by
   match bs,h1 with
   | [b0,b1,b2,b3,b4,b5,b6,b7,b8],_ =>
    simp only [Rows.laid_seisin_check_needs,UF,UN,DataW.agg.injEq,QN,QJ,UH,Gw,Gr] at h3;simp only [zfo,QN,Gr];obtain⟨a0,a1,a2,a3,a4,a5,a6,a7,a8⟩:=h3;refine⟨?_,?_,?_,?_,?_,?_,?_,?_,?_⟩ <;> (apply Uh.1;simp;omega)
  subst hbs;refine qQ fun i v hvv=>?_;have hc:=Ui hg' hv i;rw [<- hvv,<- h2];simpa using hc
 have cnd:zw W ⟨0,0,none⟩ (zfn.map i64):=by
  obtain⟨ps,⟨g',t',cs,fuel,p,q,hg',ht',hv,hd,_,_⟩,_⟩:=h3
  obtain rfl := Ug ((show Tryz.prog.globalNamed "seisin/cat.needs" = some 0 by kernel_rfl).symm.trans hg')
  obtain rfl:=Ug ((show (Tryz.prog.globals[0]?).map (·.type)=some 180 by kernel_rfl).symm.trans ht');obtain⟨bs,h1,h2,h3⟩:=zm7 Tryz.underlying180 Tryz.underlying3 (by kernel_rfl) (by kernel_rfl) hd;have hbs:bs=zfn:=by
   match bs,h1 with
   | [b0,b1,b2,b3,b4,b5,b6,b7,b8,b9],_ =>
    simp only [Rows.laid_seisin_cat_needs,UF,UN,DataW.agg.injEq,QN,QJ,UH,Gw,Gr] at h3;simp only [zfn,QN,Gr];obtain⟨a0,a1,a2,a3,a4,a5,a6,a7,a8,a9⟩:=h3;exact⟨a0.symm,a1.symm,a2.symm,a3.symm,a4.symm,a5.symm,a6.symm,a7.symm,a8.symm,a9.symm⟩
  subst hbs;refine qQ fun i v hvv=>?_;have hc:=Ui hg' hv i;rw [<- hvv,<- h2];simpa using hc
 have cst:zw W ⟨1,0,none⟩ (zpq.map i64):=by
  obtain⟨ps,⟨g',t',cs,fuel,p,q,hg',ht',hv,hd,_,_⟩,_⟩:=h4
  obtain rfl := Ug ((show Tryz.prog.globalNamed "seisin/cat.strength" = some 1 by kernel_rfl).symm.trans hg')
  obtain rfl:=Ug ((show (Tryz.prog.globals[1]?).map (·.type)=some 180 by kernel_rfl).symm.trans ht');obtain⟨bs,h1,h2,h3⟩:=zm7 Tryz.underlying180 Tryz.underlying3 (by kernel_rfl) (by kernel_rfl) hd;have hbs:bs=zpq:=by
   match bs,h1 with
   | [b0,b1,b2,b3,b4,b5,b6,b7,b8,b9],_ =>
    simp only [Rows.laid_seisin_cat_strength,UF,UN,DataW.agg.injEq,QN,QJ,UH,Gw,Gr] at h3;simp only [zpq,QN,Gr];obtain⟨a0,a1,a2,a3,a4,a5,a6,a7,a8,a9⟩:=h3;exact⟨a0.symm,a1.symm,a2.symm,a3.symm,a4.symm,a5.symm,a6.symm,a7.symm,a8.symm,a9.symm⟩
  subst hbs;refine qQ fun i v hvv=>?_;have hc:=Ui hg' hv i;rw [<- hvv,<- h2];simpa using hc
 have csg:zw W ⟨2,0,none⟩ (jY.map zu):=by
  obtain⟨ps,⟨g',t',cs,fuel,p,q,hg',ht',hv,hd,_,_⟩,_⟩:=h5
  obtain rfl := Ug ((show Tryz.prog.globalNamed "seisin/cat.signs" = some 2 by kernel_rfl).symm.trans hg')
  obtain rfl:=Ug ((show (Tryz.prog.globals[2]?).map (·.type)=some 185 by kernel_rfl).symm.trans ht');obtain⟨bs,h1,h2,h3⟩:=zhj Tryz.underlying185 Tryz.underlying9 (by kernel_rfl) (by kernel_rfl) hd;have hbs:bs=jY:=zg3 (UB ((show (DataW.agg (jY.map fun b => .lit (.string b)):DataW Unit)=_ from h3).symm.trans rfl).symm) |>.symm;subst hbs;refine qQ fun i v hvv=>?_;have hc:=Ui hg' hv i;rw [<- hvv,<- h2];simpa using hc
 have cop:zw W ⟨3,0,none⟩ (qg.map zu):=by
  obtain⟨ps,⟨g',t',cs,fuel,p,q,hg',ht',hv,hd,_,_⟩,_⟩:=h6
  obtain rfl := Ug ((show Tryz.prog.globalNamed "seisin/cat.openers" = some 3 by kernel_rfl).symm.trans hg')
  obtain rfl:=Ug ((show (Tryz.prog.globals[3]?).map (·.type)=some 67 by kernel_rfl).symm.trans ht');obtain⟨bs,h1,h2,h3⟩:=zhj Tryz.underlying67 Tryz.underlying9 (by kernel_rfl) (by kernel_rfl) hd;have hbs:bs=qg:=zg3 (UB ((show (DataW.agg (qg.map fun b => .lit (.string b)):DataW Unit)=_ from h3).symm.trans rfl).symm) |>.symm;subst hbs;refine qQ fun i v hvv=>?_;have hc:=Ui hg' hv i;rw [<- hvv,<- h2];simpa using hc
 exact⟨t32,t64,needs,cnd,cst,csg,cop⟩
def znd:DataW Unit->List Value
 | .lit (.int k n)=>[.int k n]
 | .lit (.string s)=>[.string ⟨s.toArray⟩]
 | _=>[]
def zdf:DataW Unit->List Value
 | .agg ps=>ps.flatMap znd
 | x=>znd x
def zc7 (h:Array Obj) (g:Nat) (cs:List Value):Array Obj:=h.modify g fun
 | .cells _ t frozen => .cells cs.toArray t frozen
 | o=>o
def zsl (h:Array Obj):Array Obj :=
 let h1:=zc7 h 9 (zdf Rows.laid_math_bits_deBruijn32tab)
 let h2:=zc7 h1 4 (zdf Rows.laid_math_bits_deBruijn64tab)
 let h3:=zc7 h2 8 (zdf Rows.laid_seisin_check_needs)
 let h4:=zc7 h3 0 (zdf Rows.laid_seisin_cat_needs)
 let h5:=zc7 h4 1 (zdf Rows.laid_seisin_cat_strength)
 let h6:=zc7 h5 2 (zdf Rows.laid_seisin_cat_signs)
 zc7 h6 3 (zdf Rows.laid_seisin_cat_openers)
noncomputable def zfx (os:Os):Wd :=
 { World.holding PG os ⟨#[],#[],[]⟩ with heap:=zsl (World.holding PG os ⟨#[],#[],[]⟩).heap }
theorem zf4 (os:Os) (args:Array Value):laidMetH PG zak ((zfx os).forCall (fun _ _=>0) ⟨#[],args,[]⟩).memory:=by
 show laidMet PG zak _;exact laidMet_of_run' 8 (by kernel_rfl) (by kernel_rfl)
end Go.Proofs.YtnadlhpkpnfmbaaGreatDoor
