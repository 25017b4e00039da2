/- Contracts of functions, and plain facts, for the law that the last text of this claim proves. -/
import Derived.Test.YtnadlhpkpnfmbaaGreatDoorA7
import Derived.Test.YtnadlhpkpnfmbaaGreatDoorA5
import Derived.Test.YtnadlhpkpnfmbaaGreatDoorA1
import Derived.Test.YtnadlhpkpnfmbaaGreatDoorA2
import Derived.Test.YtnadlhpkpnfmbaaGreatDoorRows
import Derived.ProofKit
import Derived.OpenShut
import Derived.LaidLaws
import Derived.Below
import Derived.HandedShaped
import Derived.KernelRfl
import Derived.WalkKit
import Derived.ChangeOld
import Derived.SevenTiedAt
import Derived.LaidHandle
import Derived.Stop.LaidErr
import Derived.Lib.LaidTab
import Derived.SizedLaws
import Derived.Test.YtnadlhpkpnfmbaaGreatDoorA6
import Derived.Test.YtnadlhpkpnfmbaaGreatDoorA4
set_option linter.unusedSimpArgs false
set_option linter.unusedVariables false
namespace Go.Proofs.YtnadlhpkpnfmbaaGreatDoor
open Go.Vc Go.RowKit Go.Sei
abbrev zbL (p:Prg) (V:List UInt8):List MixD:=zmP p.init (p.threads.map (zaE V))
def zck (m:MixD):List ExD:=if cntR m 1=0 then [] else zhg m
abbrev zef (p:Prg) (V:List UInt8):List ExD:=(zbL p V).flatMap zck
structure CandQ (p:Prg) (n:Nat) (V:List UInt8) (most:Nat):Prop where
 ok:zjr p=true
 il:p.locs.length=p.init.length
 i1:1<=p.init.length
 i6:p.init.length<=6
 is:srt8 p.init=true
 vals:zkV p.threads n (ded p.init)=some V
 v1:1<=V.length
 v12:V.length<=12
 vs:srt8 V=true
 d12:(ded V).length<=12
 t4:p.threads.length<=4
 th:∀ l∈p.threads,ThrQ V l
 all:∀ k,k<=p.threads.length->zeu ((p.threads.take k).map fun l=>(zaE V l).length)<=4096
 pb:∀ l∈p.threads,∀ P∈zaE V l,PathB p.init.length P
 some:∀ ds∈zeq ((p.threads.map (zaE V)).map List.length),(mixR p.init (zex (p.threads.map (zaE V)) ds)).isSome=true
 ml:(zbL p V).length<=5000
 mb:∀ m∈zbL p V,MixB m
 m20:most<=20000
 cnt:((zbL p V).map fun m=>cntR m 20001).sum<=most
 len:(zef p V).length<=30000
theorem zoc {l:List Nat} (k:Nat):(l.take k).sum<=l.sum:=by
 have:l.sum=(l.take k).sum+(l.drop k).sum:=by rw [<- List.sum_append,List.take_append_drop]
 omega
theorem zrf {m:MixD} {xs ys:List NatL} {lim:Nat} (h1:xs.map (·.1)=m.rs.map (·.2)) (h2:ys.map (·.1)=m.wr):cntF lim (xs.map (·.1)) (ys.map (·.1))=cntR m lim:=by
 rw [h1,h2];rfl
section
variable {w:World} {B n most:Nat} {pc:List Value} {p:Prg} {V:List UInt8}
theorem zrF (hB:B<=w.heap.size) (hP:PrgX B w pc p) (hG:GlobE w) (hQ:CandQ p n V most) :
  Calls Tryz.prog 46 #[.agg pc.toArray,i64 most] w fun e w'=>(∃ (xs:List exE3) (q:Option Addr) (c:Nat),e = .returned (.tuple #[.slice q xs.length c,i64 0])/\xs.map (·.1)=zef p V/\OwnS exE 37 w.heap.size w' q c xs/\∀ x∈xs,OwnS evE 158 w.heap.size w' x.2.1 x.2.2 x.1.ev)/\Bw w w':=by
 refine cofM 74 [.agg pc.toArray,i64 most] (.c .p (.s .p (.s .p (.s .p (.c .p (.s .p (.s .p (.c .p (.c .p (.c .p .p)))))))))) Tryz.func46 ?_;obtain⟨L,hL⟩:=nm (w.heap.size);have hpc:=hP.v.size;have hm20:=hQ.m20;refine⟨Unit,fun _=>⟨[(1,i64 most),(2,At0 L)],[]⟩,fun _ X=>X.heap[L]?=some (.cells pc.toArray 103 (0,0))/\L<X.heap.size/\Bw w X,⟨(),⟨.cons rfl (.cons (by rw [hL];rfl) .nil),rfl⟩,by rw [hL];exact hnew w _,by rw [hL];exact hlt (hnew w _),(zba w _)⟩,?_⟩;rintro _ X ⟨f0,sX,hbX⟩;refine brN (Kb (by omega)) (brN (Kb (by omega)) ⟨pc,hpc,zaa f0,hlt f0,cmo (znP (Jj hB hbX.size) (hP.v.below (hbX.mono hB)) (hG.c.below hbX)) ?_⟩);rintro e Y ⟨m,rfl,hm,hbY⟩;have hm0:m=0:=hm.2 hQ.ok;subst hm0;refine brF ?_;have hwY:=zst hbX hbY;have f0:=zab hbY f0;refine⟨pc,hpc,zaa f0,hlt f0,cmo (zpk (Jj hB hwY.size) (hP.below (hwY.mono hB)) (hG.below hwY) hQ.ok (fun l hl=>(hQ.th l hl).ex) (fun l hl=>(hQ.th l hl).l12) hQ.i1 (by have:=hQ.i6;omega) hQ.is hQ.vals) ?_⟩;rintro e Z ⟨⟨qv,cv,rfl,oV⟩,hbZ⟩;refine brF ?_;have hwZ:=zst hwY hbZ;have f0:=zab hbZ f0;clear hbX hbY hwY;obtain⟨V0,hV0⟩:=nm (V);refine⟨List MixX×Option Addr×Nat,fun s=>⟨[(1,i64 most),(8,.slice s.2.1 s.1.length s.2.2),(9,.bool true)],[]⟩,fun s U=>s.1.map (·.m)=zbL p V/\OwnS mixE 172 w.heap.size U s.2.1 s.2.2 s.1/\(∀ x∈s.1,NInM w.heap.size (fun k=>w.heap.size<=k) U x)/\Bw w U,?_,?_⟩
 ·refine cmo (zqv f0 (Jj hB hwZ.size) (hP.below (hwZ.mono hB)) hQ.il hQ.i6 (hG.below hwZ) oV.row hQ.v1 hQ.v12 hQ.vs hQ.d12 hQ.t4 hQ.th hQ.all hQ.pb hQ.some) ?_;rintro e U ⟨⟨ms,q,c,rfl,hms,oM,nM⟩,hbU⟩;exact⟨(ms,q,c),(cvE rfl rfl),hms,oM.lower hwZ.size,fun x hx=>(nM x hx).lower hwZ.size,(zst hwZ hbU)⟩
 clear oV hbZ hwZ f0;rintro⟨ms,q,c⟩ X ⟨hms,oM,nM,hbX⟩;dsimp only at hms oM nM ⊢;refine brF ?_;have hml:ms.length<=5000:=by have:=hQ.ml;rw [<- hms,Jc] at this;exact this
 have hmb:∀ x∈ms,MixB x.m:=fun x hx=>hQ.mb x.m (by rw [<- hms];exact JR.2 ⟨x,hx,rfl⟩);have hsum:(ms.map fun x=>cntR x.m 20001).sum<=most:=by
  have:=hQ.cnt;rw [<- hms,List.map_map] at this;exact this
 have htake:∀ k,((ms.take k).map fun x=>cntR x.m 20001).sum<=most:=fun k=>by
  have:=zoc (l:=ms.map fun x=>cntR x.m 20001) k;rw [<- List.map_take] at this;omega
 obtain⟨tot,htot⟩:=nm ((ms.map fun x=>cntR x.m 20001).sum);have cnt:∀ {Z:World} {k lim:Nat} (hk:k<ms.length),OwnS mixE 172 w.heap.size Z q c ms->(∀ x∈ms,NInM w.heap.size (fun k=>w.heap.size<=k) Z x)->1<=lim->lim<=100000->∃ b o,q=some ⟨b,o,none⟩/\Calls Tryz.prog 88 #[.pointer (some ⟨b,o+k*336,none⟩),i64 lim] Z fun e w'=>e = .returned (i64 (cntR ms[k].m lim:Nat))/\Z=w':=fun {Z k lim} hk oM nM h1 h2=>by
  obtain⟨b,o,hq,hb,hat⟩:=oM.row.at hk;have hx:=nM ms[k] (gM hk);have hb1:=hmb ms[k] (gM hk);have hxl:ms[k].xs.length=ms[k].m.rs.length:=by have:=congrArg List.length hx.e2;simpa using this
  have hyl:ms[k].ys.length=ms[k].m.wr.length:=by have:=congrArg List.length hx.e3;simpa using this
  refine⟨b,o,hq,?_⟩;have:=zq7 (lim:=lim) (r := .slice ms[k].p1 ms[k].m.rs.length ms[k].c1) (hat k hk) hx.r2.own.row hx.r3.own.row (fun y hy=>?_) (fun y hy=>?_) (by have:=hb1.rl;omega) (by have:=hb1.wl;omega) h1 h2
  ·rw [zrf hx.e2 hx.e3] at this;exact this
  ·have h3:y.1∈ms[k].m.rs.map (·.2):=by rw [<- hx.e2];exact JR.2 ⟨y,hy,rfl⟩
   obtain⟨r,hr,he⟩:=JR.1 h3;rw [<- he];exact (hb1.rs r hr).2.1
  ·have h3:y.1∈ms[k].m.wr:=by rw [<- hx.e3];exact JR.2 ⟨y,hy,rfl⟩
   have:=(hb1.wr _ h3).1;omega
 refine⟨Unit,fun _=>⟨[(8,.slice q ms.length c),(10,i64 tot)],[]⟩,fun _ Z=>X=Z,?_,?_⟩
 ·refine⟨Nat,fun k=>⟨[(1,i64 most),(8,.slice q ms.length c),(10,i64 (((ms.take k).map fun x=>cntR x.m 20001).sum:Nat)),(40,i64 ms.length),(41,i64 (k:Nat))],[]⟩,
   fun k Z=>k<=ms.length/\X=Z,fun k=>ms.length-k,0,(cvE rfl rfl),⟨Jh _,rfl⟩,?_⟩
  rintro k _ ⟨hk,rfl⟩;dsimp only;refine biE (fun hc=>?_) fun hc=>?_
  ·have hc:(k:Int)<(ms.length:Int):=dT hc;have hkl:k<ms.length:=by omega
   obtain⟨b,o,hq,hcall⟩:=cnt (lim:=20001) hkl oM nM (by decide) (by decide);have htk:((ms.take (k+1)).map fun x=>cntR x.m 20001).sum=((ms.take k).map fun x=>cntR x.m 20001).sum+cntR ms[k].m 20001:=by
    rw [tsg hkl,Jw,List.sum_append];show _+(cntR ms[k].m 20001+0)=_;rw [Nat.add_zero]
   have h1:=htake (k+1);subst hq;refine⟨k,rfl,hkl,cmo hcall ?_⟩;rintro e _ ⟨rfl,rfl⟩;refine⟨((((ms.take (k+1)).map fun x=>cntR x.m 20001).sum:Nat):Int),?_,?_⟩
   ·rw [htk,Int.natCast_add];exact zaj (by omega)
   exact brN (Kb (by omega)) (nxI (by omega) ⟨k+1,(cvE rfl rfl),⟨hkl,rfl⟩,zdc (by omega)⟩)
  ·have hc:¬ (k:Int)<(ms.length:Int):=dF hc;obtain rfl:k=ms.length:=by omega
   rw [JF,<- htot];exact⟨(),(cvE rfl rfl),rfl⟩
 rintro _ _ rfl;have hXs:=hbX.size;refine⟨Option Addr×Nat,fun s=>⟨[(8,.slice q ms.length c),(12,.slice s.1 0 s.2)],[]⟩,fun s Z=>OwnS exE 37 X.heap.size Z s.1 s.2 []/\Bw X Z,?_,?_⟩
 ·exact zeD (E:=exE) Tryz.underlying89 k37 rfl (by show _=333;exact zc9) rfl tot (by show 2416*tot<=_;omega) (by unfold maxLen;omega) fun Z oZ hbZ sZ=>⟨(some ⟨X.heap.size,0,none⟩,tot),(cvE rfl rfl),oZ,hbZ⟩
 rintro⟨p0,c0⟩ Y ⟨oY,hbY⟩;dsimp only at oY ⊢;refine⟨List exE3×Option Addr×Nat,fun s=>⟨[(12,.slice s.2.1 s.1.length s.2.2)],[]⟩,fun s Z=>s.1.map (·.1)=zef p V/\OwnS exE 37 X.heap.size Z s.2.1 s.2.2 s.1/\(∀ x∈s.1,OwnS evE 158 X.heap.size Z x.2.1 x.2.2 x.1.ev)/\Bw X Z,?_,?_⟩
 ·refine⟨Nat×List exE3×Option Addr×Nat,fun s=>⟨[(8,.slice q ms.length c),(12,.slice s.2.2.1 s.2.1.length s.2.2.2),(57,i64 ms.length),(58,i64 (s.1:Nat))],[]⟩,
   fun s Z=>s.1<=ms.length/\s.2.1.map (·.1)=(ms.take s.1).flatMap (fun x=>zck x.m)/\OwnS exE 37 X.heap.size Z s.2.2.1 s.2.2.2 s.2.1/\(∀ x∈s.2.1,OwnS evE 158 X.heap.size Z x.2.1 x.2.2 x.1.ev)/\Bw X Z,fun s=>ms.length-s.1,(0,[],p0,c0),
   (cvE rfl rfl),⟨Jh _,rfl,oY,fun x hx=>(by cases hx),hbY⟩,?_⟩
  clear oY hbY;rintro⟨k,outs,po,co⟩ Z ⟨hk,hou,oZ,nZ,hbZ⟩;dsimp only at hk hou oZ nZ ⊢;have hZs:=hbZ.size;have oMZ:OwnS mixE 172 w.heap.size Z q c ms:=oM.same fun a ha=>hbZ.block _ (zau oM ha).2.1;have nMZ:∀ x∈ms,NInM w.heap.size (fun k=>w.heap.size<=k) Z x:=fun x hx=>(nM x hx).same fun {α E T c q l} _ _ _ hr=>⟨hr.own.same fun a ha=>hbZ.block _ (zau hr.own ha).2.1,hr.inF⟩;refine biE (fun hc=>?_) fun hc=>?_
  ·have hc:(k:Int)<(ms.length:Int):=dT hc;have hkl:k<ms.length:=by omega
   obtain⟨b,o,hq,hcall⟩:=cnt (lim:=1) hkl oMZ nMZ (by decide) (by decide);obtain⟨x,hx⟩:∃ x,ms[k]=x:=⟨_,rfl⟩;have hxm:x∈ms:=by rw [<- hx];exact gM hkl
   have htk:(ms.take (k+1)).flatMap (fun x=>zck x.m)=(ms.take k).flatMap (fun x=>zck x.m)++zck x.m:=by
    rw [tsg hkl,List.flatMap_append,hx,Kj,Kk,Jk]
   rw [hx] at hcall;have hat:zav Z ⟨b,o+k*336,none⟩ (mixC x):=by
    obtain⟨b',o',hq',_,hat⟩:=oMZ.row.at hkl;rw [hq] at hq';have:=hat k hkl;simp only [Jf,Addr.mk.injEq,and_true] at hq';rw [<- hx,hq'.1,hq'.2];exact this
   have hbX2:b<X.heap.size:=(zau oM hq).2.1;subst hq;refine⟨k,rfl,hkl,cmo hcall ?_⟩;rintro e _ ⟨rfl,rfl⟩;refine biE (fun h=>?_) fun h=>?_
   ·have h:cntR x.m 1=0:=Int.ofNat.inj (dT h);have hc0:zck x.m=[]:=Kc h;rw [hc0,Jk] at htk;exact nxI (by omega) ⟨(k+1,outs,po,co),(cvE rfl rfl),⟨hkl,by rw [hou,htk],oZ,nZ,hbZ⟩,zdc (by omega)⟩
   have h:cntR x.m 1≠0:=fun e=>(dF h) (by rw [e];rfl);have hc1:zck x.m=zhg x.m:=JZ h;rw [hc1] at htk;refine⟨k,rfl,hkl,cmo zrk ?_⟩;rintro e U ⟨rfl,fU,sU,hbU⟩;have hxM:=nMZ x hxm;have hxB:=hmb x hxm;obtain⟨Rd,hRd⟩:∃ Rd:Nat->Prop,Rd=fun k=>k<X.heap.size\/k=Z.heap.size:=⟨_,rfl⟩;have ltX:∀ {α:Type} {E:Enc α} {T cc:Nat} {r:Option Addr} {ll:List α},RowIn E T w.heap.size (fun k=>w.heap.size<=k) X r cc ll->∀ a,r=some a->Rd a.block:=fun {α E T cc r ll} h a ha=>by rw [hRd];exact .inl (zau h.own ha).2.1
   have hX:=nM x hxm;have hM:MixM Rd U b (o+k*336) x.m x.q x.c x.p1 x.p2 x.p3 x.c1 x.c2 x.c3 x.xs x.ys:=by
    have r:∀ {α:Type} {E:Enc α} {T cc:Nat} {r:Option Addr} {ll:List α},RowIn E T w.heap.size (fun k=>w.heap.size<=k) Z r cc ll->SlR E U r ll:=fun {α E T cc r ll} h=>(h.own.below hbU).row;refine⟨zar hbU hat,r hxM.ev,fun e=>?_,r hxM.r1,hxM.e2,r hxM.r2,fun y hy=>r (hxM.n2 y hy),hxM.e3,r hxM.r3,fun y hy=>r (hxM.n3 y hy),by rw [hRd];exact .inl hbX2,ltX hX.ev,ltX hX.r1,ltX hX.r2,ltX hX.r3,fun y hy=>ltX (hX.n2 y hy),fun y hy=>ltX (hX.n3 y hy)⟩;rcases hxM.ev.own.inv with ⟨_,h,_⟩ | ⟨g,cur,h,_⟩
    ·exact h
    ·rw [e] at h;cases h
   have hRl:∀ k,Rd k->k<U.heap.size:=fun k hk=>by
    rw [hRd] at hk;omega
   have hTU:Tz64M U:=hG.t64.below (hbX.trans ((hbZ.trans (hbU.mono hZs)).mono hXs));have htz:=zcA hG.t64;have hI:=zrl hM fU (by rw [hRd];exact .inr rfl) hRl hTU (by rw [hRd];left;omega) hxB hxB.ev;have hln:outs.length+(zhg x.m).length<=30000:=by
    have h2:=hQ.len;have h3:(zef p V)=ms.flatMap (fun x=>zck x.m):=by
     show (zbL p V).flatMap zck=_;rw [<- hms,List.flatMap_map]
    rw [h3] at h2;have h4:ms.flatMap (fun x=>zck x.m)=(ms.take (k+1)).flatMap (fun x=>zck x.m)++(ms.drop (k+1)).flatMap (fun x=>zck x.m):=(by rw [<- List.flatMap_append,List.take_append_drop]);rw [h4,htk,<- hou,lap,lap,Jc] at h2;omega
   refine cmo (zjV (oZ.below hbU) (fun y hy=>(nZ y hy).below hbU) (by omega) hI (Jb _) (fun k hk=>⟨hRl k hk,rfl⟩) (fun k hk=>by rw [hRd] at hk;exact hk) fU (by omega) hln) ?_;rintro e T ⟨⟨new,pn,cn,rfl,hnew,oT,nT⟩,hbT⟩;exact nxI (by omega) ⟨(k+1,outs++new,pn,cn),(cvE rfl rfl),⟨hkl,by rw [Jw,hou,hnew,htk],oT,nT,(hbZ.trans (hbU.mono hZs)).trans hbT⟩,zdc (by omega)⟩
  ·have hc:¬ (k:Int)<(ms.length:Int):=dF hc;obtain rfl:k=ms.length:=by omega
   rw [JF] at hou;refine⟨(outs,po,co),(cvE rfl rfl),?_,oZ,nZ,hbZ⟩;rw [hou];show ms.flatMap _=(zbL p V).flatMap zck;rw [<- hms,List.flatMap_map]
 rintro⟨outs,po,co⟩ Z ⟨hou,oZ,nZ,hbZ⟩;exact⟨⟨outs,po,co,rfl,hou,oZ.lower hXs,fun x hx=>(nZ x hx).lower hXs⟩,hbX.trans (hbZ.mono hXs)⟩
end
def zqX (x:InsD):Bool:=(decide (x.op=1)&&decide (x.dst.toNat<8))||((decide (x.op=2)&&(!x.ar||decide (x.an.toNat<8)))||decide (x.op=7))
theorem zqW {x:InsD} (h:zqX x=true):ExOk x:=by
 unfold zqX at h;simp only [Kl,bAT,dE,Bool.not_eq_true'] at h;rcases h with ⟨h1,h2⟩ | ⟨h1,h2⟩ | h1
 ·exact .inl ⟨h1,h2⟩
 ·refine .inr (.inl ⟨h1,fun h=>?_⟩);rcases h2 with h2 | h2
  ·rw [h] at h2;cases h2
  ·exact h2
 ·exact .inr (.inr h1)
def zql (locs:Nat) (P:PathD):Bool :=
 decide (P.ev.length<=24)&&((P.ev.all fun e => !(decide (e.k=1)||decide (e.k=2))||decide (e.l.toNat<locs))&&((P.data.all fun p=>decide (p.1<P.ev.length)&&decide (p.2<P.ev.length))&&((P.ctrl.all fun p=>decide (p.1<P.ev.length)&&decide (p.2<P.ev.length))&&((P.rmw.all fun p=>decide (p.1<P.ev.length)&&decide (p.2<P.ev.length)) &&
  (decide (P.data.length<=100000)&&(decide (P.ctrl.length<=100000)&&decide (P.rmw.length<=100000)))))))
theorem zoz {locs:Nat} {P:PathD} (h:zql locs P=true):PathB locs P:=by
 unfold zql at h;simp only [bAT,Kl,dE,Je,Bool.not_eq_true',Bool.or_eq_false_iff,decide_eq_false_iff_not] at h;obtain⟨h1,h2,h3,h4,h5,h6,h7,h8⟩:=h;refine⟨h1,fun e he hk=>?_,h3,h4,h5,h6,h7,h8⟩;rcases h2 e he with h | h
 ·rcases hk with hk | hk
  ·exact (h.1 hk).elim
  ·exact (h.2 hk).elim
 ·exact h
def znD (p:Prg) (n:Nat) (V:List UInt8) (most:Nat):Bool :=
 zjr p&&(decide (p.locs.length=p.init.length)&&(decide (1<=p.init.length)&&(decide (p.init.length<=6)&&(srt8 p.init&&(decide (zkV p.threads n (ded p.init)=some V)&&(decide (1<=V.length)&&(decide (V.length<=12)&&(srt8 V&&(decide ((ded V).length<=12)&&(decide (p.threads.length<=4) &&
  ((p.threads.all fun l=>decide (l.length<=12)&&(l.all zqX&&(zbQ l 6&&decide ((zcJ l (ded V)).length<=4096)))) &&
   (((List.range (p.threads.length+1)).all fun k=>decide (zeu ((p.threads.take k).map fun l=>(zaE V l).length)<=4096)) &&
    ((p.threads.all fun l=>(zaE V l).all (zql p.init.length)) &&
     (((zeq ((p.threads.map (zaE V)).map List.length)).all fun ds=>(mixR p.init (zex (p.threads.map (zaE V)) ds)).isSome) &&
      (decide ((zbL p V).length<=5000)&&((zbL p V).all zqw&&(decide (most<=20000)&&(decide (((zbL p V).map fun m=>cntR m 20001).sum<=most)&&decide ((zef p V).length<=30000)))))))))))))))))))
theorem zpa {p:Prg} {n:Nat} {V:List UInt8} {most:Nat} (h:znD p n V most=true):CandQ p n V most:=by
 unfold znD at h;simp only [bAT,dE,Je,Jt] at h;obtain⟨h1,h2,h3,h4,h5,h6,h7,h8,h9,h10,h11,h12,h13,h14,h15,h16,h17,h18,h19,h20⟩:=h;exact⟨h1,h2,h3,h4,h5,h6,h7,h8,h9,h10,h11,fun l hl=>⟨(h12 l hl).1,fun x hx=>zqW ((h12 l hl).2.1 x hx),(h12 l hl).2.2.1,(h12 l hl).2.2.2⟩,fun k hk=>h13 k (by omega),fun l hl P hP=>zoz (h14 l hl P hP),h15,h16,fun m hm=>zqx (h17 m hm),h18,h19,h20⟩
def stI (l v m:UInt8):InsD:=⟨2,0,l,false,v,false,0,0,m,0⟩
def exvB (x:ExD):Bool:=decide (x.ev.length<=20)&&(wrdB x.po&&(wrdB x.rf&&(wrdB x.co&&(wrdB x.dt&&(wrdB x.ct&&wrdB x.rm)))))
abbrev lnA (s:Bs):List LineD:=(zbe s).1.getD []
def txA2:Bs:=[101,109,112,116,121,32,91,82,93,59,112,111,32,97,115,32,120]
def txA4:Bs:=[101,109,112,116,121,32,99,111,32,97,115,32,120]
def txA5:Bs:=[108,101,116,32,97,32,61,32,98]
def txA6:Bs:=[108,101,116,32,112,111,32,61,32,114,102]
def txA7:Bs:=[101,109,112,116,121,32,112,111]
def prA2:Bs:=[101,109,112,116,121,32,91,82,93,32,59,32,112,111,32,97,115,32,120,10]
def prA3:Bs:=[97,99,121,99,108,105,99,32,40,112,111,32,124,32,114,102,41,43,32,97,115,32,120,10]
def tmA:Trm := .mk 2 [] [.mk 2 [] [.mk 2 [] [nmT [112,111],nmT [114,102]],nmT [99,111]],nmT [102,114]]
def tmB:Trm := .mk 5 [] [.mk 9 [82] [],nmT [112,111]]
theorem pa2:((zbW (lnA txA2)).map (·.1)).getD []=prA2:=by kernel_rfl
theorem pa2s:(zbW (lnA txA2)).isSome=true:=by kernel_rfl
theorem pa3:((zbW (lnA txT3)).map (·.1)).getD []=prA3:=by kernel_rfl
theorem pa3s:(zbW (lnA txT3)).isSome=true:=by kernel_rfl
theorem sm1:zka (lnA txT1) [⟨1,[111,114,100,101,114],tmA⟩]=true:=by kernel_rfl
theorem sm2:zka (lnA txA2) [⟨3,[120],tmB⟩]=true:=by kernel_rfl
theorem ln4:lnA txA4=[⟨3,[120],nmT [99,111]⟩]:=by kernel_rfl
def zm6 (s:Bs) (er:Int) (at_:Nat):Bool:=decide ((zbe s).2.2=er)&&(decide ((zbe s).2.1=at_)&&decide ((zbe s).1.getD []=[]))
theorem fa5:zm6 txA5 112 8=true:=by kernel_rfl
theorem fa6:zm6 txA6 111 4=true:=by kernel_rfl
theorem fa7:zm6 txA7 110 8=true:=by kernel_rfl
def catP:Prg:=⟨[116],[[120]],[0],[[stI 0 1 0]],1,.mk 0 0 0 0 []⟩
theorem zsS:znD catP 5 [0,1] 1=true:=by kernel_rfl
theorem zo8:(zef catP [0,1]).length=1:=by kernel_rfl
abbrev xCat:ExD:=(zef catP [0,1]).getD 0 (ex0 0)
theorem zrI:exvB xCat=true:=by kernel_rfl
theorem zrJ:zhW [⟨3,[120],nmT [99,111]⟩] xCat=(false,[120],0):=by kernel_rfl
section
variable {w X Y:World}
def MoB (X:World) (d:Nat) (s:Bs):Prop:=∃ p cap,X.heap[d]?=some (.cells #[.slice p (lnA s).length cap] 47 (0,0))/\LinsM AllB X p (lnA s)/\(lnA s).length<=40
theorem MoB.below {d:Nat} {s:Bs} (h:MoB X d s) (hb:Bw X Y):MoB Y d s:=by
 obtain⟨p,cap,h1,h2,h3⟩:=h;exact⟨p,cap,zab hb h1,h2.below hb,h3⟩
def TeB (X:World) (d:Nat) (t:Trm):Prop:=∃ p cap,X.heap[d]?=some (.cells (zad t p cap).toArray 24 (0,0))/\KidsT AllB X p t.kids
theorem TeB.below {d:Nat} {t:Trm} (h:TeB X d t) (hb:Bw X Y):TeB Y d t:=by
 obtain⟨p,cap,h1,h2⟩:=h;exact⟨p,cap,zab hb h1,h2.kept hb⟩
structure FndC (X:World) (F:List ExD) (xs:List exE3) (q:Option Addr):Prop where
 e:xs.map (·.1)=F
 row:SlR exE X q xs
 ev:∀ x∈xs,SlR evE X x.2.1 x.1.ev
theorem FndC.below {F:List ExD} {xs:List exE3} {q:Option Addr} (h:FndC X F xs q) (hb:Bw X Y):FndC Y F xs q:=⟨h.e,h.row.below hb,fun x hx=>(h.ev x hx).below hb⟩
theorem zeS {r:RelD} (h:wrdB r=true):WrdR r.to:=by
 unfold wrdB at h;rw [Je] at h;exact fun i hi=>dT (h i (Jt.2 hi))
theorem zqM {x:ExD} {q:Option Addr} (h:exvB x=true) (he:SlR evE X q x.ev):ExV X x q:=by
 unfold exvB at h;simp only [bAT,dE] at h;obtain⟨h1,h2,h3,h4,h5,h6,h7⟩:=h;exact⟨he,h1,zeS h2,zeS h3,zeS h4,zeS h5,zeS h6,zeS h7⟩
theorem FndC.one {xs:List exE3} {q:Option Addr} (h:FndC X (zef catP [0,1]) xs q):xs.length=1/\∃ (b o:Nat) (p:Option Addr) (c:Nat),q=some ⟨b,o,none⟩/\b<X.heap.size/\zav X ⟨b,o+0*333,none⟩ (exC xCat p c)/\ExV X xCat p:=by
 have hl:xs.length=1:=by
  have:=congrArg List.length h.e;rw [Jc,zo8] at this;exact this
 have hix:0<xs.length:=by omega
 obtain⟨b,o,hq,hb,hat⟩:=h.row.at hix;obtain⟨y,hy⟩:∃ y,xs[0]=y:=⟨_,rfl⟩;have hym:y∈xs:=by rw [<- hy];exact gM hix
 have hF:y.1=xCat:=by
  show _=(zef catP [0,1]).getD 0 (ex0 0);rw [<- h.e,gDe,Jm,gE hix,hy];rfl
 have hatk:=hat 0 hix;rw [hy] at hatk;have hev:=h.ev y hym;obtain⟨y1,p,c⟩:=y;dsimp only at hF hev;subst hF;exact⟨hl,b,o,p,c,hq,hb,hatk,zqM zrI hev⟩
theorem zsR {W:World} {bs bi bn bt:Nat} (g1:W.heap[bs]?=some (.cells #[strV [120]] 9 (0,0))) (g2:W.heap[bi]?=some (.cells #[u8 0] 5 (0,0)))
  (g3:W.heap[bn]?=some (.cells (insE.enc (stI 0 1 0)).toArray 96 (0,0))) (g4:W.heap[bt]?=some (.cells #[.slice (some ⟨bn,0,none⟩) 1 1] 97 (0,0))) :
  PrgX W.heap.size W (zb2 catP (some ⟨bs,0,none⟩) 1 (some ⟨bi,0,none⟩) 1 (some ⟨bt,0,none⟩) 1 none 0) catP:=by
 have rI:RowB zaI W.heap.size W (some ⟨bi,0,none⟩) [0] := .inr ⟨bi,0,rfl,hlt g2,zaa g2⟩;have hx:RowB insE W.heap.size W (some ⟨bn,0,none⟩) [stI 0 1 0] := .inr ⟨bn,0,rfl,hlt g3,by
  have:[stI 0 1 0].flatMap insE.enc=insE.enc (stI 0 1 0):=by rw [Kj,Kk,Jk]
  rw [this];exact zaa g3⟩
 have rr:RowB thrE W.heap.size W (some ⟨bt,0,none⟩) [([stI 0 1 0],some ⟨bn,0,none⟩,1)] := .inr ⟨bt,0,rfl,hlt g4,zaa g4⟩;have rT:ThrsW W.heap.size W (some ⟨bt,0,none⟩) [[stI 0 1 0]]:=by
  refine⟨[([stI 0 1 0],some ⟨bn,0,none⟩,1)],rfl,rr,fun x h=>?_⟩;obtain rfl:=Jl.1 h;exact⟨hx,fun a ha=>by cases ha;exact hlt g3⟩
 refine⟨⟨⟨by show 1<=_;decide,by show 1<=_;decide,fun s hs=>?_,by show 1<=_;decide,by show 1<=_;decide,fun l h=>?_⟩,some ⟨bs,0,none⟩,1,some ⟨bi,0,none⟩,1,some ⟨bt,0,none⟩,1,none,0,rfl,?_,rI,?_,?_,?_⟩,⟨_,_,rfl,rT⟩,⟨_,_,rfl,rI⟩⟩
 ·have hs:s=[120]:=by simpa [catP] using hs
  rw [hs];decide
 ·have hs:l=[stI 0 1 0]:=by simpa [catP] using h
  rw [hs];decide
 ·exact .inr ⟨bs,0,rfl,hlt g1,zaa g1⟩
 ·obtain⟨xs,hxs,hr,hx⟩:=rT;exact⟨xs,hxs,hr,fun x h=>(hx x h).1⟩
 ·exact .mk none [] (by decide) 0 0 (.inl rfl) (fun _=>none) (fun _=>0) (fun i hi=>by simp at hi) (fun i hi=>by simp at hi)
 ·show 1<=1;decide
theorem LinsM.one {k b cap:Nat} {nq:Bs} {t:Trm} {q:Option Addr} (f:X.heap[b]?=some (.cells (zas k nq t q cap).toArray 49 (0,0))) (hk:k<=255) (hn:nq.length<=140737488351232) (ht:t.name.length<=140737488351232) (kk:KidsT AllB X q t.kids):LinsM AllB X (some ⟨b,0,none⟩) [⟨k,nq,t⟩]:=by
 refine⟨[(⟨k,nq,t⟩,q,cap)],rfl,SlR.of_cells (hlt f) ?_,fun x hx=>?_,fun _ _ _=>trivial⟩
 ·have:[((⟨k,nq,t⟩,q,cap):LinX)].flatMap linE.enc=zas k nq t q cap:=by rw [Kj,Kk,Jk];rfl
  rw [this];exact zaa f
 ·obtain rfl:=Jl.1 hx;exact⟨hk,hn,ht,kk⟩
structure GlobA (w:World):Prop where
 k:GlobK w
 e:GlobE w
theorem GlobA.below (h:GlobA w) (hb:Bw w X):GlobA X:=⟨h.k.below hb,h.e.below hb⟩
theorem zgj {s:Bs} (h:Nat.ble s.length 140737488351232=true):s.length<=140737488351232:=JO h
theorem zs0 (hG:GlobA w):CB 11 #[] w (.bool true):=by
 refine cofM 110 [] (.s .p (.c .p (.c .p (.c .p (.c .p (.c .p (.c .p (.c .p (.c .p (.c .p .p)))))))))) Tryz.func11 ?_;refine⟨Nat,fun d=>⟨[(1,At0 d)],[]⟩,fun d X=>MoB X d txT1/\Bw w X,?_,?_⟩
 ·skip
  refine cmo (zhy (hG.k) txT1 (zgj rfl)) ?_;rintro e Y ⟨p,cap,rfl,hM,h40,bY⟩;refine zak (X:=Y) (v := .agg #[.slice p (lnA txT1).length cap]) k47 rfl rfl rfl fun Z hbZ fZ sZ=>?_;have mZ:MoB Z Y.heap.size txT1:=⟨p,cap,fZ,(hM.below hbZ).weak fun b _=>trivial,h40⟩;have bZ:=zst bY hbZ;exact⟨Y.heap.size,(cvE rfl rfl),mZ,bZ⟩
 rintro d1 X ⟨m1,b0⟩;refine⟨Nat,fun d=>⟨[(1,At0 d1),(2,At0 d)],[]⟩,fun d X=>MoB X d1 txT1/\MoB X d txA2/\Bw w X,?_,?_⟩
 ·skip
  refine cmo (zhy (hG.k.below b0) txA2 (zgj rfl)) ?_;rintro e Y ⟨p,cap,rfl,hM,h40,bY⟩;refine zak (X:=Y) (v := .agg #[.slice p (lnA txA2).length cap]) k47 rfl rfl rfl fun Z hbZ fZ sZ=>?_;have mZ:MoB Z Y.heap.size txA2:=⟨p,cap,fZ,(hM.below hbZ).weak fun b _=>trivial,h40⟩;have bZ:=zst bY hbZ;exact⟨Y.heap.size,(cvE rfl rfl),m1.below bZ,mZ,(zst b0 bZ)⟩
 clear m1 b0 X;rintro d2 X ⟨m1,m2,b0⟩;refine⟨Unit,fun _=>⟨[(1,At0 d1),(2,At0 d2),(3,strV prA2),(4,i64 0)],[]⟩,fun _ X=>MoB X d1 txT1/\MoB X d2 txA2/\Bw w X,?_,?_⟩
 ·obtain⟨p,cap,f2,hM,h40⟩:=m2;refine⟨_,rfl,zaa f2,hlt f2,cmo (znR (cap:=cap) (hG.k.below b0) hM (by omega)) ?_⟩;rintro e Y ⟨rfl,bY⟩;exact⟨(),⟨.cons rfl (.cons rfl (.cons (congrArg (fun s=>some (strV s)) pa2) (.cons (congrArg (fun n=>some (i64 n)) (Kc pa2s)) .nil))),rfl⟩,m1.below bY,⟨p,cap,zab bY f2,hM.below bY,h40⟩,(zst b0 bY)⟩
 clear m1 m2 b0 X;rintro _ X ⟨m1,m2,b0⟩;refine⟨Nat,fun d=>⟨[(1,At0 d1),(2,At0 d2),(3,strV prA2),(4,i64 0),(5,At0 d)],[]⟩,fun d X=>MoB X d1 txT1/\MoB X d2 txA2/\MoB X d txT3/\Bw w X,?_,?_⟩
 ·skip
  refine cmo (zhy (hG.k.below b0) txT3 (zgj rfl)) ?_;rintro e Y ⟨p,cap,rfl,hM,h40,bY⟩;refine zak (X:=Y) (v := .agg #[.slice p (lnA txT3).length cap]) k47 rfl rfl rfl fun Z hbZ fZ sZ=>?_;have mZ:MoB Z Y.heap.size txT3:=⟨p,cap,fZ,(hM.below hbZ).weak fun b _=>trivial,h40⟩;have bZ:=zst bY hbZ;exact⟨Y.heap.size,(cvE rfl rfl),m1.below bZ,m2.below bZ,mZ,(zst b0 bZ)⟩
 clear m1 m2 b0 X;rintro d5 X ⟨m1,m2,m5,b0⟩;refine⟨Unit,fun _=>⟨[(1,At0 d1),(2,At0 d2),(3,strV prA2),(4,i64 0),(6,strV prA3),(7,i64 0)],[]⟩,fun _ X=>MoB X d1 txT1/\MoB X d2 txA2/\Bw w X,?_,?_⟩
 ·obtain⟨p,cap,f2,hM,h40⟩:=m5;refine⟨_,rfl,zaa f2,hlt f2,cmo (znR (cap:=cap) (hG.k.below b0) hM (by omega)) ?_⟩;rintro e Y ⟨rfl,bY⟩;exact⟨(),⟨.cons rfl (.cons rfl (.cons rfl (.cons rfl (.cons (congrArg (fun s=>some (strV s)) pa3) (.cons (congrArg (fun n=>some (i64 n)) (Kc pa3s)) .nil))))),rfl⟩,m1.below bY,m2.below bY,(zst b0 bY)⟩
 clear m1 m2 m5 b0 X;rintro _ X ⟨m1,m2,b0⟩;refine⟨Nat,fun d=>⟨[(1,At0 d1),(2,At0 d2),(3,strV prA2),(4,i64 0),(6,strV prA3),(7,i64 0),(8,At0 d)],[]⟩,fun d X=>MoB X d1 txT1/\MoB X d2 txA2/\TeB X d tmA/\Bw w X,?_,?_⟩
 ·refine cmo (zeB [112,111]) ?_;rintro e V1 ⟨rfl,v1⟩;refine cmo (zeB [114,102]) ?_;rintro e V2 ⟨rfl,v2⟩;refine cmo (zn8 (k:=2) (a:=nmT [112,111]) (b:=nmT [114,102]) .nil .nil (by decide) (by decide)) ?_;rintro e V3 ⟨r3,rfl,k3,v3⟩;refine cmo (zeB [99,111]) ?_;rintro e V4 ⟨rfl,v4⟩;refine cmo (zn8 (k:=2) (a := .mk 2 [] [nmT [112,111],nmT [114,102]]) (b:=nmT [99,111]) (k3.kept v4) .nil (by decide) (by decide)) ?_;rintro e V5 ⟨r5,rfl,k5,v5⟩;refine cmo (zeB [102,114]) ?_;rintro e V6 ⟨rfl,v6⟩;refine cmo (zn8 (k:=2) (a := .mk 2 [] [.mk 2 [] [nmT [112,111],nmT [114,102]],nmT [99,111]]) (b:=nmT [102,114]) (k5.kept v6) .nil (by decide) (by decide)) ?_;rintro e V7 ⟨r7,rfl,k7,v7⟩;refine zak (X:=V7) (v := .agg (zad tmA r7 2).toArray) k24 rfl rfl rfl fun Z hbZ fZ sZ=>?_;have c2:=zst v1 v2;have c3:=zst c2 v3;have c4:=zst c3 v4;have c5:=zst c4 v5;have c6:=zst c5 v6;have c7:=zst c6 v7;have bZ:=zst c7 hbZ;exact⟨V7.heap.size,(cvE rfl rfl),m1.below bZ,m2.below bZ,⟨r7,2,fZ,k7.kept hbZ⟩,(zst b0 bZ)⟩
 clear m1 m2 b0 X;rintro d8 X ⟨m1,m2,t8,b0⟩;refine⟨List exE3×Option Addr×Nat,fun s=>⟨[(1,At0 d1),(2,At0 d2),(3,strV prA2),(4,i64 0),(6,strV prA3),(7,i64 0),(8,At0 d8),(9,.slice s.2.1 s.1.length s.2.2),(10,i64 0)],[]⟩,fun s X=>MoB X d1 txT1/\MoB X d2 txA2/\TeB X d8 tmA/\FndC X (zef catP [0,1]) s.1 s.2.1/\Bw w X,?_,?_⟩
 ·refine⟨⟨by decide,by decide,rfl⟩,[strV [120]],rfl,?_⟩;obtain⟨V1,e1⟩:=nm (X.alloc (.cells [strV [120]].toArray 9));have v1:Bw X V1:=by rw [e1];exact zba _ _
  have f1:V1.heap[X.heap.size]?=some (.cells #[strV [120]] 9 (0,0)):=by rw [e1];exact hnew _ _
  rw [<- e1];refine⟨⟨by decide,by decide,rfl⟩,[u8 0],rfl,?_⟩;obtain⟨V2,e2⟩:=nm (V1.alloc (.cells [u8 0].toArray 5));have v2:Bw V1 V2:=by rw [e2];exact zba _ _
  have f2:V2.heap[V1.heap.size]?=some (.cells #[u8 0] 5 (0,0)):=by rw [e2];exact hnew _ _
  rw [<- e2];refine⟨_,rfl,insE.enc (stI 0 1 0),by kernel_rfl,?_⟩;refine⟨⟨by decide,by decide,rfl⟩,insE.enc (stI 0 1 0),by kernel_rfl,?_⟩;obtain⟨V3,e3⟩:=nm (V2.alloc (.cells (insE.enc (stI 0 1 0)).toArray 96));have v3:Bw V2 V3:=by rw [e3];exact zba _ _
  have f3:V3.heap[V2.heap.size]?=some (.cells (insE.enc (stI 0 1 0)).toArray 96 (0,0)):=by rw [e3];exact hnew _ _
  rw [<- e3];refine⟨⟨by decide,by decide,rfl⟩,[.slice (some ⟨V2.heap.size,0,none⟩) 1 1],rfl,?_⟩;obtain⟨V4,e4⟩:=nm (V3.alloc (.cells [.slice (some ⟨V2.heap.size,0,none⟩) 1 1].toArray 97));have v4:Bw V3 V4:=by rw [e4];exact zba _ _
  have f4:V4.heap[V3.heap.size]?=some (.cells #[.slice (some ⟨V2.heap.size,0,none⟩) 1 1] 97 (0,0)):=by rw [e4];exact hnew _ _
  rw [<- e4];refine⟨zb2 catP (some ⟨X.heap.size,0,none⟩) 1 (some ⟨V1.heap.size,0,none⟩) 1 (some ⟨V3.heap.size,0,none⟩) 1 none 0,rfl,?_⟩;have c2:=zst v1 v2;have c3:=zst c2 v3;have c4:=zst c3 v4;have hP:=zsR (W:=V4) (zab v4 (zab v3 (zab v2 f1))) (zab v4 (zab v3 f2)) (zab v4 f3) f4;refine cmo (zrF (B:=V4.heap.size) (n:=5) (V:=[0,1]) (Jb _) hP ((hG.e.below b0).below c4) (zpa zsS)) ?_;rintro e Z ⟨⟨xs,q,c,rfl,h1,h2,h3⟩,bZ⟩;have c5:=zst c4 bZ;exact⟨(xs,q,c),(cvE rfl rfl),m1.below c5,m2.below c5,t8.below c5,⟨h1,h2.row,fun x hx=>(h3 x hx).row⟩,(zst b0 c5)⟩
 clear m1 m2 t8 b0 X;rintro⟨xs,q,c⟩ X ⟨m1,m2,t8,hF,b0⟩;dsimp only at hF ⊢;obtain⟨hl,bb,ob,p,cx,hq,hbb,hcx,hvx⟩:=hF.one;subst hq;refine⟨Unit,fun _=>⟨[(1,At0 d1),(2,At0 d2),(3,strV prA2),(4,i64 0),(6,strV prA3),(7,i64 0),(8,At0 d8),(9,.slice (some ⟨bb,ob,none⟩) 1 c)],[]⟩,fun _ Y=>X=Y,?_,?_⟩
 ·refine Jn (fun h=>Kv (show false=true from h) (by decide)) (fun _=>biE (fun h=>?_) fun _=>?_)
  ·have h:(!decide ((xs.length:Int)=1))=true:=h;rw [hl] at h;cases h
  ·exact⟨(),⟨.cons rfl (.cons rfl (.cons rfl (.cons rfl (.cons rfl (.cons rfl (.cons rfl (.cons (by show some (Value.slice (some ⟨bb,ob,none⟩) xs.length c)=_;rw [hl]) .nil))))))),rfl⟩,rfl⟩
 rintro _ _ rfl;refine⟨Unit,fun _=>⟨[(1,At0 d1),(2,At0 d2),(3,strV prA2),(4,i64 0),(6,strV prA3),(7,i64 0),(8,At0 d8),(11,.bool false),(12,strV [120]),(13,i64 0)],[]⟩,fun _ Y=>MoB Y d1 txT1/\MoB Y d2 txA2/\TeB Y d8 tmA/\Bw w Y,?_,?_⟩
 ·have bd:=(Ja X.heap.size X).drew;refine DrawE.ord [] [1,2,3,0,4,5,6,7,8,9,10,11] (by kernel_rfl) ⟨0,rfl,by decide,?_⟩;refine⟨exC xCat p cx,zay _ _ _,hcx,hbb,cmo (zhy (hG.k.below ((zst b0 bd))) txA4 (zgj rfl)) ?_⟩;rintro e Y ⟨p4,cap4,rfl,hM,h40,bY⟩;refine⟨bY,?_⟩;have b1:=zst bd bY;have b2:=zst b0 b1;have hh:zhW (lnA txA4) xCat=(false,[120],0):=by rw [ln4];exact zrJ
  have hone:∀ l∈lnA txA4,l=⟨3,[120],nmT [99,111]⟩:=fun l hl=>by rw [ln4] at hl;exact Jl.1 hl
  refine cmo (zlD (cap:=cap4) (q:=p) (c:=cx) (hG.k.below b2) (hM.weak fun b _=>trivial) (by omega) (hvx.below b1) ((hG.e.below b2).t64) (fun bb mb l hl _=>by rw [hone l hl];exact zn3 _ _) (fun l hl h=>by rw [hone l hl] at h;cases h)) ?_;rintro e Z ⟨rfl,bZ⟩;rw [hh];refine⟨bZ,?_⟩;have b3:=zst b1 bZ;exact⟨(),(cvE rfl rfl),m1.below b3,m2.below b3,t8.below b3,(zst b0 b3)⟩
 clear m1 m2 t8 b0 hF hbb hcx hvx X;rintro _ X ⟨⟨p1,k1,f1,hM1,h1⟩,⟨p2,k2,f2,hM2,h2⟩,⟨p8,k8,f8,hK8⟩,b0⟩;have bd:=(Ja X.heap.size X).drew;have bw:=zst b0 bd;refine DrawE.ord [] (List.range 50) (by kernel_rfl) ⟨0,rfl,0,rfl,Jn (fun _=>⟨_,rfl,zaa (hdr f1),hlt (hdr f1),_,rfl,zaa (hdr f8),hlt (hdr f8),zas 1 [111,114,100,101,114] tmA p8 k8,rfl,⟨by decide,by decide,rfl⟩,zas 1 [111,114,100,101,114] tmA p8 k8,rfl,?_⟩) (fun h=>Kv (show true=false from h) (by decide))⟩;obtain⟨V1,e1⟩:=nm (X.drew.alloc (.cells (zas 1 [111,114,100,101,114] tmA p8 k8).toArray 49));have v1:Below X.drew.heap.size X.drew V1:=by rw [e1];exact zba _ _
 have g1:V1.heap[X.drew.heap.size]?=some (.cells (zas 1 [111,114,100,101,114] tmA p8 k8).toArray 49 (0,0)):=by rw [e1];exact hnew _ _
 rw [<- e1];refine⟨v1,?_⟩;have c1:=zst bd v1;refine⟨_,rfl,cmo (znO (a:=lnA txT1) (b:=[⟨1,[111,114,100,101,114],tmA⟩]) (c:=k1) (d:=1) (by omega) (by decide) (hM1.below c1) (LinsM.one g1 (by decide) (by decide) (by decide) (hK8.kept c1))) ?_⟩;rintro e V2 ⟨rfl,v2⟩;refine⟨v2,?_⟩;have c2:=zst c1 v2;refine Jn (fun _=>⟨_,rfl,zaa (zab c2 f2),hlt (zab c2 f2),zad (.mk 9 [82] []) none 0,rfl,cmo (zeB [112,111]) ?_⟩) (fun h=>Kv ((sm1).symm.trans h) (by decide));rintro e V3 ⟨rfl,v3⟩;refine⟨v3,?_⟩;have c3:=zst c2 v3;refine cmo (zn8 (k:=5) (a := .mk 9 [82] []) (b:=nmT [112,111]) .nil .nil (by decide) (by decide)) ?_;rintro e V4 ⟨r4,rfl,k4,v4⟩;refine⟨v4,?_⟩;have c4:=zst c3 v4;refine⟨zas 3 [120] tmB r4 2,rfl,⟨by decide,by decide,rfl⟩,zas 3 [120] tmB r4 2,rfl,?_⟩;obtain⟨V5,e5⟩:=nm (V4.alloc (.cells (zas 3 [120] tmB r4 2).toArray 49));have v5:Bw V4 V5:=by rw [e5];exact zba _ _
 have g5:V5.heap[V4.heap.size]?=some (.cells (zas 3 [120] tmB r4 2).toArray 49 (0,0)):=by rw [e5];exact hnew _ _
 rw [<- e5];refine⟨v5,?_⟩;have c5:=zst c4 v5;refine⟨_,rfl,cmo (znO (a:=lnA txA2) (b:=[⟨3,[120],tmB⟩]) (c:=k2) (d:=1) (by omega) (by decide) (hM2.below c5) (LinsM.one g5 (by decide) (by decide) (by decide) (k4.kept v5))) ?_⟩;rintro e V6 ⟨rfl,v6⟩;refine⟨v6,?_⟩;have c6:=zst c5 v6;refine Jn (fun _=>⟨_,fun w=>zax _ _ prA2 prA2 w,Jn (fun _=>⟨_,fun w=>zax _ _ prA3 prA3 w,Jn (fun _=>?_) (fun h=>Kv (((Ka rfl)).symm.trans h) (by decide))⟩) (fun h=>Kv (((Ka rfl)).symm.trans h) (by decide))⟩) (fun h=>Kv ((sm2).symm.trans h) (by decide));have hK6:=hG.k.below ((zst b0 c6));refine cmo (zjI hK6 txA5 (zgj rfl) 112 8) ?_;rintro e V7 ⟨rfl,v7⟩;refine⟨v7,?_⟩;have c7:=zst c6 v7;refine Jn (fun _=>cmo (zjI (hG.k.below ((zst b0 c7))) txA6 (zgj rfl) 111 4) ?_) (fun h=>Kv ((fa5).symm.trans h) (by decide));rintro e V8 ⟨rfl,v8⟩;refine⟨v8,?_⟩;have c8:=zst c7 v8;refine Jn (fun _=>cmo (zjI (hG.k.below ((zst b0 c8))) txA7 (zgj rfl) 110 8) ?_) (fun h=>Kv ((fa6).symm.trans h) (by decide));rintro e V9 ⟨rfl,v9⟩;refine⟨v9,?_⟩;have c9:=zst c8 v9;exact Jn (fun _=>Jn (fun _=>⟨_,fun w=>zax _ _ [120] [120] w,rb (Ka rfl),(zst b0 c9)⟩) (fun h=>Kv (show true=false from h) (by decide))) (fun h=>Kv ((fa7).symm.trans h) (by decide))
end
section
variable {a b:Trm} {qa qb q:Option Addr} {ca cb c L:Nat} {x:ExD} {w X Y:World}
structure LtB (w:World) (L:Nat) (a b:Trm) (qa qb:Option Addr) (ca cb:Nat) (x:ExD) (q:Option Addr) (c:Nat) (X:World):Prop where
 A:X.heap[L]?=some (.cells (zad a qa ca).toArray 24 (0,0))
 B:X.heap[L+1]?=some (.cells (zad b qb cb).toArray 24 (0,0))
 E:ExH X (L+2) x q c
 ka:KidsT AllB X qa a.kids
 kb:KidsT AllB X qb b.kids
 bl:Bw w X
theorem LtB.below (h:LtB w L a b qa qb ca cb x q c X) (hb:Bw X Y):LtB w L a b qa qb ca cb x q c Y :=
 ⟨zab hb h.A,zab hb h.B,zab hb h.E,h.ka.kept hb,h.kb.kept hb,zst h.bl hb⟩
theorem LtB.start (ka:KidsT AllB w qa a.kids) (kb:KidsT AllB w qb b.kids):LtB w w.heap.size a b qa qb ca cb x q c (((w.alloc (.cells (zad a qa ca).toArray 24)).alloc (.cells (zad b qb cb).toArray 24)).alloc (.cells (exC x q c).toArray 37))/\(w.alloc (.cells (zad a qa ca).toArray 24)).heap.size=w.heap.size+1/\((w.alloc (.cells (zad a qa ca).toArray 24)).alloc (.cells (zad b qb cb).toArray 24)).heap.size=w.heap.size+2:=by
 obtain⟨W1,e1⟩:=nm (w.alloc (.cells (zad a qa ca).toArray 24));have n1:W1.heap.size=w.heap.size+1:=by rw [e1];exact wz _ _
 have f1:W1.heap[w.heap.size]?=some (.cells (zad a qa ca).toArray 24 (0,0)):=by rw [e1];exact hnew w _
 have b1:Bw w W1:=by rw [e1];exact zba _ _
 obtain⟨W2,e2⟩:=nm (W1.alloc (.cells (zad b qb cb).toArray 24));have n2:W2.heap.size=w.heap.size+2:=by rw [e2,wz,n1]
 have f2:W2.heap[w.heap.size+1]?=some (.cells (zad b qb cb).toArray 24 (0,0)):=by rw [e2,<- n1];exact hnew W1 _
 have b2:Bw W1 W2:=by rw [e2];exact zba _ _
 obtain⟨W3,e3⟩:=nm (W2.alloc (.cells (exC x q c).toArray 37));have f3:ExH W3 (w.heap.size+2) x q c:=by rw [e3,<- n2];exact hnew W2 _
 have b3:Bw W2 W3:=by rw [e3];exact zba _ _
 have b13:=zst b1 (zst b2 b3);rw [<- e1,<- e2,<- e3];exact⟨⟨zab b3 (zab b2 f1),zab b3 f2,f3,ka.kept b13,kb.kept b13,b13⟩,n1,n2⟩
theorem LinsM.none:LinsM AllB X none []:=⟨[],rfl,.nil,(fun x hx=>by cases hx),fun _ _ _=>trivial⟩
theorem zo4 {t:Trm} {ls:List LineD} {r:RelD} (h:zdx t ls x=some r):evR t ls x=(r,0):=by unfold evR;rw [h]
theorem zna {t:Trm} {ls:List LineD} (h:(evR t ls x).2=0):zdx t ls x=some (evR t ls x).1:=by
 unfold evR at h ⊢
 cases e:zdx t ls x with
 | none=>rw [e] at h;exact Kv (show (2:Int)=0 from h) (by decide)
 | some r=>rfl
theorem zgO (a:RelD):zdJ a a=true:=zfW.1 rfl
theorem zo9 (ka:KidsT AllB w qa a.kids) (la:a.name.length<=140737488351232) (kb:KidsT AllB w qb b.kids) (lb:b.name.length<=140737488351232) (hv0:SlR evE w q x.ev/\WX x) (hG:GlobA w) :
  CB 3 #[.agg (zad a qa ca).toArray,.agg (zad b qb cb).toArray,.agg (exC x q c).toArray] w (.bool true):=by
 refine cofM 106 [.agg (zad a qa ca).toArray,.agg (zad b qb cb).toArray,.agg (exC x q c).toArray] (.c .p (.c (.s .p .p) (.c .p (.c (.s .p .p) (.c .p (.c .p (.c .p (.c .p (.c (.s .p .p) .p))))))))) Tryz.func3 ?_;have aw:∀ {X:World},Bw w X->Calls Tryz.prog 11 #[] X fun e w'=>e = .returned (.bool true)/\Bw w w':=fun {X} b=>(zs0 (hG.below b)).mono fun e Y h=>⟨h.1,zst b h.2⟩;obtain⟨L,hL⟩:=nm (w.heap.size);refine⟨Unit,fun _=>⟨[(3,At0 L),(4,At0 (L+1)),(5,At0 (L+2))],[]⟩,fun _ X=>LtB w L a b qa qb ca cb x q c X,?_,?_⟩
 ·obtain⟨h1,h2,h3⟩:=LtB.start (ca:=ca) (cb:=cb) (x:=x) (q:=q) (c:=c) ka kb;rw [<- hL] at h1 h2 h3;exact⟨(),⟨.cons (by rw [hL];rfl) (.cons (congrArg (fun n=>some (At0 n)) h2) (.cons (congrArg (fun n=>some (At0 n)) h3) .nil)),rfl⟩,h1⟩
 clear ka kb;rintro _ X hX;refine⟨Unit,fun _=>⟨[(3,At0 L),(4,At0 (L+1)),(5,At0 (L+2))],[]⟩,fun _ X=>LtB w L a b qa qb ca cb x q c X/\zcI 20 a=true/\zcI 20 b=true/\nodesA a<=50/\x.ev.length<=14/\za0 x=true,?_,?_⟩
 ·refine⟨_,rfl,zaa hX.A,hlt hX.A,cmo (znU 20 a qa ca X (by decide) hX.ka) ?_⟩;rintro e Y ⟨rfl,bY⟩;replace hX:=hX.below bY;clear bY X;refine biE (fun h=>?_) fun h1=>?_
  ·refine brT (brT (brT (brT (brT (cmo (aw hX.bl) ?_)))));rintro e Z ⟨rfl,bZ⟩;exact⟨rfl,bZ⟩
  have h1:zcI 20 a=true:=notF h1;refine⟨_,rfl,zaa hX.B,hlt hX.B,cmo (znU 20 b qb cb Y (by decide) hX.kb) ?_⟩;rintro e Z ⟨rfl,bY⟩;replace hX:=hX.below bY;clear bY Y;refine biE (fun h=>?_) fun h2=>?_
  ·refine brT (brT (brT (brT (cmo (aw hX.bl) ?_))));rintro e Z ⟨rfl,bZ⟩;exact⟨rfl,bZ⟩
  have h2:zcI 20 b=true:=notF h2;refine⟨_,rfl,zaa hX.A,hlt hX.A,cmo (zhD a qa ca Z (by have:=zdX _ _ h1;omega) hX.ka) ?_⟩;rintro e Y ⟨rfl,bY⟩;replace hX:=hX.below bY;clear bY Z;refine biE (fun h=>?_) fun h3=>?_
  ·refine brT (brT (brT (cmo (aw hX.bl) ?_)));rintro e Z ⟨rfl,bZ⟩;exact⟨rfl,bZ⟩
  have h3:¬ (50:Int)<(nodesA a:Int):=dF h3;refine⟨_,rfl,zaa hX.B,hlt hX.B,cmo (zhD b qb cb Y (by have:=zdX _ _ h2;omega) hX.kb) ?_⟩;rintro e Z ⟨rfl,bY⟩;replace hX:=hX.below bY;clear bY Y;refine biE (fun h=>?_) fun h4=>?_
  ·refine brT (brT (cmo (aw hX.bl) ?_));rintro e Z ⟨rfl,bZ⟩;exact⟨rfl,bZ⟩
  refine⟨_,zcq (zaa hX.E),biE (fun h=>?_) fun h5=>?_⟩
  ·refine brT (cmo (aw hX.bl) ?_);rintro e Z ⟨rfl,bZ⟩;exact⟨rfl,bZ⟩
  have h5:¬ (14:Int)<(x.ev.length:Int):=dF h5;have hv:ExV w x q:=⟨hv0.1,by omega,hv0.2.po,hv0.2.rf,hv0.2.co,hv0.2.dt,hv0.2.ct,hv0.2.rm⟩;refine⟨exC x q c,zay _ _ _,zaa hX.E,hlt hX.E,cmo (zd5 (hv.below hX.bl) (hG.e.t64.below hX.bl)) ?_⟩;rintro e Y ⟨rfl,bY⟩;replace hX:=hX.below bY;clear bY;refine biE (fun h=>?_) fun h6=>?_
  ·refine cmo (aw hX.bl) ?_;rintro e Z ⟨rfl,bZ⟩;exact⟨rfl,bZ⟩
  exact⟨(),(cvE rfl rfl),hX,h1,h2,by omega,by omega,notF h6⟩
 clear hX X;rintro _ X ⟨hX,fa,fb,na,h14,hr⟩;have hv:ExV w x q:=⟨hv0.1,by omega,hv0.2.po,hv0.2.rf,hv0.2.co,hv0.2.dt,hv0.2.ct,hv0.2.rm⟩;have hw:=hv0.2;clear hv0;have ev:∀ {t:Trm} {ls:List LineD} {p tq:Option Addr} {cap tc:Nat} {V:World},Bw w V->LinsM AllB V p ls->ls.length<=10->KidsT AllB V tq t.kids->t.name.length<=140737488351232 ->
   CB 12 #[.agg (zad t tq tc).toArray,.agg #[.slice p ls.length cap],.agg (exC x q c).toArray] V (.tuple #[.agg (relC (evR t ls x).1).toArray,i64 (evR t ls x).2]):=fun {t ls p tq cap tc V} b hM hl hK hn =>
  znW (hG.k.below b) hM (by omega) hK hn (hv.below b) (hG.e.t64.below b)
 obtain⟨R,hR⟩:=nm (evR a [] x);refine⟨Nat,fun b7=>⟨[(3,At0 L),(4,At0 (L+1)),(5,At0 (L+2)),(7,At0 b7),(8,i64 R.2)],[]⟩,fun b7 X=>LtB w L a b qa qb ca cb x q c X/\RelH X b7 R.1,?_,?_⟩
 ·refine⟨_,rfl,zaa hX.A,hlt hX.A,[.slice none 0 0],rfl,exC x q c,zay _ _ _,zaa hX.E,hlt hX.E,cmo (ev (ls:=[]) (cap:=0) hX.bl LinsM.none (by decide) hX.ka la) ?_⟩;rintro e Y ⟨rfl,bY⟩;rw [<- hR];exact zak (X:=Y) (v := .agg (relC R.1).toArray) k30 (zae _) (by kernel_rfl) (zaw _) fun Z hbZ fZ sZ=>⟨Y.heap.size,(cvE rfl rfl),(hX.below bY).below hbZ,fZ⟩
 clear hX X;rintro b7 X ⟨hX,f7⟩;refine⟨Unit,fun _=>⟨[(3,At0 L),(4,At0 (L+1)),(5,At0 (L+2)),(7,At0 b7)],[]⟩,fun _ Y=>X=Y/\R.2=0,?_,?_⟩
 ·refine biE (fun h=>?_) fun h=>?_
  ·refine cmo (aw hX.bl) ?_;rintro e Z ⟨rfl,bZ⟩;exact⟨rfl,bZ⟩
  ·have h:(!decide (R.2=0))=false:=h;exact⟨(),(cvE rfl rfl),rfl,by simpa using h⟩
 rintro _ _ ⟨rfl,h0⟩;have hea:zdx a [] x=some R.1:=by rw [hR] at h0 ⊢;exact zna h0
 have hna:nodesT a<=50:=by rw [<- nodes_eq a (by omega)];exact na
 obtain⟨ls,hls⟩:∃ ls:List LineD,ls=[⟨0,[97],a⟩]:=⟨_,rfl⟩;have hll:ls.length=1:=by rw [hls];rfl
 refine⟨Nat×Nat,fun y=>⟨[(3,At0 L),(4,At0 (L+1)),(5,At0 (L+2)),(7,At0 b7),(9,At0 y.1)],[]⟩,fun y X=>LtB w L a b qa qb ca cb x q c X/\RelH X b7 R.1/\X.heap[y.1]?=some (.cells #[.slice (some ⟨y.2,0,none⟩) 1 1] 47 (0,0))/\LinsM AllB X (some ⟨y.2,0,none⟩) ls,?_,?_⟩
 ·refine⟨_,rfl,zaa hX.A,hlt hX.A,zas 0 [97] a qa ca,rfl,⟨by decide,by decide,rfl⟩,zas 0 [97] a qa ca,rfl,?_⟩;obtain⟨V,e1⟩:=nm (X.alloc (.cells (zas 0 [97] a qa ca).toArray 49));have bV:Bw X V:=by rw [e1];exact zba _ _
  have fV:V.heap[X.heap.size]?=some (.cells (zas 0 [97] a qa ca).toArray 49 (0,0)):=by rw [e1];exact hnew _ _
  rw [<- e1];refine⟨_,rfl,zak (X:=V) (v := .agg #[.slice (some ⟨X.heap.size,0,none⟩) 1 1]) k47 rfl rfl rfl fun Z hbZ fZ sZ=>?_⟩;have hM:LinsM AllB Z (some ⟨X.heap.size,0,none⟩) ls:=by
   rw [hls];exact LinsM.one (zab hbZ fV) (by decide) (by decide) la ((hX.ka.kept bV).kept hbZ)
  exact⟨(V.heap.size,X.heap.size),(cvE rfl rfl),(hX.below bV).below hbZ,zab hbZ (zab bV f7),fZ,hM⟩
 clear hX f7 X;rintro⟨b9,pl⟩ X ⟨hX,f7,f9,hM⟩;dsimp only at f9 hM ⊢;obtain⟨S,hS⟩:=nm (evR (nmT [97]) ls x);refine⟨Nat,fun b10=>⟨[(3,At0 L),(4,At0 (L+1)),(5,At0 (L+2)),(7,At0 b7),(9,At0 b9),(10,At0 b10),(11,i64 S.2)],[]⟩,fun b10 X=>LtB w L a b qa qb ca cb x q c X/\RelH X b7 R.1/\X.heap[b9]?=some (.cells #[.slice (some ⟨pl,0,none⟩) 1 1] 47 (0,0))/\LinsM AllB X (some ⟨pl,0,none⟩) ls/\RelH X b10 S.1,?_,?_⟩
 ·have bd:=(Ja X.heap.size X).drew;refine DrawE.treeQ [8] (.op 1 (.op 2 (.alt (.op 0 (.alt (.op 3 (.op 4 (.op 5 (.op 6 (.op 7 (.op 8 (.op 9 (.nil)))))))) (.op 7 (.op 3 (.op 4 (.op 5 (.op 6 (.op 8 (.op 9 (.nil)))))))))) (.op 7 (.op 0 (.op 3 (.op 4 (.op 5 (.op 6 (.op 8 (.op 9 (.nil)))))))))))) (by kernel_rfl) ⟨_,rfl,zaa (hdr f9),hlt (hdr f9),exC x q c,zay _ _ _,zaa (hdr hX.E),hlt (hdr hX.E),Jn ?_ ?_⟩
  ·refine cmo (zeB [97]) ?_;rintro e V1 ⟨rfl,v1⟩;refine⟨v1,?_⟩;have c1:=zst bd v1;refine Jn ?_ ?_
   ·have z2:=ev (t:=nmT [97]) (ls:=ls) (cap:=1) (tq:=none) (tc:=0) (zst hX.bl c1) (hM.below c1) (by omega) .nil (by decide);rw [hll] at z2;refine cmo z2 ?_;rintro e V2 ⟨rfl,v2⟩;rw [<- hS];refine⟨v2,?_⟩;have c2:=zst c1 v2;refine⟨zba _ _,?_⟩;have c3:Bw X (V2.alloc zRel):=zst c2 (zba _ _);exact zaS (w:=X) ((show RelH (V2.alloc zRel) V2.heap.size zat from hnew V2 zRel)) (c2.size) c3 fun Z fZ bZ=>⟨V2.heap.size,(cvE rfl rfl),hX.below bZ,zab bZ f7,zab bZ f9,hM.below bZ,fZ⟩
   ·refine⟨zba _ _,?_⟩;have c4:Bw X (V1.alloc zRel):=zst c1 (zba _ _);have z5:=ev (t:=nmT [97]) (ls:=ls) (cap:=1) (tq:=none) (tc:=0) (zst hX.bl c4) (hM.below c4) (by omega) .nil (by decide);rw [hll] at z5;refine cmo z5 ?_;rintro e V5 ⟨rfl,v5⟩;rw [<- hS];refine⟨v5,?_⟩;have c5:=zst c4 v5;exact zaS (w:=X) (zab v5 ((show RelH (V1.alloc zRel) V1.heap.size zat from hnew V1 zRel))) (c1.size) c5 fun Z fZ bZ=>⟨V1.heap.size,(cvE rfl rfl),hX.below bZ,zab bZ f7,zab bZ f9,hM.below bZ,fZ⟩
  ·refine⟨zba _ _,?_⟩;have c6:Bw X (X.drew.alloc zRel):=zst bd (zba _ _);refine cmo (zeB [97]) ?_;rintro e V7 ⟨rfl,v7⟩;refine⟨v7,?_⟩;have c7:=zst c6 v7;have z8:=ev (t:=nmT [97]) (ls:=ls) (cap:=1) (tq:=none) (tc:=0) (zst hX.bl c7) (hM.below c7) (by omega) .nil (by decide);rw [hll] at z8;refine cmo z8 ?_;rintro e V8 ⟨rfl,v8⟩;rw [<- hS];refine⟨v8,?_⟩;have c8:=zst c7 v8;exact zaS (w:=X) (zab v8 (zab v7 ((show RelH (X.drew.alloc zRel) X.drew.heap.size zat from hnew X.drew zRel)))) (bd.size) c8 fun Z fZ bZ=>⟨X.drew.heap.size,(cvE rfl rfl),hX.below bZ,zab bZ f7,zab bZ f9,hM.below bZ,fZ⟩
 clear hX f7 f9 hM X;rintro b10 X ⟨hX,f7,f9,hM,f10⟩;obtain⟨T,hT⟩:=nm (evR (putA (nmT [97]) b) ls x);refine⟨Nat,fun b12=>⟨[(3,At0 L),(4,At0 (L+1)),(5,At0 (L+2)),(7,At0 b7),(10,At0 b10),(11,i64 S.2),(12,At0 b12),(13,i64 T.2)],[]⟩,fun b12 X=>LtB w L a b qa qb ca cb x q c X/\RelH X b7 R.1/\RelH X b10 S.1/\RelH X b12 T.1,?_,?_⟩
 ·have bd:=(Ja X.heap.size X).drew;refine DrawE.treeQ [10] (.op 0 (.op 3 (.op 4 (.alt (.op 1 (.alt (.op 2 (.alt (.op 5 (.op 6 (.op 7 (.op 8 (.op 9 (.op 10 (.op 11 (.nil)))))))) (.op 9 (.op 5 (.op 6 (.op 7 (.op 8 (.op 10 (.op 11 (.nil)))))))))) (.op 9 (.op 2 (.op 5 (.op 6 (.op 7 (.op 8 (.op 10 (.op 11 (.nil))))))))))) (.op 9 (.op 1 (.op 2 (.op 5 (.op 6 (.op 7 (.op 8 (.op 10 (.op 11 (.nil)))))))))))))) (by kernel_rfl) ⟨_,rfl,zaa (hdr hX.B),hlt (hdr hX.B),_,rfl,zaa (hdr f9),hlt (hdr f9),exC x q c,zay _ _ _,zaa (hdr hX.E),hlt (hdr hX.E),Jn ?_ ?_⟩
  ·refine cmo (zeB [97]) ?_;rintro e V1 ⟨rfl,v1⟩;refine⟨v1,?_⟩;have c1:=zst bd v1;refine Jn ?_ ?_
   ·refine cmo (zgQ b (fun g=>g<V1.heap.size) (nmT [97]) qb none cb 0 V1 ⟨20,fb⟩ (fun g h=>h) ((hX.kb.kept c1).there.weak fun g h=>h.2) .nil lb (by decide)) ?_;rintro e V2 ⟨r2,d2,rfl,k2,l2,v2⟩;replace k2:=k2.weak (Q':=AllB) fun _ _=>trivial;refine⟨v2,?_⟩;have c2:=zst c1 v2;refine Jn ?_ ?_
    ·have z3:=ev (t:=putA (nmT [97]) b) (ls:=ls) (cap:=1) (tc:=d2) (zst hX.bl c2) (hM.below c2) (by omega) k2 l2;rw [hll] at z3;refine cmo z3 ?_;rintro e V3 ⟨rfl,v3⟩;rw [<- hT];refine⟨v3,?_⟩;have c3:=zst c2 v3;refine⟨zba _ _,?_⟩;have c4:Bw X (V3.alloc zRel):=zst c3 (zba _ _);exact zaS (w:=X) ((show RelH (V3.alloc zRel) V3.heap.size zat from hnew V3 zRel)) (c3.size) c4 fun Z fZ bZ=>⟨V3.heap.size,(cvE rfl rfl),hX.below bZ,zab bZ f7,zab bZ f10,fZ⟩
    ·refine⟨zba _ _,?_⟩;have c5:Bw X (V2.alloc zRel):=zst c2 (zba _ _);have z6:=ev (t:=putA (nmT [97]) b) (ls:=ls) (cap:=1) (tc:=d2) (zst hX.bl c5) (hM.below c5) (by omega) (k2.kept (zba _ _)) l2;rw [hll] at z6;refine cmo z6 ?_;rintro e V6 ⟨rfl,v6⟩;rw [<- hT];refine⟨v6,?_⟩;have c6:=zst c5 v6;exact zaS (w:=X) (zab v6 ((show RelH (V2.alloc zRel) V2.heap.size zat from hnew V2 zRel))) (c2.size) c6 fun Z fZ bZ=>⟨V2.heap.size,(cvE rfl rfl),hX.below bZ,zab bZ f7,zab bZ f10,fZ⟩
   ·refine⟨zba _ _,?_⟩;have c7:Bw X (V1.alloc zRel):=zst c1 (zba _ _);refine cmo (zgQ b (fun g=>g<(V1.alloc zRel).heap.size) (nmT [97]) qb none cb 0 (V1.alloc zRel) ⟨20,fb⟩ (fun g h=>h) ((hX.kb.kept c7).there.weak fun g h=>h.2) .nil lb (by decide)) ?_;rintro e V8 ⟨r8,d8,rfl,k8,l8,v8⟩;replace k8:=k8.weak (Q':=AllB) fun _ _=>trivial;refine⟨v8,?_⟩;have c8:=zst c7 v8;have z9:=ev (t:=putA (nmT [97]) b) (ls:=ls) (cap:=1) (tc:=d8) (zst hX.bl c8) (hM.below c8) (by omega) k8 l8;rw [hll] at z9;refine cmo z9 ?_;rintro e V9 ⟨rfl,v9⟩;rw [<- hT];refine⟨v9,?_⟩;have c9:=zst c8 v9;exact zaS (w:=X) (zab v9 (zab v8 ((show RelH (V1.alloc zRel) V1.heap.size zat from hnew V1 zRel)))) (c1.size) c9 fun Z fZ bZ=>⟨V1.heap.size,(cvE rfl rfl),hX.below bZ,zab bZ f7,zab bZ f10,fZ⟩
  ·refine⟨zba _ _,?_⟩;have c10:Bw X (X.drew.alloc zRel):=zst bd (zba _ _);refine cmo (zeB [97]) ?_;rintro e V11 ⟨rfl,v11⟩;refine⟨v11,?_⟩;have c11:=zst c10 v11;refine cmo (zgQ b (fun g=>g<V11.heap.size) (nmT [97]) qb none cb 0 V11 ⟨20,fb⟩ (fun g h=>h) ((hX.kb.kept c11).there.weak fun g h=>h.2) .nil lb (by decide)) ?_;rintro e V12 ⟨r12,d12,rfl,k12,l12,v12⟩;replace k12:=k12.weak (Q':=AllB) fun _ _=>trivial;refine⟨v12,?_⟩;have c12:=zst c11 v12;have z13:=ev (t:=putA (nmT [97]) b) (ls:=ls) (cap:=1) (tc:=d12) (zst hX.bl c12) (hM.below c12) (by omega) k12 l12;rw [hll] at z13;refine cmo z13 ?_;rintro e V13 ⟨rfl,v13⟩;rw [<- hT];refine⟨v13,?_⟩;have c13:=zst c12 v13;exact zaS (w:=X) (zab v13 (zab v12 (zab v11 ((show RelH (X.drew.alloc zRel) X.drew.heap.size zat from hnew X.drew zRel))))) (bd.size) c13 fun Z fZ bZ=>⟨X.drew.heap.size,(cvE rfl rfl),hX.below bZ,zab bZ f7,zab bZ f10,fZ⟩
 clear hX f7 f9 hM f10 X;rintro b12 X ⟨hX,f7,f10,f12⟩;obtain⟨U,hU⟩:=nm (evR (putA a b) [] x);refine⟨Nat,fun b14=>⟨[(7,At0 b7),(10,At0 b10),(11,i64 S.2),(12,At0 b12),(13,i64 T.2),(14,At0 b14),(15,i64 U.2)],[]⟩,fun b14 X=>LtB w L a b qa qb ca cb x q c X/\RelH X b7 R.1/\RelH X b10 S.1/\RelH X b12 T.1/\RelH X b14 U.1,?_,?_⟩
 ·have bd:=(Ja X.heap.size X).drew;refine DrawE.treeQ [10] (.op 0 (.op 1 (.op 3 (.op 4 (.alt (.op 2 (.alt (.op 5 (.op 6 (.op 7 (.op 8 (.op 9 (.op 10 (.op 11 (.nil)))))))) (.op 9 (.op 5 (.op 6 (.op 7 (.op 8 (.op 10 (.op 11 (.nil)))))))))) (.op 9 (.op 2 (.op 5 (.op 6 (.op 7 (.op 8 (.op 10 (.op 11 (.nil)))))))))))))) (by kernel_rfl) ⟨_,rfl,zaa (hdr hX.B),hlt (hdr hX.B),_,rfl,zaa (hdr hX.A),hlt (hdr hX.A),[.slice none 0 0],rfl,exC x q c,zay _ _ _,zaa (hdr hX.E),hlt (hdr hX.E),Jn ?_ ?_⟩
  ·refine cmo (zgQ b (fun g=>g<X.drew.heap.size) a qb qa cb ca X.drew ⟨20,fb⟩ (fun g h=>h) ((hX.kb.kept bd).there.weak fun g h=>h.2) ((hX.ka.kept bd).there.weak fun g h=>h.2) lb la) ?_;rintro e V1 ⟨r1,d1,rfl,k1,l1,v1⟩;replace k1:=k1.weak (Q':=AllB) fun _ _=>trivial;refine⟨v1,?_⟩;have c1:=zst bd v1;refine Jn ?_ ?_
   ·have z2:=ev (t:=putA a b) (ls:=[]) (cap:=0) (tc:=d1) (zst hX.bl c1) LinsM.none (by decide) k1 l1;refine cmo z2 ?_;rintro e V2 ⟨rfl,v2⟩;rw [<- hU];refine⟨v2,?_⟩;have c2:=zst c1 v2;refine⟨zba _ _,?_⟩;have c3:Bw X (V2.alloc zRel):=zst c2 (zba _ _);exact zaS (w:=X) ((show RelH (V2.alloc zRel) V2.heap.size zat from hnew V2 zRel)) (c2.size) c3 fun Z fZ bZ=>⟨V2.heap.size,(cvE rfl rfl),hX.below bZ,zab bZ f7,zab bZ f10,zab bZ f12,fZ⟩
   ·refine⟨zba _ _,?_⟩;have c4:Bw X (V1.alloc zRel):=zst c1 (zba _ _);have z5:=ev (t:=putA a b) (ls:=[]) (cap:=0) (tc:=d1) (zst hX.bl c4) LinsM.none (by decide) (k1.kept (zba _ _)) l1;refine cmo z5 ?_;rintro e V5 ⟨rfl,v5⟩;rw [<- hU];refine⟨v5,?_⟩;have c5:=zst c4 v5;exact zaS (w:=X) (zab v5 ((show RelH (V1.alloc zRel) V1.heap.size zat from hnew V1 zRel))) (c1.size) c5 fun Z fZ bZ=>⟨V1.heap.size,(cvE rfl rfl),hX.below bZ,zab bZ f7,zab bZ f10,zab bZ f12,fZ⟩
  ·refine⟨zba _ _,?_⟩;have c6:Bw X (X.drew.alloc zRel):=zst bd (zba _ _);refine cmo (zgQ b (fun g=>g<(X.drew.alloc zRel).heap.size) a qb qa cb ca (X.drew.alloc zRel) ⟨20,fb⟩ (fun g h=>h) ((hX.kb.kept c6).there.weak fun g h=>h.2) ((hX.ka.kept c6).there.weak fun g h=>h.2) lb la) ?_;rintro e V7 ⟨r7,d7,rfl,k7,l7,v7⟩;replace k7:=k7.weak (Q':=AllB) fun _ _=>trivial;refine⟨v7,?_⟩;have c7:=zst c6 v7;have z8:=ev (t:=putA a b) (ls:=[]) (cap:=0) (tc:=d7) (zst hX.bl c7) LinsM.none (by decide) k7 l7;refine cmo z8 ?_;rintro e V8 ⟨rfl,v8⟩;rw [<- hU];refine⟨v8,?_⟩;have c8:=zst c7 v8;exact zaS (w:=X) (zab v8 (zab v7 ((show RelH (X.drew.alloc zRel) X.drew.heap.size zat from hnew X.drew zRel)))) (bd.size) c8 fun Z fZ bZ=>⟨X.drew.heap.size,(cvE rfl rfl),hX.below bZ,zab bZ f7,zab bZ f10,zab bZ f12,fZ⟩
 clear hX f7 f10 f12 X;rintro b14 X ⟨hX,f7,f10,f12,f14⟩;have hself:=zoP hea hna;rw [<- hls] at hself;have hS2:S=(R.1,0):=by rw [hS];exact zo4 hself
 refine⟨Unit,fun _=>⟨[(12,At0 b12),(13,i64 T.2),(14,At0 b14),(15,i64 U.2)],[]⟩,fun _ Y=>X=Y,?_,?_⟩
 ·refine biE (fun h=>?_) fun h=>?_
  ·have h:(!decide (S.2=0))=true:=h;rw [hS2] at h;exact Kv (show (!decide ((0:Int)=0))=true from h) (by decide)
  ·refine⟨relC S.1,zae _,zaa f10,hlt f10,relC R.1,zae _,zaa f7,hlt f7,_,fun w=>zqs _ _ S.1 R.1 w,biE (fun h2=>?_) fun h2=>?_⟩
   ·have h2:(!zdJ S.1 R.1)=true:=h2;rw [hS2,zgO] at h2;exact Kv h2 (by decide)
   ·exact⟨(),(cvE rfl rfl),rfl⟩
 rintro _ _ rfl;have go:Calls Tryz.prog 11 #[] X fun e w'=>e = .returned (.bool true)/\Bw w w':=aw hX.bl;refine biE (fun h=>?_) fun h1=>?_
 ·refine brT (brT (cmo go ?_));rintro e Z ⟨rfl,bZ⟩;exact⟨rfl,bZ⟩
 have h1:(!decide (T.2=0))=false:=h1;have h1:T.2=0:=by simpa using h1
 refine biE (fun h=>?_) fun h2=>?_
 ·refine brT (cmo go ?_);rintro e Z ⟨rfl,bZ⟩;exact⟨rfl,bZ⟩
 have h2:(!decide (U.2=0))=false:=h2;have h2:U.2=0:=by simpa using h2
 have hTU:T.1=U.1:=by
  have e1:zdx (putA (nmT [97]) b) [⟨0,[97],a⟩] x=some T.1:=by rw [hls] at hT;rw [hT] at h1 ⊢;exact zna h1
  have e2:zdx (putA a b) [] x=some U.1:=by rw [hU] at h2 ⊢;exact zna h2
  exact zqD e1 e2
 refine⟨relC T.1,zae _,zaa f12,hlt f12,relC U.1,zae _,zaa f14,hlt f14,_,fun w=>zh3 _ _ T.1 U.1 w,biE (fun h=>?_) fun h=>?_⟩
 ·refine cmo go ?_;rintro e Z ⟨rfl,bZ⟩;exact⟨rfl,bZ⟩
 ·have h:zdJ T.1 U.1=false:=h;rw [hTU,zgO] at h;exact Kv h (by decide)
end
end Go.Proofs.YtnadlhpkpnfmbaaGreatDoor
namespace Go.Proofs.YtnadlhpkpnfmbaaGreatDoor
open Go.Vc Go.RowKit Go.Sei
open Go.ChangeShapes Go.WideShapes Go.ChangeAt
section
variable {H:Type} {enc:TypeId×Value->H} {P:Program} {w:World} {base:Nat} {spare:Nat->Bool} {held:Bool} {fuel:Nat} {t:TypeId} {cs:List Value} {x:DataW H×List MemPlace}
theorem zmE (ht:P.underlying t=some (.int .u8)) (h:DataW.trod enc P w base spare held fuel t cs=some x):∃ b:UInt8,cs=[u8 b]/\x.1 = .lit (.int .u8 b.toNat):=by
 obtain⟨n,rfl,rfl,hw⟩:=DataW.trod_int ht h;have hb:=bounds_u8 hw;have e:((UInt8.ofNat n.toNat).toNat:Int)=n:=by
  rw [UInt8.toNat_ofNat'];omega
 exact⟨UInt8.ofNat n.toNat,by rw [u8,e],by rw [e]⟩
theorem zfC {n:Nat} {e:TypeId} (ht:P.underlying t=some (.array n e)) (he:P.underlying e=some (.int .u8)) (hc:P.cellsOf e=1) (hn:P.cellsOf t=n)
  (h:DataW.trod enc P w base spare held fuel t cs=some x):∃ bs:List UInt8,bs.length=n/\cs=bs.map u8/\x.1 = .agg (bs.map fun b => .lit (.int .u8 b.toNat)):=by
 obtain⟨xs,m,rfl,rfl,hl,hx,hel⟩:=DataW.trod_array ht h;rw [hn] at hl;have each:∀ i (h:i<n),∃ b:UInt8,cs[i]?=some (u8 b)/\xs[i]?.map (·.1)=some (.lit (.int .u8 b.toNat)):=fun i hi=>by
  have h1:=hel i hi;rw [hc,gE (by omega)] at h1;obtain⟨b,h2,h3⟩:=zmE he h1;refine⟨b,?_,by rw [gE (by omega),Ko,h3]⟩;have:((cs.drop (i*1)).take 1)[0]?=some (u8 b):=by rw [h2];rfl
  simpa using this
 have:∀ k,k<=n->∃ bs:List UInt8,bs.length=k/\cs.take k=bs.map u8/\(xs.take k).map (·.1)=bs.map fun b => .lit (.int .u8 b.toNat):=by
  intro k
  induction k with
  | zero=>exact fun _=>⟨[],rfl,by simp,by simp⟩
  | succ k ih =>
   intro hk;obtain⟨bs,h1,h2,h3⟩:=ih (by omega);obtain⟨b,h4,h5⟩:=each k (by omega);have hk1:k<cs.length:=by omega
   have hk2:k<xs.length:=by omega
   rw [gE hk1] at h4;rw [gE hk2] at h5;refine⟨bs++[b],by simp [h1],?_,?_⟩
   ·rw [tsg hk1,h2,Jg h4];simp
   ·rw [tsg hk2,Jw,h3];simp at h5;simp [h5]
 obtain⟨bs,h1,h2,h3⟩:=this n (Jb _);rw [Jy (by omega)] at h2 h3;exact⟨bs,h1,h2,by rw [<- h3]⟩
theorem zsa (ht:P.underlying t=some (.int .i64)) (h:DataW.trod enc P w base spare held fuel t cs=some x):∃ b:Int,cs=[i64 b]/\x.1 = .lit (.int .i64 b):=by
 obtain⟨n,rfl,rfl,_⟩:=DataW.trod_int ht h;exact⟨n,rfl,rfl⟩
theorem zmF {n:Nat} {e:TypeId} (ht:P.underlying t=some (.array n e)) (he:P.underlying e=some (.int .i64)) (hc:P.cellsOf e=1) (hn:P.cellsOf t=n)
  (h:DataW.trod enc P w base spare held fuel t cs=some x):∃ bs:List Int,bs.length=n/\cs=bs.map i64/\x.1 = .agg (bs.map fun b => .lit (.int .i64 b)):=by
 obtain⟨xs,m,rfl,rfl,hl,hx,hel⟩:=DataW.trod_array ht h;rw [hn] at hl;have each:∀ i (h:i<n),∃ b:Int,cs[i]?=some (i64 b)/\xs[i]?.map (·.1)=some (.lit (.int .i64 b)):=fun i hi=>by
  have h1:=hel i hi;rw [hc,gE (by omega)] at h1;obtain⟨b,h2,h3⟩:=zsa he h1;refine⟨b,?_,by rw [gE (by omega),Ko,h3]⟩;have:((cs.drop (i*1)).take 1)[0]?=some (i64 b):=by rw [h2];rfl
  simpa using this
 have:∀ k,k<=n->∃ bs:List Int,bs.length=k/\cs.take k=bs.map i64/\(xs.take k).map (·.1)=bs.map fun b => .lit (.int .i64 b):=by
  intro k
  induction k with
  | zero=>exact fun _=>⟨[],rfl,by simp,by simp⟩
  | succ k ih =>
   intro hk;obtain⟨bs,h1,h2,h3⟩:=ih (by omega);obtain⟨b,h4,h5⟩:=each k (by omega);have hk1:k<cs.length:=by omega
   have hk2:k<xs.length:=by omega
   rw [gE hk1] at h4;rw [gE hk2] at h5;refine⟨bs++[b],by simp [h1],?_,?_⟩
   ·rw [tsg hk1,h2,Jg h4];simp
   ·rw [tsg hk2,Jw,h3];simp at h5;simp [h5]
 obtain⟨bs,h1,h2,h3⟩:=this n (Jb _);rw [Jy (by omega)] at h2 h3;exact⟨bs,h1,h2,by rw [<- h3]⟩
end
theorem zeO:Tryz.prog.cellsOf 5=1:=by kernel_rfl
theorem zid (b o i:Nat):(⟨b,o,none⟩:Addr).add i=⟨b,o+i,none⟩:=by
 unfold Addr.add;by_cases h:i=0
 ·simp [h]
 ·simp [h]
section
variable {w:World} {base:Nat} {cs:List Value}
theorem zfi {a:Addr} {n:Nat} (hn:0<n) (h:w.cells? base a n=some cs):a.spot=none/\a.block<w.heap.size/\zav w ⟨a.block,a.off,none⟩ cs:=by
 obtain⟨_,hl,hc⟩:=World.cells?_some h;have h0:=hc 0 hn;rw [gE (by omega)] at h0;have hs:a.spot=none:=by simpa [Addr.add] using World.cell?_spot h0
 obtain⟨b,o,s⟩:=a;dsimp only at hs;subst hs;refine⟨rfl,World.block_lt_of_cell? _ _ h0,za8 fun i v hv=>?_⟩;have hi:i<n:=by have:=(Ju.1 hv).1;omega
 have:=(hc i hi).trans hv;rw [zid] at this;exact this
end
theorem zok:ownKnob Tryz.prog.godebug=none:=by kernel_rfl
theorem zdF:laidOutB Tryz.prog=true:=by kernel_rfl
section
variable {H:Type} {enc:TypeId×Value->H} {P:Program} {w:World} {base:Nat} {spare:Nat->Bool} {held:Bool} {fuel:Nat} {t e:TypeId} {cs:List Value} {x:DataW H×List MemPlace}
def Opens (enc:TypeId×Value->H) (P:Program) (w:World) (base:Nat) (spare:Nat->Bool) (held:Bool) (t:TypeId) (R:List Value->Prop):Prop :=
 ∀ fuel cs x,DataW.trod enc P w base spare held fuel t cs=some x->R cs
theorem Opens.field {fs:Array Field} {R:List Value->Prop} {i:Nat} {f:Field} {n:Nat} {xs:List (DataW H×List MemPlace)} {m:Nat} (hel:∀ (i:Nat) (f:Field),fs[i]?=some f->DataW.trod enc P w base spare held m f.type ((cs.drop f.offset).take (P.cellsOf f.type))=xs[i]?)
  (hl:xs.length=fs.size) (hi:fs[i]?=some f) {o:Nat} (hoo:f.offset=o) (hn:P.cellsOf f.type=n) (ho:Opens enc P w base spare held f.type R):R ((cs.drop o).take n):=by
 subst hoo;have h1:=hel i f hi;have:i<fs.size:=(JP.1 hi).1;rw [gE (by omega),hn] at h1;exact ho _ _ _ h1
theorem zdn (ht:P.underlying t=some (.int .u8)):Opens enc P w base spare held t fun cs=>∃ b:UInt8,cs=[u8 b]:=fun fuel cs x h=>by
 obtain⟨b,h,_⟩:=zmE ht h;exact⟨b,h⟩
theorem ziG (ht:P.underlying t=some (.int .i64)):Opens enc P w base spare held t fun cs=>∃ b:Int,cs=[.int .i64 b]:=fun fuel cs x h=>by
 obtain⟨n,h,_,_⟩:=DataW.trod_int ht h;exact⟨n,h⟩
theorem zmA (ht:P.underlying t=some (.int .u64)):Opens enc P w base spare held t fun cs=>∃ n:Nat,n<18446744073709551616/\cs=[.int .u64 (n:Int)]:=fun fuel cs x h=>by
 obtain⟨n,rfl,_,hw⟩:=DataW.trod_int ht h;have hb:0<=n/\n<=18446744073709551615:=by
  simp only [Lit.wf,dE,bAT] at hw
  first
   | exact⟨by simpa [IntKind.min,IntKind.signed,IntKind.bits] using hw.1,by simpa [IntKind.max,IntKind.signed,IntKind.bits] using hw.2⟩
   | (simp [IntKind.min,IntKind.max,IntKind.signed,IntKind.bits] at hw;omega)
 exact⟨n.toNat,by omega,by congr 2;omega⟩
theorem ziF {n:Nat} (ht:P.underlying t=some (.array n e)) (he:P.underlying e=some (.int .u8)) (hc:P.cellsOf e=1) (hn:P.cellsOf t=n):Opens enc P w base spare held t fun cs=>∃ bs:List UInt8,bs.length=n/\cs=bs.map u8:=fun fuel cs x h=>by
 obtain⟨bs,h1,h2,_⟩:=zfC ht he hc hn h;exact⟨bs,h1,h2⟩
theorem zjx {β:Type} {n:Nat} (i0:β) {Q:Nat->β->Prop} (h:∀ i,i<n->∃ b,Q i b):∃ bs:List β,bs.length=n/\∀ i (hi:i<bs.length),Q i bs[i]:=by
 have h2:∀ i,∃ b,i<n->Q i b:=fun i=>by
  by_cases hi:i<n
  ·obtain⟨b,hb⟩:=h i hi;exact⟨b,fun _=>hb⟩
  ·exact⟨i0,fun h=>Kv h hi⟩
 obtain⟨g,hg⟩:=Classical.axiomOfChoice h2;refine⟨(List.range n).map g,by simp,fun i hi=>?_⟩;simp only [Ke,List.getElem_range];exact hg i (by simpa using hi)
theorem zm4 {β:Type} {f:β->List Value} {sz:Nat}:∀ (bs:List β) (cs:List Value),cs.length=bs.length*sz->(∀ i (h:i<bs.length),(cs.drop (i*sz)).take sz=f bs[i])->cs=bs.flatMap f
 | [],cs,hl,_=>by simpa using hl
 | b::r,cs,hl,h=>by
  have h0:=h 0 (by simp);simp only [Nat.zero_mul,List.drop_zero,List.getElem_cons_zero] at h0;rw [Kj,<- h0]
  conv=>lhs;rw [<- List.take_append_drop sz cs]
  congr 1;refine zm4 (sz:=sz) r (cs.drop sz) (by rw [Ks,hl,Jq,Nat.add_mul];omega) fun i hi=>?_;have h1:=h (i+1) (by simpa using hi);rw [List.drop_drop];simpa [Nat.add_mul,Nat.add_comm] using h1
theorem ziH {β:Type} (i0:β) {f:β->List Value} {Q:β->Prop} {n sz:Nat} (ht:P.underlying t=some (.array n e)) (hc:P.cellsOf e=sz) (hn:P.cellsOf t=n*sz) (ho:Opens enc P w base spare held e fun cs=>∃ b,Q b/\cs=f b) :
  Opens enc P w base spare held t fun cs=>∃ bs:List β,bs.length=n/\(∀ b∈bs,Q b)/\cs=bs.flatMap f:=fun fuel cs x h=>by
 obtain⟨xs,m,rfl,rfl,hl,hx,hel⟩:=DataW.trod_array ht h;rw [hn] at hl;have each:∀ i,i<n->∃ b:β,Q b/\(cs.drop (i*sz)).take sz=f b:=fun i hi=>by
  have h1:=hel i hi;rw [hc,gE (by omega)] at h1;exact ho _ _ _ h1
 obtain⟨bs,h1,h2⟩:=zjx i0 each;refine⟨bs,h1,fun b hb=>?_,zm4 bs cs (by rw [hl,h1]) fun i hi=>(h2 i hi).2⟩;obtain⟨i,hi,rfl⟩:=List.getElem_of_mem hb;exact (h2 i hi).1
theorem zoC {β:Type} (i0:β) {f:β->List Value} {Q:β->Prop} {sz:Nat} (hp:0<sz) (ht:P.underlying t=some (.slice e)) (hc:P.cellsOf e=sz) (ho:Opens enc P w base spare held e fun cs=>∃ b,Q b/\cs=f b) :
  Opens enc P w base spare held t fun cs=>∃ (p:Option Addr) (cap:Nat) (l:List β),cs=[.slice p l.length cap]/\l.length<=9223372036854775807/\(p=none->cap=0)/\(∀ b∈l,Q b)/\∃ b o,(l.length=0\/p=some ⟨b,o,none⟩)/\∀ i (hi:i<l.length),b<w.heap.size/\zav w ⟨b,o+i*sz,none⟩ (f l[i]):=fun fuel cs x h=>by
 rcases DataW.trod_slice ht h with ⟨rfl,_⟩ | ⟨a,len,cap,elems,rest,n,_,rfl,_,_,hlc,hcm,hlen,hel,_,_⟩
 ·exact⟨none,0,[],rfl,by simp,fun _=>rfl,by simp,0,0,.inl rfl,fun i hi=>by simp at hi⟩
 ·have each:∀ i,i<len->∃ m:β,Q m/\(a.add (i*sz)).spot=none/\(a.add (i*sz)).block<w.heap.size/\zav w ⟨(a.add (i*sz)).block,(a.add (i*sz)).off,none⟩ (f m):=fun i hi=>by
   have h1:=hel i hi;rw [hc,gE (by omega),Option.bind_eq_some_iff] at h1;obtain⟨cs,h2,h3⟩:=h1;obtain⟨m,hq,rfl⟩:=ho _ _ _ h3;exact⟨m,hq,zfi hp h2⟩
  obtain⟨l,h1,h2⟩:=zjx i0 each;have hm:maxLen=9223372036854775807:=rfl;refine⟨some a,cap,l,by rw [h1],by omega,(fun h=>by cases h),fun b hb=>?_,a.block,a.off,?_,fun i hi=>?_⟩
  ·obtain⟨i,hi,rfl⟩:=List.getElem_of_mem hb;exact (h2 i hi).1
  ·by_cases h00:l.length=0
   ·exact .inl h00
   ·right;have hsp:a.spot=none:=by
     have:=(h2 0 (by omega)).2.1;simpa [Addr.add] using this
    obtain⟨b,o,s⟩:=a;dsimp only at hsp;subst hsp;rfl
  ·have hsp:a.spot=none:=by
    have:=(h2 0 (by omega)).2.1;simpa [Addr.add] using this
   obtain⟨b,o,s⟩:=a;dsimp only at hsp;subst hsp;have:=(h2 i hi).2.2;rw [zid] at this;exact this
theorem cut (cs:List Value) (o n o':Nat) (h:o+n=o'):cs.drop o=(cs.drop o).take n++cs.drop o':=by
 rw [<- h,<- List.drop_drop,List.take_append_drop]
end
theorem cC (t n:Nat) (h:Tryz.prog.cellsOf t=n):Tryz.prog.cellsOf t=n:=h
theorem zeY {H:Type} {enc:TypeId×Value->H} {a:Assume} {C:Checked} {os:Os} {f:FuncId} {fn:Func} {s:ChangeSpec} {conds:List PathCond} {apart fresh handsOn again:Bool} {X:World->Array Value->Prop}
  (hX:∀ (w w':World) (args:Array Value),w.heap=w'.heap->X w args->X w' args)
  (own:ownKnob C.prog.godebug=none) (started:os.Started) (noInit:C.prog.inits.idxOf? f=none) (hfn:C.prog.funcs[f]?=some fn)
  (witness:∃ (w:World) (tape:Tape) (i:Input),w.os=os/\(w.forCall tape i).Shaped C.prog/\i.vars=[]/\Input.okWide C.prog (w.forCall tape i) .any w.heap.size f i /\
   ((s.pre enc C.prog fn conds apart (w.forCall tape i).memory i.args/\X (w.forCall tape i).memory i.args)/\sizedMet enc C.prog fn (OpenSpec.ofChange s) apart (w.forCall tape i).memory i.args)/\a.holds C.prog (lone (Frame.enter C.prog f i.args .normal) [] (w.forCall tape i)))
  (contract:∀ (W:World) (base:Nat) (args:Array Value) (ds gs:List (DataW H)) (before:List MemPlace),
   (∀ (j:Nat) t v,fn.params[j]?=some t->args[j]?=some v->Value.okWide C.prog W .any base t v) ->
   DataW.Whole enc C.prog fn.params.toList s.vars apart W args.toList ds gs before->X W args->W.ShapedOpen C.prog ->
   (∃ ds gs before,DataW.Whole enc C.prog fn.params.toList (OpenSpec.ofChange s).vars apart W args.toList ds gs before/\∀ n∈DataW.weightsEach C.prog (fn.params.toList++(OpenSpec.ofChange s).bare.plain.varTypes C.prog) (ds++gs),n<=reachBytes) ->
   Calls C.prog f args W fun e W'=>∃ v,e = .returned v/\s.post enc C.prog fn apart fresh handsOn again W args v W') :
  ReturnsInHanded a C os f .any (fun w args=>(s.pre enc C.prog fn conds apart w args/\X w args)/\sizedMet enc C.prog fn (OpenSpec.ofChange s) apart w args) (s.post enc C.prog fn apart fresh handsOn again):=by
 refine returnsInHanded_of_calls own started noInit witness ?_;intro w tape i _ hsh _ hok hpre hholds;obtain⟨_,_,_,fn',hfn',_,_,_,_,hval⟩:=hok;have e:fn'=fn:=Jg (hfn'.symm.trans hfn);subst e;obtain⟨⟨⟨ds,gs,before,hw,hc⟩,hx⟩,hz⟩:=hpre;have hw':=DataW.Whole.of_heap (w':=w.forCall tape i) (by rfl) hw;obtain⟨_,ds2,gs2,before2,hw2,hall⟩:=hz;refine (contract (w.forCall tape i) w.heap.size i.args ds gs before hval hw' (hX _ _ _ (by rfl) hx) hsh ⟨ds2,gs2,before2,DataW.Whole.of_heap (w':=w.forCall tape i) (by rfl) hw2,fun n hn=>dT (Je.1 hall n hn)⟩).mono fun e W' ⟨v,he,hp⟩=>?_;subst he;exact ChangeSpec.post_blind hp
section
variable {H:Type} {enc:TypeId×Value->H} {P:Program} {w:World} {base:Nat} {spare:Nat->Bool} {held:Bool} {fuel:Nat} {t:TypeId} {cs:List Value} {x:DataW H×List MemPlace}
def Wgt (P:Program) (t:TypeId) (d:DataW H):Prop:=∀ n∈d.weights P t,n<=reachBytes
theorem zpS {ds:List (DataW H)} {e:TypeId} (h:∀ n∈DataW.weightsAll P e ds,n<=reachBytes):∀ d∈ds,Wgt P e d:=by
 induction ds with
 | nil=>intro d hd;cases hd
 | cons a r ih =>
  intro d hd;simp only [DataW.weightsAll,JM] at h;rcases JV.1 hd with rfl | hd
  ·exact fun n hn=>h n (.inl hn)
  ·exact ih (fun n hn=>h n (.inr hn)) d hd
end
theorem zhS {H:Type}:∀ {a b:List UInt8},a.map (fun b=>(DataW.lit (.int .u8 b.toNat):DataW H))=b.map (fun b=>DataW.lit (.int .u8 b.toNat))->a=b
 | [],[],_=>rfl
 | [],_::_,h=>by cases h
 | _::_,[],h=>by cases h
 | x::a,y::b,h=>by
  simp only [List.map_cons,List.cons.injEq,DataW.lit.injEq,Lit.int.injEq,true_and] at h;rw [zhS h.2,Kh.1 (by omega:x.toNat=y.toNat)]
set_option linter.unusedSectionVars false
section
variable {H:Type} {enc:TypeId×Value->H} {P:Program} {w:World} {base:Nat} {spare:Nat->Bool} {held:Bool} {fuel:Nat} {t:TypeId} {cs:List Value} {x:DataW H×List MemPlace}
theorem zgY {n:Nat} {e:TypeId} (ht:P.underlying t=some (.array n e)) (he:P.underlying e=some .string) (hc:P.cellsOf e=1) (hn:P.cellsOf t=n)
  (h:DataW.trod enc P w base spare held fuel t cs=some x):∃ ls:List (List UInt8),ls.length=n/\cs=ls.map strV/\x.1 = .agg (ls.map fun b => .lit (.string b)):=by
 obtain⟨xs,m,rfl,rfl,hl,hx,hel⟩:=DataW.trod_array ht h;rw [hn] at hl;have each:∀ i (h:i<n),∃ b:List UInt8,cs[i]?=some (strV b)/\xs[i]?.map (·.1)=some (.lit (.string b)):=fun i hi=>by
  have h1:=hel i hi;rw [hc,gE (by omega)] at h1;obtain⟨s,h2,h3,_⟩:=DataW.trod_string he h1;have es:Value.string s=strV s.data.toList:=by unfold strV bs;cases s;rfl
  refine⟨s.data.toList,?_,by rw [gE (by omega),Ko,h3]⟩;have:((cs.drop (i*1)).take 1)[0]?=some (strV s.data.toList):=by rw [h2,es];rfl
  simpa using this
 have:∀ k,k<=n->∃ ls:List (List UInt8),ls.length=k/\cs.take k=ls.map strV/\(xs.take k).map (·.1)=ls.map fun b => .lit (.string b):=by
  intro k
  induction k with
  | zero=>exact fun _=>⟨[],rfl,by simp,by simp⟩
  | succ k ih =>
   intro hk;obtain⟨ls,h1,h2,h3⟩:=ih (by omega);obtain⟨b,h4,h5⟩:=each k (by omega);have hk1:k<cs.length:=by omega
   have hk2:k<xs.length:=by omega
   rw [gE hk1] at h4;rw [gE hk2] at h5;refine⟨ls++[b],by simp [h1],?_,?_⟩
   ·rw [tsg hk1,h2,Jg h4];simp
   ·rw [tsg hk2,Jw,h3];simp at h5;simp [h5]
 obtain⟨ls,h1,h2,h3⟩:=this n (Jb _);rw [Jy (by omega)] at h2 h3;exact⟨ls,h1,h2,by rw [<- h3]⟩
theorem zhr:∀ {a b:List (List UInt8)},(a.map fun b=>(DataW.lit (.string b):DataW Unit))=(b.map fun b => .lit (.string b))->a=b
 | [],[],_=>rfl
 | [],_::_,h=>by cases h
 | _::_,[],h=>by cases h
 | x::r,y::t,h=>by
  simp only [List.map_cons,List.cons.injEq,DataW.lit.injEq,Lit.string.injEq] at h;rw [h.1,zhr h.2]
def strZ:List Int:=[0,0,1,2,3,4,0,0,0,0]
theorem zoZ {W:World} (h1:zav W ⟨3,0,none⟩ (zaW.map strV)) (h2:zav W ⟨1,0,none⟩ (strZ.map i64)) (h3:zav W ⟨2,0,none⟩ (zb1.map strV)) (h4:zav W ⟨0,0,none⟩ (zhH.map i64)) (h5:GlobC W) (h6:Tz64M W) (h7:Tz32M W):GlobA W:=by
 refine⟨⟨h1,h2,h3,h4,?_⟩,⟨h5,h6,h7⟩⟩;have h0:=h1 0 _ rfl;unfold World.cell? at h0
 split at h0
 ·rename_i hb;exact hlt hb
 ·cases h0
end
section
variable {H:Type} {enc:TypeId×Value->H} {P:Program} {w:World} {base:Nat} {spare:Nat->Bool} {held:Bool} {fuel F:Nat} {t e:TypeId} {cs:List Value} {x:DataW H×List MemPlace}
def OpensW (enc:TypeId×Value->H) (P:Program) (w:World) (base:Nat) (spare:Nat->Bool) (held:Bool) (F:Nat) (t:TypeId) (R:List Value->Prop):Prop :=
 ∀ n,n<F->∀ cs x,DataW.trod enc P w base spare held n t cs=some x->Wgt P t x.1->R cs
theorem zmC {R:List Value->Prop} (h:Opens enc P w base spare held t R):OpensW enc P w base spare held F t R:=fun n _ cs x h1 _=>h n cs x h1
theorem OpensW.field {fs:Array Field} {R:List Value->Prop} (ht:P.underlying t=some (.struct fs)) (h:DataW.trod enc P w base spare held fuel t cs=some x) (hw:Wgt P t x.1) (hF:fuel<=F) {i:Nat} {f:Field} (hf:fs[i]?=some f) {T o k:Nat} (hT:f.type=T) (hO:f.offset=o) (hk:P.cellsOf T=k)
  (ho:OpensW enc P w base spare held F T R):R ((cs.drop o).take k):=by
 subst hT hO hk;obtain⟨xs,n,rfl,rfl,hl,hx,hel⟩:=DataW.trod_struct ht h;have h1:=hel i f hf;have hi:i<xs.length:=by rw [hx];exact (JP.1 hf).1
 rw [gE hi] at h1;refine ho n (by omega) _ _ h1 fun m hm=>hw m ?_;simp only [DataW.weights,ht];refine DataW.weights_mem_each (j:=i) (t:=f.type) (d:=xs[i].1) ?_ ?_ m hm
 ·rw [Jm];have:fs.toList[i]?=some f:=by simpa using hf
  rw [this];rfl
 ·rw [Jm,gE hi];rfl
theorem zlf (ht:P.underlying t=some .string):OpensW enc P w base spare held F t fun cs=>∃ s:List UInt8,s.length<=140737488351232/\cs=[strV s]:=fun n _ cs x h hw=>by
 obtain⟨s,rfl,rfl,_⟩:=DataW.trod_string ht h;refine⟨s.data.toList,hw _ (by simp [DataW.weights]),?_⟩;unfold strV bs;rw [Array.toArray_toList]
theorem zmB {β:Type} (i0:β) {f:β->List Value} {Q:β->Prop} {sz:Nat} (hp:0<sz) (ht:P.underlying t=some (.slice e)) (hc:P.cellsOf e=sz) (hb:Nat.ble 1 (P.bytesOf e)=true) (ho:OpensW enc P w base spare held F e fun cs=>∃ b,Q b/\cs=f b) :
  OpensW enc P w base spare held (F+1) t fun cs=>∃ (p:Option Addr) (cap:Nat) (l:List β),cs=[.slice p l.length cap]/\(l.length<=140737488351232/\l.length*P.bytesOf e<=140737488351232)/\l.length<=cap/\(∀ b∈l,Q b)/\∃ b o,(l.length=0\/p=some ⟨b,o,none⟩)/\∀ i (hi:i<l.length),b<w.heap.size/\zav w ⟨b,o+i*sz,none⟩ (f l[i]):=fun n hn cs x h hw=>by
 rcases DataW.trod_slice ht h with ⟨rfl,_⟩ | ⟨a,len,cap,elems,rest,n,rfl,rfl,hx,_,hlc,hcm,hlen,hel,_,_⟩
 ·exact⟨none,0,[],rfl,⟨by simp,by simp⟩,by simp,by simp,0,0,.inl rfl,fun i hi=>by simp at hi⟩
 ·subst hx;have hw':∀ m,m∈((elems.map (·.1)).length+(rest.map (·.1)).length)*P.bytesOf e::(DataW.weightsAll P e (elems.map (·.1))++DataW.weightsAll P e (rest.map (·.1)))->m<=reachBytes:=fun m hm=>by
   refine hw m ?_;simp only [DataW.weights,ht];exact hm
  have hb:=JO hb;have hlb:len<=140737488351232/\len*P.bytesOf e<=140737488351232:=by
   have h1:=hw' _ Jv;simp only [Jc] at h1;have:elems.length*1<=(elems.length+rest.length)*P.bytesOf e:=Nat.mul_le_mul (Nat.le_add_right _ _) hb;have h2:elems.length*P.bytesOf e<=(elems.length+rest.length)*P.bytesOf e:=Nat.mul_le_mul (Nat.le_add_right _ _) (Jb _);have hr:reachBytes=140737488351232:=rfl;rw [<- hlen];omega
  have each:∀ i,i<len->∃ m:β,Q m/\(a.add (i*sz)).spot=none/\(a.add (i*sz)).block<w.heap.size/\zav w ⟨(a.add (i*sz)).block,(a.add (i*sz)).off,none⟩ (f m):=fun i hi=>by
   have h1:=hel i hi;rw [hc,gE (by omega),Option.bind_eq_some_iff] at h1;obtain⟨cs,h2,h3⟩:=h1;obtain⟨m,hq,rfl⟩:=ho n (by omega) _ _ h3 (zpS (ds:=elems.map (·.1)) (fun m hm=>hw' m (JB _ (List.mem_append_left _ hm))) _ (List.mem_map_of_mem (gM _)));exact⟨m,hq,zfi hp h2⟩
  obtain⟨l,h1,h2⟩:=zjx i0 each;refine⟨some a,cap,l,by rw [h1],by rw [h1];exact hlb,by omega,fun b hb=>?_,a.block,a.off,?_,fun i hi=>?_⟩
  ·obtain⟨i,hi,rfl⟩:=List.getElem_of_mem hb;exact (h2 i hi).1
  ·by_cases h00:l.length=0
   ·exact .inl h00
   ·right;have hsp:a.spot=none:=by
     have:=(h2 0 (by omega)).2.1;simpa [Addr.add] using this
    obtain⟨b,o,s⟩:=a;dsimp only at hsp;subst hsp;rfl
  ·have hsp:a.spot=none:=by
    have:=(h2 0 (by omega)).2.1;simpa [Addr.add] using this
   obtain⟨b,o,s⟩:=a;dsimp only at hsp;subst hsp;have:=(h2 i hi).2.2;rw [zid] at this;exact this
end
section
variable {H:Type} {enc:TypeId×Value->H} {w:World} {base:Nat} {spare:Nat->Bool} {held:Bool} {F:Nat}
theorem zgX:∀ F,OpensW enc Tryz.prog w base spare held F 24 fun cs=>∃ x:Trm×Option Addr×Nat,(x.1.name.length<=140737488351232/\KidsT (fun _=>True) w x.2.1 x.1.kids)/\cs=zad x.1 x.2.1 x.2.2
 | 0=>fun n hn=>Kv hn (Nat.not_lt_zero _)
 | F+1=>fun n hn cs x h hw=>by
  have ih:=zgX F;have hF:n<=F+1:=by omega
  have hl:cs.length=3:=by
   obtain⟨xs,m,_,_,hl,_,_⟩:=DataW.trod_struct Tryz.underlying24 h;rw [cC 24 3 (by kernel_rfl)] at hl;exact hl
  obtain⟨b0,e0⟩:=OpensW.field (F:=F+1) (o:=0) (i:=0) Tryz.underlying24 h hw hF rfl rfl rfl zeO (zmC (zdn Tryz.underlying5));obtain⟨nq,k1,e1⟩:=OpensW.field (F:=F+1) (o:=1) (i:=1) Tryz.underlying24 h hw hF rfl rfl rfl (cC 9 1 (by kernel_rfl)) (zlf Tryz.underlying9);obtain⟨p,cap,l,e2,hll,_,hQ,b,o,hp,hc⟩:=OpensW.field (F:=F+1) (o:=2) (i:=2) Tryz.underlying24 h hw hF rfl rfl rfl (cC 22 1 (by kernel_rfl))
   (zmB (F:=F) ((.mk 0 [] [],none,0):Trm×Option Addr×Nat) (f:=fun x=>zad x.1 x.2.1 x.2.2) (Q:=fun x=>x.1.name.length<=140737488351232/\KidsT (fun _=>True) w x.2.1 x.1.kids) (sz:=3) (by decide) Tryz.underlying22 (by kernel_rfl) (by kernel_rfl) ih)
  have at_:∀ i (hi:i<l.length),l.getD i (.mk 0 [] [],none,0)=l[i]:=fun i hi=>by rw [gDe,gE hi];rfl
  refine⟨(.mk b0 nq (l.map (·.1)),p,cap),⟨k1,?_⟩,?_⟩
  ·refine .mk p (l.map (·.1)) (by rw [Jc];exact hll.1) b o (by rw [Jc];exact hp) (fun i=>(l.getD i (.mk 0 [] [],none,0)).2.1) (fun i=>(l.getD i (.mk 0 [] [],none,0)).2.2) (fun i hi=>?_) (fun i hi=>?_)
   ·have hi':i<l.length:=(by rw [Jc] at hi;exact hi);rw [at_ i hi',Ke];exact⟨(hQ _ (gM hi')).1,trivial,(hc i hi').2⟩
   ·have hi':i<l.length:=(by rw [Jc] at hi;exact hi);rw [at_ i hi',Ke];exact (hQ _ (gM hi')).2
  ·have h0:cs=cs.drop 0:=rfl;have h9:cs.drop 3=[]:=JI (by omega);rw [h0,cut cs 0 1 1 rfl,cut cs 1 1 2 rfl,cut cs 2 1 3 rfl,e0,e1,e2,h9];simp [zad,Trm.kind,Trm.name,Trm.kids]
theorem ziI {a:Array Value} {d:DataW H} {p:List MemPlace} (h:DataW.Trod enc Tryz.prog w base spare held 24 (.agg a) d p) (hw:Wgt Tryz.prog 24 d):∃ (t:Trm) (q:Option Addr) (c:Nat),Value.agg a = .agg (zad t q c).toArray/\t.name.length<=140737488351232/\KidsT AllB w q t.kids:=by
 obtain⟨fuel,h⟩:=h;obtain⟨x,hx,hc⟩:=zgX (fuel+1) fuel (Kg _) _ _ h hw;have:a.toList=zad x.1 x.2.1 x.2.2:=hc;exact⟨x.1,x.2.1,x.2.2,by rw [<- this],hx⟩
end
theorem zhP {α:Type} (d:α) (f:α->Value) (n:Nat) (l:List α) (h:l.length=n):l.map f=(List.range n).map fun i=>f (l.getD i d):=by
 apply List.ext_getElem?;intro i;rw [Jm,Jm];by_cases hi:i<n
 ·rw [List.getElem?_range hi,gE (by omega),Ko,Ko,gDe,gE (by omega)];rfl
 ·rw [Jo (by omega),Jo (by rw [Kf];omega)];rfl
theorem zgo {α:Type} (f:α->Value):∀ l:List α,l.flatMap (fun x=>[f x])=l.map f
 | []=>rfl
 | a::l=>by rw [Kj,zgo f l];rfl
theorem flatMap_map {α:Type} (f:α->Value):∀ l:List (List α),l.flatMap (fun x=>x.map f)=l.flatten.map f
 | []=>rfl
 | a::l=>by rw [Kj,flatMap_map f l,List.flatten_cons,Jw]
section
variable {H:Type} {enc:TypeId×Value->H} {w:World} {base:Nat} {spare:Nat->Bool} {held:Bool}
theorem zoD:Opens enc Tryz.prog w base spare held 158 fun cs=>∃ e:Ev,True/\cs=evE.enc e:=fun fuel cs x h=>by
 obtain⟨xs,m,rfl,rfl,hl,hx,hel⟩:=DataW.trod_struct Tryz.underlying158 h;rw [cC 158 7 (by kernel_rfl)] at hl;obtain⟨b0,e0⟩:=Opens.field (o:=0) (i:=0) hel hx rfl rfl (cC 3 1 (by kernel_rfl)) (ziG Tryz.underlying3);obtain⟨b1,e1⟩:=Opens.field (o:=1) (i:=1) hel hx rfl rfl zeO (zdn Tryz.underlying5);obtain⟨b2,e2⟩:=Opens.field (o:=2) (i:=2) hel hx rfl rfl zeO (zdn Tryz.underlying5);obtain⟨b3,e3⟩:=Opens.field (o:=3) (i:=3) hel hx rfl rfl zeO (zdn Tryz.underlying5);obtain⟨b4,e4⟩:=Opens.field (o:=4) (i:=4) hel hx rfl rfl zeO (zdn Tryz.underlying5);obtain⟨b5,e5⟩:=Opens.field (o:=5) (i:=5) hel hx rfl rfl zeO (zdn Tryz.underlying5);obtain⟨b6,e6⟩:=Opens.field (o:=6) (i:=6) hel hx rfl rfl zeO (zdn Tryz.underlying5);refine⟨⟨b0,b1,b2,b3,b4,b5,b6⟩,trivial,?_⟩;have h0:cs=cs.drop 0:=rfl;have h9:cs.drop 7=[]:=JI (by omega);rw [h0,cut cs 0 1 1 rfl,cut cs 1 1 2 rfl,cut cs 2 1 3 rfl,cut cs 3 1 4 rfl,cut cs 4 1 5 rfl,cut cs 5 1 6 rfl,cut cs 6 1 7 rfl,e0,e1,e2,e3,e4,e5,e6,h9];rfl
theorem zc4:Opens enc Tryz.prog w base spare held 30 fun cs=>∃ r:RelD,WrdR r.to/\cs=relC r:=fun fuel cs x h=>by
 obtain⟨xs,m,rfl,rfl,hl,hx,hel⟩:=DataW.trod_struct Tryz.underlying30 h;rw [cC 30 49 (by kernel_rfl)] at hl;obtain⟨n,e0⟩:=Opens.field (o:=0) (i:=0) hel hx rfl rfl (cC 3 1 (by kernel_rfl)) (ziG Tryz.underlying3);obtain⟨bs,h1,h2,e1⟩:=Opens.field (o:=1) (i:=1) hel hx rfl rfl (cC 28 48 (by kernel_rfl)) (ziH (β:=Nat) 0 (f:=fun n=>[s64 n]) (Q:=fun n=>n<18446744073709551616) (n:=48) (sz:=1) Tryz.underlying28 (by kernel_rfl) (by kernel_rfl) (zmA Tryz.underlying27));refine⟨⟨n,fun i=>bs.getD i 0⟩,fun i hi=>?_,?_⟩
 ·show bs.getD i 0<2^64;rw [gDe,gE (by omega)];exact h2 _ (gM _)
 have h0:cs=cs.drop 0:=rfl;have h9:cs.drop 49=[]:=JI (by omega);rw [h0,cut cs 0 1 1 rfl,cut cs 1 48 49 rfl,e0,e1,h9,zgo,zhP 0 s64 48 bs h1,Jk];rfl
theorem zjp:Opens enc Tryz.prog w base spare held 35 fun cs=>∃ (f g:Nat->UInt8),cs=seg 32 (fun i=>u8 (f i))++seg 6 (fun i=>u8 (g i)):=fun fuel cs x h=>by
 obtain⟨xs,m,rfl,rfl,hl,hx,hel⟩:=DataW.trod_struct Tryz.underlying35 h;rw [cC 35 38 (by kernel_rfl)] at hl;have row:Opens enc Tryz.prog w base spare held 31 fun cs=>∃ bs:List UInt8,bs.length=8/\cs=bs.map u8:=ziF Tryz.underlying31 Tryz.underlying5 zeO (cC 31 8 (by kernel_rfl));obtain⟨bss,h1,h2,e0⟩:=Opens.field (o:=0) (i:=0) hel hx rfl rfl (cC 32 32 (by kernel_rfl)) (ziH (β:=List UInt8) [] (f:=fun bs=>bs.map u8) (Q:=fun bs=>bs.length=8) (n:=4) (sz:=8) Tryz.underlying32 (by kernel_rfl) (by kernel_rfl) row);obtain⟨ms,h3,e1⟩:=Opens.field (o:=32) (i:=1) hel hx rfl rfl (cC 33 6 (by kernel_rfl)) (ziF Tryz.underlying33 Tryz.underlying5 zeO (cC 33 6 (by kernel_rfl)));have hfl:bss.flatten.length=32:=by
  match bss,h1 with
  | [a,b,c,d],_ =>
   have:=h2 a (by simp);have:=h2 b (by simp);have:=h2 c (by simp);have:=h2 d (by simp);simp only [List.flatten_cons,List.flatten_nil,lap,JW];omega
 refine⟨fun i=>bss.flatten.getD i 0,fun i=>ms.getD i 0,?_⟩;have h0:cs=cs.drop 0:=rfl;have h9:cs.drop 38=[]:=JI (by omega);rw [h0,cut cs 0 32 32 rfl,cut cs 32 6 38 rfl,e0,e1,h9,flatMap_map,zhP 0 u8 32 _ hfl,zhP 0 u8 6 ms h3,Jk];rfl
theorem zrU {α:Type} {E:Enc α} {p:Option Addr} {l:List α} {b o:Nat} (h1:l.length=0\/p=some ⟨b,o,none⟩) (h2:∀ i (hi:i<l.length),b<w.heap.size/\zav w ⟨b,o+i*E.sz,none⟩ (E.enc l[i])):SlR E w p l:=by
 rcases h1 with h | h
 ·exact .inl (JS h)
 ·by_cases h0:l=[]
  ·exact .inl h0
  ·have hl:=List.length_pos_iff.2 h0;exact .inr ⟨b,o,h,(h2 0 hl).1,fun i hi=>(h2 i hi).2⟩
theorem zle:Opens enc Tryz.prog w base spare held 37 fun cs=>∃ (x:ExD) (q:Option Addr) (c:Nat),(SlR evE w q x.ev/\WX x)/\cs=exC x q c:=fun fuel cs x h=>by
 obtain⟨xs,m,rfl,rfl,hl,hx,hel⟩:=DataW.trod_struct Tryz.underlying37 h;rw [cC 37 333 (by kernel_rfl)] at hl;obtain⟨q,c,l,e0,_,_,_,b,o,hp,hc⟩:=Opens.field (o:=0) (i:=0) hel hx rfl rfl (cC 25 1 (by kernel_rfl)) (zoC (β:=Ev) ev0 (f:=evE.enc) (Q:=fun _=>True) (sz:=7) (by decide) Tryz.underlying25 (by kernel_rfl) zoD);have c49:=cC 30 49 (by kernel_rfl);obtain⟨r1,w1,e1⟩:=Opens.field (o:=1) (i:=1) hel hx rfl rfl c49 zc4;obtain⟨r2,w2,e2⟩:=Opens.field (o:=50) (i:=2) hel hx rfl rfl c49 zc4;obtain⟨r3,w3,e3⟩:=Opens.field (o:=99) (i:=3) hel hx rfl rfl c49 zc4;obtain⟨r4,w4,e4⟩:=Opens.field (o:=148) (i:=4) hel hx rfl rfl c49 zc4;obtain⟨r5,w5,e5⟩:=Opens.field (o:=197) (i:=5) hel hx rfl rfl c49 zc4;obtain⟨r6,w6,e6⟩:=Opens.field (o:=246) (i:=6) hel hx rfl rfl c49 zc4;obtain⟨f,g,e7⟩:=Opens.field (o:=295) (i:=7) hel hx rfl rfl (cC 35 38 (by kernel_rfl)) zjp;refine⟨⟨l,r1,r2,r3,r4,r5,r6,f,g⟩,q,c,⟨zrU hp hc,⟨w1,w2,w3,w4,w5,w6⟩⟩,?_⟩;have h0:cs=cs.drop 0:=rfl;have h9:cs.drop 333=[]:=JI (by omega);rw [h0,cut cs 0 1 1 rfl,cut cs 1 49 50 rfl,cut cs 50 49 99 rfl,cut cs 99 49 148 rfl,cut cs 148 49 197 rfl,cut cs 197 49 246 rfl,cut cs 246 49 295 rfl,cut cs 295 38 333 rfl,e0,e1,e2,e3,e4,e5,e6,e7,h9,Jk];rfl
theorem zlg {a:Array Value} {d:DataW H} {p:List MemPlace} (h:DataW.Trod enc Tryz.prog w base spare held 37 (.agg a) d p):∃ (x:ExD) (q:Option Addr) (c:Nat),Value.agg a = .agg (exC x q c).toArray/\(SlR evE w q x.ev/\WX x):=by
 obtain⟨fuel,h⟩:=h;obtain⟨x,q,c,hr,hc⟩:=zle _ _ _ h;have:a.toList=exC x q c:=hc;exact⟨x,q,c,by rw [<- this],hr⟩
end
structure GlobL11 (W:World):Prop where
 t32:Tz32M W
 t64:Tz64M W
 needs:GlobC W
 cnd:zav W ⟨0,0,none⟩ (zhH.map i64)
 cst:zav W ⟨1,0,none⟩ (strZ.map i64)
 csg:zav W ⟨2,0,none⟩ (zb1.map strV)
 cop:zav W ⟨3,0,none⟩ (zaW.map strV)
abbrev zbS : List (String × DataW Unit) := [("math/bits.deBruijn32tab", Rows.laid_math_bits_deBruijn32tab), ("math/bits.deBruijn64tab", Rows.laid_math_bits_deBruijn64tab), ("seisin/check.needs", Rows.laid_seisin_check_needs), ("seisin/cat.needs", Rows.laid_seisin_cat_needs), ("seisin/cat.strength", Rows.laid_seisin_cat_strength), ("seisin/cat.signs", Rows.laid_seisin_cat_signs), ("seisin/cat.openers", Rows.laid_seisin_cat_openers)]
theorem zaZ {W:World} (h:laidMetH Tryz.prog zbS W) (hsh:W.ShapedOpen Tryz.prog):GlobL11 W:=by
 have h0:laidMet Tryz.prog zbS W:=h;have h1:=h0.tail;have h2:=h1.tail;have h3:=h2.tail;have h4:=h3.tail;have h5:=h4.tail;have h6:=h5.tail;have t32:Tz32M W:=by
  obtain⟨ps,⟨g',t',cs,fuel,p,q,hg',ht',hv,hd,_,_⟩,_⟩:=h0
  obtain rfl := Jg ((show Tryz.prog.globalNamed "math/bits.deBruijn32tab" = some 9 by kernel_rfl).symm.trans hg')
  obtain rfl:=Jg ((show (Tryz.prog.globals[9]?).map (·.type)=some 369 by kernel_rfl).symm.trans ht');obtain⟨bs,h1,h2,h3⟩:=zfC Tryz.underlying369 Tryz.underlying5 (by kernel_rfl) (by kernel_rfl) hd;have hbs:bs=zkX:=by
   have e:(Rows.laid_math_bits_deBruijn32tab:DataW Unit) = .agg (zkX.map fun b => .lit (.int .u8 b.toNat)):=rfl;exact zhS (DataW.agg.inj (h3.symm.trans e))
  subst hbs;refine za8 fun i v hvv=>?_;have hc:=World.var?_cell hg' hv i;rw [<- hvv,<- h2];simpa using hc
 have t64:Tz64M W:=by
  obtain⟨ps,⟨g',t',cs,fuel,p,q,hg',ht',hv,hd,_,_⟩,_⟩:=h1
  obtain rfl := Jg ((show Tryz.prog.globalNamed "math/bits.deBruijn64tab" = some 4 by kernel_rfl).symm.trans hg')
  obtain rfl:=Jg ((show (Tryz.prog.globals[4]?).map (·.type)=some 299 by kernel_rfl).symm.trans ht');obtain⟨bs,h1,h2,h3⟩:=zfC Tryz.underlying299 Tryz.underlying5 (by kernel_rfl) (by kernel_rfl) hd;have hbs:bs=zkW:=by
   have e:(Rows.laid_math_bits_deBruijn64tab:DataW Unit) = .agg (zkW.map fun b => .lit (.int .u8 b.toNat)):=rfl;exact zhS (DataW.agg.inj (h3.symm.trans e))
  subst hbs;refine za8 fun i v hvv=>?_;have hc:=World.var?_cell hg' hv i;rw [<- hvv,<- h2];simpa using hc
 have needs:GlobC W:=by
  obtain⟨ps,⟨g',t',cs,fuel,p,q,hg',ht',hv,hd,_,_⟩,_⟩:=h2
  obtain rfl := Jg ((show Tryz.prog.globalNamed "seisin/check.needs" = some 8 by kernel_rfl).symm.trans hg')
  obtain rfl:=Jg ((show (Tryz.prog.globals[8]?).map (·.type)=some 359 by kernel_rfl).symm.trans ht');obtain⟨bs,h1,h2,h3⟩:=zfC Tryz.underlying359 Tryz.underlying5 (by kernel_rfl) (by kernel_rfl) hd;have hbs:bs=zhI:=by
   match bs,h1 with
   | [b0,b1,b2,b3,b4,b5,b6,b7,b8],_ =>
    simp only [Rows.laid_seisin_check_needs,List.map_cons,List.map_nil,DataW.agg.injEq,List.cons.injEq,DataW.lit.injEq,Lit.int.injEq,true_and,and_true] at h3;simp only [zhI,List.cons.injEq,and_true];obtain⟨a0,a1,a2,a3,a4,a5,a6,a7,a8⟩:=h3;refine⟨?_,?_,?_,?_,?_,?_,?_,?_,?_⟩ <;> (apply Kh.1;simp;omega)
  subst hbs;refine za8 fun i v hvv=>?_;have hc:=World.var?_cell hg' hv i;rw [<- hvv,<- h2];simpa using hc
 have cnd:zav W ⟨0,0,none⟩ (zhH.map i64):=by
  obtain⟨ps,⟨g',t',cs,fuel,p,q,hg',ht',hv,hd,_,_⟩,_⟩:=h3
  obtain rfl := Jg ((show Tryz.prog.globalNamed "seisin/cat.needs" = some 0 by kernel_rfl).symm.trans hg')
  obtain rfl:=Jg ((show (Tryz.prog.globals[0]?).map (·.type)=some 180 by kernel_rfl).symm.trans ht');obtain⟨bs,h1,h2,h3⟩:=zmF Tryz.underlying180 Tryz.underlying3 (by kernel_rfl) (by kernel_rfl) hd;have hbs:bs=zhH:=by
   match bs,h1 with
   | [b0,b1,b2,b3,b4,b5,b6,b7,b8,b9],_ =>
    simp only [Rows.laid_seisin_cat_needs,List.map_cons,List.map_nil,DataW.agg.injEq,List.cons.injEq,DataW.lit.injEq,Lit.int.injEq,true_and,and_true] at h3;simp only [zhH,List.cons.injEq,and_true];obtain⟨a0,a1,a2,a3,a4,a5,a6,a7,a8,a9⟩:=h3;exact⟨a0.symm,a1.symm,a2.symm,a3.symm,a4.symm,a5.symm,a6.symm,a7.symm,a8.symm,a9.symm⟩
  subst hbs;refine za8 fun i v hvv=>?_;have hc:=World.var?_cell hg' hv i;rw [<- hvv,<- h2];simpa using hc
 have cst:zav W ⟨1,0,none⟩ (strZ.map i64):=by
  obtain⟨ps,⟨g',t',cs,fuel,p,q,hg',ht',hv,hd,_,_⟩,_⟩:=h4
  obtain rfl := Jg ((show Tryz.prog.globalNamed "seisin/cat.strength" = some 1 by kernel_rfl).symm.trans hg')
  obtain rfl:=Jg ((show (Tryz.prog.globals[1]?).map (·.type)=some 180 by kernel_rfl).symm.trans ht');obtain⟨bs,h1,h2,h3⟩:=zmF Tryz.underlying180 Tryz.underlying3 (by kernel_rfl) (by kernel_rfl) hd;have hbs:bs=strZ:=by
   match bs,h1 with
   | [b0,b1,b2,b3,b4,b5,b6,b7,b8,b9],_ =>
    simp only [Rows.laid_seisin_cat_strength,List.map_cons,List.map_nil,DataW.agg.injEq,List.cons.injEq,DataW.lit.injEq,Lit.int.injEq,true_and,and_true] at h3;simp only [strZ,List.cons.injEq,and_true];obtain⟨a0,a1,a2,a3,a4,a5,a6,a7,a8,a9⟩:=h3;exact⟨a0.symm,a1.symm,a2.symm,a3.symm,a4.symm,a5.symm,a6.symm,a7.symm,a8.symm,a9.symm⟩
  subst hbs;refine za8 fun i v hvv=>?_;have hc:=World.var?_cell hg' hv i;rw [<- hvv,<- h2];simpa using hc
 have csg:zav W ⟨2,0,none⟩ (zb1.map strV):=by
  obtain⟨ps,⟨g',t',cs,fuel,p,q,hg',ht',hv,hd,_,_⟩,_⟩:=h5
  obtain rfl := Jg ((show Tryz.prog.globalNamed "seisin/cat.signs" = some 2 by kernel_rfl).symm.trans hg')
  obtain rfl:=Jg ((show (Tryz.prog.globals[2]?).map (·.type)=some 185 by kernel_rfl).symm.trans ht');obtain⟨bs,h1,h2,h3⟩:=zgY Tryz.underlying185 Tryz.underlying9 (by kernel_rfl) (by kernel_rfl) hd;have hbs:bs=zb1:=zhr (DataW.agg.inj ((show (DataW.agg (zb1.map fun b => .lit (.string b)):DataW Unit)=_ from h3).symm.trans rfl).symm) |>.symm;subst hbs;refine za8 fun i v hvv=>?_;have hc:=World.var?_cell hg' hv i;rw [<- hvv,<- h2];simpa using hc
 have cop:zav W ⟨3,0,none⟩ (zaW.map strV):=by
  obtain⟨ps,⟨g',t',cs,fuel,p,q,hg',ht',hv,hd,_,_⟩,_⟩:=h6
  obtain rfl := Jg ((show Tryz.prog.globalNamed "seisin/cat.openers" = some 3 by kernel_rfl).symm.trans hg')
  obtain rfl:=Jg ((show (Tryz.prog.globals[3]?).map (·.type)=some 67 by kernel_rfl).symm.trans ht');obtain⟨bs,h1,h2,h3⟩:=zgY Tryz.underlying67 Tryz.underlying9 (by kernel_rfl) (by kernel_rfl) hd;have hbs:bs=zaW:=zhr (DataW.agg.inj ((show (DataW.agg (zaW.map fun b => .lit (.string b)):DataW Unit)=_ from h3).symm.trans rfl).symm) |>.symm;subst hbs;refine za8 fun i v hvv=>?_;have hc:=World.var?_cell hg' hv i;rw [<- hvv,<- h2];simpa using hc
 exact⟨t32,t64,needs,cnd,cst,csg,cop⟩
def zmS:DataW Unit->List Value
 | .lit (.int k n)=>[.int k n]
 | .lit (.string s)=>[.string ⟨s.toArray⟩]
 | _=>[]
def zel:DataW Unit->List Value
 | .agg ps=>ps.flatMap zmS
 | x=>zmS x
def zeg (h:Array Obj) (g:Nat) (cs:List Value):Array Obj:=h.modify g fun
 | .cells _ t frozen => .cells cs.toArray t frozen
 | o=>o
def zqF (h:Array Obj):Array Obj :=
 let h1:=zeg h 9 (zel Rows.laid_math_bits_deBruijn32tab)
 let h2:=zeg h1 4 (zel Rows.laid_math_bits_deBruijn64tab)
 let h3:=zeg h2 8 (zel Rows.laid_seisin_check_needs)
 let h4:=zeg h3 0 (zel Rows.laid_seisin_cat_needs)
 let h5:=zeg h4 1 (zel Rows.laid_seisin_cat_strength)
 let h6:=zeg h5 2 (zel Rows.laid_seisin_cat_signs)
 zeg h6 3 (zel Rows.laid_seisin_cat_openers)
noncomputable def zfg (os:Os):World :=
 { World.holding Tryz.prog os ⟨#[],#[],[]⟩ with heap:=zqF (World.holding Tryz.prog os ⟨#[],#[],[]⟩).heap }
theorem zfp (os:Os) (args:Array Value):laidMetH Tryz.prog zbS ((zfg os).forCall (fun _ _=>0) ⟨#[],args,[]⟩).memory:=by
 show laidMet Tryz.prog zbS _;exact laidMet_of_run' 8 (by kernel_rfl) (by kernel_rfl)
end Go.Proofs.YtnadlhpkpnfmbaaGreatDoor
