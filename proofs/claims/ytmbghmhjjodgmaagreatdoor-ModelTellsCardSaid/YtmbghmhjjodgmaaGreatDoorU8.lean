/- Contracts of functions, and plain facts, for the law that the last text of this claim proves. -/
import Derived.Test.YtmbghmhjjodgmaaGreatDoorU7
import Derived.Test.YtmbghmhjjodgmaaGreatDoorU5
import Derived.Test.YtmbghmhjjodgmaaGreatDoorU6
import Derived.Test.YtmbghmhjjodgmaaGreatDoorU2
import Derived.Test.YtmbghmhjjodgmaaGreatDoorRows
import Derived.ProofKit
import Derived.OpenShut
import Derived.LaidLaws
import Derived.Below
import Derived.HandedShaped
import Derived.KernelRfl
import Derived.WalkKit
import Derived.ChangeOld
import Derived.SevenTiedAt
import Derived.LaidHandle
import Derived.Stop.LaidErr
import Derived.Lib.LaidTab
import Derived.SizedLaws
import Derived.Test.YtmbghmhjjodgmaaGreatDoorU4
set_option linter.unusedSimpArgs false
set_option linter.unusedVariables false
namespace Go.Proofs.YtmbghmhjjodgmaaGreatDoor
open Go.Vc Go.RowKit Go.Sei
abbrev zbU (p:Prg) (V:List UInt8):List MixD:=zmG p.init (p.threads.map (zaE V))
def zcv (m:MixD):List ExD:=if cntR m 1=0 then [] else zhd m
abbrev zdN (p:Prg) (V:List UInt8):List ExD:=(zbU p V).flatMap zcv
structure CandQ (p:Prg) (n:Nat) (V:List UInt8) (most:Nat):Prop where
 ok:zjq p=true
 il:p.locs.length=p.init.length
 i1:1<=p.init.length
 i6:p.init.length<=6
 is:srt8 p.init=true
 vals:zkU p.threads n (ded p.init)=some V
 v1:1<=V.length
 v12:V.length<=12
 vs:srt8 V=true
 d12:(ded V).length<=12
 t4:p.threads.length<=4
 th:∀ l∈p.threads,ThrQ V l
 all:∀ k,k<=p.threads.length->zeL ((p.threads.take k).map fun l=>(zaE V l).length)<=4096
 pb:∀ l∈p.threads,∀ P∈zaE V l,PathB p.init.length P
 some:∀ ds∈zeC ((p.threads.map (zaE V)).map List.length),(mixR p.init (zeN (p.threads.map (zaE V)) ds)).isSome=true
 ml:(zbU p V).length<=5000
 mb:∀ m∈zbU p V,MixB m
 m20:most<=20000
 cnt:((zbU p V).map fun m=>cntR m 20001).sum<=most
 len:(zdN p V).length<=30000
theorem znU {l:List Nat} (k:Nat):(l.take k).sum<=l.sum:=by
 have:l.sum=(l.take k).sum+(l.drop k).sum:=by rw [<- List.sum_append,List.take_append_drop]
 omega
theorem zqS {m:MixD} {xs ys:List NatL} {lim:Nat} (h1:xs.map (·.1)=m.rs.map (·.2)) (h2:ys.map (·.1)=m.wr):cntF lim (xs.map (·.1)) (ys.map (·.1))=cntR m lim:=by
 rw [h1,h2];rfl
section
variable {w:World} {B n most:Nat} {pc:List Value} {p:Prg} {V:List UInt8}
theorem zri (hB:B<=w.heap.size) (hP:PrgX B w pc p) (hG:GlobE w) (hQ:CandQ p n V most) :
  Calls Tryz.prog 37 #[.agg pc.toArray,i64 most] w fun e w'=>(∃ (xs:List exE3) (q:Option Addr) (c:Nat),e = .returned (.tuple #[.slice q xs.length c,i64 0])/\xs.map (·.1)=zdN p V/\OwnS exE 34 w.heap.size w' q c xs/\∀ x∈xs,OwnS evE 54 w.heap.size w' x.2.1 x.2.2 x.1.ev)/\Bw w w':=by
 refine cofM 74 [.agg pc.toArray,i64 most] (.c .p (.s .p (.s .p (.s .p (.c .p (.s .p (.s .p (.c .p (.c .p (.c .p .p)))))))))) Tryz.func37 ?_;obtain⟨L,hL⟩:=nm (w.heap.size);have hpc:=hP.v.size;have hm20:=hQ.m20;refine⟨Unit,fun _=>⟨[(1,i64 most),(2,At0 L)],[]⟩,fun _ X=>X.heap[L]?=some (.cells pc.toArray 71 (0,0))/\L<X.heap.size/\Bw w X,⟨(),⟨.cons rfl (.cons (by rw [hL];rfl) .nil),rfl⟩,by rw [hL];exact hnew w _,by rw [hL];exact hlt (hnew w _),(zba w _)⟩,?_⟩;rintro _ X ⟨f0,sX,hbX⟩;refine brN (decide_eq_false (by omega)) ?_;refine brN (decide_eq_false (by omega)) ?_;refine⟨pc,hpc,zab f0,hlt f0,?_⟩;refine cmo (znF (Nat.le_trans hB hbX.size) (hP.v.below (hbX.mono hB)) (hG.c.below hbX)) ?_;rintro e Y ⟨m,rfl,hm,hbY⟩;have hm0:m=0:=hm.2 hQ.ok;subst hm0;refine brF ?_;have hwY:=zst hbX hbY;have f0:=zaa hbY f0;refine⟨pc,hpc,zab f0,hlt f0,?_⟩;refine cmo (zoO (Nat.le_trans hB hwY.size) (hP.below (hwY.mono hB)) (hG.below hwY) hQ.ok (fun l hl=>(hQ.th l hl).ex) (fun l hl=>(hQ.th l hl).l12) hQ.i1 (by have:=hQ.i6;omega) hQ.is hQ.vals) ?_;rintro e Z ⟨⟨qv,cv,rfl,oV⟩,hbZ⟩;refine brF ?_;have hwZ:=zst hwY hbZ;have f0:=zaa hbZ f0;clear hbX hbY hwY;obtain⟨V0,hV0⟩:=nm (V);refine⟨List MixX×Option Addr×Nat,fun s=>⟨[(1,i64 most),(8,.slice s.2.1 s.1.length s.2.2),(9,.bool true)],[]⟩,fun s U=>s.1.map (·.m)=zbU p V/\OwnS mixE 119 w.heap.size U s.2.1 s.2.2 s.1/\(∀ x∈s.1,NInM w.heap.size (fun k=>w.heap.size<=k) U x)/\Bw w U,?_,?_⟩
 ·refine cmo (zp4 f0 (Nat.le_trans hB hwZ.size) (hP.below (hwZ.mono hB)) hQ.il hQ.i6 (hG.below hwZ) oV.row hQ.v1 hQ.v12 hQ.vs hQ.d12 hQ.t4 hQ.th hQ.all hQ.pb hQ.some) ?_;rintro e U ⟨⟨ms,q,c,rfl,hms,oM,nM⟩,hbU⟩;exact⟨(ms,q,c),(cvE rfl rfl),hms,oM.lower hwZ.size,fun x hx=>(nM x hx).lower hwZ.size,(zst hwZ hbU)⟩
 clear oV hbZ hwZ f0;rintro⟨ms,q,c⟩ X ⟨hms,oM,nM,hbX⟩;dsimp only at hms oM nM ⊢;refine brF ?_;have hml:ms.length<=5000:=by have:=hQ.ml;rw [<- hms,List.length_map] at this;exact this
 have hmb:∀ x∈ms,MixB x.m:=fun x hx=>hQ.mb x.m (by rw [<- hms];exact List.mem_map.2 ⟨x,hx,rfl⟩);have hsum:(ms.map fun x=>cntR x.m 20001).sum<=most:=by
  have:=hQ.cnt;rw [<- hms,List.map_map] at this;exact this
 have htake:∀ k,((ms.take k).map fun x=>cntR x.m 20001).sum<=most:=fun k=>by
  have:=znU (l:=ms.map fun x=>cntR x.m 20001) k;rw [<- List.map_take] at this;omega
 obtain⟨tot,htot⟩:=nm ((ms.map fun x=>cntR x.m 20001).sum);have cnt:∀ {Z:World} {k lim:Nat} (hk:k<ms.length),OwnS mixE 119 w.heap.size Z q c ms->(∀ x∈ms,NInM w.heap.size (fun k=>w.heap.size<=k) Z x)->1<=lim->lim<=100000->∃ b o,q=some ⟨b,o,none⟩/\Calls Tryz.prog 83 #[.pointer (some ⟨b,o+k*336,none⟩),i64 lim] Z fun e w'=>e = .returned (i64 (cntR ms[k].m lim:Nat))/\Z=w':=fun {Z k lim} hk oM nM h1 h2=>by
  obtain⟨b,o,hq,hb,hat⟩:=oM.row.at hk;have hx:=nM ms[k] (gM hk);have hb1:=hmb ms[k] (gM hk);have hxl:ms[k].xs.length=ms[k].m.rs.length:=by have:=congrArg List.length hx.e2;simpa using this
  have hyl:ms[k].ys.length=ms[k].m.wr.length:=by have:=congrArg List.length hx.e3;simpa using this
  refine⟨b,o,hq,?_⟩;have:=zqI (lim:=lim) (r := .slice ms[k].p1 ms[k].m.rs.length ms[k].c1) (hat k hk) hx.r2.own.row hx.r3.own.row (fun y hy=>?_) (fun y hy=>?_) (by have:=hb1.rl;omega) (by have:=hb1.wl;omega) h1 h2
  ·rw [zqS hx.e2 hx.e3] at this;exact this
  ·have h3:y.1∈ms[k].m.rs.map (·.2):=by rw [<- hx.e2];exact List.mem_map.2 ⟨y,hy,rfl⟩
   obtain⟨r,hr,he⟩:=List.mem_map.1 h3;rw [<- he];exact (hb1.rs r hr).2.1
  ·have h3:y.1∈ms[k].m.wr:=by rw [<- hx.e3];exact List.mem_map.2 ⟨y,hy,rfl⟩
   have:=(hb1.wr _ h3).1;omega
 refine⟨Unit,fun _=>⟨[(8,.slice q ms.length c),(10,i64 tot)],[]⟩,fun _ Z=>X=Z,?_,?_⟩
 ·refine⟨Nat,fun k=>⟨[(1,i64 most),(8,.slice q ms.length c),(10,i64 (((ms.take k).map fun x=>cntR x.m 20001).sum:Nat)),(40,i64 ms.length),(41,i64 (k:Nat))],[]⟩,
   fun k Z=>k<=ms.length/\X=Z,fun k=>ms.length-k,0,(cvE rfl rfl),⟨Nat.zero_le _,rfl⟩,?_⟩
  rintro k _ ⟨hk,rfl⟩;dsimp only;refine biE (fun hc=>?_) fun hc=>?_
  ·have hc:(k:Int)<(ms.length:Int):=dT hc;have hkl:k<ms.length:=by omega
   obtain⟨b,o,hq,hcall⟩:=cnt (lim:=20001) hkl oM nM (by decide) (by decide);have htk:((ms.take (k+1)).map fun x=>cntR x.m 20001).sum=((ms.take k).map fun x=>cntR x.m 20001).sum+cntR ms[k].m 20001:=by
    rw [tsg hkl,List.map_append,List.sum_append];show _+(cntR ms[k].m 20001+0)=_;rw [Nat.add_zero]
   have h1:=htake (k+1);subst hq;refine⟨k,rfl,hkl,?_⟩;refine cmo hcall ?_;rintro e _ ⟨rfl,rfl⟩;refine⟨((((ms.take (k+1)).map fun x=>cntR x.m 20001).sum:Nat):Int),?_,?_⟩
   ·rw [htk,Int.natCast_add];exact zak (by omega)
   refine brN (decide_eq_false (by omega)) ?_;refine nxI (by omega) ?_;exact⟨k+1,(cvE rfl rfl),⟨hkl,rfl⟩,zdc (by omega)⟩
  ·have hc:¬ (k:Int)<(ms.length:Int):=dF hc;obtain rfl:k=ms.length:=by omega
   rw [List.take_length,<- htot];exact⟨(),(cvE rfl rfl),rfl⟩
 rintro _ _ rfl;have hXs:=hbX.size;refine⟨Option Addr×Nat,fun s=>⟨[(8,.slice q ms.length c),(12,.slice s.1 0 s.2)],[]⟩,fun s Z=>OwnS exE 34 X.heap.size Z s.1 s.2 []/\Bw X Z,?_,?_⟩
 ·refine zeS (E:=exE) Tryz.underlying61 k34 rfl (by show _=333;exact zbI) rfl tot (by show 2416*tot<=_;omega) (by unfold maxLen;omega) fun Z oZ hbZ sZ=>?_;exact⟨(some ⟨X.heap.size,0,none⟩,tot),(cvE rfl rfl),oZ,hbZ⟩
 rintro⟨p0,c0⟩ Y ⟨oY,hbY⟩;dsimp only at oY ⊢;refine⟨List exE3×Option Addr×Nat,fun s=>⟨[(12,.slice s.2.1 s.1.length s.2.2)],[]⟩,fun s Z=>s.1.map (·.1)=zdN p V/\OwnS exE 34 X.heap.size Z s.2.1 s.2.2 s.1/\(∀ x∈s.1,OwnS evE 54 X.heap.size Z x.2.1 x.2.2 x.1.ev)/\Bw X Z,?_,?_⟩
 ·refine⟨Nat×List exE3×Option Addr×Nat,fun s=>⟨[(8,.slice q ms.length c),(12,.slice s.2.2.1 s.2.1.length s.2.2.2),(57,i64 ms.length),(58,i64 (s.1:Nat))],[]⟩,
   fun s Z=>s.1<=ms.length/\s.2.1.map (·.1)=(ms.take s.1).flatMap (fun x=>zcv x.m)/\OwnS exE 34 X.heap.size Z s.2.2.1 s.2.2.2 s.2.1/\(∀ x∈s.2.1,OwnS evE 54 X.heap.size Z x.2.1 x.2.2 x.1.ev)/\Bw X Z,fun s=>ms.length-s.1,(0,[],p0,c0),
   (cvE rfl rfl),⟨Nat.zero_le _,rfl,oY,fun x hx=>(by cases hx),hbY⟩,?_⟩
  clear oY hbY;rintro⟨k,outs,po,co⟩ Z ⟨hk,hou,oZ,nZ,hbZ⟩;dsimp only at hk hou oZ nZ ⊢;have hZs:=hbZ.size;have oMZ:OwnS mixE 119 w.heap.size Z q c ms:=oM.same fun a ha=>hbZ.block _ (zav oM ha).2.1;have nMZ:∀ x∈ms,NInM w.heap.size (fun k=>w.heap.size<=k) Z x:=fun x hx=>(nM x hx).same fun {α E T c q l} _ _ _ hr=>⟨hr.own.same fun a ha=>hbZ.block _ (zav hr.own ha).2.1,hr.inF⟩;refine biE (fun hc=>?_) fun hc=>?_
  ·have hc:(k:Int)<(ms.length:Int):=dT hc;have hkl:k<ms.length:=by omega
   obtain⟨b,o,hq,hcall⟩:=cnt (lim:=1) hkl oMZ nMZ (by decide) (by decide);obtain⟨x,hx⟩:∃ x,ms[k]=x:=⟨_,rfl⟩;have hxm:x∈ms:=by rw [<- hx];exact gM hkl
   have htk:(ms.take (k+1)).flatMap (fun x=>zcv x.m)=(ms.take k).flatMap (fun x=>zcv x.m)++zcv x.m:=by
    rw [tsg hkl,List.flatMap_append,hx,List.flatMap_cons,List.flatMap_nil,List.append_nil]
   rw [hx] at hcall;have hat:zaw Z ⟨b,o+k*336,none⟩ (mixC x):=by
    obtain⟨b',o',hq',_,hat⟩:=oMZ.row.at hkl;rw [hq] at hq';have:=hat k hkl;simp only [Option.some.injEq,Addr.mk.injEq,and_true] at hq';rw [<- hx,hq'.1,hq'.2];exact this
   have hbX2:b<X.heap.size:=(zav oM hq).2.1;subst hq;refine⟨k,rfl,hkl,?_⟩;refine cmo hcall ?_;rintro e _ ⟨rfl,rfl⟩;refine biE (fun h=>?_) fun h=>?_
   ·have h:cntR x.m 1=0:=Int.ofNat.inj (dT h);have hc0:zcv x.m=[]:=if_pos h;rw [hc0,List.append_nil] at htk;refine nxI (by omega) ?_;exact⟨(k+1,outs,po,co),(cvE rfl rfl),⟨hkl,by rw [hou,htk],oZ,nZ,hbZ⟩,zdc (by omega)⟩
   have h:cntR x.m 1≠0:=fun e=>(dF h) (by rw [e];rfl);have hc1:zcv x.m=zhd x.m:=if_neg h;rw [hc1] at htk;refine⟨k,rfl,hkl,?_⟩;refine cmo zqV ?_;rintro e U ⟨rfl,fU,sU,hbU⟩;have hxM:=nMZ x hxm;have hxB:=hmb x hxm;obtain⟨Rd,hRd⟩:∃ Rd:Nat->Prop,Rd=fun k=>k<X.heap.size\/k=Z.heap.size:=⟨_,rfl⟩;have ltX:∀ {α:Type} {E:Enc α} {T cc:Nat} {r:Option Addr} {ll:List α},RowIn E T w.heap.size (fun k=>w.heap.size<=k) X r cc ll->∀ a,r=some a->Rd a.block:=fun {α E T cc r ll} h a ha=>by rw [hRd];exact .inl (zav h.own ha).2.1
   have hX:=nM x hxm;have hM:MixM Rd U b (o+k*336) x.m x.q x.c x.p1 x.p2 x.p3 x.c1 x.c2 x.c3 x.xs x.ys:=by
    have r:∀ {α:Type} {E:Enc α} {T cc:Nat} {r:Option Addr} {ll:List α},RowIn E T w.heap.size (fun k=>w.heap.size<=k) Z r cc ll->SlR E U r ll:=fun {α E T cc r ll} h=>(h.own.below hbU).row;refine⟨zae hbU hat,r hxM.ev,fun e=>?_,r hxM.r1,hxM.e2,r hxM.r2,fun y hy=>r (hxM.n2 y hy),hxM.e3,r hxM.r3,fun y hy=>r (hxM.n3 y hy),by rw [hRd];exact .inl hbX2,ltX hX.ev,ltX hX.r1,ltX hX.r2,ltX hX.r3,fun y hy=>ltX (hX.n2 y hy),fun y hy=>ltX (hX.n3 y hy)⟩;rcases hxM.ev.own.inv with ⟨_,h,_⟩ | ⟨g,cur,h,_⟩
    ·exact h
    ·rw [e] at h;cases h
   have hRl:∀ k,Rd k->k<U.heap.size:=fun k hk=>by
    rw [hRd] at hk;omega
   have hTU:Tz64M U:=hG.t64.below (hbX.trans ((hbZ.trans (hbU.mono hZs)).mono hXs));have htz:=zcQ hG.t64;have hI:=zqW hM fU (by rw [hRd];exact .inr rfl) hRl hTU (by rw [hRd];left;omega) hxB hxB.ev;have hln:outs.length+(zhd x.m).length<=30000:=by
    have h2:=hQ.len;have h3:(zdN p V)=ms.flatMap (fun x=>zcv x.m):=by
     show (zbU p V).flatMap zcv=_;rw [<- hms,List.flatMap_map]
    rw [h3] at h2;have h4:ms.flatMap (fun x=>zcv x.m)=(ms.take (k+1)).flatMap (fun x=>zcv x.m)++(ms.drop (k+1)).flatMap (fun x=>zcv x.m):=(by rw [<- List.flatMap_append,List.take_append_drop]);rw [h4,htk,<- hou,lap,lap,List.length_map] at h2;omega
   refine cmo (zjT (oZ.below hbU) (fun y hy=>(nZ y hy).below hbU) (by omega) hI (Nat.le_refl _) (fun k hk=>⟨hRl k hk,rfl⟩) (fun k hk=>by rw [hRd] at hk;exact hk) fU (by omega) hln) ?_;rintro e T ⟨⟨new,pn,cn,rfl,hnew,oT,nT⟩,hbT⟩;refine nxI (by omega) ?_;exact⟨(k+1,outs++new,pn,cn),(cvE rfl rfl),⟨hkl,by rw [List.map_append,hou,hnew,htk],oT,nT,(hbZ.trans (hbU.mono hZs)).trans hbT⟩,zdc (by omega)⟩
  ·have hc:¬ (k:Int)<(ms.length:Int):=dF hc;obtain rfl:k=ms.length:=by omega
   rw [List.take_length] at hou;refine⟨(outs,po,co),(cvE rfl rfl),?_,oZ,nZ,hbZ⟩;rw [hou];show ms.flatMap _=(zbU p V).flatMap zcv;rw [<- hms,List.flatMap_map]
 rintro⟨outs,po,co⟩ Z ⟨hou,oZ,nZ,hbZ⟩;exact⟨⟨outs,po,co,rfl,hou,oZ.lower hXs,fun x hx=>(nZ x hx).lower hXs⟩,hbX.trans (hbZ.mono hXs)⟩
end
def zqx (x:InsD):Bool:=(decide (x.op=1)&&decide (x.dst.toNat<8))||((decide (x.op=2)&&(!x.ar||decide (x.an.toNat<8)))||decide (x.op=7))
theorem zqw {x:InsD} (h:zqx x=true):ExOk x:=by
 unfold zqx at h;simp only [Bool.or_eq_true,bAT,dE,Bool.not_eq_true'] at h;rcases h with ⟨h1,h2⟩ | ⟨h1,h2⟩ | h1
 ·exact .inl ⟨h1,h2⟩
 ·refine .inr (.inl ⟨h1,fun h=>?_⟩);rcases h2 with h2 | h2
  ·rw [h] at h2;cases h2
  ·exact h2
 ·exact .inr (.inr h1)
def zpZ (locs:Nat) (P:PathD):Bool :=
 decide (P.ev.length<=24)&&((P.ev.all fun e => !(decide (e.k=1)||decide (e.k=2))||decide (e.l.toNat<locs))&&((P.data.all fun p=>decide (p.1<P.ev.length)&&decide (p.2<P.ev.length))&&((P.ctrl.all fun p=>decide (p.1<P.ev.length)&&decide (p.2<P.ev.length))&&((P.rmw.all fun p=>decide (p.1<P.ev.length)&&decide (p.2<P.ev.length)) &&
  (decide (P.data.length<=100000)&&(decide (P.ctrl.length<=100000)&&decide (P.rmw.length<=100000)))))))
theorem zob {locs:Nat} {P:PathD} (h:zpZ locs P=true):PathB locs P:=by
 unfold zpZ at h;simp only [bAT,Bool.or_eq_true,dE,List.all_eq_true,Bool.not_eq_true',Bool.or_eq_false_iff,decide_eq_false_iff_not] at h;obtain⟨h1,h2,h3,h4,h5,h6,h7,h8⟩:=h;refine⟨h1,fun e he hk=>?_,h3,h4,h5,h6,h7,h8⟩;rcases h2 e he with h | h
 ·rcases hk with hk | hk
  ·exact (h.1 hk).elim
  ·exact (h.2 hk).elim
 ·exact h
def zhe (p:Prg) (n:Nat) (V:List UInt8) (most:Nat):Bool :=
 zjq p&&(decide (p.locs.length=p.init.length)&&(decide (1<=p.init.length)&&(decide (p.init.length<=6)&&(srt8 p.init&&(decide (zkU p.threads n (ded p.init)=some V)&&(decide (1<=V.length)&&(decide (V.length<=12)&&(srt8 V&&(decide ((ded V).length<=12)&&(decide (p.threads.length<=4) &&
  ((p.threads.all fun l=>decide (l.length<=12)&&(l.all zqx&&(zbX l 6&&decide ((zc1 l (ded V)).length<=4096)))) &&
   (((List.range (p.threads.length+1)).all fun k=>decide (zeL ((p.threads.take k).map fun l=>(zaE V l).length)<=4096)) &&
    ((p.threads.all fun l=>(zaE V l).all (zpZ p.init.length)) &&
     (((zeC ((p.threads.map (zaE V)).map List.length)).all fun ds=>(mixR p.init (zeN (p.threads.map (zaE V)) ds)).isSome) &&
      (decide ((zbU p V).length<=5000)&&((zbU p V).all zp5&&(decide (most<=20000)&&(decide (((zbU p V).map fun m=>cntR m 20001).sum<=most)&&decide ((zdN p V).length<=30000)))))))))))))))))))
theorem zfS {p:Prg} {n:Nat} {V:List UInt8} {most:Nat} (h:zhe p n V most=true):CandQ p n V most:=by
 unfold zhe at h;simp only [bAT,dE,List.all_eq_true,List.mem_range] at h;obtain⟨h1,h2,h3,h4,h5,h6,h7,h8,h9,h10,h11,h12,h13,h14,h15,h16,h17,h18,h19,h20⟩:=h;exact⟨h1,h2,h3,h4,h5,h6,h7,h8,h9,h10,h11,fun l hl=>⟨(h12 l hl).1,fun x hx=>zqw ((h12 l hl).2.1 x hx),(h12 l hl).2.2.1,(h12 l hl).2.2.2⟩,fun k hk=>h13 k (by omega),fun l hl P hP=>zob (h14 l hl P hP),h15,h16,fun m hm=>zp6 (h17 m hm),h18,h19,h20⟩
def stI (l v m:UInt8):InsD:=⟨2,0,l,false,v,false,0,0,m,0⟩
def ldI (d l m:UInt8):InsD:=⟨1,d,l,false,0,false,0,0,m,0⟩
def twoP (a b:List InsD):Prg:=⟨[116],[[120],[121]],[0,0],[a,b],1,.mk 0 0 0 0 []⟩
def sbP:Prg:=twoP [stI 0 1 0,ldI 0 1 0] [stI 1 1 0,ldI 0 0 0]
def mpP:Prg:=twoP [stI 0 1 0,stI 1 1 0] [ldI 1 1 0,ldI 0 0 0]
def raP:Prg:=twoP [stI 0 1 0,stI 1 1 2] [ldI 1 1 1,ldI 0 0 0]
def coP:Prg:=twoP [stI 0 1 0,ldI 0 0 0] []
theorem sb_q:zhe sbP 5 [0,1] 50=true:=by kernel_rfl
def zdY (l:List ExD) (a b:UInt8):List ExD:=l.filter fun x=>decide (x.regs 0=a)&&decide (x.regs 8=b)
def zl8 (x:ExD) (want:List UInt8):Bool:=(List.range want.length).all fun i=>decide (zi0 (i+1) x=(want.getD i 0).toNat)&&(zg7 (i+1) x == decide (want.getD i 0=0))
def exvB (x:ExD):Bool:=decide (x.ev.length<=19)&&(wrdB x.po&&(wrdB x.rf&&(wrdB x.co&&(wrdB x.dt&&(wrdB x.ct&&wrdB x.rm)))))
abbrev sbF:List ExD:=zdY (zdN sbP [0,1]) 0 0
abbrev mpF:List ExD:=zdY (zdN mpP [0,1]) 0 0
abbrev raF:List ExD:=zdY (zdN raP [0,1]) 0 0
abbrev coF:List ExD:=zdY (zdN coP [0,1]) 0 0
def zgU (l:List ExD) (i n:Nat) (want:List UInt8):Bool:=decide (l.length=n)&&(l.all exvB&&zl8 (l.getD i (ex0 0)) want)
theorem mp_q:zhe mpP 5 [0,1] 50=true:=by kernel_rfl
theorem ra_q:zhe raP 5 [0,1] 50=true:=by kernel_rfl
theorem co_q:zhe coP 5 [0,1] 50=true:=by kernel_rfl
theorem zpE:zgU sbF 0 1 [0,3,0,0,0,0]=true:=by kernel_rfl
theorem zp3:zgU mpF 1 2 [0,3,3,0,0,0]=true:=by kernel_rfl
theorem zpT:zgU raF 1 2 [0,3,3,0,3,0]=true:=by kernel_rfl
theorem zqQ:zgU coF 0 1 [1,1,1,1,1,1]=true:=by kernel_rfl
theorem zrF:(mpF.getD 1 (ex0 0)).regs 9=1:=by kernel_rfl
theorem zrw:(raF.getD 1 (ex0 0)).regs 9=1:=by kernel_rfl
section
variable {w:World}
theorem st_c {l v m:UInt8}:CB 52 #[u8 l,u8 v,u8 m] w (.agg (insE.enc (stI l v m)).toArray):=by
 refine cofM 12 [u8 l,u8 v,u8 m] (.c .p .p) Tryz.func52 ?_;obtain⟨L,hL⟩:=nm (w.heap.size);refine⟨Unit,fun _=>⟨[(0,u8 l),(1,u8 v),(2,u8 m),(6,At0 L)],[]⟩,fun _ X=>(∃ cs:Array Value,X.heap[L]?=some (.cells cs 59 (0,0))/\cs.size=10)/\Bw w X,⟨(),⟨.cons rfl (.cons rfl (.cons rfl (.cons (by rw [hL];rfl) .nil))),rfl⟩,⟨_,by rw [hL];exact hnew w _,by kernel_rfl⟩,(zba w _)⟩,?_⟩;rintro _ X ⟨⟨cs,f0,hcs⟩,hbX⟩;refine⟨[.bool false,u8 v],by kernel_rfl,?_⟩;refine⟨insE.enc (stI l v m),by kernel_rfl,?_⟩;refine zar (v := .agg (insE.enc (stI l v m)).toArray) k59 f0 rfl hcs rfl ?_;exact⟨insE.enc (stI l v m),rfl,zab (zal f0),rfl,zah hbX (by omega) _⟩
theorem ld_c {d l m:UInt8}:CB 53 #[u8 d,u8 l,u8 m] w (.agg (insE.enc (ldI d l m)).toArray):=by
 refine cofM 11 [u8 d,u8 l,u8 m] (.c .p .p) Tryz.func53 ?_;obtain⟨L,hL⟩:=nm (w.heap.size);refine⟨Unit,fun _=>⟨[(0,u8 d),(1,u8 l),(2,u8 m),(6,At0 L)],[]⟩,fun _ X=>(∃ cs:Array Value,X.heap[L]?=some (.cells cs 59 (0,0))/\cs.size=10)/\Bw w X,⟨(),⟨.cons rfl (.cons rfl (.cons rfl (.cons (by rw [hL];rfl) .nil))),rfl⟩,⟨_,by rw [hL];exact hnew w _,by kernel_rfl⟩,(zba w _)⟩,?_⟩;rintro _ X ⟨⟨cs,f0,hcs⟩,hbX⟩;refine⟨insE.enc (ldI d l m),by kernel_rfl,?_⟩;refine zar (v := .agg (insE.enc (ldI d l m)).toArray) k59 f0 rfl hcs rfl ?_;exact⟨insE.enc (ldI d l m),rfl,zab (zal f0),rfl,zah hbX (by omega) _⟩
theorem znR {la lb:List InsD} {pa pb:Option Addr} {ca cb:Nat} (ha:RowB insE w.heap.size w pa la) (hb:RowB insE w.heap.size w pb lb) (hla:la.length<=1000) (hlb:lb.length<=1000) (hpa:∀ a,pa=some a->a.block<w.heap.size) (hpb:∀ a,pb=some a->a.block<w.heap.size) :
  Calls Tryz.prog 51 #[.slice pa la.length ca,.slice pb lb.length cb] w fun e w'=>(∃ vs:List Value,e = .returned (.agg vs.toArray)/\PrgX w'.heap.size w' vs (twoP la lb))/\Bw w w':=by
 refine cofM 11 [.slice pa la.length ca,.slice pb lb.length cb] (.c .p .p) Tryz.func51 ?_;obtain⟨L,hL⟩:=nm (w.heap.size);refine⟨Unit,fun _=>⟨[(0,.slice pa la.length ca),(1,.slice pb lb.length cb),(4,At0 L)],[]⟩,fun _ X=>(∃ cs:Array Value,X.heap[L]?=some (.cells cs 71 (0,0))/\cs.size=10)/\X.heap.size=L+1/\Bw w X,⟨(),⟨.cons rfl (.cons rfl (.cons (by rw [hL];rfl) .nil)),rfl⟩,⟨_,by rw [hL];exact hnew w _,by kernel_rfl⟩,by rw [wz,hL],(zba w _)⟩,?_⟩;rintro _ W ⟨⟨cs,fL,hcs⟩,sW,hbW⟩;obtain⟨W1,hW1⟩:=nm (W.alloc (.cells #[strV [120],strV [121]] 9));obtain⟨W2,hW2⟩:=nm (W1.alloc (.cells #[u8 0,u8 0] 5));obtain⟨W3,hW3⟩:=nm (W2.alloc (.cells #[.slice pa la.length ca,.slice pb lb.length cb] 60));have hb1:Bw W W1:=by rw [hW1];exact (zba W _)
 have hb2:Bw W1 W2:=by rw [hW2];exact (zba W1 _)
 have hb3:Bw W2 W3:=by rw [hW3];exact (zba W2 _)
 have f1:W1.heap[W.heap.size]?=some (.cells #[strV [120],strV [121]] 9 (0,0)):=by rw [hW1];exact hnew W _
 have f2:W2.heap[W1.heap.size]?=some (.cells #[u8 0,u8 0] 5 (0,0)):=by rw [hW2];exact hnew W1 _
 have f3:W3.heap[W2.heap.size]?=some (.cells #[.slice pa la.length ca,.slice pb lb.length cb] 60 (0,0)):=by rw [hW3];exact hnew W2 _
 have s1:W1.heap.size=L+2:=by rw [hW1,wz,sW]
 have s2:W2.heap.size=L+3:=by rw [hW2,wz,s1]
 have s3:W3.heap.size=L+4:=by rw [hW3,wz,s2]
 refine⟨⟨by decide,by decide,rfl⟩,[strV [120],strV [121]],rfl,?_⟩;have hW1':W.alloc (.cells [strV [120],strV [121]].toArray 9)=W1:=hW1.symm;rw [hW1'];refine⟨⟨by decide,by decide,rfl⟩,[u8 0,u8 0],rfl,?_⟩;have hW2':W1.alloc (.cells [u8 0,u8 0].toArray 5)=W2:=hW2.symm;rw [hW2'];refine⟨⟨by decide,by decide,rfl⟩,[.slice pa la.length ca,.slice pb lb.length cb],rfl,?_⟩;have hW3':W2.alloc (.cells [.slice pa la.length ca,.slice pb lb.length cb].toArray 60)=W3:=hW3.symm;rw [hW3'];obtain⟨vs,hvs⟩:=nm (zcw (twoP la lb) (some ⟨W.heap.size,0,none⟩) 2 (some ⟨W1.heap.size,0,none⟩) 2 (some ⟨W2.heap.size,0,none⟩) 2 none 0);refine⟨vs,by rw [hvs];rfl,?_⟩;have hb12:=zst hb1 hb2;have hbW3:Bw W W3:=hb12.trans (hb3.mono (Nat.le_trans hb1.size hb2.size));have fL3:W3.heap[L]?=some (.cells cs 71 (0,0)):=zaa hbW3 fL;have hlen:vs.length=10:=by rw [hvs];rfl
 have hone:vs.all Value.oneCell'=true:=by rw [hvs];rfl
 refine zar (v := .agg vs.toArray) k71 fL3 hlen hcs hone ?_;obtain⟨Y,hY⟩:=nm (W3.setRow L (Value.agg vs.toArray).cells);rw [<- hY];have fY:Y.heap[L]?=some (.cells vs.toArray 71 (0,0)):=by rw [hY];exact zal fL3
 have oY:∀ k,k≠L->Y.heap[k]?=W3.heap[k]?:=fun k hk=>by rw [hY];exact zam hk
 have sY:Y.heap.size=W3.heap.size:=by rw [hY];simp
 have bY:Bw w Y:=by rw [hY];exact zah ((zst hbW hbW3)) (by omega) _
 refine⟨vs,hlen,zab fY,⟨vs,rfl,?_⟩,bY⟩;have g1:Y.heap[W.heap.size]?=some (.cells #[strV [120],strV [121]] 9 (0,0)):=(oY _ (by omega)).trans (zaa hb3 (zaa hb2 f1));have g2:Y.heap[W1.heap.size]?=some (.cells #[u8 0,u8 0] 5 (0,0)):=(oY _ (by omega)).trans (zaa hb3 f2);have g3:Y.heap[W2.heap.size]?=some (.cells #[.slice pa la.length ca,.slice pb lb.length cb] 60 (0,0)):=(oY _ (by omega)).trans f3;have sY4:w.heap.size<=Y.heap.size:=bY.size;have r3:RowB thrE Y.heap.size Y (some ⟨W2.heap.size,0,none⟩) [(la,pa,ca),(lb,pb,cb)] := .inr ⟨W2.heap.size,0,rfl,hlt g3,zab g3⟩;have rows:∀ x∈[((la,pa,ca):ThrR),(lb,pb,cb)],RowB insE Y.heap.size Y x.2.1 x.1/\∀ a,x.2.1=some a->a.block<Y.heap.size:=by
  simp only [List.mem_cons,List.not_mem_nil,or_false,forall_eq_or_imp,forall_eq];exact⟨⟨(ha.below bY).mono sY4,fun a h=>nL (hpa a h) sY4⟩,(hb.below bY).mono sY4,fun a h=>nL (hpb a h) sY4⟩
 refine⟨⟨⟨by show 1<=_;decide,by show 2<=_;decide,fun s hs=>?_,by show 2<=_;decide,by show 2<=_;decide,fun l hl=>?_⟩,some ⟨W.heap.size,0,none⟩,2,some ⟨W1.heap.size,0,none⟩,2,some ⟨W2.heap.size,0,none⟩,2,none,0,hvs,?_,?_,?_,?_,?_⟩,?_,?_⟩
 ·have hs:s=[120]\/s=[121]:=by simpa [twoP] using hs
  rcases hs with rfl | rfl <;> decide
 ·have hl:l=la\/l=lb:=by simpa [twoP] using hl
  rcases hl with rfl | rfl <;> omega
 ·exact .inr ⟨W.heap.size,0,rfl,hlt g1,zab g1⟩
 ·exact .inr ⟨W1.heap.size,0,rfl,hlt g2,zab g2⟩
 ·exact⟨[(la,pa,ca),(lb,pb,cb)],rfl,r3,fun x hx=>(rows x hx).1⟩
 ·exact .mk none [] (by decide) 0 0 (.inl rfl) (fun _=>none) (fun _=>0) (fun i hi=>by simp at hi) (fun i hi=>by simp at hi)
 ·exact Nat.le_refl 2
 ·exact⟨some ⟨W2.heap.size,0,none⟩,2,by rw [hvs];rfl,[(la,pa,ca),(lb,pb,cb)],rfl,r3,rows⟩
 ·exact⟨some ⟨W1.heap.size,0,none⟩,2,by rw [hvs];rfl,.inr ⟨W1.heap.size,0,rfl,hlt g2,zab g2⟩⟩
end
theorem zhN (x:ExD) (q:Option Addr) (c:Nat) {i:Nat} (hi:i<32):(exC x q c)[295+i]?=some (u8 (x.regs i)):=by
 obtain⟨A,T,hA,hE⟩:=zmY x q c [];have:=hE x.regs;rw [List.append_nil] at this;show (exC { x with regs:=x.regs } q c)[295+i]?=_;rw [this,zbn hA,List.getElem?_append_left (by rw [zay];exact hi),zeH (n:=32) (fun i=>u8 (x.regs i)) hi]
section
variable {w:World} {B n:Nat} {pc:List Value} {p:Prg} {V:List UInt8} {a b:UInt8}
theorem zgs (l:List ExD) (x:ExD):zdY (l++[x]) a b=zdY l a b++if (decide (x.regs 0=a)&&decide (x.regs 8=b))=true then [x] else []:=by
 unfold zdY;rw [List.filter_append,List.filter_cons,List.filter_nil]
theorem zhL (hB:B<=w.heap.size) (hP:PrgX B w pc p) (hG:GlobE w) (hQ:CandQ p n V 50) :
  Calls Tryz.prog 50 #[.agg pc.toArray,u8 a,u8 b] w fun e w'=>(∃ (xs:List exE3) (q:Option Addr) (c:Nat),e = .returned (.slice q xs.length c)/\xs.map (·.1)=zdY (zdN p V) a b/\SlR exE w' q xs/\∀ x∈xs,SlR evE w' x.2.1 x.1.ev)/\Bw w w':=by
 refine cofM 45 [.agg pc.toArray,u8 a,u8 b] (.c .p (.c .p (.c .p (.c .p .p)))) Tryz.func50 ?_;obtain⟨L,hL⟩:=nm (w.heap.size);have hpc:=hP.v.size;refine⟨Unit,fun _=>⟨[(1,u8 a),(2,u8 b),(3,At0 L)],[]⟩,fun _ X=>X.heap[L]?=some (.cells pc.toArray 71 (0,0))/\Bw w X,⟨(),⟨.cons rfl (.cons rfl (.cons (by rw [hL];rfl) .nil)),rfl⟩,by rw [hL];exact hnew w _,(zba w _)⟩,?_⟩;rintro _ X ⟨f0,hbX⟩;refine⟨Unit,fun _=>⟨[(1,u8 a),(2,u8 b),(3,At0 L),(7,.slice none 0 0)],[]⟩,fun _ Y=>X=Y,⟨(),(cvE rfl rfl),rfl⟩,?_⟩;rintro _ _ rfl;have hXs:=hbX.size;refine⟨List exE3×Option Addr×Nat,fun s=>⟨[(1,u8 a),(2,u8 b),(7,.slice none 0 0),(8,.slice s.2.1 s.1.length s.2.2)],[]⟩,fun s Y=>s.1.map (·.1)=zdN p V/\OwnS exE 34 X.heap.size Y s.2.1 s.2.2 s.1/\(∀ x∈s.1,OwnS evE 54 X.heap.size Y x.2.1 x.2.2 x.1.ev)/\Bw w Y,?_,?_⟩
 ·refine⟨pc,hpc,zab f0,hlt f0,?_⟩;refine cmo (zri (Nat.le_trans hB hXs) (hP.below (hbX.mono hB)) (hG.below hbX) hQ) ?_;rintro e Y ⟨⟨xs,q,c,rfl,h1,h2,h3⟩,hbY⟩;exact⟨(xs,q,c),(cvE rfl rfl),h1,h2,h3,hbX.trans (hbY.mono hXs)⟩
 rintro⟨xs,q,c⟩ Y ⟨hxs,oX,hev,hbY⟩;dsimp only at hxs oX hev ⊢;obtain⟨D,hD⟩:=nm (Y.heap.size);have hxl:xs.length<=30000:=by
  have:=congrArg List.length hxs;rw [List.length_map] at this;have:=hQ.len;omega
 refine⟨List exE3×Option Addr×Nat,fun s=>⟨[(7,.slice s.2.1 s.1.length s.2.2)],[]⟩,fun s Z=>s.1.map (·.1)=zdY (zdN p V) a b/\(∀ x∈s.1,x∈xs)/\OwnS exE 34 D Z s.2.1 s.2.2 s.1/\Below D Y Z,?_,?_⟩
 ·refine⟨Nat×List exE3×Option Addr×Nat,fun s=>⟨[(1,u8 a),(2,u8 b),(7,.slice s.2.2.1 s.2.1.length s.2.2.2),(17,.slice q xs.length c),(18,i64 xs.length),(19,i64 (s.1:Nat))],[]⟩,
   fun s Z=>s.1<=xs.length/\s.2.1.map (·.1)=zdY ((xs.take s.1).map (·.1)) a b/\(∀ x∈s.2.1,x∈xs)/\s.2.1.length<=s.1/\OwnS exE 34 D Z s.2.2.1 s.2.2.2 s.2.1/\Below D Y Z,fun s=>xs.length-s.1,(0,[],none,0),
   (cvE rfl rfl),⟨Nat.zero_le _,rfl,fun x hx=>(by cases hx),Nat.le_refl _,OwnS.nil,by rw [hD];exact Below.refl _ _⟩,?_⟩
  rintro⟨k,out,po,co⟩ Z ⟨hk,hout,hmem,hlo,oZ,hbZ⟩;dsimp only at hk hout hmem hlo oZ ⊢;have hZs:D<=Z.heap.size:=by have:=hbZ.size;omega
  refine biE (fun hc=>?_) fun hc=>?_
  ·have hc:(k:Int)<(xs.length:Int):=dT hc;have hkl:k<xs.length:=by omega
   obtain⟨bx,ox,hq,hbx,hat⟩:=oX.row.at hkl;obtain⟨y,hy⟩:∃ y,xs[k]=y:=⟨_,rfl⟩;have hym:y∈xs:=by rw [<- hy];exact gM hkl
   have htk:(xs.take (k+1)).map (·.1)=(xs.take k).map (·.1)++[y.1]:=by rw [tsg hkl,hy,List.map_append];rfl
   have hatk:=hat k hkl;rw [hy] at hatk;have hatk:zaw Y ⟨bx,ox+k*333,none⟩ (exC y.1 y.2.1 y.2.2):=hatk;subst hq;refine⟨k,rfl,hkl,?_⟩;refine⟨exC y.1 y.2.1 y.2.2,zao _ _ _,zaB hbZ (by show bx<D;omega) hatk,by show bx<_;omega,?_⟩;refine zan (X:=Z) (v := .agg (exC y.1 y.2.1 y.2.2).toArray) k34 (zao _ _ _) zbI (zde _ _ _) fun U hbU fU sU=>?_;have fU:ExH U Z.heap.size y.1 y.2.1 y.2.2:=fU;have oU:=oZ.below hbU;have hbU2:=hbZ.trans (hbU.mono hZs);have hUs:D<=U.heap.size:=by omega
   have e0:(exC y.1 y.2.1 y.2.2)[295]?=some (u8 (y.1.regs 0)):=zhN y.1 y.2.1 y.2.2 (i:=0) (by decide);have e8:(exC y.1 y.2.1 y.2.2)[303]?=some (u8 (y.1.regs 8)):=zhN y.1 y.2.1 y.2.2 (i:=8) (by decide);have skip:(decide (y.1.regs 0=a)&&decide (y.1.regs 8=b))=false->(k+1<=xs.length/\out.map (·.1)=zdY ((xs.take (k+1)).map (·.1)) a b/\(∀ x∈out,x∈xs)/\out.length<=k+1/\OwnS exE 34 D U po co out/\Below D Y U):=fun h =>
    ⟨hkl,by rw [htk,zgs,h,hout];simp,hmem,by omega,oU,hbU2⟩
   refine⟨0,rfl,by decide,?_⟩;refine⟨0,rfl,by decide,?_⟩;refine⟨u8 (y.1.regs 0),zac (zab fU) e0,?_⟩;refine biE (fun h1=>?_) fun h1=>?_
   ·have h1:y.1.regs 0=a:=zbi.1 (dT h1);refine⟨1,rfl,by decide,?_⟩;refine⟨0,rfl,by decide,?_⟩;refine⟨u8 (y.1.regs 8),zac (zab fU) e8,?_⟩;refine biE (fun h2=>?_) fun h2=>?_
    ·have h2:y.1.regs 8=b:=zbi.1 (dT h2);have hp:(decide (y.1.regs 0=a)&&decide (y.1.regs 8=b))=true:=(by rw [decide_eq_true h1,decide_eq_true h2];rfl);refine⟨exC y.1 y.2.1 y.2.2,zao _ _ _,zab fU,hlt fU,?_⟩;refine⟨⟨by decide,by decide,zbI⟩,exE.enc y,zcK (zao _ _ _) zbI,?_⟩;have hb2:Bw U (U.alloc (.cells (exE.enc y).toArray 34)):=zba _ _;have sb2:=hb2.size;unfold opsE zda;show SatR _ _;refine zbH Tryz.underlying61 k34 rfl rfl zbI (oU.below hb2) (news:=[y]) rfl (zbg exE y) (by omega) (by show out.length+1<=_;omega) (by show (out.length+1)*2416<=_;omega) fun p' c' S oS gS hbS hat2=>?_;refine nxI (by omega) ?_;exact⟨(k+1,out++[y],p',c'),(cvE rfl rfl),⟨hkl,by rw [htk,zgs,if_pos hp,List.map_append,hout];rfl,fun x hx=>(by
      rcases List.mem_append.1 hx with h | h
      ·exact hmem x h
      ·rw [List.mem_singleton.1 h];exact hym),by rw [lap];show _+1<=_;omega,oS,(hbU2.trans (hb2.mono hUs)).trans hbS⟩,zdc (by omega)⟩
    ·have h2:¬ y.1.regs 8=b:=fun e2=>(dF h2) (by rw [e2]);refine nxI (by omega) ?_;exact⟨(k+1,out,po,co),(cvE rfl rfl),skip (by rw [decide_eq_false h2,Bool.and_false]),zdc (by omega)⟩
   ·have h1:¬ y.1.regs 0=a:=fun e2=>(dF h1) (by rw [e2]);refine brF ?_;refine nxI (by omega) ?_;exact⟨(k+1,out,po,co),(cvE rfl rfl),skip (by rw [decide_eq_false h1];rfl),zdc (by omega)⟩
  ·have hc:¬ (k:Int)<(xs.length:Int):=dF hc;obtain rfl:k=xs.length:=by omega
   rw [List.take_length,hxs] at hout;exact⟨(out,po,co),(cvE rfl rfl),hout,hmem,oZ,hbZ⟩
 rintro⟨out,po,co⟩ Z ⟨hout,hmem,oZ,hbZ⟩;dsimp only at hout hmem oZ ⊢;have hwY:=hbY.size;exact⟨⟨out,po,co,rfl,hout,oZ.row,fun x hx=>((hev x (hmem x hx)).below (hbZ.mono (by omega))).row⟩,hbY.trans (hbZ.mono (by omega))⟩
end
theorem zoX (u:Nat):IntKind.u8.wrap (u:Int)=((UInt8.ofNat u).toNat:Int):=by
 have:=UInt8.toNat_ofNat' (n:=u);simp [IntKind.wrap,IntKind.bits,IntKind.signed] at this ⊢
 try omega
theorem zoF (d:Nat) (a b:Bool) (w:World):(Op.equalIn (d+1) 4 (.bool a) (.bool b)).run Tryz.prog w = .ok (decide (a=b)) w:=by
 simp only [Op.equalIn,Sem.run_bind,run_underlying Tryz.underlying4,Result.andThen_ok,Sem.run_pure]
 cases a <;> cases b <;> rfl
theorem zmF (x y:Operand) (a b:Bool) (w:World):(do eqGuard .neq 4 x y (.bool a) (.bool b);binOp .neq 4 (.bool a) (.bool b)).run Tryz.prog w = .ok (.bool (!decide (a=b))) w:=by
 have h:(Op.equal 4 (.bool a) (.bool b)).run Tryz.prog w = .ok (decide (a=b)) w:=zoF 9999 a b w;have h1:(eqGuard .neq 4 x y (.bool a) (.bool b)).run Tryz.prog w = .ok () w:=rfl;rw [Sem.run_bind,h1];simp only [Result.andThen_ok,binOp,Sem.run_bind,h,Sem.run_pure]
section
variable {w:World} {c cw:Nat} {x:ExD} {q pw:Option Addr} {ws:List UInt8}
theorem znZ (h:zl8 x ws=true) {i:Nat} (hi:i<ws.length):zi0 (i+1) x=ws[i].toNat/\zg7 (i+1) x=decide (ws[i]=0):=by
 unfold zl8 at h;rw [List.all_eq_true] at h;have:=h i (List.mem_range.2 hi);rw [bAT,dE,beq_iff_eq,gDe,gE hi] at this;exact this
theorem zj1 (hv:ExV w x q) (hT:Tz64M w) (hw:SlR zaR w pw ws) (hs:zl8 x ws=true) (h6:ws.length<=6):CB 54 #[.agg (exC x q c).toArray,.slice pw ws.length cw] w (.bool true):=by
 refine cofM 32 [.agg (exC x q c).toArray,.slice pw ws.length cw] (.c .p (.c .p .p)) Tryz.func54 ?_;obtain⟨L,hL⟩:=nm (w.heap.size);refine⟨Unit,fun _=>⟨[(1,.slice pw ws.length cw),(2,At0 L)],[]⟩,fun _ X=>ExH X L x q c/\Bw w X,⟨(),⟨.cons rfl (.cons (by rw [hL];rfl) .nil),rfl⟩,by rw [hL];exact hnew w _,(zba w _)⟩,?_⟩;rintro _ X ⟨fX,hbX⟩;refine⟨Unit,fun _=>⟨[],[]⟩,fun _ Y=>Bw w Y,?_,?_⟩
 ·refine⟨Nat,fun k=>⟨[(2,At0 L),(7,.slice pw ws.length cw),(8,i64 ws.length),(9,i64 (k:Nat))],[]⟩,fun k Y=>k<=ws.length/\ExH Y L x q c/\Bw w Y,fun k=>ws.length-k,0,
   (cvE rfl rfl),⟨Nat.zero_le _,fX,hbX⟩,?_⟩
  clear fX hbX;rintro k Y ⟨hk,fY,hbY⟩;dsimp only;refine biE (fun hc=>?_) fun hc=>?_
  ·have hc:(k:Int)<(ws.length:Int):=dT hc;have hkl:k<ws.length:=by omega
   obtain⟨h1,h2⟩:=znZ hs hkl;obtain⟨bw,ow,hq,hbw,hat⟩:=(hw.below hbY).at hkl;obtain⟨v,hv2⟩:∃ v,ws[k]=v:=⟨_,rfl⟩;have hatk:=hat k hkl;rw [hv2] at hatk h1 h2;have hm:(UInt8.ofNat (k+1)).toNat=k+1:=by
    rw [UInt8.toNat_ofNat'];exact Nat.mod_eq_of_lt (by omega)
   subst hq;refine⟨k,rfl,hkl,?_⟩;refine⟨u8 v,by have:=zac hatk (i:=0) (v:=u8 v) rfl;exact this,?_⟩;refine nxI (by omega) ?_;refine⟨((UInt8.ofNat (k+1)).toNat:Int),zoX _,?_⟩;refine⟨exC x q c,zao _ _ _,zab fY,hlt fY,?_⟩;refine cmo (zoV (m:=UInt8.ofNat (k+1)) (hv.below hbY) (hT.below hbY)) ?_;rintro e Z ⟨rfl,hbZ⟩;rw [hm,h1];have bZ:=zst hbY hbZ;have fZ:=zaa hbZ fY;have hvv:UInt8.ofNat v.toNat=v:=UInt8.ofNat_toNat;rw [hvv];refine biE (fun h=>?_) fun _=>?_
   ·have h:(!decide ((v.toNat:Int)=(v.toNat:Int)))=true:=h;rw [decide_eq_true rfl] at h
    cases h
   refine nxI (by omega) ?_;refine⟨((UInt8.ofNat (k+1)).toNat:Int),zoX _,?_⟩;refine⟨exC x q c,zao _ _ _,zab fZ,hlt fZ,?_⟩;refine cmo (zrf (m:=UInt8.ofNat (k+1)) (hv.below bZ) (hT.below bZ)) ?_;rintro e V ⟨rfl,hbV⟩;rw [hm,h2];have e0:decide (v=0)=decide ((v.toNat:Int)=0):=decide_eq_decide.2 (zbi (x:=v) (y:=0)).symm;rw [e0];refine⟨_,fun w=>zmF _ _ _ _ w,?_⟩;refine biE (fun h=>?_) fun _=>?_
   ·have h:(!decide (decide ((v.toNat:Int)=0)=decide ((v.toNat:Int)=0)))=true:=h;rw [decide_eq_true rfl] at h
    cases h
   refine nxI (by omega) ?_;exact⟨k+1,(cvE rfl rfl),⟨hkl,zaa hbV fZ,(zst bZ hbV)⟩,zdc (by omega)⟩
  ·exact⟨(),⟨.nil,rfl⟩,hbY⟩
 rintro _ Y hbY;exact⟨rfl,hbY⟩
theorem zsQ {n:Nat} {cs:List Value} (hcs:cs.length=333) (h0:cs[0]?=some (.slice q n c)):CB 12 #[.agg cs.toArray] w (.bool (decide (n<=16))):=by
 refine cofE 7 [.agg cs.toArray] Tryz.func12 ?_;have f:=hnew w (.cells cs.toArray 34);have hb:Bw w (w.alloc (.cells cs.toArray 34)):=zba w _;refine⟨.slice q n c,zac (zab f) (i:=0) h0,?_⟩;exact⟨rb (decide_eq_decide.2 (by show (n:Int)<=16↔_;omega)),hb⟩
end
structure FndV (X:World) (F:List ExD) (xs:List exE3) (q:Option Addr):Prop where
 e:xs.map (·.1)=F
 row:SlR exE X q xs
 ev:∀ x∈xs,SlR evE X x.2.1 x.1.ev
theorem FndV.below {X Y:World} {F:List ExD} {xs:List exE3} {q:Option Addr} (h:FndV X F xs q) (hb:Bw X Y):FndV Y F xs q:=⟨h.e,h.row.below hb,fun x hx=>(h.ev x hx).below hb⟩
theorem ze6 {r:RelD} (h:wrdB r=true):WrdR r.to:=by
 unfold wrdB at h;rw [List.all_eq_true] at h;exact fun i hi=>dT (h i (List.mem_range.2 hi))
theorem zqo {X:World} {x:ExD} {q:Option Addr} (h:exvB x=true) (he:SlR evE X q x.ev):ExV X x q:=by
 unfold exvB at h;simp only [bAT,dE] at h;obtain⟨h1,h2,h3,h4,h5,h6,h7⟩:=h;exact⟨he,h1,ze6 h2,ze6 h3,ze6 h4,ze6 h5,ze6 h6,ze6 h7⟩
theorem FndV.at {X:World} {F:List ExD} {xs:List exE3} {q:Option Addr} {i n:Nat} {want:List UInt8} (h:FndV X F xs q) (hs:zgU F i n want=true) (hi:i<n):xs.length=n/\∃ (b o:Nat) (y:exE3),q=some ⟨b,o,none⟩/\b<X.heap.size/\zaw X ⟨b,o+i*333,none⟩ (exC y.1 y.2.1 y.2.2)/\ExV X y.1 y.2.1/\zl8 y.1 want=true/\y.1=F.getD i (ex0 0):=by
 unfold zgU at hs;rw [bAT,bAT,dE] at hs;have hl:xs.length=n:=by
  have:=congrArg List.length h.e;rw [List.length_map] at this;omega
 have hix:i<xs.length:=by omega
 obtain⟨b,o,hq,hb,hat⟩:=h.row.at hix;obtain⟨y,hy⟩:∃ y,xs[i]=y:=⟨_,rfl⟩;have hym:y∈xs:=by rw [<- hy];exact gM hix
 have hF:y.1=F.getD i (ex0 0):=by
  rw [<- h.e,gDe,List.getElem?_map,gE hix,hy];rfl
 have hF2:y.1∈F:=by
  rw [<- h.e];exact List.mem_map_of_mem hym
 have hatk:=hat i hix;rw [hy] at hatk;exact⟨hl,b,o,y,hq,hb,hatk,zqo (List.all_eq_true.1 hs.2.1 _ hF2) (h.ev y hym),by rw [hF];exact hs.2.2,hF⟩
theorem zeu {W:World} {g:Nat} {cs:List Value} {l:List InsD} (h:W.heap[g]?=some (.cells cs.toArray 59 (0,0))) (hc:cs=l.flatMap insE.enc):RowB insE W.heap.size W (some ⟨g,0,none⟩) l :=
 .inr ⟨g,0,rfl,hlt h,by rw [<- hc];exact zab h⟩
theorem zny {w:World} (hG:GlobE w):CB 13 #[] w (.bool true):=by
 refine cofM 98 [] (.s .p (.c .p (.c .p (.c .p (.c .p (.c .p (.c .p .p))))))) Tryz.func13 ?_;refine⟨List exE3×Option Addr×Nat,fun s=>⟨[(1,.slice s.2.1 s.1.length s.2.2)],[]⟩,fun s X=>FndV X sbF s.1 s.2.1/\Bw w X,?_,?_⟩
 ·have b0:=(Below.refl w.heap.size w);refine cmo (st_c (l:=0) (v:=1) (m:=0)) ?_;rintro e V1 ⟨rfl,hv1⟩;have b1:=zst b0 hv1;refine cmo (ld_c (d:=0) (l:=1) (m:=0)) ?_;rintro e V2 ⟨rfl,hv2⟩;have b2:=zst b1 hv2;refine⟨⟨by decide,by decide,rfl⟩,insE.enc (stI 0 1 0)++insE.enc (ldI 0 1 0),by kernel_rfl,?_⟩;obtain⟨V3,e3⟩:=nm (V2.alloc (.cells (insE.enc (stI 0 1 0)++insE.enc (ldI 0 1 0)).toArray 59));have hv3:Bw V2 V3:=by rw [e3];exact (zba _ _)
  have f3:V3.heap[V2.heap.size]?=some (.cells (insE.enc (stI 0 1 0)++insE.enc (ldI 0 1 0)).toArray 59 (0,0)):=by rw [e3];exact hnew _ _
  rw [<- e3];have b3:=zst b2 hv3;refine cmo (st_c (l:=1) (v:=1) (m:=0)) ?_;rintro e V4 ⟨rfl,hv4⟩;have b4:=zst b3 hv4;refine cmo (ld_c (d:=0) (l:=0) (m:=0)) ?_;rintro e V5 ⟨rfl,hv5⟩;have b5:=zst b4 hv5;refine⟨⟨by decide,by decide,rfl⟩,insE.enc (stI 1 1 0)++insE.enc (ldI 0 0 0),by kernel_rfl,?_⟩;obtain⟨V6,e6⟩:=nm (V5.alloc (.cells (insE.enc (stI 1 1 0)++insE.enc (ldI 0 0 0)).toArray 59));have hv6:Bw V5 V6:=by rw [e6];exact (zba _ _)
  have f6:V6.heap[V5.heap.size]?=some (.cells (insE.enc (stI 1 1 0)++insE.enc (ldI 0 0 0)).toArray 59 (0,0)):=by rw [e6];exact hnew _ _
  rw [<- e6];have b6:=zst b5 hv6;refine cmo (znR (la:=[stI 0 1 0,ldI 0 1 0]) (lb:=[stI 1 1 0,ldI 0 0 0]) (zeu (zaa hv6 (zaa hv5 (zaa hv4 (f3)))) (l:=[stI 0 1 0,ldI 0 1 0]) rfl) (zeu (f6) (l:=[stI 1 1 0,ldI 0 0 0]) rfl) (Nat.le_of_ble_eq_true rfl) (Nat.le_of_ble_eq_true rfl) (fun a h=>by cases h;exact hlt (zaa hv6 (zaa hv5 (zaa hv4 (f3))))) (fun a h=>by cases h;exact hlt (f6))) ?_;rintro e V7 ⟨⟨vs,rfl,hP⟩,hv7⟩;have b7:=zst b6 hv7;refine cmo (zhL (p:=sbP) (n:=5) (V:=[0,1]) (a:=0) (b:=0) (Nat.le_refl _) hP (hG.below b7) (zfS sb_q)) ?_;rintro e V8 ⟨⟨xs,q,c,rfl,h1,h2,h3⟩,hv8⟩;have b8:=zst b7 hv8;exact⟨(xs,q,c),(cvE rfl rfl),⟨h1,h2,h3⟩,b8⟩
 rintro s1 W1 ⟨g1,hb1⟩;refine⟨List exE3×Option Addr×Nat,fun s=>⟨[(1,.slice s1.2.1 s1.1.length s1.2.2),(2,.slice s.2.1 s.1.length s.2.2)],[]⟩,fun s X=>FndV X mpF s.1 s.2.1/\FndV X sbF s1.1 s1.2.1/\Bw w X,?_,?_⟩
 ·have b0:=hb1;refine cmo (st_c (l:=0) (v:=1) (m:=0)) ?_;rintro e V1 ⟨rfl,hv1⟩;have b1:=zst b0 hv1;refine cmo (st_c (l:=1) (v:=1) (m:=0)) ?_;rintro e V2 ⟨rfl,hv2⟩;have b2:=zst b1 hv2;refine⟨⟨by decide,by decide,rfl⟩,insE.enc (stI 0 1 0)++insE.enc (stI 1 1 0),by kernel_rfl,?_⟩;obtain⟨V3,e3⟩:=nm (V2.alloc (.cells (insE.enc (stI 0 1 0)++insE.enc (stI 1 1 0)).toArray 59));have hv3:Bw V2 V3:=by rw [e3];exact (zba _ _)
  have f3:V3.heap[V2.heap.size]?=some (.cells (insE.enc (stI 0 1 0)++insE.enc (stI 1 1 0)).toArray 59 (0,0)):=by rw [e3];exact hnew _ _
  rw [<- e3];have b3:=zst b2 hv3;refine cmo (ld_c (d:=1) (l:=1) (m:=0)) ?_;rintro e V4 ⟨rfl,hv4⟩;have b4:=zst b3 hv4;refine cmo (ld_c (d:=0) (l:=0) (m:=0)) ?_;rintro e V5 ⟨rfl,hv5⟩;have b5:=zst b4 hv5;refine⟨⟨by decide,by decide,rfl⟩,insE.enc (ldI 1 1 0)++insE.enc (ldI 0 0 0),by kernel_rfl,?_⟩;obtain⟨V6,e6⟩:=nm (V5.alloc (.cells (insE.enc (ldI 1 1 0)++insE.enc (ldI 0 0 0)).toArray 59));have hv6:Bw V5 V6:=by rw [e6];exact (zba _ _)
  have f6:V6.heap[V5.heap.size]?=some (.cells (insE.enc (ldI 1 1 0)++insE.enc (ldI 0 0 0)).toArray 59 (0,0)):=by rw [e6];exact hnew _ _
  rw [<- e6];have b6:=zst b5 hv6;refine cmo (znR (la:=[stI 0 1 0,stI 1 1 0]) (lb:=[ldI 1 1 0,ldI 0 0 0]) (zeu (zaa hv6 (zaa hv5 (zaa hv4 (f3)))) (l:=[stI 0 1 0,stI 1 1 0]) rfl) (zeu (f6) (l:=[ldI 1 1 0,ldI 0 0 0]) rfl) (Nat.le_of_ble_eq_true rfl) (Nat.le_of_ble_eq_true rfl) (fun a h=>by cases h;exact hlt (zaa hv6 (zaa hv5 (zaa hv4 (f3))))) (fun a h=>by cases h;exact hlt (f6))) ?_;rintro e V7 ⟨⟨vs,rfl,hP⟩,hv7⟩;have b7:=zst b6 hv7;refine cmo (zhL (p:=mpP) (n:=5) (V:=[0,1]) (a:=0) (b:=0) (Nat.le_refl _) hP (hG.below b7) (zfS mp_q)) ?_;rintro e V8 ⟨⟨xs,q,c,rfl,h1,h2,h3⟩,hv8⟩;have b8:=zst b7 hv8;have bt:Bw W1 V8:=by
   have c1:=hv1;have c2:=zst c1 hv2;have c3:=zst c2 hv3;have c4:=zst c3 hv4;have c5:=zst c4 hv5;have c6:=zst c5 hv6;have c7:=zst c6 hv7;have c8:=zst c7 hv8;exact c8
  exact⟨(xs,q,c),(cvE rfl rfl),⟨h1,h2,h3⟩,g1.below bt,b8⟩
 rintro s2 W2 ⟨g2,g1,hb2⟩;refine⟨List exE3×Option Addr×Nat,fun s=>⟨[(1,.slice s1.2.1 s1.1.length s1.2.2),(2,.slice s2.2.1 s2.1.length s2.2.2),(3,.slice s.2.1 s.1.length s.2.2)],[]⟩,fun s X=>FndV X raF s.1 s.2.1/\FndV X sbF s1.1 s1.2.1/\FndV X mpF s2.1 s2.2.1/\Bw w X,?_,?_⟩
 ·have b0:=hb2;refine cmo (st_c (l:=0) (v:=1) (m:=0)) ?_;rintro e V1 ⟨rfl,hv1⟩;have b1:=zst b0 hv1;refine cmo (st_c (l:=1) (v:=1) (m:=2)) ?_;rintro e V2 ⟨rfl,hv2⟩;have b2:=zst b1 hv2;refine⟨⟨by decide,by decide,rfl⟩,insE.enc (stI 0 1 0)++insE.enc (stI 1 1 2),by kernel_rfl,?_⟩;obtain⟨V3,e3⟩:=nm (V2.alloc (.cells (insE.enc (stI 0 1 0)++insE.enc (stI 1 1 2)).toArray 59));have hv3:Bw V2 V3:=by rw [e3];exact (zba _ _)
  have f3:V3.heap[V2.heap.size]?=some (.cells (insE.enc (stI 0 1 0)++insE.enc (stI 1 1 2)).toArray 59 (0,0)):=by rw [e3];exact hnew _ _
  rw [<- e3];have b3:=zst b2 hv3;refine cmo (ld_c (d:=1) (l:=1) (m:=1)) ?_;rintro e V4 ⟨rfl,hv4⟩;have b4:=zst b3 hv4;refine cmo (ld_c (d:=0) (l:=0) (m:=0)) ?_;rintro e V5 ⟨rfl,hv5⟩;have b5:=zst b4 hv5;refine⟨⟨by decide,by decide,rfl⟩,insE.enc (ldI 1 1 1)++insE.enc (ldI 0 0 0),by kernel_rfl,?_⟩;obtain⟨V6,e6⟩:=nm (V5.alloc (.cells (insE.enc (ldI 1 1 1)++insE.enc (ldI 0 0 0)).toArray 59));have hv6:Bw V5 V6:=by rw [e6];exact (zba _ _)
  have f6:V6.heap[V5.heap.size]?=some (.cells (insE.enc (ldI 1 1 1)++insE.enc (ldI 0 0 0)).toArray 59 (0,0)):=by rw [e6];exact hnew _ _
  rw [<- e6];have b6:=zst b5 hv6;refine cmo (znR (la:=[stI 0 1 0,stI 1 1 2]) (lb:=[ldI 1 1 1,ldI 0 0 0]) (zeu (zaa hv6 (zaa hv5 (zaa hv4 (f3)))) (l:=[stI 0 1 0,stI 1 1 2]) rfl) (zeu (f6) (l:=[ldI 1 1 1,ldI 0 0 0]) rfl) (Nat.le_of_ble_eq_true rfl) (Nat.le_of_ble_eq_true rfl) (fun a h=>by cases h;exact hlt (zaa hv6 (zaa hv5 (zaa hv4 (f3))))) (fun a h=>by cases h;exact hlt (f6))) ?_;rintro e V7 ⟨⟨vs,rfl,hP⟩,hv7⟩;have b7:=zst b6 hv7;refine cmo (zhL (p:=raP) (n:=5) (V:=[0,1]) (a:=0) (b:=0) (Nat.le_refl _) hP (hG.below b7) (zfS ra_q)) ?_;rintro e V8 ⟨⟨xs,q,c,rfl,h1,h2,h3⟩,hv8⟩;have b8:=zst b7 hv8;have bt:Bw W2 V8:=by
   have c1:=hv1;have c2:=zst c1 hv2;have c3:=zst c2 hv3;have c4:=zst c3 hv4;have c5:=zst c4 hv5;have c6:=zst c5 hv6;have c7:=zst c6 hv7;have c8:=zst c7 hv8;exact c8
  exact⟨(xs,q,c),(cvE rfl rfl),⟨h1,h2,h3⟩,g1.below bt,g2.below bt,b8⟩
 rintro s3 W3 ⟨g3,g1,g2,hb3⟩;refine⟨List exE3×Option Addr×Nat,fun s=>⟨[(1,.slice s1.2.1 s1.1.length s1.2.2),(2,.slice s2.2.1 s2.1.length s2.2.2),(3,.slice s3.2.1 s3.1.length s3.2.2),(4,.slice s.2.1 s.1.length s.2.2)],[]⟩,fun s X=>FndV X coF s.1 s.2.1/\FndV X sbF s1.1 s1.2.1/\FndV X mpF s2.1 s2.2.1/\FndV X raF s3.1 s3.2.1/\Bw w X,?_,?_⟩
 ·have b0:=hb3;refine cmo (st_c (l:=0) (v:=1) (m:=0)) ?_;rintro e V1 ⟨rfl,hv1⟩;have b1:=zst b0 hv1;refine cmo (ld_c (d:=0) (l:=0) (m:=0)) ?_;rintro e V2 ⟨rfl,hv2⟩;have b2:=zst b1 hv2;refine⟨⟨by decide,by decide,rfl⟩,insE.enc (stI 0 1 0)++insE.enc (ldI 0 0 0),by kernel_rfl,?_⟩;obtain⟨V3,e3⟩:=nm (V2.alloc (.cells (insE.enc (stI 0 1 0)++insE.enc (ldI 0 0 0)).toArray 59));have hv3:Bw V2 V3:=by rw [e3];exact (zba _ _)
  have f3:V3.heap[V2.heap.size]?=some (.cells (insE.enc (stI 0 1 0)++insE.enc (ldI 0 0 0)).toArray 59 (0,0)):=by rw [e3];exact hnew _ _
  rw [<- e3];have b3:=zst b2 hv3;refine cmo (znR (la:=[stI 0 1 0,ldI 0 0 0]) (lb:=[]) (zeu (f3) (l:=[stI 0 1 0,ldI 0 0 0]) rfl) (.inl rfl) (Nat.le_of_ble_eq_true rfl) (Nat.le_of_ble_eq_true rfl) (fun a h=>by cases h;exact hlt (f3)) (fun a h=>by cases h)) ?_;rintro e V4 ⟨⟨vs,rfl,hP⟩,hv4⟩;have b4:=zst b3 hv4;refine cmo (zhL (p:=coP) (n:=5) (V:=[0,1]) (a:=0) (b:=0) (Nat.le_refl _) hP (hG.below b4) (zfS co_q)) ?_;rintro e V5 ⟨⟨xs,q,c,rfl,h1,h2,h3⟩,hv5⟩;have b5:=zst b4 hv5;have bt:Bw W3 V5:=by
   have c1:=hv1;have c2:=zst c1 hv2;have c3:=zst c2 hv3;have c4:=zst c3 hv4;have c5:=zst c4 hv5;exact c5
  exact⟨(xs,q,c),(cvE rfl rfl),⟨h1,h2,h3⟩,g1.below bt,g2.below bt,g3.below bt,b5⟩
 rintro s4 W4 ⟨g4,g1,g2,g3,hb4⟩;obtain⟨l1,n1,o1,y1,q1,d1,at1,v1,say1,_⟩:=g1.at zpE (by decide);obtain⟨l2,n2,o2,y2,q2,d2,at2,v2,say2,r2⟩:=g2.at zp3 (by decide);obtain⟨l3,n3,o3,y3,q3,d3,at3,v3,say3,r3⟩:=g3.at zpT (by decide);obtain⟨l4,n4,o4,y4,q4,d4,at4,v4,say4,_⟩:=g4.at zqQ (by decide);have hTW:=hG.t64.below hb4;have rg2:y2.1.regs 9=1:=by rw [r2];exact zrF
 have rg3:y3.1.regs 9=1:=by rw [r3];exact zrw
 have i2:1<s2.1.length:=by omega
 have i3:1<s3.1.length:=by omega
 have i1:0<s1.1.length:=by omega
 have i4:0<s4.1.length:=by omega
 obtain⟨xs1,p1,c1⟩:=s1;obtain⟨xs2,p2,c2⟩:=s2;obtain⟨xs3,p3,c3⟩:=s3;obtain⟨xs4,p4,c4⟩:=s4;dsimp only at l1 l2 l3 l4 i1 i2 i3 i4 q1 q2 q3 q4 ⊢;subst q1 q2 q3 q4;have no:∀ {n m:Nat},n=m->(!decide ((n:Int)=(m:Int)))=false:=fun {n m} h=>by rw [h,decide_eq_true rfl];rfl
 refine⟨Unit,fun _=>⟨[(1,.slice (some ⟨n1,o1,none⟩) xs1.length c1),(2,.slice (some ⟨n2,o2,none⟩) xs2.length c2),(3,.slice (some ⟨n3,o3,none⟩) xs3.length c3),(4,.slice (some ⟨n4,o4,none⟩) xs4.length c4)],[]⟩,fun _ X=>W4=X,?_,?_⟩
 ·refine brN (no (m:=1) l1) ?_;refine brN (no (m:=2) l2) ?_;refine brN (no (m:=2) l3) ?_;refine brN (no (m:=1) l4) ?_;exact⟨(),(cvE rfl rfl),rfl⟩
 rintro _ _ rfl;obtain⟨X0,hX0⟩:∃ X0:Value,X0 = .agg (zt34).toArray:=⟨_,rfl⟩;refine⟨Nat×Nat,fun s=>⟨[(1,.slice (some ⟨n1,o1,none⟩) xs1.length c1),(4,.slice (some ⟨n4,o4,none⟩) xs4.length c4),(5,At0 s.1),(6,At0 s.2)],[]⟩,fun s X=>ExH X s.1 y2.1 y2.2.1 y2.2.2/\ExH X s.2 y3.1 y3.2.1 y3.2.2/\Bw W4 X,?_,?_⟩
 ·have dW:Bw W4 W4.drew:=(Below.refl _ _).drew;have zex:Obj.cells (zt34).toArray 34=Obj.cells (zt34).toArray 34:=rfl;have two:∀ {W:World},Bw W4 W->Bw W4 ((W.alloc (.cells (zt34).toArray 34)).alloc (.cells (zt34).toArray 34))/\((W.alloc (.cells (zt34).toArray 34)).alloc (.cells (zt34).toArray 34)).heap[W.heap.size]?=some (.cells (zt34).toArray 34 (0,0))/\((W.alloc (.cells (zt34).toArray 34)).alloc (.cells (zt34).toArray 34)).heap[(W.alloc (.cells (zt34).toArray 34)).heap.size]?=some (.cells (zt34).toArray 34 (0,0))/\W.heap.size<(W.alloc (.cells (zt34).toArray 34)).heap.size:=fun {W} hW=>by
   have b1:=hW.alloc hW.size (.cells (zt34).toArray 34);exact⟨b1.alloc b1.size _,hold _ (hnew W _),hnew _ _,by rw [wz];omega⟩
  have s8:∀ {W:World} {bx bv:Nat},Bw W4 W->W.heap[bx]?=some (.cells (zt34).toArray 34 (0,0))->W.heap[bv]?=some (.cells (zt34).toArray 34 (0,0))->bx≠bv->W4.heap.size<=bx->∀ {K:World->Prop},(∀ D,(Bw W4 D/\ExH D bx y2.1 y2.2.1 y2.2.2/\D.heap[bv]?=some (.cells (zt34).toArray 34 (0,0)))->K D)->SatR ((storeVar 34 ⟨bx,0,none⟩ (.agg (exC y2.1 y2.2.1 y2.2.2).toArray)).run Tryz.prog W) fun _ w'=>K w':=fun {W bx bv} hW fx fy hne hx {K} k =>
   zar (v := .agg (exC y2.1 y2.2.1 y2.2.2).toArray) k34 fx (zao _ _ _) zbI (zde _ _ _) (k _ ⟨zah hW hx _,zal fx,(zam (fun e=>hne e.symm)).trans fy⟩)
  have s9:∀ {W:World} {bx bv:Nat},(Bw W4 W/\ExH W bx y2.1 y2.2.1 y2.2.2/\W.heap[bv]?=some (.cells (zt34).toArray 34 (0,0)))->bx≠bv->W4.heap.size<=bv->∀ {K:World->Prop},(∀ D,(ExH D bx y2.1 y2.2.1 y2.2.2/\ExH D bv y3.1 y3.2.1 y3.2.2/\Bw W4 D)->K D)->SatR ((storeVar 34 ⟨bv,0,none⟩ (.agg (exC y3.1 y3.2.1 y3.2.2).toArray)).run Tryz.prog W) fun _ w'=>K w':=fun {W bx bv} h hne hx {K} k =>
   zar (v := .agg (exC y3.1 y3.2.1 y3.2.2).toArray) k34 h.2.2 (zao _ _ _) zbI (zde _ _ _) (k _ ⟨(zam hne).trans h.2.1,zal h.2.2,zah h.1 hx _⟩)
  have hba:∀ (A:World) (o:Obj),Bw A (A.alloc o):=fun A o=>(zba _ _);refine DrawE.treeR [8,9] (.op 0 (.op 1 (.op 2 (.op 3 (.op 4 (.alt (.op 6 (.alt (.op 7 (.alt (.op 8 (.op 5 (.op 9 .nil))) (.op 5 (.op 8 (.op 9 .nil))))) (.op 5 (.op 7 (.op 8 (.op 9 .nil)))))) (.alt (.op 7 (.alt (.op 6 (.alt (.op 8 (.op 5 (.op 9 .nil))) (.op 5 (.op 8 (.op 9 .nil))))) (.op 5 (.op 6 (.op 8 (.op 9 .nil)))))) (.op 5 (.alt (.op 6 (.op 7 (.op 8 (.op 9 .nil)))) (.op 7 (.op 6 (.op 8 (.op 9 .nil))))))))))))) (by kernel_rfl) ?_;refine⟨1,rfl,i2,?_⟩;refine⟨exC y2.1 y2.2.1 y2.2.2,zao _ _ _,zaB dW d2 at2,d2,?_⟩;refine⟨1,rfl,i3,?_⟩;obtain⟨U,hU⟩:=nm (W4.drew);have bU:Bw W4 U:=by rw [hU];exact dW
  obtain⟨t1,t2,t3,t4⟩:=two bU;have sU:=bU.size;rw [<- hU];refine And.intro ?_ ?_
  ·refine⟨hba _ _,?_⟩;refine And.intro ?_ ?_
   ·refine⟨hba _ _,?_⟩;refine And.intro ?_ ?_
    ·refine s8 t1 t2 t3 (by omega) (by omega) fun D hD=>?_;refine⟨exC y3.1 y3.2.1 y3.2.2,zao _ _ _,zaB hD.1 d3 at3,nL d3 (Below.size hD.1),?_⟩;refine s9 hD (by omega) (by omega) fun F hF=>?_;exact⟨(_,_),(cvE rfl rfl),hF⟩
    ·refine⟨exC y3.1 y3.2.1 y3.2.2,zao _ _ _,zaB t1 d3 at3,nL d3 (Below.size t1),?_⟩;refine s8 t1 t2 t3 (by omega) (by omega) fun D hD=>?_;refine s9 hD (by omega) (by omega) fun F hF=>?_;exact⟨(_,_),(cvE rfl rfl),hF⟩
   ·refine⟨exC y3.1 y3.2.1 y3.2.2,zao _ _ _,zaB (bU.alloc sU _) d3 at3,nL d3 (Below.size (bU.alloc sU _)),?_⟩;refine⟨hba _ _,?_⟩;refine s8 t1 t2 t3 (by omega) (by omega) fun D hD=>?_;refine s9 hD (by omega) (by omega) fun F hF=>?_;exact⟨(_,_),(cvE rfl rfl),hF⟩
  ·refine And.intro ?_ ?_
   ·refine⟨hba _ _,?_⟩;refine And.intro ?_ ?_
    ·refine⟨hba _ _,?_⟩;refine And.intro ?_ ?_
     ·refine s8 t1 t3 t2 (by omega) (by omega) fun D hD=>?_;refine⟨exC y3.1 y3.2.1 y3.2.2,zao _ _ _,zaB hD.1 d3 at3,nL d3 (Below.size hD.1),?_⟩;refine s9 hD (by omega) (by omega) fun F hF=>?_;exact⟨(_,_),(cvE rfl rfl),hF⟩
     ·refine⟨exC y3.1 y3.2.1 y3.2.2,zao _ _ _,zaB t1 d3 at3,nL d3 (Below.size t1),?_⟩;refine s8 t1 t3 t2 (by omega) (by omega) fun D hD=>?_;refine s9 hD (by omega) (by omega) fun F hF=>?_;exact⟨(_,_),(cvE rfl rfl),hF⟩
    ·refine⟨exC y3.1 y3.2.1 y3.2.2,zao _ _ _,zaB (bU.alloc sU _) d3 at3,nL d3 (Below.size (bU.alloc sU _)),?_⟩;refine⟨hba _ _,?_⟩;refine s8 t1 t3 t2 (by omega) (by omega) fun D hD=>?_;refine s9 hD (by omega) (by omega) fun F hF=>?_;exact⟨(_,_),(cvE rfl rfl),hF⟩
   ·refine⟨exC y3.1 y3.2.1 y3.2.2,zao _ _ _,zaB bU d3 at3,nL d3 (Below.size bU),?_⟩;refine And.intro ?_ ?_
    ·refine⟨hba _ _,?_⟩;refine⟨hba _ _,?_⟩;refine s8 t1 t2 t3 (by omega) (by omega) fun D hD=>?_;refine s9 hD (by omega) (by omega) fun F hF=>?_;exact⟨(_,_),(cvE rfl rfl),hF⟩
    ·refine⟨hba _ _,?_⟩;refine⟨hba _ _,?_⟩;refine s8 t1 t3 t2 (by omega) (by omega) fun D hD=>?_;refine s9 hD (by omega) (by omega) fun F hF=>?_;exact⟨(_,_),(cvE rfl rfl),hF⟩
 rintro⟨bx,bv⟩ X ⟨fx,fv,hbX⟩;dsimp only at fx fv ⊢;have bw:=zst hb4 hbX;have ex9:(exC y2.1 y2.2.1 y2.2.2)[304]?=some (u8 (y2.1.regs 9)):=zhN y2.1 y2.2.1 y2.2.2 (i:=9) (by decide);have ev9:(exC y3.1 y3.2.1 y3.2.2)[304]?=some (u8 (y3.1.regs 9)):=zhN y3.1 y3.2.1 y3.2.2 (i:=9) (by decide);have one:∀ {r:UInt8},r=1->decide ((r.toNat:Int)=1)=true:=fun h=>by rw [h];rfl
 refine⟨1,rfl,by decide,?_⟩;refine⟨1,rfl,by decide,?_⟩;refine⟨u8 (y2.1.regs 9),zac (zab fx) ex9,?_⟩;refine brE (one rg2) ?_;refine⟨1,rfl,by decide,?_⟩;refine⟨1,rfl,by decide,?_⟩;refine⟨u8 (y3.1.regs 9),zac (zab fv) ev9,?_⟩;refine brE (one rg3) ?_;refine⟨0,rfl,i1,?_⟩;refine⟨exC y1.1 y1.2.1 y1.2.2,zao _ _ _,zaB hbX d1 at1,nL d1 (Below.size hbX),?_⟩;refine⟨⟨by decide,by decide,rfl⟩,[u8 0,u8 3,u8 0,u8 0,u8 0,u8 0],rfl,?_⟩;obtain⟨T0,eT0⟩:∃ T,T=X.alloc (.cells ([u8 0,u8 3,u8 0,u8 0,u8 0,u8 0]:List Value).toArray 5):=⟨_,rfl⟩;have ba0:Bw X T0:=by rw [eT0];exact (zba _ _)
 have fa0:T0.heap[X.heap.size]?=some (.cells ([u8 0,u8 3,u8 0,u8 0,u8 0,u8 0]:List Value).toArray 5 (0,0)):=by rw [eT0];exact hnew _ _
 rw [<- eT0];have bt0:=zst hbX ba0;refine cmo (zj1 (ws:=[0,3,0,0,0,0]) (v1.below bt0) (hTW.below bt0) (SlR.of_cells (hlt fa0) (by exact zab fa0)) say1 (by decide)) ?_;rintro e Z1 ⟨rfl,hz1⟩;have bz1:=zst bt0 hz1;have k1:=zst ba0 hz1;refine brT ?_;refine⟨exC y2.1 y2.2.1 y2.2.2,zao _ _ _,zab (zaa k1 fx),hlt (zaa k1 fx),?_⟩;refine⟨⟨by decide,by decide,rfl⟩,[u8 0,u8 3,u8 3,u8 0,u8 0,u8 0],rfl,?_⟩;obtain⟨T1,eT1⟩:∃ T,T=Z1.alloc (.cells ([u8 0,u8 3,u8 3,u8 0,u8 0,u8 0]:List Value).toArray 5):=⟨_,rfl⟩;have ba1:Bw Z1 T1:=by rw [eT1];exact (zba _ _)
 have fa1:T1.heap[Z1.heap.size]?=some (.cells ([u8 0,u8 3,u8 3,u8 0,u8 0,u8 0]:List Value).toArray 5 (0,0)):=by rw [eT1];exact hnew _ _
 rw [<- eT1];have bt1:=zst bz1 ba1;refine cmo (zj1 (ws:=[0,3,3,0,0,0]) (v2.below bt1) (hTW.below bt1) (SlR.of_cells (hlt fa1) (by exact zab fa1)) say2 (by decide)) ?_;rintro e Z2 ⟨rfl,hz2⟩;have bz2:=zst bt1 hz2;have k2:=((zst k1 ba1)).trans (hz2.mono (by have:=k1.size;have:=ba1.size;omega));refine brT ?_;refine⟨exC y3.1 y3.2.1 y3.2.2,zao _ _ _,zab (zaa k2 fv),hlt (zaa k2 fv),?_⟩;refine⟨⟨by decide,by decide,rfl⟩,[u8 0,u8 3,u8 3,u8 0,u8 3,u8 0],rfl,?_⟩;obtain⟨T2,eT2⟩:∃ T,T=Z2.alloc (.cells ([u8 0,u8 3,u8 3,u8 0,u8 3,u8 0]:List Value).toArray 5):=⟨_,rfl⟩;have ba2:Bw Z2 T2:=by rw [eT2];exact (zba _ _)
 have fa2:T2.heap[Z2.heap.size]?=some (.cells ([u8 0,u8 3,u8 3,u8 0,u8 3,u8 0]:List Value).toArray 5 (0,0)):=by rw [eT2];exact hnew _ _
 rw [<- eT2];have bt2:=zst bz2 ba2;refine cmo (zj1 (ws:=[0,3,3,0,3,0]) (v3.below bt2) (hTW.below bt2) (SlR.of_cells (hlt fa2) (by exact zab fa2)) say3 (by decide)) ?_;rintro e Z3 ⟨rfl,hz3⟩;have bz3:=zst bt2 hz3;have k3:=((zst k2 ba2)).trans (hz3.mono (by have:=k2.size;have:=ba2.size;omega));refine brT ?_;refine⟨0,rfl,i4,?_⟩;refine⟨exC y4.1 y4.2.1 y4.2.2,zao _ _ _,zaB bz3 d4 at4,nL d4 (Below.size bz3),?_⟩;refine⟨⟨by decide,by decide,rfl⟩,[u8 1,u8 1,u8 1,u8 1,u8 1,u8 1],rfl,?_⟩;obtain⟨T3,eT3⟩:∃ T,T=Z3.alloc (.cells ([u8 1,u8 1,u8 1,u8 1,u8 1,u8 1]:List Value).toArray 5):=⟨_,rfl⟩;have ba3:Bw Z3 T3:=by rw [eT3];exact (zba _ _)
 have fa3:T3.heap[Z3.heap.size]?=some (.cells ([u8 1,u8 1,u8 1,u8 1,u8 1,u8 1]:List Value).toArray 5 (0,0)):=by rw [eT3];exact hnew _ _
 rw [<- eT3];have bt3:=zst bz3 ba3;refine cmo (zj1 (ws:=[1,1,1,1,1,1]) (v4.below bt3) (hTW.below bt3) (SlR.of_cells (hlt fa3) (by exact zab fa3)) say4 (by decide)) ?_;rintro e Z4 ⟨rfl,hz4⟩;have bz4:=zst bt3 hz4;have k4:=((zst k3 ba3)).trans (hz4.mono (by have:=k3.size;have:=ba3.size;omega));exact⟨rfl,(zst hb4 bz4)⟩
section
variable {w:World} {x:ExD} {q:Option Addr} {c:Nat}
theorem zrT (h:SlR evE w q x.ev/\WX x) (h16:x.ev.length<=16):ExV w x q:=⟨h.1,by omega,h.2.po,h.2.rf,h.2.co,h.2.dt,h.2.ct,h.2.rm⟩
end
theorem zd8 (a:RelD):zbe a a=true:=zim.1 rfl
section
variable {w:World} {c:Nat} {x:ExD} {q:Option Addr} {m md:UInt8} {r:RelD}
theorem ziE (hv0:SlR evE w q x.ev/\WX x) (hr:WrdR r.to) (hG:GlobE w):CB 5 #[.agg (exC x q c).toArray,.agg (relC r).toArray,u8 md,u8 m] w (.bool true):=by
 refine cofM 132 [.agg (exC x q c).toArray,.agg (relC r).toArray,u8 md,u8 m] (.c .p (.c .p (.c .p (.c .p (.c .p (.c .p (.c .p .p))))))) Tryz.func5 ?_;obtain⟨L,hL⟩:=nm (w.heap.size);refine⟨Unit,fun _=>⟨[(2,u8 md),(3,u8 m),(4,At0 L),(5,At0 (L+1))],[]⟩,fun _ X=>ExH X L x q c/\RelH X (L+1) r/\Bw w X,?_,?_⟩
 ·obtain⟨h1,h2,h3,h4⟩:=zbx w x q c r 27;have s1:=wz w (.cells (exC x q c).toArray 34);exact⟨(),⟨.cons rfl (.cons rfl (.cons (by rw [hL];rfl) (.cons (by rw [hL,<- s1];rfl) .nil))),rfl⟩,by rw [hL];exact h1,by rw [hL];exact h2,h4⟩
 rintro _ X ⟨fX,fR,hbX⟩;refine⟨Unit,fun _=>⟨[(2,u8 md),(3,u8 m),(4,At0 L),(5,At0 (L+1))],[]⟩,fun _ Y=>x.ev.length<=16/\ExH Y L x q c/\RelH Y (L+1) r/\Bw w Y,?_,?_⟩
 ·refine⟨exC x q c,zao _ _ _,zab fX,hlt fX,?_⟩;refine cmo (zsQ (zao x q c) rfl) ?_;rintro e Y ⟨rfl,hbY⟩;have bY:=zst hbX hbY;refine biE (fun h=>?_) fun h=>?_
  ·refine cmo (zny (hG.below bY)) ?_;rintro e Z ⟨rfl,hbZ⟩;exact⟨rfl,(zst bY hbZ)⟩
  ·have h:decide (x.ev.length<=16)=true:=notF h;exact⟨(),(cvE rfl rfl),dT h,zaa hbY fX,zaa hbY fR,bY⟩
 clear fX fR hbX;clear X;rintro _ X ⟨h16,fX,fR,hbX⟩;have hv:=zrT hv0 h16;refine⟨Unit,fun _=>⟨[(2,u8 md),(3,u8 m),(4,At0 L),(5,At0 (L+1))],[]⟩,fun _ Y=>zaL x=true/\ExH Y L x q c/\RelH Y (L+1) r/\Bw w Y,?_,?_⟩
 ·refine⟨exC x q c,zao _ _ _,zab fX,hlt fX,?_⟩;refine cmo (zi3 (hv.below hbX)) ?_;rintro e Y ⟨rfl,hbY⟩;have bY:=zst hbX hbY;refine biE (fun h=>?_) fun h=>?_
  ·have h:zaL x=false:=notB h;have z0:∀ {a:RelD},a=zai->zbe a zai=true:=fun e=>by rw [e];exact zd8 _
   have z1:zbe (frX x) zai=true:=z0 (if_neg (by rw [h];decide));have z2:zbe (locX x) zai=true:=z0 (if_neg (by rw [h];decide));have nf:zcJ x x.rf=false:=by unfold zcJ;rw [h,Bool.and_false,Bool.and_false]
   have z3:zbe (extX x x.rf) zai=true:=z0 (if_neg (by rw [nf];decide));have z4:zbe (intX x x.rf) zai=true:=z0 (if_neg (by rw [nf];decide));have z5:zbe (zb9 x md) zai=true:=z0 (if_neg (by rw [h];decide));have z6:zbe (zgN m.toNat x) zai=true:=z0 (if_neg fun h2=>by rw [h] at h2;cases h2.2);replace fX:=zaa hbY fX;replace hbX:=bY;clear bY hbY fR;refine⟨_,zao _ _ _,zab fX,hlt fX,?_⟩;refine cmo (zsx (hv.below hbX) (hG.t64.below hbX)) ?_;rintro e U ⟨rfl,hbU⟩;have fX:=zaa hbU fX;replace hbX:=zst hbX hbU;refine⟨relC zai,by kernel_rfl,?_⟩;refine⟨_,fun w=>zca _ _ (frX x) (zai) w,?_⟩;refine brE (z1) ?_;refine⟨_,zao _ _ _,zab fX,hlt fX,?_⟩;refine cmo (zpn (hv.below hbX) (hG.t64.below hbX)) ?_;rintro e U ⟨rfl,hbU⟩;have fX:=zaa hbU fX;replace hbX:=zst hbX hbU;refine⟨relC zai,by kernel_rfl,?_⟩;refine⟨_,fun w=>zca _ _ (locX x) (zai) w,?_⟩;refine brE (z2) ?_;refine⟨_,zao _ _ _,zab fX,hlt fX,?_⟩;refine⟨relC x.rf,zad _,zaA fX (i:=1) (by decide) rfl,hlt fX,?_⟩;refine cmo (zpp (hv.below hbX) hv.rf (hG.t64.below hbX)) ?_;rintro e U ⟨rfl,hbU⟩;have fX:=zaa hbU fX;replace hbX:=zst hbX hbU;refine⟨relC zai,by kernel_rfl,?_⟩;refine⟨_,fun w=>zca _ _ (extX x x.rf) (zai) w,?_⟩;refine brE (z3) ?_;refine⟨_,zao _ _ _,zab fX,hlt fX,?_⟩;refine⟨relC x.rf,zad _,zaA fX (i:=1) (by decide) rfl,hlt fX,?_⟩;refine cmo (zpo (hv.below hbX) hv.rf (hG.t64.below hbX)) ?_;rintro e U ⟨rfl,hbU⟩;have fX:=zaa hbU fX;replace hbX:=zst hbX hbU;refine⟨relC zai,by kernel_rfl,?_⟩;refine⟨_,fun w=>zca _ _ (intX x x.rf) (zai) w,?_⟩;refine brE (z4) ?_;refine⟨_,zao _ _ _,zab fX,hlt fX,?_⟩;refine cmo (zi5 (md:=md) (hv.below hbX) (hG.t64.below hbX)) ?_;rintro e U ⟨rfl,hbU⟩;have fX:=zaa hbU fX;replace hbX:=zst hbX hbU;refine⟨relC zai,by kernel_rfl,?_⟩;refine⟨_,fun w=>zca _ _ (zb9 x md) (zai) w,?_⟩;refine brE (z5) ?_;refine⟨_,zao _ _ _,zab fX,hlt fX,?_⟩;refine cmo (znH (m:=m) (hv.below hbX) (hG.t64.below hbX)) ?_;rintro e U ⟨rfl,hbU⟩;have fX:=zaa hbU fX;replace hbX:=zst hbX hbU;refine⟨relC zai,by kernel_rfl,?_⟩;refine⟨_,fun w=>zca _ _ (zgN m.toNat x) (zai) w,?_⟩;refine brE (z6) ?_;refine cmo (zny (hG.below hbX)) ?_;rintro e U ⟨rfl,hbU⟩;have fX:=zaa hbU fX;replace hbX:=zst hbX hbU;exact⟨rfl,hbX⟩
  ·have h:zaL x=true:=notF h;exact⟨(),(cvE rfl rfl),h,zaa hbY fX,zaa hbY fR,bY⟩
 clear fX fR hbX;clear X;rintro _ X ⟨hri,fX,fR,hbX⟩;have hk:=zrJ hv0.2 hri;refine⟨Nat×Nat,fun s=>⟨[(2,u8 md),(3,u8 m),(4,At0 L),(5,At0 (L+1)),(9,At0 s.1),(10,At0 s.2)],[]⟩,fun s Z=>(L+1<s.1/\L+1<s.2/\s.1≠s.2)/\RelH Z s.1 zai/\RelH Z s.2 zai/\ExH Z L x q c/\RelH Z (L+1) r/\Bw w Z,?_,?_⟩
 ·obtain⟨A,hA⟩:=nm (X.alloc zRq);obtain⟨B,hB⟩:=nm (A.alloc zRq);have s1:A.heap.size=X.heap.size+1:=by rw [hA];exact wz _ _
  have f1:RelH B X.heap.size zai:=by rw [hB,hA];exact hold zRq (hnew X zRq)
  have f2:RelH B A.heap.size zai:=by rw [hB];exact hnew A zRq
  have b1:Bw w A:=by rw [hA];exact hbX.alloc hbX.size _
  have b2:Bw w B:=by rw [hB];exact b1.alloc b1.size _
  have gX:ExH B L x q c:=by rw [hB,hA];exact hold zRq (hold zRq fX)
  have gR:RelH B (L+1) r:=by rw [hB,hA];exact hold zRq (hold zRq fR)
  have l1:=hlt fX;have l2:=hlt fR;have l0:=hbX.size;refine⟨relC zai,by kernel_rfl,?_⟩;refine⟨relC zai,by kernel_rfl,?_⟩;subst hB hA;refine zcn (r:=zai) f1 l0 b2 fun Y f o b=>?_;refine zcn (r:=zai) ((o _ (by omega)).trans f2) (by omega) b fun Z g o2 b2=>?_;have q1:L+1<X.heap.size:=by omega
  have q2:L+1<(X.alloc zRq).heap.size:=by omega
  have q3:X.heap.size≠(X.alloc zRq).heap.size:=by omega
  exact⟨(_,_),⟨.cons rfl (.cons rfl (.cons rfl (.cons rfl (.cons rfl (.cons rfl (.nil)))))),rfl⟩,⟨q1,q2,q3⟩,(o2 _ (by omega)).trans f,g,(o2 L (by omega)).trans ((o L (by omega)).trans gX),(o2 (L+1) (by omega)).trans ((o (L+1) (by omega)).trans gR),b2⟩
 clear fX fR hbX;clear X;rintro⟨E,I⟩ X ⟨⟨hE,hI,hEI⟩,fE,fI,fX,fR,hbX⟩;dsimp only at hE hI hEI fE fI ⊢;obtain⟨A,hA⟩:=nm (if zcJ x r=true then zdi x r false else zai);obtain⟨B,hB⟩:=nm (if zcJ x r=true then zdi x r true else zai);refine⟨Unit,fun _=>⟨[(2,u8 md),(3,u8 m),(4,At0 L),(5,At0 (L+1)),(9,At0 E),(10,At0 I)],[]⟩,fun _ Z=>RelH Z E A/\RelH Z I B/\ExH Z L x q c/\RelH Z (L+1) r/\Bw w Z,?_,?_⟩
 ·refine⟨relC r,zad _,zab fR,hlt fR,?_⟩;refine cmo (zgI hr) ?_;rintro e U ⟨rfl,hbU⟩;have bU:=zst hbX hbU;have no:zcJ x r=false->(RelH U E A/\RelH U I B):=fun h=>by
   rw [hA,hB,if_neg (by rw [h];decide),if_neg (by rw [h];decide)];exact⟨zaa hbU fE,zaa hbU fI⟩
  refine biE (fun h1=>?_) fun h1=>?_
  ·have h1:okR r=true:=h1;refine⟨i64 r.n,zik (zaa hbU fR),?_⟩;refine⟨_,zax (zab (zaa hbU fX)),?_⟩;refine biE (fun h2=>?_) fun h2=>?_
   ·have h2:r.n=(x.ev.length:Int):=dT h2;have hf:zcJ x r=true:=(by unfold zcJ;rw [h1,decide_eq_true h2,hri];rfl);have dX:Bw U U.drew:=(Below.refl _ _).drew;have bD:=zst bU dX;have gX:=hdr (zaa hbU fX);have gR:=hdr (zaa hbU fR);refine DrawE.ord [6,7] [0,1,3,4,2,5,6,7] (by kernel_rfl) ?_;refine⟨_,zao _ _ _,zab gX,hlt gX,?_⟩;refine⟨relC r,zad _,zab gR,hlt gR,?_⟩;refine⟨_,zao _ _ _,zab gX,hlt gX,?_⟩;refine⟨relC r,zad _,zab gR,hlt gR,?_⟩;refine cmo (zi2 (one:=false) (hv.below bD) hr) ?_;rintro e V ⟨rfl,hbV⟩;refine⟨hbV,?_⟩;have bV:=zst bD hbV;refine cmo (zi2 (one:=true) (hv.below bV) hr) ?_;rintro e T ⟨rfl,hbT⟩;refine⟨hbT,?_⟩;have bT:=zst bV hbT;have kE:=zaa hbT (zaa hbV (hdr (zaa hbU fE)));have kI:=zaa hbT (zaa hbV (hdr (zaa hbU fI)));have kX:=zaa hbT (zaa hbV gX);have kR:=zaa hbT (zaa hbV gR);refine zcn kE (by omega) bT fun D f o b=>?_;refine zcn ((o I (fun h=>hEI h.symm)).trans kI) (by omega) b fun J g o2 b2=>?_;have eA:A=zdi x r false:=(by rw [hA,if_pos hf]);have eB:B=zdi x r true:=(by rw [hB,if_pos hf]);exact⟨(),⟨.cons rfl (.cons rfl (.cons rfl (.cons rfl (.cons rfl (.cons rfl (.nil)))))),rfl⟩,by rw [eA];exact (o2 E hEI).trans f,by rw [eB];exact g,(o2 L (by omega)).trans ((o L (by omega)).trans kX),(o2 (L+1) (by omega)).trans ((o (L+1) (by omega)).trans kR),b2⟩
   ·have h2:¬ r.n=(x.ev.length:Int):=dF h2;obtain⟨g1,g2⟩:=no (by unfold zcJ;rw [decide_eq_false h2,Bool.false_and,Bool.and_false]);exact⟨(),⟨.cons rfl (.cons rfl (.cons rfl (.cons rfl (.cons rfl (.cons rfl (.nil)))))),rfl⟩,g1,g2,zaa hbU fX,zaa hbU fR,bU⟩
  ·have h1:okR r=false:=h1;refine brF ?_;obtain⟨g1,g2⟩:=no (by unfold zcJ;rw [h1];rfl);exact⟨(),⟨.cons rfl (.cons rfl (.cons rfl (.cons rfl (.cons rfl (.cons rfl (.nil)))))),rfl⟩,g1,g2,zaa hbU fX,zaa hbU fR,bU⟩
 clear fE fI fX fR hbX;rintro _ X ⟨fE,fI,fX,fR,hbX⟩;refine⟨Nat,fun K=>⟨[(2,u8 md),(3,u8 m),(4,At0 L),(5,At0 (L+1)),(9,At0 E),(10,At0 I),(11,At0 K)],[]⟩,fun K Z=>(L+1<K/\E<K/\I<K)/\RelH Z K zai/\RelH Z E A/\RelH Z I B/\ExH Z L x q c/\RelH Z (L+1) r/\Bw w Z,?_,?_⟩
 ·have l1:=hlt fE;have l2:=hlt fI;have l3:=hlt fR;refine⟨relC zai,by kernel_rfl,?_⟩;refine zan (X:=X) (v := .agg (relC zai).toArray) k27 (zad _) (by kernel_rfl) (zau _) fun Z hbZ fZ sZ=>?_;exact⟨X.heap.size,⟨.cons rfl (.cons rfl (.cons rfl (.cons rfl (.cons rfl (.cons rfl (.cons rfl (.nil))))))),rfl⟩,⟨by omega,by omega,by omega⟩,fZ,zaa hbZ fE,zaa hbZ fI,zaa hbZ fX,zaa hbZ fR,(zst hbX hbZ)⟩
 clear fE fI fX fR hbX;rintro K X ⟨⟨hK1,hK2,hK3⟩,fK,fE,fI,fX,fR,hbX⟩;obtain⟨C,hC⟩:=nm (if zbh m.toNat=true then zhF m.toNat x else zai);refine⟨Unit,fun _=>⟨[(2,u8 md),(3,u8 m),(4,At0 L),(5,At0 (L+1)),(9,At0 E),(10,At0 I),(11,At0 K)],[]⟩,fun _ Z=>RelH Z K C/\RelH Z E A/\RelH Z I B/\ExH Z L x q c/\RelH Z (L+1) r/\Bw w Z,?_,?_⟩
 ·refine⟨_,zao _ _ _,zab fX,hlt fX,?_⟩;refine cmo (zq9 (m:=m) (hv.below hbX)) ?_;rintro e U ⟨rfl,hbU⟩;have bU:=zst hbX hbU;have kX:=zaa hbU fX;rw [hri,Bool.and_true];refine biE (fun h=>?_) fun h=>?_
  ·have h:zbh m.toNat=true:=h;have eC:C=zhF m.toNat x:=by rw [hC,if_pos h]
   refine⟨_,zao _ _ _,zab kX,hlt kX,?_⟩;refine cmo (zoR (m:=m) (hv.below bU)) ?_;rintro e V ⟨rfl,hbV⟩;refine zcn (zaa hbV (zaa hbU fK)) (by omega) ((zst bU hbV)) fun D f o b=>?_;exact⟨(),⟨.cons rfl (.cons rfl (.cons rfl (.cons rfl (.cons rfl (.cons rfl (.cons rfl (.nil))))))),rfl⟩,by rw [eC];exact f,(o E (by omega)).trans (zaa hbV (zaa hbU fE)),(o I (by omega)).trans (zaa hbV (zaa hbU fI)),(o L (by omega)).trans (zaa hbV kX),(o (L+1) (by omega)).trans (zaa hbV (zaa hbU fR)),b⟩
  ·have h:zbh m.toNat=false:=h;have eC:C=zai:=by rw [hC,if_neg (by rw [h];decide)]
   exact⟨(),⟨.cons rfl (.cons rfl (.cons rfl (.cons rfl (.cons rfl (.cons rfl (.cons rfl (.nil))))))),rfl⟩,by rw [eC];exact zaa hbU fK,zaa hbU fE,zaa hbU fI,kX,zaa hbU fR,bU⟩
 clear fK fE fI fX fR hbX;rintro _ X ⟨fK,fE,fI,fX,fR,hbX⟩;have t1:zbe (frX x) (frQ x)=true:=by rw [show frX x=frM x from if_pos hri];exact zrP hk
 have t2:zbe (locX x) (locQ x)=true:=by rw [show locX x=locM x from if_pos hri];exact zqa hk
 have t34:zbe (extX x r) A=true/\zbe (intX x r) B=true:=by
  cases hf:zcJ x r with
  | true =>
   have hh:=hf;unfold zcJ at hh;rw [bAT,bAT,dE] at hh;have ho:RelOk x.ev.length r:=⟨hh.2.1,hh.1,hr⟩;rw [hA,hB,if_pos hf,if_pos hf,show extX x r=extM x r from if_pos hf,show intX x r=intM x r from if_pos hf];exact⟨zqu hk ho,zqh hk ho⟩
  | false =>
   have n:¬ zcJ x r=true:=by rw [hf];decide
   rw [hA,hB,if_neg n,if_neg n,show extX x r=zai from if_neg n,show intX x r=zai from if_neg n];exact⟨zd8 _,zd8 _⟩
 have t5:zbe (zb9 x md) (zaN x md)=true:=zlq hk md hri;have t6:zbe (zgN m.toNat x) C=true:=by
  rw [hC];by_cases h:zbh m.toNat=true
  ·rw [if_pos h,show zgN m.toNat x=zcX m.toNat x from if_pos ⟨h,hri⟩];exact zop hk m.toNat
  ·rw [if_neg h,show zgN m.toNat x=zai from if_neg fun h2=>h h2.1];exact zd8 _
 clear hA hB hC;have dX:Bw X X.drew:=(Below.refl _ _).drew;refine DrawE.ord [] [0,2,1,3,4,5,6,8,7,9,10,11,12,13,14,16,15,17,18,19,20,21,23,22,24,25,26,27,28,30,31,29,32,33,34,35,36,37,39,38,40,41,42,43,44,45] (by kernel_rfl) ?_;have fK:=zaa dX fK;have fE:=zaa dX fE;have fI:=zaa dX fI;have fX:=zaa dX fX;have fR:=zaa dX fR;replace hbX:=zst hbX dX;clear dX;refine⟨_,zao _ _ _,zab fX,hlt fX,?_⟩;refine⟨_,zao _ _ _,zab fX,hlt fX,?_⟩;refine cmo (zsx (hv.below hbX) (hG.t64.below hbX)) ?_;rintro e U ⟨rfl,hbU⟩;refine⟨hbU,?_⟩;have fK:=zaa hbU fK;have fE:=zaa hbU fE;have fI:=zaa hbU fI;have fX:=zaa hbU fX;have fR:=zaa hbU fR;replace hbX:=zst hbX hbU;refine cmo (zsy (hv.below hbX)) ?_;rintro e U ⟨rfl,hbU⟩;refine⟨hbU,?_⟩;have fK:=zaa hbU fK;have fE:=zaa hbU fE;have fI:=zaa hbU fI;have fX:=zaa hbU fX;have fR:=zaa hbU fR;replace hbX:=zst hbX hbU;refine⟨_,fun w=>zca _ _ (frX x) (frQ x) w,?_⟩;refine brE (t1) ?_;refine⟨_,zao _ _ _,zab fX,hlt fX,?_⟩;refine⟨_,zao _ _ _,zab fX,hlt fX,?_⟩;refine cmo (zpn (hv.below hbX) (hG.t64.below hbX)) ?_;rintro e U ⟨rfl,hbU⟩;refine⟨hbU,?_⟩;have fK:=zaa hbU fK;have fE:=zaa hbU fE;have fI:=zaa hbU fI;have fX:=zaa hbU fX;have fR:=zaa hbU fR;replace hbX:=zst hbX hbU;refine cmo (zrb (hv.below hbX)) ?_;rintro e U ⟨rfl,hbU⟩;refine⟨hbU,?_⟩;have fK:=zaa hbU fK;have fE:=zaa hbU fE;have fI:=zaa hbU fI;have fX:=zaa hbU fX;have fR:=zaa hbU fR;replace hbX:=zst hbX hbU;refine⟨_,fun w=>zca _ _ (locX x) (locQ x) w,?_⟩;refine brE (t2) ?_;refine⟨_,zao _ _ _,zab fX,hlt fX,?_⟩;refine⟨relC (r),zad _,zab fR,hlt fR,?_⟩;refine⟨relC (A),zad _,zab fE,hlt fE,?_⟩;refine cmo (zpp (hv.below hbX) hr (hG.t64.below hbX)) ?_;rintro e U ⟨rfl,hbU⟩;refine⟨hbU,?_⟩;have fK:=zaa hbU fK;have fE:=zaa hbU fE;have fI:=zaa hbU fI;have fX:=zaa hbU fX;have fR:=zaa hbU fR;replace hbX:=zst hbX hbU;refine⟨_,fun w=>zca _ _ (extX x r) (A) w,?_⟩;refine brE (t34.1) ?_;refine⟨_,zao _ _ _,zab fX,hlt fX,?_⟩;refine⟨relC (r),zad _,zab fR,hlt fR,?_⟩;refine⟨relC (B),zad _,zab fI,hlt fI,?_⟩;refine cmo (zpo (hv.below hbX) hr (hG.t64.below hbX)) ?_;rintro e U ⟨rfl,hbU⟩;refine⟨hbU,?_⟩;have fK:=zaa hbU fK;have fE:=zaa hbU fE;have fI:=zaa hbU fI;have fX:=zaa hbU fX;have fR:=zaa hbU fR;replace hbX:=zst hbX hbU;refine⟨_,fun w=>zca _ _ (intX x r) (B) w,?_⟩;refine brE (t34.2) ?_;refine⟨_,zao _ _ _,zab fX,hlt fX,?_⟩;refine⟨_,zao _ _ _,zab fX,hlt fX,?_⟩;refine cmo (zi5 (md:=md) (hv.below hbX) (hG.t64.below hbX)) ?_;rintro e U ⟨rfl,hbU⟩;refine⟨hbU,?_⟩;have fK:=zaa hbU fK;have fE:=zaa hbU fE;have fI:=zaa hbU fI;have fX:=zaa hbU fX;have fR:=zaa hbU fR;replace hbX:=zst hbX hbU;refine cmo (zhh (md:=md) (hv.below hbX)) ?_;rintro e U ⟨rfl,hbU⟩;refine⟨hbU,?_⟩;have fK:=zaa hbU fK;have fE:=zaa hbU fE;have fI:=zaa hbU fI;have fX:=zaa hbU fX;have fR:=zaa hbU fR;replace hbX:=zst hbX hbU;refine⟨_,fun w=>zca _ _ (zb9 x md) (zaN x md) w,?_⟩;refine brE (t5) ?_;refine⟨_,zao _ _ _,zab fX,hlt fX,?_⟩;refine⟨relC (C),zad _,zab fK,hlt fK,?_⟩;refine cmo (znH (m:=m) (hv.below hbX) (hG.t64.below hbX)) ?_;rintro e U ⟨rfl,hbU⟩;refine⟨hbU,?_⟩;have fK:=zaa hbU fK;have fE:=zaa hbU fE;have fI:=zaa hbU fI;have fX:=zaa hbU fX;have fR:=zaa hbU fR;replace hbX:=zst hbX hbU;refine⟨_,fun w=>zca _ _ (zgN m.toNat x) (C) w,?_⟩;refine brE (t6) ?_;refine cmo (zny (hG.below hbX)) ?_;rintro e U ⟨rfl,hbU⟩;refine⟨hbU,?_⟩;have fK:=zaa hbU fK;have fE:=zaa hbU fE;have fI:=zaa hbU fI;have fX:=zaa hbU fX;have fR:=zaa hbU fR;replace hbX:=zst hbX hbU;exact⟨rfl,hbX⟩
end
end Go.Proofs.YtmbghmhjjodgmaaGreatDoor
namespace Go.Proofs.YtmbghmhjjodgmaaGreatDoor
open Go.Vc Go.RowKit Go.Sei
open Go.ChangeShapes Go.WideShapes Go.ChangeAt
section
variable {H:Type} {enc:TypeId×Value->H} {P:Program} {w:World} {base:Nat} {spare:Nat->Bool} {held:Bool} {fuel:Nat} {t:TypeId} {cs:List Value} {x:DataW H×List MemPlace}
theorem zmz (ht:P.underlying t=some (.int .u8)) (h:DataW.trod enc P w base spare held fuel t cs=some x):∃ b:UInt8,cs=[u8 b]/\x.1 = .lit (.int .u8 b.toNat):=by
 obtain⟨n,rfl,rfl,hw⟩:=DataW.trod_int ht h;have hb:=bounds_u8 hw;have e:((UInt8.ofNat n.toNat).toNat:Int)=n:=by
  rw [UInt8.toNat_ofNat'];omega
 exact⟨UInt8.ofNat n.toNat,by rw [u8,e],by rw [e]⟩
theorem zfI {n:Nat} {e:TypeId} (ht:P.underlying t=some (.array n e)) (he:P.underlying e=some (.int .u8)) (hc:P.cellsOf e=1) (hn:P.cellsOf t=n)
  (h:DataW.trod enc P w base spare held fuel t cs=some x):∃ bs:List UInt8,bs.length=n/\cs=bs.map u8/\x.1 = .agg (bs.map fun b => .lit (.int .u8 b.toNat)):=by
 obtain⟨xs,m,rfl,rfl,hl,hx,hel⟩:=DataW.trod_array ht h;rw [hn] at hl;have each:∀ i (h:i<n),∃ b:UInt8,cs[i]?=some (u8 b)/\xs[i]?.map (·.1)=some (.lit (.int .u8 b.toNat)):=fun i hi=>by
  have h1:=hel i hi;rw [hc,gE (by omega)] at h1;obtain⟨b,h2,h3⟩:=zmz he h1;refine⟨b,?_,by rw [gE (by omega),Option.map_some,h3]⟩;have:((cs.drop (i*1)).take 1)[0]?=some (u8 b):=by rw [h2];rfl
  simpa using this
 have:∀ k,k<=n->∃ bs:List UInt8,bs.length=k/\cs.take k=bs.map u8/\(xs.take k).map (·.1)=bs.map fun b => .lit (.int .u8 b.toNat):=by
  intro k
  induction k with
  | zero=>exact fun _=>⟨[],rfl,by simp,by simp⟩
  | succ k ih =>
   intro hk;obtain⟨bs,h1,h2,h3⟩:=ih (by omega);obtain⟨b,h4,h5⟩:=each k (by omega);have hk1:k<cs.length:=by omega
   have hk2:k<xs.length:=by omega
   rw [gE hk1] at h4;rw [gE hk2] at h5;refine⟨bs++[b],by simp [h1],?_,?_⟩
   ·rw [tsg hk1,h2,Option.some.inj h4];simp
   ·rw [tsg hk2,List.map_append,h3];simp at h5;simp [h5]
 obtain⟨bs,h1,h2,h3⟩:=this n (Nat.le_refl _);rw [List.take_of_length_le (by omega)] at h2 h3;exact⟨bs,h1,h2,by rw [<- h3]⟩
end
theorem zfx:Tryz.prog.cellsOf 5=1:=by kernel_rfl
theorem zkO (b o i:Nat):(⟨b,o,none⟩:Addr).add i=⟨b,o+i,none⟩:=by
 unfold Addr.add;by_cases h:i=0
 ·simp [h]
 ·simp [h]
section
variable {w:World} {base:Nat} {cs:List Value}
theorem ziY {a:Addr} {n:Nat} (hn:0<n) (h:w.cells? base a n=some cs):a.spot=none/\a.block<w.heap.size/\zaw w ⟨a.block,a.off,none⟩ cs:=by
 obtain⟨_,hl,hc⟩:=World.cells?_some h;have h0:=hc 0 hn;rw [gE (by omega)] at h0;have hs:a.spot=none:=by simpa [Addr.add] using World.cell?_spot h0
 obtain⟨b,o,s⟩:=a;dsimp only at hs;subst hs;refine⟨rfl,World.block_lt_of_cell? _ _ h0,zcy fun i v hv=>?_⟩;have hi:i<n:=by have:=(List.getElem?_eq_some_iff.1 hv).1;omega
 have:=(hc i hi).trans hv;rw [zkO] at this;exact this
end
theorem znY:ownKnob Tryz.prog.godebug=none:=by kernel_rfl
theorem zc5:laidOutB Tryz.prog=true:=by kernel_rfl
section
variable {H:Type} {enc:TypeId×Value->H} {P:Program} {w:World} {base:Nat} {spare:Nat->Bool} {held:Bool} {fuel:Nat} {t e:TypeId} {cs:List Value} {x:DataW H×List MemPlace}
def Opens (enc:TypeId×Value->H) (P:Program) (w:World) (base:Nat) (spare:Nat->Bool) (held:Bool) (t:TypeId) (R:List Value->Prop):Prop :=
 ∀ fuel cs x,DataW.trod enc P w base spare held fuel t cs=some x->R cs
theorem Opens.field {fs:Array Field} {R:List Value->Prop} {i:Nat} {f:Field} {n:Nat} {xs:List (DataW H×List MemPlace)} {m:Nat} (hel:∀ (i:Nat) (f:Field),fs[i]?=some f->DataW.trod enc P w base spare held m f.type ((cs.drop f.offset).take (P.cellsOf f.type))=xs[i]?)
  (hl:xs.length=fs.size) (hi:fs[i]?=some f) {o:Nat} (hoo:f.offset=o) (hn:P.cellsOf f.type=n) (ho:Opens enc P w base spare held f.type R):R ((cs.drop o).take n):=by
 subst hoo;have h1:=hel i f hi;have:i<fs.size:=(Array.getElem?_eq_some_iff.1 hi).1;rw [gE (by omega),hn] at h1;exact ho _ _ _ h1
theorem zea (ht:P.underlying t=some (.int .u8)):Opens enc P w base spare held t fun cs=>∃ b:UInt8,cs=[u8 b]:=fun fuel cs x h=>by
 obtain⟨b,h,_⟩:=zmz ht h;exact⟨b,h⟩
theorem zix (ht:P.underlying t=some (.int .i64)):Opens enc P w base spare held t fun cs=>∃ b:Int,cs=[.int .i64 b]:=fun fuel cs x h=>by
 obtain⟨n,h,_,_⟩:=DataW.trod_int ht h;exact⟨n,h⟩
theorem zmy (ht:P.underlying t=some (.int .u64)):Opens enc P w base spare held t fun cs=>∃ n:Nat,n<18446744073709551616/\cs=[.int .u64 (n:Int)]:=fun fuel cs x h=>by
 obtain⟨n,rfl,_,hw⟩:=DataW.trod_int ht h;have hb:0<=n/\n<=18446744073709551615:=by
  simp only [Lit.wf,dE,bAT] at hw
  first
   | exact⟨by simpa [IntKind.min,IntKind.signed,IntKind.bits] using hw.1,by simpa [IntKind.max,IntKind.signed,IntKind.bits] using hw.2⟩
   | (simp [IntKind.min,IntKind.max,IntKind.signed,IntKind.bits] at hw;omega)
 exact⟨n.toNat,by omega,by congr 2;omega⟩
theorem ziw {n:Nat} (ht:P.underlying t=some (.array n e)) (he:P.underlying e=some (.int .u8)) (hc:P.cellsOf e=1) (hn:P.cellsOf t=n):Opens enc P w base spare held t fun cs=>∃ bs:List UInt8,bs.length=n/\cs=bs.map u8:=fun fuel cs x h=>by
 obtain⟨bs,h1,h2,_⟩:=zfI ht he hc hn h;exact⟨bs,h1,h2⟩
theorem zmI {β:Type} {n:Nat} (i0:β) {Q:Nat->β->Prop} (h:∀ i,i<n->∃ b,Q i b):∃ bs:List β,bs.length=n/\∀ i (hi:i<bs.length),Q i bs[i]:=by
 have h2:∀ i,∃ b,i<n->Q i b:=fun i=>by
  by_cases hi:i<n
  ·obtain⟨b,hb⟩:=h i hi;exact⟨b,fun _=>hb⟩
  ·exact⟨i0,fun h=>absurd h hi⟩
 obtain⟨g,hg⟩:=Classical.axiomOfChoice h2;refine⟨(List.range n).map g,by simp,fun i hi=>?_⟩;simp only [List.getElem_map,List.getElem_range];exact hg i (by simpa using hi)
theorem zmV {β:Type} {f:β->List Value} {sz:Nat}:∀ (bs:List β) (cs:List Value),cs.length=bs.length*sz->(∀ i (h:i<bs.length),(cs.drop (i*sz)).take sz=f bs[i])->cs=bs.flatMap f
 | [],cs,hl,_=>by simpa using hl
 | b::r,cs,hl,h=>by
  have h0:=h 0 (by simp);simp only [Nat.zero_mul,List.drop_zero,List.getElem_cons_zero] at h0;rw [List.flatMap_cons,<- h0]
  conv=>lhs;rw [<- List.take_append_drop sz cs]
  congr 1;refine zmV (sz:=sz) r (cs.drop sz) (by rw [List.length_drop,hl,List.length_cons,Nat.add_mul];omega) fun i hi=>?_;have h1:=h (i+1) (by simpa using hi);rw [List.drop_drop];simpa [Nat.add_mul,Nat.add_comm] using h1
theorem ziy {β:Type} (i0:β) {f:β->List Value} {Q:β->Prop} {n sz:Nat} (ht:P.underlying t=some (.array n e)) (hc:P.cellsOf e=sz) (hn:P.cellsOf t=n*sz) (ho:Opens enc P w base spare held e fun cs=>∃ b,Q b/\cs=f b) :
  Opens enc P w base spare held t fun cs=>∃ bs:List β,bs.length=n/\(∀ b∈bs,Q b)/\cs=bs.flatMap f:=fun fuel cs x h=>by
 obtain⟨xs,m,rfl,rfl,hl,hx,hel⟩:=DataW.trod_array ht h;rw [hn] at hl;have each:∀ i,i<n->∃ b:β,Q b/\(cs.drop (i*sz)).take sz=f b:=fun i hi=>by
  have h1:=hel i hi;rw [hc,gE (by omega)] at h1;exact ho _ _ _ h1
 obtain⟨bs,h1,h2⟩:=zmI i0 each;refine⟨bs,h1,fun b hb=>?_,zmV bs cs (by rw [hl,h1]) fun i hi=>(h2 i hi).2⟩;obtain⟨i,hi,rfl⟩:=List.getElem_of_mem hb;exact (h2 i hi).1
theorem zof {β:Type} (i0:β) {f:β->List Value} {Q:β->Prop} {sz:Nat} (hp:0<sz) (ht:P.underlying t=some (.slice e)) (hc:P.cellsOf e=sz) (ho:Opens enc P w base spare held e fun cs=>∃ b,Q b/\cs=f b) :
  Opens enc P w base spare held t fun cs=>∃ (p:Option Addr) (cap:Nat) (l:List β),cs=[.slice p l.length cap]/\l.length<=9223372036854775807/\(p=none->cap=0)/\(∀ b∈l,Q b)/\∃ b o,(l.length=0\/p=some ⟨b,o,none⟩)/\∀ i (hi:i<l.length),b<w.heap.size/\zaw w ⟨b,o+i*sz,none⟩ (f l[i]):=fun fuel cs x h=>by
 rcases DataW.trod_slice ht h with ⟨rfl,_⟩ | ⟨a,len,cap,elems,rest,n,_,rfl,_,_,hlc,hcm,hlen,hel,_,_⟩
 ·exact⟨none,0,[],rfl,by simp,fun _=>rfl,by simp,0,0,.inl rfl,fun i hi=>by simp at hi⟩
 ·have each:∀ i,i<len->∃ m:β,Q m/\(a.add (i*sz)).spot=none/\(a.add (i*sz)).block<w.heap.size/\zaw w ⟨(a.add (i*sz)).block,(a.add (i*sz)).off,none⟩ (f m):=fun i hi=>by
   have h1:=hel i hi;rw [hc,gE (by omega),Option.bind_eq_some_iff] at h1;obtain⟨cs,h2,h3⟩:=h1;obtain⟨m,hq,rfl⟩:=ho _ _ _ h3;exact⟨m,hq,ziY hp h2⟩
  obtain⟨l,h1,h2⟩:=zmI i0 each;have hm:maxLen=9223372036854775807:=rfl;refine⟨some a,cap,l,by rw [h1],by omega,(fun h=>by cases h),fun b hb=>?_,a.block,a.off,?_,fun i hi=>?_⟩
  ·obtain⟨i,hi,rfl⟩:=List.getElem_of_mem hb;exact (h2 i hi).1
  ·by_cases h00:l.length=0
   ·exact .inl h00
   ·right;have hsp:a.spot=none:=by
     have:=(h2 0 (by omega)).2.1;simpa [Addr.add] using this
    obtain⟨b,o,s⟩:=a;dsimp only at hsp;subst hsp;rfl
  ·have hsp:a.spot=none:=by
    have:=(h2 0 (by omega)).2.1;simpa [Addr.add] using this
   obtain⟨b,o,s⟩:=a;dsimp only at hsp;subst hsp;have:=(h2 i hi).2.2;rw [zkO] at this;exact this
theorem cut (cs:List Value) (o n o':Nat) (h:o+n=o'):cs.drop o=(cs.drop o).take n++cs.drop o':=by
 rw [<- h,<- List.drop_drop,List.take_append_drop]
end
theorem cC (t n:Nat) (h:Tryz.prog.cellsOf t=n):Tryz.prog.cellsOf t=n:=h
theorem zfd {H:Type} {enc:TypeId×Value->H} {a:Assume} {C:Checked} {os:Os} {f:FuncId} {fn:Func} {s:ChangeSpec} {conds:List PathCond} {apart fresh handsOn again:Bool} {X:World->Array Value->Prop}
  (hX:∀ (w w':World) (args:Array Value),w.heap=w'.heap->X w args->X w' args)
  (own:ownKnob C.prog.godebug=none) (started:os.Started) (noInit:C.prog.inits.idxOf? f=none) (hfn:C.prog.funcs[f]?=some fn)
  (witness:∃ (w:World) (tape:Tape) (i:Input),w.os=os/\(w.forCall tape i).Shaped C.prog/\i.vars=[]/\Input.okWide C.prog (w.forCall tape i) .any w.heap.size f i /\
   ((s.pre enc C.prog fn conds apart (w.forCall tape i).memory i.args/\X (w.forCall tape i).memory i.args)/\sizedMet enc C.prog fn (OpenSpec.ofChange s) apart (w.forCall tape i).memory i.args)/\a.holds C.prog (lone (Frame.enter C.prog f i.args .normal) [] (w.forCall tape i)))
  (contract:∀ (W:World) (base:Nat) (args:Array Value) (ds gs:List (DataW H)) (before:List MemPlace),
   (∀ (j:Nat) t v,fn.params[j]?=some t->args[j]?=some v->Value.okWide C.prog W .any base t v) ->
   DataW.Whole enc C.prog fn.params.toList s.vars apart W args.toList ds gs before->X W args->W.ShapedOpen C.prog ->
   (∃ ds gs before,DataW.Whole enc C.prog fn.params.toList (OpenSpec.ofChange s).vars apart W args.toList ds gs before/\∀ n∈DataW.weightsEach C.prog (fn.params.toList++(OpenSpec.ofChange s).bare.plain.varTypes C.prog) (ds++gs),n<=reachBytes) ->
   Calls C.prog f args W fun e W'=>∃ v,e = .returned v/\s.post enc C.prog fn apart fresh handsOn again W args v W') :
  ReturnsInHanded a C os f .any (fun w args=>(s.pre enc C.prog fn conds apart w args/\X w args)/\sizedMet enc C.prog fn (OpenSpec.ofChange s) apart w args) (s.post enc C.prog fn apart fresh handsOn again):=by
 refine returnsInHanded_of_calls own started noInit witness ?_;intro w tape i _ hsh _ hok hpre hholds;obtain⟨_,_,_,fn',hfn',_,_,_,_,hval⟩:=hok;have e:fn'=fn:=Option.some.inj (hfn'.symm.trans hfn);subst e;obtain⟨⟨⟨ds,gs,before,hw,hc⟩,hx⟩,hz⟩:=hpre;have hw':=DataW.Whole.of_heap (w':=w.forCall tape i) (by rfl) hw;obtain⟨_,ds2,gs2,before2,hw2,hall⟩:=hz;refine (contract (w.forCall tape i) w.heap.size i.args ds gs before hval hw' (hX _ _ _ (by rfl) hx) hsh ⟨ds2,gs2,before2,DataW.Whole.of_heap (w':=w.forCall tape i) (by rfl) hw2,fun n hn=>dT (List.all_eq_true.1 hall n hn)⟩).mono fun e W' ⟨v,he,hp⟩=>?_;subst he;exact ChangeSpec.post_blind hp
theorem zhC {H:Type}:∀ {a b:List UInt8},a.map (fun b=>(DataW.lit (.int .u8 b.toNat):DataW H))=b.map (fun b=>DataW.lit (.int .u8 b.toNat))->a=b
 | [],[],_=>rfl
 | [],_::_,h=>by cases h
 | _::_,[],h=>by cases h
 | x::a,y::b,h=>by
  simp only [List.map_cons,List.cons.injEq,DataW.lit.injEq,Lit.int.injEq,true_and] at h;rw [zhC h.2,UInt8.toNat_inj.1 (by omega:x.toNat=y.toNat)]
theorem zhA {α:Type} (d:α) (f:α->Value) (n:Nat) (l:List α) (h:l.length=n):l.map f=(List.range n).map fun i=>f (l.getD i d):=by
 apply List.ext_getElem?;intro i;rw [List.getElem?_map,List.getElem?_map];by_cases hi:i<n
 ·rw [List.getElem?_range hi,gE (by omega),Option.map_some,Option.map_some,gDe,gE (by omega)];rfl
 ·rw [List.getElem?_eq_none (by omega),List.getElem?_eq_none (by rw [List.length_range];omega)];rfl
theorem zgt {α:Type} (f:α->Value):∀ l:List α,l.flatMap (fun x=>[f x])=l.map f
 | []=>rfl
 | a::l=>by rw [List.flatMap_cons,zgt f l];rfl
theorem flatMap_map {α:Type} (f:α->Value):∀ l:List (List α),l.flatMap (fun x=>x.map f)=l.flatten.map f
 | []=>rfl
 | a::l=>by rw [List.flatMap_cons,flatMap_map f l,List.flatten_cons,List.map_append]
section
variable {H:Type} {enc:TypeId×Value->H} {w:World} {base:Nat} {spare:Nat->Bool} {held:Bool}
theorem zog:Opens enc Tryz.prog w base spare held 54 fun cs=>∃ e:Ev,True/\cs=evE.enc e:=fun fuel cs x h=>by
 obtain⟨xs,m,rfl,rfl,hl,hx,hel⟩:=DataW.trod_struct Tryz.underlying54 h;rw [cC 54 7 (by kernel_rfl)] at hl;obtain⟨b0,e0⟩:=Opens.field (o:=0) (i:=0) hel hx rfl rfl (cC 3 1 (by kernel_rfl)) (zix Tryz.underlying3);obtain⟨b1,e1⟩:=Opens.field (o:=1) (i:=1) hel hx rfl rfl zfx (zea Tryz.underlying5);obtain⟨b2,e2⟩:=Opens.field (o:=2) (i:=2) hel hx rfl rfl zfx (zea Tryz.underlying5);obtain⟨b3,e3⟩:=Opens.field (o:=3) (i:=3) hel hx rfl rfl zfx (zea Tryz.underlying5);obtain⟨b4,e4⟩:=Opens.field (o:=4) (i:=4) hel hx rfl rfl zfx (zea Tryz.underlying5);obtain⟨b5,e5⟩:=Opens.field (o:=5) (i:=5) hel hx rfl rfl zfx (zea Tryz.underlying5);obtain⟨b6,e6⟩:=Opens.field (o:=6) (i:=6) hel hx rfl rfl zfx (zea Tryz.underlying5);refine⟨⟨b0,b1,b2,b3,b4,b5,b6⟩,trivial,?_⟩;have h0:cs=cs.drop 0:=rfl;have h9:cs.drop 7=[]:=List.drop_of_length_le (by omega);rw [h0,cut cs 0 1 1 rfl,cut cs 1 1 2 rfl,cut cs 2 1 3 rfl,cut cs 3 1 4 rfl,cut cs 4 1 5 rfl,cut cs 5 1 6 rfl,cut cs 6 1 7 rfl,e0,e1,e2,e3,e4,e5,e6,h9];rfl
theorem zcV:Opens enc Tryz.prog w base spare held 27 fun cs=>∃ r:RelD,WrdR r.to/\cs=relC r:=fun fuel cs x h=>by
 obtain⟨xs,m,rfl,rfl,hl,hx,hel⟩:=DataW.trod_struct Tryz.underlying27 h;rw [cC 27 49 (by kernel_rfl)] at hl;obtain⟨n,e0⟩:=Opens.field (o:=0) (i:=0) hel hx rfl rfl (cC 3 1 (by kernel_rfl)) (zix Tryz.underlying3);obtain⟨bs,h1,h2,e1⟩:=Opens.field (o:=1) (i:=1) hel hx rfl rfl (cC 25 48 (by kernel_rfl)) (ziy (β:=Nat) 0 (f:=fun n=>[s64 n]) (Q:=fun n=>n<18446744073709551616) (n:=48) (sz:=1) Tryz.underlying25 (by kernel_rfl) (by kernel_rfl) (zmy Tryz.underlying24));refine⟨⟨n,fun i=>bs.getD i 0⟩,fun i hi=>?_,?_⟩
 ·show bs.getD i 0<2^64;rw [gDe,gE (by omega)];exact h2 _ (gM _)
 have h0:cs=cs.drop 0:=rfl;have h9:cs.drop 49=[]:=List.drop_of_length_le (by omega);rw [h0,cut cs 0 1 1 rfl,cut cs 1 48 49 rfl,e0,e1,h9,zgt,zhA 0 s64 48 bs h1,List.append_nil];rfl
theorem zjn:Opens enc Tryz.prog w base spare held 32 fun cs=>∃ (f g:Nat->UInt8),cs=seg 32 (fun i=>u8 (f i))++seg 6 (fun i=>u8 (g i)):=fun fuel cs x h=>by
 obtain⟨xs,m,rfl,rfl,hl,hx,hel⟩:=DataW.trod_struct Tryz.underlying32 h;rw [cC 32 38 (by kernel_rfl)] at hl;have row:Opens enc Tryz.prog w base spare held 28 fun cs=>∃ bs:List UInt8,bs.length=8/\cs=bs.map u8:=ziw Tryz.underlying28 Tryz.underlying5 zfx (cC 28 8 (by kernel_rfl));obtain⟨bss,h1,h2,e0⟩:=Opens.field (o:=0) (i:=0) hel hx rfl rfl (cC 29 32 (by kernel_rfl)) (ziy (β:=List UInt8) [] (f:=fun bs=>bs.map u8) (Q:=fun bs=>bs.length=8) (n:=4) (sz:=8) Tryz.underlying29 (by kernel_rfl) (by kernel_rfl) row);obtain⟨ms,h3,e1⟩:=Opens.field (o:=32) (i:=1) hel hx rfl rfl (cC 30 6 (by kernel_rfl)) (ziw Tryz.underlying30 Tryz.underlying5 zfx (cC 30 6 (by kernel_rfl)));have hfl:bss.flatten.length=32:=by
  match bss,h1 with
  | [a,b,c,d],_ =>
   have:=h2 a (by simp);have:=h2 b (by simp);have:=h2 c (by simp);have:=h2 d (by simp);simp only [List.flatten_cons,List.flatten_nil,lap,List.length_nil];omega
 refine⟨fun i=>bss.flatten.getD i 0,fun i=>ms.getD i 0,?_⟩;have h0:cs=cs.drop 0:=rfl;have h9:cs.drop 38=[]:=List.drop_of_length_le (by omega);rw [h0,cut cs 0 32 32 rfl,cut cs 32 6 38 rfl,e0,e1,h9,flatMap_map,zhA 0 u8 32 _ hfl,zhA 0 u8 6 ms h3,List.append_nil];rfl
theorem zrq {α:Type} {E:Enc α} {p:Option Addr} {l:List α} {b o:Nat} (h1:l.length=0\/p=some ⟨b,o,none⟩) (h2:∀ i (hi:i<l.length),b<w.heap.size/\zaw w ⟨b,o+i*E.sz,none⟩ (E.enc l[i])):SlR E w p l:=by
 rcases h1 with h | h
 ·exact .inl (List.eq_nil_of_length_eq_zero h)
 ·by_cases h0:l=[]
  ·exact .inl h0
  ·have hl:=List.length_pos_iff.2 h0;exact .inr ⟨b,o,h,(h2 0 hl).1,fun i hi=>(h2 i hi).2⟩
theorem zle:Opens enc Tryz.prog w base spare held 34 fun cs=>∃ (x:ExD) (q:Option Addr) (c:Nat),(SlR evE w q x.ev/\WX x)/\cs=exC x q c:=fun fuel cs x h=>by
 obtain⟨xs,m,rfl,rfl,hl,hx,hel⟩:=DataW.trod_struct Tryz.underlying34 h;rw [cC 34 333 (by kernel_rfl)] at hl;obtain⟨q,c,l,e0,_,_,_,b,o,hp,hc⟩:=Opens.field (o:=0) (i:=0) hel hx rfl rfl (cC 22 1 (by kernel_rfl)) (zof (β:=Ev) ev0 (f:=evE.enc) (Q:=fun _=>True) (sz:=7) (by decide) Tryz.underlying22 (by kernel_rfl) zog);have c49:=cC 27 49 (by kernel_rfl);obtain⟨r1,w1,e1⟩:=Opens.field (o:=1) (i:=1) hel hx rfl rfl c49 zcV;obtain⟨r2,w2,e2⟩:=Opens.field (o:=50) (i:=2) hel hx rfl rfl c49 zcV;obtain⟨r3,w3,e3⟩:=Opens.field (o:=99) (i:=3) hel hx rfl rfl c49 zcV;obtain⟨r4,w4,e4⟩:=Opens.field (o:=148) (i:=4) hel hx rfl rfl c49 zcV;obtain⟨r5,w5,e5⟩:=Opens.field (o:=197) (i:=5) hel hx rfl rfl c49 zcV;obtain⟨r6,w6,e6⟩:=Opens.field (o:=246) (i:=6) hel hx rfl rfl c49 zcV;obtain⟨f,g,e7⟩:=Opens.field (o:=295) (i:=7) hel hx rfl rfl (cC 32 38 (by kernel_rfl)) zjn;refine⟨⟨l,r1,r2,r3,r4,r5,r6,f,g⟩,q,c,⟨zrq hp hc,⟨w1,w2,w3,w4,w5,w6⟩⟩,?_⟩;have h0:cs=cs.drop 0:=rfl;have h9:cs.drop 333=[]:=List.drop_of_length_le (by omega);rw [h0,cut cs 0 1 1 rfl,cut cs 1 49 50 rfl,cut cs 50 49 99 rfl,cut cs 99 49 148 rfl,cut cs 148 49 197 rfl,cut cs 197 49 246 rfl,cut cs 246 49 295 rfl,cut cs 295 38 333 rfl,e0,e1,e2,e3,e4,e5,e6,e7,h9,List.append_nil];rfl
theorem zmA {a:Array Value} {d:DataW H} {p:List MemPlace} (h:DataW.Trod enc Tryz.prog w base spare held 27 (.agg a) d p):∃ r:RelD,WrdR r.to/\Value.agg a = .agg (relC r).toArray:=by
 obtain⟨fuel,h⟩:=h;obtain⟨r,hr,hc⟩:=zcV _ _ _ h;have:a.toList=relC r:=hc;exact⟨r,hr,by rw [<- this]⟩
theorem zlf {a:Array Value} {d:DataW H} {p:List MemPlace} (h:DataW.Trod enc Tryz.prog w base spare held 34 (.agg a) d p):∃ (x:ExD) (q:Option Addr) (c:Nat),Value.agg a = .agg (exC x q c).toArray/\(SlR evE w q x.ev/\WX x):=by
 obtain⟨fuel,h⟩:=h;obtain⟨x,q,c,hr,hc⟩:=zle _ _ _ h;have:a.toList=exC x q c:=hc;exact⟨x,q,c,by rw [<- this],hr⟩
end
theorem ziz {P:Program} {w:World} {r:Reach} {base:Nat} {t:TypeId} {v:Value} (ht:P.underlying t=some (.int .u8)) (h:Value.okWide P w r base t v):∃ b:UInt8,v=u8 b:=by
 unfold Value.okWide at h;rw [ht] at h
 cases v with
 | int k n =>
  have h1:k = .u8/\IntKind.has .u8 n:=by
   simp only [Cell.okWide,Cell.ok,ht] at h;obtain⟨rfl,h⟩:=h;exact⟨rfl,h⟩
  obtain⟨rfl,h2⟩:=h1;have h3:0<=n/\n<=255:=⟨by have:=h2.1;simpa [IntKind.min,IntKind.signed,IntKind.bits] using this,by have:=h2.2;simpa [IntKind.max,IntKind.signed,IntKind.bits] using this⟩;have e:((UInt8.ofNat n.toNat).toNat:Int)=n:=by
   rw [UInt8.toNat_ofNat'];omega
  exact⟨UInt8.ofNat n.toNat,by rw [u8,e]⟩
 | _=>simp_all [Cell.okWide,Cell.ok]
structure GlobM (W:World):Prop where
 t32:Tz32M W
 t64:Tz64M W
 needs:GlobC W
abbrev zcS : List (String × DataW Unit) := [("math/bits.deBruijn32tab", Rows.laid_math_bits_deBruijn32tab), ("math/bits.deBruijn64tab", Rows.laid_math_bits_deBruijn64tab), ("seisin/check.needs", Rows.laid_seisin_check_needs)]
theorem zdD {W:World} (h:laidMetH Tryz.prog zcS W) (hsh:W.ShapedOpen Tryz.prog):GlobM W:=by
 have h0:laidMet Tryz.prog zcS W:=h;have h1:=h0.tail;have h2:=h1.tail;have t32:Tz32M W:=by
  obtain⟨ps,⟨g',t',cs,fuel,p,q,hg',ht',hv,hd,_,_⟩,_⟩:=h0
  obtain rfl := Option.some.inj ((show Tryz.prog.globalNamed "math/bits.deBruijn32tab" = some 2 by kernel_rfl).symm.trans hg')
  obtain rfl:=Option.some.inj ((show (Tryz.prog.globals[2]?).map (·.type)=some 280 by kernel_rfl).symm.trans ht');obtain⟨bs,h1,h2,h3⟩:=zfI Tryz.underlying280 Tryz.underlying5 (by kernel_rfl) (by kernel_rfl) hd;have hbs:bs=zkW:=by
   have e:(Rows.laid_math_bits_deBruijn32tab:DataW Unit) = .agg (zkW.map fun b => .lit (.int .u8 b.toNat)):=rfl;exact zhC (DataW.agg.inj (h3.symm.trans e))
  subst hbs;refine zcy fun i v hvv=>?_;have hc:=World.var?_cell hg' hv i;rw [<- hvv,<- h2];simpa using hc
 have t64:Tz64M W:=by
  obtain⟨ps,⟨g',t',cs,fuel,p,q,hg',ht',hv,hd,_,_⟩,_⟩:=h1
  obtain rfl := Option.some.inj ((show Tryz.prog.globalNamed "math/bits.deBruijn64tab" = some 0 by kernel_rfl).symm.trans hg')
  obtain rfl:=Option.some.inj ((show (Tryz.prog.globals[0]?).map (·.type)=some 217 by kernel_rfl).symm.trans ht');obtain⟨bs,h1,h2,h3⟩:=zfI Tryz.underlying217 Tryz.underlying5 (by kernel_rfl) (by kernel_rfl) hd;have hbs:bs=zkV:=by
   have e:(Rows.laid_math_bits_deBruijn64tab:DataW Unit) = .agg (zkV.map fun b => .lit (.int .u8 b.toNat)):=rfl;exact zhC (DataW.agg.inj (h3.symm.trans e))
  subst hbs;refine zcy fun i v hvv=>?_;have hc:=World.var?_cell hg' hv i;rw [<- hvv,<- h2];simpa using hc
 have needs:GlobC W:=by
  obtain⟨ps,⟨g',t',cs,fuel,p,q,hg',ht',hv,hd,_,_⟩,_⟩:=h2
  obtain rfl := Option.some.inj ((show Tryz.prog.globalNamed "seisin/check.needs" = some 1 by kernel_rfl).symm.trans hg')
  obtain rfl:=Option.some.inj ((show (Tryz.prog.globals[1]?).map (·.type)=some 270 by kernel_rfl).symm.trans ht');obtain⟨bs,h1,h2,h3⟩:=zfI Tryz.underlying270 Tryz.underlying5 (by kernel_rfl) (by kernel_rfl) hd;have hbs:bs=zhv:=by
   match bs,h1 with
   | [b0,b1,b2,b3,b4,b5,b6,b7,b8],_ =>
    simp only [Rows.laid_seisin_check_needs,List.map_cons,List.map_nil,DataW.agg.injEq,List.cons.injEq,DataW.lit.injEq,Lit.int.injEq,true_and,and_true] at h3;simp only [zhv,List.cons.injEq,and_true];obtain⟨a0,a1,a2,a3,a4,a5,a6,a7,a8⟩:=h3;refine⟨?_,?_,?_,?_,?_,?_,?_,?_,?_⟩ <;> (apply UInt8.toNat_inj.1;simp;omega)
  subst hbs;refine zcy fun i v hvv=>?_;have hc:=World.var?_cell hg' hv i;rw [<- hvv,<- h2];simpa using hc
 exact⟨t32,t64,needs⟩
def zrI:DataW Unit->List Value
 | .lit (.int k n)=>[.int k n]
 | .lit (.string s)=>[.string ⟨s.toArray⟩]
 | _=>[]
def zqb:DataW Unit->List Value
 | .agg ps=>ps.flatMap zrI
 | x=>zrI x
def zpD (h:Array Obj) (g:Nat) (cs:List Value):Array Obj:=h.modify g fun
 | .cells _ t frozen => .cells cs.toArray t frozen
 | o=>o
def zsO (h:Array Obj):Array Obj :=
 let h1:=zpD h 2 (zqb Rows.laid_math_bits_deBruijn32tab)
 let h2:=zpD h1 0 (zqb Rows.laid_math_bits_deBruijn64tab)
 zpD h2 1 (zqb Rows.laid_seisin_check_needs)
noncomputable def zg3 (os:Os):World :=
 { World.holding Tryz.prog os ⟨#[],#[],[]⟩ with heap:=zsO (World.holding Tryz.prog os ⟨#[],#[],[]⟩).heap }
theorem zgM (os:Os) (args:Array Value):laidMetH Tryz.prog zcS ((zg3 os).forCall (fun _ _=>0) ⟨#[],args,[]⟩).memory:=by
 show laidMet Tryz.prog zcS _;exact laidMet_of_run' 8 (by kernel_rfl) (by kernel_rfl)
end Go.Proofs.YtmbghmhjjodgmaaGreatDoor
