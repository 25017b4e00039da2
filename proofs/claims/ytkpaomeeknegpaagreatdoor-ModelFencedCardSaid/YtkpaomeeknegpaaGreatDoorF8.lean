/- Contracts of functions, and plain facts, for the law that the last text of this claim proves. -/
import Derived.Test.YtkpaomeeknegpaaGreatDoorF6
import Derived.Test.YtkpaomeeknegpaaGreatDoorF7
import Derived.Test.YtkpaomeeknegpaaGreatDoorF4
import Derived.Test.YtkpaomeeknegpaaGreatDoorF1
import Derived.Test.YtkpaomeeknegpaaGreatDoorRows
import Derived.ProofKit
import Derived.OpenShut
import Derived.LaidLaws
import Derived.Below
import Derived.HandedShaped
import Derived.KernelRfl
import Derived.WalkKit
import Derived.ChangeOld
import Derived.SevenTiedAt
import Derived.LaidHandle
import Derived.Stop.LaidErr
import Derived.Lib.LaidTab
import Derived.SizedLaws
import Derived.Test.YtkpaomeeknegpaaGreatDoorF2
import Derived.Test.YtkpaomeeknegpaaGreatDoorF5
set_option linter.unusedSimpArgs false
set_option linter.unusedVariables false
namespace Go.Proofs.YtkpaomeeknegpaaGreatDoor
open Go.Vc Go.RowKit Go.Sei
def zbk (l:List InsD) (k:Nat):List InsD:=qm (((l.take k).filter fun x => !decide (x.op=8)).take 4)
def zho (p:Prg):Prg:={ p with threads:=p.threads.map fun l=>zbk l l.length }
theorem zkN (l:List InsD) (k:Nat):(zbk l k).length<=8:=by
 unfold zbk;rw [zdL,Qr];omega
theorem zom {l:List InsD} {k:Nat} {x:InsD} (hk:l[k]?=some x):zbk l (k+1)=if ¬ x.op=8/\(zbk l k).length<8 then zbk l k++[feF,x] else zbk l k:=by
 have htk:l.take (k+1)=l.take k++[x]:=by rw [List.take_add_one,hk];rfl
 unfold zbk;rw [htk,Kt,Qk,List.filter_nil,zdL,Qr];obtain⟨F,hF⟩:∃ F:List InsD,F=(l.take k).filter fun x:InsD => !decide (x.op=8):=⟨_,rfl⟩;rw [<- hF];by_cases h8:x.op=8
 ·rw [Un h8,Gh (by decide),QF,Gh fun h=>h.1 h8]
 ·rw [Uc h8,Gi (c:=(!false)=true) rfl];by_cases hl:F.length<4
  ·rw [Gi ⟨h8,by omega⟩,JF (by rw [lap,List.length_singleton];omega),JF (by omega)];unfold qm;rw [Ke];rfl
  ·rw [Gh fun h=>hl (by omega),Jf (by omega)]
theorem zrB (p:Prg):∀ l∈(zho p).threads,∃ xs,l=qm xs/\∀ x∈xs,x.op≠8:=fun l hl=>by
 obtain⟨t,_,rfl⟩:=UF.1 hl;refine⟨_,rfl,fun x hx=>?_⟩;have:=(QN.1 (JZ hx)).2;simpa using this
structure FenI (U:Nat) (p:Prg) (i:Nat) (X:Wd) (q:OA) (c:Nat) (ts:List zen):Prop where
 m:ts.map (·.1)=(p.threads.take i).map fun l=>zbk l l.length
 o:OwnS zhN 51 U X q c ts
 r:∀ y∈ts,OwnS zA 55 U X y.2.1 y.2.2 y.1
theorem FenI.below {U i c:Nat} {p:Prg} {X Y:Wd} {q:OA} {ts:List zen} (h:FenI U p i X q c ts) (hb:Bw X Y):FenI U p i Y q c ts:=⟨h.m,h.o.below hb,fun y hy=>(h.r y hy).below hb⟩
theorem zrz {B U cq:Nat} {w W:Wd} {pc:List Value} {p:Prg} {ts:List zen} {q:OA} (hP:PrgX B w pc p) (hb:Below B w W) (hB:B<=W.heap.size) (h2:p.threads.length<=2) (hF:FenI U p p.threads.length W q cq ts) :
  PrgX W.heap.size W (pc.set 3 (.slice q ts.length cq)) (zho p):=by
 have hxs:ts.map (·.1)=(zho p).threads:=by rw [hF.m,Qt];rfl
 have hlen:ts.length=(zho p).threads.length:=by rw [<- hxs,QI]
 have rows:∀ x∈ts,RowB zA W.heap.size W x.2.1 x.1/\(x.1≠[]->∀ a,x.2.1=some a->a.block<W.heap.size):=fun x hx=>⟨RowB.of_slr (hF.r x hx).row,fun _ a ha=>(zx (hF.r x hx) ha).2.1⟩;have hrowq:=RowB.of_slr hF.o.row;obtain⟨⟨hPl,p1,c1,p2,c2,p3',c3',p4,c4,hvs,h1,h2',h3,h4,h5⟩,_,q2,d2,hi1,hi2⟩:=hP;subst hvs;have hset:(jp p p1 c1 p2 c2 p3' c3' p4 c4).set 3 (.slice q ts.length cq)=jp (zho p) p1 c1 p2 c2 q cq p4 c4:=by
  rw [hlen];rfl
 rw [hset];refine⟨⟨⟨hPl.name,hPl.locs,hPl.loc,hPl.init,?_,fun l h=>?_⟩,p1,c1,p2,c2,q,cq,p4,c4,rfl,(h1.below hb).mono hB,(h2'.below hb).mono hB,⟨_,hxs,hrowq,fun x hx=>(rows x hx).1⟩,(h4.kept hb).wider hB,h5⟩,⟨q,cq,rfl,_,hxs,hrowq,rows⟩,q2,d2,hi1,(hi2.below hb).mono hB⟩
 ·show (p.threads.map _).length<=_;rw [QI];omega
 ·obtain⟨t,_,rfl⟩:=UF.1 h;have:=zkN t t.length;omega
section
variable {w:Wd} {pc:List Value} {p:Prg}
theorem zhQ (hP:PrgX w.heap.size w pc p) (hG:GlobE w) :
  CB 4 #[.agg pc.toArray] w (.bool true):=by
 refine zhB (S:=sg 99) (ze7 _) (args:=[.agg pc.toArray])
  (.c .p (.c .p (.c .p (.c (.s .p (.b (.l (.s .p (.s .p (.c (.b (.c .p (.c .p (.c (.s .p (.b (.l (.s .p (.s .p (.c (.b (.c .p .p)) .p)))))) .p)))) .p)))))) (.c .p (.c .p (.c .p (.c .p (.c (.s .p (.b (.l (.s .p (.s .p (.c (.b (.c .p (.c .p (.c .p (.s .p (.b (.l (.s .p (.s .p (.c (.b (.s .p .p)) .p)))))))))) .p)))))) .p))))))))) Tryz.func4 rfl rfl (JR rfl) rfl ?_
 obtain⟨L,hL⟩:=nm (w.heap.size);have hpc:=hP.v.size;refine⟨Unit,fun _=>⟨[(1,At0 L)],[]⟩,fun _ X=>X.heap[L]?=some (.cells pc.toArray 29 (0,0))/\Bw w X,⟨(),⟨.cons (by rw [hL];rfl) .nil,rfl⟩,by rw [hL];exact zy w _,(zba w _)⟩,?_⟩;rintro _ X ⟨f0,hbX⟩;have aw:∀ Y,Bw w Y->Calls PG 8 #[] Y fun e w'=>e = .returned (.bool true)/\Bw w w':=fun Y hwY=>cmo (ztL (hG.below hwY)) fun e U h=>⟨h.1,hwY.trans (h.2.mono hwY.size)⟩;obtain⟨p3,c3,h3,ts0,hts,zc3,htr⟩:=hP.th;have htl:ts0.length=p.threads.length:=by rw [<- hts,QI]
 refine⟨Unit,fun _=>⟨[(1,At0 L)],[]⟩,fun _ Y=>p.threads.length<=2/\Y.heap[L]?=some (.cells pc.toArray 29 (0,0))/\Bw w Y,?_,?_⟩
 ·refine⟨pc,hpc,za f0,hlt f0,cmo (ztT hbX.size (hP.below hbX)) ?_⟩;rintro e Y ⟨⟨b,rfl⟩,hbY⟩;have hwY:=zst hbX hbY;have f0Y:=zb hbY f0
  cases b with
  | false =>
   refine brT (brT (cmo (aw Y hwY) ?_));rintro e U ⟨rfl,hbU⟩;exact⟨rfl,hbU⟩
  | true =>
   refine brF ⟨.slice p3 p.threads.length c3,zc (za f0Y) (i:=3) (by simpa using h3),biE (fun h=>?_) fun h=>?_⟩
   ·refine cmo (aw Y hwY) ?_;rintro e U ⟨rfl,hbU⟩;exact⟨rfl,hbU⟩
   ·have h:¬ (2:Int)<(p.threads.length:Nat):=dF h;exact⟨(),(cvE rfl rfl),by omega,f0Y,hwY⟩
 clear f0 hbX;clear X;rintro _ Y ⟨ht2,f0,hwY⟩;have sYw:=hwY.size;refine⟨Unit,fun _=>⟨[(1,At0 L),(3,.slice none ([]:List zen).length 0)],[]⟩,fun _ Z=>Z=Y,⟨(),(cvE rfl rfl),rfl⟩,?_⟩;rintro _ _ rfl;rename_i Y;refine⟨List zen×OA×Nat,fun s=>⟨[(1,At0 L),(3,.slice s.2.1 s.1.length s.2.2)],[]⟩,fun s Z=>FenI Y.heap.size p p.threads.length Z s.2.1 s.2.2 s.1/\Bw Y Z,?_,?_⟩
 ·refine⟨.slice p3 p.threads.length c3,zc (za f0) (i:=3) (by simpa using h3),?_⟩;refine⟨Nat×List zen×OA×Nat,fun s=>⟨[(1,At0 L),(3,.slice s.2.2.1 s.2.1.length s.2.2.2),(27,.slice p3 p.threads.length c3),(28,i64 p.threads.length),(29,i64 (s.1:Nat))],[]⟩,fun s Z=>s.1<=p.threads.length/\FenI Y.heap.size p s.1 Z s.2.2.1 s.2.2.2 s.2.1/\Bw Y Z,fun s=>p.threads.length-s.1,(0,[],none,0),
   (cvE rfl rfl),⟨UU _,⟨rfl,OwnS.nil,fun y hy=>(by cases hy)⟩,UW _ _⟩,?_⟩
  rintro⟨i,ts,q,c⟩ Z ⟨hi,hF,hbZ⟩;dsimp only at hi hF ⊢;have sZ:=hbZ.size;have hwZ:=hwY.trans (hbZ.mono sYw);refine biE (fun hc=>?_) fun hc=>?_
  rotate_left
  ·have hc:¬ (i:Int)<(p.threads.length:Int):=dF hc;obtain rfl:i=p.threads.length:=by omega
   exact⟨(ts,q,c),(cvE rfl rfl),hF,hbZ⟩
  have hc:(i:Int)<(p.threads.length:Int):=dT hc;have hil:i<ts0.length:=by omega
  obtain⟨b3,o3,hp3,hb3,hat3⟩:=zdB zc3 hil;subst hp3;obtain⟨t,ht⟩:∃ t,ts0[i]=t:=⟨_,rfl⟩;have hat3:=hat3 i hil;rw [ht] at hat3;have htm:t∈ts0:=by rw [<- ht];exact gM hil
  obtain⟨hr1,hr2⟩:=htr t htm;obtain⟨l,pt,ct⟩:=t;dsimp only at hr1 hr2;have hli:p.threads[i]?=some l:=by rw [<- hts,KR,gE hil,ht];rfl
  have hll:=hP.v.h;have hlm:l.length<=140737488351232:=by
   obtain⟨h,_⟩:=hP.v;exact h.thread l (JY hli)
  refine⟨List zen×OA×Nat,fun s=>⟨[(1,At0 L),(3,.slice s.2.1 s.1.length s.2.2),(27,.slice (some ⟨b3,o3,none⟩) p.threads.length c3),(28,i64 p.threads.length),(29,i64 (i:Nat))],[]⟩,fun s Z=>FenI Y.heap.size p (i+1) Z s.2.1 s.2.2 s.1/\Bw Y Z,?_,?_⟩
  rotate_left
  ·rintro⟨ts2,q2,c2⟩ Z2 ⟨hF2,hbZ2⟩;dsimp only at hF2 ⊢;exact nxI (by omega) ⟨(i+1,ts2,q2,c2),(cvE rfl rfl),⟨by show i+1<=_;omega,hF2,hbZ2⟩,zdc (by omega)⟩
  refine⟨Unit,fun _=>⟨[(1,At0 L),(3,.slice q ts.length c),(5,.slice pt l.length ct),(27,.slice (some ⟨b3,o3,none⟩) p.threads.length c3),(28,i64 p.threads.length),(29,i64 (i:Nat))],[]⟩,fun _ S=>S=Z,?_,?_⟩
  ·refine⟨i,rfl,by omega,?_⟩;exact⟨.slice pt l.length ct,zc (zr hwZ hat3) (i:=0) rfl,(),(cvE rfl rfl),rfl⟩
  rintro _ _ rfl;rename_i Z;refine⟨Unit,fun _=>⟨[(1,At0 L),(3,.slice q ts.length c),(5,.slice pt l.length ct),(6,.slice none (zbk l 0).length 0),(27,.slice (some ⟨b3,o3,none⟩) p.threads.length c3),(28,i64 p.threads.length),(29,i64 (i:Nat))],[]⟩,fun _ S=>S=Z,⟨(),(cvE rfl rfl),rfl⟩,?_⟩;rintro _ _ rfl;rename_i Z;refine⟨OA×Nat,fun s=>⟨[(1,At0 L),(3,.slice q ts.length c),(6,.slice s.1 (zbk l l.length).length s.2),(27,.slice (some ⟨b3,o3,none⟩) p.threads.length c3),(28,i64 p.threads.length),(29,i64 (i:Nat))],[]⟩,fun s S=>OwnS zA 55 Z.heap.size S s.1 s.2 (zbk l l.length)/\Bw Z S,?_,?_⟩
  ·refine⟨Nat×OA×Nat,fun s=>⟨[(1,At0 L),(3,.slice q ts.length c),(6,.slice s.2.1 (zbk l s.1).length s.2.2),(27,.slice (some ⟨b3,o3,none⟩) p.threads.length c3),(28,i64 p.threads.length),(29,i64 (i:Nat)),(33,.slice pt l.length ct),(34,i64 l.length),(35,i64 (s.1:Nat))],[]⟩,fun s S=>s.1<=l.length/\OwnS zA 55 Z.heap.size S s.2.1 s.2.2 (zbk l s.1)/\Bw Z S,fun s=>l.length-s.1,(0,none,0),
    (cvE rfl rfl),⟨UU _,OwnS.nil,UW _ _⟩,?_⟩
   rintro⟨k,q1,d1⟩ S ⟨hk,oS,hbS⟩;dsimp only at hk oS ⊢;have sS:=hbS.size;have hwS:=zst hwZ hbS;refine biE (fun hc=>?_) fun hc=>?_
   rotate_left
   ·have hc:¬ (k:Int)<(l.length:Int):=dF hc;obtain rfl:k=l.length:=(by omega);exact⟨(q1,d1),(cvE rfl rfl),oS,hbS⟩
   have hc:(k:Int)<(l.length:Int):=dT hc;have hkl:k<l.length:=by omega
   obtain⟨bi,oi,hpt,hbi,hati⟩:=zdB hr1 hkl;subst hpt;obtain⟨x,hx⟩:∃ x,l[k]=x:=⟨_,rfl⟩;have hati:=hati k hkl;rw [hx] at hati;have hnext:=zom (l:=l) (k:=k) (x:=x) (by rw [gE hkl,hx]);have hf8:=zkN l k;refine⟨OA×Nat,fun s=>⟨[(1,At0 L),(3,.slice q ts.length c),(6,.slice s.1 (zbk l (k+1)).length s.2),(27,.slice (some ⟨b3,o3,none⟩) p.threads.length c3),(28,i64 p.threads.length),(29,i64 (i:Nat)),(33,.slice (some ⟨bi,oi,none⟩) l.length ct),(34,i64 l.length),(35,i64 (k:Nat))],[]⟩,fun s S=>OwnS zA 55 Z.heap.size S s.1 s.2 (zbk l (k+1))/\Bw Z S,?_,?_⟩
   rotate_left
   ·rintro⟨q2,d2⟩ S2 ⟨oS2,hbS2⟩;dsimp only at oS2 ⊢;exact nxI (by omega) ⟨(k+1,q2,d2),(cvE rfl rfl),⟨hkl,oS2,hbS2⟩,zdc (by omega)⟩
   refine⟨Nat,fun N=>⟨[(1,At0 L),(3,.slice q ts.length c),(6,.slice q1 (zbk l k).length d1),(8,At0 N),(27,.slice (some ⟨b3,o3,none⟩) p.threads.length c3),(28,i64 p.threads.length),(29,i64 (i:Nat)),(33,.slice (some ⟨bi,oi,none⟩) l.length ct),(34,i64 l.length),(35,i64 (k:Nat))],[]⟩,fun N T=>T.heap[N]?=some (.cells (zA.enc x).toArray 55 (0,0))/\OwnS zA 55 Z.heap.size T q1 d1 (zbk l k)/\Bw Z T,?_,?_⟩
   ·exact⟨k,rfl,hkl,zA.enc x,rfl,zr hwS hati,nL hbi hwS.size,zo (X:=S) (v := .agg (zA.enc x).toArray) k55 rfl rfl (Qg.2 fun u hu=>zA.one _ u hu) fun T hbT fN sT=>⟨S.heap.size,(cvE rfl rfl),fN,oS.below hbT,hbS.trans (hbT.mono sS)⟩⟩
   clear oS hbS sS hwS;clear S;rintro N S ⟨fN,oS,hbS⟩;have sS:=hbS.size;have none_:zbk l (k+1)=zbk l k->∃ s:OA×Nat,s=(q1,d1)/\OwnS zA 55 Z.heap.size S s.1 s.2 (zbk l (k+1)):=fun h=>⟨_,rfl,by rw [h];exact oS⟩;refine⟨_,zc (za fN) (i:=0) rfl,biE (fun h=>?_) fun h=>?_⟩
   rotate_left
   ·have h:x.op=8:=dT ((zcW (x:=x.op) (y:=8)).symm.trans (zuD h));rw [Gh fun h2=>h2.1 h] at hnext;refine brF ?_;rw [hnext];exact⟨(q1,d1),(cvE rfl rfl),oS,hbS⟩
   have h8:¬ x.op=8:=fun h2=>by
    rw [h2] at h;exact Gj h (by decide)
   refine biE (fun h=>?_) fun h=>?_
   rotate_left
   ·have h:¬ ((zbk l k).length:Int)<8:=dF h;rw [Gh fun h2=>h (by omega)] at hnext;rw [hnext];exact⟨(q1,d1),(cvE rfl rfl),oS,hbS⟩
   have h:((zbk l k).length:Int)<8:=dT h;rw [Gi ⟨h8,by omega⟩] at hnext;rw [hnext];refine⟨zA.enc feF,by kernel_rfl,?_⟩;refine⟨zA.enc x,rfl,za fN,hlt fN,⟨by decide,by decide,rfl⟩,zA.enc feF++zA.enc x,rfl,?_⟩;have hba:Bw S (S.alloc (.cells (zA.enc feF++zA.enc x).toArray 55)):=zba _ _;have hZa:=hbS.trans (hba.mono sS);have hcells:zI (S.alloc (.cells (zA.enc feF++zA.enc x).toArray 55)) ⟨S.heap.size,0,none⟩ ([feF,x].flatMap zA.enc):=by
    rw [KO,List.flatMap_singleton];exact zfA
   refine jj (E:=zA) (T:=55) (B:=Z.heap.size) (l:=zbk l k) (news:=[feF,x]) (cap:=d1) (m:=2) Tryz.underlying51 k55 rfl rfl rfl (oS.below hba) rfl hcells hZa.size (by omega) (by show ((zbk l k).length+2)*10<=_;omega) ?_;intro q3 d3 W oW gW hbW hatW;rw [zad] at gW;exact⟨(q3,d3),(cvE rfl rfl),oW,hZa.trans (qF (oS.below hba) hZa.size (UR _) gW)⟩
  rintro⟨q1,d1⟩ S ⟨oS,hbS⟩;dsimp only at oS ⊢;have sS:=hbS.size;have hYS:=hbZ.trans (hbS.mono sZ);have hFS:=hF.below hbS;obtain⟨y,hy⟩:∃ y:zen,y=(zbk l l.length,q1,d1):=⟨_,rfl⟩;refine⟨⟨by decide,by decide,rfl⟩,zhN.enc y,by rw [hy];rfl,?_⟩;have hba:Bw S (S.alloc (.cells (zhN.enc y).toArray 51)):=zba _ _;have hYa:=zst hYS hba;have hFa:=hFS.below hba;have htsl:ts.length=i:=by
   have:=Gd List.length hF.m;rw [QI,QI,Qr] at this;omega
  refine jj (E:=zhN) (T:=51) (B:=Y.heap.size) (l:=ts) (news:=[y]) (cap:=c) (m:=1) Tryz.underlying24 k51 rfl rfl rfl hFa.o rfl (qK zhN y) hYa.size (by omega) (by show (ts.length+1)*24<=_;omega) ?_;intro q3 d3 W oW gW hbW hatW;rw [zad] at gW;refine⟨(ts++[y],q3,d3),(cvE rfl rfl),⟨?_,oW,fun z hz=>?_⟩,hYa.trans (qF hFa.o hYa.size (UR _) gW)⟩
  ·rw [QL,hF.m,List.take_add_one,hli,hy,QL];rfl
  ·rcases QM.1 hz with hz | hz
   ·exact jK (hFa.r z hz) hFa.o (by decide) gW
   ·rw [Ky.1 hz,hy];exact jK ((oS.lower sZ).below hba) hFa.o (by decide) gW
 rintro⟨ts,q,c⟩ Z ⟨hF,hbZ⟩;dsimp only at hF ⊢;have sZ:=hbZ.size;have hwZ:=hwY.trans (hbZ.mono sYw);have hLw:w.heap.size<=L:=by omega
 obtain⟨pd,hpd⟩:=nm (pc.set 3 (.slice q ts.length c));have hpdl:pd.length=10:=by rw [hpd,QK];exact hpc
 refine⟨Unit,fun _=>⟨[(1,At0 L)],[]⟩,fun _ S=>S.heap[L]?=some (.cells pd.toArray 29 (0,0))/\PrgX S.heap.size S pd (zho p)/\Bw w S,?_,?_⟩
 ·have fZ:=zb hbZ f0;refine zm (cs:=pc) k24 fZ (o:=0+3) (v := .slice q ts.length c) rfl rfl (by rw [hpc];decide) rfl ?_;intro S fS gS sS;have hwS:=hwZ.trans (zk gS hwZ.size hLw);rw [<- hpd] at fS;refine⟨(),(cvE rfl rfl),fS,?_,hwS⟩;rw [hpd];exact zrz (U:=Y.heap.size) hP hwS hwS.size ht2 ⟨hF.m,qj hF.o fZ (by decide) gS,fun y hy=>qj (hF.r y hy) fZ (by decide) gS⟩
 clear f0 hF hbZ hwZ sZ hwY sYw;clear Z;clear Y;rintro _ Y ⟨f0,hQ,hwY⟩;refine⟨Unit,fun _=>⟨[(1,At0 L)],[]⟩,fun _ Z=>zdf (zho p)=true/\Z.heap[L]?=some (.cells pd.toArray 29 (0,0))/\(∃ B,B<=Z.heap.size/\PrgX B Z pd (zho p))/\Bw w Z,?_,?_⟩
 ·refine⟨pd,hpdl,za f0,hlt f0,cmo (zjD (UR _) hQ.v (hG.c.below hwY)) ?_⟩;rintro e Z ⟨m,rfl,hm,hbZ⟩;have hwZ:=zst hwY hbZ;refine biE (fun h=>?_) fun h=>?_
  ·refine cmo (aw Z hwZ) ?_;rintro e U ⟨rfl,hbU⟩;exact⟨rfl,hbU⟩
  have hm0:m=0:=by
   have h2:(!decide ((m:Int)=0))=false:=h;simpa using h2
  exact⟨(),(cvE rfl rfl),hm.1 hm0,zb hbZ f0,⟨_,hbZ.size,hQ.below hbZ⟩,hwZ⟩
 clear f0 hQ hwY;clear Y;rintro _ Y ⟨hok,f0,⟨B,hB,hQ⟩,hwY⟩;have hO:=zga hok;refine⟨Bool×List zbV×OA×Nat,fun s=>⟨[(9,.slice s.2.2.1 s.2.1.length s.2.2.2),(10,i64 (if s.1 then 0 else 5))],[]⟩,fun s Z=>(s.1=true->∃ V,zdx (zho p) V 200/\s.2.1.map (·.1)=jd (zho p) V/\OwnS exE 46 w.heap.size Z s.2.2.1 s.2.2.2 s.2.1/\∀ x∈s.2.1,OwnS evE 49 w.heap.size Z x.2.1 x.2.2 x.1.ev)/\Bw w Z,?_,?_⟩
 ·refine⟨pd,hpdl,za f0,hlt f0,cmo (zlk (most:=200) hB hQ (hG.below hwY) hok (by decide) fun V _=>zk7 hO) ?_⟩;rintro e U ⟨(⟨V,hco,xs,q,c,rfl,hxs,oX,oE⟩ | ⟨_,rfl⟩),hbU⟩
  ·exact⟨(true,xs,q,c),(cvE rfl rfl),fun _=>⟨V,hco,hxs,oX.lower hwY.size,fun x hx=>(oE x hx).lower hwY.size⟩,(zst hwY hbU)⟩
  ·exact⟨(false,[],none,0),(cvE rfl rfl),(fun h=>by cases h),(zst hwY hbU)⟩
 clear f0 hQ hB hwY hpdl hpd;clear Y;rintro⟨ok,xs,q,c⟩ Y ⟨hcase,hwY⟩;dsimp only at hcase ⊢;refine⟨Unit,fun _=>⟨[(9,.slice q xs.length c)],[]⟩,fun _ X=>X=Y/\ok=true,?_,?_⟩
 ·cases ok with
  | false =>
   refine brT (cmo (aw Y hwY) ?_);rintro e U ⟨rfl,hbU⟩;exact⟨rfl,hbU⟩
  | true =>
   exact brF ⟨(),(cvE rfl rfl),rfl,rfl⟩
 rintro _ _ ⟨rfl,rfl⟩;obtain⟨V,hco,hxs,oX,oE⟩:=hcase rfl;clear hcase;rename_i Y;have sYw:=hwY.size;have hT:Tz64M Y:=hG.t64.below hwY;have hn20:xs.length<=9223372036854775807:=by
  rcases oX.inv with ⟨_,h2,h⟩ | ⟨_,_,_,_,_,h,h2,_⟩
  ·rw [h];exact UU _
  ·unfold maxLen at h2;omega
 refine⟨Unit,fun _=>⟨[],[]⟩,fun _ Z=>Bw Y Z,?_,?_⟩
 ·refine⟨Nat,fun i=>⟨[(72,.slice q xs.length c),(73,i64 xs.length),(74,i64 (i:Nat))],[]⟩,fun i Z=>i<=xs.length/\Bw Y Z,fun i=>xs.length-i,0,(cvE rfl rfl),⟨UU _,UW _ _⟩,?_⟩;rintro i Z ⟨hi,hbZ⟩;refine biE (fun hc=>?_) fun hc=>?_
  rotate_left
  ·exact⟨(),⟨.nil,rfl⟩,hbZ⟩
  have hc:(i:Int)<(xs.length:Int):=dT hc;have hil:i<xs.length:=by omega
  obtain⟨g,o,rfl,hlb,hat⟩:=oX.row.at hil;obtain⟨x,hx⟩:∃ x,xs[i]=x:=⟨_,rfl⟩;have hat:=hat i hil;rw [hx] at hat;have hxm:x∈xs:=by rw [<- hx];exact gM hil
  have hxc:x.1∈jd (zho p) V:=by rw [<- hxs];exact Kj hxm
  have hev:=(oE x hxm).row;obtain⟨xe,qx,cx⟩:=x;dsimp only at hat hxc hev;obtain⟨hv,hright⟩:=zpO hO hco (by decide) hxc hev;have hI:=(znp hO hxc).ok;have hsame:∀ {m:Nat},3<=m->m<=6->zaY m xe=zaY 2 xe:=fun h3 h6=>zjw hO (zrB p) hxc ⟨hI.po.w,hI.rf.w,hI.co.w,hI.dt.w,hI.ct.w,hI.rm.w⟩ hright h3 h6;clear hx hxm;refine⟨Unit,fun _=>⟨[(72,.slice (some ⟨g,o,none⟩) xs.length c),(73,i64 xs.length),(74,i64 (i:Nat))],[]⟩,fun _ Z=>Bw Y Z,?_,?_⟩
  rotate_left
  ·rintro _ Z2 hbZ2;exact nxI (by omega) ⟨i+1,(cvE rfl rfl),⟨hil,hbZ2⟩,zdc (by omega)⟩
  refine⟨Nat,fun M=>⟨[(12,At0 M),(72,.slice (some ⟨g,o,none⟩) xs.length c),(73,i64 xs.length),(74,i64 (i:Nat))],[]⟩,fun M U=>ExH U M xe qx cx/\Bw Y U,?_,?_⟩
  ·exact⟨i,rfl,hil,exC xe qx cx,zD _ _ _,zr hbZ hat,nL hlb hbZ.size,zo (X:=Z) (v := .agg (exC xe qx cx).toArray) k46 (zD _ _ _) jx (za0 _ _ _) fun U hbU fU sU=>⟨Z.heap.size,(cvE rfl rfl),fU,(zst hbZ hbU)⟩⟩
  clear hbZ;clear Z;rintro M Z ⟨fM,hbZ⟩;refine⟨Unit,fun _=>⟨[(12,At0 M),(72,.slice (some ⟨g,o,none⟩) xs.length c),(73,i64 xs.length),(74,i64 (i:Nat))],[]⟩,fun _ U=>U=Z,?_,?_⟩
  ·refine⟨_,zap (za fM),biE (fun h=>?_) fun h=>?_⟩
   ·refine cmo (aw Z (hwY.trans (hbZ.mono sYw))) ?_;rintro e U ⟨rfl,hbU⟩;exact⟨rfl,hbU⟩
   ·exact⟨(),(cvE rfl rfl),rfl⟩
  rintro _ _ rfl;rename_i Z;have sZ:=hbZ.size;refine⟨Unit,fun _=>⟨[(12,At0 M),(13,.bool (zaY 2 xe)),(72,.slice (some ⟨g,o,none⟩) xs.length c),(73,i64 xs.length),(74,i64 (i:Nat))],[]⟩,fun _ U=>ExH U M xe qx cx/\Bw Y U,?_,?_⟩
  ·refine⟨exC xe qx cx,zD _ _ _,za fM,hlt fM,cmo (zjF (m:=2) (hv.below hbZ) (hT.below hbZ)) ?_⟩;rintro e U ⟨rfl,hbU⟩;exact⟨(),(cvE rfl rfl),zb hbU fM,hbZ.trans (hbU.mono sZ)⟩
  clear fM hbZ sZ;clear Z;rintro _ Z ⟨fM,hbZ⟩;have sZ:=hbZ.size;refine⟨⟨by decide,by decide,rfl⟩,[u8 3,u8 4,u8 5,u8 6],rfl,?_⟩;obtain⟨Z1,hZ1⟩:=nm (Z.alloc (.cells [u8 3,u8 4,u8 5,u8 6].toArray 5));rw [<- hZ1];have hb1:Bw Z Z1:=by rw [hZ1];exact (zba _ _)
  have f1:Z1.heap[Z.heap.size]?=some (.cells [u8 3,u8 4,u8 5,u8 6].toArray 5 (0,0)):=by rw [hZ1];exact zy Z _
  obtain⟨K,hK⟩:=nm (Z.heap.size);rw [<- hK] at f1 ⊢;have hY1:=hbZ.trans (hb1.mono sZ);have fM1:=zb hb1 fM;refine⟨Nat,fun j=>⟨[(12,At0 M),(13,.bool (zaY 2 xe)),(72,.slice (some ⟨g,o,none⟩) xs.length c),(73,i64 xs.length),(74,i64 (i:Nat)),(85,.slice (some ⟨K,0,none⟩) 4 4),(86,i64 (4:Nat)),(87,i64 (j:Nat))],[]⟩,fun j U=>j<=4/\Bw Z1 U,fun j=>4-j,0,(cvE rfl rfl),⟨UU _,UW _ _⟩,?_⟩;rintro j U ⟨hj,hbU⟩;have sU:=hbU.size;have hYU:=zst hY1 hbU;refine biE (fun hc=>?_) fun hc=>?_
  rotate_left
  ·exact⟨(),(cvE rfl rfl),hYU⟩
  have hc:(j:Int)<4:=dT hc;have hj4:j<4:=by omega
  refine⟨Unit,fun _=>⟨[(12,At0 M),(13,.bool (zaY 2 xe)),(72,.slice (some ⟨g,o,none⟩) xs.length c),(73,i64 xs.length),(74,i64 (i:Nat)),(85,.slice (some ⟨K,0,none⟩) 4 4),(86,i64 (4:Nat)),(87,i64 (j:Nat))],[]⟩,fun _ U=>Bw Z1 U,?_,?_⟩
  rotate_left
  ·rintro _ U2 hbU2;exact nxI (by omega) ⟨j+1,(cvE rfl rfl),⟨hj4,hbU2⟩,zdc (by omega)⟩
  obtain⟨m,hm,hm3⟩:∃ m:UInt8,[u8 3,u8 4,u8 5,u8 6][j]?=some (u8 m)/\m.toNat=3+j:=by
   match j,hj4 with
   | 0,_=>exact⟨3,rfl,rfl⟩
   | 1,_=>exact⟨4,rfl,rfl⟩
   | 2,_=>exact⟨5,rfl,rfl⟩
   | 3,_=>exact⟨6,rfl,rfl⟩
  have fU:=zb hbU fM1;have f1U:=zb hbU f1;refine⟨j,rfl,hj4,u8 m,by have:=zc (za f1U) (i:=j) hm;rw [show 0+j=0+j*1 by omega] at this;exact this,?_⟩;refine⟨exC xe qx cx,zD _ _ _,za fU,hlt fU,cmo (zjF (m:=m) (hv.below hYU) (hT.below hYU)) ?_⟩;rintro e S ⟨rfl,hbS⟩;rw [hsame (m:=m.toNat) (by omega) (by omega)];exact⟨_,fun w=>zin _ _ _ _ w,brN (by rw [Un rfl];rfl) ⟨(),(cvE rfl rfl),hbU.trans (hbS.mono sU)⟩⟩
 rintro _ Z hbZ;refine cmo (aw Z (hwY.trans (hbZ.mono sYw))) ?_;rintro e U ⟨rfl,hbU⟩;exact⟨rfl,hbU⟩
end
end Go.Proofs.YtkpaomeeknegpaaGreatDoor
namespace Go.Proofs.YtkpaomeeknegpaaGreatDoor
open Go.Vc Go.RowKit Go.Sei
open Go.ChangeShapes Go.WideShapes Go.ChangeAt
section
variable {H:Type} {enc:TypeId×Value->H} {P:Program} {w:Wd} {base:Nat} {spare:Nat->Bool} {held:Bool} {fuel:Nat} {t:TypeId} {cs:List Value} {x:DataW H×List MemPlace}
theorem zmY (ht:P.underlying t=some (.int .u8)) (h:DataW.trod enc P w base spare held fuel t cs=some x):∃ b:UInt8,cs=[u8 b]/\x.1 = .lit (.int .u8 b.toNat):=by
 obtain⟨n,rfl,rfl,hw⟩:=DataW.trod_int ht h;have hb:=bounds_u8 hw;have e:((UInt8.ofNat n.toNat).toNat:Int)=n:=by
  rw [KF];omega
 exact⟨UInt8.ofNat n.toNat,by rw [u8,e],by rw [e]⟩
theorem zgV {n:Nat} {e:TypeId} (ht:P.underlying t=some (.array n e)) (he:P.underlying e=some (.int .u8)) (hc:P.cellsOf e=1) (hn:P.cellsOf t=n)
  (h:DataW.trod enc P w base spare held fuel t cs=some x):∃ bs:List UInt8,bs.length=n/\cs=bs.map u8/\x.1 = .agg (bs.map fun b => .lit (.int .u8 b.toNat)):=by
 obtain⟨xs,m,rfl,rfl,hl,hx,hel⟩:=DataW.trod_array ht h;rw [hn] at hl;have each:∀ i (h:i<n),∃ b:UInt8,cs[i]?=some (u8 b)/\xs[i]?.map (·.1)=some (.lit (.int .u8 b.toNat)):=fun i hi=>by
  have h1:=hel i hi;rw [hc,gE (by omega)] at h1;obtain⟨b,h2,h3⟩:=zmY he h1;refine⟨b,?_,by rw [gE (by omega),QZ,h3]⟩;have:((cs.drop (i*1)).take 1)[0]?=some (u8 b):=by rw [h2];rfl
  simpa using this
 have:∀ k,k<=n->∃ bs:List UInt8,bs.length=k/\cs.take k=bs.map u8/\(xs.take k).map (·.1)=bs.map fun b => .lit (.int .u8 b.toNat):=by
  intro k
  induction k with
  | zero=>exact fun _=>⟨[],rfl,by simp,by simp⟩
  | succ k ih =>
   intro hk;obtain⟨bs,h1,h2,h3⟩:=ih (by omega);obtain⟨b,h4,h5⟩:=each k (by omega);have hk1:k<cs.length:=by omega
   have hk2:k<xs.length:=by omega
   rw [gE hk1] at h4;rw [gE hk2] at h5;refine⟨bs++[b],by simp [h1],?_,?_⟩
   ·rw [tsg hk1,h2,Ua h4];simp
   ·rw [tsg hk2,QL,h3];simp at h5;simp [h5]
 obtain⟨bs,h1,h2,h3⟩:=this n (UR _);rw [JF (by omega)] at h2 h3;exact⟨bs,h1,h2,by rw [<- h3]⟩
end
theorem zbe:Tryz.prog.cellsOf 5=1:=by kernel_rfl
theorem ztH:Tryz.prog.cellsOf 4=1:=by kernel_rfl
theorem zle (b o i:Nat):(⟨b,o,none⟩:Addr).add i=⟨b,o+i,none⟩:=by
 unfold Addr.add;by_cases h:i=0
 ·simp [h]
 ·simp [h]
section
variable {w:Wd} {base:Nat} {cs:List Value}
theorem zjv {a:Addr} {n:Nat} (hn:0<n) (h:w.cells? base a n=some cs):a.spot=none/\a.block<w.heap.size/\zI w ⟨a.block,a.off,none⟩ cs:=by
 obtain⟨_,hl,hc⟩:=World.cells?_some h;have h0:=hc 0 hn;rw [gE (by omega)] at h0;have hs:a.spot=none:=by simpa [Addr.add] using World.cell?_spot h0
 obtain⟨b,o,s⟩:=a;dsimp only at hs;subst hs;refine⟨rfl,Jz _ _ h0,zaB fun i v hv=>?_⟩;have hi:i<n:=by have:=(Jr.1 hv).1;omega
 have:=(hc i hi).trans hv;rw [zle] at this;exact this
end
theorem zo7:ownKnob Tryz.prog.godebug=none:=by kernel_rfl
theorem ziW:laidOutB PG=true:=by kernel_rfl
section
variable {H:Type} {enc:TypeId×Value->H} {P:Program} {w:Wd} {base:Nat} {spare:Nat->Bool} {held:Bool} {fuel:Nat} {t e:TypeId} {cs:List Value} {x:DataW H×List MemPlace}
def Opens (enc:TypeId×Value->H) (P:Program) (w:Wd) (base:Nat) (spare:Nat->Bool) (held:Bool) (t:TypeId) (R:List Value->Prop):Prop :=
 ∀ fuel cs x,DataW.trod enc P w base spare held fuel t cs=some x->R cs
theorem Opens.field {fs:Array Field} {R:List Value->Prop} {i:Nat} {f:Field} {n:Nat} {xs:List (DataW H×List MemPlace)} {m:Nat} (hel:∀ (i:Nat) (f:Field),fs[i]?=some f->DataW.trod enc P w base spare held m f.type ((cs.drop f.offset).take (P.cellsOf f.type))=xs[i]?)
  (hl:xs.length=fs.size) (hi:fs[i]?=some f) {o:Nat} (hoo:f.offset=o) (hn:P.cellsOf f.type=n) (ho:Opens enc P w base spare held f.type R):R ((cs.drop o).take n):=by
 subst hoo;have h1:=hel i f hi;have:i<fs.size:=(Jj.1 hi).1;rw [gE (by omega),hn] at h1;exact ho _ _ _ h1
theorem jL (ht:P.underlying t=some (.int .u8)):Opens enc P w base spare held t fun cs=>∃ b:UInt8,cs=[u8 b]:=fun fuel cs x h=>by
 obtain⟨b,h,_⟩:=zmY ht h;exact⟨b,h⟩
theorem zlR (ht:P.underlying t=some .bool):Opens enc P w base spare held t fun cs=>∃ b:Bool,cs=[.bool b]:=fun fuel cs x h=>by
 obtain⟨b,h,_⟩:=DataW.trod_bool ht h;exact⟨b,h⟩
theorem zrl {β:Type} {n:Nat} (i0:β) {Q:Nat->β->Prop} (h:∀ i,i<n->∃ b,Q i b):∃ bs:List β,bs.length=n/\∀ i (hi:i<bs.length),Q i bs[i]:=by
 have h2:∀ i,∃ b,i<n->Q i b:=fun i=>by
  by_cases hi:i<n
  ·obtain⟨b,hb⟩:=h i hi;exact⟨b,fun _=>hb⟩
  ·exact⟨i0,fun h=>Gj h hi⟩
 obtain⟨g,hg⟩:=Classical.axiomOfChoice h2;refine⟨(List.range n).map g,by simp,fun i hi=>?_⟩;simp only [Qn,Kw];exact hg i (by simpa using hi)
theorem cut (cs:List Value) (o n o':Nat) (h:o+n=o'):cs.drop o=(cs.drop o).take n++cs.drop o':=by
 rw [<- h,<- Uf,JP]
end
theorem cC (t n:Nat) (h:Tryz.prog.cellsOf t=n):Tryz.prog.cellsOf t=n:=h
theorem zew {H:Type} {enc:TypeId×Value->H} {a:Assume} {C:Checked} {os:Os} {f:FuncId} {fn:Func} {s:ChangeSpec} {conds:List PathCond} {apart fresh handsOn again:Bool} {X:Wd->Array Value->Prop}
  (hX:∀ (w w':Wd) (args:Array Value),w.heap=w'.heap->X w args->X w' args)
  (own:ownKnob C.prog.godebug=none) (started:os.Started) (noInit:C.prog.inits.idxOf? f=none) (hfn:C.prog.funcs[f]?=some fn)
  (witness:∃ (w:Wd) (tape:Tape) (i:Input),w.os=os/\(w.forCall tape i).Shaped C.prog/\i.vars=[]/\Input.okWide C.prog (w.forCall tape i) .any w.heap.size f i /\
   ((s.pre enc C.prog fn conds apart (w.forCall tape i).memory i.args/\X (w.forCall tape i).memory i.args)/\sizedMet enc C.prog fn (OpenSpec.ofChange s) apart (w.forCall tape i).memory i.args)/\a.holds C.prog (lone (Frame.enter C.prog f i.args .normal) [] (w.forCall tape i)))
  (contract:∀ (W:Wd) (base:Nat) (args:Array Value) (ds gs:List (DataW H)) (before:List MemPlace),
   (∀ (j:Nat) t v,fn.params[j]?=some t->args[j]?=some v->Value.okWide C.prog W .any base t v) ->
   DataW.Whole enc C.prog fn.params.toList s.vars apart W args.toList ds gs before->X W args->W.ShapedOpen C.prog ->
   (∃ ds gs before,DataW.Whole enc C.prog fn.params.toList (OpenSpec.ofChange s).vars apart W args.toList ds gs before/\∀ n∈DataW.weightsEach C.prog (fn.params.toList++(OpenSpec.ofChange s).bare.plain.varTypes C.prog) (ds++gs),n<=reachBytes) ->
   Calls C.prog f args W fun e W'=>∃ v,e = .returned v/\s.post enc C.prog fn apart fresh handsOn again W args v W') :
  ReturnsInHanded a C os f .any (fun w args=>(s.pre enc C.prog fn conds apart w args/\X w args)/\sizedMet enc C.prog fn (OpenSpec.ofChange s) apart w args) (s.post enc C.prog fn apart fresh handsOn again):=by
 refine returnsInHanded_of_calls own started noInit witness ?_;intro w tape i _ hsh _ hok hpre hholds;obtain⟨_,_,_,fn',hfn',_,_,_,_,hval⟩:=hok;have e:fn'=fn:=Ua (hfn'.symm.trans hfn);subst e;obtain⟨⟨⟨ds,gs,before,hw,hc⟩,hx⟩,hz⟩:=hpre;have hw':=DataW.Whole.of_heap (w':=w.forCall tape i) (by rfl) hw;obtain⟨_,ds2,gs2,before2,hw2,hall⟩:=hz;refine (contract (w.forCall tape i) w.heap.size i.args ds gs before hval hw' (hX _ _ _ (by rfl) hx) hsh ⟨ds2,gs2,before2,DataW.Whole.of_heap (w':=w.forCall tape i) (by rfl) hw2,fun n hn=>dT (Qg.1 hall n hn)⟩).mono fun e W' ⟨v,he,hp⟩=>?_;subst he;exact ChangeSpec.post_blind hp
section
variable {H:Type} {enc:TypeId×Value->H} {P:Program} {w:Wd} {base:Nat} {spare:Nat->Bool} {held:Bool} {fuel:Nat} {t:TypeId} {cs:List Value} {x:DataW H×List MemPlace}
def Wgt (P:Program) (t:TypeId) (d:DataW H):Prop:=∀ n∈d.weights P t,n<=reachBytes
theorem zqQ {ds:List (DataW H)} {e:TypeId} (h:∀ n∈DataW.weightsAll P e ds,n<=reachBytes):∀ d∈ds,Wgt P e d:=by
 induction ds with
 | nil=>intro d hd;cases hd
 | cons a r ih =>
  intro d hd;simp only [DataW.weightsAll,QM] at h;rcases Uy.1 hd with rfl | hd
  ·exact fun n hn=>h n (.inl hn)
  ·exact ih (fun n hn=>h n (.inr hn)) d hd
end
theorem zg7 {H:Type}:∀ {a b:List UInt8},a.map (fun b=>(DataW.lit (.int .u8 b.toNat):DataW H))=b.map (fun b=>DataW.lit (.int .u8 b.toNat))->a=b
 | [],[],_=>rfl
 | [],_::_,h=>by cases h
 | _::_,[],h=>by cases h
 | x::a,y::b,h=>by
  simp only [Ux,QG,DataW.lit.injEq,Lit.int.injEq,true_and] at h;rw [zg7 h.2,Ub.1 (by omega:x.toNat=y.toNat)]
section
variable {H:Type} {enc:TypeId×Value->H} {P:Program} {w:Wd} {base:Nat} {spare:Nat->Bool} {held:Bool} {fuel F:Nat} {t e:TypeId} {cs:List Value} {x:DataW H×List MemPlace}
def OpensW (enc:TypeId×Value->H) (P:Program) (w:Wd) (base:Nat) (spare:Nat->Bool) (held:Bool) (F:Nat) (t:TypeId) (R:List Value->Prop):Prop :=
 ∀ n,n<F->∀ cs x,DataW.trod enc P w base spare held n t cs=some x->Wgt P t x.1->R cs
theorem zbb {R:List Value->Prop} (h:Opens enc P w base spare held t R):OpensW enc P w base spare held F t R:=fun n _ cs x h1 _=>h n cs x h1
theorem OpensW.field {fs:Array Field} {R:List Value->Prop} (ht:P.underlying t=some (.struct fs)) (h:DataW.trod enc P w base spare held fuel t cs=some x) (hw:Wgt P t x.1) (hF:fuel<=F) {i:Nat} {f:Field} (hf:fs[i]?=some f) {T o k:Nat} (hT:f.type=T) (hO:f.offset=o) (hk:P.cellsOf T=k)
  (ho:OpensW enc P w base spare held F T R):R ((cs.drop o).take k):=by
 subst hT hO hk;obtain⟨xs,n,rfl,rfl,hl,hx,hel⟩:=KH ht h;have h1:=hel i f hf;have hi:i<xs.length:=by rw [hx];exact (Jj.1 hf).1
 rw [gE hi] at h1;refine ho n (by omega) _ _ h1 fun m hm=>hw m ?_;simp only [DataW.weights,ht];refine DataW.weights_mem_each (j:=i) (t:=f.type) (d:=xs[i].1) ?_ ?_ m hm
 ·rw [KR];have:fs.toList[i]?=some f:=by simpa using hf
  rw [this];rfl
 ·rw [KR,gE hi];rfl
theorem zgT (ht:P.underlying t=some .string):OpensW enc P w base spare held F t fun cs=>∃ s:List UInt8,s.length<=140737488351232/\cs=[qB s]:=fun n _ cs x h hw=>by
 obtain⟨s,rfl,rfl,_⟩:=DataW.trod_string ht h;refine⟨s.data.toList,hw _ (by simp [DataW.weights]),?_⟩;unfold qB bs;rw [Array.toArray_toList]
theorem zcs {β:Type} (i0:β) {f:β->List Value} {Q:β->Prop} {sz:Nat} (hp:0<sz) (ht:P.underlying t=some (.slice e)) (hc:P.cellsOf e=sz) (hb:Nat.ble 1 (P.bytesOf e)=true) (ho:OpensW enc P w base spare held F e fun cs=>∃ b,Q b/\cs=f b) :
  OpensW enc P w base spare held (F+1) t fun cs=>∃ (p:OA) (cap:Nat) (l:List β),cs=[.slice p l.length cap]/\(l.length<=140737488351232/\l.length*P.bytesOf e<=140737488351232)/\l.length<=cap/\(∀ b∈l,Q b)/\∃ b o,(l.length=0\/p=some ⟨b,o,none⟩)/\∀ i (hi:i<l.length),b<w.heap.size/\zI w ⟨b,o+i*sz,none⟩ (f l[i]):=fun n hn cs x h hw=>by
 rcases DataW.trod_slice ht h with ⟨rfl,_⟩ | ⟨a,len,cap,elems,qp,n,rfl,rfl,hx,_,hlc,hcm,hlen,hel,_,_⟩
 ·exact⟨none,0,[],rfl,⟨by simp,by simp⟩,by simp,by simp,0,0,.inl rfl,fun i hi=>by simp at hi⟩
 ·subst hx;have hw':∀ m,m∈((elems.map (·.1)).length+(qp.map (·.1)).length)*P.bytesOf e::(DataW.weightsAll P e (elems.map (·.1))++DataW.weightsAll P e (qp.map (·.1)))->m<=reachBytes:=fun m hm=>by
   refine hw m ?_;simp only [DataW.weights,ht];exact hm
  have hb:=JR hb;have hlb:len<=140737488351232/\len*P.bytesOf e<=140737488351232:=by
   have h1:=hw' _ Kx;simp only [QI] at h1;have:elems.length*1<=(elems.length+qp.length)*P.bytesOf e:=Ul (Qv _ _) hb;have h2:elems.length*P.bytesOf e<=(elems.length+qp.length)*P.bytesOf e:=Ul (Qv _ _) (UR _);have hr:reachBytes=140737488351232:=rfl;rw [<- hlen];omega
  have each:∀ i,i<len->∃ m:β,Q m/\(a.add (i*sz)).spot=none/\(a.add (i*sz)).block<w.heap.size/\zI w ⟨(a.add (i*sz)).block,(a.add (i*sz)).off,none⟩ (f m):=fun i hi=>by
   have h1:=hel i hi;rw [hc,gE (by omega),Option.bind_eq_some_iff] at h1;obtain⟨cs,h2,h3⟩:=h1;obtain⟨m,hq,rfl⟩:=ho n (by omega) _ _ h3 (zqQ (ds:=elems.map (·.1)) (fun m hm=>hw' m (JW _ (JV _ hm))) _ (Kj (gM _)));exact⟨m,hq,zjv hp h2⟩
  obtain⟨l,h1,h2⟩:=zrl i0 each;refine⟨some a,cap,l,by rw [h1],by rw [h1];exact hlb,by omega,fun b hb=>?_,a.block,a.off,?_,fun i hi=>?_⟩
  ·obtain⟨i,hi,rfl⟩:=Kg hb;exact (h2 i hi).1
  ·by_cases h00:l.length=0
   ·exact .inl h00
   ·right;have hsp:a.spot=none:=by
     have:=(h2 0 (by omega)).2.1;simpa [Addr.add] using this
    obtain⟨b,o,s⟩:=a;dsimp only at hsp;subst hsp;rfl
  ·have hsp:a.spot=none:=by
    have:=(h2 0 (by omega)).2.1;simpa [Addr.add] using this
   obtain⟨b,o,s⟩:=a;dsimp only at hsp;subst hsp;have:=(h2 i hi).2.2;rw [zle] at this;exact this
end
section
variable {H:Type} {enc:TypeId×Value->H} {P:Program} {w:Wd} {base:Nat} {spare:Nat->Bool} {held:Bool} {fuel F:Nat} {t e:TypeId} {cs:List Value} {x:DataW H×List MemPlace}
theorem ze9 {α:Type} {E:Enc α} {p:OA} {l:List α} (h:∃ b o,(l.length=0\/p=some ⟨b,o,none⟩)/\∀ i (hi:i<l.length),b<w.heap.size/\zI w ⟨b,o+i*E.sz,none⟩ (E.enc l[i])):RowB E w.heap.size w p l:=by
 obtain⟨b,o,hp,hc⟩:=h;by_cases h0:l=[]
 ·exact .inl h0
 ·have hl0:0<l.length:=List.length_pos_iff.2 h0;rcases hp with hp | rfl
  ·omega
  ·exact RowB.of_slr (.inr ⟨b,o,rfl,(hc 0 hl0).1,fun i hi=>(hc i hi).2⟩)
end
section
variable {H:Type} {enc:TypeId×Value->H} {w:Wd} {base:Nat} {spare:Nat->Bool} {held:Bool} {F:Nat}
theorem zij:Opens enc PG w base spare held 53 fun cs=>∃ (r:Bool) (n:UInt8),cs=[.bool r,u8 n]:=fun fuel cs x h=>by
 obtain⟨xs,m,rfl,rfl,hl,hx,hel⟩:=KH Tryz.underlying53 h;rw [cC 53 2 (by kernel_rfl)] at hl;obtain⟨b0,e0⟩:=Opens.field (o:=0) (i:=0) hel hx rfl rfl ztH (zlR Tryz.underlying4);obtain⟨b1,e1⟩:=Opens.field (o:=1) (i:=1) hel hx rfl rfl zbe (jL Tryz.underlying5);refine⟨b0,b1,?_⟩;have h0:cs=cs.drop 0:=rfl;have h9:cs.drop 2=[]:=JB (by omega);rw [h0,cut cs 0 1 1 rfl,cut cs 1 1 2 rfl,e0,e1,h9];rfl
theorem zn7:Opens enc PG w base spare held 55 fun cs=>∃ x:InsD,True/\cs=zA.enc x:=fun fuel cs x h=>by
 obtain⟨xs,m,rfl,rfl,hl,hx,hel⟩:=KH Tryz.underlying55 h;rw [cC 55 10 (by kernel_rfl)] at hl;obtain⟨b0,e0⟩:=Opens.field (o:=0) (i:=0) hel hx rfl rfl zbe (jL Tryz.underlying5);obtain⟨b1,e1⟩:=Opens.field (o:=1) (i:=1) hel hx rfl rfl zbe (jL Tryz.underlying5);obtain⟨b2,e2⟩:=Opens.field (o:=2) (i:=2) hel hx rfl rfl zbe (jL Tryz.underlying5);obtain⟨r3,n3,e3⟩:=Opens.field (o:=3) (i:=3) hel hx rfl rfl (cC 53 2 (by kernel_rfl)) zij;obtain⟨r4,n4,e4⟩:=Opens.field (o:=5) (i:=4) hel hx rfl rfl (cC 53 2 (by kernel_rfl)) zij;obtain⟨b5,e5⟩:=Opens.field (o:=7) (i:=5) hel hx rfl rfl zbe (jL Tryz.underlying5);obtain⟨b6,e6⟩:=Opens.field (o:=8) (i:=6) hel hx rfl rfl zbe (jL Tryz.underlying5);obtain⟨b7,e7⟩:=Opens.field (o:=9) (i:=7) hel hx rfl rfl zbe (jL Tryz.underlying5);refine⟨⟨b0,b1,b2,r3,n3,r4,n4,b5,b6,b7⟩,trivial,?_⟩;have h0:cs=cs.drop 0:=rfl;have h9:cs.drop 10=[]:=JB (by omega);rw [h0,cut cs 0 1 1 rfl,cut cs 1 1 2 rfl,cut cs 2 1 3 rfl,cut cs 3 2 5 rfl,cut cs 5 2 7 rfl,cut cs 7 1 8 rfl,cut cs 8 1 9 rfl,cut cs 9 1 10 rfl,e0,e1,e2,e3,e4,e5,e6,e7,h9];rfl
theorem zlS:OpensW enc PG w base spare held F 51 fun cs=>∃ x:zen,(x.1.length<=140737488351232/\RowB zA w.heap.size w x.2.1 x.1)/\cs=zhN.enc x:=fun n hn cs x h hw=>by
 obtain⟨p,cap,l,h1,h2,_,_,h3⟩:=zcs (F:=n) (⟨0,0,0,false,0,false,0,0,0,0⟩:InsD) (f:=zA.enc) (Q:=fun _=>True) (sz:=10) (by decide) Tryz.underlying51 (by kernel_rfl) (by kernel_rfl) (zbb zn7) n (Qx n) cs x h hw;exact⟨(l,p,cap),⟨h2.1,ze9 h3⟩,h1⟩
theorem zgU:∀ F,OpensW enc PG w base spare held F 27 fun cs=>∃ x:Cnd×OA×Nat,KidsV w.heap.size w x.2.1 x.1.kids/\cs=j5 x.1 x.2.1 x.2.2
 | 0=>fun n hn=>Gj hn (QW _)
 | F+1=>fun n hn cs x h hw=>by
  have ih:=zgU F;have hF:n<=F+1:=by omega
  have hl:cs.length=5:=by
   obtain⟨xs,m,_,_,hl,_,_⟩:=KH Tryz.underlying27 h;rw [cC 27 5 (by kernel_rfl)] at hl;exact hl
  obtain⟨b0,e0⟩:=OpensW.field (F:=F+1) (o:=0) (i:=0) Tryz.underlying27 h hw hF rfl rfl rfl zbe (zbb (jL Tryz.underlying5));obtain⟨b1,e1⟩:=OpensW.field (F:=F+1) (o:=1) (i:=1) Tryz.underlying27 h hw hF rfl rfl rfl zbe (zbb (jL Tryz.underlying5));obtain⟨b2,e2⟩:=OpensW.field (F:=F+1) (o:=2) (i:=2) Tryz.underlying27 h hw hF rfl rfl rfl zbe (zbb (jL Tryz.underlying5));obtain⟨b3,e3⟩:=OpensW.field (F:=F+1) (o:=3) (i:=3) Tryz.underlying27 h hw hF rfl rfl rfl zbe (zbb (jL Tryz.underlying5));obtain⟨p,cap,l,e4,hll,_,hQ,b,o,hp,hc⟩:=OpensW.field (F:=F+1) (o:=4) (i:=4) Tryz.underlying27 h hw hF rfl rfl rfl (cC 25 1 (by kernel_rfl))
   (zcs (F:=F) ((.mk 0 0 0 0 [],none,0):Cnd×OA×Nat) (f:=fun x=>j5 x.1 x.2.1 x.2.2) (Q:=fun x=>KidsV w.heap.size w x.2.1 x.1.kids) (sz:=5) (by decide) Tryz.underlying25 (by kernel_rfl) (by kernel_rfl) ih)
  refine⟨(.mk b0 b1 b2 b3 (l.map (·.1)),p,cap),?_,?_⟩
  ·refine .mk p (l.map (·.1)) (by rw [QI];have:=hll.2;rw [show Tryz.prog.bytesOf 27=32 by kernel_rfl] at this;exact this) b o (by rw [QI];exact hp) (fun i=>(l.getD i (.mk 0 0 0 0 [],none,0)).2.1) (fun i=>(l.getD i (.mk 0 0 0 0 [],none,0)).2.2) (fun i hi=>?_) (fun i hi=>?_)
   ·have hi':i<l.length:=(by rw [QI] at hi;exact hi);have e:l.getD i (.mk 0 0 0 0 [],none,0)=l[i]:=(by rw [gDe,gE hi'];rfl);rw [e,Qn];exact hc i hi'
   ·have hi':i<l.length:=(by rw [QI] at hi;exact hi);have e:l.getD i (.mk 0 0 0 0 [],none,0)=l[i]:=(by rw [gDe,gE hi'];rfl);rw [e,Qn];exact hQ _ (gM hi')
  ·have h0:cs=cs.drop 0:=rfl;have h9:cs.drop 5=[]:=JB (by omega);rw [h0,cut cs 0 1 1 rfl,cut cs 1 1 2 rfl,cut cs 2 1 3 rfl,cut cs 3 1 4 rfl,cut cs 4 1 5 rfl,e0,e1,e2,e3,e4,h9];simp [j5,Cnd.kind,Cnd.thread,Cnd.n,Cnd.val,Cnd.kids]
end
section
variable {H:Type} {enc:TypeId×Value->H} {w:Wd} {base:Nat} {spare:Nat->Bool} {held:Bool} {F:Nat}
theorem zkq:OpensW enc PG w base spare held F 29 fun cs=>∃ p:Prg,PrgX w.heap.size w cs p/\∃ p3 c3,cs[3]?=some (.slice p3 p.threads.length c3)/\p.threads.length<=c3:=fun n hn cs x h hw=>by
 have hF:n<=n+1:=Nat.le_succ n;have hl:cs.length=10:=by
  obtain⟨xs,m,_,_,hl,_,_⟩:=KH Tryz.underlying29 h;rw [cC 29 10 (by kernel_rfl)] at hl;exact hl
 obtain⟨nm,k0,e0⟩:=OpensW.field (F:=n+1) (o:=0) (i:=0) Tryz.underlying29 h hw hF rfl rfl rfl (cC 9 1 (by kernel_rfl)) (zgT Tryz.underlying9);obtain⟨p1,c1,l1,e1,k1,kc1,q1,r1⟩:=OpensW.field (F:=n+1) (o:=1) (i:=1) Tryz.underlying29 h hw hF rfl rfl rfl (cC 22 1 (by kernel_rfl))
  (zcs (F:=n) ([]:List UInt8) (f:=zkv.enc) (Q:=fun s=>s.length<=140737488351232) (sz:=1) (by decide) Tryz.underlying22 (by kernel_rfl) (by kernel_rfl) (zgT Tryz.underlying9))
 obtain⟨p2,c2,l2,e2,k2,kc2,q2,r2⟩:=OpensW.field (F:=n+1) (o:=2) (i:=2) Tryz.underlying29 h hw hF rfl rfl rfl (cC 23 1 (by kernel_rfl))
  (zcs (F:=n) (0:UInt8) (f:=zR.enc) (Q:=fun _=>True) (sz:=1) (by decide) Tryz.underlying23 zbe (by kernel_rfl) (zbb (fun fuel cs x h=>by
   obtain⟨b,hb⟩:=jL Tryz.underlying5 fuel cs x h;exact⟨b,trivial,hb⟩)))
 obtain⟨p3,c3,l3,e3,k3,kc3,q3,r3⟩:=OpensW.field (F:=n+1) (o:=3) (i:=3) Tryz.underlying29 h hw hF rfl rfl rfl (cC 24 1 (by kernel_rfl))
  (zcs (F:=n) (([],none,0):zen) (f:=zhN.enc) (Q:=fun x=>x.1.length<=140737488351232/\RowB zA w.heap.size w x.2.1 x.1) (sz:=1) (by decide) Tryz.underlying24 (by kernel_rfl) (by kernel_rfl) zlS)
 obtain⟨b4,e4⟩:=OpensW.field (F:=n+1) (o:=4) (i:=4) Tryz.underlying29 h hw hF rfl rfl rfl zbe (zbb (jL Tryz.underlying5));obtain⟨⟨c,p4,c4⟩,hk,e5⟩:=OpensW.field (F:=n+1) (o:=5) (i:=5) Tryz.underlying29 h hw hF rfl rfl rfl (cC 27 5 (by kernel_rfl)) (zgU (n+1));have hc3:cs[3]?=some (.slice p3 (l3.map (·.1)).length c3):=by
  have:=Gd (fun l=>l[0]?) e3;simpa using this
 refine⟨⟨nm,l1,l2,l3.map (·.1),b4,c⟩,⟨⟨⟨k0,k1.1,q1,k2.1,by rw [QI];exact k3.1,fun l hl=>?_⟩,p1,c1,p2,c2,p3,c3,p4,c4,?_,ze9 r1,ze9 r2,⟨l3,rfl,ze9 r3,fun x hx=>(q3 x hx).2⟩,hk,kc1⟩,⟨p3,c3,hc3,l3,rfl,ze9 r3,fun x hx=>⟨(q3 x hx).2,fun hne a ha=>?_⟩⟩,⟨p2,c2,?_,ze9 r2⟩⟩,p3,c3,hc3,by rw [QI];exact kc3⟩
 ·obtain⟨x,hx,rfl⟩:=UF.1 hl;exact (q3 x hx).1
 ·have h0:cs=cs.drop 0:=rfl;have h9:cs.drop 10=[]:=JB (by omega);rw [h0,cut cs 0 1 1 rfl,cut cs 1 1 2 rfl,cut cs 2 1 3 rfl,cut cs 3 1 4 rfl,cut cs 4 1 5 rfl,cut cs 5 5 10 rfl,e0,e1,e2,e3,e4,e5,h9];simp [jp,j5]
 ·have hl:=List.length_pos_iff.2 hne;obtain⟨b,o,e,hb,_⟩:=zdB (q3 x hx).2 hl;rw [ha] at e;obtain rfl:=Ua e;exact hb
 ·have:=Gd (fun l=>l[0]?) e2;simpa using this
theorem zn8 {a:Array Value} {d:DataW H} {p:List MemPlace} (h:DataW.Trod enc PG w base spare held 29 (.agg a) d p) (hw:Wgt PG 29 d):∃ p:Prg,PrgX w.heap.size w a.toList p/\∃ p3 c3,a.toList[3]?=some (.slice p3 p.threads.length c3)/\p.threads.length<=c3:=by
 obtain⟨fuel,h⟩:=h;exact zkq (F:=fuel+1) fuel (Qx _) _ _ h hw
theorem zn9 {a:Array Value} {d:DataW H} {p:List MemPlace} (h:DataW.Trod enc PG w base spare held 29 (.agg a) d p) (hw:Wgt PG 29 d):∃ p:Prg,PrgX w.heap.size w a.toList p:=by
 obtain⟨p,h,_⟩:=zn8 h hw;exact⟨p,h⟩
end
theorem flatMap_map {α:Type} (f:α->Value):∀ l:List (List α),l.flatMap (fun x=>x.map f)=l.flatten.map f
 | []=>rfl
 | a::l=>by rw [KO,flatMap_map f l,List.flatten_cons,QL]
structure GlobP (W:Wd):Prop where
 t32:Tz32M W
 t64:Tz64M W
 needs:GlobC W
abbrev za8 : List (String × DataW Unit) := [("math/bits.deBruijn32tab", Rows.laid_math_bits_deBruijn32tab), ("math/bits.deBruijn64tab", Rows.laid_math_bits_deBruijn64tab), ("seisin/check.needs", Rows.laid_seisin_check_needs)]
theorem zcd {W:Wd} (h:laidMetH PG za8 W) (hsh:W.ShapedOpen PG):GlobP W:=by
 have h0:laidMet PG za8 W:=h;have h1:=h0.tail;have h2:=h1.tail;have t32:Tz32M W:=by
  obtain⟨ps,⟨g',t',cs,fuel,p,q,hg',ht',hv,hd,_,_⟩,_⟩:=h0
  obtain rfl := Ua ((show Tryz.prog.globalNamed "math/bits.deBruijn32tab" = some 2 by kernel_rfl).symm.trans hg')
  obtain rfl:=Ua ((show (Tryz.prog.globals[2]?).map (·.type)=some 268 by kernel_rfl).symm.trans ht');obtain⟨bs,h1,h2,h3⟩:=zgV Tryz.underlying268 Tryz.underlying5 (by kernel_rfl) (by kernel_rfl) hd;have hbs:bs=zh1:=by
   have e:(Rows.laid_math_bits_deBruijn32tab:DataW Unit) = .agg (zh1.map fun b => .lit (.int .u8 b.toNat)):=rfl;exact zg7 (DataW.agg.inj (h3.symm.trans e))
  subst hbs;refine zaB fun i v hvv=>?_;have hc:=World.var?_cell hg' hv i;rw [<- hvv,<- h2];simpa using hc
 have t64:Tz64M W:=by
  obtain⟨ps,⟨g',t',cs,fuel,p,q,hg',ht',hv,hd,_,_⟩,_⟩:=h1
  obtain rfl := Ua ((show Tryz.prog.globalNamed "math/bits.deBruijn64tab" = some 1 by kernel_rfl).symm.trans hg')
  obtain rfl:=Ua ((show (Tryz.prog.globals[1]?).map (·.type)=some 255 by kernel_rfl).symm.trans ht');obtain⟨bs,h1,h2,h3⟩:=zgV Tryz.underlying255 Tryz.underlying5 (by kernel_rfl) (by kernel_rfl) hd;have hbs:bs=zh0:=by
   have e:(Rows.laid_math_bits_deBruijn64tab:DataW Unit) = .agg (zh0.map fun b => .lit (.int .u8 b.toNat)):=rfl;exact zg7 (DataW.agg.inj (h3.symm.trans e))
  subst hbs;refine zaB fun i v hvv=>?_;have hc:=World.var?_cell hg' hv i;rw [<- hvv,<- h2];simpa using hc
 have needs:GlobC W:=by
  obtain⟨ps,⟨g',t',cs,fuel,p,q,hg',ht',hv,hd,_,_⟩,_⟩:=h2
  obtain rfl := Ua ((show Tryz.prog.globalNamed "seisin/check.needs" = some 0 by kernel_rfl).symm.trans hg')
  obtain rfl:=Ua ((show (Tryz.prog.globals[0]?).map (·.type)=some 243 by kernel_rfl).symm.trans ht');obtain⟨bs,h1,h2,h3⟩:=zgV Tryz.underlying243 Tryz.underlying5 (by kernel_rfl) (by kernel_rfl) hd;have hbs:bs=zeG:=by
   match bs,h1 with
   | [b0,b1,b2,b3,b4,b5,b6,b7,b8],_ =>
    simp only [Rows.laid_seisin_check_needs,Ux,List.map_nil,DataW.agg.injEq,QG,DataW.lit.injEq,Lit.int.injEq,true_and,Gc] at h3;simp only [zeG,QG,Gc];obtain⟨a0,a1,a2,a3,a4,a5,a6,a7,a8⟩:=h3;refine⟨?_,?_,?_,?_,?_,?_,?_,?_,?_⟩ <;> (apply Ub.1;simp;omega)
  subst hbs;refine zaB fun i v hvv=>?_;have hc:=World.var?_cell hg' hv i;rw [<- hvv,<- h2];simpa using hc
 exact⟨t32,t64,needs⟩
def zsy:DataW Unit->List Value
 | .lit (.int k n)=>[.int k n]
 | .lit (.string s)=>[.string ⟨s.toArray⟩]
 | _=>[]
def zsx:DataW Unit->List Value
 | .agg ps=>ps.flatMap zsy
 | x=>zsy x
def zpE:DataW Unit->List Value
 | .agg ps=>ps.flatMap zsx
 | x=>zsx x
def zo5 (h:Array Obj) (g:Nat) (cs:List Value):Array Obj:=h.modify g fun
 | .cells _ t frozen => .cells cs.toArray t frozen
 | o=>o
def zt9 (h:Array Obj):Array Obj :=
 let h1:=zo5 h 2 (zpE Rows.laid_math_bits_deBruijn32tab)
 let h2:=zo5 h1 1 (zpE Rows.laid_math_bits_deBruijn64tab)
 zo5 h2 0 (zpE Rows.laid_seisin_check_needs)
noncomputable def zhc (os:Os):Wd :=
 { World.holding PG os ⟨#[],#[],[]⟩ with heap:=zt9 (World.holding PG os ⟨#[],#[],[]⟩).heap }
theorem zhb (os:Os) (args:Array Value):laidMetH PG za8 ((zhc os).forCall (fun _ _=>0) ⟨#[],args,[]⟩).memory:=by
 show laidMet PG za8 _;exact laidMet_of_run' 8 (by kernel_rfl) (by kernel_rfl)
end Go.Proofs.YtkpaomeeknegpaaGreatDoor
