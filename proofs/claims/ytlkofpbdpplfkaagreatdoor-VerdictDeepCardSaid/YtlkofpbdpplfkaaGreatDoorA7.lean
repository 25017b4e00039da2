/- Contracts of functions, and plain facts, for the law that the last text of this claim proves. -/
import Derived.Test.YtlkofpbdpplfkaaGreatDoorA6
import Derived.Test.YtlkofpbdpplfkaaGreatDoorA5
import Derived.Test.YtlkofpbdpplfkaaGreatDoorA2
import Derived.Test.YtlkofpbdpplfkaaGreatDoorRows
import Derived.ProofKit
import Derived.OpenShut
import Derived.LaidLaws
import Derived.Below
import Derived.HandedShaped
import Derived.KernelRfl
import Derived.WalkKit
import Derived.ChangeOld
import Derived.SevenTiedAt
import Derived.LaidHandle
import Derived.Stop.LaidErr
import Derived.Lib.LaidTab
import Derived.SizedLaws
set_option linter.unusedSimpArgs false
set_option linter.unusedVariables false
namespace Go.Proofs.YtlkofpbdpplfkaaGreatDoor
open Go.Vc Go.RowKit Go.Sei
structure RelOk (n:Nat) (r:RelD):Prop where
 n:r.n=n
 ok:okR r=true
 w:WrdR r.to
section
variable {n:Nat} {r a b:RelD}
theorem RelOk.le (h:RelOk n r):n<=48:=by
 have:=(za4 h.ok).2.1;have:=h.n;omega
theorem zqM (hn:r.n=n) (h48:n<=48) (h:∀ i j,i<48->hasM r i j=true->i<n/\j<n):okR r=true:=by
 unfold okR;rw [bAT,bAT,dE,dE,List.all_eq_true];refine⟨by omega,by omega,fun i hi=>?_⟩;have hi:=List.mem_range.1 hi;unfold zdJ;rw [bAT,Bool.or_eq_true,dE,dE,dE];refine⟨?_,?_⟩
 ·rw [zjx,zfT];apply Nat.eq_of_testBit_eq;intro j;rw [Nat.zero_testBit];by_cases hj:j<64
  ·rw [zfy (zcY _) hj,zhf (by omega) (by omega) hj]
   cases hb:(r.to i).testBit j with
   | false=>rfl
   | true =>
    have:=(h i j hi hb).2;rw [decide_eq_true (by omega)];rfl
  ·have:=Nat.testBit_lt_two_pow (nL (Nat.lt_of_le_of_lt (show zb4 (r.to i) (allN r.n)<=_ from Nat.and_le_right) (show 18446744073709551615-allN r.n<2^64 by omega)) (Nat.pow_le_pow_right (show 0<2 by decide) (show 64<=j by omega)));exact this
 ·by_cases hin:i<n
  ·exact .inl (by omega)
  ·refine .inr (Nat.eq_of_testBit_eq fun j=>?_);rw [Nat.zero_testBit]
   cases hb:(r.to i).testBit j with
   | false=>rfl
   | true=>exact absurd (h i j hi hb).1 hin
theorem RelOk.of (hn:r.n=n) (h48:n<=48) (h:∀ i j,i<48->hasM r i j=true->i<n/\j<n) (hw:WrdR r.to):RelOk n r:=⟨hn,zqM hn h48 h,hw⟩
theorem zij (p:Nat->Bool):∀ k j,(rowP k p).testBit j=(decide (j<k)&&p j)
 | 0,j=>by
  show (0:Nat).testBit j=_;simp
 | k+1,j=>by
  rw [zdV]
  split
  ·rename_i h;rw [Nat.testBit_or,zij p k j,zlu];by_cases e:j=k
   ·subst e;simp [h]
   ·rw [decide_eq_false e,Bool.or_false];congr 1;exact decide_eq_decide.2 (by omega)
  ·rename_i h;rw [zij p k j];by_cases e:j=k
   ·subst e;have:p j=false:=(by simpa using h);rw [this,Bool.and_false,Bool.and_false]
   ·congr 1;exact decide_eq_decide.2 (by omega)
theorem zmz {f:Nat->Nat} {i j:Nat}:hasM (zcb n f) i j=(decide (i<n)&&(f i).testBit j):=by
 unfold hasM zcb;dsimp only
 split
 ·rename_i h;rw [decide_eq_true h];rfl
 ·rename_i h;rw [decide_eq_false h,Nat.zero_testBit];rfl
theorem zno {p:Nat->Nat->Bool} {i j:Nat}:hasM (zdK n p) i j=(decide (i<n)&&(decide (j<n)&&p i j)):=by
 unfold zdK;rw [zmz,zij]
theorem RelOk.pick (h:n<=48) (p:Nat->Nat->Bool):RelOk n (zdK n p):=by
 refine .of rfl h (fun i j _ hb=>?_) (zeU (by omega));rw [zno] at hb;simp only [bAT,dE] at hb;exact⟨hb.1,hb.2.1⟩
end
structure WX (x:ExD):Prop where
 po:WrdR x.po.to
 rf:WrdR x.rf.to
 co:WrdR x.co.to
 dt:WrdR x.dt.to
 ct:WrdR x.ct.to
 rm:WrdR x.rm.to
structure XOk (x:ExD):Prop where
 n:x.ev.length<=48
 po:RelOk x.ev.length x.po
 rf:RelOk x.ev.length x.rf
 co:RelOk x.ev.length x.co
 dt:RelOk x.ev.length x.dt
 ct:RelOk x.ev.length x.ct
 rm:RelOk x.ev.length x.rm
 ev:zbw x.ev (zcn x.ev)=true
 poE:zel x.po (poR x.ev)=true
 rfR:zc5 x=true
 coR:zdb x (zcn x.ev)=true
 dep:zcA x=true
theorem zlo {X:World} {L:Nat} {r:RelD} (h:RelH X L r):∀ i,i<48->X.cell? ⟨L,0+1+i*1,none⟩=some (s64 (r.to i)):=by
 have hR:RelAt X L 0 102 [] [] r:=⟨rfl,by simpa using h⟩;exact fun i hi=>hR.cell hi
section
variable {b c:Nat} {x:ExD} {q:Option Addr} {w:World}
theorem zq2 {r:RelD} {a d R B:Nat} (fR:RelH w R r) (hr:WrdR r.to) (fB:w.heap[B]?=some (.cells #[At0 b] 162 (0,0))) (fx:ExH w b x q c) (hv:ExV w x q) (ha:a<x.ev.length) (hd:d<x.ev.length) :
  CB 228 #[i64 (a:Nat),i64 (d:Nat),At0 R,At0 B] w (.bool (hasM r a d && !decide ((evA x a).th=(evA x d).th))):=by
 refine cofE 29 [i64 (a:Nat),i64 (d:Nat),At0 R,At0 B] Tryz.func228 ?_;have hn:=hv.n;obtain⟨bq,oq,hqe,hb,hat⟩:=zdC hv.ev ha;obtain⟨bq2,oq2,hqe2,hb2,hat2⟩:=zdC hv.ev hd;rw [hqe] at hqe2;simp only [Option.some.injEq,Addr.mk.injEq,and_true] at hqe2;rw [<- hqe2.1,<- hqe2.2] at hat2;subst hqe;have dw:Bw w w.drew:=(Below.refl _ _).drew;refine DrawE.ord [] [0,1,2,3,4,5,6,7,8,9,10,11,12,13,14,15,16,17,18,19,20,21,22] (by kernel_rfl) ?_;refine cmo (zay (zlo (hdr fR)) hr (by omega) (by omega)) ?_;rintro e _ ⟨rfl,rfl⟩;refine⟨Below.refl _ _,?_⟩;refine biE (fun h1=>?_) fun h1=>?_
 ·have h1:hasM r a d=true:=h1;refine⟨At0 b,zac (zaa (hdr fB)) (i:=0) rfl,?_⟩;refine⟨_,zca (zaa (hdr fx)),?_⟩;refine⟨a,rfl,ha,?_⟩;refine⟨i64 (evA x a).th,by have:=zac (zar dw hat) (i:=0) (v:=i64 (evA x a).th) rfl;exact this,?_⟩;refine⟨At0 b,zac (zaa (hdr fB)) (i:=0) rfl,?_⟩;refine⟨_,zca (zaa (hdr fx)),?_⟩;refine⟨d,rfl,hd,?_⟩;refine⟨i64 (evA x d).th,by have:=zac (zar dw hat2) (i:=0) (v:=i64 (evA x d).th) rfl;exact this,?_⟩;exact⟨rb (by rw [h1,Bool.true_and]),dw⟩
 ·have h1:hasM r a d=false:=h1;exact⟨rb (by rw [h1,Bool.false_and]),dw⟩
theorem zmB {a d B:Nat} (fB:w.heap[B]?=some (.cells #[At0 b] 162 (0,0))) (fx:ExH w b x q c) (hv:ExV w x q) (ha:a<x.ev.length) (hd:d<x.ev.length) :
  CB 158 #[i64 (a:Nat),i64 (d:Nat),At0 B] w (.bool (hasM x.po a d&&zdH x a d)):=by
 refine cofE 18 [i64 (a:Nat),i64 (d:Nat),At0 B] Tryz.func158 ?_;have hn:=hv.n;refine⟨At0 b,zac (zaa fB) (i:=0) rfl,?_⟩;refine cmo (zay (zgw (zaa fx) (zoA x q c)) hv.po (by omega) (by omega)) ?_;rintro e _ ⟨rfl,rfl⟩;refine biE (fun h1=>?_) fun h1=>?_
 ·have h1:hasM x.po a d=true:=h1;refine⟨At0 b,zac (zaa fB) (i:=0) rfl,?_⟩;refine cmo (zoo (zaa fx) hv.ev ha hd) ?_;rintro e X ⟨rfl,hb⟩;exact⟨rb (by rw [h1,Bool.true_and]),hb⟩
 ·have h1:hasM x.po a d=false:=h1;exact⟨rb (by rw [h1,Bool.false_and]),Below.refl _ _⟩
theorem zrZ {r:RelD} (fx:ExH w b x q c) (hv:ExV w x q) (hr:WrdR r.to) (hn:r.n=x.ev.length) :
  CB 166 #[At0 b,.agg (relC r).toArray] w (.agg (relC (extM x r)).toArray):=by
 refine cofM 9 [At0 b,.agg (relC r).toArray] (.c .p (.c .p .p)) Tryz.func166 ?_;obtain⟨L,hL⟩:=nm (w.heap.size);have h19:=hv.n;refine⟨Unit,fun _=>⟨[(2,At0 L),(3,At0 (L+1)),(4,At0 (L+2))],[]⟩,fun _ X=>X.heap[L]?=some (.cells #[At0 b] 162 (0,0))/\RelH X (L+1) r/\RelH X (L+2) zav/\Bw w X,?_,?_⟩
 ·have s1:=wz w (.cells #[At0 b] 162);have s2:=wz (w.alloc (.cells #[At0 b] 162)) (.cells (relC r).toArray 102);have b1:Bw w (w.alloc (.cells #[At0 b] 162)):=zba w _;have b2:=b1.alloc b1.size (.cells (relC r).toArray 102);have h1:=hnew w (.cells #[At0 b] 162);have h2:=hnew (w.alloc (.cells #[At0 b] 162)) (.cells (relC r).toArray 102);have h3:=hnew ((w.alloc (.cells #[At0 b] 162)).alloc (.cells (relC r).toArray 102)) (.cells (relC zav).toArray 102);rw [s1] at h2 s2;rw [s2] at h3;refine⟨(),⟨.cons (by rw [hL];rfl) (.cons (by rw [hL,<- s1];rfl) (.cons (by rw [hL,<- s2];rfl) .nil)),rfl⟩,by rw [hL];exact hold _ (hold _ h1),by rw [hL];exact hold _ h2,by rw [hL];exact h3,b2.alloc b2.size _⟩
 rintro _ X ⟨fB,fR,f0,hbX⟩;have fX:=zab hbX fx;have hvX:=hv.below hbX;refine⟨Unit,fun _=>⟨[(4,At0 (L+2))],[]⟩,fun _ Y=>RelH Y (L+2) (extM x r)/\Bw w Y,?_,?_⟩
 ·refine⟨i64 r.n,by have:=zac (zaa fR) (i:=0) (v:=i64 r.n) rfl;exact this,?_⟩;have en:extM x r=zdK x.ev.length fun a d=>hasM r a d && !decide ((evA x a).th=(evA x d).th):=by
   unfold extM;rw [hn];rfl
  rw [hn];refine cmo (zlx (n:=x.ev.length) (caps := #[At0 (L+1),At0 L]) (g:=228) (p:=fun a d=>hasM r a d && !decide ((evA x a).th=(evA x d).th)) (by omega) (by kernel_rfl) fun a d Z ha hd hb=>zq2 (zab hb fR) hr (zab hb fB) (zab hb fX) (hvX.below hb) ha hd) ?_;rintro e Y ⟨rfl,hbY⟩;rw [<- en];have f0:=zab hbY f0;refine zal (v := .agg (relC (extM x r)).toArray) k102 f0 (zad _) (zad _) (zau _) ?_;exact⟨(),(cvE rfl rfl),zaj f0,zag ((zst hbX hbY)) (by omega) _⟩
 rintro _ Y ⟨f0,hbY⟩;exact⟨relC (extM x r),zad _,zaa f0,rfl,hbY⟩
end
section
variable {b c:Nat} {x:ExD} {q:Option Addr} {w:World}
theorem znP {md:UInt8} (fx:ExH w b x q c) (hv:ExV w x q) (hT:Tz64M w):CB 229 #[At0 b,u8 md] w (.agg (relC (zaB x md)).toArray):=by
 refine cofM 70 [At0 b,u8 md] (.c .p (.c .p (.c .p (.c .p (.c .p (.c .p (.c .p .p))))))) Tryz.func229 ?_;obtain⟨L,hL⟩:=nm (w.heap.size);have hn:=hv.n;obtain⟨n,hnn⟩:=nm (x.ev.length);refine⟨Unit,fun _=>⟨[(0,At0 b),(1,u8 md),(4,At0 L)],[]⟩,fun _ X=>RelH X L zav/\Bw w X,⟨(),⟨.cons rfl (.cons rfl (.cons (by rw [hL];rfl) .nil)),rfl⟩,by rw [hL];exact hnew w _,(zba w _)⟩,?_⟩;rintro _ X ⟨f0,hbX⟩;refine⟨Unit,fun _=>⟨[(0,At0 b),(1,u8 md),(4,At0 L),(5,i64 n)],[]⟩,fun _ Y=>X=Y,?_,?_⟩
 ·refine⟨_,zac (zaa (zab hbX fx)) (i:=0) rfl,?_⟩;exact⟨(),⟨.cons rfl (.cons rfl (.cons rfl (.cons (by rw [hnn];rfl) .nil))),rfl⟩,rfl⟩
 rintro _ _ rfl;refine⟨Unit,fun _=>⟨[(0,At0 b),(1,u8 md),(4,At0 L),(5,i64 n),(6,.slice none 0 0)],[]⟩,fun _ Y=>X=Y,⟨(),(cvE rfl rfl),rfl⟩,?_⟩;rintro _ _ rfl;obtain⟨pr,hpr⟩:∃ pr:Nat->Bool,pr=fun i=>decide ((evA x i).k=3)&&decide ((evA x i).m=md):=⟨_,rfl⟩;obtain⟨B,hB⟩:=nm (X.heap.size);refine⟨Option Addr×Nat,fun s=>⟨[(0,At0 b),(4,At0 L),(5,i64 n),(6,.slice s.1 ((List.range n).filter pr).length s.2)],[]⟩,fun s V=>OwnS natE 3 B V s.1 s.2 ((List.range n).filter pr)/\Below B X V,?_,?_⟩
 ·refine⟨_,zac (zaa (zab hbX fx)) (i:=0) rfl,?_⟩;refine⟨Nat×Option Addr×Nat,fun s=>⟨[(0,At0 b),(1,u8 md),(4,At0 L),(5,i64 n),(6,.slice s.2.1 ((List.range s.1).filter pr).length s.2.2),(23,.slice q x.ev.length c),(24,i64 x.ev.length),(25,i64 (s.1:Nat))],[]⟩,fun s V=>s.1<=x.ev.length/\OwnS natE 3 B V s.2.1 s.2.2 ((List.range s.1).filter pr)/\Below B X V,fun s=>x.ev.length-s.1,(0,none,0),
   (cvE rfl rfl),⟨Nat.zero_le _,OwnS.nil,by rw [hB];exact Below.refl _ _⟩,?_⟩
  rintro⟨k,ps,cs⟩ V ⟨hk,oV,hbV⟩;dsimp only at hk oV ⊢;have hVs:B<=V.heap.size:=by have:=hbV.size;omega
  refine biE (fun hc=>?_) fun hc=>?_
  ·have hc:(k:Int)<(x.ev.length:Int):=dT hc;have hkl:k<x.ev.length:=by omega
   have hbwV:=hbX.trans (hbV.mono (by rw [hB];exact hbX.size));obtain⟨bq,oq,hqe,hb,hat⟩:=zdC (hv.ev.below hbwV) hkl;have hfl:(List.range (k+1)).filter pr=(List.range k).filter pr++if pr k=true then [k] else []:=by
    rw [List.range_succ,List.filter_append,List.filter_cons,List.filter_nil]
   have hprk:pr k=(decide ((evA x k).k=3)&&decide ((evA x k).m=md)):=by rw [hpr]
   have hll2:((List.range k).filter pr).length<=k:=by
    have:=List.length_filter_le pr (List.range k);rw [List.length_range] at this;exact this
   obtain⟨e,he⟩:=nm (evA x k);rw [<- he] at hat hprk;have eq0:some (Value.slice q x.ev.length c)=some (Value.slice (some ⟨bq,oq,none⟩) x.ev.length c):=by rw [hqe]
   subst hqe;refine⟨k,rfl,hkl,?_⟩;refine⟨evE.enc e,rfl,hat,hb,?_⟩;refine zaq (X:=V) (v := .agg (evE.enc e).toArray) k225 rfl rfl (List.all_eq_true.2 fun u hu=>evE.one e u hu) fun U hbU fU sU=>?_;have fU:U.heap[V.heap.size]?=some (.cells (evE.enc e).toArray 225 (0,0)):=fU;have oU:=oV.below hbU;have hbU2:=hbV.trans (hbU.mono hVs);have hUs:B<=U.heap.size:=by have:=hbU.size;omega
   have skip:pr k=false->(k+1<=x.ev.length/\OwnS natE 3 B U ps cs ((List.range (k+1)).filter pr)/\Below B X U):=fun h=>⟨hkl,by rw [hfl,h];simpa using oU,hbU2⟩;have skipE:pr k=false->((List.range (k+1)).filter pr).length=((List.range k).filter pr).length:=fun h=>by rw [hfl,h];simp
   refine⟨u8 e.k,zac (zaa fU) (i:=1) rfl,?_⟩;refine biE (fun h1=>?_) fun h1=>?_
   ·have h1:e.k=3:=zbd.1 (dT h1);refine⟨u8 e.m,zac (zaa fU) (i:=4) rfl,?_⟩;refine biE (fun h2=>?_) fun h2=>?_
    ·have h2:e.m=md:=zbd.1 (dT h2);have hp1:pr k=true:=(by rw [hprk,decide_eq_true h1,decide_eq_true h2];rfl);rw [if_pos hp1] at hfl;refine⟨⟨by decide,by decide,rfl⟩,natE.enc k,rfl,?_⟩;have hb2:Bw U (U.alloc (.cells (natE.enc k).toArray 3)):=zba _ _;have sb2:=hb2.size;unfold opsE zcp;show SatR _ _;refine appI (oU.below hb2) (zaV natE k) (by omega) (by omega) fun p' c' S oS gS hat2=>?_;rw [zb8] at gS;rw [<- hfl] at oS ⊢;refine nxI (by omega) ?_;exact⟨(k+1,p',c'),(cvE rfl rfl),⟨hkl,oS,hbU2.trans ((hb2.mono hUs).trans (zaW (oU.below hb2) (by omega) (Nat.le_refl _) gS))⟩,zdc (by omega)⟩
    ·have h2:¬ e.m=md:=fun e2=>(dF h2) (by rw [e2]);have hp0:pr k=false:=(by rw [hprk,decide_eq_false h2,Bool.and_false]);refine nxI (by omega) ?_;exact⟨(k+1,ps,cs),⟨.cons rfl (.cons rfl (.cons rfl (.cons rfl (.cons (by show _=some (Value.slice ps ((List.range (k+1)).filter pr).length cs);rw [skipE hp0];rfl) (.cons rfl (.cons rfl (.cons rfl .nil))))))),rfl⟩,skip hp0,zdc (by omega)⟩
   ·have h1:¬ e.k=3:=fun e2=>(dF h1) (by rw [e2];rfl);have hp0:pr k=false:=(by rw [hprk,decide_eq_false h1];rfl);refine brF ?_;refine nxI (by omega) ?_;exact⟨(k+1,ps,cs),⟨.cons rfl (.cons rfl (.cons rfl (.cons rfl (.cons (by show _=some (Value.slice ps ((List.range (k+1)).filter pr).length cs);rw [skipE hp0];rfl) (.cons rfl (.cons rfl (.cons rfl .nil))))))),rfl⟩,skip hp0,zdc (by omega)⟩
  ·have hc:¬ (k:Int)<(x.ev.length:Int):=dF hc;obtain rfl:k=x.ev.length:=by omega
   rw [<- hnn] at oV ⊢;exact⟨(ps,cs),(cvE rfl rfl),oV,hbV⟩
 rintro⟨ps,cs⟩ V ⟨oV,hbV⟩;dsimp only at oV ⊢;have hVs:B<=V.heap.size:=by have:=hbV.size;omega
 have hbwV:=hbX.trans (hbV.mono (by rw [hB];exact hbX.size));have hmask:orG ((List.range n).filter pr)=zcD x md:=by rw [hpr,hnn];rfl
 have hlt64:∀ i∈(List.range n).filter pr,i<64:=fun i hi=>by
  have:=List.mem_range.1 (List.mem_filter.1 hi).1;omega
 have hlen:((List.range n).filter pr).length<=n:=by
  have:=List.length_filter_le pr (List.range n);rw [List.length_range] at this;exact this
 refine⟨Unit,fun _=>⟨[(0,At0 b),(4,At0 L),(5,i64 n),(9,s64 (zcD x md))],[]⟩,fun _ Y=>V=Y,?_,?_⟩
 ·refine cmo (Of_c oV.row hlt64 (by omega)) ?_;rintro e Y ⟨rfl,rfl⟩;rw [hmask];exact⟨(),(cvE rfl rfl),rfl⟩
 rintro _ _ rfl;have hm64:zcD x md<2^64:=by rw [<- hmask];exact zop hlt64
 replace f0:=zab (by subst hB;exact hbV) f0;have fV:=zab hbwV fx;have hvV:=hv.below hbwV;have hTV:=hT.below hbwV;clear oV hbX hbV hlen hlt64 hmask hpr hB hVs;clear B ps cs pr X;have idw:WrdR (idR n (zcD x md)).to:=fun i hi=>by
  unfold idR;exact zeb (fun i _ _=>Nat.lt_of_le_of_lt Nat.and_le_left hm64) i hi
 have hba:∀ (A:World) (o:Obj),Bw A (A.alloc o):=fun A o=>(zba _ _);refine⟨Nat,fun F=>⟨[(0,At0 b),(4,At0 L),(11,At0 F)],[]⟩,fun F Z=>RelH Z F (zbJ x.po (idR n (zcD x md))).1/\RelH Z L zav/\Bw w Z,?_,?_⟩
 ·have dV:Bw V V.drew:=(Below.refl _ _).drew;have put:∀ (W:World) (b3:Nat),Bw V W->RelH W b3 zav->V.heap.size<=b3->∀ {K:World->Prop},(∀ Y,(RelH Y b3 (zbJ x.po (idR n (zcD x md))).1/\RelH Y L zav/\Bw w Y)->K Y) ->
    SatR ((storeVar 102 ⟨b3,0,none⟩ (.agg (relC (zbJ x.po (idR n (zcD x md))).1).toArray)).run Tryz.prog W) fun _ w'=>K w':=by
   intro W b3 hW f3 g3 K k;refine zal (v := .agg (relC (zbJ x.po (idR n (zcD x md))).1).toArray) k102 f3 (zad _) (zad _) (zau _) ?_;have hL2:=hlt f0;exact k _ ⟨zaj f3,(zam (by omega)).trans (zab hW f0),zag ((zst hbwV hW)) (by have:=hbwV.size;omega) _⟩
  refine DrawE.treeQ [12] (.op 0 (.op 1 (.op 2 (.op 3 (.op 4 (.op 5 (.alt (.op 11 (.op 6 (.op 7 (.op 8 (.op 9 (.op 10 (.op 12 (.op 13 (.nil))))))))) (.op 6 (.alt (.op 11 (.op 7 (.op 8 (.op 9 (.op 10 (.op 12 (.op 13 (.nil)))))))) (.op 7 (.op 8 (.op 9 (.op 10 (.op 11 (.op 12 (.op 13 (.nil))))))))))))))))) (by kernel_rfl) ?_;refine⟨relC x.po,zad _,zbg (hdr fV) (i:=0) (by decide) rfl,hlt (hdr fV),?_⟩;refine And.intro ?_ ?_
  ·refine⟨hba _ _,?_⟩;have b1:=dV.alloc (Nat.le_refl _) (.cells (relC zav).toArray 102);refine cmo (Id_c (n:=n) (by omega) hm64) ?_;rintro e Y ⟨rfl,hbY⟩;refine⟨hbY,?_⟩;have b2:=zst b1 hbY;refine cmo (zdF hvV.po idw (hTV.below b2)) ?_;rintro e Z ⟨rfl,hbZ⟩;refine⟨hbZ,?_⟩;refine put Z V.heap.size ((zst b2 hbZ)) (zab hbZ (zab hbY (hnew V.drew _))) (Nat.le_refl _) ?_;exact fun Y hY=>⟨V.heap.size,(cvE rfl rfl),hY⟩
  refine cmo (Id_c (n:=n) (by omega) hm64) ?_;rintro e Y ⟨rfl,hbY⟩;refine⟨hbY,?_⟩;have b1:=zst dV hbY;refine And.intro ?_ ?_
  ·refine⟨hba _ _,?_⟩;have b2:=b1.alloc b1.size (.cells (relC zav).toArray 102);refine cmo (zdF hvV.po idw (hTV.below b2)) ?_;rintro e Z ⟨rfl,hbZ⟩;refine⟨hbZ,?_⟩;refine put Z Y.heap.size ((zst b2 hbZ)) (zab hbZ (hnew Y _)) b1.size ?_;exact fun V2 hV=>⟨Y.heap.size,(cvE rfl rfl),hV⟩
  ·refine cmo (zdF hvV.po idw (hTV.below b1)) ?_;rintro e Z ⟨rfl,hbZ⟩;refine⟨hbZ,?_⟩;have b2:=zst b1 hbZ;refine⟨hba _ _,?_⟩;refine put _ Z.heap.size (b2.alloc b2.size _) (hnew Z _) b2.size ?_;exact fun V2 hV=>⟨Z.heap.size,(cvE rfl rfl),hV⟩
 clear f0 fV hvV hTV hbwV;clear V;rintro F V ⟨f1,f0,hbV⟩;have fV:=zab hbV fx;have hTV:=hT.below hbV;have hFw:=zdS hv.po idw;have efen:(zbJ (zbJ x.po (idR n (zcD x md))).1 x.po).1=zaB x md:=by rw [hnn];rfl
 refine⟨Nat,fun G=>⟨[(4,At0 L),(13,At0 G)],[]⟩,fun G Z=>RelH Z G (zaB x md)/\RelH Z L zav/\Bw w Z,?_,?_⟩
 ·have dV:Bw V V.drew:=(Below.refl _ _).drew;have put:∀ (W:World) (b3:Nat),Bw V W->RelH W b3 zav->V.heap.size<=b3->∀ {K:World->Prop},(∀ Y,(RelH Y b3 (zaB x md)/\RelH Y L zav/\Bw w Y)->K Y) ->
    SatR ((storeVar 102 ⟨b3,0,none⟩ (.agg (relC (zaB x md)).toArray)).run Tryz.prog W) fun _ w'=>K w':=by
   intro W b3 hW f3 g3 K k;refine zal (v := .agg (relC (zaB x md)).toArray) k102 f3 (zad _) (zad _) (zau _) ?_;have hL2:=hlt f0;exact k _ ⟨zaj f3,(zam (by omega)).trans (zab hW f0),zag ((zst hbV hW)) (by have:=hbV.size;omega) _⟩
  refine DrawE.treeQ [10] (.op 0 (.op 1 (.op 2 (.op 3 (.op 4 (.alt (.op 9 (.op 5 (.op 6 (.op 7 (.op 8 (.op 10 (.op 11 .nil))))))) (.op 5 (.op 6 (.op 7 (.op 8 (.op 9 (.op 10 (.op 11 .nil))))))))))))) (by kernel_rfl) ?_;refine⟨relC _,zad _,zaa (hdr f1),hlt (hdr f1),?_⟩;refine⟨relC x.po,zad _,zbg (hdr fV) (i:=0) (by decide) rfl,hlt (hdr fV),?_⟩;refine And.intro ?_ ?_
  ·refine⟨hba _ _,?_⟩;have b1:=dV.alloc (Nat.le_refl _) (.cells (relC zav).toArray 102);refine cmo (zdF hFw hv.po (hTV.below b1)) ?_;rintro e Y ⟨rfl,hbY⟩;refine⟨hbY,?_⟩;rw [efen];refine put Y V.heap.size ((zst b1 hbY)) (zab hbY (hnew V.drew _)) (Nat.le_refl _) ?_;exact fun Y hY=>⟨V.heap.size,(cvE rfl rfl),hY⟩
  ·refine cmo (zdF hFw hv.po (hTV.below dV)) ?_;rintro e Y ⟨rfl,hbY⟩;refine⟨hbY,?_⟩;have b1:=zst dV hbY;refine⟨hba _ _,?_⟩;rw [efen];refine put _ Y.heap.size (b1.alloc b1.size _) (hnew Y _) b1.size ?_;exact fun V2 hV=>⟨Y.heap.size,(cvE rfl rfl),hV⟩
 rintro G Z ⟨f1,f0,hbZ⟩;refine⟨relC (zaB x md),zad _,zaa f1,hlt f1,?_⟩;refine zal (v := .agg (relC (zaB x md)).toArray) k102 f0 (zad _) (zad _) (zau _) ?_;exact⟨relC (zaB x md),zad _,zaa (zaj f0),rfl,zag hbZ (by omega) _⟩
end
section
variable {w:World} {b c:Nat} {x:ExD} {q:Option Addr} {f l s:RelD}
theorem zo9 {a d:Nat}:CB 259 #[At0 b,i64 (a:Nat),i64 (d:Nat)] w (.bool (zg0 1 x f l s a d)):=by
 refine cofE 7 [At0 b,i64 (a:Nat),i64 (d:Nat)] Tryz.func259 ?_;exact⟨rfl,Below.refl _ _⟩
theorem zo8 {a d:Nat}:CB 260 #[At0 b,i64 (a:Nat),i64 (d:Nat)] w (.bool (zg0 2 x f l s a d)):=by
 refine cofE 7 [At0 b,i64 (a:Nat),i64 (d:Nat)] Tryz.func260 ?_;exact⟨rfl,Below.refl _ _⟩
theorem zo7 {a d:Nat} (h:ScnV w b x q c f l s) (ha:a<x.ev.length) (hd:d<x.ev.length):CB 261 #[At0 b,i64 (a:Nat),i64 (d:Nat)] w (.bool (zg0 3 x f l s a d)):=by
 refine cofE 21 [At0 b,i64 (a:Nat),i64 (d:Nat)] Tryz.func261 ?_;have hn:=h.v.n;have hA:a<48:=by omega
 have hD:d<48:=by omega
 have hbw:=Below.refl w.heap.size w;refine cmo (zfg h ha) ?_;rintro e _ ⟨rfl,rfl⟩;refine biE (fun h1=>?_) fun h1=>?_
 ·have h1:isR x a=true:=h1;refine brT ?_;exact⟨rb (by show _=(isR x a||(isW x d||zcc x f a d));rw [h1];rfl),hbw⟩
 ·have h1:isR x a=false:=h1;refine cmo (zbi h hd) ?_;rintro e _ ⟨rfl,rfl⟩;refine biE (fun h2=>?_) fun h2=>?_
  ·have h2:isW x d=true:=h2;exact⟨rb (by show _=(isR x a||(isW x d||zcc x f a d));rw [h1,h2];rfl),hbw⟩
  ·have h2:isW x d=false:=h2;refine cmo (zmD h ha hd) ?_;rintro e _ ⟨rfl,rfl⟩;exact⟨rb (by show _=(isR x a||(isW x d||zcc x f a d));rw [h1,h2];rfl),hbw⟩
theorem zo6 {a d:Nat} (h:ScnV w b x q c f l s) (ha:a<x.ev.length) (hd:d<x.ev.length):CB 265 #[At0 b,i64 (a:Nat),i64 (d:Nat)] w (.bool (zg0 4 x f l s a d)):=by
 refine cofE 37 [At0 b,i64 (a:Nat),i64 (d:Nat)] Tryz.func265 ?_;have hn:=h.v.n;have hA:a<48:=by omega
 have hD:d<48:=by omega
 have hbw:=Below.refl w.heap.size w;refine cmo (zfg h ha) ?_;rintro e _ ⟨rfl,rfl⟩;refine biE (fun h1=>?_) fun h1=>?_
 ·have h1:isR x a=true:=h1;refine brT ?_;exact⟨rb (by show _=(isR x a||(zcc x f a d||(isW x d&&(zdH x a d||hasM s a d))));rw [h1];rfl),hbw⟩
 ·have h1:isR x a=false:=h1;refine cmo (zmD h ha hd) ?_;rintro e _ ⟨rfl,rfl⟩;refine biE (fun h2=>?_) fun h2=>?_
  ·have h2:zcc x f a d=true:=h2;exact⟨rb (by show _=(isR x a||(zcc x f a d||(isW x d&&(zdH x a d||hasM s a d))));rw [h1,h2];rfl),hbw⟩
  ·have h2:zcc x f a d=false:=h2;refine cmo (zbi h hd) ?_;rintro e _ ⟨rfl,rfl⟩;refine biE (fun h3=>?_) fun h3=>?_
   ·have h3:isW x d=true:=h3;refine cmo (zoo h.cells h.v.ev ha hd) ?_;rintro e Z4 ⟨rfl,hbZ4⟩;have h:=h.below hbZ4;have hbw:=zst hbw hbZ4;refine biE (fun h4=>?_) fun h4=>?_
    ·have h4:zdH x a d=true:=h4;exact⟨rb (by show _=(isR x a||(zcc x f a d||(isW x d&&(zdH x a d||hasM s a d))));rw [h1,h2,h3,h4];rfl),hbw⟩
    ·have h4:zdH x a d=false:=h4;refine cmo (zay h.stores h.ws hA hD) ?_;rintro e _ ⟨rfl,rfl⟩;exact⟨rb (by show _=(isR x a||(zcc x f a d||(isW x d&&(zdH x a d||hasM s a d))));rw [h1,h2,h3,h4];rfl),hbw⟩
   ·have h3:isW x d=false:=h3;exact⟨rb (by show _=(isR x a||(zcc x f a d||(isW x d&&(zdH x a d||hasM s a d))));rw [h1,h2,h3];rfl),hbw⟩
theorem zo5 {a d:Nat} (h:ScnV w b x q c f l s) (ha:a<x.ev.length) (hd:d<x.ev.length):CB 266 #[At0 b,i64 (a:Nat),i64 (d:Nat)] w (.bool (zg0 5 x f l s a d)):=by
 refine cofE 49 [At0 b,i64 (a:Nat),i64 (d:Nat)] Tryz.func266 ?_;have hn:=h.v.n;have hA:a<48:=by omega
 have hD:d<48:=by omega
 have hbw:=Below.refl w.heap.size w;refine cmo (zfg h ha) ?_;rintro e _ ⟨rfl,rfl⟩;refine biE (fun h1=>?_) fun h1=>?_
 ·have h1:isR x a=true:=h1;refine cmo (zdT (md:=1) h ha) ?_;rintro e _ ⟨rfl,rfl⟩;refine biE (fun h2=>?_) fun h2=>?_
  ·have h2:zaD x a 1=true:=h2;refine brT ?_;refine brT ?_;exact⟨rb (by show _=((isR x a&&(zaD x a 1||hasM l a d))||((isW x d&&(zaD x d 2||hasM s a d))||hasM f a d));rw [h1,h2];rfl),hbw⟩
  ·have h2:zaD x a 1=false:=h2;refine cmo (zay h.loads h.wl hA hD) ?_;rintro e _ ⟨rfl,rfl⟩;refine biE (fun h3=>?_) fun h3=>?_
   ·have h3:hasM l a d=true:=h3;refine brT ?_;exact⟨rb (by show _=((isR x a&&(zaD x a 1||hasM l a d))||((isW x d&&(zaD x d 2||hasM s a d))||hasM f a d));rw [h1,h2,h3];rfl),hbw⟩
   ·have h3:hasM l a d=false:=h3;refine cmo (zbi h hd) ?_;rintro e _ ⟨rfl,rfl⟩;refine biE (fun h4=>?_) fun h4=>?_
    ·have h4:isW x d=true:=h4;refine cmo (zdT (md:=2) h hd) ?_;rintro e _ ⟨rfl,rfl⟩;refine biE (fun h5=>?_) fun h5=>?_
     ·have h5:zaD x d 2=true:=h5;refine brT ?_;exact⟨rb (by show _=((isR x a&&(zaD x a 1||hasM l a d))||((isW x d&&(zaD x d 2||hasM s a d))||hasM f a d));rw [h1,h2,h3,h4,h5];rfl),hbw⟩
     ·have h5:zaD x d 2=false:=h5;refine cmo (zay h.stores h.ws hA hD) ?_;rintro e _ ⟨rfl,rfl⟩;refine biE (fun h6=>?_) fun h6=>?_
      ·have h6:hasM s a d=true:=h6;exact⟨rb (by show _=((isR x a&&(zaD x a 1||hasM l a d))||((isW x d&&(zaD x d 2||hasM s a d))||hasM f a d));rw [h1,h2,h3,h4,h5,h6];rfl),hbw⟩
      ·have h6:hasM s a d=false:=h6;refine cmo (zay h.full h.wf hA hD) ?_;rintro e _ ⟨rfl,rfl⟩;exact⟨rb (by show _=((isR x a&&(zaD x a 1||hasM l a d))||((isW x d&&(zaD x d 2||hasM s a d))||hasM f a d));rw [h1,h2,h3,h4,h5,h6];rfl),hbw⟩
    ·have h4:isW x d=false:=h4;refine brF ?_;refine cmo (zay h.full h.wf hA hD) ?_;rintro e _ ⟨rfl,rfl⟩;exact⟨rb (by show _=((isR x a&&(zaD x a 1||hasM l a d))||((isW x d&&(zaD x d 2||hasM s a d))||hasM f a d));rw [h1,h2,h3,h4];rfl),hbw⟩
 ·have h1:isR x a=false:=h1;refine brF ?_;refine cmo (zbi h hd) ?_;rintro e _ ⟨rfl,rfl⟩;refine biE (fun h9=>?_) fun h9=>?_
  ·have h9:isW x d=true:=h9;refine cmo (zdT (md:=2) h hd) ?_;rintro e _ ⟨rfl,rfl⟩;refine biE (fun h10=>?_) fun h10=>?_
   ·have h10:zaD x d 2=true:=h10;refine brT ?_;exact⟨rb (by show _=((isR x a&&(zaD x a 1||hasM l a d))||((isW x d&&(zaD x d 2||hasM s a d))||hasM f a d));rw [h1,h9,h10];rfl),hbw⟩
   ·have h10:zaD x d 2=false:=h10;refine cmo (zay h.stores h.ws hA hD) ?_;rintro e _ ⟨rfl,rfl⟩;refine biE (fun h11=>?_) fun h11=>?_
    ·have h11:hasM s a d=true:=h11;exact⟨rb (by show _=((isR x a&&(zaD x a 1||hasM l a d))||((isW x d&&(zaD x d 2||hasM s a d))||hasM f a d));rw [h1,h9,h10,h11];rfl),hbw⟩
    ·have h11:hasM s a d=false:=h11;refine cmo (zay h.full h.wf hA hD) ?_;rintro e _ ⟨rfl,rfl⟩;exact⟨rb (by show _=((isR x a&&(zaD x a 1||hasM l a d))||((isW x d&&(zaD x d 2||hasM s a d))||hasM f a d));rw [h1,h9,h10,h11];rfl),hbw⟩
  ·have h9:isW x d=false:=h9;refine brF ?_;refine cmo (zay h.full h.wf hA hD) ?_;rintro e _ ⟨rfl,rfl⟩;exact⟨rb (by show _=((isR x a&&(zaD x a 1||hasM l a d))||((isW x d&&(zaD x d 2||hasM s a d))||hasM f a d));rw [h1,h9];rfl),hbw⟩
theorem zo4 {a d:Nat} (h:ScnV w b x q c f l s) (ha:a<x.ev.length) (hd:d<x.ev.length):CB 268 #[At0 b,i64 (a:Nat),i64 (d:Nat)] w (.bool (zg0 6 x f l s a d)):=by
 refine cofE 81 [At0 b,i64 (a:Nat),i64 (d:Nat)] Tryz.func268 ?_;have hn:=h.v.n;have hA:a<48:=by omega
 have hD:d<48:=by omega
 have hbw:=Below.refl w.heap.size w;refine cmo (zay (zgw h.cells (zq3 x q c)) h.v.dt hA hD) ?_;rintro e _ ⟨rfl,rfl⟩;refine biE (fun h1=>?_) fun h1=>?_
 ·have h1:hasM x.dt a d=true:=h1;refine brT ?_;refine brT ?_;refine brT ?_;refine brT ?_;exact⟨rb (by show _=(hasM x.dt a d||((hasM x.ct a d&&isW x d)||(hasM x.rm a d||(hasM f a d||((hasM l a d&&(isR x a&&isR x d))||(hasM s a d&&(isW x a&&isW x d)))))));rw [h1];rfl),hbw⟩
 ·have h1:hasM x.dt a d=false:=h1;refine cmo (zay (zgw h.cells (zq4 x q c)) h.v.ct hA hD) ?_;rintro e _ ⟨rfl,rfl⟩;refine biE (fun h2=>?_) fun h2=>?_
  ·have h2:hasM x.ct a d=true:=h2;refine cmo (zbi h hd) ?_;rintro e _ ⟨rfl,rfl⟩;refine biE (fun h3=>?_) fun h3=>?_
   ·have h3:isW x d=true:=h3;refine brT ?_;refine brT ?_;refine brT ?_;exact⟨rb (by show _=(hasM x.dt a d||((hasM x.ct a d&&isW x d)||(hasM x.rm a d||(hasM f a d||((hasM l a d&&(isR x a&&isR x d))||(hasM s a d&&(isW x a&&isW x d)))))));rw [h1,h2,h3];rfl),hbw⟩
   ·have h3:isW x d=false:=h3;refine cmo (zay (zgw h.cells (zoz x q c)) h.v.rm hA hD) ?_;rintro e _ ⟨rfl,rfl⟩;refine biE (fun h4=>?_) fun h4=>?_
    ·have h4:hasM x.rm a d=true:=h4;refine brT ?_;refine brT ?_;exact⟨rb (by show _=(hasM x.dt a d||((hasM x.ct a d&&isW x d)||(hasM x.rm a d||(hasM f a d||((hasM l a d&&(isR x a&&isR x d))||(hasM s a d&&(isW x a&&isW x d)))))));rw [h1,h2,h3,h4];rfl),hbw⟩
    ·have h4:hasM x.rm a d=false:=h4;refine cmo (zay h.full h.wf hA hD) ?_;rintro e _ ⟨rfl,rfl⟩;refine biE (fun h5=>?_) fun h5=>?_
     ·have h5:hasM f a d=true:=h5;refine brT ?_;exact⟨rb (by show _=(hasM x.dt a d||((hasM x.ct a d&&isW x d)||(hasM x.rm a d||(hasM f a d||((hasM l a d&&(isR x a&&isR x d))||(hasM s a d&&(isW x a&&isW x d)))))));rw [h1,h2,h3,h4,h5];rfl),hbw⟩
     ·have h5:hasM f a d=false:=h5;refine cmo (zay h.loads h.wl hA hD) ?_;rintro e _ ⟨rfl,rfl⟩;refine biE (fun h6=>?_) fun h6=>?_
      ·have h6:hasM l a d=true:=h6;refine cmo (zfg h ha) ?_;rintro e _ ⟨rfl,rfl⟩;refine biE (fun h7=>?_) fun h7=>?_
       ·have h7:isR x a=true:=h7;refine cmo (zfg h hd) ?_;rintro e _ ⟨rfl,rfl⟩;refine biE (fun h8=>?_) fun h8=>?_
        ·have h8:isR x d=true:=h8;exact⟨rb (by show _=(hasM x.dt a d||((hasM x.ct a d&&isW x d)||(hasM x.rm a d||(hasM f a d||((hasM l a d&&(isR x a&&isR x d))||(hasM s a d&&(isW x a&&isW x d)))))));rw [h1,h2,h3,h4,h5,h6,h7,h8];rfl),hbw⟩
        ·have h8:isR x d=false:=h8;refine cmo (zay h.stores h.ws hA hD) ?_;rintro e _ ⟨rfl,rfl⟩;refine biE (fun h9=>?_) fun h9=>?_
         ·have h9:hasM s a d=true:=h9;refine cmo (zbi h ha) ?_;rintro e _ ⟨rfl,rfl⟩;refine biE (fun h10=>?_) fun h10=>?_
          ·have h10:isW x a=true:=h10;refine cmo (zbi h hd) ?_;rintro e _ ⟨rfl,rfl⟩;exact⟨rb (by show _=(hasM x.dt a d||((hasM x.ct a d&&isW x d)||(hasM x.rm a d||(hasM f a d||((hasM l a d&&(isR x a&&isR x d))||(hasM s a d&&(isW x a&&isW x d)))))));rw [h1,h2,h3,h4,h5,h6,h7,h8,h9,h10];rfl),hbw⟩
          ·have h10:isW x a=false:=h10;exact⟨rb (by show _=(hasM x.dt a d||((hasM x.ct a d&&isW x d)||(hasM x.rm a d||(hasM f a d||((hasM l a d&&(isR x a&&isR x d))||(hasM s a d&&(isW x a&&isW x d)))))));rw [h1,h2,h3,h4,h5,h6,h7,h8,h9,h10];rfl),hbw⟩
         ·have h9:hasM s a d=false:=h9;refine brF ?_;exact⟨rb (by show _=(hasM x.dt a d||((hasM x.ct a d&&isW x d)||(hasM x.rm a d||(hasM f a d||((hasM l a d&&(isR x a&&isR x d))||(hasM s a d&&(isW x a&&isW x d)))))));rw [h1,h2,h3,h4,h5,h6,h7,h8,h9];rfl),hbw⟩
       ·have h7:isR x a=false:=h7;refine brF ?_;refine cmo (zay h.stores h.ws hA hD) ?_;rintro e _ ⟨rfl,rfl⟩;refine biE (fun h12=>?_) fun h12=>?_
        ·have h12:hasM s a d=true:=h12;refine cmo (zbi h ha) ?_;rintro e _ ⟨rfl,rfl⟩;refine biE (fun h13=>?_) fun h13=>?_
         ·have h13:isW x a=true:=h13;refine cmo (zbi h hd) ?_;rintro e _ ⟨rfl,rfl⟩;exact⟨rb (by show _=(hasM x.dt a d||((hasM x.ct a d&&isW x d)||(hasM x.rm a d||(hasM f a d||((hasM l a d&&(isR x a&&isR x d))||(hasM s a d&&(isW x a&&isW x d)))))));rw [h1,h2,h3,h4,h5,h6,h7,h12,h13];rfl),hbw⟩
         ·have h13:isW x a=false:=h13;exact⟨rb (by show _=(hasM x.dt a d||((hasM x.ct a d&&isW x d)||(hasM x.rm a d||(hasM f a d||((hasM l a d&&(isR x a&&isR x d))||(hasM s a d&&(isW x a&&isW x d)))))));rw [h1,h2,h3,h4,h5,h6,h7,h12,h13];rfl),hbw⟩
        ·have h12:hasM s a d=false:=h12;refine brF ?_;exact⟨rb (by show _=(hasM x.dt a d||((hasM x.ct a d&&isW x d)||(hasM x.rm a d||(hasM f a d||((hasM l a d&&(isR x a&&isR x d))||(hasM s a d&&(isW x a&&isW x d)))))));rw [h1,h2,h3,h4,h5,h6,h7,h12];rfl),hbw⟩
      ·have h6:hasM l a d=false:=h6;refine brF ?_;refine brF ?_;refine cmo (zay h.stores h.ws hA hD) ?_;rintro e _ ⟨rfl,rfl⟩;refine biE (fun h15=>?_) fun h15=>?_
       ·have h15:hasM s a d=true:=h15;refine cmo (zbi h ha) ?_;rintro e _ ⟨rfl,rfl⟩;refine biE (fun h16=>?_) fun h16=>?_
        ·have h16:isW x a=true:=h16;refine cmo (zbi h hd) ?_;rintro e _ ⟨rfl,rfl⟩;exact⟨rb (by show _=(hasM x.dt a d||((hasM x.ct a d&&isW x d)||(hasM x.rm a d||(hasM f a d||((hasM l a d&&(isR x a&&isR x d))||(hasM s a d&&(isW x a&&isW x d)))))));rw [h1,h2,h3,h4,h5,h6,h15,h16];rfl),hbw⟩
        ·have h16:isW x a=false:=h16;exact⟨rb (by show _=(hasM x.dt a d||((hasM x.ct a d&&isW x d)||(hasM x.rm a d||(hasM f a d||((hasM l a d&&(isR x a&&isR x d))||(hasM s a d&&(isW x a&&isW x d)))))));rw [h1,h2,h3,h4,h5,h6,h15,h16];rfl),hbw⟩
       ·have h15:hasM s a d=false:=h15;refine brF ?_;exact⟨rb (by show _=(hasM x.dt a d||((hasM x.ct a d&&isW x d)||(hasM x.rm a d||(hasM f a d||((hasM l a d&&(isR x a&&isR x d))||(hasM s a d&&(isW x a&&isW x d)))))));rw [h1,h2,h3,h4,h5,h6,h15];rfl),hbw⟩
  ·have h2:hasM x.ct a d=false:=h2;refine brF ?_;refine cmo (zay (zgw h.cells (zoz x q c)) h.v.rm hA hD) ?_;rintro e _ ⟨rfl,rfl⟩;refine biE (fun h18=>?_) fun h18=>?_
   ·have h18:hasM x.rm a d=true:=h18;refine brT ?_;refine brT ?_;exact⟨rb (by show _=(hasM x.dt a d||((hasM x.ct a d&&isW x d)||(hasM x.rm a d||(hasM f a d||((hasM l a d&&(isR x a&&isR x d))||(hasM s a d&&(isW x a&&isW x d)))))));rw [h1,h2,h18];rfl),hbw⟩
   ·have h18:hasM x.rm a d=false:=h18;refine cmo (zay h.full h.wf hA hD) ?_;rintro e _ ⟨rfl,rfl⟩;refine biE (fun h19=>?_) fun h19=>?_
    ·have h19:hasM f a d=true:=h19;refine brT ?_;exact⟨rb (by show _=(hasM x.dt a d||((hasM x.ct a d&&isW x d)||(hasM x.rm a d||(hasM f a d||((hasM l a d&&(isR x a&&isR x d))||(hasM s a d&&(isW x a&&isW x d)))))));rw [h1,h2,h18,h19];rfl),hbw⟩
    ·have h19:hasM f a d=false:=h19;refine cmo (zay h.loads h.wl hA hD) ?_;rintro e _ ⟨rfl,rfl⟩;refine biE (fun h20=>?_) fun h20=>?_
     ·have h20:hasM l a d=true:=h20;refine cmo (zfg h ha) ?_;rintro e _ ⟨rfl,rfl⟩;refine biE (fun h21=>?_) fun h21=>?_
      ·have h21:isR x a=true:=h21;refine cmo (zfg h hd) ?_;rintro e _ ⟨rfl,rfl⟩;refine biE (fun h22=>?_) fun h22=>?_
       ·have h22:isR x d=true:=h22;exact⟨rb (by show _=(hasM x.dt a d||((hasM x.ct a d&&isW x d)||(hasM x.rm a d||(hasM f a d||((hasM l a d&&(isR x a&&isR x d))||(hasM s a d&&(isW x a&&isW x d)))))));rw [h1,h2,h18,h19,h20,h21,h22];rfl),hbw⟩
       ·have h22:isR x d=false:=h22;refine cmo (zay h.stores h.ws hA hD) ?_;rintro e _ ⟨rfl,rfl⟩;refine biE (fun h23=>?_) fun h23=>?_
        ·have h23:hasM s a d=true:=h23;refine cmo (zbi h ha) ?_;rintro e _ ⟨rfl,rfl⟩;refine biE (fun h24=>?_) fun h24=>?_
         ·have h24:isW x a=true:=h24;refine cmo (zbi h hd) ?_;rintro e _ ⟨rfl,rfl⟩;exact⟨rb (by show _=(hasM x.dt a d||((hasM x.ct a d&&isW x d)||(hasM x.rm a d||(hasM f a d||((hasM l a d&&(isR x a&&isR x d))||(hasM s a d&&(isW x a&&isW x d)))))));rw [h1,h2,h18,h19,h20,h21,h22,h23,h24];rfl),hbw⟩
         ·have h24:isW x a=false:=h24;exact⟨rb (by show _=(hasM x.dt a d||((hasM x.ct a d&&isW x d)||(hasM x.rm a d||(hasM f a d||((hasM l a d&&(isR x a&&isR x d))||(hasM s a d&&(isW x a&&isW x d)))))));rw [h1,h2,h18,h19,h20,h21,h22,h23,h24];rfl),hbw⟩
        ·have h23:hasM s a d=false:=h23;refine brF ?_;exact⟨rb (by show _=(hasM x.dt a d||((hasM x.ct a d&&isW x d)||(hasM x.rm a d||(hasM f a d||((hasM l a d&&(isR x a&&isR x d))||(hasM s a d&&(isW x a&&isW x d)))))));rw [h1,h2,h18,h19,h20,h21,h22,h23];rfl),hbw⟩
      ·have h21:isR x a=false:=h21;refine brF ?_;refine cmo (zay h.stores h.ws hA hD) ?_;rintro e _ ⟨rfl,rfl⟩;refine biE (fun h26=>?_) fun h26=>?_
       ·have h26:hasM s a d=true:=h26;refine cmo (zbi h ha) ?_;rintro e _ ⟨rfl,rfl⟩;refine biE (fun h27=>?_) fun h27=>?_
        ·have h27:isW x a=true:=h27;refine cmo (zbi h hd) ?_;rintro e _ ⟨rfl,rfl⟩;exact⟨rb (by show _=(hasM x.dt a d||((hasM x.ct a d&&isW x d)||(hasM x.rm a d||(hasM f a d||((hasM l a d&&(isR x a&&isR x d))||(hasM s a d&&(isW x a&&isW x d)))))));rw [h1,h2,h18,h19,h20,h21,h26,h27];rfl),hbw⟩
        ·have h27:isW x a=false:=h27;exact⟨rb (by show _=(hasM x.dt a d||((hasM x.ct a d&&isW x d)||(hasM x.rm a d||(hasM f a d||((hasM l a d&&(isR x a&&isR x d))||(hasM s a d&&(isW x a&&isW x d)))))));rw [h1,h2,h18,h19,h20,h21,h26,h27];rfl),hbw⟩
       ·have h26:hasM s a d=false:=h26;refine brF ?_;exact⟨rb (by show _=(hasM x.dt a d||((hasM x.ct a d&&isW x d)||(hasM x.rm a d||(hasM f a d||((hasM l a d&&(isR x a&&isR x d))||(hasM s a d&&(isW x a&&isW x d)))))));rw [h1,h2,h18,h19,h20,h21,h26];rfl),hbw⟩
     ·have h20:hasM l a d=false:=h20;refine brF ?_;refine brF ?_;refine cmo (zay h.stores h.ws hA hD) ?_;rintro e _ ⟨rfl,rfl⟩;refine biE (fun h29=>?_) fun h29=>?_
      ·have h29:hasM s a d=true:=h29;refine cmo (zbi h ha) ?_;rintro e _ ⟨rfl,rfl⟩;refine biE (fun h30=>?_) fun h30=>?_
       ·have h30:isW x a=true:=h30;refine cmo (zbi h hd) ?_;rintro e _ ⟨rfl,rfl⟩;exact⟨rb (by show _=(hasM x.dt a d||((hasM x.ct a d&&isW x d)||(hasM x.rm a d||(hasM f a d||((hasM l a d&&(isR x a&&isR x d))||(hasM s a d&&(isW x a&&isW x d)))))));rw [h1,h2,h18,h19,h20,h29,h30];rfl),hbw⟩
       ·have h30:isW x a=false:=h30;exact⟨rb (by show _=(hasM x.dt a d||((hasM x.ct a d&&isW x d)||(hasM x.rm a d||(hasM f a d||((hasM l a d&&(isR x a&&isR x d))||(hasM s a d&&(isW x a&&isW x d)))))));rw [h1,h2,h18,h19,h20,h29,h30];rfl),hbw⟩
      ·have h29:hasM s a d=false:=h29;refine brF ?_;exact⟨rb (by show _=(hasM x.dt a d||((hasM x.ct a d&&isW x d)||(hasM x.rm a d||(hasM f a d||((hasM l a d&&(isR x a&&isR x d))||(hasM s a d&&(isW x a&&isW x d)))))));rw [h1,h2,h18,h19,h20,h29];rfl),hbw⟩
end
abbrev zdU:List Value:=[.nilFunc,.func (.func 259) #[] #[],.func (.func 260) #[] #[],.func (.func 261) #[] #[],.func (.func 265) #[] #[],.func (.func 266) #[] #[],.func (.func 268) #[] #[]]
section
variable {b c:Nat} {x:ExD} {q:Option Addr} {w:World} {f l s:RelD}
theorem zo3:CB 230 #[] w (.agg zdU.toArray):=by
 refine cofM 8 [] (.c .p .p) Tryz.func230 ?_;obtain⟨L,hL⟩:=nm (w.heap.size);refine⟨Unit,fun _=>⟨[(0,At0 L)],[]⟩,fun _ X=>X.heap[L]?=some (.cells #[.nilFunc,.nilFunc,.nilFunc,.nilFunc,.nilFunc,.nilFunc,.nilFunc] 318 (0,0))/\Bw w X,⟨(),⟨.cons (by rw [hL];rfl) .nil,rfl⟩,by rw [hL];exact hnew w _,(zba w _)⟩,?_⟩;rintro _ X ⟨f0,hbX⟩;refine⟨[.func (.func 259) #[] #[]],by kernel_rfl,?_⟩;refine⟨[.func (.func 260) #[] #[]],by kernel_rfl,?_⟩;refine⟨[.func (.func 261) #[] #[]],by kernel_rfl,?_⟩;refine⟨[.func (.func 265) #[] #[]],by kernel_rfl,?_⟩;refine⟨[.func (.func 266) #[] #[]],by kernel_rfl,?_⟩;refine⟨[.func (.func 268) #[] #[]],by kernel_rfl,?_⟩;refine⟨zdU,by kernel_rfl,?_⟩;refine zal (v := .agg zdU.toArray) k318 f0 rfl rfl rfl ?_;exact⟨zdU,rfl,zaa (zaj f0),rfl,zag hbX (by omega) _⟩
theorem zer {S Rb Mb Sv g a d:Nat} {m:UInt8} {K:Bool} (hs:ScnV w S x q c f l s) (fSv:w.heap[Sv]?=some (.cells #[At0 S] 311 (0,0))) (fR:w.heap[Rb]?=some (.cells zdU.toArray 318 (0,0))) (fM:w.heap[Mb]?=some (.cells #[u8 m] 5 (0,0)))
  (hm7:m.toNat<7) (hm:zdU[m.toNat]?=some (.func (.func g) #[] #[])) (hok:zbq (sg 0) g=true) (hK:∀ X,Bw w X->Calls Tryz.prog g #[At0 S,i64 (a:Nat),i64 (d:Nat)] X fun e Y=>e = .returned (.bool K)/\Bw X Y) (ha:a<x.ev.length) (hd:d<x.ev.length) :
  CB 231 #[i64 (a:Nat),i64 (d:Nat),At0 Sv,At0 Rb,At0 Mb] w (.bool (hasM x.po a d&&(accA x a&&(accA x d&&K)))):=by
 refine cofE 47 [i64 (a:Nat),i64 (d:Nat),At0 Sv,At0 Rb,At0 Mb] Tryz.func231 ?_;have hn:=hs.v.n;have fx:=hs.cells;obtain⟨bq,oq,hqe,hb,hat⟩:=zdC hs.v.ev ha;obtain⟨bq2,oq2,hqe2,hb2,hat2⟩:=zdC hs.v.ev hd;rw [hqe] at hqe2;simp only [Option.some.injEq,Addr.mk.injEq,and_true] at hqe2;rw [<- hqe2.1,<- hqe2.2] at hat2;have hpo:=hs.v.po;subst hqe;have dw:Bw w w.drew:=(Below.refl _ _).drew;refine DrawE.ord [] [0,1,2,3,4,5,6,7,8,9,10,11,12,13,14,15,16,17,18,19,20,21,22,23,24,25,26,27,28,29,30,31,32,33,34,35,36,37,38,39] (by kernel_rfl) ?_;refine⟨At0 S,zac (zaa (hdr fSv)) (i:=0) rfl,?_⟩;refine cmo (zay (zgw (zar dw fx) (zoA x _ c)) hpo (by omega) (by omega)) ?_;rintro e _ ⟨rfl,rfl⟩;refine⟨Below.refl _ _,?_⟩;refine biE (fun h1=>?_) fun h1=>?_
 ·have h1:hasM x.po a d=true:=h1;refine⟨At0 S,zac (zaa (hdr fSv)) (i:=0) rfl,?_⟩;refine⟨_,zca (zar dw fx),?_⟩;refine⟨a,rfl,ha,?_⟩;refine⟨evE.enc (evA x a),rfl,zar dw hat,nL hb dw.size,?_⟩;refine cmo ze5 ?_;rintro e X ⟨rfl,hbX⟩;refine⟨hbX,?_⟩;have bX:=dw.trans hbX;rw [zjY];refine biE (fun h2=>?_) fun h2=>?_
  ·have h2:accA x a=true:=h2;refine⟨At0 S,zac (zaa (zab bX fSv)) (i:=0) rfl,?_⟩;refine⟨_,zca (zar bX fx),?_⟩;refine⟨d,rfl,hd,?_⟩;refine⟨evE.enc (evA x d),rfl,zar bX hat2,nL hb bX.size,?_⟩;refine cmo ze5 ?_;rintro e Y ⟨rfl,hbY⟩;refine⟨hbY,?_⟩;have bY:=zst bX hbY;rw [zjY];refine biE (fun h3=>?_) fun h3=>?_
   ·have h3:accA x d=true:=h3;refine⟨u8 m,zac (zaa (zab bY fM)) (i:=0) rfl,?_⟩;refine⟨m.toNat,rfl,hm7,?_⟩;refine⟨.func (.func g) #[] #[],by have:=zac (zaa (zab bY fR)) (i:=m.toNat) (v := .func (.func g) #[] #[]) hm;rw [Nat.mul_one];exact this,?_⟩;refine⟨At0 S,zac (zaa (zab bY fSv)) (i:=0) rfl,?_⟩;refine zhd hok (hK Y bY) ?_;rintro e Z ⟨rfl,hbZ⟩;refine⟨_,rfl,hbZ,?_⟩;exact⟨rb (by rw [h1,h2,h3];rfl),(zst bY hbZ)⟩
   ·have h3:accA x d=false:=h3;exact⟨rb (by rw [h1,h2,h3];rfl),bY⟩
  ·have h2:accA x a=false:=h2;refine brF ?_;exact⟨rb (by rw [h1,h2];rfl),bX⟩
 ·have h1:hasM x.po a d=false:=h1;refine brF ?_;refine brF ?_;exact⟨rb (by rw [h1];rfl),dw⟩
theorem ziF {m:UInt8} (h:zc0 m.toNat=true):m=1\/m=2\/m=3\/m=4\/m=5\/m=6:=by
 unfold zc0 at h;rw [bAT,dE,dE] at h;simp only [<- UInt8.toNat_inj];show m.toNat=1\/m.toNat=2\/m.toNat=3\/m.toNat=4\/m.toNat=5\/m.toNat=6;omega
theorem zpw {S Rb Mb Sv a d:Nat} {m:UInt8} (hk:zc0 m.toNat=true) (hs:ScnV w S x q c f l s) (fSv:w.heap[Sv]?=some (.cells #[At0 S] 311 (0,0))) (fR:w.heap[Rb]?=some (.cells zdU.toArray 318 (0,0))) (fM:w.heap[Mb]?=some (.cells #[u8 m] 5 (0,0)))
  (ha:a<x.ev.length) (hd:d<x.ev.length) :
  CB 231 #[i64 (a:Nat),i64 (d:Nat),At0 Sv,At0 Rb,At0 Mb] w (.bool (hasM x.po a d&&(accA x a&&(accA x d&&zg0 m.toNat x f l s a d)))):=by
 rcases ziF hk with rfl | rfl | rfl | rfl | rfl | rfl
 ·exact zer (g:=259) hs fSv fR fM (by decide) rfl (by kernel_rfl) (fun X hb=>zo9) ha hd
 ·exact zer (g:=260) hs fSv fR fM (by decide) rfl (by kernel_rfl) (fun X hb=>zo8) ha hd
 ·exact zer (g:=261) hs fSv fR fM (by decide) rfl (by kernel_rfl) (fun X hb=>zo7 (hs.below hb) ha hd) ha hd
 ·exact zer (g:=265) hs fSv fR fM (by decide) rfl (by kernel_rfl) (fun X hb=>zo6 (hs.below hb) ha hd) ha hd
 ·exact zer (g:=266) hs fSv fR fM (by decide) rfl (by kernel_rfl) (fun X hb=>zo5 (hs.below hb) ha hd) ha hd
 ·exact zer (g:=268) hs fSv fR fM (by decide) rfl (by kernel_rfl) (fun X hb=>zo4 (hs.below hb) ha hd) ha hd
theorem zil {X:World} {S o:Nat} {T:TypeId} {A Z:List Value} {r0 r:RelD} (h:X.heap[S]?=some (.cells (A++(relC r0++Z)).toArray T (0,0))) (hA:A.length=o) {K:World->Prop}
  (k:∀ Y,Y.heap[S]?=some (.cells (A++(relC r++Z)).toArray T (0,0))->X.grownBy Y (some S)->Y.heap.size=X.heap.size->K Y) :
  SatR ((storeVar 102 ⟨S,0+o,none⟩ (.agg (relC r).toArray)).run Tryz.prog X) fun _ w'=>K w':=by
 rw [Nat.zero_add];refine zbn k102 h (o:=o) (v := .agg (relC r).toArray) (zad _) (by show o+(relC r).length<=(A++(relC r0++Z)).length;rw [lap,lap,zad,zad];omega) (zau _) fun Y fY gY sY=>k Y (fY.trans ?_) gY sY;show some (Obj.cells ((A++(relC r0++Z)).take o++relC r++(A++(relC r0++Z)).drop (o+(relC r).length)).toArray T (0,0))=_;congr 3;rw [<- hA,List.take_left,zad,List.append_assoc,<- List.drop_drop,List.drop_left,<- zad r0,List.drop_left]
theorem zqW {m:UInt8} (hk:zc0 m.toNat=true) (fx:ExH w b x q c) (hv:ExV w x q) (hT:Tz64M w):CB 167 #[u8 m,At0 b] w (.agg (relC (zdw m.toNat x)).toArray):=by
 refine cofM 35 [u8 m,At0 b] (.c .p (.c .p (.c .p (.c .p (.c .p .p))))) Tryz.func167 ?_;obtain⟨L,hL⟩:=nm (w.heap.size);have hn:=hv.n;refine⟨Unit,fun _=>⟨[(1,At0 b),(2,At0 L),(4,At0 (L+1))],[]⟩,fun _ X=>X.heap[L]?=some (.cells #[u8 m] 5 (0,0))/\RelH X (L+1) zav/\X.heap.size=L+2/\Bw w X,?_,?_⟩
 ·have s1:=wz w (.cells #[u8 m] 5);have h2:=hnew (w.alloc (.cells #[u8 m] 5)) (.cells (relC zav).toArray 102);have s2:=wz (w.alloc (.cells #[u8 m] 5)) (.cells (relC zav).toArray 102);rw [s1] at h2 s2;have b1:Bw w (w.alloc (.cells #[u8 m] 5)):=zba w _;exact⟨(),⟨.cons rfl (.cons (by rw [hL];rfl) (.cons (by rw [hL,<- s1];rfl) .nil)),rfl⟩,by rw [hL];exact hold _ (hnew w _),by rw [hL];exact h2,by rw [hL];exact s2,b1.alloc b1.size _⟩
 rintro _ X ⟨fM,f0,sX,hbX⟩;have fX:=zab hbX fx;refine⟨Unit,fun _=>⟨[(1,At0 b),(2,At0 L),(4,At0 (L+1)),(5,At0 (L+3))],[]⟩,fun _ Y=>Y.heap[L+2]?=some (.cells (exC x q c++(relC zav++(relC zav++relC zav))).toArray 313 (0,0))/\Y.heap[L+3]?=some (.cells #[At0 (L+2)] 311 (0,0))/\Y.heap.size=L+4/\Bw X Y,?_,?_⟩
 ·refine⟨exC x q c,zaC _ _ _,zaa fX,hlt fX,?_⟩;refine⟨exC x q c++(relC zav++(relC zav++relC zav)),by kernel_rfl,?_⟩;have s3:=wz X (.cells (exC x q c++(relC zav++(relC zav++relC zav))).toArray 313);refine zaq (X:=X.alloc (.cells (exC x q c++(relC zav++(relC zav++relC zav))).toArray 313)) (v := .pointer (some ⟨X.heap.size,0,none⟩)) k311 rfl rfl rfl fun Z hbZ fZ sZ=>?_;rw [s3] at fZ sZ;rw [sX] at fZ sZ s3;have b1:Bw X (X.alloc (.cells (exC x q c++(relC zav++(relC zav++relC zav))).toArray 313)):=zba X _;refine⟨(),⟨.cons rfl (.cons rfl (.cons rfl (.cons (by rw [<- s3];rfl) .nil))),rfl⟩,?_,fZ,sZ,(zst b1 hbZ)⟩;refine zab hbZ ?_;rw [<- sX];exact hnew X _
 rintro _ Y ⟨fS,fP,sY,hbY⟩;have hbwY:=zst hbX hbY;have fY:=zab hbwY fx;replace fM:=zab hbY fM;replace f0:=zab hbY f0;have hwX:=hbX.size;have hbL:b<L:=by rw [hL];exact hlt fx
 refine⟨Unit,fun _=>⟨[(1,At0 b),(2,At0 L),(4,At0 (L+1)),(5,At0 (L+3))],[]⟩,fun _ Z=>ScnV Z (L+2) x q c (zaB x 3) (zaB x 4) (zaB x 5)/\Z.heap[L+3]?=some (.cells #[At0 (L+2)] 311 (0,0))/\Z.heap[L]?=some (.cells #[u8 m] 5 (0,0))/\RelH Z (L+1) zav/\ExH Z b x q c/\L+4<=Z.heap.size/\Bw w Z,?_,?_⟩
 ·have dY:Bw Y Y.drew:=(Below.refl _ _).drew;obtain⟨Y1,hY1⟩:=nm (Y.drew);have bY1:Bw Y Y1:=by rw [hY1];exact dY
  have ld0:∀ {W},Bw Y W->W.cell? ⟨L+3,0,none⟩=some (At0 (L+2)):=fun hW=>by
   have h2:=zac (zaa (zab hW fP)) (i:=0) (v:=At0 (L+2)) rfl;exact h2
  have fen:∀ (md:UInt8) {W},Bw Y W->CB 229 #[At0 b,u8 md] W (.agg (relC (zaB x md)).toArray):=fun md {W} hW =>
   have h2:=zst hbwY hW
   znP (zab h2 fx) (hv.below h2) (hT.below h2)
  have ld1:∀ W,(∃ C,Bw Y C/\C.grownBy W (some (L+2)))->W.cell? ⟨L+3,0,none⟩=some (At0 (L+2)):=fun W ⟨C,bC,hW⟩=>by
   have fPC:=zab bC fP;have:=(hW.block (L+3) (hlt fPC) (by simp)).trans fPC;have h2:=zac (zaa this) (i:=0) (v:=At0 (L+2)) rfl;exact h2
  have s1:∀ {C},Bw Y C->∀ {K:World->Prop},(∀ D,(D.heap[L+2]?=some (.cells ((exC x q c++relC (zaB x 3))++(relC zav++relC zav)).toArray 313 (0,0))/\∃ C,Bw Y C/\C.grownBy D (some (L+2)))->K D)->SatR ((storeVar 102 ⟨L+2,0+333,none⟩ (.agg (relC (zaB x 3)).toArray)).run Tryz.prog C) fun _ w'=>K w':=fun {C} bC {K} k =>
   zil (o:=333) (A:=exC x q c) (Z:=relC zav++relC zav) (r:=zaB x 3) (zab bC fS) (zaC _ _ _) fun D fD gD sD=>k D ⟨by rw [fD];simp only [List.append_assoc],C,bC,gD⟩
  have s2:∀ D,(D.heap[L+2]?=some (.cells ((exC x q c++relC (zaB x 3))++(relC zav++relC zav)).toArray 313 (0,0))/\∃ C,Bw Y C/\C.grownBy D (some (L+2)))->∀ {K:World->Prop},(∀ F,(F.heap[L+2]?=some (.cells ((exC x q c++(relC (zaB x 3)++relC (zaB x 4)))++(relC zav++[])).toArray 313 (0,0))/\∃ C,Bw Y C/\C.grownBy F (some (L+2)))->K F)->SatR ((storeVar 102 ⟨L+2,0+382,none⟩ (.agg (relC (zaB x 4)).toArray)).run Tryz.prog D) fun _ w'=>K w':=fun D ⟨fD,C,bC,gD⟩ {K} k =>
   zil (o:=382) (A:=exC x q c++relC (zaB x 3)) (Z:=relC zav) (r:=zaB x 4) fD (by rw [lap,zaC,zad]) fun F fF gF sF=>k F ⟨by rw [fF];simp only [List.append_assoc,List.append_nil],C,bC,zae gD gF⟩
  have pw:∀ md,WrdR (zaB x md).to:=fun md=>zdS (zdS hv.po fun i hi=>by
   unfold idR;refine zeb (fun i _ h48=>?_) i hi;exact Nat.lt_of_le_of_lt Nat.and_le_right (zaE (by omega))) hv.po
  have s3:∀ F,(F.heap[L+2]?=some (.cells ((exC x q c++(relC (zaB x 3)++relC (zaB x 4)))++(relC zav++[])).toArray 313 (0,0))/\∃ C,Bw Y C/\C.grownBy F (some (L+2)))->∀ {K:World->Prop},(∀ G,(ScnV G (L+2) x q c (zaB x 3) (zaB x 4) (zaB x 5)/\G.heap[L+3]?=some (.cells #[At0 (L+2)] 311 (0,0))/\G.heap[L]?=some (.cells #[u8 m] 5 (0,0))/\RelH G (L+1) zav/\ExH G b x q c/\L+4<=G.heap.size/\Bw w G)->K G)->SatR ((storeVar 102 ⟨L+2,0+431,none⟩ (.agg (relC (zaB x 5)).toArray)).run Tryz.prog F) fun _ w'=>K w':=fun F ⟨fF,C,bC,gF⟩ {K} k =>
   zil (o:=431) (A:=exC x q c++(relC (zaB x 3)++relC (zaB x 4))) (Z:=[]) (r:=zaB x 5) fF (by rw [lap,lap,zaC,zad,zad]) fun G fG gG sG=>k G (by
    have gCG:C.grownBy G (some (L+2)):=zae gF gG;have bwC:=zst hbwY bC;have bCG:Below w.heap.size C G:=zak gCG bwC.size (by omega);have bwG:Bw w G:=bwC.trans bCG;have keep:∀ {j:Nat} {o:Obj},j≠L+2->Y.heap[j]?=some o->G.heap[j]?=some o:=fun {j o} hj h=>by
     have h2:=zab bC h;exact (gCG.block j (hlt h2) (by simpa using hj)).trans h2
    refine⟨⟨?_,hv.below bwG,pw 3,pw 4,pw 5⟩,keep (by omega) fP,keep (by omega) fM,keep (by omega) f0,keep (by omega) fY,by have:=bC.size;have:=gCG.size;omega,bwG⟩;rw [fG];simp only [List.append_assoc,List.append_nil])
  refine DrawE.treeR [11,14,17] (.op 0 (.op 3 (.op 5 (.op 7 (.alt (.op 4 (.alt (.op 6 (.alt (.op 8 (.op 9 (.op 10 (.alt (.op 11 (.alt (.op 1 (.op 12 (.op 13 (.alt (.op 14 (.op 2 (.op 15 (.op 16 (.op 17 (.nil)))))) (.op 2 (.op 14 (.op 15 (.op 16 (.op 17 (.nil)))))))))) (.op 2 (.op 1 (.op 12 (.op 13 (.op 14 (.op 15 (.op 16 (.op 17 (.nil))))))))))) (.alt (.op 1 (.alt (.op 11 (.op 12 (.op 13 (.alt (.op 14 (.op 2 (.op 15 (.op 16 (.op 17 (.nil)))))) (.op 2 (.op 14 (.op 15 (.op 16 (.op 17 (.nil)))))))))) (.op 2 (.op 11 (.op 12 (.op 13 (.op 14 (.op 15 (.op 16 (.op 17 (.nil))))))))))) (.op 2 (.alt (.op 11 (.op 1 (.op 12 (.op 13 (.op 14 (.op 15 (.op 16 (.op 17 (.nil))))))))) (.op 1 (.op 11 (.op 12 (.op 13 (.op 14 (.op 15 (.op 16 (.op 17 (.nil)))))))))))))))) (.alt (.op 1 (.alt (.op 8 (.op 9 (.op 10 (.alt (.op 11 (.op 12 (.op 13 (.alt (.op 14 (.op 2 (.op 15 (.op 16 (.op 17 (.nil)))))) (.op 2 (.op 14 (.op 15 (.op 16 (.op 17 (.nil)))))))))) (.op 2 (.op 11 (.op 12 (.op 13 (.op 14 (.op 15 (.op 16 (.op 17 (.nil))))))))))))) (.op 2 (.op 8 (.op 9 (.op 10 (.op 11 (.op 12 (.op 13 (.op 14 (.op 15 (.op 16 (.op 17 (.nil)))))))))))))) (.op 2 (.alt (.op 8 (.op 9 (.op 10 (.alt (.op 11 (.op 1 (.op 12 (.op 13 (.op 14 (.op 15 (.op 16 (.op 17 (.nil))))))))) (.op 1 (.op 11 (.op 12 (.op 13 (.op 14 (.op 15 (.op 16 (.op 17 (.nil))))))))))))) (.op 1 (.op 8 (.op 9 (.op 10 (.op 11 (.op 12 (.op 13 (.op 14 (.op 15 (.op 16 (.op 17 (.nil))))))))))))))))) (.alt (.op 1 (.alt (.op 6 (.alt (.op 8 (.op 9 (.op 10 (.alt (.op 11 (.op 12 (.op 13 (.alt (.op 14 (.op 2 (.op 15 (.op 16 (.op 17 (.nil)))))) (.op 2 (.op 14 (.op 15 (.op 16 (.op 17 (.nil)))))))))) (.op 2 (.op 11 (.op 12 (.op 13 (.op 14 (.op 15 (.op 16 (.op 17 (.nil))))))))))))) (.op 2 (.op 8 (.op 9 (.op 10 (.op 11 (.op 12 (.op 13 (.op 14 (.op 15 (.op 16 (.op 17 (.nil)))))))))))))) (.op 2 (.op 6 (.op 8 (.op 9 (.op 10 (.op 11 (.op 12 (.op 13 (.op 14 (.op 15 (.op 16 (.op 17 (.nil))))))))))))))) (.op 2 (.alt (.op 6 (.alt (.op 8 (.op 9 (.op 10 (.alt (.op 11 (.op 1 (.op 12 (.op 13 (.op 14 (.op 15 (.op 16 (.op 17 (.nil))))))))) (.op 1 (.op 11 (.op 12 (.op 13 (.op 14 (.op 15 (.op 16 (.op 17 (.nil))))))))))))) (.op 1 (.op 8 (.op 9 (.op 10 (.op 11 (.op 12 (.op 13 (.op 14 (.op 15 (.op 16 (.op 17 (.nil)))))))))))))) (.op 1 (.op 6 (.op 8 (.op 9 (.op 10 (.op 11 (.op 12 (.op 13 (.op 14 (.op 15 (.op 16 (.op 17 (.nil)))))))))))))))))) (.alt (.op 1 (.alt (.op 4 (.alt (.op 6 (.alt (.op 8 (.op 9 (.op 10 (.alt (.op 11 (.op 12 (.op 13 (.alt (.op 14 (.op 2 (.op 15 (.op 16 (.op 17 (.nil)))))) (.op 2 (.op 14 (.op 15 (.op 16 (.op 17 (.nil)))))))))) (.op 2 (.op 11 (.op 12 (.op 13 (.op 14 (.op 15 (.op 16 (.op 17 (.nil))))))))))))) (.op 2 (.op 8 (.op 9 (.op 10 (.op 11 (.op 12 (.op 13 (.op 14 (.op 15 (.op 16 (.op 17 (.nil)))))))))))))) (.op 2 (.op 6 (.op 8 (.op 9 (.op 10 (.op 11 (.op 12 (.op 13 (.op 14 (.op 15 (.op 16 (.op 17 (.nil))))))))))))))) (.op 2 (.op 4 (.op 6 (.op 8 (.op 9 (.op 10 (.op 11 (.op 12 (.op 13 (.op 14 (.op 15 (.op 16 (.op 17 (.nil)))))))))))))))) (.op 2 (.alt (.op 4 (.alt (.op 6 (.alt (.op 8 (.op 9 (.op 10 (.alt (.op 11 (.op 1 (.op 12 (.op 13 (.op 14 (.op 15 (.op 16 (.op 17 (.nil))))))))) (.op 1 (.op 11 (.op 12 (.op 13 (.op 14 (.op 15 (.op 16 (.op 17 (.nil))))))))))))) (.op 1 (.op 8 (.op 9 (.op 10 (.op 11 (.op 12 (.op 13 (.op 14 (.op 15 (.op 16 (.op 17 (.nil)))))))))))))) (.op 1 (.op 6 (.op 8 (.op 9 (.op 10 (.op 11 (.op 12 (.op 13 (.op 14 (.op 15 (.op 16 (.op 17 (.nil))))))))))))))) (.op 1 (.op 4 (.op 6 (.op 8 (.op 9 (.op 10 (.op 11 (.op 12 (.op 13 (.op 14 (.op 15 (.op 16 (.op 17 (.nil)))))))))))))))))))))) (by kernel_rfl) ?_;rw [<- hY1];refine⟨At0 (L+2),ld0 bY1,?_⟩;refine And.intro ?_ (And.intro ?_ ?_)
  ·refine cmo (fen 3 bY1) ?_;rintro e A ⟨rfl,hbA⟩;refine⟨hbA,?_⟩;have bA:=zst bY1 hbA;refine And.intro ?_ (And.intro ?_ ?_)
   ·refine cmo (fen 4 bA) ?_;rintro e B ⟨rfl,hbB⟩;refine⟨hbB,?_⟩;have bB:=zst bA hbB;refine And.intro ?_ (And.intro ?_ ?_)
    ·refine cmo (fen 5 bB) ?_;rintro e C ⟨rfl,hbC⟩;refine⟨hbC,?_⟩;have bC:=zst bB hbC;refine And.intro ?_ (And.intro ?_ ?_)
     ·refine s1 bC fun D hD=>?_;refine And.intro ?_ ?_
      ·refine⟨At0 (L+2),ld1 D hD.2,?_⟩;refine And.intro ?_ ?_
       ·refine s2 D hD fun F hF=>?_;refine⟨At0 (L+2),ld1 F hF.2,?_⟩;refine s3 F hF fun G hG=>?_;exact⟨(),(cvE rfl rfl),hG⟩
       ·refine⟨At0 (L+2),ld1 D hD.2,?_⟩;refine s2 D hD fun F hF=>?_;refine s3 F hF fun G hG=>?_;exact⟨(),(cvE rfl rfl),hG⟩
      ·refine⟨At0 (L+2),ld1 D hD.2,?_⟩;refine⟨At0 (L+2),ld1 D hD.2,?_⟩;refine s2 D hD fun F hF=>?_;refine s3 F hF fun G hG=>?_;exact⟨(),(cvE rfl rfl),hG⟩
     ·refine⟨At0 (L+2),ld0 bC,?_⟩;refine And.intro ?_ ?_
      ·refine s1 bC fun D hD=>?_;refine And.intro ?_ ?_
       ·refine s2 D hD fun F hF=>?_;refine⟨At0 (L+2),ld1 F hF.2,?_⟩;refine s3 F hF fun G hG=>?_;exact⟨(),(cvE rfl rfl),hG⟩
       ·refine⟨At0 (L+2),ld1 D hD.2,?_⟩;refine s2 D hD fun F hF=>?_;refine s3 F hF fun G hG=>?_;exact⟨(),(cvE rfl rfl),hG⟩
      ·refine⟨At0 (L+2),ld0 bC,?_⟩;refine s1 bC fun D hD=>?_;refine s2 D hD fun F hF=>?_;refine s3 F hF fun G hG=>?_;exact⟨(),(cvE rfl rfl),hG⟩
     ·refine⟨At0 (L+2),ld0 bC,?_⟩;refine And.intro ?_ ?_
      ·refine s1 bC fun D hD=>?_;refine⟨At0 (L+2),ld1 D hD.2,?_⟩;refine s2 D hD fun F hF=>?_;refine s3 F hF fun G hG=>?_;exact⟨(),(cvE rfl rfl),hG⟩
      ·refine⟨At0 (L+2),ld0 bC,?_⟩;refine s1 bC fun D hD=>?_;refine s2 D hD fun F hF=>?_;refine s3 F hF fun G hG=>?_;exact⟨(),(cvE rfl rfl),hG⟩
    ·refine⟨At0 (L+2),ld0 bB,?_⟩;refine And.intro ?_ ?_
     ·refine cmo (fen 5 bB) ?_;rintro e C ⟨rfl,hbC⟩;refine⟨hbC,?_⟩;have bC:=zst bB hbC;refine And.intro ?_ ?_
      ·refine s1 bC fun D hD=>?_;refine And.intro ?_ ?_
       ·refine s2 D hD fun F hF=>?_;refine⟨At0 (L+2),ld1 F hF.2,?_⟩;refine s3 F hF fun G hG=>?_;exact⟨(),(cvE rfl rfl),hG⟩
       ·refine⟨At0 (L+2),ld1 D hD.2,?_⟩;refine s2 D hD fun F hF=>?_;refine s3 F hF fun G hG=>?_;exact⟨(),(cvE rfl rfl),hG⟩
      ·refine⟨At0 (L+2),ld0 bC,?_⟩;refine s1 bC fun D hD=>?_;refine s2 D hD fun F hF=>?_;refine s3 F hF fun G hG=>?_;exact⟨(),(cvE rfl rfl),hG⟩
     ·refine⟨At0 (L+2),ld0 bB,?_⟩;refine cmo (fen 5 bB) ?_;rintro e C ⟨rfl,hbC⟩;refine⟨hbC,?_⟩;have bC:=zst bB hbC;refine s1 bC fun D hD=>?_;refine s2 D hD fun F hF=>?_;refine s3 F hF fun G hG=>?_;exact⟨(),(cvE rfl rfl),hG⟩
    ·refine⟨At0 (L+2),ld0 bB,?_⟩;refine And.intro ?_ ?_
     ·refine cmo (fen 5 bB) ?_;rintro e C ⟨rfl,hbC⟩;refine⟨hbC,?_⟩;have bC:=zst bB hbC;refine And.intro ?_ ?_
      ·refine s1 bC fun D hD=>?_;refine⟨At0 (L+2),ld1 D hD.2,?_⟩;refine s2 D hD fun F hF=>?_;refine s3 F hF fun G hG=>?_;exact⟨(),(cvE rfl rfl),hG⟩
      ·refine⟨At0 (L+2),ld0 bC,?_⟩;refine s1 bC fun D hD=>?_;refine s2 D hD fun F hF=>?_;refine s3 F hF fun G hG=>?_;exact⟨(),(cvE rfl rfl),hG⟩
     ·refine⟨At0 (L+2),ld0 bB,?_⟩;refine cmo (fen 5 bB) ?_;rintro e C ⟨rfl,hbC⟩;refine⟨hbC,?_⟩;have bC:=zst bB hbC;refine s1 bC fun D hD=>?_;refine s2 D hD fun F hF=>?_;refine s3 F hF fun G hG=>?_;exact⟨(),(cvE rfl rfl),hG⟩
   ·refine⟨At0 (L+2),ld0 bA,?_⟩;refine And.intro ?_ ?_
    ·refine cmo (fen 4 bA) ?_;rintro e B ⟨rfl,hbB⟩;refine⟨hbB,?_⟩;have bB:=zst bA hbB;refine And.intro ?_ ?_
     ·refine cmo (fen 5 bB) ?_;rintro e C ⟨rfl,hbC⟩;refine⟨hbC,?_⟩;have bC:=zst bB hbC;refine And.intro ?_ ?_
      ·refine s1 bC fun D hD=>?_;refine And.intro ?_ ?_
       ·refine s2 D hD fun F hF=>?_;refine⟨At0 (L+2),ld1 F hF.2,?_⟩;refine s3 F hF fun G hG=>?_;exact⟨(),(cvE rfl rfl),hG⟩
       ·refine⟨At0 (L+2),ld1 D hD.2,?_⟩;refine s2 D hD fun F hF=>?_;refine s3 F hF fun G hG=>?_;exact⟨(),(cvE rfl rfl),hG⟩
      ·refine⟨At0 (L+2),ld0 bC,?_⟩;refine s1 bC fun D hD=>?_;refine s2 D hD fun F hF=>?_;refine s3 F hF fun G hG=>?_;exact⟨(),(cvE rfl rfl),hG⟩
     ·refine⟨At0 (L+2),ld0 bB,?_⟩;refine cmo (fen 5 bB) ?_;rintro e C ⟨rfl,hbC⟩;refine⟨hbC,?_⟩;have bC:=zst bB hbC;refine s1 bC fun D hD=>?_;refine s2 D hD fun F hF=>?_;refine s3 F hF fun G hG=>?_;exact⟨(),(cvE rfl rfl),hG⟩
    ·refine⟨At0 (L+2),ld0 bA,?_⟩;refine cmo (fen 4 bA) ?_;rintro e B ⟨rfl,hbB⟩;refine⟨hbB,?_⟩;have bB:=zst bA hbB;refine cmo (fen 5 bB) ?_;rintro e C ⟨rfl,hbC⟩;refine⟨hbC,?_⟩;have bC:=zst bB hbC;refine s1 bC fun D hD=>?_;refine s2 D hD fun F hF=>?_;refine s3 F hF fun G hG=>?_;exact⟨(),(cvE rfl rfl),hG⟩
   ·refine⟨At0 (L+2),ld0 bA,?_⟩;refine And.intro ?_ ?_
    ·refine cmo (fen 4 bA) ?_;rintro e B ⟨rfl,hbB⟩;refine⟨hbB,?_⟩;have bB:=zst bA hbB;refine And.intro ?_ ?_
     ·refine cmo (fen 5 bB) ?_;rintro e C ⟨rfl,hbC⟩;refine⟨hbC,?_⟩;have bC:=zst bB hbC;refine And.intro ?_ ?_
      ·refine s1 bC fun D hD=>?_;refine⟨At0 (L+2),ld1 D hD.2,?_⟩;refine s2 D hD fun F hF=>?_;refine s3 F hF fun G hG=>?_;exact⟨(),(cvE rfl rfl),hG⟩
      ·refine⟨At0 (L+2),ld0 bC,?_⟩;refine s1 bC fun D hD=>?_;refine s2 D hD fun F hF=>?_;refine s3 F hF fun G hG=>?_;exact⟨(),(cvE rfl rfl),hG⟩
     ·refine⟨At0 (L+2),ld0 bB,?_⟩;refine cmo (fen 5 bB) ?_;rintro e C ⟨rfl,hbC⟩;refine⟨hbC,?_⟩;have bC:=zst bB hbC;refine s1 bC fun D hD=>?_;refine s2 D hD fun F hF=>?_;refine s3 F hF fun G hG=>?_;exact⟨(),(cvE rfl rfl),hG⟩
    ·refine⟨At0 (L+2),ld0 bA,?_⟩;refine cmo (fen 4 bA) ?_;rintro e B ⟨rfl,hbB⟩;refine⟨hbB,?_⟩;have bB:=zst bA hbB;refine cmo (fen 5 bB) ?_;rintro e C ⟨rfl,hbC⟩;refine⟨hbC,?_⟩;have bC:=zst bB hbC;refine s1 bC fun D hD=>?_;refine s2 D hD fun F hF=>?_;refine s3 F hF fun G hG=>?_;exact⟨(),(cvE rfl rfl),hG⟩
  ·refine⟨At0 (L+2),ld0 bY1,?_⟩;refine And.intro ?_ ?_
   ·refine cmo (fen 3 bY1) ?_;rintro e A ⟨rfl,hbA⟩;refine⟨hbA,?_⟩;have bA:=zst bY1 hbA;refine And.intro ?_ ?_
    ·refine cmo (fen 4 bA) ?_;rintro e B ⟨rfl,hbB⟩;refine⟨hbB,?_⟩;have bB:=zst bA hbB;refine And.intro ?_ ?_
     ·refine cmo (fen 5 bB) ?_;rintro e C ⟨rfl,hbC⟩;refine⟨hbC,?_⟩;have bC:=zst bB hbC;refine And.intro ?_ ?_
      ·refine s1 bC fun D hD=>?_;refine And.intro ?_ ?_
       ·refine s2 D hD fun F hF=>?_;refine⟨At0 (L+2),ld1 F hF.2,?_⟩;refine s3 F hF fun G hG=>?_;exact⟨(),(cvE rfl rfl),hG⟩
       ·refine⟨At0 (L+2),ld1 D hD.2,?_⟩;refine s2 D hD fun F hF=>?_;refine s3 F hF fun G hG=>?_;exact⟨(),(cvE rfl rfl),hG⟩
      ·refine⟨At0 (L+2),ld0 bC,?_⟩;refine s1 bC fun D hD=>?_;refine s2 D hD fun F hF=>?_;refine s3 F hF fun G hG=>?_;exact⟨(),(cvE rfl rfl),hG⟩
     ·refine⟨At0 (L+2),ld0 bB,?_⟩;refine cmo (fen 5 bB) ?_;rintro e C ⟨rfl,hbC⟩;refine⟨hbC,?_⟩;have bC:=zst bB hbC;refine s1 bC fun D hD=>?_;refine s2 D hD fun F hF=>?_;refine s3 F hF fun G hG=>?_;exact⟨(),(cvE rfl rfl),hG⟩
    ·refine⟨At0 (L+2),ld0 bA,?_⟩;refine cmo (fen 4 bA) ?_;rintro e B ⟨rfl,hbB⟩;refine⟨hbB,?_⟩;have bB:=zst bA hbB;refine cmo (fen 5 bB) ?_;rintro e C ⟨rfl,hbC⟩;refine⟨hbC,?_⟩;have bC:=zst bB hbC;refine s1 bC fun D hD=>?_;refine s2 D hD fun F hF=>?_;refine s3 F hF fun G hG=>?_;exact⟨(),(cvE rfl rfl),hG⟩
   ·refine⟨At0 (L+2),ld0 bY1,?_⟩;refine cmo (fen 3 bY1) ?_;rintro e A ⟨rfl,hbA⟩;refine⟨hbA,?_⟩;have bA:=zst bY1 hbA;refine cmo (fen 4 bA) ?_;rintro e B ⟨rfl,hbB⟩;refine⟨hbB,?_⟩;have bB:=zst bA hbB;refine cmo (fen 5 bB) ?_;rintro e C ⟨rfl,hbC⟩;refine⟨hbC,?_⟩;have bC:=zst bB hbC;refine s1 bC fun D hD=>?_;refine s2 D hD fun F hF=>?_;refine s3 F hF fun G hG=>?_;exact⟨(),(cvE rfl rfl),hG⟩
  ·refine⟨At0 (L+2),ld0 bY1,?_⟩;refine And.intro ?_ ?_
   ·refine cmo (fen 3 bY1) ?_;rintro e A ⟨rfl,hbA⟩;refine⟨hbA,?_⟩;have bA:=zst bY1 hbA;refine And.intro ?_ ?_
    ·refine cmo (fen 4 bA) ?_;rintro e B ⟨rfl,hbB⟩;refine⟨hbB,?_⟩;have bB:=zst bA hbB;refine And.intro ?_ ?_
     ·refine cmo (fen 5 bB) ?_;rintro e C ⟨rfl,hbC⟩;refine⟨hbC,?_⟩;have bC:=zst bB hbC;refine And.intro ?_ ?_
      ·refine s1 bC fun D hD=>?_;refine⟨At0 (L+2),ld1 D hD.2,?_⟩;refine s2 D hD fun F hF=>?_;refine s3 F hF fun G hG=>?_;exact⟨(),(cvE rfl rfl),hG⟩
      ·refine⟨At0 (L+2),ld0 bC,?_⟩;refine s1 bC fun D hD=>?_;refine s2 D hD fun F hF=>?_;refine s3 F hF fun G hG=>?_;exact⟨(),(cvE rfl rfl),hG⟩
     ·refine⟨At0 (L+2),ld0 bB,?_⟩;refine cmo (fen 5 bB) ?_;rintro e C ⟨rfl,hbC⟩;refine⟨hbC,?_⟩;have bC:=zst bB hbC;refine s1 bC fun D hD=>?_;refine s2 D hD fun F hF=>?_;refine s3 F hF fun G hG=>?_;exact⟨(),(cvE rfl rfl),hG⟩
    ·refine⟨At0 (L+2),ld0 bA,?_⟩;refine cmo (fen 4 bA) ?_;rintro e B ⟨rfl,hbB⟩;refine⟨hbB,?_⟩;have bB:=zst bA hbB;refine cmo (fen 5 bB) ?_;rintro e C ⟨rfl,hbC⟩;refine⟨hbC,?_⟩;have bC:=zst bB hbC;refine s1 bC fun D hD=>?_;refine s2 D hD fun F hF=>?_;refine s3 F hF fun G hG=>?_;exact⟨(),(cvE rfl rfl),hG⟩
   ·refine⟨At0 (L+2),ld0 bY1,?_⟩;refine cmo (fen 3 bY1) ?_;rintro e A ⟨rfl,hbA⟩;refine⟨hbA,?_⟩;have bA:=zst bY1 hbA;refine cmo (fen 4 bA) ?_;rintro e B ⟨rfl,hbB⟩;refine⟨hbB,?_⟩;have bB:=zst bA hbB;refine cmo (fen 5 bB) ?_;rintro e C ⟨rfl,hbC⟩;refine⟨hbC,?_⟩;have bC:=zst bB hbC;refine s1 bC fun D hD=>?_;refine s2 D hD fun F hF=>?_;refine s3 F hF fun G hG=>?_;exact⟨(),(cvE rfl rfl),hG⟩
 clear fS fP sY hbwY fY fM f0 hwX fX sX hbX hbY;clear X Y;rintro _ Z ⟨hS,fP,fM,f0,fZ,sZ,hbZ⟩;refine⟨Nat,fun R=>⟨[(1,At0 b),(2,At0 L),(4,At0 (L+1)),(5,At0 (L+3)),(6,At0 R)],[]⟩,fun R Y=>Y.heap[R]?=some (.cells zdU.toArray 318 (0,0))/\Bw Z Y,?_,?_⟩
 ·refine cmo zo3 ?_;rintro e Y ⟨rfl,hbY⟩;refine zaq (X:=Y) (v := .agg zdU.toArray) k318 rfl rfl rfl fun V hbV fV sV=>?_;exact⟨Y.heap.size,(cvE rfl rfl),fV,(zst hbY hbV)⟩
 rintro R Y ⟨fR,hbY⟩;have hbwY:=zst hbZ hbY;replace hS:=hS.below hbY;replace fP:=zab hbY fP;replace fM:=zab hbY fM;replace f0:=zab hbY f0;replace fZ:=zab hbY fZ;refine⟨Unit,fun _=>⟨[(4,At0 (L+1))],[]⟩,fun _ V=>RelH V (L+1) (zdw m.toNat x)/\Bw w V,?_,?_⟩
 ·refine⟨_,zac (zaa fZ) (i:=0) rfl,?_⟩;refine cmo (zlx (n:=x.ev.length) (caps := #[At0 (L+3),At0 R,At0 L]) (g:=231) (p:=fun a d=>hasM x.po a d&&(accA x a&&(accA x d&&zg0 m.toNat x (zaB x 3) (zaB x 4) (zaB x 5) a d))) (by omega) (by kernel_rfl) fun a d U ha hd hb=>zpw hk (hS.below hb) (zab hb fP) (zab hb fR) (zab hb fM) ha hd) ?_;rintro e V ⟨rfl,hbV⟩;replace f0:=zab hbV f0;refine zal (v := .agg (relC (zdw m.toNat x)).toArray) k102 f0 (zad _) (zad _) (zau _) ?_;exact⟨(),(cvE rfl rfl),zaj f0,zag ((zst hbwY hbV)) (by omega) _⟩
 rintro _ V ⟨f0,hbV⟩;exact⟨relC (zdw m.toNat x),zad _,zaa f0,rfl,hbV⟩
end
section
variable {b c:Nat} {x:ExD} {q:Option Addr} {w:World}
theorem zpv {m:UInt8}:Calls Tryz.prog 99 #[u8 m] w fun e w'=>e = .returned (.bool (zc0 m.toNat))/\w=w':=by
 refine cofE 9 [u8 m] Tryz.func99 ?_;refine biE (fun h=>?_) fun h=>?_
 ·have h:(1:Int)<=(m.toNat:Int):=dT h;refine⟨rb ?_,rfl⟩;unfold zc0;rw [decide_eq_true (by omega:1<=m.toNat),Bool.true_and];exact decide_eq_decide.2 (by show (m.toNat:Int)<=6↔_;omega)
 ·have h:¬ (1:Int)<=(m.toNat:Int):=dF h;refine⟨rb ?_,rfl⟩;unfold zc0;rw [decide_eq_false (by omega:¬ 1<=m.toNat)];rfl
theorem zpF {r:RelD} (hn:r.n=x.ev.length) (h48:x.ev.length<=48):WrdR (extM x r).to:=by
 unfold extM;exact zeU (by omega)
theorem zid {X:World} {g:Nat} {a b c:RelD} (h:X.heap[g]?=some (.cells (relC a++(relC b++relC c)).toArray 102 (0,0))):SlR relE X (some ⟨g,0,none⟩) [a,b,c] :=
 SlR.of_cells (hlt h) (by
  have:[a,b,c].flatMap relE.enc=relC a++(relC b++relC c):=by
   rw [List.flatMap_cons,List.flatMap_cons,List.flatMap_cons,List.flatMap_nil,List.append_nil];rfl
  rw [this];exact zaa h)
theorem zn4 {m:UInt8} (hk:zc0 m.toNat=true) (fx:ExH w b x q c) (hv:ExV w x q) (hrf:x.rf.n=x.ev.length) (hT:Tz64M w):CB 101 #[u8 m,At0 b] w (u8 (UInt8.ofNat (zdQ m.toNat x))):=by
 refine cofM 80 [u8 m,At0 b] (.c .p (.c .p (.c .p (.c .p (.c .p (.c .p (.c .p (.c .p (.c .p (.c .p .p)))))))))) Tryz.func101 ?_;obtain⟨L,hL⟩:=nm (w.heap.size);have hn:=hv.n;obtain⟨fw,frw⟩:=zox hv hT;have hba:∀ (A:World) (o:Obj),Bw A (A.alloc o):=fun A o=>(zba _ _);refine⟨Unit,fun _=>⟨[(0,u8 m),(3,At0 L)],[]⟩,fun _ X=>X.heap[L]?=some (.cells #[At0 b] 162 (0,0))/\Bw w X,⟨(),⟨.cons rfl (.cons (by rw [hL];rfl) .nil),rfl⟩,by rw [hL];exact hnew w _,hba w _⟩,?_⟩;rintro _ X ⟨fB,hbX⟩;refine⟨Nat,fun F=>⟨[(0,u8 m),(3,At0 L),(5,At0 F)],[]⟩,fun F Y=>RelH Y F (frM x)/\Y.heap[L]?=some (.cells #[At0 b] 162 (0,0))/\Bw w Y,?_,?_⟩
 ·refine⟨_,zac (zaa fB) (i:=0) rfl,?_⟩;refine cmo (fr_c (zab hbX fx) (hv.below hbX) (hT.below hbX)) ?_;rintro e Y ⟨rfl,hbY⟩;refine zaq (X:=Y) (v := .agg (relC (frM x)).toArray) k102 (zad _) (by kernel_rfl) (zau _) fun V hbV fV sV=>?_;have b1:=zst hbY hbV;exact⟨Y.heap.size,(cvE rfl rfl),fV,zab b1 fB,(zst hbX b1)⟩
 clear fB hbX;clear X;rintro F X ⟨fF,fB,hbX⟩;refine⟨Nat,fun G=>⟨[(0,u8 m),(3,At0 L),(5,At0 F),(6,At0 G)],[]⟩,fun G Y=>RelH Y G (zc7 x)/\RelH Y F (frM x)/\Y.heap[L]?=some (.cells #[At0 b] 162 (0,0))/\Bw w Y,?_,?_⟩
 ·refine⟨_,zac (zaa fB) (i:=0) rfl,?_⟩;have fX:=zab hbX fx;have hvX:=hv.below hbX;refine⟨_,zac (zaa fX) (i:=0) rfl,?_⟩;refine cmo (zlx (n:=x.ev.length) (caps := #[At0 L]) (g:=158) (p:=fun a d=>hasM x.po a d&&zdH x a d) (by omega) (by kernel_rfl) fun a d Z ha hd hb=>zmB (zab hb fB) (zab hb fX) (hvX.below hb) ha hd) ?_;rintro e Y ⟨rfl,hbY⟩;refine zaq (X:=Y) (v := .agg (relC (zc7 x)).toArray) k102 (zad _) (by kernel_rfl) (zau _) fun V hbV fV sV=>?_;have b1:=zst hbY hbV;exact⟨Y.heap.size,(cvE rfl rfl),fV,zab b1 fF,zab b1 fB,(zst hbX b1)⟩
 clear fF fB hbX;clear X;rintro G X ⟨fG,fF,fB,hbX⟩;have lw:WrdR (zc7 x).to:=zeU (by omega);have hbr:zdQ m.toNat x=if acyR (zaU (zc7 x) [x.rf,x.co,frM x])=true then (if zdE (zde x.rm (zbJ (frM x) x.co).1).1=true then (if m.toNat=1 then 0 else if acyR (zaU (zdw m.toNat x) [if m.toNat=2 then x.rf else extM x x.rf,x.co,frM x])=true then 0 else 3) else 2) else 1:=rfl
 refine⟨Unit,fun _=>⟨[(0,u8 m),(3,At0 L),(5,At0 F)],[]⟩,fun _ Y=>acyR (zaU (zc7 x) [x.rf,x.co,frM x])=true/\RelH Y F (frM x)/\Y.heap[L]?=some (.cells #[At0 b] 162 (0,0))/\Bw w Y,?_,?_⟩
 ·have dX:Bw X X.drew:=(Below.refl _ _).drew;have fX:=hdr (zab hbX fx);refine DrawE.ord [] [0,1,2,3,4,5,6,7,8,9,10,11,12,13] (by kernel_rfl) ?_;refine⟨relC (zc7 x),zad _,zaa (hdr fG),hlt (hdr fG),?_⟩;refine⟨_,zac (zaa (hdr fB)) (i:=0) rfl,?_⟩;refine⟨relC x.rf,zad _,zbg fX (i:=1) (by decide) rfl,hlt fX,?_⟩;refine⟨_,zac (zaa (hdr fB)) (i:=0) rfl,?_⟩;refine⟨relC x.co,zad _,zbg fX (i:=2) (by decide) rfl,hlt fX,?_⟩;refine⟨relC (frM x),zad _,zaa (hdr fF),hlt (hdr fF),?_⟩;refine⟨⟨by decide,by decide,rfl⟩,relC x.rf++(relC x.co++relC (frM x)),by kernel_rfl,?_⟩;refine⟨hba _ _,?_⟩;have b1:=dX.alloc (Nat.le_refl _) (.cells (relC x.rf++(relC x.co++relC (frM x))).toArray 102);have hl:=zid (hnew X.drew (.cells (relC x.rf++(relC x.co++relC (frM x))).toArray 102));have hw3:∀ o∈[x.rf,x.co,frM x],WrdR o.to:=by
   simp only [List.mem_cons,List.not_mem_nil,or_false,forall_eq_or_imp,forall_eq];exact⟨hv.rf,hv.co,frw⟩
  refine cmo (zh9 (l:=[x.rf,x.co,frM x]) lw hl hw3 (Nat.le_of_ble_eq_true rfl)) ?_;rintro e Y ⟨rfl,hbY⟩;refine⟨hbY,?_⟩;have b2:=zst b1 hbY;refine cmo (zed (zdj lw hw3) (hT.below ((zst hbX b2)))) ?_;rintro e Z ⟨rfl,hbZ⟩;refine⟨hbZ,?_⟩;have b3:=zst b2 hbZ;have b4:=zst hbX b3;refine biE (fun h=>?_) fun h=>?_
  ·have h:acyR (zaU (zc7 x) [x.rf,x.co,frM x])=false:=by
    have h:(!acyR (zaU (zc7 x) [x.rf,x.co,frM x]))=true:=h;simpa using h
   rw [h,if_neg (by decide)] at hbr;rw [hbr];exact⟨rfl,b4⟩
  ·have h:acyR (zaU (zc7 x) [x.rf,x.co,frM x])=true:=by
    have h:(!acyR (zaU (zc7 x) [x.rf,x.co,frM x]))=false:=h;simpa using h
   exact⟨(),(cvE rfl rfl),h,zab b3 fF,zab b3 fB,b4⟩
 clear fG fF fB hbX;clear X;rintro _ X ⟨h1,fF,fB,hbX⟩;rw [if_pos h1] at hbr;clear h1 lw G;refine⟨Nat,fun G=>⟨[(0,u8 m),(3,At0 L),(5,At0 F),(7,At0 G)],[]⟩,fun G Y=>RelH Y G (zbJ (frM x) x.co).1/\RelH Y F (frM x)/\Y.heap[L]?=some (.cells #[At0 b] 162 (0,0))/\Bw w Y,?_,?_⟩
 ·have dX:Bw X X.drew:=(Below.refl _ _).drew;have fX:=hdr (zab hbX fx);have put:∀ (W:World) (b3:Nat),Bw X W->RelH W b3 zav->X.heap.size<=b3->∀ {K:World->Prop},(∀ Y,(RelH Y b3 (zbJ (frM x) x.co).1/\RelH Y F (frM x)/\Y.heap[L]?=some (.cells #[At0 b] 162 (0,0))/\Bw w Y)->K Y) ->
    SatR ((storeVar 102 ⟨b3,0,none⟩ (.agg (relC (zbJ (frM x) x.co).1).toArray)).run Tryz.prog W) fun _ w'=>K w':=by
   intro W b3 hW f3 g3 K k;refine zal (v := .agg (relC (zbJ (frM x) x.co).1).toArray) k102 f3 (zad _) (zad _) (zau _) ?_;have hF2:=hlt fF;have hL2:=hlt fB;exact k _ ⟨zaj f3,(zam (by omega)).trans (zab hW fF),(zam (by omega)).trans (zab hW fB),zag ((zst hbX hW)) (by have:=hbX.size;omega) _⟩
  refine DrawE.treeQ [10] (.op 0 (.op 1 (.op 2 (.op 3 (.op 4 (.alt (.op 9 (.op 5 (.op 6 (.op 7 (.op 8 (.op 10 (.op 11 .nil))))))) (.op 5 (.op 6 (.op 7 (.op 8 (.op 9 (.op 10 (.op 11 .nil))))))))))))) (by kernel_rfl) ?_;refine⟨relC (frM x),zad _,zaa (hdr fF),hlt (hdr fF),?_⟩;refine⟨_,zac (zaa (hdr fB)) (i:=0) rfl,?_⟩;refine⟨relC x.co,zad _,zbg fX (i:=2) (by decide) rfl,hlt fX,?_⟩;refine And.intro ?_ ?_
  ·refine⟨hba _ _,?_⟩;have b1:=dX.alloc (Nat.le_refl _) (.cells (relC zav).toArray 102);refine cmo (zdF frw hv.co (hT.below ((zst hbX b1)))) ?_;rintro e Y ⟨rfl,hbY⟩;refine⟨hbY,?_⟩;refine put Y X.heap.size ((zst b1 hbY)) (zab hbY (hnew X.drew _)) (Nat.le_refl _) ?_;exact fun Y hY=>⟨X.heap.size,(cvE rfl rfl),hY⟩
  ·refine cmo (zdF frw hv.co (hT.below ((zst hbX dX)))) ?_;rintro e Y ⟨rfl,hbY⟩;refine⟨hbY,?_⟩;have b1:=zst dX hbY;refine⟨hba _ _,?_⟩;refine put _ Y.heap.size (b1.alloc b1.size _) (hnew Y _) b1.size ?_;exact fun V hV=>⟨Y.heap.size,(cvE rfl rfl),hV⟩
 clear fF fB hbX;clear X;rintro G X ⟨fG,fF,fB,hbX⟩;have tw:=zdS (a:=frM x) (b:=x.co) frw hv.co;refine⟨Nat,fun H=>⟨[(0,u8 m),(3,At0 L),(5,At0 F),(9,At0 H)],[]⟩,fun H Y=>RelH Y H (zde x.rm (zbJ (frM x) x.co).1).1/\RelH Y F (frM x)/\Y.heap[L]?=some (.cells #[At0 b] 162 (0,0))/\Bw w Y,?_,?_⟩
 ·have dX:Bw X X.drew:=(Below.refl _ _).drew;have fX:=hdr (zab hbX fx);obtain⟨tb,htb⟩:=nm ((zbJ (frM x) x.co).1);rw [<- htb] at fG tw ⊢;have put:∀ (W:World) (b3:Nat),Bw X W->RelH W b3 zav->X.heap.size<=b3->∀ {K:World->Prop},(∀ Y,(RelH Y b3 (zde x.rm tb).1/\RelH Y F (frM x)/\Y.heap[L]?=some (.cells #[At0 b] 162 (0,0))/\Bw w Y)->K Y) ->
    SatR ((storeVar 102 ⟨b3,0,none⟩ (.agg (relC (zde x.rm tb).1).toArray)).run Tryz.prog W) fun _ w'=>K w':=by
   intro W b3 hW f3 g3 K k;refine zal (v := .agg (relC (zde x.rm tb).1).toArray) k102 f3 (zad _) (zad _) (zau _) ?_;have hF2:=hlt fF;have hL2:=hlt fB;exact k _ ⟨zaj f3,(zam (by omega)).trans (zab hW fF),(zam (by omega)).trans (zab hW fB),zag ((zst hbX hW)) (by have:=hbX.size;omega) _⟩
  refine DrawE.treeQ [10] (.op 0 (.op 1 (.op 2 (.op 3 (.op 4 (.alt (.op 9 (.op 5 (.op 6 (.op 7 (.op 8 (.op 10 (.op 11 .nil))))))) (.op 5 (.op 6 (.op 7 (.op 8 (.op 9 (.op 10 (.op 11 .nil))))))))))))) (by kernel_rfl) ?_;refine⟨_,zac (zaa (hdr fB)) (i:=0) rfl,?_⟩;refine⟨relC x.rm,zad _,zbg fX (i:=5) (by decide) rfl,hlt fX,?_⟩;refine⟨relC tb,zad _,zaa (hdr fG),hlt (hdr fG),?_⟩;refine And.intro ?_ ?_
  ·refine⟨hba _ _,?_⟩;have b1:=dX.alloc (Nat.le_refl _) (.cells (relC zav).toArray 102);refine cmo (zoL hv.rm tw) ?_;rintro e Y ⟨rfl,hbY⟩;refine⟨hbY,?_⟩;refine put Y X.heap.size ((zst b1 hbY)) (zab hbY (hnew X.drew _)) (Nat.le_refl _) ?_;exact fun Y hY=>⟨X.heap.size,(cvE rfl rfl),hY⟩
  ·refine cmo (zoL hv.rm tw) ?_;rintro e Y ⟨rfl,hbY⟩;refine⟨hbY,?_⟩;have b1:=zst dX hbY;refine⟨hba _ _,?_⟩;refine put _ Y.heap.size (b1.alloc b1.size _) (hnew Y _) b1.size ?_;exact fun V hV=>⟨Y.heap.size,(cvE rfl rfl),hV⟩
 clear fG fF fB hbX;clear X G;rintro H X ⟨fH,fF,fB,hbX⟩;refine⟨Unit,fun _=>⟨[(0,u8 m),(3,At0 L),(5,At0 F)],[]⟩,fun _ Y=>zdE (zde x.rm (zbJ (frM x) x.co).1).1=true/\RelH Y F (frM x)/\Y.heap[L]?=some (.cells #[At0 b] 162 (0,0))/\Bw w Y,?_,?_⟩
 ·refine⟨relC (zde x.rm (zbJ (frM x) x.co).1).1,zad _,zaa fH,hlt fH,?_⟩;refine cmo (zqu (zn5 hv.rm)) ?_;rintro e Y ⟨rfl,hbY⟩;have b4:=zst hbX hbY;refine biE (fun h=>?_) fun h=>?_
  ·have h:zdE (zde x.rm (zbJ (frM x) x.co).1).1=false:=by
    have h:(!zdE (zde x.rm (zbJ (frM x) x.co).1).1)=true:=h;simpa using h
   rw [h,if_neg (by decide)] at hbr;rw [hbr];exact⟨rfl,b4⟩
  ·have h:zdE (zde x.rm (zbJ (frM x) x.co).1).1=true:=by
    have h:(!zdE (zde x.rm (zbJ (frM x) x.co).1).1)=false:=h;simpa using h
   exact⟨(),(cvE rfl rfl),h,zab hbY fF,zab hbY fB,b4⟩
 clear fH fF fB hbX tw;clear X H;rintro _ X ⟨h1,fF,fB,hbX⟩;rw [if_pos h1] at hbr;clear h1;refine⟨Unit,fun _=>⟨[(0,u8 m),(3,At0 L),(5,At0 F)],[]⟩,fun _ Y=>m.toNat≠1/\X=Y,?_,?_⟩
 ·refine biE (fun h=>?_) fun h=>?_
  ·have h:(m.toNat:Int)=1:=dT h;rw [if_pos (by omega)] at hbr;rw [hbr];exact⟨rfl,hbX⟩
  ·have h:¬ (m.toNat:Int)=1:=dF h;exact⟨(),(cvE rfl rfl),by omega,rfl⟩
 rintro _ _ ⟨h1,rfl⟩;rw [if_neg h1] at hbr;clear h1;refine⟨Nat,fun G=>⟨[(0,u8 m),(3,At0 L),(5,At0 F),(11,At0 G)],[]⟩,fun G Y=>G≠F/\G≠L/\w.heap.size<=G/\RelH Y G x.rf/\RelH Y F (frM x)/\Y.heap[L]?=some (.cells #[At0 b] 162 (0,0))/\Bw w Y,?_,?_⟩
 ·have fX:=zab hbX fx;refine⟨_,zac (zaa fB) (i:=0) rfl,?_⟩;refine⟨relC x.rf,zad _,zbg fX (i:=1) (by decide) rfl,hlt fX,?_⟩;refine zaq (X:=X) (v := .agg (relC x.rf).toArray) k102 (zad _) (by kernel_rfl) (zau _) fun V hbV fV sV=>?_;have hF2:=hlt fF;have hL2:=hlt fB;exact⟨X.heap.size,(cvE rfl rfl),by omega,by omega,hbX.size,fV,zab hbV fF,zab hbV fB,(zst hbX hbV)⟩
 clear fF fB hbX;clear X;rintro G X ⟨hGF,hGL,hGw,fG,fF,fB,hbX⟩;obtain⟨rfx,hrfx⟩:=nm (if m.toNat=2 then x.rf else extM x x.rf);have rfw:WrdR rfx.to:=by
  rw [hrfx]
  split
  ·exact hv.rf
  ·exact zpF hrf (by omega)
 rw [<- hrfx] at hbr;refine⟨Unit,fun _=>⟨[(0,u8 m),(3,At0 L),(5,At0 F),(11,At0 G)],[]⟩,fun _ Y=>RelH Y G rfx/\RelH Y F (frM x)/\Y.heap[L]?=some (.cells #[At0 b] 162 (0,0))/\Bw w Y,?_,?_⟩
 ·have fX:=zab hbX fx;have hvX:=hv.below hbX;refine biE (fun h=>?_) fun h=>?_
  ·have h:¬ m.toNat=2:=by
    have h:(!decide ((m.toNat:Int)=2))=true:=h;have h:¬ (m.toNat:Int)=2:=(by simpa using h);omega
   rw [if_neg h] at hrfx;refine⟨_,zac (zaa fB) (i:=0) rfl,?_⟩;refine⟨relC x.rf,zad _,zaa fG,hlt fG,?_⟩;refine cmo (zrZ fX hvX hv.rf hrf) ?_;rintro e Y ⟨rfl,hbY⟩;rw [<- hrfx];refine zal (v := .agg (relC rfx).toArray) k102 (zab hbY fG) (zad _) (zad _) (zau _) ?_;exact⟨(),(cvE rfl rfl),zaj (zab hbY fG),(zam (by omega)).trans (zab hbY fF),(zam (by omega)).trans (zab hbY fB),zag ((zst hbX hbY)) hGw _⟩
  ·have h:m.toNat=2:=by
    have h:(!decide ((m.toNat:Int)=2))=false:=h;have h:(m.toNat:Int)=2:=(by simpa using h);omega
   rw [if_pos h] at hrfx;rw [hrfx];exact⟨(),(cvE rfl rfl),fG,fF,fB,hbX⟩
 clear fG fF fB hbX hrfx;clear X;rintro _ X ⟨fG,fF,fB,hbX⟩;have kw:WrdR (zdw m.toNat x).to:=zeU (by omega);have dX:Bw X X.drew:=(Below.refl _ _).drew;have hbD:=zst hbX dX;have hw3:∀ o∈[rfx,x.co,frM x],WrdR o.to:=by
  simp only [List.mem_cons,List.not_mem_nil,or_false,forall_eq_or_imp,forall_eq];exact⟨rfw,hv.co,frw⟩
 have fD:=hdr (zab hbX fx);have hk0:∀ {Y:World},Bw X Y->CB 167 #[u8 m,At0 b] Y (.agg (relC (zdw m.toNat x)).toArray):=fun {Y} hY =>
  have h2:=zst hbX hY
  zqW hk (zab h2 fx) (hv.below h2) (hT.below h2)
 refine DrawE.treeQ [] (.op 0 (.op 1 (.op 3 (.op 4 (.op 5 (.op 6 (.op 7 (.op 8 (.alt (.op 9 (.op 2 (.op 10 (.op 11 (.op 12 .nil))))) (.op 2 (.op 9 (.op 10 (.op 11 (.op 12 .nil)))))))))))))) (by kernel_rfl) ?_;refine⟨_,zac (zaa (hdr fB)) (i:=0) rfl,?_⟩;refine⟨relC rfx,zad _,zaa (hdr fG),hlt (hdr fG),?_⟩;refine⟨_,zac (zaa (hdr fB)) (i:=0) rfl,?_⟩;refine⟨relC x.co,zad _,zbg fD (i:=2) (by decide) rfl,hlt fD,?_⟩;refine⟨relC (frM x),zad _,zaa (hdr fF),hlt (hdr fF),?_⟩;refine And.intro ?_ ?_
 ·refine⟨⟨by decide,by decide,rfl⟩,relC rfx++(relC x.co++relC (frM x)),by kernel_rfl,?_⟩;refine⟨hba _ _,?_⟩;have b1:=dX.alloc (Nat.le_refl _) (.cells (relC rfx++(relC x.co++relC (frM x))).toArray 102);have hl:=zid (hnew X.drew (.cells (relC rfx++(relC x.co++relC (frM x))).toArray 102));refine cmo (hk0 b1) ?_;rintro e Y ⟨rfl,hbY⟩;refine⟨hbY,?_⟩;have b2:=zst b1 hbY;refine cmo (zh9 (l:=[rfx,x.co,frM x]) kw (hl.below hbY) hw3 (Nat.le_of_ble_eq_true rfl)) ?_;rintro e V ⟨rfl,hbV⟩;refine⟨hbV,?_⟩;have b3:=zst b2 hbV;refine cmo (zed (zdj kw hw3) (hT.below ((zst hbX b3)))) ?_;rintro e Z ⟨rfl,hbZ⟩;refine⟨hbZ,?_⟩;have b5:=hbX.trans (((zst b3 hbZ)).mono hbX.size);refine biE (fun h=>?_) fun h=>?_
  ·have h:acyR (zaU (zdw m.toNat x) [rfx,x.co,frM x])=false:=by
    have h:(!acyR (zaU (zdw m.toNat x) [rfx,x.co,frM x]))=true:=h;simpa using h
   rw [h,if_neg (by decide)] at hbr;rw [hbr];exact⟨rfl,b5⟩
  ·have h:acyR (zaU (zdw m.toNat x) [rfx,x.co,frM x])=true:=by
    have h:(!acyR (zaU (zdw m.toNat x) [rfx,x.co,frM x]))=false:=h;simpa using h
   rw [h,if_pos rfl] at hbr;rw [hbr];exact⟨rfl,b5⟩
 ·refine cmo (hk0 dX) ?_;rintro e Y ⟨rfl,hbY⟩;refine⟨hbY,?_⟩;have b1:=zst dX hbY;refine⟨⟨by decide,by decide,rfl⟩,relC rfx++(relC x.co++relC (frM x)),by kernel_rfl,?_⟩;refine⟨hba _ _,?_⟩;have b2:=b1.alloc b1.size (.cells (relC rfx++(relC x.co++relC (frM x))).toArray 102);have hl:=zid (hnew Y (.cells (relC rfx++(relC x.co++relC (frM x))).toArray 102));refine cmo (zh9 (l:=[rfx,x.co,frM x]) kw hl hw3 (Nat.le_of_ble_eq_true rfl)) ?_;rintro e V ⟨rfl,hbV⟩;refine⟨hbV,?_⟩;have b3:=zst b2 hbV;refine cmo (zed (zdj kw hw3) (hT.below ((zst hbX b3)))) ?_;rintro e Z ⟨rfl,hbZ⟩;refine⟨hbZ,?_⟩;have b5:=hbX.trans (((zst b3 hbZ)).mono hbX.size);refine biE (fun h=>?_) fun h=>?_
  ·have h:acyR (zaU (zdw m.toNat x) [rfx,x.co,frM x])=false:=by
    have h:(!acyR (zaU (zdw m.toNat x) [rfx,x.co,frM x]))=true:=h;simpa using h
   rw [h,if_neg (by decide)] at hbr;rw [hbr];exact⟨rfl,b5⟩
  ·have h:acyR (zaU (zdw m.toNat x) [rfx,x.co,frM x])=true:=by
    have h:(!acyR (zaU (zdw m.toNat x) [rfx,x.co,frM x]))=false:=h;simpa using h
   rw [h,if_pos rfl] at hbr;rw [hbr];exact⟨rfl,b5⟩
theorem znj (h:zcy x=true):x.rf.n=x.ev.length:=by
 unfold zcy zcG at h;simp only [List.all_cons,List.all_nil,Bool.and_true,bAT,dE] at h;obtain⟨_,_,_,_,⟨_,h6,_⟩,_⟩:=h;exact h6.1
theorem zpl {A B C:Bool} {m:Nat}:(if A=true then (if B=true then (if m=1 then 0 else if C=true then 0 else 3) else 2) else 1)<=3:=by
 by_cases h:m=1 <;> cases A <;> cases B <;> cases C <;> simp [h]
theorem zmC {m:Nat} {x:ExD}:decide ((((UInt8.ofNat (zdQ m x)).toNat:Nat):Int)=0)=decide (zdQ m x=0):=by
 have h:zdQ m x<=3:=by
  unfold zdQ;exact zpl
 refine decide_eq_decide.2 ?_;rw [UInt8.toNat_ofNat'];omega
theorem zqt {m:UInt8} (hv:ExV w x q) (hT:Tz64M w):CB 51 #[u8 m,.agg (exC x q c).toArray] w (.bool (zgs m.toNat x)):=by
 refine cofM 16 [u8 m,.agg (exC x q c).toArray] (.c .p .p) Tryz.func51 ?_;obtain⟨L,hL⟩:=nm (w.heap.size);refine⟨Unit,fun _=>⟨[(0,u8 m),(3,At0 L)],[]⟩,fun _ X=>ExH X L x q c/\Bw w X,⟨(),⟨.cons rfl (.cons (by rw [hL];rfl) .nil),rfl⟩,by rw [hL];exact hnew w _,(zba w _)⟩,?_⟩;rintro _ X ⟨fX,hbX⟩;refine cmo zpv ?_;rintro e _ ⟨rfl,rfl⟩;refine biE (fun h1=>?_) fun h1=>?_
 ·have h1:zc0 m.toNat=true:=h1;refine⟨exC x q c,zaC _ _ _,zaa fX,hlt fX,?_⟩;refine cmo (zod (hv.below hbX) (hT.below hbX)) ?_;rintro e Y ⟨rfl,hbY⟩;have bY:=zst hbX hbY;refine biE (fun h2=>?_) fun h2=>?_
  ·have h2:zcy x=true:=h2;refine cmo (zn4 h1 (zab hbY fX) (hv.below bY) (znj h2) (hT.below bY)) ?_;rintro e Z ⟨rfl,hbZ⟩;refine⟨rb ?_,(zst bY hbZ)⟩;unfold zgs;rw [h1,h2];exact zmC
  ·have h2:zcy x=false:=h2;exact⟨rb (by unfold zgs;rw [h2];cases zc0 m.toNat <;> rfl),bY⟩
 ·have h1:zc0 m.toNat=false:=h1;refine brF ?_;exact⟨rb (by unfold zgs;rw [h1];rfl),hbX⟩
end
theorem zdg {r:RelD} (h:wrdB r=true):WrdR r.to:=by
 unfold wrdB at h;rw [List.all_eq_true] at h;exact fun i hi=>dT (h i (List.mem_range.2 hi))
theorem znQ {X:World} {x:ExD} {q:Option Addr} (h:exvB x=true) (he:SlR evE X q x.ev):ExV X x q:=by
 unfold exvB at h;simp only [bAT,dE] at h;obtain⟨h1,h2,h3,h4,h5,h6,h7⟩:=h;exact⟨he,h1,zdg h2,zdg h3,zdg h4,zdg h5,zdg h6,zdg h7⟩
theorem zpK {X:World} {b:Nat} {x:ExD} {q:Option Addr} {c:Nat} (fx:ExH X b x q c):zax X ⟨b,0+295,none⟩ (finE.enc (finX x)):=by
 have h:=zaw (n:=295) (m:=38) (zaa fx);have e:((exC x q c).toArray.toList.drop 295).take 38=finE.enc (finX x):=by
  show ((exC x q c).drop 295).take 38=_;unfold finX;rw [ze0];obtain⟨A,hA,hE⟩:∃ A:List Value,A.length=295/\exC x q c=A++finS x.regs x.mem :=
   ⟨.slice q x.ev.length c::(relC x.po++(relC x.rf++(relC x.co++(relC x.dt++(relC x.ct++relC x.rm))))),by simp only [List.length_cons,lap,zad],by simp only [exC,finS,List.append_assoc,List.cons_append]⟩
  rw [hE,<- hA,List.drop_left,List.take_of_length_le (by rw [znO];decide)]
 rw [<- e];exact h
theorem zjQ (m:Nat) (l:List ExD) (x:ExD):byL m (l++[x])=byL m l++if zgs m x=true then [finX x] else []:=by
 unfold byL;rw [List.filter_append,List.map_append,List.filter_cons,List.filter_nil]
 split <;> rfl
section
variable {w:World} {B n most:Nat} {pc:List Value} {p:Prg} {V:List UInt8} {m:UInt8}
theorem zrI {pc:List Value} (hpc:pc.length=10):CB 29 #[.agg pc.toArray,u8 7,i64 most] w (.tuple #[.slice none 0 0,i64 2]):=by
 refine cofE 45 [.agg pc.toArray,u8 7,i64 most] Tryz.func29 ?_;refine brF ?_;refine brT ?_;exact⟨rfl,(zba w _)⟩
theorem By_c (hB:B<=w.heap.size) (hP:PrgX B w pc p) (hG:GlobE w) (hQ:CandQ p n V most) (hx:(zbM p V).all exvB=true) (hm:1<=m.toNat/\m.toNat<=6) :
  Calls Tryz.prog 29 #[.agg pc.toArray,u8 m,i64 most] w fun e w'=>(∃ q c,e = .returned (.tuple #[.slice q (zdu (byL m.toNat (zbM p V))).length c,i64 0])/\OwnS finE 27 w.heap.size w' q c (zdu (byL m.toNat (zbM p V))))/\Bw w w':=by
 refine cofM 45 [.agg pc.toArray,u8 m,i64 most] (.c .p (.s .p (.c .p (.s .p (.s .p (.c (.s .p (.b (.l (.s .p (.s .p (.s (.b (.c .p .p)) .p)))))) .p)))))) Tryz.func29 ?_;obtain⟨L,hL⟩:=nm (w.heap.size);have hpc:=hP.v.size;obtain⟨M,hM⟩:=nm (m.toNat);rw [<- hM] at hm ⊢;refine⟨Unit,fun _=>⟨[(1,u8 m),(2,i64 most),(3,At0 L)],[]⟩,fun _ X=>X.heap[L]?=some (.cells pc.toArray 45 (0,0))/\Bw w X,⟨(),⟨.cons rfl (.cons rfl (.cons (by rw [hL];rfl) .nil)),rfl⟩,by rw [hL];exact hnew w _,(zba w _)⟩,?_⟩;rintro _ X ⟨f0,hbX⟩;refine brN (decide_eq_false (by omega)) ?_;refine brN (decide_eq_false (by omega)) ?_;have hXs:=hbX.size;refine⟨List exE3×Option Addr×Nat,fun s=>⟨[(1,u8 m),(8,.slice s.2.1 s.1.length s.2.2),(9,i64 0)],[]⟩,fun s Y=>s.1.map (·.1)=zbM p V/\OwnS exE 104 X.heap.size Y s.2.1 s.2.2 s.1/\(∀ x∈s.1,OwnS evE 225 X.heap.size Y x.2.1 x.2.2 x.1.ev)/\Bw w Y,?_,?_⟩
 ·refine⟨pc,hpc,zaa f0,hlt f0,?_⟩;refine cmo (zqw (Nat.le_trans hB hXs) (hP.below (hbX.mono hB)) (hG.below hbX) hQ) ?_;rintro e Y ⟨⟨xs,q,c,rfl,h1,h2,h3⟩,hbY⟩;exact⟨(xs,q,c),(cvE rfl rfl),h1,h2,h3,hbX.trans (hbY.mono hXs)⟩
 rintro⟨xs,q,c⟩ Y ⟨hxs,oX,hev,hbY⟩;dsimp only at hxs oX hev ⊢;refine brF ?_;obtain⟨D,hD⟩:=nm (Y.heap.size);have hxl:xs.length<=30000:=by
  have:=congrArg List.length hxs;rw [List.length_map] at this;have:=hQ.len;omega
 refine⟨List FinV×Option Addr×Nat,fun s=>⟨[(10,.slice s.2.1 s.1.length s.2.2)],[]⟩,fun s Z=>s.1=byL M (zbM p V)/\s.1.length<=30000/\OwnS finE 27 D Z s.2.1 s.2.2 s.1/\Below D Y Z,?_,?_⟩
 ·refine⟨Nat×List FinV×Option Addr×Nat,fun s=>⟨[(1,u8 m),(10,.slice s.2.2.1 s.2.1.length s.2.2.2),(28,.slice q xs.length c),(29,i64 xs.length),(30,i64 (s.1:Nat))],[]⟩,
   fun s Z=>s.1<=xs.length/\s.2.1=byL M ((xs.take s.1).map (·.1))/\s.2.1.length<=s.1/\OwnS finE 27 D Z s.2.2.1 s.2.2.2 s.2.1/\Below D Y Z,fun s=>xs.length-s.1,(0,[],none,0),
   (cvE rfl rfl),⟨Nat.zero_le _,rfl,Nat.le_refl _,OwnS.nil,by rw [hD];exact Below.refl _ _⟩,?_⟩
  rintro⟨k,out,po,co⟩ Z ⟨hk,hout,hlo,oZ,hbZ⟩;dsimp only at hk hout hlo oZ ⊢;have hZs:D<=Z.heap.size:=by have:=hbZ.size;omega
  refine biE (fun hc=>?_) fun hc=>?_
  ·have hc:(k:Int)<(xs.length:Int):=dT hc;have hkl:k<xs.length:=by omega
   obtain⟨bx,ox,hq,hbx,hat⟩:=oX.row.at hkl;obtain⟨y,hy⟩:∃ y,xs[k]=y:=⟨_,rfl⟩;have hym:y∈xs:=by rw [<- hy];exact gM hkl
   have htk:(xs.take (k+1)).map (·.1)=(xs.take k).map (·.1)++[y.1]:=by rw [tsg hkl,hy,List.map_append];rfl
   have hatk:=hat k hkl;rw [hy] at hatk;have hatk:zax Y ⟨bx,ox+k*333,none⟩ (exC y.1 y.2.1 y.2.2):=hatk;have hyx:exvB y.1=true:=List.all_eq_true.1 hx _ (by rw [<- hxs];exact List.mem_map_of_mem hym);subst hq;refine⟨Nat,fun s=>⟨[(1,u8 m),(10,.slice po out.length co),(12,At0 s),(28,.slice (some ⟨bx,ox,none⟩) xs.length c),(29,i64 xs.length),(30,i64 (k:Nat))],[]⟩,
    fun s U=>ExH U s y.1 y.2.1 y.2.2/\Bw Z U,?_,?_⟩
   ·refine⟨k,rfl,hkl,?_⟩;refine⟨exC y.1 y.2.1 y.2.2,zaC _ _ _,zbb hbZ (by show bx<D;omega) hatk,by show bx<_;omega,?_⟩;refine zaq (X:=Z) (v := .agg (exC y.1 y.2.1 y.2.2).toArray) k104 (zaC _ _ _) zcu (zc9 _ _ _) fun U hbU fU sU=>?_;exact⟨Z.heap.size,(cvE rfl rfl),fU,hbU⟩
   rintro bu U ⟨fU,hbU⟩;have hbU2:=hbZ.trans (hbU.mono hZs);have hbwU:Bw w U:=hbY.trans (hbU2.mono (by have:=hbY.size;omega));refine⟨exC y.1 y.2.1 y.2.2,zaC _ _ _,zaa fU,hlt fU,?_⟩;refine cmo (zqt (znQ hyx ((hev y hym).row.below (by show Below _ _ _;rw [<- hD];exact hbU2))) (hG.below hbwU).t64) ?_;rw [<- hM];rintro e T ⟨rfl,hbT⟩;have fT:=zab hbT fU;have oT:=(oZ.below hbU).below hbT;have hbT2:=hbU2.trans (hbT.mono (by have:=hbU2.size;omega));have hTs:D<=T.heap.size:=by have:=hbT2.size;omega
   refine biE (fun h=>?_) fun h=>?_
   ·refine⟨finE.enc (finX y.1),finE.len _,zpK fT,hlt fT,?_⟩;refine⟨⟨by decide,by decide,rfl⟩,finE.enc (finX y.1),zce (finE.len _) rfl,?_⟩;have hb2:Bw T (T.alloc (.cells (finE.enc (finX y.1)).toArray 27)):=zba _ _;have sb2:=hb2.size;unfold opsE zcp;show SatR _ _;refine zbh Tryz.underlying35 k27 rfl rfl rfl (oT.below hb2) (news:=[finX y.1]) rfl (zaV finE (finX y.1)) (by omega) (by show out.length+1<=_;omega) (by show (out.length+1)*38<=_;omega) fun p' c' S oS gS hbS hat2=>?_;refine nxI (by omega) ?_;exact⟨(k+1,out++[finX y.1],p',c'),(cvE rfl rfl),⟨hkl,by rw [htk,zjQ,if_pos h,hout],by rw [lap];show _+1<=_;omega,oS,(hbT2.trans (hb2.mono hTs)).trans hbS⟩,zdc (by omega)⟩
   ·refine nxI (by omega) ?_;exact⟨(k+1,out,po,co),(cvE rfl rfl),⟨hkl,by rw [htk,zjQ,if_neg (by rw [h];decide),hout];simp,by show out.length<=k+1;omega,oT,hbT2⟩,zdc (by omega)⟩
  ·have hc:¬ (k:Int)<(xs.length:Int):=dF hc;obtain rfl:k=xs.length:=by omega
   rw [List.take_length,hxs] at hout;exact⟨(out,po,co),(cvE rfl rfl),hout,by show out.length<=30000;omega,oZ,hbZ⟩
 rintro⟨out,po,co⟩ Z ⟨rfl,hlo,oZ,hbZ⟩;dsimp only at hlo oZ ⊢;have hwY:=hbY.size;have hb:=hbY.trans (hbZ.mono (by omega));refine cmo (zoK oZ.row (by omega) (fun h=>by
  rcases oZ.inv with ⟨_,h2,_⟩ | ⟨g,cur,h2,_⟩
  ·exact h2
  ·rw [h] at h2;cases h2)) ?_
 rintro e U ⟨q2,c2,rfl,oU,hbU⟩;exact⟨⟨q2,c2,rfl,oU.lower hb.size⟩,(zst hb hbU)⟩
end
section
variable {w:World} {pa pb:Option Addr} {ca cb:Nat} {la lb:List FinV}
theorem zj1 (ha:SlR finE w pa la) (hb:SlR finE w pb lb) (hn:la.length<=1000000):CB 19 #[.slice pa la.length ca,.slice pb lb.length cb] w (.bool (decide (la=lb))):=by
 refine cofE 26 [.slice pa la.length ca,.slice pb lb.length cb] Tryz.func19 ?_;refine biE (fun h=>?_) fun h=>?_
 ·have h:¬ la=lb:=fun e=>by subst e;have h:(!decide ((la.length:Int)=(la.length:Int)))=true:=h;simp at h
  exact⟨by rw [decide_eq_false h];rfl,Below.refl _ _⟩
 have hl:la.length=lb.length:=by
  have h:(!decide ((la.length:Int)=(lb.length:Int)))=false:=h;have:=dT (by simpa using h:decide ((la.length:Int)=(lb.length:Int))=true);omega
 clear h;refine⟨Nat,fun k=>⟨[(0,.slice pa la.length ca),(1,.slice pb lb.length cb),(11,.slice pa la.length ca),(12,i64 la.length),(13,i64 k)],[]⟩,fun k X=>k<=la.length/\la.take k=lb.take k/\Bw w X,fun k=>la.length-k,0,
  (cvE rfl rfl),⟨Nat.zero_le _,rfl,Below.refl _ _⟩,?_⟩
 rintro k X ⟨hk,ht,bX⟩;refine biE (fun h=>?_) fun h=>?_
 ·have hka:k<la.length:=by have:=dT h;omega
  have hkb:k<lb.length:=by omega
  have bd:=bX.trans ((Below.refl X.heap.size X).drew.mono bX.size);obtain⟨b1,o1,rfl,hl1,hat1⟩:=(ha.below bd).at hka;obtain⟨b2,o2,rfl,hl2,hat2⟩:=(hb.below bd).at hkb;obtain⟨x,hx⟩:=nm (la[k]);obtain⟨y,hy⟩:=nm (lb[k]);have c1:=hat1 k hka;have c2:=hat2 k hkb;rw [<- hx] at c1;rw [<- hy] at c2;refine DrawE.ord [] [0,1,2,3,4,5,6,7,8] (by kernel_rfl) ?_;refine⟨k,rfl,hka,?_⟩;refine⟨finE.enc x,finE.len x,c1,hl1,?_⟩;refine⟨k,rfl,hkb,?_⟩;refine⟨finE.enc y,finE.len y,c2,hl2,?_⟩;refine⟨_,fun w=>zjt _ _ x y w,?_⟩;refine biE (fun h=>?_) fun h=>?_
  ·have h:¬ x=y:=by simpa using h
   have hne:¬ la=lb:=fun e=>h (by subst e;rw [hx,hy]);exact⟨by rw [decide_eq_false hne];rfl,bd⟩
  ·have h:x=y:=by simpa using h
   refine⟨_,zaf (by omega),?_⟩;exact⟨k+1,(cvE rfl rfl),⟨hka,by rw [tsg hka,tsg hkb,ht,<- hx,<- hy,h],bd⟩,by dsimp only;omega⟩
 ·have hke:k=la.length:=by have:=dF h;omega
  subst hke;have e:la=lb:=by
   rw [List.take_length,hl,List.take_length] at ht;exact ht
  exact⟨by rw [decide_eq_true e];rfl,bX⟩
end
theorem znY (d:Nat) (a b:Bool) (w:World):(Op.equalIn (d+1) 4 (.bool a) (.bool b)).run Tryz.prog w = .ok (decide (a=b)) w:=by
 simp only [Op.equalIn,Sem.run_bind,run_underlying Tryz.underlying4,Result.andThen_ok,Sem.run_pure]
 cases a <;> cases b <;> rfl
theorem zl8 (x y:Operand) (a b:Bool) (w:World):(do eqGuard .eql 4 x y (.bool a) (.bool b);binOp .eql 4 (.bool a) (.bool b)).run Tryz.prog w = .ok (.bool (decide (a=b))) w:=by
 have h:(Op.equal 4 (.bool a) (.bool b)).run Tryz.prog w = .ok (decide (a=b)) w:=znY 9999 a b w;have h1:(eqGuard .eql 4 x y (.bool a) (.bool b)).run Tryz.prog w = .ok () w:=rfl;rw [Sem.run_bind,h1];simp only [Result.andThen_ok,binOp,Sem.run_bind,h,Sem.run_pure]
theorem ziA {c:Cnd} {l:List FinV} (h:incB l=true):zgX c l=(l.filter fun f=>za1 f 20 c).length:=by
 unfold zgX;rw [zgd (zeY h)]
theorem zmH {a:UInt8} {c:Cnd} {l:List FinV} (h:incB l=true):askB a c l=if a=1 then decide (0<(l.filter fun f=>za1 f 20 c).length) else if a=2 then decide ((l.filter fun f=>za1 f 20 c).length=0) else if a=3 then decide ((l.filter fun f=>za1 f 20 c).length=l.length) else false:=by
 unfold askB;rw [ziA h,zgd (zeY h)]
def zkG:List Cnd:=[.mk 1 0 0 0 [],.mk 1 1 0 0 []]
abbrev zdR:Cnd := .mk 3 0 0 0 zkG
theorem zig:incB scL=true:=by kernel_rfl
theorem zi9:incB tsoL=true:=by kernel_rfl
theorem zoY:askB 1 zdR scL=false:=(zmH zig).trans (by kernel_rfl)
theorem zoX:askB 2 zdR scL=true:=(zmH zig).trans (by kernel_rfl)
theorem zld (a:UInt8) (h:a=1\/a=2\/a=3):zgW a zdR scL=0:=by unfold zgW;rw [if_pos h,ziA zig];kernel_rfl
theorem zm2:askB 1 zdR tsoL=true:=(zmH zi9).trans (by kernel_rfl)
theorem zm1:zgW 1 zdR tsoL=1:=by unfold zgW;rw [if_pos (.inl rfl),ziA zi9];kernel_rfl
def okT:List UInt8:=[48,58,114,48,61,49,32,49,58,114,48,61,49,32,120,61,49,32,121,61,49]
theorem zoV:zm9 bufP (outF 1 1)=okT:=by kernel_rfl
theorem KidsG.empty {B:Nat} {w:World}:KidsG B w none [] := .mk none [] (by decide) 0 0 (.inl rfl) (fun _=>none) (fun _=>0) (fun i hi=>by simp at hi) (fun i hi=>by simp at hi)
theorem zlP {X:World} {g:Nat} (f:X.heap[g]?=some (.cells (zap (.mk 1 0 0 0 []) none 0++zap (.mk 1 1 0 0 []) none 0).toArray 29 (0,0))):KidsG X.heap.size X (some ⟨g,0,none⟩) zkG:=by
 refine .mk _ _ (by decide) g 0 (.inr ⟨rfl,hlt f,_,_,f⟩) (fun _=>none) (fun _=>0) (fun i hi=>?_) (fun i hi=>?_)
 ·match i,hi with
  | 0,_=>exact zaw (n:=0) (m:=5) (zaa f)
  | 1,_=>exact zaw (n:=5) (m:=5) (zaa f)
 ·match i,hi with
  | 0,_=>exact .empty
  | 1,_=>exact .empty
section
variable {w:World}
abbrev FsV (X:World) (l:List FinV) (s:Option Addr×Nat):Prop:=SlR finE X s.1 l/\(s.1=none->s.2=0)
theorem znr {E:Enc FinV} {T B c:Nat} {w:World} {q:Option Addr} {l:List FinV} (h:OwnS E T B w q c l):q=none->c=0:=fun e=>by
 rcases h.inv with ⟨_,h2,_⟩ | ⟨g,cur,h2,_⟩
 ·exact h2
 ·rw [e] at h2;cases h2
theorem zoG {X:World} {m:UInt8} {vs:List Value} {l:List FinV} (hG:GlobE X) (hP:PrgX X.heap.size X vs bufP) (hm:1<=m.toNat/\m.toNat<=6) (hl:zdu (byL m.toNat (zbM bufP [0,1]))=l):Calls Tryz.prog 29 #[.agg vs.toArray,u8 m,i64 (100:Nat)] X fun e Y =>
  ∃ s:Option Addr×Nat,e = .returned (.tuple #[.slice s.1 l.length s.2,i64 0])/\FsV Y l s/\Bw X Y:=by
 have hx:(zbM bufP [0,1]).all exvB=true:=(bAT _ _▸zrr:_/\_).1;refine (By_c (n:=5) (V:=[0,1]) (most:=100) (m:=m) (Nat.le_refl _) hP hG (zn0 zr4) hx hm).mono ?_;rintro e Y ⟨⟨q,c,rfl,ho⟩,hb⟩;rw [hl] at ho ⊢;exact⟨(q,c),rfl,⟨ho.row,znr ho⟩,hb⟩
theorem FsV.below {X Y:World} {l:List FinV} {s:Option Addr×Nat} (h:FsV X l s) (hb:Bw X Y):FsV Y l s:=⟨h.1.below hb,h.2⟩
theorem zrv (hG:GlobE w):CB 10 #[] w (.bool true):=by
 refine cofM 125 [] (.s .p (.c .p (.c .p (.c .p (.c .p (.c .p (.c .p (.c .p (.c .p .p))))))))) Tryz.func10 ?_;refine⟨Option Addr×Nat,fun s=>⟨[(1,.slice s.1 scL.length s.2),(2,i64 0)],[]⟩,fun s X=>FsV X scL s/\Bw w X,?_,?_⟩
 ·refine cmo zcX ?_;rintro e X ⟨⟨vs,rfl,hP⟩,b1⟩;refine cmo (zoG (m:=2) (hG.below b1) hP (by decide) zrU) ?_;rintro e Y ⟨s,rfl,hs,b2⟩;exact⟨s,(cvE rfl rfl),hs,(zst b1 b2)⟩
 rintro s1 X1 ⟨h1,b1⟩;refine⟨Option Addr×Nat,fun s=>⟨[(1,.slice s1.1 scL.length s1.2),(2,i64 0),(3,.slice s.1 tsoL.length s.2),(4,i64 0)],[]⟩,fun s X=>FsV X scL s1/\FsV X tsoL s/\Bw w X,?_,?_⟩
 ·refine cmo zcX ?_;rintro e X ⟨⟨vs,rfl,hP⟩,b2⟩;have b12:=zst b1 b2;refine cmo (zoG (m:=3) (hG.below b12) hP (by decide) zqA) ?_;rintro e Y ⟨s,rfl,hs,b3⟩;exact⟨s,(cvE rfl rfl),(h1.below b2).below b3,hs,(zst b12 b3)⟩
 clear h1 b1 X1;rintro s2 X ⟨h1,h2,bX⟩;refine⟨Unit,fun _=>⟨[(1,.slice s1.1 scL.length s1.2),(2,i64 0),(3,.slice s2.1 tsoL.length s2.2),(4,i64 0),(6,i64 2)],[]⟩,fun _ X=>FsV X scL s1/\FsV X tsoL s2/\Bw w X,?_,?_⟩
 ·refine cmo zcX ?_;rintro e Y ⟨⟨vs,rfl,hP⟩,b2⟩;refine cmo (zrI (most:=100) hP.v.size) ?_;rintro e Z ⟨rfl,b3⟩;have b23:=zst b2 b3;exact⟨(),(cvE rfl rfl),h1.below b23,h2.below b23,(zst bX b23)⟩
 clear h1 h2 bX X;rintro _ X ⟨h1,h2,bX⟩;refine⟨Nat×Nat,fun s=>⟨[(1,.slice s1.1 scL.length s1.2),(2,i64 0),(3,.slice s2.1 tsoL.length s2.2),(4,i64 0),(6,i64 2),(7,At0 s.2)],[]⟩,fun s X=>FsV X scL s1/\FsV X tsoL s2/\Bw w X/\X.heap[s.2]?=some (.cells (zap zdR (some ⟨s.1,0,none⟩) 2).toArray 29 (0,0))/\KidsG X.heap.size X (some ⟨s.1,0,none⟩) zkG,?_,?_⟩
 ·refine cmo (zqF (t:=0) (n:=0) (v:=0)) ?_;rintro e Y1 ⟨rfl,b1⟩;refine cmo (zqF (t:=1) (n:=0) (v:=0)) ?_;rintro e Y2 ⟨rfl,b2⟩;refine⟨⟨by decide,by decide,rfl⟩,zap (.mk 1 0 0 0 []) none 0++zap (.mk 1 1 0 0 []) none 0,by kernel_rfl,?_⟩;have f3:=hnew Y2 (.cells (zap (.mk 1 0 0 0 []) none 0++zap (.mk 1 1 0 0 []) none 0).toArray 29);have b3:Bw Y2 (Y2.alloc (.cells (zap (.mk 1 0 0 0 []) none 0++zap (.mk 1 1 0 0 []) none 0).toArray 29)):=zba _ _;refine cmo (of_c (k:=3) (kids:=zkG) (q:=some ⟨Y2.heap.size,0,none⟩) (cap:=2)) ?_;rintro e Y4 ⟨rfl,b4⟩;have f4:=zab b4 f3;refine zaq (X:=Y4) (v:=cndV zdR (some ⟨Y2.heap.size,0,none⟩) 2) k29 rfl rfl rfl fun U hbU fU sU=>?_;have b:=(((zst b1 b2)).trans (b3.mono ((zst b1 b2)).size));have bb:=zst b b4;have bU:=zst bb hbU;exact⟨(Y2.heap.size,Y4.heap.size),(cvE rfl rfl),h1.below bU,h2.below bU,(zst bX bU),fU,zlP (zab hbU f4)⟩
 clear h1 h2 bX X;rintro⟨g,b7⟩ X ⟨h1,h2,bX,f7,hk⟩;dsimp only at f7 hk;obtain⟨q7,hq7⟩:=nm ((some ⟨g,0,none⟩:Option Addr));rw [<- hq7] at f7 hk;refine⟨Unit,fun _=>⟨[(1,.slice s1.1 scL.length s1.2),(2,i64 0),(3,.slice s2.1 tsoL.length s2.2),(4,i64 0),(6,i64 2),(7,At0 b7),(8,.bool false),(9,i64 0)],[]⟩,fun _ X=>FsV X scL s1/\FsV X tsoL s2/\Bw w X/\X.heap[b7]?=some (.cells (zap zdR q7 2).toArray 29 (0,0))/\KidsG X.heap.size X q7 zkG,?_,?_⟩
 ·refine⟨zap zdR q7 2,rfl,zaa f7,hlt f7,?_⟩;refine cmo (zhh (ask:=1) (c:=zdR) hk h1.1 (by decide) h1.2) ?_;rw [zoY,zld 1 (by decide)];rintro e Y ⟨rfl,b⟩;exact⟨(),(cvE rfl rfl),h1.below b,h2.below b,(zst bX b),zab b f7,(hk.kept b).wider b.size⟩
 clear h1 h2 bX f7 hk X;rintro _ X ⟨h1,h2,bX,f7,hk⟩;refine⟨Unit,fun _=>⟨[(1,.slice s1.1 scL.length s1.2),(2,i64 0),(3,.slice s2.1 tsoL.length s2.2),(4,i64 0),(6,i64 2),(7,At0 b7),(8,.bool false),(9,i64 0),(10,.bool true),(11,i64 0)],[]⟩,fun _ X=>FsV X scL s1/\FsV X tsoL s2/\Bw w X/\X.heap[b7]?=some (.cells (zap zdR q7 2).toArray 29 (0,0))/\KidsG X.heap.size X q7 zkG,?_,?_⟩
 ·refine⟨zap zdR q7 2,rfl,zaa f7,hlt f7,?_⟩;refine cmo (zhh (ask:=2) (c:=zdR) hk h1.1 (by decide) h1.2) ?_;rw [zoX,zld 2 (by decide)];rintro e Y ⟨rfl,b⟩;exact⟨(),(cvE rfl rfl),h1.below b,h2.below b,(zst bX b),zab b f7,(hk.kept b).wider b.size⟩
 clear h1 h2 bX f7 hk X;rintro _ X ⟨h1,h2,bX,f7,hk⟩;refine⟨Unit,fun _=>⟨[(1,.slice s1.1 scL.length s1.2),(2,i64 0),(3,.slice s2.1 tsoL.length s2.2),(4,i64 0),(6,i64 2),(8,.bool false),(9,i64 0),(10,.bool true),(11,i64 0),(12,.bool true),(13,i64 1)],[]⟩,fun _ X=>FsV X scL s1/\FsV X tsoL s2/\Bw w X,?_,?_⟩
 ·refine⟨zap zdR q7 2,rfl,zaa f7,hlt f7,?_⟩;refine cmo (zhh (ask:=1) (c:=zdR) hk h2.1 (by decide) h2.2) ?_;rw [zm2,zm1];rintro e Y ⟨rfl,b⟩;exact⟨(),(cvE rfl rfl),h1.below b,h2.below b,(zst bX b)⟩
 clear h1 h2 bX f7 hk X;rintro _ X ⟨h1,h2,bX⟩;refine⟨Unit,fun _=>⟨[(1,.slice s1.1 scL.length s1.2),(2,i64 0),(3,.slice s2.1 tsoL.length s2.2),(4,i64 0),(6,i64 2),(8,.bool false),(9,i64 0),(10,.bool true),(11,i64 0),(12,.bool true),(13,i64 1),(14,.bool false)],[]⟩,fun _ X=>FsV X scL s1/\FsV X tsoL s2/\Bw w X,?_,?_⟩
 ·refine cmo (of_c (k:=5) (kids:=[]) (q:=none) (cap:=0)) ?_;rintro e Y1 ⟨rfl,b1⟩;refine cmo (zfk (a:=0) (b:=0)) ?_;rintro e Y2 ⟨rfl,b2⟩;refine cmo (zec (F:=outF 0 0) (c := .mk 5 0 0 0 []) (q:=none) (cap:=0) .empty) ?_;rintro e Y3 ⟨rfl,b3⟩;have b13:=((zst b1 b2)).trans (b3.mono ((zst b1 b2)).size);refine brF ?_;refine cmo (of_c (k:=3) (kids:=[]) (q:=none) (cap:=0)) ?_;rintro e Y4 ⟨rfl,b4⟩;refine cmo (zfk (a:=0) (b:=0)) ?_;rintro e Y5 ⟨rfl,b5⟩;refine cmo (zec (F:=outF 0 0) (c := .mk 3 0 0 0 []) (q:=none) (cap:=0) .empty) ?_;rintro e Y6 ⟨rfl,b6⟩;have b46:=((zst b4 b5)).trans (b6.mono ((zst b4 b5)).size);refine brF ?_;refine cmo (of_c (k:=4) (kids:=[]) (q:=none) (cap:=0)) ?_;rintro e Y7 ⟨rfl,b7⟩;refine cmo (zfk (a:=0) (b:=0)) ?_;rintro e Y8 ⟨rfl,b8⟩;refine cmo (zec (F:=outF 0 0) (c := .mk 4 0 0 0 []) (q:=none) (cap:=0) .empty) ?_;rintro e Y9 ⟨rfl,b9⟩;have b79:=((zst b7 b8)).trans (b9.mono ((zst b7 b8)).size);have b16:=zst b13 b46;have b19:=zst b16 b79;exact⟨(),(cvE rfl rfl),h1.below b19,h2.below b19,(zst bX b19)⟩
 clear h1 h2 bX X;rintro _ X ⟨h1,h2,bX⟩;refine brT ?_;refine brT ?_;refine brT ?_;refine cmo (zfk (a:=0) (b:=1)) ?_;rintro e Y1 ⟨rfl,b1⟩;refine cmo (zfk (a:=1) (b:=0)) ?_;rintro e Y2 ⟨rfl,b2⟩;refine cmo (zfk (a:=1) (b:=1)) ?_;rintro e Y3 ⟨rfl,b3⟩;refine⟨⟨by decide,by decide,rfl⟩,finE.enc (outF 0 1)++(finE.enc (outF 1 0)++finE.enc (outF 1 1)),by kernel_rfl,?_⟩;have f4:=hnew Y3 (.cells (finE.enc (outF 0 1)++(finE.enc (outF 1 0)++finE.enc (outF 1 1))).toArray 27);have b4:Bw Y3 (Y3.alloc (.cells (finE.enc (outF 0 1)++(finE.enc (outF 1 0)++finE.enc (outF 1 1))).toArray 27)):=zba _ _;have r4:SlR finE (Y3.alloc (.cells (finE.enc (outF 0 1)++(finE.enc (outF 1 0)++finE.enc (outF 1 1))).toArray 27)) (some ⟨Y3.heap.size,0,none⟩) [outF 0 1,outF 1 0,outF 1 1]:=(RowB.slr (.inr ⟨_,0,rfl,hlt f4,by
  have e:[outF 0 1,outF 1 0,outF 1 1].flatMap finE.enc=finE.enc (outF 0 1)++(finE.enc (outF 1 0)++finE.enc (outF 1 1)):=by simp [List.flatMap_cons]
  rw [e];exact zaa f4⟩) (Nat.le_refl _))
 have b12:=zst b1 b2;have b13:=zst b12 b3;have b14:=zst b13 b4;refine cmo (zj1 (la:=scL) (lb:=[outF 0 1,outF 1 0,outF 1 1]) (ca:=s1.2) (cb:=3) (h1.1.below b14) r4 (by decide)) ?_;rw [decide_eq_true (show scL=[outF 0 1,outF 1 0,outF 1 1] from rfl)];rintro e Y5 ⟨rfl,b5⟩;have h2:=(h2.below b14).below b5;have bY:=bX.trans (((zst b14 b5)).mono bX.size);clear b12 b13 b14 b1 b2 b3 b4 b5 r4 f4 h1 bX;refine brT ?_;refine cmo (zfk (a:=0) (b:=0)) ?_;rintro e Z1 ⟨rfl,b1⟩;refine cmo (zfk (a:=0) (b:=1)) ?_;rintro e Z2 ⟨rfl,b2⟩;refine cmo (zfk (a:=1) (b:=0)) ?_;rintro e Z3 ⟨rfl,b3⟩;refine cmo (zfk (a:=1) (b:=1)) ?_;rintro e Z4 ⟨rfl,b4⟩;refine⟨⟨by decide,by decide,rfl⟩,finE.enc (outF 0 0)++(finE.enc (outF 0 1)++(finE.enc (outF 1 0)++finE.enc (outF 1 1))),by kernel_rfl,?_⟩;have f5:=hnew Z4 (.cells (finE.enc (outF 0 0)++(finE.enc (outF 0 1)++(finE.enc (outF 1 0)++finE.enc (outF 1 1)))).toArray 27);have b5:Bw Z4 (Z4.alloc (.cells (finE.enc (outF 0 0)++(finE.enc (outF 0 1)++(finE.enc (outF 1 0)++finE.enc (outF 1 1)))).toArray 27)):=zba _ _;have r5:SlR finE (Z4.alloc (.cells (finE.enc (outF 0 0)++(finE.enc (outF 0 1)++(finE.enc (outF 1 0)++finE.enc (outF 1 1)))).toArray 27)) (some ⟨Z4.heap.size,0,none⟩) [outF 0 0,outF 0 1,outF 1 0,outF 1 1]:=(RowB.slr (.inr ⟨_,0,rfl,hlt f5,by
  have e:[outF 0 0,outF 0 1,outF 1 0,outF 1 1].flatMap finE.enc=finE.enc (outF 0 0)++(finE.enc (outF 0 1)++(finE.enc (outF 1 0)++finE.enc (outF 1 1))):=by simp [List.flatMap_cons]
  rw [e];exact zaa f5⟩) (Nat.le_refl _))
 have b12:=zst b1 b2;have b13:=zst b12 b3;have b14:=zst b13 b4;have b15:=zst b14 b5;refine cmo (zj1 (la:=tsoL) (lb:=[outF 0 0,outF 0 1,outF 1 0,outF 1 1]) (ca:=s2.2) (cb:=4) (h2.1.below b15) r5 (by decide)) ?_;rw [decide_eq_true (show tsoL=[outF 0 0,outF 0 1,outF 1 0,outF 1 1] from rfl)];rintro e Z6 ⟨rfl,b6⟩;have bZ:=bY.trans (((zst b15 b6)).mono bY.size);clear b12 b13 b14 b15 b1 b2 b3 b4 b5 b6 r5 f5 h2 bY;refine brT ?_;refine brT ?_;refine brT ?_;refine brT ?_;refine brT ?_;refine brT ?_;refine brT ?_;refine brT ?_;refine cmo zcX ?_;rintro e V1 ⟨⟨vs,rfl,hP⟩,b1⟩;refine cmo (zfk (a:=1) (b:=1)) ?_;rintro e V2 ⟨rfl,b2⟩;have b12:=zst b1 b2;have bV:=zst bZ b12;refine cmo (zry (N:=100) (p:=bufP) (F:=outF 1 1) b2.size (hP.v.below b2) (hG.below bV).c (zkt _) (by decide) (fun t r ht hr=>(by decide:∀ t,t<4->∀ r,r<8->((outF 1 1).reg t r).toNat<100) t ht r hr) (by decide)) ?_;rw [zoV];rintro e V3 ⟨rfl,b3⟩;refine⟨_,fun w=>za7 _ _ okT okT w,?_⟩;refine⟨by rw [decide_eq_true rfl];rfl,(zst bV b3)⟩
end
section
variable {w:World} {b:UInt8} {F:FinV}
theorem znD {B:Nat} {X:World} {g:Nat} {c:Cnd} {q:Option Addr} {cap:Nat} (hg:g<B) (f:X.heap[g]?=some (.cells (zap c q cap).toArray 29 (0,0))) (hk:KidsG B X q c.kids):KidsG B X (some ⟨g,0,none⟩) [c]:=by
 refine .mk _ _ (by show 1<=_;decide) g 0 (.inr ⟨rfl,hg,_,_,f⟩) (fun _=>q) (fun _=>cap) (fun i hi=>?_) (fun i hi=>?_)
 ·match i,hi with
  | 0,_=>exact zaa f
 ·match i,hi with
  | 0,_=>exact hk
abbrev noB (X:World) (b:Nat):World:=X.putObj b (.map #[] 0)
theorem zqV {B b:Nat} {X Y:World} {q:Option Addr} {l:List Cnd} {o:Obj} (h:KidsG B (noB X b) q l) (hb:X.heap[b]?=some o) (hs:∀ g,g<X.heap.size->g≠b->Y.heap[g]?=X.heap[g]?):KidsG B Y q l:=h.by fun g cs t hB hc=>by
 have hne:g≠b:=fun e=>by
  subst e;rw [zbH hb] at hc;cases hc
 have e:(noB X b).heap[g]?=X.heap[g]?:=zai hne;rw [e] at hc ⊢;exact hs g (hlt hc) hne
theorem zgI (hG:GlobE w):CB 5 #[u8 b,zbA F] w (.bool true):=by
 refine cofM 32 [u8 b,zbA F] (.s .p (.c .p (.c .p (.c (.s .p (.b (.l (.s .p (.s .p (.s (.b .p) .p)))))) (.s .p (.c .p .p)))))) Tryz.func5 ?_;obtain⟨n,hn⟩:=nm (b.toNat%61);have hn61:n<61:=by rw [hn];exact Nat.mod_lt _ (by decide)
 refine⟨Unit,fun _=>⟨[(3,At0 w.heap.size),(5,i64 n)],[]⟩,fun _ X=>X.heap[w.heap.size]?=some (.cells (finE.enc F).toArray 27 (0,0))/\X.heap.size=w.heap.size+1/\Bw w X,?_,?_⟩
 ·have e1:(((b.toNat:Nat):Int).tmod 61)=((n:Nat):Int):=by rw [hn];rfl
  refine⟨by decide,(n:Int),e1,?_⟩;refine⟨(n:Int),zaf (by omega),?_⟩;exact⟨(),(cvE rfl rfl),hnew w _,wz _ _,(zba w _)⟩
 rintro _ X ⟨f3,sX,bX⟩;refine⟨Unit,fun _=>⟨[(3,At0 w.heap.size),(5,i64 n),(6,At0 (w.heap.size+1))],[]⟩,fun _ X=>X.heap[w.heap.size]?=some (.cells (finE.enc F).toArray 27 (0,0))/\X.heap[w.heap.size+1]?=some (.cells (zap (zb9 0) none 0).toArray 29 (0,0))/\Bw w X,?_,?_⟩
 ·refine⟨zap (zb9 0) none 0,rfl,?_⟩;refine zaq (X:=X) (v:=cndV (zb9 0) none 0) k29 rfl rfl rfl fun U hbU fU sU=>?_;rw [sX] at fU;exact⟨(),⟨.cons rfl (.cons rfl (.cons (by rw [<- sX];rfl) .nil)),rfl⟩,zab hbU f3,fU,(zst bX hbU)⟩
 clear f3 sX bX X;rintro _ X ⟨f3,f6,bX⟩;refine⟨Option Addr×Nat,fun s=>⟨[(3,At0 w.heap.size),(5,i64 n),(6,At0 (w.heap.size+1))],[]⟩,fun s X=>X.heap[w.heap.size]?=some (.cells (finE.enc F).toArray 27 (0,0))/\X.heap[w.heap.size+1]?=some (.cells (zap (zb9 n) s.1 s.2).toArray 29 (0,0))/\KidsG X.heap.size (noB X (w.heap.size+1)) s.1 (zb9 n).kids/\Bw w X,?_,?_⟩
 ·refine⟨Nat×Option Addr×Nat,fun s=>⟨[(3,At0 w.heap.size),(5,i64 n),(6,At0 (w.heap.size+1)),(12,i64 n),(13,i64 (s.1:Nat))],[]⟩,fun s X=>s.1<=n/\X.heap[w.heap.size]?=some (.cells (finE.enc F).toArray 27 (0,0))/\X.heap[w.heap.size+1]?=some (.cells (zap (zb9 s.1) s.2.1 s.2.2).toArray 29 (0,0))/\KidsG X.heap.size (noB X (w.heap.size+1)) s.2.1 (zb9 s.1).kids/\Bw w X,fun s=>n-s.1,(0,none,0),
   (cvE rfl rfl),⟨Nat.zero_le _,f3,f6,.empty,bX⟩,?_⟩
  clear f3 f6 bX X;rintro⟨k,q,cap⟩ X ⟨hk,f3,f6,hkg,bX⟩;dsimp only at hk f6 hkg;refine biE (fun h=>?_) fun h=>?_
  ·have hkn:k<n:=by have:=dT h;omega
   clear h;have hx:=hlt f6;refine⟨zap (zb9 k) q cap,rfl,zaa f6,hlt f6,?_⟩;refine⟨⟨by decide,by decide,rfl⟩,zap (zb9 k) q cap,rfl,?_⟩;have fn:=hnew X (.cells (zap (zb9 k) q cap).toArray 29);have bn:Bw X (X.alloc (.cells (zap (zb9 k) q cap).toArray 29)):=zba _ _;refine cmo (of_c (k:=5) (kids:=[zb9 k]) (q:=some ⟨X.heap.size,0,none⟩) (cap:=1)) ?_;rintro e Y ⟨rfl,bY⟩;have b2:=zst bn bY;have f3Y:=zab b2 f3;have f6Y:=zab b2 f6;have fnY:=zab bY fn;have hny:=hlt fnY;refine zal (v:=cndV (zb9 (k+1)) (some ⟨X.heap.size,0,none⟩) 1) k29 f6Y rfl rfl rfl ?_;have f6Z:=zaj (cs':=(cndV (zb9 (k+1)) (some ⟨X.heap.size,0,none⟩) 1).cells) f6Y;have oZ:∀ j,j≠w.heap.size+1->(Y.setRow (w.heap.size+1) (cndV (zb9 (k+1)) (some ⟨X.heap.size,0,none⟩) 1).cells).heap[j]?=Y.heap[j]?:=fun j hj=>zam hj;have sZ:(Y.setRow (w.heap.size+1) (cndV (zb9 (k+1)) (some ⟨X.heap.size,0,none⟩) 1).cells).heap.size=Y.heap.size:=by simp
   have bZ:=zag ((zst bX b2)) (g:=w.heap.size+1) (by omega) (cndV (zb9 (k+1)) (some ⟨X.heap.size,0,none⟩) 1).cells;generalize Y.setRow (w.heap.size+1) (cndV (zb9 (k+1)) (some ⟨X.heap.size,0,none⟩) 1).cells=Z at f6Z oZ sZ bZ ⊢;have hkZ:KidsG Z.heap.size (noB Z (w.heap.size+1)) q (zb9 k).kids:=(zqV hkg f6 fun g hg hne=>by
    exact (zai hne).trans ((oZ g hne).trans (b2.block g hg))).wider (by rw [sZ];exact b2.size)
   have fZ:(noB Z (w.heap.size+1)).heap[X.heap.size]?=some (.cells (zap (zb9 k) q cap).toArray 29 (0,0)):=by
    exact (zai (by omega)).trans ((oZ _ (by omega)).trans fnY)
   refine⟨_,zaf (by omega),?_⟩;exact⟨(k+1,some ⟨X.heap.size,0,none⟩,1),(cvE rfl rfl),⟨hkn,(oZ _ (by omega)).trans f3Y,f6Z,znD (by omega) fZ hkZ,bZ⟩,by dsimp only;omega⟩
  ·have hke:k=n:=by have:=dF h;omega
   subst hke;exact⟨(q,cap),(cvE rfl rfl),f3,f6,hkg,bX⟩
 clear f3 f6 bX X;rintro⟨q,cap⟩ X ⟨f3,f6,hkg,bX⟩;dsimp only at f6 hkg;have hk:KidsG X.heap.size X q (zb9 n).kids:=zqV hkg f6 fun _ _ _=>rfl;have e2:(((n:Nat):Int).tmod 2)=((n%2:Nat):Int):=rfl;refine⟨by decide,((n%2:Nat):Int),e2,?_⟩;refine⟨Unit,fun _=>⟨[(3,At0 w.heap.size),(6,At0 (w.heap.size+1)),(7,.bool (altB 20 n))],[]⟩,fun _ Y=>X=Y,?_,?_⟩
 ·have ha:=zn9 n hn61;refine biE (fun h=>?_) fun h=>?_
  ·have h:19<n:=by have:=dT h;omega
   rw [if_pos h] at ha;exact⟨(),⟨.cons rfl (.cons rfl (.cons (by rw [ha];rfl) .nil)),rfl⟩,rfl⟩
  ·have h:¬ 19<n:=by have:=dF h;omega
   rw [if_neg h] at ha;have e3:decide (((n%2:Nat):Int)=0)=decide (n%2=0):=decide_eq_decide.2 (by omega);exact⟨(),⟨.cons rfl (.cons rfl (.cons (by rw [ha,<- e3];rfl) .nil)),rfl⟩,rfl⟩
 rintro _ _ rfl;refine⟨zap (zb9 n) q cap,rfl,zaa f6,hlt f6,?_⟩;refine⟨finE.enc F,finE.len F,zaa f3,hlt f3,?_⟩;refine cmo (zec hk) ?_;rw [zhR];rintro e Y ⟨rfl,bY⟩;refine⟨_,fun w=>zl8 _ _ (altB 20 n) (altB 20 n) w,?_⟩;refine brE (decide_eq_true rfl) ?_;have bXY:=zst bX bY;refine cmo (zrv (hG.below bXY)) ?_;rintro e Z ⟨rfl,bZ⟩;exact⟨rfl,(zst bXY bZ)⟩
end
end Go.Proofs.YtlkofpbdpplfkaaGreatDoor
namespace Go.Proofs.YtlkofpbdpplfkaaGreatDoor
open Go.Vc Go.RowKit Go.Sei
open Go.ChangeShapes Go.WideShapes Go.ChangeAt
section
variable {H:Type} {enc:TypeId×Value->H} {P:Program} {w:World} {base:Nat} {spare:Nat->Bool} {held:Bool} {fuel:Nat} {t:TypeId} {cs:List Value} {x:DataW H×List MemPlace}
theorem zpk (ht:P.underlying t=some (.int .u8)) (h:DataW.trod enc P w base spare held fuel t cs=some x):∃ b:UInt8,cs=[u8 b]/\x.1 = .lit (.int .u8 b.toNat):=by
 obtain⟨n,rfl,rfl,hw⟩:=DataW.trod_int ht h;have hb:=bounds_u8 hw;have e:((UInt8.ofNat n.toNat).toNat:Int)=n:=by
  rw [UInt8.toNat_ofNat'];omega
 exact⟨UInt8.ofNat n.toNat,by rw [u8,e],by rw [e]⟩
theorem zeV {n:Nat} {e:TypeId} (ht:P.underlying t=some (.array n e)) (he:P.underlying e=some (.int .u8)) (hc:P.cellsOf e=1) (hn:P.cellsOf t=n)
  (h:DataW.trod enc P w base spare held fuel t cs=some x):∃ bs:List UInt8,bs.length=n/\cs=bs.map u8/\x.1 = .agg (bs.map fun b => .lit (.int .u8 b.toNat)):=by
 obtain⟨xs,m,rfl,rfl,hl,hx,hel⟩:=DataW.trod_array ht h;rw [hn] at hl;have each:∀ i (h:i<n),∃ b:UInt8,cs[i]?=some (u8 b)/\xs[i]?.map (·.1)=some (.lit (.int .u8 b.toNat)):=fun i hi=>by
  have h1:=hel i hi;rw [hc,gE (by omega)] at h1;obtain⟨b,h2,h3⟩:=zpk he h1;refine⟨b,?_,by rw [gE (by omega),Option.map_some,h3]⟩;have:((cs.drop (i*1)).take 1)[0]?=some (u8 b):=by rw [h2];rfl
  simpa using this
 have:∀ k,k<=n->∃ bs:List UInt8,bs.length=k/\cs.take k=bs.map u8/\(xs.take k).map (·.1)=bs.map fun b => .lit (.int .u8 b.toNat):=by
  intro k
  induction k with
  | zero=>exact fun _=>⟨[],rfl,by simp,by simp⟩
  | succ k ih =>
   intro hk;obtain⟨bs,h1,h2,h3⟩:=ih (by omega);obtain⟨b,h4,h5⟩:=each k (by omega);have hk1:k<cs.length:=by omega
   have hk2:k<xs.length:=by omega
   rw [gE hk1] at h4;rw [gE hk2] at h5;refine⟨bs++[b],by simp [h1],?_,?_⟩
   ·rw [tsg hk1,h2,Option.some.inj h4];simp
   ·rw [tsg hk2,List.map_append,h3];simp at h5;simp [h5]
 obtain⟨bs,h1,h2,h3⟩:=this n (Nat.le_refl _);rw [List.take_of_length_le (by omega)] at h2 h3;exact⟨bs,h1,h2,by rw [<- h3]⟩
end
theorem zoF:Tryz.prog.cellsOf 5=1:=by kernel_rfl
theorem znc:ownKnob Tryz.prog.godebug=none:=by kernel_rfl
theorem zeI:laidOutB Tryz.prog=true:=by kernel_rfl
section
variable {H:Type} {enc:TypeId×Value->H} {P:Program} {w:World} {base:Nat} {spare:Nat->Bool} {held:Bool} {fuel:Nat} {t e:TypeId} {cs:List Value} {x:DataW H×List MemPlace}
def Opens (enc:TypeId×Value->H) (P:Program) (w:World) (base:Nat) (spare:Nat->Bool) (held:Bool) (t:TypeId) (R:List Value->Prop):Prop :=
 ∀ fuel cs x,DataW.trod enc P w base spare held fuel t cs=some x->R cs
theorem Opens.field {fs:Array Field} {R:List Value->Prop} {i:Nat} {f:Field} {n:Nat} {xs:List (DataW H×List MemPlace)} {m:Nat} (hel:∀ (i:Nat) (f:Field),fs[i]?=some f->DataW.trod enc P w base spare held m f.type ((cs.drop f.offset).take (P.cellsOf f.type))=xs[i]?)
  (hl:xs.length=fs.size) (hi:fs[i]?=some f) {o:Nat} (hoo:f.offset=o) (hn:P.cellsOf f.type=n) (ho:Opens enc P w base spare held f.type R):R ((cs.drop o).take n):=by
 subst hoo;have h1:=hel i f hi;have:i<fs.size:=(Array.getElem?_eq_some_iff.1 hi).1;rw [gE (by omega),hn] at h1;exact ho _ _ _ h1
theorem zhD {n:Nat} (ht:P.underlying t=some (.array n e)) (he:P.underlying e=some (.int .u8)) (hc:P.cellsOf e=1) (hn:P.cellsOf t=n):Opens enc P w base spare held t fun cs=>∃ bs:List UInt8,bs.length=n/\cs=bs.map u8:=fun fuel cs x h=>by
 obtain⟨bs,h1,h2,_⟩:=zeV ht he hc hn h;exact⟨bs,h1,h2⟩
theorem zpt {β:Type} {n:Nat} (i0:β) {Q:Nat->β->Prop} (h:∀ i,i<n->∃ b,Q i b):∃ bs:List β,bs.length=n/\∀ i (hi:i<bs.length),Q i bs[i]:=by
 have h2:∀ i,∃ b,i<n->Q i b:=fun i=>by
  by_cases hi:i<n
  ·obtain⟨b,hb⟩:=h i hi;exact⟨b,fun _=>hb⟩
  ·exact⟨i0,fun h=>absurd h hi⟩
 obtain⟨g,hg⟩:=Classical.axiomOfChoice h2;refine⟨(List.range n).map g,by simp,fun i hi=>?_⟩;simp only [List.getElem_map,List.getElem_range];exact hg i (by simpa using hi)
theorem zlZ {β:Type} {f:β->List Value} {sz:Nat}:∀ (bs:List β) (cs:List Value),cs.length=bs.length*sz->(∀ i (h:i<bs.length),(cs.drop (i*sz)).take sz=f bs[i])->cs=bs.flatMap f
 | [],cs,hl,_=>by simpa using hl
 | b::r,cs,hl,h=>by
  have h0:=h 0 (by simp);simp only [Nat.zero_mul,List.drop_zero,List.getElem_cons_zero] at h0;rw [List.flatMap_cons,<- h0]
  conv=>lhs;rw [<- List.take_append_drop sz cs]
  congr 1;refine zlZ (sz:=sz) r (cs.drop sz) (by rw [List.length_drop,hl,List.length_cons,Nat.add_mul];omega) fun i hi=>?_;have h1:=h (i+1) (by simpa using hi);rw [List.drop_drop];simpa [Nat.add_mul,Nat.add_comm] using h1
theorem zlD {β:Type} (i0:β) {f:β->List Value} {Q:β->Prop} {n sz:Nat} (ht:P.underlying t=some (.array n e)) (hc:P.cellsOf e=sz) (hn:P.cellsOf t=n*sz) (ho:Opens enc P w base spare held e fun cs=>∃ b,Q b/\cs=f b) :
  Opens enc P w base spare held t fun cs=>∃ bs:List β,bs.length=n/\(∀ b∈bs,Q b)/\cs=bs.flatMap f:=fun fuel cs x h=>by
 obtain⟨xs,m,rfl,rfl,hl,hx,hel⟩:=DataW.trod_array ht h;rw [hn] at hl;have each:∀ i,i<n->∃ b:β,Q b/\(cs.drop (i*sz)).take sz=f b:=fun i hi=>by
  have h1:=hel i hi;rw [hc,gE (by omega)] at h1;exact ho _ _ _ h1
 obtain⟨bs,h1,h2⟩:=zpt i0 each;refine⟨bs,h1,fun b hb=>?_,zlZ bs cs (by rw [hl,h1]) fun i hi=>(h2 i hi).2⟩;obtain⟨i,hi,rfl⟩:=List.getElem_of_mem hb;exact (h2 i hi).1
theorem cut (cs:List Value) (o n o':Nat) (h:o+n=o'):cs.drop o=(cs.drop o).take n++cs.drop o':=by
 rw [<- h,<- List.drop_drop,List.take_append_drop]
end
theorem cC (t n:Nat) (h:Tryz.prog.cellsOf t=n):Tryz.prog.cellsOf t=n:=h
theorem zek {H:Type} {enc:TypeId×Value->H} {a:Assume} {C:Checked} {os:Os} {f:FuncId} {fn:Func} {s:ChangeSpec} {conds:List PathCond} {apart fresh handsOn again:Bool} {X:World->Array Value->Prop}
  (hX:∀ (w w':World) (args:Array Value),w.heap=w'.heap->X w args->X w' args)
  (own:ownKnob C.prog.godebug=none) (started:os.Started) (noInit:C.prog.inits.idxOf? f=none) (hfn:C.prog.funcs[f]?=some fn)
  (witness:∃ (w:World) (tape:Tape) (i:Input),w.os=os/\(w.forCall tape i).Shaped C.prog/\i.vars=[]/\Input.okWide C.prog (w.forCall tape i) .any w.heap.size f i /\
   ((s.pre enc C.prog fn conds apart (w.forCall tape i).memory i.args/\X (w.forCall tape i).memory i.args)/\sizedMet enc C.prog fn (OpenSpec.ofChange s) apart (w.forCall tape i).memory i.args)/\a.holds C.prog (lone (Frame.enter C.prog f i.args .normal) [] (w.forCall tape i)))
  (contract:∀ (W:World) (base:Nat) (args:Array Value) (ds gs:List (DataW H)) (before:List MemPlace),
   (∀ (j:Nat) t v,fn.params[j]?=some t->args[j]?=some v->Value.okWide C.prog W .any base t v) ->
   DataW.Whole enc C.prog fn.params.toList s.vars apart W args.toList ds gs before->X W args->W.ShapedOpen C.prog ->
   (∃ ds gs before,DataW.Whole enc C.prog fn.params.toList (OpenSpec.ofChange s).vars apart W args.toList ds gs before/\∀ n∈DataW.weightsEach C.prog (fn.params.toList++(OpenSpec.ofChange s).bare.plain.varTypes C.prog) (ds++gs),n<=reachBytes) ->
   Calls C.prog f args W fun e W'=>∃ v,e = .returned v/\s.post enc C.prog fn apart fresh handsOn again W args v W') :
  ReturnsInHanded a C os f .any (fun w args=>(s.pre enc C.prog fn conds apart w args/\X w args)/\sizedMet enc C.prog fn (OpenSpec.ofChange s) apart w args) (s.post enc C.prog fn apart fresh handsOn again):=by
 refine returnsInHanded_of_calls own started noInit witness ?_;intro w tape i _ hsh _ hok hpre hholds;obtain⟨_,_,_,fn',hfn',_,_,_,_,hval⟩:=hok;have e:fn'=fn:=Option.some.inj (hfn'.symm.trans hfn);subst e;obtain⟨⟨⟨ds,gs,before,hw,hc⟩,hx⟩,hz⟩:=hpre;have hw':=DataW.Whole.of_heap (w':=w.forCall tape i) (by rfl) hw;obtain⟨_,ds2,gs2,before2,hw2,hall⟩:=hz;refine (contract (w.forCall tape i) w.heap.size i.args ds gs before hval hw' (hX _ _ _ (by rfl) hx) hsh ⟨ds2,gs2,before2,DataW.Whole.of_heap (w':=w.forCall tape i) (by rfl) hw2,fun n hn=>dT (List.all_eq_true.1 hall n hn)⟩).mono fun e W' ⟨v,he,hp⟩=>?_;subst he;exact ChangeSpec.post_blind hp
theorem zgY {H:Type}:∀ {a b:List UInt8},a.map (fun b=>(DataW.lit (.int .u8 b.toNat):DataW H))=b.map (fun b=>DataW.lit (.int .u8 b.toNat))->a=b
 | [],[],_=>rfl
 | [],_::_,h=>by cases h
 | _::_,[],h=>by cases h
 | x::a,y::b,h=>by
  simp only [List.map_cons,List.cons.injEq,DataW.lit.injEq,Lit.int.injEq,true_and] at h;rw [zgY h.2,UInt8.toNat_inj.1 (by omega:x.toNat=y.toNat)]
theorem zjv {α:Type} (d:α) (f:α->Value) (n:Nat) (l:List α) (h:l.length=n):l.map f=(List.range n).map fun i=>f (l.getD i d):=by
 apply List.ext_getElem?;intro i;rw [List.getElem?_map,List.getElem?_map];by_cases hi:i<n
 ·rw [List.getElem?_range hi,gE (by omega),Option.map_some,Option.map_some,gDe,gE (by omega)];rfl
 ·rw [List.getElem?_eq_none (by omega),List.getElem?_eq_none (by rw [List.length_range];omega)];rfl
theorem flatMap_map {α:Type} (f:α->Value):∀ l:List (List α),l.flatMap (fun x=>x.map f)=l.flatten.map f
 | []=>rfl
 | a::l=>by rw [List.flatMap_cons,flatMap_map f l,List.flatten_cons,List.map_append]
section
variable {H:Type} {enc:TypeId×Value->H} {w:World} {base:Nat} {spare:Nat->Bool} {held:Bool}
theorem zir:Opens enc Tryz.prog w base spare held 27 fun cs=>∃ (f g:Nat->UInt8),cs=seg 32 (fun i=>u8 (f i))++seg 6 (fun i=>u8 (g i)):=fun fuel cs x h=>by
 obtain⟨xs,m,rfl,rfl,hl,hx,hel⟩:=DataW.trod_struct Tryz.underlying27 h;rw [cC 27 38 (by kernel_rfl)] at hl;have row:Opens enc Tryz.prog w base spare held 23 fun cs=>∃ bs:List UInt8,bs.length=8/\cs=bs.map u8:=zhD Tryz.underlying23 Tryz.underlying5 zoF (cC 23 8 (by kernel_rfl));obtain⟨bss,h1,h2,e0⟩:=Opens.field (o:=0) (i:=0) hel hx rfl rfl (cC 24 32 (by kernel_rfl)) (zlD (β:=List UInt8) [] (f:=fun bs=>bs.map u8) (Q:=fun bs=>bs.length=8) (n:=4) (sz:=8) Tryz.underlying24 (by kernel_rfl) (by kernel_rfl) row);obtain⟨ms,h3,e1⟩:=Opens.field (o:=32) (i:=1) hel hx rfl rfl (cC 25 6 (by kernel_rfl)) (zhD Tryz.underlying25 Tryz.underlying5 zoF (cC 25 6 (by kernel_rfl)));have hfl:bss.flatten.length=32:=by
  match bss,h1 with
  | [a,b,c,d],_ =>
   have:=h2 a (by simp);have:=h2 b (by simp);have:=h2 c (by simp);have:=h2 d (by simp);simp only [List.flatten_cons,List.flatten_nil,lap,List.length_nil];omega
 refine⟨fun i=>bss.flatten.getD i 0,fun i=>ms.getD i 0,?_⟩;have h0:cs=cs.drop 0:=rfl;have h9:cs.drop 38=[]:=List.drop_of_length_le (by omega);rw [h0,cut cs 0 32 32 rfl,cut cs 32 6 38 rfl,e0,e1,h9,flatMap_map,zjv 0 u8 32 _ hfl,zjv 0 u8 6 ms h3,List.append_nil];rfl
end
theorem zlE {P:Program} {w:World} {r:Reach} {base:Nat} {t:TypeId} {v:Value} (ht:P.underlying t=some (.int .u8)) (h:Value.okWide P w r base t v):∃ b:UInt8,v=u8 b:=by
 unfold Value.okWide at h;rw [ht] at h
 cases v with
 | int k n =>
  have h1:k = .u8/\IntKind.has .u8 n:=by
   simp only [Cell.okWide,Cell.ok,ht] at h;obtain⟨rfl,h⟩:=h;exact⟨rfl,h⟩
  obtain⟨rfl,h2⟩:=h1;have h3:0<=n/\n<=255:=⟨by have:=h2.1;simpa [IntKind.min,IntKind.signed,IntKind.bits] using this,by have:=h2.2;simpa [IntKind.max,IntKind.signed,IntKind.bits] using this⟩;have e:((UInt8.ofNat n.toNat).toNat:Int)=n:=by
   rw [UInt8.toNat_ofNat'];omega
  exact⟨UInt8.ofNat n.toNat,by rw [u8,e]⟩
 | _=>simp_all [Cell.okWide,Cell.ok]
section
variable {H:Type} {enc:TypeId×Value->H} {w:World} {base:Nat} {spare:Nat->Bool} {held:Bool}
theorem zis {a:Array Value} {d:DataW H} {p:List MemPlace} (h:DataW.Trod enc Tryz.prog w base spare held 27 (.agg a) d p):∃ F:FinV,Value.agg a=zbA F:=by
 obtain⟨fuel,h⟩:=h;obtain⟨f,g,hc⟩:=zir _ _ _ h;have:a.toList=finE.enc (finV f g):=hc.trans (ze0 f g).symm;exact⟨finV f g,by rw [zbA,<- this]⟩
end
structure GlobV (W:World):Prop where
 t32:Tz32M W
 t64:Tz64M W
 pow:True
 needs:GlobC W
abbrev zcm : List (String × DataW Unit) := [("math/bits.deBruijn32tab", Rows.laid_math_bits_deBruijn32tab), ("math/bits.deBruijn64tab", Rows.laid_math_bits_deBruijn64tab), ("internal/strconv.uint64pow10", Rows.laid_internal_strconv_uint64pow10), ("seisin/check.needs", Rows.laid_seisin_check_needs)]
theorem zcS {W:World} (h:laidMetH Tryz.prog zcm W) (hsh:W.ShapedOpen Tryz.prog):GlobV W:=by
 have h0:laidMet Tryz.prog zcm W:=h;have h1:=h0.tail;have h2:=h1.tail;have h3:=h2.tail;have t32:Tz32M W:=by
  obtain⟨ps,⟨g',t',cs,fuel,p,q,hg',ht',hv,hd,_,_⟩,_⟩:=h0
  obtain rfl := Option.some.inj ((show Tryz.prog.globalNamed "math/bits.deBruijn32tab" = some 7 by kernel_rfl).symm.trans hg')
  obtain rfl:=Option.some.inj ((show (Tryz.prog.globals[7]?).map (·.type)=some 368 by kernel_rfl).symm.trans ht');obtain⟨bs,h1,h2,h3⟩:=zeV Tryz.underlying368 Tryz.underlying5 (by kernel_rfl) (by kernel_rfl) hd;have hbs:bs=zj6:=by
   have e:(Rows.laid_math_bits_deBruijn32tab:DataW Unit) = .agg (zj6.map fun b => .lit (.int .u8 b.toNat)):=rfl;exact zgY (DataW.agg.inj (h3.symm.trans e))
  subst hbs;refine zb0 fun i v hvv=>?_;have hc:=World.var?_cell hg' hv i;rw [<- hvv,<- h2];simpa using hc
 have t64:Tz64M W:=by
  obtain⟨ps,⟨g',t',cs,fuel,p,q,hg',ht',hv,hd,_,_⟩,_⟩:=h1
  obtain rfl := Option.some.inj ((show Tryz.prog.globalNamed "math/bits.deBruijn64tab" = some 8 by kernel_rfl).symm.trans hg')
  obtain rfl:=Option.some.inj ((show (Tryz.prog.globals[8]?).map (·.type)=some 369 by kernel_rfl).symm.trans ht');obtain⟨bs,h1,h2,h3⟩:=zeV Tryz.underlying369 Tryz.underlying5 (by kernel_rfl) (by kernel_rfl) hd;have hbs:bs=zj5:=by
   have e:(Rows.laid_math_bits_deBruijn64tab:DataW Unit) = .agg (zj5.map fun b => .lit (.int .u8 b.toNat)):=rfl;exact zgY (DataW.agg.inj (h3.symm.trans e))
  subst hbs;refine zb0 fun i v hvv=>?_;have hc:=World.var?_cell hg' hv i;rw [<- hvv,<- h2];simpa using hc
 have pow:True:=trivial;have needs:GlobC W:=by
  obtain⟨ps,⟨g',t',cs,fuel,p,q,hg',ht',hv,hd,_,_⟩,_⟩:=h3
  obtain rfl := Option.some.inj ((show Tryz.prog.globalNamed "seisin/check.needs" = some 4 by kernel_rfl).symm.trans hg')
  obtain rfl:=Option.some.inj ((show (Tryz.prog.globals[4]?).map (·.type)=some 332 by kernel_rfl).symm.trans ht');obtain⟨bs,h1,h2,h3⟩:=zeV Tryz.underlying332 Tryz.underlying5 (by kernel_rfl) (by kernel_rfl) hd;have hbs:bs=zgS:=by
   match bs,h1 with
   | [b0,b1,b2,b3,b4,b5,b6,b7,b8],_ =>
    simp only [Rows.laid_seisin_check_needs,List.map_cons,List.map_nil,DataW.agg.injEq,List.cons.injEq,DataW.lit.injEq,Lit.int.injEq,true_and,and_true] at h3;simp only [zgS,List.cons.injEq,and_true];obtain⟨a0,a1,a2,a3,a4,a5,a6,a7,a8⟩:=h3;refine⟨?_,?_,?_,?_,?_,?_,?_,?_,?_⟩ <;> (apply UInt8.toNat_inj.1;simp;omega)
  subst hbs;refine zb0 fun i v hvv=>?_;have hc:=World.var?_cell hg' hv i;rw [<- hvv,<- h2];simpa using hc
 exact⟨t32,t64,pow,needs⟩
def zqS:DataW Unit->List Value
 | .lit (.int k n)=>[.int k n]
 | .lit (.string s)=>[.string ⟨s.toArray⟩]
 | _=>[]
def znA:DataW Unit->List Value
 | .agg ps=>ps.flatMap zqS
 | x=>zqS x
def zna (h:Array Obj) (g:Nat) (cs:List Value):Array Obj:=h.modify g fun
 | .cells _ t frozen => .cells cs.toArray t frozen
 | o=>o
def zrY (h:Array Obj):Array Obj :=
 let h1:=zna h 7 (znA Rows.laid_math_bits_deBruijn32tab)
 let h2:=zna h1 8 (znA Rows.laid_math_bits_deBruijn64tab)
 let h3:=zna h2 3 (znA Rows.laid_internal_strconv_uint64pow10)
 zna h3 4 (znA Rows.laid_seisin_check_needs)
noncomputable def zgm (os:Os):World :=
 { World.holding Tryz.prog os ⟨#[],#[],[]⟩ with heap:=zrY (World.holding Tryz.prog os ⟨#[],#[],[]⟩).heap }
theorem zf6 (os:Os) (args:Array Value):laidMetH Tryz.prog zcm ((zgm os).forCall (fun _ _=>0) ⟨#[],args,[]⟩).memory:=by
 show laidMet Tryz.prog zcm _;exact laidMet_of_run' 8 (by kernel_rfl) (by kernel_rfl)
end Go.Proofs.YtlkofpbdpplfkaaGreatDoor
