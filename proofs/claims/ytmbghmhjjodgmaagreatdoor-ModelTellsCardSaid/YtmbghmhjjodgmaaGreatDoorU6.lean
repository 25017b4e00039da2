/- Contracts of functions, and plain facts, for the law that the last text of this claim proves. -/
import Derived.Test.YtmbghmhjjodgmaaGreatDoorU5
set_option linter.unusedSimpArgs false
set_option linter.unusedVariables false
namespace Go.Proofs.YtmbghmhjjodgmaaGreatDoor
open Go.Vc Go.RowKit Go.Sei
abbrev orG (l:List Nat):Nat:=l.foldl (fun s i=>s|||2^i) 0
theorem zod (l:List Nat) (i:Nat):orG (l++[i])=orG l|||2^i:=by
 unfold orG;rw [List.foldl_append];rfl
theorem zmx:∀ (l:List Nat) (s:Nat),s<2^64->(∀ i∈l,i<64)->l.foldl (fun s i=>s|||2^i) s<2^64
 | [],s,h,_=>h
 | i::l,s,h,hl=>zmx l (s|||2^i) (Nat.or_lt_two_pow h (zaK (hl i List.mem_cons_self))) fun j hj=>hl j (List.mem_cons_of_mem _ hj)
theorem zo0 {l:List Nat} (hl:∀ i∈l,i<64):orG l<2^64:=zmx l 0 (by decide) hl
section
variable {w:World}
theorem Of_c {p:Option Addr} {cp:Nat} {l:List Nat} (hl:SlR natE w p l) (h64:∀ i∈l,i<64) (hn:l.length<=1000):Calls Tryz.prog 103 #[.slice p l.length cp] w fun e w'=>e = .returned (.tuple #[s64 (orG l),i64 0])/\w=w':=by
 refine cofE 25 [.slice p l.length cp] Tryz.func103 ?_;refine⟨Nat,fun k=>⟨[(4,s64 (orG (l.take k))),(7,.slice p l.length cp),(8,i64 l.length),(9,i64 (k:Nat))],[]⟩,fun k X=>k<=l.length/\w=X,fun k=>l.length-k,0,(cvE rfl rfl),⟨Nat.zero_le _,rfl⟩,?_⟩;rintro k _ ⟨hk,rfl⟩;dsimp only;refine biE (fun hc=>?_) fun hc=>?_
 ·have hc:(k:Int)<(l.length:Int):=dT hc;have hkl:k<l.length:=by omega
  obtain⟨b,o,rfl,hb,hat⟩:=hl.at hkl;obtain⟨t,ht⟩:∃ t,l[k]=t:=⟨_,rfl⟩;have ht64:=h64 t (by rw [<- ht];exact gM hkl);have htk:orG (l.take (k+1))=orG (l.take k)|||2^t:=by rw [tsg hkl,ht,zod]
  refine⟨k,rfl,hkl,?_⟩;refine⟨i64 t,by have:=zac (hat k hkl) (i:=0) (v:=i64 t) (by rw [ht];rfl);exact this,?_⟩;refine biE (fun h=>?_) fun _=>?_
  ·have h:(t:Int)<0:=dT h;omega
  refine biE (fun h=>?_) fun _=>?_
  ·have h:(64:Int)<=(t:Nat):=dT h;omega
  refine⟨by omega,_,zbQ (e:=t) (by omega),?_⟩;refine⟨_,zcz (zo0 fun i hi=>h64 i (List.mem_of_mem_take hi)) (zaK ht64),?_⟩;refine nxI (by omega) ?_;exact⟨k+1,⟨.cons (by show _=some (s64 (orG (l.take (k+1))));rw [htk];rfl) (.cons rfl (.cons rfl (.cons rfl .nil))),rfl⟩,⟨hkl,rfl⟩,zdc (by omega)⟩
 ·have hc:¬ (k:Int)<(l.length:Int):=dF hc;obtain rfl:k=l.length:=by omega
  rw [List.take_length];exact⟨rfl,rfl⟩
end
section
variable {b c:Nat} {x:ExD} {q:Option Addr} {w:World}
theorem zaA {X:World} (fx:ExH X b x q c) {i:Nat} (hi:i<6) {o:Nat} (ho:o=1+49*i):zaw X ⟨b,0+o,none⟩ (relC ((zcU x).getD i x.po)):=by
 rw [ho];exact zf0 fx hi
theorem zpa (hv:ExV w x q) (hT:Tz64M w):WrdR (za3 x.rf).to/\WrdR (frM x).to:=by
 have h1:WrdR (za3 x.rf).to:=by
  unfold za3
  split
  ·rename_i h;intro i hi;refine Nat.lt_of_not_le fun hge=>?_;obtain⟨j,hj1,hj2⟩:=Nat.exists_ge_and_testBit_of_ge_two_pow hge;rw [show ((⟨x.rf.n,zdf x.rf.to x.rf.n.toNat⟩:RelD).to i)=zdf x.rf.to x.rf.n.toNat i from rfl,zgE,bAT,dE] at hj2;have h48:=(zbl h).2.1;omega
  ·exact fun i _=>(by show 0<2^64;decide)
 exact⟨h1,zeF h1 hv.co⟩
theorem fr_c (fx:ExH w b x q c) (hv:ExV w x q) (hT:Tz64M w):CB 60 #[At0 b] w (.agg (relC (frM x)).toArray):=by
 refine cofM 19 [At0 b] (.c .p (.c .p .p)) Tryz.func60 ?_;obtain⟨L,hL⟩:=nm (w.heap.size);obtain⟨wb,wf⟩:=zpa hv hT;refine⟨Unit,fun _=>⟨[(0,At0 b),(2,At0 L)],[]⟩,fun _ X=>RelH X L zai/\Bw w X,⟨(),⟨.cons rfl (.cons (by rw [hL];rfl) .nil),rfl⟩,by rw [hL];exact hnew w _,(zba w _)⟩,?_⟩;rintro _ X ⟨f0,hbX⟩;refine⟨Nat,fun F=>⟨[(2,At0 L),(3,At0 F)],[]⟩,fun F Z=>RelH Z F (frM x)/\RelH Z L zai/\Bw w Z,?_,?_⟩
 ·have dX:Bw X X.drew:=(Below.refl _ _).drew;have fX:=hdr (zaa hbX fx);have hba:∀ (A:World) (o:Obj),Bw A (A.alloc o):=fun A o=>(zba _ _);have put:∀ (W:World) (b3:Nat),Bw X W->RelH W b3 zai->X.heap.size<=b3->∀ {K:World->Prop},(∀ V,(RelH V b3 (frM x)/\RelH V L zai/\Bw w V)->K V) ->
    SatR ((storeVar 27 ⟨b3,0,none⟩ (.agg (relC (frM x)).toArray)).run Tryz.prog W) fun _ w'=>K w':=by
   intro W b3 hW f3 g3 K k;refine zar (v := .agg (relC (frM x)).toArray) k27 f3 (zad _) (zad _) (zau _) ?_;have hL2:=hlt f0;exact k _ ⟨zal f3,(zam (by omega)).trans (zaa hW f0),zah ((zst hbX hW)) (by have:=hbX.size;omega) _⟩
  refine DrawE.treeQ [14] (.op 0 (.op 1 (.op 2 (.op 3 (.op 5 (.op 6 (.op 7 (.op 8 (.alt (.op 13 (.op 4 (.op 9 (.op 10 (.op 11 (.op 12 (.op 14 (.op 15 (.nil))))))))) (.op 4 (.alt (.op 13 (.op 9 (.op 10 (.op 11 (.op 12 (.op 14 (.op 15 (.nil)))))))) (.op 9 (.op 10 (.op 11 (.op 12 (.op 13 (.op 14 (.op 15 (.nil))))))))))))))))))) (by kernel_rfl) ?_;refine⟨relC x.rf,zad _,zaA fX (i:=1) (by decide) rfl,hlt fX,?_⟩;refine⟨relC x.co,zad _,zaA fX (i:=2) (by decide) rfl,hlt fX,?_⟩;refine And.intro ?_ ?_
  ·refine⟨hba _ _,?_⟩;have b1:=dX.alloc (Nat.le_refl _) (.cells (relC zai).toArray 27);refine cmo (zi7 hv.rf (hT.below ((zst hbX b1)))) ?_;rintro e Y ⟨rfl,hbY,_⟩;refine⟨hbY,?_⟩;have b2:=zst b1 hbY;refine cmo (zes wb hv.co (hT.below ((zst hbX b2)))) ?_;rintro e Z ⟨rfl,hbZ⟩;refine⟨hbZ,?_⟩;refine put Z X.heap.size ((zst b2 hbZ)) (zaa hbZ (zaa hbY (hnew X.drew _))) (Nat.le_refl _) ?_;exact fun V hV=>⟨X.heap.size,(cvE rfl rfl),hV⟩
  refine cmo (zi7 hv.rf (hT.below ((zst hbX dX)))) ?_;rintro e Y ⟨rfl,hbY,_⟩;refine⟨hbY,?_⟩;have b1:=zst dX hbY;refine And.intro ?_ ?_
  ·refine⟨hba _ _,?_⟩;have b2:=b1.alloc b1.size (.cells (relC zai).toArray 27);refine cmo (zes wb hv.co (hT.below ((zst hbX b2)))) ?_;rintro e Z ⟨rfl,hbZ⟩;refine⟨hbZ,?_⟩;refine put Z Y.heap.size ((zst b2 hbZ)) (zaa hbZ (hnew Y _)) b1.size ?_;exact fun V hV=>⟨Y.heap.size,(cvE rfl rfl),hV⟩
  ·refine cmo (zes wb hv.co (hT.below ((zst hbX b1)))) ?_;rintro e Z ⟨rfl,hbZ⟩;refine⟨hbZ,?_⟩;have b2:=zst b1 hbZ;refine⟨hba _ _,?_⟩;refine put _ Z.heap.size (b2.alloc b2.size _) (hnew Z _) b2.size ?_;exact fun V hV=>⟨Z.heap.size,(cvE rfl rfl),hV⟩
 rintro F Z ⟨f1,f0,hbZ⟩;refine⟨relC (frM x),zad _,zab f1,hlt f1,?_⟩;refine zar (v := .agg (relC (frM x)).toArray) k27 f0 (zad _) (zad _) (zau _) ?_;exact⟨relC (frM x),zad _,zab (zal f0),rfl,zah hbZ (by omega) _⟩
end
theorem zil {X:World} {L:Nat} {r:RelD} (h:RelH X L r):∀ i,i<48->X.cell? ⟨L,0+1+i*1,none⟩=some (s64 (r.to i)):=by
 have hR:RelAt X L 0 27 [] [] r:=⟨rfl,by simpa using h⟩;exact fun i hi=>hR.cell hi
section
variable {b c:Nat} {x:ExD} {q:Option Addr} {w:World}
theorem zrM {r:RelD} {a d R:Nat} (fR:RelH w R r) (hr:WrdR r.to) (fx:ExH w b x q c) (hv:ExV w x q) (ha:a<x.ev.length) (hd:d<x.ev.length) :
  CB 66 #[i64 (a:Nat),i64 (d:Nat),At0 R,At0 b] w (.bool (hasM r a d&&decide ((evA x a).th=(evA x d).th))):=by
 refine cofE 25 [i64 (a:Nat),i64 (d:Nat),At0 R,At0 b] Tryz.func66 ?_;have hn:=hv.n;obtain⟨bq,oq,hqe,hb,hat⟩:=zdo hv.ev ha;obtain⟨bq2,oq2,hqe2,hb2,hat2⟩:=zdo hv.ev hd;rw [hqe] at hqe2;simp only [Option.some.injEq,Addr.mk.injEq,and_true] at hqe2;rw [<- hqe2.1,<- hqe2.2] at hat2;subst hqe;have dw:Bw w w.drew:=(Below.refl _ _).drew;refine DrawE.ord [] [0,1,2,3,4,5,6,7,8,9,10,11,12,13,14,15,16,17,18] (by kernel_rfl) ?_;refine cmo (zaC (zil (hdr fR)) hr (by omega) (by omega)) ?_;rintro e _ ⟨rfl,rfl⟩;refine⟨Below.refl _ _,?_⟩;refine biE (fun h1=>?_) fun h1=>?_
 ·have h1:hasM r a d=true:=h1;refine⟨_,zax (zab (hdr fx)),?_⟩;refine⟨a,rfl,ha,?_⟩;refine⟨i64 (evA x a).th,by have:=zac (zae dw hat) (i:=0) (v:=i64 (evA x a).th) rfl;exact this,?_⟩;refine⟨_,zax (zab (hdr fx)),?_⟩;refine⟨d,rfl,hd,?_⟩;refine⟨i64 (evA x d).th,by have:=zac (zae dw hat2) (i:=0) (v:=i64 (evA x d).th) rfl;exact this,?_⟩;exact⟨rb (by rw [h1,Bool.true_and]),dw⟩
 ·have h1:hasM r a d=false:=h1;exact⟨rb (by rw [h1,Bool.false_and]),dw⟩
theorem zrV {r:RelD} {a d R B:Nat} (fR:RelH w R r) (hr:WrdR r.to) (fB:w.heap[B]?=some (.cells #[At0 b] 79 (0,0))) (fx:ExH w b x q c) (hv:ExV w x q) (ha:a<x.ev.length) (hd:d<x.ev.length) :
  CB 102 #[i64 (a:Nat),i64 (d:Nat),At0 R,At0 B] w (.bool (hasM r a d && !decide ((evA x a).th=(evA x d).th))):=by
 refine cofE 29 [i64 (a:Nat),i64 (d:Nat),At0 R,At0 B] Tryz.func102 ?_;have hn:=hv.n;obtain⟨bq,oq,hqe,hb,hat⟩:=zdo hv.ev ha;obtain⟨bq2,oq2,hqe2,hb2,hat2⟩:=zdo hv.ev hd;rw [hqe] at hqe2;simp only [Option.some.injEq,Addr.mk.injEq,and_true] at hqe2;rw [<- hqe2.1,<- hqe2.2] at hat2;subst hqe;have dw:Bw w w.drew:=(Below.refl _ _).drew;refine DrawE.ord [] [0,1,2,3,4,5,6,7,8,9,10,11,12,13,14,15,16,17,18,19,20,21,22] (by kernel_rfl) ?_;refine cmo (zaC (zil (hdr fR)) hr (by omega) (by omega)) ?_;rintro e _ ⟨rfl,rfl⟩;refine⟨Below.refl _ _,?_⟩;refine biE (fun h1=>?_) fun h1=>?_
 ·have h1:hasM r a d=true:=h1;refine⟨At0 b,zac (zab (hdr fB)) (i:=0) rfl,?_⟩;refine⟨_,zax (zab (hdr fx)),?_⟩;refine⟨a,rfl,ha,?_⟩;refine⟨i64 (evA x a).th,by have:=zac (zae dw hat) (i:=0) (v:=i64 (evA x a).th) rfl;exact this,?_⟩;refine⟨At0 b,zac (zab (hdr fB)) (i:=0) rfl,?_⟩;refine⟨_,zax (zab (hdr fx)),?_⟩;refine⟨d,rfl,hd,?_⟩;refine⟨i64 (evA x d).th,by have:=zac (zae dw hat2) (i:=0) (v:=i64 (evA x d).th) rfl;exact this,?_⟩;exact⟨rb (by rw [h1,Bool.true_and]),dw⟩
 ·have h1:hasM r a d=false:=h1;exact⟨rb (by rw [h1,Bool.false_and]),dw⟩
theorem zrG {a d:Nat} (fx:ExH w b x q c) (hv:ExV w x q) (ha:a<x.ev.length) (hd:d<x.ev.length) :
  CB 62 #[i64 (a:Nat),i64 (d:Nat),At0 b] w (.bool (zdj x a d)):=by
 refine cofE 9 [i64 (a:Nat),i64 (d:Nat),At0 b] Tryz.func62 ?_;refine cmo (zl9 (zab fx) hv.ev ha hd) ?_;rintro e X ⟨rfl,hb⟩;exact⟨rfl,hb⟩
theorem znr {a d B:Nat} (fB:w.heap[B]?=some (.cells #[At0 b] 79 (0,0))) (fx:ExH w b x q c) (hv:ExV w x q) (ha:a<x.ev.length) (hd:d<x.ev.length) :
  CB 94 #[i64 (a:Nat),i64 (d:Nat),At0 B] w (.bool (hasM x.po a d&&zdj x a d)):=by
 refine cofE 18 [i64 (a:Nat),i64 (d:Nat),At0 B] Tryz.func94 ?_;have hn:=hv.n;refine⟨At0 b,zac (zab fB) (i:=0) rfl,?_⟩;refine cmo (zaC (zha (zab fx) (zpe x q c)) hv.po (by omega) (by omega)) ?_;rintro e _ ⟨rfl,rfl⟩;refine biE (fun h1=>?_) fun h1=>?_
 ·have h1:hasM x.po a d=true:=h1;refine⟨At0 b,zac (zab fB) (i:=0) rfl,?_⟩;refine cmo (zl9 (zab fx) hv.ev ha hd) ?_;rintro e X ⟨rfl,hb⟩;exact⟨rb (by rw [h1,Bool.true_and]),hb⟩
 ·have h1:hasM x.po a d=false:=h1;exact⟨rb (by rw [h1,Bool.false_and]),Below.refl _ _⟩
theorem zrU {r:RelD} (fx:ExH w b x q c) (hv:ExV w x q) (hr:WrdR r.to) (hn:r.n=x.ev.length) :
  CB 65 #[At0 b,.agg (relC r).toArray] w (.agg (relC (extM x r)).toArray):=by
 refine cofM 9 [At0 b,.agg (relC r).toArray] (.c .p (.c .p .p)) Tryz.func65 ?_;obtain⟨L,hL⟩:=nm (w.heap.size);have h19:=hv.n;refine⟨Unit,fun _=>⟨[(2,At0 L),(3,At0 (L+1)),(4,At0 (L+2))],[]⟩,fun _ X=>X.heap[L]?=some (.cells #[At0 b] 79 (0,0))/\RelH X (L+1) r/\RelH X (L+2) zai/\Bw w X,?_,?_⟩
 ·have s1:=wz w (.cells #[At0 b] 79);have s2:=wz (w.alloc (.cells #[At0 b] 79)) (.cells (relC r).toArray 27);have b1:Bw w (w.alloc (.cells #[At0 b] 79)):=zba w _;have b2:=b1.alloc b1.size (.cells (relC r).toArray 27);have h1:=hnew w (.cells #[At0 b] 79);have h2:=hnew (w.alloc (.cells #[At0 b] 79)) (.cells (relC r).toArray 27);have h3:=hnew ((w.alloc (.cells #[At0 b] 79)).alloc (.cells (relC r).toArray 27)) (.cells (relC zai).toArray 27);rw [s1] at h2 s2;rw [s2] at h3;refine⟨(),⟨.cons (by rw [hL];rfl) (.cons (by rw [hL,<- s1];rfl) (.cons (by rw [hL,<- s2];rfl) .nil)),rfl⟩,by rw [hL];exact hold _ (hold _ h1),by rw [hL];exact hold _ h2,by rw [hL];exact h3,b2.alloc b2.size _⟩
 rintro _ X ⟨fB,fR,f0,hbX⟩;have fX:=zaa hbX fx;have hvX:=hv.below hbX;refine⟨Unit,fun _=>⟨[(4,At0 (L+2))],[]⟩,fun _ Y=>RelH Y (L+2) (extM x r)/\Bw w Y,?_,?_⟩
 ·refine⟨i64 r.n,by have:=zac (zab fR) (i:=0) (v:=i64 r.n) rfl;exact this,?_⟩;have en:extM x r=zaX x.ev.length fun a d=>hasM r a d && !decide ((evA x a).th=(evA x d).th):=by
   unfold extM;rw [hn];rfl
  rw [hn];refine cmo (zir (n:=x.ev.length) (caps := #[At0 (L+1),At0 L]) (g:=102) (p:=fun a d=>hasM r a d && !decide ((evA x a).th=(evA x d).th)) (by omega) (by kernel_rfl) fun a d Z ha hd hb=>zrV (zaa hb fR) hr (zaa hb fB) (zaa hb fX) (hvX.below hb) ha hd) ?_;rintro e Y ⟨rfl,hbY⟩;rw [<- en];have f0:=zaa hbY f0;refine zar (v := .agg (relC (extM x r)).toArray) k27 f0 (zad _) (zad _) (zau _) ?_;exact⟨(),(cvE rfl rfl),zal f0,zah ((zst hbX hbY)) (by omega) _⟩
 rintro _ Y ⟨f0,hbY⟩;exact⟨relC (extM x r),zad _,zab f0,rfl,hbY⟩
end
section
variable {b c:Nat} {x:ExD} {q:Option Addr} {w:World}
theorem zkw {md:UInt8} (fx:ExH w b x q c) (hv:ExV w x q) (hT:Tz64M w):CB 68 #[At0 b,u8 md] w (.agg (relC (zaz x md)).toArray):=by
 refine cofM 70 [At0 b,u8 md] (.c .p (.c .p (.c .p (.c .p (.c .p (.c .p (.c .p .p))))))) Tryz.func68 ?_;obtain⟨L,hL⟩:=nm (w.heap.size);have hn:=hv.n;obtain⟨n,hnn⟩:=nm (x.ev.length);refine⟨Unit,fun _=>⟨[(0,At0 b),(1,u8 md),(4,At0 L)],[]⟩,fun _ X=>RelH X L zai/\Bw w X,⟨(),⟨.cons rfl (.cons rfl (.cons (by rw [hL];rfl) .nil)),rfl⟩,by rw [hL];exact hnew w _,(zba w _)⟩,?_⟩;rintro _ X ⟨f0,hbX⟩;refine⟨Unit,fun _=>⟨[(0,At0 b),(1,u8 md),(4,At0 L),(5,i64 n)],[]⟩,fun _ Y=>X=Y,?_,?_⟩
 ·refine⟨_,zac (zab (zaa hbX fx)) (i:=0) rfl,?_⟩;exact⟨(),⟨.cons rfl (.cons rfl (.cons rfl (.cons (by rw [hnn];rfl) .nil))),rfl⟩,rfl⟩
 rintro _ _ rfl;refine⟨Unit,fun _=>⟨[(0,At0 b),(1,u8 md),(4,At0 L),(5,i64 n),(6,.slice none 0 0)],[]⟩,fun _ Y=>X=Y,⟨(),(cvE rfl rfl),rfl⟩,?_⟩;rintro _ _ rfl;obtain⟨pr,hpr⟩:∃ pr:Nat->Bool,pr=fun i=>decide ((evA x i).k=3)&&decide ((evA x i).m=md):=⟨_,rfl⟩;obtain⟨B,hB⟩:=nm (X.heap.size);refine⟨Option Addr×Nat,fun s=>⟨[(0,At0 b),(4,At0 L),(5,i64 n),(6,.slice s.1 ((List.range n).filter pr).length s.2)],[]⟩,fun s V=>OwnS natE 3 B V s.1 s.2 ((List.range n).filter pr)/\Below B X V,?_,?_⟩
 ·refine⟨_,zac (zab (zaa hbX fx)) (i:=0) rfl,?_⟩;refine⟨Nat×Option Addr×Nat,fun s=>⟨[(0,At0 b),(1,u8 md),(4,At0 L),(5,i64 n),(6,.slice s.2.1 ((List.range s.1).filter pr).length s.2.2),(23,.slice q x.ev.length c),(24,i64 x.ev.length),(25,i64 (s.1:Nat))],[]⟩,fun s V=>s.1<=x.ev.length/\OwnS natE 3 B V s.2.1 s.2.2 ((List.range s.1).filter pr)/\Below B X V,fun s=>x.ev.length-s.1,(0,none,0),
   (cvE rfl rfl),⟨Nat.zero_le _,OwnS.nil,by rw [hB];exact Below.refl _ _⟩,?_⟩
  rintro⟨k,ps,cs⟩ V ⟨hk,oV,hbV⟩;dsimp only at hk oV ⊢;have hVs:B<=V.heap.size:=by have:=hbV.size;omega
  refine biE (fun hc=>?_) fun hc=>?_
  ·have hc:(k:Int)<(x.ev.length:Int):=dT hc;have hkl:k<x.ev.length:=by omega
   have hbwV:=hbX.trans (hbV.mono (by rw [hB];exact hbX.size));obtain⟨bq,oq,hqe,hb,hat⟩:=zdo (hv.ev.below hbwV) hkl;have hfl:(List.range (k+1)).filter pr=(List.range k).filter pr++if pr k=true then [k] else []:=by
    rw [List.range_succ,List.filter_append,List.filter_cons,List.filter_nil]
   have hprk:pr k=(decide ((evA x k).k=3)&&decide ((evA x k).m=md)):=by rw [hpr]
   have hll2:((List.range k).filter pr).length<=k:=by
    have:=List.length_filter_le pr (List.range k);rw [List.length_range] at this;exact this
   obtain⟨e,he⟩:=nm (evA x k);rw [<- he] at hat hprk;have eq0:some (Value.slice q x.ev.length c)=some (Value.slice (some ⟨bq,oq,none⟩) x.ev.length c):=by rw [hqe]
   subst hqe;refine⟨k,rfl,hkl,?_⟩;refine⟨evE.enc e,rfl,hat,hb,?_⟩;refine zan (X:=V) (v := .agg (evE.enc e).toArray) k54 rfl rfl (List.all_eq_true.2 fun u hu=>evE.one e u hu) fun U hbU fU sU=>?_;have fU:U.heap[V.heap.size]?=some (.cells (evE.enc e).toArray 54 (0,0)):=fU;have oU:=oV.below hbU;have hbU2:=hbV.trans (hbU.mono hVs);have hUs:B<=U.heap.size:=by have:=hbU.size;omega
   have skip:pr k=false->(k+1<=x.ev.length/\OwnS natE 3 B U ps cs ((List.range (k+1)).filter pr)/\Below B X U):=fun h=>⟨hkl,by rw [hfl,h];simpa using oU,hbU2⟩;have skipE:pr k=false->((List.range (k+1)).filter pr).length=((List.range k).filter pr).length:=fun h=>by rw [hfl,h];simp
   refine⟨u8 e.k,zac (zab fU) (i:=1) rfl,?_⟩;refine biE (fun h1=>?_) fun h1=>?_
   ·have h1:e.k=3:=zbi.1 (dT h1);refine⟨u8 e.m,zac (zab fU) (i:=4) rfl,?_⟩;refine biE (fun h2=>?_) fun h2=>?_
    ·have h2:e.m=md:=zbi.1 (dT h2);have hp1:pr k=true:=(by rw [hprk,decide_eq_true h1,decide_eq_true h2];rfl);rw [if_pos hp1] at hfl;refine⟨⟨by decide,by decide,rfl⟩,natE.enc k,rfl,?_⟩;have hb2:Bw U (U.alloc (.cells (natE.enc k).toArray 3)):=zba _ _;have sb2:=hb2.size;unfold opsE zda;show SatR _ _;refine appI (oU.below hb2) (zbg natE k) (by omega) (by omega) fun p' c' S oS gS hat2=>?_;rw [zcD] at gS;rw [<- hfl] at oS ⊢;refine nxI (by omega) ?_;exact⟨(k+1,p',c'),(cvE rfl rfl),⟨hkl,oS,hbU2.trans ((hb2.mono hUs).trans (za7 (oU.below hb2) (by omega) (Nat.le_refl _) gS))⟩,zdc (by omega)⟩
    ·have h2:¬ e.m=md:=fun e2=>(dF h2) (by rw [e2]);have hp0:pr k=false:=(by rw [hprk,decide_eq_false h2,Bool.and_false]);refine nxI (by omega) ?_;exact⟨(k+1,ps,cs),⟨.cons rfl (.cons rfl (.cons rfl (.cons rfl (.cons (by show _=some (Value.slice ps ((List.range (k+1)).filter pr).length cs);rw [skipE hp0];rfl) (.cons rfl (.cons rfl (.cons rfl .nil))))))),rfl⟩,skip hp0,zdc (by omega)⟩
   ·have h1:¬ e.k=3:=fun e2=>(dF h1) (by rw [e2];rfl);have hp0:pr k=false:=(by rw [hprk,decide_eq_false h1];rfl);refine brF ?_;refine nxI (by omega) ?_;exact⟨(k+1,ps,cs),⟨.cons rfl (.cons rfl (.cons rfl (.cons rfl (.cons (by show _=some (Value.slice ps ((List.range (k+1)).filter pr).length cs);rw [skipE hp0];rfl) (.cons rfl (.cons rfl (.cons rfl .nil))))))),rfl⟩,skip hp0,zdc (by omega)⟩
  ·have hc:¬ (k:Int)<(x.ev.length:Int):=dF hc;obtain rfl:k=x.ev.length:=by omega
   rw [<- hnn] at oV ⊢;exact⟨(ps,cs),(cvE rfl rfl),oV,hbV⟩
 rintro⟨ps,cs⟩ V ⟨oV,hbV⟩;dsimp only at oV ⊢;have hVs:B<=V.heap.size:=by have:=hbV.size;omega
 have hbwV:=hbX.trans (hbV.mono (by rw [hB];exact hbX.size));have hmask:orG ((List.range n).filter pr)=zcs x md:=by rw [hpr,hnn];rfl
 have hlt64:∀ i∈(List.range n).filter pr,i<64:=fun i hi=>by
  have:=List.mem_range.1 (List.mem_filter.1 hi).1;omega
 have hlen:((List.range n).filter pr).length<=n:=by
  have:=List.length_filter_le pr (List.range n);rw [List.length_range] at this;exact this
 refine⟨Unit,fun _=>⟨[(0,At0 b),(4,At0 L),(5,i64 n),(9,s64 (zcs x md))],[]⟩,fun _ Y=>V=Y,?_,?_⟩
 ·refine cmo (Of_c oV.row hlt64 (by omega)) ?_;rintro e Y ⟨rfl,rfl⟩;rw [hmask];exact⟨(),(cvE rfl rfl),rfl⟩
 rintro _ _ rfl;have hm64:zcs x md<2^64:=by rw [<- hmask];exact zo0 hlt64
 replace f0:=zaa (by subst hB;exact hbV) f0;have fV:=zaa hbwV fx;have hvV:=hv.below hbwV;have hTV:=hT.below hbwV;clear oV hbX hbV hlen hlt64 hmask hpr hB hVs;clear B ps cs pr X;have idw:WrdR (idR n (zcs x md)).to:=fun i hi=>by
  unfold idR;exact ze2 (fun i _ _=>Nat.lt_of_le_of_lt Nat.and_le_left hm64) i hi
 have hba:∀ (A:World) (o:Obj),Bw A (A.alloc o):=fun A o=>(zba _ _);refine⟨Nat,fun F=>⟨[(0,At0 b),(4,At0 L),(11,At0 F)],[]⟩,fun F Z=>RelH Z F (zbY x.po (idR n (zcs x md))).1/\RelH Z L zai/\Bw w Z,?_,?_⟩
 ·have dV:Bw V V.drew:=(Below.refl _ _).drew;have put:∀ (W:World) (b3:Nat),Bw V W->RelH W b3 zai->V.heap.size<=b3->∀ {K:World->Prop},(∀ Y,(RelH Y b3 (zbY x.po (idR n (zcs x md))).1/\RelH Y L zai/\Bw w Y)->K Y) ->
    SatR ((storeVar 27 ⟨b3,0,none⟩ (.agg (relC (zbY x.po (idR n (zcs x md))).1).toArray)).run Tryz.prog W) fun _ w'=>K w':=by
   intro W b3 hW f3 g3 K k;refine zar (v := .agg (relC (zbY x.po (idR n (zcs x md))).1).toArray) k27 f3 (zad _) (zad _) (zau _) ?_;have hL2:=hlt f0;exact k _ ⟨zal f3,(zam (by omega)).trans (zaa hW f0),zah ((zst hbwV hW)) (by have:=hbwV.size;omega) _⟩
  refine DrawE.treeQ [12] (.op 0 (.op 1 (.op 2 (.op 3 (.op 4 (.op 5 (.alt (.op 11 (.op 6 (.op 7 (.op 8 (.op 9 (.op 10 (.op 12 (.op 13 (.nil))))))))) (.op 6 (.alt (.op 11 (.op 7 (.op 8 (.op 9 (.op 10 (.op 12 (.op 13 (.nil)))))))) (.op 7 (.op 8 (.op 9 (.op 10 (.op 11 (.op 12 (.op 13 (.nil))))))))))))))))) (by kernel_rfl) ?_;refine⟨relC x.po,zad _,zaA (hdr fV) (i:=0) (by decide) rfl,hlt (hdr fV),?_⟩;refine And.intro ?_ ?_
  ·refine⟨hba _ _,?_⟩;have b1:=dV.alloc (Nat.le_refl _) (.cells (relC zai).toArray 27);refine cmo (Id_c (n:=n) (by omega) hm64) ?_;rintro e Y ⟨rfl,hbY⟩;refine⟨hbY,?_⟩;have b2:=zst b1 hbY;refine cmo (zes hvV.po idw (hTV.below b2)) ?_;rintro e Z ⟨rfl,hbZ⟩;refine⟨hbZ,?_⟩;refine put Z V.heap.size ((zst b2 hbZ)) (zaa hbZ (zaa hbY (hnew V.drew _))) (Nat.le_refl _) ?_;exact fun Y hY=>⟨V.heap.size,(cvE rfl rfl),hY⟩
  refine cmo (Id_c (n:=n) (by omega) hm64) ?_;rintro e Y ⟨rfl,hbY⟩;refine⟨hbY,?_⟩;have b1:=zst dV hbY;refine And.intro ?_ ?_
  ·refine⟨hba _ _,?_⟩;have b2:=b1.alloc b1.size (.cells (relC zai).toArray 27);refine cmo (zes hvV.po idw (hTV.below b2)) ?_;rintro e Z ⟨rfl,hbZ⟩;refine⟨hbZ,?_⟩;refine put Z Y.heap.size ((zst b2 hbZ)) (zaa hbZ (hnew Y _)) b1.size ?_;exact fun V2 hV=>⟨Y.heap.size,(cvE rfl rfl),hV⟩
  ·refine cmo (zes hvV.po idw (hTV.below b1)) ?_;rintro e Z ⟨rfl,hbZ⟩;refine⟨hbZ,?_⟩;have b2:=zst b1 hbZ;refine⟨hba _ _,?_⟩;refine put _ Z.heap.size (b2.alloc b2.size _) (hnew Z _) b2.size ?_;exact fun V2 hV=>⟨Z.heap.size,(cvE rfl rfl),hV⟩
 clear f0 fV hvV hTV hbwV;clear V;rintro F V ⟨f1,f0,hbV⟩;have fV:=zaa hbV fx;have hTV:=hT.below hbV;have hFw:=zeF hv.po idw;have efen:(zbY (zbY x.po (idR n (zcs x md))).1 x.po).1=zaz x md:=by rw [hnn];rfl
 refine⟨Nat,fun G=>⟨[(4,At0 L),(13,At0 G)],[]⟩,fun G Z=>RelH Z G (zaz x md)/\RelH Z L zai/\Bw w Z,?_,?_⟩
 ·have dV:Bw V V.drew:=(Below.refl _ _).drew;have put:∀ (W:World) (b3:Nat),Bw V W->RelH W b3 zai->V.heap.size<=b3->∀ {K:World->Prop},(∀ Y,(RelH Y b3 (zaz x md)/\RelH Y L zai/\Bw w Y)->K Y) ->
    SatR ((storeVar 27 ⟨b3,0,none⟩ (.agg (relC (zaz x md)).toArray)).run Tryz.prog W) fun _ w'=>K w':=by
   intro W b3 hW f3 g3 K k;refine zar (v := .agg (relC (zaz x md)).toArray) k27 f3 (zad _) (zad _) (zau _) ?_;have hL2:=hlt f0;exact k _ ⟨zal f3,(zam (by omega)).trans (zaa hW f0),zah ((zst hbV hW)) (by have:=hbV.size;omega) _⟩
  refine DrawE.treeQ [10] (.op 0 (.op 1 (.op 2 (.op 3 (.op 4 (.alt (.op 9 (.op 5 (.op 6 (.op 7 (.op 8 (.op 10 (.op 11 .nil))))))) (.op 5 (.op 6 (.op 7 (.op 8 (.op 9 (.op 10 (.op 11 .nil))))))))))))) (by kernel_rfl) ?_;refine⟨relC _,zad _,zab (hdr f1),hlt (hdr f1),?_⟩;refine⟨relC x.po,zad _,zaA (hdr fV) (i:=0) (by decide) rfl,hlt (hdr fV),?_⟩;refine And.intro ?_ ?_
  ·refine⟨hba _ _,?_⟩;have b1:=dV.alloc (Nat.le_refl _) (.cells (relC zai).toArray 27);refine cmo (zes hFw hv.po (hTV.below b1)) ?_;rintro e Y ⟨rfl,hbY⟩;refine⟨hbY,?_⟩;rw [efen];refine put Y V.heap.size ((zst b1 hbY)) (zaa hbY (hnew V.drew _)) (Nat.le_refl _) ?_;exact fun Y hY=>⟨V.heap.size,(cvE rfl rfl),hY⟩
  ·refine cmo (zes hFw hv.po (hTV.below dV)) ?_;rintro e Y ⟨rfl,hbY⟩;refine⟨hbY,?_⟩;have b1:=zst dV hbY;refine⟨hba _ _,?_⟩;rw [efen];refine put _ Y.heap.size (b1.alloc b1.size _) (hnew Y _) b1.size ?_;exact fun V2 hV=>⟨Y.heap.size,(cvE rfl rfl),hV⟩
 rintro G Z ⟨f1,f0,hbZ⟩;refine⟨relC (zaz x md),zad _,zab f1,hlt f1,?_⟩;refine zar (v := .agg (relC (zaz x md)).toArray) k27 f0 (zad _) (zad _) (zau _) ?_;exact⟨relC (zaz x md),zad _,zab (zal f0),rfl,zah hbZ (by omega) _⟩
end
section
variable {w:World} {b c:Nat} {x:ExD} {q:Option Addr} {f l s:RelD}
theorem zpP {a d:Nat}:CB 131 #[At0 b,i64 (a:Nat),i64 (d:Nat)] w (.bool (zeU 1 x f l s a d)):=by
 refine cofE 7 [At0 b,i64 (a:Nat),i64 (d:Nat)] Tryz.func131 ?_;exact⟨rfl,Below.refl _ _⟩
theorem zpO {a d:Nat}:CB 132 #[At0 b,i64 (a:Nat),i64 (d:Nat)] w (.bool (zeU 2 x f l s a d)):=by
 refine cofE 7 [At0 b,i64 (a:Nat),i64 (d:Nat)] Tryz.func132 ?_;exact⟨rfl,Below.refl _ _⟩
theorem zpN {a d:Nat} (h:ScnV w b x q c f l s) (ha:a<x.ev.length) (hd:d<x.ev.length):CB 133 #[At0 b,i64 (a:Nat),i64 (d:Nat)] w (.bool (zeU 3 x f l s a d)):=by
 refine cofE 21 [At0 b,i64 (a:Nat),i64 (d:Nat)] Tryz.func133 ?_;have hn:=h.v.n;have hA:a<48:=by omega
 have hD:d<48:=by omega
 have hbw:=Below.refl w.heap.size w;refine cmo (zf3 h ha) ?_;rintro e _ ⟨rfl,rfl⟩;refine biE (fun h1=>?_) fun h1=>?_
 ·have h1:isR x a=true:=h1;refine brT ?_;exact⟨rb (by show _=(isR x a||(isW x d||zch x f a d));rw [h1];rfl),hbw⟩
 ·have h1:isR x a=false:=h1;refine cmo (zbF h hd) ?_;rintro e _ ⟨rfl,rfl⟩;refine biE (fun h2=>?_) fun h2=>?_
  ·have h2:isW x d=true:=h2;exact⟨rb (by show _=(isR x a||(isW x d||zch x f a d));rw [h1,h2];rfl),hbw⟩
  ·have h2:isW x d=false:=h2;refine cmo (znt h ha hd) ?_;rintro e _ ⟨rfl,rfl⟩;exact⟨rb (by show _=(isR x a||(isW x d||zch x f a d));rw [h1,h2];rfl),hbw⟩
theorem zpM {a d:Nat} (h:ScnV w b x q c f l s) (ha:a<x.ev.length) (hd:d<x.ev.length):CB 137 #[At0 b,i64 (a:Nat),i64 (d:Nat)] w (.bool (zeU 4 x f l s a d)):=by
 refine cofE 37 [At0 b,i64 (a:Nat),i64 (d:Nat)] Tryz.func137 ?_;have hn:=h.v.n;have hA:a<48:=by omega
 have hD:d<48:=by omega
 have hbw:=Below.refl w.heap.size w;refine cmo (zf3 h ha) ?_;rintro e _ ⟨rfl,rfl⟩;refine biE (fun h1=>?_) fun h1=>?_
 ·have h1:isR x a=true:=h1;refine brT ?_;exact⟨rb (by show _=(isR x a||(zch x f a d||(isW x d&&(zdj x a d||hasM s a d))));rw [h1];rfl),hbw⟩
 ·have h1:isR x a=false:=h1;refine cmo (znt h ha hd) ?_;rintro e _ ⟨rfl,rfl⟩;refine biE (fun h2=>?_) fun h2=>?_
  ·have h2:zch x f a d=true:=h2;exact⟨rb (by show _=(isR x a||(zch x f a d||(isW x d&&(zdj x a d||hasM s a d))));rw [h1,h2];rfl),hbw⟩
  ·have h2:zch x f a d=false:=h2;refine cmo (zbF h hd) ?_;rintro e _ ⟨rfl,rfl⟩;refine biE (fun h3=>?_) fun h3=>?_
   ·have h3:isW x d=true:=h3;refine cmo (zl9 h.cells h.v.ev ha hd) ?_;rintro e Z4 ⟨rfl,hbZ4⟩;have h:=h.below hbZ4;have hbw:=zst hbw hbZ4;refine biE (fun h4=>?_) fun h4=>?_
    ·have h4:zdj x a d=true:=h4;exact⟨rb (by show _=(isR x a||(zch x f a d||(isW x d&&(zdj x a d||hasM s a d))));rw [h1,h2,h3,h4];rfl),hbw⟩
    ·have h4:zdj x a d=false:=h4;refine cmo (zaC h.stores h.ws hA hD) ?_;rintro e _ ⟨rfl,rfl⟩;exact⟨rb (by show _=(isR x a||(zch x f a d||(isW x d&&(zdj x a d||hasM s a d))));rw [h1,h2,h3,h4];rfl),hbw⟩
   ·have h3:isW x d=false:=h3;exact⟨rb (by show _=(isR x a||(zch x f a d||(isW x d&&(zdj x a d||hasM s a d))));rw [h1,h2,h3];rfl),hbw⟩
theorem zpL {a d:Nat} (h:ScnV w b x q c f l s) (ha:a<x.ev.length) (hd:d<x.ev.length):CB 138 #[At0 b,i64 (a:Nat),i64 (d:Nat)] w (.bool (zeU 5 x f l s a d)):=by
 refine cofE 49 [At0 b,i64 (a:Nat),i64 (d:Nat)] Tryz.func138 ?_;have hn:=h.v.n;have hA:a<48:=by omega
 have hD:d<48:=by omega
 have hbw:=Below.refl w.heap.size w;refine cmo (zf3 h ha) ?_;rintro e _ ⟨rfl,rfl⟩;refine biE (fun h1=>?_) fun h1=>?_
 ·have h1:isR x a=true:=h1;refine cmo (zeG (md:=1) h ha) ?_;rintro e _ ⟨rfl,rfl⟩;refine biE (fun h2=>?_) fun h2=>?_
  ·have h2:zaG x a 1=true:=h2;refine brT ?_;refine brT ?_;exact⟨rb (by show _=((isR x a&&(zaG x a 1||hasM l a d))||((isW x d&&(zaG x d 2||hasM s a d))||hasM f a d));rw [h1,h2];rfl),hbw⟩
  ·have h2:zaG x a 1=false:=h2;refine cmo (zaC h.loads h.wl hA hD) ?_;rintro e _ ⟨rfl,rfl⟩;refine biE (fun h3=>?_) fun h3=>?_
   ·have h3:hasM l a d=true:=h3;refine brT ?_;exact⟨rb (by show _=((isR x a&&(zaG x a 1||hasM l a d))||((isW x d&&(zaG x d 2||hasM s a d))||hasM f a d));rw [h1,h2,h3];rfl),hbw⟩
   ·have h3:hasM l a d=false:=h3;refine cmo (zbF h hd) ?_;rintro e _ ⟨rfl,rfl⟩;refine biE (fun h4=>?_) fun h4=>?_
    ·have h4:isW x d=true:=h4;refine cmo (zeG (md:=2) h hd) ?_;rintro e _ ⟨rfl,rfl⟩;refine biE (fun h5=>?_) fun h5=>?_
     ·have h5:zaG x d 2=true:=h5;refine brT ?_;exact⟨rb (by show _=((isR x a&&(zaG x a 1||hasM l a d))||((isW x d&&(zaG x d 2||hasM s a d))||hasM f a d));rw [h1,h2,h3,h4,h5];rfl),hbw⟩
     ·have h5:zaG x d 2=false:=h5;refine cmo (zaC h.stores h.ws hA hD) ?_;rintro e _ ⟨rfl,rfl⟩;refine biE (fun h6=>?_) fun h6=>?_
      ·have h6:hasM s a d=true:=h6;exact⟨rb (by show _=((isR x a&&(zaG x a 1||hasM l a d))||((isW x d&&(zaG x d 2||hasM s a d))||hasM f a d));rw [h1,h2,h3,h4,h5,h6];rfl),hbw⟩
      ·have h6:hasM s a d=false:=h6;refine cmo (zaC h.full h.wf hA hD) ?_;rintro e _ ⟨rfl,rfl⟩;exact⟨rb (by show _=((isR x a&&(zaG x a 1||hasM l a d))||((isW x d&&(zaG x d 2||hasM s a d))||hasM f a d));rw [h1,h2,h3,h4,h5,h6];rfl),hbw⟩
    ·have h4:isW x d=false:=h4;refine brF ?_;refine cmo (zaC h.full h.wf hA hD) ?_;rintro e _ ⟨rfl,rfl⟩;exact⟨rb (by show _=((isR x a&&(zaG x a 1||hasM l a d))||((isW x d&&(zaG x d 2||hasM s a d))||hasM f a d));rw [h1,h2,h3,h4];rfl),hbw⟩
 ·have h1:isR x a=false:=h1;refine brF ?_;refine cmo (zbF h hd) ?_;rintro e _ ⟨rfl,rfl⟩;refine biE (fun h9=>?_) fun h9=>?_
  ·have h9:isW x d=true:=h9;refine cmo (zeG (md:=2) h hd) ?_;rintro e _ ⟨rfl,rfl⟩;refine biE (fun h10=>?_) fun h10=>?_
   ·have h10:zaG x d 2=true:=h10;refine brT ?_;exact⟨rb (by show _=((isR x a&&(zaG x a 1||hasM l a d))||((isW x d&&(zaG x d 2||hasM s a d))||hasM f a d));rw [h1,h9,h10];rfl),hbw⟩
   ·have h10:zaG x d 2=false:=h10;refine cmo (zaC h.stores h.ws hA hD) ?_;rintro e _ ⟨rfl,rfl⟩;refine biE (fun h11=>?_) fun h11=>?_
    ·have h11:hasM s a d=true:=h11;exact⟨rb (by show _=((isR x a&&(zaG x a 1||hasM l a d))||((isW x d&&(zaG x d 2||hasM s a d))||hasM f a d));rw [h1,h9,h10,h11];rfl),hbw⟩
    ·have h11:hasM s a d=false:=h11;refine cmo (zaC h.full h.wf hA hD) ?_;rintro e _ ⟨rfl,rfl⟩;exact⟨rb (by show _=((isR x a&&(zaG x a 1||hasM l a d))||((isW x d&&(zaG x d 2||hasM s a d))||hasM f a d));rw [h1,h9,h10,h11];rfl),hbw⟩
  ·have h9:isW x d=false:=h9;refine brF ?_;refine cmo (zaC h.full h.wf hA hD) ?_;rintro e _ ⟨rfl,rfl⟩;exact⟨rb (by show _=((isR x a&&(zaG x a 1||hasM l a d))||((isW x d&&(zaG x d 2||hasM s a d))||hasM f a d));rw [h1,h9];rfl),hbw⟩
theorem zpK {a d:Nat} (h:ScnV w b x q c f l s) (ha:a<x.ev.length) (hd:d<x.ev.length):CB 140 #[At0 b,i64 (a:Nat),i64 (d:Nat)] w (.bool (zeU 6 x f l s a d)):=by
 refine cofE 81 [At0 b,i64 (a:Nat),i64 (d:Nat)] Tryz.func140 ?_;have hn:=h.v.n;have hA:a<48:=by omega
 have hD:d<48:=by omega
 have hbw:=Below.refl w.heap.size w;refine cmo (zaC (zha h.cells (zrW x q c)) h.v.dt hA hD) ?_;rintro e _ ⟨rfl,rfl⟩;refine biE (fun h1=>?_) fun h1=>?_
 ·have h1:hasM x.dt a d=true:=h1;refine brT ?_;refine brT ?_;refine brT ?_;refine brT ?_;exact⟨rb (by show _=(hasM x.dt a d||((hasM x.ct a d&&isW x d)||(hasM x.rm a d||(hasM f a d||((hasM l a d&&(isR x a&&isR x d))||(hasM s a d&&(isW x a&&isW x d)))))));rw [h1];rfl),hbw⟩
 ·have h1:hasM x.dt a d=false:=h1;refine cmo (zaC (zha h.cells (zrX x q c)) h.v.ct hA hD) ?_;rintro e _ ⟨rfl,rfl⟩;refine biE (fun h2=>?_) fun h2=>?_
  ·have h2:hasM x.ct a d=true:=h2;refine cmo (zbF h hd) ?_;rintro e _ ⟨rfl,rfl⟩;refine biE (fun h3=>?_) fun h3=>?_
   ·have h3:isW x d=true:=h3;refine brT ?_;refine brT ?_;refine brT ?_;exact⟨rb (by show _=(hasM x.dt a d||((hasM x.ct a d&&isW x d)||(hasM x.rm a d||(hasM f a d||((hasM l a d&&(isR x a&&isR x d))||(hasM s a d&&(isW x a&&isW x d)))))));rw [h1,h2,h3];rfl),hbw⟩
   ·have h3:isW x d=false:=h3;refine cmo (zaC (zha h.cells (zpd x q c)) h.v.rm hA hD) ?_;rintro e _ ⟨rfl,rfl⟩;refine biE (fun h4=>?_) fun h4=>?_
    ·have h4:hasM x.rm a d=true:=h4;refine brT ?_;refine brT ?_;exact⟨rb (by show _=(hasM x.dt a d||((hasM x.ct a d&&isW x d)||(hasM x.rm a d||(hasM f a d||((hasM l a d&&(isR x a&&isR x d))||(hasM s a d&&(isW x a&&isW x d)))))));rw [h1,h2,h3,h4];rfl),hbw⟩
    ·have h4:hasM x.rm a d=false:=h4;refine cmo (zaC h.full h.wf hA hD) ?_;rintro e _ ⟨rfl,rfl⟩;refine biE (fun h5=>?_) fun h5=>?_
     ·have h5:hasM f a d=true:=h5;refine brT ?_;exact⟨rb (by show _=(hasM x.dt a d||((hasM x.ct a d&&isW x d)||(hasM x.rm a d||(hasM f a d||((hasM l a d&&(isR x a&&isR x d))||(hasM s a d&&(isW x a&&isW x d)))))));rw [h1,h2,h3,h4,h5];rfl),hbw⟩
     ·have h5:hasM f a d=false:=h5;refine cmo (zaC h.loads h.wl hA hD) ?_;rintro e _ ⟨rfl,rfl⟩;refine biE (fun h6=>?_) fun h6=>?_
      ·have h6:hasM l a d=true:=h6;refine cmo (zf3 h ha) ?_;rintro e _ ⟨rfl,rfl⟩;refine biE (fun h7=>?_) fun h7=>?_
       ·have h7:isR x a=true:=h7;refine cmo (zf3 h hd) ?_;rintro e _ ⟨rfl,rfl⟩;refine biE (fun h8=>?_) fun h8=>?_
        ·have h8:isR x d=true:=h8;exact⟨rb (by show _=(hasM x.dt a d||((hasM x.ct a d&&isW x d)||(hasM x.rm a d||(hasM f a d||((hasM l a d&&(isR x a&&isR x d))||(hasM s a d&&(isW x a&&isW x d)))))));rw [h1,h2,h3,h4,h5,h6,h7,h8];rfl),hbw⟩
        ·have h8:isR x d=false:=h8;refine cmo (zaC h.stores h.ws hA hD) ?_;rintro e _ ⟨rfl,rfl⟩;refine biE (fun h9=>?_) fun h9=>?_
         ·have h9:hasM s a d=true:=h9;refine cmo (zbF h ha) ?_;rintro e _ ⟨rfl,rfl⟩;refine biE (fun h10=>?_) fun h10=>?_
          ·have h10:isW x a=true:=h10;refine cmo (zbF h hd) ?_;rintro e _ ⟨rfl,rfl⟩;exact⟨rb (by show _=(hasM x.dt a d||((hasM x.ct a d&&isW x d)||(hasM x.rm a d||(hasM f a d||((hasM l a d&&(isR x a&&isR x d))||(hasM s a d&&(isW x a&&isW x d)))))));rw [h1,h2,h3,h4,h5,h6,h7,h8,h9,h10];rfl),hbw⟩
          ·have h10:isW x a=false:=h10;exact⟨rb (by show _=(hasM x.dt a d||((hasM x.ct a d&&isW x d)||(hasM x.rm a d||(hasM f a d||((hasM l a d&&(isR x a&&isR x d))||(hasM s a d&&(isW x a&&isW x d)))))));rw [h1,h2,h3,h4,h5,h6,h7,h8,h9,h10];rfl),hbw⟩
         ·have h9:hasM s a d=false:=h9;refine brF ?_;exact⟨rb (by show _=(hasM x.dt a d||((hasM x.ct a d&&isW x d)||(hasM x.rm a d||(hasM f a d||((hasM l a d&&(isR x a&&isR x d))||(hasM s a d&&(isW x a&&isW x d)))))));rw [h1,h2,h3,h4,h5,h6,h7,h8,h9];rfl),hbw⟩
       ·have h7:isR x a=false:=h7;refine brF ?_;refine cmo (zaC h.stores h.ws hA hD) ?_;rintro e _ ⟨rfl,rfl⟩;refine biE (fun h12=>?_) fun h12=>?_
        ·have h12:hasM s a d=true:=h12;refine cmo (zbF h ha) ?_;rintro e _ ⟨rfl,rfl⟩;refine biE (fun h13=>?_) fun h13=>?_
         ·have h13:isW x a=true:=h13;refine cmo (zbF h hd) ?_;rintro e _ ⟨rfl,rfl⟩;exact⟨rb (by show _=(hasM x.dt a d||((hasM x.ct a d&&isW x d)||(hasM x.rm a d||(hasM f a d||((hasM l a d&&(isR x a&&isR x d))||(hasM s a d&&(isW x a&&isW x d)))))));rw [h1,h2,h3,h4,h5,h6,h7,h12,h13];rfl),hbw⟩
         ·have h13:isW x a=false:=h13;exact⟨rb (by show _=(hasM x.dt a d||((hasM x.ct a d&&isW x d)||(hasM x.rm a d||(hasM f a d||((hasM l a d&&(isR x a&&isR x d))||(hasM s a d&&(isW x a&&isW x d)))))));rw [h1,h2,h3,h4,h5,h6,h7,h12,h13];rfl),hbw⟩
        ·have h12:hasM s a d=false:=h12;refine brF ?_;exact⟨rb (by show _=(hasM x.dt a d||((hasM x.ct a d&&isW x d)||(hasM x.rm a d||(hasM f a d||((hasM l a d&&(isR x a&&isR x d))||(hasM s a d&&(isW x a&&isW x d)))))));rw [h1,h2,h3,h4,h5,h6,h7,h12];rfl),hbw⟩
      ·have h6:hasM l a d=false:=h6;refine brF ?_;refine brF ?_;refine cmo (zaC h.stores h.ws hA hD) ?_;rintro e _ ⟨rfl,rfl⟩;refine biE (fun h15=>?_) fun h15=>?_
       ·have h15:hasM s a d=true:=h15;refine cmo (zbF h ha) ?_;rintro e _ ⟨rfl,rfl⟩;refine biE (fun h16=>?_) fun h16=>?_
        ·have h16:isW x a=true:=h16;refine cmo (zbF h hd) ?_;rintro e _ ⟨rfl,rfl⟩;exact⟨rb (by show _=(hasM x.dt a d||((hasM x.ct a d&&isW x d)||(hasM x.rm a d||(hasM f a d||((hasM l a d&&(isR x a&&isR x d))||(hasM s a d&&(isW x a&&isW x d)))))));rw [h1,h2,h3,h4,h5,h6,h15,h16];rfl),hbw⟩
        ·have h16:isW x a=false:=h16;exact⟨rb (by show _=(hasM x.dt a d||((hasM x.ct a d&&isW x d)||(hasM x.rm a d||(hasM f a d||((hasM l a d&&(isR x a&&isR x d))||(hasM s a d&&(isW x a&&isW x d)))))));rw [h1,h2,h3,h4,h5,h6,h15,h16];rfl),hbw⟩
       ·have h15:hasM s a d=false:=h15;refine brF ?_;exact⟨rb (by show _=(hasM x.dt a d||((hasM x.ct a d&&isW x d)||(hasM x.rm a d||(hasM f a d||((hasM l a d&&(isR x a&&isR x d))||(hasM s a d&&(isW x a&&isW x d)))))));rw [h1,h2,h3,h4,h5,h6,h15];rfl),hbw⟩
  ·have h2:hasM x.ct a d=false:=h2;refine brF ?_;refine cmo (zaC (zha h.cells (zpd x q c)) h.v.rm hA hD) ?_;rintro e _ ⟨rfl,rfl⟩;refine biE (fun h18=>?_) fun h18=>?_
   ·have h18:hasM x.rm a d=true:=h18;refine brT ?_;refine brT ?_;exact⟨rb (by show _=(hasM x.dt a d||((hasM x.ct a d&&isW x d)||(hasM x.rm a d||(hasM f a d||((hasM l a d&&(isR x a&&isR x d))||(hasM s a d&&(isW x a&&isW x d)))))));rw [h1,h2,h18];rfl),hbw⟩
   ·have h18:hasM x.rm a d=false:=h18;refine cmo (zaC h.full h.wf hA hD) ?_;rintro e _ ⟨rfl,rfl⟩;refine biE (fun h19=>?_) fun h19=>?_
    ·have h19:hasM f a d=true:=h19;refine brT ?_;exact⟨rb (by show _=(hasM x.dt a d||((hasM x.ct a d&&isW x d)||(hasM x.rm a d||(hasM f a d||((hasM l a d&&(isR x a&&isR x d))||(hasM s a d&&(isW x a&&isW x d)))))));rw [h1,h2,h18,h19];rfl),hbw⟩
    ·have h19:hasM f a d=false:=h19;refine cmo (zaC h.loads h.wl hA hD) ?_;rintro e _ ⟨rfl,rfl⟩;refine biE (fun h20=>?_) fun h20=>?_
     ·have h20:hasM l a d=true:=h20;refine cmo (zf3 h ha) ?_;rintro e _ ⟨rfl,rfl⟩;refine biE (fun h21=>?_) fun h21=>?_
      ·have h21:isR x a=true:=h21;refine cmo (zf3 h hd) ?_;rintro e _ ⟨rfl,rfl⟩;refine biE (fun h22=>?_) fun h22=>?_
       ·have h22:isR x d=true:=h22;exact⟨rb (by show _=(hasM x.dt a d||((hasM x.ct a d&&isW x d)||(hasM x.rm a d||(hasM f a d||((hasM l a d&&(isR x a&&isR x d))||(hasM s a d&&(isW x a&&isW x d)))))));rw [h1,h2,h18,h19,h20,h21,h22];rfl),hbw⟩
       ·have h22:isR x d=false:=h22;refine cmo (zaC h.stores h.ws hA hD) ?_;rintro e _ ⟨rfl,rfl⟩;refine biE (fun h23=>?_) fun h23=>?_
        ·have h23:hasM s a d=true:=h23;refine cmo (zbF h ha) ?_;rintro e _ ⟨rfl,rfl⟩;refine biE (fun h24=>?_) fun h24=>?_
         ·have h24:isW x a=true:=h24;refine cmo (zbF h hd) ?_;rintro e _ ⟨rfl,rfl⟩;exact⟨rb (by show _=(hasM x.dt a d||((hasM x.ct a d&&isW x d)||(hasM x.rm a d||(hasM f a d||((hasM l a d&&(isR x a&&isR x d))||(hasM s a d&&(isW x a&&isW x d)))))));rw [h1,h2,h18,h19,h20,h21,h22,h23,h24];rfl),hbw⟩
         ·have h24:isW x a=false:=h24;exact⟨rb (by show _=(hasM x.dt a d||((hasM x.ct a d&&isW x d)||(hasM x.rm a d||(hasM f a d||((hasM l a d&&(isR x a&&isR x d))||(hasM s a d&&(isW x a&&isW x d)))))));rw [h1,h2,h18,h19,h20,h21,h22,h23,h24];rfl),hbw⟩
        ·have h23:hasM s a d=false:=h23;refine brF ?_;exact⟨rb (by show _=(hasM x.dt a d||((hasM x.ct a d&&isW x d)||(hasM x.rm a d||(hasM f a d||((hasM l a d&&(isR x a&&isR x d))||(hasM s a d&&(isW x a&&isW x d)))))));rw [h1,h2,h18,h19,h20,h21,h22,h23];rfl),hbw⟩
      ·have h21:isR x a=false:=h21;refine brF ?_;refine cmo (zaC h.stores h.ws hA hD) ?_;rintro e _ ⟨rfl,rfl⟩;refine biE (fun h26=>?_) fun h26=>?_
       ·have h26:hasM s a d=true:=h26;refine cmo (zbF h ha) ?_;rintro e _ ⟨rfl,rfl⟩;refine biE (fun h27=>?_) fun h27=>?_
        ·have h27:isW x a=true:=h27;refine cmo (zbF h hd) ?_;rintro e _ ⟨rfl,rfl⟩;exact⟨rb (by show _=(hasM x.dt a d||((hasM x.ct a d&&isW x d)||(hasM x.rm a d||(hasM f a d||((hasM l a d&&(isR x a&&isR x d))||(hasM s a d&&(isW x a&&isW x d)))))));rw [h1,h2,h18,h19,h20,h21,h26,h27];rfl),hbw⟩
        ·have h27:isW x a=false:=h27;exact⟨rb (by show _=(hasM x.dt a d||((hasM x.ct a d&&isW x d)||(hasM x.rm a d||(hasM f a d||((hasM l a d&&(isR x a&&isR x d))||(hasM s a d&&(isW x a&&isW x d)))))));rw [h1,h2,h18,h19,h20,h21,h26,h27];rfl),hbw⟩
       ·have h26:hasM s a d=false:=h26;refine brF ?_;exact⟨rb (by show _=(hasM x.dt a d||((hasM x.ct a d&&isW x d)||(hasM x.rm a d||(hasM f a d||((hasM l a d&&(isR x a&&isR x d))||(hasM s a d&&(isW x a&&isW x d)))))));rw [h1,h2,h18,h19,h20,h21,h26];rfl),hbw⟩
     ·have h20:hasM l a d=false:=h20;refine brF ?_;refine brF ?_;refine cmo (zaC h.stores h.ws hA hD) ?_;rintro e _ ⟨rfl,rfl⟩;refine biE (fun h29=>?_) fun h29=>?_
      ·have h29:hasM s a d=true:=h29;refine cmo (zbF h ha) ?_;rintro e _ ⟨rfl,rfl⟩;refine biE (fun h30=>?_) fun h30=>?_
       ·have h30:isW x a=true:=h30;refine cmo (zbF h hd) ?_;rintro e _ ⟨rfl,rfl⟩;exact⟨rb (by show _=(hasM x.dt a d||((hasM x.ct a d&&isW x d)||(hasM x.rm a d||(hasM f a d||((hasM l a d&&(isR x a&&isR x d))||(hasM s a d&&(isW x a&&isW x d)))))));rw [h1,h2,h18,h19,h20,h29,h30];rfl),hbw⟩
       ·have h30:isW x a=false:=h30;exact⟨rb (by show _=(hasM x.dt a d||((hasM x.ct a d&&isW x d)||(hasM x.rm a d||(hasM f a d||((hasM l a d&&(isR x a&&isR x d))||(hasM s a d&&(isW x a&&isW x d)))))));rw [h1,h2,h18,h19,h20,h29,h30];rfl),hbw⟩
      ·have h29:hasM s a d=false:=h29;refine brF ?_;exact⟨rb (by show _=(hasM x.dt a d||((hasM x.ct a d&&isW x d)||(hasM x.rm a d||(hasM f a d||((hasM l a d&&(isR x a&&isR x d))||(hasM s a d&&(isW x a&&isW x d)))))));rw [h1,h2,h18,h19,h20,h29];rfl),hbw⟩
end
abbrev zeI:List Value:=[.nilFunc,.func (.func 131) #[] #[],.func (.func 132) #[] #[],.func (.func 133) #[] #[],.func (.func 137) #[] #[],.func (.func 138) #[] #[],.func (.func 140) #[] #[]]
section
variable {b c:Nat} {x:ExD} {q:Option Addr} {w:World} {f l s:RelD}
theorem zpJ:CB 105 #[] w (.agg zeI.toArray):=by
 refine cofM 8 [] (.c .p .p) Tryz.func105 ?_;obtain⟨L,hL⟩:=nm (w.heap.size);refine⟨Unit,fun _=>⟨[(0,At0 L)],[]⟩,fun _ X=>X.heap[L]?=some (.cells #[.nilFunc,.nilFunc,.nilFunc,.nilFunc,.nilFunc,.nilFunc,.nilFunc] 146 (0,0))/\Bw w X,⟨(),⟨.cons (by rw [hL];rfl) .nil,rfl⟩,by rw [hL];exact hnew w _,(zba w _)⟩,?_⟩;rintro _ X ⟨f0,hbX⟩;refine⟨[.func (.func 131) #[] #[]],by kernel_rfl,?_⟩;refine⟨[.func (.func 132) #[] #[]],by kernel_rfl,?_⟩;refine⟨[.func (.func 133) #[] #[]],by kernel_rfl,?_⟩;refine⟨[.func (.func 137) #[] #[]],by kernel_rfl,?_⟩;refine⟨[.func (.func 138) #[] #[]],by kernel_rfl,?_⟩;refine⟨[.func (.func 140) #[] #[]],by kernel_rfl,?_⟩;refine⟨zeI,by kernel_rfl,?_⟩;refine zar (v := .agg zeI.toArray) k146 f0 rfl rfl rfl ?_;exact⟨zeI,rfl,zab (zal f0),rfl,zah hbX (by omega) _⟩
theorem zfi {S Rb Mb Sv g a d:Nat} {m:UInt8} {K:Bool} (hs:ScnV w S x q c f l s) (fSv:w.heap[Sv]?=some (.cells #[At0 S] 140 (0,0))) (fR:w.heap[Rb]?=some (.cells zeI.toArray 146 (0,0))) (fM:w.heap[Mb]?=some (.cells #[u8 m] 5 (0,0)))
  (hm7:m.toNat<7) (hm:zeI[m.toNat]?=some (.func (.func g) #[] #[])) (hok:zbN (sg 0) g=true) (hK:∀ X,Bw w X->Calls Tryz.prog g #[At0 S,i64 (a:Nat),i64 (d:Nat)] X fun e Y=>e = .returned (.bool K)/\Bw X Y) (ha:a<x.ev.length) (hd:d<x.ev.length) :
  CB 106 #[i64 (a:Nat),i64 (d:Nat),At0 Sv,At0 Rb,At0 Mb] w (.bool (hasM x.po a d&&(accA x a&&(accA x d&&K)))):=by
 refine cofE 47 [i64 (a:Nat),i64 (d:Nat),At0 Sv,At0 Rb,At0 Mb] Tryz.func106 ?_;have hn:=hs.v.n;have fx:=hs.cells;obtain⟨bq,oq,hqe,hb,hat⟩:=zdo hs.v.ev ha;obtain⟨bq2,oq2,hqe2,hb2,hat2⟩:=zdo hs.v.ev hd;rw [hqe] at hqe2;simp only [Option.some.injEq,Addr.mk.injEq,and_true] at hqe2;rw [<- hqe2.1,<- hqe2.2] at hat2;have hpo:=hs.v.po;subst hqe;have dw:Bw w w.drew:=(Below.refl _ _).drew;refine DrawE.ord [] [0,1,2,3,4,5,6,7,8,9,10,11,12,13,14,15,16,17,18,19,20,21,22,23,24,25,26,27,28,29,30,31,32,33,34,35,36,37,38,39] (by kernel_rfl) ?_;refine⟨At0 S,zac (zab (hdr fSv)) (i:=0) rfl,?_⟩;refine cmo (zaC (zha (zae dw fx) (zpe x _ c)) hpo (by omega) (by omega)) ?_;rintro e _ ⟨rfl,rfl⟩;refine⟨Below.refl _ _,?_⟩;refine biE (fun h1=>?_) fun h1=>?_
 ·have h1:hasM x.po a d=true:=h1;refine⟨At0 S,zac (zab (hdr fSv)) (i:=0) rfl,?_⟩;refine⟨_,zax (zae dw fx),?_⟩;refine⟨a,rfl,ha,?_⟩;refine⟨evE.enc (evA x a),rfl,zae dw hat,nL hb dw.size,?_⟩;refine cmo zfV ?_;rintro e X ⟨rfl,hbX⟩;refine⟨hbX,?_⟩;have bX:=dw.trans hbX;rw [zkP];refine biE (fun h2=>?_) fun h2=>?_
  ·have h2:accA x a=true:=h2;refine⟨At0 S,zac (zab (zaa bX fSv)) (i:=0) rfl,?_⟩;refine⟨_,zax (zae bX fx),?_⟩;refine⟨d,rfl,hd,?_⟩;refine⟨evE.enc (evA x d),rfl,zae bX hat2,nL hb bX.size,?_⟩;refine cmo zfV ?_;rintro e Y ⟨rfl,hbY⟩;refine⟨hbY,?_⟩;have bY:=zst bX hbY;rw [zkP];refine biE (fun h3=>?_) fun h3=>?_
   ·have h3:accA x d=true:=h3;refine⟨u8 m,zac (zab (zaa bY fM)) (i:=0) rfl,?_⟩;refine⟨m.toNat,rfl,hm7,?_⟩;refine⟨.func (.func g) #[] #[],by have:=zac (zab (zaa bY fR)) (i:=m.toNat) (v := .func (.func g) #[] #[]) hm;rw [Nat.mul_one];exact this,?_⟩;refine⟨At0 S,zac (zab (zaa bY fSv)) (i:=0) rfl,?_⟩;refine zhV hok (hK Y bY) ?_;rintro e Z ⟨rfl,hbZ⟩;refine⟨_,rfl,hbZ,?_⟩;exact⟨rb (by rw [h1,h2,h3];rfl),(zst bY hbZ)⟩
   ·have h3:accA x d=false:=h3;exact⟨rb (by rw [h1,h2,h3];rfl),bY⟩
  ·have h2:accA x a=false:=h2;refine brF ?_;exact⟨rb (by rw [h1,h2];rfl),bX⟩
 ·have h1:hasM x.po a d=false:=h1;refine brF ?_;refine brF ?_;exact⟨rb (by rw [h1];rfl),dw⟩
theorem zjz {m:UInt8} (h:zbh m.toNat=true):m=1\/m=2\/m=3\/m=4\/m=5\/m=6:=by
 unfold zbh at h;rw [bAT,dE,dE] at h;simp only [<- UInt8.toNat_inj];show m.toNat=1\/m.toNat=2\/m.toNat=3\/m.toNat=4\/m.toNat=5\/m.toNat=6;omega
theorem zqd {S Rb Mb Sv a d:Nat} {m:UInt8} (hk:zbh m.toNat=true) (hs:ScnV w S x q c f l s) (fSv:w.heap[Sv]?=some (.cells #[At0 S] 140 (0,0))) (fR:w.heap[Rb]?=some (.cells zeI.toArray 146 (0,0))) (fM:w.heap[Mb]?=some (.cells #[u8 m] 5 (0,0)))
  (ha:a<x.ev.length) (hd:d<x.ev.length) :
  CB 106 #[i64 (a:Nat),i64 (d:Nat),At0 Sv,At0 Rb,At0 Mb] w (.bool (hasM x.po a d&&(accA x a&&(accA x d&&zeU m.toNat x f l s a d)))):=by
 rcases zjz hk with rfl | rfl | rfl | rfl | rfl | rfl
 ·exact zfi (g:=131) hs fSv fR fM (by decide) rfl (by kernel_rfl) (fun X hb=>zpP) ha hd
 ·exact zfi (g:=132) hs fSv fR fM (by decide) rfl (by kernel_rfl) (fun X hb=>zpO) ha hd
 ·exact zfi (g:=133) hs fSv fR fM (by decide) rfl (by kernel_rfl) (fun X hb=>zpN (hs.below hb) ha hd) ha hd
 ·exact zfi (g:=137) hs fSv fR fM (by decide) rfl (by kernel_rfl) (fun X hb=>zpM (hs.below hb) ha hd) ha hd
 ·exact zfi (g:=138) hs fSv fR fM (by decide) rfl (by kernel_rfl) (fun X hb=>zpL (hs.below hb) ha hd) ha hd
 ·exact zfi (g:=140) hs fSv fR fM (by decide) rfl (by kernel_rfl) (fun X hb=>zpK (hs.below hb) ha hd) ha hd
theorem zjh {X:World} {S o:Nat} {T:TypeId} {A Z:List Value} {r0 r:RelD} (h:X.heap[S]?=some (.cells (A++(relC r0++Z)).toArray T (0,0))) (hA:A.length=o) {K:World->Prop}
  (k:∀ Y,Y.heap[S]?=some (.cells (A++(relC r++Z)).toArray T (0,0))->X.grownBy Y (some S)->Y.heap.size=X.heap.size->K Y) :
  SatR ((storeVar 27 ⟨S,0+o,none⟩ (.agg (relC r).toArray)).run Tryz.prog X) fun _ w'=>K w':=by
 rw [Nat.zero_add];refine zbJ k27 h (o:=o) (v := .agg (relC r).toArray) (zad _) (by show o+(relC r).length<=(A++(relC r0++Z)).length;rw [lap,lap,zad,zad];omega) (zau _) fun Y fY gY sY=>k Y (fY.trans ?_) gY sY;show some (Obj.cells ((A++(relC r0++Z)).take o++relC r++(A++(relC r0++Z)).drop (o+(relC r).length)).toArray T (0,0))=_;congr 3;rw [<- hA,List.take_left,zad,List.append_assoc,<- List.drop_drop,List.drop_left,<- zad r0,List.drop_left]
theorem zo8 {m:UInt8} (hk:zbh m.toNat=true) (fx:ExH w b x q c) (hv:ExV w x q) (hT:Tz64M w):CB 69 #[u8 m,At0 b] w (.agg (relC (zcX m.toNat x)).toArray):=by
 refine cofM 35 [u8 m,At0 b] (.c .p (.c .p (.c .p (.c .p (.c .p .p))))) Tryz.func69 ?_;obtain⟨L,hL⟩:=nm (w.heap.size);have hn:=hv.n;refine⟨Unit,fun _=>⟨[(1,At0 b),(2,At0 L),(4,At0 (L+1))],[]⟩,fun _ X=>X.heap[L]?=some (.cells #[u8 m] 5 (0,0))/\RelH X (L+1) zai/\X.heap.size=L+2/\Bw w X,?_,?_⟩
 ·have s1:=wz w (.cells #[u8 m] 5);have h2:=hnew (w.alloc (.cells #[u8 m] 5)) (.cells (relC zai).toArray 27);have s2:=wz (w.alloc (.cells #[u8 m] 5)) (.cells (relC zai).toArray 27);rw [s1] at h2 s2;have b1:Bw w (w.alloc (.cells #[u8 m] 5)):=zba w _;exact⟨(),⟨.cons rfl (.cons (by rw [hL];rfl) (.cons (by rw [hL,<- s1];rfl) .nil)),rfl⟩,by rw [hL];exact hold _ (hnew w _),by rw [hL];exact h2,by rw [hL];exact s2,b1.alloc b1.size _⟩
 rintro _ X ⟨fM,f0,sX,hbX⟩;have fX:=zaa hbX fx;refine⟨Unit,fun _=>⟨[(1,At0 b),(2,At0 L),(4,At0 (L+1)),(5,At0 (L+3))],[]⟩,fun _ Y=>Y.heap[L+2]?=some (.cells (exC x q c++(relC zai++(relC zai++relC zai))).toArray 142 (0,0))/\Y.heap[L+3]?=some (.cells #[At0 (L+2)] 140 (0,0))/\Y.heap.size=L+4/\Bw X Y,?_,?_⟩
 ·refine⟨exC x q c,zao _ _ _,zab fX,hlt fX,?_⟩;refine⟨exC x q c++(relC zai++(relC zai++relC zai)),by kernel_rfl,?_⟩;have s3:=wz X (.cells (exC x q c++(relC zai++(relC zai++relC zai))).toArray 142);refine zan (X:=X.alloc (.cells (exC x q c++(relC zai++(relC zai++relC zai))).toArray 142)) (v := .pointer (some ⟨X.heap.size,0,none⟩)) k140 rfl rfl rfl fun Z hbZ fZ sZ=>?_;rw [s3] at fZ sZ;rw [sX] at fZ sZ s3;have b1:Bw X (X.alloc (.cells (exC x q c++(relC zai++(relC zai++relC zai))).toArray 142)):=zba X _;refine⟨(),⟨.cons rfl (.cons rfl (.cons rfl (.cons (by rw [<- s3];rfl) .nil))),rfl⟩,?_,fZ,sZ,(zst b1 hbZ)⟩;refine zaa hbZ ?_;rw [<- sX];exact hnew X _
 rintro _ Y ⟨fS,fP,sY,hbY⟩;have hbwY:=zst hbX hbY;have fY:=zaa hbwY fx;replace fM:=zaa hbY fM;replace f0:=zaa hbY f0;have hwX:=hbX.size;have hbL:b<L:=by rw [hL];exact hlt fx
 refine⟨Unit,fun _=>⟨[(1,At0 b),(2,At0 L),(4,At0 (L+1)),(5,At0 (L+3))],[]⟩,fun _ Z=>ScnV Z (L+2) x q c (zaz x 3) (zaz x 4) (zaz x 5)/\Z.heap[L+3]?=some (.cells #[At0 (L+2)] 140 (0,0))/\Z.heap[L]?=some (.cells #[u8 m] 5 (0,0))/\RelH Z (L+1) zai/\ExH Z b x q c/\L+4<=Z.heap.size/\Bw w Z,?_,?_⟩
 ·have dY:Bw Y Y.drew:=(Below.refl _ _).drew;obtain⟨Y1,hY1⟩:=nm (Y.drew);have bY1:Bw Y Y1:=by rw [hY1];exact dY
  have ld0:∀ {W},Bw Y W->W.cell? ⟨L+3,0,none⟩=some (At0 (L+2)):=fun hW=>by
   have h2:=zac (zab (zaa hW fP)) (i:=0) (v:=At0 (L+2)) rfl;exact h2
  have fen:∀ (md:UInt8) {W},Bw Y W->CB 68 #[At0 b,u8 md] W (.agg (relC (zaz x md)).toArray):=fun md {W} hW =>
   have h2:=zst hbwY hW
   zkw (zaa h2 fx) (hv.below h2) (hT.below h2)
  have ld1:∀ W,(∃ C,Bw Y C/\C.grownBy W (some (L+2)))->W.cell? ⟨L+3,0,none⟩=some (At0 (L+2)):=fun W ⟨C,bC,hW⟩=>by
   have fPC:=zaa bC fP;have:=(hW.block (L+3) (hlt fPC) (by simp)).trans fPC;have h2:=zac (zab this) (i:=0) (v:=At0 (L+2)) rfl;exact h2
  have s1:∀ {C},Bw Y C->∀ {K:World->Prop},(∀ D,(D.heap[L+2]?=some (.cells ((exC x q c++relC (zaz x 3))++(relC zai++relC zai)).toArray 142 (0,0))/\∃ C,Bw Y C/\C.grownBy D (some (L+2)))->K D)->SatR ((storeVar 27 ⟨L+2,0+333,none⟩ (.agg (relC (zaz x 3)).toArray)).run Tryz.prog C) fun _ w'=>K w':=fun {C} bC {K} k =>
   zjh (o:=333) (A:=exC x q c) (Z:=relC zai++relC zai) (r:=zaz x 3) (zaa bC fS) (zao _ _ _) fun D fD gD sD=>k D ⟨by rw [fD];simp only [List.append_assoc],C,bC,gD⟩
  have s2:∀ D,(D.heap[L+2]?=some (.cells ((exC x q c++relC (zaz x 3))++(relC zai++relC zai)).toArray 142 (0,0))/\∃ C,Bw Y C/\C.grownBy D (some (L+2)))->∀ {K:World->Prop},(∀ F,(F.heap[L+2]?=some (.cells ((exC x q c++(relC (zaz x 3)++relC (zaz x 4)))++(relC zai++[])).toArray 142 (0,0))/\∃ C,Bw Y C/\C.grownBy F (some (L+2)))->K F)->SatR ((storeVar 27 ⟨L+2,0+382,none⟩ (.agg (relC (zaz x 4)).toArray)).run Tryz.prog D) fun _ w'=>K w':=fun D ⟨fD,C,bC,gD⟩ {K} k =>
   zjh (o:=382) (A:=exC x q c++relC (zaz x 3)) (Z:=relC zai) (r:=zaz x 4) fD (by rw [lap,zao,zad]) fun F fF gF sF=>k F ⟨by rw [fF];simp only [List.append_assoc,List.append_nil],C,bC,zaf gD gF⟩
  have pw:∀ md,WrdR (zaz x md).to:=fun md=>zeF (zeF hv.po fun i hi=>by
   unfold idR;refine ze2 (fun i _ h48=>?_) i hi;exact Nat.lt_of_le_of_lt Nat.and_le_right (zaK (by omega))) hv.po
  have s3:∀ F,(F.heap[L+2]?=some (.cells ((exC x q c++(relC (zaz x 3)++relC (zaz x 4)))++(relC zai++[])).toArray 142 (0,0))/\∃ C,Bw Y C/\C.grownBy F (some (L+2)))->∀ {K:World->Prop},(∀ G,(ScnV G (L+2) x q c (zaz x 3) (zaz x 4) (zaz x 5)/\G.heap[L+3]?=some (.cells #[At0 (L+2)] 140 (0,0))/\G.heap[L]?=some (.cells #[u8 m] 5 (0,0))/\RelH G (L+1) zai/\ExH G b x q c/\L+4<=G.heap.size/\Bw w G)->K G)->SatR ((storeVar 27 ⟨L+2,0+431,none⟩ (.agg (relC (zaz x 5)).toArray)).run Tryz.prog F) fun _ w'=>K w':=fun F ⟨fF,C,bC,gF⟩ {K} k =>
   zjh (o:=431) (A:=exC x q c++(relC (zaz x 3)++relC (zaz x 4))) (Z:=[]) (r:=zaz x 5) fF (by rw [lap,lap,zao,zad,zad]) fun G fG gG sG=>k G (by
    have gCG:C.grownBy G (some (L+2)):=zaf gF gG;have bwC:=zst hbwY bC;have bCG:Below w.heap.size C G:=zap gCG bwC.size (by omega);have bwG:Bw w G:=bwC.trans bCG;have keep:∀ {j:Nat} {o:Obj},j≠L+2->Y.heap[j]?=some o->G.heap[j]?=some o:=fun {j o} hj h=>by
     have h2:=zaa bC h;exact (gCG.block j (hlt h2) (by simpa using hj)).trans h2
    refine⟨⟨?_,hv.below bwG,pw 3,pw 4,pw 5⟩,keep (by omega) fP,keep (by omega) fM,keep (by omega) f0,keep (by omega) fY,by have:=bC.size;have:=gCG.size;omega,bwG⟩;rw [fG];simp only [List.append_assoc,List.append_nil])
  refine DrawE.treeR [11,14,17] (.op 0 (.op 3 (.op 5 (.op 7 (.alt (.op 4 (.alt (.op 6 (.alt (.op 8 (.op 9 (.op 10 (.alt (.op 11 (.alt (.op 1 (.op 12 (.op 13 (.alt (.op 14 (.op 2 (.op 15 (.op 16 (.op 17 (.nil)))))) (.op 2 (.op 14 (.op 15 (.op 16 (.op 17 (.nil)))))))))) (.op 2 (.op 1 (.op 12 (.op 13 (.op 14 (.op 15 (.op 16 (.op 17 (.nil))))))))))) (.alt (.op 1 (.alt (.op 11 (.op 12 (.op 13 (.alt (.op 14 (.op 2 (.op 15 (.op 16 (.op 17 (.nil)))))) (.op 2 (.op 14 (.op 15 (.op 16 (.op 17 (.nil)))))))))) (.op 2 (.op 11 (.op 12 (.op 13 (.op 14 (.op 15 (.op 16 (.op 17 (.nil))))))))))) (.op 2 (.alt (.op 11 (.op 1 (.op 12 (.op 13 (.op 14 (.op 15 (.op 16 (.op 17 (.nil))))))))) (.op 1 (.op 11 (.op 12 (.op 13 (.op 14 (.op 15 (.op 16 (.op 17 (.nil)))))))))))))))) (.alt (.op 1 (.alt (.op 8 (.op 9 (.op 10 (.alt (.op 11 (.op 12 (.op 13 (.alt (.op 14 (.op 2 (.op 15 (.op 16 (.op 17 (.nil)))))) (.op 2 (.op 14 (.op 15 (.op 16 (.op 17 (.nil)))))))))) (.op 2 (.op 11 (.op 12 (.op 13 (.op 14 (.op 15 (.op 16 (.op 17 (.nil))))))))))))) (.op 2 (.op 8 (.op 9 (.op 10 (.op 11 (.op 12 (.op 13 (.op 14 (.op 15 (.op 16 (.op 17 (.nil)))))))))))))) (.op 2 (.alt (.op 8 (.op 9 (.op 10 (.alt (.op 11 (.op 1 (.op 12 (.op 13 (.op 14 (.op 15 (.op 16 (.op 17 (.nil))))))))) (.op 1 (.op 11 (.op 12 (.op 13 (.op 14 (.op 15 (.op 16 (.op 17 (.nil))))))))))))) (.op 1 (.op 8 (.op 9 (.op 10 (.op 11 (.op 12 (.op 13 (.op 14 (.op 15 (.op 16 (.op 17 (.nil))))))))))))))))) (.alt (.op 1 (.alt (.op 6 (.alt (.op 8 (.op 9 (.op 10 (.alt (.op 11 (.op 12 (.op 13 (.alt (.op 14 (.op 2 (.op 15 (.op 16 (.op 17 (.nil)))))) (.op 2 (.op 14 (.op 15 (.op 16 (.op 17 (.nil)))))))))) (.op 2 (.op 11 (.op 12 (.op 13 (.op 14 (.op 15 (.op 16 (.op 17 (.nil))))))))))))) (.op 2 (.op 8 (.op 9 (.op 10 (.op 11 (.op 12 (.op 13 (.op 14 (.op 15 (.op 16 (.op 17 (.nil)))))))))))))) (.op 2 (.op 6 (.op 8 (.op 9 (.op 10 (.op 11 (.op 12 (.op 13 (.op 14 (.op 15 (.op 16 (.op 17 (.nil))))))))))))))) (.op 2 (.alt (.op 6 (.alt (.op 8 (.op 9 (.op 10 (.alt (.op 11 (.op 1 (.op 12 (.op 13 (.op 14 (.op 15 (.op 16 (.op 17 (.nil))))))))) (.op 1 (.op 11 (.op 12 (.op 13 (.op 14 (.op 15 (.op 16 (.op 17 (.nil))))))))))))) (.op 1 (.op 8 (.op 9 (.op 10 (.op 11 (.op 12 (.op 13 (.op 14 (.op 15 (.op 16 (.op 17 (.nil)))))))))))))) (.op 1 (.op 6 (.op 8 (.op 9 (.op 10 (.op 11 (.op 12 (.op 13 (.op 14 (.op 15 (.op 16 (.op 17 (.nil)))))))))))))))))) (.alt (.op 1 (.alt (.op 4 (.alt (.op 6 (.alt (.op 8 (.op 9 (.op 10 (.alt (.op 11 (.op 12 (.op 13 (.alt (.op 14 (.op 2 (.op 15 (.op 16 (.op 17 (.nil)))))) (.op 2 (.op 14 (.op 15 (.op 16 (.op 17 (.nil)))))))))) (.op 2 (.op 11 (.op 12 (.op 13 (.op 14 (.op 15 (.op 16 (.op 17 (.nil))))))))))))) (.op 2 (.op 8 (.op 9 (.op 10 (.op 11 (.op 12 (.op 13 (.op 14 (.op 15 (.op 16 (.op 17 (.nil)))))))))))))) (.op 2 (.op 6 (.op 8 (.op 9 (.op 10 (.op 11 (.op 12 (.op 13 (.op 14 (.op 15 (.op 16 (.op 17 (.nil))))))))))))))) (.op 2 (.op 4 (.op 6 (.op 8 (.op 9 (.op 10 (.op 11 (.op 12 (.op 13 (.op 14 (.op 15 (.op 16 (.op 17 (.nil)))))))))))))))) (.op 2 (.alt (.op 4 (.alt (.op 6 (.alt (.op 8 (.op 9 (.op 10 (.alt (.op 11 (.op 1 (.op 12 (.op 13 (.op 14 (.op 15 (.op 16 (.op 17 (.nil))))))))) (.op 1 (.op 11 (.op 12 (.op 13 (.op 14 (.op 15 (.op 16 (.op 17 (.nil))))))))))))) (.op 1 (.op 8 (.op 9 (.op 10 (.op 11 (.op 12 (.op 13 (.op 14 (.op 15 (.op 16 (.op 17 (.nil)))))))))))))) (.op 1 (.op 6 (.op 8 (.op 9 (.op 10 (.op 11 (.op 12 (.op 13 (.op 14 (.op 15 (.op 16 (.op 17 (.nil))))))))))))))) (.op 1 (.op 4 (.op 6 (.op 8 (.op 9 (.op 10 (.op 11 (.op 12 (.op 13 (.op 14 (.op 15 (.op 16 (.op 17 (.nil)))))))))))))))))))))) (by kernel_rfl) ?_;rw [<- hY1];refine⟨At0 (L+2),ld0 bY1,?_⟩;refine And.intro ?_ (And.intro ?_ ?_)
  ·refine cmo (fen 3 bY1) ?_;rintro e A ⟨rfl,hbA⟩;refine⟨hbA,?_⟩;have bA:=zst bY1 hbA;refine And.intro ?_ (And.intro ?_ ?_)
   ·refine cmo (fen 4 bA) ?_;rintro e B ⟨rfl,hbB⟩;refine⟨hbB,?_⟩;have bB:=zst bA hbB;refine And.intro ?_ (And.intro ?_ ?_)
    ·refine cmo (fen 5 bB) ?_;rintro e C ⟨rfl,hbC⟩;refine⟨hbC,?_⟩;have bC:=zst bB hbC;refine And.intro ?_ (And.intro ?_ ?_)
     ·refine s1 bC fun D hD=>?_;refine And.intro ?_ ?_
      ·refine⟨At0 (L+2),ld1 D hD.2,?_⟩;refine And.intro ?_ ?_
       ·refine s2 D hD fun F hF=>?_;refine⟨At0 (L+2),ld1 F hF.2,?_⟩;refine s3 F hF fun G hG=>?_;exact⟨(),(cvE rfl rfl),hG⟩
       ·refine⟨At0 (L+2),ld1 D hD.2,?_⟩;refine s2 D hD fun F hF=>?_;refine s3 F hF fun G hG=>?_;exact⟨(),(cvE rfl rfl),hG⟩
      ·refine⟨At0 (L+2),ld1 D hD.2,?_⟩;refine⟨At0 (L+2),ld1 D hD.2,?_⟩;refine s2 D hD fun F hF=>?_;refine s3 F hF fun G hG=>?_;exact⟨(),(cvE rfl rfl),hG⟩
     ·refine⟨At0 (L+2),ld0 bC,?_⟩;refine And.intro ?_ ?_
      ·refine s1 bC fun D hD=>?_;refine And.intro ?_ ?_
       ·refine s2 D hD fun F hF=>?_;refine⟨At0 (L+2),ld1 F hF.2,?_⟩;refine s3 F hF fun G hG=>?_;exact⟨(),(cvE rfl rfl),hG⟩
       ·refine⟨At0 (L+2),ld1 D hD.2,?_⟩;refine s2 D hD fun F hF=>?_;refine s3 F hF fun G hG=>?_;exact⟨(),(cvE rfl rfl),hG⟩
      ·refine⟨At0 (L+2),ld0 bC,?_⟩;refine s1 bC fun D hD=>?_;refine s2 D hD fun F hF=>?_;refine s3 F hF fun G hG=>?_;exact⟨(),(cvE rfl rfl),hG⟩
     ·refine⟨At0 (L+2),ld0 bC,?_⟩;refine And.intro ?_ ?_
      ·refine s1 bC fun D hD=>?_;refine⟨At0 (L+2),ld1 D hD.2,?_⟩;refine s2 D hD fun F hF=>?_;refine s3 F hF fun G hG=>?_;exact⟨(),(cvE rfl rfl),hG⟩
      ·refine⟨At0 (L+2),ld0 bC,?_⟩;refine s1 bC fun D hD=>?_;refine s2 D hD fun F hF=>?_;refine s3 F hF fun G hG=>?_;exact⟨(),(cvE rfl rfl),hG⟩
    ·refine⟨At0 (L+2),ld0 bB,?_⟩;refine And.intro ?_ ?_
     ·refine cmo (fen 5 bB) ?_;rintro e C ⟨rfl,hbC⟩;refine⟨hbC,?_⟩;have bC:=zst bB hbC;refine And.intro ?_ ?_
      ·refine s1 bC fun D hD=>?_;refine And.intro ?_ ?_
       ·refine s2 D hD fun F hF=>?_;refine⟨At0 (L+2),ld1 F hF.2,?_⟩;refine s3 F hF fun G hG=>?_;exact⟨(),(cvE rfl rfl),hG⟩
       ·refine⟨At0 (L+2),ld1 D hD.2,?_⟩;refine s2 D hD fun F hF=>?_;refine s3 F hF fun G hG=>?_;exact⟨(),(cvE rfl rfl),hG⟩
      ·refine⟨At0 (L+2),ld0 bC,?_⟩;refine s1 bC fun D hD=>?_;refine s2 D hD fun F hF=>?_;refine s3 F hF fun G hG=>?_;exact⟨(),(cvE rfl rfl),hG⟩
     ·refine⟨At0 (L+2),ld0 bB,?_⟩;refine cmo (fen 5 bB) ?_;rintro e C ⟨rfl,hbC⟩;refine⟨hbC,?_⟩;have bC:=zst bB hbC;refine s1 bC fun D hD=>?_;refine s2 D hD fun F hF=>?_;refine s3 F hF fun G hG=>?_;exact⟨(),(cvE rfl rfl),hG⟩
    ·refine⟨At0 (L+2),ld0 bB,?_⟩;refine And.intro ?_ ?_
     ·refine cmo (fen 5 bB) ?_;rintro e C ⟨rfl,hbC⟩;refine⟨hbC,?_⟩;have bC:=zst bB hbC;refine And.intro ?_ ?_
      ·refine s1 bC fun D hD=>?_;refine⟨At0 (L+2),ld1 D hD.2,?_⟩;refine s2 D hD fun F hF=>?_;refine s3 F hF fun G hG=>?_;exact⟨(),(cvE rfl rfl),hG⟩
      ·refine⟨At0 (L+2),ld0 bC,?_⟩;refine s1 bC fun D hD=>?_;refine s2 D hD fun F hF=>?_;refine s3 F hF fun G hG=>?_;exact⟨(),(cvE rfl rfl),hG⟩
     ·refine⟨At0 (L+2),ld0 bB,?_⟩;refine cmo (fen 5 bB) ?_;rintro e C ⟨rfl,hbC⟩;refine⟨hbC,?_⟩;have bC:=zst bB hbC;refine s1 bC fun D hD=>?_;refine s2 D hD fun F hF=>?_;refine s3 F hF fun G hG=>?_;exact⟨(),(cvE rfl rfl),hG⟩
   ·refine⟨At0 (L+2),ld0 bA,?_⟩;refine And.intro ?_ ?_
    ·refine cmo (fen 4 bA) ?_;rintro e B ⟨rfl,hbB⟩;refine⟨hbB,?_⟩;have bB:=zst bA hbB;refine And.intro ?_ ?_
     ·refine cmo (fen 5 bB) ?_;rintro e C ⟨rfl,hbC⟩;refine⟨hbC,?_⟩;have bC:=zst bB hbC;refine And.intro ?_ ?_
      ·refine s1 bC fun D hD=>?_;refine And.intro ?_ ?_
       ·refine s2 D hD fun F hF=>?_;refine⟨At0 (L+2),ld1 F hF.2,?_⟩;refine s3 F hF fun G hG=>?_;exact⟨(),(cvE rfl rfl),hG⟩
       ·refine⟨At0 (L+2),ld1 D hD.2,?_⟩;refine s2 D hD fun F hF=>?_;refine s3 F hF fun G hG=>?_;exact⟨(),(cvE rfl rfl),hG⟩
      ·refine⟨At0 (L+2),ld0 bC,?_⟩;refine s1 bC fun D hD=>?_;refine s2 D hD fun F hF=>?_;refine s3 F hF fun G hG=>?_;exact⟨(),(cvE rfl rfl),hG⟩
     ·refine⟨At0 (L+2),ld0 bB,?_⟩;refine cmo (fen 5 bB) ?_;rintro e C ⟨rfl,hbC⟩;refine⟨hbC,?_⟩;have bC:=zst bB hbC;refine s1 bC fun D hD=>?_;refine s2 D hD fun F hF=>?_;refine s3 F hF fun G hG=>?_;exact⟨(),(cvE rfl rfl),hG⟩
    ·refine⟨At0 (L+2),ld0 bA,?_⟩;refine cmo (fen 4 bA) ?_;rintro e B ⟨rfl,hbB⟩;refine⟨hbB,?_⟩;have bB:=zst bA hbB;refine cmo (fen 5 bB) ?_;rintro e C ⟨rfl,hbC⟩;refine⟨hbC,?_⟩;have bC:=zst bB hbC;refine s1 bC fun D hD=>?_;refine s2 D hD fun F hF=>?_;refine s3 F hF fun G hG=>?_;exact⟨(),(cvE rfl rfl),hG⟩
   ·refine⟨At0 (L+2),ld0 bA,?_⟩;refine And.intro ?_ ?_
    ·refine cmo (fen 4 bA) ?_;rintro e B ⟨rfl,hbB⟩;refine⟨hbB,?_⟩;have bB:=zst bA hbB;refine And.intro ?_ ?_
     ·refine cmo (fen 5 bB) ?_;rintro e C ⟨rfl,hbC⟩;refine⟨hbC,?_⟩;have bC:=zst bB hbC;refine And.intro ?_ ?_
      ·refine s1 bC fun D hD=>?_;refine⟨At0 (L+2),ld1 D hD.2,?_⟩;refine s2 D hD fun F hF=>?_;refine s3 F hF fun G hG=>?_;exact⟨(),(cvE rfl rfl),hG⟩
      ·refine⟨At0 (L+2),ld0 bC,?_⟩;refine s1 bC fun D hD=>?_;refine s2 D hD fun F hF=>?_;refine s3 F hF fun G hG=>?_;exact⟨(),(cvE rfl rfl),hG⟩
     ·refine⟨At0 (L+2),ld0 bB,?_⟩;refine cmo (fen 5 bB) ?_;rintro e C ⟨rfl,hbC⟩;refine⟨hbC,?_⟩;have bC:=zst bB hbC;refine s1 bC fun D hD=>?_;refine s2 D hD fun F hF=>?_;refine s3 F hF fun G hG=>?_;exact⟨(),(cvE rfl rfl),hG⟩
    ·refine⟨At0 (L+2),ld0 bA,?_⟩;refine cmo (fen 4 bA) ?_;rintro e B ⟨rfl,hbB⟩;refine⟨hbB,?_⟩;have bB:=zst bA hbB;refine cmo (fen 5 bB) ?_;rintro e C ⟨rfl,hbC⟩;refine⟨hbC,?_⟩;have bC:=zst bB hbC;refine s1 bC fun D hD=>?_;refine s2 D hD fun F hF=>?_;refine s3 F hF fun G hG=>?_;exact⟨(),(cvE rfl rfl),hG⟩
  ·refine⟨At0 (L+2),ld0 bY1,?_⟩;refine And.intro ?_ ?_
   ·refine cmo (fen 3 bY1) ?_;rintro e A ⟨rfl,hbA⟩;refine⟨hbA,?_⟩;have bA:=zst bY1 hbA;refine And.intro ?_ ?_
    ·refine cmo (fen 4 bA) ?_;rintro e B ⟨rfl,hbB⟩;refine⟨hbB,?_⟩;have bB:=zst bA hbB;refine And.intro ?_ ?_
     ·refine cmo (fen 5 bB) ?_;rintro e C ⟨rfl,hbC⟩;refine⟨hbC,?_⟩;have bC:=zst bB hbC;refine And.intro ?_ ?_
      ·refine s1 bC fun D hD=>?_;refine And.intro ?_ ?_
       ·refine s2 D hD fun F hF=>?_;refine⟨At0 (L+2),ld1 F hF.2,?_⟩;refine s3 F hF fun G hG=>?_;exact⟨(),(cvE rfl rfl),hG⟩
       ·refine⟨At0 (L+2),ld1 D hD.2,?_⟩;refine s2 D hD fun F hF=>?_;refine s3 F hF fun G hG=>?_;exact⟨(),(cvE rfl rfl),hG⟩
      ·refine⟨At0 (L+2),ld0 bC,?_⟩;refine s1 bC fun D hD=>?_;refine s2 D hD fun F hF=>?_;refine s3 F hF fun G hG=>?_;exact⟨(),(cvE rfl rfl),hG⟩
     ·refine⟨At0 (L+2),ld0 bB,?_⟩;refine cmo (fen 5 bB) ?_;rintro e C ⟨rfl,hbC⟩;refine⟨hbC,?_⟩;have bC:=zst bB hbC;refine s1 bC fun D hD=>?_;refine s2 D hD fun F hF=>?_;refine s3 F hF fun G hG=>?_;exact⟨(),(cvE rfl rfl),hG⟩
    ·refine⟨At0 (L+2),ld0 bA,?_⟩;refine cmo (fen 4 bA) ?_;rintro e B ⟨rfl,hbB⟩;refine⟨hbB,?_⟩;have bB:=zst bA hbB;refine cmo (fen 5 bB) ?_;rintro e C ⟨rfl,hbC⟩;refine⟨hbC,?_⟩;have bC:=zst bB hbC;refine s1 bC fun D hD=>?_;refine s2 D hD fun F hF=>?_;refine s3 F hF fun G hG=>?_;exact⟨(),(cvE rfl rfl),hG⟩
   ·refine⟨At0 (L+2),ld0 bY1,?_⟩;refine cmo (fen 3 bY1) ?_;rintro e A ⟨rfl,hbA⟩;refine⟨hbA,?_⟩;have bA:=zst bY1 hbA;refine cmo (fen 4 bA) ?_;rintro e B ⟨rfl,hbB⟩;refine⟨hbB,?_⟩;have bB:=zst bA hbB;refine cmo (fen 5 bB) ?_;rintro e C ⟨rfl,hbC⟩;refine⟨hbC,?_⟩;have bC:=zst bB hbC;refine s1 bC fun D hD=>?_;refine s2 D hD fun F hF=>?_;refine s3 F hF fun G hG=>?_;exact⟨(),(cvE rfl rfl),hG⟩
  ·refine⟨At0 (L+2),ld0 bY1,?_⟩;refine And.intro ?_ ?_
   ·refine cmo (fen 3 bY1) ?_;rintro e A ⟨rfl,hbA⟩;refine⟨hbA,?_⟩;have bA:=zst bY1 hbA;refine And.intro ?_ ?_
    ·refine cmo (fen 4 bA) ?_;rintro e B ⟨rfl,hbB⟩;refine⟨hbB,?_⟩;have bB:=zst bA hbB;refine And.intro ?_ ?_
     ·refine cmo (fen 5 bB) ?_;rintro e C ⟨rfl,hbC⟩;refine⟨hbC,?_⟩;have bC:=zst bB hbC;refine And.intro ?_ ?_
      ·refine s1 bC fun D hD=>?_;refine⟨At0 (L+2),ld1 D hD.2,?_⟩;refine s2 D hD fun F hF=>?_;refine s3 F hF fun G hG=>?_;exact⟨(),(cvE rfl rfl),hG⟩
      ·refine⟨At0 (L+2),ld0 bC,?_⟩;refine s1 bC fun D hD=>?_;refine s2 D hD fun F hF=>?_;refine s3 F hF fun G hG=>?_;exact⟨(),(cvE rfl rfl),hG⟩
     ·refine⟨At0 (L+2),ld0 bB,?_⟩;refine cmo (fen 5 bB) ?_;rintro e C ⟨rfl,hbC⟩;refine⟨hbC,?_⟩;have bC:=zst bB hbC;refine s1 bC fun D hD=>?_;refine s2 D hD fun F hF=>?_;refine s3 F hF fun G hG=>?_;exact⟨(),(cvE rfl rfl),hG⟩
    ·refine⟨At0 (L+2),ld0 bA,?_⟩;refine cmo (fen 4 bA) ?_;rintro e B ⟨rfl,hbB⟩;refine⟨hbB,?_⟩;have bB:=zst bA hbB;refine cmo (fen 5 bB) ?_;rintro e C ⟨rfl,hbC⟩;refine⟨hbC,?_⟩;have bC:=zst bB hbC;refine s1 bC fun D hD=>?_;refine s2 D hD fun F hF=>?_;refine s3 F hF fun G hG=>?_;exact⟨(),(cvE rfl rfl),hG⟩
   ·refine⟨At0 (L+2),ld0 bY1,?_⟩;refine cmo (fen 3 bY1) ?_;rintro e A ⟨rfl,hbA⟩;refine⟨hbA,?_⟩;have bA:=zst bY1 hbA;refine cmo (fen 4 bA) ?_;rintro e B ⟨rfl,hbB⟩;refine⟨hbB,?_⟩;have bB:=zst bA hbB;refine cmo (fen 5 bB) ?_;rintro e C ⟨rfl,hbC⟩;refine⟨hbC,?_⟩;have bC:=zst bB hbC;refine s1 bC fun D hD=>?_;refine s2 D hD fun F hF=>?_;refine s3 F hF fun G hG=>?_;exact⟨(),(cvE rfl rfl),hG⟩
 clear fS fP sY hbwY fY fM f0 hwX fX sX hbX hbY;clear X Y;rintro _ Z ⟨hS,fP,fM,f0,fZ,sZ,hbZ⟩;refine⟨Nat,fun R=>⟨[(1,At0 b),(2,At0 L),(4,At0 (L+1)),(5,At0 (L+3)),(6,At0 R)],[]⟩,fun R Y=>Y.heap[R]?=some (.cells zeI.toArray 146 (0,0))/\Bw Z Y,?_,?_⟩
 ·refine cmo zpJ ?_;rintro e Y ⟨rfl,hbY⟩;refine zan (X:=Y) (v := .agg zeI.toArray) k146 rfl rfl rfl fun V hbV fV sV=>?_;exact⟨Y.heap.size,(cvE rfl rfl),fV,(zst hbY hbV)⟩
 rintro R Y ⟨fR,hbY⟩;have hbwY:=zst hbZ hbY;replace hS:=hS.below hbY;replace fP:=zaa hbY fP;replace fM:=zaa hbY fM;replace f0:=zaa hbY f0;replace fZ:=zaa hbY fZ;refine⟨Unit,fun _=>⟨[(4,At0 (L+1))],[]⟩,fun _ V=>RelH V (L+1) (zcX m.toNat x)/\Bw w V,?_,?_⟩
 ·refine⟨_,zac (zab fZ) (i:=0) rfl,?_⟩;refine cmo (zir (n:=x.ev.length) (caps := #[At0 (L+3),At0 R,At0 L]) (g:=106) (p:=fun a d=>hasM x.po a d&&(accA x a&&(accA x d&&zeU m.toNat x (zaz x 3) (zaz x 4) (zaz x 5) a d))) (by omega) (by kernel_rfl) fun a d U ha hd hb=>zqd hk (hS.below hb) (zaa hb fP) (zaa hb fR) (zaa hb fM) ha hd) ?_;rintro e V ⟨rfl,hbV⟩;replace f0:=zaa hbV f0;refine zar (v := .agg (relC (zcX m.toNat x)).toArray) k27 f0 (zad _) (zad _) (zau _) ?_;exact⟨(),(cvE rfl rfl),zal f0,zah ((zst hbwY hbV)) (by omega) _⟩
 rintro _ V ⟨f0,hbV⟩;exact⟨relC (zcX m.toNat x),zad _,zab f0,rfl,hbV⟩
end
section
variable {b c:Nat} {x:ExD} {q:Option Addr} {w:World}
theorem zjA {m:UInt8}:Calls Tryz.prog 55 #[u8 m] w fun e w'=>e = .returned (.bool (zbh m.toNat))/\w=w':=by
 refine cofE 9 [u8 m] Tryz.func55 ?_;refine biE (fun h=>?_) fun h=>?_
 ·have h:(1:Int)<=(m.toNat:Int):=dT h;refine⟨rb ?_,rfl⟩;unfold zbh;rw [decide_eq_true (by omega:1<=m.toNat),Bool.true_and];exact decide_eq_decide.2 (by show (m.toNat:Int)<=6↔_;omega)
 ·have h:¬ (1:Int)<=(m.toNat:Int):=dF h;refine⟨rb ?_,rfl⟩;unfold zbh;rw [decide_eq_false (by omega:¬ 1<=m.toNat)];rfl
theorem zqp {r:RelD} (hn:r.n=x.ev.length) (h48:x.ev.length<=48):WrdR (extM x r).to:=by
 unfold extM;exact zdB (by omega)
theorem zjc {X:World} {g:Nat} {a b c:RelD} (h:X.heap[g]?=some (.cells (relC a++(relC b++relC c)).toArray 27 (0,0))):SlR relE X (some ⟨g,0,none⟩) [a,b,c] :=
 SlR.of_cells (hlt h) (by
  have:[a,b,c].flatMap relE.enc=relC a++(relC b++relC c):=by
   rw [List.flatMap_cons,List.flatMap_cons,List.flatMap_cons,List.flatMap_nil,List.append_nil];rfl
  rw [this];exact zab h)
theorem zkG {m:UInt8} (hk:zbh m.toNat=true) (fx:ExH w b x q c) (hv:ExV w x q) (hrf:x.rf.n=x.ev.length) (hT:Tz64M w):CB 56 #[u8 m,At0 b] w (u8 (UInt8.ofNat (zdH m.toNat x))):=by
 refine cofM 80 [u8 m,At0 b] (.c .p (.c .p (.c .p (.c .p (.c .p (.c .p (.c .p (.c .p (.c .p (.c .p .p)))))))))) Tryz.func56 ?_;obtain⟨L,hL⟩:=nm (w.heap.size);have hn:=hv.n;obtain⟨fw,frw⟩:=zpa hv hT;have hba:∀ (A:World) (o:Obj),Bw A (A.alloc o):=fun A o=>(zba _ _);refine⟨Unit,fun _=>⟨[(0,u8 m),(3,At0 L)],[]⟩,fun _ X=>X.heap[L]?=some (.cells #[At0 b] 79 (0,0))/\Bw w X,⟨(),⟨.cons rfl (.cons (by rw [hL];rfl) .nil),rfl⟩,by rw [hL];exact hnew w _,hba w _⟩,?_⟩;rintro _ X ⟨fB,hbX⟩;refine⟨Nat,fun F=>⟨[(0,u8 m),(3,At0 L),(5,At0 F)],[]⟩,fun F Y=>RelH Y F (frM x)/\Y.heap[L]?=some (.cells #[At0 b] 79 (0,0))/\Bw w Y,?_,?_⟩
 ·refine⟨_,zac (zab fB) (i:=0) rfl,?_⟩;refine cmo (fr_c (zaa hbX fx) (hv.below hbX) (hT.below hbX)) ?_;rintro e Y ⟨rfl,hbY⟩;refine zan (X:=Y) (v := .agg (relC (frM x)).toArray) k27 (zad _) (by kernel_rfl) (zau _) fun V hbV fV sV=>?_;have b1:=zst hbY hbV;exact⟨Y.heap.size,(cvE rfl rfl),fV,zaa b1 fB,(zst hbX b1)⟩
 clear fB hbX;clear X;rintro F X ⟨fF,fB,hbX⟩;refine⟨Nat,fun G=>⟨[(0,u8 m),(3,At0 L),(5,At0 F),(6,At0 G)],[]⟩,fun G Y=>RelH Y G (zdW x)/\RelH Y F (frM x)/\Y.heap[L]?=some (.cells #[At0 b] 79 (0,0))/\Bw w Y,?_,?_⟩
 ·refine⟨_,zac (zab fB) (i:=0) rfl,?_⟩;have fX:=zaa hbX fx;have hvX:=hv.below hbX;refine⟨_,zac (zab fX) (i:=0) rfl,?_⟩;refine cmo (zir (n:=x.ev.length) (caps := #[At0 L]) (g:=94) (p:=fun a d=>hasM x.po a d&&zdj x a d) (by omega) (by kernel_rfl) fun a d Z ha hd hb=>znr (zaa hb fB) (zaa hb fX) (hvX.below hb) ha hd) ?_;rintro e Y ⟨rfl,hbY⟩;refine zan (X:=Y) (v := .agg (relC (zdW x)).toArray) k27 (zad _) (by kernel_rfl) (zau _) fun V hbV fV sV=>?_;have b1:=zst hbY hbV;exact⟨Y.heap.size,(cvE rfl rfl),fV,zaa b1 fF,zaa b1 fB,(zst hbX b1)⟩
 clear fF fB hbX;clear X;rintro G X ⟨fG,fF,fB,hbX⟩;have lw:WrdR (zdW x).to:=zdB (by omega);have hbr:zdH m.toNat x=if acyR (za6 (zdW x) [x.rf,x.co,frM x])=true then (if zeq (zd3 x.rm (zbY (frM x) x.co).1).1=true then (if m.toNat=1 then 0 else if acyR (za6 (zcX m.toNat x) [if m.toNat=2 then x.rf else extM x x.rf,x.co,frM x])=true then 0 else 3) else 2) else 1:=rfl
 refine⟨Unit,fun _=>⟨[(0,u8 m),(3,At0 L),(5,At0 F)],[]⟩,fun _ Y=>acyR (za6 (zdW x) [x.rf,x.co,frM x])=true/\RelH Y F (frM x)/\Y.heap[L]?=some (.cells #[At0 b] 79 (0,0))/\Bw w Y,?_,?_⟩
 ·have dX:Bw X X.drew:=(Below.refl _ _).drew;have fX:=hdr (zaa hbX fx);refine DrawE.ord [] [0,1,2,3,4,5,6,7,8,9,10,11,12,13] (by kernel_rfl) ?_;refine⟨relC (zdW x),zad _,zab (hdr fG),hlt (hdr fG),?_⟩;refine⟨_,zac (zab (hdr fB)) (i:=0) rfl,?_⟩;refine⟨relC x.rf,zad _,zaA fX (i:=1) (by decide) rfl,hlt fX,?_⟩;refine⟨_,zac (zab (hdr fB)) (i:=0) rfl,?_⟩;refine⟨relC x.co,zad _,zaA fX (i:=2) (by decide) rfl,hlt fX,?_⟩;refine⟨relC (frM x),zad _,zab (hdr fF),hlt (hdr fF),?_⟩;refine⟨⟨by decide,by decide,rfl⟩,relC x.rf++(relC x.co++relC (frM x)),by kernel_rfl,?_⟩;refine⟨hba _ _,?_⟩;have b1:=dX.alloc (Nat.le_refl _) (.cells (relC x.rf++(relC x.co++relC (frM x))).toArray 27);have hl:=zjc (hnew X.drew (.cells (relC x.rf++(relC x.co++relC (frM x))).toArray 27));have hw3:∀ o∈[x.rf,x.co,frM x],WrdR o.to:=by
   simp only [List.mem_cons,List.not_mem_nil,or_false,forall_eq_or_imp,forall_eq];exact⟨hv.rf,hv.co,frw⟩
  refine cmo (zi9 (l:=[x.rf,x.co,frM x]) lw hl hw3 (Nat.le_of_ble_eq_true rfl)) ?_;rintro e Y ⟨rfl,hbY⟩;refine⟨hbY,?_⟩;have b2:=zst b1 hbY;refine cmo (ze5 (zd7 lw hw3) (hT.below ((zst hbX b2)))) ?_;rintro e Z ⟨rfl,hbZ⟩;refine⟨hbZ,?_⟩;have b3:=zst b2 hbZ;have b4:=zst hbX b3;refine biE (fun h=>?_) fun h=>?_
  ·have h:acyR (za6 (zdW x) [x.rf,x.co,frM x])=false:=by
    have h:(!acyR (za6 (zdW x) [x.rf,x.co,frM x]))=true:=h;simpa using h
   rw [h,if_neg (by decide)] at hbr;rw [hbr];exact⟨rfl,b4⟩
  ·have h:acyR (za6 (zdW x) [x.rf,x.co,frM x])=true:=by
    have h:(!acyR (za6 (zdW x) [x.rf,x.co,frM x]))=false:=h;simpa using h
   exact⟨(),(cvE rfl rfl),h,zaa b3 fF,zaa b3 fB,b4⟩
 clear fG fF fB hbX;clear X;rintro _ X ⟨h1,fF,fB,hbX⟩;rw [if_pos h1] at hbr;clear h1 lw G;refine⟨Nat,fun G=>⟨[(0,u8 m),(3,At0 L),(5,At0 F),(7,At0 G)],[]⟩,fun G Y=>RelH Y G (zbY (frM x) x.co).1/\RelH Y F (frM x)/\Y.heap[L]?=some (.cells #[At0 b] 79 (0,0))/\Bw w Y,?_,?_⟩
 ·have dX:Bw X X.drew:=(Below.refl _ _).drew;have fX:=hdr (zaa hbX fx);have put:∀ (W:World) (b3:Nat),Bw X W->RelH W b3 zai->X.heap.size<=b3->∀ {K:World->Prop},(∀ Y,(RelH Y b3 (zbY (frM x) x.co).1/\RelH Y F (frM x)/\Y.heap[L]?=some (.cells #[At0 b] 79 (0,0))/\Bw w Y)->K Y) ->
    SatR ((storeVar 27 ⟨b3,0,none⟩ (.agg (relC (zbY (frM x) x.co).1).toArray)).run Tryz.prog W) fun _ w'=>K w':=by
   intro W b3 hW f3 g3 K k;refine zar (v := .agg (relC (zbY (frM x) x.co).1).toArray) k27 f3 (zad _) (zad _) (zau _) ?_;have hF2:=hlt fF;have hL2:=hlt fB;exact k _ ⟨zal f3,(zam (by omega)).trans (zaa hW fF),(zam (by omega)).trans (zaa hW fB),zah ((zst hbX hW)) (by have:=hbX.size;omega) _⟩
  refine DrawE.treeQ [10] (.op 0 (.op 1 (.op 2 (.op 3 (.op 4 (.alt (.op 9 (.op 5 (.op 6 (.op 7 (.op 8 (.op 10 (.op 11 .nil))))))) (.op 5 (.op 6 (.op 7 (.op 8 (.op 9 (.op 10 (.op 11 .nil))))))))))))) (by kernel_rfl) ?_;refine⟨relC (frM x),zad _,zab (hdr fF),hlt (hdr fF),?_⟩;refine⟨_,zac (zab (hdr fB)) (i:=0) rfl,?_⟩;refine⟨relC x.co,zad _,zaA fX (i:=2) (by decide) rfl,hlt fX,?_⟩;refine And.intro ?_ ?_
  ·refine⟨hba _ _,?_⟩;have b1:=dX.alloc (Nat.le_refl _) (.cells (relC zai).toArray 27);refine cmo (zes frw hv.co (hT.below ((zst hbX b1)))) ?_;rintro e Y ⟨rfl,hbY⟩;refine⟨hbY,?_⟩;refine put Y X.heap.size ((zst b1 hbY)) (zaa hbY (hnew X.drew _)) (Nat.le_refl _) ?_;exact fun Y hY=>⟨X.heap.size,(cvE rfl rfl),hY⟩
  ·refine cmo (zes frw hv.co (hT.below ((zst hbX dX)))) ?_;rintro e Y ⟨rfl,hbY⟩;refine⟨hbY,?_⟩;have b1:=zst dX hbY;refine⟨hba _ _,?_⟩;refine put _ Y.heap.size (b1.alloc b1.size _) (hnew Y _) b1.size ?_;exact fun V hV=>⟨Y.heap.size,(cvE rfl rfl),hV⟩
 clear fF fB hbX;clear X;rintro G X ⟨fG,fF,fB,hbX⟩;have tw:=zeF (a:=frM x) (b:=x.co) frw hv.co;refine⟨Nat,fun H=>⟨[(0,u8 m),(3,At0 L),(5,At0 F),(9,At0 H)],[]⟩,fun H Y=>RelH Y H (zd3 x.rm (zbY (frM x) x.co).1).1/\RelH Y F (frM x)/\Y.heap[L]?=some (.cells #[At0 b] 79 (0,0))/\Bw w Y,?_,?_⟩
 ·have dX:Bw X X.drew:=(Below.refl _ _).drew;have fX:=hdr (zaa hbX fx);obtain⟨tb,htb⟩:=nm ((zbY (frM x) x.co).1);rw [<- htb] at fG tw ⊢;have put:∀ (W:World) (b3:Nat),Bw X W->RelH W b3 zai->X.heap.size<=b3->∀ {K:World->Prop},(∀ Y,(RelH Y b3 (zd3 x.rm tb).1/\RelH Y F (frM x)/\Y.heap[L]?=some (.cells #[At0 b] 79 (0,0))/\Bw w Y)->K Y) ->
    SatR ((storeVar 27 ⟨b3,0,none⟩ (.agg (relC (zd3 x.rm tb).1).toArray)).run Tryz.prog W) fun _ w'=>K w':=by
   intro W b3 hW f3 g3 K k;refine zar (v := .agg (relC (zd3 x.rm tb).1).toArray) k27 f3 (zad _) (zad _) (zau _) ?_;have hF2:=hlt fF;have hL2:=hlt fB;exact k _ ⟨zal f3,(zam (by omega)).trans (zaa hW fF),(zam (by omega)).trans (zaa hW fB),zah ((zst hbX hW)) (by have:=hbX.size;omega) _⟩
  refine DrawE.treeQ [10] (.op 0 (.op 1 (.op 2 (.op 3 (.op 4 (.alt (.op 9 (.op 5 (.op 6 (.op 7 (.op 8 (.op 10 (.op 11 .nil))))))) (.op 5 (.op 6 (.op 7 (.op 8 (.op 9 (.op 10 (.op 11 .nil))))))))))))) (by kernel_rfl) ?_;refine⟨_,zac (zab (hdr fB)) (i:=0) rfl,?_⟩;refine⟨relC x.rm,zad _,zaA fX (i:=5) (by decide) rfl,hlt fX,?_⟩;refine⟨relC tb,zad _,zab (hdr fG),hlt (hdr fG),?_⟩;refine And.intro ?_ ?_
  ·refine⟨hba _ _,?_⟩;have b1:=dX.alloc (Nat.le_refl _) (.cells (relC zai).toArray 27);refine cmo (zpq hv.rm tw) ?_;rintro e Y ⟨rfl,hbY⟩;refine⟨hbY,?_⟩;refine put Y X.heap.size ((zst b1 hbY)) (zaa hbY (hnew X.drew _)) (Nat.le_refl _) ?_;exact fun Y hY=>⟨X.heap.size,(cvE rfl rfl),hY⟩
  ·refine cmo (zpq hv.rm tw) ?_;rintro e Y ⟨rfl,hbY⟩;refine⟨hbY,?_⟩;have b1:=zst dX hbY;refine⟨hba _ _,?_⟩;refine put _ Y.heap.size (b1.alloc b1.size _) (hnew Y _) b1.size ?_;exact fun V hV=>⟨Y.heap.size,(cvE rfl rfl),hV⟩
 clear fG fF fB hbX;clear X G;rintro H X ⟨fH,fF,fB,hbX⟩;refine⟨Unit,fun _=>⟨[(0,u8 m),(3,At0 L),(5,At0 F)],[]⟩,fun _ Y=>zeq (zd3 x.rm (zbY (frM x) x.co).1).1=true/\RelH Y F (frM x)/\Y.heap[L]?=some (.cells #[At0 b] 79 (0,0))/\Bw w Y,?_,?_⟩
 ·refine⟨relC (zd3 x.rm (zbY (frM x) x.co).1).1,zad _,zab fH,hlt fH,?_⟩;refine cmo (zrg (zoK hv.rm)) ?_;rintro e Y ⟨rfl,hbY⟩;have b4:=zst hbX hbY;refine biE (fun h=>?_) fun h=>?_
  ·have h:zeq (zd3 x.rm (zbY (frM x) x.co).1).1=false:=by
    have h:(!zeq (zd3 x.rm (zbY (frM x) x.co).1).1)=true:=h;simpa using h
   rw [h,if_neg (by decide)] at hbr;rw [hbr];exact⟨rfl,b4⟩
  ·have h:zeq (zd3 x.rm (zbY (frM x) x.co).1).1=true:=by
    have h:(!zeq (zd3 x.rm (zbY (frM x) x.co).1).1)=false:=h;simpa using h
   exact⟨(),(cvE rfl rfl),h,zaa hbY fF,zaa hbY fB,b4⟩
 clear fH fF fB hbX tw;clear X H;rintro _ X ⟨h1,fF,fB,hbX⟩;rw [if_pos h1] at hbr;clear h1;refine⟨Unit,fun _=>⟨[(0,u8 m),(3,At0 L),(5,At0 F)],[]⟩,fun _ Y=>m.toNat≠1/\X=Y,?_,?_⟩
 ·refine biE (fun h=>?_) fun h=>?_
  ·have h:(m.toNat:Int)=1:=dT h;rw [if_pos (by omega)] at hbr;rw [hbr];exact⟨rfl,hbX⟩
  ·have h:¬ (m.toNat:Int)=1:=dF h;exact⟨(),(cvE rfl rfl),by omega,rfl⟩
 rintro _ _ ⟨h1,rfl⟩;rw [if_neg h1] at hbr;clear h1;refine⟨Nat,fun G=>⟨[(0,u8 m),(3,At0 L),(5,At0 F),(11,At0 G)],[]⟩,fun G Y=>G≠F/\G≠L/\w.heap.size<=G/\RelH Y G x.rf/\RelH Y F (frM x)/\Y.heap[L]?=some (.cells #[At0 b] 79 (0,0))/\Bw w Y,?_,?_⟩
 ·have fX:=zaa hbX fx;refine⟨_,zac (zab fB) (i:=0) rfl,?_⟩;refine⟨relC x.rf,zad _,zaA fX (i:=1) (by decide) rfl,hlt fX,?_⟩;refine zan (X:=X) (v := .agg (relC x.rf).toArray) k27 (zad _) (by kernel_rfl) (zau _) fun V hbV fV sV=>?_;have hF2:=hlt fF;have hL2:=hlt fB;exact⟨X.heap.size,(cvE rfl rfl),by omega,by omega,hbX.size,fV,zaa hbV fF,zaa hbV fB,(zst hbX hbV)⟩
 clear fF fB hbX;clear X;rintro G X ⟨hGF,hGL,hGw,fG,fF,fB,hbX⟩;obtain⟨rfx,hrfx⟩:=nm (if m.toNat=2 then x.rf else extM x x.rf);have rfw:WrdR rfx.to:=by
  rw [hrfx]
  split
  ·exact hv.rf
  ·exact zqp hrf (by omega)
 rw [<- hrfx] at hbr;refine⟨Unit,fun _=>⟨[(0,u8 m),(3,At0 L),(5,At0 F),(11,At0 G)],[]⟩,fun _ Y=>RelH Y G rfx/\RelH Y F (frM x)/\Y.heap[L]?=some (.cells #[At0 b] 79 (0,0))/\Bw w Y,?_,?_⟩
 ·have fX:=zaa hbX fx;have hvX:=hv.below hbX;refine biE (fun h=>?_) fun h=>?_
  ·have h:¬ m.toNat=2:=by
    have h:(!decide ((m.toNat:Int)=2))=true:=h;have h:¬ (m.toNat:Int)=2:=(by simpa using h);omega
   rw [if_neg h] at hrfx;refine⟨_,zac (zab fB) (i:=0) rfl,?_⟩;refine⟨relC x.rf,zad _,zab fG,hlt fG,?_⟩;refine cmo (zrU fX hvX hv.rf hrf) ?_;rintro e Y ⟨rfl,hbY⟩;rw [<- hrfx];refine zar (v := .agg (relC rfx).toArray) k27 (zaa hbY fG) (zad _) (zad _) (zau _) ?_;exact⟨(),(cvE rfl rfl),zal (zaa hbY fG),(zam (by omega)).trans (zaa hbY fF),(zam (by omega)).trans (zaa hbY fB),zah ((zst hbX hbY)) hGw _⟩
  ·have h:m.toNat=2:=by
    have h:(!decide ((m.toNat:Int)=2))=false:=h;have h:(m.toNat:Int)=2:=(by simpa using h);omega
   rw [if_pos h] at hrfx;rw [hrfx];exact⟨(),(cvE rfl rfl),fG,fF,fB,hbX⟩
 clear fG fF fB hbX hrfx;clear X;rintro _ X ⟨fG,fF,fB,hbX⟩;have kw:WrdR (zcX m.toNat x).to:=zdB (by omega);have dX:Bw X X.drew:=(Below.refl _ _).drew;have hbD:=zst hbX dX;have hw3:∀ o∈[rfx,x.co,frM x],WrdR o.to:=by
  simp only [List.mem_cons,List.not_mem_nil,or_false,forall_eq_or_imp,forall_eq];exact⟨rfw,hv.co,frw⟩
 have fD:=hdr (zaa hbX fx);have hk0:∀ {Y:World},Bw X Y->CB 69 #[u8 m,At0 b] Y (.agg (relC (zcX m.toNat x)).toArray):=fun {Y} hY =>
  have h2:=zst hbX hY
  zo8 hk (zaa h2 fx) (hv.below h2) (hT.below h2)
 refine DrawE.treeQ [] (.op 0 (.op 1 (.op 3 (.op 4 (.op 5 (.op 6 (.op 7 (.op 8 (.alt (.op 9 (.op 2 (.op 10 (.op 11 (.op 12 .nil))))) (.op 2 (.op 9 (.op 10 (.op 11 (.op 12 .nil)))))))))))))) (by kernel_rfl) ?_;refine⟨_,zac (zab (hdr fB)) (i:=0) rfl,?_⟩;refine⟨relC rfx,zad _,zab (hdr fG),hlt (hdr fG),?_⟩;refine⟨_,zac (zab (hdr fB)) (i:=0) rfl,?_⟩;refine⟨relC x.co,zad _,zaA fD (i:=2) (by decide) rfl,hlt fD,?_⟩;refine⟨relC (frM x),zad _,zab (hdr fF),hlt (hdr fF),?_⟩;refine And.intro ?_ ?_
 ·refine⟨⟨by decide,by decide,rfl⟩,relC rfx++(relC x.co++relC (frM x)),by kernel_rfl,?_⟩;refine⟨hba _ _,?_⟩;have b1:=dX.alloc (Nat.le_refl _) (.cells (relC rfx++(relC x.co++relC (frM x))).toArray 27);have hl:=zjc (hnew X.drew (.cells (relC rfx++(relC x.co++relC (frM x))).toArray 27));refine cmo (hk0 b1) ?_;rintro e Y ⟨rfl,hbY⟩;refine⟨hbY,?_⟩;have b2:=zst b1 hbY;refine cmo (zi9 (l:=[rfx,x.co,frM x]) kw (hl.below hbY) hw3 (Nat.le_of_ble_eq_true rfl)) ?_;rintro e V ⟨rfl,hbV⟩;refine⟨hbV,?_⟩;have b3:=zst b2 hbV;refine cmo (ze5 (zd7 kw hw3) (hT.below ((zst hbX b3)))) ?_;rintro e Z ⟨rfl,hbZ⟩;refine⟨hbZ,?_⟩;have b5:=hbX.trans (((zst b3 hbZ)).mono hbX.size);refine biE (fun h=>?_) fun h=>?_
  ·have h:acyR (za6 (zcX m.toNat x) [rfx,x.co,frM x])=false:=by
    have h:(!acyR (za6 (zcX m.toNat x) [rfx,x.co,frM x]))=true:=h;simpa using h
   rw [h,if_neg (by decide)] at hbr;rw [hbr];exact⟨rfl,b5⟩
  ·have h:acyR (za6 (zcX m.toNat x) [rfx,x.co,frM x])=true:=by
    have h:(!acyR (za6 (zcX m.toNat x) [rfx,x.co,frM x]))=false:=h;simpa using h
   rw [h,if_pos rfl] at hbr;rw [hbr];exact⟨rfl,b5⟩
 ·refine cmo (hk0 dX) ?_;rintro e Y ⟨rfl,hbY⟩;refine⟨hbY,?_⟩;have b1:=zst dX hbY;refine⟨⟨by decide,by decide,rfl⟩,relC rfx++(relC x.co++relC (frM x)),by kernel_rfl,?_⟩;refine⟨hba _ _,?_⟩;have b2:=b1.alloc b1.size (.cells (relC rfx++(relC x.co++relC (frM x))).toArray 27);have hl:=zjc (hnew Y (.cells (relC rfx++(relC x.co++relC (frM x))).toArray 27));refine cmo (zi9 (l:=[rfx,x.co,frM x]) kw hl hw3 (Nat.le_of_ble_eq_true rfl)) ?_;rintro e V ⟨rfl,hbV⟩;refine⟨hbV,?_⟩;have b3:=zst b2 hbV;refine cmo (ze5 (zd7 kw hw3) (hT.below ((zst hbX b3)))) ?_;rintro e Z ⟨rfl,hbZ⟩;refine⟨hbZ,?_⟩;have b5:=hbX.trans (((zst b3 hbZ)).mono hbX.size);refine biE (fun h=>?_) fun h=>?_
  ·have h:acyR (za6 (zcX m.toNat x) [rfx,x.co,frM x])=false:=by
    have h:(!acyR (za6 (zcX m.toNat x) [rfx,x.co,frM x]))=true:=h;simpa using h
   rw [h,if_neg (by decide)] at hbr;rw [hbr];exact⟨rfl,b5⟩
  ·have h:acyR (za6 (zcX m.toNat x) [rfx,x.co,frM x])=true:=by
    have h:(!acyR (za6 (zcX m.toNat x) [rfx,x.co,frM x]))=false:=h;simpa using h
   rw [h,if_pos rfl] at hbr;rw [hbr];exact⟨rfl,b5⟩
theorem zj8 (h:zaL x=true):x.rf.n=x.ev.length:=by
 unfold zaL za4 at h;simp only [List.all_cons,List.all_nil,Bool.and_true,bAT,dE] at h;obtain⟨_,_,_,_,⟨_,h6,_⟩,_⟩:=h;exact h6.1
theorem zp2 {A B C:Bool} {m:Nat}:(if A=true then (if B=true then (if m=1 then 0 else if C=true then 0 else 3) else 2) else 1)<=3:=by
 by_cases h:m=1 <;> cases A <;> cases B <;> cases C <;> simp [h]
theorem zns {m:Nat} {x:ExD}:decide ((((UInt8.ofNat (zdH m x)).toNat:Nat):Int)=0)=decide (zdH m x=0):=by
 have h:zdH m x<=3:=by
  unfold zdH;exact zp2
 refine decide_eq_decide.2 ?_;rw [UInt8.toNat_ofNat'];omega
theorem zrf {m:UInt8} (hv:ExV w x q) (hT:Tz64M w):CB 15 #[u8 m,.agg (exC x q c).toArray] w (.bool (zg7 m.toNat x)):=by
 refine cofM 16 [u8 m,.agg (exC x q c).toArray] (.c .p .p) Tryz.func15 ?_;obtain⟨L,hL⟩:=nm (w.heap.size);refine⟨Unit,fun _=>⟨[(0,u8 m),(3,At0 L)],[]⟩,fun _ X=>ExH X L x q c/\Bw w X,⟨(),⟨.cons rfl (.cons (by rw [hL];rfl) .nil),rfl⟩,by rw [hL];exact hnew w _,(zba w _)⟩,?_⟩;rintro _ X ⟨fX,hbX⟩;refine cmo zjA ?_;rintro e _ ⟨rfl,rfl⟩;refine biE (fun h1=>?_) fun h1=>?_
 ·have h1:zbh m.toNat=true:=h1;refine⟨exC x q c,zao _ _ _,zab fX,hlt fX,?_⟩;refine cmo (zdK (hv.below hbX) (hT.below hbX)) ?_;rintro e Y ⟨rfl,hbY⟩;have bY:=zst hbX hbY;refine biE (fun h2=>?_) fun h2=>?_
  ·have h2:zaL x=true:=h2;refine cmo (zkG h1 (zaa hbY fX) (hv.below bY) (zj8 h2) (hT.below bY)) ?_;rintro e Z ⟨rfl,hbZ⟩;refine⟨rb ?_,(zst bY hbZ)⟩;unfold zg7;rw [h1,h2];exact zns
  ·have h2:zaL x=false:=h2;exact⟨rb (by unfold zg7;rw [h2];cases zbh m.toNat <;> rfl),bY⟩
 ·have h1:zbh m.toNat=false:=h1;refine brF ?_;exact⟨rb (by unfold zg7;rw [h1];rfl),hbX⟩
theorem zoV {m:UInt8} (hv:ExV w x q) (hT:Tz64M w):CB 16 #[u8 m,.agg (exC x q c).toArray] w (u8 (UInt8.ofNat (zi0 m.toNat x))):=by
 refine cofM 15 [u8 m,.agg (exC x q c).toArray] (.c .p .p) Tryz.func16 ?_;obtain⟨L,hL⟩:=nm (w.heap.size);refine⟨Unit,fun _=>⟨[(0,u8 m),(3,At0 L)],[]⟩,fun _ X=>ExH X L x q c/\Bw w X,⟨(),⟨.cons rfl (.cons (by rw [hL];rfl) .nil),rfl⟩,by rw [hL];exact hnew w _,(zba w _)⟩,?_⟩;rintro _ X ⟨fX,hbX⟩;refine cmo zjA ?_;rintro e _ ⟨rfl,rfl⟩;refine biE (fun h1=>?_) fun h1=>?_
 ·have h1:zbh m.toNat=false:=by
   have h1:(!zbh m.toNat)=true:=h1;simpa using h1
  refine brT ?_;have e0:zi0 m.toNat x=0:=by unfold zi0;rw [if_neg fun h=>by rw [h1] at h;cases h.1]
  rw [e0];exact⟨rfl,hbX⟩
 ·have h1:zbh m.toNat=true:=by
   have h1:(!zbh m.toNat)=false:=h1;simpa using h1
  refine⟨exC x q c,zao _ _ _,zab fX,hlt fX,?_⟩;refine cmo (zdK (hv.below hbX) (hT.below hbX)) ?_;rintro e Y ⟨rfl,hbY⟩;have bY:=zst hbX hbY;refine biE (fun h2=>?_) fun h2=>?_
  ·have h2:zaL x=false:=by
    have h2:(!zaL x)=true:=h2;simpa using h2
   have e0:zi0 m.toNat x=0:=by unfold zi0;rw [if_neg fun h=>by rw [h2] at h;cases h.2]
   rw [e0];exact⟨rfl,bY⟩
  ·have h2:zaL x=true:=by
    have h2:(!zaL x)=false:=h2;simpa using h2
   have e0:zi0 m.toNat x=zdH m.toNat x:=if_pos ⟨h1,h2⟩;rw [e0];refine cmo (zkG h1 (zaa hbY fX) (hv.below bY) (zj8 h2) (hT.below bY)) ?_;rintro e Z ⟨rfl,hbZ⟩;exact⟨rfl,(zst bY hbZ)⟩
end
section
variable {b c:Nat} {x:ExD} {q:Option Addr} {w:World}
def zcJ (x:ExD) (r:RelD):Bool:=okR r&&(decide (r.n=x.ev.length)&&zaL x)
theorem notB {p:Bool} (h:(!p)=true):p=false:=by simpa using h
theorem notF {p:Bool} (h:(!p)=false):p=true:=by simpa using h
theorem zbt {X:World} {L:Nat} {r r0:RelD} (f0:RelH X L r0) (hL:w.heap.size<=L) (hbX:Bw w X) {K:World->Prop} (k:∀ Y,RelH Y L r->Bw w Y->K Y) :
  SatR ((storeVar 27 ⟨L,0,none⟩ (.agg (relC r).toArray)).run Tryz.prog X) fun _ w'=>K w' :=
 zar (v := .agg (relC r).toArray) k27 f0 (zad _) (zad _) (zau _) (k _ (zal f0) (zah hbX hL _))
theorem znH {m:UInt8} (hv:ExV w x q) (hT:Tz64M w):CB 23 #[u8 m,.agg (exC x q c).toArray] w (.agg (relC (zgN m.toNat x)).toArray):=by
 refine cofM 16 [u8 m,.agg (exC x q c).toArray] (.c .p .p) Tryz.func23 ?_;obtain⟨L,hL⟩:=nm (w.heap.size);refine⟨Unit,fun _=>⟨[(0,u8 m),(3,At0 L),(4,At0 (L+1))],[]⟩,fun _ X=>ExH X L x q c/\RelH X (L+1) zai/\Bw w X,?_,?_⟩
 ·have s1:=wz w (.cells (exC x q c).toArray 34);have h2:=hnew (w.alloc (.cells (exC x q c).toArray 34)) (.cells (relC zai).toArray 27);rw [s1] at h2;have b1:Bw w (w.alloc (.cells (exC x q c).toArray 34)):=zba w _;exact⟨(),⟨.cons rfl (.cons (by rw [hL];rfl) (.cons (by rw [hL,<- s1];rfl) .nil)),rfl⟩,by rw [hL];exact hold _ (hnew w _),by rw [hL];exact h2,b1.alloc b1.size _⟩
 rintro _ X ⟨fX,f0,hbX⟩;have zero:zgN m.toNat x=zai->∀ {Y:World},Bw X Y->SatR ((storeVar 27 ⟨L+1,0,none⟩ (.agg (relC zai).toArray)).run Tryz.prog Y) fun _ w'=>∃ cells,cells.length=49/\zaw w' ⟨L+1,0,none⟩ cells/\Ending.returned (.agg cells.toArray) = .returned (.agg (relC (zgN m.toNat x)).toArray)/\Bw w w':=fun h0 {Y} hb=>by
  rw [h0];exact zbt (zaa hb f0) (by omega) ((zst hbX hb)) fun Z fZ bZ=>⟨relC zai,zad _,zab fZ,rfl,bZ⟩
 refine cmo zjA ?_;rintro e _ ⟨rfl,rfl⟩;refine biE (fun h1=>?_) fun h1=>?_
 ·have h1:zbh m.toNat=false:=notB h1;refine brT ?_;refine⟨relC zai,by kernel_rfl,?_⟩;exact zero (if_neg fun h=>by rw [h1] at h;cases h.1) (Below.refl _ _)
 ·have h1:zbh m.toNat=true:=notF h1;refine⟨exC x q c,zao _ _ _,zab fX,hlt fX,?_⟩;refine cmo (zdK (hv.below hbX) (hT.below hbX)) ?_;rintro e Y ⟨rfl,hbY⟩;have bY:=zst hbX hbY;refine biE (fun h2=>?_) fun h2=>?_
  ·have h2:zaL x=false:=notB h2;refine⟨relC zai,by kernel_rfl,?_⟩;exact zero (if_neg fun h=>by rw [h2] at h;cases h.2) hbY
  ·have h2:zaL x=true:=notF h2;have e0:zgN m.toNat x=zcX m.toNat x:=if_pos ⟨h1,h2⟩;rw [e0];refine cmo (zo8 h1 (zaa hbY fX) (hv.below bY) (hT.below bY)) ?_;rintro e Z ⟨rfl,hbZ⟩;exact zbt (zaa hbZ (zaa hbY f0)) (by omega) ((zst bY hbZ)) fun V fV bV=>⟨relC (zcX m.toNat x),zad _,zab fV,rfl,bV⟩
def frX (x:ExD):RelD:=if zaL x=true then frM x else zai
def locX (x:ExD):RelD:=if zaL x=true then locM x else zai
def extX (x:ExD) (r:RelD):RelD:=if zcJ x r=true then extM x r else zai
def intX (x:ExD) (r:RelD):RelD:=if zcJ x r=true then intM x r else zai
theorem zg9 {r:RelD} (h:zcJ x r=true):okR r=true/\r.n=x.ev.length/\zaL x=true:=by
 unfold zcJ at h;rw [bAT,bAT,dE] at h;exact h
theorem zbx (w:World) (x:ExD) (q:Option Addr) (c:Nat) (r:RelD) (T:TypeId) : 
  ExH ((w.alloc (.cells (exC x q c).toArray 34)).alloc (.cells (relC r).toArray T)) w.heap.size x q c/\((w.alloc (.cells (exC x q c).toArray 34)).alloc (.cells (relC r).toArray T)).heap[w.heap.size+1]?=some (.cells (relC r).toArray T (0,0)) /\
   ((w.alloc (.cells (exC x q c).toArray 34)).alloc (.cells (relC r).toArray T)).heap.size=w.heap.size+2/\Bw w ((w.alloc (.cells (exC x q c).toArray 34)).alloc (.cells (relC r).toArray T)):=by
 have s1:=wz w (.cells (exC x q c).toArray 34);have h2:=hnew (w.alloc (.cells (exC x q c).toArray 34)) (.cells (relC r).toArray T);have s2:=wz (w.alloc (.cells (exC x q c).toArray 34)) (.cells (relC r).toArray T);rw [s1] at h2 s2;have b1:Bw w (w.alloc (.cells (exC x q c).toArray 34)):=zba w _;exact⟨hold _ (hnew w _),h2,s2,b1.alloc b1.size _⟩
theorem zpb {r:RelD} (hv:ExV w x q) (hr:WrdR r.to) (hT:Tz64M w):CB 64 #[.agg (exC x q c).toArray,.agg (relC r).toArray] w (.bool (zcJ x r)):=by
 refine cofM 19 [.agg (exC x q c).toArray,.agg (relC r).toArray] (.c .p .p) Tryz.func64 ?_;obtain⟨L,hL⟩:=nm (w.heap.size);refine⟨Unit,fun _=>⟨[(2,At0 L),(3,At0 (L+1))],[]⟩,fun _ X=>ExH X L x q c/\RelH X (L+1) r/\Bw w X,?_,?_⟩
 ·obtain⟨h1,h2,h3,h4⟩:=zbx w x q c r 27;have s1:=wz w (.cells (exC x q c).toArray 34);exact⟨(),⟨.cons (by rw [hL];rfl) (.cons (by rw [hL,<- s1];rfl) .nil),rfl⟩,by rw [hL];exact h1,by rw [hL];exact h2,h4⟩
 rintro _ X ⟨fX,fR,hbX⟩;refine⟨relC r,zad _,zab fR,hlt fR,?_⟩;refine cmo (zbu hr) ?_;rintro e Y ⟨rfl,hbY⟩;have bY:=zst hbX hbY;refine biE (fun h1=>?_) fun h1=>?_
 ·have h1:okR r=true:=h1;refine⟨i64 r.n,by have:=zac (zab (zaa hbY fR)) (i:=0) (v:=i64 r.n) rfl;exact this,?_⟩;refine⟨_,zax (zab (zaa hbY fX)),?_⟩;refine biE (fun h2=>?_) fun h2=>?_
  ·have h2:r.n=(x.ev.length:Int):=dT h2;refine⟨exC x q c,zao _ _ _,zab (zaa hbY fX),hlt (zaa hbY fX),?_⟩;refine cmo (zdK (hv.below bY) (hT.below bY)) ?_;rintro e Z ⟨rfl,hbZ⟩;exact⟨rb (by unfold zcJ;rw [h1,decide_eq_true h2];rfl),(zst bY hbZ)⟩
  ·have h2:¬ r.n=(x.ev.length:Int):=dF h2;exact⟨rb (by unfold zcJ;rw [h1,decide_eq_false h2];rfl),bY⟩
 ·have h1:okR r=false:=h1;refine brF ?_;exact⟨rb (by unfold zcJ;rw [h1];rfl),bY⟩
theorem zsx (hv:ExV w x q) (hT:Tz64M w):CB 18 #[.agg (exC x q c).toArray] w (.agg (relC (frX x)).toArray):=by
 refine cofM 8 [.agg (exC x q c).toArray] (.c .p .p) Tryz.func18 ?_;obtain⟨L,hL⟩:=nm (w.heap.size);have hn:=hv.n;refine⟨Unit,fun _=>⟨[(1,At0 L),(2,At0 (L+1))],[]⟩,fun _ X=>ExH X L x q c/\RelH X (L+1) zai/\Bw w X,?_,?_⟩
 ·obtain⟨h1,h2,h3,h4⟩:=zbx w x q c zai 27;have s1:=wz w (.cells (exC x q c).toArray 34);exact⟨(),⟨.cons (by rw [hL];rfl) (.cons (by rw [hL,<- s1];rfl) .nil),rfl⟩,by rw [hL];exact h1,by rw [hL];exact h2,h4⟩
 rintro _ X ⟨fX,f0,hbX⟩;have zero:frX x=zai->∀ {Y:World},Bw X Y->SatR ((storeVar 27 ⟨L+1,0,none⟩ (.agg (relC zai).toArray)).run Tryz.prog Y) fun _ w'=>∃ cells,cells.length=49/\zaw w' ⟨L+1,0,none⟩ cells/\Ending.returned (.agg cells.toArray) = .returned (.agg (relC (frX x)).toArray)/\Bw w w':=fun h0 {Y} hb=>by
  rw [h0];exact zbt (zaa hb f0) (by omega) ((zst hbX hb)) fun Z fZ bZ=>⟨relC zai,zad _,zab fZ,rfl,bZ⟩
 refine⟨exC x q c,zao _ _ _,zab fX,hlt fX,?_⟩;refine cmo (zdK (hv.below hbX) (hT.below hbX)) ?_;rintro e Y ⟨rfl,hbY⟩;have bY:=zst hbX hbY;have fY:=zaa hbY fX;refine biE (fun h2=>?_) fun h2=>?_
 ·have h2:zaL x=false:=notB h2;refine⟨relC zai,by kernel_rfl,?_⟩;exact zero (if_neg fun h=>by rw [h2] at h;cases h) hbY
 ·have h2:zaL x=true:=notF h2;have e0:frX x=frM x:=if_pos h2;rw [e0];refine cmo (fr_c fY (hv.below bY) (hT.below bY)) ?_;rintro e Z ⟨rfl,hbZ⟩;exact zbt (zaa hbZ (zaa hbY f0)) (by omega) ((zst bY hbZ)) fun V fV bV=>⟨relC (frM x),zad _,zab fV,rfl,bV⟩
theorem zpn (hv:ExV w x q) (hT:Tz64M w):CB 19 #[.agg (exC x q c).toArray] w (.agg (relC (locX x)).toArray):=by
 refine cofM 12 [.agg (exC x q c).toArray] (.c .p .p) Tryz.func19 ?_;obtain⟨L,hL⟩:=nm (w.heap.size);have hn:=hv.n;refine⟨Unit,fun _=>⟨[(1,At0 L),(2,At0 (L+1))],[]⟩,fun _ X=>ExH X L x q c/\RelH X (L+1) zai/\Bw w X,?_,?_⟩
 ·obtain⟨h1,h2,h3,h4⟩:=zbx w x q c zai 27;have s1:=wz w (.cells (exC x q c).toArray 34);exact⟨(),⟨.cons (by rw [hL];rfl) (.cons (by rw [hL,<- s1];rfl) .nil),rfl⟩,by rw [hL];exact h1,by rw [hL];exact h2,h4⟩
 rintro _ X ⟨fX,f0,hbX⟩;have zero:locX x=zai->∀ {Y:World},Bw X Y->SatR ((storeVar 27 ⟨L+1,0,none⟩ (.agg (relC zai).toArray)).run Tryz.prog Y) fun _ w'=>∃ cells,cells.length=49/\zaw w' ⟨L+1,0,none⟩ cells/\Ending.returned (.agg cells.toArray) = .returned (.agg (relC (locX x)).toArray)/\Bw w w':=fun h0 {Y} hb=>by
  rw [h0];exact zbt (zaa hb f0) (by omega) ((zst hbX hb)) fun Z fZ bZ=>⟨relC zai,zad _,zab fZ,rfl,bZ⟩
 refine⟨exC x q c,zao _ _ _,zab fX,hlt fX,?_⟩;refine cmo (zdK (hv.below hbX) (hT.below hbX)) ?_;rintro e Y ⟨rfl,hbY⟩;have bY:=zst hbX hbY;have fY:=zaa hbY fX;refine biE (fun h2=>?_) fun h2=>?_
 ·have h2:zaL x=false:=notB h2;refine⟨relC zai,by kernel_rfl,?_⟩;exact zero (if_neg fun h=>by rw [h2] at h;cases h) hbY
 ·have h2:zaL x=true:=notF h2;have e0:locX x=locM x:=if_pos h2;rw [e0];refine⟨_,zax (zab fY),?_⟩;refine cmo (zir (n:=x.ev.length) (caps := #[At0 L]) (g:=62) (p:=zdj x) (by omega) (by kernel_rfl) fun a d Z ha hd hb=>zrG (zaa hb fY) ((hv.below bY).below hb) ha hd) ?_;rintro e Z ⟨rfl,hbZ⟩;exact zbt (zaa hbZ (zaa hbY f0)) (by omega) ((zst bY hbZ)) fun V fV bV=>⟨relC (locM x),zad _,zab fV,rfl,bV⟩
theorem zpp {r:RelD} (hv:ExV w x q) (hr:WrdR r.to) (hT:Tz64M w):CB 20 #[.agg (exC x q c).toArray,.agg (relC r).toArray] w (.agg (relC (extX x r)).toArray):=by
 refine cofM 12 [.agg (exC x q c).toArray,.agg (relC r).toArray] (.c .p .p) Tryz.func20 ?_;obtain⟨L,hL⟩:=nm (w.heap.size);have hn:=hv.n;refine⟨Unit,fun _=>⟨[(2,At0 L),(3,At0 (L+1)),(4,At0 (L+2))],[]⟩,fun _ X=>ExH X L x q c/\RelH X (L+1) r/\RelH X (L+2) zai/\Bw w X,?_,?_⟩
 ·obtain⟨h1,h2,h3,h4⟩:=zbx w x q c r 27;have s1:=wz w (.cells (exC x q c).toArray 34);obtain⟨U,hU⟩:=nm ((w.alloc (.cells (exC x q c).toArray 34)).alloc (.cells (relC r).toArray 27));rw [<- hU] at h1 h2 h3 h4;have f3:=hnew U (.cells (relC zai).toArray 27);rw [h3] at f3;subst hU;exact⟨(),⟨.cons (by rw [hL];rfl) (.cons (by rw [hL,<- s1];rfl) (.cons (by rw [hL,<- h3];rfl) .nil)),rfl⟩,by rw [hL];exact hold _ h1,by rw [hL];exact hold _ h2,by rw [hL];exact f3,h4.alloc h4.size _⟩
 rintro _ X ⟨fX,fR,f0,hbX⟩;have zero:extX x r=zai->∀ {Y:World},Bw X Y->SatR ((storeVar 27 ⟨L+2,0,none⟩ (.agg (relC zai).toArray)).run Tryz.prog Y) fun _ w'=>∃ cells,cells.length=49/\zaw w' ⟨L+2,0,none⟩ cells/\Ending.returned (.agg cells.toArray) = .returned (.agg (relC (extX x r)).toArray)/\Bw w w':=fun h0 {Y} hb=>by
  rw [h0];exact zbt (zaa hb f0) (by omega) ((zst hbX hb)) fun Z fZ bZ=>⟨relC zai,zad _,zab fZ,rfl,bZ⟩
 refine⟨exC x q c,zao _ _ _,zab fX,hlt fX,?_⟩;refine⟨relC r,zad _,zab fR,hlt fR,?_⟩;refine cmo (zpb (hv.below hbX) hr (hT.below hbX)) ?_;rintro e Y ⟨rfl,hbY⟩;have bY:=zst hbX hbY;have fY:=zaa hbY fX;refine biE (fun h2=>?_) fun h2=>?_
 ·have h2:zcJ x r=false:=notB h2;refine⟨relC zai,by kernel_rfl,?_⟩;exact zero (if_neg fun h=>by rw [h2] at h;cases h) hbY
 ·have h2:zcJ x r=true:=notF h2;have h3:=zg9 h2;have e0:extX x r=extM x r:=if_pos h2;rw [e0];refine⟨relC r,zad _,zab (zaa hbY fR),hlt (zaa hbY fR),?_⟩;refine cmo (zrU fY (hv.below bY) hr h3.2.1) ?_;rintro e Z ⟨rfl,hbZ⟩;exact zbt (zaa hbZ (zaa hbY f0)) (by omega) ((zst bY hbZ)) fun V fV bV=>⟨relC (extM x r),zad _,zab fV,rfl,bV⟩
theorem zpo {r:RelD} (hv:ExV w x q) (hr:WrdR r.to) (hT:Tz64M w):CB 21 #[.agg (exC x q c).toArray,.agg (relC r).toArray] w (.agg (relC (intX x r)).toArray):=by
 refine cofM 14 [.agg (exC x q c).toArray,.agg (relC r).toArray] (.c .p .p) Tryz.func21 ?_;obtain⟨L,hL⟩:=nm (w.heap.size);have hn:=hv.n;refine⟨Unit,fun _=>⟨[(2,At0 L),(3,At0 (L+1)),(4,At0 (L+2))],[]⟩,fun _ X=>ExH X L x q c/\RelH X (L+1) r/\RelH X (L+2) zai/\Bw w X,?_,?_⟩
 ·obtain⟨h1,h2,h3,h4⟩:=zbx w x q c r 27;have s1:=wz w (.cells (exC x q c).toArray 34);obtain⟨U,hU⟩:=nm ((w.alloc (.cells (exC x q c).toArray 34)).alloc (.cells (relC r).toArray 27));rw [<- hU] at h1 h2 h3 h4;have f3:=hnew U (.cells (relC zai).toArray 27);rw [h3] at f3;subst hU;exact⟨(),⟨.cons (by rw [hL];rfl) (.cons (by rw [hL,<- s1];rfl) (.cons (by rw [hL,<- h3];rfl) .nil)),rfl⟩,by rw [hL];exact hold _ h1,by rw [hL];exact hold _ h2,by rw [hL];exact f3,h4.alloc h4.size _⟩
 rintro _ X ⟨fX,fR,f0,hbX⟩;have zero:intX x r=zai->∀ {Y:World},Bw X Y->SatR ((storeVar 27 ⟨L+2,0,none⟩ (.agg (relC zai).toArray)).run Tryz.prog Y) fun _ w'=>∃ cells,cells.length=49/\zaw w' ⟨L+2,0,none⟩ cells/\Ending.returned (.agg cells.toArray) = .returned (.agg (relC (intX x r)).toArray)/\Bw w w':=fun h0 {Y} hb=>by
  rw [h0];exact zbt (zaa hb f0) (by omega) ((zst hbX hb)) fun Z fZ bZ=>⟨relC zai,zad _,zab fZ,rfl,bZ⟩
 refine⟨exC x q c,zao _ _ _,zab fX,hlt fX,?_⟩;refine⟨relC r,zad _,zab fR,hlt fR,?_⟩;refine cmo (zpb (hv.below hbX) hr (hT.below hbX)) ?_;rintro e Y ⟨rfl,hbY⟩;have bY:=zst hbX hbY;have fY:=zaa hbY fX;refine biE (fun h2=>?_) fun h2=>?_
 ·have h2:zcJ x r=false:=notB h2;refine⟨relC zai,by kernel_rfl,?_⟩;exact zero (if_neg fun h=>by rw [h2] at h;cases h) hbY
 ·have h2:zcJ x r=true:=notF h2;have h3:=zg9 h2;have e0:intX x r=intM x r:=if_pos h2;rw [e0];refine⟨i64 r.n,by have:=zac (zab (zaa hbY fR)) (i:=0) (v:=i64 r.n) rfl;exact this,?_⟩;have en:intM x r=zaX x.ev.length fun a d=>hasM r a d&&decide ((evA x a).th=(evA x d).th):=by
   unfold intM;rw [h3.2.1];rfl
  rw [h3.2.1,en];refine cmo (zir (n:=x.ev.length) (caps := #[At0 (L+1),At0 L]) (g:=66) (p:=fun a d=>hasM r a d&&decide ((evA x a).th=(evA x d).th)) (by omega) (by kernel_rfl) fun a d Z ha hd hb=>zrM (zaa hb (zaa hbY fR)) hr (zaa hb fY) ((hv.below bY).below hb) ha hd) ?_;rintro e Z ⟨rfl,hbZ⟩;rw [<- en];exact zbt (zaa hbZ (zaa hbY f0)) (by omega) ((zst bY hbZ)) fun V fV bV=>⟨relC (intM x r),zad _,zab fV,rfl,bV⟩
theorem zi5 {md:UInt8} (hv:ExV w x q) (hT:Tz64M w):CB 22 #[.agg (exC x q c).toArray,u8 md] w (.agg (relC (zb9 x md)).toArray):=by
 refine cofM 21 [.agg (exC x q c).toArray,u8 md] (.c .p .p) Tryz.func22 ?_;obtain⟨L,hL⟩:=nm (w.heap.size);have hn:=hv.n;refine⟨Unit,fun _=>⟨[(1,u8 md),(2,At0 L),(4,At0 (L+1))],[]⟩,fun _ X=>ExH X L x q c/\RelH X (L+1) zai/\Bw w X,?_,?_⟩
 ·obtain⟨h1,h2,h3,h4⟩:=zbx w x q c zai 27;have s1:=wz w (.cells (exC x q c).toArray 34);exact⟨(),⟨.cons rfl (.cons (by rw [hL];rfl) (.cons (by rw [hL,<- s1];rfl) .nil)),rfl⟩,by rw [hL];exact h1,by rw [hL];exact h2,h4⟩
 rintro _ X ⟨fX,f0,hbX⟩;have zero:zb9 x md=zai->∀ {Y:World},Bw X Y->SatR ((storeVar 27 ⟨L+1,0,none⟩ (.agg (relC zai).toArray)).run Tryz.prog Y) fun _ w'=>∃ cells,cells.length=49/\zaw w' ⟨L+1,0,none⟩ cells/\Ending.returned (.agg cells.toArray) = .returned (.agg (relC (zb9 x md)).toArray)/\Bw w w':=fun h0 {Y} hb=>by
  rw [h0];exact zbt (zaa hb f0) (by omega) ((zst hbX hb)) fun Z fZ bZ=>⟨relC zai,zad _,zab fZ,rfl,bZ⟩
 refine⟨exC x q c,zao _ _ _,zab fX,hlt fX,?_⟩;refine cmo (zdK (hv.below hbX) (hT.below hbX)) ?_;rintro e Y ⟨rfl,hbY⟩;have bY:=zst hbX hbY;have fY:=zaa hbY fX;refine biE (fun h2=>?_) fun h2=>?_
 ·have h2:zaL x=false:=notB h2;refine⟨relC zai,by kernel_rfl,?_⟩;exact zero (if_neg fun h=>by rw [h2] at h;cases h) hbY
 ·have h2:zaL x=true:=notF h2;have none:¬ (3<=md.toNat/\md.toNat<=5)->SatR ((storeVar 27 ⟨L+1,0,none⟩ (.agg (relC (relN x.ev.length)).toArray)).run Tryz.prog Y) fun _ w'=>∃ cells,cells.length=49/\zaw w' ⟨L+1,0,none⟩ cells/\Ending.returned (.agg cells.toArray) = .returned (.agg (relC (zb9 x md)).toArray)/\Bw w w':=fun h=>by
   have e0:zb9 x md=relN x.ev.length:=by unfold zb9;rw [if_pos h2,if_neg h]
   rw [e0];exact zbt (zaa hbY f0) (by omega) bY fun Z fZ bZ=>⟨relC (relN x.ev.length),zad _,zab fZ,rfl,bZ⟩
  refine biE (fun h3=>?_) fun h3=>?_
  ·have h3:(md.toNat:Int)<3:=dT h3;refine brT ?_;refine⟨_,zax (zab fY),?_⟩;refine⟨relC (relN x.ev.length),by kernel_rfl,?_⟩;exact none (by omega)
  have h3:¬ (md.toNat:Int)<3:=dF h3;refine biE (fun h4=>?_) fun h4=>?_
  ·have h4:(5:Int)<(md.toNat:Int):=dT h4;refine⟨_,zax (zab fY),?_⟩;refine⟨relC (relN x.ev.length),by kernel_rfl,?_⟩;exact none (by omega)
  have h4:¬ (5:Int)<(md.toNat:Int):=dF h4;have e0:zb9 x md=zaz x md:=by unfold zb9;rw [if_pos h2,if_pos (by omega)]
  rw [e0];refine cmo (zkw fY (hv.below bY) (hT.below bY)) ?_;rintro e Z ⟨rfl,hbZ⟩;exact zbt (zaa hbZ (zaa hbY f0)) (by omega) ((zst bY hbZ)) fun V fV bV=>⟨relC (zaz x md),zad _,zab fV,rfl,bV⟩
end
theorem znx {s b:Nat}:decide (((s/2^b%2:Nat):Int)=1)=s.testBit b:=by
 rw [Nat.testBit_eq_decide_div_mod_eq];exact decide_eq_decide.2 (by omega)
theorem zlP {a:Nat}:Int.tmod ((a:Nat):Int) 2=((a%2:Nat):Int):=rfl
theorem zrB {s b:Nat} (hs:s<2^64) (hb:b<64) (h:s.testBit b=false):s+2^b=s|||2^b:=by
 have h2:s&&&2^b=0:=Nat.eq_of_testBit_eq fun j=>by
  rw [Nat.testBit_and,zb6,Nat.zero_testBit];by_cases e:j=b
  ·subst e;rw [h];rfl
  ·rw [decide_eq_false e,Bool.and_false]
 have hp:2^b<2^64:=zaK hb;have ho:s|||2^b<2^64:=Nat.or_lt_two_pow hs hp;have e:=BitVec.add_eq_or_of_and_eq_zero (BitVec.ofNat 65 s) (BitVec.ofNat 65 (2^b)) (BitVec.eq_of_toNat_eq (by
  rw [BitVec.toNat_and,BitVec.toNat_ofNat,BitVec.toNat_ofNat,Nat.mod_eq_of_lt (by omega),Nat.mod_eq_of_lt (by omega),h2];rfl))
 have e2:=congrArg BitVec.toNat e;rw [BitVec.toNat_add,BitVec.toNat_or,BitVec.toNat_ofNat,BitVec.toNat_ofNat,Nat.mod_eq_of_lt (by omega:s<2^65),Nat.mod_eq_of_lt (by omega:2^b<2^65),Nat.mod_eq_of_lt (by omega)] at e2;exact e2
theorem zp1 {s b:Nat} (h:s.testBit b=true):s|||2^b=s:=Nat.eq_of_testBit_eq fun j=>by
 rw [Nat.testBit_or,zb6];by_cases e:j=b
 ·subst e;rw [h];rfl
 ·rw [decide_eq_false e,Bool.or_false]
theorem zpt {s b:Nat} (hs:s<2^64) (hb:b<64) (h:s.testBit b=false):IntKind.u64.wrap (((s:Nat):Int)+((2^b:Nat):Int))=((s|||2^b:Nat):Int):=by
 have h1:=zrB hs hb h;have h2:s|||2^b<2^64:=Nat.or_lt_two_pow hs (zaK hb);rw [zc3 ⟨by omega,by omega⟩];omega
def putR (r:RelD) (a b:Nat):RelD:=⟨r.n,upd r.to a (r.to a|||2^b)⟩
theorem zpy (w:World) (r:RelD) (T T2:TypeId) : 
  ((w.alloc (.cells (relC r).toArray T)).alloc (.cells (relC zai).toArray T2)).heap[w.heap.size]?=some (.cells (relC r).toArray T (0,0))/\((w.alloc (.cells (relC r).toArray T)).alloc (.cells (relC zai).toArray T2)).heap[w.heap.size+1]?=some (.cells (relC zai).toArray T2 (0,0)) /\
   ((w.alloc (.cells (relC r).toArray T)).alloc (.cells (relC zai).toArray T2)).heap.size=w.heap.size+2/\Bw w ((w.alloc (.cells (relC r).toArray T)).alloc (.cells (relC zai).toArray T2)):=by
 have s1:=wz w (.cells (relC r).toArray T);have h2:=hnew (w.alloc (.cells (relC r).toArray T)) (.cells (relC zai).toArray T2);have s2:=wz (w.alloc (.cells (relC r).toArray T)) (.cells (relC zai).toArray T2);rw [s1] at h2 s2;have b1:Bw w (w.alloc (.cells (relC r).toArray T)):=zba w _;exact⟨hold _ (hnew w _),h2,s2,b1.alloc b1.size _⟩
section
variable {w:World}
theorem zmm {X:World} {L:Nat} {r:RelD} (h:RelH X L r):RelAt X L 0 27 [] [] r:=⟨rfl,by simpa using h⟩
theorem zfF {X:World} {L:Nat} {r:RelD} (h:RelH X L r) {i:Nat} (hi:i<48):X.cell? ⟨L,0+1+i*1,none⟩=some (s64 (r.to i)):=(zmm h).cell hi
theorem zik {X:World} {L:Nat} {r:RelD} (h:RelH X L r):X.cell? ⟨L,0+0,none⟩=some (i64 r.n):=zac (zab h) (i:=0) rfl
theorem zn6 {X:World} {L a v:Nat} {r:RelD} (h:RelH X L r) (ha:a<48) {K:World->Prop} (k:∀ Y,RelH Y L ⟨r.n,upd r.to a v⟩->X.grownBy Y (some L)->Y.heap.size=X.heap.size->K Y) :
  SatR ((storeVar 24 ⟨L,0+1+a*1,none⟩ (s64 v)).run Tryz.prog X) fun _ w'=>K w':=by
 have hR:=zmm h;refine zas k24 hR.cells (o:=0+1+a*1) (v:=s64 v) rfl rfl (by rw [hR.len];omega) rfl fun S fS gS sS=>k S ?_ gS sS;rw [hR.set ha] at fS;simpa using fS
theorem zcn {X:World} {L:Nat} {r r0:RelD} (f0:RelH X L r0) (hL:w.heap.size<=L) (hbX:Bw w X) {K:World->Prop} (k:∀ Y,RelH Y L r->(∀ g,g≠L->Y.heap[g]?=X.heap[g]?)->Bw w Y->K Y) :
  SatR ((storeVar 27 ⟨L,0,none⟩ (.agg (relC r).toArray)).run Tryz.prog X) fun _ w'=>K w' :=
 zar (v := .agg (relC r).toArray) k27 f0 (zad _) (zad _) (zau _) (k _ (zal f0) (fun g h=>zam h) (zah hbX hL _))
theorem za0 {r:RelD} {a d:Nat} (hr:WrdR r.to) (ha:a<48) (hd:d<48):CB 59 #[.agg (relC r).toArray,i64 (a:Nat),i64 (d:Nat)] w (.bool (hasM r a d)):=by
 refine cofE 16 [.agg (relC r).toArray,i64 (a:Nat),i64 (d:Nat)] Tryz.func59 ?_;have f:RelH (w.alloc (.cells (relC r).toArray 27)) w.heap.size r:=hnew w _;refine⟨a,rfl,ha,?_⟩;refine⟨s64 (r.to a),zfF f ha,?_⟩;refine⟨(d:Int),zc3 ⟨by omega,by omega⟩,?_⟩;refine⟨by omega,_,ze8 (a:=r.to a) (k:=d) (by omega),?_⟩;refine⟨by decide,_,zlP,?_⟩;exact⟨rb znx,(zba w _)⟩
theorem znI {s b:Nat} (hb:b<64):Calls Tryz.prog 70 #[s64 s,i64 (b:Nat)] w fun e w'=>e = .returned (.bool (s.testBit b))/\w=w':=by
 refine cofE 19 [s64 s,i64 (b:Nat)] Tryz.func70 ?_;refine brE (decide_eq_true (by omega)) ?_;refine brE (decide_eq_true (by omega)) ?_;refine⟨(b:Int),zc3 ⟨by omega,by omega⟩,?_⟩;refine⟨by omega,_,ze8 (a:=s) (k:=b) (by omega),?_⟩;refine⟨by decide,_,zlP,?_⟩;exact⟨rb znx,rfl⟩
theorem zeE {r:RelD} {a d:Nat} (hr:WrdR r.to) (ha:a<48) (hd:d<48):CB 71 #[.agg (relC r).toArray,i64 (a:Nat),i64 (d:Nat)] w (.agg (relC (putR r a d)).toArray):=by
 refine cofM 24 [.agg (relC r).toArray,i64 (a:Nat),i64 (d:Nat)] (.c .p (.c .p .p)) Tryz.func71 ?_;obtain⟨L,hL⟩:=nm (w.heap.size);refine⟨Unit,fun _=>⟨[(1,i64 (a:Nat)),(2,i64 (d:Nat)),(3,At0 L),(6,At0 (L+1))],[]⟩,fun _ X=>RelH X L r/\RelH X (L+1) zai/\Bw w X,?_,?_⟩
 ·obtain⟨h1,h2,h3,h4⟩:=zpy w r 27 27;have s1:=wz w (.cells (relC r).toArray 27);exact⟨(),⟨.cons rfl (.cons rfl (.cons (by rw [hL];rfl) (.cons (by rw [hL,<- s1];rfl) .nil))),rfl⟩,by rw [hL];exact h1,by rw [hL];exact h2,h4⟩
 rintro _ X ⟨fR,f0,hbX⟩;refine⟨Unit,fun _=>⟨[(3,At0 L),(6,At0 (L+1))],[]⟩,fun _ X=>RelH X L (putR r a d)/\RelH X (L+1) zai/\Bw w X,?_,?_⟩
 ·refine⟨relC r,zad _,zab fR,hlt fR,?_⟩;refine cmo (za0 hr ha hd) ?_;rintro e Y ⟨rfl,hbY⟩;have fR:=zaa hbY fR;have f0:=zaa hbY f0;have bY:=zst hbX hbY;refine biE (fun h=>?_) fun h=>?_
  ·have h:hasM r a d=false:=notB h;refine⟨a,rfl,ha,?_⟩;refine⟨s64 (r.to a),zfF fR ha,?_⟩;refine⟨(d:Int),zc3 ⟨by omega,by omega⟩,?_⟩;refine⟨by omega,_,zbQ (e:=d) (by omega),?_⟩;refine⟨_,zpt (hr a ha) (by omega) h,?_⟩;refine⟨a,rfl,ha,?_⟩;refine zn6 fR ha fun Z fZ gZ sZ=>?_;exact⟨(),(cvE rfl rfl),fZ,(gZ.block (L+1) (hlt f0) (by simp)).trans f0,bY.trans (zap gZ bY.size (by omega))⟩
  ·have h:hasM r a d=true:=notF h;have e:putR r a d=r:=by
    unfold putR;have:r.to a|||2^d=r.to a:=zp1 h;rw [this];have:upd r.to a (r.to a)=r.to:=by
     funext i;by_cases e:i=a
     ·subst e;rw [zaZ]
     ·rw [zcf _ _ e]
    rw [this]
   exact⟨(),(cvE rfl rfl),by rw [e];exact fR,f0,bY⟩
 rintro _ X ⟨fR,f0,hbX⟩;refine⟨relC (putR r a d),zad _,zab fR,hlt fR,?_⟩;exact zbt f0 (by omega) hbX fun Z fZ bZ=>⟨relC (putR r a d),zad _,zab fZ,rfl,bZ⟩
end
section
variable {w:World}
theorem zgI {r:RelD} (hr:WrdR r.to):CB 24 #[.agg (relC r).toArray] w (.bool (okR r)):=by
 refine cofM 39 [.agg (relC r).toArray] (.c .p .p) Tryz.func24 ?_;obtain⟨L,hL⟩:=nm (w.heap.size);refine⟨Unit,fun _=>⟨[(1,At0 L)],[]⟩,fun _ X=>RelH X L r/\Bw w X,⟨(),⟨.cons (by rw [hL];rfl) .nil,rfl⟩,by rw [hL];exact hnew w _,(zba w _)⟩,?_⟩;rintro _ X ⟨f,hbX⟩;have hn:=zik f;refine⟨i64 r.n,hn,?_⟩;refine biE (fun h=>?_) fun h=>?_
 ·have h:r.n<0:=dT h;refine brT ?_;exact⟨rb (by unfold okR;rw [decide_eq_false (by omega)];rfl),hbX⟩
 have h:¬ r.n<0:=dF h;refine⟨i64 r.n,hn,?_⟩;refine biE (fun h2=>?_) fun h2=>?_
 ·have h2:(48:Int)<r.n:=dT h2;exact⟨rb (by unfold okR;rw [decide_eq_false (show ¬ r.n<=48 by omega),Bool.false_and,Bool.and_false]),hbX⟩
 have h2:¬ (48:Int)<r.n:=dF h2;refine⟨Nat,fun a=>⟨[(1,At0 L),(3,i64 (a:Nat))],[]⟩,fun a Y=>X=Y/\a<=48/\∀ i j,i<a->j<64->hasM r i j=true->(i:Int)<r.n/\(j:Int)<r.n,fun a=>48-a,0,(cvE rfl rfl),⟨rfl,Nat.zero_le _,fun i j hi=>by omega⟩,?_⟩;rintro a _ ⟨rfl,ha,hall⟩;dsimp only;refine biE (fun hc=>?_) fun hc=>?_
 ·have hc:(a:Int)<48:=dT hc;have ha48:a<48:=by omega
  refine⟨Nat,fun d=>⟨[(1,At0 L),(3,i64 (a:Nat)),(4,i64 (d:Nat))],[]⟩,fun d Y=>X=Y/\d<=64/\∀ j,j<d->hasM r a j=true->(a:Int)<r.n/\(j:Int)<r.n,fun d=>64-d,0,(cvE rfl rfl),⟨rfl,Nat.zero_le _,fun j hj=>by omega⟩,?_⟩;rintro d _ ⟨rfl,hd,halld⟩;dsimp only;refine biE (fun hc=>?_) fun hc=>?_
  ·have hc:(d:Int)<64:=dT hc;have hd64:d<64:=by omega
   have next:(hasM r a d=true->(a:Int)<r.n/\(d:Int)<r.n)->∀ j,j<d+1->hasM r a j=true->(a:Int)<r.n/\(j:Int)<r.n:=fun h j hj hb=>by
    by_cases e:j=d
    ·subst e;exact h hb
    ·exact halld j (by omega) hb
   have bad:hasM r a d=true->¬ ((a:Int)<r.n/\(d:Int)<r.n)->okR r=false:=fun h1 h2=>by
    cases ho:okR r with
    | false=>rfl
    | true=>exact absurd (by have:=zhr ho hr ha48 h1;omega) h2
   refine⟨a,rfl,ha48,?_⟩;refine⟨s64 (r.to a),zfF f ha48,?_⟩;refine cmo (znI (s:=r.to a) hd64) ?_;rintro e _ ⟨rfl,rfl⟩;refine biE (fun h3=>?_) fun h3=>?_
   ·have h3:hasM r a d=true:=h3;refine⟨i64 r.n,hn,?_⟩;refine biE (fun h4=>?_) fun h4=>?_
    ·have h4:r.n<=(a:Int):=dT h4;refine brT ?_;exact⟨rb (bad h3 (by omega)).symm,hbX⟩
    ·have h4:¬ r.n<=(a:Int):=dF h4;refine⟨i64 r.n,hn,?_⟩;refine biE (fun h5=>?_) fun h5=>?_
     ·have h5:r.n<=(d:Int):=dT h5;exact⟨rb (bad h3 (by omega)).symm,hbX⟩
     ·have h5:¬ r.n<=(d:Int):=dF h5;refine nxI (by omega) ?_;exact⟨d+1,(cvE rfl rfl),⟨rfl,by omega,next fun _=>by omega⟩,zdc (by omega)⟩
   ·have h3:hasM r a d=false:=h3;refine brF ?_;refine nxI (by omega) ?_;exact⟨d+1,(cvE rfl rfl),⟨rfl,by omega,next fun h=>by rw [h3] at h;cases h⟩,zdc (by omega)⟩
  ·have hc:¬ (d:Int)<64:=dF hc;obtain rfl:d=64:=by omega
   refine nxI (by omega) ?_;exact⟨a+1,(cvE rfl rfl),⟨rfl,by omega,fun i j hi hj hb=>by
    by_cases e:i=a
    ·subst e;exact halld j hj hb
    ·exact hall i j (by omega) hj hb⟩,zdc (by omega)⟩
 ·have hc:¬ (a:Int)<48:=dF hc;obtain rfl:a=48:=by omega
  refine⟨rb ?_,hbX⟩;symm;refine zo1 (n:=r.n.toNat) (by omega) (by omega) fun i j hi hb=>?_;have hj:j<64:=Nat.lt_of_not_le fun hge=>by
   have:(r.to i).testBit j=false:=Nat.testBit_lt_two_pow (nL (hr i hi) (Nat.pow_le_pow_right (by decide) hge));rw [show hasM r i j=(r.to i).testBit j from rfl,this] at hb
   cases hb
  have:=hall i j hi hj hb;omega
theorem zbB {r:RelD} {a d:Nat} (hr:WrdR r.to) (ha:a<48) (hd:d<64):CB 46 #[.agg (relC r).toArray,i64 (a:Nat),i64 (d:Nat)] w (.bool (hasQ r a d)):=by
 refine cofM 37 [.agg (relC r).toArray,i64 (a:Nat),i64 (d:Nat)] (.c .p .p) Tryz.func46 ?_;obtain⟨L,hL⟩:=nm (w.heap.size);refine⟨Unit,fun _=>⟨[(1,i64 (a:Nat)),(2,i64 (d:Nat)),(3,At0 L)],[]⟩,fun _ X=>RelH X L r/\Bw w X,⟨(),⟨.cons rfl (.cons rfl (.cons (by rw [hL];rfl) .nil)),rfl⟩,by rw [hL];exact hnew w _,(zba w _)⟩,?_⟩;rintro _ X ⟨f,hbX⟩;refine⟨relC r,zad _,zab f,hlt f,?_⟩;refine cmo (zgI hr) ?_;rintro e Y ⟨rfl,hbY⟩;have f:=zaa hbY f;have bY:=zst hbX hbY;have hn:=zik f;refine biE (fun h1=>?_) fun h1=>?_
 ·have h1:okR r=true:=h1;refine brE (decide_eq_true (by omega)) ?_;refine⟨i64 r.n,hn,?_⟩;refine biE (fun h2=>?_) fun h2=>?_
  ·have h2:(a:Int)<r.n:=dT h2;refine brE (decide_eq_true (by omega)) ?_;refine⟨i64 r.n,hn,?_⟩;refine biE (fun h3=>?_) fun h3=>?_
   ·have h3:(d:Int)<r.n:=dT h3;refine⟨a,rfl,ha,?_⟩;refine⟨s64 (r.to a),zfF f ha,?_⟩;refine cmo (znI (s:=r.to a) hd) ?_;rintro e _ ⟨rfl,rfl⟩;exact⟨rb (by unfold hasQ;rw [h1,decide_eq_true h2,decide_eq_true h3];rfl),bY⟩
   ·have h3:¬ (d:Int)<r.n:=dF h3;exact⟨rb (by unfold hasQ;rw [h1,decide_eq_true h2,decide_eq_false h3];rfl),bY⟩
  ·have h2:¬ (a:Int)<r.n:=dF h2;refine brF ?_;refine brF ?_;exact⟨rb (by unfold hasQ;rw [h1,decide_eq_false h2];rfl),bY⟩
 ·have h1:okR r=false:=h1;refine brF ?_;refine brF ?_;refine brF ?_;refine brF ?_;exact⟨rb (by unfold hasQ;rw [h1];rfl),bY⟩
end
theorem putB {base:Nat->Nat} {n a d:Nat} {p:Nat->Nat->Bool} (h:p a d=true):putR ⟨n,zbj base n p a d⟩ a d=⟨n,zbj base n p a (d+1)⟩:=by
 unfold putR;show RelD.mk _ _=RelD.mk _ _;congr 1;exact zmf h
theorem zbc {x y:UInt8}:decide (((x.toNat:Nat):Int)=((y.toNat:Nat):Int))=decide (x=y):=decide_eq_decide.2 zbi
theorem zrm {x:UInt8}:decide (((x.toNat:Nat):Int)=0)=decide (x=0):=zbc (y:=0)
theorem zbq {x:UInt8}:decide (((x.toNat:Nat):Int)=1)=decide (x=1):=zbc (y:=1)
theorem zaO {x:UInt8}:decide (((x.toNat:Nat):Int)=2)=decide (x=2):=zbc (y:=2)
theorem zds {x:UInt8}:decide (((x.toNat:Nat):Int)=3)=decide (x=3):=zbc (y:=3)
theorem zkk {a b:Nat}:decide ((a:Int)<(b:Int)) = !decide (b<=a):=by
 rw [<- decide_not];exact decide_eq_decide.2 (by omega)
theorem zkx (d:Nat) (a b:Bool) (w:World):(Op.equalIn (d+1) 4 (.bool a) (.bool b)).run Tryz.prog w = .ok (decide (a=b)) w:=by
 simp only [Op.equalIn,Sem.run_bind,run_underlying Tryz.underlying4,Result.andThen_ok,Sem.run_pure]
 cases a <;> cases b <;> rfl
theorem ziU (x y:Operand) (a b:Bool) (w:World):(do eqGuard .eql 4 x y (.bool a) (.bool b);binOp .eql 4 (.bool a) (.bool b)).run Tryz.prog w = .ok (.bool (decide (a=b))) w:=by
 have h:(Op.equal 4 (.bool a) (.bool b)).run Tryz.prog w = .ok (decide (a=b)) w:=zkx 9999 a b w;have h1:(eqGuard .eql 4 x y (.bool a) (.bool b)).run Tryz.prog w = .ok () w:=rfl;rw [Sem.run_bind,h1];simp only [Result.andThen_ok,binOp,Sem.run_bind,h,Sem.run_pure]
theorem zdZ {x:ExD} {q:Option Addr} {X:World} (hv:SlR evE X q x.ev) (h:0<x.ev.length):∃ bq oq,q=some ⟨bq,oq,none⟩/\bq<X.heap.size/\∀ i,i<x.ev.length->zaw X ⟨bq,oq+i*7,none⟩ (evE.enc (evA x i)):=by
 obtain⟨b,o,hq,hb,hat⟩:=hv.at h;refine⟨b,o,hq,hb,fun i hi=>?_⟩;have:=hat i hi;unfold evA;rw [gDe,gE hi];exact this
theorem ziT {X:World} {b o i:Nat} {e:Ev} (h:zaw X ⟨b,o+i*7,none⟩ (evE.enc e)):X.cell? ⟨b,o+i*7+0,none⟩=some (i64 e.th):=zac h (i:=0) rfl
theorem zpi {X:World} {b:Nat} {e:Ev} (h:X.heap[b]?=some (.cells (evE.enc e).toArray 54 (0,0))):X.cell? ⟨b,0+0,none⟩=some (i64 e.th):=zac (zab h) (i:=0) rfl
theorem zcY {X:World} {b o i:Nat} {e:Ev} (h:zaw X ⟨b,o+i*7,none⟩ (evE.enc e)):X.cell? ⟨b,o+i*7+1,none⟩=some (u8 e.k):=zac h (i:=1) rfl
theorem zbA {X:World} {b:Nat} {e:Ev} (h:X.heap[b]?=some (.cells (evE.enc e).toArray 54 (0,0))):X.cell? ⟨b,0+1,none⟩=some (u8 e.k):=zac (zab h) (i:=1) rfl
theorem zoC {X:World} {b o i:Nat} {e:Ev} (h:zaw X ⟨b,o+i*7,none⟩ (evE.enc e)):X.cell? ⟨b,o+i*7+2,none⟩=some (u8 e.l):=zac h (i:=2) rfl
theorem zm9 {X:World} {b:Nat} {e:Ev} (h:X.heap[b]?=some (.cells (evE.enc e).toArray 54 (0,0))):X.cell? ⟨b,0+2,none⟩=some (u8 e.l):=zac (zab h) (i:=2) rfl
theorem zoB {X:World} {b o i:Nat} {e:Ev} (h:zaw X ⟨b,o+i*7,none⟩ (evE.enc e)):X.cell? ⟨b,o+i*7+3,none⟩=some (u8 e.v):=zac h (i:=3) rfl
theorem zsR {X:World} {b:Nat} {e:Ev} (h:X.heap[b]?=some (.cells (evE.enc e).toArray 54 (0,0))):X.cell? ⟨b,0+3,none⟩=some (u8 e.v):=zac (zab h) (i:=3) rfl
theorem zr4 {X:World} {b o i:Nat} {e:Ev} (h:zaw X ⟨b,o+i*7,none⟩ (evE.enc e)):X.cell? ⟨b,o+i*7+4,none⟩=some (u8 e.m):=zac h (i:=4) rfl
theorem zlr {X:World} {b:Nat} {e:Ev} (h:X.heap[b]?=some (.cells (evE.enc e).toArray 54 (0,0))):X.cell? ⟨b,0+4,none⟩=some (u8 e.m):=zac (zab h) (i:=4) rfl
theorem zsS {X:World} {b:Nat} {e:Ev} (h:X.heap[b]?=some (.cells (evE.enc e).toArray 54 (0,0))):X.cell? ⟨b,0+6,none⟩=some (u8 e.p):=zac (zab h) (i:=6) rfl
theorem r_po {X:World} {b:Nat} {x:ExD} {q:Option Addr} {c:Nat} (fx:ExH X b x q c):zaw X ⟨b,0+1,none⟩ (relC x.po):=zaA fx (i:=0) (by decide) rfl
theorem r_rf {X:World} {b:Nat} {x:ExD} {q:Option Addr} {c:Nat} (fx:ExH X b x q c):zaw X ⟨b,0+50,none⟩ (relC x.rf):=zaA fx (i:=1) (by decide) rfl
theorem r_co {X:World} {b:Nat} {x:ExD} {q:Option Addr} {c:Nat} (fx:ExH X b x q c):zaw X ⟨b,0+99,none⟩ (relC x.co):=zaA fx (i:=2) (by decide) rfl
theorem r_dt {X:World} {b:Nat} {x:ExD} {q:Option Addr} {c:Nat} (fx:ExH X b x q c):zaw X ⟨b,0+148,none⟩ (relC x.dt):=zaA fx (i:=3) (by decide) rfl
theorem r_ct {X:World} {b:Nat} {x:ExD} {q:Option Addr} {c:Nat} (fx:ExH X b x q c):zaw X ⟨b,0+197,none⟩ (relC x.ct):=zaA fx (i:=4) (by decide) rfl
theorem r_rm {X:World} {b:Nat} {x:ExD} {q:Option Addr} {c:Nat} (fx:ExH X b x q c):zaw X ⟨b,0+246,none⟩ (relC x.rm):=zaA fx (i:=5) (by decide) rfl
theorem zfU {n k:Nat} {f:Nat->Nat->Nat->Bool} (h:∀ a b,f a b k=false):(zaX n fun a b=>anyQ (k+1) (f a b)).to=(zaX n fun a b=>anyQ k (f a b)).to:=by
 congr 2;funext a b;rw [zkM,h,Bool.or_false]
def frF (x:ExD) (a b k:Nat):Bool:=hasM x.rf k a&&hasM x.co k b
def fenF (x:ExD) (md:UInt8) (a b k:Nat):Bool:=fenQ x md k&&(hasM x.po a k&&hasM x.po k b)
section
variable {w:World} {c:Nat} {x:ExD} {q:Option Addr}
theorem zsy (hv:ExV w x q):CB 27 #[.agg (exC x q c).toArray] w (.agg (relC (frQ x)).toArray):=by
 refine cofM 45 [.agg (exC x q c).toArray] (.c .p (.c .p (.c .p (.c .p .p)))) Tryz.func27 ?_;obtain⟨L,hL⟩:=nm (w.heap.size);have h16:=hv.n;obtain⟨n,hnn⟩:=nm (x.ev.length);refine⟨Unit,fun _=>⟨[(1,At0 L),(2,At0 (L+1))],[]⟩,fun _ X=>ExH X L x q c/\RelH X (L+1) zai/\Bw w X,?_,?_⟩
 ·obtain⟨h1,h2,h3,h4⟩:=zbx w x q c zai 27;have s1:=wz w (.cells (exC x q c).toArray 34);exact⟨(),⟨.cons (by rw [hL];rfl) (.cons (by rw [hL,<- s1];rfl) (.nil)),rfl⟩,by rw [hL];exact h1,by rw [hL];exact h2,h4⟩
 rintro _ X ⟨fX,f0,hbX⟩;refine⟨Unit,fun _=>⟨[(1,At0 L),(2,At0 (L+1)),(3,i64 n)],[]⟩,fun _ Y=>X=Y,?_,?_⟩
 ·refine⟨_,zax (zab fX),?_⟩;exact⟨(),⟨.cons rfl (.cons rfl (.cons (by rw [hnn];rfl) .nil)),rfl⟩,rfl⟩
 rintro _ _ rfl;refine⟨Nat,fun R=>⟨[(1,At0 L),(2,At0 (L+1)),(3,i64 n),(4,At0 R)],[]⟩,fun R Z=>L+1<R/\RelH Z R ⟨n,fun _=>0⟩/\ExH Z L x q c/\RelH Z (L+1) zai/\Bw w Z,?_,?_⟩
 ·refine⟨relC ⟨n,fun _=>0⟩,by kernel_rfl,?_⟩;refine zan (X:=X) (v := .agg (relC ⟨n,fun _=>0⟩).toArray) k27 (zad _) (by kernel_rfl) (zau _) fun Z hbZ fZ sZ=>?_;exact⟨X.heap.size,(cvE rfl rfl),hlt f0,fZ,zaa hbZ fX,zaa hbZ f0,(zst hbX hbZ)⟩
 clear fX f0 hbX;clear X;rintro R X ⟨hR0,f,fX,f0,hbX⟩;have bits:∀ k,WrdR (zaX n fun a b=>anyQ k ((frF x) a b)).to:=fun k=>zdB (by omega);refine⟨Unit,fun _=>⟨[(2,At0 (L+1)),(4,At0 R)],[]⟩,fun _ Z=>RelH Z R (frQ x)/\RelH Z (L+1) zai/\Bw w Z,?_,?_⟩
 ·replace f:RelH X R ⟨n,(zaX n fun a b=>anyQ 0 ((frF x) a b)).to⟩:=by rw [zkL];exact f
  refine⟨Nat,fun k=>⟨[(1,At0 L),(2,At0 (L+1)),(3,i64 n),(4,At0 R),(5,i64 (k:Nat))],[]⟩,fun k Z=>k<=n/\RelH Z R ⟨n,(zaX n fun a b=>anyQ k ((frF x) a b)).to⟩/\ExH Z L x q c/\RelH Z (L+1) zai/\Bw w Z,fun k=>n-k,0,(cvE rfl rfl),⟨Nat.zero_le _,f,fX,f0,hbX⟩,?_⟩;clear f fX f0 hbX;clear X;rintro k X ⟨hk,f,fX,f0,hbX⟩;dsimp only at f ⊢;refine biE (fun hc=>?_) fun hc=>?_
  ·have hc:(k:Int)<(n:Int):=dT hc;have hkn:k<n:=by omega
   obtain⟨base,hbase⟩:=nm ((zaX n fun a b=>anyQ k ((frF x) a b)).to);have hbw:WrdR base:=by rw [hbase];exact bits k
   obtain⟨p,hp⟩:∃ p:Nat->Nat->Bool,p=fun a b=>(frF x) a b k:=⟨_,rfl⟩;have step:(zaX n fun a b=>anyQ (k+1) ((frF x) a b)).to=zbj base n p n 0:=by rw [hp,hbase];exact zih.symm
   rw [<- hbase] at f;refine⟨Nat,fun a=>⟨[(1,At0 L),(2,At0 (L+1)),(3,i64 n),(4,At0 R),(5,i64 (k:Nat)),(6,i64 (a:Nat))],[]⟩,fun a Z=>a<=n/\RelH Z R ⟨n,zbj base n p a 0⟩/\ExH Z L x q c/\RelH Z (L+1) zai/\Bw w Z,fun a=>n-a,0,(cvE rfl rfl),⟨Nat.zero_le _,by rw [zdk];exact f,fX,f0,hbX⟩,?_⟩;clear f fX f0 hbX;clear X;rintro a X ⟨ha,f,fX,f0,hbX⟩;dsimp only at f ⊢;refine biE (fun hc=>?_) fun hc=>?_
   ·have hc:(a:Int)<(n:Int):=dT hc;have han:a<n:=(by omega);refine⟨Nat,fun d=>⟨[(1,At0 L),(2,At0 (L+1)),(3,i64 n),(4,At0 R),(5,i64 (k:Nat)),(6,i64 (a:Nat)),(7,i64 (d:Nat))],[]⟩,fun d Z=>d<=n/\RelH Z R ⟨n,zbj base n p a d⟩/\ExH Z L x q c/\RelH Z (L+1) zai/\Bw w Z,fun d=>n-d,0,(cvE rfl rfl),⟨Nat.zero_le _,f,fX,f0,hbX⟩,?_⟩;clear f fX f0 hbX;clear X;rintro d X ⟨hd,f,fX,f0,hbX⟩;dsimp only at f ⊢;refine biE (fun hc=>?_) fun hc=>?_
    ·have hc:(d:Int)<(n:Int):=dT hc;have hdn:d<n:=(by omega);refine⟨_,zad _,r_rf fX,hlt fX,?_⟩;refine cmo (za0 hv.rf (by omega) (by omega)) ?_;rintro e U ⟨rfl,hbU⟩;have f:=zaa hbU f;have fX:=zaa hbU fX;have f0:=zaa hbU f0;replace hbX:=zst hbX hbU;refine biE (fun h1=>?_) fun h1=>?_
     ·refine⟨_,zad _,r_co fX,hlt fX,?_⟩;refine cmo (za0 hv.co (by omega) (by omega)) ?_;rintro e U ⟨rfl,hbU⟩;have f:=zaa hbU f;have fX:=zaa hbU fX;have f0:=zaa hbU f0;replace hbX:=zst hbX hbU;refine biE (fun h2=>?_) fun h2=>?_
      ·have hpt:p a d=true:=(by rw [hp];simp [h1,h2,frF]);refine⟨_,zad ⟨n,zbj base n p a d⟩,zab f,hlt f,?_⟩;refine cmo (zeE (a:=a) (d:=d) (zdT hbw (by omega) (by omega)) (by omega) (by omega)) ?_;rintro e U ⟨rfl,hbU⟩;rw [putB hpt];refine zcn (zaa hbU f) (by omega) ((zst hbX hbU)) fun Z fZ oZ bZ=>?_;refine nxI (by omega) ?_;exact⟨d+1,(cvE rfl rfl),⟨hdn,fZ,(oZ L (by omega)).trans (zaa hbU fX),(oZ (L+1) (by omega)).trans (zaa hbU f0),bZ⟩,zdc (by omega)⟩
      ·have hpf:p a d=false:=(by rw [hp];simp [h1,h2,frF]);refine nxI (by omega) ?_;exact⟨d+1,(cvE rfl rfl),⟨hdn,by rw [<- za2 hpf];exact f,fX,f0,hbX⟩,zdc (by omega)⟩
     ·refine brF ?_;have hpf:p a d=false:=(by rw [hp];simp [h1,frF]);refine nxI (by omega) ?_;exact⟨d+1,(cvE rfl rfl),⟨hdn,by rw [<- za2 hpf];exact f,fX,f0,hbX⟩,zdc (by omega)⟩
    ·have hc:¬ (d:Int)<(n:Int):=dF hc;obtain rfl:d=n:=(by omega);refine nxI (by omega) ?_;exact⟨a+1,(cvE rfl rfl),⟨han,by rw [<- zdl];exact f,fX,f0,hbX⟩,zdc (by omega)⟩
   ·have hc:¬ (a:Int)<(n:Int):=dF hc;obtain rfl:a=n:=(by omega);refine nxI (by omega) ?_;exact⟨k+1,(cvE rfl rfl),⟨hkn,by rw [step];exact f,fX,f0,hbX⟩,zdc (by omega)⟩
  ·have hc:¬ (k:Int)<(n:Int):=dF hc;obtain rfl:k=n:=by omega
   have er:(⟨k,(zaX k fun a b=>anyQ k ((frF x) a b)).to⟩:RelD)=frQ x:=by rw [hnn];rfl
   rw [er] at f;exact⟨(),(cvE rfl rfl),f,f0,hbX⟩
 clear f fX f0 hbX;clear X;rintro _ X ⟨f,f0,hbX⟩;refine⟨relC (frQ x),zad _,zab f,hlt f,?_⟩;exact zbt f0 (by omega) hbX fun Z fZ bZ=>⟨relC (frQ x),zad _,zab fZ,rfl,bZ⟩
theorem zrb (hv:ExV w x q):CB 28 #[.agg (exC x q c).toArray] w (.agg (relC (locQ x)).toArray):=by
 refine cofM 58 [.agg (exC x q c).toArray] (.c .p (.c .p (.c .p (.c .p .p)))) Tryz.func28 ?_;obtain⟨L,hL⟩:=nm (w.heap.size);have h16:=hv.n;obtain⟨n,hnn⟩:=nm (x.ev.length);refine⟨Unit,fun _=>⟨[(1,At0 L),(2,At0 (L+1))],[]⟩,fun _ X=>ExH X L x q c/\RelH X (L+1) zai/\Bw w X,?_,?_⟩
 ·obtain⟨h1,h2,h3,h4⟩:=zbx w x q c zai 27;have s1:=wz w (.cells (exC x q c).toArray 34);exact⟨(),⟨.cons (by rw [hL];rfl) (.cons (by rw [hL,<- s1];rfl) (.nil)),rfl⟩,by rw [hL];exact h1,by rw [hL];exact h2,h4⟩
 rintro _ X ⟨fX,f0,hbX⟩;refine⟨Unit,fun _=>⟨[(1,At0 L),(2,At0 (L+1)),(3,i64 n)],[]⟩,fun _ Y=>X=Y,?_,?_⟩
 ·refine⟨_,zax (zab fX),?_⟩;exact⟨(),⟨.cons rfl (.cons rfl (.cons (by rw [hnn];rfl) .nil)),rfl⟩,rfl⟩
 rintro _ _ rfl;refine⟨Nat,fun R=>⟨[(1,At0 L),(2,At0 (L+1)),(3,i64 n),(4,At0 R)],[]⟩,fun R Z=>L+1<R/\RelH Z R ⟨n,fun _=>0⟩/\ExH Z L x q c/\RelH Z (L+1) zai/\Bw w Z,?_,?_⟩
 ·refine⟨relC ⟨n,fun _=>0⟩,by kernel_rfl,?_⟩;refine zan (X:=X) (v := .agg (relC ⟨n,fun _=>0⟩).toArray) k27 (zad _) (by kernel_rfl) (zau _) fun Z hbZ fZ sZ=>?_;exact⟨X.heap.size,(cvE rfl rfl),hlt f0,fZ,zaa hbZ fX,zaa hbZ f0,(zst hbX hbZ)⟩
 clear fX f0 hbX;clear X;rintro R X ⟨hR0,f,fX,f0,hbX⟩;refine⟨Unit,fun _=>⟨[(2,At0 (L+1)),(4,At0 R)],[]⟩,fun _ Z=>RelH Z R (locQ x)/\RelH Z (L+1) zai/\Bw w Z,?_,?_⟩
 ·obtain⟨base,hbase⟩:∃ base:Nat->Nat,base=fun _=>0:=⟨_,rfl⟩;have hbw:WrdR base:=by rw [hbase];exact fun i _=>(by show 0<2^64;decide)
  obtain⟨p,hp⟩:∃ p:Nat->Nat->Bool,p=fun a b=>kneQ x a&&(kneQ x b&&decide ((evA x a).l=(evA x b).l)):=⟨_,rfl⟩;have hend:(⟨n,zbj base n p n 0⟩:RelD)=locQ x:=by rw [hp,hbase,zfZ,hnn];rfl
  rw [<- hbase] at f;refine⟨Nat,fun a=>⟨[(1,At0 L),(2,At0 (L+1)),(3,i64 n),(4,At0 R),(5,i64 (a:Nat))],[]⟩,fun a Z=>a<=n/\RelH Z R ⟨n,zbj base n p a 0⟩/\ExH Z L x q c/\RelH Z (L+1) zai/\Bw w Z,fun a=>n-a,0,(cvE rfl rfl),⟨Nat.zero_le _,by rw [zdk];exact f,fX,f0,hbX⟩,?_⟩;clear f fX f0 hbX;clear X;rintro a X ⟨ha,f,fX,f0,hbX⟩;dsimp only at f ⊢;refine biE (fun hc=>?_) fun hc=>?_
  ·have hc:(a:Int)<(n:Int):=dT hc;have han:a<n:=by omega
   refine⟨Nat,fun d=>⟨[(1,At0 L),(2,At0 (L+1)),(3,i64 n),(4,At0 R),(5,i64 (a:Nat)),(6,i64 (d:Nat))],[]⟩,fun d Z=>d<=n/\RelH Z R ⟨n,zbj base n p a d⟩/\ExH Z L x q c/\RelH Z (L+1) zai/\Bw w Z,fun d=>n-d,0,(cvE rfl rfl),⟨Nat.zero_le _,f,fX,f0,hbX⟩,?_⟩;clear f fX f0 hbX;clear X;rintro d X ⟨hd,f,fX,f0,hbX⟩;dsimp only at f ⊢;refine biE (fun hc=>?_) fun hc=>?_
   ·have hc:(d:Int)<(n:Int):=dT hc;have hdn:d<n:=(by omega);obtain⟨bq,oq,hqe,hbq,hat⟩:=zdZ (hv.below hbX).ev (by omega:0<x.ev.length);subst hqe;have dX:Bw X X.drew:=(Below.refl _ _).drew;refine DrawE.ord [] [0,1,2,3,4,5,6,7,8,9,10,11,12,13,14,15,16,17,18,19,20,21,22,23,24,25,26,27,28,29,30] (by kernel_rfl) ?_;have f:=zaa dX f;have fX:=zaa dX fX;have f0:=zaa dX f0;have hat:=fun i hi=>zae dX (hat i hi);replace hbX:=zst hbX dX;refine⟨_,zax (zab fX),?_⟩;refine⟨a,rfl,by omega,?_⟩;refine⟨_,zcY (hat a (by omega)),?_⟩;refine biE (fun h1=>?_) fun h1=>?_
    ·have h1:=zds.symm.trans (notB h1);refine⟨_,zax (zab fX),?_⟩;refine⟨d,rfl,by omega,?_⟩;refine⟨_,zcY (hat d (by omega)),?_⟩;refine biE (fun h2=>?_) fun h2=>?_
     ·have h2:=zds.symm.trans (notB h2);refine⟨_,zax (zab fX),?_⟩;refine⟨a,rfl,by omega,?_⟩;refine⟨_,zoC (hat a (by omega)),?_⟩;refine⟨_,zax (zab fX),?_⟩;refine⟨d,rfl,by omega,?_⟩;refine⟨_,zoC (hat d (by omega)),?_⟩;refine biE (fun h3=>?_) fun h3=>?_
      ·have h3:=zbc.symm.trans h3;have hpt:p a d=true:=(by rw [hp];simp [h1,h2,h3,kneQ]);refine⟨_,zad ⟨n,zbj base n p a d⟩,zab f,hlt f,?_⟩;refine cmo (zeE (a:=a) (d:=d) (zdT hbw (by omega) (by omega)) (by omega) (by omega)) ?_;rintro e U ⟨rfl,hbU⟩;rw [putB hpt];refine zcn (zaa hbU f) (by omega) ((zst hbX hbU)) fun Z fZ oZ bZ=>?_;refine nxI (by omega) ?_;exact⟨d+1,(cvE rfl rfl),⟨hdn,fZ,(oZ L (by omega)).trans (zaa hbU fX),(oZ (L+1) (by omega)).trans (zaa hbU f0),bZ⟩,zdc (by omega)⟩
      ·have h3:=zbc.symm.trans h3;have hpf:p a d=false:=(by rw [hp];simp [h1,h2,h3,kneQ]);refine nxI (by omega) ?_;exact⟨d+1,(cvE rfl rfl),⟨hdn,by rw [<- za2 hpf];exact f,fX,f0,hbX⟩,zdc (by omega)⟩
     ·have h2:=zds.symm.trans (notF h2);refine brF ?_;have hpf:p a d=false:=(by rw [hp];simp [h1,h2,kneQ]);refine nxI (by omega) ?_;exact⟨d+1,(cvE rfl rfl),⟨hdn,by rw [<- za2 hpf];exact f,fX,f0,hbX⟩,zdc (by omega)⟩
    ·have h1:=zds.symm.trans (notF h1);refine brF ?_;refine brF ?_;have hpf:p a d=false:=(by rw [hp];simp [h1,kneQ]);refine nxI (by omega) ?_;exact⟨d+1,(cvE rfl rfl),⟨hdn,by rw [<- za2 hpf];exact f,fX,f0,hbX⟩,zdc (by omega)⟩
   ·have hc:¬ (d:Int)<(n:Int):=dF hc;obtain rfl:d=n:=(by omega);refine nxI (by omega) ?_;exact⟨a+1,(cvE rfl rfl),⟨han,by rw [<- zdl];exact f,fX,f0,hbX⟩,zdc (by omega)⟩
  ·have hc:¬ (a:Int)<(n:Int):=dF hc;obtain rfl:a=n:=by omega
   rw [hend] at f;exact⟨(),(cvE rfl rfl),f,f0,hbX⟩
 clear f fX f0 hbX;clear X;rintro _ X ⟨f,f0,hbX⟩;refine⟨relC (locQ x),zad _,zab f,hlt f,?_⟩;exact zbt f0 (by omega) hbX fun Z fZ bZ=>⟨relC (locQ x),zad _,zab fZ,rfl,bZ⟩
theorem zi2 {r:RelD} {one:Bool} (hv:ExV w x q) (hr:WrdR r.to):CB 25 #[.agg (exC x q c).toArray,.agg (relC r).toArray,.bool one] w (.agg (relC (zdi x r one)).toArray):=by
 refine cofM 52 [.agg (exC x q c).toArray,.agg (relC r).toArray,.bool one] (.c .p (.c .p (.c .p (.c .p .p)))) Tryz.func25 ?_;obtain⟨L,hL⟩:=nm (w.heap.size);have h16:=hv.n;obtain⟨n,hnn⟩:=nm (x.ev.length);refine⟨Unit,fun _=>⟨[(2,.bool one),(3,At0 L),(4,At0 (L+1)),(6,At0 (L+2))],[]⟩,fun _ X=>ExH X L x q c/\RelH X (L+1) r/\RelH X (L+2) zai/\Bw w X,?_,?_⟩
 ·obtain⟨h1,h2,h3,h4⟩:=zbx w x q c r 27;have s1:=wz w (.cells (exC x q c).toArray 34);have h5:=hnew ((w.alloc (.cells (exC x q c).toArray 34)).alloc (.cells (relC r).toArray 27)) (.cells (relC zai).toArray 27);rw [h3] at h5;exact⟨(),⟨.cons (rfl) (.cons (by rw [hL];rfl) (.cons (by rw [hL,<- s1];rfl) (.cons (by rw [hL,<- h3];rfl) (.nil)))),rfl⟩,by rw [hL];exact hold _ h1,by rw [hL];exact hold _ h2,by rw [hL];exact h5,h4.alloc h4.size _⟩
 rintro _ X ⟨fX,fR,f0,hbX⟩;refine⟨Unit,fun _=>⟨[(2,.bool one),(3,At0 L),(4,At0 (L+1)),(6,At0 (L+2)),(7,i64 n)],[]⟩,fun _ Y=>X=Y,?_,?_⟩
 ·refine⟨_,zax (zab fX),?_⟩;exact⟨(),⟨.cons rfl (.cons rfl (.cons rfl (.cons rfl (.cons (by rw [hnn];rfl) .nil)))),rfl⟩,rfl⟩
 rintro _ _ rfl;refine⟨Nat,fun R=>⟨[(2,.bool one),(3,At0 L),(4,At0 (L+1)),(6,At0 (L+2)),(7,i64 n),(8,At0 R)],[]⟩,fun R Z=>L+2<R/\RelH Z R ⟨n,fun _=>0⟩/\ExH Z L x q c/\RelH Z (L+1) r/\RelH Z (L+2) zai/\Bw w Z,?_,?_⟩
 ·refine⟨relC ⟨n,fun _=>0⟩,by kernel_rfl,?_⟩;refine zan (X:=X) (v := .agg (relC ⟨n,fun _=>0⟩).toArray) k27 (zad _) (by kernel_rfl) (zau _) fun Z hbZ fZ sZ=>?_;exact⟨X.heap.size,(cvE rfl rfl),hlt f0,fZ,zaa hbZ fX,zaa hbZ fR,zaa hbZ f0,(zst hbX hbZ)⟩
 clear fX fR f0 hbX;clear X;rintro R X ⟨hR0,f,fX,fR,f0,hbX⟩;refine⟨Unit,fun _=>⟨[(6,At0 (L+2)),(8,At0 R)],[]⟩,fun _ Z=>RelH Z R (zdi x r one)/\RelH Z (L+2) zai/\Bw w Z,?_,?_⟩
 ·obtain⟨base,hbase⟩:∃ base:Nat->Nat,base=fun _=>0:=⟨_,rfl⟩;have hbw:WrdR base:=by rw [hbase];exact fun i _=>(by show 0<2^64;decide)
  obtain⟨p,hp⟩:∃ p:Nat->Nat->Bool,p=fun a b=>hasM r a b&&decide (decide ((evA x a).th=(evA x b).th)=one):=⟨_,rfl⟩;have hend:(⟨n,zbj base n p n 0⟩:RelD)=zdi x r one:=by rw [hp,hbase,zfZ,hnn];rfl
  rw [<- hbase] at f;refine⟨Nat,fun a=>⟨[(2,.bool one),(3,At0 L),(4,At0 (L+1)),(6,At0 (L+2)),(7,i64 n),(8,At0 R),(9,i64 (a:Nat))],[]⟩,fun a Z=>a<=n/\RelH Z R ⟨n,zbj base n p a 0⟩/\ExH Z L x q c/\RelH Z (L+1) r/\RelH Z (L+2) zai/\Bw w Z,fun a=>n-a,0,(cvE rfl rfl),⟨Nat.zero_le _,by rw [zdk];exact f,fX,fR,f0,hbX⟩,?_⟩;clear f fX fR f0 hbX;clear X;rintro a X ⟨ha,f,fX,fR,f0,hbX⟩;dsimp only at f ⊢;refine biE (fun hc=>?_) fun hc=>?_
  ·have hc:(a:Int)<(n:Int):=dT hc;have han:a<n:=by omega
   refine⟨Nat,fun d=>⟨[(2,.bool one),(3,At0 L),(4,At0 (L+1)),(6,At0 (L+2)),(7,i64 n),(8,At0 R),(9,i64 (a:Nat)),(10,i64 (d:Nat))],[]⟩,fun d Z=>d<=n/\RelH Z R ⟨n,zbj base n p a d⟩/\ExH Z L x q c/\RelH Z (L+1) r/\RelH Z (L+2) zai/\Bw w Z,fun d=>n-d,0,(cvE rfl rfl),⟨Nat.zero_le _,f,fX,fR,f0,hbX⟩,?_⟩;clear f fX fR f0 hbX;clear X;rintro d X ⟨hd,f,fX,fR,f0,hbX⟩;dsimp only at f ⊢;refine biE (fun hc=>?_) fun hc=>?_
   ·have hc:(d:Int)<(n:Int):=dT hc;have hdn:d<n:=(by omega);obtain⟨bq,oq,hqe,hbq,hat⟩:=zdZ (hv.below hbX).ev (by omega:0<x.ev.length);subst hqe;have dX:Bw X X.drew:=(Below.refl _ _).drew;refine DrawE.ord [] [0,1,2,3,4,5,6,7,8,9,10,11,12,13,14,15,16,17,18,19,20] (by kernel_rfl) ?_;have f:=zaa dX f;have fX:=zaa dX fX;have fR:=zaa dX fR;have f0:=zaa dX f0;have hat:=fun i hi=>zae dX (hat i hi);replace hbX:=zst hbX dX;refine⟨_,zad _,zab fR,hlt fR,?_⟩;refine cmo (za0 hr (by omega) (by omega)) ?_;rintro e U ⟨rfl,hbU⟩;refine⟨hbU,?_⟩;have f:=zaa hbU f;have fX:=zaa hbU fX;have fR:=zaa hbU fR;have f0:=zaa hbU f0;have hat:=fun i hi=>zae hbU (hat i hi);replace hbX:=zst hbX hbU;refine biE (fun h1=>?_) fun h1=>?_
    ·refine⟨_,zax (zab fX),?_⟩;refine⟨a,rfl,by omega,?_⟩;refine⟨_,ziT (hat a (by omega)),?_⟩;refine⟨_,zax (zab fX),?_⟩;refine⟨d,rfl,by omega,?_⟩;refine⟨_,ziT (hat d (by omega)),?_⟩;refine⟨_,fun w=>ziU _ _ (decide (((evA x a).th:Int)=((evA x d).th:Int))) (one) w,?_⟩;refine biE (fun h2=>?_) fun h2=>?_
     ·have hpt:p a d=true:=(by rw [hp];simp [h1,h2]);refine⟨_,zad ⟨n,zbj base n p a d⟩,zab f,hlt f,?_⟩;refine cmo (zeE (a:=a) (d:=d) (zdT hbw (by omega) (by omega)) (by omega) (by omega)) ?_;rintro e U ⟨rfl,hbU⟩;rw [putB hpt];refine zcn (zaa hbU f) (by omega) ((zst hbX hbU)) fun Z fZ oZ bZ=>?_;refine nxI (by omega) ?_;exact⟨d+1,(cvE rfl rfl),⟨hdn,fZ,(oZ L (by omega)).trans (zaa hbU fX),(oZ (L+1) (by omega)).trans (zaa hbU fR),(oZ (L+2) (by omega)).trans (zaa hbU f0),bZ⟩,zdc (by omega)⟩
     ·have hpf:p a d=false:=(by rw [hp];simp [h1,h2]);refine nxI (by omega) ?_;exact⟨d+1,(cvE rfl rfl),⟨hdn,by rw [<- za2 hpf];exact f,fX,fR,f0,hbX⟩,zdc (by omega)⟩
    ·refine brF ?_;have hpf:p a d=false:=(by rw [hp];simp [h1]);refine nxI (by omega) ?_;exact⟨d+1,(cvE rfl rfl),⟨hdn,by rw [<- za2 hpf];exact f,fX,fR,f0,hbX⟩,zdc (by omega)⟩
   ·have hc:¬ (d:Int)<(n:Int):=dF hc;obtain rfl:d=n:=(by omega);refine nxI (by omega) ?_;exact⟨a+1,(cvE rfl rfl),⟨han,by rw [<- zdl];exact f,fX,fR,f0,hbX⟩,zdc (by omega)⟩
  ·have hc:¬ (a:Int)<(n:Int):=dF hc;obtain rfl:a=n:=by omega
   rw [hend] at f;exact⟨(),(cvE rfl rfl),f,f0,hbX⟩
 clear f fX fR f0 hbX;clear X;rintro _ X ⟨f,f0,hbX⟩;refine⟨relC (zdi x r one),zad _,zab f,hlt f,?_⟩;exact zbt f0 (by omega) hbX fun Z fZ bZ=>⟨relC (zdi x r one),zad _,zab fZ,rfl,bZ⟩
theorem zhh {md:UInt8} (hv:ExV w x q):CB 29 #[.agg (exC x q c).toArray,u8 md] w (.agg (relC (zaN x md)).toArray):=by
 refine cofM 72 [.agg (exC x q c).toArray,u8 md] (.c .p (.c .p (.c .p (.c .p .p)))) Tryz.func29 ?_;obtain⟨L,hL⟩:=nm (w.heap.size);have h16:=hv.n;obtain⟨n,hnn⟩:=nm (x.ev.length);refine⟨Unit,fun _=>⟨[(1,u8 md),(2,At0 L),(4,At0 (L+1))],[]⟩,fun _ X=>ExH X L x q c/\RelH X (L+1) zai/\Bw w X,?_,?_⟩
 ·obtain⟨h1,h2,h3,h4⟩:=zbx w x q c zai 27;have s1:=wz w (.cells (exC x q c).toArray 34);exact⟨(),⟨.cons (rfl) (.cons (by rw [hL];rfl) (.cons (by rw [hL,<- s1];rfl) (.nil))),rfl⟩,by rw [hL];exact h1,by rw [hL];exact h2,h4⟩
 rintro _ X ⟨fX,f0,hbX⟩;refine⟨Unit,fun _=>⟨[(1,u8 md),(2,At0 L),(4,At0 (L+1)),(5,i64 n)],[]⟩,fun _ Y=>X=Y,?_,?_⟩
 ·refine⟨_,zax (zab fX),?_⟩;exact⟨(),⟨.cons rfl (.cons rfl (.cons rfl (.cons (by rw [hnn];rfl) .nil))),rfl⟩,rfl⟩
 rintro _ _ rfl;refine⟨Nat,fun R=>⟨[(1,u8 md),(2,At0 L),(4,At0 (L+1)),(5,i64 n),(6,At0 R)],[]⟩,fun R Z=>L+1<R/\RelH Z R ⟨n,fun _=>0⟩/\ExH Z L x q c/\RelH Z (L+1) zai/\Bw w Z,?_,?_⟩
 ·refine⟨relC ⟨n,fun _=>0⟩,by kernel_rfl,?_⟩;refine zan (X:=X) (v := .agg (relC ⟨n,fun _=>0⟩).toArray) k27 (zad _) (by kernel_rfl) (zau _) fun Z hbZ fZ sZ=>?_;exact⟨X.heap.size,(cvE rfl rfl),hlt f0,fZ,zaa hbZ fX,zaa hbZ f0,(zst hbX hbZ)⟩
 clear fX f0 hbX;clear X;rintro R X ⟨hR0,f,fX,f0,hbX⟩;have bits:∀ k,WrdR (zaX n fun a b=>anyQ k ((fenF x md) a b)).to:=fun k=>zdB (by omega);refine⟨Unit,fun _=>⟨[(4,At0 (L+1)),(6,At0 R)],[]⟩,fun _ Z=>RelH Z R (zaN x md)/\RelH Z (L+1) zai/\Bw w Z,?_,?_⟩
 ·replace f:RelH X R ⟨n,(zaX n fun a b=>anyQ 0 ((fenF x md) a b)).to⟩:=by rw [zkL];exact f
  refine⟨Nat,fun k=>⟨[(1,u8 md),(2,At0 L),(4,At0 (L+1)),(5,i64 n),(6,At0 R),(7,i64 (k:Nat))],[]⟩,fun k Z=>k<=n/\RelH Z R ⟨n,(zaX n fun a b=>anyQ k ((fenF x md) a b)).to⟩/\ExH Z L x q c/\RelH Z (L+1) zai/\Bw w Z,fun k=>n-k,0,(cvE rfl rfl),⟨Nat.zero_le _,f,fX,f0,hbX⟩,?_⟩;clear f fX f0 hbX;clear X;rintro k X ⟨hk,f,fX,f0,hbX⟩;dsimp only at f ⊢;refine biE (fun hc=>?_) fun hc=>?_
  ·have hc:(k:Int)<(n:Int):=dT hc;have hkn:k<n:=by omega
   obtain⟨bq,oq,hqe,hbq,hat⟩:=zdZ (hv.below hbX).ev (by omega:0<x.ev.length);subst hqe;refine biE (fun h1=>?_) fun h1=>?_
   ·have h1:=notB ((zkk (a:=md.toNat) (b:=3)).symm.trans h1);refine brT ?_;refine brT ?_;refine brT ?_;have hf:fenQ x md k=false:=(by simp [fenQ,h1]);have hs:(zaX n fun a b=>anyQ (k+1) ((fenF x md) a b)).to=(zaX n fun a b=>anyQ k ((fenF x md) a b)).to:=zfU fun a b=>by unfold fenF;rw [hf];rfl
    refine nxI (by omega) ?_;exact⟨k+1,(cvE rfl rfl),⟨hkn,by rw [hs];exact f,fX,f0,hbX⟩,zdc (by omega)⟩
   ·have h1:=notF ((zkk (a:=md.toNat) (b:=3)).symm.trans h1);refine biE (fun h2=>?_) fun h2=>?_
    ·have h2:=notB ((zkk (a:=5) (b:=md.toNat)).symm.trans h2);refine brT ?_;refine brT ?_;have hf:fenQ x md k=false:=(by simp [fenQ,h1,h2]);have hs:(zaX n fun a b=>anyQ (k+1) ((fenF x md) a b)).to=(zaX n fun a b=>anyQ k ((fenF x md) a b)).to:=zfU fun a b=>by unfold fenF;rw [hf];rfl
     refine nxI (by omega) ?_;exact⟨k+1,(cvE rfl rfl),⟨hkn,by rw [hs];exact f,fX,f0,hbX⟩,zdc (by omega)⟩
    ·have h2:=notF ((zkk (a:=5) (b:=md.toNat)).symm.trans h2);refine⟨_,zax (zab fX),?_⟩;refine⟨k,rfl,by omega,?_⟩;refine⟨_,zcY (hat k (by omega)),?_⟩;refine biE (fun h3=>?_) fun h3=>?_
     ·have h3:=zds.symm.trans (notB h3);refine brT ?_;have hf:fenQ x md k=false:=(by simp [fenQ,h1,h2,h3]);have hs:(zaX n fun a b=>anyQ (k+1) ((fenF x md) a b)).to=(zaX n fun a b=>anyQ k ((fenF x md) a b)).to:=zfU fun a b=>by unfold fenF;rw [hf];rfl
      refine nxI (by omega) ?_;exact⟨k+1,(cvE rfl rfl),⟨hkn,by rw [hs];exact f,fX,f0,hbX⟩,zdc (by omega)⟩
     ·have h3:=zds.symm.trans (notF h3);refine⟨_,zax (zab fX),?_⟩;refine⟨k,rfl,by omega,?_⟩;refine⟨_,zr4 (hat k (by omega)),?_⟩;refine biE (fun h4=>?_) fun h4=>?_
      ·have h4:=zbc.symm.trans (notB h4);have hf:fenQ x md k=false:=(by simp [fenQ,h1,h2,h3,h4]);have hs:(zaX n fun a b=>anyQ (k+1) ((fenF x md) a b)).to=(zaX n fun a b=>anyQ k ((fenF x md) a b)).to:=zfU fun a b=>by unfold fenF;rw [hf];rfl
       refine nxI (by omega) ?_;exact⟨k+1,(cvE rfl rfl),⟨hkn,by rw [hs];exact f,fX,f0,hbX⟩,zdc (by omega)⟩
      ·have h4:=zbc.symm.trans (notF h4);have hf:fenQ x md k=true:=(by simp [fenQ,h1,h2,h3,h4]);clear hbq hat h1 h2 h3 h4;obtain⟨base,hbase⟩:=nm ((zaX n fun a b=>anyQ k ((fenF x md) a b)).to);have hbw:WrdR base:=(by rw [hbase];exact bits k);obtain⟨p,hp⟩:∃ p:Nat->Nat->Bool,p=fun a b=>(fenF x md) a b k:=⟨_,rfl⟩;have step:(zaX n fun a b=>anyQ (k+1) ((fenF x md) a b)).to=zbj base n p n 0:=(by rw [hp,hbase];exact zih.symm);rw [<- hbase] at f;refine⟨Nat,fun a=>⟨[(1,u8 md),(2,At0 L),(4,At0 (L+1)),(5,i64 n),(6,At0 R),(7,i64 (k:Nat)),(8,i64 (a:Nat))],[]⟩,fun a Z=>a<=n/\RelH Z R ⟨n,zbj base n p a 0⟩/\ExH Z L x (some ⟨bq,oq,none⟩) c/\RelH Z (L+1) zai/\Bw w Z,fun a=>n-a,0,(cvE rfl rfl),⟨Nat.zero_le _,by rw [zdk];exact f,fX,f0,hbX⟩,?_⟩;clear f fX f0 hbX;clear X;rintro a X ⟨ha,f,fX,f0,hbX⟩;dsimp only at f ⊢;refine biE (fun hc=>?_) fun hc=>?_
       ·have hc:(a:Int)<(n:Int):=dT hc;have han:a<n:=(by omega);refine⟨Nat,fun d=>⟨[(1,u8 md),(2,At0 L),(4,At0 (L+1)),(5,i64 n),(6,At0 R),(7,i64 (k:Nat)),(8,i64 (a:Nat)),(9,i64 (d:Nat))],[]⟩,fun d Z=>d<=n/\RelH Z R ⟨n,zbj base n p a d⟩/\ExH Z L x (some ⟨bq,oq,none⟩) c/\RelH Z (L+1) zai/\Bw w Z,fun d=>n-d,0,(cvE rfl rfl),⟨Nat.zero_le _,f,fX,f0,hbX⟩,?_⟩;clear f fX f0 hbX;clear X;rintro d X ⟨hd,f,fX,f0,hbX⟩;dsimp only at f ⊢;refine biE (fun hc=>?_) fun hc=>?_
        ·have hc:(d:Int)<(n:Int):=dT hc;have hdn:d<n:=(by omega);refine⟨_,zad _,r_po fX,hlt fX,?_⟩;refine cmo (za0 hv.po (by omega) (by omega)) ?_;rintro e U ⟨rfl,hbU⟩;have f:=zaa hbU f;have fX:=zaa hbU fX;have f0:=zaa hbU f0;replace hbX:=zst hbX hbU;refine biE (fun h1=>?_) fun h1=>?_
         ·refine⟨_,zad _,r_po fX,hlt fX,?_⟩;refine cmo (za0 hv.po (by omega) (by omega)) ?_;rintro e U ⟨rfl,hbU⟩;have f:=zaa hbU f;have fX:=zaa hbU fX;have f0:=zaa hbU f0;replace hbX:=zst hbX hbU;refine biE (fun h2=>?_) fun h2=>?_
          ·have hpt:p a d=true:=(by rw [hp];simp [h1,h2,hf,fenF]);refine⟨_,zad ⟨n,zbj base n p a d⟩,zab f,hlt f,?_⟩;refine cmo (zeE (a:=a) (d:=d) (zdT hbw (by omega) (by omega)) (by omega) (by omega)) ?_;rintro e U ⟨rfl,hbU⟩;rw [putB hpt];refine zcn (zaa hbU f) (by omega) ((zst hbX hbU)) fun Z fZ oZ bZ=>?_;refine nxI (by omega) ?_;exact⟨d+1,(cvE rfl rfl),⟨hdn,fZ,(oZ L (by omega)).trans (zaa hbU fX),(oZ (L+1) (by omega)).trans (zaa hbU f0),bZ⟩,zdc (by omega)⟩
          ·have hpf:p a d=false:=(by rw [hp];simp [h1,h2,hf,fenF]);refine nxI (by omega) ?_;exact⟨d+1,(cvE rfl rfl),⟨hdn,by rw [<- za2 hpf];exact f,fX,f0,hbX⟩,zdc (by omega)⟩
         ·refine brF ?_;have hpf:p a d=false:=(by rw [hp];simp [h1,hf,fenF]);refine nxI (by omega) ?_;exact⟨d+1,(cvE rfl rfl),⟨hdn,by rw [<- za2 hpf];exact f,fX,f0,hbX⟩,zdc (by omega)⟩
        ·have hc:¬ (d:Int)<(n:Int):=dF hc;obtain rfl:d=n:=(by omega);refine nxI (by omega) ?_;exact⟨a+1,(cvE rfl rfl),⟨han,by rw [<- zdl];exact f,fX,f0,hbX⟩,zdc (by omega)⟩
       ·have hc:¬ (a:Int)<(n:Int):=dF hc;obtain rfl:a=n:=(by omega);refine nxI (by omega) ?_;exact⟨k+1,(cvE rfl rfl),⟨hkn,by rw [step];exact f,fX,f0,hbX⟩,zdc (by omega)⟩
  ·have hc:¬ (k:Int)<(n:Int):=dF hc;obtain rfl:k=n:=by omega
   have er:(⟨k,(zaX k fun a b=>anyQ k ((fenF x md) a b)).to⟩:RelD)=zaN x md:=by rw [hnn];rfl
   rw [er] at f;exact⟨(),(cvE rfl rfl),f,f0,hbX⟩
 clear f fX f0 hbX;clear X;rintro _ X ⟨f,f0,hbX⟩;refine⟨relC (zaN x md),zad _,zab f,hlt f,?_⟩;exact zbt f0 (by omega) hbX fun Z fZ bZ=>⟨relC (zaN x md),zad _,zab fZ,rfl,bZ⟩
end
theorem zmL {m:UInt8} {x:ExD} {a d:Nat} {f l s:Bool} (h:∀ k,2<=k->k<=6->m.toNat≠k):zat m.toNat x a d f l s=false:=by
 obtain⟨n,hn⟩:=nm (m.toNat);rw [<- hn] at h ⊢
 match n,h with
 | 0,_=>rfl
 | 1,_=>rfl
 | 2,h=>exact absurd rfl (h 2 (by decide) (by decide))
 | 3,h=>exact absurd rfl (h 3 (by decide) (by decide))
 | 4,h=>exact absurd rfl (h 4 (by decide) (by decide))
 | 5,h=>exact absurd rfl (h 5 (by decide) (by decide))
 | 6,h=>exact absurd rfl (h 6 (by decide) (by decide))
 | n+7,_=>rfl
abbrev zEv:Obj := .cells (evE.enc ev0).toArray 54
abbrev EvB (X:World) (b:Nat) (e:Ev):Prop:=X.heap[b]?=some (.cells (evE.enc e).toArray 54 (0,0))
theorem zaQ {X W:World} {P Q:Nat} {e e0 e1:Ev} (hb:Bw X W) (fP:EvB W P e0) (fQ:EvB W Q e1) (hPQ:P≠Q) (hP:X.heap.size<=P) {K:World->Prop} (k:∀ Y,EvB Y P e->EvB Y Q e1->Bw X Y->K Y) :
  SatR ((storeVar 54 ⟨P,0,none⟩ (.agg (evE.enc e).toArray)).run Tryz.prog W) fun _ w'=>K w' :=
 zar (v := .agg (evE.enc e).toArray) k54 fP rfl rfl (List.all_eq_true.2 fun u hu=>evE.one e u hu) (k _ (zal fP) ((zam (fun h=>hPQ h.symm)).trans fQ) (zah hb hP _))
section
variable {w:World} {c:Nat} {x:ExD} {q:Option Addr}
theorem zks {a:Nat} (hv:ExV w x q) (ha:a<x.ev.length):CB 107 #[.agg (exC x q c).toArray,i64 (a:Nat)] w (.bool (zfC x a)):=by
 refine cofM 21 [.agg (exC x q c).toArray,i64 (a:Nat)] (.c .p .p) Tryz.func107 ?_;obtain⟨L,hL⟩:=nm (w.heap.size);refine⟨Unit,fun _=>⟨[(1,i64 (a:Nat)),(2,At0 L)],[]⟩,fun _ X=>ExH X L x q c/\Bw w X,⟨(),⟨.cons (rfl) (.cons (by rw [hL];rfl) (.nil)),rfl⟩,by rw [hL];exact hnew w _,(zba w _)⟩,?_⟩;rintro _ X ⟨fX,hbX⟩;obtain⟨bq,oq,hqe,hbq,hat⟩:=zdZ (hv.below hbX).ev (by omega:0<x.ev.length);subst hqe;refine⟨_,zax (zab fX),?_⟩;refine⟨a,rfl,by omega,?_⟩;refine⟨_,zcY (hat a (by omega)),?_⟩;refine biE (fun h1=>?_) fun h1=>?_
 ·have h1:=zds.symm.trans (notB h1);refine⟨_,zax (zab fX),?_⟩;refine⟨a,rfl,by omega,?_⟩;refine⟨_,zr4 (hat a (by omega)),?_⟩;exact⟨rb (((zds)).trans (by simp [zfC,kneQ,h1])),hbX⟩
 ·have h1:=zds.symm.trans (notF h1);exact⟨rb (by simp [zfC,kneQ,h1]),hbX⟩
theorem zmM {m:UInt8} {a d:Nat} {full loads stores:Bool} (hv:ExV w x q) (ha:a<x.ev.length) (hd:d<x.ev.length):CB 72 #[u8 m,.agg (exC x q c).toArray,i64 (a:Nat),i64 (d:Nat),.bool full,.bool loads,.bool stores] w (.bool (zat m.toNat x a d full loads stores)):=by
 refine cofM 187 [u8 m,.agg (exC x q c).toArray,i64 (a:Nat),i64 (d:Nat),.bool full,.bool loads,.bool stores] (.c .p (.c .p (.c .p (.c .p .p)))) Tryz.func72 ?_;obtain⟨L,hL⟩:=nm (w.heap.size);refine⟨Unit,fun _=>⟨[(0,u8 m),(2,i64 (a:Nat)),(3,i64 (d:Nat)),(4,.bool full),(5,.bool loads),(6,.bool stores),(8,At0 L)],[]⟩,fun _ X=>ExH X L x q c/\Bw w X,⟨(),⟨.cons (rfl) (.cons (rfl) (.cons (rfl) (.cons (rfl) (.cons (rfl) (.cons (rfl) (.cons (by rw [hL];rfl) (.nil))))))),rfl⟩,by rw [hL];exact hnew w _,(zba w _)⟩,?_⟩;rintro _ X ⟨fX,hbX⟩;have h16:=hv.n;refine⟨Nat×Nat,fun s=>⟨[(0,u8 m),(2,i64 (a:Nat)),(3,i64 (d:Nat)),(4,.bool full),(5,.bool loads),(6,.bool stores),(8,At0 L),(15,At0 s.1),(16,At0 s.2)],[]⟩,fun s Z=>EvB Z s.1 (evA x a)/\EvB Z s.2 (evA x d)/\Bw X Z,?_,?_⟩
 ·obtain⟨bq,oq,hqe,hbq,hat⟩:=zdZ (hv.below hbX).ev (by omega:0<x.ev.length);subst hqe;have b0:Bw X X.drew:=(Below.refl _ _).drew;have y0:=b0.size;refine DrawE.treeQ [12,13] (.op 0 (.op 1 (.op 2 (.op 3 (.op 4 (.op 5 (.op 7 (.alt (.op 10 (.alt (.op 11 (.alt (.op 12 (.op 6 (.op 8 (.op 9 (.op 13 (.nil)))))) (.op 6 (.op 8 (.alt (.op 12 (.op 9 (.op 13 (.nil)))) (.op 9 (.op 12 (.op 13 (.nil))))))))) (.op 6 (.op 8 (.alt (.op 11 (.alt (.op 12 (.op 9 (.op 13 (.nil)))) (.op 9 (.op 12 (.op 13 (.nil)))))) (.op 9 (.op 11 (.op 12 (.op 13 (.nil)))))))))) (.alt (.op 11 (.alt (.op 10 (.alt (.op 12 (.op 6 (.op 8 (.op 9 (.op 13 (.nil)))))) (.op 6 (.op 8 (.alt (.op 12 (.op 9 (.op 13 (.nil)))) (.op 9 (.op 12 (.op 13 (.nil))))))))) (.op 6 (.op 8 (.alt (.op 10 (.alt (.op 12 (.op 9 (.op 13 (.nil)))) (.op 9 (.op 12 (.op 13 (.nil)))))) (.op 9 (.op 10 (.op 12 (.op 13 (.nil)))))))))) (.op 6 (.op 8 (.alt (.op 10 (.alt (.op 11 (.alt (.op 12 (.op 9 (.op 13 (.nil)))) (.op 9 (.op 12 (.op 13 (.nil)))))) (.op 9 (.op 11 (.op 12 (.op 13 (.nil))))))) (.alt (.op 11 (.alt (.op 10 (.alt (.op 12 (.op 9 (.op 13 (.nil)))) (.op 9 (.op 12 (.op 13 (.nil)))))) (.op 9 (.op 10 (.op 12 (.op 13 (.nil))))))) (.op 9 (.alt (.op 10 (.op 11 (.op 12 (.op 13 (.nil))))) (.op 11 (.op 10 (.op 12 (.op 13 (.nil)))))))))))))))))))) (by kernel_rfl) ?_;refine⟨_,zax (zab (zaa b0 fX)),?_⟩;refine⟨a,rfl,ha,?_⟩;refine⟨evE.enc (evA x a),rfl,zae b0 (hat a ha),nL hbq b0.size,?_⟩;refine And.intro ?_ (And.intro ?_ ?_)
  ·refine⟨(zba _ _),?_⟩;have b1:=b0.alloc b0.size zEv;have z1:=wz X.drew zEv;refine And.intro ?_ ?_
   ·refine⟨(zba _ _),?_⟩;have b2:=b1.alloc b1.size zEv;have z2:=wz (X.drew.alloc zEv) zEv;refine And.intro ?_ ?_
    ·have y3:=b2.size;refine zaQ (P:=X.drew.heap.size) (Q:=(X.drew.alloc zEv).heap.size) (e:=evA x a) b2 (hold zEv (hnew X.drew zEv)) (hnew (X.drew.alloc zEv) zEv) (by omega) (by omega) fun V3 p3 q3 b3=>?_;refine⟨_,zax (zab (zaa b3 fX)),?_⟩;refine⟨d,rfl,hd,?_⟩;refine⟨evE.enc (evA x d),rfl,zae b3 (hat d hd),nL hbq b3.size,?_⟩;have y6:=b3.size;refine zaQ (P:=(X.drew.alloc zEv).heap.size) (Q:=X.drew.heap.size) (e:=evA x d) b3 (q3) (p3) (by omega) (by omega) fun V6 p6 q6 b6=>?_;exact⟨(X.drew.heap.size,(X.drew.alloc zEv).heap.size),⟨.cons rfl (.cons rfl (.cons rfl (.cons rfl (.cons rfl (.cons rfl (.cons rfl (.cons rfl (.cons rfl (.nil))))))))),rfl⟩,q6,p6,b6⟩
    ·refine⟨_,zax (zab (zaa b2 fX)),?_⟩;refine⟨d,rfl,hd,?_⟩;refine And.intro ?_ ?_
     ·have y8:=b2.size;refine zaQ (P:=X.drew.heap.size) (Q:=(X.drew.alloc zEv).heap.size) (e:=evA x a) b2 (hold zEv (hnew X.drew zEv)) (hnew (X.drew.alloc zEv) zEv) (by omega) (by omega) fun V8 p8 q8 b8=>?_;refine⟨evE.enc (evA x d),rfl,zae b8 (hat d hd),nL hbq b8.size,?_⟩;have y10:=b8.size;refine zaQ (P:=(X.drew.alloc zEv).heap.size) (Q:=X.drew.heap.size) (e:=evA x d) b8 (q8) (p8) (by omega) (by omega) fun V10 p10 q10 b10=>?_;exact⟨(X.drew.heap.size,(X.drew.alloc zEv).heap.size),⟨.cons rfl (.cons rfl (.cons rfl (.cons rfl (.cons rfl (.cons rfl (.cons rfl (.cons rfl (.cons rfl (.nil))))))))),rfl⟩,q10,p10,b10⟩
     ·refine⟨evE.enc (evA x d),rfl,zae b2 (hat d hd),nL hbq b2.size,?_⟩;have y12:=b2.size;refine zaQ (P:=X.drew.heap.size) (Q:=(X.drew.alloc zEv).heap.size) (e:=evA x a) b2 (hold zEv (hnew X.drew zEv)) (hnew (X.drew.alloc zEv) zEv) (by omega) (by omega) fun V12 p12 q12 b12=>?_;have y13:=b12.size;refine zaQ (P:=(X.drew.alloc zEv).heap.size) (Q:=X.drew.heap.size) (e:=evA x d) b12 (q12) (p12) (by omega) (by omega) fun V13 p13 q13 b13=>?_;exact⟨(X.drew.heap.size,(X.drew.alloc zEv).heap.size),⟨.cons rfl (.cons rfl (.cons rfl (.cons rfl (.cons rfl (.cons rfl (.cons rfl (.cons rfl (.cons rfl (.nil))))))))),rfl⟩,q13,p13,b13⟩
   ·refine⟨_,zax (zab (zaa b1 fX)),?_⟩;refine⟨d,rfl,hd,?_⟩;refine And.intro ?_ ?_
    ·refine⟨(zba _ _),?_⟩;have b15:=b1.alloc b1.size zEv;have z15:=wz (X.drew.alloc zEv) zEv;refine And.intro ?_ ?_
     ·have y16:=b15.size;refine zaQ (P:=X.drew.heap.size) (Q:=(X.drew.alloc zEv).heap.size) (e:=evA x a) b15 (hold zEv (hnew X.drew zEv)) (hnew (X.drew.alloc zEv) zEv) (by omega) (by omega) fun V16 p16 q16 b16=>?_;refine⟨evE.enc (evA x d),rfl,zae b16 (hat d hd),nL hbq b16.size,?_⟩;have y18:=b16.size;refine zaQ (P:=(X.drew.alloc zEv).heap.size) (Q:=X.drew.heap.size) (e:=evA x d) b16 (q16) (p16) (by omega) (by omega) fun V18 p18 q18 b18=>?_;exact⟨(X.drew.heap.size,(X.drew.alloc zEv).heap.size),⟨.cons rfl (.cons rfl (.cons rfl (.cons rfl (.cons rfl (.cons rfl (.cons rfl (.cons rfl (.cons rfl (.nil))))))))),rfl⟩,q18,p18,b18⟩
     ·refine⟨evE.enc (evA x d),rfl,zae b15 (hat d hd),nL hbq b15.size,?_⟩;have y20:=b15.size;refine zaQ (P:=X.drew.heap.size) (Q:=(X.drew.alloc zEv).heap.size) (e:=evA x a) b15 (hold zEv (hnew X.drew zEv)) (hnew (X.drew.alloc zEv) zEv) (by omega) (by omega) fun V20 p20 q20 b20=>?_;have y21:=b20.size;refine zaQ (P:=(X.drew.alloc zEv).heap.size) (Q:=X.drew.heap.size) (e:=evA x d) b20 (q20) (p20) (by omega) (by omega) fun V21 p21 q21 b21=>?_;exact⟨(X.drew.heap.size,(X.drew.alloc zEv).heap.size),⟨.cons rfl (.cons rfl (.cons rfl (.cons rfl (.cons rfl (.cons rfl (.cons rfl (.cons rfl (.cons rfl (.nil))))))))),rfl⟩,q21,p21,b21⟩
    ·refine⟨evE.enc (evA x d),rfl,zae b1 (hat d hd),nL hbq b1.size,?_⟩;refine⟨(zba _ _),?_⟩;have b23:=b1.alloc b1.size zEv;have z23:=wz (X.drew.alloc zEv) zEv;have y24:=b23.size;refine zaQ (P:=X.drew.heap.size) (Q:=(X.drew.alloc zEv).heap.size) (e:=evA x a) b23 (hold zEv (hnew X.drew zEv)) (hnew (X.drew.alloc zEv) zEv) (by omega) (by omega) fun V24 p24 q24 b24=>?_;have y25:=b24.size;refine zaQ (P:=(X.drew.alloc zEv).heap.size) (Q:=X.drew.heap.size) (e:=evA x d) b24 (q24) (p24) (by omega) (by omega) fun V25 p25 q25 b25=>?_;exact⟨(X.drew.heap.size,(X.drew.alloc zEv).heap.size),⟨.cons rfl (.cons rfl (.cons rfl (.cons rfl (.cons rfl (.cons rfl (.cons rfl (.cons rfl (.cons rfl (.nil))))))))),rfl⟩,q25,p25,b25⟩
  ·refine⟨(zba _ _),?_⟩;have b26:=b0.alloc b0.size zEv;have z26:=wz X.drew zEv;refine And.intro ?_ ?_
   ·refine⟨(zba _ _),?_⟩;have b27:=b26.alloc b26.size zEv;have z27:=wz (X.drew.alloc zEv) zEv;refine And.intro ?_ ?_
    ·have y28:=b27.size;refine zaQ (P:=(X.drew.alloc zEv).heap.size) (Q:=X.drew.heap.size) (e:=evA x a) b27 (hnew (X.drew.alloc zEv) zEv) (hold zEv (hnew X.drew zEv)) (by omega) (by omega) fun V28 p28 q28 b28=>?_;refine⟨_,zax (zab (zaa b28 fX)),?_⟩;refine⟨d,rfl,hd,?_⟩;refine⟨evE.enc (evA x d),rfl,zae b28 (hat d hd),nL hbq b28.size,?_⟩;have y31:=b28.size;refine zaQ (P:=X.drew.heap.size) (Q:=(X.drew.alloc zEv).heap.size) (e:=evA x d) b28 (q28) (p28) (by omega) (by omega) fun V31 p31 q31 b31=>?_;exact⟨((X.drew.alloc zEv).heap.size,X.drew.heap.size),⟨.cons rfl (.cons rfl (.cons rfl (.cons rfl (.cons rfl (.cons rfl (.cons rfl (.cons rfl (.cons rfl (.nil))))))))),rfl⟩,q31,p31,b31⟩
    ·refine⟨_,zax (zab (zaa b27 fX)),?_⟩;refine⟨d,rfl,hd,?_⟩;refine And.intro ?_ ?_
     ·have y33:=b27.size;refine zaQ (P:=(X.drew.alloc zEv).heap.size) (Q:=X.drew.heap.size) (e:=evA x a) b27 (hnew (X.drew.alloc zEv) zEv) (hold zEv (hnew X.drew zEv)) (by omega) (by omega) fun V33 p33 q33 b33=>?_;refine⟨evE.enc (evA x d),rfl,zae b33 (hat d hd),nL hbq b33.size,?_⟩;have y35:=b33.size;refine zaQ (P:=X.drew.heap.size) (Q:=(X.drew.alloc zEv).heap.size) (e:=evA x d) b33 (q33) (p33) (by omega) (by omega) fun V35 p35 q35 b35=>?_;exact⟨((X.drew.alloc zEv).heap.size,X.drew.heap.size),⟨.cons rfl (.cons rfl (.cons rfl (.cons rfl (.cons rfl (.cons rfl (.cons rfl (.cons rfl (.cons rfl (.nil))))))))),rfl⟩,q35,p35,b35⟩
     ·refine⟨evE.enc (evA x d),rfl,zae b27 (hat d hd),nL hbq b27.size,?_⟩;have y37:=b27.size;refine zaQ (P:=(X.drew.alloc zEv).heap.size) (Q:=X.drew.heap.size) (e:=evA x a) b27 (hnew (X.drew.alloc zEv) zEv) (hold zEv (hnew X.drew zEv)) (by omega) (by omega) fun V37 p37 q37 b37=>?_;have y38:=b37.size;refine zaQ (P:=X.drew.heap.size) (Q:=(X.drew.alloc zEv).heap.size) (e:=evA x d) b37 (q37) (p37) (by omega) (by omega) fun V38 p38 q38 b38=>?_;exact⟨((X.drew.alloc zEv).heap.size,X.drew.heap.size),⟨.cons rfl (.cons rfl (.cons rfl (.cons rfl (.cons rfl (.cons rfl (.cons rfl (.cons rfl (.cons rfl (.nil))))))))),rfl⟩,q38,p38,b38⟩
   ·refine⟨_,zax (zab (zaa b26 fX)),?_⟩;refine⟨d,rfl,hd,?_⟩;refine And.intro ?_ ?_
    ·refine⟨(zba _ _),?_⟩;have b40:=b26.alloc b26.size zEv;have z40:=wz (X.drew.alloc zEv) zEv;refine And.intro ?_ ?_
     ·have y41:=b40.size;refine zaQ (P:=(X.drew.alloc zEv).heap.size) (Q:=X.drew.heap.size) (e:=evA x a) b40 (hnew (X.drew.alloc zEv) zEv) (hold zEv (hnew X.drew zEv)) (by omega) (by omega) fun V41 p41 q41 b41=>?_;refine⟨evE.enc (evA x d),rfl,zae b41 (hat d hd),nL hbq b41.size,?_⟩;have y43:=b41.size;refine zaQ (P:=X.drew.heap.size) (Q:=(X.drew.alloc zEv).heap.size) (e:=evA x d) b41 (q41) (p41) (by omega) (by omega) fun V43 p43 q43 b43=>?_;exact⟨((X.drew.alloc zEv).heap.size,X.drew.heap.size),⟨.cons rfl (.cons rfl (.cons rfl (.cons rfl (.cons rfl (.cons rfl (.cons rfl (.cons rfl (.cons rfl (.nil))))))))),rfl⟩,q43,p43,b43⟩
     ·refine⟨evE.enc (evA x d),rfl,zae b40 (hat d hd),nL hbq b40.size,?_⟩;have y45:=b40.size;refine zaQ (P:=(X.drew.alloc zEv).heap.size) (Q:=X.drew.heap.size) (e:=evA x a) b40 (hnew (X.drew.alloc zEv) zEv) (hold zEv (hnew X.drew zEv)) (by omega) (by omega) fun V45 p45 q45 b45=>?_;have y46:=b45.size;refine zaQ (P:=X.drew.heap.size) (Q:=(X.drew.alloc zEv).heap.size) (e:=evA x d) b45 (q45) (p45) (by omega) (by omega) fun V46 p46 q46 b46=>?_;exact⟨((X.drew.alloc zEv).heap.size,X.drew.heap.size),⟨.cons rfl (.cons rfl (.cons rfl (.cons rfl (.cons rfl (.cons rfl (.cons rfl (.cons rfl (.cons rfl (.nil))))))))),rfl⟩,q46,p46,b46⟩
    ·refine⟨evE.enc (evA x d),rfl,zae b26 (hat d hd),nL hbq b26.size,?_⟩;refine⟨(zba _ _),?_⟩;have b48:=b26.alloc b26.size zEv;have z48:=wz (X.drew.alloc zEv) zEv;have y49:=b48.size;refine zaQ (P:=(X.drew.alloc zEv).heap.size) (Q:=X.drew.heap.size) (e:=evA x a) b48 (hnew (X.drew.alloc zEv) zEv) (hold zEv (hnew X.drew zEv)) (by omega) (by omega) fun V49 p49 q49 b49=>?_;have y50:=b49.size;refine zaQ (P:=X.drew.heap.size) (Q:=(X.drew.alloc zEv).heap.size) (e:=evA x d) b49 (q49) (p49) (by omega) (by omega) fun V50 p50 q50 b50=>?_;exact⟨((X.drew.alloc zEv).heap.size,X.drew.heap.size),⟨.cons rfl (.cons rfl (.cons rfl (.cons rfl (.cons rfl (.cons rfl (.cons rfl (.cons rfl (.cons rfl (.nil))))))))),rfl⟩,q50,p50,b50⟩
  ·refine⟨_,zax (zab (zaa b0 fX)),?_⟩;refine⟨d,rfl,hd,?_⟩;refine And.intro ?_ (And.intro ?_ ?_)
   ·refine⟨(zba _ _),?_⟩;have b52:=b0.alloc b0.size zEv;have z52:=wz X.drew zEv;refine And.intro ?_ ?_
    ·refine⟨(zba _ _),?_⟩;have b53:=b52.alloc b52.size zEv;have z53:=wz (X.drew.alloc zEv) zEv;refine And.intro ?_ ?_
     ·have y54:=b53.size;refine zaQ (P:=X.drew.heap.size) (Q:=(X.drew.alloc zEv).heap.size) (e:=evA x a) b53 (hold zEv (hnew X.drew zEv)) (hnew (X.drew.alloc zEv) zEv) (by omega) (by omega) fun V54 p54 q54 b54=>?_;refine⟨evE.enc (evA x d),rfl,zae b54 (hat d hd),nL hbq b54.size,?_⟩;have y56:=b54.size;refine zaQ (P:=(X.drew.alloc zEv).heap.size) (Q:=X.drew.heap.size) (e:=evA x d) b54 (q54) (p54) (by omega) (by omega) fun V56 p56 q56 b56=>?_;exact⟨(X.drew.heap.size,(X.drew.alloc zEv).heap.size),⟨.cons rfl (.cons rfl (.cons rfl (.cons rfl (.cons rfl (.cons rfl (.cons rfl (.cons rfl (.cons rfl (.nil))))))))),rfl⟩,q56,p56,b56⟩
     ·refine⟨evE.enc (evA x d),rfl,zae b53 (hat d hd),nL hbq b53.size,?_⟩;have y58:=b53.size;refine zaQ (P:=X.drew.heap.size) (Q:=(X.drew.alloc zEv).heap.size) (e:=evA x a) b53 (hold zEv (hnew X.drew zEv)) (hnew (X.drew.alloc zEv) zEv) (by omega) (by omega) fun V58 p58 q58 b58=>?_;have y59:=b58.size;refine zaQ (P:=(X.drew.alloc zEv).heap.size) (Q:=X.drew.heap.size) (e:=evA x d) b58 (q58) (p58) (by omega) (by omega) fun V59 p59 q59 b59=>?_;exact⟨(X.drew.heap.size,(X.drew.alloc zEv).heap.size),⟨.cons rfl (.cons rfl (.cons rfl (.cons rfl (.cons rfl (.cons rfl (.cons rfl (.cons rfl (.cons rfl (.nil))))))))),rfl⟩,q59,p59,b59⟩
    ·refine⟨evE.enc (evA x d),rfl,zae b52 (hat d hd),nL hbq b52.size,?_⟩;refine⟨(zba _ _),?_⟩;have b61:=b52.alloc b52.size zEv;have z61:=wz (X.drew.alloc zEv) zEv;have y62:=b61.size;refine zaQ (P:=X.drew.heap.size) (Q:=(X.drew.alloc zEv).heap.size) (e:=evA x a) b61 (hold zEv (hnew X.drew zEv)) (hnew (X.drew.alloc zEv) zEv) (by omega) (by omega) fun V62 p62 q62 b62=>?_;have y63:=b62.size;refine zaQ (P:=(X.drew.alloc zEv).heap.size) (Q:=X.drew.heap.size) (e:=evA x d) b62 (q62) (p62) (by omega) (by omega) fun V63 p63 q63 b63=>?_;exact⟨(X.drew.heap.size,(X.drew.alloc zEv).heap.size),⟨.cons rfl (.cons rfl (.cons rfl (.cons rfl (.cons rfl (.cons rfl (.cons rfl (.cons rfl (.cons rfl (.nil))))))))),rfl⟩,q63,p63,b63⟩
   ·refine⟨(zba _ _),?_⟩;have b64:=b0.alloc b0.size zEv;have z64:=wz X.drew zEv;refine And.intro ?_ ?_
    ·refine⟨(zba _ _),?_⟩;have b65:=b64.alloc b64.size zEv;have z65:=wz (X.drew.alloc zEv) zEv;refine And.intro ?_ ?_
     ·have y66:=b65.size;refine zaQ (P:=(X.drew.alloc zEv).heap.size) (Q:=X.drew.heap.size) (e:=evA x a) b65 (hnew (X.drew.alloc zEv) zEv) (hold zEv (hnew X.drew zEv)) (by omega) (by omega) fun V66 p66 q66 b66=>?_;refine⟨evE.enc (evA x d),rfl,zae b66 (hat d hd),nL hbq b66.size,?_⟩;have y68:=b66.size;refine zaQ (P:=X.drew.heap.size) (Q:=(X.drew.alloc zEv).heap.size) (e:=evA x d) b66 (q66) (p66) (by omega) (by omega) fun V68 p68 q68 b68=>?_;exact⟨((X.drew.alloc zEv).heap.size,X.drew.heap.size),⟨.cons rfl (.cons rfl (.cons rfl (.cons rfl (.cons rfl (.cons rfl (.cons rfl (.cons rfl (.cons rfl (.nil))))))))),rfl⟩,q68,p68,b68⟩
     ·refine⟨evE.enc (evA x d),rfl,zae b65 (hat d hd),nL hbq b65.size,?_⟩;have y70:=b65.size;refine zaQ (P:=(X.drew.alloc zEv).heap.size) (Q:=X.drew.heap.size) (e:=evA x a) b65 (hnew (X.drew.alloc zEv) zEv) (hold zEv (hnew X.drew zEv)) (by omega) (by omega) fun V70 p70 q70 b70=>?_;have y71:=b70.size;refine zaQ (P:=X.drew.heap.size) (Q:=(X.drew.alloc zEv).heap.size) (e:=evA x d) b70 (q70) (p70) (by omega) (by omega) fun V71 p71 q71 b71=>?_;exact⟨((X.drew.alloc zEv).heap.size,X.drew.heap.size),⟨.cons rfl (.cons rfl (.cons rfl (.cons rfl (.cons rfl (.cons rfl (.cons rfl (.cons rfl (.cons rfl (.nil))))))))),rfl⟩,q71,p71,b71⟩
    ·refine⟨evE.enc (evA x d),rfl,zae b64 (hat d hd),nL hbq b64.size,?_⟩;refine⟨(zba _ _),?_⟩;have b73:=b64.alloc b64.size zEv;have z73:=wz (X.drew.alloc zEv) zEv;have y74:=b73.size;refine zaQ (P:=(X.drew.alloc zEv).heap.size) (Q:=X.drew.heap.size) (e:=evA x a) b73 (hnew (X.drew.alloc zEv) zEv) (hold zEv (hnew X.drew zEv)) (by omega) (by omega) fun V74 p74 q74 b74=>?_;have y75:=b74.size;refine zaQ (P:=X.drew.heap.size) (Q:=(X.drew.alloc zEv).heap.size) (e:=evA x d) b74 (q74) (p74) (by omega) (by omega) fun V75 p75 q75 b75=>?_;exact⟨((X.drew.alloc zEv).heap.size,X.drew.heap.size),⟨.cons rfl (.cons rfl (.cons rfl (.cons rfl (.cons rfl (.cons rfl (.cons rfl (.cons rfl (.cons rfl (.nil))))))))),rfl⟩,q75,p75,b75⟩
   ·refine⟨evE.enc (evA x d),rfl,zae b0 (hat d hd),nL hbq b0.size,?_⟩;refine And.intro ?_ ?_
    ·refine⟨(zba _ _),?_⟩;have b77:=b0.alloc b0.size zEv;have z77:=wz X.drew zEv;refine⟨(zba _ _),?_⟩;have b78:=b77.alloc b77.size zEv;have z78:=wz (X.drew.alloc zEv) zEv;have y79:=b78.size;refine zaQ (P:=X.drew.heap.size) (Q:=(X.drew.alloc zEv).heap.size) (e:=evA x a) b78 (hold zEv (hnew X.drew zEv)) (hnew (X.drew.alloc zEv) zEv) (by omega) (by omega) fun V79 p79 q79 b79=>?_;have y80:=b79.size;refine zaQ (P:=(X.drew.alloc zEv).heap.size) (Q:=X.drew.heap.size) (e:=evA x d) b79 (q79) (p79) (by omega) (by omega) fun V80 p80 q80 b80=>?_;exact⟨(X.drew.heap.size,(X.drew.alloc zEv).heap.size),⟨.cons rfl (.cons rfl (.cons rfl (.cons rfl (.cons rfl (.cons rfl (.cons rfl (.cons rfl (.cons rfl (.nil))))))))),rfl⟩,q80,p80,b80⟩
    ·refine⟨(zba _ _),?_⟩;have b81:=b0.alloc b0.size zEv;have z81:=wz X.drew zEv;refine⟨(zba _ _),?_⟩;have b82:=b81.alloc b81.size zEv;have z82:=wz (X.drew.alloc zEv) zEv;have y83:=b82.size;refine zaQ (P:=(X.drew.alloc zEv).heap.size) (Q:=X.drew.heap.size) (e:=evA x a) b82 (hnew (X.drew.alloc zEv) zEv) (hold zEv (hnew X.drew zEv)) (by omega) (by omega) fun V83 p83 q83 b83=>?_;have y84:=b83.size;refine zaQ (P:=X.drew.heap.size) (Q:=(X.drew.alloc zEv).heap.size) (e:=evA x d) b83 (q83) (p83) (by omega) (by omega) fun V84 p84 q84 b84=>?_;exact⟨((X.drew.alloc zEv).heap.size,X.drew.heap.size),⟨.cons rfl (.cons rfl (.cons rfl (.cons rfl (.cons rfl (.cons rfl (.cons rfl (.cons rfl (.cons rfl (.nil))))))))),rfl⟩,q84,p84,b84⟩
 rintro⟨P,Q⟩ Y ⟨fE,fF,hbY⟩;dsimp only at fE fF ⊢;replace fX:=zaa hbY fX;replace hbX:=zst hbX hbY;clear hbY;clear X;obtain⟨atomic,hA⟩:∃ v,v=(zfC x a||zfC x d):=⟨_,rfl⟩;refine⟨Unit,fun _=>⟨[(0,u8 m),(2,i64 (a:Nat)),(3,i64 (d:Nat)),(4,.bool full),(5,.bool loads),(6,.bool stores),(8,At0 L),(15,At0 P),(16,At0 Q),(17,.bool atomic)],[]⟩,fun _ Z=>ExH Z L x q c/\EvB Z P (evA x a)/\EvB Z Q (evA x d)/\Bw w Z,?_,?_⟩
 ·refine⟨_,zao _ _ _,zab fX,hlt fX,?_⟩;refine cmo (zks (a:=a) (hv.below hbX) (by omega)) ?_;rintro e U ⟨rfl,hbU⟩;have fX:=zaa hbU fX;have fE:=zaa hbU fE;have fF:=zaa hbU fF;replace hbX:=zst hbX hbU;refine biE (fun h1=>?_) fun h1=>?_
  ·have e5:true=atomic:=by rw [hA];simp [h1]
   exact⟨(),⟨.cons rfl (.cons rfl (.cons rfl (.cons rfl (.cons rfl (.cons rfl (.cons rfl (.cons rfl (.cons rfl (.cons (by rw [<- e5];rfl) .nil))))))))),rfl⟩,fX,fE,fF,hbX⟩
  ·refine⟨_,zao _ _ _,zab fX,hlt fX,?_⟩;refine cmo (zks (a:=d) (hv.below hbX) (by omega)) ?_;rintro e U ⟨rfl,hbU⟩;have fX:=zaa hbU fX;have fE:=zaa hbU fE;have fF:=zaa hbU fF;replace hbX:=zst hbX hbU;have e5:zfC x d=atomic:=by rw [hA];simp [h1]
   exact⟨(),⟨.cons rfl (.cons rfl (.cons rfl (.cons rfl (.cons rfl (.cons rfl (.cons rfl (.cons rfl (.cons rfl (.cons (by rw [<- e5];rfl) .nil))))))))),rfl⟩,fX,fE,fF,hbX⟩
 clear fX fE fF hbX;rintro _ X ⟨fX,fE,fF,hbX⟩;obtain⟨tso,hT⟩:∃ v,v=(!(isW x a&&isR x d)||(full||atomic)):=⟨_,rfl⟩;refine⟨Unit,fun _=>⟨[(0,u8 m),(2,i64 (a:Nat)),(3,i64 (d:Nat)),(4,.bool full),(5,.bool loads),(6,.bool stores),(8,At0 L),(15,At0 P),(16,At0 Q),(17,.bool atomic),(18,.bool tso)],[]⟩,fun _ Z=>ExH Z L x q c/\EvB Z P (evA x a)/\EvB Z Q (evA x d)/\Bw w Z,?_,?_⟩
 ·refine⟨_,zbA fE,?_⟩;refine biE (fun h1=>?_) fun h1=>?_
  ·have h1:=zaO.symm.trans h1;refine⟨_,zbA fF,?_⟩;refine biE (fun h2=>?_) fun h2=>?_
   ·have h2:=zbq.symm.trans (notB h2);refine brT ?_;have e5:true=tso:=(by rw [hT];simp [isW,isR,h1,h2]);exact⟨(),⟨.cons rfl (.cons rfl (.cons rfl (.cons rfl (.cons rfl (.cons rfl (.cons rfl (.cons rfl (.cons rfl (.cons rfl (.cons (by rw [<- e5];rfl) .nil)))))))))),rfl⟩,fX,fE,fF,hbX⟩
   ·have h2:=zbq.symm.trans (notF h2);refine biE (fun h3=>?_) fun h3=>?_
    ·have e5:true=tso:=(by rw [hT];simp [isW,isR,h1,h2,h3]);exact⟨(),⟨.cons rfl (.cons rfl (.cons rfl (.cons rfl (.cons rfl (.cons rfl (.cons rfl (.cons rfl (.cons rfl (.cons rfl (.cons (by rw [<- e5];rfl) .nil)))))))))),rfl⟩,fX,fE,fF,hbX⟩
    ·have e5:atomic=tso:=(by rw [hT];simp [isW,isR,h1,h2,h3]);exact⟨(),⟨.cons rfl (.cons rfl (.cons rfl (.cons rfl (.cons rfl (.cons rfl (.cons rfl (.cons rfl (.cons rfl (.cons rfl (.cons (by rw [<- e5];rfl) .nil)))))))))),rfl⟩,fX,fE,fF,hbX⟩
  ·have h1:=zaO.symm.trans h1;refine brT ?_;refine brT ?_;have e5:true=tso:=by rw [hT];simp [isW,isR,h1]
   exact⟨(),⟨.cons rfl (.cons rfl (.cons rfl (.cons rfl (.cons rfl (.cons rfl (.cons rfl (.cons rfl (.cons rfl (.cons rfl (.cons (by rw [<- e5];rfl) .nil)))))))))),rfl⟩,fX,fE,fF,hbX⟩
 clear fX fE fF hbX;rintro _ X ⟨fX,fE,fF,hbX⟩;refine biE (fun n2=>?_) fun n2=>?_
 ·have n2:decide (m=2)=true:=(zbc (x:=m) (y:=2)).symm.trans n2;obtain rfl:m=2:=dT n2;exact⟨rfl,hbX⟩
 ·have n2:decide (m=2)=false:=(zbc (x:=m) (y:=2)).symm.trans n2;refine biE (fun n3=>?_) fun n3=>?_
  ·have n3:decide (m=3)=true:=(zbc (x:=m) (y:=3)).symm.trans n3;obtain rfl:m=3:=dT n3;exact⟨rb (by show _=zat 3 x a d full loads stores;rw [hT,hA];rfl),hbX⟩
  ·have n3:decide (m=3)=false:=(zbc (x:=m) (y:=3)).symm.trans n3;refine biE (fun n4=>?_) fun n4=>?_
   ·have n4:decide (m=4)=true:=(zbc (x:=m) (y:=4)).symm.trans n4;obtain rfl:m=4:=dT n4;refine⟨_,zbA fE,?_⟩;refine biE (fun h1=>?_) fun h1=>?_
    ·have h1:=zaO.symm.trans h1;refine⟨_,zbA fF,?_⟩;refine biE (fun h2=>?_) fun h2=>?_
     ·have h2:=zaO.symm.trans h2;refine⟨_,zm9 fE,?_⟩;refine⟨_,zm9 fF,?_⟩;refine biE (fun h21=>?_) fun h21=>?_
      ·have h21:=zbc.symm.trans h21;refine brT ?_;refine brT ?_;exact⟨rb (by show _=zat 4 x a d full loads stores;simp [zat,isW,isR,hT,hA,h1,h2,h21]),hbX⟩
      ·have h21:=zbc.symm.trans h21;refine biE (fun h22=>?_) fun h22=>?_
       ·refine brT ?_;exact⟨rb (by show _=zat 4 x a d full loads stores;simp [zat,isW,isR,hT,hA,h1,h2,h21,h22]),hbX⟩
       ·refine biE (fun h23=>?_) fun h23=>?_
        ·exact⟨rb (by show _=zat 4 x a d full loads stores;simp [zat,isW,isR,hT,hA,h1,h2,h21,h22,h23]),hbX⟩
        ·exact⟨rb (by show _=zat 4 x a d full loads stores;simp [zat,isW,isR,hT,hA,h1,h2,h21,h22,h23]),hbX⟩
     ·have h2:=zaO.symm.trans h2;exact⟨rb (by show _=zat 4 x a d full loads stores;simp [zat,isW,isR,hT,hA,h1,h2]),hbX⟩
    ·have h1:=zaO.symm.trans h1;refine brF ?_;exact⟨rb (by show _=zat 4 x a d full loads stores;simp [zat,isW,isR,hT,hA,h1]),hbX⟩
   ·have n4:decide (m=4)=false:=(zbc (x:=m) (y:=4)).symm.trans n4;refine biE (fun n5=>?_) fun n5=>?_
    ·have n5:decide (m=5)=true:=(zbc (x:=m) (y:=5)).symm.trans n5;obtain rfl:m=5:=dT n5;refine⟨_,zbA fE,?_⟩;refine biE (fun h21=>?_) fun h21=>?_
     ·have h21:=zbq.symm.trans h21;refine⟨_,zlr fE,?_⟩;refine biE (fun h22=>?_) fun h22=>?_
      ·have h22:=zbq.symm.trans h22;refine brT ?_;refine brT ?_;refine brT ?_;refine brT ?_;exact⟨rb (by show _=zat 5 x a d full loads stores;simp [zat,isW,isR,hT,hA,h21,h22]),hbX⟩
      ·have h22:=zbq.symm.trans h22;refine⟨_,zlr fE,?_⟩;refine biE (fun h23=>?_) fun h23=>?_
       ·have h23:=zds.symm.trans h23;refine brT ?_;refine brT ?_;refine brT ?_;exact⟨rb (by show _=zat 5 x a d full loads stores;simp [zat,isW,isR,hT,hA,h21,h22,h23]),hbX⟩
       ·have h23:=zds.symm.trans h23;refine⟨_,zbA fF,?_⟩;refine biE (fun h24=>?_) fun h24=>?_
        ·have h24:=zaO.symm.trans h24;refine⟨_,zlr fF,?_⟩;refine biE (fun h25=>?_) fun h25=>?_
         ·have h25:=zaO.symm.trans h25;refine brT ?_;refine brT ?_;refine brT ?_;exact⟨rb (by show _=zat 5 x a d full loads stores;simp [zat,isW,isR,hT,hA,h21,h22,h23,h24,h25]),hbX⟩
         ·have h25:=zaO.symm.trans h25;refine⟨_,zlr fF,?_⟩;refine biE (fun h26=>?_) fun h26=>?_
          ·have h26:=zds.symm.trans h26;refine brT ?_;refine brT ?_;exact⟨rb (by show _=zat 5 x a d full loads stores;simp [zat,isW,isR,hT,hA,h21,h22,h23,h24,h25,h26]),hbX⟩
          ·have h26:=zds.symm.trans h26;refine biE (fun h27=>?_) fun h27=>?_
           ·refine brT ?_;exact⟨rb (by show _=zat 5 x a d full loads stores;simp [zat,isW,isR,hT,hA,h21,h22,h23,h24,h25,h26,h27]),hbX⟩
           ·refine⟨_,zbA fE,?_⟩;refine biE (fun h28=>?_) fun h28=>?_
            ·have h28:=zbq.symm.trans h28;refine biE (fun h29=>?_) fun h29=>?_
             ·exact⟨rb (by show _=zat 5 x a d full loads stores;simp [zat,isW,isR,hT,hA,h21,h22,h23,h24,h25,h26,h27,h28,h29]),hbX⟩
             ·refine⟨_,zbA fF,?_⟩;refine biE (fun h30=>?_) fun h30=>?_
              ·have h30:=zaO.symm.trans h30;exact⟨rb (by show _=zat 5 x a d full loads stores;simp [zat,isW,isR,hT,hA,h21,h22,h23,h24,h25,h26,h27,h28,h29,h30]),hbX⟩
              ·have h30:=zaO.symm.trans h30
               cases h24.symm.trans h30
            ·have h28:=zbq.symm.trans h28
             cases h21.symm.trans h28
        ·have h24:=zaO.symm.trans h24;refine brF ?_;refine biE (fun h31=>?_) fun h31=>?_
         ·refine brT ?_;exact⟨rb (by show _=zat 5 x a d full loads stores;simp [zat,isW,isR,hT,hA,h21,h22,h23,h24,h31]),hbX⟩
         ·refine⟨_,zbA fE,?_⟩;refine biE (fun h32=>?_) fun h32=>?_
          ·have h32:=zbq.symm.trans h32;refine biE (fun h33=>?_) fun h33=>?_
           ·exact⟨rb (by show _=zat 5 x a d full loads stores;simp [zat,isW,isR,hT,hA,h21,h22,h23,h24,h31,h32,h33]),hbX⟩
           ·refine⟨_,zbA fF,?_⟩;refine biE (fun h34=>?_) fun h34=>?_
            ·have h34:=zaO.symm.trans h34
             cases h24.symm.trans h34
            ·have h34:=zaO.symm.trans h34;exact⟨rb (by show _=zat 5 x a d full loads stores;simp [zat,isW,isR,hT,hA,h21,h22,h23,h24,h31,h32,h33,h34]),hbX⟩
          ·have h32:=zbq.symm.trans h32
           cases h21.symm.trans h32
     ·have h21:=zbq.symm.trans h21;refine brF ?_;refine⟨_,zbA fF,?_⟩;refine biE (fun h35=>?_) fun h35=>?_
      ·have h35:=zaO.symm.trans h35;refine⟨_,zlr fF,?_⟩;refine biE (fun h36=>?_) fun h36=>?_
       ·have h36:=zaO.symm.trans h36;refine brT ?_;refine brT ?_;refine brT ?_;exact⟨rb (by show _=zat 5 x a d full loads stores;simp [zat,isW,isR,hT,hA,h21,h35,h36]),hbX⟩
       ·have h36:=zaO.symm.trans h36;refine⟨_,zlr fF,?_⟩;refine biE (fun h37=>?_) fun h37=>?_
        ·have h37:=zds.symm.trans h37;refine brT ?_;refine brT ?_;exact⟨rb (by show _=zat 5 x a d full loads stores;simp [zat,isW,isR,hT,hA,h21,h35,h36,h37]),hbX⟩
        ·have h37:=zds.symm.trans h37;refine biE (fun h38=>?_) fun h38=>?_
         ·refine brT ?_;exact⟨rb (by show _=zat 5 x a d full loads stores;simp [zat,isW,isR,hT,hA,h21,h35,h36,h37,h38]),hbX⟩
         ·refine⟨_,zbA fE,?_⟩;refine biE (fun h39=>?_) fun h39=>?_
          ·have h39:=zbq.symm.trans h39
           cases h21.symm.trans h39
          ·have h39:=zbq.symm.trans h39;refine brF ?_;refine⟨_,zbA fF,?_⟩;refine biE (fun h40=>?_) fun h40=>?_
           ·have h40:=zaO.symm.trans h40;exact⟨rb (by show _=zat 5 x a d full loads stores;simp [zat,isW,isR,hT,hA,h21,h35,h36,h37,h38,h39,h40]),hbX⟩
           ·have h40:=zaO.symm.trans h40
            cases h35.symm.trans h40
      ·have h35:=zaO.symm.trans h35;refine brF ?_;refine biE (fun h41=>?_) fun h41=>?_
       ·refine brT ?_;exact⟨rb (by show _=zat 5 x a d full loads stores;simp [zat,isW,isR,hT,hA,h21,h35,h41]),hbX⟩
       ·refine⟨_,zbA fE,?_⟩;refine biE (fun h42=>?_) fun h42=>?_
        ·have h42:=zbq.symm.trans h42
         cases h21.symm.trans h42
        ·have h42:=zbq.symm.trans h42;refine brF ?_;refine⟨_,zbA fF,?_⟩;refine biE (fun h43=>?_) fun h43=>?_
         ·have h43:=zaO.symm.trans h43
          cases h35.symm.trans h43
         ·have h43:=zaO.symm.trans h43;exact⟨rb (by show _=zat 5 x a d full loads stores;simp [zat,isW,isR,hT,hA,h21,h35,h41,h42,h43]),hbX⟩
    ·have n5:decide (m=5)=false:=(zbc (x:=m) (y:=5)).symm.trans n5;refine biE (fun n6=>?_) fun n6=>?_
     ·have n6:decide (m=6)=true:=(zbc (x:=m) (y:=6)).symm.trans n6;obtain rfl:m=6:=dT n6;refine⟨_,zad _,r_dt fX,hlt fX,?_⟩;refine cmo (za0 hv.dt (by omega) (by omega)) ?_;rintro e U ⟨rfl,hbU⟩;have fX:=zaa hbU fX;have fE:=zaa hbU fE;have fF:=zaa hbU fF;replace hbX:=zst hbX hbU;refine biE (fun h21=>?_) fun h21=>?_
      ·refine brT ?_;refine brT ?_;refine brT ?_;refine brT ?_;exact⟨rb (by show _=zat 6 x a d full loads stores;simp [zat,isW,isR,hT,hA,h21]),hbX⟩
      ·refine⟨_,zbA fF,?_⟩;refine biE (fun h22=>?_) fun h22=>?_
       ·have h22:=zaO.symm.trans h22;refine⟨_,zad _,r_ct fX,hlt fX,?_⟩;refine cmo (za0 hv.ct (by omega) (by omega)) ?_;rintro e U ⟨rfl,hbU⟩;have fX:=zaa hbU fX;have fE:=zaa hbU fE;have fF:=zaa hbU fF;replace hbX:=zst hbX hbU;refine biE (fun h23=>?_) fun h23=>?_
        ·refine brT ?_;refine brT ?_;refine brT ?_;exact⟨rb (by show _=zat 6 x a d full loads stores;simp [zat,isW,isR,hT,hA,h21,h22,h23]),hbX⟩
        ·refine biE (fun h24=>?_) fun h24=>?_
         ·refine brT ?_;refine brT ?_;exact⟨rb (by show _=zat 6 x a d full loads stores;simp [zat,isW,isR,hT,hA,h21,h22,h23,h24]),hbX⟩
         ·refine⟨_,zbA fE,?_⟩;refine biE (fun h25=>?_) fun h25=>?_
          ·have h25:=zbq.symm.trans h25;refine⟨_,zbA fF,?_⟩;refine biE (fun h26=>?_) fun h26=>?_
           ·have h26:=zbq.symm.trans h26;refine biE (fun h27=>?_) fun h27=>?_
            ·refine brT ?_;exact⟨rb (by show _=zat 6 x a d full loads stores;simp [zat,isW,isR,hT,hA,h21,h22,h23,h24,h25,h26,h27]),hbX⟩
            ·refine⟨_,zbA fE,?_⟩;refine biE (fun h28=>?_) fun h28=>?_
             ·have h28:=zaO.symm.trans h28;refine⟨_,zbA fF,?_⟩;refine biE (fun h29=>?_) fun h29=>?_
              ·have h29:=zaO.symm.trans h29;refine biE (fun h30=>?_) fun h30=>?_
               ·exact⟨rb (by show _=zat 6 x a d full loads stores;simp [zat,isW,isR,hT,hA,h21,h22,h23,h24,h25,h26,h27,h28,h29,h30]),hbX⟩
               ·refine⟨_,zad _,r_rm fX,hlt fX,?_⟩;refine cmo (za0 hv.rm (by omega) (by omega)) ?_;rintro e U ⟨rfl,hbU⟩;have fX:=zaa hbU fX;have fE:=zaa hbU fE;have fF:=zaa hbU fF;replace hbX:=zst hbX hbU;exact⟨rb (by show _=zat 6 x a d full loads stores;simp [zat,isW,isR,hT,hA,h21,h22,h23,h24,h25,h26,h27,h28,h29,h30]),hbX⟩
              ·have h29:=zaO.symm.trans h29
               cases h22.symm.trans h29
             ·have h28:=zaO.symm.trans h28;refine brF ?_;refine brF ?_;refine⟨_,zad _,r_rm fX,hlt fX,?_⟩;refine cmo (za0 hv.rm (by omega) (by omega)) ?_;rintro e U ⟨rfl,hbU⟩;have fX:=zaa hbU fX;have fE:=zaa hbU fE;have fF:=zaa hbU fF;replace hbX:=zst hbX hbU;exact⟨rb (by show _=zat 6 x a d full loads stores;simp [zat,isW,isR,hT,hA,h21,h22,h23,h24,h25,h26,h27,h28]),hbX⟩
           ·have h26:=zbq.symm.trans h26;refine brF ?_;refine⟨_,zbA fE,?_⟩;refine biE (fun h31=>?_) fun h31=>?_
            ·have h31:=zaO.symm.trans h31;refine⟨_,zbA fF,?_⟩;refine biE (fun h32=>?_) fun h32=>?_
             ·have h32:=zaO.symm.trans h32;refine biE (fun h33=>?_) fun h33=>?_
              ·exact⟨rb (by show _=zat 6 x a d full loads stores;simp [zat,isW,isR,hT,hA,h21,h22,h23,h24,h25,h26,h31,h32,h33]),hbX⟩
              ·refine⟨_,zad _,r_rm fX,hlt fX,?_⟩;refine cmo (za0 hv.rm (by omega) (by omega)) ?_;rintro e U ⟨rfl,hbU⟩;have fX:=zaa hbU fX;have fE:=zaa hbU fE;have fF:=zaa hbU fF;replace hbX:=zst hbX hbU;exact⟨rb (by show _=zat 6 x a d full loads stores;simp [zat,isW,isR,hT,hA,h21,h22,h23,h24,h25,h26,h31,h32,h33]),hbX⟩
             ·have h32:=zaO.symm.trans h32
              cases h22.symm.trans h32
            ·have h31:=zaO.symm.trans h31;refine brF ?_;refine brF ?_;refine⟨_,zad _,r_rm fX,hlt fX,?_⟩;refine cmo (za0 hv.rm (by omega) (by omega)) ?_;rintro e U ⟨rfl,hbU⟩;have fX:=zaa hbU fX;have fE:=zaa hbU fE;have fF:=zaa hbU fF;replace hbX:=zst hbX hbU;exact⟨rb (by show _=zat 6 x a d full loads stores;simp [zat,isW,isR,hT,hA,h21,h22,h23,h24,h25,h26,h31]),hbX⟩
          ·have h25:=zbq.symm.trans h25;refine brF ?_;refine brF ?_;refine⟨_,zbA fE,?_⟩;refine biE (fun h34=>?_) fun h34=>?_
           ·have h34:=zaO.symm.trans h34;refine⟨_,zbA fF,?_⟩;refine biE (fun h35=>?_) fun h35=>?_
            ·have h35:=zaO.symm.trans h35;refine biE (fun h36=>?_) fun h36=>?_
             ·exact⟨rb (by show _=zat 6 x a d full loads stores;simp [zat,isW,isR,hT,hA,h21,h22,h23,h24,h25,h34,h35,h36]),hbX⟩
             ·refine⟨_,zad _,r_rm fX,hlt fX,?_⟩;refine cmo (za0 hv.rm (by omega) (by omega)) ?_;rintro e U ⟨rfl,hbU⟩;have fX:=zaa hbU fX;have fE:=zaa hbU fE;have fF:=zaa hbU fF;replace hbX:=zst hbX hbU;exact⟨rb (by show _=zat 6 x a d full loads stores;simp [zat,isW,isR,hT,hA,h21,h22,h23,h24,h25,h34,h35,h36]),hbX⟩
            ·have h35:=zaO.symm.trans h35
             cases h22.symm.trans h35
           ·have h34:=zaO.symm.trans h34;refine brF ?_;refine brF ?_;refine⟨_,zad _,r_rm fX,hlt fX,?_⟩;refine cmo (za0 hv.rm (by omega) (by omega)) ?_;rintro e U ⟨rfl,hbU⟩;have fX:=zaa hbU fX;have fE:=zaa hbU fE;have fF:=zaa hbU fF;replace hbX:=zst hbX hbU;exact⟨rb (by show _=zat 6 x a d full loads stores;simp [zat,isW,isR,hT,hA,h21,h22,h23,h24,h25,h34]),hbX⟩
       ·have h22:=zaO.symm.trans h22;refine brF ?_;refine biE (fun h37=>?_) fun h37=>?_
        ·refine brT ?_;refine brT ?_;exact⟨rb (by show _=zat 6 x a d full loads stores;simp [zat,isW,isR,hT,hA,h21,h22,h37]),hbX⟩
        ·refine⟨_,zbA fE,?_⟩;refine biE (fun h38=>?_) fun h38=>?_
         ·have h38:=zbq.symm.trans h38;refine⟨_,zbA fF,?_⟩;refine biE (fun h39=>?_) fun h39=>?_
          ·have h39:=zbq.symm.trans h39;refine biE (fun h40=>?_) fun h40=>?_
           ·refine brT ?_;exact⟨rb (by show _=zat 6 x a d full loads stores;simp [zat,isW,isR,hT,hA,h21,h22,h37,h38,h39,h40]),hbX⟩
           ·refine⟨_,zbA fE,?_⟩;refine biE (fun h41=>?_) fun h41=>?_
            ·have h41:=zaO.symm.trans h41;refine⟨_,zbA fF,?_⟩;refine biE (fun h42=>?_) fun h42=>?_
             ·have h42:=zaO.symm.trans h42
              cases h22.symm.trans h42
             ·have h42:=zaO.symm.trans h42;refine brF ?_;refine⟨_,zad _,r_rm fX,hlt fX,?_⟩;refine cmo (za0 hv.rm (by omega) (by omega)) ?_;rintro e U ⟨rfl,hbU⟩;have fX:=zaa hbU fX;have fE:=zaa hbU fE;have fF:=zaa hbU fF;replace hbX:=zst hbX hbU;exact⟨rb (by show _=zat 6 x a d full loads stores;simp [zat,isW,isR,hT,hA,h21,h22,h37,h38,h39,h40,h41,h42]),hbX⟩
            ·have h41:=zaO.symm.trans h41;refine brF ?_;refine brF ?_;refine⟨_,zad _,r_rm fX,hlt fX,?_⟩;refine cmo (za0 hv.rm (by omega) (by omega)) ?_;rintro e U ⟨rfl,hbU⟩;have fX:=zaa hbU fX;have fE:=zaa hbU fE;have fF:=zaa hbU fF;replace hbX:=zst hbX hbU;exact⟨rb (by show _=zat 6 x a d full loads stores;simp [zat,isW,isR,hT,hA,h21,h22,h37,h38,h39,h40,h41]),hbX⟩
          ·have h39:=zbq.symm.trans h39;refine brF ?_;refine⟨_,zbA fE,?_⟩;refine biE (fun h43=>?_) fun h43=>?_
           ·have h43:=zaO.symm.trans h43;refine⟨_,zbA fF,?_⟩;refine biE (fun h44=>?_) fun h44=>?_
            ·have h44:=zaO.symm.trans h44
             cases h22.symm.trans h44
            ·have h44:=zaO.symm.trans h44;refine brF ?_;refine⟨_,zad _,r_rm fX,hlt fX,?_⟩;refine cmo (za0 hv.rm (by omega) (by omega)) ?_;rintro e U ⟨rfl,hbU⟩;have fX:=zaa hbU fX;have fE:=zaa hbU fE;have fF:=zaa hbU fF;replace hbX:=zst hbX hbU;exact⟨rb (by show _=zat 6 x a d full loads stores;simp [zat,isW,isR,hT,hA,h21,h22,h37,h38,h39,h43,h44]),hbX⟩
           ·have h43:=zaO.symm.trans h43;refine brF ?_;refine brF ?_;refine⟨_,zad _,r_rm fX,hlt fX,?_⟩;refine cmo (za0 hv.rm (by omega) (by omega)) ?_;rintro e U ⟨rfl,hbU⟩;have fX:=zaa hbU fX;have fE:=zaa hbU fE;have fF:=zaa hbU fF;replace hbX:=zst hbX hbU;exact⟨rb (by show _=zat 6 x a d full loads stores;simp [zat,isW,isR,hT,hA,h21,h22,h37,h38,h39,h43]),hbX⟩
         ·have h38:=zbq.symm.trans h38;refine brF ?_;refine brF ?_;refine⟨_,zbA fE,?_⟩;refine biE (fun h45=>?_) fun h45=>?_
          ·have h45:=zaO.symm.trans h45;refine⟨_,zbA fF,?_⟩;refine biE (fun h46=>?_) fun h46=>?_
           ·have h46:=zaO.symm.trans h46
            cases h22.symm.trans h46
           ·have h46:=zaO.symm.trans h46;refine brF ?_;refine⟨_,zad _,r_rm fX,hlt fX,?_⟩;refine cmo (za0 hv.rm (by omega) (by omega)) ?_;rintro e U ⟨rfl,hbU⟩;have fX:=zaa hbU fX;have fE:=zaa hbU fE;have fF:=zaa hbU fF;replace hbX:=zst hbX hbU;exact⟨rb (by show _=zat 6 x a d full loads stores;simp [zat,isW,isR,hT,hA,h21,h22,h37,h38,h45,h46]),hbX⟩
          ·have h45:=zaO.symm.trans h45;refine brF ?_;refine brF ?_;refine⟨_,zad _,r_rm fX,hlt fX,?_⟩;refine cmo (za0 hv.rm (by omega) (by omega)) ?_;rintro e U ⟨rfl,hbU⟩;have fX:=zaa hbU fX;have fE:=zaa hbU fE;have fF:=zaa hbU fF;replace hbX:=zst hbX hbU;exact⟨rb (by show _=zat 6 x a d full loads stores;simp [zat,isW,isR,hT,hA,h21,h22,h37,h38,h45]),hbX⟩
     ·have n6:decide (m=6)=false:=(zbc (x:=m) (y:=6)).symm.trans n6;rw [zmL (m:=m) (x:=x) (a:=a) (d:=d) (f:=full) (l:=loads) (s:=stores) fun k k1 k2 e=>by
       rcases (by omega:k=2\/k=3\/k=4\/k=5\/k=6) with rfl | rfl | rfl | rfl | rfl
       ·exact dF n2 (UInt8.toNat_inj.1 e)
       ·exact dF n3 (UInt8.toNat_inj.1 e)
       ·exact dF n4 (UInt8.toNat_inj.1 e)
       ·exact dF n5 (UInt8.toNat_inj.1 e)
       ·exact dF n6 (UInt8.toNat_inj.1 e)]
      exact⟨rfl,hbX⟩
end
end Go.Proofs.YtmbghmhjjodgmaaGreatDoor
