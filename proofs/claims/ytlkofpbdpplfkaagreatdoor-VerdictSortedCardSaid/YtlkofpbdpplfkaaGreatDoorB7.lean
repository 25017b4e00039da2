/- Contracts of functions, and plain facts, for the law that the last text of this claim proves. -/
import Derived.Test.YtlkofpbdpplfkaaGreatDoorB6
import Derived.Test.YtlkofpbdpplfkaaGreatDoorB5
import Derived.Test.YtlkofpbdpplfkaaGreatDoorB2
import Derived.Test.YtlkofpbdpplfkaaGreatDoorRows
import Derived.ProofKit
import Derived.OpenShut
import Derived.LaidLaws
import Derived.Below
import Derived.HandedShaped
import Derived.KernelRfl
import Derived.WalkKit
import Derived.ChangeOld
import Derived.SevenTiedAt
import Derived.LaidHandle
import Derived.Stop.LaidErr
import Derived.Lib.LaidTab
import Derived.SizedLaws
set_option linter.unusedSimpArgs false
set_option linter.unusedVariables false
namespace Go.Proofs.YtlkofpbdpplfkaaGreatDoor
open Go.Vc Go.RowKit Go.Sei
abbrev orG (l:List Nat):Nat:=l.foldl (fun s i=>s|||2^i) 0
theorem znD (l:List Nat) (i:Nat):orG (l++[i])=orG l|||2^i:=by
 unfold orG;rw [List.foldl_append];rfl
theorem zlO:∀ (l:List Nat) (s:Nat),s<2^64->(∀ i∈l,i<64)->l.foldl (fun s i=>s|||2^i) s<2^64
 | [],s,h,_=>h
 | i::l,s,h,hl=>zlO l (s|||2^i) (Nat.or_lt_two_pow h (zaF (hl i List.mem_cons_self))) fun j hj=>hl j (List.mem_cons_of_mem _ hj)
theorem zox {l:List Nat} (hl:∀ i∈l,i<64):orG l<2^64:=zlO l 0 (by decide) hl
section
variable {w:World}
theorem Of_c {p:Option Addr} {cp:Nat} {l:List Nat} (hl:SlR natE w p l) (h64:∀ i∈l,i<64) (hn:l.length<=1000):Calls Tryz.prog 257 #[.slice p l.length cp] w fun e w'=>e = .returned (.tuple #[s64 (orG l),i64 0])/\w=w':=by
 refine cofE 25 [.slice p l.length cp] Tryz.func257 ?_;refine⟨Nat,fun k=>⟨[(4,s64 (orG (l.take k))),(7,.slice p l.length cp),(8,i64 l.length),(9,i64 (k:Nat))],[]⟩,fun k X=>k<=l.length/\w=X,fun k=>l.length-k,0,(cvE rfl rfl),⟨Nat.zero_le _,rfl⟩,?_⟩;rintro k _ ⟨hk,rfl⟩;dsimp only;refine biE (fun hc=>?_) fun hc=>?_
 ·have hc:(k:Int)<(l.length:Int):=dT hc;have hkl:k<l.length:=by omega
  obtain⟨b,o,rfl,hb,hat⟩:=hl.at hkl;obtain⟨t,ht⟩:∃ t,l[k]=t:=⟨_,rfl⟩;have ht64:=h64 t (by rw [<- ht];exact gM hkl);have htk:orG (l.take (k+1))=orG (l.take k)|||2^t:=by rw [tsg hkl,ht,znD]
  refine⟨k,rfl,hkl,?_⟩;refine⟨i64 t,by have:=zac (hat k hkl) (i:=0) (v:=i64 t) (by rw [ht];rfl);exact this,?_⟩;refine biE (fun h=>?_) fun _=>?_
  ·have h:(t:Int)<0:=dT h;omega
  refine biE (fun h=>?_) fun _=>?_
  ·have h:(64:Int)<=(t:Nat):=dT h;omega
  refine⟨by omega,_,zby (e:=t) (by omega),?_⟩;refine⟨_,zb2 (zox fun i hi=>h64 i (List.mem_of_mem_take hi)) (zaF ht64),?_⟩;refine nxI (by omega) ?_;exact⟨k+1,⟨.cons (by show _=some (s64 (orG (l.take (k+1))));rw [htk];rfl) (.cons rfl (.cons rfl (.cons rfl .nil))),rfl⟩,⟨hkl,rfl⟩,zdc (by omega)⟩
 ·have hc:¬ (k:Int)<(l.length:Int):=dF hc;obtain rfl:k=l.length:=by omega
  rw [List.take_length];exact⟨rfl,rfl⟩
end
section
variable {b c:Nat} {x:ExD} {q:Option Addr} {w:World}
theorem zbh {X:World} (fx:ExH X b x q c) {i:Nat} (hi:i<6) {o:Nat} (ho:o=1+49*i):zax X ⟨b,0+o,none⟩ (relC ((ze0 x).getD i x.po)):=by
 rw [ho];exact zfp fx hi
theorem zoF (hv:ExV w x q) (hT:Tz64M w):WrdR (zbw x.rf).to/\WrdR (frM x).to:=by
 have h1:WrdR (zbw x.rf).to:=by
  unfold zbw
  split
  ·rename_i h;intro i hi;refine Nat.lt_of_not_le fun hge=>?_;obtain⟨j,hj1,hj2⟩:=Nat.exists_ge_and_testBit_of_ge_two_pow hge;rw [show ((⟨x.rf.n,zcH x.rf.to x.rf.n.toNat⟩:RelD).to i)=zcH x.rf.to x.rf.n.toNat i from rfl,zf1,bAT,dE] at hj2;have h48:=(za5 h).2.1;omega
  ·exact fun i _=>(by show 0<2^64;decide)
 exact⟨h1,zdZ h1 hv.co⟩
theorem fr_c (fx:ExH w b x q c) (hv:ExV w x q) (hT:Tz64M w):CB 156 #[At0 b] w (.agg (relC (frM x)).toArray):=by
 refine cofM 19 [At0 b] (.c .p (.c .p .p)) Tryz.func156 ?_;obtain⟨L,hL⟩:=nm (w.heap.size);obtain⟨wb,wf⟩:=zoF hv hT;refine⟨Unit,fun _=>⟨[(0,At0 b),(2,At0 L)],[]⟩,fun _ X=>RelH X L zav/\Bw w X,⟨(),⟨.cons rfl (.cons (by rw [hL];rfl) .nil),rfl⟩,by rw [hL];exact hnew w _,(zba w _)⟩,?_⟩;rintro _ X ⟨f0,hbX⟩;refine⟨Nat,fun F=>⟨[(2,At0 L),(3,At0 F)],[]⟩,fun F Z=>RelH Z F (frM x)/\RelH Z L zav/\Bw w Z,?_,?_⟩
 ·have dX:Bw X X.drew:=(Below.refl _ _).drew;have fX:=hdr (zab hbX fx);have hba:∀ (A:World) (o:Obj),Bw A (A.alloc o):=fun A o=>(zba _ _);have put:∀ (W:World) (b3:Nat),Bw X W->RelH W b3 zav->X.heap.size<=b3->∀ {K:World->Prop},(∀ V,(RelH V b3 (frM x)/\RelH V L zav/\Bw w V)->K V) ->
    SatR ((storeVar 102 ⟨b3,0,none⟩ (.agg (relC (frM x)).toArray)).run Tryz.prog W) fun _ w'=>K w':=by
   intro W b3 hW f3 g3 K k;refine zam (v := .agg (relC (frM x)).toArray) k102 f3 (zad _) (zad _) (zau _) ?_;have hL2:=hlt f0;exact k _ ⟨zaj f3,(zao (by omega)).trans (zab hW f0),zag ((zst hbX hW)) (by have:=hbX.size;omega) _⟩
  refine DrawE.treeQ [14] (.op 0 (.op 1 (.op 2 (.op 3 (.op 5 (.op 6 (.op 7 (.op 8 (.alt (.op 13 (.op 4 (.op 9 (.op 10 (.op 11 (.op 12 (.op 14 (.op 15 (.nil))))))))) (.op 4 (.alt (.op 13 (.op 9 (.op 10 (.op 11 (.op 12 (.op 14 (.op 15 (.nil)))))))) (.op 9 (.op 10 (.op 11 (.op 12 (.op 13 (.op 14 (.op 15 (.nil))))))))))))))))))) (by kernel_rfl) ?_;refine⟨relC x.rf,zad _,zbh fX (i:=1) (by decide) rfl,hlt fX,?_⟩;refine⟨relC x.co,zad _,zbh fX (i:=2) (by decide) rfl,hlt fX,?_⟩;refine And.intro ?_ ?_
  ·refine⟨hba _ _,?_⟩;have b1:=dX.alloc (Nat.le_refl _) (.cells (relC zav).toArray 102);refine cmo (zif hv.rf (hT.below ((zst hbX b1)))) ?_;rintro e Y ⟨rfl,hbY,_⟩;refine⟨hbY,?_⟩;have b2:=zst b1 hbY;refine cmo (zdK wb hv.co (hT.below ((zst hbX b2)))) ?_;rintro e Z ⟨rfl,hbZ⟩;refine⟨hbZ,?_⟩;refine put Z X.heap.size ((zst b2 hbZ)) (zab hbZ (zab hbY (hnew X.drew _))) (Nat.le_refl _) ?_;exact fun V hV=>⟨X.heap.size,(cvE rfl rfl),hV⟩
  refine cmo (zif hv.rf (hT.below ((zst hbX dX)))) ?_;rintro e Y ⟨rfl,hbY,_⟩;refine⟨hbY,?_⟩;have b1:=zst dX hbY;refine And.intro ?_ ?_
  ·refine⟨hba _ _,?_⟩;have b2:=b1.alloc b1.size (.cells (relC zav).toArray 102);refine cmo (zdK wb hv.co (hT.below ((zst hbX b2)))) ?_;rintro e Z ⟨rfl,hbZ⟩;refine⟨hbZ,?_⟩;refine put Z Y.heap.size ((zst b2 hbZ)) (zab hbZ (hnew Y _)) b1.size ?_;exact fun V hV=>⟨Y.heap.size,(cvE rfl rfl),hV⟩
  ·refine cmo (zdK wb hv.co (hT.below ((zst hbX b1)))) ?_;rintro e Z ⟨rfl,hbZ⟩;refine⟨hbZ,?_⟩;have b2:=zst b1 hbZ;refine⟨hba _ _,?_⟩;refine put _ Z.heap.size (b2.alloc b2.size _) (hnew Z _) b2.size ?_;exact fun V hV=>⟨Z.heap.size,(cvE rfl rfl),hV⟩
 rintro F Z ⟨f1,f0,hbZ⟩;refine⟨relC (frM x),zad _,zaa f1,hlt f1,?_⟩;refine zam (v := .agg (relC (frM x)).toArray) k102 f0 (zad _) (zad _) (zau _) ?_;exact⟨relC (frM x),zad _,zaa (zaj f0),rfl,zag hbZ (by omega) _⟩
end
structure RelOk (n:Nat) (r:RelD):Prop where
 n:r.n=n
 ok:okR r=true
 w:WrdR r.to
section
variable {n:Nat} {r a b:RelD}
theorem RelOk.le (h:RelOk n r):n<=48:=by
 have:=(za5 h.ok).2.1;have:=h.n;omega
theorem zqS (hn:r.n=n) (h48:n<=48) (h:∀ i j,i<48->hasM r i j=true->i<n/\j<n):okR r=true:=by
 unfold okR;rw [bAT,bAT,dE,dE,List.all_eq_true];refine⟨by omega,by omega,fun i hi=>?_⟩;have hi:=List.mem_range.1 hi;unfold zdO;rw [bAT,Bool.or_eq_true,dE,dE,dE];refine⟨?_,?_⟩
 ·rw [zjF,zf4];apply Nat.eq_of_testBit_eq;intro j;rw [Nat.zero_testBit];by_cases hj:j<64
  ·rw [zfK (zc1 _) hj,zhm (by omega) (by omega) hj]
   cases hb:(r.to i).testBit j with
   | false=>rfl
   | true =>
    have:=(h i j hi hb).2;rw [decide_eq_true (by omega)];rfl
  ·have:=Nat.testBit_lt_two_pow (nL (Nat.lt_of_le_of_lt (show zb5 (r.to i) (allN r.n)<=_ from Nat.and_le_right) (show 18446744073709551615-allN r.n<2^64 by omega)) (Nat.pow_le_pow_right (show 0<2 by decide) (show 64<=j by omega)));exact this
 ·by_cases hin:i<n
  ·exact .inl (by omega)
  ·refine .inr (Nat.eq_of_testBit_eq fun j=>?_);rw [Nat.zero_testBit]
   cases hb:(r.to i).testBit j with
   | false=>rfl
   | true=>exact absurd (h i j hi hb).1 hin
theorem RelOk.of (hn:r.n=n) (h48:n<=48) (h:∀ i j,i<48->hasM r i j=true->i<n/\j<n) (hw:WrdR r.to):RelOk n r:=⟨hn,zqS hn h48 h,hw⟩
theorem zit (p:Nat->Bool):∀ k j,(rowP k p).testBit j=(decide (j<k)&&p j)
 | 0,j=>by
  show (0:Nat).testBit j=_;simp
 | k+1,j=>by
  rw [zd2]
  split
  ·rename_i h;rw [Nat.testBit_or,zit p k j,zlF];by_cases e:j=k
   ·subst e;simp [h]
   ·rw [decide_eq_false e,Bool.or_false];congr 1;exact decide_eq_decide.2 (by omega)
  ·rename_i h;rw [zit p k j];by_cases e:j=k
   ·subst e;have:p j=false:=(by simpa using h);rw [this,Bool.and_false,Bool.and_false]
   ·congr 1;exact decide_eq_decide.2 (by omega)
theorem zmL {f:Nat->Nat} {i j:Nat}:hasM (zcb n f) i j=(decide (i<n)&&(f i).testBit j):=by
 unfold hasM zcb;dsimp only
 split
 ·rename_i h;rw [decide_eq_true h];rfl
 ·rename_i h;rw [decide_eq_false h,Nat.zero_testBit];rfl
theorem znz {p:Nat->Nat->Bool} {i j:Nat}:hasM (zdP n p) i j=(decide (i<n)&&(decide (j<n)&&p i j)):=by
 unfold zdP;rw [zmL,zit]
theorem RelOk.pick (h:n<=48) (p:Nat->Nat->Bool):RelOk n (zdP n p):=by
 refine .of rfl h (fun i j _ hb=>?_) (ze6 (by omega));rw [znz] at hb;simp only [bAT,dE] at hb;exact⟨hb.1,hb.2.1⟩
end
structure WX (x:ExD):Prop where
 po:WrdR x.po.to
 rf:WrdR x.rf.to
 co:WrdR x.co.to
 dt:WrdR x.dt.to
 ct:WrdR x.ct.to
 rm:WrdR x.rm.to
structure XOk (x:ExD):Prop where
 n:x.ev.length<=48
 po:RelOk x.ev.length x.po
 rf:RelOk x.ev.length x.rf
 co:RelOk x.ev.length x.co
 dt:RelOk x.ev.length x.dt
 ct:RelOk x.ev.length x.ct
 rm:RelOk x.ev.length x.rm
 ev:zbx x.ev (zcp x.ev)=true
 poE:zet x.po (poR x.ev)=true
 rfR:zc8 x=true
 coR:zdg x (zcp x.ev)=true
 dep:zcC x=true
theorem zlz {X:World} {L:Nat} {r:RelD} (h:RelH X L r):∀ i,i<48->X.cell? ⟨L,0+1+i*1,none⟩=some (s64 (r.to i)):=by
 have hR:RelAt X L 0 102 [] [] r:=⟨rfl,by simpa using h⟩;exact fun i hi=>hR.cell hi
section
variable {b c:Nat} {x:ExD} {q:Option Addr} {w:World}
theorem zq7 {r:RelD} {a d R B:Nat} (fR:RelH w R r) (hr:WrdR r.to) (fB:w.heap[B]?=some (.cells #[At0 b] 162 (0,0))) (fx:ExH w b x q c) (hv:ExV w x q) (ha:a<x.ev.length) (hd:d<x.ev.length) :
  CB 228 #[i64 (a:Nat),i64 (d:Nat),At0 R,At0 B] w (.bool (hasM r a d && !decide ((evA x a).th=(evA x d).th))):=by
 refine cofE 29 [i64 (a:Nat),i64 (d:Nat),At0 R,At0 B] Tryz.func228 ?_;have hn:=hv.n;obtain⟨bq,oq,hqe,hb,hat⟩:=zdH hv.ev ha;obtain⟨bq2,oq2,hqe2,hb2,hat2⟩:=zdH hv.ev hd;rw [hqe] at hqe2;simp only [Option.some.injEq,Addr.mk.injEq,and_true] at hqe2;rw [<- hqe2.1,<- hqe2.2] at hat2;subst hqe;have dw:Bw w w.drew:=(Below.refl _ _).drew;refine DrawE.ord [] [0,1,2,3,4,5,6,7,8,9,10,11,12,13,14,15,16,17,18,19,20,21,22] (by kernel_rfl) ?_;refine cmo (zay (zlz (hdr fR)) hr (by omega) (by omega)) ?_;rintro e _ ⟨rfl,rfl⟩;refine⟨Below.refl _ _,?_⟩;refine biE (fun h1=>?_) fun h1=>?_
 ·have h1:hasM r a d=true:=h1;refine⟨At0 b,zac (zaa (hdr fB)) (i:=0) rfl,?_⟩;refine⟨_,zca (zaa (hdr fx)),?_⟩;refine⟨a,rfl,ha,?_⟩;refine⟨i64 (evA x a).th,by have:=zac (zaq dw hat) (i:=0) (v:=i64 (evA x a).th) rfl;exact this,?_⟩;refine⟨At0 b,zac (zaa (hdr fB)) (i:=0) rfl,?_⟩;refine⟨_,zca (zaa (hdr fx)),?_⟩;refine⟨d,rfl,hd,?_⟩;refine⟨i64 (evA x d).th,by have:=zac (zaq dw hat2) (i:=0) (v:=i64 (evA x d).th) rfl;exact this,?_⟩;exact⟨rb (by rw [h1,Bool.true_and]),dw⟩
 ·have h1:hasM r a d=false:=h1;exact⟨rb (by rw [h1,Bool.false_and]),dw⟩
theorem zmN {a d B:Nat} (fB:w.heap[B]?=some (.cells #[At0 b] 162 (0,0))) (fx:ExH w b x q c) (hv:ExV w x q) (ha:a<x.ev.length) (hd:d<x.ev.length) :
  CB 158 #[i64 (a:Nat),i64 (d:Nat),At0 B] w (.bool (hasM x.po a d&&zdM x a d)):=by
 refine cofE 18 [i64 (a:Nat),i64 (d:Nat),At0 B] Tryz.func158 ?_;have hn:=hv.n;refine⟨At0 b,zac (zaa fB) (i:=0) rfl,?_⟩;refine cmo (zay (zgB (zaa fx) (zoI x q c)) hv.po (by omega) (by omega)) ?_;rintro e _ ⟨rfl,rfl⟩;refine biE (fun h1=>?_) fun h1=>?_
 ·have h1:hasM x.po a d=true:=h1;refine⟨At0 b,zac (zaa fB) (i:=0) rfl,?_⟩;refine cmo (zow (zaa fx) hv.ev ha hd) ?_;rintro e X ⟨rfl,hb⟩;exact⟨rb (by rw [h1,Bool.true_and]),hb⟩
 ·have h1:hasM x.po a d=false:=h1;exact⟨rb (by rw [h1,Bool.false_and]),Below.refl _ _⟩
theorem zr3 {r:RelD} (fx:ExH w b x q c) (hv:ExV w x q) (hr:WrdR r.to) (hn:r.n=x.ev.length) :
  CB 166 #[At0 b,.agg (relC r).toArray] w (.agg (relC (extM x r)).toArray):=by
 refine cofM 9 [At0 b,.agg (relC r).toArray] (.c .p (.c .p .p)) Tryz.func166 ?_;obtain⟨L,hL⟩:=nm (w.heap.size);have h19:=hv.n;refine⟨Unit,fun _=>⟨[(2,At0 L),(3,At0 (L+1)),(4,At0 (L+2))],[]⟩,fun _ X=>X.heap[L]?=some (.cells #[At0 b] 162 (0,0))/\RelH X (L+1) r/\RelH X (L+2) zav/\Bw w X,?_,?_⟩
 ·have s1:=wz w (.cells #[At0 b] 162);have s2:=wz (w.alloc (.cells #[At0 b] 162)) (.cells (relC r).toArray 102);have b1:Bw w (w.alloc (.cells #[At0 b] 162)):=zba w _;have b2:=b1.alloc b1.size (.cells (relC r).toArray 102);have h1:=hnew w (.cells #[At0 b] 162);have h2:=hnew (w.alloc (.cells #[At0 b] 162)) (.cells (relC r).toArray 102);have h3:=hnew ((w.alloc (.cells #[At0 b] 162)).alloc (.cells (relC r).toArray 102)) (.cells (relC zav).toArray 102);rw [s1] at h2 s2;rw [s2] at h3;refine⟨(),⟨.cons (by rw [hL];rfl) (.cons (by rw [hL,<- s1];rfl) (.cons (by rw [hL,<- s2];rfl) .nil)),rfl⟩,by rw [hL];exact hold _ (hold _ h1),by rw [hL];exact hold _ h2,by rw [hL];exact h3,b2.alloc b2.size _⟩
 rintro _ X ⟨fB,fR,f0,hbX⟩;have fX:=zab hbX fx;have hvX:=hv.below hbX;refine⟨Unit,fun _=>⟨[(4,At0 (L+2))],[]⟩,fun _ Y=>RelH Y (L+2) (extM x r)/\Bw w Y,?_,?_⟩
 ·refine⟨i64 r.n,by have:=zac (zaa fR) (i:=0) (v:=i64 r.n) rfl;exact this,?_⟩;have en:extM x r=zdP x.ev.length fun a d=>hasM r a d && !decide ((evA x a).th=(evA x d).th):=by
   unfold extM;rw [hn];rfl
  rw [hn];refine cmo (zlI (n:=x.ev.length) (caps := #[At0 (L+1),At0 L]) (g:=228) (p:=fun a d=>hasM r a d && !decide ((evA x a).th=(evA x d).th)) (by omega) (by kernel_rfl) fun a d Z ha hd hb=>zq7 (zab hb fR) hr (zab hb fB) (zab hb fX) (hvX.below hb) ha hd) ?_;rintro e Y ⟨rfl,hbY⟩;rw [<- en];have f0:=zab hbY f0;refine zam (v := .agg (relC (extM x r)).toArray) k102 f0 (zad _) (zad _) (zau _) ?_;exact⟨(),(cvE rfl rfl),zaj f0,zag ((zst hbX hbY)) (by omega) _⟩
 rintro _ Y ⟨f0,hbY⟩;exact⟨relC (extM x r),zad _,zaa f0,rfl,hbY⟩
end
section
variable {b c:Nat} {x:ExD} {q:Option Addr} {w:World}
theorem znZ {md:UInt8} (fx:ExH w b x q c) (hv:ExV w x q) (hT:Tz64M w):CB 229 #[At0 b,u8 md] w (.agg (relC (zaB x md)).toArray):=by
 refine cofM 70 [At0 b,u8 md] (.c .p (.c .p (.c .p (.c .p (.c .p (.c .p (.c .p .p))))))) Tryz.func229 ?_;obtain⟨L,hL⟩:=nm (w.heap.size);have hn:=hv.n;obtain⟨n,hnn⟩:=nm (x.ev.length);refine⟨Unit,fun _=>⟨[(0,At0 b),(1,u8 md),(4,At0 L)],[]⟩,fun _ X=>RelH X L zav/\Bw w X,⟨(),⟨.cons rfl (.cons rfl (.cons (by rw [hL];rfl) .nil)),rfl⟩,by rw [hL];exact hnew w _,(zba w _)⟩,?_⟩;rintro _ X ⟨f0,hbX⟩;refine⟨Unit,fun _=>⟨[(0,At0 b),(1,u8 md),(4,At0 L),(5,i64 n)],[]⟩,fun _ Y=>X=Y,?_,?_⟩
 ·refine⟨_,zac (zaa (zab hbX fx)) (i:=0) rfl,?_⟩;exact⟨(),⟨.cons rfl (.cons rfl (.cons rfl (.cons (by rw [hnn];rfl) .nil))),rfl⟩,rfl⟩
 rintro _ _ rfl;refine⟨Unit,fun _=>⟨[(0,At0 b),(1,u8 md),(4,At0 L),(5,i64 n),(6,.slice none 0 0)],[]⟩,fun _ Y=>X=Y,⟨(),(cvE rfl rfl),rfl⟩,?_⟩;rintro _ _ rfl;obtain⟨pr,hpr⟩:∃ pr:Nat->Bool,pr=fun i=>decide ((evA x i).k=3)&&decide ((evA x i).m=md):=⟨_,rfl⟩;obtain⟨B,hB⟩:=nm (X.heap.size);refine⟨Option Addr×Nat,fun s=>⟨[(0,At0 b),(4,At0 L),(5,i64 n),(6,.slice s.1 ((List.range n).filter pr).length s.2)],[]⟩,fun s V=>OwnS natE 3 B V s.1 s.2 ((List.range n).filter pr)/\Below B X V,?_,?_⟩
 ·refine⟨_,zac (zaa (zab hbX fx)) (i:=0) rfl,?_⟩;refine⟨Nat×Option Addr×Nat,fun s=>⟨[(0,At0 b),(1,u8 md),(4,At0 L),(5,i64 n),(6,.slice s.2.1 ((List.range s.1).filter pr).length s.2.2),(23,.slice q x.ev.length c),(24,i64 x.ev.length),(25,i64 (s.1:Nat))],[]⟩,fun s V=>s.1<=x.ev.length/\OwnS natE 3 B V s.2.1 s.2.2 ((List.range s.1).filter pr)/\Below B X V,fun s=>x.ev.length-s.1,(0,none,0),
   (cvE rfl rfl),⟨Nat.zero_le _,OwnS.nil,by rw [hB];exact Below.refl _ _⟩,?_⟩
  rintro⟨k,ps,cs⟩ V ⟨hk,oV,hbV⟩;dsimp only at hk oV ⊢;have hVs:B<=V.heap.size:=by have:=hbV.size;omega
  refine biE (fun hc=>?_) fun hc=>?_
  ·have hc:(k:Int)<(x.ev.length:Int):=dT hc;have hkl:k<x.ev.length:=by omega
   have hbwV:=hbX.trans (hbV.mono (by rw [hB];exact hbX.size));obtain⟨bq,oq,hqe,hb,hat⟩:=zdH (hv.ev.below hbwV) hkl;have hfl:(List.range (k+1)).filter pr=(List.range k).filter pr++if pr k=true then [k] else []:=by
    rw [List.range_succ,List.filter_append,List.filter_cons,List.filter_nil]
   have hprk:pr k=(decide ((evA x k).k=3)&&decide ((evA x k).m=md)):=by rw [hpr]
   have hll2:((List.range k).filter pr).length<=k:=by
    have:=List.length_filter_le pr (List.range k);rw [List.length_range] at this;exact this
   obtain⟨e,he⟩:=nm (evA x k);rw [<- he] at hat hprk;have eq0:some (Value.slice q x.ev.length c)=some (Value.slice (some ⟨bq,oq,none⟩) x.ev.length c):=by rw [hqe]
   subst hqe;refine⟨k,rfl,hkl,?_⟩;refine⟨evE.enc e,rfl,hat,hb,?_⟩;refine zap (X:=V) (v := .agg (evE.enc e).toArray) k225 rfl rfl (List.all_eq_true.2 fun u hu=>evE.one e u hu) fun U hbU fU sU=>?_;have fU:U.heap[V.heap.size]?=some (.cells (evE.enc e).toArray 225 (0,0)):=fU;have oU:=oV.below hbU;have hbU2:=hbV.trans (hbU.mono hVs);have hUs:B<=U.heap.size:=by have:=hbU.size;omega
   have skip:pr k=false->(k+1<=x.ev.length/\OwnS natE 3 B U ps cs ((List.range (k+1)).filter pr)/\Below B X U):=fun h=>⟨hkl,by rw [hfl,h];simpa using oU,hbU2⟩;have skipE:pr k=false->((List.range (k+1)).filter pr).length=((List.range k).filter pr).length:=fun h=>by rw [hfl,h];simp
   refine⟨u8 e.k,zac (zaa fU) (i:=1) rfl,?_⟩;refine biE (fun h1=>?_) fun h1=>?_
   ·have h1:e.k=3:=zbe.1 (dT h1);refine⟨u8 e.m,zac (zaa fU) (i:=4) rfl,?_⟩;refine biE (fun h2=>?_) fun h2=>?_
    ·have h2:e.m=md:=zbe.1 (dT h2);have hp1:pr k=true:=(by rw [hprk,decide_eq_true h1,decide_eq_true h2];rfl);rw [if_pos hp1] at hfl;refine⟨⟨by decide,by decide,rfl⟩,natE.enc k,rfl,?_⟩;have hb2:Bw U (U.alloc (.cells (natE.enc k).toArray 3)):=zba _ _;have sb2:=hb2.size;unfold opsE zcr;show SatR _ _;refine appI (oU.below hb2) (zaW natE k) (by omega) (by omega) fun p' c' S oS gS hat2=>?_;rw [zb9] at gS;rw [<- hfl] at oS ⊢;refine nxI (by omega) ?_;exact⟨(k+1,p',c'),(cvE rfl rfl),⟨hkl,oS,hbU2.trans ((hb2.mono hUs).trans (zaX (oU.below hb2) (by omega) (Nat.le_refl _) gS))⟩,zdc (by omega)⟩
    ·have h2:¬ e.m=md:=fun e2=>(dF h2) (by rw [e2]);have hp0:pr k=false:=(by rw [hprk,decide_eq_false h2,Bool.and_false]);refine nxI (by omega) ?_;exact⟨(k+1,ps,cs),⟨.cons rfl (.cons rfl (.cons rfl (.cons rfl (.cons (by show _=some (Value.slice ps ((List.range (k+1)).filter pr).length cs);rw [skipE hp0];rfl) (.cons rfl (.cons rfl (.cons rfl .nil))))))),rfl⟩,skip hp0,zdc (by omega)⟩
   ·have h1:¬ e.k=3:=fun e2=>(dF h1) (by rw [e2];rfl);have hp0:pr k=false:=(by rw [hprk,decide_eq_false h1];rfl);refine brF ?_;refine nxI (by omega) ?_;exact⟨(k+1,ps,cs),⟨.cons rfl (.cons rfl (.cons rfl (.cons rfl (.cons (by show _=some (Value.slice ps ((List.range (k+1)).filter pr).length cs);rw [skipE hp0];rfl) (.cons rfl (.cons rfl (.cons rfl .nil))))))),rfl⟩,skip hp0,zdc (by omega)⟩
  ·have hc:¬ (k:Int)<(x.ev.length:Int):=dF hc;obtain rfl:k=x.ev.length:=by omega
   rw [<- hnn] at oV ⊢;exact⟨(ps,cs),(cvE rfl rfl),oV,hbV⟩
 rintro⟨ps,cs⟩ V ⟨oV,hbV⟩;dsimp only at oV ⊢;have hVs:B<=V.heap.size:=by have:=hbV.size;omega
 have hbwV:=hbX.trans (hbV.mono (by rw [hB];exact hbX.size));have hmask:orG ((List.range n).filter pr)=zcG x md:=by rw [hpr,hnn];rfl
 have hlt64:∀ i∈(List.range n).filter pr,i<64:=fun i hi=>by
  have:=List.mem_range.1 (List.mem_filter.1 hi).1;omega
 have hlen:((List.range n).filter pr).length<=n:=by
  have:=List.length_filter_le pr (List.range n);rw [List.length_range] at this;exact this
 refine⟨Unit,fun _=>⟨[(0,At0 b),(4,At0 L),(5,i64 n),(9,s64 (zcG x md))],[]⟩,fun _ Y=>V=Y,?_,?_⟩
 ·refine cmo (Of_c oV.row hlt64 (by omega)) ?_;rintro e Y ⟨rfl,rfl⟩;rw [hmask];exact⟨(),(cvE rfl rfl),rfl⟩
 rintro _ _ rfl;have hm64:zcG x md<2^64:=by rw [<- hmask];exact zox hlt64
 replace f0:=zab (by subst hB;exact hbV) f0;have fV:=zab hbwV fx;have hvV:=hv.below hbwV;have hTV:=hT.below hbwV;clear oV hbX hbV hlen hlt64 hmask hpr hB hVs;clear B ps cs pr X;have idw:WrdR (idR n (zcG x md)).to:=fun i hi=>by
  unfold idR;exact zej (fun i _ _=>Nat.lt_of_le_of_lt Nat.and_le_left hm64) i hi
 have hba:∀ (A:World) (o:Obj),Bw A (A.alloc o):=fun A o=>(zba _ _);refine⟨Nat,fun F=>⟨[(0,At0 b),(4,At0 L),(11,At0 F)],[]⟩,fun F Z=>RelH Z F (zbJ x.po (idR n (zcG x md))).1/\RelH Z L zav/\Bw w Z,?_,?_⟩
 ·have dV:Bw V V.drew:=(Below.refl _ _).drew;have put:∀ (W:World) (b3:Nat),Bw V W->RelH W b3 zav->V.heap.size<=b3->∀ {K:World->Prop},(∀ Y,(RelH Y b3 (zbJ x.po (idR n (zcG x md))).1/\RelH Y L zav/\Bw w Y)->K Y) ->
    SatR ((storeVar 102 ⟨b3,0,none⟩ (.agg (relC (zbJ x.po (idR n (zcG x md))).1).toArray)).run Tryz.prog W) fun _ w'=>K w':=by
   intro W b3 hW f3 g3 K k;refine zam (v := .agg (relC (zbJ x.po (idR n (zcG x md))).1).toArray) k102 f3 (zad _) (zad _) (zau _) ?_;have hL2:=hlt f0;exact k _ ⟨zaj f3,(zao (by omega)).trans (zab hW f0),zag ((zst hbwV hW)) (by have:=hbwV.size;omega) _⟩
  refine DrawE.treeQ [12] (.op 0 (.op 1 (.op 2 (.op 3 (.op 4 (.op 5 (.alt (.op 11 (.op 6 (.op 7 (.op 8 (.op 9 (.op 10 (.op 12 (.op 13 (.nil))))))))) (.op 6 (.alt (.op 11 (.op 7 (.op 8 (.op 9 (.op 10 (.op 12 (.op 13 (.nil)))))))) (.op 7 (.op 8 (.op 9 (.op 10 (.op 11 (.op 12 (.op 13 (.nil))))))))))))))))) (by kernel_rfl) ?_;refine⟨relC x.po,zad _,zbh (hdr fV) (i:=0) (by decide) rfl,hlt (hdr fV),?_⟩;refine And.intro ?_ ?_
  ·refine⟨hba _ _,?_⟩;have b1:=dV.alloc (Nat.le_refl _) (.cells (relC zav).toArray 102);refine cmo (Id_c (n:=n) (by omega) hm64) ?_;rintro e Y ⟨rfl,hbY⟩;refine⟨hbY,?_⟩;have b2:=zst b1 hbY;refine cmo (zdK hvV.po idw (hTV.below b2)) ?_;rintro e Z ⟨rfl,hbZ⟩;refine⟨hbZ,?_⟩;refine put Z V.heap.size ((zst b2 hbZ)) (zab hbZ (zab hbY (hnew V.drew _))) (Nat.le_refl _) ?_;exact fun Y hY=>⟨V.heap.size,(cvE rfl rfl),hY⟩
  refine cmo (Id_c (n:=n) (by omega) hm64) ?_;rintro e Y ⟨rfl,hbY⟩;refine⟨hbY,?_⟩;have b1:=zst dV hbY;refine And.intro ?_ ?_
  ·refine⟨hba _ _,?_⟩;have b2:=b1.alloc b1.size (.cells (relC zav).toArray 102);refine cmo (zdK hvV.po idw (hTV.below b2)) ?_;rintro e Z ⟨rfl,hbZ⟩;refine⟨hbZ,?_⟩;refine put Z Y.heap.size ((zst b2 hbZ)) (zab hbZ (hnew Y _)) b1.size ?_;exact fun V2 hV=>⟨Y.heap.size,(cvE rfl rfl),hV⟩
  ·refine cmo (zdK hvV.po idw (hTV.below b1)) ?_;rintro e Z ⟨rfl,hbZ⟩;refine⟨hbZ,?_⟩;have b2:=zst b1 hbZ;refine⟨hba _ _,?_⟩;refine put _ Z.heap.size (b2.alloc b2.size _) (hnew Z _) b2.size ?_;exact fun V2 hV=>⟨Z.heap.size,(cvE rfl rfl),hV⟩
 clear f0 fV hvV hTV hbwV;clear V;rintro F V ⟨f1,f0,hbV⟩;have fV:=zab hbV fx;have hTV:=hT.below hbV;have hFw:=zdZ hv.po idw;have efen:(zbJ (zbJ x.po (idR n (zcG x md))).1 x.po).1=zaB x md:=by rw [hnn];rfl
 refine⟨Nat,fun G=>⟨[(4,At0 L),(13,At0 G)],[]⟩,fun G Z=>RelH Z G (zaB x md)/\RelH Z L zav/\Bw w Z,?_,?_⟩
 ·have dV:Bw V V.drew:=(Below.refl _ _).drew;have put:∀ (W:World) (b3:Nat),Bw V W->RelH W b3 zav->V.heap.size<=b3->∀ {K:World->Prop},(∀ Y,(RelH Y b3 (zaB x md)/\RelH Y L zav/\Bw w Y)->K Y) ->
    SatR ((storeVar 102 ⟨b3,0,none⟩ (.agg (relC (zaB x md)).toArray)).run Tryz.prog W) fun _ w'=>K w':=by
   intro W b3 hW f3 g3 K k;refine zam (v := .agg (relC (zaB x md)).toArray) k102 f3 (zad _) (zad _) (zau _) ?_;have hL2:=hlt f0;exact k _ ⟨zaj f3,(zao (by omega)).trans (zab hW f0),zag ((zst hbV hW)) (by have:=hbV.size;omega) _⟩
  refine DrawE.treeQ [10] (.op 0 (.op 1 (.op 2 (.op 3 (.op 4 (.alt (.op 9 (.op 5 (.op 6 (.op 7 (.op 8 (.op 10 (.op 11 .nil))))))) (.op 5 (.op 6 (.op 7 (.op 8 (.op 9 (.op 10 (.op 11 .nil))))))))))))) (by kernel_rfl) ?_;refine⟨relC _,zad _,zaa (hdr f1),hlt (hdr f1),?_⟩;refine⟨relC x.po,zad _,zbh (hdr fV) (i:=0) (by decide) rfl,hlt (hdr fV),?_⟩;refine And.intro ?_ ?_
  ·refine⟨hba _ _,?_⟩;have b1:=dV.alloc (Nat.le_refl _) (.cells (relC zav).toArray 102);refine cmo (zdK hFw hv.po (hTV.below b1)) ?_;rintro e Y ⟨rfl,hbY⟩;refine⟨hbY,?_⟩;rw [efen];refine put Y V.heap.size ((zst b1 hbY)) (zab hbY (hnew V.drew _)) (Nat.le_refl _) ?_;exact fun Y hY=>⟨V.heap.size,(cvE rfl rfl),hY⟩
  ·refine cmo (zdK hFw hv.po (hTV.below dV)) ?_;rintro e Y ⟨rfl,hbY⟩;refine⟨hbY,?_⟩;have b1:=zst dV hbY;refine⟨hba _ _,?_⟩;rw [efen];refine put _ Y.heap.size (b1.alloc b1.size _) (hnew Y _) b1.size ?_;exact fun V2 hV=>⟨Y.heap.size,(cvE rfl rfl),hV⟩
 rintro G Z ⟨f1,f0,hbZ⟩;refine⟨relC (zaB x md),zad _,zaa f1,hlt f1,?_⟩;refine zam (v := .agg (relC (zaB x md)).toArray) k102 f0 (zad _) (zad _) (zau _) ?_;exact⟨relC (zaB x md),zad _,zaa (zaj f0),rfl,zag hbZ (by omega) _⟩
end
section
variable {w:World} {b c:Nat} {x:ExD} {q:Option Addr} {f l s:RelD}
theorem zpg {a d:Nat}:CB 259 #[At0 b,i64 (a:Nat),i64 (d:Nat)] w (.bool (zg7 1 x f l s a d)):=by
 refine cofE 7 [At0 b,i64 (a:Nat),i64 (d:Nat)] Tryz.func259 ?_;exact⟨rfl,Below.refl _ _⟩
theorem zpf {a d:Nat}:CB 260 #[At0 b,i64 (a:Nat),i64 (d:Nat)] w (.bool (zg7 2 x f l s a d)):=by
 refine cofE 7 [At0 b,i64 (a:Nat),i64 (d:Nat)] Tryz.func260 ?_;exact⟨rfl,Below.refl _ _⟩
theorem zpe {a d:Nat} (h:ScnV w b x q c f l s) (ha:a<x.ev.length) (hd:d<x.ev.length):CB 261 #[At0 b,i64 (a:Nat),i64 (d:Nat)] w (.bool (zg7 3 x f l s a d)):=by
 refine cofE 21 [At0 b,i64 (a:Nat),i64 (d:Nat)] Tryz.func261 ?_;have hn:=h.v.n;have hA:a<48:=by omega
 have hD:d<48:=by omega
 have hbw:=Below.refl w.heap.size w;refine cmo (zfs h ha) ?_;rintro e _ ⟨rfl,rfl⟩;refine biE (fun h1=>?_) fun h1=>?_
 ·have h1:isR x a=true:=h1;refine brT ?_;exact⟨rb (by show _=(isR x a||(isW x d||zcc x f a d));rw [h1];rfl),hbw⟩
 ·have h1:isR x a=false:=h1;refine cmo (zbj h hd) ?_;rintro e _ ⟨rfl,rfl⟩;refine biE (fun h2=>?_) fun h2=>?_
  ·have h2:isW x d=true:=h2;exact⟨rb (by show _=(isR x a||(isW x d||zcc x f a d));rw [h1,h2];rfl),hbw⟩
  ·have h2:isW x d=false:=h2;refine cmo (zmP h ha hd) ?_;rintro e _ ⟨rfl,rfl⟩;exact⟨rb (by show _=(isR x a||(isW x d||zcc x f a d));rw [h1,h2];rfl),hbw⟩
theorem zpd {a d:Nat} (h:ScnV w b x q c f l s) (ha:a<x.ev.length) (hd:d<x.ev.length):CB 265 #[At0 b,i64 (a:Nat),i64 (d:Nat)] w (.bool (zg7 4 x f l s a d)):=by
 refine cofE 37 [At0 b,i64 (a:Nat),i64 (d:Nat)] Tryz.func265 ?_;have hn:=h.v.n;have hA:a<48:=by omega
 have hD:d<48:=by omega
 have hbw:=Below.refl w.heap.size w;refine cmo (zfs h ha) ?_;rintro e _ ⟨rfl,rfl⟩;refine biE (fun h1=>?_) fun h1=>?_
 ·have h1:isR x a=true:=h1;refine brT ?_;exact⟨rb (by show _=(isR x a||(zcc x f a d||(isW x d&&(zdM x a d||hasM s a d))));rw [h1];rfl),hbw⟩
 ·have h1:isR x a=false:=h1;refine cmo (zmP h ha hd) ?_;rintro e _ ⟨rfl,rfl⟩;refine biE (fun h2=>?_) fun h2=>?_
  ·have h2:zcc x f a d=true:=h2;exact⟨rb (by show _=(isR x a||(zcc x f a d||(isW x d&&(zdM x a d||hasM s a d))));rw [h1,h2];rfl),hbw⟩
  ·have h2:zcc x f a d=false:=h2;refine cmo (zbj h hd) ?_;rintro e _ ⟨rfl,rfl⟩;refine biE (fun h3=>?_) fun h3=>?_
   ·have h3:isW x d=true:=h3;refine cmo (zow h.cells h.v.ev ha hd) ?_;rintro e Z4 ⟨rfl,hbZ4⟩;have h:=h.below hbZ4;have hbw:=zst hbw hbZ4;refine biE (fun h4=>?_) fun h4=>?_
    ·have h4:zdM x a d=true:=h4;exact⟨rb (by show _=(isR x a||(zcc x f a d||(isW x d&&(zdM x a d||hasM s a d))));rw [h1,h2,h3,h4];rfl),hbw⟩
    ·have h4:zdM x a d=false:=h4;refine cmo (zay h.stores h.ws hA hD) ?_;rintro e _ ⟨rfl,rfl⟩;exact⟨rb (by show _=(isR x a||(zcc x f a d||(isW x d&&(zdM x a d||hasM s a d))));rw [h1,h2,h3,h4];rfl),hbw⟩
   ·have h3:isW x d=false:=h3;exact⟨rb (by show _=(isR x a||(zcc x f a d||(isW x d&&(zdM x a d||hasM s a d))));rw [h1,h2,h3];rfl),hbw⟩
theorem zpc {a d:Nat} (h:ScnV w b x q c f l s) (ha:a<x.ev.length) (hd:d<x.ev.length):CB 266 #[At0 b,i64 (a:Nat),i64 (d:Nat)] w (.bool (zg7 5 x f l s a d)):=by
 refine cofE 49 [At0 b,i64 (a:Nat),i64 (d:Nat)] Tryz.func266 ?_;have hn:=h.v.n;have hA:a<48:=by omega
 have hD:d<48:=by omega
 have hbw:=Below.refl w.heap.size w;refine cmo (zfs h ha) ?_;rintro e _ ⟨rfl,rfl⟩;refine biE (fun h1=>?_) fun h1=>?_
 ·have h1:isR x a=true:=h1;refine cmo (zd0 (md:=1) h ha) ?_;rintro e _ ⟨rfl,rfl⟩;refine biE (fun h2=>?_) fun h2=>?_
  ·have h2:zaE x a 1=true:=h2;refine brT ?_;refine brT ?_;exact⟨rb (by show _=((isR x a&&(zaE x a 1||hasM l a d))||((isW x d&&(zaE x d 2||hasM s a d))||hasM f a d));rw [h1,h2];rfl),hbw⟩
  ·have h2:zaE x a 1=false:=h2;refine cmo (zay h.loads h.wl hA hD) ?_;rintro e _ ⟨rfl,rfl⟩;refine biE (fun h3=>?_) fun h3=>?_
   ·have h3:hasM l a d=true:=h3;refine brT ?_;exact⟨rb (by show _=((isR x a&&(zaE x a 1||hasM l a d))||((isW x d&&(zaE x d 2||hasM s a d))||hasM f a d));rw [h1,h2,h3];rfl),hbw⟩
   ·have h3:hasM l a d=false:=h3;refine cmo (zbj h hd) ?_;rintro e _ ⟨rfl,rfl⟩;refine biE (fun h4=>?_) fun h4=>?_
    ·have h4:isW x d=true:=h4;refine cmo (zd0 (md:=2) h hd) ?_;rintro e _ ⟨rfl,rfl⟩;refine biE (fun h5=>?_) fun h5=>?_
     ·have h5:zaE x d 2=true:=h5;refine brT ?_;exact⟨rb (by show _=((isR x a&&(zaE x a 1||hasM l a d))||((isW x d&&(zaE x d 2||hasM s a d))||hasM f a d));rw [h1,h2,h3,h4,h5];rfl),hbw⟩
     ·have h5:zaE x d 2=false:=h5;refine cmo (zay h.stores h.ws hA hD) ?_;rintro e _ ⟨rfl,rfl⟩;refine biE (fun h6=>?_) fun h6=>?_
      ·have h6:hasM s a d=true:=h6;exact⟨rb (by show _=((isR x a&&(zaE x a 1||hasM l a d))||((isW x d&&(zaE x d 2||hasM s a d))||hasM f a d));rw [h1,h2,h3,h4,h5,h6];rfl),hbw⟩
      ·have h6:hasM s a d=false:=h6;refine cmo (zay h.full h.wf hA hD) ?_;rintro e _ ⟨rfl,rfl⟩;exact⟨rb (by show _=((isR x a&&(zaE x a 1||hasM l a d))||((isW x d&&(zaE x d 2||hasM s a d))||hasM f a d));rw [h1,h2,h3,h4,h5,h6];rfl),hbw⟩
    ·have h4:isW x d=false:=h4;refine brF ?_;refine cmo (zay h.full h.wf hA hD) ?_;rintro e _ ⟨rfl,rfl⟩;exact⟨rb (by show _=((isR x a&&(zaE x a 1||hasM l a d))||((isW x d&&(zaE x d 2||hasM s a d))||hasM f a d));rw [h1,h2,h3,h4];rfl),hbw⟩
 ·have h1:isR x a=false:=h1;refine brF ?_;refine cmo (zbj h hd) ?_;rintro e _ ⟨rfl,rfl⟩;refine biE (fun h9=>?_) fun h9=>?_
  ·have h9:isW x d=true:=h9;refine cmo (zd0 (md:=2) h hd) ?_;rintro e _ ⟨rfl,rfl⟩;refine biE (fun h10=>?_) fun h10=>?_
   ·have h10:zaE x d 2=true:=h10;refine brT ?_;exact⟨rb (by show _=((isR x a&&(zaE x a 1||hasM l a d))||((isW x d&&(zaE x d 2||hasM s a d))||hasM f a d));rw [h1,h9,h10];rfl),hbw⟩
   ·have h10:zaE x d 2=false:=h10;refine cmo (zay h.stores h.ws hA hD) ?_;rintro e _ ⟨rfl,rfl⟩;refine biE (fun h11=>?_) fun h11=>?_
    ·have h11:hasM s a d=true:=h11;exact⟨rb (by show _=((isR x a&&(zaE x a 1||hasM l a d))||((isW x d&&(zaE x d 2||hasM s a d))||hasM f a d));rw [h1,h9,h10,h11];rfl),hbw⟩
    ·have h11:hasM s a d=false:=h11;refine cmo (zay h.full h.wf hA hD) ?_;rintro e _ ⟨rfl,rfl⟩;exact⟨rb (by show _=((isR x a&&(zaE x a 1||hasM l a d))||((isW x d&&(zaE x d 2||hasM s a d))||hasM f a d));rw [h1,h9,h10,h11];rfl),hbw⟩
  ·have h9:isW x d=false:=h9;refine brF ?_;refine cmo (zay h.full h.wf hA hD) ?_;rintro e _ ⟨rfl,rfl⟩;exact⟨rb (by show _=((isR x a&&(zaE x a 1||hasM l a d))||((isW x d&&(zaE x d 2||hasM s a d))||hasM f a d));rw [h1,h9];rfl),hbw⟩
theorem zpb {a d:Nat} (h:ScnV w b x q c f l s) (ha:a<x.ev.length) (hd:d<x.ev.length):CB 268 #[At0 b,i64 (a:Nat),i64 (d:Nat)] w (.bool (zg7 6 x f l s a d)):=by
 refine cofE 81 [At0 b,i64 (a:Nat),i64 (d:Nat)] Tryz.func268 ?_;have hn:=h.v.n;have hA:a<48:=by omega
 have hD:d<48:=by omega
 have hbw:=Below.refl w.heap.size w;refine cmo (zay (zgB h.cells (zq8 x q c)) h.v.dt hA hD) ?_;rintro e _ ⟨rfl,rfl⟩;refine biE (fun h1=>?_) fun h1=>?_
 ·have h1:hasM x.dt a d=true:=h1;refine brT ?_;refine brT ?_;refine brT ?_;refine brT ?_;exact⟨rb (by show _=(hasM x.dt a d||((hasM x.ct a d&&isW x d)||(hasM x.rm a d||(hasM f a d||((hasM l a d&&(isR x a&&isR x d))||(hasM s a d&&(isW x a&&isW x d)))))));rw [h1];rfl),hbw⟩
 ·have h1:hasM x.dt a d=false:=h1;refine cmo (zay (zgB h.cells (zq9 x q c)) h.v.ct hA hD) ?_;rintro e _ ⟨rfl,rfl⟩;refine biE (fun h2=>?_) fun h2=>?_
  ·have h2:hasM x.ct a d=true:=h2;refine cmo (zbj h hd) ?_;rintro e _ ⟨rfl,rfl⟩;refine biE (fun h3=>?_) fun h3=>?_
   ·have h3:isW x d=true:=h3;refine brT ?_;refine brT ?_;refine brT ?_;exact⟨rb (by show _=(hasM x.dt a d||((hasM x.ct a d&&isW x d)||(hasM x.rm a d||(hasM f a d||((hasM l a d&&(isR x a&&isR x d))||(hasM s a d&&(isW x a&&isW x d)))))));rw [h1,h2,h3];rfl),hbw⟩
   ·have h3:isW x d=false:=h3;refine cmo (zay (zgB h.cells (zoH x q c)) h.v.rm hA hD) ?_;rintro e _ ⟨rfl,rfl⟩;refine biE (fun h4=>?_) fun h4=>?_
    ·have h4:hasM x.rm a d=true:=h4;refine brT ?_;refine brT ?_;exact⟨rb (by show _=(hasM x.dt a d||((hasM x.ct a d&&isW x d)||(hasM x.rm a d||(hasM f a d||((hasM l a d&&(isR x a&&isR x d))||(hasM s a d&&(isW x a&&isW x d)))))));rw [h1,h2,h3,h4];rfl),hbw⟩
    ·have h4:hasM x.rm a d=false:=h4;refine cmo (zay h.full h.wf hA hD) ?_;rintro e _ ⟨rfl,rfl⟩;refine biE (fun h5=>?_) fun h5=>?_
     ·have h5:hasM f a d=true:=h5;refine brT ?_;exact⟨rb (by show _=(hasM x.dt a d||((hasM x.ct a d&&isW x d)||(hasM x.rm a d||(hasM f a d||((hasM l a d&&(isR x a&&isR x d))||(hasM s a d&&(isW x a&&isW x d)))))));rw [h1,h2,h3,h4,h5];rfl),hbw⟩
     ·have h5:hasM f a d=false:=h5;refine cmo (zay h.loads h.wl hA hD) ?_;rintro e _ ⟨rfl,rfl⟩;refine biE (fun h6=>?_) fun h6=>?_
      ·have h6:hasM l a d=true:=h6;refine cmo (zfs h ha) ?_;rintro e _ ⟨rfl,rfl⟩;refine biE (fun h7=>?_) fun h7=>?_
       ·have h7:isR x a=true:=h7;refine cmo (zfs h hd) ?_;rintro e _ ⟨rfl,rfl⟩;refine biE (fun h8=>?_) fun h8=>?_
        ·have h8:isR x d=true:=h8;exact⟨rb (by show _=(hasM x.dt a d||((hasM x.ct a d&&isW x d)||(hasM x.rm a d||(hasM f a d||((hasM l a d&&(isR x a&&isR x d))||(hasM s a d&&(isW x a&&isW x d)))))));rw [h1,h2,h3,h4,h5,h6,h7,h8];rfl),hbw⟩
        ·have h8:isR x d=false:=h8;refine cmo (zay h.stores h.ws hA hD) ?_;rintro e _ ⟨rfl,rfl⟩;refine biE (fun h9=>?_) fun h9=>?_
         ·have h9:hasM s a d=true:=h9;refine cmo (zbj h ha) ?_;rintro e _ ⟨rfl,rfl⟩;refine biE (fun h10=>?_) fun h10=>?_
          ·have h10:isW x a=true:=h10;refine cmo (zbj h hd) ?_;rintro e _ ⟨rfl,rfl⟩;exact⟨rb (by show _=(hasM x.dt a d||((hasM x.ct a d&&isW x d)||(hasM x.rm a d||(hasM f a d||((hasM l a d&&(isR x a&&isR x d))||(hasM s a d&&(isW x a&&isW x d)))))));rw [h1,h2,h3,h4,h5,h6,h7,h8,h9,h10];rfl),hbw⟩
          ·have h10:isW x a=false:=h10;exact⟨rb (by show _=(hasM x.dt a d||((hasM x.ct a d&&isW x d)||(hasM x.rm a d||(hasM f a d||((hasM l a d&&(isR x a&&isR x d))||(hasM s a d&&(isW x a&&isW x d)))))));rw [h1,h2,h3,h4,h5,h6,h7,h8,h9,h10];rfl),hbw⟩
         ·have h9:hasM s a d=false:=h9;refine brF ?_;exact⟨rb (by show _=(hasM x.dt a d||((hasM x.ct a d&&isW x d)||(hasM x.rm a d||(hasM f a d||((hasM l a d&&(isR x a&&isR x d))||(hasM s a d&&(isW x a&&isW x d)))))));rw [h1,h2,h3,h4,h5,h6,h7,h8,h9];rfl),hbw⟩
       ·have h7:isR x a=false:=h7;refine brF ?_;refine cmo (zay h.stores h.ws hA hD) ?_;rintro e _ ⟨rfl,rfl⟩;refine biE (fun h12=>?_) fun h12=>?_
        ·have h12:hasM s a d=true:=h12;refine cmo (zbj h ha) ?_;rintro e _ ⟨rfl,rfl⟩;refine biE (fun h13=>?_) fun h13=>?_
         ·have h13:isW x a=true:=h13;refine cmo (zbj h hd) ?_;rintro e _ ⟨rfl,rfl⟩;exact⟨rb (by show _=(hasM x.dt a d||((hasM x.ct a d&&isW x d)||(hasM x.rm a d||(hasM f a d||((hasM l a d&&(isR x a&&isR x d))||(hasM s a d&&(isW x a&&isW x d)))))));rw [h1,h2,h3,h4,h5,h6,h7,h12,h13];rfl),hbw⟩
         ·have h13:isW x a=false:=h13;exact⟨rb (by show _=(hasM x.dt a d||((hasM x.ct a d&&isW x d)||(hasM x.rm a d||(hasM f a d||((hasM l a d&&(isR x a&&isR x d))||(hasM s a d&&(isW x a&&isW x d)))))));rw [h1,h2,h3,h4,h5,h6,h7,h12,h13];rfl),hbw⟩
        ·have h12:hasM s a d=false:=h12;refine brF ?_;exact⟨rb (by show _=(hasM x.dt a d||((hasM x.ct a d&&isW x d)||(hasM x.rm a d||(hasM f a d||((hasM l a d&&(isR x a&&isR x d))||(hasM s a d&&(isW x a&&isW x d)))))));rw [h1,h2,h3,h4,h5,h6,h7,h12];rfl),hbw⟩
      ·have h6:hasM l a d=false:=h6;refine brF ?_;refine brF ?_;refine cmo (zay h.stores h.ws hA hD) ?_;rintro e _ ⟨rfl,rfl⟩;refine biE (fun h15=>?_) fun h15=>?_
       ·have h15:hasM s a d=true:=h15;refine cmo (zbj h ha) ?_;rintro e _ ⟨rfl,rfl⟩;refine biE (fun h16=>?_) fun h16=>?_
        ·have h16:isW x a=true:=h16;refine cmo (zbj h hd) ?_;rintro e _ ⟨rfl,rfl⟩;exact⟨rb (by show _=(hasM x.dt a d||((hasM x.ct a d&&isW x d)||(hasM x.rm a d||(hasM f a d||((hasM l a d&&(isR x a&&isR x d))||(hasM s a d&&(isW x a&&isW x d)))))));rw [h1,h2,h3,h4,h5,h6,h15,h16];rfl),hbw⟩
        ·have h16:isW x a=false:=h16;exact⟨rb (by show _=(hasM x.dt a d||((hasM x.ct a d&&isW x d)||(hasM x.rm a d||(hasM f a d||((hasM l a d&&(isR x a&&isR x d))||(hasM s a d&&(isW x a&&isW x d)))))));rw [h1,h2,h3,h4,h5,h6,h15,h16];rfl),hbw⟩
       ·have h15:hasM s a d=false:=h15;refine brF ?_;exact⟨rb (by show _=(hasM x.dt a d||((hasM x.ct a d&&isW x d)||(hasM x.rm a d||(hasM f a d||((hasM l a d&&(isR x a&&isR x d))||(hasM s a d&&(isW x a&&isW x d)))))));rw [h1,h2,h3,h4,h5,h6,h15];rfl),hbw⟩
  ·have h2:hasM x.ct a d=false:=h2;refine brF ?_;refine cmo (zay (zgB h.cells (zoH x q c)) h.v.rm hA hD) ?_;rintro e _ ⟨rfl,rfl⟩;refine biE (fun h18=>?_) fun h18=>?_
   ·have h18:hasM x.rm a d=true:=h18;refine brT ?_;refine brT ?_;exact⟨rb (by show _=(hasM x.dt a d||((hasM x.ct a d&&isW x d)||(hasM x.rm a d||(hasM f a d||((hasM l a d&&(isR x a&&isR x d))||(hasM s a d&&(isW x a&&isW x d)))))));rw [h1,h2,h18];rfl),hbw⟩
   ·have h18:hasM x.rm a d=false:=h18;refine cmo (zay h.full h.wf hA hD) ?_;rintro e _ ⟨rfl,rfl⟩;refine biE (fun h19=>?_) fun h19=>?_
    ·have h19:hasM f a d=true:=h19;refine brT ?_;exact⟨rb (by show _=(hasM x.dt a d||((hasM x.ct a d&&isW x d)||(hasM x.rm a d||(hasM f a d||((hasM l a d&&(isR x a&&isR x d))||(hasM s a d&&(isW x a&&isW x d)))))));rw [h1,h2,h18,h19];rfl),hbw⟩
    ·have h19:hasM f a d=false:=h19;refine cmo (zay h.loads h.wl hA hD) ?_;rintro e _ ⟨rfl,rfl⟩;refine biE (fun h20=>?_) fun h20=>?_
     ·have h20:hasM l a d=true:=h20;refine cmo (zfs h ha) ?_;rintro e _ ⟨rfl,rfl⟩;refine biE (fun h21=>?_) fun h21=>?_
      ·have h21:isR x a=true:=h21;refine cmo (zfs h hd) ?_;rintro e _ ⟨rfl,rfl⟩;refine biE (fun h22=>?_) fun h22=>?_
       ·have h22:isR x d=true:=h22;exact⟨rb (by show _=(hasM x.dt a d||((hasM x.ct a d&&isW x d)||(hasM x.rm a d||(hasM f a d||((hasM l a d&&(isR x a&&isR x d))||(hasM s a d&&(isW x a&&isW x d)))))));rw [h1,h2,h18,h19,h20,h21,h22];rfl),hbw⟩
       ·have h22:isR x d=false:=h22;refine cmo (zay h.stores h.ws hA hD) ?_;rintro e _ ⟨rfl,rfl⟩;refine biE (fun h23=>?_) fun h23=>?_
        ·have h23:hasM s a d=true:=h23;refine cmo (zbj h ha) ?_;rintro e _ ⟨rfl,rfl⟩;refine biE (fun h24=>?_) fun h24=>?_
         ·have h24:isW x a=true:=h24;refine cmo (zbj h hd) ?_;rintro e _ ⟨rfl,rfl⟩;exact⟨rb (by show _=(hasM x.dt a d||((hasM x.ct a d&&isW x d)||(hasM x.rm a d||(hasM f a d||((hasM l a d&&(isR x a&&isR x d))||(hasM s a d&&(isW x a&&isW x d)))))));rw [h1,h2,h18,h19,h20,h21,h22,h23,h24];rfl),hbw⟩
         ·have h24:isW x a=false:=h24;exact⟨rb (by show _=(hasM x.dt a d||((hasM x.ct a d&&isW x d)||(hasM x.rm a d||(hasM f a d||((hasM l a d&&(isR x a&&isR x d))||(hasM s a d&&(isW x a&&isW x d)))))));rw [h1,h2,h18,h19,h20,h21,h22,h23,h24];rfl),hbw⟩
        ·have h23:hasM s a d=false:=h23;refine brF ?_;exact⟨rb (by show _=(hasM x.dt a d||((hasM x.ct a d&&isW x d)||(hasM x.rm a d||(hasM f a d||((hasM l a d&&(isR x a&&isR x d))||(hasM s a d&&(isW x a&&isW x d)))))));rw [h1,h2,h18,h19,h20,h21,h22,h23];rfl),hbw⟩
      ·have h21:isR x a=false:=h21;refine brF ?_;refine cmo (zay h.stores h.ws hA hD) ?_;rintro e _ ⟨rfl,rfl⟩;refine biE (fun h26=>?_) fun h26=>?_
       ·have h26:hasM s a d=true:=h26;refine cmo (zbj h ha) ?_;rintro e _ ⟨rfl,rfl⟩;refine biE (fun h27=>?_) fun h27=>?_
        ·have h27:isW x a=true:=h27;refine cmo (zbj h hd) ?_;rintro e _ ⟨rfl,rfl⟩;exact⟨rb (by show _=(hasM x.dt a d||((hasM x.ct a d&&isW x d)||(hasM x.rm a d||(hasM f a d||((hasM l a d&&(isR x a&&isR x d))||(hasM s a d&&(isW x a&&isW x d)))))));rw [h1,h2,h18,h19,h20,h21,h26,h27];rfl),hbw⟩
        ·have h27:isW x a=false:=h27;exact⟨rb (by show _=(hasM x.dt a d||((hasM x.ct a d&&isW x d)||(hasM x.rm a d||(hasM f a d||((hasM l a d&&(isR x a&&isR x d))||(hasM s a d&&(isW x a&&isW x d)))))));rw [h1,h2,h18,h19,h20,h21,h26,h27];rfl),hbw⟩
       ·have h26:hasM s a d=false:=h26;refine brF ?_;exact⟨rb (by show _=(hasM x.dt a d||((hasM x.ct a d&&isW x d)||(hasM x.rm a d||(hasM f a d||((hasM l a d&&(isR x a&&isR x d))||(hasM s a d&&(isW x a&&isW x d)))))));rw [h1,h2,h18,h19,h20,h21,h26];rfl),hbw⟩
     ·have h20:hasM l a d=false:=h20;refine brF ?_;refine brF ?_;refine cmo (zay h.stores h.ws hA hD) ?_;rintro e _ ⟨rfl,rfl⟩;refine biE (fun h29=>?_) fun h29=>?_
      ·have h29:hasM s a d=true:=h29;refine cmo (zbj h ha) ?_;rintro e _ ⟨rfl,rfl⟩;refine biE (fun h30=>?_) fun h30=>?_
       ·have h30:isW x a=true:=h30;refine cmo (zbj h hd) ?_;rintro e _ ⟨rfl,rfl⟩;exact⟨rb (by show _=(hasM x.dt a d||((hasM x.ct a d&&isW x d)||(hasM x.rm a d||(hasM f a d||((hasM l a d&&(isR x a&&isR x d))||(hasM s a d&&(isW x a&&isW x d)))))));rw [h1,h2,h18,h19,h20,h29,h30];rfl),hbw⟩
       ·have h30:isW x a=false:=h30;exact⟨rb (by show _=(hasM x.dt a d||((hasM x.ct a d&&isW x d)||(hasM x.rm a d||(hasM f a d||((hasM l a d&&(isR x a&&isR x d))||(hasM s a d&&(isW x a&&isW x d)))))));rw [h1,h2,h18,h19,h20,h29,h30];rfl),hbw⟩
      ·have h29:hasM s a d=false:=h29;refine brF ?_;exact⟨rb (by show _=(hasM x.dt a d||((hasM x.ct a d&&isW x d)||(hasM x.rm a d||(hasM f a d||((hasM l a d&&(isR x a&&isR x d))||(hasM s a d&&(isW x a&&isW x d)))))));rw [h1,h2,h18,h19,h20,h29];rfl),hbw⟩
end
abbrev zd1:List Value:=[.nilFunc,.func (.func 259) #[] #[],.func (.func 260) #[] #[],.func (.func 261) #[] #[],.func (.func 265) #[] #[],.func (.func 266) #[] #[],.func (.func 268) #[] #[]]
section
variable {b c:Nat} {x:ExD} {q:Option Addr} {w:World} {f l s:RelD}
theorem zpa:CB 230 #[] w (.agg zd1.toArray):=by
 refine cofM 8 [] (.c .p .p) Tryz.func230 ?_;obtain⟨L,hL⟩:=nm (w.heap.size);refine⟨Unit,fun _=>⟨[(0,At0 L)],[]⟩,fun _ X=>X.heap[L]?=some (.cells #[.nilFunc,.nilFunc,.nilFunc,.nilFunc,.nilFunc,.nilFunc,.nilFunc] 318 (0,0))/\Bw w X,⟨(),⟨.cons (by rw [hL];rfl) .nil,rfl⟩,by rw [hL];exact hnew w _,(zba w _)⟩,?_⟩;rintro _ X ⟨f0,hbX⟩;refine⟨[.func (.func 259) #[] #[]],by kernel_rfl,?_⟩;refine⟨[.func (.func 260) #[] #[]],by kernel_rfl,?_⟩;refine⟨[.func (.func 261) #[] #[]],by kernel_rfl,?_⟩;refine⟨[.func (.func 265) #[] #[]],by kernel_rfl,?_⟩;refine⟨[.func (.func 266) #[] #[]],by kernel_rfl,?_⟩;refine⟨[.func (.func 268) #[] #[]],by kernel_rfl,?_⟩;refine⟨zd1,by kernel_rfl,?_⟩;refine zam (v := .agg zd1.toArray) k318 f0 rfl rfl rfl ?_;exact⟨zd1,rfl,zaa (zaj f0),rfl,zag hbX (by omega) _⟩
theorem zeA {S Rb Mb Sv g a d:Nat} {m:UInt8} {K:Bool} (hs:ScnV w S x q c f l s) (fSv:w.heap[Sv]?=some (.cells #[At0 S] 311 (0,0))) (fR:w.heap[Rb]?=some (.cells zd1.toArray 318 (0,0))) (fM:w.heap[Mb]?=some (.cells #[u8 m] 5 (0,0)))
  (hm7:m.toNat<7) (hm:zd1[m.toNat]?=some (.func (.func g) #[] #[])) (hok:zbr (sg 0) g=true) (hK:∀ X,Bw w X->Calls Tryz.prog g #[At0 S,i64 (a:Nat),i64 (d:Nat)] X fun e Y=>e = .returned (.bool K)/\Bw X Y) (ha:a<x.ev.length) (hd:d<x.ev.length) :
  CB 231 #[i64 (a:Nat),i64 (d:Nat),At0 Sv,At0 Rb,At0 Mb] w (.bool (hasM x.po a d&&(accA x a&&(accA x d&&K)))):=by
 refine cofE 47 [i64 (a:Nat),i64 (d:Nat),At0 Sv,At0 Rb,At0 Mb] Tryz.func231 ?_;have hn:=hs.v.n;have fx:=hs.cells;obtain⟨bq,oq,hqe,hb,hat⟩:=zdH hs.v.ev ha;obtain⟨bq2,oq2,hqe2,hb2,hat2⟩:=zdH hs.v.ev hd;rw [hqe] at hqe2;simp only [Option.some.injEq,Addr.mk.injEq,and_true] at hqe2;rw [<- hqe2.1,<- hqe2.2] at hat2;have hpo:=hs.v.po;subst hqe;have dw:Bw w w.drew:=(Below.refl _ _).drew;refine DrawE.ord [] [0,1,2,3,4,5,6,7,8,9,10,11,12,13,14,15,16,17,18,19,20,21,22,23,24,25,26,27,28,29,30,31,32,33,34,35,36,37,38,39] (by kernel_rfl) ?_;refine⟨At0 S,zac (zaa (hdr fSv)) (i:=0) rfl,?_⟩;refine cmo (zay (zgB (zaq dw fx) (zoI x _ c)) hpo (by omega) (by omega)) ?_;rintro e _ ⟨rfl,rfl⟩;refine⟨Below.refl _ _,?_⟩;refine biE (fun h1=>?_) fun h1=>?_
 ·have h1:hasM x.po a d=true:=h1;refine⟨At0 S,zac (zaa (hdr fSv)) (i:=0) rfl,?_⟩;refine⟨_,zca (zaq dw fx),?_⟩;refine⟨a,rfl,ha,?_⟩;refine⟨evE.enc (evA x a),rfl,zaq dw hat,nL hb dw.size,?_⟩;refine cmo zfg ?_;rintro e X ⟨rfl,hbX⟩;refine⟨hbX,?_⟩;have bX:=dw.trans hbX;rw [zj9];refine biE (fun h2=>?_) fun h2=>?_
  ·have h2:accA x a=true:=h2;refine⟨At0 S,zac (zaa (zab bX fSv)) (i:=0) rfl,?_⟩;refine⟨_,zca (zaq bX fx),?_⟩;refine⟨d,rfl,hd,?_⟩;refine⟨evE.enc (evA x d),rfl,zaq bX hat2,nL hb bX.size,?_⟩;refine cmo zfg ?_;rintro e Y ⟨rfl,hbY⟩;refine⟨hbY,?_⟩;have bY:=zst bX hbY;rw [zj9];refine biE (fun h3=>?_) fun h3=>?_
   ·have h3:accA x d=true:=h3;refine⟨u8 m,zac (zaa (zab bY fM)) (i:=0) rfl,?_⟩;refine⟨m.toNat,rfl,hm7,?_⟩;refine⟨.func (.func g) #[] #[],by have:=zac (zaa (zab bY fR)) (i:=m.toNat) (v := .func (.func g) #[] #[]) hm;rw [Nat.mul_one];exact this,?_⟩;refine⟨At0 S,zac (zaa (zab bY fSv)) (i:=0) rfl,?_⟩;refine zhk hok (hK Y bY) ?_;rintro e Z ⟨rfl,hbZ⟩;refine⟨_,rfl,hbZ,?_⟩;exact⟨rb (by rw [h1,h2,h3];rfl),(zst bY hbZ)⟩
   ·have h3:accA x d=false:=h3;exact⟨rb (by rw [h1,h2,h3];rfl),bY⟩
  ·have h2:accA x a=false:=h2;refine brF ?_;exact⟨rb (by rw [h1,h2];rfl),bX⟩
 ·have h1:hasM x.po a d=false:=h1;refine brF ?_;refine brF ?_;exact⟨rb (by rw [h1];rfl),dw⟩
theorem ziN {m:UInt8} (h:zc3 m.toNat=true):m=1\/m=2\/m=3\/m=4\/m=5\/m=6:=by
 unfold zc3 at h;rw [bAT,dE,dE] at h;simp only [<- UInt8.toNat_inj];show m.toNat=1\/m.toNat=2\/m.toNat=3\/m.toNat=4\/m.toNat=5\/m.toNat=6;omega
theorem zpC {S Rb Mb Sv a d:Nat} {m:UInt8} (hk:zc3 m.toNat=true) (hs:ScnV w S x q c f l s) (fSv:w.heap[Sv]?=some (.cells #[At0 S] 311 (0,0))) (fR:w.heap[Rb]?=some (.cells zd1.toArray 318 (0,0))) (fM:w.heap[Mb]?=some (.cells #[u8 m] 5 (0,0)))
  (ha:a<x.ev.length) (hd:d<x.ev.length) :
  CB 231 #[i64 (a:Nat),i64 (d:Nat),At0 Sv,At0 Rb,At0 Mb] w (.bool (hasM x.po a d&&(accA x a&&(accA x d&&zg7 m.toNat x f l s a d)))):=by
 rcases ziN hk with rfl | rfl | rfl | rfl | rfl | rfl
 ·exact zeA (g:=259) hs fSv fR fM (by decide) rfl (by kernel_rfl) (fun X hb=>zpg) ha hd
 ·exact zeA (g:=260) hs fSv fR fM (by decide) rfl (by kernel_rfl) (fun X hb=>zpf) ha hd
 ·exact zeA (g:=261) hs fSv fR fM (by decide) rfl (by kernel_rfl) (fun X hb=>zpe (hs.below hb) ha hd) ha hd
 ·exact zeA (g:=265) hs fSv fR fM (by decide) rfl (by kernel_rfl) (fun X hb=>zpd (hs.below hb) ha hd) ha hd
 ·exact zeA (g:=266) hs fSv fR fM (by decide) rfl (by kernel_rfl) (fun X hb=>zpc (hs.below hb) ha hd) ha hd
 ·exact zeA (g:=268) hs fSv fR fM (by decide) rfl (by kernel_rfl) (fun X hb=>zpb (hs.below hb) ha hd) ha hd
theorem ziv {X:World} {S o:Nat} {T:TypeId} {A Z:List Value} {r0 r:RelD} (h:X.heap[S]?=some (.cells (A++(relC r0++Z)).toArray T (0,0))) (hA:A.length=o) {K:World->Prop}
  (k:∀ Y,Y.heap[S]?=some (.cells (A++(relC r++Z)).toArray T (0,0))->X.grownBy Y (some S)->Y.heap.size=X.heap.size->K Y) :
  SatR ((storeVar 102 ⟨S,0+o,none⟩ (.agg (relC r).toArray)).run Tryz.prog X) fun _ w'=>K w':=by
 rw [Nat.zero_add];refine zbo k102 h (o:=o) (v := .agg (relC r).toArray) (zad _) (by show o+(relC r).length<=(A++(relC r0++Z)).length;rw [lap,lap,zad,zad];omega) (zau _) fun Y fY gY sY=>k Y (fY.trans ?_) gY sY;show some (Obj.cells ((A++(relC r0++Z)).take o++relC r++(A++(relC r0++Z)).drop (o+(relC r).length)).toArray T (0,0))=_;congr 3;rw [<- hA,List.take_left,zad,List.append_assoc,<- List.drop_drop,List.drop_left,<- zad r0,List.drop_left]
theorem zq1 {m:UInt8} (hk:zc3 m.toNat=true) (fx:ExH w b x q c) (hv:ExV w x q) (hT:Tz64M w):CB 167 #[u8 m,At0 b] w (.agg (relC (zdB m.toNat x)).toArray):=by
 refine cofM 35 [u8 m,At0 b] (.c .p (.c .p (.c .p (.c .p (.c .p .p))))) Tryz.func167 ?_;obtain⟨L,hL⟩:=nm (w.heap.size);have hn:=hv.n;refine⟨Unit,fun _=>⟨[(1,At0 b),(2,At0 L),(4,At0 (L+1))],[]⟩,fun _ X=>X.heap[L]?=some (.cells #[u8 m] 5 (0,0))/\RelH X (L+1) zav/\X.heap.size=L+2/\Bw w X,?_,?_⟩
 ·have s1:=wz w (.cells #[u8 m] 5);have h2:=hnew (w.alloc (.cells #[u8 m] 5)) (.cells (relC zav).toArray 102);have s2:=wz (w.alloc (.cells #[u8 m] 5)) (.cells (relC zav).toArray 102);rw [s1] at h2 s2;have b1:Bw w (w.alloc (.cells #[u8 m] 5)):=zba w _;exact⟨(),⟨.cons rfl (.cons (by rw [hL];rfl) (.cons (by rw [hL,<- s1];rfl) .nil)),rfl⟩,by rw [hL];exact hold _ (hnew w _),by rw [hL];exact h2,by rw [hL];exact s2,b1.alloc b1.size _⟩
 rintro _ X ⟨fM,f0,sX,hbX⟩;have fX:=zab hbX fx;refine⟨Unit,fun _=>⟨[(1,At0 b),(2,At0 L),(4,At0 (L+1)),(5,At0 (L+3))],[]⟩,fun _ Y=>Y.heap[L+2]?=some (.cells (exC x q c++(relC zav++(relC zav++relC zav))).toArray 313 (0,0))/\Y.heap[L+3]?=some (.cells #[At0 (L+2)] 311 (0,0))/\Y.heap.size=L+4/\Bw X Y,?_,?_⟩
 ·refine⟨exC x q c,zaC _ _ _,zaa fX,hlt fX,?_⟩;refine⟨exC x q c++(relC zav++(relC zav++relC zav)),by kernel_rfl,?_⟩;have s3:=wz X (.cells (exC x q c++(relC zav++(relC zav++relC zav))).toArray 313);refine zap (X:=X.alloc (.cells (exC x q c++(relC zav++(relC zav++relC zav))).toArray 313)) (v := .pointer (some ⟨X.heap.size,0,none⟩)) k311 rfl rfl rfl fun Z hbZ fZ sZ=>?_;rw [s3] at fZ sZ;rw [sX] at fZ sZ s3;have b1:Bw X (X.alloc (.cells (exC x q c++(relC zav++(relC zav++relC zav))).toArray 313)):=zba X _;refine⟨(),⟨.cons rfl (.cons rfl (.cons rfl (.cons (by rw [<- s3];rfl) .nil))),rfl⟩,?_,fZ,sZ,(zst b1 hbZ)⟩;refine zab hbZ ?_;rw [<- sX];exact hnew X _
 rintro _ Y ⟨fS,fP,sY,hbY⟩;have hbwY:=zst hbX hbY;have fY:=zab hbwY fx;replace fM:=zab hbY fM;replace f0:=zab hbY f0;have hwX:=hbX.size;have hbL:b<L:=by rw [hL];exact hlt fx
 refine⟨Unit,fun _=>⟨[(1,At0 b),(2,At0 L),(4,At0 (L+1)),(5,At0 (L+3))],[]⟩,fun _ Z=>ScnV Z (L+2) x q c (zaB x 3) (zaB x 4) (zaB x 5)/\Z.heap[L+3]?=some (.cells #[At0 (L+2)] 311 (0,0))/\Z.heap[L]?=some (.cells #[u8 m] 5 (0,0))/\RelH Z (L+1) zav/\ExH Z b x q c/\L+4<=Z.heap.size/\Bw w Z,?_,?_⟩
 ·have dY:Bw Y Y.drew:=(Below.refl _ _).drew;obtain⟨Y1,hY1⟩:=nm (Y.drew);have bY1:Bw Y Y1:=by rw [hY1];exact dY
  have ld0:∀ {W},Bw Y W->W.cell? ⟨L+3,0,none⟩=some (At0 (L+2)):=fun hW=>by
   have h2:=zac (zaa (zab hW fP)) (i:=0) (v:=At0 (L+2)) rfl;exact h2
  have fen:∀ (md:UInt8) {W},Bw Y W->CB 229 #[At0 b,u8 md] W (.agg (relC (zaB x md)).toArray):=fun md {W} hW =>
   have h2:=zst hbwY hW
   znZ (zab h2 fx) (hv.below h2) (hT.below h2)
  have ld1:∀ W,(∃ C,Bw Y C/\C.grownBy W (some (L+2)))->W.cell? ⟨L+3,0,none⟩=some (At0 (L+2)):=fun W ⟨C,bC,hW⟩=>by
   have fPC:=zab bC fP;have:=(hW.block (L+3) (hlt fPC) (by simp)).trans fPC;have h2:=zac (zaa this) (i:=0) (v:=At0 (L+2)) rfl;exact h2
  have s1:∀ {C},Bw Y C->∀ {K:World->Prop},(∀ D,(D.heap[L+2]?=some (.cells ((exC x q c++relC (zaB x 3))++(relC zav++relC zav)).toArray 313 (0,0))/\∃ C,Bw Y C/\C.grownBy D (some (L+2)))->K D)->SatR ((storeVar 102 ⟨L+2,0+333,none⟩ (.agg (relC (zaB x 3)).toArray)).run Tryz.prog C) fun _ w'=>K w':=fun {C} bC {K} k =>
   ziv (o:=333) (A:=exC x q c) (Z:=relC zav++relC zav) (r:=zaB x 3) (zab bC fS) (zaC _ _ _) fun D fD gD sD=>k D ⟨by rw [fD];simp only [List.append_assoc],C,bC,gD⟩
  have s2:∀ D,(D.heap[L+2]?=some (.cells ((exC x q c++relC (zaB x 3))++(relC zav++relC zav)).toArray 313 (0,0))/\∃ C,Bw Y C/\C.grownBy D (some (L+2)))->∀ {K:World->Prop},(∀ F,(F.heap[L+2]?=some (.cells ((exC x q c++(relC (zaB x 3)++relC (zaB x 4)))++(relC zav++[])).toArray 313 (0,0))/\∃ C,Bw Y C/\C.grownBy F (some (L+2)))->K F)->SatR ((storeVar 102 ⟨L+2,0+382,none⟩ (.agg (relC (zaB x 4)).toArray)).run Tryz.prog D) fun _ w'=>K w':=fun D ⟨fD,C,bC,gD⟩ {K} k =>
   ziv (o:=382) (A:=exC x q c++relC (zaB x 3)) (Z:=relC zav) (r:=zaB x 4) fD (by rw [lap,zaC,zad]) fun F fF gF sF=>k F ⟨by rw [fF];simp only [List.append_assoc,List.append_nil],C,bC,zae gD gF⟩
  have pw:∀ md,WrdR (zaB x md).to:=fun md=>zdZ (zdZ hv.po fun i hi=>by
   unfold idR;refine zej (fun i _ h48=>?_) i hi;exact Nat.lt_of_le_of_lt Nat.and_le_right (zaF (by omega))) hv.po
  have s3:∀ F,(F.heap[L+2]?=some (.cells ((exC x q c++(relC (zaB x 3)++relC (zaB x 4)))++(relC zav++[])).toArray 313 (0,0))/\∃ C,Bw Y C/\C.grownBy F (some (L+2)))->∀ {K:World->Prop},(∀ G,(ScnV G (L+2) x q c (zaB x 3) (zaB x 4) (zaB x 5)/\G.heap[L+3]?=some (.cells #[At0 (L+2)] 311 (0,0))/\G.heap[L]?=some (.cells #[u8 m] 5 (0,0))/\RelH G (L+1) zav/\ExH G b x q c/\L+4<=G.heap.size/\Bw w G)->K G)->SatR ((storeVar 102 ⟨L+2,0+431,none⟩ (.agg (relC (zaB x 5)).toArray)).run Tryz.prog F) fun _ w'=>K w':=fun F ⟨fF,C,bC,gF⟩ {K} k =>
   ziv (o:=431) (A:=exC x q c++(relC (zaB x 3)++relC (zaB x 4))) (Z:=[]) (r:=zaB x 5) fF (by rw [lap,lap,zaC,zad,zad]) fun G fG gG sG=>k G (by
    have gCG:C.grownBy G (some (L+2)):=zae gF gG;have bwC:=zst hbwY bC;have bCG:Below w.heap.size C G:=zak gCG bwC.size (by omega);have bwG:Bw w G:=bwC.trans bCG;have keep:∀ {j:Nat} {o:Obj},j≠L+2->Y.heap[j]?=some o->G.heap[j]?=some o:=fun {j o} hj h=>by
     have h2:=zab bC h;exact (gCG.block j (hlt h2) (by simpa using hj)).trans h2
    refine⟨⟨?_,hv.below bwG,pw 3,pw 4,pw 5⟩,keep (by omega) fP,keep (by omega) fM,keep (by omega) f0,keep (by omega) fY,by have:=bC.size;have:=gCG.size;omega,bwG⟩;rw [fG];simp only [List.append_assoc,List.append_nil])
  refine DrawE.treeR [11,14,17] (.op 0 (.op 3 (.op 5 (.op 7 (.alt (.op 4 (.alt (.op 6 (.alt (.op 8 (.op 9 (.op 10 (.alt (.op 11 (.alt (.op 1 (.op 12 (.op 13 (.alt (.op 14 (.op 2 (.op 15 (.op 16 (.op 17 (.nil)))))) (.op 2 (.op 14 (.op 15 (.op 16 (.op 17 (.nil)))))))))) (.op 2 (.op 1 (.op 12 (.op 13 (.op 14 (.op 15 (.op 16 (.op 17 (.nil))))))))))) (.alt (.op 1 (.alt (.op 11 (.op 12 (.op 13 (.alt (.op 14 (.op 2 (.op 15 (.op 16 (.op 17 (.nil)))))) (.op 2 (.op 14 (.op 15 (.op 16 (.op 17 (.nil)))))))))) (.op 2 (.op 11 (.op 12 (.op 13 (.op 14 (.op 15 (.op 16 (.op 17 (.nil))))))))))) (.op 2 (.alt (.op 11 (.op 1 (.op 12 (.op 13 (.op 14 (.op 15 (.op 16 (.op 17 (.nil))))))))) (.op 1 (.op 11 (.op 12 (.op 13 (.op 14 (.op 15 (.op 16 (.op 17 (.nil)))))))))))))))) (.alt (.op 1 (.alt (.op 8 (.op 9 (.op 10 (.alt (.op 11 (.op 12 (.op 13 (.alt (.op 14 (.op 2 (.op 15 (.op 16 (.op 17 (.nil)))))) (.op 2 (.op 14 (.op 15 (.op 16 (.op 17 (.nil)))))))))) (.op 2 (.op 11 (.op 12 (.op 13 (.op 14 (.op 15 (.op 16 (.op 17 (.nil))))))))))))) (.op 2 (.op 8 (.op 9 (.op 10 (.op 11 (.op 12 (.op 13 (.op 14 (.op 15 (.op 16 (.op 17 (.nil)))))))))))))) (.op 2 (.alt (.op 8 (.op 9 (.op 10 (.alt (.op 11 (.op 1 (.op 12 (.op 13 (.op 14 (.op 15 (.op 16 (.op 17 (.nil))))))))) (.op 1 (.op 11 (.op 12 (.op 13 (.op 14 (.op 15 (.op 16 (.op 17 (.nil))))))))))))) (.op 1 (.op 8 (.op 9 (.op 10 (.op 11 (.op 12 (.op 13 (.op 14 (.op 15 (.op 16 (.op 17 (.nil))))))))))))))))) (.alt (.op 1 (.alt (.op 6 (.alt (.op 8 (.op 9 (.op 10 (.alt (.op 11 (.op 12 (.op 13 (.alt (.op 14 (.op 2 (.op 15 (.op 16 (.op 17 (.nil)))))) (.op 2 (.op 14 (.op 15 (.op 16 (.op 17 (.nil)))))))))) (.op 2 (.op 11 (.op 12 (.op 13 (.op 14 (.op 15 (.op 16 (.op 17 (.nil))))))))))))) (.op 2 (.op 8 (.op 9 (.op 10 (.op 11 (.op 12 (.op 13 (.op 14 (.op 15 (.op 16 (.op 17 (.nil)))))))))))))) (.op 2 (.op 6 (.op 8 (.op 9 (.op 10 (.op 11 (.op 12 (.op 13 (.op 14 (.op 15 (.op 16 (.op 17 (.nil))))))))))))))) (.op 2 (.alt (.op 6 (.alt (.op 8 (.op 9 (.op 10 (.alt (.op 11 (.op 1 (.op 12 (.op 13 (.op 14 (.op 15 (.op 16 (.op 17 (.nil))))))))) (.op 1 (.op 11 (.op 12 (.op 13 (.op 14 (.op 15 (.op 16 (.op 17 (.nil))))))))))))) (.op 1 (.op 8 (.op 9 (.op 10 (.op 11 (.op 12 (.op 13 (.op 14 (.op 15 (.op 16 (.op 17 (.nil)))))))))))))) (.op 1 (.op 6 (.op 8 (.op 9 (.op 10 (.op 11 (.op 12 (.op 13 (.op 14 (.op 15 (.op 16 (.op 17 (.nil)))))))))))))))))) (.alt (.op 1 (.alt (.op 4 (.alt (.op 6 (.alt (.op 8 (.op 9 (.op 10 (.alt (.op 11 (.op 12 (.op 13 (.alt (.op 14 (.op 2 (.op 15 (.op 16 (.op 17 (.nil)))))) (.op 2 (.op 14 (.op 15 (.op 16 (.op 17 (.nil)))))))))) (.op 2 (.op 11 (.op 12 (.op 13 (.op 14 (.op 15 (.op 16 (.op 17 (.nil))))))))))))) (.op 2 (.op 8 (.op 9 (.op 10 (.op 11 (.op 12 (.op 13 (.op 14 (.op 15 (.op 16 (.op 17 (.nil)))))))))))))) (.op 2 (.op 6 (.op 8 (.op 9 (.op 10 (.op 11 (.op 12 (.op 13 (.op 14 (.op 15 (.op 16 (.op 17 (.nil))))))))))))))) (.op 2 (.op 4 (.op 6 (.op 8 (.op 9 (.op 10 (.op 11 (.op 12 (.op 13 (.op 14 (.op 15 (.op 16 (.op 17 (.nil)))))))))))))))) (.op 2 (.alt (.op 4 (.alt (.op 6 (.alt (.op 8 (.op 9 (.op 10 (.alt (.op 11 (.op 1 (.op 12 (.op 13 (.op 14 (.op 15 (.op 16 (.op 17 (.nil))))))))) (.op 1 (.op 11 (.op 12 (.op 13 (.op 14 (.op 15 (.op 16 (.op 17 (.nil))))))))))))) (.op 1 (.op 8 (.op 9 (.op 10 (.op 11 (.op 12 (.op 13 (.op 14 (.op 15 (.op 16 (.op 17 (.nil)))))))))))))) (.op 1 (.op 6 (.op 8 (.op 9 (.op 10 (.op 11 (.op 12 (.op 13 (.op 14 (.op 15 (.op 16 (.op 17 (.nil))))))))))))))) (.op 1 (.op 4 (.op 6 (.op 8 (.op 9 (.op 10 (.op 11 (.op 12 (.op 13 (.op 14 (.op 15 (.op 16 (.op 17 (.nil)))))))))))))))))))))) (by kernel_rfl) ?_;rw [<- hY1];refine⟨At0 (L+2),ld0 bY1,?_⟩;refine And.intro ?_ (And.intro ?_ ?_)
  ·refine cmo (fen 3 bY1) ?_;rintro e A ⟨rfl,hbA⟩;refine⟨hbA,?_⟩;have bA:=zst bY1 hbA;refine And.intro ?_ (And.intro ?_ ?_)
   ·refine cmo (fen 4 bA) ?_;rintro e B ⟨rfl,hbB⟩;refine⟨hbB,?_⟩;have bB:=zst bA hbB;refine And.intro ?_ (And.intro ?_ ?_)
    ·refine cmo (fen 5 bB) ?_;rintro e C ⟨rfl,hbC⟩;refine⟨hbC,?_⟩;have bC:=zst bB hbC;refine And.intro ?_ (And.intro ?_ ?_)
     ·refine s1 bC fun D hD=>?_;refine And.intro ?_ ?_
      ·refine⟨At0 (L+2),ld1 D hD.2,?_⟩;refine And.intro ?_ ?_
       ·refine s2 D hD fun F hF=>?_;refine⟨At0 (L+2),ld1 F hF.2,?_⟩;refine s3 F hF fun G hG=>?_;exact⟨(),(cvE rfl rfl),hG⟩
       ·refine⟨At0 (L+2),ld1 D hD.2,?_⟩;refine s2 D hD fun F hF=>?_;refine s3 F hF fun G hG=>?_;exact⟨(),(cvE rfl rfl),hG⟩
      ·refine⟨At0 (L+2),ld1 D hD.2,?_⟩;refine⟨At0 (L+2),ld1 D hD.2,?_⟩;refine s2 D hD fun F hF=>?_;refine s3 F hF fun G hG=>?_;exact⟨(),(cvE rfl rfl),hG⟩
     ·refine⟨At0 (L+2),ld0 bC,?_⟩;refine And.intro ?_ ?_
      ·refine s1 bC fun D hD=>?_;refine And.intro ?_ ?_
       ·refine s2 D hD fun F hF=>?_;refine⟨At0 (L+2),ld1 F hF.2,?_⟩;refine s3 F hF fun G hG=>?_;exact⟨(),(cvE rfl rfl),hG⟩
       ·refine⟨At0 (L+2),ld1 D hD.2,?_⟩;refine s2 D hD fun F hF=>?_;refine s3 F hF fun G hG=>?_;exact⟨(),(cvE rfl rfl),hG⟩
      ·refine⟨At0 (L+2),ld0 bC,?_⟩;refine s1 bC fun D hD=>?_;refine s2 D hD fun F hF=>?_;refine s3 F hF fun G hG=>?_;exact⟨(),(cvE rfl rfl),hG⟩
     ·refine⟨At0 (L+2),ld0 bC,?_⟩;refine And.intro ?_ ?_
      ·refine s1 bC fun D hD=>?_;refine⟨At0 (L+2),ld1 D hD.2,?_⟩;refine s2 D hD fun F hF=>?_;refine s3 F hF fun G hG=>?_;exact⟨(),(cvE rfl rfl),hG⟩
      ·refine⟨At0 (L+2),ld0 bC,?_⟩;refine s1 bC fun D hD=>?_;refine s2 D hD fun F hF=>?_;refine s3 F hF fun G hG=>?_;exact⟨(),(cvE rfl rfl),hG⟩
    ·refine⟨At0 (L+2),ld0 bB,?_⟩;refine And.intro ?_ ?_
     ·refine cmo (fen 5 bB) ?_;rintro e C ⟨rfl,hbC⟩;refine⟨hbC,?_⟩;have bC:=zst bB hbC;refine And.intro ?_ ?_
      ·refine s1 bC fun D hD=>?_;refine And.intro ?_ ?_
       ·refine s2 D hD fun F hF=>?_;refine⟨At0 (L+2),ld1 F hF.2,?_⟩;refine s3 F hF fun G hG=>?_;exact⟨(),(cvE rfl rfl),hG⟩
       ·refine⟨At0 (L+2),ld1 D hD.2,?_⟩;refine s2 D hD fun F hF=>?_;refine s3 F hF fun G hG=>?_;exact⟨(),(cvE rfl rfl),hG⟩
      ·refine⟨At0 (L+2),ld0 bC,?_⟩;refine s1 bC fun D hD=>?_;refine s2 D hD fun F hF=>?_;refine s3 F hF fun G hG=>?_;exact⟨(),(cvE rfl rfl),hG⟩
     ·refine⟨At0 (L+2),ld0 bB,?_⟩;refine cmo (fen 5 bB) ?_;rintro e C ⟨rfl,hbC⟩;refine⟨hbC,?_⟩;have bC:=zst bB hbC;refine s1 bC fun D hD=>?_;refine s2 D hD fun F hF=>?_;refine s3 F hF fun G hG=>?_;exact⟨(),(cvE rfl rfl),hG⟩
    ·refine⟨At0 (L+2),ld0 bB,?_⟩;refine And.intro ?_ ?_
     ·refine cmo (fen 5 bB) ?_;rintro e C ⟨rfl,hbC⟩;refine⟨hbC,?_⟩;have bC:=zst bB hbC;refine And.intro ?_ ?_
      ·refine s1 bC fun D hD=>?_;refine⟨At0 (L+2),ld1 D hD.2,?_⟩;refine s2 D hD fun F hF=>?_;refine s3 F hF fun G hG=>?_;exact⟨(),(cvE rfl rfl),hG⟩
      ·refine⟨At0 (L+2),ld0 bC,?_⟩;refine s1 bC fun D hD=>?_;refine s2 D hD fun F hF=>?_;refine s3 F hF fun G hG=>?_;exact⟨(),(cvE rfl rfl),hG⟩
     ·refine⟨At0 (L+2),ld0 bB,?_⟩;refine cmo (fen 5 bB) ?_;rintro e C ⟨rfl,hbC⟩;refine⟨hbC,?_⟩;have bC:=zst bB hbC;refine s1 bC fun D hD=>?_;refine s2 D hD fun F hF=>?_;refine s3 F hF fun G hG=>?_;exact⟨(),(cvE rfl rfl),hG⟩
   ·refine⟨At0 (L+2),ld0 bA,?_⟩;refine And.intro ?_ ?_
    ·refine cmo (fen 4 bA) ?_;rintro e B ⟨rfl,hbB⟩;refine⟨hbB,?_⟩;have bB:=zst bA hbB;refine And.intro ?_ ?_
     ·refine cmo (fen 5 bB) ?_;rintro e C ⟨rfl,hbC⟩;refine⟨hbC,?_⟩;have bC:=zst bB hbC;refine And.intro ?_ ?_
      ·refine s1 bC fun D hD=>?_;refine And.intro ?_ ?_
       ·refine s2 D hD fun F hF=>?_;refine⟨At0 (L+2),ld1 F hF.2,?_⟩;refine s3 F hF fun G hG=>?_;exact⟨(),(cvE rfl rfl),hG⟩
       ·refine⟨At0 (L+2),ld1 D hD.2,?_⟩;refine s2 D hD fun F hF=>?_;refine s3 F hF fun G hG=>?_;exact⟨(),(cvE rfl rfl),hG⟩
      ·refine⟨At0 (L+2),ld0 bC,?_⟩;refine s1 bC fun D hD=>?_;refine s2 D hD fun F hF=>?_;refine s3 F hF fun G hG=>?_;exact⟨(),(cvE rfl rfl),hG⟩
     ·refine⟨At0 (L+2),ld0 bB,?_⟩;refine cmo (fen 5 bB) ?_;rintro e C ⟨rfl,hbC⟩;refine⟨hbC,?_⟩;have bC:=zst bB hbC;refine s1 bC fun D hD=>?_;refine s2 D hD fun F hF=>?_;refine s3 F hF fun G hG=>?_;exact⟨(),(cvE rfl rfl),hG⟩
    ·refine⟨At0 (L+2),ld0 bA,?_⟩;refine cmo (fen 4 bA) ?_;rintro e B ⟨rfl,hbB⟩;refine⟨hbB,?_⟩;have bB:=zst bA hbB;refine cmo (fen 5 bB) ?_;rintro e C ⟨rfl,hbC⟩;refine⟨hbC,?_⟩;have bC:=zst bB hbC;refine s1 bC fun D hD=>?_;refine s2 D hD fun F hF=>?_;refine s3 F hF fun G hG=>?_;exact⟨(),(cvE rfl rfl),hG⟩
   ·refine⟨At0 (L+2),ld0 bA,?_⟩;refine And.intro ?_ ?_
    ·refine cmo (fen 4 bA) ?_;rintro e B ⟨rfl,hbB⟩;refine⟨hbB,?_⟩;have bB:=zst bA hbB;refine And.intro ?_ ?_
     ·refine cmo (fen 5 bB) ?_;rintro e C ⟨rfl,hbC⟩;refine⟨hbC,?_⟩;have bC:=zst bB hbC;refine And.intro ?_ ?_
      ·refine s1 bC fun D hD=>?_;refine⟨At0 (L+2),ld1 D hD.2,?_⟩;refine s2 D hD fun F hF=>?_;refine s3 F hF fun G hG=>?_;exact⟨(),(cvE rfl rfl),hG⟩
      ·refine⟨At0 (L+2),ld0 bC,?_⟩;refine s1 bC fun D hD=>?_;refine s2 D hD fun F hF=>?_;refine s3 F hF fun G hG=>?_;exact⟨(),(cvE rfl rfl),hG⟩
     ·refine⟨At0 (L+2),ld0 bB,?_⟩;refine cmo (fen 5 bB) ?_;rintro e C ⟨rfl,hbC⟩;refine⟨hbC,?_⟩;have bC:=zst bB hbC;refine s1 bC fun D hD=>?_;refine s2 D hD fun F hF=>?_;refine s3 F hF fun G hG=>?_;exact⟨(),(cvE rfl rfl),hG⟩
    ·refine⟨At0 (L+2),ld0 bA,?_⟩;refine cmo (fen 4 bA) ?_;rintro e B ⟨rfl,hbB⟩;refine⟨hbB,?_⟩;have bB:=zst bA hbB;refine cmo (fen 5 bB) ?_;rintro e C ⟨rfl,hbC⟩;refine⟨hbC,?_⟩;have bC:=zst bB hbC;refine s1 bC fun D hD=>?_;refine s2 D hD fun F hF=>?_;refine s3 F hF fun G hG=>?_;exact⟨(),(cvE rfl rfl),hG⟩
  ·refine⟨At0 (L+2),ld0 bY1,?_⟩;refine And.intro ?_ ?_
   ·refine cmo (fen 3 bY1) ?_;rintro e A ⟨rfl,hbA⟩;refine⟨hbA,?_⟩;have bA:=zst bY1 hbA;refine And.intro ?_ ?_
    ·refine cmo (fen 4 bA) ?_;rintro e B ⟨rfl,hbB⟩;refine⟨hbB,?_⟩;have bB:=zst bA hbB;refine And.intro ?_ ?_
     ·refine cmo (fen 5 bB) ?_;rintro e C ⟨rfl,hbC⟩;refine⟨hbC,?_⟩;have bC:=zst bB hbC;refine And.intro ?_ ?_
      ·refine s1 bC fun D hD=>?_;refine And.intro ?_ ?_
       ·refine s2 D hD fun F hF=>?_;refine⟨At0 (L+2),ld1 F hF.2,?_⟩;refine s3 F hF fun G hG=>?_;exact⟨(),(cvE rfl rfl),hG⟩
       ·refine⟨At0 (L+2),ld1 D hD.2,?_⟩;refine s2 D hD fun F hF=>?_;refine s3 F hF fun G hG=>?_;exact⟨(),(cvE rfl rfl),hG⟩
      ·refine⟨At0 (L+2),ld0 bC,?_⟩;refine s1 bC fun D hD=>?_;refine s2 D hD fun F hF=>?_;refine s3 F hF fun G hG=>?_;exact⟨(),(cvE rfl rfl),hG⟩
     ·refine⟨At0 (L+2),ld0 bB,?_⟩;refine cmo (fen 5 bB) ?_;rintro e C ⟨rfl,hbC⟩;refine⟨hbC,?_⟩;have bC:=zst bB hbC;refine s1 bC fun D hD=>?_;refine s2 D hD fun F hF=>?_;refine s3 F hF fun G hG=>?_;exact⟨(),(cvE rfl rfl),hG⟩
    ·refine⟨At0 (L+2),ld0 bA,?_⟩;refine cmo (fen 4 bA) ?_;rintro e B ⟨rfl,hbB⟩;refine⟨hbB,?_⟩;have bB:=zst bA hbB;refine cmo (fen 5 bB) ?_;rintro e C ⟨rfl,hbC⟩;refine⟨hbC,?_⟩;have bC:=zst bB hbC;refine s1 bC fun D hD=>?_;refine s2 D hD fun F hF=>?_;refine s3 F hF fun G hG=>?_;exact⟨(),(cvE rfl rfl),hG⟩
   ·refine⟨At0 (L+2),ld0 bY1,?_⟩;refine cmo (fen 3 bY1) ?_;rintro e A ⟨rfl,hbA⟩;refine⟨hbA,?_⟩;have bA:=zst bY1 hbA;refine cmo (fen 4 bA) ?_;rintro e B ⟨rfl,hbB⟩;refine⟨hbB,?_⟩;have bB:=zst bA hbB;refine cmo (fen 5 bB) ?_;rintro e C ⟨rfl,hbC⟩;refine⟨hbC,?_⟩;have bC:=zst bB hbC;refine s1 bC fun D hD=>?_;refine s2 D hD fun F hF=>?_;refine s3 F hF fun G hG=>?_;exact⟨(),(cvE rfl rfl),hG⟩
  ·refine⟨At0 (L+2),ld0 bY1,?_⟩;refine And.intro ?_ ?_
   ·refine cmo (fen 3 bY1) ?_;rintro e A ⟨rfl,hbA⟩;refine⟨hbA,?_⟩;have bA:=zst bY1 hbA;refine And.intro ?_ ?_
    ·refine cmo (fen 4 bA) ?_;rintro e B ⟨rfl,hbB⟩;refine⟨hbB,?_⟩;have bB:=zst bA hbB;refine And.intro ?_ ?_
     ·refine cmo (fen 5 bB) ?_;rintro e C ⟨rfl,hbC⟩;refine⟨hbC,?_⟩;have bC:=zst bB hbC;refine And.intro ?_ ?_
      ·refine s1 bC fun D hD=>?_;refine⟨At0 (L+2),ld1 D hD.2,?_⟩;refine s2 D hD fun F hF=>?_;refine s3 F hF fun G hG=>?_;exact⟨(),(cvE rfl rfl),hG⟩
      ·refine⟨At0 (L+2),ld0 bC,?_⟩;refine s1 bC fun D hD=>?_;refine s2 D hD fun F hF=>?_;refine s3 F hF fun G hG=>?_;exact⟨(),(cvE rfl rfl),hG⟩
     ·refine⟨At0 (L+2),ld0 bB,?_⟩;refine cmo (fen 5 bB) ?_;rintro e C ⟨rfl,hbC⟩;refine⟨hbC,?_⟩;have bC:=zst bB hbC;refine s1 bC fun D hD=>?_;refine s2 D hD fun F hF=>?_;refine s3 F hF fun G hG=>?_;exact⟨(),(cvE rfl rfl),hG⟩
    ·refine⟨At0 (L+2),ld0 bA,?_⟩;refine cmo (fen 4 bA) ?_;rintro e B ⟨rfl,hbB⟩;refine⟨hbB,?_⟩;have bB:=zst bA hbB;refine cmo (fen 5 bB) ?_;rintro e C ⟨rfl,hbC⟩;refine⟨hbC,?_⟩;have bC:=zst bB hbC;refine s1 bC fun D hD=>?_;refine s2 D hD fun F hF=>?_;refine s3 F hF fun G hG=>?_;exact⟨(),(cvE rfl rfl),hG⟩
   ·refine⟨At0 (L+2),ld0 bY1,?_⟩;refine cmo (fen 3 bY1) ?_;rintro e A ⟨rfl,hbA⟩;refine⟨hbA,?_⟩;have bA:=zst bY1 hbA;refine cmo (fen 4 bA) ?_;rintro e B ⟨rfl,hbB⟩;refine⟨hbB,?_⟩;have bB:=zst bA hbB;refine cmo (fen 5 bB) ?_;rintro e C ⟨rfl,hbC⟩;refine⟨hbC,?_⟩;have bC:=zst bB hbC;refine s1 bC fun D hD=>?_;refine s2 D hD fun F hF=>?_;refine s3 F hF fun G hG=>?_;exact⟨(),(cvE rfl rfl),hG⟩
 clear fS fP sY hbwY fY fM f0 hwX fX sX hbX hbY;clear X Y;rintro _ Z ⟨hS,fP,fM,f0,fZ,sZ,hbZ⟩;refine⟨Nat,fun R=>⟨[(1,At0 b),(2,At0 L),(4,At0 (L+1)),(5,At0 (L+3)),(6,At0 R)],[]⟩,fun R Y=>Y.heap[R]?=some (.cells zd1.toArray 318 (0,0))/\Bw Z Y,?_,?_⟩
 ·refine cmo zpa ?_;rintro e Y ⟨rfl,hbY⟩;refine zap (X:=Y) (v := .agg zd1.toArray) k318 rfl rfl rfl fun V hbV fV sV=>?_;exact⟨Y.heap.size,(cvE rfl rfl),fV,(zst hbY hbV)⟩
 rintro R Y ⟨fR,hbY⟩;have hbwY:=zst hbZ hbY;replace hS:=hS.below hbY;replace fP:=zab hbY fP;replace fM:=zab hbY fM;replace f0:=zab hbY f0;replace fZ:=zab hbY fZ;refine⟨Unit,fun _=>⟨[(4,At0 (L+1))],[]⟩,fun _ V=>RelH V (L+1) (zdB m.toNat x)/\Bw w V,?_,?_⟩
 ·refine⟨_,zac (zaa fZ) (i:=0) rfl,?_⟩;refine cmo (zlI (n:=x.ev.length) (caps := #[At0 (L+3),At0 R,At0 L]) (g:=231) (p:=fun a d=>hasM x.po a d&&(accA x a&&(accA x d&&zg7 m.toNat x (zaB x 3) (zaB x 4) (zaB x 5) a d))) (by omega) (by kernel_rfl) fun a d U ha hd hb=>zpC hk (hS.below hb) (zab hb fP) (zab hb fR) (zab hb fM) ha hd) ?_;rintro e V ⟨rfl,hbV⟩;replace f0:=zab hbV f0;refine zam (v := .agg (relC (zdB m.toNat x)).toArray) k102 f0 (zad _) (zad _) (zau _) ?_;exact⟨(),(cvE rfl rfl),zaj f0,zag ((zst hbwY hbV)) (by omega) _⟩
 rintro _ V ⟨f0,hbV⟩;exact⟨relC (zdB m.toNat x),zad _,zaa f0,rfl,hbV⟩
end
section
variable {b c:Nat} {x:ExD} {q:Option Addr} {w:World}
theorem zpB {m:UInt8}:Calls Tryz.prog 99 #[u8 m] w fun e w'=>e = .returned (.bool (zc3 m.toNat))/\w=w':=by
 refine cofE 9 [u8 m] Tryz.func99 ?_;refine biE (fun h=>?_) fun h=>?_
 ·have h:(1:Int)<=(m.toNat:Int):=dT h;refine⟨rb ?_,rfl⟩;unfold zc3;rw [decide_eq_true (by omega:1<=m.toNat),Bool.true_and];exact decide_eq_decide.2 (by show (m.toNat:Int)<=6↔_;omega)
 ·have h:¬ (1:Int)<=(m.toNat:Int):=dF h;refine⟨rb ?_,rfl⟩;unfold zc3;rw [decide_eq_false (by omega:¬ 1<=m.toNat)];rfl
theorem zpL {r:RelD} (hn:r.n=x.ev.length) (h48:x.ev.length<=48):WrdR (extM x r).to:=by
 unfold extM;exact ze6 (by omega)
theorem zim {X:World} {g:Nat} {a b c:RelD} (h:X.heap[g]?=some (.cells (relC a++(relC b++relC c)).toArray 102 (0,0))):SlR relE X (some ⟨g,0,none⟩) [a,b,c] :=
 SlR.of_cells (hlt h) (by
  have:[a,b,c].flatMap relE.enc=relC a++(relC b++relC c):=by
   rw [List.flatMap_cons,List.flatMap_cons,List.flatMap_cons,List.flatMap_nil,List.append_nil];rfl
  rw [this];exact zaa h)
theorem zod {m:UInt8} (hk:zc3 m.toNat=true) (fx:ExH w b x q c) (hv:ExV w x q) (hrf:x.rf.n=x.ev.length) (hT:Tz64M w):CB 101 #[u8 m,At0 b] w (u8 (UInt8.ofNat (zdW m.toNat x))):=by
 refine cofM 80 [u8 m,At0 b] (.c .p (.c .p (.c .p (.c .p (.c .p (.c .p (.c .p (.c .p (.c .p (.c .p .p)))))))))) Tryz.func101 ?_;obtain⟨L,hL⟩:=nm (w.heap.size);have hn:=hv.n;obtain⟨fw,frw⟩:=zoF hv hT;have hba:∀ (A:World) (o:Obj),Bw A (A.alloc o):=fun A o=>(zba _ _);refine⟨Unit,fun _=>⟨[(0,u8 m),(3,At0 L)],[]⟩,fun _ X=>X.heap[L]?=some (.cells #[At0 b] 162 (0,0))/\Bw w X,⟨(),⟨.cons rfl (.cons (by rw [hL];rfl) .nil),rfl⟩,by rw [hL];exact hnew w _,hba w _⟩,?_⟩;rintro _ X ⟨fB,hbX⟩;refine⟨Nat,fun F=>⟨[(0,u8 m),(3,At0 L),(5,At0 F)],[]⟩,fun F Y=>RelH Y F (frM x)/\Y.heap[L]?=some (.cells #[At0 b] 162 (0,0))/\Bw w Y,?_,?_⟩
 ·refine⟨_,zac (zaa fB) (i:=0) rfl,?_⟩;refine cmo (fr_c (zab hbX fx) (hv.below hbX) (hT.below hbX)) ?_;rintro e Y ⟨rfl,hbY⟩;refine zap (X:=Y) (v := .agg (relC (frM x)).toArray) k102 (zad _) (by kernel_rfl) (zau _) fun V hbV fV sV=>?_;have b1:=zst hbY hbV;exact⟨Y.heap.size,(cvE rfl rfl),fV,zab b1 fB,(zst hbX b1)⟩
 clear fB hbX;clear X;rintro F X ⟨fF,fB,hbX⟩;refine⟨Nat,fun G=>⟨[(0,u8 m),(3,At0 L),(5,At0 F),(6,At0 G)],[]⟩,fun G Y=>RelH Y G (zdb x)/\RelH Y F (frM x)/\Y.heap[L]?=some (.cells #[At0 b] 162 (0,0))/\Bw w Y,?_,?_⟩
 ·refine⟨_,zac (zaa fB) (i:=0) rfl,?_⟩;have fX:=zab hbX fx;have hvX:=hv.below hbX;refine⟨_,zac (zaa fX) (i:=0) rfl,?_⟩;refine cmo (zlI (n:=x.ev.length) (caps := #[At0 L]) (g:=158) (p:=fun a d=>hasM x.po a d&&zdM x a d) (by omega) (by kernel_rfl) fun a d Z ha hd hb=>zmN (zab hb fB) (zab hb fX) (hvX.below hb) ha hd) ?_;rintro e Y ⟨rfl,hbY⟩;refine zap (X:=Y) (v := .agg (relC (zdb x)).toArray) k102 (zad _) (by kernel_rfl) (zau _) fun V hbV fV sV=>?_;have b1:=zst hbY hbV;exact⟨Y.heap.size,(cvE rfl rfl),fV,zab b1 fF,zab b1 fB,(zst hbX b1)⟩
 clear fF fB hbX;clear X;rintro G X ⟨fG,fF,fB,hbX⟩;have lw:WrdR (zdb x).to:=ze6 (by omega);have hbr:zdW m.toNat x=if acyR (zaV (zdb x) [x.rf,x.co,frM x])=true then (if zdJ (zdi x.rm (zbJ (frM x) x.co).1).1=true then (if m.toNat=1 then 0 else if acyR (zaV (zdB m.toNat x) [if m.toNat=2 then x.rf else extM x x.rf,x.co,frM x])=true then 0 else 3) else 2) else 1:=rfl
 refine⟨Unit,fun _=>⟨[(0,u8 m),(3,At0 L),(5,At0 F)],[]⟩,fun _ Y=>acyR (zaV (zdb x) [x.rf,x.co,frM x])=true/\RelH Y F (frM x)/\Y.heap[L]?=some (.cells #[At0 b] 162 (0,0))/\Bw w Y,?_,?_⟩
 ·have dX:Bw X X.drew:=(Below.refl _ _).drew;have fX:=hdr (zab hbX fx);refine DrawE.ord [] [0,1,2,3,4,5,6,7,8,9,10,11,12,13] (by kernel_rfl) ?_;refine⟨relC (zdb x),zad _,zaa (hdr fG),hlt (hdr fG),?_⟩;refine⟨_,zac (zaa (hdr fB)) (i:=0) rfl,?_⟩;refine⟨relC x.rf,zad _,zbh fX (i:=1) (by decide) rfl,hlt fX,?_⟩;refine⟨_,zac (zaa (hdr fB)) (i:=0) rfl,?_⟩;refine⟨relC x.co,zad _,zbh fX (i:=2) (by decide) rfl,hlt fX,?_⟩;refine⟨relC (frM x),zad _,zaa (hdr fF),hlt (hdr fF),?_⟩;refine⟨⟨by decide,by decide,rfl⟩,relC x.rf++(relC x.co++relC (frM x)),by kernel_rfl,?_⟩;refine⟨hba _ _,?_⟩;have b1:=dX.alloc (Nat.le_refl _) (.cells (relC x.rf++(relC x.co++relC (frM x))).toArray 102);have hl:=zim (hnew X.drew (.cells (relC x.rf++(relC x.co++relC (frM x))).toArray 102));have hw3:∀ o∈[x.rf,x.co,frM x],WrdR o.to:=by
   simp only [List.mem_cons,List.not_mem_nil,or_false,forall_eq_or_imp,forall_eq];exact⟨hv.rf,hv.co,frw⟩
  refine cmo (zii (l:=[x.rf,x.co,frM x]) lw hl hw3 (Nat.le_of_ble_eq_true rfl)) ?_;rintro e Y ⟨rfl,hbY⟩;refine⟨hbY,?_⟩;have b2:=zst b1 hbY;refine cmo (zek (zdo lw hw3) (hT.below ((zst hbX b2)))) ?_;rintro e Z ⟨rfl,hbZ⟩;refine⟨hbZ,?_⟩;have b3:=zst b2 hbZ;have b4:=zst hbX b3;refine biE (fun h=>?_) fun h=>?_
  ·have h:acyR (zaV (zdb x) [x.rf,x.co,frM x])=false:=by
    have h:(!acyR (zaV (zdb x) [x.rf,x.co,frM x]))=true:=h;simpa using h
   rw [h,if_neg (by decide)] at hbr;rw [hbr];exact⟨rfl,b4⟩
  ·have h:acyR (zaV (zdb x) [x.rf,x.co,frM x])=true:=by
    have h:(!acyR (zaV (zdb x) [x.rf,x.co,frM x]))=false:=h;simpa using h
   exact⟨(),(cvE rfl rfl),h,zab b3 fF,zab b3 fB,b4⟩
 clear fG fF fB hbX;clear X;rintro _ X ⟨h1,fF,fB,hbX⟩;rw [if_pos h1] at hbr;clear h1 lw G;refine⟨Nat,fun G=>⟨[(0,u8 m),(3,At0 L),(5,At0 F),(7,At0 G)],[]⟩,fun G Y=>RelH Y G (zbJ (frM x) x.co).1/\RelH Y F (frM x)/\Y.heap[L]?=some (.cells #[At0 b] 162 (0,0))/\Bw w Y,?_,?_⟩
 ·have dX:Bw X X.drew:=(Below.refl _ _).drew;have fX:=hdr (zab hbX fx);have put:∀ (W:World) (b3:Nat),Bw X W->RelH W b3 zav->X.heap.size<=b3->∀ {K:World->Prop},(∀ Y,(RelH Y b3 (zbJ (frM x) x.co).1/\RelH Y F (frM x)/\Y.heap[L]?=some (.cells #[At0 b] 162 (0,0))/\Bw w Y)->K Y) ->
    SatR ((storeVar 102 ⟨b3,0,none⟩ (.agg (relC (zbJ (frM x) x.co).1).toArray)).run Tryz.prog W) fun _ w'=>K w':=by
   intro W b3 hW f3 g3 K k;refine zam (v := .agg (relC (zbJ (frM x) x.co).1).toArray) k102 f3 (zad _) (zad _) (zau _) ?_;have hF2:=hlt fF;have hL2:=hlt fB;exact k _ ⟨zaj f3,(zao (by omega)).trans (zab hW fF),(zao (by omega)).trans (zab hW fB),zag ((zst hbX hW)) (by have:=hbX.size;omega) _⟩
  refine DrawE.treeQ [10] (.op 0 (.op 1 (.op 2 (.op 3 (.op 4 (.alt (.op 9 (.op 5 (.op 6 (.op 7 (.op 8 (.op 10 (.op 11 .nil))))))) (.op 5 (.op 6 (.op 7 (.op 8 (.op 9 (.op 10 (.op 11 .nil))))))))))))) (by kernel_rfl) ?_;refine⟨relC (frM x),zad _,zaa (hdr fF),hlt (hdr fF),?_⟩;refine⟨_,zac (zaa (hdr fB)) (i:=0) rfl,?_⟩;refine⟨relC x.co,zad _,zbh fX (i:=2) (by decide) rfl,hlt fX,?_⟩;refine And.intro ?_ ?_
  ·refine⟨hba _ _,?_⟩;have b1:=dX.alloc (Nat.le_refl _) (.cells (relC zav).toArray 102);refine cmo (zdK frw hv.co (hT.below ((zst hbX b1)))) ?_;rintro e Y ⟨rfl,hbY⟩;refine⟨hbY,?_⟩;refine put Y X.heap.size ((zst b1 hbY)) (zab hbY (hnew X.drew _)) (Nat.le_refl _) ?_;exact fun Y hY=>⟨X.heap.size,(cvE rfl rfl),hY⟩
  ·refine cmo (zdK frw hv.co (hT.below ((zst hbX dX)))) ?_;rintro e Y ⟨rfl,hbY⟩;refine⟨hbY,?_⟩;have b1:=zst dX hbY;refine⟨hba _ _,?_⟩;refine put _ Y.heap.size (b1.alloc b1.size _) (hnew Y _) b1.size ?_;exact fun V hV=>⟨Y.heap.size,(cvE rfl rfl),hV⟩
 clear fF fB hbX;clear X;rintro G X ⟨fG,fF,fB,hbX⟩;have tw:=zdZ (a:=frM x) (b:=x.co) frw hv.co;refine⟨Nat,fun H=>⟨[(0,u8 m),(3,At0 L),(5,At0 F),(9,At0 H)],[]⟩,fun H Y=>RelH Y H (zdi x.rm (zbJ (frM x) x.co).1).1/\RelH Y F (frM x)/\Y.heap[L]?=some (.cells #[At0 b] 162 (0,0))/\Bw w Y,?_,?_⟩
 ·have dX:Bw X X.drew:=(Below.refl _ _).drew;have fX:=hdr (zab hbX fx);obtain⟨tb,htb⟩:=nm ((zbJ (frM x) x.co).1);rw [<- htb] at fG tw ⊢;have put:∀ (W:World) (b3:Nat),Bw X W->RelH W b3 zav->X.heap.size<=b3->∀ {K:World->Prop},(∀ Y,(RelH Y b3 (zdi x.rm tb).1/\RelH Y F (frM x)/\Y.heap[L]?=some (.cells #[At0 b] 162 (0,0))/\Bw w Y)->K Y) ->
    SatR ((storeVar 102 ⟨b3,0,none⟩ (.agg (relC (zdi x.rm tb).1).toArray)).run Tryz.prog W) fun _ w'=>K w':=by
   intro W b3 hW f3 g3 K k;refine zam (v := .agg (relC (zdi x.rm tb).1).toArray) k102 f3 (zad _) (zad _) (zau _) ?_;have hF2:=hlt fF;have hL2:=hlt fB;exact k _ ⟨zaj f3,(zao (by omega)).trans (zab hW fF),(zao (by omega)).trans (zab hW fB),zag ((zst hbX hW)) (by have:=hbX.size;omega) _⟩
  refine DrawE.treeQ [10] (.op 0 (.op 1 (.op 2 (.op 3 (.op 4 (.alt (.op 9 (.op 5 (.op 6 (.op 7 (.op 8 (.op 10 (.op 11 .nil))))))) (.op 5 (.op 6 (.op 7 (.op 8 (.op 9 (.op 10 (.op 11 .nil))))))))))))) (by kernel_rfl) ?_;refine⟨_,zac (zaa (hdr fB)) (i:=0) rfl,?_⟩;refine⟨relC x.rm,zad _,zbh fX (i:=5) (by decide) rfl,hlt fX,?_⟩;refine⟨relC tb,zad _,zaa (hdr fG),hlt (hdr fG),?_⟩;refine And.intro ?_ ?_
  ·refine⟨hba _ _,?_⟩;have b1:=dX.alloc (Nat.le_refl _) (.cells (relC zav).toArray 102);refine cmo (zoS hv.rm tw) ?_;rintro e Y ⟨rfl,hbY⟩;refine⟨hbY,?_⟩;refine put Y X.heap.size ((zst b1 hbY)) (zab hbY (hnew X.drew _)) (Nat.le_refl _) ?_;exact fun Y hY=>⟨X.heap.size,(cvE rfl rfl),hY⟩
  ·refine cmo (zoS hv.rm tw) ?_;rintro e Y ⟨rfl,hbY⟩;refine⟨hbY,?_⟩;have b1:=zst dX hbY;refine⟨hba _ _,?_⟩;refine put _ Y.heap.size (b1.alloc b1.size _) (hnew Y _) b1.size ?_;exact fun V hV=>⟨Y.heap.size,(cvE rfl rfl),hV⟩
 clear fG fF fB hbX;clear X G;rintro H X ⟨fH,fF,fB,hbX⟩;refine⟨Unit,fun _=>⟨[(0,u8 m),(3,At0 L),(5,At0 F)],[]⟩,fun _ Y=>zdJ (zdi x.rm (zbJ (frM x) x.co).1).1=true/\RelH Y F (frM x)/\Y.heap[L]?=some (.cells #[At0 b] 162 (0,0))/\Bw w Y,?_,?_⟩
 ·refine⟨relC (zdi x.rm (zbJ (frM x) x.co).1).1,zad _,zaa fH,hlt fH,?_⟩;refine cmo (zqA (zoe hv.rm)) ?_;rintro e Y ⟨rfl,hbY⟩;have b4:=zst hbX hbY;refine biE (fun h=>?_) fun h=>?_
  ·have h:zdJ (zdi x.rm (zbJ (frM x) x.co).1).1=false:=by
    have h:(!zdJ (zdi x.rm (zbJ (frM x) x.co).1).1)=true:=h;simpa using h
   rw [h,if_neg (by decide)] at hbr;rw [hbr];exact⟨rfl,b4⟩
  ·have h:zdJ (zdi x.rm (zbJ (frM x) x.co).1).1=true:=by
    have h:(!zdJ (zdi x.rm (zbJ (frM x) x.co).1).1)=false:=h;simpa using h
   exact⟨(),(cvE rfl rfl),h,zab hbY fF,zab hbY fB,b4⟩
 clear fH fF fB hbX tw;clear X H;rintro _ X ⟨h1,fF,fB,hbX⟩;rw [if_pos h1] at hbr;clear h1;refine⟨Unit,fun _=>⟨[(0,u8 m),(3,At0 L),(5,At0 F)],[]⟩,fun _ Y=>m.toNat≠1/\X=Y,?_,?_⟩
 ·refine biE (fun h=>?_) fun h=>?_
  ·have h:(m.toNat:Int)=1:=dT h;rw [if_pos (by omega)] at hbr;rw [hbr];exact⟨rfl,hbX⟩
  ·have h:¬ (m.toNat:Int)=1:=dF h;exact⟨(),(cvE rfl rfl),by omega,rfl⟩
 rintro _ _ ⟨h1,rfl⟩;rw [if_neg h1] at hbr;clear h1;refine⟨Nat,fun G=>⟨[(0,u8 m),(3,At0 L),(5,At0 F),(11,At0 G)],[]⟩,fun G Y=>G≠F/\G≠L/\w.heap.size<=G/\RelH Y G x.rf/\RelH Y F (frM x)/\Y.heap[L]?=some (.cells #[At0 b] 162 (0,0))/\Bw w Y,?_,?_⟩
 ·have fX:=zab hbX fx;refine⟨_,zac (zaa fB) (i:=0) rfl,?_⟩;refine⟨relC x.rf,zad _,zbh fX (i:=1) (by decide) rfl,hlt fX,?_⟩;refine zap (X:=X) (v := .agg (relC x.rf).toArray) k102 (zad _) (by kernel_rfl) (zau _) fun V hbV fV sV=>?_;have hF2:=hlt fF;have hL2:=hlt fB;exact⟨X.heap.size,(cvE rfl rfl),by omega,by omega,hbX.size,fV,zab hbV fF,zab hbV fB,(zst hbX hbV)⟩
 clear fF fB hbX;clear X;rintro G X ⟨hGF,hGL,hGw,fG,fF,fB,hbX⟩;obtain⟨rfx,hrfx⟩:=nm (if m.toNat=2 then x.rf else extM x x.rf);have rfw:WrdR rfx.to:=by
  rw [hrfx]
  split
  ·exact hv.rf
  ·exact zpL hrf (by omega)
 rw [<- hrfx] at hbr;refine⟨Unit,fun _=>⟨[(0,u8 m),(3,At0 L),(5,At0 F),(11,At0 G)],[]⟩,fun _ Y=>RelH Y G rfx/\RelH Y F (frM x)/\Y.heap[L]?=some (.cells #[At0 b] 162 (0,0))/\Bw w Y,?_,?_⟩
 ·have fX:=zab hbX fx;have hvX:=hv.below hbX;refine biE (fun h=>?_) fun h=>?_
  ·have h:¬ m.toNat=2:=by
    have h:(!decide ((m.toNat:Int)=2))=true:=h;have h:¬ (m.toNat:Int)=2:=(by simpa using h);omega
   rw [if_neg h] at hrfx;refine⟨_,zac (zaa fB) (i:=0) rfl,?_⟩;refine⟨relC x.rf,zad _,zaa fG,hlt fG,?_⟩;refine cmo (zr3 fX hvX hv.rf hrf) ?_;rintro e Y ⟨rfl,hbY⟩;rw [<- hrfx];refine zam (v := .agg (relC rfx).toArray) k102 (zab hbY fG) (zad _) (zad _) (zau _) ?_;exact⟨(),(cvE rfl rfl),zaj (zab hbY fG),(zao (by omega)).trans (zab hbY fF),(zao (by omega)).trans (zab hbY fB),zag ((zst hbX hbY)) hGw _⟩
  ·have h:m.toNat=2:=by
    have h:(!decide ((m.toNat:Int)=2))=false:=h;have h:(m.toNat:Int)=2:=(by simpa using h);omega
   rw [if_pos h] at hrfx;rw [hrfx];exact⟨(),(cvE rfl rfl),fG,fF,fB,hbX⟩
 clear fG fF fB hbX hrfx;clear X;rintro _ X ⟨fG,fF,fB,hbX⟩;have kw:WrdR (zdB m.toNat x).to:=ze6 (by omega);have dX:Bw X X.drew:=(Below.refl _ _).drew;have hbD:=zst hbX dX;have hw3:∀ o∈[rfx,x.co,frM x],WrdR o.to:=by
  simp only [List.mem_cons,List.not_mem_nil,or_false,forall_eq_or_imp,forall_eq];exact⟨rfw,hv.co,frw⟩
 have fD:=hdr (zab hbX fx);have hk0:∀ {Y:World},Bw X Y->CB 167 #[u8 m,At0 b] Y (.agg (relC (zdB m.toNat x)).toArray):=fun {Y} hY =>
  have h2:=zst hbX hY
  zq1 hk (zab h2 fx) (hv.below h2) (hT.below h2)
 refine DrawE.treeQ [] (.op 0 (.op 1 (.op 3 (.op 4 (.op 5 (.op 6 (.op 7 (.op 8 (.alt (.op 9 (.op 2 (.op 10 (.op 11 (.op 12 .nil))))) (.op 2 (.op 9 (.op 10 (.op 11 (.op 12 .nil)))))))))))))) (by kernel_rfl) ?_;refine⟨_,zac (zaa (hdr fB)) (i:=0) rfl,?_⟩;refine⟨relC rfx,zad _,zaa (hdr fG),hlt (hdr fG),?_⟩;refine⟨_,zac (zaa (hdr fB)) (i:=0) rfl,?_⟩;refine⟨relC x.co,zad _,zbh fD (i:=2) (by decide) rfl,hlt fD,?_⟩;refine⟨relC (frM x),zad _,zaa (hdr fF),hlt (hdr fF),?_⟩;refine And.intro ?_ ?_
 ·refine⟨⟨by decide,by decide,rfl⟩,relC rfx++(relC x.co++relC (frM x)),by kernel_rfl,?_⟩;refine⟨hba _ _,?_⟩;have b1:=dX.alloc (Nat.le_refl _) (.cells (relC rfx++(relC x.co++relC (frM x))).toArray 102);have hl:=zim (hnew X.drew (.cells (relC rfx++(relC x.co++relC (frM x))).toArray 102));refine cmo (hk0 b1) ?_;rintro e Y ⟨rfl,hbY⟩;refine⟨hbY,?_⟩;have b2:=zst b1 hbY;refine cmo (zii (l:=[rfx,x.co,frM x]) kw (hl.below hbY) hw3 (Nat.le_of_ble_eq_true rfl)) ?_;rintro e V ⟨rfl,hbV⟩;refine⟨hbV,?_⟩;have b3:=zst b2 hbV;refine cmo (zek (zdo kw hw3) (hT.below ((zst hbX b3)))) ?_;rintro e Z ⟨rfl,hbZ⟩;refine⟨hbZ,?_⟩;have b5:=hbX.trans (((zst b3 hbZ)).mono hbX.size);refine biE (fun h=>?_) fun h=>?_
  ·have h:acyR (zaV (zdB m.toNat x) [rfx,x.co,frM x])=false:=by
    have h:(!acyR (zaV (zdB m.toNat x) [rfx,x.co,frM x]))=true:=h;simpa using h
   rw [h,if_neg (by decide)] at hbr;rw [hbr];exact⟨rfl,b5⟩
  ·have h:acyR (zaV (zdB m.toNat x) [rfx,x.co,frM x])=true:=by
    have h:(!acyR (zaV (zdB m.toNat x) [rfx,x.co,frM x]))=false:=h;simpa using h
   rw [h,if_pos rfl] at hbr;rw [hbr];exact⟨rfl,b5⟩
 ·refine cmo (hk0 dX) ?_;rintro e Y ⟨rfl,hbY⟩;refine⟨hbY,?_⟩;have b1:=zst dX hbY;refine⟨⟨by decide,by decide,rfl⟩,relC rfx++(relC x.co++relC (frM x)),by kernel_rfl,?_⟩;refine⟨hba _ _,?_⟩;have b2:=b1.alloc b1.size (.cells (relC rfx++(relC x.co++relC (frM x))).toArray 102);have hl:=zim (hnew Y (.cells (relC rfx++(relC x.co++relC (frM x))).toArray 102));refine cmo (zii (l:=[rfx,x.co,frM x]) kw hl hw3 (Nat.le_of_ble_eq_true rfl)) ?_;rintro e V ⟨rfl,hbV⟩;refine⟨hbV,?_⟩;have b3:=zst b2 hbV;refine cmo (zek (zdo kw hw3) (hT.below ((zst hbX b3)))) ?_;rintro e Z ⟨rfl,hbZ⟩;refine⟨hbZ,?_⟩;have b5:=hbX.trans (((zst b3 hbZ)).mono hbX.size);refine biE (fun h=>?_) fun h=>?_
  ·have h:acyR (zaV (zdB m.toNat x) [rfx,x.co,frM x])=false:=by
    have h:(!acyR (zaV (zdB m.toNat x) [rfx,x.co,frM x]))=true:=h;simpa using h
   rw [h,if_neg (by decide)] at hbr;rw [hbr];exact⟨rfl,b5⟩
  ·have h:acyR (zaV (zdB m.toNat x) [rfx,x.co,frM x])=true:=by
    have h:(!acyR (zaV (zdB m.toNat x) [rfx,x.co,frM x]))=false:=h;simpa using h
   rw [h,if_pos rfl] at hbr;rw [hbr];exact⟨rfl,b5⟩
theorem znu (h:zcA x=true):x.rf.n=x.ev.length:=by
 unfold zcA zcJ at h;simp only [List.all_cons,List.all_nil,Bool.and_true,bAT,dE] at h;obtain⟨_,_,_,_,⟨_,h6,_⟩,_⟩:=h;exact h6.1
theorem zpr {A B C:Bool} {m:Nat}:(if A=true then (if B=true then (if m=1 then 0 else if C=true then 0 else 3) else 2) else 1)<=3:=by
 by_cases h:m=1 <;> cases A <;> cases B <;> cases C <;> simp [h]
theorem zmO {m:Nat} {x:ExD}:decide ((((UInt8.ofNat (zdW m x)).toNat:Nat):Int)=0)=decide (zdW m x=0):=by
 have h:zdW m x<=3:=by
  unfold zdW;exact zpr
 refine decide_eq_decide.2 ?_;rw [UInt8.toNat_ofNat'];omega
theorem zqz {m:UInt8} (hv:ExV w x q) (hT:Tz64M w):CB 51 #[u8 m,.agg (exC x q c).toArray] w (.bool (zgx m.toNat x)):=by
 refine cofM 16 [u8 m,.agg (exC x q c).toArray] (.c .p .p) Tryz.func51 ?_;obtain⟨L,hL⟩:=nm (w.heap.size);refine⟨Unit,fun _=>⟨[(0,u8 m),(3,At0 L)],[]⟩,fun _ X=>ExH X L x q c/\Bw w X,⟨(),⟨.cons rfl (.cons (by rw [hL];rfl) .nil),rfl⟩,by rw [hL];exact hnew w _,(zba w _)⟩,?_⟩;rintro _ X ⟨fX,hbX⟩;refine cmo zpB ?_;rintro e _ ⟨rfl,rfl⟩;refine biE (fun h1=>?_) fun h1=>?_
 ·have h1:zc3 m.toNat=true:=h1;refine⟨exC x q c,zaC _ _ _,zaa fX,hlt fX,?_⟩;refine cmo (zol (hv.below hbX) (hT.below hbX)) ?_;rintro e Y ⟨rfl,hbY⟩;have bY:=zst hbX hbY;refine biE (fun h2=>?_) fun h2=>?_
  ·have h2:zcA x=true:=h2;refine cmo (zod h1 (zab hbY fX) (hv.below bY) (znu h2) (hT.below bY)) ?_;rintro e Z ⟨rfl,hbZ⟩;refine⟨rb ?_,(zst bY hbZ)⟩;unfold zgx;rw [h1,h2];exact zmO
  ·have h2:zcA x=false:=h2;exact⟨rb (by unfold zgx;rw [h2];cases zc3 m.toNat <;> rfl),bY⟩
 ·have h1:zc3 m.toNat=false:=h1;refine brF ?_;exact⟨rb (by unfold zgx;rw [h1];rfl),hbX⟩
end
theorem zdl {r:RelD} (h:wrdB r=true):WrdR r.to:=by
 unfold wrdB at h;rw [List.all_eq_true] at h;exact fun i hi=>dT (h i (List.mem_range.2 hi))
theorem zn0 {X:World} {x:ExD} {q:Option Addr} (h:exvB x=true) (he:SlR evE X q x.ev):ExV X x q:=by
 unfold exvB at h;simp only [bAT,dE] at h;obtain⟨h1,h2,h3,h4,h5,h6,h7⟩:=h;exact⟨he,h1,zdl h2,zdl h3,zdl h4,zdl h5,zdl h6,zdl h7⟩
theorem zpQ {X:World} {b:Nat} {x:ExD} {q:Option Addr} {c:Nat} (fx:ExH X b x q c):zax X ⟨b,0+295,none⟩ (finE.enc (finX x)):=by
 have h:=zaw (n:=295) (m:=38) (zaa fx);have e:((exC x q c).toArray.toList.drop 295).take 38=finE.enc (finX x):=by
  show ((exC x q c).drop 295).take 38=_;unfold finX;rw [zeg];obtain⟨A,hA,hE⟩:∃ A:List Value,A.length=295/\exC x q c=A++finS x.regs x.mem :=
   ⟨.slice q x.ev.length c::(relC x.po++(relC x.rf++(relC x.co++(relC x.dt++(relC x.ct++relC x.rm))))),by simp only [List.length_cons,lap,zad],by simp only [exC,finS,List.append_assoc,List.cons_append]⟩
  rw [hE,<- hA,List.drop_left,List.take_of_length_le (by rw [znY];decide)]
 rw [<- e];exact h
theorem zjZ (m:Nat) (l:List ExD) (x:ExD):byL m (l++[x])=byL m l++if zgx m x=true then [finX x] else []:=by
 unfold byL;rw [List.filter_append,List.map_append,List.filter_cons,List.filter_nil]
 split <;> rfl
section
variable {w:World} {B n most:Nat} {pc:List Value} {p:Prg} {V:List UInt8} {m:UInt8}
theorem zrM {pc:List Value} (hpc:pc.length=10):CB 29 #[.agg pc.toArray,u8 7,i64 most] w (.tuple #[.slice none 0 0,i64 2]):=by
 refine cofE 45 [.agg pc.toArray,u8 7,i64 most] Tryz.func29 ?_;refine brF ?_;refine brT ?_;exact⟨rfl,(zba w _)⟩
theorem By_c (hB:B<=w.heap.size) (hP:PrgX B w pc p) (hG:GlobE w) (hQ:CandQ p n V most) (hx:(zbM p V).all exvB=true) (hm:1<=m.toNat/\m.toNat<=6) :
  Calls Tryz.prog 29 #[.agg pc.toArray,u8 m,i64 most] w fun e w'=>(∃ q c,e = .returned (.tuple #[.slice q (zcE (byL m.toNat (zbM p V))).length c,i64 0])/\OwnS finE 27 w.heap.size w' q c (zcE (byL m.toNat (zbM p V))))/\Bw w w':=by
 refine cofM 45 [.agg pc.toArray,u8 m,i64 most] (.c .p (.s .p (.c .p (.s .p (.s .p (.c (.s .p (.b (.l (.s .p (.s .p (.s (.b (.c .p .p)) .p)))))) .p)))))) Tryz.func29 ?_;obtain⟨L,hL⟩:=nm (w.heap.size);have hpc:=hP.v.size;obtain⟨M,hM⟩:=nm (m.toNat);rw [<- hM] at hm ⊢;refine⟨Unit,fun _=>⟨[(1,u8 m),(2,i64 most),(3,At0 L)],[]⟩,fun _ X=>X.heap[L]?=some (.cells pc.toArray 45 (0,0))/\Bw w X,⟨(),⟨.cons rfl (.cons rfl (.cons (by rw [hL];rfl) .nil)),rfl⟩,by rw [hL];exact hnew w _,(zba w _)⟩,?_⟩;rintro _ X ⟨f0,hbX⟩;refine brN (decide_eq_false (by omega)) ?_;refine brN (decide_eq_false (by omega)) ?_;have hXs:=hbX.size;refine⟨List exE3×Option Addr×Nat,fun s=>⟨[(1,u8 m),(8,.slice s.2.1 s.1.length s.2.2),(9,i64 0)],[]⟩,fun s Y=>s.1.map (·.1)=zbM p V/\OwnS exE 104 X.heap.size Y s.2.1 s.2.2 s.1/\(∀ x∈s.1,OwnS evE 225 X.heap.size Y x.2.1 x.2.2 x.1.ev)/\Bw w Y,?_,?_⟩
 ·refine⟨pc,hpc,zaa f0,hlt f0,?_⟩;refine cmo (zqC (Nat.le_trans hB hXs) (hP.below (hbX.mono hB)) (hG.below hbX) hQ) ?_;rintro e Y ⟨⟨xs,q,c,rfl,h1,h2,h3⟩,hbY⟩;exact⟨(xs,q,c),(cvE rfl rfl),h1,h2,h3,hbX.trans (hbY.mono hXs)⟩
 rintro⟨xs,q,c⟩ Y ⟨hxs,oX,hev,hbY⟩;dsimp only at hxs oX hev ⊢;refine brF ?_;obtain⟨D,hD⟩:=nm (Y.heap.size);have hxl:xs.length<=30000:=by
  have:=congrArg List.length hxs;rw [List.length_map] at this;have:=hQ.len;omega
 refine⟨List FinV×Option Addr×Nat,fun s=>⟨[(10,.slice s.2.1 s.1.length s.2.2)],[]⟩,fun s Z=>s.1=byL M (zbM p V)/\s.1.length<=30000/\OwnS finE 27 D Z s.2.1 s.2.2 s.1/\Below D Y Z,?_,?_⟩
 ·refine⟨Nat×List FinV×Option Addr×Nat,fun s=>⟨[(1,u8 m),(10,.slice s.2.2.1 s.2.1.length s.2.2.2),(28,.slice q xs.length c),(29,i64 xs.length),(30,i64 (s.1:Nat))],[]⟩,
   fun s Z=>s.1<=xs.length/\s.2.1=byL M ((xs.take s.1).map (·.1))/\s.2.1.length<=s.1/\OwnS finE 27 D Z s.2.2.1 s.2.2.2 s.2.1/\Below D Y Z,fun s=>xs.length-s.1,(0,[],none,0),
   (cvE rfl rfl),⟨Nat.zero_le _,rfl,Nat.le_refl _,OwnS.nil,by rw [hD];exact Below.refl _ _⟩,?_⟩
  rintro⟨k,out,po,co⟩ Z ⟨hk,hout,hlo,oZ,hbZ⟩;dsimp only at hk hout hlo oZ ⊢;have hZs:D<=Z.heap.size:=by have:=hbZ.size;omega
  refine biE (fun hc=>?_) fun hc=>?_
  ·have hc:(k:Int)<(xs.length:Int):=dT hc;have hkl:k<xs.length:=by omega
   obtain⟨bx,ox,hq,hbx,hat⟩:=oX.row.at hkl;obtain⟨y,hy⟩:∃ y,xs[k]=y:=⟨_,rfl⟩;have hym:y∈xs:=by rw [<- hy];exact gM hkl
   have htk:(xs.take (k+1)).map (·.1)=(xs.take k).map (·.1)++[y.1]:=by rw [tsg hkl,hy,List.map_append];rfl
   have hatk:=hat k hkl;rw [hy] at hatk;have hatk:zax Y ⟨bx,ox+k*333,none⟩ (exC y.1 y.2.1 y.2.2):=hatk;have hyx:exvB y.1=true:=List.all_eq_true.1 hx _ (by rw [<- hxs];exact List.mem_map_of_mem hym);subst hq;refine⟨Nat,fun s=>⟨[(1,u8 m),(10,.slice po out.length co),(12,At0 s),(28,.slice (some ⟨bx,ox,none⟩) xs.length c),(29,i64 xs.length),(30,i64 (k:Nat))],[]⟩,
    fun s U=>ExH U s y.1 y.2.1 y.2.2/\Bw Z U,?_,?_⟩
   ·refine⟨k,rfl,hkl,?_⟩;refine⟨exC y.1 y.2.1 y.2.2,zaC _ _ _,zbc hbZ (by show bx<D;omega) hatk,by show bx<_;omega,?_⟩;refine zap (X:=Z) (v := .agg (exC y.1 y.2.1 y.2.2).toArray) k104 (zaC _ _ _) zcw (zde _ _ _) fun U hbU fU sU=>?_;exact⟨Z.heap.size,(cvE rfl rfl),fU,hbU⟩
   rintro bu U ⟨fU,hbU⟩;have hbU2:=hbZ.trans (hbU.mono hZs);have hbwU:Bw w U:=hbY.trans (hbU2.mono (by have:=hbY.size;omega));refine⟨exC y.1 y.2.1 y.2.2,zaC _ _ _,zaa fU,hlt fU,?_⟩;refine cmo (zqz (zn0 hyx ((hev y hym).row.below (by show Below _ _ _;rw [<- hD];exact hbU2))) (hG.below hbwU).t64) ?_;rw [<- hM];rintro e T ⟨rfl,hbT⟩;have fT:=zab hbT fU;have oT:=(oZ.below hbU).below hbT;have hbT2:=hbU2.trans (hbT.mono (by have:=hbU2.size;omega));have hTs:D<=T.heap.size:=by have:=hbT2.size;omega
   refine biE (fun h=>?_) fun h=>?_
   ·refine⟨finE.enc (finX y.1),finE.len _,zpQ fT,hlt fT,?_⟩;refine⟨⟨by decide,by decide,rfl⟩,finE.enc (finX y.1),zce (finE.len _) rfl,?_⟩;have hb2:Bw T (T.alloc (.cells (finE.enc (finX y.1)).toArray 27)):=zba _ _;have sb2:=hb2.size;unfold opsE zcr;show SatR _ _;refine zbi Tryz.underlying35 k27 rfl rfl rfl (oT.below hb2) (news:=[finX y.1]) rfl (zaW finE (finX y.1)) (by omega) (by show out.length+1<=_;omega) (by show (out.length+1)*38<=_;omega) fun p' c' S oS gS hbS hat2=>?_;refine nxI (by omega) ?_;exact⟨(k+1,out++[finX y.1],p',c'),(cvE rfl rfl),⟨hkl,by rw [htk,zjZ,if_pos h,hout],by rw [lap];show _+1<=_;omega,oS,(hbT2.trans (hb2.mono hTs)).trans hbS⟩,zdc (by omega)⟩
   ·refine nxI (by omega) ?_;exact⟨(k+1,out,po,co),(cvE rfl rfl),⟨hkl,by rw [htk,zjZ,if_neg (by rw [h];decide),hout];simp,by show out.length<=k+1;omega,oT,hbT2⟩,zdc (by omega)⟩
  ·have hc:¬ (k:Int)<(xs.length:Int):=dF hc;obtain rfl:k=xs.length:=by omega
   rw [List.take_length,hxs] at hout;exact⟨(out,po,co),(cvE rfl rfl),hout,by show out.length<=30000;omega,oZ,hbZ⟩
 rintro⟨out,po,co⟩ Z ⟨rfl,hlo,oZ,hbZ⟩;dsimp only at hlo oZ ⊢;have hwY:=hbY.size;have hb:=hbY.trans (hbZ.mono (by omega));refine cmo (zic oZ.row (by omega) (fun h=>by
  rcases oZ.inv with ⟨_,h2,_⟩ | ⟨g,cur,h2,_⟩
  ·exact h2
  ·rw [h] at h2;cases h2)) ?_
 rintro e U ⟨q2,c2,rfl,oU,hbU⟩;exact⟨⟨q2,c2,rfl,oU.lower hb.size⟩,(zst hb hbU)⟩
end
section
variable {w:World} {pa pb:Option Addr} {ca cb:Nat} {la lb:List FinV}
theorem zfi (ha:SlR finE w pa la) (hb:SlR finE w pb lb) (hn:la.length<=1000000):CB 19 #[.slice pa la.length ca,.slice pb lb.length cb] w (.bool (decide (la=lb))):=by
 refine cofE 26 [.slice pa la.length ca,.slice pb lb.length cb] Tryz.func19 ?_;refine biE (fun h=>?_) fun h=>?_
 ·have h:¬ la=lb:=fun e=>by subst e;have h:(!decide ((la.length:Int)=(la.length:Int)))=true:=h;simp at h
  exact⟨by rw [decide_eq_false h];rfl,Below.refl _ _⟩
 have hl:la.length=lb.length:=by
  have h:(!decide ((la.length:Int)=(lb.length:Int)))=false:=h;have:=dT (by simpa using h:decide ((la.length:Int)=(lb.length:Int))=true);omega
 clear h;refine⟨Nat,fun k=>⟨[(0,.slice pa la.length ca),(1,.slice pb lb.length cb),(11,.slice pa la.length ca),(12,i64 la.length),(13,i64 k)],[]⟩,fun k X=>k<=la.length/\la.take k=lb.take k/\Bw w X,fun k=>la.length-k,0,
  (cvE rfl rfl),⟨Nat.zero_le _,rfl,Below.refl _ _⟩,?_⟩
 rintro k X ⟨hk,ht,bX⟩;refine biE (fun h=>?_) fun h=>?_
 ·have hka:k<la.length:=by have:=dT h;omega
  have hkb:k<lb.length:=by omega
  have bd:=bX.trans ((Below.refl X.heap.size X).drew.mono bX.size);obtain⟨b1,o1,rfl,hl1,hat1⟩:=(ha.below bd).at hka;obtain⟨b2,o2,rfl,hl2,hat2⟩:=(hb.below bd).at hkb;obtain⟨x,hx⟩:=nm (la[k]);obtain⟨y,hy⟩:=nm (lb[k]);have c1:=hat1 k hka;have c2:=hat2 k hkb;rw [<- hx] at c1;rw [<- hy] at c2;refine DrawE.ord [] [0,1,2,3,4,5,6,7,8] (by kernel_rfl) ?_;refine⟨k,rfl,hka,?_⟩;refine⟨finE.enc x,finE.len x,c1,hl1,?_⟩;refine⟨k,rfl,hkb,?_⟩;refine⟨finE.enc y,finE.len y,c2,hl2,?_⟩;refine⟨_,fun w=>zgW _ _ x y w,?_⟩;refine biE (fun h=>?_) fun h=>?_
  ·have h:¬ x=y:=by simpa using h
   have hne:¬ la=lb:=fun e=>h (by subst e;rw [hx,hy]);exact⟨by rw [decide_eq_false hne];rfl,bd⟩
  ·have h:x=y:=by simpa using h
   refine⟨_,zaf (by omega),?_⟩;exact⟨k+1,(cvE rfl rfl),⟨hka,by rw [tsg hka,tsg hkb,ht,<- hx,<- hy,h],bd⟩,by dsimp only;omega⟩
 ·have hke:k=la.length:=by have:=dF h;omega
  subst hke;have e:la=lb:=by
   rw [List.take_length,hl,List.take_length] at ht;exact ht
  exact⟨by rw [decide_eq_true e];rfl,bX⟩
end
theorem zn7 (d:Nat) (a b:Bool) (w:World):(Op.equalIn (d+1) 4 (.bool a) (.bool b)).run Tryz.prog w = .ok (decide (a=b)) w:=by
 simp only [Op.equalIn,Sem.run_bind,run_underlying Tryz.underlying4,Result.andThen_ok,Sem.run_pure]
 cases a <;> cases b <;> rfl
theorem zmk (x y:Operand) (a b:Bool) (w:World):(do eqGuard .eql 4 x y (.bool a) (.bool b);binOp .eql 4 (.bool a) (.bool b)).run Tryz.prog w = .ok (.bool (decide (a=b))) w:=by
 have h:(Op.equal 4 (.bool a) (.bool b)).run Tryz.prog w = .ok (decide (a=b)) w:=zn7 9999 a b w;have h1:(eqGuard .eql 4 x y (.bool a) (.bool b)).run Tryz.prog w = .ok () w:=rfl;rw [Sem.run_bind,h1];simp only [Result.andThen_ok,binOp,Sem.run_bind,h,Sem.run_pure]
theorem ziI {c:Cnd} {l:List FinV} (h:incB l=true):zg3 c l=(l.filter fun f=>za3 f 20 c).length:=by
 unfold zg3;rw [zer (zfa h)]
theorem zmT {a:UInt8} {c:Cnd} {l:List FinV} (h:incB l=true):askB a c l=if a=1 then decide (0<(l.filter fun f=>za3 f 20 c).length) else if a=2 then decide ((l.filter fun f=>za3 f 20 c).length=0) else if a=3 then decide ((l.filter fun f=>za3 f 20 c).length=l.length) else false:=by
 unfold askB;rw [ziI h,zer (zfa h)]
def zkQ:List Cnd:=[.mk 1 0 0 0 [],.mk 1 1 0 0 []]
abbrev zdX:Cnd := .mk 3 0 0 0 zkQ
theorem ziq:incB scL=true:=by kernel_rfl
theorem zjj:incB tsoL=true:=by kernel_rfl
theorem zo5:askB 1 zdX scL=false:=(zmT ziq).trans (by kernel_rfl)
theorem zo4:askB 2 zdX scL=true:=(zmT ziq).trans (by kernel_rfl)
theorem zlo (a:UInt8) (h:a=1\/a=2\/a=3):zg2 a zdX scL=0:=by unfold zg2;rw [if_pos h,ziI ziq];kernel_rfl
theorem znd:askB 1 zdX tsoL=true:=(zmT zjj).trans (by kernel_rfl)
theorem znc:zg2 1 zdX tsoL=1:=by unfold zg2;rw [if_pos (.inl rfl),ziI zjj];kernel_rfl
def okT:List UInt8:=[48,58,114,48,61,49,32,49,58,114,48,61,49,32,120,61,49,32,121,61,49]
theorem zo2:znk bufP (outF 1 1)=okT:=by kernel_rfl
theorem KidsG.empty {B:Nat} {w:World}:KidsG B w none [] := .mk none [] (by decide) 0 0 (.inl rfl) (fun _=>none) (fun _=>0) (fun i hi=>by simp at hi) (fun i hi=>by simp at hi)
theorem zl2 {X:World} {g:Nat} (f:X.heap[g]?=some (.cells (zar (.mk 1 0 0 0 []) none 0++zar (.mk 1 1 0 0 []) none 0).toArray 29 (0,0))):KidsG X.heap.size X (some ⟨g,0,none⟩) zkQ:=by
 refine .mk _ _ (by decide) g 0 (.inr ⟨rfl,hlt f,_,_,f⟩) (fun _=>none) (fun _=>0) (fun i hi=>?_) (fun i hi=>?_)
 ·match i,hi with
  | 0,_=>exact zaw (n:=0) (m:=5) (zaa f)
  | 1,_=>exact zaw (n:=5) (m:=5) (zaa f)
 ·match i,hi with
  | 0,_=>exact .empty
  | 1,_=>exact .empty
section
variable {w:World}
abbrev FsV (X:World) (l:List FinV) (s:Option Addr×Nat):Prop:=SlR finE X s.1 l/\(s.1=none->s.2=0)
theorem zgT {E:Enc FinV} {T B c:Nat} {w:World} {q:Option Addr} {l:List FinV} (h:OwnS E T B w q c l):q=none->c=0:=fun e=>by
 rcases h.inv with ⟨_,h2,_⟩ | ⟨g,cur,h2,_⟩
 ·exact h2
 ·rw [e] at h2;cases h2
theorem zoO {X:World} {m:UInt8} {vs:List Value} {l:List FinV} (hG:GlobE X) (hP:PrgX X.heap.size X vs bufP) (hm:1<=m.toNat/\m.toNat<=6) (hl:zcE (byL m.toNat (zbM bufP [0,1]))=l):Calls Tryz.prog 29 #[.agg vs.toArray,u8 m,i64 (100:Nat)] X fun e Y =>
  ∃ s:Option Addr×Nat,e = .returned (.tuple #[.slice s.1 l.length s.2,i64 0])/\FsV Y l s/\Bw X Y:=by
 have hx:(zbM bufP [0,1]).all exvB=true:=(bAT _ _▸zrw:_/\_).1;refine (By_c (n:=5) (V:=[0,1]) (most:=100) (m:=m) (Nat.le_refl _) hP hG (zn9 zr8) hx hm).mono ?_;rintro e Y ⟨⟨q,c,rfl,ho⟩,hb⟩;rw [hl] at ho ⊢;exact⟨(q,c),rfl,⟨ho.row,zgT ho⟩,hb⟩
theorem FsV.below {X Y:World} {l:List FinV} {s:Option Addr×Nat} (h:FsV X l s) (hb:Bw X Y):FsV Y l s:=⟨h.1.below hb,h.2⟩
theorem zj3 (hG:GlobE w):CB 10 #[] w (.bool true):=by
 refine cofM 125 [] (.s .p (.c .p (.c .p (.c .p (.c .p (.c .p (.c .p (.c .p (.c .p .p))))))))) Tryz.func10 ?_;refine⟨Option Addr×Nat,fun s=>⟨[(1,.slice s.1 scL.length s.2),(2,i64 0)],[]⟩,fun s X=>FsV X scL s/\Bw w X,?_,?_⟩
 ·refine cmo zc0 ?_;rintro e X ⟨⟨vs,rfl,hP⟩,b1⟩;refine cmo (zoO (m:=2) (hG.below b1) hP (by decide) zrY) ?_;rintro e Y ⟨s,rfl,hs,b2⟩;exact⟨s,(cvE rfl rfl),hs,(zst b1 b2)⟩
 rintro s1 X1 ⟨h1,b1⟩;refine⟨Option Addr×Nat,fun s=>⟨[(1,.slice s1.1 scL.length s1.2),(2,i64 0),(3,.slice s.1 tsoL.length s.2),(4,i64 0)],[]⟩,fun s X=>FsV X scL s1/\FsV X tsoL s/\Bw w X,?_,?_⟩
 ·refine cmo zc0 ?_;rintro e X ⟨⟨vs,rfl,hP⟩,b2⟩;have b12:=zst b1 b2;refine cmo (zoO (m:=3) (hG.below b12) hP (by decide) zqG) ?_;rintro e Y ⟨s,rfl,hs,b3⟩;exact⟨s,(cvE rfl rfl),(h1.below b2).below b3,hs,(zst b12 b3)⟩
 clear h1 b1 X1;rintro s2 X ⟨h1,h2,bX⟩;refine⟨Unit,fun _=>⟨[(1,.slice s1.1 scL.length s1.2),(2,i64 0),(3,.slice s2.1 tsoL.length s2.2),(4,i64 0),(6,i64 2)],[]⟩,fun _ X=>FsV X scL s1/\FsV X tsoL s2/\Bw w X,?_,?_⟩
 ·refine cmo zc0 ?_;rintro e Y ⟨⟨vs,rfl,hP⟩,b2⟩;refine cmo (zrM (most:=100) hP.v.size) ?_;rintro e Z ⟨rfl,b3⟩;have b23:=zst b2 b3;exact⟨(),(cvE rfl rfl),h1.below b23,h2.below b23,(zst bX b23)⟩
 clear h1 h2 bX X;rintro _ X ⟨h1,h2,bX⟩;refine⟨Nat×Nat,fun s=>⟨[(1,.slice s1.1 scL.length s1.2),(2,i64 0),(3,.slice s2.1 tsoL.length s2.2),(4,i64 0),(6,i64 2),(7,At0 s.2)],[]⟩,fun s X=>FsV X scL s1/\FsV X tsoL s2/\Bw w X/\X.heap[s.2]?=some (.cells (zar zdX (some ⟨s.1,0,none⟩) 2).toArray 29 (0,0))/\KidsG X.heap.size X (some ⟨s.1,0,none⟩) zkQ,?_,?_⟩
 ·refine cmo (zqL (t:=0) (n:=0) (v:=0)) ?_;rintro e Y1 ⟨rfl,b1⟩;refine cmo (zqL (t:=1) (n:=0) (v:=0)) ?_;rintro e Y2 ⟨rfl,b2⟩;refine⟨⟨by decide,by decide,rfl⟩,zar (.mk 1 0 0 0 []) none 0++zar (.mk 1 1 0 0 []) none 0,by kernel_rfl,?_⟩;have f3:=hnew Y2 (.cells (zar (.mk 1 0 0 0 []) none 0++zar (.mk 1 1 0 0 []) none 0).toArray 29);have b3:Bw Y2 (Y2.alloc (.cells (zar (.mk 1 0 0 0 []) none 0++zar (.mk 1 1 0 0 []) none 0).toArray 29)):=zba _ _;refine cmo (of_c (k:=3) (kids:=zkQ) (q:=some ⟨Y2.heap.size,0,none⟩) (cap:=2)) ?_;rintro e Y4 ⟨rfl,b4⟩;have f4:=zab b4 f3;refine zap (X:=Y4) (v:=cndV zdX (some ⟨Y2.heap.size,0,none⟩) 2) k29 rfl rfl rfl fun U hbU fU sU=>?_;have b:=(((zst b1 b2)).trans (b3.mono ((zst b1 b2)).size));have bb:=zst b b4;have bU:=zst bb hbU;exact⟨(Y2.heap.size,Y4.heap.size),(cvE rfl rfl),h1.below bU,h2.below bU,(zst bX bU),fU,zl2 (zab hbU f4)⟩
 clear h1 h2 bX X;rintro⟨g,b7⟩ X ⟨h1,h2,bX,f7,hk⟩;dsimp only at f7 hk;obtain⟨q7,hq7⟩:=nm ((some ⟨g,0,none⟩:Option Addr));rw [<- hq7] at f7 hk;refine⟨Unit,fun _=>⟨[(1,.slice s1.1 scL.length s1.2),(2,i64 0),(3,.slice s2.1 tsoL.length s2.2),(4,i64 0),(6,i64 2),(7,At0 b7),(8,.bool false),(9,i64 0)],[]⟩,fun _ X=>FsV X scL s1/\FsV X tsoL s2/\Bw w X/\X.heap[b7]?=some (.cells (zar zdX q7 2).toArray 29 (0,0))/\KidsG X.heap.size X q7 zkQ,?_,?_⟩
 ·refine⟨zar zdX q7 2,rfl,zaa f7,hlt f7,?_⟩;refine cmo (zho (ask:=1) (c:=zdX) hk h1.1 (by decide) h1.2) ?_;rw [zo5,zlo 1 (by decide)];rintro e Y ⟨rfl,b⟩;exact⟨(),(cvE rfl rfl),h1.below b,h2.below b,(zst bX b),zab b f7,(hk.kept b).wider b.size⟩
 clear h1 h2 bX f7 hk X;rintro _ X ⟨h1,h2,bX,f7,hk⟩;refine⟨Unit,fun _=>⟨[(1,.slice s1.1 scL.length s1.2),(2,i64 0),(3,.slice s2.1 tsoL.length s2.2),(4,i64 0),(6,i64 2),(7,At0 b7),(8,.bool false),(9,i64 0),(10,.bool true),(11,i64 0)],[]⟩,fun _ X=>FsV X scL s1/\FsV X tsoL s2/\Bw w X/\X.heap[b7]?=some (.cells (zar zdX q7 2).toArray 29 (0,0))/\KidsG X.heap.size X q7 zkQ,?_,?_⟩
 ·refine⟨zar zdX q7 2,rfl,zaa f7,hlt f7,?_⟩;refine cmo (zho (ask:=2) (c:=zdX) hk h1.1 (by decide) h1.2) ?_;rw [zo4,zlo 2 (by decide)];rintro e Y ⟨rfl,b⟩;exact⟨(),(cvE rfl rfl),h1.below b,h2.below b,(zst bX b),zab b f7,(hk.kept b).wider b.size⟩
 clear h1 h2 bX f7 hk X;rintro _ X ⟨h1,h2,bX,f7,hk⟩;refine⟨Unit,fun _=>⟨[(1,.slice s1.1 scL.length s1.2),(2,i64 0),(3,.slice s2.1 tsoL.length s2.2),(4,i64 0),(6,i64 2),(8,.bool false),(9,i64 0),(10,.bool true),(11,i64 0),(12,.bool true),(13,i64 1)],[]⟩,fun _ X=>FsV X scL s1/\FsV X tsoL s2/\Bw w X,?_,?_⟩
 ·refine⟨zar zdX q7 2,rfl,zaa f7,hlt f7,?_⟩;refine cmo (zho (ask:=1) (c:=zdX) hk h2.1 (by decide) h2.2) ?_;rw [znd,znc];rintro e Y ⟨rfl,b⟩;exact⟨(),(cvE rfl rfl),h1.below b,h2.below b,(zst bX b)⟩
 clear h1 h2 bX f7 hk X;rintro _ X ⟨h1,h2,bX⟩;refine⟨Unit,fun _=>⟨[(1,.slice s1.1 scL.length s1.2),(2,i64 0),(3,.slice s2.1 tsoL.length s2.2),(4,i64 0),(6,i64 2),(8,.bool false),(9,i64 0),(10,.bool true),(11,i64 0),(12,.bool true),(13,i64 1),(14,.bool false)],[]⟩,fun _ X=>FsV X scL s1/\FsV X tsoL s2/\Bw w X,?_,?_⟩
 ·refine cmo (of_c (k:=5) (kids:=[]) (q:=none) (cap:=0)) ?_;rintro e Y1 ⟨rfl,b1⟩;refine cmo (zfw (a:=0) (b:=0)) ?_;rintro e Y2 ⟨rfl,b2⟩;refine cmo (zfh (F:=outF 0 0) (c := .mk 5 0 0 0 []) (q:=none) (cap:=0) .empty) ?_;rintro e Y3 ⟨rfl,b3⟩;have b13:=((zst b1 b2)).trans (b3.mono ((zst b1 b2)).size);refine brF ?_;refine cmo (of_c (k:=3) (kids:=[]) (q:=none) (cap:=0)) ?_;rintro e Y4 ⟨rfl,b4⟩;refine cmo (zfw (a:=0) (b:=0)) ?_;rintro e Y5 ⟨rfl,b5⟩;refine cmo (zfh (F:=outF 0 0) (c := .mk 3 0 0 0 []) (q:=none) (cap:=0) .empty) ?_;rintro e Y6 ⟨rfl,b6⟩;have b46:=((zst b4 b5)).trans (b6.mono ((zst b4 b5)).size);refine brF ?_;refine cmo (of_c (k:=4) (kids:=[]) (q:=none) (cap:=0)) ?_;rintro e Y7 ⟨rfl,b7⟩;refine cmo (zfw (a:=0) (b:=0)) ?_;rintro e Y8 ⟨rfl,b8⟩;refine cmo (zfh (F:=outF 0 0) (c := .mk 4 0 0 0 []) (q:=none) (cap:=0) .empty) ?_;rintro e Y9 ⟨rfl,b9⟩;have b79:=((zst b7 b8)).trans (b9.mono ((zst b7 b8)).size);have b16:=zst b13 b46;have b19:=zst b16 b79;exact⟨(),(cvE rfl rfl),h1.below b19,h2.below b19,(zst bX b19)⟩
 clear h1 h2 bX X;rintro _ X ⟨h1,h2,bX⟩;refine brT ?_;refine brT ?_;refine brT ?_;refine cmo (zfw (a:=0) (b:=1)) ?_;rintro e Y1 ⟨rfl,b1⟩;refine cmo (zfw (a:=1) (b:=0)) ?_;rintro e Y2 ⟨rfl,b2⟩;refine cmo (zfw (a:=1) (b:=1)) ?_;rintro e Y3 ⟨rfl,b3⟩;refine⟨⟨by decide,by decide,rfl⟩,finE.enc (outF 0 1)++(finE.enc (outF 1 0)++finE.enc (outF 1 1)),by kernel_rfl,?_⟩;have f4:=hnew Y3 (.cells (finE.enc (outF 0 1)++(finE.enc (outF 1 0)++finE.enc (outF 1 1))).toArray 27);have b4:Bw Y3 (Y3.alloc (.cells (finE.enc (outF 0 1)++(finE.enc (outF 1 0)++finE.enc (outF 1 1))).toArray 27)):=zba _ _;have r4:SlR finE (Y3.alloc (.cells (finE.enc (outF 0 1)++(finE.enc (outF 1 0)++finE.enc (outF 1 1))).toArray 27)) (some ⟨Y3.heap.size,0,none⟩) [outF 0 1,outF 1 0,outF 1 1]:=(RowB.slr (.inr ⟨_,0,rfl,hlt f4,by
  have e:[outF 0 1,outF 1 0,outF 1 1].flatMap finE.enc=finE.enc (outF 0 1)++(finE.enc (outF 1 0)++finE.enc (outF 1 1)):=by simp [List.flatMap_cons]
  rw [e];exact zaa f4⟩) (Nat.le_refl _))
 have b12:=zst b1 b2;have b13:=zst b12 b3;have b14:=zst b13 b4;refine cmo (zfi (la:=scL) (lb:=[outF 0 1,outF 1 0,outF 1 1]) (ca:=s1.2) (cb:=3) (h1.1.below b14) r4 (by decide)) ?_;rw [decide_eq_true (show scL=[outF 0 1,outF 1 0,outF 1 1] from rfl)];rintro e Y5 ⟨rfl,b5⟩;have h2:=(h2.below b14).below b5;have bY:=bX.trans (((zst b14 b5)).mono bX.size);clear b12 b13 b14 b1 b2 b3 b4 b5 r4 f4 h1 bX;refine brT ?_;refine cmo (zfw (a:=0) (b:=0)) ?_;rintro e Z1 ⟨rfl,b1⟩;refine cmo (zfw (a:=0) (b:=1)) ?_;rintro e Z2 ⟨rfl,b2⟩;refine cmo (zfw (a:=1) (b:=0)) ?_;rintro e Z3 ⟨rfl,b3⟩;refine cmo (zfw (a:=1) (b:=1)) ?_;rintro e Z4 ⟨rfl,b4⟩;refine⟨⟨by decide,by decide,rfl⟩,finE.enc (outF 0 0)++(finE.enc (outF 0 1)++(finE.enc (outF 1 0)++finE.enc (outF 1 1))),by kernel_rfl,?_⟩;have f5:=hnew Z4 (.cells (finE.enc (outF 0 0)++(finE.enc (outF 0 1)++(finE.enc (outF 1 0)++finE.enc (outF 1 1)))).toArray 27);have b5:Bw Z4 (Z4.alloc (.cells (finE.enc (outF 0 0)++(finE.enc (outF 0 1)++(finE.enc (outF 1 0)++finE.enc (outF 1 1)))).toArray 27)):=zba _ _;have r5:SlR finE (Z4.alloc (.cells (finE.enc (outF 0 0)++(finE.enc (outF 0 1)++(finE.enc (outF 1 0)++finE.enc (outF 1 1)))).toArray 27)) (some ⟨Z4.heap.size,0,none⟩) [outF 0 0,outF 0 1,outF 1 0,outF 1 1]:=(RowB.slr (.inr ⟨_,0,rfl,hlt f5,by
  have e:[outF 0 0,outF 0 1,outF 1 0,outF 1 1].flatMap finE.enc=finE.enc (outF 0 0)++(finE.enc (outF 0 1)++(finE.enc (outF 1 0)++finE.enc (outF 1 1))):=by simp [List.flatMap_cons]
  rw [e];exact zaa f5⟩) (Nat.le_refl _))
 have b12:=zst b1 b2;have b13:=zst b12 b3;have b14:=zst b13 b4;have b15:=zst b14 b5;refine cmo (zfi (la:=tsoL) (lb:=[outF 0 0,outF 0 1,outF 1 0,outF 1 1]) (ca:=s2.2) (cb:=4) (h2.1.below b15) r5 (by decide)) ?_;rw [decide_eq_true (show tsoL=[outF 0 0,outF 0 1,outF 1 0,outF 1 1] from rfl)];rintro e Z6 ⟨rfl,b6⟩;have bZ:=bY.trans (((zst b15 b6)).mono bY.size);clear b12 b13 b14 b15 b1 b2 b3 b4 b5 b6 r5 f5 h2 bY;refine brT ?_;refine brT ?_;refine brT ?_;refine brT ?_;refine brT ?_;refine brT ?_;refine brT ?_;refine brT ?_;refine cmo zc0 ?_;rintro e V1 ⟨⟨vs,rfl,hP⟩,b1⟩;refine cmo (zfw (a:=1) (b:=1)) ?_;rintro e V2 ⟨rfl,b2⟩;have b12:=zst b1 b2;have bV:=zst bZ b12;refine cmo (zrC (N:=100) (p:=bufP) (F:=outF 1 1) b2.size (hP.v.below b2) (hG.below bV).c (zkD _) (by decide) (fun t r ht hr=>(by decide:∀ t,t<4->∀ r,r<8->((outF 1 1).reg t r).toNat<100) t ht r hr) (by decide)) ?_;rw [zo2];rintro e V3 ⟨rfl,b3⟩;refine⟨_,fun w=>za8 _ _ okT okT w,?_⟩;refine⟨by rw [decide_eq_true rfl];rfl,(zst bV b3)⟩
end
section
variable {w:World} {pa pb:Option Addr} {ca cb:Nat} {la lb:List FinV}
theorem zjh (ha:SlR finE w pa la) (hb:SlR finE w pb lb) (hna:la.length<=1000000) (hnb:lb.length<=1000000) (hs:∀ x∈la,x∈lb):CB 23 #[.slice pa la.length ca,.slice pb lb.length cb] w (.bool true):=by
 refine cofM 32 [.slice pa la.length ca,.slice pb lb.length cb] (.s .p (.s (.s .p (.b (.l (.s .p (.s .p (.s (.b (.c .p (.s .p (.c (.s .p (.b (.l (.s .p (.s .p (.s (.b (.c .p .p)) .p)))))) .p)))) .p)))))) .p)) Tryz.func23 ?_;refine⟨Nat,fun k=>⟨[(1,.slice pb lb.length cb),(10,.slice pa la.length ca),(11,i64 la.length),(12,i64 k)],[]⟩,fun k X=>k<=la.length/\Bw w X,fun k=>la.length-k,0,(cvE rfl rfl),⟨Nat.zero_le _,Below.refl _ _⟩,?_⟩;rintro k X ⟨hk,bX⟩;refine biE (fun h=>?_) fun h=>?_
 ·have hka:k<la.length:=by have:=dT h;omega
  clear h;obtain⟨b1,o1,rfl,hl1,hat1⟩:=(ha.below bX).at hka;obtain⟨x,hx⟩:=nm (la[k]);have c1:=hat1 k hka;rw [<- hx] at c1;have hxb:x∈lb:=hs x (by rw [hx];exact gM hka);refine⟨Nat,fun s=>⟨[(1,.slice pb lb.length cb),(6,At0 s),(10,.slice (some ⟨b1,o1,none⟩) la.length ca),(11,i64 la.length),(12,i64 k)],[]⟩,fun s Y=>Y.heap[s]?=some (.cells (finE.enc x).toArray 27 (0,0))/\Bw X Y,?_,?_⟩
  ·refine⟨k,rfl,hka,?_⟩;refine⟨finE.enc x,finE.len x,c1,hl1,?_⟩;refine zap (X:=X) (v:=zaD x) k27 (finE.len x) rfl (List.all_eq_true.2 fun v hv=>finE.one x v hv) fun U hbU fU sU=>?_;exact⟨X.heap.size,(cvE rfl rfl),fU,hbU⟩
  rintro s Y ⟨f6,bY⟩;have bwY:=zst bX bY;refine⟨Unit,fun _=>⟨[(1,.slice pb lb.length cb),(7,.bool true),(10,.slice (some ⟨b1,o1,none⟩) la.length ca),(11,i64 la.length),(12,i64 k)],[]⟩,fun _ Z=>Bw w Z,?_,?_⟩
  ·refine⟨Nat,fun j=>⟨[(1,.slice pb lb.length cb),(6,At0 s),(7,.bool ((lb.take j).any fun y=>decide (x=y))),(10,.slice (some ⟨b1,o1,none⟩) la.length ca),(11,i64 la.length),(12,i64 k),(16,.slice pb lb.length cb),(17,i64 lb.length),(18,i64 j)],[]⟩,fun j Z=>j<=lb.length/\Z.heap[s]?=some (.cells (finE.enc x).toArray 27 (0,0))/\Bw w Z,fun j=>lb.length-j,0,(cvE rfl rfl),⟨Nat.zero_le _,f6,bwY⟩,?_⟩;rintro j Z ⟨hj,f6,bZ⟩;refine biE (fun h=>?_) fun h=>?_
   ·have hjb:j<lb.length:=(by have:=dT h;omega);clear h;obtain⟨b2,o2,rfl,hl2,hat2⟩:=(hb.below bZ).at hjb;obtain⟨y,hy⟩:=nm (lb[j]);have c2:=hat2 j hjb;rw [<- hy] at c2;have hsn:((lb.take (j+1)).any fun y=>decide (x=y))=(((lb.take j).any fun y=>decide (x=y))||decide (x=y)):=(by rw [zia hjb,hy]);obtain⟨V,hV⟩:=nm ((lb.take j).any fun y=>decide (x=y));rw [<- hV] at hsn;refine⟨Nat,fun t=>⟨[(1,.slice (some ⟨b2,o2,none⟩) lb.length cb),(6,At0 s),(7,.bool V),(9,At0 t),(10,.slice (some ⟨b1,o1,none⟩) la.length ca),(11,i64 la.length),(12,i64 k),(16,.slice (some ⟨b2,o2,none⟩) lb.length cb),(17,i64 lb.length),(18,i64 j)],[]⟩,fun t U=>U.heap[t]?=some (.cells (finE.enc y).toArray 27 (0,0))/\Bw Z U,?_,?_⟩
    ·refine⟨j,rfl,hjb,?_⟩;refine⟨finE.enc y,finE.len y,c2,hl2,?_⟩;refine zap (X:=Z) (v:=zaD y) k27 (finE.len y) rfl (List.all_eq_true.2 fun v hv=>finE.one y v hv) fun U hbU fU sU=>?_;exact⟨Z.heap.size,⟨.cons rfl (.cons rfl (.cons (by rw [hV];rfl) (.cons rfl (.cons rfl (.cons rfl (.cons rfl (.cons rfl (.cons rfl (.cons rfl .nil))))))))),rfl⟩,fU,hbU⟩
    rintro t U ⟨f9,bU⟩;have f6:=zab bU f6;have bU:=zst bZ bU;refine biE (fun h=>?_) fun h=>?_
    ·rw [h,Bool.true_or] at hsn;refine⟨_,zaf (by omega),?_⟩;exact⟨j+1,⟨.cons rfl (.cons rfl (.cons (by rw [hsn];rfl) (.cons rfl (.cons rfl (.cons rfl (.cons rfl (.cons rfl (.cons rfl .nil)))))))),rfl⟩,⟨hjb,f6,bU⟩,by dsimp only;omega⟩
    ·rw [h,Bool.false_or] at hsn;refine⟨finE.enc x,finE.len x,zaa f6,hlt f6,?_⟩;refine⟨finE.enc y,finE.len y,zaa f9,hlt f9,?_⟩;refine⟨_,fun w=>zjP _ _ x y w,?_⟩;refine⟨_,zaf (by omega),?_⟩;exact⟨j+1,⟨.cons rfl (.cons rfl (.cons (by rw [hsn];rfl) (.cons rfl (.cons rfl (.cons rfl (.cons rfl (.cons rfl (.cons rfl .nil)))))))),rfl⟩,⟨hjb,f6,bU⟩,by dsimp only;omega⟩
   ·have hje:j=lb.length:=(by have:=dF h;omega);subst hje;have e:((lb.take lb.length).any fun y=>decide (x=y))=true:=by
     rw [List.take_length,List.any_eq_true];exact⟨x,hxb,decide_eq_true rfl⟩
    exact⟨(),⟨.cons rfl (.cons (by rw [<- e];rfl) (.cons rfl (.cons rfl (.cons rfl .nil)))),rfl⟩,bZ⟩
  rintro _ Z bZ;refine brF ?_;refine⟨_,zaf (by omega),?_⟩;exact⟨k+1,(cvE rfl rfl),⟨hka,bZ⟩,by dsimp only;omega⟩
 ·exact⟨rfl,bX⟩
end
section
variable {w:World} {p:Option Addr} {cap:Nat} {l:List FinV} {tn:UInt8} {a b c:FinV}
structure B3 (X:World) (L:Nat) (a b c:FinV):Prop where
 a:X.heap[L]?=some (.cells (finE.enc a).toArray 27 (0,0))
 b:X.heap[L+1]?=some (.cells (finE.enc b).toArray 27 (0,0))
 c:X.heap[L+2]?=some (.cells (finE.enc c).toArray 27 (0,0))
theorem B3.below {X Y:World} {L:Nat} (h:B3 X L a b c) (k:Bw X Y):B3 Y L a b c:=⟨zab k h.a,zab k h.b,zab k h.c⟩
theorem zfk (hl:SlR finE w p l) (hlc:l.length<=cap) (hp:p=none->cap=0) (hG:GlobE w):CB 7 #[.slice p l.length cap,u8 tn,zaD a,zaD b,zaD c] w (.bool true):=by
 refine cofM 128 [.slice p l.length cap,u8 tn,zaD a,zaD b,zaD c] (.c .p (.s .p (.c .p (.s .p (.c .p (.c .p (.c (.s .p (.b (.l (.s .p (.s .p (.s (.b .p) .p)))))) (.c .p (.c .p .p))))))))) Tryz.func7 ?_;obtain⟨L,hL⟩:=nm (w.heap.size);refine⟨Unit,fun _=>⟨[(0,.slice p l.length cap),(1,u8 tn),(7,At0 L),(8,At0 (L+1)),(9,At0 (L+2))],[]⟩,fun _ X=>B3 X L a b c/\Bw w X,?_,?_⟩
 ·have fa:=hnew w (.cells (zaD a).cells 27);have n1:(w.alloc (.cells (zaD a).cells 27)).heap.size=L+1:=by rw [wz,hL]
  have fb:=hnew (w.alloc (.cells (zaD a).cells 27)) (.cells (zaD b).cells 27);have n2:((w.alloc (.cells (zaD a).cells 27)).alloc (.cells (zaD b).cells 27)).heap.size=L+2:=by rw [wz,n1]
  have fc:=hnew ((w.alloc (.cells (zaD a).cells 27)).alloc (.cells (zaD b).cells 27)) (.cells (zaD c).cells 27);have fa2:=hold (.cells (zaD c).cells 27) (hold (.cells (zaD b).cells 27) fa);have fb2:=hold (.cells (zaD c).cells 27) fb;rw [n1] at fb2;rw [n2] at fc;rw [<- hL] at fa2;exact⟨(),⟨.cons rfl (.cons rfl (.cons (by rw [hL];rfl) (.cons (by rw [<- n1];rfl) (.cons (by rw [<- n2];rfl) .nil)))),rfl⟩,⟨fa2,fb2,fc⟩,(((zba w _)).alloc (by omega) _).alloc (by omega) _⟩
 rintro _ X ⟨h3,bX⟩;refine biE (fun h=>?_) fun h=>?_
 ·refine cmo (zj3 (hG.below bX)) ?_;rintro e Y ⟨rfl,bY⟩;exact⟨rfl,(zst bX bY)⟩
 have h40:l.length<=40:=by have:=dF h;omega
 clear h;obtain⟨S,hS⟩:=nm (zcE l);have hSn:S.length<=40:=by
  rw [hS];exact Nat.le_trans (zfy (zhX (zcm l)) fun x hx=>zcl.1 hx) h40
 have hSi:Inc S:=by rw [hS];exact zcm l
 have hSm:∀ x,x∈S↔x∈l:=fun x=>by rw [hS];exact zcl
 refine⟨Option Addr×Nat,fun s=>⟨[(0,.slice p l.length cap),(1,u8 tn),(7,At0 L),(8,At0 (L+1)),(9,At0 (L+2)),(11,.slice s.1 S.length s.2)],[]⟩,fun s X=>FsV X S s/\B3 X L a b c/\Bw w X,?_,?_⟩
 ·refine cmo (zic (hl.below bX) (by omega) hp) ?_;rintro e Y ⟨q,c',rfl,ho,bY⟩;rw [<- hS] at ho ⊢;exact⟨(q,c'),(cvE rfl rfl),⟨ho.row,zgT ho⟩,h3.below bY,(zst bX bY)⟩
 clear h3 bX X;rintro⟨qs,cs⟩ X ⟨hs,h3,bX⟩;refine⟨Nat,fun k=>⟨[(0,.slice p l.length cap),(7,At0 L),(8,At0 (L+1)),(9,At0 (L+2)),(11,.slice qs S.length cs),(12,i64 k)],[]⟩,fun k Y=>k<=l.length/\X=Y,?_,?_⟩
 ·refine biE (fun h=>?_) fun h=>?_
  ·have h0:0<l.length:=by have:=dT h;omega
   refine⟨(tn.toNat:Int),zaf (by have:=tn.toNat_lt;omega),?_⟩;refine⟨by omega,((tn.toNat%l.length:Nat):Int),rfl,?_⟩;exact⟨tn.toNat%l.length,(cvE rfl rfl),Nat.le_of_lt (Nat.mod_lt _ h0),rfl⟩
  ·exact⟨0,(cvE rfl rfl),Nat.zero_le _,rfl⟩
 rintro k _ ⟨hk,rfl⟩;obtain⟨T,hT⟩:=nm (l.drop k++l.take k);have hTl:T.length=l.length:=by rw [hT,lap,List.length_drop,List.length_take];omega
 have hTm:∀ x,x∈T↔x∈l:=fun x=>by
  rw [hT,List.mem_append,or_comm,<- List.mem_append,List.take_append_drop]
 refine⟨Option Addr×Nat,fun s=>⟨[(0,.slice p l.length cap),(7,At0 L),(8,At0 (L+1)),(9,At0 (L+2)),(11,.slice qs S.length cs),(13,.slice s.1 T.length s.2)],[]⟩,fun s Y=>FsV Y T s/\Bw X Y,?_,?_⟩
 ·refine DrawE.ord [4,8] [1,2,3,5,6,7,0,4,8,9] (by kernel_rfl) ?_;have bd:Bw X X.drew:=(Below.refl _ X).drew;have hlX0:=hl.below bX;have hlX:=hlX0.below bd;refine⟨k,rfl,hk,?_⟩;refine⟨k,rfl,by omega,?_⟩;refine⟨⟨by decide,by decide,rfl⟩,[],rfl,?_⟩;have f0:=hnew X.drew (.cells #[] 27);have b0:Below X.drew.heap.size X.drew (X.drew.alloc (.cells #[] 27)):=zba _ _;refine⟨b0,?_⟩;have b1:=bd.trans b0;have hlY:=hlX.below b0;have o0:OwnS finE 27 X.heap.size (X.drew.alloc (.cells #[] 27)) (some ⟨X.drew.heap.size,0,none⟩) 0 ([]:List FinV):=⟨rfl,.inr ⟨_,0,_,rfl,Nat.le_refl _,f0,Nat.le_refl _,Nat.zero_le _,rfl,rfl⟩⟩;have s1:=hlY.sub (lo:=k) (hi:=l.length) hk (Nat.le_refl _) hlc;have e1:(l.drop k).take (l.length-k)=l.drop k:=List.take_of_length_le (by rw [List.length_drop];omega);rw [e1] at s1;have nc:∀ {m:Nat},zaI p cap m 38=none->cap-m=0:=fun {m} h=>by
   unfold zaI at h
   split at h
   ·omega
   ·cases p with
    | none=>rw [hp rfl];omega
    | some a=>cases h
  unfold opsO;refine zdY (α:=FinV) (E:=finE) (l:=[]) (news:=l.drop k) (m:=l.length-k) Tryz.underlying35 k27 rfl rfl rfl o0 (by rw [List.length_drop]) s1 nc b1.size (by show 0+_<=_;omega) (by show (0+_)*38<=_;omega) ?_;intro p1 c1 Y ho1 hg1 hb1;unfold opsO;have b1Y:Bw X Y:=b1.trans hb1;have s2:=(hlX0.below b1Y).sub (lo:=0) (hi:=k) (Nat.zero_le _) hk hlc;have e2:(l.drop 0).take (k-0)=l.take k:=by rw [List.drop_zero,Nat.sub_zero]
  rw [e2] at s2;rw [List.nil_append] at ho1;have hd:(l.drop k).length=l.length-k:=List.length_drop;refine zdY (α:=FinV) (E:=finE) (l:=l.drop k) (news:=l.take k) (m:=k-0) Tryz.underlying35 k27 rfl rfl rfl ho1 (by rw [List.length_take];omega) s2 nc b1Y.size (by omega) (by show ((l.drop k).length+(k-0))*38<=_;omega) ?_;intro p2 c2 Y2 ho2 hg2 hb2;unfold opsO;rw [<- hT] at ho2;exact⟨(p2,c2),⟨.cons rfl (.cons rfl (.cons rfl (.cons rfl (.cons rfl (.cons (by rw [hT];rfl) .nil))))),rfl⟩,⟨ho2.row,zgT ho2⟩,b1Y.trans hb2⟩
 rintro⟨qt,ct⟩ Y ⟨ht,bY⟩;have hs:=hs.below bY;have h3:=h3.below bY;have bwY:=zst bX bY;clear bY;refine⟨Unit,fun _=>⟨[(0,.slice p l.length cap),(7,At0 L),(8,At0 (L+1)),(9,At0 (L+2)),(11,.slice qs S.length cs),(13,.slice qt T.length ct)],[]⟩,fun _ Z=>Bw Y Z,?_,?_⟩
 ·refine⟨Nat,fun k=>⟨[(0,.slice p l.length cap),(7,At0 L),(8,At0 (L+1)),(9,At0 (L+2)),(11,.slice qs S.length cs),(13,.slice qt T.length ct),(41,i64 S.length),(42,i64 k)],[]⟩,fun k Z=>k<=S.length/\Bw Y Z,fun k=>S.length-k,0,(cvE rfl rfl),⟨Nat.zero_le _,Below.refl _ _⟩,?_⟩;rintro k Z ⟨hk,bZ⟩;refine biE (fun h=>?_) fun h=>?_
  ·have hks:k<S.length:=by have:=dT h;omega
   clear h;have bd:=bZ.trans ((Below.refl Z.heap.size Z).drew.mono bZ.size);have hsZ:=(hs.below bd).1;refine DrawE.ord [] [0,1,2,3,4,5,6,7,8,9,10,11,12,13,14] (by kernel_rfl) ?_;refine biE (fun h=>?_) fun h=>?_
   ·have h0:0<k:=(by have:=dT h;omega);obtain⟨b2,o2,hqs,hl2,hat2⟩:=hsZ.at hks;obtain⟨x,hx⟩:=nm (S[k-1]);obtain⟨y,hy⟩:=nm (S[k]);have c1:=hat2 (k-1) (by omega);have c2:=hat2 k hks;rw [<- hx] at c1;rw [<- hy] at c2;have hlt2:ltF x y=true:=(by rw [hx,hy];exact List.pairwise_iff_getElem.1 hSi (k-1) k (by omega) hks (by omega));dsimp only at hqs;subst hqs;refine⟨((k-1:Nat):Int),(zaf (by omega)).trans (by omega),?_⟩;refine⟨k-1,rfl,by omega,?_⟩;refine⟨finE.enc x,finE.len x,c1,hl2,?_⟩;refine⟨k,rfl,hks,?_⟩;refine⟨finE.enc y,finE.len y,c2,hl2,?_⟩;refine cmo zdk ?_;rw [hlt2];rintro e U ⟨rfl,bU⟩;refine⟨bU,?_⟩;refine brF ?_;refine⟨_,zaf (by omega),?_⟩;exact⟨k+1,(cvE rfl rfl),⟨hks,(zst bd bU)⟩,by dsimp only;omega⟩
   ·refine brF ?_;refine⟨_,zaf (by omega),?_⟩;exact⟨k+1,(cvE rfl rfl),⟨hks,bd⟩,by dsimp only;omega⟩
  ·exact⟨(),(cvE rfl rfl),bZ⟩
 rintro _ Z bZ;have hs:=hs.below bZ;have ht:=ht.below bZ;have h3:=h3.below bZ;have bwZ:=zst bwY bZ;clear bZ bwY;refine⟨Unit,fun _=>⟨[(0,.slice p l.length cap),(7,At0 L),(8,At0 (L+1)),(9,At0 (L+2)),(11,.slice qs S.length cs),(13,.slice qt T.length ct),(15,.bool (ltF a b||ltF b a))],[]⟩,fun _ U=>Bw Z U,?_,?_⟩
 ·refine⟨finE.enc a,finE.len a,zaa h3.a,hlt h3.a,?_⟩;refine⟨finE.enc b,finE.len b,zaa h3.b,hlt h3.b,?_⟩;refine cmo zdk ?_;rintro e U ⟨rfl,bU⟩;have h3:=h3.below bU;refine biE (fun h=>?_) fun h=>?_
  ·exact⟨(),⟨.cons rfl (.cons rfl (.cons rfl (.cons rfl (.cons rfl (.cons rfl (.cons (by rw [h];rfl) .nil)))))),rfl⟩,bU⟩
  ·refine⟨finE.enc b,finE.len b,zaa h3.b,hlt h3.b,?_⟩;refine⟨finE.enc a,finE.len a,zaa h3.a,hlt h3.a,?_⟩;refine cmo zdk ?_;rintro e V ⟨rfl,bV⟩;exact⟨(),⟨.cons rfl (.cons rfl (.cons rfl (.cons rfl (.cons rfl (.cons rfl (.cons (by rw [h];rfl) .nil)))))),rfl⟩,(zst bU bV)⟩
 rintro _ U bU;have hs:=hs.below bU;have ht:=ht.below bU;have h3:=h3.below bU;have bwU:=zst bwZ bU;clear bU bwZ;have hasym:(ltF a b&&ltF b a)=false:=by
  cases h:ltF a b with
  | false=>rfl
  | true=>rw [zg4 h];rfl
 refine⟨Unit,fun _=>⟨[(0,.slice p l.length cap),(7,At0 L),(8,At0 (L+1)),(9,At0 (L+2)),(11,.slice qs S.length cs),(13,.slice qt T.length ct),(15,.bool (ltF a b||ltF b a)),(16,.bool false)],[]⟩,fun _ V=>Bw U V,?_,?_⟩
 ·refine⟨finE.enc a,finE.len a,zaa h3.a,hlt h3.a,?_⟩;refine⟨finE.enc b,finE.len b,zaa h3.b,hlt h3.b,?_⟩;refine cmo zdk ?_;rintro e V ⟨rfl,bV⟩;have h3:=h3.below bV;refine biE (fun h=>?_) fun h=>?_
  ·rw [h,Bool.true_and] at hasym;refine⟨finE.enc b,finE.len b,zaa h3.b,hlt h3.b,?_⟩;refine⟨finE.enc a,finE.len a,zaa h3.a,hlt h3.a,?_⟩;refine cmo zdk ?_;rw [hasym];rintro e V2 ⟨rfl,bV2⟩;exact⟨(),(cvE rfl rfl),(zst bV bV2)⟩
  ·exact⟨(),(cvE rfl rfl),bV⟩
 rintro _ V bV;have hs:=hs.below bV;have ht:=ht.below bV;have h3:=h3.below bV;have bwV:=zst bwU bV;clear bV bwU hasym;have hSS:zcE S=S:=zer hSi;have hTS:zcE T=S:=by rw [hS];exact zlh hTm
 have hone:(ltF a b||ltF b a) = !decide (a=b):=by
  by_cases e:a=b
  ·subst e;rw [zex,decide_eq_true rfl];rfl
  ·rw [decide_eq_false e];rcases zeb a b with h | h | h
   ·rw [h];rfl
   ·rw [h,Bool.or_true];rfl
   ·exact absurd h e
 refine cmo (zjh (hl.below bwV) hs.1 (by omega) (by omega) fun x hx=>(hSm x).2 hx) ?_;rintro e V1 ⟨rfl,b1⟩;refine brT ?_;have hs:=hs.below b1;have bw1:=zst bwV b1;refine cmo (zjh hs.1 (hl.below bw1) (by omega) (by omega) fun x hx=>(hSm x).1 hx) ?_;rintro e V2 ⟨rfl,b2⟩;refine brT ?_;have b12:=zst b1 b2;have hs:=hs.below b2;have bw2:=zst bwV b12;refine cmo (zic hs.1 (by omega) hs.2) ?_;rw [hSS];rintro e V3 ⟨q3,c3,rfl,o3,b3⟩;have b13:=zst b12 b3;have hs:=hs.below b3;refine cmo (zfi (ca:=c3) o3.row hs.1 (by omega)) ?_;rw [decide_eq_true rfl];rintro e V4 ⟨rfl,b4⟩;refine brT ?_;have b14:=zst b13 b4;have hs:=hs.below b4;have ht:=ht.below b14;refine cmo (zic ht.1 (by omega) ht.2) ?_;rw [hTS];rintro e V5 ⟨q5,c5,rfl,o5,b5⟩;have b15:=zst b14 b5;have hs:=hs.below b5;refine cmo (zfi (ca:=c5) o5.row hs.1 (by omega)) ?_;rw [decide_eq_true rfl];rintro e V6 ⟨rfl,b6⟩;refine brT ?_;have b16:=zst b15 b6;have h3:=h3.below b16;have bw6:=zst bwV b16;refine⟨finE.enc a,finE.len a,zaa h3.a,hlt h3.a,?_⟩;refine⟨finE.enc b,finE.len b,zaa h3.b,hlt h3.b,?_⟩;refine⟨_,fun w=>zgW _ _ a b w,?_⟩;refine⟨_,fun w=>zmk _ _ (ltF a b||ltF b a) (!decide (a=b)) w,?_⟩;refine brE (decide_eq_true hone) ?_;refine brT ?_;refine⟨finE.enc a,finE.len a,zaa h3.a,hlt h3.a,?_⟩;refine⟨finE.enc b,finE.len b,zaa h3.b,hlt h3.b,?_⟩;refine cmo zdk ?_;rintro e V7 ⟨rfl,b7⟩;have h3:=h3.below b7;have bw7:=zst bw6 b7;refine biE (fun h=>?_) fun h=>?_
 ·refine brT ?_;refine brT ?_;refine cmo (zj3 (hG.below bw7)) ?_;rintro e Q ⟨rfl,bQ⟩;exact⟨rfl,(zst bw7 bQ)⟩
 have hab:ltF a b=true:=by simpa using h
 refine⟨finE.enc b,finE.len b,zaa h3.b,hlt h3.b,?_⟩;refine⟨finE.enc c,finE.len c,zaa h3.c,hlt h3.c,?_⟩;refine cmo zdk ?_;rintro e V8 ⟨rfl,b8⟩;have h3:=h3.below b8;have bw8:=zst bw7 b8;refine biE (fun h=>?_) fun h=>?_
 ·refine brT ?_;refine cmo (zj3 (hG.below bw8)) ?_;rintro e Q ⟨rfl,bQ⟩;exact⟨rfl,(zst bw8 bQ)⟩
 have hbc:ltF b c=true:=by simpa using h
 refine⟨finE.enc a,finE.len a,zaa h3.a,hlt h3.a,?_⟩;refine⟨finE.enc c,finE.len c,zaa h3.c,hlt h3.c,?_⟩;refine cmo zdk ?_;rw [zda hab hbc];rintro e V9 ⟨rfl,b9⟩;have bw9:=zst bw8 b9;refine brT ?_;refine cmo (zj3 (hG.below bw9)) ?_;rintro e Q ⟨rfl,bQ⟩;exact⟨rfl,(zst bw9 bQ)⟩
end
end Go.Proofs.YtlkofpbdpplfkaaGreatDoor
namespace Go.Proofs.YtlkofpbdpplfkaaGreatDoor
open Go.Vc Go.RowKit Go.Sei
open Go.ChangeShapes Go.WideShapes Go.ChangeAt
section
variable {H:Type} {enc:TypeId×Value->H} {P:Program} {w:World} {base:Nat} {spare:Nat->Bool} {held:Bool} {fuel:Nat} {t:TypeId} {cs:List Value} {x:DataW H×List MemPlace}
theorem zpq (ht:P.underlying t=some (.int .u8)) (h:DataW.trod enc P w base spare held fuel t cs=some x):∃ b:UInt8,cs=[u8 b]/\x.1 = .lit (.int .u8 b.toNat):=by
 obtain⟨n,rfl,rfl,hw⟩:=DataW.trod_int ht h;have hb:=bounds_u8 hw;have e:((UInt8.ofNat n.toNat).toNat:Int)=n:=by
  rw [UInt8.toNat_ofNat'];omega
 exact⟨UInt8.ofNat n.toNat,by rw [u8,e],by rw [e]⟩
theorem ze7 {n:Nat} {e:TypeId} (ht:P.underlying t=some (.array n e)) (he:P.underlying e=some (.int .u8)) (hc:P.cellsOf e=1) (hn:P.cellsOf t=n)
  (h:DataW.trod enc P w base spare held fuel t cs=some x):∃ bs:List UInt8,bs.length=n/\cs=bs.map u8/\x.1 = .agg (bs.map fun b => .lit (.int .u8 b.toNat)):=by
 obtain⟨xs,m,rfl,rfl,hl,hx,hel⟩:=DataW.trod_array ht h;rw [hn] at hl;have each:∀ i (h:i<n),∃ b:UInt8,cs[i]?=some (u8 b)/\xs[i]?.map (·.1)=some (.lit (.int .u8 b.toNat)):=fun i hi=>by
  have h1:=hel i hi;rw [hc,gE (by omega)] at h1;obtain⟨b,h2,h3⟩:=zpq he h1;refine⟨b,?_,by rw [gE (by omega),Option.map_some,h3]⟩;have:((cs.drop (i*1)).take 1)[0]?=some (u8 b):=by rw [h2];rfl
  simpa using this
 have:∀ k,k<=n->∃ bs:List UInt8,bs.length=k/\cs.take k=bs.map u8/\(xs.take k).map (·.1)=bs.map fun b => .lit (.int .u8 b.toNat):=by
  intro k
  induction k with
  | zero=>exact fun _=>⟨[],rfl,by simp,by simp⟩
  | succ k ih =>
   intro hk;obtain⟨bs,h1,h2,h3⟩:=ih (by omega);obtain⟨b,h4,h5⟩:=each k (by omega);have hk1:k<cs.length:=by omega
   have hk2:k<xs.length:=by omega
   rw [gE hk1] at h4;rw [gE hk2] at h5;refine⟨bs++[b],by simp [h1],?_,?_⟩
   ·rw [tsg hk1,h2,Option.some.inj h4];simp
   ·rw [tsg hk2,List.map_append,h3];simp at h5;simp [h5]
 obtain⟨bs,h1,h2,h3⟩:=this n (Nat.le_refl _);rw [List.take_of_length_le (by omega)] at h2 h3;exact⟨bs,h1,h2,by rw [<- h3]⟩
end
theorem zoN:Tryz.prog.cellsOf 5=1:=by kernel_rfl
theorem zj8 (b o i:Nat):(⟨b,o,none⟩:Addr).add i=⟨b,o+i,none⟩:=by
 unfold Addr.add;by_cases h:i=0
 ·simp [h]
 ·simp [h]
section
variable {w:World} {base:Nat} {cs:List Value}
theorem zh8 {a:Addr} {n:Nat} (hn:0<n) (h:w.cells? base a n=some cs):a.spot=none/\a.block<w.heap.size/\zax w ⟨a.block,a.off,none⟩ cs:=by
 obtain⟨_,hl,hc⟩:=World.cells?_some h;have h0:=hc 0 hn;rw [gE (by omega)] at h0;have hs:a.spot=none:=by simpa [Addr.add] using World.cell?_spot h0
 obtain⟨b,o,s⟩:=a;dsimp only at hs;subst hs;refine⟨rfl,World.block_lt_of_cell? _ _ h0,zbH fun i v hv=>?_⟩;have hi:i<n:=by have:=(List.getElem?_eq_some_iff.1 hv).1;omega
 have:=(hc i hi).trans hv;rw [zj8] at this;exact this
end
theorem znE {P:Program} {w:World} {r:Reach} {base:Nat} {t e:TypeId} {v:Value} (ht:P.underlying t=some (.slice e)) (h:Value.okWide P w r base t v) :
  ∃ a len cap,v = .slice a len cap/\len<=cap/\(a=none->cap=0):=by
 simp only [Value.okWide,ht,Cell.okWide] at h
 cases v with
 | slice a len cap =>
  cases a with
  | none =>
   refine⟨none,len,cap,rfl,?_⟩;unfold Cell.ok at h;rw [ht] at h
   split at h <;> simp_all
  | some a =>
   refine⟨some a,len,cap,rfl,?_,fun h=>by cases h⟩;unfold Cell.ok at h;rw [ht] at h
   split at h <;> simp_all
 | _=>simp_all [Cell.ok]
theorem znn:ownKnob Tryz.prog.godebug=none:=by kernel_rfl
theorem zb3:laidOutB Tryz.prog=true:=by kernel_rfl
section
variable {H:Type} {enc:TypeId×Value->H} {P:Program} {w:World} {base:Nat} {spare:Nat->Bool} {held:Bool} {fuel:Nat} {t e:TypeId} {cs:List Value} {x:DataW H×List MemPlace}
def Opens (enc:TypeId×Value->H) (P:Program) (w:World) (base:Nat) (spare:Nat->Bool) (held:Bool) (t:TypeId) (R:List Value->Prop):Prop :=
 ∀ fuel cs x,DataW.trod enc P w base spare held fuel t cs=some x->R cs
theorem Opens.field {fs:Array Field} {R:List Value->Prop} {i:Nat} {f:Field} {n:Nat} {xs:List (DataW H×List MemPlace)} {m:Nat} (hel:∀ (i:Nat) (f:Field),fs[i]?=some f->DataW.trod enc P w base spare held m f.type ((cs.drop f.offset).take (P.cellsOf f.type))=xs[i]?)
  (hl:xs.length=fs.size) (hi:fs[i]?=some f) {o:Nat} (hoo:f.offset=o) (hn:P.cellsOf f.type=n) (ho:Opens enc P w base spare held f.type R):R ((cs.drop o).take n):=by
 subst hoo;have h1:=hel i f hi;have:i<fs.size:=(Array.getElem?_eq_some_iff.1 hi).1;rw [gE (by omega),hn] at h1;exact ho _ _ _ h1
theorem zhK {n:Nat} (ht:P.underlying t=some (.array n e)) (he:P.underlying e=some (.int .u8)) (hc:P.cellsOf e=1) (hn:P.cellsOf t=n):Opens enc P w base spare held t fun cs=>∃ bs:List UInt8,bs.length=n/\cs=bs.map u8:=fun fuel cs x h=>by
 obtain⟨bs,h1,h2,_⟩:=ze7 ht he hc hn h;exact⟨bs,h1,h2⟩
theorem zpz {β:Type} {n:Nat} (i0:β) {Q:Nat->β->Prop} (h:∀ i,i<n->∃ b,Q i b):∃ bs:List β,bs.length=n/\∀ i (hi:i<bs.length),Q i bs[i]:=by
 have h2:∀ i,∃ b,i<n->Q i b:=fun i=>by
  by_cases hi:i<n
  ·obtain⟨b,hb⟩:=h i hi;exact⟨b,fun _=>hb⟩
  ·exact⟨i0,fun h=>absurd h hi⟩
 obtain⟨g,hg⟩:=Classical.axiomOfChoice h2;refine⟨(List.range n).map g,by simp,fun i hi=>?_⟩;simp only [List.getElem_map,List.getElem_range];exact hg i (by simpa using hi)
theorem zmb {β:Type} {f:β->List Value} {sz:Nat}:∀ (bs:List β) (cs:List Value),cs.length=bs.length*sz->(∀ i (h:i<bs.length),(cs.drop (i*sz)).take sz=f bs[i])->cs=bs.flatMap f
 | [],cs,hl,_=>by simpa using hl
 | b::r,cs,hl,h=>by
  have h0:=h 0 (by simp);simp only [Nat.zero_mul,List.drop_zero,List.getElem_cons_zero] at h0;rw [List.flatMap_cons,<- h0]
  conv=>lhs;rw [<- List.take_append_drop sz cs]
  congr 1;refine zmb (sz:=sz) r (cs.drop sz) (by rw [List.length_drop,hl,List.length_cons,Nat.add_mul];omega) fun i hi=>?_;have h1:=h (i+1) (by simpa using hi);rw [List.drop_drop];simpa [Nat.add_mul,Nat.add_comm] using h1
theorem zlP {β:Type} (i0:β) {f:β->List Value} {Q:β->Prop} {n sz:Nat} (ht:P.underlying t=some (.array n e)) (hc:P.cellsOf e=sz) (hn:P.cellsOf t=n*sz) (ho:Opens enc P w base spare held e fun cs=>∃ b,Q b/\cs=f b) :
  Opens enc P w base spare held t fun cs=>∃ bs:List β,bs.length=n/\(∀ b∈bs,Q b)/\cs=bs.flatMap f:=fun fuel cs x h=>by
 obtain⟨xs,m,rfl,rfl,hl,hx,hel⟩:=DataW.trod_array ht h;rw [hn] at hl;have each:∀ i,i<n->∃ b:β,Q b/\(cs.drop (i*sz)).take sz=f b:=fun i hi=>by
  have h1:=hel i hi;rw [hc,gE (by omega)] at h1;exact ho _ _ _ h1
 obtain⟨bs,h1,h2⟩:=zpz i0 each;refine⟨bs,h1,fun b hb=>?_,zmb bs cs (by rw [hl,h1]) fun i hi=>(h2 i hi).2⟩;obtain⟨i,hi,rfl⟩:=List.getElem_of_mem hb;exact (h2 i hi).1
theorem cut (cs:List Value) (o n o':Nat) (h:o+n=o'):cs.drop o=(cs.drop o).take n++cs.drop o':=by
 rw [<- h,<- List.drop_drop,List.take_append_drop]
end
theorem cC (t n:Nat) (h:Tryz.prog.cellsOf t=n):Tryz.prog.cellsOf t=n:=h
theorem zes {H:Type} {enc:TypeId×Value->H} {a:Assume} {C:Checked} {os:Os} {f:FuncId} {fn:Func} {s:ChangeSpec} {conds:List PathCond} {apart fresh handsOn again:Bool} {X:World->Array Value->Prop}
  (hX:∀ (w w':World) (args:Array Value),w.heap=w'.heap->X w args->X w' args)
  (own:ownKnob C.prog.godebug=none) (started:os.Started) (noInit:C.prog.inits.idxOf? f=none) (hfn:C.prog.funcs[f]?=some fn)
  (witness:∃ (w:World) (tape:Tape) (i:Input),w.os=os/\(w.forCall tape i).Shaped C.prog/\i.vars=[]/\Input.okWide C.prog (w.forCall tape i) .any w.heap.size f i /\
   ((s.pre enc C.prog fn conds apart (w.forCall tape i).memory i.args/\X (w.forCall tape i).memory i.args)/\sizedMet enc C.prog fn (OpenSpec.ofChange s) apart (w.forCall tape i).memory i.args)/\a.holds C.prog (lone (Frame.enter C.prog f i.args .normal) [] (w.forCall tape i)))
  (contract:∀ (W:World) (base:Nat) (args:Array Value) (ds gs:List (DataW H)) (before:List MemPlace),
   (∀ (j:Nat) t v,fn.params[j]?=some t->args[j]?=some v->Value.okWide C.prog W .any base t v) ->
   DataW.Whole enc C.prog fn.params.toList s.vars apart W args.toList ds gs before->X W args->W.ShapedOpen C.prog ->
   (∃ ds gs before,DataW.Whole enc C.prog fn.params.toList (OpenSpec.ofChange s).vars apart W args.toList ds gs before/\∀ n∈DataW.weightsEach C.prog (fn.params.toList++(OpenSpec.ofChange s).bare.plain.varTypes C.prog) (ds++gs),n<=reachBytes) ->
   Calls C.prog f args W fun e W'=>∃ v,e = .returned v/\s.post enc C.prog fn apart fresh handsOn again W args v W') :
  ReturnsInHanded a C os f .any (fun w args=>(s.pre enc C.prog fn conds apart w args/\X w args)/\sizedMet enc C.prog fn (OpenSpec.ofChange s) apart w args) (s.post enc C.prog fn apart fresh handsOn again):=by
 refine returnsInHanded_of_calls own started noInit witness ?_;intro w tape i _ hsh _ hok hpre hholds;obtain⟨_,_,_,fn',hfn',_,_,_,_,hval⟩:=hok;have e:fn'=fn:=Option.some.inj (hfn'.symm.trans hfn);subst e;obtain⟨⟨⟨ds,gs,before,hw,hc⟩,hx⟩,hz⟩:=hpre;have hw':=DataW.Whole.of_heap (w':=w.forCall tape i) (by rfl) hw;obtain⟨_,ds2,gs2,before2,hw2,hall⟩:=hz;refine (contract (w.forCall tape i) w.heap.size i.args ds gs before hval hw' (hX _ _ _ (by rfl) hx) hsh ⟨ds2,gs2,before2,DataW.Whole.of_heap (w':=w.forCall tape i) (by rfl) hw2,fun n hn=>dT (List.all_eq_true.1 hall n hn)⟩).mono fun e W' ⟨v,he,hp⟩=>?_;subst he;exact ChangeSpec.post_blind hp
theorem zg5 {H:Type}:∀ {a b:List UInt8},a.map (fun b=>(DataW.lit (.int .u8 b.toNat):DataW H))=b.map (fun b=>DataW.lit (.int .u8 b.toNat))->a=b
 | [],[],_=>rfl
 | [],_::_,h=>by cases h
 | _::_,[],h=>by cases h
 | x::a,y::b,h=>by
  simp only [List.map_cons,List.cons.injEq,DataW.lit.injEq,Lit.int.injEq,true_and] at h;rw [zg5 h.2,UInt8.toNat_inj.1 (by omega:x.toNat=y.toNat)]
theorem zjE {α:Type} (d:α) (f:α->Value) (n:Nat) (l:List α) (h:l.length=n):l.map f=(List.range n).map fun i=>f (l.getD i d):=by
 apply List.ext_getElem?;intro i;rw [List.getElem?_map,List.getElem?_map];by_cases hi:i<n
 ·rw [List.getElem?_range hi,gE (by omega),Option.map_some,Option.map_some,gDe,gE (by omega)];rfl
 ·rw [List.getElem?_eq_none (by omega),List.getElem?_eq_none (by rw [List.length_range];omega)];rfl
theorem flatMap_map {α:Type} (f:α->Value):∀ l:List (List α),l.flatMap (fun x=>x.map f)=l.flatten.map f
 | []=>rfl
 | a::l=>by rw [List.flatMap_cons,flatMap_map f l,List.flatten_cons,List.map_append]
section
variable {H:Type} {enc:TypeId×Value->H} {w:World} {base:Nat} {spare:Nat->Bool} {held:Bool}
theorem zfx:Opens enc Tryz.prog w base spare held 27 fun cs=>∃ (f g:Nat->UInt8),cs=seg 32 (fun i=>u8 (f i))++seg 6 (fun i=>u8 (g i)):=fun fuel cs x h=>by
 obtain⟨xs,m,rfl,rfl,hl,hx,hel⟩:=DataW.trod_struct Tryz.underlying27 h;rw [cC 27 38 (by kernel_rfl)] at hl;have row:Opens enc Tryz.prog w base spare held 23 fun cs=>∃ bs:List UInt8,bs.length=8/\cs=bs.map u8:=zhK Tryz.underlying23 Tryz.underlying5 zoN (cC 23 8 (by kernel_rfl));obtain⟨bss,h1,h2,e0⟩:=Opens.field (o:=0) (i:=0) hel hx rfl rfl (cC 24 32 (by kernel_rfl)) (zlP (β:=List UInt8) [] (f:=fun bs=>bs.map u8) (Q:=fun bs=>bs.length=8) (n:=4) (sz:=8) Tryz.underlying24 (by kernel_rfl) (by kernel_rfl) row);obtain⟨ms,h3,e1⟩:=Opens.field (o:=32) (i:=1) hel hx rfl rfl (cC 25 6 (by kernel_rfl)) (zhK Tryz.underlying25 Tryz.underlying5 zoN (cC 25 6 (by kernel_rfl)));have hfl:bss.flatten.length=32:=by
  match bss,h1 with
  | [a,b,c,d],_ =>
   have:=h2 a (by simp);have:=h2 b (by simp);have:=h2 c (by simp);have:=h2 d (by simp);simp only [List.flatten_cons,List.flatten_nil,lap,List.length_nil];omega
 refine⟨fun i=>bss.flatten.getD i 0,fun i=>ms.getD i 0,?_⟩;have h0:cs=cs.drop 0:=rfl;have h9:cs.drop 38=[]:=List.drop_of_length_le (by omega);rw [h0,cut cs 0 32 32 rfl,cut cs 32 6 38 rfl,e0,e1,h9,flatMap_map,zjE 0 u8 32 _ hfl,zjE 0 u8 6 ms h3,List.append_nil];rfl
end
theorem zlR {P:Program} {w:World} {r:Reach} {base:Nat} {t:TypeId} {v:Value} (ht:P.underlying t=some (.int .u8)) (h:Value.okWide P w r base t v):∃ b:UInt8,v=u8 b:=by
 unfold Value.okWide at h;rw [ht] at h
 cases v with
 | int k n =>
  have h1:k = .u8/\IntKind.has .u8 n:=by
   simp only [Cell.okWide,Cell.ok,ht] at h;obtain⟨rfl,h⟩:=h;exact⟨rfl,h⟩
  obtain⟨rfl,h2⟩:=h1;have h3:0<=n/\n<=255:=⟨by have:=h2.1;simpa [IntKind.min,IntKind.signed,IntKind.bits] using this,by have:=h2.2;simpa [IntKind.max,IntKind.signed,IntKind.bits] using this⟩;have e:((UInt8.ofNat n.toNat).toNat:Int)=n:=by
   rw [UInt8.toNat_ofNat'];omega
  exact⟨UInt8.ofNat n.toNat,by rw [u8,e]⟩
 | _=>simp_all [Cell.okWide,Cell.ok]
section
variable {H:Type} {enc:TypeId×Value->H} {w:World} {base:Nat} {spare:Nat->Bool} {held:Bool}
theorem zdQ {a:Array Value} {d:DataW H} {p:List MemPlace} (h:DataW.Trod enc Tryz.prog w base spare held 27 (.agg a) d p):∃ F:FinV,Value.agg a=zaD F:=by
 obtain⟨fuel,h⟩:=h;obtain⟨f,g,hc⟩:=zfx _ _ _ h;have:a.toList=finE.enc (finV f g):=hc.trans (zeg f g).symm;exact⟨finV f g,by rw [zaD,<- this]⟩
end
section
variable {H:Type} {enc:TypeId×Value->H} {w:World} {base:Nat} {spare:Nat->Bool} {held:Bool}
theorem zlQ {α:Type} {E:Enc α} {t T:Nat} (hu:Tryz.prog.underlying t=some (.slice T)) (hc:Tryz.prog.cellsOf T=E.sz) (hz:0<E.sz) (hop:Opens enc Tryz.prog w base spare held T fun cs=>∃ x:α,cs=E.enc x) {v:Value} {p:List MemPlace} {d:DataW H} {a0:Option Addr} {len0 cap0:Nat} (hv:v = .slice a0 len0 cap0)
  (h:DataW.Trod enc Tryz.prog w base spare held t v d p):∃ l:List α,l.length=len0/\SlR E w a0 l:=by
 subst hv;obtain⟨fuel,h⟩:=h;rcases DataW.trod_slice hu h with ⟨hcs,_⟩ | ⟨a,len,cap,elems,rest,n,_,hcs,_,_,_,_,hlen,hel,_,_⟩
 ·simp [Value.cells] at hcs;obtain⟨rfl,rfl,rfl⟩:=hcs;exact⟨[],rfl,.nil⟩
 ·simp [Value.cells] at hcs;obtain⟨rfl,rfl,rfl⟩:=hcs;have each:∀ i,i<len0->∃ m:α,(a.add (i*E.sz)).spot=none/\(a.add (i*E.sz)).block<w.heap.size/\zax w ⟨(a.add (i*E.sz)).block,(a.add (i*E.sz)).off,none⟩ (E.enc m):=fun i hi=>by
   have h1:=hel i hi;rw [hc,gE (by omega),Option.bind_eq_some_iff] at h1;obtain⟨cs,h2,h3⟩:=h1;obtain⟨m,rfl⟩:=hop _ _ _ h3;exact⟨m,zh8 hz h2⟩
  by_cases h00:len0=0
  ·exact⟨[],h00.symm,.nil⟩
  have hsp:a.spot=none:=by
   obtain⟨m,h3,_⟩:=each 0 (by omega);simpa [Addr.add] using h3
  obtain⟨b,o,s⟩:=a;dsimp only at hsp;subst hsp;have each:∀ i,i<len0->∃ m:α,b<w.heap.size/\zax w ⟨b,o+i*E.sz,none⟩ (E.enc m):=fun i hi=>by
   obtain⟨m,_,h4,h5⟩:=each i hi;rw [zj8] at h4 h5;exact⟨m,h4,h5⟩
  have all:∀ k,k<=len0->∃ l:List α,l.length=k/\∀ i (h:i<l.length),zax w ⟨b,o+i*E.sz,none⟩ (E.enc l[i]):=by
   intro k
   induction k with
   | zero=>exact fun _=>⟨[],rfl,fun i h=>absurd h (by simp)⟩
   | succ k ih =>
    intro hk;obtain⟨l,h1,h2⟩:=ih (by omega);obtain⟨m,_,h3⟩:=each k (by omega);refine⟨l++[m],by simp [h1],fun i hi=>?_⟩;by_cases hik:i<l.length
    ·rw [List.getElem_append_left hik];exact h2 i hik
    ·have:i=k:=(by simp [h1] at hi;omega);subst this;rw [List.getElem_append_right (by omega)];simp [h1,h3]
  obtain⟨l,h1,h2⟩:=all len0 (Nat.le_refl _);refine⟨l,h1,?_⟩;obtain⟨m,h4,_⟩:=each 0 (by omega);exact .inr ⟨b,o,rfl,h4,h2⟩
theorem ziA {v:Value} {p:List MemPlace} {d:DataW H} {a0:Option Addr} {len0 cap0:Nat} (hv:v = .slice a0 len0 cap0)
  (h:DataW.Trod enc Tryz.prog w base spare held 35 v d p):∃ l:List FinV,l.length=len0/\SlR finE w a0 l :=
 zlQ (E:=finE) Tryz.underlying35 (by kernel_rfl) (by decide) (fun fuel cs x h=>by
  obtain⟨f,g,hc⟩:=zfx _ _ _ h;exact⟨finV f g,hc.trans (zeg f g).symm⟩) hv h
end
structure GlobV (W:World):Prop where
 t32:Tz32M W
 t64:Tz64M W
 pow:True
 needs:GlobC W
abbrev zco : List (String × DataW Unit) := [("math/bits.deBruijn32tab", Rows.laid_math_bits_deBruijn32tab), ("math/bits.deBruijn64tab", Rows.laid_math_bits_deBruijn64tab), ("internal/strconv.uint64pow10", Rows.laid_internal_strconv_uint64pow10), ("seisin/check.needs", Rows.laid_seisin_check_needs)]
theorem zcV {W:World} (h:laidMetH Tryz.prog zco W) (hsh:W.ShapedOpen Tryz.prog):GlobV W:=by
 have h0:laidMet Tryz.prog zco W:=h;have h1:=h0.tail;have h2:=h1.tail;have h3:=h2.tail;have t32:Tz32M W:=by
  obtain⟨ps,⟨g',t',cs,fuel,p,q,hg',ht',hv,hd,_,_⟩,_⟩:=h0
  obtain rfl := Option.some.inj ((show Tryz.prog.globalNamed "math/bits.deBruijn32tab" = some 7 by kernel_rfl).symm.trans hg')
  obtain rfl:=Option.some.inj ((show (Tryz.prog.globals[7]?).map (·.type)=some 368 by kernel_rfl).symm.trans ht');obtain⟨bs,h1,h2,h3⟩:=ze7 Tryz.underlying368 Tryz.underlying5 (by kernel_rfl) (by kernel_rfl) hd;have hbs:bs=zkg:=by
   have e:(Rows.laid_math_bits_deBruijn32tab:DataW Unit) = .agg (zkg.map fun b => .lit (.int .u8 b.toNat)):=rfl;exact zg5 (DataW.agg.inj (h3.symm.trans e))
  subst hbs;refine zbH fun i v hvv=>?_;have hc:=World.var?_cell hg' hv i;rw [<- hvv,<- h2];simpa using hc
 have t64:Tz64M W:=by
  obtain⟨ps,⟨g',t',cs,fuel,p,q,hg',ht',hv,hd,_,_⟩,_⟩:=h1
  obtain rfl := Option.some.inj ((show Tryz.prog.globalNamed "math/bits.deBruijn64tab" = some 8 by kernel_rfl).symm.trans hg')
  obtain rfl:=Option.some.inj ((show (Tryz.prog.globals[8]?).map (·.type)=some 369 by kernel_rfl).symm.trans ht');obtain⟨bs,h1,h2,h3⟩:=ze7 Tryz.underlying369 Tryz.underlying5 (by kernel_rfl) (by kernel_rfl) hd;have hbs:bs=zkf:=by
   have e:(Rows.laid_math_bits_deBruijn64tab:DataW Unit) = .agg (zkf.map fun b => .lit (.int .u8 b.toNat)):=rfl;exact zg5 (DataW.agg.inj (h3.symm.trans e))
  subst hbs;refine zbH fun i v hvv=>?_;have hc:=World.var?_cell hg' hv i;rw [<- hvv,<- h2];simpa using hc
 have pow:True:=trivial;have needs:GlobC W:=by
  obtain⟨ps,⟨g',t',cs,fuel,p,q,hg',ht',hv,hd,_,_⟩,_⟩:=h3
  obtain rfl := Option.some.inj ((show Tryz.prog.globalNamed "seisin/check.needs" = some 4 by kernel_rfl).symm.trans hg')
  obtain rfl:=Option.some.inj ((show (Tryz.prog.globals[4]?).map (·.type)=some 332 by kernel_rfl).symm.trans ht');obtain⟨bs,h1,h2,h3⟩:=ze7 Tryz.underlying332 Tryz.underlying5 (by kernel_rfl) (by kernel_rfl) hd;have hbs:bs=zgY:=by
   match bs,h1 with
   | [b0,b1,b2,b3,b4,b5,b6,b7,b8],_ =>
    simp only [Rows.laid_seisin_check_needs,List.map_cons,List.map_nil,DataW.agg.injEq,List.cons.injEq,DataW.lit.injEq,Lit.int.injEq,true_and,and_true] at h3;simp only [zgY,List.cons.injEq,and_true];obtain⟨a0,a1,a2,a3,a4,a5,a6,a7,a8⟩:=h3;refine⟨?_,?_,?_,?_,?_,?_,?_,?_,?_⟩ <;> (apply UInt8.toNat_inj.1;simp;omega)
  subst hbs;refine zbH fun i v hvv=>?_;have hc:=World.var?_cell hg' hv i;rw [<- hvv,<- h2];simpa using hc
 exact⟨t32,t64,pow,needs⟩
def zqY:DataW Unit->List Value
 | .lit (.int k n)=>[.int k n]
 | .lit (.string s)=>[.string ⟨s.toArray⟩]
 | _=>[]
def znL:DataW Unit->List Value
 | .agg ps=>ps.flatMap zqY
 | x=>zqY x
def znl (h:Array Obj) (g:Nat) (cs:List Value):Array Obj:=h.modify g fun
 | .cells _ t frozen => .cells cs.toArray t frozen
 | o=>o
def zr2 (h:Array Obj):Array Obj :=
 let h1:=znl h 7 (znL Rows.laid_math_bits_deBruijn32tab)
 let h2:=znl h1 8 (znL Rows.laid_math_bits_deBruijn64tab)
 let h3:=znl h2 3 (znL Rows.laid_internal_strconv_uint64pow10)
 znl h3 4 (znL Rows.laid_seisin_check_needs)
noncomputable def zgr (os:Os):World :=
 { World.holding Tryz.prog os ⟨#[],#[],[]⟩ with heap:=zr2 (World.holding Tryz.prog os ⟨#[],#[],[]⟩).heap }
theorem zgc (os:Os) (args:Array Value):laidMetH Tryz.prog zco ((zgr os).forCall (fun _ _=>0) ⟨#[],args,[]⟩).memory:=by
 show laidMet Tryz.prog zco _;exact laidMet_of_run' 8 (by kernel_rfl) (by kernel_rfl)
end Go.Proofs.YtlkofpbdpplfkaaGreatDoor
