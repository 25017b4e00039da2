/- Contracts of functions, and plain facts, for the law that the last text of this claim proves. -/
import Derived.Test.YtmbghmhjjodgmaaGreatDoorV5
import Derived.Test.YtmbghmhjjodgmaaGreatDoorV1
set_option linter.unusedSimpArgs false
set_option linter.unusedVariables false
namespace Go.Proofs.YtmbghmhjjodgmaaGreatDoor
open Go.Vc Go.RowKit Go.Sei
abbrev zeQ:List Value:=[.nilFunc,.func (.func 131) #[] #[],.func (.func 132) #[] #[],.func (.func 133) #[] #[],.func (.func 137) #[] #[],.func (.func 138) #[] #[],.func (.func 140) #[] #[]]
section
variable {b c:Nat} {x:ExD} {q:Option Addr} {w:World} {f l s:RelD}
theorem zqc:CB 105 #[] w (.agg zeQ.toArray):=by
 refine cofM 8 [] (.c .p .p) Tryz.func105 ?_;obtain⟨L,hL⟩:=nm (w.heap.size);refine⟨Unit,fun _=>⟨[(0,At0 L)],[]⟩,fun _ X=>X.heap[L]?=some (.cells #[.nilFunc,.nilFunc,.nilFunc,.nilFunc,.nilFunc,.nilFunc,.nilFunc] 146 (0,0))/\Bw w X,⟨(),⟨.cons (by rw [hL];rfl) .nil,rfl⟩,by rw [hL];exact hnew w _,(zba w _)⟩,?_⟩;rintro _ X ⟨f0,hbX⟩;refine⟨[.func (.func 131) #[] #[]],by kernel_rfl,?_⟩;refine⟨[.func (.func 132) #[] #[]],by kernel_rfl,?_⟩;refine⟨[.func (.func 133) #[] #[]],by kernel_rfl,?_⟩;refine⟨[.func (.func 137) #[] #[]],by kernel_rfl,?_⟩;refine⟨[.func (.func 138) #[] #[]],by kernel_rfl,?_⟩;refine⟨[.func (.func 140) #[] #[]],by kernel_rfl,?_⟩;refine⟨zeQ,by kernel_rfl,?_⟩;refine zaq (v := .agg zeQ.toArray) k146 f0 rfl rfl rfl ?_;exact⟨zeQ,rfl,zab (zal f0),rfl,zah hbX (by omega) _⟩
theorem zft {S Rb Mb Sv g a d:Nat} {m:UInt8} {K:Bool} (hs:ScnV w S x q c f l s) (fSv:w.heap[Sv]?=some (.cells #[At0 S] 140 (0,0))) (fR:w.heap[Rb]?=some (.cells zeQ.toArray 146 (0,0))) (fM:w.heap[Mb]?=some (.cells #[u8 m] 5 (0,0)))
  (hm7:m.toNat<7) (hm:zeQ[m.toNat]?=some (.func (.func g) #[] #[])) (hok:zbP (sg 0) g=true) (hK:∀ X,Bw w X->Calls Tryz.prog g #[At0 S,i64 (a:Nat),i64 (d:Nat)] X fun e Y=>e = .returned (.bool K)/\Bw X Y) (ha:a<x.ev.length) (hd:d<x.ev.length) :
  CB 106 #[i64 (a:Nat),i64 (d:Nat),At0 Sv,At0 Rb,At0 Mb] w (.bool (hasM x.po a d&&(accA x a&&(accA x d&&K)))):=by
 refine cofE 47 [i64 (a:Nat),i64 (d:Nat),At0 Sv,At0 Rb,At0 Mb] Tryz.func106 ?_;have hn:=hs.v.n;have fx:=hs.cells;obtain⟨bq,oq,hqe,hb,hat⟩:=zd8 hs.v.ev ha;obtain⟨bq2,oq2,hqe2,hb2,hat2⟩:=zd8 hs.v.ev hd;rw [hqe] at hqe2;simp only [Option.some.injEq,Addr.mk.injEq,and_true] at hqe2;rw [<- hqe2.1,<- hqe2.2] at hat2;have hpo:=hs.v.po;subst hqe;have dw:Bw w w.drew:=(Below.refl _ _).drew;refine DrawE.ord [] [0,1,2,3,4,5,6,7,8,9,10,11,12,13,14,15,16,17,18,19,20,21,22,23,24,25,26,27,28,29,30,31,32,33,34,35,36,37,38,39] (by kernel_rfl) ?_;refine⟨At0 S,zac (zab (hdr fSv)) (i:=0) rfl,?_⟩;refine cmo (zaD (zhu (zae dw fx) (zpJ x _ c)) hpo (by omega) (by omega)) ?_;rintro e _ ⟨rfl,rfl⟩;refine⟨Below.refl _ _,?_⟩;refine biE (fun h1=>?_) fun h1=>?_
 ·have h1:hasM x.po a d=true:=h1;refine⟨At0 S,zac (zab (hdr fSv)) (i:=0) rfl,?_⟩;refine⟨_,zaz (zae dw fx),?_⟩;refine⟨a,rfl,ha,?_⟩;refine⟨evE.enc (evA x a),rfl,zae dw hat,nL hb dw.size,?_⟩;refine cmo zgc ?_;rintro e X ⟨rfl,hbX⟩;refine⟨hbX,?_⟩;have bX:=dw.trans hbX;rw [zk9];refine biE (fun h2=>?_) fun h2=>?_
  ·have h2:accA x a=true:=h2;refine⟨At0 S,zac (zab (zaa bX fSv)) (i:=0) rfl,?_⟩;refine⟨_,zaz (zae bX fx),?_⟩;refine⟨d,rfl,hd,?_⟩;refine⟨evE.enc (evA x d),rfl,zae bX hat2,nL hb bX.size,?_⟩;refine cmo zgc ?_;rintro e Y ⟨rfl,hbY⟩;refine⟨hbY,?_⟩;have bY:=zst bX hbY;rw [zk9];refine biE (fun h3=>?_) fun h3=>?_
   ·have h3:accA x d=true:=h3;refine⟨u8 m,zac (zab (zaa bY fM)) (i:=0) rfl,?_⟩;refine⟨m.toNat,rfl,hm7,?_⟩;refine⟨.func (.func g) #[] #[],by have:=zac (zab (zaa bY fR)) (i:=m.toNat) (v := .func (.func g) #[] #[]) hm;rw [Nat.mul_one];exact this,?_⟩;refine⟨At0 S,zac (zab (zaa bY fSv)) (i:=0) rfl,?_⟩;refine zid hok (hK Y bY) ?_;rintro e Z ⟨rfl,hbZ⟩;refine⟨_,rfl,hbZ,?_⟩;exact⟨rb (by rw [h1,h2,h3];rfl),(zst bY hbZ)⟩
   ·have h3:accA x d=false:=h3;exact⟨rb (by rw [h1,h2,h3];rfl),bY⟩
  ·have h2:accA x a=false:=h2;refine brF ?_;exact⟨rb (by rw [h1,h2];rfl),bX⟩
 ·have h1:hasM x.po a d=false:=h1;refine brF ?_;refine brF ?_;exact⟨rb (by rw [h1];rfl),dw⟩
theorem zjM {m:UInt8} (h:zbw m.toNat=true):m=1\/m=2\/m=3\/m=4\/m=5\/m=6:=by
 unfold zbw at h;rw [bAT,dE,dE] at h;simp only [<- UInt8.toNat_inj];show m.toNat=1\/m.toNat=2\/m.toNat=3\/m.toNat=4\/m.toNat=5\/m.toNat=6;omega
theorem zqF {S Rb Mb Sv a d:Nat} {m:UInt8} (hk:zbw m.toNat=true) (hs:ScnV w S x q c f l s) (fSv:w.heap[Sv]?=some (.cells #[At0 S] 140 (0,0))) (fR:w.heap[Rb]?=some (.cells zeQ.toArray 146 (0,0))) (fM:w.heap[Mb]?=some (.cells #[u8 m] 5 (0,0)))
  (ha:a<x.ev.length) (hd:d<x.ev.length) :
  CB 106 #[i64 (a:Nat),i64 (d:Nat),At0 Sv,At0 Rb,At0 Mb] w (.bool (hasM x.po a d&&(accA x a&&(accA x d&&ze5 m.toNat x f l s a d)))):=by
 rcases zjM hk with rfl | rfl | rfl | rfl | rfl | rfl
 ·exact zft (g:=131) hs fSv fR fM (by decide) rfl (by kernel_rfl) (fun X hb=>zqi) ha hd
 ·exact zft (g:=132) hs fSv fR fM (by decide) rfl (by kernel_rfl) (fun X hb=>zqh) ha hd
 ·exact zft (g:=133) hs fSv fR fM (by decide) rfl (by kernel_rfl) (fun X hb=>zqg (hs.below hb) ha hd) ha hd
 ·exact zft (g:=137) hs fSv fR fM (by decide) rfl (by kernel_rfl) (fun X hb=>zqf (hs.below hb) ha hd) ha hd
 ·exact zft (g:=138) hs fSv fR fM (by decide) rfl (by kernel_rfl) (fun X hb=>zqe (hs.below hb) ha hd) ha hd
 ·exact zft (g:=140) hs fSv fR fM (by decide) rfl (by kernel_rfl) (fun X hb=>zqd (hs.below hb) ha hd) ha hd
theorem zju {X:World} {S o:Nat} {T:TypeId} {A Z:List Value} {r0 r:RelD} (h:X.heap[S]?=some (.cells (A++(relC r0++Z)).toArray T (0,0))) (hA:A.length=o) {K:World->Prop}
  (k:∀ Y,Y.heap[S]?=some (.cells (A++(relC r++Z)).toArray T (0,0))->X.grownBy Y (some S)->Y.heap.size=X.heap.size->K Y) :
  SatR ((storeVar 27 ⟨S,0+o,none⟩ (.agg (relC r).toArray)).run Tryz.prog X) fun _ w'=>K w':=by
 rw [Nat.zero_add];refine zbL k27 h (o:=o) (v := .agg (relC r).toArray) (zad _) (by show o+(relC r).length<=(A++(relC r0++Z)).length;rw [lap,lap,zad,zad];omega) (zas _) fun Y fY gY sY=>k Y (fY.trans ?_) gY sY;show some (Obj.cells ((A++(relC r0++Z)).take o++relC r++(A++(relC r0++Z)).drop (o+(relC r).length)).toArray T (0,0))=_;congr 3;rw [<- hA,List.take_left,zad,List.append_assoc,<- List.drop_drop,List.drop_left,<- zad r0,List.drop_left]
theorem zsa {m:UInt8} (hk:zbw m.toNat=true) (fx:ExH w b x q c) (hv:ExV w x q) (hT:Tz64M w):CB 69 #[u8 m,At0 b] w (.agg (relC (zdy m.toNat x)).toArray):=by
 refine cofM 35 [u8 m,At0 b] (.c .p (.c .p (.c .p (.c .p (.c .p .p))))) Tryz.func69 ?_;obtain⟨L,hL⟩:=nm (w.heap.size);have hn:=hv.n;refine⟨Unit,fun _=>⟨[(1,At0 b),(2,At0 L),(4,At0 (L+1))],[]⟩,fun _ X=>X.heap[L]?=some (.cells #[u8 m] 5 (0,0))/\RelH X (L+1) zam/\X.heap.size=L+2/\Bw w X,?_,?_⟩
 ·have s1:=wz w (.cells #[u8 m] 5);have h2:=hnew (w.alloc (.cells #[u8 m] 5)) (.cells (relC zam).toArray 27);have s2:=wz (w.alloc (.cells #[u8 m] 5)) (.cells (relC zam).toArray 27);rw [s1] at h2 s2;have b1:Bw w (w.alloc (.cells #[u8 m] 5)):=zba w _;exact⟨(),⟨.cons rfl (.cons (by rw [hL];rfl) (.cons (by rw [hL,<- s1];rfl) .nil)),rfl⟩,by rw [hL];exact hold _ (hnew w _),by rw [hL];exact h2,by rw [hL];exact s2,b1.alloc b1.size _⟩
 rintro _ X ⟨fM,f0,sX,hbX⟩;have fX:=zaa hbX fx;refine⟨Unit,fun _=>⟨[(1,At0 b),(2,At0 L),(4,At0 (L+1)),(5,At0 (L+3))],[]⟩,fun _ Y=>Y.heap[L+2]?=some (.cells (exC x q c++(relC zam++(relC zam++relC zam))).toArray 142 (0,0))/\Y.heap[L+3]?=some (.cells #[At0 (L+2)] 140 (0,0))/\Y.heap.size=L+4/\Bw X Y,?_,?_⟩
 ·refine⟨exC x q c,zat _ _ _,zab fX,hlt fX,?_⟩;refine⟨exC x q c++(relC zam++(relC zam++relC zam)),by kernel_rfl,?_⟩;have s3:=wz X (.cells (exC x q c++(relC zam++(relC zam++relC zam))).toArray 142);refine zak (X:=X.alloc (.cells (exC x q c++(relC zam++(relC zam++relC zam))).toArray 142)) (v := .pointer (some ⟨X.heap.size,0,none⟩)) k140 rfl rfl rfl fun Z hbZ fZ sZ=>?_;rw [s3] at fZ sZ;rw [sX] at fZ sZ s3;have b1:Bw X (X.alloc (.cells (exC x q c++(relC zam++(relC zam++relC zam))).toArray 142)):=zba X _;refine⟨(),⟨.cons rfl (.cons rfl (.cons rfl (.cons (by rw [<- s3];rfl) .nil))),rfl⟩,?_,fZ,sZ,(zst b1 hbZ)⟩;refine zaa hbZ ?_;rw [<- sX];exact hnew X _
 rintro _ Y ⟨fS,fP,sY,hbY⟩;have hbwY:=zst hbX hbY;have fY:=zaa hbwY fx;replace fM:=zaa hbY fM;replace f0:=zaa hbY f0;have hwX:=hbX.size;have hbL:b<L:=by rw [hL];exact hlt fx
 refine⟨Unit,fun _=>⟨[(1,At0 b),(2,At0 L),(4,At0 (L+1)),(5,At0 (L+3))],[]⟩,fun _ Z=>ScnV Z (L+2) x q c (zaB x 3) (zaB x 4) (zaB x 5)/\Z.heap[L+3]?=some (.cells #[At0 (L+2)] 140 (0,0))/\Z.heap[L]?=some (.cells #[u8 m] 5 (0,0))/\RelH Z (L+1) zam/\ExH Z b x q c/\L+4<=Z.heap.size/\Bw w Z,?_,?_⟩
 ·have dY:Bw Y Y.drew:=(Below.refl _ _).drew;obtain⟨Y1,hY1⟩:=nm (Y.drew);have bY1:Bw Y Y1:=by rw [hY1];exact dY
  have ld0:∀ {W},Bw Y W->W.cell? ⟨L+3,0,none⟩=some (At0 (L+2)):=fun hW=>by
   have h2:=zac (zab (zaa hW fP)) (i:=0) (v:=At0 (L+2)) rfl;exact h2
  have fen:∀ (md:UInt8) {W},Bw Y W->CB 68 #[At0 b,u8 md] W (.agg (relC (zaB x md)).toArray):=fun md {W} hW =>
   have h2:=zst hbwY hW
   zoZ (zaa h2 fx) (hv.below h2) (hT.below h2)
  have ld1:∀ W,(∃ C,Bw Y C/\C.grownBy W (some (L+2)))->W.cell? ⟨L+3,0,none⟩=some (At0 (L+2)):=fun W ⟨C,bC,hW⟩=>by
   have fPC:=zaa bC fP;have:=(hW.block (L+3) (hlt fPC) (by simp)).trans fPC;have h2:=zac (zab this) (i:=0) (v:=At0 (L+2)) rfl;exact h2
  have s1:∀ {C},Bw Y C->∀ {K:World->Prop},(∀ D,(D.heap[L+2]?=some (.cells ((exC x q c++relC (zaB x 3))++(relC zam++relC zam)).toArray 142 (0,0))/\∃ C,Bw Y C/\C.grownBy D (some (L+2)))->K D)->SatR ((storeVar 27 ⟨L+2,0+333,none⟩ (.agg (relC (zaB x 3)).toArray)).run Tryz.prog C) fun _ w'=>K w':=fun {C} bC {K} k =>
   zju (o:=333) (A:=exC x q c) (Z:=relC zam++relC zam) (r:=zaB x 3) (zaa bC fS) (zat _ _ _) fun D fD gD sD=>k D ⟨by rw [fD];simp only [List.append_assoc],C,bC,gD⟩
  have s2:∀ D,(D.heap[L+2]?=some (.cells ((exC x q c++relC (zaB x 3))++(relC zam++relC zam)).toArray 142 (0,0))/\∃ C,Bw Y C/\C.grownBy D (some (L+2)))->∀ {K:World->Prop},(∀ F,(F.heap[L+2]?=some (.cells ((exC x q c++(relC (zaB x 3)++relC (zaB x 4)))++(relC zam++[])).toArray 142 (0,0))/\∃ C,Bw Y C/\C.grownBy F (some (L+2)))->K F)->SatR ((storeVar 27 ⟨L+2,0+382,none⟩ (.agg (relC (zaB x 4)).toArray)).run Tryz.prog D) fun _ w'=>K w':=fun D ⟨fD,C,bC,gD⟩ {K} k =>
   zju (o:=382) (A:=exC x q c++relC (zaB x 3)) (Z:=relC zam) (r:=zaB x 4) fD (by rw [lap,zat,zad]) fun F fF gF sF=>k F ⟨by rw [fF];simp only [List.append_assoc,List.append_nil],C,bC,zaf gD gF⟩
  have pw:∀ md,WrdR (zaB x md).to:=fun md=>zeN (zeN hv.po fun i hi=>by
   unfold idR;refine zfe (fun i _ h48=>?_) i hi;exact Nat.lt_of_le_of_lt Nat.and_le_right (zaI (by omega))) hv.po
  have s3:∀ F,(F.heap[L+2]?=some (.cells ((exC x q c++(relC (zaB x 3)++relC (zaB x 4)))++(relC zam++[])).toArray 142 (0,0))/\∃ C,Bw Y C/\C.grownBy F (some (L+2)))->∀ {K:World->Prop},(∀ G,(ScnV G (L+2) x q c (zaB x 3) (zaB x 4) (zaB x 5)/\G.heap[L+3]?=some (.cells #[At0 (L+2)] 140 (0,0))/\G.heap[L]?=some (.cells #[u8 m] 5 (0,0))/\RelH G (L+1) zam/\ExH G b x q c/\L+4<=G.heap.size/\Bw w G)->K G)->SatR ((storeVar 27 ⟨L+2,0+431,none⟩ (.agg (relC (zaB x 5)).toArray)).run Tryz.prog F) fun _ w'=>K w':=fun F ⟨fF,C,bC,gF⟩ {K} k =>
   zju (o:=431) (A:=exC x q c++(relC (zaB x 3)++relC (zaB x 4))) (Z:=[]) (r:=zaB x 5) fF (by rw [lap,lap,zat,zad,zad]) fun G fG gG sG=>k G (by
    have gCG:C.grownBy G (some (L+2)):=zaf gF gG;have bwC:=zst hbwY bC;have bCG:Below w.heap.size C G:=zao gCG bwC.size (by omega);have bwG:Bw w G:=bwC.trans bCG;have keep:∀ {j:Nat} {o:Obj},j≠L+2->Y.heap[j]?=some o->G.heap[j]?=some o:=fun {j o} hj h=>by
     have h2:=zaa bC h;exact (gCG.block j (hlt h2) (by simpa using hj)).trans h2
    refine⟨⟨?_,hv.below bwG,pw 3,pw 4,pw 5⟩,keep (by omega) fP,keep (by omega) fM,keep (by omega) f0,keep (by omega) fY,by have:=bC.size;have:=gCG.size;omega,bwG⟩;rw [fG];simp only [List.append_assoc,List.append_nil])
  refine DrawE.treeR [11,14,17] (.op 0 (.op 3 (.op 5 (.op 7 (.alt (.op 4 (.alt (.op 6 (.alt (.op 8 (.op 9 (.op 10 (.alt (.op 11 (.alt (.op 1 (.op 12 (.op 13 (.alt (.op 14 (.op 2 (.op 15 (.op 16 (.op 17 (.nil)))))) (.op 2 (.op 14 (.op 15 (.op 16 (.op 17 (.nil)))))))))) (.op 2 (.op 1 (.op 12 (.op 13 (.op 14 (.op 15 (.op 16 (.op 17 (.nil))))))))))) (.alt (.op 1 (.alt (.op 11 (.op 12 (.op 13 (.alt (.op 14 (.op 2 (.op 15 (.op 16 (.op 17 (.nil)))))) (.op 2 (.op 14 (.op 15 (.op 16 (.op 17 (.nil)))))))))) (.op 2 (.op 11 (.op 12 (.op 13 (.op 14 (.op 15 (.op 16 (.op 17 (.nil))))))))))) (.op 2 (.alt (.op 11 (.op 1 (.op 12 (.op 13 (.op 14 (.op 15 (.op 16 (.op 17 (.nil))))))))) (.op 1 (.op 11 (.op 12 (.op 13 (.op 14 (.op 15 (.op 16 (.op 17 (.nil)))))))))))))))) (.alt (.op 1 (.alt (.op 8 (.op 9 (.op 10 (.alt (.op 11 (.op 12 (.op 13 (.alt (.op 14 (.op 2 (.op 15 (.op 16 (.op 17 (.nil)))))) (.op 2 (.op 14 (.op 15 (.op 16 (.op 17 (.nil)))))))))) (.op 2 (.op 11 (.op 12 (.op 13 (.op 14 (.op 15 (.op 16 (.op 17 (.nil))))))))))))) (.op 2 (.op 8 (.op 9 (.op 10 (.op 11 (.op 12 (.op 13 (.op 14 (.op 15 (.op 16 (.op 17 (.nil)))))))))))))) (.op 2 (.alt (.op 8 (.op 9 (.op 10 (.alt (.op 11 (.op 1 (.op 12 (.op 13 (.op 14 (.op 15 (.op 16 (.op 17 (.nil))))))))) (.op 1 (.op 11 (.op 12 (.op 13 (.op 14 (.op 15 (.op 16 (.op 17 (.nil))))))))))))) (.op 1 (.op 8 (.op 9 (.op 10 (.op 11 (.op 12 (.op 13 (.op 14 (.op 15 (.op 16 (.op 17 (.nil))))))))))))))))) (.alt (.op 1 (.alt (.op 6 (.alt (.op 8 (.op 9 (.op 10 (.alt (.op 11 (.op 12 (.op 13 (.alt (.op 14 (.op 2 (.op 15 (.op 16 (.op 17 (.nil)))))) (.op 2 (.op 14 (.op 15 (.op 16 (.op 17 (.nil)))))))))) (.op 2 (.op 11 (.op 12 (.op 13 (.op 14 (.op 15 (.op 16 (.op 17 (.nil))))))))))))) (.op 2 (.op 8 (.op 9 (.op 10 (.op 11 (.op 12 (.op 13 (.op 14 (.op 15 (.op 16 (.op 17 (.nil)))))))))))))) (.op 2 (.op 6 (.op 8 (.op 9 (.op 10 (.op 11 (.op 12 (.op 13 (.op 14 (.op 15 (.op 16 (.op 17 (.nil))))))))))))))) (.op 2 (.alt (.op 6 (.alt (.op 8 (.op 9 (.op 10 (.alt (.op 11 (.op 1 (.op 12 (.op 13 (.op 14 (.op 15 (.op 16 (.op 17 (.nil))))))))) (.op 1 (.op 11 (.op 12 (.op 13 (.op 14 (.op 15 (.op 16 (.op 17 (.nil))))))))))))) (.op 1 (.op 8 (.op 9 (.op 10 (.op 11 (.op 12 (.op 13 (.op 14 (.op 15 (.op 16 (.op 17 (.nil)))))))))))))) (.op 1 (.op 6 (.op 8 (.op 9 (.op 10 (.op 11 (.op 12 (.op 13 (.op 14 (.op 15 (.op 16 (.op 17 (.nil)))))))))))))))))) (.alt (.op 1 (.alt (.op 4 (.alt (.op 6 (.alt (.op 8 (.op 9 (.op 10 (.alt (.op 11 (.op 12 (.op 13 (.alt (.op 14 (.op 2 (.op 15 (.op 16 (.op 17 (.nil)))))) (.op 2 (.op 14 (.op 15 (.op 16 (.op 17 (.nil)))))))))) (.op 2 (.op 11 (.op 12 (.op 13 (.op 14 (.op 15 (.op 16 (.op 17 (.nil))))))))))))) (.op 2 (.op 8 (.op 9 (.op 10 (.op 11 (.op 12 (.op 13 (.op 14 (.op 15 (.op 16 (.op 17 (.nil)))))))))))))) (.op 2 (.op 6 (.op 8 (.op 9 (.op 10 (.op 11 (.op 12 (.op 13 (.op 14 (.op 15 (.op 16 (.op 17 (.nil))))))))))))))) (.op 2 (.op 4 (.op 6 (.op 8 (.op 9 (.op 10 (.op 11 (.op 12 (.op 13 (.op 14 (.op 15 (.op 16 (.op 17 (.nil)))))))))))))))) (.op 2 (.alt (.op 4 (.alt (.op 6 (.alt (.op 8 (.op 9 (.op 10 (.alt (.op 11 (.op 1 (.op 12 (.op 13 (.op 14 (.op 15 (.op 16 (.op 17 (.nil))))))))) (.op 1 (.op 11 (.op 12 (.op 13 (.op 14 (.op 15 (.op 16 (.op 17 (.nil))))))))))))) (.op 1 (.op 8 (.op 9 (.op 10 (.op 11 (.op 12 (.op 13 (.op 14 (.op 15 (.op 16 (.op 17 (.nil)))))))))))))) (.op 1 (.op 6 (.op 8 (.op 9 (.op 10 (.op 11 (.op 12 (.op 13 (.op 14 (.op 15 (.op 16 (.op 17 (.nil))))))))))))))) (.op 1 (.op 4 (.op 6 (.op 8 (.op 9 (.op 10 (.op 11 (.op 12 (.op 13 (.op 14 (.op 15 (.op 16 (.op 17 (.nil)))))))))))))))))))))) (by kernel_rfl) ?_;rw [<- hY1];refine⟨At0 (L+2),ld0 bY1,?_⟩;refine And.intro ?_ (And.intro ?_ ?_)
  ·refine cmo (fen 3 bY1) ?_;rintro e A ⟨rfl,hbA⟩;refine⟨hbA,?_⟩;have bA:=zst bY1 hbA;refine And.intro ?_ (And.intro ?_ ?_)
   ·refine cmo (fen 4 bA) ?_;rintro e B ⟨rfl,hbB⟩;refine⟨hbB,?_⟩;have bB:=zst bA hbB;refine And.intro ?_ (And.intro ?_ ?_)
    ·refine cmo (fen 5 bB) ?_;rintro e C ⟨rfl,hbC⟩;refine⟨hbC,?_⟩;have bC:=zst bB hbC;refine And.intro ?_ (And.intro ?_ ?_)
     ·refine s1 bC fun D hD=>?_;refine And.intro ?_ ?_
      ·refine⟨At0 (L+2),ld1 D hD.2,?_⟩;refine And.intro ?_ ?_
       ·refine s2 D hD fun F hF=>?_;refine⟨At0 (L+2),ld1 F hF.2,?_⟩;refine s3 F hF fun G hG=>?_;exact⟨(),(cvE rfl rfl),hG⟩
       ·refine⟨At0 (L+2),ld1 D hD.2,?_⟩;refine s2 D hD fun F hF=>?_;refine s3 F hF fun G hG=>?_;exact⟨(),(cvE rfl rfl),hG⟩
      ·refine⟨At0 (L+2),ld1 D hD.2,?_⟩;refine⟨At0 (L+2),ld1 D hD.2,?_⟩;refine s2 D hD fun F hF=>?_;refine s3 F hF fun G hG=>?_;exact⟨(),(cvE rfl rfl),hG⟩
     ·refine⟨At0 (L+2),ld0 bC,?_⟩;refine And.intro ?_ ?_
      ·refine s1 bC fun D hD=>?_;refine And.intro ?_ ?_
       ·refine s2 D hD fun F hF=>?_;refine⟨At0 (L+2),ld1 F hF.2,?_⟩;refine s3 F hF fun G hG=>?_;exact⟨(),(cvE rfl rfl),hG⟩
       ·refine⟨At0 (L+2),ld1 D hD.2,?_⟩;refine s2 D hD fun F hF=>?_;refine s3 F hF fun G hG=>?_;exact⟨(),(cvE rfl rfl),hG⟩
      ·refine⟨At0 (L+2),ld0 bC,?_⟩;refine s1 bC fun D hD=>?_;refine s2 D hD fun F hF=>?_;refine s3 F hF fun G hG=>?_;exact⟨(),(cvE rfl rfl),hG⟩
     ·refine⟨At0 (L+2),ld0 bC,?_⟩;refine And.intro ?_ ?_
      ·refine s1 bC fun D hD=>?_;refine⟨At0 (L+2),ld1 D hD.2,?_⟩;refine s2 D hD fun F hF=>?_;refine s3 F hF fun G hG=>?_;exact⟨(),(cvE rfl rfl),hG⟩
      ·refine⟨At0 (L+2),ld0 bC,?_⟩;refine s1 bC fun D hD=>?_;refine s2 D hD fun F hF=>?_;refine s3 F hF fun G hG=>?_;exact⟨(),(cvE rfl rfl),hG⟩
    ·refine⟨At0 (L+2),ld0 bB,?_⟩;refine And.intro ?_ ?_
     ·refine cmo (fen 5 bB) ?_;rintro e C ⟨rfl,hbC⟩;refine⟨hbC,?_⟩;have bC:=zst bB hbC;refine And.intro ?_ ?_
      ·refine s1 bC fun D hD=>?_;refine And.intro ?_ ?_
       ·refine s2 D hD fun F hF=>?_;refine⟨At0 (L+2),ld1 F hF.2,?_⟩;refine s3 F hF fun G hG=>?_;exact⟨(),(cvE rfl rfl),hG⟩
       ·refine⟨At0 (L+2),ld1 D hD.2,?_⟩;refine s2 D hD fun F hF=>?_;refine s3 F hF fun G hG=>?_;exact⟨(),(cvE rfl rfl),hG⟩
      ·refine⟨At0 (L+2),ld0 bC,?_⟩;refine s1 bC fun D hD=>?_;refine s2 D hD fun F hF=>?_;refine s3 F hF fun G hG=>?_;exact⟨(),(cvE rfl rfl),hG⟩
     ·refine⟨At0 (L+2),ld0 bB,?_⟩;refine cmo (fen 5 bB) ?_;rintro e C ⟨rfl,hbC⟩;refine⟨hbC,?_⟩;have bC:=zst bB hbC;refine s1 bC fun D hD=>?_;refine s2 D hD fun F hF=>?_;refine s3 F hF fun G hG=>?_;exact⟨(),(cvE rfl rfl),hG⟩
    ·refine⟨At0 (L+2),ld0 bB,?_⟩;refine And.intro ?_ ?_
     ·refine cmo (fen 5 bB) ?_;rintro e C ⟨rfl,hbC⟩;refine⟨hbC,?_⟩;have bC:=zst bB hbC;refine And.intro ?_ ?_
      ·refine s1 bC fun D hD=>?_;refine⟨At0 (L+2),ld1 D hD.2,?_⟩;refine s2 D hD fun F hF=>?_;refine s3 F hF fun G hG=>?_;exact⟨(),(cvE rfl rfl),hG⟩
      ·refine⟨At0 (L+2),ld0 bC,?_⟩;refine s1 bC fun D hD=>?_;refine s2 D hD fun F hF=>?_;refine s3 F hF fun G hG=>?_;exact⟨(),(cvE rfl rfl),hG⟩
     ·refine⟨At0 (L+2),ld0 bB,?_⟩;refine cmo (fen 5 bB) ?_;rintro e C ⟨rfl,hbC⟩;refine⟨hbC,?_⟩;have bC:=zst bB hbC;refine s1 bC fun D hD=>?_;refine s2 D hD fun F hF=>?_;refine s3 F hF fun G hG=>?_;exact⟨(),(cvE rfl rfl),hG⟩
   ·refine⟨At0 (L+2),ld0 bA,?_⟩;refine And.intro ?_ ?_
    ·refine cmo (fen 4 bA) ?_;rintro e B ⟨rfl,hbB⟩;refine⟨hbB,?_⟩;have bB:=zst bA hbB;refine And.intro ?_ ?_
     ·refine cmo (fen 5 bB) ?_;rintro e C ⟨rfl,hbC⟩;refine⟨hbC,?_⟩;have bC:=zst bB hbC;refine And.intro ?_ ?_
      ·refine s1 bC fun D hD=>?_;refine And.intro ?_ ?_
       ·refine s2 D hD fun F hF=>?_;refine⟨At0 (L+2),ld1 F hF.2,?_⟩;refine s3 F hF fun G hG=>?_;exact⟨(),(cvE rfl rfl),hG⟩
       ·refine⟨At0 (L+2),ld1 D hD.2,?_⟩;refine s2 D hD fun F hF=>?_;refine s3 F hF fun G hG=>?_;exact⟨(),(cvE rfl rfl),hG⟩
      ·refine⟨At0 (L+2),ld0 bC,?_⟩;refine s1 bC fun D hD=>?_;refine s2 D hD fun F hF=>?_;refine s3 F hF fun G hG=>?_;exact⟨(),(cvE rfl rfl),hG⟩
     ·refine⟨At0 (L+2),ld0 bB,?_⟩;refine cmo (fen 5 bB) ?_;rintro e C ⟨rfl,hbC⟩;refine⟨hbC,?_⟩;have bC:=zst bB hbC;refine s1 bC fun D hD=>?_;refine s2 D hD fun F hF=>?_;refine s3 F hF fun G hG=>?_;exact⟨(),(cvE rfl rfl),hG⟩
    ·refine⟨At0 (L+2),ld0 bA,?_⟩;refine cmo (fen 4 bA) ?_;rintro e B ⟨rfl,hbB⟩;refine⟨hbB,?_⟩;have bB:=zst bA hbB;refine cmo (fen 5 bB) ?_;rintro e C ⟨rfl,hbC⟩;refine⟨hbC,?_⟩;have bC:=zst bB hbC;refine s1 bC fun D hD=>?_;refine s2 D hD fun F hF=>?_;refine s3 F hF fun G hG=>?_;exact⟨(),(cvE rfl rfl),hG⟩
   ·refine⟨At0 (L+2),ld0 bA,?_⟩;refine And.intro ?_ ?_
    ·refine cmo (fen 4 bA) ?_;rintro e B ⟨rfl,hbB⟩;refine⟨hbB,?_⟩;have bB:=zst bA hbB;refine And.intro ?_ ?_
     ·refine cmo (fen 5 bB) ?_;rintro e C ⟨rfl,hbC⟩;refine⟨hbC,?_⟩;have bC:=zst bB hbC;refine And.intro ?_ ?_
      ·refine s1 bC fun D hD=>?_;refine⟨At0 (L+2),ld1 D hD.2,?_⟩;refine s2 D hD fun F hF=>?_;refine s3 F hF fun G hG=>?_;exact⟨(),(cvE rfl rfl),hG⟩
      ·refine⟨At0 (L+2),ld0 bC,?_⟩;refine s1 bC fun D hD=>?_;refine s2 D hD fun F hF=>?_;refine s3 F hF fun G hG=>?_;exact⟨(),(cvE rfl rfl),hG⟩
     ·refine⟨At0 (L+2),ld0 bB,?_⟩;refine cmo (fen 5 bB) ?_;rintro e C ⟨rfl,hbC⟩;refine⟨hbC,?_⟩;have bC:=zst bB hbC;refine s1 bC fun D hD=>?_;refine s2 D hD fun F hF=>?_;refine s3 F hF fun G hG=>?_;exact⟨(),(cvE rfl rfl),hG⟩
    ·refine⟨At0 (L+2),ld0 bA,?_⟩;refine cmo (fen 4 bA) ?_;rintro e B ⟨rfl,hbB⟩;refine⟨hbB,?_⟩;have bB:=zst bA hbB;refine cmo (fen 5 bB) ?_;rintro e C ⟨rfl,hbC⟩;refine⟨hbC,?_⟩;have bC:=zst bB hbC;refine s1 bC fun D hD=>?_;refine s2 D hD fun F hF=>?_;refine s3 F hF fun G hG=>?_;exact⟨(),(cvE rfl rfl),hG⟩
  ·refine⟨At0 (L+2),ld0 bY1,?_⟩;refine And.intro ?_ ?_
   ·refine cmo (fen 3 bY1) ?_;rintro e A ⟨rfl,hbA⟩;refine⟨hbA,?_⟩;have bA:=zst bY1 hbA;refine And.intro ?_ ?_
    ·refine cmo (fen 4 bA) ?_;rintro e B ⟨rfl,hbB⟩;refine⟨hbB,?_⟩;have bB:=zst bA hbB;refine And.intro ?_ ?_
     ·refine cmo (fen 5 bB) ?_;rintro e C ⟨rfl,hbC⟩;refine⟨hbC,?_⟩;have bC:=zst bB hbC;refine And.intro ?_ ?_
      ·refine s1 bC fun D hD=>?_;refine And.intro ?_ ?_
       ·refine s2 D hD fun F hF=>?_;refine⟨At0 (L+2),ld1 F hF.2,?_⟩;refine s3 F hF fun G hG=>?_;exact⟨(),(cvE rfl rfl),hG⟩
       ·refine⟨At0 (L+2),ld1 D hD.2,?_⟩;refine s2 D hD fun F hF=>?_;refine s3 F hF fun G hG=>?_;exact⟨(),(cvE rfl rfl),hG⟩
      ·refine⟨At0 (L+2),ld0 bC,?_⟩;refine s1 bC fun D hD=>?_;refine s2 D hD fun F hF=>?_;refine s3 F hF fun G hG=>?_;exact⟨(),(cvE rfl rfl),hG⟩
     ·refine⟨At0 (L+2),ld0 bB,?_⟩;refine cmo (fen 5 bB) ?_;rintro e C ⟨rfl,hbC⟩;refine⟨hbC,?_⟩;have bC:=zst bB hbC;refine s1 bC fun D hD=>?_;refine s2 D hD fun F hF=>?_;refine s3 F hF fun G hG=>?_;exact⟨(),(cvE rfl rfl),hG⟩
    ·refine⟨At0 (L+2),ld0 bA,?_⟩;refine cmo (fen 4 bA) ?_;rintro e B ⟨rfl,hbB⟩;refine⟨hbB,?_⟩;have bB:=zst bA hbB;refine cmo (fen 5 bB) ?_;rintro e C ⟨rfl,hbC⟩;refine⟨hbC,?_⟩;have bC:=zst bB hbC;refine s1 bC fun D hD=>?_;refine s2 D hD fun F hF=>?_;refine s3 F hF fun G hG=>?_;exact⟨(),(cvE rfl rfl),hG⟩
   ·refine⟨At0 (L+2),ld0 bY1,?_⟩;refine cmo (fen 3 bY1) ?_;rintro e A ⟨rfl,hbA⟩;refine⟨hbA,?_⟩;have bA:=zst bY1 hbA;refine cmo (fen 4 bA) ?_;rintro e B ⟨rfl,hbB⟩;refine⟨hbB,?_⟩;have bB:=zst bA hbB;refine cmo (fen 5 bB) ?_;rintro e C ⟨rfl,hbC⟩;refine⟨hbC,?_⟩;have bC:=zst bB hbC;refine s1 bC fun D hD=>?_;refine s2 D hD fun F hF=>?_;refine s3 F hF fun G hG=>?_;exact⟨(),(cvE rfl rfl),hG⟩
  ·refine⟨At0 (L+2),ld0 bY1,?_⟩;refine And.intro ?_ ?_
   ·refine cmo (fen 3 bY1) ?_;rintro e A ⟨rfl,hbA⟩;refine⟨hbA,?_⟩;have bA:=zst bY1 hbA;refine And.intro ?_ ?_
    ·refine cmo (fen 4 bA) ?_;rintro e B ⟨rfl,hbB⟩;refine⟨hbB,?_⟩;have bB:=zst bA hbB;refine And.intro ?_ ?_
     ·refine cmo (fen 5 bB) ?_;rintro e C ⟨rfl,hbC⟩;refine⟨hbC,?_⟩;have bC:=zst bB hbC;refine And.intro ?_ ?_
      ·refine s1 bC fun D hD=>?_;refine⟨At0 (L+2),ld1 D hD.2,?_⟩;refine s2 D hD fun F hF=>?_;refine s3 F hF fun G hG=>?_;exact⟨(),(cvE rfl rfl),hG⟩
      ·refine⟨At0 (L+2),ld0 bC,?_⟩;refine s1 bC fun D hD=>?_;refine s2 D hD fun F hF=>?_;refine s3 F hF fun G hG=>?_;exact⟨(),(cvE rfl rfl),hG⟩
     ·refine⟨At0 (L+2),ld0 bB,?_⟩;refine cmo (fen 5 bB) ?_;rintro e C ⟨rfl,hbC⟩;refine⟨hbC,?_⟩;have bC:=zst bB hbC;refine s1 bC fun D hD=>?_;refine s2 D hD fun F hF=>?_;refine s3 F hF fun G hG=>?_;exact⟨(),(cvE rfl rfl),hG⟩
    ·refine⟨At0 (L+2),ld0 bA,?_⟩;refine cmo (fen 4 bA) ?_;rintro e B ⟨rfl,hbB⟩;refine⟨hbB,?_⟩;have bB:=zst bA hbB;refine cmo (fen 5 bB) ?_;rintro e C ⟨rfl,hbC⟩;refine⟨hbC,?_⟩;have bC:=zst bB hbC;refine s1 bC fun D hD=>?_;refine s2 D hD fun F hF=>?_;refine s3 F hF fun G hG=>?_;exact⟨(),(cvE rfl rfl),hG⟩
   ·refine⟨At0 (L+2),ld0 bY1,?_⟩;refine cmo (fen 3 bY1) ?_;rintro e A ⟨rfl,hbA⟩;refine⟨hbA,?_⟩;have bA:=zst bY1 hbA;refine cmo (fen 4 bA) ?_;rintro e B ⟨rfl,hbB⟩;refine⟨hbB,?_⟩;have bB:=zst bA hbB;refine cmo (fen 5 bB) ?_;rintro e C ⟨rfl,hbC⟩;refine⟨hbC,?_⟩;have bC:=zst bB hbC;refine s1 bC fun D hD=>?_;refine s2 D hD fun F hF=>?_;refine s3 F hF fun G hG=>?_;exact⟨(),(cvE rfl rfl),hG⟩
 clear fS fP sY hbwY fY fM f0 hwX fX sX hbX hbY;clear X Y;rintro _ Z ⟨hS,fP,fM,f0,fZ,sZ,hbZ⟩;refine⟨Nat,fun R=>⟨[(1,At0 b),(2,At0 L),(4,At0 (L+1)),(5,At0 (L+3)),(6,At0 R)],[]⟩,fun R Y=>Y.heap[R]?=some (.cells zeQ.toArray 146 (0,0))/\Bw Z Y,?_,?_⟩
 ·refine cmo zqc ?_;rintro e Y ⟨rfl,hbY⟩;refine zak (X:=Y) (v := .agg zeQ.toArray) k146 rfl rfl rfl fun V hbV fV sV=>?_;exact⟨Y.heap.size,(cvE rfl rfl),fV,(zst hbY hbV)⟩
 rintro R Y ⟨fR,hbY⟩;have hbwY:=zst hbZ hbY;replace hS:=hS.below hbY;replace fP:=zaa hbY fP;replace fM:=zaa hbY fM;replace f0:=zaa hbY f0;replace fZ:=zaa hbY fZ;refine⟨Unit,fun _=>⟨[(4,At0 (L+1))],[]⟩,fun _ V=>RelH V (L+1) (zdy m.toNat x)/\Bw w V,?_,?_⟩
 ·refine⟨_,zac (zab fZ) (i:=0) rfl,?_⟩;refine cmo (zmT (n:=x.ev.length) (caps := #[At0 (L+3),At0 R,At0 L]) (g:=106) (p:=fun a d=>hasM x.po a d&&(accA x a&&(accA x d&&ze5 m.toNat x (zaB x 3) (zaB x 4) (zaB x 5) a d))) (by omega) (by kernel_rfl) fun a d U ha hd hb=>zqF hk (hS.below hb) (zaa hb fP) (zaa hb fR) (zaa hb fM) ha hd) ?_;rintro e V ⟨rfl,hbV⟩;replace f0:=zaa hbV f0;refine zaq (v := .agg (relC (zdy m.toNat x)).toArray) k27 f0 (zad _) (zad _) (zas _) ?_;exact⟨(),(cvE rfl rfl),zal f0,zah ((zst hbwY hbV)) (by omega) _⟩
 rintro _ V ⟨f0,hbV⟩;exact⟨relC (zdy m.toNat x),zad _,zab f0,rfl,hbV⟩
end
section
variable {b c:Nat} {x:ExD} {q:Option Addr} {w:World}
theorem znc {m:UInt8}:Calls Tryz.prog 55 #[u8 m] w fun e w'=>e = .returned (.bool (zbw m.toNat))/\w=w':=by
 refine cofE 9 [u8 m] Tryz.func55 ?_;refine biE (fun h=>?_) fun h=>?_
 ·have h:(1:Int)<=(m.toNat:Int):=dT h;refine⟨rb ?_,rfl⟩;unfold zbw;rw [decide_eq_true (by omega:1<=m.toNat),Bool.true_and];exact decide_eq_decide.2 (by show (m.toNat:Int)<=6↔_;omega)
 ·have h:¬ (1:Int)<=(m.toNat:Int):=dF h;refine⟨rb ?_,rfl⟩;unfold zbw;rw [decide_eq_false (by omega:¬ 1<=m.toNat)];rfl
theorem zqP {r:RelD} (hn:r.n=x.ev.length) (h48:x.ev.length<=48):WrdR (extM x r).to:=by
 unfold extM;exact zce (by omega)
theorem zjp {X:World} {g:Nat} {a b c:RelD} (h:X.heap[g]?=some (.cells (relC a++(relC b++relC c)).toArray 27 (0,0))):SlR relE X (some ⟨g,0,none⟩) [a,b,c] :=
 SlR.of_cells (hlt h) (by
  have:[a,b,c].flatMap relE.enc=relC a++(relC b++relC c):=by
   rw [List.flatMap_cons,List.flatMap_cons,List.flatMap_cons,List.flatMap_nil,List.append_nil];rfl
  rw [this];exact zab h)
theorem zkY {m:UInt8} (hk:zbw m.toNat=true) (fx:ExH w b x q c) (hv:ExV w x q) (hrf:x.rf.n=x.ev.length) (hT:Tz64M w):CB 56 #[u8 m,At0 b] w (u8 (UInt8.ofNat (zcP m.toNat x))):=by
 refine cofM 80 [u8 m,At0 b] (.c .p (.c .p (.c .p (.c .p (.c .p (.c .p (.c .p (.c .p (.c .p (.c .p .p)))))))))) Tryz.func56 ?_;obtain⟨L,hL⟩:=nm (w.heap.size);have hn:=hv.n;obtain⟨fw,frw⟩:=zpF hv hT;have hba:∀ (A:World) (o:Obj),Bw A (A.alloc o):=fun A o=>(zba _ _);refine⟨Unit,fun _=>⟨[(0,u8 m),(3,At0 L)],[]⟩,fun _ X=>X.heap[L]?=some (.cells #[At0 b] 79 (0,0))/\Bw w X,⟨(),⟨.cons rfl (.cons (by rw [hL];rfl) .nil),rfl⟩,by rw [hL];exact hnew w _,hba w _⟩,?_⟩;rintro _ X ⟨fB,hbX⟩;refine⟨Nat,fun F=>⟨[(0,u8 m),(3,At0 L),(5,At0 F)],[]⟩,fun F Y=>RelH Y F (frM x)/\Y.heap[L]?=some (.cells #[At0 b] 79 (0,0))/\Bw w Y,?_,?_⟩
 ·refine⟨_,zac (zab fB) (i:=0) rfl,?_⟩;refine cmo (fr_c (zaa hbX fx) (hv.below hbX) (hT.below hbX)) ?_;rintro e Y ⟨rfl,hbY⟩;refine zak (X:=Y) (v := .agg (relC (frM x)).toArray) k27 (zad _) (by kernel_rfl) (zas _) fun V hbV fV sV=>?_;have b1:=zst hbY hbV;exact⟨Y.heap.size,(cvE rfl rfl),fV,zaa b1 fB,(zst hbX b1)⟩
 clear fB hbX;clear X;rintro F X ⟨fF,fB,hbX⟩;refine⟨Nat,fun G=>⟨[(0,u8 m),(3,At0 L),(5,At0 F),(6,At0 G)],[]⟩,fun G Y=>RelH Y G (zdw x)/\RelH Y F (frM x)/\Y.heap[L]?=some (.cells #[At0 b] 79 (0,0))/\Bw w Y,?_,?_⟩
 ·refine⟨_,zac (zab fB) (i:=0) rfl,?_⟩;have fX:=zaa hbX fx;have hvX:=hv.below hbX;refine⟨_,zac (zab fX) (i:=0) rfl,?_⟩;refine cmo (zmT (n:=x.ev.length) (caps := #[At0 L]) (g:=94) (p:=fun a d=>hasM x.po a d&&zdX x a d) (by omega) (by kernel_rfl) fun a d Z ha hd hb=>znW (zaa hb fB) (zaa hb fX) (hvX.below hb) ha hd) ?_;rintro e Y ⟨rfl,hbY⟩;refine zak (X:=Y) (v := .agg (relC (zdw x)).toArray) k27 (zad _) (by kernel_rfl) (zas _) fun V hbV fV sV=>?_;have b1:=zst hbY hbV;exact⟨Y.heap.size,(cvE rfl rfl),fV,zaa b1 fF,zaa b1 fB,(zst hbX b1)⟩
 clear fF fB hbX;clear X;rintro G X ⟨fG,fF,fB,hbX⟩;have lw:WrdR (zdw x).to:=zce (by omega);have hbr:zcP m.toNat x=if acyR (zaY (zdw x) [x.rf,x.co,frM x])=true then (if zdz (zbH x.rm (zbV (frM x) x.co).1).1=true then (if m.toNat=1 then 0 else if acyR (zaY (zdy m.toNat x) [if m.toNat=2 then x.rf else extM x x.rf,x.co,frM x])=true then 0 else 3) else 2) else 1:=rfl
 refine⟨Unit,fun _=>⟨[(0,u8 m),(3,At0 L),(5,At0 F)],[]⟩,fun _ Y=>acyR (zaY (zdw x) [x.rf,x.co,frM x])=true/\RelH Y F (frM x)/\Y.heap[L]?=some (.cells #[At0 b] 79 (0,0))/\Bw w Y,?_,?_⟩
 ·have dX:Bw X X.drew:=(Below.refl _ _).drew;have fX:=hdr (zaa hbX fx);refine DrawE.ord [] [0,1,2,3,4,5,6,7,8,9,10,11,12,13] (by kernel_rfl) ?_;refine⟨relC (zdw x),zad _,zab (hdr fG),hlt (hdr fG),?_⟩;refine⟨_,zac (zab (hdr fB)) (i:=0) rfl,?_⟩;refine⟨relC x.rf,zad _,zaw fX (i:=1) (by decide) rfl,hlt fX,?_⟩;refine⟨_,zac (zab (hdr fB)) (i:=0) rfl,?_⟩;refine⟨relC x.co,zad _,zaw fX (i:=2) (by decide) rfl,hlt fX,?_⟩;refine⟨relC (frM x),zad _,zab (hdr fF),hlt (hdr fF),?_⟩;refine⟨⟨by decide,by decide,rfl⟩,relC x.rf++(relC x.co++relC (frM x)),by kernel_rfl,?_⟩;refine⟨hba _ _,?_⟩;have b1:=dX.alloc (Nat.le_refl _) (.cells (relC x.rf++(relC x.co++relC (frM x))).toArray 27);have hl:=zjp (hnew X.drew (.cells (relC x.rf++(relC x.co++relC (frM x))).toArray 27));have hw3:∀ o∈[x.rf,x.co,frM x],WrdR o.to:=by
   simp only [List.mem_cons,List.not_mem_nil,or_false,forall_eq_or_imp,forall_eq];exact⟨hv.rf,hv.co,frw⟩
  refine cmo (zjk (l:=[x.rf,x.co,frM x]) lw hl hw3 (Nat.le_of_ble_eq_true rfl)) ?_;rintro e Y ⟨rfl,hbY⟩;refine⟨hbY,?_⟩;have b2:=zst b1 hbY;refine cmo (zff (zee lw hw3) (hT.below ((zst hbX b2)))) ?_;rintro e Z ⟨rfl,hbZ⟩;refine⟨hbZ,?_⟩;have b3:=zst b2 hbZ;have b4:=zst hbX b3;refine biE (fun h=>?_) fun h=>?_
  ·have h:acyR (zaY (zdw x) [x.rf,x.co,frM x])=false:=by
    have h:(!acyR (zaY (zdw x) [x.rf,x.co,frM x]))=true:=h;simpa using h
   rw [h,if_neg (by decide)] at hbr;rw [hbr];exact⟨rfl,b4⟩
  ·have h:acyR (zaY (zdw x) [x.rf,x.co,frM x])=true:=by
    have h:(!acyR (zaY (zdw x) [x.rf,x.co,frM x]))=false:=h;simpa using h
   exact⟨(),(cvE rfl rfl),h,zaa b3 fF,zaa b3 fB,b4⟩
 clear fG fF fB hbX;clear X;rintro _ X ⟨h1,fF,fB,hbX⟩;rw [if_pos h1] at hbr;clear h1 lw G;refine⟨Nat,fun G=>⟨[(0,u8 m),(3,At0 L),(5,At0 F),(7,At0 G)],[]⟩,fun G Y=>RelH Y G (zbV (frM x) x.co).1/\RelH Y F (frM x)/\Y.heap[L]?=some (.cells #[At0 b] 79 (0,0))/\Bw w Y,?_,?_⟩
 ·have dX:Bw X X.drew:=(Below.refl _ _).drew;have fX:=hdr (zaa hbX fx);have put:∀ (W:World) (b3:Nat),Bw X W->RelH W b3 zam->X.heap.size<=b3->∀ {K:World->Prop},(∀ Y,(RelH Y b3 (zbV (frM x) x.co).1/\RelH Y F (frM x)/\Y.heap[L]?=some (.cells #[At0 b] 79 (0,0))/\Bw w Y)->K Y) ->
    SatR ((storeVar 27 ⟨b3,0,none⟩ (.agg (relC (zbV (frM x) x.co).1).toArray)).run Tryz.prog W) fun _ w'=>K w':=by
   intro W b3 hW f3 g3 K k;refine zaq (v := .agg (relC (zbV (frM x) x.co).1).toArray) k27 f3 (zad _) (zad _) (zas _) ?_;have hF2:=hlt fF;have hL2:=hlt fB;exact k _ ⟨zal f3,(zan (by omega)).trans (zaa hW fF),(zan (by omega)).trans (zaa hW fB),zah ((zst hbX hW)) (by have:=hbX.size;omega) _⟩
  refine DrawE.treeQ [10] (.op 0 (.op 1 (.op 2 (.op 3 (.op 4 (.alt (.op 9 (.op 5 (.op 6 (.op 7 (.op 8 (.op 10 (.op 11 .nil))))))) (.op 5 (.op 6 (.op 7 (.op 8 (.op 9 (.op 10 (.op 11 .nil))))))))))))) (by kernel_rfl) ?_;refine⟨relC (frM x),zad _,zab (hdr fF),hlt (hdr fF),?_⟩;refine⟨_,zac (zab (hdr fB)) (i:=0) rfl,?_⟩;refine⟨relC x.co,zad _,zaw fX (i:=2) (by decide) rfl,hlt fX,?_⟩;refine And.intro ?_ ?_
  ·refine⟨hba _ _,?_⟩;have b1:=dX.alloc (Nat.le_refl _) (.cells (relC zam).toArray 27);refine cmo (zey frw hv.co (hT.below ((zst hbX b1)))) ?_;rintro e Y ⟨rfl,hbY⟩;refine⟨hbY,?_⟩;refine put Y X.heap.size ((zst b1 hbY)) (zaa hbY (hnew X.drew _)) (Nat.le_refl _) ?_;exact fun Y hY=>⟨X.heap.size,(cvE rfl rfl),hY⟩
  ·refine cmo (zey frw hv.co (hT.below ((zst hbX dX)))) ?_;rintro e Y ⟨rfl,hbY⟩;refine⟨hbY,?_⟩;have b1:=zst dX hbY;refine⟨hba _ _,?_⟩;refine put _ Y.heap.size (b1.alloc b1.size _) (hnew Y _) b1.size ?_;exact fun V hV=>⟨Y.heap.size,(cvE rfl rfl),hV⟩
 clear fF fB hbX;clear X;rintro G X ⟨fG,fF,fB,hbX⟩;have tw:=zeN (a:=frM x) (b:=x.co) frw hv.co;refine⟨Nat,fun H=>⟨[(0,u8 m),(3,At0 L),(5,At0 F),(9,At0 H)],[]⟩,fun H Y=>RelH Y H (zbH x.rm (zbV (frM x) x.co).1).1/\RelH Y F (frM x)/\Y.heap[L]?=some (.cells #[At0 b] 79 (0,0))/\Bw w Y,?_,?_⟩
 ·have dX:Bw X X.drew:=(Below.refl _ _).drew;have fX:=hdr (zaa hbX fx);obtain⟨tb,htb⟩:=nm ((zbV (frM x) x.co).1);rw [<- htb] at fG tw ⊢;have put:∀ (W:World) (b3:Nat),Bw X W->RelH W b3 zam->X.heap.size<=b3->∀ {K:World->Prop},(∀ Y,(RelH Y b3 (zbH x.rm tb).1/\RelH Y F (frM x)/\Y.heap[L]?=some (.cells #[At0 b] 79 (0,0))/\Bw w Y)->K Y) ->
    SatR ((storeVar 27 ⟨b3,0,none⟩ (.agg (relC (zbH x.rm tb).1).toArray)).run Tryz.prog W) fun _ w'=>K w':=by
   intro W b3 hW f3 g3 K k;refine zaq (v := .agg (relC (zbH x.rm tb).1).toArray) k27 f3 (zad _) (zad _) (zas _) ?_;have hF2:=hlt fF;have hL2:=hlt fB;exact k _ ⟨zal f3,(zan (by omega)).trans (zaa hW fF),(zan (by omega)).trans (zaa hW fB),zah ((zst hbX hW)) (by have:=hbX.size;omega) _⟩
  refine DrawE.treeQ [10] (.op 0 (.op 1 (.op 2 (.op 3 (.op 4 (.alt (.op 9 (.op 5 (.op 6 (.op 7 (.op 8 (.op 10 (.op 11 .nil))))))) (.op 5 (.op 6 (.op 7 (.op 8 (.op 9 (.op 10 (.op 11 .nil))))))))))))) (by kernel_rfl) ?_;refine⟨_,zac (zab (hdr fB)) (i:=0) rfl,?_⟩;refine⟨relC x.rm,zad _,zaw fX (i:=5) (by decide) rfl,hlt fX,?_⟩;refine⟨relC tb,zad _,zab (hdr fG),hlt (hdr fG),?_⟩;refine And.intro ?_ ?_
  ·refine⟨hba _ _,?_⟩;have b1:=dX.alloc (Nat.le_refl _) (.cells (relC zam).toArray 27);refine cmo (zpT hv.rm tw) ?_;rintro e Y ⟨rfl,hbY⟩;refine⟨hbY,?_⟩;refine put Y X.heap.size ((zst b1 hbY)) (zaa hbY (hnew X.drew _)) (Nat.le_refl _) ?_;exact fun Y hY=>⟨X.heap.size,(cvE rfl rfl),hY⟩
  ·refine cmo (zpT hv.rm tw) ?_;rintro e Y ⟨rfl,hbY⟩;refine⟨hbY,?_⟩;have b1:=zst dX hbY;refine⟨hba _ _,?_⟩;refine put _ Y.heap.size (b1.alloc b1.size _) (hnew Y _) b1.size ?_;exact fun V hV=>⟨Y.heap.size,(cvE rfl rfl),hV⟩
 clear fG fF fB hbX;clear X G;rintro H X ⟨fH,fF,fB,hbX⟩;refine⟨Unit,fun _=>⟨[(0,u8 m),(3,At0 L),(5,At0 F)],[]⟩,fun _ Y=>zdz (zbH x.rm (zbV (frM x) x.co).1).1=true/\RelH Y F (frM x)/\Y.heap[L]?=some (.cells #[At0 b] 79 (0,0))/\Bw w Y,?_,?_⟩
 ·refine⟨relC (zbH x.rm (zbV (frM x) x.co).1).1,zad _,zab fH,hlt fH,?_⟩;refine cmo (zrG (zkZ hv.rm)) ?_;rintro e Y ⟨rfl,hbY⟩;have b4:=zst hbX hbY;refine biE (fun h=>?_) fun h=>?_
  ·have h:zdz (zbH x.rm (zbV (frM x) x.co).1).1=false:=by
    have h:(!zdz (zbH x.rm (zbV (frM x) x.co).1).1)=true:=h;simpa using h
   rw [h,if_neg (by decide)] at hbr;rw [hbr];exact⟨rfl,b4⟩
  ·have h:zdz (zbH x.rm (zbV (frM x) x.co).1).1=true:=by
    have h:(!zdz (zbH x.rm (zbV (frM x) x.co).1).1)=false:=h;simpa using h
   exact⟨(),(cvE rfl rfl),h,zaa hbY fF,zaa hbY fB,b4⟩
 clear fH fF fB hbX tw;clear X H;rintro _ X ⟨h1,fF,fB,hbX⟩;rw [if_pos h1] at hbr;clear h1;refine⟨Unit,fun _=>⟨[(0,u8 m),(3,At0 L),(5,At0 F)],[]⟩,fun _ Y=>m.toNat≠1/\X=Y,?_,?_⟩
 ·refine biE (fun h=>?_) fun h=>?_
  ·have h:(m.toNat:Int)=1:=dT h;rw [if_pos (by omega)] at hbr;rw [hbr];exact⟨rfl,hbX⟩
  ·have h:¬ (m.toNat:Int)=1:=dF h;exact⟨(),(cvE rfl rfl),by omega,rfl⟩
 rintro _ _ ⟨h1,rfl⟩;rw [if_neg h1] at hbr;clear h1;refine⟨Nat,fun G=>⟨[(0,u8 m),(3,At0 L),(5,At0 F),(11,At0 G)],[]⟩,fun G Y=>G≠F/\G≠L/\w.heap.size<=G/\RelH Y G x.rf/\RelH Y F (frM x)/\Y.heap[L]?=some (.cells #[At0 b] 79 (0,0))/\Bw w Y,?_,?_⟩
 ·have fX:=zaa hbX fx;refine⟨_,zac (zab fB) (i:=0) rfl,?_⟩;refine⟨relC x.rf,zad _,zaw fX (i:=1) (by decide) rfl,hlt fX,?_⟩;refine zak (X:=X) (v := .agg (relC x.rf).toArray) k27 (zad _) (by kernel_rfl) (zas _) fun V hbV fV sV=>?_;have hF2:=hlt fF;have hL2:=hlt fB;exact⟨X.heap.size,(cvE rfl rfl),by omega,by omega,hbX.size,fV,zaa hbV fF,zaa hbV fB,(zst hbX hbV)⟩
 clear fF fB hbX;clear X;rintro G X ⟨hGF,hGL,hGw,fG,fF,fB,hbX⟩;obtain⟨rfx,hrfx⟩:=nm (if m.toNat=2 then x.rf else extM x x.rf);have rfw:WrdR rfx.to:=by
  rw [hrfx]
  split
  ·exact hv.rf
  ·exact zqP hrf (by omega)
 rw [<- hrfx] at hbr;refine⟨Unit,fun _=>⟨[(0,u8 m),(3,At0 L),(5,At0 F),(11,At0 G)],[]⟩,fun _ Y=>RelH Y G rfx/\RelH Y F (frM x)/\Y.heap[L]?=some (.cells #[At0 b] 79 (0,0))/\Bw w Y,?_,?_⟩
 ·have fX:=zaa hbX fx;have hvX:=hv.below hbX;refine biE (fun h=>?_) fun h=>?_
  ·have h:¬ m.toNat=2:=by
    have h:(!decide ((m.toNat:Int)=2))=true:=h;have h:¬ (m.toNat:Int)=2:=(by simpa using h);omega
   rw [if_neg h] at hrfx;refine⟨_,zac (zab fB) (i:=0) rfl,?_⟩;refine⟨relC x.rf,zad _,zab fG,hlt fG,?_⟩;refine cmo (zte fX hvX hv.rf hrf) ?_;rintro e Y ⟨rfl,hbY⟩;rw [<- hrfx];refine zaq (v := .agg (relC rfx).toArray) k27 (zaa hbY fG) (zad _) (zad _) (zas _) ?_;exact⟨(),(cvE rfl rfl),zal (zaa hbY fG),(zan (by omega)).trans (zaa hbY fF),(zan (by omega)).trans (zaa hbY fB),zah ((zst hbX hbY)) hGw _⟩
  ·have h:m.toNat=2:=by
    have h:(!decide ((m.toNat:Int)=2))=false:=h;have h:(m.toNat:Int)=2:=(by simpa using h);omega
   rw [if_pos h] at hrfx;rw [hrfx];exact⟨(),(cvE rfl rfl),fG,fF,fB,hbX⟩
 clear fG fF fB hbX hrfx;clear X;rintro _ X ⟨fG,fF,fB,hbX⟩;have kw:WrdR (zdy m.toNat x).to:=zce (by omega);have dX:Bw X X.drew:=(Below.refl _ _).drew;have hbD:=zst hbX dX;have hw3:∀ o∈[rfx,x.co,frM x],WrdR o.to:=by
  simp only [List.mem_cons,List.not_mem_nil,or_false,forall_eq_or_imp,forall_eq];exact⟨rfw,hv.co,frw⟩
 have fD:=hdr (zaa hbX fx);have hk0:∀ {Y:World},Bw X Y->CB 69 #[u8 m,At0 b] Y (.agg (relC (zdy m.toNat x)).toArray):=fun {Y} hY =>
  have h2:=zst hbX hY
  zsa hk (zaa h2 fx) (hv.below h2) (hT.below h2)
 refine DrawE.treeQ [] (.op 0 (.op 1 (.op 3 (.op 4 (.op 5 (.op 6 (.op 7 (.op 8 (.alt (.op 9 (.op 2 (.op 10 (.op 11 (.op 12 .nil))))) (.op 2 (.op 9 (.op 10 (.op 11 (.op 12 .nil)))))))))))))) (by kernel_rfl) ?_;refine⟨_,zac (zab (hdr fB)) (i:=0) rfl,?_⟩;refine⟨relC rfx,zad _,zab (hdr fG),hlt (hdr fG),?_⟩;refine⟨_,zac (zab (hdr fB)) (i:=0) rfl,?_⟩;refine⟨relC x.co,zad _,zaw fD (i:=2) (by decide) rfl,hlt fD,?_⟩;refine⟨relC (frM x),zad _,zab (hdr fF),hlt (hdr fF),?_⟩;refine And.intro ?_ ?_
 ·refine⟨⟨by decide,by decide,rfl⟩,relC rfx++(relC x.co++relC (frM x)),by kernel_rfl,?_⟩;refine⟨hba _ _,?_⟩;have b1:=dX.alloc (Nat.le_refl _) (.cells (relC rfx++(relC x.co++relC (frM x))).toArray 27);have hl:=zjp (hnew X.drew (.cells (relC rfx++(relC x.co++relC (frM x))).toArray 27));refine cmo (hk0 b1) ?_;rintro e Y ⟨rfl,hbY⟩;refine⟨hbY,?_⟩;have b2:=zst b1 hbY;refine cmo (zjk (l:=[rfx,x.co,frM x]) kw (hl.below hbY) hw3 (Nat.le_of_ble_eq_true rfl)) ?_;rintro e V ⟨rfl,hbV⟩;refine⟨hbV,?_⟩;have b3:=zst b2 hbV;refine cmo (zff (zee kw hw3) (hT.below ((zst hbX b3)))) ?_;rintro e Z ⟨rfl,hbZ⟩;refine⟨hbZ,?_⟩;have b5:=hbX.trans (((zst b3 hbZ)).mono hbX.size);refine biE (fun h=>?_) fun h=>?_
  ·have h:acyR (zaY (zdy m.toNat x) [rfx,x.co,frM x])=false:=by
    have h:(!acyR (zaY (zdy m.toNat x) [rfx,x.co,frM x]))=true:=h;simpa using h
   rw [h,if_neg (by decide)] at hbr;rw [hbr];exact⟨rfl,b5⟩
  ·have h:acyR (zaY (zdy m.toNat x) [rfx,x.co,frM x])=true:=by
    have h:(!acyR (zaY (zdy m.toNat x) [rfx,x.co,frM x]))=false:=h;simpa using h
   rw [h,if_pos rfl] at hbr;rw [hbr];exact⟨rfl,b5⟩
 ·refine cmo (hk0 dX) ?_;rintro e Y ⟨rfl,hbY⟩;refine⟨hbY,?_⟩;have b1:=zst dX hbY;refine⟨⟨by decide,by decide,rfl⟩,relC rfx++(relC x.co++relC (frM x)),by kernel_rfl,?_⟩;refine⟨hba _ _,?_⟩;have b2:=b1.alloc b1.size (.cells (relC rfx++(relC x.co++relC (frM x))).toArray 27);have hl:=zjp (hnew Y (.cells (relC rfx++(relC x.co++relC (frM x))).toArray 27));refine cmo (zjk (l:=[rfx,x.co,frM x]) kw hl hw3 (Nat.le_of_ble_eq_true rfl)) ?_;rintro e V ⟨rfl,hbV⟩;refine⟨hbV,?_⟩;have b3:=zst b2 hbV;refine cmo (zff (zee kw hw3) (hT.below ((zst hbX b3)))) ?_;rintro e Z ⟨rfl,hbZ⟩;refine⟨hbZ,?_⟩;have b5:=hbX.trans (((zst b3 hbZ)).mono hbX.size);refine biE (fun h=>?_) fun h=>?_
  ·have h:acyR (zaY (zdy m.toNat x) [rfx,x.co,frM x])=false:=by
    have h:(!acyR (zaY (zdy m.toNat x) [rfx,x.co,frM x]))=true:=h;simpa using h
   rw [h,if_neg (by decide)] at hbr;rw [hbr];exact⟨rfl,b5⟩
  ·have h:acyR (zaY (zdy m.toNat x) [rfx,x.co,frM x])=true:=by
    have h:(!acyR (zaY (zdy m.toNat x) [rfx,x.co,frM x]))=false:=h;simpa using h
   rw [h,if_pos rfl] at hbr;rw [hbr];exact⟨rfl,b5⟩
theorem zkn (h:za5 x=true):x.rf.n=x.ev.length:=by
 unfold za5 za9 at h;simp only [List.all_cons,List.all_nil,Bool.and_true,bAT,dE] at h;obtain⟨_,_,_,_,⟨_,h6,_⟩,_⟩:=h;exact h6.1
theorem zqu {A B C:Bool} {m:Nat}:(if A=true then (if B=true then (if m=1 then 0 else if C=true then 0 else 3) else 2) else 1)<=3:=by
 by_cases h:m=1 <;> cases A <;> cases B <;> cases C <;> simp [h]
theorem znX {m:Nat} {x:ExD}:decide ((((UInt8.ofNat (zcP m x)).toNat:Nat):Int)=0)=decide (zcP m x=0):=by
 have h:zcP m x<=3:=by
  unfold zcP;exact zqu
 refine decide_eq_decide.2 ?_;rw [UInt8.toNat_ofNat'];omega
theorem zj4 {m:UInt8} (hv:ExV w x q) (hT:Tz64M w):CB 15 #[u8 m,.agg (exC x q c).toArray] w (.bool (zd5 m.toNat x)):=by
 refine cofM 16 [u8 m,.agg (exC x q c).toArray] (.c .p .p) Tryz.func15 ?_;obtain⟨L,hL⟩:=nm (w.heap.size);refine⟨Unit,fun _=>⟨[(0,u8 m),(3,At0 L)],[]⟩,fun _ X=>ExH X L x q c/\Bw w X,⟨(),⟨.cons rfl (.cons (by rw [hL];rfl) .nil),rfl⟩,by rw [hL];exact hnew w _,(zba w _)⟩,?_⟩;rintro _ X ⟨fX,hbX⟩;refine cmo znc ?_;rintro e _ ⟨rfl,rfl⟩;refine biE (fun h1=>?_) fun h1=>?_
 ·have h1:zbw m.toNat=true:=h1;refine⟨exC x q c,zat _ _ _,zab fX,hlt fX,?_⟩;refine cmo (zlb (hv.below hbX) (hT.below hbX)) ?_;rintro e Y ⟨rfl,hbY⟩;have bY:=zst hbX hbY;refine biE (fun h2=>?_) fun h2=>?_
  ·have h2:za5 x=true:=h2;refine cmo (zkY h1 (zaa hbY fX) (hv.below bY) (zkn h2) (hT.below bY)) ?_;rintro e Z ⟨rfl,hbZ⟩;refine⟨rb ?_,(zst bY hbZ)⟩;unfold zd5;rw [h1,h2];exact znX
  ·have h2:za5 x=false:=h2;exact⟨rb (by unfold zd5;rw [h2];cases zbw m.toNat <;> rfl),bY⟩
 ·have h1:zbw m.toNat=false:=h1;refine brF ?_;exact⟨rb (by unfold zd5;rw [h1];rfl),hbX⟩
end
section
variable {b c:Nat} {x:ExD} {q:Option Addr} {w:World}
theorem zim {m:UInt8} (hv:ExV w x q) (hT:Tz64M w):CB 16 #[u8 m,.agg (exC x q c).toArray] w (u8 (UInt8.ofNat (zgZ m.toNat x))):=by
 refine cofM 15 [u8 m,.agg (exC x q c).toArray] (.c .p .p) Tryz.func16 ?_;obtain⟨L,hL⟩:=nm (w.heap.size);refine⟨Unit,fun _=>⟨[(0,u8 m),(3,At0 L)],[]⟩,fun _ X=>ExH X L x q c/\Bw w X,⟨(),⟨.cons rfl (.cons (by rw [hL];rfl) .nil),rfl⟩,by rw [hL];exact hnew w _,(zba w _)⟩,?_⟩;rintro _ X ⟨fX,hbX⟩;refine cmo znc ?_;rintro e _ ⟨rfl,rfl⟩;refine biE (fun h1=>?_) fun h1=>?_
 ·have h1:zbw m.toNat=false:=by
   have h1:(!zbw m.toNat)=true:=h1;simpa using h1
  refine brT ?_;have e0:zgZ m.toNat x=0:=by unfold zgZ;rw [if_neg fun h=>by rw [h1] at h;cases h.1]
  rw [e0];exact⟨rfl,hbX⟩
 ·have h1:zbw m.toNat=true:=by
   have h1:(!zbw m.toNat)=false:=h1;simpa using h1
  refine⟨exC x q c,zat _ _ _,zab fX,hlt fX,?_⟩;refine cmo (zlb (hv.below hbX) (hT.below hbX)) ?_;rintro e Y ⟨rfl,hbY⟩;have bY:=zst hbX hbY;refine biE (fun h2=>?_) fun h2=>?_
  ·have h2:za5 x=false:=by
    have h2:(!za5 x)=true:=h2;simpa using h2
   have e0:zgZ m.toNat x=0:=by unfold zgZ;rw [if_neg fun h=>by rw [h2] at h;cases h.2]
   rw [e0];exact⟨rfl,bY⟩
  ·have h2:za5 x=true:=by
    have h2:(!za5 x)=false:=h2;simpa using h2
   have e0:zgZ m.toNat x=zcP m.toNat x:=if_pos ⟨h1,h2⟩;rw [e0];refine cmo (zkY h1 (zaa hbY fX) (hv.below bY) (zkn h2) (hT.below bY)) ?_;rintro e Z ⟨rfl,hbZ⟩;exact⟨rfl,(zst bY hbZ)⟩
end
end Go.Proofs.YtmbghmhjjodgmaaGreatDoor
namespace Go.Sei
def hasQ (r : RelD) (a b : Nat) : Bool := okR r && (decide ((a : Int) < r.n) && (decide ((b : Int) < r.n) && (r.to a).testBit b))
def hdGo : Nat → List Ev → Option Nat
  | i, [] => some i
  | i, e :: es => if e.th = -1 then (if e = ⟨-1, 2, UInt8.ofNat i, e.v, 0, 0, 0⟩ then hdGo (i + 1) es else none) else some i
def zgF (e : Ev) (locs : Nat) : Bool := decide (1 ≤ e.k.toNat) && (decide (e.k.toNat ≤ 3) && ((!decide (e.k = 3) || (decide (e.l = 0) && decide (e.v = 0))) && (!decide (e.k.toNat < 3) || decide (e.l.toNat < locs))))
def cntQ (f : Nat → Bool) (n : Nat) : Nat := ((List.range n).filter f).length
def zdY (ev : List Ev) (locs j : Nat) : Bool :=
  ((List.range j).all fun k => decide ((ev.getD (locs + k) ev0).th ≤ (ev.getD (locs + j) ev0).th)) &&
    (decide (0 ≤ (ev.getD (locs + j) ev0).th) && (decide ((ev.getD (locs + j) ev0).th ≤ 3) && (decide ((ev.getD (locs + j) ev0).p.toNat = cntQ (fun k => decide ((ev.getD (locs + k) ev0).th = (ev.getD (locs + j) ev0).th)) j) && zgF (ev.getD (locs + j) ev0) locs)))
def zbU (ev : List Ev) : Option Nat := match hdGo 0 ev with
  | none => none
  | some locs => if locs < 1 ∨ 6 < locs ∨ 48 < ev.length then none else if ((List.range (ev.length - locs)).all fun j => zdY ev locs j) = true then some locs else none
theorem zlF (e : Ev) (es : List Ev) : zaJ (e :: es) = if e.th = -1 then zaJ es + 1 else 0 := by
  unfold zaJ
  rw [List.takeWhile_cons]
  by_cases h : e.th = -1
  · rw [if_pos (decide_eq_true h), if_pos h, List.length_cons]
  · rw [if_neg (by simp [h]), if_neg h]; rfl
theorem zi2 : ∀ (es : List Ev) (i : Nat), (hdGo i es = none ∧ ∀ t n, evGo (i + zaJ es) i es t n = false) ∨ (hdGo i es = some (i + zaJ es) ∧ ∀ t n, evGo (i + zaJ es) i es t n = evGo (i + zaJ es) (i + zaJ es) (es.drop (zaJ es)) t n)
  | [], i => .inr ⟨rfl, fun t n => rfl⟩
  | e :: es, i => by
    rw [zlF]
    by_cases h : e.th = -1
    · rw [if_pos h]
      have hi : i + (zaJ es + 1) = (i + 1) + zaJ es := by omega
      rw [hi]
      have hstep : ∀ t n, evGo ((i + 1) + zaJ es) i (e :: es) t n = if e = ⟨-1, 2, UInt8.ofNat i, e.v, 0, 0, 0⟩ then evGo ((i + 1) + zaJ es) (i + 1) es t n else false := fun t n => if_pos (by omega)
      have hgo : hdGo i (e :: es) = if e = ⟨-1, 2, UInt8.ofNat i, e.v, 0, 0, 0⟩ then hdGo (i + 1) es else none := if_pos h
      by_cases he : e = ⟨-1, 2, UInt8.ofNat i, e.v, 0, 0, 0⟩
      · rw [if_pos he] at hgo
        rcases zi2 es (i + 1) with ⟨h1, h2⟩ | ⟨h1, h2⟩
        · exact .inl ⟨hgo.trans h1, fun t n => by rw [hstep, if_pos he]; exact h2 t n⟩
        · exact .inr ⟨hgo.trans h1, fun t n => by rw [hstep, if_pos he]; exact h2 t n⟩
      · exact .inl ⟨by rw [hgo, if_neg he], fun t n => by rw [hstep, if_neg he]⟩
    · rw [if_neg h]
      exact .inr ⟨if_neg h, fun t n => rfl⟩
theorem ziX (e : Ev) (locs : Nat) : zgF e locs = true ↔ ((e.k = 1 ∨ e.k = 2) ∧ e.l.toNat < locs) ∨ (e.k = 3 ∧ e.l = 0 ∧ e.v = 0) := by
  unfold zgF
  have h1 : e.k = 1 ↔ e.k.toNat = 1 := ⟨fun h => by rw [h]; rfl, fun h => UInt8.toNat_inj.1 h⟩
  have h2 : e.k = 2 ↔ e.k.toNat = 2 := ⟨fun h => by rw [h]; rfl, fun h => UInt8.toNat_inj.1 h⟩
  have h3 : e.k = 3 ↔ e.k.toNat = 3 := ⟨fun h => by rw [h]; rfl, fun h => UInt8.toNat_inj.1 h⟩
  simp only [Bool.and_eq_true, Bool.or_eq_true, Bool.not_eq_true', decide_eq_true_eq, decide_eq_false_iff_not, h1, h2, h3]
  by_cases a : e.l = 0 <;> by_cases b : e.v = 0 <;> simp only [a, b, and_true, and_false, true_and, or_false, or_true] <;> omega
section
variable {L : List Ev} {locs : Nat}
abbrev thQ (L : List Ev) (k : Nat) : Int := (L.getD k ev0).th
def oneQ (L : List Ev) (locs j : Nat) : Prop := (∀ k, k < j → thQ L k ≤ thQ L j) ∧ 0 ≤ thQ L j ∧ thQ L j ≤ 3 ∧ (L.getD j ev0).p.toNat = cntQ (fun k => decide (thQ L k = thQ L j)) j ∧ zgF (L.getD j ev0) locs = true
theorem za7 (f : Nat → Bool) (n : Nat) : cntQ f (n + 1) = cntQ f n + if f n = true then 1 else 0 := by
  unfold cntQ
  rw [List.range_succ, List.filter_append, List.length_append, List.filter_cons, List.filter_nil]
  split <;> rfl
theorem zfc {f : Nat → Bool} {n : Nat} (h : ∀ k, k < n → f k = false) : cntQ f n = 0 := by
  unfold cntQ
  rw [List.length_eq_zero_iff, List.filter_eq_nil_iff]
  intro k hk
  rw [h k (List.mem_range.1 hk)]
  decide
theorem zir : ∀ (m i : Nat) (t : Int) (n : Nat), i + m = L.length → 0 ≤ t → (∀ k, k < i → thQ L k ≤ t) → (t = 0 ∨ ∃ k, k < i ∧ thQ L k = t) → n = cntQ (fun k => decide (thQ L k = t)) i →
    (evGo locs (locs + i) (L.drop i) t n = true ↔ ∀ j, i ≤ j → j < L.length → oneQ L locs j)
  | 0, i, t, n, hi, _, _, _, _ => by
    rw [List.drop_of_length_le (by omega)]
    exact ⟨fun _ j h1 h2 => by omega, fun _ => rfl⟩
  | m + 1, i, t, n, hi, h0, hle, hat, hn => by
    have hil : i < L.length := by omega
    obtain ⟨e, he⟩ : ∃ e, e = L.getD i ev0 := ⟨_, rfl⟩
    have hd : L.drop i = e :: L.drop (i + 1) := by
      rw [he, List.getD_eq_getElem?_getD, List.getElem?_eq_getElem hil, ← List.getElem_cons_drop hil]; rfl
    have het : thQ L i = e.th := by rw [he]
    rw [hd]
    have hstep : evGo locs (locs + i) (e :: L.drop (i + 1)) t n = if e.th < t ∨ 4 ≤ e.th then false else if e.p.toNat = (if t < e.th then 0 else n) then
        (if e.k = 1 ∨ e.k = 2 then (if e.l.toNat < locs then evGo locs (locs + i + 1) (L.drop (i + 1)) (if t < e.th then e.th else t) ((if t < e.th then 0 else n) + 1) else false)
         else if e.k = 3 then (if e.l = 0 ∧ e.v = 0 then evGo locs (locs + i + 1) (L.drop (i + 1)) (if t < e.th then e.th else t) ((if t < e.th then 0 else n) + 1) else false) else false) else false := if_neg (by omega)
    rw [hstep]
    by_cases hb : e.th < t ∨ 4 ≤ e.th
    · rw [if_pos hb]
      refine ⟨fun h => (by cases h), fun h => ?_⟩
      obtain ⟨o1, o2, o3, _⟩ := h i (Nat.le_refl _) hil
      rw [het] at o2 o3
      rcases hat with rfl | ⟨k, hk, hkt⟩
      · omega
      · have := o1 k hk
        rw [hkt, het] at this
        omega
    rw [if_neg hb]
    obtain ⟨t', ht'⟩ : ∃ t', t' = if t < e.th then e.th else t := ⟨_, rfl⟩
    have htt : t' = e.th := by
      rw [ht']
      split <;> omega
    obtain ⟨n', hn'⟩ : ∃ n', n' = if t < e.th then 0 else n := ⟨_, rfl⟩
    have hnn : n' = cntQ (fun k => decide (thQ L k = e.th)) i := by
      rw [hn']
      split
      · exact (zfc fun k hk => decide_eq_false (by have := hle k hk; omega)).symm
      · have : t = e.th := by omega
        rw [hn, this]
    rw [← ht', ← hn', htt]
    have ih := zir m (i + 1) e.th (n' + 1) (by omega) (by omega) (fun k hk => by
      by_cases hk2 : k < i
      · have := hle k hk2; omega
      · obtain rfl : k = i := by omega
        omega) (.inr ⟨i, by omega, het⟩) (by rw [za7, if_pos (decide_eq_true het), hnn])
    have hone : oneQ L locs i ↔ e.p.toNat = n' ∧ (((e.k = 1 ∨ e.k = 2) ∧ e.l.toNat < locs) ∨ (e.k = 3 ∧ e.l = 0 ∧ e.v = 0)) := by
      unfold oneQ
      rw [het, ← he, ← hnn, ziX]
      refine ⟨fun h => h.2.2.2, fun h => ⟨fun k hk => by have := hle k hk; omega, by omega, by omega, h⟩⟩
    have split : (∀ j, i ≤ j → j < L.length → oneQ L locs j) ↔ oneQ L locs i ∧ ∀ j, i + 1 ≤ j → j < L.length → oneQ L locs j := by
      refine ⟨fun h => ⟨h i (Nat.le_refl _) hil, fun j h1 h2 => h j (by omega) h2⟩, fun h j h1 h2 => ?_⟩
      by_cases hj : j = i
      · rw [hj]; exact h.1
      · exact h.2 j (by omega) h2
    rw [split, hone, ← ih, show locs + i + 1 = locs + (i + 1) by omega]
    by_cases hp : e.p.toNat = n'
    · rw [if_pos hp]
      by_cases k12 : e.k = 1 ∨ e.k = 2
      · rw [if_pos k12]
        have k3 : ¬ e.k = 3 := fun h => by rw [h] at k12; rcases k12 with h | h <;> exact absurd h (by decide)
        by_cases hl : e.l.toNat < locs
        · rw [if_pos hl]; simp [hp, k12, hl]
        · rw [if_neg hl]; simp [hp, hl, k3]
      · rw [if_neg k12]
        by_cases k3 : e.k = 3
        · rw [if_pos k3]
          by_cases hl : e.l = 0 ∧ e.v = 0
          · rw [if_pos hl]; simp [hp, k3, hl]
          · rw [if_neg hl]
            simp only [hp, true_and, k3]
            refine ⟨fun h => (by cases h), fun h => ?_⟩
            rcases h.1 with h1 | h1
            · exact absurd h1.1 (by decide)
            · exact absurd h1 hl
        · rw [if_neg k3]; simp [k12, k3]
    · rw [if_neg hp]; simp [hp]
end
theorem zi3 (ev : List Ev) (a k : Nat) : (ev.drop a).getD k ev0 = ev.getD (a + k) ev0 := by
  rw [List.getD_eq_getElem?_getD, List.getD_eq_getElem?_getD, List.getElem?_drop]
theorem zi1 (ev : List Ev) (locs j : Nat) : zdY ev locs j = true ↔ oneQ (ev.drop locs) locs j := by
  unfold zdY oneQ thQ
  simp only [Bool.and_eq_true, List.all_eq_true, List.mem_range, decide_eq_true_eq, zi3]
theorem zej (ev : List Ev) (l : Nat) : zbU ev = some l ↔ l = zaJ ev ∧ ev.length ≤ 48 ∧ 1 ≤ l ∧ l ≤ 6 ∧ zbB ev l = true := by
  unfold zbU zbB
  have hle : zaJ ev ≤ ev.length := by
    unfold zaJ
    exact (List.takeWhile_sublist _).length_le
  have hs := zi2 ev 0
  simp only [Nat.zero_add] at hs
  rcases hs with ⟨h1, h2⟩ | ⟨h1, h2⟩
  · rw [h1]
    refine ⟨fun h => (by cases h), fun h => ?_⟩
    rw [h.1, h2] at h
    exact absurd h.2.2.2.2 (by decide)
  · rw [h1]
    dsimp only
    by_cases hb : zaJ ev < 1 ∨ 6 < zaJ ev ∨ 48 < ev.length
    · rw [if_pos hb]
      exact ⟨fun h => (by cases h), fun h => by have := h.1; omega⟩
    rw [if_neg hb]
    have ht := zir (L := ev.drop (zaJ ev)) (locs := zaJ ev) (ev.length - zaJ ev) 0 0 0 (by rw [List.length_drop]; omega) (Int.le_refl _) (fun k hk => by omega) (.inl rfl) rfl
    rw [List.drop_zero, Nat.add_zero, ← h2 0 0] at ht
    have hall : ((List.range (ev.length - zaJ ev)).all fun j => zdY ev (zaJ ev) j) = true ↔ evGo (zaJ ev) 0 ev 0 0 = true := by
      rw [ht, List.all_eq_true]
      simp only [List.mem_range, zi1, List.length_drop]
      exact ⟨fun h j _ hj => h j hj, fun h j hj => h j (Nat.zero_le _) hj⟩
    constructor
    · intro h
      by_cases ha : ((List.range (ev.length - zaJ ev)).all fun j => zdY ev (zaJ ev) j) = true
      · rw [if_pos ha] at h
        obtain rfl := Option.some.inj h
        exact ⟨rfl, by omega, by omega, by omega, hall.1 ha⟩
      · rw [if_neg ha] at h; cases h
    · rintro ⟨rfl, _, _, _, h⟩
      rw [if_pos (hall.2 h)]
end Go.Sei
namespace Go.Proofs.YtmbghmhjjodgmaaGreatDoor
open Go.Vc Go.RowKit Go.Sei
def zb3 (r:RelD) (a:Nat):Nat:=cntQ (fun b=>hasQ r b a) r.n.toNat
def zcl (r:RelD) (a:Nat):Nat:=cntQ (fun b=>hasQ r a b) r.n.toNat
def poQ (x:ExD) (a b:Nat):Bool:=decide (0<=(evA x a).th)&&(decide ((evA x a).th=(evA x b).th)&&decide (a<b))
def zeq (x:ExD) (a b:Nat):Bool:=decide ((evA x a).l=(evA x b).l)
def zgu (x:ExD) (a b:Nat):Bool :=
 (hasQ x.po a b == poQ x a b)&&((!hasQ x.rf a b||(isW x a&&(isR x b&&(zeq x a b&&decide ((evA x a).v=(evA x b).v)))))&&((!hasQ x.co a b||(isW x a&&(isW x b&&zeq x a b))) &&
  ((!hasQ x.dt a b||(poQ x a b&&(isR x a&&isW x b)))&&((!hasQ x.ct a b||(poQ x a b&&isR x a))&&(!hasQ x.rm a b||(poQ x a b&&(isR x a&&(isW x b&&zeq x a b))))))))
def zeJ (x:ExD) (a:Nat):Bool:=(!isR x a||decide (zb3 x.rf a=1))&&(decide (zcl x.rm a<=1)&&decide (zb3 x.rm a<=1))
theorem zfC {f:Nat->Bool}:∀ {n:Nat},0<cntQ f n↔∃ i,i<n/\f i=true
 | 0=>⟨fun h=>absurd h (Nat.lt_irrefl _),fun ⟨i,h,_⟩=>absurd h (Nat.not_lt_zero _)⟩
 | n+1=>by
  rw [za7];constructor
  ·intro h;by_cases hf:f n=true
   ·exact⟨n,Nat.lt_succ_self _,hf⟩
   ·rw [if_neg hf] at h;obtain⟨i,h1,h2⟩:=zfC.1 (show 0<cntQ f n by omega);exact⟨i,by omega,h2⟩
  ·rintro⟨i,h1,h2⟩;by_cases hi:i=n
   ·subst hi;rw [if_pos h2];omega
   ·have:=zfC.2 ⟨i,(by omega:i<n),h2⟩;omega
theorem zdB {f:Nat->Bool}:∀ {n:Nat},cntQ f n<=1↔∀ i j,i<n->j<n->f i=true->f j=true->i=j
 | 0=>⟨fun _ i j h=>absurd h (Nat.not_lt_zero _),fun _=>Nat.zero_le _⟩
 | n+1=>by
  rw [za7];constructor
  ·intro h i j hi hj fi fj;by_cases hf:f n=true
   ·rw [if_pos hf] at h;have h0:¬ 0<cntQ f n:=(by omega);have no:∀ k,k<n->f k=true->False:=fun k hk fk=>h0 (zfC.2 ⟨k,hk,fk⟩);have e1:i=n:=by
     by_cases hi2:i<n
     ·exact (no i hi2 fi).elim
     ·omega
    have e2:j=n:=by
     by_cases hj2:j<n
     ·exact (no j hj2 fj).elim
     ·omega
    omega
   ·rw [if_neg hf] at h;have e1:i<n:=by
     by_cases e:i=n
     ·rw [e] at fi;exact absurd fi hf
     ·omega
    have e2:j<n:=by
     by_cases e:j=n
     ·rw [e] at fj;exact absurd fj hf
     ·omega
    exact zdB.1 (by omega) i j e1 e2 fi fj
  ·intro h;by_cases hf:f n=true
   ·rw [if_pos hf];have:cntQ f n=0:=zfc fun k hk=>by
     cases hfk:f k with
     | false=>rfl
     | true=>have:=h k n (by omega) (by omega) hfk hf;omega
    omega
   ·rw [if_neg hf];have:=(zdB (n:=n)).2 fun i j hi hj fi fj=>h i j (by omega) (by omega) fi fj;omega
theorem zrg {f:Nat->Bool} {n:Nat}:cntQ f n=1↔(∃ i,i<n/\f i=true)/\∀ i j,i<n->j<n->f i=true->f j=true->i=j:=by
 rw [<- zfC,<- zdB];omega
section
variable {n:Nat} {r:RelD} {x:ExD}
theorem zeG (h:RelOk n r) {a b:Nat} (ha:a<48):hasQ r a b=hasM r a b:=by
 unfold hasQ;rw [h.ok,Bool.true_and]
 cases hb:(r.to a).testBit b with
 | false=>rw [show hasM r a b=false from hb,Bool.and_false,Bool.and_false]
 | true =>
  have:=h.bit ha hb;have:=h.n;rw [show hasM r a b=true from hb,decide_eq_true (by omega),decide_eq_true (by omega)];rfl
theorem RelOk.nat (h:RelOk n r):r.n.toNat=n:=by have:=h.n;omega
theorem zkG (h:RelOk n r) {a:Nat} (ha:a<n):zb3 r a=1↔(∃ j,j<n/\hasM r j a=true)/\∀ i j,i<n->j<n->hasM r i a=true->hasM r j a=true->i=j:=by
 unfold zb3;rw [zrg,h.nat];have h48:=h.le;have e:∀ i,i<n->hasQ r i a=hasM r i a:=fun i hi=>zeG h (by omega);constructor
 ·rintro⟨⟨j,hj,h1⟩,h2⟩;exact⟨⟨j,hj,by rw [<- e j hj];exact h1⟩,fun i j hi hj fi fj=>h2 i j hi hj (by rw [e i hi];exact fi) (by rw [e j hj];exact fj)⟩
 ·rintro⟨⟨j,hj,h1⟩,h2⟩;exact⟨⟨j,hj,by rw [e j hj];exact h1⟩,fun i j hi hj fi fj=>h2 i j hi hj (by rw [<- e i hi];exact fi) (by rw [<- e j hj];exact fj)⟩
theorem zng (h:RelOk n r) {a:Nat} (ha:a<n):zb3 r a<=1↔∀ i j,i<n->j<n->hasM r i a=true->hasM r j a=true->i=j:=by
 unfold zb3;rw [zdB,h.nat];have h48:=h.le;have e:∀ i,i<n->hasQ r i a=hasM r i a:=fun i hi=>zeG h (by omega);exact⟨fun h2 i j hi hj fi fj=>h2 i j hi hj (by rw [e i hi];exact fi) (by rw [e j hj];exact fj),fun h2 i j hi hj fi fj=>h2 i j hi hj (by rw [<- e i hi];exact fi) (by rw [<- e j hj];exact fj)⟩
theorem znl (h:RelOk n r) {a:Nat} (ha:a<n):zcl r a<=1↔∀ i j,i<n->j<n->hasM r a i=true->hasM r a j=true->i=j:=by
 unfold zcl;rw [zdB,h.nat];have h48:=h.le;have e:∀ i,hasQ r a i=hasM r a i:=fun i=>zeG h (by omega);simp only [e]
theorem zq5 {j:Nat} (h:j<64):ctz (2^j)=j:=by
 have h2:(2:Nat)^j<2^64:=Nat.pow_lt_pow_right (by decide) h;have:=(zbT.1 (zh9 (Nat.ne_of_gt (Nat.pow_pos (by decide))) h2)).2;rw [zbR] at this;exact dT this
theorem zje {s:Nat} (h:s≠0):∃ j,s.testBit j=true:=by
 refine Classical.byContradiction fun hn=>h (Nat.eq_of_testBit_eq fun j=>?_);rw [Nat.zero_testBit]
 cases hb:s.testBit j with
 | false=>rfl
 | true=>exact (hn ⟨j,hb⟩).elim
theorem zrS (hrf:RelOk x.ev.length x.rf):zc5 x=true↔(∀ a b,a<x.ev.length->b<x.ev.length->hasM x.rf a b=true->isW x a=true/\isR x b=true/\(evA x a).l=(evA x b).l/\(evA x a).v=(evA x b).v) /\
  ∀ b,b<x.ev.length->isR x b=true->(∃ j,j<x.ev.length/\hasM x.rf j b=true)/\∀ i j,i<x.ev.length->j<x.ev.length->hasM x.rf i b=true->hasM x.rf j b=true->i=j:=by
 have h48:=hrf.le;have bk:∀ i,i<x.ev.length->∀ j,((za3 x.rf).to i).testBit j=(decide (j<x.ev.length)&&hasM x.rf j i):=fun i hi j=>zc8 hrf (by omega);have w64:∀ i,i<x.ev.length->(za3 x.rf).to i<2^64:=fun i hi=>hrf.back.w i (by omega);unfold zc5;rw [List.all_eq_true];constructor
 ·intro h;have one:∀ b,b<x.ev.length->∀ a,hasM x.rf a b=true->a<x.ev.length->(evA x b).k=1/\a=ctz ((za3 x.rf).to b)/\(evA x a).k=2/\(evA x a).l=(evA x b).l/\(evA x a).v=(evA x b).v:=fun b hb a hab ha=>by
   have h1:=h b (List.mem_range.2 hb);have hbit:((za3 x.rf).to b).testBit a=true:=by rw [bk b hb,hab,decide_eq_true ha];rfl
   have h0:¬ (za3 x.rf).to b=0:=fun e=>by rw [e,Nat.zero_testBit] at hbit;cases hbit
   unfold zeR at h1;by_cases hk:(evA x b).k=1
   ·rw [if_pos hk,if_neg h0] at h1;by_cases hs:(za3 x.rf).to b=2^ctz ((za3 x.rf).to b)
    ·rw [if_pos hs] at h1;have hz:a=ctz ((za3 x.rf).to b):=by
      rw [hs,zbR] at hbit;exact dT hbit
     rw [<- hz] at h1;simp only [bAT,dE] at h1;exact⟨hk,hz,h1⟩
    ·rw [if_neg hs] at h1;cases h1
   ·rw [if_neg hk] at h1;exact (h0 (dT h1)).elim
  refine⟨fun a b ha hb hab=>?_,fun b hb hr=>⟨?_,fun i j hi hj h1 h2=>?_⟩⟩
  ·obtain⟨h1,_,h3,h4⟩:=one b hb a hab ha;exact⟨decide_eq_true h3,decide_eq_true h1,h4⟩
  ·have h1:=h b (List.mem_range.2 hb);unfold zeR at h1;rw [if_pos (dT hr:(evA x b).k=1)] at h1;by_cases h0:(za3 x.rf).to b=0
   ·rw [if_pos h0] at h1;cases h1
   ·obtain⟨j,hj⟩:=zje h0;rw [bk b hb,bAT,dE] at hj;exact⟨j,hj⟩
  ·exact (one b hb i h1 hi).2.1.trans (one b hb j h2 hj).2.1.symm
 ·rintro⟨h1,h2⟩ b hb;have hb:=List.mem_range.1 hb;unfold zeR;by_cases hk:(evA x b).k=1
  ·rw [if_pos hk];obtain⟨⟨j,hj,hj1⟩,hu⟩:=h2 b hb (decide_eq_true hk);have hs:(za3 x.rf).to b=2^j:=Nat.eq_of_testBit_eq fun i=>by
    rw [bk b hb,zbR];by_cases hij:i=j
    ·rw [hij,hj1,decide_eq_true hj,decide_eq_true rfl];rfl
    ·rw [decide_eq_false hij]
     cases hi:hasM x.rf i b with
     | false=>rw [Bool.and_false]
     | true =>
      by_cases hin:i<x.ev.length
      ·exact (hij (hu i j hin hj hi hj1)).elim
      ·rw [decide_eq_false hin];rfl
   have hz:ctz ((za3 x.rf).to b)=j:=by rw [hs];exact zq5 (by omega)
   have h0:¬ (za3 x.rf).to b=0:=by rw [hs];exact Nat.ne_of_gt (Nat.pow_pos (by decide))
   rw [if_neg h0,hz,if_pos hs];obtain⟨a1,_,a3,a4⟩:=h1 j b hj hb hj1;rw [decide_eq_true (dT a1:(evA x j).k=2),decide_eq_true a3,decide_eq_true a4];rfl
  ·rw [if_neg hk];refine decide_eq_true (Nat.eq_of_testBit_eq fun j=>?_);rw [bk b hb,Nat.zero_testBit];by_cases hj:j<x.ev.length
   ·cases hjb:hasM x.rf j b with
    | false=>rw [Bool.and_false]
    | true=>exact (hk (dT (h1 j b hj hb hjb).2.1)).elim
   ·rw [decide_eq_false hj];rfl
end
section
variable {x : ExD}
theorem ze3 {a b : Nat} (ha : a < 2 ^ 64) (hb : b < 2 ^ 64) : zcK a b = 0 ↔ ∀ j, a.testBit j = true → b.testBit j = true := by
  rw [zf0]
  constructor
  · intro h j hj
    have hj64 : j < 64 := by
      refine Nat.lt_of_not_le fun hge => ?_
      rw [Nat.testBit_lt_two_pow (Nat.lt_of_lt_of_le ha (Nat.pow_le_pow_right (by decide) hge))] at hj
      cases hj
    have := zdx (a := a) hb hj64
    rw [h, Nat.zero_testBit, hj, Bool.true_and] at this
    cases hc : b.testBit j with
    | true => rfl
    | false => rw [hc] at this; cases this
  · intro h
    refine Nat.eq_of_testBit_eq fun j => ?_
    rw [Nat.zero_testBit]
    by_cases hj : j < 64
    · rw [zdx (a := a) hb hj]
      cases hc : a.testBit j with
      | false => rfl
      | true => rw [h j hc]; rfl
    · exact Nat.testBit_lt_two_pow (Nat.lt_of_lt_of_le (Nat.lt_of_le_of_lt (show zb6 a b ≤ a from Nat.and_le_left) ha) (Nat.pow_le_pow_right (by decide) (by omega)))
theorem zpU (x : ExD) : ∀ k j, ((List.range k).foldl (fun s i => if (evA x i).k = 2 then s ||| 2 ^ i else s) 0).testBit j = (decide (j < k) && isW x j)
  | 0, j => by show (0 : Nat).testBit j = _; simp
  | k + 1, j => by
    rw [List.range_succ, List.foldl_append, List.foldl_cons, List.foldl_nil]
    unfold isW at *
    split
    · rename_i h
      rw [Nat.testBit_or, zpU x k j, zbR]
      by_cases e : j = k
      · subst e
        simp [h, isW]
      · rw [decide_eq_false e, Bool.or_false]
        unfold isW
        congr 1
        exact decide_eq_decide.2 (by omega)
    · rename_i h
      rw [zpU x k j]
      unfold isW
      by_cases e : j = k
      · subst e
        rw [decide_eq_false h, Bool.and_false, Bool.and_false]
      · congr 1
        exact decide_eq_decide.2 (by omega)
theorem zl7 (x : ExD) (j : Nat) : (zc0 x).testBit j = (decide (j < x.ev.length) && isW x j) := zpU x _ j
theorem zrL (h : x.ev.length ≤ 48) : zc0 x < 2 ^ 64 := by
  refine Nat.lt_of_not_le fun hge => ?_
  obtain ⟨j, hj1, hj2⟩ := Nat.exists_ge_and_testBit_of_ge_two_pow hge
  rw [zl7, Bool.and_eq_true, decide_eq_true_eq] at hj2
  omega
structure DepOne (x : ExD) (k : Nat) : Prop where
  w : ∀ j, hasM x.dt k j = true ∨ hasM x.rm k j = true → isW x j = true
  p : ∀ j, hasM x.dt k j = true ∨ hasM x.ct k j = true ∨ hasM x.rm k j = true → isR x k = true ∧ hasM x.po k j = true
  u : ∀ i j, hasM x.rm k i = true → hasM x.rm k j = true → i = j
  l : ∀ j, hasM x.rm k j = true → (evA x j).l = (evA x k).l
theorem zkQ (h48 : x.ev.length ≤ 48) (hpo : RelOk x.ev.length x.po) (hdt : RelOk x.ev.length x.dt) (hct : RelOk x.ev.length x.ct) (hrm : RelOk x.ev.length x.rm) : ∀ (m i h : Nat), i + m = x.ev.length →
    (zfb x (zc0 x) i (x.ev.drop i) h = true ↔ (∀ k, i ≤ k → k < x.ev.length → DepOne x k) ∧ (∀ k j, i ≤ k → k < x.ev.length → hasM x.rm k j = true → h.testBit j = false) ∧ ∀ k k' j, i ≤ k → k < k' → k' < x.ev.length → hasM x.rm k j = true → hasM x.rm k' j = true → False)
  | 0, i, h, hi => by
    rw [List.drop_of_length_le (by omega)]
    exact ⟨fun _ => ⟨fun k h1 h2 => by omega, fun k j h1 h2 => by omega, fun k k' j h1 h2 h3 => by omega⟩, fun _ => rfl⟩
  | m + 1, i, h, hi => by
    have hil : i < x.ev.length := by omega
    have hd : x.ev.drop i = evA x i :: x.ev.drop (i + 1) := by
      unfold evA
      rw [List.getD_eq_getElem?_getD, List.getElem?_eq_getElem hil, ← List.getElem_cons_drop hil]; rfl
    rw [hd]
    obtain ⟨d, hdd⟩ : ∃ d, d = x.dt.to i := ⟨_, rfl⟩
    obtain ⟨c, hcc⟩ : ∃ c, c = x.ct.to i := ⟨_, rfl⟩
    obtain ⟨r, hrr⟩ : ∃ r, r = x.rm.to i := ⟨_, rfl⟩
    have bd : ∀ j, d.testBit j = hasM x.dt i j := fun j => by rw [hdd]; rfl
    have bc : ∀ j, c.testBit j = hasM x.ct i j := fun j => by rw [hcc]; rfl
    have br : ∀ j, r.testBit j = hasM x.rm i j := fun j => by rw [hrr]; rfl
    have d64 : d < 2 ^ 64 := by rw [hdd]; exact hdt.w i (by omega)
    have c64 : c < 2 ^ 64 := by rw [hcc]; exact hct.w i (by omega)
    have r64 : r < 2 ^ 64 := by rw [hrr]; exact hrm.w i (by omega)
    have hstep : zfb x (zc0 x) i (evA x i :: x.ev.drop (i + 1)) h = if d ||| c ||| r = 0 then zfb x (zc0 x) (i + 1) (x.ev.drop (i + 1)) h
        else if (evA x i).k = 1 ∧ zcK (d ||| r) (zc0 x) = 0 ∧ zcK (d ||| c ||| r) (x.po.to i) = 0 then
          (if r = 0 then zfb x (zc0 x) (i + 1) (x.ev.drop (i + 1)) h
           else if r = 2 ^ ctz r ∧ h.testBit (ctz r) = false ∧ (evA x (ctz r)).l = (evA x i).l then zfb x (zc0 x) (i + 1) (x.ev.drop (i + 1)) (h ||| r) else false)
        else false := by rw [hdd, hcc, hrr]; rfl
    rw [hstep]
    have sp : ∀ (P : Nat → Prop), (∀ k, i ≤ k → k < x.ev.length → P k) ↔ P i ∧ ∀ k, i + 1 ≤ k → k < x.ev.length → P k := fun P =>
      ⟨fun h => ⟨h i (Nat.le_refl _) hil, fun k h1 h2 => h k (by omega) h2⟩, fun h k h1 h2 => by
        by_cases hk : k = i
        · rw [hk]; exact h.1
        · exact h.2 k (by omega) h2⟩
    have one : DepOne x i ↔ (d ||| c ||| r = 0 ∨ ((evA x i).k = 1 ∧ zcK (d ||| r) (zc0 x) = 0 ∧ zcK (d ||| c ||| r) (x.po.to i) = 0)) ∧ (∀ a b, r.testBit a = true → r.testBit b = true → a = b) ∧ (∀ j, r.testBit j = true → (evA x j).l = (evA x i).l) := by
      have inl : ∀ j, hasM x.dt i j = true ∨ hasM x.rm i j = true → j < x.ev.length := fun j hj => by
        rcases hj with hj | hj
        · exact (hdt.bit (by omega) hj).2
        · exact (hrm.bit (by omega) hj).2
      constructor
      · rintro ⟨w, p, u, l⟩
        refine ⟨?_, fun a b ha hb => u a b (by rw [← br]; exact ha) (by rw [← br]; exact hb), fun j hj => l j (by rw [← br]; exact hj)⟩
        by_cases h0 : d ||| c ||| r = 0
        · exact .inl h0
        · obtain ⟨j, hj⟩ := zje h0
          have hor : ∀ j, (d ||| c ||| r).testBit j = true → hasM x.dt i j = true ∨ hasM x.ct i j = true ∨ hasM x.rm i j = true := fun j hj => by
            rw [Nat.testBit_or, Nat.testBit_or, bd, bc, br, Bool.or_eq_true, Bool.or_eq_true] at hj
            rcases hj with (hj | hj) | hj
            · exact .inl hj
            · exact .inr (.inl hj)
            · exact .inr (.inr hj)
          refine .inr ⟨of_decide_eq_true (p j (hor j hj)).1, (ze3 (Nat.or_lt_two_pow d64 r64) (zrL h48)).2 fun j hj => ?_, (ze3 (Nat.or_lt_two_pow (Nat.or_lt_two_pow d64 c64) r64) (hpo.w i (by omega))).2 fun j hj => (p j (hor j hj)).2⟩
          rw [Nat.testBit_or, bd, br, Bool.or_eq_true] at hj
          rw [zl7, w j hj, decide_eq_true (inl j hj)]; rfl
      · rintro ⟨h1, u, l⟩
        have bits : ∀ j, hasM x.dt i j = true ∨ hasM x.ct i j = true ∨ hasM x.rm i j = true → (d ||| c ||| r).testBit j = true := fun j hj => by
          rw [Nat.testBit_or, Nat.testBit_or, bd, bc, br]
          rcases hj with hj | hj | hj <;> rw [hj] <;> simp
        have nz : ∀ j, hasM x.dt i j = true ∨ hasM x.ct i j = true ∨ hasM x.rm i j = true → (evA x i).k = 1 ∧ zcK (d ||| r) (zc0 x) = 0 ∧ zcK (d ||| c ||| r) (x.po.to i) = 0 := fun j hj => by
          rcases h1 with h1 | h1
          · have := bits j hj
            rw [h1, Nat.zero_testBit] at this
            cases this
          · exact h1
        refine ⟨fun j hj => ?_, fun j hj => ?_, fun a b ha hb => u a b (by rw [br]; exact ha) (by rw [br]; exact hb), fun j hj => l j (by rw [br]; exact hj)⟩
        · have h2 := (nz j (by rcases hj with hj | hj; exact .inl hj; exact .inr (.inr hj))).2.1
          have h3 := (ze3 (Nat.or_lt_two_pow d64 r64) (zrL h48)).1 h2 j (by
            rw [Nat.testBit_or, bd, br]
            rcases hj with hj | hj <;> rw [hj] <;> simp)
          rw [zl7, Bool.and_eq_true] at h3
          exact h3.2
        · have h2 := nz j hj
          exact ⟨decide_eq_true h2.1, (ze3 (Nat.or_lt_two_pow (Nat.or_lt_two_pow d64 c64) r64) (hpo.w i (by omega))).1 h2.2.2 j (bits j hj)⟩
    have hr0 : d ||| c ||| r = 0 → r = 0 := fun h0 => Nat.eq_of_testBit_eq fun j => by
      have := congrArg (fun s => s.testBit j) h0
      simp only [Nat.testBit_or, Nat.zero_testBit, Bool.or_eq_false_iff] at this
      rw [Nat.zero_testBit]; exact this.2
    have rest : ∀ h2, (∀ k j, i + 1 ≤ k → k < x.ev.length → hasM x.rm k j = true → (h2.testBit j = false ↔ h.testBit j = false ∧ r.testBit j = false)) → (∀ j, r.testBit j = true → h.testBit j = false) → DepOne x i →
        ((zfb x (zc0 x) (i + 1) (x.ev.drop (i + 1)) h2 = true) ↔ (∀ k, i ≤ k → k < x.ev.length → DepOne x k) ∧ (∀ k j, i ≤ k → k < x.ev.length → hasM x.rm k j = true → h.testBit j = false) ∧ ∀ k k' j, i ≤ k → k < k' → k' < x.ev.length → hasM x.rm k j = true → hasM x.rm k' j = true → False) := fun h2 hh hf hi1 => by
      rw [zkQ h48 hpo hdt hct hrm m (i + 1) h2 (by omega), sp (DepOne x)]
      constructor
      · rintro ⟨a1, a2, a3⟩
        refine ⟨⟨hi1, a1⟩, fun k j k1 k2 k3 => ?_, fun k k' j k1 k2 k3 k4 k5 => ?_⟩
        · by_cases hk : k = i
          · subst hk
            exact hf j (by rw [br]; exact k3)
          · exact ((hh k j (by omega) k2 k3).1 (a2 k j (by omega) k2 k3)).1
        · by_cases hk : k = i
          · subst hk
            have := ((hh k' j (by omega) k3 k5).1 (a2 k' j (by omega) k3 k5)).2
            rw [br, k4] at this
            cases this
          · exact a3 k k' j (by omega) k2 k3 k4 k5
      · rintro ⟨a1, a2, a3⟩
        refine ⟨a1.2, fun k j k1 k2 k3 => (hh k j k1 k2 k3).2 ⟨a2 k j (by omega) k2 k3, ?_⟩, fun k k' j k1 k2 k3 k4 k5 => a3 k k' j (by omega) k2 k3 k4 k5⟩
        cases hb : r.testBit j with
        | false => rfl
        | true => exact (a3 i k j (Nat.le_refl _) (by omega) k2 (by rw [← br]; exact hb) k3).elim
    by_cases h0 : d ||| c ||| r = 0
    · rw [if_pos h0]
      have r0 := hr0 h0
      refine rest h (fun k j _ _ _ => ?_) (fun j hj => ?_) (one.2 ⟨.inl h0, fun a b ha => ?_, fun j hj => ?_⟩)
      · rw [r0, Nat.zero_testBit]; simp
      · rw [r0, Nat.zero_testBit] at hj; cases hj
      · rw [r0, Nat.zero_testBit] at ha; cases ha
      · rw [r0, Nat.zero_testBit] at hj; cases hj
    rw [if_neg h0]
    by_cases hc2 : (evA x i).k = 1 ∧ zcK (d ||| r) (zc0 x) = 0 ∧ zcK (d ||| c ||| r) (x.po.to i) = 0
    · rw [if_pos hc2]
      by_cases r0 : r = 0
      · rw [if_pos r0]
        refine rest h (fun k j _ _ _ => ?_) (fun j hj => ?_) (one.2 ⟨.inr hc2, fun a b ha => ?_, fun j hj => ?_⟩)
        · rw [r0, Nat.zero_testBit]; simp
        · rw [r0, Nat.zero_testBit] at hj; cases hj
        · rw [r0, Nat.zero_testBit] at ha; cases ha
        · rw [r0, Nat.zero_testBit] at hj; cases hj
      · rw [if_neg r0]
        by_cases hc3 : r = 2 ^ ctz r ∧ h.testBit (ctz r) = false ∧ (evA x (ctz r)).l = (evA x i).l
        · rw [if_pos hc3]
          have bz : ∀ j, r.testBit j = true → j = ctz r := fun j hj => by
            rw [hc3.1, zbR] at hj
            exact of_decide_eq_true hj
          refine rest (h ||| r) (fun k j _ _ _ => ?_) (fun j hj => ?_) (one.2 ⟨.inr hc2, fun a b ha hb => (bz a ha).trans (bz b hb).symm, fun j hj => ?_⟩)
          · rw [Nat.testBit_or, Bool.or_eq_false_iff]
          · rw [bz j hj]; exact hc3.2.1
          · rw [bz j hj]; exact hc3.2.2
        · rw [if_neg hc3]
          refine ⟨fun h => (by cases h), fun hall => ?_⟩
          have ho := one.1 (hall.1 i (Nat.le_refl _) hil)
          obtain ⟨j, hj⟩ := zje r0
          have hz := (zbT.1 (zh9 r0 r64)).2
          refine (hc3 ⟨Nat.eq_of_testBit_eq fun a => ?_, hall.2.1 i _ (Nat.le_refl _) hil (by rw [← br]; exact hz), ho.2.2 _ hz⟩).elim
          rw [zbR]
          by_cases ha : a = ctz r
          · rw [ha, hz, decide_eq_true rfl]
          · rw [decide_eq_false ha]
            cases hb : r.testBit a with
            | false => rfl
            | true => exact (ha (ho.2.1 a _ hb hz)).elim
    · rw [if_neg hc2]
      refine ⟨fun h => (by cases h), fun hall => ?_⟩
      rcases (one.1 (hall.1 i (Nat.le_refl _) hil)).1 with h1 | h1
      · exact (h0 h1).elim
      · exact (hc2 h1).elim
end
def twl (s:List Nat) (i:Nat):List Nat:=s.takeWhile fun y => !decide (y=i)
theorem zcS (a:Nat) (s:List Nat) (i:Nat):twl (a::s) i=if a=i then [] else a::twl s i:=by
 unfold twl;rw [List.takeWhile_cons];by_cases h:a=i
 ·rw [if_pos h,if_neg (by simp [h])]
 ·rw [if_neg h,if_pos (by simp [h])]
theorem zcs:∀ {s:List Nat} {i j:Nat},j∈twl s i->j∈s/\j≠i
 | [],i,j,h=>by cases h
 | a::s,i,j,h=>by
  rw [zcS] at h;by_cases ha:a=i
  ·rw [if_pos ha] at h;cases h
  ·rw [if_neg ha] at h;rcases List.mem_cons.1 h with rfl | h
   ·exact⟨List.mem_cons_self,ha⟩
   ·exact⟨List.mem_cons_of_mem _ (zcs h).1,(zcs h).2⟩
theorem zds:∀ {s:List Nat} {i j:Nat},i∈s->j∈s->i≠j->(j∈twl s i↔¬ i∈twl s j)
 | [],i,j,h,_,_=>by cases h
 | a::s,i,j,hi,hj,hij=>by
  rw [zcS,zcS];by_cases h1:a=i
  ·rw [if_pos h1,if_neg (fun h=>hij (h1.symm.trans h))];exact⟨fun h=>(by cases h),fun h=>(h (by rw [h1];exact List.mem_cons_self)).elim⟩
  ·by_cases h2:a=j
   ·rw [if_neg h1,if_pos h2];exact⟨fun _ h=>(by cases h),fun _=>by rw [h2];exact List.mem_cons_self⟩
   ·rw [if_neg h1,if_neg h2,List.mem_cons,List.mem_cons];have hi2:i∈s:=(by rcases List.mem_cons.1 hi with h | h;exact (h1 h.symm).elim;exact h);have hj2:j∈s:=(by rcases List.mem_cons.1 hj with h | h;exact (h2 h.symm).elim;exact h);have:=zds hi2 hj2 hij;constructor
    ·rintro (h | h) (h' | h')
     ·exact h2 h.symm
     ·exact h2 h.symm
     ·exact h1 h'.symm
     ·exact this.1 h h'
    ·intro h;exact .inr (this.2 fun h'=>h (.inr h'))
theorem zin:∀ {s:List Nat} {i j k:Nat},j∈twl s i->k∈twl s j->k∈twl s i
 | [],i,j,k,h,_=>by cases h
 | a::s,i,j,k,h1,h2=>by
  rw [zcS] at h1 h2 ⊢;by_cases ha:a=i
  ·rw [if_pos ha] at h1;cases h1
  ·rw [if_neg ha] at h1 ⊢;by_cases hb:a=j
   ·rw [if_pos hb] at h2;cases h2
   ·rw [if_neg hb] at h2;rcases List.mem_cons.1 h2 with rfl | h2
    ·exact List.mem_cons_self
    ·rcases List.mem_cons.1 h1 with h1 | h1
     ·exact (hb h1.symm).elim
     ·exact List.mem_cons_of_mem _ (zin h1 h2)
theorem zkd {z:Nat}:∀ {A:List Nat},z ∉ A->twl (A++[z]) z=A
 | [],_=>by rw [List.nil_append,zcS,if_pos rfl]
 | a::A,h=>by
  rw [List.cons_append,zcS,if_neg (fun e=>h (by rw [e];exact List.mem_cons_self)),zkd fun h2=>h (List.mem_cons_of_mem _ h2)]
theorem zjn {R:Nat->Nat->Prop}:∀ {s:List Nat} {i j:Nat},s.Pairwise R->i∈s->j∈twl s i->R j i
 | [],i,j,_,h,_=>by cases h
 | a::s,i,j,hp,hi,hj=>by
  rw [zcS] at hj;by_cases ha:a=i
  ·rw [if_pos ha] at hj;cases hj
  ·rw [if_neg ha] at hj;have hi2:i∈s:=by rcases List.mem_cons.1 hi with h | h;exact (ha h.symm).elim;exact h
   rcases List.mem_cons.1 hj with rfl | hj
   ·exact (List.pairwise_cons.1 hp).1 i hi2
   ·exact zjn (List.pairwise_cons.1 hp).2 hi2 hj
theorem zhn:∀ (l:List Nat) (f:Nat->Nat) (b:Nat),l.Nodup->∀ i j,(zjK l f b i).testBit j=if i∈l then (b.testBit j||decide (j∈twl l i)) else (f i).testBit j
 | [],f,b,_,i,j=>by rw [if_neg List.not_mem_nil];rfl
 | a::l,f,b,hn,i,j=>by
  have hn2:=List.nodup_cons.1 hn;show (zjK l (upd f a b) (b|||2^a) i).testBit j=_;rw [zhn l _ _ hn2.2,zcS];by_cases hia:i=a
  ·subst hia;rw [if_neg hn2.1,if_pos List.mem_cons_self,za6,if_pos rfl];simp
  ·rw [if_neg (show ¬ a=i from fun e=>hia e.symm)];by_cases hi:i∈l
   ·rw [if_pos hi,if_pos (List.mem_cons_of_mem _ hi),Nat.testBit_or,zbR,Bool.or_assoc];congr 1;rw [Bool.eq_iff_iff,Bool.or_eq_true,dE,dE,dE,List.mem_cons]
   ·rw [if_neg hi,if_neg (fun h=>by rcases List.mem_cons.1 h with h | h;exact hia h;exact hi h),zcn _ _ hia]
theorem zhp {key:Nat->Nat} {y:Nat}:∀ {r:List Nat},r.Pairwise (fun a b=>key a<=key b)->(zbA key r y).Pairwise (fun a b=>key a<=key b)
 | [],_=>List.pairwise_singleton _ _
 | z::r,h=>by
  have h2:=List.pairwise_cons.1 h;unfold zbA
  split
  ·rename_i hlt;refine List.pairwise_cons.2 ⟨fun a ha=>?_,zhp h2.2⟩;rcases (zfv r).1 ha with rfl | ha
   ·omega
   ·exact h2.1 a ha
  ·rename_i hlt;refine List.pairwise_cons.2 ⟨fun a ha=>?_,h⟩;rcases List.mem_cons.1 ha with rfl | ha
   ·omega
   ·have:=h2.1 a ha;omega
theorem zmq {key:Nat->Nat}:∀ (l acc:List Nat),acc.Pairwise (fun a b=>key a<=key b)->(l.foldl (fun acc x=>zbA key acc x) acc).Pairwise (fun a b=>key a<=key b)
 | [],_,h=>h
 | y::l,acc,h=>zmq l _ (zhp h)
theorem ziu (key:Nat->Nat) (l:List Nat):(zdW key l).Pairwise (fun a b=>key a<=key b):=zmq l [] .nil
theorem zaK {key:Nat->Nat} {l:List Nat} {a:Nat}:a∈zdW key l↔a∈l:=by
 have:a∈(zdW key l).reverse↔a∈l:=ziv
 rwa [List.mem_reverse] at this
theorem zgq {key:Nat->Nat}:∀ {s:List Nat},s.Pairwise (fun a b=>key a<=key b)->s.Nodup->(∀ a b,a∈s->b∈s->a≠b->key a≠key b)->s.Pairwise (fun a b=>key a<key b)
 | [],_,_,_ => .nil
 | a::s,h,hn,hi=>by
  have h2:=List.pairwise_cons.1 h;have hn2:=List.nodup_cons.1 hn;refine List.pairwise_cons.2 ⟨fun b hb=>?_,zgq h2.2 hn2.2 fun c d hc hd=>hi c d (List.mem_cons_of_mem _ hc) (List.mem_cons_of_mem _ hd)⟩;have h3:=h2.1 b hb;have h4:=hi a b List.mem_cons_self (List.mem_cons_of_mem _ hb) (fun e=>hn2.1 (by rw [e];exact hb));omega
theorem zmi {key:Nat->Nat} {s:List Nat} {i j:Nat} (hp:s.Pairwise (fun a b=>key a<key b)) (hi:i∈s) (hj:j∈s):j∈twl s i↔key j<key i:=by
 constructor
 ·exact zjn hp hi
 ·intro h;refine (zds hi hj (fun e=>by rw [e] at h;omega)).2 fun h2=>?_;have:=zjn hp hj h2;omega
theorem zgX {f g:Nat->Bool}:∀ {n:Nat},(∀ i,i<n->f i=g i)->cntQ f n=cntQ g n
 | 0,_=>rfl
 | n+1,h=>by rw [za7,za7,h n (Nat.lt_succ_self _),zgX fun i hi=>h i (by omega)]
theorem zic {f g:Nat->Bool}:∀ {n:Nat},(∀ i,i<n->f i=true->g i=true->False)->cntQ f n+cntQ g n=cntQ (fun i=>f i||g i) n
 | 0,_=>rfl
 | n+1,h=>by
  have ih:=zic (f:=f) (g:=g) (n:=n) fun i hi=>h i (by omega);have:=h n (Nat.lt_succ_self _);rw [za7,za7,za7,<- ih]
  cases hf:f n <;> cases hg:g n <;> simp [hf,hg] at this ⊢ <;> omega
theorem znQ {a:Nat}:∀ {n:Nat},a<n->cntQ (fun b=>decide (b=a)) n=1
 | 0,h=>absurd h (Nat.not_lt_zero _)
 | n+1,h=>by
  rw [za7];by_cases e:n=a
  ·subst e;rw [if_pos (decide_eq_true rfl),zfc fun k hk=>decide_eq_false (by omega)]
  ·rw [if_neg (by simp [e]),znQ (by omega)]
theorem zkU {f g:Nat->Bool}:∀ {n:Nat},(∀ i,i<n->f i=true->g i=true)->cntQ f n<=cntQ g n
 | 0,_=>Nat.le_refl _
 | n+1,h=>by
  have ih:=zkU (f:=f) (g:=g) (n:=n) fun i hi=>h i (by omega);have:=h n (Nat.lt_succ_self _);rw [za7,za7]
  cases hf:f n <;> cases hg:g n <;> simp [hf,hg] at this ⊢ <;> omega
theorem zhy {f g:Nat->Bool} {n j:Nat} (h:∀ i,i<n->f i=true->g i=true) (hj:j<n) (h1:f j=false) (h2:g j=true):cntQ f n<cntQ g n:=by
 have e:=zic (f:=f) (g:=fun b=>decide (b=j)) (n:=n) fun i hi hf hd=>by
  have:i=j:=dT hd;rw [this,h1] at hf;cases hf
 rw [znQ hj] at e;have:=zkU (f:=fun i=>f i||decide (i=j)) (g:=g) (n:=n) fun i hi hor=>by
  rw [Bool.or_eq_true,dE] at hor;rcases hor with h3 | h3
  ·exact h i hi h3
  ·rw [h3];exact h2
 omega
theorem zkD (s:Nat):lenS s=cntQ (fun j=>s.testBit j) 64:=rfl
inductive TC (R:Nat->Nat->Prop):Nat->Nat->Prop
 | one {a b:Nat} (h:R a b):TC R a b
 | step {a b c:Nat} (h:TC R a b) (k:R b c):TC R a c
theorem TC.first {R:Nat->Nat->Prop} {a b c:Nat} (h:R a b) (k:TC R b c):TC R a c:=by
 induction k with
 | one k=>exact .step (.one h) k
 | step _ k2 ih=>exact .step ih k2
def Wp (R:Nat->Nat->Prop):Nat->Nat->Nat->Prop
 | 0,i,j=>R i j
 | k+1,i,j=>Wp R k i j\/(Wp R k i k/\Wp R k k j)
theorem TC.trans {R:Nat->Nat->Prop} {a b c:Nat} (h:TC R a b) (k:TC R b c):TC R a c:=by
 induction k with
 | one k=>exact .step h k
 | step _ k2 ih=>exact .step ih k2
theorem zma {R:Nat->Nat->Prop}:∀ {k i j:Nat},Wp R k i j->TC R i j
 | 0,i,j,h => .one h
 | k+1,i,j,h=>by
  rcases h with h | ⟨h1,h2⟩
  ·exact zma h
  ·exact (zma h1).trans (zma h2)
theorem zpW {R:Nat->Nat->Prop} {i j:Nat} (h:R i j):∀ k,Wp R k i j
 | 0=>h
 | k+1 => .inl (zpW h k)
theorem zfR {R:Nat->Nat->Prop}:∀ {k m i j:Nat},m<k->Wp R k i m->Wp R k m j->Wp R k i j
 | 0,m,i,j,h,_,_=>absurd h (Nat.not_lt_zero _)
 | k+1,m,i,j,h,h1,h2=>by
  by_cases hm:m=k
  ·subst hm;have a:Wp R m i m:=by rcases h1 with h | ⟨h,_⟩ <;> exact h
   have b:Wp R m m j:=by rcases h2 with h | ⟨_,h⟩ <;> exact h
   exact .inr ⟨a,b⟩
  ·have hmk:m<k:=by omega
   rcases h1 with a | ⟨a1,a2⟩ <;> rcases h2 with c | ⟨c1,c2⟩
   ·exact .inl (zfR hmk a c)
   ·exact .inr ⟨zfR hmk a c1,c2⟩
   ·exact .inr ⟨a1,zfR hmk a2 c⟩
   ·exact .inr ⟨a1,c2⟩
theorem zs0 {R:Nat->Nat->Prop} {n:Nat} (hR:∀ a b,R a b->a<n/\b<n) {i j:Nat} (h:TC R i j):Wp R n i j:=by
 induction h with
 | one h=>exact zpW h n
 | step _ k ih=>exact zfR (hR _ _ k).1 ih (zpW k n)
section
variable {n:Nat} {a:RelD}
def relP (n:Nat) (r:RelD) (i j:Nat):Prop:=i<n/\hasM r i j=true
theorem zfo (h:RelOk n a):∀ i j,relP n a i j->i<n/\j<n:=fun i j hij=>⟨hij.1,(h.bit (by have:=h.le;have:=hij.1;omega) hij.2).2⟩
open Classical in
theorem acy_tc (h:RelOk n a):acyR a=true↔∀ i,¬ TC (relP n a) i i:=by
 have h48:=h.le;rw [zj2 h];have bk:∀ i,i<64->∀ j,((za3 a).to i).testBit j=(decide (j<n)&&hasM a j i):=fun i hi j=>zc8 h hi;have dom:∀ {i j},TC (relP n a) i j->i<n/\j<n:=fun {i j} ht=>by
  induction ht with
  | one k=>exact zfo h _ _ k
  | step _ k ih=>exact⟨ih.1,(zfo h _ _ k).2⟩
 constructor
 ·intro hf i hi;obtain⟨S,hS⟩:=nm (rowP n fun v=>decide (TC (relP n a) i v/\TC (relP n a) v i));have sb:∀ v,S.testBit v=true↔v<n/\TC (relP n a) i v/\TC (relP n a) v i:=fun v=>by
   rw [hS,zdm,bAT,dE,dE]
  have hii:=(sb i).2 ⟨(dom hi).1,hi,hi⟩;obtain⟨v,hv,h0⟩:=hf S (fun e=>by rw [e,Nat.zero_testBit] at hii;cases hii) (Nat.eq_of_testBit_eq fun j=>by
   rw [Nat.testBit_and]
   cases hb:S.testBit j with
   | false=>rfl
   | true =>
    have:=((sb j).1 hb).1;rw [zgb (by omega) (by omega) (by omega)];rw [Bool.true_and];exact decide_eq_true (by omega))
  have hv2:=zbT.1 hv;obtain⟨hvn,t1,t2⟩:=(sb v).1 hv2.2;have no:∀ u,relP n a u v->S.testBit u=true->False:=fun u hu hS2=>by
   have:=congrArg (fun s=>s.testBit u) h0;simp only [Nat.testBit_and,Nat.zero_testBit] at this;rw [hS2,bk v hv2.1,decide_eq_true hu.1,hu.2] at this
   cases this
  cases t1 with
  | one k=>exact no i k hii
  | step t k =>
   rename_i u;exact no u k ((sb u).2 ⟨k.1,t,.first k t2⟩)
 ·intro hno S hS he;refine Classical.byContradiction fun hn=>?_;have every:∀ v,v∈els S->∃ u,u∈els S/\relP n a u v:=fun v hv=>by
   have h1:¬ (za3 a).to v&&&S=0:=fun e=>hn ⟨v,hv,e⟩;obtain⟨u,hu⟩:=zje h1;rw [Nat.testBit_and,bAT,bk v (zbT.1 hv).1,bAT,dE] at hu;exact⟨u,zbT.2 ⟨by omega,hu.2⟩,hu.1.1,hu.1.2⟩
  have desc:∀ m v,v∈els S->cntQ (fun u=>decide (TC (relP n a) u v)) n=m->False:=fun m=>by
   induction m using Nat.strongRecOn with
   | _ m ih =>
    intro v hv hm;obtain⟨u,hu,huv⟩:=every v hv;refine ih (cntQ (fun w=>decide (TC (relP n a) w u)) n) ?_ u hu rfl;rw [<- hm];exact zhy (j:=u) (fun w _ hw=>decide_eq_true (.step (dT hw) huv)) huv.1 (decide_eq_false (hno u)) (decide_eq_true (.one huv))
  obtain⟨v,hv⟩:=zje hS;have hv64:v<64:=by
   have h2:=hv;rw [<- he,Nat.testBit_and,bAT] at h2;refine Nat.lt_of_not_le fun hge=>?_;rw [Nat.testBit_lt_two_pow (nL (zc9 n) (Nat.pow_le_pow_right (by decide) hge))] at h2
   cases h2.2
  exact desc _ v (zbT.2 ⟨hv64,hv⟩) rfl
theorem zsM (h:RelOk n a):acyR a=true↔∀ i,i<n->¬ Wp (relP n a) n i i:=by
 rw [acy_tc h];constructor
 ·exact fun h2 i _ hw=>h2 i (zma hw)
 ·intro h2 i ht;have hw:=zs0 (zfo h) ht;refine h2 i ?_ hw
  cases ht with
  | one k=>exact k.1
  | step t k=>exact (zfo h _ _ k).2
end
def zck (x:ExD) (a loc:Nat):Bool:=isW x a&&decide ((evA x a).l.toNat=loc)
def zlC (x:ExD) (loc:Nat):Nat:=cntQ (fun a=>zck x a loc) x.ev.length
def zhL (x:ExD) (loc a:Nat):Bool :=
 (decide (zb3 x.co a+zcl x.co a+1=zlC x loc)&&(!hasQ x.co a a&&((!decide (a=loc)||decide (zb3 x.co a=0))&&(!decide (zcl x.co a=0)||decide (x.mem loc=(evA x a).v))))) &&
  (List.range x.ev.length).all fun b=>(!(!decide (b=a)&&zck x b loc) || !(hasQ x.co a b == hasQ x.co b a))&&(List.range x.ev.length).all fun c => !(hasQ x.co a b&&hasQ x.co b c)||hasQ x.co a c
def zgp (x:ExD) (locs:Nat):Bool:=(List.range 6).all fun loc=>if locs<=loc then decide (x.mem loc=0) else (List.range x.ev.length).all fun a => !zck x a loc||zhL x loc a
section
variable {x:ExD}
abbrev sG (x:ExD) (l:Nat):List Nat:=zdW (keyC x) (zbe x l)
theorem zhI (l:Nat):(sG x l).Nodup:=by
 have:=zlv (x:=x) l;exact (List.reverse_perm _).nodup_iff.1 this
theorem zeT (l:Nat):zaL x l=(sG x l).reverse:=rfl
theorem zb2 {l a:Nat}:a∈zbe x l↔a<x.ev.length/\isW x a=true/\(evA x a).l.toNat=l:=by
 unfold zbe isW;rw [List.mem_filter,List.mem_range,bAT,dE,dE]
def resC (x:ExD):Nat->Nat->RelD×(Nat->UInt8)->RelD×(Nat->UInt8)
 | 0,_,p=>p
 | m+1,l,p=>resC x m (l+1) (zdo (zaL x l) p.1,upd p.2 l (zfP x.ev (zaL x l)))
theorem zib:∀ (m l:Nat) (p q:RelD×(Nat->UInt8)),coGo x m l p=some q↔(∀ k,l<=k->k<l+m->(zaL x k).headD 48=k)/\q=resC x m l p
 | 0,l,p,q=>⟨fun h=>⟨fun k h1 h2=>by omega,(Option.some.inj h).symm⟩,fun h=>by rw [h.2];rfl⟩
 | m+1,l,p,q=>by
  unfold coGo;by_cases hd:(zaL x l).headD 48=l
  ·rw [if_pos hd,zib m (l+1)];refine⟨fun h=>⟨fun k h1 h2=>?_,h.2⟩,fun h=>⟨fun k h1 h2=>h.1 k (by omega) (by omega),h.2⟩⟩;by_cases hk:k=l
   ·rw [hk];exact hd
   ·exact h.1 k (by omega) (by omega)
  ·rw [if_neg hd];exact⟨fun h=>(by cases h),fun h=>(hd (h.1 l (Nat.le_refl _) (by omega))).elim⟩
theorem zoR {l:Nat} {r:RelD} {i j:Nat}:hasM (zdo (zaL x l) r) i j=if i∈zbe x l then decide (j∈twl (sG x l) i) else hasM r i j:=by
 unfold hasM zdo;rw [zeT,List.reverse_reverse];show (zjK (sG x l) r.to 0 i).testBit j=_;rw [zhn _ _ _ (zhI l),Nat.zero_testBit,Bool.false_or];by_cases h:i∈zbe x l
 ·rw [if_pos h,if_pos (zaK.2 h)]
 ·rw [if_neg h,if_neg (fun h2=>h (zaK.1 h2))]
theorem zkm:∀ (m l:Nat) (p:RelD×(Nat->UInt8)),(resC x m l p).1.n=p.1.n/\(∀ i j,hasM (resC x m l p).1 i j=true↔(∃ k,l<=k/\k<l+m/\i∈zbe x k/\j∈twl (sG x k) i)\/((∀ k,l<=k->k<l+m->i ∉ zbe x k)/\hasM p.1 i j=true)) /\
  ∀ k,(resC x m l p).2 k=if l<=k/\k<l+m then zfP x.ev (zaL x k) else p.2 k
 | 0,l,p=>⟨rfl,fun i j=>⟨fun h => .inr ⟨fun k h1 h2=>by omega,h⟩,fun h=>by
   rcases h with ⟨k,h1,h2,_⟩ | h
   ·omega
   ·exact h.2⟩,fun k=>(if_neg (by omega)).symm⟩
 | m+1,l,p=>by
  obtain⟨h1,h2,h3⟩:=zkm m (l+1) (zdo (zaL x l) p.1,upd p.2 l (zfP x.ev (zaL x l)));refine⟨h1,fun i j=>?_,fun k=>?_⟩
  ·show hasM (resC x m (l+1) _).1 i j=true↔_;rw [h2,zoR];have uniq:∀ {k k'},i∈zbe x k->i∈zbe x k'->k=k':=fun a b=>(zb2.1 a).2.2.symm.trans (zb2.1 b).2.2;constructor
   ·rintro (⟨k,a1,a2,a3,a4⟩ | ⟨a1,a2⟩)
    ·exact .inl ⟨k,by omega,by omega,a3,a4⟩
    ·by_cases hi:i∈zbe x l
     ·rw [if_pos hi] at a2;exact .inl ⟨l,Nat.le_refl _,by omega,hi,dT a2⟩
     ·rw [if_neg hi] at a2;refine .inr ⟨fun k b1 b2=>?_,a2⟩;by_cases hk:k=l
      ·rw [hk];exact hi
      ·exact a1 k (by omega) (by omega)
   ·rintro (⟨k,a1,a2,a3,a4⟩ | ⟨a1,a2⟩)
    ·by_cases hk:k=l
     ·subst hk;refine .inr ⟨fun k' b1 b2 b3=>?_,by rw [if_pos a3];exact decide_eq_true a4⟩;have:=uniq a3 b3;omega
     ·exact .inl ⟨k,by omega,by omega,a3,a4⟩
    ·exact .inr ⟨fun k b1 b2=>a1 k (by omega) (by omega),by rw [if_neg (a1 l (Nat.le_refl _) (by omega))];exact a2⟩
  ·show (resC x m (l+1) _).2 k=_;rw [h3];by_cases hk:l+1<=k/\k<l+1+m
   ·rw [if_pos hk,if_pos (by omega)]
   ·rw [if_neg hk];by_cases hkl:k=l
    ·subst hkl;rw [if_pos (by omega)];show upd p.2 k _ k=_;exact za6 _ _ _
    ·rw [if_neg (by omega)];exact zcn _ _ hkl
theorem zjZ (hco:RelOk x.ev.length x.co) {locs:Nat}:zcO x locs=true↔(∀ k,k<locs->(zaL x k).headD 48=k)/\(∀ i j,i<48->(hasM x.co i j=true↔∃ k,k<locs/\i∈zbe x k/\j∈twl (sG x k) i))/\∀ k,k<6->x.mem k=if k<locs then zfP x.ev (zaL x k) else 0:=by
 obtain⟨p0,hp0⟩:∃ p0:RelD×(Nat->UInt8),p0=(⟨x.ev.length,fun _=>0⟩,fun _=>0):=⟨_,rfl⟩;obtain⟨r1,r2,r3⟩:=zkm (x:=x) locs 0 p0;have z:∀ i j,hasM p0.1 i j=false:=fun i j=>by rw [hp0];exact Nat.zero_testBit _
 have r2':∀ i j,hasM (resC x locs 0 p0).1 i j=true↔∃ k,k<locs/\i∈zbe x k/\j∈twl (sG x k) i:=fun i j=>by
  rw [r2];constructor
  ·rintro (⟨k,_,h2,h3⟩ | ⟨_,h⟩)
   ·exact⟨k,by omega,h3⟩
   ·rw [z] at h;cases h
  ·rintro⟨k,h2,h3⟩;exact .inl ⟨k,Nat.zero_le _,by omega,h3⟩
 have r3':∀ k,(resC x locs 0 p0).2 k=if k<locs then zfP x.ev (zaL x k) else 0:=fun k=>by
  rw [r3];by_cases hk:k<locs
  ·rw [if_pos (by omega),if_pos hk]
  ·rw [if_neg (by omega),if_neg hk,hp0]
 have e:zcO x locs=match coGo x locs 0 p0 with
  | none=>false
  | some p=>zcv p.1 x.co&&(List.range 6).all fun l=>decide (p.2 l=x.mem l):=by rw [hp0];rfl
 rw [e];by_cases hd:∀ k,k<locs->(zaL x k).headD 48=k
 ·rw [(zib locs 0 p0 (resC x locs 0 p0)).2 ⟨fun k _ h=>hd k (by omega),rfl⟩];dsimp only;rw [bAT,List.all_eq_true];constructor
  ·rintro⟨h1,h2⟩;refine⟨hd,fun i j hi=>?_,fun k hk=>?_⟩
   ·rw [<- zcd h1 hi];exact r2' i j
   ·rw [<- r3'];exact (dT (h2 k (List.mem_range.2 hk))).symm
  ·rintro⟨_,h2,h3⟩;refine⟨?_,fun k hk=>decide_eq_true (by rw [r3'];exact (h3 k (List.mem_range.1 hk)).symm)⟩;unfold zcv;rw [bAT,dE,List.all_eq_true];refine⟨by rw [r1,hp0];exact hco.n.symm,fun i hi=>decide_eq_true (Nat.eq_of_testBit_eq fun j=>?_)⟩;have:=(r2' i j).trans (h2 i j (List.mem_range.1 hi)).symm;exact Bool.eq_iff_iff.2 this
 ·cases hg:coGo x locs 0 p0 with
  | none=>exact⟨fun h=>(by cases h),fun h=>(hd h.1).elim⟩
  | some q=>exact (hd fun k hk=>((zib locs 0 p0 q).1 hg).1 k (Nat.zero_le _) (by omega)).elim
theorem ze1 {a loc:Nat} (ha:a<x.ev.length):zck x a loc=true↔a∈zbe x loc:=by
 unfold zck;rw [zb2,bAT,dE];exact⟨fun h=>⟨ha,h⟩,fun h=>h.2⟩
theorem znb {s:List Nat} {d:Nat} (h:s≠[]):∃ A z,s=A++[z]/\s.reverse.headD d=z:=by
 cases hr:s.reverse with
 | nil=>exact (h (List.reverse_eq_nil_iff.1 hr)).elim
 | cons z r=>exact⟨r.reverse,z,by rw [<- List.reverse_reverse s,hr,List.reverse_cons],rfl⟩
theorem zmS (hco:RelOk x.ev.length x.co) {locs:Nat} (hl6:locs<=6) (hwl:∀ i,i<x.ev.length->isW x i=true->(evA x i).l.toNat<locs) (hin:∀ k,k<locs->k∈zbe x k) :
  zcO x locs=true↔(∀ a b,a<x.ev.length->b<x.ev.length->hasM x.co a b=true->isW x a=true/\isW x b=true/\(evA x a).l=(evA x b).l)/\zgp x locs=true:=by
 have h48:=hco.le;have hq:∀ {a b},a<x.ev.length->hasQ x.co a b=hasM x.co a b:=fun {a b} ha=>zeG hco (by omega);have hb:∀ {a b},a<x.ev.length->hasM x.co a b=true->b<x.ev.length:=fun {a b} ha h=>(hco.bit (by omega) h).2;have into0:∀ {a},zb3 x.co a=0↔∀ b,b<x.ev.length->hasM x.co b a=false:=fun {a}=>by
  unfold zb3;rw [hco.nat];constructor
  ·intro h b hb2
   cases hc:hasM x.co b a with
   | false=>rfl
   | true =>
    have:=zfC (f:=fun b=>hasQ x.co b a).2 ⟨b,hb2,by rw [hq hb2];exact hc⟩;omega
  ·intro h;exact zfc fun b hb2=>by rw [hq hb2];exact h b hb2
 have from0:∀ {a},a<x.ev.length->(zcl x.co a=0↔∀ b,hasM x.co a b=false):=fun {a} ha=>by
  unfold zcl;rw [hco.nat];constructor
  ·intro h b
   cases hc:hasM x.co a b with
   | false=>rfl
   | true =>
    have:=zfC (f:=fun b=>hasQ x.co a b).2 ⟨b,hb ha hc,by rw [hq ha];exact hc⟩;omega
  ·intro h;exact zfc fun b hb2=>by rw [hq ha];exact h b
 rw [zjZ hco];constructor
 ·rintro⟨h1,h2,h3⟩;have uniq:∀ {a k k'},a∈zbe x k->a∈zbe x k'->k=k':=fun a b=>(zb2.1 a).2.2.symm.trans (zb2.1 b).2.2;refine⟨fun a b ha hb2 hab=>?_,?_⟩
  ·obtain⟨k,hk,ha2,hb3⟩:=(h2 a b (by omega)).1 hab;have m1:=zb2.1 ha2;have m2:=zb2.1 (zaK.1 (zcs hb3).1);exact⟨m1.2.1,m2.2.1,UInt8.toNat_inj.1 (m1.2.2.trans m2.2.2.symm)⟩
  ·unfold zgp;rw [List.all_eq_true];intro loc hloc;have hloc:=List.mem_range.1 hloc;by_cases hll:locs<=loc
   ·rw [if_pos hll,h3 loc hloc,if_neg (by omega)];rfl
   rw [if_neg hll,List.all_eq_true];intro a ha;have ha:=List.mem_range.1 ha;rw [Bool.or_eq_true,Bool.not_eq_true']
   cases hm:zck x a loc with
   | false=>exact .inl rfl
   | true =>
    right;have hM:=(ze1 ha).1 hm;have hs:=zaK (key:=keyC x).2 hM;have out:∀ b,hasM x.co a b=true↔b∈twl (sG x loc) a:=fun b=>by
     rw [h2 a b (by omega)];exact⟨fun ⟨k,_,hk2,hk3⟩=>by rw [uniq hM hk2];exact hk3,fun h=>⟨loc,by omega,hM,h⟩⟩
    have inn:∀ b,b<x.ev.length->(hasM x.co b a=true↔b∈zbe x loc/\a∈twl (sG x loc) b):=fun b hb2=>by
     rw [h2 b a (by omega)];constructor
     ·rintro⟨k,_,hk2,hk3⟩;have:=uniq (zaK.1 (zcs hk3).1) hM;rw [<- this];exact⟨hk2,hk3⟩
     ·rintro⟨hk2,hk3⟩;exact⟨loc,by omega,hk2,hk3⟩
    unfold zhL;simp only [bAT];refine⟨⟨?_,?_,?_,?_⟩,?_⟩
    ·refine decide_eq_true ?_;have dis:∀ b,b<x.ev.length->hasQ x.co b a=true->hasQ x.co a b=true->False:=fun b hb2 c1 c2=>by
      rw [hq hb2] at c1;rw [hq ha] at c2;have d1:=(inn b hb2).1 c1;have d2:=(out b).1 c2;exact ((zds hs (zaK.2 d1.1) (fun e=>(zcs d2).2 e.symm)).1 d2) d1.2
     have e1:=zic (f:=fun b=>hasQ x.co b a) (g:=fun b=>hasQ x.co a b) (n:=x.ev.length) dis;have e2:cntQ (fun i=>hasQ x.co i a||hasQ x.co a i) x.ev.length=cntQ (fun b=>zck x b loc && !decide (b=a)) x.ev.length:=zgX fun b hb2=>by
      rw [Bool.eq_iff_iff,Bool.or_eq_true,bAT,ze1 hb2,hq hb2,hq ha,inn b hb2,out b,Bool.not_eq_true',decide_eq_false_iff_not];constructor
      ·rintro (⟨c1,c2⟩ | c)
       ·exact⟨c1,fun e=>(zcs c2).2 e.symm⟩
       ·exact⟨zaK.1 (zcs c).1,(zcs c).2⟩
      ·rintro⟨c1,c2⟩;by_cases c:b∈twl (sG x loc) a
       ·exact .inr c
       ·refine .inl ⟨c1,?_⟩;refine Classical.byContradiction fun hn=>c ((zds hs (zaK.2 c1) (fun e=>c2 e.symm)).2 hn)
     have e3:=zic (f:=fun b=>zck x b loc && !decide (b=a)) (g:=fun b=>decide (b=a)) (n:=x.ev.length) fun b _ c1 c2=>by
      rw [bAT,c2] at c1;exact absurd c1.2 (by decide)
     rw [znQ ha] at e3;have e4:cntQ (fun i=>(zck x i loc && !decide (i=a))||decide (i=a)) x.ev.length=zlC x loc:=zgX fun b hb2=>by
      by_cases e:b=a
      ·rw [e,hm,decide_eq_true rfl];rfl
      ·rw [decide_eq_false e,Bool.or_false];simp
     unfold zb3 zcl;rw [hco.nat,e1,e2,<- e4,<- e3]
    ·rw [Bool.not_eq_true',hq ha]
     cases hc:hasM x.co a a with
     | false=>rfl
     | true=>exact ((zcs ((out a).1 hc)).2 rfl).elim
    ·rw [Bool.or_eq_true,Bool.not_eq_true'];by_cases hal:a=loc
     ·right;refine decide_eq_true (into0.2 fun b hb2=>?_)
      cases hc:hasM x.co b a with
      | false=>rfl
      | true =>
       obtain⟨c1,c2⟩:=(inn b hb2).1 hc;have hne:sG x loc≠[]:=List.ne_nil_of_mem hs;obtain⟨A,z,hA,hz⟩:=znb (d:=48) hne;have hz2:z=a:=by
        have:=h1 loc (by omega);rw [zeT] at this;rw [<- hz,this,hal]
       rw [hz2] at hA;have hnd:=zhI (x:=x) loc;rw [hA] at hnd;have haA:a ∉ A:=fun h=>by
        have:=(List.nodup_append.1 hnd).2.2 a h a List.mem_cons_self;exact this rfl
       have hba:b≠a:=fun e=>(zcs c2).2 e.symm;have hbA:b∈A:=by
        have:=zaK (key:=keyC x).2 c1;rw [show zdW (keyC x) (zbe x loc)=A++[a] from hA,List.mem_append] at this;rcases this with h | h
        ·exact h
        ·exact (hba (List.mem_singleton.1 h)).elim
       have:b∈twl (sG x loc) a:=(by rw [hA,zkd haA];exact hbA);exact ((zds hs (zaK.2 c1) (fun e=>hba e.symm)).1 this c2).elim
     ·exact .inl (decide_eq_false hal)
    ·rw [Bool.or_eq_true,Bool.not_eq_true'];by_cases hf:zcl x.co a=0
     ·right;refine decide_eq_true ?_;have no:=(from0 ha).1 hf;rw [h3 loc hloc,if_pos (by omega)];show (x.ev.getD ((zaL x loc).getLastD 0) ev0).v=_;have hh:(zaL x loc).getLastD 0=a:=by
       rw [zeT]
       cases hsG:sG x loc with
       | nil=>rw [show zdW (keyC x) (zbe x loc)=[] from hsG] at hs;cases hs
       | cons z s =>
        have:z=a:=Classical.byContradiction fun hz=>by
         have:=no z;rw [Bool.eq_false_iff] at this;refine this ((out z).2 ?_);rw [hsG,zcS,if_neg hz];exact List.mem_cons_self
        rw [this];simp
      rw [hh];rfl
     ·exact .inl (decide_eq_false hf)
    ·rw [List.all_eq_true];intro b hb2;have hb2:=List.mem_range.1 hb2;rw [bAT,List.all_eq_true];refine⟨?_,fun c hc=>?_⟩
     ·rw [Bool.or_eq_true,Bool.not_eq_true',Bool.not_eq_true',beq_eq_false_iff_ne];by_cases hbm:(!decide (b=a)&&zck x b loc)=true
      ·right;rw [bAT,Bool.not_eq_true',decide_eq_false_iff_not,ze1 hb2] at hbm;rw [hq ha,hq hb2];intro e;have t:=zds hs (zaK.2 hbm.2) (fun e=>hbm.1 e.symm);by_cases c:b∈twl (sG x loc) a
       ·have c1:=(out b).2 c;rw [e] at c1;exact t.1 c ((inn b hb2).1 c1).2
       ·have c2:a∈twl (sG x loc) b:=Classical.byContradiction fun hn=>c (t.2 hn);have c3:=(inn b hb2).2 ⟨hbm.2,c2⟩;rw [<- e] at c3;exact c ((out b).1 c3)
      ·exact .inl (by simpa using hbm)
     ·have hc:=List.mem_range.1 hc;rw [Bool.or_eq_true,Bool.not_eq_true'];by_cases hh:(hasQ x.co a b&&hasQ x.co b c)=true
      ·right;rw [bAT,hq ha,hq hb2] at hh;rw [hq ha,out c];have c1:=(out b).1 hh.1;obtain⟨k,_,k2,k3⟩:=(h2 b c (by omega)).1 hh.2;have:=uniq (zaK.1 (zcs c1).1) k2;rw [<- this] at k3;exact zin c1 k3
      ·exact .inl (by simpa using hh)
 ·rintro⟨hpc,hpl⟩;unfold zgp at hpl;rw [List.all_eq_true] at hpl;have ord:∀ loc,loc<locs->∀ a,a∈zbe x loc->(a=loc->∀ b,b<x.ev.length->hasM x.co b a=false)/\((∀ b,hasM x.co a b=false)->x.mem loc=(evA x a).v)/\hasM x.co a a=false/\(∀ b,b∈zbe x loc->b≠a->hasM x.co a b≠hasM x.co b a)/\∀ b c,hasM x.co a b=true->hasM x.co b c=true->hasM x.co a c=true:=fun loc hloc a hM=>by
   have ha:=(zb2.1 hM).1;have h1:=hpl loc (List.mem_range.2 (by omega));rw [if_neg (by omega),List.all_eq_true] at h1;have h2:=h1 a (List.mem_range.2 ha);rw [(ze1 ha).2 hM,Bool.not_true,Bool.false_or] at h2;unfold zhL at h2;simp only [bAT,Bool.or_eq_true,Bool.not_eq_true',dE,decide_eq_false_iff_not,List.all_eq_true,List.mem_range] at h2;obtain⟨⟨_,c2,c3,c4⟩,c5⟩:=h2;refine⟨fun e b hb2=>?_,fun hn=>?_,by rw [<- hq ha];exact c2,fun b hbM hne=>?_,fun b c h3 h4=>?_⟩
   ·rcases c3 with c3 | c3
    ·exact (c3 e).elim
    ·exact into0.1 c3 b hb2
   ·rcases c4 with c4 | c4
    ·exact (c4 ((from0 ha).2 hn)).elim
    ·exact c4
   ·have hb2:=(zb2.1 hbM).1;have:=(c5 b hb2).1;rcases this with h | h
    ·rw [decide_eq_false hne,(ze1 hb2).2 hbM] at h;exact absurd h (by decide)
    ·rw [beq_eq_false_iff_ne,hq ha,hq hb2] at h;exact h
   ·have hb2:=hb ha h3;have hc2:=hb hb2 h4;have:=(c5 b hb2).2 c hc2;rw [hq ha,hq hb2,hq ha,h3,h4] at this;rcases this with h | h
    ·exact absurd h (by decide)
    ·exact h
  have sameL:∀ {loc a b},a∈zbe x loc->hasM x.co a b=true->b∈zbe x loc:=fun {loc a b} hM h=>by
   have ha:=zb2.1 hM;have hb2:=hb ha.1 h;obtain⟨_,c2,c3⟩:=hpc a b ha.1 hb2 h;exact zb2.2 ⟨hb2,c2,by rw [<- c3];exact ha.2.2⟩
  have kmono:∀ {loc a b},loc<locs->a∈zbe x loc->hasM x.co a b=true->keyC x b<keyC x a:=fun {loc a b} hloc hM h=>by
   have hbM:=sameL hM h;have ob:=ord loc hloc b hbM;have oa:=ord loc hloc a hM;have hb2:=(zb2.1 hbM).1;show lenS (x.co.to b)<lenS (x.co.to a);rw [zkD,zkD];exact zhy (j:=b) (fun c _ hc=>oa.2.2.2.2 b c h hc) (by omega) ob.2.2.1 h
  have total:∀ {loc a b},loc<locs->a∈zbe x loc->b∈zbe x loc->a≠b->(hasM x.co a b=true/\keyC x b<keyC x a)\/(hasM x.co b a=true/\keyC x a<keyC x b):=fun {loc a b} hloc hM hbM hne=>by
   have:=(ord loc hloc a hM).2.2.2.1 b hbM (fun e=>hne e.symm)
   cases c1:hasM x.co a b with
   | true=>exact .inl ⟨rfl,kmono hloc hM c1⟩
   | false =>
    cases c2:hasM x.co b a with
    | true=>exact .inr ⟨rfl,kmono hloc hbM c2⟩
    | false=>exact (this (c1.trans c2.symm)).elim
  have strict:∀ loc,loc<locs->(sG x loc).Pairwise fun a b=>keyC x a<keyC x b:=fun loc hloc =>
   zgq (ziu _ _) (zhI loc) fun a b ha hb2 hne=>by
    rcases total hloc (zaK.1 ha) (zaK.1 hb2) hne with h | h <;> omega
  refine⟨fun loc hloc=>?_,fun i j hi=>?_,fun loc hloc6=>?_⟩
  ·have hL:=hin loc hloc;have hs:=zaK (key:=keyC x).2 hL;obtain⟨A,z,hA,hz⟩:=znb (d:=48) (List.ne_nil_of_mem hs);rw [zeT];refine hz.trans (Classical.byContradiction fun hne=>?_);have hzm:z∈zbe x loc:=zaK.1 (by rw [show zdW (keyC x) (zbe x loc)=A++[z] from hA];simp);have hlA:loc∈A:=by
    rw [show zdW (keyC x) (zbe x loc)=A++[z] from hA,List.mem_append] at hs;rcases hs with h | h
    ·exact h
    ·exact (hne (List.mem_singleton.1 h).symm).elim
   have k1:keyC x loc<keyC x z:=by
    have:=strict loc hloc;rw [show sG x loc=A++[z] from hA,List.pairwise_append] at this;exact this.2.2 loc hlA z List.mem_cons_self
   have:=(ord loc hloc loc hL).1 rfl z (zb2.1 hzm).1;rcases total hloc hL hzm (fun e=>hne e.symm) with h | h
   ·omega
   ·rw [h.1] at this;cases this
  ·constructor
   ·intro h;have hi2:i<x.ev.length:=(hco.bit hi h).1;obtain⟨w1,w2,w3⟩:=hpc i j hi2 (hb hi2 h) h;have hloc:=hwl i hi2 w1;have hM:i∈zbe x (evA x i).l.toNat:=zb2.2 ⟨hi2,w1,rfl⟩;exact⟨_,hloc,hM,(zmi (strict _ hloc) (zaK.2 hM) (zaK.2 (sameL hM h))).2 (kmono hloc hM h)⟩
   ·rintro⟨k,hk,hM,ht⟩;have hjM:=zaK.1 (zcs ht).1;have:=(zmi (strict k hk) (zaK.2 hM) (zaK.2 hjM)).1 ht;rcases total hk hM hjM (fun e=>(zcs ht).2 e.symm) with h | h
    ·exact h.1
    ·omega
  ·by_cases hloc:loc<locs
   ·rw [if_pos hloc];have hL:=hin loc hloc;have hs:=zaK (key:=keyC x).2 hL;show _=(x.ev.getD ((zaL x loc).getLastD 0) ev0).v;rw [zeT];have st:=strict loc hloc
    cases hsG:sG x loc with
    | nil=>rw [show zdW (keyC x) (zbe x loc)=[] from hsG] at hs;cases hs
    | cons z s =>
     have hzm:z∈zbe x loc:=zaK.1 (show z∈sG x loc by rw [hsG];exact List.mem_cons_self);have e:(z::s).reverse.getLastD 0=z:=(by simp);rw [e];refine (ord loc hloc z hzm).2.1 fun b=>?_
     cases hc:hasM x.co z b with
     | false=>rfl
     | true =>
      have hbM:=sameL hzm hc;have k1:=kmono hloc hzm hc;have hbs:b∈z::s:=(by rw [<- hsG];exact zaK.2 hbM);rcases List.mem_cons.1 hbs with rfl | hbs
      ·omega
      ·rw [hsG] at st;have:=(List.pairwise_cons.1 st).1 b hbs;omega
   ·have h1:=hpl loc (List.mem_range.2 hloc6);rw [if_pos (by omega)] at h1;rw [if_neg hloc];exact dT h1
end
def zeo (n:Nat) (f:Nat->Nat->Bool):Bool:=(List.range n).all fun a=>(List.range n).all fun b=>f a b
def zdU (x:ExD):Bool:=match zbU x.ev with
 | none=>false
 | some locs=>za9 x&&(zeo x.ev.length (zgu x)&&((List.range x.ev.length).all (zeJ x)&&zgp x locs))
theorem zn4 {n:Nat} {f:Nat->Nat->Bool}:zeo n f=true↔∀ a b,a<n->b<n->f a b=true:=by
 unfold zeo;simp only [List.all_eq_true,List.mem_range];exact⟨fun h a b ha hb=>h a ha b hb,fun h a ha b hb=>h a b ha hb⟩
section
variable {x:ExD}
theorem zq0:∀ (ev:List Ev) (locs i:Nat) (t:Int) (n:Nat),evGo locs i ev t n=true->0<=t->∀ j,j<ev.length->(i+j<locs->(ev.getD j ev0).th = -1)/\(locs<=i+j->0<=(ev.getD j ev0).th)/\((ev.getD j ev0).k=2->i+j<locs/\(ev.getD j ev0).l.toNat=(UInt8.ofNat (i+j)).toNat\/(ev.getD j ev0).l.toNat<locs)
 | [],_,_,_,_,_,_,j,hj=>by simp at hj
 | e::ev,locs,i,t,n,h,ht,j,hj=>by
  unfold evGo at h;by_cases hi:i<locs
  ·rw [if_pos hi] at h;by_cases he:e=⟨-1,2,UInt8.ofNat i,e.v,0,0,0⟩
   ·rw [if_pos he] at h
    cases j with
    | zero =>
     have e1:e.th = -1:=(by rw [he]);have e2:e.l=UInt8.ofNat i:=(by rw [he]);exact⟨fun _=>e1,fun h2=>by omega,fun _ => .inl ⟨hi,by show e.l.toNat=_;rw [e2];rfl⟩⟩
    | succ j =>
     have:=zq0 ev locs (i+1) t n h ht j (by simpa using hj);rw [show i+1+j=i+(j+1) by omega] at this;exact this
   ·rw [if_neg he] at h;cases h
  ·rw [if_neg hi] at h;by_cases hb:e.th<t\/4<=e.th
   ·rw [if_pos hb] at h;cases h
   ·rw [if_neg hb] at h;dsimp only at h;obtain⟨t',ht'⟩:∃ t',t'=if t<e.th then e.th else t:=⟨_,rfl⟩
    have h0:0<=t':=(by rw [ht'];split <;> omega);obtain⟨n',hn'⟩:∃ n',n'=if t<e.th then 0 else n:=⟨_,rfl⟩
    rw [<- ht',<- hn'] at h;have go:∀ {m},evGo locs (i+1) ev t' m=true->(e.k=2->e.l.toNat<locs)->∀ j,j<(e::ev).length->(i+j<locs->((e::ev).getD j ev0).th = -1)/\(locs<=i+j->0<=((e::ev).getD j ev0).th)/\(((e::ev).getD j ev0).k=2->i+j<locs/\((e::ev).getD j ev0).l.toNat=(UInt8.ofNat (i+j)).toNat\/((e::ev).getD j ev0).l.toNat<locs):=fun {m} h2 hl j hj=>by
     cases j with
     | zero=>exact⟨fun h3=>by omega,fun _=>by show 0<=e.th;omega,fun h3 => .inr (hl h3)⟩
     | succ j =>
      have:=zq0 ev locs (i+1) t' m h2 h0 j (by simpa using hj);rw [show i+1+j=i+(j+1) by omega] at this;exact this
    by_cases hp:e.p.toNat=n'
    ·rw [if_pos hp] at h;by_cases k12:e.k=1\/e.k=2
     ·rw [if_pos k12] at h;by_cases hl:e.l.toNat<locs
      ·rw [if_pos hl] at h;exact go h (fun _=>hl) j hj
      ·rw [if_neg hl] at h;cases h
     ·rw [if_neg k12] at h;by_cases k3:e.k=3
      ·rw [if_pos k3] at h;by_cases hz:e.l=0/\e.v=0
       ·rw [if_pos hz] at h;exact go h (fun h2=>(k12 (.inr h2)).elim) j hj
       ·rw [if_neg hz] at h;cases h
      ·rw [if_neg k3] at h;cases h
    ·rw [if_neg hp] at h;cases h
theorem zif {a b:Bool}:(!a||b)=true↔(a=true->b=true):=by cases a <;> cases b <;> simp
theorem zmE (hw:WX x):za5 x=zdU x:=by
 unfold zdU
 cases hh:zbU x.ev with
 | none =>
  dsimp only
  cases hr:za5 x with
  | false=>rfl
  | true =>
   unfold za5 at hr;simp only [bAT,dE] at hr;obtain⟨h1,h2,h3,h4,_⟩:=hr;rw [(zej x.ev (zaJ x.ev)).2 ⟨rfl,h1,h2,h3,h4⟩] at hh
   cases hh
 | some locs =>
  dsimp only;obtain⟨hl,h48,h1,h6,hev⟩:=(zej x.ev locs).1 hh;have hX:za5 x=(za9 x&&(zcv x.po (poR x.ev)&&(zc5 x&&(zcO x locs&&zcF x)))):=by
   unfold za5;rw [<- hl,decide_eq_true h48,decide_eq_true h1,decide_eq_true h6,hev];rfl
  rw [hX]
  cases hrels:za9 x with
  | false=>rfl
  | true =>
   rw [Bool.true_and,Bool.true_and];have hrel:=hrels;unfold za9 at hrel;simp only [List.all_cons,List.all_nil,Bool.and_true,bAT,dE] at hrel;obtain⟨a1,a2,a3,a4,a5,a6⟩:=hrel;have rpo:RelOk x.ev.length x.po:=⟨a1.1,a1.2,hw.po⟩;have rrf:RelOk x.ev.length x.rf:=⟨a2.1,a2.2,hw.rf⟩;have rco:RelOk x.ev.length x.co:=⟨a3.1,a3.2,hw.co⟩;have rdt:RelOk x.ev.length x.dt:=⟨a4.1,a4.2,hw.dt⟩;have rct:RelOk x.ev.length x.ct:=⟨a5.1,a5.2,hw.ct⟩;have rrm:RelOk x.ev.length x.rm:=⟨a6.1,a6.2,hw.rm⟩;obtain⟨n,hn⟩:=nm (x.ev.length);have hq:∀ {r:RelD},RelOk x.ev.length r->∀ {a b},a<x.ev.length->hasQ r a b=hasM r a b:=fun {r} h {a b} ha=>zeG h (by omega);have hlen:locs<=x.ev.length:=by
    rw [hl];unfold zaJ;exact (List.takeWhile_sublist _).length_le
   have thv:=zq0 x.ev locs 0 0 0 hev (Int.le_refl _);have hth:∀ a,a<x.ev.length->((evA x a).th ≠ -1↔0<=(evA x a).th):=fun a ha=>by
    obtain⟨b1,b2,_⟩:=thv a ha;unfold evA;by_cases hc:a<locs
    ·have:=b1 (by omega);omega
    ·have:=b2 (by omega);omega
   have po_bit:∀ i j,i<x.ev.length->(hasM (poR x.ev) i j=true↔(evA x i).th ≠ -1/\i<j/\j<x.ev.length/\(evA x j).th=(evA x i).th):=fun i j hi=>by
    have hg:x.ev[i]?=some (evA x i):=by
     rw [gE hi];unfold evA;rw [gDe,gE hi];rfl
    show (zer x.ev i).testBit j=true↔_;unfold zer;rw [hg];dsimp only;by_cases ht:(evA x i).th = -1
    ·rw [if_pos ht];simp [ht]
    ·rw [if_neg ht,zn9,Nat.zero_testBit];have hd:∀ m,(x.ev.drop (i+1)).getD m ev0=evA x (i+1+m):=fun m=>by
      unfold evA;rw [gDe,gDe,List.getElem?_drop]
     constructor
     ·rintro (h | ⟨m,b1,b2,b3⟩)
      ·cases h
      ·rw [hd,<- b2] at b3;rw [List.length_drop] at b1;exact⟨ht,by omega,by omega,b3⟩
     ·rintro⟨_,b1,b2,b3⟩;refine .inr ⟨j-(i+1),by rw [List.length_drop];omega,by omega,?_⟩;rw [hd,show i+1+(j-(i+1))=j by omega];exact b3
   have poE:zcv x.po (poR x.ev)=true↔∀ a b,a<x.ev.length->b<x.ev.length->hasQ x.po a b=poQ x a b:=by
    have e:∀ a b,a<x.ev.length->b<x.ev.length->(hasM (poR x.ev) a b=true↔poQ x a b=true):=fun a b ha hb=>by
     rw [po_bit a b ha];unfold poQ;rw [bAT,bAT,dE,dE,dE,<- hth a ha];exact⟨fun h=>⟨h.1,h.2.2.2.symm,h.2.1⟩,fun h=>⟨h.1,h.2.2,hb,h.2.1.symm⟩⟩
    constructor
    ·intro h a b ha hb;rw [hq rpo ha,zcd h (by omega)];exact Bool.eq_iff_iff.2 (e a b ha hb)
    ·intro h;unfold zcv;rw [bAT,dE,List.all_eq_true];refine⟨a1.1,fun i hi=>decide_eq_true (Nat.eq_of_testBit_eq fun j=>?_)⟩;have hi:=List.mem_range.1 hi;show hasM x.po i j=hasM (poR x.ev) i j;by_cases hin:i<x.ev.length
     ·by_cases hjn:j<x.ev.length
      ·rw [<- hq rpo hin,h i j hin hjn];exact (Bool.eq_iff_iff.2 (e i j hin hjn)).symm
      ·have c1:hasM x.po i j=false:=by
        cases hc:hasM x.po i j with
        | false=>rfl
        | true=>exact (hjn (rpo.bit hi hc).2).elim
       have c2:hasM (poR x.ev) i j=false:=by
        cases hc:hasM (poR x.ev) i j with
        | false=>rfl
        | true=>exact (hjn ((po_bit i j hin).1 hc).2.2.1).elim
       rw [c1,c2]
     ·have c1:hasM x.po i j=false:=by
       cases hc:hasM x.po i j with
       | false=>rfl
       | true=>exact (hin (rpo.bit hi hc).1).elim
      have c2:hasM (poR x.ev) i j=false:=by
       show (zer x.ev i).testBit j=false;unfold zer;rw [List.getElem?_eq_none (by omega)];exact Nat.zero_testBit _
      rw [c1,c2]
   have rfE:=zrS (x:=x) rrf;have hwl:∀ i,i<x.ev.length->isW x i=true->(evA x i).l.toNat<locs:=fun i hi hW=>by
    rcases (thv i hi).2.2 (dT hW) with ⟨b1,b2⟩ | b
    ·unfold evA;rw [b2,Nat.zero_add,UInt8.toNat_ofNat',Nat.mod_eq_of_lt (by omega)];omega
    ·exact b
   have hin:∀ k,k<locs->k∈zbe x k:=fun k hk=>by
    obtain⟨v,hv⟩:=zf4 x.ev 0 0 0 hev k (by omega) (by omega);have h2:evA x k=⟨-1,2,UInt8.ofNat (0+k),v,0,0,0⟩:=hv;refine zb2.2 ⟨by omega,by unfold isW;rw [h2];rfl,?_⟩;rw [h2];show (UInt8.ofNat (0+k)).toNat=k;rw [Nat.zero_add,UInt8.toNat_ofNat'];exact Nat.mod_eq_of_lt (by omega)
   have coE:=zmS rco h6 hwl hin;have depE:=zkQ (x:=x) h48 rpo rdt rct rrm x.ev.length 0 0 (Nat.zero_add _);rw [List.drop_zero] at depE;have depD:zcF x=zfb x (zc0 x) 0 x.ev 0:=rfl;have sl:∀ a b,(evA x a).l=(evA x b).l↔zeq x a b=true:=fun a b=>(decide_eq_true_iff).symm;rw [Bool.eq_iff_iff];simp only [bAT];rw [poE,rfE,coE,depD,depE,zn4,List.all_eq_true];constructor
   ·rintro⟨p1,⟨r1,r2⟩,⟨c1,c2⟩,d1,d2,d3⟩;refine⟨fun a b ha hb=>?_,fun a ha=>?_,c2⟩
    ·have e1:poQ x a b=hasM x.po a b:=(by rw [<- p1 a b ha hb,hq rpo ha]);unfold zgu;simp only [bAT,zif,beq_iff_eq];rw [hq rrf ha,hq rco ha,hq rdt ha,hq rct ha,hq rrm ha,e1];have D:=d1 a (Nat.zero_le _) ha;refine⟨by rw [hq rpo ha],fun h=>?_,fun h=>?_,fun h=>?_,fun h=>?_,fun h=>?_⟩
     ·obtain⟨b1,b2,b3,b4⟩:=r1 a b ha hb h;exact⟨b1,b2,(sl a b).1 b3,decide_eq_true b4⟩
     ·obtain⟨b1,b2,b3⟩:=c1 a b ha hb h;exact⟨b1,b2,(sl a b).1 b3⟩
     ·obtain⟨b1,b2⟩:=D.p b (.inl h);exact⟨b2,b1,D.w b (.inl h)⟩
     ·obtain⟨b1,b2⟩:=D.p b (.inr (.inl h));exact⟨b2,b1⟩
     ·obtain⟨b1,b2⟩:=D.p b (.inr (.inr h));exact⟨b2,b1,D.w b (.inr h),(sl a b).1 (D.l b h).symm⟩
    ·have ha:=List.mem_range.1 ha;unfold zeJ;simp only [bAT,zif,dE];refine⟨fun h=>(zkG rrf ha).2 (r2 a ha h),(znl rrm ha).2 fun i j _ _ h1 h2=>(d1 a (Nat.zero_le _) ha).u i j h1 h2,(zng rrm ha).2 fun i j hi hj h1 h2=>?_⟩;rcases Nat.lt_trichotomy i j with h | h | h
     ·exact (d3 i j a (Nat.zero_le _) h hj h1 h2).elim
     ·exact h
     ·exact (d3 j i a (Nat.zero_le _) h hi h2 h1).elim
   ·rintro⟨p,cn,pl⟩;have P:∀ a b,a<x.ev.length->b<x.ev.length->hasQ x.po a b=poQ x a b/\(hasM x.rf a b=true->isW x a=true/\isR x b=true/\zeq x a b=true/\(evA x a).v=(evA x b).v)/\(hasM x.co a b=true->isW x a=true/\isW x b=true/\zeq x a b=true) /\
      (hasM x.dt a b=true->poQ x a b=true/\isR x a=true/\isW x b=true)/\(hasM x.ct a b=true->poQ x a b=true/\isR x a=true)/\(hasM x.rm a b=true->poQ x a b=true/\isR x a=true/\isW x b=true/\zeq x a b=true):=fun a b ha hb=>by
     have:=p a b ha hb;unfold zgu at this;simp only [bAT,zif,beq_iff_eq,dE] at this;rw [hq rrf ha,hq rco ha,hq rdt ha,hq rct ha,hq rrm ha] at this;exact this
    have C:∀ a,a<x.ev.length->(isR x a=true->zb3 x.rf a=1)/\zcl x.rm a<=1/\zb3 x.rm a<=1:=fun a ha=>by
     have:=cn a (List.mem_range.2 ha);unfold zeJ at this;simp only [bAT,zif,dE] at this;exact this
    have pom:∀ a b,a<x.ev.length->b<x.ev.length->poQ x a b=true->hasM x.po a b=true:=fun a b ha hb h=>by rw [<- hq rpo ha,(P a b ha hb).1];exact h
    have bb:∀ {r:RelD},RelOk x.ev.length r->∀ {a b},a<x.ev.length->hasM r a b=true->b<x.ev.length:=fun {r} h {a b} ha h2=>(h.bit (by omega) h2).2;refine⟨fun a b ha hb=>(P a b ha hb).1,⟨fun a b ha hb h=>?_,fun b hb h=>(zkG rrf hb).1 ((C b hb).1 h)⟩,⟨fun a b ha hb h=>?_,pl⟩,fun k _ hk=>?_,fun k j _ _ _=>Nat.zero_testBit _,fun k k' j _ h1 h2 h3 h4=>?_⟩
    ·obtain⟨b1,b2,b3,b4⟩:=(P a b ha hb).2.1 h;exact⟨b1,b2,(sl a b).2 b3,b4⟩
    ·obtain⟨b1,b2,b3⟩:=(P a b ha hb).2.2.1 h;exact⟨b1,b2,(sl a b).2 b3⟩
    ·refine⟨fun j h=>?_,fun j h=>?_,fun i j h1 h2=>(znl rrm hk).1 (C k hk).2.1 i j (bb rrm hk h1) (bb rrm hk h2) h1 h2,fun j h=>((sl k j).2 ((P k j hk (bb rrm hk h)).2.2.2.2.2 h).2.2.2).symm⟩
     ·rcases h with h | h
      ·exact ((P k j hk (bb rdt hk h)).2.2.2.1 h).2.2
      ·exact ((P k j hk (bb rrm hk h)).2.2.2.2.2 h).2.2.1
     ·rcases h with h | h | h
      ·have:=(P k j hk (bb rdt hk h)).2.2.2.1 h;exact⟨this.2.1,pom k j hk (bb rdt hk h) this.1⟩
      ·have:=(P k j hk (bb rct hk h)).2.2.2.2.1 h;exact⟨this.2,pom k j hk (bb rct hk h) this.1⟩
      ·have:=(P k j hk (bb rrm hk h)).2.2.2.2.2 h;exact⟨this.2.1,pom k j hk (bb rrm hk h) this.1⟩
    ·have hk':k<x.ev.length:=(by omega);have:=(zng rrm (bb rrm hk' h3)).1 (C j (bb rrm hk' h3)).2.2 k k' hk' h2 h3 h4;omega
end
def kneQ (x:ExD) (a:Nat):Bool := !decide ((evA x a).k=3)
def anyQ (n:Nat) (f:Nat->Bool):Bool:=(List.range n).any f
def frQ (x:ExD):RelD:=zaP x.ev.length fun a b=>anyQ x.ev.length fun w=>hasM x.rf w a&&hasM x.co w b
def locQ (x:ExD):RelD:=zaP x.ev.length fun a b=>kneQ x a&&(kneQ x b&&decide ((evA x a).l=(evA x b).l))
def zc3 (x:ExD) (r:RelD) (one:Bool):RelD:=zaP x.ev.length fun a b=>hasM r a b&&decide (decide ((evA x a).th=(evA x b).th)=one)
def fenQ (x:ExD) (md:UInt8) (f:Nat):Bool:=decide (3<=md.toNat)&&(decide (md.toNat<=5)&&(decide ((evA x f).k=3)&&decide ((evA x f).m=md)))
def zaT (x:ExD) (md:UInt8):RelD:=zaP x.ev.length fun a b=>anyQ x.ev.length fun f=>fenQ x md f&&(hasM x.po a f&&hasM x.po f b)
def zfQ (x:ExD) (a:Nat):Bool:=kneQ x a&&decide ((evA x a).m=3)
def zau (m:Nat) (x:ExD) (a b:Nat) (full loads stores:Bool):Bool :=
 let atomic:=zfQ x a||zfQ x b
 let tso := !(isW x a&&isR x b)||(full||atomic)
 match m with
 | 2=>true
 | 3=>tso
 | 4=>if (isW x a&&isW x b)=true then decide ((evA x a).l=(evA x b).l)||(full||(stores||atomic)) else tso
 | 5=>(isR x a&&(decide ((evA x a).m=1)||decide ((evA x a).m=3)))||((isW x b&&(decide ((evA x b).m=2)||decide ((evA x b).m=3)))||(full||((isR x a&&loads)||(isW x b&&stores))))
 | 6=>hasM x.dt a b||((isW x b&&hasM x.ct a b)||(full||((isR x a&&(isR x b&&loads))||((isW x a&&(isW x b&&stores))||hasM x.rm a b))))
 | _=>false
def ze4 (m:Nat) (x:ExD):RelD:=zaP x.ev.length fun a b=>hasM x.po a b&&(kneQ x a&&(kneQ x b&&zau m x a b (hasM (zaT x 3) a b) (hasM (zaT x 4) a b) (hasM (zaT x 5) a b)))
def cycQ (p q r s:RelD):Bool := !acyR (za8 (za8 p q).1 (za8 r s).1).1
def zgg (x:ExD):Bool:=anyQ x.ev.length fun a=>anyQ x.ev.length fun b=>anyQ x.ev.length fun c=>hasM x.rm a b&&(hasM (frQ x) a c&&hasM x.co c b)
def zcD (m:Nat) (x:ExD):Nat :=
 if cycQ (zbH x.po (locQ x)).1 x.rf x.co (frQ x)=true then 1
 else if zgg x=true then 2
 else if (!decide (m=1)&&cycQ (ze4 m x) (if m=2 then x.rf else zc3 x x.rf false) x.co (frQ x))=true then 3 else 0
theorem zcQ {n:Nat} {f:Nat->Bool}:anyQ n f=true↔∃ i,i<n/\f i=true:=by
 unfold anyQ;rw [List.any_eq_true];exact⟨fun ⟨i,h1,h2⟩=>⟨i,List.mem_range.1 h1,h2⟩,fun ⟨i,h1,h2⟩=>⟨i,List.mem_range.2 h1,h2⟩⟩
section
variable {n:Nat} {a b:RelD} {x:ExD}
theorem zn8 (ha:RelOk n a) (hb:RelOk n b) (h:∀ i j,i<n->j<n->hasM a i j=hasM b i j):acyR a=acyR b:=by
 rw [Bool.eq_iff_iff];exact⟨zk8 ha hb fun i j hi hj h2=>by rw [h i j hi hj];exact h2,zk8 hb ha fun i j hi hj h2=>by rw [<- h i j hi hj];exact h2⟩
theorem zo7 (h:XOk x) (h1:1<=zaJ x.ev) (h6:zaJ x.ev<=6) {i:Nat} (hi:i<x.ev.length):(evA x i).k=1\/(evA x i).k=2\/(evA x i).k=3:=by
 have hh:=(zej x.ev (zaJ x.ev)).2 ⟨rfl,h.n,h1,h6,h.ev⟩;by_cases hc:i<zaJ x.ev
 ·obtain⟨v,hv⟩:=zf4 x.ev 0 0 0 h.ev i (by omega) hi;have h2:evA x i=⟨-1,2,UInt8.ofNat (0+i),v,0,0,0⟩:=hv;rw [h2];exact .inr (.inl rfl)
 ·unfold zbU at hh
  cases hg:hdGo 0 x.ev with
  | none=>rw [hg] at hh;cases hh
  | some locs =>
   rw [hg] at hh;dsimp only at hh;by_cases hb:locs<1\/6<locs\/48<x.ev.length
   ·rw [if_pos hb] at hh;cases hh
   ·rw [if_neg hb] at hh;by_cases ha:((List.range (x.ev.length-locs)).all fun j=>zdY x.ev locs j)=true
    ·rw [if_pos ha] at hh;have hl:=Option.some.inj hh;subst hl;rw [List.all_eq_true] at ha;have:=(zi1 _ _ _).1 (ha (i-zaJ x.ev) (List.mem_range.2 (by omega)));have k:=(ziX _ _).1 this.2.2.2.2;rw [zi3,show zaJ x.ev+(i-zaJ x.ev)=i by omega] at k;show (x.ev.getD i ev0).k=1\/(x.ev.getD i ev0).k=2\/(x.ev.getD i ev0).k=3;rcases k with ⟨k | k,_⟩ | ⟨k,_⟩
     ·exact .inl k
     ·exact .inr (.inl k)
     ·exact .inr (.inr k)
    ·rw [if_neg ha] at hh;cases hh
theorem zij {i:Nat} (h:(evA x i).k=1\/(evA x i).k=2\/(evA x i).k=3):kneQ x i=accA x i:=by
 unfold kneQ accA isR isW;rcases h with h | h | h <;> rw [h] <;> rfl
structure KOk (x:ExD):Prop extends XOk x where
 k:∀ i,i<x.ev.length->(evA x i).k=1\/(evA x i).k=2\/(evA x i).k=3
theorem zr8 (hw:WX x) (h:za5 x=true):KOk x:=by
 have hx:=zrK hw h;unfold za5 at h;simp only [bAT,dE] at h;exact⟨hx,fun i hi=>zo7 hx h.2.1 h.2.2.1 hi⟩
theorem zsd (h:KOk x):zcv (frM x) (frQ x)=true:=zeS (zpG h.toXOk) (.pick h.n _) fun i j hi hj=>by
 have h48:=h.n;unfold frQ;rw [zcf,decide_eq_true hi,decide_eq_true hj,Bool.true_and,Bool.true_and,Bool.eq_iff_iff,zcQ];unfold frM;rw [zef h.rf.back h.co hi];constructor
 ·rintro⟨k,hk,h1,h2⟩;rw [zc8 h.rf (by omega),bAT] at h1;exact⟨k,hk,by rw [h1.2,h2];rfl⟩
 ·rintro⟨k,hk,h1⟩;rw [bAT] at h1;exact⟨k,hk,by rw [zc8 h.rf (by omega),h1.1,decide_eq_true hk];rfl,h1.2⟩
theorem zqC (h:KOk x):zcv (locM x) (locQ x)=true:=zeS (zqB h.toXOk) (.pick h.n _) fun i j hi hj=>by
 unfold locM locQ;rw [zcf,zcf,zij (h.k i hi),zij (h.k j hj)];rfl
theorem zqT (h:KOk x) {r:RelD} (hr:RelOk x.ev.length r):zcv (extM x r) (zc3 x r false)=true:=zeS (znq h.toXOk hr) (.pick h.n _) fun i j hi hj=>by
 unfold zc3;rw [zqS hr hi hj,zcf,decide_eq_true hi,decide_eq_true hj];by_cases e:(evA x i).th=(evA x j).th
 ·rw [decide_eq_true e];rfl
 ·rw [decide_eq_false e];rfl
theorem znp (x:ExD) (md:UInt8) (j:Nat) (h:x.ev.length<=64):(zcz x md).testBit j=(decide (j<x.ev.length)&&(decide ((evA x j).k=3)&&decide ((evA x j).m=md))):=by
 have go:∀ (l:List Nat) (s:Nat),(l.foldl (fun s i=>s|||2^i) s).testBit j=(s.testBit j||decide (j∈l)):=fun l=>by
  induction l with
  | nil=>intro s;simp
  | cons a l ih =>
   intro s;rw [List.foldl_cons,ih,Nat.testBit_or,zbR,Bool.or_assoc];congr 1;rw [Bool.eq_iff_iff,Bool.or_eq_true,dE,dE,dE,List.mem_cons]
 unfold zcz;rw [go,Nat.zero_testBit,Bool.false_or,Bool.eq_iff_iff,dE,List.mem_filter,List.mem_range];simp only [bAT,dE]
theorem zfy (h:KOk x) {md:UInt8} (h1:3<=md.toNat) (h2:md.toNat<=5):zcv (zaB x md) (zaT x md)=true:=zeS (zlL h.toXOk md) (.pick h.n _) fun i j hi hj=>by
 have h48:=h.n;have hid:=RelOk.id (n:=x.ev.length) h.n (zcz x md);have h3:=h.po.then hid;unfold zaT;rw [zcf,decide_eq_true hi,decide_eq_true hj,Bool.true_and,Bool.true_and,Bool.eq_iff_iff,zcQ];unfold zaB;rw [zef h3 h.po hi];have hf:∀ f,fenQ x md f=(decide ((evA x f).k=3)&&decide ((evA x f).m=md)):=fun f=>by
  unfold fenQ;rw [decide_eq_true h1,decide_eq_true h2];rfl
 constructor
 ·rintro⟨k,hk,b1,b2⟩;obtain⟨m,hm,c1,c2⟩:=(zef h.po hid hi).1 b1;rw [zni,bAT,bAT,dE,dE] at c2;obtain⟨_,c3,rfl⟩:=c2;rw [znp x md _ (by omega),bAT] at c3;exact⟨_,hm,by rw [hf,c3.2,c1,b2];rfl⟩
 ·rintro⟨k,hk,b⟩;rw [hf] at b;simp only [bAT] at b;refine⟨k,hk,(zef h.po hid hi).2 ⟨k,hk,b.2.1,?_⟩,b.2.2⟩;rw [zni,znp x md _ (by omega),decide_eq_true hk,b.1.1,b.1.2,decide_eq_true rfl];rfl
theorem zoU {m:Nat} {f l s:RelD} {i j:Nat} (hi:accA x i=true) (hj:accA x j=true):ze5 m x f l s i j=zau m x i j (hasM f i j) (hasM l i j) (hasM s i j):=by
 have ki:kneQ x i=true/\isR x i = !isW x i:=by
  unfold accA at hi;unfold kneQ;unfold isR isW at hi ⊢;rw [Bool.or_eq_true,dE,dE] at hi;rcases hi with h | h <;> rw [h] <;> exact⟨rfl,rfl⟩
 have kj:kneQ x j=true/\isR x j = !isW x j:=by
  unfold accA at hj;unfold kneQ;unfold isR isW at hj ⊢;rw [Bool.or_eq_true,dE,dE] at hj;rcases hj with h | h <;> rw [h] <;> exact⟨rfl,rfl⟩
 have hs:zdX x i j=decide ((evA x i).l=(evA x j).l):=by unfold zdX;rw [hi,hj];rfl
 have si:zfQ x i=decide ((evA x i).m=3):=by unfold zfQ;rw [ki.1];rfl
 have sj:zfQ x j=decide ((evA x j).m=3):=by unfold zfQ;rw [kj.1];rfl
 have s3:∀ a,zaG x a 3=decide ((evA x a).m=3):=fun a=>by unfold zaG;rw [Bool.or_self]
 match m with
 | 0=>rfl
 | 1=>rfl
 | 2=>rfl
 | 3 =>
  simp only [ze5,zau,zcp,s3,si,sj,ki.2,kj.2]
  cases isW x i <;> cases isW x j <;> simp
 | 4 =>
  simp only [ze5,zau,zcp,s3,si,sj,ki.2,kj.2,hs]
  cases isW x i <;> cases isW x j <;> simp
  cases hasM f i j <;> cases hasM s i j <;> cases decide ((evA x i).m=3) <;> cases decide ((evA x j).m=3) <;> simp
 | 5 =>
  simp only [ze5,zau,zaG,ki.2]
  cases isW x i <;> cases isW x j <;> cases hasM f i j <;> cases hasM l i j <;> cases hasM s i j <;> simp
 | 6 =>
  simp only [ze5,zau,ki.2,kj.2]
  cases isW x i <;> cases isW x j <;> cases hasM f i j <;> cases hasM l i j <;> cases hasM s i j <;> cases hasM x.dt i j <;> cases hasM x.ct i j <;> cases hasM x.rm i j <;> rfl
 | m+7=>rfl
theorem zoT (h:KOk x) (m:Nat):zcv (zdy m x) (ze4 m x)=true:=zeS (zkF h.toXOk) (.pick h.n _) fun i j hi hj=>by
 have h48:=h.n;unfold zdy ze4;rw [zcf,zcf,zij (h.k i hi),zij (h.k j hj)];have e3:=zcd (zfy h (md:=3) (by decide) (by decide)) (i:=i) (j:=j) (by omega);have e4:=zcd (zfy h (md:=4) (by decide) (by decide)) (i:=i) (j:=j) (by omega);have e5:=zcd (zfy h (md:=5) (by decide) (by decide)) (i:=i) (j:=j) (by omega);rw [<- e3,<- e4,<- e5]
 cases hai:accA x i with
 | false=>simp
 | true =>
  cases haj:accA x j with
  | false=>simp
  | true=>rw [zoU hai haj]
theorem zhC (h:KOk x) (m:Nat):zcP m x=zcD m x:=by
 have h48:=h.n;have hfr:=zpG h.toXOk;have hfq:RelOk x.ev.length (frQ x) := .pick h.n _;have hlq:RelOk x.ev.length (locQ x) := .pick h.n _;have efr:∀ i j,i<x.ev.length->hasM (frM x) i j=hasM (frQ x) i j:=fun i j hi=>zcd (zsd h) (by omega);have three:∀ {p p' q q':RelD},RelOk x.ev.length p->RelOk x.ev.length p'->RelOk x.ev.length q->RelOk x.ev.length q'->(∀ i j,i<x.ev.length->j<x.ev.length->hasM p i j=hasM p' i j)->(∀ i j,i<x.ev.length->j<x.ev.length->hasM q i j=hasM q' i j)->acyR (zaY p [q,x.co,frM x]) = !cycQ p' q' x.co (frQ x):=fun {p p' q q'} hp hp' hq hq' ep eq=>by
  unfold cycQ;rw [Bool.not_not];have hl:∀ o∈[q,x.co,frM x],RelOk x.ev.length o:=by
   simp only [List.mem_cons,List.not_mem_nil,or_false,forall_eq_or_imp,forall_eq];exact⟨hq,h.co,hfr⟩
  refine zn8 (zhd hp hl) ((hp'.union hq').union (h.co.union hfq)) fun i j hi hj=>?_;rw [zhe hi hp hl,zeM (hp'.union hq') (h.co.union hfq) hi,zeM hp' hq' hi,zeM h.co hfq hi,<- ep i j hi hj,<- eq i j hi hj,<- efr i j hi];simp only [List.any_cons,List.any_nil,Bool.or_false,Bool.or_assoc]
 have c1:acyR (zaY (zdw x) [x.rf,x.co,frM x]) = !cycQ (zbH x.po (locQ x)).1 x.rf x.co (frQ x):=three (.pick h.n _) (h.po.both hlq) h.rf h.rf (fun i j hi hj=>by
  unfold zdw;rw [zcf,zie h.po hlq hi,decide_eq_true hi,decide_eq_true hj,<- zcd (zqC h) (by omega)];unfold locM;rw [zcf,decide_eq_true hi,decide_eq_true hj];rfl) fun _ _ _ _=>rfl
 have c2:zdz (zbH x.rm (zbV (frM x) x.co).1).1 = !zgg x:=by
  have ht:=hfr.then h.co;rw [Bool.eq_iff_iff,znB (h.rm.both ht),Bool.not_eq_true'];constructor
  ·intro h2;refine Bool.eq_false_iff.2 fun hc=>?_;obtain⟨a,ha,hc⟩:=zcQ.1 hc;obtain⟨b,hb,hc⟩:=zcQ.1 hc;obtain⟨c,hc2,hc⟩:=zcQ.1 hc;simp only [bAT] at hc;have:=h2 a b ha hb;rw [zie h.rm ht ha,hc.1,(zef hfr h.co ha).2 ⟨c,hc2,by rw [efr a c ha];exact hc.2.1,hc.2.2⟩] at this
   cases this
  ·intro h2 i j hi hj;refine Bool.eq_false_iff.2 fun hc=>?_;rw [zie h.rm ht hi,bAT] at hc;obtain⟨k,hk,k1,k2⟩:=(zef hfr h.co hi).1 hc.2;have:zgg x=true:=zcQ.2 ⟨i,hi,zcQ.2 ⟨j,hj,zcQ.2 ⟨k,hk,by rw [hc.1,<- efr i k hi,k1,k2];rfl⟩⟩⟩;rw [h2] at this;cases this
 have c3:acyR (zaY (zdy m x) [if m=2 then x.rf else extM x x.rf,x.co,frM x]) = !cycQ (ze4 m x) (if m=2 then x.rf else zc3 x x.rf false) x.co (frQ x):=by
  refine three (zkF h.toXOk) (.pick h.n _) (zql h.toXOk) ?_ (fun i j hi hj=>zcd (zoT h m) (by omega)) fun i j hi hj=>?_
  ·split
   ·exact h.rf
   ·exact .pick h.n _
  ·split
   ·rfl
   ·exact zcd (zqT h h.rf) (by omega)
 unfold zcP zcD;rw [c1,c2,c3]
 cases cycQ (zbH x.po (locQ x)).1 x.rf x.co (frQ x) <;> cases zgg x <;> by_cases hm:m=1 <;> cases cycQ (ze4 m x) (if m=2 then x.rf else zc3 x x.rf false) x.co (frQ x) <;> simp [hm]
end
def zaR (base:Nat->Nat) (n:Nat) (p:Nat->Nat->Bool) (a k:Nat):Nat->Nat:=fun i=>if i<a then base i|||rowP n (p i) else if i=a then base i|||rowP k (p a) else base i
section
variable {base:Nat->Nat} {n a k:Nat} {p:Nat->Nat->Bool}
theorem zkj:zaR base n p a k a=base a|||rowP k (p a):=by
 unfold zaR;rw [if_neg (by omega),if_pos rfl]
theorem ziB (h:p a k=true):upd (zaR base n p a k) a (zaR base n p a k a|||2^k)=zaR base n p a (k+1):=by
 funext i;by_cases hi:i=a
 ·subst hi;rw [za6,zkj,zkj,zdt,if_pos h,Nat.or_assoc]
 ·rw [zcn _ _ hi];unfold zaR;rw [if_neg hi,if_neg hi]
theorem zaO (h:p a k=false):zaR base n p a k=zaR base n p a (k+1):=by
 have e:rowP (k+1) (p a)=rowP k (p a):=by rw [zdt,if_neg (by rw [h];decide)]
 funext i;unfold zaR;rw [e]
theorem zb5:zaR base n p a n=zaR base n p (a+1) 0:=by
 funext i;unfold zaR;by_cases h1:i<a
 ·rw [if_pos h1,if_pos (by omega)]
 ·by_cases h2:i=a
  ·subst h2;rw [if_neg h1,if_pos rfl,if_pos (by omega)]
  ·rw [if_neg h1,if_neg h2,if_neg (by omega)]
   split
   ·rw [show rowP 0 (p (a+1))=0 from rfl,Nat.or_zero]
   ·rfl
theorem zb4:zaR base n p 0 0=base:=by
 funext i;unfold zaR;rw [if_neg (by omega)]
 split
 ·rw [show rowP 0 (p 0)=0 from rfl,Nat.or_zero]
 ·rfl
theorem zbW (hb:WrdR base) (hn:n<=64) (hk:k<=64):WrdR (zaR base n p a k):=fun i hi=>by
 unfold zaR
 split
 ·exact Nat.or_lt_two_pow (hb i hi) (zeB _ n hn)
 ·split
  ·exact Nat.or_lt_two_pow (hb i hi) (zeB _ k hk)
  ·exact hb i hi
theorem zd3:zaR (fun _=>0) n p n 0=(zaP n p).to:=by
 funext i;unfold zaR zaP zbx;show _=if i<n then _ else 0
 by_cases h:i<n
 ·rw [if_pos h,if_pos h,Nat.zero_or]
 ·rw [if_neg h,if_neg h]
  split
  ·exact (Nat.zero_or _).trans rfl
  ·rfl
theorem zqk (f g:Nat->Bool):rowP n f|||rowP n g=rowP n fun b=>f b||g b:=Nat.eq_of_testBit_eq fun j=>by
 rw [Nat.testBit_or,zdm,zdm,zdm]
 cases decide (j<n) <;> rfl
theorem zk5 {f:Nat->Bool}:anyQ (k+1) f=(anyQ k f||f k):=by
 unfold anyQ;rw [List.range_succ,List.any_append,List.any_cons,List.any_nil,Bool.or_false]
theorem ziC {f:Nat->Nat->Nat->Bool}:zaR (zaP n fun a b=>anyQ k (f a b)).to n (fun a b=>f a b k) n 0=(zaP n fun a b=>anyQ (k+1) (f a b)).to:=by
 funext i;unfold zaR zaP zbx;show (if i<n then (if i<n then _ else 0)|||_ else if i=n then (if i<n then _ else 0)|||_ else if i<n then _ else 0)=if i<n then _ else 0
 by_cases h:i<n
 ·rw [if_pos h,if_pos h,if_pos h,zqk];congr 1;funext b;show _=anyQ (k+1) (f i b);rw [zk5]
 ·rw [if_neg h,if_neg h,if_neg h]
  split
  ·exact (Nat.zero_or _).trans rfl
  ·rfl
theorem zk4 {f:Nat->Nat->Nat->Bool}:(zaP n fun a b=>anyQ 0 (f a b)).to=fun _=>0:=by
 funext i;unfold zaP zbx;show (if i<n then _ else 0)=0
 split
 ·refine Nat.eq_of_testBit_eq fun j=>?_;rw [zdm,Nat.zero_testBit];exact Bool.and_false _
 ·rfl
end
def bit2 (one:Bool) (x y:RelD) (a b:Nat):Bool:=match one with
 | false=>hasM x a b||hasM y a b
 | true=>hasM x a b&&hasM y a b
def twoQ (one:Bool) (x y:RelD):RelD×Bool:=if (okR x&&(okR y&&decide (x.n=y.n)))=true then (zaP x.n.toNat (bit2 one x y),true) else (zam,false)
theorem zky {x:RelD} (h:okR x=true) (hw:WrdR x.to):RelOk x.n.toNat x:=⟨by have:=(zaQ h).1;omega,h,hw⟩
theorem zpt {one:Bool} {x y:RelD} (hx:WrdR x.to) (hy:WrdR y.to):(twoQ one x y).1=(match one with | false=>(za8 x y).1 | true=>(zbH x y).1):=by
 unfold twoQ;by_cases h:(okR x&&(okR y&&decide (x.n=y.n)))=true
 ·rw [if_pos h];simp only [bAT,dE] at h;obtain⟨h1,h2,h3⟩:=h;have rx:=zky h1 hx;have ry:=zky h2 hy;rw [<- h3] at ry;obtain⟨n,hn⟩:=nm (x.n.toNat);rw [<- hn] at rx ry ⊢;have h48:=rx.le;have go:∀ {f:Nat->Nat},(∀ i j,i<n->(f i).testBit j=(decide (j<n)&&bit2 one x y i j))->zaP n (bit2 one x y)=zbx n f:=fun {f} hf=>by
   show RelD.mk _ _=RelD.mk _ _;congr 1;funext i;by_cases hi:i<n
   ·rw [if_pos hi,if_pos hi];exact Nat.eq_of_testBit_eq fun j=>by rw [zdm,hf i j hi]
   ·rw [if_neg hi,if_neg hi]
  have out:∀ {r:RelD},RelOk n r->∀ {i j},i<n->hasM r i j=true->j<n:=fun {r} hr {i j} hi hb=>(hr.bit (by omega) hb).2;have lt:∀ {r:RelD},RelOk n r->∀ {i j},i<n->(r.to i).testBit j=(decide (j<n)&&hasM r i j):=fun {r} hr {i j} hi=>by
   cases hb:hasM r i j with
   | false=>rw [Bool.and_false];exact hb
   | true=>rw [decide_eq_true (out hr hi hb)];exact hb
  cases one with
  | false =>
   show _=(za8 x y).1;unfold za8;rw [zfB rx ry];refine go fun i j hi=>?_;rw [Nat.testBit_or,lt rx hi,lt ry hi];show _=(_&&(hasM x i j||hasM y i j))
   cases decide (j<n) <;> rfl
  | true =>
   show _=(zbH x y).1;unfold zbH;rw [zfB rx ry];refine go fun i j hi=>?_;rw [Nat.testBit_and,lt rx hi,lt ry hi];show _=(_&&(hasM x i j&&hasM y i j))
   cases decide (j<n) <;> rfl
 ·rw [if_neg h];have hc:∀ f,(comb x y f).1=zam:=fun f=>by
   unfold comb;rw [if_neg];intro hc;apply h;simp only [bAT,dE] at hc ⊢;exact⟨hc.2.1,hc.2.2,hc.1⟩
  cases one with
  | false=>exact (hc _).symm
  | true=>exact (hc _).symm
def zeD (r:RelD) (n:Nat):Nat->Nat->Nat
 | 0=>r.to
 | k+1=>zaR (zeD r n k) n (fun a b=>(zeD r n k a).testBit k&&(zeD r n k k).testBit b) n 0
def zeW (r:RelD):RelD:=if okR r=true then ⟨r.n,zeD r r.n.toNat r.n.toNat⟩ else zam
theorem zgo {r:RelD} {n:Nat} (hr:WrdR r.to) (hn:n<=64):∀ k,WrdR (zeD r n k)
 | 0=>hr
 | k+1=>zbW (zgo hr hn k) hn (by decide)
theorem zoj {r:RelD} {n:Nat} (h:RelOk n r) {k i j:Nat} (hw:Wp (relP n r) k i j):i<n/\j<n:=by
 have ht:=zma hw;clear hw
 induction ht with
 | one h2=>exact zfo h _ _ h2
 | step _ k2 ih=>exact⟨ih.1,(zfo h _ _ k2).2⟩
theorem zhK {r:RelD} {n:Nat} (h:RelOk n r):∀ k,k<=n->∀ i,i<48->∀ j,(zeD r n k i).testBit j=true↔Wp (relP n r) k i j
 | 0,_,i,hi,j=>by
  show hasM r i j=true↔i<n/\hasM r i j=true;exact⟨fun h2=>⟨(h.bit hi h2).1,h2⟩,fun h2=>h2.2⟩
 | k+1,hk,i,hi,j=>by
  have ih:=zhK h k (by omega);have h48:=h.le;show (zaR _ n _ n 0 i).testBit j=true↔Wp (relP n r) k i j\/(Wp (relP n r) k i k/\Wp (relP n r) k k j);unfold zaR;by_cases hin:i<n
  ·rw [if_pos hin,Nat.testBit_or,zdm,Bool.or_eq_true,bAT,bAT,dE,ih i hi j,ih i hi k,ih k (by omega) j];exact⟨fun h2=>h2.imp id fun h3=>h3.2,fun h2=>h2.imp id fun h3=>⟨(zoj h h3.2).2,h3⟩⟩
  ·have e:(if i=n then zeD r n k i|||rowP 0 (fun b=>(zeD r n k n).testBit k&&(zeD r n k k).testBit b) else zeD r n k i)=zeD r n k i:=by
    split
    ·exact Nat.or_zero _
    ·rfl
   rw [if_neg hin,e,ih i hi j];exact⟨.inl,fun h2=>h2.elim id fun h3=>absurd (zoj h h3.1).1 hin⟩
theorem zmR {r:RelD} (hw:WrdR r.to) (h:okR r=true):RelOk r.n.toNat (zeW r):=by
 have hr:=zky h hw;have h48:=hr.le;unfold zeW;rw [if_pos h];refine .of hr.n h48 (fun i j hi hb=>?_) (zgo hw (by omega) _);exact zoj hr ((zhK hr _ (Nat.le_refl _) i hi j).1 hb)
theorem zqH {r:RelD} (hw:WrdR r.to) (h:okR r=true):acyR r=(okR (zeW r)&&(List.range 48).all fun i => !hasQ (zeW r) i i):=by
 have hr:=zky h hw;have hp:=zmR hw h;have h48:=hr.le;rw [Bool.eq_iff_iff,zsM hr,hp.ok,Bool.true_and,List.all_eq_true];have hb:∀ i,i<48->(hasM (zeW r) i i=true↔Wp (relP r.n.toNat r) r.n.toNat i i):=fun i hi=>by
  unfold zeW;rw [if_pos h];exact zhK hr _ (Nat.le_refl _) i hi i
 constructor
 ·intro h2 i hi;have hi:=List.mem_range.1 hi;rw [zeG hp hi,Bool.not_eq_true'];refine Bool.eq_false_iff.2 fun hc=>?_;have:=(hb i hi).1 hc;exact h2 i (zoj hr this).1 this
 ·intro h2 i hi hc;have:=h2 i (List.mem_range.2 (by omega));rw [zeG hp (by omega),(hb i (by omega)).2 hc] at this
  cases this
section
variable {b c:Nat} {x:ExD} {q:Option Addr} {w:World}
theorem notB {p:Bool} (h:(!p)=true):p=false:=by simpa using h
theorem notF {p:Bool} (h:(!p)=false):p=true:=by simpa using h
theorem zbF {X:World} {L:Nat} {r r0:RelD} (f0:RelH X L r0) (hL:w.heap.size<=L) (hbX:Bw w X) {K:World->Prop} (k:∀ Y,RelH Y L r->Bw w Y->K Y) :
  SatR ((storeVar 27 ⟨L,0,none⟩ (.agg (relC r).toArray)).run Tryz.prog X) fun _ w'=>K w' :=
 zaq (v := .agg (relC r).toArray) k27 f0 (zad _) (zad _) (zas _) (k _ (zal f0) (zah hbX hL _))
theorem zd2 (w:World) (x:ExD) (q:Option Addr) (c:Nat) (r:RelD) (T:TypeId) : 
  ExH ((w.alloc (.cells (exC x q c).toArray 34)).alloc (.cells (relC r).toArray T)) w.heap.size x q c/\((w.alloc (.cells (exC x q c).toArray 34)).alloc (.cells (relC r).toArray T)).heap[w.heap.size+1]?=some (.cells (relC r).toArray T (0,0)) /\
   ((w.alloc (.cells (exC x q c).toArray 34)).alloc (.cells (relC r).toArray T)).heap.size=w.heap.size+2/\Bw w ((w.alloc (.cells (exC x q c).toArray 34)).alloc (.cells (relC r).toArray T)):=by
 have s1:=wz w (.cells (exC x q c).toArray 34);have h2:=hnew (w.alloc (.cells (exC x q c).toArray 34)) (.cells (relC r).toArray T);have s2:=wz (w.alloc (.cells (exC x q c).toArray 34)) (.cells (relC r).toArray T);rw [s1] at h2 s2;have b1:Bw w (w.alloc (.cells (exC x q c).toArray 34)):=zba w _;exact⟨hold _ (hnew w _),h2,s2,b1.alloc b1.size _⟩
end
theorem zn1 {s b:Nat}:decide (((s/2^b%2:Nat):Int)=1)=s.testBit b:=by
 rw [Nat.testBit_eq_decide_div_mod_eq];exact decide_eq_decide.2 (by omega)
theorem zmd {a:Nat}:Int.tmod ((a:Nat):Int) 2=((a%2:Nat):Int):=rfl
theorem zr1 {s b:Nat} (hs:s<2^64) (hb:b<64) (h:s.testBit b=false):s+2^b=s|||2^b:=by
 have h2:s&&&2^b=0:=Nat.eq_of_testBit_eq fun j=>by
  rw [Nat.testBit_and,zbR,Nat.zero_testBit];by_cases e:j=b
  ·subst e;rw [h];rfl
  ·rw [decide_eq_false e,Bool.and_false]
 have hp:2^b<2^64:=zaI hb;have ho:s|||2^b<2^64:=Nat.or_lt_two_pow hs hp;have e:=BitVec.add_eq_or_of_and_eq_zero (BitVec.ofNat 65 s) (BitVec.ofNat 65 (2^b)) (BitVec.eq_of_toNat_eq (by
  rw [BitVec.toNat_and,BitVec.toNat_ofNat,BitVec.toNat_ofNat,Nat.mod_eq_of_lt (by omega),Nat.mod_eq_of_lt (by omega),h2];rfl))
 have e2:=congrArg BitVec.toNat e;rw [BitVec.toNat_add,BitVec.toNat_or,BitVec.toNat_ofNat,BitVec.toNat_ofNat,Nat.mod_eq_of_lt (by omega:s<2^65),Nat.mod_eq_of_lt (by omega:2^b<2^65),Nat.mod_eq_of_lt (by omega)] at e2;exact e2
theorem zmY {s b:Nat} (h:s.testBit b=true):s|||2^b=s:=Nat.eq_of_testBit_eq fun j=>by
 rw [Nat.testBit_or,zbR];by_cases e:j=b
 ·subst e;rw [h];rfl
 ·rw [decide_eq_false e,Bool.or_false]
theorem zme {s b:Nat} (hs:s<2^64) (hb:b<64) (h:s.testBit b=false):IntKind.u64.wrap (((s:Nat):Int)+((2^b:Nat):Int))=((s|||2^b:Nat):Int):=by
 have h1:=zr1 hs hb h;have h2:s|||2^b<2^64:=Nat.or_lt_two_pow hs (zaI hb);rw [zcR ⟨by omega,by omega⟩];omega
def putR (r:RelD) (a b:Nat):RelD:=⟨r.n,upd r.to a (r.to a|||2^b)⟩
theorem zjl (w:World) (r:RelD) (T T2:TypeId) : 
  ((w.alloc (.cells (relC r).toArray T)).alloc (.cells (relC zam).toArray T2)).heap[w.heap.size]?=some (.cells (relC r).toArray T (0,0))/\((w.alloc (.cells (relC r).toArray T)).alloc (.cells (relC zam).toArray T2)).heap[w.heap.size+1]?=some (.cells (relC zam).toArray T2 (0,0)) /\
   ((w.alloc (.cells (relC r).toArray T)).alloc (.cells (relC zam).toArray T2)).heap.size=w.heap.size+2/\Bw w ((w.alloc (.cells (relC r).toArray T)).alloc (.cells (relC zam).toArray T2)):=by
 have s1:=wz w (.cells (relC r).toArray T);have h2:=hnew (w.alloc (.cells (relC r).toArray T)) (.cells (relC zam).toArray T2);have s2:=wz (w.alloc (.cells (relC r).toArray T)) (.cells (relC zam).toArray T2);rw [s1] at h2 s2;have b1:Bw w (w.alloc (.cells (relC r).toArray T)):=zba w _;exact⟨hold _ (hnew w _),h2,s2,b1.alloc b1.size _⟩
section
variable {w:World}
theorem zmK {X:World} {L:Nat} {r:RelD} (h:RelH X L r):RelAt X L 0 27 [] [] r:=⟨rfl,by simpa using h⟩
theorem zcc {X:World} {L:Nat} {r:RelD} (h:RelH X L r) {i:Nat} (hi:i<48):X.cell? ⟨L,0+1+i*1,none⟩=some (s64 (r.to i)):=(zmK h).cell hi
theorem zcJ {X:World} {L:Nat} {r:RelD} (h:RelH X L r):X.cell? ⟨L,0+0,none⟩=some (i64 r.n):=zac (zab h) (i:=0) rfl
theorem zko {X:World} {L a v:Nat} {r:RelD} (h:RelH X L r) (ha:a<48) {K:World->Prop} (k:∀ Y,RelH Y L ⟨r.n,upd r.to a v⟩->X.grownBy Y (some L)->Y.heap.size=X.heap.size->K Y) :
  SatR ((storeVar 24 ⟨L,0+1+a*1,none⟩ (s64 v)).run Tryz.prog X) fun _ w'=>K w':=by
 have hR:=zmK h;refine zar k24 hR.cells (o:=0+1+a*1) (v:=s64 v) rfl rfl (by rw [hR.len];omega) rfl fun S fS gS sS=>k S ?_ gS sS;rw [hR.set ha] at fS;simpa using fS
theorem zcb {X:World} {L:Nat} {r r0:RelD} (f0:RelH X L r0) (hL:w.heap.size<=L) (hbX:Bw w X) {K:World->Prop} (k:∀ Y,RelH Y L r->(∀ g,g≠L->Y.heap[g]?=X.heap[g]?)->Bw w Y->K Y) :
  SatR ((storeVar 27 ⟨L,0,none⟩ (.agg (relC r).toArray)).run Tryz.prog X) fun _ w'=>K w' :=
 zaq (v := .agg (relC r).toArray) k27 f0 (zad _) (zad _) (zas _) (k _ (zal f0) (fun g h=>zan h) (zah hbX hL _))
theorem zaX {r:RelD} {a d:Nat} (hr:WrdR r.to) (ha:a<48) (hd:d<48):CB 59 #[.agg (relC r).toArray,i64 (a:Nat),i64 (d:Nat)] w (.bool (hasM r a d)):=by
 refine cofE 16 [.agg (relC r).toArray,i64 (a:Nat),i64 (d:Nat)] Tryz.func59 ?_;have f:RelH (w.alloc (.cells (relC r).toArray 27)) w.heap.size r:=hnew w _;refine⟨a,rfl,ha,?_⟩;refine⟨s64 (r.to a),zcc f ha,?_⟩;refine⟨(d:Int),zcR ⟨by omega,by omega⟩,?_⟩;refine⟨by omega,_,zfi (a:=r.to a) (k:=d) (by omega),?_⟩;refine⟨by decide,_,zmd,?_⟩;exact⟨rb zn1,(zba w _)⟩
theorem zdS {s b:Nat} (hb:b<64):Calls Tryz.prog 70 #[s64 s,i64 (b:Nat)] w fun e w'=>e = .returned (.bool (s.testBit b))/\w=w':=by
 refine cofE 19 [s64 s,i64 (b:Nat)] Tryz.func70 ?_;refine brE (decide_eq_true (by omega)) ?_;refine brE (decide_eq_true (by omega)) ?_;refine⟨(b:Int),zcR ⟨by omega,by omega⟩,?_⟩;refine⟨by omega,_,zfi (a:=s) (k:=b) (by omega),?_⟩;refine⟨by decide,_,zmd,?_⟩;exact⟨rb zn1,rfl⟩
theorem zph {s b:Nat} (hs:s<2^64) (hb:b<64):Calls Tryz.prog 127 #[s64 s,i64 (b:Nat)] w fun e w'=>e = .returned (s64 (s|||2^b))/\w=w':=by
 refine cofE 22 [s64 s,i64 (b:Nat)] Tryz.func127 ?_;refine cmo (zdS (s:=s) hb) ?_;rintro e _ ⟨rfl,rfl⟩;refine biE (fun h=>?_) fun h=>?_
 ·have h:s.testBit b=true:=h;refine brT ?_;refine brT ?_;rw [zmY h];exact⟨rfl,rfl⟩
 ·have h:s.testBit b=false:=h;refine brN (decide_eq_false (by omega)) ?_;refine brN (decide_eq_false (by omega)) ?_;refine⟨(b:Int),zcR ⟨by omega,by omega⟩,?_⟩;refine⟨by omega,_,zbE (e:=b) (by omega),?_⟩;refine⟨_,zme hs hb h,?_⟩;exact⟨rfl,rfl⟩
theorem zeK {r:RelD} {a d:Nat} (hr:WrdR r.to) (ha:a<48) (hd:d<48):CB 71 #[.agg (relC r).toArray,i64 (a:Nat),i64 (d:Nat)] w (.agg (relC (putR r a d)).toArray):=by
 refine cofM 24 [.agg (relC r).toArray,i64 (a:Nat),i64 (d:Nat)] (.c .p (.c .p .p)) Tryz.func71 ?_;obtain⟨L,hL⟩:=nm (w.heap.size);refine⟨Unit,fun _=>⟨[(1,i64 (a:Nat)),(2,i64 (d:Nat)),(3,At0 L),(6,At0 (L+1))],[]⟩,fun _ X=>RelH X L r/\RelH X (L+1) zam/\Bw w X,?_,?_⟩
 ·obtain⟨h1,h2,h3,h4⟩:=zjl w r 27 27;have s1:=wz w (.cells (relC r).toArray 27);exact⟨(),⟨.cons rfl (.cons rfl (.cons (by rw [hL];rfl) (.cons (by rw [hL,<- s1];rfl) .nil))),rfl⟩,by rw [hL];exact h1,by rw [hL];exact h2,h4⟩
 rintro _ X ⟨fR,f0,hbX⟩;refine⟨Unit,fun _=>⟨[(3,At0 L),(6,At0 (L+1))],[]⟩,fun _ X=>RelH X L (putR r a d)/\RelH X (L+1) zam/\Bw w X,?_,?_⟩
 ·refine⟨relC r,zad _,zab fR,hlt fR,?_⟩;refine cmo (zaX hr ha hd) ?_;rintro e Y ⟨rfl,hbY⟩;have fR:=zaa hbY fR;have f0:=zaa hbY f0;have bY:=zst hbX hbY;refine biE (fun h=>?_) fun h=>?_
  ·have h:hasM r a d=false:=notB h;refine⟨a,rfl,ha,?_⟩;refine⟨s64 (r.to a),zcc fR ha,?_⟩;refine⟨(d:Int),zcR ⟨by omega,by omega⟩,?_⟩;refine⟨by omega,_,zbE (e:=d) (by omega),?_⟩;refine⟨_,zme (hr a ha) (by omega) h,?_⟩;refine⟨a,rfl,ha,?_⟩;refine zko fR ha fun Z fZ gZ sZ=>?_;exact⟨(),(cvE rfl rfl),fZ,(gZ.block (L+1) (hlt f0) (by simp)).trans f0,bY.trans (zao gZ bY.size (by omega))⟩
  ·have h:hasM r a d=true:=notF h;have e:putR r a d=r:=by
    unfold putR;have:r.to a|||2^d=r.to a:=zmY h;rw [this];have:upd r.to a (r.to a)=r.to:=by
     funext i;by_cases e:i=a
     ·subst e;rw [za6]
     ·rw [zcn _ _ e]
    rw [this]
   exact⟨(),(cvE rfl rfl),by rw [e];exact fR,f0,bY⟩
 rintro _ X ⟨fR,f0,hbX⟩;refine⟨relC (putR r a d),zad _,zab fR,hlt fR,?_⟩;exact zbF f0 (by omega) hbX fun Z fZ bZ=>⟨relC (putR r a d),zad _,zab fZ,rfl,bZ⟩
theorem zfS {r:RelD} {a d:Nat} (hr:WrdR r.to) (ha:a<48) (hd:d<64):CB 99 #[.agg (relC r).toArray,i64 (a:Nat),i64 (d:Nat)] w (.agg (relC (putR r a d)).toArray):=by
 refine cofM 17 [.agg (relC r).toArray,i64 (a:Nat),i64 (d:Nat)] (.c .p (.c .p .p)) Tryz.func99 ?_;obtain⟨L,hL⟩:=nm (w.heap.size);refine⟨Unit,fun _=>⟨[(1,i64 (a:Nat)),(2,i64 (d:Nat)),(3,At0 L),(6,At0 (L+1))],[]⟩,fun _ X=>RelH X L r/\RelH X (L+1) zam/\Bw w X,?_,?_⟩
 ·obtain⟨h1,h2,h3,h4⟩:=zjl w r 27 27;have s1:=wz w (.cells (relC r).toArray 27);exact⟨(),⟨.cons rfl (.cons rfl (.cons (by rw [hL];rfl) (.cons (by rw [hL,<- s1];rfl) .nil))),rfl⟩,by rw [hL];exact h1,by rw [hL];exact h2,h4⟩
 rintro _ X ⟨fR,f0,hbX⟩;refine⟨Unit,fun _=>⟨[(3,At0 L),(6,At0 (L+1))],[]⟩,fun _ X=>RelH X L (putR r a d)/\RelH X (L+1) zam/\Bw w X,?_,?_⟩
 ·refine⟨a,rfl,ha,?_⟩;refine⟨s64 (r.to a),zcc fR ha,?_⟩;refine cmo (zph (hr a ha) hd) ?_;rintro e _ ⟨rfl,rfl⟩;refine⟨a,rfl,ha,?_⟩;refine zko fR ha fun Z fZ gZ sZ=>?_;exact⟨(),(cvE rfl rfl),fZ,(gZ.block (L+1) (hlt f0) (by simp)).trans f0,hbX.trans (zao gZ hbX.size (by omega))⟩
 rintro _ X ⟨fR,f0,hbX⟩;refine⟨relC (putR r a d),zad _,zab fR,hlt fR,?_⟩;exact zbF f0 (by omega) hbX fun Z fZ bZ=>⟨relC (putR r a d),zad _,zab fZ,rfl,bZ⟩
end
section
variable {w:World}
theorem zcj {r:RelD} (hr:WrdR r.to):CB 24 #[.agg (relC r).toArray] w (.bool (okR r)):=by
 refine cofM 39 [.agg (relC r).toArray] (.c .p .p) Tryz.func24 ?_;obtain⟨L,hL⟩:=nm (w.heap.size);refine⟨Unit,fun _=>⟨[(1,At0 L)],[]⟩,fun _ X=>RelH X L r/\Bw w X,⟨(),⟨.cons (by rw [hL];rfl) .nil,rfl⟩,by rw [hL];exact hnew w _,(zba w _)⟩,?_⟩;rintro _ X ⟨f,hbX⟩;have hn:=zcJ f;refine⟨i64 r.n,hn,?_⟩;refine biE (fun h=>?_) fun h=>?_
 ·have h:r.n<0:=dT h;refine brT ?_;exact⟨rb (by unfold okR;rw [decide_eq_false (by omega)];rfl),hbX⟩
 have h:¬ r.n<0:=dF h;refine⟨i64 r.n,hn,?_⟩;refine biE (fun h2=>?_) fun h2=>?_
 ·have h2:(48:Int)<r.n:=dT h2;exact⟨rb (by unfold okR;rw [decide_eq_false (show ¬ r.n<=48 by omega),Bool.false_and,Bool.and_false]),hbX⟩
 have h2:¬ (48:Int)<r.n:=dF h2;refine⟨Nat,fun a=>⟨[(1,At0 L),(3,i64 (a:Nat))],[]⟩,fun a Y=>X=Y/\a<=48/\∀ i j,i<a->j<64->hasM r i j=true->(i:Int)<r.n/\(j:Int)<r.n,fun a=>48-a,0,(cvE rfl rfl),⟨rfl,Nat.zero_le _,fun i j hi=>by omega⟩,?_⟩;rintro a _ ⟨rfl,ha,hall⟩;dsimp only;refine biE (fun hc=>?_) fun hc=>?_
 ·have hc:(a:Int)<48:=dT hc;have ha48:a<48:=by omega
  refine⟨Nat,fun d=>⟨[(1,At0 L),(3,i64 (a:Nat)),(4,i64 (d:Nat))],[]⟩,fun d Y=>X=Y/\d<=64/\∀ j,j<d->hasM r a j=true->(a:Int)<r.n/\(j:Int)<r.n,fun d=>64-d,0,(cvE rfl rfl),⟨rfl,Nat.zero_le _,fun j hj=>by omega⟩,?_⟩;rintro d _ ⟨rfl,hd,halld⟩;dsimp only;refine biE (fun hc=>?_) fun hc=>?_
  ·have hc:(d:Int)<64:=dT hc;have hd64:d<64:=by omega
   have next:(hasM r a d=true->(a:Int)<r.n/\(d:Int)<r.n)->∀ j,j<d+1->hasM r a j=true->(a:Int)<r.n/\(j:Int)<r.n:=fun h j hj hb=>by
    by_cases e:j=d
    ·subst e;exact h hb
    ·exact halld j (by omega) hb
   have bad:hasM r a d=true->¬ ((a:Int)<r.n/\(d:Int)<r.n)->okR r=false:=fun h1 h2=>by
    cases ho:okR r with
    | false=>rfl
    | true=>exact absurd (by have:=zhN ho hr ha48 h1;omega) h2
   refine⟨a,rfl,ha48,?_⟩;refine⟨s64 (r.to a),zcc f ha48,?_⟩;refine cmo (zdS (s:=r.to a) hd64) ?_;rintro e _ ⟨rfl,rfl⟩;refine biE (fun h3=>?_) fun h3=>?_
   ·have h3:hasM r a d=true:=h3;refine⟨i64 r.n,hn,?_⟩;refine biE (fun h4=>?_) fun h4=>?_
    ·have h4:r.n<=(a:Int):=dT h4;refine brT ?_;exact⟨rb (bad h3 (by omega)).symm,hbX⟩
    ·have h4:¬ r.n<=(a:Int):=dF h4;refine⟨i64 r.n,hn,?_⟩;refine biE (fun h5=>?_) fun h5=>?_
     ·have h5:r.n<=(d:Int):=dT h5;exact⟨rb (bad h3 (by omega)).symm,hbX⟩
     ·have h5:¬ r.n<=(d:Int):=dF h5;refine nxI (by omega) ?_;exact⟨d+1,(cvE rfl rfl),⟨rfl,by omega,next fun _=>by omega⟩,zdc (by omega)⟩
   ·have h3:hasM r a d=false:=h3;refine brF ?_;refine nxI (by omega) ?_;exact⟨d+1,(cvE rfl rfl),⟨rfl,by omega,next fun h=>by rw [h3] at h;cases h⟩,zdc (by omega)⟩
  ·have hc:¬ (d:Int)<64:=dF hc;obtain rfl:d=64:=by omega
   refine nxI (by omega) ?_;exact⟨a+1,(cvE rfl rfl),⟨rfl,by omega,fun i j hi hj hb=>by
    by_cases e:i=a
    ·subst e;exact halld j hj hb
    ·exact hall i j (by omega) hj hb⟩,zdc (by omega)⟩
 ·have hc:¬ (a:Int)<48:=dF hc;obtain rfl:a=48:=by omega
  refine⟨rb ?_,hbX⟩;symm;refine zpx (n:=r.n.toNat) (by omega) (by omega) fun i j hi hb=>?_;have hj:j<64:=Nat.lt_of_not_le fun hge=>by
   have:(r.to i).testBit j=false:=Nat.testBit_lt_two_pow (nL (hr i hi) (Nat.pow_le_pow_right (by decide) hge));rw [show hasM r i j=(r.to i).testBit j from rfl,this] at hb
   cases hb
  have:=hall i j hi hj hb;omega
theorem zbu {r:RelD} {a d:Nat} (hr:WrdR r.to) (ha:a<48) (hd:d<64):CB 46 #[.agg (relC r).toArray,i64 (a:Nat),i64 (d:Nat)] w (.bool (hasQ r a d)):=by
 refine cofM 37 [.agg (relC r).toArray,i64 (a:Nat),i64 (d:Nat)] (.c .p .p) Tryz.func46 ?_;obtain⟨L,hL⟩:=nm (w.heap.size);refine⟨Unit,fun _=>⟨[(1,i64 (a:Nat)),(2,i64 (d:Nat)),(3,At0 L)],[]⟩,fun _ X=>RelH X L r/\Bw w X,⟨(),⟨.cons rfl (.cons rfl (.cons (by rw [hL];rfl) .nil)),rfl⟩,by rw [hL];exact hnew w _,(zba w _)⟩,?_⟩;rintro _ X ⟨f,hbX⟩;refine⟨relC r,zad _,zab f,hlt f,?_⟩;refine cmo (zcj hr) ?_;rintro e Y ⟨rfl,hbY⟩;have f:=zaa hbY f;have bY:=zst hbX hbY;have hn:=zcJ f;refine biE (fun h1=>?_) fun h1=>?_
 ·have h1:okR r=true:=h1;refine brE (decide_eq_true (by omega)) ?_;refine⟨i64 r.n,hn,?_⟩;refine biE (fun h2=>?_) fun h2=>?_
  ·have h2:(a:Int)<r.n:=dT h2;refine brE (decide_eq_true (by omega)) ?_;refine⟨i64 r.n,hn,?_⟩;refine biE (fun h3=>?_) fun h3=>?_
   ·have h3:(d:Int)<r.n:=dT h3;refine⟨a,rfl,ha,?_⟩;refine⟨s64 (r.to a),zcc f ha,?_⟩;refine cmo (zdS (s:=r.to a) hd) ?_;rintro e _ ⟨rfl,rfl⟩;exact⟨rb (by unfold hasQ;rw [h1,decide_eq_true h2,decide_eq_true h3];rfl),bY⟩
   ·have h3:¬ (d:Int)<r.n:=dF h3;exact⟨rb (by unfold hasQ;rw [h1,decide_eq_true h2,decide_eq_false h3];rfl),bY⟩
  ·have h2:¬ (a:Int)<r.n:=dF h2;refine brF ?_;refine brF ?_;exact⟨rb (by unfold hasQ;rw [h1,decide_eq_false h2];rfl),bY⟩
 ·have h1:okR r=false:=h1;refine brF ?_;refine brF ?_;refine brF ?_;refine brF ?_;exact⟨rb (by unfold hasQ;rw [h1];rfl),bY⟩
theorem zrE {r:RelD} (hr:WrdR r.to):CB 128 #[.agg (relC r).toArray] w (.bool (okR r&&(List.range 48).all fun i => !hasQ r i i)):=by
 refine cofM 14 [.agg (relC r).toArray] (.c .p .p) Tryz.func128 ?_;obtain⟨L,hL⟩:=nm (w.heap.size);refine⟨Unit,fun _=>⟨[(1,At0 L)],[]⟩,fun _ X=>RelH X L r/\Bw w X,⟨(),⟨.cons (by rw [hL];rfl) .nil,rfl⟩,by rw [hL];exact hnew w _,(zba w _)⟩,?_⟩;rintro _ X ⟨f,hbX⟩;refine⟨Nat,fun a=>⟨[(1,At0 L),(3,i64 (a:Nat))],[]⟩,fun a Y=>a<=48/\(∀ i,i<a->hasQ r i i=false)/\RelH Y L r/\Bw w Y,fun a=>48-a,0,(cvE rfl rfl),⟨Nat.zero_le _,fun i hi=>by omega,f,hbX⟩,?_⟩;clear f hbX;rintro a X ⟨ha,hall,f,hbX⟩;dsimp only;refine biE (fun hc=>?_) fun hc=>?_
 ·have hc:(a:Int)<48:=dT hc;have ha48:a<48:=by omega
  refine⟨relC r,zad _,zab f,hlt f,?_⟩;refine cmo (zbu hr ha48 (by omega)) ?_;rintro e Y ⟨rfl,hbY⟩;have bY:=zst hbX hbY;refine biE (fun h=>?_) fun h=>?_
  ·have h:hasQ r a a=true:=h;refine⟨rb ?_,bY⟩;have:((List.range 48).all fun i => !hasQ r i i)=false:=by
    rw [List.all_eq_false];exact⟨a,List.mem_range.2 ha48,by rw [h];decide⟩
   rw [this,Bool.and_false]
  ·have h:hasQ r a a=false:=h;refine nxI (by omega) ?_;exact⟨a+1,(cvE rfl rfl),⟨ha48,fun i hi=>by
    by_cases e:i=a
    ·subst e;exact h
    ·exact hall i (by omega),zaa hbY f,bY⟩,zdc (by omega)⟩
 ·have hc:¬ (a:Int)<48:=dF hc;obtain rfl:a=48:=by omega
  refine⟨relC r,zad _,zab f,hlt f,?_⟩;refine cmo (zcj hr) ?_;rintro e Y ⟨rfl,hbY⟩;refine⟨rb ?_,(zst hbX hbY)⟩;have:((List.range 48).all fun i => !hasQ r i i)=true:=by
   rw [List.all_eq_true];exact fun i hi=>by rw [hall i (List.mem_range.1 hi)];rfl
  rw [this,Bool.and_true]
theorem zpk {r:RelD} (hr:WrdR r.to):CB 129 #[.agg (relC r).toArray] w (.agg (relC (zeW r)).toArray):=by
 refine cofM 49 [.agg (relC r).toArray] (.c .p (.c .p (.c .p .p))) Tryz.func129 ?_;obtain⟨L,hL⟩:=nm (w.heap.size);refine⟨Unit,fun _=>⟨[(1,At0 L),(2,At0 (L+1))],[]⟩,fun _ X=>RelH X L r/\RelH X (L+1) zam/\Bw w X,?_,?_⟩
 ·obtain⟨h1,h2,h3,h4⟩:=zjl w r 27 27;have s1:=wz w (.cells (relC r).toArray 27);exact⟨(),⟨.cons (by rw [hL];rfl) (.cons (by rw [hL,<- s1];rfl) .nil),rfl⟩,by rw [hL];exact h1,by rw [hL];exact h2,h4⟩
 rintro _ X ⟨f,f0,hbX⟩;refine⟨Unit,fun _=>⟨[(1,At0 L),(2,At0 (L+1))],[]⟩,fun _ X=>okR r=true/\RelH X L r/\RelH X (L+1) zam/\Bw w X,?_,?_⟩
 ·refine⟨relC r,zad _,zab f,hlt f,?_⟩;refine cmo (zcj hr) ?_;rintro e Y ⟨rfl,hbY⟩;have bY:=zst hbX hbY;refine biE (fun h=>?_) fun h=>?_
  ·have h:okR r=false:=notB h;refine⟨relC zam,by kernel_rfl,?_⟩;have e:zeW r=zam:=by unfold zeW;rw [h];rfl
   rw [e];exact zbF (zaa hbY f0) (by omega) bY fun Z fZ bZ=>⟨relC zam,zad _,zab fZ,rfl,bZ⟩
  ·have h:okR r=true:=notF h;exact⟨(),(cvE rfl rfl),h,zaa hbY f,zaa hbY f0,bY⟩
 clear f f0 hbX;clear X;rintro _ X ⟨hok,f,f0,hbX⟩;obtain⟨n,hn⟩:∃ n:Nat,r.n=n:=⟨r.n.toNat,by have:=(zaQ hok).1;omega⟩;have hn48:n<=48:=by have:=(zaQ hok).2.1;omega
 have hpl:zeW r=⟨n,zeD r n n⟩:=by
  unfold zeW;rw [if_pos hok,hn];rfl
 refine⟨Unit,fun _=>⟨[(1,At0 L),(2,At0 (L+1))],[]⟩,fun _ X=>RelH X L (zeW r)/\RelH X (L+1) zam/\Bw w X,?_,?_⟩
 ·refine⟨Nat,fun k=>⟨[(1,At0 L),(2,At0 (L+1)),(3,i64 (k:Nat))],[]⟩,fun k Z=>k<=n/\RelH Z L ⟨n,zeD r n k⟩/\RelH Z (L+1) zam/\Bw w Z,fun k=>n-k,0,(cvE rfl rfl),⟨Nat.zero_le _,by rw [<- hn];exact f,f0,hbX⟩,?_⟩;clear f f0 hbX;clear X;rintro k X ⟨hk,f,f0,hbX⟩;dsimp only at f ⊢;refine⟨i64 n,zcJ f,?_⟩;refine biE (fun hc=>?_) fun hc=>?_
  ·have hc:(k:Int)<(n:Int):=dT hc;have hkn:k<n:=by omega
   obtain⟨M,hM⟩:=nm (X.heap.size);have hML:L+1<M:=by rw [hM];exact hlt f0
   obtain⟨base,hbase⟩:=nm (zeD r n k);have hbw:WrdR base:=by rw [hbase];exact zgo hr (by omega) k
   rw [<- hbase] at f;refine⟨_,zad ⟨n,base⟩,zab f,hlt f,?_⟩;refine zak (X:=X) (v := .agg (relC ⟨n,base⟩).toArray) k27 (zad _) (by kernel_rfl) (zas _) fun Y hbY fY sY=>?_;have bY:=zst hbX hbY;obtain⟨p,hp⟩:∃ p:Nat->Nat->Bool,p=fun a b=>(base a).testBit k&&(base k).testBit b:=⟨_,rfl⟩;have step:(⟨n,zeD r n (k+1)⟩:RelD)=⟨n,zaR base n p n 0⟩:=by rw [hp,hbase];rfl
   refine⟨Nat,fun a=>⟨[(1,At0 L),(2,At0 (L+1)),(3,i64 (k:Nat)),(4,At0 M),(5,i64 (a:Nat))],[]⟩,fun a Z=>a<=n/\RelH Z L ⟨n,zaR base n p a 0⟩/\RelH Z M ⟨n,base⟩/\RelH Z (L+1) zam/\Bw w Z,fun a=>n-a,0,⟨.cons rfl (.cons rfl (.cons rfl (.cons (by rw [hM];rfl) (.cons rfl .nil)))),rfl⟩,⟨Nat.zero_le _,by rw [zb4];exact zaa hbY f,by rw [hM];exact fY,zaa hbY f0,bY⟩,?_⟩;clear f f0 hbX hbY fY sY bY hM;clear Y X;rintro a X ⟨ha,f,fM,f0,hbX⟩;dsimp only at f ⊢;refine⟨i64 n,zcJ f,?_⟩;refine biE (fun hc=>?_) fun hc=>?_
   ·have hc:(a:Int)<(n:Int):=dT hc;have han:a<n:=(by omega);refine⟨Nat,fun d=>⟨[(1,At0 L),(2,At0 (L+1)),(3,i64 (k:Nat)),(4,At0 M),(5,i64 (a:Nat)),(6,i64 (d:Nat))],[]⟩,fun d Z=>d<=n/\RelH Z L ⟨n,zaR base n p a d⟩/\RelH Z M ⟨n,base⟩/\RelH Z (L+1) zam/\Bw w Z,fun d=>n-d,0,(cvE rfl rfl),⟨Nat.zero_le _,f,fM,f0,hbX⟩,?_⟩;clear f fM f0 hbX;clear X;rintro d X ⟨hd,f,fM,f0,hbX⟩;dsimp only at f ⊢;refine⟨i64 n,zcJ f,?_⟩;refine biE (fun hc=>?_) fun hc=>?_
    ·have hc:(d:Int)<(n:Int):=dT hc;have hdn:d<n:=(by omega);have skip:p a d=false->RelH X L ⟨n,zaR base n p a (d+1)⟩:=fun h=>by rw [<- zaO h];exact f
     refine⟨a,rfl,(by omega:a<48),?_⟩;refine⟨s64 (base a),zcc fM (by omega:a<48),?_⟩;refine cmo (zdS (s:=base a) (by omega)) ?_;rintro e _ ⟨rfl,rfl⟩;refine biE (fun h1=>?_) fun h1=>?_
     ·have h1:(base a).testBit k=true:=h1;refine⟨k,rfl,(by omega:k<48),?_⟩;refine⟨s64 (base k),zcc fM (by omega:k<48),?_⟩;refine cmo (zdS (s:=base k) (by omega)) ?_;rintro e _ ⟨rfl,rfl⟩;refine biE (fun h2=>?_) fun h2=>?_
      ·have h2:(base k).testBit d=true:=h2;have hpt:p a d=true:=(by rw [hp];show (_&&_)=true;rw [h1,h2];rfl);refine⟨_,zad ⟨n,zaR base n p a d⟩,zab f,hlt f,?_⟩;refine cmo (zfS (a:=a) (d:=d) (zbW hbw (by omega) (by omega)) (by omega) (by omega)) ?_;rintro e Y ⟨rfl,hbY⟩;have e5:putR ⟨n,zaR base n p a d⟩ a d=⟨n,zaR base n p a (d+1)⟩:=by
        unfold putR;show RelD.mk _ _=RelD.mk _ _;congr 1;exact ziB hpt
       rw [e5];refine zcb (zaa hbY f) (by omega) ((zst hbX hbY)) fun Z fZ oZ bZ=>?_;refine nxI (by omega) ?_;exact⟨d+1,(cvE rfl rfl),⟨hdn,fZ,(oZ M (by omega)).trans (zaa hbY fM),(oZ (L+1) (by omega)).trans (zaa hbY f0),bZ⟩,zdc (by omega)⟩
      ·have h2:(base k).testBit d=false:=h2;refine nxI (by omega) ?_;exact⟨d+1,(cvE rfl rfl),⟨hdn,skip (by rw [hp];show (_&&_)=false;rw [h1,h2];rfl),fM,f0,hbX⟩,zdc (by omega)⟩
     ·have h1:(base a).testBit k=false:=h1;refine brF ?_;refine nxI (by omega) ?_;exact⟨d+1,(cvE rfl rfl),⟨hdn,skip (by rw [hp];show (_&&_)=false;rw [h1];rfl),fM,f0,hbX⟩,zdc (by omega)⟩
    ·have hc:¬ (d:Int)<(n:Int):=dF hc;obtain rfl:d=n:=(by omega);refine nxI (by omega) ?_;exact⟨a+1,(cvE rfl rfl),⟨han,by rw [<- zb5];exact f,fM,f0,hbX⟩,zdc (by omega)⟩
   ·have hc:¬ (a:Int)<(n:Int):=dF hc;obtain rfl:a=n:=(by omega);refine nxI (by omega) ?_;exact⟨k+1,(cvE rfl rfl),⟨hkn,by rw [step];exact f,f0,hbX⟩,zdc (by omega)⟩
  ·have hc:¬ (k:Int)<(n:Int):=dF hc;obtain rfl:k=n:=by omega
   rw [<- hpl] at f;exact⟨(),(cvE rfl rfl),f,f0,hbX⟩
 rintro _ X ⟨f,f0,hbX⟩;refine⟨relC (zeW r),zad _,zab f,hlt f,?_⟩;exact zbF f0 (by omega) hbX fun Z fZ bZ=>⟨relC (zeW r),zad _,zab fZ,rfl,bZ⟩
theorem zj8 {r:RelD} (hr:WrdR r.to):CB 100 #[.agg (relC r).toArray] w (.bool (acyR r)):=by
 refine cofM 10 [.agg (relC r).toArray] (.c .p .p) Tryz.func100 ?_;obtain⟨L,hL⟩:=nm (w.heap.size);refine⟨Unit,fun _=>⟨[(1,At0 L)],[]⟩,fun _ X=>RelH X L r/\Bw w X,⟨(),⟨.cons (by rw [hL];rfl) .nil,rfl⟩,by rw [hL];exact hnew w _,(zba w _)⟩,?_⟩;rintro _ X ⟨f,hbX⟩;refine⟨relC r,zad _,zab f,hlt f,?_⟩;refine cmo (zcj hr) ?_;rintro e Y ⟨rfl,hbY⟩;have f:=zaa hbY f;have bY:=zst hbX hbY;refine biE (fun h=>?_) fun h=>?_
 ·have h:okR r=true:=h;refine⟨relC r,zad _,zab f,hlt f,?_⟩;refine cmo (zpk hr) ?_;rintro e Z ⟨rfl,hbZ⟩;have bZ:=zst bY hbZ;refine cmo (zrE (zmR hr h).w) ?_;rintro e V ⟨rfl,hbV⟩;exact⟨rb (zqH hr h).symm,(zst bZ hbV)⟩
 ·have h:okR r=false:=h;exact⟨rb (by unfold acyR topF;rw [h];rfl),bY⟩
end
theorem putB {base:Nat->Nat} {n a d:Nat} {p:Nat->Nat->Bool} (h:p a d=true):putR ⟨n,zaR base n p a d⟩ a d=⟨n,zaR base n p a (d+1)⟩:=by
 unfold putR;show RelD.mk _ _=RelD.mk _ _;congr 1;exact ziB h
theorem za4 {x y:UInt8}:decide (((x.toNat:Nat):Int)=((y.toNat:Nat):Int))=decide (x=y):=decide_eq_decide.2 zbj
theorem zrM {x:UInt8}:decide (((x.toNat:Nat):Int)=0)=decide (x=0):=za4 (y:=0)
theorem zbp {x:UInt8}:decide (((x.toNat:Nat):Int)=1)=decide (x=1):=za4 (y:=1)
theorem zaM {x:UInt8}:decide (((x.toNat:Nat):Int)=2)=decide (x=2):=za4 (y:=2)
theorem zdE {x:UInt8}:decide (((x.toNat:Nat):Int)=3)=decide (x=3):=za4 (y:=3)
theorem zkB {a b:Nat}:decide ((a:Int)<(b:Int)) = !decide (b<=a):=by
 rw [<- decide_not];exact decide_eq_decide.2 (by omega)
theorem zkP (d:Nat) (a b:Bool) (w:World):(Op.equalIn (d+1) 4 (.bool a) (.bool b)).run Tryz.prog w = .ok (decide (a=b)) w:=by
 simp only [Op.equalIn,Sem.run_bind,run_underlying Tryz.underlying4,Result.andThen_ok,Sem.run_pure]
 cases a <;> cases b <;> rfl
theorem zgQ (x y:Operand) (a b:Bool) (w:World):(do eqGuard .eql 4 x y (.bool a) (.bool b);binOp .eql 4 (.bool a) (.bool b)).run Tryz.prog w = .ok (.bool (decide (a=b))) w:=by
 have h:(Op.equal 4 (.bool a) (.bool b)).run Tryz.prog w = .ok (decide (a=b)) w:=zkP 9999 a b w;have h1:(eqGuard .eql 4 x y (.bool a) (.bool b)).run Tryz.prog w = .ok () w:=rfl;rw [Sem.run_bind,h1];simp only [Result.andThen_ok,binOp,Sem.run_bind,h,Sem.run_pure]
theorem zd7 {x:ExD} {q:Option Addr} {X:World} (hv:SlR evE X q x.ev) (h:0<x.ev.length):∃ bq oq,q=some ⟨bq,oq,none⟩/\bq<X.heap.size/\∀ i,i<x.ev.length->zax X ⟨bq,oq+i*7,none⟩ (evE.enc (evA x i)):=by
 obtain⟨b,o,hq,hb,hat⟩:=hv.at h;refine⟨b,o,hq,hb,fun i hi=>?_⟩;have:=hat i hi;unfold evA;rw [gDe,gE hi];exact this
theorem zi8 {X:World} {b o i:Nat} {e:Ev} (h:zax X ⟨b,o+i*7,none⟩ (evE.enc e)):X.cell? ⟨b,o+i*7+0,none⟩=some (i64 e.th):=zac h (i:=0) rfl
theorem zpN {X:World} {b:Nat} {e:Ev} (h:X.heap[b]?=some (.cells (evE.enc e).toArray 54 (0,0))):X.cell? ⟨b,0+0,none⟩=some (i64 e.th):=zac (zab h) (i:=0) rfl
theorem zc7 {X:World} {b o i:Nat} {e:Ev} (h:zax X ⟨b,o+i*7,none⟩ (evE.enc e)):X.cell? ⟨b,o+i*7+1,none⟩=some (u8 e.k):=zac h (i:=1) rfl
theorem zbz {X:World} {b:Nat} {e:Ev} (h:X.heap[b]?=some (.cells (evE.enc e).toArray 54 (0,0))):X.cell? ⟨b,0+1,none⟩=some (u8 e.k):=zac (zab h) (i:=1) rfl
theorem zo6 {X:World} {b o i:Nat} {e:Ev} (h:zax X ⟨b,o+i*7,none⟩ (evE.enc e)):X.cell? ⟨b,o+i*7+2,none⟩=some (u8 e.l):=zac h (i:=2) rfl
theorem znF {X:World} {b:Nat} {e:Ev} (h:X.heap[b]?=some (.cells (evE.enc e).toArray 54 (0,0))):X.cell? ⟨b,0+2,none⟩=some (u8 e.l):=zac (zab h) (i:=2) rfl
theorem zo5 {X:World} {b o i:Nat} {e:Ev} (h:zax X ⟨b,o+i*7,none⟩ (evE.enc e)):X.cell? ⟨b,o+i*7+3,none⟩=some (u8 e.v):=zac h (i:=3) rfl
theorem ztf {X:World} {b:Nat} {e:Ev} (h:X.heap[b]?=some (.cells (evE.enc e).toArray 54 (0,0))):X.cell? ⟨b,0+3,none⟩=some (u8 e.v):=zac (zab h) (i:=3) rfl
theorem zsr {X:World} {b o i:Nat} {e:Ev} (h:zax X ⟨b,o+i*7,none⟩ (evE.enc e)):X.cell? ⟨b,o+i*7+4,none⟩=some (u8 e.m):=zac h (i:=4) rfl
theorem zlM {X:World} {b:Nat} {e:Ev} (h:X.heap[b]?=some (.cells (evE.enc e).toArray 54 (0,0))):X.cell? ⟨b,0+4,none⟩=some (u8 e.m):=zac (zab h) (i:=4) rfl
theorem ztg {X:World} {b:Nat} {e:Ev} (h:X.heap[b]?=some (.cells (evE.enc e).toArray 54 (0,0))):X.cell? ⟨b,0+6,none⟩=some (u8 e.p):=zac (zab h) (i:=6) rfl
theorem r_po {X:World} {b:Nat} {x:ExD} {q:Option Addr} {c:Nat} (fx:ExH X b x q c):zax X ⟨b,0+1,none⟩ (relC x.po):=zaw fx (i:=0) (by decide) rfl
theorem r_rf {X:World} {b:Nat} {x:ExD} {q:Option Addr} {c:Nat} (fx:ExH X b x q c):zax X ⟨b,0+50,none⟩ (relC x.rf):=zaw fx (i:=1) (by decide) rfl
theorem r_co {X:World} {b:Nat} {x:ExD} {q:Option Addr} {c:Nat} (fx:ExH X b x q c):zax X ⟨b,0+99,none⟩ (relC x.co):=zaw fx (i:=2) (by decide) rfl
theorem r_dt {X:World} {b:Nat} {x:ExD} {q:Option Addr} {c:Nat} (fx:ExH X b x q c):zax X ⟨b,0+148,none⟩ (relC x.dt):=zaw fx (i:=3) (by decide) rfl
theorem r_ct {X:World} {b:Nat} {x:ExD} {q:Option Addr} {c:Nat} (fx:ExH X b x q c):zax X ⟨b,0+197,none⟩ (relC x.ct):=zaw fx (i:=4) (by decide) rfl
theorem r_rm {X:World} {b:Nat} {x:ExD} {q:Option Addr} {c:Nat} (fx:ExH X b x q c):zax X ⟨b,0+246,none⟩ (relC x.rm):=zaw fx (i:=5) (by decide) rfl
theorem zga {n k:Nat} {f:Nat->Nat->Nat->Bool} (h:∀ a b,f a b k=false):(zaP n fun a b=>anyQ (k+1) (f a b)).to=(zaP n fun a b=>anyQ k (f a b)).to:=by
 congr 2;funext a b;rw [zk5,h,Bool.or_false]
def frF (x:ExD) (a b k:Nat):Bool:=hasM x.rf k a&&hasM x.co k b
def fenF (x:ExD) (md:UInt8) (a b k:Nat):Bool:=fenQ x md k&&(hasM x.po a k&&hasM x.po k b)
section
variable {w:World} {c:Nat} {x:ExD} {q:Option Addr}
theorem zsU (hv:ExV w x q):CB 27 #[.agg (exC x q c).toArray] w (.agg (relC (frQ x)).toArray):=by
 refine cofM 45 [.agg (exC x q c).toArray] (.c .p (.c .p (.c .p (.c .p .p)))) Tryz.func27 ?_;obtain⟨L,hL⟩:=nm (w.heap.size);have h16:=hv.n;obtain⟨n,hnn⟩:=nm (x.ev.length);refine⟨Unit,fun _=>⟨[(1,At0 L),(2,At0 (L+1))],[]⟩,fun _ X=>ExH X L x q c/\RelH X (L+1) zam/\Bw w X,?_,?_⟩
 ·obtain⟨h1,h2,h3,h4⟩:=zd2 w x q c zam 27;have s1:=wz w (.cells (exC x q c).toArray 34);exact⟨(),⟨.cons (by rw [hL];rfl) (.cons (by rw [hL,<- s1];rfl) (.nil)),rfl⟩,by rw [hL];exact h1,by rw [hL];exact h2,h4⟩
 rintro _ X ⟨fX,f0,hbX⟩;refine⟨Unit,fun _=>⟨[(1,At0 L),(2,At0 (L+1)),(3,i64 n)],[]⟩,fun _ Y=>X=Y,?_,?_⟩
 ·refine⟨_,zaz (zab fX),?_⟩;exact⟨(),⟨.cons rfl (.cons rfl (.cons (by rw [hnn];rfl) .nil)),rfl⟩,rfl⟩
 rintro _ _ rfl;refine⟨Nat,fun R=>⟨[(1,At0 L),(2,At0 (L+1)),(3,i64 n),(4,At0 R)],[]⟩,fun R Z=>L+1<R/\RelH Z R ⟨n,fun _=>0⟩/\ExH Z L x q c/\RelH Z (L+1) zam/\Bw w Z,?_,?_⟩
 ·refine⟨relC ⟨n,fun _=>0⟩,by kernel_rfl,?_⟩;refine zak (X:=X) (v := .agg (relC ⟨n,fun _=>0⟩).toArray) k27 (zad _) (by kernel_rfl) (zas _) fun Z hbZ fZ sZ=>?_;exact⟨X.heap.size,(cvE rfl rfl),hlt f0,fZ,zaa hbZ fX,zaa hbZ f0,(zst hbX hbZ)⟩
 clear fX f0 hbX;clear X;rintro R X ⟨hR0,f,fX,f0,hbX⟩;have bits:∀ k,WrdR (zaP n fun a b=>anyQ k ((frF x) a b)).to:=fun k=>zce (by omega);refine⟨Unit,fun _=>⟨[(2,At0 (L+1)),(4,At0 R)],[]⟩,fun _ Z=>RelH Z R (frQ x)/\RelH Z (L+1) zam/\Bw w Z,?_,?_⟩
 ·replace f:RelH X R ⟨n,(zaP n fun a b=>anyQ 0 ((frF x) a b)).to⟩:=by rw [zk4];exact f
  refine⟨Nat,fun k=>⟨[(1,At0 L),(2,At0 (L+1)),(3,i64 n),(4,At0 R),(5,i64 (k:Nat))],[]⟩,fun k Z=>k<=n/\RelH Z R ⟨n,(zaP n fun a b=>anyQ k ((frF x) a b)).to⟩/\ExH Z L x q c/\RelH Z (L+1) zam/\Bw w Z,fun k=>n-k,0,(cvE rfl rfl),⟨Nat.zero_le _,f,fX,f0,hbX⟩,?_⟩;clear f fX f0 hbX;clear X;rintro k X ⟨hk,f,fX,f0,hbX⟩;dsimp only at f ⊢;refine biE (fun hc=>?_) fun hc=>?_
  ·have hc:(k:Int)<(n:Int):=dT hc;have hkn:k<n:=by omega
   obtain⟨base,hbase⟩:=nm ((zaP n fun a b=>anyQ k ((frF x) a b)).to);have hbw:WrdR base:=by rw [hbase];exact bits k
   obtain⟨p,hp⟩:∃ p:Nat->Nat->Bool,p=fun a b=>(frF x) a b k:=⟨_,rfl⟩;have step:(zaP n fun a b=>anyQ (k+1) ((frF x) a b)).to=zaR base n p n 0:=by rw [hp,hbase];exact ziC.symm
   rw [<- hbase] at f;refine⟨Nat,fun a=>⟨[(1,At0 L),(2,At0 (L+1)),(3,i64 n),(4,At0 R),(5,i64 (k:Nat)),(6,i64 (a:Nat))],[]⟩,fun a Z=>a<=n/\RelH Z R ⟨n,zaR base n p a 0⟩/\ExH Z L x q c/\RelH Z (L+1) zam/\Bw w Z,fun a=>n-a,0,(cvE rfl rfl),⟨Nat.zero_le _,by rw [zb4];exact f,fX,f0,hbX⟩,?_⟩;clear f fX f0 hbX;clear X;rintro a X ⟨ha,f,fX,f0,hbX⟩;dsimp only at f ⊢;refine biE (fun hc=>?_) fun hc=>?_
   ·have hc:(a:Int)<(n:Int):=dT hc;have han:a<n:=(by omega);refine⟨Nat,fun d=>⟨[(1,At0 L),(2,At0 (L+1)),(3,i64 n),(4,At0 R),(5,i64 (k:Nat)),(6,i64 (a:Nat)),(7,i64 (d:Nat))],[]⟩,fun d Z=>d<=n/\RelH Z R ⟨n,zaR base n p a d⟩/\ExH Z L x q c/\RelH Z (L+1) zam/\Bw w Z,fun d=>n-d,0,(cvE rfl rfl),⟨Nat.zero_le _,f,fX,f0,hbX⟩,?_⟩;clear f fX f0 hbX;clear X;rintro d X ⟨hd,f,fX,f0,hbX⟩;dsimp only at f ⊢;refine biE (fun hc=>?_) fun hc=>?_
    ·have hc:(d:Int)<(n:Int):=dT hc;have hdn:d<n:=(by omega);refine⟨_,zad _,r_rf fX,hlt fX,?_⟩;refine cmo (zaX hv.rf (by omega) (by omega)) ?_;rintro e U ⟨rfl,hbU⟩;have f:=zaa hbU f;have fX:=zaa hbU fX;have f0:=zaa hbU f0;replace hbX:=zst hbX hbU;refine biE (fun h1=>?_) fun h1=>?_
     ·refine⟨_,zad _,r_co fX,hlt fX,?_⟩;refine cmo (zaX hv.co (by omega) (by omega)) ?_;rintro e U ⟨rfl,hbU⟩;have f:=zaa hbU f;have fX:=zaa hbU fX;have f0:=zaa hbU f0;replace hbX:=zst hbX hbU;refine biE (fun h2=>?_) fun h2=>?_
      ·have hpt:p a d=true:=(by rw [hp];simp [h1,h2,frF]);refine⟨_,zad ⟨n,zaR base n p a d⟩,zab f,hlt f,?_⟩;refine cmo (zeK (a:=a) (d:=d) (zbW hbw (by omega) (by omega)) (by omega) (by omega)) ?_;rintro e U ⟨rfl,hbU⟩;rw [putB hpt];refine zcb (zaa hbU f) (by omega) ((zst hbX hbU)) fun Z fZ oZ bZ=>?_;refine nxI (by omega) ?_;exact⟨d+1,(cvE rfl rfl),⟨hdn,fZ,(oZ L (by omega)).trans (zaa hbU fX),(oZ (L+1) (by omega)).trans (zaa hbU f0),bZ⟩,zdc (by omega)⟩
      ·have hpf:p a d=false:=(by rw [hp];simp [h1,h2,frF]);refine nxI (by omega) ?_;exact⟨d+1,(cvE rfl rfl),⟨hdn,by rw [<- zaO hpf];exact f,fX,f0,hbX⟩,zdc (by omega)⟩
     ·refine brF ?_;have hpf:p a d=false:=(by rw [hp];simp [h1,frF]);refine nxI (by omega) ?_;exact⟨d+1,(cvE rfl rfl),⟨hdn,by rw [<- zaO hpf];exact f,fX,f0,hbX⟩,zdc (by omega)⟩
    ·have hc:¬ (d:Int)<(n:Int):=dF hc;obtain rfl:d=n:=(by omega);refine nxI (by omega) ?_;exact⟨a+1,(cvE rfl rfl),⟨han,by rw [<- zb5];exact f,fX,f0,hbX⟩,zdc (by omega)⟩
   ·have hc:¬ (a:Int)<(n:Int):=dF hc;obtain rfl:a=n:=(by omega);refine nxI (by omega) ?_;exact⟨k+1,(cvE rfl rfl),⟨hkn,by rw [step];exact f,fX,f0,hbX⟩,zdc (by omega)⟩
  ·have hc:¬ (k:Int)<(n:Int):=dF hc;obtain rfl:k=n:=by omega
   have er:(⟨k,(zaP k fun a b=>anyQ k ((frF x) a b)).to⟩:RelD)=frQ x:=by rw [hnn];rfl
   rw [er] at f;exact⟨(),(cvE rfl rfl),f,f0,hbX⟩
 clear f fX f0 hbX;clear X;rintro _ X ⟨f,f0,hbX⟩;refine⟨relC (frQ x),zad _,zab f,hlt f,?_⟩;exact zbF f0 (by omega) hbX fun Z fZ bZ=>⟨relC (frQ x),zad _,zab fZ,rfl,bZ⟩
theorem zrB (hv:ExV w x q):CB 28 #[.agg (exC x q c).toArray] w (.agg (relC (locQ x)).toArray):=by
 refine cofM 58 [.agg (exC x q c).toArray] (.c .p (.c .p (.c .p (.c .p .p)))) Tryz.func28 ?_;obtain⟨L,hL⟩:=nm (w.heap.size);have h16:=hv.n;obtain⟨n,hnn⟩:=nm (x.ev.length);refine⟨Unit,fun _=>⟨[(1,At0 L),(2,At0 (L+1))],[]⟩,fun _ X=>ExH X L x q c/\RelH X (L+1) zam/\Bw w X,?_,?_⟩
 ·obtain⟨h1,h2,h3,h4⟩:=zd2 w x q c zam 27;have s1:=wz w (.cells (exC x q c).toArray 34);exact⟨(),⟨.cons (by rw [hL];rfl) (.cons (by rw [hL,<- s1];rfl) (.nil)),rfl⟩,by rw [hL];exact h1,by rw [hL];exact h2,h4⟩
 rintro _ X ⟨fX,f0,hbX⟩;refine⟨Unit,fun _=>⟨[(1,At0 L),(2,At0 (L+1)),(3,i64 n)],[]⟩,fun _ Y=>X=Y,?_,?_⟩
 ·refine⟨_,zaz (zab fX),?_⟩;exact⟨(),⟨.cons rfl (.cons rfl (.cons (by rw [hnn];rfl) .nil)),rfl⟩,rfl⟩
 rintro _ _ rfl;refine⟨Nat,fun R=>⟨[(1,At0 L),(2,At0 (L+1)),(3,i64 n),(4,At0 R)],[]⟩,fun R Z=>L+1<R/\RelH Z R ⟨n,fun _=>0⟩/\ExH Z L x q c/\RelH Z (L+1) zam/\Bw w Z,?_,?_⟩
 ·refine⟨relC ⟨n,fun _=>0⟩,by kernel_rfl,?_⟩;refine zak (X:=X) (v := .agg (relC ⟨n,fun _=>0⟩).toArray) k27 (zad _) (by kernel_rfl) (zas _) fun Z hbZ fZ sZ=>?_;exact⟨X.heap.size,(cvE rfl rfl),hlt f0,fZ,zaa hbZ fX,zaa hbZ f0,(zst hbX hbZ)⟩
 clear fX f0 hbX;clear X;rintro R X ⟨hR0,f,fX,f0,hbX⟩;refine⟨Unit,fun _=>⟨[(2,At0 (L+1)),(4,At0 R)],[]⟩,fun _ Z=>RelH Z R (locQ x)/\RelH Z (L+1) zam/\Bw w Z,?_,?_⟩
 ·obtain⟨base,hbase⟩:∃ base:Nat->Nat,base=fun _=>0:=⟨_,rfl⟩;have hbw:WrdR base:=by rw [hbase];exact fun i _=>(by show 0<2^64;decide)
  obtain⟨p,hp⟩:∃ p:Nat->Nat->Bool,p=fun a b=>kneQ x a&&(kneQ x b&&decide ((evA x a).l=(evA x b).l)):=⟨_,rfl⟩;have hend:(⟨n,zaR base n p n 0⟩:RelD)=locQ x:=by rw [hp,hbase,zd3,hnn];rfl
  rw [<- hbase] at f;refine⟨Nat,fun a=>⟨[(1,At0 L),(2,At0 (L+1)),(3,i64 n),(4,At0 R),(5,i64 (a:Nat))],[]⟩,fun a Z=>a<=n/\RelH Z R ⟨n,zaR base n p a 0⟩/\ExH Z L x q c/\RelH Z (L+1) zam/\Bw w Z,fun a=>n-a,0,(cvE rfl rfl),⟨Nat.zero_le _,by rw [zb4];exact f,fX,f0,hbX⟩,?_⟩;clear f fX f0 hbX;clear X;rintro a X ⟨ha,f,fX,f0,hbX⟩;dsimp only at f ⊢;refine biE (fun hc=>?_) fun hc=>?_
  ·have hc:(a:Int)<(n:Int):=dT hc;have han:a<n:=by omega
   refine⟨Nat,fun d=>⟨[(1,At0 L),(2,At0 (L+1)),(3,i64 n),(4,At0 R),(5,i64 (a:Nat)),(6,i64 (d:Nat))],[]⟩,fun d Z=>d<=n/\RelH Z R ⟨n,zaR base n p a d⟩/\ExH Z L x q c/\RelH Z (L+1) zam/\Bw w Z,fun d=>n-d,0,(cvE rfl rfl),⟨Nat.zero_le _,f,fX,f0,hbX⟩,?_⟩;clear f fX f0 hbX;clear X;rintro d X ⟨hd,f,fX,f0,hbX⟩;dsimp only at f ⊢;refine biE (fun hc=>?_) fun hc=>?_
   ·have hc:(d:Int)<(n:Int):=dT hc;have hdn:d<n:=(by omega);obtain⟨bq,oq,hqe,hbq,hat⟩:=zd7 (hv.below hbX).ev (by omega:0<x.ev.length);subst hqe;have dX:Bw X X.drew:=(Below.refl _ _).drew;refine DrawE.ord [] [0,1,2,3,4,5,6,7,8,9,10,11,12,13,14,15,16,17,18,19,20,21,22,23,24,25,26,27,28,29,30] (by kernel_rfl) ?_;have f:=zaa dX f;have fX:=zaa dX fX;have f0:=zaa dX f0;have hat:=fun i hi=>zae dX (hat i hi);replace hbX:=zst hbX dX;refine⟨_,zaz (zab fX),?_⟩;refine⟨a,rfl,by omega,?_⟩;refine⟨_,zc7 (hat a (by omega)),?_⟩;refine biE (fun h1=>?_) fun h1=>?_
    ·have h1:=zdE.symm.trans (notB h1);refine⟨_,zaz (zab fX),?_⟩;refine⟨d,rfl,by omega,?_⟩;refine⟨_,zc7 (hat d (by omega)),?_⟩;refine biE (fun h2=>?_) fun h2=>?_
     ·have h2:=zdE.symm.trans (notB h2);refine⟨_,zaz (zab fX),?_⟩;refine⟨a,rfl,by omega,?_⟩;refine⟨_,zo6 (hat a (by omega)),?_⟩;refine⟨_,zaz (zab fX),?_⟩;refine⟨d,rfl,by omega,?_⟩;refine⟨_,zo6 (hat d (by omega)),?_⟩;refine biE (fun h3=>?_) fun h3=>?_
      ·have h3:=za4.symm.trans h3;have hpt:p a d=true:=(by rw [hp];simp [h1,h2,h3,kneQ]);refine⟨_,zad ⟨n,zaR base n p a d⟩,zab f,hlt f,?_⟩;refine cmo (zeK (a:=a) (d:=d) (zbW hbw (by omega) (by omega)) (by omega) (by omega)) ?_;rintro e U ⟨rfl,hbU⟩;rw [putB hpt];refine zcb (zaa hbU f) (by omega) ((zst hbX hbU)) fun Z fZ oZ bZ=>?_;refine nxI (by omega) ?_;exact⟨d+1,(cvE rfl rfl),⟨hdn,fZ,(oZ L (by omega)).trans (zaa hbU fX),(oZ (L+1) (by omega)).trans (zaa hbU f0),bZ⟩,zdc (by omega)⟩
      ·have h3:=za4.symm.trans h3;have hpf:p a d=false:=(by rw [hp];simp [h1,h2,h3,kneQ]);refine nxI (by omega) ?_;exact⟨d+1,(cvE rfl rfl),⟨hdn,by rw [<- zaO hpf];exact f,fX,f0,hbX⟩,zdc (by omega)⟩
     ·have h2:=zdE.symm.trans (notF h2);refine brF ?_;have hpf:p a d=false:=(by rw [hp];simp [h1,h2,kneQ]);refine nxI (by omega) ?_;exact⟨d+1,(cvE rfl rfl),⟨hdn,by rw [<- zaO hpf];exact f,fX,f0,hbX⟩,zdc (by omega)⟩
    ·have h1:=zdE.symm.trans (notF h1);refine brF ?_;refine brF ?_;have hpf:p a d=false:=(by rw [hp];simp [h1,kneQ]);refine nxI (by omega) ?_;exact⟨d+1,(cvE rfl rfl),⟨hdn,by rw [<- zaO hpf];exact f,fX,f0,hbX⟩,zdc (by omega)⟩
   ·have hc:¬ (d:Int)<(n:Int):=dF hc;obtain rfl:d=n:=(by omega);refine nxI (by omega) ?_;exact⟨a+1,(cvE rfl rfl),⟨han,by rw [<- zb5];exact f,fX,f0,hbX⟩,zdc (by omega)⟩
  ·have hc:¬ (a:Int)<(n:Int):=dF hc;obtain rfl:a=n:=by omega
   rw [hend] at f;exact⟨(),(cvE rfl rfl),f,f0,hbX⟩
 clear f fX f0 hbX;clear X;rintro _ X ⟨f,f0,hbX⟩;refine⟨relC (locQ x),zad _,zab f,hlt f,?_⟩;exact zbF f0 (by omega) hbX fun Z fZ bZ=>⟨relC (locQ x),zad _,zab fZ,rfl,bZ⟩
theorem zoa {r:RelD} {one:Bool} (hv:ExV w x q) (hr:WrdR r.to):CB 25 #[.agg (exC x q c).toArray,.agg (relC r).toArray,.bool one] w (.agg (relC (zc3 x r one)).toArray):=by
 refine cofM 52 [.agg (exC x q c).toArray,.agg (relC r).toArray,.bool one] (.c .p (.c .p (.c .p (.c .p .p)))) Tryz.func25 ?_;obtain⟨L,hL⟩:=nm (w.heap.size);have h16:=hv.n;obtain⟨n,hnn⟩:=nm (x.ev.length);refine⟨Unit,fun _=>⟨[(2,.bool one),(3,At0 L),(4,At0 (L+1)),(6,At0 (L+2))],[]⟩,fun _ X=>ExH X L x q c/\RelH X (L+1) r/\RelH X (L+2) zam/\Bw w X,?_,?_⟩
 ·obtain⟨h1,h2,h3,h4⟩:=zd2 w x q c r 27;have s1:=wz w (.cells (exC x q c).toArray 34);have h5:=hnew ((w.alloc (.cells (exC x q c).toArray 34)).alloc (.cells (relC r).toArray 27)) (.cells (relC zam).toArray 27);rw [h3] at h5;exact⟨(),⟨.cons (rfl) (.cons (by rw [hL];rfl) (.cons (by rw [hL,<- s1];rfl) (.cons (by rw [hL,<- h3];rfl) (.nil)))),rfl⟩,by rw [hL];exact hold _ h1,by rw [hL];exact hold _ h2,by rw [hL];exact h5,h4.alloc h4.size _⟩
 rintro _ X ⟨fX,fR,f0,hbX⟩;refine⟨Unit,fun _=>⟨[(2,.bool one),(3,At0 L),(4,At0 (L+1)),(6,At0 (L+2)),(7,i64 n)],[]⟩,fun _ Y=>X=Y,?_,?_⟩
 ·refine⟨_,zaz (zab fX),?_⟩;exact⟨(),⟨.cons rfl (.cons rfl (.cons rfl (.cons rfl (.cons (by rw [hnn];rfl) .nil)))),rfl⟩,rfl⟩
 rintro _ _ rfl;refine⟨Nat,fun R=>⟨[(2,.bool one),(3,At0 L),(4,At0 (L+1)),(6,At0 (L+2)),(7,i64 n),(8,At0 R)],[]⟩,fun R Z=>L+2<R/\RelH Z R ⟨n,fun _=>0⟩/\ExH Z L x q c/\RelH Z (L+1) r/\RelH Z (L+2) zam/\Bw w Z,?_,?_⟩
 ·refine⟨relC ⟨n,fun _=>0⟩,by kernel_rfl,?_⟩;refine zak (X:=X) (v := .agg (relC ⟨n,fun _=>0⟩).toArray) k27 (zad _) (by kernel_rfl) (zas _) fun Z hbZ fZ sZ=>?_;exact⟨X.heap.size,(cvE rfl rfl),hlt f0,fZ,zaa hbZ fX,zaa hbZ fR,zaa hbZ f0,(zst hbX hbZ)⟩
 clear fX fR f0 hbX;clear X;rintro R X ⟨hR0,f,fX,fR,f0,hbX⟩;refine⟨Unit,fun _=>⟨[(6,At0 (L+2)),(8,At0 R)],[]⟩,fun _ Z=>RelH Z R (zc3 x r one)/\RelH Z (L+2) zam/\Bw w Z,?_,?_⟩
 ·obtain⟨base,hbase⟩:∃ base:Nat->Nat,base=fun _=>0:=⟨_,rfl⟩;have hbw:WrdR base:=by rw [hbase];exact fun i _=>(by show 0<2^64;decide)
  obtain⟨p,hp⟩:∃ p:Nat->Nat->Bool,p=fun a b=>hasM r a b&&decide (decide ((evA x a).th=(evA x b).th)=one):=⟨_,rfl⟩;have hend:(⟨n,zaR base n p n 0⟩:RelD)=zc3 x r one:=by rw [hp,hbase,zd3,hnn];rfl
  rw [<- hbase] at f;refine⟨Nat,fun a=>⟨[(2,.bool one),(3,At0 L),(4,At0 (L+1)),(6,At0 (L+2)),(7,i64 n),(8,At0 R),(9,i64 (a:Nat))],[]⟩,fun a Z=>a<=n/\RelH Z R ⟨n,zaR base n p a 0⟩/\ExH Z L x q c/\RelH Z (L+1) r/\RelH Z (L+2) zam/\Bw w Z,fun a=>n-a,0,(cvE rfl rfl),⟨Nat.zero_le _,by rw [zb4];exact f,fX,fR,f0,hbX⟩,?_⟩;clear f fX fR f0 hbX;clear X;rintro a X ⟨ha,f,fX,fR,f0,hbX⟩;dsimp only at f ⊢;refine biE (fun hc=>?_) fun hc=>?_
  ·have hc:(a:Int)<(n:Int):=dT hc;have han:a<n:=by omega
   refine⟨Nat,fun d=>⟨[(2,.bool one),(3,At0 L),(4,At0 (L+1)),(6,At0 (L+2)),(7,i64 n),(8,At0 R),(9,i64 (a:Nat)),(10,i64 (d:Nat))],[]⟩,fun d Z=>d<=n/\RelH Z R ⟨n,zaR base n p a d⟩/\ExH Z L x q c/\RelH Z (L+1) r/\RelH Z (L+2) zam/\Bw w Z,fun d=>n-d,0,(cvE rfl rfl),⟨Nat.zero_le _,f,fX,fR,f0,hbX⟩,?_⟩;clear f fX fR f0 hbX;clear X;rintro d X ⟨hd,f,fX,fR,f0,hbX⟩;dsimp only at f ⊢;refine biE (fun hc=>?_) fun hc=>?_
   ·have hc:(d:Int)<(n:Int):=dT hc;have hdn:d<n:=(by omega);obtain⟨bq,oq,hqe,hbq,hat⟩:=zd7 (hv.below hbX).ev (by omega:0<x.ev.length);subst hqe;have dX:Bw X X.drew:=(Below.refl _ _).drew;refine DrawE.ord [] [0,1,2,3,4,5,6,7,8,9,10,11,12,13,14,15,16,17,18,19,20] (by kernel_rfl) ?_;have f:=zaa dX f;have fX:=zaa dX fX;have fR:=zaa dX fR;have f0:=zaa dX f0;have hat:=fun i hi=>zae dX (hat i hi);replace hbX:=zst hbX dX;refine⟨_,zad _,zab fR,hlt fR,?_⟩;refine cmo (zaX hr (by omega) (by omega)) ?_;rintro e U ⟨rfl,hbU⟩;refine⟨hbU,?_⟩;have f:=zaa hbU f;have fX:=zaa hbU fX;have fR:=zaa hbU fR;have f0:=zaa hbU f0;have hat:=fun i hi=>zae hbU (hat i hi);replace hbX:=zst hbX hbU;refine biE (fun h1=>?_) fun h1=>?_
    ·refine⟨_,zaz (zab fX),?_⟩;refine⟨a,rfl,by omega,?_⟩;refine⟨_,zi8 (hat a (by omega)),?_⟩;refine⟨_,zaz (zab fX),?_⟩;refine⟨d,rfl,by omega,?_⟩;refine⟨_,zi8 (hat d (by omega)),?_⟩;refine⟨_,fun w=>zgQ _ _ (decide (((evA x a).th:Int)=((evA x d).th:Int))) (one) w,?_⟩;refine biE (fun h2=>?_) fun h2=>?_
     ·have hpt:p a d=true:=(by rw [hp];simp [h1,h2]);refine⟨_,zad ⟨n,zaR base n p a d⟩,zab f,hlt f,?_⟩;refine cmo (zeK (a:=a) (d:=d) (zbW hbw (by omega) (by omega)) (by omega) (by omega)) ?_;rintro e U ⟨rfl,hbU⟩;rw [putB hpt];refine zcb (zaa hbU f) (by omega) ((zst hbX hbU)) fun Z fZ oZ bZ=>?_;refine nxI (by omega) ?_;exact⟨d+1,(cvE rfl rfl),⟨hdn,fZ,(oZ L (by omega)).trans (zaa hbU fX),(oZ (L+1) (by omega)).trans (zaa hbU fR),(oZ (L+2) (by omega)).trans (zaa hbU f0),bZ⟩,zdc (by omega)⟩
     ·have hpf:p a d=false:=(by rw [hp];simp [h1,h2]);refine nxI (by omega) ?_;exact⟨d+1,(cvE rfl rfl),⟨hdn,by rw [<- zaO hpf];exact f,fX,fR,f0,hbX⟩,zdc (by omega)⟩
    ·refine brF ?_;have hpf:p a d=false:=(by rw [hp];simp [h1]);refine nxI (by omega) ?_;exact⟨d+1,(cvE rfl rfl),⟨hdn,by rw [<- zaO hpf];exact f,fX,fR,f0,hbX⟩,zdc (by omega)⟩
   ·have hc:¬ (d:Int)<(n:Int):=dF hc;obtain rfl:d=n:=(by omega);refine nxI (by omega) ?_;exact⟨a+1,(cvE rfl rfl),⟨han,by rw [<- zb5];exact f,fX,fR,f0,hbX⟩,zdc (by omega)⟩
  ·have hc:¬ (a:Int)<(n:Int):=dF hc;obtain rfl:a=n:=by omega
   rw [hend] at f;exact⟨(),(cvE rfl rfl),f,f0,hbX⟩
 clear f fX fR f0 hbX;clear X;rintro _ X ⟨f,f0,hbX⟩;refine⟨relC (zc3 x r one),zad _,zab f,hlt f,?_⟩;exact zbF f0 (by omega) hbX fun Z fZ bZ=>⟨relC (zc3 x r one),zad _,zab fZ,rfl,bZ⟩
theorem zlY {md:UInt8} (hv:ExV w x q):CB 29 #[.agg (exC x q c).toArray,u8 md] w (.agg (relC (zaT x md)).toArray):=by
 refine cofM 72 [.agg (exC x q c).toArray,u8 md] (.c .p (.c .p (.c .p (.c .p .p)))) Tryz.func29 ?_;obtain⟨L,hL⟩:=nm (w.heap.size);have h16:=hv.n;obtain⟨n,hnn⟩:=nm (x.ev.length);refine⟨Unit,fun _=>⟨[(1,u8 md),(2,At0 L),(4,At0 (L+1))],[]⟩,fun _ X=>ExH X L x q c/\RelH X (L+1) zam/\Bw w X,?_,?_⟩
 ·obtain⟨h1,h2,h3,h4⟩:=zd2 w x q c zam 27;have s1:=wz w (.cells (exC x q c).toArray 34);exact⟨(),⟨.cons (rfl) (.cons (by rw [hL];rfl) (.cons (by rw [hL,<- s1];rfl) (.nil))),rfl⟩,by rw [hL];exact h1,by rw [hL];exact h2,h4⟩
 rintro _ X ⟨fX,f0,hbX⟩;refine⟨Unit,fun _=>⟨[(1,u8 md),(2,At0 L),(4,At0 (L+1)),(5,i64 n)],[]⟩,fun _ Y=>X=Y,?_,?_⟩
 ·refine⟨_,zaz (zab fX),?_⟩;exact⟨(),⟨.cons rfl (.cons rfl (.cons rfl (.cons (by rw [hnn];rfl) .nil))),rfl⟩,rfl⟩
 rintro _ _ rfl;refine⟨Nat,fun R=>⟨[(1,u8 md),(2,At0 L),(4,At0 (L+1)),(5,i64 n),(6,At0 R)],[]⟩,fun R Z=>L+1<R/\RelH Z R ⟨n,fun _=>0⟩/\ExH Z L x q c/\RelH Z (L+1) zam/\Bw w Z,?_,?_⟩
 ·refine⟨relC ⟨n,fun _=>0⟩,by kernel_rfl,?_⟩;refine zak (X:=X) (v := .agg (relC ⟨n,fun _=>0⟩).toArray) k27 (zad _) (by kernel_rfl) (zas _) fun Z hbZ fZ sZ=>?_;exact⟨X.heap.size,(cvE rfl rfl),hlt f0,fZ,zaa hbZ fX,zaa hbZ f0,(zst hbX hbZ)⟩
 clear fX f0 hbX;clear X;rintro R X ⟨hR0,f,fX,f0,hbX⟩;have bits:∀ k,WrdR (zaP n fun a b=>anyQ k ((fenF x md) a b)).to:=fun k=>zce (by omega);refine⟨Unit,fun _=>⟨[(4,At0 (L+1)),(6,At0 R)],[]⟩,fun _ Z=>RelH Z R (zaT x md)/\RelH Z (L+1) zam/\Bw w Z,?_,?_⟩
 ·replace f:RelH X R ⟨n,(zaP n fun a b=>anyQ 0 ((fenF x md) a b)).to⟩:=by rw [zk4];exact f
  refine⟨Nat,fun k=>⟨[(1,u8 md),(2,At0 L),(4,At0 (L+1)),(5,i64 n),(6,At0 R),(7,i64 (k:Nat))],[]⟩,fun k Z=>k<=n/\RelH Z R ⟨n,(zaP n fun a b=>anyQ k ((fenF x md) a b)).to⟩/\ExH Z L x q c/\RelH Z (L+1) zam/\Bw w Z,fun k=>n-k,0,(cvE rfl rfl),⟨Nat.zero_le _,f,fX,f0,hbX⟩,?_⟩;clear f fX f0 hbX;clear X;rintro k X ⟨hk,f,fX,f0,hbX⟩;dsimp only at f ⊢;refine biE (fun hc=>?_) fun hc=>?_
  ·have hc:(k:Int)<(n:Int):=dT hc;have hkn:k<n:=by omega
   obtain⟨bq,oq,hqe,hbq,hat⟩:=zd7 (hv.below hbX).ev (by omega:0<x.ev.length);subst hqe;refine biE (fun h1=>?_) fun h1=>?_
   ·have h1:=notB ((zkB (a:=md.toNat) (b:=3)).symm.trans h1);refine brT ?_;refine brT ?_;refine brT ?_;have hf:fenQ x md k=false:=(by simp [fenQ,h1]);have hs:(zaP n fun a b=>anyQ (k+1) ((fenF x md) a b)).to=(zaP n fun a b=>anyQ k ((fenF x md) a b)).to:=zga fun a b=>by unfold fenF;rw [hf];rfl
    refine nxI (by omega) ?_;exact⟨k+1,(cvE rfl rfl),⟨hkn,by rw [hs];exact f,fX,f0,hbX⟩,zdc (by omega)⟩
   ·have h1:=notF ((zkB (a:=md.toNat) (b:=3)).symm.trans h1);refine biE (fun h2=>?_) fun h2=>?_
    ·have h2:=notB ((zkB (a:=5) (b:=md.toNat)).symm.trans h2);refine brT ?_;refine brT ?_;have hf:fenQ x md k=false:=(by simp [fenQ,h1,h2]);have hs:(zaP n fun a b=>anyQ (k+1) ((fenF x md) a b)).to=(zaP n fun a b=>anyQ k ((fenF x md) a b)).to:=zga fun a b=>by unfold fenF;rw [hf];rfl
     refine nxI (by omega) ?_;exact⟨k+1,(cvE rfl rfl),⟨hkn,by rw [hs];exact f,fX,f0,hbX⟩,zdc (by omega)⟩
    ·have h2:=notF ((zkB (a:=5) (b:=md.toNat)).symm.trans h2);refine⟨_,zaz (zab fX),?_⟩;refine⟨k,rfl,by omega,?_⟩;refine⟨_,zc7 (hat k (by omega)),?_⟩;refine biE (fun h3=>?_) fun h3=>?_
     ·have h3:=zdE.symm.trans (notB h3);refine brT ?_;have hf:fenQ x md k=false:=(by simp [fenQ,h1,h2,h3]);have hs:(zaP n fun a b=>anyQ (k+1) ((fenF x md) a b)).to=(zaP n fun a b=>anyQ k ((fenF x md) a b)).to:=zga fun a b=>by unfold fenF;rw [hf];rfl
      refine nxI (by omega) ?_;exact⟨k+1,(cvE rfl rfl),⟨hkn,by rw [hs];exact f,fX,f0,hbX⟩,zdc (by omega)⟩
     ·have h3:=zdE.symm.trans (notF h3);refine⟨_,zaz (zab fX),?_⟩;refine⟨k,rfl,by omega,?_⟩;refine⟨_,zsr (hat k (by omega)),?_⟩;refine biE (fun h4=>?_) fun h4=>?_
      ·have h4:=za4.symm.trans (notB h4);have hf:fenQ x md k=false:=(by simp [fenQ,h1,h2,h3,h4]);have hs:(zaP n fun a b=>anyQ (k+1) ((fenF x md) a b)).to=(zaP n fun a b=>anyQ k ((fenF x md) a b)).to:=zga fun a b=>by unfold fenF;rw [hf];rfl
       refine nxI (by omega) ?_;exact⟨k+1,(cvE rfl rfl),⟨hkn,by rw [hs];exact f,fX,f0,hbX⟩,zdc (by omega)⟩
      ·have h4:=za4.symm.trans (notF h4);have hf:fenQ x md k=true:=(by simp [fenQ,h1,h2,h3,h4]);clear hbq hat h1 h2 h3 h4;obtain⟨base,hbase⟩:=nm ((zaP n fun a b=>anyQ k ((fenF x md) a b)).to);have hbw:WrdR base:=(by rw [hbase];exact bits k);obtain⟨p,hp⟩:∃ p:Nat->Nat->Bool,p=fun a b=>(fenF x md) a b k:=⟨_,rfl⟩;have step:(zaP n fun a b=>anyQ (k+1) ((fenF x md) a b)).to=zaR base n p n 0:=(by rw [hp,hbase];exact ziC.symm);rw [<- hbase] at f;refine⟨Nat,fun a=>⟨[(1,u8 md),(2,At0 L),(4,At0 (L+1)),(5,i64 n),(6,At0 R),(7,i64 (k:Nat)),(8,i64 (a:Nat))],[]⟩,fun a Z=>a<=n/\RelH Z R ⟨n,zaR base n p a 0⟩/\ExH Z L x (some ⟨bq,oq,none⟩) c/\RelH Z (L+1) zam/\Bw w Z,fun a=>n-a,0,(cvE rfl rfl),⟨Nat.zero_le _,by rw [zb4];exact f,fX,f0,hbX⟩,?_⟩;clear f fX f0 hbX;clear X;rintro a X ⟨ha,f,fX,f0,hbX⟩;dsimp only at f ⊢;refine biE (fun hc=>?_) fun hc=>?_
       ·have hc:(a:Int)<(n:Int):=dT hc;have han:a<n:=(by omega);refine⟨Nat,fun d=>⟨[(1,u8 md),(2,At0 L),(4,At0 (L+1)),(5,i64 n),(6,At0 R),(7,i64 (k:Nat)),(8,i64 (a:Nat)),(9,i64 (d:Nat))],[]⟩,fun d Z=>d<=n/\RelH Z R ⟨n,zaR base n p a d⟩/\ExH Z L x (some ⟨bq,oq,none⟩) c/\RelH Z (L+1) zam/\Bw w Z,fun d=>n-d,0,(cvE rfl rfl),⟨Nat.zero_le _,f,fX,f0,hbX⟩,?_⟩;clear f fX f0 hbX;clear X;rintro d X ⟨hd,f,fX,f0,hbX⟩;dsimp only at f ⊢;refine biE (fun hc=>?_) fun hc=>?_
        ·have hc:(d:Int)<(n:Int):=dT hc;have hdn:d<n:=(by omega);refine⟨_,zad _,r_po fX,hlt fX,?_⟩;refine cmo (zaX hv.po (by omega) (by omega)) ?_;rintro e U ⟨rfl,hbU⟩;have f:=zaa hbU f;have fX:=zaa hbU fX;have f0:=zaa hbU f0;replace hbX:=zst hbX hbU;refine biE (fun h1=>?_) fun h1=>?_
         ·refine⟨_,zad _,r_po fX,hlt fX,?_⟩;refine cmo (zaX hv.po (by omega) (by omega)) ?_;rintro e U ⟨rfl,hbU⟩;have f:=zaa hbU f;have fX:=zaa hbU fX;have f0:=zaa hbU f0;replace hbX:=zst hbX hbU;refine biE (fun h2=>?_) fun h2=>?_
          ·have hpt:p a d=true:=(by rw [hp];simp [h1,h2,hf,fenF]);refine⟨_,zad ⟨n,zaR base n p a d⟩,zab f,hlt f,?_⟩;refine cmo (zeK (a:=a) (d:=d) (zbW hbw (by omega) (by omega)) (by omega) (by omega)) ?_;rintro e U ⟨rfl,hbU⟩;rw [putB hpt];refine zcb (zaa hbU f) (by omega) ((zst hbX hbU)) fun Z fZ oZ bZ=>?_;refine nxI (by omega) ?_;exact⟨d+1,(cvE rfl rfl),⟨hdn,fZ,(oZ L (by omega)).trans (zaa hbU fX),(oZ (L+1) (by omega)).trans (zaa hbU f0),bZ⟩,zdc (by omega)⟩
          ·have hpf:p a d=false:=(by rw [hp];simp [h1,h2,hf,fenF]);refine nxI (by omega) ?_;exact⟨d+1,(cvE rfl rfl),⟨hdn,by rw [<- zaO hpf];exact f,fX,f0,hbX⟩,zdc (by omega)⟩
         ·refine brF ?_;have hpf:p a d=false:=(by rw [hp];simp [h1,hf,fenF]);refine nxI (by omega) ?_;exact⟨d+1,(cvE rfl rfl),⟨hdn,by rw [<- zaO hpf];exact f,fX,f0,hbX⟩,zdc (by omega)⟩
        ·have hc:¬ (d:Int)<(n:Int):=dF hc;obtain rfl:d=n:=(by omega);refine nxI (by omega) ?_;exact⟨a+1,(cvE rfl rfl),⟨han,by rw [<- zb5];exact f,fX,f0,hbX⟩,zdc (by omega)⟩
       ·have hc:¬ (a:Int)<(n:Int):=dF hc;obtain rfl:a=n:=(by omega);refine nxI (by omega) ?_;exact⟨k+1,(cvE rfl rfl),⟨hkn,by rw [step];exact f,fX,f0,hbX⟩,zdc (by omega)⟩
  ·have hc:¬ (k:Int)<(n:Int):=dF hc;obtain rfl:k=n:=by omega
   have er:(⟨k,(zaP k fun a b=>anyQ k ((fenF x md) a b)).to⟩:RelD)=zaT x md:=by rw [hnn];rfl
   rw [er] at f;exact⟨(),(cvE rfl rfl),f,f0,hbX⟩
 clear f fX f0 hbX;clear X;rintro _ X ⟨f,f0,hbX⟩;refine⟨relC (zaT x md),zad _,zab f,hlt f,?_⟩;exact zbF f0 (by omega) hbX fun Z fZ bZ=>⟨relC (zaT x md),zad _,zab fZ,rfl,bZ⟩
end
end Go.Proofs.YtmbghmhjjodgmaaGreatDoor
