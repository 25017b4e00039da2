/- Contracts of functions, and plain facts, for the law that the last text of this claim proves. -/
import Derived.Test.YtkpaomeeknegpaaGreatDoorR6
import Derived.Test.YtkpaomeeknegpaaGreatDoorR5
import Derived.Test.YtkpaomeeknegpaaGreatDoorR2
import Derived.Test.YtkpaomeeknegpaaGreatDoorR1
import Derived.LaidEql
set_option linter.unusedSimpArgs false
set_option linter.unusedVariables false
namespace Go.Proofs.YtkpaomeeknegpaaGreatDoor
open Go.Vc Go.RowKit Go.Sei
abbrev zcO:List Value:=[.nilFunc,.func (.func 120) #[] #[],.func (.func 121) #[] #[],.func (.func 122) #[] #[],.func (.func 126) #[] #[],.func (.func 127) #[] #[],.func (.func 129) #[] #[]]
section
variable {b c:Nat} {x:ExD} {q:OA} {w:Wd} {f l s:RelD}
theorem zrv:CB 94 #[] w (.agg zcO.toArray):=by
 refine qj 8 [] (.c .p .p) Tryz.func94 ?_;obtain⟨L,hL⟩:=nm (w.heap.size);refine⟨Unit,fun _=>⟨[(0,At0 L)],[]⟩,fun _ X=>X.heap[L]?=some (.cells #[.nilFunc,.nilFunc,.nilFunc,.nilFunc,.nilFunc,.nilFunc,.nilFunc] 162 (0,0))/\Bw w X,⟨(),⟨.cons (by rw [hL];rfl) .nil,rfl⟩,by rw [hL];exact zu w _,(zba w _)⟩,?_⟩;rintro _ X ⟨f0,hbX⟩;refine⟨[.func (.func 120) #[] #[]],by kernel_rfl,?_⟩;refine⟨[.func (.func 121) #[] #[]],by kernel_rfl,?_⟩;refine⟨[.func (.func 122) #[] #[]],by kernel_rfl,?_⟩;refine⟨[.func (.func 126) #[] #[]],by kernel_rfl,?_⟩;refine⟨[.func (.func 127) #[] #[]],by kernel_rfl,?_⟩;refine⟨[.func (.func 129) #[] #[]],by kernel_rfl,?_⟩;refine⟨zcO,by kernel_rfl,?_⟩;refine zt (v := .agg zcO.toArray) zuK f0 rfl rfl rfl ?_;exact⟨zcO,rfl,za (zm f0),rfl,zl hbX (by omega) _⟩
theorem zdK {S Rb Mb Sv g a d:Nat} {m:UInt8} {K:Bool} (hs:ScnV w S x q c f l s) (fSv:w.heap[Sv]?=some (.cells #[At0 S] 155 (0,0))) (fR:w.heap[Rb]?=some (.cells zcO.toArray 162 (0,0))) (fM:w.heap[Mb]?=some (.cells #[u8 m] 5 (0,0)))
  (hm7:m.toNat<7) (hm:zcO[m.toNat]?=some (.func (.func g) #[] #[])) (hok:jS (sg 0) g=true) (hK:∀ X,Bw w X->Calls PG g #[At0 S,i64 (a:Nat),i64 (d:Nat)] X fun e Y=>e = .returned (.bool K)/\Bw X Y) (ha:a<x.ev.length) (hd:d<x.ev.length) :
  CB 95 #[i64 (a:Nat),i64 (d:Nat),At0 Sv,At0 Rb,At0 Mb] w (.bool (zh x.po a d&&(zaE x a&&(zaE x d&&K)))):=by
 refine zI 47 [i64 (a:Nat),i64 (d:Nat),At0 Sv,At0 Rb,At0 Mb] Tryz.func95 ?_;have hn:=hs.v.n;have fx:=hs.cells;obtain⟨bq,oq,hqe,hb,hat⟩:=zck hs.v.ev ha;obtain⟨bq2,oq2,hqe2,hb2,hat2⟩:=zck hs.v.ev hd;rw [hqe] at hqe2;simp only [KZ,Uu,Gk] at hqe2;rw [<- hqe2.1,<- hqe2.2] at hat2;have hpo:=hs.v.po;subst hqe;have dw:Bw w w.drew:=(Gd _ _).drew;refine DrawE.ord [] [0,1,2,3,4,5,6,7,8,9,10,11,12,13,14,15,16,17,18,19,20,21,22,23,24,25,26,27,28,29,30,31,32,33,34,35,36,37,38,39] (by kernel_rfl) ?_;refine⟨At0 S,zc (za (hdr fSv)) (i:=0) rfl,?_⟩;refine cmo (zX (zfI (zq dw fx) (zqt x _ c)) hpo (by omega) (by omega)) ?_;rintro e _ ⟨rfl,rfl⟩;refine⟨Gd _ _,?_⟩;refine biE (fun h1=>?_) fun h1=>?_
 ·have h1:zh x.po a d=true:=h1;refine⟨At0 S,zc (za (hdr fSv)) (i:=0) rfl,?_⟩;refine⟨_,j5 (zq dw fx),?_⟩;refine⟨a,rfl,ha,?_⟩;refine⟨evE.enc (evA x a),rfl,zq dw hat,nL hb dw.size,?_⟩;refine cmo zff ?_;rintro e X ⟨rfl,hbX⟩;refine⟨hbX,?_⟩;have bX:=dw.trans hbX;rw [zjY];refine biE (fun h2=>?_) fun h2=>?_
  ·have h2:zaE x a=true:=h2;refine⟨At0 S,zc (za (zb bX fSv)) (i:=0) rfl,?_⟩;refine⟨_,j5 (zq bX fx),?_⟩;refine⟨d,rfl,hd,?_⟩;refine⟨evE.enc (evA x d),rfl,zq bX hat2,nL hb bX.size,?_⟩;refine cmo zff ?_;rintro e Y ⟨rfl,hbY⟩;refine⟨hbY,?_⟩;have bY:=zst bX hbY;rw [zjY];refine biE (fun h3=>?_) fun h3=>?_
   ·have h3:zaE x d=true:=h3;refine⟨u8 m,zc (za (zb bY fM)) (i:=0) rfl,?_⟩;refine⟨m.toNat,rfl,hm7,?_⟩;refine⟨.func (.func g) #[] #[],by have:=zc (za (zb bY fR)) (i:=m.toNat) (v := .func (.func g) #[] #[]) hm;rw [UZ];exact this,?_⟩;refine⟨At0 S,zc (za (zb bY fSv)) (i:=0) rfl,?_⟩;refine zhX hok (hK Y bY) ?_;rintro e Z ⟨rfl,hbZ⟩;refine⟨_,rfl,hbZ,?_⟩;exact⟨rb (by rw [h1,h2,h3];rfl),(zst bY hbZ)⟩
   ·have h3:zaE x d=false:=h3;exact⟨rb (by rw [h1,h2,h3];rfl),bY⟩
  ·have h2:zaE x a=false:=h2;refine brF ?_;exact⟨rb (by rw [h1,h2];rfl),bX⟩
 ·have h1:zh x.po a d=false:=h1;refine brF ?_;refine brF ?_;exact⟨rb (by rw [h1];rfl),dw⟩
theorem zk5 {m:UInt8} (h:zai m.toNat=true):m=1\/m=2\/m=3\/m=4\/m=5\/m=6:=by
 unfold zai at h;rw [bAT,dE,dE] at h;simp only [<- Ug];show m.toNat=1\/m.toNat=2\/m.toNat=3\/m.toNat=4\/m.toNat=5\/m.toNat=6;omega
theorem zrU {S Rb Mb Sv a d:Nat} {m:UInt8} (hk:zai m.toNat=true) (hs:ScnV w S x q c f l s) (fSv:w.heap[Sv]?=some (.cells #[At0 S] 155 (0,0))) (fR:w.heap[Rb]?=some (.cells zcO.toArray 162 (0,0))) (fM:w.heap[Mb]?=some (.cells #[u8 m] 5 (0,0)))
  (ha:a<x.ev.length) (hd:d<x.ev.length) :
  CB 95 #[i64 (a:Nat),i64 (d:Nat),At0 Sv,At0 Rb,At0 Mb] w (.bool (zh x.po a d&&(zaE x a&&(zaE x d&&zeV m.toNat x f l s a d)))):=by
 rcases zk5 hk with rfl | rfl | rfl | rfl | rfl | rfl
 ·exact zdK (g:=120) hs fSv fR fM (by decide) rfl (by kernel_rfl) (fun X hb=>zrB) ha hd
 ·exact zdK (g:=121) hs fSv fR fM (by decide) rfl (by kernel_rfl) (fun X hb=>zrA) ha hd
 ·exact zdK (g:=122) hs fSv fR fM (by decide) rfl (by kernel_rfl) (fun X hb=>zrz (hs.below hb) ha hd) ha hd
 ·exact zdK (g:=126) hs fSv fR fM (by decide) rfl (by kernel_rfl) (fun X hb=>zry (hs.below hb) ha hd) ha hd
 ·exact zdK (g:=127) hs fSv fR fM (by decide) rfl (by kernel_rfl) (fun X hb=>zrx (hs.below hb) ha hd) ha hd
 ·exact zdK (g:=129) hs fSv fR fM (by decide) rfl (by kernel_rfl) (fun X hb=>zrw (hs.below hb) ha hd) ha hd
theorem zjn {X:Wd} {S o:Nat} {T:TypeId} {A Z:List Value} {r0 r:RelD} (h:X.heap[S]?=some (.cells (A++(zf r0++Z)).toArray T (0,0))) (hA:A.length=o) {K:Wd->Prop}
  (k:∀ Y,Y.heap[S]?=some (.cells (A++(zf r++Z)).toArray T (0,0))->X.grownBy Y (some S)->Y.heap.size=X.heap.size->K Y) :
  SatR ((storeVar 39 ⟨S,0+o,none⟩ (.agg (zf r).toArray)).run PG X) fun _ w'=>K w':=by
 rw [US];refine j3 k39 h (o:=o) (v := .agg (zf r).toArray) (zg _) (by show o+(zf r).length<=(A++(zf r0++Z)).length;rw [lap,lap,zg,zg];omega) (zC _) fun Y fY gY sY=>k Y (fY.trans ?_) gY sY;show some (Obj.cells ((A++(zf r0++Z)).take o++zf r++(A++(zf r0++Z)).drop (o+(zf r).length)).toArray T (0,0))=_;congr 3;rw [<- hA,List.take_left,zg,KO,<- Uk,Ul,<- zg r0,Ul]
theorem ztM {m:UInt8} (hk:zai m.toNat=true) (fx:ExH w b x q c) (hv:ExW w x q) (hT:Tz64M w):CB 57 #[u8 m,At0 b] w (.agg (zf (zaA m.toNat x)).toArray):=by
 refine qj 35 [u8 m,At0 b] (.c .p (.c .p (.c .p (.c .p (.c .p .p))))) Tryz.func57 ?_;obtain⟨L,hL⟩:=nm (w.heap.size);have hn:=hv.n;refine⟨Unit,fun _=>⟨[(1,At0 b),(2,At0 L),(4,At0 (L+1))],[]⟩,fun _ X=>X.heap[L]?=some (.cells #[u8 m] 5 (0,0))/\zS X (L+1) zw/\X.heap.size=L+2/\Bw w X,?_,?_⟩
 ·have s1:=wz w (.cells #[u8 m] 5);have h2:=zu (w.alloc (.cells #[u8 m] 5)) (.cells (zf zw).toArray 39);have s2:=wz (w.alloc (.cells #[u8 m] 5)) (.cells (zf zw).toArray 39);rw [s1] at h2 s2;have b1:Bw w (w.alloc (.cells #[u8 m] 5)):=zba w _;exact⟨(),⟨.cons rfl (.cons (by rw [hL];rfl) (.cons (by rw [hL,<- s1];rfl) .nil)),rfl⟩,by rw [hL];exact qB _ (zu w _),by rw [hL];exact h2,by rw [hL];exact s2,b1.alloc b1.size _⟩
 rintro _ X ⟨fM,f0,sX,hbX⟩;have fX:=zb hbX fx;refine⟨Unit,fun _=>⟨[(1,At0 b),(2,At0 L),(4,At0 (L+1)),(5,At0 (L+3))],[]⟩,fun _ Y=>Y.heap[L+2]?=some (.cells (exC x q c++(zf zw++(zf zw++zf zw))).toArray 157 (0,0))/\Y.heap[L+3]?=some (.cells #[At0 (L+2)] 155 (0,0))/\Y.heap.size=L+4/\Bw X Y,?_,?_⟩
 ·refine⟨exC x q c,zA _ _ _,za fX,hlt fX,?_⟩;refine⟨exC x q c++(zf zw++(zf zw++zf zw)),by kernel_rfl,?_⟩;have s3:=wz X (.cells (exC x q c++(zf zw++(zf zw++zf zw))).toArray 157);refine zo (X:=X.alloc (.cells (exC x q c++(zf zw++(zf zw++zf zw))).toArray 157)) (v := .pointer (some ⟨X.heap.size,0,none⟩)) zvl rfl rfl rfl fun Z hbZ fZ sZ=>?_;rw [s3] at fZ sZ;rw [sX] at fZ sZ s3;have b1:Bw X (X.alloc (.cells (exC x q c++(zf zw++(zf zw++zf zw))).toArray 157)):=zba X _;refine⟨(),⟨.cons rfl (.cons rfl (.cons rfl (.cons (by rw [<- s3];rfl) .nil))),rfl⟩,?_,fZ,sZ,(zst b1 hbZ)⟩;refine zb hbZ ?_;rw [<- sX];exact zu X _
 rintro _ Y ⟨fS,fP,sY,hbY⟩;have hbwY:=zst hbX hbY;have fY:=zb hbwY fx;replace fM:=zb hbY fM;replace f0:=zb hbY f0;have hwX:=hbX.size;have hbL:b<L:=by rw [hL];exact hlt fx
 refine⟨Unit,fun _=>⟨[(1,At0 b),(2,At0 L),(4,At0 (L+1)),(5,At0 (L+3))],[]⟩,fun _ Z=>ScnV Z (L+2) x q c (zU x 3) (zU x 4) (zU x 5)/\Z.heap[L+3]?=some (.cells #[At0 (L+2)] 155 (0,0))/\Z.heap[L]?=some (.cells #[u8 m] 5 (0,0))/\zS Z (L+1) zw/\ExH Z b x q c/\L+4<=Z.heap.size/\Bw w Z,?_,?_⟩
 ·have dY:Bw Y Y.drew:=(Gd _ _).drew;obtain⟨Y1,hY1⟩:=nm (Y.drew);have bY1:Bw Y Y1:=by rw [hY1];exact dY
  have ld0:∀ {W},Bw Y W->W.cell? ⟨L+3,0,none⟩=some (At0 (L+2)):=fun hW=>by
   have h2:=zc (za (zb hW fP)) (i:=0) (v:=At0 (L+2)) rfl;exact h2
  have fen:∀ (md:UInt8) {W},Bw Y W->CB 93 #[At0 b,u8 md] W (.agg (zf (zU x md)).toArray):=fun md {W} hW =>
   have h2:=zst hbwY hW
   zqq (zb h2 fx) (hv.below h2) (hT.below h2)
  have ld1:∀ W,(∃ C,Bw Y C/\C.grownBy W (some (L+2)))->W.cell? ⟨L+3,0,none⟩=some (At0 (L+2)):=fun W ⟨C,bC,hW⟩=>by
   have fPC:=zb bC fP;have:=(hW.block (L+3) (hlt fPC) (by simp)).trans fPC;have h2:=zc (za this) (i:=0) (v:=At0 (L+2)) rfl;exact h2
  have s1:∀ {C},Bw Y C->∀ {K:Wd->Prop},(∀ D,(D.heap[L+2]?=some (.cells ((exC x q c++zf (zU x 3))++(zf zw++zf zw)).toArray 157 (0,0))/\∃ C,Bw Y C/\C.grownBy D (some (L+2)))->K D)->SatR ((storeVar 39 ⟨L+2,0+333,none⟩ (.agg (zf (zU x 3)).toArray)).run PG C) fun _ w'=>K w':=fun {C} bC {K} k =>
   zjn (o:=333) (A:=exC x q c) (Z:=zf zw++zf zw) (r:=zU x 3) (zb bC fS) (zA _ _ _) fun D fD gD sD=>k D ⟨by rw [fD];simp only [KO],C,bC,gD⟩
  have s2:∀ D,(D.heap[L+2]?=some (.cells ((exC x q c++zf (zU x 3))++(zf zw++zf zw)).toArray 157 (0,0))/\∃ C,Bw Y C/\C.grownBy D (some (L+2)))->∀ {K:Wd->Prop},(∀ F,(F.heap[L+2]?=some (.cells ((exC x q c++(zf (zU x 3)++zf (zU x 4)))++(zf zw++[])).toArray 157 (0,0))/\∃ C,Bw Y C/\C.grownBy F (some (L+2)))->K F)->SatR ((storeVar 39 ⟨L+2,0+382,none⟩ (.agg (zf (zU x 4)).toArray)).run PG D) fun _ w'=>K w':=fun D ⟨fD,C,bC,gD⟩ {K} k =>
   zjn (o:=382) (A:=exC x q c++zf (zU x 3)) (Z:=zf zw) (r:=zU x 4) fD (by rw [lap,zA,zg]) fun F fF gF sF=>k F ⟨by rw [fF];simp only [KO,QK],C,bC,zd gD gF⟩
  have pw:∀ md,zH (zU x md).to:=fun md=>zdb (zdb hv.po fun i hi=>by
   unfold idR;refine zdT (fun i _ h48=>?_) i hi;exact KE Qx (z3 (by omega))) hv.po
  have s3:∀ F,(F.heap[L+2]?=some (.cells ((exC x q c++(zf (zU x 3)++zf (zU x 4)))++(zf zw++[])).toArray 157 (0,0))/\∃ C,Bw Y C/\C.grownBy F (some (L+2)))->∀ {K:Wd->Prop},(∀ G,(ScnV G (L+2) x q c (zU x 3) (zU x 4) (zU x 5)/\G.heap[L+3]?=some (.cells #[At0 (L+2)] 155 (0,0))/\G.heap[L]?=some (.cells #[u8 m] 5 (0,0))/\zS G (L+1) zw/\ExH G b x q c/\L+4<=G.heap.size/\Bw w G)->K G)->SatR ((storeVar 39 ⟨L+2,0+431,none⟩ (.agg (zf (zU x 5)).toArray)).run PG F) fun _ w'=>K w':=fun F ⟨fF,C,bC,gF⟩ {K} k =>
   zjn (o:=431) (A:=exC x q c++(zf (zU x 3)++zf (zU x 4))) (Z:=[]) (r:=zU x 5) fF (by rw [lap,lap,zA,zg,zg]) fun G fG gG sG=>k G (by
    have gCG:C.grownBy G (some (L+2)):=zd gF gG;have bwC:=zst hbwY bC;have bCG:Below w.heap.size C G:=zk gCG bwC.size (by omega);have bwG:Bw w G:=bwC.trans bCG;have keep:∀ {j:Nat} {o:Obj},j≠L+2->Y.heap[j]?=some o->G.heap[j]?=some o:=fun {j o} hj h=>by
     have h2:=zb bC h;exact (gCG.block j (hlt h2) (by simpa using hj)).trans h2
    refine⟨⟨?_,hv.below bwG,pw 3,pw 4,pw 5⟩,keep (by omega) fP,keep (by omega) fM,keep (by omega) f0,keep (by omega) fY,by have:=bC.size;have:=gCG.size;omega,bwG⟩;rw [fG];simp only [KO,QK])
  refine DrawE.treeR [11,14,17] (.op 0 (.op 3 (.op 5 (.op 7 (.alt (.op 4 (.alt (.op 6 (.alt (.op 8 (.op 9 (.op 10 (.alt (.op 11 (.alt (.op 1 (.op 12 (.op 13 (.alt (.op 14 (.op 2 (.op 15 (.op 16 (.op 17 (.nil)))))) (.op 2 (.op 14 (.op 15 (.op 16 (.op 17 (.nil)))))))))) (.op 2 (.op 1 (.op 12 (.op 13 (.op 14 (.op 15 (.op 16 (.op 17 (.nil))))))))))) (.alt (.op 1 (.alt (.op 11 (.op 12 (.op 13 (.alt (.op 14 (.op 2 (.op 15 (.op 16 (.op 17 (.nil)))))) (.op 2 (.op 14 (.op 15 (.op 16 (.op 17 (.nil)))))))))) (.op 2 (.op 11 (.op 12 (.op 13 (.op 14 (.op 15 (.op 16 (.op 17 (.nil))))))))))) (.op 2 (.alt (.op 11 (.op 1 (.op 12 (.op 13 (.op 14 (.op 15 (.op 16 (.op 17 (.nil))))))))) (.op 1 (.op 11 (.op 12 (.op 13 (.op 14 (.op 15 (.op 16 (.op 17 (.nil)))))))))))))))) (.alt (.op 1 (.alt (.op 8 (.op 9 (.op 10 (.alt (.op 11 (.op 12 (.op 13 (.alt (.op 14 (.op 2 (.op 15 (.op 16 (.op 17 (.nil)))))) (.op 2 (.op 14 (.op 15 (.op 16 (.op 17 (.nil)))))))))) (.op 2 (.op 11 (.op 12 (.op 13 (.op 14 (.op 15 (.op 16 (.op 17 (.nil))))))))))))) (.op 2 (.op 8 (.op 9 (.op 10 (.op 11 (.op 12 (.op 13 (.op 14 (.op 15 (.op 16 (.op 17 (.nil)))))))))))))) (.op 2 (.alt (.op 8 (.op 9 (.op 10 (.alt (.op 11 (.op 1 (.op 12 (.op 13 (.op 14 (.op 15 (.op 16 (.op 17 (.nil))))))))) (.op 1 (.op 11 (.op 12 (.op 13 (.op 14 (.op 15 (.op 16 (.op 17 (.nil))))))))))))) (.op 1 (.op 8 (.op 9 (.op 10 (.op 11 (.op 12 (.op 13 (.op 14 (.op 15 (.op 16 (.op 17 (.nil))))))))))))))))) (.alt (.op 1 (.alt (.op 6 (.alt (.op 8 (.op 9 (.op 10 (.alt (.op 11 (.op 12 (.op 13 (.alt (.op 14 (.op 2 (.op 15 (.op 16 (.op 17 (.nil)))))) (.op 2 (.op 14 (.op 15 (.op 16 (.op 17 (.nil)))))))))) (.op 2 (.op 11 (.op 12 (.op 13 (.op 14 (.op 15 (.op 16 (.op 17 (.nil))))))))))))) (.op 2 (.op 8 (.op 9 (.op 10 (.op 11 (.op 12 (.op 13 (.op 14 (.op 15 (.op 16 (.op 17 (.nil)))))))))))))) (.op 2 (.op 6 (.op 8 (.op 9 (.op 10 (.op 11 (.op 12 (.op 13 (.op 14 (.op 15 (.op 16 (.op 17 (.nil))))))))))))))) (.op 2 (.alt (.op 6 (.alt (.op 8 (.op 9 (.op 10 (.alt (.op 11 (.op 1 (.op 12 (.op 13 (.op 14 (.op 15 (.op 16 (.op 17 (.nil))))))))) (.op 1 (.op 11 (.op 12 (.op 13 (.op 14 (.op 15 (.op 16 (.op 17 (.nil))))))))))))) (.op 1 (.op 8 (.op 9 (.op 10 (.op 11 (.op 12 (.op 13 (.op 14 (.op 15 (.op 16 (.op 17 (.nil)))))))))))))) (.op 1 (.op 6 (.op 8 (.op 9 (.op 10 (.op 11 (.op 12 (.op 13 (.op 14 (.op 15 (.op 16 (.op 17 (.nil)))))))))))))))))) (.alt (.op 1 (.alt (.op 4 (.alt (.op 6 (.alt (.op 8 (.op 9 (.op 10 (.alt (.op 11 (.op 12 (.op 13 (.alt (.op 14 (.op 2 (.op 15 (.op 16 (.op 17 (.nil)))))) (.op 2 (.op 14 (.op 15 (.op 16 (.op 17 (.nil)))))))))) (.op 2 (.op 11 (.op 12 (.op 13 (.op 14 (.op 15 (.op 16 (.op 17 (.nil))))))))))))) (.op 2 (.op 8 (.op 9 (.op 10 (.op 11 (.op 12 (.op 13 (.op 14 (.op 15 (.op 16 (.op 17 (.nil)))))))))))))) (.op 2 (.op 6 (.op 8 (.op 9 (.op 10 (.op 11 (.op 12 (.op 13 (.op 14 (.op 15 (.op 16 (.op 17 (.nil))))))))))))))) (.op 2 (.op 4 (.op 6 (.op 8 (.op 9 (.op 10 (.op 11 (.op 12 (.op 13 (.op 14 (.op 15 (.op 16 (.op 17 (.nil)))))))))))))))) (.op 2 (.alt (.op 4 (.alt (.op 6 (.alt (.op 8 (.op 9 (.op 10 (.alt (.op 11 (.op 1 (.op 12 (.op 13 (.op 14 (.op 15 (.op 16 (.op 17 (.nil))))))))) (.op 1 (.op 11 (.op 12 (.op 13 (.op 14 (.op 15 (.op 16 (.op 17 (.nil))))))))))))) (.op 1 (.op 8 (.op 9 (.op 10 (.op 11 (.op 12 (.op 13 (.op 14 (.op 15 (.op 16 (.op 17 (.nil)))))))))))))) (.op 1 (.op 6 (.op 8 (.op 9 (.op 10 (.op 11 (.op 12 (.op 13 (.op 14 (.op 15 (.op 16 (.op 17 (.nil))))))))))))))) (.op 1 (.op 4 (.op 6 (.op 8 (.op 9 (.op 10 (.op 11 (.op 12 (.op 13 (.op 14 (.op 15 (.op 16 (.op 17 (.nil)))))))))))))))))))))) (by kernel_rfl) ?_;rw [<- hY1];refine⟨At0 (L+2),ld0 bY1,?_⟩;refine Gi ?_ (Gi ?_ ?_)
  ·refine cmo (fen 3 bY1) ?_;rintro e A ⟨rfl,hbA⟩;refine⟨hbA,?_⟩;have bA:=zst bY1 hbA;refine Gi ?_ (Gi ?_ ?_)
   ·refine cmo (fen 4 bA) ?_;rintro e B ⟨rfl,hbB⟩;refine⟨hbB,?_⟩;have bB:=zst bA hbB;refine Gi ?_ (Gi ?_ ?_)
    ·refine cmo (fen 5 bB) ?_;rintro e C ⟨rfl,hbC⟩;refine⟨hbC,?_⟩;have bC:=zst bB hbC;refine Gi ?_ (Gi ?_ ?_)
     ·refine s1 bC fun D hD=>?_;refine Gi ?_ ?_
      ·refine⟨At0 (L+2),ld1 D hD.2,?_⟩;refine Gi ?_ ?_
       ·refine s2 D hD fun F hF=>?_;refine⟨At0 (L+2),ld1 F hF.2,?_⟩;refine s3 F hF fun G hG=>?_;exact⟨(),(cvE rfl rfl),hG⟩
       ·refine⟨At0 (L+2),ld1 D hD.2,?_⟩;refine s2 D hD fun F hF=>?_;refine s3 F hF fun G hG=>?_;exact⟨(),(cvE rfl rfl),hG⟩
      ·refine⟨At0 (L+2),ld1 D hD.2,?_⟩;refine⟨At0 (L+2),ld1 D hD.2,?_⟩;refine s2 D hD fun F hF=>?_;refine s3 F hF fun G hG=>?_;exact⟨(),(cvE rfl rfl),hG⟩
     ·refine⟨At0 (L+2),ld0 bC,?_⟩;refine Gi ?_ ?_
      ·refine s1 bC fun D hD=>?_;refine Gi ?_ ?_
       ·refine s2 D hD fun F hF=>?_;refine⟨At0 (L+2),ld1 F hF.2,?_⟩;refine s3 F hF fun G hG=>?_;exact⟨(),(cvE rfl rfl),hG⟩
       ·refine⟨At0 (L+2),ld1 D hD.2,?_⟩;refine s2 D hD fun F hF=>?_;refine s3 F hF fun G hG=>?_;exact⟨(),(cvE rfl rfl),hG⟩
      ·refine⟨At0 (L+2),ld0 bC,?_⟩;refine s1 bC fun D hD=>?_;refine s2 D hD fun F hF=>?_;refine s3 F hF fun G hG=>?_;exact⟨(),(cvE rfl rfl),hG⟩
     ·refine⟨At0 (L+2),ld0 bC,?_⟩;refine Gi ?_ ?_
      ·refine s1 bC fun D hD=>?_;refine⟨At0 (L+2),ld1 D hD.2,?_⟩;refine s2 D hD fun F hF=>?_;refine s3 F hF fun G hG=>?_;exact⟨(),(cvE rfl rfl),hG⟩
      ·refine⟨At0 (L+2),ld0 bC,?_⟩;refine s1 bC fun D hD=>?_;refine s2 D hD fun F hF=>?_;refine s3 F hF fun G hG=>?_;exact⟨(),(cvE rfl rfl),hG⟩
    ·refine⟨At0 (L+2),ld0 bB,?_⟩;refine Gi ?_ ?_
     ·refine cmo (fen 5 bB) ?_;rintro e C ⟨rfl,hbC⟩;refine⟨hbC,?_⟩;have bC:=zst bB hbC;refine Gi ?_ ?_
      ·refine s1 bC fun D hD=>?_;refine Gi ?_ ?_
       ·refine s2 D hD fun F hF=>?_;refine⟨At0 (L+2),ld1 F hF.2,?_⟩;refine s3 F hF fun G hG=>?_;exact⟨(),(cvE rfl rfl),hG⟩
       ·refine⟨At0 (L+2),ld1 D hD.2,?_⟩;refine s2 D hD fun F hF=>?_;refine s3 F hF fun G hG=>?_;exact⟨(),(cvE rfl rfl),hG⟩
      ·refine⟨At0 (L+2),ld0 bC,?_⟩;refine s1 bC fun D hD=>?_;refine s2 D hD fun F hF=>?_;refine s3 F hF fun G hG=>?_;exact⟨(),(cvE rfl rfl),hG⟩
     ·refine⟨At0 (L+2),ld0 bB,?_⟩;refine cmo (fen 5 bB) ?_;rintro e C ⟨rfl,hbC⟩;refine⟨hbC,?_⟩;have bC:=zst bB hbC;refine s1 bC fun D hD=>?_;refine s2 D hD fun F hF=>?_;refine s3 F hF fun G hG=>?_;exact⟨(),(cvE rfl rfl),hG⟩
    ·refine⟨At0 (L+2),ld0 bB,?_⟩;refine Gi ?_ ?_
     ·refine cmo (fen 5 bB) ?_;rintro e C ⟨rfl,hbC⟩;refine⟨hbC,?_⟩;have bC:=zst bB hbC;refine Gi ?_ ?_
      ·refine s1 bC fun D hD=>?_;refine⟨At0 (L+2),ld1 D hD.2,?_⟩;refine s2 D hD fun F hF=>?_;refine s3 F hF fun G hG=>?_;exact⟨(),(cvE rfl rfl),hG⟩
      ·refine⟨At0 (L+2),ld0 bC,?_⟩;refine s1 bC fun D hD=>?_;refine s2 D hD fun F hF=>?_;refine s3 F hF fun G hG=>?_;exact⟨(),(cvE rfl rfl),hG⟩
     ·refine⟨At0 (L+2),ld0 bB,?_⟩;refine cmo (fen 5 bB) ?_;rintro e C ⟨rfl,hbC⟩;refine⟨hbC,?_⟩;have bC:=zst bB hbC;refine s1 bC fun D hD=>?_;refine s2 D hD fun F hF=>?_;refine s3 F hF fun G hG=>?_;exact⟨(),(cvE rfl rfl),hG⟩
   ·refine⟨At0 (L+2),ld0 bA,?_⟩;refine Gi ?_ ?_
    ·refine cmo (fen 4 bA) ?_;rintro e B ⟨rfl,hbB⟩;refine⟨hbB,?_⟩;have bB:=zst bA hbB;refine Gi ?_ ?_
     ·refine cmo (fen 5 bB) ?_;rintro e C ⟨rfl,hbC⟩;refine⟨hbC,?_⟩;have bC:=zst bB hbC;refine Gi ?_ ?_
      ·refine s1 bC fun D hD=>?_;refine Gi ?_ ?_
       ·refine s2 D hD fun F hF=>?_;refine⟨At0 (L+2),ld1 F hF.2,?_⟩;refine s3 F hF fun G hG=>?_;exact⟨(),(cvE rfl rfl),hG⟩
       ·refine⟨At0 (L+2),ld1 D hD.2,?_⟩;refine s2 D hD fun F hF=>?_;refine s3 F hF fun G hG=>?_;exact⟨(),(cvE rfl rfl),hG⟩
      ·refine⟨At0 (L+2),ld0 bC,?_⟩;refine s1 bC fun D hD=>?_;refine s2 D hD fun F hF=>?_;refine s3 F hF fun G hG=>?_;exact⟨(),(cvE rfl rfl),hG⟩
     ·refine⟨At0 (L+2),ld0 bB,?_⟩;refine cmo (fen 5 bB) ?_;rintro e C ⟨rfl,hbC⟩;refine⟨hbC,?_⟩;have bC:=zst bB hbC;refine s1 bC fun D hD=>?_;refine s2 D hD fun F hF=>?_;refine s3 F hF fun G hG=>?_;exact⟨(),(cvE rfl rfl),hG⟩
    ·refine⟨At0 (L+2),ld0 bA,?_⟩;refine cmo (fen 4 bA) ?_;rintro e B ⟨rfl,hbB⟩;refine⟨hbB,?_⟩;have bB:=zst bA hbB;refine cmo (fen 5 bB) ?_;rintro e C ⟨rfl,hbC⟩;refine⟨hbC,?_⟩;have bC:=zst bB hbC;refine s1 bC fun D hD=>?_;refine s2 D hD fun F hF=>?_;refine s3 F hF fun G hG=>?_;exact⟨(),(cvE rfl rfl),hG⟩
   ·refine⟨At0 (L+2),ld0 bA,?_⟩;refine Gi ?_ ?_
    ·refine cmo (fen 4 bA) ?_;rintro e B ⟨rfl,hbB⟩;refine⟨hbB,?_⟩;have bB:=zst bA hbB;refine Gi ?_ ?_
     ·refine cmo (fen 5 bB) ?_;rintro e C ⟨rfl,hbC⟩;refine⟨hbC,?_⟩;have bC:=zst bB hbC;refine Gi ?_ ?_
      ·refine s1 bC fun D hD=>?_;refine⟨At0 (L+2),ld1 D hD.2,?_⟩;refine s2 D hD fun F hF=>?_;refine s3 F hF fun G hG=>?_;exact⟨(),(cvE rfl rfl),hG⟩
      ·refine⟨At0 (L+2),ld0 bC,?_⟩;refine s1 bC fun D hD=>?_;refine s2 D hD fun F hF=>?_;refine s3 F hF fun G hG=>?_;exact⟨(),(cvE rfl rfl),hG⟩
     ·refine⟨At0 (L+2),ld0 bB,?_⟩;refine cmo (fen 5 bB) ?_;rintro e C ⟨rfl,hbC⟩;refine⟨hbC,?_⟩;have bC:=zst bB hbC;refine s1 bC fun D hD=>?_;refine s2 D hD fun F hF=>?_;refine s3 F hF fun G hG=>?_;exact⟨(),(cvE rfl rfl),hG⟩
    ·refine⟨At0 (L+2),ld0 bA,?_⟩;refine cmo (fen 4 bA) ?_;rintro e B ⟨rfl,hbB⟩;refine⟨hbB,?_⟩;have bB:=zst bA hbB;refine cmo (fen 5 bB) ?_;rintro e C ⟨rfl,hbC⟩;refine⟨hbC,?_⟩;have bC:=zst bB hbC;refine s1 bC fun D hD=>?_;refine s2 D hD fun F hF=>?_;refine s3 F hF fun G hG=>?_;exact⟨(),(cvE rfl rfl),hG⟩
  ·refine⟨At0 (L+2),ld0 bY1,?_⟩;refine Gi ?_ ?_
   ·refine cmo (fen 3 bY1) ?_;rintro e A ⟨rfl,hbA⟩;refine⟨hbA,?_⟩;have bA:=zst bY1 hbA;refine Gi ?_ ?_
    ·refine cmo (fen 4 bA) ?_;rintro e B ⟨rfl,hbB⟩;refine⟨hbB,?_⟩;have bB:=zst bA hbB;refine Gi ?_ ?_
     ·refine cmo (fen 5 bB) ?_;rintro e C ⟨rfl,hbC⟩;refine⟨hbC,?_⟩;have bC:=zst bB hbC;refine Gi ?_ ?_
      ·refine s1 bC fun D hD=>?_;refine Gi ?_ ?_
       ·refine s2 D hD fun F hF=>?_;refine⟨At0 (L+2),ld1 F hF.2,?_⟩;refine s3 F hF fun G hG=>?_;exact⟨(),(cvE rfl rfl),hG⟩
       ·refine⟨At0 (L+2),ld1 D hD.2,?_⟩;refine s2 D hD fun F hF=>?_;refine s3 F hF fun G hG=>?_;exact⟨(),(cvE rfl rfl),hG⟩
      ·refine⟨At0 (L+2),ld0 bC,?_⟩;refine s1 bC fun D hD=>?_;refine s2 D hD fun F hF=>?_;refine s3 F hF fun G hG=>?_;exact⟨(),(cvE rfl rfl),hG⟩
     ·refine⟨At0 (L+2),ld0 bB,?_⟩;refine cmo (fen 5 bB) ?_;rintro e C ⟨rfl,hbC⟩;refine⟨hbC,?_⟩;have bC:=zst bB hbC;refine s1 bC fun D hD=>?_;refine s2 D hD fun F hF=>?_;refine s3 F hF fun G hG=>?_;exact⟨(),(cvE rfl rfl),hG⟩
    ·refine⟨At0 (L+2),ld0 bA,?_⟩;refine cmo (fen 4 bA) ?_;rintro e B ⟨rfl,hbB⟩;refine⟨hbB,?_⟩;have bB:=zst bA hbB;refine cmo (fen 5 bB) ?_;rintro e C ⟨rfl,hbC⟩;refine⟨hbC,?_⟩;have bC:=zst bB hbC;refine s1 bC fun D hD=>?_;refine s2 D hD fun F hF=>?_;refine s3 F hF fun G hG=>?_;exact⟨(),(cvE rfl rfl),hG⟩
   ·refine⟨At0 (L+2),ld0 bY1,?_⟩;refine cmo (fen 3 bY1) ?_;rintro e A ⟨rfl,hbA⟩;refine⟨hbA,?_⟩;have bA:=zst bY1 hbA;refine cmo (fen 4 bA) ?_;rintro e B ⟨rfl,hbB⟩;refine⟨hbB,?_⟩;have bB:=zst bA hbB;refine cmo (fen 5 bB) ?_;rintro e C ⟨rfl,hbC⟩;refine⟨hbC,?_⟩;have bC:=zst bB hbC;refine s1 bC fun D hD=>?_;refine s2 D hD fun F hF=>?_;refine s3 F hF fun G hG=>?_;exact⟨(),(cvE rfl rfl),hG⟩
  ·refine⟨At0 (L+2),ld0 bY1,?_⟩;refine Gi ?_ ?_
   ·refine cmo (fen 3 bY1) ?_;rintro e A ⟨rfl,hbA⟩;refine⟨hbA,?_⟩;have bA:=zst bY1 hbA;refine Gi ?_ ?_
    ·refine cmo (fen 4 bA) ?_;rintro e B ⟨rfl,hbB⟩;refine⟨hbB,?_⟩;have bB:=zst bA hbB;refine Gi ?_ ?_
     ·refine cmo (fen 5 bB) ?_;rintro e C ⟨rfl,hbC⟩;refine⟨hbC,?_⟩;have bC:=zst bB hbC;refine Gi ?_ ?_
      ·refine s1 bC fun D hD=>?_;refine⟨At0 (L+2),ld1 D hD.2,?_⟩;refine s2 D hD fun F hF=>?_;refine s3 F hF fun G hG=>?_;exact⟨(),(cvE rfl rfl),hG⟩
      ·refine⟨At0 (L+2),ld0 bC,?_⟩;refine s1 bC fun D hD=>?_;refine s2 D hD fun F hF=>?_;refine s3 F hF fun G hG=>?_;exact⟨(),(cvE rfl rfl),hG⟩
     ·refine⟨At0 (L+2),ld0 bB,?_⟩;refine cmo (fen 5 bB) ?_;rintro e C ⟨rfl,hbC⟩;refine⟨hbC,?_⟩;have bC:=zst bB hbC;refine s1 bC fun D hD=>?_;refine s2 D hD fun F hF=>?_;refine s3 F hF fun G hG=>?_;exact⟨(),(cvE rfl rfl),hG⟩
    ·refine⟨At0 (L+2),ld0 bA,?_⟩;refine cmo (fen 4 bA) ?_;rintro e B ⟨rfl,hbB⟩;refine⟨hbB,?_⟩;have bB:=zst bA hbB;refine cmo (fen 5 bB) ?_;rintro e C ⟨rfl,hbC⟩;refine⟨hbC,?_⟩;have bC:=zst bB hbC;refine s1 bC fun D hD=>?_;refine s2 D hD fun F hF=>?_;refine s3 F hF fun G hG=>?_;exact⟨(),(cvE rfl rfl),hG⟩
   ·refine⟨At0 (L+2),ld0 bY1,?_⟩;refine cmo (fen 3 bY1) ?_;rintro e A ⟨rfl,hbA⟩;refine⟨hbA,?_⟩;have bA:=zst bY1 hbA;refine cmo (fen 4 bA) ?_;rintro e B ⟨rfl,hbB⟩;refine⟨hbB,?_⟩;have bB:=zst bA hbB;refine cmo (fen 5 bB) ?_;rintro e C ⟨rfl,hbC⟩;refine⟨hbC,?_⟩;have bC:=zst bB hbC;refine s1 bC fun D hD=>?_;refine s2 D hD fun F hF=>?_;refine s3 F hF fun G hG=>?_;exact⟨(),(cvE rfl rfl),hG⟩
 clear fS fP sY hbwY fY fM f0 hwX fX sX hbX hbY;clear X Y;rintro _ Z ⟨hS,fP,fM,f0,fZ,sZ,hbZ⟩;refine⟨Nat,fun R=>⟨[(1,At0 b),(2,At0 L),(4,At0 (L+1)),(5,At0 (L+3)),(6,At0 R)],[]⟩,fun R Y=>Y.heap[R]?=some (.cells zcO.toArray 162 (0,0))/\Bw Z Y,?_,?_⟩
 ·refine cmo zrv ?_;rintro e Y ⟨rfl,hbY⟩;refine zo (X:=Y) (v := .agg zcO.toArray) zuK rfl rfl rfl fun V hbV fV sV=>?_;exact⟨Y.heap.size,(cvE rfl rfl),fV,(zst hbY hbV)⟩
 rintro R Y ⟨fR,hbY⟩;have hbwY:=zst hbZ hbY;replace hS:=hS.below hbY;replace fP:=zb hbY fP;replace fM:=zb hbY fM;replace f0:=zb hbY f0;replace fZ:=zb hbY fZ;refine⟨Unit,fun _=>⟨[(4,At0 (L+1))],[]⟩,fun _ V=>zS V (L+1) (zaA m.toNat x)/\Bw w V,?_,?_⟩
 ·refine⟨_,zc (za fZ) (i:=0) rfl,?_⟩;refine cmo (zmf (n:=x.ev.length) (caps := #[At0 (L+3),At0 R,At0 L]) (g:=95) (p:=fun a d=>zh x.po a d&&(zaE x a&&(zaE x d&&zeV m.toNat x (zU x 3) (zU x 4) (zU x 5) a d))) (by omega) (by kernel_rfl) fun a d U ha hd hb=>zrU hk (hS.below hb) (zb hb fP) (zb hb fR) (zb hb fM) ha hd) ?_;rintro e V ⟨rfl,hbV⟩;replace f0:=zb hbV f0;refine zt (v := .agg (zf (zaA m.toNat x)).toArray) k39 f0 (zg _) (zg _) (zC _) ?_;exact⟨(),(cvE rfl rfl),zm f0,zl ((zst hbwY hbV)) (by omega) _⟩
 rintro _ V ⟨f0,hbV⟩;exact⟨zf (zaA m.toNat x),zg _,za f0,rfl,hbV⟩
end
section
variable {b c:Nat} {x:ExD} {q:OA} {w:Wd}
theorem znx {m:UInt8}:Calls PG 24 #[u8 m] w fun e w'=>e = .returned (.bool (zai m.toNat))/\w=w':=by
 refine zI 9 [u8 m] Tryz.func24 ?_;refine biE (fun h=>?_) fun h=>?_
 ·have h:(1:Int)<=(m.toNat:Int):=dT h;refine⟨rb ?_,rfl⟩;unfold zai;rw [Us (by omega:1<=m.toNat),Uy];exact QG.2 (by show (m.toNat:Int)<=6↔_;omega)
 ·have h:¬ (1:Int)<=(m.toNat:Int):=dF h;refine⟨rb ?_,rfl⟩;unfold zai;rw [Uh (by omega:¬ 1<=m.toNat)];rfl
theorem zsa {r:RelD} (hn:r.n=x.ev.length) (h48:x.ev.length<=48):zH (zd0 x r).to:=by
 unfold zd0;exact zeM (by omega)
theorem zje {X:Wd} {g:Nat} {a b c:RelD} (h:X.heap[g]?=some (.cells (zf a++(zf b++zf c)).toArray 39 (0,0))):SlR ztu X (some ⟨g,0,none⟩) [a,b,c] :=
 SlR.of_cells (hlt h) (by
  have:[a,b,c].flatMap ztu.enc=zf a++(zf b++zf c):=by
   rw [KS,KS,KS,Qp,QK];rfl
  rw [this];exact za h)
theorem zlC {m:UInt8} (hk:zai m.toNat=true) (fx:ExH w b x q c) (hv:ExW w x q) (hrf:x.rf.n=x.ev.length) (hT:Tz64M w):CB 26 #[u8 m,At0 b] w (u8 (UInt8.ofNat (qK m.toNat x))):=by
 refine qj 80 [u8 m,At0 b] (.c .p (.c .p (.c .p (.c .p (.c .p (.c .p (.c .p (.c .p (.c .p (.c .p .p)))))))))) Tryz.func26 ?_;obtain⟨L,hL⟩:=nm (w.heap.size);have hn:=hv.n;obtain⟨fw,frw⟩:=zqo hv hT;have hba:∀ (A:Wd) (o:Obj),Bw A (A.alloc o):=fun A o=>(zba _ _);refine⟨Unit,fun _=>⟨[(0,u8 m),(3,At0 L)],[]⟩,fun _ X=>X.heap[L]?=some (.cells #[At0 b] 81 (0,0))/\Bw w X,⟨(),⟨.cons rfl (.cons (by rw [hL];rfl) .nil),rfl⟩,by rw [hL];exact zu w _,hba w _⟩,?_⟩;rintro _ X ⟨fB,hbX⟩;refine⟨Nat,fun F=>⟨[(0,u8 m),(3,At0 L),(5,At0 F)],[]⟩,fun F Y=>zS Y F (frM x)/\Y.heap[L]?=some (.cells #[At0 b] 81 (0,0))/\Bw w Y,?_,?_⟩
 ·refine⟨_,zc (za fB) (i:=0) rfl,cmo (zuL (zb hbX fx) (hv.below hbX) (hT.below hbX)) ?_⟩;rintro e Y ⟨rfl,hbY⟩;refine zo (X:=Y) (v := .agg (zf (frM x)).toArray) k39 (zg _) (by kernel_rfl) (zC _) fun V hbV fV sV=>?_;have b1:=zst hbY hbV;exact⟨Y.heap.size,(cvE rfl rfl),fV,zb b1 fB,(zst hbX b1)⟩
 clear fB hbX;clear X;rintro F X ⟨fF,fB,hbX⟩;refine⟨Nat,fun G=>⟨[(0,u8 m),(3,At0 L),(5,At0 F),(6,At0 G)],[]⟩,fun G Y=>zS Y G (zbs x)/\zS Y F (frM x)/\Y.heap[L]?=some (.cells #[At0 b] 81 (0,0))/\Bw w Y,?_,?_⟩
 ·refine⟨_,zc (za fB) (i:=0) rfl,?_⟩;have fX:=zb hbX fx;have hvX:=hv.below hbX;refine⟨_,zc (za fX) (i:=0) rfl,cmo (zmf (n:=x.ev.length) (caps := #[At0 L]) (g:=48) (p:=fun a d=>zh x.po a d&&zbF x a d) (by omega) (by kernel_rfl) fun a d Z ha hd hb=>zo4 (zb hb fB) (zb hb fX) (hvX.below hb) ha hd) ?_⟩;rintro e Y ⟨rfl,hbY⟩;refine zo (X:=Y) (v := .agg (zf (zbs x)).toArray) k39 (zg _) (by kernel_rfl) (zC _) fun V hbV fV sV=>?_;have b1:=zst hbY hbV;exact⟨Y.heap.size,(cvE rfl rfl),fV,zb b1 fF,zb b1 fB,(zst hbX b1)⟩
 clear fF fB hbX;clear X;rintro G X ⟨fG,fF,fB,hbX⟩;have lw:zH (zbs x).to:=zeM (by omega);have hbr:qK m.toNat x=if zae (qb (zbs x) [x.rf,x.co,frM x])=true then (if zbX (za6 x.rm (jk (frM x) x.co).1).1=true then (if m.toNat=1 then 0 else if zae (qb (zaA m.toNat x) [if m.toNat=2 then x.rf else zd0 x x.rf,x.co,frM x])=true then 0 else 3) else 2) else 1:=rfl
 refine⟨Unit,fun _=>⟨[(0,u8 m),(3,At0 L),(5,At0 F)],[]⟩,fun _ Y=>zae (qb (zbs x) [x.rf,x.co,frM x])=true/\zS Y F (frM x)/\Y.heap[L]?=some (.cells #[At0 b] 81 (0,0))/\Bw w Y,?_,?_⟩
 ·have dX:Bw X X.drew:=(Gd _ _).drew;have fX:=hdr (zb hbX fx);refine DrawE.ord [] [0,1,2,3,4,5,6,7,8,9,10,11,12,13] (by kernel_rfl) ⟨zf (zbs x),zg _,za (hdr fG),hlt (hdr fG),_,zc (za (hdr fB)) (i:=0) rfl,zf x.rf,zg _,qO fX (i:=1) (by decide) rfl,hlt fX,_,zc (za (hdr fB)) (i:=0) rfl,zf x.co,zg _,qO fX (i:=2) (by decide) rfl,hlt fX,zf (frM x),zg _,za (hdr fF),hlt (hdr fF),⟨by decide,by decide,rfl⟩,zf x.rf++(zf x.co++zf (frM x)),by kernel_rfl,?_⟩;refine⟨hba _ _,?_⟩;have b1:=dX.alloc (UY _) (.cells (zf x.rf++(zf x.co++zf (frM x))).toArray 39);have hl:=zje (zu X.drew (.cells (zf x.rf++(zf x.co++zf (frM x))).toArray 39));have hw3:∀ o∈[x.rf,x.co,frM x],zH o.to:=by
   simp only [UD,Qv,Gn,forall_eq_or_imp,forall_eq];exact⟨hv.rf,hv.co,frw⟩
  refine cmo (zi9 (l:=[x.rf,x.co,frM x]) lw hl hw3 (JS rfl)) ?_;rintro e Y ⟨rfl,hbY⟩;refine⟨hbY,?_⟩;have b2:=zst b1 hbY;refine cmo (zdW (zcM lw hw3) (hT.below ((zst hbX b2)))) ?_;rintro e Z ⟨rfl,hbZ⟩;refine⟨hbZ,?_⟩;have b3:=zst b2 hbZ;have b4:=zst hbX b3;refine biE (fun h=>?_) fun h=>?_
  ·have h:zae (qb (zbs x) [x.rf,x.co,frM x])=false:=by
    have h:(!zae (qb (zbs x) [x.rf,x.co,frM x]))=true:=h;simpa using h
   rw [h,Gq (by decide)] at hbr;rw [hbr];exact⟨rfl,b4⟩
  ·have h:zae (qb (zbs x) [x.rf,x.co,frM x])=true:=by
    have h:(!zae (qb (zbs x) [x.rf,x.co,frM x]))=false:=h;simpa using h
   exact⟨(),(cvE rfl rfl),h,zb b3 fF,zb b3 fB,b4⟩
 clear fG fF fB hbX;clear X;rintro _ X ⟨h1,fF,fB,hbX⟩;rw [Gr h1] at hbr;clear h1 lw G;refine⟨Nat,fun G=>⟨[(0,u8 m),(3,At0 L),(5,At0 F),(7,At0 G)],[]⟩,fun G Y=>zS Y G (jk (frM x) x.co).1/\zS Y F (frM x)/\Y.heap[L]?=some (.cells #[At0 b] 81 (0,0))/\Bw w Y,?_,?_⟩
 ·have dX:Bw X X.drew:=(Gd _ _).drew;have fX:=hdr (zb hbX fx);have put:∀ (W:Wd) (b3:Nat),Bw X W->zS W b3 zw->X.heap.size<=b3->∀ {K:Wd->Prop},(∀ Y,(zS Y b3 (jk (frM x) x.co).1/\zS Y F (frM x)/\Y.heap[L]?=some (.cells #[At0 b] 81 (0,0))/\Bw w Y)->K Y) ->
    SatR ((storeVar 39 ⟨b3,0,none⟩ (.agg (zf (jk (frM x) x.co).1).toArray)).run PG W) fun _ w'=>K w':=by
   intro W b3 hW f3 g3 K k;refine zt (v := .agg (zf (jk (frM x) x.co).1).toArray) k39 f3 (zg _) (zg _) (zC _) ?_;have hF2:=hlt fF;have hL2:=hlt fB;exact k _ ⟨zm f3,(zp (by omega)).trans (zb hW fF),(zp (by omega)).trans (zb hW fB),zl ((zst hbX hW)) (by have:=hbX.size;omega) _⟩
  refine DrawE.treeQ [10] (.op 0 (.op 1 (.op 2 (.op 3 (.op 4 (.alt (.op 9 (.op 5 (.op 6 (.op 7 (.op 8 (.op 10 (.op 11 .nil))))))) (.op 5 (.op 6 (.op 7 (.op 8 (.op 9 (.op 10 (.op 11 .nil))))))))))))) (by kernel_rfl) ⟨zf (frM x),zg _,za (hdr fF),hlt (hdr fF),_,zc (za (hdr fB)) (i:=0) rfl,zf x.co,zg _,qO fX (i:=2) (by decide) rfl,hlt fX,Gi ?_ ?_⟩
  ·refine⟨hba _ _,?_⟩;have b1:=dX.alloc (UY _) (.cells (zf zw).toArray 39);refine cmo (zcm frw hv.co (hT.below ((zst hbX b1)))) ?_;rintro e Y ⟨rfl,hbY⟩;exact⟨hbY,put Y X.heap.size ((zst b1 hbY)) (zb hbY (zu X.drew _)) (UY _) (fun Y hY=>⟨X.heap.size,(cvE rfl rfl),hY⟩)⟩
  ·refine cmo (zcm frw hv.co (hT.below ((zst hbX dX)))) ?_;rintro e Y ⟨rfl,hbY⟩;refine⟨hbY,?_⟩;have b1:=zst dX hbY;exact⟨hba _ _,put _ Y.heap.size (b1.alloc b1.size _) (zu Y _) b1.size (fun V hV=>⟨Y.heap.size,(cvE rfl rfl),hV⟩)⟩
 clear fF fB hbX;clear X;rintro G X ⟨fG,fF,fB,hbX⟩;have tw:=zdb (a:=frM x) (b:=x.co) frw hv.co;refine⟨Nat,fun H=>⟨[(0,u8 m),(3,At0 L),(5,At0 F),(9,At0 H)],[]⟩,fun H Y=>zS Y H (za6 x.rm (jk (frM x) x.co).1).1/\zS Y F (frM x)/\Y.heap[L]?=some (.cells #[At0 b] 81 (0,0))/\Bw w Y,?_,?_⟩
 ·have dX:Bw X X.drew:=(Gd _ _).drew;have fX:=hdr (zb hbX fx);obtain⟨tb,htb⟩:=nm ((jk (frM x) x.co).1);rw [<- htb] at fG tw ⊢;have put:∀ (W:Wd) (b3:Nat),Bw X W->zS W b3 zw->X.heap.size<=b3->∀ {K:Wd->Prop},(∀ Y,(zS Y b3 (za6 x.rm tb).1/\zS Y F (frM x)/\Y.heap[L]?=some (.cells #[At0 b] 81 (0,0))/\Bw w Y)->K Y) ->
    SatR ((storeVar 39 ⟨b3,0,none⟩ (.agg (zf (za6 x.rm tb).1).toArray)).run PG W) fun _ w'=>K w':=by
   intro W b3 hW f3 g3 K k;refine zt (v := .agg (zf (za6 x.rm tb).1).toArray) k39 f3 (zg _) (zg _) (zC _) ?_;have hF2:=hlt fF;have hL2:=hlt fB;exact k _ ⟨zm f3,(zp (by omega)).trans (zb hW fF),(zp (by omega)).trans (zb hW fB),zl ((zst hbX hW)) (by have:=hbX.size;omega) _⟩
  refine DrawE.treeQ [10] (.op 0 (.op 1 (.op 2 (.op 3 (.op 4 (.alt (.op 9 (.op 5 (.op 6 (.op 7 (.op 8 (.op 10 (.op 11 .nil))))))) (.op 5 (.op 6 (.op 7 (.op 8 (.op 9 (.op 10 (.op 11 .nil))))))))))))) (by kernel_rfl) ⟨_,zc (za (hdr fB)) (i:=0) rfl,zf x.rm,zg _,qO fX (i:=5) (by decide) rfl,hlt fX,zf tb,zg _,za (hdr fG),hlt (hdr fG),Gi ?_ ?_⟩
  ·refine⟨hba _ _,?_⟩;have b1:=dX.alloc (UY _) (.cells (zf zw).toArray 39);refine cmo (zrj hv.rm tw) ?_;rintro e Y ⟨rfl,hbY⟩;exact⟨hbY,put Y X.heap.size ((zst b1 hbY)) (zb hbY (zu X.drew _)) (UY _) (fun Y hY=>⟨X.heap.size,(cvE rfl rfl),hY⟩)⟩
  ·refine cmo (zrj hv.rm tw) ?_;rintro e Y ⟨rfl,hbY⟩;refine⟨hbY,?_⟩;have b1:=zst dX hbY;exact⟨hba _ _,put _ Y.heap.size (b1.alloc b1.size _) (zu Y _) b1.size (fun V hV=>⟨Y.heap.size,(cvE rfl rfl),hV⟩)⟩
 clear fG fF fB hbX;clear X G;rintro H X ⟨fH,fF,fB,hbX⟩;refine⟨Unit,fun _=>⟨[(0,u8 m),(3,At0 L),(5,At0 F)],[]⟩,fun _ Y=>zbX (za6 x.rm (jk (frM x) x.co).1).1=true/\zS Y F (frM x)/\Y.heap[L]?=some (.cells #[At0 b] 81 (0,0))/\Bw w Y,?_,?_⟩
 ·refine⟨zf (za6 x.rm (jk (frM x) x.co).1).1,zg _,za fH,hlt fH,cmo (zsS (zqV hv.rm)) ?_⟩;rintro e Y ⟨rfl,hbY⟩;have b4:=zst hbX hbY;refine biE (fun h=>?_) fun h=>?_
  ·have h:zbX (za6 x.rm (jk (frM x) x.co).1).1=false:=by
    have h:(!zbX (za6 x.rm (jk (frM x) x.co).1).1)=true:=h;simpa using h
   rw [h,Gq (by decide)] at hbr;rw [hbr];exact⟨rfl,b4⟩
  ·have h:zbX (za6 x.rm (jk (frM x) x.co).1).1=true:=by
    have h:(!zbX (za6 x.rm (jk (frM x) x.co).1).1)=false:=h;simpa using h
   exact⟨(),(cvE rfl rfl),h,zb hbY fF,zb hbY fB,b4⟩
 clear fH fF fB hbX tw;clear X H;rintro _ X ⟨h1,fF,fB,hbX⟩;rw [Gr h1] at hbr;clear h1;refine⟨Unit,fun _=>⟨[(0,u8 m),(3,At0 L),(5,At0 F)],[]⟩,fun _ Y=>m.toNat≠1/\X=Y,?_,?_⟩
 ·refine biE (fun h=>?_) fun h=>?_
  ·have h:(m.toNat:Int)=1:=dT h;rw [Gr (by omega)] at hbr;rw [hbr];exact⟨rfl,hbX⟩
  ·have h:¬ (m.toNat:Int)=1:=dF h;exact⟨(),(cvE rfl rfl),by omega,rfl⟩
 rintro _ _ ⟨h1,rfl⟩;rw [Gq h1] at hbr;clear h1;refine⟨Nat,fun G=>⟨[(0,u8 m),(3,At0 L),(5,At0 F),(11,At0 G)],[]⟩,fun G Y=>G≠F/\G≠L/\w.heap.size<=G/\zS Y G x.rf/\zS Y F (frM x)/\Y.heap[L]?=some (.cells #[At0 b] 81 (0,0))/\Bw w Y,?_,?_⟩
 ·have fX:=zb hbX fx;refine⟨_,zc (za fB) (i:=0) rfl,zf x.rf,zg _,qO fX (i:=1) (by decide) rfl,hlt fX,zo (X:=X) (v := .agg (zf x.rf).toArray) k39 (zg _) (by kernel_rfl) (zC _) fun V hbV fV sV=>?_⟩;have hF2:=hlt fF;have hL2:=hlt fB;exact⟨X.heap.size,(cvE rfl rfl),by omega,by omega,hbX.size,fV,zb hbV fF,zb hbV fB,(zst hbX hbV)⟩
 clear fF fB hbX;clear X;rintro G X ⟨hGF,hGL,hGw,fG,fF,fB,hbX⟩;obtain⟨rfx,hrfx⟩:=nm (if m.toNat=2 then x.rf else zd0 x x.rf);have rfw:zH rfx.to:=by
  rw [hrfx]
  split
  ·exact hv.rf
  ·exact zsa hrf (by omega)
 rw [<- hrfx] at hbr;refine⟨Unit,fun _=>⟨[(0,u8 m),(3,At0 L),(5,At0 F),(11,At0 G)],[]⟩,fun _ Y=>zS Y G rfx/\zS Y F (frM x)/\Y.heap[L]?=some (.cells #[At0 b] 81 (0,0))/\Bw w Y,?_,?_⟩
 ·have fX:=zb hbX fx;have hvX:=hv.below hbX;refine biE (fun h=>?_) fun h=>?_
  ·have h:¬ m.toNat=2:=by
    have h:(!decide ((m.toNat:Int)=2))=true:=h;have h:¬ (m.toNat:Int)=2:=(by simpa using h);omega
   rw [Gq h] at hrfx;refine⟨_,zc (za fB) (i:=0) rfl,zf x.rf,zg _,za fG,hlt fG,cmo (zuN fX hvX hv.rf hrf) ?_⟩;rintro e Y ⟨rfl,hbY⟩;rw [<- hrfx];exact zt (v := .agg (zf rfx).toArray) k39 (zb hbY fG) (zg _) (zg _) (zC _) ⟨(),(cvE rfl rfl),zm (zb hbY fG),(zp (by omega)).trans (zb hbY fF),(zp (by omega)).trans (zb hbY fB),zl ((zst hbX hbY)) hGw _⟩
  ·have h:m.toNat=2:=by
    have h:(!decide ((m.toNat:Int)=2))=false:=h;have h:(m.toNat:Int)=2:=(by simpa using h);omega
   rw [Gr h] at hrfx;rw [hrfx];exact⟨(),(cvE rfl rfl),fG,fF,fB,hbX⟩
 clear fG fF fB hbX hrfx;clear X;rintro _ X ⟨fG,fF,fB,hbX⟩;have kw:zH (zaA m.toNat x).to:=zeM (by omega);have dX:Bw X X.drew:=(Gd _ _).drew;have hbD:=zst hbX dX;have hw3:∀ o∈[rfx,x.co,frM x],zH o.to:=by
  simp only [UD,Qv,Gn,forall_eq_or_imp,forall_eq];exact⟨rfw,hv.co,frw⟩
 have fD:=hdr (zb hbX fx);have hk0:∀ {Y:Wd},Bw X Y->CB 57 #[u8 m,At0 b] Y (.agg (zf (zaA m.toNat x)).toArray):=fun {Y} hY =>
  have h2:=zst hbX hY
  ztM hk (zb h2 fx) (hv.below h2) (hT.below h2)
 refine DrawE.treeQ [] (.op 0 (.op 1 (.op 3 (.op 4 (.op 5 (.op 6 (.op 7 (.op 8 (.alt (.op 9 (.op 2 (.op 10 (.op 11 (.op 12 .nil))))) (.op 2 (.op 9 (.op 10 (.op 11 (.op 12 .nil)))))))))))))) (by kernel_rfl) ⟨_,zc (za (hdr fB)) (i:=0) rfl,zf rfx,zg _,za (hdr fG),hlt (hdr fG),_,zc (za (hdr fB)) (i:=0) rfl,zf x.co,zg _,qO fD (i:=2) (by decide) rfl,hlt fD,zf (frM x),zg _,za (hdr fF),hlt (hdr fF),Gi ?_ ?_⟩
 ·refine⟨⟨by decide,by decide,rfl⟩,zf rfx++(zf x.co++zf (frM x)),by kernel_rfl,?_⟩;refine⟨hba _ _,?_⟩;have b1:=dX.alloc (UY _) (.cells (zf rfx++(zf x.co++zf (frM x))).toArray 39);have hl:=zje (zu X.drew (.cells (zf rfx++(zf x.co++zf (frM x))).toArray 39));refine cmo (hk0 b1) ?_;rintro e Y ⟨rfl,hbY⟩;refine⟨hbY,?_⟩;have b2:=zst b1 hbY;refine cmo (zi9 (l:=[rfx,x.co,frM x]) kw (hl.below hbY) hw3 (JS rfl)) ?_;rintro e V ⟨rfl,hbV⟩;refine⟨hbV,?_⟩;have b3:=zst b2 hbV;refine cmo (zdW (zcM kw hw3) (hT.below ((zst hbX b3)))) ?_;rintro e Z ⟨rfl,hbZ⟩;refine⟨hbZ,?_⟩;have b5:=hbX.trans (((zst b3 hbZ)).mono hbX.size);refine biE (fun h=>?_) fun h=>?_
  ·have h:zae (qb (zaA m.toNat x) [rfx,x.co,frM x])=false:=by
    have h:(!zae (qb (zaA m.toNat x) [rfx,x.co,frM x]))=true:=h;simpa using h
   rw [h,Gq (by decide)] at hbr;rw [hbr];exact⟨rfl,b5⟩
  ·have h:zae (qb (zaA m.toNat x) [rfx,x.co,frM x])=true:=by
    have h:(!zae (qb (zaA m.toNat x) [rfx,x.co,frM x]))=false:=h;simpa using h
   rw [h,Gr rfl] at hbr;rw [hbr];exact⟨rfl,b5⟩
 ·refine cmo (hk0 dX) ?_;rintro e Y ⟨rfl,hbY⟩;refine⟨hbY,?_⟩;have b1:=zst dX hbY;refine⟨⟨by decide,by decide,rfl⟩,zf rfx++(zf x.co++zf (frM x)),by kernel_rfl,?_⟩;refine⟨hba _ _,?_⟩;have b2:=b1.alloc b1.size (.cells (zf rfx++(zf x.co++zf (frM x))).toArray 39);have hl:=zje (zu Y (.cells (zf rfx++(zf x.co++zf (frM x))).toArray 39));refine cmo (zi9 (l:=[rfx,x.co,frM x]) kw hl hw3 (JS rfl)) ?_;rintro e V ⟨rfl,hbV⟩;refine⟨hbV,?_⟩;have b3:=zst b2 hbV;refine cmo (zdW (zcM kw hw3) (hT.below ((zst hbX b3)))) ?_;rintro e Z ⟨rfl,hbZ⟩;refine⟨hbZ,?_⟩;have b5:=hbX.trans (((zst b3 hbZ)).mono hbX.size);refine biE (fun h=>?_) fun h=>?_
  ·have h:zae (qb (zaA m.toNat x) [rfx,x.co,frM x])=false:=by
    have h:(!zae (qb (zaA m.toNat x) [rfx,x.co,frM x]))=true:=h;simpa using h
   rw [h,Gq (by decide)] at hbr;rw [hbr];exact⟨rfl,b5⟩
  ·have h:zae (qb (zaA m.toNat x) [rfx,x.co,frM x])=true:=by
    have h:(!zae (qb (zaA m.toNat x) [rfx,x.co,frM x]))=false:=h;simpa using h
   rw [h,Gr rfl] at hbr;rw [hbr];exact⟨rfl,b5⟩
theorem zkB (h:qN x=true):x.rf.n=x.ev.length:=by
 unfold qN zaN at h;simp only [UA,List.all_nil,Bool.and_true,bAT,dE] at h;obtain⟨_,_,_,_,⟨_,h6,_⟩,_⟩:=h;exact h6.1
theorem zrL {A B C:Bool} {m:Nat}:(if A=true then (if B=true then (if m=1 then 0 else if C=true then 0 else 3) else 2) else 1)<=3:=by
 by_cases h:m=1 <;> cases A <;> cases B <;> cases C <;> simp [h]
theorem zo5 {m:Nat} {x:ExD}:decide ((((UInt8.ofNat (qK m x)).toNat:Nat):Int)=0)=decide (qK m x=0):=by
 have h:qK m x<=3:=by
  unfold qK;exact zrL
 refine QG.2 ?_;rw [KH];omega
theorem zj2 {m:UInt8} (hv:ExW w x q) (hT:Tz64M w):CB 9 #[u8 m,.agg (exC x q c).toArray] w (.bool (zbS m.toNat x)):=by
 refine qj 16 [u8 m,.agg (exC x q c).toArray] (.c .p .p) Tryz.func9 ?_;obtain⟨L,hL⟩:=nm (w.heap.size);refine⟨Unit,fun _=>⟨[(0,u8 m),(3,At0 L)],[]⟩,fun _ X=>ExH X L x q c/\Bw w X,⟨(),⟨.cons rfl (.cons (by rw [hL];rfl) .nil),rfl⟩,by rw [hL];exact zu w _,(zba w _)⟩,?_⟩;rintro _ X ⟨fX,hbX⟩;refine cmo znx ?_;rintro e _ ⟨rfl,rfl⟩;refine biE (fun h1=>?_) fun h1=>?_
 ·have h1:zai m.toNat=true:=h1;refine⟨exC x q c,zA _ _ _,za fX,hlt fX,cmo (zh4 (hv.below hbX) (hT.below hbX)) ?_⟩;rintro e Y ⟨rfl,hbY⟩;have bY:=zst hbX hbY;refine biE (fun h2=>?_) fun h2=>?_
  ·have h2:qN x=true:=h2;refine cmo (zlC h1 (zb hbY fX) (hv.below bY) (zkB h2) (hT.below bY)) ?_;rintro e Z ⟨rfl,hbZ⟩;refine⟨rb ?_,(zst bY hbZ)⟩;unfold zbS;rw [h1,h2];exact zo5
  ·have h2:qN x=false:=h2;exact⟨rb (by unfold zbS;rw [h2];cases zai m.toNat <;> rfl),bY⟩
 ·have h1:zai m.toNat=false:=h1;exact brF ⟨rb (by unfold zbS;rw [h1];rfl),hbX⟩
end
section
variable {b c:Nat} {x:ExD} {q:OA} {w:Wd}
theorem zlL {m:UInt8} (hv:ExW w x q) (hT:Tz64M w):CB 19 #[u8 m,.agg (exC x q c).toArray] w (u8 (UInt8.ofNat (zfb m.toNat x))):=by
 refine qj 15 [u8 m,.agg (exC x q c).toArray] (.c .p .p) Tryz.func19 ?_;obtain⟨L,hL⟩:=nm (w.heap.size);refine⟨Unit,fun _=>⟨[(0,u8 m),(3,At0 L)],[]⟩,fun _ X=>ExH X L x q c/\Bw w X,⟨(),⟨.cons rfl (.cons (by rw [hL];rfl) .nil),rfl⟩,by rw [hL];exact zu w _,(zba w _)⟩,?_⟩;rintro _ X ⟨fX,hbX⟩;refine cmo znx ?_;rintro e _ ⟨rfl,rfl⟩;refine biE (fun h1=>?_) fun h1=>?_
 ·have h1:zai m.toNat=false:=by
   have h1:(!zai m.toNat)=true:=h1;simpa using h1
  refine brT ?_;have e0:zfb m.toNat x=0:=by unfold zfb;rw [Gq fun h=>by rw [h1] at h;cases h.1]
  rw [e0];exact⟨rfl,hbX⟩
 ·have h1:zai m.toNat=true:=by
   have h1:(!zai m.toNat)=false:=h1;simpa using h1
  refine⟨exC x q c,zA _ _ _,za fX,hlt fX,cmo (zh4 (hv.below hbX) (hT.below hbX)) ?_⟩;rintro e Y ⟨rfl,hbY⟩;have bY:=zst hbX hbY;refine biE (fun h2=>?_) fun h2=>?_
  ·have h2:qN x=false:=by
    have h2:(!qN x)=true:=h2;simpa using h2
   have e0:zfb m.toNat x=0:=by unfold zfb;rw [Gq fun h=>by rw [h2] at h;cases h.2]
   rw [e0];exact⟨rfl,bY⟩
  ·have h2:qN x=true:=by
    have h2:(!qN x)=false:=h2;simpa using h2
   have e0:zfb m.toNat x=qK m.toNat x:=Gr ⟨h1,h2⟩;rw [e0];refine cmo (zlC h1 (zb hbY fX) (hv.below bY) (zkB h2) (hT.below bY)) ?_;rintro e Z ⟨rfl,hbZ⟩;exact⟨rfl,(zst bY hbZ)⟩
end
def zkb (a b:List InsD):Prg:=⟨[116],[[120],[121]],[0,0],[a,b],1,.mk 0 0 0 0 []⟩
def sbP:Prg:=zkb [stI 0 1 0,ldI 0 1 0] [stI 1 1 0,ldI 0 0 0]
def mpP:Prg:=zkb [stI 0 1 0,stI 1 1 0] [ldI 1 1 0,ldI 0 0 0]
def raP:Prg:=zkb [stI 0 1 0,stI 1 1 2] [ldI 1 1 1,ldI 0 0 0]
def coP:Prg:=zkb [stI 0 1 0,ldI 0 0 0] []
theorem zvb:zb9 sbP [0,1] 50=true:=by kernel_rfl
def zbU (l:List ExD) (a b:UInt8):List ExD:=l.filter fun x=>decide (x.regs 0=a)&&decide (x.regs 8=b)
def zkm (x:ExD) (want:List UInt8):Bool:=(List.range want.length).all fun i=>decide (zfb (i+1) x=(want.getD i 0).toNat)&&(zbS (i+1) x == decide (want.getD i 0=0))
abbrev sbF:List ExD:=zbU (je sbP [0,1]) 0 0
abbrev mpF:List ExD:=zbU (je mpP [0,1]) 0 0
abbrev raF:List ExD:=zbU (je raP [0,1]) 0 0
abbrev coF:List ExD:=zbU (je coP [0,1]) 0 0
def zfn (l:List ExD) (i n:Nat) (want:List UInt8):Bool:=decide (l.length=n)&&(l.all ztR&&zkm (l.getD i (ex0 0)) want)
theorem zvg:zb9 mpP [0,1] 50=true:=by kernel_rfl
theorem zvc:zb9 raP [0,1] 50=true:=by kernel_rfl
theorem zvq:zb9 coP [0,1] 50=true:=by kernel_rfl
theorem zrs:zfn sbF 0 1 [0,3,0,0,0,0]=true:=by kernel_rfl
theorem zrN:zfn mpF 1 2 [0,3,3,0,0,0]=true:=by kernel_rfl
theorem zrE:zfn raF 1 2 [0,3,3,0,3,0]=true:=by kernel_rfl
theorem zsx:zfn coF 0 1 [1,1,1,1,1,1]=true:=by kernel_rfl
theorem ztK:(mpF.getD 1 (ex0 0)).regs 9=1:=by kernel_rfl
theorem ztx:(raF.getD 1 (ex0 0)).regs 9=1:=by kernel_rfl
theorem zto:(je sbP [0,1]).length<=30000:=JS (by kernel_rfl)
theorem ztL:(je mpP [0,1]).length<=30000:=JS (by kernel_rfl)
theorem zty:(je raP [0,1]).length<=30000:=JS (by kernel_rfl)
theorem zub:(je coP [0,1]).length<=30000:=JS (by kernel_rfl)
section
variable {w:Wd}
theorem zlV {l v m:UInt8}:CB 21 #[u8 l,u8 v,u8 m] w (.agg (zD.enc (stI l v m)).toArray):=by
 refine qj 12 [u8 l,u8 v,u8 m] (.c .p .p) Tryz.func21 ?_;obtain⟨L,hL⟩:=nm (w.heap.size);refine⟨Unit,fun _=>⟨[(0,u8 l),(1,u8 v),(2,u8 m),(6,At0 L)],[]⟩,fun _ X=>(∃ cs:Array Value,X.heap[L]?=some (.cells cs 55 (0,0))/\cs.size=10)/\Bw w X,⟨(),⟨.cons rfl (.cons rfl (.cons rfl (.cons (by rw [hL];rfl) .nil))),rfl⟩,⟨_,by rw [hL];exact zu w _,by kernel_rfl⟩,(zba w _)⟩,?_⟩;rintro _ X ⟨⟨cs,f0,hcs⟩,hbX⟩;refine⟨[.bool false,u8 v],by kernel_rfl,?_⟩;refine⟨zD.enc (stI l v m),by kernel_rfl,?_⟩;exact zt (v := .agg (zD.enc (stI l v m)).toArray) k55 f0 rfl hcs rfl ⟨zD.enc (stI l v m),rfl,za (zm f0),rfl,zl hbX (by omega) _⟩
theorem zmm {d l m:UInt8}:CB 22 #[u8 d,u8 l,u8 m] w (.agg (zD.enc (ldI d l m)).toArray):=by
 refine qj 11 [u8 d,u8 l,u8 m] (.c .p .p) Tryz.func22 ?_;obtain⟨L,hL⟩:=nm (w.heap.size);refine⟨Unit,fun _=>⟨[(0,u8 d),(1,u8 l),(2,u8 m),(6,At0 L)],[]⟩,fun _ X=>(∃ cs:Array Value,X.heap[L]?=some (.cells cs 55 (0,0))/\cs.size=10)/\Bw w X,⟨(),⟨.cons rfl (.cons rfl (.cons rfl (.cons (by rw [hL];rfl) .nil))),rfl⟩,⟨_,by rw [hL];exact zu w _,by kernel_rfl⟩,(zba w _)⟩,?_⟩;rintro _ X ⟨⟨cs,f0,hcs⟩,hbX⟩;refine⟨zD.enc (ldI d l m),by kernel_rfl,?_⟩;exact zt (v := .agg (zD.enc (ldI d l m)).toArray) k55 f0 rfl hcs rfl ⟨zD.enc (ldI d l m),rfl,za (zm f0),rfl,zl hbX (by omega) _⟩
theorem zmX {la lb:List InsD} {pa pb:OA} {ca cb:Nat} (ha:RowB zD w.heap.size w pa la) (hb:RowB zD w.heap.size w pb lb) (hla:la.length<=1000) (hlb:lb.length<=1000) (hpa:∀ a,pa=some a->a.block<w.heap.size) (hpb:∀ a,pb=some a->a.block<w.heap.size) :
  Calls PG 14 #[.slice pa la.length ca,.slice pb lb.length cb] w fun e w'=>(∃ vs:List Value,e = .returned (.agg vs.toArray)/\PrgX w'.heap.size w' vs (zkb la lb))/\Bw w w':=by
 refine qj 11 [.slice pa la.length ca,.slice pb lb.length cb] (.c .p .p) Tryz.func14 ?_;obtain⟨L,hL⟩:=nm (w.heap.size);refine⟨Unit,fun _=>⟨[(0,.slice pa la.length ca),(1,.slice pb lb.length cb),(4,At0 L)],[]⟩,fun _ X=>(∃ cs:Array Value,X.heap[L]?=some (.cells cs 29 (0,0))/\cs.size=10)/\X.heap.size=L+1/\Bw w X,⟨(),⟨.cons rfl (.cons rfl (.cons (by rw [hL];rfl) .nil)),rfl⟩,⟨_,by rw [hL];exact zu w _,by kernel_rfl⟩,by rw [wz,hL],(zba w _)⟩,?_⟩;rintro _ W ⟨⟨cs,fL,hcs⟩,sW,hbW⟩;obtain⟨W1,hW1⟩:=nm (W.alloc (.cells #[qH [120],qH [121]] 9));obtain⟨W2,hW2⟩:=nm (W1.alloc (.cells #[u8 0,u8 0] 5));obtain⟨W3,hW3⟩:=nm (W2.alloc (.cells #[.slice pa la.length ca,.slice pb lb.length cb] 51));have hb1:Bw W W1:=by rw [hW1];exact (zba W _)
 have hb2:Bw W1 W2:=by rw [hW2];exact (zba W1 _)
 have hb3:Bw W2 W3:=by rw [hW3];exact (zba W2 _)
 have f1:W1.heap[W.heap.size]?=some (.cells #[qH [120],qH [121]] 9 (0,0)):=by rw [hW1];exact zu W _
 have f2:W2.heap[W1.heap.size]?=some (.cells #[u8 0,u8 0] 5 (0,0)):=by rw [hW2];exact zu W1 _
 have f3:W3.heap[W2.heap.size]?=some (.cells #[.slice pa la.length ca,.slice pb lb.length cb] 51 (0,0)):=by rw [hW3];exact zu W2 _
 have s1:W1.heap.size=L+2:=by rw [hW1,wz,sW]
 have s2:W2.heap.size=L+3:=by rw [hW2,wz,s1]
 have s3:W3.heap.size=L+4:=by rw [hW3,wz,s2]
 refine⟨⟨by decide,by decide,rfl⟩,[qH [120],qH [121]],rfl,?_⟩;have hW1':W.alloc (.cells [qH [120],qH [121]].toArray 9)=W1:=hW1.symm;rw [hW1'];refine⟨⟨by decide,by decide,rfl⟩,[u8 0,u8 0],rfl,?_⟩;have hW2':W1.alloc (.cells [u8 0,u8 0].toArray 5)=W2:=hW2.symm;rw [hW2'];refine⟨⟨by decide,by decide,rfl⟩,[.slice pa la.length ca,.slice pb lb.length cb],rfl,?_⟩;have hW3':W2.alloc (.cells [.slice pa la.length ca,.slice pb lb.length cb].toArray 51)=W3:=hW3.symm;rw [hW3'];obtain⟨vs,hvs⟩:=nm (zag (zkb la lb) (some ⟨W.heap.size,0,none⟩) 2 (some ⟨W1.heap.size,0,none⟩) 2 (some ⟨W2.heap.size,0,none⟩) 2 none 0);refine⟨vs,by rw [hvs];rfl,?_⟩;have hb12:=zst hb1 hb2;have hbW3:Bw W W3:=hb12.trans (hb3.mono (UO hb1.size hb2.size));have fL3:W3.heap[L]?=some (.cells cs 29 (0,0)):=zb hbW3 fL;have hlen:vs.length=10:=by rw [hvs];rfl
 have hone:vs.all Value.oneCell'=true:=by rw [hvs];rfl
 refine zt (v := .agg vs.toArray) k29 fL3 hlen hcs hone ?_;obtain⟨Y,hY⟩:=nm (W3.setRow L (Value.agg vs.toArray).cells);rw [<- hY];have fY:Y.heap[L]?=some (.cells vs.toArray 29 (0,0)):=by rw [hY];exact zm fL3
 have oY:∀ k,k≠L->Y.heap[k]?=W3.heap[k]?:=fun k hk=>by rw [hY];exact zp hk
 have sY:Y.heap.size=W3.heap.size:=by rw [hY];simp
 have bY:Bw w Y:=by rw [hY];exact zl ((zst hbW hbW3)) (by omega) _
 refine⟨vs,hlen,za fY,⟨vs,rfl,?_⟩,bY⟩;have g1:Y.heap[W.heap.size]?=some (.cells #[qH [120],qH [121]] 9 (0,0)):=(oY _ (by omega)).trans (zb hb3 (zb hb2 f1));have g2:Y.heap[W1.heap.size]?=some (.cells #[u8 0,u8 0] 5 (0,0)):=(oY _ (by omega)).trans (zb hb3 f2);have g3:Y.heap[W2.heap.size]?=some (.cells #[.slice pa la.length ca,.slice pb lb.length cb] 51 (0,0)):=(oY _ (by omega)).trans f3;have sY4:w.heap.size<=Y.heap.size:=bY.size;have r3:RowB zps Y.heap.size Y (some ⟨W2.heap.size,0,none⟩) [(la,pa,ca),(lb,pb,cb)] := .inr ⟨W2.heap.size,0,rfl,hlt g3,za g3⟩;have rows:∀ x∈[((la,pa,ca):zmP),(lb,pb,cb)],RowB zD Y.heap.size Y x.2.1 x.1/\∀ a,x.2.1=some a->a.block<Y.heap.size:=by
  simp only [UD,Qv,Gn,forall_eq_or_imp,forall_eq];exact⟨⟨(ha.below bY).mono sY4,fun a h=>nL (hpa a h) sY4⟩,(hb.below bY).mono sY4,fun a h=>nL (hpb a h) sY4⟩
 refine⟨⟨⟨by show 1<=_;decide,by show 2<=_;decide,fun s hs=>?_,by show 2<=_;decide,by show 2<=_;decide,fun l hl=>?_⟩,some ⟨W.heap.size,0,none⟩,2,some ⟨W1.heap.size,0,none⟩,2,some ⟨W2.heap.size,0,none⟩,2,none,0,hvs,?_,?_,?_,?_,?_⟩,?_,?_⟩
 ·have hs:s=[120]\/s=[121]:=by simpa [zkb] using hs
  rcases hs with rfl | rfl <;> decide
 ·have hl:l=la\/l=lb:=by simpa [zkb] using hl
  rcases hl with rfl | rfl <;> omega
 ·exact .inr ⟨W.heap.size,0,rfl,hlt g1,za g1⟩
 ·exact .inr ⟨W1.heap.size,0,rfl,hlt g2,za g2⟩
 ·exact⟨[(la,pa,ca),(lb,pb,cb)],rfl,r3,fun x hx=>(rows x hx).1⟩
 ·exact .mk none [] (by decide) 0 0 (.inl rfl) (fun _=>none) (fun _=>0) (fun i hi=>by simp at hi) (fun i hi=>by simp at hi)
 ·exact UY 2
 ·exact⟨some ⟨W2.heap.size,0,none⟩,2,by rw [hvs];rfl,[(la,pa,ca),(lb,pb,cb)],rfl,r3,fun x hx=>⟨(rows x hx).1,fun _=>(rows x hx).2⟩⟩
 ·exact⟨some ⟨W1.heap.size,0,none⟩,2,by rw [hvs];rfl,.inr ⟨W1.heap.size,0,rfl,hlt g2,za g2⟩⟩
end
theorem zgA (x:ExD) (q:OA) (c:Nat) {i:Nat} (hi:i<32):(exC x q c)[295+i]?=some (u8 (x.regs i)):=by
 obtain⟨A,T,hA,hE⟩:=znD x q c [];have:=hE x.regs;rw [QK] at this;show (exC { x with regs:=x.regs } q c)[295+i]?=_;rw [this,qT hA,Jr (by rw [zG];exact hi),zce (n:=32) (fun i=>u8 (x.regs i)) hi]
section
variable {w:Wd} {B:Nat} {pc:List Value} {p:Prg} {V:List UInt8} {a b:UInt8}
theorem zf5 (l:List ExD) (x:ExD):zbU (l++[x]) a b=zbU l a b++if (decide (x.regs 0=a)&&decide (x.regs 8=b))=true then [x] else []:=by
 unfold zbU;rw [Kv,Qn,List.filter_nil]
theorem zgz (hB:B<=w.heap.size) (hP:PrgX B w pc p) (hG:GlobE w) (hQ:zb9 p V 50=true) (hlen:(je p V).length<=30000) :
  Calls PG 20 #[.agg pc.toArray,u8 a,u8 b] w fun e w'=>(∃ (xs:List zbV) (q:OA) (c:Nat),e = .returned (.slice q xs.length c)/\xs.map (·.1)=zbU (je p V) a b/\SlR exE w' q xs/\∀ x∈xs,SlR evE w' x.2.1 x.1.ev)/\Bw w w':=by
 refine qj 45 [.agg pc.toArray,u8 a,u8 b] (.c .p (.c .p (.c .p (.c .p .p)))) Tryz.func20 ?_;obtain⟨L,hL⟩:=nm (w.heap.size);have hpc:=hP.v.size;refine⟨Unit,fun _=>⟨[(1,u8 a),(2,u8 b),(3,At0 L)],[]⟩,fun _ X=>X.heap[L]?=some (.cells pc.toArray 29 (0,0))/\Bw w X,⟨(),⟨.cons rfl (.cons rfl (.cons (by rw [hL];rfl) .nil)),rfl⟩,by rw [hL];exact zu w _,(zba w _)⟩,?_⟩;rintro _ X ⟨f0,hbX⟩;refine⟨Unit,fun _=>⟨[(1,u8 a),(2,u8 b),(3,At0 L),(7,.slice none 0 0)],[]⟩,fun _ Y=>X=Y,⟨(),(cvE rfl rfl),rfl⟩,?_⟩;rintro _ _ rfl;have hXs:=hbX.size;refine⟨List zbV×OA×Nat,fun s=>⟨[(1,u8 a),(2,u8 b),(7,.slice none 0 0),(8,.slice s.2.1 s.1.length s.2.2)],[]⟩,fun s Y=>s.1.map (·.1)=je p V/\OwnS exE 46 X.heap.size Y s.2.1 s.2.2 s.1/\(∀ x∈s.1,OwnS evE 49 X.heap.size Y x.2.1 x.2.2 x.1.ev)/\Bw w Y,?_,?_⟩
 ·refine⟨pc,hpc,za f0,hlt f0,cmo (zri (most:=50) (UO hB hXs) (hP.below (hbX.mono hB)) (hG.below hbX) (by decide) hQ) ?_⟩;rintro e Y ⟨⟨xs,q,c,rfl,h1,h2,h3⟩,hbY⟩;exact⟨(xs,q,c),(cvE rfl rfl),h1,h2,h3,hbX.trans (hbY.mono hXs)⟩
 rintro⟨xs,q,c⟩ Y ⟨hxs,oX,hev,hbY⟩;dsimp only at hxs oX hev ⊢;obtain⟨D,hD⟩:=nm (Y.heap.size);have hxl:xs.length<=30000:=by
  have:=Gl List.length hxs;rw [QN] at this;omega
 refine⟨List zbV×OA×Nat,fun s=>⟨[(7,.slice s.2.1 s.1.length s.2.2)],[]⟩,fun s Z=>s.1.map (·.1)=zbU (je p V) a b/\(∀ x∈s.1,x∈xs)/\OwnS exE 46 D Z s.2.1 s.2.2 s.1/\Below D Y Z,?_,?_⟩
 ·refine⟨Nat×List zbV×OA×Nat,fun s=>⟨[(1,u8 a),(2,u8 b),(7,.slice s.2.2.1 s.2.1.length s.2.2.2),(17,.slice q xs.length c),(18,i64 xs.length),(19,i64 (s.1:Nat))],[]⟩,
   fun s Z=>s.1<=xs.length/\s.2.1.map (·.1)=zbU ((xs.take s.1).map (·.1)) a b/\(∀ x∈s.2.1,x∈xs)/\s.2.1.length<=s.1/\OwnS exE 46 D Z s.2.2.1 s.2.2.2 s.2.1/\Below D Y Z,fun s=>xs.length-s.1,(0,[],none,0),
   (cvE rfl rfl),⟨Gb _,rfl,fun x hx=>(by cases hx),UY _,OwnS.nil,by rw [hD];exact Gd _ _⟩,?_⟩
  rintro⟨k,out,po,co⟩ Z ⟨hk,hout,hmem,hlo,oZ,hbZ⟩;dsimp only at hk hout hmem hlo oZ ⊢;have hZs:D<=Z.heap.size:=by have:=hbZ.size;omega
  refine biE (fun hc=>?_) fun hc=>?_
  ·have hc:(k:Int)<(xs.length:Int):=dT hc;have hkl:k<xs.length:=by omega
   obtain⟨bx,ox,hq,hbx,hat⟩:=oX.row.at hkl;obtain⟨y,hy⟩:∃ y,xs[k]=y:=⟨_,rfl⟩;have hym:y∈xs:=by rw [<- hy];exact gM hkl
   have htk:(xs.take (k+1)).map (·.1)=(xs.take k).map (·.1)++[y.1]:=by rw [tsg hkl,hy,QR];rfl
   have hatk:=hat k hkl;rw [hy] at hatk;have hatk:zF Y ⟨bx,ox+k*333,none⟩ (exC y.1 y.2.1 y.2.2):=hatk;subst hq;refine⟨k,rfl,hkl,exC y.1 y.2.1 y.2.2,zA _ _ _,zW hbZ (by show bx<D;omega) hatk,by show bx<_;omega,?_⟩;refine zo (X:=Z) (v := .agg (exC y.1 y.2.1 y.2.2).toArray) k46 (zA _ _ _) jy (za0 _ _ _) fun U hbU fU sU=>?_;have fU:ExH U Z.heap.size y.1 y.2.1 y.2.2:=fU;have oU:=oZ.below hbU;have hbU2:=hbZ.trans (hbU.mono hZs);have hUs:D<=U.heap.size:=by omega
   have e0:(exC y.1 y.2.1 y.2.2)[295]?=some (u8 (y.1.regs 0)):=zgA y.1 y.2.1 y.2.2 (i:=0) (by decide);have e8:(exC y.1 y.2.1 y.2.2)[303]?=some (u8 (y.1.regs 8)):=zgA y.1 y.2.1 y.2.2 (i:=8) (by decide);have skip:(decide (y.1.regs 0=a)&&decide (y.1.regs 8=b))=false->(k+1<=xs.length/\out.map (·.1)=zbU ((xs.take (k+1)).map (·.1)) a b/\(∀ x∈out,x∈xs)/\out.length<=k+1/\OwnS exE 46 D U po co out/\Below D Y U):=fun h =>
    ⟨hkl,by rw [htk,zf5,h,hout];simp,hmem,by omega,oU,hbU2⟩
   refine⟨0,rfl,by decide,?_⟩;refine⟨0,rfl,by decide,?_⟩;refine⟨u8 (y.1.regs 0),zc (za fU) e0,biE (fun h1=>?_) fun h1=>?_⟩
   ·have h1:y.1.regs 0=a:=qr.1 (dT h1);refine⟨1,rfl,by decide,?_⟩;refine⟨0,rfl,by decide,?_⟩;refine⟨u8 (y.1.regs 8),zc (za fU) e8,biE (fun h2=>?_) fun h2=>?_⟩
    ·have h2:y.1.regs 8=b:=qr.1 (dT h2);have hp:(decide (y.1.regs 0=a)&&decide (y.1.regs 8=b))=true:=(by rw [Us h1,Us h2];rfl);refine⟨exC y.1 y.2.1 y.2.2,zA _ _ _,za fU,hlt fU,⟨by decide,by decide,jy⟩,exE.enc y,zaZ (zA _ _ _) jy,?_⟩;have hb2:Bw U (U.alloc (.cells (exE.enc y).toArray 46)):=zba _ _;have sb2:=hb2.size;unfold zdY zax;show SatR _ _;refine jF Tryz.underlying30 k46 rfl rfl jy (oU.below hb2) (news:=[y]) rfl (qS exE y) (by omega) (by show out.length+1<=_;omega) (by show (out.length+1)*2416<=_;omega) fun p' c' S oS gS hbS hat2=>nxI (by omega) ?_;exact⟨(k+1,out++[y],p',c'),(cvE rfl rfl),⟨hkl,by rw [htk,zf5,Gr hp,QR,hout];rfl,fun x hx=>(by
      rcases QS.1 hx with h | h
      ·exact hmem x h
      ·rw [KA.1 h];exact hym),by rw [lap];show _+1<=_;omega,oS,(hbU2.trans (hb2.mono hUs)).trans hbS⟩,zdc (by omega)⟩
    ·have h2:¬ y.1.regs 8=b:=fun e2=>(dF h2) (by rw [e2]);exact nxI (by omega) ⟨(k+1,out,po,co),(cvE rfl rfl),skip (by rw [Uh h2,Ui]),zdc (by omega)⟩
   ·have h1:¬ y.1.regs 0=a:=fun e2=>(dF h1) (by rw [e2]);exact brF (nxI (by omega) ⟨(k+1,out,po,co),(cvE rfl rfl),skip (by rw [Uh h1];rfl),zdc (by omega)⟩)
  ·have hc:¬ (k:Int)<(xs.length:Int):=dF hc;obtain rfl:k=xs.length:=by omega
   rw [Qw,hxs] at hout;exact⟨(out,po,co),(cvE rfl rfl),hout,hmem,oZ,hbZ⟩
 rintro⟨out,po,co⟩ Z ⟨hout,hmem,oZ,hbZ⟩;dsimp only at hout hmem oZ ⊢;have hwY:=hbY.size;exact⟨⟨out,po,co,rfl,hout,oZ.row,fun x hx=>((hev x (hmem x hx)).below (hbZ.mono (by omega))).row⟩,hbY.trans (hbZ.mono (by omega))⟩
end
theorem zlO (u:Nat):IntKind.u8.wrap (u:Int)=((UInt8.ofNat u).toNat:Int):=by
 have:=KH (n:=u);simp [IntKind.wrap,IntKind.bits,IntKind.signed] at this ⊢
 try omega
theorem zlj (d:Nat) (a b:Bool) (w:Wd):(Op.equalIn (d+1) 4 (.bool a) (.bool b)).run PG w = .ok (decide (a=b)) w:=by
 simp only [Op.equalIn,UU,Ut Tryz.underlying4,Qa,UV]
 cases a <;> cases b <;> rfl
theorem zoG (x y:Operand) (a b:Bool) (w:Wd):(do eqGuard .neq 4 x y (.bool a) (.bool b);binOp .neq 4 (.bool a) (.bool b)).run PG w = .ok (.bool (!decide (a=b))) w:=by
 have h:(Op.equal 4 (.bool a) (.bool b)).run PG w = .ok (decide (a=b)) w:=zlj 9999 a b w;have h1:(eqGuard .neq 4 x y (.bool a) (.bool b)).run PG w = .ok () w:=rfl;rw [UU,h1];simp only [Qa,binOp,UU,h,UV]
section
variable {w:Wd} {c cw:Nat} {x:ExD} {q pw:OA} {ws:List UInt8}
theorem zpD (h:zkm x ws=true) {i:Nat} (hi:i<ws.length):zfb (i+1) x=ws[i].toNat/\zbS (i+1) x=decide (ws[i]=0):=by
 unfold zkm at h;rw [Qj] at h;have:=h i (Uo.2 hi);rw [bAT,dE,beq_iff_eq,gDe,gE hi] at this;exact this
theorem zjh (hv:ExV w x q) (hT:Tz64M w) (hw:SlR zV w pw ws) (hs:zkm x ws=true) (h6:ws.length<=6):CB 23 #[.agg (exC x q c).toArray,.slice pw ws.length cw] w (.bool true):=by
 refine qj 32 [.agg (exC x q c).toArray,.slice pw ws.length cw] (.c .p (.c .p .p)) Tryz.func23 ?_;obtain⟨L,hL⟩:=nm (w.heap.size);refine⟨Unit,fun _=>⟨[(1,.slice pw ws.length cw),(2,At0 L)],[]⟩,fun _ X=>ExH X L x q c/\Bw w X,⟨(),⟨.cons rfl (.cons (by rw [hL];rfl) .nil),rfl⟩,by rw [hL];exact zu w _,(zba w _)⟩,?_⟩;rintro _ X ⟨fX,hbX⟩;refine⟨Unit,fun _=>⟨[],[]⟩,fun _ Y=>Bw w Y,?_,?_⟩
 ·refine⟨Nat,fun k=>⟨[(2,At0 L),(7,.slice pw ws.length cw),(8,i64 ws.length),(9,i64 (k:Nat))],[]⟩,fun k Y=>k<=ws.length/\ExH Y L x q c/\Bw w Y,fun k=>ws.length-k,0,
   (cvE rfl rfl),⟨Gb _,fX,hbX⟩,?_⟩
  clear fX hbX;rintro k Y ⟨hk,fY,hbY⟩;dsimp only;refine biE (fun hc=>?_) fun hc=>?_
  ·have hc:(k:Int)<(ws.length:Int):=dT hc;have hkl:k<ws.length:=by omega
   obtain⟨h1,h2⟩:=zpD hs hkl;obtain⟨bw,ow,hq,hbw,hat⟩:=(hw.below hbY).at hkl;obtain⟨v,hv2⟩:∃ v,ws[k]=v:=⟨_,rfl⟩;have hatk:=hat k hkl;rw [hv2] at hatk h1 h2;have hm:(UInt8.ofNat (k+1)).toNat=k+1:=by
    rw [KH];exact QC (by omega)
   subst hq;refine⟨k,rfl,hkl,u8 v,by have:=zc hatk (i:=0) (v:=u8 v) rfl;exact this,nxI (by omega) ⟨((UInt8.ofNat (k+1)).toNat:Int),zlO _,exC x q c,zA _ _ _,za fY,hlt fY,cmo (zlL (m:=UInt8.ofNat (k+1)) (hv.w.below hbY) (hT.below hbY)) ?_⟩⟩;rintro e Z ⟨rfl,hbZ⟩;rw [hm,h1];have bZ:=zst hbY hbZ;have fZ:=zb hbZ fY;have hvv:UInt8.ofNat v.toNat=v:=UInt8.ofNat_toNat;rw [hvv];refine biE (fun h=>?_) fun _=>?_
   ·have h:(!decide ((v.toNat:Int)=(v.toNat:Int)))=true:=h;rw [Us rfl] at h
    cases h
   refine nxI (by omega) ⟨((UInt8.ofNat (k+1)).toNat:Int),zlO _,exC x q c,zA _ _ _,za fZ,hlt fZ,cmo (zj2 (m:=UInt8.ofNat (k+1)) (hv.w.below bZ) (hT.below bZ)) ?_⟩;rintro e V ⟨rfl,hbV⟩;rw [hm,h2];have e0:decide (v=0)=decide ((v.toNat:Int)=0):=QG.2 (qr (x:=v) (y:=0)).symm;rw [e0];refine⟨_,fun w=>zoG _ _ _ _ w,biE (fun h=>?_) fun _=>?_⟩
   ·have h:(!decide (decide ((v.toNat:Int)=0)=decide ((v.toNat:Int)=0)))=true:=h;rw [Us rfl] at h
    cases h
   exact nxI (by omega) ⟨k+1,(cvE rfl rfl),⟨hkl,zb hbV fZ,(zst bZ hbV)⟩,zdc (by omega)⟩
  ·exact⟨(),⟨.nil,rfl⟩,hbY⟩
 rintro _ Y hbY;exact⟨rfl,hbY⟩
end
structure FndV (X:Wd) (F:List ExD) (xs:List zbV) (q:OA):Prop where
 e:xs.map (·.1)=F
 row:SlR exE X q xs
 ev:∀ x∈xs,SlR evE X x.2.1 x.1.ev
theorem FndV.below {X Y:Wd} {F:List ExD} {xs:List zbV} {q:OA} (h:FndV X F xs q) (hb:Bw X Y):FndV Y F xs q:=⟨h.e,h.row.below hb,fun x hx=>(h.ev x hx).below hb⟩
theorem FndV.at {X:Wd} {F:List ExD} {xs:List zbV} {q:OA} {i n:Nat} {want:List UInt8} (h:FndV X F xs q) (hs:zfn F i n want=true) (hi:i<n):xs.length=n/\∃ (b o:Nat) (y:zbV),q=some ⟨b,o,none⟩/\b<X.heap.size/\zF X ⟨b,o+i*333,none⟩ (exC y.1 y.2.1 y.2.2)/\ExV X y.1 y.2.1/\zkm y.1 want=true/\y.1=F.getD i (ex0 0):=by
 unfold zfn at hs;rw [bAT,bAT,dE] at hs;have hl:xs.length=n:=by
  have:=Gl List.length h.e;rw [QN] at this;omega
 have hix:i<xs.length:=by omega
 obtain⟨b,o,hq,hb,hat⟩:=h.row.at hix;obtain⟨y,hy⟩:∃ y,xs[i]=y:=⟨_,rfl⟩;have hym:y∈xs:=by rw [<- hy];exact gM hix
 have hF:y.1=F.getD i (ex0 0):=by
  rw [<- h.e,gDe,KU,gE hix,hy];rfl
 have hF2:y.1∈F:=by
  rw [<- h.e];exact Kl hym
 have hatk:=hat i hix;rw [hy] at hatk;exact⟨hl,b,o,y,hq,hb,hatk,zr9 (Qj.1 hs.2.1 _ hF2) (h.ev y hym),by rw [hF];exact hs.2.2,hF⟩
theorem zcQ {W:Wd} {g:Nat} {cs:List Value} {l:List InsD} (h:W.heap[g]?=some (.cells cs.toArray 55 (0,0))) (hc:cs=l.flatMap zD.enc):RowB zD W.heap.size W (some ⟨g,0,none⟩) l :=
 .inr ⟨g,0,rfl,hlt h,by rw [<- hc];exact za h⟩
theorem zqZ {w:Wd} (hG:GlobE w):CB 8 #[] w (.bool true):=by
 refine qj 98 [] (.s .p (.c .p (.c .p (.c .p (.c .p (.c .p (.c .p .p))))))) Tryz.func8 ?_;refine⟨List zbV×OA×Nat,fun s=>⟨[(1,.slice s.2.1 s.1.length s.2.2)],[]⟩,fun s X=>FndV X sbF s.1 s.2.1/\Bw w X,?_,?_⟩
 ·have b0:=(Gd w.heap.size w);refine cmo (zlV (l:=0) (v:=1) (m:=0)) ?_;rintro e V1 ⟨rfl,hv1⟩;have b1:=zst b0 hv1;refine cmo (zmm (d:=0) (l:=1) (m:=0)) ?_;rintro e V2 ⟨rfl,hv2⟩;have b2:=zst b1 hv2;refine⟨⟨by decide,by decide,rfl⟩,zD.enc (stI 0 1 0)++zD.enc (ldI 0 1 0),by kernel_rfl,?_⟩;obtain⟨V3,e3⟩:=nm (V2.alloc (.cells (zD.enc (stI 0 1 0)++zD.enc (ldI 0 1 0)).toArray 55));have hv3:Bw V2 V3:=by rw [e3];exact (zba _ _)
  have f3:V3.heap[V2.heap.size]?=some (.cells (zD.enc (stI 0 1 0)++zD.enc (ldI 0 1 0)).toArray 55 (0,0)):=by rw [e3];exact zu _ _
  rw [<- e3];have b3:=zst b2 hv3;refine cmo (zlV (l:=1) (v:=1) (m:=0)) ?_;rintro e V4 ⟨rfl,hv4⟩;have b4:=zst b3 hv4;refine cmo (zmm (d:=0) (l:=0) (m:=0)) ?_;rintro e V5 ⟨rfl,hv5⟩;have b5:=zst b4 hv5;refine⟨⟨by decide,by decide,rfl⟩,zD.enc (stI 1 1 0)++zD.enc (ldI 0 0 0),by kernel_rfl,?_⟩;obtain⟨V6,e6⟩:=nm (V5.alloc (.cells (zD.enc (stI 1 1 0)++zD.enc (ldI 0 0 0)).toArray 55));have hv6:Bw V5 V6:=by rw [e6];exact (zba _ _)
  have f6:V6.heap[V5.heap.size]?=some (.cells (zD.enc (stI 1 1 0)++zD.enc (ldI 0 0 0)).toArray 55 (0,0)):=by rw [e6];exact zu _ _
  rw [<- e6];have b6:=zst b5 hv6;refine cmo (zmX (la:=[stI 0 1 0,ldI 0 1 0]) (lb:=[stI 1 1 0,ldI 0 0 0]) (zcQ (zb hv6 (zb hv5 (zb hv4 (f3)))) (l:=[stI 0 1 0,ldI 0 1 0]) rfl) (zcQ (f6) (l:=[stI 1 1 0,ldI 0 0 0]) rfl) (JS rfl) (JS rfl) (fun a h=>by cases h;exact hlt (zb hv6 (zb hv5 (zb hv4 (f3))))) (fun a h=>by cases h;exact hlt (f6))) ?_;rintro e V7 ⟨⟨vs,rfl,hP⟩,hv7⟩;have b7:=zst b6 hv7;refine cmo (zgz (p:=sbP) (V:=[0,1]) (a:=0) (b:=0) (UY _) hP (hG.below b7) zvb zto) ?_;rintro e V8 ⟨⟨xs,q,c,rfl,h1,h2,h3⟩,hv8⟩;have b8:=zst b7 hv8;exact⟨(xs,q,c),(cvE rfl rfl),⟨h1,h2,h3⟩,b8⟩
 rintro s1 W1 ⟨g1,hb1⟩;refine⟨List zbV×OA×Nat,fun s=>⟨[(1,.slice s1.2.1 s1.1.length s1.2.2),(2,.slice s.2.1 s.1.length s.2.2)],[]⟩,fun s X=>FndV X mpF s.1 s.2.1/\FndV X sbF s1.1 s1.2.1/\Bw w X,?_,?_⟩
 ·have b0:=hb1;refine cmo (zlV (l:=0) (v:=1) (m:=0)) ?_;rintro e V1 ⟨rfl,hv1⟩;have b1:=zst b0 hv1;refine cmo (zlV (l:=1) (v:=1) (m:=0)) ?_;rintro e V2 ⟨rfl,hv2⟩;have b2:=zst b1 hv2;refine⟨⟨by decide,by decide,rfl⟩,zD.enc (stI 0 1 0)++zD.enc (stI 1 1 0),by kernel_rfl,?_⟩;obtain⟨V3,e3⟩:=nm (V2.alloc (.cells (zD.enc (stI 0 1 0)++zD.enc (stI 1 1 0)).toArray 55));have hv3:Bw V2 V3:=by rw [e3];exact (zba _ _)
  have f3:V3.heap[V2.heap.size]?=some (.cells (zD.enc (stI 0 1 0)++zD.enc (stI 1 1 0)).toArray 55 (0,0)):=by rw [e3];exact zu _ _
  rw [<- e3];have b3:=zst b2 hv3;refine cmo (zmm (d:=1) (l:=1) (m:=0)) ?_;rintro e V4 ⟨rfl,hv4⟩;have b4:=zst b3 hv4;refine cmo (zmm (d:=0) (l:=0) (m:=0)) ?_;rintro e V5 ⟨rfl,hv5⟩;have b5:=zst b4 hv5;refine⟨⟨by decide,by decide,rfl⟩,zD.enc (ldI 1 1 0)++zD.enc (ldI 0 0 0),by kernel_rfl,?_⟩;obtain⟨V6,e6⟩:=nm (V5.alloc (.cells (zD.enc (ldI 1 1 0)++zD.enc (ldI 0 0 0)).toArray 55));have hv6:Bw V5 V6:=by rw [e6];exact (zba _ _)
  have f6:V6.heap[V5.heap.size]?=some (.cells (zD.enc (ldI 1 1 0)++zD.enc (ldI 0 0 0)).toArray 55 (0,0)):=by rw [e6];exact zu _ _
  rw [<- e6];have b6:=zst b5 hv6;refine cmo (zmX (la:=[stI 0 1 0,stI 1 1 0]) (lb:=[ldI 1 1 0,ldI 0 0 0]) (zcQ (zb hv6 (zb hv5 (zb hv4 (f3)))) (l:=[stI 0 1 0,stI 1 1 0]) rfl) (zcQ (f6) (l:=[ldI 1 1 0,ldI 0 0 0]) rfl) (JS rfl) (JS rfl) (fun a h=>by cases h;exact hlt (zb hv6 (zb hv5 (zb hv4 (f3))))) (fun a h=>by cases h;exact hlt (f6))) ?_;rintro e V7 ⟨⟨vs,rfl,hP⟩,hv7⟩;have b7:=zst b6 hv7;refine cmo (zgz (p:=mpP) (V:=[0,1]) (a:=0) (b:=0) (UY _) hP (hG.below b7) zvg ztL) ?_;rintro e V8 ⟨⟨xs,q,c,rfl,h1,h2,h3⟩,hv8⟩;have b8:=zst b7 hv8;have bt:Bw W1 V8:=by
   have c1:=hv1;have c2:=zst c1 hv2;have c3:=zst c2 hv3;have c4:=zst c3 hv4;have c5:=zst c4 hv5;have c6:=zst c5 hv6;have c7:=zst c6 hv7;have c8:=zst c7 hv8;exact c8
  exact⟨(xs,q,c),(cvE rfl rfl),⟨h1,h2,h3⟩,g1.below bt,b8⟩
 rintro s2 W2 ⟨g2,g1,hb2⟩;refine⟨List zbV×OA×Nat,fun s=>⟨[(1,.slice s1.2.1 s1.1.length s1.2.2),(2,.slice s2.2.1 s2.1.length s2.2.2),(3,.slice s.2.1 s.1.length s.2.2)],[]⟩,fun s X=>FndV X raF s.1 s.2.1/\FndV X sbF s1.1 s1.2.1/\FndV X mpF s2.1 s2.2.1/\Bw w X,?_,?_⟩
 ·have b0:=hb2;refine cmo (zlV (l:=0) (v:=1) (m:=0)) ?_;rintro e V1 ⟨rfl,hv1⟩;have b1:=zst b0 hv1;refine cmo (zlV (l:=1) (v:=1) (m:=2)) ?_;rintro e V2 ⟨rfl,hv2⟩;have b2:=zst b1 hv2;refine⟨⟨by decide,by decide,rfl⟩,zD.enc (stI 0 1 0)++zD.enc (stI 1 1 2),by kernel_rfl,?_⟩;obtain⟨V3,e3⟩:=nm (V2.alloc (.cells (zD.enc (stI 0 1 0)++zD.enc (stI 1 1 2)).toArray 55));have hv3:Bw V2 V3:=by rw [e3];exact (zba _ _)
  have f3:V3.heap[V2.heap.size]?=some (.cells (zD.enc (stI 0 1 0)++zD.enc (stI 1 1 2)).toArray 55 (0,0)):=by rw [e3];exact zu _ _
  rw [<- e3];have b3:=zst b2 hv3;refine cmo (zmm (d:=1) (l:=1) (m:=1)) ?_;rintro e V4 ⟨rfl,hv4⟩;have b4:=zst b3 hv4;refine cmo (zmm (d:=0) (l:=0) (m:=0)) ?_;rintro e V5 ⟨rfl,hv5⟩;have b5:=zst b4 hv5;refine⟨⟨by decide,by decide,rfl⟩,zD.enc (ldI 1 1 1)++zD.enc (ldI 0 0 0),by kernel_rfl,?_⟩;obtain⟨V6,e6⟩:=nm (V5.alloc (.cells (zD.enc (ldI 1 1 1)++zD.enc (ldI 0 0 0)).toArray 55));have hv6:Bw V5 V6:=by rw [e6];exact (zba _ _)
  have f6:V6.heap[V5.heap.size]?=some (.cells (zD.enc (ldI 1 1 1)++zD.enc (ldI 0 0 0)).toArray 55 (0,0)):=by rw [e6];exact zu _ _
  rw [<- e6];have b6:=zst b5 hv6;refine cmo (zmX (la:=[stI 0 1 0,stI 1 1 2]) (lb:=[ldI 1 1 1,ldI 0 0 0]) (zcQ (zb hv6 (zb hv5 (zb hv4 (f3)))) (l:=[stI 0 1 0,stI 1 1 2]) rfl) (zcQ (f6) (l:=[ldI 1 1 1,ldI 0 0 0]) rfl) (JS rfl) (JS rfl) (fun a h=>by cases h;exact hlt (zb hv6 (zb hv5 (zb hv4 (f3))))) (fun a h=>by cases h;exact hlt (f6))) ?_;rintro e V7 ⟨⟨vs,rfl,hP⟩,hv7⟩;have b7:=zst b6 hv7;refine cmo (zgz (p:=raP) (V:=[0,1]) (a:=0) (b:=0) (UY _) hP (hG.below b7) zvc zty) ?_;rintro e V8 ⟨⟨xs,q,c,rfl,h1,h2,h3⟩,hv8⟩;have b8:=zst b7 hv8;have bt:Bw W2 V8:=by
   have c1:=hv1;have c2:=zst c1 hv2;have c3:=zst c2 hv3;have c4:=zst c3 hv4;have c5:=zst c4 hv5;have c6:=zst c5 hv6;have c7:=zst c6 hv7;have c8:=zst c7 hv8;exact c8
  exact⟨(xs,q,c),(cvE rfl rfl),⟨h1,h2,h3⟩,g1.below bt,g2.below bt,b8⟩
 rintro s3 W3 ⟨g3,g1,g2,hb3⟩;refine⟨List zbV×OA×Nat,fun s=>⟨[(1,.slice s1.2.1 s1.1.length s1.2.2),(2,.slice s2.2.1 s2.1.length s2.2.2),(3,.slice s3.2.1 s3.1.length s3.2.2),(4,.slice s.2.1 s.1.length s.2.2)],[]⟩,fun s X=>FndV X coF s.1 s.2.1/\FndV X sbF s1.1 s1.2.1/\FndV X mpF s2.1 s2.2.1/\FndV X raF s3.1 s3.2.1/\Bw w X,?_,?_⟩
 ·have b0:=hb3;refine cmo (zlV (l:=0) (v:=1) (m:=0)) ?_;rintro e V1 ⟨rfl,hv1⟩;have b1:=zst b0 hv1;refine cmo (zmm (d:=0) (l:=0) (m:=0)) ?_;rintro e V2 ⟨rfl,hv2⟩;have b2:=zst b1 hv2;refine⟨⟨by decide,by decide,rfl⟩,zD.enc (stI 0 1 0)++zD.enc (ldI 0 0 0),by kernel_rfl,?_⟩;obtain⟨V3,e3⟩:=nm (V2.alloc (.cells (zD.enc (stI 0 1 0)++zD.enc (ldI 0 0 0)).toArray 55));have hv3:Bw V2 V3:=by rw [e3];exact (zba _ _)
  have f3:V3.heap[V2.heap.size]?=some (.cells (zD.enc (stI 0 1 0)++zD.enc (ldI 0 0 0)).toArray 55 (0,0)):=by rw [e3];exact zu _ _
  rw [<- e3];have b3:=zst b2 hv3;refine cmo (zmX (la:=[stI 0 1 0,ldI 0 0 0]) (lb:=[]) (zcQ (f3) (l:=[stI 0 1 0,ldI 0 0 0]) rfl) (.inl rfl) (JS rfl) (JS rfl) (fun a h=>by cases h;exact hlt (f3)) (fun a h=>by cases h)) ?_;rintro e V4 ⟨⟨vs,rfl,hP⟩,hv4⟩;have b4:=zst b3 hv4;refine cmo (zgz (p:=coP) (V:=[0,1]) (a:=0) (b:=0) (UY _) hP (hG.below b4) zvq zub) ?_;rintro e V5 ⟨⟨xs,q,c,rfl,h1,h2,h3⟩,hv5⟩;have b5:=zst b4 hv5;have bt:Bw W3 V5:=by
   have c1:=hv1;have c2:=zst c1 hv2;have c3:=zst c2 hv3;have c4:=zst c3 hv4;have c5:=zst c4 hv5;exact c5
  exact⟨(xs,q,c),(cvE rfl rfl),⟨h1,h2,h3⟩,g1.below bt,g2.below bt,g3.below bt,b5⟩
 rintro s4 W4 ⟨g4,g1,g2,g3,hb4⟩;obtain⟨l1,n1,o1,y1,q1,d1,at1,v1,say1,_⟩:=g1.at zrs (by decide);obtain⟨l2,n2,o2,y2,q2,d2,at2,v2,say2,r2⟩:=g2.at zrN (by decide);obtain⟨l3,n3,o3,y3,q3,d3,at3,v3,say3,r3⟩:=g3.at zrE (by decide);obtain⟨l4,n4,o4,y4,q4,d4,at4,v4,say4,_⟩:=g4.at zsx (by decide);have hTW:=hG.t64.below hb4;have rg2:y2.1.regs 9=1:=by rw [r2];exact ztK
 have rg3:y3.1.regs 9=1:=by rw [r3];exact ztx
 have i2:1<s2.1.length:=by omega
 have i3:1<s3.1.length:=by omega
 have i1:0<s1.1.length:=by omega
 have i4:0<s4.1.length:=by omega
 obtain⟨xs1,p1,c1⟩:=s1;obtain⟨xs2,p2,c2⟩:=s2;obtain⟨xs3,p3,c3⟩:=s3;obtain⟨xs4,p4,c4⟩:=s4;dsimp only at l1 l2 l3 l4 i1 i2 i3 i4 q1 q2 q3 q4 ⊢;subst q1 q2 q3 q4;have no:∀ {n m:Nat},n=m->(!decide ((n:Int)=(m:Int)))=false:=fun {n m} h=>by rw [h,Us rfl];rfl
 refine⟨Unit,fun _=>⟨[(1,.slice (some ⟨n1,o1,none⟩) xs1.length c1),(2,.slice (some ⟨n2,o2,none⟩) xs2.length c2),(3,.slice (some ⟨n3,o3,none⟩) xs3.length c3),(4,.slice (some ⟨n4,o4,none⟩) xs4.length c4)],[]⟩,fun _ X=>W4=X,?_,?_⟩
 ·exact brN (no (m:=1) l1) (brN (no (m:=2) l2) (brN (no (m:=2) l3) (brN (no (m:=1) l4) ⟨(),(cvE rfl rfl),rfl⟩)))
 rintro _ _ rfl;obtain⟨X0,hX0⟩:∃ X0:Value,X0 = .agg (zbp).toArray:=⟨_,rfl⟩;refine⟨Nat×Nat,fun s=>⟨[(1,.slice (some ⟨n1,o1,none⟩) xs1.length c1),(4,.slice (some ⟨n4,o4,none⟩) xs4.length c4),(5,At0 s.1),(6,At0 s.2)],[]⟩,fun s X=>ExH X s.1 y2.1 y2.2.1 y2.2.2/\ExH X s.2 y3.1 y3.2.1 y3.2.2/\Bw W4 X,?_,?_⟩
 ·have dW:Bw W4 W4.drew:=(Gd _ _).drew;have zex:Obj.cells (zbp).toArray 46=Obj.cells (zbp).toArray 46:=rfl;have two:∀ {W:Wd},Bw W4 W->Bw W4 ((W.alloc (.cells (zbp).toArray 46)).alloc (.cells (zbp).toArray 46))/\((W.alloc (.cells (zbp).toArray 46)).alloc (.cells (zbp).toArray 46)).heap[W.heap.size]?=some (.cells (zbp).toArray 46 (0,0))/\((W.alloc (.cells (zbp).toArray 46)).alloc (.cells (zbp).toArray 46)).heap[(W.alloc (.cells (zbp).toArray 46)).heap.size]?=some (.cells (zbp).toArray 46 (0,0))/\W.heap.size<(W.alloc (.cells (zbp).toArray 46)).heap.size:=fun {W} hW=>by
   have b1:=hW.alloc hW.size (.cells (zbp).toArray 46);exact⟨b1.alloc b1.size _,qB _ (zu W _),zu _ _,by rw [wz];omega⟩
  have s8:∀ {W:Wd} {bx bv:Nat},Bw W4 W->W.heap[bx]?=some (.cells (zbp).toArray 46 (0,0))->W.heap[bv]?=some (.cells (zbp).toArray 46 (0,0))->bx≠bv->W4.heap.size<=bx->∀ {K:Wd->Prop},(∀ D,(Bw W4 D/\ExH D bx y2.1 y2.2.1 y2.2.2/\D.heap[bv]?=some (.cells (zbp).toArray 46 (0,0)))->K D)->SatR ((storeVar 46 ⟨bx,0,none⟩ (.agg (exC y2.1 y2.2.1 y2.2.2).toArray)).run PG W) fun _ w'=>K w':=fun {W bx bv} hW fx fy hne hx {K} k =>
   zt (v := .agg (exC y2.1 y2.2.1 y2.2.2).toArray) k46 fx (zA _ _ _) jy (za0 _ _ _) (k _ ⟨zl hW hx _,zm fx,(zp (fun e=>hne e.symm)).trans fy⟩)
  have s9:∀ {W:Wd} {bx bv:Nat},(Bw W4 W/\ExH W bx y2.1 y2.2.1 y2.2.2/\W.heap[bv]?=some (.cells (zbp).toArray 46 (0,0)))->bx≠bv->W4.heap.size<=bv->∀ {K:Wd->Prop},(∀ D,(ExH D bx y2.1 y2.2.1 y2.2.2/\ExH D bv y3.1 y3.2.1 y3.2.2/\Bw W4 D)->K D)->SatR ((storeVar 46 ⟨bv,0,none⟩ (.agg (exC y3.1 y3.2.1 y3.2.2).toArray)).run PG W) fun _ w'=>K w':=fun {W bx bv} h hne hx {K} k =>
   zt (v := .agg (exC y3.1 y3.2.1 y3.2.2).toArray) k46 h.2.2 (zA _ _ _) jy (za0 _ _ _) (k _ ⟨(zp hne).trans h.2.1,zm h.2.2,zl h.1 hx _⟩)
  have hba:∀ (A:Wd) (o:Obj),Bw A (A.alloc o):=fun A o=>(zba _ _);refine DrawE.treeR [8,9] (.op 0 (.op 1 (.op 2 (.op 3 (.op 4 (.alt (.op 6 (.alt (.op 7 (.alt (.op 8 (.op 5 (.op 9 .nil))) (.op 5 (.op 8 (.op 9 .nil))))) (.op 5 (.op 7 (.op 8 (.op 9 .nil)))))) (.alt (.op 7 (.alt (.op 6 (.alt (.op 8 (.op 5 (.op 9 .nil))) (.op 5 (.op 8 (.op 9 .nil))))) (.op 5 (.op 6 (.op 8 (.op 9 .nil)))))) (.op 5 (.alt (.op 6 (.op 7 (.op 8 (.op 9 .nil)))) (.op 7 (.op 6 (.op 8 (.op 9 .nil))))))))))))) (by kernel_rfl) ⟨1,rfl,i2,exC y2.1 y2.2.1 y2.2.2,zA _ _ _,zW dW d2 at2,d2,1,rfl,i3,?_⟩;obtain⟨U,hU⟩:=nm (W4.drew);have bU:Bw W4 U:=by rw [hU];exact dW
  obtain⟨t1,t2,t3,t4⟩:=two bU;have sU:=bU.size;rw [<- hU];refine Gi ?_ ?_
  ·refine⟨hba _ _,Gi ?_ ?_⟩
   ·refine⟨hba _ _,Gi ?_ ?_⟩
    ·exact s8 t1 t2 t3 (by omega) (by omega) fun D hD=>⟨exC y3.1 y3.2.1 y3.2.2,zA _ _ _,zW hD.1 d3 at3,nL d3 (Below.size hD.1),s9 hD (by omega) (by omega) fun F hF=>⟨(_,_),(cvE rfl rfl),hF⟩⟩
    ·exact⟨exC y3.1 y3.2.1 y3.2.2,zA _ _ _,zW t1 d3 at3,nL d3 (Below.size t1),s8 t1 t2 t3 (by omega) (by omega) fun D hD=>s9 hD (by omega) (by omega) fun F hF=>⟨(_,_),(cvE rfl rfl),hF⟩⟩
   ·exact⟨exC y3.1 y3.2.1 y3.2.2,zA _ _ _,zW (bU.alloc sU _) d3 at3,nL d3 (Below.size (bU.alloc sU _)),hba _ _,s8 t1 t2 t3 (by omega) (by omega) fun D hD=>s9 hD (by omega) (by omega) fun F hF=>⟨(_,_),(cvE rfl rfl),hF⟩⟩
  ·refine Gi ?_ ?_
   ·refine⟨hba _ _,Gi ?_ ?_⟩
    ·refine⟨hba _ _,Gi ?_ ?_⟩
     ·exact s8 t1 t3 t2 (by omega) (by omega) fun D hD=>⟨exC y3.1 y3.2.1 y3.2.2,zA _ _ _,zW hD.1 d3 at3,nL d3 (Below.size hD.1),s9 hD (by omega) (by omega) fun F hF=>⟨(_,_),(cvE rfl rfl),hF⟩⟩
     ·exact⟨exC y3.1 y3.2.1 y3.2.2,zA _ _ _,zW t1 d3 at3,nL d3 (Below.size t1),s8 t1 t3 t2 (by omega) (by omega) fun D hD=>s9 hD (by omega) (by omega) fun F hF=>⟨(_,_),(cvE rfl rfl),hF⟩⟩
    ·exact⟨exC y3.1 y3.2.1 y3.2.2,zA _ _ _,zW (bU.alloc sU _) d3 at3,nL d3 (Below.size (bU.alloc sU _)),hba _ _,s8 t1 t3 t2 (by omega) (by omega) fun D hD=>s9 hD (by omega) (by omega) fun F hF=>⟨(_,_),(cvE rfl rfl),hF⟩⟩
   ·refine⟨exC y3.1 y3.2.1 y3.2.2,zA _ _ _,zW bU d3 at3,nL d3 (Below.size bU),Gi ?_ ?_⟩
    ·exact⟨hba _ _,hba _ _,s8 t1 t2 t3 (by omega) (by omega) fun D hD=>s9 hD (by omega) (by omega) fun F hF=>⟨(_,_),(cvE rfl rfl),hF⟩⟩
    ·exact⟨hba _ _,hba _ _,s8 t1 t3 t2 (by omega) (by omega) fun D hD=>s9 hD (by omega) (by omega) fun F hF=>⟨(_,_),(cvE rfl rfl),hF⟩⟩
 rintro⟨bx,bv⟩ X ⟨fx,fv,hbX⟩;dsimp only at fx fv ⊢;have bw:=zst hb4 hbX;have ex9:(exC y2.1 y2.2.1 y2.2.2)[304]?=some (u8 (y2.1.regs 9)):=zgA y2.1 y2.2.1 y2.2.2 (i:=9) (by decide);have ev9:(exC y3.1 y3.2.1 y3.2.2)[304]?=some (u8 (y3.1.regs 9)):=zgA y3.1 y3.2.1 y3.2.2 (i:=9) (by decide);have one:∀ {r:UInt8},r=1->decide ((r.toNat:Int)=1)=true:=fun h=>by rw [h];rfl
 refine⟨1,rfl,by decide,?_⟩;refine⟨1,rfl,by decide,?_⟩;refine⟨u8 (y2.1.regs 9),zc (za fx) ex9,brE (one rg2) ⟨1,rfl,by decide,?_⟩⟩;refine⟨1,rfl,by decide,?_⟩;refine⟨u8 (y3.1.regs 9),zc (za fv) ev9,brE (one rg3) ⟨0,rfl,i1,exC y1.1 y1.2.1 y1.2.2,zA _ _ _,zW hbX d1 at1,nL d1 (Below.size hbX),⟨by decide,by decide,rfl⟩,[u8 0,u8 3,u8 0,u8 0,u8 0,u8 0],rfl,?_⟩⟩;obtain⟨T0,eT0⟩:∃ T,T=X.alloc (.cells ([u8 0,u8 3,u8 0,u8 0,u8 0,u8 0]:List Value).toArray 5):=⟨_,rfl⟩;have ba0:Bw X T0:=by rw [eT0];exact (zba _ _)
 have fa0:T0.heap[X.heap.size]?=some (.cells ([u8 0,u8 3,u8 0,u8 0,u8 0,u8 0]:List Value).toArray 5 (0,0)):=by rw [eT0];exact zu _ _
 rw [<- eT0];have bt0:=zst hbX ba0;refine cmo (zjh (ws:=[0,3,0,0,0,0]) (v1.below bt0) (hTW.below bt0) (SlR.of_cells (hlt fa0) (by exact za fa0)) say1 (by decide)) ?_;rintro e Z1 ⟨rfl,hz1⟩;have bz1:=zst bt0 hz1;have k1:=zst ba0 hz1;refine brT ⟨exC y2.1 y2.2.1 y2.2.2,zA _ _ _,za (zb k1 fx),hlt (zb k1 fx),⟨by decide,by decide,rfl⟩,[u8 0,u8 3,u8 3,u8 0,u8 0,u8 0],rfl,?_⟩;obtain⟨T1,eT1⟩:∃ T,T=Z1.alloc (.cells ([u8 0,u8 3,u8 3,u8 0,u8 0,u8 0]:List Value).toArray 5):=⟨_,rfl⟩;have ba1:Bw Z1 T1:=by rw [eT1];exact (zba _ _)
 have fa1:T1.heap[Z1.heap.size]?=some (.cells ([u8 0,u8 3,u8 3,u8 0,u8 0,u8 0]:List Value).toArray 5 (0,0)):=by rw [eT1];exact zu _ _
 rw [<- eT1];have bt1:=zst bz1 ba1;refine cmo (zjh (ws:=[0,3,3,0,0,0]) (v2.below bt1) (hTW.below bt1) (SlR.of_cells (hlt fa1) (by exact za fa1)) say2 (by decide)) ?_;rintro e Z2 ⟨rfl,hz2⟩;have bz2:=zst bt1 hz2;have k2:=((zst k1 ba1)).trans (hz2.mono (by have:=k1.size;have:=ba1.size;omega));refine brT ⟨exC y3.1 y3.2.1 y3.2.2,zA _ _ _,za (zb k2 fv),hlt (zb k2 fv),⟨by decide,by decide,rfl⟩,[u8 0,u8 3,u8 3,u8 0,u8 3,u8 0],rfl,?_⟩;obtain⟨T2,eT2⟩:∃ T,T=Z2.alloc (.cells ([u8 0,u8 3,u8 3,u8 0,u8 3,u8 0]:List Value).toArray 5):=⟨_,rfl⟩;have ba2:Bw Z2 T2:=by rw [eT2];exact (zba _ _)
 have fa2:T2.heap[Z2.heap.size]?=some (.cells ([u8 0,u8 3,u8 3,u8 0,u8 3,u8 0]:List Value).toArray 5 (0,0)):=by rw [eT2];exact zu _ _
 rw [<- eT2];have bt2:=zst bz2 ba2;refine cmo (zjh (ws:=[0,3,3,0,3,0]) (v3.below bt2) (hTW.below bt2) (SlR.of_cells (hlt fa2) (by exact za fa2)) say3 (by decide)) ?_;rintro e Z3 ⟨rfl,hz3⟩;have bz3:=zst bt2 hz3;have k3:=((zst k2 ba2)).trans (hz3.mono (by have:=k2.size;have:=ba2.size;omega));refine brT ⟨0,rfl,i4,exC y4.1 y4.2.1 y4.2.2,zA _ _ _,zW bz3 d4 at4,nL d4 (Below.size bz3),⟨by decide,by decide,rfl⟩,[u8 1,u8 1,u8 1,u8 1,u8 1,u8 1],rfl,?_⟩;obtain⟨T3,eT3⟩:∃ T,T=Z3.alloc (.cells ([u8 1,u8 1,u8 1,u8 1,u8 1,u8 1]:List Value).toArray 5):=⟨_,rfl⟩;have ba3:Bw Z3 T3:=by rw [eT3];exact (zba _ _)
 have fa3:T3.heap[Z3.heap.size]?=some (.cells ([u8 1,u8 1,u8 1,u8 1,u8 1,u8 1]:List Value).toArray 5 (0,0)):=by rw [eT3];exact zu _ _
 rw [<- eT3];have bt3:=zst bz3 ba3;refine cmo (zjh (ws:=[1,1,1,1,1,1]) (v4.below bt3) (hTW.below bt3) (SlR.of_cells (hlt fa3) (by exact za fa3)) say4 (by decide)) ?_;rintro e Z4 ⟨rfl,hz4⟩;have bz4:=zst bt3 hz4;have k4:=((zst k3 ba3)).trans (hz4.mono (by have:=k3.size;have:=ba3.size;omega));exact⟨rfl,(zst hb4 bz4)⟩
section
variable {w:Wd} {B:Nat} {pc:List Value} {p:Prg}
theorem zsM (hB:B<=w.heap.size) (hP:PrgX B w pc p) (hG:GlobE w) :
  Calls PG 7 #[.agg pc.toArray] w fun e w'=>((∃ V,zc6 p=true/\zc3 p V 200/\∃ (xs:List zbV) (q:OA) (c:Nat),e = .returned (.tuple #[.slice q xs.length c,.bool true])/\xs.map (·.1)=je p V/\OwnS exE 46 w.heap.size w' q c xs/\∀ x∈xs,OwnS evE 49 w.heap.size w' x.2.1 x.2.2 x.1.ev)\/e = .returned (.tuple #[.slice none 0 0,.bool false]))/\Bw w w':=by
 refine qj 22 [.agg pc.toArray] (.c .p (.s .p (.s .p .p))) Tryz.func7 ?_;obtain⟨L,hL⟩:=nm (w.heap.size);have hpc:=hP.v.size;refine⟨Unit,fun _=>⟨[(1,At0 L)],[]⟩,fun _ X=>X.heap[L]?=some (.cells pc.toArray 29 (0,0))/\Bw w X,⟨(),⟨.cons (by rw [hL];rfl) .nil,rfl⟩,by rw [hL];exact zu w _,(zba w _)⟩,?_⟩;rintro _ X ⟨f0,hbX⟩;refine⟨pc,hpc,za f0,hlt f0,cmo (zuo (UO hB hbX.size) (hP.below (hbX.mono hB))) ?_⟩;rintro e Y ⟨⟨b,rfl⟩,hbY⟩;have hwY:=zst hbX hbY;have f0Y:=zb hbY f0
 cases b with
 | false =>
  exact brT (brT ⟨.inr rfl,hwY⟩)
 | true =>
  refine brF ⟨pc,hpc,za f0Y,hlt f0Y,cmo (zj0 (UO hB hwY.size) (hP.v.below (hwY.mono hB)) (hG.c.below hwY)) ?_⟩;rintro e Z ⟨m,rfl,hm,hbZ⟩;have hwZ:=zst hwY hbZ;have f0Z:=zb hbZ f0Y;refine biE (fun h=>?_) fun h=>?_
  ·exact⟨.inr rfl,hwZ⟩
  have hm0:m=0:=by
   have h2:(!decide ((m:Int)=0))=false:=h;simpa using h2
  have hok:=hm.1 hm0;refine⟨pc,hpc,za f0Z,hlt f0Z,cmo (zlK (most:=200) (UO hB hwZ.size) (hP.below (hwZ.mono hB)) (hG.below hwZ) hok (by decide) fun V _=>zlz (zeO hok)) ?_⟩;rintro e U ⟨(⟨V,hco,xs,q,c,rfl,hxs,oX,oE⟩ | ⟨_,rfl⟩),hbU⟩
  ·exact⟨.inl ⟨V,hok,hco,xs,q,c,rfl,hxs,oX.lower hwZ.size,fun x hx=>(oE x hx).lower hwZ.size⟩,(zst hwZ hbU)⟩
  ·exact⟨.inr rfl,(zst hwZ hbU)⟩
end
section
variable {b c:Nat} {x:ExD} {q:OA} {w:Wd}
theorem zm9 {X:Wd} {L:Nat} {r r0:RelD} (f0:zS X L r0) (hL:w.heap.size<=L) (hbX:Bw w X) {K:Wd->Prop} (k:∀ Y,zS Y L r->Bw w Y->K Y) :
  SatR ((storeVar 39 ⟨L,0,none⟩ (.agg (zf r).toArray)).run PG X) fun _ w'=>K w' :=
 zt (v := .agg (zf r).toArray) k39 f0 (zg _) (zg _) (zC _) (k _ (zm f0) (zl hbX hL _))
def frX (x:ExD):RelD:=if qN x=true then frM x else zw
theorem zn9 (w:Wd) (x:ExD) (q:OA) (c:Nat) (r:RelD) (T:TypeId) : 
  ExH ((w.alloc (.cells (exC x q c).toArray 46)).alloc (.cells (zf r).toArray T)) w.heap.size x q c/\((w.alloc (.cells (exC x q c).toArray 46)).alloc (.cells (zf r).toArray T)).heap[w.heap.size+1]?=some (.cells (zf r).toArray T (0,0)) /\
   ((w.alloc (.cells (exC x q c).toArray 46)).alloc (.cells (zf r).toArray T)).heap.size=w.heap.size+2/\Bw w ((w.alloc (.cells (exC x q c).toArray 46)).alloc (.cells (zf r).toArray T)):=by
 have s1:=wz w (.cells (exC x q c).toArray 46);have h2:=zu (w.alloc (.cells (exC x q c).toArray 46)) (.cells (zf r).toArray T);have s2:=wz (w.alloc (.cells (exC x q c).toArray 46)) (.cells (zf r).toArray T);rw [s1] at h2 s2;have b1:Bw w (w.alloc (.cells (exC x q c).toArray 46)):=zba w _;exact⟨qB _ (zu w _),h2,s2,b1.alloc b1.size _⟩
theorem zu3 (hv:ExW w x q) (hT:Tz64M w):CB 17 #[.agg (exC x q c).toArray] w (.agg (zf (frX x)).toArray):=by
 refine qj 8 [.agg (exC x q c).toArray] (.c .p .p) Tryz.func17 ?_;obtain⟨L,hL⟩:=nm (w.heap.size);have hn:=hv.n;refine⟨Unit,fun _=>⟨[(1,At0 L),(2,At0 (L+1))],[]⟩,fun _ X=>ExH X L x q c/\zS X (L+1) zw/\Bw w X,?_,?_⟩
 ·obtain⟨h1,h2,h3,h4⟩:=zn9 w x q c zw 39;have s1:=wz w (.cells (exC x q c).toArray 46);exact⟨(),⟨.cons (by rw [hL];rfl) (.cons (by rw [hL,<- s1];rfl) .nil),rfl⟩,by rw [hL];exact h1,by rw [hL];exact h2,h4⟩
 rintro _ X ⟨fX,f0,hbX⟩;have zero:frX x=zw->∀ {Y:Wd},Bw X Y->SatR ((storeVar 39 ⟨L+1,0,none⟩ (.agg (zf zw).toArray)).run PG Y) fun _ w'=>∃ cells,cells.length=49/\zF w' ⟨L+1,0,none⟩ cells/\Ending.returned (.agg cells.toArray) = .returned (.agg (zf (frX x)).toArray)/\Bw w w':=fun h0 {Y} hb=>by
  rw [h0];exact zm9 (zb hb f0) (by omega) ((zst hbX hb)) fun Z fZ bZ=>⟨zf zw,zg _,za fZ,rfl,bZ⟩
 refine⟨exC x q c,zA _ _ _,za fX,hlt fX,cmo (zh4 (hv.below hbX) (hT.below hbX)) ?_⟩;rintro e Y ⟨rfl,hbY⟩;have bY:=zst hbX hbY;have fY:=zb hbY fX;refine biE (fun h2=>?_) fun h2=>?_
 ·have h2:qN x=false:=zuG h2;refine⟨zf zw,by kernel_rfl,?_⟩;exact zero (Gq fun h=>by rw [h2] at h;cases h) hbY
 ·have h2:qN x=true:=zuF h2;have e0:frX x=frM x:=Gr h2;rw [e0];refine cmo (zuL fY (hv.below bY) (hT.below bY)) ?_;rintro e Z ⟨rfl,hbZ⟩;exact zm9 (zb hbZ (zb hbY f0)) (by omega) ((zst bY hbZ)) fun V fV bV=>⟨zf (frM x),zg _,za fV,rfl,bV⟩
end
inductive TC (R:Nat->Nat->Prop):Nat->Nat->Prop
 | one {a b:Nat} (h:R a b):TC R a b
 | step {a b c:Nat} (h:TC R a b) (k:R b c):TC R a c
theorem TC.first {R:Nat->Nat->Prop} {a b c:Nat} (h:R a b) (k:TC R b c):TC R a c:=by
 induction k with
 | one k=>exact .step (.one h) k
 | step _ k2 ih=>exact .step ih k2
theorem TC.trans {R:Nat->Nat->Prop} {a b c:Nat} (h:TC R a b) (k:TC R b c):TC R a c:=by
 induction k with
 | one k=>exact .step h k
 | step _ k2 ih=>exact .step ih k2
section
variable {n:Nat} {a:RelD}
def zcr (n:Nat) (r:RelD) (i j:Nat):Prop:=i<n/\zh r i j=true
theorem zna (h:RelOk n a):∀ i j,zcr n a i j->i<n/\j<n:=fun i j hij=>⟨hij.1,(h.bit (by have:=h.le;have:=hij.1;omega) hij.2).2⟩
open Classical in
theorem acy_tc (h:RelOk n a):zae a=true↔∀ i,¬ TC (zcr n a) i i:=by
 have h48:=h.le;rw [zgH h];have bk:∀ i,i<64->∀ j,((zQ a).to i).testBit j=(decide (j<n)&&zh a j i):=fun i hi j=>jU h hi;have dom:∀ {i j},TC (zcr n a) i j->i<n/\j<n:=fun {i j} ht=>by
  induction ht with
  | one k=>exact zna h _ _ k
  | step _ k ih=>exact⟨ih.1,(zna h _ _ k).2⟩
 constructor
 ·intro hf i hi;obtain⟨S,hS⟩:=nm (zfp n fun v=>decide (TC (zcr n a) i v/\TC (zcr n a) v i));have sb:∀ v,S.testBit v=true↔v<n/\TC (zcr n a) i v/\TC (zcr n a) v i:=fun v=>by
   rw [hS,zgr,bAT,dE,dE]
  have hii:=(sb i).2 ⟨(dom hi).1,hi,hi⟩;obtain⟨v,hv,h0⟩:=hf S (fun e=>by rw [e,QD] at hii;cases hii) (Kc fun j=>by
   rw [Uc]
   cases hb:S.testBit j with
   | false=>rfl
   | true =>
    have:=((sb j).1 hb).1;rw [zbn (by omega) (by omega) (by omega)];rw [Uy];exact Us (by omega))
  have hv2:=qJ.1 hv;obtain⟨hvn,t1,t2⟩:=(sb v).1 hv2.2;have no:∀ u,zcr n a u v->S.testBit u=true->False:=fun u hu hS2=>by
   have:=Gl (fun s=>s.testBit u) h0;simp only [Uc,QD] at this;rw [hS2,bk v hv2.1,Us hu.1,hu.2] at this
   cases this
  cases t1 with
  | one k=>exact no i k hii
  | step t k =>
   rename_i u;exact no u k ((sb u).2 ⟨k.1,t,.first k t2⟩)
 ·intro hno S hS he;refine Jp fun hn=>?_;have every:∀ v,v∈els S->∃ u,u∈els S/\zcr n a u v:=fun v hv=>by
   have h1:¬ (zQ a).to v&&&S=0:=fun e=>hn ⟨v,hv,e⟩;obtain⟨u,hu⟩:=zhZ h1;rw [Uc,bAT,bk v (qJ.1 hv).1,bAT,dE] at hu;exact⟨u,qJ.2 ⟨by omega,hu.2⟩,hu.1.1,hu.1.2⟩
  have desc:∀ m v,v∈els S->zd1 (fun u=>decide (TC (zcr n a) u v)) n=m->False:=fun m=>by
   induction m using Nat.strongRecOn with
   | _ m ih =>
    intro v hv hm;obtain⟨u,hu,huv⟩:=every v hv;refine ih (zd1 (fun w=>decide (TC (zcr n a) w u)) n) ?_ u hu rfl;rw [<- hm];exact zhV (j:=u) (fun w _ hw=>Us (.step (dT hw) huv)) huv.1 (Uh (hno u)) (Us (.one huv))
  obtain⟨v,hv⟩:=zhZ hS;have hv64:v<64:=by
   have h2:=hv;rw [<- he,Uc,bAT] at h2;refine Qz fun hge=>?_;rw [JI (nL (zaq n) (Kd (by decide) hge))] at h2
   cases h2.2
  exact desc _ v (qJ.2 ⟨hv64,hv⟩) rfl
end
theorem zoN {before:Nat->Nat} {left a:Nat} (h:zbl before left=some a):a∈els left/\before a&&&left=0:=by
 unfold zbl at h;exact⟨List.mem_of_find?_eq_some h,dT (List.find?_some (p:=fun a=>decide (before a&&&left=0)) h)⟩
theorem zkd (before:Nat->Nat):∀ (n left:Nat) (l o:List Nat),left<2^64->zgf before n left l=some o->∃ s,o=l++s/\s.Perm (els left)/\∀ A a t,s=A++a::t->∀ b∈a::t,(before a).testBit b=false
 | 0,left,l,o,hl,h=>by
  unfold zgf at h
  split at h
  ·rename_i h0;exact⟨[],by rw [QK];exact (Uf h).symm,by rw [h0,jP],fun A a t e=>by cases A <;> cases e⟩
  ·cases h
 | n+1,left,l,o,hl,h=>by
  unfold zgf at h
  split at h
  ·rename_i h0;exact⟨[],by rw [QK];exact (Uf h).symm,by rw [h0,jP],fun A a t e=>by cases A <;> cases e⟩
  ·cases hf:zbl before left with
   | none=>rw [hf] at h;cases h
   | some a =>
    rw [hf] at h;obtain⟨ha,hb⟩:=zoN hf;obtain⟨s,hs,hp,hq⟩:=zkd before n _ _ o (by rw [show jD left (2^a)=qG left (2^a) from rfl];exact KE QY hl) h;have hp:s.Perm (els (qG left (2^a))):=hp;rw [zcz hl ha] at hp;have hpa:(a::s).Perm (els left):=by
     refine (List.Perm.cons a hp).trans ?_;have hn:(els left).Nodup:=List.Pairwise.filter _ List.nodup_range;generalize els left=L at ha hn;clear hp hs h hl hf hb hq
     induction L with
     | nil=>cases ha
     | cons y r ih =>
      have hn2:=QV.1 hn;rcases UD.1 ha with e | e
      ·subst e;rw [Qn,Gq (by simp),List.filter_eq_self.2 fun z hz=>by
        have:z≠a:=fun e=>hn2.1 (by rw [<- e];exact hz);simp [this]]
      ·have hya:y≠a:=fun e2=>hn2.1 (by rw [e2];exact e);rw [Qn,Gr (by simp [hya])];exact (List.Perm.swap y a _).trans (List.Perm.cons y (ih e hn2.2))
    refine⟨a::s,by rw [hs,KO];rfl,hpa,fun A c t e b hbm=>?_⟩
    cases A with
    | nil =>
     rw [QU,QL] at e;obtain⟨rfl,rfl⟩:=e;have hbl:=hpa.subset hbm
     cases hc:(before a).testBit b
     ·rfl
     ·have h2:(before a&&&left).testBit b=true:=(by rw [Uc,hc,(qJ.1 hbl).2];rfl);rw [hb,QD] at h2
      cases h2
    | cons d A =>
     rw [Ql,QL] at e;exact hq A c t e.2 b hbm
theorem zfk {n:Nat} {r:RelD} (h:RelOk n r) {o:List Nat} (ho:za8 r=some o):o.Perm (List.range n)/\∀ A a t,o=A++a::t->∀ b∈a::t,zh r b a=false:=by
 have h48:=h.le;unfold za8 at ho;rw [Gr h.ok] at ho;have hall:jV r.n<2^64:=by rw [h.n];exact zaq n
 obtain⟨s,hs,hp,hq⟩:=zkd _ _ _ _ _ hall ho;rw [QU] at hs;subst hs;have e:els (jV r.n)=List.range n:=by rw [h.n,show jV ((n:Nat):Int)=zar n from rfl];exact zcX (by omega)
 rw [e] at hp;refine⟨hp,fun A a t he b hb=>?_⟩;have ha:a<n:=Uo.1 (hp.subset (by rw [he];exact JO _ Kz));have hbn:b<n:=Uo.1 (hp.subset (by rw [he];exact JO _ hb));have h1:=hq A a t he b hb;have h2:zh (zQ r) a b=(decide (b<n)&&zh r b a):=jU h (by omega);have h3:zh (zQ r) a b=false:=h1;rw [h3,Us hbn,Uy] at h2;exact h2.symm
def zcT (x:ExD) (A:List Nat) (l:UInt8):Option Nat:=(A.filter fun i=>isW x i&&decide ((evA x i).l=l)).getLast?
section
variable {x:ExD}
def zet (x:ExD):RelD:=(ju (ju x.po x.rf).1 (ju x.co (frM x)).1).1
theorem zcH (h:XOk x):RelOk x.ev.length (zet x):=(h.po.union h.rf).union (h.co.union (zdo h))
theorem zcI (h:XOk x) {i j:Nat} (hi:i<x.ev.length):zh (zet x) i j=(zh x.po i j||zh x.rf i j||(zh x.co i j||zh (frM x) i j)):=by
 unfold zet;rw [zdE (h.po.union h.rf) (h.co.union (zdo h)) hi,zdE h.po h.rf hi,zdE h.co (zdo h) hi]
theorem zqJ (h:XOk x) {i j:Nat} (hi:i<x.ev.length) (hj:j<x.ev.length) (wi:isW x i=true) (wj:isW x j=true) (hl:(evA x i).l=(evA x j).l) (hne:i≠j) (hlt:(evA x i).l.toNat<qi x.ev):zh x.co i j=true\/zh x.co j i=true:=by
 have h48:=h.n;obtain⟨_,hco,_⟩:=(zf9 h.co).1 h.coR;have mi:i∈zY x (evA x i).l.toNat:=zaW.2 ⟨hi,wi,rfl⟩;have mj:j∈zY x (evA x i).l.toNat:=zaW.2 ⟨hj,wj,by rw [hl]⟩;have si:i∈sG x (evA x i).l.toNat:=zaL.2 mi;have sj:j∈sG x (evA x i).l.toNat:=zaL.2 mj;by_cases ht:j∈twl (sG x (evA x i).l.toNat) i
 ·exact .inl ((hco i j (by omega)).2 ⟨_,hlt,mi,ht⟩)
 ·have ht2:i∈twl (sG x (evA x i).l.toNat) j:=Jp fun hn=>ht ((zfj si sj hne).2 hn);exact .inr ((hco j i (by omega)).2 ⟨_,hlt,mj,ht2⟩)
theorem zjc {A B:List Nat} {i j:Nat} {o:List Nat} (hn:o.Nodup) (ho:o=A++i::B) (hj:j∈o) (h:j ∉ i::B):j∈A:=by
 rw [ho] at hj;exact (QS.1 hj).resolve_right h
theorem zk4 {p:Nat->Bool} {A:List Nat} {z:Nat} (h:(A.filter p).getLast?=some z):∃ C D,A=C++z::D/\p z=true/\∀ d∈D,p d=false:=by
 induction A with
 | nil=>cases h
 | cons a A ih =>
  rw [Qn] at h;by_cases hA:∃ z',(A.filter p).getLast?=some z'
  ·obtain⟨z',hz'⟩:=hA;have e:z'=z:=by
    by_cases ha:p a=true
    ·rw [Gr ha,List.getLast?_cons,hz'] at h;exact Uf h
    ·rw [Gq ha,hz'] at h;exact Uf h
   subst e;obtain⟨C,D,h1,h2,h3⟩:=ih hz';exact⟨a::C,D,by rw [h1];rfl,h2,h3⟩
  ·have h0:A.filter p=[]:=by
    cases hf:A.filter p with
    | nil=>rfl
    | cons b t=>exact Gs ⟨_,by rw [hf,List.getLast?_cons]⟩ hA
   rw [h0] at h;by_cases ha:p a=true
   ·rw [Gr ha] at h;have:=Uf h;subst this;exact⟨[],A,rfl,ha,fun d hd=>by
     cases hpd:p d
     ·rfl
     ·have:d∈A.filter p:=QT.2 ⟨hd,hpd⟩;rw [h0] at this;cases this⟩
   ·rw [Gq ha] at h
    cases h
theorem ziO {p:Nat->Bool} {A:List Nat} {s:Nat} (hs:s∈A) (hp:p s=true):∃ z,(A.filter p).getLast?=some z:=by
 cases hf:A.filter p with
 | nil =>
  have:s∈A.filter p:=QT.2 ⟨hs,hp⟩;rw [hf] at this;cases this
 | cons b t=>exact⟨_,by rw [List.getLast?_cons]⟩
theorem zma (h:XOk x) (hloc:∀ i,i<x.ev.length->isW x i=true->(evA x i).l.toNat<qi x.ev) {o:List Nat} (hp:o.Perm (List.range x.ev.length)) (hq:∀ A a t,o=A++a::t->∀ b∈a::t,zh (zet x) b a=false) {A B:List Nat} {i:Nat} (he:o=A++i::B) (hr:isR x i=true) :
  ∃ s,zcT x A (evA x i).l=some s/\s<x.ev.length/\zh x.rf s i=true/\(evA x s).v=(evA x i).v:=by
 have hn:o.Nodup:=hp.nodup_iff.2 List.nodup_range;have lt:∀ {j},j∈o->j<x.ev.length:=fun {j} hj=>Uo.1 (hp.subset hj);have hin:∀ {j},j<x.ev.length->j∈o:=fun {j} hj=>hp.symm.subset (Uo.2 hj);have hi:i<x.ev.length:=lt (by rw [he];exact JO _ Kz);obtain⟨g1,g2⟩:=(zpL h.rf).1 h.rfR;obtain⟨⟨s,hs,hsi⟩,hu⟩:=g2 i hi hr;obtain⟨ws,_,hls,hvs⟩:=g1 s i hs hi hsi;have ahead:∀ {j},j<x.ev.length->zh (zet x) j i=true->j∈A:=fun {j} hj hb=>zjc hn he (hin hj) fun hm=>by
  rw [hq A i B he j hm] at hb;cases hb
 have hsA:s∈A:=ahead hs (by rw [zcI h hs,hsi];simp);have hps:(isW x s&&decide ((evA x s).l=(evA x i).l))=true:=by rw [ws,Us hls];rfl
 obtain⟨z,hz⟩:=ziO (p:=fun k=>isW x k&&decide ((evA x k).l=(evA x i).l)) hsA hps;obtain⟨C,D,hA,hpz,hD⟩:=zk4 hz;have hzo:z∈o:=by rw [he,hA];exact JW _ (JO _ Kz)
 have hzn:=lt hzo;rw [bAT,dE] at hpz;have e:z=s:=by
  refine Jp fun hne=>?_;have hsC:s∈C:=by
   rw [hA] at hsA;rcases QS.1 hsA with h1 | h1
   ·exact h1
   ·rcases UD.1 h1 with h2 | h2
    ·exact Gs h2.symm hne
    ·have:=hD s h2;rw [hps] at this;cases this
  have hoz:o=C++z::(D++i::B):=by rw [he,hA];simp
  rcases zqJ h hzn hs hpz.1 ws (hpz.2.trans hls.symm) hne (hloc z hzn hpz.1) with hc | hc
  ·
   obtain⟨C1,C2,hC⟩:=List.append_of_mem hsC;have hos:o=C1++s::(C2++z::(D++i::B)):=by rw [hoz,hC];simp
   have:=hq _ _ _ hos z (JY _ (JO _ Kz));rw [zcI h hzn,hc] at this;simp at this
  ·
   have hfr:zh (frM x) i z=true:=by
    unfold frM;refine (zkh h.rf.back h.co hi).2 ⟨s,hs,?_,hc⟩;rw [jU h.rf (by have:=h.n;omega),Us hs,hsi];rfl
   have:=hq _ _ _ hoz i (JY _ (JO _ Kz));rw [zcI h hi,hfr] at this;simp at this
 exact⟨s,by unfold zcT;rw [hz,e],hs,hsi,hvs⟩
theorem zlg (h:XOk x) {o:List Nat} (hp:o.Perm (List.range x.ev.length)) (hq:∀ A a t,o=A++a::t->∀ b∈a::t,zh (zet x) b a=false) {l:Nat} (hl:l<qi x.ev) (h6:l<6) :
  ∃ s,zcT x o (UInt8.ofNat l)=some s/\s<x.ev.length/\(evA x s).v=x.mem l:=by
 have h48:=h.n;have hn:o.Nodup:=hp.nodup_iff.2 List.nodup_range;have lt:∀ {j},j∈o->j<x.ev.length:=fun {j} hj=>Uo.1 (hp.subset hj);have hin:∀ {j},j<x.ev.length->j∈o:=fun {j} hj=>hp.symm.subset (Uo.2 hj);obtain⟨c1,c2,c3⟩:=(zf9 h.co).1 h.coR;have hul:(UInt8.ofNat l).toNat=l:=by rw [KH];omega
 have hhead:=c1 l hl;have hne:zN x l≠[]:=fun e=>by rw [e] at hhead;have:(48:Nat)=l:=hhead;omega
 have hsne:sG x l≠[]:=fun e=>hne (by rw [zeJ,e];rfl);obtain⟨z,t,hzt⟩:=List.exists_cons_of_ne_nil hsne;have hzs:z∈sG x l:=by rw [hzt];exact Kz
 obtain⟨hzn,hzw,hzl⟩:=zaW.1 (zaL.1 hzs);have hzl2:(evA x z).l=UInt8.ofNat l:=Ug.1 (hzl.trans hul.symm);have hpz:(isW x z&&decide ((evA x z).l=UInt8.ofNat l))=true:=by rw [hzw,Us hzl2];rfl
 obtain⟨s,hs⟩:=ziO (p:=fun k=>isW x k&&decide ((evA x k).l=UInt8.ofNat l)) (hin hzn) hpz;obtain⟨C,D,hO,hps,hD⟩:=zk4 hs;rw [bAT,dE] at hps;have hso:s∈o:=by rw [hO];exact JO _ Kz
 have hsn:=lt hso;have e:s=z:=by
  refine Jp fun hne2=>?_;have hzC:z∈C:=by
   have:=hin hzn;rw [hO] at this;rcases QS.1 this with h1 | h1
   ·exact h1
   ·rcases UD.1 h1 with h2 | h2
    ·exact Gs h2.symm hne2
    ·have:=hD z h2;rw [hpz] at this;cases this
  have hss:s∈sG x l:=zaL.2 (zaW.2 ⟨hsn,hps.1,by rw [hps.2];exact hul⟩);have hzt2:z∈twl (sG x l) s:=by
   refine Jp fun hn2=>?_;have:s∈twl (sG x l) z:=Jp fun hn3=>hn2 ((zfj hss hzs hne2).2 hn3);rw [hzt,zbi,Gr rfl] at this
   cases this
  have hc:zh x.co s z=true:=(c2 s z (by omega)).2 ⟨l,hl,zaL.1 hss,hzt2⟩;obtain⟨C1,C2,hC⟩:=List.append_of_mem hzC;have hoz:o=C1++z::(C2++s::D):=by rw [hO,hC];simp
  have:=hq _ _ _ hoz s (JY _ (JO _ Kz));rw [zcI h hsn,hc] at this;simp at this
 refine⟨s,hs,hsn,?_⟩;rw [c3 l h6,Gr hl,e];unfold zbQ;rw [zeJ,hzt,KW];have g:∀ L:List Nat,(L++[z]).getLastD 0=z:=fun L=>by simp
 rw [g];rfl
theorem zov (h:XOk x) (hloc:∀ i,i<x.ev.length->isW x i=true->(evA x i).l.toNat<qi x.ev) {o:List Nat} (ho:za8 (zet x)=some o) {A B:List Nat} {i:Nat} (he:o=A++i::B) (hr:isR x i=true) :
  ∃ s,zcT x A (evA x i).l=some s/\s<x.ev.length/\zh x.rf s i=true/\(evA x s).v=(evA x i).v :=
 have ⟨hp,hq⟩:=zfk (zcH h) ho
 zma h hloc hp hq he hr
theorem zms (h:XOk x) {o:List Nat} (ho:za8 (zet x)=some o) {l:Nat} (hl:l<qi x.ev) (h6:l<6) :
  ∃ s,zcT x o (UInt8.ofNat l)=some s/\s<x.ev.length/\(evA x s).v=x.mem l :=
 have ⟨hp,hq⟩:=zfk (zcH h) ho
 zlg h hp hq hl h6
end
section
variable {x:ExD}
def zsU (x:ExD) (i j:Nat):Prop:=(i<x.ev.length/\j<x.ev.length)/\(zh x.rf i j=true\/zh x.co i j=true\/zh (frM x) i j=true)
theorem znO (h:XOk x) {i j:Nat} (hc:zsU x i j):zaE x i=true/\zaE x j=true:=by
 obtain⟨⟨hi,hj⟩,hc⟩:=hc;unfold zaE;rcases hc with hc | hc | hc
 ·obtain⟨a,_,b,_⟩:=zgX h hi hj hc;rw [a,b];simp
 ·obtain⟨a,b,_⟩:=zlt h hi hc;rw [a,b];simp
 ·obtain⟨a,b,_⟩:=zqp h hi hj hc;rw [a,b];simp
theorem zkQ (h:XOk x):RelOk x.ev.length (zhg 2 x):=zgM (zk6 h) (zkP h)
theorem zeN (h:XOk x) {i j:Nat} (hi:i<x.ev.length):zh (zhg 2 x) i j=true↔(zh x.po i j=true/\zaE x i=true/\zaE x j=true)\/zsU x i j:=by
 have hb:zh (zhg 2 x) i j=(zh (zaA 2 x) i j||[x.rf,x.co,frM x].any fun o=>zh o i j):=zgN hi (zk6 h) (zkP h);have jlt:∀ {r:RelD},RelOk x.ev.length r->zh r i j=true->j<x.ev.length:=fun {r} hr hb=>(hr.bit (by have:=h.n;omega) hb).2;rw [hb,QH];constructor
 ·rintro (hk | hk)
  ·unfold zaA at hk;rw [zg8] at hk;simp only [bAT,dE] at hk;exact .inl ⟨hk.2.2.1,hk.2.2.2.1,hk.2.2.2.2.1⟩
  ·simp only [UB,List.any_nil,Ux,QH] at hk;refine .inr ⟨⟨hi,?_⟩,hk⟩;rcases hk with hk | hk | hk
   ·exact jlt h.rf hk
   ·exact jlt h.co hk
   ·exact jlt (zdo h) hk
 ·rintro (⟨h1,h2,h3⟩ | ⟨⟨_,hj⟩,hk⟩)
  ·left;unfold zaA;rw [zg8,h1,h2,h3,Us hi,Us (jlt h.po h1)];rfl
  ·right;simp only [UB,List.any_nil,Ux,QH];exact hk
theorem zjX (h:XOk x) {i j:Nat}:zcr x.ev.length (zet x) i j↔i<x.ev.length/\(zh x.po i j=true\/zsU x i j):=by
 unfold zcr;constructor
 ·rintro⟨hi,hb⟩;refine⟨hi,?_⟩;have hj:j<x.ev.length:=((zcH h).bit (by have:=h.n;omega) hb).2;rw [zcI h hi] at hb;simp only [QH] at hb;rcases hb with (hb | hb) | (hb | hb)
  ·exact .inl hb
  ·exact .inr ⟨⟨hi,hj⟩,.inl hb⟩
  ·exact .inr ⟨⟨hi,hj⟩,.inr (.inl hb)⟩
  ·exact .inr ⟨⟨hi,hj⟩,.inr (.inr hb)⟩
 ·rintro⟨hi,hb⟩;refine⟨hi,?_⟩;rw [zcI h hi];rcases hb with hb | ⟨_,hb | hb | hb⟩ <;> rw [hb] <;> simp
theorem zpi (h:XOk x) {a b:Nat} (ht:TC (zcr x.ev.length (zet x)) a b):(a<x.ev.length/\zh x.po a b=true)\/∃ c d,(zaE x c=true/\zaE x d=true)/\(a=c\/(a<x.ev.length/\zh x.po a c=true))/\TC (zcr x.ev.length (zhg 2 x)) c d/\(d=b\/(d<x.ev.length/\zh x.po d b=true)):=by
 have ru:∀ {i j},zsU x i j->zcr x.ev.length (zhg 2 x) i j:=fun {i j} hc=>⟨hc.1.1,(zeN h hc.1.1).2 (.inr hc)⟩;have rk:∀ {i j},i<x.ev.length->zh x.po i j=true->zaE x i=true->zaE x j=true->zcr x.ev.length (zhg 2 x) i j:=fun {i j} hi hp ai aj=>⟨hi,(zeN h hi).2 (.inl ⟨hp,ai,aj⟩)⟩
 induction ht with
 | one hr =>
  obtain⟨hi,hr⟩:=(zjX h).1 hr;rcases hr with hr | hr
  ·exact .inl ⟨hi,hr⟩
  ·obtain⟨a1,a2⟩:=znO h hr;exact .inr ⟨_,_,⟨a1,a2⟩,.inl rfl,.one (ru hr),.inl rfl⟩
 | step ht hr ih =>
  obtain⟨hi,hr⟩:=(zjX h).1 hr;rcases hr with hr | hr
  ·rcases ih with ⟨g1,g2⟩ | ⟨c,d,g0,g1,g2,g3⟩
   ·exact .inl ⟨g1,zg6 h g1 g2 hr⟩
   ·refine .inr ⟨c,d,g0,g1,g2,.inr ?_⟩;rcases g3 with rfl | ⟨g3,g4⟩
    ·exact⟨hi,hr⟩
    ·exact⟨g3,zg6 h g3 g4 hr⟩
  ·obtain⟨a1,a2⟩:=znO h hr;rcases ih with ⟨g1,g2⟩ | ⟨c,d,g0,g1,g2,g3⟩
   ·exact .inr ⟨_,_,⟨a1,a2⟩,.inr ⟨g1,g2⟩,.one (ru hr),.inl rfl⟩
   ·refine .inr ⟨c,_,⟨g0.1,a2⟩,g1,?_,.inl rfl⟩;rcases g3 with rfl | ⟨g3,g4⟩
    ·exact .step g2 (ru hr)
    ·exact .step (.step g2 (rk g3 g4 g0.2 a1)) (ru hr)
theorem ztn (h:XOk x):zae (zhg 2 x)=true↔zae (zet x)=true:=by
 constructor
 ·intro hu;rw [acy_tc (zkQ h)] at hu;rw [acy_tc (zcH h)];intro i ht;rcases zpi h ht with ⟨g1,g2⟩ | ⟨c,d,g0,g1,g2,g3⟩
  ·have:=((zjp h g1).1 g2).2.1;omega
  ·have rk:∀ {i j},i<x.ev.length->zh x.po i j=true->zaE x i=true->zaE x j=true->zcr x.ev.length (zhg 2 x) i j:=fun {i j} hi hp ai aj=>⟨hi,(zeN h hi).2 (.inl ⟨hp,ai,aj⟩)⟩;have back:∀ {d c},d<x.ev.length->zh x.po d c=true->zaE x c=true->zaE x d=true->TC (zcr x.ev.length (zhg 2 x)) c d->False:=fun {d c} hd hp ac ad ht=>hu c (.step ht (rk hd hp ad ac));rcases g1 with rfl | ⟨g1,g1'⟩
   ·rcases g3 with rfl | ⟨g3,g4⟩
    ·exact hu _ g2
    ·exact back g3 g4 g0.1 g0.2 g2
   ·rcases g3 with rfl | ⟨g3,g4⟩
    ·exact back g1 g1' g0.1 g0.2 g2
    ·exact back g3 (zg6 h g3 g4 g1') g0.1 g0.2 g2
 ·intro hw;refine zq7 (zcH h) (zkQ h) (fun i j hi hj hb=>?_) hw;have:zcr x.ev.length (zet x) i j:=(zjX h).2 ⟨hi,by
   rcases (zeN h hi).1 hb with hb | hb
   ·exact .inl hb.1
   ·exact .inr hb⟩
  exact this.2
theorem ztm (h:XOk x):qK 2 x=0↔qK 1 x=0/\zae (zet x)=true:=by
 rw [zhY,zhY,<- ztn h];constructor
 ·rintro⟨h1,h2,h3⟩;exact⟨⟨h1,h2,.inl rfl⟩,h3.resolve_left (by decide)⟩
 ·rintro⟨⟨h1,h2,_⟩,h3⟩;exact⟨h1,h2,.inr h3⟩
end
def chR (Rs:List (List (List Nat))) (ds:List Nat) (j:Nat):List Nat:=(Rs.getD j []).getD (ds.getD j 0) []
theorem zs9 (R:List (List Nat)) (Rs:List (List (List Nat))) (ds:List Nat):chR (R::Rs) ds 0=R.getD (ds.headD 0) []:=by
 cases ds <;> rfl
theorem zga (R:List (List Nat)) (Rs:List (List (List Nat))) (ds:List Nat) (j:Nat):chR (R::Rs) ds (j+1)=chR Rs ds.tail j:=by
 cases ds with
 | nil=>show (Rs.getD j []).getD (([]:List Nat).getD (j+1) 0) []=(Rs.getD j []).getD (([]:List Nat).getD j 0) [];rfl
 | cons d ds=>rfl
theorem zdt (ev:List Ev):∀ (Rs:List (List (List Nat))) (l:Nat) (ds:List Nat) (p:RelD×(Nat->UInt8)),(∀ j,j<Rs.length->(chR Rs ds j).Nodup)->(∀ i j j',j<Rs.length->j'<Rs.length->i∈chR Rs ds j->i∈chR Rs ds j'->j=j') ->
  (coG ev l Rs ds p).1.n=p.1.n/\∀ i j,zh (coG ev l Rs ds p).1 i j=true↔(∃ k,k<Rs.length/\i∈chR Rs ds k/\j∈twl (chR Rs ds k).reverse i)\/((∀ k,k<Rs.length->i ∉ chR Rs ds k)/\zh p.1 i j=true)
 | [],l,ds,p,_,_=>⟨rfl,fun i j=>⟨fun h => .inr ⟨fun k hk=>Gs hk (Ub _),h⟩,fun h=>by
   rcases h with ⟨k,hk,_⟩ | h
   ·exact Gs hk (Ub _)
   ·exact h.2⟩⟩
 | R::Rs,l,ds,p,hn,hd=>by
  obtain⟨q,hq⟩:=nm ((j7 (R.getD (ds.headD 0) []) p.1,upd p.2 l (ev.getD ((R.getD (ds.headD 0) []).getLastD 0) ev0).v));have e:coG ev l (R::Rs) ds p=coG ev (l+1) Rs ds.tail q:=by rw [hq];rfl
  obtain⟨h1,h2⟩:=zdt ev Rs (l+1) ds.tail q (fun j hj=>by rw [<- zga R];exact hn (j+1) (by rw [Qs];omega)) (fun i j j' hj hj' a b=>by
   rw [<- zga R] at a b;have:=hd i (j+1) (j'+1) (by rw [Qs];omega) (by rw [Qs];omega) a b;omega)
  have hn0:=hn 0 (by rw [Qs];omega);rw [e];refine⟨h1.trans (by rw [hq];rfl),fun i j=>?_⟩;have hb:zh q.1 i j=if i∈chR (R::Rs) ds 0 then decide (j∈twl (chR (R::Rs) ds 0).reverse i) else zh p.1 i j:=by
   rw [hq,<- zs9 R Rs ds];unfold zh j7;show (zd5 (chR (R::Rs) ds 0).reverse p.1.to 0 i).testBit j=_;rw [zei _ _ _ ((List.reverse_perm _).nodup_iff.2 hn0),QD,Uv];by_cases h:i∈chR (R::Rs) ds 0
   ·rw [Gr h,Gr (List.mem_reverse.2 h)]
   ·rw [Gq h,Gq fun h2=>h (List.mem_reverse.1 h2)]
  rw [h2,hb];constructor
  ·rintro (⟨k,a1,a2,a3⟩ | ⟨a1,a2⟩)
   ·rw [<- zga R] at a2 a3;exact .inl ⟨k+1,by rw [Qs];omega,a2,a3⟩
   ·by_cases h:i∈chR (R::Rs) ds 0
    ·rw [Gr h] at a2;exact .inl ⟨0,by rw [Qs];omega,h,dT a2⟩
    ·rw [Gq h] at a2;refine .inr ⟨fun k hk=>?_,a2⟩
     cases k with
     | zero=>exact h
     | succ k=>rw [zga];exact a1 k (by rw [Qs] at hk;omega)
  ·rintro (⟨k,a1,a2,a3⟩ | ⟨a1,a2⟩)
   ·cases k with
    | zero =>
     refine .inr ⟨fun k hk h=>?_,by rw [Gr a2];exact Us a3⟩;rw [<- zga R] at h;have:=hd i 0 (k+1) (by rw [Qs];omega) (by rw [Qs];omega) a2 h;omega
    | succ k =>
     rw [zga] at a2 a3;exact .inl ⟨k,by rw [Qs] at a1;omega,a2,a3⟩
   ·refine .inr ⟨fun k hk h=>?_,?_⟩
    ·rw [<- zga R] at h;exact a1 (k+1) (by rw [Qs];omega) h
    ·rw [Gq (a1 0 (by rw [Qs];omega))];exact a2
theorem znQ (x:ExD):∀ (Rs:List (List (List Nat))) (l:Nat) (ds:List Nat) (p:RelD×(Nat->UInt8)),(∀ j,j<Rs.length->chR Rs ds j=zN x (l+j))->coG x.ev l Rs ds p=zfq x Rs.length l p
 | [],l,ds,p,_=>rfl
 | R::Rs,l,ds,p,h=>by
  have h0:=h 0 (by rw [Qs];omega);rw [zs9,UN] at h0;show coG x.ev (l+1) Rs ds.tail (j7 (R.getD (ds.headD 0) []) p.1,upd p.2 l (zbQ x.ev (R.getD (ds.headD 0) [])))=zfq x Rs.length (l+1) (j7 (zN x l) p.1,upd p.2 l (zbQ x.ev (zN x l)));rw [h0];refine znQ x Rs (l+1) ds.tail _ fun j hj=>?_;rw [<- zga R,h (j+1) (by rw [Qs];omega)];congr 1;omega
theorem zkc:∀ {s:List Nat},s.Nodup->s.Pairwise fun a b=>a∈twl s b
 | [],_ => .nil
 | y::s,h=>by
  have h2:=QV.1 h;refine List.pairwise_cons.2 ⟨fun b hb=>?_,?_⟩
  ·rw [zbi,Gq (fun e=>h2.1 (by rw [e];exact hb))];exact Kz
  ·refine List.Pairwise.imp_of_mem ?_ (zkc h2.2);intro a b ha hb hab;rw [zbi,Gq (fun e=>h2.1 (by rw [e];exact hb))];exact JY _ hab
theorem znm {key:Nat->Nat}:∀ {s:List Nat},s.Pairwise (fun a b=>key a<key b)->∀ a b,a∈s->b∈s->a≠b->key a≠key b
 | [],_,a,b,ha,_,_=>by cases ha
 | y::s,h,a,b,ha,hb,hne=>by
  have h2:=List.pairwise_cons.1 h;rcases UD.1 ha with e | e
  ·rcases UD.1 hb with e2 | e2
   ·exact Gs (e.trans e2.symm) hne
   ·have:=h2.1 b e2;rw [e];omega
  ·rcases UD.1 hb with e2 | e2
   ·have:=h2.1 a e;rw [e2];omega
   ·exact znm h2.2 a b e e2 hne
theorem zn1 {key:Nat->Nat}:∀ {a b:List Nat},a.Pairwise (fun x y=>key x<key y)->b.Pairwise (fun x y=>key x<key y)->(∀ x,x∈a↔x∈b)->a=b
 | [],[],_,_,_=>rfl
 | [],y::b,_,_,h=>Gs ((h y).2 (Kz ..)) (by simp)
 | x::a,[],_,_,h=>Gs ((h x).1 (Kz ..)) (by simp)
 | x::a,y::b,ha,hb,h=>by
  rw [List.pairwise_cons] at ha hb;have e:x=y:=by
   rcases UD.1 ((h x).1 (Kz ..)) with e | h1
   ·exact e
   ·rcases UD.1 ((h y).2 (Kz ..)) with e | h2
    ·exact e.symm
    ·have:=hb.1 x h1;have:=ha.1 y h2;omega
  subst e;rw [zn1 ha.2 hb.2 fun z=>?_];have hz:=h z;rw [UD,UD] at hz;constructor
  ·intro hza;rcases hz.1 (.inr hza) with e | h2
   ·subst e;have:=ha.1 z hza;omega
   ·exact h2
  ·intro hzb;rcases hz.2 (.inr hzb) with e | h2
   ·subst e;have:=hb.1 z hzb;omega
   ·exact h2
theorem zg2 {x:ExD} {l:Nat} {rk:List Nat} (h48:x.ev.length<=48) (hp:rk.Perm (zY x l)) (hb:∀ i,i∈rk->∀ j,zh x.co i j=decide (j∈twl rk.reverse i)):zN x l=rk:=by
 have hwn:(zY x l).Nodup:=List.nodup_range.filter _;have hn:rk.Nodup:=hp.nodup_iff.2 hwn;have hrn:rk.reverse.Nodup:=(List.reverse_perm _).nodup_iff.2 hn;have hlt:∀ i,i∈rk->i<64:=fun i hi=>by have:=zfg (hp.subset hi);omega
 have key:rk.reverse.Pairwise fun a b=>zbR x a<zbR x b:=by
  refine List.Pairwise.imp_of_mem ?_ (zkc hrn);intro a b ha hb2 hab;have ha:=List.mem_reverse.1 ha;have hb2:=List.mem_reverse.1 hb2;show zbP (x.co.to a)<zbP (x.co.to b);rw [zk3,zk3];refine zhV (j:=a) (fun i _ hi=>?_) (hlt a ha) ?_ ?_
  ·have h1:zh x.co a i=true:=hi;rw [hb a ha] at h1;show zh x.co b i=true;rw [hb b hb2];exact Us (zin hab (dT h1))
  ·show zh x.co a a=false;rw [hb a ha];exact Uh fun h=>(zgp h).2 rfl
  ·show zh x.co b a=true;rw [hb b hb2];exact Us hab
 have mem:∀ a,a∈sG x l↔a∈rk.reverse:=fun a=>zaL.trans (hp.mem_iff.symm.trans List.mem_reverse.symm);have e:sG x l=rk.reverse:=by
  exact zn1 (key:=zbR x) (zfV (zjd _ _) (zkn l) fun a b ha hb2 hne=>znm key a b ((mem a).1 ha) ((mem b).1 hb2) hne) key mem
 rw [zeJ,e,Kb]
section
variable {init:List UInt8} {Ps:List PathD} {m:MixD} {ds:List Nat}
theorem zcC (h:ChoiceW init Ps m):(zE m ds).ev.length<=48:=by
 rw [zgF,h.len];exact h.n
theorem ChoiceW.ch (h:ChoiceW init Ps m) (hd:ds∈qg (zL m)):∀ l,l<init.length->(chR (m.wr.map zM) (ds.drop m.rs.length) l).Perm (zY m.base l)/\(chR (m.wr.map zM) (ds.drop m.rs.length) l).headD 48=l:=by
 intro l hl;obtain⟨h1,h2⟩:=za1 hd;obtain⟨w1,w2⟩:=h.wr;have hlw:l<m.wr.length:=by omega
 have hw:m.wr[l]=zY m.base l:=by
  have:=w2 l hl;rw [gDe,gE hlw] at this;exact this
 have hs:(zL m)[m.rs.length+l]?=some (zM (zY m.base l)).length:=by
  unfold zL;rw [Jn (by rw [QN];omega),QN,Jz,KU,gE hlw,hw];rfl
 have hlen:m.rs.length+l<ds.length:=by rw [h1];exact (Js.1 hs).1
 have hdl:=h2 _ _ _ hs (gE hlen);have e1:(m.wr.map zM).getD l []=zM (zY m.base l):=by
  rw [gDe,KU,gE hlw,hw];rfl
 have e2:(ds.drop m.rs.length).getD l 0=ds[m.rs.length+l]:=by
  rw [gDe,Kw,gE hlen];rfl
 have e3:chR (m.wr.map zM) (ds.drop m.rs.length) l=(zM (zY m.base l))[ds[m.rs.length+l]]:=by
  unfold chR;rw [e1,e2,gDe,gE hdl];rfl
 have hm:chR (m.wr.map zM) (ds.drop m.rs.length) l∈zM (zY m.base l):=by rw [e3];exact gM hdl
 obtain⟨g1,g2⟩:=h.head hl;have h48:(zY m.base l).length<=48:=by
  have:=zgm m.base l;have:=h.n;have:=h.len;omega
 obtain⟨r1,r2⟩:=ziy g1 h48 hm;exact⟨r1,r2.trans g2⟩
theorem ChoiceW.chx (h:ChoiceW init Ps m) (hd:ds∈qg (zL m)):(∀ j,j<(m.wr.map zM).length->(chR (m.wr.map zM) (ds.drop m.rs.length) j).Nodup)/\∀ i j j',j<(m.wr.map zM).length->j'<(m.wr.map zM).length->i∈chR (m.wr.map zM) (ds.drop m.rs.length) j->i∈chR (m.wr.map zM) (ds.drop m.rs.length) j'->j=j':=by
 rw [QN,h.wr.1];refine⟨fun j hj=>(h.ch hd j hj).1.nodup_iff.2 (List.nodup_range.filter _),fun i j j' hj hj' a b=>?_⟩;have a:=(h.ch hd j hj).1.subset a;have b:=(h.ch hd j' hj').1.subset b;exact (zaW.1 a).2.2.symm.trans (zaW.1 b).2.2
theorem ChoiceW.rank (h:ChoiceW init Ps m) (hd:ds∈qg (zL m)) {l:Nat} (hl:l<init.length):zN (zE m ds) l=chR (m.wr.map zM) (ds.drop m.rs.length) l:=by
 obtain⟨c1,c2⟩:=h.chx hd;obtain⟨_,hb⟩:=zdt m.base.ev (m.wr.map zM) 0 (ds.drop m.rs.length) (m.base.co,m.base.mem) c1 c2;refine zg2 (zcC h) (h.ch hd l hl).1 fun i hi j=>?_;have e:zh (zE m ds).co i j=zh (coG m.base.ev 0 (m.wr.map zM) (ds.drop m.rs.length) (m.base.co,m.base.mem)).1 i j:=rfl;rw [e,Bool.eq_iff_iff,hb,dE];have hlw:l<(m.wr.map zM).length:=by rw [QN,h.wr.1];exact hl
 constructor
 ·rintro (⟨k,a1,a2,a3⟩ | ⟨a1,a2⟩)
  ·have:=c2 i k l a1 hlw a2 hi;rw [<- this];exact a3
  ·exact Gs hi (a1 l hlw)
 ·exact fun hj => .inl ⟨l,hlw,hi,hj⟩
theorem ChoiceW.res (h:ChoiceW init Ps m) (hd:ds∈qg (zL m)):((zE m ds).co,(zE m ds).mem)=zfq (zE m ds) init.length 0 (⟨(zE m ds).ev.length,fun _=>0⟩,fun _=>0):=by
 have e:=znQ (zE m ds) (m.wr.map zM) 0 (ds.drop m.rs.length) (m.base.co,m.base.mem) fun j hj=>by
  rw [QN,h.wr.1] at hj;rw [US,h.rank hd hj]
 obtain⟨_,b2,b3,_⟩:=zcE (init:=init) (Ps:=Ps);have e2:(m.base.co,m.base.mem)=((⟨(zE m ds).ev.length,fun _=>0⟩,fun _=>0):RelD×(Nat->UInt8)):=by
  rw [zgF,h.len,h.base,b2,b3];rfl
 rw [QN,h.wr.1] at e;show coG (zE m ds).ev 0 (m.wr.map zM) (ds.drop m.rs.length) (m.base.co,m.base.mem)=_;rw [e,e2]
theorem zgY (a:RelD):jl a a=true:=by
 unfold jl;rw [Us rfl,Uy,Qj];exact fun i _=>Us rfl
theorem ChoiceW.co (h:ChoiceW init Ps m) (hd:ds∈qg (zL m)):j6 (zE m ds) init.length=true:=by
 unfold j6;have e:=(ze7 (x:=zE m ds) init.length 0 (⟨(zE m ds).ev.length,fun _=>0⟩,fun _=>0) _).2 ⟨fun k _ hk=>by
  rw [h.rank hd (by omega)];exact (h.ch hd k (by omega)).2,h.res hd⟩
 rw [e];dsimp only;rw [zgY,Uy,Qj];exact fun l _=>Us rfl
end
theorem zcs {r:RelD} {n:Nat} (hn:r.n=n) (h48:n<=48) (h:∀ i j,i<48->zh r i j=true->i<n/\j<n):RelOk n r:=by
 refine .of hn h48 h fun i hi=>Qz fun hge=>?_;obtain⟨j,hj1,hj2⟩:=Ja hge;have:=(h i j hi hj2).2;omega
theorem zni (ev:List Ev) {i j:Nat}:zh (poR ev) i j=true↔∃ e,ev[i]?=some e/\e.th ≠ -1/\i<j/\j<ev.length/\(ev.getD j ev0).th=e.th:=by
 unfold zh poR;show (zbx ev i).testBit j=true↔_;unfold zbx
 cases he:ev[i]? with
 | none=>simp
 | some e =>
  have hi:i<ev.length:=(Js.1 he).1;dsimp only;by_cases h1:e.th = -1
  ·rw [Gr h1];simp [h1]
  ·rw [Gq h1,zjZ];rw [Qt];constructor
   ·rintro (h | ⟨m,h2,h3,h4⟩)
    ·simp at h
    ·rw [ziS] at h4;exact⟨e,rfl,h1,by omega,by omega,by rw [h3];exact h4⟩
   ·rintro⟨e',he',_,h2,h3,h4⟩
    cases he'
    refine .inr ⟨j-(i+1),by omega,by omega,?_⟩;rw [ziS,show i+1+(j-(i+1))=j by omega];exact h4
theorem zm7:∀ (rs:List (Nat×List Nat)) (ds:List Nat) (f:Nat->Nat) (i j:Nat),(rfF rs ds f i).testBit j=true↔(f i).testBit j=true\/∃ (t:Nat) (r:Nat×List Nat),rs[t]?=some r/\i=r.2.getD (ds.getD t 0) 0/\j=r.1
 | [],ds,f,i,j=>⟨fun h => .inl h,fun h=>by
   rcases h with h | ⟨t,r,h,_⟩
   ·exact h
   ·simp at h⟩
 | (r,s)::rs,ds,f,i,j=>by
  show (rfF rs ds.tail (upd f (s.getD (ds.headD 0) 0) (f (s.getD (ds.headD 0) 0)|||2^r)) i).testBit j=true↔_;rw [zm7 rs];have ht:∀ t,ds.tail.getD t 0=ds.getD (t+1) 0:=fun t=>by cases ds <;> rfl
  have h0:ds.headD 0=ds.getD 0 0:=by cases ds <;> rfl
  have hu:(upd f (s.getD (ds.headD 0) 0) (f (s.getD (ds.headD 0) 0)|||2^r) i).testBit j=true↔(f i).testBit j=true\/(i=s.getD (ds.getD 0 0) 0/\j=r):=by
   rw [h0];by_cases e:i=s.getD (ds.getD 0 0) 0
   ·rw [e,zP,Ur,j4,QH,dE];simp
   ·rw [qk _ _ e];exact⟨.inl,fun h=>h.resolve_right fun h2=>e h2.1⟩
  rw [hu];constructor
  ·rintro ((h | ⟨h1,h2⟩) | ⟨t,q,h1,h2,h3⟩)
   ·exact .inl h
   ·exact .inr ⟨0,(r,s),rfl,h1,h2⟩
   ·exact .inr ⟨t+1,q,h1,by rw [<- ht];exact h2,h3⟩
  ·rintro (h | ⟨t,q,h1,h2,h3⟩)
   ·exact .inl (.inl h)
   ·cases t with
    | zero =>
     have h1:some (r,s)=some q:=h1
     cases h1
     exact .inl (.inr ⟨h2,h3⟩)
    | succ t=>exact .inr ⟨t,q,h1,by rw [ht];exact h2,h3⟩
theorem zeL (b:Nat):∀ (ps:List (Nat×Nat)) (f:Nat->Nat) (i j:Nat),(zfu b ps f i).testBit j=true↔(f i).testBit j=true\/∃ p∈ps,i=b+p.1/\j=b+p.2
 | [],f,i,j=>⟨fun h => .inl h,fun h=>by
   rcases h with h | ⟨p,h,_⟩
   ·exact h
   ·cases h⟩
 | p::ps,f,i,j=>by
  show (zfu b ps (upd f (b+p.1) (f (b+p.1)|||2^(b+p.2))) i).testBit j=true↔_;rw [zeL b ps];have hu:(upd f (b+p.1) (f (b+p.1)|||2^(b+p.2)) i).testBit j=true↔(f i).testBit j=true\/(i=b+p.1/\j=b+p.2):=by
   by_cases e:i=b+p.1
   ·rw [e,zP,Ur,j4,QH,dE];simp
   ·rw [qk _ _ e];simp [e]
  rw [hu];constructor
  ·rintro ((h | h) | ⟨q,hq,h⟩)
   ·exact .inl h
   ·exact .inr ⟨p,Kz,h⟩
   ·exact .inr ⟨q,JY _ hq,h⟩
  ·rintro (h | ⟨q,hq,h⟩)
   ·exact .inl (.inl h)
   ·rcases UD.1 hq with e | e
    ·rw [e] at h;exact .inl (.inr h)
    ·exact .inr ⟨q,e,h⟩
theorem getD_some {L:List Nat} {k:Nat} (h:k<L.length):L[k]?=some (L.getD k 0):=by
 rw [gDe,gE h];rfl
theorem zr6 {L:List Nat} {k v:Nat} (h:L[k]?=some v):L.getD k 0=v:=by
 rw [gDe,h];rfl
def zdB (sel:PathD->List (Nat×Nat)):Nat->List PathD->Nat->Nat->Prop
 | _,[],_,_=>False
 | b,P::Ps,i,j=>(∃ p∈sel P,i=b+p.1/\j=b+p.2)\/zdB sel (b+P.ev.length) Ps i j
theorem zgO (x:ExD) (k:Nat) (P:PathD):(zbu x k P).ev.length=x.ev.length+P.ev.length:=by
 show (x.ev++j0 k P.ev).length=_;rw [lap];unfold j0;rw [QN]
theorem zq1:∀ (Ps:List PathD) (k:Nat) (x:ExD) (i j:Nat),zh (asR k Ps x).dt i j=true↔zh x.dt i j=true\/zdB PathD.data x.ev.length Ps i j
 | [],k,x,i,j=>⟨fun h => .inl h,fun h=>h.elim id False.elim⟩
 | P::Ps,k,x,i,j=>by
  show zh (asR (k+1) Ps (zbu x k P)).dt i j=true↔_;rw [zq1 Ps,zgO];show ((zfu x.ev.length P.data x.dt.to i).testBit j=true\/_)↔_;rw [zeL,or_assoc];rfl
theorem zq2:∀ (Ps:List PathD) (k:Nat) (x:ExD) (i j:Nat),zh (asR k Ps x).ct i j=true↔zh x.ct i j=true\/zdB PathD.ctrl x.ev.length Ps i j
 | [],k,x,i,j=>⟨fun h => .inl h,fun h=>h.elim id False.elim⟩
 | P::Ps,k,x,i,j=>by
  show zh (asR (k+1) Ps (zbu x k P)).ct i j=true↔_;rw [zq2 Ps,zgO];show ((zfu x.ev.length P.ctrl x.ct.to i).testBit j=true\/_)↔_;rw [zeL,or_assoc];rfl
theorem zq0:∀ (Ps:List PathD) (k:Nat) (x:ExD) (i j:Nat),zh (asR k Ps x).rm i j=true↔zh x.rm i j=true\/zdB PathD.rmw x.ev.length Ps i j
 | [],k,x,i,j=>⟨fun h => .inl h,fun h=>h.elim id False.elim⟩
 | P::Ps,k,x,i,j=>by
  show zh (asR (k+1) Ps (zbu x k P)).rm i j=true↔_;rw [zq0 Ps,zgO];show ((zfu x.ev.length P.rmw x.rm.to i).testBit j=true\/_)↔_;rw [zeL,or_assoc];rfl
theorem zjN {sel:PathD->List (Nat×Nat)}:∀ (Ps:List PathD) (k b i j:Nat),(∀ P∈Ps,∀ p∈sel P,p.1<P.ev.length/\p.2<P.ev.length)->zdB sel b Ps i j->i<b+(zbY k Ps).length/\j<b+(zbY k Ps).length
 | [],k,b,i,j,h,hd=>hd.elim
 | P::Ps,k,b,i,j,h,hd=>by
  have e:(zbY k (P::Ps)).length=P.ev.length+(zbY (k+1) Ps).length:=by
   show (j0 k P.ev++zbY (k+1) Ps).length=_;rw [lap];unfold j0;rw [QN]
  rw [e];rcases hd with ⟨p,hp,h1,h2⟩ | hd
  ·have:=h P Kz p hp;omega
  ·have:=zjN Ps (k+1) _ i j (fun Q hQ=>h Q (JY _ hQ)) hd;omega
section
variable {init:List UInt8} {Ps:List PathD} {m:MixD} {ds:List Nat}
theorem zcn (n i j:Nat):¬ zh (zc9 n) i j=true:=fun h=>by
 have h:(0:Nat).testBit j=true:=h;simp at h
theorem zfR (h:∀ P∈Ps,PathW init.length P):(∀ i j,zh (j9 init Ps).dt i j=true↔zdB PathD.data init.length Ps i j)/\(∀ i j,zh (j9 init Ps).ct i j=true↔zdB PathD.ctrl init.length Ps i j)/\∀ i j,zh (j9 init Ps).rm i j=true↔zdB PathD.rmw init.length Ps i j:=by
 obtain⟨x0,hx0⟩:∃ x0:ExD,x0={ ex0 (zbv init.length Ps) with ev:=qI 0 init }:=⟨_,rfl⟩;have hl:x0.ev.length=init.length:=by rw [hx0];exact z8 init 0
 refine⟨fun i j=>?_,fun i j=>?_,fun i j=>?_⟩
 ·have:=zq1 Ps 0 x0 i j;rw [hl] at this;show zh (asR 0 Ps _).dt i j=true↔_;rw [<- hx0,this];exact⟨fun h=>h.resolve_left (by rw [hx0];exact zcn _ i j),.inr⟩
 ·have:=zq2 Ps 0 x0 i j;rw [hl] at this;show zh (asR 0 Ps _).ct i j=true↔_;rw [<- hx0,this];exact⟨fun h=>h.resolve_left (by rw [hx0];exact zcn _ i j),.inr⟩
 ·have:=zq0 Ps 0 x0 i j;rw [hl] at this;show zh (asR 0 Ps _).rm i j=true↔_;rw [<- hx0,this];exact⟨fun h=>h.resolve_left (by rw [hx0];exact zcn _ i j),.inr⟩
theorem ChoiceW.rfb (h:ChoiceW init Ps m) (hd:ds∈qg (zL m)) {i j:Nat}:zh (zE m ds).rf i j=true↔∃ (t:Nat) (r:Nat×List Nat),m.rs[t]?=some r/\i∈r.2/\r.2[ds.getD t 0]?=some i/\j=r.1:=by
 obtain⟨h1,h2⟩:=za1 hd;obtain⟨b1,_⟩:=zcE (init:=init) (Ps:=Ps);have e:zh (zE m ds).rf i j=(rfF m.rs ds m.base.rf.to i).testBit j:=rfl;rw [e,zm7];have z:¬ (m.base.rf.to i).testBit j=true:=by
  rw [h.base,b1];exact zcn _ i j
 have dig:∀ {t r},m.rs[t]?=some r->ds.getD t 0<r.2.length:=fun {t r} hr=>by
  have ht:=(Js.1 hr).1;have hs:(zL m)[t]?=some r.2.length:=by
   unfold zL;rw [Jr (by rw [QN];exact ht),KU,hr];rfl
  have hlen:t<ds.length:=by rw [h1];exact (Js.1 hs).1
  rw [gDe,gE hlen];exact h2 _ _ _ hs (gE hlen)
 constructor
 ·rintro (h | ⟨t,r,g1,g2,g3⟩)
  ·exact Gs h z
  ·have hlt:=dig g1;have e2:r.2[ds.getD t 0]?=some i:=by
    rw [g2];exact getD_some hlt
   exact⟨t,r,g1,JZ e2,e2,g3⟩
 ·rintro⟨t,r,g1,_,g2,g3⟩;exact .inr ⟨t,r,g1,(zr6 g2).symm,g3⟩
structure Rels6 (n:Nat) (x:ExD):Prop where
 po:RelOk n x.po
 rf:RelOk n x.rf
 co:RelOk n x.co
 dt:RelOk n x.dt
 ct:RelOk n x.ct
 rm:RelOk n x.rm
theorem ChoiceW.rels (h:ChoiceW init Ps m) (hd:ds∈qg (zL m)):Rels6 (zE m ds).ev.length (zE m ds):=by
 have h48:=zcC (ds:=ds) h;obtain⟨b1,b2,b3,b4,b5,b6⟩:=zcE (init:=init) (Ps:=Ps);have hl:(zE m ds).ev.length=zbv init.length Ps:=by rw [zgF,h.len]
 have hn:((zbv init.length Ps:Nat):Int)=((zE m ds).ev.length:Nat):=by rw [hl]
 obtain⟨d1,d2,d3⟩:=zfR h.P;have hb:init.length+(zbY 0 Ps).length=(zE m ds).ev.length:=by
  rw [zgF,h.base,zcb,lap,z8]
 refine⟨?_,?_,?_,?_,?_,?_⟩
 ·have e:(zE m ds).po=poR (zE m ds).ev:=by
   show m.base.po=poR m.base.ev;rw [h.base];rfl
  rw [e];refine zcs rfl h48 fun i j _ hb=>?_;obtain⟨e,he,_,_,h3,_⟩:=(zni _).1 hb;exact⟨(Js.1 he).1,h3⟩
 ·refine zcs (by show m.base.rf.n=_;rw [h.base,b1];exact hn) h48 fun i j _ hb=>?_;obtain⟨t,r,g1,g2,_,g3⟩:=(h.rfb hd).1 hb;obtain⟨s1,_,s3⟩:=h.src (JZ g1);exact⟨s3 i g2,by rw [g3];exact s1⟩
 ·obtain⟨c1,c2⟩:=h.chx hd;obtain⟨c0,hbits⟩:=zdt m.base.ev (m.wr.map zM) 0 (ds.drop m.rs.length) (m.base.co,m.base.mem) c1 c2;refine zcs (by show (coG m.base.ev 0 (m.wr.map zM) (ds.drop m.rs.length) (m.base.co,m.base.mem)).1.n=_;rw [c0,h.base,b2];exact hn) h48 fun i j _ hb=>?_;have hb:zh (coG m.base.ev 0 (m.wr.map zM) (ds.drop m.rs.length) (m.base.co,m.base.mem)).1 i j=true:=hb;rcases (hbits i j).1 hb with ⟨k,a1,a2,a3⟩ | ⟨_,a2⟩
  ·rw [QN,h.wr.1] at a1;have hp:=(h.ch hd k a1).1;exact⟨zfg (hp.subset a2),zfg (hp.subset (List.mem_reverse.1 (zgp a3).1))⟩
  ·rw [h.base,b2] at a2;exact Gs a2 (zcn _ i j)
 ·refine zcs (by show m.base.dt.n=_;rw [h.base,b4];exact hn) h48 fun i j _ hb=>?_;have hb:zh m.base.dt i j=true:=hb;rw [h.base,d1] at hb;have:=zjN Ps 0 _ i j (fun P hP p hp=>(h.P P hP).b.dt p hp) hb;omega
 ·refine zcs (by show m.base.ct.n=_;rw [h.base,b5];exact hn) h48 fun i j _ hb=>?_;have hb:zh m.base.ct i j=true:=hb;rw [h.base,d2] at hb;have:=zjN Ps 0 _ i j (fun P hP p hp=>(h.P P hP).b.ct p hp) hb;omega
 ·refine zcs (by show m.base.rm.n=_;rw [h.base,b6];exact hn) h48 fun i j _ hb=>?_;have hb:zh m.base.rm i j=true:=hb;rw [h.base,d3] at hb;have:=zjN Ps 0 _ i j (fun P hP p hp=>(h.P P hP).b.rm p hp) hb;omega
end
theorem zsB {p:Prg} {V:List UInt8} (hO:OkG p) {x:ExD} (hx:x∈je p V):∃ Ps m ds,ChoiceW p.init Ps m/\m∈qh p V/\jw m 1≠0/\ds∈qg (zL m)/\x=zE m ds:=by
 obtain⟨m,hm,hx⟩:=List.mem_flatMap.1 hx;unfold qV at hx
 split at hx
 ·cases hx
 ·rename_i h1;obtain⟨d,_,h⟩:=zdS hO hm;obtain⟨ds,hds,rfl⟩:=UL.1 hx;exact⟨_,m,ds,h,hm,h1,hds,rfl⟩
structure GoodX (k:Nat) (x:ExD):Prop where
 n:x.ev.length<=48
 k1:1<=k
 k6:k<=6
 kn:k<=x.ev.length
 ini:qi x.ev=k
 po:x.po=poR x.ev
 rels:Rels6 x.ev.length x
 co:j6 x k=true
 ev0:(evA x 0).k=2/\(evA x 0).l=0
 w8:∀ l,(zY x l).length<=8
theorem ziQ:∀ (a b:List Ev),(∀ e∈a,e.th = -1)->(∀ e∈b,e.th ≠ -1)->qi (a++b)=a.length
 | [],b,_,hb=>by
  unfold qi
  cases b with
  | nil=>rfl
  | cons e b=>rw [QU,Kn,Gq (by simpa using hb e Kz)]
 | e::a,b,ha,hb=>by
  rw [Ql,zmp,Gr (ha e Kz),ziQ a b (fun d hd=>ha d (JY _ hd)) hb,Qs]
theorem zr7 {n:Nat} (h:fct (n-1)<20001):n<=8:=by
 refine Nat.le_of_not_lt fun h9=>?_;have h1:fct 8<=fct (n-1):=zhK (by omega);have h2:fct 8=40320:=rfl;omega
section
variable {init:List UInt8} {Ps:List PathD} {m:MixD} {ds:List Nat}
theorem ChoiceW.inits (h:ChoiceW init Ps m):qi m.base.ev=init.length:=by
 rw [h.base,zcb,ziQ,z8]
 ·intro e he;obtain⟨i,hi,rfl⟩:=Ki he;rw [z8] at hi;have:=zbd init 0 hi;rw [gE (by rw [z8];exact hi)] at this;rw [Uf this]
 ·intro e he;obtain⟨P,hP,a,ha,t,_,_,rfl⟩:=zhN Ps 0 e he;show ((t:Nat):Int) ≠ -1;omega
theorem ChoiceW.good (h:ChoiceW init Ps m) (hd:ds∈qg (zL m)) (h1:jw m 1≠0) (hc:jw m 20001<=20000):GoodX init.length (zE m ds):=by
 have hin:init.length<=m.base.ev.length:=by rw [h.len];exact zgQ _ _
 have e0:=h.ini (i:=0) (by have:=h.i1;omega);refine⟨zcC h,h.i1,h.i6,hin,h.inits,?_,h.rels hd,h.co hd,?_,fun l=>?_⟩
 ·show m.base.po=poR m.base.ev;rw [h.base];rfl
 ·show (evA m.base 0).k=2/\(evA m.base 0).l=0;rw [e0];exact⟨rfl,rfl⟩
 ·show (zY m.base l).length<=8;by_cases hl:l<init.length
  ·have hw:=h.wr.2 l hl;have hlw:l<m.wr.length:=by have:=h.wr.1;omega
   have hm:zY m.base l∈m.wr:=by
    rw [<- hw,gDe,gE hlw];exact gM hlw
   exact zr7 (zmu (fun w hw=>(h.w1 hw).1) (lim:=20001) (by decide) (by omega) h1 _ hm)
  ·have:zY m.base l=[]:=by
    refine Je.2 fun a ha=>?_;obtain⟨a1,a2,a3⟩:=zaW.1 ha;have hmem:evA m.base a∈(j9 init Ps).ev:=by
     rw [<- h.base];unfold evA;rw [gDe,gE a1];exact gM a1
    have:=zcF h.i6 h.P hmem (.inr (dT a2));omega
   rw [this];exact Gb _
end
theorem zmK {p:Prg} {V:List UInt8} {most:Nat} (hO:OkG p) (hc:zc3 p V most) (hm:most<=20000) {x:ExD} (hx:x∈je p V):GoodX p.init.length x:=by
 obtain⟨Ps,m,ds,h,hmm,h1,hd,rfl⟩:=zsB hO hx;refine h.good hd h1 ?_;have h2:=hc.2.2;have:=zml (f:=fun m=>jw m 20001) hmm;omega
structure RightP (x:ExD):Prop where
 ev:jr x.ev (qi x.ev)=true
 rel:∀ r∈[x.po,x.rf,x.co,x.dt,x.ct,x.rm],r.n=x.ev.length/\okR r=true
 po:jl x.po (poR x.ev)=true
 rf:zal x=true
 co:j6 x (qi x.ev)=true
section
variable {k:Nat} {x:ExD} {i:Nat}
structure SpW (y:ExD):Prop where
 w20:∀ l,(zY y l).length<=20
 po:zH y.po.to
 rf:zH y.rf.to
 co:zH y.co.to
 dt:zH y.dt.to
 ct:zH y.ct.to
 rm:zH y.rm.to
end
theorem znK (L : Nat) (es : List Ev) (t : Int) (n : Nat) : ∀ (vs : List UInt8) (i : Nat), i + vs.length = L → zbW L i (qI i vs ++ es) t n = zbW L L es t n
  | [], i, h => by
    have : i = L := by simpa using h
    rw [this]; rfl
  | v :: vs, i, h => by
    rw [Qs] at h
    show zbW L i (⟨-1, 2, UInt8.ofNat i, v, 0, 0, 0⟩ :: (qI (i + 1) vs ++ es)) t n = _
    have step : zbW L i (⟨-1, 2, UInt8.ofNat i, v, 0, 0, 0⟩ :: (qI (i + 1) vs ++ es)) t n = zbW L (i + 1) (qI (i + 1) vs ++ es) t n := by
      conv => lhs; unfold zbW
      rw [Gr (by omega), Gr rfl]
    rw [step]
    exact znK L es t n vs (i + 1) (by omega)
theorem znJ {L k : Nat} (hk : k < 4) (qp : List Ev) : ∀ (es : List Ev) (i j : Nat) (t : Int) (n : Nat), L ≤ i → (∀ q e, es[q]? = some e → zsR L (j + q) e) → j + es.length ≤ 24 → 0 ≤ t → ((t = k ∧ n = j) ∨ (j = 0 ∧ t < k)) →
    ∃ (t' : Int) (n' : Nat), zbW L i (j0 k es ++ qp) t n = zbW L (i + es.length) qp t' n' ∧ 0 ≤ t' ∧ ((t' = k ∧ n' = j + es.length) ∨ (j = 0 ∧ es = [] ∧ t' < k))
  | [], i, j, t, n, hi, he, hj, h0, hs => ⟨t, n, rfl, h0, by
      rcases hs with ⟨a, b⟩ | ⟨a, b⟩
      · exact .inl ⟨a, b⟩
      · exact .inr ⟨a, rfl, b⟩⟩
  | e :: es, i, j, t, n, hi, he, hj, h0, hs => by
    rw [Qs] at hj
    obtain ⟨_, hp, hkd⟩ := he 0 e rfl
    rw [UN] at hp
    have hpn : e.p.toNat = j := by rw [hp, KH]; omega
    have htk : t ≤ k := by rcases hs with ⟨a, _⟩ | ⟨_, b⟩ <;> omega
    have ht' : (if t < (k : Int) then (k : Int) else t) = k := by split <;> omega
    have hn' : (if t < (k : Int) then 0 else n) = j := by
      rcases hs with ⟨a, b⟩ | ⟨a, b⟩
      · rw [Gq (by omega)]; exact b
      · rw [Gr b]; exact a.symm
    obtain ⟨t2, n2, h1, h2, h3⟩ := znJ (L := L) hk qp es (i + 1) (j + 1) k (j + 1) (by omega) (fun q d hq => by
      have h5 := he (q + 1) d hq
      have e5 : j + (q + 1) = j + 1 + q := by omega
      rw [e5] at h5
      exact h5) (by omega) (by omega) (.inl ⟨rfl, rfl⟩)
    refine ⟨t2, n2, ?_, h2, ?_⟩
    · rw [Qs, show i + (es.length + 1) = i + 1 + es.length by omega, ← h1]
      show zbW L i ({ e with th := (k : Int) } :: (j0 k es ++ qp)) t n = _
      have step : zbW L i ({ e with th := (k : Int) } :: (j0 k es ++ qp)) t n = if i < L then (if ({ e with th := (k : Int) } : Ev) = ⟨-1, 2, UInt8.ofNat i, e.v, 0, 0, 0⟩ then zbW L (i + 1) (j0 k es ++ qp) t n else false) else if (k : Int) < t ∨ 4 ≤ (k : Int) then false else
          (if e.p.toNat = (if t < (k : Int) then 0 else n) then
            (if e.k = 1 ∨ e.k = 2 then (if e.l.toNat < L then zbW L (i + 1) (j0 k es ++ qp) (if t < (k : Int) then (k : Int) else t) ((if t < (k : Int) then 0 else n) + 1) else false)
             else if e.k = 3 then (if e.l = 0 ∧ e.v = 0 then zbW L (i + 1) (j0 k es ++ qp) (if t < (k : Int) then (k : Int) else t) ((if t < (k : Int) then 0 else n) + 1) else false) else false)
            else false) := rfl
      rw [step, Gq (by omega), Gq (by omega), hn', Gr hpn, ht']
      rcases hkd with ⟨a, b⟩ | ⟨a, b⟩
      · rw [Gr a, Gr b]
      · rw [Gq (by rw [a]; decide), Gr a, Gr b]
    · rcases h3 with ⟨a, b⟩ | ⟨a, _⟩
      · exact .inl ⟨a, by rw [Qs, b]; omega⟩
      · omega
theorem zhO {L : Nat} : ∀ (Ps : List PathD) (k i : Nat) (t : Int) (n : Nat), L ≤ i → (∀ P ∈ Ps, PathW L P) → k + Ps.length ≤ 4 → 0 ≤ t → (t < k ∨ (t = k ∧ n = 0)) → zbW L i (zbY k Ps) t n = true
  | [], k, i, t, n, _, _, _, _, _ => rfl
  | P :: Ps, k, i, t, n, hi, hP, hk, h0, hs => by
    rw [Qs] at hk
    have hw := hP P Kz
    obtain ⟨t2, n2, h1, h2, h3⟩ := znJ (L := L) (k := k) (by omega) (zbY (k + 1) Ps) P.ev i 0 t n hi (fun q e hq => by rw [US]; exact hw.ev q e hq) (by have := hw.n; omega) h0 (by
      rcases hs with a | ⟨a, b⟩
      · exact .inr ⟨rfl, a⟩
      · exact .inl ⟨a, b⟩)
    show zbW L i (j0 k P.ev ++ zbY (k + 1) Ps) t n = true
    rw [h1]
    refine zhO Ps (k + 1) _ t2 n2 (by omega) (fun Q hQ => hP Q (JY _ hQ)) (by omega) h2 (.inl ?_)
    rcases h3 with ⟨a, _⟩ | ⟨_, _, a⟩ <;> omega
section
variable {init : List UInt8} {Ps : List PathD} {m : MixD} {ds : List Nat}
theorem ChoiceW.evs (h : ChoiceW init Ps m) : jr m.base.ev init.length = true := by
  unfold jr
  rw [h.base, zcb, znK init.length _ 0 0 init 0 (US _)]
  exact zhO Ps 0 _ 0 0 (UY _) h.P (by have := h.p4; omega) (Int.le_refl _) (.inr ⟨rfl, rfl⟩)
theorem zkE (all : List Ev) (W : List (List Nat)) : ∀ (es : List Ev) (i j : Nat) (e : Ev), es[j]? = some e → e.k = 1 → ∃ (t : Nat) (s : List Nat), (zbM all W i es)[t]? = some (i + j, s)
  | [], i, j, e, h, _ => by simp at h
  | d :: es, i, 0, e, h, hk => by
    have e1 : d = e := by simpa using h
    subst e1
    unfold zbM
    rw [Gr hk]
    exact ⟨0, _, rfl⟩
  | d :: es, i, j + 1, e, h, hk => by
    obtain ⟨t, s, ht⟩ := zkE all W es (i + 1) j e (by simpa using h) hk
    rw [show i + 1 + j = i + (j + 1) by omega] at ht
    unfold zbM
    split
    · exact ⟨t + 1, s, ht⟩
    · exact ⟨t, s, ht⟩
theorem znb (all : List Ev) (W : List (List Nat)) : ∀ (es : List Ev) (i : Nat), (zbM all W i es).Pairwise (fun a b => a.1 < b.1) ∧ ∀ r ∈ zbM all W i es, i ≤ r.1
  | [], i => ⟨.nil, fun r h => by cases h⟩
  | d :: es, i => by
    obtain ⟨h1, h2⟩ := znb all W es (i + 1)
    unfold zbM
    split
    · refine ⟨List.pairwise_cons.2 ⟨fun r hr => ?_, h1⟩, fun r hr => ?_⟩
      · have := h2 r hr
        show i < r.1
        omega
      · rcases UD.1 hr with e | e
        · rw [e]; exact UY _
        · have := h2 r e; omega
    · exact ⟨h1, fun r hr => by have := h2 r hr; omega⟩
theorem ChoiceW.rs_one (h : ChoiceW init Ps m) {t t' : Nat} {r r' : Nat × List Nat} (h1 : m.rs[t]? = some r) (h2 : m.rs[t']? = some r') (he : r.1 = r'.1) : t = t' := by
  have hp : m.rs.Pairwise (fun a b => a.1 < b.1) := by rw [h.m]; exact (znb _ _ _ _).1
  obtain ⟨l1, e1⟩ := Js.1 h1
  obtain ⟨l2, e2⟩ := Js.1 h2
  rcases Nat.lt_trichotomy t t' with g | g | g
  · have := List.pairwise_iff_getElem.1 hp t t' l1 l2 g
    rw [e1, e2] at this
    omega
  · exact g
  · have := List.pairwise_iff_getElem.1 hp t' t l2 l1 g
    rw [e1, e2] at this
    omega
theorem ChoiceW.rf (h : ChoiceW init Ps m) (hd : ds ∈ qg (zL m)) : zal (zE m ds) = true := by
  have hr := h.rels hd
  have dig : ∀ {t r}, m.rs[t]? = some r → ds.getD t 0 < r.2.length := fun {t r} hr => by
    obtain ⟨h1, h2⟩ := za1 hd
    have ht := (Js.1 hr).1
    have hs : (zL m)[t]? = some r.2.length := by
      unfold zL
      rw [Jr (by rw [QN]; exact ht), KU, hr]; rfl
    have hlen : t < ds.length := by rw [h1]; exact (Js.1 hs).1
    rw [Jm, Jv hlen]
    exact h2 _ _ _ hs (Jv hlen)
  refine (zpL hr.rf).2 ⟨fun a b ha hb hab => ?_, fun b hb hrb => ⟨?_, fun i j hi hj h1 h2 => ?_⟩⟩
  · obtain ⟨t, r, h1, h2, h3, h4⟩ := (h.rfb hd).1 hab
    obtain ⟨e, g1, g2, g3⟩ := h.rs (JZ h1)
    have hem : e ∈ (j9 init Ps).ev := by rw [← h.base]; exact JZ g1
    have hel := zcF h.i6 h.P hem (.inl g2)
    rw [g3, h.wr.2 _ hel] at h2
    obtain ⟨m1, m2⟩ := QT.1 h2
    obtain ⟨a1, a2, a3⟩ := zaW.1 m1
    have eb : evA (zE m ds) b = e := by
      show m.base.ev.getD b ev0 = e
      rw [h4, Jm, g1]; rfl
    have m2 : (evA m.base a).v = e.v := Qc m2
    refine ⟨a2, ?_, ?_, ?_⟩
    · unfold isR
      rw [eb]; exact Us g2
    · rw [eb]
      exact Ug.1 a3
    · rw [eb]; exact m2
  · have hb : b < m.base.ev.length := hb
    have hev : m.base.ev[b]? = some (evA m.base b) := by
      unfold evA
      rw [Jm, Jv hb]; rfl
    have hk : (evA m.base b).k = 1 := Qc hrb
    obtain ⟨t, s, ht⟩ := zkE m.base.ev m.wr m.base.ev 0 b _ hev hk
    have ht : m.rs[t]? = some (0 + b, s) := by
      have e : m.rs = zbM m.base.ev m.wr 0 m.base.ev := by rw [h.m]; rfl
      rw [e]; exact ht
    rw [US] at ht
    have hlt := dig ht
    have e2 : s[ds.getD t 0]? = some (s[ds.getD t 0]'hlt) := Jv hlt
    have hab : zh (zE m ds).rf (s[ds.getD t 0]'hlt) b = true := (h.rfb hd).2 ⟨t, (b, s), ht, JZ e2, e2, rfl⟩
    exact ⟨_, (h.src (JZ ht)).2.2 _ (JZ e2), hab⟩
  · obtain ⟨t, r, g1, g2, g3, g4⟩ := (h.rfb hd).1 h1
    obtain ⟨t', r', k1, k2, k3, k4⟩ := (h.rfb hd).1 h2
    have et := h.rs_one g1 k1 (by omega)
    subst et
    rw [g1] at k1
    obtain rfl := Uf k1
    rw [g3] at k3
    exact Uf k3
theorem zqE {sel : PathD → List (Nat × Nat)} : ∀ (Ps : List PathD) (k b i j : Nat), zdB sel b Ps i j → ∃ P ∈ Ps, ∃ p ∈ sel P, ∃ (o t : Nat), i = b + o + p.1 ∧ j = b + o + p.2 ∧ ∀ q e, P.ev[q]? = some e → (zbY k Ps)[o + q]? = some { e with th := t }
  | [], _, _, _, _, h => h.elim
  | P :: Ps, k, b, i, j, h => by
    rcases h with ⟨p, hp, h1, h2⟩ | h
    · refine ⟨P, Kz, p, hp, 0, k, h1, h2, fun q e he => ?_⟩
      have hq := (Js.1 he).1
      show (j0 k P.ev ++ zbY (k + 1) Ps)[0 + q]? = _
      rw [US, Jr (by unfold j0; rw [QN]; exact hq)]
      unfold j0
      rw [KU, he]; rfl
    · obtain ⟨Q, hQ, p, hp, o, t, h1, h2, h3⟩ := zqE Ps (k + 1) _ _ _ h
      refine ⟨Q, JY _ hQ, p, hp, P.ev.length + o, t, by omega, by omega, fun q e he => ?_⟩
      show (j0 k P.ev ++ zbY (k + 1) Ps)[P.ev.length + o + q]? = _
      have hl : (j0 k P.ev).length = P.ev.length := by unfold j0; rw [QN]
      rw [Jn (by omega), hl, show P.ev.length + o + q - P.ev.length = o + q by omega]
      exact h3 q e he
theorem ChoiceW.dep (h : ChoiceW init Ps m) (hd : ds ∈ qg (zL m)) : zaB (zE m ds) = true := by
  have hr := h.rels hd
  have h48 := zcC h (ds := ds)
  obtain ⟨d1, d2, d3⟩ := zfR (init := init) h.P
  have il : (qI 0 init).length = init.length := z8 _ _
  have ends : ∀ {sel : PathD → List (Nat × Nat)} {i j : Nat}, zdB sel init.length Ps i j → ∃ P ∈ Ps, ∃ p ∈ sel P, ∃ (o t : Nat), i = init.length + o + p.1 ∧ j = init.length + o + p.2 ∧ ∀ q e, P.ev[q]? = some e → evA (zE m ds) (init.length + o + q) = { e with th := t } ∧ (zE m ds).ev[init.length + o + q]? = some { e with th := t } := fun {sel i j} hD => by
    obtain ⟨P, hP, p, hp, o, t, h1, h2, h3⟩ := zqE Ps 0 _ _ _ hD
    refine ⟨P, hP, p, hp, o, t, h1, h2, fun q e he => ?_⟩
    have e1 : (zE m ds).ev[init.length + o + q]? = some { e with th := t } := by
      show m.base.ev[_]? = _
      rw [h.base, zcb, Jn (by omega), il, show init.length + o + q - init.length = o + q by omega]
      exact h3 q e he
    refine ⟨?_, e1⟩
    unfold evA
    rw [Jm, e1]; rfl
  have po : ∀ {i j t : Nat} {a b : Ev}, (zE m ds).ev[i]? = some { a with th := t } → (zE m ds).ev[j]? = some { b with th := t } → i < j → zh (zE m ds).po i j = true := fun {i j t a b} h1 h2 hij => by
    have e : (zE m ds).po = poR (zE m ds).ev := by
      show m.base.po = poR m.base.ev
      rw [h.base]; rfl
    rw [e]
    refine (zni _).2 ⟨_, h1, ?_, hij, (Js.1 h2).1, ?_⟩
    · show ((t : Nat) : Int) ≠ -1
      omega
    · rw [Jm, h2]; rfl
  have bdt : ∀ {i j}, zh (zE m ds).dt i j = true → isR (zE m ds) i = true ∧ isW (zE m ds) j = true ∧ zh (zE m ds).po i j = true := fun {i j} hb => by
    have hb : zh m.base.dt i j = true := hb
    rw [h.base] at hb
    obtain ⟨P, hP, p, hp, o, t, rfl, rfl, h3⟩ := ends ((d1 _ _).1 hb)
    obtain ⟨a, b, g1, g2, g3, g4, g5⟩ := (h.P P hP).dt p hp
    obtain ⟨a1, a2⟩ := h3 _ _ g1
    obtain ⟨b1, b2⟩ := h3 _ _ g2
    refine ⟨?_, ?_, po a2 b2 (by omega)⟩
    · unfold isR; rw [a1]; exact Us g4
    · unfold isW; rw [b1]; exact Us g5
  have bct : ∀ {i j}, zh (zE m ds).ct i j = true → isR (zE m ds) i = true ∧ zh (zE m ds).po i j = true := fun {i j} hb => by
    have hb : zh m.base.ct i j = true := hb
    rw [h.base] at hb
    obtain ⟨P, hP, p, hp, o, t, rfl, rfl, h3⟩ := ends ((d2 _ _).1 hb)
    obtain ⟨a, b, g1, g2, g3, g4⟩ := (h.P P hP).ct p hp
    obtain ⟨a1, a2⟩ := h3 _ _ g1
    obtain ⟨b1, b2⟩ := h3 _ _ g2
    refine ⟨?_, po a2 b2 (by omega)⟩
    unfold isR; rw [a1]; exact Us g4
  have brm : ∀ {i j}, zh (zE m ds).rm i j = true → isR (zE m ds) i = true ∧ isW (zE m ds) j = true ∧ zh (zE m ds).po i j = true ∧ j = i + 1 ∧ (evA (zE m ds) j).l = (evA (zE m ds) i).l := fun {i j} hb => by
    have hb : zh m.base.rm i j = true := hb
    rw [h.base] at hb
    obtain ⟨P, hP, p, hp, o, t, rfl, rfl, h3⟩ := ends ((d3 _ _).1 hb)
    obtain ⟨a, b, g1, g2, g3, g4, g5, g6⟩ := (h.P P hP).rm p hp
    obtain ⟨a1, a2⟩ := h3 _ _ g1
    obtain ⟨b1, b2⟩ := h3 _ _ g2
    refine ⟨?_, ?_, po a2 b2 (by omega), by omega, ?_⟩
    · unfold isR; rw [a1]; exact Us g4
    · unfold isW; rw [b1]; exact Us g5
    · rw [a1, b1]; exact g6.symm
  unfold zaB
  have hs := zlm h48 hr.po hr.dt hr.ct hr.rm (zE m ds).ev.length 0 0 (US _)
  rw [Um] at hs
  refine hs.2 ⟨fun k _ hk => ⟨fun j hj => ?_, fun j hj => ?_, fun i j hi hj => ?_, fun j hj => ?_⟩, fun k j _ _ _ => QD _, fun k k' j _ hkk _ h1 h2 => ?_⟩
  · rcases hj with hj | hj
    · exact (bdt hj).2.1
    · exact (brm hj).2.1
  · rcases hj with hj | hj | hj
    · exact ⟨(bdt hj).1, (bdt hj).2.2⟩
    · exact bct hj
    · exact ⟨(brm hj).1, (brm hj).2.2.1⟩
  · have := (brm hi).2.2.2.1
    have := (brm hj).2.2.2.1
    omega
  · exact (brm hj).2.2.2.2
  · have := (brm h1).2.2.2.1
    have := (brm h2).2.2.2.1
    omega
theorem ChoiceW.right (h : ChoiceW init Ps m) (hd : ds ∈ qg (zL m)) : qN (zE m ds) = true := by
  have hin : qi (zE m ds).ev = init.length := h.inits
  have hr := h.rels hd
  unfold qN
  rw [hin]
  simp only [Qh]
  refine ⟨Us (zcC h), Us h.i1, Us h.i6, h.evs, ?_, ?_, h.rf hd, h.co hd, h.dep hd⟩
  · unfold zaN
    rw [Qj]
    have one : ∀ {r : RelD}, RelOk (zE m ds).ev.length r → (decide (r.n = (zE m ds).ev.length) && okR r) = true := fun {r} h => by
      rw [Qh]
      exact ⟨Us h.n, h.ok⟩
    intro r hr2
    simp only [UD, Qv, Gn] at hr2
    rcases hr2 with rfl | rfl | rfl | rfl | rfl | rfl
    · exact one hr.po
    · exact one hr.rf
    · exact one hr.co
    · exact one hr.dt
    · exact one hr.ct
    · exact one hr.rm
  · have e : (zE m ds).po = poR (zE m ds).ev := by
      show m.base.po = poR m.base.ev
      rw [h.base]; rfl
    rw [e]
    exact zgY _
end
def zuO (R:RunD):List Ev:=(List.range R.many).map R.ev
def zgh (t:Nat) (l:List Ev):List Ev:=(l.filter fun e=>decide (e.th=(t:Int))).map fun e=>{ e with th:=0 }
theorem zno (t:Nat) (a b:List Ev):zgh t (a++b)=zgh t a++zgh t b:=by
 unfold zgh;rw [Kv,QR]
theorem zkN {t:Nat} {l:List Ev} (h:∀ e∈l,e.th≠(t:Int)):zgh t l=[]:=by
 unfold zgh;rw [JD.2 fun e he=>by simpa using h e he];rfl
theorem ztF {t k:Nat} {l:List Ev} (h:∀ e∈l,e.th=0):zgh t (j0 k l)=if k=t then l else []:=by
 by_cases e:k=t
 ·subst e;rw [Gr rfl];unfold zgh j0;rw [List.filter_eq_self.2 fun a ha=>by
   obtain⟨b,_,rfl⟩:=UL.1 ha;exact Us rfl,UI]
  conv=>rhs;rw [<- List.map_id l]
  refine Kk fun a ha=>?_;have:=h a ha
  cases a
  simp_all
 ·rw [Gq e];refine zkN fun a ha=>?_;obtain⟨b,_,rfl⟩:=UL.1 ha;show ((k:Nat):Int)≠(t:Nat);omega
theorem zkO (t:Nat):∀ (Ps:List PathD) (k:Nat),(∀ P∈Ps,∀ e∈P.ev,e.th=0)->zgh t (zbY k Ps)=if k<=t then (match Ps[t-k]? with | some P=>P.ev | none=>[]) else []
 | [],k,_=>by
  have e:zgh t (zbY k [])=[]:=rfl;rw [e]
  split <;> simp
 | P::Ps,k,h=>by
  show zgh t (j0 k P.ev++zbY (k+1) Ps)=_;rw [zno,ztF (h P Kz),zkO t Ps (k+1) fun Q hQ=>h Q (JY _ hQ)];by_cases e:k=t
  ·subst e;rw [Gr rfl,Gq (by omega),Gr (UY _),UQ,QK];rfl
  ·rw [Gq e,QU];by_cases h1:k<=t
   ·rw [Gr (by omega),Gr h1];obtain⟨d,hd⟩:∃ d,t-k=d+1:=⟨t-k-1,by omega⟩;rw [hd,show t-(k+1)=d by omega,Jw]
   ·rw [Gq (by omega),Gq h1]
theorem zkC:∀ (Ps:List PathD) (k:Nat) (x:ExD) (i:Nat),(asR k Ps x).regs i=if k<=i/8 then (match Ps[i/8-k]? with | some P=>P.regs (i%8) | none=>x.regs i) else x.regs i
 | [],k,x,i=>by
  show x.regs i=_
  split <;> simp
 | P::Ps,k,x,i=>by
  show (asR (k+1) Ps (zbu x k P)).regs i=_;rw [zkC Ps (k+1)];have e:(zbu x k P).regs i=if i/8=k then P.regs (i%8) else x.regs i:=rfl
  rw [e];by_cases h:i/8=k
  ·rw [Gq (by omega),Gr h,Gr (by omega),h,UQ];rfl
  ·rw [Gq h];by_cases h1:k<=i/8
   ·rw [Gr (by omega),Gr h1];obtain⟨d,hd⟩:∃ d,i/8-k=d+1:=⟨i/8-k-1,by omega⟩;rw [hd,show i/8-(k+1)=d by omega,Jw]
   ·rw [Gq (by omega),Gq h1]
theorem zjr:∀ (Ts:List (List PathD)) (ds:List Nat),ds.length=Ts.length->(∀ (i n d:Nat),(Ts.map List.length)[i]?=some n->ds[i]?=some d->d<n) ->
  (jm Ts ds).length=Ts.length/\∀ (t:Nat) (T:List PathD) (d:Nat),Ts[t]?=some T->ds[t]?=some d->(jm Ts ds)[t]?=T[d]?
 | [],[],_,_=>⟨rfl,fun t T d h=>by simp at h⟩
 | [],d::ds,h,_=>by cases h
 | T::Ts,[],h,_=>by cases h
 | T::Ts,d::ds,h,hb=>by
  have hd:d<T.length:=hb 0 T.length d rfl rfl;obtain⟨h1,h2⟩:=zjr Ts ds (by simpa using h) fun i n d' a b=>hb (i+1) n d' a b;have e:jm (T::Ts) (d::ds)=T[d]::jm Ts ds:=by
   show (match T[d]? with | some P=>[P] | none=>[])++jm Ts ds=_;rw [gE hd];rfl
  rw [e];refine⟨by rw [Qs,Qs,h1],fun t U d' hU hd'=>?_⟩
  cases t with
  | zero =>
   have hU:=Uf hU;have hd':=Uf hd';subst hU hd';exact (gE hd).symm
  | succ t =>
   rw [Jw];exact h2 t U d' hU hd'
section
variable {p:Prg} {V:List UInt8}
theorem zoZ (hO:OkG p) {m:MixD} {ds:List Nat} (hds:ds∈qg ((p.threads.map (zK V)).map List.length)) (hm:zhr p.init (jm (p.threads.map (zK V)) ds)=some m) :
  ChoiceW p.init (jm (p.threads.map (zK V)) ds) m/\ds.length=p.threads.length/\∀ (t:Nat) (l:List InsD),p.threads[t]?=some l->∃ d,ds[t]?=some d/\∃ R,(qC l V)[d]?=some R/\(jm (p.threads.map (zK V)) ds)[t]?=some (zas R)/\zgh t m.base.ev=zuO R/\∀ j,j<8->m.base.regs (8*t+j)=R.regs j:=by
 obtain⟨h1,h2⟩:=za1 hds;rw [QN,QN] at h1;obtain⟨g1,g2⟩:=zjr (p.threads.map (zK V)) ds (by rw [QN];exact h1) h2;unfold zhr at hm
 split at hm
 case isFalse=>cases hm
 rename_i h48;have hm:=Uf hm;have hw:∀ P∈jm (p.threads.map (zK V)) ds,PathW p.init.length P:=fun P hP=>by
  obtain⟨T,hT,h2⟩:=zfx _ _ _ hP;obtain⟨l,hl,rfl⟩:=UL.1 hT;exact zha hO hl h2
 have hC:ChoiceW p.init (jm (p.threads.map (zK V)) ds) m:=⟨hO.i1,hO.i6,by
  rw [g1,QN];have:=hO.t4;omega,hw,h48,hm.symm⟩
 refine⟨hC,h1,fun t l hl=>?_⟩;have ht:t<ds.length:=by rw [h1];exact (Js.1 hl).1
 have hT:(p.threads.map (zK V))[t]?=some (zK V l):=by rw [KU,hl];rfl
 have hd:ds[t]?=some ds[t]:=gE ht;have hlt:ds[t]<(qC l V).length:=by
  have:=h2 t (zK V l).length ds[t] (by rw [KU,hT];rfl) hd;have e:(zK V l).length=(qC l V).length:=QN ..;omega
 have hR:(qC l V)[ds[t]]?=some (qC l V)[ds[t]]:=gE hlt;have hP:(jm (p.threads.map (zK V)) ds)[t]?=some (zas (qC l V)[ds[t]]):=by
  rw [g2 t _ _ hT hd];show ((qC l V).map zas)[ds[t]]?=_;rw [KU,hR];rfl
 have hth:∀ P∈jm (p.threads.map (zK V)) ds,∀ e∈P.ev,e.th=0:=fun P hP e he=>by
  obtain⟨q,hq⟩:=List.mem_iff_getElem?.1 he;exact ((hw P hP).ev q e hq).1
 refine⟨ds[t],hd,(qC l V)[ds[t]],hR,hP,?_,fun j hj=>?_⟩
 ·rw [hC.base,zcb,zno,zkO t _ 0 hth,Gr (Gb _),UR,hP,zkN,QU]
  ·rfl
  ·intro e he;obtain⟨i,hi,rfl⟩:=Ki he;rw [z8] at hi;have:=zbd p.init 0 hi;rw [gE (by rw [z8];exact hi)] at this;rw [Uf this];show (-1:Int)≠(t:Nat);omega
 ·have e:m.base.regs=(asR 0 (jm (p.threads.map (zK V)) ds) { ex0 (zbv p.init.length (jm (p.threads.map (zK V)) ds)) with ev:=qI 0 p.init }).regs:=by rw [hC.base];rfl
  have e1:(8*t+j)/8=t:=by omega
  have e2:(8*t+j)%8=j:=by omega
  rw [e,zkC,e1,e2,Gr (Gb _),UR,hP];rfl
end
def zuM (x y:ExD):Bool:=(List.range 32).all (fun i=>decide (x.regs i=y.regs i))&&(List.range 6).all (fun i=>decide (x.mem i=y.mem i))
def zkA (x y:ExD):Bool:=jl x.po y.po&&(jl x.rf y.rf&&(jl x.co y.co&&(jl x.dt y.dt&&(jl x.ct y.ct&&(jl x.rm y.rm&&zuM x y)))))
def zpF (x y:ExD):Bool:=decide (x.ev.length=y.ev.length)&&((List.range x.ev.length).all (fun i=>decide (evA x i=evA y i))&&zkA x y)
theorem ziT (before:Nat->Nat):∀ (n left:Nat) (l:List Nat),left<2^64->(zao before n left l).Nodup
 | 0,left,l,hl=>by
  unfold zao
  split
  ·exact List.pairwise_singleton ..
  ·exact .nil
 | n+1,left,l,hl=>by
  unfold zao
  split
  ·exact List.pairwise_singleton ..
  ·show List.Pairwise _ _;rw [List.pairwise_flatMap];refine⟨fun a ha=>?_,List.Pairwise.imp_of_mem ?_ (zdP left)⟩
   ·split
    ·exact ziT before n _ _ (zah hl)
    ·exact .nil
   ·intro a b ha hb hab x hx y hy e
    split at hx
    ·split at hy
     ·obtain⟨s,hs,_⟩:=ze1 before n _ _ x (zah hl) hx;obtain⟨t,ht,_⟩:=ze1 before n _ _ y (zah hl) hy;rw [hs,ht,KO,KO] at e;have:=List.append_cancel_left e;simp only [List.singleton_append,QL] at this;exact hab this.1
     ·cases hy
    ·cases hx
theorem zqm {w:List Nat} (hw:w.Nodup) {a b:Nat} (ha:a<w.length) (hb:b<w.length) (h:w.getD a 0=w.getD b 0):a=b:=by
 rw [gDe,gDe,gE ha,gE hb] at h;exact (List.getElem_inj hw).1 h
theorem zfX {w:List Nat} (hw:w.Nodup):∀ {a b:List Nat},(∀ i∈a,i<w.length)->(∀ i∈b,i<w.length)->a.map (fun k=>w.getD k 0)=b.map (fun k=>w.getD k 0)->a=b
 | [],[],_,_,_=>rfl
 | [],y::b,_,_,h=>by cases h
 | x::a,[],_,_,h=>by cases h
 | x::a,y::b,ha,hb,h=>by
  rw [UC,UC,QL] at h;rw [zqm hw (ha x Kz) (hb y Kz) h.1,zfX hw (fun i hi=>ha i (JY _ hi)) (fun i hi=>hb i (JY _ hi)) h.2]
theorem zkG {w:List Nat} (hw:w.Nodup) (h1:1<=w.length) (hn:w.length<=48):(zM w).Nodup:=by
 unfold zM;dsimp only
 split
 ·refine List.pairwise_map.2 (List.Pairwise.imp_of_mem (R:=fun a b=>a≠b) ?_ ?_)
  ·intro a b ha hb hab e;have p1:=(zhf h1 hn ha).1;have p2:=(zhf h1 hn hb).1;exact hab (zfX hw (fun i hi=>Uo.1 (p1.subset hi)) (fun i hi=>Uo.1 (p2.subset hi)) e)
  ·unfold zbr
   split
   ·exact ziT _ _ _ _ (zdV _)
   ·exact .nil
 ·exact .nil
theorem zmb (all:List Ev) (W:List (List Nat)):∀ (es:List Ev) (i:Nat),(zbM all W i es).Pairwise fun a b=>a.1<b.1
 | [],i => .nil
 | e::es,i=>by
  unfold zbM
  split
  ·refine List.pairwise_cons.2 ⟨fun r hr=>?_,zmb all W es (i+1)⟩;obtain⟨j,d,_,_,h⟩:=zdG all W es (i+1) r hr;rw [h];show i<i+1+j;omega
  ·exact zmb all W es (i+1)
theorem znn {α:Type} {key:α->Nat}:∀ {l:List α},l.Pairwise (fun a b=>key a<key b)->∀ {s t:Nat} {a b:α},l[s]?=some a->l[t]?=some b->key a=key b->s=t
 | [],_,s,t,a,b,h,_,_=>by simp at h
 | x::l,h,0,0,a,b,_,_,_=>rfl
 | x::l,h,0,t+1,a,b,ha,hb,e=>by
  have ha:=Uf ha;have:=(List.pairwise_cons.1 h).1 b (JZ hb);rw [ha] at this;omega
 | x::l,h,s+1,0,a,b,ha,hb,e=>by
  have hb:=Uf hb;have:=(List.pairwise_cons.1 h).1 a (JZ ha);rw [hb] at this;omega
 | x::l,h,s+1,t+1,a,b,ha,hb,e=>by rw [znn (List.pairwise_cons.1 h).2 ha hb e]
theorem zpN {a b:RelD} (h:jl a b=true) {i:Nat} (hi:i<48):a.to i=b.to i:=by
 unfold jl at h;rw [bAT,Qj] at h;exact dT (h.2 i (Uo.2 hi))
theorem zlZ {x y:ExD} (h:zpF x y=true):x.ev=y.ev/\jl x.rf y.rf=true/\jl x.co y.co=true:=by
 unfold zpF zkA at h;simp only [bAT] at h;obtain⟨h1,h2,_,h3,h4,_⟩:=h;refine⟨?_,h3,h4⟩;have h1:=dT h1;refine List.ext_getElem h1 fun i a b=>?_;have:=dT (Qj.1 h2 i (Uo.2 a));unfold evA at this;rw [gDe,gDe,gE a,gE b] at this;exact this
section
variable {init:List UInt8} {Ps:List PathD} {m:MixD} {ds es:List Nat}
theorem ChoiceW.dig_r (h:ChoiceW init Ps m) (hd:ds∈qg (zL m)) {t:Nat} {r:Nat×List Nat} (hr:m.rs[t]?=some r):∃ d,ds[t]?=some d/\d<r.2.length:=by
 obtain⟨h1,h2⟩:=za1 hd;have ht:=(Js.1 hr).1;have hs:(zL m)[t]?=some r.2.length:=by
  unfold zL;rw [Jr (by rw [QN];exact ht),KU,hr];rfl
 have hlen:t<ds.length:=by rw [h1];exact (Js.1 hs).1
 exact⟨ds[t],gE hlen,h2 _ _ _ hs (gE hlen)⟩
theorem ChoiceW.wr_nodup (h:ChoiceW init Ps m) (l:Nat):(m.wr.getD l []).Nodup:=by
 by_cases hl:l<init.length
 ·rw [h.wr.2 l hl];exact List.nodup_range.filter _
 ·rw [gDe,JK (by rw [h.wr.1];omega)];exact .nil
theorem ChoiceW.rf_dig (h:ChoiceW init Ps m) (hd:ds∈qg (zL m)) (he:es∈qg (zL m)) (hs:jl (zE m ds).rf (zE m es).rf=true) {t:Nat} (ht:t<m.rs.length):ds[t]?=es[t]?:=by
 have hr:m.rs[t]?=some m.rs[t]:=gE ht;obtain⟨d,d1,d2⟩:=h.dig_r hd hr;obtain⟨e,e1,e2⟩:=h.dig_r he hr;have hn:m.rs[t].2.Nodup:=by
  obtain⟨_,_,_,hr2⟩:=h.rs (gM ht);rw [hr2];exact (h.wr_nodup _).filter _
 have hi:m.rs[t].2[d]?=some m.rs[t].2[d]:=gE d2;have b1:zh (zE m ds).rf m.rs[t].2[d] m.rs[t].1=true:=(h.rfb hd).2 ⟨t,_,hr,gM d2,by rw [gDe,d1];exact hi,rfl⟩;have h48:m.rs[t].2[d]<48:=by
  have:=(h.src (gM ht)).2.2 _ (gM d2);have:=h.n;rw [<- h.len] at this;omega
 have b2:zh (zE m es).rf m.rs[t].2[d] m.rs[t].1=true:=by
  unfold zh at b1 ⊢;rw [<- zpN hs h48];exact b1
 obtain⟨t',r',g1,_,g3,g4⟩:=(h.rfb he).1 b2;have hp:m.rs.Pairwise fun a b=>a.1<b.1:=by
  rw [h.m];exact zmb _ _ _ _
 have htt:=znn (key:=fun a:Nat×List Nat=>a.1) hp hr g1 g4;subst htt;have hrr:=Uf (hr.symm.trans g1);rw [<- hrr,gDe,e1] at g3;have g3:m.rs[t].2[e]?=some m.rs[t].2[d]:=g3;rw [gE e2] at g3;have:=(List.getElem_inj hn).1 (Uf g3);rw [d1,e1,this]
theorem ChoiceW.dig_w (h:ChoiceW init Ps m) (hd:ds∈qg (zL m)) {l:Nat} (hl:l<init.length):∃ d,ds[m.rs.length+l]?=some d/\∃ hlt:d<(zM (zY m.base l)).length,chR (m.wr.map zM) (ds.drop m.rs.length) l=(zM (zY m.base l))[d]:=by
 obtain⟨h1,h2⟩:=za1 hd;obtain⟨w1,w2⟩:=h.wr;have hlw:l<m.wr.length:=by omega
 have hw:m.wr[l]=zY m.base l:=by
  have:=w2 l hl;rw [gDe,gE hlw] at this;exact this
 have hs:(zL m)[m.rs.length+l]?=some (zM (zY m.base l)).length:=by
  unfold zL;rw [Jn (by rw [QN];omega),QN,Jz,KU,gE hlw,hw];rfl
 have hlen:m.rs.length+l<ds.length:=by rw [h1];exact (Js.1 hs).1
 have hdl:=h2 _ _ _ hs (gE hlen);refine⟨ds[m.rs.length+l],gE hlen,hdl,?_⟩;have e1:(m.wr.map zM).getD l []=zM (zY m.base l):=by
  rw [gDe,KU,gE hlw,hw];rfl
 have e2:(ds.drop m.rs.length).getD l 0=ds[m.rs.length+l]:=by
  rw [gDe,Kw,gE hlen];rfl
 unfold chR;rw [e1,e2,gDe,gE hdl];rfl
theorem ChoiceW.co_dig (h:ChoiceW init Ps m) (hd:ds∈qg (zL m)) (he:es∈qg (zL m)) (hs:jl (zE m ds).co (zE m es).co=true) {l:Nat} (hl:l<init.length):ds[m.rs.length+l]?=es[m.rs.length+l]?:=by
 obtain⟨d,d1,d2,d3⟩:=h.dig_w hd hl;obtain⟨e,e1,e2,e3⟩:=h.dig_w he hl;obtain⟨c1,c2⟩:=h.chx he;have hlw:l<(m.wr.map zM).length:=by rw [QN,h.wr.1];exact hl
 obtain⟨_,hb⟩:=zdt m.base.ev (m.wr.map zM) 0 (es.drop m.rs.length) (m.base.co,m.base.mem) c1 c2;have hr:zN (zE m ds) l=chR (m.wr.map zM) (es.drop m.rs.length) l:=by
  refine zg2 (zcC h) (h.ch he l hl).1 fun i hi j=>?_;have hi48:i<48:=by
   have:=zfg ((h.ch he l hl).1.subset hi);have:=h.n;rw [<- h.len] at this;omega
  have e:zh (zE m ds).co i j=zh (coG m.base.ev 0 (m.wr.map zM) (es.drop m.rs.length) (m.base.co,m.base.mem)).1 i j:=by
   unfold zh;rw [zpN hs hi48];rfl
  rw [e,Bool.eq_iff_iff,hb,dE];constructor
  ·rintro (⟨k,a1,a2,a3⟩ | ⟨a1,a2⟩)
   ·have:=c2 i k l a1 hlw a2 hi;rw [<- this];exact a3
   ·exact Gs hi (a1 l hlw)
  ·exact fun hj => .inl ⟨l,hlw,hi,hj⟩
 rw [h.rank hd hl,d3,e3] at hr;obtain⟨g1,_⟩:=h.head hl;have h48:(zY m.base l).length<=48:=by
  have:=zgm m.base l;have:=h.n;have:=h.len;omega
 have:=(List.getElem_inj (zkG (List.nodup_range.filter _) g1 h48)).1 hr;rw [d1,e1,this]
theorem ChoiceW.same (h:ChoiceW init Ps m) (hd:ds∈qg (zL m)) (he:es∈qg (zL m)) (hs:zpF (zE m ds) (zE m es)=true):ds=es:=by
 obtain⟨_,h2,h3⟩:=zlZ hs;have l1:=(za1 hd).1;have l2:=(za1 he).1;have hl:(zL m).length=m.rs.length+init.length:=by
  unfold zL;rw [lap,QN,QN,h.wr.1]
 refine KQ fun t=>?_;by_cases ht:t<m.rs.length
 ·exact h.rf_dig hd he h2 ht
 ·by_cases ht2:t<m.rs.length+init.length
  ·have:=h.co_dig hd he h3 (l:=t-m.rs.length) (by omega);rw [show m.rs.length+(t-m.rs.length)=t by omega] at this;exact this
  ·rw [JK (by omega),JK (by omega)]
end
theorem znB (before:Nat->Nat):∀ (s:List Nat) (n left:Nat) (l:List Nat),left<2^64->s.length<=n->s.Perm (els left)->(∀ A a t,s=A++a::t->∀ b∈a::t,(before a).testBit b=false)->l++s∈zao before n left l
 | [],n,left,l,hl,hn,hp,hb=>by
  have h0:left=0:=zcW hl (by rw [Qr];exact List.nil_perm.1 hp);rw [QK]
  cases n <;> (unfold zao;rw [Gr h0];exact KA.2 rfl)
 | a::t,0,left,l,hl,hn,hp,hb=>by simp at hn
 | a::t,n+1,left,l,hl,hn,hp,hb=>by
  have ha:a∈els left:=hp.subset Kz;have h0:left≠0:=fun e=>by rw [e,jP] at ha;cases ha
  unfold zao;rw [Gq h0];refine List.mem_flatMap.2 ⟨a,ha,?_⟩;have hbl:before a&&&left=0:=by
   refine Kc fun i=>?_;rw [Uc,QD];by_cases hi:left.testBit i=true
   ·have hi64:i<64:=by
     refine Qz fun h=>?_;rw [JI (nL hl (Kd (by decide) h))] at hi
     cases hi
    rw [hb [] a t rfl i (hp.symm.subset (qJ.2 ⟨hi64,hi⟩)),Uj]
   ·rw [Qi] at hi;rw [hi,Ui]
  rw [Gr hbl,zaX];have hna:a ∉ t:=(QV.1 (hp.nodup_iff.2 (zdP left))).1;have hpt:t.Perm (els (qG left (2^a))):=by
   rw [zcz hl ha];have h1:=hp.filter fun i => !decide (i=a);rw [Qn,Gq (by simp),List.filter_eq_self.2 fun z hz=>by
    have:z≠a:=fun e=>hna (by rw [<- e];exact hz);simp [this]] at h1
   exact h1
  have h2:=znB before t n (qG left (2^a)) (l++[a]) (zah hl) (by simpa using hn) hpt fun A c u e b hbm=>hb (a::A) c u (by rw [e];rfl) b hbm;rw [KO] at h2;exact h2
section
variable {n:Nat}
theorem zlo (hn:n<=48) {a b:Nat} (ha:a<n) (h:((zQ (crs n)).to a).testBit b=true):b=0/\a≠0:=by
 have h1:=jU (zjO hn) (i:=a) (j:=b) (by omega);unfold zh at h1;rw [h1,bAT] at h;obtain⟨hb,h⟩:=h;have hb:=dT hb;have h:(if b<n then (if Nat.testBit 1 b then jD (jV n) 1&&&jV n else 0) else 0).testBit a=true:=h;rw [Gr hb] at h
 split at h
 ·rename_i h2;have hb0:b=0:=by
   refine Nat.eq_zero_of_not_pos fun hp=>?_;rw [JI (show 1<2^b from Nat.one_lt_two_pow (by omega))] at h2
   cases h2
  refine⟨hb0,fun ha0=>?_⟩;rw [Uc,zaX,bAT] at h;have e:qG (jV n) 1=qG (jV n) (2^0):=rfl;rw [e,zaP (by decide) (by omega),ha0] at h;simp at h
 ·rw [QD] at h;cases h
theorem zsn (hn:n<=48):zae (crs n)=true:=by
 rw [zgH (zjO hn)];intro S hS he;have hS64:S<2^64:=by
  refine KE ?_ (zaq (n:Int));rw [<- he];exact Qx
 have hin:∀ i,S.testBit i=true->i<n:=fun i hi=>by
  have h1:i<64:=by
   refine Qz fun h=>?_;rw [JI (nL hS64 (Kd (by decide) h))] at hi
   cases hi
  rw [<- he,Uc,bAT] at hi;rw [zbn (by omega) (by omega) h1] at hi;have:=dT hi.2;omega
 have free:∀ a,a<n->(∀ b,S.testBit b=true->b=0->a=0)->(zQ (crs n)).to a&&&S=0:=fun a ha h=>by
  refine Kc fun i=>?_;rw [Uc,QD]
  cases h1:((zQ (crs n)).to a).testBit i
  ·rfl
  ·obtain⟨h2,h3⟩:=zlo hn ha h1
   cases h4:S.testBit i
   ·rfl
   ·exact Gs (h i h4 h2) h3
 by_cases h0:S.testBit 0=true
 ·exact⟨0,qJ.2 ⟨by decide,h0⟩,free 0 (hin 0 h0) fun _ _ _=>rfl⟩
 ·have hne:els S≠[]:=fun e=>hS (zcW hS64 (by rw [e];rfl));obtain⟨a,t,hat⟩:=List.exists_cons_of_ne_nil hne;have ha:a∈els S:=by rw [hat];exact Kz
  exact⟨a,ha,free a (hin a (qJ.1 ha).2) fun b hb hb0=>by rw [hb0] at hb;exact Gs hb h0⟩
theorem zrJ (hn:n<=48) {o t:List Nat} (hp:o.Perm (List.range n)) (h0:o=0::t):o∈zbr (crs n):=by
 unfold zbr;rw [Gr (zsn hn)];have e:els (jV ((n:Nat):Int))=List.range n:=by rw [zaI];exact zcX (by omega)
 have hl:=hp.length_eq;rw [KV] at hl;have:=znB (zQ (crs n)).to o 64 (jV ((n:Nat):Int)) [] (zdV n) (by omega) (by rw [e];exact hp) fun A a u he b hb=>?_
 ·exact this
 have hao:a∈o:=by rw [he];exact JO _ Kz
 cases h1:((zQ (crs n)).to a).testBit b
 ·rfl
 ·obtain⟨h2,h3⟩:=zlo hn (Uo.1 (hp.subset hao)) h1;have hon:o.Nodup:=hp.nodup_iff.2 List.nodup_range
  cases A with
  | nil =>
   rw [h0,QU,QL] at he;exact Gs he.1.symm h3
  | cons c A =>
   rw [h0,Ql,QL] at he;rw [h0] at hon;have:(0:Nat)∈t:=by rw [he.2,<- h2];exact JO _ hb
   exact Gs this (QV.1 hon).1
end
theorem zqn {w:List Nat} {x:Nat} (h:x∈w):w.getD (w.idxOf x) 0=x:=by
 have hl:=List.idxOf_lt_length_iff.2 h;rw [gDe,gE hl];exact List.getElem_idxOf hl
theorem zrQ {w:List Nat} (hw:w.Nodup):w.map (fun x=>w.idxOf x)=List.range w.length:=by
 refine List.ext_getElem (by simp) fun i h1 h2=>?_;rw [Qq,Ky];exact hw.idxOf_getElem i (by simpa using h1)
theorem zpO {w rk:List Nat} (hn:w.length<=48) (hw:w.Nodup) (hf:fct (w.length-1)<=10000) (h1:1<=w.length) (hp:rk.Perm w) (hh:rk.headD 48=w.headD 48):rk∈zM w:=by
 unfold zM;dsimp only;rw [Gr (UO (ziE h1 hn) hf)];refine UL.2 ⟨rk.map (fun x=>w.idxOf x),?_,?_⟩
 ·cases w with
  | nil=>simp at h1
  | cons a w' =>
   cases rk with
   | nil=>simpa using hp.length_eq
   | cons b rk' =>
    have hh:b=a:=hh;subst hh;refine zrJ hn (t:=rk'.map (fun x=>(b::w').idxOf x)) ?_ ?_
    ·rw [<- zrQ hw];exact hp.map _
    ·rw [UC,List.idxOf_cons_self]
 ·rw [UI]
  conv=>rhs;rw [<- List.map_id rk]
  exact Kk fun x hx=>zqn (hp.subset hx)
theorem zqC:∀ (rs es:List Nat),es.length=rs.length->(∀ (i n d:Nat),rs[i]?=some n->es[i]?=some d->d<n)->∃ j,j<z6 rs/\zav rs j=es
 | [],[],_,_=>⟨0,Nat.one_pos,rfl⟩
 | [],e::es,h,_=>by cases h
 | n::ns,[],h,_=>by cases h
 | n::ns,e::es,h,hb=>by
  obtain⟨j,h1,h2⟩:=zqC ns es (by simpa using h) fun i n d a b=>hb (i+1) n d a b;have he:e<n:=hb 0 n e rfl rfl;refine⟨e+n*j,?_,?_⟩
  ·show e+n*j<n*z6 ns;have:n*(j+1)<=n*z6 ns:=Nat.mul_le_mul_left n h1;rw [Nat.mul_add] at this;omega
  ·show (e+n*j)%n::zav ns ((e+n*j)/n)=e::es;rw [Nat.add_mul_mod_self_left,QC he,Nat.add_mul_div_left _ _ (by omega),Nat.div_eq_of_lt he,US,h2]
theorem zqB {sizes ds:List Nat} (hl:ds.length=sizes.length) (hb:∀ (i n d:Nat),sizes[i]?=some n->ds[i]?=some d->d<n):ds∈qg sizes:=by
 obtain⟨j,h1,h2⟩:=zqC sizes.reverse ds.reverse (by simpa using hl) fun i n d a b=>by
  have hi:i<sizes.length:=by simpa using (Js.1 a).1
  rw [JL hi] at a;rw [JL (by omega)] at b;rw [hl] at b;exact hb _ n d a b
 exact UL.2 ⟨j,Uo.2 h1,by rw [h2,Kb]⟩
section
variable {init:List UInt8} {Ps:List PathD} {m:MixD}
theorem ChoiceW.pick (h:ChoiceW init Ps m) (hw8:∀ w∈m.wr,fct (w.length-1)<=10000) {S:Nat->Nat->Prop} {o:Nat->List Nat} (hsrc:∀ r,r<m.base.ev.length->(evA m.base r).k=1->∃ s,(s<m.base.ev.length/\(evA m.base s).k=2/\(evA m.base s).l=(evA m.base r).l/\(evA m.base s).v=(evA m.base r).v)/\S s r) (ho:∀ l,l<init.length->(o l).Perm (zY m.base l)/\(o l).headD 48=(zY m.base l).headD 48) :
  jw m 1≠0/\∃ ds∈qg (zL m),(∀ s r,zh (zE m ds).rf s r=true->S s r)/\∀ a b,zh (zE m ds).co a b=true->∃ l,l<init.length/\a∈o l/\b∈twl (o l).reverse a:=by
 have hin:∀ (t:Nat) (r:Nat×List Nat),m.rs[t]?=some r->∃ (d s:Nat),r.2[d]?=some s/\S s r.1:=fun t r hr=>by
  obtain⟨e,e1,e2,e3⟩:=h.rs (JZ hr);have hrl:=(Js.1 e1).1;have hev:evA m.base r.1=e:=by unfold evA;rw [gDe,e1];rfl
  obtain⟨s,hs⟩:=hsrc r.1 hrl (by rw [hev];exact e2);obtain⟨⟨s1,s2,s3,s4⟩,hs0⟩:=hs;have hloc:e.l.toNat<init.length:=by
   have:e∈(j9 init Ps).ev:=by rw [<- h.base];exact JZ e1
   exact zcF h.i6 h.P this (.inl e2)
  rw [h.wr.2 _ hloc] at e3;have:s∈r.2:=by
   rw [e3];rw [hev] at s3 s4;exact QT.2 ⟨zaW.2 ⟨s1,Us s2,by rw [s3]⟩,Us s4⟩
  obtain⟨d,hd⟩:=List.mem_iff_getElem?.1 this;exact⟨d,s,hd,hs0⟩
 have hwl:∀ (l:Nat) (w:List Nat),m.wr[l]?=some w->l<init.length/\w=zY m.base l:=fun l w hw=>by
  have hl:=(Js.1 hw).1;rw [h.wr.1] at hl;have:=h.wr.2 l hl;rw [gDe,hw] at this;exact⟨hl,this⟩
 have hwr:∀ (l:Nat) (w:List Nat),m.wr[l]?=some w->∃ d,(zM w)[d]?=some (o l):=fun l w hw=>by
  have hwm:=JZ hw;obtain⟨w1,w2⟩:=h.w1 hwm;obtain⟨hl,rfl⟩:=hwl l w hw;obtain⟨o1,o2⟩:=ho l hl;exact List.mem_iff_getElem?.1 (zpO w2 (List.nodup_range.filter _) (hw8 _ hwm) w1 o1 o2)
 have hch:∀ i:Nat,∃ d:Nat,(∀ r,m.rs[i]?=some r->∃ s,r.2[d]?=some s/\S s r.1)/\∀ (l:Nat) (w:List Nat),i=m.rs.length+l->m.wr[l]?=some w->(zM w)[d]?=some (o l):=fun i=>by
  by_cases hi:i<m.rs.length
  ·obtain⟨d,s,h1,h2⟩:=hin i _ (gE hi);exact⟨d,fun r hr=>(by rw [gE hi] at hr;rw [<- Uf hr];exact⟨s,h1,h2⟩),fun l w e _=>(by omega)⟩
  ·cases hg:m.wr[i-m.rs.length]? with
   | none =>
    refine⟨0,fun r hr=>?_,fun l w e hw=>?_⟩
    ·rw [JK (by omega)] at hr
     cases hr
    ·rw [show i-m.rs.length=l by omega,hw] at hg
     cases hg
   | some w' =>
    obtain⟨d,hd⟩:=hwr _ _ hg;refine⟨d,fun r hr=>?_,fun l w e hw=>?_⟩
    ·rw [JK (by omega)] at hr
     cases hr
    ·have el:i-m.rs.length=l:=(by omega);rw [el] at hg hd;rw [hw] at hg;rw [Uf hg];exact hd
 obtain⟨f,hf⟩:=Classical.axiomOfChoice hch;have hsl:(zL m).length=m.rs.length+m.wr.length:=by
  unfold zL;rw [lap,QN,QN]
 obtain⟨ds,hds⟩:=nm ((List.range (zL m).length).map f);have hdl:ds.length=(zL m).length:=by rw [hds,QN,KV]
 have hda:∀ i,i<(zL m).length->ds[i]?=some (f i):=fun i hi=>by rw [hds,KU,Kh hi];rfl
 have hdm:ds∈qg (zL m):=zqB hdl fun i n d hn hd=>by
  have hi:i<(zL m).length:=(Js.1 hn).1;rw [hda i hi] at hd;rw [<- Uf hd];unfold zL at hn;by_cases hir:i<m.rs.length
  ·rw [Jr (by rw [QN];exact hir),KU,gE hir] at hn;obtain⟨s,h1,_⟩:=(hf i).1 _ (gE hir);have:=(Js.1 h1).1;have hn:m.rs[i].2.length=n:=Uf hn;omega
  ·have hiw:i-m.rs.length<m.wr.length:=by omega
   rw [Jn (by rw [QN];omega),QN,KU,gE hiw] at hn;have h1:=(hf i).2 (i-m.rs.length) _ (by omega) (gE hiw);have:=(Js.1 h1).1;have hn:(zM m.wr[i-m.rs.length]).length=n:=Uf hn;omega
 refine⟨?_,ds,hdm,fun s r hb=>?_,fun a b hb=>?_⟩
 ·refine (zdu fun w hw=>(h.w1 hw).1).2 fun r hr e=>?_;obtain⟨t,ht⟩:=List.mem_iff_getElem?.1 hr;obtain⟨d,s,h1,_⟩:=hin t r ht;rw [e] at h1;simp at h1
 ·obtain⟨t,r',g1,g2,g3,g4⟩:=(h.rfb hdm).1 hb;have ht:=(Js.1 g1).1;rw [gDe,hda t (by omega)] at g3;have g3:r'.2[f t]?=some s:=g3;obtain⟨s',h1,h2⟩:=(hf t).1 r' g1;rw [h1] at g3;rw [<- Uf g3,g4];exact h2
 ·obtain⟨c1,c2⟩:=h.chx hdm;obtain⟨_,hbits⟩:=zdt m.base.ev (m.wr.map zM) 0 (ds.drop m.rs.length) (m.base.co,m.base.mem) c1 c2;have hb:zh (coG m.base.ev 0 (m.wr.map zM) (ds.drop m.rs.length) (m.base.co,m.base.mem)).1 a b=true:=hb;obtain⟨_,b2,_⟩:=zcE (init:=init) (Ps:=Ps);rcases (hbits a b).1 hb with ⟨l,l1,l2,l3⟩ | ⟨_,l2⟩
  ·rw [QN] at l1;have hwg:m.wr[l]?=some m.wr[l]:=gE l1;have e:chR (m.wr.map zM) (ds.drop m.rs.length) l=o l:=by
    unfold chR;have h1:=(hf (m.rs.length+l)).2 l _ rfl hwg;rw [gDe,gDe,KU,hwg,gDe,Kw,hda _ (by omega)];show ((zM m.wr[l])[f (m.rs.length+l)]?).getD []=_;rw [h1];rfl
   rw [e] at l2 l3;exact⟨l,(hwl l _ hwg).1,l2,l3⟩
  ·rw [h.base,b2] at l2;exact Gs l2 (zcn _ a b)
end
def zvh (μ:Nat->UInt8) (es:List Ev):Nat->UInt8:=es.foldl (fun μ e=>if e.k=2 then upd μ e.l.toNat e.v else μ) μ
def zn4 (μ:Nat->UInt8) (es:List Ev):Prop:=∀ A e B,es=A++e::B->e.k=1->e.v=zvh μ A e.l.toNat
theorem cons_cons {μ:Nat->UInt8} {e:Ev} {es:List Ev}:zn4 μ (e::es)↔(e.k=1->e.v=μ e.l.toNat)/\zn4 (if e.k=2 then upd μ e.l.toNat e.v else μ) es:=by
 constructor
 ·intro h;exact⟨fun hk=>h [] e es rfl hk,fun A d B hd hk=>h (e::A) d B (by rw [hd];rfl) hk⟩
 ·rintro⟨h1,h2⟩ A d B hd hk
  cases A with
  | nil =>
   rw [QU,QL] at hd;obtain⟨rfl,rfl⟩:=hd;exact h1 hk
  | cons a A =>
   rw [Ql,QL] at hd;obtain⟨rfl,hd⟩:=hd;exact h2 A d B hd hk
theorem zpK {k:Nat} {R:RunD} (h:RunW k R) (hm:R.many<=24) {a b:Nat} (hp:(a,b)∈(zas R).rmw):b=a+1:=by
 obtain⟨i,hi,h2⟩:=List.mem_flatMap.1 (show (a,b)∈zcR R.att R.many from hp);obtain⟨c,hc,he⟩:=UL.1 h2
 cases he
 rcases h.att b (Uo.1 hi) with h3 | ⟨d,h3,h4,_⟩
 ·rw [h3,jP] at hc;cases hc
 ·rw [h4] at hc;have h5:=(qJ.1 hc).2;rw [Ko] at h5;have:=dT h5;omega
theorem ziX:∀ (Ps:List PathD) (b i j:Nat),(∀ P∈Ps,∀ q∈P.rmw,q.2=q.1+1)->zdB PathD.rmw b Ps i j->j=i+1
 | [],b,i,j,_,h=>h.elim
 | P::Ps,b,i,j,hP,h=>by
  rcases h with ⟨q,hq,h1,h2⟩ | h
  ·have:=hP P Kz q hq;omega
  ·exact ziX Ps _ i j (fun Q hQ=>hP Q (JY _ hQ)) h
theorem zsH {p:Prg} {V:List UInt8} {took:List PathD} {m:MixD} (hO:OkG p) (hC:ChoiceW p.init took m) (t1:took.length=p.threads.length) (t2:∀ (t:Nat) (l:List InsD),p.threads[t]?=some l->∃ R∈qC l V,took[t]?=some (zas R)) {a b:Nat} (hb:zh m.base.rm a b=true):b=a+1:=by
 obtain⟨_,_,d3⟩:=zfR hC.P;rw [hC.base,d3] at hb;refine ziX took _ a b (fun P hP q hq=>?_) hb;obtain⟨t,ht⟩:=List.mem_iff_getElem?.1 hP;have htl:t<p.threads.length:=by rw [<- t1];exact (Js.1 ht).1
 obtain⟨R,hR,h⟩:=t2 t _ (gE htl);rw [ht] at h;rw [Uf h] at hq;have hle:=hO.tl _ (gM htl);obtain⟨w1,w2⟩:=zqy hle V R hR;exact zpK w1 w2 hq
theorem zhW {p:Prg} {V:List UInt8} (hO:OkG p) {x:ExD} (hx:x∈je p V):∃ (took:List PathD) (m:MixD),ChoiceW p.init took m/\m∈qh p V/\x∈qV m/\took.length=p.threads.length/\∀ (t:Nat) (l:List InsD),p.threads[t]?=some l->∃ R∈qC l V,took[t]?=some (zas R):=by
 obtain⟨m,hm,hx⟩:=List.mem_flatMap.1 hx;obtain⟨ds,hds,hmd⟩:=List.mem_filterMap.1 hm;obtain⟨hC,hdl,hth⟩:=zoZ hO hds hmd;refine⟨_,m,hC,hm,hx,?_,fun t l hg=>?_⟩
 ·rw [(zjr (p.threads.map (zK V)) ds (by rw [QN];exact hdl) (za1 hds).2).1,QN]
 ·obtain⟨d,_,R,d2,d3,_⟩:=hth t l hg;exact⟨R,JZ d2,d3⟩
theorem zgb {m:MixD} {x:ExD} (h:x∈qV m):jw m 1≠0/\∃ ds∈qg (zL m),x=zE m ds:=by
 unfold qV at h
 split at h
 ·cases h
 ·rename_i h1;obtain⟨ds,hd,rfl⟩:=UL.1 h;exact⟨h1,ds,hd,rfl⟩
structure CandI (p:Prg) (x:ExD):Prop where
 ok:XOk x
 ini:qi x.ev=p.init.length
 l0:∀ i,i<qi x.ev->(evA x i).k=2/\(evA x i).l.toNat=i
 loc:∀ i,i<x.ev.length->isW x i=true->(evA x i).l.toNat<qi x.ev
 rm:∀ a b,zh x.rm a b=true->b=a+1
theorem znU {p:Prg} {V:List UInt8} (hO:OkG p) {x:ExD} (hx:x∈je p V):CandI p x:=by
 obtain⟨took,m,hC,hm,hx,t1,t2⟩:=zhW hO hx;obtain⟨h1,ds,hd,rfl⟩:=zgb hx;have hr:=hC.right hd;have hrl:=hC.rels hd;have hX:XOk (zE m ds):=ztg ⟨hrl.po.w,hrl.rf.w,hrl.co.w,hrl.dt.w,hrl.ct.w,hrl.rm.w⟩ hr;have hin:qi (zE m ds).ev=p.init.length:=hC.inits;refine⟨hX,hin,fun i hi=>?_,fun i hi hw=>?_,fun a b hb=>zsH hO hC t1 t2 hb⟩
 ·rw [hin] at hi;have h6:=hC.i6;have e:evA (zE m ds) i=⟨-1,2,UInt8.ofNat i,p.init[i],0,0,0⟩:=hC.ini hi;rw [e];exact⟨rfl,by show (UInt8.ofNat i).toNat=i;rw [KH];omega⟩
 ·rw [hin];refine zcF hC.i6 hC.P ?_ (.inr (dT hw));have:evA (zE m ds) i∈m.base.ev:=by
   unfold evA;rw [gDe,gE hi];exact gM hi
  rw [<- hC.base];exact this
end Go.Proofs.YtkpaomeeknegpaaGreatDoor
namespace Go.Vc
open Go.RowKit
section
variable {P:Program} {κ:Type} [DecidableEq κ] {key:κ->Value} {K:TypeId}
theorem zie {T elem:TypeId} (hK:MapK P K key) (hu:P.underlying T=some (.map K elem)) {w:Wd} {r:Nat} {f:κ->Option Value} (h:MapF key w r f) (q:κ) (x:Value) :
  ∃ o,(Instr.mapUpdate T (.map (some r)) (key q) x).run P w = .ok () (w.putObj r o)/\MapF key (w.putObj r o) r (fun q'=>if q'=q then some x else f q'):=by
 obtain⟨es,clock,hh,hf,hn,hb,hc⟩:=h;have hg:(getObj r).run P w = .ok (.map (es.map (entry key)).toArray clock) w:=by simp [getObj,Sem.run,hh]
 have hset:∀ o,(setObj r o).run P w = .ok () (w.putObj r o):=fun o=>by simp [setObj,Sem.run,hh,World.putObj]
 have e:asF es q=f q:=hf q;unfold asF at e;simp only [Instr.mapUpdate,UU,Ut hu,Qa,hg,hK.check q _ w,zf6 hK q es w]
 cases hfl:zbm q es 0 with
 | none =>
  rw [hfl] at e;simp only [Option.map_none] at e;refine⟨.map ((es++[(q,x,clock)]).map (entry key)).toArray (clock+1),?_,?_⟩
  ·have e2:(es.map (entry key)).toArray.push { key:=key q,val:=x,born:=clock }=((es++[(q,x,clock)]).map (entry key)).toArray:=by
    rw [<- Qe];simp [entry]
   simp only [e2,hset]
  ·refine⟨es++[(q,x,clock)],clock+1,zbk hh,fun q'=>?_,?_,?_,?_⟩
   ·rw [zh2];by_cases hq:q'=q
    ·subst hq;rw [hf q',<- e];simp
    ·simp [hq,hf q']
   ·rw [QR,UC,UJ];refine List.nodup_append.2 ⟨hn,by simp,?_⟩;intro a ha b hb';simp only [KA] at hb';subst hb';obtain⟨y,hy,rfl⟩:=UL.1 ha;exact zhJ hfl y hy
   ·rw [QR,UC,UJ];refine List.nodup_append.2 ⟨hb,by simp,?_⟩;intro a ha b hb';simp only [KA] at hb';subst hb';obtain⟨y,hy,rfl⟩:=UL.1 ha;exact Nat.ne_of_lt (hc y hy)
   ·intro y hy;rw [QS] at hy;rcases hy with hy | hy
    ·exact Nat.lt_succ_of_lt (hc y hy)
    ·simp only [KA] at hy;subst hy;exact QA _
 | some p =>
  obtain⟨j,v⟩:=p;obtain⟨b,_,hj⟩:=zhI hfl;rw [UR] at hj;have hm:(q,v,b)∈es:=JZ hj;have hje:(es.map (entry key)).toArray[j]?=some (entry key (q,v,b)):=by simp [hj]
  have only:∀ i (hi:i<es.length),(es[i]).2.2=b->i=j:=fun i hi hbe=>by
   obtain⟨hjl,e2⟩:=Js.1 hj;by_cases hij:i=j
   ·exact hij
   ·exfalso
    have h3:=(List.pairwise_iff_getElem.1 hb);rcases Nat.lt_or_gt_of_ne hij with hlt | hlt
    ·exact h3 i j (by simpa using hi) (by simpa using hjl) hlt (by simp [e2,hbe])
    ·exact h3 j i (by simpa using hjl) (by simpa using hi) hlt (by simp [e2,hbe])
  have hbq:∀ y∈es,y.2.2=b->y.1=q:=fun y hy hbe=>by
   obtain⟨i,hi,e1⟩:=Ki hy;have:=only i hi (by rw [e1];exact hbe);subst this;obtain⟨_,e2⟩:=Js.1 hj;rw [<- e1,e2]
  have hmod:(es.map (entry key)).toArray.modify j (fun e=>{ e with key:=key q,val:=x })=((es.map fun e=>if e.2.2=b then (e.1,x,e.2.2) else e).map (entry key)).toArray:=by
   apply Array.ext_getElem?;intro i;rw [Array.getElem?_modify];by_cases hil:i<es.length
   ·by_cases hij:j=i
    ·subst hij;obtain⟨_,e2⟩:=Js.1 hj;rw [Gr rfl,hje];simp [hil,e2,entry]
    ·rw [Gq hij];have:¬ (es[i]).2.2=b:=fun h=>hij (only i hil h).symm;simp [hil,this]
   ·have h1:(es.map (entry key)).toArray[i]?=none:=(by simp;omega);have h2:((es.map fun e=>if e.2.2=b then (e.1,x,e.2.2) else e).map (entry key)).toArray[i]?=none:=(by simp;omega);rw [h1,h2];split <;> rfl
  refine⟨.map ((es.map fun e=>if e.2.2=b then (e.1,x,e.2.2) else e).map (entry key)).toArray clock,?_,?_⟩
  ·simp only [hje,Ue,QE,entry,Instr.keyThatStays,hK.same q,Gp,UV,Qa,UU];have hmod':=hmod;rw [hmod',hset]
  ·refine⟨_,clock,zbk hh,fun q'=>?_,?_,?_,?_⟩
   ·rw [zn2 x q q' es hn ⟨v,hm⟩ hbq,hf q']
   ·have:(es.map fun e=>if e.2.2=b then (e.1,x,e.2.2) else e).map (·.1)=es.map (·.1):=by
     rw [UI];apply Kk;intro e _;simp only [Kf];split <;> rfl
    rw [this];exact hn
   ·have:(es.map fun e=>if e.2.2=b then (e.1,x,e.2.2) else e).map (·.2.2)=es.map (·.2.2):=by
     rw [UI];apply Kk;intro e _;simp only [Kf];split <;> rfl
    rw [this];exact hb
   ·intro e he;obtain⟨y,hy,rfl⟩:=UL.1 he
    split
    ·exact hc y hy
    ·exact hc y hy
end
end Go.Vc
namespace Go.Proofs.YtkpaomeeknegpaaGreatDoor
open Go.Vc Go.RowKit Go.Sei
theorem zuQ (e:Bool) (n:Nat) (x:UInt8) (w:Wd):(Instr.checkKey e (n+1) 5 (u8 x)).run PG w = .ok () w:=by
 simp only [Instr.checkKey,UU,Ut Tryz.underlying5,Qa,u8,UV]
theorem zvp (d:Nat) (x y:UInt8) (w:Wd):(Op.equalIn (d+1) 5 (u8 x) (u8 y)).run PG w = .ok (decide (x=y)) w:=by
 simp only [Op.equalIn,UU,Ut Tryz.underlying5,Qa,u8,Gp,UV];have:decide ((x.toNat:Int)=(y.toNat:Int))=decide (x=y):=by
  rw [QG];constructor
  ·intro h;exact Ug.1 (by omega)
  ·rintro rfl;rfl
 rw [<- this];rfl
theorem zsY:MapK PG 5 u8 where
 check:=fun q e w=>zuQ e 9999 q w
 eq:=fun q q' w=>zvp 9999 q q' w
 same:=fun q=>by simp [Instr.sameBits,u8]
 desc:=⟨_,Tryz.underlying5,fun q q'=>by
  right;simp only [Instr.sameNow,u8];have e:decide ((q.toNat:Int)=(q'.toNat:Int))=decide (q=q'):=by
   rw [QG];constructor
   ·intro h;exact Ug.1 (by omega)
   ·rintro rfl;rfl
  rw [<- e,Gr trivial];rfl⟩
def zaz (x:ExD) (A:List Nat):UInt8->Option Value:=fun l=>(zcT x A l).map fun s=>i64 (s:Nat)
theorem zoJ (x:ExD):zaz x []=fun _=>none:=rfl
theorem zhv (x:ExD) (A:List Nat) (i:Nat) (l:UInt8):zcT x (A++[i]) l=if isW x i=true/\(evA x i).l=l then some i else zcT x A l:=by
 unfold zcT;rw [Kv];by_cases h:isW x i=true/\(evA x i).l=l
 ·rw [Qn,Gr (by rw [h.1,Us h.2];rfl),Gr h,List.filter_nil];simp
 ·rw [Qn,Gq (fun e=>h (by rw [bAT,dE] at e;exact e)),Gq h,List.filter_nil,QK]
theorem zrS {x:ExD} {A:List Nat} {i:Nat} (h:isW x i=true):(fun q=>if q=(evA x i).l then some (i64 (i:Nat)) else zaz x A q)=zaz x (A++[i]):=by
 funext q;unfold zaz;rw [zhv];by_cases e:q=(evA x i).l
 ·rw [Gr e,Gr ⟨h,e.symm⟩];rfl
 ·rw [Gq e,Gq (fun h2=>e h2.2.symm)]
theorem zrT {x:ExD} {A:List Nat} {i:Nat} (h:isW x i=false):zaz x (A++[i])=zaz x A:=by
 funext q;unfold zaz;rw [zhv,Gq (fun h2=>by rw [h] at h2;exact Gs h2.1 (by decide))]
theorem zoR (x y:Operand) (a b:Bool) (w:Wd):(do eqGuard .eql 4 x y (.bool a) (.bool b);binOp .eql 4 (.bool a) (.bool b)).run PG w = .ok (.bool (decide (a=b))) w:=by
 have h:(Op.equal 4 (.bool a) (.bool b)).run PG w = .ok (decide (a=b)) w:=zlj 9999 a b w;have h1:(eqGuard .eql 4 x y (.bool a) (.bool b)).run PG w = .ok () w:=rfl;rw [UU,h1];simp only [Qa,binOp,UU,h,UV]
theorem zpZ {A B C:Bool} {m:Nat}:(if A=true then (if B=true then (if m=1 then 0 else if C=true then 0 else 3) else 2) else 1)<=3:=by
 by_cases h:m=1 <;> cases A <;> cases B <;> cases C <;> simp [h]
theorem zmM {m:Nat} {x:ExD}:qK m x<=3:=zpZ
theorem zpb {T:TypeId} {v:Value} (h:(Tryz.prog.info? T).bind (fun i=>i.zero)=some v) (w:Wd):(zeroValue T).run PG w = .ok v w:=by
 cases hi:Tryz.prog.info? T with
 | none=>rw [hi] at h;cases h
 | some inf =>
  rw [hi] at h;have h:inf.zero=some v:=h;simp [zeroValue,typeInfo,hi,h]
theorem zut:∀ w,(zeroValue 3).run PG w = .ok (i64 0) w:=zpb (by kernel_rfl)
theorem zs0 {w:Wd} {M:Nat} {f:UInt8->Option Value} (h:MapF u8 w M f) (q:UInt8) (ok:Bool):(Instr.lookup 71 (.map (some M)) (u8 q) ok).run PG w = .ok (if ok then .tuple #[(f q).getD (i64 0),.bool (f q).isSome] else (f q).getD (i64 0)) w:=zmk zsY Tryz.underlying71 zut h q ok
theorem zp6 {X:Wd} {b:Nat} {x:ExD} {q:OA} {c l:Nat} (fx:zF X ⟨b,0,none⟩ (exC x q c)) (hl:l<6):X.cell? ⟨b,0+295+32+l*1,none⟩=some (u8 (x.mem l)):=by
 obtain⟨A,Z,hA,hE⟩:=zmx x q c [];have h1:=hE x.mem;rw [QK] at h1;have h1:exC x q c=_:=h1;have h2:(exC x q c)[327+l]?=some (u8 (x.mem l)):=by
  rw [h1,qT hA,Jr (by rw [zG];exact hl)];exact zce (n:=6) (fun i=>u8 (x.mem i)) hl
 have h3:=zc fx h2;have e:0+(327+l)=0+295+32+l*1:=by omega
 rw [e] at h3;exact h3
theorem zja {n:Nat} {a b:RelD} (ha:RelOk n a) (hb:RelOk n b):(ju a b).2=0:=by
 unfold ju;rw [zgD ha hb]
theorem zqk {p:Prg} {V:List UInt8} {most:Nat} (hO:OkG p) (hc:zc3 p V most) (hm:most<=20000) {x:ExD} (hx:x∈je p V) {w:Wd} {q:OA} (he:SlR evE w q x.ev):ExW w x q/\qN x=true:=by
 have hg:=zmK hO hc hm hx;have hI:=(znU hO hx).ok;obtain⟨took,m,hC,_,hx2,_⟩:=zhW hO hx;obtain⟨_,ds,hd,rfl⟩:=zgb hx2;exact⟨⟨he,hg.n,fun l=>by have:=hg.w8 l;omega,hI.po.w,hI.rf.w,hI.co.w,hI.dt.w,hI.ct.w,hI.rm.w⟩,hC.right hd⟩
section
variable {w:Wd} {pc:List Value} {p:Prg}
theorem zkY {wh:Nat} (hP:PrgX w.heap.size w pc p) (hh:wh<65536) (hG:GlobE w) :
  CB 6 #[.agg pc.toArray,.int .u16 (wh:Nat)] w (.bool true):=by
 refine zer (S:=sg 167) (zbB _) (args:=[.agg pc.toArray,.int .u16 (wh:Nat)])
  (.c .p (.c .p (.c .p (.c .p (.c .p (.c .p (.c .p (.c .p (.s .p (.c .p (.c .p (.c (.s .p (.b (.l (.s .p (.s .p (.c (.b (.s .p .p)) .p)))))) (.c (.s .p (.b (.l (.s .p (.s .p (.c (.b .p) .p)))))) .p))))))))))))) Tryz.func6 rfl rfl (JS rfl) rfl ?_
 obtain⟨L,hL⟩:=nm (w.heap.size);have hpc:=hP.v.size;refine⟨Unit,fun _=>⟨[(1,.int .u16 (wh:Nat)),(2,At0 L)],[]⟩,fun _ X=>X.heap[L]?=some (.cells pc.toArray 29 (0,0))/\Bw w X,⟨(),⟨.cons rfl (.cons (by rw [hL];rfl) .nil),rfl⟩,by rw [hL];exact zu w _,(zba w _)⟩,?_⟩;rintro _ X ⟨f0,hbX⟩;have aw:∀ Y,Bw w Y->Calls PG 8 #[] Y fun e w'=>e = .returned (.bool true)/\Bw w w':=fun Y hwY=>cmo (zqZ (hG.below hwY)) fun e U h=>⟨h.1,hwY.trans (h.2.mono hwY.size)⟩;refine⟨Bool×List zbV×OA×Nat,fun s=>⟨[(1,.int .u16 (wh:Nat)),(2,At0 L),(5,.slice s.2.2.1 s.2.1.length s.2.2.2),(6,.bool s.1)],[]⟩,fun s Y=>(s.1=true->∃ V,zc6 p=true/\zc3 p V 200/\s.2.1.map (·.1)=je p V/\OwnS exE 46 w.heap.size Y s.2.2.1 s.2.2.2 s.2.1/\∀ x∈s.2.1,OwnS evE 49 w.heap.size Y x.2.1 x.2.2 x.1.ev)/\Y.heap[L]?=some (.cells pc.toArray 29 (0,0))/\Bw w Y,?_,?_⟩
 ·refine⟨pc,hpc,za f0,hlt f0,?_⟩;refine cmo (zsM hbX.size (hP.below hbX) (hG.below hbX)) ?_;rintro e Y ⟨hcase,hbY⟩;have hwY:=zst hbX hbY;have fY:=zb hbY f0;obtain⟨V,hok,hco,xs,q,c,rfl,hxs,oX,oE⟩ | rfl:=hcase
  ·exact⟨(true,xs,q,c),(cvE rfl rfl),fun _=>⟨V,hok,hco,hxs,oX.lower hbX.size,fun x hx=>(oE x hx).lower hbX.size⟩,fY,hwY⟩
  ·exact⟨(false,[],none,0),(cvE rfl rfl),(fun h=>by cases h),fY,hwY⟩
 clear f0 hbX;clear X;rintro⟨ok,xs,q,c⟩ Y ⟨hcase,f0,hwY⟩;dsimp only at hcase ⊢;refine⟨Unit,fun _=>⟨[(1,.int .u16 (wh:Nat)),(2,At0 L),(5,.slice q xs.length c)],[]⟩,fun _ X=>X=Y/\0<xs.length/\ok=true,?_,?_⟩
 ·cases ok with
  | false =>
   refine Gi (fun h=>?_) (fun h=>by cases h);refine brT ?_;refine cmo (aw Y hwY) ?_;rintro e U ⟨rfl,hbU⟩;exact⟨rfl,hbU⟩
  | true =>
   refine Gi (fun h=>by cases h) (fun h=>?_);refine biE (fun h=>?_) fun h=>?_
   ·refine cmo (aw Y hwY) ?_;rintro e U ⟨rfl,hbU⟩;exact⟨rfl,hbU⟩
   ·have h0:¬ ((xs.length:Int)=0):=dF h;exact⟨(),(cvE rfl rfl),rfl,(by omega),rfl⟩
 rintro _ _ ⟨rfl,hn0,rfl⟩;obtain⟨V,hok,hco,hxs,oX,oE⟩:=hcase rfl;clear hcase;rename_i Y;have hO:=zeO hok;have sYw:=hwY.size;obtain⟨k,hk⟩:=nm (wh%xs.length);have hkl:k<xs.length:=by rw [hk];exact Gh _ hn0
 obtain⟨b,o,rfl,hlb,hat⟩:=oX.row.at hkl;obtain⟨x,hx⟩:∃ x,xs[k]=x:=⟨_,rfl⟩;have hat:=hat k hkl;rw [hx] at hat;have hxm:x∈xs:=by rw [<- hx];exact gM hkl
 have hxc:x.1∈je p V:=by rw [<- hxs];exact Kl hxm
 have hev:=(oE x hxm).row;obtain⟨xe,qx,cx⟩:=x;dsimp only at hat hxc hev;obtain⟨hv,hright⟩:=zqk hO hco (by decide) hxc hev;have hI:=znU hO hxc;have hxk:=hI.ok;have hx48:=hxk.n;clear hx hxm;have hT:Tz64M Y:=hG.t64.below hwY;refine⟨Nat,fun M=>⟨[(2,At0 L),(7,At0 M)],[]⟩,fun M U=>ExH U M xe qx cx/\Y.heap.size<=M/\Bw Y U,?_,?_⟩
 ·refine⟨(wh:Int),ze (by omega),?_⟩;refine⟨by omega,((wh%xs.length:Nat):Int),(Int.ofNat_tmod _ _).symm,?_⟩;refine⟨wh%xs.length,rfl,by omega,?_⟩;refine⟨exC xe qx cx,zA _ _ _,by rw [<- hk];exact hat,hlb,?_⟩;refine zo (X:=Y) (v := .agg (exC xe qx cx).toArray) k46 (zA _ _ _) jy (za0 _ _ _) fun Z hbZ fZ sZ=>?_;exact⟨Y.heap.size,(cvE rfl rfl),fZ,UY _,hbZ⟩
 clear hk hkl hat hlb;rintro M U ⟨fM,hYM,hbU⟩;obtain⟨ru,hru⟩:∃ r,r=(ju xe.po xe.rf).1:=⟨_,rfl⟩;obtain⟨rv,hrv⟩:∃ r,r=(ju xe.co (frM xe)).1:=⟨_,rfl⟩;obtain⟨rw_,hrw⟩:∃ r,r=(ju ru rv).1:=⟨_,rfl⟩;have ou:RelOk xe.ev.length ru:=by rw [hru];exact hxk.po.union hxk.rf
 have ov:RelOk xe.ev.length rv:=by rw [hrv];exact hxk.co.union (zdo hxk)
 have ow:RelOk xe.ev.length rw_:=by rw [hrw];exact ou.union ov
 have hall:rw_=zet xe:=by rw [hrw,hru,hrv];rfl
 have e1:=zja hxk.po hxk.rf;have e2:=zja hxk.co (zdo hxk);have e3:=zja ou ov;have eF:frX xe=frM xe:=Gr hright;refine⟨Nat,fun A=>⟨[(2,At0 L),(7,At0 M),(8,At0 A),(9,i64 0)],[]⟩,fun A X=>zS X A ru/\ExH X M xe qx cx/\Bw Y X,?_,?_⟩
 ·refine⟨zf xe.po,zg _,zvd fM,hlt fM,?_⟩;refine⟨zf xe.rf,zg _,zuE fM,hlt fM,?_⟩;refine cmo (zgI hxk.po.w hxk.rf.w) ?_;rintro e X ⟨rfl,hbX⟩;rw [e1,<- hru];refine zo (X:=X) (v := .agg (zf ru).toArray) k39 (zg _) (by kernel_rfl) (zC _) fun Z hbZ fZ sZ=>?_;have bZ:=zst hbX hbZ;exact⟨X.heap.size,(cvE rfl rfl),fZ,zb bZ fM,(zst hbU bZ)⟩
 clear fM hbU;clear U;rintro A X ⟨fA,fM,hbX⟩;have sX:=hbX.size;refine⟨Nat,fun C=>⟨[(2,At0 L),(7,At0 M),(8,At0 A),(9,i64 0),(10,At0 C),(11,i64 0)],[]⟩,fun C Z=>zS Z C rv/\zS Z A ru/\ExH Z M xe qx cx/\Bw Y Z,?_,?_⟩
 ·obtain⟨U,hU⟩:=nm (X.drew);have bU:Bw X U:=by rw [hU];exact (Gd _ _).drew
  have fU:=zb bU fM;have hba:∀ (A:Wd) (o:Obj),Bw A (A.alloc o):=fun A o=>(zba _ _);obtain⟨zR,hzR⟩:∃ zR:Obj,zR = .cells (zf zw).toArray 39 (0,0):=⟨_,rfl⟩;have kF:∀ {W:Wd},Bw X W->CB 17 #[.agg (exC xe qx cx).toArray] W (.agg (zf (frM xe)).toArray):=fun {W} hW=>by
   have h2:=zst hbX hW;rw [<- eF];exact zu3 (hv.below h2) (hT.below h2)
  have kU:∀ {W:Wd},CB 16 #[.agg (zf xe.co).toArray,.agg (zf (frM xe)).toArray] W (.tuple #[.agg (zf rv).toArray,i64 0]):=fun {W}=>by
   have:=zgI (w:=W) hxk.co.w (zdo hxk).w;rw [e2,<- hrv] at this;exact this
  have put:∀ {W:Wd} {b3:Nat},Bw X W->zS W b3 zw->X.heap.size<=b3->∀ {K:Wd->Prop},(∀ V,(zS V b3 rv/\zS V A ru/\ExH V M xe qx cx/\Bw Y V)->K V) ->
    SatR ((storeVar 39 ⟨b3,0,none⟩ (.agg (zf rv).toArray)).run PG W) fun _ w'=>K w':=by
   intro W b3 hW f3 g3 K k;refine zt (v := .agg (zf rv).toArray) k39 f3 (zg _) (zg _) (zC _) ?_;have hA2:=hlt fA;have hM2:=hlt fM;exact k _ ⟨zm f3,(zp (by omega)).trans (zb hW fA),(zp (by omega)).trans (zb hW fM),zl ((zst hbX hW)) (by omega) _⟩
  refine DrawE.treeQ [9] (.op 0 (.op 1 (.op 2 (.alt (.op 8 (.op 3 (.op 4 (.op 5 (.op 6 (.op 7 (.op 9 (.op 10 .nil)))))))) (.op 3 (.alt (.op 8 (.op 4 (.op 5 (.op 6 (.op 7 (.op 9 (.op 10 .nil))))))) (.op 4 (.op 5 (.op 6 (.op 7 (.op 8 (.op 9 (.op 10 .nil)))))))))))))  (by kernel_rfl) ?_;rw [<- hU];refine⟨zf xe.co,zg _,zve fU,hlt fU,?_⟩;refine⟨exC xe qx cx,zA _ _ _,za fU,hlt fU,?_⟩;refine Gi ?_ ?_
  ·refine⟨hba _ _,?_⟩;have b1:=bU.alloc bU.size (.cells (zf zw).toArray 39);refine cmo (kF b1) ?_;rintro e Z1 ⟨rfl,hbZ1⟩;refine⟨hbZ1,?_⟩;have b2:=zst b1 hbZ1;refine cmo kU ?_;rintro e Z2 ⟨rfl,hbZ2⟩;refine⟨hbZ2,?_⟩;have b3:=zst b2 hbZ2;refine put b3 (zb hbZ2 (zb hbZ1 (zu U _))) bU.size ?_;exact fun V hV=>⟨U.heap.size,(cvE rfl rfl),hV⟩
  ·refine cmo (kF bU) ?_;rintro e Z1 ⟨rfl,hbZ1⟩;refine⟨hbZ1,?_⟩;have b2:=zst bU hbZ1;refine Gi ?_ ?_
   ·refine⟨hba _ _,?_⟩;have b2a:=b2.alloc b2.size (.cells (zf zw).toArray 39);refine cmo kU ?_;rintro e Z2 ⟨rfl,hbZ2⟩;refine⟨hbZ2,?_⟩;have b3:=zst b2a hbZ2;refine put b3 (zb hbZ2 (zu Z1 _)) b2.size ?_;exact fun V hV=>⟨Z1.heap.size,(cvE rfl rfl),hV⟩
   ·refine cmo kU ?_;rintro e Z2 ⟨rfl,hbZ2⟩;refine⟨hbZ2,?_⟩;have b3:=zst b2 hbZ2;refine⟨hba _ _,?_⟩;refine put (b3.alloc b3.size _) (zu Z2 _) b3.size ?_;exact fun V hV=>⟨Z2.heap.size,(cvE rfl rfl),hV⟩
 clear fA fM hbX sX;clear X;rintro C X ⟨fC,fA,fM,hbX⟩;refine⟨Nat,fun D=>⟨[(2,At0 L),(7,At0 M),(9,i64 0),(11,i64 0),(12,At0 D),(13,i64 0)],[]⟩,fun D Z=>zS Z D rw_/\ExH Z M xe qx cx/\Bw Y Z,?_,?_⟩
 ·refine⟨zf ru,zg _,za fA,hlt fA,?_⟩;refine⟨zf rv,zg _,za fC,hlt fC,?_⟩;refine cmo (zgI ou.w ov.w) ?_;rintro e Z ⟨rfl,hbZ⟩;rw [e3,<- hrw];refine zo (X:=Z) (v := .agg (zf rw_).toArray) k39 (zg _) (by kernel_rfl) (zC _) fun T hbT fT sT=>?_;have bT:=zst hbZ hbT;exact⟨Z.heap.size,(cvE rfl rfl),fT,zb bT fM,(zst hbX bT)⟩
 clear fA fC fM hbX A C;clear X;rintro D X ⟨fD,fM,hbX⟩;have sX:=hbX.size;refine⟨OA×Nat,fun s=>⟨[(2,At0 L),(7,At0 M),(9,i64 0),(11,i64 0),(13,i64 0),(14,.slice s.1 ((za8 rw_).getD []).length s.2),(15,.bool (za8 rw_).isSome)],[]⟩,fun s Z=>OwnS zB 3 Y.heap.size Z s.1 s.2 ((za8 rw_).getD [])/\ExH Z M xe qx cx/\Bw Y Z,?_,?_⟩
 ·refine⟨zf rw_,zg _,za fD,hlt fD,?_⟩;refine cmo (ztd ow.w (hT.below hbX)) ?_;rintro e Z ⟨⟨p1,c1,rfl,hown⟩,hbZ⟩;exact⟨(p1,c1),(cvE rfl rfl),hown.lower sX,zb hbZ fM,(zst hbX hbZ)⟩
 clear fD fM hbX sX;clear X;rintro⟨p1,c1⟩ X ⟨oT,fM,hbX⟩;dsimp only at oT ⊢;have sX:=hbX.size;have hwX:=hwY.trans (hbX.mono sYw);have hsc:=ztm hxk;rw [<- hall] at hsc;have hh2:zbS 2 xe=decide (qK 2 xe=0):=by
  unfold zbS;rw [hright];rfl
 have hacy:zae rw_=(za8 rw_).isSome:=rfl;rw [hacy] at hsc;refine⟨0,rfl,?_⟩;refine⟨0,rfl,?_⟩;refine brF ?_;refine⟨Unit,fun _=>⟨[(2,At0 L),(7,At0 M),(14,.slice p1 ((za8 rw_).getD []).length c1)],[]⟩,fun _ Z=>Z=X/\(za8 rw_).isSome=true,?_,?_⟩
 ·cases hs:(za8 rw_).isSome with
  | true =>
   refine brF ?_;exact⟨(),(cvE rfl rfl),rfl,rfl⟩
  | false =>
   refine brT ?_;refine⟨exC xe qx cx,zA _ _ _,za fM,hlt fM,?_⟩;refine cmo (zj2 (m:=2) (hv.below hbX) (hT.below hbX)) ?_;rintro e Z ⟨rfl,hbZ⟩;have:zbS (2:UInt8).toNat xe=false:=by
    show zbS 2 xe=false;rw [hh2,Uh];intro h;have:=(hsc.1 h).2;rw [hs] at this
    cases this
   rw [this];refine brT ?_;refine cmo (aw Z ((zst hwX hbZ))) ?_;rintro e U ⟨rfl,hbU⟩;exact⟨rfl,hbU⟩
 rintro _ _ ⟨rfl,hsome⟩;rename_i X;obtain⟨top,htop⟩:=Option.isSome_iff_exists.1 hsome;have hgd:(za8 rw_).getD []=top:=by rw [htop];rfl
 rw [hgd] at oT ⊢;have htop2:za8 (zet xe)=some top:=by rw [<- hall];exact htop
 obtain⟨hperm,_⟩:=zfk (zcH hxk) htop2;have htl:top.length=xe.ev.length:=by rw [hperm.length_eq,KV]
 have htm:∀ i∈top,i<xe.ev.length:=fun i hi=>Uo.1 (hperm.subset hi);refine⟨Nat,fun K=>⟨[(2,At0 L),(7,At0 M),(14,.slice p1 top.length c1),(16,.map (some K))],[]⟩,fun K Z=>MapF u8 Z K (zaz xe [])/\X.heap.size<=K/\Bw X Z,?_,?_⟩
 ·refine⟨Value.map (some X.heap.size),X.alloc (Obj.map #[] 0),by rfl,?_⟩;have hb1:Bw X (X.alloc (.map #[] 0)):=(Gd X.heap.size X).alloc (UY _) _;exact⟨X.heap.size,(cvE rfl rfl),by rw [zoJ];exact MapF.new,UY _,hb1⟩
 rintro K Z ⟨hm0,hXK,hbZ⟩;refine⟨Unit,fun _=>⟨[(2,At0 L),(7,At0 M),(16,.map (some K))],[]⟩,fun _ S=>MapF u8 S K (zaz xe top)/\Bw X S,?_,?_⟩
 ·refine⟨Nat,fun j=>⟨[(2,At0 L),(7,At0 M),(16,.map (some K)),(86,.slice p1 top.length c1),(87,i64 top.length),(88,i64 (j:Nat))],[]⟩,fun j S=>j<=top.length/\MapF u8 S K (zaz xe (top.take j))/\Bw X S,fun j=>top.length-j,0,(cvE rfl rfl),⟨Gb _,hm0,hbZ⟩,?_⟩;clear hm0 hbZ;clear Z;rintro j S ⟨hj,hm,hbS⟩;refine biE (fun hc=>?_) fun hc=>?_
  ·have hc:(j:Int)<(top.length:Int):=dT hc;have hjl:j<top.length:=by omega
   obtain⟨bt,ot,rfl,hbt,hatt⟩:=oT.row.at hjl;obtain⟨i,hi⟩:∃ i,top[j]=i:=⟨_,rfl⟩;have hin:=htm i (by rw [<- hi];exact gM hjl);have htk:top.take (j+1)=top.take j++[i]:=by rw [tsg hjl,hi]
   have hsplit:top=top.take j++i::top.drop (j+1):=by
    conv=>lhs;rw [<- JQ (j+1) top,htk,KO]
    rfl
   refine⟨Unit,fun _=>⟨[(2,At0 L),(7,At0 M),(16,.map (some K)),(86,.slice (some ⟨bt,ot,none⟩) top.length c1),(87,i64 top.length),(88,i64 (j:Nat))],[]⟩,fun _ S=>MapF u8 S K (zaz xe (top.take (j+1)))/\Bw X S,?_,?_⟩
   rotate_left
   ·rintro _ S2 ⟨hm2,hbS2⟩;refine nxI (by omega) ?_;exact⟨j+1,(cvE rfl rfl),⟨hjl,hm2,hbS2⟩,zdc (by omega)⟩
   have sS:=hbS.size;have hYS:=hbX.trans (hbS.mono sX);refine⟨j,rfl,hjl,?_⟩;refine⟨i64 (i:Nat),by rw [<- hi];exact zc (zq hbS (hatt j hjl)) (i:=0) rfl,?_⟩;have fMS:=zb hbS fM;obtain⟨be,oe,rfl,hbe,hate⟩:=znH hev (by omega);obtain⟨e,he⟩:∃ e,evA xe i=e:=⟨_,rfl⟩;have hcv:zF S ⟨be,oe+i*7,none⟩ (evE.enc e):=by rw [<- he];exact zq hYS (hate i hin)
   refine⟨_,j5 (za fMS),?_⟩;refine⟨i,rfl,hin,?_⟩;refine⟨evE.enc e,rfl,hcv,nL hbe hYS.size,?_⟩;refine zo (X:=S) (v := .agg (evE.enc e).toArray) k49 rfl rfl (Qj.2 fun u hu=>evE.one _ u hu) fun T hbT fN sT=>?_;have hXT:=hbS.trans (hbT.mono sS);have hmT:=hm.below hbT;refine⟨_,zc (za fN) (i:=1) rfl,?_⟩;refine biE (fun h=>?_) fun h=>?_
   ·have h:e.k=2:=dT ((zb0 (x:=e.k) (y:=2)).symm.trans h);have hw:isW xe i=true:=Us (by rw [he];exact h);refine⟨_,zc (za fN) (i:=2) rfl,?_⟩;obtain⟨ob,hrun,hm2⟩:=zie zsY Tryz.underlying71 hmT e.l (i64 (i:Nat));refine⟨_,_,hrun,?_⟩;have hml:(fun q=>if q=e.l then some (i64 (i:Nat)) else zaz xe (top.take j) q)=zaz xe (top.take (j+1)):=by
     rw [htk,<- zrS hw,he]
    rw [hml] at hm2;exact⟨(),(cvE rfl rfl),hm2,qP hXT hXK _⟩
   have hk2:¬ e.k=2:=dF ((zb0 (x:=e.k) (y:=2)).symm.trans h);have hnw:isW xe i=false:=Uh (by rw [he];exact hk2);have hml:zaz xe (top.take (j+1))=zaz xe (top.take j):=by rw [htk];exact zrT hnw
   refine biE (fun h=>?_) fun h=>?_
   ·have h:e.k=1:=dT ((zb0 (x:=e.k) (y:=1)).symm.trans h);have hr:isR xe i=true:=Us (by rw [he];exact h);obtain⟨s,s1,s2,s3,s4⟩:=zov hxk hI.loc htop2 hsplit hr;rw [he] at s1 s4;have hlf:zaz xe (top.take j) e.l=some (i64 (s:Nat)):=(by unfold zaz;rw [s1];rfl);have hlk:∀ {W:Wd},Bw T W->(Instr.lookup 71 (.map (some K)) (u8 e.l) true).run PG W = .ok (.tuple #[i64 (s:Nat),.bool true]) W:=fun {W} hb=>by
     have:=zs0 (hmT.below hb) e.l true;rw [hlf] at this;exact this
    refine⟨_,zc (za fN) (i:=2) rfl,?_⟩;refine⟨.tuple #[i64 (s:Nat),.bool true],fun w2 hb=>hlk hb,?_⟩;have hTd:Bw T T.drew:=(Gd _ _).drew;have hXd:=zst hXT hTd;have hYd:=hbX.trans (hXd.mono sX);have fMd:=zb hXd fM;refine DrawE.ord [] [0,1,2,3,4,5,6,7,8,9,10,11,12,13,14,15,16,17,18,19,20] (by kernel_rfl) ?_;refine brF ?_;refine⟨zf xe.rf,zg _,zuE fMd,hlt fMd,?_⟩;refine cmo (zu1 (r:=xe.rf) (a:=s) (b:=i) hxk.rf.w) ?_;rintro e2 V2 ⟨rfl,hbV⟩;have hhas:zf4 xe.rf s i=true:=by
     unfold zf4;rw [hxk.rf.ok,hxk.rf.n,Us (by omega:(s:Int)<(xe.ev.length:Int)),Us (by omega:(i:Int)<(xe.ev.length:Int)),s3];rfl
    refine⟨hbV,?_⟩;rw [hhas];have hXV:=zst hXd hbV;have hYV:=hbX.trans (hXV.mono sX);refine brF ?_;refine⟨_,j5 (za (zb hXV fM)),?_⟩;refine⟨s,rfl,s2,?_⟩;refine⟨_,zc (zq hYV (hate s s2)) (i:=3) rfl,?_⟩;refine⟨_,zc (za (zb hbV (hdr fN))) (i:=3) rfl,?_⟩;rw [s4];refine brN (by rw [Us rfl];rfl) ?_;rw [<- hml] at hmT;exact⟨(),(cvE rfl rfl),hmT.below ((zst hTd hbV)),hXV⟩
   ·rw [<- hml] at hmT;exact⟨(),(cvE rfl rfl),hmT,hXT⟩
  ·have hc:¬ (j:Int)<(top.length:Int):=dF hc;obtain rfl:j=top.length:=by omega
   rw [Qw] at hm;exact⟨(),(cvE rfl rfl),hm,hbS⟩
 clear hm0 hbZ;clear Z;rintro _ S ⟨hm,hbS⟩;have hpl:=hP.v.len;obtain⟨r1,k1,r2,k2,r3,k3,r4,k4,hvs,_⟩:=hP.v.h;have hpc1:pc[1]?=some (.slice r1 p.locs.length k1):=by rw [hvs];rfl
 have hl6:=hO.l6;have hil:=hO.il;have sS:=hbS.size;refine⟨Unit,fun _=>⟨[(7,At0 M)],[]⟩,fun _ Z=>Bw X Z,?_,?_⟩
 ·have fS:=zb (hbX.trans (hbS.mono sX)) f0;refine⟨_,zc (za fS) (i:=1) (by simpa using hpc1),?_⟩;refine⟨Nat,fun t=>⟨[(7,At0 M),(16,.map (some K)),(138,i64 p.locs.length),(139,i64 (t:Nat))],[]⟩,fun t Z=>t<=p.locs.length/\MapF u8 Z K (zaz xe top)/\Bw X Z,fun t=>p.locs.length-t,0,(cvE rfl rfl),⟨Gb _,hm,hbS⟩,?_⟩;clear fS hm hbS sS;clear S;rintro t S ⟨ht,hm,hbS⟩;refine biE (fun hc=>?_) fun hc=>?_
  ·have hc:(t:Int)<(p.locs.length:Int):=dT hc;have htl:t<p.locs.length:=by omega
   have ht6:t<6:=by omega
   have sS:=hbS.size;obtain⟨s,s1,s2,s3⟩:=zms hxk htop2 (l:=t) (by rw [hI.ini];omega) ht6;have hlf:zaz xe top (UInt8.ofNat t)=some (i64 (s:Nat)):=by unfold zaz;rw [s1];rfl
   have hlk:∀ {W:Wd},Bw S W->(Instr.lookup 71 (.map (some K)) (u8 (UInt8.ofNat t)) false).run PG W = .ok (i64 (s:Nat)) W:=fun {W} hb=>by
    have:=zs0 (hm.below hb) (UInt8.ofNat t) false;rw [hlf] at this;exact this
   obtain⟨be,oe,rfl,hbe,hate⟩:=znH hev (by omega);refine⟨Unit,fun _=>⟨[(7,At0 M),(16,.map (some K)),(138,i64 p.locs.length),(139,i64 (t:Nat))],[]⟩,fun _ Z=>MapF u8 Z K (zaz xe top)/\Bw X Z,?_,?_⟩
   rotate_left
   ·rintro _ S2 ⟨hm2,hbS2⟩;refine nxI (by omega) ?_;exact⟨t+1,(cvE rfl rfl),⟨htl,hm2,hbS2⟩,zdc (by omega)⟩
   have hSd:Bw S S.drew:=(Gd _ _).drew;have hXd:=hbS.trans (hSd.mono sS);have hYd:=hbX.trans (hXd.mono sX);have fMd:=zb hXd fM;refine DrawE.ord [] [0,1,2,3,4,5,6,7,8,9,10,11,12,13,14] (by kernel_rfl) ?_;refine⟨_,j5 (za fMd),?_⟩;refine⟨((UInt8.ofNat t).toNat:Int),zlO _,?_⟩;refine⟨i64 (s:Nat),fun w2 hb=>hlk ((zst hSd hb)),?_⟩;refine⟨s,rfl,s2,?_⟩;refine⟨_,zc (zq hYd (hate s s2)) (i:=3) rfl,?_⟩;refine⟨t,rfl,ht6,?_⟩;refine⟨_,zp6 (za fMd) ht6,?_⟩;rw [s3];refine brN (by rw [Us rfl];rfl) ?_;exact⟨(),(cvE rfl rfl),hm.below hSd,hXd⟩
  ·exact⟨(),(cvE rfl rfl),hbS⟩
 clear hm hbS sS;clear S;rintro _ S hbS;have sS:=hbS.size;have hYS:=hbX.trans (hbS.mono sX);have hSd:Bw S S.drew:=(Gd _ _).drew;have hYd:=zst hYS hSd;have fMd:=zb hSd (zb hbS fM);refine DrawE.ord [] [0,2,1,3,4,5,6,7,8,9] (by kernel_rfl) ?_;refine⟨exC xe qx cx,zA _ _ _,za fMd,hlt fMd,?_⟩;refine⟨exC xe qx cx,zA _ _ _,za fMd,hlt fMd,?_⟩;refine cmo (zj2 (m:=2) (hv.below hYd) (hT.below hYd)) ?_;rintro e Z ⟨rfl,hbZ⟩;refine⟨hbZ,?_⟩;have hYZ:=zst hYd hbZ;refine cmo (zlL (m:=1) (hv.below hYZ) (hT.below hYZ)) ?_;rintro e T ⟨rfl,hbT⟩;refine⟨hbT,?_⟩;have hYT:=zst hYZ hbT;have b1:zfb (1:UInt8).toNat xe=qK 1 xe:=Gr ⟨rfl,hright⟩;have h2:zbS (2:UInt8).toNat xe=decide (qK 2 xe=0):=hh2;rw [b1,h2];have b3:qK 1 xe<=3:=zmM;have e0:decide (((UInt8.ofNat (qK 1 xe)).toNat:Int)=0)=decide (qK 1 xe=0):=by
  rw [QG,KH];omega
 refine⟨_,fun w=>zoR _ _ _ _ w,?_⟩;have e1:decide (decide (qK 2 xe=0)=decide (((UInt8.ofNat (qK 1 xe)).toNat:Int)=0))=true:=by
  rw [e0];refine Us (QG.2 ⟨fun h=>(hsc.1 h).1,fun h=>hsc.2 ⟨h,hsome⟩⟩)
 refine biE (fun h=>?_) fun h=>?_
 ·refine cmo (zqZ (hG.below (hwY.trans (hYT.mono sYw)))) ?_;rintro e U ⟨rfl,hbU⟩;exact⟨hbU,rfl,hwY.trans (((zst hYT hbU)).mono sYw)⟩
 ·exact Gs (e1.symm.trans h) (by decide)
end
end Go.Proofs.YtkpaomeeknegpaaGreatDoor
