/- Contracts of functions, and plain facts, for the law that the last text of this claim proves. -/
import Derived.Test.YtakcdebpklffiaaGreatDoorM5
import Derived.Test.YtakcdebpklffiaaGreatDoorM4
import Derived.Test.YtakcdebpklffiaaGreatDoorM2
import Derived.Test.YtakcdebpklffiaaGreatDoorM3
import Derived.Sort.AssemblyPlain
set_option linter.unusedSimpArgs false
set_option linter.unusedVariables false
namespace Go.Proofs.YtakcdebpklffiaaGreatDoor
open Go.Vc Go.RowKit Go.Sei
abbrev zdx:List Value:=[.nilFunc,.func (.func 282) #[] #[],.func (.func 283) #[] #[],.func (.func 284) #[] #[],.func (.func 288) #[] #[],.func (.func 289) #[] #[],.func (.func 291) #[] #[]]
section
variable{b c:Nat}{x:ExD}{q:OA}{w:Wd}{f l s:RelD}
theorem zuC:CB 216 #[] w (.agg zdx.toArray):=by
 refine qA 8 [] (.c .p .p) Tryz.func216 ?_;obtain⟨L,e⟩:=nm (w.heap.size);refine⟨Unit,fun _=>⟨[(0,At0 L)],[]⟩,fun _ X=>X.heap[L]?=some (.cells #[.nilFunc,.nilFunc,.nilFunc,.nilFunc,.nilFunc,.nilFunc,.nilFunc] 316 (0,0))/\Bw w X,⟨(),⟨.cons (by rw[e];rfl) .nil,rfl⟩,by rw[e];exact zt w _,(zba w _)⟩,?_⟩;rintro _ X ⟨d,a⟩;refine⟨[.func (.func 282) #[] #[]],by kernel_rfl,?_⟩;refine⟨[.func (.func 283) #[] #[]],by kernel_rfl,?_⟩;refine⟨[.func (.func 284) #[] #[]],by kernel_rfl,?_⟩;refine⟨[.func (.func 288) #[] #[]],by kernel_rfl,?_⟩;refine⟨[.func (.func 289) #[] #[]],by kernel_rfl,?_⟩;refine⟨[.func (.func 291) #[] #[]],by kernel_rfl,?_⟩;refine⟨zdx,by kernel_rfl,?_⟩;refine zp (v := .agg zdx.toArray) zx1 d rfl rfl rfl ?_;exact⟨zdx,rfl,za (zn d),rfl,zk a (by omega) _⟩
theorem zeB{S Rb Mb Sv g a d:Nat}{m:UInt8}{K:Bool}(hs:ScnV w S x q c f l s)(fSv:w.heap[Sv]?=some (.cells #[At0 S] 309 (0,0)))(fR:w.heap[Rb]?=some (.cells zdx.toArray 316 (0,0)))(fM:w.heap[Mb]?=some (.cells #[u8 m] 5 (0,0)))
  (hm7:m.toNat<7) (hm:zdx[m.toNat]?=some (.func (.func g) #[] #[])) (hok:j6 (sg 0) g=true) (hK:∀X,Bw w X->Calls PG g #[At0 S,i64 (a:Nat),i64 (d:Nat)] X fun e Y=>e = .returned (.bool K)/\Bw X Y) (ha:a<x.ev.length) (hd:d<x.ev.length) :
  CB 217 #[i64 (a:Nat),i64 (d:Nat),At0 Sv,At0 Rb,At0 Mb] w (.bool (zh x.po a d&&(zbZ x a&&(zbZ x d&&K)))):=by
 refine zD 47 [i64 (a:Nat),i64 (d:Nat),At0 Sv,At0 Rb,At0 Mb] Tryz.func217 ?_;have hn:=hs.v.n;have fx:=hs.cells;obtain⟨bq,oq,y,hb,ac⟩:=zcW hs.v.ev ha;obtain⟨ae,af,h,ag,k⟩:=zcW hs.v.ev hd;rw[y] at h;simp only[KY,Ur,Gh] at h;rw[<- h.1,<- h.2] at k;have ad:=hs.v.po;subst y;have t:Bw w w.drew:=(Gb _ _).drew;refine DrawE.ord [] [0,1,2,3,4,5,6,7,8,9,10,11,12,13,14,15,16,17,18,19,20,21,22,23,24,25,26,27,28,29,30,31,32,33,34,35,36,37,38,39] (by kernel_rfl) ?_;refine⟨At0 S,zc (za (hdr fSv)) (i:=0) rfl,?_⟩;refine cmo (zX (zgM (zw t fx) (ztl x _ c)) ad (by omega) (by omega)) ?_;rintro e _ ⟨rfl,rfl⟩;refine⟨Gb _ _,?_⟩;refine biE (fun j=>?_) fun j=>?_
 ·have j:zh x.po a d=true:=j;refine⟨At0 S,zc (za (hdr fSv)) (i:=0) rfl,?_⟩;refine⟨_,za5 (zw t fx),?_⟩;refine⟨a,rfl,ha,?_⟩;refine⟨evE.enc (evA x a),rfl,zw t ac,nL hb t.size,?_⟩;refine cmo zf8 ?_;rintro e X ⟨rfl,z⟩;refine⟨z,?_⟩;have r:=t.trans z;rw[zlI];refine biE (fun o=>?_) fun o=>?_
  ·have o:zbZ x a=true:=o;refine⟨At0 S,zc (za (zb r fSv)) (i:=0) rfl,?_⟩;refine⟨_,za5 (zw r fx),?_⟩;refine⟨d,rfl,hd,?_⟩;refine⟨evE.enc (evA x d),rfl,zw r k,nL hb r.size,?_⟩;refine cmo zf8 ?_;rintro e Y ⟨rfl,ab⟩;refine⟨ab,?_⟩;have u:=zst r ab;rw[zlI];refine biE (fun p=>?_) fun p=>?_
   ·have p:zbZ x d=true:=p;refine⟨u8 m,zc (za (zb u fM)) (i:=0) rfl,?_⟩;refine⟨m.toNat,rfl,hm7,?_⟩;refine⟨.func (.func g) #[] #[],by have:=zc (za (zb u fR)) (i:=m.toNat) (v := .func (.func g) #[] #[]) hm;rw[UX];exact this,?_⟩;refine⟨At0 S,zc (za (zb u fSv)) (i:=0) rfl,?_⟩;refine zji hok (hK Y u) ?_;rintro e Z ⟨rfl,aa⟩;refine⟨_,rfl,aa,?_⟩;exact⟨rb (by rw[j,o,p];rfl),(zst u aa)⟩
   ·have p:zbZ x d=false:=p;exact⟨rb (by rw[j,o,p];rfl),u⟩
  ·have o:zbZ x a=false:=o;refine brF ?_;exact⟨rb (by rw[j,o];rfl),r⟩
 ·have j:zh x.po a d=false:=j;refine brF ?_;refine brF ?_;exact⟨rb (by rw[j];rfl),t⟩
theorem zmI{m:UInt8}(h:zbb m.toNat=true):m=1\/m=2\/m=3\/m=4\/m=5\/m=6:=by
 unfold zbb at h;rw[bAT,dE,dE] at h;simp only[<- Ud];show m.toNat=1\/m.toNat=2\/m.toNat=3\/m.toNat=4\/m.toNat=5\/m.toNat=6;omega
theorem zu6{S Rb Mb Sv a d:Nat}{m:UInt8}(hk:zbb m.toNat=true)(hs:ScnV w S x q c f l s)(fSv:w.heap[Sv]?=some (.cells #[At0 S] 309 (0,0)))(fR:w.heap[Rb]?=some (.cells zdx.toArray 316 (0,0)))(fM:w.heap[Mb]?=some (.cells #[u8 m] 5 (0,0)))
  (ha:a<x.ev.length) (hd:d<x.ev.length) :
  CB 217 #[i64 (a:Nat),i64 (d:Nat),At0 Sv,At0 Rb,At0 Mb] w (.bool (zh x.po a d&&(zbZ x a&&(zbZ x d&&zdd m.toNat x f l s a d)))):=by
 rcases zmI hk with rfl | rfl | rfl | rfl | rfl | rfl
 ·exact zeB (g:=282) hs fSv fR fM (by decide) rfl (by kernel_rfl) (fun X e=>zuI) ha hd
 ·exact zeB (g:=283) hs fSv fR fM (by decide) rfl (by kernel_rfl) (fun X e=>zuH) ha hd
 ·exact zeB (g:=284) hs fSv fR fM (by decide) rfl (by kernel_rfl) (fun X e=>zuG (hs.below e) ha hd) ha hd
 ·exact zeB (g:=288) hs fSv fR fM (by decide) rfl (by kernel_rfl) (fun X e=>zuF (hs.below e) ha hd) ha hd
 ·exact zeB (g:=289) hs fSv fR fM (by decide) rfl (by kernel_rfl) (fun X e=>zuE (hs.below e) ha hd) ha hd
 ·exact zeB (g:=291) hs fSv fR fM (by decide) rfl (by kernel_rfl) (fun X e=>zuD (hs.below e) ha hd) ha hd
theorem zk1{X:Wd}{S o:Nat}{T:TypeId}{A Z:List Value}{r0 r:RelD}(h:X.heap[S]?=some (.cells (A++(zf r0++Z)).toArray T (0,0)))(hA:A.length=o){K:Wd->Prop}
  (k:∀Y,Y.heap[S]?=some (.cells (A++(zf r++Z)).toArray T (0,0))->X.grownBy Y (some S)->Y.heap.size=X.heap.size->K Y) :
  SatR ((storeVar 76 ⟨S,0+o,none⟩ (.agg (zf r).toArray)).run PG X) fun _ w'=>K w':=by
 rw[UQ];refine zad k76 h (o:=o) (v := .agg (zf r).toArray) (zg _) (by show o+(zf r).length<=(A++(zf r0++Z)).length;rw[lap,lap,zg,zg];omega) (zH _) fun Y a e d=>k Y (a.trans ?_) e d;show some (Obj.cells ((A++(zf r0++Z)).take o++zf r++(A++(zf r0++Z)).drop (o+(zf r).length)).toArray T (0,0))=_;congr 3;rw[<- hA,List.take_left,zg,KN,<- Uh,Ui,<- zg r0,Ui]
theorem zw2{m:UInt8}(hk:zbb m.toNat=true)(fx:ExH w b x q c)(hv:ExW w x q)(hT:Tz64M w):CB 165 #[u8 m,At0 b] w (.agg (zf (zaz m.toNat x)).toArray):=by
 refine qA 35 [u8 m,At0 b] (.c .p (.c .p (.c .p (.c .p (.c .p .p))))) Tryz.func165 ?_;obtain⟨L,hL⟩:=nm (w.heap.size);have hn:=hv.n;refine⟨Unit,fun _=>⟨[(1,At0 b),(2,At0 L),(4,At0 (L+1))],[]⟩,fun _ X=>X.heap[L]?=some (.cells #[u8 m] 5 (0,0))/\qb X (L+1) zC/\X.heap.size=L+2/\Bw w X,?_,?_⟩
 ·have s1:=wz w (.cells #[u8 m] 5);have h2:=zt (w.alloc (.cells #[u8 m] 5)) (.cells (zf zC).toArray 76);have s2:=wz (w.alloc (.cells #[u8 m] 5)) (.cells (zf zC).toArray 76);rw[s1] at h2 s2;have b1:Bw w (w.alloc (.cells #[u8 m] 5)):=zba w _;exact⟨(),⟨.cons rfl (.cons (by rw[hL];rfl) (.cons (by rw[hL,<- s1];rfl) .nil)),rfl⟩,by rw[hL];exact qO _ (zt w _),by rw[hL];exact h2,by rw[hL];exact s2,b1.alloc b1.size _⟩
 rintro _ X ⟨fM,f0,sX,hbX⟩;have fX:=zb hbX fx;refine⟨Unit,fun _=>⟨[(1,At0 b),(2,At0 L),(4,At0 (L+1)),(5,At0 (L+3))],[]⟩,fun _ Y=>Y.heap[L+2]?=some (.cells (exC x q c++(zf zC++(zf zC++zf zC))).toArray 311 (0,0))/\Y.heap[L+3]?=some (.cells #[At0 (L+2)] 309 (0,0))/\Y.heap.size=L+4/\Bw X Y,?_,?_⟩
 ·refine⟨exC x q c,zW _ _ _,za fX,hlt fX,?_⟩;refine⟨exC x q c++(zf zC++(zf zC++zf zC)),by kernel_rfl,?_⟩;have s3:=wz X (.cells (exC x q c++(zf zC++(zf zC++zf zC))).toArray 311);refine zo (X:=X.alloc (.cells (exC x q c++(zf zC++(zf zC++zf zC))).toArray 311)) (v := .pointer (some ⟨X.heap.size,0,none⟩)) zyx rfl rfl rfl fun Z hbZ fZ sZ=>?_;rw[s3] at fZ sZ;rw[sX] at fZ sZ s3;have b1:Bw X (X.alloc (.cells (exC x q c++(zf zC++(zf zC++zf zC))).toArray 311)):=zba X _;refine⟨(),⟨.cons rfl (.cons rfl (.cons rfl (.cons (by rw[<- s3];rfl) .nil))),rfl⟩,?_,fZ,sZ,(zst b1 hbZ)⟩;refine zb hbZ ?_;rw[<- sX];exact zt X _
 rintro _ Y ⟨fS,fP,sY,hbY⟩;have hbwY:=zst hbX hbY;have fY:=zb hbwY fx;replace fM:=zb hbY fM;replace f0:=zb hbY f0;have hwX:=hbX.size;have hbL:b<L:=by rw[hL];exact hlt fx
 refine⟨Unit,fun _=>⟨[(1,At0 b),(2,At0 L),(4,At0 (L+1)),(5,At0 (L+3))],[]⟩,fun _ Z=>ScnV Z (L+2) x q c (zV x 3) (zV x 4) (zV x 5)/\Z.heap[L+3]?=some (.cells #[At0 (L+2)] 309 (0,0))/\Z.heap[L]?=some (.cells #[u8 m] 5 (0,0))/\qb Z (L+1) zC/\ExH Z b x q c/\L+4<=Z.heap.size/\Bw w Z,?_,?_⟩
 ·have dY:Bw Y Y.drew:=(Gb _ _).drew;obtain⟨Y1,hY1⟩:=nm (Y.drew);have bY1:Bw Y Y1:=by rw[hY1];exact dY
  have ld0:∀{W},Bw Y W->W.cell? ⟨L+3,0,none⟩=some (At0 (L+2)):=fun hW=>by
   have h2:=zc (za (zb hW fP)) (i:=0) (v:=At0 (L+2)) rfl;exact h2
  have fen:∀(md:UInt8) {W},Bw Y W->CB 215 #[At0 b,u8 md] W (.agg (zf (zV x md)).toArray):=fun md {W} hW =>
   have h2:=zst hbwY hW
   zti (zb h2 fx) (hv.below h2) (hT.below h2)
  have ld1:∀W,(∃C,Bw Y C/\C.grownBy W (some (L+2)))->W.cell? ⟨L+3,0,none⟩=some (At0 (L+2)):=fun W ⟨C,bC,hW⟩=>by
   have fPC:=zb bC fP;have:=(hW.block (L+3) (hlt fPC) (by simp)).trans fPC;have h2:=zc (za this) (i:=0) (v:=At0 (L+2)) rfl;exact h2
  have s1:∀{C},Bw Y C->∀{K:Wd->Prop},(∀D,(D.heap[L+2]?=some (.cells ((exC x q c++zf (zV x 3))++(zf zC++zf zC)).toArray 311 (0,0))/\∃C,Bw Y C/\C.grownBy D (some (L+2)))->K D)->SatR ((storeVar 76 ⟨L+2,0+333,none⟩ (.agg (zf (zV x 3)).toArray)).run PG C) fun _ w'=>K w':=fun{C} bC {K} k =>
   zk1 (o:=333) (A:=exC x q c) (Z:=zf zC++zf zC) (r:=zV x 3) (zb bC fS) (zW _ _ _) fun D fD gD sD=>k D ⟨by rw[fD];simp only[KN],C,bC,gD⟩
  have s2:∀D,(D.heap[L+2]?=some (.cells ((exC x q c++zf (zV x 3))++(zf zC++zf zC)).toArray 311 (0,0))/\∃C,Bw Y C/\C.grownBy D (some (L+2)))->∀{K:Wd->Prop},(∀F,(F.heap[L+2]?=some (.cells ((exC x q c++(zf (zV x 3)++zf (zV x 4)))++(zf zC++[])).toArray 311 (0,0))/\∃C,Bw Y C/\C.grownBy F (some (L+2)))->K F)->SatR ((storeVar 76 ⟨L+2,0+382,none⟩ (.agg (zf (zV x 4)).toArray)).run PG D) fun _ w'=>K w':=fun D ⟨fD,C,bC,gD⟩ {K} k =>
   zk1 (o:=382) (A:=exC x q c++zf (zV x 3)) (Z:=zf zC) (r:=zV x 4) fD (by rw[lap,zW,zg]) fun F fF gF sF=>k F ⟨by rw[fF];simp only[KN,QG],C,bC,zd gD gF⟩
  have pw:∀md,zK (zV x md).to:=fun md=>zdR (zdR hv.po fun i hi=>by
   unfold idR;refine zeL (fun i _ h48=>?_) i hi;exact KF Qu (qc (by omega))) hv.po
  have s3:∀F,(F.heap[L+2]?=some (.cells ((exC x q c++(zf (zV x 3)++zf (zV x 4)))++(zf zC++[])).toArray 311 (0,0))/\∃C,Bw Y C/\C.grownBy F (some (L+2)))->∀{K:Wd->Prop},(∀G,(ScnV G (L+2) x q c (zV x 3) (zV x 4) (zV x 5)/\G.heap[L+3]?=some (.cells #[At0 (L+2)] 309 (0,0))/\G.heap[L]?=some (.cells #[u8 m] 5 (0,0))/\qb G (L+1) zC/\ExH G b x q c/\L+4<=G.heap.size/\Bw w G)->K G)->SatR ((storeVar 76 ⟨L+2,0+431,none⟩ (.agg (zf (zV x 5)).toArray)).run PG F) fun _ w'=>K w':=fun F ⟨fF,C,bC,gF⟩ {K} k =>
   zk1 (o:=431) (A:=exC x q c++(zf (zV x 3)++zf (zV x 4))) (Z:=[]) (r:=zV x 5) fF (by rw[lap,lap,zW,zg,zg]) fun G fG gG sG=>k G (by
    have gCG:C.grownBy G (some (L+2)):=zd gF gG;have bwC:=zst hbwY bC;have bCG:Below w.heap.size C G:=zl gCG bwC.size (by omega);have bwG:Bw w G:=bwC.trans bCG;have keep:∀{j:Nat} {o:Obj},j≠L+2->Y.heap[j]?=some o->G.heap[j]?=some o:=fun{j o} hj h=>by
     have h2:=zb bC h;exact(gCG.block j (hlt h2) (by simpa using hj)).trans h2
    refine⟨⟨?_,hv.below bwG,pw 3,pw 4,pw 5⟩,keep (by omega) fP,keep (by omega) fM,keep (by omega) f0,keep (by omega) fY,by have:=bC.size;have:=gCG.size;omega,bwG⟩;rw[fG];simp only[KN,QG])
  refine DrawE.treeR [11,14,17] (.op 0 (.op 3 (.op 5 (.op 7 (.alt (.op 4 (.alt (.op 6 (.alt (.op 8 (.op 9 (.op 10 (.alt (.op 11 (.alt (.op 1 (.op 12 (.op 13 (.alt (.op 14 (.op 2 (.op 15 (.op 16 (.op 17 (.nil)))))) (.op 2 (.op 14 (.op 15 (.op 16 (.op 17 (.nil)))))))))) (.op 2 (.op 1 (.op 12 (.op 13 (.op 14 (.op 15 (.op 16 (.op 17 (.nil))))))))))) (.alt (.op 1 (.alt (.op 11 (.op 12 (.op 13 (.alt (.op 14 (.op 2 (.op 15 (.op 16 (.op 17 (.nil)))))) (.op 2 (.op 14 (.op 15 (.op 16 (.op 17 (.nil)))))))))) (.op 2 (.op 11 (.op 12 (.op 13 (.op 14 (.op 15 (.op 16 (.op 17 (.nil))))))))))) (.op 2 (.alt (.op 11 (.op 1 (.op 12 (.op 13 (.op 14 (.op 15 (.op 16 (.op 17 (.nil))))))))) (.op 1 (.op 11 (.op 12 (.op 13 (.op 14 (.op 15 (.op 16 (.op 17 (.nil)))))))))))))))) (.alt (.op 1 (.alt (.op 8 (.op 9 (.op 10 (.alt (.op 11 (.op 12 (.op 13 (.alt (.op 14 (.op 2 (.op 15 (.op 16 (.op 17 (.nil)))))) (.op 2 (.op 14 (.op 15 (.op 16 (.op 17 (.nil)))))))))) (.op 2 (.op 11 (.op 12 (.op 13 (.op 14 (.op 15 (.op 16 (.op 17 (.nil))))))))))))) (.op 2 (.op 8 (.op 9 (.op 10 (.op 11 (.op 12 (.op 13 (.op 14 (.op 15 (.op 16 (.op 17 (.nil)))))))))))))) (.op 2 (.alt (.op 8 (.op 9 (.op 10 (.alt (.op 11 (.op 1 (.op 12 (.op 13 (.op 14 (.op 15 (.op 16 (.op 17 (.nil))))))))) (.op 1 (.op 11 (.op 12 (.op 13 (.op 14 (.op 15 (.op 16 (.op 17 (.nil))))))))))))) (.op 1 (.op 8 (.op 9 (.op 10 (.op 11 (.op 12 (.op 13 (.op 14 (.op 15 (.op 16 (.op 17 (.nil))))))))))))))))) (.alt (.op 1 (.alt (.op 6 (.alt (.op 8 (.op 9 (.op 10 (.alt (.op 11 (.op 12 (.op 13 (.alt (.op 14 (.op 2 (.op 15 (.op 16 (.op 17 (.nil)))))) (.op 2 (.op 14 (.op 15 (.op 16 (.op 17 (.nil)))))))))) (.op 2 (.op 11 (.op 12 (.op 13 (.op 14 (.op 15 (.op 16 (.op 17 (.nil))))))))))))) (.op 2 (.op 8 (.op 9 (.op 10 (.op 11 (.op 12 (.op 13 (.op 14 (.op 15 (.op 16 (.op 17 (.nil)))))))))))))) (.op 2 (.op 6 (.op 8 (.op 9 (.op 10 (.op 11 (.op 12 (.op 13 (.op 14 (.op 15 (.op 16 (.op 17 (.nil))))))))))))))) (.op 2 (.alt (.op 6 (.alt (.op 8 (.op 9 (.op 10 (.alt (.op 11 (.op 1 (.op 12 (.op 13 (.op 14 (.op 15 (.op 16 (.op 17 (.nil))))))))) (.op 1 (.op 11 (.op 12 (.op 13 (.op 14 (.op 15 (.op 16 (.op 17 (.nil))))))))))))) (.op 1 (.op 8 (.op 9 (.op 10 (.op 11 (.op 12 (.op 13 (.op 14 (.op 15 (.op 16 (.op 17 (.nil)))))))))))))) (.op 1 (.op 6 (.op 8 (.op 9 (.op 10 (.op 11 (.op 12 (.op 13 (.op 14 (.op 15 (.op 16 (.op 17 (.nil)))))))))))))))))) (.alt (.op 1 (.alt (.op 4 (.alt (.op 6 (.alt (.op 8 (.op 9 (.op 10 (.alt (.op 11 (.op 12 (.op 13 (.alt (.op 14 (.op 2 (.op 15 (.op 16 (.op 17 (.nil)))))) (.op 2 (.op 14 (.op 15 (.op 16 (.op 17 (.nil)))))))))) (.op 2 (.op 11 (.op 12 (.op 13 (.op 14 (.op 15 (.op 16 (.op 17 (.nil))))))))))))) (.op 2 (.op 8 (.op 9 (.op 10 (.op 11 (.op 12 (.op 13 (.op 14 (.op 15 (.op 16 (.op 17 (.nil)))))))))))))) (.op 2 (.op 6 (.op 8 (.op 9 (.op 10 (.op 11 (.op 12 (.op 13 (.op 14 (.op 15 (.op 16 (.op 17 (.nil))))))))))))))) (.op 2 (.op 4 (.op 6 (.op 8 (.op 9 (.op 10 (.op 11 (.op 12 (.op 13 (.op 14 (.op 15 (.op 16 (.op 17 (.nil)))))))))))))))) (.op 2 (.alt (.op 4 (.alt (.op 6 (.alt (.op 8 (.op 9 (.op 10 (.alt (.op 11 (.op 1 (.op 12 (.op 13 (.op 14 (.op 15 (.op 16 (.op 17 (.nil))))))))) (.op 1 (.op 11 (.op 12 (.op 13 (.op 14 (.op 15 (.op 16 (.op 17 (.nil))))))))))))) (.op 1 (.op 8 (.op 9 (.op 10 (.op 11 (.op 12 (.op 13 (.op 14 (.op 15 (.op 16 (.op 17 (.nil)))))))))))))) (.op 1 (.op 6 (.op 8 (.op 9 (.op 10 (.op 11 (.op 12 (.op 13 (.op 14 (.op 15 (.op 16 (.op 17 (.nil))))))))))))))) (.op 1 (.op 4 (.op 6 (.op 8 (.op 9 (.op 10 (.op 11 (.op 12 (.op 13 (.op 14 (.op 15 (.op 16 (.op 17 (.nil)))))))))))))))))))))) (by kernel_rfl) ?_;rw[<- hY1];refine⟨At0 (L+2),ld0 bY1,?_⟩;refine Gf ?_ (Gf ?_ ?_)
  ·refine cmo (fen 3 bY1) ?_;rintro e A ⟨rfl,hbA⟩;refine⟨hbA,?_⟩;have bA:=zst bY1 hbA;refine Gf ?_ (Gf ?_ ?_)
   ·refine cmo (fen 4 bA) ?_;rintro e B ⟨rfl,hbB⟩;refine⟨hbB,?_⟩;have bB:=zst bA hbB;refine Gf ?_ (Gf ?_ ?_)
    ·refine cmo (fen 5 bB) ?_;rintro e C ⟨rfl,hbC⟩;refine⟨hbC,?_⟩;have bC:=zst bB hbC;refine Gf ?_ (Gf ?_ ?_)
     ·refine s1 bC fun D hD=>?_;refine Gf ?_ ?_
      ·refine⟨At0 (L+2),ld1 D hD.2,?_⟩;refine Gf ?_ ?_
       ·refine s2 D hD fun F hF=>?_;refine⟨At0 (L+2),ld1 F hF.2,?_⟩;refine s3 F hF fun G hG=>?_;exact⟨(),(cvE rfl rfl),hG⟩
       ·refine⟨At0 (L+2),ld1 D hD.2,?_⟩;refine s2 D hD fun F hF=>?_;refine s3 F hF fun G hG=>?_;exact⟨(),(cvE rfl rfl),hG⟩
      ·refine⟨At0 (L+2),ld1 D hD.2,?_⟩;refine⟨At0 (L+2),ld1 D hD.2,?_⟩;refine s2 D hD fun F hF=>?_;refine s3 F hF fun G hG=>?_;exact⟨(),(cvE rfl rfl),hG⟩
     ·refine⟨At0 (L+2),ld0 bC,?_⟩;refine Gf ?_ ?_
      ·refine s1 bC fun D hD=>?_;refine Gf ?_ ?_
       ·refine s2 D hD fun F hF=>?_;refine⟨At0 (L+2),ld1 F hF.2,?_⟩;refine s3 F hF fun G hG=>?_;exact⟨(),(cvE rfl rfl),hG⟩
       ·refine⟨At0 (L+2),ld1 D hD.2,?_⟩;refine s2 D hD fun F hF=>?_;refine s3 F hF fun G hG=>?_;exact⟨(),(cvE rfl rfl),hG⟩
      ·refine⟨At0 (L+2),ld0 bC,?_⟩;refine s1 bC fun D hD=>?_;refine s2 D hD fun F hF=>?_;refine s3 F hF fun G hG=>?_;exact⟨(),(cvE rfl rfl),hG⟩
     ·refine⟨At0 (L+2),ld0 bC,?_⟩;refine Gf ?_ ?_
      ·refine s1 bC fun D hD=>?_;refine⟨At0 (L+2),ld1 D hD.2,?_⟩;refine s2 D hD fun F hF=>?_;refine s3 F hF fun G hG=>?_;exact⟨(),(cvE rfl rfl),hG⟩
      ·refine⟨At0 (L+2),ld0 bC,?_⟩;refine s1 bC fun D hD=>?_;refine s2 D hD fun F hF=>?_;refine s3 F hF fun G hG=>?_;exact⟨(),(cvE rfl rfl),hG⟩
    ·refine⟨At0 (L+2),ld0 bB,?_⟩;refine Gf ?_ ?_
     ·refine cmo (fen 5 bB) ?_;rintro e C ⟨rfl,hbC⟩;refine⟨hbC,?_⟩;have bC:=zst bB hbC;refine Gf ?_ ?_
      ·refine s1 bC fun D hD=>?_;refine Gf ?_ ?_
       ·refine s2 D hD fun F hF=>?_;refine⟨At0 (L+2),ld1 F hF.2,?_⟩;refine s3 F hF fun G hG=>?_;exact⟨(),(cvE rfl rfl),hG⟩
       ·refine⟨At0 (L+2),ld1 D hD.2,?_⟩;refine s2 D hD fun F hF=>?_;refine s3 F hF fun G hG=>?_;exact⟨(),(cvE rfl rfl),hG⟩
      ·refine⟨At0 (L+2),ld0 bC,?_⟩;refine s1 bC fun D hD=>?_;refine s2 D hD fun F hF=>?_;refine s3 F hF fun G hG=>?_;exact⟨(),(cvE rfl rfl),hG⟩
     ·refine⟨At0 (L+2),ld0 bB,?_⟩;refine cmo (fen 5 bB) ?_;rintro e C ⟨rfl,hbC⟩;refine⟨hbC,?_⟩;have bC:=zst bB hbC;refine s1 bC fun D hD=>?_;refine s2 D hD fun F hF=>?_;refine s3 F hF fun G hG=>?_;exact⟨(),(cvE rfl rfl),hG⟩
    ·refine⟨At0 (L+2),ld0 bB,?_⟩;refine Gf ?_ ?_
     ·refine cmo (fen 5 bB) ?_;rintro e C ⟨rfl,hbC⟩;refine⟨hbC,?_⟩;have bC:=zst bB hbC;refine Gf ?_ ?_
      ·refine s1 bC fun D hD=>?_;refine⟨At0 (L+2),ld1 D hD.2,?_⟩;refine s2 D hD fun F hF=>?_;refine s3 F hF fun G hG=>?_;exact⟨(),(cvE rfl rfl),hG⟩
      ·refine⟨At0 (L+2),ld0 bC,?_⟩;refine s1 bC fun D hD=>?_;refine s2 D hD fun F hF=>?_;refine s3 F hF fun G hG=>?_;exact⟨(),(cvE rfl rfl),hG⟩
     ·refine⟨At0 (L+2),ld0 bB,?_⟩;refine cmo (fen 5 bB) ?_;rintro e C ⟨rfl,hbC⟩;refine⟨hbC,?_⟩;have bC:=zst bB hbC;refine s1 bC fun D hD=>?_;refine s2 D hD fun F hF=>?_;refine s3 F hF fun G hG=>?_;exact⟨(),(cvE rfl rfl),hG⟩
   ·refine⟨At0 (L+2),ld0 bA,?_⟩;refine Gf ?_ ?_
    ·refine cmo (fen 4 bA) ?_;rintro e B ⟨rfl,hbB⟩;refine⟨hbB,?_⟩;have bB:=zst bA hbB;refine Gf ?_ ?_
     ·refine cmo (fen 5 bB) ?_;rintro e C ⟨rfl,hbC⟩;refine⟨hbC,?_⟩;have bC:=zst bB hbC;refine Gf ?_ ?_
      ·refine s1 bC fun D hD=>?_;refine Gf ?_ ?_
       ·refine s2 D hD fun F hF=>?_;refine⟨At0 (L+2),ld1 F hF.2,?_⟩;refine s3 F hF fun G hG=>?_;exact⟨(),(cvE rfl rfl),hG⟩
       ·refine⟨At0 (L+2),ld1 D hD.2,?_⟩;refine s2 D hD fun F hF=>?_;refine s3 F hF fun G hG=>?_;exact⟨(),(cvE rfl rfl),hG⟩
      ·refine⟨At0 (L+2),ld0 bC,?_⟩;refine s1 bC fun D hD=>?_;refine s2 D hD fun F hF=>?_;refine s3 F hF fun G hG=>?_;exact⟨(),(cvE rfl rfl),hG⟩
     ·refine⟨At0 (L+2),ld0 bB,?_⟩;refine cmo (fen 5 bB) ?_;rintro e C ⟨rfl,hbC⟩;refine⟨hbC,?_⟩;have bC:=zst bB hbC;refine s1 bC fun D hD=>?_;refine s2 D hD fun F hF=>?_;refine s3 F hF fun G hG=>?_;exact⟨(),(cvE rfl rfl),hG⟩
    ·refine⟨At0 (L+2),ld0 bA,?_⟩;refine cmo (fen 4 bA) ?_;rintro e B ⟨rfl,hbB⟩;refine⟨hbB,?_⟩;have bB:=zst bA hbB;refine cmo (fen 5 bB) ?_;rintro e C ⟨rfl,hbC⟩;refine⟨hbC,?_⟩;have bC:=zst bB hbC;refine s1 bC fun D hD=>?_;refine s2 D hD fun F hF=>?_;refine s3 F hF fun G hG=>?_;exact⟨(),(cvE rfl rfl),hG⟩
   ·refine⟨At0 (L+2),ld0 bA,?_⟩;refine Gf ?_ ?_
    ·refine cmo (fen 4 bA) ?_;rintro e B ⟨rfl,hbB⟩;refine⟨hbB,?_⟩;have bB:=zst bA hbB;refine Gf ?_ ?_
     ·refine cmo (fen 5 bB) ?_;rintro e C ⟨rfl,hbC⟩;refine⟨hbC,?_⟩;have bC:=zst bB hbC;refine Gf ?_ ?_
      ·refine s1 bC fun D hD=>?_;refine⟨At0 (L+2),ld1 D hD.2,?_⟩;refine s2 D hD fun F hF=>?_;refine s3 F hF fun G hG=>?_;exact⟨(),(cvE rfl rfl),hG⟩
      ·refine⟨At0 (L+2),ld0 bC,?_⟩;refine s1 bC fun D hD=>?_;refine s2 D hD fun F hF=>?_;refine s3 F hF fun G hG=>?_;exact⟨(),(cvE rfl rfl),hG⟩
     ·refine⟨At0 (L+2),ld0 bB,?_⟩;refine cmo (fen 5 bB) ?_;rintro e C ⟨rfl,hbC⟩;refine⟨hbC,?_⟩;have bC:=zst bB hbC;refine s1 bC fun D hD=>?_;refine s2 D hD fun F hF=>?_;refine s3 F hF fun G hG=>?_;exact⟨(),(cvE rfl rfl),hG⟩
    ·refine⟨At0 (L+2),ld0 bA,?_⟩;refine cmo (fen 4 bA) ?_;rintro e B ⟨rfl,hbB⟩;refine⟨hbB,?_⟩;have bB:=zst bA hbB;refine cmo (fen 5 bB) ?_;rintro e C ⟨rfl,hbC⟩;refine⟨hbC,?_⟩;have bC:=zst bB hbC;refine s1 bC fun D hD=>?_;refine s2 D hD fun F hF=>?_;refine s3 F hF fun G hG=>?_;exact⟨(),(cvE rfl rfl),hG⟩
  ·refine⟨At0 (L+2),ld0 bY1,?_⟩;refine Gf ?_ ?_
   ·refine cmo (fen 3 bY1) ?_;rintro e A ⟨rfl,hbA⟩;refine⟨hbA,?_⟩;have bA:=zst bY1 hbA;refine Gf ?_ ?_
    ·refine cmo (fen 4 bA) ?_;rintro e B ⟨rfl,hbB⟩;refine⟨hbB,?_⟩;have bB:=zst bA hbB;refine Gf ?_ ?_
     ·refine cmo (fen 5 bB) ?_;rintro e C ⟨rfl,hbC⟩;refine⟨hbC,?_⟩;have bC:=zst bB hbC;refine Gf ?_ ?_
      ·refine s1 bC fun D hD=>?_;refine Gf ?_ ?_
       ·refine s2 D hD fun F hF=>?_;refine⟨At0 (L+2),ld1 F hF.2,?_⟩;refine s3 F hF fun G hG=>?_;exact⟨(),(cvE rfl rfl),hG⟩
       ·refine⟨At0 (L+2),ld1 D hD.2,?_⟩;refine s2 D hD fun F hF=>?_;refine s3 F hF fun G hG=>?_;exact⟨(),(cvE rfl rfl),hG⟩
      ·refine⟨At0 (L+2),ld0 bC,?_⟩;refine s1 bC fun D hD=>?_;refine s2 D hD fun F hF=>?_;refine s3 F hF fun G hG=>?_;exact⟨(),(cvE rfl rfl),hG⟩
     ·refine⟨At0 (L+2),ld0 bB,?_⟩;refine cmo (fen 5 bB) ?_;rintro e C ⟨rfl,hbC⟩;refine⟨hbC,?_⟩;have bC:=zst bB hbC;refine s1 bC fun D hD=>?_;refine s2 D hD fun F hF=>?_;refine s3 F hF fun G hG=>?_;exact⟨(),(cvE rfl rfl),hG⟩
    ·refine⟨At0 (L+2),ld0 bA,?_⟩;refine cmo (fen 4 bA) ?_;rintro e B ⟨rfl,hbB⟩;refine⟨hbB,?_⟩;have bB:=zst bA hbB;refine cmo (fen 5 bB) ?_;rintro e C ⟨rfl,hbC⟩;refine⟨hbC,?_⟩;have bC:=zst bB hbC;refine s1 bC fun D hD=>?_;refine s2 D hD fun F hF=>?_;refine s3 F hF fun G hG=>?_;exact⟨(),(cvE rfl rfl),hG⟩
   ·refine⟨At0 (L+2),ld0 bY1,?_⟩;refine cmo (fen 3 bY1) ?_;rintro e A ⟨rfl,hbA⟩;refine⟨hbA,?_⟩;have bA:=zst bY1 hbA;refine cmo (fen 4 bA) ?_;rintro e B ⟨rfl,hbB⟩;refine⟨hbB,?_⟩;have bB:=zst bA hbB;refine cmo (fen 5 bB) ?_;rintro e C ⟨rfl,hbC⟩;refine⟨hbC,?_⟩;have bC:=zst bB hbC;refine s1 bC fun D hD=>?_;refine s2 D hD fun F hF=>?_;refine s3 F hF fun G hG=>?_;exact⟨(),(cvE rfl rfl),hG⟩
  ·refine⟨At0 (L+2),ld0 bY1,?_⟩;refine Gf ?_ ?_
   ·refine cmo (fen 3 bY1) ?_;rintro e A ⟨rfl,hbA⟩;refine⟨hbA,?_⟩;have bA:=zst bY1 hbA;refine Gf ?_ ?_
    ·refine cmo (fen 4 bA) ?_;rintro e B ⟨rfl,hbB⟩;refine⟨hbB,?_⟩;have bB:=zst bA hbB;refine Gf ?_ ?_
     ·refine cmo (fen 5 bB) ?_;rintro e C ⟨rfl,hbC⟩;refine⟨hbC,?_⟩;have bC:=zst bB hbC;refine Gf ?_ ?_
      ·refine s1 bC fun D hD=>?_;refine⟨At0 (L+2),ld1 D hD.2,?_⟩;refine s2 D hD fun F hF=>?_;refine s3 F hF fun G hG=>?_;exact⟨(),(cvE rfl rfl),hG⟩
      ·refine⟨At0 (L+2),ld0 bC,?_⟩;refine s1 bC fun D hD=>?_;refine s2 D hD fun F hF=>?_;refine s3 F hF fun G hG=>?_;exact⟨(),(cvE rfl rfl),hG⟩
     ·refine⟨At0 (L+2),ld0 bB,?_⟩;refine cmo (fen 5 bB) ?_;rintro e C ⟨rfl,hbC⟩;refine⟨hbC,?_⟩;have bC:=zst bB hbC;refine s1 bC fun D hD=>?_;refine s2 D hD fun F hF=>?_;refine s3 F hF fun G hG=>?_;exact⟨(),(cvE rfl rfl),hG⟩
    ·refine⟨At0 (L+2),ld0 bA,?_⟩;refine cmo (fen 4 bA) ?_;rintro e B ⟨rfl,hbB⟩;refine⟨hbB,?_⟩;have bB:=zst bA hbB;refine cmo (fen 5 bB) ?_;rintro e C ⟨rfl,hbC⟩;refine⟨hbC,?_⟩;have bC:=zst bB hbC;refine s1 bC fun D hD=>?_;refine s2 D hD fun F hF=>?_;refine s3 F hF fun G hG=>?_;exact⟨(),(cvE rfl rfl),hG⟩
   ·refine⟨At0 (L+2),ld0 bY1,?_⟩;refine cmo (fen 3 bY1) ?_;rintro e A ⟨rfl,hbA⟩;refine⟨hbA,?_⟩;have bA:=zst bY1 hbA;refine cmo (fen 4 bA) ?_;rintro e B ⟨rfl,hbB⟩;refine⟨hbB,?_⟩;have bB:=zst bA hbB;refine cmo (fen 5 bB) ?_;rintro e C ⟨rfl,hbC⟩;refine⟨hbC,?_⟩;have bC:=zst bB hbC;refine s1 bC fun D hD=>?_;refine s2 D hD fun F hF=>?_;refine s3 F hF fun G hG=>?_;exact⟨(),(cvE rfl rfl),hG⟩
 clear fS fP sY hbwY fY fM f0 hwX fX sX hbX hbY;clear X Y;rintro _ Z ⟨hS,fP,fM,f0,fZ,sZ,hbZ⟩;refine⟨Nat,fun R=>⟨[(1,At0 b),(2,At0 L),(4,At0 (L+1)),(5,At0 (L+3)),(6,At0 R)],[]⟩,fun R Y=>Y.heap[R]?=some (.cells zdx.toArray 316 (0,0))/\Bw Z Y,?_,?_⟩
 ·refine cmo zuC ?_;rintro e Y ⟨rfl,hbY⟩;refine zo (X:=Y) (v := .agg zdx.toArray) zx1 rfl rfl rfl fun V hbV fV sV=>?_;exact⟨Y.heap.size,(cvE rfl rfl),fV,(zst hbY hbV)⟩
 rintro R Y ⟨fR,hbY⟩;have hbwY:=zst hbZ hbY;replace hS:=hS.below hbY;replace fP:=zb hbY fP;replace fM:=zb hbY fM;replace f0:=zb hbY f0;replace fZ:=zb hbY fZ;refine⟨Unit,fun _=>⟨[(4,At0 (L+1))],[]⟩,fun _ V=>qb V (L+1) (zaz m.toNat x)/\Bw w V,?_,?_⟩
 ·refine⟨_,zc (za fZ) (i:=0) rfl,?_⟩;refine cmo (zob (n:=x.ev.length) (caps := #[At0 (L+3),At0 R,At0 L]) (g:=217) (p:=fun a d=>zh x.po a d&&(zbZ x a&&(zbZ x d&&zdd m.toNat x (zV x 3) (zV x 4) (zV x 5) a d))) (by omega) (by kernel_rfl) fun a d U ha hd hb=>zu6 hk (hS.below hb) (zb hb fP) (zb hb fR) (zb hb fM) ha hd) ?_;rintro e V ⟨rfl,hbV⟩;replace f0:=zb hbV f0;refine zp (v := .agg (zf (zaz m.toNat x)).toArray) k76 f0 (zg _) (zg _) (zH _) ?_;exact⟨(),(cvE rfl rfl),zn f0,zk ((zst hbwY hbV)) (by omega) _⟩
 rintro _ V ⟨f0,hbV⟩;exact⟨zf (zaz m.toNat x),zg _,za f0,rfl,hbV⟩
end
section
variable{b c:Nat}{x:ExD}{q:OA}{w:Wd}
theorem zu5{m:UInt8}:Calls PG 82 #[u8 m] w fun e w'=>e = .returned (.bool (zbb m.toNat))/\w=w':=by
 refine zD 9 [u8 m] Tryz.func82 ?_;refine biE (fun h=>?_) fun h=>?_
 ·have h:(1:Int)<=(m.toNat:Int):=dT h;refine⟨rb ?_,rfl⟩;unfold zbb;rw[Up (by omega:1<=m.toNat),Uv];exact QC.2 (by show(m.toNat:Int)<=6↔_;omega)
 ·have h:¬(1:Int)<=(m.toNat:Int):=dF h;refine⟨rb ?_,rfl⟩;unfold zbb;rw[Ue (by omega:¬1<=m.toNat)];rfl
theorem zvm{r:RelD}(hn:r.n=x.ev.length)(h48:x.ev.length<=48):zK (zdE x r).to:=by
 unfold zdE;exact zfF (by omega)
theorem zkQ{X:Wd}{g:Nat}{a b c:RelD}(h:X.heap[g]?=some (.cells (zf a++(zf b++zf c)).toArray 76 (0,0))):SlR zwK X (some ⟨g,0,none⟩) [a,b,c] :=
 SlR.of_cells (hlt h) (by
  have:[a,b,c].flatMap zwK.enc=zf a++(zf b++zf c):=by
   rw[KR,KR,KR,Qm,QG];rfl
  rw[this];exact za h)
theorem ztO{m:UInt8}(hk:zbb m.toNat=true)(fx:ExH w b x q c)(hv:ExW w x q)(hrf:x.rf.n=x.ev.length)(hT:Tz64M w):CB 83 #[u8 m,At0 b] w (u8 (UInt8.ofNat (jl m.toNat x))):=by
 refine qA 80 [u8 m,At0 b] (.c .p (.c .p (.c .p (.c .p (.c .p (.c .p (.c .p (.c .p (.c .p (.c .p .p)))))))))) Tryz.func83 ?_;obtain⟨L,hL⟩:=nm (w.heap.size);have hn:=hv.n;obtain⟨fw,frw⟩:=ztg hv hT;have hba:∀(A:Wd) (o:Obj),Bw A (A.alloc o):=fun A o=>(zba _ _);refine⟨Unit,fun _=>⟨[(0,u8 m),(3,At0 L)],[]⟩,fun _ X=>X.heap[L]?=some (.cells #[At0 b] 134 (0,0))/\Bw w X,⟨(),⟨.cons rfl (.cons (by rw[hL];rfl) .nil),rfl⟩,by rw[hL];exact zt w _,hba w _⟩,?_⟩;rintro _ X ⟨fB,hbX⟩;refine⟨Nat,fun F=>⟨[(0,u8 m),(3,At0 L),(5,At0 F)],[]⟩,fun F Y=>qb Y F (frM x)/\Y.heap[L]?=some (.cells #[At0 b] 134 (0,0))/\Bw w Y,?_,?_⟩
 ·refine⟨_,zc (za fB) (i:=0) rfl,cmo (zyH (zb hbX fx) (hv.below hbX) (hT.below hbX)) ?_⟩;rintro e Y ⟨rfl,hbY⟩;refine zo (X:=Y) (v := .agg (zf (frM x)).toArray) k76 (zg _) (by kernel_rfl) (zH _) fun V hbV fV sV=>?_;have b1:=zst hbY hbV;exact⟨Y.heap.size,(cvE rfl rfl),fV,zb b1 fB,(zst hbX b1)⟩
 clear fB hbX;clear X;rintro F X ⟨fF,fB,hbX⟩;refine⟨Nat,fun G=>⟨[(0,u8 m),(3,At0 L),(5,At0 F),(6,At0 G)],[]⟩,fun G Y=>qb Y G (zag x)/\qb Y F (frM x)/\Y.heap[L]?=some (.cells #[At0 b] 134 (0,0))/\Bw w Y,?_,?_⟩
 ·refine⟨_,zc (za fB) (i:=0) rfl,?_⟩;have fX:=zb hbX fx;have hvX:=hv.below hbX;refine⟨_,zc (za fX) (i:=0) rfl,cmo (zob (n:=x.ev.length) (caps := #[At0 L]) (g:=156) (p:=fun a d=>zh x.po a d&&zby x a d) (by omega) (by kernel_rfl) fun a d Z ha hd hb=>zrz (zb hb fB) (zb hb fX) (hvX.below hb) ha hd) ?_⟩;rintro e Y ⟨rfl,hbY⟩;refine zo (X:=Y) (v := .agg (zf (zag x)).toArray) k76 (zg _) (by kernel_rfl) (zH _) fun V hbV fV sV=>?_;have b1:=zst hbY hbV;exact⟨Y.heap.size,(cvE rfl rfl),fV,zb b1 fF,zb b1 fB,(zst hbX b1)⟩
 clear fF fB hbX;clear X;rintro G X ⟨fG,fF,fB,hbX⟩;have lw:zK (zag x).to:=zfF (by omega);have hbr:jl m.toNat x=if zaU (qy (zag x) [x.rf,x.co,frM x])=true then(if zbG (zaZ x.rm (jq (frM x) x.co).1).1=true then(if m.toNat=1 then 0 else if zaU (qy (zaz m.toNat x) [if m.toNat=2 then x.rf else zdE x x.rf,x.co,frM x])=true then 0 else 3) else 2) else 1:=rfl
 refine⟨Unit,fun _=>⟨[(0,u8 m),(3,At0 L),(5,At0 F)],[]⟩,fun _ Y=>zaU (qy (zag x) [x.rf,x.co,frM x])=true/\qb Y F (frM x)/\Y.heap[L]?=some (.cells #[At0 b] 134 (0,0))/\Bw w Y,?_,?_⟩
 ·have dX:Bw X X.drew:=(Gb _ _).drew;have fX:=hdr (zb hbX fx);refine DrawE.ord [] [0,1,2,3,4,5,6,7,8,9,10,11,12,13] (by kernel_rfl) ⟨zf (zag x),zg _,za (hdr fG),hlt (hdr fG),_,zc (za (hdr fB)) (i:=0) rfl,zf x.rf,zg _,jQ fX (i:=1) (by decide) rfl,hlt fX,_,zc (za (hdr fB)) (i:=0) rfl,zf x.co,zg _,jQ fX (i:=2) (by decide) rfl,hlt fX,zf (frM x),zg _,za (hdr fF),hlt (hdr fF),⟨by decide,by decide,rfl⟩,zf x.rf++(zf x.co++zf (frM x)),by kernel_rfl,?_⟩;refine⟨hba _ _,?_⟩;have b1:=dX.alloc (UW _) (.cells (zf x.rf++(zf x.co++zf (frM x))).toArray 76);have hl:=zkQ (zt X.drew (.cells (zf x.rf++(zf x.co++zf (frM x))).toArray 76));have hw3:∀o∈[x.rf,x.co,frM x],zK o.to:=by
   simp only[UA,Qs,Gk,forall_eq_or_imp,forall_eq];exact⟨hv.rf,hv.co,frw⟩
  refine cmo (zkJ (l:=[x.rf,x.co,frM x]) lw hl hw3 (JQ rfl)) ?_;rintro e Y ⟨rfl,hbY⟩;refine⟨hbY,?_⟩;have b2:=zst b1 hbY;refine cmo (zeN (zdv lw hw3) (hT.below ((zst hbX b2)))) ?_;rintro e Z ⟨rfl,hbZ⟩;refine⟨hbZ,?_⟩;have b3:=zst b2 hbZ;have b4:=zst hbX b3;refine biE (fun h=>?_) fun h=>?_
  ·have h:zaU (qy (zag x) [x.rf,x.co,frM x])=false:=by
    have h:(!zaU (qy (zag x) [x.rf,x.co,frM x]))=true:=h;simpa using h
   rw[h,Gm (by decide)] at hbr;rw[hbr];exact⟨rfl,b4⟩
  ·have h:zaU (qy (zag x) [x.rf,x.co,frM x])=true:=by
    have h:(!zaU (qy (zag x) [x.rf,x.co,frM x]))=false:=h;simpa using h
   exact⟨(),(cvE rfl rfl),h,zb b3 fF,zb b3 fB,b4⟩
 clear fG fF fB hbX;clear X;rintro _ X ⟨h1,fF,fB,hbX⟩;rw[Gn h1] at hbr;clear h1 lw G;refine⟨Nat,fun G=>⟨[(0,u8 m),(3,At0 L),(5,At0 F),(7,At0 G)],[]⟩,fun G Y=>qb Y G (jq (frM x) x.co).1/\qb Y F (frM x)/\Y.heap[L]?=some (.cells #[At0 b] 134 (0,0))/\Bw w Y,?_,?_⟩
 ·have dX:Bw X X.drew:=(Gb _ _).drew;have fX:=hdr (zb hbX fx);have put:∀(W:Wd) (b3:Nat),Bw X W->qb W b3 zC->X.heap.size<=b3->∀{K:Wd->Prop},(∀Y,(qb Y b3 (jq (frM x) x.co).1/\qb Y F (frM x)/\Y.heap[L]?=some (.cells #[At0 b] 134 (0,0))/\Bw w Y)->K Y) ->
    SatR ((storeVar 76 ⟨b3,0,none⟩ (.agg (zf (jq (frM x) x.co).1).toArray)).run PG W) fun _ w'=>K w':=by
   intro W b3 hW f3 g3 K k;refine zp (v := .agg (zf (jq (frM x) x.co).1).toArray) k76 f3 (zg _) (zg _) (zH _) ?_;have hF2:=hlt fF;have hL2:=hlt fB;exact k _ ⟨zn f3,(zr (by omega)).trans (zb hW fF),(zr (by omega)).trans (zb hW fB),zk ((zst hbX hW)) (by have:=hbX.size;omega) _⟩
  refine DrawE.treeQ [10] (.op 0 (.op 1 (.op 2 (.op 3 (.op 4 (.alt (.op 9 (.op 5 (.op 6 (.op 7 (.op 8 (.op 10 (.op 11 .nil))))))) (.op 5 (.op 6 (.op 7 (.op 8 (.op 9 (.op 10 (.op 11 .nil))))))))))))) (by kernel_rfl) ⟨zf (frM x),zg _,za (hdr fF),hlt (hdr fF),_,zc (za (hdr fB)) (i:=0) rfl,zf x.co,zg _,jQ fX (i:=2) (by decide) rfl,hlt fX,Gf ?_ ?_⟩
  ·refine⟨hba _ _,?_⟩;have b1:=dX.alloc (UW _) (.cells (zf zC).toArray 76);refine cmo (zcY frw hv.co (hT.below ((zst hbX b1)))) ?_;rintro e Y ⟨rfl,hbY⟩;exact⟨hbY,put Y X.heap.size ((zst b1 hbY)) (zb hbY (zt X.drew _)) (UW _) (fun Y hY=>⟨X.heap.size,(cvE rfl rfl),hY⟩)⟩
  ·refine cmo (zcY frw hv.co (hT.below ((zst hbX dX)))) ?_;rintro e Y ⟨rfl,hbY⟩;refine⟨hbY,?_⟩;have b1:=zst dX hbY;exact⟨hba _ _,put _ Y.heap.size (b1.alloc b1.size _) (zt Y _) b1.size (fun V hV=>⟨Y.heap.size,(cvE rfl rfl),hV⟩)⟩
 clear fF fB hbX;clear X;rintro G X ⟨fG,fF,fB,hbX⟩;have tw:=zdR (a:=frM x) (b:=x.co) frw hv.co;refine⟨Nat,fun H=>⟨[(0,u8 m),(3,At0 L),(5,At0 F),(9,At0 H)],[]⟩,fun H Y=>qb Y H (zaZ x.rm (jq (frM x) x.co).1).1/\qb Y F (frM x)/\Y.heap[L]?=some (.cells #[At0 b] 134 (0,0))/\Bw w Y,?_,?_⟩
 ·have dX:Bw X X.drew:=(Gb _ _).drew;have fX:=hdr (zb hbX fx);obtain⟨tb,htb⟩:=nm ((jq (frM x) x.co).1);rw[<- htb] at fG tw ⊢;have put:∀(W:Wd) (b3:Nat),Bw X W->qb W b3 zC->X.heap.size<=b3->∀{K:Wd->Prop},(∀Y,(qb Y b3 (zaZ x.rm tb).1/\qb Y F (frM x)/\Y.heap[L]?=some (.cells #[At0 b] 134 (0,0))/\Bw w Y)->K Y) ->
    SatR ((storeVar 76 ⟨b3,0,none⟩ (.agg (zf (zaZ x.rm tb).1).toArray)).run PG W) fun _ w'=>K w':=by
   intro W b3 hW f3 g3 K k;refine zp (v := .agg (zf (zaZ x.rm tb).1).toArray) k76 f3 (zg _) (zg _) (zH _) ?_;have hF2:=hlt fF;have hL2:=hlt fB;exact k _ ⟨zn f3,(zr (by omega)).trans (zb hW fF),(zr (by omega)).trans (zb hW fB),zk ((zst hbX hW)) (by have:=hbX.size;omega) _⟩
  refine DrawE.treeQ [10] (.op 0 (.op 1 (.op 2 (.op 3 (.op 4 (.alt (.op 9 (.op 5 (.op 6 (.op 7 (.op 8 (.op 10 (.op 11 .nil))))))) (.op 5 (.op 6 (.op 7 (.op 8 (.op 9 (.op 10 (.op 11 .nil))))))))))))) (by kernel_rfl) ⟨_,zc (za (hdr fB)) (i:=0) rfl,zf x.rm,zg _,jQ fX (i:=5) (by decide) rfl,hlt fX,zf tb,zg _,za (hdr fG),hlt (hdr fG),Gf ?_ ?_⟩
  ·refine⟨hba _ _,?_⟩;have b1:=dX.alloc (UW _) (.cells (zf zC).toArray 76);refine cmo (zul hv.rm tw) ?_;rintro e Y ⟨rfl,hbY⟩;exact⟨hbY,put Y X.heap.size ((zst b1 hbY)) (zb hbY (zt X.drew _)) (UW _) (fun Y hY=>⟨X.heap.size,(cvE rfl rfl),hY⟩)⟩
  ·refine cmo (zul hv.rm tw) ?_;rintro e Y ⟨rfl,hbY⟩;refine⟨hbY,?_⟩;have b1:=zst dX hbY;exact⟨hba _ _,put _ Y.heap.size (b1.alloc b1.size _) (zt Y _) b1.size (fun V hV=>⟨Y.heap.size,(cvE rfl rfl),hV⟩)⟩
 clear fG fF fB hbX;clear X G;rintro H X ⟨fH,fF,fB,hbX⟩;refine⟨Unit,fun _=>⟨[(0,u8 m),(3,At0 L),(5,At0 F)],[]⟩,fun _ Y=>zbG (zaZ x.rm (jq (frM x) x.co).1).1=true/\qb Y F (frM x)/\Y.heap[L]?=some (.cells #[At0 b] 134 (0,0))/\Bw w Y,?_,?_⟩
 ·refine⟨zf (zaZ x.rm (jq (frM x) x.co).1).1,zg _,za fH,hlt fH,cmo (zwc (ztP hv.rm)) ?_⟩;rintro e Y ⟨rfl,hbY⟩;have b4:=zst hbX hbY;refine biE (fun h=>?_) fun h=>?_
  ·have h:zbG (zaZ x.rm (jq (frM x) x.co).1).1=false:=by
    have h:(!zbG (zaZ x.rm (jq (frM x) x.co).1).1)=true:=h;simpa using h
   rw[h,Gm (by decide)] at hbr;rw[hbr];exact⟨rfl,b4⟩
  ·have h:zbG (zaZ x.rm (jq (frM x) x.co).1).1=true:=by
    have h:(!zbG (zaZ x.rm (jq (frM x) x.co).1).1)=false:=h;simpa using h
   exact⟨(),(cvE rfl rfl),h,zb hbY fF,zb hbY fB,b4⟩
 clear fH fF fB hbX tw;clear X H;rintro _ X ⟨h1,fF,fB,hbX⟩;rw[Gn h1] at hbr;clear h1;refine⟨Unit,fun _=>⟨[(0,u8 m),(3,At0 L),(5,At0 F)],[]⟩,fun _ Y=>m.toNat≠1/\X=Y,?_,?_⟩
 ·refine biE (fun h=>?_) fun h=>?_
  ·have h:(m.toNat:Int)=1:=dT h;rw[Gn (by omega)] at hbr;rw[hbr];exact⟨rfl,hbX⟩
  ·have h:¬(m.toNat:Int)=1:=dF h;exact⟨(),(cvE rfl rfl),by omega,rfl⟩
 rintro _ _ ⟨h1,rfl⟩;rw[Gm h1] at hbr;clear h1;refine⟨Nat,fun G=>⟨[(0,u8 m),(3,At0 L),(5,At0 F),(11,At0 G)],[]⟩,fun G Y=>G≠F/\G≠L/\w.heap.size<=G/\qb Y G x.rf/\qb Y F (frM x)/\Y.heap[L]?=some (.cells #[At0 b] 134 (0,0))/\Bw w Y,?_,?_⟩
 ·have fX:=zb hbX fx;refine⟨_,zc (za fB) (i:=0) rfl,zf x.rf,zg _,jQ fX (i:=1) (by decide) rfl,hlt fX,zo (X:=X) (v := .agg (zf x.rf).toArray) k76 (zg _) (by kernel_rfl) (zH _) fun V hbV fV sV=>?_⟩;have hF2:=hlt fF;have hL2:=hlt fB;exact⟨X.heap.size,(cvE rfl rfl),by omega,by omega,hbX.size,fV,zb hbV fF,zb hbV fB,(zst hbX hbV)⟩
 clear fF fB hbX;clear X;rintro G X ⟨hGF,hGL,hGw,fG,fF,fB,hbX⟩;obtain⟨rfx,hrfx⟩:=nm (if m.toNat=2 then x.rf else zdE x x.rf);have rfw:zK rfx.to:=by
  rw[hrfx]
  split
  ·exact hv.rf
  ·exact zvm hrf (by omega)
 rw[<- hrfx] at hbr;refine⟨Unit,fun _=>⟨[(0,u8 m),(3,At0 L),(5,At0 F),(11,At0 G)],[]⟩,fun _ Y=>qb Y G rfx/\qb Y F (frM x)/\Y.heap[L]?=some (.cells #[At0 b] 134 (0,0))/\Bw w Y,?_,?_⟩
 ·have fX:=zb hbX fx;have hvX:=hv.below hbX;refine biE (fun h=>?_) fun h=>?_
  ·have h:¬m.toNat=2:=by
    have h:(!decide ((m.toNat:Int)=2))=true:=h;have h:¬(m.toNat:Int)=2:=(by simpa using h);omega
   rw[Gm h] at hrfx;refine⟨_,zc (za fB) (i:=0) rfl,zf x.rf,zg _,za fG,hlt fG,cmo (zx3 fX hvX hv.rf hrf) ?_⟩;rintro e Y ⟨rfl,hbY⟩;rw[<- hrfx];exact zp (v := .agg (zf rfx).toArray) k76 (zb hbY fG) (zg _) (zg _) (zH _) ⟨(),(cvE rfl rfl),zn (zb hbY fG),(zr (by omega)).trans (zb hbY fF),(zr (by omega)).trans (zb hbY fB),zk ((zst hbX hbY)) hGw _⟩
  ·have h:m.toNat=2:=by
    have h:(!decide ((m.toNat:Int)=2))=false:=h;have h:(m.toNat:Int)=2:=(by simpa using h);omega
   rw[Gn h] at hrfx;rw[hrfx];exact⟨(),(cvE rfl rfl),fG,fF,fB,hbX⟩
 clear fG fF fB hbX hrfx;clear X;rintro _ X ⟨fG,fF,fB,hbX⟩;have kw:zK (zaz m.toNat x).to:=zfF (by omega);have dX:Bw X X.drew:=(Gb _ _).drew;have hbD:=zst hbX dX;have hw3:∀o∈[rfx,x.co,frM x],zK o.to:=by
  simp only[UA,Qs,Gk,forall_eq_or_imp,forall_eq];exact⟨rfw,hv.co,frw⟩
 have fD:=hdr (zb hbX fx);have hk0:∀{Y:Wd},Bw X Y->CB 165 #[u8 m,At0 b] Y (.agg (zf (zaz m.toNat x)).toArray):=fun{Y} hY =>
  have h2:=zst hbX hY
  zw2 hk (zb h2 fx) (hv.below h2) (hT.below h2)
 refine DrawE.treeQ [] (.op 0 (.op 1 (.op 3 (.op 4 (.op 5 (.op 6 (.op 7 (.op 8 (.alt (.op 9 (.op 2 (.op 10 (.op 11 (.op 12 .nil))))) (.op 2 (.op 9 (.op 10 (.op 11 (.op 12 .nil)))))))))))))) (by kernel_rfl) ⟨_,zc (za (hdr fB)) (i:=0) rfl,zf rfx,zg _,za (hdr fG),hlt (hdr fG),_,zc (za (hdr fB)) (i:=0) rfl,zf x.co,zg _,jQ fD (i:=2) (by decide) rfl,hlt fD,zf (frM x),zg _,za (hdr fF),hlt (hdr fF),Gf ?_ ?_⟩
 ·refine⟨⟨by decide,by decide,rfl⟩,zf rfx++(zf x.co++zf (frM x)),by kernel_rfl,?_⟩;refine⟨hba _ _,?_⟩;have b1:=dX.alloc (UW _) (.cells (zf rfx++(zf x.co++zf (frM x))).toArray 76);have hl:=zkQ (zt X.drew (.cells (zf rfx++(zf x.co++zf (frM x))).toArray 76));refine cmo (hk0 b1) ?_;rintro e Y ⟨rfl,hbY⟩;refine⟨hbY,?_⟩;have b2:=zst b1 hbY;refine cmo (zkJ (l:=[rfx,x.co,frM x]) kw (hl.below hbY) hw3 (JQ rfl)) ?_;rintro e V ⟨rfl,hbV⟩;refine⟨hbV,?_⟩;have b3:=zst b2 hbV;refine cmo (zeN (zdv kw hw3) (hT.below ((zst hbX b3)))) ?_;rintro e Z ⟨rfl,hbZ⟩;refine⟨hbZ,?_⟩;have b5:=hbX.trans (((zst b3 hbZ)).mono hbX.size);refine biE (fun h=>?_) fun h=>?_
  ·have h:zaU (qy (zaz m.toNat x) [rfx,x.co,frM x])=false:=by
    have h:(!zaU (qy (zaz m.toNat x) [rfx,x.co,frM x]))=true:=h;simpa using h
   rw[h,Gm (by decide)] at hbr;rw[hbr];exact⟨rfl,b5⟩
  ·have h:zaU (qy (zaz m.toNat x) [rfx,x.co,frM x])=true:=by
    have h:(!zaU (qy (zaz m.toNat x) [rfx,x.co,frM x]))=false:=h;simpa using h
   rw[h,Gn rfl] at hbr;rw[hbr];exact⟨rfl,b5⟩
 ·refine cmo (hk0 dX) ?_;rintro e Y ⟨rfl,hbY⟩;refine⟨hbY,?_⟩;have b1:=zst dX hbY;refine⟨⟨by decide,by decide,rfl⟩,zf rfx++(zf x.co++zf (frM x)),by kernel_rfl,?_⟩;refine⟨hba _ _,?_⟩;have b2:=b1.alloc b1.size (.cells (zf rfx++(zf x.co++zf (frM x))).toArray 76);have hl:=zkQ (zt Y (.cells (zf rfx++(zf x.co++zf (frM x))).toArray 76));refine cmo (zkJ (l:=[rfx,x.co,frM x]) kw hl hw3 (JQ rfl)) ?_;rintro e V ⟨rfl,hbV⟩;refine⟨hbV,?_⟩;have b3:=zst b2 hbV;refine cmo (zeN (zdv kw hw3) (hT.below ((zst hbX b3)))) ?_;rintro e Z ⟨rfl,hbZ⟩;refine⟨hbZ,?_⟩;have b5:=hbX.trans (((zst b3 hbZ)).mono hbX.size);refine biE (fun h=>?_) fun h=>?_
  ·have h:zaU (qy (zaz m.toNat x) [rfx,x.co,frM x])=false:=by
    have h:(!zaU (qy (zaz m.toNat x) [rfx,x.co,frM x]))=true:=h;simpa using h
   rw[h,Gm (by decide)] at hbr;rw[hbr];exact⟨rfl,b5⟩
  ·have h:zaU (qy (zaz m.toNat x) [rfx,x.co,frM x])=true:=by
    have h:(!zaU (qy (zaz m.toNat x) [rfx,x.co,frM x]))=false:=h;simpa using h
   rw[h,Gn rfl] at hbr;rw[hbr];exact⟨rfl,b5⟩
theorem zsr(h:j0 x=true):x.rf.n=x.ev.length:=by
 unfold j0 zbg at h;simp only[Ux,List.all_nil,Bool.and_true,bAT,dE] at h;obtain⟨_,_,_,_,⟨_,a,_⟩,_⟩:=h;exact a.1
theorem zuW{A B C:Bool}{m:Nat}:(if A=true then(if B=true then(if m=1 then 0 else if C=true then 0 else 3) else 2) else 1)<=3:=by
 by_cases h:m=1 <;> cases A <;> cases B <;> cases C <;> simp[h]
theorem zrA{m:Nat}{x:ExD}:decide ((((UInt8.ofNat (jl m x)).toNat:Nat):Int)=0)=decide (jl m x=0):=by
 have h:jl m x<=3:=by
  unfold jl;exact zuW
 refine QC.2 ?_;rw[KH];omega
theorem zwa{m:UInt8}(hv:ExW w x q)(hT:Tz64M w):CB 44 #[u8 m,.agg (exC x q c).toArray] w (.bool (zaA m.toNat x)):=by
 refine qA 16 [u8 m,.agg (exC x q c).toArray] (.c .p .p) Tryz.func44 ?_;obtain⟨L,k⟩:=nm (w.heap.size);refine⟨Unit,fun _=>⟨[(0,u8 m),(3,At0 L)],[]⟩,fun _ X=>ExH X L x q c/\Bw w X,⟨(),⟨.cons rfl (.cons (by rw[k];rfl) .nil),rfl⟩,by rw[k];exact zt w _,(zba w _)⟩,?_⟩;rintro _ X ⟨j,a⟩;refine cmo zu5 ?_;rintro e _ ⟨rfl,rfl⟩;refine biE (fun f=>?_) fun f=>?_
 ·have f:zbb m.toNat=true:=f;refine⟨exC x q c,zW _ _ _,za j,hlt j,cmo (zt6 (hv.below a) (hT.below a)) ?_⟩;rintro e Y ⟨rfl,g⟩;have h:=zst a g;refine biE (fun d=>?_) fun d=>?_
  ·have d:j0 x=true:=d;refine cmo (ztO f (zb g j) (hv.below h) (zsr d) (hT.below h)) ?_;rintro e Z ⟨rfl,i⟩;refine⟨rb ?_,(zst h i)⟩;unfold zaA;rw[f,d];exact zrA
  ·have d:j0 x=false:=d;exact⟨rb (by unfold zaA;rw[d];cases zbb m.toNat <;> rfl),h⟩
 ·have f:zbb m.toNat=false:=f;exact brF ⟨rb (by unfold zaA;rw[f];rfl),a⟩
end
theorem zvs{X:Wd}{b:Nat}{x:ExD}{q:OA}{c:Nat}(fx:ExH X b x q c):zI X ⟨b,0+295,none⟩ (zx.enc (zhq x)):=by
 have h:=zP (n:=295) (m:=38) (za fx);have e:((exC x q c).toArray.toList.drop 295).take 38=zx.enc (zhq x):=by
  show((exC x q c).drop 295).take 38=_;unfold zhq;rw[zi2];obtain⟨A,d,a⟩:∃A:List Value,A.length=295/\exC x q c=A++zgK x.regs x.mem :=
   ⟨.slice q x.ev.length c::(zf x.po++(zf x.rf++(zf x.co++(zf x.dt++(zf x.ct++zf x.rm))))),by simp only[Qp,lap,zg],by simp only[exC,zgK,KN,Qi]⟩
  rw[a,<- d,Ui,JE (by rw[zth];decide)]
 rw[<- e];exact h
theorem zno(m:Nat)(l:List ExD)(x:ExD):byL m (l++[x])=byL m l++if zaA m x=true then[zhq x] else[]:=by
 unfold byL;rw[Kw,QM,Qk,List.filter_nil]
 split <;> rfl
section
variable{w:Wd}{most:Nat}
theorem zxJ{pc:List Value}(hpc:pc.length=10):CB 13 #[.agg pc.toArray,u8 7,i64 most] w (.tuple #[.slice none 0 0,i64 2]):=by
 refine zD 45 [.agg pc.toArray,u8 7,i64 most] Tryz.func13 ?_;exact brF (brT ⟨rfl,(zba w _)⟩)
end
section
variable{w:Wd}{pa pb:OA}{ca cb:Nat}{la lb:List FinV}
theorem zjq(ha:SlR zx w pa la)(hb:SlR zx w pb lb)(hn:la.length<=1000000):CB 15 #[.slice pa la.length ca,.slice pb lb.length cb] w (.bool (decide (la=lb))):=by
 refine zD 26 [.slice pa la.length ca,.slice pb lb.length cb] Tryz.func15 ?_;refine biE (fun h=>?_) fun h=>?_
 ·have h:¬la=lb:=fun e=>by subst e;have h:(!decide ((la.length:Int)=(la.length:Int)))=true:=h;simp at h
  exact⟨by rw[Ue h];rfl,Gb _ _⟩
 have s:la.length=lb.length:=by
  have h:(!decide ((la.length:Int)=(lb.length:Int)))=false:=h;have:=dT (by simpa using h:decide ((la.length:Int)=(lb.length:Int))=true);omega
 clear h;refine⟨Nat,fun k=>⟨[(0,.slice pa la.length ca),(1,.slice pb lb.length cb),(11,.slice pa la.length ca),(12,i64 la.length),(13,i64 k)],[]⟩,fun k X=>k<=la.length/\la.take k=lb.take k/\Bw w X,fun k=>la.length-k,0,
  (cvE rfl rfl),⟨UZ _,rfl,Gb _ _⟩,?_⟩
 rintro k X ⟨hk,j,n⟩;refine biE (fun h=>?_) fun h=>?_
 ·have a:k<la.length:=by have:=dT h;omega
  have b:k<lb.length:=by omega
  have f:=n.trans ((Gb X.heap.size X).drew.mono n.size);obtain⟨z,v,rfl,i,c⟩:=(ha.below f).at a;obtain⟨t,u,rfl,l,d⟩:=(hb.below f).at b;obtain⟨x,m⟩:=nm (la[k]);obtain⟨y,o⟩:=nm (lb[k]);have q:=c k a;have r:=d k b;rw[<- m] at q;rw[<- o] at r;refine DrawE.ord [] [0,1,2,3,4,5,6,7,8] (by kernel_rfl) ⟨k,rfl,a,zx.enc x,zx.len x,q,i,k,rfl,b,zx.enc y,zx.len y,r,l,_,fun w=>zmy _ _ x y w,biE (fun h=>?_) fun h=>?_⟩
  ·have h:¬x=y:=by simpa using h
   have p:¬la=lb:=fun e=>h (by subst e;rw[m,o]);exact⟨by rw[Ue p];rfl,f⟩
  ·have h:x=y:=by simpa using h
   exact⟨_,ze (by omega),k+1,(cvE rfl rfl),⟨a,by rw[tsg a,tsg b,j,<- m,<- o,h],f⟩,by dsimp only;omega⟩
 ·have g:k=la.length:=by have:=dF h;omega
  subst g;have e:la=lb:=by
   rw[Qt,s,Qt] at j;exact j
  exact⟨by rw[Up e];rfl,n⟩
end
theorem zle{c:Cnd}{l:List FinV}(h:zll l=true):zfM c l=(l.filter fun f=>qP f 20 c).length:=by
 unfold zfM;rw[zh5 (zfO h)]
theorem zoL{a:UInt8}{c:Cnd}{l:List FinV}(h:zll l=true):zhu a c l=if a=1 then decide (0<(l.filter fun f=>qP f 20 c).length) else if a=2 then decide ((l.filter fun f=>qP f 20 c).length=0) else if a=3 then decide ((l.filter fun f=>qP f 20 c).length=l.length) else false:=by
 unfold zhu;rw[zle h,zh5 (zfO h)]
def zky:List Cnd:=[.mk 1 0 0 0 [],.mk 1 1 0 0 []]
abbrev zcw:Cnd := .mk 3 0 0 0 zky
theorem zkT:zll scL=true:=by kernel_rfl
theorem zlU:zll zcQ=true:=by kernel_rfl
theorem zuz:zhu 1 zcw scL=false:=(zoL zkT).trans (by kernel_rfl)
theorem zuy:zhu 2 zcw scL=true:=(zoL zkT).trans (by kernel_rfl)
theorem zo7(a:UInt8)(h:a=1\/a=2\/a=3):zdC a zcw scL=0:=by unfold zdC;rw[Gn h,zle zkT];kernel_rfl
theorem zr4:zhu 1 zcw zcQ=true:=(zoL zlU).trans (by kernel_rfl)
theorem zr3:zdC 1 zcw zcQ=1:=by unfold zdC;rw[Gn (.inl rfl),zle zlU];kernel_rfl
def okT:List UInt8:=[48,58,114,48,61,49,32,49,58,114,48,61,49,32,120,61,49,32,121,61,49]
theorem zuw:zo3 zgW (qj 1 1)=okT:=by kernel_rfl
theorem KidsG.empty{B:Nat}{w:Wd}:KidsG B w none [] := .mk none [] (by decide) 0 0 (.inl rfl) (fun _=>none) (fun _=>0) (fun i a=>by simp at a) (fun i a=>by simp at a)
theorem zq6{X:Wd}{g:Nat}(f:X.heap[g]?=some (.cells (zu (.mk 1 0 0 0 []) none 0++zu (.mk 1 1 0 0 []) none 0).toArray 27 (0,0))):KidsG X.heap.size X (some ⟨g,0,none⟩) zky:=by
 refine .mk _ _ (by decide) g 0 (.inr ⟨rfl,hlt f,_,_,f⟩) (fun _=>none) (fun _=>0) (fun i a=>?_) (fun i a=>?_)
 ·match i,a with
  | 0,_=>exact zP (n:=0) (m:=5) (za f)
  | 1,_=>exact zP (n:=5) (m:=5) (za f)
 ·match i,a with
  | 0,_=>exact .empty
  | 1,_=>exact .empty
section
variable{w:Wd}
abbrev FsV (X:Wd) (l:List FinV) (s:OA×Nat):Prop:=SlR zx X s.1 l/\(s.1=none->s.2=0)
theorem zsA{E:Enc FinV}{T B c:Nat}{w:Wd}{q:OA}{l:List FinV}(h:OwnS E T B w q c l):q=none->c=0:=fun e=>by
 rcases h.inv with⟨_,a,_⟩ | ⟨g,b,a,_⟩
 ·exact a
 ·rw[e] at a;cases a
theorem FsV.below{X Y:Wd}{l:List FinV}{s:OA×Nat}(h:FsV X l s)(hb:Bw X Y):FsV Y l s:=⟨h.1.below hb,h.2⟩
end
theorem zvU{b o:Nat}{w:Wd}:Calls PG 29 #[.pointer (some ⟨b,o,none⟩)] w fun e w'=>e = .returned (.func (.func 67) #[] #[At0 w.heap.size])/\w'.heap[w.heap.size]?=some (.cells #[.pointer (some ⟨b,o,none⟩)] 148 (0,0))/\w'.heap.size=w.heap.size+1/\Bw w w':=by
 refine zD 4 [.pointer (some ⟨b,o,none⟩)] Tryz.func29 ?_;exact⟨rfl,zt w _,wz _ _,(zba w _)⟩
def zv8 (B:Nat) (F:Nat->Prop) (Y:Wd) (x:zlp):Prop:=OwnS evE 80 B Y x.2.1 x.2.2 x.1.ev/\∀a,x.2.1=some a->F a.block
theorem zgC(B:Nat):zkB 78 32 (zv8 B):=by
 rintro F G Y Z x ⟨e,d⟩ g f;refine⟨e.same fun a b=>?_,fun a b=>f _ (d a b)⟩;obtain⟨_,_,c,h⟩:=zz e b;exact g _ c _ (d a b) h (by decide) (by decide)
theorem znB{B B1 bx c0:Nat}{p0:OA}{l0:List zlp}{xs:List ExD}{w W0:Wd}{Rd:Nat->Prop}{pm:Value}(ho:OwnS exE 78 B w p0 c0 l0)(hn:∀x∈l0,OwnS evE 80 B w x.2.1 x.2.2 x.1.ev)(hB:B<=w.heap.size)
  (hI:zub PG 67 [At0 bx] xs W0 Rd (StX B1) GvX) (hW0:W0.heap.size<=w.heap.size) (hRd:∀k,Rd k->k<W0.heap.size/\w.heap[k]?=W0.heap[k]?) (hRB:∀k,Rd k->k<B\/k=bx) (fb:w.heap[bx]?=some (.cells #[pm] 148 (0,0))) (hB1:B<=B1) (hlen:l0.length+xs.length<=30000) :
  Calls PG 28 #[.slice p0 l0.length c0,.func (.func 67) #[] #[At0 bx]] w fun e w'=>(∃(new:List zlp) (p:OA) (c:Nat),e = .returned (.slice p (l0++new).length c)/\new.map (·.1)=xs/\OwnS exE 78 B w' p c (l0++new)/\∀x∈l0++new,OwnS evE 80 B w' x.2.1 x.2.2 x.1.ev)/\Below B w w':=by
 refine qA 13 [.slice p0 l0.length c0,.func (.func 67) #[] #[At0 bx]] (.c .p .p) Tryz.func28 ?_;obtain⟨L,hL⟩:=nm (w.heap.size);refine⟨Unit,fun _=>⟨[(1,.func (.func 67) #[] #[At0 bx]),(2,At0 L)],[]⟩,fun _ X=>X.heap[L]?=some (.cells [.slice p0 l0.length c0].toArray 32 (0,0))/\X.heap.size=L+1/\Bw w X,?_,?_⟩
 ·exact⟨(),⟨.cons rfl (.cons (by rw[hL];rfl) .nil),rfl⟩,by rw[hL];exact zt w _,by rw[hL];exact wz _ _,(zba w _)⟩
 rintro _ W ⟨fL,sW,r⟩;have a3:=hlt fb;obtain⟨F0,aa⟩:∃F0:Nat->Prop,F0=fun k=>k=L\/(∃a,p0=some a/\k=a.block)\/∃x∈l0,∃a,x.2.1=some a/\k=a.block:=⟨_,rfl⟩;have ae:∀k,F0 k->B<=k/\k<W.heap.size/\(k≠L->k≠bx):=by
  intro k d;rw[aa] at d;rcases d with rfl | ⟨a,b,rfl⟩ | ⟨x,hx,a,b,rfl⟩
  ·exact⟨by omega,by omega,fun h=>(h rfl).elim⟩
  ·obtain⟨h1,h2,af,l⟩:=zz ho b;exact⟨h1,by omega,fun _ e=>by rw[e,fb] at l;simp at l⟩
  ·obtain⟨h1,h2,af,l⟩:=zz (hn x hx) b;exact⟨h1,by omega,fun _ e=>by rw[e,fb] at l;simp at l⟩
 have av:Gath exE 78 32 B W.heap.size L W (zv8 B) l0 F0 W:=by
  refine⟨UW _,by rw[aa];exact .inl rfl,fun k d=>(ae k d).2.1,⟨p0,c0,fL,ho.below r,fun a b=>by rw[aa];exact .inr (.inl ⟨a,b,rfl⟩)⟩,fun x hx=>⟨(hn x hx).below r,fun a b=>by rw[aa];exact .inr (.inr ⟨x,hx,a,b,rfl⟩)⟩,Gb _ _⟩
 refine zwM (zgn _) rfl (lb := #[At0 bx]) rfl rfl hI (fun j vs W k ⟨x,q,c,h1,h2,l⟩ ⟨x',a,s,n,u⟩=>?_) (by have:=r.size;omega) (fun k d=>⟨(hRd k d).1,?_⟩) (fun j vs W ⟨x,q,c,_,h,_⟩=>by rw[h];rfl) (by decide)
  F0 (fun j F Y=>∃z,(∃new,z=l0++new/\new.map (·.1)=j/\new.length<=xs.length)/\Gath exE 78 32 B W.heap.size L W (zv8 B) z F Y) (fun k d=>?_) (Gath.iter (zgC B) (by omega)) ⟨l0,⟨[],by simp,rfl,UZ _⟩,av⟩ ?_ ?_
 ·rw[h2] at n;have h6:exC x q c=exC x' (some a) s:=by
   have h7:=Value.agg.inj (Jv n);simpa using h7
  have h8:Value.slice q x.ev.length c=Value.slice (some a) x'.ev.length s:=Jv h6;have h9:q=some a:=by injection h8
  obtain⟨_,_,af,hc⟩:=zz l h9;rw[u];exact⟨_,_,_,hc⟩
 ·rw[<- (hRd k d).2];exact r.block k (by have:=(hRd k d).1;omega)
 ·intro h;obtain⟨h1,h2,l⟩:=ae k h;have n:=(hRd k d).1;rcases hRB k d with u | u
  ·omega
  ·exact l (by omega) u
 ·rintro yl j x vs F Y a9 al ⟨z,⟨new,rfl,f,ak⟩,m⟩ ⟨x',q,c,ah,rfl,oq⟩ a8 bb ⟨lo,an⟩;have a1:x=x':=by simpa using ah
  subst a1;have a7:=m.size;refine zo (X:=Y) (v := .agg (exC x q c).toArray) k78 (zW _ _ _) zbP (zcI _ _ _) fun Z g fZ sZ=>?_;have fZ:ExH Z Y.heap.size x q c:=fZ;obtain⟨F1,ab⟩:∃F1:Nat->Prop,F1=fun k=>F k\/GvX [.agg (exC x q c).toArray] k:=⟨_,rfl⟩;rw[<- ab];have a2:∀a,q=some a->F1 a.block:=fun a b=>by
   rw[ab];exact .inr ⟨x,a,c,by rw[b],rfl⟩
  have az:∀k,GvX [.agg (exC x q c).toArray] k->∃a,q=some a/\k=a.block:=by
   rintro k ⟨x',a,s,n,u⟩;have h6:exC x q c=exC x' (some a) s:=by
    have h7:=Value.agg.inj (Jv n);simpa using h7
   have h8:Value.slice q x.ev.length c=Value.slice (some a) x'.ev.length s:=Jv h6;have h9:q=some a:=by injection h8
   exact⟨a,h9,u⟩
  have am:∀k,F1 k->k<Y.heap.size:=fun k d=>by
   rw[ab] at d;rcases d with d | d
   ·exact m.lt k d
   ·obtain⟨a,b,rfl⟩:=az k d;exact(zz oq b).2.1
  have ai:∀k,F k->F1 k:=fun k d=>by rw[ab];exact .inl d
  have ar:Gath exE 78 32 B W.heap.size L W (zv8 B) (l0++new) F1 Z:=by
   obtain⟨p,s,h1,h2,l⟩:=m.row;have sZ:=g.size;exact⟨by omega,ai _ m.inL,fun k d=>by have:=am k d;omega,⟨p,s,zb g h1,h2.below g,fun a b=>ai _ (l a b)⟩,fun y hy=>⟨(m.nest y hy).1.below g,fun a b=>ai _ ((m.nest y hy).2 a b)⟩,m.old.trans (g.mono (by omega))⟩
  refine⟨rfl,F1,KeepsG.below g fun k d => .inl d,⟨_,⟨new,rfl,f,ak⟩,ar⟩,?_⟩;rintro O Y2 au ⟨a6,⟨ad,rfl,o,a4⟩,aj⟩;clear ar f ak m;have ba:=hlt an;have fY:ExH Y2 Y.heap.size x q c:=by rw[au];exact(zj (by omega)).trans fZ
  have ax:OwnS evE 80 B1 Y2 q c x.ev:=by
   rw[au];refine(oq.below g).same fun a b=>zj fun e=>?_;obtain⟨_,_,af,hc⟩:=zz oq b;rw[e,an] at hc
   cases hc
  obtain⟨p,s,n,u,h6⟩:=aj.row;refine⟨_,zc (za n) (i:=0) rfl,exC x q c,zW _ _ _,za fY,hlt fY,?_⟩;obtain⟨nx,ac⟩:∃nx:zlp,nx=(x,q,c):=⟨_,rfl⟩;have aw:exC x q c=exE.enc nx:=by rw[ac];rfl
  have bc:j.length<xs.length:=by
   obtain⟨t,ht⟩:=al;rw[<- ht];simp only[lap,Qp];omega
  have be:ad.length=j.length:=by rw[<- o,QJ]
  refine⟨⟨by decide,by decide,zbP⟩,exE.enc nx,by rw[<- aw];exact zbs (zW _ _ _) zbP,?_⟩;have bd:W.heap.size<=Y2.heap.size:=aj.size;obtain⟨v,Y5,aq,S,ag,F',ay,a0,a5⟩:=aj.stepX (P:=PG) (ty:=32) (cap1:=1) (zgC B) (by decide) Tryz.underlying32 k78 rfl rfl (by show _=333;exact zbP) k32 rfl (by omega) (by omega) (Gb _ _) nx (by rw[lap];omega) (by rw[lap];show(_+1)*2416<=_;omega)
   (fun G Z _ _ l n=>zgC B F1 G Y2 Z nx ⟨by rw[ac];exact ax.lower hB1,fun a b=>by rw[ac] at b;exact a2 a b⟩ l n) p s n
  unfold zd1 zaN;exact SatR.mk aq (SatR.mk ag ⟨F',⟨_,⟨ad++[nx],by rw[KN],by rw[QM,o,ac];rfl,by rw[lap];show _+1<=_;omega⟩,ay⟩,a0⟩)
 ·rintro D F Y hD ap ⟨z,⟨new,rfl,f,ak⟩,m⟩ ao;obtain⟨p,s,n,u,h6⟩:=m.row;refine⟨_,zc (za n) (i:=0) rfl,_,rfl,ao,?_⟩;have kp:∀a:Addr,F a.block->(Y.putObj D (.deferred none)).heap[a.block]?=Y.heap[a.block]?:=fun a h2=>zj fun e=>by rw[<- e] at ap;exact ap h2
  exact⟨⟨new,p,s,rfl,f,u.same fun a b=>kp a (h6 a b),fun x hx=>(m.nest x hx).1.same fun a b=>kp a ((m.nest x hx).2 a b)⟩,qC ((r.mono hB).trans m.old) (by omega) _⟩
end Go.Proofs.YtakcdebpklffiaaGreatDoor
namespace Go.Sei
def zb2 (ns:List Nat):Nat:=ns.foldl (· * ·) 1
theorem zn8(ns:List Nat)(n:Nat):zb2 (ns++[n])=zb2 ns*n:=by
 unfold zb2;rw[KS];rfl
def zsQ (init:List UInt8) (Ts:List (List PathD)):List MixD:=(qt (Ts.map List.length)).filterMap fun ds=>ziI init (js Ts ds)
theorem zir:∀(Ts:List (List PathD)) (ds:List Nat) (T:List PathD) (d:Nat),Ts.length=ds.length->js (Ts++[T]) (ds++[d])=js Ts ds++(match T[d]? with | some P=>[P] | none=>[])
 | [],[],T,d,_=>by
  show(match T[d]? with | some P=>[P] | none=>[])++[]=_;rw[QG];rfl
 | [],_::_,_,_,h=>by simp at h
 | _::_,[],_,_,h=>by simp at h
 | A::Ts,e::ds,T,d,h=>by
  show(match A[e]? with | some P=>[P] | none=>[])++js (Ts++[T]) (ds++[d])=((match A[e]? with | some P=>[P] | none=>[])++js Ts ds)++_;rw[zir Ts ds T d (by simpa using h),KN]
theorem zn9(ns:List Nat)(n:Nat):qi (ns++[n])=qi ns*n:=by
 rw[zc8];show _*(n*1)=_;rw[UX]
theorem zgJ:∀(ns:List Nat) (a:Nat),ns.foldl (· * ·) a=a*qi ns
 | [],a=>(UX a).symm
 | n::ns,a=>by
  show ns.foldl (· * ·) (a*n)=a*(n*qi ns);rw[zgJ ns,UC]
theorem zgw:∀ns:List Nat,qi ns.reverse=zb2 ns:=fun ns=>by
 have h:∀l:List Nat,qi l.reverse=qi l:=fun l=>by
  induction l with
  | nil=>rfl
  | cons n l ih =>
   rw[KV,zn9,ih];exact UM _ _
 rw[h];unfold zb2;rw[zgJ,UY]
end Go.Sei
namespace Go.Proofs.YtakcdebpklffiaaGreatDoor
open Go.Vc Go.RowKit Go.Sei
structure MixX where
 m:MixD
 q:OA
 c:Nat
 p1:OA
 c1:Nat
 p2:OA
 c2:Nat
 p3:OA
 c3:Nat
 xs:List zbk
 ys:List zbk
def zqY (x:MixX):List Value:=exC x.m.base x.q x.c++[.slice x.p1 x.m.rs.length x.c1,.slice x.p2 x.xs.length x.c2,.slice x.p3 x.ys.length x.c3]
theorem zsS(x:MixX):(zqY x).length=336:=by
 unfold zqY;rw[lap,zW];rfl
theorem zmA(x:MixX):(zqY x).all Value.oneCell'=true:=by
 unfold zqY;rw[QF,zcI];rfl
def zjA:Enc MixX:=⟨zqY,336,zsS,by decide,fun a u hu=>Qg.1 (zmA a) u hu⟩
structure NInM (B:Nat) (F:Nat->Prop) (Y:Wd) (x:MixX):Prop where
 e2:x.xs.map (·.1)=x.m.rs.map (·.2)
 e3:x.ys.map (·.1)=x.m.wr
 ev:RowIn evE 80 B F Y x.q x.c x.m.base.ev
 r1:RowIn zF 3 B F Y x.p1 x.c1 (x.m.rs.map (·.1))
 r2:RowIn jt 89 B F Y x.p2 x.c2 x.xs
 n2:∀y∈x.xs,RowIn zF 3 B F Y y.2.1 y.2.2 y.1
 r3:RowIn jt 89 B F Y x.p3 x.c3 x.ys
 n3:∀y∈x.ys,RowIn zF 3 B F Y y.2.1 y.2.2 y.1
theorem NInM.same{B:Nat}{F G:Nat->Prop}{Y Z:Wd}{x:MixX}(h:NInM B F Y x)(k:∀{α:Type} {E:Enc α} {T c:Nat} {q:OA} {l:List α},T≠92->T≠85->T≠4->RowIn E T B F Y q c l->RowIn E T B G Z q c l):NInM B G Z x :=
 ⟨h.e2,h.e3,k (by decide) (by decide) (by decide) h.ev,k (by decide) (by decide) (by decide) h.r1,k (by decide) (by decide) (by decide) h.r2,fun y a=>k (by decide) (by decide) (by decide) (h.n2 y a),k (by decide) (by decide) (by decide) h.r3,fun y a=>k (by decide) (by decide) (by decide) (h.n3 y a)⟩
theorem NInM.lower{B B':Nat}{F:Nat->Prop}{Y:Wd}{x:MixX}(h:NInM B F Y x)(hB:B'<=B):NInM B' (fun k=>B'<=k) Y x:=by
 have k:∀{α:Type} {E:Enc α} {T c:Nat} {q:OA} {l:List α},RowIn E T B F Y q c l->RowIn E T B' (fun k=>B'<=k) Y q c l:=fun{α E T c q l} d=>⟨d.own.lower hB,fun a e=>(zz (d.own.lower hB) e).1⟩;exact⟨h.e2,h.e3,k h.ev,k h.r1,k h.r2,fun y b=>k (h.n2 y b),k h.r3,fun y b=>k (h.n3 y b)⟩
theorem zj0(B:Nat):zkB 92 85 (NInM B):=by
 rintro F G Y Z x h i f;refine h.same fun{α E T c q l} g k _ b=>⟨b.own.same fun a d=>?_,fun a d=>f _ (b.inF a d)⟩;obtain⟨_,_,e,j⟩:=zz b.own d;exact i _ e _ (b.inF a d) j g k
abbrev TpR:=List zep×OA×Nat
def tpE:Enc TpR where
 sz:=1
 enc x:=[.slice x.2.1 x.1.length x.2.2]
 len x:=rfl
 one x v hv:=by
  simp at hv;subst hv;rfl
 pos:=by decide
structure MxS (B:Nat) (Z:Wd) (L bP:Nat) (ss:List Nat) (ps:OA) (cs:Nat) (ts:List TpR) (pT:OA) (cT:Nat):Prop where
 f0:Z.heap[L]?=some (.cells #[At0 bP] 88 (0,0))
 f1:Z.heap[L+1]?=some (.cells #[.slice none 0 0] 85 (0,0))
 f2:Z.heap[L+2]?=some (.cells #[.bool false] 4 (0,0))
 f3:Z.heap[L+3]?=some (.cells #[.slice pT ts.length cT] 100 (0,0))
 own:OwnS zF 3 B Z ps cs ss
 rk:OwnS tpE 101 B Z pT cT ts
 n1:∀z∈ts,OwnS j7 145 B Z z.2.1 z.2.2 z.1
 n2:∀z∈ts,∀x∈z.1,PthO B Z x
theorem PthO.same{B:Nat}{Y Z:Wd}{x:zep}(h:PthO B Y x)(k:∀{α:Type} {E:Enc α} {T c:Nat} {q:OA} {l:List α},T=80\/T=46->OwnS E T B Y q c l->OwnS E T B Z q c l):PthO B Z x :=
 ⟨k (.inl rfl) h.1,k (.inr rfl) h.2.1,k (.inr rfl) h.2.2.1,k (.inr rfl) h.2.2.2⟩
theorem MxS.below{B:Nat}{Z Y:Wd}{L bP:Nat}{ss:List Nat}{ps:OA}{cs:Nat}{ts:List TpR}{pT:OA}{cT:Nat}(h:MxS B Z L bP ss ps cs ts pT cT)(hb:Bw Z Y):MxS B Y L bP ss ps cs ts pT cT :=
 ⟨zb hb h.f0,zb hb h.f1,zb hb h.f2,zb hb h.f3,h.own.below hb,h.rk.below hb,fun z a=>(h.n1 z a).below hb,fun z a x d=>(h.n2 z a x d).same fun{α E T c q l} _ b=>b.below hb⟩
theorem MxS.size{B:Nat}{Z Y:Wd}{L bP n:Nat}{ss:List Nat}{ps ps':OA}{cs cs':Nat}{ts:List TpR}{pT:OA}{cT:Nat}(h:MxS B Z L bP ss ps cs ts pT cT)(ho:OwnS zF 3 B Y ps' cs' (ss++[n]))(g:Z.grownBy Y (ps.map Addr.block)):MxS B Y L bP (ss++[n]) ps' cs' ts pT cT :=
 ⟨qK h.f0 h.own (by decide) g,qK h.f1 h.own (by decide) g,qK h.f2 h.own (by decide) g,qK h.f3 h.own (by decide) g,ho,zaI h.rk h.own (by decide) g,fun z a=>zaI (h.n1 z a) h.own (by decide) g,fun z a x d=>(h.n2 z a x d).same fun{α E T c q l} e b=>zaI b h.own (by rcases e with rfl | rfl <;> decide) g⟩
theorem zyK{B c:Nat}{V1:Wd}{p:OA}{l:List TpR}{y:TpR}{a:Addr}(ho:OwnS tpE 101 B V1 p c l)(ha:zI V1 a ([y].flatMap tpE.enc))(hB:B<=V1.heap.size)(hl:l.length<=100000){K:Value->Wd->Prop}
  (h:∀p' c' w',OwnS tpE 101 B w' p' c' (l++[y])->V1.grownBy w' (p.map Addr.block)->(∀a,p'=some a->p=some a\/a.block=V1.heap.size)->K (.slice p' (l++[y]).length c') w') :
  SatR ((Builtin.append_ #[100,100] 100 #[.slice p l.length c,.slice (some a) 1 1]).run PG V1) K :=
 jG (E:=tpE) (T:=101) (B:=B) (l:=l) (news:=[y]) (cap:=c) (m:=1) Tryz.underlying100 zs3 rfl rfl rfl ho rfl ha hB (by omega) (by show(l.length+1)*24<=_;omega) fun p' c' w' d b _ e=>h p' c' w' d (by rw[za4] at b;exact b) e
theorem zyM{B c:Nat}{V1:Wd}{p:OA}{l:List zep}{y:zep}{a:Addr}(ho:OwnS j7 145 B V1 p c l)(ha:zI V1 a ([y].flatMap j7.enc))(hB:B<=V1.heap.size)(hl:l.length<=100000){K:Value->Wd->Prop}
  (h:∀p' c' w',OwnS j7 145 B w' p' c' (l++[y])->V1.grownBy w' (p.map Addr.block)->(∀a,p'=some a->p=some a\/a.block=V1.heap.size)->K (.slice p' (l++[y]).length c') w') :
  SatR ((Builtin.append_ #[101,101] 101 #[.slice p l.length c,.slice (some a) 1 1]).run PG V1) K :=
 jG (E:=j7) (T:=145) (B:=B) (l:=l) (news:=[y]) (cap:=c) (m:=1) Tryz.underlying101 zq7 rfl rfl rfl ho rfl ha hB (by omega) (by show(l.length+1)*104<=_;omega) fun p' c' w' d b _ e=>h p' c' w' d (by rw[za4] at b;exact b) e
structure ThrQ (V:List UInt8) (l:List InsD):Prop where
 l12:l.length<=12
 ex:∀x∈l,zue x
 ok:qI l 6=true
 m:(qB l (ded V)).length<=4096
end Go.Proofs.YtakcdebpklffiaaGreatDoor
namespace Go.Proofs.YtakcdebpklffiaaGreatDoor
open Go.Vc Go.RowKit Go.Sei
open Go.Sort (swp)
abbrev RB (w:Wd) (g:Nat) (sp:List Value) (d:Array UInt8):Prop:=RowS zS 5 w g sp d.toList
def lt8 (x y:UInt8):Bool:=decide ((x.toNat:Int)<(y.toNat:Int))
theorem zr9:Go.Sort.SWO lt8 where
 irrefl:=fun x=>Ue (by omega)
 trans:=fun x y z c e=>by
  have c:=dT c;have e:=dT e;exact Up (by omega)
 ntrans:=fun x y z c e=>by
  have c:=dF c;have e:=dF e;exact Ue (by omega)
section
variable{w:Wd}{g i j:Nat}{sp:List Value}{d:Array UInt8}
theorem zy(h:RB w g sp d)(hi:i<d.size):w.cell? ⟨g,0+i*1,none⟩=some (u8 d[i]!):=by
 have c:i<d.toList.length:=by simpa using hi
 have:=zen h c;rw[this,getElem!_pos d i hi];simp
theorem zQ{P:Program}{iT:TI}(hT:TIok P 5 iT)(hs:iT.size=1)(hr:RB w g sp d)(hi:i<d.size)(x:UInt8){K:Wd->Prop}
  (k:∀w',RB w' g sp (d.setIfInBounds i x)->w.grownBy w' (some g)->K w') :
  SatR ((storeVar 5 ⟨g,0+i*1,none⟩ (.agg (zS.enc x).toArray)).run P w) fun _ w'=>K w':=by
 refine zgj hT hs hr (i:=i) (by simpa using hi) x fun Z c e f=>k Z ?_ e;show RowS zS 5 Z g sp (d.setIfInBounds i x).toList;rw[Array.toList_setIfInBounds];exact c
theorem zA(w:Wd)(g:Nat):w.grownBy w.drew (some g):=⟨rfl,rfl,rfl,UW _,fun _ _ _=>rfl⟩
end
section
variable{w:Wd}{g cap L a b:Nat}{sp:List Value}{d:Array UInt8}
theorem zw3(hr:RB w g sp d)(hL:d.size=L)(hab:a<=b)(hb:b<=L)(hl:L<=1000000) :
  Calls PG 258 #[.slice (some ⟨g,0,none⟩) L cap,i64 a,i64 b] w fun e w'=>e = .returned (.tuple #[])/\RB w' g sp (Go.Sort.insertionSort lt8 d a b)/\w.grownBy w' (some g):=by
 refine zD 49 [.slice (some ⟨g,0,none⟩) L cap,i64 a,i64 b] Tryz.func258 ?_;obtain⟨R,hR⟩:=nm (Go.Sort.insertionSort lt8 d a b);rw[<- hR];refine⟨((a+1:Nat):Int),(ze (by first | omega | (dsimp only;omega))).trans (by first | omega | (dsimp only;omega)),Nat×Array UInt8,fun s=>⟨[(0,.slice (some ⟨g,0,none⟩) L cap),(1,i64 a),(2,i64 b),(6,i64 (s.1:Nat))],[]⟩,fun s X=>a+1<=s.1/\s.2.size=L/\Go.Sort.insOuter lt8 a b s.1 s.2=R/\RB X g sp s.2/\w.grownBy X (some g),fun s=>b-s.1,(a+1,d),(cvE rfl rfl),⟨UW _,hL,by rw[hR];rfl,hr,qo _ _⟩,?_⟩;rintro⟨i,d1⟩ X ⟨hi,v,l,o,gX⟩;dsimp only at hi v l o;rw[Go.Sort.insOuter] at l;refine biE (fun hc=>?_) fun hc=>?_
 ·have hc:(i:Int)<(b:Int):=dT hc;have ac:i<b:=by omega
  rw[Gn ac] at l;refine⟨Nat×Array UInt8,fun s=>⟨[(0,.slice (some ⟨g,0,none⟩) L cap),(1,i64 a),(2,i64 b),(6,i64 (i:Nat)),(7,i64 (s.1:Nat))],[]⟩,fun s Y=>a<=s.1/\s.1<=i/\s.2.size=L/\Go.Sort.insInner lt8 a s.1 s.2=Go.Sort.insInner lt8 a i d1/\RB Y g sp s.2/\w.grownBy Y (some g),fun s=>s.1,(i,d1),(cvE rfl rfl),⟨by show a<=i;omega,UW _,v,rfl,o,gX⟩,?_⟩;rintro⟨j,c⟩ Y ⟨hj,aa,m,f,x,gY⟩;dsimp only at hj aa m f x;have n:∀Z p,Go.Sort.insInner lt8 a i d1=p->p.size=L->RB Z g sp p->w.grownBy Z (some g)->a+1<=i+1/\p.size=L/\Go.Sort.insOuter lt8 a b (i+1) p=R/\RB Z g sp p/\w.grownBy Z (some g):=fun Z p e z q gz=>⟨by omega,z,by rw[<- e];exact l,q,gz⟩;have r:=zd gY (zA Y g);have qd:RB Y.drew g sp c:=x;refine DrawE.ord [] [0,1,2,3,4,5,6,7,8,9,10,11,12,13,14] (by kernel_rfl) (biE (fun y=>?_) fun y=>?_)
  ·have y:(a:Int)<(j:Int):=dT y;obtain⟨k,rfl⟩:∃k,j=k+1:=⟨j-1,by omega⟩;have t:k+1<c.size:=by omega
   have hk:k<c.size:=by omega
   have e2:Go.Sort.insInner lt8 a (k+1) c=if(decide (k+1 > a)&&lt8 c[k+1]! c[k]!)=true then Go.Sort.insInner lt8 a k (swp c (k+1) k) else c:=rfl
   have e3:decide (k+1 > a)=true:=Up (by omega);rw[e2,e3,Uv] at f;refine⟨k+1,rfl,by omega,?_⟩;refine⟨_,zy qd t,((k:Nat):Int),(ze (by first | omega | (dsimp only;omega))).trans (by first | omega | (dsimp only;omega)),k,rfl,by omega,?_⟩;refine⟨_,zy qd hk,cmo jX ?_⟩;rintro e _ ⟨rfl,rfl⟩;refine⟨Gb _ _,biE (fun u=>?_) fun u=>?_⟩
   ·have u:lt8 c[k+1]! c[k]! = true:=u;rw[Gn u] at f;have qe:RB Y.drew.drew g sp c:=qd;refine DrawE.ord [15,17] [0,1,2,3,4,5,6,7,8,9,10,11,12,13,14,15,16,17] (by kernel_rfl) ⟨((k:Nat):Int),(ze (by first | omega | (dsimp only;omega))).trans (by first | omega | (dsimp only;omega)),((k:Nat):Int),(ze (by first | omega | (dsimp only;omega))).trans (by first | omega | (dsimp only;omega)),k,rfl,by omega,?_⟩;refine⟨_,zy qe hk,k+1,rfl,by omega,?_⟩;refine⟨_,zy qe t,k+1,rfl,by omega,?_⟩;refine zQ k5 rfl qe t c[k]! fun V1 q1 g1=>⟨k,rfl,by omega,?_⟩;refine zQ k5 rfl q1 (by rw[Array.size_setIfInBounds];exact hk) c[k+1]! fun V2 q2 g2=>?_;have q2:RB V2 g sp (swp c (k+1) (k)):=q2;have z2:(swp c (k+1) (k)).size=c.size:=Go.Sort.size_swp c (k+1) (k);exact⟨((k:Nat):Int),(ze (by first | omega | (dsimp only;omega))).trans (by first | omega | (dsimp only;omega)),(k,swp c (k+1) k),(cvE rfl rfl),⟨by show a<=k;omega,by show k<=i;omega,by rw[z2];exact m,f,q2,zd r (zd (zA _ g) (zd g1 g2))⟩,Qx k⟩
   ·have u:lt8 c[k+1]! c[k]! = false:=u;rw[Gm (by rw[u];exact Kv)] at f;exact⟨((i+1:Nat):Int),(ze (by first | omega | (dsimp only;omega))).trans (by first | omega | (dsimp only;omega)),(i+1,c),(cvE rfl rfl),n _ _ f.symm m qd r,zdc (by omega)⟩
  ·have y:¬(a:Int)<(j:Int):=dF y;have ab:j=a:=by omega
   subst ab;have e2:Go.Sort.insInner lt8 j j c=c:=by
    cases j with
    | zero=>rfl
    | succ k =>
     show(if(decide (k+1 > k+1)&&lt8 c[k+1]! c[k]!)=true then _ else c)=c;rw[Ue (by omega),Ug];rfl
   rw[e2] at f;exact Gf (fun h=>by cases h) (fun _=>⟨((i+1:Nat):Int),(ze (by first | omega | (dsimp only;omega))).trans (by first | omega | (dsimp only;omega)),(i+1,c),(cvE rfl rfl),n _ _ f.symm m qd r,zdc (by omega)⟩)
 ·have hc:¬(i:Int)<(b:Int):=dF hc;rw[Gm (by omega)] at l;exact⟨rfl,l▸o,gX⟩
end
def zcg (hi first root:Nat) (d:Array UInt8):Nat:=if(decide (2*root+1+1<hi)&&lt8 d[first+(2*root+1)]! d[first+(2*root+1)+1]!)=true then 2*root+2 else 2*root+1
theorem zh8{hi first root:Nat}{d:Array UInt8}(h:¬2*root+1<hi):Go.Sort.siftDown lt8 hi first root d=d:=by
 rw[Go.Sort.siftDown,dif_pos (by omega)]
theorem zo2{hi first root:Nat}{d:Array UInt8}(h:2*root+1<hi):Go.Sort.siftDown lt8 hi first root d =
  if(!lt8 d[first+root]! d[first+zcg hi first root d]!)=true then d else Go.Sort.siftDown lt8 hi first (zcg hi first root d) (swp d (first+root) (first+zcg hi first root d)):=by
 rw[Go.Sort.siftDown,dif_neg (by omega)];unfold zcg;by_cases c:(decide (2*root+1+1<hi)&&lt8 d[first+(2*root+1)]! d[first+(2*root+1)+1]!)=true
 ·have e:2*root+2<hi:=by
   rw[bAT,dE] at c;omega
  rw[Gn c,Gn c,dif_pos e]
 ·rw[Gm c,Gm c]
theorem zjQ{hi first root:Nat}{d:Array UInt8}(h:2*root+1<hi):zcg hi first root d<hi/\root<zcg hi first root d:=by
 unfold zcg
 split
 ·rename_i c;rw[bAT,dE] at c;omega
 ·omega
section
variable{w:Wd}{g cap L a b:Nat}{sp:List Value}{d:Array UInt8}
theorem zsf{lo hi first:Nat}(hr:RB w g sp d)(hL:d.size=L)(hb:first+hi<=L)(hl:L<=1000000)(hlo:lo<=1000000) :
  Calls PG 306 #[.slice (some ⟨g,0,none⟩) L cap,i64 lo,i64 hi,i64 first] w fun e w'=>e = .returned (.tuple #[])/\RB w' g sp (Go.Sort.siftDown lt8 hi first lo d)/\w.grownBy w' (some g):=by
 refine zD 76 [.slice (some ⟨g,0,none⟩) L cap,i64 lo,i64 hi,i64 first] Tryz.func306 ?_;obtain⟨R,hR⟩:=nm (Go.Sort.siftDown lt8 hi first lo d);rw[<- hR];refine⟨Nat×Array UInt8,fun s=>⟨[(0,.slice (some ⟨g,0,none⟩) L cap),(1,i64 lo),(2,i64 hi),(3,i64 first),(8,i64 (s.1:Nat))],[]⟩,fun s X=>s.1<=1000000/\s.2.size=L/\Go.Sort.siftDown lt8 hi first s.1 s.2=R/\RB X g sp s.2/\w.grownBy X (some g),fun s=>hi-s.1,(lo,d),(cvE rfl rfl),⟨hlo,hL,hR.symm,hr,qo _ _⟩,?_⟩;rintro⟨f,i⟩ X ⟨ad,u,j,k,gX⟩;dsimp only at ad u j k;refine⟨((2*f:Nat):Int),(ze (by first | omega | (dsimp only;omega))).trans (by first | omega | (dsimp only;omega)),((2*f+1:Nat):Int),(ze (by first | omega | (dsimp only;omega))).trans (by first | omega | (dsimp only;omega)),biE (fun hc=>?_) fun hc=>?_⟩
 ·have hc:(hi:Int)<=((2*f+1:Nat):Int):=dT hc;rw[zh8 (by omega)] at j;exact⟨rfl,j▸k,gX⟩
 ·have hc:¬(hi:Int)<=((2*f+1:Nat):Int):=dF hc;have aa:2*f+1<hi:=by omega
  rw[zo2 aa] at j;obtain⟨z,ab⟩:=zjQ (d:=i) (first:=first) aa;obtain⟨c,o⟩:=nm (zcg hi first f i);rw[<- o] at j z ab;have qd:RB X.drew g sp i:=k;have p:=zd gX (zA X g);refine DrawE.ord [] [0,1,2,3,4,5,6,7,8,9,10,11,12,13,14,15,16,17,18,19] (by kernel_rfl) ⟨((2*f+1+1:Nat):Int),(ze (by first | omega | (dsimp only;omega))).trans (by first | omega | (dsimp only;omega)),biE (fun x=>?_) fun x=>?_⟩
  ·have x:((2*f+1+1:Nat):Int)<(hi:Int):=dT x;have x:2*f+1+1<hi:=by omega
   have ae:first+(2*f+1)<i.size:=by omega
   have ac:first+(2*f+1)+1<i.size:=by omega
   refine⟨((first+(2*f+1):Nat):Int),(ze (by first | omega | (dsimp only;omega))).trans (by first | omega | (dsimp only;omega)),first+(2*f+1),rfl,by omega,?_⟩;refine⟨_,zy qd ae,((first+(2*f+1):Nat):Int),(ze (by first | omega | (dsimp only;omega))).trans (by first | omega | (dsimp only;omega)),((first+(2*f+1)+1:Nat):Int),(ze (by first | omega | (dsimp only;omega))).trans (by first | omega | (dsimp only;omega)),first+(2*f+1)+1,rfl,by omega,?_⟩;refine⟨_,zy qd ac,cmo jX ?_⟩;rintro e _ ⟨rfl,rfl⟩;refine⟨Gb _ _,biE (fun y=>?_) fun y=>?_⟩
   ·have y:lt8 i[first+(2*f+1)]! i[first+(2*f+1)+1]! = true:=y;have q:c=2*f+2:=(by rw[o];unfold zcg;rw[y,Up x];rfl);subst q;clear o;refine⟨((2*f+2:Nat):Int),(ze (by first | omega | (dsimp only;omega))).trans (by first | omega | (dsimp only;omega)),?_⟩;have m:first+f<i.size:=by omega
    have n:first+(2*f+2)<i.size:=by omega
    have v:RB X.drew.drew g sp i:=k;refine DrawE.ord [] [0,1,2,3,4,5,6,7,8,9,10,11,12,13] (by kernel_rfl) ⟨((first+f:Nat):Int),(ze (by first | omega | (dsimp only;omega))).trans (by first | omega | (dsimp only;omega)),first+f,rfl,by omega,?_⟩;refine⟨_,zy v m,((first+(2*f+2):Nat):Int),(ze (by first | omega | (dsimp only;omega))).trans (by first | omega | (dsimp only;omega)),first+(2*f+2),rfl,by omega,?_⟩;refine⟨_,zy v n,cmo jX ?_⟩;rintro e _ ⟨rfl,rfl⟩;refine⟨Gb _ _,biE (fun l=>?_) fun l=>?_⟩
    ·have l:(!lt8 i[first+f]! i[first+(2*f+2)]!)=true:=l;rw[Gn l] at j;exact⟨rfl,j▸k,zd p (zA _ g)⟩
    ·have l:(!lt8 i[first+f]! i[first+(2*f+2)]!)=false:=l;rw[Gm (by rw[l];exact Kv)] at j;have t:RB X.drew.drew.drew g sp i:=k;refine DrawE.ord [21,23] [0,1,2,3,4,5,6,7,8,9,10,11,12,13,14,15,16,17,18,19,20,21,22,23] (by kernel_rfl) ⟨((first+f:Nat):Int),(ze (by first | omega | (dsimp only;omega))).trans (by first | omega | (dsimp only;omega)),((first+(2*f+2):Nat):Int),(ze (by first | omega | (dsimp only;omega))).trans (by first | omega | (dsimp only;omega)),((first+(2*f+2):Nat):Int),(ze (by first | omega | (dsimp only;omega))).trans (by first | omega | (dsimp only;omega)),first+(2*f+2),rfl,by omega,?_⟩;refine⟨_,zy t n,((first+f:Nat):Int),(ze (by first | omega | (dsimp only;omega))).trans (by first | omega | (dsimp only;omega)),first+f,rfl,by omega,?_⟩;refine⟨_,zy t m,first+f,rfl,by omega,?_⟩;refine zQ k5 rfl t m i[first+(2*f+2)]! fun V1 q1 g1=>⟨first+(2*f+2),rfl,by omega,?_⟩;refine zQ k5 rfl q1 (by rw[Array.size_setIfInBounds];exact n) i[first+f]! fun V2 r g2=>?_;have r:RB V2 g sp (swp i (first+f) (first+(2*f+2))):=r;have z2:(swp i (first+f) (first+(2*f+2))).size=i.size:=Go.Sort.size_swp i (first+f) (first+(2*f+2));exact⟨(2*f+2,swp i (first+f) (first+(2*f+2))),(cvE rfl rfl),⟨by show 2*f+2<=1000000;omega,by rw[z2];exact u,j,r,zd p (zd (zA _ g) (zd (zA _ g) (zd g1 g2)))⟩,by show hi-(2*f+2)<hi-f;omega⟩
   ·have y:lt8 i[first+(2*f+1)]! i[first+(2*f+1)+1]! = false:=y;have q:c=2*f+1:=(by rw[o];unfold zcg;rw[y,Uf];rfl);subst q;clear o;have m:first+f<i.size:=by omega
    have n:first+(2*f+1)<i.size:=by omega
    have v:RB X.drew.drew g sp i:=k;refine DrawE.ord [] [0,1,2,3,4,5,6,7,8,9,10,11,12,13] (by kernel_rfl) ⟨((first+f:Nat):Int),(ze (by first | omega | (dsimp only;omega))).trans (by first | omega | (dsimp only;omega)),first+f,rfl,by omega,?_⟩;refine⟨_,zy v m,((first+(2*f+1):Nat):Int),(ze (by first | omega | (dsimp only;omega))).trans (by first | omega | (dsimp only;omega)),first+(2*f+1),rfl,by omega,?_⟩;refine⟨_,zy v n,cmo jX ?_⟩;rintro e _ ⟨rfl,rfl⟩;refine⟨Gb _ _,biE (fun l=>?_) fun l=>?_⟩
    ·have l:(!lt8 i[first+f]! i[first+(2*f+1)]!)=true:=l;rw[Gn l] at j;exact⟨rfl,j▸k,zd p (zA _ g)⟩
    ·have l:(!lt8 i[first+f]! i[first+(2*f+1)]!)=false:=l;rw[Gm (by rw[l];exact Kv)] at j;have t:RB X.drew.drew.drew g sp i:=k;refine DrawE.ord [21,23] [0,1,2,3,4,5,6,7,8,9,10,11,12,13,14,15,16,17,18,19,20,21,22,23] (by kernel_rfl) ⟨((first+f:Nat):Int),(ze (by first | omega | (dsimp only;omega))).trans (by first | omega | (dsimp only;omega)),((first+(2*f+1):Nat):Int),(ze (by first | omega | (dsimp only;omega))).trans (by first | omega | (dsimp only;omega)),((first+(2*f+1):Nat):Int),(ze (by first | omega | (dsimp only;omega))).trans (by first | omega | (dsimp only;omega)),first+(2*f+1),rfl,by omega,?_⟩;refine⟨_,zy t n,((first+f:Nat):Int),(ze (by first | omega | (dsimp only;omega))).trans (by first | omega | (dsimp only;omega)),first+f,rfl,by omega,?_⟩;refine⟨_,zy t m,first+f,rfl,by omega,?_⟩;refine zQ k5 rfl t m i[first+(2*f+1)]! fun V1 q1 g1=>⟨first+(2*f+1),rfl,by omega,?_⟩;refine zQ k5 rfl q1 (by rw[Array.size_setIfInBounds];exact n) i[first+f]! fun V2 r g2=>?_;have r:RB V2 g sp (swp i (first+f) (first+(2*f+1))):=r;have z2:(swp i (first+f) (first+(2*f+1))).size=i.size:=Go.Sort.size_swp i (first+f) (first+(2*f+1));exact⟨(2*f+1,swp i (first+f) (first+(2*f+1))),(cvE rfl rfl),⟨by show 2*f+1<=1000000;omega,by rw[z2];exact u,j,r,zd p (zd (zA _ g) (zd (zA _ g) (zd g1 g2)))⟩,by show hi-(2*f+1)<hi-f;omega⟩
  ·have x:¬((2*f+1+1:Nat):Int)<(hi:Int):=dF x;refine Gf (fun h=>by cases h) (fun _=>?_);have q:c=2*f+1:=by rw[o];unfold zcg;rw[Ue (by omega),Ug];rfl
   subst q;clear o;have m:first+f<i.size:=by omega
   have n:first+(2*f+1)<i.size:=by omega
   have v:RB X.drew.drew g sp i:=k;refine DrawE.ord [] [0,1,2,3,4,5,6,7,8,9,10,11,12,13] (by kernel_rfl) ⟨((first+f:Nat):Int),(ze (by first | omega | (dsimp only;omega))).trans (by first | omega | (dsimp only;omega)),first+f,rfl,by omega,?_⟩;refine⟨_,zy v m,((first+(2*f+1):Nat):Int),(ze (by first | omega | (dsimp only;omega))).trans (by first | omega | (dsimp only;omega)),first+(2*f+1),rfl,by omega,?_⟩;refine⟨_,zy v n,cmo jX ?_⟩;rintro e _ ⟨rfl,rfl⟩;refine⟨Gb _ _,biE (fun l=>?_) fun l=>?_⟩
   ·have l:(!lt8 i[first+f]! i[first+(2*f+1)]!)=true:=l;rw[Gn l] at j;exact⟨rfl,j▸k,zd p (zA _ g)⟩
   ·have l:(!lt8 i[first+f]! i[first+(2*f+1)]!)=false:=l;rw[Gm (by rw[l];exact Kv)] at j;have t:RB X.drew.drew.drew g sp i:=k;refine DrawE.ord [21,23] [0,1,2,3,4,5,6,7,8,9,10,11,12,13,14,15,16,17,18,19,20,21,22,23] (by kernel_rfl) ⟨((first+f:Nat):Int),(ze (by first | omega | (dsimp only;omega))).trans (by first | omega | (dsimp only;omega)),((first+(2*f+1):Nat):Int),(ze (by first | omega | (dsimp only;omega))).trans (by first | omega | (dsimp only;omega)),((first+(2*f+1):Nat):Int),(ze (by first | omega | (dsimp only;omega))).trans (by first | omega | (dsimp only;omega)),first+(2*f+1),rfl,by omega,?_⟩;refine⟨_,zy t n,((first+f:Nat):Int),(ze (by first | omega | (dsimp only;omega))).trans (by first | omega | (dsimp only;omega)),first+f,rfl,by omega,?_⟩;refine⟨_,zy t m,first+f,rfl,by omega,?_⟩;refine zQ k5 rfl t m i[first+(2*f+1)]! fun V1 q1 g1=>⟨first+(2*f+1),rfl,by omega,?_⟩;refine zQ k5 rfl q1 (by rw[Array.size_setIfInBounds];exact n) i[first+f]! fun V2 r g2=>?_;have r:RB V2 g sp (swp i (first+f) (first+(2*f+1))):=r;have z2:(swp i (first+f) (first+(2*f+1))).size=i.size:=Go.Sort.size_swp i (first+f) (first+(2*f+1));exact⟨(2*f+1,swp i (first+f) (first+(2*f+1))),(cvE rfl rfl),⟨by show 2*f+1<=1000000;omega,by rw[z2];exact u,j,r,zd p (zd (zA _ g) (zd (zA _ g) (zd g1 g2)))⟩,by show hi-(2*f+1)<hi-f;omega⟩
theorem zgm(hi first:Nat):∀(n root:Nat) (d:Array UInt8),hi-root<=n->(Go.Sort.siftDown lt8 hi first root d).size=d.size
 | 0,root,d,h=>by rw [zh8 (by omega)]
 | n+1,root,d,h=>by
  by_cases c:2*root+1<hi
  ·have:=zjQ (d:=d) (first:=first) c;rw[zo2 c]
   split
   ·rfl
   ·rw[zgm hi first n _ _ (by omega)];exact Go.Sort.size_swp ..
  ·rw[zh8 c]
theorem zvf(hr:RB w g sp d)(hL:d.size=L)(hab:a<b)(hb:b<=L)(hl:L<=1000000) :
  Calls PG 259 #[.slice (some ⟨g,0,none⟩) L cap,i64 a,i64 b] w fun e w'=>e = .returned (.tuple #[])/\RB w' g sp (Go.Sort.heapSort lt8 d a b)/\w.grownBy w' (some g):=by
 refine zD 56 [.slice (some ⟨g,0,none⟩) L cap,i64 a,i64 b] Tryz.func259 ?_;obtain⟨R,hR⟩:=nm (Go.Sort.heapSort lt8 d a b);rw[<- hR];refine⟨((b-a:Nat):Int),(ze (by first | omega | (dsimp only;omega))).trans (by first | omega | (dsimp only;omega)),((b-a-1:Nat):Int),(ze (by first | omega | (dsimp only;omega))).trans (by first | omega | (dsimp only;omega)),by decide,(((b-a-1)/2:Nat):Int),(Gi _ (show((b-a-1:Nat):Int).tdiv 2=(((b-a-1)/2:Nat):Int) from rfl)).trans (ze (by omega)),Nat×Array UInt8,fun s=>⟨[(0,.slice (some ⟨g,0,none⟩) L cap),(1,i64 a),(2,i64 b),(6,i64 a),(7,i64 0),(8,i64 (b-a:Nat)),(9,i64 ((s.1:Int)-1))],[]⟩,fun s X=>s.1<=(b-a-1)/2+1/\s.2.size=L/\Go.Sort.heapPop lt8 a (b-a) (Go.Sort.heapBuild lt8 (b-a) a s.1 s.2)=R/\RB X g sp s.2/\w.grownBy X (some g),fun s=>s.1,((b-a-1)/2+1,d),⟨.cons rfl (.cons rfl (.cons rfl (.cons rfl (.cons rfl (.cons rfl (.cons (by dsimp only;rw[show((((b-a-1)/2+1:Nat):Int)-1)=(((b-a-1)/2:Nat):Int) by omega];rfl) .nil)))))),rfl⟩,⟨UW _,hL,hR.symm,hr,qo _ _⟩,?_⟩;rintro⟨k,u⟩ X ⟨y,j,c,l,gX⟩;dsimp only at y j c l;refine biE (fun h=>?_) fun h=>?_
 ·have h:(0:Int)<=(k:Int)-1:=dT h;obtain⟨m,rfl⟩:∃m,k=m+1:=⟨k-1,by omega⟩;have v:(((m+1:Nat):Int)-1)=(m:Int):=by omega
  have p:=zsf (cap:=cap) (lo:=m) (hi:=b-a) (first:=a) l j (by omega) hl (by omega);rw[<- v] at p;refine cmo p ?_;rintro e Y ⟨rfl,qY,t⟩;exact⟨(m:Int)-1,(ze (by omega)).trans (by omega),(m,Go.Sort.siftDown lt8 (b-a) a m u),(cvE rfl rfl),⟨by show m<=_;omega,by show(Go.Sort.siftDown ..).size=L;rw[zgm _ _ _ _ _ (UW _)];exact j,c,qY,zd gX t⟩,Qx m⟩
 ·have h:¬(0:Int)<=(k:Int)-1:=dF h;obtain rfl:k=0:=by omega
  have c:Go.Sort.heapPop lt8 a (b-a) u=R:=c;refine⟨((b-a-1:Nat):Int),(ze (by first | omega | (dsimp only;omega))).trans (by first | omega | (dsimp only;omega)),Nat×Array UInt8,fun s=>⟨[(0,.slice (some ⟨g,0,none⟩) L cap),(1,i64 a),(2,i64 b),(6,i64 a),(7,i64 0),(8,i64 (b-a:Nat)),(10,i64 ((s.1:Int)-1))],[]⟩,fun s Y=>s.1<=b-a/\s.2.size=L/\Go.Sort.heapPop lt8 a s.1 s.2=R/\RB Y g sp s.2/\w.grownBy Y (some g),fun s=>s.1,(b-a,u),⟨.cons rfl (.cons rfl (.cons rfl (.cons rfl (.cons rfl (.cons rfl (.cons (by dsimp only;rw[show(((b-a:Nat):Int)-1)=((b-a-1:Nat):Int) by omega];rfl) .nil)))))),rfl⟩,⟨UW _,j,c,l,gX⟩,?_⟩;rintro⟨k,f⟩ Y ⟨y,o,i,n,t⟩;dsimp only at y o i n;refine biE (fun h=>?_) fun h=>?_
  ·have h:(0:Int)<=(k:Int)-1:=dT h;obtain⟨m,rfl⟩:∃m,k=m+1:=⟨k-1,by omega⟩;have v:(((m+1:Nat):Int)-1)=(m:Int):=by omega
   have q:a<f.size:=by omega
   have r:a+m<f.size:=by omega
   have z:RB Y.drew g sp f:=n;refine DrawE.ord [17,19] [0,1,2,3,4,5,6,7,8,9,10,11,12,13,14,15,16,17,18,19] (by kernel_rfl) ⟨((a+m:Nat):Int),(ze (by first | omega | (dsimp only;omega))).trans (by first | omega | (dsimp only;omega)),((a+m:Nat):Int),(ze (by first | omega | (dsimp only;omega))).trans (by first | omega | (dsimp only;omega)),a+m,rfl,by omega,?_⟩;refine⟨_,zy z r,a,rfl,by omega,?_⟩;refine⟨_,zy z q,a,rfl,by omega,?_⟩;refine zQ k5 rfl z q f[a+m]! fun V1 q1 g1=>⟨a+m,rfl,by omega,?_⟩;refine zQ k5 rfl q1 (by rw[Array.size_setIfInBounds];exact r) f[a]! fun V2 x g2=>?_;have x:RB V2 g sp (swp f (a) (a+m)):=x;have z2:(swp f (a) (a+m)).size=f.size:=Go.Sort.size_swp f (a) (a+m);have p:=zsf (cap:=cap) (lo:=0) (hi:=m) (first:=a) x (by rw[z2];exact o) (by omega) hl (by omega);rw[<- v] at p;refine cmo p ?_;rintro e Z ⟨rfl,qZ,gZ⟩;exact⟨(m:Int)-1,(ze (by omega)).trans (by omega),(m,Go.Sort.siftDown lt8 m a 0 (swp f a (a+m))),(cvE rfl rfl),⟨by show m<=_;omega,by show(Go.Sort.siftDown ..).size=L;rw[zgm _ _ _ _ _ (UW _),z2];exact o,i,qZ,zd t (zd (zA _ g) (zd g1 (zd g2 gZ)))⟩,Qx m⟩
  ·have h:¬(0:Int)<=(k:Int)-1:=dF h;obtain rfl:k=0:=by omega
   have i:f=R:=i;exact⟨rfl,i▸n,t⟩
end
theorem ze0{p:UInt8->Bool}{d:Array UInt8}{i j:Nat}(h:i<=j)(hp:p d[i]! = true):Go.Sort.scanUp p d j i=Go.Sort.scanUp p d j (i+1):=by
 rw[Go.Sort.scanUp,Gn (by rw[Up h,hp];rfl)]
theorem zcb{p:UInt8->Bool}{d:Array UInt8}{i j:Nat}(h:i<=j->p d[i]! = false):Go.Sort.scanUp p d j i=i:=by
 rw[Go.Sort.scanUp];by_cases e:i<=j
 ·rw[Gm (by rw[h e,Uf];exact Kv)]
 ·rw[Gm (by rw[Ue e];exact Kv)]
theorem zdw{p:UInt8->Bool}{d:Array UInt8}{i j:Nat}(h:i<=j+1)(hp:p d[j+1]! = true):Go.Sort.scanDown p d i (j+1)=Go.Sort.scanDown p d i j:=by
 show(if(decide (i<=j+1)&&p d[j+1]!)=true then _ else _)=_;rw[Up h,hp];rfl
theorem zbf{p:UInt8->Bool}{d:Array UInt8}{i:Nat}:∀{j:Nat},(i<=j->p d[j]! = false)->Go.Sort.scanDown p d i j=j
 | 0,_=>rfl
 | j+1,h=>by
  show(if(decide (i<=j+1)&&p d[j+1]!)=true then _ else _)=_;by_cases e:i<=j+1
  ·rw[h e,Uf];rfl
  ·rw[Ue e];rfl
section
variable{w:Wd}{g cap L a b pivot:Nat}{sp:List Value}{d:Array UInt8}
theorem zwU(hr:RB w g sp d)(hL:d.size=L)(hap:a<=pivot)(hpb:pivot<b)(hb:b<=L)(hl:L<=1000000) :
  Calls PG 266 #[.slice (some ⟨g,0,none⟩) L cap,i64 a,i64 b,i64 pivot] w fun e w'=>∃m ap d',Go.Sort.partition lt8 d a b pivot=(m,ap,d')/\e = .returned (.tuple #[i64 (m:Nat),.bool ap])/\RB w' g sp d'/\w.grownBy w' (some g):=by
 refine qA 168 [.slice (some ⟨g,0,none⟩) L cap,i64 a,i64 b,i64 pivot] (.s .p (.s .p (.s .p (.c .p (.c .p (.s .p (.s .p (.s .p (.s .p (.c (.b (.l (.b (.c .p (.c .p .p))))) .p)))))))))) Tryz.func266 ?_;have ao:a<d.size:=by omega
 have ak:pivot<d.size:=by omega
 have q0:RB w.drew g sp d:=hr;refine DrawE.ord [13,15] [0,1,2,3,4,5,6,7,8,9,10,11,12,13,14,15] (by kernel_rfl) ⟨pivot,rfl,by omega,?_⟩;refine⟨_,zy q0 ak,a,rfl,by omega,?_⟩;refine⟨_,zy q0 ao,a,rfl,by omega,?_⟩;refine zQ k5 rfl q0 ao d[pivot]! fun V1s bc az=>⟨pivot,rfl,by omega,?_⟩;refine zQ k5 rfl bc (by rw[Array.size_setIfInBounds];exact ak) d[a]! fun V2s ae ay=>?_;have ae:RB V2s g sp (swp d (a) (pivot)):=ae;have al:(swp d (a) (pivot)).size=d.size:=Go.Sort.size_swp d (a) (pivot);obtain⟨f,aq⟩:=nm (swp d a pivot);rw[<- aq] at ae al;have g0:=zd (zA w g) (zd az ay);have a4:f.size=L:=by rw[al];exact hL
 refine⟨((a+1:Nat):Int),(ze (by first | omega | (dsimp only;omega))).trans (by first | omega | (dsimp only;omega)),?_⟩;obtain⟨J0,bd⟩:=nm (b-1);refine⟨((J0:Nat):Int),(ze (by first | omega | (dsimp only;omega))).trans (by first | omega | (dsimp only;omega)),?_⟩;obtain⟨I0,au⟩:=nm (Go.Sort.scanUp (fun x=>lt8 x f[a]!) f J0 (a+1));obtain⟨K0,an⟩:=nm (Go.Sort.scanDown (fun x => !lt8 x f[a]!) f I0 J0);have ab:Go.Sort.partition lt8 d a b pivot=if I0 > K0 then(K0,true,swp f K0 a) else((Go.Sort.partLoop lt8 a (I0+1) (K0-1) (swp f I0 K0)).1,false,swp (Go.Sort.partLoop lt8 a (I0+1) (K0-1) (swp f I0 K0)).2 (Go.Sort.partLoop lt8 a (I0+1) (K0-1) (swp f I0 K0)).1 a):=by rw[an,au,bd,aq];rfl
 refine⟨Unit,fun _=>⟨[(0,.slice (some ⟨g,0,none⟩) L cap),(1,i64 a),(2,i64 b),(3,i64 pivot),(10,i64 (I0:Nat)),(11,i64 (J0:Nat))],[]⟩,fun _ X=>(a+1<=I0/\I0<=J0+1/\(I0<=J0->lt8 f[I0]! f[a]! = false))/\RB X g sp f/\w.grownBy X (some g),?_,?_⟩
 ·refine⟨Nat,fun u=>⟨[(0,.slice (some ⟨g,0,none⟩) L cap),(1,i64 a),(2,i64 b),(3,i64 pivot),(10,i64 (u:Nat)),(11,i64 (J0:Nat))],[]⟩,fun u X=>a+1<=u/\u<=J0+1/\Go.Sort.scanUp (fun x=>lt8 x f[a]!) f J0 u=I0/\RB X g sp f/\w.grownBy X (some g),fun u=>J0+1-u,(a+1),(cvE rfl rfl),⟨by omega,by omega,au.symm,ae,g0⟩,?_⟩;rintro u Y ⟨hi,z,n,aa,gY⟩;have y:=zd gY (zA Y g);have v:RB Y.drew g sp f:=aa;refine DrawE.ord [] [0,1,2,3,4,5,6,7,8,9,10,11,12,13] (by kernel_rfl) (biE (fun t=>?_) fun t=>?_)
  ·have t:(u:Int)<=(J0:Int):=dT t;have t:u<=J0:=by omega
   have q:u<f.size:=by omega
   have r:a<f.size:=by omega
   refine⟨u,rfl,by omega,?_⟩;refine⟨_,zy v q,a,rfl,by omega,?_⟩;refine⟨_,zy v r,cmo jX ?_⟩;rintro e _ ⟨rfl,rfl⟩;refine⟨Gb _ _,biE (fun o=>?_) fun o=>?_⟩
   ·have o:lt8 f[u]! f[a]! = true:=o;rw[ze0 (p:=fun x=>lt8 x f[a]!) t o] at n;exact⟨((u+1:Nat):Int),(ze (by first | omega | (dsimp only;omega))).trans (by first | omega | (dsimp only;omega)),u+1,(cvE rfl rfl),⟨by omega,by omega,n,v,y⟩,zdc (by omega)⟩
   ·have o:lt8 f[u]! f[a]! = false:=o;rw[zcb (p:=fun x=>lt8 x f[a]!) fun _=>o] at n;subst n;exact⟨(),(cvE rfl rfl),⟨hi,z,fun _=>o⟩,v,y⟩
  ·have t:¬(u:Int)<=(J0:Int):=dF t;refine Gf (fun h=>by cases h) (fun _=>?_);rw[zcb (p:=fun x=>lt8 x f[a]!) fun h=>Gp h (by omega)] at n;subst n;exact⟨(),(cvE rfl rfl),⟨hi,z,fun h=>Gp h (by omega)⟩,v,y⟩
 rintro _ X ⟨⟨be,ba,ag⟩,ad,gX⟩;refine⟨Unit,fun _=>⟨[(0,.slice (some ⟨g,0,none⟩) L cap),(1,i64 a),(2,i64 b),(3,i64 pivot),(10,i64 (I0:Nat)),(11,i64 (K0:Nat))],[]⟩,fun _ X=>(K0<=J0/\I0<=K0+1/\(I0<=K0->(!lt8 f[K0]! f[a]!)=false))/\RB X g sp f/\w.grownBy X (some g),?_,?_⟩
 ·refine⟨Nat,fun k=>⟨[(0,.slice (some ⟨g,0,none⟩) L cap),(1,i64 a),(2,i64 b),(3,i64 pivot),(10,i64 (I0:Nat)),(11,i64 (k:Nat))],[]⟩,fun k X=>k<=J0/\I0<=k+1/\Go.Sort.scanDown (fun x => !lt8 x f[a]!) f I0 k=K0/\RB X g sp f/\w.grownBy X (some g),fun k=>k,J0,(cvE rfl rfl),⟨UW _,by omega,an.symm,ad,gX⟩,?_⟩;rintro k Y ⟨hi,z,n,aa,gY⟩;have y:=zd gY (zA Y g);have v:RB Y.drew g sp f:=aa;refine DrawE.ord [] [0,1,2,3,4,5,6,7,8,9,10,11,12,13,14] (by kernel_rfl) (biE (fun t=>?_) fun t=>?_)
  ·have t:(I0:Int)<=(k:Int):=dT t;have t:I0<=k:=by omega
   have q:k<f.size:=by omega
   have r:a<f.size:=by omega
   refine⟨k,rfl,by omega,?_⟩;refine⟨_,zy v q,a,rfl,by omega,?_⟩;refine⟨_,zy v r,cmo jX ?_⟩;rintro e _ ⟨rfl,rfl⟩;refine⟨Gb _ _,biE (fun o=>?_) fun o=>?_⟩
   ·have o:(!lt8 f[k]! f[a]!)=true:=o;obtain⟨m,rfl⟩:∃m,k=m+1:=⟨k-1,by omega⟩;rw[zdw (p:=fun x => !lt8 x f[a]!) t o] at n;exact⟨((m:Nat):Int),(ze (by first | omega | (dsimp only;omega))).trans (by first | omega | (dsimp only;omega)),m,(cvE rfl rfl),⟨by omega,by omega,n,v,y⟩,Qx m⟩
   ·have o:(!lt8 f[k]! f[a]!)=false:=o;rw[zbf (p:=fun x => !lt8 x f[a]!) fun _=>o] at n;subst n;exact⟨(),(cvE rfl rfl),⟨hi,z,fun _=>o⟩,v,y⟩
  ·have t:¬(I0:Int)<=(k:Int):=dF t;refine Gf (fun h=>by cases h) (fun _=>?_);rw[zbf (p:=fun x => !lt8 x f[a]!) fun h=>Gp h (by omega)] at n;subst n;exact⟨(),(cvE rfl rfl),⟨hi,z,fun h=>Gp h (by omega)⟩,v,y⟩
 rintro _ Y ⟨⟨bl,bk,a7⟩,aa,gY⟩;refine biE (fun hc=>?_) fun hc=>?_
 ·have hc:(K0:Int)<(I0:Int):=dT hc;rw[Gn (by omega)] at ab;have q:K0<f.size:=by omega
  have r:a<f.size:=by omega
  have v:RB Y.drew g sp f:=aa;refine DrawE.ord [13,15] [0,1,2,3,4,5,6,7,8,9,10,11,12,13,14,15] (by kernel_rfl) ⟨a,rfl,by omega,?_⟩;refine⟨_,zy v r,K0,rfl,by omega,?_⟩;refine⟨_,zy v q,K0,rfl,by omega,?_⟩;refine zQ k5 rfl v q f[a]! fun V1 q1 g1=>⟨a,rfl,by omega,?_⟩;refine zQ k5 rfl q1 (by rw[Array.size_setIfInBounds];exact r) f[K0]! fun V2 q2 g2=>?_;have q2:RB V2 g sp (swp f (K0) (a)):=q2;have z2:(swp f (K0) (a)).size=f.size:=Go.Sort.size_swp f (K0) (a);exact⟨K0,true,_,ab,rfl,q2,zd gY (zd (zA _ g) (zd g1 g2))⟩
 ·have hc:¬(K0:Int)<(I0:Int):=dF hc;rw[Gm (by omega)] at ab;have bh:I0≠K0:=fun h=>by
   have e1:=ag (by omega);have e2:=a7 (by omega);rw[h] at e1;rw[e1] at e2
   cases e2
  have q:I0<f.size:=by omega
  have r:K0<f.size:=by omega
  have v:RB Y.drew g sp f:=aa;refine DrawE.ord [13,15] [0,1,2,3,4,5,6,7,8,9,10,11,12,13,14,15] (by kernel_rfl) ⟨K0,rfl,by omega,?_⟩;refine⟨_,zy v r,I0,rfl,by omega,?_⟩;refine⟨_,zy v q,I0,rfl,by omega,?_⟩;refine zQ k5 rfl v q f[K0]! fun V1t a3 a8=>⟨K0,rfl,by omega,?_⟩;refine zQ k5 rfl a3 (by rw[Array.size_setIfInBounds];exact r) f[I0]! fun V2t ac a2=>?_;have ac:RB V2t g sp (swp f (I0) (K0)):=ac;have av:(swp f (I0) (K0)).size=f.size:=Go.Sort.size_swp f (I0) (K0);refine⟨((I0+1:Nat):Int),(ze (by first | omega | (dsimp only;omega))).trans (by first | omega | (dsimp only;omega)),((K0-1:Nat):Int),(ze (by first | omega | (dsimp only;omega))).trans (by first | omega | (dsimp only;omega)),?_⟩;obtain⟨d2,a1⟩:=nm (swp f I0 K0);rw[<- a1] at ab ac av;have ax:=zd gY (zd (zA _ g) (zd a8 a2));have bb:d2.size=L:=by rw[av];exact a4
  obtain⟨R2,aw⟩:=nm (Go.Sort.partLoop lt8 a (I0+1) (K0-1) d2);refine⟨Unit,fun _=>⟨[(0,.slice (some ⟨g,0,none⟩) L cap),(1,i64 a),(2,i64 b),(3,i64 pivot),(11,i64 (R2.1:Nat))],[]⟩,fun _ X=>(a<=R2.1/\R2.1<b)/\R2.2.size=L/\RB X g sp R2.2/\w.grownBy X (some g),?_,?_⟩
  ·refine⟨Nat×Nat×Array UInt8,fun s=>⟨[(0,.slice (some ⟨g,0,none⟩) L cap),(1,i64 a),(2,i64 b),(3,i64 pivot),(10,i64 (s.1:Nat)),(11,i64 (s.2.1:Nat))],[]⟩,fun s X=>(a+1<=s.1/\s.1<=s.2.1+1/\s.2.1<b)/\s.2.2.size=L/\Go.Sort.partLoop lt8 a s.1 s.2.1 s.2.2=R2/\RB X g sp s.2.2/\w.grownBy X (some g),fun s=>s.2.1+1-s.1,((I0+1),(K0-1),d2),(cvE rfl rfl),⟨⟨by show a+1<=(I0+1);omega,by show(I0+1)<=(K0-1)+1;omega,by show(K0-1)<b;omega⟩,bb,aw.symm,ac,ax⟩,?_⟩;rintro⟨i,j,e⟩ X ⟨⟨hi,z,a0⟩,af,hR,ad,gX⟩;dsimp only at hi z a0 af hR ad;rw[Go.Sort.partLoop_eq] at hR;obtain⟨I,hI⟩:=nm (Go.Sort.scanUp (fun x=>lt8 x e[a]!) e j i);rw[<- hI] at hR;obtain⟨J,hJ⟩:=nm (Go.Sort.scanDown (fun x => !lt8 x e[a]!) e I j);rw[<- hJ] at hR;refine⟨Unit,fun _=>⟨[(0,.slice (some ⟨g,0,none⟩) L cap),(1,i64 a),(2,i64 b),(3,i64 pivot),(10,i64 (I:Nat)),(11,i64 (j:Nat))],[]⟩,fun _ X=>(i<=I/\I<=j+1/\(I<=j->lt8 e[I]! e[a]! = false))/\RB X g sp e/\w.grownBy X (some g),?_,?_⟩
   ·refine⟨Nat,fun u=>⟨[(0,.slice (some ⟨g,0,none⟩) L cap),(1,i64 a),(2,i64 b),(3,i64 pivot),(10,i64 (u:Nat)),(11,i64 (j:Nat))],[]⟩,fun u X=>i<=u/\u<=j+1/\Go.Sort.scanUp (fun x=>lt8 x e[a]!) e j u=I/\RB X g sp e/\w.grownBy X (some g),fun u=>j+1-u,i,(cvE rfl rfl),⟨by omega,by omega,hI.symm,ad,gX⟩,?_⟩;rintro u Y ⟨hi,z,n,aa,gY⟩;have y:=zd gY (zA Y g);have v:RB Y.drew g sp e:=aa;refine DrawE.ord [] [0,1,2,3,4,5,6,7,8,9,10,11,12,13] (by kernel_rfl) (biE (fun t=>?_) fun t=>?_)
    ·have t:(u:Int)<=(j:Int):=dT t;have t:u<=j:=(by omega);have q:u<e.size:=(by omega);have r:a<e.size:=(by omega);refine⟨u,rfl,by omega,?_⟩;refine⟨_,zy v q,a,rfl,by omega,?_⟩;refine⟨_,zy v r,cmo jX ?_⟩;rintro e _ ⟨rfl,rfl⟩;refine⟨Gb _ _,biE (fun o=>?_) fun o=>?_⟩
     ·have o:lt8 e[u]! e[a]! = true:=o;rw[ze0 (p:=fun x=>lt8 x e[a]!) t o] at n;exact⟨((u+1:Nat):Int),(ze (by first | omega | (dsimp only;omega))).trans (by first | omega | (dsimp only;omega)),u+1,(cvE rfl rfl),⟨by omega,by omega,n,v,y⟩,zdc (by omega)⟩
     ·have o:lt8 e[u]! e[a]! = false:=o;rw[zcb (p:=fun x=>lt8 x e[a]!) fun _=>o] at n;subst n;exact⟨(),(cvE rfl rfl),⟨hi,z,fun _=>o⟩,v,y⟩
    ·have t:¬(u:Int)<=(j:Int):=dF t;refine Gf (fun h=>by cases h) (fun _=>?_);rw[zcb (p:=fun x=>lt8 x e[a]!) fun h=>Gp h (by omega)] at n;subst n;exact⟨(),(cvE rfl rfl),⟨hi,z,fun h=>Gp h (by omega)⟩,v,y⟩
   rintro _ Y ⟨⟨be,ba,ag⟩,aa,gY⟩;refine⟨Unit,fun _=>⟨[(0,.slice (some ⟨g,0,none⟩) L cap),(1,i64 a),(2,i64 b),(3,i64 pivot),(10,i64 (I:Nat)),(11,i64 (J:Nat))],[]⟩,fun _ X=>(J<=j/\I<=J+1/\(I<=J->(!lt8 e[J]! e[a]!)=false))/\RB X g sp e/\w.grownBy X (some g),?_,?_⟩
   ·refine⟨Nat,fun k=>⟨[(0,.slice (some ⟨g,0,none⟩) L cap),(1,i64 a),(2,i64 b),(3,i64 pivot),(10,i64 (I:Nat)),(11,i64 (k:Nat))],[]⟩,fun k X=>k<=j/\I<=k+1/\Go.Sort.scanDown (fun x => !lt8 x e[a]!) e I k=J/\RB X g sp e/\w.grownBy X (some g),fun k=>k,j,(cvE rfl rfl),⟨UW _,by omega,hJ.symm,aa,gY⟩,?_⟩;rintro k Y ⟨hi,z,n,aa,gY⟩;have y:=zd gY (zA Y g);have v:RB Y.drew g sp e:=aa;refine DrawE.ord [] [0,1,2,3,4,5,6,7,8,9,10,11,12,13,14] (by kernel_rfl) (biE (fun t=>?_) fun t=>?_)
    ·have t:(I:Int)<=(k:Int):=dT t;have t:I<=k:=(by omega);have q:k<e.size:=(by omega);have r:a<e.size:=(by omega);refine⟨k,rfl,by omega,?_⟩;refine⟨_,zy v q,a,rfl,by omega,?_⟩;refine⟨_,zy v r,cmo jX ?_⟩;rintro e _ ⟨rfl,rfl⟩;refine⟨Gb _ _,biE (fun o=>?_) fun o=>?_⟩
     ·have o:(!lt8 e[k]! e[a]!)=true:=o;obtain⟨m,rfl⟩:∃m,k=m+1:=⟨k-1,by omega⟩;rw[zdw (p:=fun x => !lt8 x e[a]!) t o] at n;exact⟨((m:Nat):Int),(ze (by first | omega | (dsimp only;omega))).trans (by first | omega | (dsimp only;omega)),m,(cvE rfl rfl),⟨by omega,by omega,n,v,y⟩,Qx m⟩
     ·have o:(!lt8 e[k]! e[a]!)=false:=o;rw[zbf (p:=fun x => !lt8 x e[a]!) fun _=>o] at n;subst n;exact⟨(),(cvE rfl rfl),⟨hi,z,fun _=>o⟩,v,y⟩
    ·have t:¬(I:Int)<=(k:Int):=dF t;refine Gf (fun h=>by cases h) (fun _=>?_);rw[zbf (p:=fun x => !lt8 x e[a]!) fun h=>Gp h (by omega)] at n;subst n;exact⟨(),(cvE rfl rfl),⟨hi,z,fun h=>Gp h (by omega)⟩,v,y⟩
   rintro _ Z ⟨⟨bn,bo,bf⟩,am,gZ⟩;refine biE (fun hc=>?_) fun hc=>?_
   ·have hc:(J:Int)<(I:Int):=dT hc;rw[Gn (by omega)] at hR;subst hR;exact⟨(),(cvE rfl rfl),⟨by show a<=J;omega,by show J<b;omega⟩,af,am,gZ⟩
   ·have hc:¬(J:Int)<(I:Int):=dF hc;rw[Gm (by omega)] at hR;have bj:I≠J:=fun h=>by
     have e1:=ag (by omega);have e2:=bf (by omega);rw[h] at e1;rw[e1] at e2
     cases e2
    have q:I<e.size:=(by omega);have r:J<e.size:=(by omega);have qe:RB Z.drew g sp e:=am;refine DrawE.ord [13,15] [0,1,2,3,4,5,6,7,8,9,10,11,12,13,14,15] (by kernel_rfl) ⟨J,rfl,by omega,?_⟩;refine⟨_,zy qe r,I,rfl,by omega,?_⟩;refine⟨_,zy qe q,I,rfl,by omega,?_⟩;refine zQ k5 rfl qe q e[J]! fun V1 q1 g1=>⟨J,rfl,by omega,?_⟩;refine zQ k5 rfl q1 (by rw[Array.size_setIfInBounds];exact r) e[I]! fun V2 q2 g2=>?_;have q2:RB V2 g sp (swp e (I) (J)):=q2;have z2:(swp e (I) (J)).size=e.size:=Go.Sort.size_swp e (I) (J);exact⟨((I+1:Nat):Int),(ze (by first | omega | (dsimp only;omega))).trans (by first | omega | (dsimp only;omega)),((J-1:Nat):Int),(ze (by first | omega | (dsimp only;omega))).trans (by first | omega | (dsimp only;omega)),(I+1,J-1,swp e I J),(cvE rfl rfl),⟨⟨by show a+1<=I+1;omega,by show I+1<=J-1+1;omega,by show J-1<b;omega⟩,by show(swp e I J).size=L;rw[z2];exact af,hR,q2,zd gZ (zd (zA _ g) (zd g1 g2))⟩,by show J-1+1-(I+1)<j+1-i;omega⟩
  rintro _ X2 ⟨⟨bq,bp⟩,bm,ar,a5⟩;rw[<- aw] at ab;have ai:R2.1<R2.2.size:=by omega
  have aj:a<R2.2.size:=by omega
  have qf:RB X2.drew g sp R2.2:=ar;refine DrawE.ord [13,15] [0,1,2,3,4,5,6,7,8,9,10,11,12,13,14,15] (by kernel_rfl) ⟨a,rfl,by omega,?_⟩;refine⟨_,zy qf aj,R2.1,rfl,by omega,?_⟩;refine⟨_,zy qf ai,R2.1,rfl,by omega,?_⟩;refine zQ k5 rfl qf ai R2.2[a]! fun V1u a9 bg=>⟨a,rfl,by omega,?_⟩;refine zQ k5 rfl a9 (by rw[Array.size_setIfInBounds];exact aj) R2.2[R2.1]! fun V2u ah a6=>?_;have ah:RB V2u g sp (swp R2.2 (R2.1) (a)):=ah;have bi:(swp R2.2 (R2.1) (a)).size=R2.2.size:=Go.Sort.size_swp R2.2 (R2.1) (a);exact⟨R2.1,false,_,ab,rfl,ah,zd a5 (zd (zA _ g) (zd bg a6))⟩
theorem zsz(hr:RB w g sp d)(hL:d.size=L)(hap:a<=pivot)(hpb:pivot<b)(hb:b<=L)(hl:L<=1000000) :
  Calls PG 265 #[.slice (some ⟨g,0,none⟩) L cap,i64 a,i64 b,i64 pivot] w fun e w'=>∃m d',Go.Sort.partitionEqual lt8 d a b pivot=(m,d')/\e = .returned (i64 (m:Nat))/\RB w' g sp d'/\w.grownBy w' (some g):=by
 refine qA 84 [.slice (some ⟨g,0,none⟩) L cap,i64 a,i64 b,i64 pivot] (.s .p (.s .p (.s .p (.c (.b (.l (.b (.c .p (.c .p .p))))) .p)))) Tryz.func265 ?_;have ad:a<d.size:=by omega
 have ah:pivot<d.size:=by omega
 have q0:RB w.drew g sp d:=hr;refine DrawE.ord [13,15] [0,1,2,3,4,5,6,7,8,9,10,11,12,13,14,15] (by kernel_rfl) ⟨pivot,rfl,by omega,?_⟩;refine⟨_,zy q0 ah,a,rfl,by omega,?_⟩;refine⟨_,zy q0 ad,a,rfl,by omega,?_⟩;refine zQ k5 rfl q0 ad d[pivot]! fun V1s aq ao=>⟨pivot,rfl,by omega,?_⟩;refine zQ k5 rfl aq (by rw[Array.size_setIfInBounds];exact ah) d[a]! fun V2s aa am=>?_;have aa:RB V2s g sp (swp d (a) (pivot)):=aa;have ae:(swp d (a) (pivot)).size=d.size:=Go.Sort.size_swp d (a) (pivot);obtain⟨d1,af⟩:=nm (swp d a pivot);rw[<- af] at aa ae;have g0:=zd (zA w g) (zd ao am);have al:d1.size=L:=by rw[ae];exact hL
 refine⟨((a+1:Nat):Int),(ze (by first | omega | (dsimp only;omega))).trans (by first | omega | (dsimp only;omega)),?_⟩;obtain⟨J0,ar⟩:=nm (b-1);refine⟨((J0:Nat):Int),(ze (by first | omega | (dsimp only;omega))).trans (by first | omega | (dsimp only;omega)),?_⟩;have an:Go.Sort.partitionEqual lt8 d a b pivot=Go.Sort.partEqLoop lt8 a (a+1) J0 d1:=by rw[ar,af];rfl
 obtain⟨R2,ai⟩:=nm (Go.Sort.partEqLoop lt8 a (a+1) J0 d1);refine⟨Unit,fun _=>⟨[(0,.slice (some ⟨g,0,none⟩) L cap),(1,i64 a),(2,i64 b),(3,i64 pivot),(9,i64 (R2.1:Nat))],[]⟩,fun _ X=>(a<=R2.1/\R2.1<=b)/\R2.2.size=L/\RB X g sp R2.2/\w.grownBy X (some g),?_,?_⟩
 ·refine⟨Nat×Nat×Array UInt8,fun s=>⟨[(0,.slice (some ⟨g,0,none⟩) L cap),(1,i64 a),(2,i64 b),(3,i64 pivot),(9,i64 (s.1:Nat)),(10,i64 (s.2.1:Nat))],[]⟩,fun s X=>(a+1<=s.1/\s.1<=s.2.1+1/\s.2.1<b)/\s.2.2.size=L/\Go.Sort.partEqLoop lt8 a s.1 s.2.1 s.2.2=R2/\RB X g sp s.2.2/\w.grownBy X (some g),fun s=>s.2.1+1-s.1,((a+1),J0,d1),(cvE rfl rfl),⟨⟨by show a+1<=(a+1);omega,by show(a+1)<=J0+1;omega,by show J0<b;omega⟩,al,ai.symm,aa,g0⟩,?_⟩;rintro⟨i,j,e⟩ X ⟨⟨hi,q,ap⟩,ac,hR,ab,gX⟩;dsimp only at hi q ap ac hR ab;rw[Go.Sort.partEqLoop_eq] at hR;obtain⟨I,hI⟩:=nm (Go.Sort.scanUp (fun x => !lt8 e[a]! x) e j i);rw[<- hI] at hR;obtain⟨J,hJ⟩:=nm (Go.Sort.scanDown (fun x=>lt8 e[a]! x) e I j);rw[<- hJ] at hR;refine⟨Unit,fun _=>⟨[(0,.slice (some ⟨g,0,none⟩) L cap),(1,i64 a),(2,i64 b),(3,i64 pivot),(9,i64 (I:Nat)),(10,i64 (j:Nat))],[]⟩,fun _ X=>(i<=I/\I<=j+1/\(I<=j->(!lt8 e[a]! e[I]!)=false))/\RB X g sp e/\w.grownBy X (some g),?_,?_⟩
  ·refine⟨Nat,fun u=>⟨[(0,.slice (some ⟨g,0,none⟩) L cap),(1,i64 a),(2,i64 b),(3,i64 pivot),(9,i64 (u:Nat)),(10,i64 (j:Nat))],[]⟩,fun u X=>i<=u/\u<=j+1/\Go.Sort.scanUp (fun x => !lt8 e[a]! x) e j u=I/\RB X g sp e/\w.grownBy X (some g),fun u=>j+1-u,i,(cvE rfl rfl),⟨by omega,by omega,hI.symm,ab,gX⟩,?_⟩;rintro u Y ⟨hi,q,f,y,gY⟩;have o:=zd gY (zA Y g);have z:RB Y.drew g sp e:=y;refine DrawE.ord [] [0,1,2,3,4,5,6,7,8,9,10,11,12,13,14] (by kernel_rfl) (biE (fun r=>?_) fun r=>?_)
   ·have r:(u:Int)<=(j:Int):=dT r;have r:u<=j:=(by omega);have v:u<e.size:=(by omega);have t:a<e.size:=(by omega);refine⟨a,rfl,by omega,?_⟩;refine⟨_,zy z t,u,rfl,by omega,?_⟩;refine⟨_,zy z v,cmo jX ?_⟩;rintro e _ ⟨rfl,rfl⟩;refine⟨Gb _ _,biE (fun n=>?_) fun n=>?_⟩
    ·have n:(!lt8 e[a]! e[u]!)=true:=n;rw[ze0 (p:=fun x => !lt8 e[a]! x) r n] at f;exact⟨((u+1:Nat):Int),(ze (by first | omega | (dsimp only;omega))).trans (by first | omega | (dsimp only;omega)),u+1,(cvE rfl rfl),⟨by omega,by omega,f,z,o⟩,zdc (by omega)⟩
    ·have n:(!lt8 e[a]! e[u]!)=false:=n;rw[zcb (p:=fun x => !lt8 e[a]! x) fun _=>n] at f;subst f;exact⟨(),(cvE rfl rfl),⟨hi,q,fun _=>n⟩,z,o⟩
   ·have r:¬(u:Int)<=(j:Int):=dF r;refine Gf (fun h=>by cases h) (fun _=>?_);rw[zcb (p:=fun x => !lt8 e[a]! x) fun h=>Gp h (by omega)] at f;subst f;exact⟨(),(cvE rfl rfl),⟨hi,q,fun h=>Gp h (by omega)⟩,z,o⟩
  rintro _ Y ⟨⟨av,au,aj⟩,y,gY⟩;refine⟨Unit,fun _=>⟨[(0,.slice (some ⟨g,0,none⟩) L cap),(1,i64 a),(2,i64 b),(3,i64 pivot),(9,i64 (I:Nat)),(10,i64 (J:Nat))],[]⟩,fun _ X=>(J<=j/\I<=J+1/\(I<=J->lt8 e[a]! e[J]! = false))/\RB X g sp e/\w.grownBy X (some g),?_,?_⟩
  ·refine⟨Nat,fun k=>⟨[(0,.slice (some ⟨g,0,none⟩) L cap),(1,i64 a),(2,i64 b),(3,i64 pivot),(9,i64 (I:Nat)),(10,i64 (k:Nat))],[]⟩,fun k X=>k<=j/\I<=k+1/\Go.Sort.scanDown (fun x=>lt8 e[a]! x) e I k=J/\RB X g sp e/\w.grownBy X (some g),fun k=>k,j,(cvE rfl rfl),⟨UW _,by omega,hJ.symm,y,gY⟩,?_⟩;rintro k Y ⟨hi,q,f,y,gY⟩;have o:=zd gY (zA Y g);have z:RB Y.drew g sp e:=y;refine DrawE.ord [] [0,1,2,3,4,5,6,7,8,9,10,11,12,13] (by kernel_rfl) (biE (fun r=>?_) fun r=>?_)
   ·have r:(I:Int)<=(k:Int):=dT r;have r:I<=k:=(by omega);have v:k<e.size:=(by omega);have t:a<e.size:=(by omega);refine⟨a,rfl,by omega,?_⟩;refine⟨_,zy z t,k,rfl,by omega,?_⟩;refine⟨_,zy z v,cmo jX ?_⟩;rintro e _ ⟨rfl,rfl⟩;refine⟨Gb _ _,biE (fun n=>?_) fun n=>?_⟩
    ·have n:lt8 e[a]! e[k]! = true:=n;obtain⟨m,rfl⟩:∃m,k=m+1:=⟨k-1,by omega⟩;rw[zdw (p:=fun x=>lt8 e[a]! x) r n] at f;exact⟨((m:Nat):Int),(ze (by first | omega | (dsimp only;omega))).trans (by first | omega | (dsimp only;omega)),m,(cvE rfl rfl),⟨by omega,by omega,f,z,o⟩,Qx m⟩
    ·have n:lt8 e[a]! e[k]! = false:=n;rw[zbf (p:=fun x=>lt8 e[a]! x) fun _=>n] at f;subst f;exact⟨(),(cvE rfl rfl),⟨hi,q,fun _=>n⟩,z,o⟩
   ·have r:¬(I:Int)<=(k:Int):=dF r;refine Gf (fun h=>by cases h) (fun _=>?_);rw[zbf (p:=fun x=>lt8 e[a]! x) fun h=>Gp h (by omega)] at f;subst f;exact⟨(),(cvE rfl rfl),⟨hi,q,fun h=>Gp h (by omega)⟩,z,o⟩
  rintro _ Z ⟨⟨ax,az,ak⟩,ag,gZ⟩;refine biE (fun hc=>?_) fun hc=>?_
  ·have hc:(J:Int)<(I:Int):=dT hc;rw[Gn (by omega)] at hR;subst hR;exact⟨(),(cvE rfl rfl),⟨by show a<=I;omega,by show I<=b;omega⟩,ac,ag,gZ⟩
  ·have hc:¬(J:Int)<(I:Int):=dF hc;rw[Gm (by omega)] at hR;have a1:I≠J:=fun h=>by
    have e1:=aj (by omega);have e2:=ak (by omega);rw[h] at e1;rw[e2] at e1
    cases e1
   have v:I<e.size:=by omega
   have t:J<e.size:=by omega
   have qe:RB Z.drew g sp e:=ag;refine DrawE.ord [13,15] [0,1,2,3,4,5,6,7,8,9,10,11,12,13,14,15] (by kernel_rfl) ⟨J,rfl,by omega,?_⟩;refine⟨_,zy qe t,I,rfl,by omega,?_⟩;refine⟨_,zy qe v,I,rfl,by omega,?_⟩;refine zQ k5 rfl qe v e[J]! fun V1 q1 g1=>⟨J,rfl,by omega,?_⟩;refine zQ k5 rfl q1 (by rw[Array.size_setIfInBounds];exact t) e[I]! fun V2 q2 g2=>?_;have q2:RB V2 g sp (swp e (I) (J)):=q2;have z2:(swp e (I) (J)).size=e.size:=Go.Sort.size_swp e (I) (J);exact⟨((I+1:Nat):Int),(ze (by first | omega | (dsimp only;omega))).trans (by first | omega | (dsimp only;omega)),((J-1:Nat):Int),(ze (by first | omega | (dsimp only;omega))).trans (by first | omega | (dsimp only;omega)),(I+1,J-1,swp e I J),(cvE rfl rfl),⟨⟨by show a+1<=I+1;omega,by show I+1<=J-1+1;omega,by show J-1<b;omega⟩,by show(swp e I J).size=L;rw[z2];exact ac,hR,q2,zd gZ (zd (zA _ g) (zd g1 g2))⟩,by show J-1+1-(I+1)<j+1-i;omega⟩
 rintro _ X ⟨⟨ay,a0⟩,aw,ab,gX⟩;exact⟨R2.1,R2.2,an.trans ai.symm,rfl,ab,gX⟩
end
theorem zqy{d:Array UInt8}{b i:Nat}(h:i<b)(hp:lt8 d[i]! d[i-1]! = false):Go.Sort.scanSorted lt8 d b i=Go.Sort.scanSorted lt8 d b (i+1):=by
 rw[Go.Sort.scanSorted,Gn (by rw[Up h,hp];rfl)]
theorem zl2{d:Array UInt8}{b i:Nat}(h:i<b->lt8 d[i]! d[i-1]! = true):Go.Sort.scanSorted lt8 d b i=i:=by
 rw[Go.Sort.scanSorted];by_cases e:i<b
 ·rw[Gm (by rw[h e,Ut,Uf];exact Kv)]
 ·rw[Gm (by rw[Ue e];exact Kv)]
section
variable{w:Wd}{g cap L a b:Nat}{sp:List Value}{d:Array UInt8}
theorem zwJ(hr:RB w g sp d)(hL:d.size=L)(hab:a<b)(hb:b<=L)(hl:L<=1000000) :
  Calls PG 262 #[.slice (some ⟨g,0,none⟩) L cap,i64 a,i64 b] w fun e w'=>e = .returned (.tuple #[])/\RB w' g sp (Go.Sort.reverseRange d a b)/\w.grownBy w' (some g):=by
 refine zD 32 [.slice (some ⟨g,0,none⟩) L cap,i64 a,i64 b] Tryz.func262 ?_;obtain⟨R,q⟩:=nm (Go.Sort.reverseRange d a b);rw[<- q];refine⟨((b-1:Nat):Int),(ze (by first | omega | (dsimp only;omega))).trans (by first | omega | (dsimp only;omega)),Nat×Nat×Array UInt8,fun s=>⟨[(0,.slice (some ⟨g,0,none⟩) L cap),(1,i64 a),(2,i64 b),(6,i64 (s.1:Nat)),(7,i64 (s.2.1:Nat))],[]⟩,fun s X=>s.2.1<b/\s.2.2.size=L/\Go.Sort.reverseLoop s.1 s.2.1 s.2.2=R/\RB X g sp s.2.2/\w.grownBy X (some g),fun s=>s.2.1-s.1,(a,b-1,d),(cvE rfl rfl),⟨by show b-1<b;omega,hL,q.symm,hr,qo _ _⟩,?_⟩;rintro⟨i,j,e⟩ X ⟨u,h,c,f,p⟩;dsimp only at u h c f;rw[Go.Sort.reverseLoop] at c;refine biE (fun m=>?_) fun m=>?_
 ·have m:(i:Int)<(j:Int):=dT m;rw[Gn (by omega)] at c;have k:i<e.size:=by omega
  have l:j<e.size:=by omega
  have o:RB X.drew g sp e:=f;refine DrawE.ord [13,15] [0,1,2,3,4,5,6,7,8,9,10,11,12,13,14,15] (by kernel_rfl) ⟨j,rfl,by omega,?_⟩;refine⟨_,zy o l,i,rfl,by omega,?_⟩;refine⟨_,zy o k,i,rfl,by omega,?_⟩;refine zQ k5 rfl o k e[j]! fun V1 t r=>⟨j,rfl,by omega,?_⟩;refine zQ k5 rfl t (by rw[Array.size_setIfInBounds];exact l) e[i]! fun V2 n v=>?_;have n:RB V2 g sp (swp e (i) (j)):=n;have x:(swp e (i) (j)).size=e.size:=Go.Sort.size_swp e (i) (j);exact⟨((i+1:Nat):Int),(ze (by first | omega | (dsimp only;omega))).trans (by first | omega | (dsimp only;omega)),((j-1:Nat):Int),(ze (by first | omega | (dsimp only;omega))).trans (by first | omega | (dsimp only;omega)),(i+1,j-1,swp e i j),(cvE rfl rfl),⟨by show j-1<b;omega,by show(swp e i j).size=L;rw[x];exact h,c,n,zd p (zd (zA _ g) (zd r v))⟩,by show j-1-(i+1)<j-i;omega⟩
 ·have m:¬(i:Int)<(j:Int):=dF m;rw[Gm (by omega)] at c;exact⟨rfl,c▸f,p⟩
theorem zqN(hr:RB w g sp d)(hL:d.size=L)(hab:a<b)(hb:b<=L)(hl:L<=1000000) :
  Calls PG 263 #[.slice (some ⟨g,0,none⟩) L cap,i64 a,i64 b] w fun e w'=>∃d' ok,Go.Sort.partialInsertionSort lt8 d a b=(d',ok)/\e = .returned (.bool ok)/\RB w' g sp d'/\w.grownBy w' (some g):=by
 refine qA 133 [.slice (some ⟨g,0,none⟩) L cap,i64 a,i64 b] (.s .p (.s .p (.s (.s .p (.b (.l (.s .p (.c (.b (.c .p (.s .p (.s .p (.s .p (.c .p .p)))))) .p))))) .p))) Tryz.func263 ?_;obtain⟨R,hR⟩:=nm (Go.Sort.partialInsertionSort lt8 d a b);have ak:∀Z d' ok,(d',ok)=R->RB Z g sp d'->w.grownBy Z (some g)->∃d'' ok',Go.Sort.partialInsertionSort lt8 d a b=(d'',ok')/\Ending.returned (.bool ok) = .returned (.bool ok')/\RB Z g sp d''/\w.grownBy Z (some g):=fun Z d' ok e q gz=>⟨d',ok,by rw[<- hR,<- e],rfl,q,gz⟩;refine⟨((a+1:Nat):Int),(ze (by first | omega | (dsimp only;omega))).trans (by first | omega | (dsimp only;omega)),Nat×Nat×Array UInt8,fun s=>⟨[(0,.slice (some ⟨g,0,none⟩) L cap),(1,i64 a),(2,i64 b),(7,i64 (s.2.1:Nat)),(8,i64 (s.1:Nat))],[]⟩,fun s X=>(s.1<=5/\a+1<=s.2.1/\s.2.1<=b)/\s.2.2.size=L/\Go.Sort.partialIns lt8 a b (5-s.1) s.2.1 s.2.2=R/\RB X g sp s.2.2/\w.grownBy X (some g),fun s=>5-s.1,(0,a+1,d),(cvE rfl rfl),⟨⟨by show 0<=5;decide,UW _,by show a+1<=b;omega⟩,hL,hR.symm,hr,qo _ _⟩,?_⟩;rintro⟨n,i,e⟩ X ⟨⟨hn,hi,aq⟩,al,o,ai,gX⟩;dsimp only at hn hi aq al o ai;refine biE (fun hc=>?_) fun hc=>?_
 ·have hc:(n:Int)<5:=dT hc;have ax:5-n=(5-(n+1))+1:=by omega
  rw[ax] at o;obtain⟨I,hI⟩:=nm (Go.Sort.scanSorted lt8 e b i);have o:(if I=b then(e,true) else if b-a<50 then(e,false) else Go.Sort.partialIns lt8 a b (5-(n+1)) I (if b-I ≥ 2 then Go.Sort.shiftUp lt8 b (I+1) (if I-a ≥ 2 then Go.Sort.shiftDown lt8 (I-1) (swp e I (I-1)) else swp e I (I-1)) else(if I-a ≥ 2 then Go.Sort.shiftDown lt8 (I-1) (swp e I (I-1)) else swp e I (I-1))))=R:=by rw[hI];exact o
  obtain⟨D1,am⟩:=nm (swp e I (I-1));obtain⟨D2,ae⟩:=nm ((if I-a ≥ 2 then Go.Sort.shiftDown lt8 (I-1) D1 else D1));obtain⟨D3,aa⟩:=nm ((if b-I ≥ 2 then Go.Sort.shiftUp lt8 b (I+1) D2 else D2));rw[<- am,<- ae,<- aa] at o;refine⟨Unit,fun _=>⟨[(0,.slice (some ⟨g,0,none⟩) L cap),(1,i64 a),(2,i64 b),(7,i64 (I:Nat)),(8,i64 (n:Nat))],[]⟩,fun _ Y=>(a+1<=I/\I<=b)/\D3.size=L/\Go.Sort.partialIns lt8 a b (5-(n+1)) I D3=R/\RB Y g sp D3/\w.grownBy Y (some g),?_,?_⟩
  ·refine⟨Unit,fun _=>⟨[(0,.slice (some ⟨g,0,none⟩) L cap),(1,i64 a),(2,i64 b),(7,i64 (I:Nat)),(8,i64 (n:Nat))],[]⟩,fun _ Y=>(a+1<=I/\I<=b)/\RB Y g sp e/\w.grownBy Y (some g),?_,?_⟩
   ·refine⟨Nat,fun k=>⟨[(0,.slice (some ⟨g,0,none⟩) L cap),(1,i64 a),(2,i64 b),(7,i64 (k:Nat)),(8,i64 (n:Nat))],[]⟩,fun k Y=>(a+1<=k/\k<=b)/\Go.Sort.scanSorted lt8 e b k=I/\RB Y g sp e/\w.grownBy Y (some g),fun k=>b-k,i,(cvE rfl rfl),⟨⟨hi,aq⟩,hI.symm,ai,gX⟩,?_⟩;rintro k Y ⟨⟨au,ap⟩,z,x,gY⟩;have aj:=zd gY (zA Y g);have qd:RB Y.drew g sp e:=x;refine DrawE.ord [] [0,1,2,3,4,5,6,7,8,9,10,11,12,13,14,15] (by kernel_rfl) (biE (fun h2=>?_) fun h2=>?_)
    ·have h2:(k:Int)<(b:Int):=dT h2;have h2:k<b:=(by omega);have ah:k<e.size:=(by omega);have ag:k-1<e.size:=(by omega);refine⟨k,rfl,by omega,?_⟩;refine⟨_,zy qd ah,((k-1:Nat):Int),(ze (by first | omega | (dsimp only;omega))).trans (by first | omega | (dsimp only;omega)),k-1,rfl,by omega,?_⟩;refine⟨_,zy qd ag,cmo jX ?_⟩;rintro e _ ⟨rfl,rfl⟩;refine⟨Gb _ _,biE (fun h3=>?_) fun h3=>?_⟩
     ·have h3:(!lt8 e[k]! e[k-1]!)=true:=h3;have h3:lt8 e[k]! e[k-1]! = false:=(by simpa using h3);rw[zqy h2 h3] at z;exact⟨((k+1:Nat):Int),(ze (by first | omega | (dsimp only;omega))).trans (by first | omega | (dsimp only;omega)),k+1,(cvE rfl rfl),⟨⟨by omega,by omega⟩,z,qd,aj⟩,zdc (by omega)⟩
     ·have h3:(!lt8 e[k]! e[k-1]!)=false:=h3;have h3:lt8 e[k]! e[k-1]! = true:=(by simpa using h3);rw[zl2 fun _=>h3] at z;subst z;exact⟨(),(cvE rfl rfl),⟨au,ap⟩,qd,aj⟩
    ·have h2:¬(k:Int)<(b:Int):=dF h2;refine Gf (fun h=>by cases h) (fun _=>?_);rw[zl2 fun h=>Gp h (by omega)] at z;subst z;exact⟨(),(cvE rfl rfl),⟨au,ap⟩,qd,aj⟩
   rintro _ Y ⟨⟨ac,ab⟩,x,gY⟩;refine biE (fun h=>?_) fun h=>?_
   ·have h:(I:Int)=(b:Int):=dT h;rw[Gn (by omega)] at o;exact ak _ _ _ o x gY
   ·have h:¬(I:Int)=(b:Int):=dF h;have a2:I<b:=(by omega);rw[Gm (by omega)] at o;refine⟨((b-a:Nat):Int),(ze (by first | omega | (dsimp only;omega))).trans (by first | omega | (dsimp only;omega)),biE (fun h5=>?_) fun h5=>?_⟩
    ·have h5:((b-a:Nat):Int)<50:=dT h5;rw[Gn (by omega)] at o;exact ak _ _ _ o x gY
    ·have h5:¬((b-a:Nat):Int)<50:=dF h5;rw[Gm (by omega)] at o;have ah:I<e.size:=(by omega);have ag:I-1<e.size:=(by omega);have qd:RB Y.drew g sp e:=x;refine DrawE.ord [15,17] [0,1,2,3,4,5,6,7,8,9,10,11,12,13,14,15,16,17] (by kernel_rfl) ⟨((I-1:Nat):Int),(ze (by first | omega | (dsimp only;omega))).trans (by first | omega | (dsimp only;omega)),((I-1:Nat):Int),(ze (by first | omega | (dsimp only;omega))).trans (by first | omega | (dsimp only;omega)),I-1,rfl,by omega,?_⟩;refine⟨_,zy qd ag,I,rfl,by omega,?_⟩;refine⟨_,zy qd ah,I,rfl,by omega,?_⟩;refine zQ k5 rfl qd ah e[I-1]! fun V1s a1 az=>⟨I-1,rfl,by omega,?_⟩;refine zQ k5 rfl a1 (by rw[Array.size_setIfInBounds];exact ag) e[I]! fun V2s ad ay=>?_;have ad:RB V2s g sp (swp e (I) (I-1)):=ad;have ao:(swp e (I) (I-1)).size=e.size:=Go.Sort.size_swp e (I) (I-1);rw[<- am] at ad ao;have gs:=zd gY (zd (zA _ g) (zd az ay));have an:D1.size=L:=(by rw[ao];exact al);refine⟨Unit,fun _=>⟨[(0,.slice (some ⟨g,0,none⟩) L cap),(1,i64 a),(2,i64 b),(7,i64 (I:Nat)),(8,i64 (n:Nat))],[]⟩,fun _ Z=>D2.size=L/\RB Z g sp D2/\w.grownBy Z (some g),?_,?_⟩
     ·refine⟨((I-a:Nat):Int),(ze (by first | omega | (dsimp only;omega))).trans (by first | omega | (dsimp only;omega)),biE (fun h6=>?_) fun h6=>?_⟩
      ·have h6:(2:Int)<=((I-a:Nat):Int):=dT h6;rw[Gn (by omega)] at ae;refine⟨((I-1:Nat):Int),(ze (by first | omega | (dsimp only;omega))).trans (by first | omega | (dsimp only;omega)),Nat×Array UInt8,fun s=>⟨[(0,.slice (some ⟨g,0,none⟩) L cap),(1,i64 a),(2,i64 b),(7,i64 (I:Nat)),(8,i64 (n:Nat)),(9,i64 (s.1:Nat))],[]⟩,fun s V=>(s.1<=I-1)/\s.2.size=L/\Go.Sort.shiftDown lt8 s.1 s.2=D2/\RB V g sp s.2/\w.grownBy V (some g),fun s=>s.1,(I-1,D1),(cvE rfl rfl),⟨UW _,an,ae.symm,ad,gs⟩,?_⟩;rintro⟨k,f⟩ V ⟨hk,r,j,t,gV⟩;dsimp only at hk r j t;refine biE (fun h7=>?_) fun h7=>?_
       ·have h7:(1:Int)<=(k:Int):=dT h7;obtain⟨m,rfl⟩:∃m,k=m+1:=⟨k-1,by omega⟩;have j:(if(!lt8 f[m+1]! f[m]!)=true then f else Go.Sort.shiftDown lt8 m (swp f (m+1) m))=D2:=j;have v:m+1<f.size:=(by omega);have u:m<f.size:=(by omega);have qv:RB V.drew g sp f:=t;have af:=zd gV (zA V g);refine DrawE.ord [] [0,1,2,3,4,5,6,7,8,9,10] (by kernel_rfl) ⟨m+1,rfl,by omega,?_⟩;refine⟨_,zy qv v,((m:Nat):Int),(ze (by first | omega | (dsimp only;omega))).trans (by first | omega | (dsimp only;omega)),m,rfl,by omega,?_⟩;refine⟨_,zy qv u,cmo jX ?_⟩;rintro e _ ⟨rfl,rfl⟩;refine⟨Gb _ _,biE (fun y=>?_) fun y=>?_⟩
        ·have y:(!lt8 f[m+1]! f[m]!)=true:=y;rw[Gn y] at j;subst j;exact⟨(),(cvE rfl rfl),r,qv,af⟩
        ·have y:(!lt8 f[m+1]! f[m]!)=false:=y;rw[Gm (by rw[y];exact Kv)] at j;have qw:RB V.drew.drew g sp f:=t;refine DrawE.ord [15,17] [0,1,2,3,4,5,6,7,8,9,10,11,12,13,14,15,16,17] (by kernel_rfl) ⟨((m:Nat):Int),(ze (by first | omega | (dsimp only;omega))).trans (by first | omega | (dsimp only;omega)),((m:Nat):Int),(ze (by first | omega | (dsimp only;omega))).trans (by first | omega | (dsimp only;omega)),m,rfl,by omega,?_⟩;refine⟨_,zy qw u,m+1,rfl,by omega,?_⟩;refine⟨_,zy qw v,m+1,rfl,by omega,?_⟩;refine zQ k5 rfl qw v f[m]! fun V1 q1 g1=>⟨m,rfl,by omega,?_⟩;refine zQ k5 rfl q1 (by rw[Array.size_setIfInBounds];exact u) f[m+1]! fun V2 q2 g2=>?_;have q2:RB V2 g sp (swp f (m+1) (m)):=q2;have z2:(swp f (m+1) (m)).size=f.size:=Go.Sort.size_swp f (m+1) (m);exact⟨((m:Nat):Int),(ze (by first | omega | (dsimp only;omega))).trans (by first | omega | (dsimp only;omega)),(m,swp f (m+1) m),(cvE rfl rfl),⟨by show m<=I-1;omega,by show(swp f _ _).size=L;rw[z2];exact r,j,q2,zd af (zd (zA _ g) (zd g1 g2))⟩,Qx m⟩
       ·have h7:¬(1:Int)<=(k:Int):=dF h7;obtain rfl:k=0:=(by omega);have j:f=D2:=j;subst j;exact⟨(),(cvE rfl rfl),r,t,gV⟩
      ·have h6:¬(2:Int)<=((I-a:Nat):Int):=dF h6;rw[Gm (by omega)] at ae;subst ae;exact⟨(),(cvE rfl rfl),an,ad,gs⟩
     rintro _ Z ⟨av,ar,gZ⟩;refine⟨((b-I:Nat):Int),(ze (by first | omega | (dsimp only;omega))).trans (by first | omega | (dsimp only;omega)),biE (fun h6=>?_) fun h6=>?_⟩
     ·have h6:(2:Int)<=((b-I:Nat):Int):=dT h6;rw[Gn (by omega)] at aa;refine⟨((I+1:Nat):Int),(ze (by first | omega | (dsimp only;omega))).trans (by first | omega | (dsimp only;omega)),Nat×Array UInt8,fun s=>⟨[(0,.slice (some ⟨g,0,none⟩) L cap),(1,i64 a),(2,i64 b),(7,i64 (I:Nat)),(8,i64 (n:Nat)),(10,i64 (s.1:Nat))],[]⟩,fun s V=>(I+1<=s.1/\s.1<=b)/\s.2.size=L/\Go.Sort.shiftUp lt8 b s.1 s.2=D3/\RB V g sp s.2/\w.grownBy V (some g),fun s=>b-s.1,(I+1,D2),(cvE rfl rfl),⟨⟨UW _,by show I+1<=b;omega⟩,av,aa.symm,ar,gZ⟩,?_⟩;rintro⟨k,f⟩ V ⟨hk,r,j,t,gV⟩;dsimp only at hk r j t;refine biE (fun h7=>?_) fun h7=>?_
      ·have h7:(k:Int)<(b:Int):=dT h7;rw[Go.Sort.shiftUp,Gn (by omega)] at j;have v:k<f.size:=(by omega);have u:k-1<f.size:=(by omega);have qv:RB V.drew g sp f:=t;have af:=zd gV (zA V g);refine DrawE.ord [] [0,1,2,3,4,5,6,7,8,9,10] (by kernel_rfl) ⟨k,rfl,by omega,?_⟩;refine⟨_,zy qv v,((k-1:Nat):Int),(ze (by first | omega | (dsimp only;omega))).trans (by first | omega | (dsimp only;omega)),k-1,rfl,by omega,?_⟩;refine⟨_,zy qv u,cmo jX ?_⟩;rintro e _ ⟨rfl,rfl⟩;refine⟨Gb _ _,biE (fun y=>?_) fun y=>?_⟩
       ·have y:(!lt8 f[k]! f[k-1]!)=true:=y;rw[Gn y] at j;subst j;exact⟨(),(cvE rfl rfl),⟨ac,ab⟩,r,o,qv,af⟩
       ·have y:(!lt8 f[k]! f[k-1]!)=false:=y;rw[Gm (by rw[y];exact Kv)] at j;have qw:RB V.drew.drew g sp f:=t;refine DrawE.ord [15,17] [0,1,2,3,4,5,6,7,8,9,10,11,12,13,14,15,16,17] (by kernel_rfl) ⟨((k-1:Nat):Int),(ze (by first | omega | (dsimp only;omega))).trans (by first | omega | (dsimp only;omega)),((k-1:Nat):Int),(ze (by first | omega | (dsimp only;omega))).trans (by first | omega | (dsimp only;omega)),k-1,rfl,by omega,?_⟩;refine⟨_,zy qw u,k,rfl,by omega,?_⟩;refine⟨_,zy qw v,k,rfl,by omega,?_⟩;refine zQ k5 rfl qw v f[k-1]! fun V1 q1 g1=>⟨k-1,rfl,by omega,?_⟩;refine zQ k5 rfl q1 (by rw[Array.size_setIfInBounds];exact u) f[k]! fun V2 q2 g2=>?_;have q2:RB V2 g sp (swp f (k) (k-1)):=q2;have z2:(swp f (k) (k-1)).size=f.size:=Go.Sort.size_swp f (k) (k-1);exact⟨((k+1:Nat):Int),(ze (by first | omega | (dsimp only;omega))).trans (by first | omega | (dsimp only;omega)),(k+1,swp f k (k-1)),(cvE rfl rfl),⟨⟨by show I+1<=k+1;omega,by show k+1<=b;omega⟩,by show(swp f _ _).size=L;rw[z2];exact r,j,q2,zd af (zd (zA _ g) (zd g1 g2))⟩,zdc (by omega)⟩
      ·have h7:¬(k:Int)<(b:Int):=dF h7;rw[Go.Sort.shiftUp,Gm (by omega)] at j;subst j;exact⟨(),(cvE rfl rfl),⟨ac,ab⟩,r,o,t,gV⟩
     ·have h6:¬(2:Int)<=((b-I:Nat):Int):=dF h6;rw[Gm (by omega)] at aa;subst aa;exact⟨(),(cvE rfl rfl),⟨ac,ab⟩,av,o,ar,gZ⟩
  rintro _ Y ⟨⟨ac,ab⟩,a0,aw,x,gY⟩;exact⟨((n+1:Nat):Int),(ze (by first | omega | (dsimp only;omega))).trans (by first | omega | (dsimp only;omega)),(n+1,I,D3),(cvE rfl rfl),⟨⟨by show n+1<=5;omega,ac,ab⟩,a0,aw,x,gY⟩,zdc (by omega)⟩
 ·have hc:¬(n:Int)<5:=dF hc;obtain rfl:n=5:=by omega
  have o:(e,false)=R:=o;exact ak _ _ _ o ai gX
end
abbrev zjp (w:Wd) (s:Nat) (v:Int):Prop:=w.heap[s]?=some (.cells #[.int .i64 v] 3 (0,0))
theorem zpF{w:Wd}{s:Nat}{v:Int}(h:zjp w s v):w.cell? ⟨s,0,none⟩=some (.int .i64 v):=zc (za h) (i:=0) rfl
section
variable{w:Wd}{g cap L a b s:Nat}{v:Int}{sp:List Value}{d:Array UInt8}
theorem zfC{w2:Wd}(h:RB w g sp d)(hg:w.grownBy w2 (some s))(hs:s≠g):RB w2 g sp d:=by
 refine RowS.same h (hg.block g (RowS.lt h) fun e=>hs ?_)
 cases e;rfl
theorem ziw(hr:RB w g sp d)(hL:d.size=L)(hb:zjp w s v)(hs:s≠g)(ha:a<L)(hbL:b<L)(hl:L<=1000000) :
  Calls PG 318 #[.slice (some ⟨g,0,none⟩) L cap,i64 a,i64 b,At0 s] w fun e w'=>(∃x y:Nat,e = .returned (.tuple #[i64 x,i64 y])/\((x=a/\y=b)\/(x=b/\y=a)))/\(∃u,zjp w' s u)/\w.grownBy w' (some s):=by
 refine zD 28 [.slice (some ⟨g,0,none⟩) L cap,i64 a,i64 b,At0 s] Tryz.func318 ?_;have j:RB w.drew g sp d:=hr;have f:a<d.size:=by omega
 have i:b<d.size:=by omega
 have c:zjp w.drew s v:=hb;refine DrawE.ord [] [0,1,2,3,4,5,6,7,8] (by kernel_rfl) ⟨b,rfl,by omega,?_⟩;refine⟨_,zy j i,a,rfl,by omega,?_⟩;refine⟨_,zy j f,cmo jX ?_⟩;rintro e _ ⟨rfl,rfl⟩;refine⟨Gb _ _,biE (fun h=>?_) fun h=>?_⟩
 ·exact⟨_,zpF c,_,rfl,jn k3 rfl c (o:=0) (by show 0<1;decide) (v := .int .i64 (IntKind.i64.wrap (v+1))) rfl rfl fun Y l k m=>⟨⟨b,a,rfl,.inr ⟨rfl,rfl⟩⟩,⟨_,l⟩,zd (zA w s) k⟩⟩
 ·exact⟨⟨a,b,rfl,.inl ⟨rfl,rfl⟩⟩,⟨_,c⟩,zA w s⟩
theorem zmE{c:Nat}(hr:RB w g sp d)(hL:d.size=L)(hb:zjp w s v)(hs:s≠g)(ha:a<L)(hbL:b<L)(hcL:c<L)(hl:L<=1000000) :
  Calls PG 308 #[.slice (some ⟨g,0,none⟩) L cap,i64 a,i64 b,i64 c,At0 s] w fun e w'=>(∃x:Nat,e = .returned (i64 x)/\(x=a\/x=b\/x=c))/\(∃u,zjp w' s u)/\w.grownBy w' (some s):=by
 refine zD 36 [.slice (some ⟨g,0,none⟩) L cap,i64 a,i64 b,i64 c,At0 s] Tryz.func308 ?_;refine cmo (ziw hr hL hb hs ha hbL hl) ?_;rintro e X ⟨⟨x,y,rfl,p⟩,⟨u,q⟩,j⟩;have f:=zfC hr j hs;refine cmo (ziw f hL q hs (a:=y) (b:=c) (by omega) hcL hl) ?_;rintro e Y ⟨⟨r,y2,rfl,k⟩,⟨u2,t⟩,h⟩;have o:=zfC f h hs;refine cmo (ziw o hL t hs (a:=x) (b:=r) (by omega) (by omega) hl) ?_;rintro e Z ⟨⟨z,l,rfl,i⟩,n,m⟩;exact⟨⟨l,rfl,by omega⟩,n,zd j (zd h m)⟩
theorem ziK(hr:RB w g sp d)(hL:d.size=L)(hb:zjp w s v)(hs:s≠g)(ha:1<=a)(haL:a+1<L)(hl:L<=1000000) :
  Calls PG 307 #[.slice (some ⟨g,0,none⟩) L cap,i64 a,At0 s] w fun e w'=>(∃x:Nat,e = .returned (i64 x)/\(x=a-1\/x=a\/x=a+1))/\(∃u,zjp w' s u)/\w.grownBy w' (some s):=by
 refine zD 15 [.slice (some ⟨g,0,none⟩) L cap,i64 a,At0 s] Tryz.func307 ?_;refine⟨((a-1:Nat):Int),(ze (by omega)).trans (by omega),nxI (by omega) (cmo (zmE hr hL hb hs (a:=a-1) (b:=a) (c:=a+1) (by omega) (by omega) haL hl) ?_)⟩;rintro e X ⟨⟨x,rfl,f⟩,hb,h⟩;exact⟨⟨x,rfl,f⟩,hb,h⟩
theorem zk2(n k:Nat)(h:n<=1000000):IntKind.i64.wrap ((n:Int).tdiv (k:Int))=((n/k:Nat):Int):=by
 have e:(n:Int).tdiv (k:Int)=((n/k:Nat):Int):=rfl;have:n/k<=n:=Nat.div_le_self n k;rw[e];generalize n/k=q at this ⊢;exact ze (by omega)
theorem zyu{a b n q L:Nat}(hn:n=b-a)(hq:4*q<=n)(h2:2<=q)(hb:b<=L):(1<=a+q*1/\a+q*1+1<L)/\(1<=a+q*2/\a+q*2+1<L)/\(1<=a+q*3/\a+q*3+1<L):=by omega
theorem zqM{a b n q x:Nat}(hn:n=b-a)(hq:4*q<=n)(h2:2<=q)(k:Nat)(hk:k=1\/k=2\/k=3)(hx:x=a+q*k-1\/x=a+q*k\/x=a+q*k+1):a<=x/\x<b:=by
 rcases hk with rfl | rfl | rfl <;> omega
theorem zuN(hr:RB w g sp d)(hL:d.size=L)(hab:a<b)(hbL:b<=L)(hl:L<=1000000) :
  Calls PG 261 #[.slice (some ⟨g,0,none⟩) L cap,i64 a,i64 b] w fun e w'=>(∃(p:Nat) (h:Int),e = .returned (.tuple #[i64 p,.int .i64 h])/\a<=p/\p<b)/\RB w' g sp d/\w.grownBy w' (some g):=by
 refine qA 57 [.slice (some ⟨g,0,none⟩) L cap,i64 a,i64 b] (.s .p (.s .p (.s .p (.s .p (.s .p (.c .p (.c (.s .p (.d (.c .p .p) .p)) .p))))))) Tryz.func261 ?_;obtain⟨n,l⟩:=nm (b-a);obtain⟨q,hq⟩:=nm (n/4);have ad:IntKind.i64.wrap (((b:Nat):Int)-((a:Nat):Int))=(n:Int):=(ze (by omega)).trans (by omega);have r:IntKind.i64.wrap ((n:Int).tdiv 4)=(q:Int):=by rw[hq];exact zk2 n 4 (by omega)
 have i:4*q<=n:=by omega
 refine⟨(n:Int),ad,?_⟩;obtain⟨s,ab⟩:=nm (w.heap.size);have bS:zjp (w.alloc (.cells #[.int .i64 0] 3)) s 0:=by rw[ab];exact zt w _
 have aa:Bw w (w.alloc (.cells #[.int .i64 0] 3)):=zba w _;have j:s≠g:=fun e=>by have:=RowS.lt hr;omega
 have rS:RB (w.alloc (.cells #[.int .i64 0] 3)) g sp d:=RowS.below hr aa;subst ab;refine⟨by decide,(q:Int),r,((q*1:Nat):Int),(ze (by omega)).trans (by omega),((a+q*1:Nat):Int),(ze (by omega)).trans (by omega),by decide,(q:Int),r,((q*2:Nat):Int),(ze (by omega)).trans (by omega),((a+q*2:Nat):Int),(ze (by omega)).trans (by omega),Unit,fun _=>⟨[(0,.slice (some ⟨g,0,none⟩) L cap),(1,i64 a),(2,i64 b),(8,i64 n),(9,At0 w.heap.size),(10,i64 (a+q*1:Nat)),(11,i64 (a+q*2:Nat)),(12,i64 (a+q*3:Nat))],[]⟩,fun _ X=>w.alloc (.cells #[.int .i64 0] 3)=X,?_,?_⟩
 ·exact⟨by decide,(q:Int),r,((q*3:Nat):Int),(ze (by omega)).trans (by omega),((a+q*3:Nat):Int),(ze (by omega)).trans (by omega),(),(cvE rfl rfl),rfl⟩
 rintro _ _ rfl;have keep:∀Y,(w.alloc (.cells #[.int .i64 0] 3)).grownBy Y (some w.heap.size)->RB Y g sp d/\w.grownBy Y (some g):=fun Y gY =>
  ⟨zfC rS gY j,zi (aa.trans (zl gY aa.size (by omega)))⟩
 refine⟨Nat×Int,fun t=>⟨[(0,.slice (some ⟨g,0,none⟩) L cap),(1,i64 a),(2,i64 b),(9,At0 w.heap.size),(11,i64 (t.1:Nat))],[]⟩,fun t X=>(a<=t.1/\t.1<b)/\zjp X w.heap.size t.2/\(w.alloc (.cells #[.int .i64 0] 3)).grownBy X (some w.heap.size),?_,?_⟩
 ·refine biE (fun hc=>?_) fun hc=>?_
  ·have hc:(8:Int)<=(n:Int):=dT hc;refine⟨(Nat×Nat×Nat)×Int,fun t=>⟨[(0,.slice (some ⟨g,0,none⟩) L cap),(1,i64 a),(2,i64 b),(9,At0 w.heap.size),(10,i64 (t.1.1:Nat)),(11,i64 (t.1.2.1:Nat)),(12,i64 (t.1.2.2:Nat))],[]⟩,fun t X=>((a<=t.1.1/\t.1.1<b)/\(a<=t.1.2.1/\t.1.2.1<b)/\(a<=t.1.2.2/\t.1.2.2<b))/\zjp X w.heap.size t.2/\(w.alloc (.cells #[.int .i64 0] 3)).grownBy X (some w.heap.size),?_,?_⟩
   ·refine biE (fun h5=>?_) fun h5=>?_
    ·have f:2<=q:=(by omega);obtain⟨⟨m1,m2⟩,⟨m3,m4⟩,m5,m6⟩:=zyu l i f hbL;have c1:=ziK (cap:=cap) rS hL bS j (a:=a+q*1) m1 m2 hl;refine cmo c1 ?_;rintro e X ⟨⟨x,rfl,hx⟩,⟨u,o⟩,k⟩;have c2:=ziK (cap:=cap) (keep X k).1 hL o j (a:=a+q*2) m3 m4 hl;refine cmo c2 ?_;rintro e Y ⟨⟨y,rfl,hy⟩,⟨u2,bY⟩,gY⟩;have ac:=zd k gY;have c3:=ziK (cap:=cap) (keep Y ac).1 hL bY j (a:=a+q*3) m5 m6 hl;refine cmo c3 ?_;rintro e Z ⟨⟨z,rfl,hz⟩,⟨u3,bZ⟩,gZ⟩;exact⟨((x,y,z),u3),(cvE rfl rfl),⟨zqM l i f 1 (.inl rfl) hx,zqM l i f 2 (.inr (.inl rfl)) hy,zqM l i f 3 (.inr (.inr rfl)) hz⟩,bZ,zd ac gZ⟩
    ·have f:2<=q:=(by omega);exact⟨((a+q*1,a+q*2,a+q*3),0),(cvE rfl rfl),⟨zqM l i f 1 (.inl rfl) (.inr (.inl rfl)),zqM l i f 2 (.inr (.inl rfl)) (.inr (.inl rfl)),zqM l i f 3 (.inr (.inr rfl)) (.inr (.inl rfl))⟩,bS,qo _ _⟩
   ·rintro⟨⟨x,y,z⟩,u⟩ X ⟨⟨hx,hy,hz⟩,o,k⟩;dsimp only at hx hy hz o k;refine cmo (zmE (keep X k).1 hL o j (a:=x) (b:=y) (c:=z) (by omega) (by omega) (by omega) hl) ?_;rintro e Y ⟨⟨m,rfl,hm⟩,⟨u2,bY⟩,gY⟩;refine⟨(m,u2),(cvE rfl rfl),⟨?_,?_⟩,bY,zd k gY⟩ <;> dsimp only <;> omega
  ·refine⟨(a+q*2,0),(cvE rfl rfl),⟨?_,?_⟩,bS,qo _ _⟩ <;> dsimp only <;> omega
 rintro⟨p,u⟩ X ⟨hp,o,k⟩;dsimp only at hp o k;obtain⟨k1,k2⟩:=keep X k;refine⟨_,zpF o,biE (fun h=>?_) fun h=>?_⟩
 ·exact⟨⟨p,1,rfl,hp⟩,k1,k2⟩
 ·refine biE (fun h=>?_) fun h=>?_
  ·exact⟨⟨p,2,rfl,hp⟩,k1,k2⟩
  ·exact⟨⟨p,0,rfl,hp⟩,k1,k2⟩
end
theorem zpy{a:Nat}(h:a<2^64):(BitVec.ofInt 64 (a:Int)).toNat=a:=by
 rw[BitVec.ofInt_natCast,BitVec.toNat_ofNat,Qz h]
theorem zyc{a b:Nat}(ha:a<2^64)(hb:b<2^64):IntKind.u64.wrap ((BitVec.ofInt IntKind.u64.bits (a:Int)&&&BitVec.ofInt IntKind.u64.bits (b:Int)).toNat:Int)=((a&&&b:Nat):Int):=by
 show IntKind.u64.wrap ((BitVec.ofInt 64 (a:Int)&&&BitVec.ofInt 64 (b:Int)).toNat:Int)=_;rw[Qe,zpy ha,zpy hb];have:a&&&b<=a:=QU;exact zbl (by omega)
theorem exU{x:Int}{K:Int->Prop}(k:∀r:Nat,r<2^64->K (r:Int)):∃r,IntKind.u64.wrap x=r/\K r:=by
 have h:0<=IntKind.u64.wrap x/\IntKind.u64.wrap x<18446744073709551616:=by
  unfold IntKind.wrap;simp only[IntKind.bits,IntKind.signed,Ug,Ku,Gj];omega
 obtain⟨r,c⟩:=Int.eq_ofNat_of_zero_le h.1;refine⟨_,rfl,?_⟩;rw[c];exact k r (by rw[c] at h;omega)
def zxQ (l:List UInt8):Bool:=(List.range l.length).all fun m=>match l[m]? with
 | some u=>decide (u.toNat<=8)&&(decide (m=0)||decide (2^u.toNat<=2*m))
 | none=>false
theorem zr8{l:List UInt8}(hs:zxQ l=true){n:Nat}{u:UInt8}(h:l[n]?=some u):u.toNat<=8/\(1<=n->2^u.toNat<=2*n):=by
 have:=Qg.1 hs n (Ul.2 (Jr.1 h).1);rw[h] at this;simp only[bAT,QD,dE] at this;exact⟨this.1,fun c=>this.2.resolve_left (by omega)⟩
theorem zsd{s:ByteArray}{n:Nat}{K:UInt8->Prop}(h:n<s.size)(k:∀u,s.data.toList[n]?=some u->K u):∃u,s.data.toList[n]?=some u/\K u:=by
 have h:n<s.data.toList.length:=by simpa using h
 exact⟨_,gE h,k _ (gE h)⟩
section
variable{w:Wd}{g cap L a b s:Nat}{v:Int}{sp:List Value}{d:Array UInt8}
theorem zsZ{n:Nat}(h:n<65536):Calls PG 227 #[.int .u64 (n:Nat)] w fun e w'=>(∃m:Nat,e = .returned (i64 m)/\m<=16/\(1<=n->2^m<=2*n))/\w=w':=by
 refine zD 25 [.int .u64 (n:Nat)] Tryz.func227 ?_;refine brN (Ue (by omega)) (brN (Ue (by omega)) (biE (fun f=>?_) fun f=>?_))
 ·have f:(256:Int)<=(n:Int):=dT f;obtain⟨q,p⟩:=nm (n/256);have c:1<=q/\q<256/\q*256<=n:=by omega
  refine⟨by decide,(q:Int),by
   show(n:Int).fdiv (2^(min (Int.toNat (8:Int)) IntKind.u64.bits))=_;rw[show min (Int.toNat (8:Int)) IntKind.u64.bits=8 from rfl,Jl _ (by decide)];omega,?_⟩
  refine⟨(8:Int),by decide,?_⟩;refine⟨(q:Int),zfq (by omega),q,rfl,zlf c.2.1 (by kernel_rfl),zsd (zlf c.2.1 (by kernel_rfl)) fun u i=>?_⟩;obtain⟨l,j⟩:=zr8 (by kernel_rfl) i;refine⟨(u.toNat:Int),ze (by omega),((8+u.toNat:Nat):Int),(ze (by omega)).trans (by omega),⟨8+u.toNat,rfl,by omega,fun _=>?_⟩,rfl⟩;have:=j c.1;rw[Nat.pow_add];omega
 ·have f:¬(256:Int)<=(n:Int):=dF f;have k:n<256:=by omega
  refine⟨(n:Nat),zfq (by omega),n,rfl,zlf k (by kernel_rfl),zsd (zlf k (by kernel_rfl)) fun u i=>?_⟩;obtain⟨l,j⟩:=zr8 (by kernel_rfl) i;exact⟨(u.toNat:Int),ze (by omega),((0+u.toNat:Nat):Int),(ze (by omega)).trans (by omega),⟨0+u.toNat,rfl,by omega,fun o=>by rw[UQ];exact j o⟩,rfl⟩
theorem zsY{n:Nat}(h:n<65536):Calls PG 168 #[.int .u64 (n:Nat)] w fun e w'=>(∃m:Nat,e = .returned (i64 m)/\m<=16/\(1<=n->2^m<=2*n))/\w=w':=by
 refine zD 8 [.int .u64 (n:Nat)] Tryz.func168 ?_;refine brF (cmo (zsZ h) ?_);rintro e _ ⟨⟨m,rfl,c,f⟩,rfl⟩;exact⟨⟨m,rfl,c,f⟩,rfl⟩
theorem zqW{n:Nat}(h:n<65536)(h1:1<=n):Calls PG 293 #[i64 n] w fun e w'=>(∃m:Nat,e = .returned (.int .u64 (m:Nat))/\1<=m/\m<=2*n)/\w=w':=by
 refine zD 7 [i64 n] Tryz.func293 ?_;refine⟨(n:Nat),zbl (by omega),cmo (zsY h) ?_⟩;rintro e _ ⟨⟨m,rfl,i,f⟩,rfl⟩;have c:1<=2^m:=Nat.one_le_two_pow;have:=f h1;refine⟨by omega,((2^m:Nat):Int),?_,?_⟩
 ·rw[KK,show min m IntKind.u64.bits=m from QW (by show m<=64;omega),Int.one_mul];have e:((2:Int)^m)=((2^m:Nat):Int):=by rw[Int.natCast_pow];rfl
  rw[e];exact zbl (by omega)
 ·exact⟨⟨2^m,rfl,c,this⟩,rfl⟩
abbrev zjF (w:Wd) (s:Nat) (v:Nat):Prop:=w.heap[s]?=some (.cells #[.int .u64 (v:Nat)] 374 (0,0))
theorem zdt{w:Wd}{s v:Nat}(h:zjF w s v):w.cell? ⟨s,0,none⟩=some (.int .u64 (v:Nat)):=zc (za h) (i:=0) rfl
theorem zxM{v:Nat}(hb:zjF w s v):Calls PG 294 #[At0 s] w fun e w'=>(∃r:Nat,e = .returned (.int .u64 (r:Nat))/\r<2^64/\zjF w' s r)/\w.grownBy w' (some s):=by
 refine zD 33 [At0 s] Tryz.func294 ?_;have f:zjF w.drew s v:=hb;refine DrawE.ord [9] [0,1,2,3,4,5,6,7,8,9] (by kernel_rfl) ⟨_,zdt f,_,zdt f,by decide,?_⟩;refine exU fun y _=>exU fun j _=>jn zu7 rfl f (o:=0) (by show 0<1;decide) (v := .int .u64 (j:Nat)) rfl rfl fun Y t n z=>?_;have h:zjF Y.drew s j:=t;refine DrawE.ord [9] [0,1,2,3,4,5,6,7,8,9] (by kernel_rfl) ⟨_,zdt h,_,zdt h,by decide,_,rfl,?_⟩;refine exU fun k _=>jn zu7 rfl h (o:=0) (by show 0<1;decide) (v := .int .u64 (k:Nat)) rfl rfl fun Z m x sZ=>?_;have c:zjF Z.drew s k:=m;refine DrawE.ord [9] [0,1,2,3,4,5,6,7,8,9] (by kernel_rfl) ⟨_,zdt c,_,zdt c,by decide,?_⟩;refine exU fun r5 _=>exU fun i p=>jn zu7 rfl c (o:=0) (by show 0<1;decide) (v := .int .u64 (i:Nat)) rfl rfl fun V u q sV=>?_;have l:zjF V s i:=u;exact⟨_,zdt l,⟨i,rfl,p,l⟩,zd (zA w s) (zd n (zd (zA _ s) (zd x (zd (zA _ s) q))))⟩
theorem zvY(hr:RB w g sp d)(hL:d.size=L)(hab:a+8<=b)(hbL:b<=L)(hl:L<=60000) :
  Calls PG 260 #[.slice (some ⟨g,0,none⟩) L cap,i64 a,i64 b] w fun e w'=>e = .returned (.tuple #[])/\(∃d',Go.Sort.PermIn a b d d'/\RB w' g sp d')/\w.grownBy w' (some g):=by
 refine zD 65 [.slice (some ⟨g,0,none⟩) L cap,i64 a,i64 b] Tryz.func260 ?_;obtain⟨n,hn⟩:=nm (b-a);obtain⟨q,hq⟩:=nm (n/4);have aj:IntKind.i64.wrap (((b:Nat):Int)-((a:Nat):Int))=(n:Int):=(ze (by omega)).trans (by omega);have ac:IntKind.i64.wrap ((n:Int).tdiv 4)=(q:Int):=by rw[hq];exact zk2 n 4 (by omega)
 have ap:2<=q/\4*q<=n:=by omega
 refine⟨(n:Int),aj,brE (Up (by omega)) ⟨(n:Nat),zbl (by omega),?_⟩⟩;obtain⟨s,aa⟩:=nm (w.heap.size);have ad:s≠g:=fun e=>by have:=RowS.lt hr;omega
 have ag:Bw w (w.alloc (.cells #[.int .u64 0] 374)):=zba w _;refine jn zu7 rfl (zt w (.cells #[.int .u64 0] 374)) (o:=0) (by show 0<1;decide) (v := .int .u64 (n:Nat)) rfl rfl fun X fX gX sX=>?_;rw[<- aa] at fX gX;have bX:zjF X s n:=fX;have ab:Bw w X:=ag.trans (zl gX ag.size (by omega));have rX:RB X g sp d:=RowS.below hr ab;refine cmo (zqW (n:=n) (by omega) (by omega)) ?_;rintro e _ ⟨⟨u,rfl,an,ao⟩,rfl⟩;refine⟨by decide,(q:Int),ac,((q*2:Nat):Int),(ze (by omega)).trans (by omega),((a+q*2:Nat):Int),(ze (by omega)).trans (by omega),((a+q*2-1:Nat):Int),(ze (by omega)).trans (by omega),?_⟩;refine⟨Nat×Nat×Array UInt8,fun t=>⟨[(0,.slice (some ⟨g,0,none⟩) L cap),(1,i64 a),(2,i64 b),(6,i64 n),(7,At0 s),(8,.int .u64 (u:Nat)),(9,i64 (t.1:Nat))],[]⟩,
  fun t Y=>(a<=t.1/\t.1<=a+q*2+2)/\(Go.Sort.PermIn a b d t.2.2/\t.2.2.size=L)/\zjF Y s t.2.1/\RB Y g sp t.2.2/\w.grownBy Y (some g)/\w.heap.size<=s,fun t=>a+q*2+2-t.1,(a+q*2-1,n,d),
  ⟨.cons rfl (.cons rfl (.cons rfl (.cons rfl (.cons (by rw[aa];rfl) (.cons rfl (.cons rfl .nil)))))),rfl⟩,⟨⟨by dsimp only;omega,by dsimp only;omega⟩,⟨Go.Sort.permIn_refl _ _ _,hL⟩,bX,rX,zi ab,by omega⟩,?_⟩
 rintro⟨i,v,e⟩ Y ⟨⟨af,al⟩,⟨hP,y⟩,bY,rY,j,ai⟩;dsimp only at af al hP y bY rY j;refine⟨by decide,(q:Int),ac,((q*2:Nat):Int),(ze (by omega)).trans (by omega),((a+q*2:Nat):Int),(ze (by omega)).trans (by omega),((a+q*2+1:Nat):Int),(ze (by omega)).trans (by omega),biE (fun hc=>?_) fun hc=>?_⟩
 ·have hc:(i:Int)<=((a+q*2+1:Nat):Int):=dT hc;refine cmo (zxM bY) ?_;rintro e' Z ⟨⟨r,rfl,ae,bZ⟩,x⟩;have rZ:RB Z g sp e:=zfC rY x ad;have ak:w.grownBy Z (some g):=⟨x.os.trans j.os,x.tape.trans j.tape,x.output.trans j.output,UL j.size x.size,fun k hk hn=>(x.block k (nL hk j.size) (fun h=>by cases h;omega)).trans (j.block k hk hn)⟩;refine⟨((u-1:Nat):Int),(zbl (by omega)).trans (by omega),?_⟩;have z:r&&&(u-1)<=u-1:=Qu;refine⟨((r&&&(u-1):Nat):Int),zyc ae (by omega),?_⟩;obtain⟨o,ho⟩:=nm (r&&&(u-1));rw[<- ho] at z ⊢;refine⟨(o:Int),ze (by omega),?_⟩;have ah:∀l:Nat,l<n->∀V2,RB V2 g sp (swp e i (a+l))->Z.grownBy V2 (some g)->(a<=i+1/\i+1<=a+q*2+2)/\(Go.Sort.PermIn a b d (swp e i (a+l))/\(swp e i (a+l)).size=L)/\zjF V2 s r/\RB V2 g sp (swp e i (a+l))/\w.grownBy V2 (some g)/\w.heap.size<=s:=fun l am V2 q2 p=>by
   have hp:=Go.Sort.swp_permIn e a b i (a+l) af (by omega) (by omega) (by omega) (by omega);refine⟨⟨by omega,by omega⟩,⟨Go.Sort.permIn_trans _ _ _ a b hP hp,by rw[Go.Sort.size_swp];exact y⟩,?_,q2,zd ak p,ai⟩;exact(p.block s (hlt bZ) (fun h=>by cases h;exact ad rfl)).trans bZ
  have f:i<e.size:=by omega
  refine biE (fun h8=>?_) fun h8=>?_
  ·have h8:(n:Int)<=(o:Int):=dT h8;refine⟨((o-n:Nat):Int),(ze (by omega)).trans (by omega),?_⟩;have c:a+(o-n)<e.size:=by omega
   have m:RB Z.drew g sp e:=rZ;refine DrawE.ord [17,19] [0,1,2,3,4,5,6,7,8,9,10,11,12,13,14,15,16,17,18,19] (by kernel_rfl) ⟨((a+(o-n):Nat):Int),(ze (by omega)).trans (by omega),((a+(o-n):Nat):Int),(ze (by omega)).trans (by omega),a+(o-n),rfl,by omega,?_⟩;refine⟨_,zy m c,i,rfl,by omega,?_⟩;refine⟨_,zy m f,i,rfl,by omega,?_⟩;refine zQ k5 rfl m f e[a+(o-n)]! fun V1 q1 g1=>⟨a+(o-n),rfl,by omega,?_⟩;exact zQ k5 rfl q1 (by rw[Array.size_setIfInBounds];exact c) e[i]! fun V2 q2 p=>nxI (by omega) ⟨(i+1,r,swp e i (a+(o-n))),(cvE rfl rfl),ah _ (by omega) V2 q2 (zd (zA _ g) (zd g1 p)),by dsimp only;omega⟩
  ·have h8:¬(n:Int)<=(o:Int):=dF h8;have c:a+o<e.size:=by omega
   have m:RB Z.drew g sp e:=rZ;refine DrawE.ord [17,19] [0,1,2,3,4,5,6,7,8,9,10,11,12,13,14,15,16,17,18,19] (by kernel_rfl) ⟨((a+o:Nat):Int),(ze (by omega)).trans (by omega),((a+o:Nat):Int),(ze (by omega)).trans (by omega),a+o,rfl,by omega,?_⟩;refine⟨_,zy m c,i,rfl,by omega,?_⟩;refine⟨_,zy m f,i,rfl,by omega,?_⟩;refine zQ k5 rfl m f e[a+o]! fun V1 q1 g1=>⟨a+o,rfl,by omega,?_⟩;exact zQ k5 rfl q1 (by rw[Array.size_setIfInBounds];exact c) e[i]! fun V2 q2 p=>nxI (by omega) ⟨(i+1,r,swp e i (a+o)),(cvE rfl rfl),ah _ (by omega) V2 q2 (zd (zA _ g) (zd g1 p)),by dsimp only;omega⟩
 ·exact⟨rfl,⟨e,hP,rY⟩,j⟩
end
end Go.Proofs.YtakcdebpklffiaaGreatDoor
namespace Go.Proofs.YtakcdebpklffiaaGreatDoor
open Go.Vc Go.RowKit Go.Sei
open Go.Sort (swp PermIn SortedIn permIn_refl permIn_trans)
section
variable{g cap L:Nat}{sp:List Value}
theorem zwQ(hl:L<=60000):∀(m a0 b0:Nat) (lim0:Int) (d0:Array UInt8) (w:Wd),b0-a0<=m->RB w g sp d0->d0.size=L->a0<=b0->b0<=L->Go.Sort.Below lt8 a0 b0 d0 ->
  Calls PG 191 #[.slice (some ⟨g,0,none⟩) L cap,i64 a0,i64 b0,.int .i64 lim0] w fun e w'=>e = .returned (.tuple #[])/\∃d',PermIn a0 b0 d0 d'/\SortedIn lt8 a0 b0 d'/\RB w' g sp d'/\w.grownBy w' (some g):=by
 intro m
 induction m using Nat.strongRecOn with
 | _ m ih =>
 intro a0 b0 lim0 d0 w hm hr hL am a2 aw;refine qA 134 [.slice (some ⟨g,0,none⟩) L cap,i64 a0,i64 b0,.int .i64 lim0] (.s .p (.s .p (.b (.l (.b (.c .p (.s .p (.s .p (.c .p (.s .p (.c .p (.c .p (.c .p .p))))))))))))) Tryz.func191 ?_;refine⟨Nat×Nat×Int×Bool×Bool×Array UInt8,fun t=>⟨[(0,.slice (some ⟨g,0,none⟩) L cap),(1,i64 (t.1:Nat)),(2,i64 (t.2.1:Nat)),(3,.int .i64 t.2.2.1),(8,.bool t.2.2.2.1),(9,.bool t.2.2.2.2.1)],[]⟩,
  fun t X=>(t.1<=t.2.1/\t.2.1<=L/\t.2.1-t.1<=m)/\t.2.2.2.2.2.size=L/\Go.Sort.Below lt8 t.1 t.2.1 t.2.2.2.2.2/\(∀R,PermIn t.1 t.2.1 t.2.2.2.2.2 R->SortedIn lt8 t.1 t.2.1 R->PermIn a0 b0 d0 R/\SortedIn lt8 a0 b0 R)/\RB X g sp t.2.2.2.2.2/\w.grownBy X (some g),fun t=>t.2.1-t.1,(a0,b0,lim0,true,true,d0),
  (cvE rfl rfl),⟨⟨am,a2,hm⟩,hL,aw,fun R h1 h2=>⟨h1,h2⟩,hr,qo _ _⟩,?_⟩
 rintro⟨a,b,af,wb,wp,d⟩ X ⟨⟨v,u,ay⟩,hz,hB,hC,rX,gX⟩;dsimp only at v u ay hz hB hC rX gX;have aj:∀Z R,PermIn a b d R->SortedIn lt8 a b R->RB Z g sp R->w.grownBy Z (some g)->∃d',PermIn a0 b0 d0 d'/\SortedIn lt8 a0 b0 d'/\RB Z g sp d'/\w.grownBy Z (some g):=fun Z R h1 h2 q gz=>⟨R,(hC R h1 h2).1,(hC R h1 h2).2,q,gz⟩;refine⟨Unit,fun _=>⟨[(0,.slice (some ⟨g,0,none⟩) L cap),(1,i64 (a:Nat)),(2,i64 (b:Nat)),(3,.int .i64 af),(8,.bool wb),(9,.bool wp),(10,i64 (b-a:Nat))],[]⟩,fun _ Y=>X=Y,?_,?_⟩
 ·exact⟨((b-a:Nat):Int),(ze (by first | omega | (dsimp only;omega))).trans (by first | omega | (dsimp only;omega)),(),(cvE rfl rfl),rfl⟩
 rintro _ _ rfl;refine biE (fun aa=>?_) fun aa=>?_
 ·have aa:((b-a:Nat):Int)<=12:=dT aa;refine cmo (zw3 rX hz v u (by omega)) ?_;rintro e Y ⟨rfl,rY,gY⟩;obtain⟨x,p2⟩:=Go.Sort.insertionSort_holds zr9 d a b v (by omega);exact⟨rfl,aj Y _ x p2 rY (zd gX gY)⟩
 have aa:¬((b-a:Nat):Int)<=12:=dF aa;have a3:12<b-a:=by omega
 refine biE (fun h0=>?_) fun h0=>?_
 ·refine cmo (zvf rX hz (by omega) u (by omega)) ?_;rintro e Y ⟨rfl,rY,gY⟩;obtain⟨x,p2⟩:=Go.Sort.heapSort_holds zr9 d a b v (by omega);exact⟨rfl,aj Y _ x p2 rY (zd gX gY)⟩
 clear h0;refine⟨Int×Array UInt8,fun t=>⟨[(0,.slice (some ⟨g,0,none⟩) L cap),(1,i64 (a:Nat)),(2,i64 (b:Nat)),(3,.int .i64 t.1),(8,.bool wb),(9,.bool wp),(10,i64 (b-a:Nat))],[]⟩,fun t Y=>PermIn a b d t.2/\RB Y g sp t.2/\w.grownBy Y (some g),?_,?_⟩
 ·refine biE (fun h=>?_) fun h=>?_
  ·refine cmo (zvY rX hz (by omega) u hl) ?_;rintro e Y ⟨rfl,⟨d1,x,rY⟩,gY⟩;exact⟨_,rfl,(IntKind.i64.wrap (af-1),d1),(cvE rfl rfl),x,rY,zd gX gY⟩
  ·exact⟨(af,d),(cvE rfl rfl),permIn_refl _ _ _,rX,gX⟩
 rintro⟨f,d1⟩ Y ⟨x,rY,gY⟩;dsimp only at x rY gY;have ae:d1.size=L:=by rw[x.1];exact hz
 refine cmo (zuN rY ae (by omega) u (by omega)) ?_;rintro e Z ⟨⟨r,ad,rfl,k,n⟩,rZ,gZ⟩;have ai:=zd gY gZ;refine⟨Nat×Int×Array UInt8,fun t=>⟨[(0,.slice (some ⟨g,0,none⟩) L cap),(1,i64 (a:Nat)),(2,i64 (b:Nat)),(3,.int .i64 f),(8,.bool wb),(9,.bool wp),(10,i64 (b-a:Nat)),(11,i64 (t.1:Nat)),(12,.int .i64 t.2.1)],[]⟩,fun t V=>(a<=t.1/\t.1<b)/\PermIn a b d t.2.2/\RB V g sp t.2.2/\w.grownBy V (some g),?_,?_⟩
 ·refine biE (fun h=>?_) fun h=>?_
  ·refine cmo (zwJ rZ ae (by omega) u (by omega)) ?_;rintro e V ⟨rfl,rV,gV⟩;exact⟨((b-1:Nat):Int),(ze (by omega)).trans (by omega),((r-a:Nat):Int),(ze (by omega)).trans (by omega),((b-1-(r-a):Nat):Int),(ze (by omega)).trans (by omega),(b-1-(r-a),1,Go.Sort.reverseRange d1 a b),(cvE rfl rfl),⟨by dsimp only;omega,by dsimp only;omega⟩,permIn_trans _ _ _ a b x (Go.Sort.reverseRange_holds d1 a b v (by omega)),rV,zd ai gV⟩
  ·exact⟨(r,ad,d1),(cvE rfl rfl),⟨k,n⟩,x,rZ,ai⟩
 clear k n rZ gZ rY gY x ae ai;rintro⟨r,ad,d2⟩ V ⟨⟨k,n⟩,p2,rV,gV⟩;dsimp only at k n p2 rV gV;have aq:d2.size=L:=by rw[p2.1];exact hz
 have al:Go.Sort.Below lt8 a b d2:=hB.perm (by omega) p2;refine⟨Array UInt8,fun t=>⟨[(0,.slice (some ⟨g,0,none⟩) L cap),(1,i64 (a:Nat)),(2,i64 (b:Nat)),(3,.int .i64 f),(8,.bool wb),(9,.bool wp),(10,i64 (b-a:Nat)),(11,i64 (r:Nat))],[]⟩,fun t U=>PermIn a b d t/\RB U g sp t/\w.grownBy U (some g),?_,?_⟩
 ·have j:∀(E:Env),Cov E ⟨[(0,.slice (some ⟨g,0,none⟩) L cap),(1,i64 (a:Nat)),(2,i64 (b:Nat)),(3,.int .i64 f),(8,.bool wb),(9,.bool wp),(10,i64 (b-a:Nat)),(11,i64 (r:Nat))],[]⟩->∃s:Array UInt8,Cov E ⟨[(0,.slice (some ⟨g,0,none⟩) L cap),(1,i64 (a:Nat)),(2,i64 (b:Nat)),(3,.int .i64 f),(8,.bool wb),(9,.bool wp),(10,i64 (b-a:Nat)),(11,i64 (r:Nat))],[]⟩/\PermIn a b d s/\RB V g sp s/\w.grownBy V (some g):=fun E hE=>⟨d2,hE,p2,rV,gV⟩
  cases wb with
  | false =>
   exact Gf (fun h=>by cases h) (fun _=>Gf (fun h=>by cases h) (fun _=>Gf (fun h=>by cases h) (fun _=>j _ (cvE rfl rfl))))
  | true =>
   refine Gf (fun _=>?_) (fun h=>by cases h)
   cases wp with
   | false =>
    exact Gf (fun h=>by cases h) (fun _=>Gf (fun h=>by cases h) (fun _=>j _ (cvE rfl rfl)))
   | true =>
    refine Gf (fun _=>biE (fun h=>?_) fun h=>?_) (fun h=>by cases h)
    ·refine cmo (zqN rV aq (by omega) u (by omega)) ?_;rintro e U ⟨o,ok,av,rfl,rU,gU⟩;have ag:=Go.Sort.partialInsertionSort_holds zr9 d2 a b (by omega) (by omega) al;rw[av] at ag;have p3:=permIn_trans _ _ _ a b p2 ag.1;refine biE (fun ab=>?_) fun ab=>?_
     ·have ab:ok=true:=ab;exact⟨rfl,aj U o p3 (ag.2 ab) rU (zd gV gU)⟩
     ·exact⟨o,(cvE rfl rfl),p3,rU,zd gV gU⟩
    ·exact j _ (cvE rfl rfl)
 clear p2 rV gV aq al;rintro o U ⟨p3,rU,gU⟩;have ao:o.size=L:=by rw[p3.1];exact hz
 have ar:Go.Sort.Below lt8 a b o:=hB.perm (by omega) p3;have z:RB U.drew g sp o:=rU;have ah:=zd gU (zA U g);have au:r<o.size:=by omega
 refine⟨Unit,fun _=>⟨[(0,.slice (some ⟨g,0,none⟩) L cap),(1,i64 (a:Nat)),(2,i64 (b:Nat)),(3,.int .i64 f),(8,.bool wb),(9,.bool wp),(10,i64 (b-a:Nat)),(11,i64 (r:Nat))],[]⟩,fun _ T=>RB T g sp o/\w.grownBy T (some g),?_,?_⟩
 ·refine DrawE.ord [] [0,1,2,3,4,5,6,7,8,9,10,11,12,13,14] (by kernel_rfl) (biE (fun h1=>?_) fun h1=>?_)
  ·have h1:(0:Int)<(a:Int):=dT h1;have ax:a-1<o.size:=by omega
   refine⟨((a-1:Nat):Int),(ze (by omega)).trans (by omega),a-1,rfl,by omega,?_⟩;refine⟨_,zy z ax,r,rfl,by omega,?_⟩;refine⟨_,zy z au,cmo jX ?_⟩;rintro e _ ⟨rfl,rfl⟩;refine⟨Gb _ _,biE (fun h2=>?_) fun h2=>?_⟩
   ·have h2:(!lt8 o[a-1]! o[r]!)=true:=h2;have h2:lt8 o[a-1]! o[r]! = false:=(by simpa using h2);refine cmo (zsz z ao k n u (by omega)) ?_;rintro e T ⟨i,d4,az,rfl,rT,gT⟩;obtain⟨q1,q2,q3,q4,q5⟩:=Go.Sort.round_eq zr9 (Go.Sort.partitionEqual_holds lt8) (by omega) k n (by omega) ar h2 az;refine⟨(i,b,f,wb,wp,d4),(cvE rfl rfl),⟨⟨q2,u,by dsimp only;omega⟩,by dsimp only;omega,q4,fun R r1 r2=>?_,rT,zd ah gT⟩,by dsimp only;omega⟩;obtain⟨s1,s2⟩:=q5 R r1 r2;exact hC R (permIn_trans _ _ _ a b p3 s1) s2
   ·exact⟨(),(cvE rfl rfl),z,ah⟩
  ·exact Gf (fun h=>by cases h) (fun _=>⟨(),(cvE rfl rfl),z,ah⟩)
 rintro _ T ⟨rT,gT⟩;refine cmo (zwU rT ao k n u (by omega)) ?_;rintro e S ⟨i,ap,d4,a1,rfl,rS,gS⟩;have an:=zd gT gS;obtain⟨q1,q2,q3,q4,q5,q6,q7⟩:=Go.Sort.round_part zr9 (Go.Sort.partition_holds lt8) k n (by omega) ar a1;have ac:d4.size=L:=by omega
 refine⟨((i-a:Nat):Int),(ze (by omega)).trans (by omega),((b-i:Nat):Int),(ze (by omega)).trans (by omega),by decide,(((b-a)/8:Nat):Int),zk2 (b-a) 8 (by omega),biE (fun hc=>?_) fun hc=>?_⟩
 ·refine cmo (ih (i-a) (by omega) a i f d4 S (UW _) rS ac q1 (by omega) q4) ?_;rintro e' Q ⟨rfl,d5,r1,r2,rQ,gQ⟩;obtain⟨ak,y⟩:=q6 d5 r1 r2;refine nxI (by omega) ⟨(i+1,b,f,decide ((((b-a)/8:Nat):Int)<=((i-a:Nat):Int)),ap,d5),(cvE rfl rfl),⟨⟨by dsimp only;omega,u,by dsimp only;omega⟩,by show d5.size=L;rw[r1.1];exact ac,ak,fun R s1 s2=>?_,rQ,zd an gQ⟩,by dsimp only;omega⟩;obtain⟨t1,t2⟩:=y R s1 s2;exact hC R (permIn_trans _ _ _ a b p3 t1) t2
 ·refine nxI (by omega) (cmo (ih (b-(i+1)) (by omega) (i+1) b f d4 S (UW _) rS ac (by omega) u q5) ?_);rintro e' Q ⟨rfl,d5,r1,r2,rQ,gQ⟩;obtain⟨ak,y⟩:=q7 d5 r1 r2;refine⟨(a,i,f,decide ((((b-a)/8:Nat):Int)<=((b-i:Nat):Int)),ap,d5),(cvE rfl rfl),⟨⟨q1,by dsimp only;omega,by dsimp only;omega⟩,by show d5.size=L;rw[r1.1];exact ac,ak,fun R s1 s2=>?_,rQ,zd an gQ⟩,by dsimp only;omega⟩;obtain⟨t1,t2⟩:=y R s1 s2;exact hC R (permIn_trans _ _ _ a b p3 t1) t2
end
end Go.Proofs.YtakcdebpklffiaaGreatDoor
namespace Go.Proofs.YtakcdebpklffiaaGreatDoor
open Go.Vc Go.RowKit Go.Sei
section
variable{g cap:Nat}{l:List UInt8}{w:Wd}
theorem zv7{sp:List Value}(hr:RowS zS 5 w g sp l)(hl:l.length<=60000) :
  Calls PG 122 #[.slice (some ⟨g,0,none⟩) l.length cap] w fun e w'=>e = .returned (.tuple #[])/\∃l',l'.Perm l/\l'.Pairwise (fun x y=>x.toNat<=y.toNat)/\RowS zS 5 w' g sp l'/\w.grownBy w' (some g):=by
 refine zD 11 [.slice (some ⟨g,0,none⟩) l.length cap] Tryz.func122 ?_;refine⟨(l.length:Nat),zbl (by omega),cmo (zsY (n:=l.length) (by omega)) ?_⟩;rintro e _ ⟨⟨m,rfl,z,v⟩,rfl⟩;have o:l.toArray.size=l.length:=rfl;refine cmo (zwQ (sp:=sp) (L:=l.length) (cap:=cap) hl l.length 0 l.length m l.toArray w (UW _) hr o (UZ _) (UW _) (.inl rfl)) ?_;rintro e X ⟨rfl,a,d,c,p,s⟩;refine⟨rfl,a.toList,?_,?_,p,s⟩
 ·have:=d.2.2;rw[<- o] at this;have t:(a.extract 0 l.toArray.size)=a:=by rw[<- d.1];simp
  rw[t] at this;simpa using this
 ·refine List.pairwise_iff_getElem.2 fun i j q r h=>?_;have f:i<a.size:=by simpa using q
  have k:j<a.size:=by simpa using r
  have u:a.size=l.length:=d.1;have b:=c i j (UZ _) h (by omega);rw[getElem!_pos a i f,getElem!_pos a j k] at b;have b:=dF b;rw[Array.getElem_toList,Array.getElem_toList];omega
end
theorem zmB(v:UInt8):v∈qh:=by
 unfold qh;exact UI.2 ⟨v.toNat,Ul.2 v.toNat_lt,UInt8.ofNat_toNat⟩
theorem zbH{l:List UInt8}{v:UInt8}:v∈ju l↔v∈l:=by
 unfold ju;rw[QO];constructor
 ·rintro⟨_,h⟩;obtain⟨x,a,e⟩:=Qh.1 h;rw[<- dT e];exact a
 ·exact fun h=>⟨zmB v,Qh.2 ⟨v,h,Up rfl⟩⟩
theorem zv4:qh.Pairwise (fun x y=>x.toNat<y.toNat):=by
 unfold qh;rw[List.pairwise_map];refine List.Pairwise.imp_of_mem ?_ (List.pairwise_lt_range (n:=256));intro a b c d h;rw[KH,KH,Qz (Ul.1 c),Qz (Ul.1 d)];exact h
theorem zei(l:List UInt8):(ju l).Pairwise (fun x y=>x.toNat<y.toNat):=List.Pairwise.filter _ zv4
theorem zgP:∀(l:List UInt8) (p:UInt8),(∀x∈l,p.toNat<=x.toNat)->l.Pairwise (fun x y=>x.toNat<=y.toNat)->(zbw p l).Pairwise (fun x y=>x.toNat<y.toNat)/\(∀x,x∈zbw p l↔x∈l/\x≠p)/\∀x∈zbw p l,p.toNat<x.toNat
 | [],p,_,_=>⟨.nil,fun x=>by simp [zbw],fun x h=>by cases h⟩
 | y::r,p,hp,hs=>by
  rw[List.pairwise_cons] at hs;by_cases h:y=p
  ·subst h;obtain⟨a,b,c⟩:=zgP r y hs.1 hs.2;have e:zbw y (y::r)=zbw y r:=by show(if y=y then zbw y r else y::zbw y r)=_;rw[Gn rfl]
   rw[e];refine⟨a,fun x=>(b x).trans ⟨fun h=>⟨JV _ h.1,h.2⟩,fun h=>⟨(UA.1 h.1).resolve_left h.2,h.2⟩⟩,c⟩
  ·obtain⟨a,b,c⟩:=zgP r y hs.1 hs.2;have e:zbw p (y::r)=y::zbw y r:=by show(if y=p then zbw p r else y::zbw y r)=_;rw[Gm h]
   rw[e];have i:p.toNat<y.toNat:=by
    have d:=hp y (KA ..);have j:y.toNat≠p.toNat:=fun e=>h (Ud.1 e);omega
   refine⟨List.pairwise_cons.2 ⟨c,a⟩,fun x=>?_,fun x f=>?_⟩
   ·rw[UA,b x,UA];constructor
    ·rintro(rfl | ⟨d,j⟩)
     ·exact⟨.inl rfl,h⟩
     ·refine⟨.inr d,fun e=>?_⟩;subst e;have:=hs.1 x d;omega
    ·rintro⟨rfl | d,j⟩
     ·exact .inl rfl
     ·by_cases e:x=y
      ·exact .inl e
      ·exact .inr ⟨d,e⟩
   ·rcases UA.1 f with rfl | f
    ·exact i
    ·have:=c x f;omega
theorem zty{l:List UInt8}(hs:l.Pairwise (fun x y=>x.toNat<=y.toNat)):(ded l).Pairwise (fun x y=>x.toNat<y.toNat)/\∀x,x∈ded l↔x∈l:=by
 cases l with
 | nil=>exact⟨.nil,fun x=>Iff.rfl⟩
 | cons y r =>
  rw[List.pairwise_cons] at hs;obtain⟨a,b,c⟩:=zgP r y hs.1 hs.2;refine⟨List.pairwise_cons.2 ⟨c,a⟩,fun x=>?_⟩;show x∈y::zbw y r↔_;rw[UA,b x,UA];constructor
  ·rintro(h | h)
   ·exact .inl h
   ·exact .inr h.1
  ·rintro(h | h)
   ·exact .inl h
   ·by_cases e:x=y
    ·exact .inl e
    ·exact .inr ⟨h,e⟩
theorem zoM:∀{a b:List UInt8},a.Pairwise (fun x y=>x.toNat<y.toNat)->b.Pairwise (fun x y=>x.toNat<y.toNat)->(∀x,x∈a↔x∈b)->a=b
 | [],[],_,_,_=>rfl
 | [],y::b,_,_,h=>Gp ((h y).2 (KA ..)) (by simp)
 | x::a,[],_,_,h=>Gp ((h x).1 (KA ..)) (by simp)
 | x::a,y::b,ha,hb,h=>by
  rw[List.pairwise_cons] at ha hb;have e:x=y:=by
   rcases UA.1 ((h x).1 (KA ..)) with e | j
   ·exact e
   ·rcases UA.1 ((h y).2 (KA ..)) with e | c
    ·exact e.symm
    ·have:=hb.1 x j;have:=ha.1 y c;omega
  subst e;rw[zoM ha.2 hb.2 fun z=>?_];have i:=h z;rw[UA,UA] at i;constructor
  ·intro d;rcases i.1 (.inr d) with e | c
   ·subst e;have:=ha.1 z d;omega
   ·exact c
  ·intro f;rcases i.2 (.inr f) with e | c
   ·subst e;have:=hb.1 z f;omega
   ·exact c
theorem zlt{l:List UInt8}(h:l.Pairwise (fun x y=>x.toNat<y.toNat)):ju l=l:=zoM (zei l) h fun _=>zbH
theorem zeI(l:List UInt8):(ju l).length<=256:=by
 refine UL (JK ..) ?_;unfold qh;rw[QJ,KU];exact UW _
theorem zeh{p:OA}{cap:Nat}{l:List UInt8}{w:Wd}(hl:SlR zS w p l)(h1:1<=l.length)(hm:l.length<=60000) :
  Calls PG 61 #[.slice p l.length cap] w fun e w'=>(∃q c,e = .returned (.slice q (ju l).length c)/\OwnS zS 5 w.heap.size w' q c (ju l))/\Bw w w':=by
 refine zD 9 [.slice p l.length cap] Tryz.func61 ?_;refine cmo (znA hl (by omega) (fun e=>by subst e;have:=hl.none;subst this;simp at h1)) ?_;rintro e X ⟨⟨q,c,rfl,ho⟩,i⟩;rcases ho.inv with⟨_,_,h0⟩ | ⟨g,a,rfl,o,h,aa,s,d,b⟩
 ·rw[h0] at h1;simp at h1
 have d:a.size=c:=by rw[d];exact UX _
 obtain⟨n,m⟩:=nm (a.toList.drop l.length);have b:a.toList.take l.length=l.flatMap zS.enc:=by rw[<- b];congr 1;exact(UX _).symm
 have hR:RowS zS 5 X g n l:=by
  unfold RowS;rw[h,<- b,m,JO]
 have v:l.length+n.length=c:=by
  have h1:a.toList.length=c:=by rw[Array.length_toList];exact d
  rw[m,Qq,h1];omega
 refine cmo (zv7 hR hm) ?_;rintro e Y ⟨rfl,f,y,r,rY,u⟩;have k:f.length=l.length:=y.length_eq;have oY:OwnS zS 5 w.heap.size Y (some ⟨g,0,none⟩) c f:=by
  unfold OwnS World.ownsRow;refine⟨by rw[zZ],.inr ⟨g,c,_,rfl,o,rY,by omega,s,?_,?_⟩⟩
  ·show(f.flatMap zS.enc++n).length=c*1;rw[lap,zZ];show f.length*1+_=_;omega
  ·exact QT (zZ f)
 have t:=zoT oY (by omega);rw[k] at t;refine cmo t ?_;rintro e Z ⟨rfl,z,gZ⟩;have j:=i.size;obtain⟨d1,d2⟩:=zty r;have hd:ded f=ju l:=zoM d1 (zei l) fun x=>(d2 x).trans ((y.mem_iff).trans zbH.symm);rw[hd] at z ⊢;exact⟨⟨_,_,rfl,z⟩,(i.trans (zl u j o)).trans (zl gZ (UL j u.size) o)⟩
theorem zdQ{x y:UInt8}:decide (((x.toNat:Nat):Int)=((y.toNat:Nat):Int))=decide (x=y):=QC.2 qS
theorem zuX{x y:UInt8}:decide (((x.toNat:Nat):Int)<((y.toNat:Nat):Int))=decide (x.toNat<y.toNat):=QC.2 Int.ofNat_lt
theorem zrT(a b:UInt8):IntKind.u8.wrap ((a.toNat:Int)+(b.toNat:Int))=((a+b).toNat:Int):=by
 rw[UInt8.toNat_add];unfold IntKind.wrap;simp only[IntKind.bits,IntKind.signed,Ug,Ku,Gj];omega
theorem zxO(a b:UInt8):IntKind.u8.wrap ((a.toNat:Int)-(b.toNat:Int))=((a-b).toNat:Int):=by
 rw[UInt8.toNat_sub];have:=a.toNat_lt;have:=b.toNat_lt;unfold IntKind.wrap;simp only[IntKind.bits,IntKind.signed,Ug,Ku,Gj];omega
theorem zxN(a b:UInt8):IntKind.u8.wrap ((BitVec.ofInt IntKind.u8.bits (a.toNat:Int) ^^^ BitVec.ofInt IntKind.u8.bits (b.toNat:Int)).toNat:Int)=((a ^^^ b).toNat:Int):=by
 have e:∀x:UInt8,(BitVec.ofInt IntKind.u8.bits (x.toNat:Int)).toNat=x.toNat:=fun x=>by
  have:=x.toNat_lt;rw[Kt];simp only[IntKind.bits];omega
 rw[BitVec.toNat_xor,e,e,<- UInt8.toNat_xor];have:=(a ^^^ b).toNat_lt;unfold IntKind.wrap;simp only[IntKind.bits,IntKind.signed,Ug,Ku,Gj];omega
structure RunS (R:RunD):Prop where
 d:∀i,R.deps i<2^32
 c:R.ctl<2^32
 s:∀i,R.data i<2^32/\R.ctrl i<2^32/\R.att i<2^32
theorem zms{a b:Nat}(ha:a<2^32)(hb:b<2^32):a|||b<2^32:=KX ha hb
theorem zpj{n:Nat}(h:n<32):2^n<2^32:=Kf (by decide) h
theorem zgi{f:Nat->Nat}{b:Nat}(h:∀i,f i<b){k v:Nat}(hv:v<b):∀i,upd f k v i<b:=fun i=>by
 by_cases e:i=k
 ·rw[e,zN];exact hv
 ·rw[qx _ _ e];exact h i
theorem RunS.val{R:RunD}(h:RunS R)(r:Bool)(n:UInt8):(qE r n R).2<2^32:=by
 unfold qE
 split
 ·exact h.d _
 ·exact(by decide:0<2^32)
theorem RunS.emit{R:RunD}(h:RunS R){k a v m:UInt8}{d:Nat}(hd:d<2^32):RunS (jF R k a v m d) :=
 ⟨h.d,h.c,fun i=>⟨zgi (fun i=>(h.s i).1) hd i,zgi (fun i=>(h.s i).2.1) h.c i,(h.s i).2.2⟩⟩
theorem RunS.set{R:RunD}(h:RunS R){d v:UInt8}{s:Nat}(hs:s<2^32):RunS (zkR R d v s):=⟨zgi h.d hs,h.c,h.s⟩
theorem RunS.exch{R:RunD}(h:RunS R)(hm:R.many<32){x:InsD}{o v:UInt8}{d:Nat}(hd:d<2^32):RunS (zbt R x o v d):=by
 have e:=(h.emit (k:=1) (a:=x.loc) (v:=o) (m:=3) (d:=0) (by decide)).emit (k:=2) (a:=x.loc) (v:=v) (m:=3) hd;exact RunS.set (R:={ jF (jF R 1 x.loc o 3 0) 2 x.loc v 3 d with att:=upd (jF (jF R 1 x.loc o 3 0) 2 x.loc v 3 d).att (R.many+1) (2^R.many) })
  ⟨e.d,e.c,fun i=>⟨(e.s i).1,(e.s i).2.1,zgi (fun i=>(e.s i).2.2) (zpj hm) i⟩⟩ (zpj hm)
section
variable{R:RunD}{b:Nat}{w:Wd}{x:InsD}{v:UInt8}
theorem zou{o v:UInt8}{d:Nat}(f:jJ w b R)(hm:R.many<23)(hd:x.dst.toNat<8):Calls PG 333 #[AtR b,zde x,u8 o,u8 v,s32 d] w fun e w' =>
  e = .returned (i64 (R.many+1:Nat))/\jJ w' b (zbt R x o v d)/\w.grownBy w' (some b):=by
 refine zD 39 [AtR b,zde x,u8 o,u8 v,s32 d] Tryz.func333 ?_;have h:=zt w (.cells (zU.enc x).toArray 68);have q:Bw w (w.alloc (.cells (zU.enc x).toArray 68)):=zba w _;have z:=zb q f;have a:w.heap.size≠b:=fun e=>by have:=hlt f;omega
 refine⟨_,zc (za h) (i:=2) rfl,?_⟩;refine cmo (zgN (k:=1) (l:=x.loc) (v:=o) (m:=3) (d:=0) z (by omega)) ?_;rintro e Y ⟨rfl,fY,p,sY⟩;have c:=(p.block w.heap.size (hlt h) (by simpa using a)).trans h;refine⟨_,zc (za c) (i:=2) rfl,?_⟩;refine cmo (zgN (k:=2) (l:=x.loc) (v:=v) (m:=3) (d:=d) fY (by show R.many+1<24;omega)) ?_;rintro e Z ⟨rfl,y,u,sZ⟩;have g:=(u.block w.heap.size (hlt c) (by simpa using a)).trans c;have n:∀Z:Wd,Z.grownBy Z.drew (some b):=fun Z=>⟨rfl,rfl,rfl,UW _,fun _ _ _=>rfl⟩;refine DrawE.ord [7] [0,1,2,3,4,5,6,7] (by kernel_rfl) ?_;refine⟨by omega,_,zhx (e:=R.many) (by omega),?_⟩;refine⟨R.many+1,rfl,by omega,?_⟩;refine zm zom (hdr y) (o:=0+235+(R.many+1)*1) (v:=s32 (2^R.many)) rfl rfl (by rw[jM];omega) rfl fun V t r sV=>?_;rw[UQ,UX,zl6 _ (by omega)] at t;have j:=(r.block w.heap.size (hlt g) (by simpa using a)).trans (hdr g);refine DrawE.ord [6] [0,1,2,3,4,5,6] (by kernel_rfl) ?_;refine⟨_,zc (za (hdr j)) (i:=1) rfl,?_⟩;refine⟨by omega,_,zhx (e:=R.many) (by omega),?_⟩;refine cmo (zo4 (d:=x.dst) (v:=o) (s:=2^R.many) (hdr t) hd) ?_;rintro e U ⟨rfl,fU,gU,sU⟩;exact⟨rfl,fU,zd (zi q) (zd p (zd u (zd (n Z) (zd r (zd (n V) gU)))))⟩
theorem zqz(f:jJ w b R)(hm:R.many<23)(hd:x.dst.toNat<8)(ha:x.ar=true->x.an.toNat<8):Calls PG 322 #[AtR b,zde x,u8 v] w fun e w' =>
  e = .returned (.tuple #[])/\jJ w' b (zsa R x v)/\w.grownBy w' (some b):=by
 refine zD 21 [AtR b,zde x,u8 v] Tryz.func322 ?_;have g:=zt w (.cells (zU.enc x).toArray 68);have i:Bw w (w.alloc (.cells (zU.enc x).toArray 68)):=zba w _;have h:=zb i f;refine⟨[.bool x.ar,u8 x.an],rfl,qX (o:=3) (n:=2) g,hlt g,?_⟩;refine cmo (zb5 h ha) ?_;rintro e Y ⟨rfl,a⟩;have c:=zb a g;have l:=zb a h;refine⟨zU.enc x,rfl,za c,hlt c,?_⟩;refine cmo (zou (x:=x) (o:=v) (v:=(qE x.ar x.an R).1) (d:=(qE x.ar x.an R).2) l hm hd) ?_;rintro e Z ⟨rfl,j,k⟩;exact⟨rfl,j,zd (zi i) (zd (zi a) k)⟩
theorem znU(f:jJ w b R)(hs:RunS R)(hm:R.many<23)(hd:x.dst.toNat<8)(ha:x.ar=true->x.an.toNat<8):Calls PG 323 #[AtR b,zde x,u8 v] w fun e w' =>
  e = .returned (.tuple #[])/\jJ w' b (zgL R x v)/\w.grownBy w' (some b):=by
 refine zD 40 [AtR b,zde x,u8 v] Tryz.func323 ?_;have f0:=zt w (.cells (zU.enc x).toArray 68);have hb:Bw w (w.alloc (.cells (zU.enc x).toArray 68)):=zba w _;have fr:=zb hb f;refine⟨[.bool x.ar,u8 x.an],rfl,qX (o:=3) (n:=2) f0,hlt f0,?_⟩;refine cmo (zb5 fr ha) ?_;rintro e Y ⟨rfl,hbY⟩;have f0Y:=zb hbY f0;have fY:=zb hbY fr;refine⟨zU.enc x,rfl,za f0Y,hlt f0Y,?_⟩;refine⟨_,zrT _ _,?_⟩;refine cmo (zou (x:=x) (o:=v) (v:=v+(qE x.ar x.an R).1) (d:=(qE x.ar x.an R).2) fY hm hd) ?_;rintro e Z ⟨rfl,fZ,gZ⟩;obtain⟨S,hS⟩:=nm (zbt R x v (v+(qE x.ar x.an R).1) (qE x.ar x.an R).2);have sS:RunS S:=by rw[hS];exact hs.exch (by omega) (hs.val _ _)
 rw[<- hS] at fZ;have gd:∀Z:Wd,Z.grownBy Z.drew (some b):=fun Z=>⟨rfl,rfl,rfl,UW _,fun _ _ _=>rfl⟩;refine DrawE.ord [16] [0,1,2,3,4,5,6,7,8,9,10,11,12,13,14,15,16] (by kernel_rfl) ?_;refine⟨R.many+1,rfl,by omega,?_⟩;refine⟨_,by rw[UX,UB];exact zc (za (hdr fZ)) (zl7 S (i:=R.many+1) (by omega)),?_⟩;refine⟨R.many+1,rfl,by omega,?_⟩;refine⟨_,by rw[UX,UB];exact zc (za (hdr fZ)) (zkV S (i:=R.many+1) (by omega)),?_⟩;refine⟨_,zgc (sS.s _).1 (sS.s _).2.2,?_⟩;refine⟨R.many+1,rfl,by omega,?_⟩;refine zm zom (hdr fZ) (o:=0+187+(R.many+1)*1) (v:=s32 (S.data (R.many+1)|||S.att (R.many+1))) rfl rfl (by rw[jM];omega) rfl fun V fV gV sV=>?_;rw[UQ,UX,zfu _ (by omega)] at fV;refine⟨rfl,?_,zd (zi hb) (zd (zi hbY) (zd gZ (zd (gd Z) gV)))⟩;rw[hS] at fV;exact fV
theorem zqC(f:jJ w b R)(hs:RunS R)(hd:x.dst.toNat<8)(ha:x.ar=true->x.an.toNat<8)(hc:x.br=true->x.bn.toNat<8):Calls PG 321 #[AtR b,zde x,u8 v] w fun e w' =>
  e = .returned (.tuple #[])/\jJ w' b (zsP R x)/\w.grownBy w' (some b):=by
 refine qA 47 [AtR b,zde x,u8 v] (.s .p (.s .p (.s .p (.c .p .p)))) Tryz.func321 ?_;have q:=zt w (.cells (zU.enc x).toArray 68);have hb:Bw w (w.alloc (.cells (zU.enc x).toArray 68)):=zba w _;have t:=zb hb f;refine⟨[.bool x.ar,u8 x.an],rfl,qX (o:=3) (n:=2) q,hlt q,?_⟩;refine cmo (zb5 t ha) ?_;rintro e Y ⟨rfl,g⟩;have j:=zb g q;have z:=zb g t;refine⟨[.bool x.br,u8 x.bn],rfl,qX (o:=5) (n:=2) j,hlt j,?_⟩;refine cmo (zb5 z hc) ?_;rintro e Z ⟨rfl,a⟩;have l:=zb a j;have fZ:=zb a z;obtain⟨A,r⟩:=nm (qE x.ar x.an R);obtain⟨C,m⟩:=nm (qE x.br x.bn R);rw[<- r,<- m];refine⟨Unit,fun _=>⟨[(0,AtR b),(4,At0 w.heap.size),(6,u8 (zkx x.fn A.1 C.1)),(7,s32 A.2),(9,s32 C.2)],[]⟩,fun _ X=>X=Z,?_,?_⟩
 ·refine⟨_,zc (za l) (i:=7) rfl,?_⟩;refine biE (fun h=>?_) fun h=>?_
  ·have h:x.fn=1:=dT ((zdQ (x:=x.fn) (y:=1)).symm.trans h);refine⟨_,zrT _ _,?_⟩;exact⟨(),⟨.cons rfl (.cons rfl (.cons (by unfold zkx;rw[Gn h];rfl) (.cons rfl (.cons rfl .nil)))),rfl⟩,rfl⟩
  ·have h:¬x.fn=1:=dF ((zdQ (x:=x.fn) (y:=1)).symm.trans h);refine biE (fun k=>?_) fun k=>?_
   ·have k:x.fn=2:=dT ((zdQ (x:=x.fn) (y:=2)).symm.trans k);refine⟨_,zxO _ _,?_⟩;exact⟨(),⟨.cons rfl (.cons rfl (.cons (by unfold zkx;rw[Gm h,Gn k];rfl) (.cons rfl (.cons rfl .nil)))),rfl⟩,rfl⟩
   ·have k:¬x.fn=2:=dF ((zdQ (x:=x.fn) (y:=2)).symm.trans k);refine⟨_,zxN _ _,?_⟩;exact⟨(),⟨.cons rfl (.cons rfl (.cons (by unfold zkx;rw[Gm h,Gm k];rfl) (.cons rfl (.cons rfl .nil)))),rfl⟩,rfl⟩
 rintro _ _ rfl;refine⟨_,zc (za l) (i:=1) rfl,?_⟩;refine⟨_,zgc (by rw[r];exact hs.val _ _) (by rw[m];exact hs.val _ _),?_⟩;refine cmo (zo4 (d:=x.dst) (v:=zkx x.fn A.1 C.1) (s:=A.2|||C.2) fZ hd) ?_;rintro e U ⟨rfl,u,gU,sU⟩;refine⟨rfl,?_,zd (zi hb) (zd (zi g) (zd (zi a) gU))⟩;rw[r,m] at u;exact u
theorem zsk(f:jJ w b R)(hs:RunS R)(hm:R.many<23)(hd:x.dst.toNat<8)(ha:x.ar=true->x.an.toNat<8)(hc:x.br=true->x.bn.toNat<8):Calls PG 324 #[AtR b,zde x,u8 v] w fun e w' =>
  e = .returned (.tuple #[])/\jJ w' b (zel R x v)/\w.grownBy w' (some b):=by
 refine zD 65 [AtR b,zde x,u8 v] Tryz.func324 ?_;have f0:=zt w (.cells (zU.enc x).toArray 68);have hb:Bw w (w.alloc (.cells (zU.enc x).toArray 68)):=zba w _;have fr:=zb hb f;refine⟨[.bool x.ar,u8 x.an],rfl,qX (o:=3) (n:=2) f0,hlt f0,?_⟩;refine cmo (zb5 fr ha) ?_;rintro e Y ⟨rfl,hbY⟩;have f0Y:=zb hbY f0;have fY:=zb hbY fr;refine⟨[.bool x.br,u8 x.bn],rfl,qX (o:=5) (n:=2) f0Y,hlt f0Y,?_⟩;refine cmo (zb5 fY hc) ?_;rintro e Z ⟨rfl,hbZ⟩;have f0Z:=zb hbZ f0Y;have fZ:=zb hbZ fY;have gd:∀Z:Wd,Z.grownBy Z.drew (some b):=fun Z=>⟨rfl,rfl,rfl,UW _,fun _ _ _=>rfl⟩;have gZ:w.grownBy Z (some b):=zd (zi hb) (zd (zi hbY) (zi hbZ));have hne:w.heap.size≠b:=fun e=>by have:=hlt f;omega
 obtain⟨A,hA⟩:=nm (qE x.ar x.an R);obtain⟨C,hC⟩:=nm (qE x.br x.bn R);have hA2:A.2<2^32:=by rw[hA];exact hs.val _ _
 have hC2:C.2<2^32:=by rw[hC];exact hs.val _ _
 rw[<- hA,<- hC];refine biE (fun h=>?_) fun h=>?_
 ·have h:¬v=A.1:=fun e=>by rw[e] at h;have h:(!decide (((A.1.toNat:Nat):Int)=((A.1.toNat:Nat):Int)))=true:=h;simp at h
  refine⟨_,zc (za f0Z) (i:=2) rfl,?_⟩;refine cmo (zgN (k:=1) (l:=x.loc) (v:=v) (m:=3) (d:=0) fZ (by omega)) ?_;rintro e U ⟨rfl,fU,gU,sU⟩;have f0U:=(gU.block w.heap.size (hlt f0Z) (by simpa using hne)).trans f0Z;refine DrawE.ord [6] [0,1,2,3,4,5,6] (by kernel_rfl) ?_;refine⟨_,zc (za (hdr f0U)) (i:=1) rfl,?_⟩;refine⟨by omega,_,zhx (e:=R.many) (by omega),?_⟩;refine cmo (zo4 (d:=x.dst) (v:=v) (s:=2^R.many) (hdr fU) hd) ?_;rintro e V ⟨rfl,fV,gV,sV⟩;refine⟨rfl,?_,zd gZ (zd gU (zd (gd U) gV))⟩;unfold zel;rw[Gm (by rw[<- hA];exact h)];exact fV
 ·have h:v=A.1:=by
   have h:(!decide (((v.toNat:Nat):Int)=((A.1.toNat:Nat):Int)))=false:=h;rw[zdQ,Bool.not_eq_false',dE] at h;exact h
  refine⟨zU.enc x,rfl,za f0Z,hlt f0Z,?_⟩;refine cmo (zou (x:=x) (o:=v) (v:=C.1) (d:=C.2) fZ hm hd) ?_;rintro e U ⟨rfl,fU,gU⟩;obtain⟨S,hS⟩:=nm (zbt R x v C.1 C.2);have sS:RunS S:=by rw[hS];exact hs.exch (by omega) hC2
  rw[<- hS] at fU;refine DrawE.ord [18] [0,1,2,3,4,5,6,7,8,9,10,11,12,13,14,15,16,17,18] (by kernel_rfl) ?_;refine⟨R.many+1,rfl,by omega,?_⟩;refine⟨_,by rw[UX,UB];exact zc (za (hdr fU)) (zl8 S (i:=R.many+1) (by omega)),?_⟩;refine⟨R.many+1,rfl,by omega,?_⟩;refine⟨_,by rw[UX,UB];exact zc (za (hdr fU)) (zkV S (i:=R.many+1) (by omega)),?_⟩;refine⟨_,zgc (sS.s _).2.2 hA2,?_⟩;refine⟨_,zgc (sS.s _).2.1 (zms (sS.s _).2.2 hA2),?_⟩;refine⟨R.many+1,rfl,by omega,?_⟩;refine zm zom (hdr fU) (o:=0+211+(R.many+1)*1) (v:=s32 (S.ctrl (R.many+1)|||(S.att (R.many+1)|||A.2))) rfl rfl (by rw[jM];omega) rfl fun V fV gV sV=>?_;rw[UQ,UX,zfv _ (by omega)] at fV;refine⟨rfl,?_,zd gZ (zd gU (zd (gd U) gV))⟩;unfold zel;rw[Gn (by rw[<- hA];exact h),<- hA,<- hC,<- hS];exact fV
theorem zqA(f:jJ w b R)(hs:RunS R)(hp:R.pc<=1000)(ha:x.ar=true->x.an.toNat<8)(hc:x.br=true->x.bn.toNat<8):Calls PG 326 #[AtR b,zde x,u8 v] w fun e w' =>
  e = .returned (.tuple #[])/\jJ w' b (zb0 R x)/\w.grownBy w' (some b):=by
 refine qA 61 [AtR b,zde x,u8 v] (.s .p (.s .p (.c .p (.c .p (.s .p (.c .p .p)))))) Tryz.func326 ?_;have f0:=zt w (.cells (zU.enc x).toArray 68);have hb:Bw w (w.alloc (.cells (zU.enc x).toArray 68)):=zba w _;have fr:=zb hb f;have aa:w.heap.size≠b:=fun e=>by have:=hlt f;omega
 refine⟨[.bool x.ar,u8 x.an],rfl,qX (o:=3) (n:=2) f0,hlt f0,?_⟩;refine cmo (zb5 fr ha) ?_;rintro e Y ⟨rfl,g⟩;have d:=zb g f0;have fY:=zb g fr;have gd:∀Z:Wd,Z.grownBy Z.drew (some b):=fun Z=>⟨rfl,rfl,rfl,UW _,fun _ _ _=>rfl⟩;obtain⟨A,z⟩:=nm (qE x.ar x.an R);obtain⟨C,u⟩:=nm (qE x.br x.bn R);have r:A.2<2^32:=by rw[z];exact hs.val _ _
 have m:C.2<2^32:=by rw[u];exact hs.val _ _
 refine⟨Unit,fun _=>⟨[(0,AtR b),(4,At0 w.heap.size),(6,u8 A.1),(7,s32 A.2),(8,u8 C.1),(9,s32 C.2)],[]⟩,fun _ X=>Bw Y X,?_,?_⟩
 ·refine⟨[.bool x.br,u8 x.bn],rfl,qX (o:=5) (n:=2) d,hlt d,?_⟩;refine cmo (zb5 fY hc) ?_;rintro e Z ⟨rfl,a⟩;rw[<- z,<- u];exact⟨(),(cvE rfl rfl),a⟩
 rintro _ Z a;have j:=zb a d;have fZ:=zb a fY;obtain⟨S,hS⟩:∃S:RunD,S={ R with ctl:=R.ctl|||(A.2|||C.2) }:=⟨_,rfl⟩;have ab:S.pc=R.pc:=by rw[hS]
 refine⟨Unit,fun _=>⟨[(0,AtR b),(4,At0 w.heap.size),(6,u8 A.1),(8,u8 C.1)],[]⟩,fun _ X=>jJ X b S/\X.heap[w.heap.size]?=some (.cells (zU.enc x).toArray 68 (0,0))/\w.grownBy X (some b),?_,?_⟩
 ·refine⟨_,zc (za fZ) (i:=17) (zo9 R),?_⟩;refine⟨_,zgc r m,?_⟩;refine⟨_,zgc hs.c (zms r m),?_⟩;refine zm zom fZ (o:=0+17) (v:=s32 (R.ctl|||(A.2|||C.2))) rfl rfl (by rw[jM];decide) rfl fun V l gV sV=>?_;rw[UQ,zl5] at l;exact⟨(),(cvE rfl rfl),by rw[hS];exact l,(gV.block w.heap.size (hlt j) (by simpa using aa)).trans j,zd (zi hb) (zd (zi g) (zd (zi a) gV))⟩
 clear f0 fr d fY j fZ hb g a;rintro _ V ⟨l,t,q⟩;refine⟨Unit,fun _=>⟨[(0,AtR b),(4,At0 w.heap.size),(10,.bool (zlX x.fn A.1 C.1))],[]⟩,fun _ X=>X=V,?_,?_⟩
 ·refine⟨_,zc (za t) (i:=7) rfl,?_⟩;refine biE (fun h=>?_) fun h=>?_
  ·have h:x.fn=4:=dT ((zdQ (x:=x.fn) (y:=4)).symm.trans h);exact⟨(),⟨.cons rfl (.cons rfl (.cons (by unfold zlX;rw[Gn h,<- zdQ];rfl) .nil)),rfl⟩,rfl⟩
  ·have h:¬x.fn=4:=dF ((zdQ (x:=x.fn) (y:=4)).symm.trans h);refine biE (fun k=>?_) fun k=>?_
   ·have k:x.fn=5:=dT ((zdQ (x:=x.fn) (y:=5)).symm.trans k);exact⟨(),⟨.cons rfl (.cons rfl (.cons (by unfold zlX;rw[Gm h,Gn k,<- zdQ];rfl) .nil)),rfl⟩,rfl⟩
   ·have k:¬x.fn=5:=dF ((zdQ (x:=x.fn) (y:=5)).symm.trans k);exact⟨(),⟨.cons rfl (.cons rfl (.cons (by unfold zlX;rw[Gm h,Gm k,<- zuX];rfl) .nil)),rfl⟩,rfl⟩
 rintro _ _ rfl;refine biE (fun h=>?_) fun h=>?_
 ·refine DrawE.ord [10] [0,1,2,3,4,5,6,7,8,9,10] (by kernel_rfl) ?_;refine⟨_,zc (za (hdr l)) (i:=0) rfl,?_⟩;refine⟨_,zc (za (hdr t)) (i:=9) rfl,?_⟩;have hk:=x.skip.toNat_lt;refine⟨_,ze (by omega),?_⟩;refine⟨((S.pc+x.skip.toNat:Nat):Int),(ze (by omega)).trans rfl,?_⟩;refine zm k3 (hdr l) (o:=0+0) (v:=i64 (S.pc+x.skip.toNat:Nat)) rfl rfl (by rw[jM];decide) rfl fun U fU gU sU=>?_;rw[UQ,zif] at fU;refine⟨rfl,?_,zd q (zd (gd _) gU)⟩;unfold zb0;rw[<- z,<- u,Gn h];rw[hS] at fU;exact fU
 ·refine⟨rfl,?_,q⟩;unfold zb0;rw[<- z,<- u,Gm (by rw[h];decide)];rw[hS] at l;exact l
end
def ExG (x:InsD):Prop :=
 (x.op=1/\x.dst.toNat<8)\/(x.op=2/\(x.ar=true->x.an.toNat<8))\/(x.op=3/\x.dst.toNat<8/\(x.ar=true->x.an.toNat<8)/\(x.br=true->x.bn.toNat<8))\/(x.op=4/\x.dst.toNat<8/\(x.ar=true->x.an.toNat<8))\/(x.op=5/\x.dst.toNat<8/\(x.ar=true->x.an.toNat<8))\/(x.op=6/\x.dst.toNat<8/\(x.ar=true->x.an.toNat<8)/\(x.br=true->x.bn.toNat<8))\/x.op=7\/(x.op=8/\(x.ar=true->x.an.toNat<8)/\(x.br=true->x.bn.toNat<8))
theorem ql{x:InsD}{R:RunD}{v:UInt8}:(x.op=1->zdO R x v=zsU R x v)/\(x.op=2->zdO R x v=znL R x)/\(x.op=3->zdO R x v=zsP R x)/\(x.op=4->zdO R x v=zsa R x v)/\(x.op=5->zdO R x v=zgL R x v)/\(x.op=6->zdO R x v=zel R x v)/\(x.op=7->zdO R x v=zot R x)/\(x.op=8->zdO R x v=zb0 R x):=by
 unfold zdO;refine⟨fun h=>?_,fun h=>?_,fun h=>?_,fun h=>?_,fun h=>?_,fun h=>?_,fun h=>?_,fun h=>?_⟩ <;> rw[h] <;> rfl
theorem zo1{R:RunD}{x:InsD}:(zb0 R x).pc<=R.pc+255/\(zb0 R x).many=R.many/\(zb0 R x).pc<=R.pc+x.skip.toNat:=by
 have:=x.skip.toNat_lt;unfold zb0;dsimp only
 split
 ·exact⟨by dsimp only;omega,rfl,UW _⟩
 ·exact⟨by dsimp only;omega,rfl,by dsimp only;omega⟩
theorem ztH{R:RunD}{x:InsD}{v:UInt8}:(zel R x v).pc=R.pc/\R.many+1<=(zel R x v).many/\(zel R x v).many<=R.many+2:=by
 unfold zel
 split
 ·exact⟨rfl,Nat.le_succ _,UW _⟩
 ·exact⟨rfl,UW _,Nat.le_succ _⟩
section
variable{R:RunD}{b:Nat}{w:Wd}
theorem zi4{x:InsD}{v:UInt8}(f:jJ w b R)(hs:RunS R)(hm:R.many<23)(hp:R.pc<=1000)(hx:ExG x):Calls PG 268 #[AtR b,zde x,u8 v] w fun e w' =>
  e = .returned (.tuple #[])/\jJ w' b (zY R x v)/\w.grownBy w' (some b):=by
 refine zD 21 [AtR b,zde x,u8 v] Tryz.func268 ?_;have p:=zt w (.cells (zU.enc x).toArray 68);obtain⟨W1,l⟩:=nm ((w.alloc (.cells (zU.enc x).toArray 68)).drew);have t:Bw w W1:=by rw[l];exact((zba w _)).drew
 have fr:jJ W1 b R:=zb t f;have p:W1.heap[w.heap.size]?=some (.cells (zU.enc x).toArray 68 (0,0)):=by rw[l];exact p
 have n:(w.alloc (.cells (Value.agg (zU.enc x).toArray).cells 68)).drew=W1:=l.symm;refine DrawE.ord [7] [1,2,4,5,6,0,3,7] (by kernel_rfl) ?_;rw[n];refine⟨_,zc (za p) (i:=0) rfl,zU.enc x,rfl,za p,hlt p,cmo zri ?_⟩;rintro e Y ⟨rfl,m⟩;refine⟨m,?_⟩;have k:=zb m fr;have z:w.grownBy Y (some b):=zd (zi t) (zi m);have g:∀{S:RunD} {Z:Wd},jJ Z b S->Y.grownBy Z (some b)->S.pc<=2000->zdO R x v=S->∃u,Z.cell? ⟨b,0+0,none⟩=some u/\zv0 PG .add 3 (.tmp 17) (.const (i64 1)) u (i64 1) (fun s=>SatR ((storeVar 3 ⟨b,0+0,none⟩ s).run PG Z) fun _ w'=>(Ending.returned (.tuple #[])=Ending.returned (.tuple #[]))/\jJ w' b (zY R x v)/\w.grownBy w' (some b)):=by
  intro S Z c d aa q;have q:zY R x v={ S with pc:=S.pc+1 }:=by unfold zY;rw[q]
  refine⟨_,zc (za c) (i:=0) rfl,((S.pc+1:Nat):Int),(ze (by show _<=((S.pc:Nat):Int)+1/\((S.pc:Nat):Int)+1<=_;omega)).trans rfl,zm k3 c (o:=0+0) (v:=i64 (S.pc+1:Nat)) rfl rfl (by rw[jM];decide) rfl fun V y gV sV=>?_⟩;rw[UQ,zif] at y;rw[q];exact⟨rfl,y,zd z (zd d gV)⟩
 rcases hx with⟨a,h⟩ | ⟨a,h⟩ | ⟨a,h,j,r⟩ | ⟨a,h,j⟩ | ⟨a,h,j⟩ | ⟨a,h,j,r⟩ | a | ⟨a,h,j⟩
 ·refine⟨1,by rw[a];rfl,by decide,?_⟩;refine zax (v:=fnV 319) rfl (cmo (zqD k (by omega) h) ?_);rintro e Z ⟨rfl,c,d⟩;exact g c d (show R.pc<=2000 by omega) (ql.1 a)
 ·refine⟨2,by rw[a];rfl,by decide,?_⟩;refine zax (v:=fnV 320) rfl (cmo (znT k (by omega) h) ?_);rintro e Z ⟨rfl,c,d⟩;exact g c d (show R.pc<=2000 by omega) (ql.2.1 a)
 ·refine⟨3,by rw[a];rfl,by decide,?_⟩;refine zax (v:=fnV 321) rfl (cmo (zqC k hs h j r) ?_);rintro e Z ⟨rfl,c,d⟩;exact g c d (show R.pc<=2000 by omega) (ql.2.2.1 a)
 ·refine⟨4,by rw[a];rfl,by decide,?_⟩;refine zax (v:=fnV 322) rfl (cmo (zqz k hm h j) ?_);rintro e Z ⟨rfl,c,d⟩;exact g c d (show R.pc<=2000 by omega) (ql.2.2.2.1 a)
 ·refine⟨5,by rw[a];rfl,by decide,?_⟩;refine zax (v:=fnV 323) rfl (cmo (znU k hs hm h j) ?_);rintro e Z ⟨rfl,c,d⟩;exact g c d (show R.pc<=2000 by omega) (ql.2.2.2.2.1 a)
 ·refine⟨6,by rw[a];rfl,by decide,?_⟩;refine zax (v:=fnV 324) rfl (cmo (zsk k hs hm h j r) ?_);rintro e Z ⟨rfl,c,d⟩;exact g c d (by rw[ztH.1];omega) (ql.2.2.2.2.2.1 a)
 ·refine⟨7,by rw[a];rfl,by decide,?_⟩;refine zax (v:=fnV 325) rfl (cmo (znV k (by omega)) ?_);rintro e Z ⟨rfl,c,d⟩;exact g c d (show R.pc<=2000 by omega) (ql.2.2.2.2.2.2.1 a)
 ·refine⟨8,by rw[a];rfl,by decide,?_⟩;refine zax (v:=fnV 326) rfl (cmo (zqA k hs hp h j) ?_);rintro e Z ⟨rfl,c,d⟩;exact g c d (by have:=(zo1 (R:=R) (x:=x)).1;omega) (ql.2.2.2.2.2.2.2 a)
end
theorem zqB{R:RunD}{x:InsD}{v:UInt8}(hs:RunS R)(hm:R.many<31)(hx:ExG x):RunS (zY R x v):=by
 have f:∀S:RunD,RunS S->zdO R x v=S->RunS (zY R x v):=fun S h e=>by
  unfold zY;rw[e];exact⟨h.d,h.c,h.s⟩
 have j:∀{o a:UInt8} {d:Nat},d<2^32->RunS (zbt R x o a d):=fun k=>hs.exch (by omega) k;rcases hx with⟨g,-⟩ | ⟨g,-⟩ | ⟨g,-⟩ | ⟨g,-⟩ | ⟨g,-⟩ | ⟨g,-⟩ | g | ⟨g,-⟩
 ·exact f _ ((hs.emit (by decide)).set (zpj (by omega))) (ql.1 g)
 ·exact f _ (hs.emit (hs.val _ _)) (ql.2.1 g)
 ·exact f _ (hs.set (zms (hs.val _ _) (hs.val _ _))) (ql.2.2.1 g)
 ·exact f _ (j (hs.val _ _)) (ql.2.2.2.1 g)
 ·refine f (zgL R x v) ?_ (ql.2.2.2.2.1 g);have h:=j (o:=v) (a:=v+(qE x.ar x.an R).1) (hs.val x.ar x.an);exact⟨h.d,h.c,fun i=>⟨zgi (fun i=>(h.s i).1) (zms (h.s _).1 (h.s _).2.2) i,(h.s i).2⟩⟩
 ·refine f (zel R x v) ?_ (ql.2.2.2.2.2.1 g);unfold zel
  split
  ·have h:=j (o:=v) (a:=(qE x.br x.bn R).1) (hs.val x.br x.bn);exact⟨h.d,h.c,fun i=>⟨(h.s i).1,zgi (fun i=>(h.s i).2.1) (zms (h.s _).2.1 (zms (h.s _).2.2 (hs.val _ _))) i,(h.s i).2.2⟩⟩
  ·exact(hs.emit (by decide)).set (zpj (by omega))
 ·exact f _ (hs.emit (by decide)) (ql.2.2.2.2.2.2.1 g)
 ·refine f (zb0 R x) ?_ (ql.2.2.2.2.2.2.2 g);have h:RunS { R with ctl:=R.ctl|||((qE x.ar x.an R).2|||(qE x.br x.bn R).2) }:=⟨hs.d,zms hs.c (zms (hs.val _ _) (hs.val _ _)),hs.s⟩;unfold zb0;dsimp only
  split
  ·exact⟨h.d,h.c,h.s⟩
  ·exact h
theorem zwG:RunS zjx:=⟨fun _=>(by decide:0<2^32),by decide,fun _=>⟨(by decide:0<2^32),(by decide:0<2^32),(by decide:0<2^32)⟩⟩
def ThG (l:List InsD):Prop:=l.length<=12/\∀i x,l[i]?=some x->ExG x/\(x.op=8->x.skip.toNat<=l.length-1-i)
theorem zlk{x:InsD}{k n:Nat}(h:zjD x k n=true):ExG x/\(x.op=8->x.skip.toNat<=n)/\(x.op=1\/x.op=2\/x.op=4\/x.op=5\/x.op=6->x.loc.toNat<k):=by
 unfold zjD jg at h;simp only[Ux,List.all_nil,id_eq,Bool.and_true,bAT,dE,QD] at h;obtain⟨⟨t,u⟩,-,m,f,⟨c,o⟩,-,-,d⟩:=h;have j:∀{r:Bool} {n:UInt8},zlG r n=true->r=true->n.toNat<8:=fun{r n} h s=>by
  subst s;unfold zlG at h;simpa using h
 have c:=j c;have o:=j o;have p:∀i,1<=i->i<=8->UInt8.ofNat i=1\/UInt8.ofNat i=2\/UInt8.ofNat i=3\/UInt8.ofNat i=4\/UInt8.ofNat i=5\/UInt8.ofNat i=6\/UInt8.ofNat i=7\/UInt8.ofNat i=8:=by
  intro i a b;have:i=1\/i=2\/i=3\/i=4\/i=5\/i=6\/i=7\/i=8:=by omega
  rcases this with e | e | e | e | e | e | e | e <;> subst e <;> decide
 have g:=p x.op.toNat t u;rw[UInt8.ofNat_toNat] at g;refine⟨?_,fun e=>?_,fun e=>?_⟩
 ·unfold ExG;rcases g with e | e | e | e | e | e | e | e
  ·exact .inl ⟨e,m⟩
  ·exact .inr (.inl ⟨e,c⟩)
  ·exact .inr (.inr (.inl ⟨e,m,c,o⟩))
  ·exact .inr (.inr (.inr (.inl ⟨e,m,c⟩)))
  ·exact .inr (.inr (.inr (.inr (.inl ⟨e,m,c⟩))))
  ·exact .inr (.inr (.inr (.inr (.inr (.inl ⟨e,m,c,o⟩)))))
  ·exact .inr (.inr (.inr (.inr (.inr (.inr (.inl e))))))
  ·exact .inr (.inr (.inr (.inr (.inr (.inr (.inr ⟨e,c,o⟩))))))
 ·rw[e] at d;rcases d with d | d
  ·exact Gp d (by decide)
  ·exact d.2
 ·rcases f with f | f
  ·rcases e with e | e | e | e | e <;> rw[e] at f <;> exact Gp f (by decide)
  ·exact f
theorem zkO{l:List InsD}{k:Nat}(h:qI l k=true):ThG l:=by
 unfold qI at h;rw[bAT,dE,Qg] at h;refine⟨h.1,fun i x c=>?_⟩;have a:i<l.length:=(Jr.1 c).1;have:=h.2 i (Ul.2 a);rw[c] at this;exact⟨(zlk this).1,(zlk this).2.1⟩
structure RunOk (l:List InsD) (R:RunD):Prop where
 m:R.many<=2*R.pc
 p:R.pc<=l.length
 s:RunS R
theorem zkW(l:List InsD):RunOk l zjx:=⟨UW _,UZ _,zwG⟩
theorem zcs{l:List InsD}{S:RunD}{x:InsD}{v:UInt8}(ht:ThG l)(h:RunOk l S)(hx:l[S.pc]?=some x):RunOk l (zY S x v)/\S.pc+1<=(zY S x v).pc:=by
 obtain⟨d,g⟩:=ht.2 _ _ hx;have c:S.pc<l.length:=(Jr.1 hx).1;have y:=h.m;have r:=ht.1;have k:=zqB (v:=v) h.s (by omega) d;have a:∀T:RunD,zdO S x v=T->T.many<=2*T.pc+2->S.pc<=T.pc->T.pc+1<=l.length->RunOk l (zY S x v)/\S.pc+1<=(zY S x v).pc:=fun T e u t p=>by
  have i:zY S x v={ T with pc:=T.pc+1 }:=by unfold zY;rw[e]
  refine⟨⟨?_,?_,k⟩,?_⟩
  ·rw[i];dsimp only;omega
  ·rw[i];exact p
  ·rw[i];dsimp only;omega
 rcases d with⟨e,-⟩ | ⟨e,-⟩ | ⟨e,-⟩ | ⟨e,-⟩ | ⟨e,-⟩ | ⟨e,-⟩ | e | ⟨e,-⟩
 ·exact a _ (ql.1 e) (show S.many+1<=2*S.pc+2 by omega) (UW _) c
 ·exact a _ (ql.2.1 e) (show S.many+1<=2*S.pc+2 by omega) (UW _) c
 ·exact a _ (ql.2.2.1 e) (show S.many<=2*S.pc+2 by omega) (UW _) c
 ·exact a _ (ql.2.2.2.1 e) (show S.many+1+1<=2*S.pc+2 by omega) (UW _) c
 ·exact a _ (ql.2.2.2.2.1 e) (show S.many+1+1<=2*S.pc+2 by omega) (UW _) c
 ·obtain⟨n,o,j⟩:=ztH (R:=S) (x:=x) (v:=v);exact a _ (ql.2.2.2.2.2.1 e) (by omega) (by omega) (by omega)
 ·exact a _ (ql.2.2.2.2.2.2.1 e) (show S.many+1<=2*S.pc+2 by omega) (UW _) c
 ·obtain⟨n,o,j⟩:=zo1 (R:=S) (x:=x);have z:=g e;have f:S.pc<=(zb0 S x).pc:=by
   unfold zb0;dsimp only
   split
   ·exact Qv _ _
   ·exact UW _
  exact a _ (ql.2.2.2.2.2.2.2 e) (by omega) f (by omega)
theorem zqK{x:InsD}(hx:ExG x):((x.op=1\/x.op=4\/x.op=5\/x.op=6)/\zae x=true)\/((x.op≠1/\x.op≠4/\x.op≠5/\x.op≠6)/\zae x=false):=by
 by_cases h:x.op=1\/x.op=4\/x.op=5\/x.op=6
 ·refine .inl ⟨h,?_⟩;unfold zae;rcases h with e | e | e | e <;> rw[e] <;> rfl
 ·have d:x.op≠1:=fun e=>h (.inl e);have c:x.op≠4:=fun e=>h (.inr (.inl e));have f:x.op≠5:=fun e=>h (.inr (.inr (.inl e)));have a:x.op≠6:=fun e=>h (.inr (.inr (.inr e)));refine .inr ⟨⟨d,c,f,a⟩,?_⟩;unfold zae;rw[Ue d,Ue c,Ue f,Ue a];rfl
section
variable{R:RunD}{b:Nat}{w:Wd}{l:List InsD}{q:OA}{cap:Nat}
theorem zio(f:jJ w b R)(hl:SlR zU w q l)(hq:l≠[]->∀a,q=some a->a.block≠b)(ht:ThG l)(hR:RunOk l R) :
  Calls PG 267 #[AtR b,.slice q l.length cap] w fun e w'=>e = .returned (.bool (l[(goR l l.length R).pc]?).isSome)/\jJ w' b (goR l l.length R)/\w.grownBy w' (some b)/\RunOk l (goR l l.length R)/\R.pc<=(goR l l.length R).pc:=by
 refine zD 34 [AtR b,.slice q l.length cap] Tryz.func267 ?_;have ab:=ht.1;refine⟨RunD×Nat,fun s=>⟨[(0,AtR b),(1,.slice q l.length cap)],[]⟩,
  fun s X=>(goR l l.length R=goR l s.2 s.1/\l.length<=s.2+s.1.pc/\RunOk l s.1/\R.pc<=s.1.pc)/\jJ X b s.1/\w.grownBy X (some b),fun s=>l.length-s.1.pc,(R,l.length),
  (cvE rfl rfl),⟨⟨rfl,by omega,hR,UW _⟩,f,qo w _⟩,?_⟩
 rintro⟨S,n⟩ X ⟨⟨z,hn,r,o⟩,j,gX⟩;dsimp only at z hn r o j ⊢;refine⟨_,zc (za j) (i:=0) rfl,biE (fun y=>?_) fun y=>?_⟩
 ·have y:(S.pc:Int)<(l.length:Int):=dT y;have p:S.pc<l.length:=by omega
  have hm:=r.m;obtain⟨n,rfl⟩:∃n',n=n'+1:=⟨n-1,by omega⟩;obtain⟨bq,oq,rfl,aa,t⟩:=(zqu hl (hq (List.ne_nil_of_length_pos (by omega))) gX).at p;have h:l[S.pc]?=some l[S.pc]:=gE p;have x:=(ht.2 _ _ h).1;refine⟨_,zc (za j) (i:=0) rfl,S.pc,rfl,p,_,zc (t S.pc p) (i:=0) rfl,?_⟩;have d:∀k:UInt8,l[S.pc].op≠k->decide (((l[S.pc].op).toNat:Int)=(k.toNat:Int))=false:=fun k hk=>Ue fun e=>hk (qS.1 e);rcases zqK x with⟨c,hr⟩ | ⟨⟨o1,o4,o5,o6⟩,hr⟩
  ·have e1:goR l l.length R=S:=z.trans (zvi h hr _);have g:∀{u:Bool},u=true->(Ending.returned (.bool u)=Ending.returned (.bool (l[(goR l l.length R).pc]?).isSome)/\jJ X b (goR l l.length R)/\w.grownBy X (some b)/\RunOk l (goR l l.length R)/\R.pc<=(goR l l.length R).pc):=fun hu=>by
    rw[e1,h,hu];exact⟨rfl,j,gX,r,o⟩
   rcases c with c | c | c | c
   ·exact brE (by rw[c];rfl) (brE (by rw[c];rfl) (g rfl))
   ·exact brN (d 1 (by rw[c];decide)) (brE (by rw[c];rfl) (brE (by rw[c];rfl) (g rfl)))
   ·exact brN (d 1 (by rw[c];decide)) (brN (d 4 (by rw[c];decide)) (brE (by rw[c];rfl) (brE (by rw[c];rfl) (g rfl))))
   ·exact brN (d 1 (by rw[c];decide)) (brN (d 4 (by rw[c];decide)) (brN (d 5 (by rw[c];decide)) (brE (by rw[c];rfl) (g rfl))))
  ·refine brN (d 1 o1) (brN (d 4 o4) (brN (d 5 o5) (brN (d 6 o6) ⟨_,zc (za j) (i:=0) rfl,S.pc,rfl,p,zU.enc l[S.pc],rfl,t S.pc p,aa,cmo (zi4 (v:=0) j r.s (by omega) (by omega) x) ?_⟩)));rintro e Y ⟨rfl,fY,gY⟩;obtain⟨x1,x2⟩:=zcs (v:=0) ht r h;exact⟨(zY S l[S.pc] 0,n),(cvE rfl rfl),⟨⟨z.trans (zvh h hr n),by dsimp only;omega,x1,by dsimp only;omega⟩,fY,zd gX gY⟩,by dsimp only;omega⟩
 ·have y:¬(S.pc:Int)<(l.length:Int):=dF y;have h:l[S.pc]?=none:=JI (by omega);have e1:goR l l.length R=S:=z.trans (ztd h _);rw[e1,h];exact⟨rfl,j,gX,r,o⟩
end
structure RowN {α:Type} (E:Enc α) (n0:Nat) (F:Nat->Prop) (X:Wd) (q:OA) (l:List α):Prop where
 row:SlR E X q l
 out:l≠[]->∀a,q=some a->a.block<n0/\¬F a.block
theorem RowN.keep{α:Type}{E:Enc α}{n0:Nat}{F F' G:Nat->Prop}{X Y:Wd}{q:OA}{l:List α}(h:RowN E n0 F X q l)(hn:n0<=X.heap.size)(k:KeepsG G F' X Y)(hG:∀k,k<n0->G k->F k):RowN E n0 F' Y q l:=by
 by_cases a:l=[]
 ·exact⟨.inl a,fun h=>(h a).elim⟩
 ·have r:RowF E n0 F X q l:=⟨h.row,h.out a⟩;have b:=r.keep hn k hG;exact⟨b.row,fun _=>b.out⟩
section
variable{yl n0 cap cd:Nat}{J Jx:List RunD->(Nat->Prop)->Wd->Prop}{xs:List RunD}{l:List InsD}{dom:List UInt8}{q p:OA}
theorem zqr(hJ:JG n0 (fun _=>False) J)(hn0:∀pre F X,J pre F X->n0<=X.heap.size)(hy:∀pre x vs F W1,J pre F W1->StR (pre++[x]) vs W1->(pre++[x]) <+: xs->YieldR PG yl vs.toArray W1 fun v W2=>(v = .bool true/\∃F',J (pre++[x]) F' W2/\KeepsG F F' W1 W2)\/(v = .bool false/\∃F',Jx (pre++[x]) F' W2))(ht:ThG l)(hd:dom.length<=1000) :
  ∀(n:Nat) (S:RunD) (b:Nat) (pre:List RunD) (F:Nat->Prop) (X:Wd),l.length<=n+S.pc->RunOk l S->jJ X b S->n0<=b->¬F b->J pre F X->RowN zU n0 F X q l->RowF zS n0 F X p dom->(pre++zT l dom n S) <+: xs ->
   Calls PG 193 #[AtR b,.slice q l.length cap,.slice p dom.length cd,.func (.yield yl) #[] #[]] X fun e Y =>
    (e = .returned (.bool true)/\∃F',J (pre++zT l dom n S) F' Y/\KeepsG (fun k=>F k\/k=b) F' X Y)\/(e = .returned (.bool false)/\∃pre' F',pre' <+: xs/\Jx pre' F' Y):=by
 intro n
 induction n with
 | zero =>
  intro S b pre F X hn hS fX hb w hj hq am c;refine zD 41 [AtR b,.slice q l.length cap,.slice p dom.length cd,.func (.yield yl) #[] #[]] Tryz.func193 ?_;have a6:S.pc=l.length:=by have:=hS.p;omega
  have u:l[S.pc]?=none:=JI (by omega);have e1:goR l l.length S=S:=ztd u _;refine cmo (zio fX hq.row (fun aa a ha=>by have:=(hq.out aa a ha).1;omega) ht hS) ?_;rintro e Y ⟨rfl,fY,t,_⟩;rw[e1] at fY ⊢;rw[u];refine brT ?_;have j:=hJ.step _ _ _ _ hj (StepG.grown t (.inl hb) w);have hs:zT l dom 0 S=[S]:=by show[goR l l.length S]=_;rw[e1]
  rw[hs] at c ⊢;refine YieldR.mono (hy pre S [AtR b] F Y j ⟨S,b,by simp,rfl,fY⟩ c) ?_;rintro v Z (⟨rfl,F',d,ad⟩ | ⟨rfl,F',d⟩)
  ·exact .inl ⟨rfl,F',d,(KeepsG.grown (F:=fun k=>F k\/k=b) t (.inr rfl)).trans (ad.weak fun k h => .inl h)⟩
  ·exact .inr ⟨rfl,_,F',c,d⟩
 | succ n ih =>
  intro S b pre F X hn hS fX hb w hj hq am c;refine zD 41 [AtR b,.slice q l.length cap,.slice p dom.length cd,.func (.yield yl) #[] #[]] Tryz.func193 ?_;obtain⟨T,hT⟩:=nm (goR l l.length S);refine cmo (zio fX hq.row (fun aa a ha=>by have:=(hq.out aa a ha).1;omega) ht hS) ?_;rintro e Y ⟨rfl,fY,t,tO,aw⟩;rw[<- hT] at fY tO aw ⊢;have j:=hJ.step _ _ _ _ hj (StepG.grown t (.inl hb) w);have ah:=hn0 _ _ _ hj;have kY:KeepsG (fun k=>F k\/k=b) F X Y:=⟨t.os,t.tape,t.output,t.size,fun k hk hf=>t.block k hk (fun e=>hf (.inr (by cases e;rfl))),fun k h => .inl (.inl h)⟩;have af:=hq.keep ah kY (fun k hk h=>h.resolve_right (by omega));have ag:=am.keep ah kY (fun k hk h=>h.resolve_right (by omega))
  cases u:l[T.pc]? with
  | none =>
   refine brT ?_;have hs:zT l dom (n+1) S=[T]:=by
    show(match l[(goR l l.length S).pc]? with | none=>[goR l l.length S] | some x=>_)=_;rw[<- hT,u]
   rw[hs] at c ⊢;refine YieldR.mono (hy pre T [AtR b] F Y j ⟨T,b,by simp,rfl,fY⟩ c) ?_;rintro v Z (⟨rfl,F',d,ad⟩ | ⟨rfl,F',d⟩)
   ·exact .inl ⟨rfl,F',d,kY.trans ad⟩
   ·exact .inr ⟨rfl,_,F',c,d⟩
  | some x =>
   have hi:T.pc<l.length:=(Jr.1 u).1;have aq:l[T.pc]=x:=by rw[gE hi] at u;exact Uc u
   have a2:=(ht.2 _ _ u).1;refine brF ?_;have hs:zT l dom (n+1) S=dom.flatMap fun v=>zT l dom n (zY T x v):=by
    show(match l[(goR l l.length S).pc]? with | none=>[goR l l.length S] | some x=>_)=_;rw[<- hT,u]
   rw[hs] at c ⊢;refine⟨Nat×(Nat->Prop),fun s=>⟨[(0,AtR b),(1,.slice q l.length cap),(2,.slice p dom.length cd),(3,.func (.yield yl) #[] #[]),(19,.slice p dom.length cd),(20,i64 dom.length),(21,i64 (s.1:Nat))],[]⟩,
    fun s Z=>s.1<=dom.length/\J (pre++(dom.take s.1).flatMap fun v=>zT l dom n (zY T x v)) s.2 Z/\jJ Z b T/\¬s.2 b/\RowN zU n0 s.2 Z q l/\RowF zS n0 s.2 Z p dom/\KeepsG (fun k=>F k\/k=b) s.2 X Z,fun s=>dom.length-s.1,(0,F),
    (cvE rfl rfl),⟨UZ _,by rw[Um];show J (pre++[]) F Y;rw[QG];exact j,fY,w,af,ag,kY⟩,?_⟩
   clear fY t j af ag kY;rintro⟨k,G⟩ Z ⟨hk,g,fZ,ac,ab,y,kZ⟩;dsimp only at hk g ac ab y kZ ⊢;have f:=hn0 _ _ _ g;refine biE (fun hc=>?_) fun hc=>?_
   ·have hc:(k:Int)<(dom.length:Int):=dT hc;have r:k<dom.length:=(by omega);obtain⟨bp,op,ai,a5,al⟩:=y.row.at r;have ak:=ab;obtain⟨bq,oq,ar,an,aj⟩:=ab.row.at hi;have ep:some (Value.slice p dom.length cd)=some (Value.slice (some ⟨bp,op,none⟩) dom.length cd):=(by rw[ai]);subst ai;refine⟨k,rfl,r,u8 dom[k],by have:=zc (al k r) (i:=0) (v:=u8 dom[k]) rfl;exact this,jd T,jM _,za fZ,hlt fZ,zo (X:=Z) (v := .agg (jd T).toArray) zyB (jM _) zqi (zsl _) fun V o fV sV=>?_⟩;subst ar;have fV:jJ V Z.heap.size T:=fV;refine⟨_,zc (za fV) (i:=0) rfl,T.pc,rfl,hi,zU.enc x,rfl,by rw[<- aq];exact zw o (aj T.pc hi),nL an o.size,cmo (zi4 (v:=dom[k]) fV tO.s (by have:=tO.m;have:=ht.1;omega) (by have:=ht.1;omega) a2) ?_⟩;rintro e U ⟨rfl,fU,gU⟩;obtain⟨x1,x2⟩:=zcs (v:=dom[k]) ht tO u;have ae:¬G Z.heap.size:=fun h=>by have:=(hJ.lt _ _ _ _ g h).1;omega
    have a3:=hJ.step _ _ _ _ (hJ.step _ _ _ _ g (StepG.below o)) (StepG.grown gU (.inl f) ae);have a0:Bw Z U:=o.trans (zl gU o.size (UW _));have z:KeepsG G G Z U:=KeepsG.below a0 fun k h => .inl h;have ap:=ak.keep f z (fun k _ h=>h);have av:=y.keep f z (fun k _ h=>h);have az:dom.flatMap (fun v=>zT l dom n (zY T x v))=(dom.take k).flatMap (fun v=>zT l dom n (zY T x v))++(zT l dom n (zY T x dom[k])++(dom.drop (k+1)).flatMap fun v=>zT l dom n (zY T x v)):=by
     have e:dom=dom.take k++dom[k]::dom.drop (k+1):=(by rw[JD,JO]);have e2:(dom.take k++dom[k]::dom.drop (k+1)).flatMap (fun v=>zT l dom n (zY T x v))=(dom.take k).flatMap (fun v=>zT l dom n (zY T x v))++(zT l dom n (zY T x dom[k])++(dom.drop (k+1)).flatMap fun v=>zT l dom n (zY T x v)):=by
      rw[Kh,KR]
     rw[<- e] at e2;exact e2
    have ay:((pre++(dom.take k).flatMap fun v=>zT l dom n (zY T x v))++zT l dom n (zY T x dom[k])) <+: xs:=by
     refine List.IsPrefix.trans ?_ c;rw[az];exact⟨(dom.drop (k+1)).flatMap fun v=>zT l dom n (zY T x v),by simp only[KN]⟩
    have a4:(dom.take (k+1)).flatMap (fun v=>zT l dom n (zY T x v))=(dom.take k).flatMap (fun v=>zT l dom n (zY T x v))++zT l dom n (zY T x dom[k]):=by
     rw[tsg r,Kh,KR,Qm,QG]
    refine cmo (ih (zY T x dom[k]) Z.heap.size (pre++(dom.take k).flatMap fun v=>zT l dom n (zY T x v)) G U (by omega) x1 fU f ae a3 ap av ay) ?_;rintro e V' (⟨rfl,F',ao,kV⟩ | ⟨rfl,pre',F',ax,au⟩)
    ·refine brF ?_;have kW:KeepsG G F' Z V':=⟨kV.os.trans z.os,kV.tape.trans z.tape,kV.output.trans z.output,UL z.size kV.size,fun i hi hf=>(kV.same i (nL hi z.size) (fun h=>by
      rcases h with h | h
      ·exact hf h
      ·omega)).trans (z.same i hi hf),fun i h=>by
      have:=z.size;rcases kV.fp i h with(h2 | h2) | h2
      ·exact .inl h2
      ·exact .inr (by omega)
      ·exact .inr (by omega)⟩
     have a1:=hlt fZ;refine nxI (by omega) ⟨(k+1,F'),(cvE rfl rfl),⟨r,?_,(kW.same b a1 ac).trans fZ,fun h=>?_,ak.keep f kW (fun _ _ h=>h),y.keep f kW (fun _ _ h=>h),kZ.trans kW⟩,zdc (by omega)⟩
     ·show J (pre++(dom.take (k+1)).flatMap fun v=>zT l dom n (zY T x v)) F' V';rw[a4,<- KN];exact ao
     ·rcases kW.fp b h with h2 | h2
      ·exact ac h2
      ·omega
    ·exact brT (.inr ⟨rfl,pre',F',ax,au⟩)
   ·have hc:¬(k:Int)<(dom.length:Int):=dF hc;obtain rfl:k=dom.length:=(by omega);rw[Qt] at g;exact .inl ⟨rfl,G,g,kZ⟩
theorem zlr{bi bd:Nat}{W0:Wd}(hl:SlR zU W0 q l)(hp:SlR zS W0 p dom)(fi:W0.heap[bi]?=some (.cells #[.slice q l.length cap] 64 (0,0)))(fd:W0.heap[bd]?=some (.cells #[.slice p dom.length cd] 23 (0,0)))(hql:l≠[]->∀a,q=some a->a.block<W0.heap.size)(hpl:∀a,p=some a->a.block<W0.heap.size)(ht:ThG l)(hd:dom.length<=1000) :
  zkC PG 192 [AtR bi,AtR bd] (qB l dom) W0 (fun k=>(k=bi\/k=bd)\/(l≠[]/\∃a,q=some a/\k=a.block)\/∃a,p=some a/\k=a.block) (fun _=>False) StR:=by
 intro yl F0 J Jx W ah f o r ag hy h0;refine zD 9 [.func (.yield yl) #[] #[],AtR bi,AtR bd] Tryz.func192 ?_;obtain⟨X,hX⟩:=nm (W.alloc (.cells (jd zjx).toArray 209));have b:Bw W X:=by rw[hX];exact(zba W _)
 have fX:jJ X W.heap.size zjx:=by rw[hX];exact zt W _
 have ez:zoU=jd zjx:=by kernel_rfl
 have g:W.alloc (.cells (zoU).toArray 209)=X:=by rw[hX,ez]
 have z:=(f bi (.inl (.inl (.inl rfl)))).trans fi;have af:=(f bd (.inl (.inl (.inr rfl)))).trans fd;have aa:=r.step _ _ _ _ h0 (StepG.below b);have hF:¬F0 W.heap.size:=fun h=>by have:=(r.lt _ _ _ _ h0 h).1;omega
 have ac:RowN zU W.heap.size F0 X q l:=by
  by_cases c:l=[]
  ·exact⟨.inl c,fun h=>(h c).elim⟩
  ·exact⟨jr hl fun a d=>(b.block _ (by have:=hql c a d;omega)).trans (f _ (.inl (.inr (.inl ⟨c,a,d,rfl⟩)))),fun _ a d=>⟨by have:=hql c a d;omega,o _ (.inr (.inl ⟨c,a,d,rfl⟩))⟩⟩
 have ab:RowF zS W.heap.size F0 X p dom:=⟨jr hp fun a d=>(b.block _ (by have:=hpl a d;omega)).trans (f _ (.inl (.inr (.inr ⟨a,d,rfl⟩)))),fun a d=>⟨by have:=hpl a d;omega,o _ (.inr (.inr ⟨a,d,rfl⟩))⟩⟩;refine⟨_,by rw[g];exact zc (za (zb b z)) (i:=0) rfl,_,by rw[g];exact zc (za (zb b af)) (i:=0) rfl,?_⟩;rw[g];have ad:JG W.heap.size (fun _=>False) (fun j F Z=>J j F Z/\W.heap.size<=Z.heap.size):=⟨fun s F A B ⟨h,u⟩ hs=>⟨r.step _ _ _ _ h hs,UL u hs.size⟩,fun s F A k ⟨h,_⟩ hk=>r.lt _ _ _ _ h hk⟩;refine cmo (zqr (xs:=qB l dom) (Jx:=Jx) ad (fun _ _ _ h=>h.2) (fun j x vs F W1 ⟨y,u⟩ ae n=>YieldR.mono (hy j x vs F W1 y ae n) fun v W2 h=>?_) ht hd l.length zjx W.heap.size [] F0 X (UW _) (zkW l) fX (UW _) hF ⟨aa,b.size⟩ ac ab (List.prefix_refl _)) ?_
 ·rcases h with⟨rfl,F',w,t⟩ | h
  ·exact .inl ⟨rfl,F',⟨w,UL u t.size⟩,t⟩
  ·exact .inr h
 ·rintro e Y (⟨rfl,F',⟨y,_⟩,_⟩ | ⟨rfl,m,F',w,t⟩)
  ·exact⟨⟨_,rfl⟩,.inl ⟨F',y⟩⟩
  ·exact⟨⟨_,rfl⟩,.inr ⟨m,F',w,t⟩⟩
end
theorem ziX{l:List InsD}(ht:ThG l):∀(n:Nat) (S:RunD),RunOk l S->RunOk l (goR l n S)
 | 0,S,h=>h
 | n+1,S,h=>by
  show RunOk l (match l[S.pc]? with | none=>S | some x=>if zae x then S else goR l n (zY S x 0))
  cases hg:l[S.pc]? with
  | none=>exact h
  | some x =>
   dsimp only
   split
   ·exact h
   ·exact ziX ht n _ (zcs ht h hg).1
theorem zh4{l:List InsD}(ht:ThG l)(dom:List UInt8):∀(n:Nat) (S:RunD),RunOk l S->∀R∈zT l dom n S,RunOk l R
 | 0,S,h,R,a=>by
  have a:R∈[goR l l.length S]:=a;rw[KB] at a;rw[a];exact ziX ht _ _ h
 | n+1,S,h,R,a=>by
  have b:=ziX ht l.length S h;have a:R∈(match l[(goR l l.length S).pc]? with | none=>[goR l l.length S] | some x=>dom.flatMap fun v=>zT l dom n (zY (goR l l.length S) x v)):=a
  cases hg:l[(goR l l.length S).pc]? with
  | none =>
   rw[hg] at a;have a:=KB.1 a;rw[a];exact b
  | some x =>
   rw[hg] at a;obtain⟨v,-,c⟩:=List.mem_flatMap.1 a;exact zh4 ht dom n _ (zcs ht b hg).1 R c
theorem ztt{l:List InsD}(ht:ThG l)(dom:List UInt8):∀R∈qB l dom,RunOk l R:=zh4 ht dom _ _ (zkW l)
theorem zhN{l:List InsD}(ht:ThG l)(dom:List UInt8):∀R∈qB l dom,R.many<=24/\∀i,R.data i<2^32/\R.ctrl i<2^32/\R.att i<2^32:=fun R a=>by
 have h:=ztt ht dom R a;have c:=h.m;have d:=h.p;have b:=ht.1;exact⟨by omega,fun i=>h.s.s i⟩
end Go.Proofs.YtakcdebpklffiaaGreatDoor
