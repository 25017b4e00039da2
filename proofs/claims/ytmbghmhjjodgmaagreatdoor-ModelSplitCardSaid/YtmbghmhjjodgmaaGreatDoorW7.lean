/- Contracts: the program order that a model preserves. Contracts: the axioms of the models. Contracts: what the models tell of an execution: Kept, Fr, Loc, Ext, Int, Fenced. Contracts: law 10's own programs; the candidates that are looked for. Contracts: the candidates that law 10 looks for; what the models say of one. Contracts: what the models say of a candidate, asked one by one; the law's examples. Contracts: law 10's examples. (Printed by tools/gen_aw10.py.). Contracts: the pairs of a relation, listed; whether a pair is one of it. The law: parts of relations (ModelSplit). (Printed by tools/gen_split.py.). Readings opened: the parts of any reading, and the sizes. Readings opened: relations, executions. Small facts of executions for the laws of the models. The condition of a row gives what the walks need of a world; a world that meets it. -/
import Derived.Test.YtmbghmhjjodgmaaGreatDoorW6
import Derived.Test.YtmbghmhjjodgmaaGreatDoorW2
import Derived.Test.YtmbghmhjjodgmaaGreatDoorRows
import Derived.ProofKit
import Derived.OpenShut
import Derived.LaidLaws
import Derived.Below
import Derived.HandedShaped
import Derived.KernelRfl
import Derived.WalkKit
import Derived.ChangeOld
import Derived.SevenTiedAt
import Derived.LaidHandle
import Derived.Stop.LaidErr
import Derived.Lib.LaidTab
import Derived.SizedLaws
set_option linter.unusedSimpArgs false
set_option linter.unusedVariables false
namespace Go.Proofs.YtmbghmhjjodgmaaGreatDoor
open Go.Vc Go.RowKit Go.Sei
abbrev zdS:List Value:=[.nilFunc,.func (.func 131) #[] #[],.func (.func 132) #[] #[],.func (.func 133) #[] #[],.func (.func 137) #[] #[],.func (.func 138) #[] #[],.func (.func 140) #[] #[]]
section
variable {b c:Nat} {x:ExD} {q:Option Addr} {w:World} {f l s:RelD}
theorem znI:Calls Tryz.prog 105 #[] w fun e w'=>e = .returned (.agg zdS.toArray)∧Below w.heap.size w w':=by
 refine zah (S:=sg 8) (sgOk _) (args:=[]) (.c .p .p) Tryz.func105 rfl rfl (Nat.le_of_ble_eq_true rfl) rfl ?_
 obtain⟨L,hL⟩:=nm (w.heap.size)
 refine⟨Unit,fun _=>⟨[(0,At0 L)],[]⟩,fun _ X=>X.heap[L]?=some (.cells #[.nilFunc,.nilFunc,.nilFunc,.nilFunc,.nilFunc,.nilFunc,.nilFunc] 146 (0,0))∧Below w.heap.size w X,⟨(),⟨.cons (by rw [hL];rfl) .nil,rfl⟩,by rw [hL];exact hnew w _,(Below.refl _ w).alloc (Nat.le_refl _) _⟩,?_⟩
 rintro _ X ⟨f0,hbX⟩
 refine⟨[.func (.func 131) #[] #[]],by kernel_rfl,?_⟩
 refine⟨[.func (.func 132) #[] #[]],by kernel_rfl,?_⟩
 refine⟨[.func (.func 133) #[] #[]],by kernel_rfl,?_⟩
 refine⟨[.func (.func 137) #[] #[]],by kernel_rfl,?_⟩
 refine⟨[.func (.func 138) #[] #[]],by kernel_rfl,?_⟩
 refine⟨[.func (.func 140) #[] #[]],by kernel_rfl,?_⟩
 refine⟨zdS,by kernel_rfl,?_⟩
 refine zar (v := .agg zdS.toArray) (ttOk.get 146 _ rfl) f0 rfl rfl rfl ?_
 exact⟨zdS,rfl,zab (zal f0),rfl,zaj hbX (by omega) _⟩
theorem zes {S Rb Mb Sv g a d:Nat} {m:UInt8} {K:Bool} (hs:ScnV w S x q c f l s) (fSv:w.heap[Sv]?=some (.cells #[At0 S] 140 (0,0))) (fR:w.heap[Rb]?=some (.cells zdS.toArray 146 (0,0))) (fM:w.heap[Mb]?=some (.cells #[u8 m] 5 (0,0)))
  (hm7:m.toNat<7) (hm:zdS[m.toNat]?=some (.func (.func g) #[] #[])) (hok:zbs (sg 0) g=true) (hK:∀ X,Below w.heap.size w X→Calls Tryz.prog g #[At0 S,i64 (a:Nat),i64 (d:Nat)] X fun e Y=>e = .returned (.bool K)∧Below X.heap.size X Y) (ha:a<x.ev.length) (hd:d<x.ev.length) :
  Calls Tryz.prog 106 #[i64 (a:Nat),i64 (d:Nat),At0 Sv,At0 Rb,At0 Mb] w fun e w'=>e = .returned (.bool (hasM x.po a d&&(accA x a&&(accA x d&&K))))∧Below w.heap.size w w':=by
 refine zae (S:=sg 47) (sgOk _) (args:=[i64 (a:Nat),i64 (d:Nat),At0 Sv,At0 Rb,At0 Mb]) Tryz.func106 rfl rfl (Nat.le_of_ble_eq_true rfl) rfl ?_
 have hn:=hs.v.n
 have fx:=hs.cells
 obtain⟨bq,oq,hqe,hb,hat⟩:=zcD hs.v.ev ha
 obtain⟨bq2,oq2,hqe2,hb2,hat2⟩:=zcD hs.v.ev hd
 rw [hqe] at hqe2
 simp only [Option.some.injEq,Addr.mk.injEq,and_true] at hqe2
 rw [← hqe2.1,← hqe2.2] at hat2
 have hpo:=hs.v.po
 subst hqe
 have dw:Below w.heap.size w w.drew:=(Below.refl _ _).drew
 refine DrawE.ord [] [0,1,2,3,4,5,6,7,8,9,10,11,12,13,14,15,16,17,18,19,20,21,22,23,24,25,26,27,28,29,30,31,32,33,34,35,36,37,38,39] (by kernel_rfl) ?_
 refine⟨At0 S,zac (zab (hdr fSv)) (i:=0) rfl,?_⟩
 refine Calls.mono (zaB (zgd (zaq dw fx) (znl x _ c)) hpo (by omega) (by omega)) ?_
 rintro e _ ⟨rfl,rfl⟩
 refine⟨Below.refl _ _,?_⟩
 refine biE (fun h1=>?_) fun h1=>?_
 ·have h1:hasM x.po a d=true:=h1
  refine⟨At0 S,zac (zab (hdr fSv)) (i:=0) rfl,?_⟩
  refine⟨_,za9 (zaq dw fx),?_⟩
  refine⟨a,rfl,ha,?_⟩
  refine⟨evE.enc (evA x a),rfl,zaq dw hat,Nat.lt_of_lt_of_le hb dw.size,?_⟩
  refine Calls.mono ze4 ?_
  rintro e X ⟨rfl,hbX⟩
  refine⟨hbX,?_⟩
  have bX:=dw.trans hbX
  rw [zjq]
  refine biE (fun h2=>?_) fun h2=>?_
  ·have h2:accA x a=true:=h2
   refine⟨At0 S,zac (zab (zaa bX fSv)) (i:=0) rfl,?_⟩
   refine⟨_,za9 (zaq bX fx),?_⟩
   refine⟨d,rfl,hd,?_⟩
   refine⟨evE.enc (evA x d),rfl,zaq bX hat2,Nat.lt_of_lt_of_le hb bX.size,?_⟩
   refine Calls.mono ze4 ?_
   rintro e Y ⟨rfl,hbY⟩
   refine⟨hbY,?_⟩
   have bY:=bX.trans (hbY.mono bX.size)
   rw [zjq]
   refine biE (fun h3=>?_) fun h3=>?_
   ·have h3:accA x d=true:=h3
    refine⟨u8 m,zac (zab (zaa bY fM)) (i:=0) rfl,?_⟩
    refine⟨m.toNat,rfl,hm7,?_⟩
    refine⟨.func (.func g) #[] #[],by have:=zac (zab (zaa bY fR)) (i:=m.toNat) (v := .func (.func g) #[] #[]) hm;rw [Nat.mul_one];exact this,?_⟩
    refine⟨At0 S,zac (zab (zaa bY fSv)) (i:=0) rfl,?_⟩
    refine zgO hok (hK Y bY) ?_
    rintro e Z ⟨rfl,hbZ⟩
    refine⟨_,rfl,hbZ,?_⟩
    exact⟨rb (by rw [h1,h2,h3];rfl),bY.trans (hbZ.mono bY.size)⟩
   ·have h3:accA x d=false:=h3
    exact⟨rb (by rw [h1,h2,h3];rfl),bY⟩
  ·have h2:accA x a=false:=h2
   refine brF ?_
   exact⟨rb (by rw [h1,h2];rfl),bX⟩
 ·have h1:hasM x.po a d=false:=h1
  refine brF ?_
  refine brF ?_
  exact⟨rb (by rw [h1];rfl),dw⟩
theorem zig {m:UInt8} (h:zbm m.toNat=true):m=1∨m=2∨m=3∨m=4∨m=5∨m=6:=by
 unfold zbm at h
 rw [Bool.and_eq_true,decide_eq_true_eq,decide_eq_true_eq] at h
 simp only [← UInt8.toNat_inj]
 show m.toNat=1∨m.toNat=2∨m.toNat=3∨m.toNat=4∨m.toNat=5∨m.toNat=6
 omega
theorem zn7 {S Rb Mb Sv a d:Nat} {m:UInt8} (hk:zbm m.toNat=true) (hs:ScnV w S x q c f l s) (fSv:w.heap[Sv]?=some (.cells #[At0 S] 140 (0,0))) (fR:w.heap[Rb]?=some (.cells zdS.toArray 146 (0,0))) (fM:w.heap[Mb]?=some (.cells #[u8 m] 5 (0,0)))
  (ha:a<x.ev.length) (hd:d<x.ev.length) :
  Calls Tryz.prog 106 #[i64 (a:Nat),i64 (d:Nat),At0 Sv,At0 Rb,At0 Mb] w fun e w'=>e = .returned (.bool (hasM x.po a d&&(accA x a&&(accA x d&&zgC m.toNat x f l s a d))))∧Below w.heap.size w w':=by
 rcases zig hk with rfl | rfl | rfl | rfl | rfl | rfl
 ·exact zes (g:=131) hs fSv fR fM (by decide) rfl (by kernel_rfl) (fun X hb=>znO) ha hd
 ·exact zes (g:=132) hs fSv fR fM (by decide) rfl (by kernel_rfl) (fun X hb=>znN) ha hd
 ·exact zes (g:=133) hs fSv fR fM (by decide) rfl (by kernel_rfl) (fun X hb=>znM (hs.below hb) ha hd) ha hd
 ·exact zes (g:=137) hs fSv fR fM (by decide) rfl (by kernel_rfl) (fun X hb=>znL (hs.below hb) ha hd) ha hd
 ·exact zes (g:=138) hs fSv fR fM (by decide) rfl (by kernel_rfl) (fun X hb=>znK (hs.below hb) ha hd) ha hd
 ·exact zes (g:=140) hs fSv fR fM (by decide) rfl (by kernel_rfl) (fun X hb=>znJ (hs.below hb) ha hd) ha hd
theorem zhW {X:World} {S o:Nat} {T:TypeId} {A Z:List Value} {r0 r:RelD} (h:X.heap[S]?=some (.cells (A++(relC r0++Z)).toArray T (0,0))) (hA:A.length=o) {K:World→Prop}
  (k:∀ Y,Y.heap[S]?=some (.cells (A++(relC r++Z)).toArray T (0,0))→X.grownBy Y (some S)→Y.heap.size=X.heap.size→K Y) :
  SatR ((storeVar 27 ⟨S,0+o,none⟩ (.agg (relC r).toArray)).run Tryz.prog X) fun _ w'=>K w':=by
 rw [Nat.zero_add]
 refine zbo (ttOk.get 27 _ rfl) h (o:=o) (v := .agg (relC r).toArray) (zad _) (by show o+(relC r).length≤(A++(relC r0++Z)).length;rw [List.length_append,List.length_append,zad,zad];omega) (zav _) fun Y fY gY sY=>k Y (fY.trans ?_) gY sY
 show some (Obj.cells ((A++(relC r0++Z)).take o++relC r++(A++(relC r0++Z)).drop (o+(relC r).length)).toArray T (0,0))=_
 congr 3
 rw [← hA,List.take_left,zad,List.append_assoc,← List.drop_drop,List.drop_left,← zad r0,List.drop_left]
theorem zne {m:UInt8} (hk:zbm m.toNat=true) (fx:ExH w b x q c) (hv:ExV w x q) (hT:Tz64M w):Calls Tryz.prog 69 #[u8 m,At0 b] w fun e w'=>e = .returned (.agg (relC (zcL m.toNat x)).toArray)∧Below w.heap.size w w':=by
 refine zah (S:=sg 35) (sgOk _) (args:=[u8 m,At0 b]) (.c .p (.c .p (.c .p (.c .p (.c .p .p))))) Tryz.func69 rfl rfl (Nat.le_of_ble_eq_true rfl) rfl ?_
 obtain⟨L,hL⟩:=nm (w.heap.size)
 have hn:=hv.n
 refine⟨Unit,fun _=>⟨[(1,At0 b),(2,At0 L),(4,At0 (L+1))],[]⟩,fun _ X=>X.heap[L]?=some (.cells #[u8 m] 5 (0,0))∧RelH X (L+1) zas∧X.heap.size=L+2∧Below w.heap.size w X,?_,?_⟩
 ·have s1:=World.size_alloc w (.cells #[u8 m] 5)
  have h2:=hnew (w.alloc (.cells #[u8 m] 5)) (.cells (relC zas).toArray 27)
  have s2:=World.size_alloc (w.alloc (.cells #[u8 m] 5)) (.cells (relC zas).toArray 27)
  rw [s1] at h2 s2
  have b1:Below w.heap.size w (w.alloc (.cells #[u8 m] 5)):=(Below.refl _ w).alloc (Nat.le_refl _) _
  exact⟨(),⟨.cons rfl (.cons (by rw [hL];rfl) (.cons (by rw [hL,← s1];rfl) .nil)),rfl⟩,by rw [hL];exact hold _ (hnew w _),by rw [hL];exact h2,by rw [hL];exact s2,b1.alloc b1.size _⟩
 rintro _ X ⟨fM,f0,sX,hbX⟩
 have fX:=zaa hbX fx
 refine⟨Unit,fun _=>⟨[(1,At0 b),(2,At0 L),(4,At0 (L+1)),(5,At0 (L+3))],[]⟩,fun _ Y=>Y.heap[L+2]?=some (.cells (exC x q c++(relC zas++(relC zas++relC zas))).toArray 142 (0,0))∧Y.heap[L+3]?=some (.cells #[At0 (L+2)] 140 (0,0))∧Y.heap.size=L+4∧Below X.heap.size X Y,?_,?_⟩
 ·refine⟨exC x q c,zau _ _ _,zab fX,hlt fX,?_⟩
  refine⟨exC x q c++(relC zas++(relC zas++relC zas)),by kernel_rfl,?_⟩
  have s3:=World.size_alloc X (.cells (exC x q c++(relC zas++(relC zas++relC zas))).toArray 142)
  refine zap (X:=X.alloc (.cells (exC x q c++(relC zas++(relC zas++relC zas))).toArray 142)) (v := .pointer (some ⟨X.heap.size,0,none⟩)) (ttOk.get 140 _ rfl) rfl rfl rfl fun Z hbZ fZ sZ=>?_
  rw [s3] at fZ sZ
  rw [sX] at fZ sZ s3
  have b1:Below X.heap.size X (X.alloc (.cells (exC x q c++(relC zas++(relC zas++relC zas))).toArray 142)):=(Below.refl _ X).alloc (Nat.le_refl _) _
  refine⟨(),⟨.cons rfl (.cons rfl (.cons rfl (.cons (by rw [← s3];rfl) .nil))),rfl⟩,?_,fZ,sZ,b1.trans (hbZ.mono b1.size)⟩
  refine zaa hbZ ?_
  rw [← sX]
  exact hnew X _
 rintro _ Y ⟨fS,fP,sY,hbY⟩
 have hbwY:=hbX.trans (hbY.mono hbX.size)
 have fY:=zaa hbwY fx
 replace fM:=zaa hbY fM
 replace f0:=zaa hbY f0
 have hwX:=hbX.size
 have hbL:b<L:=by rw [hL];exact hlt fx
 refine⟨Unit,fun _=>⟨[(1,At0 b),(2,At0 L),(4,At0 (L+1)),(5,At0 (L+3))],[]⟩,fun _ Z=>ScnV Z (L+2) x q c (zaz x 3) (zaz x 4) (zaz x 5)∧Z.heap[L+3]?=some (.cells #[At0 (L+2)] 140 (0,0))∧Z.heap[L]?=some (.cells #[u8 m] 5 (0,0))∧RelH Z (L+1) zas∧ExH Z b x q c∧L+4≤Z.heap.size∧Below w.heap.size w Z,?_,?_⟩
 ·have dY:Below Y.heap.size Y Y.drew:=(Below.refl _ _).drew
  obtain⟨Y1,hY1⟩:=nm (Y.drew)
  have bY1:Below Y.heap.size Y Y1:=by rw [hY1];exact dY
  have ld0:∀ {W},Below Y.heap.size Y W→W.cell? ⟨L+3,0,none⟩=some (At0 (L+2)):=fun hW=>by
   have h2:=zac (zab (zaa hW fP)) (i:=0) (v:=At0 (L+2)) rfl
   exact h2
  have fen:∀ (md:UInt8) {W},Below Y.heap.size Y W→Calls Tryz.prog 68 #[At0 b,u8 md] W fun e w'=>e = .returned (.agg (relC (zaz x md)).toArray)∧Below W.heap.size W w':=fun md {W} hW =>
   have h2:=hbwY.trans (hW.mono hbwY.size)
   zjb (zaa h2 fx) (hv.below h2) (hT.below h2)
  have ld1:∀ W,(∃ C,Below Y.heap.size Y C∧C.grownBy W (some (L+2)))→W.cell? ⟨L+3,0,none⟩=some (At0 (L+2)):=fun W ⟨C,bC,hW⟩=>by
   have fPC:=zaa bC fP
   have:=(hW.block (L+3) (hlt fPC) (by simp)).trans fPC
   have h2:=zac (zab this) (i:=0) (v:=At0 (L+2)) rfl
   exact h2
  have s1:∀ {C},Below Y.heap.size Y C→∀ {K:World→Prop},(∀ D,(D.heap[L+2]?=some (.cells ((exC x q c++relC (zaz x 3))++(relC zas++relC zas)).toArray 142 (0,0))∧∃ C,Below Y.heap.size Y C∧C.grownBy D (some (L+2)))→K D)→SatR ((storeVar 27 ⟨L+2,0+333,none⟩ (.agg (relC (zaz x 3)).toArray)).run Tryz.prog C) fun _ w'=>K w':=fun {C} bC {K} k =>
   zhW (o:=333) (A:=exC x q c) (Z:=relC zas++relC zas) (r:=zaz x 3) (zaa bC fS) (zau _ _ _) fun D fD gD sD=>k D ⟨by rw [fD];simp only [List.append_assoc],C,bC,gD⟩
  have s2:∀ D,(D.heap[L+2]?=some (.cells ((exC x q c++relC (zaz x 3))++(relC zas++relC zas)).toArray 142 (0,0))∧∃ C,Below Y.heap.size Y C∧C.grownBy D (some (L+2)))→∀ {K:World→Prop},(∀ F,(F.heap[L+2]?=some (.cells ((exC x q c++(relC (zaz x 3)++relC (zaz x 4)))++(relC zas++[])).toArray 142 (0,0))∧∃ C,Below Y.heap.size Y C∧C.grownBy F (some (L+2)))→K F)→SatR ((storeVar 27 ⟨L+2,0+382,none⟩ (.agg (relC (zaz x 4)).toArray)).run Tryz.prog D) fun _ w'=>K w':=fun D ⟨fD,C,bC,gD⟩ {K} k =>
   zhW (o:=382) (A:=exC x q c++relC (zaz x 3)) (Z:=relC zas) (r:=zaz x 4) fD (by rw [List.length_append,zau,zad]) fun F fF gF sF=>k F ⟨by rw [fF];simp only [List.append_assoc,List.append_nil],C,bC,zag gD gF⟩
  have pw:∀ md,WrdR (zaz x md).to:=fun md=>zcT (zcT hv.po fun i hi=>by
   unfold idR
   refine zdq (fun i _ h48=>?_) i hi
   exact Nat.lt_of_le_of_lt Nat.and_le_right (zaG (by omega))) hv.po
  have s3:∀ F,(F.heap[L+2]?=some (.cells ((exC x q c++(relC (zaz x 3)++relC (zaz x 4)))++(relC zas++[])).toArray 142 (0,0))∧∃ C,Below Y.heap.size Y C∧C.grownBy F (some (L+2)))→∀ {K:World→Prop},(∀ G,(ScnV G (L+2) x q c (zaz x 3) (zaz x 4) (zaz x 5)∧G.heap[L+3]?=some (.cells #[At0 (L+2)] 140 (0,0))∧G.heap[L]?=some (.cells #[u8 m] 5 (0,0))∧RelH G (L+1) zas∧ExH G b x q c∧L+4≤G.heap.size∧Below w.heap.size w G)→K G)→SatR ((storeVar 27 ⟨L+2,0+431,none⟩ (.agg (relC (zaz x 5)).toArray)).run Tryz.prog F) fun _ w'=>K w':=fun F ⟨fF,C,bC,gF⟩ {K} k =>
   zhW (o:=431) (A:=exC x q c++(relC (zaz x 3)++relC (zaz x 4))) (Z:=[]) (r:=zaz x 5) fF (by rw [List.length_append,List.length_append,zau,zad,zad]) fun G fG gG sG=>k G (by
    have gCG:C.grownBy G (some (L+2)):=zag gF gG
    have bwC:=hbwY.trans (bC.mono hbwY.size)
    have bCG:Below w.heap.size C G:=zan gCG bwC.size (by omega)
    have bwG:Below w.heap.size w G:=bwC.trans bCG
    have keep:∀ {j:Nat} {o:Obj},j≠L+2→Y.heap[j]?=some o→G.heap[j]?=some o:=fun {j o} hj h=>by
     have h2:=zaa bC h
     exact (gCG.block j (hlt h2) (by simpa using hj)).trans h2
    refine⟨⟨?_,hv.below bwG,pw 3,pw 4,pw 5⟩,keep (by omega) fP,keep (by omega) fM,keep (by omega) f0,keep (by omega) fY,by have:=bC.size;have:=gCG.size;omega,bwG⟩
    rw [fG]
    simp only [List.append_assoc,List.append_nil])
  refine DrawE.treeR [11,14,17] (.op 0 (.op 3 (.op 5 (.op 7 (.alt (.op 4 (.alt (.op 6 (.alt (.op 8 (.op 9 (.op 10 (.alt (.op 11 (.alt (.op 1 (.op 12 (.op 13 (.alt (.op 14 (.op 2 (.op 15 (.op 16 (.op 17 (.nil)))))) (.op 2 (.op 14 (.op 15 (.op 16 (.op 17 (.nil)))))))))) (.op 2 (.op 1 (.op 12 (.op 13 (.op 14 (.op 15 (.op 16 (.op 17 (.nil))))))))))) (.alt (.op 1 (.alt (.op 11 (.op 12 (.op 13 (.alt (.op 14 (.op 2 (.op 15 (.op 16 (.op 17 (.nil)))))) (.op 2 (.op 14 (.op 15 (.op 16 (.op 17 (.nil)))))))))) (.op 2 (.op 11 (.op 12 (.op 13 (.op 14 (.op 15 (.op 16 (.op 17 (.nil))))))))))) (.op 2 (.alt (.op 11 (.op 1 (.op 12 (.op 13 (.op 14 (.op 15 (.op 16 (.op 17 (.nil))))))))) (.op 1 (.op 11 (.op 12 (.op 13 (.op 14 (.op 15 (.op 16 (.op 17 (.nil)))))))))))))))) (.alt (.op 1 (.alt (.op 8 (.op 9 (.op 10 (.alt (.op 11 (.op 12 (.op 13 (.alt (.op 14 (.op 2 (.op 15 (.op 16 (.op 17 (.nil)))))) (.op 2 (.op 14 (.op 15 (.op 16 (.op 17 (.nil)))))))))) (.op 2 (.op 11 (.op 12 (.op 13 (.op 14 (.op 15 (.op 16 (.op 17 (.nil))))))))))))) (.op 2 (.op 8 (.op 9 (.op 10 (.op 11 (.op 12 (.op 13 (.op 14 (.op 15 (.op 16 (.op 17 (.nil)))))))))))))) (.op 2 (.alt (.op 8 (.op 9 (.op 10 (.alt (.op 11 (.op 1 (.op 12 (.op 13 (.op 14 (.op 15 (.op 16 (.op 17 (.nil))))))))) (.op 1 (.op 11 (.op 12 (.op 13 (.op 14 (.op 15 (.op 16 (.op 17 (.nil))))))))))))) (.op 1 (.op 8 (.op 9 (.op 10 (.op 11 (.op 12 (.op 13 (.op 14 (.op 15 (.op 16 (.op 17 (.nil))))))))))))))))) (.alt (.op 1 (.alt (.op 6 (.alt (.op 8 (.op 9 (.op 10 (.alt (.op 11 (.op 12 (.op 13 (.alt (.op 14 (.op 2 (.op 15 (.op 16 (.op 17 (.nil)))))) (.op 2 (.op 14 (.op 15 (.op 16 (.op 17 (.nil)))))))))) (.op 2 (.op 11 (.op 12 (.op 13 (.op 14 (.op 15 (.op 16 (.op 17 (.nil))))))))))))) (.op 2 (.op 8 (.op 9 (.op 10 (.op 11 (.op 12 (.op 13 (.op 14 (.op 15 (.op 16 (.op 17 (.nil)))))))))))))) (.op 2 (.op 6 (.op 8 (.op 9 (.op 10 (.op 11 (.op 12 (.op 13 (.op 14 (.op 15 (.op 16 (.op 17 (.nil))))))))))))))) (.op 2 (.alt (.op 6 (.alt (.op 8 (.op 9 (.op 10 (.alt (.op 11 (.op 1 (.op 12 (.op 13 (.op 14 (.op 15 (.op 16 (.op 17 (.nil))))))))) (.op 1 (.op 11 (.op 12 (.op 13 (.op 14 (.op 15 (.op 16 (.op 17 (.nil))))))))))))) (.op 1 (.op 8 (.op 9 (.op 10 (.op 11 (.op 12 (.op 13 (.op 14 (.op 15 (.op 16 (.op 17 (.nil)))))))))))))) (.op 1 (.op 6 (.op 8 (.op 9 (.op 10 (.op 11 (.op 12 (.op 13 (.op 14 (.op 15 (.op 16 (.op 17 (.nil)))))))))))))))))) (.alt (.op 1 (.alt (.op 4 (.alt (.op 6 (.alt (.op 8 (.op 9 (.op 10 (.alt (.op 11 (.op 12 (.op 13 (.alt (.op 14 (.op 2 (.op 15 (.op 16 (.op 17 (.nil)))))) (.op 2 (.op 14 (.op 15 (.op 16 (.op 17 (.nil)))))))))) (.op 2 (.op 11 (.op 12 (.op 13 (.op 14 (.op 15 (.op 16 (.op 17 (.nil))))))))))))) (.op 2 (.op 8 (.op 9 (.op 10 (.op 11 (.op 12 (.op 13 (.op 14 (.op 15 (.op 16 (.op 17 (.nil)))))))))))))) (.op 2 (.op 6 (.op 8 (.op 9 (.op 10 (.op 11 (.op 12 (.op 13 (.op 14 (.op 15 (.op 16 (.op 17 (.nil))))))))))))))) (.op 2 (.op 4 (.op 6 (.op 8 (.op 9 (.op 10 (.op 11 (.op 12 (.op 13 (.op 14 (.op 15 (.op 16 (.op 17 (.nil)))))))))))))))) (.op 2 (.alt (.op 4 (.alt (.op 6 (.alt (.op 8 (.op 9 (.op 10 (.alt (.op 11 (.op 1 (.op 12 (.op 13 (.op 14 (.op 15 (.op 16 (.op 17 (.nil))))))))) (.op 1 (.op 11 (.op 12 (.op 13 (.op 14 (.op 15 (.op 16 (.op 17 (.nil))))))))))))) (.op 1 (.op 8 (.op 9 (.op 10 (.op 11 (.op 12 (.op 13 (.op 14 (.op 15 (.op 16 (.op 17 (.nil)))))))))))))) (.op 1 (.op 6 (.op 8 (.op 9 (.op 10 (.op 11 (.op 12 (.op 13 (.op 14 (.op 15 (.op 16 (.op 17 (.nil))))))))))))))) (.op 1 (.op 4 (.op 6 (.op 8 (.op 9 (.op 10 (.op 11 (.op 12 (.op 13 (.op 14 (.op 15 (.op 16 (.op 17 (.nil)))))))))))))))))))))) (by kernel_rfl) ?_
  rw [← hY1]
  refine⟨At0 (L+2),ld0 bY1,?_⟩
  refine And.intro ?_ (And.intro ?_ ?_)
  ·refine Calls.mono (fen 3 bY1) ?_
   rintro e A ⟨rfl,hbA⟩
   refine⟨hbA,?_⟩
   have bA:=bY1.trans (hbA.mono bY1.size)
   refine And.intro ?_ (And.intro ?_ ?_)
   ·refine Calls.mono (fen 4 bA) ?_
    rintro e B ⟨rfl,hbB⟩
    refine⟨hbB,?_⟩
    have bB:=bA.trans (hbB.mono bA.size)
    refine And.intro ?_ (And.intro ?_ ?_)
    ·refine Calls.mono (fen 5 bB) ?_
     rintro e C ⟨rfl,hbC⟩
     refine⟨hbC,?_⟩
     have bC:=bB.trans (hbC.mono bB.size)
     refine And.intro ?_ (And.intro ?_ ?_)
     ·refine s1 bC fun D hD=>?_
      refine And.intro ?_ ?_
      ·refine⟨At0 (L+2),ld1 D hD.2,?_⟩
       refine And.intro ?_ ?_
       ·refine s2 D hD fun F hF=>?_
        refine⟨At0 (L+2),ld1 F hF.2,?_⟩
        refine s3 F hF fun G hG=>?_
        exact⟨(),(cvE rfl rfl),hG⟩
       ·refine⟨At0 (L+2),ld1 D hD.2,?_⟩
        refine s2 D hD fun F hF=>?_
        refine s3 F hF fun G hG=>?_
        exact⟨(),(cvE rfl rfl),hG⟩
      ·refine⟨At0 (L+2),ld1 D hD.2,?_⟩
       refine⟨At0 (L+2),ld1 D hD.2,?_⟩
       refine s2 D hD fun F hF=>?_
       refine s3 F hF fun G hG=>?_
       exact⟨(),(cvE rfl rfl),hG⟩
     ·refine⟨At0 (L+2),ld0 bC,?_⟩
      refine And.intro ?_ ?_
      ·refine s1 bC fun D hD=>?_
       refine And.intro ?_ ?_
       ·refine s2 D hD fun F hF=>?_
        refine⟨At0 (L+2),ld1 F hF.2,?_⟩
        refine s3 F hF fun G hG=>?_
        exact⟨(),(cvE rfl rfl),hG⟩
       ·refine⟨At0 (L+2),ld1 D hD.2,?_⟩
        refine s2 D hD fun F hF=>?_
        refine s3 F hF fun G hG=>?_
        exact⟨(),(cvE rfl rfl),hG⟩
      ·refine⟨At0 (L+2),ld0 bC,?_⟩
       refine s1 bC fun D hD=>?_
       refine s2 D hD fun F hF=>?_
       refine s3 F hF fun G hG=>?_
       exact⟨(),(cvE rfl rfl),hG⟩
     ·refine⟨At0 (L+2),ld0 bC,?_⟩
      refine And.intro ?_ ?_
      ·refine s1 bC fun D hD=>?_
       refine⟨At0 (L+2),ld1 D hD.2,?_⟩
       refine s2 D hD fun F hF=>?_
       refine s3 F hF fun G hG=>?_
       exact⟨(),(cvE rfl rfl),hG⟩
      ·refine⟨At0 (L+2),ld0 bC,?_⟩
       refine s1 bC fun D hD=>?_
       refine s2 D hD fun F hF=>?_
       refine s3 F hF fun G hG=>?_
       exact⟨(),(cvE rfl rfl),hG⟩
    ·refine⟨At0 (L+2),ld0 bB,?_⟩
     refine And.intro ?_ ?_
     ·refine Calls.mono (fen 5 bB) ?_
      rintro e C ⟨rfl,hbC⟩
      refine⟨hbC,?_⟩
      have bC:=bB.trans (hbC.mono bB.size)
      refine And.intro ?_ ?_
      ·refine s1 bC fun D hD=>?_
       refine And.intro ?_ ?_
       ·refine s2 D hD fun F hF=>?_
        refine⟨At0 (L+2),ld1 F hF.2,?_⟩
        refine s3 F hF fun G hG=>?_
        exact⟨(),(cvE rfl rfl),hG⟩
       ·refine⟨At0 (L+2),ld1 D hD.2,?_⟩
        refine s2 D hD fun F hF=>?_
        refine s3 F hF fun G hG=>?_
        exact⟨(),(cvE rfl rfl),hG⟩
      ·refine⟨At0 (L+2),ld0 bC,?_⟩
       refine s1 bC fun D hD=>?_
       refine s2 D hD fun F hF=>?_
       refine s3 F hF fun G hG=>?_
       exact⟨(),(cvE rfl rfl),hG⟩
     ·refine⟨At0 (L+2),ld0 bB,?_⟩
      refine Calls.mono (fen 5 bB) ?_
      rintro e C ⟨rfl,hbC⟩
      refine⟨hbC,?_⟩
      have bC:=bB.trans (hbC.mono bB.size)
      refine s1 bC fun D hD=>?_
      refine s2 D hD fun F hF=>?_
      refine s3 F hF fun G hG=>?_
      exact⟨(),(cvE rfl rfl),hG⟩
    ·refine⟨At0 (L+2),ld0 bB,?_⟩
     refine And.intro ?_ ?_
     ·refine Calls.mono (fen 5 bB) ?_
      rintro e C ⟨rfl,hbC⟩
      refine⟨hbC,?_⟩
      have bC:=bB.trans (hbC.mono bB.size)
      refine And.intro ?_ ?_
      ·refine s1 bC fun D hD=>?_
       refine⟨At0 (L+2),ld1 D hD.2,?_⟩
       refine s2 D hD fun F hF=>?_
       refine s3 F hF fun G hG=>?_
       exact⟨(),(cvE rfl rfl),hG⟩
      ·refine⟨At0 (L+2),ld0 bC,?_⟩
       refine s1 bC fun D hD=>?_
       refine s2 D hD fun F hF=>?_
       refine s3 F hF fun G hG=>?_
       exact⟨(),(cvE rfl rfl),hG⟩
     ·refine⟨At0 (L+2),ld0 bB,?_⟩
      refine Calls.mono (fen 5 bB) ?_
      rintro e C ⟨rfl,hbC⟩
      refine⟨hbC,?_⟩
      have bC:=bB.trans (hbC.mono bB.size)
      refine s1 bC fun D hD=>?_
      refine s2 D hD fun F hF=>?_
      refine s3 F hF fun G hG=>?_
      exact⟨(),(cvE rfl rfl),hG⟩
   ·refine⟨At0 (L+2),ld0 bA,?_⟩
    refine And.intro ?_ ?_
    ·refine Calls.mono (fen 4 bA) ?_
     rintro e B ⟨rfl,hbB⟩
     refine⟨hbB,?_⟩
     have bB:=bA.trans (hbB.mono bA.size)
     refine And.intro ?_ ?_
     ·refine Calls.mono (fen 5 bB) ?_
      rintro e C ⟨rfl,hbC⟩
      refine⟨hbC,?_⟩
      have bC:=bB.trans (hbC.mono bB.size)
      refine And.intro ?_ ?_
      ·refine s1 bC fun D hD=>?_
       refine And.intro ?_ ?_
       ·refine s2 D hD fun F hF=>?_
        refine⟨At0 (L+2),ld1 F hF.2,?_⟩
        refine s3 F hF fun G hG=>?_
        exact⟨(),(cvE rfl rfl),hG⟩
       ·refine⟨At0 (L+2),ld1 D hD.2,?_⟩
        refine s2 D hD fun F hF=>?_
        refine s3 F hF fun G hG=>?_
        exact⟨(),(cvE rfl rfl),hG⟩
      ·refine⟨At0 (L+2),ld0 bC,?_⟩
       refine s1 bC fun D hD=>?_
       refine s2 D hD fun F hF=>?_
       refine s3 F hF fun G hG=>?_
       exact⟨(),(cvE rfl rfl),hG⟩
     ·refine⟨At0 (L+2),ld0 bB,?_⟩
      refine Calls.mono (fen 5 bB) ?_
      rintro e C ⟨rfl,hbC⟩
      refine⟨hbC,?_⟩
      have bC:=bB.trans (hbC.mono bB.size)
      refine s1 bC fun D hD=>?_
      refine s2 D hD fun F hF=>?_
      refine s3 F hF fun G hG=>?_
      exact⟨(),(cvE rfl rfl),hG⟩
    ·refine⟨At0 (L+2),ld0 bA,?_⟩
     refine Calls.mono (fen 4 bA) ?_
     rintro e B ⟨rfl,hbB⟩
     refine⟨hbB,?_⟩
     have bB:=bA.trans (hbB.mono bA.size)
     refine Calls.mono (fen 5 bB) ?_
     rintro e C ⟨rfl,hbC⟩
     refine⟨hbC,?_⟩
     have bC:=bB.trans (hbC.mono bB.size)
     refine s1 bC fun D hD=>?_
     refine s2 D hD fun F hF=>?_
     refine s3 F hF fun G hG=>?_
     exact⟨(),(cvE rfl rfl),hG⟩
   ·refine⟨At0 (L+2),ld0 bA,?_⟩
    refine And.intro ?_ ?_
    ·refine Calls.mono (fen 4 bA) ?_
     rintro e B ⟨rfl,hbB⟩
     refine⟨hbB,?_⟩
     have bB:=bA.trans (hbB.mono bA.size)
     refine And.intro ?_ ?_
     ·refine Calls.mono (fen 5 bB) ?_
      rintro e C ⟨rfl,hbC⟩
      refine⟨hbC,?_⟩
      have bC:=bB.trans (hbC.mono bB.size)
      refine And.intro ?_ ?_
      ·refine s1 bC fun D hD=>?_
       refine⟨At0 (L+2),ld1 D hD.2,?_⟩
       refine s2 D hD fun F hF=>?_
       refine s3 F hF fun G hG=>?_
       exact⟨(),(cvE rfl rfl),hG⟩
      ·refine⟨At0 (L+2),ld0 bC,?_⟩
       refine s1 bC fun D hD=>?_
       refine s2 D hD fun F hF=>?_
       refine s3 F hF fun G hG=>?_
       exact⟨(),(cvE rfl rfl),hG⟩
     ·refine⟨At0 (L+2),ld0 bB,?_⟩
      refine Calls.mono (fen 5 bB) ?_
      rintro e C ⟨rfl,hbC⟩
      refine⟨hbC,?_⟩
      have bC:=bB.trans (hbC.mono bB.size)
      refine s1 bC fun D hD=>?_
      refine s2 D hD fun F hF=>?_
      refine s3 F hF fun G hG=>?_
      exact⟨(),(cvE rfl rfl),hG⟩
    ·refine⟨At0 (L+2),ld0 bA,?_⟩
     refine Calls.mono (fen 4 bA) ?_
     rintro e B ⟨rfl,hbB⟩
     refine⟨hbB,?_⟩
     have bB:=bA.trans (hbB.mono bA.size)
     refine Calls.mono (fen 5 bB) ?_
     rintro e C ⟨rfl,hbC⟩
     refine⟨hbC,?_⟩
     have bC:=bB.trans (hbC.mono bB.size)
     refine s1 bC fun D hD=>?_
     refine s2 D hD fun F hF=>?_
     refine s3 F hF fun G hG=>?_
     exact⟨(),(cvE rfl rfl),hG⟩
  ·refine⟨At0 (L+2),ld0 bY1,?_⟩
   refine And.intro ?_ ?_
   ·refine Calls.mono (fen 3 bY1) ?_
    rintro e A ⟨rfl,hbA⟩
    refine⟨hbA,?_⟩
    have bA:=bY1.trans (hbA.mono bY1.size)
    refine And.intro ?_ ?_
    ·refine Calls.mono (fen 4 bA) ?_
     rintro e B ⟨rfl,hbB⟩
     refine⟨hbB,?_⟩
     have bB:=bA.trans (hbB.mono bA.size)
     refine And.intro ?_ ?_
     ·refine Calls.mono (fen 5 bB) ?_
      rintro e C ⟨rfl,hbC⟩
      refine⟨hbC,?_⟩
      have bC:=bB.trans (hbC.mono bB.size)
      refine And.intro ?_ ?_
      ·refine s1 bC fun D hD=>?_
       refine And.intro ?_ ?_
       ·refine s2 D hD fun F hF=>?_
        refine⟨At0 (L+2),ld1 F hF.2,?_⟩
        refine s3 F hF fun G hG=>?_
        exact⟨(),(cvE rfl rfl),hG⟩
       ·refine⟨At0 (L+2),ld1 D hD.2,?_⟩
        refine s2 D hD fun F hF=>?_
        refine s3 F hF fun G hG=>?_
        exact⟨(),(cvE rfl rfl),hG⟩
      ·refine⟨At0 (L+2),ld0 bC,?_⟩
       refine s1 bC fun D hD=>?_
       refine s2 D hD fun F hF=>?_
       refine s3 F hF fun G hG=>?_
       exact⟨(),(cvE rfl rfl),hG⟩
     ·refine⟨At0 (L+2),ld0 bB,?_⟩
      refine Calls.mono (fen 5 bB) ?_
      rintro e C ⟨rfl,hbC⟩
      refine⟨hbC,?_⟩
      have bC:=bB.trans (hbC.mono bB.size)
      refine s1 bC fun D hD=>?_
      refine s2 D hD fun F hF=>?_
      refine s3 F hF fun G hG=>?_
      exact⟨(),(cvE rfl rfl),hG⟩
    ·refine⟨At0 (L+2),ld0 bA,?_⟩
     refine Calls.mono (fen 4 bA) ?_
     rintro e B ⟨rfl,hbB⟩
     refine⟨hbB,?_⟩
     have bB:=bA.trans (hbB.mono bA.size)
     refine Calls.mono (fen 5 bB) ?_
     rintro e C ⟨rfl,hbC⟩
     refine⟨hbC,?_⟩
     have bC:=bB.trans (hbC.mono bB.size)
     refine s1 bC fun D hD=>?_
     refine s2 D hD fun F hF=>?_
     refine s3 F hF fun G hG=>?_
     exact⟨(),(cvE rfl rfl),hG⟩
   ·refine⟨At0 (L+2),ld0 bY1,?_⟩
    refine Calls.mono (fen 3 bY1) ?_
    rintro e A ⟨rfl,hbA⟩
    refine⟨hbA,?_⟩
    have bA:=bY1.trans (hbA.mono bY1.size)
    refine Calls.mono (fen 4 bA) ?_
    rintro e B ⟨rfl,hbB⟩
    refine⟨hbB,?_⟩
    have bB:=bA.trans (hbB.mono bA.size)
    refine Calls.mono (fen 5 bB) ?_
    rintro e C ⟨rfl,hbC⟩
    refine⟨hbC,?_⟩
    have bC:=bB.trans (hbC.mono bB.size)
    refine s1 bC fun D hD=>?_
    refine s2 D hD fun F hF=>?_
    refine s3 F hF fun G hG=>?_
    exact⟨(),(cvE rfl rfl),hG⟩
  ·refine⟨At0 (L+2),ld0 bY1,?_⟩
   refine And.intro ?_ ?_
   ·refine Calls.mono (fen 3 bY1) ?_
    rintro e A ⟨rfl,hbA⟩
    refine⟨hbA,?_⟩
    have bA:=bY1.trans (hbA.mono bY1.size)
    refine And.intro ?_ ?_
    ·refine Calls.mono (fen 4 bA) ?_
     rintro e B ⟨rfl,hbB⟩
     refine⟨hbB,?_⟩
     have bB:=bA.trans (hbB.mono bA.size)
     refine And.intro ?_ ?_
     ·refine Calls.mono (fen 5 bB) ?_
      rintro e C ⟨rfl,hbC⟩
      refine⟨hbC,?_⟩
      have bC:=bB.trans (hbC.mono bB.size)
      refine And.intro ?_ ?_
      ·refine s1 bC fun D hD=>?_
       refine⟨At0 (L+2),ld1 D hD.2,?_⟩
       refine s2 D hD fun F hF=>?_
       refine s3 F hF fun G hG=>?_
       exact⟨(),(cvE rfl rfl),hG⟩
      ·refine⟨At0 (L+2),ld0 bC,?_⟩
       refine s1 bC fun D hD=>?_
       refine s2 D hD fun F hF=>?_
       refine s3 F hF fun G hG=>?_
       exact⟨(),(cvE rfl rfl),hG⟩
     ·refine⟨At0 (L+2),ld0 bB,?_⟩
      refine Calls.mono (fen 5 bB) ?_
      rintro e C ⟨rfl,hbC⟩
      refine⟨hbC,?_⟩
      have bC:=bB.trans (hbC.mono bB.size)
      refine s1 bC fun D hD=>?_
      refine s2 D hD fun F hF=>?_
      refine s3 F hF fun G hG=>?_
      exact⟨(),(cvE rfl rfl),hG⟩
    ·refine⟨At0 (L+2),ld0 bA,?_⟩
     refine Calls.mono (fen 4 bA) ?_
     rintro e B ⟨rfl,hbB⟩
     refine⟨hbB,?_⟩
     have bB:=bA.trans (hbB.mono bA.size)
     refine Calls.mono (fen 5 bB) ?_
     rintro e C ⟨rfl,hbC⟩
     refine⟨hbC,?_⟩
     have bC:=bB.trans (hbC.mono bB.size)
     refine s1 bC fun D hD=>?_
     refine s2 D hD fun F hF=>?_
     refine s3 F hF fun G hG=>?_
     exact⟨(),(cvE rfl rfl),hG⟩
   ·refine⟨At0 (L+2),ld0 bY1,?_⟩
    refine Calls.mono (fen 3 bY1) ?_
    rintro e A ⟨rfl,hbA⟩
    refine⟨hbA,?_⟩
    have bA:=bY1.trans (hbA.mono bY1.size)
    refine Calls.mono (fen 4 bA) ?_
    rintro e B ⟨rfl,hbB⟩
    refine⟨hbB,?_⟩
    have bB:=bA.trans (hbB.mono bA.size)
    refine Calls.mono (fen 5 bB) ?_
    rintro e C ⟨rfl,hbC⟩
    refine⟨hbC,?_⟩
    have bC:=bB.trans (hbC.mono bB.size)
    refine s1 bC fun D hD=>?_
    refine s2 D hD fun F hF=>?_
    refine s3 F hF fun G hG=>?_
    exact⟨(),(cvE rfl rfl),hG⟩
 clear fS fP sY hbwY fY fM f0 hwX fX sX hbX hbY
 clear X Y
 rintro _ Z ⟨hS,fP,fM,f0,fZ,sZ,hbZ⟩
 refine⟨Nat,fun R=>⟨[(1,At0 b),(2,At0 L),(4,At0 (L+1)),(5,At0 (L+3)),(6,At0 R)],[]⟩,fun R Y=>Y.heap[R]?=some (.cells zdS.toArray 146 (0,0))∧Below Z.heap.size Z Y,?_,?_⟩
 ·refine Calls.mono znI ?_
  rintro e Y ⟨rfl,hbY⟩
  refine zap (X:=Y) (v := .agg zdS.toArray) (ttOk.get 146 _ rfl) rfl rfl rfl fun V hbV fV sV=>?_
  exact⟨Y.heap.size,(cvE rfl rfl),fV,hbY.trans (hbV.mono hbY.size)⟩
 rintro R Y ⟨fR,hbY⟩
 have hbwY:=hbZ.trans (hbY.mono hbZ.size)
 replace hS:=hS.below hbY
 replace fP:=zaa hbY fP
 replace fM:=zaa hbY fM
 replace f0:=zaa hbY f0
 replace fZ:=zaa hbY fZ
 refine⟨Unit,fun _=>⟨[(4,At0 (L+1))],[]⟩,fun _ V=>RelH V (L+1) (zcL m.toNat x)∧Below w.heap.size w V,?_,?_⟩
 ·refine⟨_,zac (zab fZ) (i:=0) rfl,?_⟩
  refine Calls.mono (zhc (n:=x.ev.length) (caps := #[At0 (L+3),At0 R,At0 L]) (g:=106) (p:=fun a d=>hasM x.po a d&&(accA x a&&(accA x d&&zgC m.toNat x (zaz x 3) (zaz x 4) (zaz x 5) a d))) (by omega) (by kernel_rfl) fun a d U ha hd hb=>zn7 hk (hS.below hb) (zaa hb fP) (zaa hb fR) (zaa hb fM) ha hd) ?_
  rintro e V ⟨rfl,hbV⟩
  replace f0:=zaa hbV f0
  refine zar (v := .agg (relC (zcL m.toNat x)).toArray) (ttOk.get 27 _ rfl) f0 (zad _) (zad _) (zav _) ?_
  exact⟨(),(cvE rfl rfl),zal f0,zaj (hbwY.trans (hbV.mono hbwY.size)) (by omega) _⟩
 rintro _ V ⟨f0,hbV⟩
 exact⟨relC (zcL m.toNat x),zad _,zab f0,rfl,hbV⟩
end
section
variable {b c:Nat} {x:ExD} {q:Option Addr} {w:World}
theorem zih {m:UInt8}:Calls Tryz.prog 55 #[u8 m] w fun e w'=>e = .returned (.bool (zbm m.toNat))∧w=w':=by
 refine zae (S:=sg 9) (sgOk _) (args:=[u8 m]) Tryz.func55 rfl rfl (Nat.le_of_ble_eq_true rfl) rfl ?_
 refine biE (fun h=>?_) fun h=>?_
 ·have h:(1:Int)≤(m.toNat:Int):=of_decide_eq_true h
  refine⟨rb ?_,rfl⟩
  unfold zbm
  rw [decide_eq_true (by omega:1≤m.toNat),Bool.true_and]
  exact decide_eq_decide.2 (by show (m.toNat:Int)≤6↔_;omega)
 ·have h:¬ (1:Int)≤(m.toNat:Int):=of_decide_eq_false h
  refine⟨rb ?_,rfl⟩
  unfold zbm
  rw [decide_eq_false (by omega:¬ 1≤m.toNat)];rfl
theorem zog {r:RelD} (hn:r.n=x.ev.length) (h48:x.ev.length≤48):WrdR (extM x r).to:=by
 unfold extM
 exact zdZ (by omega)
theorem zhQ {X:World} {g:Nat} {a b c:RelD} (h:X.heap[g]?=some (.cells (relC a++(relC b++relC c)).toArray 27 (0,0))):SlR relE X (some ⟨g,0,none⟩) [a,b,c] :=
 SlR.of_cells (hlt h) (by
  have:[a,b,c].flatMap relE.enc=relC a++(relC b++relC c):=by
   rw [List.flatMap_cons,List.flatMap_cons,List.flatMap_cons,List.flatMap_nil,List.append_nil];rfl
  rw [this]
  exact zab h)
theorem zji {m:UInt8} (hk:zbm m.toNat=true) (fx:ExH w b x q c) (hv:ExV w x q) (hrf:x.rf.n=x.ev.length) (hT:Tz64M w):Calls Tryz.prog 56 #[u8 m,At0 b] w fun e w'=>e = .returned (u8 (UInt8.ofNat (zda m.toNat x)))∧Below w.heap.size w w':=by
 refine zah (S:=sg 80) (sgOk _) (args:=[u8 m,At0 b]) (.c .p (.c .p (.c .p (.c .p (.c .p (.c .p (.c .p (.c .p (.c .p (.c .p .p)))))))))) Tryz.func56 rfl rfl (Nat.le_of_ble_eq_true rfl) rfl ?_
 obtain⟨L,hL⟩:=nm (w.heap.size)
 have hn:=hv.n
 obtain⟨fw,frw⟩:=znh hv hT
 have hba:∀ (A:World) (o:Obj),Below A.heap.size A (A.alloc o):=fun A o=>(Below.refl _ _).alloc (Nat.le_refl _) _
 refine⟨Unit,fun _=>⟨[(0,u8 m),(3,At0 L)],[]⟩,fun _ X=>X.heap[L]?=some (.cells #[At0 b] 79 (0,0))∧Below w.heap.size w X,⟨(),⟨.cons rfl (.cons (by rw [hL];rfl) .nil),rfl⟩,by rw [hL];exact hnew w _,hba w _⟩,?_⟩
 rintro _ X ⟨fB,hbX⟩
 refine⟨Nat,fun F=>⟨[(0,u8 m),(3,At0 L),(5,At0 F)],[]⟩,fun F Y=>RelH Y F (frM x)∧Y.heap[L]?=some (.cells #[At0 b] 79 (0,0))∧Below w.heap.size w Y,?_,?_⟩
 ·refine⟨_,zac (zab fB) (i:=0) rfl,?_⟩
  refine Calls.mono (fr_c (zaa hbX fx) (hv.below hbX) (hT.below hbX)) ?_
  rintro e Y ⟨rfl,hbY⟩
  refine zap (X:=Y) (v := .agg (relC (frM x)).toArray) (ttOk.get 27 _ rfl) (zad _) (by kernel_rfl) (zav _) fun V hbV fV sV=>?_
  have b1:=hbY.trans (hbV.mono hbY.size)
  exact⟨Y.heap.size,(cvE rfl rfl),fV,zaa b1 fB,hbX.trans (b1.mono hbX.size)⟩
 clear fB hbX
 clear X
 rintro F X ⟨fF,fB,hbX⟩
 refine⟨Nat,fun G=>⟨[(0,u8 m),(3,At0 L),(5,At0 F),(6,At0 G)],[]⟩,fun G Y=>RelH Y G (zdj x)∧RelH Y F (frM x)∧Y.heap[L]?=some (.cells #[At0 b] 79 (0,0))∧Below w.heap.size w Y,?_,?_⟩
 ·refine⟨_,zac (zab fB) (i:=0) rfl,?_⟩
  have fX:=zaa hbX fx
  have hvX:=hv.below hbX
  refine⟨_,zac (zab fX) (i:=0) rfl,?_⟩
  refine Calls.mono (zhc (n:=x.ev.length) (caps := #[At0 L]) (g:=94) (p:=fun a d=>hasM x.po a d&&zcW x a d) (by omega) (by kernel_rfl) fun a d Z ha hd hb=>zlJ (zaa hb fB) (zaa hb fX) (hvX.below hb) ha hd) ?_
  rintro e Y ⟨rfl,hbY⟩
  refine zap (X:=Y) (v := .agg (relC (zdj x)).toArray) (ttOk.get 27 _ rfl) (zad _) (by kernel_rfl) (zav _) fun V hbV fV sV=>?_
  have b1:=hbY.trans (hbV.mono hbY.size)
  exact⟨Y.heap.size,(cvE rfl rfl),fV,zaa b1 fF,zaa b1 fB,hbX.trans (b1.mono hbX.size)⟩
 clear fF fB hbX
 clear X
 rintro G X ⟨fG,fF,fB,hbX⟩
 have lw:WrdR (zdj x).to:=zdZ (by omega)
 have hbr:zda m.toNat x=if acyR (zaZ (zdj x) [x.rf,x.co,frM x])=true then (if zcc (zb6 x.rm (zbD (frM x) x.co).1).1=true then (if m.toNat=1 then 0 else if acyR (zaZ (zcL m.toNat x) [if m.toNat=2 then x.rf else extM x x.rf,x.co,frM x])=true then 0 else 3) else 2) else 1:=rfl
 refine⟨Unit,fun _=>⟨[(0,u8 m),(3,At0 L),(5,At0 F)],[]⟩,fun _ Y=>acyR (zaZ (zdj x) [x.rf,x.co,frM x])=true∧RelH Y F (frM x)∧Y.heap[L]?=some (.cells #[At0 b] 79 (0,0))∧Below w.heap.size w Y,?_,?_⟩
 ·have dX:Below X.heap.size X X.drew:=(Below.refl _ _).drew
  have fX:=hdr (zaa hbX fx)
  refine DrawE.ord [] [0,1,2,3,4,5,6,7,8,9,10,11,12,13] (by kernel_rfl) ?_
  refine⟨relC (zdj x),zad _,zab (hdr fG),hlt (hdr fG),?_⟩
  refine⟨_,zac (zab (hdr fB)) (i:=0) rfl,?_⟩
  refine⟨relC x.rf,zad _,zaN fX (i:=1) (by decide) rfl,hlt fX,?_⟩
  refine⟨_,zac (zab (hdr fB)) (i:=0) rfl,?_⟩
  refine⟨relC x.co,zad _,zaN fX (i:=2) (by decide) rfl,hlt fX,?_⟩
  refine⟨relC (frM x),zad _,zab (hdr fF),hlt (hdr fF),?_⟩
  refine⟨⟨by decide,by decide,rfl⟩,relC x.rf++(relC x.co++relC (frM x)),by kernel_rfl,?_⟩
  refine⟨hba _ _,?_⟩
  have b1:=dX.alloc (Nat.le_refl _) (.cells (relC x.rf++(relC x.co++relC (frM x))).toArray 27)
  have hl:=zhQ (hnew X.drew (.cells (relC x.rf++(relC x.co++relC (frM x))).toArray 27))
  have hw3:∀ o∈[x.rf,x.co,frM x],WrdR o.to:=by
   simp only [List.mem_cons,List.not_mem_nil,or_false,forall_eq_or_imp,forall_eq]
   exact⟨hv.rf,hv.co,frw⟩
  refine Calls.mono (zhO (l:=[x.rf,x.co,frM x]) lw hl hw3 (Nat.le_of_ble_eq_true rfl)) ?_
  rintro e Y ⟨rfl,hbY⟩
  refine⟨hbY,?_⟩
  have b2:=b1.trans (hbY.mono b1.size)
  refine Calls.mono (zeg (zdt lw hw3) (hT.below (hbX.trans (b2.mono hbX.size)))) ?_
  rintro e Z ⟨rfl,hbZ⟩
  refine⟨hbZ,?_⟩
  have b3:=b2.trans (hbZ.mono b2.size)
  have b4:=hbX.trans (b3.mono hbX.size)
  refine biE (fun h=>?_) fun h=>?_
  ·have h:acyR (zaZ (zdj x) [x.rf,x.co,frM x])=false:=by
    have h:(!acyR (zaZ (zdj x) [x.rf,x.co,frM x]))=true:=h
    simpa using h
   rw [h,if_neg (by decide)] at hbr
   rw [hbr]
   exact⟨rfl,b4⟩
  ·have h:acyR (zaZ (zdj x) [x.rf,x.co,frM x])=true:=by
    have h:(!acyR (zaZ (zdj x) [x.rf,x.co,frM x]))=false:=h
    simpa using h
   exact⟨(),(cvE rfl rfl),h,zaa b3 fF,zaa b3 fB,b4⟩
 clear fG fF fB hbX
 clear X
 rintro _ X ⟨h1,fF,fB,hbX⟩
 rw [if_pos h1] at hbr
 clear h1 lw G
 refine⟨Nat,fun G=>⟨[(0,u8 m),(3,At0 L),(5,At0 F),(7,At0 G)],[]⟩,fun G Y=>RelH Y G (zbD (frM x) x.co).1∧RelH Y F (frM x)∧Y.heap[L]?=some (.cells #[At0 b] 79 (0,0))∧Below w.heap.size w Y,?_,?_⟩
 ·have dX:Below X.heap.size X X.drew:=(Below.refl _ _).drew
  have fX:=hdr (zaa hbX fx)
  have put:∀ (W:World) (b3:Nat),Below X.heap.size X W→RelH W b3 zas→X.heap.size≤b3→∀ {K:World→Prop},(∀ Y,(RelH Y b3 (zbD (frM x) x.co).1∧RelH Y F (frM x)∧Y.heap[L]?=some (.cells #[At0 b] 79 (0,0))∧Below w.heap.size w Y)→K Y) →
    SatR ((storeVar 27 ⟨b3,0,none⟩ (.agg (relC (zbD (frM x) x.co).1).toArray)).run Tryz.prog W) fun _ w'=>K w':=by
   intro W b3 hW f3 g3 K k
   refine zar (v := .agg (relC (zbD (frM x) x.co).1).toArray) (ttOk.get 27 _ rfl) f3 (zad _) (zad _) (zav _) ?_
   have hF2:=hlt fF
   have hL2:=hlt fB
   exact k _ ⟨zal f3,(zam (by omega)).trans (zaa hW fF),(zam (by omega)).trans (zaa hW fB),zaj (hbX.trans (hW.mono hbX.size)) (by have:=hbX.size;omega) _⟩
  refine DrawE.treeQ [10] (.op 0 (.op 1 (.op 2 (.op 3 (.op 4 (.alt (.op 9 (.op 5 (.op 6 (.op 7 (.op 8 (.op 10 (.op 11 .nil))))))) (.op 5 (.op 6 (.op 7 (.op 8 (.op 9 (.op 10 (.op 11 .nil))))))))))))) (by kernel_rfl) ?_
  refine⟨relC (frM x),zad _,zab (hdr fF),hlt (hdr fF),?_⟩
  refine⟨_,zac (zab (hdr fB)) (i:=0) rfl,?_⟩
  refine⟨relC x.co,zad _,zaN fX (i:=2) (by decide) rfl,hlt fX,?_⟩
  refine And.intro ?_ ?_
  ·refine⟨hba _ _,?_⟩
   have b1:=dX.alloc (Nat.le_refl _) (.cells (relC zas).toArray 27)
   refine Calls.mono (zdH frw hv.co (hT.below (hbX.trans (b1.mono hbX.size)))) ?_
   rintro e Y ⟨rfl,hbY⟩
   refine⟨hbY,?_⟩
   refine put Y X.heap.size (b1.trans (hbY.mono b1.size)) (zaa hbY (hnew X.drew _)) (Nat.le_refl _) ?_
   exact fun Y hY=>⟨X.heap.size,(cvE rfl rfl),hY⟩
  ·refine Calls.mono (zdH frw hv.co (hT.below (hbX.trans (dX.mono hbX.size)))) ?_
   rintro e Y ⟨rfl,hbY⟩
   refine⟨hbY,?_⟩
   have b1:=dX.trans (hbY.mono dX.size)
   refine⟨hba _ _,?_⟩
   refine put _ Y.heap.size (b1.alloc b1.size _) (hnew Y _) b1.size ?_
   exact fun V hV=>⟨Y.heap.size,(cvE rfl rfl),hV⟩
 clear fF fB hbX
 clear X
 rintro G X ⟨fG,fF,fB,hbX⟩
 have tw:=zcT (a:=frM x) (b:=x.co) frw hv.co
 refine⟨Nat,fun H=>⟨[(0,u8 m),(3,At0 L),(5,At0 F),(9,At0 H)],[]⟩,fun H Y=>RelH Y H (zb6 x.rm (zbD (frM x) x.co).1).1∧RelH Y F (frM x)∧Y.heap[L]?=some (.cells #[At0 b] 79 (0,0))∧Below w.heap.size w Y,?_,?_⟩
 ·have dX:Below X.heap.size X X.drew:=(Below.refl _ _).drew
  have fX:=hdr (zaa hbX fx)
  obtain⟨tb,htb⟩:=nm ((zbD (frM x) x.co).1)
  rw [← htb] at fG tw ⊢
  have put:∀ (W:World) (b3:Nat),Below X.heap.size X W→RelH W b3 zas→X.heap.size≤b3→∀ {K:World→Prop},(∀ Y,(RelH Y b3 (zb6 x.rm tb).1∧RelH Y F (frM x)∧Y.heap[L]?=some (.cells #[At0 b] 79 (0,0))∧Below w.heap.size w Y)→K Y) →
    SatR ((storeVar 27 ⟨b3,0,none⟩ (.agg (relC (zb6 x.rm tb).1).toArray)).run Tryz.prog W) fun _ w'=>K w':=by
   intro W b3 hW f3 g3 K k
   refine zar (v := .agg (relC (zb6 x.rm tb).1).toArray) (ttOk.get 27 _ rfl) f3 (zad _) (zad _) (zav _) ?_
   have hF2:=hlt fF
   have hL2:=hlt fB
   exact k _ ⟨zal f3,(zam (by omega)).trans (zaa hW fF),(zam (by omega)).trans (zaa hW fB),zaj (hbX.trans (hW.mono hbX.size)) (by have:=hbX.size;omega) _⟩
  refine DrawE.treeQ [10] (.op 0 (.op 1 (.op 2 (.op 3 (.op 4 (.alt (.op 9 (.op 5 (.op 6 (.op 7 (.op 8 (.op 10 (.op 11 .nil))))))) (.op 5 (.op 6 (.op 7 (.op 8 (.op 9 (.op 10 (.op 11 .nil))))))))))))) (by kernel_rfl) ?_
  refine⟨_,zac (zab (hdr fB)) (i:=0) rfl,?_⟩
  refine⟨relC x.rm,zad _,zaN fX (i:=5) (by decide) rfl,hlt fX,?_⟩
  refine⟨relC tb,zad _,zab (hdr fG),hlt (hdr fG),?_⟩
  refine And.intro ?_ ?_
  ·refine⟨hba _ _,?_⟩
   have b1:=dX.alloc (Nat.le_refl _) (.cells (relC zas).toArray 27)
   refine Calls.mono (zlY hv.rm tw) ?_
   rintro e Y ⟨rfl,hbY⟩
   refine⟨hbY,?_⟩
   refine put Y X.heap.size (b1.trans (hbY.mono b1.size)) (zaa hbY (hnew X.drew _)) (Nat.le_refl _) ?_
   exact fun Y hY=>⟨X.heap.size,(cvE rfl rfl),hY⟩
  ·refine Calls.mono (zlY hv.rm tw) ?_
   rintro e Y ⟨rfl,hbY⟩
   refine⟨hbY,?_⟩
   have b1:=dX.trans (hbY.mono dX.size)
   refine⟨hba _ _,?_⟩
   refine put _ Y.heap.size (b1.alloc b1.size _) (hnew Y _) b1.size ?_
   exact fun V hV=>⟨Y.heap.size,(cvE rfl rfl),hV⟩
 clear fG fF fB hbX
 clear X G
 rintro H X ⟨fH,fF,fB,hbX⟩
 refine⟨Unit,fun _=>⟨[(0,u8 m),(3,At0 L),(5,At0 F)],[]⟩,fun _ Y=>zcc (zb6 x.rm (zbD (frM x) x.co).1).1=true∧RelH Y F (frM x)∧Y.heap[L]?=some (.cells #[At0 b] 79 (0,0))∧Below w.heap.size w Y,?_,?_⟩
 ·refine⟨relC (zb6 x.rm (zbD (frM x) x.co).1).1,zad _,zab fH,hlt fH,?_⟩
  refine Calls.mono (zfN (zjj hv.rm)) ?_
  rintro e Y ⟨rfl,hbY⟩
  have b4:=hbX.trans (hbY.mono hbX.size)
  refine biE (fun h=>?_) fun h=>?_
  ·have h:zcc (zb6 x.rm (zbD (frM x) x.co).1).1=false:=by
    have h:(!zcc (zb6 x.rm (zbD (frM x) x.co).1).1)=true:=h
    simpa using h
   rw [h,if_neg (by decide)] at hbr
   rw [hbr]
   exact⟨rfl,b4⟩
  ·have h:zcc (zb6 x.rm (zbD (frM x) x.co).1).1=true:=by
    have h:(!zcc (zb6 x.rm (zbD (frM x) x.co).1).1)=false:=h
    simpa using h
   exact⟨(),(cvE rfl rfl),h,zaa hbY fF,zaa hbY fB,b4⟩
 clear fH fF fB hbX tw
 clear X H
 rintro _ X ⟨h1,fF,fB,hbX⟩
 rw [if_pos h1] at hbr
 clear h1
 refine⟨Unit,fun _=>⟨[(0,u8 m),(3,At0 L),(5,At0 F)],[]⟩,fun _ Y=>m.toNat≠1∧X=Y,?_,?_⟩
 ·refine biE (fun h=>?_) fun h=>?_
  ·have h:(m.toNat:Int)=1:=of_decide_eq_true h
   rw [if_pos (by omega)] at hbr
   rw [hbr]
   exact⟨rfl,hbX⟩
  ·have h:¬ (m.toNat:Int)=1:=of_decide_eq_false h
   exact⟨(),(cvE rfl rfl),by omega,rfl⟩
 rintro _ _ ⟨h1,rfl⟩
 rw [if_neg h1] at hbr
 clear h1
 refine⟨Nat,fun G=>⟨[(0,u8 m),(3,At0 L),(5,At0 F),(11,At0 G)],[]⟩,fun G Y=>G≠F∧G≠L∧w.heap.size≤G∧RelH Y G x.rf∧RelH Y F (frM x)∧Y.heap[L]?=some (.cells #[At0 b] 79 (0,0))∧Below w.heap.size w Y,?_,?_⟩
 ·have fX:=zaa hbX fx
  refine⟨_,zac (zab fB) (i:=0) rfl,?_⟩
  refine⟨relC x.rf,zad _,zaN fX (i:=1) (by decide) rfl,hlt fX,?_⟩
  refine zap (X:=X) (v := .agg (relC x.rf).toArray) (ttOk.get 27 _ rfl) (zad _) (by kernel_rfl) (zav _) fun V hbV fV sV=>?_
  have hF2:=hlt fF
  have hL2:=hlt fB
  exact⟨X.heap.size,(cvE rfl rfl),by omega,by omega,hbX.size,fV,zaa hbV fF,zaa hbV fB,hbX.trans (hbV.mono hbX.size)⟩
 clear fF fB hbX
 clear X
 rintro G X ⟨hGF,hGL,hGw,fG,fF,fB,hbX⟩
 obtain⟨rfx,hrfx⟩:=nm (if m.toNat=2 then x.rf else extM x x.rf)
 have rfw:WrdR rfx.to:=by
  rw [hrfx]
  split
  ·exact hv.rf
  ·exact zog hrf (by omega)
 rw [← hrfx] at hbr
 refine⟨Unit,fun _=>⟨[(0,u8 m),(3,At0 L),(5,At0 F),(11,At0 G)],[]⟩,fun _ Y=>RelH Y G rfx∧RelH Y F (frM x)∧Y.heap[L]?=some (.cells #[At0 b] 79 (0,0))∧Below w.heap.size w Y,?_,?_⟩
 ·have fX:=zaa hbX fx
  have hvX:=hv.below hbX
  refine biE (fun h=>?_) fun h=>?_
  ·have h:¬ m.toNat=2:=by
    have h:(!decide ((m.toNat:Int)=2))=true:=h
    have h:¬ (m.toNat:Int)=2:=by simpa using h
    omega
   rw [if_neg h] at hrfx
   refine⟨_,zac (zab fB) (i:=0) rfl,?_⟩
   refine⟨relC x.rf,zad _,zab fG,hlt fG,?_⟩
   refine Calls.mono (zpA fX hvX hv.rf hrf) ?_
   rintro e Y ⟨rfl,hbY⟩
   rw [← hrfx]
   refine zar (v := .agg (relC rfx).toArray) (ttOk.get 27 _ rfl) (zaa hbY fG) (zad _) (zad _) (zav _) ?_
   exact⟨(),(cvE rfl rfl),zal (zaa hbY fG),(zam (by omega)).trans (zaa hbY fF),(zam (by omega)).trans (zaa hbY fB),zaj (hbX.trans (hbY.mono hbX.size)) hGw _⟩
  ·have h:m.toNat=2:=by
    have h:(!decide ((m.toNat:Int)=2))=false:=h
    have h:(m.toNat:Int)=2:=by simpa using h
    omega
   rw [if_pos h] at hrfx
   rw [hrfx]
   exact⟨(),(cvE rfl rfl),fG,fF,fB,hbX⟩
 clear fG fF fB hbX hrfx
 clear X
 rintro _ X ⟨fG,fF,fB,hbX⟩
 have kw:WrdR (zcL m.toNat x).to:=zdZ (by omega)
 have dX:Below X.heap.size X X.drew:=(Below.refl _ _).drew
 have hbD:=hbX.trans (dX.mono hbX.size)
 have hw3:∀ o∈[rfx,x.co,frM x],WrdR o.to:=by
  simp only [List.mem_cons,List.not_mem_nil,or_false,forall_eq_or_imp,forall_eq]
  exact⟨rfw,hv.co,frw⟩
 have fD:=hdr (zaa hbX fx)
 have hk0:∀ {Y:World},Below X.heap.size X Y→Calls Tryz.prog 69 #[u8 m,At0 b] Y fun e w'=>e = .returned (.agg (relC (zcL m.toNat x)).toArray)∧Below Y.heap.size Y w':=fun {Y} hY =>
  have h2:=hbX.trans (hY.mono hbX.size)
  zne hk (zaa h2 fx) (hv.below h2) (hT.below h2)
 refine DrawE.treeQ [] (.op 0 (.op 1 (.op 3 (.op 4 (.op 5 (.op 6 (.op 7 (.op 8 (.alt (.op 9 (.op 2 (.op 10 (.op 11 (.op 12 .nil))))) (.op 2 (.op 9 (.op 10 (.op 11 (.op 12 .nil)))))))))))))) (by kernel_rfl) ?_
 refine⟨_,zac (zab (hdr fB)) (i:=0) rfl,?_⟩
 refine⟨relC rfx,zad _,zab (hdr fG),hlt (hdr fG),?_⟩
 refine⟨_,zac (zab (hdr fB)) (i:=0) rfl,?_⟩
 refine⟨relC x.co,zad _,zaN fD (i:=2) (by decide) rfl,hlt fD,?_⟩
 refine⟨relC (frM x),zad _,zab (hdr fF),hlt (hdr fF),?_⟩
 refine And.intro ?_ ?_
 ·refine⟨⟨by decide,by decide,rfl⟩,relC rfx++(relC x.co++relC (frM x)),by kernel_rfl,?_⟩
  refine⟨hba _ _,?_⟩
  have b1:=dX.alloc (Nat.le_refl _) (.cells (relC rfx++(relC x.co++relC (frM x))).toArray 27)
  have hl:=zhQ (hnew X.drew (.cells (relC rfx++(relC x.co++relC (frM x))).toArray 27))
  refine Calls.mono (hk0 b1) ?_
  rintro e Y ⟨rfl,hbY⟩
  refine⟨hbY,?_⟩
  have b2:=b1.trans (hbY.mono b1.size)
  refine Calls.mono (zhO (l:=[rfx,x.co,frM x]) kw (hl.below hbY) hw3 (Nat.le_of_ble_eq_true rfl)) ?_
  rintro e V ⟨rfl,hbV⟩
  refine⟨hbV,?_⟩
  have b3:=b2.trans (hbV.mono b2.size)
  refine Calls.mono (zeg (zdt kw hw3) (hT.below (hbX.trans (b3.mono hbX.size)))) ?_
  rintro e Z ⟨rfl,hbZ⟩
  refine⟨hbZ,?_⟩
  have b5:=hbX.trans ((b3.trans (hbZ.mono b3.size)).mono hbX.size)
  refine biE (fun h=>?_) fun h=>?_
  ·have h:acyR (zaZ (zcL m.toNat x) [rfx,x.co,frM x])=false:=by
    have h:(!acyR (zaZ (zcL m.toNat x) [rfx,x.co,frM x]))=true:=h
    simpa using h
   rw [h,if_neg (by decide)] at hbr
   rw [hbr]
   exact⟨rfl,b5⟩
  ·have h:acyR (zaZ (zcL m.toNat x) [rfx,x.co,frM x])=true:=by
    have h:(!acyR (zaZ (zcL m.toNat x) [rfx,x.co,frM x]))=false:=h
    simpa using h
   rw [h,if_pos rfl] at hbr
   rw [hbr]
   exact⟨rfl,b5⟩
 ·refine Calls.mono (hk0 dX) ?_
  rintro e Y ⟨rfl,hbY⟩
  refine⟨hbY,?_⟩
  have b1:=dX.trans (hbY.mono dX.size)
  refine⟨⟨by decide,by decide,rfl⟩,relC rfx++(relC x.co++relC (frM x)),by kernel_rfl,?_⟩
  refine⟨hba _ _,?_⟩
  have b2:=b1.alloc b1.size (.cells (relC rfx++(relC x.co++relC (frM x))).toArray 27)
  have hl:=zhQ (hnew Y (.cells (relC rfx++(relC x.co++relC (frM x))).toArray 27))
  refine Calls.mono (zhO (l:=[rfx,x.co,frM x]) kw hl hw3 (Nat.le_of_ble_eq_true rfl)) ?_
  rintro e V ⟨rfl,hbV⟩
  refine⟨hbV,?_⟩
  have b3:=b2.trans (hbV.mono b2.size)
  refine Calls.mono (zeg (zdt kw hw3) (hT.below (hbX.trans (b3.mono hbX.size)))) ?_
  rintro e Z ⟨rfl,hbZ⟩
  refine⟨hbZ,?_⟩
  have b5:=hbX.trans ((b3.trans (hbZ.mono b3.size)).mono hbX.size)
  refine biE (fun h=>?_) fun h=>?_
  ·have h:acyR (zaZ (zcL m.toNat x) [rfx,x.co,frM x])=false:=by
    have h:(!acyR (zaZ (zcL m.toNat x) [rfx,x.co,frM x]))=true:=h
    simpa using h
   rw [h,if_neg (by decide)] at hbr
   rw [hbr]
   exact⟨rfl,b5⟩
  ·have h:acyR (zaZ (zcL m.toNat x) [rfx,x.co,frM x])=true:=by
    have h:(!acyR (zaZ (zcL m.toNat x) [rfx,x.co,frM x]))=false:=h
    simpa using h
   rw [h,if_pos rfl] at hbr
   rw [hbr]
   exact⟨rfl,b5⟩
theorem ziN (h:zaJ x=true):x.rf.n=x.ev.length:=by
 unfold zaJ zcq at h
 simp only [List.all_cons,List.all_nil,Bool.and_true,Bool.and_eq_true,decide_eq_true_eq] at h
 obtain⟨_,_,_,_,⟨_,h6,_⟩,_⟩:=h
 exact h6.1
theorem znY {A B C:Bool} {m:Nat}:(if A=true then (if B=true then (if m=1 then 0 else if C=true then 0 else 3) else 2) else 1)≤3:=by
 by_cases h:m=1 <;> cases A <;> cases B <;> cases C <;> simp [h]
theorem zlK {m:Nat} {x:ExD}:decide ((((UInt8.ofNat (zda m x)).toNat:Nat):Int)=0)=decide (zda m x=0):=by
 have h:zda m x≤3:=by
  unfold zda
  exact znY
 refine decide_eq_decide.2 ?_
 rw [UInt8.toNat_ofNat']
 omega
theorem zo0 {m:UInt8} (hv:ExV w x q) (hT:Tz64M w):Calls Tryz.prog 15 #[u8 m,.agg (exC x q c).toArray] w fun e w'=>e = .returned (.bool (zf9 m.toNat x))∧Below w.heap.size w w':=by
 refine zah (S:=sg 16) (sgOk _) (args:=[u8 m,.agg (exC x q c).toArray]) (.c .p .p) Tryz.func15 rfl rfl (Nat.le_of_ble_eq_true rfl) rfl ?_
 obtain⟨L,hL⟩:=nm (w.heap.size)
 refine⟨Unit,fun _=>⟨[(0,u8 m),(3,At0 L)],[]⟩,fun _ X=>ExH X L x q c∧Below w.heap.size w X,⟨(),⟨.cons rfl (.cons (by rw [hL];rfl) .nil),rfl⟩,by rw [hL];exact hnew w _,(Below.refl _ w).alloc (Nat.le_refl _) _⟩,?_⟩
 rintro _ X ⟨fX,hbX⟩
 refine Calls.mono zih ?_
 rintro e _ ⟨rfl,rfl⟩
 refine biE (fun h1=>?_) fun h1=>?_
 ·have h1:zbm m.toNat=true:=h1
  refine⟨exC x q c,zau _ _ _,zab fX,hlt fX,?_⟩
  refine Calls.mono (zcH (hv.below hbX) (hT.below hbX)) ?_
  rintro e Y ⟨rfl,hbY⟩
  have bY:=hbX.trans (hbY.mono hbX.size)
  refine biE (fun h2=>?_) fun h2=>?_
  ·have h2:zaJ x=true:=h2
   refine Calls.mono (zji h1 (zaa hbY fX) (hv.below bY) (ziN h2) (hT.below bY)) ?_
   rintro e Z ⟨rfl,hbZ⟩
   refine⟨rb ?_,bY.trans (hbZ.mono bY.size)⟩
   unfold zf9
   rw [h1,h2]
   exact zlK
  ·have h2:zaJ x=false:=h2
   exact⟨rb (by unfold zf9;rw [h2];cases zbm m.toNat <;> rfl),bY⟩
 ·have h1:zbm m.toNat=false:=h1
  refine brF ?_
  exact⟨rb (by unfold zf9;rw [h1];rfl),hbX⟩
theorem zm1 {m:UInt8} (hv:ExV w x q) (hT:Tz64M w):Calls Tryz.prog 16 #[u8 m,.agg (exC x q c).toArray] w fun e w'=>e = .returned (u8 (UInt8.ofNat (zhH m.toNat x)))∧Below w.heap.size w w':=by
 refine zah (S:=sg 15) (sgOk _) (args:=[u8 m,.agg (exC x q c).toArray]) (.c .p .p) Tryz.func16 rfl rfl (Nat.le_of_ble_eq_true rfl) rfl ?_
 obtain⟨L,hL⟩:=nm (w.heap.size)
 refine⟨Unit,fun _=>⟨[(0,u8 m),(3,At0 L)],[]⟩,fun _ X=>ExH X L x q c∧Below w.heap.size w X,⟨(),⟨.cons rfl (.cons (by rw [hL];rfl) .nil),rfl⟩,by rw [hL];exact hnew w _,(Below.refl _ w).alloc (Nat.le_refl _) _⟩,?_⟩
 rintro _ X ⟨fX,hbX⟩
 refine Calls.mono zih ?_
 rintro e _ ⟨rfl,rfl⟩
 refine biE (fun h1=>?_) fun h1=>?_
 ·have h1:zbm m.toNat=false:=by
   have h1:(!zbm m.toNat)=true:=h1
   simpa using h1
  refine brT ?_
  have e0:zhH m.toNat x=0:=by unfold zhH;rw [if_neg fun h=>by rw [h1] at h;cases h.1]
  rw [e0]
  exact⟨rfl,hbX⟩
 ·have h1:zbm m.toNat=true:=by
   have h1:(!zbm m.toNat)=false:=h1
   simpa using h1
  refine⟨exC x q c,zau _ _ _,zab fX,hlt fX,?_⟩
  refine Calls.mono (zcH (hv.below hbX) (hT.below hbX)) ?_
  rintro e Y ⟨rfl,hbY⟩
  have bY:=hbX.trans (hbY.mono hbX.size)
  refine biE (fun h2=>?_) fun h2=>?_
  ·have h2:zaJ x=false:=by
    have h2:(!zaJ x)=true:=h2
    simpa using h2
   have e0:zhH m.toNat x=0:=by unfold zhH;rw [if_neg fun h=>by rw [h2] at h;cases h.2]
   rw [e0]
   exact⟨rfl,bY⟩
  ·have h2:zaJ x=true:=by
    have h2:(!zaJ x)=false:=h2
    simpa using h2
   have e0:zhH m.toNat x=zda m.toNat x:=if_pos ⟨h1,h2⟩
   rw [e0]
   refine Calls.mono (zji h1 (zaa hbY fX) (hv.below bY) (ziN h2) (hT.below bY)) ?_
   rintro e Z ⟨rfl,hbZ⟩
   exact⟨rfl,bY.trans (hbZ.mono bY.size)⟩
end
section
variable {b c:Nat} {x:ExD} {q:Option Addr} {w:World}
def zdC (x:ExD) (r:RelD):Bool:=okR r&&(decide (r.n=x.ev.length)&&zaJ x)
theorem notB {p:Bool} (h:(!p)=true):p=false:=by simpa using h
theorem notF {p:Bool} (h:(!p)=false):p=true:=by simpa using h
theorem zbX {X:World} {L:Nat} {r r0:RelD} (f0:RelH X L r0) (hL:w.heap.size≤L) (hbX:Below w.heap.size w X) {K:World→Prop} (k:∀ Y,RelH Y L r→Below w.heap.size w Y→K Y) :
  SatR ((storeVar 27 ⟨L,0,none⟩ (.agg (relC r).toArray)).run Tryz.prog X) fun _ w'=>K w' :=
 zar (v := .agg (relC r).toArray) (ttOk.get 27 _ rfl) f0 (zad _) (zad _) (zav _) (k _ (zal f0) (zaj hbX hL _))
theorem zoX {m:UInt8} (hv:ExV w x q) (hT:Tz64M w):Calls Tryz.prog 23 #[u8 m,.agg (exC x q c).toArray] w fun e w'=>e = .returned (.agg (relC (zfR m.toNat x)).toArray)∧Below w.heap.size w w':=by
 refine zah (S:=sg 16) (sgOk _) (args:=[u8 m,.agg (exC x q c).toArray]) (.c .p .p) Tryz.func23 rfl rfl (Nat.le_of_ble_eq_true rfl) rfl ?_
 obtain⟨L,hL⟩:=nm (w.heap.size)
 refine⟨Unit,fun _=>⟨[(0,u8 m),(3,At0 L),(4,At0 (L+1))],[]⟩,fun _ X=>ExH X L x q c∧RelH X (L+1) zas∧Below w.heap.size w X,?_,?_⟩
 ·have s1:=World.size_alloc w (.cells (exC x q c).toArray 34)
  have h2:=hnew (w.alloc (.cells (exC x q c).toArray 34)) (.cells (relC zas).toArray 27)
  rw [s1] at h2
  have b1:Below w.heap.size w (w.alloc (.cells (exC x q c).toArray 34)):=(Below.refl _ w).alloc (Nat.le_refl _) _
  exact⟨(),⟨.cons rfl (.cons (by rw [hL];rfl) (.cons (by rw [hL,← s1];rfl) .nil)),rfl⟩,by rw [hL];exact hold _ (hnew w _),by rw [hL];exact h2,b1.alloc b1.size _⟩
 rintro _ X ⟨fX,f0,hbX⟩
 have zero:zfR m.toNat x=zas→∀ {Y:World},Below X.heap.size X Y→SatR ((storeVar 27 ⟨L+1,0,none⟩ (.agg (relC zas).toArray)).run Tryz.prog Y) fun _ w'=>∃ cells,cells.length=49∧zay w' ⟨L+1,0,none⟩ cells∧Ending.returned (.agg cells.toArray) = .returned (.agg (relC (zfR m.toNat x)).toArray)∧Below w.heap.size w w':=fun h0 {Y} hb=>by
  rw [h0]
  exact zbX (zaa hb f0) (by omega) (hbX.trans (hb.mono hbX.size)) fun Z fZ bZ=>⟨relC zas,zad _,zab fZ,rfl,bZ⟩
 refine Calls.mono zih ?_
 rintro e _ ⟨rfl,rfl⟩
 refine biE (fun h1=>?_) fun h1=>?_
 ·have h1:zbm m.toNat=false:=notB h1
  refine brT ?_
  refine⟨relC zas,by kernel_rfl,?_⟩
  exact zero (if_neg fun h=>by rw [h1] at h;cases h.1) (Below.refl _ _)
 ·have h1:zbm m.toNat=true:=notF h1
  refine⟨exC x q c,zau _ _ _,zab fX,hlt fX,?_⟩
  refine Calls.mono (zcH (hv.below hbX) (hT.below hbX)) ?_
  rintro e Y ⟨rfl,hbY⟩
  have bY:=hbX.trans (hbY.mono hbX.size)
  refine biE (fun h2=>?_) fun h2=>?_
  ·have h2:zaJ x=false:=notB h2
   refine⟨relC zas,by kernel_rfl,?_⟩
   exact zero (if_neg fun h=>by rw [h2] at h;cases h.2) hbY
  ·have h2:zaJ x=true:=notF h2
   have e0:zfR m.toNat x=zcL m.toNat x:=if_pos ⟨h1,h2⟩
   rw [e0]
   refine Calls.mono (zne h1 (zaa hbY fX) (hv.below bY) (hT.below bY)) ?_
   rintro e Z ⟨rfl,hbZ⟩
   exact zbX (zaa hbZ (zaa hbY f0)) (by omega) (bY.trans (hbZ.mono bY.size)) fun V fV bV=>⟨relC (zcL m.toNat x),zad _,zab fV,rfl,bV⟩
def frX (x:ExD):RelD:=if zaJ x=true then frM x else zas
def locX (x:ExD):RelD:=if zaJ x=true then locM x else zas
def extX (x:ExD) (r:RelD):RelD:=if zdC x r=true then extM x r else zas
def intX (x:ExD) (r:RelD):RelD:=if zdC x r=true then intM x r else zas
theorem zgb {r:RelD} (h:zdC x r=true):okR r=true∧r.n=x.ev.length∧zaJ x=true:=by
 unfold zdC at h
 rw [Bool.and_eq_true,Bool.and_eq_true,decide_eq_true_eq] at h
 exact h
theorem zcn (w:World) (x:ExD) (q:Option Addr) (c:Nat) (r:RelD) (T:TypeId) : 
  ExH ((w.alloc (.cells (exC x q c).toArray 34)).alloc (.cells (relC r).toArray T)) w.heap.size x q c∧((w.alloc (.cells (exC x q c).toArray 34)).alloc (.cells (relC r).toArray T)).heap[w.heap.size+1]?=some (.cells (relC r).toArray T (0,0)) ∧
   ((w.alloc (.cells (exC x q c).toArray 34)).alloc (.cells (relC r).toArray T)).heap.size=w.heap.size+2∧Below w.heap.size w ((w.alloc (.cells (exC x q c).toArray 34)).alloc (.cells (relC r).toArray T)):=by
 have s1:=World.size_alloc w (.cells (exC x q c).toArray 34)
 have h2:=hnew (w.alloc (.cells (exC x q c).toArray 34)) (.cells (relC r).toArray T)
 have s2:=World.size_alloc (w.alloc (.cells (exC x q c).toArray 34)) (.cells (relC r).toArray T)
 rw [s1] at h2 s2
 have b1:Below w.heap.size w (w.alloc (.cells (exC x q c).toArray 34)):=(Below.refl _ w).alloc (Nat.le_refl _) _
 exact⟨hold _ (hnew w _),h2,s2,b1.alloc b1.size _⟩
theorem zni {r:RelD} (hv:ExV w x q) (hr:WrdR r.to) (hT:Tz64M w):Calls Tryz.prog 64 #[.agg (exC x q c).toArray,.agg (relC r).toArray] w fun e w'=>e = .returned (.bool (zdC x r))∧Below w.heap.size w w':=by
 refine zah (S:=sg 19) (sgOk _) (args:=[.agg (exC x q c).toArray,.agg (relC r).toArray]) (.c .p .p) Tryz.func64 rfl rfl (Nat.le_of_ble_eq_true rfl) rfl ?_
 obtain⟨L,hL⟩:=nm (w.heap.size)
 refine⟨Unit,fun _=>⟨[(2,At0 L),(3,At0 (L+1))],[]⟩,fun _ X=>ExH X L x q c∧RelH X (L+1) r∧Below w.heap.size w X,?_,?_⟩
 ·obtain⟨h1,h2,h3,h4⟩:=zcn w x q c r 27
  have s1:=World.size_alloc w (.cells (exC x q c).toArray 34)
  exact⟨(),⟨.cons (by rw [hL];rfl) (.cons (by rw [hL,← s1];rfl) .nil),rfl⟩,by rw [hL];exact h1,by rw [hL];exact h2,h4⟩
 rintro _ X ⟨fX,fR,hbX⟩
 refine⟨relC r,zad _,zab fR,hlt fR,?_⟩
 refine Calls.mono (zaT hr) ?_
 rintro e Y ⟨rfl,hbY⟩
 have bY:=hbX.trans (hbY.mono hbX.size)
 refine biE (fun h1=>?_) fun h1=>?_
 ·have h1:okR r=true:=h1
  refine⟨i64 r.n,by have:=zac (zab (zaa hbY fR)) (i:=0) (v:=i64 r.n) rfl;exact this,?_⟩
  refine⟨_,za9 (zab (zaa hbY fX)),?_⟩
  refine biE (fun h2=>?_) fun h2=>?_
  ·have h2:r.n=(x.ev.length:Int):=of_decide_eq_true h2
   refine⟨exC x q c,zau _ _ _,zab (zaa hbY fX),hlt (zaa hbY fX),?_⟩
   refine Calls.mono (zcH (hv.below bY) (hT.below bY)) ?_
   rintro e Z ⟨rfl,hbZ⟩
   exact⟨rb (by unfold zdC;rw [h1,decide_eq_true h2];rfl),bY.trans (hbZ.mono bY.size)⟩
  ·have h2:¬ r.n=(x.ev.length:Int):=of_decide_eq_false h2
   exact⟨rb (by unfold zdC;rw [h1,decide_eq_false h2];rfl),bY⟩
 ·have h1:okR r=false:=h1
  refine brF ?_
  exact⟨rb (by unfold zdC;rw [h1];rfl),bY⟩
theorem zqf (hv:ExV w x q) (hT:Tz64M w):Calls Tryz.prog 18 #[.agg (exC x q c).toArray] w fun e w'=>e = .returned (.agg (relC (frX x)).toArray)∧Below w.heap.size w w':=by
 refine zah (S:=sg 8) (sgOk _) (args:=[.agg (exC x q c).toArray]) (.c .p .p) Tryz.func18 rfl rfl (Nat.le_of_ble_eq_true rfl) rfl ?_
 obtain⟨L,hL⟩:=nm (w.heap.size)
 have hn:=hv.n
 refine⟨Unit,fun _=>⟨[(1,At0 L),(2,At0 (L+1))],[]⟩,fun _ X=>ExH X L x q c∧RelH X (L+1) zas∧Below w.heap.size w X,?_,?_⟩
 ·obtain⟨h1,h2,h3,h4⟩:=zcn w x q c zas 27
  have s1:=World.size_alloc w (.cells (exC x q c).toArray 34)
  exact⟨(),⟨.cons (by rw [hL];rfl) (.cons (by rw [hL,← s1];rfl) .nil),rfl⟩,by rw [hL];exact h1,by rw [hL];exact h2,h4⟩
 rintro _ X ⟨fX,f0,hbX⟩
 have zero:frX x=zas→∀ {Y:World},Below X.heap.size X Y→SatR ((storeVar 27 ⟨L+1,0,none⟩ (.agg (relC zas).toArray)).run Tryz.prog Y) fun _ w'=>∃ cells,cells.length=49∧zay w' ⟨L+1,0,none⟩ cells∧Ending.returned (.agg cells.toArray) = .returned (.agg (relC (frX x)).toArray)∧Below w.heap.size w w':=fun h0 {Y} hb=>by
  rw [h0]
  exact zbX (zaa hb f0) (by omega) (hbX.trans (hb.mono hbX.size)) fun Z fZ bZ=>⟨relC zas,zad _,zab fZ,rfl,bZ⟩
 refine⟨exC x q c,zau _ _ _,zab fX,hlt fX,?_⟩
 refine Calls.mono (zcH (hv.below hbX) (hT.below hbX)) ?_
 rintro e Y ⟨rfl,hbY⟩
 have bY:=hbX.trans (hbY.mono hbX.size)
 have fY:=zaa hbY fX
 refine biE (fun h2=>?_) fun h2=>?_
 ·have h2:zaJ x=false:=notB h2
  refine⟨relC zas,by kernel_rfl,?_⟩
  exact zero (if_neg fun h=>by rw [h2] at h;cases h) hbY
 ·have h2:zaJ x=true:=notF h2
  have e0:frX x=frM x:=if_pos h2
  rw [e0]
  refine Calls.mono (fr_c fY (hv.below bY) (hT.below bY)) ?_
  rintro e Z ⟨rfl,hbZ⟩
  exact zbX (zaa hbZ (zaa hbY f0)) (by omega) (bY.trans (hbZ.mono bY.size)) fun V fV bV=>⟨relC (frM x),zad _,zab fV,rfl,bV⟩
theorem zp8 (hv:ExV w x q) (hT:Tz64M w):Calls Tryz.prog 19 #[.agg (exC x q c).toArray] w fun e w'=>e = .returned (.agg (relC (locX x)).toArray)∧Below w.heap.size w w':=by
 refine zah (S:=sg 12) (sgOk _) (args:=[.agg (exC x q c).toArray]) (.c .p .p) Tryz.func19 rfl rfl (Nat.le_of_ble_eq_true rfl) rfl ?_
 obtain⟨L,hL⟩:=nm (w.heap.size)
 have hn:=hv.n
 refine⟨Unit,fun _=>⟨[(1,At0 L),(2,At0 (L+1))],[]⟩,fun _ X=>ExH X L x q c∧RelH X (L+1) zas∧Below w.heap.size w X,?_,?_⟩
 ·obtain⟨h1,h2,h3,h4⟩:=zcn w x q c zas 27
  have s1:=World.size_alloc w (.cells (exC x q c).toArray 34)
  exact⟨(),⟨.cons (by rw [hL];rfl) (.cons (by rw [hL,← s1];rfl) .nil),rfl⟩,by rw [hL];exact h1,by rw [hL];exact h2,h4⟩
 rintro _ X ⟨fX,f0,hbX⟩
 have zero:locX x=zas→∀ {Y:World},Below X.heap.size X Y→SatR ((storeVar 27 ⟨L+1,0,none⟩ (.agg (relC zas).toArray)).run Tryz.prog Y) fun _ w'=>∃ cells,cells.length=49∧zay w' ⟨L+1,0,none⟩ cells∧Ending.returned (.agg cells.toArray) = .returned (.agg (relC (locX x)).toArray)∧Below w.heap.size w w':=fun h0 {Y} hb=>by
  rw [h0]
  exact zbX (zaa hb f0) (by omega) (hbX.trans (hb.mono hbX.size)) fun Z fZ bZ=>⟨relC zas,zad _,zab fZ,rfl,bZ⟩
 refine⟨exC x q c,zau _ _ _,zab fX,hlt fX,?_⟩
 refine Calls.mono (zcH (hv.below hbX) (hT.below hbX)) ?_
 rintro e Y ⟨rfl,hbY⟩
 have bY:=hbX.trans (hbY.mono hbX.size)
 have fY:=zaa hbY fX
 refine biE (fun h2=>?_) fun h2=>?_
 ·have h2:zaJ x=false:=notB h2
  refine⟨relC zas,by kernel_rfl,?_⟩
  exact zero (if_neg fun h=>by rw [h2] at h;cases h) hbY
 ·have h2:zaJ x=true:=notF h2
  have e0:locX x=locM x:=if_pos h2
  rw [e0]
  refine⟨_,za9 (zab fY),?_⟩
  refine Calls.mono (zhc (n:=x.ev.length) (caps := #[At0 L]) (g:=62) (p:=zcW x) (by omega) (by kernel_rfl) fun a d Z ha hd hb=>zpp (zaa hb fY) ((hv.below bY).below hb) ha hd) ?_
  rintro e Z ⟨rfl,hbZ⟩
  exact zbX (zaa hbZ (zaa hbY f0)) (by omega) (bY.trans (hbZ.mono bY.size)) fun V fV bV=>⟨relC (locM x),zad _,zab fV,rfl,bV⟩
theorem zqg {r:RelD} (hv:ExV w x q) (hr:WrdR r.to) (hT:Tz64M w):Calls Tryz.prog 20 #[.agg (exC x q c).toArray,.agg (relC r).toArray] w fun e w'=>e = .returned (.agg (relC (extX x r)).toArray)∧Below w.heap.size w w':=by
 refine zah (S:=sg 12) (sgOk _) (args:=[.agg (exC x q c).toArray,.agg (relC r).toArray]) (.c .p .p) Tryz.func20 rfl rfl (Nat.le_of_ble_eq_true rfl) rfl ?_
 obtain⟨L,hL⟩:=nm (w.heap.size)
 have hn:=hv.n
 refine⟨Unit,fun _=>⟨[(2,At0 L),(3,At0 (L+1)),(4,At0 (L+2))],[]⟩,fun _ X=>ExH X L x q c∧RelH X (L+1) r∧RelH X (L+2) zas∧Below w.heap.size w X,?_,?_⟩
 ·obtain⟨h1,h2,h3,h4⟩:=zcn w x q c r 27
  have s1:=World.size_alloc w (.cells (exC x q c).toArray 34)
  obtain⟨U,hU⟩:=nm ((w.alloc (.cells (exC x q c).toArray 34)).alloc (.cells (relC r).toArray 27))
  rw [← hU] at h1 h2 h3 h4
  have f3:=hnew U (.cells (relC zas).toArray 27)
  rw [h3] at f3
  subst hU
  exact⟨(),⟨.cons (by rw [hL];rfl) (.cons (by rw [hL,← s1];rfl) (.cons (by rw [hL,← h3];rfl) .nil)),rfl⟩,by rw [hL];exact hold _ h1,by rw [hL];exact hold _ h2,by rw [hL];exact f3,h4.alloc h4.size _⟩
 rintro _ X ⟨fX,fR,f0,hbX⟩
 have zero:extX x r=zas→∀ {Y:World},Below X.heap.size X Y→SatR ((storeVar 27 ⟨L+2,0,none⟩ (.agg (relC zas).toArray)).run Tryz.prog Y) fun _ w'=>∃ cells,cells.length=49∧zay w' ⟨L+2,0,none⟩ cells∧Ending.returned (.agg cells.toArray) = .returned (.agg (relC (extX x r)).toArray)∧Below w.heap.size w w':=fun h0 {Y} hb=>by
  rw [h0]
  exact zbX (zaa hb f0) (by omega) (hbX.trans (hb.mono hbX.size)) fun Z fZ bZ=>⟨relC zas,zad _,zab fZ,rfl,bZ⟩
 refine⟨exC x q c,zau _ _ _,zab fX,hlt fX,?_⟩
 refine⟨relC r,zad _,zab fR,hlt fR,?_⟩
 refine Calls.mono (zni (hv.below hbX) hr (hT.below hbX)) ?_
 rintro e Y ⟨rfl,hbY⟩
 have bY:=hbX.trans (hbY.mono hbX.size)
 have fY:=zaa hbY fX
 refine biE (fun h2=>?_) fun h2=>?_
 ·have h2:zdC x r=false:=notB h2
  refine⟨relC zas,by kernel_rfl,?_⟩
  exact zero (if_neg fun h=>by rw [h2] at h;cases h) hbY
 ·have h2:zdC x r=true:=notF h2
  have h3:=zgb h2
  have e0:extX x r=extM x r:=if_pos h2
  rw [e0]
  refine⟨relC r,zad _,zab (zaa hbY fR),hlt (zaa hbY fR),?_⟩
  refine Calls.mono (zpA fY (hv.below bY) hr h3.2.1) ?_
  rintro e Z ⟨rfl,hbZ⟩
  exact zbX (zaa hbZ (zaa hbY f0)) (by omega) (bY.trans (hbZ.mono bY.size)) fun V fV bV=>⟨relC (extM x r),zad _,zab fV,rfl,bV⟩
theorem znt {r:RelD} (hv:ExV w x q) (hr:WrdR r.to) (hT:Tz64M w):Calls Tryz.prog 21 #[.agg (exC x q c).toArray,.agg (relC r).toArray] w fun e w'=>e = .returned (.agg (relC (intX x r)).toArray)∧Below w.heap.size w w':=by
 refine zah (S:=sg 14) (sgOk _) (args:=[.agg (exC x q c).toArray,.agg (relC r).toArray]) (.c .p .p) Tryz.func21 rfl rfl (Nat.le_of_ble_eq_true rfl) rfl ?_
 obtain⟨L,hL⟩:=nm (w.heap.size)
 have hn:=hv.n
 refine⟨Unit,fun _=>⟨[(2,At0 L),(3,At0 (L+1)),(4,At0 (L+2))],[]⟩,fun _ X=>ExH X L x q c∧RelH X (L+1) r∧RelH X (L+2) zas∧Below w.heap.size w X,?_,?_⟩
 ·obtain⟨h1,h2,h3,h4⟩:=zcn w x q c r 27
  have s1:=World.size_alloc w (.cells (exC x q c).toArray 34)
  obtain⟨U,hU⟩:=nm ((w.alloc (.cells (exC x q c).toArray 34)).alloc (.cells (relC r).toArray 27))
  rw [← hU] at h1 h2 h3 h4
  have f3:=hnew U (.cells (relC zas).toArray 27)
  rw [h3] at f3
  subst hU
  exact⟨(),⟨.cons (by rw [hL];rfl) (.cons (by rw [hL,← s1];rfl) (.cons (by rw [hL,← h3];rfl) .nil)),rfl⟩,by rw [hL];exact hold _ h1,by rw [hL];exact hold _ h2,by rw [hL];exact f3,h4.alloc h4.size _⟩
 rintro _ X ⟨fX,fR,f0,hbX⟩
 have zero:intX x r=zas→∀ {Y:World},Below X.heap.size X Y→SatR ((storeVar 27 ⟨L+2,0,none⟩ (.agg (relC zas).toArray)).run Tryz.prog Y) fun _ w'=>∃ cells,cells.length=49∧zay w' ⟨L+2,0,none⟩ cells∧Ending.returned (.agg cells.toArray) = .returned (.agg (relC (intX x r)).toArray)∧Below w.heap.size w w':=fun h0 {Y} hb=>by
  rw [h0]
  exact zbX (zaa hb f0) (by omega) (hbX.trans (hb.mono hbX.size)) fun Z fZ bZ=>⟨relC zas,zad _,zab fZ,rfl,bZ⟩
 refine⟨exC x q c,zau _ _ _,zab fX,hlt fX,?_⟩
 refine⟨relC r,zad _,zab fR,hlt fR,?_⟩
 refine Calls.mono (zni (hv.below hbX) hr (hT.below hbX)) ?_
 rintro e Y ⟨rfl,hbY⟩
 have bY:=hbX.trans (hbY.mono hbX.size)
 have fY:=zaa hbY fX
 refine biE (fun h2=>?_) fun h2=>?_
 ·have h2:zdC x r=false:=notB h2
  refine⟨relC zas,by kernel_rfl,?_⟩
  exact zero (if_neg fun h=>by rw [h2] at h;cases h) hbY
 ·have h2:zdC x r=true:=notF h2
  have h3:=zgb h2
  have e0:intX x r=intM x r:=if_pos h2
  rw [e0]
  refine⟨i64 r.n,by have:=zac (zab (zaa hbY fR)) (i:=0) (v:=i64 r.n) rfl;exact this,?_⟩
  have en:intM x r=zde x.ev.length fun a d=>hasM r a d&&decide ((evA x a).th=(evA x d).th):=by
   unfold intM
   rw [h3.2.1];rfl
  rw [h3.2.1,en]
  refine Calls.mono (zhc (n:=x.ev.length) (caps := #[At0 (L+1),At0 L]) (g:=66) (p:=fun a d=>hasM r a d&&decide ((evA x a).th=(evA x d).th)) (by omega) (by kernel_rfl) fun a d Z ha hd hb=>zpu (zaa hb (zaa hbY fR)) hr (zaa hb fY) ((hv.below bY).below hb) ha hd) ?_
  rintro e Z ⟨rfl,hbZ⟩
  rw [← en]
  exact zbX (zaa hbZ (zaa hbY f0)) (by omega) (bY.trans (hbZ.mono bY.size)) fun V fV bV=>⟨relC (intM x r),zad _,zab fV,rfl,bV⟩
theorem zlX {md:UInt8} (hv:ExV w x q) (hT:Tz64M w):Calls Tryz.prog 22 #[.agg (exC x q c).toArray,u8 md] w fun e w'=>e = .returned (.agg (relC (zbN x md)).toArray)∧Below w.heap.size w w':=by
 refine zah (S:=sg 21) (sgOk _) (args:=[.agg (exC x q c).toArray,u8 md]) (.c .p .p) Tryz.func22 rfl rfl (Nat.le_of_ble_eq_true rfl) rfl ?_
 obtain⟨L,hL⟩:=nm (w.heap.size)
 have hn:=hv.n
 refine⟨Unit,fun _=>⟨[(1,u8 md),(2,At0 L),(4,At0 (L+1))],[]⟩,fun _ X=>ExH X L x q c∧RelH X (L+1) zas∧Below w.heap.size w X,?_,?_⟩
 ·obtain⟨h1,h2,h3,h4⟩:=zcn w x q c zas 27
  have s1:=World.size_alloc w (.cells (exC x q c).toArray 34)
  exact⟨(),⟨.cons rfl (.cons (by rw [hL];rfl) (.cons (by rw [hL,← s1];rfl) .nil)),rfl⟩,by rw [hL];exact h1,by rw [hL];exact h2,h4⟩
 rintro _ X ⟨fX,f0,hbX⟩
 have zero:zbN x md=zas→∀ {Y:World},Below X.heap.size X Y→SatR ((storeVar 27 ⟨L+1,0,none⟩ (.agg (relC zas).toArray)).run Tryz.prog Y) fun _ w'=>∃ cells,cells.length=49∧zay w' ⟨L+1,0,none⟩ cells∧Ending.returned (.agg cells.toArray) = .returned (.agg (relC (zbN x md)).toArray)∧Below w.heap.size w w':=fun h0 {Y} hb=>by
  rw [h0]
  exact zbX (zaa hb f0) (by omega) (hbX.trans (hb.mono hbX.size)) fun Z fZ bZ=>⟨relC zas,zad _,zab fZ,rfl,bZ⟩
 refine⟨exC x q c,zau _ _ _,zab fX,hlt fX,?_⟩
 refine Calls.mono (zcH (hv.below hbX) (hT.below hbX)) ?_
 rintro e Y ⟨rfl,hbY⟩
 have bY:=hbX.trans (hbY.mono hbX.size)
 have fY:=zaa hbY fX
 refine biE (fun h2=>?_) fun h2=>?_
 ·have h2:zaJ x=false:=notB h2
  refine⟨relC zas,by kernel_rfl,?_⟩
  exact zero (if_neg fun h=>by rw [h2] at h;cases h) hbY
 ·have h2:zaJ x=true:=notF h2
  have none:¬ (3≤md.toNat∧md.toNat≤5)→SatR ((storeVar 27 ⟨L+1,0,none⟩ (.agg (relC (relN x.ev.length)).toArray)).run Tryz.prog Y) fun _ w'=>∃ cells,cells.length=49∧zay w' ⟨L+1,0,none⟩ cells∧Ending.returned (.agg cells.toArray) = .returned (.agg (relC (zbN x md)).toArray)∧Below w.heap.size w w':=fun h=>by
   have e0:zbN x md=relN x.ev.length:=by unfold zbN;rw [if_pos h2,if_neg h]
   rw [e0]
   exact zbX (zaa hbY f0) (by omega) bY fun Z fZ bZ=>⟨relC (relN x.ev.length),zad _,zab fZ,rfl,bZ⟩
  refine biE (fun h3=>?_) fun h3=>?_
  ·have h3:(md.toNat:Int)<3:=of_decide_eq_true h3
   refine brT ?_
   refine⟨_,za9 (zab fY),?_⟩
   refine⟨relC (relN x.ev.length),by kernel_rfl,?_⟩
   exact none (by omega)
  have h3:¬ (md.toNat:Int)<3:=of_decide_eq_false h3
  refine biE (fun h4=>?_) fun h4=>?_
  ·have h4:(5:Int)<(md.toNat:Int):=of_decide_eq_true h4
   refine⟨_,za9 (zab fY),?_⟩
   refine⟨relC (relN x.ev.length),by kernel_rfl,?_⟩
   exact none (by omega)
  have h4:¬ (5:Int)<(md.toNat:Int):=of_decide_eq_false h4
  have e0:zbN x md=zaz x md:=by unfold zbN;rw [if_pos h2,if_pos (by omega)]
  rw [e0]
  refine Calls.mono (zjb fY (hv.below bY) (hT.below bY)) ?_
  rintro e Z ⟨rfl,hbZ⟩
  exact zbX (zaa hbZ (zaa hbY f0)) (by omega) (bY.trans (hbZ.mono bY.size)) fun V fV bV=>⟨relC (zaz x md),zad _,zab fV,rfl,bV⟩
end
section
variable {w:World}
theorem st_c {l v m:UInt8}:Calls Tryz.prog 52 #[u8 l,u8 v,u8 m] w fun e w'=>e = .returned (.agg (insE.enc (stI l v m)).toArray)∧Below w.heap.size w w':=by
 refine zah (S:=sg 12) (sgOk _) (args:=[u8 l,u8 v,u8 m]) (.c .p .p) Tryz.func52 rfl rfl (Nat.le_of_ble_eq_true rfl) rfl ?_
 obtain⟨L,hL⟩:=nm (w.heap.size)
 refine⟨Unit,fun _=>⟨[(0,u8 l),(1,u8 v),(2,u8 m),(6,At0 L)],[]⟩,fun _ X=>(∃ cs:Array Value,X.heap[L]?=some (.cells cs 59 (0,0))∧cs.size=10)∧Below w.heap.size w X,⟨(),⟨.cons rfl (.cons rfl (.cons rfl (.cons (by rw [hL];rfl) .nil))),rfl⟩,⟨_,by rw [hL];exact hnew w _,by kernel_rfl⟩,(Below.refl _ w).alloc (Nat.le_refl _) _⟩,?_⟩
 rintro _ X ⟨⟨cs,f0,hcs⟩,hbX⟩
 refine⟨[.bool false,u8 v],by kernel_rfl,?_⟩
 refine⟨insE.enc (stI l v m),by kernel_rfl,?_⟩
 refine zar (v := .agg (insE.enc (stI l v m)).toArray) (ttOk.get 59 _ rfl) f0 rfl hcs rfl ?_
 exact⟨insE.enc (stI l v m),rfl,zab (zal f0),rfl,zaj hbX (by omega) _⟩
theorem ld_c {d l m:UInt8}:Calls Tryz.prog 53 #[u8 d,u8 l,u8 m] w fun e w'=>e = .returned (.agg (insE.enc (ldI d l m)).toArray)∧Below w.heap.size w w':=by
 refine zah (S:=sg 11) (sgOk _) (args:=[u8 d,u8 l,u8 m]) (.c .p .p) Tryz.func53 rfl rfl (Nat.le_of_ble_eq_true rfl) rfl ?_
 obtain⟨L,hL⟩:=nm (w.heap.size)
 refine⟨Unit,fun _=>⟨[(0,u8 d),(1,u8 l),(2,u8 m),(6,At0 L)],[]⟩,fun _ X=>(∃ cs:Array Value,X.heap[L]?=some (.cells cs 59 (0,0))∧cs.size=10)∧Below w.heap.size w X,⟨(),⟨.cons rfl (.cons rfl (.cons rfl (.cons (by rw [hL];rfl) .nil))),rfl⟩,⟨_,by rw [hL];exact hnew w _,by kernel_rfl⟩,(Below.refl _ w).alloc (Nat.le_refl _) _⟩,?_⟩
 rintro _ X ⟨⟨cs,f0,hcs⟩,hbX⟩
 refine⟨insE.enc (ldI d l m),by kernel_rfl,?_⟩
 refine zar (v := .agg (insE.enc (ldI d l m)).toArray) (ttOk.get 59 _ rfl) f0 rfl hcs rfl ?_
 exact⟨insE.enc (ldI d l m),rfl,zab (zal f0),rfl,zaj hbX (by omega) _⟩
theorem zl8 {la lb:List InsD} {pa pb:Option Addr} {ca cb:Nat} (ha:RowB insE w.heap.size w pa la) (hb:RowB insE w.heap.size w pb lb) (hla:la.length≤1000) (hlb:lb.length≤1000) (hpa:∀ a,pa=some a→a.block<w.heap.size) (hpb:∀ a,pb=some a→a.block<w.heap.size) :
  Calls Tryz.prog 51 #[.slice pa la.length ca,.slice pb lb.length cb] w fun e w'=>(∃ vs:List Value,e = .returned (.agg vs.toArray)∧PrgX w'.heap.size w' vs (twoP la lb))∧Below w.heap.size w w':=by
 refine zah (S:=sg 11) (sgOk _) (args:=[.slice pa la.length ca,.slice pb lb.length cb]) (.c .p .p) Tryz.func51 rfl rfl (Nat.le_of_ble_eq_true rfl) rfl ?_
 obtain⟨L,hL⟩:=nm (w.heap.size)
 refine⟨Unit,fun _=>⟨[(0,.slice pa la.length ca),(1,.slice pb lb.length cb),(4,At0 L)],[]⟩,fun _ X=>(∃ cs:Array Value,X.heap[L]?=some (.cells cs 71 (0,0))∧cs.size=10)∧X.heap.size=L+1∧Below w.heap.size w X,⟨(),⟨.cons rfl (.cons rfl (.cons (by rw [hL];rfl) .nil)),rfl⟩,⟨_,by rw [hL];exact hnew w _,by kernel_rfl⟩,by rw [World.size_alloc,hL],(Below.refl _ w).alloc (Nat.le_refl _) _⟩,?_⟩
 rintro _ W ⟨⟨cs,fL,hcs⟩,sW,hbW⟩
 obtain⟨W1,hW1⟩:=nm (W.alloc (.cells #[strV [120],strV [121]] 9))
 obtain⟨W2,hW2⟩:=nm (W1.alloc (.cells #[u8 0,u8 0] 5))
 obtain⟨W3,hW3⟩:=nm (W2.alloc (.cells #[.slice pa la.length ca,.slice pb lb.length cb] 60))
 have hb1:Below W.heap.size W W1:=by rw [hW1];exact (Below.refl _ W).alloc (Nat.le_refl _) _
 have hb2:Below W1.heap.size W1 W2:=by rw [hW2];exact (Below.refl _ W1).alloc (Nat.le_refl _) _
 have hb3:Below W2.heap.size W2 W3:=by rw [hW3];exact (Below.refl _ W2).alloc (Nat.le_refl _) _
 have f1:W1.heap[W.heap.size]?=some (.cells #[strV [120],strV [121]] 9 (0,0)):=by rw [hW1];exact hnew W _
 have f2:W2.heap[W1.heap.size]?=some (.cells #[u8 0,u8 0] 5 (0,0)):=by rw [hW2];exact hnew W1 _
 have f3:W3.heap[W2.heap.size]?=some (.cells #[.slice pa la.length ca,.slice pb lb.length cb] 60 (0,0)):=by rw [hW3];exact hnew W2 _
 have s1:W1.heap.size=L+2:=by rw [hW1,World.size_alloc,sW]
 have s2:W2.heap.size=L+3:=by rw [hW2,World.size_alloc,s1]
 have s3:W3.heap.size=L+4:=by rw [hW3,World.size_alloc,s2]
 refine⟨⟨by decide,by decide,rfl⟩,[strV [120],strV [121]],rfl,?_⟩
 have hW1':W.alloc (.cells [strV [120],strV [121]].toArray 9)=W1:=hW1.symm
 rw [hW1']
 refine⟨⟨by decide,by decide,rfl⟩,[u8 0,u8 0],rfl,?_⟩
 have hW2':W1.alloc (.cells [u8 0,u8 0].toArray 5)=W2:=hW2.symm
 rw [hW2']
 refine⟨⟨by decide,by decide,rfl⟩,[.slice pa la.length ca,.slice pb lb.length cb],rfl,?_⟩
 have hW3':W2.alloc (.cells [.slice pa la.length ca,.slice pb lb.length cb].toArray 60)=W3:=hW3.symm
 rw [hW3']
 obtain⟨vs,hvs⟩:=nm (zb7 (twoP la lb) (some ⟨W.heap.size,0,none⟩) 2 (some ⟨W1.heap.size,0,none⟩) 2 (some ⟨W2.heap.size,0,none⟩) 2 none 0)
 refine⟨vs,by rw [hvs];rfl,?_⟩
 have hb12:=hb1.trans (hb2.mono hb1.size)
 have hbW3:Below W.heap.size W W3:=hb12.trans (hb3.mono (Nat.le_trans hb1.size hb2.size))
 have fL3:W3.heap[L]?=some (.cells cs 71 (0,0)):=zaa hbW3 fL
 have hlen:vs.length=10:=by rw [hvs];rfl
 have hone:vs.all Value.oneCell'=true:=by rw [hvs];rfl
 refine zar (v := .agg vs.toArray) (ttOk.get 71 _ rfl) fL3 hlen hcs hone ?_
 obtain⟨Y,hY⟩:=nm (W3.setRow L (Value.agg vs.toArray).cells)
 rw [← hY]
 have fY:Y.heap[L]?=some (.cells vs.toArray 71 (0,0)):=by rw [hY];exact zal fL3
 have oY:∀ k,k≠L→Y.heap[k]?=W3.heap[k]?:=fun k hk=>by rw [hY];exact zam hk
 have sY:Y.heap.size=W3.heap.size:=by rw [hY];simp
 have bY:Below w.heap.size w Y:=by rw [hY];exact zaj (hbW.trans (hbW3.mono hbW.size)) (by omega) _
 refine⟨vs,hlen,zab fY,⟨vs,rfl,?_⟩,bY⟩
 have g1:Y.heap[W.heap.size]?=some (.cells #[strV [120],strV [121]] 9 (0,0)):=(oY _ (by omega)).trans (zaa hb3 (zaa hb2 f1))
 have g2:Y.heap[W1.heap.size]?=some (.cells #[u8 0,u8 0] 5 (0,0)):=(oY _ (by omega)).trans (zaa hb3 f2)
 have g3:Y.heap[W2.heap.size]?=some (.cells #[.slice pa la.length ca,.slice pb lb.length cb] 60 (0,0)):=(oY _ (by omega)).trans f3
 have sY4:w.heap.size≤Y.heap.size:=bY.size
 have r3:RowB thrE Y.heap.size Y (some ⟨W2.heap.size,0,none⟩) [(la,pa,ca),(lb,pb,cb)] := .inr ⟨W2.heap.size,0,rfl,hlt g3,zab g3⟩
 have rows:∀ x∈[((la,pa,ca):ThrR),(lb,pb,cb)],RowB insE Y.heap.size Y x.2.1 x.1∧∀ a,x.2.1=some a→a.block<Y.heap.size:=by
  simp only [List.mem_cons,List.not_mem_nil,or_false,forall_eq_or_imp,forall_eq]
  exact⟨⟨(ha.below bY).mono sY4,fun a h=>Nat.lt_of_lt_of_le (hpa a h) sY4⟩,(hb.below bY).mono sY4,fun a h=>Nat.lt_of_lt_of_le (hpb a h) sY4⟩
 refine⟨⟨⟨by show 1≤_;decide,by show 2≤_;decide,fun s hs=>?_,by show 2≤_;decide,by show 2≤_;decide,fun l hl=>?_⟩,some ⟨W.heap.size,0,none⟩,2,some ⟨W1.heap.size,0,none⟩,2,some ⟨W2.heap.size,0,none⟩,2,none,0,hvs,?_,?_,?_,?_,?_⟩,?_,?_⟩
 ·have hs:s=[120]∨s=[121]:=by simpa [twoP] using hs
  rcases hs with rfl | rfl <;> decide
 ·have hl:l=la∨l=lb:=by simpa [twoP] using hl
  rcases hl with rfl | rfl <;> omega
 ·exact .inr ⟨W.heap.size,0,rfl,hlt g1,zab g1⟩
 ·exact .inr ⟨W1.heap.size,0,rfl,hlt g2,zab g2⟩
 ·exact⟨[(la,pa,ca),(lb,pb,cb)],rfl,r3,fun x hx=>(rows x hx).1⟩
 ·exact .mk none [] (by decide) 0 0 (.inl rfl) (fun _=>none) (fun _=>0) (fun i hi=>by simp at hi) (fun i hi=>by simp at hi)
 ·exact Nat.le_refl 2
 ·exact⟨some ⟨W2.heap.size,0,none⟩,2,by rw [hvs];rfl,[(la,pa,ca),(lb,pb,cb)],rfl,r3,rows⟩
 ·exact⟨some ⟨W1.heap.size,0,none⟩,2,by rw [hvs];rfl,.inr ⟨W1.heap.size,0,rfl,hlt g2,zab g2⟩⟩
end
theorem zgK (x:ExD) (q:Option Addr) (c:Nat) {i:Nat} (hi:i<32):(exC x q c)[295+i]?=some (u8 (x.regs i)):=by
 obtain⟨A,T,hA,hE⟩:=zlk x q c []
 have:=hE x.regs
 rw [List.append_nil] at this
 show (exC { x with regs:=x.regs } q c)[295+i]?=_
 rw [this,za8 hA,List.getElem?_append_left (by rw [zax];exact hi),zdR (n:=32) (fun i=>u8 (x.regs i)) hi]
section
variable {w:World} {B n:Nat} {pc:List Value} {p:Prg} {V:List UInt8} {a b:UInt8}
theorem zfx (l:List ExD) (x:ExD):zdl (l++[x]) a b=zdl l a b++if (decide (x.regs 0=a)&&decide (x.regs 8=b))=true then [x] else []:=by
 unfold zdl
 rw [List.filter_append,List.filter_cons,List.filter_nil]
theorem zgI (hB:B≤w.heap.size) (hP:PrgX B w pc p) (hG:GlobE w) (hQ:CandQ p n V 50) :
  Calls Tryz.prog 50 #[.agg pc.toArray,u8 a,u8 b] w fun e w'=>(∃ (xs:List exE3) (q:Option Addr) (c:Nat),e = .returned (.slice q xs.length c)∧xs.map (·.1)=zdl (zdd p V) a b∧SlR exE w' q xs∧∀ x∈xs,SlR evE w' x.2.1 x.1.ev)∧Below w.heap.size w w':=by
 refine zah (S:=sg 45) (sgOk _) (args:=[.agg pc.toArray,u8 a,u8 b]) (.c .p (.c .p (.c .p (.c .p .p)))) Tryz.func50 rfl rfl (Nat.le_of_ble_eq_true rfl) rfl ?_
 obtain⟨L,hL⟩:=nm (w.heap.size)
 have hpc:=hP.v.size
 refine⟨Unit,fun _=>⟨[(1,u8 a),(2,u8 b),(3,At0 L)],[]⟩,fun _ X=>X.heap[L]?=some (.cells pc.toArray 71 (0,0))∧Below w.heap.size w X,⟨(),⟨.cons rfl (.cons rfl (.cons (by rw [hL];rfl) .nil)),rfl⟩,by rw [hL];exact hnew w _,(Below.refl _ w).alloc (Nat.le_refl _) _⟩,?_⟩
 rintro _ X ⟨f0,hbX⟩
 refine⟨Unit,fun _=>⟨[(1,u8 a),(2,u8 b),(3,At0 L),(7,.slice none 0 0)],[]⟩,fun _ Y=>X=Y,⟨(),(cvE rfl rfl),rfl⟩,?_⟩
 rintro _ _ rfl
 have hXs:=hbX.size
 refine⟨List exE3×Option Addr×Nat,fun s=>⟨[(1,u8 a),(2,u8 b),(7,.slice none 0 0),(8,.slice s.2.1 s.1.length s.2.2)],[]⟩,fun s Y=>s.1.map (·.1)=zdd p V∧OwnS exE 34 X.heap.size Y s.2.1 s.2.2 s.1∧(∀ x∈s.1,OwnS evE 54 X.heap.size Y x.2.1 x.2.2 x.1.ev)∧Below w.heap.size w Y,?_,?_⟩
 ·refine⟨pc,hpc,zab f0,hlt f0,?_⟩
  refine Calls.mono (zo2 (Nat.le_trans hB hXs) (hP.below (hbX.mono hB)) (hG.below hbX) hQ) ?_
  rintro e Y ⟨⟨xs,q,c,rfl,h1,h2,h3⟩,hbY⟩
  exact⟨(xs,q,c),(cvE rfl rfl),h1,h2,h3,hbX.trans (hbY.mono hXs)⟩
 rintro⟨xs,q,c⟩ Y ⟨hxs,oX,hev,hbY⟩
 dsimp only at hxs oX hev ⊢
 obtain⟨D,hD⟩:=nm (Y.heap.size)
 have hxl:xs.length≤30000:=by
  have:=congrArg List.length hxs
  rw [List.length_map] at this
  have:=hQ.len
  omega
 refine⟨List exE3×Option Addr×Nat,fun s=>⟨[(7,.slice s.2.1 s.1.length s.2.2)],[]⟩,fun s Z=>s.1.map (·.1)=zdl (zdd p V) a b∧(∀ x∈s.1,x∈xs)∧OwnS exE 34 D Z s.2.1 s.2.2 s.1∧Below D Y Z,?_,?_⟩
 ·refine⟨Nat×List exE3×Option Addr×Nat,fun s=>⟨[(1,u8 a),(2,u8 b),(7,.slice s.2.2.1 s.2.1.length s.2.2.2),(17,.slice q xs.length c),(18,i64 xs.length),(19,i64 (s.1:Nat))],[]⟩,
   fun s Z=>s.1≤xs.length∧s.2.1.map (·.1)=zdl ((xs.take s.1).map (·.1)) a b∧(∀ x∈s.2.1,x∈xs)∧s.2.1.length≤s.1∧OwnS exE 34 D Z s.2.2.1 s.2.2.2 s.2.1∧Below D Y Z,fun s=>xs.length-s.1,(0,[],none,0),
   (cvE rfl rfl),⟨Nat.zero_le _,rfl,fun x hx=>(by cases hx),Nat.le_refl _,OwnS.nil,by rw [hD];exact Below.refl _ _⟩,?_⟩
  rintro⟨k,out,po,co⟩ Z ⟨hk,hout,hmem,hlo,oZ,hbZ⟩
  dsimp only at hk hout hmem hlo oZ ⊢
  have hZs:D≤Z.heap.size:=by have:=hbZ.size;omega
  refine biE (fun hc=>?_) fun hc=>?_
  ·have hc:(k:Int)<(xs.length:Int):=of_decide_eq_true hc
   have hkl:k<xs.length:=by omega
   obtain⟨bx,ox,hq,hbx,hat⟩:=oX.row.at hkl
   obtain⟨y,hy⟩:∃ y,xs[k]=y:=⟨_,rfl⟩
   have hym:y∈xs:=by rw [← hy];exact List.getElem_mem hkl
   have htk:(xs.take (k+1)).map (·.1)=(xs.take k).map (·.1)++[y.1]:=by rw [List.take_succ_eq_append_getElem hkl,hy,List.map_append];rfl
   have hatk:=hat k hkl
   rw [hy] at hatk
   have hatk:zay Y ⟨bx,ox+k*333,none⟩ (exC y.1 y.2.1 y.2.2):=hatk
   subst hq
   refine⟨k,rfl,hkl,?_⟩
   refine⟨exC y.1 y.2.1 y.2.2,zau _ _ _,zaA hbZ (by show bx<D;omega) hatk,by show bx<_;omega,?_⟩
   refine zap (X:=Z) (v := .agg (exC y.1 y.2.1 y.2.2).toArray) (ttOk.get 34 _ rfl) (zau _ _ _) zbn (zcM _ _ _) fun U hbU fU sU=>?_
   have fU:ExH U Z.heap.size y.1 y.2.1 y.2.2:=fU
   have oU:=oZ.below hbU
   have hbU2:=hbZ.trans (hbU.mono hZs)
   have hUs:D≤U.heap.size:=by omega
   have e0:(exC y.1 y.2.1 y.2.2)[295]?=some (u8 (y.1.regs 0)):=zgK y.1 y.2.1 y.2.2 (i:=0) (by decide)
   have e8:(exC y.1 y.2.1 y.2.2)[303]?=some (u8 (y.1.regs 8)):=zgK y.1 y.2.1 y.2.2 (i:=8) (by decide)
   have skip:(decide (y.1.regs 0=a)&&decide (y.1.regs 8=b))=false→(k+1≤xs.length∧out.map (·.1)=zdl ((xs.take (k+1)).map (·.1)) a b∧(∀ x∈out,x∈xs)∧out.length≤k+1∧OwnS exE 34 D U po co out∧Below D Y U):=fun h =>
    ⟨hkl,by rw [htk,zfx,h,hout];simp,hmem,by omega,oU,hbU2⟩
   refine⟨0,rfl,by decide,?_⟩
   refine⟨0,rfl,by decide,?_⟩
   refine⟨u8 (y.1.regs 0),zac (zab fU) e0,?_⟩
   refine biE (fun h1=>?_) fun h1=>?_
   ·have h1:y.1.regs 0=a:=za6.1 (of_decide_eq_true h1)
    refine⟨1,rfl,by decide,?_⟩
    refine⟨0,rfl,by decide,?_⟩
    refine⟨u8 (y.1.regs 8),zac (zab fU) e8,?_⟩
    refine biE (fun h2=>?_) fun h2=>?_
    ·have h2:y.1.regs 8=b:=za6.1 (of_decide_eq_true h2)
     have hp:(decide (y.1.regs 0=a)&&decide (y.1.regs 8=b))=true:=by rw [decide_eq_true h1,decide_eq_true h2];rfl
     refine⟨exC y.1 y.2.1 y.2.2,zau _ _ _,zab fU,hlt fU,?_⟩
     refine⟨⟨by decide,by decide,zbn⟩,exE.enc y,zch (zau _ _ _) zbn,?_⟩
     have hb2:Below U.heap.size U (U.alloc (.cells (exE.enc y).toArray 34)):=(Below.refl _ _).alloc (Nat.le_refl _) _
     have sb2:=hb2.size
     unfold opsE zcv
     show SatR _ _
     refine zbh Tryz.underlying61 (ttOk.get 34 _ rfl) rfl rfl zbn (oU.below hb2) (news:=[y]) rfl (zaX exE y) (by omega) (by show out.length+1≤_;omega) (by show (out.length+1)*2416≤_;omega) fun p' c' S oS gS hbS hat2=>?_
     refine⟨((k+1:Nat):Int),(zaf (by omega)).trans (by omega),?_⟩
     exact⟨(k+1,out++[y],p',c'),(cvE rfl rfl),⟨hkl,by rw [htk,zfx,if_pos hp,List.map_append,hout];rfl,fun x hx=>(by
      rcases List.mem_append.1 hx with h | h
      ·exact hmem x h
      ·rw [List.mem_singleton.1 h];exact hym),by rw [List.length_append];show _+1≤_;omega,oS,(hbU2.trans (hb2.mono hUs)).trans hbS⟩,by show xs.length-(k+1)<xs.length-k;omega⟩
    ·have h2:¬ y.1.regs 8=b:=fun e2=>(of_decide_eq_false h2) (by rw [e2])
     refine⟨((k+1:Nat):Int),(zaf (by omega)).trans (by omega),?_⟩
     exact⟨(k+1,out,po,co),(cvE rfl rfl),skip (by rw [decide_eq_false h2,Bool.and_false]),by show xs.length-(k+1)<xs.length-k;omega⟩
   ·have h1:¬ y.1.regs 0=a:=fun e2=>(of_decide_eq_false h1) (by rw [e2])
    refine brF ?_
    refine⟨((k+1:Nat):Int),(zaf (by omega)).trans (by omega),?_⟩
    exact⟨(k+1,out,po,co),(cvE rfl rfl),skip (by rw [decide_eq_false h1];rfl),by show xs.length-(k+1)<xs.length-k;omega⟩
  ·have hc:¬ (k:Int)<(xs.length:Int):=of_decide_eq_false hc
   obtain rfl:k=xs.length:=by omega
   rw [List.take_length,hxs] at hout
   exact⟨(out,po,co),(cvE rfl rfl),hout,hmem,oZ,hbZ⟩
 rintro⟨out,po,co⟩ Z ⟨hout,hmem,oZ,hbZ⟩
 dsimp only at hout hmem oZ ⊢
 have hwY:=hbY.size
 exact⟨⟨out,po,co,rfl,hout,oZ.row,fun x hx=>((hev x (hmem x hx)).below (hbZ.mono (by omega))).row⟩,hbY.trans (hbZ.mono (by omega))⟩
end
theorem zm3 (u:Nat):IntKind.u8.wrap (u:Int)=((UInt8.ofNat u).toNat:Int):=by
 have:=UInt8.toNat_ofNat' (n:=u)
 simp [IntKind.wrap,IntKind.bits,IntKind.signed] at this ⊢
 try omega
theorem zmL (d:Nat) (a b:Bool) (w:World):(Op.equalIn (d+1) 4 (.bool a) (.bool b)).run Tryz.prog w = .ok (decide (a=b)) w:=by
 simp only [Op.equalIn,Sem.run_bind,run_underlying Tryz.underlying4,Result.andThen_ok,Sem.run_pure]
 cases a <;> cases b <;> rfl
theorem zk6 (x y:Operand) (a b:Bool) (w:World):(do eqGuard .neq 4 x y (.bool a) (.bool b);binOp .neq 4 (.bool a) (.bool b)).run Tryz.prog w = .ok (.bool (!decide (a=b))) w:=by
 have h:(Op.equal 4 (.bool a) (.bool b)).run Tryz.prog w = .ok (decide (a=b)) w:=zmL 9999 a b w
 have h1:(eqGuard .neq 4 x y (.bool a) (.bool b)).run Tryz.prog w = .ok () w:=rfl
 rw [Sem.run_bind,h1]
 simp only [Result.andThen_ok,binOp,Sem.run_bind,h,Sem.run_pure]
section
variable {w:World} {c cw:Nat} {x:ExD} {q pw:Option Addr} {ws:List UInt8}
theorem zmh (h:zkC x ws=true) {i:Nat} (hi:i<ws.length):zhH (i+1) x=ws[i].toNat∧zf9 (i+1) x=decide (ws[i]=0):=by
 unfold zkC at h
 rw [List.all_eq_true] at h
 have:=h i (List.mem_range.2 hi)
 rw [Bool.and_eq_true,decide_eq_true_eq,beq_iff_eq,List.getD_eq_getElem?_getD,List.getElem?_eq_getElem hi] at this
 exact this
theorem ziH (hv:ExV w x q) (hT:Tz64M w) (hw:SlR zaK w pw ws) (hs:zkC x ws=true) (h6:ws.length≤6):Calls Tryz.prog 54 #[.agg (exC x q c).toArray,.slice pw ws.length cw] w fun e w'=>e = .returned (.bool true)∧Below w.heap.size w w':=by
 refine zah (S:=sg 32) (sgOk _) (args:=[.agg (exC x q c).toArray,.slice pw ws.length cw]) (.c .p (.c .p .p)) Tryz.func54 rfl rfl (Nat.le_of_ble_eq_true rfl) rfl ?_
 obtain⟨L,hL⟩:=nm (w.heap.size)
 refine⟨Unit,fun _=>⟨[(1,.slice pw ws.length cw),(2,At0 L)],[]⟩,fun _ X=>ExH X L x q c∧Below w.heap.size w X,⟨(),⟨.cons rfl (.cons (by rw [hL];rfl) .nil),rfl⟩,by rw [hL];exact hnew w _,(Below.refl _ w).alloc (Nat.le_refl _) _⟩,?_⟩
 rintro _ X ⟨fX,hbX⟩
 refine⟨Unit,fun _=>⟨[],[]⟩,fun _ Y=>Below w.heap.size w Y,?_,?_⟩
 ·refine⟨Nat,fun k=>⟨[(2,At0 L),(7,.slice pw ws.length cw),(8,i64 ws.length),(9,i64 (k:Nat))],[]⟩,fun k Y=>k≤ws.length∧ExH Y L x q c∧Below w.heap.size w Y,fun k=>ws.length-k,0,
   (cvE rfl rfl),⟨Nat.zero_le _,fX,hbX⟩,?_⟩
  clear fX hbX
  rintro k Y ⟨hk,fY,hbY⟩
  dsimp only
  refine biE (fun hc=>?_) fun hc=>?_
  ·have hc:(k:Int)<(ws.length:Int):=of_decide_eq_true hc
   have hkl:k<ws.length:=by omega
   obtain⟨h1,h2⟩:=zmh hs hkl
   obtain⟨bw,ow,hq,hbw,hat⟩:=(hw.below hbY).at hkl
   obtain⟨v,hv2⟩:∃ v,ws[k]=v:=⟨_,rfl⟩
   have hatk:=hat k hkl
   rw [hv2] at hatk h1 h2
   have hm:(UInt8.ofNat (k+1)).toNat=k+1:=by
    rw [UInt8.toNat_ofNat']
    exact Nat.mod_eq_of_lt (by omega)
   subst hq
   refine⟨k,rfl,hkl,?_⟩
   refine⟨u8 v,by have:=zac hatk (i:=0) (v:=u8 v) rfl;exact this,?_⟩
   refine⟨((k+1:Nat):Int),(zaf (by omega)).trans (by omega),?_⟩
   refine⟨((UInt8.ofNat (k+1)).toNat:Int),zm3 _,?_⟩
   refine⟨exC x q c,zau _ _ _,zab fY,hlt fY,?_⟩
   refine Calls.mono (zm1 (m:=UInt8.ofNat (k+1)) (hv.below hbY) (hT.below hbY)) ?_
   rintro e Z ⟨rfl,hbZ⟩
   rw [hm,h1]
   have bZ:=hbY.trans (hbZ.mono hbY.size)
   have fZ:=zaa hbZ fY
   have hvv:UInt8.ofNat v.toNat=v:=UInt8.ofNat_toNat
   rw [hvv]
   refine biE (fun h=>?_) fun _=>?_
   ·have h:(!decide ((v.toNat:Int)=(v.toNat:Int)))=true:=h
    rw [decide_eq_true rfl] at h
    cases h
   refine⟨((k+1:Nat):Int),(zaf (by omega)).trans (by omega),?_⟩
   refine⟨((UInt8.ofNat (k+1)).toNat:Int),zm3 _,?_⟩
   refine⟨exC x q c,zau _ _ _,zab fZ,hlt fZ,?_⟩
   refine Calls.mono (zo0 (m:=UInt8.ofNat (k+1)) (hv.below bZ) (hT.below bZ)) ?_
   rintro e V ⟨rfl,hbV⟩
   rw [hm,h2]
   have e0:decide (v=0)=decide ((v.toNat:Int)=0):=decide_eq_decide.2 (za6 (x:=v) (y:=0)).symm
   rw [e0]
   refine⟨_,fun w=>zk6 _ _ _ _ w,?_⟩
   refine biE (fun h=>?_) fun _=>?_
   ·have h:(!decide (decide ((v.toNat:Int)=0)=decide ((v.toNat:Int)=0)))=true:=h
    rw [decide_eq_true rfl] at h
    cases h
   refine⟨((k+1:Nat):Int),(zaf (by omega)).trans (by omega),?_⟩
   exact⟨k+1,(cvE rfl rfl),⟨hkl,zaa hbV fZ,bZ.trans (hbV.mono bZ.size)⟩,by show ws.length-(k+1)<ws.length-k;omega⟩
  ·exact⟨(),⟨.nil,rfl⟩,hbY⟩
 rintro _ Y hbY
 exact⟨rfl,hbY⟩
theorem zqw {n:Nat} {cs:List Value} (hcs:cs.length=333) (h0:cs[0]?=some (.slice q n c)):Calls Tryz.prog 12 #[.agg cs.toArray] w fun e w'=>e = .returned (.bool (decide (n≤16)))∧Below w.heap.size w w':=by
 refine zae (S:=sg 7) (sgOk _) (args:=[.agg cs.toArray]) Tryz.func12 rfl rfl (Nat.le_of_ble_eq_true rfl) rfl ?_
 have f:=hnew w (.cells cs.toArray 34)
 have hb:Below w.heap.size w (w.alloc (.cells cs.toArray 34)):=(Below.refl _ w).alloc (Nat.le_refl _) _
 refine⟨.slice q n c,zac (zab f) (i:=0) h0,?_⟩
 exact⟨rb (decide_eq_decide.2 (by show (n:Int)≤16↔_;omega)),hb⟩
end
structure FndV (X:World) (F:List ExD) (xs:List exE3) (q:Option Addr):Prop where
 e:xs.map (·.1)=F
 row:SlR exE X q xs
 ev:∀ x∈xs,SlR evE X x.2.1 x.1.ev
theorem FndV.below {X Y:World} {F:List ExD} {xs:List exE3} {q:Option Addr} (h:FndV X F xs q) (hb:Below X.heap.size X Y):FndV Y F xs q:=⟨h.e,h.row.below hb,fun x hx=>(h.ev x hx).below hb⟩
theorem zeh {r:RelD} (h:wrdB r=true):WrdR r.to:=by
 unfold wrdB at h
 rw [List.all_eq_true] at h
 exact fun i hi=>of_decide_eq_true (h i (List.mem_range.2 hi))
theorem zof {X:World} {x:ExD} {q:Option Addr} (h:exvB x=true) (he:SlR evE X q x.ev):ExV X x q:=by
 unfold exvB at h
 simp only [Bool.and_eq_true,decide_eq_true_eq] at h
 obtain⟨h1,h2,h3,h4,h5,h6,h7⟩:=h
 exact⟨he,h1,zeh h2,zeh h3,zeh h4,zeh h5,zeh h6,zeh h7⟩
theorem FndV.at {X:World} {F:List ExD} {xs:List exE3} {q:Option Addr} {i n:Nat} {want:List UInt8} (h:FndV X F xs q) (hs:zfW F i n want=true) (hi:i<n):xs.length=n∧∃ (b o:Nat) (y:exE3),q=some ⟨b,o,none⟩∧b<X.heap.size∧zay X ⟨b,o+i*333,none⟩ (exC y.1 y.2.1 y.2.2)∧ExV X y.1 y.2.1∧zkC y.1 want=true∧y.1=F.getD i (ex0 0):=by
 unfold zfW at hs
 rw [Bool.and_eq_true,Bool.and_eq_true,decide_eq_true_eq] at hs
 have hl:xs.length=n:=by
  have:=congrArg List.length h.e
  rw [List.length_map] at this
  omega
 have hix:i<xs.length:=by omega
 obtain⟨b,o,hq,hb,hat⟩:=h.row.at hix
 obtain⟨y,hy⟩:∃ y,xs[i]=y:=⟨_,rfl⟩
 have hym:y∈xs:=by rw [← hy];exact List.getElem_mem hix
 have hF:y.1=F.getD i (ex0 0):=by
  rw [← h.e,List.getD_eq_getElem?_getD,List.getElem?_map,List.getElem?_eq_getElem hix,hy];rfl
 have hF2:y.1∈F:=by
  rw [← h.e]
  exact List.mem_map_of_mem hym
 have hatk:=hat i hix
 rw [hy] at hatk
 exact⟨hl,b,o,y,hq,hb,hatk,zof (List.all_eq_true.1 hs.2.1 _ hF2) (h.ev y hym),by rw [hF];exact hs.2.2,hF⟩
theorem zdJ {W:World} {g:Nat} {cs:List Value} {l:List InsD} (h:W.heap[g]?=some (.cells cs.toArray 59 (0,0))) (hc:cs=l.flatMap insE.enc):RowB insE W.heap.size W (some ⟨g,0,none⟩) l :=
 .inr ⟨g,0,rfl,hlt h,by rw [← hc];exact zab h⟩
theorem zlP {w:World} (hG:GlobE w):Calls Tryz.prog 13 #[] w fun e w'=>e = .returned (.bool true)∧Below w.heap.size w w':=by
 refine zah (S:=sg 98) (sgOk _) (args:=[]) (.s .p (.c .p (.c .p (.c .p (.c .p (.c .p (.c .p .p))))))) Tryz.func13 rfl rfl (Nat.le_of_ble_eq_true rfl) rfl ?_
 refine⟨List exE3×Option Addr×Nat,fun s=>⟨[(1,.slice s.2.1 s.1.length s.2.2)],[]⟩,fun s X=>FndV X sbF s.1 s.2.1∧Below w.heap.size w X,?_,?_⟩
 ·have b0:=(Below.refl w.heap.size w)
  refine Calls.mono (st_c (l:=0) (v:=1) (m:=0)) ?_
  rintro e V1 ⟨rfl,hv1⟩
  have b1:=b0.trans (hv1.mono b0.size)
  refine Calls.mono (ld_c (d:=0) (l:=1) (m:=0)) ?_
  rintro e V2 ⟨rfl,hv2⟩
  have b2:=b1.trans (hv2.mono b1.size)
  refine⟨⟨by decide,by decide,rfl⟩,insE.enc (stI 0 1 0)++insE.enc (ldI 0 1 0),by kernel_rfl,?_⟩
  obtain⟨V3,e3⟩:=nm (V2.alloc (.cells (insE.enc (stI 0 1 0)++insE.enc (ldI 0 1 0)).toArray 59))
  have hv3:Below V2.heap.size V2 V3:=by rw [e3];exact (Below.refl _ _).alloc (Nat.le_refl _) _
  have f3:V3.heap[V2.heap.size]?=some (.cells (insE.enc (stI 0 1 0)++insE.enc (ldI 0 1 0)).toArray 59 (0,0)):=by rw [e3];exact hnew _ _
  rw [← e3]
  have b3:=b2.trans (hv3.mono b2.size)
  refine Calls.mono (st_c (l:=1) (v:=1) (m:=0)) ?_
  rintro e V4 ⟨rfl,hv4⟩
  have b4:=b3.trans (hv4.mono b3.size)
  refine Calls.mono (ld_c (d:=0) (l:=0) (m:=0)) ?_
  rintro e V5 ⟨rfl,hv5⟩
  have b5:=b4.trans (hv5.mono b4.size)
  refine⟨⟨by decide,by decide,rfl⟩,insE.enc (stI 1 1 0)++insE.enc (ldI 0 0 0),by kernel_rfl,?_⟩
  obtain⟨V6,e6⟩:=nm (V5.alloc (.cells (insE.enc (stI 1 1 0)++insE.enc (ldI 0 0 0)).toArray 59))
  have hv6:Below V5.heap.size V5 V6:=by rw [e6];exact (Below.refl _ _).alloc (Nat.le_refl _) _
  have f6:V6.heap[V5.heap.size]?=some (.cells (insE.enc (stI 1 1 0)++insE.enc (ldI 0 0 0)).toArray 59 (0,0)):=by rw [e6];exact hnew _ _
  rw [← e6]
  have b6:=b5.trans (hv6.mono b5.size)
  refine Calls.mono (zl8 (la:=[stI 0 1 0,ldI 0 1 0]) (lb:=[stI 1 1 0,ldI 0 0 0]) (zdJ (zaa hv6 (zaa hv5 (zaa hv4 (f3)))) (l:=[stI 0 1 0,ldI 0 1 0]) rfl) (zdJ (f6) (l:=[stI 1 1 0,ldI 0 0 0]) rfl) (Nat.le_of_ble_eq_true rfl) (Nat.le_of_ble_eq_true rfl) (fun a h=>by cases h;exact hlt (zaa hv6 (zaa hv5 (zaa hv4 (f3))))) (fun a h=>by cases h;exact hlt (f6))) ?_
  rintro e V7 ⟨⟨vs,rfl,hP⟩,hv7⟩
  have b7:=b6.trans (hv7.mono b6.size)
  refine Calls.mono (zgI (p:=sbP) (n:=5) (V:=[0,1]) (a:=0) (b:=0) (Nat.le_refl _) hP (hG.below b7) (ze2 sb_q)) ?_
  rintro e V8 ⟨⟨xs,q,c,rfl,h1,h2,h3⟩,hv8⟩
  have b8:=b7.trans (hv8.mono b7.size)
  exact⟨(xs,q,c),(cvE rfl rfl),⟨h1,h2,h3⟩,b8⟩
 rintro s1 W1 ⟨g1,hb1⟩
 refine⟨List exE3×Option Addr×Nat,fun s=>⟨[(1,.slice s1.2.1 s1.1.length s1.2.2),(2,.slice s.2.1 s.1.length s.2.2)],[]⟩,fun s X=>FndV X mpF s.1 s.2.1∧FndV X sbF s1.1 s1.2.1∧Below w.heap.size w X,?_,?_⟩
 ·have b0:=hb1
  refine Calls.mono (st_c (l:=0) (v:=1) (m:=0)) ?_
  rintro e V1 ⟨rfl,hv1⟩
  have b1:=b0.trans (hv1.mono b0.size)
  refine Calls.mono (st_c (l:=1) (v:=1) (m:=0)) ?_
  rintro e V2 ⟨rfl,hv2⟩
  have b2:=b1.trans (hv2.mono b1.size)
  refine⟨⟨by decide,by decide,rfl⟩,insE.enc (stI 0 1 0)++insE.enc (stI 1 1 0),by kernel_rfl,?_⟩
  obtain⟨V3,e3⟩:=nm (V2.alloc (.cells (insE.enc (stI 0 1 0)++insE.enc (stI 1 1 0)).toArray 59))
  have hv3:Below V2.heap.size V2 V3:=by rw [e3];exact (Below.refl _ _).alloc (Nat.le_refl _) _
  have f3:V3.heap[V2.heap.size]?=some (.cells (insE.enc (stI 0 1 0)++insE.enc (stI 1 1 0)).toArray 59 (0,0)):=by rw [e3];exact hnew _ _
  rw [← e3]
  have b3:=b2.trans (hv3.mono b2.size)
  refine Calls.mono (ld_c (d:=1) (l:=1) (m:=0)) ?_
  rintro e V4 ⟨rfl,hv4⟩
  have b4:=b3.trans (hv4.mono b3.size)
  refine Calls.mono (ld_c (d:=0) (l:=0) (m:=0)) ?_
  rintro e V5 ⟨rfl,hv5⟩
  have b5:=b4.trans (hv5.mono b4.size)
  refine⟨⟨by decide,by decide,rfl⟩,insE.enc (ldI 1 1 0)++insE.enc (ldI 0 0 0),by kernel_rfl,?_⟩
  obtain⟨V6,e6⟩:=nm (V5.alloc (.cells (insE.enc (ldI 1 1 0)++insE.enc (ldI 0 0 0)).toArray 59))
  have hv6:Below V5.heap.size V5 V6:=by rw [e6];exact (Below.refl _ _).alloc (Nat.le_refl _) _
  have f6:V6.heap[V5.heap.size]?=some (.cells (insE.enc (ldI 1 1 0)++insE.enc (ldI 0 0 0)).toArray 59 (0,0)):=by rw [e6];exact hnew _ _
  rw [← e6]
  have b6:=b5.trans (hv6.mono b5.size)
  refine Calls.mono (zl8 (la:=[stI 0 1 0,stI 1 1 0]) (lb:=[ldI 1 1 0,ldI 0 0 0]) (zdJ (zaa hv6 (zaa hv5 (zaa hv4 (f3)))) (l:=[stI 0 1 0,stI 1 1 0]) rfl) (zdJ (f6) (l:=[ldI 1 1 0,ldI 0 0 0]) rfl) (Nat.le_of_ble_eq_true rfl) (Nat.le_of_ble_eq_true rfl) (fun a h=>by cases h;exact hlt (zaa hv6 (zaa hv5 (zaa hv4 (f3))))) (fun a h=>by cases h;exact hlt (f6))) ?_
  rintro e V7 ⟨⟨vs,rfl,hP⟩,hv7⟩
  have b7:=b6.trans (hv7.mono b6.size)
  refine Calls.mono (zgI (p:=mpP) (n:=5) (V:=[0,1]) (a:=0) (b:=0) (Nat.le_refl _) hP (hG.below b7) (ze2 mp_q)) ?_
  rintro e V8 ⟨⟨xs,q,c,rfl,h1,h2,h3⟩,hv8⟩
  have b8:=b7.trans (hv8.mono b7.size)
  have bt:Below W1.heap.size W1 V8:=by
   have c1:=hv1
   have c2:=c1.trans (hv2.mono c1.size)
   have c3:=c2.trans (hv3.mono c2.size)
   have c4:=c3.trans (hv4.mono c3.size)
   have c5:=c4.trans (hv5.mono c4.size)
   have c6:=c5.trans (hv6.mono c5.size)
   have c7:=c6.trans (hv7.mono c6.size)
   have c8:=c7.trans (hv8.mono c7.size)
   exact c8
  exact⟨(xs,q,c),(cvE rfl rfl),⟨h1,h2,h3⟩,g1.below bt,b8⟩
 rintro s2 W2 ⟨g2,g1,hb2⟩
 refine⟨List exE3×Option Addr×Nat,fun s=>⟨[(1,.slice s1.2.1 s1.1.length s1.2.2),(2,.slice s2.2.1 s2.1.length s2.2.2),(3,.slice s.2.1 s.1.length s.2.2)],[]⟩,fun s X=>FndV X raF s.1 s.2.1∧FndV X sbF s1.1 s1.2.1∧FndV X mpF s2.1 s2.2.1∧Below w.heap.size w X,?_,?_⟩
 ·have b0:=hb2
  refine Calls.mono (st_c (l:=0) (v:=1) (m:=0)) ?_
  rintro e V1 ⟨rfl,hv1⟩
  have b1:=b0.trans (hv1.mono b0.size)
  refine Calls.mono (st_c (l:=1) (v:=1) (m:=2)) ?_
  rintro e V2 ⟨rfl,hv2⟩
  have b2:=b1.trans (hv2.mono b1.size)
  refine⟨⟨by decide,by decide,rfl⟩,insE.enc (stI 0 1 0)++insE.enc (stI 1 1 2),by kernel_rfl,?_⟩
  obtain⟨V3,e3⟩:=nm (V2.alloc (.cells (insE.enc (stI 0 1 0)++insE.enc (stI 1 1 2)).toArray 59))
  have hv3:Below V2.heap.size V2 V3:=by rw [e3];exact (Below.refl _ _).alloc (Nat.le_refl _) _
  have f3:V3.heap[V2.heap.size]?=some (.cells (insE.enc (stI 0 1 0)++insE.enc (stI 1 1 2)).toArray 59 (0,0)):=by rw [e3];exact hnew _ _
  rw [← e3]
  have b3:=b2.trans (hv3.mono b2.size)
  refine Calls.mono (ld_c (d:=1) (l:=1) (m:=1)) ?_
  rintro e V4 ⟨rfl,hv4⟩
  have b4:=b3.trans (hv4.mono b3.size)
  refine Calls.mono (ld_c (d:=0) (l:=0) (m:=0)) ?_
  rintro e V5 ⟨rfl,hv5⟩
  have b5:=b4.trans (hv5.mono b4.size)
  refine⟨⟨by decide,by decide,rfl⟩,insE.enc (ldI 1 1 1)++insE.enc (ldI 0 0 0),by kernel_rfl,?_⟩
  obtain⟨V6,e6⟩:=nm (V5.alloc (.cells (insE.enc (ldI 1 1 1)++insE.enc (ldI 0 0 0)).toArray 59))
  have hv6:Below V5.heap.size V5 V6:=by rw [e6];exact (Below.refl _ _).alloc (Nat.le_refl _) _
  have f6:V6.heap[V5.heap.size]?=some (.cells (insE.enc (ldI 1 1 1)++insE.enc (ldI 0 0 0)).toArray 59 (0,0)):=by rw [e6];exact hnew _ _
  rw [← e6]
  have b6:=b5.trans (hv6.mono b5.size)
  refine Calls.mono (zl8 (la:=[stI 0 1 0,stI 1 1 2]) (lb:=[ldI 1 1 1,ldI 0 0 0]) (zdJ (zaa hv6 (zaa hv5 (zaa hv4 (f3)))) (l:=[stI 0 1 0,stI 1 1 2]) rfl) (zdJ (f6) (l:=[ldI 1 1 1,ldI 0 0 0]) rfl) (Nat.le_of_ble_eq_true rfl) (Nat.le_of_ble_eq_true rfl) (fun a h=>by cases h;exact hlt (zaa hv6 (zaa hv5 (zaa hv4 (f3))))) (fun a h=>by cases h;exact hlt (f6))) ?_
  rintro e V7 ⟨⟨vs,rfl,hP⟩,hv7⟩
  have b7:=b6.trans (hv7.mono b6.size)
  refine Calls.mono (zgI (p:=raP) (n:=5) (V:=[0,1]) (a:=0) (b:=0) (Nat.le_refl _) hP (hG.below b7) (ze2 ra_q)) ?_
  rintro e V8 ⟨⟨xs,q,c,rfl,h1,h2,h3⟩,hv8⟩
  have b8:=b7.trans (hv8.mono b7.size)
  have bt:Below W2.heap.size W2 V8:=by
   have c1:=hv1
   have c2:=c1.trans (hv2.mono c1.size)
   have c3:=c2.trans (hv3.mono c2.size)
   have c4:=c3.trans (hv4.mono c3.size)
   have c5:=c4.trans (hv5.mono c4.size)
   have c6:=c5.trans (hv6.mono c5.size)
   have c7:=c6.trans (hv7.mono c6.size)
   have c8:=c7.trans (hv8.mono c7.size)
   exact c8
  exact⟨(xs,q,c),(cvE rfl rfl),⟨h1,h2,h3⟩,g1.below bt,g2.below bt,b8⟩
 rintro s3 W3 ⟨g3,g1,g2,hb3⟩
 refine⟨List exE3×Option Addr×Nat,fun s=>⟨[(1,.slice s1.2.1 s1.1.length s1.2.2),(2,.slice s2.2.1 s2.1.length s2.2.2),(3,.slice s3.2.1 s3.1.length s3.2.2),(4,.slice s.2.1 s.1.length s.2.2)],[]⟩,fun s X=>FndV X coF s.1 s.2.1∧FndV X sbF s1.1 s1.2.1∧FndV X mpF s2.1 s2.2.1∧FndV X raF s3.1 s3.2.1∧Below w.heap.size w X,?_,?_⟩
 ·have b0:=hb3
  refine Calls.mono (st_c (l:=0) (v:=1) (m:=0)) ?_
  rintro e V1 ⟨rfl,hv1⟩
  have b1:=b0.trans (hv1.mono b0.size)
  refine Calls.mono (ld_c (d:=0) (l:=0) (m:=0)) ?_
  rintro e V2 ⟨rfl,hv2⟩
  have b2:=b1.trans (hv2.mono b1.size)
  refine⟨⟨by decide,by decide,rfl⟩,insE.enc (stI 0 1 0)++insE.enc (ldI 0 0 0),by kernel_rfl,?_⟩
  obtain⟨V3,e3⟩:=nm (V2.alloc (.cells (insE.enc (stI 0 1 0)++insE.enc (ldI 0 0 0)).toArray 59))
  have hv3:Below V2.heap.size V2 V3:=by rw [e3];exact (Below.refl _ _).alloc (Nat.le_refl _) _
  have f3:V3.heap[V2.heap.size]?=some (.cells (insE.enc (stI 0 1 0)++insE.enc (ldI 0 0 0)).toArray 59 (0,0)):=by rw [e3];exact hnew _ _
  rw [← e3]
  have b3:=b2.trans (hv3.mono b2.size)
  refine Calls.mono (zl8 (la:=[stI 0 1 0,ldI 0 0 0]) (lb:=[]) (zdJ (f3) (l:=[stI 0 1 0,ldI 0 0 0]) rfl) (.inl rfl) (Nat.le_of_ble_eq_true rfl) (Nat.le_of_ble_eq_true rfl) (fun a h=>by cases h;exact hlt (f3)) (fun a h=>by cases h)) ?_
  rintro e V4 ⟨⟨vs,rfl,hP⟩,hv4⟩
  have b4:=b3.trans (hv4.mono b3.size)
  refine Calls.mono (zgI (p:=coP) (n:=5) (V:=[0,1]) (a:=0) (b:=0) (Nat.le_refl _) hP (hG.below b4) (ze2 co_q)) ?_
  rintro e V5 ⟨⟨xs,q,c,rfl,h1,h2,h3⟩,hv5⟩
  have b5:=b4.trans (hv5.mono b4.size)
  have bt:Below W3.heap.size W3 V5:=by
   have c1:=hv1
   have c2:=c1.trans (hv2.mono c1.size)
   have c3:=c2.trans (hv3.mono c2.size)
   have c4:=c3.trans (hv4.mono c3.size)
   have c5:=c4.trans (hv5.mono c4.size)
   exact c5
  exact⟨(xs,q,c),(cvE rfl rfl),⟨h1,h2,h3⟩,g1.below bt,g2.below bt,g3.below bt,b5⟩
 rintro s4 W4 ⟨g4,g1,g2,g3,hb4⟩
 obtain⟨l1,n1,o1,y1,q1,d1,at1,v1,say1,_⟩:=g1.at znD (by decide)
 obtain⟨l2,n2,o2,y2,q2,d2,at2,v2,say2,r2⟩:=g2.at znZ (by decide)
 obtain⟨l3,n3,o3,y3,q3,d3,at3,v3,say3,r3⟩:=g3.at znQ (by decide)
 obtain⟨l4,n4,o4,y4,q4,d4,at4,v4,say4,_⟩:=g4.at zoC (by decide)
 have hTW:=hG.t64.below hb4
 have rg2:y2.1.regs 9=1:=by rw [r2];exact zpo
 have rg3:y3.1.regs 9=1:=by rw [r3];exact zpe
 have i2:1<s2.1.length:=by omega
 have i3:1<s3.1.length:=by omega
 have i1:0<s1.1.length:=by omega
 have i4:0<s4.1.length:=by omega
 obtain⟨xs1,p1,c1⟩:=s1
 obtain⟨xs2,p2,c2⟩:=s2
 obtain⟨xs3,p3,c3⟩:=s3
 obtain⟨xs4,p4,c4⟩:=s4
 dsimp only at l1 l2 l3 l4 i1 i2 i3 i4 q1 q2 q3 q4 ⊢
 subst q1 q2 q3 q4
 have no:∀ {n m:Nat},n=m→(!decide ((n:Int)=(m:Int)))=false:=fun {n m} h=>by rw [h,decide_eq_true rfl];rfl
 refine⟨Unit,fun _=>⟨[(1,.slice (some ⟨n1,o1,none⟩) xs1.length c1),(2,.slice (some ⟨n2,o2,none⟩) xs2.length c2),(3,.slice (some ⟨n3,o3,none⟩) xs3.length c3),(4,.slice (some ⟨n4,o4,none⟩) xs4.length c4)],[]⟩,fun _ X=>W4=X,?_,?_⟩
 ·refine brN (no (m:=1) l1) ?_
  refine brN (no (m:=2) l2) ?_
  refine brN (no (m:=2) l3) ?_
  refine brN (no (m:=1) l4) ?_
  exact⟨(),(cvE rfl rfl),rfl⟩
 rintro _ _ rfl
 obtain⟨X0,hX0⟩:∃ X0:Value,X0 = .agg (zt34).toArray:=⟨_,rfl⟩
 refine⟨Nat×Nat,fun s=>⟨[(1,.slice (some ⟨n1,o1,none⟩) xs1.length c1),(4,.slice (some ⟨n4,o4,none⟩) xs4.length c4),(5,At0 s.1),(6,At0 s.2)],[]⟩,fun s X=>ExH X s.1 y2.1 y2.2.1 y2.2.2∧ExH X s.2 y3.1 y3.2.1 y3.2.2∧Below W4.heap.size W4 X,?_,?_⟩
 ·have dW:Below W4.heap.size W4 W4.drew:=(Below.refl _ _).drew
  have zex:Obj.cells (zt34).toArray 34=Obj.cells (zt34).toArray 34:=rfl
  have two:∀ {W:World},Below W4.heap.size W4 W→Below W4.heap.size W4 ((W.alloc (.cells (zt34).toArray 34)).alloc (.cells (zt34).toArray 34))∧((W.alloc (.cells (zt34).toArray 34)).alloc (.cells (zt34).toArray 34)).heap[W.heap.size]?=some (.cells (zt34).toArray 34 (0,0))∧((W.alloc (.cells (zt34).toArray 34)).alloc (.cells (zt34).toArray 34)).heap[(W.alloc (.cells (zt34).toArray 34)).heap.size]?=some (.cells (zt34).toArray 34 (0,0))∧W.heap.size<(W.alloc (.cells (zt34).toArray 34)).heap.size:=fun {W} hW=>by
   have b1:=hW.alloc hW.size (.cells (zt34).toArray 34)
   exact⟨b1.alloc b1.size _,hold _ (hnew W _),hnew _ _,by rw [World.size_alloc];omega⟩
  have s8:∀ {W:World} {bx bv:Nat},Below W4.heap.size W4 W→W.heap[bx]?=some (.cells (zt34).toArray 34 (0,0))→W.heap[bv]?=some (.cells (zt34).toArray 34 (0,0))→bx≠bv→W4.heap.size≤bx→∀ {K:World→Prop},(∀ D,(Below W4.heap.size W4 D∧ExH D bx y2.1 y2.2.1 y2.2.2∧D.heap[bv]?=some (.cells (zt34).toArray 34 (0,0)))→K D)→SatR ((storeVar 34 ⟨bx,0,none⟩ (.agg (exC y2.1 y2.2.1 y2.2.2).toArray)).run Tryz.prog W) fun _ w'=>K w':=fun {W bx bv} hW fx fy hne hx {K} k =>
   zar (v := .agg (exC y2.1 y2.2.1 y2.2.2).toArray) (ttOk.get 34 _ rfl) fx (zau _ _ _) zbn (zcM _ _ _) (k _ ⟨zaj hW hx _,zal fx,(zam (fun e=>hne e.symm)).trans fy⟩)
  have s9:∀ {W:World} {bx bv:Nat},(Below W4.heap.size W4 W∧ExH W bx y2.1 y2.2.1 y2.2.2∧W.heap[bv]?=some (.cells (zt34).toArray 34 (0,0)))→bx≠bv→W4.heap.size≤bv→∀ {K:World→Prop},(∀ D,(ExH D bx y2.1 y2.2.1 y2.2.2∧ExH D bv y3.1 y3.2.1 y3.2.2∧Below W4.heap.size W4 D)→K D)→SatR ((storeVar 34 ⟨bv,0,none⟩ (.agg (exC y3.1 y3.2.1 y3.2.2).toArray)).run Tryz.prog W) fun _ w'=>K w':=fun {W bx bv} h hne hx {K} k =>
   zar (v := .agg (exC y3.1 y3.2.1 y3.2.2).toArray) (ttOk.get 34 _ rfl) h.2.2 (zau _ _ _) zbn (zcM _ _ _) (k _ ⟨(zam hne).trans h.2.1,zal h.2.2,zaj h.1 hx _⟩)
  have hba:∀ (A:World) (o:Obj),Below A.heap.size A (A.alloc o):=fun A o=>(Below.refl _ _).alloc (Nat.le_refl _) _
  refine DrawE.treeR [8,9] (.op 0 (.op 1 (.op 2 (.op 3 (.op 4 (.alt (.op 6 (.alt (.op 7 (.alt (.op 8 (.op 5 (.op 9 .nil))) (.op 5 (.op 8 (.op 9 .nil))))) (.op 5 (.op 7 (.op 8 (.op 9 .nil)))))) (.alt (.op 7 (.alt (.op 6 (.alt (.op 8 (.op 5 (.op 9 .nil))) (.op 5 (.op 8 (.op 9 .nil))))) (.op 5 (.op 6 (.op 8 (.op 9 .nil)))))) (.op 5 (.alt (.op 6 (.op 7 (.op 8 (.op 9 .nil)))) (.op 7 (.op 6 (.op 8 (.op 9 .nil))))))))))))) (by kernel_rfl) ?_
  refine⟨1,rfl,i2,?_⟩
  refine⟨exC y2.1 y2.2.1 y2.2.2,zau _ _ _,zaA dW d2 at2,d2,?_⟩
  refine⟨1,rfl,i3,?_⟩
  obtain⟨U,hU⟩:=nm (W4.drew)
  have bU:Below W4.heap.size W4 U:=by rw [hU];exact dW
  obtain⟨t1,t2,t3,t4⟩:=two bU
  have sU:=bU.size
  rw [← hU]
  refine And.intro ?_ ?_
  ·refine⟨hba _ _,?_⟩
   refine And.intro ?_ ?_
   ·refine⟨hba _ _,?_⟩
    refine And.intro ?_ ?_
    ·refine s8 t1 t2 t3 (by omega) (by omega) fun D hD=>?_
     refine⟨exC y3.1 y3.2.1 y3.2.2,zau _ _ _,zaA hD.1 d3 at3,Nat.lt_of_lt_of_le d3 (Below.size hD.1),?_⟩
     refine s9 hD (by omega) (by omega) fun F hF=>?_
     exact⟨(_,_),(cvE rfl rfl),hF⟩
    ·refine⟨exC y3.1 y3.2.1 y3.2.2,zau _ _ _,zaA t1 d3 at3,Nat.lt_of_lt_of_le d3 (Below.size t1),?_⟩
     refine s8 t1 t2 t3 (by omega) (by omega) fun D hD=>?_
     refine s9 hD (by omega) (by omega) fun F hF=>?_
     exact⟨(_,_),(cvE rfl rfl),hF⟩
   ·refine⟨exC y3.1 y3.2.1 y3.2.2,zau _ _ _,zaA (bU.alloc sU _) d3 at3,Nat.lt_of_lt_of_le d3 (Below.size (bU.alloc sU _)),?_⟩
    refine⟨hba _ _,?_⟩
    refine s8 t1 t2 t3 (by omega) (by omega) fun D hD=>?_
    refine s9 hD (by omega) (by omega) fun F hF=>?_
    exact⟨(_,_),(cvE rfl rfl),hF⟩
  ·refine And.intro ?_ ?_
   ·refine⟨hba _ _,?_⟩
    refine And.intro ?_ ?_
    ·refine⟨hba _ _,?_⟩
     refine And.intro ?_ ?_
     ·refine s8 t1 t3 t2 (by omega) (by omega) fun D hD=>?_
      refine⟨exC y3.1 y3.2.1 y3.2.2,zau _ _ _,zaA hD.1 d3 at3,Nat.lt_of_lt_of_le d3 (Below.size hD.1),?_⟩
      refine s9 hD (by omega) (by omega) fun F hF=>?_
      exact⟨(_,_),(cvE rfl rfl),hF⟩
     ·refine⟨exC y3.1 y3.2.1 y3.2.2,zau _ _ _,zaA t1 d3 at3,Nat.lt_of_lt_of_le d3 (Below.size t1),?_⟩
      refine s8 t1 t3 t2 (by omega) (by omega) fun D hD=>?_
      refine s9 hD (by omega) (by omega) fun F hF=>?_
      exact⟨(_,_),(cvE rfl rfl),hF⟩
    ·refine⟨exC y3.1 y3.2.1 y3.2.2,zau _ _ _,zaA (bU.alloc sU _) d3 at3,Nat.lt_of_lt_of_le d3 (Below.size (bU.alloc sU _)),?_⟩
     refine⟨hba _ _,?_⟩
     refine s8 t1 t3 t2 (by omega) (by omega) fun D hD=>?_
     refine s9 hD (by omega) (by omega) fun F hF=>?_
     exact⟨(_,_),(cvE rfl rfl),hF⟩
   ·refine⟨exC y3.1 y3.2.1 y3.2.2,zau _ _ _,zaA bU d3 at3,Nat.lt_of_lt_of_le d3 (Below.size bU),?_⟩
    refine And.intro ?_ ?_
    ·refine⟨hba _ _,?_⟩
     refine⟨hba _ _,?_⟩
     refine s8 t1 t2 t3 (by omega) (by omega) fun D hD=>?_
     refine s9 hD (by omega) (by omega) fun F hF=>?_
     exact⟨(_,_),(cvE rfl rfl),hF⟩
    ·refine⟨hba _ _,?_⟩
     refine⟨hba _ _,?_⟩
     refine s8 t1 t3 t2 (by omega) (by omega) fun D hD=>?_
     refine s9 hD (by omega) (by omega) fun F hF=>?_
     exact⟨(_,_),(cvE rfl rfl),hF⟩
 rintro⟨bx,bv⟩ X ⟨fx,fv,hbX⟩
 dsimp only at fx fv ⊢
 have bw:=hb4.trans (hbX.mono hb4.size)
 have ex9:(exC y2.1 y2.2.1 y2.2.2)[304]?=some (u8 (y2.1.regs 9)):=zgK y2.1 y2.2.1 y2.2.2 (i:=9) (by decide)
 have ev9:(exC y3.1 y3.2.1 y3.2.2)[304]?=some (u8 (y3.1.regs 9)):=zgK y3.1 y3.2.1 y3.2.2 (i:=9) (by decide)
 have one:∀ {r:UInt8},r=1→decide ((r.toNat:Int)=1)=true:=fun h=>by rw [h];rfl
 refine⟨1,rfl,by decide,?_⟩
 refine⟨1,rfl,by decide,?_⟩
 refine⟨u8 (y2.1.regs 9),zac (zab fx) ex9,?_⟩
 refine brE (one rg2) ?_
 refine⟨1,rfl,by decide,?_⟩
 refine⟨1,rfl,by decide,?_⟩
 refine⟨u8 (y3.1.regs 9),zac (zab fv) ev9,?_⟩
 refine brE (one rg3) ?_
 refine⟨0,rfl,i1,?_⟩
 refine⟨exC y1.1 y1.2.1 y1.2.2,zau _ _ _,zaA hbX d1 at1,Nat.lt_of_lt_of_le d1 (Below.size hbX),?_⟩
 refine⟨⟨by decide,by decide,rfl⟩,[u8 0,u8 3,u8 0,u8 0,u8 0,u8 0],rfl,?_⟩
 obtain⟨T0,eT0⟩:∃ T,T=X.alloc (.cells ([u8 0,u8 3,u8 0,u8 0,u8 0,u8 0]:List Value).toArray 5):=⟨_,rfl⟩
 have ba0:Below X.heap.size X T0:=by rw [eT0];exact (Below.refl _ _).alloc (Nat.le_refl _) _
 have fa0:T0.heap[X.heap.size]?=some (.cells ([u8 0,u8 3,u8 0,u8 0,u8 0,u8 0]:List Value).toArray 5 (0,0)):=by rw [eT0];exact hnew _ _
 rw [← eT0]
 have bt0:=hbX.trans (ba0.mono hbX.size)
 refine Calls.mono (ziH (ws:=[0,3,0,0,0,0]) (v1.below bt0) (hTW.below bt0) (SlR.of_cells (hlt fa0) (by exact zab fa0)) say1 (by decide)) ?_
 rintro e Z1 ⟨rfl,hz1⟩
 have bz1:=bt0.trans (hz1.mono bt0.size)
 have k1:=ba0.trans (hz1.mono ba0.size)
 refine brT ?_
 refine⟨exC y2.1 y2.2.1 y2.2.2,zau _ _ _,zab (zaa k1 fx),hlt (zaa k1 fx),?_⟩
 refine⟨⟨by decide,by decide,rfl⟩,[u8 0,u8 3,u8 3,u8 0,u8 0,u8 0],rfl,?_⟩
 obtain⟨T1,eT1⟩:∃ T,T=Z1.alloc (.cells ([u8 0,u8 3,u8 3,u8 0,u8 0,u8 0]:List Value).toArray 5):=⟨_,rfl⟩
 have ba1:Below Z1.heap.size Z1 T1:=by rw [eT1];exact (Below.refl _ _).alloc (Nat.le_refl _) _
 have fa1:T1.heap[Z1.heap.size]?=some (.cells ([u8 0,u8 3,u8 3,u8 0,u8 0,u8 0]:List Value).toArray 5 (0,0)):=by rw [eT1];exact hnew _ _
 rw [← eT1]
 have bt1:=bz1.trans (ba1.mono bz1.size)
 refine Calls.mono (ziH (ws:=[0,3,3,0,0,0]) (v2.below bt1) (hTW.below bt1) (SlR.of_cells (hlt fa1) (by exact zab fa1)) say2 (by decide)) ?_
 rintro e Z2 ⟨rfl,hz2⟩
 have bz2:=bt1.trans (hz2.mono bt1.size)
 have k2:=(k1.trans (ba1.mono k1.size)).trans (hz2.mono (by have:=k1.size;have:=ba1.size;omega))
 refine brT ?_
 refine⟨exC y3.1 y3.2.1 y3.2.2,zau _ _ _,zab (zaa k2 fv),hlt (zaa k2 fv),?_⟩
 refine⟨⟨by decide,by decide,rfl⟩,[u8 0,u8 3,u8 3,u8 0,u8 3,u8 0],rfl,?_⟩
 obtain⟨T2,eT2⟩:∃ T,T=Z2.alloc (.cells ([u8 0,u8 3,u8 3,u8 0,u8 3,u8 0]:List Value).toArray 5):=⟨_,rfl⟩
 have ba2:Below Z2.heap.size Z2 T2:=by rw [eT2];exact (Below.refl _ _).alloc (Nat.le_refl _) _
 have fa2:T2.heap[Z2.heap.size]?=some (.cells ([u8 0,u8 3,u8 3,u8 0,u8 3,u8 0]:List Value).toArray 5 (0,0)):=by rw [eT2];exact hnew _ _
 rw [← eT2]
 have bt2:=bz2.trans (ba2.mono bz2.size)
 refine Calls.mono (ziH (ws:=[0,3,3,0,3,0]) (v3.below bt2) (hTW.below bt2) (SlR.of_cells (hlt fa2) (by exact zab fa2)) say3 (by decide)) ?_
 rintro e Z3 ⟨rfl,hz3⟩
 have bz3:=bt2.trans (hz3.mono bt2.size)
 have k3:=(k2.trans (ba2.mono k2.size)).trans (hz3.mono (by have:=k2.size;have:=ba2.size;omega))
 refine brT ?_
 refine⟨0,rfl,i4,?_⟩
 refine⟨exC y4.1 y4.2.1 y4.2.2,zau _ _ _,zaA bz3 d4 at4,Nat.lt_of_lt_of_le d4 (Below.size bz3),?_⟩
 refine⟨⟨by decide,by decide,rfl⟩,[u8 1,u8 1,u8 1,u8 1,u8 1,u8 1],rfl,?_⟩
 obtain⟨T3,eT3⟩:∃ T,T=Z3.alloc (.cells ([u8 1,u8 1,u8 1,u8 1,u8 1,u8 1]:List Value).toArray 5):=⟨_,rfl⟩
 have ba3:Below Z3.heap.size Z3 T3:=by rw [eT3];exact (Below.refl _ _).alloc (Nat.le_refl _) _
 have fa3:T3.heap[Z3.heap.size]?=some (.cells ([u8 1,u8 1,u8 1,u8 1,u8 1,u8 1]:List Value).toArray 5 (0,0)):=by rw [eT3];exact hnew _ _
 rw [← eT3]
 have bt3:=bz3.trans (ba3.mono bz3.size)
 refine Calls.mono (ziH (ws:=[1,1,1,1,1,1]) (v4.below bt3) (hTW.below bt3) (SlR.of_cells (hlt fa3) (by exact zab fa3)) say4 (by decide)) ?_
 rintro e Z4 ⟨rfl,hz4⟩
 have bz4:=bt3.trans (hz4.mono bt3.size)
 have k4:=(k3.trans (ba3.mono k3.size)).trans (hz4.mono (by have:=k3.size;have:=ba3.size;omega))
 exact⟨rfl,hb4.trans (bz4.mono hb4.size)⟩
def pr2E:Enc (Nat×Nat):=⟨fun p=>[i64 p.1,i64 p.2],2,fun _=>rfl,by decide,fun a u hu=>by
 simp only [List.mem_cons,List.not_mem_nil,or_false] at hu
 rcases hu with rfl | rfl <;> rfl⟩
def zeK (r:RelD) (a:Nat):List (Nat×Nat):=(els (r.to a)).map fun b=>(a,b)
def zbK (r:RelD):List (Nat×Nat):=if okR r=true then (List.range r.n.toNat).flatMap (zeK r) else []
def zhw (r:RelD) (a b:Nat):Bool:=okR r&&(decide ((a:Int)<r.n)&&(decide ((b:Int)<r.n)&&hasM r a b))
theorem zhB (s:Nat):(els s).length≤64:=by
 unfold els
 exact Nat.le_trans (List.length_filter_le _ _) (by rw [List.length_range];omega)
theorem zgq (r:RelD):∀ k,((List.range k).flatMap (zeK r)).length≤64*k
 | 0=>Nat.le_refl _
 | k+1=>by
  rw [List.range_succ,List.flatMap_append,List.length_append]
  have:=zgq r k
  have h2:([k].flatMap (zeK r)).length≤64:=by
   rw [List.flatMap_cons,List.flatMap_nil,List.append_nil]
   unfold zeK
   rw [List.length_map]
   exact zhB _
  omega
section
variable {w:World} {r:RelD}
theorem zoS (hr:WrdR r.to) (hT:Tz64M w):Calls Tryz.prog 35 #[.agg (relC r).toArray] w fun e w'=>(∃ q c,e = .returned (.slice q (zbK r).length c)∧SlR pr2E w' q (zbK r))∧Below w.heap.size w w':=by
 refine zah (S:=sg 34) (sgOk _) (args:=[.agg (relC r).toArray]) (.c .p (.c .p (.s .p (.c .p .p)))) Tryz.func35 rfl rfl (Nat.le_of_ble_eq_true rfl) rfl ?_
 obtain⟨L,hL⟩:=nm (w.heap.size)
 refine⟨Unit,fun _=>⟨[(1,At0 L)],[]⟩,fun _ X=>RelH X L r∧Below w.heap.size w X,⟨(),⟨.cons (by rw [hL];rfl) .nil,rfl⟩,by rw [hL];exact hnew w _,(Below.refl _ w).alloc (Nat.le_refl _) _⟩,?_⟩
 rintro _ X ⟨fX,hbX⟩
 refine⟨Unit,fun _=>⟨[(1,At0 L)],[]⟩,fun _ Y=>okR r=true∧RelH Y L r∧Below w.heap.size w Y,?_,?_⟩
 ·refine⟨relC r,zad _,zab fX,hlt fX,?_⟩
  refine Calls.mono (zaT hr) ?_
  rintro e Y ⟨rfl,hbY⟩
  have bY:=hbX.trans (hbY.mono hbX.size)
  refine biE (fun h=>?_) fun h=>?_
  ·have h:okR r=false:=notB h
   have e0:zbK r=[]:=if_neg (by rw [h];decide)
   rw [e0]
   exact⟨⟨none,0,rfl,.nil⟩,bY⟩
  ·exact⟨(),(cvE rfl rfl),notF h,zaa hbY fX,bY⟩
 clear fX hbX
 clear X
 rintro _ X ⟨hok,fX,hbX⟩
 obtain⟨h0,h48,_⟩:=zaS hok
 obtain⟨n,hn⟩:∃ n:Nat,r.n=n:=⟨r.n.toNat,by omega⟩
 have hpr:zbK r=(List.range n).flatMap (zeK r):=by
  unfold zbK
  rw [if_pos hok,hn];rfl
 obtain⟨D,hD⟩:=nm (X.heap.size)
 refine⟨Option Addr×Nat,fun s=>⟨[(3,.slice s.1 (zbK r).length s.2)],[]⟩,fun s Y=>OwnS pr2E 52 D Y s.1 s.2 (zbK r)∧Below D X Y,?_,?_⟩
 ·refine⟨i64 r.n,by have:=zac (zab fX) (i:=0) (v:=i64 r.n) rfl;exact this,?_⟩
  rw [hn]
  refine⟨Nat×Option Addr×Nat,fun s=>⟨[(1,At0 L),(3,.slice s.2.1 ((List.range s.1).flatMap (zeK r)).length s.2.2),(11,i64 n),(12,i64 (s.1:Nat))],[]⟩,fun s Y=>s.1≤n∧OwnS pr2E 52 D Y s.2.1 s.2.2 ((List.range s.1).flatMap (zeK r))∧Below D X Y,fun s=>n-s.1,(0,none,0),
   (cvE rfl rfl),⟨Nat.zero_le _,OwnS.nil,by rw [hD];exact Below.refl _ _⟩,?_⟩
  rintro⟨k,ps,cs⟩ Y ⟨hk,oY,hbY⟩
  dsimp only at hk oY ⊢
  have hYs:D≤Y.heap.size:=by have:=hbY.size;omega
  refine biE (fun hc=>?_) fun hc=>?_
  ·have hc:(k:Int)<(n:Int):=of_decide_eq_true hc
   have hkn:k<n:=by omega
   have hk48:k<48:=by omega
   have fY:=zaa (by rw [← hD];exact hbY) fX
   have hpl:=zgq r k
   refine⟨k,rfl,hk48,?_⟩
   refine⟨s64 (r.to k),zdU fY k hk48,?_⟩
   refine Calls.mono (zp9 (hr k hk48) (hT.below (hbX.trans (hbY.mono (by rw [hD];exact hbX.size))))) ?_
   rintro e Z ⟨⟨pl,cl,rfl,oL⟩,hbZ⟩
   have hZs:D≤Z.heap.size:=by have:=hbZ.size;omega
   have hel:=zhB (r.to k)
   have hrow:∀ j (hj:j<(els (r.to k)).length),((els (r.to k)).take (j+1)).map (fun b=>(k,b))=((els (r.to k)).take j).map (fun b=>(k,b))++[(k,(els (r.to k))[j])]:=fun j hj=>by
    rw [List.take_succ_eq_append_getElem hj,List.map_append];rfl
   refine⟨Nat×Option Addr×Nat,fun s=>⟨[(1,At0 L),(3,.slice s.2.1 ((List.range k).flatMap (zeK r)++((els (r.to k)).take s.1).map (fun b=>(k,b))).length s.2.2),(4,i64 (k:Nat)),(11,i64 n),(12,i64 (k:Nat)),(19,.slice pl (els (r.to k)).length cl),(20,i64 (els (r.to k)).length),(21,i64 (s.1:Nat))],[]⟩,
    fun s V=>s.1≤(els (r.to k)).length∧OwnS pr2E 52 D V s.2.1 s.2.2 ((List.range k).flatMap (zeK r)++((els (r.to k)).take s.1).map (fun b=>(k,b)))∧OwnS natE 3 D V pl cl (els (r.to k))∧Below D X V,fun s=>(els (r.to k)).length-s.1,(0,ps,cs),
    ⟨.cons rfl (.cons (by rw [List.take_zero,List.map_nil,List.append_nil];rfl) (.cons rfl (.cons rfl (.cons rfl (.cons rfl (.cons rfl (.cons rfl .nil))))))),rfl⟩,⟨Nat.zero_le _,by rw [List.take_zero,List.map_nil,List.append_nil];exact oY.below hbZ,oL.lower hYs,hbY.trans (hbZ.mono hYs)⟩,?_⟩
   clear oL
   rintro⟨j,pp,cc⟩ V ⟨hj,oV,rV,hbV⟩
   dsimp only at hj oV ⊢
   have hVs:D≤V.heap.size:=by have:=hbV.size;omega
   refine biE (fun hc=>?_) fun hc=>?_
   ·have hc:(j:Int)<((els (r.to k)).length:Int):=of_decide_eq_true hc
    have hjl:j<(els (r.to k)).length:=by omega
    obtain⟨bl,ol,hq,hbl,hat⟩:=rV.row.at hjl
    obtain⟨v,hv⟩:∃ v,(els (r.to k))[j]=v:=⟨_,rfl⟩
    have hatj:=hat j hjl
    have hr1:=hrow j hjl
    rw [hv] at hatj hr1
    have htl:(((els (r.to k)).take j).map (fun b=>(k,b))).length=j:=by rw [List.length_map,List.length_take];omega
    subst hq
    refine⟨j,rfl,hjl,?_⟩
    refine⟨i64 v,by have:=zac hatj (i:=0) (v:=i64 v) rfl;exact this,?_⟩
    refine⟨[i64 k,i64 v],by kernel_rfl,?_⟩
    refine⟨⟨by decide,by decide,rfl⟩,pr2E.enc (k,v),by kernel_rfl,?_⟩
    have hb2:Below V.heap.size V (V.alloc (.cells (pr2E.enc (k,v)).toArray 52)):=(Below.refl _ _).alloc (Nat.le_refl _) _
    have sb2:=hb2.size
    unfold opsE zcv
    show SatR _ _
    refine zbh (E:=pr2E) (T:=52) (news:=[(k,v)]) Tryz.underlying50 (ttOk.get 52 _ rfl) rfl rfl rfl (oV.below hb2) rfl (zaX pr2E (k,v)) (by omega) (by rw [List.length_append,htl];show _+j+1≤_;omega) (by rw [List.length_append,htl];show (_+j+1)*16≤_;omega) fun p' c' S oS gS hbS hat2=>?_
    rw [zbY] at gS
    have rS:=(rV.below hb2).kept gS fun g hg e=>by
     obtain⟨_,_,cur,h1⟩:=zaw (rV.below hb2) hg
     cases pp with
     | none=>cases e
     | some a =>
      obtain⟨_,_,cur2,h2⟩:=zaw (oV.below hb2) rfl
      have e:a.block=g:=by simpa using e
      rw [e,h1] at h2
      have:=(Obj.cells.inj (Option.some.inj h2)).2.1
      exact absurd this (by decide)
    rw [List.append_assoc,← hr1] at oS ⊢
    refine⟨((j+1:Nat):Int),(zaf (by omega)).trans (by omega),?_⟩
    exact⟨(j+1,p',c'),(cvE rfl rfl),⟨hjl,oS,rS,(hbV.trans (hb2.mono hVs)).trans hbS⟩,by show (els (r.to k)).length-(j+1)<(els (r.to k)).length-j;omega⟩
   ·have hc:¬ (j:Int)<((els (r.to k)).length:Int):=of_decide_eq_false hc
    obtain rfl:j=(els (r.to k)).length:=by omega
    have hnx:(List.range (k+1)).flatMap (zeK r)=(List.range k).flatMap (zeK r)++((els (r.to k)).take (els (r.to k)).length).map (fun b=>(k,b)):=by
     rw [List.range_succ,List.flatMap_append,List.flatMap_cons,List.flatMap_nil,List.append_nil,List.take_length];rfl
    rw [← hnx] at oV ⊢
    refine⟨((k+1:Nat):Int),(zaf (by omega)).trans (by omega),?_⟩
    exact⟨(k+1,pp,cc),(cvE rfl rfl),⟨hkn,oV,hbV⟩,by show n-(k+1)<n-k;omega⟩
  ·have hc:¬ (k:Int)<(n:Int):=of_decide_eq_false hc
   obtain rfl:k=n:=by omega
   rw [← hpr] at oY ⊢
   exact⟨(ps,cs),(cvE rfl rfl),oY,hbY⟩
 rintro⟨ps,cs⟩ Y ⟨oY,hbY⟩
 exact⟨⟨ps,cs,rfl,oY.row⟩,hbX.trans (hbY.mono (by rw [hD];exact hbX.size))⟩
theorem zqE {a b:Nat} (hr:WrdR r.to):Calls Tryz.prog 36 #[.agg (relC r).toArray,i64 a,i64 b] w fun e w'=>e = .returned (.bool (zhw r a b))∧Below w.heap.size w w':=by
 refine zah (S:=sg 38) (sgOk _) (args:=[.agg (relC r).toArray,i64 a,i64 b]) (.c .p .p) Tryz.func36 rfl rfl (Nat.le_of_ble_eq_true rfl) rfl ?_
 obtain⟨L,hL⟩:=nm (w.heap.size)
 refine⟨Unit,fun _=>⟨[(1,i64 a),(2,i64 b),(3,At0 L)],[]⟩,fun _ X=>RelH X L r∧Below w.heap.size w X,⟨(),⟨.cons rfl (.cons rfl (.cons (by rw [hL];rfl) .nil)),rfl⟩,by rw [hL];exact hnew w _,(Below.refl _ w).alloc (Nat.le_refl _) _⟩,?_⟩
 rintro _ X ⟨fX,hbX⟩
 refine⟨relC r,zad _,zab fX,hlt fX,?_⟩
 refine Calls.mono (zaT hr) ?_
 rintro e Y ⟨rfl,hbY⟩
 have bY:=hbX.trans (hbY.mono hbX.size)
 have fY:=zaa hbY fX
 have ld:Y.cell? ⟨L,0+0,none⟩=some (i64 r.n):=zac (zab fY) (i:=0) rfl
 refine biE (fun h1=>?_) fun h1=>?_
 ·have h1:okR r=false:=notB h1
  refine brT ?_
  refine brT ?_
  refine brT ?_
  refine brT ?_
  exact⟨rb (by unfold zhw;rw [h1];rfl),bY⟩
 have h1:okR r=true:=notF h1
 have h48:=(zaS h1).2.1
 refine brN (decide_eq_false (by omega)) ?_
 refine⟨_,ld,?_⟩
 refine biE (fun h2=>?_) fun h2=>?_
 ·have h2:r.n≤(a:Int):=of_decide_eq_true h2
  refine brT ?_
  refine brT ?_
  exact⟨rb (by unfold zhw;rw [decide_eq_false (by omega:¬ (a:Int)<r.n),Bool.false_and,Bool.and_false]),bY⟩
 have h2:¬ r.n≤(a:Int):=of_decide_eq_false h2
 refine brN (decide_eq_false (by omega)) ?_
 refine⟨_,ld,?_⟩
 refine biE (fun h3=>?_) fun h3=>?_
 ·have h3:r.n≤(b:Int):=of_decide_eq_true h3
  exact⟨rb (by unfold zhw;rw [decide_eq_false (by omega:¬ (b:Int)<r.n),Bool.false_and,Bool.and_false,Bool.and_false]),bY⟩
 have h3:¬ r.n≤(b:Int):=of_decide_eq_false h3
 have ha48:a<48:=by omega
 have hb48:b<48:=by omega
 have e0:zhw r a b=hasM r a b:=by unfold zhw;rw [h1,decide_eq_true (by omega:(a:Int)<r.n),decide_eq_true (by omega:(b:Int)<r.n)];rfl
 rw [e0]
 refine⟨a,rfl,ha48,?_⟩
 refine⟨s64 (r.to a),zdU fY a ha48,?_⟩
 refine⟨by omega,_,ze6 (a:=r.to a) (k:=b) (by omega),?_⟩
 refine⟨_,zbv (a:=r.to a/2^b) (b:=1) (Nat.lt_of_le_of_lt (Nat.div_le_self _ _) (hr a ha48)) (by decide),?_⟩
 exact⟨rb zlO,bY⟩
end
abbrev zR:Obj := .cells (zt27).toArray 27
theorem zla {r:RelD} {p:Nat×Nat} (h:p∈zbK r):(p.1:Int)<r.n∧hasM r p.1 p.2=true:=by
 unfold zbK at h
 split at h
 ·obtain⟨a,ha,hp⟩:=List.mem_flatMap.1 h
  unfold zeK at hp
  obtain⟨b,hb,rfl⟩:=List.mem_map.1 hp
  have:=List.mem_range.1 ha
  exact⟨by show (a:Int)<r.n;omega,(zcK.1 hb).2⟩
 ·cases h
theorem zjP (r:RelD):(zbK r).length≤64*48:=by
 unfold zbK
 split
 ·rename_i h
  have:=zgq r r.n.toNat
  have:=(zaS h).2.1
  omega
 ·simp
theorem zaI {V:World} {A B:RelD} {b1 b2:Nat} {W:World} (hW:Below V.heap.size V W) (f1:RelH W b1 zas) (f2:RelH W b2 zas) (hne:b1≠b2) (h1:V.heap.size≤b1) {K:World→Prop} (k:∀ D,(Below V.heap.size V D∧RelH D b1 A∧RelH D b2 zas)→K D) :
  SatR ((storeVar 27 ⟨b1,0,none⟩ (.agg (relC A).toArray)).run Tryz.prog W) fun _ w'=>K w' :=
 zar (v := .agg (relC A).toArray) (ttOk.get 27 _ rfl) f1 (zad _) (zad _) (zav _) (k _ ⟨zaj hW h1 _,zal f1,(zam (fun e=>hne e.symm)).trans f2⟩)
theorem zaF {V:World} {A B:RelD} {b1 b2:Nat} {W:World} (h:Below V.heap.size V W∧RelH W b1 A∧RelH W b2 zas) (hne:b1≠b2) (h2:V.heap.size≤b2) {K:World→Prop} (k:∀ D,(RelH D b1 A∧RelH D b2 B∧Below V.heap.size V D)→K D) :
  SatR ((storeVar 27 ⟨b2,0,none⟩ (.agg (relC B).toArray)).run Tryz.prog W) fun _ w'=>K w' :=
 zar (v := .agg (relC B).toArray) (ttOk.get 27 _ rfl) h.2.2 (zad _) (zad _) (zav _) (k _ ⟨(zam hne).trans h.2.1,zal h.2.2,zaj h.1 h2 _⟩)
theorem zeb {V:World} {A:RelD} {b1:Nat} {W:World} (hW:Below V.heap.size V W) (f1:RelH W b1 zas) (h1:V.heap.size≤b1) {K:World→Prop} (k:∀ D,(RelH D b1 A∧Below V.heap.size V D)→K D) :
  SatR ((storeVar 27 ⟨b1,0,none⟩ (.agg (relC A).toArray)).run Tryz.prog W) fun _ w'=>K w' :=
 zar (v := .agg (relC A).toArray) (ttOk.get 27 _ rfl) f1 (zad _) (zad _) (zav _) (k _ ⟨zal f1,zaj hW h1 _⟩)
theorem zpv {x:ExD} (h:WX x) (h64:x.ev.length≤64) (md:UInt8):WrdR (zbN x md).to:=by
 unfold zbN
 split
 ·split
  ·exact zcT (zcT h.po fun i hi=>by
    unfold idR
    refine zdq (fun i _ h48=>?_) i hi
    exact Nat.lt_of_le_of_lt Nat.and_le_right (zaG (by omega))) h.po
  ·exact fun i _=>(by show 0<2^64;decide)
 ·exact fun i _=>(by show 0<2^64;decide)
theorem zjU {m:Nat} {x:ExD} (h:x.ev.length≤64):WrdR (zfR m x).to:=by
 unfold zfR
 split
 ·exact zdZ h
 ·exact fun i _=>(by show 0<2^64;decide)
section
variable {w:World} {x:ExD} {q:Option Addr} {c:Nat} {r:RelD} {m md:UInt8}
theorem exvS (h:SlR evE w q x.ev∧WX x) (h16:x.ev.length≤16):ExV w x q:=⟨h.1,by omega,h.2.po,h.2.rf,h.2.co,h.2.dt,h.2.ct,h.2.rm⟩
theorem zho (hv0:SlR evE w q x.ev∧WX x) (hr:WrdR r.to) (hG:GlobE w):Calls Tryz.prog 6 #[.agg (exC x q c).toArray,.agg (relC r).toArray,u8 m,u8 md] w fun e w'=>e = .returned (.bool true)∧Below w.heap.size w w':=by
 refine zah (S:=sg 175) (sgOk _) (args:=[.agg (exC x q c).toArray,.agg (relC r).toArray,u8 m,u8 md]) (.c .p (.c .p (.c (.s .p (.d (.c .p (.c .p (.c .p .p))) .p)) (.c .p (.c .p (.c .p (.c .p (.c .p (.c .p .p))))))))) Tryz.func6 rfl rfl (Nat.le_of_ble_eq_true rfl) rfl ?_
 obtain⟨L,hL⟩:=nm (w.heap.size)
 have hba:∀ (A:World) (o:Obj),Below A.heap.size A (A.alloc o):=fun A o=>(Below.refl _ _).alloc (Nat.le_refl _) _
 have hwx:=hv0.2
 refine⟨Unit,fun _=>⟨[(2,u8 m),(3,u8 md),(4,At0 L),(5,At0 (L+1))],[]⟩,fun _ X=>ExH X L x q c∧RelH X (L+1) r∧Below w.heap.size w X,?_,?_⟩
 ·obtain⟨h1,h2,h3,h4⟩:=zcn w x q c r 27
  have s1:=World.size_alloc w (.cells (exC x q c).toArray 34)
  exact⟨(),⟨.cons rfl (.cons rfl (.cons (by rw [hL];rfl) (.cons (by rw [hL,← s1];rfl) .nil))),rfl⟩,by rw [hL];exact h1,by rw [hL];exact h2,h4⟩
 rintro _ X ⟨fX,fR,hbX⟩
 refine⟨Unit,fun _=>⟨[(2,u8 m),(3,u8 md),(4,At0 L),(5,At0 (L+1))],[]⟩,fun _ Y=>x.ev.length≤16∧zaJ x=true∧ExH Y L x q c∧RelH Y (L+1) r∧Below w.heap.size w Y,?_,?_⟩
 ·refine⟨exC x q c,zau _ _ _,zab fX,hlt fX,?_⟩
  refine Calls.mono (zqw (zau x q c) rfl) ?_
  rintro e Y ⟨rfl,hbY⟩
  have bY:=hbX.trans (hbY.mono hbX.size)
  have fY:=zaa hbY fX
  refine biE (fun h=>?_) fun h=>?_
  ·refine brT ?_
   refine Calls.mono (zlP (hG.below bY)) ?_
   rintro e Z ⟨rfl,hbZ⟩
   exact⟨rfl,bY.trans (hbZ.mono bY.size)⟩
  ·have h16:x.ev.length≤16:=of_decide_eq_true (notF h)
   refine⟨exC x q c,zau _ _ _,zab fY,hlt fY,?_⟩
   refine Calls.mono (zcH ((exvS hv0 h16).below bY) (hG.t64.below bY)) ?_
   rintro e Z ⟨rfl,hbZ⟩
   have bZ:=bY.trans (hbZ.mono bY.size)
   refine biE (fun h2=>?_) fun h2=>?_
   ·refine Calls.mono (zlP (hG.below bZ)) ?_
    rintro e V ⟨rfl,hbV⟩
    exact⟨rfl,bZ.trans (hbV.mono bZ.size)⟩
   ·exact⟨(),(cvE rfl rfl),h16,notF h2,zaa hbZ fY,zaa hbZ (zaa hbY fR),bZ⟩
 clear fX fR hbX
 clear X
 rintro _ X ⟨h16,hri,fX,fR,hbX⟩
 have hv:=exvS hv0 h16
 have hx:=zo4 hwx hri
 have h48:x.ev.length≤48:=by omega
 refine⟨Unit,fun _=>⟨[(2,u8 m),(3,u8 md),(4,At0 L),(5,At0 (L+1))],[]⟩,fun _ Y=>ExH Y L x q c∧Below w.heap.size w Y,?_,?_⟩
 ·refine⟨relC r,zad _,zab fR,hlt fR,?_⟩
  refine Calls.mono (zaT hr) ?_
  rintro e Y ⟨rfl,hbY⟩
  have bY:=hbX.trans (hbY.mono hbX.size)
  have fY:=zaa hbY fX
  have gR:=zaa hbY fR
  refine biE (fun h1=>?_) fun h1=>?_
  ·have h1:okR r=true:=h1
   refine⟨i64 r.n,by have:=zac (zab gR) (i:=0) (v:=i64 r.n) rfl;exact this,?_⟩
   refine⟨_,za9 (zab fY),?_⟩
   refine biE (fun h2=>?_) fun h2=>?_
   ·have h2:r.n=(x.ev.length:Int):=of_decide_eq_true h2
    have hrr:RelOk x.ev.length r:=⟨h2,h1,hr⟩
    have hfit:zdC x r=true:=by unfold zdC;rw [h1,decide_eq_true h2,hri];rfl
    obtain⟨k1,k2,k3,k4⟩:=zhP hx hrr
    obtain⟨A,hA⟩:=nm (extM x r)
    obtain⟨B,hB⟩:=nm (intM x r)
    have wA:WrdR A.to:=by rw [hA];exact (zli hx hrr).w
    have wB:WrdR B.to:=by rw [hB];exact (zik hx hrr).w
    have eA:extX x r=A:=by rw [hA];exact if_pos hfit
    have eB:intX x r=B:=by rw [hB];exact if_pos hfit
    rw [← hA,← hB] at k1 k2 k3 k4
    clear hbY fX fR hbX
    clear X
    refine⟨Nat×Nat,fun s=>⟨[(2,u8 m),(3,u8 md),(4,At0 L),(5,At0 (L+1)),(9,At0 s.1),(10,At0 s.2)],[]⟩,fun s Z=>RelH Z s.1 A∧RelH Z s.2 B∧Below Y.heap.size Y Z,?_,?_⟩
    ·obtain⟨U,hU⟩:=nm (Y.drew)
     have bU:Below Y.heap.size Y U:=by rw [hU];exact (Below.refl _ _).drew
     have yU:=bU.size
     have kA:∀ {W:World},Below Y.heap.size Y W→Calls Tryz.prog 20 #[.agg (exC x q c).toArray,.agg (relC r).toArray] W fun e w'=>e = .returned (.agg (relC A).toArray)∧Below W.heap.size W w':=fun {W} hW=>by
      have h2:=bY.trans (hW.mono bY.size)
      rw [← eA]
      exact zqg (hv.below h2) hr (hG.t64.below h2)
     have kB:∀ {W:World},Below Y.heap.size Y W→Calls Tryz.prog 21 #[.agg (exC x q c).toArray,.agg (relC r).toArray] W fun e w'=>e = .returned (.agg (relC B).toArray)∧Below W.heap.size W w':=fun {W} hW=>by
      have h2:=bY.trans (hW.mono bY.size)
      rw [← eB]
      exact znt (hv.below h2) hr (hG.t64.below h2)
     refine DrawE.treeQ [8,9] (.op 0 (.op 1 (.op 3 (.op 4 (.alt (.op 6 (.alt (.op 7 (.op 2 (.op 5 (.op 8 (.op 9 (.nil)))))) (.op 2 (.alt (.op 7 (.op 5 (.op 8 (.op 9 (.nil))))) (.op 5 (.op 7 (.op 8 (.op 9 (.nil))))))))) (.alt (.op 7 (.alt (.op 6 (.op 2 (.op 5 (.op 8 (.op 9 (.nil)))))) (.op 2 (.alt (.op 6 (.op 5 (.op 8 (.op 9 (.nil))))) (.op 5 (.op 6 (.op 8 (.op 9 (.nil))))))))) (.op 2 (.alt (.op 6 (.alt (.op 7 (.op 5 (.op 8 (.op 9 (.nil))))) (.op 5 (.op 7 (.op 8 (.op 9 (.nil))))))) (.alt (.op 7 (.alt (.op 6 (.op 5 (.op 8 (.op 9 (.nil))))) (.op 5 (.op 6 (.op 8 (.op 9 (.nil))))))) (.op 5 (.alt (.op 6 (.op 7 (.op 8 (.op 9 (.nil))))) (.op 7 (.op 6 (.op 8 (.op 9 (.nil)))))))))))))))) (by kernel_rfl) ?_
     rw [← hU]
     refine⟨exC x q c,zau _ _ _,zab (zaa bU fY),hlt (zaa bU fY),?_⟩
     refine⟨relC r,zad _,zab (zaa bU gR),hlt (zaa bU gR),?_⟩
     refine⟨exC x q c,zau _ _ _,zab (zaa bU fY),hlt (zaa bU fY),?_⟩
     refine⟨relC r,zad _,zab (zaa bU gR),hlt (zaa bU gR),?_⟩
     refine And.intro ?_ (And.intro ?_ ?_)
     ·refine⟨hba _ _,?_⟩
      have c1:=bU.alloc bU.size zR
      have z1:=World.size_alloc U zR
      have y1:=bU.size
      refine And.intro ?_ ?_
      ·refine⟨hba _ _,?_⟩
       have c2:=c1.alloc c1.size zR
       have z2:=World.size_alloc (U.alloc zR) zR
       have y2:=c1.size
       refine Calls.mono (kA c2) ?_
       rintro e G3 ⟨rfl,v3⟩
       refine⟨v3,?_⟩
       have c3:=c2.trans (v3.mono c2.size)
       have y3:((U.alloc zR).alloc zR).heap.size≤G3.heap.size:=v3.size
       refine Calls.mono (kB c3) ?_
       rintro e G4 ⟨rfl,v4⟩
       refine⟨v4,?_⟩
       have c4:=c3.trans (v4.mono c3.size)
       have y4:G3.heap.size≤G4.heap.size:=v4.size
       refine zaI (A:=A) (B:=B) (b1:=U.heap.size) (b2:=(U.alloc zR).heap.size) c4 (zaa v4 (zaa v3 (hold zR (hnew U zR)))) (zaa v4 (zaa v3 (hnew (U.alloc zR) zR))) (by omega) (by omega) fun D hD=>?_
       refine zaF (A:=A) (B:=B) (b1:=U.heap.size) (b2:=(U.alloc zR).heap.size) hD (by omega) (by omega) fun F hF=>?_
       exact⟨(U.heap.size,(U.alloc zR).heap.size),(cvE rfl rfl),hF⟩
      ·refine Calls.mono (kA c1) ?_
       rintro e G5 ⟨rfl,v5⟩
       refine⟨v5,?_⟩
       have c5:=c1.trans (v5.mono c1.size)
       have y5:(U.alloc zR).heap.size≤G5.heap.size:=v5.size
       refine And.intro ?_ ?_
       ·refine⟨hba _ _,?_⟩
        have c6:=c5.alloc c5.size zR
        have z6:=World.size_alloc G5 zR
        have y6:=c5.size
        refine Calls.mono (kB c6) ?_
        rintro e G7 ⟨rfl,v7⟩
        refine⟨v7,?_⟩
        have c7:=c6.trans (v7.mono c6.size)
        have y7:(G5.alloc zR).heap.size≤G7.heap.size:=v7.size
        refine zaI (A:=A) (B:=B) (b1:=U.heap.size) (b2:=G5.heap.size) c7 (zaa v7 (hold zR (zaa v5 (hnew U zR)))) (zaa v7 (hnew G5 zR)) (by omega) (by omega) fun D hD=>?_
        refine zaF (A:=A) (B:=B) (b1:=U.heap.size) (b2:=G5.heap.size) hD (by omega) (by omega) fun F hF=>?_
        exact⟨(U.heap.size,G5.heap.size),(cvE rfl rfl),hF⟩
       ·refine Calls.mono (kB c5) ?_
        rintro e G8 ⟨rfl,v8⟩
        refine⟨v8,?_⟩
        have c8:=c5.trans (v8.mono c5.size)
        have y8:G5.heap.size≤G8.heap.size:=v8.size
        refine⟨hba _ _,?_⟩
        have c9:=c8.alloc c8.size zR
        have z9:=World.size_alloc G8 zR
        have y9:=c8.size
        refine zaI (A:=A) (B:=B) (b1:=U.heap.size) (b2:=G8.heap.size) c9 (hold zR (zaa v8 (zaa v5 (hnew U zR)))) (hnew G8 zR) (by omega) (by omega) fun D hD=>?_
        refine zaF (A:=A) (B:=B) (b1:=U.heap.size) (b2:=G8.heap.size) hD (by omega) (by omega) fun F hF=>?_
        exact⟨(U.heap.size,G8.heap.size),(cvE rfl rfl),hF⟩
     ·refine⟨hba _ _,?_⟩
      have c10:=bU.alloc bU.size zR
      have z10:=World.size_alloc U zR
      have y10:=bU.size
      refine And.intro ?_ ?_
      ·refine⟨hba _ _,?_⟩
       have c11:=c10.alloc c10.size zR
       have z11:=World.size_alloc (U.alloc zR) zR
       have y11:=c10.size
       refine Calls.mono (kA c11) ?_
       rintro e G12 ⟨rfl,v12⟩
       refine⟨v12,?_⟩
       have c12:=c11.trans (v12.mono c11.size)
       have y12:((U.alloc zR).alloc zR).heap.size≤G12.heap.size:=v12.size
       refine Calls.mono (kB c12) ?_
       rintro e G13 ⟨rfl,v13⟩
       refine⟨v13,?_⟩
       have c13:=c12.trans (v13.mono c12.size)
       have y13:G12.heap.size≤G13.heap.size:=v13.size
       refine zaI (A:=A) (B:=B) (b1:=(U.alloc zR).heap.size) (b2:=U.heap.size) c13 (zaa v13 (zaa v12 (hnew (U.alloc zR) zR))) (zaa v13 (zaa v12 (hold zR (hnew U zR)))) (by omega) (by omega) fun D hD=>?_
       refine zaF (A:=A) (B:=B) (b1:=(U.alloc zR).heap.size) (b2:=U.heap.size) hD (by omega) (by omega) fun F hF=>?_
       exact⟨((U.alloc zR).heap.size,U.heap.size),(cvE rfl rfl),hF⟩
      ·refine Calls.mono (kA c10) ?_
       rintro e G14 ⟨rfl,v14⟩
       refine⟨v14,?_⟩
       have c14:=c10.trans (v14.mono c10.size)
       have y14:(U.alloc zR).heap.size≤G14.heap.size:=v14.size
       refine And.intro ?_ ?_
       ·refine⟨hba _ _,?_⟩
        have c15:=c14.alloc c14.size zR
        have z15:=World.size_alloc G14 zR
        have y15:=c14.size
        refine Calls.mono (kB c15) ?_
        rintro e G16 ⟨rfl,v16⟩
        refine⟨v16,?_⟩
        have c16:=c15.trans (v16.mono c15.size)
        have y16:(G14.alloc zR).heap.size≤G16.heap.size:=v16.size
        refine zaI (A:=A) (B:=B) (b1:=G14.heap.size) (b2:=U.heap.size) c16 (zaa v16 (hnew G14 zR)) (zaa v16 (hold zR (zaa v14 (hnew U zR)))) (by omega) (by omega) fun D hD=>?_
        refine zaF (A:=A) (B:=B) (b1:=G14.heap.size) (b2:=U.heap.size) hD (by omega) (by omega) fun F hF=>?_
        exact⟨(G14.heap.size,U.heap.size),(cvE rfl rfl),hF⟩
       ·refine Calls.mono (kB c14) ?_
        rintro e G17 ⟨rfl,v17⟩
        refine⟨v17,?_⟩
        have c17:=c14.trans (v17.mono c14.size)
        have y17:G14.heap.size≤G17.heap.size:=v17.size
        refine⟨hba _ _,?_⟩
        have c18:=c17.alloc c17.size zR
        have z18:=World.size_alloc G17 zR
        have y18:=c17.size
        refine zaI (A:=A) (B:=B) (b1:=G17.heap.size) (b2:=U.heap.size) c18 (hnew G17 zR) (hold zR (zaa v17 (zaa v14 (hnew U zR)))) (by omega) (by omega) fun D hD=>?_
        refine zaF (A:=A) (B:=B) (b1:=G17.heap.size) (b2:=U.heap.size) hD (by omega) (by omega) fun F hF=>?_
        exact⟨(G17.heap.size,U.heap.size),(cvE rfl rfl),hF⟩
     ·refine Calls.mono (kA bU) ?_
      rintro e G19 ⟨rfl,v19⟩
      refine⟨v19,?_⟩
      have c19:=bU.trans (v19.mono bU.size)
      have y19:U.heap.size≤G19.heap.size:=v19.size
      refine And.intro ?_ (And.intro ?_ ?_)
      ·refine⟨hba _ _,?_⟩
       have c20:=c19.alloc c19.size zR
       have z20:=World.size_alloc G19 zR
       have y20:=c19.size
       refine And.intro ?_ ?_
       ·refine⟨hba _ _,?_⟩
        have c21:=c20.alloc c20.size zR
        have z21:=World.size_alloc (G19.alloc zR) zR
        have y21:=c20.size
        refine Calls.mono (kB c21) ?_
        rintro e G22 ⟨rfl,v22⟩
        refine⟨v22,?_⟩
        have c22:=c21.trans (v22.mono c21.size)
        have y22:((G19.alloc zR).alloc zR).heap.size≤G22.heap.size:=v22.size
        refine zaI (A:=A) (B:=B) (b1:=G19.heap.size) (b2:=(G19.alloc zR).heap.size) c22 (zaa v22 (hold zR (hnew G19 zR))) (zaa v22 (hnew (G19.alloc zR) zR)) (by omega) (by omega) fun D hD=>?_
        refine zaF (A:=A) (B:=B) (b1:=G19.heap.size) (b2:=(G19.alloc zR).heap.size) hD (by omega) (by omega) fun F hF=>?_
        exact⟨(G19.heap.size,(G19.alloc zR).heap.size),(cvE rfl rfl),hF⟩
       ·refine Calls.mono (kB c20) ?_
        rintro e G23 ⟨rfl,v23⟩
        refine⟨v23,?_⟩
        have c23:=c20.trans (v23.mono c20.size)
        have y23:(G19.alloc zR).heap.size≤G23.heap.size:=v23.size
        refine⟨hba _ _,?_⟩
        have c24:=c23.alloc c23.size zR
        have z24:=World.size_alloc G23 zR
        have y24:=c23.size
        refine zaI (A:=A) (B:=B) (b1:=G19.heap.size) (b2:=G23.heap.size) c24 (hold zR (zaa v23 (hnew G19 zR))) (hnew G23 zR) (by omega) (by omega) fun D hD=>?_
        refine zaF (A:=A) (B:=B) (b1:=G19.heap.size) (b2:=G23.heap.size) hD (by omega) (by omega) fun F hF=>?_
        exact⟨(G19.heap.size,G23.heap.size),(cvE rfl rfl),hF⟩
      ·refine⟨hba _ _,?_⟩
       have c25:=c19.alloc c19.size zR
       have z25:=World.size_alloc G19 zR
       have y25:=c19.size
       refine And.intro ?_ ?_
       ·refine⟨hba _ _,?_⟩
        have c26:=c25.alloc c25.size zR
        have z26:=World.size_alloc (G19.alloc zR) zR
        have y26:=c25.size
        refine Calls.mono (kB c26) ?_
        rintro e G27 ⟨rfl,v27⟩
        refine⟨v27,?_⟩
        have c27:=c26.trans (v27.mono c26.size)
        have y27:((G19.alloc zR).alloc zR).heap.size≤G27.heap.size:=v27.size
        refine zaI (A:=A) (B:=B) (b1:=(G19.alloc zR).heap.size) (b2:=G19.heap.size) c27 (zaa v27 (hnew (G19.alloc zR) zR)) (zaa v27 (hold zR (hnew G19 zR))) (by omega) (by omega) fun D hD=>?_
        refine zaF (A:=A) (B:=B) (b1:=(G19.alloc zR).heap.size) (b2:=G19.heap.size) hD (by omega) (by omega) fun F hF=>?_
        exact⟨((G19.alloc zR).heap.size,G19.heap.size),(cvE rfl rfl),hF⟩
       ·refine Calls.mono (kB c25) ?_
        rintro e G28 ⟨rfl,v28⟩
        refine⟨v28,?_⟩
        have c28:=c25.trans (v28.mono c25.size)
        have y28:(G19.alloc zR).heap.size≤G28.heap.size:=v28.size
        refine⟨hba _ _,?_⟩
        have c29:=c28.alloc c28.size zR
        have z29:=World.size_alloc G28 zR
        have y29:=c28.size
        refine zaI (A:=A) (B:=B) (b1:=G28.heap.size) (b2:=G19.heap.size) c29 (hnew G28 zR) (hold zR (zaa v28 (hnew G19 zR))) (by omega) (by omega) fun D hD=>?_
        refine zaF (A:=A) (B:=B) (b1:=G28.heap.size) (b2:=G19.heap.size) hD (by omega) (by omega) fun F hF=>?_
        exact⟨(G28.heap.size,G19.heap.size),(cvE rfl rfl),hF⟩
      ·refine Calls.mono (kB c19) ?_
       rintro e G30 ⟨rfl,v30⟩
       refine⟨v30,?_⟩
       have c30:=c19.trans (v30.mono c19.size)
       have y30:G19.heap.size≤G30.heap.size:=v30.size
       refine And.intro ?_ ?_
       ·refine⟨hba _ _,?_⟩
        have c31:=c30.alloc c30.size zR
        have z31:=World.size_alloc G30 zR
        have y31:=c30.size
        refine⟨hba _ _,?_⟩
        have c32:=c31.alloc c31.size zR
        have z32:=World.size_alloc (G30.alloc zR) zR
        have y32:=c31.size
        refine zaI (A:=A) (B:=B) (b1:=G30.heap.size) (b2:=(G30.alloc zR).heap.size) c32 (hold zR (hnew G30 zR)) (hnew (G30.alloc zR) zR) (by omega) (by omega) fun D hD=>?_
        refine zaF (A:=A) (B:=B) (b1:=G30.heap.size) (b2:=(G30.alloc zR).heap.size) hD (by omega) (by omega) fun F hF=>?_
        exact⟨(G30.heap.size,(G30.alloc zR).heap.size),(cvE rfl rfl),hF⟩
       ·refine⟨hba _ _,?_⟩
        have c33:=c30.alloc c30.size zR
        have z33:=World.size_alloc G30 zR
        have y33:=c30.size
        refine⟨hba _ _,?_⟩
        have c34:=c33.alloc c33.size zR
        have z34:=World.size_alloc (G30.alloc zR) zR
        have y34:=c33.size
        refine zaI (A:=A) (B:=B) (b1:=(G30.alloc zR).heap.size) (b2:=G30.heap.size) c34 (hnew (G30.alloc zR) zR) (hold zR (hnew G30 zR)) (by omega) (by omega) fun D hD=>?_
        refine zaF (A:=A) (B:=B) (b1:=(G30.alloc zR).heap.size) (b2:=G30.heap.size) hD (by omega) (by omega) fun F hF=>?_
        exact⟨((G30.alloc zR).heap.size,G30.heap.size),(cvE rfl rfl),hF⟩
    rintro⟨P1,P2⟩ Z ⟨f1,f2,hbZ⟩
    dsimp only at f1 f2 ⊢
    have bZ:=bY.trans (hbZ.mono bY.size)
    refine⟨Nat,fun G=>⟨[(2,u8 m),(3,u8 md),(4,At0 L),(5,At0 (L+1)),(9,At0 P1),(10,At0 P2),(11,At0 G),(12,i64 0)],[]⟩,fun G V=>RelH V G (zbQ A B).1∧Below Z.heap.size Z V,?_,?_⟩
    ·refine⟨relC A,zad _,zab f1,hlt f1,?_⟩
     refine⟨relC B,zad _,zab f2,hlt f2,?_⟩
     refine Calls.mono (zlU wA wB) ?_
     rintro e V ⟨rfl,hbV⟩
     rw [k1]
     refine zap (X:=V) (v := .agg (relC (zbQ A B).1).toArray) (ttOk.get 27 _ rfl) (zad _) (by kernel_rfl) (zav _) fun S hbS fS sS=>?_
     exact⟨V.heap.size,(cvE rfl rfl),fS,hbV.trans (hbS.mono hbV.size)⟩
    rintro G V ⟨f3,hbV⟩
    have bV:=bZ.trans (hbV.mono bZ.size)
    refine⟨Nat,fun H=>⟨[(2,u8 m),(3,u8 md),(4,At0 L),(5,At0 (L+1)),(11,At0 G),(12,i64 0),(13,At0 H),(14,i64 0)],[]⟩,fun H U=>RelH U H (zb6 A B).1∧Below V.heap.size V U,?_,?_⟩
    ·refine⟨relC A,zad _,zab (zaa hbV f1),hlt (zaa hbV f1),?_⟩
     refine⟨relC B,zad _,zab (zaa hbV f2),hlt (zaa hbV f2),?_⟩
     refine Calls.mono (zlY wA wB) ?_
     rintro e U ⟨rfl,hbU⟩
     rw [k2]
     refine zap (X:=U) (v := .agg (relC (zb6 A B).1).toArray) (ttOk.get 27 _ rfl) (zad _) (by kernel_rfl) (zav _) fun S hbS fS sS=>?_
     exact⟨U.heap.size,(cvE rfl rfl),fS,hbU.trans (hbS.mono hbU.size)⟩
    rintro H U ⟨f4,hbU⟩
    have bU:=bV.trans (hbU.mono bV.size)
    have bYU:=(hbZ.trans (hbV.mono hbZ.size)).trans (hbU.mono (Nat.le_trans hbZ.size hbV.size))
    refine brN (show (!decide ((0:Int)=0))=false from rfl) ?_
    refine brN (show (!decide ((0:Int)=0))=false from rfl) ?_
    refine⟨relC (zbQ A B).1,zad _,zab (zaa hbU f3),hlt (zaa hbU f3),?_⟩
    refine⟨relC r,zad _,zab (zaa bYU gR),hlt (zaa bYU gR),?_⟩
    refine⟨_,fun w=>zk5 _ _ _ _ w,?_⟩
    rw [k3]
    refine brF ?_
    refine⟨relC (zb6 A B).1,zad _,zab f4,hlt f4,?_⟩
    refine Calls.mono (zfN (zjj wA)) ?_
    rintro e S ⟨rfl,hbS⟩
    rw [k4]
    refine brF ?_
    have bS:=bYU.trans (hbS.mono bYU.size)
    exact⟨(),(cvE rfl rfl),zaa bS fY,bY.trans (bS.mono bY.size)⟩
   ·exact⟨(),(cvE rfl rfl),fY,bY⟩
  ·refine brF ?_
   exact⟨(),(cvE rfl rfl),fY,bY⟩
 clear fX fR hbX hr
 clear X
 rintro _ X ⟨fX,hbX⟩
 obtain⟨m2,hm2⟩:∃ m2:UInt8,m2.toNat=1+m.toNat%6:=⟨UInt8.ofNat (1+m.toNat%6),by rw [UInt8.toNat_ofNat'];omega⟩
 have hkn:zbm m2.toNat=true:=by
  unfold zbm
  rw [hm2,decide_eq_true (by omega),decide_eq_true (by omega)];rfl
 obtain⟨A,hA⟩:=nm (zbN x md)
 obtain⟨B,hB⟩:=nm (zfR m2.toNat x)
 have wA:WrdR A.to:=by rw [hA];exact zpv hwx (by omega) md
 have wB:WrdR B.to:=by rw [hB];exact zjU (by omega)
 obtain⟨a0,a1⟩:=zgW hx hri md
 obtain⟨b0,b1⟩:=zjz hx hri hkn
 rw [← hA] at a0 a1
 rw [← hB] at b0 b1
 refine⟨Nat×Nat,fun s=>⟨[(4,At0 L),(15,At0 s.1),(16,At0 s.2)],[]⟩,fun s Z=>RelH Z s.1 A∧RelH Z s.2 B∧ExH Z L x q c∧Below w.heap.size w Z,?_,?_⟩
 ·obtain⟨U,hU⟩:=nm (X.drew)
  have bU:Below X.heap.size X U:=by rw [hU];exact (Below.refl _ _).drew
  have yU:=bU.size
  have kA:∀ {W:World},Below X.heap.size X W→Calls Tryz.prog 22 #[.agg (exC x q c).toArray,u8 md] W fun e w'=>e = .returned (.agg (relC A).toArray)∧Below W.heap.size W w':=fun {W} hW=>by
   have h2:=hbX.trans (hW.mono hbX.size)
   rw [hA]
   exact zlX (hv.below h2) (hG.t64.below h2)
  have kB:∀ {W:World},Below X.heap.size X W→Calls Tryz.prog 23 #[u8 m2,.agg (exC x q c).toArray] W fun e w'=>e = .returned (.agg (relC B).toArray)∧Below W.heap.size W w':=fun {W} hW=>by
   have h2:=hbX.trans (hW.mono hbX.size)
   rw [hB]
   exact zoX (hv.below h2) (hG.t64.below h2)
  refine DrawE.treeQ [10,11] (.op 0 (.op 1 (.op 3 (.op 4 (.op 5 (.op 6 (.alt (.op 8 (.alt (.op 9 (.op 2 (.op 7 (.op 10 (.op 11 (.nil)))))) (.op 2 (.alt (.op 9 (.op 7 (.op 10 (.op 11 (.nil))))) (.op 7 (.op 9 (.op 10 (.op 11 (.nil))))))))) (.alt (.op 9 (.alt (.op 8 (.op 2 (.op 7 (.op 10 (.op 11 (.nil)))))) (.op 2 (.alt (.op 8 (.op 7 (.op 10 (.op 11 (.nil))))) (.op 7 (.op 8 (.op 10 (.op 11 (.nil))))))))) (.op 2 (.alt (.op 8 (.alt (.op 9 (.op 7 (.op 10 (.op 11 (.nil))))) (.op 7 (.op 9 (.op 10 (.op 11 (.nil))))))) (.alt (.op 9 (.alt (.op 8 (.op 7 (.op 10 (.op 11 (.nil))))) (.op 7 (.op 8 (.op 10 (.op 11 (.nil))))))) (.op 7 (.alt (.op 8 (.op 9 (.op 10 (.op 11 (.nil))))) (.op 9 (.op 8 (.op 10 (.op 11 (.nil)))))))))))))))))) (by kernel_rfl) ?_
  rw [← hU]
  have fU:=zaa bU fX
  refine⟨exC x q c,zau _ _ _,zab fU,hlt fU,?_⟩
  refine⟨by decide,((m.toNat%6:Nat):Int),by show ((m.toNat:Int)).tmod 6=_;rw [Int.tmod_eq_emod_of_nonneg (by omega)];omega,?_⟩
  refine⟨(m2.toNat:Int),by rw [hm2];exact (ze5 (by omega)).trans (by omega),?_⟩
  refine⟨exC x q c,zau _ _ _,zab fU,hlt fU,?_⟩
  refine And.intro ?_ (And.intro ?_ ?_)
  ·refine⟨hba _ _,?_⟩
   have c1:=bU.alloc bU.size zR
   have z1:=World.size_alloc U zR
   have y1:=bU.size
   refine And.intro ?_ ?_
   ·refine⟨hba _ _,?_⟩
    have c2:=c1.alloc c1.size zR
    have z2:=World.size_alloc (U.alloc zR) zR
    have y2:=c1.size
    refine Calls.mono (kA c2) ?_
    rintro e G3 ⟨rfl,v3⟩
    refine⟨v3,?_⟩
    have c3:=c2.trans (v3.mono c2.size)
    have y3:((U.alloc zR).alloc zR).heap.size≤G3.heap.size:=v3.size
    refine Calls.mono (kB c3) ?_
    rintro e G4 ⟨rfl,v4⟩
    refine⟨v4,?_⟩
    have c4:=c3.trans (v4.mono c3.size)
    have y4:G3.heap.size≤G4.heap.size:=v4.size
    refine zaI (A:=A) (B:=B) (b1:=U.heap.size) (b2:=(U.alloc zR).heap.size) c4 (zaa v4 (zaa v3 (hold zR (hnew U zR)))) (zaa v4 (zaa v3 (hnew (U.alloc zR) zR))) (by omega) (by omega) fun D hD=>?_
    refine zaF (A:=A) (B:=B) (b1:=U.heap.size) (b2:=(U.alloc zR).heap.size) hD (by omega) (by omega) fun F hF=>?_
    exact⟨(U.heap.size,(U.alloc zR).heap.size),(cvE rfl rfl),hF.1,hF.2.1,zaa hF.2.2 fX,hbX.trans (hF.2.2.mono hbX.size)⟩
   ·refine Calls.mono (kA c1) ?_
    rintro e G5 ⟨rfl,v5⟩
    refine⟨v5,?_⟩
    have c5:=c1.trans (v5.mono c1.size)
    have y5:(U.alloc zR).heap.size≤G5.heap.size:=v5.size
    refine And.intro ?_ ?_
    ·refine⟨hba _ _,?_⟩
     have c6:=c5.alloc c5.size zR
     have z6:=World.size_alloc G5 zR
     have y6:=c5.size
     refine Calls.mono (kB c6) ?_
     rintro e G7 ⟨rfl,v7⟩
     refine⟨v7,?_⟩
     have c7:=c6.trans (v7.mono c6.size)
     have y7:(G5.alloc zR).heap.size≤G7.heap.size:=v7.size
     refine zaI (A:=A) (B:=B) (b1:=U.heap.size) (b2:=G5.heap.size) c7 (zaa v7 (hold zR (zaa v5 (hnew U zR)))) (zaa v7 (hnew G5 zR)) (by omega) (by omega) fun D hD=>?_
     refine zaF (A:=A) (B:=B) (b1:=U.heap.size) (b2:=G5.heap.size) hD (by omega) (by omega) fun F hF=>?_
     exact⟨(U.heap.size,G5.heap.size),(cvE rfl rfl),hF.1,hF.2.1,zaa hF.2.2 fX,hbX.trans (hF.2.2.mono hbX.size)⟩
    ·refine Calls.mono (kB c5) ?_
     rintro e G8 ⟨rfl,v8⟩
     refine⟨v8,?_⟩
     have c8:=c5.trans (v8.mono c5.size)
     have y8:G5.heap.size≤G8.heap.size:=v8.size
     refine⟨hba _ _,?_⟩
     have c9:=c8.alloc c8.size zR
     have z9:=World.size_alloc G8 zR
     have y9:=c8.size
     refine zaI (A:=A) (B:=B) (b1:=U.heap.size) (b2:=G8.heap.size) c9 (hold zR (zaa v8 (zaa v5 (hnew U zR)))) (hnew G8 zR) (by omega) (by omega) fun D hD=>?_
     refine zaF (A:=A) (B:=B) (b1:=U.heap.size) (b2:=G8.heap.size) hD (by omega) (by omega) fun F hF=>?_
     exact⟨(U.heap.size,G8.heap.size),(cvE rfl rfl),hF.1,hF.2.1,zaa hF.2.2 fX,hbX.trans (hF.2.2.mono hbX.size)⟩
  ·refine⟨hba _ _,?_⟩
   have c10:=bU.alloc bU.size zR
   have z10:=World.size_alloc U zR
   have y10:=bU.size
   refine And.intro ?_ ?_
   ·refine⟨hba _ _,?_⟩
    have c11:=c10.alloc c10.size zR
    have z11:=World.size_alloc (U.alloc zR) zR
    have y11:=c10.size
    refine Calls.mono (kA c11) ?_
    rintro e G12 ⟨rfl,v12⟩
    refine⟨v12,?_⟩
    have c12:=c11.trans (v12.mono c11.size)
    have y12:((U.alloc zR).alloc zR).heap.size≤G12.heap.size:=v12.size
    refine Calls.mono (kB c12) ?_
    rintro e G13 ⟨rfl,v13⟩
    refine⟨v13,?_⟩
    have c13:=c12.trans (v13.mono c12.size)
    have y13:G12.heap.size≤G13.heap.size:=v13.size
    refine zaI (A:=A) (B:=B) (b1:=(U.alloc zR).heap.size) (b2:=U.heap.size) c13 (zaa v13 (zaa v12 (hnew (U.alloc zR) zR))) (zaa v13 (zaa v12 (hold zR (hnew U zR)))) (by omega) (by omega) fun D hD=>?_
    refine zaF (A:=A) (B:=B) (b1:=(U.alloc zR).heap.size) (b2:=U.heap.size) hD (by omega) (by omega) fun F hF=>?_
    exact⟨((U.alloc zR).heap.size,U.heap.size),(cvE rfl rfl),hF.1,hF.2.1,zaa hF.2.2 fX,hbX.trans (hF.2.2.mono hbX.size)⟩
   ·refine Calls.mono (kA c10) ?_
    rintro e G14 ⟨rfl,v14⟩
    refine⟨v14,?_⟩
    have c14:=c10.trans (v14.mono c10.size)
    have y14:(U.alloc zR).heap.size≤G14.heap.size:=v14.size
    refine And.intro ?_ ?_
    ·refine⟨hba _ _,?_⟩
     have c15:=c14.alloc c14.size zR
     have z15:=World.size_alloc G14 zR
     have y15:=c14.size
     refine Calls.mono (kB c15) ?_
     rintro e G16 ⟨rfl,v16⟩
     refine⟨v16,?_⟩
     have c16:=c15.trans (v16.mono c15.size)
     have y16:(G14.alloc zR).heap.size≤G16.heap.size:=v16.size
     refine zaI (A:=A) (B:=B) (b1:=G14.heap.size) (b2:=U.heap.size) c16 (zaa v16 (hnew G14 zR)) (zaa v16 (hold zR (zaa v14 (hnew U zR)))) (by omega) (by omega) fun D hD=>?_
     refine zaF (A:=A) (B:=B) (b1:=G14.heap.size) (b2:=U.heap.size) hD (by omega) (by omega) fun F hF=>?_
     exact⟨(G14.heap.size,U.heap.size),(cvE rfl rfl),hF.1,hF.2.1,zaa hF.2.2 fX,hbX.trans (hF.2.2.mono hbX.size)⟩
    ·refine Calls.mono (kB c14) ?_
     rintro e G17 ⟨rfl,v17⟩
     refine⟨v17,?_⟩
     have c17:=c14.trans (v17.mono c14.size)
     have y17:G14.heap.size≤G17.heap.size:=v17.size
     refine⟨hba _ _,?_⟩
     have c18:=c17.alloc c17.size zR
     have z18:=World.size_alloc G17 zR
     have y18:=c17.size
     refine zaI (A:=A) (B:=B) (b1:=G17.heap.size) (b2:=U.heap.size) c18 (hnew G17 zR) (hold zR (zaa v17 (zaa v14 (hnew U zR)))) (by omega) (by omega) fun D hD=>?_
     refine zaF (A:=A) (B:=B) (b1:=G17.heap.size) (b2:=U.heap.size) hD (by omega) (by omega) fun F hF=>?_
     exact⟨(G17.heap.size,U.heap.size),(cvE rfl rfl),hF.1,hF.2.1,zaa hF.2.2 fX,hbX.trans (hF.2.2.mono hbX.size)⟩
  ·refine Calls.mono (kA bU) ?_
   rintro e G19 ⟨rfl,v19⟩
   refine⟨v19,?_⟩
   have c19:=bU.trans (v19.mono bU.size)
   have y19:U.heap.size≤G19.heap.size:=v19.size
   refine And.intro ?_ (And.intro ?_ ?_)
   ·refine⟨hba _ _,?_⟩
    have c20:=c19.alloc c19.size zR
    have z20:=World.size_alloc G19 zR
    have y20:=c19.size
    refine And.intro ?_ ?_
    ·refine⟨hba _ _,?_⟩
     have c21:=c20.alloc c20.size zR
     have z21:=World.size_alloc (G19.alloc zR) zR
     have y21:=c20.size
     refine Calls.mono (kB c21) ?_
     rintro e G22 ⟨rfl,v22⟩
     refine⟨v22,?_⟩
     have c22:=c21.trans (v22.mono c21.size)
     have y22:((G19.alloc zR).alloc zR).heap.size≤G22.heap.size:=v22.size
     refine zaI (A:=A) (B:=B) (b1:=G19.heap.size) (b2:=(G19.alloc zR).heap.size) c22 (zaa v22 (hold zR (hnew G19 zR))) (zaa v22 (hnew (G19.alloc zR) zR)) (by omega) (by omega) fun D hD=>?_
     refine zaF (A:=A) (B:=B) (b1:=G19.heap.size) (b2:=(G19.alloc zR).heap.size) hD (by omega) (by omega) fun F hF=>?_
     exact⟨(G19.heap.size,(G19.alloc zR).heap.size),(cvE rfl rfl),hF.1,hF.2.1,zaa hF.2.2 fX,hbX.trans (hF.2.2.mono hbX.size)⟩
    ·refine Calls.mono (kB c20) ?_
     rintro e G23 ⟨rfl,v23⟩
     refine⟨v23,?_⟩
     have c23:=c20.trans (v23.mono c20.size)
     have y23:(G19.alloc zR).heap.size≤G23.heap.size:=v23.size
     refine⟨hba _ _,?_⟩
     have c24:=c23.alloc c23.size zR
     have z24:=World.size_alloc G23 zR
     have y24:=c23.size
     refine zaI (A:=A) (B:=B) (b1:=G19.heap.size) (b2:=G23.heap.size) c24 (hold zR (zaa v23 (hnew G19 zR))) (hnew G23 zR) (by omega) (by omega) fun D hD=>?_
     refine zaF (A:=A) (B:=B) (b1:=G19.heap.size) (b2:=G23.heap.size) hD (by omega) (by omega) fun F hF=>?_
     exact⟨(G19.heap.size,G23.heap.size),(cvE rfl rfl),hF.1,hF.2.1,zaa hF.2.2 fX,hbX.trans (hF.2.2.mono hbX.size)⟩
   ·refine⟨hba _ _,?_⟩
    have c25:=c19.alloc c19.size zR
    have z25:=World.size_alloc G19 zR
    have y25:=c19.size
    refine And.intro ?_ ?_
    ·refine⟨hba _ _,?_⟩
     have c26:=c25.alloc c25.size zR
     have z26:=World.size_alloc (G19.alloc zR) zR
     have y26:=c25.size
     refine Calls.mono (kB c26) ?_
     rintro e G27 ⟨rfl,v27⟩
     refine⟨v27,?_⟩
     have c27:=c26.trans (v27.mono c26.size)
     have y27:((G19.alloc zR).alloc zR).heap.size≤G27.heap.size:=v27.size
     refine zaI (A:=A) (B:=B) (b1:=(G19.alloc zR).heap.size) (b2:=G19.heap.size) c27 (zaa v27 (hnew (G19.alloc zR) zR)) (zaa v27 (hold zR (hnew G19 zR))) (by omega) (by omega) fun D hD=>?_
     refine zaF (A:=A) (B:=B) (b1:=(G19.alloc zR).heap.size) (b2:=G19.heap.size) hD (by omega) (by omega) fun F hF=>?_
     exact⟨((G19.alloc zR).heap.size,G19.heap.size),(cvE rfl rfl),hF.1,hF.2.1,zaa hF.2.2 fX,hbX.trans (hF.2.2.mono hbX.size)⟩
    ·refine Calls.mono (kB c25) ?_
     rintro e G28 ⟨rfl,v28⟩
     refine⟨v28,?_⟩
     have c28:=c25.trans (v28.mono c25.size)
     have y28:(G19.alloc zR).heap.size≤G28.heap.size:=v28.size
     refine⟨hba _ _,?_⟩
     have c29:=c28.alloc c28.size zR
     have z29:=World.size_alloc G28 zR
     have y29:=c28.size
     refine zaI (A:=A) (B:=B) (b1:=G28.heap.size) (b2:=G19.heap.size) c29 (hnew G28 zR) (hold zR (zaa v28 (hnew G19 zR))) (by omega) (by omega) fun D hD=>?_
     refine zaF (A:=A) (B:=B) (b1:=G28.heap.size) (b2:=G19.heap.size) hD (by omega) (by omega) fun F hF=>?_
     exact⟨(G28.heap.size,G19.heap.size),(cvE rfl rfl),hF.1,hF.2.1,zaa hF.2.2 fX,hbX.trans (hF.2.2.mono hbX.size)⟩
   ·refine Calls.mono (kB c19) ?_
    rintro e G30 ⟨rfl,v30⟩
    refine⟨v30,?_⟩
    have c30:=c19.trans (v30.mono c19.size)
    have y30:G19.heap.size≤G30.heap.size:=v30.size
    refine And.intro ?_ ?_
    ·refine⟨hba _ _,?_⟩
     have c31:=c30.alloc c30.size zR
     have z31:=World.size_alloc G30 zR
     have y31:=c30.size
     refine⟨hba _ _,?_⟩
     have c32:=c31.alloc c31.size zR
     have z32:=World.size_alloc (G30.alloc zR) zR
     have y32:=c31.size
     refine zaI (A:=A) (B:=B) (b1:=G30.heap.size) (b2:=(G30.alloc zR).heap.size) c32 (hold zR (hnew G30 zR)) (hnew (G30.alloc zR) zR) (by omega) (by omega) fun D hD=>?_
     refine zaF (A:=A) (B:=B) (b1:=G30.heap.size) (b2:=(G30.alloc zR).heap.size) hD (by omega) (by omega) fun F hF=>?_
     exact⟨(G30.heap.size,(G30.alloc zR).heap.size),(cvE rfl rfl),hF.1,hF.2.1,zaa hF.2.2 fX,hbX.trans (hF.2.2.mono hbX.size)⟩
    ·refine⟨hba _ _,?_⟩
     have c33:=c30.alloc c30.size zR
     have z33:=World.size_alloc G30 zR
     have y33:=c30.size
     refine⟨hba _ _,?_⟩
     have c34:=c33.alloc c33.size zR
     have z34:=World.size_alloc (G30.alloc zR) zR
     have y34:=c33.size
     refine zaI (A:=A) (B:=B) (b1:=(G30.alloc zR).heap.size) (b2:=G30.heap.size) c34 (hnew (G30.alloc zR) zR) (hold zR (hnew G30 zR)) (by omega) (by omega) fun D hD=>?_
     refine zaF (A:=A) (B:=B) (b1:=(G30.alloc zR).heap.size) (b2:=G30.heap.size) hD (by omega) (by omega) fun F hF=>?_
     exact⟨((G30.alloc zR).heap.size,G30.heap.size),(cvE rfl rfl),hF.1,hF.2.1,zaa hF.2.2 fX,hbX.trans (hF.2.2.mono hbX.size)⟩
 clear fX hbX
 clear X
 rintro⟨P1,P2⟩ X ⟨f1,f2,fX,hbX⟩
 dsimp only at f1 f2 ⊢
 refine⟨Nat,fun G=>⟨[(4,At0 L),(16,At0 P2),(17,At0 G),(18,i64 0)],[]⟩,fun G V=>RelH V G (zaV A x.po).1∧RelH V P2 B∧ExH V L x q c∧Below w.heap.size w V,?_,?_⟩
 ·refine⟨relC A,zad _,zab f1,hlt f1,?_⟩
  refine⟨relC x.po,zad _,zaN fX (i:=0) (by decide) rfl,hlt fX,?_⟩
  refine Calls.mono (zgi wA hv.po) ?_
  rintro e V ⟨rfl,hbV⟩
  rw [a0]
  refine zap (X:=V) (v := .agg (relC (zaV A x.po).1).toArray) (ttOk.get 27 _ rfl) (zad _) (by kernel_rfl) (zav _) fun S hbS fS sS=>?_
  have b2:=hbV.trans (hbS.mono hbV.size)
  exact⟨V.heap.size,(cvE rfl rfl),fS,zaa b2 f2,zaa b2 fX,hbX.trans (b2.mono hbX.size)⟩
 clear f1 f2 fX hbX P1
 clear X
 rintro G1 X ⟨f1,f2,fX,hbX⟩
 refine⟨Nat,fun G=>⟨[(4,At0 L),(17,At0 G1),(18,i64 0),(19,At0 G),(20,i64 0)],[]⟩,fun G V=>RelH V G (zaV B x.po).1∧RelH V G1 (zaV A x.po).1∧ExH V L x q c∧Below w.heap.size w V,?_,?_⟩
 ·refine⟨relC B,zad _,zab f2,hlt f2,?_⟩
  refine⟨relC x.po,zad _,zaN fX (i:=0) (by decide) rfl,hlt fX,?_⟩
  refine Calls.mono (zgi wB hv.po) ?_
  rintro e V ⟨rfl,hbV⟩
  rw [b0]
  refine zap (X:=V) (v := .agg (relC (zaV B x.po).1).toArray) (ttOk.get 27 _ rfl) (zad _) (by kernel_rfl) (zav _) fun S hbS fS sS=>?_
  have b2:=hbV.trans (hbS.mono hbV.size)
  exact⟨V.heap.size,(cvE rfl rfl),fS,zaa b2 f1,zaa b2 fX,hbX.trans (b2.mono hbX.size)⟩
 clear f1 f2 fX hbX P2
 clear X
 rintro G2 X ⟨f2,f1,fX,hbX⟩
 obtain⟨c0,c1⟩:=zmd hx
 obtain⟨F,hF⟩:=nm (frM x)
 obtain⟨C,hC⟩:=nm (locM x)
 have eF:frX x=F:=by rw [hF];exact if_pos hri
 have eC:locX x=C:=by rw [hC];exact if_pos hri
 have wF:WrdR F.to:=by rw [hF];exact (zi7 hx).w
 have wC:WrdR C.to:=by rw [hC];exact (zic hx).w
 rw [← hF,← hC] at c0 c1
 refine⟨Nat,fun G=>⟨[(4,At0 L),(17,At0 G1),(18,i64 0),(19,At0 G2),(20,i64 0),(21,At0 G),(22,i64 0)],[]⟩,fun G V=>RelH V G (zaV F C).1∧RelH V G2 (zaV B x.po).1∧RelH V G1 (zaV A x.po).1∧ExH V L x q c∧Below w.heap.size w V,?_,?_⟩
 ·obtain⟨U,hU⟩:=nm (X.drew)
  have bU:Below X.heap.size X U:=by rw [hU];exact (Below.refl _ _).drew
  have fU:=zaa bU fX
  have kF:∀ {W:World},Below X.heap.size X W→Calls Tryz.prog 18 #[.agg (exC x q c).toArray] W fun e w'=>e = .returned (.agg (relC F).toArray)∧Below W.heap.size W w':=fun {W} hW=>by
   have h2:=hbX.trans (hW.mono hbX.size)
   rw [← eF]
   exact zqf (hv.below h2) (hG.t64.below h2)
  have kC:∀ {W:World},Below X.heap.size X W→Calls Tryz.prog 19 #[.agg (exC x q c).toArray] W fun e w'=>e = .returned (.agg (relC C).toArray)∧Below W.heap.size W w':=fun {W} hW=>by
   have h2:=hbX.trans (hW.mono hbX.size)
   rw [← eC]
   exact zp8 (hv.below h2) (hG.t64.below h2)
  have fin:∀ {b3:Nat} {Y:World},RelH Y b3 (zaV F C).1∧Below X.heap.size X Y→RelH Y b3 (zaV F C).1∧RelH Y G2 (zaV B x.po).1∧RelH Y G1 (zaV A x.po).1∧ExH Y L x q c∧Below w.heap.size w Y:=fun h=>⟨h.1,zaa h.2 f2,zaa h.2 f1,zaa h.2 fX,hbX.trans (h.2.mono hbX.size)⟩
  refine DrawE.treeQ [9] (.op 0 (.op 2 (.alt (.op 8 (.op 1 (.op 3 (.op 4 (.op 5 (.op 6 (.op 7 (.op 9 (.op 10 .nil))))))))) (.op 1 (.alt (.op 8 (.op 3 (.op 4 (.op 5 (.op 6 (.op 7 (.op 9 (.op 10 .nil)))))))) (.op 3 (.alt (.op 8 (.op 4 (.op 5 (.op 6 (.op 7 (.op 9 (.op 10 .nil))))))) (.op 4 (.op 5 (.op 6 (.op 7 (.op 8 (.op 9 (.op 10 .nil)))))))))))))) (by kernel_rfl) ?_
  rw [← hU]
  refine⟨exC x q c,zau _ _ _,zab fU,hlt fU,?_⟩
  refine⟨exC x q c,zau _ _ _,zab fU,hlt fU,?_⟩
  refine And.intro ?_ ?_
  ·refine⟨hba _ _,?_⟩
   have dq0a:=bU.alloc bU.size zR
   have eq0a:=bU.size
   refine Calls.mono (kF dq0a) ?_
   rintro e Vq0z ⟨rfl,vq0z⟩
   refine⟨vq0z,?_⟩
   have dq0z:=dq0a.trans (vq0z.mono dq0a.size)
   refine Calls.mono (kC dq0z) ?_
   rintro e Vq1z ⟨rfl,vq1z⟩
   refine⟨vq1z,?_⟩
   have dq1z:=dq0z.trans (vq1z.mono dq0z.size)
   refine Calls.mono (zgi wF wC) ?_
   rintro e Vq2z ⟨rfl,vq2z⟩
   refine⟨vq2z,?_⟩
   have dq2z:=dq1z.trans (vq2z.mono dq1z.size)
   rw [c0]
   refine zeb dq2z (zaa vq2z (zaa vq1z (zaa vq0z (hnew U zR)))) (by omega) fun Y hY=>?_
   exact⟨U.heap.size,(cvE rfl rfl),fin hY⟩
  ·refine Calls.mono (kF bU) ?_
   rintro e Vq0 ⟨rfl,vq0⟩
   refine⟨vq0,?_⟩
   have dq0:=bU.trans (vq0.mono bU.size)
   refine And.intro ?_ ?_
   ·refine⟨hba _ _,?_⟩
    have dq1a:=dq0.alloc dq0.size zR
    have eq1a:=dq0.size
    refine Calls.mono (kC dq1a) ?_
    rintro e Vq1z ⟨rfl,vq1z⟩
    refine⟨vq1z,?_⟩
    have dq1z:=dq1a.trans (vq1z.mono dq1a.size)
    refine Calls.mono (zgi wF wC) ?_
    rintro e Vq2z ⟨rfl,vq2z⟩
    refine⟨vq2z,?_⟩
    have dq2z:=dq1z.trans (vq2z.mono dq1z.size)
    rw [c0]
    refine zeb dq2z (zaa vq2z (zaa vq1z (hnew Vq0 zR))) (by omega) fun Y hY=>?_
    exact⟨Vq0.heap.size,(cvE rfl rfl),fin hY⟩
   ·refine Calls.mono (kC dq0) ?_
    rintro e Vq1 ⟨rfl,vq1⟩
    refine⟨vq1,?_⟩
    have dq1:=dq0.trans (vq1.mono dq0.size)
    refine And.intro ?_ ?_
    ·refine⟨hba _ _,?_⟩
     have dq2a:=dq1.alloc dq1.size zR
     have eq2a:=dq1.size
     refine Calls.mono (zgi wF wC) ?_
     rintro e Vq2z ⟨rfl,vq2z⟩
     refine⟨vq2z,?_⟩
     have dq2z:=dq2a.trans (vq2z.mono dq2a.size)
     rw [c0]
     refine zeb dq2z (zaa vq2z (hnew Vq1 zR)) (by omega) fun Y hY=>?_
     exact⟨Vq1.heap.size,(cvE rfl rfl),fin hY⟩
    ·refine Calls.mono (zgi wF wC) ?_
     rintro e Vq2 ⟨rfl,vq2⟩
     refine⟨vq2,?_⟩
     have dq2:=dq1.trans (vq2.mono dq1.size)
     rw [c0]
     refine⟨hba _ _,?_⟩
     have dq3a:=dq2.alloc dq2.size zR
     have eq3a:=dq2.size
     refine zeb dq3a (hnew Vq2 zR) (by omega) fun Y hY=>?_
     exact⟨Vq2.heap.size,(cvE rfl rfl),fin hY⟩
 clear f1 f2 fX hbX
 clear X
 rintro G3 X ⟨f3,f2,f1,fX,hbX⟩
 have hrr:=hx.po
 have hfit:zdC x x.po=true:=by unfold zdC;rw [hrr.ok,decide_eq_true hrr.n,hri];rfl
 have hint:zcI (intX x x.po) x.po=true:=by
  have e:intX x x.po=intM x x.po:=if_pos hfit
  rw [e]
  exact zkv hx
 refine⟨Unit,fun _=>⟨[(4,At0 L)],[]⟩,fun _ V=>ExH V L x q c∧Below w.heap.size w V,?_,?_⟩
 ·have dX:Below X.heap.size X X.drew:=(Below.refl _ _).drew
  refine DrawE.ord [] [0,1,2,3,4,5,6,7,8,9,10,11,12,13,14,15,16,17,18,19,20,21,22,23,24,26,27,25,28,29] (by kernel_rfl) ?_
  refine⟨0,rfl,?_⟩
  refine⟨0,rfl,?_⟩
  refine brN (show (!decide ((0:Int)=0))=false from rfl) ?_
  refine⟨relC (zaV A x.po).1,zad _,zab (hdr f1),hlt (hdr f1),?_⟩
  refine Calls.mono (zfN (zfn wA)) ?_
  rintro e Y ⟨rfl,h1⟩
  refine⟨h1,?_⟩
  have d1:=dX.trans h1
  rw [a1]
  refine brF ?_
  refine⟨relC (zaV B x.po).1,zad _,zab (zaa d1 f2),hlt (zaa d1 f2),?_⟩
  refine Calls.mono (zfN (zfn wB)) ?_
  rintro e Z ⟨rfl,h2⟩
  refine⟨h2,?_⟩
  have d2:=d1.trans (h2.mono d1.size)
  rw [b1]
  refine brF ?_
  refine⟨relC (zaV F C).1,zad _,zab (zaa d2 f3),hlt (zaa d2 f3),?_⟩
  refine Calls.mono (zfN (zfn wF)) ?_
  rintro e V ⟨rfl,h3⟩
  refine⟨h3,?_⟩
  have d3:=d2.trans (h3.mono d2.size)
  rw [c1]
  refine brF ?_
  have fV:=zaa d3 fX
  have bV:=hbX.trans (d3.mono hbX.size)
  refine⟨exC x q c,zau _ _ _,zab fV,hlt fV,?_⟩
  refine⟨relC x.po,zad _,zaN fV (i:=0) (by decide) rfl,hlt fV,?_⟩
  refine⟨relC x.po,zad _,zaN fV (i:=0) (by decide) rfl,hlt fV,?_⟩
  refine Calls.mono (znt (hv.below bV) hv.po (hG.t64.below bV)) ?_
  rintro e S ⟨rfl,h4⟩
  refine⟨h4,?_⟩
  refine⟨_,fun w=>zk5 _ _ _ _ w,?_⟩
  rw [hint]
  refine brF ?_
  exact⟨(),(cvE rfl rfl),zaa h4 fV,bV.trans (h4.mono bV.size)⟩
 clear f1 f2 f3 fX hbX
 clear X
 rintro _ X ⟨fX,hbX⟩
 refine⟨Unit,fun _=>⟨[],[]⟩,fun _ Y=>Below w.heap.size w Y,?_,?_⟩
 ·refine⟨exC x q c,zau _ _ _,zab fX,hlt fX,?_⟩
  refine Calls.mono (zqf (hv.below hbX) (hG.t64.below hbX)) ?_
  rintro e Y ⟨rfl,hbY⟩
  have bY:=hbX.trans (hbY.mono hbX.size)
  rw [eF]
  refine Calls.mono (zoS wF (hG.t64.below bY)) ?_
  rintro e Z ⟨⟨qp,cp,rfl,rP⟩,hbZ⟩
  have bZ:=bY.trans (hbZ.mono bY.size)
  have fZ:=zaa hbZ (zaa hbY fX)
  obtain⟨ps,hps⟩:=nm (zbK F)
  rw [← hps] at rP ⊢
  refine⟨Nat,fun k=>⟨[(4,At0 L),(140,.slice qp ps.length cp),(141,i64 ps.length),(142,i64 (k:Nat))],[]⟩,fun k V=>k≤ps.length∧SlR pr2E V qp ps∧ExH V L x q c∧Below w.heap.size w V,fun k=>ps.length-k,0,
   (cvE rfl rfl),⟨Nat.zero_le _,rP,fZ,bZ⟩,?_⟩
  clear rP fZ bZ hbZ bY hbY fX hbX
  clear X Y Z
  rintro k V ⟨hk,rV,fV,bV⟩
  dsimp only
  refine biE (fun hc=>?_) fun hc=>?_
  ·have hc:(k:Int)<(ps.length:Int):=of_decide_eq_true hc
   have hkl:k<ps.length:=by omega
   have hpl:ps.length≤64*48:=by rw [hps];exact zjP F
   obtain⟨p,hp⟩:∃ p,ps[k]=p:=⟨_,rfl⟩
   have hpm:p∈zbK F:=by rw [← hps,← hp];exact List.getElem_mem hkl
   obtain⟨hn1,hbit⟩:=zla hpm
   have hFo:=zi7 hx
   rw [← hF] at hFo
   have hi:p.1<x.ev.length:=by have:=hFo.n;omega
   have hj:p.2<x.ev.length:=(hFo.bit (by omega) hbit).2
   rw [hF] at hbit
   obtain⟨g1,g2,g3,g4⟩:=zi8 hx hi hj hbit
   obtain⟨bp,op,hq,hbp,hat⟩:=rV.at hkl
   have hatk:=hat k hkl
   rw [hp] at hatk
   have hatk:zay V ⟨bp,op+k*2,none⟩ [i64 p.1,i64 p.2]:=hatk
   have hq0:some (Value.slice qp ps.length cp)=some (Value.slice (some ⟨bp,op,none⟩) ps.length cp):=by rw [hq]
   have evs:=(hv.below bV).ev
   subst hq
   refine⟨k,rfl,hkl,?_⟩
   refine⟨[i64 p.1,i64 p.2],rfl,hatk,hbp,?_⟩
   refine zap (X:=V) (v := .agg #[i64 p.1,i64 p.2]) (ttOk.get 52 _ rfl) rfl rfl rfl fun U hbU fU sU=>?_
   have fU:U.heap[V.heap.size]?=some (.cells #[i64 p.1,i64 p.2] 52 (0,0)):=fU
   have gU:=zaa hbU fV
   have bU:=bV.trans (hbU.mono bV.size)
   obtain⟨b1,o1,hq1,hl1,at1⟩:=zcD (evs.below hbU) hi
   obtain⟨b2,o2,hq2,hl2,at2⟩:=zcD (evs.below hbU) hj
   have g1:(evA x p.1).k=1:=of_decide_eq_true g1
   have g2:(evA x p.2).k=2:=of_decide_eq_true g2
   have e0:(exC x q c)[0]?=some (.slice q x.ev.length c):=rfl
   have ld:=za9 (zab gU)
   rw [hq1] at hq2 ld
   simp only [Option.some.injEq,Addr.mk.injEq,and_true] at hq2
   rw [← hq2.1,← hq2.2] at at2
   have l0:U.cell? ⟨V.heap.size,0+0*1,none⟩=some (i64 p.1):=zac (zab fU) (i:=0) rfl
   have l1:U.cell? ⟨V.heap.size,0+1*1,none⟩=some (i64 p.2):=zac (zab fU) (i:=1) rfl
   refine⟨_,ld,?_⟩
   refine⟨0,rfl,by decide,?_⟩
   refine⟨_,l0,?_⟩
   refine⟨p.1,rfl,hi,?_⟩
   refine⟨u8 (evA x p.1).k,by have:=zac at1 (i:=1) (v:=u8 (evA x p.1).k) rfl;exact this,?_⟩
   refine brN (by rw [g1];rfl) ?_
   refine⟨_,ld,?_⟩
   refine⟨1,rfl,by decide,?_⟩
   refine⟨_,l1,?_⟩
   refine⟨p.2,rfl,hj,?_⟩
   refine⟨u8 (evA x p.2).k,by have:=zac at2 (i:=1) (v:=u8 (evA x p.2).k) rfl;exact this,?_⟩
   refine brN (by rw [g2];rfl) ?_
   refine⟨relC x.rf,zad _,zaN gU (i:=1) (by decide) rfl,hlt gU,?_⟩
   refine⟨1,rfl,by decide,?_⟩
   refine⟨_,l1,?_⟩
   refine⟨0,rfl,by decide,?_⟩
   refine⟨_,l0,?_⟩
   refine Calls.mono (zqE (a:=p.2) (b:=p.1) hv.rf) ?_
   rintro e T ⟨rfl,hbT⟩
   have e9:zhw x.rf p.2 p.1=false:=by unfold zhw;rw [g4,Bool.and_false,Bool.and_false,Bool.and_false]
   rw [e9]
   refine brF ?_
   refine⟨((k+1:Nat):Int),(zaf (by omega)).trans (by omega),?_⟩
   exact⟨k+1,(cvE rfl rfl),⟨hkl,(rV.below hbU).below hbT,zaa hbT gU,bU.trans (hbT.mono bU.size)⟩,by show ps.length-(k+1)<ps.length-k;omega⟩
  ·exact⟨(),⟨.nil,rfl⟩,bV⟩
 rintro _ Y hbY
 refine Calls.mono (zlP (hG.below hbY)) ?_
 rintro e Z ⟨rfl,hbZ⟩
 exact⟨rfl,hbY.trans (hbZ.mono hbY.size)⟩
end
end Go.Proofs.YtmbghmhjjodgmaaGreatDoor
namespace Go.Proofs.YtmbghmhjjodgmaaGreatDoor
open Go.Vc Go.RowKit Go.Sei
open Go.ChangeShapes Go.WideShapes Go.ChangeAt
section
variable {H:Type} {enc:TypeId×Value→H} {P:Program} {w:World} {base:Nat} {spare:Nat→Bool} {held:Bool} {fuel:Nat} {t:TypeId} {cs:List Value} {x:DataW H×List MemPlace}
theorem zk0 (ht:P.underlying t=some (.int .u8)) (h:DataW.trod enc P w base spare held fuel t cs=some x):∃ b:UInt8,cs=[u8 b]∧x.1 = .lit (.int .u8 b.toNat):=by
 obtain⟨n,rfl,rfl,hw⟩:=DataW.trod_int ht h
 have hb:=bounds_u8 hw
 have e:((UInt8.ofNat n.toNat).toNat:Int)=n:=by
  rw [UInt8.toNat_ofNat'];omega
 exact⟨UInt8.ofNat n.toNat,by rw [u8,e],by rw [e]⟩
theorem zeR {n:Nat} {e:TypeId} (ht:P.underlying t=some (.array n e)) (he:P.underlying e=some (.int .u8)) (hc:P.cellsOf e=1) (hn:P.cellsOf t=n)
  (h:DataW.trod enc P w base spare held fuel t cs=some x):∃ bs:List UInt8,bs.length=n∧cs=bs.map u8∧x.1 = .agg (bs.map fun b => .lit (.int .u8 b.toNat)):=by
 obtain⟨xs,m,rfl,rfl,hl,hx,hel⟩:=DataW.trod_array ht h
 rw [hn] at hl
 have each:∀ i (h:i<n),∃ b:UInt8,cs[i]?=some (u8 b)∧xs[i]?.map (·.1)=some (.lit (.int .u8 b.toNat)):=fun i hi=>by
  have h1:=hel i hi
  rw [hc,List.getElem?_eq_getElem (by omega)] at h1
  obtain⟨b,h2,h3⟩:=zk0 he h1
  refine⟨b,?_,by rw [List.getElem?_eq_getElem (by omega),Option.map_some,h3]⟩
  have:((cs.drop (i*1)).take 1)[0]?=some (u8 b):=by rw [h2];rfl
  simpa using this
 have:∀ k,k≤n→∃ bs:List UInt8,bs.length=k∧cs.take k=bs.map u8∧(xs.take k).map (·.1)=bs.map fun b => .lit (.int .u8 b.toNat):=by
  intro k
  induction k with
  | zero=>exact fun _=>⟨[],rfl,by simp,by simp⟩
  | succ k ih =>
   intro hk
   obtain⟨bs,h1,h2,h3⟩:=ih (by omega)
   obtain⟨b,h4,h5⟩:=each k (by omega)
   have hk1:k<cs.length:=by omega
   have hk2:k<xs.length:=by omega
   rw [List.getElem?_eq_getElem hk1] at h4
   rw [List.getElem?_eq_getElem hk2] at h5
   refine⟨bs++[b],by simp [h1],?_,?_⟩
   ·rw [List.take_succ_eq_append_getElem hk1,h2,Option.some.inj h4];simp
   ·rw [List.take_succ_eq_append_getElem hk2,List.map_append,h3]
    simp at h5
    simp [h5]
 obtain⟨bs,h1,h2,h3⟩:=this n (Nat.le_refl _)
 rw [List.take_of_length_le (by omega)] at h2 h3
 exact⟨bs,h1,h2,by rw [← h3]⟩
end
theorem zeF:Tryz.prog.cellsOf 5=1:=by kernel_rfl
theorem zjp (b o i:Nat):(⟨b,o,none⟩:Addr).add i=⟨b,o+i,none⟩:=by
 unfold Addr.add
 by_cases h:i=0
 ·simp [h]
 ·simp [h]
section
variable {w:World} {base:Nat} {cs:List Value}
theorem zhF {a:Addr} {n:Nat} (hn:0<n) (h:w.cells? base a n=some cs):a.spot=none∧a.block<w.heap.size∧zay w ⟨a.block,a.off,none⟩ cs:=by
 obtain⟨_,hl,hc⟩:=World.cells?_some h
 have h0:=hc 0 hn
 rw [List.getElem?_eq_getElem (by omega)] at h0
 have hs:a.spot=none:=by simpa [Addr.add] using World.cell?_spot h0
 obtain⟨b,o,s⟩:=a
 dsimp only at hs
 subst hs
 refine⟨rfl,World.block_lt_of_cell? _ _ h0,zb8 fun i v hv=>?_⟩
 have hi:i<n:=by have:=(List.getElem?_eq_some_iff.1 hv).1;omega
 have:=(hc i hi).trans hv
 rw [zjp] at this
 exact this
end
theorem zmg:ownKnob Tryz.prog.godebug=none:=by kernel_rfl
theorem zcA:laidOutB Tryz.prog=true:=by kernel_rfl
section
variable {H:Type} {enc:TypeId×Value→H} {P:Program} {w:World} {base:Nat} {spare:Nat→Bool} {held:Bool} {fuel:Nat} {t e:TypeId} {cs:List Value} {x:DataW H×List MemPlace}
def Opens (enc:TypeId×Value→H) (P:Program) (w:World) (base:Nat) (spare:Nat→Bool) (held:Bool) (t:TypeId) (R:List Value→Prop):Prop :=
 ∀ fuel cs x,DataW.trod enc P w base spare held fuel t cs=some x→R cs
theorem Opens.field {fs:Array Field} {R:List Value→Prop} {i:Nat} {f:Field} {n:Nat} {xs:List (DataW H×List MemPlace)} {m:Nat} (hel:∀ (i:Nat) (f:Field),fs[i]?=some f→DataW.trod enc P w base spare held m f.type ((cs.drop f.offset).take (P.cellsOf f.type))=xs[i]?)
  (hl:xs.length=fs.size) (hi:fs[i]?=some f) {o:Nat} (hoo:f.offset=o) (hn:P.cellsOf f.type=n) (ho:Opens enc P w base spare held f.type R):R ((cs.drop o).take n):=by
 subst hoo
 have h1:=hel i f hi
 have:i<fs.size:=(Array.getElem?_eq_some_iff.1 hi).1
 rw [List.getElem?_eq_getElem (by omega),hn] at h1
 exact ho _ _ _ h1
theorem zdv (ht:P.underlying t=some (.int .u8)):Opens enc P w base spare held t fun cs=>∃ b:UInt8,cs=[u8 b]:=fun fuel cs x h=>by
 obtain⟨b,h,_⟩:=zk0 ht h
 exact⟨b,h⟩
theorem zhh (ht:P.underlying t=some (.int .i64)):Opens enc P w base spare held t fun cs=>∃ b:Int,cs=[.int .i64 b]:=fun fuel cs x h=>by
 obtain⟨n,h,_,_⟩:=DataW.trod_int ht h
 exact⟨n,h⟩
theorem zkZ (ht:P.underlying t=some (.int .u64)):Opens enc P w base spare held t fun cs=>∃ n:Nat,n<18446744073709551616∧cs=[.int .u64 (n:Int)]:=fun fuel cs x h=>by
 obtain⟨n,rfl,_,hw⟩:=DataW.trod_int ht h
 have hb:0≤n∧n≤18446744073709551615:=by
  simp only [Lit.wf,decide_eq_true_eq,Bool.and_eq_true] at hw
  first
   | exact⟨by simpa [IntKind.min,IntKind.signed,IntKind.bits] using hw.1,by simpa [IntKind.max,IntKind.signed,IntKind.bits] using hw.2⟩
   | (simp [IntKind.min,IntKind.max,IntKind.signed,IntKind.bits] at hw;omega)
 exact⟨n.toNat,by omega,by congr 2;omega⟩
theorem zhg {n:Nat} (ht:P.underlying t=some (.array n e)) (he:P.underlying e=some (.int .u8)) (hc:P.cellsOf e=1) (hn:P.cellsOf t=n):Opens enc P w base spare held t fun cs=>∃ bs:List UInt8,bs.length=n∧cs=bs.map u8:=fun fuel cs x h=>by
 obtain⟨bs,h1,h2,_⟩:=zeR ht he hc hn h
 exact⟨bs,h1,h2⟩
theorem zlb {β:Type} {n:Nat} (i0:β) {Q:Nat→β→Prop} (h:∀ i,i<n→∃ b,Q i b):∃ bs:List β,bs.length=n∧∀ i (hi:i<bs.length),Q i bs[i]:=by
 have h2:∀ i,∃ b,i<n→Q i b:=fun i=>by
  by_cases hi:i<n
  ·obtain⟨b,hb⟩:=h i hi;exact⟨b,fun _=>hb⟩
  ·exact⟨i0,fun h=>absurd h hi⟩
 obtain⟨g,hg⟩:=Classical.axiomOfChoice h2
 refine⟨(List.range n).map g,by simp,fun i hi=>?_⟩
 simp only [List.getElem_map,List.getElem_range]
 exact hg i (by simpa using hi)
theorem zlf {β:Type} {f:β→List Value} {sz:Nat}:∀ (bs:List β) (cs:List Value),cs.length=bs.length*sz→(∀ i (h:i<bs.length),(cs.drop (i*sz)).take sz=f bs[i])→cs=bs.flatMap f
 | [],cs,hl,_=>by simpa using hl
 | b::r,cs,hl,h=>by
  have h0:=h 0 (by simp)
  simp only [Nat.zero_mul,List.drop_zero,List.getElem_cons_zero] at h0
  rw [List.flatMap_cons,← h0]
  conv=>lhs;rw [← List.take_append_drop sz cs]
  congr 1
  refine zlf (sz:=sz) r (cs.drop sz) (by rw [List.length_drop,hl,List.length_cons,Nat.add_mul];omega) fun i hi=>?_
  have h1:=h (i+1) (by simpa using hi)
  rw [List.drop_drop]
  simpa [Nat.add_mul,Nat.add_comm] using h1
theorem zhi {β:Type} (i0:β) {f:β→List Value} {Q:β→Prop} {n sz:Nat} (ht:P.underlying t=some (.array n e)) (hc:P.cellsOf e=sz) (hn:P.cellsOf t=n*sz) (ho:Opens enc P w base spare held e fun cs=>∃ b,Q b∧cs=f b) :
  Opens enc P w base spare held t fun cs=>∃ bs:List β,bs.length=n∧(∀ b∈bs,Q b)∧cs=bs.flatMap f:=fun fuel cs x h=>by
 obtain⟨xs,m,rfl,rfl,hl,hx,hel⟩:=DataW.trod_array ht h
 rw [hn] at hl
 have each:∀ i,i<n→∃ b:β,Q b∧(cs.drop (i*sz)).take sz=f b:=fun i hi=>by
  have h1:=hel i hi
  rw [hc,List.getElem?_eq_getElem (by omega)] at h1
  exact ho _ _ _ h1
 obtain⟨bs,h1,h2⟩:=zlb i0 each
 refine⟨bs,h1,fun b hb=>?_,zlf bs cs (by rw [hl,h1]) fun i hi=>(h2 i hi).2⟩
 obtain⟨i,hi,rfl⟩:=List.getElem_of_mem hb
 exact (h2 i hi).1
theorem zmt {β:Type} (i0:β) {f:β→List Value} {Q:β→Prop} {sz:Nat} (hp:0<sz) (ht:P.underlying t=some (.slice e)) (hc:P.cellsOf e=sz) (ho:Opens enc P w base spare held e fun cs=>∃ b,Q b∧cs=f b) :
  Opens enc P w base spare held t fun cs=>∃ (p:Option Addr) (cap:Nat) (l:List β),cs=[.slice p l.length cap]∧l.length≤9223372036854775807∧(p=none→cap=0)∧(∀ b∈l,Q b)∧∃ b o,(l.length=0∨p=some ⟨b,o,none⟩)∧∀ i (hi:i<l.length),b<w.heap.size∧zay w ⟨b,o+i*sz,none⟩ (f l[i]):=fun fuel cs x h=>by
 rcases DataW.trod_slice ht h with ⟨rfl,_⟩ | ⟨a,len,cap,elems,rest,n,_,rfl,_,_,hlc,hcm,hlen,hel,_,_⟩
 ·exact⟨none,0,[],rfl,by simp,fun _=>rfl,by simp,0,0,.inl rfl,fun i hi=>by simp at hi⟩
 ·have each:∀ i,i<len→∃ m:β,Q m∧(a.add (i*sz)).spot=none∧(a.add (i*sz)).block<w.heap.size∧zay w ⟨(a.add (i*sz)).block,(a.add (i*sz)).off,none⟩ (f m):=fun i hi=>by
   have h1:=hel i hi
   rw [hc,List.getElem?_eq_getElem (by omega),Option.bind_eq_some_iff] at h1
   obtain⟨cs,h2,h3⟩:=h1
   obtain⟨m,hq,rfl⟩:=ho _ _ _ h3
   exact⟨m,hq,zhF hp h2⟩
  obtain⟨l,h1,h2⟩:=zlb i0 each
  have hm:maxLen=9223372036854775807:=rfl
  refine⟨some a,cap,l,by rw [h1],by omega,(fun h=>by cases h),fun b hb=>?_,a.block,a.off,?_,fun i hi=>?_⟩
  ·obtain⟨i,hi,rfl⟩:=List.getElem_of_mem hb
   exact (h2 i hi).1
  ·by_cases h00:l.length=0
   ·exact .inl h00
   ·right
    have hsp:a.spot=none:=by
     have:=(h2 0 (by omega)).2.1
     simpa [Addr.add] using this
    obtain⟨b,o,s⟩:=a
    dsimp only at hsp
    subst hsp
    rfl
  ·have hsp:a.spot=none:=by
    have:=(h2 0 (by omega)).2.1
    simpa [Addr.add] using this
   obtain⟨b,o,s⟩:=a
   dsimp only at hsp
   subst hsp
   have:=(h2 i hi).2.2
   rw [zjp] at this
   exact this
theorem cut (cs:List Value) (o n o':Nat) (h:o+n=o'):cs.drop o=(cs.drop o).take n++cs.drop o':=by
 rw [← h,← List.drop_drop,List.take_append_drop]
end
theorem cC (t n:Nat) (h:Tryz.prog.cellsOf t=n):Tryz.prog.cellsOf t=n:=h
theorem zen {H:Type} {enc:TypeId×Value→H} {a:Assume} {C:Checked} {os:Os} {f:FuncId} {fn:Func} {s:ChangeSpec} {conds:List PathCond} {apart fresh handsOn again:Bool} {X:World→Array Value→Prop}
  (hX:∀ (w w':World) (args:Array Value),w.heap=w'.heap→X w args→X w' args)
  (own:ownKnob C.prog.godebug=none) (started:os.Started) (noInit:C.prog.inits.idxOf? f=none) (hfn:C.prog.funcs[f]?=some fn)
  (witness:∃ (w:World) (tape:Tape) (i:Input),w.os=os∧(w.forCall tape i).Shaped C.prog∧i.vars=[]∧Input.okWide C.prog (w.forCall tape i) .any w.heap.size f i ∧
   ((s.pre enc C.prog fn conds apart (w.forCall tape i).memory i.args∧X (w.forCall tape i).memory i.args)∧sizedMet enc C.prog fn (OpenSpec.ofChange s) apart (w.forCall tape i).memory i.args)∧a.holds C.prog (lone (Frame.enter C.prog f i.args .normal) [] (w.forCall tape i)))
  (contract:∀ (W:World) (base:Nat) (args:Array Value) (ds gs:List (DataW H)) (before:List MemPlace),
   (∀ (j:Nat) t v,fn.params[j]?=some t→args[j]?=some v→Value.okWide C.prog W .any base t v) →
   DataW.Whole enc C.prog fn.params.toList s.vars apart W args.toList ds gs before→X W args→W.ShapedOpen C.prog →
   (∃ ds gs before,DataW.Whole enc C.prog fn.params.toList (OpenSpec.ofChange s).vars apart W args.toList ds gs before∧∀ n∈DataW.weightsEach C.prog (fn.params.toList++(OpenSpec.ofChange s).bare.plain.varTypes C.prog) (ds++gs),n≤reachBytes) →
   Calls C.prog f args W fun e W'=>∃ v,e = .returned v∧s.post enc C.prog fn apart fresh handsOn again W args v W') :
  ReturnsInHanded a C os f .any (fun w args=>(s.pre enc C.prog fn conds apart w args∧X w args)∧sizedMet enc C.prog fn (OpenSpec.ofChange s) apart w args) (s.post enc C.prog fn apart fresh handsOn again):=by
 refine returnsInHanded_of_calls own started noInit witness ?_
 intro w tape i _ hsh _ hok hpre hholds
 obtain⟨_,_,_,fn',hfn',_,_,_,_,hval⟩:=hok
 have e:fn'=fn:=Option.some.inj (hfn'.symm.trans hfn)
 subst e
 obtain⟨⟨⟨ds,gs,before,hw,hc⟩,hx⟩,hz⟩:=hpre
 have hw':=DataW.Whole.of_heap (w':=w.forCall tape i) (by rfl) hw
 obtain⟨_,ds2,gs2,before2,hw2,hall⟩:=hz
 refine (contract (w.forCall tape i) w.heap.size i.args ds gs before hval hw' (hX _ _ _ (by rfl) hx) hsh ⟨ds2,gs2,before2,DataW.Whole.of_heap (w':=w.forCall tape i) (by rfl) hw2,fun n hn=>of_decide_eq_true (List.all_eq_true.1 hall n hn)⟩).mono fun e W' ⟨v,he,hp⟩=>?_
 subst he
 exact ChangeSpec.post_blind hp
theorem zgB {H:Type}:∀ {a b:List UInt8},a.map (fun b=>(DataW.lit (.int .u8 b.toNat):DataW H))=b.map (fun b=>DataW.lit (.int .u8 b.toNat))→a=b
 | [],[],_=>rfl
 | [],_::_,h=>by cases h
 | _::_,[],h=>by cases h
 | x::a,y::b,h=>by
  simp only [List.map_cons,List.cons.injEq,DataW.lit.injEq,Lit.int.injEq,true_and] at h
  rw [zgB h.2,UInt8.toNat_inj.1 (by omega:x.toNat=y.toNat)]
theorem zgz {α:Type} (d:α) (f:α→Value) (n:Nat) (l:List α) (h:l.length=n):l.map f=(List.range n).map fun i=>f (l.getD i d):=by
 apply List.ext_getElem?
 intro i
 rw [List.getElem?_map,List.getElem?_map]
 by_cases hi:i<n
 ·rw [List.getElem?_range hi,List.getElem?_eq_getElem (by omega),Option.map_some,Option.map_some,List.getD_eq_getElem?_getD,List.getElem?_eq_getElem (by omega)];rfl
 ·rw [List.getElem?_eq_none (by omega),List.getElem?_eq_none (by rw [List.length_range];omega)];rfl
theorem zfy {α:Type} (f:α→Value):∀ l:List α,l.flatMap (fun x=>[f x])=l.map f
 | []=>rfl
 | a::l=>by rw [List.flatMap_cons,zfy f l];rfl
theorem flatMap_map {α:Type} (f:α→Value):∀ l:List (List α),l.flatMap (fun x=>x.map f)=l.flatten.map f
 | []=>rfl
 | a::l=>by rw [List.flatMap_cons,flatMap_map f l,List.flatten_cons,List.map_append]
section
variable {H:Type} {enc:TypeId×Value→H} {w:World} {base:Nat} {spare:Nat→Bool} {held:Bool}
theorem zmu:Opens enc Tryz.prog w base spare held 54 fun cs=>∃ e:Ev,True∧cs=evE.enc e:=fun fuel cs x h=>by
 obtain⟨xs,m,rfl,rfl,hl,hx,hel⟩:=DataW.trod_struct Tryz.underlying54 h
 rw [cC 54 7 (by kernel_rfl)] at hl
 obtain⟨b0,e0⟩:=Opens.field (o:=0) (i:=0) hel hx rfl rfl (cC 3 1 (by kernel_rfl)) (zhh Tryz.underlying3)
 obtain⟨b1,e1⟩:=Opens.field (o:=1) (i:=1) hel hx rfl rfl zeF (zdv Tryz.underlying5)
 obtain⟨b2,e2⟩:=Opens.field (o:=2) (i:=2) hel hx rfl rfl zeF (zdv Tryz.underlying5)
 obtain⟨b3,e3⟩:=Opens.field (o:=3) (i:=3) hel hx rfl rfl zeF (zdv Tryz.underlying5)
 obtain⟨b4,e4⟩:=Opens.field (o:=4) (i:=4) hel hx rfl rfl zeF (zdv Tryz.underlying5)
 obtain⟨b5,e5⟩:=Opens.field (o:=5) (i:=5) hel hx rfl rfl zeF (zdv Tryz.underlying5)
 obtain⟨b6,e6⟩:=Opens.field (o:=6) (i:=6) hel hx rfl rfl zeF (zdv Tryz.underlying5)
 refine⟨⟨b0,b1,b2,b3,b4,b5,b6⟩,trivial,?_⟩
 have h0:cs=cs.drop 0:=rfl
 have h9:cs.drop 7=[]:=List.drop_of_length_le (by omega)
 rw [h0,cut cs 0 1 1 rfl,cut cs 1 1 2 rfl,cut cs 2 1 3 rfl,cut cs 3 1 4 rfl,cut cs 4 1 5 rfl,cut cs 5 1 6 rfl,cut cs 6 1 7 rfl,e0,e1,e2,e3,e4,e5,e6,h9]
 rfl
theorem zcr:Opens enc Tryz.prog w base spare held 27 fun cs=>∃ r:RelD,WrdR r.to∧cs=relC r:=fun fuel cs x h=>by
 obtain⟨xs,m,rfl,rfl,hl,hx,hel⟩:=DataW.trod_struct Tryz.underlying27 h
 rw [cC 27 49 (by kernel_rfl)] at hl
 obtain⟨n,e0⟩:=Opens.field (o:=0) (i:=0) hel hx rfl rfl (cC 3 1 (by kernel_rfl)) (zhh Tryz.underlying3)
 obtain⟨bs,h1,h2,e1⟩:=Opens.field (o:=1) (i:=1) hel hx rfl rfl (cC 25 48 (by kernel_rfl)) (zhi (β:=Nat) 0 (f:=fun n=>[s64 n]) (Q:=fun n=>n<18446744073709551616) (n:=48) (sz:=1) Tryz.underlying25 (by kernel_rfl) (by kernel_rfl) (zkZ Tryz.underlying24))
 refine⟨⟨n,fun i=>bs.getD i 0⟩,fun i hi=>?_,?_⟩
 ·show bs.getD i 0<2^64
  rw [List.getD_eq_getElem?_getD,List.getElem?_eq_getElem (by omega)]
  exact h2 _ (List.getElem_mem _)
 have h0:cs=cs.drop 0:=rfl
 have h9:cs.drop 49=[]:=List.drop_of_length_le (by omega)
 rw [h0,cut cs 0 1 1 rfl,cut cs 1 48 49 rfl,e0,e1,h9,zfy,zgz 0 s64 48 bs h1,List.append_nil]
 rfl
theorem zh2:Opens enc Tryz.prog w base spare held 32 fun cs=>∃ (f g:Nat→UInt8),cs=seg 32 (fun i=>u8 (f i))++seg 6 (fun i=>u8 (g i)):=fun fuel cs x h=>by
 obtain⟨xs,m,rfl,rfl,hl,hx,hel⟩:=DataW.trod_struct Tryz.underlying32 h
 rw [cC 32 38 (by kernel_rfl)] at hl
 have row:Opens enc Tryz.prog w base spare held 28 fun cs=>∃ bs:List UInt8,bs.length=8∧cs=bs.map u8:=zhg Tryz.underlying28 Tryz.underlying5 zeF (cC 28 8 (by kernel_rfl))
 obtain⟨bss,h1,h2,e0⟩:=Opens.field (o:=0) (i:=0) hel hx rfl rfl (cC 29 32 (by kernel_rfl)) (zhi (β:=List UInt8) [] (f:=fun bs=>bs.map u8) (Q:=fun bs=>bs.length=8) (n:=4) (sz:=8) Tryz.underlying29 (by kernel_rfl) (by kernel_rfl) row)
 obtain⟨ms,h3,e1⟩:=Opens.field (o:=32) (i:=1) hel hx rfl rfl (cC 30 6 (by kernel_rfl)) (zhg Tryz.underlying30 Tryz.underlying5 zeF (cC 30 6 (by kernel_rfl)))
 have hfl:bss.flatten.length=32:=by
  match bss,h1 with
  | [a,b,c,d],_ =>
   have:=h2 a (by simp);have:=h2 b (by simp);have:=h2 c (by simp);have:=h2 d (by simp)
   simp only [List.flatten_cons,List.flatten_nil,List.length_append,List.length_nil];omega
 refine⟨fun i=>bss.flatten.getD i 0,fun i=>ms.getD i 0,?_⟩
 have h0:cs=cs.drop 0:=rfl
 have h9:cs.drop 38=[]:=List.drop_of_length_le (by omega)
 rw [h0,cut cs 0 32 32 rfl,cut cs 32 6 38 rfl,e0,e1,h9,flatMap_map,zgz 0 u8 32 _ hfl,zgz 0 u8 6 ms h3,List.append_nil]
 rfl
theorem zo9 {α:Type} {E:Enc α} {p:Option Addr} {l:List α} {b o:Nat} (h1:l.length=0∨p=some ⟨b,o,none⟩) (h2:∀ i (hi:i<l.length),b<w.heap.size∧zay w ⟨b,o+i*E.sz,none⟩ (E.enc l[i])):SlR E w p l:=by
 rcases h1 with h | h
 ·exact .inl (List.eq_nil_of_length_eq_zero h)
 ·by_cases h0:l=[]
  ·exact .inl h0
  ·have hl:=List.length_pos_iff.2 h0
   exact .inr ⟨b,o,h,(h2 0 hl).1,fun i hi=>(h2 i hi).2⟩
theorem zjQ:Opens enc Tryz.prog w base spare held 34 fun cs=>∃ (x:ExD) (q:Option Addr) (c:Nat),(SlR evE w q x.ev∧WX x)∧cs=exC x q c:=fun fuel cs x h=>by
 obtain⟨xs,m,rfl,rfl,hl,hx,hel⟩:=DataW.trod_struct Tryz.underlying34 h
 rw [cC 34 333 (by kernel_rfl)] at hl
 obtain⟨q,c,l,e0,_,_,_,b,o,hp,hc⟩:=Opens.field (o:=0) (i:=0) hel hx rfl rfl (cC 22 1 (by kernel_rfl)) (zmt (β:=Ev) ev0 (f:=evE.enc) (Q:=fun _=>True) (sz:=7) (by decide) Tryz.underlying22 (by kernel_rfl) zmu)
 have c49:=cC 27 49 (by kernel_rfl)
 obtain⟨r1,w1,e1⟩:=Opens.field (o:=1) (i:=1) hel hx rfl rfl c49 zcr
 obtain⟨r2,w2,e2⟩:=Opens.field (o:=50) (i:=2) hel hx rfl rfl c49 zcr
 obtain⟨r3,w3,e3⟩:=Opens.field (o:=99) (i:=3) hel hx rfl rfl c49 zcr
 obtain⟨r4,w4,e4⟩:=Opens.field (o:=148) (i:=4) hel hx rfl rfl c49 zcr
 obtain⟨r5,w5,e5⟩:=Opens.field (o:=197) (i:=5) hel hx rfl rfl c49 zcr
 obtain⟨r6,w6,e6⟩:=Opens.field (o:=246) (i:=6) hel hx rfl rfl c49 zcr
 obtain⟨f,g,e7⟩:=Opens.field (o:=295) (i:=7) hel hx rfl rfl (cC 32 38 (by kernel_rfl)) zh2
 refine⟨⟨l,r1,r2,r3,r4,r5,r6,f,g⟩,q,c,⟨zo9 hp hc,⟨w1,w2,w3,w4,w5,w6⟩⟩,?_⟩
 have h0:cs=cs.drop 0:=rfl
 have h9:cs.drop 333=[]:=List.drop_of_length_le (by omega)
 rw [h0,cut cs 0 1 1 rfl,cut cs 1 49 50 rfl,cut cs 50 49 99 rfl,cut cs 99 49 148 rfl,cut cs 148 49 197 rfl,cut cs 197 49 246 rfl,cut cs 246 49 295 rfl,cut cs 295 38 333 rfl,e0,e1,e2,e3,e4,e5,e6,e7,h9,List.append_nil]
 rfl
theorem zk1 {a:Array Value} {d:DataW H} {p:List MemPlace} (h:DataW.Trod enc Tryz.prog w base spare held 27 (.agg a) d p):∃ r:RelD,WrdR r.to∧Value.agg a = .agg (relC r).toArray:=by
 obtain⟨fuel,h⟩:=h
 obtain⟨r,hr,hc⟩:=zcr _ _ _ h
 have:a.toList=relC r:=hc
 exact⟨r,hr,by rw [← this]⟩
theorem zjR {a:Array Value} {d:DataW H} {p:List MemPlace} (h:DataW.Trod enc Tryz.prog w base spare held 34 (.agg a) d p):∃ (x:ExD) (q:Option Addr) (c:Nat),Value.agg a = .agg (exC x q c).toArray∧(SlR evE w q x.ev∧WX x):=by
 obtain⟨fuel,h⟩:=h
 obtain⟨x,q,c,hr,hc⟩:=zjQ _ _ _ h
 have:a.toList=exC x q c:=hc
 exact⟨x,q,c,by rw [← this],hr⟩
end
theorem zhj {P:Program} {w:World} {r:Reach} {base:Nat} {t:TypeId} {v:Value} (ht:P.underlying t=some (.int .u8)) (h:Value.okWide P w r base t v):∃ b:UInt8,v=u8 b:=by
 unfold Value.okWide at h
 rw [ht] at h
 cases v with
 | int k n =>
  have h1:k = .u8∧IntKind.has .u8 n:=by
   simp only [Cell.okWide,Cell.ok,ht] at h
   obtain⟨rfl,h⟩:=h
   exact⟨rfl,h⟩
  obtain⟨rfl,h2⟩:=h1
  have h3:0≤n∧n≤255:=⟨by have:=h2.1;simpa [IntKind.min,IntKind.signed,IntKind.bits] using this,by have:=h2.2;simpa [IntKind.max,IntKind.signed,IntKind.bits] using this⟩
  have e:((UInt8.ofNat n.toNat).toNat:Int)=n:=by
   rw [UInt8.toNat_ofNat'];omega
  exact⟨UInt8.ofNat n.toNat,by rw [u8,e]⟩
 | _=>simp_all [Cell.okWide,Cell.ok]
end Go.Proofs.YtmbghmhjjodgmaaGreatDoor
namespace Go.Proofs.YtmbghmhjjodgmaaGreatDoor
open Go.Vc Go.RowKit Go.Sei
end Go.Proofs.YtmbghmhjjodgmaaGreatDoor
namespace Go.Proofs.YtmbghmhjjodgmaaGreatDoor
open Go.Vc Go.RowKit Go.Sei
open Go.ChangeShapes Go.WideShapes Go.ChangeAt
structure GlobM (W:World):Prop where
 t32:Tz32M W
 t64:Tz64M W
 needs:GlobC W
abbrev zcp : List (String × DataW Unit) := [("math/bits.deBruijn32tab", Rows.laid_math_bits_deBruijn32tab), ("math/bits.deBruijn64tab", Rows.laid_math_bits_deBruijn64tab), ("seisin/check.needs", Rows.laid_seisin_check_needs)]
theorem zc5 {W:World} (h:laidMetH Tryz.prog zcp W) (hsh:W.ShapedOpen Tryz.prog):GlobM W:=by
 have h0:laidMet Tryz.prog zcp W:=h
 have h1:=h0.tail
 have h2:=h1.tail
 have t32:Tz32M W:=by
  obtain⟨ps,⟨g',t',cs,fuel,p,q,hg',ht',hv,hd,_,_⟩,_⟩:=h0
  obtain rfl := Option.some.inj ((show Tryz.prog.globalNamed "math/bits.deBruijn32tab" = some 2 by kernel_rfl).symm.trans hg')
  obtain rfl:=Option.some.inj ((show (Tryz.prog.globals[2]?).map (·.type)=some 280 by kernel_rfl).symm.trans ht')
  obtain⟨bs,h1,h2,h3⟩:=zeR Tryz.underlying280 Tryz.underlying5 (by kernel_rfl) (by kernel_rfl) hd
  have hbs:bs=zjx:=by
   have e:(Rows.laid_math_bits_deBruijn32tab:DataW Unit) = .agg (zjx.map fun b => .lit (.int .u8 b.toNat)):=rfl
   exact zgB (DataW.agg.inj (h3.symm.trans e))
  subst hbs
  refine zb8 fun i v hvv=>?_
  have hc:=World.var?_cell hg' hv i
  rw [← hvv,← h2]
  simpa using hc
 have t64:Tz64M W:=by
  obtain⟨ps,⟨g',t',cs,fuel,p,q,hg',ht',hv,hd,_,_⟩,_⟩:=h1
  obtain rfl := Option.some.inj ((show Tryz.prog.globalNamed "math/bits.deBruijn64tab" = some 0 by kernel_rfl).symm.trans hg')
  obtain rfl:=Option.some.inj ((show (Tryz.prog.globals[0]?).map (·.type)=some 217 by kernel_rfl).symm.trans ht')
  obtain⟨bs,h1,h2,h3⟩:=zeR Tryz.underlying217 Tryz.underlying5 (by kernel_rfl) (by kernel_rfl) hd
  have hbs:bs=zjw:=by
   have e:(Rows.laid_math_bits_deBruijn64tab:DataW Unit) = .agg (zjw.map fun b => .lit (.int .u8 b.toNat)):=rfl
   exact zgB (DataW.agg.inj (h3.symm.trans e))
  subst hbs
  refine zb8 fun i v hvv=>?_
  have hc:=World.var?_cell hg' hv i
  rw [← hvv,← h2]
  simpa using hc
 have needs:GlobC W:=by
  obtain⟨ps,⟨g',t',cs,fuel,p,q,hg',ht',hv,hd,_,_⟩,_⟩:=h2
  obtain rfl := Option.some.inj ((show Tryz.prog.globalNamed "seisin/check.needs" = some 1 by kernel_rfl).symm.trans hg')
  obtain rfl:=Option.some.inj ((show (Tryz.prog.globals[1]?).map (·.type)=some 270 by kernel_rfl).symm.trans ht')
  obtain⟨bs,h1,h2,h3⟩:=zeR Tryz.underlying270 Tryz.underlying5 (by kernel_rfl) (by kernel_rfl) hd
  have hbs:bs=zgv:=by
   match bs,h1 with
   | [b0,b1,b2,b3,b4,b5,b6,b7,b8],_ =>
    simp only [Rows.laid_seisin_check_needs,List.map_cons,List.map_nil,DataW.agg.injEq,List.cons.injEq,DataW.lit.injEq,Lit.int.injEq,true_and,and_true] at h3
    simp only [zgv,List.cons.injEq,and_true]
    obtain⟨a0,a1,a2,a3,a4,a5,a6,a7,a8⟩:=h3
    refine⟨?_,?_,?_,?_,?_,?_,?_,?_,?_⟩ <;> (apply UInt8.toNat_inj.1;simp;omega)
  subst hbs
  refine zb8 fun i v hvv=>?_
  have hc:=World.var?_cell hg' hv i
  rw [← hvv,← h2]
  simpa using hc
 exact⟨t32,t64,needs⟩
def zpr:DataW Unit→List Value
 | .lit (.int k n)=>[.int k n]
 | .lit (.string s)=>[.string ⟨s.toArray⟩]
 | _=>[]
def zn5:DataW Unit→List Value
 | .agg ps=>ps.flatMap zpr
 | x=>zpr x
def znC (h:Array Obj) (g:Nat) (cs:List Value):Array Obj:=h.modify g fun
 | .cells _ t frozen => .cells cs.toArray t frozen
 | o=>o
def zqv (h:Array Obj):Array Obj :=
 let h1:=znC h 2 (zn5 Rows.laid_math_bits_deBruijn32tab)
 let h2:=znC h1 0 (zn5 Rows.laid_math_bits_deBruijn64tab)
 znC h2 1 (zn5 Rows.laid_seisin_check_needs)
noncomputable def zf5 (os:Os):World :=
 { World.holding Tryz.prog os ⟨#[],#[],[]⟩ with heap:=zqv (World.holding Tryz.prog os ⟨#[],#[],[]⟩).heap }
theorem zfQ (os:Os) (args:Array Value):laidMetH Tryz.prog zcp ((zf5 os).forCall (fun _ _=>0) ⟨#[],args,[]⟩).memory:=by
 show laidMet Tryz.prog zcp _
 exact laidMet_of_run' 8 (by kernel_rfl) (by kernel_rfl)
end Go.Proofs.YtmbghmhjjodgmaaGreatDoor
