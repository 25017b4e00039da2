/- Contracts of functions, and plain facts, for the law that the last text of this claim proves. -/
import Derived.Test.YtakcdebpklffiaaGreatDoorQ2
import Derived.Test.YtakcdebpklffiaaGreatDoorQ3
import Derived.Shelf.Strings.Builder1
import Derived.Shelf.Strings.Builder2
import Derived.Shelf.Strings.OnBuilder
import Derived.Shelf.Small.Bits
import Derived.Shelf.Strconv.Itoa0
import Derived.Shelf.Strconv.Itoa1
import Derived.Shelf.LaysM
import Derived.Shelf.Strconv.Itoa2
import Derived.Shelf.Strconv.Itoa3
import Derived.Shelf.Strconv.Clone
import Derived.Shelf.Strconv.Lower
import Derived.Shelf.Strconv.RangeError
import Derived.Shelf.LaysC
import Derived.Shelf.Strconv.ToErrorRange
import Derived.Shelf.Strconv.ParseUintEmpty
import Derived.Shelf.Strconv.ParseUint10b8
import Derived.Ground.MpProg
import Derived.Shelf.Pu.ParseUintPublic10
import Derived.Shelf.Pu.ErrVarParseUint
import Derived.Shelf.Strings.Search1
import Derived.Shelf.Strings.Search2
import Derived.Shelf.Strings.Search3
import Derived.Shelf.Strings.Cut
import Derived.Shelf.Strings.Count
import Derived.Shelf.Strings.Shaped
import Derived.Shelf.Strings.Split
import Derived.Shelf.Unicode.DecodeSlow
import Derived.Ground.SlsfProg
import Derived.Shelf.SlSortCmp.Insertion
import Derived.Shelf.SlSortCmp.InsertionK
import Derived.Shelf.SlSortCmp.SiftDownK
import Derived.Shelf.SlSortCmp.HeapSortK
import Derived.Shelf.SlSortCmp.MedianK
import Derived.Shelf.SlSortCmp.PivotK
import Derived.Shelf.SlSortCmp.ReverseRangeK
import Derived.Shelf.SlSortCmp.PartialInsertionK
import Derived.Shelf.SlSortCmp.PartitionEqualK
import Derived.Shelf.SlSortCmp.PartitionK
import Derived.Shelf.SlSortCmp.PdqK
import Derived.Shelf.SlSortCmp.WholeK
import Derived.Shelf.SlSortCmp.Insertion1
import Derived.Shelf.SlSortCmp.NoneTotal
import Derived.Test.YtakcdebpklffiaaGreatDoorProg
import Derived.Test.YtakcdebpklffiaaGreatDoorQ1
import Derived.Lib.ItoaNum
import Derived.Lib.AppendZerosOnto
import Derived.Laws.OwnMore
set_option linter.unusedSimpArgs false
set_option linter.unusedVariables false
namespace Go.Proofs.YtakcdebpklffiaaGreatDoor
open Go.Vc Go.RowKit Go.Sei
section
variable{w:Wd}
theorem zp4{k:UInt8}{kids:List Cnd}{q:OA}{cap:Nat}:CB 39 #[u8 k,.slice q kids.length cap] w (zaC (.mk k 0 0 0 kids) q cap):=by
 refine zC 8 [u8 k,.slice q kids.length cap] Tryz.func39 ?_;have a:=zw w (.cells #[.int .u8 0,.int .u8 0,.int .u8 0,.int .u8 0,.slice none 0 0] 27);exact⟨zu (.mk k 0 0 0 kids) q cap,rfl,zo (v:=zaC (.mk k 0 0 0 kids) q cap) k27 a rfl rfl rfl ⟨_,rfl,za (zk a),rfl,zh ((zba w _)) (UN _) _⟩⟩
theorem zrl{t n v:UInt8}:CB 40 #[u8 t,u8 n,u8 v] w (zaC (.mk 1 t n v []) none 0):=by
 refine zC 11 [u8 t,u8 n,u8 v] Tryz.func40 ?_;have a:=zw w (.cells #[.int .u8 0,.int .u8 0,.int .u8 0,.int .u8 0,.slice none 0 0] 27);exact⟨zu (.mk 1 t n v []) none 0,rfl,zo (v:=zaC (.mk 1 t n v []) none 0) k27 a rfl rfl rfl ⟨_,rfl,za (zk a),rfl,zh ((zba w _)) (UN _) _⟩⟩
def zrC:List Value:=List.replicate 38 (.int .u8 0)
def zmE:List Value:=List.replicate 32 (.int .u8 0)++[.int .u8 1,.int .u8 1,.int .u8 0,.int .u8 0,.int .u8 0,.int .u8 0]
theorem zcz{a b:UInt8}:CB 43 #[u8 a,u8 b] w (qT (zV a b)):=by
 refine qg 17 [u8 a,u8 b] (.s .p (.c .p (.c .p .p))) Tryz.func43 ?_;have e:(w.alloc (.cells (List.replicate 38 (.int .u8 0)).toArray 52)).heap[w.heap.size]?=some (.cells zrC.toArray 52 (0,0)):=zw w _;have l:Bw w (w.alloc (.cells (List.replicate 38 (.int .u8 0)).toArray 52)):=zba w _;have i:(w.alloc (.cells (List.replicate 38 (.int .u8 0)).toArray 52)).heap.size=w.heap.size+1:=wz _ _;refine⟨Unit,fun _=>⟨[(0,u8 a),(1,u8 b),(4,At0 w.heap.size),(5,At0 (w.heap.size+1))],[]⟩,fun _ X=>X.heap[w.heap.size]?=some (.cells zrC.toArray 52 (0,0))/\X.heap[w.heap.size+1]?=some (.cells zmE.toArray 52 (0,0))/\Bw w X,?_,?_⟩
 ·refine⟨[.int .u8 1,.int .u8 1,.int .u8 0,.int .u8 0,.int .u8 0,.int .u8 0],rfl,zmE,by kernel_rfl,?_⟩;have d:=zw (w.alloc (.cells (List.replicate 38 (.int .u8 0)).toArray 52)) (.cells (List.replicate 38 (.int .u8 0)).toArray 52);refine zo (v := .agg zmE.toArray) k52 d (by kernel_rfl) (by kernel_rfl) (by kernel_rfl) ?_;have d:=zk (cs':=(Value.agg zmE.toArray).cells) d;have m:=zh (l.alloc (by omega) (.cells (List.replicate 38 (.int .u8 0)).toArray 52)) (g:=(w.alloc (.cells (List.replicate 38 (.int .u8 0)).toArray 52)).heap.size) (by omega) (Value.agg zmE.toArray).cells;have h:=(zq (cs:=(Value.agg zmE.toArray).cells) (show w.heap.size≠(w.alloc (.cells (List.replicate 38 (.int .u8 0)).toArray 52)).heap.size by omega)).trans (z6 (.cells (List.replicate 38 (.int .u8 0)).toArray 52) e);refine⟨(),⟨.cons rfl (.cons rfl (.cons rfl (.cons (by rw[<- i];rfl) .nil))),rfl⟩,h,?_,m⟩;rw[<- i];exact d
 rintro _ X ⟨e,d,f⟩;refine⟨Unit,fun _=>⟨[(4,At0 w.heap.size),(5,At0 (w.heap.size+1))],[]⟩,fun _ X=>X.heap[w.heap.size]?=some (.cells zrC.toArray 52 (0,0))/\X.heap[w.heap.size+1]?=some (.cells (zA.enc (zV a b)).toArray 52 (0,0))/\Bw w X,?_,?_⟩
 ·refine⟨0,rfl,by decide,?_⟩;refine⟨0,rfl,by decide,?_⟩;refine zn k5 d (o:=0+0+0*8+0*1) (v:=u8 a) rfl rfl (by decide) rfl fun Y k q t=>⟨1,rfl,by decide,?_⟩;refine⟨0,rfl,by decide,?_⟩;refine zn k5 k (o:=0+0+1*8+0*1) (v:=u8 b) rfl rfl (by rw[QF];decide) rfl fun Z r n u=>?_;have j:=zf q n;exact⟨(),(cvE rfl rfl),(j.block _ (hlt e) (by simp)).trans e,r,f.trans (zm j f.size (by omega))⟩
 rintro _ X ⟨e,d,f⟩;exact⟨zA.enc (zV a b),rfl,za d,hlt d,zo (v:=qT (zV a b)) k52 e rfl rfl rfl ⟨zA.enc (zV a b),rfl,za (zk e),rfl,zh f (UN _) _⟩⟩
theorem zbw:Calls PG 38 #[] w fun e w'=>(∃vs:List Value,e = .returned (.agg vs.toArray)/\PrgX w'.heap.size w' vs zc6)/\Bw w w':=by
 refine qg 13 [] (.c .p .p) Tryz.func38 ?_;obtain⟨L,hL⟩:=nm (w.heap.size);refine⟨Unit,fun _=>⟨[(0,At0 L)],[]⟩,fun _ X=>(∃cs:Array Value,X.heap[L]?=some (.cells cs 29 (0,0))/\cs.size=10)/\X.heap.size=L+1/\Bw w X,⟨(),⟨.cons (by rw[hL];rfl) .nil,rfl⟩,⟨_,by rw[hL];exact zw w _,by kernel_rfl⟩,by rw[wz,hL],(zba w _)⟩,?_⟩;rintro _ W ⟨⟨cs,fL,ak⟩,sW,ai⟩;obtain⟨la,am⟩:=nm ([stV 0 1 0,ldV 0 1 0]);obtain⟨lb,al⟩:=nm ([stV 1 1 0,ldV 0 0 0]);obtain⟨W1,n⟩:=nm (W.alloc (.cells #[zJ [120],zJ [121]] 9));obtain⟨W2,g⟩:=nm (W1.alloc (.cells #[u8 0,u8 0] 5));obtain⟨W3,j⟩:=nm (W2.alloc (.cells (zS.enc (stV 0 1 0)++zS.enc (ldV 0 1 0)).toArray 68));obtain⟨W4,m⟩:=nm (W3.alloc (.cells (zS.enc (stV 1 1 0)++zS.enc (ldV 0 0 0)).toArray 68));obtain⟨W5,f⟩:=nm (W4.alloc (.cells #[.slice (some ⟨W2.heap.size,0,none⟩) 2 2,.slice (some ⟨W3.heap.size,0,none⟩) 2 2] 64));have ah:Bw W W1:=by rw[n];exact(zba W _)
 have z:Bw W1 W2:=by rw[g];exact(zba W1 _)
 have aj:Bw W2 W3:=by rw[j];exact(zba W2 _)
 have y:Bw W3 W4:=by rw[m];exact(zba W3 _)
 have t:Bw W4 W5:=by rw[f];exact(zba W4 _)
 have f1:W1.heap[W.heap.size]?=some (.cells #[zJ [120],zJ [121]] 9 (0,0)):=by rw[n];exact zw W _
 have f2:W2.heap[W1.heap.size]?=some (.cells #[u8 0,u8 0] 5 (0,0)):=by rw[g];exact zw W1 _
 have f3:W3.heap[W2.heap.size]?=some (.cells (zS.enc (stV 0 1 0)++zS.enc (ldV 0 1 0)).toArray 68 (0,0)):=by rw[j];exact zw W2 _
 have f4:W4.heap[W3.heap.size]?=some (.cells (zS.enc (stV 1 1 0)++zS.enc (ldV 0 0 0)).toArray 68 (0,0)):=by rw[m];exact zw W3 _
 have f5:W5.heap[W4.heap.size]?=some (.cells #[.slice (some ⟨W2.heap.size,0,none⟩) 2 2,.slice (some ⟨W3.heap.size,0,none⟩) 2 2] 64 (0,0)):=by rw[f];exact zw W4 _
 have s1:W1.heap.size=L+2:=by rw[n,wz,sW]
 have s2:W2.heap.size=L+3:=by rw[g,wz,s1]
 have s3:W3.heap.size=L+4:=by rw[j,wz,s2]
 have s4:W4.heap.size=L+5:=by rw[m,wz,s3]
 have s5:W5.heap.size=L+6:=by rw[f,wz,s4]
 refine⟨⟨by decide,by decide,rfl⟩,[zJ [120],zJ [121]],rfl,?_⟩;have ab:W.alloc (.cells [zJ [120],zJ [121]].toArray 9)=W1:=n.symm;rw[ab];refine⟨⟨by decide,by decide,rfl⟩,[u8 0,u8 0],rfl,?_⟩;have ac:W1.alloc (.cells [u8 0,u8 0].toArray 5)=W2:=g.symm;rw[ac];refine⟨[.bool false,u8 1],rfl,zS.enc (stV 0 1 0),rfl,zS.enc (ldV 0 1 0),rfl,⟨by decide,by decide,rfl⟩,zS.enc (stV 0 1 0)++zS.enc (ldV 0 1 0),by kernel_rfl,?_⟩;rw[<- j];refine⟨[.bool false,u8 1],rfl,zS.enc (stV 1 1 0),rfl,zS.enc (ldV 0 0 0),rfl,⟨by decide,by decide,rfl⟩,zS.enc (stV 1 1 0)++zS.enc (ldV 0 0 0),by kernel_rfl,?_⟩;rw[<- m];refine⟨⟨by decide,by decide,rfl⟩,[.slice (some ⟨W2.heap.size,0,none⟩) 2 2,.slice (some ⟨W3.heap.size,0,none⟩) 2 2],rfl,?_⟩;have ad:W4.alloc (.cells [.slice (some ⟨W2.heap.size,0,none⟩) 2 2,.slice (some ⟨W3.heap.size,0,none⟩) 2 2].toArray 64)=W5:=f.symm;rw[ad];obtain⟨vs,b⟩:=nm (jC zc6 (some ⟨W.heap.size,0,none⟩) 2 (some ⟨W1.heap.size,0,none⟩) 2 (some ⟨W4.heap.size,0,none⟩) 2 none 0);refine⟨vs,by rw[b];rfl,?_⟩;have aa:=zst ah z;have ag:=zst aj y;have d:=zst ag t;have o:Bw W W5:=zst aa d;have ae:W5.heap[L]?=some (.cells cs 29 (0,0)):=zb o fL;have q:vs.length=10:=by rw[b];rfl
 have af:vs.all Value.oneCell'=true:=by rw[b];rfl
 refine zo (v := .agg vs.toArray) k29 ae q ak af ?_;obtain⟨Y,u⟩:=nm (W5.setRow L (Value.agg vs.toArray).cells);rw[<- u];have fY:Y.heap[L]?=some (.cells vs.toArray 29 (0,0)):=by rw[u];exact zk ae
 have oY:∀k,k≠L->Y.heap[k]?=W5.heap[k]?:=fun k hk=>by rw[u];exact zq hk
 have sY:Y.heap.size=W5.heap.size:=by rw[u];simp
 have bY:Bw w Y:=by rw[u];exact zh ((zst ai o)) (by omega) _
 refine⟨vs,q,za fY,⟨vs,rfl,?_⟩,bY⟩;have g1:Y.heap[W.heap.size]?=some (.cells #[zJ [120],zJ [121]] 9 (0,0)):=(oY _ (by omega)).trans (zb d (zb z f1));have g2:Y.heap[W1.heap.size]?=some (.cells #[u8 0,u8 0] 5 (0,0)):=(oY _ (by omega)).trans (zb d f2);have g3:Y.heap[W2.heap.size]?=some (.cells (zS.enc (stV 0 1 0)++zS.enc (ldV 0 1 0)).toArray 68 (0,0)):=(oY _ (by omega)).trans (zb t (zb y f3));have g4:Y.heap[W3.heap.size]?=some (.cells (zS.enc (stV 1 1 0)++zS.enc (ldV 0 0 0)).toArray 68 (0,0)):=(oY _ (by omega)).trans (zb t f4);have g5:Y.heap[W4.heap.size]?=some (.cells #[.slice (some ⟨W2.heap.size,0,none⟩) 2 2,.slice (some ⟨W3.heap.size,0,none⟩) 2 2] 64 (0,0)):=(oY _ (by omega)).trans f5;have r3:RowB znD Y.heap.size Y (some ⟨W4.heap.size,0,none⟩) [([stV 0 1 0,ldV 0 1 0],some ⟨W2.heap.size,0,none⟩,2),([stV 1 1 0,ldV 0 0 0],some ⟨W3.heap.size,0,none⟩,2)] := .inr ⟨W4.heap.size,0,rfl,hlt g5,za g5⟩;have ra:RowB zS Y.heap.size Y (some ⟨W2.heap.size,0,none⟩) [stV 0 1 0,ldV 0 1 0] := .inr ⟨W2.heap.size,0,rfl,hlt g3,za g3⟩;have rb:RowB zS Y.heap.size Y (some ⟨W3.heap.size,0,none⟩) [stV 1 1 0,ldV 0 0 0] := .inr ⟨W3.heap.size,0,rfl,hlt g4,za g4⟩;have r:∀x∈[(([stV 0 1 0,ldV 0 1 0],some ⟨W2.heap.size,0,none⟩,2):zk6),([stV 1 1 0,ldV 0 0 0],some ⟨W3.heap.size,0,none⟩,2)],RowB zS Y.heap.size Y x.2.1 x.1/\(x.1≠[]->∀a,x.2.1=some a->a.block<Y.heap.size):=by
  simp only[Ur,Qm,Ga,forall_eq_or_imp,forall_eq];exact⟨⟨ra,fun _ a h=>by cases h;exact hlt g3⟩,rb,fun _ a h=>by cases h;exact hlt g4⟩
 refine⟨⟨⟨by show 2<=_;decide,by show 2<=_;decide,fun s hs=>?_,by show 2<=_;decide,by show 2<=_;decide,fun l hl=>?_⟩,some ⟨W.heap.size,0,none⟩,2,some ⟨W1.heap.size,0,none⟩,2,some ⟨W4.heap.size,0,none⟩,2,none,0,b,?_,?_,?_,?_,?_⟩,?_,?_⟩
 ·have hs:s=[120]\/s=[121]:=by simpa [zc6] using hs
  rcases hs with rfl | rfl <;> decide
 ·have hl:l=[stV 0 1 0,ldV 0 1 0]\/l=[stV 1 1 0,ldV 0 0 0]:=by simpa [zc6] using hl
  rcases hl with rfl | rfl <;> (show 2<=140737488351232;decide)
 ·exact .inr ⟨W.heap.size,0,rfl,hlt g1,za g1⟩
 ·exact .inr ⟨W1.heap.size,0,rfl,hlt g2,za g2⟩
 ·exact⟨_,rfl,r3,fun x hx=>(r x hx).1⟩
 ·exact .mk none [] (by decide) 0 0 (.inl rfl) (fun _=>none) (fun _=>0) (fun i hi=>by simp at hi) (fun i hi=>by simp at hi)
 ·exact UN 2
 ·exact⟨some ⟨W4.heap.size,0,none⟩,2,by rw[b];rfl,_,rfl,r3,r⟩
 ·exact⟨some ⟨W1.heap.size,0,none⟩,2,by rw[b];rfl,.inr ⟨W1.heap.size,0,rfl,hlt g2,za g2⟩⟩
end
end Go.Proofs.YtakcdebpklffiaaGreatDoor
namespace Go.Proofs
open Go.Shelf
def Tryz.lays156_ren:Go.Shelf.Ren:=⟨fun | 156=>49 | 165=>102 | 166=>103 | 169=>104 | 240=>176 | 241=>177 | 276=>249 | 277=>250 | n=>n,fun | 31=>22 | 9=>9 | 3=>3 | 4=>4 | 0=>0 | 20=>20 | 72=>177 | 76=>179 | 70=>175 | 37=>23 | 75=>61 | 127=>269 | 164=>343 | 5=>5 | 80=>181 | n=>n,fun | n=>n⟩
theorem Tryz.lays156:Go.Proofs.Lays.n156 PG Tryz.lays156_ren:={
 mixed:=by kernel_rfl
 f156:=Tryz.func49.trans (UY some (by kernel_rfl))
 f165:=Tryz.func102.trans (UY some (by kernel_rfl))
 f166:=Tryz.func103.trans (UY some (by kernel_rfl))
 f169:=Tryz.func104.trans (UY some (by kernel_rfl))
 f240:=Tryz.func176.trans (UY some (by kernel_rfl))
 f241:=Tryz.func177.trans (UY some (by kernel_rfl))
 f276:=Tryz.func249.trans (UY some (by kernel_rfl))
 f277:=Tryz.func250.trans (UY some (by kernel_rfl))
 t0:=Tryz.underlying0
 a0:=Tryz.isAgg0
 z0:=Tryz.sizeOf0
 v0:=Tryz.zeroValue0
 t3:=Tryz.underlying3
 a3:=Tryz.isAgg3
 z3:=Tryz.sizeOf3
 v3:=Tryz.zeroValue3
 t4:=Tryz.underlying4
 a4:=Tryz.isAgg4
 z4:=Tryz.sizeOf4
 v4:=Tryz.zeroValue4
 t9:=Tryz.underlying9
 a9:=Tryz.isAgg9
 z9:=Tryz.sizeOf9
 v9:=Tryz.zeroValue9
 t20:=Tryz.underlying20
 a20:=Tryz.isAgg20
 z20:=Tryz.sizeOf20
 v20:=Tryz.zeroValue20
 t31:=Tryz.underlying22
 a31:=Tryz.isAgg22
 z31:=Tryz.sizeOf22
 v31:=Tryz.zeroValue22
 t37:=Tryz.underlying23
 a37:=Tryz.isAgg23
 z37:=Tryz.sizeOf23
 v37:=Tryz.zeroValue23
 t70:=Tryz.underlying175
 a70:=Tryz.isAgg175
 z70:=Tryz.sizeOf175
 v70:=Tryz.zeroValue175
 t72:=Tryz.underlying177
 a72:=Tryz.isAgg177
 z72:=Tryz.sizeOf177
 v72:=Tryz.zeroValue177
 t75:=Tryz.underlying61
 a75:=Tryz.isAgg61
 z75:=Tryz.sizeOf61
 v75:=Tryz.zeroValue61
 t76:=Tryz.underlying179
 a76:=Tryz.isAgg179
 z76:=Tryz.sizeOf179
 v76:=Tryz.zeroValue179
 t127:=Tryz.underlying269
 a127:=Tryz.isAgg269
 z127:=Tryz.sizeOf269
 v127:=Tryz.zeroValue269
 t164:=Tryz.underlying343
 a164:=Tryz.isAgg343
 z164:=Tryz.sizeOf343
 v164:=Tryz.zeroValue343 }
theorem Tryz.Builder_Extra_156:Builder.Extra PG Tryz.lays156_ren:={
 sizeBuilder:=by kernel_rfl
 liesBuilder:=by kernel_rfl
 t5:=Tryz.underlying5
 a5:=Tryz.isAgg5
 z5:=Tryz.sizeOf5
 v5:=Tryz.zeroValue5
 infoByte:=by kernel_rfl
 cellsByte:=by kernel_rfl
 sizeByte:=by kernel_rfl
 neB5:=by decide }
open Go.RowKit in
theorem Tryz.strings_Join(bk o c:Nat)(xs:List ByteArray)(sep:ByteArray)(w:Wd)(hcells:∀(j:Nat) x,xs[j]?=some x→w.cell? ⟨bk,o+j,none⟩=some (.string x))(hbk:bk<w.heap.size)(hN:xs.length≤140737488355328)(hcap:xs.length≤c)(hlen:(Lib.join (xs.map (·.data.toList)) sep.data.toList).length≤140737488355328) :
  Calls PG 49 #[.slice (some ⟨bk,o,none⟩) xs.length c,.string sep] w fun e w'=>e = .returned (.string ⟨(Lib.join (xs.map (·.data.toList)) sep.data.toList).toArray⟩)∧Below w.heap.size w w':=Any.strings_Join Tryz.lays156 Tryz.Builder_Extra_156 bk o c xs sep w hcells hbk hN hcap hlen
def Tryz.laysM171_ren:Go.Shelf.Ren:=⟨fun | 171=>48 | 243=>101 | 246=>175 | 283=>245 | 284=>246 | 285=>247 | 286=>248 | 129=>227 | 317=>301 | 318=>302 | 319=>303 | 320=>304 | 337=>269 | 338=>255 | n=>n,fun | 3=>3 | 9=>9 | 2=>2 | 4=>4 | 171=>339 | 0=>0 | 53=>59 | 37=>23 | 5=>5 | 173=>341 | 212=>387 | 51=>203 | 20=>20 | 213=>388 | 46=>186 | 232=>399 | 233=>393 | n=>n,fun | 17=>4 | 18=>8 | 19=>7 | n=>n⟩
theorem Tryz.laysM171:Go.Proofs.LaysM.n171 PG Tryz.laysM171_ren:={
 mixed:=by kernel_rfl
 f129:=Tryz.func227.trans (UY some (by kernel_rfl))
 f171:=Tryz.func48.trans (UY some (by kernel_rfl))
 f243:=Tryz.func101.trans (UY some (by kernel_rfl))
 f246:=Tryz.func175.trans (UY some (by kernel_rfl))
 f283:=Tryz.func245.trans (UY some (by kernel_rfl))
 f284:=Tryz.func246.trans (UY some (by kernel_rfl))
 f285:=Tryz.func247.trans (UY some (by kernel_rfl))
 f286:=Tryz.func248.trans (UY some (by kernel_rfl))
 f317:=Tryz.func301.trans (UY some (by kernel_rfl))
 f318:=Tryz.func302.trans (UY some (by kernel_rfl))
 f319:=Tryz.func303.trans (UY some (by kernel_rfl))
 f320:=Tryz.func304.trans (UY some (by kernel_rfl))
 f337:=Tryz.func269.trans (UY some (by kernel_rfl))
 f338:=Tryz.func255.trans (UY some (by kernel_rfl))
 t0:=Tryz.underlying0
 a0:=Tryz.isAgg0
 z0:=Tryz.sizeOf0
 v0:=Tryz.zeroValue0
 t2:=Tryz.underlying2
 a2:=Tryz.isAgg2
 z2:=Tryz.sizeOf2
 v2:=Tryz.zeroValue2
 t3:=Tryz.underlying3
 a3:=Tryz.isAgg3
 z3:=Tryz.sizeOf3
 v3:=Tryz.zeroValue3
 t4:=Tryz.underlying4
 a4:=Tryz.isAgg4
 z4:=Tryz.sizeOf4
 v4:=Tryz.zeroValue4
 t5:=Tryz.underlying5
 a5:=Tryz.isAgg5
 z5:=Tryz.sizeOf5
 v5:=Tryz.zeroValue5
 t9:=Tryz.underlying9
 a9:=Tryz.isAgg9
 z9:=Tryz.sizeOf9
 v9:=Tryz.zeroValue9
 t20:=Tryz.underlying20
 a20:=Tryz.isAgg20
 z20:=Tryz.sizeOf20
 v20:=Tryz.zeroValue20
 t37:=Tryz.underlying23
 a37:=Tryz.isAgg23
 z37:=Tryz.sizeOf23
 v37:=Tryz.zeroValue23
 t46:=Tryz.underlying186
 a46:=Tryz.isAgg186
 z46:=Tryz.sizeOf186
 v46:=Tryz.zeroValue186
 t51:=Tryz.underlying203
 a51:=Tryz.isAgg203
 z51:=Tryz.sizeOf203
 v51:=Tryz.zeroValue203
 t53:=Tryz.underlying59
 a53:=Tryz.isAgg59
 z53:=Tryz.sizeOf59
 v53:=Tryz.zeroValue59
 t171:=Tryz.underlying339
 a171:=Tryz.isAgg339
 z171:=Tryz.sizeOf339
 v171:=Tryz.zeroValue339
 t173:=Tryz.underlying341
 a173:=Tryz.isAgg341
 z173:=Tryz.sizeOf341
 v173:=Tryz.zeroValue341
 t212:=Tryz.underlying387
 a212:=Tryz.isAgg387
 z212:=Tryz.sizeOf387
 v212:=Tryz.zeroValue387
 t213:=Tryz.underlying388
 a213:=Tryz.isAgg388
 z213:=Tryz.sizeOf388
 t232:=Tryz.underlying399
 a232:=Tryz.isAgg399
 z232:=Tryz.sizeOf399
 v232:=Tryz.zeroValue399
 t233:=Tryz.underlying393
 a233:=Tryz.isAgg393
 z233:=Tryz.sizeOf393
 v233:=Tryz.zeroValue393
 g17:=by kernel_rfl
 g18:=by kernel_rfl
 g19:=by kernel_rfl
 i0:=by kernel_rfl
 i2:=by kernel_rfl
 i3:=by kernel_rfl
 i4:=by kernel_rfl
 i5:=by kernel_rfl
 i9:=by kernel_rfl
 i20:=by kernel_rfl
 i37:=by kernel_rfl
 i46:=by kernel_rfl
 i51:=by kernel_rfl
 i53:=by kernel_rfl
 i171:=by kernel_rfl
 i173:=by kernel_rfl
 i212:=by kernel_rfl
 i232:=by kernel_rfl
 i233:=by kernel_rfl
 m17:=by kernel_rfl
 m18:=by kernel_rfl
 m19:=by kernel_rfl }
open Go.RowKit Go.Sort Go.Lib in
theorem Tryz.strconv_Itoa (n : Int) (h0 : -9223372036854775808 ≤ n) (h1 : n ≤ 9223372036854775807) (w : Wd) (htab : Lib.TabIs PG w "internal/strconv.uint64pow10" .u64 Lib.pow10Tab) :
  Calls PG 48 #[.int .i64 n] w fun e w'=>e = .returned (.string ⟨(Lib.itoa n).toArray⟩)∧∃k os,w'=grow (w.drewN k) os:=Any.strconv_Itoa Tryz.laysM171 n h0 h1 w htab
def Tryz.lays171_ren:Go.Shelf.Ren:=⟨fun | 171=>48 | 243=>101 | 246=>175 | 283=>245 | 284=>246 | 285=>247 | 286=>248 | 129=>227 | 317=>301 | 318=>302 | 319=>303 | 320=>304 | 337=>269 | 338=>255 | n=>n,fun | 3=>3 | 9=>9 | 2=>2 | 4=>4 | 171=>339 | 0=>0 | 53=>59 | 37=>23 | 5=>5 | 173=>341 | 212=>387 | 51=>203 | 20=>20 | 213=>388 | 46=>186 | 232=>399 | 233=>393 | n=>n,fun | 17=>4 | 18=>8 | 19=>7 | n=>n⟩
theorem Tryz.lays171:Go.Proofs.Lays.n171 PG Tryz.lays171_ren:={
 mixed:=by kernel_rfl
 f129:=Tryz.func227.trans (UY some (by kernel_rfl))
 f171:=Tryz.func48.trans (UY some (by kernel_rfl))
 f243:=Tryz.func101.trans (UY some (by kernel_rfl))
 f246:=Tryz.func175.trans (UY some (by kernel_rfl))
 f283:=Tryz.func245.trans (UY some (by kernel_rfl))
 f284:=Tryz.func246.trans (UY some (by kernel_rfl))
 f285:=Tryz.func247.trans (UY some (by kernel_rfl))
 f286:=Tryz.func248.trans (UY some (by kernel_rfl))
 f317:=Tryz.func301.trans (UY some (by kernel_rfl))
 f318:=Tryz.func302.trans (UY some (by kernel_rfl))
 f319:=Tryz.func303.trans (UY some (by kernel_rfl))
 f320:=Tryz.func304.trans (UY some (by kernel_rfl))
 f337:=Tryz.func269.trans (UY some (by kernel_rfl))
 f338:=Tryz.func255.trans (UY some (by kernel_rfl))
 t0:=Tryz.underlying0
 a0:=Tryz.isAgg0
 z0:=Tryz.sizeOf0
 v0:=Tryz.zeroValue0
 t2:=Tryz.underlying2
 a2:=Tryz.isAgg2
 z2:=Tryz.sizeOf2
 v2:=Tryz.zeroValue2
 t3:=Tryz.underlying3
 a3:=Tryz.isAgg3
 z3:=Tryz.sizeOf3
 v3:=Tryz.zeroValue3
 t4:=Tryz.underlying4
 a4:=Tryz.isAgg4
 z4:=Tryz.sizeOf4
 v4:=Tryz.zeroValue4
 t5:=Tryz.underlying5
 a5:=Tryz.isAgg5
 z5:=Tryz.sizeOf5
 v5:=Tryz.zeroValue5
 t9:=Tryz.underlying9
 a9:=Tryz.isAgg9
 z9:=Tryz.sizeOf9
 v9:=Tryz.zeroValue9
 t20:=Tryz.underlying20
 a20:=Tryz.isAgg20
 z20:=Tryz.sizeOf20
 v20:=Tryz.zeroValue20
 t37:=Tryz.underlying23
 a37:=Tryz.isAgg23
 z37:=Tryz.sizeOf23
 v37:=Tryz.zeroValue23
 t46:=Tryz.underlying186
 a46:=Tryz.isAgg186
 z46:=Tryz.sizeOf186
 v46:=Tryz.zeroValue186
 t51:=Tryz.underlying203
 a51:=Tryz.isAgg203
 z51:=Tryz.sizeOf203
 v51:=Tryz.zeroValue203
 t53:=Tryz.underlying59
 a53:=Tryz.isAgg59
 z53:=Tryz.sizeOf59
 v53:=Tryz.zeroValue59
 t171:=Tryz.underlying339
 a171:=Tryz.isAgg339
 z171:=Tryz.sizeOf339
 v171:=Tryz.zeroValue339
 t173:=Tryz.underlying341
 a173:=Tryz.isAgg341
 z173:=Tryz.sizeOf341
 v173:=Tryz.zeroValue341
 t212:=Tryz.underlying387
 a212:=Tryz.isAgg387
 z212:=Tryz.sizeOf387
 v212:=Tryz.zeroValue387
 t213:=Tryz.underlying388
 a213:=Tryz.isAgg388
 z213:=Tryz.sizeOf388
 t232:=Tryz.underlying399
 a232:=Tryz.isAgg399
 z232:=Tryz.sizeOf399
 v232:=Tryz.zeroValue399
 t233:=Tryz.underlying393
 a233:=Tryz.isAgg393
 z233:=Tryz.sizeOf393
 v233:=Tryz.zeroValue393
 g17:=by kernel_rfl
 g18:=by kernel_rfl
 g19:=by kernel_rfl }
open Go.RowKit Go.Sort Go.Lib in
theorem Tryz.strconv_Itoa_small(i:Nat)(hi:i<100)(w:Wd) :
  Calls PG 48 #[.int .i64 i] w fun e w'=>e = .returned (.string ⟨(Lib.decDigits i).toArray⟩)∧w'=w:=Any.strconv_Itoa_small Tryz.lays171 i hi w
def Tryz.laysPu14_ren:Go.Shelf.Ren:=⟨fun | 14=>20 | 16=>52 | 17=>53 | 19=>109 | 20=>110 | 21=>111 | 22=>112 | 23=>113 | 24=>114 | 25=>185 | 27=>48 | 26=>186 | 28=>101 | 29=>175 | 30=>245 | 31=>246 | 32=>247 | 33=>248 | 35=>227 | 34=>301 | 36=>302 | 37=>303 | 38=>304 | 39=>269 | 40=>255 | n=>n,fun | 9=>9 | 3=>3 | 22=>59 | 24=>61 | 25=>62 | 4=>4 | 34=>184 | 5=>5 | 36=>186 | 37=>23 | 0=>0 | 39=>187 | 21=>21 | 44=>276 | 47=>269 | 50=>350 | 48=>348 | 2=>2 | 52=>339 | 55=>341 | 59=>387 | 60=>203 | 20=>20 | 61=>388 | 65=>399 | 66=>393 | 67=>181 | n=>n,fun | 0=>1 | 1=>2 | 2=>4 | 3=>8 | 4=>7 | n=>n⟩
theorem Tryz.laysPu14:Go.Proofs.LaysPu.n14 PG Tryz.laysPu14_ren:={
 mixed:=by kernel_rfl
 f14:=Tryz.func20.trans (UY some (by kernel_rfl))
 f16:=Tryz.func52.trans (UY some (by kernel_rfl))
 f17:=Tryz.func53.trans (UY some (by kernel_rfl))
 f19:=Tryz.func109.trans (UY some (by kernel_rfl))
 f20:=Tryz.func110.trans (UY some (by kernel_rfl))
 f21:=Tryz.func111.trans (UY some (by kernel_rfl))
 f22:=Tryz.func112.trans (UY some (by kernel_rfl))
 f23:=Tryz.func113.trans (UY some (by kernel_rfl))
 f24:=Tryz.func114.trans (UY some (by kernel_rfl))
 f25:=Tryz.func185.trans (UY some (by kernel_rfl))
 f26:=Tryz.func186.trans (UY some (by kernel_rfl))
 f27:=Tryz.func48.trans (UY some (by kernel_rfl))
 f28:=Tryz.func101.trans (UY some (by kernel_rfl))
 f29:=Tryz.func175.trans (UY some (by kernel_rfl))
 f30:=Tryz.func245.trans (UY some (by kernel_rfl))
 f31:=Tryz.func246.trans (UY some (by kernel_rfl))
 f32:=Tryz.func247.trans (UY some (by kernel_rfl))
 f33:=Tryz.func248.trans (UY some (by kernel_rfl))
 f34:=Tryz.func301.trans (UY some (by kernel_rfl))
 f35:=Tryz.func227.trans (UY some (by kernel_rfl))
 f36:=Tryz.func302.trans (UY some (by kernel_rfl))
 f37:=Tryz.func303.trans (UY some (by kernel_rfl))
 f38:=Tryz.func304.trans (UY some (by kernel_rfl))
 f39:=Tryz.func269.trans (UY some (by kernel_rfl))
 f40:=Tryz.func255.trans (UY some (by kernel_rfl))
 t0:=Tryz.underlying0
 a0:=Tryz.isAgg0
 z0:=Tryz.sizeOf0
 v0:=Tryz.zeroValue0
 i0:=by kernel_rfl
 t2:=Tryz.underlying2
 a2:=Tryz.isAgg2
 z2:=Tryz.sizeOf2
 v2:=Tryz.zeroValue2
 i2:=by kernel_rfl
 t3:=Tryz.underlying3
 a3:=Tryz.isAgg3
 z3:=Tryz.sizeOf3
 v3:=Tryz.zeroValue3
 i3:=by kernel_rfl
 t4:=Tryz.underlying4
 a4:=Tryz.isAgg4
 z4:=Tryz.sizeOf4
 v4:=Tryz.zeroValue4
 i4:=by kernel_rfl
 t5:=Tryz.underlying5
 a5:=Tryz.isAgg5
 z5:=Tryz.sizeOf5
 v5:=Tryz.zeroValue5
 i5:=by kernel_rfl
 t9:=Tryz.underlying9
 a9:=Tryz.isAgg9
 z9:=Tryz.sizeOf9
 v9:=Tryz.zeroValue9
 i9:=by kernel_rfl
 t20:=Tryz.underlying20
 a20:=Tryz.isAgg20
 z20:=Tryz.sizeOf20
 v20:=Tryz.zeroValue20
 i20:=by kernel_rfl
 t21:=Tryz.underlying21
 a21:=Tryz.isAgg21
 z21:=Tryz.sizeOf21
 v21:=Tryz.zeroValue21
 i21:=by kernel_rfl
 t22:=Tryz.underlying59
 a22:=Tryz.isAgg59
 z22:=Tryz.sizeOf59
 v22:=Tryz.zeroValue59
 i22:=by kernel_rfl
 t24:=Tryz.underlying61
 a24:=Tryz.isAgg61
 z24:=Tryz.sizeOf61
 v24:=Tryz.zeroValue61
 i24:=by kernel_rfl
 t25:=Tryz.underlying62
 a25:=Tryz.isAgg62
 z25:=Tryz.sizeOf62
 v25:=Tryz.zeroValue62
 i25:=by kernel_rfl
 t34:=Tryz.underlying184
 a34:=Tryz.isAgg184
 z34:=Tryz.sizeOf184
 v34:=Tryz.zeroValue184
 i34:=by kernel_rfl
 c34:=by kernel_rfl
 t36:=Tryz.underlying186
 a36:=Tryz.isAgg186
 z36:=Tryz.sizeOf186
 v36:=Tryz.zeroValue186
 i36:=by kernel_rfl
 t37:=Tryz.underlying23
 a37:=Tryz.isAgg23
 z37:=Tryz.sizeOf23
 v37:=Tryz.zeroValue23
 i37:=by kernel_rfl
 t39:=Tryz.underlying187
 a39:=Tryz.isAgg187
 z39:=Tryz.sizeOf187
 v39:=Tryz.zeroValue187
 i39:=by kernel_rfl
 t44:=Tryz.underlying276
 a44:=Tryz.isAgg276
 z44:=Tryz.sizeOf276
 v44:=Tryz.zeroValue276
 i44:=by kernel_rfl
 t47:=Tryz.underlying269
 a47:=Tryz.isAgg269
 z47:=Tryz.sizeOf269
 v47:=Tryz.zeroValue269
 i47:=by kernel_rfl
 t48:=Tryz.underlying348
 a48:=Tryz.isAgg348
 z48:=Tryz.sizeOf348
 v48:=Tryz.zeroValue348
 i48:=by kernel_rfl
 t50:=Tryz.underlying350
 a50:=Tryz.isAgg350
 z50:=Tryz.sizeOf350
 v50:=Tryz.zeroValue350
 i50:=by kernel_rfl
 t52:=Tryz.underlying339
 a52:=Tryz.isAgg339
 z52:=Tryz.sizeOf339
 v52:=Tryz.zeroValue339
 i52:=by kernel_rfl
 t55:=Tryz.underlying341
 a55:=Tryz.isAgg341
 z55:=Tryz.sizeOf341
 v55:=Tryz.zeroValue341
 i55:=by kernel_rfl
 t59:=Tryz.underlying387
 a59:=Tryz.isAgg387
 z59:=Tryz.sizeOf387
 v59:=Tryz.zeroValue387
 i59:=by kernel_rfl
 t60:=Tryz.underlying203
 a60:=Tryz.isAgg203
 z60:=Tryz.sizeOf203
 v60:=Tryz.zeroValue203
 i60:=by kernel_rfl
 t61:=Tryz.underlying388
 a61:=Tryz.isAgg388
 z61:=Tryz.sizeOf388
 t65:=Tryz.underlying399
 a65:=Tryz.isAgg399
 z65:=Tryz.sizeOf399
 v65:=Tryz.zeroValue399
 i65:=by kernel_rfl
 t66:=Tryz.underlying393
 a66:=Tryz.isAgg393
 z66:=Tryz.sizeOf393
 v66:=Tryz.zeroValue393
 i66:=by kernel_rfl
 t67:=Tryz.underlying181
 a67:=Tryz.isAgg181
 z67:=Tryz.sizeOf181
 v67:=Tryz.zeroValue181
 i67:=by kernel_rfl
 g0:=by kernel_rfl
 m0:=by kernel_rfl
 g1:=by kernel_rfl
 m1:=by kernel_rfl
 g2:=by kernel_rfl
 m2:=by kernel_rfl
 g3:=by kernel_rfl
 m3:=by kernel_rfl
 g4:=by kernel_rfl
 m4:=by kernel_rfl }
open Go.RowKit in
theorem Tryz.strconv_ParseUint_10_at8_ok(s:ByteArray)(hmax:s.size≤9223372036854775806)(u:Nat)(h:Lib.parseUintB 8 s.data.toList = .ok u)(w:Wd) :
  Calls PG 20 #[.string s,.int .i64 10,.int .i64 8] w fun e w'=>e = .returned (.tuple #[.int .u64 u,.nilIface])∧(w'=w∨w'=Lib.bytesWorld w 5 s):=Any.strconv_ParseUint_10_at8_ok Tryz.laysPu14 s hmax u h w
def Tryz.lays145_ren:Go.Shelf.Ren:=⟨fun | 145=>19 | 220=>51 | 219=>108 | 217=>181 | 225=>182 | 224=>183 | 267=>184 | 266=>252 | 314=>253 | n=>n,fun | 9=>9 | 4=>4 | 59=>57 | 3=>3 | 5=>5 | 46=>186 | 146=>346 | 51=>203 | n=>n,fun | 1=>0 | n=>n⟩
theorem Tryz.lays145:Go.Proofs.Lays.n145 PG Tryz.lays145_ren:={
 mixed:=by kernel_rfl
 f145:=Tryz.func19.trans (UY some (by kernel_rfl))
 f217:=Tryz.func181.trans (UY some (by kernel_rfl))
 f219:=Tryz.func108.trans (UY some (by kernel_rfl))
 f220:=Tryz.func51.trans (UY some (by kernel_rfl))
 f224:=Tryz.func183.trans (UY some (by kernel_rfl))
 f225:=Tryz.func182.trans (UY some (by kernel_rfl))
 f266:=Tryz.func252.trans (UY some (by kernel_rfl))
 f267:=Tryz.func184.trans (UY some (by kernel_rfl))
 f314:=Tryz.func253.trans (UY some (by kernel_rfl))
 t3:=Tryz.underlying3
 a3:=Tryz.isAgg3
 z3:=Tryz.sizeOf3
 v3:=Tryz.zeroValue3
 t4:=Tryz.underlying4
 a4:=Tryz.isAgg4
 z4:=Tryz.sizeOf4
 v4:=Tryz.zeroValue4
 t5:=Tryz.underlying5
 a5:=Tryz.isAgg5
 z5:=Tryz.sizeOf5
 v5:=Tryz.zeroValue5
 t9:=Tryz.underlying9
 a9:=Tryz.isAgg9
 z9:=Tryz.sizeOf9
 v9:=Tryz.zeroValue9
 t46:=Tryz.underlying186
 a46:=Tryz.isAgg186
 z46:=Tryz.sizeOf186
 v46:=Tryz.zeroValue186
 t51:=Tryz.underlying203
 a51:=Tryz.isAgg203
 z51:=Tryz.sizeOf203
 v51:=Tryz.zeroValue203
 t59:=Tryz.underlying57
 a59:=Tryz.isAgg57
 z59:=Tryz.sizeOf57
 v59:=Tryz.zeroValue57
 t146:=Tryz.underlying346
 a146:=Tryz.isAgg346
 z146:=Tryz.sizeOf346
 v146:=Tryz.zeroValue346
 g1:=by kernel_rfl }
open Go.RowKit Go.Lib in
theorem Tryz.strings_Cut(s sep:ByteArray)(m:Int)(w:Wd)(hs:s.size<4294967281)(hm:w.cell? ⟨0,0,none⟩=some (.int .i64 m)) :
  Calls PG 19 #[.string s,.string sep] w fun e w'=>e = .returned (.tuple #[.string ⟨(Lib.cut s.data.toList sep.data.toList).1.toArray⟩,.string ⟨(Lib.cut s.data.toList sep.data.toList).2.1.toArray⟩,.bool (Lib.cut s.data.toList sep.data.toList).2.2])∧∃n,w'=w.drewN n:=Any.strings_Cut Tryz.lays145 s sep m w hs hm
def Tryz.lays146_ren:Go.Shelf.Ren:=⟨fun | 146=>18 | 221=>50 | 268=>105 | 138=>106 | 143=>107 | 195=>178 | 197=>179 | 218=>180 | 219=>108 | 260=>251 | 217=>181 | 225=>182 | 224=>183 | 267=>184 | 266=>252 | 314=>253 | n=>n,fun | 9=>9 | 31=>22 | 3=>3 | 4=>4 | 0=>0 | 105=>271 | 21=>21 | 5=>5 | 46=>186 | 119=>389 | 139=>392 | 138=>391 | 146=>346 | 51=>203 | n=>n,fun | 1=>0 | 3=>5 | 4=>6 | n=>n⟩
theorem Tryz.lays146:Go.Proofs.Lays.n146 PG Tryz.lays146_ren:={
 mixed:=by kernel_rfl
 f138:=Tryz.func106.trans (UY some (by kernel_rfl))
 f143:=Tryz.func107.trans (UY some (by kernel_rfl))
 f146:=Tryz.func18.trans (UY some (by kernel_rfl))
 f195:=Tryz.func178.trans (UY some (by kernel_rfl))
 f197:=Tryz.func179.trans (UY some (by kernel_rfl))
 f217:=Tryz.func181.trans (UY some (by kernel_rfl))
 f218:=Tryz.func180.trans (UY some (by kernel_rfl))
 f219:=Tryz.func108.trans (UY some (by kernel_rfl))
 f221:=Tryz.func50.trans (UY some (by kernel_rfl))
 f224:=Tryz.func183.trans (UY some (by kernel_rfl))
 f225:=Tryz.func182.trans (UY some (by kernel_rfl))
 f260:=Tryz.func251.trans (UY some (by kernel_rfl))
 f266:=Tryz.func252.trans (UY some (by kernel_rfl))
 f267:=Tryz.func184.trans (UY some (by kernel_rfl))
 f268:=Tryz.func105.trans (UY some (by kernel_rfl))
 f314:=Tryz.func253.trans (UY some (by kernel_rfl))
 t0:=Tryz.underlying0
 a0:=Tryz.isAgg0
 z0:=Tryz.sizeOf0
 v0:=Tryz.zeroValue0
 t3:=Tryz.underlying3
 a3:=Tryz.isAgg3
 z3:=Tryz.sizeOf3
 v3:=Tryz.zeroValue3
 t4:=Tryz.underlying4
 a4:=Tryz.isAgg4
 z4:=Tryz.sizeOf4
 v4:=Tryz.zeroValue4
 t5:=Tryz.underlying5
 a5:=Tryz.isAgg5
 z5:=Tryz.sizeOf5
 v5:=Tryz.zeroValue5
 t9:=Tryz.underlying9
 a9:=Tryz.isAgg9
 z9:=Tryz.sizeOf9
 v9:=Tryz.zeroValue9
 t21:=Tryz.underlying21
 a21:=Tryz.isAgg21
 z21:=Tryz.sizeOf21
 v21:=Tryz.zeroValue21
 t31:=Tryz.underlying22
 a31:=Tryz.isAgg22
 z31:=Tryz.sizeOf22
 v31:=Tryz.zeroValue22
 t46:=Tryz.underlying186
 a46:=Tryz.isAgg186
 z46:=Tryz.sizeOf186
 v46:=Tryz.zeroValue186
 t51:=Tryz.underlying203
 a51:=Tryz.isAgg203
 z51:=Tryz.sizeOf203
 v51:=Tryz.zeroValue203
 t105:=Tryz.underlying271
 a105:=Tryz.isAgg271
 z105:=Tryz.sizeOf271
 v105:=Tryz.zeroValue271
 t119:=Tryz.underlying389
 a119:=Tryz.isAgg389
 z119:=Tryz.sizeOf389
 t138:=Tryz.underlying391
 a138:=Tryz.isAgg391
 z138:=Tryz.sizeOf391
 v138:=Tryz.zeroValue391
 t139:=Tryz.underlying392
 a139:=Tryz.isAgg392
 z139:=Tryz.sizeOf392
 v139:=Tryz.zeroValue392
 t146:=Tryz.underlying346
 a146:=Tryz.isAgg346
 z146:=Tryz.sizeOf346
 v146:=Tryz.zeroValue346
 g1:=by kernel_rfl
 g3:=by kernel_rfl
 g4:=by kernel_rfl }
open Go.RowKit Go.Lib in
theorem Tryz.strings_Split(s sep:ByteArray)(m:Int)(w:Wd)(hs:s.size<4294967281)(hm:w.cell? ⟨0,0,none⟩=some (.int .i64 m))(h1:1≤sep.size) :
  Calls PG 18 #[.string s,.string sep] w fun e w' =>
   e = .returned (.slice (some ⟨w.heap.size,0,none⟩) (Lib.countB s sep+1) (Lib.countB s sep+1))∧w'=w.alloc (.cells ((Lib.splitB sep 0 (Lib.countB s sep) s).map Value.string).toArray 9):=Any.strings_Split Tryz.lays146 (by kernel_rfl) s sep m w hs hm h1
def Tryz.laysSlF06_f85_ren:Go.Shelf.Ren:=⟨fun | 6=>85 | 15=>168 | 14=>167 | 28=>226 | 29=>227 | 20=>218 | 21=>219 | 22=>220 | 23=>221 | 24=>222 | 25=>223 | 26=>224 | 27=>225 | 46=>292 | 47=>293 | 48=>294 | 49=>295 | 50=>296 | 57=>311 | n=>n,fun | 22=>40 | 24=>52 | 25=>172 | 3=>3 | 39=>186 | 0=>0 | 53=>203 | 55=>59 | 4=>4 | 46=>320 | 45=>319 | 50=>192 | 5=>5 | 9=>9 | 66=>374 | 70=>378 | 76=>400 | 77=>401 | n=>n,fun | n=>n⟩
theorem Tryz.laysSlF06_f85:Go.Proofs.SlLaysF0.n6 PG Tryz.laysSlF06_f85_ren:={
 mixed:=by kernel_rfl
 f6:=⟨Tryz.f85.name,by decide,Tryz.func85.trans (UY some (by kernel_rfl))⟩
 f14:=⟨Tryz.f167.name,by decide,Tryz.func167.trans (UY some (by kernel_rfl))⟩
 f15:=Tryz.func168.trans (UY some (by kernel_rfl))
 f20:=⟨Tryz.f218.name,by decide,Tryz.func218.trans (UY some (by kernel_rfl))⟩
 f21:=⟨Tryz.f219.name,by decide,Tryz.func219.trans (UY some (by kernel_rfl))⟩
 f22:=⟨Tryz.f220.name,by decide,Tryz.func220.trans (UY some (by kernel_rfl))⟩
 f23:=⟨Tryz.f221.name,by decide,Tryz.func221.trans (UY some (by kernel_rfl))⟩
 f24:=⟨Tryz.f222.name,by decide,Tryz.func222.trans (UY some (by kernel_rfl))⟩
 f25:=⟨Tryz.f223.name,by decide,Tryz.func223.trans (UY some (by kernel_rfl))⟩
 f26:=⟨Tryz.f224.name,by decide,Tryz.func224.trans (UY some (by kernel_rfl))⟩
 f27:=⟨Tryz.f225.name,by decide,Tryz.func225.trans (UY some (by kernel_rfl))⟩
 f28:=Tryz.func226.trans (UY some (by kernel_rfl))
 f29:=Tryz.func227.trans (UY some (by kernel_rfl))
 f46:=⟨Tryz.f292.name,by decide,Tryz.func292.trans (UY some (by kernel_rfl))⟩
 f47:=Tryz.func293.trans (UY some (by kernel_rfl))
 f48:=Tryz.func294.trans (UY some (by kernel_rfl))
 f49:=⟨Tryz.f295.name,by decide,Tryz.func295.trans (UY some (by kernel_rfl))⟩
 f50:=⟨Tryz.f296.name,by decide,Tryz.func296.trans (UY some (by kernel_rfl))⟩
 f57:=⟨Tryz.f311.name,by decide,Tryz.func311.trans (UY some (by kernel_rfl))⟩
 t0:=Tryz.underlying0
 a0:=Tryz.isAgg0
 z0:=Tryz.sizeOf0
 v0:=Tryz.zeroValue0
 t3:=Tryz.underlying3
 a3:=Tryz.isAgg3
 z3:=Tryz.sizeOf3
 v3:=Tryz.zeroValue3
 t4:=Tryz.underlying4
 a4:=Tryz.isAgg4
 z4:=Tryz.sizeOf4
 v4:=Tryz.zeroValue4
 t5:=Tryz.underlying5
 a5:=Tryz.isAgg5
 z5:=Tryz.sizeOf5
 v5:=Tryz.zeroValue5
 t9:=Tryz.underlying9
 a9:=Tryz.isAgg9
 z9:=Tryz.sizeOf9
 v9:=Tryz.zeroValue9
 t22:=Tryz.underlying40
 a22:=Tryz.isAgg40
 z22:=Tryz.sizeOf40
 v22:=Tryz.zeroValue40
 t25:=Tryz.underlying172
 a25:=Tryz.isAgg172
 z25:=Tryz.sizeOf172
 v25:=Tryz.zeroValue172
 t39:=Tryz.underlying186
 a39:=Tryz.isAgg186
 z39:=Tryz.sizeOf186
 v39:=Tryz.zeroValue186
 t45:=Tryz.underlying319
 a45:=Tryz.isAgg319
 z45:=Tryz.sizeOf319
 v45:=Tryz.zeroValue319
 t46:=Tryz.underlying320
 a46:=Tryz.isAgg320
 z46:=Tryz.sizeOf320
 v46:=Tryz.zeroValue320
 t50:=Tryz.underlying192
 a50:=Tryz.isAgg192
 z50:=Tryz.sizeOf192
 v50:=Tryz.zeroValue192
 t53:=Tryz.underlying203
 a53:=Tryz.isAgg203
 z53:=Tryz.sizeOf203
 v53:=Tryz.zeroValue203
 t55:=Tryz.underlying59
 a55:=Tryz.isAgg59
 z55:=Tryz.sizeOf59
 v55:=Tryz.zeroValue59
 t66:=Tryz.underlying374
 a66:=Tryz.isAgg374
 z66:=Tryz.sizeOf374
 v66:=Tryz.zeroValue374
 t70:=Tryz.underlying378
 a70:=Tryz.isAgg378
 z70:=Tryz.sizeOf378
 v70:=Tryz.zeroValue378
 t76:=Tryz.underlying400
 a76:=Tryz.isAgg400
 z76:=Tryz.sizeOf400
 v76:=Tryz.zeroValue400
 t77:=Tryz.underlying401
 a77:=Tryz.isAgg401
 z77:=Tryz.sizeOf401
 v77:=Tryz.zeroValue401 }
open Go.RowKit Go.Lib Go.Sort in
theorem Tryz.slices_SortFunc_none{α:Type}[Inhabited α](p:OA)(cap:Nat)(fv:Value)(w:Wd) :
  Calls PG 85 #[.slice p 0 cap,fv] w fun e w'=>e = .returned (.tuple #[])∧w'=w:=AnyF.slices_SortFunc_none Tryz.laysSlF06_f85 p cap fv w
open Go.RowKit Go.Lib Go.Sort in
theorem Tryz.slices_SortFunc_total{α:Type}[Inhabited α](k:Nat)(aE:∀w,(isAgg (Tryz.laysSlF06_f85_ren.t 24)).run PG w = .ok true w)(zE:∀w,(Go.sizeOf (Tryz.laysSlF06_f85_ren.t 24)).run PG w = .ok k w)(enc:α→List Value)(hk:∀x,(enc x).length=k)(h1:∀x,∀v∈enc x,v.oneCell'=true)(cf:α→α→Int)(hO:SWO (ltOf cf))(g:Nat)(cb:Array Value)(blk off cap:Nat)(d:Array α)(w:Wd)(eg:∀args w,(callFunc g args).run PG w = .ok (.enter g args) w)(hcmp:CmpLays PG g cb enc k cf blk off d.size w)(hH:HoldsK enc k w blk off d)(hblk:blk<w.heap.size)(hsz:d.size<4611686018427387904)(hT:∀x y,(ltOf cf) x y=false→(ltOf cf) y x=false→x=y) :
  Calls PG 85 #[.slice (some ⟨blk,off,none⟩) d.size cap,.func (.func g) #[] cb] w fun e w' =>
   e = .returned (.tuple #[])∧∃n os,w'=sortWorldK enc k w blk off n (d.toList.mergeSort fun x y => !(ltOf cf) y x).toArray os:=AnyQ.slices_SortFunc_total Tryz.laysSlF06_f85 k aE zE enc hk h1 cf hO g cb blk off cap d w eg hcmp hH hblk hsz hT
end Go.Proofs
namespace Go.Proofs.YtakcdebpklffiaaGreatDoor
open Go.Vc Go.RowKit Go.Sei
theorem zjQ(f:Nat->Bool):(seg 8 fun r => .bool (f r)).all Value.oneCell'=true:=by
 rw[Qa];intro v a;obtain⟨i,_,rfl⟩:=Uz.1 a;rfl
section
variable{w:Wd}{q:OA}{cap:Nat}{l:List InsD}
theorem zl9(hl:SlR zS w q l)(hn:l.length<=1000000)(hd:∀x∈l,wOp x.op=true->x.dst.toNat<8):Calls PG 47 #[.slice q l.length cap] w fun e w' =>
  e = .returned (.agg (seg 8 fun r => .bool (jY l r)).toArray)/\Bw w w':=by
 refine qg 25 [.slice q l.length cap] (.s .p (.c .p (.c (.s .p (.b (.l (.s .p (.s .p (.s (.b (.c .p (.s .p (.b (.c .p .p))))) .p)))))) .p))) Tryz.func47 ?_;obtain⟨Z0,z⟩:∃Z0:List Value,Z0=seg 8 fun _ => .bool false:=⟨_,rfl⟩;have d:=zw w (.cells (seg 8 fun _ => .bool false).toArray 121);have b1:Bw w (w.alloc (.cells (seg 8 fun _ => .bool false).toArray 121)):=zba w _;have n1:(w.alloc (.cells (seg 8 fun _ => .bool false).toArray 121)).heap.size=w.heap.size+1:=wz _ _;have f:=zw (w.alloc (.cells (seg 8 fun _ => .bool false).toArray 121)) (.cells (seg 8 fun _ => .bool false).toArray 121);refine⟨Unit,fun _=>⟨[(0,.slice q l.length cap),(2,At0 w.heap.size),(3,At0 (w.heap.size+1))],[]⟩,fun _ X=>X.heap[w.heap.size]?=some (.cells Z0.toArray 121 (0,0))/\X.heap[w.heap.size+1]?=some (.cells (seg 8 fun r => .bool (jY [] r)).toArray 121 (0,0))/\Bw w X,
  ⟨(),⟨.cons rfl (.cons rfl (.cons (by rw[<- n1];rfl) .nil)),rfl⟩,by rw[z];exact z6 _ d,by rw[<- n1];exact f,b1.alloc (by omega) _⟩,?_⟩
 rintro _ X ⟨d,f,t⟩;clear n1 b1;refine⟨Unit,fun _=>⟨[(2,At0 w.heap.size),(3,At0 (w.heap.size+1))],[]⟩,fun _ X=>X.heap[w.heap.size]?=some (.cells Z0.toArray 121 (0,0))/\X.heap[w.heap.size+1]?=some (.cells (seg 8 fun r => .bool (jY l r)).toArray 121 (0,0))/\Bw w X,?_,?_⟩
 ·refine⟨Nat,fun k=>⟨[(2,At0 w.heap.size),(3,At0 (w.heap.size+1)),(6,.slice q l.length cap),(7,i64 l.length),(8,i64 k)],[]⟩,fun k X=>k<=l.length/\X.heap[w.heap.size]?=some (.cells Z0.toArray 121 (0,0))/\X.heap[w.heap.size+1]?=some (.cells (seg 8 fun r => .bool (jY (l.take k) r)).toArray 121 (0,0))/\Bw w X,fun k=>l.length-k,0,
   (cvE rfl rfl),⟨UP _,d,f,t⟩,?_⟩
  rintro k X ⟨hk,d,f,t⟩;refine biE (fun h=>?_) fun h=>?_
  ·have a:k<l.length:=by have:=dT h;omega
   clear h;obtain⟨b,o,rfl,ae,ac⟩:=(hl.below t).at a;obtain⟨x,hx⟩:=nm (l[k]);have g:=ac k a;rw[<- hx] at g;have af:x∈l:=by rw[hx];exact gM a
   have m:∀r,jY (l.take (k+1)) r=(jY (l.take k) r||(wOp x.op&&decide (x.dst.toNat=r))):=fun r=>by rw[hx];exact ziA a r
   refine⟨Nat,fun s=>⟨[(2,At0 w.heap.size),(3,At0 (w.heap.size+1)),(5,At0 s),(6,.slice (some ⟨b,o,none⟩) l.length cap),(7,i64 l.length),(8,i64 k)],[]⟩,fun s Y=>Y.heap[s]?=some (.cells (zS.enc x).toArray 68 (0,0))/\Bw X Y,?_,?_⟩
   ·exact⟨k,rfl,a,zS.enc x,rfl,g,ae,zr (X:=X) (v := .agg (zS.enc x).toArray) k68 rfl rfl rfl fun U ad fU sU=>⟨X.heap.size,(cvE rfl rfl),fU,ad⟩⟩
   rintro s Y ⟨f5,u⟩;have d:=zb u d;have f:=zb u f;have bY:=zst t u;refine⟨_,zc (za f5) (i:=0) rfl,Unit,fun _=>⟨[(2,At0 w.heap.size),(3,At0 (w.heap.size+1)),(5,At0 s),(6,.slice (some ⟨b,o,none⟩) l.length cap),(7,i64 l.length),(8,i64 k),(14,.bool (wOp x.op))],[]⟩,fun _ Z=>Y=Z,?_,?_⟩
   ·refine biE (fun h=>?_) fun h=>?_
    ·have h:x.op=1:=dT ((za2 (x:=x.op) (y:=1)).symm.trans h);exact⟨(),⟨.cons rfl (.cons rfl (.cons rfl (.cons rfl (.cons rfl (.cons rfl (.cons (by rw[h];rfl) .nil)))))),rfl⟩,rfl⟩
    have h1:¬x.op=1:=dF ((za2 (x:=x.op) (y:=1)).symm.trans h);refine biE (fun h=>?_) fun h=>?_
    ·have h:x.op=3:=dT ((za2 (x:=x.op) (y:=3)).symm.trans h);exact⟨(),⟨.cons rfl (.cons rfl (.cons rfl (.cons rfl (.cons rfl (.cons rfl (.cons (by rw[h];rfl) .nil)))))),rfl⟩,rfl⟩
    have h3:¬x.op=3:=dF ((za2 (x:=x.op) (y:=3)).symm.trans h);refine biE (fun h=>?_) fun h=>?_
    ·have h:x.op=4:=dT ((za2 (x:=x.op) (y:=4)).symm.trans h);exact⟨(),⟨.cons rfl (.cons rfl (.cons rfl (.cons rfl (.cons rfl (.cons rfl (.cons (by rw[h];rfl) .nil)))))),rfl⟩,rfl⟩
    have h4:¬x.op=4:=dF ((za2 (x:=x.op) (y:=4)).symm.trans h);refine biE (fun h=>?_) fun h=>?_
    ·have h:x.op=5:=dT ((za2 (x:=x.op) (y:=5)).symm.trans h);exact⟨(),⟨.cons rfl (.cons rfl (.cons rfl (.cons rfl (.cons rfl (.cons rfl (.cons (by rw[h];rfl) .nil)))))),rfl⟩,rfl⟩
    have h5:¬x.op=5:=dF ((za2 (x:=x.op) (y:=5)).symm.trans h);have e6:wOp x.op=decide (((x.op.toNat:Nat):Int)=6):=by
     unfold wOp;rw[QX h1,QX h3,QX h4,QX h5];exact(za2 (x:=x.op) (y:=6)).symm
    exact⟨(),⟨.cons rfl (.cons rfl (.cons rfl (.cons rfl (.cons rfl (.cons rfl (.cons (by rw[e6];rfl) .nil)))))),rfl⟩,rfl⟩
   rintro _ _ rfl;refine biE (fun h=>?_) fun h=>?_
   ·have aa:=hd x af h;refine⟨_,zc (za f5) (i:=1) rfl,x.dst.toNat,rfl,aa,zn k4 f (o:=0+x.dst.toNat*1) (v := .bool true) rfl rfl (by rw[zy];omega) rfl fun V fV gV sV=>?_⟩;rw[UH,UO] at fV;have e:=zcR (n:=8) (fun r => .bool (jY (l.take k) r)) (fun r => .bool (jY (l.take (k+1)) r)) (i:=x.dst.toNat) aa rfl fun j hj=>by
     rw[m,QX (fun e=>hj e.symm),QY,Um]
    rw[m,h,Uh rfl,Bool.and_true,Bool.or_true] at e;rw[e] at fV;exact⟨_,zg (by omega),k+1,(cvE rfl rfl),⟨a,(gV.block _ (hlt d) (by simp)).trans d,fV,bY.trans (zm gV bY.size (by omega))⟩,by dsimp only;omega⟩
   ·have e:(fun r=>Value.bool (jY (l.take (k+1)) r))=fun r => .bool (jY (l.take k) r):=funext fun r=>by rw[m,h,QZ,Um]
    exact⟨_,zg (by omega),k+1,(cvE rfl rfl),⟨a,d,by rw[e];exact f,bY⟩,by dsimp only;omega⟩
  ·have ab:k=l.length:=by have:=dF h;omega
   subst ab;rw[Qn] at f;exact⟨(),(cvE rfl rfl),d,f,t⟩
 rintro _ X ⟨d,f,t⟩;exact⟨seg 8 fun r => .bool (jY l r),zy 8 _,za f,hlt f,zo (v := .agg (seg 8 fun r => .bool (jY l r)).toArray) ztF d (by show(seg 8 _).length=8;exact zy 8 _) (by rw[z];show(seg 8 _).length=8;exact zy 8 _) (zjQ _) ⟨seg 8 fun r => .bool (jY l r),zy 8 _,za (zk d),rfl,zh t (UN _) _⟩⟩
end
theorem zbY(x y:Operand)(a b:List UInt8)(h:a.length+b.length<=1000000000)(w:Wd):(do eqGuard .add 9 x y (zJ a) (zJ b);binOp .add 9 (zJ a) (zJ b)).run PG w = .ok (zJ (a++b)) w:=by
 have g:(eqGuard .add 9 x y (zJ a) (zJ b)).run PG w = .ok () w:=rfl;have c:¬(((bs a).size+(bs b).size:Nat):Int) > IntKind.i64.max:=by
  have e:(bs a).size=a.length:=rfl;have f:(bs b).size=b.length:=rfl;rw[e,f];have:IntKind.i64.max=9223372036854775807:=by decide
  omega
 have d:bs a++bs b=bs (a++b):=by
  apply ByteArray.ext;simp[bs,ByteArray.data_append]
 rw[UJ,g,KT];show(Op.stringOp .add (bs a) (bs b)).run PG w=_;simp only[Op.stringOp,Gc c,UK,d];rfl
def ItoH (N:Nat) (w:Wd):Prop:=∀n,n<N->∀X,Bw w X->Calls PG 48 #[i64 n] X fun e Y=>e = .returned (zJ (qK n))/\Bw X Y
theorem ItoH.below{N:Nat}{w X:Wd}(h:ItoH N w)(hb:Bw w X):ItoH N X:=fun n b Y a=>h n b Y ((zst hb a))
theorem zkG(w:Wd):ItoH 100 w:=fun n a X _=>by
 refine cmo (Tryz.strconv_Itoa_small n a X) ?_;rintro e _ ⟨rfl,rfl⟩;rw[zlV (by omega)];exact⟨rfl,UR _ _⟩
structure WdsV (w:Wd) (ws:List (List UInt8)) (q:OA) (c:Nat) (n:Nat) (X:Wd):Prop where
 own:OwnS zeD 9 w.heap.size X q c ws
 len:ws.length<=n
 word:∀x∈ws,x.length<=20000
 bel:Bw w X
theorem WdsV.below{w X Y:Wd}{ws:List (List UInt8)}{q:OA}{c n:Nat}(h:WdsV w ws q c n X)(hb:Bw X Y):WdsV w ws q c n Y:=⟨h.own.below hb,h.len,h.word,h.bel.trans (hb.mono h.bel.size)⟩
theorem zjU{w X:Wd}{ws:List (List UInt8)}{q:OA}{c n:Nat}{s:List UInt8}(h:WdsV w ws q c n X)(hn:n<=1000)(hs:s.length<=20000){K:Value->Wd->Prop}
  (k:∀q' c' Y,WdsV w (ws++[s]) q' c' (n+1) Y->K (.slice q' (ws++[s]).length c') Y) :
  SatR ((Builtin.append_ #[22,22] 22 #[.slice q ws.length c,.slice (some ⟨X.heap.size,0,none⟩) 1 1]).run PG (X.alloc (.cells (zeD.enc s).toArray 9))) K:=by
 have a:Bw X (X.alloc (.cells (zeD.enc s).toArray 9)):=zba _ _;have j:=h.len;refine qQ Tryz.underlying22 k9 rfl rfl rfl (h.own.below a) (news:=[s]) rfl (qq zeD s) (by have:=h.bel.size;have:=a.size;omega) (by show ws.length+1<=_;omega) (by show(ws.length+1)*16<=_;omega) fun g c' S f i d e=>k g c' S ⟨f,by rw[lap];show _+1<=_;omega,fun x b=>?_,(h.bel.trans (a.mono h.bel.size)).trans d⟩;rcases QH.1 b with b | b
 ·exact h.word x b
 ·rw[Kv.1 b];exact hs
theorem zpG{n:Nat}{l:List InsD}(h:qX l n=true):l.length<=12/\∀x∈l,x.dst.toNat<8:=by
 unfold qX at h;rw[bAT,Qa,dE] at h;refine⟨h.1,fun x b=>?_⟩;obtain⟨i,a,rfl⟩:=Kd b;have:=h.2 i (Ue.2 a);rw[gE a] at this;have:=Qa.1 this (decide (l[i].dst.toNat<8)) (by unfold qw;simp);exact dT this
theorem zoj{s:List UInt8}(h:zaI s=true):s.length<=16:=by
 unfold zaI at h
 cases s with
 | nil=>cases h
 | cons c r =>
  rw[bAT] at h;exact dT h.1
theorem zhk:∀{l pre:List (List UInt8)},zbd pre l=true->∀s∈l,s.length<=16
 | [],_,_,s,b=>by cases b
 | a::r,pre,h,s,b=>by
  unfold zbd at h;rw[bAT,bAT] at h;rcases Ur.1 b with rfl | b
  ·exact zoj h.1
  ·exact zhk h.2.2 s b
structure OkP (p:Prg):Prop where
 t1:1<=p.threads.length
 t4:p.threads.length<=4
 th:∀l∈p.threads,l.length<=12/\∀x∈l,x.dst.toNat<8
 l1:1<=p.locs.length
 l6:p.locs.length<=6
 ln:∀s∈p.locs,s.length<=16
theorem zoc{p:Prg}(h:zbr p=true):OkP p:=by
 unfold zbr zcD at h;simp only[bAT,dE,Qa] at h;obtain⟨_,⟨g,e,_,a⟩,⟨f,c,_⟩,d,_⟩:=h;exact⟨f,c,fun l b=>zpG (d l b),g,e,zhk a⟩
section
variable{w:Wd}{F:FinV}{p:Prg}{vs:List Value}{B N:Nat}
theorem zpk(hB:B<=w.heap.size)(hp:PrgV B w vs p)(hG:GlobC w)(hN:ItoH N w)(hN8:8<=N)(hr:∀t r,t<4->r<8->(F.reg t r).toNat<N)(hm:∀k,k<6->(F.mem k).toNat<N) :
  CB 17 #[.agg vs.toArray,qT F] w (zJ (zbM p F)):=by
 refine qg 74 [.agg vs.toArray,qT F] (.c .p (.s .p (.s .p (.c (.s .p (.b (.l (.s .p (.s .p (.s (.b (.c .p (.s .p (.b (.l (.s .p (.s .p (.s (.b (.c .p .p)) .p)))))))) .p)))))) (.c (.s .p (.b (.l (.s .p (.s .p (.s (.b (.c .p .p)) .p)))))) .p))))) Tryz.func17 ?_;have a2:=hp.size;refine⟨Unit,fun _=>⟨[(2,At0 w.heap.size),(3,At0 (w.heap.size+1))],[]⟩,fun _ X=>X.heap[w.heap.size]?=some (.cells vs.toArray 29 (0,0))/\X.heap[w.heap.size+1]?=some (.cells (zA.enc F).toArray 52 (0,0))/\Bw w X,?_,?_⟩
 ·have e1:(w.alloc (.cells (Value.agg vs.toArray).cells 29)).heap.size=w.heap.size+1:=wz _ _;have f3:=zw (w.alloc (.cells (Value.agg vs.toArray).cells 29)) (.cells (qT F).cells 52);rw[e1] at f3;exact⟨(),⟨.cons rfl (.cons (by rw[<- e1];rfl) .nil),rfl⟩,z6 _ (zw w _),f3,((zba w _)).alloc (by rw[wz];omega) _⟩
 rintro _ W0 ⟨f2,f3,b0⟩;refine⟨vs,a2,za f2,hlt f2,cmo (zfv (UC hB b0.size) (hp.below (b0.mono hB)) (hG.below b0)) ?_⟩;rintro e W1 ⟨n,rfl,hn,b1⟩;have aa:=zst b0 b1;refine biE (fun h=>?_) fun h=>?_
 ·have h:¬n=0:=by simpa using h
  refine⟨?_,aa⟩;unfold zbM;rw[Gc fun e=>h (hn.2 e)];rfl
 have h:n=0:=by simpa using h
 have aw:=hn.1 h;have ok:=zoc aw;clear hn h;have f2:=zb b1 f2;have f3:=zb b1 f3;have ad:=hN.below aa;have az:=hp.below (aa.mono hB);clear hN hG;obtain⟨bh,p1,c1,p2,c2,p3,c3,p4,c4,rfl,h1,h2,⟨xs,ah,h3,bc⟩,h4,h5⟩:=az;have ab:B<=W1.heap.size:=UC hB aa.size;have bj:xs.length=p.threads.length:=by rw[<- ah,QD]
 refine⟨OA×Nat,fun s=>⟨[(2,At0 w.heap.size),(3,At0 (w.heap.size+1)),(5,.slice s.1 (za3 F p.threads p.threads.length).length s.2)],[]⟩,fun s X=>WdsV W1 (za3 F p.threads p.threads.length) s.1 s.2 32 X,?_,?_⟩
 ·refine⟨_,zc (za f2) (i:=3) rfl,?_⟩;refine⟨Nat×OA×Nat,fun s=>⟨[(2,At0 w.heap.size),(3,At0 (w.heap.size+1)),(5,.slice s.2.1 (za3 F p.threads s.1).length s.2.2),(16,.slice p3 p.threads.length c3),(17,i64 p.threads.length),(18,i64 (s.1:Nat))],[]⟩,
   fun s X=>s.1<=p.threads.length/\WdsV W1 (za3 F p.threads s.1) s.2.1 s.2.2 (8*s.1) X,fun s=>p.threads.length-s.1,(0,none,0),(cvE rfl rfl),⟨UP _,OwnS.nil,UN _,fun x hx=>(by cases hx),UR _ _⟩,?_⟩
  rintro⟨k,q,c⟩ X ⟨hk,d⟩;dsimp only at hk d;refine biE (fun h=>?_) fun h=>?_
  ·have u:k<p.threads.length:=by have:=dT h;omega
   clear h;have ae:k<xs.length:=by omega
   obtain⟨x,hx⟩:=nm (xs[k]);have ar:x∈xs:=by rw[hx];exact gM ae
   have a8:p.threads.getD k []=x.1:=by rw[<- ah,gDe,KM,gE ae,hx];rfl
   have be:x.1∈p.threads:=by rw[<- ah];exact Kg ar
   have zck:=(h3.below (d.bel.mono ab)).slr (UC ab d.bel.size);obtain⟨b,o,rfl,ay,am⟩:=zck.at ae;have z:=am k ae;rw[<- hx] at z;have a5:=ok.th _ be;refine⟨Unit,fun _=>⟨[(2,At0 w.heap.size),(3,At0 (w.heap.size+1)),(5,.slice q (za3 F p.threads k).length c),(6,i64 k),(7,.slice x.2.1 x.1.length x.2.2),(16,.slice (some ⟨b,o,none⟩) p.threads.length c3),(17,i64 p.threads.length),(18,i64 k)],[]⟩,fun _ Y=>X=Y,?_,?_⟩
   ·exact⟨k,rfl,u,_,jt z,(),(cvE rfl rfl),rfl⟩
   rintro _ _ rfl;have a3:=((bc x ar).below (d.bel.mono ab)).slr (UC ab d.bel.size);refine cmo (zl9 a3 (by omega) fun y hy _=>a5.2 y hy) ?_;rintro e Y ⟨rfl,bY⟩;have d:=d.below bY;refine⟨Nat×OA×Nat,fun s=>⟨[(2,At0 w.heap.size),(3,At0 (w.heap.size+1)),(5,.slice s.2.1 (za3 F p.threads k++zcu F x.1 k s.1).length s.2.2),(6,i64 k),(16,.slice (some ⟨b,o,none⟩) p.threads.length c3),(17,i64 p.threads.length),(18,i64 k),(24,.agg (seg 8 fun r => .bool (jY x.1 r)).toArray),(25,i64 (s.1:Nat))],[]⟩,
    fun s X=>s.1<=8/\WdsV W1 (za3 F p.threads k++zcu F x.1 k s.1) s.2.1 s.2.2 (8*k+s.1) X,fun s=>8-s.1,(0,q,c),⟨.cons rfl (.cons rfl (.cons (by rw[show zcu F x.1 k 0=[] from rfl,QA];rfl) (.cons rfl (.cons rfl (.cons rfl (.cons rfl (.cons rfl (.cons rfl .nil)))))))),rfl⟩,⟨UP _,by rw[show zcu F x.1 k 0=[] from rfl,QA];exact d⟩,?_⟩
   clear d bY;rintro⟨r,q,c⟩ X ⟨m,d⟩;dsimp only at m d;refine biE (fun h=>?_) fun h=>?_
   ·have m:r<8:=(by have:=dT h;omega);clear h;refine⟨Unit,fun _=>⟨[(2,At0 w.heap.size),(3,At0 (w.heap.size+1)),(5,.slice q (za3 F p.threads k++zcu F x.1 k r).length c),(6,i64 k),(8,i64 r),(9,.bool (jY x.1 r)),(16,.slice (some ⟨b,o,none⟩) p.threads.length c3),(17,i64 p.threads.length),(18,i64 k),(24,.agg (seg 8 fun r => .bool (jY x.1 r)).toArray),(25,i64 (r:Nat))],[]⟩,fun _ Y=>X=Y,?_,?_⟩
    ·exact⟨r,rfl,m,zbb (v := .bool (jY x.1 r)) (by rw[UO];exact jV (fun r => .bool (jY x.1 r)) m) ⟨(),(cvE rfl rfl),rfl⟩⟩
    rintro _ _ rfl;have f:=zkp F x.1 k r;refine biE (fun h=>?_) fun h=>?_
    ·rw[Gd h] at f;have al:=zb d.bel f3;have ak:k<4:=(by have:=ok.t4;omega);have bb:k<N:=(by omega);have a4:r<N:=(by omega);obtain⟨V,hV⟩:=nm ((F.reg k r).toNat);have ai:V<N:=(by rw[hV];exact hr k r ak m);refine DrawE.ord [18] [0,1,4,8,9,10,11,12,13,14,2,3,5,6,7,15,16,17,18,19] (by kernel_rfl) ⟨k,rfl,ak,r,rfl,m,?_⟩;refine⟨_,by
      have:=zc (za (hdr al)) (zib (F:=F) ak m);rw[UO,Us];exact this,?_⟩
     refine⟨(V:Int),by rw[hV];exact zg (by have:=(F.reg k r).toNat_lt;omega),?_⟩;have bd:Bw X X.drew:=(UR _ X).drew;refine cmo (ad k bb X.drew (d.bel.trans (bd.mono d.bel.size))) ?_;rintro e X1 ⟨rfl,b1⟩;refine⟨b1,?_⟩;have l1:=qZ k;have l2:=qZ r;have l3:=qZ V;have ax:=bd.trans b1;have af:=d.below ax;refine⟨_,fun w=>zbY _ _ (qK k) [58,114] (by show _+2<=_;omega) w,cmo (ad r a4 X1 af.bel) ?_⟩;rintro e X2 ⟨rfl,b2⟩;refine⟨b2,?_⟩;have ap:=af.below b2;refine⟨_,fun w=>zbY _ _ (qK k++[58,114]) (qK r) (by rw[lap];show _+2+_<=_;omega) w,_,fun w=>zbY _ _ (qK k++[58,114]++qK r) [61] (by rw[lap,lap];show _+2+_+1<=_;omega) w,cmo (ad V ai X2 ap.bel) ?_⟩;rintro e X3 ⟨rfl,b3⟩;refine⟨b3,?_⟩;have a9:=ap.below b3;refine⟨_,fun w=>zbY _ _ (qK k++[58,114]++qK r++[61]) (qK V) (by rw[lap,lap,lap];show _+2+_+1+_<=_;omega) w,?_⟩;have hs:qK k++[58,114]++qK r++[61]++qK V=zfg F k r:=(by rw[hV];rfl);rw[hs];refine⟨⟨by decide,by decide,rfl⟩,[zJ (zfg F k r)],rfl,(zba _ _),?_⟩;unfold zkv;refine zjU (s:=zfg F k r) a9 (by omega) (UC (znZ F k r) (by decide)) fun q' c' Y hY=>?_;rw[KH,<- f] at hY ⊢;exact⟨_,zg (by omega),(r+1,q',c'),(cvE rfl rfl),⟨m,hY⟩,by dsimp only;omega⟩
    ·rw[Gc (by rw[h];decide),QA] at f;exact⟨_,zg (by omega),(r+1,q,c),⟨.cons rfl (.cons rfl (.cons (by rw[f];rfl) (.cons rfl (.cons rfl (.cons rfl (.cons rfl (.cons rfl (.cons rfl .nil)))))))),rfl⟩,⟨m,by dsimp only;rw[f];exact⟨d.own,UC d.len (by omega),d.word,d.bel⟩⟩,by dsimp only;omega⟩
   ·have ac:r=8:=(by have:=dF h;omega);subst ac;have e:=zj9 F p.threads k;rw[a8] at e;rw[<- e] at d;have:=ok.t4;exact⟨_,zg (by omega),(k+1,q,c),⟨.cons rfl (.cons rfl (.cons (by dsimp only;rw[e];rfl) (.cons rfl (.cons rfl (.cons rfl .nil))))),rfl⟩,⟨u,d.own,UC d.len (by show _<=8*(k+1);omega),d.word,d.bel⟩,by dsimp only;omega⟩
  ·have ac:k=p.threads.length:=by have:=dF h;omega
   subst ac;exact⟨(q,c),(cvE rfl rfl),d.own,UC d.len (by have:=ok.t4;omega),d.word,d.bel⟩
 rintro⟨q,c⟩ X d;dsimp only at d;have aj:=zb d.bel f2;obtain⟨A,hA⟩:=nm (za3 F p.threads p.threads.length);rw[<- hA] at d ⊢;refine⟨OA×Nat,fun s=>⟨[(5,.slice s.1 (A++zaS F p.locs p.locs.length).length s.2)],[]⟩,fun s X=>WdsV W1 (A++zaS F p.locs p.locs.length) s.1 s.2 64 X,?_,?_⟩
 ·refine⟨_,zc (za aj) (i:=1) rfl,?_⟩;refine⟨Nat×OA×Nat,fun s=>⟨[(2,At0 w.heap.size),(3,At0 (w.heap.size+1)),(5,.slice s.2.1 (A++zaS F p.locs s.1).length s.2.2),(52,.slice p1 p.locs.length c1),(53,i64 p.locs.length),(54,i64 (s.1:Nat))],[]⟩,
   fun s X=>s.1<=p.locs.length/\WdsV W1 (A++zaS F p.locs s.1) s.2.1 s.2.2 (32+s.1) X,fun s=>p.locs.length-s.1,(0,q,c),⟨.cons rfl (.cons rfl (.cons (by rw[show zaS F p.locs 0=[] from rfl,QA];rfl) (.cons rfl (.cons rfl (.cons rfl .nil))))),rfl⟩,⟨UP _,by rw[show zaS F p.locs 0=[] from rfl,QA];exact d⟩,?_⟩
  clear d aj;rintro⟨k,q,c⟩ X ⟨hk,d⟩;dsimp only at hk d;refine biE (fun h=>?_) fun h=>?_
  ·have u:k<p.locs.length:=by have:=dT h;omega
   clear h;obtain⟨s,hs⟩:=nm (p.locs[k]);have a7:p.locs.getD k []=s:=by rw[gDe,gE u,hs];rfl
   have bg:=ok.ln s (by rw[hs];exact gM u);have zck:=(h1.below (d.bel.mono ab)).slr (UC ab d.bel.size);obtain⟨b,o,rfl,ay,am⟩:=zck.at u;have z:=am k u;rw[<- hs] at z;refine⟨Unit,fun _=>⟨[(2,At0 w.heap.size),(3,At0 (w.heap.size+1)),(5,.slice q (A++zaS F p.locs k).length c),(10,i64 k),(11,zJ s),(52,.slice (some ⟨b,o,none⟩) p.locs.length c1),(53,i64 p.locs.length),(54,i64 k)],[]⟩,fun _ Y=>X=Y,?_,?_⟩
   ·exact⟨k,rfl,u,_,jt z,(),(cvE rfl rfl),rfl⟩
   rintro _ _ rfl;have al:=zb d.bel f3;have ag:k<6:=by have:=ok.l6;omega
   obtain⟨V,hV⟩:=nm ((F.mem k).toNat);have ai:V<N:=by rw[hV];exact hm k ag
   have l3:=qZ V;refine⟨_,fun w=>zbY _ _ s [61] (by show _+1<=_;omega) w,k,rfl,ag,?_⟩;refine⟨_,by
    have:=zc (za al) (zic (F:=F) ag);rw[UO,Us];exact this,?_⟩
   refine⟨(V:Int),by rw[hV];exact zg (by have:=(F.mem k).toNat_lt;omega),cmo (ad V ai X d.bel) ?_⟩;rintro e X1 ⟨rfl,b1⟩;have af:=d.below b1;refine⟨_,fun w=>zbY _ _ (s++[61]) (qK V) (by rw[lap];show _+1+_<=_;omega) w,?_⟩;have ao:s++[61]++qK V=zh7 F k (p.locs.getD k []):=by rw[hV,a7];rfl
   have f:=zkE F p.locs k;have a1:(zh7 F k (p.locs.getD k [])).length<=20000:=by rw[<- ao,lap,lap];show _+1+_<=_;omega
   rw[ao];refine⟨⟨by decide,by decide,rfl⟩,[zJ (zh7 F k (p.locs.getD k []))],rfl,?_⟩;unfold zcA jP;refine zjU (s:=zh7 F k (p.locs.getD k [])) af (by omega) a1 fun q' c' Y hY=>?_;rw[KH,<- f] at hY ⊢;exact⟨_,zg (by omega),(k+1,q',c'),(cvE rfl rfl),⟨u,hY⟩,by dsimp only;omega⟩
  ·have ac:k=p.locs.length:=by have:=dF h;omega
   subst ac;exact⟨(q,c),(cvE rfl rfl),d.own,UC d.len (by have:=ok.l6;omega),d.word,d.bel⟩
 clear d aj;rintro⟨q,c⟩ X d;dsimp only at d;obtain⟨ws,an⟩:=nm (A++zaS F p.locs p.locs.length);have a0:zaM p F=ws:=by rw[an,hA];rfl
 rw[<- an] at d ⊢;have a6:0<ws.length:=by
  rw[an,lap];unfold zaS;rw[QD,KN];have:=ok.l1;omega
 obtain⟨g,o,rfl,hg,hc⟩:=d.own.row.at a6;have au:ws.length<=c:=by
  rcases d.own.inv with⟨h,_⟩ | ⟨g',bi,h,_,_,ba,_⟩
  ·cases h
  ·exact ba
 have av:(ws.map bs).map (fun x=>x.data.toList)=ws:=by rw[Uw];exact List.map_id _
 have bk:=zlF (sep:=[32]) d.word;have aq:=d.len;have bf:ws.length*(20000+[(32:UInt8)].length)<=64*20001:=Ug aq (UN _);have hJ:=Tryz.strings_Join g o c (ws.map bs) (bs [32]) X (fun j x hx=>by
   rw[KM,Option.map_eq_some_iff] at hx;obtain⟨a,ha,rfl⟩:=hx;obtain⟨hj,rfl⟩:=Jo.1 ha;have:=jt (hc j hj)
   rwa [show zeD.sz=1 from rfl,UO] at this) hg (by rw[QD];omega) (by rw[QD];exact au) (by rw[av];show(Lib.join ws [32]).length<=_;omega)
 rw[QD,av] at hJ;refine cmo hJ ?_;rintro e Y ⟨rfl,bY⟩;refine⟨?_,aa.trans ((d.bel.trans (bY.mono d.bel.size)).mono aa.size)⟩;unfold zbM;rw[Gd aw,a0];rfl
end
theorem zlG(x:UInt8)(w:Wd):Calls PG 297 #[u8 x] w fun e w'=>e = .returned (.bool false)/\w=w':=by
 refine zC 6 [u8 x] Tryz.func297 ?_;exact UV (rb (by simp)) rfl
theorem zk9(x y:UInt8)(w:Wd):Calls PG 228 #[u8 x,u8 y] w fun e w'=>e = .returned (.int .i64 (zeS x y))/\w=w':=by
 refine zC 20 [u8 x,u8 y] Tryz.func228 ?_;refine cmo (zlG x w) ?_;rintro e w' ⟨rfl,rfl⟩;refine cmo (zlG y w) ?_;rintro e w' ⟨rfl,rfl⟩;refine UV (fun h=>by cases h) (fun _=>UV (fun h=>by cases h) (fun _=>biE (fun h=>?_) fun h=>?_))
 ·have h:(x.toNat:Int)<y.toNat:=dT h;exact UV (ri (by unfold zeS;rw[Gd (by omega)])) rfl
 ·have h:¬(x.toNat:Int)<y.toNat:=dF h;refine biE (fun a=>?_) fun a=>?_
  ·have a:(y.toNat:Int)<x.toNat:=dT a;exact UV (ri (by unfold zeS;rw[Gc (by omega),Gd (by omega)])) rfl
  ·have a:¬(y.toNat:Int)<x.toNat:=dF a;exact UV (ri (by unfold zeS;rw[Gc (by omega),Gc (by omega)])) rfl
theorem zgJ(p1 p2:OA)(cap1 cap2:Nat)(l1 l2:List UInt8)(w:Wd)(h1:SlR zN w p1 l1)(h2:SlR zN w p2 l2)(hn:l1.length<=1000000000) :
  Calls PG 169 #[.slice p1 l1.length cap1,.slice p2 l2.length cap2] w fun e w'=>e = .returned (.int .i64 (q8 l1 l2))/\w=w':=by
 refine zC 36 [.slice p1 l1.length cap1,.slice p2 l2.length cap2] Tryz.func169 ?_;refine⟨Nat,fun k=>⟨[(0,.slice p1 l1.length cap1),(1,.slice p2 l2.length cap2),(4,.int .i64 0),(9,.slice p1 l1.length cap1),(10,.int .i64 l1.length),(11,.int .i64 (k:Nat))],[]⟩,
  fun k X=>k<=l1.length/\k<=l2.length/\X=w/\l1.take k=l2.take k,fun k=>l1.length-k,0,(cvE rfl rfl),⟨UP _,UP _,rfl,by simp⟩,?_⟩
 rintro k X ⟨p,i,rfl,m⟩;have f:=zhz l1 l2 k p i m;refine biE (fun h=>?_) fun h=>?_
 ·have h:(k:Int)<l1.length:=dT h;have d:k<l1.length:=by omega
  have c:l1.drop k=l1[k]::l1.drop (k+1):=Jm d;obtain⟨r,t,rfl,n,j⟩:=zl0 h1 d;refine⟨k,rfl,d,_,j,biE (fun h=>?_) fun h=>?_⟩
  ·have h:(l2.length:Int)<=k:=dT h;refine UV (ri ?_) rfl;have b:l2.drop k=[]:=Jw (by omega);rw[f,c,b];rfl
  ·have h:¬(l2.length:Int)<=k:=dF h;have a:k<l2.length:=by omega
   have b:l2.drop k=l2[k]::l2.drop (k+1):=Jm a;obtain⟨s,u,rfl,o,l⟩:=zl0 h2 a;refine⟨k,rfl,a,_,l,cmo (zk9 l1[k] l2[k] X) ?_⟩;rintro e w' ⟨rfl,rfl⟩;refine biE (fun h=>?_) fun h=>?_
   ·have h:¬zeS l1[k] l2[k]=0:=(by simpa using h);have g:l1[k]≠l2[k]:=fun e=>h (by rw[e];exact zm4 _);refine UV (ri ?_) rfl;rw[f,c,b,q8,Gc g]
   ·have h:zeS l1[k] l2[k]=0:=(by simpa using h);have q:l1[k]=l2[k]:=Decidable.byContradiction fun g=>zlY g h;refine⟨(k+1:Nat),(zg (by omega)).trans (by omega),k+1,(cvE rfl rfl),⟨d,a,rfl,?_⟩,by dsimp only;omega⟩;rw[tsg d,tsg a,m,q]
 ·have h:¬(k:Int)<l1.length:=dF h;refine biE (fun h2=>?_) fun h2=>?_
  ·have h2:(l1.length:Int)<l2.length:=dT h2;refine UV (ri ?_) rfl;have c:l1.drop k=[]:=Jw (by omega);have b:l2.drop k=l2[k]::l2.drop (k+1):=Jm (by omega);rw[f,c,b];rfl
  ·have h2:¬(l1.length:Int)<l2.length:=dF h2;refine UV (ri ?_) rfl;have c:l1.drop k=[]:=Jw (by omega);have b:l2.drop k=[]:=Jw (by omega);rw[f,c,b];rfl
end Go.Proofs.YtakcdebpklffiaaGreatDoor
namespace Go.Proofs.YtakcdebpklffiaaGreatDoor
open Go.Vc Go.RowKit Go.Sei
open Go.Sort
section
variable{α:Type}[Inhabited α]{E:Enc α}
theorem zgp(l:List α):(flatK E.enc E.sz l.toArray).toList=l.flatMap E.enc:=by
 apply KI;intro j;have g:(flatK E.enc E.sz l.toArray).toList.length=l.length*E.sz:=by rw[Array.length_toList,size_flatK];rfl
 by_cases c:j<l.length*E.sz
 ·have d:j/E.sz<l.length:=JU (by rw[UD];exact c);have a:=UU j E.pos;have f:(l.flatMap E.enc)[j]?=(E.enc l[j/E.sz])[j%E.sz]?:=by
   rw[<- zcH l _ d,Ks,Gd a,Kr,UD,QO]
  have b:=get_flatK E.enc E.sz l.toArray j c;have hlt:j<(flatK E.enc E.sz l.toArray).size:=by rw[size_flatK];exact c
  rw[getElem!_pos (flatK E.enc E.sz l.toArray) j hlt] at b;have e:l.toArray[j/E.sz]! = l[j/E.sz]:=by
   rw[getElem!_pos l.toArray (j/E.sz) (by simpa using d)];simp
  rw[e,getElem!_pos (E.enc l[j/E.sz]) (j%E.sz) (by rw[E.len];exact a)] at b;rw[f,Array.getElem?_toList,Jk hlt,b];exact(gE (by rw[E.len];exact a)).symm
 ·rw[JE (by omega),JE (by rw[zU];omega)]
theorem zkK{T B cap g:Nat}{w:Wd}{l:List α}(h:OwnS E T B w (some ⟨g,0,none⟩) cap l):HoldsK E.enc E.sz w g 0 l.toArray:=by
 rcases h.inv with⟨h,_⟩ | ⟨k,a,i,_,d,_,_,m,f⟩
 ·cases h
 ·cases i
  intro j b;rw[size_flatK] at b;have b:j<l.length*E.sz:=b;have hlt:j<(flatK E.enc E.sz l.toArray).size:=by rw[size_flatK];exact b
  have e:a[j]?=some ((flatK E.enc E.sz l.toArray)[j]!):=by
   have c:(a.toList.take (l.length*E.sz))[j]?=(l.flatMap E.enc)[j]?:=by rw[f]
   rw[List.getElem?_take_of_lt b,Array.getElem?_toList,<- zgp,Array.getElem?_toList] at c;rw[c,Jk hlt,getElem!_pos (flatK E.enc E.sz l.toArray) j hlt]
  refine⟨?_,?_⟩
  ·simp only[World.cell?,d,UH];simpa using e
  ·simp[World.frozen?,d]
theorem zkb{T B cap g:Nat}{w:Wd}{l l':List α}(h:OwnS E T B w (some ⟨g,0,none⟩) cap l)(hl:l'.length=l.length)(n:Nat)(os:Array Obj) :
  OwnS E T B (sortWorldK E.enc E.sz w g 0 n l'.toArray os) (some ⟨g,0,none⟩) cap l'/\w.grownBy (sortWorldK E.enc E.sz w g 0 n l'.toArray os) (some g):=by
 rcases h.inv with⟨h,_⟩ | ⟨g',a,v,z,u,t,hm,s,ht⟩
 ·cases h
 ·cases v
  have p:=hlt u;have aa:(flatK E.enc E.sz l'.toArray).size=l.length*E.sz:=by rw[size_flatK];show l'.length*_=_;rw[hl]
  have x:l.length*E.sz<=cap*E.sz:=JW _ t;have heap:∀k,k<w.heap.size->(sortWorldK E.enc E.sz w g 0 n l'.toArray os).heap[k]?=if k=g then some (.cells (putCells id 0 (flatK E.enc E.sz l'.toArray) a) T (0,0)) else w.heap[k]?:=fun k q=>by
   have y:k<((Go.Sort.ahead w n).heap.modify g (onCells (putCells id 0 (flatK E.enc E.sz l'.toArray)))).size:=by simpa using q
   show(((Go.Sort.ahead w n).heap.modify g (onCells (putCells id 0 (flatK E.enc E.sz l'.toArray))))++os)[k]?=_;rw[Array.getElem?_append_left y,Array.getElem?_modify];by_cases b:k=g
   ·subst b;rw[Gd rfl,Gd rfl];show((w.heap[k]?).map _)=_;rw[u];rfl
   ·rw[Gc (fun e=>b e.symm),Gc b];rfl
  have f:w.heap.size<=(sortWorldK E.enc E.sz w g 0 n l'.toArray os).heap.size:=by
   show _<=(((Go.Sort.ahead w n).heap.modify g (onCells (putCells id 0 (flatK E.enc E.sz l'.toArray))))++os).size;rw[Array.size_append,Array.size_modify];exact Qp _ _
  have o:w.grownBy (sortWorldK E.enc E.sz w g 0 n l'.toArray os) (some g):=⟨rfl,rfl,rfl,f,fun k q r=>by
   rw[heap k q,Gc (fun e=>r (by rw[e]))]⟩
  refine⟨?_,o⟩;have d:(putCells id 0 (flatK E.enc E.sz l'.toArray) a).size=a.size:=by simp[putCells]
  refine⟨?_,.inr ⟨g,cap,putCells id 0 (flatK E.enc E.sz l'.toArray) a,rfl,z,?_,by rw[hl];exact t,hm,by rw[d,s],?_⟩⟩
  ·rw[zU]
  ·rw[heap g p,Gd rfl]
  ·apply KI;intro j;by_cases i:j<l'.length*E.sz
   ·have c:j<(flatK E.enc E.sz l'.toArray).size:=(by rw[size_flatK];exact i);rw[List.getElem?_take_of_lt i,<- zgp,Array.getElem?_toList,Array.getElem?_toList];have m:j<a.size:=(by rw[s];rw[hl] at i;omega);simp only[putCells,Array.getElem?_mapIdx,Jk m,QU];rw[Gd ⟨UP _,by omega⟩,UF,Jk c,getElem!_pos (flatK E.enc E.sz l'.toArray) j c];rfl
   ·rw[JE (by rw[Ql];omega),JE (by rw[zU];omega)]
end
theorem zqb:SWO (ltOf zey) where
 irrefl:=zd4
 trans:=fun x y z b a=>zcV b a
 ntrans:=fun x y z b a=>by
  have b:ltF x y=false:=b;have a:ltF y z=false:=a;show ltF x z=false;have d:leF y x=true:=by unfold leF;rw[b];rfl
  have e:leF z y=true:=by unfold leF;rw[a];rfl
  have c:=zho _ _ _ e d;unfold leF at c;simpa using c
theorem zmF(x y:FinV)(h1:ltOf zey x y=false)(h2:ltOf zey y x=false):x=y:=by
 have h1:ltF x y=false:=h1;have h2:ltF y x=false:=h2;rcases zeE x y with h | h | h
 ·rw[h] at h1;cases h1
 ·rw[h] at h2;cases h2
 ·exact h
theorem znv(w:Wd)(o1 o2:Obj)(q:Nat):((w.alloc o1).alloc o2).drewN q=grow (w.drewN q) #[o1,o2]:=by
 have:(w.heap.push o1).push o2=w.heap ++ #[o1,o2]:=by
  rw[<- KW];simp
 show({ w with heap:=(w.heap.push o1).push o2,drawn:=w.drawn+q }:Wd)={ w with heap:=w.heap ++ #[o1,o2],drawn:=w.drawn+q };rw[this]
def zdO (F:FinV) (t:Nat):List UInt8:=(F.l.drop (t*8)).take 8
def zjc (F:FinV):List UInt8:=F.l.drop 32
section
variable{F G:FinV}
theorem zcs{t:Nat}(h:t<4):(zdO F t).length=8:=by unfold zdO;rw[Ql,Qk,F.len];omega
theorem zga:(zjc F).length=6:=by unfold zjc;rw[Qk,F.len]
theorem zjA(t:Nat):F.l.drop (t*8)=zdO F t++F.l.drop ((t+1)*8):=by
 unfold zdO;rw[show(t+1)*8=t*8+8 by omega,<- Ua,JL]
theorem zp1{t:Nat}(h:t<4)(e:zey F G=q8 (F.l.drop (t*8)) (G.l.drop (t*8))):zey F G=if zdO F t=zdO G t then q8 (F.l.drop ((t+1)*8)) (G.l.drop ((t+1)*8)) else q8 (zdO F t) (zdO G t):=by
 rw[e,zjA,zjA (F:=G),zjM (by rw[zcs h,zcs h])]
theorem zhP{X:Wd}{b n o:Nat}(hf:X.heap[b]?=some (.cells (zA.enc F).toArray 52 (0,0))):SlR zN X (some ⟨b,o,none⟩) ((F.l.drop o).take n):=by
 refine .inr ⟨b,o,rfl,hlt hf,fun i c=>?_⟩;rw[Ql,Qk] at c;refine jF fun j v a=>?_
 cases j with
 | succ j=>simp [zN] at a
 | zero =>
  have a:u8 (((F.l.drop o).take n)[i])=v:=by simpa [zN] using a
  rw[<- a,List.getElem_take,List.getElem_drop];have:=zc (za hf) (i:=o+i) (v:=u8 F.l[o+i]) (by
   show(F.l.map u8)[o+i]?=_;rw[KM,gE (by omega)];rfl)
  rw[UH] at this;show X.cell? ⟨b,o+i*1+0,none⟩=_;rw[UO,UB];exact this
variable{w:Wd}
theorem zp0:Calls PG 86 #[qT F,qT G] w fun e w'=>e = .returned (.int .i64 (zey F G))/\∃q os,w'=grow (w.drewN q) os:=by
 refine qg 28 [qT F,qT G] (.s .p (.c .p .p)) Tryz.func86 ?_;obtain⟨W,j⟩:=nm ((w.alloc (.cells (zA.enc F).toArray 52)).alloc (.cells (zA.enc G).toArray 52));have t:W.heap[w.heap.size]?=some (.cells (zA.enc F).toArray 52 (0,0)):=by rw[j];exact z6 _ (zw w _)
 have u:W.heap[w.heap.size+1]?=some (.cells (zA.enc G).toArray 52 (0,0)):=by
  rw[j];have:=zw (w.alloc (.cells (zA.enc F).toArray 52)) (.cells (zA.enc G).toArray 52);rw[wz] at this;exact this
 have r:∀q,∃q' os,W.drewN q=grow (w.drewN q') os:=fun q=>⟨q,_,by rw[j];exact znv ..⟩;have d:∀{k b:Nat} {o:Obj},W.heap[b]?=some o->(W.drewN k).heap[b]?=some o:=fun h=>h;have m:W.drewN 0=W:=rfl;have v:(w.alloc (.cells (zA.enc F).toArray 52)).heap.size=w.heap.size+1:=wz _ _;refine⟨Unit,fun _=>⟨[(2,At0 w.heap.size),(3,At0 (w.heap.size+1))],[]⟩,fun _ X=>X=W.drewN 4/\zey F G=q8 (zjc F) (zjc G),?_,?_⟩
 ·refine⟨Nat,fun k=>⟨[(2,At0 w.heap.size),(3,At0 (w.heap.size+1)),(7,i64 k)],[]⟩,fun k X=>k<=4/\X=W.drewN k/\zey F G=q8 (F.l.drop (k*8)) (G.l.drop (k*8)),fun k=>4-k,0,
   ⟨.cons rfl (.cons (by rw[<- v];rfl) (.cons rfl .nil)),rfl⟩,⟨UP _,by rw[m];exact j.symm,rfl⟩,?_⟩
  rintro k X ⟨z,rfl,g⟩;refine biE (fun h=>?_) fun h=>?_
  ·have a:k<4:=by have:=dT h;omega
   have cut:∀(b:Nat),Value.slice (z7 (some ⟨b,0+0+k*8,none⟩) 8 0 1) (8-0) (8-0) = .slice (some ⟨b,k*8,none⟩) 8 8:=fun b=>by rw[js,UH]
   refine DrawE.ord [] [0,1,2,3,4,5,6,7,8,9] (by kernel_rfl) ⟨k,rfl,a,k,rfl,a,?_⟩;have f:=zgJ (some ⟨w.heap.size,k*8,none⟩) (some ⟨w.heap.size+1,k*8,none⟩) 8 8 (zdO F k) (zdO G k) (W.drewN k).drew (zhP (d (k:=k+1) t)) (zhP (d (k:=k+1) u)) (by rw[zcs a];decide);rw[zcs a,zcs a,<- cut,<- cut] at f;refine cmo f ?_;rintro e _ ⟨rfl,rfl⟩;refine⟨UR _ _,?_⟩;have i:=zp1 a g;refine biE (fun h=>?_) fun h=>?_
   ·have h:¬q8 (zdO F k) (zdO G k)=0:=(by simpa using h);rw[Gc fun e=>h (zhy.2 e)] at i;exact⟨by rw[i];rfl,r (k+1)⟩
   ·have h:q8 (zdO F k) (zdO G k)=0:=(by simpa using h);rw[Gd (zhy.1 h)] at i;exact⟨_,zg (by omega),k+1,(cvE rfl rfl),⟨a,rfl,i⟩,by dsimp only;omega⟩
  ·have a:k=4:=by have:=dF h;omega
   subst a;exact⟨(),(cvE rfl rfl),rfl,g⟩
 rintro _ X ⟨rfl,g⟩;have cut:∀(b:Nat),Value.slice (z7 (some ⟨b,0+32,none⟩) 6 0 1) (6-0) (6-0) = .slice (some ⟨b,32,none⟩) 6 6:=fun b=>by rw[js]
 refine DrawE.ord [] [0,1,2,3,4,5] (by kernel_rfl) ?_;have x:SlR zN (W.drewN 4).drew (some ⟨w.heap.size,32,none⟩) (zjc F):=by
  have:=zhP (n:=6) (o:=32) (d (k:=5) t)
  rwa [JB (by rw[Qk,F.len];decide)] at this
 have y:SlR zN (W.drewN 4).drew (some ⟨w.heap.size+1,32,none⟩) (zjc G):=by
  have:=zhP (n:=6) (o:=32) (d (k:=5) u)
  rwa [JB (by rw[Qk,G.len];decide)] at this
 have f:=zgJ (some ⟨w.heap.size,32,none⟩) (some ⟨w.heap.size+1,32,none⟩) 6 6 (zjc F) (zjc G) (W.drewN 4).drew x y (by rw[zga];decide);rw[zga,zga,<- cut,<- cut] at f;refine cmo f ?_;rintro e _ ⟨rfl,rfl⟩;exact⟨UR _ _,by rw[g];rfl,r 5⟩
end
end Go.Proofs.YtakcdebpklffiaaGreatDoor
namespace Go.Proofs.YtakcdebpklffiaaGreatDoor
open Go.Vc Go.RowKit Go.Sei
theorem zkT{P:Program}{w:Wd}{t T ty:TypeId}{iT:TI}{z:List Value}{m:Nat}(hu:P.underlying t=some (.slice T))(hT:TIok P T iT)(hz:iT.zero=some z)(hm:z.length=m)(h1:z.all Value.oneCell'=true)(hm0:0<m){b o n c:Nat}(hn:0<n){cs:List Value}{u:TypeId}(hg:w.heap[b]?=some (.cells cs.toArray u (0,0)))(ho:o+n*m<=cs.length){K:Value->Wd->Prop}
  (k:∀w' (zs:List Value),zs.length=n*m->w'.heap[b]?=some (.cells (cs.take o++zs++cs.drop (o+n*m)).toArray u (0,0))->w.grownBy w' (some b)->w'.heap.size=w.heap.size->K (.tuple #[]) w') :
  SatR ((Builtin.clear_ #[t] ty #[.slice (some ⟨b,o,none⟩) n c]).run P w) K:=by
 obtain⟨⟨aa,hi,_,_,r⟩,_⟩:=hT;obtain⟨f,x,q⟩:=r _ hz;have y:∀w,(zeroValue T).run P w = .ok f w:=fun w=>by simp[zeroValue,typeInfo,hi,x]
 have s:f.cells.size=m:=by rw[<- hm,<- q];simp
 obtain⟨zs,d⟩:=nm ((Builtin.zeroCells f.cells n).toList);have a:zs.length=n*m:=by rw[d];simp[Builtin.zeroCells,s]
 have h:∀v∈zs,v.oneCell'=true:=fun v e=>by
  rw[d] at e;simp only[Builtin.zeroCells,KX,Uz] at e;obtain⟨i,_,rfl⟩:=e;have hlt:i%f.cells.size<f.cells.size:=UU _ (by omega);rw[getElem!_pos f.cells (i%f.cells.size) hlt];refine Qa.1 h1 _ ?_;rw[<- q];exact Array.getElem_mem_toList hlt
 have p:=KV P b o u zs 0 cs.toArray w hg (by simpa [a] using ho) h;simp only[UB,a] at p;refine SatR.mk (v := .tuple #[]) (w':=w.setRow b (cs.take o++zs++cs.drop (o+n*m)).toArray) ?_ (k _ zs a (zk hg) (qp w b _) (by simp));obtain⟨j,rfl⟩:∃j,n=j+1:=⟨n-1,by omega⟩;simp[Builtin.clear_,Ui hu,y,<- d,p]
def zau:FinV->List FinV->List FinV
 | _,[]=>[]
 | p,y::r=>if y=p then zau p r else y::zau y r
def zcL:List FinV->List FinV
 | []=>[]
 | x::r=>x::zau x r
theorem zdD:∀(A:List FinV) (p x:FinV),zau p (A++[x])=if x=(p::A).getLast (by simp) then zau p A else zau p A++[x]
 | [],p,x=>by
  show(if x=p then[] else[x])=_;rfl
 | y::A,p,x=>by
  show(if y=p then zau p (A++[x]) else y::zau y (A++[x]))=_;have a:(p::y::A).getLast (by simp)=(y::A).getLast (by simp):=List.getLast_cons (by simp);rw[a];show _=if x=(y::A).getLast _ then(if y=p then zau p A else y::zau y A) else(if y=p then zau p A else y::zau y A)++[x]
  by_cases h:y=p
  ·subst h;rw[Gd rfl,Gd rfl,zdD A y x]
  ·rw[Gc h,Gc h,zdD A y x]
   split <;> rfl
theorem zmX{A:List FinV}(h:A≠[])(x:FinV):zcL (A++[x])=if x=A.getLast h then zcL A else zcL A++[x]:=by
 cases A with
 | nil=>exact Ge rfl h
 | cons y A =>
  show y::zau y (A++[x])=_;rw[zdD];show _=if x=(y::A).getLast h then y::zau y A else y::zau y A++[x]
  split <;> rfl
theorem zhw{l:List FinV}{i:Nat}(h0:0<i)(hi:i<l.length):zcL (l.take (i+1))=if l[i]=l[i-1] then zcL (l.take i) else zcL (l.take i)++[l[i]]:=by
 rw[tsg hi];have b:l.take i≠[]:=by
  intro e;have:=UY List.length e;rw[Ql,QE] at this;omega
 rw[zmX b];have:(l.take i).getLast b=l[i-1]:=by
  have a:(l.take i).length-1=i-1:=by rw[Ql];omega
  simp only[List.getLast_eq_getElem,List.getElem_take,a]
 rw[this]
section
variable{B g cap:Nat}{l:List FinV}{w:Wd}
theorem zfs{X:Wd}{sp:List Value}{M:List FinV}(h:RowS zA 52 X g sp M){i:Nat}(hi:i<M.length):zF X ⟨g,0+i*38,none⟩ (zA.enc M[i]):=h.at hi
theorem zlK{M:List FinV}{i:Nat}{x:FinV}(h:M[i]?=some x):∃hi:i<M.length,M[i]=x:=by
 obtain⟨hi,e⟩:=Jo.1 h;exact⟨hi,e⟩
theorem zla(ho:OwnS zA 52 B w (some ⟨g,0,none⟩) cap l)(hn:l.length<=1000000) :
  Calls PG 87 #[.slice (some ⟨g,0,none⟩) l.length cap] w fun e w'=>e = .returned (.slice (some ⟨g,0,none⟩) (zcL l).length cap)/\OwnS zA 52 B w' (some ⟨g,0,none⟩) cap (zcL l)/\w.grownBy w' (some g):=by
 refine zC 61 [.slice (some ⟨g,0,none⟩) l.length cap] Tryz.func87 ?_;rcases ho.inv with⟨h,_⟩ | ⟨g',cur,hg,hB,hcur,hlc,hcm,hcs,hct⟩
 ·cases h
 simp only[KS,Uj,UX] at hg;subst hg;have hcs:cur.size=cap*38:=hcs;obtain⟨sp,hsp⟩:=nm (cur.toList.drop (l.length*38));have hct:cur.toList.take (l.length*38)=l.flatMap zA.enc:=hct;have hR:RowS zA 52 w g sp l:=by
  unfold RowS;rw[hcur,<- hct,hsp,JL]
 have hspl:l.length*38+sp.length=cap*38:=by
  have h1:cur.toList.length=cap*38:=by rw[Array.length_toList];exact hcs
  rw[hsp,Qk,h1];omega
 refine biE (fun h=>?_) fun h=>?_
 ·have h:(l.length:Int)<2:=dT h;have e:zcL l=l:=by
   match l,h with
   | [],_=>rfl
   | [x],_=>rfl
   | x::y::r,h=>simp at h;omega
  rw[e];exact⟨rfl,ho,qP w _⟩
 have h:¬(l.length:Int)<2:=dF h;have hl2:2<=l.length:=by omega
 refine⟨Nat,fun k=>⟨[(0,.slice (some ⟨g,0,none⟩) l.length cap),(3,i64 (k:Nat))],[]⟩,fun k X=>1<=k/\k<=l.length/\zcL (l.take k)=l.take k/\RowS zA 52 X g sp l/\w.grownBy X (some g),fun k=>l.length-k,1,
  (cvE rfl rfl),⟨UN _,by omega,by
   cases l with
   | nil=>rfl
   | cons x r=>rfl,hR,qP w _⟩,?_⟩
 rintro k X ⟨hk1,hkl,hdk,hRX,gX⟩;refine biE (fun hc=>?_) fun hc=>?_
 ·have hc:(k:Int)<(l.length:Int):=dT hc;have hk:k<l.length:=by omega
  refine DrawE.ord [] [0,1,2,3,4,5,6,7,8,9] (by kernel_rfl) ?_;have hRd:RowS zA 52 X.drew g sp l:=hRX;have gd:w.grownBy X.drew (some g):=zf gX ⟨rfl,rfl,rfl,UN _,fun _ _ _=>rfl⟩;refine⟨k,rfl,hk,?_⟩;refine⟨zA.enc l[k],zA.len _,zfs hRd hk,hRd.lt,?_⟩;refine⟨((k-1:Nat):Int),(zg (by omega)).trans (by omega),?_⟩;refine⟨k-1,rfl,by omega,?_⟩;refine⟨zA.enc l[k-1],zA.len _,zfs hRd (by omega),hRd.lt,?_⟩;refine⟨_,fun w=>zoV _ _ l[k] l[k-1] w,?_⟩;have hnx:=zhw (l:=l) hk1 hk;refine biE (fun he=>?_) fun he=>?_
  ·have he:l[k]=l[k-1]:=dT he;rw[Gd he] at hnx;refine⟨k,rfl,by show k<=l.length;omega,?_⟩;have hcb:z7 (some ⟨g,0,none⟩) cap k 38=some ⟨g,k*38,none⟩:=by
    unfold z7;rw[Gc (by omega)];show some ((⟨g,0,none⟩:Addr).add (k*38))=_;rw[j5,UH]
   refine⟨Nat×Nat×List FinV,fun s=>⟨[(0,.slice (some ⟨g,0,none⟩) l.length cap),(3,i64 (s.2.1:Nat)),(4,.slice (some ⟨g,k*38,none⟩) (l.length-k) (cap-k)),(5,i64 (s.1:Nat))],[]⟩,
    fun s Y=>(1<=s.1/\k+s.1<=l.length)/\(s.2.1=(zcL (l.take (k+s.1))).length/\s.2.1+1<=k+s.1)/\(s.2.2.length=l.length/\s.2.2.take s.2.1=zcL (l.take (k+s.1))/\∀j,s.2.1<=j->s.2.2[j]?=l[j]?)/\RowS zA 52 Y g sp s.2.2/\w.grownBy Y (some g),fun s=>l.length-s.1,(1,k,l),
    ⟨.cons rfl (.cons rfl (.cons (by rw[<- hcb];rfl) (.cons rfl .nil))),rfl⟩,⟨⟨UN _,by show k+1<=_;omega⟩,⟨by show k=_;rw[hnx,hdk,Ql];omega,UN _⟩,⟨rfl,by show l.take k=_;rw[hnx,hdk],fun j _=>rfl⟩,hRd,gd⟩,?_⟩
   rintro⟨m,q,M⟩ Y ⟨⟨hm1,hml⟩,⟨hq,hqm⟩,⟨hM,hMt,hMj⟩,hRY,gY⟩;dsimp only at hm1 hml hq hqm hM hMt hMj hRY ⊢;refine biE (fun hc=>?_) fun hc=>?_
   ·have hc:(m:Int)<((l.length-k:Nat):Int):=dT hc;have hi:k+m<l.length:=(by omega);have g1:M[k+m]?=some l[k+m]:=(by rw[hMj _ (by omega),gE hi]);have g0:M[k+m-1]?=some l[k+m-1]:=(by rw[hMj _ (by omega),gE (by omega)]);obtain⟨i1,e1⟩:=zlK g1;obtain⟨i0,e0⟩:=zlK g0;have nx:=zhw (l:=l) (i:=k+m) (by omega) hi;refine DrawE.ord [] [0,1,2,3,4,5,6,7,8,9] (by kernel_rfl) ?_;have hRYd:RowS zA 52 Y.drew g sp M:=hRY;have gYd:w.grownBy Y.drew (some g):=zf gY ⟨rfl,rfl,rfl,UN _,fun _ _ _=>rfl⟩;have a1:zF Y.drew ⟨g,k*38+m*38,none⟩ (zA.enc l[k+m]):=by
     have:=zfs hRYd i1;rw[e1,UH,UM] at this;exact this
    have a0:zF Y.drew ⟨g,k*38+(m-1)*38,none⟩ (zA.enc l[k+m-1]):=by
     have:=zfs hRYd i0;rw[e0,UH,show(k+m-1)*38=k*38+(m-1)*38 by omega] at this;exact this
    refine⟨m,rfl,by omega,?_⟩;refine⟨zA.enc l[k+m],zA.len _,a1,hRYd.lt,?_⟩;refine⟨((m-1:Nat):Int),(zg (by omega)).trans (by omega),?_⟩;refine⟨m-1,rfl,by omega,?_⟩;refine⟨zA.enc l[k+m-1],zA.len _,a0,hRYd.lt,?_⟩;refine⟨_,fun w=>zi8 _ _ l[k+m] l[k+m-1] w,?_⟩;refine biE (fun hne=>?_) fun hne=>?_
    ·have hne:¬l[k+m]=l[k+m-1]:=fun e=>by
      have hne:(!decide (l[k+m]=l[k+m-1]))=true:=hne;rw[e,Uh rfl] at hne;cases hne
     rw[Gc hne] at nx;refine⟨m,rfl,by omega,?_⟩;refine⟨zA.enc l[k+m],zA.len _,a1,hRYd.lt,?_⟩;refine⟨q,rfl,by omega,?_⟩;refine zg3 k52 rfl hRYd (i:=q) (by omega) l[k+m] fun Z hRZ gZ sZ=>?_;refine nxI (by omega) ?_;refine nxI (by omega) ?_;refine⟨(m+1,q+1,M.set q l[k+m]),(cvE rfl rfl),⟨⟨by omega,by show k+(m+1)<=_;omega⟩,⟨?_,by show q+1+1<=k+(m+1);omega⟩,⟨by rw[QF];exact hM,?_,fun j hj=>?_⟩,hRZ,zf gYd gZ⟩,zdc (by omega)⟩
     ·show q+1=(zcL (l.take (k+(m+1)))).length;rw[<- Us,nx,lap,<- hq];rfl
     ·show(M.set q l[k+m]).take (q+1)=zcL (l.take (k+(m+1)));rw[<- Us,nx,<- hMt];rw[tsg (by rw[QF];omega),List.take_set_of_le (UN _),List.getElem_set_self]
     ·show(M.set q l[k+m])[j]?=l[j]?;have hj:q+1<=j:=hj;rw[JQ (by omega)];exact hMj j (by omega)
    ·have heq:l[k+m]=l[k+m-1]:=by
      have hne:(!decide (l[k+m]=l[k+m-1]))=false:=hne;simpa using hne
     rw[Gd heq] at nx;refine nxI (by omega) ?_;exact⟨(m+1,q,M),(cvE rfl rfl),⟨⟨by omega,by show k+(m+1)<=_;omega⟩,⟨by show q=(zcL (l.take (k+(m+1)))).length;rw[<- Us,nx];exact hq,by show q+1<=k+(m+1);omega⟩,⟨hM,by show M.take q=zcL (l.take (k+(m+1)));rw[<- Us,nx];exact hMt,hMj⟩,hRYd,gYd⟩,zdc (by omega)⟩
   ·have hc:¬(m:Int)<((l.length-k:Nat):Int):=dF hc;have hkm:k+m=l.length:=(by omega);rw[hkm,Qn] at hq hMt;refine⟨q,rfl,by show q<=l.length;omega,?_⟩;have hcb2:z7 (some ⟨g,0,none⟩) cap q 38=some ⟨g,q*38,none⟩:=by
     unfold z7;rw[Gc (by omega)];show some ((⟨g,0,none⟩:Addr).add (q*38))=_;rw[j5,UH]
    have hfl:(M.flatMap zA.enc++sp).length=cap*38:=by
     rw[lap,zU,hM];show l.length*38+_=_;omega
    have hcl:SatR ((Builtin.clear_ #[40] 0 #[.slice (some ⟨g,q*38,none⟩) (l.length-q) (cap-q)]).run PG Y) fun _ Z=>(∃zs:List Value,zs.length=(l.length-q)*38/\Z.heap[g]?=some (.cells ((M.flatMap zA.enc++sp).take (q*38)++zs++(M.flatMap zA.enc++sp).drop (q*38+(l.length-q)*38)).toArray 52 (0,0)))/\Y.grownBy Z (some g) :=
     zkT Tryz.underlying40 k52 rfl rfl rfl (by decide) (by omega) hRY (by show q*38+(l.length-q)*38<=(M.flatMap zA.enc++sp).length;rw[hfl];omega) fun Z zs hzs fZ gZ sZ=>⟨⟨zs,hzs,fZ⟩,gZ⟩
    obtain⟨v,Z,hrun,⟨zs,hzs,fZ⟩,gZ⟩:=hcl;refine⟨v,Z,by rw[hcb2];exact hrun,?_⟩;refine⟨q,rfl,by show q<=cap;omega,?_⟩;rw[<- hq];refine⟨by show Ending.returned (Value.slice (z7 (some ⟨g,0,none⟩) cap 0 38) (q-0) (cap-0))=_;rw[js];rfl,?_,zf gY gZ⟩;unfold OwnS World.ownsRow;refine⟨by rw[zU],.inr ⟨g,cap,_,rfl,hB,fZ,by omega,hcm,?_,?_⟩⟩
    ·show(List.length _)=cap*38;rw[lap,lap,Ql,hzs,Qk,hfl];omega
    ·rw[<- hq];show((M.flatMap zA.enc++sp).take (q*38)++zs++(M.flatMap zA.enc++sp).drop (q*38+(l.length-q)*38)).take (q*38)=_;rw[KH,Je (by rw[Ql,hfl];omega),List.take_take,Nat.min_self,Je (by rw[zU,hM];show q*38<=l.length*38;omega),<- hMt];have e2:M.flatMap zA.enc=(M.take q).flatMap zA.enc++(M.drop q).flatMap zA.enc:=(by rw[<- Kb,JL]);rw[e2,QM (by rw[zU,Ql];show min q M.length*38=q*38;rw[QQ (by omega)])]
  ·have he:¬l[k]=l[k-1]:=fun e=>(dF he) (by rw[e]);rw[Gc he,hdk] at hnx;refine nxI (by omega) ?_;exact⟨k+1,(cvE rfl rfl),⟨by omega,hk,by rw[hnx,tsg hk],hRd,gd⟩,zdc (by omega)⟩
 ·have hc:¬(k:Int)<(l.length:Int):=dF hc;obtain rfl:k=l.length:=by omega
  rw[Qn] at hdk;rw[hdk];refine⟨rfl,?_,gX⟩;unfold OwnS World.ownsRow;refine⟨by rw[zU],.inr ⟨g,cap,_,rfl,hB,hRX,by omega,hcm,?_,?_⟩⟩
  ·show(l.flatMap zA.enc++sp).length=cap*38;rw[lap,zU];show l.length*38+_=_;omega
  ·exact QM (zU l)
end
theorem zsI(n:Nat)(hn:n<=1000000000)(w:Wd)(B:Nat)(hB:B<=w.heap.size) :
  Calls PG 166 #[.slice none 0 0,.int .i64 n] w fun e w'=>∃p cap,e = .returned (.slice p 0 cap)/\OwnS zA 52 B w' p cap []/\Bw w w':=by
 refine zC 27 [.slice none 0 0,.int .i64 n] Tryz.func166 ?_;refine biE (fun h=>?_) fun _=>?_
 ·have:=dT h;omega
 have a:∀w,(Builtin.cap_ #[40] 3 #[.slice none 0 0]).run PG w = .ok (.int .i64 0) w:=fun w=>by simp[Builtin.cap_,Ui Tryz.underlying40,goInt]
 refine SatR.mk (a _) ⟨0,by rfl,?_⟩;refine⟨n,(zg (by omega)).trans (by omega),biE (fun h=>?_) fun _=>?_⟩
 ·have h:=dT h;refine SatR.mk (a _) ⟨0,rfl,by omega,?_⟩;refine zne (α:=FinV) (E:=zA) Tryz.underlying40 Tryz.underlying3 k52 rfl rfl rfl hB (by omega) (by omega) (by dsimp only;omega) ?_;intro b w' c d f;refine⟨0,rfl,by omega,?_⟩;exact⟨some ⟨w.heap.size,0,none⟩,b,by rw[js];rfl,c,d⟩
 ·exact⟨none,0,rfl,.nil,UR _ _⟩
structure Part where
 p:OA
 cap:Nat
 l:List FinV
def Part.val (q:Part):Value := .slice q.p q.l.length q.cap
def zdV:Enc Part:=⟨fun q=>[q.val],1,fun _=>rfl,by decide,fun a u hu=>by
 simp only[Ur,Qm,Ga] at hu;subst hu;rfl⟩
def Part.ok (w:Wd) (q:Part):Prop:=SlR zA w q.p q.l/\(q.p=none->q.cap=0)
theorem Part.ok.below{w w2:Wd}{q:Part}(h:q.ok w)(hb:Bw w w2):q.ok w2:=⟨h.1.below hb,h.2⟩
def zah (qs:List Part):List FinV:=qs.flatMap (·.l)
theorem zfI{qs:List Part}{k:Nat}(hk:k<qs.length):zah (qs.take (k+1))=zah (qs.take k)++qs[k].l:=by
 unfold zah;rw[tsg hk,Kb];simp
theorem zg0{qs:List Part}(k:Nat):(zah (qs.take k)).length<=(zah qs).length:=by
 have:zah qs=zah (qs.take k)++zah (qs.drop k):=by unfold zah;rw[<- Kb,JL]
 rw[this];simp
theorem zps(p:OA)(cap:Nat)(qs:List Part)(w:Wd)(hp:SlR zdV w p qs)(hq:∀q∈qs,q.ok w)(hn:(zah qs).length<=1000000000)(hqn:qs.length<=1000000000) :
  Calls PG 84 #[.slice p qs.length cap] w fun e w'=>∃p' cap',e = .returned (.slice p' (zah qs).length cap')/\OwnS zA 52 w.heap.size w' p' cap' (zah qs)/\Bw w w':=by
 refine zC 36 [.slice p qs.length cap] Tryz.func84 ?_;refine⟨Nat,fun k=>⟨[(0,.slice p qs.length cap),(2,.slice none 0 0),(3,.int .i64 (zah (qs.take k)).length),(9,.slice p qs.length cap),(10,.int .i64 qs.length),(11,.int .i64 (k:Nat))],[]⟩,
  fun k X=>k<=qs.length/\X=w,fun k=>qs.length-k,0,(cvE rfl rfl),⟨UP _,rfl⟩,?_⟩
 rintro k X ⟨x,rfl⟩;refine biE (fun h=>?_) fun h=>?_
 ·have h:=dT h;have a:k<qs.length:=by omega
  obtain⟨b,o,rfl,hb,t⟩:=hp.at a;have i:=zfI a;have g:=zg0 (qs:=qs) (k+1);rw[i,lap] at g;refine⟨k,rfl,a,_,jt (t k a),_,zg (by omega),biE (fun h=>?_) fun h=>?_⟩
  ·have:=dT h;omega
  ·exact⟨_,zg (by omega),k+1,⟨.cons rfl (.cons rfl (.cons (by rw[i,lap];rfl) (.cons rfl (.cons rfl (.cons rfl .nil))))),rfl⟩,⟨a,rfl⟩,by dsimp only;omega⟩
 ·have h:=dF h;have f:k=qs.length:=by omega
  subst f;have v:zah (qs.take qs.length)=zah qs:=by rw[Qn]
  refine cmo (zsI (zah (qs.take qs.length)).length (by rw[v];exact hn) X X.heap.size (UN _)) ?_;rintro e Y ⟨y,cg,rfl,n,u⟩;refine⟨Nat×OA×Nat,fun s=>⟨[(0,.slice p qs.length cap),(2,.slice none 0 0),(6,.slice s.2.1 (zah (qs.take s.1)).length s.2.2),(25,.slice p qs.length cap),(26,.int .i64 qs.length),(27,.int .i64 (s.1:Nat))],[]⟩,
   fun s Z=>s.1<=qs.length/\Bw X Z/\OwnS zA 52 X.heap.size Z s.2.1 s.2.2 (zah (qs.take s.1)),fun s=>qs.length-s.1,(0,y,cg),(cvE rfl rfl),⟨UP _,u,n⟩,?_⟩
  rintro⟨k,z,cn⟩ Z ⟨x,c,d⟩;dsimp only at x d;refine biE (fun h=>?_) fun h=>?_
  ·have h:=dT h;have a:k<qs.length:=by omega
   obtain⟨b,o,rfl,hb,t⟩:=(hp.below c).at a;have i:=zfI a;have g:=zg0 (qs:=qs) (k+1);rw[i,lap] at g;have m:=(hq qs[k] (gM _)).below c;refine⟨k,rfl,a,_,jt (t k a),zej (α:=FinV) (E:=zA) (news:=qs[k].l) Tryz.underlying40 k52 rfl rfl rfl d rfl m.1 m.2 c.size (by omega) (by dsimp only;omega) ?_⟩;intro p' cap' w' j aa r;refine⟨_,zg (by omega),?_⟩;rw[<- i] at j;exact⟨(k+1,p',cap'),⟨.cons rfl (.cons rfl (.cons (by rw[i];rfl) (.cons rfl (.cons rfl (.cons rfl .nil))))),rfl⟩,⟨a,c.trans r,j⟩,by dsimp only;omega⟩
  ·have h:=dF h;have f:k=qs.length:=by omega
   subst f;rw[v] at d;exact⟨z,cn,by rw[<- v];rfl,d,c⟩
def zd3 (c:Cnd) (l:List FinV):Nat:=((zaR l).filter fun f=>qe f 20 c).length
def zfk (ask:UInt8) (c:Cnd) (l:List FinV):Bool :=
 if ask=1 then decide (0<zd3 c l) else if ask=2 then decide (zd3 c l=0) else if ask=3 then decide (zd3 c l=(zaR l).length) else false
theorem zhf{α:Type}[DecidableEq α]:∀{a b:List α},a.Nodup->(∀x∈a,x∈b)->a.length<=b.length
 | [],b,_,_=>UP _
 | x::r,b,h,hs=>by
  have c:=hs x (Ku ..);have d:=QK.1 h;have:=zhf (a:=r) (b:=b.erase x) d.2 fun y f=>(List.mem_erase_of_ne (fun e=>by subst e;exact d.1 f)).2 (hs y (JR _ f));rw[List.length_erase_of_mem c] at this;have:=List.length_pos_of_mem c;simp only[Qj];omega
end Go.Proofs.YtakcdebpklffiaaGreatDoor
namespace Go.Proofs.YtakcdebpklffiaaGreatDoor
open Go.Vc Go.RowKit Go.Sei
open Go.Sort
theorem zjS{w:Wd}{q:Nat}{os:Array Obj}:Bw w (grow (w.drewN q) os):=⟨rfl,rfl,rfl,by simp[grow,World.drewN],fun k a=>by
 show(w.heap++os)[k]?=_;rw[Array.getElem?_append_left a]⟩
theorem zm2{l s:List FinV}{a b:FinV}(h:zbT l=b::s):zbT (a::l)=if a=b then b::s else a::b::s:=by
 unfold zbT;rw[h]
theorem zjC:∀(l:List FinV) (a:FinV),a::zau a l=zbT (a::l)
 | [],a=>rfl
 | b::r,a=>by
  have c:=zjC r b;rw[zm2 c.symm];by_cases e:b=a
  ·subst e;rw[zau,Gd rfl,Gd rfl]
  ·rw[zau,Gc e,Gc (fun h:a=b=>e h.symm)]
theorem zmY(l:List FinV):zcL l=zbT l:=by
 cases l with
 | nil=>rfl
 | cons a r=>exact zjC r a
theorem zfJ:zfK []=[]:=by unfold zfK;simp
theorem zj0{q:OA}{cap:Nat}{w:Wd}:Calls PG 87 #[.slice q 0 cap] w fun e w'=>e = .returned (.slice q 0 cap)/\w=w':=by
 refine zC 61 [.slice q 0 cap] Tryz.func87 ?_;exact brT ⟨rfl,rfl⟩
section
variable{w:Wd}{p:OA}{cap:Nat}{l:List FinV}
theorem zpj(hl:SlR zA w p l)(hn:l.length<=1000000)(hp:p=none->cap=0):Calls PG 45 #[.slice p l.length cap] w fun e w'=>∃q c,e = .returned (.slice q (zaR l).length c)/\OwnS zA 52 w.heap.size w' q c (zaR l)/\Bw w w':=by
 refine qg 11 [.slice p l.length cap] (.s .p (.c .p (.c .p .p))) Tryz.func45 ?_;refine⟨OA×Nat,fun s=>⟨[(3,.slice s.1 l.length s.2)],[]⟩,fun s X=>OwnS zA 52 w.heap.size X s.1 s.2 l/\Bw w X,?_,?_⟩
 ·refine⟨⟨by decide,by decide,rfl⟩,[.slice p l.length cap],rfl,?_⟩;have f0:=zw w (.cells #[.slice p l.length cap] 40);have hb:Bw w (w.alloc (.cells #[.slice p l.length cap] 40)):=zba w _;have ht:zah [(⟨p,cap,l⟩:Part)]=l:=by unfold zah;simp
  have z:SlR zdV (w.alloc (.cells #[.slice p l.length cap] 40)) (some ⟨w.heap.size,0,none⟩) [(⟨p,cap,l⟩:Part)] := .inr ⟨w.heap.size,0,rfl,hlt f0,fun i hi=>by
   have k:i=0:=by simpa using hi
   subst k;exact za f0⟩
  have hc:=zps (some ⟨w.heap.size,0,none⟩) 1 [(⟨p,cap,l⟩:Part)] (w.alloc (.cells #[.slice p l.length cap] 40)) z (fun x hx=>by
   simp only[Ur,Qm,Ga] at hx;subst hx;exact⟨hl.below hb,hp⟩) (by rw[ht];omega) (JN rfl)
  refine cmo hc ?_;rintro e Y ⟨p',r,rfl,a,d⟩;rw[ht] at a;rw[ht];exact⟨(p',r),(cvE rfl rfl),a.lower hb.size,(zst hb d)⟩
 rintro⟨q,c⟩ X ⟨b,j⟩;dsimp only at b;refine⟨OA×Nat,fun s=>⟨[(3,.slice s.1 (zfK l).length s.2)],[]⟩,fun s X=>OwnS zA 52 w.heap.size X s.1 s.2 (zfK l)/\Bw w X/\(l≠[]->∃g,s.1=some ⟨g,0,none⟩/\w.heap.size<=g),?_,?_⟩
 ·have f:(zfK l).length=l.length:=(List.mergeSort_perm l leF).length_eq;by_cases k:l=[]
  ·subst k;refine cmo (Tryz.slices_SortFunc_none (α:=FinV) q c _ X) ?_;rintro e _ ⟨rfl,rfl⟩;rw[zfJ];exact⟨(q,c),(cvE rfl rfl),b,j,fun h=>Ge rfl h⟩
  ·rcases b.inv with⟨_,_,h⟩ | ⟨g,ae,rfl,u,_⟩
   ·exact Ge h k
   have aa:g<X.heap.size:=by
    rcases b.inv with⟨h,_⟩ | ⟨g',ad,h,_,hh,_⟩
    ·cases h
    ·cases h;exact hlt hh
   have hc:CmpLays PG 86 #[] zA.enc 38 zey g 0 l.toArray.size X:=fun m os dk _ x y=>by
    refine(zp0 (F:=x) (G:=y)).mono ?_;rintro e w' ⟨rfl,q,ab,rfl⟩;exact⟨rfl,q,ab,rfl⟩
   have z:=Tryz.slices_SortFunc_total (α:=FinV) 38 (fun w=>Tryz.isAgg52 w) (fun w=>Tryz.sizeOf52 w) zA.enc zA.len zA.one zey zqb 86 #[] g 0 c l.toArray X
    (fun t w=>(zes 0).call 86 (by decide) (by decide) (by decide) t w) hc (zkK b) aa (by simp;omega) zmF
   rw[KQ] at z;refine cmo z ?_;rintro e _ ⟨rfl,n,os,rfl⟩;have o:=zkb (l':=zfK l) b f n os;have e1:(l.toArray.toList.mergeSort fun x y => !(ltOf zey) y x)=zfK l:=rfl;rw[e1];exact⟨(some ⟨g,0,none⟩,c),⟨.cons (by rw[f];rfl) .nil,rfl⟩,o.1,j.trans (zm o.2 j.size u),fun _=>⟨g,rfl,u⟩⟩
 rintro⟨q,c⟩ Y ⟨a,d,u⟩;dsimp only at a u;have f:(zfK l).length=l.length:=(List.mergeSort_perm l leF).length_eq;by_cases k:l=[]
 ·subst k;have e1:zaR []=[]:=by unfold zaR;rw[zfJ];rfl
  rw[zfJ] at a ⊢;rw[e1];refine cmo (zj0 (q:=q) (cap:=c) (w:=Y)) ?_;rintro e _ ⟨rfl,rfl⟩;exact⟨q,c,rfl,a,d⟩
 ·obtain⟨g,rfl,ac⟩:=u k;refine cmo (zla a (by omega)) ?_;rintro e Z ⟨rfl,v,gZ⟩;rw[zmY] at v ⊢;exact⟨_,_,rfl,v,d.trans (zm gZ d.size ac)⟩
end
end Go.Proofs.YtakcdebpklffiaaGreatDoor
namespace Go.Proofs.YtakcdebpklffiaaGreatDoor
open Go.Vc Go.RowKit Go.Sei
def zb5 (ask:UInt8) (c:Cnd) (l:List FinV):Nat:=if ask=1\/ask=2\/ask=3 then zd3 c l else 0
theorem znd(a:UInt8):decide (((a.toNat:Nat):Int)<1)=false->decide (3<((a.toNat:Nat):Int))=false->a=1\/a=2\/a=3:=fun d b=>by
 have d:=dF d;have b:=dF b;have h:a.toNat=1\/a.toNat=2\/a.toNat=3:=by omega
 rcases h with h | h | h
 ·exact .inl (QW.1 h)
 ·exact .inr (.inl (QW.1 h))
 ·exact .inr (.inr (QW.1 h))
theorem zjT{a:UInt8}(h:a=1\/a=2\/a=3):1<=a.toNat/\a.toNat<=3:=by
 rcases h with rfl | rfl | rfl <;> decide
theorem zjt{α:Type}{p:α->Bool}{l:List α}{i:Nat}(h:i<l.length):((l.take (i+1)).filter p).length=((l.take i).filter p).length+if p l[i]=true then 1 else 0:=by
 rw[tsg h,Kq,lap,Qe]
 split <;> rfl
theorem zlH{a b:Nat}:decide ((a:Int)=(b:Int))=decide (a=b):=Qw.2 Int.ofNat_inj
theorem zid{α:Type}{p:α->Bool}{l:List α}{i:Nat}:((l.take i).filter p).length<=i:=UC (JH ..) (by rw[Ql];omega)
section
variable{w:Wd}{c:Cnd}{q:OA}{cap:Nat}{p:OA}{cl:Nat}{l:List FinV}{ask:UInt8}
theorem zgH(hk:KidsG w.heap.size w q c.kids)(hl:SlR zA w p l)(hn:l.length<=1000000)(hp:p=none->cl=0):Calls PG 41 #[u8 ask,zaC c q cap,.slice p l.length cl] w fun e w' =>
  e = .returned (.tuple #[.bool (zfk ask c l),i64 (zb5 ask c l)])/\Bw w w':=by
 refine qg 47 [u8 ask,zaC c q cap,.slice p l.length cl] (.s .p (.s .p (.c .p (.s .p (.c (.s .p (.b (.l (.s .p (.s .p (.s (.b (.c .p .p)) .p)))))) .p))))) Tryz.func41 ?_;have f4:=zw w (.cells (zu c q cap).toArray 27);have t:Bw w (w.alloc (.cells (zu c q cap).toArray 27)):=zba w _;obtain⟨S,hS⟩:=nm (zaR l);have ac:¬(ask=1\/ask=2\/ask=3)->zfk ask c l=false/\zb5 ask c l=0:=fun h=>by
  unfold zfk zb5;rw[Gc fun e=>h (.inl e),Gc fun e=>h (.inr (.inl e)),Gc fun e=>h (.inr (.inr e)),Gc h];exact⟨rfl,rfl⟩
 have g:¬(ask=1\/ask=2\/ask=3)->Ending.returned (.tuple #[.bool false,.int .i64 0])=Ending.returned (.tuple #[.bool (zfk ask c l),i64 (zb5 ask c l)]):=fun h=>by
  rw[(ac h).1,(ac h).2];rfl
 have go:(ask=1\/ask=2\/ask=3)->∀{P:Prop},P->P:=fun _ _ h=>h;refine biE (fun h=>?_) fun h=>?_
 ·have h:((ask.toNat:Nat):Int)<1:=dT h;exact brT ⟨g fun e=>by have:=zjT e;omega,t⟩
 refine biE (fun j=>?_) fun j=>?_
 ·have j:3<((ask.toNat:Nat):Int):=dT j;exact⟨g fun e=>by have:=zjT e;omega,t⟩
 have z:=znd ask h j;clear h j ac g go;refine⟨OA×Nat,fun s=>⟨[(0,u8 ask),(2,.slice s.1 S.length s.2),(4,At0 w.heap.size)],[]⟩,fun s X=>SlR zA X s.1 S/\X.heap[w.heap.size]?=some (.cells (zu c q cap).toArray 27 (0,0))/\Bw w X,?_,?_⟩
 ·refine cmo (zpj (hl.below t) hn hp) ?_;rintro e Y ⟨q',c',rfl,ag,a⟩;exact⟨(q',c'),⟨.cons rfl (.cons (by rw[hS];rfl) (.cons rfl .nil)),rfl⟩,by rw[hS];exact OwnS.row ag,zb a f4,(zst t a)⟩
 rintro⟨q',c'⟩ X ⟨hl,f4,ak⟩;dsimp only at hl;have hm:((S.filter fun f=>qe f 20 c).length)=zd3 c l:=by rw[hS];rfl
 have aq:S.length<=1000000:=by
  rw[hS];exact UC (zhf (zmN (zer l)) fun x hx=>zeq.1 hx) hn
 refine⟨Unit,fun _=>⟨[(0,u8 ask),(2,.slice q' S.length c'),(8,i64 (zd3 c l:Nat))],[]⟩,fun _ Y=>Bw w Y,?_,?_⟩
 ·refine⟨Nat,fun k=>⟨[(0,u8 ask),(2,.slice q' S.length c'),(4,At0 w.heap.size),(8,i64 (((S.take k).filter fun f=>qe f 20 c).length:Nat)),(19,.slice q' S.length c'),(20,i64 S.length),(21,i64 k)],[]⟩,
   fun k Y=>k<=S.length/\SlR zA Y q' S/\Y.heap[w.heap.size]?=some (.cells (zu c q cap).toArray 27 (0,0))/\Bw w Y,fun k=>S.length-k,0,(cvE rfl rfl),⟨UP _,hl,f4,ak⟩,?_⟩
  rintro k Y ⟨ao,ae,f4,a⟩;refine biE (fun h=>?_) fun h=>?_
  ·have m:k<S.length:=by have:=dT h;omega
   clear h;obtain⟨b,o,rfl,am,ai⟩:=ae.at m;obtain⟨F,hF⟩:=nm (S[k]);have u:=ai k m;rw[<- hF] at u;refine⟨Nat,fun s=>⟨[(0,u8 ask),(2,.slice (some ⟨b,o,none⟩) S.length c'),(4,At0 w.heap.size),(8,i64 (((S.take k).filter fun f=>qe f 20 c).length:Nat)),(10,At0 s),(19,.slice (some ⟨b,o,none⟩) S.length c'),(20,i64 S.length),(21,i64 k)],[]⟩,
    fun s Z=>Z.heap[s]?=some (.cells (zA.enc F).toArray 52 (0,0))/\Bw Y Z,?_,?_⟩
   ·refine⟨k,rfl,m,zA.enc F,zA.len F,u,am,?_⟩;have r:=zw Y (.cells (List.replicate 38 (.int .u8 0)).toArray 52);exact zo (v:=qT F) k52 r (by show(zA.enc F).length=38;exact zA.len F) rfl (Qa.2 fun v hv=>zA.one F v hv) ⟨Y.heap.size,(cvE rfl rfl),zk r,zh ((zba Y _)) (UN _) _⟩
   rintro an Z ⟨r,ad⟩;have af:=zb ad f4;have ab:=zst a ad;refine⟨zu c q cap,rfl,za af,hlt af,zA.enc F,zA.len F,za r,hlt r,cmo (zeo ((hk.kept ab).wider ab.size)) ?_⟩;rintro e U ⟨rfl,al⟩;have d:=zst ad al;have aa:=zst a d;have n:=zjt (p:=fun f=>qe f 20 c) m;have ap:=zid (p:=fun f=>qe f 20 c) (l:=S) (i:=k);rw[<- hF] at n;refine biE (fun h=>?_) fun h=>?_
   ·rw[Gd h] at n;exact⟨_,zg (by omega),_,zg (by omega),k+1,⟨.cons rfl (.cons rfl (.cons rfl (.cons (by rw[n];rfl) (.cons rfl (.cons rfl (.cons rfl .nil)))))),rfl⟩,⟨m,ae.below d,zb d f4,aa⟩,by dsimp only;omega⟩
   ·rw[Gc (by rw[h];decide)] at n;exact⟨_,zg (by omega),k+1,⟨.cons rfl (.cons rfl (.cons rfl (.cons (by rw[n];rfl) (.cons rfl (.cons rfl (.cons rfl .nil)))))),rfl⟩,⟨m,ae.below d,zb d f4,aa⟩,by dsimp only;omega⟩
  ·have ah:k=S.length:=by have:=dF h;omega
   subst ah;exact⟨(),⟨.cons rfl (.cons rfl (.cons (by rw[<- hm];show some (i64 (((S.take S.length).filter fun f=>qe f 20 c).length:Nat))=_;rw[Qn]) .nil)),rfl⟩,a⟩
 rintro _ Y a;have aj:zb5 ask c l=zd3 c l:=Gd z;rw[aj];refine biE (fun h=>?_) fun h=>?_
 ·have h:ask=1:=dT ((za2 (x:=ask) (y:=1)).symm.trans h);refine⟨?_,a⟩;unfold zfk;rw[Gd h,<- zdp];rfl
 have h:¬ask=1:=dF ((za2 (x:=ask) (y:=1)).symm.trans h);refine biE (fun j=>?_) fun j=>?_
 ·have j:ask=2:=dT ((za2 (x:=ask) (y:=2)).symm.trans j);refine⟨?_,a⟩;unfold zfk;rw[Gc h,Gd j,<- zlH];rfl
 ·have j:¬ask=2:=dF ((za2 (x:=ask) (y:=2)).symm.trans j);refine⟨?_,a⟩;unfold zfk;rw[Gc h,Gc j,Gd (z.resolve_left h |>.resolve_left j),<- hS,<- zlH];rfl
end
theorem j6{X:Wd}{b:Nat}{r:RelD}(f:X.heap[b]?=some (.cells (zd r).toArray 76 (0,0))){i:Nat}(h:i<48):X.cell? ⟨b,0+1+i*1,none⟩=some (s64 (r.to i)):=by
 rw[UO,Us];exact zc (za f) (zdS r h)
theorem qJ{r:RelD}(h:okR r=true):0<=r.n/\r.n<=48/\∀a,a<48->jl (r.to a) (zaf r.n)=0/\((a:Int)<r.n\/r.to a=0):=by
 unfold okR at h;rw[bAT,bAT,dE,dE,Qa] at h;refine⟨h.1,h.2.1,fun a b=>?_⟩;have:=h.2.2 a (Ue.2 b);unfold za7 at this;rw[bAT,Qx,dE,dE,dE] at this;exact this
theorem zgG{n:Int}(h0:0<=n)(h:n<=64){i:Nat}(hi:i<64):(zaf n).testBit i=decide ((i:Int)<n):=by
 unfold zaf
 split
 ·rw[Qu,QX (by omega)]
 split
 ·rw[show 18446744073709551615=2^64-1 from rfl,Nat.testBit_two_pow_sub_one];rw[Uh hi,Uh (by omega)]
 ·rw[Nat.testBit_two_pow_sub_one];apply Qw.2;omega
theorem zly{r:RelD}(h:okR r=true)(hr:zG r.to){a i:Nat}(ha:a<48)(hb:(r.to a).testBit i=true):(i:Int)<r.n/\(a:Int)<r.n:=by
 obtain⟨j,g,c⟩:=qJ h;obtain⟨f,b⟩:=c a ha;have d:i<64:=by
  apply Qq;intro d;have:=JC (nL (hr a ha) (JY (by decide) d));rw[this] at hb;cases hb
 refine⟨?_,?_⟩
 ·have e:(jl (r.to a) (zaf r.n)).testBit i=false:=by rw[f];exact Qu i
  rw[zeG (zaY _) d,hb,zgG j (by omega) d] at e;simpa using e
 ·rcases b with b | b
  ·exact b
  ·rw[b,Qu] at hb;cases hb
theorem zh1{r:RelD}(h:okR r=true)(hr:zG r.to){a:Nat}(ha:a<48):∀i∈els (r.to a),(i:Int)<r.n/\i<48:=fun i b=>by
 have c:=(zly h hr ha (zh5.1 b).2).1;have:=(qJ h).2.1;exact⟨c,by omega⟩
theorem zbf{s:Nat}(h0:s≠0)(h:s<2^64):(els s).headD 0=ctz s/\(els s).isEmpty=false:=by
 rw[(jg h0 h).1];exact⟨rfl,rfl⟩
theorem zft{s:Nat}(h:s<2^64)(he:(els s).isEmpty=true):s=0:=by
 apply Jl;intro a;rw[(zbf a h).2] at he;cases he
theorem zef{s:Nat}(h:s<2^64)(he:(!(els s).isEmpty)=true):s≠0:=fun a=>by
 subst a;rw[zbg] at he;cases he
theorem zc2{n:Nat}{f:Nat->Nat}(h:∀i,i<n->i<48->f i<2^64):zG (jW n f).to:=fun i a=>by
 unfold jW;dsimp only
 split
 ·rename_i b;exact h i b a
 ·decide
theorem zjn{to:Nat->Nat}(ht:zG to):∀(l:List Nat) (t:Nat),t<2^64->(∀i∈l,i<48)->l.foldl (fun t a=>t|||to a) t<2^64
 | [],t,h,_=>h
 | x::l,t,h,hl=>by
  rw[QC];exact zjn ht l _ (KR h (ht x (hl x Ku))) fun i b=>hl i (JR _ b)
section
variable{ra rb:RelD}{w:Wd}
theorem zpr{ba bb i a b:Nat}(fa:w.heap[ba]?=some (.cells #[s64 a] 73 (0,0)))(fb:w.heap[bb]?=some (.cells #[s64 b] 73 (0,0)))(hi:i<48) :
  CB 200 (i64 (i:Nat)::[At0 ba,At0 bb]).toArray w (s64 (if a.testBit i then b else 0)):=by
 refine zC 11 (i64 (i:Nat)::[At0 ba,At0 bb]) Tryz.func200 ?_;refine⟨_,zc (za fa) (i:=0) rfl,by omega,_,zfl (k:=i) (by omega),?_⟩;have c:IntKind.u64.wrap ((BitVec.ofInt IntKind.u64.bits ((a/2^i:Nat):Int)&&&BitVec.ofInt IntKind.u64.bits (1:Int)).toNat:Int)=((a/2^i&&&1:Nat):Int):=by
  show IntKind.u64.wrap ((BitVec.ofInt 64 ((a/2^i:Nat):Int)&&&BitVec.ofInt 64 (1:Int)).toNat:Int)=_;rw[KY,show(BitVec.ofInt 64 (1:Int)).toNat=1 from rfl,Ky,Ky,Km];have d:(((a/2^i:Nat):Int)%((2^64:Nat):Int)).toNat=(a/2^i)%2^64:=by
   rw[<- Int.natCast_emod,KE]
  rw[d];generalize a/2^i=m;rw[w64 (by omega)];omega
 refine⟨_,c,?_⟩;rw[zir];refine biE (fun h=>?_) fun h=>?_
 ·have h:a.testBit i=false:=by
   cases hc:a.testBit i with
   | false=>rfl
   | true =>
    rw[hc] at h;exact Ge h (by decide)
  exact⟨by rw[h];rfl,UR _ _⟩
 ·have h:a.testBit i=true:=by
   cases hc:a.testBit i with
   | true=>rfl
   | false =>
    rw[hc] at h;exact Ge h (by decide)
  exact⟨_,zc (za fb) (i:=0) rfl,by rw[h];rfl,UR _ _⟩
theorem zrh{n a b:Nat}(hn:n<=48)(ha:a<2^64)(hb:b<2^64):CB 133 #[i64 n,s64 a,s64 b] w (.agg (zd (zgy n a b)).toArray):=by
 refine qg 21 [i64 n,s64 a,s64 b] (.c .p (.s .p (.s .p .p))) Tryz.func133 ?_;obtain⟨L,f⟩:=nm (w.heap.size);refine⟨Unit,fun _=>⟨[(0,i64 n),(4,At0 L),(5,At0 (L+1)),(6,At0 (L+2))],[]⟩,fun _ X=>X.heap[L]?=some (.cells #[s64 a] 73 (0,0))/\X.heap[L+1]?=some (.cells [s64 b].toArray 73 (0,0))/\X.heap[L+2]?=some (.cells (zd zz).toArray 76 (0,0))/\Bw w X,?_,?_⟩
 ·have s1:=wz w (.cells #[s64 a] 73);have r:=wz (w.alloc (.cells #[s64 a] 73)) (.cells #[s64 b] 73);have u:=zw (w.alloc (.cells #[s64 a] 73)) (.cells #[s64 b] 73);have y:=zw ((w.alloc (.cells #[s64 a] 73)).alloc (.cells #[s64 b] 73)) (.cells (zd zz).toArray 76);rw[s1] at r u;rw[r] at y;refine⟨(),⟨.cons rfl (.cons (by rw[f];rfl) (.cons (by rw[f,<- s1];rfl) (.cons (by rw[f,<- r];rfl) .nil))),rfl⟩,?_,?_,?_,?_⟩
  ·rw[f];exact z6 _ (z6 _ (zw w _))
  ·rw[f];exact z6 _ u
  ·rw[f];exact y
  ·exact(((zba w _)).alloc (by simp) _).alloc (by simp;omega) _
 rintro _ X ⟨f0,t,z,g⟩;refine brN (QX (by omega)) (brN (QX (by omega)) (DrawE.ord [4] [0,1,2,3,4] (by kernel_rfl) ⟨_,zc (za (hdr t)) (i:=0) rfl,cmo zhG ?_⟩));rintro e _ ⟨rfl,rfl⟩;refine⟨UR _ _,_,jo (a:=b) (b:=zaf n) hb (zaY _),?_⟩;have hd:Bw X X.drew:=(UR _ X).drew;refine zn k73 (hdr t) (o:=0) (v:=s64 (b&&&zaf n)) rfl rfl (by show 0<1;decide) rfl fun Y q j sY=>?_;have q:Y.heap[L+1]?=some (.cells #[s64 (b&&&zaf n)] 73 (0,0)):=q;have m:Bw w Y:=((zst g hd)).trans (zm j g.size (by omega));have l:=(j.block L (hlt (hdr f0)) (by simp)).trans (hdr f0);have k:=(j.block (L+2) (hlt (hdr z)) (by simp)).trans (hdr z);refine cmo (zio (w:=Y) (n:=n) (row:=fun x=>if a.testBit x then b&&&zcl n else 0) hn (by kernel_rfl) (fun i Z hi d=>zpr (zb d l) (zb d q) (by omega))) ?_;rintro e Z ⟨rfl,d⟩;have h:=zb d k;exact zo (v := .agg (zd (zgy n a b)).toArray) k76 h rfl rfl (zD _) ⟨zd (zgy n a b),ze _,za (zk h),rfl,zh ((zst m d)) (by omega) _⟩
end
theorem zfm{f:Nat->Nat}(h:zG f){i v:Nat}(hv:v<2^64):zG (upd f i v):=fun j a=>by
 by_cases e:j=i
 ·rw[e,qM];exact hv
 ·rw[zak _ _ e];exact h j a
def zry (a:Nat) (l:List Nat) (f:Nat->Nat):Nat->Nat:=l.foldl (fun f b=>upd f b (f b|||2^a)) f
section
variable{r:RelD}{w:Wd}
theorem zgL(hr:zG r.to)(hT:Tz64M w):Calls PG 116 #[.agg (zd r).toArray] w fun e w'=>e = .returned (.agg (zd (qI r)).toArray)/\Bw w w'/\zG (qI r).to:=by
 refine qg 50 [.agg (zd r).toArray] (.c .p (.s .p (.s .p (.c .p .p)))) Tryz.func116 ?_;obtain⟨L,hL⟩:=nm (w.heap.size);refine⟨Unit,fun _=>⟨[(1,At0 L),(2,At0 (L+1))],[]⟩,fun _ X=>X.heap[L]?=some (.cells (zd r).toArray 76 (0,0))/\X.heap[L+1]?=some (.cells (zd zz).toArray 76 (0,0))/\X.heap.size=L+2/\Bw w X,?_,?_⟩
 ·have s1:=wz w (.cells (zd r).toArray 76);have h2:=zw (w.alloc (.cells (zd r).toArray 76)) (.cells (zd zz).toArray 76);have s2:=wz (w.alloc (.cells (zd r).toArray 76)) (.cells (zd zz).toArray 76);rw[s1] at h2 s2;refine⟨(),⟨.cons (by rw[hL];rfl) (.cons (by rw[hL,<- s1];rfl) .nil),rfl⟩,?_,?_,?_,?_⟩
  ·rw[hL];exact z6 _ (zw w _)
  ·rw[hL];exact h2
  ·rw[hL];exact s2
  ·exact((zba w _)).alloc (by simp) _
 rintro _ X ⟨f0,f1,sX,ai⟩;refine⟨zd r,ze _,za f0,hlt f0,cmo (jk hr) ?_⟩;rintro e Y ⟨rfl,u⟩;have x:=zst ai u;have y:=zb u f0;have ab:=zb u f1;refine biE (fun h=>?_) fun h=>?_
 ·have h:okR r=false:=by
   have h:(!okR r)=true:=h;simpa using h
  have e:qI r=zz:=by unfold qI;rw[h];rfl
  rw[e];exact⟨zd zz,rfl,zo (v := .agg (zd zz).toArray) k76 ab rfl rfl (zD _) ⟨zd zz,ze _,za (zk ab),rfl,zh x (by omega) _,fun i _=>(by decide:0<2^64)⟩⟩
 have h:okR r=true:=by
  have h:(!okR r)=false:=h;simpa using h
 obtain⟨p0,ap,_⟩:=qJ h;obtain⟨n,hn⟩:∃n:Nat,r.n=n:=⟨r.n.toNat,by omega⟩;have an:n<=48:=by omega
 have e0:qI r=⟨n,j4 r.to n⟩:=by unfold qI;rw[Gd h,hn];rfl
 rw[e0];have ah:Y.cell? ⟨L,0+0,none⟩=some (i64 n):=by rw[<- hn];exact zc (za y) (i:=0) rfl
 refine⟨i64 n,ah,zd ⟨n,fun _=>0⟩,rfl,?_⟩;have sY:=u.size;refine zr (X:=Y) (v := .agg (zd ⟨n,fun _=>0⟩).toArray) k76 rfl rfl (zD _) fun Z t fZ sZ=>?_;obtain⟨M,hM⟩:=nm (Y.heap.size);rw[<- hM] at fZ sZ;have pM:some (Value.pointer (some ⟨Y.heap.size,0,none⟩))=some (At0 M):=by rw[hM]
 have j:=zst x t;refine⟨Unit,fun _=>⟨[(1,At0 L),(2,At0 (L+1)),(3,At0 M)],[]⟩,fun _ V=>V.heap[M]?=some (.cells (zd ⟨n,j4 r.to n⟩).toArray 76 (0,0))/\V.heap[L+1]?=some (.cells (zd zz).toArray 76 (0,0))/\Bw w V/\zG (j4 r.to n),?_,?_⟩
 ·refine⟨i64 n,by rw[<- hn];exact zc (za (zb t y)) (i:=0) rfl,?_⟩;refine⟨Nat,fun k=>⟨[(1,At0 L),(2,At0 (L+1)),(3,At0 M),(16,i64 n),(17,i64 (k:Nat))],[]⟩,
   fun k V=>k<=n/\V.heap[M]?=some (.cells (zd ⟨n,j4 r.to k⟩).toArray 76 (0,0))/\zG (j4 r.to k)/\Below M Z V,fun k=>n-k,0,
   ⟨.cons rfl (.cons rfl (.cons pM (.cons rfl (.cons rfl .nil)))),rfl⟩,⟨UP _,fZ,fun i _=>(by decide:0<2^64),UR _ _⟩,?_⟩
  rintro k V ⟨hk,fV,ad,f⟩;have sV:=f.size;refine biE (fun m=>?_) fun m=>?_
  ·have m:(k:Int)<(n:Int):=dT m;have ag:k<n:=by omega
   have step:j4 r.to (k+1)=zry k (els (r.to k)) (j4 r.to k):=by
    unfold j4;rw[QL,KL];rfl
   have am:=zh1 h hr (a:=k) (by omega);have ak:V.heap[L]?=some (.cells (zd r).toArray 76 (0,0)):=(f.block L (by omega)).trans (zb t y);have al:Tz64M V:=hT.below (j.trans (f.mono (by omega)));refine⟨k,rfl,by omega,?_⟩;refine⟨_,j6 ak (by omega),cmo (zas (hr k (by omega)) al) ?_⟩;rintro e U ⟨rfl,ac⟩;refine⟨(Nat->Nat)×Nat,fun q=>⟨[(1,At0 L),(2,At0 (L+1)),(3,At0 M),(4,i64 (k:Nat)),(5,s64 q.2),(6,i64 ((els q.2).headD 0:Nat)),(7,.bool (!(els q.2).isEmpty)),(16,i64 n),(17,i64 (k:Nat))],[]⟩,
    fun q T=>(j4 r.to (k+1)=zry k (els q.2) q.1/\zG q.1/\q.2<2^64/\∀b∈els q.2,b<48)/\T.heap[M]?=some (.cells (zd ⟨n,q.1⟩).toArray 76 (0,0))/\Below M Z T,fun q=>q.2,(j4 r.to k,r.to k),
    (cvE rfl rfl),⟨⟨step,ad,hr k (by omega),fun b hb=>(am b hb).2⟩,zb ac fV,f.trans (ac.mono (by omega))⟩,?_⟩
   rintro⟨g,q⟩ T ⟨⟨he,hg,hq,l⟩,fT,z⟩;dsimp only at he hg hq l fT ⊢;have sT:=z.size;refine biE (fun m=>?_) fun m=>?_
   ·have h0:=zef hq m;obtain⟨e1,e2,_,e3⟩:=jg h0 hq;have hd:=(zbf h0 hq).1;have d:ctz q<48:=l _ (by rw[e1];exact Ku);rw[hd];refine DrawE.ord [9] [0,1,2,3,4,5,6,7,8,9] (by kernel_rfl) ⟨ctz q,rfl,d,_,j6 (hdr fT) d,by omega,_,jn (e:=k) (by omega),_,jB (hg _ d) (zT (by omega)),ctz q,rfl,d,zn k73 (hdr fT) (o:=0+1+ctz q*1) (v:=s64 (g (ctz q)|||2^k)) rfl rfl (by rw[ze];omega) rfl fun S fS gS sS=>?_⟩;rw[UH,UO,zdR _ d] at fS;have aj:Bw T T.drew:=(UR _ T).drew;have aa:Below M Z S:=(z.trans (aj.mono (show M<=T.heap.size by omega))).trans (zm gS (show M<=T.heap.size by omega) (UN _));refine⟨((q-1:Nat):Int),(w64 (a:=(q:Int)-1) (by omega)).trans (by omega),((qA q:Nat):Int),jo (a:=q) (b:=q-1) hq (by omega),cmo (zas (s:=qA q) (by omega) (hT.below (j.trans (aa.mono (by omega))))) ?_⟩;rintro e R ⟨rfl,ae⟩;have ao:=aa.size;refine⟨(upd g (ctz q) (g (ctz q)|||2^k),qA q),(cvE rfl rfl),⟨⟨?_,zfm hg (KR (hg _ d) (zT (by omega))),by show qA q<_;omega,fun b hb=>l b (by rw[e1];exact JR _ hb)⟩,zb ae fS,aa.trans (ae.mono (by omega))⟩,e2⟩;rw[he,e1];rfl
   ·have m:(els q).isEmpty=true:=(by simpa using m);have:=zft hq m;subst this;rw[zbg] at he;have he:j4 r.to (k+1)=g:=he;exact nxI (by omega) ⟨k+1,(cvE rfl rfl),⟨ag,by rw[he];exact fT,by rw[he];exact hg,z⟩,zdc (by omega)⟩
  ·have m:¬(k:Int)<(n:Int):=dF m;obtain rfl:k=n:=by omega
   exact⟨(),(cvE rfl rfl),fV,(f.block (L+1) (by omega)).trans (zb t ab),j.trans (f.mono (by omega)),ad⟩
 clear fZ sZ pM j t Z;rintro _ V ⟨fM,af,f,hw⟩;exact⟨zd ⟨n,j4 r.to n⟩,ze _,za fM,hlt fM,zo (v := .agg (zd ⟨n,j4 r.to n⟩).toArray) k76 af rfl rfl (zD _) ⟨zd ⟨n,j4 r.to n⟩,ze _,za (zk af),rfl,zh f (by omega) _,hw⟩⟩
theorem zmR{p:Nat->Bool}{x:Nat}{l:List Nat}:(x::l).find? p=if p x then some x else l.find? p:=by
 rw[List.find?_cons]
 cases p x <;> rfl
theorem zr0{b left:Nat}(f:w.heap[b]?=some (.cells (zd r).toArray 76 (0,0)))(hr:zG r.to)(hs:left<2^64)(h48:∀i∈els left,i<48)(hT:Tz64M w) :
  CB 278 #[At0 b,s64 left] w (.tuple #[i64 ((zda r.to left).getD 0:Nat),.bool (zda r.to left).isSome]):=by
 refine zC 35 [At0 b,s64 left] Tryz.func278 ?_;refine cmo (zas hs hT) ?_;rintro e X ⟨rfl,c⟩;refine⟨Nat,fun q=>⟨[(0,At0 b),(1,s64 left),(6,s64 q),(7,i64 ((els q).headD 0:Nat)),(8,.bool (!(els q).isEmpty))],[]⟩,
  fun q Y=>zda r.to left=(els q).find? (fun a=>decide (r.to a&&&left=0))/\(q<2^64/\∀i∈els q,i<48)/\Bw w Y,fun q=>q,left,
  (cvE rfl rfl),⟨rfl,⟨hs,h48⟩,c⟩,?_⟩
 clear c X;rintro q X ⟨g,⟨j,h48⟩,c⟩;refine biE (fun k=>?_) fun k=>?_
 ·have o:=zef j k;obtain⟨l,t,_,v⟩:=jg o j;have n:=(zbf o j).1;have d:ctz q<48:=h48 _ (by rw[l];exact Ku);have p:=zb c f;refine⟨ctz q,UY Nat.cast n.symm,d,_,j6 p d,_,jo (hr _ d) hs,?_⟩;rw[l,zmR] at g;refine biE (fun h=>?_) fun h=>?_
  ·have h:r.to (ctz q)&&&left=0:=Uo (dT h);rw[Uh h] at g;have g:zda r.to left=some (ctz q):=g;exact⟨by rw[g,<- n];rfl,c⟩
  ·have h:¬r.to (ctz q)&&&left=0:=fun e=>by
    have h:¬(((r.to (ctz q)&&&left:Nat):Int)=0):=dF h;exact h (by rw[e];rfl)
   rw[QX h] at g;refine⟨((q-1:Nat):Int),(w64 (a:=(q:Int)-1) (by omega)).trans (by omega),((qA q:Nat):Int),jo (a:=q) (b:=q-1) j (by omega),cmo (zas (s:=qA q) (by omega) (hT.below c)) ?_⟩;rintro e Y ⟨rfl,m⟩;exact⟨qA q,(cvE rfl rfl),⟨g,⟨by omega,fun i u=>h48 i (by rw[l];exact JR _ u)⟩,(zst c m)⟩,t⟩
 ·have k:(els q).isEmpty=true:=by simpa using k
  have:=zft j k;subst this;rw[zbg] at g;have g:zda r.to left=none:=g;exact⟨by rw[g];rfl,c⟩
end
theorem zgv{s a:Nat}(hs:s<2^64)(ha:a∈els s):els (jl s (2^a))=(els s).filter (fun i => !decide (i=a)):=by
 have b:=zsf ha;unfold els;rw[List.filter_filter];apply KJ;intro i c;rw[zeG (zT b) (Ue.1 c),Kj,Bool.and_comm];congr 2;exact Qw.2 ⟨fun h=>h.symm,fun h=>h.symm⟩
theorem zca{s a:Nat}(hs:s<2^64)(ha:a∈els s):(els (jl s (2^a))).length<(els s).length:=by
 rw[zgv hs ha];exact List.length_filter_lt_length_iff_exists.2 ⟨a,ha,by simp⟩
theorem zoq{s a:Nat}(hs:s<2^64)(ha:a∈els s):jl s (2^a)<s:=by
 have c:jl s (2^a)<=s:=QN;have b:jl s (2^a)≠s:=fun e=>by
  have:=zca hs ha;rw[e] at this;omega
 omega
theorem zij{n:Nat}(h:n<=64):els (zaf n)=List.range n:=by
 have e:∀i∈List.range 64,(zaf n).testBit i=decide (i<n):=fun i a=>by
  rw[zgG (by omega) (by omega) (Ue.1 a)];exact Qw.2 (by omega)
 unfold els;rw[KJ e];obtain⟨m,d⟩:∃m,64=n+m:=⟨64-n,by omega⟩;rw[d,List.range_add,Kq];have c:(List.range n).filter (fun i=>decide (i<n))=List.range n:=by
  rw[List.filter_eq_self];intro i a;simpa using a
 have b:((List.range m).map (n + ·)).filter (fun i=>decide (i<n))=[]:=by
  rw[Jy];intro i a;obtain⟨j,_,rfl⟩:=Uz.1 a;simp
 rw[c,b,QA]
theorem zoE{before:Nat->Nat}{left a:Nat}(h:zda before left=some a):a∈els left:=List.mem_of_find?_eq_some h
section
variable{r:RelD}{w:Wd}
theorem zth(hr:zG r.to)(hT:Tz64M w):Calls PG 207 #[.agg (zd r).toArray] w fun e w' =>
  (∃p c,e = .returned (.tuple #[.slice p ((zep r).getD []).length c,.bool (zep r).isSome])/\OwnS zB 3 w.heap.size w' p c ((zep r).getD []))/\Bw w w':=by
 refine qg 38 [.agg (zd r).toArray] (.c .p (.s .p (.c .p (.c .p (.s .p .p))))) Tryz.func207 ?_;obtain⟨L,hL⟩:=nm (w.heap.size);refine⟨Unit,fun _=>⟨[(1,At0 L)],[]⟩,fun _ X=>X.heap[L]?=some (.cells (zd r).toArray 76 (0,0))/\X.heap.size=L+1/\Bw w X,⟨(),⟨.cons (by rw[hL];rfl) .nil,rfl⟩,by rw[hL];exact zw w _,by rw[hL];exact wz _ _,(zba w _)⟩,?_⟩;rintro _ X ⟨x,sX,d⟩;refine⟨zd r,ze _,za x,hlt x,cmo (jk hr) ?_⟩;rintro e Y ⟨rfl,b⟩;have f:=zst d b;have k:=zb b x;refine biE (fun h=>?_) fun h=>?_
 ·have h:okR r=false:=by
   have h:(!okR r)=true:=h;simpa using h
  have e:zep r=none:=by unfold zep;rw[h];rfl
  rw[e];exact⟨⟨none,0,rfl,OwnS.nil⟩,f⟩
 have h:okR r=true:=by
  have h:(!okR r)=false:=h;simpa using h
 obtain⟨p0,am,_⟩:=qJ h;obtain⟨n,hn⟩:∃n:Nat,r.n=n:=⟨r.n.toNat,by omega⟩;have ag:n<=48:=by omega
 have sY:=b.size;refine⟨Nat,fun M=>⟨[(1,At0 L),(4,At0 M)],[]⟩,fun M Z=>Z.heap[M]?=some (.cells (zd (qI r)).toArray 76 (0,0))/\L<M/\Z.heap[L]?=some (.cells (zd r).toArray 76 (0,0))/\zG (qI r).to/\Bw w Z,?_,?_⟩
 ·refine⟨zd r,ze _,za k,hlt k,cmo (zgL hr (hT.below f)) ?_⟩;rintro e Z ⟨rfl,j,hw⟩;refine zr (X:=Z) (v := .agg (zd (qI r)).toArray) k76 rfl rfl (zD _) fun V g fV sV=>?_;have sZ:=j.size;exact⟨Z.heap.size,(cvE rfl rfl),fV,by omega,zb g (zb j k),hw,((zst f j)).trans (g.mono (by omega))⟩
 clear x sX d b f k sY Y X;rintro M X ⟨fM,al,x,hw,d⟩;refine⟨Unit,fun _=>⟨[(1,At0 L),(4,At0 M),(5,s64 (zaf n))],[]⟩,fun _ Y=>X=Y,?_,?_⟩
 ·refine⟨i64 n,by rw[<- hn];exact zc (za x) (i:=0) rfl,cmo zhG ?_⟩;rintro e _ ⟨rfl,rfl⟩;exact⟨(),(cvE rfl rfl),rfl⟩
 rintro _ _ rfl;refine⟨i64 n,by rw[<- hn];exact zc (za x) (i:=0) rfl,zcC (E:=zB) Tryz.underlying89 k3 rfl rfl rfl n (by show 8*n<=_;omega) (by unfold maxLen;omega) fun Z oZ j sZ=>?_⟩;have af:=zst d j;have wX:=d.size;have eT:zep r=znz (qI r).to 64 (zaf n) []:=by unfold zep;rw[Gd h,zel,hn]
 have ak:=hlt fM;refine⟨Nat×List Nat×Nat×OA×Nat,fun q=>⟨[(1,At0 L),(4,At0 M),(5,s64 q.1),(6,.slice q.2.2.2.1 q.2.1.length q.2.2.2.2)],[]⟩,
  fun q Y=>(zep r=znz (qI r).to q.2.2.1 q.1 q.2.1/\(els q.1).length<=q.2.2.1/\q.2.2.1+q.2.1.length=64/\q.1<2^64/\∀i∈els q.1,i<48)/\OwnS zB 3 X.heap.size Y q.2.2.2.1 q.2.2.2.2 q.2.1/\Bw X Y,fun q=>q.1,(zaf n,[],64,some ⟨X.heap.size,0,none⟩,n),
  (cvE rfl rfl),⟨⟨eT,zee _,rfl,zaY _,fun i hi=>by
   rw[show els (zaf n)=List.range n from zij (by omega)] at hi;have:=Ue.1 hi;omega⟩,oZ,j⟩,?_⟩
 rintro⟨q,l,m,p,c⟩ Y ⟨⟨he,hm,ac,t,o⟩,ho,b⟩;dsimp only at he hm ac t o ho ⊢;have sY:=b.size;refine biE (fun u=>?_) fun u=>?_
 ·have u:(!decide ((q:Int)=0))=true:=u;have h0:q≠0:=fun e=>by
   subst e;exact Ge u (by decide)
  obtain⟨e1,_,_,_⟩:=jg h0 t;have ai:1<=(els q).length:=by rw[e1];simp
  obtain⟨m,rfl⟩:∃m',m=m'+1:=⟨m-1,by omega⟩;have ad:=zb b fM;have step:zep r=match zda (qI r).to q with | none=>none | some a=>znz (qI r).to m (zaT q (2^a)) (l++[a]):=by
   rw[he];show(if q=0 then some l else _)=_;rw[Gc h0]
   cases zda (qI r).to q <;> rfl
  refine cmo (zr0 ad hw t o (hT.below (d.trans (b.mono wX)))) ?_;rintro e V ⟨rfl,g⟩;have y:=b.trans (g.mono sY)
  cases hf:zda (qI r).to q with
  | none =>
   rw[hf] at step;refine brT ?_;have e:zep r=none:=step;rw[e];exact⟨⟨none,0,rfl,OwnS.nil⟩,d.trans (y.mono wX)⟩
  | some a =>
   rw[hf] at step;refine brF ?_;have ha:=zoE hf;have ae:=o a ha;refine⟨⟨by decide,by decide,rfl⟩,zB.enc a,rfl,?_⟩;have aa:Bw V (V.alloc (.cells (zB.enc a).toArray 3)):=zba _ _;have z:Bw Y (V.alloc (.cells (zB.enc a).toArray 3)):=zst g aa;have sa:(V.alloc (.cells (zB.enc a).toArray 3)).heap.size=V.heap.size+1:=wz _ _;have sV:=g.size;refine qQ (E:=zB) (T:=3) (B:=X.heap.size) (l:=l) (news:=[a]) (cap:=c) (m:=1) Tryz.underlying89 k3 rfl rfl rfl (ho.below z) rfl (qq zB a) (by omega) (by omega) (by show(l.length+1)*8<=_;omega) ?_;intro p2 c2 U oU gU ab aj;refine⟨by omega,_,jn (e:=a) (by omega),_,zbK t (zT (by omega)),?_⟩;have ah:=zca t ha;refine⟨(jl q (2^a),l++[a],m,p2,c2),(cvE rfl rfl),⟨⟨step,by show(els (jl q (2^a))).length<=m;omega,by simp only[lap,Qj,QE];omega,zgd t,fun i hi=>?_⟩,oU,?_⟩,zoq t ha⟩
   ·rw[zgv t ha] at hi;exact o i (QI.1 hi).1
   ·exact(b.trans (z.mono sY)).trans ab
 ·have u:(!decide ((q:Int)=0))=false:=u;have h0:q=0:=by
   have h1:decide ((q:Int)=0)=true:=by simpa using u
   exact Uo (dT h1)
  subst h0;have e:zep r=some l:=by
   rw[he]
   cases m <;> rfl
  rw[e];exact⟨⟨p,c,rfl,OwnS.lower ho wX⟩,d.trans (b.mono wX)⟩
theorem zc3(hr:zG r.to)(hT:Tz64M w):CB 159 #[.agg (zd r).toArray] w (.bool (zaZ r)):=by
 refine zC 11 [.agg (zd r).toArray] Tryz.func159 ?_;have d:=zw w (.cells (zd r).toArray 76);have b:Bw w (w.alloc (.cells (zd r).toArray 76)):=zba w _;refine⟨zd r,ze _,za d,hlt d,cmo (zth hr (hT.below b)) ?_⟩;rintro e X ⟨⟨p,c,rfl,_⟩,a⟩;exact⟨rfl,(zst b a)⟩
end
end Go.Proofs.YtakcdebpklffiaaGreatDoor
namespace Go.Vc
open Go.RowKit
theorem KeepsG.more{F G:Nat->Prop}{A B:Wd}{g:Nat}(h:KeepsG G F A B)(hg:G g):KeepsG G (fun k=>F k\/k=g) A B :=
 ⟨h.os,h.tape,h.output,h.size,h.same,fun k a=>a.elim (h.fp k) fun e => .inl (by rw[e];exact hg)⟩
theorem zq6{α:Type}{E:Enc α}{P:Program}{w:Wd}{t T ty B g cap m c:Nat}{a:Addr}{l news:List α}{iT:TI}(hu:P.underlying t=some (.slice T))(hT:TIok P T iT)(hs:iT.size=E.sz)
  (ho:OwnS E T B w (some ⟨g,0,none⟩) cap l) (hm:news.length=m) (hn:zF w a (news.flatMap E.enc)) (hroom:l.length+m<=cap) {K:Value->Wd->Prop}
  (k:∀w',OwnS E T B w' (some ⟨g,0,none⟩) cap (l++news)->w.grownBy w' (some g)->K (.slice (some ⟨g,0,none⟩) (l++news).length cap) w') :
  SatR ((Builtin.append_ #[t,t] ty #[.slice (some ⟨g,0,none⟩) l.length cap,.slice (some a) m c]).run P w) K:=by
 obtain⟨⟨e,h,d,_,_⟩,_⟩:=hT;obtain⟨w',j,b,n⟩:=run_append_fits (P:=P) w B t ty T e E.sz hu h (d.trans hs) g l.length cap (l.flatMap E.enc) ho a m c (news.flatMap E.enc) (by rw[zU,hm]) hn (zgo news) hroom;refine SatR.mk j ?_;have f:l.length+m=(l++news).length:=by simp[hm]
 have i:l.flatMap E.enc++news.flatMap E.enc=(l++news).flatMap E.enc:=by rw[Kb]
 rw[f,i] at b;rw[f];exact k w' b n
theorem OwnS.pref{α:Type}{E:Enc α}{T B cap g:Nat}{w:Wd}{l m:List α}(h:OwnS E T B w (some ⟨g,0,none⟩) cap (l++m)):OwnS E T B w (some ⟨g,0,none⟩) cap l:=by
 rcases h.inv with⟨h,_⟩ | ⟨k,a,b,i,j,c,d,e,f⟩
 ·cases h
 ·simp only[KS,Uj,UX] at b;subst b;unfold OwnS World.ownsRow;refine⟨by rw[zU],.inr ⟨g,cap,a,rfl,i,j,by rw[lap] at c;omega,d,e,?_⟩⟩;have:=UY (List.take (l.length*E.sz)) f;rw[List.take_take,Kb,QM (zU l)] at this;rw[<- this];congr 1;rw[lap,UM];omega
theorem zx{α:Type}{E:Enc α}{T B c:Nat}{Y:Wd}{q:OA}{l:List α}(h:OwnS E T B Y q c l){a:Addr}(ha:q=some a):B<=a.block/\a.block<Y.heap.size/\∃cur,Y.heap[a.block]?=some (.cells cur T (0,0)):=by
 rcases h.inv with⟨b,_⟩ | ⟨g,cur,b,e,d,_⟩
 ·rw[b] at ha;cases ha
 ·rw[b] at ha;cases ha;exact⟨e,hlt d,cur,d⟩
structure Gath {α:Type} (E:Enc α) (T TS B n0 L:Nat) (W:Wd) (NIn:(Nat->Prop)->Wd->α->Prop) (xs:List α) (F:Nat->Prop) (Y:Wd):Prop where
 size:n0<=Y.heap.size
 inL:F L
 lt:∀k,F k->k<Y.heap.size
 row:∃(p:OA) (c:Nat),Y.heap[L]?=some (.cells [.slice p xs.length c].toArray TS (0,0))/\OwnS E T B Y p c xs/\∀a,p=some a->F a.block
 nest:∀x∈xs,NIn F Y x
 old:Below B W Y
def zhD {α:Type} (T TS:Nat) (NIn:(Nat->Prop)->Wd->α->Prop):Prop :=
 ∀(F G:Nat->Prop) (Y Z:Wd) (x:α),NIn F Y x->(∀k cur T',F k->Y.heap[k]?=some (.cells cur T' (0,0))->T'≠T->T'≠TS->Z.heap[k]?=Y.heap[k]?)->(∀k,F k->G k)->NIn G Z x
theorem Gath.iter{α σ:Type}{E:Enc α}{T TS B n0 L:Nat}{W:Wd}{NIn:(Nat->Prop)->Wd->α->Prop}{f:σ->List α->Prop}(hN:zhD T TS NIn)(hB:B<=n0) :
  JG n0 (fun _=>False) (fun(s:σ) F Y=>∃xs,f s xs/\Gath E T TS B n0 L W NIn xs F Y):=by
 refine⟨?_,?_⟩
 ·rintro s F A C ⟨xs,o,h⟩ d;have g:∀k,F k->k<A.heap.size->C.heap[k]?=A.heap[k]?:=fun k b j=>d.same k j (.inr b);obtain⟨p,c,n,m,e⟩:=h.row;exact⟨xs,o,UC h.size d.size,h.inL,fun k b=>nL (h.lt k b) d.size,⟨p,c,(g L h.inL (h.lt L h.inL)).trans n,m.same fun a i=>g _ (e a i) (h.lt _ (e a i)),e⟩,
   fun x l=>hN F F A C x (h.nest x l) (fun k _ _ b _ _ _=>g k b (h.lt k b)) fun k h=>h,h.old.trans ⟨d.os,d.tape,d.output,d.size,fun k b=>d.same k (nL (nL b hB) h.size) (.inl ⟨by omega,fun h=>h⟩)⟩⟩
 ·rintro s F A k ⟨xs,_,h⟩ b;exact⟨h.lt k b,fun h=>h⟩
theorem Gath.stepX{α:Type}{E:Enc α}{P:Program}{T TS B n0 L ty cap1:Nat}{W Y2 Y3:Wd}{NIn:(Nat->Prop)->Wd->α->Prop}{xs:List α}{F:Nat->Prop}{iT iS:TI}{z:List Value}(hN:zhD T TS NIn)(hne:T≠TS)
  (hu:P.underlying TS=some (.slice T)) (hT:TIok P T iT) (hz:iT.zero=some z) (hs:iT.size=E.sz) (hzl:z.length=E.sz) (hS:TIok P TS iS) (hS1:iS.size=1)
  (h:Gath E T TS B n0 L W NIn xs F Y2) (hB:B<=n0) (hL:B<=L) (hb3:Bw Y2 Y3) (nx:α) (hl:xs.length+1<=4611686018427387904) (hby:(xs.length+1)*iT.bytes<=140737488355328)
  (zw:∀(G:Nat->Prop) (Z:Wd),(∀k,Y2.heap.size<=k->k<Y3.heap.size->Z.heap[k]?=Y3.heap[k]?)->(∀k,Y2.heap.size<=k->k<Y3.heap.size->G k)->(∀k cur T',F k->Y2.heap[k]?=some (.cells cur T' (0,0))->T'≠T->T'≠TS->Z.heap[k]?=Y2.heap[k]?)->(∀k,F k->G k)->NIn G Z nx) :
  ∀p c,Y2.heap[L]?=some (.cells [.slice p xs.length c].toArray TS (0,0)) ->
  ∃v Y5,(Builtin.append_ #[TS,TS] ty #[.slice p xs.length c,.slice (some ⟨Y3.heap.size,0,none⟩) 1 cap1]).run P (Y3.alloc (.cells (E.enc nx).toArray T)) = .ok v Y5 /\
   ∃Z,(storeVar TS ⟨L,0,none⟩ v).run P Y5 = .ok () Z/\∃F',Gath E T TS B n0 L W NIn (xs++[nx]) F' Z/\KeepsG F F' Y2 Z/\∀k,F k->F' k:=by
 intro p c h4;obtain⟨p',c',j,h5,h6⟩:=h.row;rw[h4] at j;simp at j;obtain⟨rfl,rfl⟩:=j;have h1:=h.size;have h2:=h.inL;have h3:=h.lt;have ad:Bw Y3 (Y3.alloc (.cells (E.enc nx).toArray T)):=zba _ _;have sa:(Y3.alloc (.cells (E.enc nx).toArray T)).heap.size=Y3.heap.size+1:=wz _ _;have s3:Y2.heap.size<=Y3.heap.size:=hb3.size;have d:Bw Y2 (Y3.alloc (.cells (E.enc nx).toArray T)):=hb3.trans (ad.mono s3);have ai:SatR ((Builtin.append_ #[TS,TS] ty #[.slice p xs.length c,.slice (some ⟨Y3.heap.size,0,none⟩) 1 cap1]).run P (Y3.alloc (.cells (E.enc nx).toArray T))) fun v Y5=>∃r s,v = .slice r (xs++[nx]).length s/\OwnS E T B Y5 r s (xs++[nx])/\(Y3.alloc (.cells (E.enc nx).toArray T)).grownBy Y5 (Value.slice p xs.length c).ownBlock/\∀a,r=some a->p=some a\/a.block=(Y3.alloc (.cells (E.enc nx).toArray T)).heap.size :=
  qQ (E:=E) (T:=T) (B:=B) (l:=xs) (news:=[nx]) (cap:=c) (m:=1) hu hT hz hs hzl (h5.below d) rfl (by
   have:=zhA (w:=Y3) (cs:=(E.enc nx).toArray) (t:=T);simpa using this) (by omega) (by omega) hby fun r s Y5 o5 n al aa=>⟨r,s,rfl,o5,n,aa⟩
 obtain⟨v,Y5,ag,r,s,rfl,o5,n,aa⟩:=ai;have pb:∀{k:Nat},(Value.slice p xs.length c).ownBlock=some k->∃a,p=some a/\a.block=k:=fun{k} e=>by
  cases x:p with
  | none=>rw [x] at e;simp [Value.ownBlock] at e
  | some a =>
   rw[x] at e;simp only[Value.ownBlock,KS] at e;exact⟨a,rfl,e⟩
 have j:Y5.heap[L]?=some (.cells [.slice p xs.length c].toArray TS (0,0)):=by
  refine(n.block L (hlt (zb d h4)) fun e=>?_).trans (zb d h4);obtain⟨a,x,e⟩:=pb e.symm;obtain⟨_,_,cur,b⟩:=zx h5 x;rw[e,h4] at b;simp at b;exact hne b.2.symm
 have ah:SatR ((storeVar TS ⟨L,0,none⟩ (.slice r (xs++[nx]).length s)).run P Y5) fun _ Z=>Z.heap[L]?=some (.cells [.slice r (xs++[nx]).length s].toArray TS (0,0))/\Y5.grownBy Z (some L)/\Z.heap.size=Y5.heap.size :=
  zn hS j (o:=0) (v := .slice r (xs++[nx]).length s) rfl hS1 (by show 0<1;decide) rfl fun Z fZ q sZ=>⟨fZ,q,sZ⟩
 obtain⟨u,Z,ab,fZ,q,sZ⟩:=ah;have s5:=n.size;refine⟨_,Y5,ag,Z,ab,fun k=>F k\/(Y2.heap.size<=k/\k<Z.heap.size),?_⟩;have wr:∀k,k<Y2.heap.size->k≠L->(∀a,p=some a->k≠a.block)->Z.heap[k]?=Y2.heap[k]?:=fun k f hne aj=>by
  refine(q.block k (by omega) (by simpa using hne)).trans ((n.block k (by omega) fun e=>?_).trans (d.block k f));obtain⟨a,x,e⟩:=pb e.symm;exact aj a x e.symm
 have new:∀k,Y2.heap.size<=k->k<Y3.heap.size->Z.heap[k]?=Y3.heap[k]?:=fun k ae ac=>by
  have am:=h3 L h2;refine(q.block k (by omega) (by simp;omega)).trans ((n.block k (by omega) fun e=>?_).trans (ad.block k ac));obtain⟨a,x,e⟩:=pb e.symm;have:=h3 _ (h6 a x);omega
 have af:∀k cur T',F k->Y2.heap[k]?=some (.cells cur T' (0,0))->T'≠T->T'≠TS->Z.heap[k]?=Y2.heap[k]?:=fun k cur T' f hc t1 t2=>by
  refine wr k (h3 k f) (fun e=>?_) fun a ha e=>?_
  ·rw[e,h4] at hc;simp at hc;exact t2 hc.2.symm
  ·obtain⟨_,_,ak,i⟩:=zx h5 ha;rw[<- e,hc] at i;simp at i;exact t1 i.2
 refine⟨⟨by omega,.inl h2,fun k f=>?_,⟨r,s,fZ,o5.kept q fun g hg e=>?_,fun a ha=>?_⟩,fun y hy=>?_,?_⟩,⟨q.os.trans (n.os.trans d.os),q.tape.trans (n.tape.trans d.tape),q.output.trans (n.output.trans d.output),by omega,fun k f hf=>wr k f (fun e=>hf (by rw[e];exact h2)) (fun a ha e=>hf (by rw[e];exact h6 a ha)),fun k f=>f.imp id fun h=>h.1⟩,fun k f => .inl f⟩
 ·rcases f with f | f
  ·have:=h3 k f;omega
  ·exact f.2
 ·obtain⟨_,_,cur,b⟩:=zx o5 hg;simp only[KS] at e;have b:Y5.heap[g]?=_:=b;rw[<- e,j] at b;simp at b;exact hne b.2.symm
 ·rcases aa a ha with h | h
  ·exact .inl (h6 a h)
  ·have:=(zx o5 ha).2.1;exact .inr ⟨by omega,by omega⟩
 ·rcases QH.1 hy with hy | hy
  ·exact hN F _ Y2 Z y (h.nest y hy) af fun k f => .inl f
  ·simp only[Kv] at hy;subst hy;exact zw _ Z new (fun k ae ac => .inr ⟨ae,by omega⟩) af fun k f => .inl f
 ·refine h.old.trans ⟨q.os.trans (n.os.trans d.os),q.tape.trans (n.tape.trans d.tape),q.output.trans (n.output.trans d.output),by omega,fun k f=>wr k (by omega) (by omega) fun a ha=>?_⟩;have:=(zx h5 ha).1;omega
theorem Gath.step{α:Type}{E:Enc α}{P:Program}{T TS B n0 L ty cap1:Nat}{W Y2 Y3:Wd}{NIn:(Nat->Prop)->Wd->α->Prop}{xs:List α}{F:Nat->Prop}{iT iS:TI}{z:List Value}(hN:zhD T TS NIn)(hne:T≠TS)
  (hu:P.underlying TS=some (.slice T)) (hT:TIok P T iT) (hz:iT.zero=some z) (hs:iT.size=E.sz) (hzl:z.length=E.sz) (hS:TIok P TS iS) (hS1:iS.size=1)
  (h:Gath E T TS B n0 L W NIn xs F Y2) (hB:B<=n0) (hL:B<=L) (hb3:Bw Y2 Y3) (nx:α) (hl:xs.length+1<=4611686018427387904) (hby:(xs.length+1)*iT.bytes<=140737488355328)
  (zw:∀(G:Nat->Prop) (Z:Wd),(∀k,Y2.heap.size<=k->k<Y3.heap.size->Z.heap[k]?=Y3.heap[k]?)->(∀k,Y2.heap.size<=k->k<Y3.heap.size->G k)->NIn G Z nx) :
  ∀p c,Y2.heap[L]?=some (.cells [.slice p xs.length c].toArray TS (0,0)) ->
  ∃v Y5,(Builtin.append_ #[TS,TS] ty #[.slice p xs.length c,.slice (some ⟨Y3.heap.size,0,none⟩) 1 cap1]).run P (Y3.alloc (.cells (E.enc nx).toArray T)) = .ok v Y5 /\
   ∃Z,(storeVar TS ⟨L,0,none⟩ v).run P Y5 = .ok () Z/\∃F',Gath E T TS B n0 L W NIn (xs++[nx]) F' Z/\KeepsG F F' Y2 Z/\∀k,F k->F' k :=
 h.stepX hN hne hu hT hz hs hzl hS hS1 hB hL hb3 nx hl hby fun G Z b a _ _=>zw G Z b a
end Go.Vc
namespace Go.Proofs.YtakcdebpklffiaaGreatDoor
open Go.Vc Go.RowKit Go.Sei
abbrev zQ (X:Wd) (b:Nat) (r:RelD):Prop:=X.heap[b]?=some (.cells (zd r).toArray 76 (0,0))
def StO (pre:List (List Nat)) (vs:List Value) (W:Wd):Prop:=∃l q c,pre.getLast?=some l/\vs=[.slice q l.length c]/\SlR zB W q l/\(q=none->c=0)/\∀a,q=some a->∃cur,W.heap[a.block]?=some (.cells cur 3 (0,0))
section
variable{yl n0 n bB:Nat}{J Jx:List (List Nat)->(Nat->Prop)->Wd->Prop}{xs:List (List Nat)}{r:RelD}
theorem zoL(hJ:JG n0 (fun _=>False) J)(hn0:∀pre F X,J pre F X->n0<=X.heap.size)(hy:∀pre x vs F W1,J pre F W1->StO (pre++[x]) vs W1->(pre++[x]) <+: xs->YieldR PG yl vs.toArray W1 fun v W2=>(v = .bool true/\∃F',J (pre++[x]) F' W2/\KeepsG F F' W1 W2)\/(v = .bool false/\∃F',Jx (pre++[x]) F' W2))(hr:zG r.to)(hn:n<=48)(ht0:7<n0) :
  ∀(m left:Nat) (l:List Nat) (g:Nat) (pre:List (List Nat)) (F:Nat->Prop) (X:Wd),(els left).length<=m->left<2^64->(∀i∈els left,i<48)->l.length+(els left).length<=n->OwnS zB 3 n0 X (some ⟨g,0,none⟩) n l->¬F g->J pre F X->zQ X bB r->¬F bB->n0<=bB->bB≠g->Tz64M X->¬F 7->(pre++zbS r.to m left l) <+: xs ->
   Calls PG 271 #[At0 bB,s64 left,.slice (some ⟨g,0,none⟩) l.length n,.func (.yield yl) #[] #[]] X fun e Y =>
    (e = .returned (.bool true)/\∃F',J (pre++zbS r.to m left l) F' Y/\KeepsG (fun k=>F k\/k=g) F' X Y/\OwnS zB 3 n0 Y (some ⟨g,0,none⟩) n l/\¬F' g)\/(e = .returned (.bool false)/\∃pre' F',pre' <+: xs/\Jx pre' F' Y):=by
 intro m
 induction m with
 | zero =>
  intro left l g pre F X hm c al bd ho w hj hR aq aw ae hT au d;have h0:left=0:=by
   apply Jl;intro h0;rw[(jg h0 c).1] at hm;simp at hm
  subst h0;refine zC 56 [At0 bB,s64 0,.slice (some ⟨g,0,none⟩) l.length n,.func (.yield yl) #[] #[]] Tryz.func271 ?_;refine brT ?_;have hs:zbS r.to 0 0 l=[l]:=rfl;rw[hs] at d ⊢;refine YieldR.mono (hy pre l [.slice (some ⟨g,0,none⟩) l.length n] F X hj ⟨l,_,n,by simp,rfl,ho.row,fun h=>(by cases h),fun a ha=>(zx ho ha).2.2⟩ d) ?_;rintro v Z (⟨rfl,F',o,j⟩ | ⟨rfl,F',o⟩)
  ·have an:g<X.heap.size:=(zx ho rfl).2.1;exact .inl ⟨rfl,F',o,j.weak fun k h => .inl h,ho.same fun a ha=>by cases ha;exact j.same g an w,fun h=>by
    rcases j.fp g h with h | h
    ·exact w h
    ·omega⟩
  ·exact .inr ⟨rfl,_,F',d,o⟩
 | succ m ih =>
  intro left l g pre F X hm c al bd ho w hj hR aq aw ae hT au d;refine zC 56 [At0 bB,s64 left,.slice (some ⟨g,0,none⟩) l.length n,.func (.yield yl) #[] #[]] Tryz.func271 ?_;have an:g<X.heap.size:=(zx ho rfl).2.1;have be:n0<=g:=(zx ho rfl).1;refine biE (fun h=>?_) fun h=>?_
  ·have h:left=0:=Uo (dT h);subst h;have hs:zbS r.to (m+1) 0 l=[l]:=rfl;rw[hs] at d ⊢;refine YieldR.mono (hy pre l [.slice (some ⟨g,0,none⟩) l.length n] F X hj ⟨l,_,n,by simp,rfl,ho.row,fun h=>(by cases h),fun a ha=>(zx ho ha).2.2⟩ d) ?_;rintro v Z (⟨rfl,F',o,j⟩ | ⟨rfl,F',o⟩)
   ·exact .inl ⟨rfl,F',o,j.weak fun k h => .inl h,ho.same fun a ha=>by cases ha;exact j.same g an w,fun h=>by
    rcases j.fp g h with h | h
    ·exact w h
    ·omega⟩
   ·exact .inr ⟨rfl,_,F',d,o⟩
  have h:left≠0:=fun e=>(dF h) (by rw[e];rfl);obtain⟨G,hG⟩:∃G:Nat->List (List Nat),G=fun a=>if r.to a&&&left=0 then zbS r.to m (zaT left (2^a)) (l++[a]) else[]:=⟨_,rfl⟩
  have hs:zbS r.to (m+1) left l=(els left).flatMap G:=by
   rw[hG];show(if left=0 then[l] else _)=_;rw[Gc h]
  rw[hs] at d ⊢;refine cmo (zas c hT) ?_;rintro e X1 ⟨rfl,z⟩;refine⟨Nat×List Nat×(Nat->Prop),fun s=>⟨[(0,At0 bB),(1,s64 left),(2,.slice (some ⟨g,0,none⟩) l.length n),(3,.func (.yield yl) #[] #[]),(9,s64 s.1),(10,i64 ((els s.1).headD 0:Nat)),(11,.bool (!(els s.1).isEmpty))],[]⟩,
   fun s Z=>(els left=s.2.1++els s.1/\s.1<2^64)/\J (pre++s.2.1.flatMap G) s.2.2 Z/\OwnS zB 3 n0 Z (some ⟨g,0,none⟩) n l/\¬s.2.2 g/\zQ Z bB r/\¬s.2.2 bB/\Tz64M Z/\¬s.2.2 7/\KeepsG (fun k=>F k\/k=g) s.2.2 X Z,fun s=>s.1,(left,[],F),
   (cvE rfl rfl),⟨⟨rfl,c⟩,by show J (pre++[]) F X1;rw[QA];exact hJ.step _ _ _ _ hj (.below z),ho.below z,w,zb z hR,aq,hT.below z,au,KeepsG.below z fun k h => .inl (.inl h)⟩,?_⟩
  rintro⟨q,f,F1⟩ Z ⟨⟨he,hq⟩,aa,ao,ac,ag,ab,ah,ad,kZ⟩;dsimp only at he hq aa ac ab ad kZ ⊢;have bl:=hn0 _ _ _ aa;refine biE (fun hc=>?_) fun hc=>?_
  ·have h0:=zef hq hc;obtain⟨e1,e2,_,e3⟩:=jg h0 hq;have hd:=(zbf h0 hq).1;have y:ctz q∈els left:=by rw[he,e1];simp
   have af:ctz q<48:=al _ y;rw[e1] at he;have av:∀t,(f++[ctz q]).flatMap t=f.flatMap t++t (ctz q):=fun t:Nat->List (List Nat)=>by
    rw[Kb,KK,Qg,QA]
   have next:∀{Y:Wd} {F2:Nat->Prop},J (pre++(f++[ctz q]).flatMap G) F2 Y->OwnS zB 3 n0 Y (some ⟨g,0,none⟩) n l->¬F2 g->zQ Y bB r->¬F2 bB->Tz64M Y->¬F2 7->KeepsG (fun k=>F k\/k=g) F2 X Y ->
     ∀Y2,Bw Y Y2->((els left=(f++[ctz q])++els (qA q)/\qA q<2^64)/\J (pre++(f++[ctz q]).flatMap G) F2 Y2/\OwnS zB 3 n0 Y2 (some ⟨g,0,none⟩) n l/\¬F2 g/\zQ Y2 bB r/\¬F2 bB/\Tz64M Y2/\¬F2 7/\KeepsG (fun k=>F k\/k=g) F2 X Y2) :=
    fun{Y F2} a1 a2 a3 a4 a5 a6 a7 a8 Y2 p=>⟨⟨by rw[he];simp,by omega⟩,hJ.step _ _ _ _ a1 (.below p),a2.below p,a3,zb p a4,a5,a6.below p,a7,a8.trans (KeepsG.below p fun k h => .inl h)⟩
   refine DrawE.ord [18,20] [0,1,2,3,4,5,6,7,8,9,10,11,12,13,14,15,16,19,17,18,20,21,22] (by kernel_rfl) ?_;have am:Bw Z Z.drew:=(UR _ _).drew;refine⟨ctz q,UY Nat.cast hd.symm,af,_,j6 (hdr ag) af,_,jo (hr _ af) c,biE (fun p=>?_) fun p=>?_⟩
   ·have p:r.to (ctz q)&&&left=0:=Uo (dT p);have aj:G (ctz q)=zbS r.to m (zaT left (2^ctz q)) (l++[ctz q]):=(by rw[hG];exact Gd p);refine⟨by omega,((2^ctz q:Nat):Int),by rw[hd];exact jn (e:=ctz q) (by omega),_,zbK c (zT (by omega)),⟨by decide,by decide,rfl⟩,zB.enc (ctz q),by rw[hd];rfl,?_⟩;have ap:Below Z.drew.heap.size Z.drew (Z.drew.alloc (.cells (zB.enc (ctz q)).toArray 3)):=zba _ _;refine⟨ap,?_⟩;have u:Bw Z (Z.drew.alloc (.cells (zB.enc (ctz q)).toArray 3)):=am.trans ap;have bj:=zca c y;refine zq6 (E:=zB) (l:=l) (news:=[ctz q]) (m:=1) Tryz.underlying89 k3 rfl (ao.below u) rfl (qq zB (ctz q)) (by
     have:1<=(els left).length:=(by rw[he];simp;omega);omega) ?_
    intro Y oY gY;have bh:=hJ.step _ _ _ _ (hJ.step _ _ _ _ aa (.below u)) (StepG.grown gY (.inl be) ac);have sA:(Z.drew.alloc (.cells (zB.enc (ctz q)).toArray 3)).heap.size=Z.heap.size+1:=wz _ _;have ai:zQ Y bB r:=(gY.block bB (hlt (zb u ag)) (by simpa using ae)).trans (zb u ag);have bk:=zal ah;have ax:Tz64M Y:=jJ (ah.below u) (gY.block _ (by omega) (by
     intro e;have:7=g:=(by simpa using e);omega))
    have ak:((pre++f.flatMap G)++zbS r.to m (zaT left (2^ctz q)) (l++[ctz q])) <+: xs:=by
     refine List.IsPrefix.trans ?_ d;rw[he,<- aj,Kb,KK];exact⟨(els (qA q)).flatMap G,by simp only[KH]⟩
    refine cmo (ih (jl left (2^ctz q)) (l++[ctz q]) g (pre++f.flatMap G) F1 Y (by omega) (zgd c) (fun i hi=>by
     rw[zgv c y] at hi;exact al i (QI.1 hi).1) (by simp only[lap,Qj,QE];omega) oY ac bh ai ab aw ae ax ad ak) ?_
    rintro e V (⟨rfl,F2,ba,kV,oV,a9⟩ | ⟨rfl,pre',F2,bf,ay⟩)
    ·refine brF ?_;have bb:KeepsG (fun k=>F1 k\/k=g) (fun k=>F1 k\/k=g) Z Y:=(KeepsG.below u fun k h => .inl h).trans (KeepsG.grown gY (.inr rfl));have kW:KeepsG (fun k=>F k\/k=g) F2 X V:=((kZ.more (.inr rfl)).trans bb).trans kV;have sY:=gY.size;have bm:=kV.size;have bg:¬F2 bB:=fun h=>by
      have:=hlt ai;rcases kV.fp bB h with(h | h) | h
      ·exact ab h
      ·exact ae h
      ·omega
     have bi:¬F2 7:=fun h=>by
      rcases kV.fp _ h with(h | h) | h
      ·exact ad h
      ·omega
      ·omega
     have a0:zQ V bB r:=(kV.same bB (hlt ai) (fun h=>h.elim ab ae)).trans ai;have ar:Tz64M V:=jJ ax (kV.same _ (by omega) (fun h=>h.elim ad fun e=>by omega));refine⟨((q-1:Nat):Int),(w64 (a:=(q:Int)-1) (by omega)).trans (by omega),((qA q:Nat):Int),jo (a:=q) (b:=q-1) hq (by omega),cmo (zas (s:=qA q) (by omega) ar) ?_⟩;rintro e U ⟨rfl,bc⟩;exact⟨(qA q,f++[ctz q],F2),(cvE rfl rfl),next (by rw[av,aj,<- KH];exact ba) oV.pref a9 a0 bg ar bi kW U bc,e2⟩
    ·exact brT (.inr ⟨rfl,pre',F2,bf,ay⟩)
   ·have p:¬r.to (ctz q)&&&left=0:=fun e=>(dF p) (by rw[e];rfl);have aj:G (ctz q)=[]:=(by rw[hG];exact Gc p);refine brF ⟨((q-1:Nat):Int),(w64 (a:=(q:Int)-1) (by omega)).trans (by omega),((qA q:Nat):Int),jo (a:=q) (b:=q-1) hq (by omega),cmo (zas (s:=qA q) (by omega) (ah.below am)) ?_⟩;rintro e Y ⟨rfl,az⟩;exact⟨(qA q,f++[ctz q],F1),(cvE rfl rfl),next (by rw[av,aj,QA];exact aa) ao ac ag ab ah ad kZ Y (am.trans az),e2⟩
  ·have hc:(els q).isEmpty=true:=by simpa using hc
   have:=zft hq hc;subst this;rw[zbg,QA] at he;rw[he];exact .inl ⟨rfl,F1,aa,kZ,ao,ac⟩
end
section
variable{r:RelD}
theorem ztg{bx:Nat}{W0:Wd}(hr:zG r.to)(hn:r.n<=48)(fx:zQ W0 bx r)(hT:Tz64M W0) :
  zhE PG 270 [At0 bx] (zcj r) W0 (fun k=>k=bx\/k=7) (fun _=>False) StO:=by
 intro yl F0 J Jx W an ab al u ao hy h0;have f:zQ W bx r:=(ab bx (.inl (.inl rfl))).trans fx;have g:Tz64M W:=jJ hT (ab _ (.inl (.inr rfl)));refine zC 17 [.func (.yield yl) #[] #[],At0 bx] Tryz.func270 ?_;refine⟨zd r,ze _,za f,hlt f,cmo (zc3 hr g) ?_⟩;rintro e X ⟨rfl,d⟩;refine biE (fun h=>?_) fun h=>?_
 ·have h:zaZ r=false:=by
   have h:(!zaZ r)=true:=h;simpa using h
  have t:zcj r=[]:=by unfold zcj;rw[h];rfl
  rw[t];exact⟨⟨_,rfl⟩,.inl ⟨F0,u.step _ _ _ _ h0 (.below d)⟩⟩
 have h:zaZ r=true:=by
  have h:(!zaZ r)=false:=h;simpa using h
 have t:zcj r=zbS (qI r).to 64 (zcl r.n) []:=by unfold zcj;rw[h];rfl
 rw[t] at hy ⊢;refine⟨zd r,ze _,za (zb d f),hlt (zb d f),cmo (zgL hr (g.below d)) ?_⟩;rintro e Y ⟨rfl,ak,aj⟩;have m:=zst d ak;refine zr (X:=Y) (v := .agg (zd (qI r)).toArray) k76 (ze _) (by kernel_rfl) (zD _) fun V af fV sV=>?_;have c:=zst m af;have z:=zb c f;have ah:=g.below c;have ae:okR r=true:=by
  unfold zaZ zep at h
  split at h
  ·assumption
  ·simp at h
 obtain⟨p0,ap,_⟩:=qJ ae;obtain⟨n,q⟩:∃n:Nat,r.n=n:=⟨r.n.toNat,by omega⟩;have ad:n<=48:=by omega
 have aa:els (zaf n)=List.range n:=zij (by omega);have wY:=m.size;have y:¬F0 Y.heap.size:=fun h=>by have:=(u.lt _ _ _ _ h0 h).1;omega
 have am:=zal g;have ai:JG W.heap.size (fun _=>False) (fun b F Z=>J b F Z/\W.heap.size<=Z.heap.size):=⟨fun s F A B ⟨h,hn⟩ t=>⟨u.step _ _ _ _ h t,UC hn t.size⟩,fun s F A k ⟨h,_⟩ hk=>u.lt _ _ _ _ h hk⟩;have p:zcl r.n=zaf n:=by rw[zel,q]
 have j:∀Z:Wd,OwnS zB 3 V.heap.size Z (some ⟨V.heap.size,0,none⟩) n []->Bw V Z->Calls PG 271 #[At0 Y.heap.size,s64 (zaf n),.slice (some ⟨V.heap.size,0,none⟩) 0 n,.func (.yield yl) #[] #[]] Z fun e Y2=>(∃v,e = .returned v)/\((∃F',J (zbS (qI r).to 64 (zcl r.n) []) F' Y2)\/∃b F',b <+: zbS (qI r).to 64 (zcl r.n) []/\Jx b F' Y2):=by
  intro Z oZ a;have o:Bw W Z:=zst c a;refine cmo (zoL (l:=[]) (J:=fun b F Z=>J b F Z/\W.heap.size<=Z.heap.size) (Jx:=Jx) (n0:=W.heap.size) (n:=n) (bB:=Y.heap.size) (r:=qI r) (xs:=zbS (qI r).to 64 (zcl r.n) []) ai (fun _ _ _ h=>h.2) (fun b x vs F W1 ⟨hj,hn⟩ ag w=>YieldR.mono (hy b x vs F W1 hj ag w) fun v W2 h=>?_) aj ad am 64 (zaf n) V.heap.size [] F0 Z (zee _) (zaY _) (fun i hi=>by
   rw[aa] at hi;have:=Ue.1 hi;omega) (by rw[aa];simp) (oZ.lower c.size) (fun h=>?_) ⟨u.step _ _ _ _ h0 (.below o),o.size⟩ (zb a fV) y wY (by omega) (ah.below a) (al _ (.inr rfl)) (by rw[p];exact List.prefix_refl _)) ?_
  ·rcases h with⟨rfl,F',h1,h2⟩ | h
   ·exact .inl ⟨rfl,F',⟨h1,UC hn h2.size⟩,h2⟩
   ·exact .inr h
  ·have:=(u.lt _ _ _ _ h0 h).1;have:=c.size;omega
  ·rintro e Y2 (⟨rfl,F',⟨hj,_⟩,_⟩ | ⟨rfl,ac,F',h1,h2⟩)
   ·rw[p];exact⟨⟨_,rfl⟩,.inl ⟨F',hj⟩⟩
   ·exact⟨⟨_,rfl⟩,.inr ⟨ac,F',h1,h2⟩⟩
 refine DrawE.treeQ [7] (.op 0 (.op 1 (.op 3 (.op 4 (.op 6 (.alt (.op 2 (.op 5 (.op 7 .nil))) (.op 5 (.op 2 (.op 7 .nil))))))))) (by kernel_rfl) ⟨i64 n,by rw[<- q];exact zc (za z) (i:=0) rfl,i64 n,by rw[<- q];exact zc (za z) (i:=0) rfl,UV ?_ ?_⟩
 ·refine cmo zhG ?_;rintro e _ ⟨rfl,rfl⟩;refine⟨UR _ _,zcC (E:=zB) Tryz.underlying89 k3 rfl rfl rfl n (by show 8*n<=_;omega) (by unfold maxLen;omega) fun Z oZ a sZ=>⟨a,cmo (j Z oZ (((UR _ V).drew).trans a)) ?_⟩⟩;rintro e Y2 ⟨⟨v,rfl⟩,h⟩;exact⟨⟨_,rfl⟩,h⟩
 ·refine zcC (E:=zB) Tryz.underlying89 k3 rfl rfl rfl n (by show 8*n<=_;omega) (by unfold maxLen;omega) fun Z oZ a sZ=>⟨a,cmo zhG ?_⟩;rintro e _ ⟨rfl,rfl⟩;refine⟨UR _ _,cmo (j Z oZ (((UR _ V).drew).trans a)) ?_⟩;rintro e Y2 ⟨⟨v,rfl⟩,h⟩;exact⟨⟨_,rfl⟩,h⟩
theorem zsB{w:Wd}:Calls PG 197 #[.agg (zd r).toArray] w fun e w'=>e = .returned (.func (.func 270) #[] #[At0 w.heap.size])/\zQ w' w.heap.size r/\w'.heap.size=w.heap.size+1/\Bw w w':=by
 refine zC 4 [.agg (zd r).toArray] Tryz.func197 ?_;exact⟨rfl,zw w _,wz _ _,(zba w _)⟩
theorem znr{b:Nat}{m:Nat}{w:Wd}(hr:zG r.to)(fb:zQ w b r):CB 196 #[At0 b,i64 m] w (.bool (decide (m<=10000)&&okR r)):=by
 refine zC 17 [At0 b,i64 m] Tryz.func196 ?_;refine biE (fun h=>?_) fun h=>?_
 ·refine biE (fun a=>?_) fun a=>?_
  ·have a:(m:Int)<=10000:=dT a;refine⟨zd r,ze _,za fb,hlt fb,cmo (jk hr) ?_⟩;rintro e Y ⟨rfl,c⟩;exact⟨rb (by rw[Uh (show m<=10000 by omega),Un]),c⟩
  ·have a:¬(m:Int)<=10000:=dF a;exact⟨rb (by rw[QX (show ¬m<=10000 by omega),QZ]),UR _ _⟩
 ·have h:¬(0:Int)<=m:=dF h;omega
end
def qF:Enc (List Nat×OA×Nat) where
 sz:=1
 enc x:=[.slice x.2.1 x.1.length x.2.2]
 len x:=rfl
 one x v hv:=by
  simp at hv;subst hv;rfl
 pos:=by decide
theorem zpt{p:OA}{cap:Nat}{l:List Nat}{w:Wd}(hl:SlR zB w p l)(hn:l.length<=100000)(hc:p=none->cap=0) :
  Calls PG 198 #[.slice p l.length cap] w fun e w'=>(∃q c,e = .returned (.slice q l.length c)/\OwnS zB 3 w.heap.size w' q c l)/\Bw w w':=by
 refine zC 8 [.slice p l.length cap] Tryz.func198 ?_;refine⟨_,fun w=>zse Tryz.underlying89 _ _ p l.length cap w,?_⟩
 cases p with
 | none =>
  refine brT ?_;have e:=hl.none;subst e;exact⟨⟨none,0,rfl,OwnS.nil⟩,UR _ _⟩
 | some a =>
  refine brF ⟨⟨by decide,by decide,rfl⟩,[],rfl,?_⟩;have b:Bw w (w.alloc (.cells #[] 3)):=zba w _;refine zej (E:=zB) (T:=3) (B:=w.heap.size) (l:=[]) (news:=l) (cap:=0) Tryz.underlying89 k3 rfl rfl rfl zfY rfl (hl.below b) (fun h=>by cases h) b.size (by simp;omega) (by show(0+l.length)*8<=_;omega) ?_;intro i d w' g j f;exact⟨⟨i,d,rfl,g⟩,b.trans f⟩
def zsF (B:Nat) (F:Nat->Prop) (Y:Wd) (x:List Nat×OA×Nat):Prop:=OwnS zB 3 B Y x.2.1 x.2.2 x.1/\∀a,x.2.1=some a->F a.block
theorem zeB(B:Nat):zhD 89 90 (zsF B):=by
 rintro F G Y Z x ⟨f,e⟩ g d;refine⟨f.same fun a b=>?_,fun a b=>d _ (e a b)⟩;obtain⟨_,_,c,h⟩:=zx f b;exact g _ c 3 (e a b) h (by decide) (by decide)
theorem zqz{before:Nat->Nat}:∀(m left:Nat) (l:List Nat),∀x∈zbS before m left l,x.length<=l.length+m:=by
 intro m
 induction m with
 | zero =>
  intro left l x b;unfold zbS at b
  split at b
  ·simp only[Kv] at b;subst b;omega
  ·cases b
 | succ m ih =>
  intro left l x b;unfold zbS at b
  split at b
  ·simp only[Kv] at b;subst b;omega
  ·obtain⟨a,_,c⟩:=List.mem_flatMap.1 b
   split at c
   ·have:=ih _ _ _ c;simp only[lap,Qj,QE] at this;omega
   ·cases c
theorem zlv{r:RelD}{x:List Nat}(h:x∈zcj r):x.length<=64:=by
 unfold zcj at h
 split at h
 ·have:=zqz _ _ _ x h;simpa using this
 ·cases h
def AscB (xs:List (List Nat×OA×Nat)):Prop:=xs.Pairwise fun x y=>∀a b,x.2.1=some a->y.2.1=some b->a.block<b.block
theorem AscB.snoc{xs:List (List Nat×OA×Nat)}{n:Nat}{y:List Nat×OA×Nat}(h:AscB xs)(h1:∀x∈xs,∀a,x.2.1=some a->a.block<n)(h2:∀a,y.2.1=some a->n<=a.block):AscB (xs++[y]):=by
 unfold AscB;rw[List.pairwise_append];refine⟨h,List.pairwise_singleton _ _,fun x d z f a b e c=>?_⟩;rw[Kv.1 f] at c;exact nL (h1 x d a e) (h2 b c)
abbrev zs3:List (List Nat×OA×Nat):=[]
theorem zpm{r:RelD}{m:Nat}{w:Wd}(hr:zG r.to)(hT:Tz64M w)(hm:m<=10000)(hok:okR r=true) :
  Calls PG 132 #[.agg (zd r).toArray,i64 m] w fun e w' =>
   (((zcj r).length<=m/\∃(xs:List (List Nat×OA×Nat)) (p:OA) (c:Nat),e = .returned (.tuple #[.slice p xs.length c,i64 0])/\xs.map (·.1)=zcj r/\AscB xs/\OwnS qF 89 w.heap.size w' p c xs/\∀x∈xs,OwnS zB 3 w.heap.size w' x.2.1 x.2.2 x.1) \/
    (m<(zcj r).length/\e = .returned (.tuple #[.slice none 0 0,i64 5])))/\Bw w w':=by
 refine qg 24 [.agg (zd r).toArray,i64 m] (.c .p (.s .p (.c .p .p))) Tryz.func132 ?_;obtain⟨L,hL⟩:=nm (w.heap.size);refine⟨Unit,fun _=>⟨[(2,At0 L),(3,At0 (L+1)),(4,At0 (L+2)),(5,At0 (L+3))],[]⟩,fun _ X=>(zQ X L r/\X.heap[L+1]?=some (.cells #[i64 m] 3 (0,0))/\X.heap[L+2]?=some (.cells #[.slice none 0 0] 90 (0,0))/\X.heap[L+3]?=some (.cells #[i64 0] 33 (0,0)))/\X.heap.size=L+4/\Bw w X,?_,?_⟩
 ·have s1:=wz w (.cells (zd r).toArray 76);have h2:=zw (w.alloc (.cells (zd r).toArray 76)) (.cells #[i64 m] 3 (0,0));have s2:=wz (w.alloc (.cells (zd r).toArray 76)) (.cells #[i64 m] 3 (0,0));have h3:=zw ((w.alloc (.cells (zd r).toArray 76)).alloc (.cells #[i64 m] 3 (0,0))) (.cells #[.slice none 0 0] 90 (0,0));have s3:=wz ((w.alloc (.cells (zd r).toArray 76)).alloc (.cells #[i64 m] 3 (0,0))) (.cells #[.slice none 0 0] 90 (0,0));have h4:=zw (((w.alloc (.cells (zd r).toArray 76)).alloc (.cells #[i64 m] 3 (0,0))).alloc (.cells #[.slice none 0 0] 90 (0,0))) (.cells #[i64 0] 33 (0,0));have s4:=wz (((w.alloc (.cells (zd r).toArray 76)).alloc (.cells #[i64 m] 3 (0,0))).alloc (.cells #[.slice none 0 0] 90 (0,0))) (.cells #[i64 0] 33 (0,0));rw[s1] at h2 s2;rw[s2] at h3 s3;rw[s3] at h4 s4;rw[<- hL] at h2 s2 h3 s3 h4 s4;have f0:=z6 (.cells #[i64 0] 33 (0,0)) (z6 (.cells #[.slice none 0 0] 90 (0,0)) (z6 (.cells #[i64 m] 3 (0,0)) (zw w (.cells (zd r).toArray 76))));rw[<- hL] at f0;refine⟨(),⟨.cons (by rw[hL];rfl) (.cons (by rw[hL,<- s1];rfl) (.cons (by rw[<- s2];rfl) (.cons (by rw[<- s3];rfl) .nil))),rfl⟩,⟨f0,z6 _ (z6 _ h2),z6 _ h3,h4⟩,s4,?_⟩;exact((((zba w _)).alloc (by simp) _).alloc (by simp;omega) _).alloc (by simp;omega) _
 rintro _ X ⟨⟨f0,f1,f2,f3⟩,sX,ar⟩;refine⟨_,zc (za f1) (i:=0) rfl,cmo (znr hr f0) ?_⟩;rintro e Y ⟨rfl,ad⟩;refine brN (by rw[hok,Uh hm];rfl) ?_;have g:=zst ar ad;obtain⟨M,hM⟩:=nm (Y.heap.size);have bv:L+4<=M:=by have:=ad.size;omega
 refine⟨Unit,fun _=>⟨[(2,At0 L),(3,At0 (L+1)),(4,At0 (L+2)),(5,At0 (L+3)),(6,At0 M)],[]⟩,fun _ V=>V.heap[M]?=some (.cells #[.slice none 0 0] 90 (0,0))/\V.heap.size=M+1/\Bw X V,?_,?_⟩
 ·exact⟨(),⟨.cons rfl (.cons rfl (.cons rfl (.cons rfl (.cons (by rw[hM];rfl) .nil)))),rfl⟩,by rw[hM];exact zw Y _,by rw[hM];exact wz Y _,ad.alloc ad.size _⟩
 rintro _ V ⟨fM,sV,ac⟩;have bg:=zst ar ac;have f0:=zb ac f0;have f1:=zb ac f1;have f2:=zb ac f2;have f3:=zb ac f3;refine⟨zd r,ze _,za f0,hlt f0,cmo zsB ?_⟩;rintro e W ⟨rfl,fx,sW,ai⟩;obtain⟨p0,bl,_⟩:=qJ hok;have ag:=zst bg ai;have bx:=zal hT;have hI:=ztg hr bl fx (hT.below ag);have f1:=zb ai f1;have f2:=zb ai f2;have f3:=zb ai f3;have fM:=zb ai fM;have bq:w.heap.size=L:=hL.symm;clear ac ad g ar f0 sX;refine zcw (zes _) rfl (lb := #[At0 V.heap.size]) rfl rfl hI (UN _) (fun k j=>⟨?_,rfl⟩) (fun b vs W ⟨l,q,c,_,h,_⟩=>by rw[h];rfl) (by decide)
  (fun k=>k=M\/k=L+2\/k=L+3)
  (fun b F Z=>(∃xs,(xs.map (·.1)=b/\b.length<=m/\AscB xs)/\Gath qF 89 90 (L+4) W.heap.size M W (zsF (L+4)) xs F Z)/\F (L+2)/\F (L+3))
  (fun ex b F Z=>ex = .ret/\m<(zcj r).length/\Z.heap[L+2]?=some (.cells #[.slice none 0 0] 90 (0,0))/\Z.heap[L+3]?=some (.cells #[i64 5] 33 (0,0))/\Bw w Z/\W.heap.size<=Z.heap.size/\F (L+2)/\F (L+3)/\∀k,F k->k<Z.heap.size)
  (fun k j=>?_) ⟨?_,?_⟩ (fun ex=>⟨?_,?_⟩) ?_ ?_ ?_ ?_
 ·rcases j with(rfl | rfl) | h
  ·omega
  ·have:=ag.size;omega
  ·exact h.elim
 ·rcases j with rfl | rfl <;> omega
 ·rintro b F A C ⟨h,h2,h3⟩ hs;exact⟨(Gath.iter (σ:=List (List Nat)) (f:=fun b xs=>xs.map (·.1)=b/\b.length<=m/\AscB xs) (zeB (L+4)) (by omega)).step b F A C h hs,h2,h3⟩
 ·rintro b F A k ⟨h,_⟩ j;exact(Gath.iter (σ:=List (List Nat)) (f:=fun b xs=>xs.map (·.1)=b/\b.length<=m/\AscB xs) (zeB (L+4)) (by omega)).lt b F A k h j
 ·rintro b F A C ⟨h1,h2,h3,h4,h5,h6,h7,h8,h9⟩ hs;exact⟨h1,h2,(hs.same _ (hlt h3) (.inr h7)).trans h3,(hs.same _ (hlt h4) (.inr h8)).trans h4,h5.trans ⟨hs.os,hs.tape,hs.output,hs.size,fun k j=>hs.same k (nL j h5.size) (.inl ⟨by omega,fun h=>h⟩)⟩,UC h6 hs.size,h7,h8,fun k j=>nL (h9 k j) hs.size⟩
 ·rintro b F A k ⟨h1,h2,h3,h4,h5,h6,h7,h8,h9⟩ j;exact⟨h9 k j,fun h=>h⟩
 ·refine⟨⟨zs3,⟨rfl,UP _,List.Pairwise.nil⟩,⟨UN _,.inl rfl,fun k j=>?_,⟨none,0,fM,OwnS.nil,fun a h=>by cases h⟩,fun x hx=>(by cases hx),UR _ _⟩⟩,.inr (.inl rfl),.inr (.inr rfl)⟩;rcases j with rfl | rfl | rfl <;> omega
 ·rintro yl b x vs F Y bu al hJ ⟨l,q,c,ap,rfl,bb,bm,a2⟩ bz ⟨lo,bc⟩;have bn:x=l:=by simpa using ap
  subst bn;refine⟨rfl,F,KeepsG.refl _ _,hJ,?_⟩;rintro o Y2 ba ⟨⟨xs,⟨ae,aw,ah⟩,u⟩,ak,aj⟩;have bt:b.length<(zcj r).length:=by
   obtain⟨t,ht⟩:=al;rw[<- ht];simp only[lap,Qj];omega
  have bw:xs.length=b.length:=by rw[<- ae,QD]
  have az:x∈zcj r:=al.subset (by simp);have bp:=zlv az;have ay:SlR zB Y2 q x:=by
   rw[ba];refine qE bb fun a d=>zj fun e=>?_;obtain⟨br,an⟩:=a2 a d;rw[e,bc] at an
   cases an
  obtain⟨p,c',h4,h5,h6⟩:=u.row;have bh:L+4<=W.heap.size:=by omega
  have g1:Y2.heap[L+1]?=some (.cells #[i64 m] 3 (0,0)):=(u.old.block _ (by omega)).trans f1;refine⟨_,zc (za h4) (i:=0) rfl,_,zc (za g1) (i:=0) rfl,biE (fun hc=>?_) fun hc=>?_⟩
  ·have hc:((xs.length:Nat):Int)=(m:Int):=dT hc;have g2:Y2.heap[L+2]?=some (.cells #[.slice none 0 0] 90 (0,0)):=(u.old.block _ (by omega)).trans f2;have g3:Y2.heap[L+3]?=some (.cells #[i64 0] 33 (0,0)):=(u.old.block _ (by omega)).trans f3;refine zn k90 g2 (o:=0) (v := .slice none 0 0) rfl rfl (by show 0<1;decide) rfl fun Z1 af y a3=>zn k33 ((y.block (L+3) (hlt g3) (by simp)).trans g3) (o:=0) (v:=i64 5) rfl rfl (by show 0<1;decide) rfl fun Z2 ax z bi=>⟨F,⟨rfl,by omega,(z.block (L+2) (hlt af) (by simp)).trans af,ax,?_,by have:=u.size;omega,ak,aj,fun k j=>by have:=u.lt k j;omega⟩,(KeepsG.grown y ak).trans (KeepsG.grown z aj)⟩;have g:=ag.trans (u.old.mono (by omega));exact(g.trans (zm y g.size (by omega))).trans (zm z (by have:=g.size;omega) (by omega))
  ·have hc:¬((xs.length:Nat):Int)=(m:Int):=dF hc;refine DrawE.ord [4,5] [0,1,2,3,4,5] (by kernel_rfl) ?_;have a4:Bw Y2 Y2.drew:=(UR _ _).drew;refine⟨_,zc (za (hdr h4)) (i:=0) rfl,cmo (zpt (ay.below a4) (by omega) bm) ?_⟩;rintro e Y3 ⟨⟨q1,k1,rfl,o1⟩,a5⟩;refine⟨a5,?_⟩;obtain⟨nx,am⟩:∃nx:List Nat×OA×Nat,nx=(x,q1,k1):=⟨_,rfl⟩;have a8:[Value.slice q1 x.length k1]=qF.enc nx:=by rw[am];rfl
   refine⟨⟨by decide,by decide,rfl⟩,qF.enc nx,by rw[<- a8];rfl,?_⟩;have a7:Bw Y3 (Y3.alloc (.cells (qF.enc nx).toArray 89)):=zba _ _;refine⟨a7,?_⟩;have bj:∀(G:Nat->Prop) (Z:Wd),(∀k,Y2.heap.size<=k->k<Y3.heap.size->Z.heap[k]?=Y3.heap[k]?)->(∀k,Y2.heap.size<=k->k<Y3.heap.size->G k)->zsF (L+4) G Z nx:=by
    intro G Z hs hg;rw[am];have ol:∀a,q1=some a->Y2.heap.size<=a.block/\a.block<Y3.heap.size:=fun a d=>⟨(zx o1 d).1,(zx o1 d).2.1⟩;have bo:=u.size;exact⟨OwnS.lower (o1.same fun a d=>hs _ (ol a d).1 (ol a d).2) (by show L+4<=Y2.heap.size;omega),fun a d=>hg _ (ol a d).1 (ol a d).2⟩
   obtain⟨v,Y5,a1,Z,ao,F',bf,a6,a0⟩:=u.step (P:=PG) (ty:=90) (cap1:=1) (zeB (L+4)) (by decide) Tryz.underlying90 k89 rfl rfl rfl k90 rfl (by omega) (by omega) (a4.trans a5) nx (by omega) (by show(xs.length+1)*24<=_;omega) bj p c' h4;exact SatR.mk a1 (SatR.mk ao ⟨F',⟨⟨_,⟨by rw[QG,ae,am];rfl,by simp only[lap,Qj,QE];omega,ah.snoc (n:=Y2.heap.size) (fun x' bd a d=>(zx (u.nest x' bd).1 d).2.1) (fun a d=>by rw[am] at d;exact(zx o1 d).1)⟩,bf⟩,a0 _ ak,a0 _ aj⟩,a6⟩)
 ·rintro D F Y hD aa ⟨⟨xs,⟨ae,aw,ah⟩,u⟩,ak,aj⟩ ab;obtain⟨p,c',h4,h5,h6⟩:=u.row;have bh:L+4<=W.heap.size:=by omega
  have g2:Y.heap[L+2]?=some (.cells #[.slice none 0 0] 90 (0,0)):=(u.old.block _ (by omega)).trans f2;have g3:Y.heap[L+3]?=some (.cells #[i64 0] 33 (0,0)):=(u.old.block _ (by omega)).trans f3;refine⟨_,zc (za h4) (i:=0) rfl,zn k90 g2 (o:=0) (v := .slice p xs.length c') rfl rfl (by show 0<1;decide) rfl fun Z1 af y a3=>zn k33 ((y.block (L+3) (hlt g3) (by simp)).trans g3) (o:=0) (v:=i64 0) rfl rfl (by show 0<1;decide) rfl fun Z2 ax z bi=>?_⟩;have k2:∀k,k<Y.heap.size->k≠L+2->k≠L+3->Z2.heap[k]?=Y.heap[k]?:=fun k j n1 n2=>(z.block k (by rw[a3];exact j) (by simpa using n2)).trans (y.block k j (by simpa using n1));refine⟨_,rfl,(k2 D (hlt ab) (by omega) (by omega)).trans ab,?_⟩;have a9:=(z.block (L+2) (hlt af) (by simp)).trans af;have au:D≠L+2:=fun e=>aa (e▸ak);have av:D≠L+3:=fun e=>aa (e▸aj);have g:=ag.trans (u.old.mono (by omega));have b2:=(g.trans (zm y g.size (by omega))).trans (zm z (by have:=g.size;omega) (by omega));have kp:∀a:Addr,L+4<=a.block->F a.block->a.block<Y.heap.size->(Z2.putObj D (.deferred none)).heap[a.block]?=Y.heap[a.block]?:=fun a h1 h2 h3=>(zj fun e=>by rw[<- e] at aa;exact aa h2).trans (k2 _ h3 (by omega) (by omega));refine⟨.slice p xs.length c',zc (za ((zj fun e=>au e.symm).trans a9)) (i:=0) rfl,i64 0,zc (za ((zj fun e=>av e.symm).trans ax)) (i:=0) rfl,.inl ⟨by rw[<- ae,QD] at aw ⊢;exact aw,xs,p,c',rfl,ae,ah,?_,fun x hx=>?_⟩,qh b2 (by omega) _⟩
  ·exact OwnS.lower (h5.same fun a d=>kp a (zx h5 d).1 (h6 a d) (zx h5 d).2.1) (by omega)
  ·obtain⟨aq,bk⟩:=u.nest x hx;exact OwnS.lower (aq.same fun a d=>kp a (zx aq d).1 (bk a d) (zx aq d).2.1) (by omega)
 ·rintro D ex b F Y hD aa al ⟨rfl,be,h3,h4,h5,h6,h7,h8,h9⟩ ab;refine⟨_,rfl,ab,?_⟩;have au:D≠L+2:=fun e=>aa (e▸h7);have av:D≠L+3:=fun e=>aa (e▸h8);exact⟨_,zc (za ((zj fun e=>au e.symm).trans h3)) (i:=0) rfl,_,zc (za ((zj fun e=>av e.symm).trans h4)) (i:=0) rfl,.inr ⟨be,rfl⟩,qh h5 (by have:=ag.size;omega) _⟩
theorem zpq{p:OA}{cap:Nat}{l:List Nat}{s:Nat}{w:Wd}(hl:SlR zB w p l)(hn:l.length<=140737488351232) :
  Calls PG 195 #[.slice p l.length cap,i64 s] w fun e w'=>∃n:Int,e = .returned (i64 n)/\decide (0<=n)=l.any (fun q=>decide (q=s))/\w=w':=by
 refine zC 19 [.slice p l.length cap,i64 s] Tryz.func195 ?_;refine⟨Nat,fun k=>⟨[(0,.slice p l.length cap),(1,i64 s),(7,i64 l.length),(8,i64 (k:Nat))],[]⟩,fun k X=>k<=l.length/\(∀q∈l.take k,¬q=s)/\w=X,fun k=>l.length-k,0,(cvE rfl rfl),⟨UP _,by simp,rfl⟩,?_⟩;rintro k _ ⟨m,d,rfl⟩;dsimp only at m d ⊢;refine biE (fun g=>?_) fun g=>?_
 ·have g:(k:Int)<(l.length:Int):=dT g;have a:k<l.length:=by omega
  obtain⟨b,o,rfl,r,j⟩:=hl.at a;refine⟨k,rfl,a,i64 l[k],zc (j k a) (i:=0) rfl,biE (fun h=>?_) fun h=>?_⟩
  ·have h:(s:Int)=(l[k]:Nat):=dT h;refine⟨k,rfl,?_,rfl⟩;rw[Uh (by omega)];symm;rw[Qb];exact⟨l[k],gM _,Uh (by omega)⟩
  ·have h:¬(s:Int)=(l[k]:Nat):=dF h;refine⟨(k+1:Nat),(zg (by omega)).trans (by omega),k+1,(cvE rfl rfl),⟨a,?_,rfl⟩,zdc (by omega)⟩;rw[tsg a];intro q f;rcases QH.1 f with f | f
   ·exact d q f
   ·simp only[Kv] at f;rw[f];exact fun e=>h (by rw[e])
 ·have g:¬(k:Int)<(l.length:Int):=dF g;obtain rfl:k=l.length:=by omega
  rw[Qn] at d;refine⟨-1,rfl,?_,rfl⟩;symm;show _=false;rw[KG];exact fun q f=>by simpa using d q f
theorem zjZ{p:OA}{cap:Nat}{l:List Nat}{s:Nat}{w:Wd}(hl:SlR zB w p l)(hn:l.length<=140737488351232) :
  Calls PG 128 #[.slice p l.length cap,i64 s] w fun e w'=>e = .returned (.bool (l.any fun q=>decide (q=s)))/\w=w':=by
 refine zC 9 [.slice p l.length cap,i64 s] Tryz.func128 ?_;refine cmo (zpq hl hn) ?_;rintro e _ ⟨n,rfl,h,rfl⟩;exact⟨rb h,rfl⟩
abbrev zhS (l:List Nat):List Value:=l.map fun n:Nat=>i64 n
abbrev RowI (Z:Wd) (g:Nat) (l:List Nat):Prop:=Z.heap[g]?=some (.cells (zhS l).toArray 3 (0,0))
theorem zd0:∀l:List Nat,l.flatMap zB.enc=zhS l
 | []=>rfl
 | a::l=>by
  show i64 a::l.flatMap zB.enc=i64 a::zhS l;rw[zd0 l]
theorem zix:∀n,zby [Value.int IntKind.i64 0] n=zhS (List.replicate n 0)
 | 0=>rfl
 | n+1=>by
  show Value.int IntKind.i64 0::zby [Value.int IntKind.i64 0] n=i64 0::zhS (List.replicate n 0);rw[<- zix n];rfl
theorem RowI.sl{Z:Wd}{g:Nat}{l:List Nat}(h:RowI Z g l):SlR zB Z (some ⟨g,0,none⟩) l :=
 SlR.of_cells (hlt h) (by rw[zd0];exact za h)
theorem zmv{α:Type}{f:Nat->α}{n j:Nat}(h:j<n):((List.range j).map f++[f j]) <+: (List.range n).map f:=by
 obtain⟨m,rfl⟩:∃m,n=(j+1)+m:=⟨n-(j+1),by omega⟩;rw[List.range_add,QG];exact⟨_,by rw[QL,QG];rfl⟩
def StD (pre:List (List Nat)) (vs:List Value) (W:Wd):Prop:=∃l q,pre.getLast?=some l/\vs=[.slice q l.length l.length]/\SlR zB W q l/\∀a,q=some a->∃cur,W.heap[a.block]?=some (.cells cur 3 (0,0))
section
variable{bx:Nat}{sizes:List Nat}{q:OA}{c:Nat}{W0:Wd}
theorem zrn(fx:W0.heap[bx]?=some (.cells #[.slice q sizes.length c] 89 (0,0)))(hl:SlR zB W0 q sizes)(hql:∀a,q=some a->a.block<W0.heap.size)(hn:sizes.length<=1000)(hm:∀n∈sizes,n<=1000000) :
  zhE PG 127 [At0 bx] (zbh sizes) W0 (fun k=>k=bx\/∃a,q=some a/\k=a.block) (fun _=>False) StD:=by
 intro yl F0 J Jx W bn bb a3 hJ bm hy h0;have ak:=(bb bx (.inl (.inl rfl))).trans fx;have a6:SlR zB W q sizes:=qE hl fun a u=>bb _ (.inl (.inr ⟨a,u,rfl⟩));refine zC 43 [.func (.yield yl) #[] #[],At0 bx] Tryz.func127 ?_;refine⟨_,zc (za ak) (i:=0) rfl,cmo (zjZ (s:=0) a6 (by omega)) ?_⟩;rintro e _ ⟨rfl,rfl⟩;refine biE (fun h=>?_) fun h=>?_
 ·have h:(sizes.any fun q=>decide (q=0))=true:=h;obtain⟨z,hz,av⟩:=Qb.1 h;have av:z=0:=dT av;subst av;have hs:zbh sizes=[]:=by unfold zbh;rw[zdn (by simpa using hz)];rfl
  rw[hs];exact⟨⟨_,rfl⟩,.inl ⟨F0,h0⟩⟩
 have h:(sizes.any fun q=>decide (q=0))=false:=h;obtain⟨r,ab⟩:=nm (sizes.reverse);have x:∀n∈r,n≠0:=fun n hn e=>by
  rw[KG] at h;exact h n (by rw[ab] at hn;simpa using hn) (Uh e)
 have ad:r.length=sizes.length:=by rw[ab,Ke]
 refine⟨_,zc (za ak) (i:=0) rfl,zhl Tryz.underlying89 k3 rfl rfl (by decide) sizes.length (by show 8*_<=_;omega) (by omega) fun X fX aj sX=>?_⟩;rw[zix] at fX;obtain⟨D,hD⟩:∃D:Nat->List Nat,D=fun j=>(zac r j).reverse:=⟨_,rfl⟩;have bc:∀j,(D j).length=sizes.length:=fun j=>by rw[hD];show((zac r j).reverse).length=_;rw[Ke,zeg,ad]
 have be:zbh sizes=(List.range (z8 r)).map D:=by unfold zbh;rw[hD,ab]
 have hP:0<z8 r:=zg9 x;have bh:D 0=List.replicate sizes.length 0:=by
  rw[hD];show(zac r 0).reverse=_;rw[zhv,List.reverse_replicate,ad]
 rw[<- bh] at fX;rw[be] at hy ⊢;obtain⟨g,hg⟩:=nm (W.heap.size);rw[<- hg] at fX;have bl:=hlt ak;refine⟨Nat×(Nat->Prop),fun s=>⟨[(0,.func (.yield yl) #[] #[]),(1,At0 bx),(3,.slice (some ⟨g,0,none⟩) sizes.length sizes.length)],[]⟩,
  fun s Z=>s.1<z8 r/\J ((List.range s.1).map D) s.2 Z/\RowI Z g (D s.1)/\¬s.2 g/\W.heap.size<=Z.heap.size/\Z.heap[bx]?=some (.cells #[.slice q sizes.length c] 89 (0,0))/\¬s.2 bx/\RowF zB W.heap.size s.2 Z q sizes,
  fun s=>z8 r-s.1,(0,F0),⟨.cons rfl (.cons rfl (.cons (by rw[hg];rfl) .nil)),rfl⟩,
  ⟨hP,hJ.step _ _ _ _ h0 (.below aj),fX,fun h=>by have:=(hJ.lt _ _ _ _ h0 h).1;omega,aj.size,zb aj ak,a3 _ (.inl rfl),⟨a6.below aj,fun a u=>⟨by have:=hql a u;omega,a3 _ (.inr ⟨a,u,rfl⟩)⟩⟩⟩,?_⟩
 rintro⟨j,F⟩ Z ⟨hj,aq,fZ,ah,an,af,ai,ap⟩;dsimp only at hj aq fZ ah af ai ap ⊢;have ae:((List.range j).map D++[D j]) <+: (List.range (z8 r)).map D:=zmv hj;refine YieldR.mono (hy _ (D j) [.slice (some ⟨g,0,none⟩) sizes.length sizes.length] F Z aq ⟨D j,_,by simp,by rw[bc j],fZ.sl,fun a u=>(by cases u;exact⟨_,fZ⟩)⟩ ae) ?_;rintro v Y (⟨rfl,F',al,kY⟩ | ⟨rfl,F',al⟩)
 ·refine brT ?_;have a2:=hlt fZ;have fY:RowI Y g (D j):=(kY.same g a2 ah).trans fZ;have y:¬F' g:=fun h=>by
   rcases kY.fp g h with h | h
   ·exact ah h
   ·omega
  have ax:=(kY.same bx (hlt af) ai).trans af;have a0:¬F' bx:=fun h=>by
   rcases kY.fp bx h with h | h
   ·exact ai h
   ·have:=hlt af;omega
  have aw:=ap.keep an kY (fun _ _ h=>h);have a5:=UC an kY.size;have am:J ((List.range (j+1)).map D) F' Y:=by
   rw[QL,QG];exact al
  clear al ae fZ af ap aq an a2 ah ai kY;refine⟨((sizes.length:Nat):Int)-1,zg (by omega),?_⟩;have a4:W.heap.size<=g:=by omega
  have a7:bx≠g:=by omega
  refine⟨Nat,fun t=>⟨[(0,.func (.yield yl) #[] #[]),(1,At0 bx),(3,.slice (some ⟨g,0,none⟩) sizes.length sizes.length),(4,i64 (((sizes.length:Nat):Int)-1-(t:Nat)))],[]⟩,
   fun t V=>t<=sizes.length/\zgK r j t/\RowI V g ((List.replicate t 0++(zac r j).drop t).reverse)/\J ((List.range (j+1)).map D) F' V/\W.heap.size<=V.heap.size/\V.heap[bx]?=some (.cells #[.slice q sizes.length c] 89 (0,0))/\RowF zB W.heap.size F' V q sizes,fun t=>sizes.length-t,0,
   ⟨.cons rfl (.cons rfl (.cons rfl (.cons (by rw[Int.ofNat_zero,Int.sub_zero];rfl) .nil))),rfl⟩,⟨UP _,zkU _ _,by rw[hD] at fY;exact fY,am,a5,ax,aw⟩,?_⟩
  clear fY ax aw am a5;rintro t V ⟨ht,hc,fV,aa,bo,w,p⟩;dsimp only at ht hc fV aa ⊢;have bw:(zac r j).length=sizes.length:=by rw[zeg,ad]
  refine DrawE.ord [] [0,1,2,3,4,5,6,7,8,9,10,11,12,13] (by kernel_rfl) (biE (fun hi=>?_) fun hi=>?_)
  ·have hi:(0:Int)<=((sizes.length:Nat):Int)-1-(t:Nat):=dT hi;have az:t<sizes.length:=by omega
   obtain⟨i,bp⟩:∃i,i+t+1=sizes.length:=⟨sizes.length-1-t,by omega⟩;have bk:((sizes.length:Nat):Int)-1-(t:Nat)=(i:Nat):=by omega
   rw[bk];obtain⟨d,hd⟩:∃d,(zac r j)[t]?=some d:=⟨_,gE (by omega)⟩;obtain⟨n,hn⟩:∃n,r[t]?=some n:=⟨_,gE (by omega)⟩;have f:i<sizes.length:=by omega
   have a1:sizes[i]=n:=by
    have:=JF (l:=sizes) (i:=t) az;rw[<- ab,hn,show sizes.length-1-t=i by omega,gE f] at this;exact(QV this).symm
   have a8:n∈sizes:=by rw[<- a1];exact gM f
   have bv:=hm n a8;have br:n≠0:=x n (by rw[ab];simpa using a8);have zck:=zrK hd (i:=i) (by omega);have bu:d<n:=by
    obtain⟨A,ns,k,c1,c2,c3,c4,c5⟩:=hc
    cases ns with
    | nil=>rw [c1,QA,JE (by omega)] at hn;cases hn
    | cons m ns =>
     have bd:m=n:=by
      rw[c1,Jj (by omega),c2,UE] at hn;exact QV hn
     have:=UY (fun l=>l[0]?) c4;simp only[Kr,UB] at this;rw[hd] at this;have:d=k%m:=QV this;rw[this,bd];exact UU _ (by omega)
   have ay:((List.replicate t 0++(zac r j).drop t).reverse).length=sizes.length:=by simp;omega
   refine⟨i,rfl,f,?_⟩;have a9:(zhS (List.replicate t 0++(zac r j).drop t).reverse)[i*1]?=some (i64 d):=by
    rw[UO,KM,zck];rfl
   refine⟨i64 d,zc (za (hdr fV)) a9,_,zc (za (hdr w)) (i:=0) rfl,?_⟩;obtain⟨bq,oq,bi,bt,ba⟩:=p.row.at f;subst bi;refine⟨i,rfl,f,i64 n,by rw[<- a1];exact zc (zt (UR _ V).drew (ba i f)) (i:=0) rfl,((n:Nat):Int)-1,zg (by omega),biE (fun he=>?_) fun he=>?_⟩
   ·have he:(d:Int)=(n:Int)-1:=dT he;have ac:=zlm hd (i:=i) (by omega) 0;refine⟨i,rfl,f,zn k3 (hdr fV) (o:=0+i*1) (v:=i64 0) rfl rfl (by rw[QD,ay];omega) rfl fun V1 ag ar bj=>⟨((sizes.length:Nat):Int)-1-((t+1:Nat):Int),(zg (by omega)).trans (by omega),?_⟩⟩;have b:V.grownBy V1 (some g):=zf (zi (UR _ V).drew) ar;have kV:KeepsG (fun k=>k=g) (fun _=>False) V V1:=⟨b.os,b.tape,b.output,b.size,fun k hk hf=>b.block k hk (fun e=>hf (by cases e;rfl)),fun k h=>h.elim⟩;have bf:=b.size;refine⟨t+1,(cvE rfl rfl),⟨az,zkW x hc hn hd (by omega),?_,hJ.step _ _ _ _ aa (StepG.grown b (.inl a4) y),by omega,(b.block bx (hlt w) (by simpa using a7)).trans w,⟨qE p.row fun a u=>b.block _ (by have:=(p.out a u).1;omega) (by have:=(p.out a u).1;simp;omega),p.out⟩⟩,zdc (by omega)⟩;show RowI V1 g _;rw[<- znX,<- ac];rw[UO,UH] at ag;refine ag.trans ?_;unfold zhS;rw[Uy];rfl
   ·have he:¬(d:Int)=(n:Int)-1:=dF he;have au:=zkV x hc hn hd (by omega);have ao:=zkX x hc hn hd (by omega) hj;have ac:=zlm hd (i:=i) (by omega) (d+1);refine brN (QX (by omega)) ⟨i,rfl,f,i64 d,zc (za (hdr fV)) a9,nxI (by omega) ⟨i,rfl,f,zn k3 (hdr fV) (o:=0+i*1) (v:=i64 ((d+1:Nat):Int)) rfl rfl (by rw[QD,ay];omega) rfl fun V1 ag ar bj=>?_⟩⟩;have b:V.grownBy V1 (some g):=zf (zi (UR _ V).drew) ar;have bf:=b.size;refine⟨(j+1,F'),(cvE rfl rfl),⟨ao,hJ.step _ _ _ _ aa (StepG.grown b (.inl a4) y),?_,y,by omega,(b.block bx (hlt w) (by simpa using a7)).trans w,a0,⟨qE p.row fun a u=>b.block _ (by have:=(p.out a u).1;omega) (by have:=(p.out a u).1;simp;omega),p.out⟩⟩,zdc (by omega)⟩;show RowI V1 g (D (j+1));rw[hD];show RowI V1 g (zac r (j+1)).reverse;rw[au,<- ac];rw[UO,UH] at ag;refine ag.trans ?_;unfold zhS;rw[Uy]
  ·have hi:¬(0:Int)<=((sizes.length:Nat):Int)-1-(t:Nat):=dF hi;have bg:t=r.length:=by omega
   rw[bg] at hc;have he:=zm8 hc hj;refine brF (brE (Uh (by omega)) ?_);rw[he] at aa;exact⟨⟨_,rfl⟩,.inl ⟨F',hJ.step _ _ _ _ aa (.below (UR _ V).drew)⟩⟩
 ·exact brF ⟨⟨_,rfl⟩,.inr ⟨_,F',ae,al⟩⟩
end
def poG (ev:List Ev) (k:Nat):Nat->Nat:=fun i=>if i<k then zci ev i else 0
theorem zlr(ev:List Ev)(k:Nat):upd (poG ev k) k (zci ev k)=poG ev (k+1):=by
 funext i;unfold upd poG;by_cases h:i=k
 ·rw[Gd h,Gd (by omega),h]
 ·rw[Gc h];by_cases a:i<k
  ·rw[Gd a,Gd (by omega)]
  ·rw[Gc a,Gc (by omega)]
theorem ziY(ev:List Ev)(k:Nat):upd (poG ev k) k 0=poG ev k:=by
 funext i;unfold upd poG;by_cases h:i=k
 ·rw[Gd h,Gc (by omega)]
 ·rw[Gc h]
theorem zpZ(ev:List Ev):poG ev ev.length=zci ev:=by
 funext i;unfold poG
 split
 ·rfl
 ·unfold zci;rw[JE (by omega)]
section
variable{p:OA}{cap:Nat}{ev:List Ev}{w:Wd}
theorem zcx(hl:SlR evE w p ev)(hn:ev.length<=48):CB 57 #[.slice p ev.length cap] w (.agg (zd (poR ev)).toArray):=by
 refine qg 47 [.slice p ev.length cap] (.s .p (.c .p .p)) Tryz.func57 ?_;obtain⟨L,hL⟩:=nm (w.heap.size);have ak:=zw w (.cells (zd zz).toArray 76 (0,0));have aj:Bw w (w.alloc (.cells (zd zz).toArray 76 (0,0))):=zba w _;have ad:=wz w (.cells (zd zz).toArray 76 (0,0));refine⟨Unit,fun _=>⟨[(0,.slice p ev.length cap),(2,At0 L),(3,At0 (L+1))],[]⟩,fun _ X=>zQ X L zz/\zQ X (L+1) ⟨ev.length,fun _=>0⟩/\X.heap.size=L+2/\Bw w X,?_,?_⟩
 ·refine⟨zd ⟨ev.length,fun _=>0⟩,rfl,zr (X:=w.alloc (.cells (zd zz).toArray 76 (0,0))) (v := .agg (zd ⟨ev.length,fun _=>0⟩).toArray) k76 (ze _) rfl (zD _) fun V d q sV=>?_⟩;rw[ad] at q sV;exact⟨(),⟨.cons rfl (.cons (by rw[hL];rfl) (.cons (by rw[hL,<- ad];rfl) .nil)),rfl⟩,by rw[hL];exact zb d ak,by rw[hL];exact q,by rw[hL];exact sV,(zst aj d)⟩
 rintro _ X ⟨f0,f1,sX,ag⟩;refine⟨Nat,fun k=>⟨[(0,.slice p ev.length cap),(2,At0 L),(3,At0 (L+1)),(10,.slice p ev.length cap),(11,i64 ev.length),(12,i64 (k:Nat))],[]⟩,
  fun k V=>k<=ev.length/\zQ V (L+1) ⟨ev.length,poG ev k⟩/\zQ V L zz/\L+1<V.heap.size/\Bw w V,fun k=>ev.length-k,0,
  (cvE rfl rfl),⟨UP _,f1,f0,by omega,ag⟩,?_⟩
 rintro k V ⟨hk,q,r,sV,d⟩;dsimp only at hk q ⊢;refine biE (fun g=>?_) fun g=>?_
 ·have g:(k:Int)<(ev.length:Int):=dT g;have f:k<ev.length:=by omega
  obtain⟨e,n⟩:∃e,ev[k]=e:=⟨_,rfl⟩;have af:ev[k]?=some e:=by rw[<- n];exact gE f
  obtain⟨bp,op,rfl,ai,ae⟩:=hl.at f;refine⟨k,rfl,f,evE.enc e,rfl,by rw[<- n];exact zt d (ae k f),nL ai d.size,zr (X:=V) (v := .agg (evE.enc e).toArray) k80 rfl rfl (Qa.2 fun u hu=>evE.one e u hu) fun Y t fY sY=>?_⟩;obtain⟨b,hb⟩:=nm (V.heap.size);rw[<- hb] at fY;have eb:some (Value.pointer (some ⟨V.heap.size,0,none⟩))=some (At0 b):=by rw[hb]
  have ab:=zst d t;have al:L+1<b:=by omega
  have aa:=zb t q;have ac:=zb t r;refine⟨i64 e.th,by rw[<- hb];exact zc (za fY) (i:=0) rfl,biE (fun h=>?_) fun h=>?_⟩
  ·have h:e.th = -1:=dT h;have hr:zci ev k=0:=by
    unfold zci;rw[af];exact Gd h
   refine nxI (by omega) ⟨k+1,(cvE rfl rfl),⟨f,?_,ac,by omega,ab⟩,zdc (by omega)⟩;rw[<- zlr,hr,ziY];exact aa
  have h:¬e.th = -1:=dF h;have hr:zci ev k=ziZ e.th (k+1) (ev.drop (k+1)) 0:=by
   unfold zci;rw[af];exact Gc h
  refine nxI (by omega) ?_;refine⟨Nat×Nat,fun s=>⟨[(0,.slice (some ⟨bp,op,none⟩) ev.length cap),(2,At0 L),(3,At0 (L+1)),(4,i64 (k:Nat)),(5,At0 b),(6,i64 (s.1:Nat)),(10,.slice (some ⟨bp,op,none⟩) ev.length cap),(11,i64 ev.length),(12,i64 (k:Nat))],[]⟩,
   fun s Z=>s.1<=ev.length/\zci ev k=ziZ e.th s.1 (ev.drop s.1) s.2/\s.2<2^64/\zQ Z (L+1) ⟨ev.length,upd (poG ev k) k s.2⟩/\zQ Z L zz/\Z.heap[b]?=some (.cells (evE.enc e).toArray 80 (0,0))/\Bw w Z,fun s=>ev.length-s.1,(k+1,0),
   ⟨.cons rfl (.cons rfl (.cons rfl (.cons rfl (.cons eb (.cons rfl (.cons rfl (.cons rfl (.cons rfl .nil)))))))),rfl⟩,⟨f,hr,(by decide:0<2^64),by rw[ziY];exact aa,ac,fY,ab⟩,?_⟩
  clear fY aa ac ab t sY r q d sV;rintro⟨j,s⟩ Z ⟨hj,a,hs,fM,fL,fb,m⟩;dsimp only at hj a hs fM ⊢;refine biE (fun g=>?_) fun g=>?_
  ·have g:(j:Int)<(ev.length:Int):=dT g;have l:j<ev.length:=by omega
   have z:ev.drop j=ev[j]::ev.drop (j+1):=(JA l).symm;rw[z] at a;have a:zci ev k=ziZ e.th (j+1) (ev.drop (j+1)) (if ev[j].th=e.th then s|||2^j else s):=a;refine DrawE.ord [] [0,1,2,3,4,5,6,7] (by kernel_rfl) ⟨j,rfl,l,i64 ev[j].th,zc (zt m (ae j l)) (i:=0) rfl,i64 e.th,zc (za (hdr fb)) (i:=0) rfl,?_⟩;have x:(zd ⟨(ev.length:Int),upd (poG ev k) k s⟩)[1+k]?=some (s64 s):=by
    have:=zdS ⟨(ev.length:Int),upd (poG ev k) k s⟩ (i:=k) (by omega);rw[this];show some (s64 (upd (poG ev k) k s k))=_;rw[qM]
   have ah:Bw Z Z.drew:=(UR _ Z).drew;refine biE (fun n=>?_) fun n=>?_
   ·have n:ev[j].th=e.th:=dT n;rw[Gd n] at a;refine DrawE.ord [9] [0,1,2,3,4,5,6,7,8,9] (by kernel_rfl) ⟨k,rfl,by omega,?_⟩;refine⟨s64 s,by rw[UO,Us];exact zc (za (hdr (hdr fM))) x,by omega,_,jn (e:=j) (by omega),_,jB hs (zT (by omega)),k,rfl,by omega,?_⟩;refine zn k73 (hdr (hdr fM)) (o:=0+1+k*1) (v:=s64 (s|||2^j)) rfl rfl (by rw[ze];omega) rfl fun S fS gS sS=>?_;rw[UH,UO,zdR _ (show k<48 by omega)] at fS;have y:Z.grownBy S (some (L+1)):=zf (zi (UR _ Z).drew) (zf (zi (UR _ _).drew) gS);refine nxI (by omega) ⟨(j+1,s|||2^j),(cvE rfl rfl),⟨l,a,KR hs (zT (by omega)),?_,(y.block L (hlt fL) (by simp)).trans fL,(y.block b (hlt fb) (by simp;omega)).trans fb,m.trans (zm y m.size (by omega))⟩,zdc (by omega)⟩;have:upd (upd (poG ev k) k s) k (s|||2^j)=upd (poG ev k) k (s|||2^j):=by
     funext i;unfold upd
     split <;> rfl
    rw[this] at fS;exact fS
   ·have n:¬ev[j].th=e.th:=dF n;rw[Gc n] at a;exact nxI (by omega) ⟨(j+1,s),(cvE rfl rfl),⟨l,a,hs,fM,fL,fb,(zst m ah)⟩,zdc (by omega)⟩
  ·have g:¬(j:Int)<(ev.length:Int):=dF g;have:j=ev.length:=by omega
   subst this;rw[Qd] at a;have a:zci ev k=s:=a;refine nxI (by omega) ⟨k+1,(cvE rfl rfl),⟨f,?_,fL,hlt fM,m⟩,zdc (by omega)⟩;rw[<- zlr,a];exact fM
 ·have g:¬(k:Int)<(ev.length:Int):=dF g;obtain rfl:k=ev.length:=by omega
  rw[zpZ] at q;exact⟨zd (poR ev),ze _,za q,hlt q,zo (v := .agg (zd (poR ev)).toArray) k76 r rfl rfl (zD _) ⟨zd (poR ev),ze _,za (zk r),rfl,zh d (by omega) _⟩⟩
end
structure RelAt (X:Wd) (b o:Nat) (T:TypeId) (A Z:List Value) (r:RelD):Prop where
 at_:A.length=o
 cells:X.heap[b]?=some (.cells (A++(zd r++Z)).toArray T (0,0))
section
variable{X:Wd}{b o:Nat}{T:TypeId}{A Z:List Value}{r:RelD}
theorem RelAt.cell(h:RelAt X b o T A Z r){i:Nat}(hi:i<48):X.cell? ⟨b,o+1+i*1,none⟩=some (s64 (r.to i)):=by
 have:(A++(zd r++Z))[o+1+i*1]?=some (s64 (r.to i)):=by
  rw[UO,Us,qH h.at_,Jn (by rw[ze];omega),zdS r hi]
 have a:=zc (za h.cells) this;rw[UH] at a;exact a
theorem RelAt.set(h:RelAt X b o T A Z r){i:Nat}(hi:i<48)(v:Nat):(A++(zd r++Z)).set (o+1+i*1) (s64 v)=A++(zd ⟨r.n,upd r.to i v⟩++Z):=by
 rw[UO,Us,jq h.at_,List.set_append_left _ _ (by rw[ze];omega),zdR r hi]
theorem RelAt.len(h:RelAt X b o T A Z r):(A++(zd r++Z)).length=o+49+Z.length:=by
 rw[lap,lap,ze,h.at_];omega
theorem RelAt.same{Y:Wd}(h:RelAt X b o T A Z r)(hs:Y.heap[b]?=X.heap[b]?):RelAt Y b o T A Z r:=⟨h.at_,hs.trans h.cells⟩
def zn2 (f:Nat) (ps:List (Nat×Nat)):Prop:=∀p∈ps,f+p.1<48/\f+p.2<48
theorem zdT{f:Nat}:∀{ps:List (Nat×Nat)} {to:Nat->Nat},zG to->zn2 f ps->zG (ziU f ps to)
 | [],_,h,_=>h
 | p::ps,to,h,hp=>by
  have c:=hp p Ku;exact zdT (ps:=ps) (zfm h (KR (h _ c.1) (zT (by omega)))) fun q a=>hp q (JR _ a)
theorem zj8{n:Nat}(h:n<256):((UInt8.ofNat n).toNat:Int)=(n:Nat):=by
 have:(UInt8.ofNat n).toNat=n:=by simp;omega
 rw[this]
theorem zn1{w:Wd}{q:OA}{cap f:Nat}{ps:List (Nat×Nat)}(hr:RelAt w b o T A Z r)(hw:zG r.to)(hl:SlR prE w q ps)(hqb:∀a,q=some a->a.block≠b)(hn:ps.length<=100000)(hp:zn2 f ps) :
  Calls PG 130 #[.pointer (some ⟨b,o,none⟩),.slice q ps.length cap,i64 f] w fun e w'=>e = .returned (.tuple #[])/\RelAt w' b o T A Z (zkq f ps r)/\w.grownBy w' (some b):=by
 refine zC 35 [.pointer (some ⟨b,o,none⟩),.slice q ps.length cap,i64 f] Tryz.func130 ?_;have ac:=hlt hr.cells;refine⟨Nat×(Nat->Nat),fun s=>⟨[(0,.pointer (some ⟨b,o,none⟩)),(1,.slice q ps.length cap),(2,i64 f),(8,.slice q ps.length cap),(9,i64 ps.length),(10,i64 (s.1:Nat))],[]⟩,
  fun s X=>s.1<=ps.length/\zG s.2/\ziU f (ps.drop s.1) s.2=ziU f ps r.to/\RelAt X b o T A Z ⟨r.n,s.2⟩/\w.grownBy X (some b),fun s=>ps.length-s.1,(0,r.to),
  (cvE rfl rfl),⟨UP _,hw,rfl,hr,qP _ _⟩,?_⟩
 rintro⟨k,g⟩ X ⟨hk,hg,j,hX,z⟩;dsimp only at hk hg j hX ⊢;have m:=z.size;refine biE (fun p=>?_) fun p=>?_
 ·have p:(k:Int)<(ps.length:Int):=dT p;have d:k<ps.length:=by omega
  obtain⟨c,l⟩:∃c,ps[k]=c:=⟨_,rfl⟩;obtain⟨p1,p2⟩:=hp c (by rw[<- l];exact gM d);rw[<- JA d,l] at j;have j:ziU f (ps.drop (k+1)) (upd g (f+c.1) (g (f+c.1)|||2^(f+c.2)))=ziU f ps r.to:=j;obtain⟨bp,op,rfl,u,ab⟩:=hl.at d;have aa:bp≠b:=hqb _ rfl;have y:zF X ⟨bp,op+k*2,none⟩ (prE.enc ps[k]):=qC (z.block bp u (by simpa using aa)) (ab k d);refine⟨k,rfl,d,prE.enc c,rfl,by rw[<- l];exact y,nL u m,?_⟩;refine zr (X:=X) (v := .agg (prE.enc c).toArray) k46 rfl rfl rfl fun Y x fY sY=>DrawE.ord [20] [0,1,2,3,4,5,6,7,8,9,10,11,12,13,14,15,16,17,18,19,20] (by kernel_rfl) ?_;have t:Y.heap[X.heap.size]?=some (.cells (prE.enc c).toArray 46 (0,0)):=fY;have h:=hX.same (x.block b (nL ac m));refine⟨0,rfl,by decide,?_⟩;refine⟨u8 (UInt8.ofNat c.1),zc (za (hdr t)) (i:=0*1) rfl,((c.1:Nat):Int),by rw[zj8 (by omega)];exact zg (by omega),((f+c.1:Nat):Int),(zg (by omega)).trans (by omega),f+c.1,rfl,by omega,?_⟩;refine⟨s64 (g (f+c.1)),(h.same (Y:=Y.drew) rfl).cell p1,1,rfl,by decide,?_⟩;refine⟨u8 (UInt8.ofNat c.2),zc (za (hdr t)) (i:=1*1) rfl,((c.2:Nat):Int),by rw[zj8 (by omega)];exact zg (by omega),((f+c.2:Nat):Int),(zg (by omega)).trans (by omega),by omega,_,jn (e:=f+c.2) (by omega),_,jB (hg _ p1) (zT (by omega)),f+c.1,rfl,by omega,?_⟩;refine zn k73 (h.same (Y:=Y.drew) rfl).cells (o:=o+1+(f+c.1)*1) (v:=s64 (g (f+c.1)|||2^(f+c.2))) rfl rfl (by rw[h.len];omega) rfl fun S fS gS sS=>?_;rw[h.set p1] at fS;exact nxI (by omega) ⟨(k+1,_),(cvE rfl rfl),⟨d,zfm hg (KR (hg _ p1) (zT (by omega))),j,⟨hr.at_,fS⟩,zf z (zf (zi x) (zf (zi (UR _ Y).drew) gS))⟩,zdc (by omega)⟩
 ·have p:¬(k:Int)<(ps.length:Int):=dF p;obtain rfl:k=ps.length:=by omega
  rw[Qd] at j;have j:g=ziU f ps r.to:=j;subst j;exact⟨rfl,hX,z⟩
end
def ztS (pre:List Nat) (vs:List Value) (W:Wd):Prop:=∃(a i:Nat),pre.getLast?=some a/\vs=[i64 i,i64 a]
theorem zsA{bx:Nat}{l:List Nat}{q:OA}{c:Nat}{W0:Wd}(fx:W0.heap[bx]?=some (.cells #[.slice q l.length c] 89 (0,0)))(hl:SlR zB W0 q l)(hql:∀a,q=some a->a.block<W0.heap.size)(hn:l.length<=100000) :
  zhE PG 201 [At0 bx] l.reverse W0 (fun k=>k=bx\/∃a,q=some a/\k=a.block) (fun _=>False) ztS:=by
 intro yl F0 J Jx W ag x w hJ ah hy h0;have m:=(x bx (.inl (.inl rfl))).trans fx;have ab:SlR zB W q l:=qE hl fun a ha=>x _ (.inl (.inr ⟨a,ha,rfl⟩));have af:=hlt m;refine zC 19 [.func (.yield yl) #[] #[],At0 bx] Tryz.func201 ?_;refine⟨_,zc (za m) (i:=0) rfl,((l.length:Nat):Int)-1,zg (by omega),?_⟩;refine⟨Nat×(Nat->Prop),fun s=>⟨[(0,.func (.yield yl) #[] #[]),(1,At0 bx),(3,i64 (((l.length:Nat):Int)-1-(s.1:Nat)))],[]⟩,
  fun s V=>s.1<=l.length/\J (l.reverse.take s.1) s.2 V/\W.heap.size<=V.heap.size/\V.heap[bx]?=some (.cells #[.slice q l.length c] 89 (0,0))/\¬s.2 bx/\RowF zB W.heap.size s.2 V q l,fun s=>l.length-s.1,(0,F0),
  ⟨.cons rfl (.cons rfl (.cons (by show _=some (i64 (((l.length:Nat):Int)-1-((0:Nat):Int)));rw[Int.ofNat_zero,Int.sub_zero];rfl) .nil)),rfl⟩,⟨UP _,h0,UN _,m,w _ (.inl rfl),⟨ab,fun a ha=>⟨by have:=hql a ha;omega,w _ (.inr ⟨a,ha,rfl⟩)⟩⟩⟩,?_⟩
 rintro⟨t,F⟩ V ⟨ht,d,o,b,f,j⟩;dsimp only at ht d f j ⊢;refine biE (fun y=>?_) fun y=>?_
 ·have y:(0:Int)<=((l.length:Nat):Int)-1-(t:Nat):=dT y;obtain⟨i,ai⟩:∃i,i+t+1=l.length:=⟨l.length-1-t,by omega⟩;have ad:((l.length:Nat):Int)-1-(t:Nat)=(i:Nat):=by omega
  rw[ad];have e:i<l.length:=by omega
  have r:l.reverse[t]?=some l[i]:=by
   rw[JF (by omega),show l.length-1-t=i by omega,gE e]
  have z:t<l.reverse.length:=by rw[Ke];omega
  have aa:l.reverse[t]=l[i]:=by rw[gE z] at r;exact QV r
  have g:l.reverse.take (t+1)=l.reverse.take t++[l[i]]:=by rw[tsg z,aa]
  refine⟨_,zc (za b) (i:=0) rfl,?_⟩;obtain⟨bq,oq,ae,aj,u⟩:=j.row.at e;subst ae;refine⟨i,rfl,e,i64 l[i],zc (u i e) (i:=0) rfl,YieldR.mono (hy _ l[i] [i64 (i:Nat),i64 l[i]] F V d ⟨l[i],i,by simp,rfl⟩ (by rw[<- g];exact List.take_prefix _ _)) ?_⟩;rintro v Y (⟨rfl,F',n,kY⟩ | ⟨rfl,F',n⟩)
  ·refine brF ?_;have p:¬F' bx:=fun h=>by
    rcases kY.fp bx h with h | h
    ·exact f h
    ·have:=hlt b;omega
   exact⟨((l.length:Nat):Int)-1-((t+1:Nat):Int),(zg (by omega)).trans (by omega),(t+1,F'),(cvE rfl rfl),⟨by omega,by rw[g];exact n,UC o kY.size,(kY.same bx (hlt b) f).trans b,p,j.keep o kY (fun _ _ h=>h)⟩,zdc (by omega)⟩
  ·exact brT ⟨⟨_,rfl⟩,.inr ⟨_,F',by rw[<- g];exact List.take_prefix _ _,n⟩⟩
 ·have y:¬(0:Int)<=((l.length:Nat):Int)-1-(t:Nat):=dF y;have ac:t=l.length:=by omega
  subst ac;rw[JB (by rw[Ke];exact UN _)] at d;exact⟨⟨_,rfl⟩,.inl ⟨F,d⟩⟩
theorem zq4{q:OA}{n c:Nat}{w:Wd}:Calls PG 134 #[.slice q n c] w fun e w'=>e = .returned (.func (.func 201) #[] #[At0 w.heap.size])/\w'.heap[w.heap.size]?=some (.cells #[.slice q n c] 89 (0,0))/\w'.heap.size=w.heap.size+1/\Bw w w':=by
 refine zC 4 [.slice q n c] Tryz.func134 ?_;exact⟨rfl,zw w _,wz _ _,(zba w _)⟩
theorem zod{q:OA}{n c:Nat}{w:Wd}:Calls PG 65 #[.slice q n c] w fun e w'=>e = .returned (.func (.func 127) #[] #[At0 w.heap.size])/\w'.heap[w.heap.size]?=some (.cells #[.slice q n c] 89 (0,0))/\w'.heap.size=w.heap.size+1/\Bw w w':=by
 refine zC 4 [.slice q n c] Tryz.func65 ?_;exact⟨rfl,zw w _,wz _ _,(zba w _)⟩
def zfh (p:(Nat->Nat)×Nat) (a:Nat):(Nat->Nat)×Nat:=(upd p.1 a p.2,p.2|||2^a)
theorem zdq:∀(l:List Nat) (f:Nat->Nat) (b:Nat),zlE l f b=(l.foldl zfh (f,b)).1
 | [],_,_=>rfl
 | a::l,f,b=>zdq l (upd f a b) (b|||2^a)
theorem zh8:∀{l:List Nat} {f:Nat->Nat} {b:Nat},zG f->b<2^64->(∀a∈l,a<48)->zG (l.foldl zfh (f,b)).1/\(l.foldl zfh (f,b)).2<2^64
 | [],_,_,h,hb,_=>⟨h,hb⟩
 | a::l,f,b,h,hb,hl=>zh8 (l:=l) (zfm h hb) (KR hb (zT (by have:=hl a Ku;omega))) fun x d=>hl x (JR _ d)
theorem zhn{l:List Nat}{r:RelD}(h:zG r.to)(hl:∀a∈l,a<48):zG (zaJ l r).to:=by
 show zG (zlE l.reverse r.to 0);rw[zdq];exact(zh8 h (by decide) fun a d=>hl a (by simpa using d)).1
section
variable{b o:Nat}{T:TypeId}{A Z:List Value}{r:RelD}{w:Wd}{q:OA}{c:Nat}{l:List Nat}
theorem zop(hr:RelAt w b o T A Z r)(hw:zG r.to)(hl:SlR zB w q l)(hql:∀a,q=some a->a.block<w.heap.size/\a.block≠b)(hn:l.length<=100000)(h48:∀a∈l,a<48) :
  Calls PG 70 #[.pointer (some ⟨b,o,none⟩),.slice q l.length c] w fun e w'=>e = .returned (.tuple #[])/\RelAt w' b o T A Z (zaJ l r)/\w.grownBy w' (some b):=by
 refine qg 21 [.pointer (some ⟨b,o,none⟩),.slice q l.length c] (.s .p (.c .p .p)) Tryz.func70 ?_;obtain⟨L,hL⟩:=nm (w.heap.size);refine⟨Unit,fun _=>⟨[(1,.slice q l.length c),(2,At0 L),(4,At0 (L+1))],[]⟩,fun _ X=>X.heap[L]?=some (.cells #[.pointer (some ⟨b,o,none⟩)] 129 (0,0))/\X.heap[L+1]?=some (.cells #[s64 0] 73 (0,0))/\X.heap.size=L+2/\Bw w X,?_,?_⟩
 ·have s1:=wz w (.cells #[.pointer (some ⟨b,o,none⟩)] 129 (0,0));have z:=zw (w.alloc (.cells #[.pointer (some ⟨b,o,none⟩)] 129 (0,0))) (.cells #[s64 0] 73 (0,0));have s2:=wz (w.alloc (.cells #[.pointer (some ⟨b,o,none⟩)] 129 (0,0))) (.cells #[s64 0] 73 (0,0));rw[s1] at z s2;exact⟨(),⟨.cons rfl (.cons (by rw[hL];rfl) (.cons (by rw[hL,<- s1];rfl) .nil)),rfl⟩,by rw[hL];exact z6 _ (zw w _),by rw[hL];exact z,by rw[hL];exact s2,((zba w _)).alloc (by simp) _⟩
 rintro _ X ⟨f0,f1,sX,ag⟩;have ai:=hlt hr.cells;refine cmo zq4 ?_;rintro e W ⟨rfl,fx,sW,ac⟩;have u:=zst ag ac;have hI:=zsA fx (hl.below u) (fun a ha=>by have:=(hql a ha).1;omega) hn;have f0:=zb ac f0;have f1:=zb ac f1;refine zcw (zes _) rfl (lb := #[At0 X.heap.size]) rfl rfl hI (UN _) (fun k hk=>⟨?_,rfl⟩) (fun d vs W ⟨a,i,_,h⟩=>by rw[h];rfl) (by decide)
  (fun k=>k=b\/k=L+1) (fun d F Y=>F=(fun k=>k=b\/k=L+1)/\W.heap.size<=Y.heap.size/\RelAt Y b o T A Z ⟨r.n,(d.foldl zfh (r.to,0)).1⟩/\Y.heap[L+1]?=some (.cells [s64 (d.foldl zfh (r.to,0)).2].toArray 73 (0,0))/\Y.heap[L]?=some (.cells #[.pointer (some ⟨b,o,none⟩)] 129 (0,0))/\w.grownBy Y (some b)) (fun _ _ _ _=>False) (fun k hk=>?_)
  (joG (F:=fun k=>k=b\/k=L+1) (J:=fun(d:List Nat) Y=>W.heap.size<=Y.heap.size/\RelAt Y b o T A Z ⟨r.n,(d.foldl zfh (r.to,0)).1⟩/\Y.heap[L+1]?=some (.cells [s64 (d.foldl zfh (r.to,0)).2].toArray 73 (0,0))/\Y.heap[L]?=some (.cells #[.pointer (some ⟨b,o,none⟩)] 129 (0,0))/\w.grownBy Y (some b))
   (fun k h=>by omega) (fun s A h=>h.1) (fun d A B ⟨h1,z,h3,h4,t⟩ hb=>⟨UC h1 hb.size,z.same (hb.block _ (by omega)),jO hb (by omega) h3,jO hb (by omega) h4,qO t (hb.mono u.size)⟩))
  (fun ex=>⟨fun _ _ _ _ h=>h.elim,fun _ _ _ _ h=>h.elim⟩) ⟨rfl,UN _,hr.same (u.block _ ai),f1,f0,zi u⟩ ?_ ?_ ?_
 ·rcases hk with(rfl | ⟨a,ha,rfl⟩) | h
  ·omega
  ·have:=(hql a ha).1;have:=u.size;omega
  ·exact h.elim
 ·rcases hk with rfl | ⟨a,ha,rfl⟩
  ·omega
  ·have:=hql a ha;omega
 ·rintro yl d x vs F Y al y hJ ⟨a,i,ad,rfl⟩ an ap;have ah:x=a:=by simpa using ad
  subst ah;refine⟨rfl,F,KeepsG.refl _ _,hJ,?_⟩;rintro O Y2 am ⟨rfl,h1,z,h3,h4,t⟩;obtain⟨g1,g2⟩:=zh8 (l:=d) (f:=r.to) (b:=0) hw (by decide) (fun a ha=>h48 a (by have:=y.subset (List.mem_append_left _ ha);simpa using this));have ab:x<48:=h48 x (by have:=y.subset (JJ _ (Kv.2 rfl));simpa using this);have m:(d++[x]).foldl zfh (r.to,0)=zfh (d.foldl zfh (r.to,0)) x:=by rw[KL];rfl
  obtain⟨P,hP⟩:=nm (d.foldl zfh (r.to,0));rw[<- hP] at z h3 g1 g2 m;refine DrawE.ord [6] [0,1,2,3,4,5,6] (by kernel_rfl) ⟨_,zc (za (hdr h4)) (i:=0) rfl,_,zc (za (hdr h3)) (i:=0) rfl,x,rfl,ab,zn k73 (z.same (Y:=Y2.drew) rfl).cells (o:=o+1+x*1) (v:=s64 P.2) rfl rfl (by rw[z.len];omega) rfl fun S fS gS sS=>?_⟩;rw[z.set ab] at fS;have g:Y2.grownBy S (some b):=zf (zi (UR _ Y2).drew) gS;have af:=(g.block (L+1) (hlt h3) (by simp;omega)).trans h3;refine DrawE.ord [4] [0,1,2,3,4] (by kernel_rfl) ⟨_,zc (za (hdr af)) (i:=0) rfl,by omega,_,jn (e:=x) (by omega),_,jB g2 (zT (by omega)),zn k73 (hdr af) (o:=0) (v:=s64 (P.2|||2^x)) rfl rfl (by show 0<1;decide) rfl fun V fV gV sV=>?_⟩;have j:S.grownBy V (some (L+1)):=zf (zi (UR _ S).drew) gV;have ao:L=w.heap.size:=hL;refine⟨fun k=>k=b\/k=L+1,⟨rfl,?_,⟨hr.at_,?_⟩,by rw[m];exact fV,?_,?_⟩,(KeepsG.grown g (.inl rfl)).trans (KeepsG.grown j (.inr rfl))⟩
  ·have:=g.size;have:=j.size;omega
  ·rw[m];exact(j.block b (hlt fS) (by simp;omega)).trans fS
  ·exact(j.block L (nL (hlt h4) g.size) (by simp)).trans ((g.block L (hlt h4) (by simp;omega)).trans h4)
  ·exact⟨j.os.trans (g.os.trans t.os),j.tape.trans (g.tape.trans t.tape),j.output.trans (g.output.trans t.output),by have:=g.size;have:=j.size;have:=t.size;omega,fun k hk aa=>(j.block k (by have:=g.size;have:=t.size;omega) (by simp;omega)).trans ((g.block k (by have:=t.size;omega) aa).trans (t.block k hk aa))⟩
 ·rintro D F Y hD aj ⟨rfl,h1,z,h3,h4,t⟩ ae;refine⟨_,rfl,ae,?_⟩;have ak:b≠D:=by have:=u.size;omega
  refine⟨rfl,⟨hr.at_,?_⟩,?_⟩
  ·rw[show zaJ l r=⟨r.n,(l.reverse.foldl zfh (r.to,0)).1⟩ by unfold zaJ;rw[zdq]];exact(zj ak).trans z.cells
  ·exact⟨t.os,t.tape,t.output,by have:=t.size;simpa [World.putObj] using this,fun k hk aa=>(zj (by have:=u.size;omega)).trans (t.block k hk aa)⟩
 ·rintro D ex d F Y hD aj y h;exact h.elim
end
theorem zhZ{P:Program}{iT:TI}{T B g cap i v:Nat}{l:List Nat}{w:Wd}(hT:TIok P T iT)(hs:iT.size=1)(h:OwnS zB T B w (some ⟨g,0,none⟩) cap l)(hi:i<l.length){K:Wd->Prop}
  (k:∀w',OwnS zB T B w' (some ⟨g,0,none⟩) cap (l.set i v)->w.grownBy w' (some g)->K w'):SatR ((storeVar T ⟨g,0+i*1,none⟩ (i64 v)).run P w) fun _ w'=>K w':=by
 rcases h.inv with⟨h,_⟩ | ⟨x,a,f,s,r,j,m,b,d⟩
 ·cases h
 ·simp only[KS,Uj,UX] at f;subst f;have e:a=a.toList.toArray:=rfl;have n:a.toList.length=cap:=by
   have:a.toList.length=a.size:=rfl;rw[this,b];exact UO _
  refine zn hT (cs:=a.toList) (by rw[<- e];exact r) (o:=0+i*1) (v:=i64 v) rfl hs (by omega) rfl fun w' t p u=>k w' ?_ p;unfold OwnS World.ownsRow;have d:a.toList.take (l.length*1)=l.flatMap zB.enc:=d;refine⟨by rw[zU],.inr ⟨g,cap,_,rfl,s,t,by rw[QF];exact j,m,?_,?_⟩⟩
  ·show(a.toList.set (0+i*1) (i64 v)).length=_;rw[QF];exact b
  ·show(a.toList.set (0+i*1) (i64 v)).take ((l.set i v).length*1)=_;rw[UO,UH,UO,QF,List.take_set,<- UO l.length,d,zd0,zd0];unfold zhS;rw[Uy]
theorem zqy{before:Nat->Nat}:∀(m left:Nat) (l:List Nat),∀x∈zbS before m left l,∀a∈x,a∈l\/a∈els left:=by
 intro m
 induction m with
 | zero =>
  intro left l x d a e;unfold zbS at d
  split at d
  ·rw[Kv.1 d] at e;exact .inl e
  ·cases d
 | succ m ih =>
  intro left l x d a e;unfold zbS at d
  split at d
  ·rw[Kv.1 d] at e;exact .inl e
  ·obtain⟨b,g,d⟩:=List.mem_flatMap.1 d
   split at d
   ·rcases ih _ _ x d a e with h | h
    ·rcases QH.1 h with h | h
     ·exact .inl h
     ·rw[Kv.1 h];exact .inr g
    ·refine .inr ?_;unfold els at h ⊢;rw[QI] at h ⊢;refine⟨h.1,?_⟩;have f:=h.2;unfold zaT at f;rw[QR,bAT] at f;exact f.1
   ·cases d
theorem zp2{r:RelD}{n:Nat}(hr:r.n=n)(hn:n<=64){x:List Nat}(h:x∈zcj r){a:Nat}(ha:a∈x):a<n:=by
 unfold zcj at h
 split at h
 ·rcases zqy _ _ _ x h a ha with h | h
  ·cases h
  ·rw[zel,hr,zij hn] at h;exact Ue.1 h
 ·cases h
abbrev crs (n:Nat):RelD:=zgy n 1 (zaT (zcl n) 1)
theorem zss:∀n,n<=48->okR (crs n)=true:=by
 intro n a;have h:(List.range 49).all (fun n=>okR (crs n))=true:=by kernel_rfl
 rw[Qa] at h;exact h n (Ue.2 (by omega))
theorem zq7(n:Int):zcl n<2^64:=zaY n
theorem zqM(n:Nat):zG (crs n).to:=fun i _=>by
 show(if i<n then(if Nat.testBit 1 i then zaT (zcl n) 1&&&zcl n else 0) else 0)<2^64
 split
 ·split
  ·exact Kz Qo (zq7 n)
  ·decide
 ·decide
def za8 (ws:List Nat) (o:List Nat):List Nat:=o.map fun k=>ws.getD k 0
theorem zpW{ws o:List Nat}{i:Nat}(hi:i<o.length)(h:i<(za8 ws (o.take i)++o.drop i).length):(za8 ws (o.take i)++o.drop i)[i]=o[i]:=by
 have b:(za8 ws (o.take i)).length=i:=by unfold za8;rw[QD,Ql,QQ (by omega)]
 have a:(za8 ws (o.take i)++o.drop i)[i]?=o[i]?:=by
  rw[Jj (by omega),b,UE,Kr,UB]
 rw[gE h,gE hi] at a;exact QV a
theorem znT{ws o:List Nat}{i:Nat}(hi:i<o.length)(ho:o[i]<ws.length):(za8 ws (o.take i)++o.drop i).set i ws[o[i]]=za8 ws (o.take (i+1))++o.drop (i+1):=by
 have a:(za8 ws (o.take i)).length=i:=by unfold za8;rw[QD,Ql,QQ (by omega)]
 rw[JK _ _ (by omega),a,UE,<- JA hi,List.set_cons_zero,tsg hi];unfold za8;rw[QG,KH,Uq,Ux,gDe,gE ho];rfl
section
variable{q:OA}{c:Nat}{ws:List Nat}{w:Wd}
theorem zn9(hl:SlR zB w q ws)(hn:ws.length<=48)(hT:Tz64M w) :
  Calls PG 68 #[.slice q ws.length c] w fun e w'=>(∃(xs:List (List Nat×OA×Nat)) (p:OA) (c':Nat),e = .returned (.slice p xs.length c')/\xs.map (·.1)=j0 ws/\OwnS qF 89 w.heap.size w' p c' xs/\∀x∈xs,OwnS zB 3 w.heap.size w' x.2.1 x.2.2 x.1)/\Bw w w':=by
 refine qg 44 [.slice q ws.length c] (.s .p (.s .p (.c .p .p))) Tryz.func68 ?_;obtain⟨B,hB⟩:=nm (w.heap.size);refine⟨List (List Nat×OA×Nat)×OA×Nat,fun s=>⟨[(0,.slice q ws.length c),(4,.slice s.2.1 s.1.length s.2.2)],[]⟩,fun s X=>(j0 ws=(s.1.map (·.1)).map (za8 ws)/\AscB s.1/\s.1.length<=10000/\∀x∈s.1,x.1.length<=64/\∀a∈x.1,a<ws.length)/\OwnS qF 89 B X s.2.1 s.2.2 s.1/\(∀x∈s.1,OwnS zB 3 B X x.2.1 x.2.2 x.1)/\Bw w X,?_,?_⟩
 ·refine cmo zhG ?_;rintro e _ ⟨rfl,rfl⟩;refine⟨_,zbK (zaY _) (by decide:1<2^64),cmo (zrh (n:=ws.length) (a:=1) (b:=jl (zaf ws.length) 1) hn (by decide) (zgd (zaY _))) ?_⟩;rintro e X ⟨rfl,f⟩;refine cmo (zpm (r:=crs ws.length) (m:=10000) (zqM _) (hT.below f) (UN _) (zss _ hn)) ?_;rintro e Y ⟨⟨hm,xs,p,c',rfl,ak,d,ho,z⟩ | ⟨hm,rfl⟩,aq⟩
  ·refine⟨(xs,p,c'),(cvE rfl rfl),⟨?_,d,?_,fun x z=>?_⟩,ho.lower (by rw[hB];exact f.size),fun x h=>(z x h).lower (by rw[hB];exact f.size),(zst f aq)⟩
   ·show j0 ws=(xs.map (·.1)).map (za8 ws);rw[ak];unfold j0;exact Gd hm
   ·show xs.length<=10000;rw[<- ak,QD] at hm;exact hm
   ·have ai:x.1∈zcj (crs ws.length):=(by rw[<- ak];exact Uz.2 ⟨x,z,rfl⟩);exact⟨zlv ai,fun a ha=>zp2 rfl (by omega) ai ha⟩
  ·refine⟨([],none,0),(cvE rfl rfl),⟨?_,List.Pairwise.nil,UP _,fun x z=>(by cases z)⟩,OwnS.nil,fun x z=>(by cases z),(zst f aq)⟩;show j0 ws=[];unfold j0;exact Gc (by show ¬(zcj (crs ws.length)).length<=10000;omega)
 rintro⟨xs,p,c'⟩ X ⟨⟨an,d,a0,ar⟩,ho,z,f⟩;dsimp only at an d a0 ar ho z ⊢;have aj:=f.size;refine⟨Nat,fun k=>⟨[(0,.slice q ws.length c),(4,.slice p xs.length c'),(21,.slice p xs.length c'),(22,i64 xs.length),(23,i64 (k:Nat))],[]⟩,
  fun k Z=>k<=xs.length/\OwnS qF 89 B Z p c' xs/\(∀x∈xs.take k,OwnS zB 3 B Z x.2.1 x.2.2 (za8 ws x.1))/\(∀x∈xs.drop k,OwnS zB 3 B Z x.2.1 x.2.2 x.1)/\Bw w Z,fun k=>xs.length-k,0,
  (cvE rfl rfl),⟨UP _,ho,fun x h=>(by rw[Uf] at h;cases h),fun x h=>z x h,f⟩,?_⟩
 clear ho z f aj;rintro k Z ⟨hk,ho,am,hdr,ae⟩;have aj:=ae.size;refine biE (fun hc=>?_) fun hc=>?_
 ·have hc:(k:Int)<(xs.length:Int):=dT hc;have t:k<xs.length:=by omega
  obtain⟨x,ad⟩:∃x,xs[k]=x:=⟨_,rfl⟩;have a4:x∈xs:=by rw[<- ad];exact gM t
  obtain⟨bc,ax⟩:=ar x a4;have ag:xs=xs.take k++x::xs.drop (k+1):=by rw[<- ad,JA,JL]
  have ab:xs.drop k=x::xs.drop (k+1):=by rw[<- ad,JA]
  have al:OwnS zB 3 B Z x.2.1 x.2.2 x.1:=hdr x (by rw[ab];simp);obtain⟨bp,op,a3,be,av⟩:=ho.row.at t;subst a3;refine⟨k,rfl,t,.slice x.2.1 x.1.length x.2.2,by rw[<- ad];exact zc (av k t) (i:=0) rfl,?_⟩;refine⟨Nat,fun i=>⟨[(0,.slice q ws.length c),(4,.slice (some ⟨bp,op,none⟩) xs.length c'),(7,.slice x.2.1 x.1.length x.2.2),(21,.slice (some ⟨bp,op,none⟩) xs.length c'),(22,i64 xs.length),(23,i64 (k:Nat)),(27,.slice x.2.1 x.1.length x.2.2),(28,i64 x.1.length),(29,i64 (i:Nat))],[]⟩,
   fun i V=>i<=x.1.length/\OwnS zB 3 B V x.2.1 x.2.2 (za8 ws (x.1.take i)++x.1.drop i)/\Z.grownBy V (x.2.1.map Addr.block),fun i=>x.1.length-i,0,
   (cvE rfl rfl),⟨UP _,al,qP _ _⟩,?_⟩
  rintro i V ⟨hi,o,u⟩;refine biE (fun hc=>?_) fun hc=>?_
  ·have hc:(i:Int)<(x.1.length:Int):=dT hc;have aa:i<x.1.length:=by omega
   have bd:(za8 ws (x.1.take i)++x.1.drop i).length=x.1.length:=by
    unfold za8;simp;omega
   have ay:(za8 ws (x.1.take i)++x.1.drop i)[i]'(by omega)=x.1[i]:=by
    exact zpW aa (by omega)
   obtain⟨b',o',ah,bg,ao⟩:=o.row.at (i:=i) (by omega);have af:=ax x.1[i] (gM aa);obtain⟨bw,ow,a7,a5,ap⟩:=hl.at af;subst a7;have a8:∃g,x.2.1=some ⟨g,0,none⟩:=by
    rcases o.inv with⟨h,_⟩ | ⟨g,bf,h,_⟩
    ·rw[h] at ah;cases ah
    ·exact⟨g,h⟩
   obtain⟨g,hg⟩:=a8;have ba:b'=g/\o'=0:=by rw[hg] at ah;simpa using ah.symm
   obtain⟨rfl,rfl⟩:=ba;rw[hg] at o u ⊢;have a6:=(zx o rfl).1;refine⟨i,rfl,aa,i64 x.1[i],by have:=zc (ao i (by omega)) (i:=0) (v:=i64 x.1[i]) (by rw[ay];rfl);exact this,x.1[i],rfl,af,?_⟩;have a1:V.heap[bw]?=w.heap[bw]?:=(u.block bw (by omega) (by have:B<=b':=a6;simp;omega)).trans (ae.block bw a5);refine⟨i64 ws[x.1[i]],zc (qC a1 (ap _ af)) (i:=0) rfl,i,rfl,aa,zhZ (i:=i) (v:=ws[x.1[i]]) k3 rfl o (by omega) fun V' au bb=>nxI (by omega) ⟨i+1,(cvE rfl rfl),⟨aa,?_,zf u bb⟩,zdc (by omega)⟩⟩;have e:(za8 ws (x.1.take i)++x.1.drop i).set i ws[x.1[i]]=za8 ws (x.1.take (i+1))++x.1.drop (i+1):=znT aa af;rw[e] at au;exact au
  ·have hc:¬(i:Int)<(x.1.length:Int):=dF hc;obtain rfl:i=x.1.length:=by omega
   rw[Qn,Qd,QA] at o;have ac:∀y:List Nat×OA×Nat,∀l',OwnS zB 3 B Z y.2.1 y.2.2 l'->(∀a b,x.2.1=some a->y.2.1=some b->a.block≠b.block)->OwnS zB 3 B V y.2.1 y.2.2 l':=fun y l' l a9=>l.same fun b hb=>u.block _ (zx l hb).2.1 (by
    intro e
    cases hx1:x.2.1 with
    | none=>rw [hx1] at e;cases e
    | some a =>
     rw[hx1] at e;simp only[QU,KS] at e;exact a9 a b hx1 hb e.symm)
   unfold AscB at d;rw[ag,List.pairwise_append,List.pairwise_cons] at d;obtain⟨_,⟨aw,_⟩,az⟩:=d;refine nxI (by omega) ⟨k+1,(cvE rfl rfl),⟨t,?_,fun y l=>?_,fun y l=>?_,?_⟩,zdc (by omega)⟩
   ·refine ho.same fun a ha=>u.block _ (zx ho ha).2.1 fun e=>?_
    cases hx1:x.2.1 with
    | none=>rw [hx1] at e;cases e
    | some a2 =>
     rw[hx1] at e;simp only[QU,KS] at e;obtain⟨_,_,c1,h1⟩:=zx ho ha;obtain⟨_,_,c2,h2⟩:=zx al hx1;rw[<- e,h1] at h2;simp at h2
   ·rw[tsg t,ad] at l;rcases QH.1 l with l | l
    ·exact ac y _ (am y l) fun a b ha hb e=>by
      have:=az y l x (by simp) b a hb ha;omega
    ·rw[Kv.1 l];exact o
   ·exact ac y _ (hdr y (by rw[ab];exact JR _ l)) fun a b ha hb e=>by
     have:=aw y l a b ha hb;omega
   ·cases hx1:x.2.1 with
    | none =>
     rw[hx1] at u;exact ae.trans ⟨u.os,u.tape,u.output,u.size,fun j hj=>u.block j (by omega) (fun e=>by cases e)⟩
    | some a =>
     rw[hx1] at u;exact ae.trans (zm u aj (by have:=(zx al hx1).1;omega))
 ·have hc:¬(k:Int)<(xs.length:Int):=dF hc;obtain rfl:k=xs.length:=by omega
  rw[Qn] at am;refine⟨⟨xs.map fun x=>(za8 ws x.1,x.2),p,c',by rw[QD];rfl,?_,?_,fun y l=>?_⟩,ae⟩
  ·rw[an,Uw,Uw];rfl
  ·rw[<- hB];have e1:(xs.map fun x=>(za8 ws x.1,x.2)).flatMap qF.enc=xs.flatMap qF.enc:=by
    rw[Qf];congr 1;funext x;show[Value.slice x.2.1 (za8 ws x.1).length x.2.2]=[Value.slice x.2.1 x.1.length x.2.2];unfold za8;rw[QD]
   unfold OwnS at ho ⊢;rw[e1,QD];exact ho
  ·obtain⟨x,z,rfl⟩:=Uz.1 l;rw[<- hB];exact am x z
end
def exC (x:ExD) (q:OA) (c:Nat):List Value := .slice q x.ev.length c::(zd x.po++(zd x.rf++(zd x.co++(zd x.dt++(zd x.ct++(zd x.rm++(seg 32 (fun i=>u8 (x.regs i))++seg 6 (fun i=>u8 (x.mem i)))))))))
theorem zM(x:ExD)(q:OA)(c:Nat):(exC x q c).length=333:=by
 unfold exC;simp only[Qj,lap,ze,zy]
theorem zbt(x:ExD)(q:OA)(c:Nat):(exC x q c).all Value.oneCell'=true:=by
 unfold exC;rw[Up,Qz,Qz,Qz,Qz,Qz,Qz,Qz,zD,zD,zD,zD,zD,zD,zaW fun _=>rfl,zaW fun _=>rfl];rfl
section
variable(x:ExD)(q:OA)(c:Nat)(S:List Value)
theorem zlM:∃A Z,A.length=1/\∀r,exC { x with po:=r } q c++S=A++(zd r++Z) :=
 ⟨.slice q x.ev.length c::[],(zd x.rf++(zd x.co++(zd x.dt++(zd x.ct++(zd x.rm++(seg 32 (fun i=>u8 (x.regs i))++(seg 6 (fun i=>u8 (x.mem i))++S))))))),by simp only[Qj,QE,lap,ze],fun r=>by simp only[exC,KH,Qc,QJ]⟩
theorem zrt:∃A Z,A.length=50/\∀r,exC { x with rf:=r } q c++S=A++(zd r++Z) :=
 ⟨.slice q x.ev.length c::zd x.po,(zd x.co++(zd x.dt++(zd x.ct++(zd x.rm++(seg 32 (fun i=>u8 (x.regs i))++(seg 6 (fun i=>u8 (x.mem i))++S)))))),by simp only[Qj,QE,lap,ze],fun r=>by simp only[exC,KH,Qc,QJ]⟩
theorem zrv:∃A Z,A.length=99/\∀r,exC { x with co:=r } q c++S=A++(zd r++Z) :=
 ⟨.slice q x.ev.length c::(zd x.po++zd x.rf),(zd x.dt++(zd x.ct++(zd x.rm++(seg 32 (fun i=>u8 (x.regs i))++(seg 6 (fun i=>u8 (x.mem i))++S))))),by simp only[Qj,QE,lap,ze],fun r=>by simp only[exC,KH,Qc,QJ]⟩
theorem zlN:∃A Z,A.length=148/\∀r,exC { x with dt:=r } q c++S=A++(zd r++Z) :=
 ⟨.slice q x.ev.length c::(zd x.po++(zd x.rf++zd x.co)),(zd x.ct++(zd x.rm++(seg 32 (fun i=>u8 (x.regs i))++(seg 6 (fun i=>u8 (x.mem i))++S)))),by simp only[Qj,QE,lap,ze],fun r=>by simp only[exC,KH,Qc,QJ]⟩
theorem zlO:∃A Z,A.length=197/\∀r,exC { x with ct:=r } q c++S=A++(zd r++Z) :=
 ⟨.slice q x.ev.length c::(zd x.po++(zd x.rf++(zd x.co++zd x.dt))),(zd x.rm++(seg 32 (fun i=>u8 (x.regs i))++(seg 6 (fun i=>u8 (x.mem i))++S))),by simp only[Qj,QE,lap,ze],fun r=>by simp only[exC,KH,Qc,QJ]⟩
theorem zlL:∃A Z,A.length=246/\∀r,exC { x with rm:=r } q c++S=A++(zd r++Z) :=
 ⟨.slice q x.ev.length c::(zd x.po++(zd x.rf++(zd x.co++(zd x.dt++zd x.ct)))),(seg 32 (fun i=>u8 (x.regs i))++(seg 6 (fun i=>u8 (x.mem i))++S)),by simp only[Qj,QE,lap,ze],fun r=>by simp only[exC,KH,Qc,QJ]⟩
theorem zqA:∃A Z,A.length=295/\∀f,exC { x with regs:=f } q c++S=A++(seg 32 (fun i=>u8 (f i))++Z) :=
 ⟨.slice q x.ev.length c::(zd x.po++(zd x.rf++(zd x.co++(zd x.dt++(zd x.ct++zd x.rm))))),(seg 6 (fun i=>u8 (x.mem i))++S),by simp only[Qj,lap,ze],fun f=>by simp only[exC,KH,Qc,QJ]⟩
theorem zoP:∃A Z,A.length=327/\∀f,exC { x with mem:=f } q c++S=A++(seg 6 (fun i=>u8 (f i))++Z) :=
 ⟨.slice q x.ev.length c::(zd x.po++(zd x.rf++(zd x.co++(zd x.dt++(zd x.ct++(zd x.rm++seg 32 (fun i=>u8 (x.regs i)))))))),S,by simp only[Qj,lap,ze,zy],fun f=>by simp only[exC,KH,Qc,QJ]⟩
theorem zru(l:List Ev)(q':OA)(c':Nat):(exC x q c++S).set 0 (.slice q' l.length c')=exC { x with ev:=l } q' c'++S:=by
 unfold exC;rw[Qc,List.set_cons_zero,Qc]
theorem zsa:(exC x q c++S)[0]?=some (.slice q x.ev.length c):=rfl
end
theorem zfp{x:ExD}{q:OA}{c:Nat}{S:List Value}{i:Nat}{v:Value}(h:S[i]?=some v):(exC x q c++S)[333+i]?=some v:=by
 rw[qH (zM _ _ _)];exact h
theorem zh3{x:ExD}{q:OA}{c:Nat}{S:List Value}{i:Nat}{v:Value}:(exC x q c++S).set (333+i) v=exC x q c++S.set i v:=jq (zM _ _ _)
abbrev zaj:=List Nat×OA×Nat
abbrev slV (x:zaj):Value := .slice x.2.1 x.1.length x.2.2
def zc4 (l:List zaj):List Value:=l.map slV
theorem zeC:∀l:List zaj,l.flatMap qF.enc=zc4 l
 | []=>rfl
 | a::l=>by
  show slV a::l.flatMap qF.enc=slV a::zc4 l;rw[zeC l]
abbrev RowLH (Z:Wd) (g:Nat) (l:List zaj):Prop:=Z.heap[g]?=some (.cells (zc4 l).toArray 89 (0,0))
theorem RowLH.sl{Z:Wd}{g:Nat}{l:List zaj}(h:RowLH Z g l):SlR qF Z (some ⟨g,0,none⟩) l :=
 SlR.of_cells (hlt h) (by rw[zeC];exact za h)
theorem RowLH.own{Z:Wd}{g B:Nat}{l:List zaj}(h:RowLH Z g l)(hB:B<=g)(hm:l.length<=maxLen):OwnS qF 89 B Z (some ⟨g,0,none⟩) l.length l:=by
 unfold OwnS World.ownsRow;have a:(zc4 l).length=l.length:=by unfold zc4;rw[QD]
 refine⟨by rw[zU],.inr ⟨g,l.length,(zc4 l).toArray,rfl,hB,h,UN _,hm,?_,?_⟩⟩
 ·show(zc4 l).length=l.length*1;rw[a,UO]
 ·show(zc4 l).take (l.length*1)=_;rw[zeC,JB (by rw[a,UO];exact UN _)]
structure Rows (B:Nat) (Z:Wd) (W:List zaj):Prop where
 own:∀x∈W,OwnS zB 3 B Z x.2.1 x.2.2 x.1
 dis:∀(i j:Nat) (x y:zaj),W[i]?=some x->W[j]?=some y->i≠j->∀a b,x.2.1=some a->y.2.1=some b->a.block≠b.block
theorem Rows.same{B:Nat}{Z Y:Wd}{W:List zaj}(h:Rows B Z W)(hs:∀x∈W,∀a,x.2.1=some a->Y.heap[a.block]?=Z.heap[a.block]?):Rows B Y W :=
 ⟨fun x b=>(h.own x b).same (hs x b),h.dis⟩
theorem Rows.nils(B:Nat)(Z:Wd)(n:Nat):Rows B Z (List.replicate n ([],none,0)):=by
 refine⟨fun x d=>?_,fun i j x y d f _ a b e _=>?_⟩
 ·rw[Jq d];exact OwnS.nil
 ·have:=JS d;rw[Jq this] at e
  cases e
theorem Rows.set{B:Nat}{Z Y:Wd}{W:List zaj}{i:Nat}{x y:zaj}(h:Rows B Z W)(hi:W[i]?=some x)(ho:OwnS zB 3 B Y y.2.1 y.2.2 y.1)(hg:Z.grownBy Y (x.2.1.map Addr.block))(hat:∀a,y.2.1=some a->x.2.1=some a\/Z.heap.size<=a.block):Rows B Y (W.set i y):=by
 obtain⟨p,aa⟩:=Jo.1 hi;have t:∀(j:Nat) (z:zaj),W[j]?=some z->i≠j->∀b,z.2.1=some b->Y.heap[b.block]?=Z.heap[b.block]?:=fun j z d l b m=>by
  refine hg.block _ (zx (h.own z (JS d)) m).2.1 fun e=>?_
  cases hx1:x.2.1 with
  | none=>rw [hx1] at e;cases e
  | some a =>
   rw[hx1] at e;simp only[QU,KS] at e;exact h.dis i j x z hi d l a b hx1 m e.symm
 have inv:∀(j:Nat) (z:zaj),(W.set i y)[j]?=some z->(i=j/\z=y)\/(i≠j/\W[j]?=some z):=fun j z d=>by
  by_cases e:i=j
  ·subst e;rw[Jz p] at d;exact .inl ⟨rfl,(QV d).symm⟩
  ·rw[JQ e] at d;exact .inr ⟨e,d⟩
 refine⟨fun z hz=>?_,fun j k u v hu w r a b o m=>?_⟩
 ·obtain⟨j,d⟩:=List.mem_iff_getElem?.1 hz;rcases inv j z d with⟨_,rfl⟩ | ⟨l,d⟩
  ·exact ho
  ·exact(h.own z (JS d)).same (t j z d l)
 ·rcases inv j u hu with⟨e1,rfl⟩ | ⟨s,f⟩ <;> rcases inv k v w with⟨e2,rfl⟩ | ⟨n2,g⟩
  ·omega
  ·rcases hat a o with n | n
   ·exact h.dis i k x v hi g n2 a b n m
   ·have:=(zx (h.own v (JS g)) m).2.1;omega
  ·rcases hat b m with n | n
   ·exact h.dis j i u x f hi (fun e=>s e.symm) a b o n
   ·have:=(zx (h.own u (JS f)) o).2.1;omega
  ·exact h.dis j k u v f g r a b o m
end Go.Proofs.YtakcdebpklffiaaGreatDoor
