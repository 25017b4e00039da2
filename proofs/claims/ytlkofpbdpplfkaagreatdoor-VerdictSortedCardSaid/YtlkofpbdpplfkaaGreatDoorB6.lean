/- Contracts of functions, and plain facts, for the law that the last text of this claim proves. -/
import Derived.Test.YtlkofpbdpplfkaaGreatDoorB2
import Derived.Test.YtlkofpbdpplfkaaGreatDoorB5
import Derived.Shelf.Strings.Builder1
import Derived.Shelf.Strings.Builder2
import Derived.Shelf.Strings.OnBuilder
import Derived.Shelf.Small.Bits
import Derived.Shelf.Utf8.RuneCount
import Derived.Shelf.Strconv.Itoa0
import Derived.Shelf.Strconv.Itoa1
import Derived.Shelf.LaysM
import Derived.Shelf.Strconv.Itoa2
import Derived.Shelf.Strconv.Itoa3
import Derived.Shelf.Strconv.Clone
import Derived.Shelf.Strconv.Lower
import Derived.Shelf.Strconv.RangeError
import Derived.Shelf.LaysC
import Derived.Shelf.Strconv.ToErrorRange
import Derived.Shelf.Strconv.ParseUintEmpty
import Derived.Shelf.Strconv.ParseUint10b8
import Derived.Ground.MpProg
import Derived.Shelf.Pu.ParseUintPublic10
import Derived.Shelf.Pu.ErrVarParseUint
import Derived.Shelf.Strings.Search1
import Derived.Shelf.Strings.Search2
import Derived.Shelf.Strings.Search3
import Derived.Shelf.Strings.Cut
import Derived.Shelf.Strings.Count
import Derived.Shelf.Strings.Shaped
import Derived.Shelf.Strings.Split
import Derived.Shelf.Strings.SplitShaped
import Derived.Shelf.Unicode.Decode
import Derived.Shelf.Strings.RuneCount
import Derived.Shelf.Strings.Explode
import Derived.Shelf.Unicode.DecodeSlow
import Derived.Shelf.Unicode.DecodeAny
import Derived.Ground.Names2Prog
import Derived.Shelf.Slices.Clone
import Derived.Shelf.Slices.SearchI
import Derived.Ground.SlgnProg
import Derived.Shelf.SlicesE.Clone
import Derived.Ground.SlsfProg
import Derived.Shelf.SlSortCmp.Insertion
import Derived.Shelf.SlSortCmp.InsertionK
import Derived.Shelf.SlSortCmp.SiftDownK
import Derived.Shelf.SlSortCmp.HeapSortK
import Derived.Shelf.SlSortCmp.MedianK
import Derived.Shelf.SlSortCmp.PivotK
import Derived.Shelf.SlSortCmp.ReverseRangeK
import Derived.Shelf.SlSortCmp.PartialInsertionK
import Derived.Shelf.SlSortCmp.PartitionEqualK
import Derived.Shelf.SlSortCmp.PartitionK
import Derived.Shelf.SlSortCmp.PdqK
import Derived.Shelf.SlSortCmp.WholeK
import Derived.Shelf.SlSortCmp.Insertion1
import Derived.Shelf.SlSortCmp.NoneTotal
import Derived.Test.YtlkofpbdpplfkaaGreatDoorProg
import Derived.Lib.ItoaNum
import Derived.Test.YtlkofpbdpplfkaaGreatDoorB1
set_option linter.unusedSimpArgs false
set_option linter.unusedVariables false
namespace Go.Proofs.YtlkofpbdpplfkaaGreatDoor
open Go.Vc Go.RowKit Go.Sei
section
variable {w:World}
theorem of_c {k:UInt8} {kids:List Cnd} {q:Option Addr} {cap:Nat}:CB 11 #[u8 k,.slice q kids.length cap] w (cndV (.mk k 0 0 0 kids) q cap):=by
 refine cofE 8 [u8 k,.slice q kids.length cap] Tryz.func11 ?_;have f0:=hnew w (.cells #[.int .u8 0,.int .u8 0,.int .u8 0,.int .u8 0,.slice none 0 0] 29);refine⟨zar (.mk k 0 0 0 kids) q cap,rfl,?_⟩;refine zam (v:=cndV (.mk k 0 0 0 kids) q cap) k29 f0 rfl rfl rfl ?_;exact⟨_,rfl,zaa (zaj f0),rfl,zag ((zba w _)) (Nat.le_refl _) _⟩
theorem zqL {t n v:UInt8}:CB 31 #[u8 t,u8 n,u8 v] w (cndV (.mk 1 t n v []) none 0):=by
 refine cofE 11 [u8 t,u8 n,u8 v] Tryz.func31 ?_;have f0:=hnew w (.cells #[.int .u8 0,.int .u8 0,.int .u8 0,.int .u8 0,.slice none 0 0] 29);refine⟨zar (.mk 1 t n v []) none 0,rfl,?_⟩;refine zam (v:=cndV (.mk 1 t n v []) none 0) k29 f0 rfl rfl rfl ?_;exact⟨_,rfl,zaa (zaj f0),rfl,zag ((zba w _)) (Nat.le_refl _) _⟩
def zerF:List Value:=List.replicate 38 (.int .u8 0)
def midF:List Value:=List.replicate 32 (.int .u8 0)++[.int .u8 1,.int .u8 1,.int .u8 0,.int .u8 0,.int .u8 0,.int .u8 0]
theorem zfw {a b:UInt8}:CB 32 #[u8 a,u8 b] w (zaD (outF a b)):=by
 refine cofM 17 [u8 a,u8 b] (.s .p (.c .p (.c .p .p))) Tryz.func32 ?_;have f4:(w.alloc (.cells (List.replicate 38 (.int .u8 0)).toArray 27)).heap[w.heap.size]?=some (.cells zerF.toArray 27 (0,0)):=hnew w _;have b1:Bw w (w.alloc (.cells (List.replicate 38 (.int .u8 0)).toArray 27)):=zba w _;have n1:(w.alloc (.cells (List.replicate 38 (.int .u8 0)).toArray 27)).heap.size=w.heap.size+1:=wz _ _;refine⟨Unit,fun _=>⟨[(0,u8 a),(1,u8 b),(4,At0 w.heap.size),(5,At0 (w.heap.size+1))],[]⟩,fun _ X=>X.heap[w.heap.size]?=some (.cells zerF.toArray 27 (0,0))/\X.heap[w.heap.size+1]?=some (.cells midF.toArray 27 (0,0))/\Bw w X,?_,?_⟩
 ·refine⟨[.int .u8 1,.int .u8 1,.int .u8 0,.int .u8 0,.int .u8 0,.int .u8 0],rfl,?_⟩;refine⟨midF,by kernel_rfl,?_⟩;have f5:=hnew (w.alloc (.cells (List.replicate 38 (.int .u8 0)).toArray 27)) (.cells (List.replicate 38 (.int .u8 0)).toArray 27);refine zam (v := .agg midF.toArray) k27 f5 (by kernel_rfl) (by kernel_rfl) (by kernel_rfl) ?_;have f5:=zaj (cs':=(Value.agg midF.toArray).cells) f5;have bb:=zag (b1.alloc (by omega) (.cells (List.replicate 38 (.int .u8 0)).toArray 27)) (g:=(w.alloc (.cells (List.replicate 38 (.int .u8 0)).toArray 27)).heap.size) (by omega) (Value.agg midF.toArray).cells;have f4':=(zao (cs:=(Value.agg midF.toArray).cells) (show w.heap.size≠(w.alloc (.cells (List.replicate 38 (.int .u8 0)).toArray 27)).heap.size by omega)).trans (hold (.cells (List.replicate 38 (.int .u8 0)).toArray 27) f4);refine⟨(),⟨.cons rfl (.cons rfl (.cons rfl (.cons (by rw [<- n1];rfl) .nil))),rfl⟩,f4',?_,bb⟩;rw [<- n1];exact f5
 rintro _ X ⟨f4,f5,bX⟩;refine⟨Unit,fun _=>⟨[(4,At0 w.heap.size),(5,At0 (w.heap.size+1))],[]⟩,fun _ X=>X.heap[w.heap.size]?=some (.cells zerF.toArray 27 (0,0))/\X.heap[w.heap.size+1]?=some (.cells (finE.enc (outF a b)).toArray 27 (0,0))/\Bw w X,?_,?_⟩
 ·refine⟨0,rfl,by decide,?_⟩;refine⟨0,rfl,by decide,?_⟩;refine zal k5 f5 (o:=0+0+0*8+0*1) (v:=u8 a) rfl rfl (by decide) rfl fun Y fY gY sY=>?_;refine⟨1,rfl,by decide,?_⟩;refine⟨0,rfl,by decide,?_⟩;refine zal k5 fY (o:=0+0+1*8+0*1) (v:=u8 b) rfl rfl (by rw [List.length_set];decide) rfl fun Z fZ gZ sZ=>?_;have g2:=zae gY gZ;exact⟨(),(cvE rfl rfl),(g2.block _ (hlt f4) (by simp)).trans f4,fZ,bX.trans (zak g2 bX.size (by omega))⟩
 rintro _ X ⟨f4,f5,bX⟩;refine⟨finE.enc (outF a b),rfl,zaa f5,hlt f5,?_⟩;refine zam (v:=zaD (outF a b)) k27 f4 rfl rfl rfl ?_;exact⟨finE.enc (outF a b),rfl,zaa (zaj f4),rfl,zag bX (Nat.le_refl _) _⟩
theorem zc0:Calls Tryz.prog 30 #[] w fun e w'=>(∃ vs:List Value,e = .returned (.agg vs.toArray)/\PrgX w'.heap.size w' vs bufP)/\Bw w w':=by
 refine cofM 13 [] (.c .p .p) Tryz.func30 ?_;obtain⟨L,hL⟩:=nm (w.heap.size);refine⟨Unit,fun _=>⟨[(0,At0 L)],[]⟩,fun _ X=>(∃ cs:Array Value,X.heap[L]?=some (.cells cs 45 (0,0))/\cs.size=10)/\X.heap.size=L+1/\Bw w X,⟨(),⟨.cons (by rw [hL];rfl) .nil,rfl⟩,⟨_,by rw [hL];exact hnew w _,by kernel_rfl⟩,by rw [wz,hL],(zba w _)⟩,?_⟩;rintro _ W ⟨⟨cs,fL,hcs⟩,sW,hbW⟩;obtain⟨la,hla⟩:=nm ([stI 0 1 0,ldI 0 1 0]);obtain⟨lb,hlb⟩:=nm ([stI 1 1 0,ldI 0 0 0]);obtain⟨W1,hW1⟩:=nm (W.alloc (.cells #[strV [120],strV [121]] 9));obtain⟨W2,hW2⟩:=nm (W1.alloc (.cells #[u8 0,u8 0] 5));obtain⟨W3,hW3⟩:=nm (W2.alloc (.cells (insE.enc (stI 0 1 0)++insE.enc (ldI 0 1 0)).toArray 68));obtain⟨W4,hW4⟩:=nm (W3.alloc (.cells (insE.enc (stI 1 1 0)++insE.enc (ldI 0 0 0)).toArray 68));obtain⟨W5,hW5⟩:=nm (W4.alloc (.cells #[.slice (some ⟨W2.heap.size,0,none⟩) 2 2,.slice (some ⟨W3.heap.size,0,none⟩) 2 2] 64));have hb1:Bw W W1:=by rw [hW1];exact (zba W _)
 have hb2:Bw W1 W2:=by rw [hW2];exact (zba W1 _)
 have hb3:Bw W2 W3:=by rw [hW3];exact (zba W2 _)
 have hb4:Bw W3 W4:=by rw [hW4];exact (zba W3 _)
 have hb5:Bw W4 W5:=by rw [hW5];exact (zba W4 _)
 have f1:W1.heap[W.heap.size]?=some (.cells #[strV [120],strV [121]] 9 (0,0)):=by rw [hW1];exact hnew W _
 have f2:W2.heap[W1.heap.size]?=some (.cells #[u8 0,u8 0] 5 (0,0)):=by rw [hW2];exact hnew W1 _
 have f3:W3.heap[W2.heap.size]?=some (.cells (insE.enc (stI 0 1 0)++insE.enc (ldI 0 1 0)).toArray 68 (0,0)):=by rw [hW3];exact hnew W2 _
 have f4:W4.heap[W3.heap.size]?=some (.cells (insE.enc (stI 1 1 0)++insE.enc (ldI 0 0 0)).toArray 68 (0,0)):=by rw [hW4];exact hnew W3 _
 have f5:W5.heap[W4.heap.size]?=some (.cells #[.slice (some ⟨W2.heap.size,0,none⟩) 2 2,.slice (some ⟨W3.heap.size,0,none⟩) 2 2] 64 (0,0)):=by rw [hW5];exact hnew W4 _
 have s1:W1.heap.size=L+2:=by rw [hW1,wz,sW]
 have s2:W2.heap.size=L+3:=by rw [hW2,wz,s1]
 have s3:W3.heap.size=L+4:=by rw [hW3,wz,s2]
 have s4:W4.heap.size=L+5:=by rw [hW4,wz,s3]
 have s5:W5.heap.size=L+6:=by rw [hW5,wz,s4]
 refine⟨⟨by decide,by decide,rfl⟩,[strV [120],strV [121]],rfl,?_⟩;have hW1':W.alloc (.cells [strV [120],strV [121]].toArray 9)=W1:=hW1.symm;rw [hW1'];refine⟨⟨by decide,by decide,rfl⟩,[u8 0,u8 0],rfl,?_⟩;have hW2':W1.alloc (.cells [u8 0,u8 0].toArray 5)=W2:=hW2.symm;rw [hW2'];refine⟨[.bool false,u8 1],rfl,?_⟩;refine⟨insE.enc (stI 0 1 0),rfl,?_⟩;refine⟨insE.enc (ldI 0 1 0),rfl,?_⟩;refine⟨⟨by decide,by decide,rfl⟩,insE.enc (stI 0 1 0)++insE.enc (ldI 0 1 0),by kernel_rfl,?_⟩;rw [<- hW3];refine⟨[.bool false,u8 1],rfl,?_⟩;refine⟨insE.enc (stI 1 1 0),rfl,?_⟩;refine⟨insE.enc (ldI 0 0 0),rfl,?_⟩;refine⟨⟨by decide,by decide,rfl⟩,insE.enc (stI 1 1 0)++insE.enc (ldI 0 0 0),by kernel_rfl,?_⟩;rw [<- hW4];refine⟨⟨by decide,by decide,rfl⟩,[.slice (some ⟨W2.heap.size,0,none⟩) 2 2,.slice (some ⟨W3.heap.size,0,none⟩) 2 2],rfl,?_⟩;have hW5':W4.alloc (.cells [.slice (some ⟨W2.heap.size,0,none⟩) 2 2,.slice (some ⟨W3.heap.size,0,none⟩) 2 2].toArray 64)=W5:=hW5.symm;rw [hW5'];obtain⟨vs,hvs⟩:=nm (zbZ bufP (some ⟨W.heap.size,0,none⟩) 2 (some ⟨W1.heap.size,0,none⟩) 2 (some ⟨W4.heap.size,0,none⟩) 2 none 0);refine⟨vs,by rw [hvs];rfl,?_⟩;have hb12:=zst hb1 hb2;have hb34:=zst hb3 hb4;have hb35:=zst hb34 hb5;have hb15:Bw W W5:=zst hb12 hb35;have fL5:W5.heap[L]?=some (.cells cs 45 (0,0)):=zab hb15 fL;have hlen:vs.length=10:=by rw [hvs];rfl
 have hone:vs.all Value.oneCell'=true:=by rw [hvs];rfl
 refine zam (v := .agg vs.toArray) k45 fL5 hlen hcs hone ?_;obtain⟨Y,hY⟩:=nm (W5.setRow L (Value.agg vs.toArray).cells);rw [<- hY];have fY:Y.heap[L]?=some (.cells vs.toArray 45 (0,0)):=by rw [hY];exact zaj fL5
 have oY:∀ k,k≠L->Y.heap[k]?=W5.heap[k]?:=fun k hk=>by rw [hY];exact zao hk
 have sY:Y.heap.size=W5.heap.size:=by rw [hY];simp
 have bY:Bw w Y:=by rw [hY];exact zag ((zst hbW hb15)) (by omega) _
 refine⟨vs,hlen,zaa fY,⟨vs,rfl,?_⟩,bY⟩;have g1:Y.heap[W.heap.size]?=some (.cells #[strV [120],strV [121]] 9 (0,0)):=(oY _ (by omega)).trans (zab hb35 (zab hb2 f1));have g2:Y.heap[W1.heap.size]?=some (.cells #[u8 0,u8 0] 5 (0,0)):=(oY _ (by omega)).trans (zab hb35 f2);have g3:Y.heap[W2.heap.size]?=some (.cells (insE.enc (stI 0 1 0)++insE.enc (ldI 0 1 0)).toArray 68 (0,0)):=(oY _ (by omega)).trans (zab hb5 (zab hb4 f3));have g4:Y.heap[W3.heap.size]?=some (.cells (insE.enc (stI 1 1 0)++insE.enc (ldI 0 0 0)).toArray 68 (0,0)):=(oY _ (by omega)).trans (zab hb5 f4);have g5:Y.heap[W4.heap.size]?=some (.cells #[.slice (some ⟨W2.heap.size,0,none⟩) 2 2,.slice (some ⟨W3.heap.size,0,none⟩) 2 2] 64 (0,0)):=(oY _ (by omega)).trans f5;have r3:RowB thrE Y.heap.size Y (some ⟨W4.heap.size,0,none⟩) [([stI 0 1 0,ldI 0 1 0],some ⟨W2.heap.size,0,none⟩,2),([stI 1 1 0,ldI 0 0 0],some ⟨W3.heap.size,0,none⟩,2)] := .inr ⟨W4.heap.size,0,rfl,hlt g5,zaa g5⟩;have ra:RowB insE Y.heap.size Y (some ⟨W2.heap.size,0,none⟩) [stI 0 1 0,ldI 0 1 0] := .inr ⟨W2.heap.size,0,rfl,hlt g3,zaa g3⟩;have rb:RowB insE Y.heap.size Y (some ⟨W3.heap.size,0,none⟩) [stI 1 1 0,ldI 0 0 0] := .inr ⟨W3.heap.size,0,rfl,hlt g4,zaa g4⟩;have rows:∀ x∈[(([stI 0 1 0,ldI 0 1 0],some ⟨W2.heap.size,0,none⟩,2):ThrR),([stI 1 1 0,ldI 0 0 0],some ⟨W3.heap.size,0,none⟩,2)],RowB insE Y.heap.size Y x.2.1 x.1/\∀ a,x.2.1=some a->a.block<Y.heap.size:=by
  simp only [List.mem_cons,List.not_mem_nil,or_false,forall_eq_or_imp,forall_eq];exact⟨⟨ra,fun a h=>by cases h;exact hlt g3⟩,rb,fun a h=>by cases h;exact hlt g4⟩
 refine⟨⟨⟨by show 2<=_;decide,by show 2<=_;decide,fun s hs=>?_,by show 2<=_;decide,by show 2<=_;decide,fun l hl=>?_⟩,some ⟨W.heap.size,0,none⟩,2,some ⟨W1.heap.size,0,none⟩,2,some ⟨W4.heap.size,0,none⟩,2,none,0,hvs,?_,?_,?_,?_,?_⟩,?_,?_⟩
 ·have hs:s=[120]\/s=[121]:=by simpa [bufP] using hs
  rcases hs with rfl | rfl <;> decide
 ·have hl:l=[stI 0 1 0,ldI 0 1 0]\/l=[stI 1 1 0,ldI 0 0 0]:=by simpa [bufP] using hl
  rcases hl with rfl | rfl <;> (show 2<=140737488351232;decide)
 ·exact .inr ⟨W.heap.size,0,rfl,hlt g1,zaa g1⟩
 ·exact .inr ⟨W1.heap.size,0,rfl,hlt g2,zaa g2⟩
 ·exact⟨_,rfl,r3,fun x hx=>(rows x hx).1⟩
 ·exact .mk none [] (by decide) 0 0 (.inl rfl) (fun _=>none) (fun _=>0) (fun i hi=>by simp at hi) (fun i hi=>by simp at hi)
 ·exact Nat.le_refl 2
 ·exact⟨some ⟨W4.heap.size,0,none⟩,2,by rw [hvs];rfl,_,rfl,r3,rows⟩
 ·exact⟨some ⟨W1.heap.size,0,none⟩,2,by rw [hvs];rfl,.inr ⟨W1.heap.size,0,rfl,hlt g2,zaa g2⟩⟩
end
end Go.Proofs.YtlkofpbdpplfkaaGreatDoor
namespace Go.Proofs
open Go.Shelf
def Tryz.lays156_ren:Go.Shelf.Ren:=⟨fun | 156=>42 | 165=>64 | 166=>65 | 169=>66 | 240=>114 | 241=>115 | 276=>178 | 277=>179 | n=>n,fun | 31=>41 | 9=>9 | 3=>3 | 4=>4 | 0=>0 | 20=>20 | 72=>122 | 76=>124 | 70=>120 | 37=>42 | 75=>61 | 127=>180 | 164=>255 | 5=>5 | 80=>126 | n=>n,fun | n=>n⟩
theorem Tryz.lays156:Go.Proofs.Lays.n156 Tryz.prog Tryz.lays156_ren:={
 mixed:=by kernel_rfl
 f156:=Tryz.func42.trans (congrArg some (by kernel_rfl))
 f165:=Tryz.func64.trans (congrArg some (by kernel_rfl))
 f166:=Tryz.func65.trans (congrArg some (by kernel_rfl))
 f169:=Tryz.func66.trans (congrArg some (by kernel_rfl))
 f240:=Tryz.func114.trans (congrArg some (by kernel_rfl))
 f241:=Tryz.func115.trans (congrArg some (by kernel_rfl))
 f276:=Tryz.func178.trans (congrArg some (by kernel_rfl))
 f277:=Tryz.func179.trans (congrArg some (by kernel_rfl))
 t0:=Tryz.underlying0
 a0:=Tryz.isAgg0
 z0:=Tryz.sizeOf0
 v0:=Tryz.zeroValue0
 t3:=Tryz.underlying3
 a3:=Tryz.isAgg3
 z3:=Tryz.sizeOf3
 v3:=Tryz.zeroValue3
 t4:=Tryz.underlying4
 a4:=Tryz.isAgg4
 z4:=Tryz.sizeOf4
 v4:=Tryz.zeroValue4
 t9:=Tryz.underlying9
 a9:=Tryz.isAgg9
 z9:=Tryz.sizeOf9
 v9:=Tryz.zeroValue9
 t20:=Tryz.underlying20
 a20:=Tryz.isAgg20
 z20:=Tryz.sizeOf20
 v20:=Tryz.zeroValue20
 t31:=Tryz.underlying41
 a31:=Tryz.isAgg41
 z31:=Tryz.sizeOf41
 v31:=Tryz.zeroValue41
 t37:=Tryz.underlying42
 a37:=Tryz.isAgg42
 z37:=Tryz.sizeOf42
 v37:=Tryz.zeroValue42
 t70:=Tryz.underlying120
 a70:=Tryz.isAgg120
 z70:=Tryz.sizeOf120
 v70:=Tryz.zeroValue120
 t72:=Tryz.underlying122
 a72:=Tryz.isAgg122
 z72:=Tryz.sizeOf122
 v72:=Tryz.zeroValue122
 t75:=Tryz.underlying61
 a75:=Tryz.isAgg61
 z75:=Tryz.sizeOf61
 v75:=Tryz.zeroValue61
 t76:=Tryz.underlying124
 a76:=Tryz.isAgg124
 z76:=Tryz.sizeOf124
 v76:=Tryz.zeroValue124
 t127:=Tryz.underlying180
 a127:=Tryz.isAgg180
 z127:=Tryz.sizeOf180
 v127:=Tryz.zeroValue180
 t164:=Tryz.underlying255
 a164:=Tryz.isAgg255
 z164:=Tryz.sizeOf255
 v164:=Tryz.zeroValue255 }
theorem Tryz.Builder_Extra_156:Builder.Extra Tryz.prog Tryz.lays156_ren:={
 sizeBuilder:=by kernel_rfl
 liesBuilder:=by kernel_rfl
 t5:=Tryz.underlying5
 a5:=Tryz.isAgg5
 z5:=Tryz.sizeOf5
 v5:=Tryz.zeroValue5
 infoByte:=by kernel_rfl
 cellsByte:=by kernel_rfl
 sizeByte:=by kernel_rfl
 neB5:=by decide }
open Go.RowKit in
theorem Tryz.strings_Join (bk o c:Nat) (xs:List ByteArray) (sep:ByteArray) (w:World) (hcells:∀ (j:Nat) x,xs[j]?=some x→w.cell? ⟨bk,o+j,none⟩=some (.string x)) (hbk:bk<w.heap.size) (hN:xs.length≤140737488355328) (hcap:xs.length≤c) (hlen:(Lib.join (xs.map (·.data.toList)) sep.data.toList).length≤140737488355328) :
  Calls Tryz.prog 42 #[.slice (some ⟨bk,o,none⟩) xs.length c,.string sep] w fun e w'=>e = .returned (.string ⟨(Lib.join (xs.map (·.data.toList)) sep.data.toList).toArray⟩)∧Below w.heap.size w w':=Any.strings_Join Tryz.lays156 Tryz.Builder_Extra_156 bk o c xs sep w hcells hbk hN hcap hlen
def Tryz.lays171_ren:Go.Shelf.Ren:=⟨fun | 171=>41 | 243=>63 | 246=>113 | 283=>174 | 284=>175 | 285=>176 | 286=>177 | 129=>111 | 317=>233 | 318=>234 | 319=>235 | 320=>236 | 337=>269 | 338=>270 | n=>n,fun | 3=>3 | 9=>9 | 2=>2 | 4=>4 | 171=>251 | 0=>0 | 53=>59 | 37=>42 | 5=>5 | 173=>253 | 212=>324 | 51=>176 | 20=>20 | 213=>325 | 46=>118 | 232=>368 | 233=>369 | n=>n,fun | 17=>3 | 18=>7 | 19=>8 | n=>n⟩
theorem Tryz.lays171:Go.Proofs.Lays.n171 Tryz.prog Tryz.lays171_ren:={
 mixed:=by kernel_rfl
 f129:=Tryz.func111.trans (congrArg some (by kernel_rfl))
 f171:=Tryz.func41.trans (congrArg some (by kernel_rfl))
 f243:=Tryz.func63.trans (congrArg some (by kernel_rfl))
 f246:=Tryz.func113.trans (congrArg some (by kernel_rfl))
 f283:=Tryz.func174.trans (congrArg some (by kernel_rfl))
 f284:=Tryz.func175.trans (congrArg some (by kernel_rfl))
 f285:=Tryz.func176.trans (congrArg some (by kernel_rfl))
 f286:=Tryz.func177.trans (congrArg some (by kernel_rfl))
 f317:=Tryz.func233.trans (congrArg some (by kernel_rfl))
 f318:=Tryz.func234.trans (congrArg some (by kernel_rfl))
 f319:=Tryz.func235.trans (congrArg some (by kernel_rfl))
 f320:=Tryz.func236.trans (congrArg some (by kernel_rfl))
 f337:=Tryz.func269.trans (congrArg some (by kernel_rfl))
 f338:=Tryz.func270.trans (congrArg some (by kernel_rfl))
 t0:=Tryz.underlying0
 a0:=Tryz.isAgg0
 z0:=Tryz.sizeOf0
 v0:=Tryz.zeroValue0
 t2:=Tryz.underlying2
 a2:=Tryz.isAgg2
 z2:=Tryz.sizeOf2
 v2:=Tryz.zeroValue2
 t3:=Tryz.underlying3
 a3:=Tryz.isAgg3
 z3:=Tryz.sizeOf3
 v3:=Tryz.zeroValue3
 t4:=Tryz.underlying4
 a4:=Tryz.isAgg4
 z4:=Tryz.sizeOf4
 v4:=Tryz.zeroValue4
 t5:=Tryz.underlying5
 a5:=Tryz.isAgg5
 z5:=Tryz.sizeOf5
 v5:=Tryz.zeroValue5
 t9:=Tryz.underlying9
 a9:=Tryz.isAgg9
 z9:=Tryz.sizeOf9
 v9:=Tryz.zeroValue9
 t20:=Tryz.underlying20
 a20:=Tryz.isAgg20
 z20:=Tryz.sizeOf20
 v20:=Tryz.zeroValue20
 t37:=Tryz.underlying42
 a37:=Tryz.isAgg42
 z37:=Tryz.sizeOf42
 v37:=Tryz.zeroValue42
 t46:=Tryz.underlying118
 a46:=Tryz.isAgg118
 z46:=Tryz.sizeOf118
 v46:=Tryz.zeroValue118
 t51:=Tryz.underlying176
 a51:=Tryz.isAgg176
 z51:=Tryz.sizeOf176
 v51:=Tryz.zeroValue176
 t53:=Tryz.underlying59
 a53:=Tryz.isAgg59
 z53:=Tryz.sizeOf59
 v53:=Tryz.zeroValue59
 t171:=Tryz.underlying251
 a171:=Tryz.isAgg251
 z171:=Tryz.sizeOf251
 v171:=Tryz.zeroValue251
 t173:=Tryz.underlying253
 a173:=Tryz.isAgg253
 z173:=Tryz.sizeOf253
 v173:=Tryz.zeroValue253
 t212:=Tryz.underlying324
 a212:=Tryz.isAgg324
 z212:=Tryz.sizeOf324
 v212:=Tryz.zeroValue324
 t213:=Tryz.underlying325
 a213:=Tryz.isAgg325
 z213:=Tryz.sizeOf325
 t232:=Tryz.underlying368
 a232:=Tryz.isAgg368
 z232:=Tryz.sizeOf368
 v232:=Tryz.zeroValue368
 t233:=Tryz.underlying369
 a233:=Tryz.isAgg369
 z233:=Tryz.sizeOf369
 v233:=Tryz.zeroValue369
 g17:=by kernel_rfl
 g18:=by kernel_rfl
 g19:=by kernel_rfl }
open Go.RowKit Go.Sort Go.Lib in
theorem Tryz.strconv_Itoa_small (i:Nat) (hi:i<100) (w:World) :
  Calls Tryz.prog 41 #[.int .i64 i] w fun e w'=>e = .returned (.string ⟨(Lib.decDigits i).toArray⟩)∧w'=w:=Any.strconv_Itoa_small Tryz.lays171 i hi w
def Tryz.laysSlF06_f36_ren:Go.Shelf.Ren:=⟨fun | 6=>36 | 15=>61 | 14=>60 | 28=>110 | 29=>111 | 20=>102 | 21=>103 | 22=>104 | 23=>105 | 24=>106 | 25=>107 | 26=>108 | 27=>109 | 46=>168 | 47=>169 | 48=>170 | 49=>171 | 50=>172 | 57=>232 | n=>n,fun | 22=>35 | 24=>27 | 25=>81 | 3=>3 | 39=>118 | 0=>0 | 53=>176 | 55=>59 | 4=>4 | 46=>169 | 45=>168 | 50=>173 | 5=>5 | 9=>9 | 66=>245 | 70=>249 | 76=>320 | 77=>321 | n=>n,fun | n=>n⟩
theorem Tryz.laysSlF06_f36:Go.Proofs.SlLaysF0.n6 Tryz.prog Tryz.laysSlF06_f36_ren:={
 mixed:=by kernel_rfl
 f6:=⟨Tryz.f36.name,by decide,Tryz.func36.trans (congrArg some (by kernel_rfl))⟩
 f14:=⟨Tryz.f60.name,by decide,Tryz.func60.trans (congrArg some (by kernel_rfl))⟩
 f15:=Tryz.func61.trans (congrArg some (by kernel_rfl))
 f20:=⟨Tryz.f102.name,by decide,Tryz.func102.trans (congrArg some (by kernel_rfl))⟩
 f21:=⟨Tryz.f103.name,by decide,Tryz.func103.trans (congrArg some (by kernel_rfl))⟩
 f22:=⟨Tryz.f104.name,by decide,Tryz.func104.trans (congrArg some (by kernel_rfl))⟩
 f23:=⟨Tryz.f105.name,by decide,Tryz.func105.trans (congrArg some (by kernel_rfl))⟩
 f24:=⟨Tryz.f106.name,by decide,Tryz.func106.trans (congrArg some (by kernel_rfl))⟩
 f25:=⟨Tryz.f107.name,by decide,Tryz.func107.trans (congrArg some (by kernel_rfl))⟩
 f26:=⟨Tryz.f108.name,by decide,Tryz.func108.trans (congrArg some (by kernel_rfl))⟩
 f27:=⟨Tryz.f109.name,by decide,Tryz.func109.trans (congrArg some (by kernel_rfl))⟩
 f28:=Tryz.func110.trans (congrArg some (by kernel_rfl))
 f29:=Tryz.func111.trans (congrArg some (by kernel_rfl))
 f46:=⟨Tryz.f168.name,by decide,Tryz.func168.trans (congrArg some (by kernel_rfl))⟩
 f47:=Tryz.func169.trans (congrArg some (by kernel_rfl))
 f48:=Tryz.func170.trans (congrArg some (by kernel_rfl))
 f49:=⟨Tryz.f171.name,by decide,Tryz.func171.trans (congrArg some (by kernel_rfl))⟩
 f50:=⟨Tryz.f172.name,by decide,Tryz.func172.trans (congrArg some (by kernel_rfl))⟩
 f57:=⟨Tryz.f232.name,by decide,Tryz.func232.trans (congrArg some (by kernel_rfl))⟩
 t0:=Tryz.underlying0
 a0:=Tryz.isAgg0
 z0:=Tryz.sizeOf0
 v0:=Tryz.zeroValue0
 t3:=Tryz.underlying3
 a3:=Tryz.isAgg3
 z3:=Tryz.sizeOf3
 v3:=Tryz.zeroValue3
 t4:=Tryz.underlying4
 a4:=Tryz.isAgg4
 z4:=Tryz.sizeOf4
 v4:=Tryz.zeroValue4
 t5:=Tryz.underlying5
 a5:=Tryz.isAgg5
 z5:=Tryz.sizeOf5
 v5:=Tryz.zeroValue5
 t9:=Tryz.underlying9
 a9:=Tryz.isAgg9
 z9:=Tryz.sizeOf9
 v9:=Tryz.zeroValue9
 t22:=Tryz.underlying35
 a22:=Tryz.isAgg35
 z22:=Tryz.sizeOf35
 v22:=Tryz.zeroValue35
 t25:=Tryz.underlying81
 a25:=Tryz.isAgg81
 z25:=Tryz.sizeOf81
 v25:=Tryz.zeroValue81
 t39:=Tryz.underlying118
 a39:=Tryz.isAgg118
 z39:=Tryz.sizeOf118
 v39:=Tryz.zeroValue118
 t45:=Tryz.underlying168
 a45:=Tryz.isAgg168
 z45:=Tryz.sizeOf168
 v45:=Tryz.zeroValue168
 t46:=Tryz.underlying169
 a46:=Tryz.isAgg169
 z46:=Tryz.sizeOf169
 v46:=Tryz.zeroValue169
 t50:=Tryz.underlying173
 a50:=Tryz.isAgg173
 z50:=Tryz.sizeOf173
 v50:=Tryz.zeroValue173
 t53:=Tryz.underlying176
 a53:=Tryz.isAgg176
 z53:=Tryz.sizeOf176
 v53:=Tryz.zeroValue176
 t55:=Tryz.underlying59
 a55:=Tryz.isAgg59
 z55:=Tryz.sizeOf59
 v55:=Tryz.zeroValue59
 t66:=Tryz.underlying245
 a66:=Tryz.isAgg245
 z66:=Tryz.sizeOf245
 v66:=Tryz.zeroValue245
 t70:=Tryz.underlying249
 a70:=Tryz.isAgg249
 z70:=Tryz.sizeOf249
 v70:=Tryz.zeroValue249
 t76:=Tryz.underlying320
 a76:=Tryz.isAgg320
 z76:=Tryz.sizeOf320
 v76:=Tryz.zeroValue320
 t77:=Tryz.underlying321
 a77:=Tryz.isAgg321
 z77:=Tryz.sizeOf321
 v77:=Tryz.zeroValue321 }
open Go.RowKit Go.Lib Go.Sort in
theorem Tryz.slices_SortFunc_none {α:Type} [Inhabited α] (p:Option Addr) (cap:Nat) (fv:Value) (w:World) :
  Calls Tryz.prog 36 #[.slice p 0 cap,fv] w fun e w'=>e = .returned (.tuple #[])∧w'=w:=AnyF.slices_SortFunc_none Tryz.laysSlF06_f36 p cap fv w
open Go.RowKit Go.Lib Go.Sort in
theorem Tryz.slices_SortFunc_total {α:Type} [Inhabited α] (k:Nat) (aE:∀ w,(isAgg (Tryz.laysSlF06_f36_ren.t 24)).run Tryz.prog w = .ok true w) (zE:∀ w,(Go.sizeOf (Tryz.laysSlF06_f36_ren.t 24)).run Tryz.prog w = .ok k w) (enc:α→List Value) (hk:∀ x,(enc x).length=k) (h1:∀ x,∀ v∈enc x,v.oneCell'=true) (cf:α→α→Int) (hO:SWO (ltOf cf)) (g:Nat) (cb:Array Value) (blk off cap:Nat) (d:Array α) (w:World) (eg:∀ args w,(callFunc g args).run Tryz.prog w = .ok (.enter g args) w) (hcmp:CmpLays Tryz.prog g cb enc k cf blk off d.size w) (hH:HoldsK enc k w blk off d) (hblk:blk<w.heap.size) (hsz:d.size<4611686018427387904) (hT:∀ x y,(ltOf cf) x y=false→(ltOf cf) y x=false→x=y) :
  Calls Tryz.prog 36 #[.slice (some ⟨blk,off,none⟩) d.size cap,.func (.func g) #[] cb] w fun e w' =>
   e = .returned (.tuple #[])∧∃ n os,w'=sortWorldK enc k w blk off n (d.toList.mergeSort fun x y => !(ltOf cf) y x).toArray os:=AnyQ.slices_SortFunc_total Tryz.laysSlF06_f36 k aE zE enc hk h1 cf hO g cb blk off cap d w eg hcmp hH hblk hsz hT
end Go.Proofs
namespace Go.Proofs.YtlkofpbdpplfkaaGreatDoor
open Go.Vc Go.RowKit Go.Sei
def wOp (o:UInt8):Bool:=decide (o=1)||(decide (o=3)||(decide (o=4)||(decide (o=5)||decide (o=6))))
def wrtB (l:List InsD) (r:Nat):Bool:=l.any fun x=>wOp x.op&&decide (x.dst.toNat=r)
theorem zm3 {l:List InsD} {k:Nat} (h:k<l.length) (r:Nat):wrtB (l.take (k+1)) r=(wrtB (l.take k) r||(wOp l[k].op&&decide (l[k].dst.toNat=r))):=by
 unfold wrtB;rw [tsg h,List.any_append];simp
theorem zi3 (f:Nat->Bool):(seg 8 fun r => .bool (f r)).all Value.oneCell'=true:=by
 rw [List.all_eq_true];intro v hv;obtain⟨i,_,rfl⟩:=List.mem_map.1 hv;rfl
section
variable {w:World} {q:Option Addr} {cap:Nat} {l:List InsD}
theorem zk3 (hl:SlR insE w q l) (hn:l.length<=1000000) (hd:∀ x∈l,wOp x.op=true->x.dst.toNat<8):Calls Tryz.prog 40 #[.slice q l.length cap] w fun e w' =>
  e = .returned (.agg (seg 8 fun r => .bool (wrtB l r)).toArray)/\Bw w w':=by
 refine cofM 25 [.slice q l.length cap] (.s .p (.c .p (.c (.s .p (.b (.l (.s .p (.s .p (.s (.b (.c .p (.s .p (.b (.c .p .p))))) .p)))))) .p))) Tryz.func40 ?_;obtain⟨Z0,hZ0⟩:∃ Z0:List Value,Z0=seg 8 fun _ => .bool false:=⟨_,rfl⟩;have f2:=hnew w (.cells (seg 8 fun _ => .bool false).toArray 83);have b1:Bw w (w.alloc (.cells (seg 8 fun _ => .bool false).toArray 83)):=zba w _;have n1:(w.alloc (.cells (seg 8 fun _ => .bool false).toArray 83)).heap.size=w.heap.size+1:=wz _ _;have f3:=hnew (w.alloc (.cells (seg 8 fun _ => .bool false).toArray 83)) (.cells (seg 8 fun _ => .bool false).toArray 83);refine⟨Unit,fun _=>⟨[(0,.slice q l.length cap),(2,At0 w.heap.size),(3,At0 (w.heap.size+1))],[]⟩,fun _ X=>X.heap[w.heap.size]?=some (.cells Z0.toArray 83 (0,0))/\X.heap[w.heap.size+1]?=some (.cells (seg 8 fun r => .bool (wrtB [] r)).toArray 83 (0,0))/\Bw w X,
  ⟨(),⟨.cons rfl (.cons rfl (.cons (by rw [<- n1];rfl) .nil)),rfl⟩,by rw [hZ0];exact hold _ f2,by rw [<- n1];exact f3,b1.alloc (by omega) _⟩,?_⟩
 rintro _ X ⟨f2,f3,bX⟩;clear n1 b1;refine⟨Unit,fun _=>⟨[(2,At0 w.heap.size),(3,At0 (w.heap.size+1))],[]⟩,fun _ X=>X.heap[w.heap.size]?=some (.cells Z0.toArray 83 (0,0))/\X.heap[w.heap.size+1]?=some (.cells (seg 8 fun r => .bool (wrtB l r)).toArray 83 (0,0))/\Bw w X,?_,?_⟩
 ·refine⟨Nat,fun k=>⟨[(2,At0 w.heap.size),(3,At0 (w.heap.size+1)),(6,.slice q l.length cap),(7,i64 l.length),(8,i64 k)],[]⟩,fun k X=>k<=l.length/\X.heap[w.heap.size]?=some (.cells Z0.toArray 83 (0,0))/\X.heap[w.heap.size+1]?=some (.cells (seg 8 fun r => .bool (wrtB (l.take k) r)).toArray 83 (0,0))/\Bw w X,fun k=>l.length-k,0,
   (cvE rfl rfl),⟨Nat.zero_le _,f2,f3,bX⟩,?_⟩
  rintro k X ⟨hk,f2,f3,bX⟩;refine biE (fun h=>?_) fun h=>?_
  ·have hkl:k<l.length:=by have:=dT h;omega
   clear h;obtain⟨b,o,rfl,hlb,hat⟩:=(hl.below bX).at hkl;obtain⟨x,hx⟩:=nm (l[k]);have hatk:=hat k hkl;rw [<- hx] at hatk;have hxm:x∈l:=by rw [hx];exact gM hkl
   have hwt:∀ r,wrtB (l.take (k+1)) r=(wrtB (l.take k) r||(wOp x.op&&decide (x.dst.toNat=r))):=fun r=>by rw [hx];exact zm3 hkl r
   refine⟨Nat,fun s=>⟨[(2,At0 w.heap.size),(3,At0 (w.heap.size+1)),(5,At0 s),(6,.slice (some ⟨b,o,none⟩) l.length cap),(7,i64 l.length),(8,i64 k)],[]⟩,fun s Y=>Y.heap[s]?=some (.cells (insE.enc x).toArray 68 (0,0))/\Bw X Y,?_,?_⟩
   ·refine⟨k,rfl,hkl,?_⟩;refine⟨insE.enc x,rfl,hatk,hlb,?_⟩;refine zap (X:=X) (v := .agg (insE.enc x).toArray) k68 rfl rfl rfl fun U hbU fU sU=>?_;exact⟨X.heap.size,(cvE rfl rfl),fU,hbU⟩
   rintro s Y ⟨f5,hbY⟩;have f2:=zab hbY f2;have f3:=zab hbY f3;have bY:=zst bX hbY;refine⟨_,zac (zaa f5) (i:=0) rfl,?_⟩;refine⟨Unit,fun _=>⟨[(2,At0 w.heap.size),(3,At0 (w.heap.size+1)),(5,At0 s),(6,.slice (some ⟨b,o,none⟩) l.length cap),(7,i64 l.length),(8,i64 k),(14,.bool (wOp x.op))],[]⟩,fun _ Z=>Y=Z,?_,?_⟩
   ·refine biE (fun h=>?_) fun h=>?_
    ·have h:x.op=1:=dT ((zdL (x:=x.op) (y:=1)).symm.trans h);exact⟨(),⟨.cons rfl (.cons rfl (.cons rfl (.cons rfl (.cons rfl (.cons rfl (.cons (by rw [h];rfl) .nil)))))),rfl⟩,rfl⟩
    have h1:¬ x.op=1:=dF ((zdL (x:=x.op) (y:=1)).symm.trans h);refine biE (fun h=>?_) fun h=>?_
    ·have h:x.op=3:=dT ((zdL (x:=x.op) (y:=3)).symm.trans h);exact⟨(),⟨.cons rfl (.cons rfl (.cons rfl (.cons rfl (.cons rfl (.cons rfl (.cons (by rw [h];rfl) .nil)))))),rfl⟩,rfl⟩
    have h3:¬ x.op=3:=dF ((zdL (x:=x.op) (y:=3)).symm.trans h);refine biE (fun h=>?_) fun h=>?_
    ·have h:x.op=4:=dT ((zdL (x:=x.op) (y:=4)).symm.trans h);exact⟨(),⟨.cons rfl (.cons rfl (.cons rfl (.cons rfl (.cons rfl (.cons rfl (.cons (by rw [h];rfl) .nil)))))),rfl⟩,rfl⟩
    have h4:¬ x.op=4:=dF ((zdL (x:=x.op) (y:=4)).symm.trans h);refine biE (fun h=>?_) fun h=>?_
    ·have h:x.op=5:=dT ((zdL (x:=x.op) (y:=5)).symm.trans h);exact⟨(),⟨.cons rfl (.cons rfl (.cons rfl (.cons rfl (.cons rfl (.cons rfl (.cons (by rw [h];rfl) .nil)))))),rfl⟩,rfl⟩
    have h5:¬ x.op=5:=dF ((zdL (x:=x.op) (y:=5)).symm.trans h);have e6:wOp x.op=decide (((x.op.toNat:Nat):Int)=6):=by
     unfold wOp;rw [decide_eq_false h1,decide_eq_false h3,decide_eq_false h4,decide_eq_false h5];exact (zdL (x:=x.op) (y:=6)).symm
    exact⟨(),⟨.cons rfl (.cons rfl (.cons rfl (.cons rfl (.cons rfl (.cons rfl (.cons (by rw [e6];rfl) .nil)))))),rfl⟩,rfl⟩
   rintro _ _ rfl;refine biE (fun h=>?_) fun h=>?_
   ·have hd8:=hd x hxm h;refine⟨_,zac (zaa f5) (i:=1) rfl,?_⟩;refine⟨x.dst.toNat,rfl,hd8,?_⟩;refine zal k4 f3 (o:=0+x.dst.toNat*1) (v := .bool true) rfl rfl (by rw [zat];omega) rfl fun V fV gV sV=>?_;rw [Nat.zero_add,Nat.mul_one] at fV;have e:=zio (n:=8) (fun r => .bool (wrtB (l.take k) r)) (fun r => .bool (wrtB (l.take (k+1)) r)) (i:=x.dst.toNat) hd8 rfl fun j hj=>by
     rw [hwt,decide_eq_false (fun e=>hj e.symm),Bool.and_false,Bool.or_false]
    rw [hwt,h,decide_eq_true rfl,Bool.and_true,Bool.or_true] at e;rw [e] at fV;refine⟨_,zaf (by omega),?_⟩;exact⟨k+1,(cvE rfl rfl),⟨hkl,(gV.block _ (hlt f2) (by simp)).trans f2,fV,bY.trans (zak gV bY.size (by omega))⟩,by dsimp only;omega⟩
   ·have e:(fun r=>Value.bool (wrtB (l.take (k+1)) r))=fun r => .bool (wrtB (l.take k) r):=funext fun r=>by rw [hwt,h,Bool.false_and,Bool.or_false]
    refine⟨_,zaf (by omega),?_⟩;exact⟨k+1,(cvE rfl rfl),⟨hkl,f2,by rw [e];exact f3,bY⟩,by dsimp only;omega⟩
  ·have hke:k=l.length:=by have:=dF h;omega
   subst hke;rw [List.take_length] at f3;exact⟨(),(cvE rfl rfl),f2,f3,bX⟩
 rintro _ X ⟨f2,f3,bX⟩;refine⟨seg 8 fun r => .bool (wrtB l r),zat 8 _,zaa f3,hlt f3,?_⟩;refine zam (v := .agg (seg 8 fun r => .bool (wrtB l r)).toArray) k83 f2 (by show (seg 8 _).length=8;exact zat 8 _) (by rw [hZ0];show (seg 8 _).length=8;exact zat 8 _) (zi3 _) ?_;exact⟨seg 8 fun r => .bool (wrtB l r),zat 8 _,zaa (zaj f2),rfl,zag bX (Nat.le_refl _) _⟩
end
theorem zdy (x y:Operand) (a b:List UInt8) (h:a.length+b.length<=1000000000) (w:World):(do eqGuard .add 9 x y (strV a) (strV b);binOp .add 9 (strV a) (strV b)).run Tryz.prog w = .ok (strV (a++b)) w:=by
 have h1:(eqGuard .add 9 x y (strV a) (strV b)).run Tryz.prog w = .ok () w:=rfl;have hsz:¬ (((bs a).size+(bs b).size:Nat):Int) > IntKind.i64.max:=by
  have e1:(bs a).size=a.length:=rfl;have e2:(bs b).size=b.length:=rfl;rw [e1,e2];have:IntKind.i64.max=9223372036854775807:=by decide
  omega
 have h3:bs a++bs b=bs (a++b):=by
  apply ByteArray.ext;simp [bs,ByteArray.data_append]
 rw [Sem.run_bind,h1,Result.andThen_ok];show (Op.stringOp .add (bs a) (bs b)).run Tryz.prog w=_;simp only [Op.stringOp,if_neg hsz,Sem.run_pure,h3];rfl
def decB (n:Nat):List UInt8:=if n<10 then [UInt8.ofNat (48+n)] else if n<100 then [UInt8.ofNat (48+n/10),UInt8.ofNat (48+n%10)] else [UInt8.ofNat (48+n/10/10),UInt8.ofNat (48+n/10%10),UInt8.ofNat (48+n%10)]
theorem zp1 {n:Nat} (h:n<1000):Lib.decDigits n=decB n:=by
 unfold decB;by_cases h1:n<10
 ·rw [if_pos h1,Lib.decDigits,dif_pos h1]
 ·rw [if_neg h1,Lib.decDigits,dif_neg h1];by_cases h2:n<100
  ·rw [if_pos h2,Lib.decDigits,dif_pos (by omega)];rfl
  ·rw [if_neg h2,Lib.decDigits,dif_neg (by omega),Lib.decDigits,dif_pos (by omega)];rfl
theorem zcZ (n:Nat):(decB n).length<=3:=by
 unfold decB
 split
 ·simp
 ·split <;> simp
def ItoH (N:Nat) (w:World):Prop:=∀ n,n<N->∀ X,Bw w X->Calls Tryz.prog 41 #[i64 n] X fun e Y=>e = .returned (strV (decB n))/\Bw X Y
theorem ItoH.below {N:Nat} {w X:World} (h:ItoH N w) (hb:Bw w X):ItoH N X:=fun n hn Y hY=>h n hn Y ((zst hb hY))
theorem zkD (w:World):ItoH 100 w:=fun n hn X _=>by
 refine cmo (Tryz.strconv_Itoa_small n hn X) ?_;rintro e _ ⟨rfl,rfl⟩;rw [zp1 (by omega)];exact⟨rfl,Below.refl _ _⟩
def regW (F:FinV) (t r:Nat):List UInt8:=decB t++[58,114]++decB r++[61]++decB (F.reg t r).toNat
def locW (F:FinV) (k:Nat) (name:List UInt8):List UInt8:=name++[61]++decB (F.mem k).toNat
def zf8 (F:FinV) (l:List InsD) (t r:Nat):List (List UInt8):=((List.range r).filter (wrtB l)).map (regW F t)
def zeo (F:FinV) (ts:List (List InsD)) (k:Nat):List (List UInt8):=(List.range k).flatMap fun t=>zf8 F (ts.getD t []) t 8
def zey (F:FinV) (ls:List (List UInt8)) (k:Nat):List (List UInt8):=(List.range k).map fun i=>locW F i (ls.getD i [])
def zot (p:Prg) (F:FinV):List (List UInt8):=zeo F p.threads p.threads.length++zey F p.locs p.locs.length
def znk (p:Prg) (F:FinV):List UInt8:=if zf9 p=true then Lib.join (zot p F) [32] else []
theorem zkv (F:FinV) (l:List InsD) (t r:Nat):zf8 F l t (r+1)=zf8 F l t r++if wrtB l r=true then [regW F t r] else []:=by
 unfold zf8;rw [List.range_succ,List.filter_append,List.map_append,List.filter_cons,List.filter_nil]
 split <;> rfl
theorem zkh (F:FinV) (ts:List (List InsD)) (k:Nat):zeo F ts (k+1)=zeo F ts k++zf8 F (ts.getD k []) k 8:=by
 unfold zeo;rw [List.range_succ,List.flatMap_append,List.flatMap_singleton]
theorem zkC (F:FinV) (ls:List (List UInt8)) (k:Nat):zey F ls (k+1)=zey F ls k++[locW F k (ls.getD k [])]:=by
 unfold zey;rw [List.range_succ,List.map_append];rfl
theorem znv (F:FinV) (t r:Nat):(regW F t r).length<=20:=by
 have:=zcZ t;have:=zcZ r;have:=zcZ (F.reg t r).toNat;unfold regW;simp only [lap,List.length_cons,List.length_nil];omega
theorem zpD {M:Nat} {sep:List UInt8}:∀ {ws:List (List UInt8)},(∀ x∈ws,x.length<=M)->(Lib.join ws sep).length<=ws.length*(M+sep.length):=by
 intro ws h;have e:∀ (a:List UInt8) (r:List (List UInt8)),Lib.join (a::r) sep=a++Lib.joinTail sep r:=fun a r=>by
  induction r generalizing a with
  | nil=>simp [Lib.join,Lib.joinTail,List.intercalate]
  | cons b r ih =>
   have h1:Lib.join (a::b::r) sep=a++sep++Lib.join (b::r) sep:=by simp [Lib.join,List.intercalate]
   rw [h1,ih];simp [Lib.joinTail]
 have tl:∀ (r:List (List UInt8)),(∀ x∈r,x.length<=M)->(Lib.joinTail sep r).length<=r.length*(M+sep.length):=fun r=>by
  induction r with
  | nil=>intro _;simp [Lib.joinTail]
  | cons b r ih =>
   intro hr;have h1:=ih fun x hx=>hr x (List.mem_cons_of_mem _ hx);have h2:=hr b (List.mem_cons_self ..);have h3:Lib.joinTail sep (b::r)=sep++b++Lib.joinTail sep r:=by simp [Lib.joinTail]
   rw [h3,lap,lap,List.length_cons,Nat.succ_mul];omega
 cases ws with
 | nil=>simp [Lib.join,List.intercalate]
 | cons a r =>
  rw [e,lap,List.length_cons,Nat.succ_mul];have h1:=tl r fun x hx=>h x (List.mem_cons_of_mem _ hx);have h2:=h a (List.mem_cons_self ..);omega
structure WdsV (w:World) (ws:List (List UInt8)) (q:Option Addr) (c:Nat) (n:Nat) (X:World):Prop where
 own:OwnS namE 9 w.heap.size X q c ws
 len:ws.length<=n
 word:∀ x∈ws,x.length<=20000
 bel:Bw w X
theorem WdsV.below {w X Y:World} {ws:List (List UInt8)} {q:Option Addr} {c n:Nat} (h:WdsV w ws q c n X) (hb:Bw X Y):WdsV w ws q c n Y:=⟨h.own.below hb,h.len,h.word,h.bel.trans (hb.mono h.bel.size)⟩
theorem zj6 {w X:World} {ws:List (List UInt8)} {q:Option Addr} {c n:Nat} {s:List UInt8} (h:WdsV w ws q c n X) (hn:n<=1000) (hs:s.length<=20000) {K:Value->World->Prop}
  (k:∀ q' c' Y,WdsV w (ws++[s]) q' c' (n+1) Y->K (.slice q' (ws++[s]).length c') Y) :
  SatR ((Builtin.append_ #[41,41] 41 #[.slice q ws.length c,.slice (some ⟨X.heap.size,0,none⟩) 1 1]).run Tryz.prog (X.alloc (.cells (namE.enc s).toArray 9))) K:=by
 have hb2:Bw X (X.alloc (.cells (namE.enc s).toArray 9)):=zba _ _;have hl:=h.len;refine zbi Tryz.underlying41 k9 rfl rfl rfl (h.own.below hb2) (news:=[s]) rfl (zaW namE s) (by have:=h.bel.size;have:=hb2.size;omega) (by show ws.length+1<=_;omega) (by show (ws.length+1)*16<=_;omega) fun p' c' S oS gS hbS hat2=>?_;refine k p' c' S ⟨oS,by rw [lap];show _+1<=_;omega,fun x hx=>?_,(h.bel.trans (hb2.mono h.bel.size)).trans hbS⟩;rcases List.mem_append.1 hx with hx | hx
 ·exact h.word x hx
 ·rw [List.mem_singleton.1 hx];exact hs
theorem zo0 {n:Nat} {l:List InsD} (h:zbk l n=true):l.length<=12/\∀ x∈l,x.dst.toNat<8:=by
 unfold zbk at h;rw [bAT,List.all_eq_true,dE] at h;refine⟨h.1,fun x hx=>?_⟩;obtain⟨i,hi,rfl⟩:=List.getElem_of_mem hx;have:=h.2 i (List.mem_range.2 hi);rw [gE hi] at this;have:=List.all_eq_true.1 this (decide (l[i].dst.toNat<8)) (by unfold insC;simp);exact dT this
theorem znH {s:List UInt8} (h:zfD s=true):s.length<=16:=by
 unfold zfD at h
 cases s with
 | nil=>cases h
 | cons c r =>
  rw [bAT] at h;exact dT h.1
theorem zhP:∀ {l pre:List (List UInt8)},zd9 pre l=true->∀ s∈l,s.length<=16
 | [],_,_,s,hs=>by cases hs
 | a::r,pre,h,s,hs=>by
  unfold zd9 at h;rw [bAT,bAT] at h;rcases List.mem_cons.1 hs with rfl | hs
  ·exact znH h.1
  ·exact zhP h.2.2 s hs
structure OkP (p:Prg):Prop where
 t1:1<=p.threads.length
 t4:p.threads.length<=4
 th:∀ l∈p.threads,l.length<=12/\∀ x∈l,x.dst.toNat<8
 l1:1<=p.locs.length
 l6:p.locs.length<=6
 ln:∀ s∈p.locs,s.length<=16
theorem zqT {p:Prg} (h:zf9 p=true):OkP p:=by
 unfold zf9 zgb at h;simp only [bAT,dE,List.all_eq_true] at h;obtain⟨_,⟨h1,h2,_,h3⟩,⟨h4,h5,_⟩,h6,_⟩:=h;exact⟨h4,h5,fun l hl=>zo0 (h6 l hl),h1,h2,zhP h3⟩
section
variable {w:World} {F:FinV} {p:Prg} {vs:List Value} {B N:Nat}
theorem zrC (hB:B<=w.heap.size) (hp:PrgV B w vs p) (hG:GlobC w) (hN:ItoH N w) (hN8:8<=N) (hr:∀ t r,t<4->r<8->(F.reg t r).toNat<N) (hm:∀ k,k<6->(F.mem k).toNat<N) :
  CB 21 #[.agg vs.toArray,zaD F] w (strV (znk p F)):=by
 refine cofM 74 [.agg vs.toArray,zaD F] (.c .p (.s .p (.s .p (.c (.s .p (.b (.l (.s .p (.s .p (.s (.b (.c .p (.s .p (.b (.l (.s .p (.s .p (.s (.b (.c .p .p)) .p)))))))) .p)))))) (.c (.s .p (.b (.l (.s .p (.s .p (.s (.b (.c .p .p)) .p)))))) .p))))) Tryz.func21 ?_;have hsz:=hp.size;refine⟨Unit,fun _=>⟨[(2,At0 w.heap.size),(3,At0 (w.heap.size+1))],[]⟩,fun _ X=>X.heap[w.heap.size]?=some (.cells vs.toArray 45 (0,0))/\X.heap[w.heap.size+1]?=some (.cells (finE.enc F).toArray 27 (0,0))/\Bw w X,?_,?_⟩
 ·have e1:(w.alloc (.cells (Value.agg vs.toArray).cells 45)).heap.size=w.heap.size+1:=wz _ _;have f3:=hnew (w.alloc (.cells (Value.agg vs.toArray).cells 45)) (.cells (zaD F).cells 27);rw [e1] at f3;exact⟨(),⟨.cons rfl (.cons (by rw [<- e1];rfl) .nil),rfl⟩,hold _ (hnew w _),f3,((zba w _)).alloc (by rw [wz];omega) _⟩
 rintro _ W0 ⟨f2,f3,b0⟩;refine⟨vs,hsz,zaa f2,hlt f2,?_⟩;refine cmo (zi7 (Nat.le_trans hB b0.size) (hp.below (b0.mono hB)) (hG.below b0)) ?_;rintro e W1 ⟨n,rfl,hn,b1⟩;have b01:=zst b0 b1;refine biE (fun h=>?_) fun h=>?_
 ·have h:¬ n=0:=by simpa using h
  refine⟨?_,b01⟩;unfold znk;rw [if_neg fun e=>h (hn.2 e)];rfl
 have h:n=0:=by simpa using h
 have hok:=hn.1 h;have ok:=zqT hok;clear hn h;have f2:=zab b1 f2;have f3:=zab b1 f3;have hIt:=hN.below b01;have hp1:=hp.below (b01.mono hB);clear hN hG;obtain⟨hlen,p1,c1,p2,c2,p3,c3,p4,c4,rfl,h1,h2,⟨xs,hxs,h3,h3x⟩,h4,h5⟩:=hp1;have hBW:B<=W1.heap.size:=Nat.le_trans hB b01.size;have hxl:xs.length=p.threads.length:=by rw [<- hxs,List.length_map]
 refine⟨Option Addr×Nat,fun s=>⟨[(2,At0 w.heap.size),(3,At0 (w.heap.size+1)),(5,.slice s.1 (zeo F p.threads p.threads.length).length s.2)],[]⟩,fun s X=>WdsV W1 (zeo F p.threads p.threads.length) s.1 s.2 32 X,?_,?_⟩
 ·refine⟨_,zac (zaa f2) (i:=3) rfl,?_⟩;refine⟨Nat×Option Addr×Nat,fun s=>⟨[(2,At0 w.heap.size),(3,At0 (w.heap.size+1)),(5,.slice s.2.1 (zeo F p.threads s.1).length s.2.2),(16,.slice p3 p.threads.length c3),(17,i64 p.threads.length),(18,i64 (s.1:Nat))],[]⟩,
   fun s X=>s.1<=p.threads.length/\WdsV W1 (zeo F p.threads s.1) s.2.1 s.2.2 (8*s.1) X,fun s=>p.threads.length-s.1,(0,none,0),(cvE rfl rfl),⟨Nat.zero_le _,OwnS.nil,Nat.le_refl _,fun x hx=>(by cases hx),Below.refl _ _⟩,?_⟩
  rintro⟨k,q,c⟩ X ⟨hk,hW⟩;dsimp only at hk hW;refine biE (fun h=>?_) fun h=>?_
  ·have hkl:k<p.threads.length:=by have:=dT h;omega
   clear h;have hkx:k<xs.length:=by omega
   obtain⟨x,hx⟩:=nm (xs[k]);have hxm:x∈xs:=by rw [hx];exact gM hkx
   have hxk:p.threads.getD k []=x.1:=by rw [<- hxs,gDe,List.getElem?_map,gE hkx,hx];rfl
   have hxt:x.1∈p.threads:=by rw [<- hxs];exact List.mem_map_of_mem hxm
   have hrow:=(h3.below (hW.bel.mono hBW)).slr (Nat.le_trans hBW hW.bel.size);obtain⟨b,o,rfl,hlb,hat⟩:=hrow.at hkx;have hatk:=hat k hkx;rw [<- hx] at hatk;have hth:=ok.th _ hxt;refine⟨Unit,fun _=>⟨[(2,At0 w.heap.size),(3,At0 (w.heap.size+1)),(5,.slice q (zeo F p.threads k).length c),(6,i64 k),(7,.slice x.2.1 x.1.length x.2.2),(16,.slice (some ⟨b,o,none⟩) p.threads.length c3),(17,i64 p.threads.length),(18,i64 k)],[]⟩,fun _ Y=>X=Y,?_,?_⟩
   ·refine⟨k,rfl,hkl,?_⟩;refine⟨_,zbW hatk,?_⟩;exact⟨(),(cvE rfl rfl),rfl⟩
   rintro _ _ rfl;have hrx:=((h3x x hxm).below (hW.bel.mono hBW)).slr (Nat.le_trans hBW hW.bel.size);refine cmo (zk3 hrx (by omega) fun y hy _=>hth.2 y hy) ?_;rintro e Y ⟨rfl,bY⟩;have hW:=hW.below bY;refine⟨Nat×Option Addr×Nat,fun s=>⟨[(2,At0 w.heap.size),(3,At0 (w.heap.size+1)),(5,.slice s.2.1 (zeo F p.threads k++zf8 F x.1 k s.1).length s.2.2),(6,i64 k),(16,.slice (some ⟨b,o,none⟩) p.threads.length c3),(17,i64 p.threads.length),(18,i64 k),(24,.agg (seg 8 fun r => .bool (wrtB x.1 r)).toArray),(25,i64 (s.1:Nat))],[]⟩,
    fun s X=>s.1<=8/\WdsV W1 (zeo F p.threads k++zf8 F x.1 k s.1) s.2.1 s.2.2 (8*k+s.1) X,fun s=>8-s.1,(0,q,c),⟨.cons rfl (.cons rfl (.cons (by rw [show zf8 F x.1 k 0=[] from rfl,List.append_nil];rfl) (.cons rfl (.cons rfl (.cons rfl (.cons rfl (.cons rfl (.cons rfl .nil)))))))),rfl⟩,⟨Nat.zero_le _,by rw [show zf8 F x.1 k 0=[] from rfl,List.append_nil];exact hW⟩,?_⟩
   clear hW bY;rintro⟨r,q,c⟩ X ⟨hr8,hW⟩;dsimp only at hr8 hW;refine biE (fun h=>?_) fun h=>?_
   ·have hr8:r<8:=(by have:=dT h;omega);clear h;refine⟨Unit,fun _=>⟨[(2,At0 w.heap.size),(3,At0 (w.heap.size+1)),(5,.slice q (zeo F p.threads k++zf8 F x.1 k r).length c),(6,i64 k),(8,i64 r),(9,.bool (wrtB x.1 r)),(16,.slice (some ⟨b,o,none⟩) p.threads.length c3),(17,i64 p.threads.length),(18,i64 k),(24,.agg (seg 8 fun r => .bool (wrtB x.1 r)).toArray),(25,i64 (r:Nat))],[]⟩,fun _ Y=>X=Y,?_,?_⟩
    ·refine⟨r,rfl,hr8,?_⟩;refine zdq (v := .bool (wrtB x.1 r)) (by rw [Nat.mul_one];exact zdC (fun r => .bool (wrtB x.1 r)) hr8) ?_;exact⟨(),(cvE rfl rfl),rfl⟩
    rintro _ _ rfl;have hsucc:=zkv F x.1 k r;refine biE (fun h=>?_) fun h=>?_
    ·rw [if_pos h] at hsucc;have f3X:=zab hW.bel f3;have hk4:k<4:=(by have:=ok.t4;omega);have hkN:k<N:=(by omega);have hrN:r<N:=(by omega);obtain⟨V,hV⟩:=nm ((F.reg k r).toNat);have hVN:V<N:=(by rw [hV];exact hr k r hk4 hr8);refine DrawE.ord [18] [0,1,4,8,9,10,11,12,13,14,2,3,5,6,7,15,16,17,18,19] (by kernel_rfl) ?_;refine⟨k,rfl,hk4,?_⟩;refine⟨r,rfl,hr8,?_⟩;refine⟨_,by
      have:=zac (zaa (hdr f3X)) (zmd (F:=F) hk4 hr8);rw [Nat.mul_one,Nat.add_assoc];exact this,?_⟩
     refine⟨(V:Int),by rw [hV];exact zaf (by have:=(F.reg k r).toNat_lt;omega),?_⟩;have bd:Bw X X.drew:=(Below.refl _ X).drew;refine cmo (hIt k hkN X.drew (hW.bel.trans (bd.mono hW.bel.size))) ?_;rintro e X1 ⟨rfl,b1⟩;refine⟨b1,?_⟩;have l1:=zcZ k;have l2:=zcZ r;have l3:=zcZ V;have bX1:=bd.trans b1;have hW1:=hW.below bX1;refine⟨_,fun w=>zdy _ _ (decB k) [58,114] (by show _+2<=_;omega) w,?_⟩;refine cmo (hIt r hrN X1 hW1.bel) ?_;rintro e X2 ⟨rfl,b2⟩;refine⟨b2,?_⟩;have hW2:=hW1.below b2;refine⟨_,fun w=>zdy _ _ (decB k++[58,114]) (decB r) (by rw [lap];show _+2+_<=_;omega) w,?_⟩;refine⟨_,fun w=>zdy _ _ (decB k++[58,114]++decB r) [61] (by rw [lap,lap];show _+2+_+1<=_;omega) w,?_⟩;refine cmo (hIt V hVN X2 hW2.bel) ?_;rintro e X3 ⟨rfl,b3⟩;refine⟨b3,?_⟩;have hW3:=hW2.below b3;refine⟨_,fun w=>zdy _ _ (decB k++[58,114]++decB r++[61]) (decB V) (by rw [lap,lap,lap];show _+2+_+1+_<=_;omega) w,?_⟩;have hs:decB k++[58,114]++decB r++[61]++decB V=regW F k r:=(by rw [hV];rfl);rw [hs];refine⟨⟨by decide,by decide,rfl⟩,[strV (regW F k r)],rfl,?_⟩;refine⟨(zba _ _),?_⟩;unfold opsO;refine zj6 (s:=regW F k r) hW3 (by omega) (Nat.le_trans (znv F k r) (by decide)) fun q' c' Y hY=>?_;rw [List.append_assoc,<- hsucc] at hY ⊢;refine⟨_,zaf (by omega),?_⟩;exact⟨(r+1,q',c'),(cvE rfl rfl),⟨hr8,hY⟩,by dsimp only;omega⟩
    ·rw [if_neg (by rw [h];decide),List.append_nil] at hsucc;refine⟨_,zaf (by omega),?_⟩;exact⟨(r+1,q,c),⟨.cons rfl (.cons rfl (.cons (by rw [hsucc];rfl) (.cons rfl (.cons rfl (.cons rfl (.cons rfl (.cons rfl (.cons rfl .nil)))))))),rfl⟩,⟨hr8,by dsimp only;rw [hsucc];exact⟨hW.own,Nat.le_trans hW.len (by omega),hW.word,hW.bel⟩⟩,by dsimp only;omega⟩
   ·have hke:r=8:=(by have:=dF h;omega);subst hke;have e:=zkh F p.threads k;rw [hxk] at e;rw [<- e] at hW;have:=ok.t4;refine⟨_,zaf (by omega),?_⟩;exact⟨(k+1,q,c),⟨.cons rfl (.cons rfl (.cons (by dsimp only;rw [e];rfl) (.cons rfl (.cons rfl (.cons rfl .nil))))),rfl⟩,⟨hkl,hW.own,Nat.le_trans hW.len (by show _<=8*(k+1);omega),hW.word,hW.bel⟩,by dsimp only;omega⟩
  ·have hke:k=p.threads.length:=by have:=dF h;omega
   subst hke;exact⟨(q,c),(cvE rfl rfl),hW.own,Nat.le_trans hW.len (by have:=ok.t4;omega),hW.word,hW.bel⟩
 rintro⟨q,c⟩ X hW;dsimp only at hW;have f2X:=zab hW.bel f2;obtain⟨A,hA⟩:=nm (zeo F p.threads p.threads.length);rw [<- hA] at hW ⊢;refine⟨Option Addr×Nat,fun s=>⟨[(5,.slice s.1 (A++zey F p.locs p.locs.length).length s.2)],[]⟩,fun s X=>WdsV W1 (A++zey F p.locs p.locs.length) s.1 s.2 64 X,?_,?_⟩
 ·refine⟨_,zac (zaa f2X) (i:=1) rfl,?_⟩;refine⟨Nat×Option Addr×Nat,fun s=>⟨[(2,At0 w.heap.size),(3,At0 (w.heap.size+1)),(5,.slice s.2.1 (A++zey F p.locs s.1).length s.2.2),(52,.slice p1 p.locs.length c1),(53,i64 p.locs.length),(54,i64 (s.1:Nat))],[]⟩,
   fun s X=>s.1<=p.locs.length/\WdsV W1 (A++zey F p.locs s.1) s.2.1 s.2.2 (32+s.1) X,fun s=>p.locs.length-s.1,(0,q,c),⟨.cons rfl (.cons rfl (.cons (by rw [show zey F p.locs 0=[] from rfl,List.append_nil];rfl) (.cons rfl (.cons rfl (.cons rfl .nil))))),rfl⟩,⟨Nat.zero_le _,by rw [show zey F p.locs 0=[] from rfl,List.append_nil];exact hW⟩,?_⟩
  clear hW f2X;rintro⟨k,q,c⟩ X ⟨hk,hW⟩;dsimp only at hk hW;refine biE (fun h=>?_) fun h=>?_
  ·have hkl:k<p.locs.length:=by have:=dT h;omega
   clear h;obtain⟨s,hs⟩:=nm (p.locs[k]);have hsk:p.locs.getD k []=s:=by rw [gDe,gE hkl,hs];rfl
   have hs16:=ok.ln s (by rw [hs];exact gM hkl);have hrow:=(h1.below (hW.bel.mono hBW)).slr (Nat.le_trans hBW hW.bel.size);obtain⟨b,o,rfl,hlb,hat⟩:=hrow.at hkl;have hatk:=hat k hkl;rw [<- hs] at hatk;refine⟨Unit,fun _=>⟨[(2,At0 w.heap.size),(3,At0 (w.heap.size+1)),(5,.slice q (A++zey F p.locs k).length c),(10,i64 k),(11,strV s),(52,.slice (some ⟨b,o,none⟩) p.locs.length c1),(53,i64 p.locs.length),(54,i64 k)],[]⟩,fun _ Y=>X=Y,?_,?_⟩
   ·refine⟨k,rfl,hkl,?_⟩;refine⟨_,zbW hatk,?_⟩;exact⟨(),(cvE rfl rfl),rfl⟩
   rintro _ _ rfl;have f3X:=zab hW.bel f3;have hk6:k<6:=by have:=ok.l6;omega
   obtain⟨V,hV⟩:=nm ((F.mem k).toNat);have hVN:V<N:=by rw [hV];exact hm k hk6
   have l3:=zcZ V;refine⟨_,fun w=>zdy _ _ s [61] (by show _+1<=_;omega) w,?_⟩;refine⟨k,rfl,hk6,?_⟩;refine⟨_,by
    have:=zac (zaa f3X) (zme (F:=F) hk6);rw [Nat.mul_one,Nat.add_assoc];exact this,?_⟩
   refine⟨(V:Int),by rw [hV];exact zaf (by have:=(F.mem k).toNat_lt;omega),?_⟩;refine cmo (hIt V hVN X hW.bel) ?_;rintro e X1 ⟨rfl,b1⟩;have hW1:=hW.below b1;refine⟨_,fun w=>zdy _ _ (s++[61]) (decB V) (by rw [lap];show _+1+_<=_;omega) w,?_⟩;have hss:s++[61]++decB V=locW F k (p.locs.getD k []):=by rw [hV,hsk];rfl
   have hsucc:=zkC F p.locs k;have hll:(locW F k (p.locs.getD k [])).length<=20000:=by rw [<- hss,lap,lap];show _+1+_<=_;omega
   rw [hss];refine⟨⟨by decide,by decide,rfl⟩,[strV (locW F k (p.locs.getD k []))],rfl,?_⟩;unfold opsE zcr;refine zj6 (s:=locW F k (p.locs.getD k [])) hW1 (by omega) hll fun q' c' Y hY=>?_;rw [List.append_assoc,<- hsucc] at hY ⊢;refine⟨_,zaf (by omega),?_⟩;exact⟨(k+1,q',c'),(cvE rfl rfl),⟨hkl,hY⟩,by dsimp only;omega⟩
  ·have hke:k=p.locs.length:=by have:=dF h;omega
   subst hke;exact⟨(q,c),(cvE rfl rfl),hW.own,Nat.le_trans hW.len (by have:=ok.l6;omega),hW.word,hW.bel⟩
 clear hW f2X;rintro⟨q,c⟩ X hW;dsimp only at hW;obtain⟨ws,hws⟩:=nm (A++zey F p.locs p.locs.length);have hwv:zot p F=ws:=by rw [hws,hA];rfl
 rw [<- hws] at hW ⊢;have hne:0<ws.length:=by
  rw [hws,lap];unfold zey;rw [List.length_map,List.length_range];have:=ok.l1;omega
 obtain⟨g,o,rfl,hg,hc⟩:=hW.own.row.at hne;have hcap:ws.length<=c:=by
  rcases hW.own.inv with ⟨h,_⟩ | ⟨g',cur,h,_,_,hlc,_⟩
  ·cases h
  ·exact hlc
 have hmm:(ws.map bs).map (fun x=>x.data.toList)=ws:=by rw [List.map_map];exact List.map_id _
 have hjl:=zpD (sep:=[32]) hW.word;have hw64:=hW.len;have hmul:ws.length*(20000+[(32:UInt8)].length)<=64*20001:=Nat.mul_le_mul hw64 (Nat.le_refl _);have hJ:=Tryz.strings_Join g o c (ws.map bs) (bs [32]) X (fun j x hx=>by
   rw [List.getElem?_map,Option.map_eq_some_iff] at hx;obtain⟨a,ha,rfl⟩:=hx;obtain⟨hj,rfl⟩:=List.getElem?_eq_some_iff.1 ha;have:=zbW (hc j hj)
   rwa [show namE.sz=1 from rfl,Nat.mul_one] at this) hg (by rw [List.length_map];omega) (by rw [List.length_map];exact hcap) (by rw [hmm];show (Lib.join ws [32]).length<=_;omega)
 rw [List.length_map,hmm] at hJ;refine cmo hJ ?_;rintro e Y ⟨rfl,bY⟩;refine⟨?_,b01.trans ((hW.bel.trans (bY.mono hW.bel.size)).mono b01.size)⟩;unfold znk;rw [if_pos hok,hwv];rfl
end
theorem zl3 (x:UInt8) (w:World):Calls Tryz.prog 173 #[u8 x] w fun e w'=>e = .returned (.bool false)/\w=w':=by
 refine cofE 6 [u8 x] Tryz.func173 ?_;exact And.intro (rb (by simp)) rfl
theorem zkW (x y:UInt8) (w:World):Calls Tryz.prog 112 #[u8 x,u8 y] w fun e w'=>e = .returned (.int .i64 (cmp8 x y))/\w=w':=by
 refine cofE 20 [u8 x,u8 y] Tryz.func112 ?_;refine cmo (zl3 x w) ?_;rintro e w' ⟨rfl,rfl⟩;refine cmo (zl3 y w) ?_;rintro e w' ⟨rfl,rfl⟩;refine And.intro (fun h=>by cases h) (fun _=>?_);refine And.intro (fun h=>by cases h) (fun _=>?_);refine biE (fun h=>?_) fun h=>?_
 ·have h:(x.toNat:Int)<y.toNat:=dT h;exact And.intro (ri (by unfold cmp8;rw [if_pos (by omega)])) rfl
 ·have h:¬ (x.toNat:Int)<y.toNat:=dF h;refine biE (fun h2=>?_) fun h2=>?_
  ·have h2:(y.toNat:Int)<x.toNat:=dT h2;exact And.intro (ri (by unfold cmp8;rw [if_neg (by omega),if_pos (by omega)])) rfl
  ·have h2:¬ (y.toNat:Int)<x.toNat:=dF h2;exact And.intro (ri (by unfold cmp8;rw [if_neg (by omega),if_neg (by omega)])) rfl
theorem zgI (p1 p2:Option Addr) (cap1 cap2:Nat) (l1 l2:List UInt8) (w:World) (h1:SlR zaH w p1 l1) (h2:SlR zaH w p2 l2) (hn:l1.length<=1000000000) :
  Calls Tryz.prog 62 #[.slice p1 l1.length cap1,.slice p2 l2.length cap2] w fun e w'=>e = .returned (.int .i64 (cmpL l1 l2))/\w=w':=by
 refine cofE 36 [.slice p1 l1.length cap1,.slice p2 l2.length cap2] Tryz.func62 ?_;refine⟨Nat,fun k=>⟨[(0,.slice p1 l1.length cap1),(1,.slice p2 l2.length cap2),(4,.int .i64 0),(9,.slice p1 l1.length cap1),(10,.int .i64 l1.length),(11,.int .i64 (k:Nat))],[]⟩,
  fun k X=>k<=l1.length/\k<=l2.length/\X=w/\l1.take k=l2.take k,fun k=>l1.length-k,0,(cvE rfl rfl),⟨Nat.zero_le _,Nat.zero_le _,rfl,by simp⟩,?_⟩
 rintro k X ⟨hk,hk2,rfl,hm⟩;have hcd:=zh7 l1 l2 k hk hk2 hm;refine biE (fun h=>?_) fun h=>?_
 ·have h:(k:Int)<l1.length:=dT h;have hkl:k<l1.length:=by omega
  have hd1:l1.drop k=l1[k]::l1.drop (k+1):=List.drop_eq_getElem_cons hkl;obtain⟨b1,o1,rfl,hb1,hc1⟩:=zmK h1 hkl;refine⟨k,rfl,hkl,?_⟩;refine⟨_,hc1,?_⟩;refine biE (fun h=>?_) fun h=>?_
  ·have h:(l2.length:Int)<=k:=dT h;refine And.intro (ri ?_) rfl;have hd2:l2.drop k=[]:=List.drop_of_length_le (by omega);rw [hcd,hd1,hd2];rfl
  ·have h:¬ (l2.length:Int)<=k:=dF h;have hkl2:k<l2.length:=by omega
   have hd2:l2.drop k=l2[k]::l2.drop (k+1):=List.drop_eq_getElem_cons hkl2;obtain⟨b2,o2,rfl,hb2,hc2⟩:=zmK h2 hkl2;refine⟨k,rfl,hkl2,?_⟩;refine⟨_,hc2,?_⟩;refine cmo (zkW l1[k] l2[k] X) ?_;rintro e w' ⟨rfl,rfl⟩;refine biE (fun h=>?_) fun h=>?_
   ·have h:¬ cmp8 l1[k] l2[k]=0:=(by simpa using h);have hne:l1[k]≠l2[k]:=fun e=>h (by rw [e];exact zmD _);refine And.intro (ri ?_) rfl;rw [hcd,hd1,hd2,cmpL,if_neg hne]
   ·have h:cmp8 l1[k] l2[k]=0:=(by simpa using h);have he:l1[k]=l2[k]:=Decidable.byContradiction fun hne=>zmE hne h;refine⟨(k+1:Nat),(zaf (by omega)).trans (by omega),?_⟩;refine⟨k+1,(cvE rfl rfl),⟨hkl,hkl2,rfl,?_⟩,by dsimp only;omega⟩;rw [tsg hkl,tsg hkl2,hm,he]
 ·have h:¬ (k:Int)<l1.length:=dF h;refine biE (fun h2=>?_) fun h2=>?_
  ·have h2:(l1.length:Int)<l2.length:=dT h2;refine And.intro (ri ?_) rfl;have hd1:l1.drop k=[]:=List.drop_of_length_le (by omega);have hd2:l2.drop k=l2[k]::l2.drop (k+1):=List.drop_eq_getElem_cons (by omega);rw [hcd,hd1,hd2];rfl
  ·have h2:¬ (l1.length:Int)<l2.length:=dF h2;refine And.intro (ri ?_) rfl;have hd1:l1.drop k=[]:=List.drop_of_length_le (by omega);have hd2:l2.drop k=[]:=List.drop_of_length_le (by omega);rw [hcd,hd1,hd2];rfl
end Go.Proofs.YtlkofpbdpplfkaaGreatDoor
namespace Go.Proofs.YtlkofpbdpplfkaaGreatDoor
open Go.Vc Go.RowKit Go.Sei
open Go.Sort
section
variable {α:Type} [Inhabited α] {E:Enc α}
theorem zgz (l:List α):(flatK E.enc E.sz l.toArray).toList=l.flatMap E.enc:=by
 apply List.ext_getElem?;intro j;have hs:(flatK E.enc E.sz l.toArray).toList.length=l.length*E.sz:=by rw [Array.length_toList,size_flatK];rfl
 by_cases hj:j<l.length*E.sz
 ·have hd:j/E.sz<l.length:=Nat.div_lt_of_lt_mul (by rw [Nat.mul_comm];exact hj);have hm:=Nat.mod_lt j E.pos;have e1:(l.flatMap E.enc)[j]?=(E.enc l[j/E.sz])[j%E.sz]?:=by
   rw [<- zef l _ hd,List.getElem?_take,if_pos hm,List.getElem?_drop,Nat.mul_comm,Nat.div_add_mod]
  have h2:=get_flatK E.enc E.sz l.toArray j hj;have hlt:j<(flatK E.enc E.sz l.toArray).size:=by rw [size_flatK];exact hj
  rw [getElem!_pos (flatK E.enc E.sz l.toArray) j hlt] at h2;have h3:l.toArray[j/E.sz]! = l[j/E.sz]:=by
   rw [getElem!_pos l.toArray (j/E.sz) (by simpa using hd)];simp
  rw [h3,getElem!_pos (E.enc l[j/E.sz]) (j%E.sz) (by rw [E.len];exact hm)] at h2;rw [e1,Array.getElem?_toList,Array.getElem?_eq_getElem hlt,h2];exact (gE (by rw [E.len];exact hm)).symm
 ·rw [List.getElem?_eq_none (by omega),List.getElem?_eq_none (by rw [zaG];omega)]
theorem zkH {T B cap g:Nat} {w:World} {l:List α} (h:OwnS E T B w (some ⟨g,0,none⟩) cap l):HoldsK E.enc E.sz w g 0 l.toArray:=by
 rcases h.inv with ⟨h,_⟩ | ⟨g',cur,hp,_,hg,_,_,hc,ht⟩
 ·cases h
 ·cases hp
  intro j hj;rw [size_flatK] at hj;have hj:j<l.length*E.sz:=hj;have hlt:j<(flatK E.enc E.sz l.toArray).size:=by rw [size_flatK];exact hj
  have e:cur[j]?=some ((flatK E.enc E.sz l.toArray)[j]!):=by
   have h1:(cur.toList.take (l.length*E.sz))[j]?=(l.flatMap E.enc)[j]?:=by rw [ht]
   rw [List.getElem?_take_of_lt hj,Array.getElem?_toList,<- zgz,Array.getElem?_toList] at h1;rw [h1,Array.getElem?_eq_getElem hlt,getElem!_pos (flatK E.enc E.sz l.toArray) j hlt]
  refine⟨?_,?_⟩
  ·simp only [World.cell?,hg,Nat.zero_add];simpa using e
  ·simp [World.frozen?,hg]
theorem zkj {T B cap g:Nat} {w:World} {l l':List α} (h:OwnS E T B w (some ⟨g,0,none⟩) cap l) (hl:l'.length=l.length) (n:Nat) (os:Array Obj) :
  OwnS E T B (sortWorldK E.enc E.sz w g 0 n l'.toArray os) (some ⟨g,0,none⟩) cap l'/\w.grownBy (sortWorldK E.enc E.sz w g 0 n l'.toArray os) (some g):=by
 rcases h.inv with ⟨h,_⟩ | ⟨g',cur,hp,hb,hg,hn,hm,hc,ht⟩
 ·cases h
 ·cases hp
  have hgl:=hlt hg;have hfl:(flatK E.enc E.sz l'.toArray).size=l.length*E.sz:=by rw [size_flatK];show l'.length*_=_;rw [hl]
  have hle:l.length*E.sz<=cap*E.sz:=Nat.mul_le_mul_right _ hn;have heap:∀ k,k<w.heap.size->(sortWorldK E.enc E.sz w g 0 n l'.toArray os).heap[k]?=if k=g then some (.cells (putCells id 0 (flatK E.enc E.sz l'.toArray) cur) T (0,0)) else w.heap[k]?:=fun k hk=>by
   have h1:k<((Go.Sort.ahead w n).heap.modify g (onCells (putCells id 0 (flatK E.enc E.sz l'.toArray)))).size:=by simpa using hk
   show (((Go.Sort.ahead w n).heap.modify g (onCells (putCells id 0 (flatK E.enc E.sz l'.toArray))))++os)[k]?=_;rw [Array.getElem?_append_left h1,Array.getElem?_modify];by_cases hkg:k=g
   ·subst hkg;rw [if_pos rfl,if_pos rfl];show ((w.heap[k]?).map _)=_;rw [hg];rfl
   ·rw [if_neg (fun e=>hkg e.symm),if_neg hkg];rfl
  have hsz:w.heap.size<=(sortWorldK E.enc E.sz w g 0 n l'.toArray os).heap.size:=by
   show _<=(((Go.Sort.ahead w n).heap.modify g (onCells (putCells id 0 (flatK E.enc E.sz l'.toArray))))++os).size;rw [Array.size_append,Array.size_modify];exact Nat.le_add_right _ _
  have hgr:w.grownBy (sortWorldK E.enc E.sz w g 0 n l'.toArray os) (some g):=⟨rfl,rfl,rfl,hsz,fun k hk hne=>by
   rw [heap k hk,if_neg (fun e=>hne (by rw [e]))]⟩
  refine⟨?_,hgr⟩;have hput:(putCells id 0 (flatK E.enc E.sz l'.toArray) cur).size=cur.size:=by simp [putCells]
  refine⟨?_,.inr ⟨g,cap,putCells id 0 (flatK E.enc E.sz l'.toArray) cur,rfl,hb,?_,by rw [hl];exact hn,hm,by rw [hput,hc],?_⟩⟩
  ·rw [zaG]
  ·rw [heap g hgl,if_pos rfl]
  ·apply List.ext_getElem?;intro j;by_cases hj:j<l'.length*E.sz
   ·have hj2:j<(flatK E.enc E.sz l'.toArray).size:=(by rw [size_flatK];exact hj);rw [List.getElem?_take_of_lt hj,<- zgz,Array.getElem?_toList,Array.getElem?_toList];have hjc:j<cur.size:=(by rw [hc];rw [hl] at hj;omega);simp only [putCells,Array.getElem?_mapIdx,Array.getElem?_eq_getElem hjc,Option.map_some];rw [if_pos ⟨Nat.zero_le _,by omega⟩,Nat.sub_zero,Array.getElem?_eq_getElem hj2,getElem!_pos (flatK E.enc E.sz l'.toArray) j hj2];rfl
   ·rw [List.getElem?_eq_none (by rw [List.length_take];omega),List.getElem?_eq_none (by rw [zaG];omega)]
end
theorem zpx:SWO (ltOf ordF) where
 irrefl:=zex
 trans:=fun x y z h1 h2=>zda h1 h2
 ntrans:=fun x y z h1 h2=>by
  have h1:ltF x y=false:=h1;have h2:ltF y z=false:=h2;show ltF x z=false;have e1:leF y x=true:=by unfold leF;rw [h1];rfl
  have e2:leF z y=true:=by unfold leF;rw [h2];rfl
  have e3:=zhT _ _ _ e2 e1;unfold leF at e3;simpa using e3
theorem zlY (x y:FinV) (h1:ltOf ordF x y=false) (h2:ltOf ordF y x=false):x=y:=by
 have h1:ltF x y=false:=h1;have h2:ltF y x=false:=h2;rcases zeb x y with h | h | h
 ·rw [h] at h1;cases h1
 ·rw [h] at h2;cases h2
 ·exact h
theorem znb (w:World) (o1 o2:Obj) (q:Nat):((w.alloc o1).alloc o2).drewN q=grow (w.drewN q) #[o1,o2]:=by
 have:(w.heap.push o1).push o2=w.heap ++ #[o1,o2]:=by
  rw [<- Array.toList_inj];simp
 show ({ w with heap:=(w.heap.push o1).push o2,drawn:=w.drawn+q }:World)={ w with heap:=w.heap ++ #[o1,o2],drawn:=w.drawn+q };rw [this]
def rowF (F:FinV) (t:Nat):List UInt8:=(F.l.drop (t*8)).take 8
def memF (F:FinV):List UInt8:=F.l.drop 32
section
variable {F G:FinV}
theorem zd3 {t:Nat} (h:t<4):(rowF F t).length=8:=by unfold rowF;rw [List.length_take,List.length_drop,F.len];omega
theorem zg1:(memF F).length=6:=by unfold memF;rw [List.length_drop,F.len]
theorem zjR (t:Nat):F.l.drop (t*8)=rowF F t++F.l.drop ((t+1)*8):=by
 unfold rowF;rw [show (t+1)*8=t*8+8 by omega,<- List.drop_drop,List.take_append_drop]
theorem zpo {t:Nat} (h:t<4) (e:ordF F G=cmpL (F.l.drop (t*8)) (G.l.drop (t*8))):ordF F G=if rowF F t=rowF G t then cmpL (F.l.drop ((t+1)*8)) (G.l.drop ((t+1)*8)) else cmpL (rowF F t) (rowF G t):=by
 rw [e,zjR,zjR (F:=G),zjX (by rw [zd3 h,zd3 h])]
theorem zjp {X:World} {b n o:Nat} (hf:X.heap[b]?=some (.cells (finE.enc F).toArray 27 (0,0))):SlR zaH X (some ⟨b,o,none⟩) ((F.l.drop o).take n):=by
 refine .inr ⟨b,o,rfl,hlt hf,fun i hi=>?_⟩;rw [List.length_take,List.length_drop] at hi;refine zbH fun j v hv=>?_
 cases j with
 | succ j=>simp [zaH] at hv
 | zero =>
  have hv:u8 (((F.l.drop o).take n)[i])=v:=by simpa [zaH] using hv
  rw [<- hv,List.getElem_take,List.getElem_drop];have:=zac (zaa hf) (i:=o+i) (v:=u8 F.l[o+i]) (by
   show (F.l.map u8)[o+i]?=_;rw [List.getElem?_map,gE (by omega)];rfl)
  rw [Nat.zero_add] at this;show X.cell? ⟨b,o+i*1+0,none⟩=_;rw [Nat.mul_one,Nat.add_zero];exact this
variable {w:World}
theorem zlL:Calls Tryz.prog 37 #[zaD F,zaD G] w fun e w'=>e = .returned (.int .i64 (ordF F G))/\∃ q os,w'=grow (w.drewN q) os:=by
 refine cofM 28 [zaD F,zaD G] (.s .p (.c .p .p)) Tryz.func37 ?_;obtain⟨W,hW⟩:=nm ((w.alloc (.cells (finE.enc F).toArray 27)).alloc (.cells (finE.enc G).toArray 27));have f2:W.heap[w.heap.size]?=some (.cells (finE.enc F).toArray 27 (0,0)):=by rw [hW];exact hold _ (hnew w _)
 have f3:W.heap[w.heap.size+1]?=some (.cells (finE.enc G).toArray 27 (0,0)):=by
  rw [hW];have:=hnew (w.alloc (.cells (finE.enc F).toArray 27)) (.cells (finE.enc G).toArray 27);rw [wz] at this;exact this
 have gr:∀ q,∃ q' os,W.drewN q=grow (w.drewN q') os:=fun q=>⟨q,_,by rw [hW];exact znb ..⟩;have hdN:∀ {k b:Nat} {o:Obj},W.heap[b]?=some o->(W.drewN k).heap[b]?=some o:=fun h=>h;have hd0:W.drewN 0=W:=rfl;have e1:(w.alloc (.cells (finE.enc F).toArray 27)).heap.size=w.heap.size+1:=wz _ _;refine⟨Unit,fun _=>⟨[(2,At0 w.heap.size),(3,At0 (w.heap.size+1))],[]⟩,fun _ X=>X=W.drewN 4/\ordF F G=cmpL (memF F) (memF G),?_,?_⟩
 ·refine⟨Nat,fun k=>⟨[(2,At0 w.heap.size),(3,At0 (w.heap.size+1)),(7,i64 k)],[]⟩,fun k X=>k<=4/\X=W.drewN k/\ordF F G=cmpL (F.l.drop (k*8)) (G.l.drop (k*8)),fun k=>4-k,0,
   ⟨.cons rfl (.cons (by rw [<- e1];rfl) (.cons rfl .nil)),rfl⟩,⟨Nat.zero_le _,by rw [hd0];exact hW.symm,rfl⟩,?_⟩
  rintro k X ⟨hk,rfl,he⟩;refine biE (fun h=>?_) fun h=>?_
  ·have hk4:k<4:=by have:=dT h;omega
   have cut:∀ (b:Nat),Value.slice (zaI (some ⟨b,0+0+k*8,none⟩) 8 0 1) (8-0) (8-0) = .slice (some ⟨b,k*8,none⟩) 8 8:=fun b=>by rw [zbn,Nat.zero_add]
   refine DrawE.ord [] [0,1,2,3,4,5,6,7,8,9] (by kernel_rfl) ?_;refine⟨k,rfl,hk4,?_⟩;refine⟨k,rfl,hk4,?_⟩;have c1:=zgI (some ⟨w.heap.size,k*8,none⟩) (some ⟨w.heap.size+1,k*8,none⟩) 8 8 (rowF F k) (rowF G k) (W.drewN k).drew (zjp (hdN (k:=k+1) f2)) (zjp (hdN (k:=k+1) f3)) (by rw [zd3 hk4];decide);rw [zd3 hk4,zd3 hk4,<- cut,<- cut] at c1;refine cmo c1 ?_;rintro e _ ⟨rfl,rfl⟩;refine⟨Below.refl _ _,?_⟩;have hr:=zpo hk4 he;refine biE (fun h=>?_) fun h=>?_
   ·have h:¬ cmpL (rowF F k) (rowF G k)=0:=(by simpa using h);rw [if_neg fun e=>h (zh6.2 e)] at hr;exact⟨by rw [hr];rfl,gr (k+1)⟩
   ·have h:cmpL (rowF F k) (rowF G k)=0:=(by simpa using h);rw [if_pos (zh6.1 h)] at hr;refine⟨_,zaf (by omega),?_⟩;exact⟨k+1,(cvE rfl rfl),⟨hk4,rfl,hr⟩,by dsimp only;omega⟩
  ·have hk4:k=4:=by have:=dF h;omega
   subst hk4;exact⟨(),(cvE rfl rfl),rfl,he⟩
 rintro _ X ⟨rfl,he⟩;have cut:∀ (b:Nat),Value.slice (zaI (some ⟨b,0+32,none⟩) 6 0 1) (6-0) (6-0) = .slice (some ⟨b,32,none⟩) 6 6:=fun b=>by rw [zbn]
 refine DrawE.ord [] [0,1,2,3,4,5] (by kernel_rfl) ?_;have s2:SlR zaH (W.drewN 4).drew (some ⟨w.heap.size,32,none⟩) (memF F):=by
  have:=zjp (n:=6) (o:=32) (hdN (k:=5) f2)
  rwa [List.take_of_length_le (by rw [List.length_drop,F.len];decide)] at this
 have s3:SlR zaH (W.drewN 4).drew (some ⟨w.heap.size+1,32,none⟩) (memF G):=by
  have:=zjp (n:=6) (o:=32) (hdN (k:=5) f3)
  rwa [List.take_of_length_le (by rw [List.length_drop,G.len];decide)] at this
 have c1:=zgI (some ⟨w.heap.size,32,none⟩) (some ⟨w.heap.size+1,32,none⟩) 6 6 (memF F) (memF G) (W.drewN 4).drew s2 s3 (by rw [zg1];decide);rw [zg1,zg1,<- cut,<- cut] at c1;refine cmo c1 ?_;rintro e _ ⟨rfl,rfl⟩;exact⟨Below.refl _ _,by rw [he];rfl,gr 5⟩
end
end Go.Proofs.YtlkofpbdpplfkaaGreatDoor
namespace Go.Proofs.YtlkofpbdpplfkaaGreatDoor
open Go.Vc Go.RowKit Go.Sei
theorem zkL {P:Program} {w:World} {t T ty:TypeId} {iT:TI} {z:List Value} {m:Nat} (hu:P.underlying t=some (.slice T)) (hT:TIok P T iT) (hz:iT.zero=some z) (hm:z.length=m) (h1:z.all Value.oneCell'=true) (hm0:0<m) {b o n c:Nat} (hn:0<n) {cs:List Value} {u:TypeId} (hg:w.heap[b]?=some (.cells cs.toArray u (0,0))) (ho:o+n*m<=cs.length) {K:Value->World->Prop}
  (k:∀ w' (zs:List Value),zs.length=n*m->w'.heap[b]?=some (.cells (cs.take o++zs++cs.drop (o+n*m)).toArray u (0,0))->w.grownBy w' (some b)->w'.heap.size=w.heap.size->K (.tuple #[]) w') :
  SatR ((Builtin.clear_ #[t] ty #[.slice (some ⟨b,o,none⟩) n c]).run P w) K:=by
 obtain⟨⟨inf,hi,_,_,hzz⟩,_⟩:=hT;obtain⟨zv,hzv,hzc⟩:=hzz _ hz;have hv:∀ w,(zeroValue T).run P w = .ok zv w:=fun w=>by simp [zeroValue,typeInfo,hi,hzv]
 have hzs:zv.cells.size=m:=by rw [<- hm,<- hzc];simp
 obtain⟨zs,hzd⟩:=nm ((Builtin.zeroCells zv.cells n).toList);have hzl:zs.length=n*m:=by rw [hzd];simp [Builtin.zeroCells,hzs]
 have hone:∀ v∈zs,v.oneCell'=true:=fun v hv'=>by
  rw [hzd] at hv';simp only [Builtin.zeroCells,Array.toList_map,List.mem_map] at hv';obtain⟨i,_,rfl⟩:=hv';have hlt:i%zv.cells.size<zv.cells.size:=Nat.mod_lt _ (by omega);rw [getElem!_pos zv.cells (i%zv.cells.size) hlt];refine List.all_eq_true.1 h1 _ ?_;rw [<- hzc];exact Array.getElem_mem_toList hlt
 have hst:=run_storeCells_at P b o u zs 0 cs.toArray w hg (by simpa [hzl] using ho) hone;simp only [Nat.add_zero,hzl] at hst;refine SatR.mk (v := .tuple #[]) (w':=w.setRow b (cs.take o++zs++cs.drop (o+n*m)).toArray) ?_ (k _ zs hzl (zaj hg) (zaO w b _) (by simp));obtain⟨j,rfl⟩:∃ j,n=j+1:=⟨n-1,by omega⟩;simp [Builtin.clear_,run_underlying hu,hv,<- hzd,hst]
def zc4:FinV->List FinV->List FinV
 | _,[]=>[]
 | p,y::r=>if y=p then zc4 p r else y::zc4 y r
def dedF:List FinV->List FinV
 | []=>[]
 | x::r=>x::zc4 x r
theorem zeJ:∀ (A:List FinV) (p x:FinV),zc4 p (A++[x])=if x=(p::A).getLast (by simp) then zc4 p A else zc4 p A++[x]
 | [],p,x=>by
  show (if x=p then [] else [x])=_;rfl
 | y::A,p,x=>by
  show (if y=p then zc4 p (A++[x]) else y::zc4 y (A++[x]))=_;have hl:(p::y::A).getLast (by simp)=(y::A).getLast (by simp):=List.getLast_cons (by simp);rw [hl];show _=if x=(y::A).getLast _ then (if y=p then zc4 p A else y::zc4 y A) else (if y=p then zc4 p A else y::zc4 y A)++[x]
  by_cases h:y=p
  ·subst h;rw [if_pos rfl,if_pos rfl,zeJ A y x]
  ·rw [if_neg h,if_neg h,zeJ A y x]
   split <;> rfl
theorem zmu {A:List FinV} (h:A≠[]) (x:FinV):dedF (A++[x])=if x=A.getLast h then dedF A else dedF A++[x]:=by
 cases A with
 | nil=>exact absurd rfl h
 | cons y A =>
  show y::zc4 y (A++[x])=_;rw [zeJ];show _=if x=(y::A).getLast h then y::zc4 y A else y::zc4 y A++[x]
  split <;> rfl
theorem zh3 {l:List FinV} {i:Nat} (h0:0<i) (hi:i<l.length):dedF (l.take (i+1))=if l[i]=l[i-1] then dedF (l.take i) else dedF (l.take i)++[l[i]]:=by
 rw [tsg hi];have hne:l.take i≠[]:=by
  intro e;have:=congrArg List.length e;rw [List.length_take,List.length_nil] at this;omega
 rw [zmu hne];have:(l.take i).getLast hne=l[i-1]:=by
  have hlen:(l.take i).length-1=i-1:=by rw [List.length_take];omega
  simp only [List.getLast_eq_getElem,List.getElem_take,hlen]
 rw [this]
section
variable {B g cap:Nat} {l:List FinV} {w:World}
theorem zhe {X:World} {sp:List Value} {M:List FinV} (h:RowS finE 27 X g sp M) {i:Nat} (hi:i<M.length):zax X ⟨g,0+i*38,none⟩ (finE.enc M[i]):=h.at hi
theorem zmf {M:List FinV} {i:Nat} {x:FinV} (h:M[i]?=some x):∃ hi:i<M.length,M[i]=x:=by
 obtain⟨hi,e⟩:=List.getElem?_eq_some_iff.1 h;exact⟨hi,e⟩
theorem zkX (ho:OwnS finE 27 B w (some ⟨g,0,none⟩) cap l) (hn:l.length<=1000000) :
  Calls Tryz.prog 38 #[.slice (some ⟨g,0,none⟩) l.length cap] w fun e w'=>e = .returned (.slice (some ⟨g,0,none⟩) (dedF l).length cap)/\OwnS finE 27 B w' (some ⟨g,0,none⟩) cap (dedF l)/\w.grownBy w' (some g):=by
 refine cofE 61 [.slice (some ⟨g,0,none⟩) l.length cap] Tryz.func38 ?_;rcases ho.inv with ⟨h,_⟩ | ⟨g',cur,hg,hB,hcur,hlc,hcm,hcs,hct⟩
 ·cases h
 simp only [Option.some.injEq,Addr.mk.injEq,and_true] at hg;subst hg;have hcs:cur.size=cap*38:=hcs;obtain⟨sp,hsp⟩:=nm (cur.toList.drop (l.length*38));have hct:cur.toList.take (l.length*38)=l.flatMap finE.enc:=hct;have hR:RowS finE 27 w g sp l:=by
  unfold RowS;rw [hcur,<- hct,hsp,List.take_append_drop]
 have hspl:l.length*38+sp.length=cap*38:=by
  have h1:cur.toList.length=cap*38:=by rw [Array.length_toList];exact hcs
  rw [hsp,List.length_drop,h1];omega
 refine biE (fun h=>?_) fun h=>?_
 ·have h:(l.length:Int)<2:=dT h;have e:dedF l=l:=by
   match l,h with
   | [],_=>rfl
   | [x],_=>rfl
   | x::y::r,h=>simp at h;omega
  rw [e];exact⟨rfl,ho,za7 w _⟩
 have h:¬ (l.length:Int)<2:=dF h;have hl2:2<=l.length:=by omega
 refine⟨Nat,fun k=>⟨[(0,.slice (some ⟨g,0,none⟩) l.length cap),(3,i64 (k:Nat))],[]⟩,fun k X=>1<=k/\k<=l.length/\dedF (l.take k)=l.take k/\RowS finE 27 X g sp l/\w.grownBy X (some g),fun k=>l.length-k,1,
  (cvE rfl rfl),⟨Nat.le_refl _,by omega,by
   cases l with
   | nil=>rfl
   | cons x r=>rfl,hR,za7 w _⟩,?_⟩
 rintro k X ⟨hk1,hkl,hdk,hRX,gX⟩;refine biE (fun hc=>?_) fun hc=>?_
 ·have hc:(k:Int)<(l.length:Int):=dT hc;have hk:k<l.length:=by omega
  refine DrawE.ord [] [0,1,2,3,4,5,6,7,8,9] (by kernel_rfl) ?_;have hRd:RowS finE 27 X.drew g sp l:=hRX;have gd:w.grownBy X.drew (some g):=zae gX ⟨rfl,rfl,rfl,Nat.le_refl _,fun _ _ _=>rfl⟩;refine⟨k,rfl,hk,?_⟩;refine⟨finE.enc l[k],finE.len _,zhe hRd hk,hRd.lt,?_⟩;refine⟨((k-1:Nat):Int),(zaf (by omega)).trans (by omega),?_⟩;refine⟨k-1,rfl,by omega,?_⟩;refine⟨finE.enc l[k-1],finE.len _,zhe hRd (by omega),hRd.lt,?_⟩;refine⟨_,fun w=>zjP _ _ l[k] l[k-1] w,?_⟩;have hnx:=zh3 (l:=l) hk1 hk;refine biE (fun he=>?_) fun he=>?_
  ·have he:l[k]=l[k-1]:=dT he;rw [if_pos he] at hnx;refine⟨k,rfl,by show k<=l.length;omega,?_⟩;have hcb:zaI (some ⟨g,0,none⟩) cap k 38=some ⟨g,k*38,none⟩:=by
    unfold zaI;rw [if_neg (by omega)];show some ((⟨g,0,none⟩:Addr).add (k*38))=_;rw [zb1,Nat.zero_add]
   refine⟨Nat×Nat×List FinV,fun s=>⟨[(0,.slice (some ⟨g,0,none⟩) l.length cap),(3,i64 (s.2.1:Nat)),(4,.slice (some ⟨g,k*38,none⟩) (l.length-k) (cap-k)),(5,i64 (s.1:Nat))],[]⟩,
    fun s Y=>(1<=s.1/\k+s.1<=l.length)/\(s.2.1=(dedF (l.take (k+s.1))).length/\s.2.1+1<=k+s.1)/\(s.2.2.length=l.length/\s.2.2.take s.2.1=dedF (l.take (k+s.1))/\∀ j,s.2.1<=j->s.2.2[j]?=l[j]?)/\RowS finE 27 Y g sp s.2.2/\w.grownBy Y (some g),fun s=>l.length-s.1,(1,k,l),
    ⟨.cons rfl (.cons rfl (.cons (by rw [<- hcb];rfl) (.cons rfl .nil))),rfl⟩,⟨⟨Nat.le_refl _,by show k+1<=_;omega⟩,⟨by show k=_;rw [hnx,hdk,List.length_take];omega,Nat.le_refl _⟩,⟨rfl,by show l.take k=_;rw [hnx,hdk],fun j _=>rfl⟩,hRd,gd⟩,?_⟩
   rintro⟨m,q,M⟩ Y ⟨⟨hm1,hml⟩,⟨hq,hqm⟩,⟨hM,hMt,hMj⟩,hRY,gY⟩;dsimp only at hm1 hml hq hqm hM hMt hMj hRY ⊢;refine biE (fun hc=>?_) fun hc=>?_
   ·have hc:(m:Int)<((l.length-k:Nat):Int):=dT hc;have hi:k+m<l.length:=(by omega);have g1:M[k+m]?=some l[k+m]:=(by rw [hMj _ (by omega),gE hi]);have g0:M[k+m-1]?=some l[k+m-1]:=(by rw [hMj _ (by omega),gE (by omega)]);obtain⟨i1,e1⟩:=zmf g1;obtain⟨i0,e0⟩:=zmf g0;have nx:=zh3 (l:=l) (i:=k+m) (by omega) hi;refine DrawE.ord [] [0,1,2,3,4,5,6,7,8,9] (by kernel_rfl) ?_;have hRYd:RowS finE 27 Y.drew g sp M:=hRY;have gYd:w.grownBy Y.drew (some g):=zae gY ⟨rfl,rfl,rfl,Nat.le_refl _,fun _ _ _=>rfl⟩;have a1:zax Y.drew ⟨g,k*38+m*38,none⟩ (finE.enc l[k+m]):=by
     have:=zhe hRYd i1;rw [e1,Nat.zero_add,Nat.add_mul] at this;exact this
    have a0:zax Y.drew ⟨g,k*38+(m-1)*38,none⟩ (finE.enc l[k+m-1]):=by
     have:=zhe hRYd i0;rw [e0,Nat.zero_add,show (k+m-1)*38=k*38+(m-1)*38 by omega] at this;exact this
    refine⟨m,rfl,by omega,?_⟩;refine⟨finE.enc l[k+m],finE.len _,a1,hRYd.lt,?_⟩;refine⟨((m-1:Nat):Int),(zaf (by omega)).trans (by omega),?_⟩;refine⟨m-1,rfl,by omega,?_⟩;refine⟨finE.enc l[k+m-1],finE.len _,a0,hRYd.lt,?_⟩;refine⟨_,fun w=>zgW _ _ l[k+m] l[k+m-1] w,?_⟩;refine biE (fun hne=>?_) fun hne=>?_
    ·have hne:¬ l[k+m]=l[k+m-1]:=fun e=>by
      have hne:(!decide (l[k+m]=l[k+m-1]))=true:=hne;rw [e,decide_eq_true rfl] at hne;cases hne
     rw [if_neg hne] at nx;refine⟨m,rfl,by omega,?_⟩;refine⟨finE.enc l[k+m],finE.len _,a1,hRYd.lt,?_⟩;refine⟨q,rfl,by omega,?_⟩;refine zht k27 rfl hRYd (i:=q) (by omega) l[k+m] fun Z hRZ gZ sZ=>?_;refine nxI (by omega) ?_;refine nxI (by omega) ?_;refine⟨(m+1,q+1,M.set q l[k+m]),(cvE rfl rfl),⟨⟨by omega,by show k+(m+1)<=_;omega⟩,⟨?_,by show q+1+1<=k+(m+1);omega⟩,⟨by rw [List.length_set];exact hM,?_,fun j hj=>?_⟩,hRZ,zae gYd gZ⟩,zdc (by omega)⟩
     ·show q+1=(dedF (l.take (k+(m+1)))).length;rw [<- Nat.add_assoc,nx,lap,<- hq];rfl
     ·show (M.set q l[k+m]).take (q+1)=dedF (l.take (k+(m+1)));rw [<- Nat.add_assoc,nx,<- hMt];rw [tsg (by rw [List.length_set];omega),List.take_set_of_le (Nat.le_refl _),List.getElem_set_self]
     ·show (M.set q l[k+m])[j]?=l[j]?;have hj:q+1<=j:=hj;rw [List.getElem?_set_ne (by omega)];exact hMj j (by omega)
    ·have heq:l[k+m]=l[k+m-1]:=by
      have hne:(!decide (l[k+m]=l[k+m-1]))=false:=hne;simpa using hne
     rw [if_pos heq] at nx;refine nxI (by omega) ?_;exact⟨(m+1,q,M),(cvE rfl rfl),⟨⟨by omega,by show k+(m+1)<=_;omega⟩,⟨by show q=(dedF (l.take (k+(m+1)))).length;rw [<- Nat.add_assoc,nx];exact hq,by show q+1<=k+(m+1);omega⟩,⟨hM,by show M.take q=dedF (l.take (k+(m+1)));rw [<- Nat.add_assoc,nx];exact hMt,hMj⟩,hRYd,gYd⟩,zdc (by omega)⟩
   ·have hc:¬ (m:Int)<((l.length-k:Nat):Int):=dF hc;have hkm:k+m=l.length:=(by omega);rw [hkm,List.take_length] at hq hMt;refine⟨q,rfl,by show q<=l.length;omega,?_⟩;have hcb2:zaI (some ⟨g,0,none⟩) cap q 38=some ⟨g,q*38,none⟩:=by
     unfold zaI;rw [if_neg (by omega)];show some ((⟨g,0,none⟩:Addr).add (q*38))=_;rw [zb1,Nat.zero_add]
    have hfl:(M.flatMap finE.enc++sp).length=cap*38:=by
     rw [lap,zaG,hM];show l.length*38+_=_;omega
    have hcl:SatR ((Builtin.clear_ #[35] 0 #[.slice (some ⟨g,q*38,none⟩) (l.length-q) (cap-q)]).run Tryz.prog Y) fun _ Z=>(∃ zs:List Value,zs.length=(l.length-q)*38/\Z.heap[g]?=some (.cells ((M.flatMap finE.enc++sp).take (q*38)++zs++(M.flatMap finE.enc++sp).drop (q*38+(l.length-q)*38)).toArray 27 (0,0)))/\Y.grownBy Z (some g) :=
     zkL Tryz.underlying35 k27 rfl rfl rfl (by decide) (by omega) hRY (by show q*38+(l.length-q)*38<=(M.flatMap finE.enc++sp).length;rw [hfl];omega) fun Z zs hzs fZ gZ sZ=>⟨⟨zs,hzs,fZ⟩,gZ⟩
    obtain⟨v,Z,hrun,⟨zs,hzs,fZ⟩,gZ⟩:=hcl;refine⟨v,Z,by rw [hcb2];exact hrun,?_⟩;refine⟨q,rfl,by show q<=cap;omega,?_⟩;rw [<- hq];refine⟨by show Ending.returned (Value.slice (zaI (some ⟨g,0,none⟩) cap 0 38) (q-0) (cap-0))=_;rw [zbn];rfl,?_,zae gY gZ⟩;unfold OwnS World.ownsRow;refine⟨by rw [zaG],.inr ⟨g,cap,_,rfl,hB,fZ,by omega,hcm,?_,?_⟩⟩
    ·show (List.length _)=cap*38;rw [lap,lap,List.length_take,hzs,List.length_drop,hfl];omega
    ·rw [<- hq];show ((M.flatMap finE.enc++sp).take (q*38)++zs++(M.flatMap finE.enc++sp).drop (q*38+(l.length-q)*38)).take (q*38)=_;rw [List.append_assoc,List.take_append_of_le_length (by rw [List.length_take,hfl];omega),List.take_take,Nat.min_self,List.take_append_of_le_length (by rw [zaG,hM];show q*38<=l.length*38;omega),<- hMt];have e2:M.flatMap finE.enc=(M.take q).flatMap finE.enc++(M.drop q).flatMap finE.enc:=(by rw [<- List.flatMap_append,List.take_append_drop]);rw [e2,List.take_left' (by rw [zaG,List.length_take];show min q M.length*38=q*38;rw [Nat.min_eq_left (by omega)])]
  ·have he:¬ l[k]=l[k-1]:=fun e=>(dF he) (by rw [e]);rw [if_neg he,hdk] at hnx;refine nxI (by omega) ?_;exact⟨k+1,(cvE rfl rfl),⟨by omega,hk,by rw [hnx,tsg hk],hRd,gd⟩,zdc (by omega)⟩
 ·have hc:¬ (k:Int)<(l.length:Int):=dF hc;obtain rfl:k=l.length:=by omega
  rw [List.take_length] at hdk;rw [hdk];refine⟨rfl,?_,gX⟩;unfold OwnS World.ownsRow;refine⟨by rw [zaG],.inr ⟨g,cap,_,rfl,hB,hRX,by omega,hcm,?_,?_⟩⟩
  ·show (l.flatMap finE.enc++sp).length=cap*38;rw [lap,zaG];show l.length*38+_=_;omega
  ·exact List.take_left' (zaG l)
end
theorem zrJ (n:Nat) (hn:n<=1000000000) (w:World) (B:Nat) (hB:B<=w.heap.size) :
  Calls Tryz.prog 59 #[.slice none 0 0,.int .i64 n] w fun e w'=>∃ p cap,e = .returned (.slice p 0 cap)/\OwnS finE 27 B w' p cap []/\Bw w w':=by
 refine cofE 27 [.slice none 0 0,.int .i64 n] Tryz.func59 ?_;refine biE (fun h=>?_) fun _=>?_
 ·have:=dT h;omega
 have hcap:∀ w,(Builtin.cap_ #[35] 3 #[.slice none 0 0]).run Tryz.prog w = .ok (.int .i64 0) w:=fun w=>by simp [Builtin.cap_,run_underlying Tryz.underlying35,goInt]
 refine SatR.mk (hcap _) ?_;refine⟨0,by rfl,?_⟩;refine⟨n,(zaf (by omega)).trans (by omega),?_⟩;refine biE (fun h=>?_) fun _=>?_
 ·have h:=dT h;refine SatR.mk (hcap _) ?_;refine⟨0,rfl,by omega,?_⟩;refine zmW (α:=FinV) (E:=finE) Tryz.underlying35 Tryz.underlying3 k27 rfl rfl rfl hB (by omega) (by omega) (by dsimp only;omega) ?_;intro cap' w' ho hb hc;refine⟨0,rfl,by omega,?_⟩;exact⟨some ⟨w.heap.size,0,none⟩,cap',by rw [zbn];rfl,ho,hb⟩
 ·exact⟨none,0,rfl,.nil,Below.refl _ _⟩
structure Part where
 p:Option Addr
 cap:Nat
 l:List FinV
def Part.val (q:Part):Value := .slice q.p q.l.length q.cap
def zgR:Enc Part:=⟨fun q=>[q.val],1,fun _=>rfl,by decide,fun a u hu=>by
 simp only [List.mem_cons,List.not_mem_nil,or_false] at hu;subst hu;rfl⟩
def Part.ok (w:World) (q:Part):Prop:=SlR finE w q.p q.l/\(q.p=none->q.cap=0)
theorem Part.ok.below {w w2:World} {q:Part} (h:q.ok w) (hb:Bw w w2):q.ok w2:=⟨h.1.below hb,h.2⟩
def zcI (qs:List Part):List FinV:=qs.flatMap (·.l)
theorem zgi {qs:List Part} {k:Nat} (hk:k<qs.length):zcI (qs.take (k+1))=zcI (qs.take k)++qs[k].l:=by
 unfold zcI;rw [tsg hk,List.flatMap_append];simp
theorem zhq {qs:List Part} (k:Nat):(zcI (qs.take k)).length<=(zcI qs).length:=by
 have:zcI qs=zcI (qs.take k)++zcI (qs.drop k):=by unfold zcI;rw [<- List.flatMap_append,List.take_append_drop]
 rw [this];simp
theorem zop (p:Option Addr) (cap:Nat) (qs:List Part) (w:World) (hp:SlR zgR w p qs) (hq:∀ q∈qs,q.ok w) (hn:(zcI qs).length<=1000000000) (hqn:qs.length<=1000000000) :
  Calls Tryz.prog 35 #[.slice p qs.length cap] w fun e w'=>∃ p' cap',e = .returned (.slice p' (zcI qs).length cap')/\OwnS finE 27 w.heap.size w' p' cap' (zcI qs)/\Bw w w':=by
 refine cofE 36 [.slice p qs.length cap] Tryz.func35 ?_;refine⟨Nat,fun k=>⟨[(0,.slice p qs.length cap),(2,.slice none 0 0),(3,.int .i64 (zcI (qs.take k)).length),(9,.slice p qs.length cap),(10,.int .i64 qs.length),(11,.int .i64 (k:Nat))],[]⟩,
  fun k X=>k<=qs.length/\X=w,fun k=>qs.length-k,0,(cvE rfl rfl),⟨Nat.zero_le _,rfl⟩,?_⟩
 rintro k X ⟨hk,rfl⟩;refine biE (fun h=>?_) fun h=>?_
 ·have h:=dT h;have hkl:k<qs.length:=by omega
  obtain⟨b,o,rfl,hb,hc⟩:=hp.at hkl;have ht:=zgi hkl;have ht1:=zhq (qs:=qs) (k+1);rw [ht,lap] at ht1;refine⟨k,rfl,hkl,?_⟩;refine⟨_,zbW (hc k hkl),?_⟩;refine⟨_,zaf (by omega),?_⟩;refine biE (fun h=>?_) fun h=>?_
  ·have:=dT h;omega
  ·refine⟨_,zaf (by omega),?_⟩;exact⟨k+1,⟨.cons rfl (.cons rfl (.cons (by rw [ht,lap];rfl) (.cons rfl (.cons rfl (.cons rfl .nil))))),rfl⟩,⟨hkl,rfl⟩,by dsimp only;omega⟩
 ·have h:=dF h;have hke:k=qs.length:=by omega
  subst hke;have hT:zcI (qs.take qs.length)=zcI qs:=by rw [List.take_length]
  refine cmo (zrJ (zcI (qs.take qs.length)).length (by rw [hT];exact hn) X X.heap.size (Nat.le_refl _)) ?_;rintro e Y ⟨pg,cg,rfl,hog,hbY⟩;refine⟨Nat×Option Addr×Nat,fun s=>⟨[(0,.slice p qs.length cap),(2,.slice none 0 0),(6,.slice s.2.1 (zcI (qs.take s.1)).length s.2.2),(25,.slice p qs.length cap),(26,.int .i64 qs.length),(27,.int .i64 (s.1:Nat))],[]⟩,
   fun s Z=>s.1<=qs.length/\Bw X Z/\OwnS finE 27 X.heap.size Z s.2.1 s.2.2 (zcI (qs.take s.1)),fun s=>qs.length-s.1,(0,pg,cg),(cvE rfl rfl),⟨Nat.zero_le _,hbY,hog⟩,?_⟩
  rintro⟨k,pn,cn⟩ Z ⟨hk,hbZ,hoZ⟩;dsimp only at hk hoZ;refine biE (fun h=>?_) fun h=>?_
  ·have h:=dT h;have hkl:k<qs.length:=by omega
   obtain⟨b,o,rfl,hb,hc⟩:=(hp.below hbZ).at hkl;have ht:=zgi hkl;have ht1:=zhq (qs:=qs) (k+1);rw [ht,lap] at ht1;have hqk:=(hq qs[k] (gM _)).below hbZ;refine⟨k,rfl,hkl,?_⟩;refine⟨_,zbW (hc k hkl),?_⟩;refine zdY (α:=FinV) (E:=finE) (news:=qs[k].l) Tryz.underlying35 k27 rfl rfl rfl hoZ rfl hqk.1 hqk.2 hbZ.size (by omega) (by dsimp only;omega) ?_;intro p' cap' w' ho' hg' hb';refine⟨_,zaf (by omega),?_⟩;rw [<- ht] at ho';exact⟨(k+1,p',cap'),⟨.cons rfl (.cons rfl (.cons (by rw [ht];rfl) (.cons rfl (.cons rfl (.cons rfl .nil))))),rfl⟩,⟨hkl,hbZ.trans hb',ho'⟩,by dsimp only;omega⟩
  ·have h:=dF h;have hke:k=qs.length:=by omega
   subst hke;rw [hT] at hoZ;exact⟨pn,cn,by rw [<- hT];rfl,hoZ,hbZ⟩
def zg3 (c:Cnd) (l:List FinV):Nat:=((zcE l).filter fun f=>za3 f 20 c).length
def askB (ask:UInt8) (c:Cnd) (l:List FinV):Bool :=
 if ask=1 then decide (0<zg3 c l) else if ask=2 then decide (zg3 c l=0) else if ask=3 then decide (zg3 c l=(zcE l).length) else false
theorem zfy {α:Type} [DecidableEq α]:∀ {a b:List α},a.Nodup->(∀ x∈a,x∈b)->a.length<=b.length
 | [],b,_,_=>Nat.zero_le _
 | x::r,b,h,hs=>by
  have hx:=hs x (List.mem_cons_self ..);have h1:=List.nodup_cons.1 h;have:=zfy (a:=r) (b:=b.erase x) h1.2 fun y hy=>(List.mem_erase_of_ne (fun e=>by subst e;exact h1.1 hy)).2 (hs y (List.mem_cons_of_mem _ hy));rw [List.length_erase_of_mem hx] at this;have:=List.length_pos_of_mem hx;simp only [List.length_cons];omega
end Go.Proofs.YtlkofpbdpplfkaaGreatDoor
namespace Go.Proofs.YtlkofpbdpplfkaaGreatDoor
open Go.Vc Go.RowKit Go.Sei
open Go.Sort
theorem zi5 {w:World} {q:Nat} {os:Array Obj}:Bw w (grow (w.drewN q) os):=⟨rfl,rfl,rfl,by simp [grow,World.drewN],fun k hk=>by
 show (w.heap++os)[k]?=_;rw [Array.getElem?_append_left hk]⟩
theorem zmA {l s:List FinV} {a b:FinV} (h:zeK l=b::s):zeK (a::l)=if a=b then b::s else a::b::s:=by
 unfold zeK;rw [h]
theorem zjT:∀ (l:List FinV) (a:FinV),a::zc4 a l=zeK (a::l)
 | [],a=>rfl
 | b::r,a=>by
  have ih:=zjT r b;rw [zmA ih.symm];by_cases e:b=a
  ·subst e;rw [zc4,if_pos rfl,if_pos rfl]
  ·rw [zc4,if_neg e,if_neg (fun h:a=b=>e h.symm)]
theorem zmv (l:List FinV):dedF l=zeK l:=by
 cases l with
 | nil=>rfl
 | cons a r=>exact zjT r a
section
variable {w:World} {F G:FinV}
theorem zdk:CB 15 #[zaD F,zaD G] w (.bool (ltF F G)):=by
 refine cofE 9 [zaD F,zaD G] Tryz.func15 ?_;have f2:=hold (.cells (zaD G).cells 27) (hnew w (.cells (zaD F).cells 27));have f3:=hnew (w.alloc (.cells (zaD F).cells 27)) (.cells (zaD G).cells 27);have b1:Bw w ((w.alloc (.cells (zaD F).cells 27)).alloc (.cells (zaD G).cells 27)):=((zba w _)).alloc (by rw [wz];omega) _;refine⟨finE.enc F,finE.len F,zaa f2,hlt f2,?_⟩;refine⟨finE.enc G,finE.len G,zaa f3,hlt f3,?_⟩;refine cmo zlL ?_;rintro e _ ⟨rfl,q,os,rfl⟩;exact⟨rfl,(zst b1 zi5)⟩
end
theorem zgO:srtF []=[]:=by unfold srtF;simp
theorem zja {q:Option Addr} {cap:Nat} {w:World}:Calls Tryz.prog 38 #[.slice q 0 cap] w fun e w'=>e = .returned (.slice q 0 cap)/\w=w':=by
 refine cofE 61 [.slice q 0 cap] Tryz.func38 ?_;refine brT ?_;exact⟨rfl,rfl⟩
section
variable {w:World} {p:Option Addr} {cap:Nat} {l:List FinV}
theorem zic (hl:SlR finE w p l) (hn:l.length<=1000000) (hp:p=none->cap=0):Calls Tryz.prog 14 #[.slice p l.length cap] w fun e w'=>∃ q c,e = .returned (.slice q (zcE l).length c)/\OwnS finE 27 w.heap.size w' q c (zcE l)/\Bw w w':=by
 refine cofM 11 [.slice p l.length cap] (.s .p (.c .p (.c .p .p))) Tryz.func14 ?_;refine⟨Option Addr×Nat,fun s=>⟨[(3,.slice s.1 l.length s.2)],[]⟩,fun s X=>OwnS finE 27 w.heap.size X s.1 s.2 l/\Bw w X,?_,?_⟩
 ·refine⟨⟨by decide,by decide,rfl⟩,[.slice p l.length cap],rfl,?_⟩;have f0:=hnew w (.cells #[.slice p l.length cap] 35);have hb:Bw w (w.alloc (.cells #[.slice p l.length cap] 35)):=zba w _;have ht:zcI [(⟨p,cap,l⟩:Part)]=l:=by unfold zcI;simp
  have hs:SlR zgR (w.alloc (.cells #[.slice p l.length cap] 35)) (some ⟨w.heap.size,0,none⟩) [(⟨p,cap,l⟩:Part)] := .inr ⟨w.heap.size,0,rfl,hlt f0,fun i hi=>by
   have h0:i=0:=by simpa using hi
   subst h0;exact zaa f0⟩
  have hc:=zop (some ⟨w.heap.size,0,none⟩) 1 [(⟨p,cap,l⟩:Part)] (w.alloc (.cells #[.slice p l.length cap] 35)) hs (fun x hx=>by
   simp only [List.mem_cons,List.not_mem_nil,or_false] at hx;subst hx;exact⟨hl.below hb,hp⟩) (by rw [ht];omega) (Nat.le_of_ble_eq_true rfl)
  refine cmo hc ?_;rintro e Y ⟨p',cap',rfl,hoY,hbY⟩;rw [ht] at hoY;rw [ht];exact⟨(p',cap'),(cvE rfl rfl),hoY.lower hb.size,(zst hb hbY)⟩
 rintro⟨q,c⟩ X ⟨hoX,hbX⟩;dsimp only at hoX;refine⟨Option Addr×Nat,fun s=>⟨[(3,.slice s.1 (srtF l).length s.2)],[]⟩,fun s X=>OwnS finE 27 w.heap.size X s.1 s.2 (srtF l)/\Bw w X/\(l≠[]->∃ g,s.1=some ⟨g,0,none⟩/\w.heap.size<=g),?_,?_⟩
 ·have hlen:(srtF l).length=l.length:=(List.mergeSort_perm l leF).length_eq;by_cases h0:l=[]
  ·subst h0;refine cmo (Tryz.slices_SortFunc_none (α:=FinV) q c _ X) ?_;rintro e _ ⟨rfl,rfl⟩;rw [zgO];exact⟨(q,c),(cvE rfl rfl),hoX,hbX,fun h=>absurd rfl h⟩
  ·rcases hoX.inv with ⟨_,_,h⟩ | ⟨g,cur,rfl,hg,_⟩
   ·exact absurd h h0
   have hgl:g<X.heap.size:=by
    rcases hoX.inv with ⟨h,_⟩ | ⟨g',cur',h,_,hh,_⟩
    ·cases h
    ·cases h;exact hlt hh
   have hc:CmpLays Tryz.prog 37 #[] finE.enc 38 ordF g 0 l.toArray.size X:=fun m os dk _ x y=>by
    refine (zlL (F:=x) (G:=y)).mono ?_;rintro e w' ⟨rfl,q,os',rfl⟩;exact⟨rfl,q,os',rfl⟩
   have hs:=Tryz.slices_SortFunc_total (α:=FinV) 38 (fun w=>Tryz.isAgg27 w) (fun w=>Tryz.sizeOf27 w) finE.enc finE.len finE.one ordF zpx 37 #[] g 0 c l.toArray X
    (fun args w=>(sgOk 0).call 37 (by decide) (by decide) (by decide) args w) hc (zkH hoX) hgl (by simp;omega) zlY
   rw [List.size_toArray] at hs;refine cmo hs ?_;rintro e _ ⟨rfl,n,os,rfl⟩;have hso:=zkj (l':=srtF l) hoX hlen n os;have e1:(l.toArray.toList.mergeSort fun x y => !(ltOf ordF) y x)=srtF l:=rfl;rw [e1];exact⟨(some ⟨g,0,none⟩,c),⟨.cons (by rw [hlen];rfl) .nil,rfl⟩,hso.1,hbX.trans (zak hso.2 hbX.size hg),fun _=>⟨g,rfl,hg⟩⟩
 rintro⟨q,c⟩ Y ⟨hoY,hbY,hg⟩;dsimp only at hoY hg;have hlen:(srtF l).length=l.length:=(List.mergeSort_perm l leF).length_eq;by_cases h0:l=[]
 ·subst h0;have e1:zcE []=[]:=by unfold zcE;rw [zgO];rfl
  rw [zgO] at hoY ⊢;rw [e1];refine cmo (zja (q:=q) (cap:=c) (w:=Y)) ?_;rintro e _ ⟨rfl,rfl⟩;exact⟨q,c,rfl,hoY,hbY⟩
 ·obtain⟨g,rfl,hgw⟩:=hg h0;refine cmo (zkX hoY (by omega)) ?_;rintro e Z ⟨rfl,hoZ,gZ⟩;rw [zmv] at hoZ ⊢;exact⟨_,_,rfl,hoZ,hbY.trans (zak gZ hbY.size hgw)⟩
end
end Go.Proofs.YtlkofpbdpplfkaaGreatDoor
namespace Go.Proofs.YtlkofpbdpplfkaaGreatDoor
open Go.Vc Go.RowKit Go.Sei
def zg2 (ask:UInt8) (c:Cnd) (l:List FinV):Nat:=if ask=1\/ask=2\/ask=3 then zg3 c l else 0
theorem zmU (a:UInt8):decide (((a.toNat:Nat):Int)<1)=false->decide (3<((a.toNat:Nat):Int))=false->a=1\/a=2\/a=3:=fun h1 h2=>by
 have h1:=dF h1;have h2:=dF h2;have h:a.toNat=1\/a.toNat=2\/a.toNat=3:=by omega
 rcases h with h | h | h
 ·exact .inl (UInt8.toNat_inj.1 h)
 ·exact .inr (.inl (UInt8.toNat_inj.1 h))
 ·exact .inr (.inr (UInt8.toNat_inj.1 h))
theorem zj4 {a:UInt8} (h:a=1\/a=2\/a=3):1<=a.toNat/\a.toNat<=3:=by
 rcases h with rfl | rfl | rfl <;> decide
theorem ziS {α:Type} {p:α->Bool} {l:List α} {i:Nat} (h:i<l.length):((l.take (i+1)).filter p).length=((l.take i).filter p).length+if p l[i]=true then 1 else 0:=by
 rw [tsg h,List.filter_append,lap,List.filter_cons]
 split <;> rfl
theorem zl4 {a b:Nat}:decide ((a:Int)=(b:Int))=decide (a=b):=decide_eq_decide.2 Int.ofNat_inj
theorem zh0 {α:Type} {p:α->Bool} {l:List α} {i:Nat}:((l.take i).filter p).length<=i:=Nat.le_trans (List.length_filter_le ..) (by rw [List.length_take];omega)
section
variable {w:World} {c:Cnd} {q:Option Addr} {cap:Nat} {p:Option Addr} {cl:Nat} {l:List FinV} {ask:UInt8}
theorem zho (hk:KidsG w.heap.size w q c.kids) (hl:SlR finE w p l) (hn:l.length<=1000000) (hp:p=none->cl=0):Calls Tryz.prog 13 #[u8 ask,cndV c q cap,.slice p l.length cl] w fun e w' =>
  e = .returned (.tuple #[.bool (askB ask c l),i64 (zg2 ask c l)])/\Bw w w':=by
 refine cofM 47 [u8 ask,cndV c q cap,.slice p l.length cl] (.s .p (.s .p (.c .p (.s .p (.c (.s .p (.b (.l (.s .p (.s .p (.s (.b (.c .p .p)) .p)))))) .p))))) Tryz.func13 ?_;have f4:=hnew w (.cells (zar c q cap).toArray 29);have hb1:Bw w (w.alloc (.cells (zar c q cap).toArray 29)):=zba w _;obtain⟨S,hS⟩:=nm (zcE l);have bad:¬ (ask=1\/ask=2\/ask=3)->askB ask c l=false/\zg2 ask c l=0:=fun h=>by
  unfold askB zg2;rw [if_neg fun e=>h (.inl e),if_neg fun e=>h (.inr (.inl e)),if_neg fun e=>h (.inr (.inr e)),if_neg h];exact⟨rfl,rfl⟩
 have noway:¬ (ask=1\/ask=2\/ask=3)->Ending.returned (.tuple #[.bool false,.int .i64 0])=Ending.returned (.tuple #[.bool (askB ask c l),i64 (zg2 ask c l)]):=fun h=>by
  rw [(bad h).1,(bad h).2];rfl
 have go:(ask=1\/ask=2\/ask=3)->∀ {P:Prop},P->P:=fun _ _ h=>h;refine biE (fun h=>?_) fun h=>?_
 ·have h:((ask.toNat:Nat):Int)<1:=dT h;refine brT ?_;exact⟨noway fun e=>by have:=zj4 e;omega,hb1⟩
 refine biE (fun h2=>?_) fun h2=>?_
 ·have h2:3<((ask.toNat:Nat):Int):=dT h2;exact⟨noway fun e=>by have:=zj4 e;omega,hb1⟩
 have hask:=zmU ask h h2;clear h h2 bad noway go;refine⟨Option Addr×Nat,fun s=>⟨[(0,u8 ask),(2,.slice s.1 S.length s.2),(4,At0 w.heap.size)],[]⟩,fun s X=>SlR finE X s.1 S/\X.heap[w.heap.size]?=some (.cells (zar c q cap).toArray 29 (0,0))/\Bw w X,?_,?_⟩
 ·refine cmo (zic (hl.below hb1) hn hp) ?_;rintro e Y ⟨q',c',rfl,hoY,hbY⟩;exact⟨(q',c'),⟨.cons rfl (.cons (by rw [hS];rfl) (.cons rfl .nil)),rfl⟩,by rw [hS];exact OwnS.row hoY,zab hbY f4,(zst hb1 hbY)⟩
 rintro⟨q',c'⟩ X ⟨hl,f4,hbX⟩;dsimp only at hl;have hm:((S.filter fun f=>za3 f 20 c).length)=zg3 c l:=by rw [hS];rfl
 have hSl:S.length<=1000000:=by
  rw [hS];exact Nat.le_trans (zfy (zhX (zcm l)) fun x hx=>zcl.1 hx) hn
 refine⟨Unit,fun _=>⟨[(0,u8 ask),(2,.slice q' S.length c'),(8,i64 (zg3 c l:Nat))],[]⟩,fun _ Y=>Bw w Y,?_,?_⟩
 ·refine⟨Nat,fun k=>⟨[(0,u8 ask),(2,.slice q' S.length c'),(4,At0 w.heap.size),(8,i64 (((S.take k).filter fun f=>za3 f 20 c).length:Nat)),(19,.slice q' S.length c'),(20,i64 S.length),(21,i64 k)],[]⟩,
   fun k Y=>k<=S.length/\SlR finE Y q' S/\Y.heap[w.heap.size]?=some (.cells (zar c q cap).toArray 29 (0,0))/\Bw w Y,fun k=>S.length-k,0,(cvE rfl rfl),⟨Nat.zero_le _,hl,f4,hbX⟩,?_⟩
  rintro k Y ⟨hk1,hlY,f4,hbY⟩;refine biE (fun h=>?_) fun h=>?_
  ·have hkl:k<S.length:=by have:=dT h;omega
   clear h;obtain⟨b,o,rfl,hlb,hat⟩:=hlY.at hkl;obtain⟨F,hF⟩:=nm (S[k]);have hatk:=hat k hkl;rw [<- hF] at hatk;refine⟨Nat,fun s=>⟨[(0,u8 ask),(2,.slice (some ⟨b,o,none⟩) S.length c'),(4,At0 w.heap.size),(8,i64 (((S.take k).filter fun f=>za3 f 20 c).length:Nat)),(10,At0 s),(19,.slice (some ⟨b,o,none⟩) S.length c'),(20,i64 S.length),(21,i64 k)],[]⟩,
    fun s Z=>Z.heap[s]?=some (.cells (finE.enc F).toArray 27 (0,0))/\Bw Y Z,?_,?_⟩
   ·refine⟨k,rfl,hkl,?_⟩;refine⟨finE.enc F,finE.len F,hatk,hlb,?_⟩;have f10:=hnew Y (.cells (List.replicate 38 (.int .u8 0)).toArray 27);refine zam (v:=zaD F) k27 f10 (by show (finE.enc F).length=38;exact finE.len F) rfl (List.all_eq_true.2 fun v hv=>finE.one F v hv) ?_;exact⟨Y.heap.size,(cvE rfl rfl),zaj f10,zag ((zba Y _)) (Nat.le_refl _) _⟩
   rintro b10 Z ⟨f10,hbZ⟩;have f4Z:=zab hbZ f4;have hbwZ:=zst hbY hbZ;refine⟨zar c q cap,rfl,zaa f4Z,hlt f4Z,?_⟩;refine⟨finE.enc F,finE.len F,zaa f10,hlt f10,?_⟩;refine cmo (zfh ((hk.kept hbwZ).wider hbwZ.size)) ?_;rintro e U ⟨rfl,hbU⟩;have hbYU:=zst hbZ hbU;have hbwU:=zst hbY hbYU;have hft:=ziS (p:=fun f=>za3 f 20 c) hkl;have hfl:=zh0 (p:=fun f=>za3 f 20 c) (l:=S) (i:=k);rw [<- hF] at hft;refine biE (fun h=>?_) fun h=>?_
   ·rw [if_pos h] at hft;refine⟨_,zaf (by omega),?_⟩;refine⟨_,zaf (by omega),?_⟩;exact⟨k+1,⟨.cons rfl (.cons rfl (.cons rfl (.cons (by rw [hft];rfl) (.cons rfl (.cons rfl (.cons rfl .nil)))))),rfl⟩,⟨hkl,hlY.below hbYU,zab hbYU f4,hbwU⟩,by dsimp only;omega⟩
   ·rw [if_neg (by rw [h];decide)] at hft;refine⟨_,zaf (by omega),?_⟩;exact⟨k+1,⟨.cons rfl (.cons rfl (.cons rfl (.cons (by rw [hft];rfl) (.cons rfl (.cons rfl (.cons rfl .nil)))))),rfl⟩,⟨hkl,hlY.below hbYU,zab hbYU f4,hbwU⟩,by dsimp only;omega⟩
  ·have hke:k=S.length:=by have:=dF h;omega
   subst hke;exact⟨(),⟨.cons rfl (.cons rfl (.cons (by rw [<- hm];show some (i64 (((S.take S.length).filter fun f=>za3 f 20 c).length:Nat))=_;rw [List.take_length]) .nil)),rfl⟩,hbY⟩
 rintro _ Y hbY;have hmq:zg2 ask c l=zg3 c l:=if_pos hask;rw [hmq];refine biE (fun h=>?_) fun h=>?_
 ·have h:ask=1:=dT ((zdL (x:=ask) (y:=1)).symm.trans h);refine⟨?_,hbY⟩;unfold askB;rw [if_pos h,<- zfF];rfl
 have h:¬ ask=1:=dF ((zdL (x:=ask) (y:=1)).symm.trans h);refine biE (fun h2=>?_) fun h2=>?_
 ·have h2:ask=2:=dT ((zdL (x:=ask) (y:=2)).symm.trans h2);refine⟨?_,hbY⟩;unfold askB;rw [if_neg h,if_pos h2,<- zl4];rfl
 ·have h2:¬ ask=2:=dF ((zdL (x:=ask) (y:=2)).symm.trans h2);refine⟨?_,hbY⟩;unfold askB;rw [if_neg h,if_neg h2,if_pos (hask.resolve_left h |>.resolve_left h2),<- hS,<- zl4];rfl
end
structure ExV (w:World) (x:ExD) (q:Option Addr):Prop where
 ev:SlR evE w q x.ev
 n:x.ev.length<=20
 po:WrdR x.po.to
 rf:WrdR x.rf.to
 co:WrdR x.co.to
 dt:WrdR x.dt.to
 ct:WrdR x.ct.to
 rm:WrdR x.rm.to
theorem ExV.below {w w2:World} {x:ExD} {q:Option Addr} (h:ExV w x q) (hb:Bw w w2):ExV w2 x q:=⟨h.ev.below hb,h.n,h.po,h.rf,h.co,h.dt,h.ct,h.rm⟩
theorem zdI {w:World} {q:Option Addr} {l:List Ev} (h:SlR evE w q l) {i:Nat} (hi:i<l.length):∃ b o,q=some ⟨b,o,none⟩/\b<w.heap.size/\zax w ⟨b,o+i*7,none⟩ (evE.enc (l.getD i ev0)):=by
 obtain⟨b,o,hq,hb,hat⟩:=h.at hi;refine⟨b,o,hq,hb,?_⟩;rw [gDe,gE hi];exact hat i hi
theorem tU64:TyEq Tryz.prog 99 false 1 1 (fun cs=>∃ x,cs=[.int .u64 x]) := .int Tryz.underlying99 (fun w=>Tryz.isAgg99 w) (zaU (by kernel_rfl) (by kernel_rfl)).1 (by kernel_rfl)
theorem tI64:TyEq Tryz.prog 3 false 1 1 (fun cs=>∃ x,cs=[.int .i64 x]) := .int Tryz.underlying3 (fun w=>Tryz.isAgg3 w) (zaU (by kernel_rfl) (by kernel_rfl)).1 (by kernel_rfl)
theorem zrR:∃ G,TyEq Tryz.prog 100 true 48 2 G/\∀ f:Nat->Nat,G (zcS f):=by
 refine⟨_,.array (m:=48) (by decide) Tryz.underlying100 (fun w=>Tryz.isAgg100 w) (zaU (by kernel_rfl) (by kernel_rfl)).1 (by kernel_rfl) tU64,fun f i hi=>?_⟩;refine⟨(f i:Nat),?_⟩;unfold zaR;have h:=zdN f hi;rw [Nat.mul_one];have hl:i<(zcS f).length:=by rw [zcz];exact hi
 rw [<- List.getElem_cons_drop hl,List.take_succ_cons,List.take_zero];rw [gE hl] at h;rw [Option.some.inj h];rfl
theorem zrS:∃ G,TyEq Tryz.prog 102 true 49 3 G/\∀ r:RelD,G (relC r):=by
 obtain⟨G,h1,h2⟩:=zrR;refine⟨_,.struct (uf Tryz.underlying102).1 (by kernel_rfl) (fun w=>Tryz.isAgg102 w) (zaU (by kernel_rfl) (by kernel_rfl)).1 (by kernel_rfl)
  (by rw [(uf Tryz.underlying102).2];exact .cons (by decide) rfl (tI64.up 1) (.cons (by decide) rfl h1 .nil)),fun r=>?_⟩
 exact⟨⟨_,rfl⟩,by have:=h2 r.to;have e:((relC r).drop 1).take 48=zcS r.to:=List.take_of_length_le (by rw [show (relC r).drop 1=zcS r.to from rfl,zcz];decide);rw [e];exact this,trivial⟩
theorem zlA {a b:RelD}:relC a=relC b↔zet a b=true:=by
 unfold zet;rw [bAT,dE,List.all_eq_true];constructor
 ·intro h;have h1:i64 a.n=i64 b.n:=List.head_eq_of_cons_eq h;have h2:zcS a.to=zcS b.to:=List.tail_eq_of_cons_eq h;refine⟨by injection h1,fun i hi=>decide_eq_true ?_⟩;have hi:=List.mem_range.1 hi;have h3:=zdN a.to hi;rw [h2,zdN b.to hi] at h3;have h4:=Option.some.inj h3;unfold s64 at h4;injection h4 with _ h5;omega
 ·rintro⟨h1,h2⟩;unfold relC zcS;rw [h1];congr 1;refine List.map_congr_left fun i hi=>?_;rw [dT (h2 i hi)]
theorem zmj (x y:Operand) (a b:RelD) (w:World):(do eqGuard .eql 102 x y (.agg (relC a).toArray) (.agg (relC b).toArray);binOp .eql 102 (.agg (relC a).toArray) (.agg (relC b).toArray)).run Tryz.prog w = .ok (.bool (zet a b)) w:=by
 obtain⟨G,h1,h2⟩:=zrS;have:=zjO h1 9997 rfl (by kernel_rfl) (zad a) (zad b) (h2 a) (h2 b) x y w;rw [this,zdt zlA,Bool.decide_eq_true]
theorem tEvE:∃ G,TyEq Tryz.prog 225 true 7 2 G/\∀ e:Ev,G (evE.enc e):=by
 refine⟨_,.struct (uf Tryz.underlying225).1 (by kernel_rfl) (fun w=>Tryz.isAgg225 w) (zaU (by kernel_rfl) (by kernel_rfl)).1 (by kernel_rfl)
  (by rw [(uf Tryz.underlying225).2];exact .cons (by decide) rfl tI64 (.cons (by decide) rfl tU8 (.cons (by decide) rfl tU8 (.cons (by decide) rfl tU8 (.cons (by decide) rfl tU8 (.cons (by decide) rfl tU8 (.cons (by decide) rfl tU8 .nil))))))),fun e=>?_⟩
 exact⟨⟨_,rfl⟩,⟨_,rfl⟩,⟨_,rfl⟩,⟨_,rfl⟩,⟨_,rfl⟩,⟨_,rfl⟩,⟨_,rfl⟩,trivial⟩
theorem zmi {a b:Ev}:evE.enc a=evE.enc b↔a=b:=by
 constructor
 ·intro h;obtain⟨a1,a2,a3,a4,a5,a6,a7⟩:=a;obtain⟨b1,b2,b3,b4,b5,b6,b7⟩:=b;have h:[i64 a1,u8 a2,u8 a3,u8 a4,u8 a5,u8 a6,u8 a7]=[i64 b1,u8 b2,u8 b3,u8 b4,u8 b5,u8 b6,u8 b7]:=h;simp only [List.cons.injEq,and_true,u8,Value.int.injEq,true_and,zbe] at h;obtain⟨h1,rfl,rfl,rfl,rfl,rfl,rfl⟩:=h;have h1:a1=b1:=by injection h1
  rw [h1]
 ·rintro rfl;rfl
theorem zqV (x y:Operand) (a b:Ev) (w:World):(do eqGuard .neq 225 x y (.agg (evE.enc a).toArray) (.agg (evE.enc b).toArray);binOp .neq 225 (.agg (evE.enc a).toArray) (.agg (evE.enc b).toArray)).run Tryz.prog w = .ok (.bool (!decide (a=b))) w:=by
 obtain⟨G,h1,h2⟩:=tEvE;have:=zoA h1 9998 rfl (by kernel_rfl) (a:=evE.enc a) (b:=evE.enc b) rfl rfl (h2 a) (h2 b) x y w;rw [this,zdt zmi]
theorem zeC:∀ (ev:List Ev) (k:Nat),(∀ j,j<k->(ev.getD j ev0).th = -1)->k<=ev.length->zcp ev=k+zcp (ev.drop k)
 | ev,0,_,_=>by rw [List.drop_zero,Nat.zero_add]
 | [],k+1,_,h=>by simp at h
 | e::ev,k+1,hj,h=>by
  have h0:e.th = -1:=hj 0 (by omega);have ih:=zeC ev k (fun j hjk=>hj (j+1) (by omega)) (by simpa using h);unfold zcp at ih ⊢;rw [List.takeWhile_cons,if_pos (decide_eq_true h0),List.length_cons,ih,List.drop_succ_cons];omega
section
variable {q:Option Addr} {c:Nat} {ev:List Ev} {w:World}
theorem zkG (hl:SlR evE w q ev) (hn:ev.length<=1000):CB 149 #[.slice q ev.length c] w (i64 (zcp ev:Nat)):=by
 refine cofE 19 [.slice q ev.length c] Tryz.func149 ?_;refine⟨Nat,fun k=>⟨[(0,.slice q ev.length c),(5,.slice q ev.length c),(6,i64 ev.length),(7,i64 (k:Nat))],[]⟩,fun k X=>k<=ev.length/\(∀ j,j<k->(ev.getD j ev0).th = -1)/\Bw w X,fun k=>ev.length-k,0,(cvE rfl rfl),⟨Nat.zero_le _,fun j h=>by omega,Below.refl _ _⟩,?_⟩;rintro k X ⟨hk,hj,hbX⟩;dsimp only;have hXs:=hbX.size;refine biE (fun hc=>?_) fun hc=>?_
 ·have hc:(k:Int)<(ev.length:Int):=dT hc;have hkl:k<ev.length:=by omega
  obtain⟨b,o,rfl,hb,hat⟩:=zdI (hl.below hbX) hkl;obtain⟨e,he⟩:=nm (ev.getD k ev0);rw [<- he] at hat;refine⟨k,rfl,hkl,?_⟩;refine⟨evE.enc e,rfl,hat,hb,?_⟩;refine zap (X:=X) (v := .agg (evE.enc e).toArray) k225 rfl rfl (List.all_eq_true.2 fun u hu=>evE.one e u hu) fun Y hbY fY sY=>?_;have fY:Y.heap[X.heap.size]?=some (.cells (evE.enc e).toArray 225 (0,0)):=fY;refine⟨i64 e.th,zac (zaa fY) (i:=0) rfl,?_⟩;have hbY2:=hbX.trans (hbY.mono hXs);refine biE (fun h=>?_) fun h=>?_
  ·have h:(!decide (e.th = -1))=true:=h;have h:¬ e.th = -1:=by simpa using h
   refine⟨?_,hbY2⟩;have h2:=zeC ev k hj hk;have h3:zcp (ev.drop k)=0:=by
    unfold zcp;have h4:ev[k]=e:=(by rw [he,gDe,gE hkl];rfl);rw [<- List.getElem_cons_drop hkl,List.takeWhile_cons,h4,if_neg (by simpa using h)];rfl
   rw [h3] at h2;exact ri (by omega)
  ·have h:(!decide (e.th = -1))=false:=h;have h:e.th = -1:=by simpa using h
   refine nxI (by omega) ?_;refine⟨k+1,(cvE rfl rfl),⟨hkl,fun j hjk=>?_,hbY2⟩,zdc (by omega)⟩;by_cases e2:j=k
   ·rw [e2,<- he];exact h
   ·exact hj j (by omega)
 ·have hc:¬ (k:Int)<(ev.length:Int):=dF hc;obtain rfl:k=ev.length:=by omega
  refine⟨?_,hbX⟩;have h2:=zeC ev ev.length hj (Nat.le_refl _);rw [List.drop_length] at h2;exact ri (by rw [h2];show ((ev.length:Nat):Int)=((ev.length+0:Nat):Int);rfl)
theorem zoc {i:Nat} {v:UInt8}:zgf (zjx [(0,1,false),(1,1,false),(2,1,false),(3,1,false),(4,1,false),(5,1,false),(6,1,false)]) (evE.enc ev0) [(0,i64 (-1)),(1,u8 2),(2,u8 (UInt8.ofNat i)),(3,u8 v)]=some (evE.enc ⟨-1,2,UInt8.ofNat i,v,0,0,0⟩):=rfl
theorem zhf {locs:Nat} (hl:SlR evE w q ev) (hn:ev.length<=1000) (hlo:locs<=1000):CB 150 #[.slice q ev.length c,i64 locs] w (.bool (zbx ev locs)):=by
 refine cofE 69 [.slice q ev.length c,i64 locs] Tryz.func150 ?_;refine⟨Nat×Int×Nat,fun s=>⟨[(1,i64 locs),(5,i64 s.2.1),(6,i64 (s.2.2:Nat)),(9,.slice q ev.length c),(10,i64 ev.length),(11,i64 (s.1:Nat))],[]⟩,fun s X=>s.1<=ev.length/\s.2.2<=s.1/\evGo locs s.1 (ev.drop s.1) s.2.1 s.2.2=zbx ev locs/\Bw w X,fun s=>ev.length-s.1,(0,0,0),(cvE rfl rfl),⟨Nat.zero_le _,Nat.le_refl _,rfl,Below.refl _ _⟩,?_⟩;rintro⟨k,t,m⟩ X ⟨hk,hm,hgo,hbX⟩;dsimp only at hk hm hgo ⊢;have hXs:=hbX.size;refine biE (fun hc=>?_) fun hc=>?_
 ·have hc:(k:Int)<(ev.length:Int):=dT hc;have hkl:k<ev.length:=by omega
  obtain⟨b,o,rfl,hb,hat⟩:=zdI (hl.below hbX) hkl;obtain⟨e,he⟩:=nm (ev.getD k ev0);rw [<- he] at hat;have hdr:ev.drop k=e::ev.drop (k+1):=by
   rw [<- List.getElem_cons_drop hkl,he,gDe,gE hkl];rfl
  rw [hdr] at hgo;unfold evGo at hgo;refine⟨k,rfl,hkl,?_⟩;refine⟨evE.enc e,rfl,hat,hb,?_⟩;refine zap (X:=X) (v := .agg (evE.enc e).toArray) k225 rfl rfl (List.all_eq_true.2 fun u hu=>evE.one e u hu) fun Y hbY fY sY=>?_;have fY:Y.heap[X.heap.size]?=some (.cells (evE.enc e).toArray 225 (0,0)):=fY;have hbY2:=hbX.trans (hbY.mono hXs);have ld:∀ {i:Nat} {v:Value},(evE.enc e)[i]?=some v->Y.cell? ⟨X.heap.size,0+i,none⟩=some v:=fun h=>zac (zaa fY) h;have no:zbx ev locs=false->(Ending.returned (.bool false)=Ending.returned (.bool (zbx ev locs))/\Bw w Y):=fun h=>⟨rb h.symm,hbY2⟩;refine biE (fun h=>?_) fun h=>?_
  ·have h:(k:Int)<(locs:Int):=dT h;rw [if_pos (by omega:k<locs)] at hgo;refine⟨evE.enc e,rfl,zaa fY,hlt fY,?_⟩;refine⟨_,w8N k,?_⟩;refine⟨u8 e.v,ld (i:=3) rfl,?_⟩;refine⟨evE.enc ⟨-1,2,UInt8.ofNat k,e.v,0,0,0⟩,zoc,?_⟩;refine⟨_,fun w=>zqV _ _ e _ w,?_⟩;refine biE (fun h2=>?_) fun h2=>?_
   ·have h2:¬ e=⟨-1,2,UInt8.ofNat k,e.v,0,0,0⟩:=(by simpa using h2);rw [if_neg h2] at hgo;exact no hgo.symm
   ·have h2:e=⟨-1,2,UInt8.ofNat k,e.v,0,0,0⟩:=(by simpa using h2);rw [if_pos h2] at hgo;refine nxI (by omega) ?_;exact⟨(k+1,t,m),(cvE rfl rfl),⟨hkl,by show m<=k+1;omega,hgo,hbY2⟩,zdc (by omega)⟩
  ·have h:¬ (k:Int)<(locs:Int):=dF h;rw [if_neg (by omega:¬ k<locs)] at hgo;refine⟨i64 e.th,ld (i:=0) rfl,?_⟩;refine biE (fun h1=>?_) fun h1=>?_
   ·have h1:e.th<t:=dT h1;refine brT ?_;rw [if_pos (.inl h1)] at hgo;exact no hgo.symm
   have h1:¬ e.th<t:=dF h1;refine⟨i64 e.th,ld (i:=0) rfl,?_⟩;refine biE (fun h2=>?_) fun h2=>?_
   ·have h2:4<=e.th:=dT h2;rw [if_pos (.inr h2)] at hgo;exact no hgo.symm
   have h2:¬ 4<=e.th:=dF h2;rw [if_neg (by rintro (h | h);exact h1 h;exact h2 h)] at hgo;refine⟨i64 e.th,ld (i:=0) rfl,?_⟩;refine biE (fun h9=>?_) fun h9=>?_
   ·have h9:t<e.th:=dT h9;dsimp only at hgo;rw [if_pos h9,if_pos h9] at hgo;refine⟨i64 e.th,ld (i:=0) rfl,?_⟩;refine⟨u8 e.p,ld (i:=6) rfl,?_⟩;refine⟨(e.p.toNat:Int),zaS _,?_⟩;refine biE (fun h3=>?_) fun h3=>?_
    ·have h3:¬ e.p.toNat=0:=by
      have h3:(!decide ((e.p.toNat:Int)=(0:Nat)))=true:=h3;simpa using h3
     rw [if_neg h3] at hgo;exact no hgo.symm
    have h3:e.p.toNat=0:=by
     have h3:(!decide ((e.p.toNat:Int)=(0:Nat)))=false:=h3;simpa using h3
    rw [if_pos h3] at hgo;refine⟨((0+1:Nat):Int),(zaf (by omega)).trans (by omega),?_⟩;refine⟨u8 e.k,ld (i:=1) rfl,?_⟩;refine biE (fun h4=>?_) fun h4=>?_
    ·refine brE h4 ?_;have h4:e.k=1:=zbe.1 (dT h4);rw [if_pos (.inl h4)] at hgo;refine⟨u8 e.l,ld (i:=2) rfl,?_⟩;refine⟨(e.l.toNat:Int),zaS _,?_⟩;refine biE (fun h5=>?_) fun h5=>?_
     ·have h5:(locs:Int)<=(e.l.toNat:Int):=dT h5;rw [if_neg (by omega)] at hgo;exact no hgo.symm
     ·have h5:¬ (locs:Int)<=(e.l.toNat:Int):=dF h5;rw [if_pos (by omega)] at hgo;refine nxI (by omega) ?_;exact⟨(k+1,e.th,0+1),(cvE rfl rfl),⟨hkl,by show 0+1<=k+1;omega,hgo,hbY2⟩,zdc (by omega)⟩
    have h4:¬ e.k=1:=fun e2=>(dF h4) (by rw [e2];rfl);refine biE (fun h5=>?_) fun h5=>?_
    ·have h5:e.k=2:=zbe.1 (dT h5);rw [if_pos (.inr h5)] at hgo;refine⟨u8 e.l,ld (i:=2) rfl,?_⟩;refine⟨(e.l.toNat:Int),zaS _,?_⟩;refine biE (fun h5=>?_) fun h5=>?_
     ·have h5:(locs:Int)<=(e.l.toNat:Int):=dT h5;rw [if_neg (by omega)] at hgo;exact no hgo.symm
     ·have h5:¬ (locs:Int)<=(e.l.toNat:Int):=dF h5;rw [if_pos (by omega)] at hgo;refine nxI (by omega) ?_;exact⟨(k+1,e.th,0+1),(cvE rfl rfl),⟨hkl,by show 0+1<=k+1;omega,hgo,hbY2⟩,zdc (by omega)⟩
    have h5:¬ e.k=2:=fun e2=>(dF h5) (by rw [e2];rfl);rw [if_neg (by rintro (h | h);exact h4 h;exact h5 h)] at hgo;refine biE (fun h6=>?_) fun h6=>?_
    ·have h6:e.k=3:=zbe.1 (dT h6);rw [if_pos h6] at hgo;refine⟨u8 e.l,ld (i:=2) rfl,?_⟩;refine biE (fun h7=>?_) fun h7=>?_
     ·have h7:¬ e.l=0:=by
       have h7:(!decide ((e.l.toNat:Int)=0))=true:=h7;intro e2;rw [e2] at h7
       cases h7
      refine brT ?_;rw [if_neg fun h=>h7 h.1] at hgo;exact no hgo.symm
     ·have h7:e.l=0:=by
       have h7:(!decide ((e.l.toNat:Int)=((0:UInt8).toNat:Int)))=false:=h7;exact zbe.1 (by simpa using h7)
      refine⟨u8 e.v,ld (i:=3) rfl,?_⟩;refine biE (fun h8=>?_) fun h8=>?_
      ·have h8:¬ e.v=0:=by
        have h8:(!decide ((e.v.toNat:Int)=0))=true:=h8;intro e2;rw [e2] at h8
        cases h8
       rw [if_neg fun h=>h8 h.2] at hgo;exact no hgo.symm
      ·have h8:e.v=0:=by
        have h8:(!decide ((e.v.toNat:Int)=((0:UInt8).toNat:Int)))=false:=h8;exact zbe.1 (by simpa using h8)
       rw [if_pos ⟨h7,h8⟩] at hgo;refine nxI (by omega) ?_;exact⟨(k+1,e.th,0+1),(cvE rfl rfl),⟨hkl,by show 0+1<=k+1;omega,hgo,hbY2⟩,zdc (by omega)⟩
    ·have h6:¬ e.k=3:=fun e2=>(dF h6) (by rw [e2];rfl);rw [if_neg h6] at hgo;exact no hgo.symm
   ·have h9:¬ t<e.th:=dF h9;dsimp only at hgo;rw [if_neg h9,if_neg h9] at hgo;refine⟨u8 e.p,ld (i:=6) rfl,?_⟩;refine⟨(e.p.toNat:Int),zaS _,?_⟩;refine biE (fun h3=>?_) fun h3=>?_
    ·have h3:¬ e.p.toNat=m:=by
      have h3:(!decide ((e.p.toNat:Int)=(m:Nat)))=true:=h3;intro e2;rw [e2] at h3;simp at h3
     rw [if_neg h3] at hgo;exact no hgo.symm
    have h3:e.p.toNat=m:=by
     have h3:(!decide ((e.p.toNat:Int)=(m:Nat)))=false:=h3;have h3:(e.p.toNat:Int)=(m:Nat):=(by simpa using h3);omega
    rw [if_pos h3] at hgo;refine nxI (by omega) ?_;refine⟨u8 e.k,ld (i:=1) rfl,?_⟩;refine biE (fun h4=>?_) fun h4=>?_
    ·refine brE h4 ?_;have h4:e.k=1:=zbe.1 (dT h4);rw [if_pos (.inl h4)] at hgo;refine⟨u8 e.l,ld (i:=2) rfl,?_⟩;refine⟨(e.l.toNat:Int),zaS _,?_⟩;refine biE (fun h5=>?_) fun h5=>?_
     ·have h5:(locs:Int)<=(e.l.toNat:Int):=dT h5;rw [if_neg (by omega)] at hgo;exact no hgo.symm
     ·have h5:¬ (locs:Int)<=(e.l.toNat:Int):=dF h5;rw [if_pos (by omega)] at hgo;refine nxI (by omega) ?_;exact⟨(k+1,t,m+1),(cvE rfl rfl),⟨hkl,by show m+1<=k+1;omega,hgo,hbY2⟩,zdc (by omega)⟩
    have h4:¬ e.k=1:=fun e2=>(dF h4) (by rw [e2];rfl);refine biE (fun h5=>?_) fun h5=>?_
    ·have h5:e.k=2:=zbe.1 (dT h5);rw [if_pos (.inr h5)] at hgo;refine⟨u8 e.l,ld (i:=2) rfl,?_⟩;refine⟨(e.l.toNat:Int),zaS _,?_⟩;refine biE (fun h5=>?_) fun h5=>?_
     ·have h5:(locs:Int)<=(e.l.toNat:Int):=dT h5;rw [if_neg (by omega)] at hgo;exact no hgo.symm
     ·have h5:¬ (locs:Int)<=(e.l.toNat:Int):=dF h5;rw [if_pos (by omega)] at hgo;refine nxI (by omega) ?_;exact⟨(k+1,t,m+1),(cvE rfl rfl),⟨hkl,by show m+1<=k+1;omega,hgo,hbY2⟩,zdc (by omega)⟩
    have h5:¬ e.k=2:=fun e2=>(dF h5) (by rw [e2];rfl);rw [if_neg (by rintro (h | h);exact h4 h;exact h5 h)] at hgo;refine biE (fun h6=>?_) fun h6=>?_
    ·have h6:e.k=3:=zbe.1 (dT h6);rw [if_pos h6] at hgo;refine⟨u8 e.l,ld (i:=2) rfl,?_⟩;refine biE (fun h7=>?_) fun h7=>?_
     ·have h7:¬ e.l=0:=by
       have h7:(!decide ((e.l.toNat:Int)=0))=true:=h7;intro e2;rw [e2] at h7
       cases h7
      refine brT ?_;rw [if_neg fun h=>h7 h.1] at hgo;exact no hgo.symm
     ·have h7:e.l=0:=by
       have h7:(!decide ((e.l.toNat:Int)=((0:UInt8).toNat:Int)))=false:=h7;exact zbe.1 (by simpa using h7)
      refine⟨u8 e.v,ld (i:=3) rfl,?_⟩;refine biE (fun h8=>?_) fun h8=>?_
      ·have h8:¬ e.v=0:=by
        have h8:(!decide ((e.v.toNat:Int)=0))=true:=h8;intro e2;rw [e2] at h8
        cases h8
       rw [if_neg fun h=>h8 h.2] at hgo;exact no hgo.symm
      ·have h8:e.v=0:=by
        have h8:(!decide ((e.v.toNat:Int)=((0:UInt8).toNat:Int)))=false:=h8;exact zbe.1 (by simpa using h8)
       rw [if_pos ⟨h7,h8⟩] at hgo;refine nxI (by omega) ?_;exact⟨(k+1,t,m+1),(cvE rfl rfl),⟨hkl,by show m+1<=k+1;omega,hgo,hbY2⟩,zdc (by omega)⟩
    ·have h6:¬ e.k=3:=fun e2=>(dF h6) (by rw [e2];rfl);rw [if_neg h6] at hgo;exact no hgo.symm
 ·have hc:¬ (k:Int)<(ev.length:Int):=dF hc;obtain rfl:k=ev.length:=by omega
  rw [List.drop_length] at hgo;exact⟨rb hgo,hbX⟩
end
end Go.Proofs.YtlkofpbdpplfkaaGreatDoor
namespace Go.Sei
theorem zmY {p:Nat->Bool} {n k:Nat} (hk:k<n) (h:p k=false):(List.range n).all p=false:=by
 rw [List.all_eq_false];exact⟨k,List.mem_range.2 hk,by rw [h];decide⟩
theorem zoi {p:Nat->Bool} {k:Nat} (h:(List.range k).all p=true) (hp:p k=true):(List.range (k+1)).all p=true:=by
 rw [List.range_succ,List.all_append,h];simp [hp]
theorem zlF {a j:Nat}:(2^a).testBit j=decide (j=a):=by
 rw [Nat.testBit_two_pow];exact decide_eq_decide.2 ⟨fun e=>e.symm,fun e=>e.symm⟩
theorem zlD {a:Nat}:∀ (l:List Nat) (f:Nat->Nat) (b j:Nat),((l.foldl (fun f b=>upd f b (f b|||2^a)) f) b).testBit j=((f b).testBit j||(decide (b∈l)&&decide (j=a)))
 | [],f,b,j=>by simp
 | x::l,f,b,j=>by
  rw [List.foldl_cons,zlD l];by_cases hx:b=x
  ·subst hx;rw [zbd,Nat.testBit_or,zlF];by_cases hl:b∈l <;> by_cases hj:j=a <;> simp [hl,hj]
  ·rw [zcx _ _ hx];simp [hx]
theorem zf1 (tf:Nat->Nat):∀ (n b j:Nat),(zcH tf n b).testBit j=(decide (j<n)&&decide (b∈els (tf j)))
 | 0,b,j=>by
  show (0:Nat).testBit j=_;simp
 | n+1,b,j=>by
  have ih:=zf1 tf n b j;unfold zcH at ih ⊢;rw [List.range_succ,List.foldl_append,List.foldl_cons,List.foldl_nil,zlD,ih];by_cases hj:j=n
  ·subst hj;simp
  ·by_cases h2:j<n
   ·rw [decide_eq_true h2,decide_eq_true (by omega:j<n+1),decide_eq_false hj];simp
   ·rw [decide_eq_false h2,decide_eq_false (by omega:¬ j<n+1),decide_eq_false hj];simp
theorem zog {r:RelD} (h:okR r=true) {b j:Nat}:((zbw r).to b).testBit j=(decide ((j:Int)<r.n)&&decide (b∈els (r.to j))):=by
 have hn:0<=r.n:=by
  unfold okR at h;rw [bAT,dE] at h;exact h.1
 have e:zbw r=⟨r.n,zcH r.to r.n.toNat⟩:=if_pos h;rw [e];show (zcH r.to r.n.toNat b).testBit j=_;rw [zf1];congr 1;exact decide_eq_decide.2 (by omega)
theorem zmw {s:Nat} (h0:s≠0) (h:s<2^64):ctz s∈els s:=by
 rw [(zbq h0 h).1];exact List.mem_cons_self
end Go.Sei
namespace Go.Proofs.YtlkofpbdpplfkaaGreatDoor
open Go.Vc Go.RowKit Go.Sei
section
variable {b c:Nat} {x:ExD} {q:Option Addr} {w:World}
theorem zfS {k:Nat}:x.ev.getD k ev0=evA x k:=rfl
theorem zlw (fx:ExH w b x q c) (hv:ExV w x q) (hn:x.rf.n=x.ev.length) (hok:okR x.rf=true) (hT:Tz64M w):CB 153 #[At0 b] w (.bool (zc8 x)):=by
 refine cofM 72 [At0 b] (.s .p (.c .p .p)) Tryz.func153 ?_;obtain⟨from_,hfr⟩:∃ f,f=zbw x.rf:=⟨_,rfl⟩;have hn20:=hv.n;refine⟨Nat,fun F=>⟨[(0,At0 b),(3,At0 F)],[]⟩,fun F X=>RelH X F from_/\WrdR from_.to/\w.heap.size<=F/\Bw w X,?_,?_⟩
 ·refine⟨relC x.rf,zad _,?_,hlt fx,?_⟩
  ·have h:=zaw (n:=50) (m:=49) (zaa fx);obtain⟨A,T,hA,hE⟩:=zoK x q c;have e:=hE x.rf;have e2:(exC x q c).drop 50=relC x.rf++T:=by
    show (exC { x with rf:=x.rf } q c).drop 50=_;rw [e,<- hA,List.drop_left]
   have e3:((exC x q c).toArray.toList.drop 50).take 49=relC x.rf:=by
    show ((exC x q c).drop 50).take 49=_;rw [e2,List.take_append_of_le_length (by rw [zad];decide),List.take_of_length_le (by rw [zad];decide)]
   rw [e3] at h;exact h
  refine cmo (zif hv.rf hT) ?_;rintro e Y ⟨rfl,hbY,hwr⟩;refine zap (X:=Y) (v := .agg (relC (zbw x.rf)).toArray) k102 (zad _) (by kernel_rfl) (zau _) fun Z hbZ fZ sZ=>?_;rw [<- hfr] at fZ hwr;exact⟨Y.heap.size,(cvE rfl rfl),fZ,hwr,hbY.size,(zst hbY hbZ)⟩
 rintro F X ⟨fF,hwr,hF,hbX⟩;have bits:∀ i j,(from_.to i).testBit j=true->j<x.ev.length:=fun i j h=>by
  rw [hfr,zog hok,bAT,dE,hn] at h;omega
 refine⟨_,zac (zaa (zab hbX fx)) (i:=0) rfl,?_⟩;refine⟨Nat,fun k=>⟨[(0,At0 b),(3,At0 F),(18,.slice q x.ev.length c),(19,i64 x.ev.length),(20,i64 (k:Nat))],[]⟩,fun k X=>k<=x.ev.length/\(List.range k).all (fun i=>zfo x (from_.to i) (evA x i))=true/\RelH X F from_/\Bw w X,fun k=>x.ev.length-k,0,(cvE rfl rfl),⟨Nat.zero_le _,rfl,fF,hbX⟩,?_⟩;have hall:zc8 x=(List.range x.ev.length).all fun i=>zfo x (from_.to i) (evA x i):=by rw [hfr];rfl
 clear fF hbX;rintro k X ⟨hk,hgo,fF,hbX⟩;dsimp only;have hXs:=hbX.size;refine biE (fun hc=>?_) fun hc=>?_
 ·have hc:(k:Int)<(x.ev.length:Int):=dT hc;have hkl:k<x.ev.length:=by omega
  obtain⟨bq,oq,hqe,hb,hat⟩:=zdI (hv.ev.below hbX) hkl;rw [zfS] at hat;obtain⟨e,he⟩:=nm (evA x k);obtain⟨s,hs⟩:=nm (from_.to k);rw [<- he] at hat;have hs64:s<2^64:=by rw [hs];exact hwr k (by omega)
  have eq0:some (Value.slice q x.ev.length c)=some (Value.slice (some ⟨bq,oq,none⟩) x.ev.length c):=by rw [hqe]
  subst hqe;refine⟨k,rfl,hkl,?_⟩;refine⟨evE.enc e,rfl,hat,hb,?_⟩;refine zap (X:=X) (v := .agg (evE.enc e).toArray) k225 rfl rfl (List.all_eq_true.2 fun u hu=>evE.one e u hu) fun Y hbY fY sY=>?_;have fY:Y.heap[X.heap.size]?=some (.cells (evE.enc e).toArray 225 (0,0)):=fY;have hbY2:=hbX.trans (hbY.mono hXs);have no:∀ {Z:World},Bw w Z->zfo x s e=false->(Ending.returned (.bool false)=Ending.returned (.bool (zc8 x))/\Bw w Z):=fun {Z} hb h=>⟨rb (by
   rw [hall];symm;exact zmY hkl (by rw [<- hs,<- he];exact h)),hb⟩
  have yes:∀ {Z:World},RelH Z F from_->Bw w Z->zfo x s e=true->(k+1<=x.ev.length/\(List.range (k+1)).all (fun i=>zfo x (from_.to i) (evA x i))=true/\RelH Z F from_/\Bw w Z):=fun {Z} f hb h=>⟨hkl,zoi hgo (by rw [<- hs,<- he];exact h),f,hb⟩;refine⟨k,rfl,by omega,?_⟩;refine⟨s64 s,by rw [hs];exact zb8 (zab hbY fF) (by omega),?_⟩;refine⟨u8 e.k,zac (zaa fY) (i:=1) rfl,?_⟩;refine biE (fun h=>?_) fun h=>?_
  ·have h:¬ e.k=1:=by
    have h:(!decide ((e.k.toNat:Int)=((1:UInt8).toNat:Int)))=true:=h;intro e2;rw [e2] at h;simp at h
   have hone:zfo x s e=decide (s=0):=if_neg h;refine biE (fun h2=>?_) fun h2=>?_
   ·have h2:¬ s=0:=by
     have h2:(!decide ((s:Int)=0))=true:=h2;intro e2;rw [e2] at h2
     cases h2
    exact no hbY2 (by rw [hone];exact decide_eq_false h2)
   ·have h2:s=0:=by
     have h2:(!decide ((s:Int)=0))=false:=h2;have h2:(s:Int)=0:=(by simpa using h2);omega
    refine nxI (by omega) ?_;exact⟨k+1,(cvE rfl rfl),yes (zab hbY fF) hbY2 (by rw [hone];exact decide_eq_true h2),zdc (by omega)⟩
  have h:e.k=1:=by
   have h:(!decide ((e.k.toNat:Int)=((1:UInt8).toNat:Int)))=false:=h;exact zbe.1 (by simpa using h)
  refine cmo (zcq hs64 (hT.below hbY2)) ?_;rintro e2 Z ⟨rfl,hbZ⟩;have hYs:=hbY2.size;have hbZ2:=hbY2.trans (hbZ.mono hYs);have fZ:=zab hbZ fY;have fFZ:=zab hbZ (zab hbY fF);by_cases hs0:s=0
  ·have e1:(els s).isEmpty=true:=by rw [hs0];rfl
   rw [e1];refine brT ?_;refine brT ?_;refine no hbZ2 ?_;unfold zfo;rw [if_pos h,if_pos hs0]
  obtain⟨hd,hem⟩:=zcU hs0 hs64;rw [hd,hem];have hmem:=zmw hs0 hs64;have hbit:s.testBit (ctz s)=true:=(ziH.1 hmem).2;have hwl:ctz s<x.ev.length:=bits k _ (by rw [<- hs];exact hbit);refine brF ?_;refine⟨by omega,((2^ctz s:Nat):Int),zby (e:=ctz s) (by omega),?_⟩;refine biE (fun h2=>?_) fun h2=>?_
  ·have h2:¬ s=2^ctz s:=by
    have h2:(!decide ((s:Int)=((2^ctz s:Nat):Int)))=true:=h2;intro e2;rw [<- e2] at h2;simp at h2
   refine no hbZ2 ?_;unfold zfo;rw [if_pos h,if_neg hs0,if_neg h2]
  have h2:s=2^ctz s:=by
   have h2:(!decide ((s:Int)=((2^ctz s:Nat):Int)))=false:=h2;have h2:(s:Int)=((2^ctz s:Nat):Int):=by simpa using h2
   exact Int.ofNat.inj h2
  obtain⟨t,ht⟩:=nm (ctz s);rw [<- ht] at hwl h2 ⊢;obtain⟨bq2,oq2,hqe2,hb2,hat2⟩:=zdI (hv.ev.below hbZ2) hwl;rw [zfS] at hat2;obtain⟨f,hf⟩:=nm (evA x t);rw [<- hf] at hat2;have hone:zfo x s e=(decide (f.k=2)&&(decide (f.l=e.l)&&decide (f.v=e.v))):=by
   unfold zfo;rw [if_pos h,if_neg hs0,<- ht,if_pos h2,<- hf]
  refine⟨_,zac (zaa (zab hbZ2 fx)) (i:=0) rfl,?_⟩;refine⟨t,rfl,hwl,?_⟩;refine⟨evE.enc f,rfl,by
   simp only [Option.some.injEq,Addr.mk.injEq,and_true] at hqe2;rw [hqe2.1,hqe2.2];exact hat2,by
   simp only [Option.some.injEq,Addr.mk.injEq,and_true] at hqe2;rw [hqe2.1];exact hb2,?_⟩
  refine zap (X:=Z) (v := .agg (evE.enc f).toArray) k225 rfl rfl (List.all_eq_true.2 fun u hu=>evE.one f u hu) fun V hbV fV sV=>?_;have fV:V.heap[Z.heap.size]?=some (.cells (evE.enc f).toArray 225 (0,0)):=fV;have hbV2:=zst hbZ2 hbV;have fe:=zab hbV fZ;have fFV:=zab hbV fFZ;have n8:∀ {a d:UInt8},(!decide ((a.toNat:Int)=(d.toNat:Int)))=true->¬ a=d:=fun {a d} h e2=>by
   rw [e2] at h;simp at h
  have y8:∀ {a d:UInt8},(!decide ((a.toNat:Int)=(d.toNat:Int)))=false->a=d:=fun {a d} h=>zbe.1 (by simpa using h);refine⟨u8 f.k,zac (zaa fV) (i:=1) rfl,?_⟩;refine biE (fun h3=>?_) fun h3=>?_
  ·have h3:¬ f.k=2:=n8 (d:=2) h3;refine brT ?_;refine brT ?_;exact no hbV2 (by rw [hone,decide_eq_false h3];rfl)
  have h3:f.k=2:=y8 (d:=2) h3;refine⟨u8 f.l,zac (zaa fV) (i:=2) rfl,?_⟩;refine⟨u8 e.l,zac (zaa fe) (i:=2) rfl,?_⟩;refine biE (fun h4=>?_) fun h4=>?_
  ·have h4:¬ f.l=e.l:=n8 h4;refine brT ?_;exact no hbV2 (by rw [hone,decide_eq_false h4,Bool.false_and,Bool.and_false])
  have h4:f.l=e.l:=y8 h4;refine⟨u8 f.v,zac (zaa fV) (i:=3) rfl,?_⟩;refine⟨u8 e.v,zac (zaa fe) (i:=3) rfl,?_⟩;refine biE (fun h5=>?_) fun h5=>?_
  ·have h5:¬ f.v=e.v:=n8 h5;exact no hbV2 (by rw [hone,decide_eq_false h5,Bool.and_false,Bool.and_false])
  have h5:f.v=e.v:=y8 h5;refine nxI (by omega) ?_;exact⟨k+1,(cvE rfl rfl),yes fFV hbV2 (by rw [hone,decide_eq_true h3,decide_eq_true h4,decide_eq_true h5];rfl),zdc (by omega)⟩
 ·have hc:¬ (k:Int)<(x.ev.length:Int):=dF hc;obtain rfl:k=x.ev.length:=by omega
  exact⟨rb (by rw [hall];exact hgo.symm),hbX⟩
end
theorem zrG {bx n:Nat} {w:World} {i:Nat} (f:w.heap[bx]?=some (.cells #[i64 (n:Nat)] 3 (0,0))) (hn:n<=1000):Calls Tryz.prog 254 #[i64 (i:Nat),At0 bx] w fun e w'=>e = .returned (.bool true)/\w'.heap[bx]?=some (.cells #[i64 (n+1:Nat)] 3 (0,0))/\w.grownBy w' (some bx):=by
 refine cofE 6 [i64 (i:Nat),At0 bx] Tryz.func254 ?_;refine⟨_,zac (zaa f) (i:=0) rfl,?_⟩;refine nxI (by omega) ?_;exact zal k3 f (o:=0) (v:=i64 (n+1:Nat)) rfl rfl (by show 0<1;decide) rfl fun w' f' g' s'=>⟨rfl,f',g'⟩
theorem ziY {bs bx s:Nat} {w:World} (fs:w.heap[bs]?=some (.cells #[s64 s] 99 (0,0))) (fx:w.heap[bx]?=some (.cells #[i64 (0:Nat)] 3 (0,0))) (hs:s<2^64) (hT:Tz64M w) (hbx:8≠bx) :
  Calls Tryz.prog 289 #[.func (.func 254) #[] #[At0 bx],At0 bs] w fun e w'=>(∃ v,e = .returned v)/\w'.heap[bx]?=some (.cells #[i64 (lenS s:Nat)] 3 (0,0))/\w.grownBy w' (some bx):=by
 refine cofE 16 [.func (.func 254) #[] #[At0 bx],At0 bs] Tryz.func289 ?_;refine⟨_,zac (zaa fs) (i:=0) rfl,?_⟩;refine⟨Nat×Nat,fun q=>⟨[(0,.func (.func 254) #[] #[At0 bx]),(3,s64 q.2)],[]⟩,fun q X=>X.heap[bx]?=some (.cells #[i64 (q.1:Nat)] 3 (0,0))/\q.1+lenS q.2=lenS s/\q.2<2^64/\w.grownBy X (some bx),fun q=>q.2,(0,s),(cvE rfl rfl),⟨fx,Nat.zero_add _,hs,za7 _ _⟩,?_⟩;rintro⟨n,r⟩ X ⟨f,hn,hr,gX⟩;dsimp only at f hn hr ⊢;have hls:=zfT s;refine biE (fun hc=>?_) fun hc=>?_
 ·have hc:(!decide ((r:Int)=0))=true:=hc;have hc:¬ (r:Int)=0:=by simpa using hc
  have hr0:r≠0:=by omega
  obtain⟨e1,e2,_,_⟩:=zbq hr0 hr;have hl:lenS r=lenS (rest r)+1:=by unfold lenS;rw [e1];rfl
  have hTX:Tz64M X:=zbD hT (gX.block _ (zck hT) (by simpa using hbx));refine cmo (zou hTX hr0 hr) ?_;rintro e _ ⟨rfl,rfl⟩;have hn64:n<=1000:=by unfold lenS at hn;omega
  refine cmo (zrG f hn64) ?_;rintro e V ⟨rfl,fV,gV⟩;refine brF ?_;refine⟨((r-1:Nat):Int),(ze2 (a:=(r:Int)-1) (by omega)).trans (by omega),?_⟩;refine⟨((rest r:Nat):Int),zbz (a:=r) (b:=r-1) hr (by omega),?_⟩;exact⟨(n+1,rest r),(cvE rfl rfl),⟨fV,by show n+1+lenS (rest r)=_;omega,by show rest r<_;omega,zae gX gV⟩,e2⟩
 ·have hc:(!decide ((r:Int)=0))=false:=hc;have hc:(r:Int)=0:=by simpa using hc
  obtain rfl:r=0:=by omega
  have h0:lenS 0=0:=rfl;rw [h0,Nat.add_zero] at hn;exact⟨⟨_,rfl⟩,by rw [<- hn];exact f,gX⟩
theorem zrF {s:Nat} {w:World} (hs:s<2^64) (hT:Tz64M w):CB 219 #[s64 s] w (i64 (lenS s:Nat)):=by
 refine cofM 11 [s64 s] (.s .p (.c .p .p)) Tryz.func219 ?_;obtain⟨L,hL⟩:=nm (w.heap.size);refine⟨Unit,fun _=>⟨[(0,s64 s),(3,At0 L)],[]⟩,fun _ Y=>Y.heap[L]?=some (.cells #[i64 (0:Nat)] 3 (0,0))/\Y.heap.size=L+1/\Bw w Y,?_,?_⟩
 ·refine zap (X:=w) (v:=i64 0) k3 rfl rfl rfl fun Y hbY fY sY=>?_;have fY:Y.heap[w.heap.size]?=some (.cells #[i64 (0:Nat)] 3 (0,0)):=fY;exact⟨(),⟨.cons rfl (.cons (by rw [hL];rfl) .nil),rfl⟩,by rw [hL];exact fY,by rw [hL];exact sY,hbY⟩
 rintro _ Y ⟨fY,sY,hbY⟩;refine cmo zgD ?_;rintro e _ ⟨rfl,rfl⟩;have hb2:Bw Y (Y.alloc (.cells #[s64 s] 99)):=zba _ _;have htl:=zck hT;refine cmo (ziY (hnew Y _) (zab hb2 fY) hs ((hT.below hbY).below hb2) (by omega)) ?_;rintro e Z ⟨⟨v,rfl⟩,fZ,gZ⟩;refine⟨_,zac (zaa fZ) (i:=0) rfl,rfl,?_⟩;exact ((zst hbY hb2)).trans (zak gZ (by have:=hbY.size;have:=hb2.size;omega) (by omega))
def cmpI (x y:Nat):Int:=if x<y then -1 else if y<x then 1 else 0
theorem zoB {x:Nat} {w:World}:Calls Tryz.prog 253 #[i64 (x:Nat)] w fun e w'=>e = .returned (.bool false)/\w=w':=by
 refine cofE 6 [i64 (x:Nat)] Tryz.func253 ?_;exact⟨rb (by simp),rfl⟩
theorem zkV {x y:Nat} {w:World}:Calls Tryz.prog 218 #[i64 (x:Nat),i64 (y:Nat)] w fun e w'=>e = .returned (i64 (cmpI x y))/\w=w':=by
 refine cofE 20 [i64 (x:Nat),i64 (y:Nat)] Tryz.func218 ?_;refine cmo zoB ?_;rintro e _ ⟨rfl,rfl⟩;refine cmo zoB ?_;rintro e _ ⟨rfl,rfl⟩;refine brF ?_;refine brF ?_;refine biE (fun h=>?_) fun h=>?_
 ·have h:(x:Int)<y:=dT h;exact⟨ri (by unfold cmpI;rw [if_pos (by omega)]),rfl⟩
 have h:¬ (x:Int)<y:=dF h;refine biE (fun h2=>?_) fun h2=>?_
 ·have h2:(y:Int)<x:=dT h2;exact⟨ri (by unfold cmpI;rw [if_neg (by omega),if_pos (by omega)]),rfl⟩
 ·have h2:¬ (y:Int)<x:=dF h2;exact⟨ri (by unfold cmpI;rw [if_neg (by omega),if_neg (by omega)]),rfl⟩
section
variable {b c L:Nat} {x:ExD} {q:Option Addr} {w:World}
theorem zoM {X:World} (fx:ExH X b x q c) {i:Nat} (hi:i<48):X.cell? ⟨b,0+99+1+i*1,none⟩=some (s64 (x.co.to i)):=by
 obtain⟨A,T,hA,hE⟩:=zmg x q c;have hR:RelAt X b 99 104 A T x.co:=⟨hA,by rw [<- hE];exact fx⟩;exact hR.cell hi
theorem zrr {u v:Nat} (fx:ExH w b x q c) (fL:w.heap[L]?=some (.cells #[At0 b] 162 (0,0))) (hco:WrdR x.co.to) (hu:u<48) (hv:v<48) (hT:Tz64M w) :
  CB 217 #[i64 (u:Nat),i64 (v:Nat),At0 L] w (i64 (cmpI (lenS (x.co.to v)) (lenS (x.co.to u)))):=by
 refine cofE 23 [i64 (u:Nat),i64 (v:Nat),At0 L] Tryz.func217 ?_;refine DrawE.ord [] [0,1,2,3,4,5,6,8,9,10,11,12,13,14,7,15,16,17] (by kernel_rfl) ?_;have hd:Bw w w.drew:=(Below.refl _ _).drew;refine⟨_,zac (zaa (hdr fL)) (i:=0) rfl,?_⟩;refine⟨v,rfl,hv,?_⟩;refine⟨_,zoM (hdr fx) hv,?_⟩;refine⟨_,zac (zaa (hdr fL)) (i:=0) rfl,?_⟩;refine⟨u,rfl,hu,?_⟩;refine⟨_,zoM (hdr fx) hu,?_⟩;refine cmo (zrF (hco v hv) (hT.below hd)) ?_;rintro e X ⟨rfl,hbX⟩;refine⟨hbX,?_⟩;refine cmo (zrF (hco u hu) ((hT.below hd).below hbX)) ?_;rintro e Y ⟨rfl,hbY⟩;refine⟨hbY,?_⟩;refine cmo zkV ?_;rintro e _ ⟨rfl,rfl⟩;exact⟨Below.refl _ _,rfl,(hd.trans hbX).trans (hbY.mono hbX.size)⟩
end
theorem zgv {key:Nat->Nat} {x:Nat}:∀ (B A:List Nat),(∀ y∈B,key y<key x)->zb7 key (B++A) x=B++zb7 key A x
 | [],A,_=>rfl
 | y::B,A,h=>by
  show (if key y<key x then y::zb7 key (B++A) x else x::y::(B++A))=_;rw [if_pos (h y List.mem_cons_self),zgv B A fun z hz=>h z (List.mem_cons_of_mem _ hz)];rfl
theorem zgu {key:Nat->Nat} {x:Nat}:∀ r:List Nat,(zb7 key r x).length=r.length+1
 | []=>rfl
 | y::r=>by
  unfold zb7
  split
  ·show (zb7 key r x).length+1=_;rw [zgu r];rfl
  ·rfl
theorem zgt {key:Nat->Nat} {x a:Nat}:∀ r:List Nat,a∈zb7 key r x↔a=x\/a∈r
 | []=>by simp [zb7]
 | y::r=>by
  unfold zb7
  split
  ·rw [List.mem_cons,zgt r,List.mem_cons];constructor
   ·rintro (h | h | h) <;> simp [h]
   ·rintro (h | h | h) <;> simp [h]
  ·simp
def zgP (key:Nat->Nat) (l:List Nat):List Nat:=l.foldl (fun acc x=>zb7 key acc x) []
theorem zkk (key:Nat->Nat) (l:List Nat) (x:Nat):zgP key (l++[x])=zb7 key (zgP key l) x:=by
 unfold zgP;rw [List.foldl_append];rfl
theorem zcW {key:Nat->Nat} {a:Nat}:∀ (l acc:List Nat),a∈l.foldl (fun acc x=>zb7 key acc x) acc↔a∈l\/a∈acc
 | [],acc=>by simp
 | x::l,acc=>by
  rw [List.foldl_cons,zcW l,zgt,List.mem_cons];constructor
  ·rintro (h | h | h) <;> simp [h]
  ·rintro ((h | h) | h) <;> simp [h]
theorem zcX {key:Nat->Nat}:∀ (l acc:List Nat),(l.foldl (fun acc x=>zb7 key acc x) acc).length=l.length+acc.length
 | [],acc=>by simp
 | x::l,acc=>by
  rw [List.foldl_cons,zcX l,zgu,List.length_cons];omega
theorem zli {key:Nat->Nat} {l:List Nat} {a:Nat}:a∈zf7 key l↔a∈l:=by
 unfold zf7;rw [List.mem_reverse,zcW];simp
theorem zlj {key:Nat->Nat} (l:List Nat):(zf7 key l).length=l.length:=by
 unfold zf7;rw [List.length_reverse,zcX];rfl
section
variable {b c L g cap:Nat} {x:ExD} {q:Option Addr} {w:World} {l:List Nat}
abbrev keyC (x:ExD):Nat->Nat:=fun i=>lenS (x.co.to i)
theorem zgs {B:Nat} (ho:OwnS natE 3 B w (some ⟨g,0,none⟩) cap l) (fx:ExH w b x q c) (fL:w.heap[L]?=some (.cells #[At0 b] 162 (0,0))) (hT:Tz64M w) (htg:8≠g) (hco:WrdR x.co.to) (h48:∀ a∈l,a<48) (hn:l.length<=20) (hn1:1<=l.length) :
  Calls Tryz.prog 290 #[.slice (some ⟨g,0,none⟩) l.length cap,i64 0,i64 l.length,.func (.func 217) #[] #[At0 L]] w fun e w'=>e = .returned (.tuple #[])/\OwnS natE 3 B w' (some ⟨g,0,none⟩) cap (zf7 (keyC x) l)/\w.grownBy w' (some g):=by
 refine cofM 53 [.slice (some ⟨g,0,none⟩) l.length cap,i64 0,i64 l.length,.func (.func 217) #[] #[At0 L]] (.c .p .p) Tryz.func290 ?_;obtain⟨E0,hE0⟩:∃ E0:List (Nat×Value),E0=[(0,.slice (some ⟨g,0,none⟩) l.length cap),(1,i64 0),(2,i64 l.length),(3,.func (.func 217) #[] #[At0 L])]:=⟨_,rfl⟩;have hbg:b≠g:=fun e=>by
  obtain⟨_,_,cur,hc⟩:=zas ho rfl;have hc:w.heap[g]?=_:=hc;rw [<- e,fx] at hc;simp at hc
 have hLg:L≠g:=fun e=>by
  obtain⟨_,_,cur,hc⟩:=zas ho rfl;have hc:w.heap[g]?=_:=hc;rw [<- e,fL] at hc;simp at hc
 refine⟨Unit,fun _=>⟨[(0,.slice (some ⟨g,0,none⟩) l.length cap),(1,i64 0),(2,i64 l.length),(3,.func (.func 217) #[] #[At0 L]),(8,i64 1)],[]⟩,fun _ X=>w=X,?_,?_⟩
 ·refine⟨1,zaf (by omega),?_⟩;exact⟨(),(cvE rfl rfl),rfl⟩
 rintro _ _ rfl;have hl0:l.take 1=(zgP (keyC x) (l.take 1)).reverse:=by
  cases l with
  | nil=>simp at hn1
  | cons a l=>rfl
 refine⟨Nat,fun i=>⟨[(0,.slice (some ⟨g,0,none⟩) l.length cap),(1,i64 0),(2,i64 l.length),(3,.func (.func 217) #[] #[At0 L]),(8,i64 (i:Nat))],[]⟩,fun i X=>(1<=i/\i<=l.length)/\OwnS natE 3 B X (some ⟨g,0,none⟩) cap ((zgP (keyC x) (l.take i)).reverse++l.drop i)/\w.grownBy X (some g),fun i=>l.length-i,1,
  (cvE rfl rfl),⟨⟨Nat.le_refl _,hn1⟩,by rw [<- hl0,List.take_append_drop];exact ho,za7 _ _⟩,?_⟩
 rintro i X ⟨⟨hi1,hi⟩,oX,gX⟩;dsimp only;refine biE (fun hc=>?_) fun hc=>?_
 ·have hc:(i:Int)<(l.length:Int):=dT hc;have hil:i<l.length:=by omega
  obtain⟨u,hu⟩:∃ u,l[i]=u:=⟨_,rfl⟩;have hum:u∈l:=by rw [<- hu];exact gM hil
  obtain⟨S,hS⟩:=nm (zgP (keyC x) (l.take i));have hSm:∀ a∈S,a<48:=fun a ha=>by
   rw [hS] at ha;have:=(zcW (key:=keyC x) (l.take i) []).1 ha;rcases this with h | h
   ·exact h48 a (List.mem_of_mem_take h)
   ·cases h
  have hSl:S.length=i:=by
   rw [hS];unfold zgP;rw [zcX,List.length_take];simp;omega
  have htk:zgP (keyC x) (l.take (i+1))=zb7 (keyC x) S u:=by
   rw [tsg hil,hu,zkk,<- hS]
  rw [<- hS,<- List.getElem_cons_drop hil,hu] at oX;refine⟨List Nat×List Nat,fun s=>⟨[(0,.slice (some ⟨g,0,none⟩) l.length cap),(1,i64 0),(2,i64 l.length),(3,.func (.func 217) #[] #[At0 L]),(8,i64 (i:Nat)),(9,i64 s.1.length)],[]⟩,fun s Y=>S.reverse=s.1++s.2/\(∀ y∈s.2,keyC x y<keyC x u)/\OwnS natE 3 B Y (some ⟨g,0,none⟩) cap (s.1++u::(s.2++l.drop (i+1)))/\w.grownBy Y (some g),fun s=>s.1.length,(S.reverse,[]),
   ⟨.cons rfl (.cons rfl (.cons rfl (.cons rfl (.cons rfl (.cons (by show _=some (i64 (S.reverse.length:Nat));rw [List.length_reverse,hSl];rfl) .nil))))),rfl⟩,⟨by rw [List.append_nil],fun y hy=>(by cases hy),oX,gX⟩,?_⟩
  clear oX gX;rintro⟨A,Bs⟩ Y ⟨hsp,hkB,oY,gY⟩;dsimp only at hsp hkB oY ⊢;have hAl:A.length<=i:=by
   have:=congrArg List.length hsp;rw [List.length_reverse,hSl,lap] at this;omega
  have hdY:Bw Y Y.drew:=(Below.refl _ _).drew;have fin:∀ {Z:World},Bw Y Z->zb7 (keyC x) A.reverse u=u::A.reverse->((1<=i+1/\i+1<=l.length)/\OwnS natE 3 B Z (some ⟨g,0,none⟩) cap ((zgP (keyC x) (l.take (i+1))).reverse++l.drop (i+1))/\w.grownBy Z (some g)):=fun {Z} hb hins=>by
   refine⟨⟨by omega,hil⟩,?_,za6 gY (hb.mono gY.size)⟩;have h1:S=Bs.reverse++A.reverse:=by rw [<- List.reverse_append,<- hsp,List.reverse_reverse]
   rw [htk,h1,zgv _ _ (fun y hy=>hkB y (by simpa using hy)),hins];have h2:(Bs.reverse++u::A.reverse).reverse++l.drop (i+1)=A++u::(Bs++l.drop (i+1)):=by simp
   rw [h2];exact oY.below hb
  refine DrawE.ord [] [0,1,2,3,4,5,6,7,8,9,10,11,12,13,14,15,16] (by kernel_rfl) ?_;refine biE (fun h=>?_) fun h=>?_
  ·have h:(0:Int)<(A.length:Int):=dT h;obtain⟨A',y,hA⟩:∃ A' y,A=A'++[y]:=by
    refine⟨A.dropLast,A.getLast (fun e=>by rw [e] at h;simp at h),(List.dropLast_concat_getLast _).symm⟩
   subst hA;have hA'l:(A'++[y]).length=A'.length+1:=by simp
   rw [hA'l] at hAl h ⊢;have hrl:((A'++[y])++u::(Bs++l.drop (i+1))).length=l.length:=by
    have:=congrArg List.length hsp;rw [List.length_reverse,hSl] at this;simp only [lap,List.length_cons,List.length_nil,List.length_drop] at this ⊢;omega
   have hyS:y<48:=hSm y (by
    have:y∈S.reverse:=(by rw [hsp];simp);simpa using this)
   obtain⟨b',o',hq',hb',hat'⟩:=oY.row.at (i:=A'.length) (by rw [hrl];omega);have hbo:b'=g/\o'=0:=by simpa using hq'.symm
   obtain⟨rfl,rfl⟩:=hbo;have c1:Y.cell? ⟨b',0+(A'.length+1)*1,none⟩=some (i64 u):=by
    have:=zac (hat' (A'.length+1) (by rw [hrl];omega)) (i:=0) (v:=i64 u) (by
     have e:((A'++[y])++u::(Bs++l.drop (i+1)))[A'.length+1]?=some u:=by
      rw [List.getElem?_append_right (by simp),hA'l,Nat.sub_self];rfl
     rw [gE (by rw [hrl];omega)] at e;rw [Option.some.inj e];rfl)
    exact this
   have c2:Y.cell? ⟨b',0+A'.length*1,none⟩=some (i64 y):=by
    have:=zac (hat' A'.length (by rw [hrl];omega)) (i:=0) (v:=i64 y) (by
     have e:((A'++[y])++u::(Bs++l.drop (i+1)))[A'.length]?=some y:=by
      rw [List.append_assoc,List.getElem?_append_right (Nat.le_refl _),Nat.sub_self];rfl
     rw [gE (by rw [hrl];omega)] at e;rw [Option.some.inj e];rfl)
    exact this
   refine⟨A'.length+1,rfl,by omega,?_⟩;refine⟨_,c1,?_⟩;refine⟨(A'.length:Nat),(zaf (by omega)).trans (by omega),?_⟩;refine⟨A'.length,rfl,by omega,?_⟩;refine⟨_,c2,?_⟩;have fxY:ExH Y b x q c:=(gY.block b (hlt fx) (by simpa using hbg)).trans fx;have fLY:Y.heap[L]?=some (.cells #[At0 b] 162 (0,0)):=(gY.block L (hlt fL) (by simpa using hLg)).trans fL;have hTY:Tz64M Y:=zbD hT (gY.block _ (zck hT) (by simpa using htg));refine cmo (zrr (hdr fxY) (hdr fLY) hco (h48 u hum) hyS (hTY.below hdY)) ?_;rintro e Z ⟨rfl,hbZ⟩;refine⟨hbZ,?_⟩;have hYZ:=hdY.trans hbZ;refine biE (fun hm=>?_) fun hm=>?_
   ·have hm:cmpI (lenS (x.co.to y)) (lenS (x.co.to u))<0:=dT hm;have hk:keyC x y<keyC x u:=by
     unfold cmpI at hm;by_cases h1:lenS (x.co.to y)<lenS (x.co.to u)
     ·exact h1
     ·rw [if_neg h1] at hm
      split at hm <;> omega
    have oZ:=oY.below hYZ;have gZ:=za6 gY (hYZ.mono gY.size);obtain⟨b2,o2,hq2,hb2,hat2⟩:=oZ.row.at (i:=A'.length) (by rw [hrl];omega);have hbo2:b2=b'/\o2=0:=(by simpa using hq2.symm);obtain⟨rfl,rfl⟩:=hbo2;have dZ:Bw Z Z.drew:=(Below.refl _ _).drew;have d1:=zdv hYZ c1;have d2:=zdv hYZ c2;refine DrawE.ord [15,17] [0,1,2,3,4,5,6,7,8,9,10,11,12,13,14,15,16,17] (by kernel_rfl) ?_;refine⟨(A'.length:Nat),(zaf (by omega)).trans (by omega),?_⟩;refine⟨(A'.length:Nat),(zaf (by omega)).trans (by omega),?_⟩;refine⟨A'.length,rfl,by omega,?_⟩;refine⟨_,d2,?_⟩;refine⟨A'.length+1,rfl,by omega,?_⟩;refine⟨_,d1,?_⟩;refine⟨A'.length+1,rfl,by omega,?_⟩;refine ziz (i:=A'.length+1) (v:=y) k3 rfl (oZ.below dZ) (by rw [hrl];omega) fun V oV gV=>?_;refine⟨A'.length,rfl,by omega,?_⟩;refine ziz (i:=A'.length) (v:=u) k3 rfl oV (by rw [List.length_set,hrl];omega) fun U oU gU=>?_;have e1:(((A'++[y])++u::(Bs++l.drop (i+1))).set (A'.length+1) y).set A'.length u=A'++u::((y::Bs)++l.drop (i+1)):=by
     rw [List.append_assoc,List.set_append_right _ _ (by omega),Nat.add_sub_cancel_left,List.set_append_right _ _ (by omega),Nat.sub_self];rfl
    rw [e1] at oU;refine⟨(A'.length:Nat),(zaf (by omega)).trans (by omega),?_⟩;refine⟨(A',y::Bs),(cvE rfl rfl),⟨by rw [hsp];simp,fun z hz=>?_,oU,zae (zae (za6 gZ (dZ.mono gZ.size)) gV) gU⟩,by show A'.length<_;omega⟩;rcases List.mem_cons.1 hz with hz | hz
    ·rw [hz];exact hk
    ·exact hkB z hz
   ·have hm:¬ cmpI (lenS (x.co.to y)) (lenS (x.co.to u))<0:=dF hm;have hk:¬ keyC x y<keyC x u:=fun h=>hm (by unfold cmpI;rw [if_pos h];decide);refine nxI (by omega) ?_;refine⟨i+1,(cvE rfl rfl),fin hYZ ?_,zdc (by omega)⟩;rw [List.reverse_append];exact if_neg hk
  ·have h:¬ (0:Int)<(A.length:Int):=dF h;have hA0:A=[]:=List.length_eq_zero_iff.1 (by omega);subst hA0;refine brF ?_;refine nxI (by omega) ?_;exact⟨i+1,(cvE rfl rfl),fin hdY rfl,zdc (by omega)⟩
 ·have hc:¬ (i:Int)<(l.length:Int):=dF hc;obtain rfl:i=l.length:=by omega
  rw [List.take_length,List.drop_length,List.append_nil] at oX;exact⟨rfl,oX,gX⟩
end
theorem zrT:∃ G,TyEq Tryz.prog 25 true 6 2 G/\∀ f:Nat->UInt8,G (seg 6 fun i=>u8 (f i)):=by
 refine⟨_,.array (m:=6) (by decide) Tryz.underlying25 (fun w=>Tryz.isAgg25 w) (zaU (by kernel_rfl) (by kernel_rfl)).1 (by kernel_rfl) tU8,fun f i hi=>?_⟩;refine⟨((f i).toNat:Int),?_⟩;unfold zaR;have h:=zdC (n:=6) (fun i=>u8 (f i)) hi;rw [Nat.mul_one];have hl:i<(seg 6 fun i=>u8 (f i)).length:=by rw [zat];exact hi
 rw [<- List.getElem_cons_drop hl,List.take_succ_cons,List.take_zero];rw [gE hl] at h;rw [Option.some.inj h];rfl
theorem znJ {f g:Nat->UInt8}:seg 6 (fun i=>u8 (f i))=seg 6 (fun i=>u8 (g i))↔((List.range 6).all fun l=>decide (f l=g l))=true:=by
 rw [List.all_eq_true];constructor
 ·intro h i hi;have hi:=List.mem_range.1 hi;have h3:=zdC (n:=6) (fun i=>u8 (f i)) hi;rw [h,zdC (n:=6) (fun i=>u8 (g i)) hi] at h3;have h4:=Option.some.inj h3;unfold u8 at h4;injection h4 with _ h5;exact decide_eq_true (zbe.1 h5).symm
 ·intro h;unfold seg;refine List.map_congr_left fun i hi=>?_;rw [dT (h i hi)]
theorem zn6 (x y:Operand) (f g:Nat->UInt8) (w:World):(do eqGuard .eql 25 x y (.agg (seg 6 fun i=>u8 (f i)).toArray) (.agg (seg 6 fun i=>u8 (g i)).toArray);binOp .eql 25 (.agg (seg 6 fun i=>u8 (f i)).toArray) (.agg (seg 6 fun i=>u8 (g i)).toArray)).run Tryz.prog w = .ok (.bool ((List.range 6).all fun l=>decide (f l=g l))) w:=by
 obtain⟨G,h1,h2⟩:=zrT;have:=zjO h1 9998 rfl (by kernel_rfl) (zat 6 _) (zat 6 _) (h2 f) (h2 g) x y w;rw [this,zdt znJ,Bool.decide_eq_true]
section
variable {b c L g cap:Nat} {x:ExD} {q:Option Addr} {w:World} {l:List Nat}
theorem zik {B:Nat} (ho:OwnS natE 3 B w (some ⟨g,0,none⟩) cap l) (fx:ExH w b x q c) (fL:w.heap[L]?=some (.cells #[At0 b] 162 (0,0))) (hT:Tz64M w) (htg:8≠g) (hco:WrdR x.co.to) (h48:∀ a∈l,a<48) (hn:l.length<=19) (hn1:1<=l.length) :
  Calls Tryz.prog 252 #[.slice (some ⟨g,0,none⟩) l.length cap,i64 l.length,.func (.func 217) #[] #[At0 L]] w fun e w'=>e = .returned (.tuple #[])/\OwnS natE 3 B w' (some ⟨g,0,none⟩) cap (zf7 (keyC x) l)/\w.grownBy w' (some g):=by
 refine cofE 63 [.slice (some ⟨g,0,none⟩) l.length cap,i64 l.length,.func (.func 217) #[] #[At0 L]] Tryz.func252 ?_;refine⟨Unit,fun _=>⟨[(0,.slice (some ⟨g,0,none⟩) l.length cap),(1,i64 l.length),(2,.func (.func 217) #[] #[At0 L]),(6,i64 20),(7,i64 0),(8,i64 20)],[]⟩,fun _ X=>w=X,fun _=>0,(),(cvE rfl rfl),rfl,?_⟩;rintro _ _ rfl;refine brN (decide_eq_false (by omega)) ?_;refine cmo (zgs ho fx fL hT htg hco h48 (by omega) hn1) ?_;rintro e X ⟨rfl,oX,gX⟩;refine⟨Unit,fun _=>⟨[(1,i64 l.length),(6,i64 20)],[]⟩,fun _ Y=>X=Y,fun _=>0,(),(cvE rfl rfl),rfl,?_⟩;rintro _ _ rfl;refine brN (decide_eq_false (by omega)) ?_;exact⟨rfl,oX,gX⟩
theorem zkF {q:Option Addr} {n m:Nat} (hm:m<=1000):Calls Tryz.prog 290 #[.slice q n cap,i64 (m:Nat),i64 (m:Nat),.func (.func 217) #[] #[At0 L]] w fun e w'=>e = .returned (.tuple #[])/\w=w':=by
 refine cofE 53 [.slice q n cap,i64 (m:Nat),i64 (m:Nat),.func (.func 217) #[] #[At0 L]] Tryz.func290 ?_;refine nxI (by omega) ?_;refine⟨Unit,fun _=>⟨[(2,i64 (m:Nat)),(8,i64 ((m+1:Nat):Int))],[]⟩,fun _ X=>w=X,fun _=>0,(),(cvE rfl rfl),rfl,?_⟩;rintro _ _ rfl;refine brN (decide_eq_false (by omega)) ?_;exact⟨rfl,rfl⟩
theorem zlf {B:Nat} (ho:OwnS natE 3 B w (some ⟨g,0,none⟩) cap l) (fx:ExH w b x q c) (fL:w.heap[L]?=some (.cells #[At0 b] 162 (0,0))) (hT:Tz64M w) (htg:8≠g) (hco:WrdR x.co.to) (h48:∀ a∈l,a<48) (hn:l.length<=20) (hn1:1<=l.length) :
  Calls Tryz.prog 252 #[.slice (some ⟨g,0,none⟩) l.length cap,i64 l.length,.func (.func 217) #[] #[At0 L]] w fun e w'=>e = .returned (.tuple #[])/\OwnS natE 3 B w' (some ⟨g,0,none⟩) cap (zf7 (keyC x) l)/\w.grownBy w' (some g):=by
 by_cases h19:l.length<=19
 ·exact zik ho fx fL hT htg hco h48 h19 hn1
 have hn20:l.length=20:=by omega
 refine cofE 63 [.slice (some ⟨g,0,none⟩) l.length cap,i64 l.length,.func (.func 217) #[] #[At0 L]] Tryz.func252 ?_;refine⟨Bool,fun k=>⟨[(0,.slice (some ⟨g,0,none⟩) l.length cap),(1,i64 l.length),(2,.func (.func 217) #[] #[At0 L]),(6,i64 20),(7,i64 (if k=true then (0:Nat) else l.length:Nat)),(8,i64 (if k=true then l.length else 40:Nat))],[]⟩,fun k X=>(k=true/\w=X)\/(k=false/\OwnS natE 3 B X (some ⟨g,0,none⟩) cap (zf7 (keyC x) l)/\w.grownBy X (some g)),fun k=>if k=true then 1 else 0,true,⟨.cons rfl (.cons rfl (.cons rfl (.cons rfl (.cons rfl (.cons (by rw [hn20];rfl) .nil))))),rfl⟩,.inl ⟨rfl,rfl⟩,?_⟩;rintro k X (⟨rfl,rfl⟩ | ⟨rfl,oX,gX⟩)
 ·refine brE (decide_eq_true (by show ((l.length:Nat):Int)<=(l.length:Int);omega)) ?_;refine cmo (zgs ho fx fL hT htg hco h48 hn hn1) ?_;rintro e X ⟨rfl,oX,gX⟩;refine⟨40,by rw [hn20];rfl,?_⟩;exact⟨false,(cvE rfl rfl),.inr ⟨rfl,oX,gX⟩,by decide⟩
 ·refine brN (decide_eq_false (by show ¬ ((40:Nat):Int)<=(l.length:Int);omega)) ?_;refine cmo (zkF (m:=l.length) (by omega)) ?_;rintro e _ ⟨rfl,rfl⟩;refine⟨Unit,fun _=>⟨[(1,i64 l.length),(6,i64 20)],[]⟩,fun _ Y=>X=Y,fun _=>0,(),(cvE rfl rfl),rfl,?_⟩;rintro _ _ rfl;refine brN (decide_eq_false (by omega)) ?_;exact⟨rfl,oX,gX⟩
theorem zhp {B:Nat} (ho:OwnS natE 3 B w (some ⟨g,0,none⟩) cap l) (fx:ExH w b x q c) (fL:w.heap[L]?=some (.cells #[At0 b] 162 (0,0))) (hT:Tz64M w) (htg:8≠g) (hco:WrdR x.co.to) (h48:∀ a∈l,a<48) (hn:l.length<=20) (hn1:1<=l.length) :
  Calls Tryz.prog 216 #[.slice (some ⟨g,0,none⟩) l.length cap,.func (.func 217) #[] #[At0 L]] w fun e w'=>e = .returned (.tuple #[])/\OwnS natE 3 B w' (some ⟨g,0,none⟩) cap (zf7 (keyC x) l)/\w.grownBy w' (some g):=by
 refine cofE 9 [.slice (some ⟨g,0,none⟩) l.length cap,.func (.func 217) #[] #[At0 L]] Tryz.func216 ?_;refine cmo (zlf ho fx fL hT htg hco h48 hn hn1) ?_;rintro e X ⟨rfl,h1,h2⟩;exact⟨rfl,h1,h2⟩
theorem zl7 {l:List Nat} (h:0<l.length):l.headD 48=l[0]:=by
 cases l with
 | nil=>simp at h
 | cons a r=>rfl
theorem zor {k a:Nat} (h:a∈zfj x k):a<x.ev.length:=by
 unfold zfj at h;exact List.mem_range.1 (List.mem_filter.1 h).1
theorem zlB {k a:Nat} (h:a∈za1 x k):a<x.ev.length:=zor (zli.1 h)
theorem zre (q:Option Addr) (c:Nat):((exC x q c).drop 99).take 49=relC x.co:=by
 obtain⟨A,T,hA,hE⟩:=zmg x q c;show ((exC { x with co:=x.co } q c).drop 99).take 49=_;rw [hE,<- hA,List.drop_left,List.take_append_of_le_length (by rw [zad];decide),List.take_of_length_le (by rw [zad];decide)]
theorem zpU (q:Option Addr) (c:Nat):((exC x q c).drop 327).take 6=seg 6 fun i=>u8 (x.mem i):=by
 obtain⟨A,T,hA,hE⟩:=zoJ x q c [];have:=hE x.mem;rw [List.append_nil] at this;show ((exC { x with mem:=x.mem } q c).drop 327).take 6=_;rw [this,<- hA,List.drop_left,List.take_append_of_le_length (by rw [zat];decide),List.take_of_length_le (by rw [zat];decide)]
abbrev zqu (X:World) (b:Nat) (f:Nat->UInt8):Prop:=X.heap[b]?=some (.cells (seg 6 fun i=>u8 (f i)).toArray 25 (0,0))
theorem zmB {locs:Nat} (fx:ExH w b x q c) (hv:ExV w x q) (hlo:locs<=6) (hne:∀ l,l<locs->zfj x l≠[]) (hT:Tz64M w) :
  CB 154 #[At0 b,i64 locs] w (.bool (zdg x locs)):=by
 refine cofM 87 [At0 b,i64 locs] (.c .p (.c .p (.c .p (.c .p .p)))) Tryz.func154 ?_;obtain⟨L,hL⟩:=nm (w.heap.size);have hbw:=hlt fx;have hn:=hv.n;have htl:=zck hT;refine⟨Unit,fun _=>⟨[(1,i64 locs),(2,At0 L)],[]⟩,fun _ X=>X.heap[L]?=some (.cells #[At0 b] 162 (0,0))/\X.heap.size=L+1/\Bw w X,⟨(),⟨.cons rfl (.cons (by rw [hL];rfl) .nil),rfl⟩,by rw [hL];exact hnew w _,by rw [hL];exact wz _ _,(zba w _)⟩,?_⟩;rintro _ X ⟨fL,sX,hbX⟩;refine⟨Unit,fun _=>⟨[(1,i64 locs),(2,At0 L),(5,At0 (L+1))],[]⟩,fun _ Y=>RelH Y (L+1) ⟨x.ev.length,fun _=>0⟩/\Y.heap.size=L+2/\Bw X Y,?_,?_⟩
 ·refine⟨_,zac (zaa fL) (i:=0) rfl,?_⟩;refine⟨_,zac (zaa (zab hbX fx)) (i:=0) rfl,?_⟩;refine⟨relC ⟨x.ev.length,fun _=>0⟩,by kernel_rfl,?_⟩;refine zap (X:=X) (v := .agg (relC ⟨x.ev.length,fun _=>0⟩).toArray) k102 (zad _) (by kernel_rfl) (zau _) fun Z hbZ fZ sZ=>?_;rw [sX] at fZ sZ;exact⟨(),⟨.cons rfl (.cons rfl (.cons (by rw [<- sX];rfl) .nil)),rfl⟩,fZ,sZ,hbZ⟩
 rintro _ Y ⟨fT,sY,hbY⟩;refine⟨Unit,fun _=>⟨[(1,i64 locs),(2,At0 L),(5,At0 (L+1)),(6,At0 (L+2))],[]⟩,fun _ Z=>zqu Z (L+2) (fun _=>0)/\RelH Z (L+1) ⟨x.ev.length,fun _=>0⟩/\Z.heap[L]?=some (.cells #[At0 b] 162 (0,0))/\Z.heap.size=L+3/\Bw w Z,?_,?_⟩
 ·exact⟨(),⟨.cons rfl (.cons rfl (.cons rfl (.cons (by rw [<- sY];rfl) .nil))),rfl⟩,by rw [<- sY];exact hnew Y _,hold _ fT,hold _ (zab hbY fL),by rw [wz,sY],((zst hbX hbY)).alloc (by have:=hbX.size;have:=hbY.size;omega) _⟩
 clear fL sX hbX fT sY hbY;clear X Y;rintro _ X ⟨fM,fT,fL,sX,hbX⟩;obtain⟨P0,hP0⟩:∃ P0:RelD×(Nat->UInt8),P0=(⟨x.ev.length,fun _=>0⟩,fun _=>0):=⟨_,rfl⟩;have hco:zdg x locs=match coGo x locs 0 P0 with
  | none=>false
  | some p=>zet p.1 x.co&&(List.range 6).all fun l=>decide (p.2 l=x.mem l):=by rw [hP0];rfl
 refine⟨RelD×(Nat->UInt8),fun P=>⟨[(2,At0 L),(5,At0 (L+1)),(6,At0 (L+2))],[]⟩,fun P Z=>coGo x locs 0 P0=some P/\zqu Z (L+2) P.2/\RelH Z (L+1) P.1/\Z.heap[L]?=some (.cells #[At0 b] 162 (0,0))/\Bw w Z,?_,?_⟩
 ·refine⟨Nat×(RelD×(Nat->UInt8)),fun s=>⟨[(2,At0 L),(5,At0 (L+1)),(6,At0 (L+2)),(17,i64 locs),(18,i64 (s.1:Nat))],[]⟩,fun s Z=>s.1<=locs/\coGo x (locs-s.1) s.1 s.2=coGo x locs 0 P0/\WrdR s.2.1.to/\zqu Z (L+2) s.2.2/\RelH Z (L+1) s.2.1/\Z.heap[L]?=some (.cells #[At0 b] 162 (0,0))/\Bw w Z/\L+3<=Z.heap.size,fun s=>locs-s.1,(0,P0),
   (cvE rfl rfl),⟨Nat.zero_le _,rfl,by rw [hP0];exact fun i _=>(by show 0<_;decide),by rw [hP0];exact fM,by rw [hP0];exact fT,fL,hbX,by omega⟩,?_⟩
  clear fM fT fL sX hbX;rintro⟨l,P⟩ Z ⟨hl,hgo,hPw,fM,fT,fL,hbZ,sZ⟩;dsimp only at hl hgo hPw fM fT sZ ⊢;refine biE (fun hc=>?_) fun hc=>?_
  ·have hc:(l:Int)<(locs:Int):=dT hc;have hll:l<locs:=by omega
   have hstep:coGo x (locs-l) l P=if (za1 x l).headD 48=l then coGo x (locs-(l+1)) (l+1) (zdd (za1 x l) P.1,upd P.2 l (ziM x.ev (za1 x l))) else none:=by
    rw [show locs-l=(locs-(l+1))+1 by omega];rfl
   refine⟨_,zac (zaa fL) (i:=0) rfl,?_⟩;refine⟨_,zac (zaa (zab hbZ fx)) (i:=0) rfl,?_⟩;obtain⟨pr,hpr⟩:∃ pr:Nat->Bool,pr=fun i=>decide ((evA x i).k=2)&&decide ((evA x i).l.toNat=l):=⟨_,rfl⟩;refine⟨Nat×Option Addr×Nat,fun s=>⟨[(2,At0 L),(5,At0 (L+1)),(6,At0 (L+2)),(7,i64 (l:Nat)),(8,.slice s.2.1 ((List.range s.1).filter pr).length s.2.2),(17,i64 locs),(18,i64 (l:Nat)),(24,.slice q x.ev.length c),(25,i64 x.ev.length),(26,i64 (s.1:Nat))],[]⟩,fun s V=>s.1<=x.ev.length/\OwnS natE 3 Z.heap.size V s.2.1 s.2.2 ((List.range s.1).filter pr)/\Bw Z V,fun s=>x.ev.length-s.1,(0,none,0),
    (cvE rfl rfl),⟨Nat.zero_le _,OwnS.nil,Below.refl _ _⟩,?_⟩
   rintro⟨k,ps,cs⟩ V ⟨hk,oV,hbV⟩;dsimp only at hk oV ⊢;have hVs:=hbV.size;refine biE (fun hc=>?_) fun hc=>?_
   ·have hc:(k:Int)<(x.ev.length:Int):=dT hc;have hkl:k<x.ev.length:=(by omega);have hbwV:=zst hbZ hbV;obtain⟨bq,oq,hqe,hb,hat⟩:=zdI (hv.ev.below hbwV) hkl;rw [zfS] at hat;have hfl:(List.range (k+1)).filter pr=(List.range k).filter pr++if pr k=true then [k] else []:=by
     rw [List.range_succ,List.filter_append,List.filter_cons,List.filter_nil]
    have hprk:pr k=(decide ((evA x k).k=2)&&decide ((evA x k).l.toNat=l)):=(by rw [hpr]);have hll2:((List.range k).filter pr).length<=k:=by
     have:=List.length_filter_le pr (List.range k);rw [List.length_range] at this;exact this
    obtain⟨e,he⟩:=nm (evA x k);rw [<- he] at hat hprk;have eq0:some (Value.slice q x.ev.length c)=some (Value.slice (some ⟨bq,oq,none⟩) x.ev.length c):=(by rw [hqe]);subst hqe;refine⟨k,rfl,hkl,?_⟩;refine⟨evE.enc e,rfl,hat,hb,?_⟩;refine zap (X:=V) (v := .agg (evE.enc e).toArray) k225 rfl rfl (List.all_eq_true.2 fun u hu=>evE.one e u hu) fun U hbU fU sU=>?_;have fU:U.heap[V.heap.size]?=some (.cells (evE.enc e).toArray 225 (0,0)):=fU;have oU:=oV.below hbU;have hbU2:=hbV.trans (hbU.mono hVs);have hUs:=hbU2.size;have skip:pr k=false->(k+1<=x.ev.length/\OwnS natE 3 Z.heap.size U ps cs ((List.range (k+1)).filter pr)/\Bw Z U):=fun h=>⟨hkl,by rw [hfl,h];simpa using oU,hbU2⟩;have skipE:pr k=false->((List.range (k+1)).filter pr).length=((List.range k).filter pr).length:=fun h=>by rw [hfl,h];simp
    refine⟨u8 e.k,zac (zaa fU) (i:=1) rfl,?_⟩;refine biE (fun h1=>?_) fun h1=>?_
    ·have h1:e.k=2:=zbe.1 (dT h1);refine⟨u8 e.l,zac (zaa fU) (i:=2) rfl,?_⟩;refine⟨(e.l.toNat:Int),zaS _,?_⟩;refine biE (fun h2=>?_) fun h2=>?_
     ·have h2:(e.l.toNat:Int)=(l:Int):=dT h2;have hp1:pr k=true:=(by rw [hprk,decide_eq_true h1,decide_eq_true (by omega:e.l.toNat=l)];rfl);rw [if_pos hp1] at hfl;refine⟨⟨by decide,by decide,rfl⟩,natE.enc k,rfl,?_⟩;have hb2:Bw U (U.alloc (.cells (natE.enc k).toArray 3)):=zba _ _;have sb2:=hb2.size;unfold opsE zcr;show SatR _ _;refine appI (oU.below hb2) (zaW natE k) (by omega) (by omega) fun p' c' S oS gS hat2=>?_;rw [zb9] at gS;rw [<- hfl] at oS ⊢;refine nxI (by omega) ?_;exact⟨(k+1,p',c'),(cvE rfl rfl),⟨hkl,oS,hbU2.trans ((hb2.mono hUs).trans (zaX (oU.below hb2) (by omega) (Nat.le_refl _) gS))⟩,zdc (by omega)⟩
     ·have h2:¬ (e.l.toNat:Int)=(l:Int):=dF h2;have hp0:pr k=false:=(by rw [hprk,decide_eq_false (by omega:¬ e.l.toNat=l),Bool.and_false]);refine nxI (by omega) ?_;exact⟨(k+1,ps,cs),⟨.cons rfl (.cons rfl (.cons rfl (.cons rfl (.cons (by show _=some (Value.slice ps ((List.range (k+1)).filter pr).length cs);rw [skipE hp0];rfl) (.cons rfl (.cons rfl (.cons rfl (.cons rfl (.cons rfl .nil))))))))),rfl⟩,skip hp0,zdc (by omega)⟩
    ·have h1:¬ e.k=2:=fun e2=>(dF h1) (by rw [e2];rfl);have hp0:pr k=false:=(by rw [hprk,decide_eq_false h1];rfl);refine brF ?_;refine nxI (by omega) ?_;exact⟨(k+1,ps,cs),⟨.cons rfl (.cons rfl (.cons rfl (.cons rfl (.cons (by show _=some (Value.slice ps ((List.range (k+1)).filter pr).length cs);rw [skipE hp0];rfl) (.cons rfl (.cons rfl (.cons rfl (.cons rfl (.cons rfl .nil))))))))),rfl⟩,skip hp0,zdc (by omega)⟩
   have hc:¬ (k:Int)<(x.ev.length:Int):=dF hc;obtain rfl:k=x.ev.length:=by omega
   have hwr:(List.range x.ev.length).filter pr=zfj x l:=by rw [hpr];rfl
   rw [hwr] at oV ⊢;have hwn:=hne l hll;have hw1:1<=(zfj x l).length:=List.length_pos_iff.2 hwn;have hw19:(zfj x l).length<=20:=by
    have:=List.length_filter_le pr (List.range x.ev.length);rw [hwr,List.length_range] at this;omega
   have hps:∃ g,ps=some ⟨g,0,none⟩:=by
    rcases oV.inv with ⟨_,_,h⟩ | ⟨g,cur,h,_⟩
    ·exact (hwn h).elim
    ·exact⟨g,h⟩
   obtain⟨g,rfl⟩:=hps;have hg:=(zas oV rfl).1;have hg:Z.heap.size<=g:=hg;have hbwV:=zst hbZ hbV;have hZw:=hbZ.size;refine cmo (zhp oV (zab hbwV fx) (zab hbV fL) (hT.below hbwV) (by omega) hv.co (fun a ha=>by have:=zor ha;omega) hw19 hw1) ?_;rintro e U ⟨rfl,oU,gU⟩;have oU:OwnS natE 3 Z.heap.size U (some ⟨g,0,none⟩) cs (za1 x l):=oU;have hrl:(za1 x l).length=(zfj x l).length:=zlj _;have hbU:Bw Z U:=hbV.trans (zak gU hVs hg);have hbwU:=hbZ.trans (hbU.mono hZw);have hU0:0<(za1 x l).length:=by omega
   obtain⟨bq,oq,hqe,hbq,hatq⟩:=oU.row.at hU0;have hbo:bq=g/\oq=0:=by simpa using hqe.symm
   obtain⟨rfl,rfl⟩:=hbo;rw [<- hrl];have hh:(za1 x l).headD 48=(za1 x l)[0]:=zl7 hU0;refine⟨0,rfl,hU0,?_⟩;refine⟨i64 (za1 x l)[0],by have:=zac (hatq 0 hU0) (i:=0) (v:=i64 (za1 x l)[0]) rfl;exact this,?_⟩;refine biE (fun h=>?_) fun h=>?_
   ·have h:(!decide (((za1 x l)[0]:Int)=(l:Int)))=true:=h;have h:¬ ((za1 x l)[0]:Int)=(l:Int):=(by simpa using h);rw [hstep,if_neg (by rw [hh];omega)] at hgo;refine⟨rb ?_,hbwU⟩;rw [hco,<- hgo]
   have h:(!decide (((za1 x l)[0]:Int)=(l:Int)))=false:=h;have h:((za1 x l)[0]:Int)=(l:Int):=by simpa using h
   rw [hstep,if_pos (by rw [hh];omega)] at hgo;have fTU:=zab hbU fT;have hRT:RelAt U (L+1) 0 102 [] [] P.1:=⟨rfl,by simpa using fTU⟩;have hrk48:∀ a∈za1 x l,a<48:=fun a ha=>by have:=zlB ha;omega
   have hLZ:=hlt fT;have hL2Z:=hlt fM;refine cmo (zoD hRT hPw oU.row (fun a ha=>by cases ha;exact⟨hbq,by show bq≠L+1;omega⟩) (by omega) hrk48) ?_;rintro e S ⟨rfl,hRS,gS⟩;have fTS:RelH S (L+1) (zdd (za1 x l) P.1):=by simpa using hRS.cells
   have hbS:Bw w S:=hbwU.trans (zak gS hbwU.size (by omega));have fMS:=(gS.block (L+2) (hlt (zab hbU fM)) (by simp)).trans (zab hbU fM);have fLS:=(gS.block L (hlt (zab hbU fL)) (by simp)).trans (zab hbU fL);have oS:=zaQ oU fTU (by decide) gS;obtain⟨j,hj⟩:∃ j,j+1=(za1 x l).length:=⟨(za1 x l).length-1,by omega⟩;have hjl:j<(za1 x l).length:=by omega
   obtain⟨b6,o6,hp6,hl6,hat6⟩:=oS.row.at hjl;have hbo6:b6=bq/\o6=0:=by simpa using hp6.symm
   obtain⟨rfl,rfl⟩:=hbo6;obtain⟨t,ht⟩:∃ t,(za1 x l)[j]=t:=⟨_,rfl⟩;have htev:t<x.ev.length:=zlB (by rw [<- ht];exact gM hjl);have hlast:(za1 x l).getLastD 0=t:=by
    rw [List.getLastD_eq_getLast?,List.getLast?_eq_getElem?,show (za1 x l).length-1=j by omega,gE hjl,ht];rfl
   obtain⟨b7,o7,hp7,hl7,hat7⟩:=zdI (hv.ev.below hbS) htev;rw [zfS] at hat7;have hlV:ziM x.ev (za1 x l)=(evA x t).v:=by
    show (x.ev.getD ((za1 x l).getLastD 0) ev0).v=_;rw [hlast];rfl
   have dS:Bw S S.drew:=(Below.refl _ _).drew;refine DrawE.ord [15] [0,1,2,3,4,5,6,7,8,9,10,11,12,13,14,15] (by kernel_rfl) ?_;refine⟨_,zac (zaa (hdr fLS)) (i:=0) rfl,?_⟩;refine⟨_,zac (zaa (hdr (zab hbS fx))) (i:=0) rfl,?_⟩;refine⟨(j:Nat),(zaf (by omega)).trans (by omega),?_⟩;refine⟨j,rfl,hjl,?_⟩;refine⟨i64 t,by have:=zac (zaq dS (hat6 j hjl)) (i:=0) (v:=i64 t) (by rw [ht];rfl);exact this,?_⟩;rw [hp7];refine⟨t,rfl,htev,?_⟩;refine⟨u8 (evA x t).v,by have:=zac (zaq dS hat7) (i:=3) (v:=u8 (evA x t).v) rfl;exact this,?_⟩;refine⟨l,rfl,by omega,?_⟩;refine zal k5 (hdr fMS) (o:=0+l*1) (v:=u8 (evA x t).v) rfl rfl (by rw [zat];omega) rfl fun T fT2 gT sT=>?_;have gT2:S.grownBy T (some (L+2)):=zae (zah dS) gT;have e8:=zio (n:=6) (fun i=>u8 (P.2 i)) (fun i=>u8 (upd P.2 l (evA x t).v i)) (i:=l) (by omega) rfl (fun j hj=>by rw [zcx _ _ hj]);rw [zbd] at e8;rw [Nat.mul_one,Nat.zero_add,e8] at fT2;refine nxI (by omega) ?_;refine⟨(l+1,(zdd (za1 x l) P.1,upd P.2 l (evA x t).v)),(cvE rfl rfl),⟨hll,by rw [<- hlV];exact hgo,zhS hPw hrk48,fT2,(gT2.block (L+1) (hlt fTS) (by simp)).trans fTS,(gT2.block L (hlt fLS) (by simp)).trans fLS,hbS.trans (zak gT2 hbS.size (by omega)),by have:=gT2.size;have:=gS.size;have:=hbU.size;omega⟩,zdc (by omega)⟩
  ·have hc:¬ (l:Int)<(locs:Int):=dF hc;obtain rfl:l=locs:=by omega
   rw [Nat.sub_self] at hgo;exact⟨P,(cvE rfl rfl),hgo.symm,fM,fT,fL,hbZ⟩
 rintro P Z ⟨hgo,fM,fT,fL,hbZ⟩;have hco2:zdg x locs=(zet P.1 x.co&&(List.range 6).all fun l=>decide (P.2 l=x.mem l)):=by rw [hco,hgo]
 refine DrawE.ord [] [0,1,2,3,4,5,6,7,8,9,10,11,12,13,14,15] (by kernel_rfl) ?_;have dZ:Bw Z Z.drew:=(Below.refl _ _).drew;refine⟨relC P.1,zad _,zaa (hdr fT),hlt (hdr fT),?_⟩;refine⟨_,zac (zaa (hdr fL)) (i:=0) rfl,?_⟩;have fxZ:=hdr (zab hbZ fx);refine⟨relC x.co,zad _,by have h:=zaw (n:=99) (m:=49) (zaa fxZ);rw [show (exC x q c).toArray.toList=exC x q c from rfl,zre] at h;exact h,hlt fxZ,?_⟩;refine⟨_,fun w=>zmj _ _ P.1 x.co w,?_⟩;have fin:Bw w Z.drew:=zst hbZ dZ;refine biE (fun h=>?_) fun h=>?_
 ·have h:zet P.1 x.co=true:=h;refine⟨seg 6 (fun i=>u8 (P.2 i)),zat _ _,zaa (hdr fM),hlt (hdr fM),?_⟩;refine⟨_,zac (zaa (hdr fL)) (i:=0) rfl,?_⟩;refine⟨seg 6 (fun i=>u8 (x.mem i)),zat _ _,by have h:=zaw (n:=327) (m:=6) (zaa fxZ);rw [show (exC x q c).toArray.toList=exC x q c from rfl,zpU] at h;exact h,hlt fxZ,?_⟩;refine⟨_,fun w=>zn6 _ _ P.2 x.mem w,?_⟩;exact⟨rb (by rw [hco2,h,Bool.true_and]),fin⟩
 ·have h:zet P.1 x.co=false:=h;exact⟨rb (by rw [hco2,h,Bool.false_and]),fin⟩
end
section
variable {b c:Nat} {x:ExD} {q:Option Addr} {w:World}
theorem zjq {X:World} {o:Nat} {A T:List Value} {r:RelD} (fx:ExH X b x q c) (hA:A.length=o) (hE:exC x q c=A++(relC r++T)) {i:Nat} (hi:i<48):X.cell? ⟨b,o+1+i*1,none⟩=some (s64 (r.to i)):=by
 have hR:RelAt X b o 104 A T r:=⟨hA,by rw [<- hE];exact fx⟩;exact hR.cell hi
theorem zqO {X:World} (fx:ExH X b x q c) {i:Nat} (hi:i<48):X.cell? ⟨b,0+1+1+i*1,none⟩=some (s64 (x.po.to i)):=by
 obtain⟨A,T,hA,hE⟩:=zn3 x q c [];exact zjq fx hA (by rw [<- hE,List.append_nil]) hi
theorem zri {X:World} (fx:ExH X b x q c) {i:Nat} (hi:i<48):X.cell? ⟨b,0+148+1+i*1,none⟩=some (s64 (x.dt.to i)):=by
 obtain⟨A,T,hA,hE⟩:=zn4 x q c [];exact zjq fx hA (by rw [<- hE,List.append_nil]) hi
theorem zrp {X:World} (fx:ExH X b x q c) {i:Nat} (hi:i<48):X.cell? ⟨b,0+197+1+i*1,none⟩=some (s64 (x.ct.to i)):=by
 obtain⟨A,T,hA,hE⟩:=zn5 x q c [];exact zjq fx hA (by rw [<- hE,List.append_nil]) hi
theorem zqJ {X:World} (fx:ExH X b x q c) {i:Nat} (hi:i<48):X.cell? ⟨b,0+246+1+i*1,none⟩=some (s64 (x.rm.to i)):=by
 obtain⟨A,T,hA,hE⟩:=zn2 x q c [];exact zjq fx hA (by rw [<- hE,List.append_nil]) hi
theorem n64 {a b:Nat} (h:(!decide ((a:Int)=(b:Int)))=true):¬ a=b:=fun e=>by
 rw [e] at h;simp at h
theorem y64 {a b:Nat} (h:(!decide ((a:Int)=(b:Int)))=false):a=b:=by
 have h:(a:Int)=(b:Int):=by simpa using h
 exact Int.ofNat.inj h
theorem n8 {a d:UInt8} (h:(!decide ((a.toNat:Int)=(d.toNat:Int)))=true):¬ a=d:=fun e2=>by
 rw [e2] at h;simp at h
theorem y8 {a d:UInt8} (h:(!decide ((a.toNat:Int)=(d.toNat:Int)))=false):a=d:=zbe.1 (by simpa using h)
def wrG (x:ExD) (k:Nat):Nat:=(List.range k).foldl (fun s i=>if (evA x i).k=2 then s|||2^i else s) 0
theorem zjf (x:ExD) (k:Nat):wrG x (k+1)=if (evA x k).k=2 then wrG x k|||2^k else wrG x k:=by
 unfold wrG;rw [List.range_succ,List.foldl_append];rfl
theorem zjg (x:ExD):∀ k,k<=64->wrG x k<2^64
 | 0,_=>by show 0<_;decide
 | k+1,h=>by
  rw [zjf]
  split
  ·exact Nat.or_lt_two_pow (zjg x k (by omega)) (zaF (by omega))
  ·exact zjg x k (by omega)
theorem zkJ (fx:ExH w b x q c) (hv:ExV w x q) (hrn:x.rm.n=x.ev.length) (hok:okR x.rm=true) (hT:Tz64M w) :
  CB 155 #[At0 b] w (.bool (zcC x)):=by
 refine cofM 130 [At0 b] (.s .p (.s .p (.c .p .p))) Tryz.func155 ?_;have hn:=hv.n;obtain⟨W,hW⟩:=nm (zos x);have hWG:W=wrG x x.ev.length:=by rw [hW];rfl
 have hW64:W<2^64:=by rw [hWG];exact zjg x _ (by omega)
 refine⟨Unit,fun _=>⟨[(0,At0 b),(3,s64 W),(4,s64 0)],[]⟩,fun _ X=>Bw w X,?_,?_⟩
 ·refine⟨_,zac (zaa fx) (i:=0) rfl,?_⟩;refine⟨Nat,fun k=>⟨[(0,At0 b),(3,s64 (wrG x k)),(4,s64 0),(17,.slice q x.ev.length c),(18,i64 x.ev.length),(19,i64 (k:Nat))],[]⟩,fun k X=>k<=x.ev.length/\Bw w X,fun k=>x.ev.length-k,0,
   (cvE rfl rfl),⟨Nat.zero_le _,Below.refl _ _⟩,?_⟩
  rintro k X ⟨hk,hbX⟩;dsimp only;refine biE (fun hc=>?_) fun hc=>?_
  ·have hc:(k:Int)<(x.ev.length:Int):=dT hc;have hkl:k<x.ev.length:=by omega
   obtain⟨bq,oq,hqe,hb,hat⟩:=zdI (hv.ev.below hbX) hkl;rw [zfS] at hat;obtain⟨e,he⟩:=nm (evA x k);have hs:=zjf x k;rw [<- he] at hat hs;subst hqe;refine⟨k,rfl,hkl,?_⟩;refine⟨evE.enc e,rfl,hat,hb,?_⟩;refine zap (X:=X) (v := .agg (evE.enc e).toArray) k225 rfl rfl (List.all_eq_true.2 fun u hu=>evE.one e u hu) fun Y hbY fY sY=>?_;have fY:Y.heap[X.heap.size]?=some (.cells (evE.enc e).toArray 225 (0,0)):=fY;have hbY2:=zst hbX hbY;refine⟨u8 e.k,zac (zaa fY) (i:=1) rfl,?_⟩;refine biE (fun h=>?_) fun h=>?_
   ·have h:e.k=2:=zbe.1 (dT h);rw [if_pos h] at hs;refine⟨by omega,((2^k:Nat):Int),zby (e:=k) (by omega),?_⟩;refine⟨((wrG x k|||2^k:Nat):Int),zb2 (zjg x k (by omega)) (zaF (by omega)),?_⟩;refine nxI (by omega) ?_;exact⟨k+1,⟨.cons rfl (.cons (by show _=some (s64 (wrG x (k+1)));rw [hs];rfl) (.cons rfl (.cons rfl (.cons rfl (.cons rfl .nil))))),rfl⟩,⟨hkl,hbY2⟩,zdc (by omega)⟩
   ·have h:¬ e.k=2:=fun e2=>(dF h) (by rw [e2];rfl);rw [if_neg h] at hs;refine nxI (by omega) ?_;exact⟨k+1,⟨.cons rfl (.cons (by show _=some (s64 (wrG x (k+1)));rw [hs];rfl) (.cons rfl (.cons rfl (.cons rfl (.cons rfl .nil))))),rfl⟩,⟨hkl,hbY2⟩,zdc (by omega)⟩
  ·have hc:¬ (k:Int)<(x.ev.length:Int):=dF hc;obtain rfl:k=x.ev.length:=by omega
   exact⟨(),⟨.cons rfl (.cons (by show _=some (s64 W);rw [hWG];rfl) (.cons rfl .nil)),rfl⟩,hbX⟩
 rintro _ X hbX;refine⟨_,zac (zaa (zab hbX fx)) (i:=0) rfl,?_⟩;have hdep:zcC x=zi0 x W 0 x.ev 0:=by rw [hW];rfl
 refine⟨Nat×Nat,fun s=>⟨[(0,At0 b),(3,s64 W),(4,s64 s.2),(35,.slice q x.ev.length c),(36,i64 x.ev.length),(37,i64 (s.1:Nat))],[]⟩,fun s X=>s.1<=x.ev.length/\zi0 x W s.1 (x.ev.drop s.1) s.2=zcC x/\s.2<2^64/\Bw w X,fun s=>x.ev.length-s.1,(0,0),
  (cvE rfl rfl),⟨Nat.zero_le _,hdep.symm,by decide,hbX⟩,?_⟩
 clear hbX;rintro⟨k,h⟩ X ⟨hk,hgo,hh,hbX⟩;dsimp only at hk hgo hh ⊢;refine biE (fun hc=>?_) fun hc=>?_
 ·have hc:(k:Int)<(x.ev.length:Int):=dT hc;have hkl:k<x.ev.length:=by omega
  have hk48:k<48:=by omega
  obtain⟨bq,oq,hqe,hb,hat⟩:=zdI (hv.ev.below hbX) hkl;rw [zfS] at hat;obtain⟨e,he⟩:=nm (evA x k);rw [<- he] at hat;have hdrp:x.ev.drop k=e::x.ev.drop (k+1):=by
   rw [<- List.getElem_cons_drop hkl,he];unfold evA;rw [gDe,gE hkl];rfl
  rw [hdrp] at hgo;unfold zi0 at hgo;obtain⟨d,hd⟩:=nm (x.dt.to k);obtain⟨t,ht⟩:=nm (x.ct.to k);obtain⟨r,hr⟩:=nm (x.rm.to k);obtain⟨po,hpo⟩:=nm (x.po.to k);dsimp only at hgo;rw [<- hd,<- ht,<- hr,<- hpo] at hgo;have d64:d<2^64:=by rw [hd];exact hv.dt k hk48
  have t64:t<2^64:=by rw [ht];exact hv.ct k hk48
  have r64:r<2^64:=by rw [hr];exact hv.rm k hk48
  have p64:po<2^64:=by rw [hpo];exact hv.po k hk48
  have dt64:=Nat.or_lt_two_pow d64 t64;have dtr64:=Nat.or_lt_two_pow dt64 r64;have dr64:=Nat.or_lt_two_pow d64 r64;subst hqe;refine⟨k,rfl,hkl,?_⟩;refine⟨evE.enc e,rfl,hat,hb,?_⟩;refine zap (X:=X) (v := .agg (evE.enc e).toArray) k225 rfl rfl (List.all_eq_true.2 fun u hu=>evE.one e u hu) fun Y hbY fY sY=>?_;have fY:Y.heap[X.heap.size]?=some (.cells (evE.enc e).toArray 225 (0,0)):=fY;have hbY2:=zst hbX hbY;have dY:Bw Y Y.drew:=(Below.refl _ _).drew;have fxY:=hdr (zab hbY2 fx);have fYd:=hdr fY;have hbD:=zst hbY2 dY;have no:∀ {Z:World},Bw w Z->zcC x=false->(Ending.returned (.bool false)=Ending.returned (.bool (zcC x))/\Bw w Z):=fun {Z} hb h=>⟨rb h.symm,hb⟩;refine DrawE.ord [] [0,1,2,3,4,5,6,7,8,9,10,11,12,13,14,15,16,17,18,19,20,21,22,23] (by kernel_rfl) ?_;refine⟨k,rfl,hk48,?_⟩;refine⟨s64 d,by rw [hd];exact zri fxY hk48,?_⟩;refine⟨k,rfl,hk48,?_⟩;refine⟨s64 t,by rw [ht];exact zrp fxY hk48,?_⟩;refine⟨k,rfl,hk48,?_⟩;refine⟨s64 r,by rw [hr];exact zqJ fxY hk48,?_⟩;refine⟨_,zb2 d64 t64,?_⟩;refine⟨_,zb2 dt64 r64,?_⟩;refine biE (fun h1=>?_) fun h1=>?_
  ·have h1:d|||t|||r=0:=Int.ofNat.inj (dT h1);rw [if_pos h1] at hgo;refine nxI (by omega) ?_;exact⟨(k+1,h),(cvE rfl rfl),⟨hkl,hgo,hh,hbD⟩,zdc (by omega)⟩
  have h1:¬ d|||t|||r=0:=fun e2=>(dF h1) (by rw [e2];rfl);rw [if_neg h1] at hgo;refine⟨u8 e.k,zac (zaa fYd) (i:=1) rfl,?_⟩;refine biE (fun h2=>?_) fun h2=>?_
  ·have h2:¬ e.k=1:=n8 (d:=1) h2;rw [if_neg fun h=>h2 h.1] at hgo;refine brT ?_;refine brT ?_;exact no hbD hgo.symm
  have h2:e.k=1:=y8 (d:=1) h2;refine⟨_,zb2 d64 r64,?_⟩;refine⟨_,zdn dr64 hW64,?_⟩;refine biE (fun h3=>?_) fun h3=>?_
  ·have h3:¬ zb5 (d|||r) W=0:=n64 (b:=0) h3;rw [if_neg fun h=>h3 h.2.1] at hgo;refine brT ?_;exact no hbD hgo.symm
  have h3:zb5 (d|||r) W=0:=y64 (b:=0) h3;refine⟨_,zb2 d64 t64,?_⟩;refine⟨_,zb2 dt64 r64,?_⟩;refine⟨k,rfl,hk48,?_⟩;refine⟨s64 po,by rw [hpo];exact zqO fxY hk48,?_⟩;refine⟨_,zdn dtr64 p64,?_⟩;refine biE (fun h4=>?_) fun h4=>?_
  ·have h4:¬ zb5 (d|||t|||r) po=0:=n64 (b:=0) h4;rw [if_neg fun h=>h4 h.2.2] at hgo;exact no hbD hgo.symm
  have h4:zb5 (d|||t|||r) po=0:=y64 (b:=0) h4;rw [if_pos ⟨h2,h3,h4⟩] at hgo;refine cmo (zcq r64 (hT.below hbD)) ?_;rintro e2 Z ⟨rfl,hbZ⟩;have hbZ2:=zst hbD hbZ;by_cases hr0:r=0
  ·have e1:(els r).isEmpty=true:=by rw [hr0];rfl
   rw [e1];rw [if_pos hr0] at hgo;refine brF ?_;refine nxI (by omega) ?_;exact⟨(k+1,h),(cvE rfl rfl),⟨hkl,hgo,hh,hbZ2⟩,zdc (by omega)⟩
  rw [if_neg hr0] at hgo;obtain⟨hhd,hem⟩:=zcU hr0 r64;rw [hhd,hem];have hmem:=zmw hr0 r64;have hbit:r.testBit (ctz r)=true:=(ziH.1 hmem).2;have hvl:ctz r<x.ev.length:=by
   have:=(zlS hok hv.rm hk48 (by rw [<- hr];exact hbit)).1;rw [hrn] at this;omega
  obtain⟨v,hvd⟩:=nm (ctz r);rw [<- hvd] at hvl hgo ⊢;refine brT ?_;have fZ:=zab hbZ fYd;have dZ:Bw Z Z.drew:=(Below.refl _ _).drew;have hbZ3:=zst hbZ2 dZ;refine DrawE.ord [] [0,1,2,3,4,5,6,7,8,9,10,11,12,13,14,15,16,17,18,19,20,21,22,23] (by kernel_rfl) ?_;refine⟨by omega,((2^v:Nat):Int),zby (e:=v) (by omega),?_⟩;refine biE (fun h5=>?_) fun h5=>?_
  ·have h5:¬ r=2^v:=n64 h5;rw [if_neg fun h=>h5 h.1] at hgo;refine brT ?_;refine brT ?_;exact no hbZ3 hgo.symm
  have h5:r=2^v:=y64 h5;refine⟨by omega,_,zgM (a:=h) (k:=v) (by omega),?_⟩;refine⟨_,zbz (a:=h/2^v) (b:=1) (Nat.lt_of_le_of_lt (Nat.div_le_self _ _) hh) (by decide),?_⟩;rw [zi4]
  cases hb5:h.testBit v with
  | true =>
   rw [if_neg fun h=>(by rw [hb5] at h;cases h.2.1)] at hgo;refine brT ?_;refine brT ?_;exact no hbZ3 hgo.symm
  | false =>
   refine brF ?_;obtain⟨bq2,oq2,hqe2,hb2,hat2⟩:=zdI (hv.ev.below hbZ3) hvl;rw [zfS] at hat2;obtain⟨f,hf⟩:=nm (evA x v);rw [<- hf] at hat2 hgo;refine⟨_,zac (zaa (zab hbZ3 fx)) (i:=0) rfl,?_⟩;refine⟨v,rfl,hvl,?_⟩;simp only [Option.some.injEq,Addr.mk.injEq,and_true] at hqe2;rw [<- hqe2.1,<- hqe2.2] at hat2;refine⟨u8 f.l,by have:=zac hat2 (i:=2) (v:=u8 f.l) rfl;exact this,?_⟩;refine⟨u8 e.l,zac (zaa (hdr fZ)) (i:=2) rfl,?_⟩;refine biE (fun h6=>?_) fun h6=>?_
   ·have h6:¬ f.l=e.l:=n8 h6;rw [if_neg fun h=>h6 h.2.2] at hgo;exact no hbZ3 hgo.symm
   have h6:f.l=e.l:=y8 h6;rw [if_pos ⟨h5,hb5,h6⟩] at hgo;refine⟨_,zb2 hh r64,?_⟩;refine nxI (by omega) ?_;exact⟨(k+1,h|||r),(cvE rfl rfl),⟨hkl,hgo,Nat.or_lt_two_pow hh r64,hbZ3⟩,zdc (by omega)⟩
 ·have hc:¬ (k:Int)<(x.ev.length:Int):=dF hc;obtain rfl:k=x.ev.length:=by omega
  rw [List.drop_length] at hgo;exact⟨rb hgo,hbX⟩
end
theorem zjN {locs:Nat}:∀ (ev:List Ev) (i:Nat) (t:Int) (n:Nat),evGo locs i ev t n=true->∀ j,i+j<locs->j<ev.length->∃ v,ev.getD j ev0=⟨-1,2,UInt8.ofNat (i+j),v,0,0,0⟩
 | [],_,_,_,_,_,_,h=>by simp at h
 | e::ev,i,t,n,h,j,hj,hl=>by
  unfold evGo at h;rw [if_pos (by omega:i<locs)] at h;by_cases he:e=⟨-1,2,UInt8.ofNat i,e.v,0,0,0⟩
  ·rw [if_pos he] at h
   cases j with
   | zero=>exact⟨e.v,by rw [Nat.add_zero];exact he⟩
   | succ j =>
    obtain⟨v,hv⟩:=zjN ev (i+1) t n h j (by omega) (by simpa using hl);exact⟨v,by rw [show i+(j+1)=i+1+j by omega];exact hv⟩
  ·rw [if_neg he] at h;cases h
theorem znW (ev:List Ev):zcp ev<=ev.length:=by
 unfold zcp
 induction ev with
 | nil=>exact Nat.le_refl _
 | cons e ev ih =>
  rw [List.takeWhile_cons]
  split
  ·rw [List.length_cons,List.length_cons];omega
  ·exact Nat.zero_le _
theorem zm4 {x:ExD} {locs:Nat} (h:zbx x.ev locs=true) (hl:locs<=x.ev.length) (h6:locs<=6):∀ l,l<locs->zfj x l≠[]:=by
 intro l hll he;obtain⟨v,hv⟩:=zjN x.ev 0 0 0 h l (by omega) (by omega);have:l∈zfj x l:=by
  unfold zfj;rw [List.mem_filter,List.mem_range];refine⟨by omega,?_⟩;have h2:evA x l=⟨-1,2,UInt8.ofNat (0+l),v,0,0,0⟩:=hv;rw [h2,bAT,dE,dE];refine⟨rfl,?_⟩;show (UInt8.ofNat (0+l)).toNat=l;rw [Nat.zero_add,UInt8.toNat_ofNat'];exact Nat.mod_eq_of_lt (by omega)
 rw [he] at this
 cases this
abbrev ze0 (x:ExD):List RelD:=[x.po,x.rf,x.co,x.dt,x.ct,x.rm]
theorem zpT (x:ExD) (q:Option Addr) (c:Nat) {i:Nat} (hi:i<6):((exC x q c).drop (1+49*i)).take 49=relC ((ze0 x).getD i x.po):=by
 have g:∀ {A T:List Value} {o:Nat} {r:RelD},A.length=o->exC x q c=A++(relC r++T)->((exC x q c).drop o).take 49=relC r:=fun {A T o r} hA hE=>by
  rw [hE,<- hA,List.drop_left,List.take_append_of_le_length (by rw [zad];decide),List.take_of_length_le (by rw [zad];decide)]
 match i,hi with
 | 0,_=>obtain⟨A,T,hA,hE⟩:=zn3 x q c [];exact g hA (by rw [<- hE,List.append_nil];rfl)
 | 1,_=>obtain⟨A,T,hA,hE⟩:=zra x q c [];exact g hA (by rw [<- hE,List.append_nil];rfl)
 | 2,_=>obtain⟨A,T,hA,hE⟩:=zrd x q c [];exact g hA (by rw [<- hE,List.append_nil];rfl)
 | 3,_=>obtain⟨A,T,hA,hE⟩:=zn4 x q c [];exact g hA (by rw [<- hE,List.append_nil];rfl)
 | 4,_=>obtain⟨A,T,hA,hE⟩:=zn5 x q c [];exact g hA (by rw [<- hE,List.append_nil];rfl)
 | 5,_=>obtain⟨A,T,hA,hE⟩:=zn2 x q c [];exact g hA (by rw [<- hE,List.append_nil];rfl)
theorem zpl (L:Nat) {k:Nat} (hk:k<6):((List.range 6).map (fun i=>Value.pointer (some ⟨L,0+(1+49*i),none⟩)))[k]?=some (.pointer (some ⟨L,0+(1+49*k),none⟩)):=by
 rw [List.getElem?_map,List.getElem?_range hk];rfl
def okX (x:ExD) (r:RelD):Bool:=decide (r.n=x.ev.length)&&okR r
section
variable {c:Nat} {x:ExD} {q:Option Addr} {w:World}
theorem zfp {X:World} {b:Nat} (fx:ExH X b x q c) {i:Nat} (hi:i<6):zax X ⟨b,0+(1+49*i),none⟩ (relC ((ze0 x).getD i x.po)):=by
 have h:=zaw (n:=1+49*i) (m:=49) (zaa fx);rw [show (exC x q c).toArray.toList=exC x q c from rfl,zpT x q c hi] at h;exact h
theorem ExV.rel (hv:ExV w x q) {i:Nat} (hi:i<6):WrdR ((ze0 x).getD i x.po).to:=by
 match i,hi with
 | 0,_=>exact hv.po
 | 1,_=>exact hv.rf
 | 2,_=>exact hv.co
 | 3,_=>exact hv.dt
 | 4,_=>exact hv.ct
 | 5,_=>exact hv.rm
theorem zol (hv:ExV w x q) (hT:Tz64M w):CB 100 #[.agg (exC x q c).toArray] w (.bool (zcA x)):=by
 refine cofM 70 [.agg (exC x q c).toArray] (.c .p (.c .p (.c .p (.c .p (.c .p .p))))) Tryz.func100 ?_;obtain⟨L,hL⟩:=nm (w.heap.size);have hn:=hv.n;refine⟨Unit,fun _=>⟨[(1,At0 L)],[]⟩,fun _ X=>ExH X L x q c/\Bw w X,⟨(),⟨.cons (by rw [hL];rfl) .nil,rfl⟩,by rw [hL];exact hnew w _,(zba w _)⟩,?_⟩;rintro _ X ⟨fx,hbX⟩;obtain⟨n,hnn⟩:=nm (zcp x.ev);refine⟨Unit,fun _=>⟨[(1,At0 L)],[]⟩,fun _ Y=>X=Y,?_,?_⟩
 ·refine⟨_,zac (zaa fx) (i:=0) rfl,?_⟩;refine biE (fun h=>?_) fun _=>?_
  ·have h:(48:Int)<(x.ev.length:Nat):=dT h;omega
  exact⟨(),(cvE rfl rfl),rfl⟩
 rintro _ _ rfl;refine⟨Unit,fun _=>⟨[(1,At0 L),(3,i64 (n:Nat))],[]⟩,fun _ Y=>Bw X Y,?_,?_⟩
 ·refine⟨_,zac (zaa fx) (i:=0) rfl,?_⟩;refine cmo (zkG (hv.below hbX).ev (by omega)) ?_;rintro e Y ⟨rfl,hbY⟩;rw [<- hnn];exact⟨(),(cvE rfl rfl),hbY⟩
 rintro _ Y hbY;have hvX:=hv.below hbX;have hnl:n<=x.ev.length:=by rw [hnn];exact znW _
 have hbwY:=zst hbX hbY;have hr0:decide (x.ev.length<=48)=true:=decide_eq_true (by omega);have no:∀ {Z:World},Bw w Z->zcA x=false->(Ending.returned (.bool false)=Ending.returned (.bool (zcA x))/\Bw w Z):=fun {Z} hb h=>⟨rb h.symm,hb⟩;refine⟨Unit,fun _=>⟨[(1,At0 L),(3,i64 (n:Nat))],[]⟩,fun _ Z=>zbx x.ev n=true/\(1<=n/\n<=6)/\ExH Z L x q c/\Bw w Z,?_,?_⟩
 ·refine biE (fun h1=>?_) fun h1=>?_
  ·have h1:(n:Int)<1:=dT h1;refine brT ?_;refine brT ?_;refine no hbwY ?_;unfold zcA;rw [<- hnn,decide_eq_false (by omega:¬ 1<=n),Bool.false_and,Bool.and_false]
  have h1:¬ (n:Int)<1:=dF h1;refine biE (fun h2=>?_) fun h2=>?_
  ·have h2:(6:Int)<(n:Int):=dT h2;refine brT ?_;refine no hbwY ?_;unfold zcA;rw [<- hnn,decide_eq_false (by omega:¬ n<=6),Bool.false_and,Bool.and_false,Bool.and_false]
  have h2:¬ (6:Int)<(n:Int):=dF h2;have hn1:decide (1<=n)=true:=decide_eq_true (by omega);have hn6:decide (n<=6)=true:=decide_eq_true (by omega);have fY:=zab hbY fx;refine⟨_,zac (zaa fY) (i:=0) rfl,?_⟩;refine cmo (zhf (locs:=n) (hvX.below hbY).ev (by omega) (by omega)) ?_;rintro e Z ⟨rfl,hbZ⟩;have hbwZ:=zst hbwY hbZ;refine biE (fun h3=>?_) fun h3=>?_
  ·have h3:zbx x.ev n=false:=by
    have h3:(!zbx x.ev n)=true:=h3;simpa using h3
   refine no hbwZ ?_;unfold zcA;rw [<- hnn,h3,Bool.false_and,Bool.and_false,Bool.and_false,Bool.and_false]
  have h3:zbx x.ev n=true:=by
   have h3:(!zbx x.ev n)=false:=h3;simpa using h3
  exact⟨(),(cvE rfl rfl),h3,by omega,zab hbZ fY,hbwZ⟩
 rintro _ Z ⟨h3,⟨h1,h2⟩,fZ,hbwZ⟩;clear fx hbX hbY hbwY hvX;have hn1:decide (1<=n)=true:=decide_eq_true h1;have hn6:decide (n<=6)=true:=decide_eq_true h2;have hright:zcA x=(zcJ x&&(zet x.po (poR x.ev)&&(zc8 x&&(zdg x n&&zcC x)))):=by
  unfold zcA;rw [<- hnn,hr0,hn1,hn6,h3];rfl
 have hrels:zcJ x=(ze0 x).all (okX x):=rfl;refine⟨Unit,fun _=>⟨[(1,At0 L),(3,i64 (n:Nat))],[]⟩,fun _ U=>zcJ x=true/\ExH U L x q c/\Bw w U,?_,?_⟩
 ·refine⟨⟨by decide,by decide,rfl⟩,(List.range 6).map (fun i=>Value.pointer (some ⟨L,0+(1+49*i),none⟩)),rfl,?_⟩;obtain⟨g,hg⟩:=nm (Z.heap.size);refine⟨Nat,fun k=>⟨[(1,At0 L),(3,i64 (n:Nat)),(32,.slice (some ⟨g,0,none⟩) 6 6),(33,i64 6),(34,i64 (k:Nat))],[]⟩,fun k U=>k<=6/\((ze0 x).take k).all (okX x)=true/\U.heap[g]?=some (.cells ((List.range 6).map (fun i=>Value.pointer (some ⟨L,0+(1+49*i),none⟩))).toArray 227 (0,0))/\ExH U L x q c/\Bw w U,fun k=>6-k,0,
   ⟨.cons rfl (.cons rfl (.cons (by rw [hg];rfl) (.cons rfl (.cons rfl .nil)))),rfl⟩,⟨Nat.zero_le _,rfl,by rw [hg];exact hnew Z _,hold _ fZ,hbwZ.alloc hbwZ.size _⟩,?_⟩
  clear hg fZ hbwZ;rintro k U ⟨hk,hall,fg,fU,hbU⟩;dsimp only;refine biE (fun hc=>?_) fun hc=>?_
  ·have hc:(k:Int)<6:=dT hc;have hk6:k<6:=by omega
   obtain⟨r,hr⟩:=nm ((ze0 x).getD k x.po);have hkl:k<(ze0 x).length:=hk6;have htk:(ze0 x).take (k+1)=(ze0 x).take k++[r]:=by
    rw [tsg hkl,hr,gDe,gE hkl];rfl
   have hrw:WrdR r.to:=by rw [hr];exact hv.rel hk6
   have hcel:zax U ⟨L,0+(1+49*k),none⟩ (relC r):=by rw [hr];exact zfp fU hk6
   have dU:Bw U U.drew:=(Below.refl _ _).drew;have hrm:r∈ze0 x:=by
    rw [hr,gDe,gE hkl];exact gM hkl
   have bad:∀ {Z:World},Bw w Z->okX x r=false->(Ending.returned (.bool false)=Ending.returned (.bool (zcA x))/\Bw w Z):=fun {Z} hb h=>no hb (by
    have:zcJ x=false:=by
     rw [hrels,List.all_eq_false];exact⟨r,hrm,by rw [h];decide⟩
    rw [hright,this];rfl)
   refine⟨k,rfl,hk6,?_⟩;refine⟨.pointer (some ⟨L,0+(1+49*k),none⟩),by
    have:=zac (zaa fg) (i:=k*1) (v := .pointer (some ⟨L,0+(1+49*k),none⟩)) (by
     rw [Nat.mul_one];exact zpl L hk6)
    exact this,?_⟩
   refine DrawE.ord [] [0,1,2,3,4,5,6,7,8,9,10,11,12,13,14] (by kernel_rfl) ?_;refine⟨i64 r.n,zac (zaq dU hcel) (i:=0) rfl,?_⟩;refine⟨_,zac (zaa (hdr fU)) (i:=0) rfl,?_⟩;refine biE (fun h4=>?_) fun h4=>?_
   ·have h4:(!decide (r.n=(x.ev.length:Int)))=true:=h4;have h4:¬ r.n=(x.ev.length:Int):=(by simpa using h4);refine brT ?_;exact bad ((zst hbU dU)) (by unfold okX;rw [decide_eq_false h4];rfl)
   have h4:(!decide (r.n=(x.ev.length:Int)))=false:=h4;have h4:r.n=(x.ev.length:Int):=by simpa using h4
   refine⟨relC r,zad _,zaq dU hcel,hlt (hdr fU),?_⟩;refine cmo (zbl hrw) ?_;rintro e V ⟨rfl,hbV⟩;refine⟨hbV,?_⟩;have hbV2:=hbU.trans ((dU.trans hbV).mono hbU.size);refine biE (fun h5=>?_) fun h5=>?_
   ·have h5:okR r=false:=by
     have h5:(!okR r)=true:=h5;simpa using h5
    exact bad hbV2 (by unfold okX;rw [h5,Bool.and_false])
   have h5:okR r=true:=by
    have h5:(!okR r)=false:=h5;simpa using h5
   refine nxI (by omega) ?_;refine⟨k+1,(cvE rfl rfl),⟨hk6,?_,zab (dU.trans hbV) fg,zab (dU.trans hbV) fU,hbV2⟩,zdc (by omega)⟩;rw [htk,List.all_append,hall];show (true&&(okX x r&&true))=true;unfold okX;rw [decide_eq_true h4,h5];rfl
  ·have hc:¬ (k:Int)<6:=dF hc;obtain rfl:k=6:=by omega
   exact⟨(),(cvE rfl rfl),hall,fU,hbU⟩
 rintro _ U ⟨hrr,fU,hbU⟩;rw [hrr,Bool.true_and] at hright;have hall:∀ r∈ze0 x,r.n=x.ev.length/\okR r=true:=fun r hr=>by
  rw [hrels,List.all_eq_true] at hrr;have:=hrr r hr;unfold okX at this;rw [bAT,dE] at this;exact this
 have hrf:=hall x.rf (by simp);have hrm:=hall x.rm (by simp);have hvU:=hv.below hbU;have dU:Bw U U.drew:=(Below.refl _ _).drew;have hvD:=hvU.below dU;have hbD:=zst hbU dU;refine DrawE.ord [] [0,1,2,3,4,5,6,7,8,9,10,11,12,13,14,15,16] (by kernel_rfl) ?_;refine⟨relC x.po,zad _,zfp (hdr fU) (i:=0) (by decide),hlt (hdr fU),?_⟩;refine⟨_,zac (zaa (hdr fU)) (i:=0) rfl,?_⟩;refine cmo (zdF hvD.ev (by omega)) ?_;rintro e V ⟨rfl,hbV⟩;refine⟨hbV,?_⟩;have hbV2:=zst hbD hbV;have fV:=zab hbV (hdr fU);have hvV:=hvD.below hbV;refine⟨_,fun w=>zmj _ _ x.po (poR x.ev) w,?_⟩;refine biE (fun h4=>?_) fun h4=>?_
 ·have h4:zet x.po (poR x.ev)=true:=h4;rw [h4,Bool.true_and] at hright;refine cmo (zlw fV hvV hrf.1 hrf.2 (hT.below hbV2)) ?_;rintro e T ⟨rfl,hbT⟩;refine⟨hbT,?_⟩;have hbT2:=zst hbV2 hbT;refine biE (fun h5=>?_) fun h5=>?_
  ·have h5:zc8 x=true:=h5;rw [h5,Bool.true_and] at hright;refine cmo (zmB (locs:=n) (zab hbT fV) (hvV.below hbT) (by omega) (zm4 h3 hnl (by omega)) (hT.below hbT2)) ?_;rintro e R ⟨rfl,hbR⟩;refine⟨hbR,?_⟩;have hbR2:=zst hbT2 hbR;refine biE (fun h6=>?_) fun h6=>?_
   ·have h6:zdg x n=true:=h6;rw [h6,Bool.true_and] at hright;refine cmo (zkJ (zab hbR (zab hbT fV)) ((hvV.below hbT).below hbR) hrm.1 hrm.2 (hT.below hbR2)) ?_;rintro e Q ⟨rfl,hbQ⟩;exact⟨hbQ,rb hright.symm,(zst hbR2 hbQ)⟩
   ·have h6:zdg x n=false:=h6;rw [h6,Bool.false_and] at hright;exact⟨rb hright.symm,hbR2⟩
  ·have h5:zc8 x=false:=h5;rw [h5,Bool.false_and] at hright;refine brF ?_;exact⟨rb hright.symm,hbT2⟩
 ·have h4:zet x.po (poR x.ev)=false:=h4;rw [h4,Bool.false_and] at hright;refine brF ?_;refine brF ?_;exact⟨rb hright.symm,hbV2⟩
end
theorem zhj {a b:RelD} {f:Nat->Nat} (h:a.n=b.n->okR a=true->okR b=true->∀ i,i<48->f i<2^64):WrdR (comb a b f).1.to:=by
 unfold comb
 split
 ·rename_i hc;rw [bAT,bAT,dE] at hc;exact zej fun i _ hi=>h hc.1 hc.2.1 hc.2.2 i hi
 ·exact fun i _=>(by show 0<2^64;decide)
theorem zla {a b:RelD} (ha:WrdR a.to) (hb:WrdR b.to):WrdR (zeP a b).1.to:=zhj fun _ _ _ i hi=>Nat.or_lt_two_pow (ha i hi) (hb i hi)
theorem zoe {a b:RelD} (ha:WrdR a.to):WrdR (zdi a b).1.to:=zhj fun _ _ _ i hi=>Nat.lt_of_le_of_lt Nat.and_le_left (ha i hi)
theorem zdZ {a b:RelD} (ha:WrdR a.to) (hb:WrdR b.to):WrdR (zbJ a b).1.to:=zhj fun _ h _ i hi=>by
 unfold zgw;exact zjI hb _ _ (by decide) fun j hj=>(ziC h ha hi j hj).2
theorem zd2 (k:Nat) (p:Nat->Bool):rowP (k+1) p=if p k=true then rowP k p|||2^k else rowP k p:=by
 unfold rowP;rw [List.range_succ,List.foldl_append];rfl
theorem zfn (p:Nat->Bool):∀ k,k<=64->rowP k p<2^64
 | 0,_=>by show 0<_;decide
 | k+1,h=>by
  rw [zd2]
  split
  ·exact Nat.or_lt_two_pow (zfn p k (by omega)) (zaF (by omega))
  ·exact zfn p k (by omega)
theorem ze6 {n:Nat} {p:Nat->Nat->Bool} (hn:n<=64):WrdR (zdP n p).to:=zej fun i _ _=>zfn _ n hn
def zbQ (n:Nat) (p:Nat->Nat->Bool) (a k:Nat):Nat->Nat:=fun i=>if i<a then rowP n (p i) else if i=a then rowP k (p a) else 0
theorem zjo (n:Nat) (p:Nat->Nat->Bool) (a k:Nat):zbQ n p a k a=rowP k (p a):=by
 unfold zbQ;rw [if_neg (by omega),if_pos rfl]
theorem zls {n:Nat} {p:Nat->Nat->Bool} {a k:Nat} (h:p a k=true):upd (zbQ n p a k) a (zbQ n p a k a|||2^k)=zbQ n p a (k+1):=by
 funext i;by_cases hi:i=a
 ·subst hi;rw [zbd,zjo,zjo,zd2,if_pos h]
 ·rw [zcx _ _ hi];unfold zbQ;rw [if_neg hi,if_neg hi]
theorem zks {n:Nat} {p:Nat->Nat->Bool} {a k:Nat} (h:p a k=false):zbQ n p a k=zbQ n p a (k+1):=by
 have e:rowP (k+1) (p a)=rowP k (p a):=by rw [zd2,if_neg (by rw [h];decide)]
 funext i;unfold zbQ;rw [e]
theorem zkt (n:Nat) (p:Nat->Nat->Bool) (a:Nat):zbQ n p a n=zbQ n p (a+1) 0:=by
 funext i;unfold zbQ;by_cases h1:i<a
 ·rw [if_pos h1,if_pos (by omega)]
 ·by_cases h2:i=a
  ·subst h2;rw [if_neg h1,if_pos rfl,if_pos (by omega)]
  ·rw [if_neg h1,if_neg h2,if_neg (by omega)]
   split
   ·rfl
   ·rfl
theorem zkr (n:Nat) (p:Nat->Nat->Bool):zbQ n p 0 0=fun _=>0:=by
 funext i;unfold zbQ;rw [if_neg (by omega)]
 split <;> rfl
theorem zlt (n:Nat) (p:Nat->Nat->Bool):zbQ n p n 0=(zdP n p).to:=by
 funext i;unfold zbQ zdP zcb;show _=if i<n then _ else 0
 by_cases h:i<n
 ·rw [if_pos h,if_pos h]
 ·rw [if_neg h,if_neg h]
  split <;> rfl
theorem zlr {n:Nat} {p:Nat->Nat->Bool} {a k:Nat} (hn:n<=64) (hk:k<=64):WrdR (zbQ n p a k):=fun i _=>by
 unfold zbQ
 split
 ·exact zfn _ n hn
 ·split
  ·exact zfn _ k hk
  ·decide
theorem zqk {s b:Nat}:decide ((((s/2^b&&&1:Nat):Nat):Int)=1)=s.testBit b:=by
 rw [zi4]
 cases s.testBit b <;> rfl
section
variable {w:World}
theorem zay {b o a d:Nat} {r:RelD} (hc:∀ i,i<48->w.cell? ⟨b,o+1+i*1,none⟩=some (s64 (r.to i))) (hr:WrdR r.to) (ha:a<48) (hd:d<48) :
  Calls Tryz.prog 159 #[.pointer (some ⟨b,o,none⟩),i64 (a:Nat),i64 (d:Nat)] w fun e w'=>e = .returned (.bool (hasM r a d))/\w=w':=by
 refine cofE 17 [.pointer (some ⟨b,o,none⟩),i64 (a:Nat),i64 (d:Nat)] Tryz.func159 ?_;refine⟨a,rfl,ha,?_⟩;refine⟨_,hc a ha,?_⟩;refine⟨by omega,_,zgM (a:=r.to a) (k:=d) (by omega),?_⟩;refine⟨_,zbz (a:=r.to a/2^d) (b:=1) (Nat.lt_of_le_of_lt (Nat.div_le_self _ _) (hr a ha)) (by decide),?_⟩;exact⟨rb zqk,rfl⟩
theorem zfg {e:Ev}:Calls Tryz.prog 220 #[.agg (evE.enc e).toArray] w fun r w'=>r = .returned (.bool (decide (e.k=1)||decide (e.k=2)))/\Bw w w':=by
 refine cofE 11 [.agg (evE.enc e).toArray] Tryz.func220 ?_;have f:=hnew w (.cells (evE.enc e).toArray 225);have hb:Bw w (w.alloc (.cells (evE.enc e).toArray 225)):=zba w _;refine⟨u8 e.k,zac (zaa f) (i:=1) rfl,?_⟩;refine biE (fun h=>?_) fun h=>?_
 ·have h:e.k=1:=zbe.1 (dT h);exact⟨rb (by rw [decide_eq_true h];rfl),hb⟩
 ·have h:¬ e.k=1:=fun e2=>(dF h) (by rw [e2];rfl);refine⟨u8 e.k,zac (zaa f) (i:=1) rfl,?_⟩;refine⟨rb ?_,hb⟩;rw [decide_eq_false h,Bool.false_or];exact decide_eq_decide.2 (zbe (x:=e.k) (y:=2))
theorem zlI {n g:Nat} {caps:Array Value} {p:Nat->Nat->Bool} (hn:n<=48) (hok:zbr (sg 0) g=true)
  (hp:∀ a d X,a<n->d<n->Bw w X->Calls Tryz.prog g (i64 (a:Nat)::i64 (d:Nat)::caps.toList).toArray X fun e Y=>e = .returned (.bool (p a d))/\Bw X Y) :
  CB 157 #[i64 n,.func (.func g) #[] caps] w (.agg (relC (zdP n p)).toArray):=by
 refine cofM 34 [i64 n,.func (.func g) #[] caps] (.c .p (.c .p (.c .p .p))) Tryz.func157 ?_;obtain⟨L,hL⟩:=nm (w.heap.size);refine⟨Unit,fun _=>⟨[(0,i64 n),(1,.func (.func g) #[] caps),(4,At0 L)],[]⟩,fun _ X=>RelH X L zav/\X.heap.size=L+1/\Bw w X,?_,?_⟩
 ·exact⟨(),⟨.cons rfl (.cons rfl (.cons (by rw [hL];rfl) .nil)),rfl⟩,by rw [hL];exact hnew w _,by rw [hL];exact wz _ _,(zba w _)⟩
 rintro _ X ⟨f0,sX,hbX⟩;refine⟨Unit,fun _=>⟨[(0,i64 n),(1,.func (.func g) #[] caps),(4,At0 L),(5,At0 (L+1))],[]⟩,fun _ Y=>RelH Y (L+1) ⟨n,zbQ n p 0 0⟩/\Y.heap.size=L+2/\Bw X Y,?_,?_⟩
 ·refine⟨relC ⟨n,fun _=>0⟩,by kernel_rfl,?_⟩;refine zap (X:=X) (v := .agg (relC ⟨n,fun _=>0⟩).toArray) k102 (zad _) (by kernel_rfl) (zau _) fun Z hbZ fZ sZ=>?_;rw [sX] at fZ sZ;exact⟨(),⟨.cons rfl (.cons rfl (.cons rfl (.cons (by rw [<- sX];rfl) .nil))),rfl⟩,by rw [zkr];exact fZ,sZ,hbZ⟩
 rintro _ Y ⟨f1,sY,hbY⟩;have hbwY:=zst hbX hbY;have f0:=zab hbY f0;refine⟨Unit,fun _=>⟨[(4,At0 L),(5,At0 (L+1))],[]⟩,fun _ Z=>RelH Z (L+1) (zdP n p)/\RelH Z L zav/\Bw w Z,?_,?_⟩
 ·refine⟨Nat,fun a=>⟨[(0,i64 n),(1,.func (.func g) #[] caps),(4,At0 L),(5,At0 (L+1)),(10,i64 n),(11,i64 (a:Nat))],[]⟩,fun a Z=>a<=n/\RelH Z (L+1) ⟨n,zbQ n p a 0⟩/\RelH Z L zav/\Bw w Z,fun a=>n-a,0,
   (cvE rfl rfl),⟨Nat.zero_le _,f1,f0,hbwY⟩,?_⟩
  rintro a Z ⟨ha,f1,f0,hbZ⟩;dsimp only at f1 ⊢;refine biE (fun hc=>?_) fun hc=>?_
  ·have hc:(a:Int)<(n:Int):=dT hc;have han:a<n:=by omega
   refine⟨Nat,fun d=>⟨[(0,i64 n),(1,.func (.func g) #[] caps),(4,At0 L),(5,At0 (L+1)),(6,i64 (a:Nat)),(10,i64 n),(11,i64 (a:Nat)),(14,i64 n),(15,i64 (d:Nat))],[]⟩,fun d V=>d<=n/\RelH V (L+1) ⟨n,zbQ n p a d⟩/\RelH V L zav/\Bw w V,fun d=>n-d,0,
    (cvE rfl rfl),⟨Nat.zero_le _,f1,f0,hbZ⟩,?_⟩
   clear f1 f0 hbZ;rintro d V ⟨hd,f1,f0,hbV⟩;dsimp only at f1 ⊢;refine biE (fun hc=>?_) fun hc=>?_
   ·have hc:(d:Int)<(n:Int):=dT hc;have hdn:d<n:=(by omega);refine zhk hok (hp a d V han hdn hbV) ?_;rintro e U ⟨rfl,hbU⟩;refine⟨_,rfl,?_⟩;have f1:=zab hbU f1;have f0:=zab hbU f0;have hbU2:=zst hbV hbU;have sU:=hbU2.size;refine biE (fun h=>?_) fun h=>?_
    ·have h:p a d=true:=h;have hR:RelAt U (L+1) 0 102 [] [] ⟨n,zbQ n p a d⟩:=⟨rfl,by simpa using f1⟩;have dU:Bw U U.drew:=(Below.refl _ _).drew;have ha48:a<48:=(by omega);refine DrawE.ord [9] [0,1,2,3,4,5,6,7,8,9] (by kernel_rfl) ?_;refine⟨a,rfl,ha48,?_⟩;refine⟨s64 (zbQ n p a d a),(hR.same (Y:=U.drew) rfl).cell ha48,?_⟩;refine⟨by omega,_,zby (e:=d) (by omega),?_⟩;refine⟨_,zb2 (zlr (by omega) (by omega) a ha48) (zaF (by omega)),?_⟩;refine⟨a,rfl,ha48,?_⟩;refine zal k99 (hR.same (Y:=U.drew) rfl).cells (o:=0+1+a*1) (v:=s64 (zbQ n p a d a|||2^d)) rfl rfl (by rw [hR.len];omega) rfl fun S fS gS sS=>?_;rw [hR.set ha48] at fS;have e5:upd (zbQ n p a d) a (zbQ n p a d a|||2^d)=zbQ n p a (d+1):=zls h;dsimp only at fS;rw [e5] at fS;have gS2:U.grownBy S (some (L+1)):=zae (zah dU) gS;refine nxI (by omega) ?_;exact⟨d+1,(cvE rfl rfl),⟨hdn,by simpa using fS,(gS2.block L (hlt f0) (by simp)).trans f0,hbU2.trans (zak gS2 sU (by omega))⟩,zdc (by omega)⟩
    ·have h:p a d=false:=h;refine nxI (by omega) ?_;exact⟨d+1,(cvE rfl rfl),⟨hdn,by rw [<- zks h];exact f1,f0,hbU2⟩,zdc (by omega)⟩
   ·have hc:¬ (d:Int)<(n:Int):=dF hc;obtain rfl:d=n:=(by omega);refine nxI (by omega) ?_;exact⟨a+1,(cvE rfl rfl),⟨han,by rw [<- zkt];exact f1,f0,hbV⟩,zdc (by omega)⟩
  ·have hc:¬ (a:Int)<(n:Int):=dF hc;obtain rfl:a=n:=by omega
   rw [zlt] at f1;exact⟨(),(cvE rfl rfl),f1,f0,hbZ⟩
 rintro _ Z ⟨f1,f0,hbZ⟩;refine⟨relC (zdP n p),zad _,zaa f1,hlt f1,?_⟩;refine zam (v := .agg (relC (zdP n p)).toArray) k102 f0 (zad _) (zad _) (zau _) ?_;exact⟨relC (zdP n p),zad _,zaa (zaj f0),rfl,zag hbZ (by omega) _⟩
def relE:Enc RelD:=⟨relC,49,zad,by decide,fun a u hu=>List.all_eq_true.1 (zau a) u hu⟩
theorem zdo {l:List RelD}:∀ {r:RelD},WrdR r.to->(∀ o∈l,WrdR o.to)->WrdR (zaV r l).to:=by
 induction l with
 | nil=>exact fun h _=>h
 | cons o l ih=>exact fun h hl=>ih (zla h (hl o List.mem_cons_self)) fun x hx=>hl x (List.mem_cons_of_mem _ hx)
theorem zii {r:RelD} {l:List RelD} {pm:Option Addr} {cm:Nat} (hr:WrdR r.to) (hl:SlR relE w pm l) (hw:∀ o∈l,WrdR o.to) (hn:l.length<=1000) :
  CB 162 #[.agg (relC r).toArray,.slice pm l.length cm] w (.agg (relC (zaV r l)).toArray):=by
 refine cofM 21 [.agg (relC r).toArray,.slice pm l.length cm] (.c .p (.c .p .p)) Tryz.func162 ?_;obtain⟨L,hL⟩:=nm (w.heap.size);refine⟨Unit,fun _=>⟨[(1,.slice pm l.length cm),(2,At0 L),(4,At0 (L+1))],[]⟩,fun _ X=>RelH X L r/\RelH X (L+1) zav/\Bw w X,?_,?_⟩
 ·have s1:=wz w (.cells (relC r).toArray 102);have h2:=hnew (w.alloc (.cells (relC r).toArray 102)) (.cells (relC zav).toArray 102);rw [s1] at h2;refine⟨(),⟨.cons rfl (.cons (by rw [hL];rfl) (.cons (by rw [hL,<- s1];rfl) .nil)),rfl⟩,by rw [hL];exact hold _ (hnew w _),by rw [hL];exact h2,((zba w _)).alloc (by simp) _⟩
 rintro _ X ⟨f0,f1,hbX⟩;refine⟨Unit,fun _=>⟨[(2,At0 L),(4,At0 (L+1))],[]⟩,fun _ Z=>RelH Z L (zaV r l)/\RelH Z (L+1) zav/\Bw w Z,?_,?_⟩
 ·refine⟨Nat,fun k=>⟨[(2,At0 L),(4,At0 (L+1)),(7,.slice pm l.length cm),(8,i64 l.length),(9,i64 (k:Nat))],[]⟩,fun k Z=>k<=l.length/\RelH Z L (zaV r (l.take k))/\RelH Z (L+1) zav/\Bw w Z,fun k=>l.length-k,0,
   (cvE rfl rfl),⟨Nat.zero_le _,f0,f1,hbX⟩,?_⟩
  clear f0 f1 hbX;rintro k Z ⟨hk,f0,f1,hbZ⟩;dsimp only;have hZs:=hbZ.size;refine biE (fun hc=>?_) fun hc=>?_
  ·have hc:(k:Int)<(l.length:Int):=dT hc;have hkl:k<l.length:=by omega
   obtain⟨b,o,rfl,hb,hat⟩:=hl.at hkl;obtain⟨t,ht⟩:∃ t,l[k]=t:=⟨_,rfl⟩;have htm:t∈l:=by rw [<- ht];exact gM hkl
   have htk:zaV r (l.take (k+1))=(zeP (zaV r (l.take k)) t).1:=by
    unfold zaV;rw [tsg hkl,ht,List.foldl_append];rfl
   have hut:WrdR (zaV r (l.take k)).to:=zdo hr fun o ho=>hw o (List.mem_of_mem_take ho);refine⟨k,rfl,hkl,?_⟩;refine⟨relC t,zad _,by rw [<- ht];exact zaq hbZ (hat k hkl),nL hb hZs,?_⟩;refine zap (X:=Z) (v := .agg (relC t).toArray) k102 (zad _) (by kernel_rfl) (zau _) fun Y hbY fY sY=>?_;have fY:RelH Y Z.heap.size t:=fY;have f0:=zab hbY f0;have f1:=zab hbY f1;refine⟨relC (zaV r (l.take k)),zad _,zaa f0,hlt f0,?_⟩;refine⟨relC t,zad _,zaa fY,hlt fY,?_⟩;refine cmo (zqq hut (hw t htm)) ?_;rintro e V ⟨rfl,hbV⟩;have f0:=zab hbV f0;have f1:=zab hbV f1;refine zam (v := .agg (relC (zeP (zaV r (l.take k)) t).1).toArray) k102 f0 (zad _) (zad _) (zau _) ?_;refine nxI (by omega) ?_;have hbV2:=(hbZ.trans (hbY.mono hZs)).trans (hbV.mono (by have:=hbY.size;omega));exact⟨k+1,(cvE rfl rfl),⟨hkl,by rw [htk];exact zaj f0,(zao (by omega)).trans f1,zag hbV2 (by omega) _⟩,zdc (by omega)⟩
  ·have hc:¬ (k:Int)<(l.length:Int):=dF hc;obtain rfl:k=l.length:=by omega
   rw [List.take_length] at f0;exact⟨(),(cvE rfl rfl),f0,f1,hbZ⟩
 rintro _ Z ⟨f0,f1,hbZ⟩;refine⟨relC (zaV r l),zad _,zaa f0,hlt f0,?_⟩;refine zam (v := .agg (relC (zaV r l)).toArray) k102 f1 (zad _) (zad _) (zau _) ?_;exact⟨relC (zaV r l),zad _,zaa (zaj f1),rfl,zag hbZ (by omega) _⟩
end
section
variable {w:World} {b c:Nat} {x:ExD} {q:Option Addr}
theorem zca {X:World} (fx:zax X ⟨b,0,none⟩ (exC x q c)):X.cell? ⟨b,0+0,none⟩=some (.slice q x.ev.length c):=zac fx (i:=0) rfl
theorem zgB {X:World} {o:Nat} {r:RelD} (fx:zax X ⟨b,0,none⟩ (exC x q c)) (h:∃ A T,A.length=o/\exC x q c=A++(relC r++T)):∀ i,i<48->X.cell? ⟨b,o+1+i*1,none⟩=some (s64 (r.to i)):=by
 intro i hi;obtain⟨A,T,hA,hE⟩:=h;have:(exC x q c)[o+1+i*1]?=some (s64 (r.to i)):=by
  rw [hE,Nat.mul_one,Nat.add_assoc,zbf hA,List.getElem?_append_left (by rw [zad];omega),zfq r hi]
 have h2:=zac fx this;rw [Nat.zero_add] at h2;exact h2
theorem zoI (x:ExD) (q:Option Addr) (c:Nat):∃ A T,A.length=1/\exC x q c=A++(relC x.po++T):=by
 obtain⟨A,T,hA,hE⟩:=zn3 x q c [];exact⟨A,T,hA,by rw [<- hE,List.append_nil]⟩
theorem zq8 (x:ExD) (q:Option Addr) (c:Nat):∃ A T,A.length=148/\exC x q c=A++(relC x.dt++T):=by
 obtain⟨A,T,hA,hE⟩:=zn4 x q c [];exact⟨A,T,hA,by rw [<- hE,List.append_nil]⟩
theorem zq9 (x:ExD) (q:Option Addr) (c:Nat):∃ A T,A.length=197/\exC x q c=A++(relC x.ct++T):=by
 obtain⟨A,T,hA,hE⟩:=zn5 x q c [];exact⟨A,T,hA,by rw [<- hE,List.append_nil]⟩
theorem zoH (x:ExD) (q:Option Addr) (c:Nat):∃ A T,A.length=246/\exC x q c=A++(relC x.rm++T):=by
 obtain⟨A,T,hA,hE⟩:=zn2 x q c [];exact⟨A,T,hA,by rw [<- hE,List.append_nil]⟩
theorem zj9 (x:ExD) (i:Nat):(decide ((evA x i).k=1)||decide ((evA x i).k=2))=accA x i:=rfl
theorem zdH {X:World} (hv:SlR evE X q x.ev) {a:Nat} (ha:a<x.ev.length):∃ bq oq,q=some ⟨bq,oq,none⟩/\bq<X.heap.size/\zax X ⟨bq,oq+a*7,none⟩ (evE.enc (evA x a)):=zdI hv ha
theorem zow {a d:Nat} (fx:zax w ⟨b,0,none⟩ (exC x q c)) (hv:SlR evE w q x.ev) (ha:a<x.ev.length) (hd:d<x.ev.length) :
  CB 160 #[At0 b,i64 (a:Nat),i64 (d:Nat)] w (.bool (zdM x a d)):=by
 refine cofM 44 [At0 b,i64 (a:Nat),i64 (d:Nat)] (.c .p .p) Tryz.func160 ?_;refine⟨Unit,fun _=>⟨[(0,At0 b),(1,i64 (a:Nat)),(2,i64 (d:Nat))],[]⟩,fun _ X=>w=X,⟨(),(cvE rfl rfl),rfl⟩,?_⟩;rintro _ _ rfl;obtain⟨bq,oq,hqe,hb,hat⟩:=zdH hv ha;obtain⟨bq2,oq2,hqe2,hb2,hat2⟩:=zdH hv hd;rw [hqe] at hqe2;simp only [Option.some.injEq,Addr.mk.injEq,and_true] at hqe2;rw [<- hqe2.1,<- hqe2.2] at hat2;subst hqe;have dw:Bw w w.drew:=(Below.refl _ _).drew;refine DrawE.ord [] [0,1,2,3,4,5,6,7,8,9,10,11,12,13,14,15,16,17,18,19,20,21,22,23,24,25,26,27,28,29,30,31,32,33,34,35,36,37] (by kernel_rfl) ?_;refine⟨_,zca (zaq dw fx),?_⟩;refine⟨a,rfl,ha,?_⟩;refine⟨evE.enc (evA x a),rfl,zaq dw hat,nL hb dw.size,?_⟩;refine cmo zfg ?_;rintro e X ⟨rfl,hbX⟩;refine⟨hbX,?_⟩;have bX:=dw.trans hbX;rw [zj9];refine biE (fun h1=>?_) fun h1=>?_
 ·have h1:accA x a=true:=h1;refine⟨_,zca (zaq bX fx),?_⟩;refine⟨d,rfl,hd,?_⟩;refine⟨evE.enc (evA x d),rfl,zaq bX hat2,nL hb bX.size,?_⟩;refine cmo zfg ?_;rintro e Y ⟨rfl,hbY⟩;refine⟨hbY,?_⟩;have bY:=zst bX hbY;rw [zj9];refine biE (fun h2=>?_) fun h2=>?_
  ·have h2:accA x d=true:=h2;refine⟨_,zca (zaq bY fx),?_⟩;refine⟨a,rfl,ha,?_⟩;refine⟨u8 (evA x a).l,by have:=zac (zaq bY hat) (i:=2) (v:=u8 (evA x a).l) rfl;exact this,?_⟩;refine⟨_,zca (zaq bY fx),?_⟩;refine⟨d,rfl,hd,?_⟩;refine⟨u8 (evA x d).l,by have:=zac (zaq bY hat2) (i:=2) (v:=u8 (evA x d).l) rfl;exact this,?_⟩;refine⟨rb ?_,bY⟩;unfold zdM;rw [h1,h2,Bool.true_and,Bool.true_and];exact decide_eq_decide.2 zbe
  ·have h2:accA x d=false:=h2;refine⟨rb ?_,bY⟩;unfold zdM;rw [h1,h2];rfl
 ·have h1:accA x a=false:=h1;refine brF ?_;refine⟨rb ?_,bX⟩;unfold zdM;rw [h1];rfl
end
structure ScnV (X:World) (b:Nat) (x:ExD) (q:Option Addr) (c:Nat) (f l s:RelD):Prop where
 h:X.heap[b]?=some (.cells (exC x q c++(relC f++(relC l++relC s))).toArray 313 (0,0))
 v:ExV X x q
 wf:WrdR f.to
 wl:WrdR l.to
 ws:WrdR s.to
section
variable {w:World} {b c:Nat} {x:ExD} {q:Option Addr} {f l s:RelD}
theorem ScnV.below {X Y:World} (h:ScnV X b x q c f l s) (hb:Bw X Y):ScnV Y b x q c f l s:=⟨zab hb h.h,h.v.below hb,h.wf,h.wl,h.ws⟩
theorem ScnV.cells {X:World} (h:ScnV X b x q c f l s):zax X ⟨b,0,none⟩ (exC x q c):=by
 have:=zaw (n:=0) (m:=333) (zaa h.h);have e:((exC x q c++(relC f++(relC l++relC s))).toArray.toList.drop 0).take 333=exC x q c:=by
  show (exC x q c++_).take 333=_;rw [List.take_append_of_le_length (by rw [zaC];decide),List.take_of_length_le (by rw [zaC];decide)]
 rw [e] at this;exact this
theorem ScnV.at {X:World} {o:Nat} {r:RelD} (h:ScnV X b x q c f l s) (hr:∃ A T,A.length=o/\exC x q c++(relC f++(relC l++relC s))=A++(relC r++T)):∀ i,i<48->X.cell? ⟨b,o+1+i*1,none⟩=some (s64 (r.to i)):=by
 intro i hi;obtain⟨A,T,hA,hE⟩:=hr;have:(exC x q c++(relC f++(relC l++relC s)))[o+1+i*1]?=some (s64 (r.to i)):=by
  rw [hE,Nat.mul_one,Nat.add_assoc,zbf hA,List.getElem?_append_left (by rw [zad];omega),zfq r hi]
 have h2:=zac (zaa h.h) this;rw [Nat.zero_add] at h2;exact h2
theorem ScnV.full {X:World} (h:ScnV X b x q c f l s):∀ i,i<48->X.cell? ⟨b,0+333+1+i*1,none⟩=some (s64 (f.to i)):=h.at ⟨exC x q c,relC l++relC s,zaC _ _ _,rfl⟩
theorem ScnV.loads {X:World} (h:ScnV X b x q c f l s):∀ i,i<48->X.cell? ⟨b,0+382+1+i*1,none⟩=some (s64 (l.to i)):=h.at ⟨exC x q c++relC f,relC s,by rw [lap,zaC,zad],by rw [List.append_assoc]⟩
theorem ScnV.stores {X:World} (h:ScnV X b x q c f l s):∀ i,i<48->X.cell? ⟨b,0+431+1+i*1,none⟩=some (s64 (s.to i)):=h.at ⟨exC x q c++(relC f++relC l),[],by rw [lap,lap,zaC,zad,zad],by simp only [List.append_assoc,List.append_nil]⟩
theorem zfs {a:Nat} (h:ScnV w b x q c f l s) (ha:a<x.ev.length):Calls Tryz.prog 262 #[At0 b,i64 (a:Nat)] w fun e w'=>e = .returned (.bool (isR x a))/\w=w':=by
 refine cofE 15 [At0 b,i64 (a:Nat)] Tryz.func262 ?_;obtain⟨bq,oq,hqe,hb,hat⟩:=zdH h.v.ev ha;have fx:=h.cells;subst hqe;refine⟨_,zca fx,?_⟩;refine⟨a,rfl,ha,?_⟩;refine⟨u8 (evA x a).k,by have:=zac hat (i:=1) (v:=u8 (evA x a).k) rfl;exact this,?_⟩;exact⟨rb (decide_eq_decide.2 (zbe (x:=(evA x a).k) (y:=1))),rfl⟩
theorem zbj {a:Nat} (h:ScnV w b x q c f l s) (ha:a<x.ev.length):Calls Tryz.prog 263 #[At0 b,i64 (a:Nat)] w fun e w'=>e = .returned (.bool (isW x a))/\w=w':=by
 refine cofE 15 [At0 b,i64 (a:Nat)] Tryz.func263 ?_;obtain⟨bq,oq,hqe,hb,hat⟩:=zdH h.v.ev ha;have fx:=h.cells;subst hqe;refine⟨_,zca fx,?_⟩;refine⟨a,rfl,ha,?_⟩;refine⟨u8 (evA x a).k,by have:=zac hat (i:=1) (v:=u8 (evA x a).k) rfl;exact this,?_⟩;exact⟨rb (decide_eq_decide.2 (zbe (x:=(evA x a).k) (y:=2))),rfl⟩
theorem zd0 {a:Nat} {md:UInt8} (h:ScnV w b x q c f l s) (ha:a<x.ev.length):Calls Tryz.prog 267 #[At0 b,i64 (a:Nat),u8 md] w fun e w'=>e = .returned (.bool (zaE x a md))/\w=w':=by
 refine cofE 30 [At0 b,i64 (a:Nat),u8 md] Tryz.func267 ?_;obtain⟨bq,oq,hqe,hb,hat⟩:=zdH h.v.ev ha;have fx:=h.cells;subst hqe;refine⟨_,zca fx,?_⟩;refine⟨a,rfl,ha,?_⟩;refine⟨u8 (evA x a).m,by have:=zac hat (i:=4) (v:=u8 (evA x a).m) rfl;exact this,?_⟩;refine biE (fun h1=>?_) fun h1=>?_
 ·have h1:(evA x a).m=md:=zbe.1 (dT h1);exact⟨rb (by unfold zaE;rw [decide_eq_true h1];rfl),rfl⟩
 ·have h1:¬ (evA x a).m=md:=fun e=>(dF h1) (by rw [e]);refine⟨_,zca fx,?_⟩;refine⟨a,rfl,ha,?_⟩;refine⟨u8 (evA x a).m,by have:=zac hat (i:=4) (v:=u8 (evA x a).m) rfl;exact this,?_⟩;exact⟨rb (by unfold zaE;rw [decide_eq_false h1,Bool.false_or];exact decide_eq_decide.2 (zbe (x:=(evA x a).m) (y:=3))),rfl⟩
theorem zmP {a d:Nat} (h:ScnV w b x q c f l s) (ha:a<x.ev.length) (hd:d<x.ev.length):Calls Tryz.prog 264 #[At0 b,i64 (a:Nat),i64 (d:Nat)] w fun e w'=>e = .returned (.bool (zcc x f a d))/\w=w':=by
 refine cofE 23 [At0 b,i64 (a:Nat),i64 (d:Nat)] Tryz.func264 ?_;have hn:=h.v.n;refine cmo (zay h.full h.wf (by omega) (by omega)) ?_;rintro e _ ⟨rfl,rfl⟩;refine biE (fun h1=>?_) fun h1=>?_
 ·have h1:hasM f a d=true:=h1;refine brT ?_;exact⟨rb (by unfold zcc;rw [h1];rfl),rfl⟩
 have h1:hasM f a d=false:=h1;refine cmo (zd0 (md:=3) h ha) ?_;rintro e _ ⟨rfl,rfl⟩;refine biE (fun h2=>?_) fun h2=>?_
 ·have h2:zaE x a 3=true:=h2;exact⟨rb (by unfold zcc;rw [h1,h2];rfl),rfl⟩
 have h2:zaE x a 3=false:=h2;refine cmo (zd0 (md:=3) h hd) ?_;rintro e _ ⟨rfl,rfl⟩;exact⟨rb (by unfold zcc;rw [h1,h2];rfl),rfl⟩
end
end Go.Proofs.YtlkofpbdpplfkaaGreatDoor
