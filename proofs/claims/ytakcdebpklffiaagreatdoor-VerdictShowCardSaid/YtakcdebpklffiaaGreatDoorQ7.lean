/- Contracts of functions, and plain facts, for the law that the last text of this claim proves. -/
import Derived.Test.YtakcdebpklffiaaGreatDoorQ1
import Derived.Test.YtakcdebpklffiaaGreatDoorQ6
import Derived.Lib.SmallJoins
import Derived.Test.YtakcdebpklffiaaGreatDoorQ2
import Derived.Test.YtakcdebpklffiaaGreatDoorRows
import Derived.ProofKit
import Derived.OpenShut
import Derived.LaidLaws
import Derived.Below
import Derived.HandedShaped
import Derived.KernelRfl
import Derived.WalkKit
import Derived.ChangeOld
import Derived.SevenTiedAt
import Derived.LaidHandle
import Derived.Stop.LaidErr
import Derived.Lib.LaidTab
import Derived.SizedLaws
import Derived.Test.YtakcdebpklffiaaGreatDoorQ3
import Derived.Test.YtakcdebpklffiaaGreatDoorQ5
import Derived.Shelf.Vars
set_option linter.unusedSimpArgs false
set_option linter.unusedVariables false
namespace Go.Proofs.YtakcdebpklffiaaGreatDoor
open Go.Vc Go.RowKit Go.Sei
theorem ztM(d:Nat)(w:Wd):(Op.equalIn (d+1) 61 .nilIface .nilIface).run PG w = .ok true w:=by
 simp[Op.equalIn,Ui Tryz.underlying61]
theorem zog(x:Operand)(w:Wd):(do eqGuard .neq 61 x (.const .nilIface) .nilIface .nilIface;binOp .neq 61 .nilIface .nilIface).run PG w = .ok (.bool false) w:=by
 have h:(Op.equal 61 .nilIface .nilIface).run PG w = .ok true w:=ztM 9999 w;have a:(eqGuard .neq 61 x (.const .nilIface) .nilIface .nilIface).run PG w = .ok () w:=by
  simp[eqGuard]
 rw[UJ,a];simp only[KT,binOp,UJ,h,UK];rfl
theorem zsR{w w2:Wd}{k:IntKind}{n:String}{zs:List Int}(h:Lib.TabIs PG w n k zs)(hb:Bw w w2):Lib.TabIs PG w2 n k zs:=by
 unfold Lib.TabIs World.var? at *;rw[Option.bind_eq_some_iff] at h ⊢;obtain⟨g,b,h⟩:=h;refine⟨g,b,?_⟩
 split at h
 ·rename_i c t d a;have:=zb hb a;rw[this];exact h
 ·cases h
structure GlobQ (w:Wd):Prop where
 e:GlobE w
 pow : Lib.TabIs PG w "internal/strconv.uint64pow10" .u64 Lib.pow10Tab
 max:∃m,w.cell? ⟨0,0,none⟩=some (.int .i64 m)
theorem GlobQ.below{w w2:Wd}(h:GlobQ w)(hb:Bw w w2):GlobQ w2:=by
 obtain⟨c,b,m,a⟩:=h;exact⟨c.below hb,zsR b hb,m,zbj hb a⟩
theorem zoy{w:Wd}(h:GlobQ w):ItoH 256 w:=fun n b X a=>by
 refine cmo (Tryz.strconv_Itoa (n:Int) (by omega) (by omega) X (zsR h.pow a)) ?_;rintro e _ ⟨rfl,k,c,rfl⟩;refine⟨?_,zjS⟩;have e:Lib.itoa (n:Int)=qK n:=by
  unfold Lib.itoa;rw[Gc (by omega),KE,zlV (by omega)]
 rw[e];rfl
theorem zsq{w:Wd}(s sep a r:List UInt8)(b:Bool)(hs:s.length<=1000)(hG:GlobQ w)(h:Lib.cut s sep=(a,r,b)):CB 19 #[zJ s,zJ sep] w (.tuple #[zJ a,zJ r,.bool b]):=by
 obtain⟨d,c⟩:=hG.max;refine cmo (Tryz.strings_Cut (bs s) (bs sep) d w (by show s.length<_;omega) c) ?_;rintro e _ ⟨rfl,n,rfl⟩;have f:Lib.cut (bs s).data.toList (bs sep).data.toList=(a,r,b):=h;rw[f];exact⟨rfl,⟨rfl,rfl,rfl,UN _,fun _ _=>rfl⟩⟩
theorem zkt{w:Wd}{n:Nat}(hn:n<256):CB 20 #[zJ (qK n),i64 10,i64 8] w (.tuple #[.int .u64 (n:Nat),.nilIface]):=by
 have b:=qZ n;refine cmo (Tryz.strconv_ParseUint_10_at8_ok (bs (qK n)) (by show(qK n).length<=9223372036854775806;omega) n (zmZ hn) w) ?_;rintro e V1 ⟨rfl,a⟩;refine⟨rfl,?_⟩;rcases a with rfl | rfl
 ·exact UR _ _
 ·exact Go.Joins.below_bytesWorld _ _ _ _ (UN _)
theorem zrH{w:Wd}{s:List UInt8}{ws:List (List UInt8)}(hs:s.length<=1000)(hG:GlobQ w)(h:Lib.split s [32]=ws):Calls PG 18 #[zJ s,zJ [32]] w fun e w'=>e = .returned (.slice (some ⟨w.heap.size,0,none⟩) ws.length ws.length)/\w'=w.alloc (.cells (ws.map zJ).toArray 9):=by
 obtain⟨f,d⟩:=hG.max;refine cmo (Tryz.strings_Split (bs s) (bs [32]) f w (by show s.length<_;omega) d (by decide)) ?_;rintro e V ⟨rfl,rfl⟩;have a:(Lib.splitB (bs [32]) 0 (Lib.countB (bs s) (bs [32])) (bs s)).map (fun x=>x.data.toList)=ws:=by
  rw[Lib.splitB_data];exact h
 have b:Lib.countB (bs s) (bs [32])+1=ws.length:=by
  rw[<- a,QD,Lib.splitB_all (bs [32]) (by decide) 0 _ _ rfl]
 have c:((Lib.splitB (bs [32]) 0 (Lib.countB (bs s) (bs [32])) (bs s)).map Value.string).toArray=(ws.map zJ).toArray:=by
  rw[<- a,Uw];rfl
 rw[b,c];exact⟨rfl,rfl⟩
structure VqI (W:Wd) (F:FinV) (R:List (Nat×Nat)) (ws:List (List UInt8)) (k:Nat) (X:Wd):Prop where
 bel:Bw W X
 g:X.heap[W.heap.size]?=some (.cells (seg 38 fun i=>u8 (fB F R k i)).toArray 52 (0,0))
 m:X.heap[W.heap.size+1]?=some (.cells (seg 32 fun i=>i64 (fM R k i:Nat)).toArray 55 (0,0))
 b:X.heap[W.heap.size+2]?=some (.cells (ws.map zJ).toArray 9 (0,0))
theorem VqI.below{W X Y:Wd}{F:FinV}{R:List (Nat×Nat)}{ws:List (List UInt8)}{k:Nat}(h:VqI W F R ws k X)(hb:Bw X Y):VqI W F R ws k Y:=⟨h.bel.trans (hb.mono h.bel.size),zb hb h.g,zb hb h.m,zb hb h.b⟩
theorem znM{n m k:Nat}(f:Nat->Value)(h:k+m<=n):((seg n f).drop k).take m=seg m fun i=>f (k+i):=by
 apply KI;intro i;by_cases a:i<m
 ·rw[List.getElem?_take_of_lt a,Kr,jV _ (by omega),jV _ a]
 ·rw[JE (by rw[Ql];omega),JE (by rw[zy];omega)]
theorem zpz(o:UInt8):wOp o=(decide ((o.toNat:Int)=1)||(decide ((3:Int)<=(o.toNat:Int))&&decide ((o.toNat:Int)<=6))):=by
 unfold wOp;rw[Bool.eq_iff_iff];simp only[Qx,bAT,dE,<- QW];show o.toNat=1\/o.toNat=3\/o.toNat=4\/o.toNat=5\/o.toNat=6↔_;omega
theorem VqI.met{W X:Wd}{F:FinV}{R:List (Nat×Nat)}{ws:List (List UInt8)}{k t:Nat}(h:VqI W F R ws k X)(ht:t<4):zF X ⟨W.heap.size+1,0+t*8,none⟩ (seg 8 fun r=>i64 (fM R k (t*8+r):Nat)):=by
 have:=zI (n:=t*8) (m:=8) (za h.m);have e:=znM (n:=32) (k:=t*8) (m:=8) (fun i=>i64 (fM R k i:Nat)) (by omega);rw[show(((seg 32 fun i=>i64 (fM R k i:Nat)).toArray.toList.drop (t*8)).take 8)=seg 8 fun r=>i64 (fM R k (t*8+r):Nat) from e] at this;exact this
section
variable{w:Wd}{F:FinV}{p:Prg}{vs:List Value}{B:Nat}
theorem zgN(hB:B<=w.heap.size)(hp:PrgV B w vs p)(hG:GlobQ w):CB 5 #[.agg vs.toArray,qT F] w (.bool true):=by
 refine qg 231 [.agg vs.toArray,qT F] (.c .p (.c .p (.s .p (.s .p (.s .p (.c .p (.c (.s .p (.b (.l (.s .p (.s .p (.s (.b (.s .p (.c .p (.c .p (.c .p (.c (.c .p (.s .p (.d (.c .p (.c .p (.c .p (.s .p (.s .p .p))))) .p))) (.c .p (.s .p .p)))))))) .p)))))) (.c (.s .p (.b (.l (.s .p (.s .p (.s (.b (.s .p (.c .p (.b (.l (.s .p (.s .p (.c (.b (.c .p (.s .p (.c (.s .p (.d (.s .p (.b (.l (.s .p (.s .p (.s (.b (.c .p (.c .p .p))) .p)))))) .p)) (.s .p .p))))) .p)))))))) .p)))))) (.c (.s .p (.b (.l (.s .p (.s .p (.s (.b (.s .p (.s .p .p))) .p)))))) .p))))))))) Tryz.func5 ?_;have be:=hp.size;refine⟨Unit,fun _=>⟨[(2,At0 w.heap.size),(3,At0 (w.heap.size+1))],[]⟩,fun _ X=>X.heap[w.heap.size]?=some (.cells vs.toArray 29 (0,0))/\X.heap[w.heap.size+1]?=some (.cells (zA.enc F).toArray 52 (0,0))/\Bw w X,?_,?_⟩
 ·have e1:(w.alloc (.cells (Value.agg vs.toArray).cells 29)).heap.size=w.heap.size+1:=wz _ _;have f3:=zw (w.alloc (.cells (Value.agg vs.toArray).cells 29)) (.cells (qT F).cells 52);rw[e1] at f3;exact⟨(),⟨.cons rfl (.cons (by rw[<- e1];rfl) .nil),rfl⟩,z6 _ (zw w _),f3,((zba w _)).alloc (by rw[wz];omega) _⟩
 rintro _ W0 ⟨f2,f3,b0⟩;refine⟨Unit,fun _=>⟨[(2,At0 w.heap.size),(3,At0 (w.heap.size+1)),(5,zJ (zbM p F))],[]⟩,fun _ X=>Bw W0 X,?_,?_⟩
 ·refine⟨vs,be,za f2,hlt f2,zA.enc F,zA.len F,za f3,hlt f3,cmo (zpk (N:=256) (p:=p) (F:=F) (UC hB b0.size) (hp.below (b0.mono hB)) (hG.below b0).e.c (zoy (hG.below b0)) (by decide) (fun t r _ _=>(F.reg t r).toNat_lt) (fun k _=>(F.mem k).toNat_lt)) ?_⟩;rintro e X ⟨rfl,bX⟩;exact⟨(),(cvE rfl rfl),bX⟩
 rintro _ X bX;have al:=zst b0 bX;refine⟨vs,be,za (zb bX f2),hlt (zb bX f2),cmo (zfv (UC hB al.size) (hp.below (al.mono hB)) (hG.below al).e.c) ?_⟩;rintro e W1 ⟨n,rfl,hn,b1⟩;have a0:=zst bX b1;have u:=zst al b1;refine biE (fun h=>?_) fun h=>?_
 ·have h:¬n=0:=by simpa using h
  have e:zbM p F=[]:=by unfold zbM;rw[Gc fun e=>h (hn.2 e)]
  refine⟨_,fun w=>qt _ _ (zbM p F) [] w,brE (Uh e) (cmo (zpc (hG.below u).e) ?_)⟩;rintro e Y ⟨rfl,z⟩;exact⟨rfl,(zst u z)⟩
 have h:n=0:=by simpa using h
 have av:=hn.1 h;have ok:=zoc av;replace f2:=zb a0 f2;replace f3:=zb a0 f3;obtain⟨bm,p1,c1,p2,c2,p3,c3,p4,c4,rfl,h1,h2,⟨xs,a3,h3,bx⟩,h4,h5⟩:=hp.below (u.mono hB);have a4:B<=W1.heap.size:=UC hB u.size;have b8:xs.length=p.threads.length:=by rw[<- a3,QD]
 obtain⟨bl,ol,rfl,bh,bb⟩:=(h1.slr a4).at (i:=0) ok.l1;clear h1 h2 h4 h5 bm;clear hn h bX al b1 a0 X b0 W0;obtain⟨ws,an⟩:=nm (zaM p F);obtain⟨R,hR⟩:=nm (rgP p);have bj:ws.length=R.length+p.locs.length:=by rw[an,hR];exact zgX
 have b9:R.length<=32:=by rw[hR];have:=zlk p.threads p.threads.length;have:=ok.t4;show(rgI p.threads p.threads.length).length<=32;omega
 have b6:=ok.l6;have hs:zbM p F=Lib.join ws [32]:=by unfold zbM;rw[Gd av,an]
 have ai:∀x∈ws,(32:UInt8) ∉ x/\x.length<=20:=by rw[an];exact zj6 av ok.t4
 have bc:(zbM p F).length<=1000:=by
  rw[hs];have:=zlF (M:=20) (sep:=[32]) (ws:=ws) fun x hx=>(ai x hx).2;have h2:ws.length*(20+[(32:UInt8)].length)=ws.length*21:=rfl;rw[h2] at this;omega
 have ax:ws≠[]:=fun e=>by rw[e] at bj;have:=ok.l1;simp only[QE] at bj;omega
 have bf:Lib.split (zbM p F) [32]=ws:=by rw[hs];exact zka 32 ax fun x hx=>(ai x hx).1
 have e8:ws.length-R.length=p.locs.length:=by omega
 refine⟨Unit,fun _=>⟨[(2,At0 w.heap.size),(3,At0 (w.heap.size+1)),(5,zJ (zbM p F)),(6,At0 W1.heap.size),(7,At0 (W1.heap.size+1)),(8,i64 0)],[]⟩,fun _ X=>X.heap.size=W1.heap.size+2/\X.heap[W1.heap.size]?=some (.cells (seg 38 fun i=>u8 (fB F R 0 i)).toArray 52 (0,0))/\X.heap[W1.heap.size+1]?=some (.cells (seg 32 fun i=>i64 (fM R 0 i:Nat)).toArray 55 (0,0))/\Bw W1 X,?_,?_⟩
 ·have e1:(W1.alloc (.cells (seg 38 fun _=>u8 0).toArray 52)).heap.size=W1.heap.size+1:=wz _ _;have g7:=zw (W1.alloc (.cells (seg 38 fun _=>u8 0).toArray 52)) (.cells (seg 32 fun _=>i64 0).toArray 55);rw[e1] at g7;refine⟨(),⟨.cons rfl (.cons rfl (.cons rfl (.cons rfl (.cons (by rw[<- e1];rfl) (.cons rfl .nil))))),rfl⟩,?_,?_,?_,?_⟩
  ·exact(wz _ _).trans (UY (· + 1) e1)
  ·have e:(fun i=>u8 (fB F R 0 i))=fun _=>u8 0:=funext fun i=>by rw[ztJ]
   rw[e];exact z6 _ (zw W1 (.cells (seg 38 fun _=>u8 0).toArray 52))
  ·have e:(fun i=>i64 (fM R 0 i:Nat))=fun _=>i64 0:=funext fun i=>by rw[ztI];rfl
   rw[e];exact g7
  ·exact((zba W1 _)).alloc (UC (Nat.le_succ _) (Nat.le_of_eq e1.symm)) _
 rintro _ X ⟨sX,gX,mX,bX⟩;refine⟨Unit,fun _=>⟨[(2,At0 w.heap.size),(3,At0 (w.heap.size+1)),(6,At0 W1.heap.size),(7,At0 (W1.heap.size+1)),(8,i64 p.locs.length)],[]⟩,fun _ X=>VqI W1 F R ws ws.length X,?_,?_⟩
 ·refine cmo (zrH bc (hG.below ((zst u bX))) bf) ?_;rintro e V ⟨rfl,rfl⟩;have fV:=zw X (.cells (ws.map zJ).toArray 9);rw[sX] at fV;have bk:VqI W1 F R ws 0 (X.alloc (.cells (ws.map zJ).toArray 9)):=⟨bX.alloc bX.size _,z6 _ gX,z6 _ mX,fV⟩;refine⟨Nat,fun k=>⟨[(2,At0 w.heap.size),(3,At0 (w.heap.size+1)),(6,At0 W1.heap.size),(7,At0 (W1.heap.size+1)),(8,i64 (k-R.length:Nat)),(42,.slice (some ⟨W1.heap.size+2,0,none⟩) ws.length ws.length),(43,i64 ws.length),(44,i64 k)],[]⟩,fun k X=>k<=ws.length/\VqI W1 F R ws k X,fun k=>ws.length-k,0,⟨.cons rfl (.cons rfl (.cons rfl (.cons rfl (.cons (by show some (i64 0)=some (i64 ((0-R.length:Nat):Int));rw[Nat.zero_sub];rfl) (.cons (by show some (Value.slice (some ⟨X.heap.size,0,none⟩) ws.length ws.length)=_;rw[sX]) (.cons rfl (.cons rfl .nil))))))),rfl⟩,⟨UP _,bk⟩,?_⟩;clear bk fV sX gX mX bX X;rintro k X ⟨hk,f⟩;refine biE (fun h=>?_) fun h=>?_
  ·have a7:k<ws.length:=by have:=dT h;omega
   clear h hk;obtain⟨a,v,a2,hv,bo,_,b5,ak⟩:=zfA (F:=F) av ok.t4 (k:=k) (by rw[<- an];exact a7);rw[<- an] at a2;rw[<- hR] at ak;have ac:=hG.below (u.trans (f.bel.mono u.size));have cb:=qZ v;refine⟨k,rfl,a7,?_⟩;refine⟨zJ (a++(61::[]++qK v)),by
    have:(ws.map zJ)[k]?=some (zJ (a++(61::[]++qK v))):=(by rw[KM,a2];rfl);have:=zc (za f.b) this;rw[UO];exact this,?_⟩
   refine⟨Unit,fun _=>⟨[(2,At0 w.heap.size),(3,At0 (w.heap.size+1)),(6,At0 W1.heap.size),(7,At0 (W1.heap.size+1)),(8,i64 (k-R.length:Nat)),(11,zJ a),(12,zJ (qK v)),(13,.bool true),(42,.slice (some ⟨W1.heap.size+2,0,none⟩) ws.length ws.length),(43,i64 ws.length),(44,i64 k)],[]⟩,fun _ X=>VqI W1 F R ws k X,?_,?_⟩
   ·refine cmo (zsq (a++(61::[]++qK v)) [61] a (qK v) true (by simp only[lap,Qj,QE];omega) ac (zjD 61 [] a (qK v) bo)) ?_;rintro e Y ⟨rfl,z⟩;exact⟨(),(cvE rfl rfl),f.below z⟩
   clear f ac a2 X;rintro _ X f;refine⟨Unit,fun _=>⟨[(2,At0 w.heap.size),(3,At0 (w.heap.size+1)),(6,At0 W1.heap.size),(7,At0 (W1.heap.size+1)),(8,i64 (k-R.length:Nat)),(11,zJ a),(13,.bool true),(14,.int .u64 (v:Nat)),(15,.nilIface),(42,.slice (some ⟨W1.heap.size+2,0,none⟩) ws.length ws.length),(43,i64 ws.length),(44,i64 k)],[]⟩,fun _ X=>VqI W1 F R ws k X,?_,?_⟩
   ·refine cmo (zkt hv) ?_;rintro e Y ⟨rfl,z⟩;exact⟨(),(cvE rfl rfl),f.below z⟩
   clear f X;rintro _ X f;refine⟨Unit,fun _=>⟨[(2,At0 w.heap.size),(3,At0 (w.heap.size+1)),(6,At0 W1.heap.size),(7,At0 (W1.heap.size+1)),(8,i64 (k-R.length:Nat)),(11,zJ a),(14,.int .u64 (v:Nat)),(42,.slice (some ⟨W1.heap.size+2,0,none⟩) ws.length ws.length),(43,i64 ws.length),(44,i64 k)],[]⟩,fun _ X=>VqI W1 F R ws k X,?_,?_⟩
   ·exact brF ⟨_,fun w=>zog _ w,brF ⟨(),(cvE rfl rfl),f⟩⟩
   clear f X;rintro _ X f;have ac:=hG.below (u.trans (f.bel.mono u.size));rcases ak with⟨q,hq,rfl,rfl,cc,au⟩ | ⟨j,hj,rfl,bq,bz,rfl⟩
   ·
    have b7:k<R.length:=(Jo.1 hq).1;have ar:q.1<4:=(by have:=ok.t4;omega);have l1:=qZ q.1;have l2:=qZ q.2;refine⟨Unit,fun _=>⟨[(2,At0 w.heap.size),(3,At0 (w.heap.size+1)),(6,At0 W1.heap.size),(7,At0 (W1.heap.size+1)),(8,i64 (k-R.length:Nat)),(11,zJ (zgQ q.1 q.2)),(14,.int .u64 ((F.reg q.1 q.2).toNat:Nat)),(42,.slice (some ⟨W1.heap.size+2,0,none⟩) ws.length ws.length),(43,i64 ws.length),(44,i64 k)],[]⟩,fun _ X=>False,?_,?_⟩
    ·refine⟨Unit,fun _=>⟨[(2,At0 w.heap.size),(3,At0 (w.heap.size+1)),(6,At0 W1.heap.size),(7,At0 (W1.heap.size+1)),(8,i64 (k-R.length:Nat)),(11,zJ (zgQ q.1 q.2)),(14,.int .u64 ((F.reg q.1 q.2).toNat:Nat)),(16,zJ (qK q.1)),(17,zJ (qK q.2)),(18,.bool true),(42,.slice (some ⟨W1.heap.size+2,0,none⟩) ws.length ws.length),(43,i64 ws.length),(44,i64 k)],[]⟩,fun _ X=>VqI W1 F R ws k X,?_,?_⟩
     ·refine cmo (zsq (zgQ q.1 q.2) [58,114] (qK q.1) (qK q.2) true (by omega) ac (zjD 58 [114] (qK q.1) (qK q.2) (zfu (by omega) (.inr (by decide))))) ?_;rintro e Y ⟨rfl,z⟩;exact⟨(),(cvE rfl rfl),f.below z⟩
     clear f ac X;rintro _ X f;refine brT ⟨Unit,fun _=>⟨[(2,At0 w.heap.size),(3,At0 (w.heap.size+1)),(6,At0 W1.heap.size),(7,At0 (W1.heap.size+1)),(8,i64 (k-R.length:Nat)),(14,.int .u64 ((F.reg q.1 q.2).toNat:Nat)),(17,zJ (qK q.2)),(19,.int .u64 (q.1:Nat)),(20,.nilIface),(42,.slice (some ⟨W1.heap.size+2,0,none⟩) ws.length ws.length),(43,i64 ws.length),(44,i64 k)],[]⟩,fun _ X=>VqI W1 F R ws k X,?_,?_⟩
     ·refine cmo (zkt (n:=q.1) (by omega)) ?_;rintro e Y ⟨rfl,z⟩;exact⟨(),(cvE rfl rfl),f.below z⟩
     clear f X;rintro _ X f;refine⟨Unit,fun _=>⟨[(2,At0 w.heap.size),(3,At0 (w.heap.size+1)),(6,At0 W1.heap.size),(7,At0 (W1.heap.size+1)),(8,i64 (k-R.length:Nat)),(14,.int .u64 ((F.reg q.1 q.2).toNat:Nat)),(19,.int .u64 (q.1:Nat)),(20,.nilIface),(21,.int .u64 (q.2:Nat)),(22,.nilIface),(42,.slice (some ⟨W1.heap.size+2,0,none⟩) ws.length ws.length),(43,i64 ws.length),(44,i64 k)],[]⟩,fun _ X=>VqI W1 F R ws k X,?_,?_⟩
     ·refine cmo (zkt (n:=q.2) (by omega)) ?_;rintro e Y ⟨rfl,z⟩;exact⟨(),(cvE rfl rfl),f.below z⟩
     clear f X;rintro _ X f;refine⟨Unit,fun _=>⟨[(2,At0 w.heap.size),(3,At0 (w.heap.size+1)),(6,At0 W1.heap.size),(7,At0 (W1.heap.size+1)),(8,i64 (k-R.length:Nat)),(14,.int .u64 ((F.reg q.1 q.2).toNat:Nat)),(19,.int .u64 (q.1:Nat)),(21,.int .u64 (q.2:Nat)),(42,.slice (some ⟨W1.heap.size+2,0,none⟩) ws.length ws.length),(43,i64 ws.length),(44,i64 k)],[]⟩,fun _ X=>VqI W1 F R ws k X,?_,?_⟩
     ·have ab:=zb f.bel f2;exact⟨_,fun w=>zog _ w,brF ⟨_,fun w=>zog _ w,brF ⟨_,zc (za ab) (i:=3) rfl,(p.threads.length:Int),zcn (by have:=ok.t4;omega),brN (QX (by omega)) (brN (QX (by omega)) ⟨(),(cvE rfl rfl),f⟩)⟩⟩⟩
     clear f X;rintro _ X f;obtain⟨V,hV⟩:=nm (F.reg q.1 q.2);rw[<- hV];refine⟨(V.toNat:Int),zcQ (by have:=V.toNat_lt;omega),q.1,rfl,ar,q.2,rfl,au,?_⟩;have a9:ix q<32:=(by unfold ix;omega);refine zn k5 f.g (o:=0+0+q.1*8+q.2*1) (v:=u8 V) rfl rfl (by rw[zy];omega) rfl fun Y fY gY sY=>?_;have e:=zcR (n:=38) (fun i=>u8 (fB F R k i)) (fun i=>u8 (fB F R (k+1) i)) (i:=ix q) (by omega) rfl fun j hj=>by rw[zqv hq hj]
     rw[zr5 hq ar au,<- hV] at e;have eo:0+0+q.1*8+q.2*1=ix q:=(by unfold ix;omega);rw[eo,e] at fY;have mY:=(gY.block _ (hlt f.m) (by simp)).trans f.m;have z:=(gY.block _ (hlt f.b) (by simp)).trans f.b;have af:Bw W1 Y:=f.bel.trans (zm gY f.bel.size (UN _));refine DrawE.ord [8] [0,1,2,3,4,5,6,7,8] (by kernel_rfl) ⟨q.1,rfl,ar,q.2,rfl,au,?_⟩;have em:0+q.1*8+q.2*1=ix q:=(by unfold ix;omega);have e0:fM R k (ix q)=0:=(by unfold fM;rw[hR] at hq ⊢;rw[zqn hq,Gc (by decide)]);refine⟨i64 (0:Nat),by
      have:=zc (za (hdr mY)) (jV (fun i=>i64 (fM R k i:Nat)) a9);rw[e0] at this;rw[em];rw[UH] at this;exact this,?_⟩
     refine⟨1,rfl,q.1,rfl,ar,q.2,rfl,au,zn k3 (hdr mY) (o:=0+q.1*8+q.2*1) (v:=i64 1) rfl rfl (by rw[zy];omega) rfl fun Z fZ gZ sZ=>?_⟩;have e2:=zcR (n:=32) (fun i=>i64 (fM R k i:Nat)) (fun i=>i64 (fM R (k+1) i:Nat)) (i:=ix q) a9 rfl fun j hj=>by rw[zqu hq hj]
     rw[zr3 hq] at e2;rw[em] at fZ;have fZ:=fZ.trans (UY (fun l:List Value=>some (Obj.cells l.toArray 55 (0,0))) e2);refine⟨_,zg (by omega),?_⟩;have ek:(k+1-R.length:Nat)=(k-R.length:Nat):=(by omega);exact⟨k+1,⟨.cons rfl (.cons rfl (.cons rfl (.cons rfl (.cons (by rw[ek];rfl) (.cons rfl (.cons rfl (.cons rfl .nil))))))),rfl⟩,⟨a7,af.drew.trans (zm gZ af.size (by omega)),(gZ.block _ (hlt fY) (by simp)).trans fY,fZ,(gZ.block _ (hlt z) (by simp)).trans z⟩,by dsimp only;omega⟩
    ·rintro _ X h;exact h.elim
   ·
    refine⟨Unit,fun _=>⟨[(2,At0 w.heap.size),(3,At0 (w.heap.size+1)),(6,At0 W1.heap.size),(7,At0 (W1.heap.size+1)),(8,i64 j),(11,zJ a),(14,.int .u64 ((F.mem j).toNat:Nat)),(42,.slice (some ⟨W1.heap.size+2,0,none⟩) ws.length ws.length),(43,i64 ws.length),(44,i64 (R.length+j:Nat))],[]⟩,fun _ X=>VqI W1 F R ws (R.length+j) X,?_,?_⟩
    ·refine⟨Unit,fun _=>⟨[(2,At0 w.heap.size),(3,At0 (w.heap.size+1)),(6,At0 W1.heap.size),(7,At0 (W1.heap.size+1)),(8,i64 j),(11,zJ a),(14,.int .u64 ((F.mem j).toNat:Nat)),(16,zJ a),(17,zJ []),(18,.bool false),(42,.slice (some ⟨W1.heap.size+2,0,none⟩) ws.length ws.length),(43,i64 ws.length),(44,i64 (R.length+j:Nat))],[]⟩,fun _ X=>VqI W1 F R ws (R.length+j) X,?_,?_⟩
     ·refine cmo (zsq a [58,114] a [] false (by omega) ac (zqL 58 [114] a bz)) ?_;rintro e Y ⟨rfl,z⟩;exact⟨(),⟨.cons rfl (.cons rfl (.cons rfl (.cons rfl (.cons (by show some (i64 ((R.length+j-R.length:Nat):Int))=_;rw[Jt]) (.cons rfl (.cons rfl (.cons rfl (.cons rfl (.cons rfl (.cons rfl (.cons rfl (.cons rfl .nil)))))))))))),rfl⟩,f.below z⟩
     clear f ac X;rintro _ X f;exact brF ⟨(),(cvE rfl rfl),f⟩
    clear f ac X;rintro _ X f;have ah:j<6:=(by omega);refine⟨Unit,fun _=>⟨[(2,At0 w.heap.size),(3,At0 (w.heap.size+1)),(6,At0 W1.heap.size),(7,At0 (W1.heap.size+1)),(8,i64 (j:Nat)),(14,.int .u64 ((F.mem j).toNat:Nat)),(42,.slice (some ⟨W1.heap.size+2,0,none⟩) ws.length ws.length),(43,i64 ws.length),(44,i64 (R.length+j:Nat))],[]⟩,fun _ X=>VqI W1 F R ws (R.length+j) X,?_,?_⟩
    ·have ab:=zb f.bel f2;refine⟨_,zc (za ab) (i:=1) rfl,brN (QX (by omega)) ⟨_,zc (za ab) (i:=1) rfl,j,rfl,hj,?_⟩⟩;obtain⟨aa,bn⟩:=Jo.1 bq;have hc:=zt f.bel (bb j hj);rw[bn] at hc;exact⟨_,jt hc,_,fun w=>zp6 _ _ a a w,brN (by rw[Uh rfl];rfl) ⟨(),(cvE rfl rfl),f⟩⟩
    clear f X;rintro _ X f;obtain⟨V,hV⟩:=nm (F.mem j);rw[<- hV];refine⟨(V.toNat:Int),zcQ (by have:=V.toNat_lt;omega),j,rfl,ah,zn k5 f.g (o:=0+32+j*1) (v:=u8 V) rfl rfl (by rw[zy];omega) rfl fun Y fY gY sY=>?_⟩;have e:=zcR (n:=38) (fun i=>u8 (fB F R (R.length+j) i)) (fun i=>u8 (fB F R (R.length+j+1) i)) (i:=32+j) (by omega) rfl fun i hi=>by rw[zqw hi]
    rw[zr6,<- hV] at e;have eo:0+32+j*1=32+j:=(by omega);rw[eo,e] at fY;have mY:=(gY.block _ (hlt f.m) (by simp)).trans f.m;have em:(fun i=>i64 (fM R (R.length+j) i:Nat))=fun i=>i64 (fM R (R.length+j+1) i:Nat):=funext fun i=>by rw[zr4]
    rw[em] at mY;have z:=(gY.block _ (hlt f.b) (by simp)).trans f.b;have af:Bw W1 Y:=f.bel.trans (zm gY f.bel.size (UN _));exact⟨_,zg (by omega),_,zg (by omega),R.length+j+1,⟨.cons rfl (.cons rfl (.cons rfl (.cons rfl (.cons (by show some (i64 ((j:Nat)+1:Int))=some (i64 ((R.length+j+1-R.length:Nat):Int));congr 2;omega) (.cons rfl (.cons rfl (.cons rfl .nil))))))),rfl⟩,⟨by omega,af,fY,mY,z⟩,by dsimp only;omega⟩
  ·have bt:k=ws.length:=by have:=dF h;omega
   subst bt;refine⟨(),⟨.cons rfl (.cons rfl (.cons rfl (.cons rfl (.cons (by show some (i64 ((ws.length-R.length:Nat):Int))=_;rw[e8]) .nil)))),rfl⟩,f⟩
 clear sX gX mX bX X;rintro _ X f;clear bf ax bc ai hs bh;have a8:∀t r,r<8->fM R ws.length (t*8+r)=if(decide (t<p.threads.length)&&jY (p.threads.getD t []) r)=true then 1 else 0:=fun t r hr=>by
  unfold fM;rw[zd8 (by omega),hR,zqo hr]
 refine⟨Unit,fun _=>⟨[(2,At0 w.heap.size),(3,At0 (w.heap.size+1)),(6,At0 W1.heap.size),(8,i64 p.locs.length)],[]⟩,fun _ X=>VqI W1 F R ws ws.length X,?_,?_⟩
 ·refine⟨Nat,fun t=>⟨[(2,At0 w.heap.size),(3,At0 (w.heap.size+1)),(6,At0 W1.heap.size),(7,At0 (W1.heap.size+1)),(8,i64 p.locs.length),(137,i64 t)],[]⟩,fun t X=>t<=4/\VqI W1 F R ws ws.length X,fun t=>4-t,0,(cvE rfl rfl),⟨UP _,f⟩,?_⟩;clear f X;rintro t X ⟨ht,f⟩;refine biE (fun h=>?_) fun h=>?_
  ·have ag:t<4:=by have:=dT h;omega
   clear h ht;refine⟨Unit,fun _=>⟨[(2,At0 w.heap.size),(3,At0 (w.heap.size+1)),(6,At0 W1.heap.size),(7,At0 (W1.heap.size+1)),(8,i64 p.locs.length),(23,i64 t),(137,i64 t),(142,.agg (seg 8 fun r=>i64 (fM R ws.length (t*8+r):Nat)).toArray),(143,i64 0)],[]⟩,fun _ X=>VqI W1 F R ws ws.length X,?_,?_⟩
   ·exact⟨t,rfl,ag,seg 8 fun r=>i64 (fM R ws.length (t*8+r):Nat),zy _ _,f.met ag,hlt f.m,(),(cvE rfl rfl),f⟩
   clear f X;rintro _ X f;refine⟨Nat,fun r=>⟨[(2,At0 w.heap.size),(3,At0 (w.heap.size+1)),(6,At0 W1.heap.size),(7,At0 (W1.heap.size+1)),(8,i64 p.locs.length),(23,i64 t),(137,i64 t),(142,.agg (seg 8 fun r=>i64 (fM R ws.length (t*8+r):Nat)).toArray),(143,i64 r)],[]⟩,fun r X=>r<=8/\VqI W1 F R ws ws.length X,fun r=>8-r,0,(cvE rfl rfl),⟨UP _,f⟩,?_⟩;clear f X;rintro r X ⟨hr,f⟩;refine biE (fun h=>?_) fun h=>?_
   ·have ad:r<8:=(by have:=dT h;omega);clear h hr;have ap:=a8 t r ad;refine⟨Unit,fun _=>⟨[(2,At0 w.heap.size),(3,At0 (w.heap.size+1)),(6,At0 W1.heap.size),(7,At0 (W1.heap.size+1)),(8,i64 p.locs.length),(23,i64 t),(137,i64 t),(142,.agg (seg 8 fun r=>i64 (fM R ws.length (t*8+r):Nat)).toArray),(143,i64 r)],[]⟩,fun _ X=>VqI W1 F R ws ws.length X,?_,?_⟩
    ·refine⟨Unit,fun _=>⟨[(2,At0 w.heap.size),(3,At0 (w.heap.size+1)),(6,At0 W1.heap.size),(7,At0 (W1.heap.size+1)),(8,i64 p.locs.length),(23,i64 t),(24,i64 r),(25,i64 (fM R ws.length (t*8+r):Nat)),(137,i64 t),(142,.agg (seg 8 fun r=>i64 (fM R ws.length (t*8+r):Nat)).toArray),(143,i64 r)],[]⟩,fun _ X=>VqI W1 F R ws ws.length X,?_,?_⟩
     ·exact⟨r,rfl,ad,zbb (v:=i64 (fM R ws.length (t*8+r):Nat)) (by rw[UO];exact jV (fun r=>i64 (fM R ws.length (t*8+r):Nat)) ad) ⟨(),(cvE rfl rfl),f⟩⟩
     clear f X;rintro _ X f;refine⟨Unit,fun _=>⟨[(2,At0 w.heap.size),(3,At0 (w.heap.size+1)),(6,At0 W1.heap.size),(7,At0 (W1.heap.size+1)),(8,i64 p.locs.length),(23,i64 t),(24,i64 r),(25,i64 (fM R ws.length (t*8+r):Nat)),(26,i64 (fM R ws.length (t*8+r):Nat)),(137,i64 t),(142,.agg (seg 8 fun r=>i64 (fM R ws.length (t*8+r):Nat)).toArray),(143,i64 r)],[]⟩,fun _ X=>VqI W1 F R ws ws.length X,?_,?_⟩
     ·have ab:=zb f.bel f2;refine⟨_,zc (za ab) (i:=3) rfl,biE (fun h=>?_) fun h=>?_⟩
      ·have aq:t<p.threads.length:=(by have:=dT h;omega);clear h;have aw:t<xs.length:=(by omega);obtain⟨x,hx⟩:=nm (xs[t]);have bg:x∈xs:=(by rw[hx];exact gM aw);have bv:p.threads.getD t []=x.1:=(by rw[<- a3,gDe,KM,gE aw,hx];rfl);have b2:x.1∈p.threads:=(by rw[<- a3];exact Kg bg);have ca:=ok.th _ b2;rw[bv,Uh aq,Un] at ap;obtain⟨b3,o3,rfl,b4,ba⟩:=(h3.slr a4).at aw;have a6:=zt f.bel (ba t aw);rw[<- hx] at a6;refine⟨_,zc (za ab) (i:=3) rfl,t,rfl,aq,_,jt a6,?_⟩;have br:=(bx x bg).slr a4;refine⟨Nat,fun j=>⟨[(2,At0 w.heap.size),(3,At0 (w.heap.size+1)),(6,At0 W1.heap.size),(7,At0 (W1.heap.size+1)),(8,i64 p.locs.length),(23,i64 t),(24,i64 r),(25,i64 (fM R ws.length (t*8+r):Nat)),(26,i64 ((if jY (x.1.take j) r=true then 1 else 0):Nat)),(137,i64 t),(142,.agg (seg 8 fun r=>i64 (fM R ws.length (t*8+r):Nat)).toArray),(143,i64 r),(156,.slice x.2.1 x.1.length x.2.2),(157,i64 x.1.length),(158,i64 j)],[]⟩,fun j X=>j<=x.1.length/\VqI W1 F R ws ws.length X,fun j=>x.1.length-j,0,⟨.cons rfl (.cons rfl (.cons rfl (.cons rfl (.cons rfl (.cons rfl (.cons rfl (.cons rfl (.cons (by rw[Uf];rfl) (.cons rfl (.cons rfl (.cons rfl (.cons rfl (.cons rfl (.cons rfl .nil)))))))))))))),rfl⟩,⟨UP _,f⟩,?_⟩;clear f ab a6 X;rintro j X ⟨hj,f⟩;refine biE (fun h=>?_) fun h=>?_
       ·have aa:j<x.1.length:=(by have:=dT h;omega);clear h hj;obtain⟨y,hy⟩:=nm (x.1[j]);have am:=ziA aa r;rw[<- hy] at am;obtain⟨bi,oi,bd,az,ay⟩:=(br.below f.bel).at aa;have aj:=ay j aa;rw[<- hy] at aj;refine⟨Nat,fun s=>⟨[(2,At0 w.heap.size),(3,At0 (w.heap.size+1)),(6,At0 W1.heap.size),(7,At0 (W1.heap.size+1)),(8,i64 p.locs.length),(23,i64 t),(24,i64 r),(25,i64 (fM R ws.length (t*8+r):Nat)),(26,i64 ((if jY (x.1.take j) r=true then 1 else 0):Nat)),(28,At0 s),(137,i64 t),(142,.agg (seg 8 fun r=>i64 (fM R ws.length (t*8+r):Nat)).toArray),(143,i64 r),(156,.slice x.2.1 x.1.length x.2.2),(157,i64 x.1.length),(158,i64 j)],[]⟩,fun s Y=>Y.heap[s]?=some (.cells (zS.enc y).toArray 68 (0,0))/\VqI W1 F R ws ws.length Y,?_,?_⟩
        ·rw[bd];exact⟨j,rfl,aa,zS.enc y,rfl,aj,az,zr (X:=X) (v := .agg (zS.enc y).toArray) k68 rfl rfl rfl fun U bw fU sU=>⟨X.heap.size,(cvE rfl rfl),fU,f.below bw⟩⟩
        clear f aj ay bd az X;rintro s X ⟨fs,f⟩;refine⟨Unit,fun _=>⟨[(2,At0 w.heap.size),(3,At0 (w.heap.size+1)),(6,At0 W1.heap.size),(7,At0 (W1.heap.size+1)),(8,i64 p.locs.length),(23,i64 t),(24,i64 r),(25,i64 (fM R ws.length (t*8+r):Nat)),(26,i64 ((if jY (x.1.take j) r=true then 1 else 0):Nat)),(137,i64 t),(142,.agg (seg 8 fun r=>i64 (fM R ws.length (t*8+r):Nat)).toArray),(143,i64 r),(156,.slice x.2.1 x.1.length x.2.2),(157,i64 x.1.length),(158,i64 j),(181,.bool (wOp y.op&&decide (y.dst.toNat=r)))],[]⟩,fun _ X=>VqI W1 F R ws ws.length X,?_,?_⟩
        ·have l0:=zc (za fs) (i:=0) (v:=u8 y.op) rfl;have l1:=zc (za fs) (i:=1) (v:=u8 y.dst) rfl;have ae:=zpz y.op;refine⟨_,l1,(y.dst.toNat:Int),zg (by have:=y.dst.toNat_lt;omega),biE (fun h=>?_) fun h=>?_⟩
         ·have hd:y.dst.toNat=r:=(by have:=dT h;omega);refine⟨_,l0,biE (fun h1=>?_) fun h1=>?_⟩
          ·rw[h1,Bool.true_or] at ae;exact⟨(),⟨.cons rfl (.cons rfl (.cons rfl (.cons rfl (.cons rfl (.cons rfl (.cons rfl (.cons rfl (.cons rfl (.cons rfl (.cons rfl (.cons rfl (.cons rfl (.cons rfl (.cons rfl (.cons (by rw[ae,Uh hd];rfl) .nil))))))))))))))),rfl⟩,f⟩
          rw[h1,Uk] at ae;refine⟨_,l0,biE (fun h2=>?_) fun h2=>?_⟩
          ·rw[h2,Un] at ae;exact⟨_,l0,(),⟨.cons rfl (.cons rfl (.cons rfl (.cons rfl (.cons rfl (.cons rfl (.cons rfl (.cons rfl (.cons rfl (.cons rfl (.cons rfl (.cons rfl (.cons rfl (.cons rfl (.cons rfl (.cons (by rw[ae,Uh hd,Bool.and_true];rfl) .nil))))))))))))))),rfl⟩,f⟩
          ·rw[h2,QZ] at ae;exact⟨(),⟨.cons rfl (.cons rfl (.cons rfl (.cons rfl (.cons rfl (.cons rfl (.cons rfl (.cons rfl (.cons rfl (.cons rfl (.cons rfl (.cons rfl (.cons rfl (.cons rfl (.cons rfl (.cons (by rw[ae];rfl) .nil))))))))))))))),rfl⟩,f⟩
         ·have hd:¬y.dst.toNat=r:=fun e=>by have:=dF h;omega
          exact⟨(),⟨.cons rfl (.cons rfl (.cons rfl (.cons rfl (.cons rfl (.cons rfl (.cons rfl (.cons rfl (.cons rfl (.cons rfl (.cons rfl (.cons rfl (.cons rfl (.cons rfl (.cons rfl (.cons (by rw[QX hd,QY];rfl) .nil))))))))))))))),rfl⟩,f⟩
        clear f fs s X;rintro _ X f;refine biE (fun h=>?_) fun h=>?_
        ·rw[h,Bool.or_true] at am;exact⟨_,zg (by omega),j+1,⟨.cons rfl (.cons rfl (.cons rfl (.cons rfl (.cons rfl (.cons rfl (.cons rfl (.cons rfl (.cons (by dsimp only;rw[am];rfl) (.cons rfl (.cons rfl (.cons rfl (.cons rfl (.cons rfl (.cons rfl .nil)))))))))))))),rfl⟩,⟨aa,f⟩,by dsimp only;omega⟩
        ·rw[h,Um] at am;exact⟨_,zg (by omega),j+1,⟨.cons rfl (.cons rfl (.cons rfl (.cons rfl (.cons rfl (.cons rfl (.cons rfl (.cons rfl (.cons (by dsimp only;rw[am];rfl) (.cons rfl (.cons rfl (.cons rfl (.cons rfl (.cons rfl (.cons rfl .nil)))))))))))))),rfl⟩,⟨aa,f⟩,by dsimp only;omega⟩
       ·have bu:j=x.1.length:=(by have:=dF h;omega);subst bu;exact⟨(),⟨.cons rfl (.cons rfl (.cons rfl (.cons rfl (.cons rfl (.cons rfl (.cons rfl (.cons rfl (.cons (by dsimp only;rw[ap,Qn];rfl) (.cons rfl (.cons rfl (.cons rfl .nil))))))))))),rfl⟩,f⟩
      ·have aq:¬t<p.threads.length:=(by have:=dF h;omega);rw[QX aq,QZ,Gc Ko] at ap;exact⟨(),⟨.cons rfl (.cons rfl (.cons rfl (.cons rfl (.cons rfl (.cons rfl (.cons rfl (.cons rfl (.cons (by rw[ap];rfl) (.cons rfl (.cons rfl (.cons rfl .nil))))))))))),rfl⟩,f⟩
     clear f X;rintro _ X f;have a5:=zb f.bel f3;refine DrawE.ord [] [0,1,2,3,4,5,6,7,8,9,10,11,12,13,14,15,16,17,18,19,20,21] (by kernel_rfl) ?_;have ao:=f.below (UR _ X).drew;refine brN (by rw[Uh rfl];rfl) (biE (fun h=>?_) fun h=>?_)
     ·have bp:inI R ws.length (t*8+r)=true:=by
       cases e:inI R ws.length (t*8+r) with
       | true=>rfl
       | false=>have:=dT h;unfold fM at this;rw [e] at this;exact Ge this (by decide)
      obtain⟨V,hV⟩:=nm (F.reg t r);have a1:fB F R ws.length (t*8+r)=V:=by
       unfold fB;rw[Gd (by omega),Gd bp,hV];congr 1 <;> omega
      refine⟨t,rfl,ag,r,rfl,ad,?_⟩;refine⟨u8 V,by
       have:=zc (za (hdr f.g)) (jV (n:=38) (fun i=>u8 (fB F R ws.length i)) (i:=t*8+r) (by omega));rw[a1] at this;have eo:0+0+t*8+r*1=0+(t*8+r):=(by omega);rw[eo];exact this,?_⟩
      refine⟨t,rfl,ag,r,rfl,ad,?_⟩;refine⟨u8 V,by
       have:=zc (za (hdr a5)) (zib (F:=F) ag ad);rw[<- hV] at this;have eo:0+0+t*8+r*1=0+(t*8+r):=(by omega);rw[eo];exact this,?_⟩
      exact brN (by rw[Uh rfl];rfl) ⟨(),(cvE rfl rfl),ao⟩
     ·exact brF ⟨(),(cvE rfl rfl),ao⟩
    clear f X;rintro _ X f;exact⟨_,zg (by omega),r+1,(cvE rfl rfl),⟨ad,f⟩,by dsimp only;omega⟩
   ·exact⟨_,zg (by omega),t+1,(cvE rfl rfl),⟨ag,f⟩,by dsimp only;omega⟩
  ·exact⟨(),(cvE rfl rfl),f⟩
 clear f X a8;rintro _ X f;refine⟨Unit,fun _=>⟨[(2,At0 w.heap.size),(8,i64 p.locs.length)],[]⟩,fun _ X=>VqI W1 F R ws ws.length X,?_,?_⟩
 ·refine⟨_,zc (za (zb f.bel f2)) (i:=1) rfl,Nat,fun j=>⟨[(2,At0 w.heap.size),(3,At0 (w.heap.size+1)),(6,At0 W1.heap.size),(8,i64 p.locs.length),(209,i64 p.locs.length),(210,i64 j)],[]⟩,fun j X=>j<=p.locs.length/\VqI W1 F R ws ws.length X,fun j=>p.locs.length-j,0,(cvE rfl rfl),⟨UP _,f⟩,?_⟩;clear f X;rintro j X ⟨hj,f⟩;refine biE (fun h=>?_) fun h=>?_
  ·have aa:j<p.locs.length:=by have:=dT h;omega
   clear h hj;have ah:j<6:=by omega
   have a5:=zb f.bel f3;refine DrawE.ord [] [0,1,2,3,4,5,6,7,8] (by kernel_rfl) ?_;have ao:=f.below (UR _ X).drew;obtain⟨V,hV⟩:=nm (F.mem j);have a1:fB F R ws.length (32+j)=V:=by
    unfold fB;rw[Gc (by omega),Gd (by omega),Jt,hV]
   refine⟨j,rfl,ah,?_⟩;refine⟨u8 V,by
    have:=zc (za (hdr f.g)) (jV (n:=38) (fun i=>u8 (fB F R ws.length i)) (i:=32+j) (by omega));rw[a1] at this;have eo:0+32+j*1=0+(32+j):=(by omega);rw[eo];exact this,?_⟩
   refine⟨j,rfl,ah,?_⟩;refine⟨u8 V,by
    have:=zc (za (hdr a5)) (zic (F:=F) ah);rw[<- hV] at this;have eo:0+32+j*1=0+(32+j):=(by omega);rw[eo];exact this,?_⟩
   exact brN (by rw[Uh rfl];rfl) ⟨_,zg (by omega),j+1,(cvE rfl rfl),⟨aa,ao⟩,by dsimp only;omega⟩
  ·exact⟨(),(cvE rfl rfl),f⟩
 clear f X;rintro _ X f;refine⟨_,zc (za (zb f.bel f2)) (i:=1) rfl,brE (Uh rfl) ?_⟩;have bX:=u.trans (f.bel.mono u.size);refine cmo (zpc (hG.below bX).e) ?_;rintro e Y ⟨rfl,z⟩;exact⟨rfl,(zst bX z)⟩
theorem zgO{a:Array Value}(hp:PrgX w.heap.size w a.toList p)(hG:GlobQ w):CB 5 #[.agg a,qT F] w (.bool true) :=
 zgN (vs:=a.toList) (UN _) hp.v hG
end
end Go.Proofs.YtakcdebpklffiaaGreatDoor
namespace Go.Proofs.YtakcdebpklffiaaGreatDoor
open Go.Vc Go.RowKit Go.Sei
open Go.ChangeShapes Go.WideShapes Go.ChangeAt
section
variable{H:Type}{enc:TypeId×Value->H}{P:Program}{w:Wd}{base:Nat}{spare:Nat->Bool}{held:Bool}{fuel:Nat}{t:TypeId}{cs:List Value}{x:DataW H×List MemPlace}
theorem zlx(ht:P.underlying t=some (.int .u8))(h:DataW.trod enc P w base spare held fuel t cs=some x):∃b:UInt8,cs=[u8 b]/\x.1 = .lit (.int .u8 b.toNat):=by
 obtain⟨n,rfl,rfl,a⟩:=DataW.trod_int ht h;have c:=bounds_u8 a;have e:((UInt8.ofNat n.toNat).toNat:Int)=n:=by
  rw[KB];omega
 exact⟨UInt8.ofNat n.toNat,by rw[u8,e],by rw[e]⟩
theorem zdW{n:Nat}{e:TypeId}(ht:P.underlying t=some (.array n e))(he:P.underlying e=some (.int .u8))(hc:P.cellsOf e=1)(hn:P.cellsOf t=n)
  (h:DataW.trod enc P w base spare held fuel t cs=some x):∃bs:List UInt8,bs.length=n/\cs=bs.map u8/\x.1 = .agg (bs.map fun b => .lit (.int .u8 b.toNat)):=by
 obtain⟨p,m,rfl,rfl,r,v,l⟩:=DataW.trod_array ht h;rw[hn] at r;have j:∀i (h:i<n),∃b:UInt8,cs[i]?=some (u8 b)/\p[i]?.map (·.1)=some (.lit (.int .u8 b.toNat)):=fun i s=>by
  have d:=l i s;rw[hc,gE (by omega)] at d;obtain⟨b,c,a⟩:=zlx he d;refine⟨b,?_,by rw[gE (by omega),QU,a]⟩;have:((cs.drop (i*1)).take 1)[0]?=some (u8 b):=by rw[c];rfl
  simpa using this
 have:∀k,k<=n->∃bs:List UInt8,bs.length=k/\cs.take k=bs.map u8/\(p.take k).map (·.1)=bs.map fun b => .lit (.int .u8 b.toNat):=by
  intro k
  induction k with
  | zero=>exact fun _=>⟨[],rfl,by simp,by simp⟩
  | succ k ih =>
   intro u;obtain⟨bs,d,c,a⟩:=ih (by omega);obtain⟨b,q,o⟩:=j k (by omega);have g:k<cs.length:=by omega
   have f:k<p.length:=by omega
   rw[gE g] at q;rw[gE f] at o;refine⟨bs++[b],by simp[d],?_,?_⟩
   ·rw[tsg g,c,QV q];simp
   ·rw[tsg f,QG,a];simp at o;simp[o]
 obtain⟨bs,d,c,a⟩:=this n (UN _);rw[JB (by omega)] at c a;exact⟨bs,d,c,by rw[<- a]⟩
end
theorem zae:Tryz.prog.cellsOf 5=1:=by kernel_rfl
theorem zsv:Tryz.prog.cellsOf 4=1:=by kernel_rfl
theorem zjW(b o i:Nat):(⟨b,o,none⟩:Addr).add i=⟨b,o+i,none⟩:=by
 unfold Addr.add;by_cases h:i=0
 ·simp[h]
 ·simp[h]
section
variable{w:Wd}{base:Nat}{cs:List Value}
theorem zin{a:Addr}{n:Nat}(hn:0<n)(h:w.cells? base a n=some cs):a.spot=none/\a.block<w.heap.size/\zF w ⟨a.block,a.off,none⟩ cs:=by
 obtain⟨_,k,g⟩:=World.cells?_some h;have c:=g 0 hn;rw[gE (by omega)] at c;have f:a.spot=none:=by simpa [Addr.add] using World.cell?_spot c
 obtain⟨b,o,s⟩:=a;dsimp only at f;subst f;refine⟨rfl,Ju _ _ c,jF fun i v d=>?_⟩;have j:i<n:=by have:=(Jo.1 d).1;omega
 have:=(g i j).trans d;rw[zjW] at this;exact this
end
theorem znN:ownKnob Tryz.prog.godebug=none:=by kernel_rfl
theorem zdM:laidOutB PG=true:=by kernel_rfl
section
variable{H:Type}{enc:TypeId×Value->H}{P:Program}{w:Wd}{base:Nat}{spare:Nat->Bool}{held:Bool}{fuel:Nat}{t e:TypeId}{cs:List Value}{x:DataW H×List MemPlace}
def Opens (enc:TypeId×Value->H) (P:Program) (w:Wd) (base:Nat) (spare:Nat->Bool) (held:Bool) (t:TypeId) (R:List Value->Prop):Prop :=
 ∀fuel cs x,DataW.trod enc P w base spare held fuel t cs=some x->R cs
theorem Opens.field{fs:Array Field}{R:List Value->Prop}{i:Nat}{f:Field}{n:Nat}{xs:List (DataW H×List MemPlace)}{m:Nat}(hel:∀(i:Nat) (f:Field),fs[i]?=some f->DataW.trod enc P w base spare held m f.type ((cs.drop f.offset).take (P.cellsOf f.type))=xs[i]?)
  (hl:xs.length=fs.size) (hi:fs[i]?=some f) {o:Nat} (hoo:f.offset=o) (hn:P.cellsOf f.type=n) (ho:Opens enc P w base spare held f.type R):R ((cs.drop o).take n):=by
 subst hoo;have a:=hel i f hi;have:i<fs.size:=(Ji.1 hi).1;rw[gE (by omega),hn] at a;exact ho _ _ _ a
theorem je(ht:P.underlying t=some (.int .u8)):Opens enc P w base spare held t fun cs=>∃b:UInt8,cs=[u8 b]:=fun fuel cs x h=>by
 obtain⟨b,h,_⟩:=zlx ht h;exact⟨b,h⟩
theorem zkw(ht:P.underlying t=some .bool):Opens enc P w base spare held t fun cs=>∃b:Bool,cs=[.bool b]:=fun fuel cs x h=>by
 obtain⟨b,h,_⟩:=DataW.trod_bool ht h;exact⟨b,h⟩
theorem zhd{n:Nat}(ht:P.underlying t=some (.array n e))(he:P.underlying e=some (.int .u8))(hc:P.cellsOf e=1)(hn:P.cellsOf t=n):Opens enc P w base spare held t fun cs=>∃bs:List UInt8,bs.length=n/\cs=bs.map u8:=fun fuel cs x h=>by
 obtain⟨bs,b,a,_⟩:=zdW ht he hc hn h;exact⟨bs,b,a⟩
theorem zlD{β:Type}{n:Nat}(i0:β){Q:Nat->β->Prop}(h:∀i,i<n->∃b,Q i b):∃bs:List β,bs.length=n/\∀i (hi:i<bs.length),Q i bs[i]:=by
 have a:∀i,∃b,i<n->Q i b:=fun i=>by
  by_cases hi:i<n
  ·obtain⟨b,d⟩:=h i hi;exact⟨b,fun _=>d⟩
  ·exact⟨i0,fun h=>Ge h hi⟩
 obtain⟨g,c⟩:=Classical.axiomOfChoice a;refine⟨(List.range n).map g,by simp,fun i hi=>?_⟩;simp only[Qh,Kt];exact c i (by simpa using hi)
theorem zlJ{β:Type}{f:β->List Value}{sz:Nat}:∀(bs:List β) (cs:List Value),cs.length=bs.length*sz->(∀i (h:i<bs.length),(cs.drop (i*sz)).take sz=f bs[i])->cs=bs.flatMap f
 | [],cs,hl,_=>by simpa using hl
 | b::r,cs,hl,h=>by
  have a:=h 0 (by simp);simp only[UI,Uc,List.getElem_cons_zero] at a;rw[KK,<- a]
  conv=>lhs;rw[<- JL sz cs]
  congr 1;refine zlJ (sz:=sz) r (cs.drop sz) (by rw[Qk,hl,Qj,UM];omega) fun i c=>?_;have d:=h (i+1) (by simpa using c);rw[Ua];simpa [UM,UA] using d
theorem zmz{β:Type}(i0:β){f:β->List Value}{Q:β->Prop}{n sz:Nat}(ht:P.underlying t=some (.array n e))(hc:P.cellsOf e=sz)(hn:P.cellsOf t=n*sz)(ho:Opens enc P w base spare held e fun cs=>∃b,Q b/\cs=f b) :
  Opens enc P w base spare held t fun cs=>∃bs:List β,bs.length=n/\(∀b∈bs,Q b)/\cs=bs.flatMap f:=fun fuel cs x h=>by
 obtain⟨p,m,rfl,rfl,j,o,g⟩:=DataW.trod_array ht h;rw[hn] at j;have d:∀i,i<n->∃b:β,Q b/\(cs.drop (i*sz)).take sz=f b:=fun i a=>by
  have c:=g i a;rw[hc,gE (by omega)] at c;exact ho _ _ _ c
 obtain⟨bs,c,k⟩:=zlD i0 d;refine⟨bs,c,fun b l=>?_,zlJ bs cs (by rw[j,c]) fun i a=>(k i a).2⟩;obtain⟨i,a,rfl⟩:=Kd l;exact(k i a).1
theorem cut(cs:List Value)(o n o':Nat)(h:o+n=o'):cs.drop o=(cs.drop o).take n++cs.drop o':=by
 rw[<- h,<- Ua,JL]
end
theorem cC(t n:Nat)(h:Tryz.prog.cellsOf t=n):Tryz.prog.cellsOf t=n:=h
theorem zdP{H:Type}{enc:TypeId×Value->H}{a:Assume}{C:Checked}{os:Os}{f:FuncId}{fn:Func}{s:ChangeSpec}{conds:List PathCond}{apart fresh handsOn again:Bool}{X:Wd->Array Value->Prop}
  (hX:∀(w w':Wd) (args:Array Value),w.heap=w'.heap->X w args->X w' args)
  (own:ownKnob C.prog.godebug=none) (started:os.Started) (noInit:C.prog.inits.idxOf? f=none) (hfn:C.prog.funcs[f]?=some fn)
  (witness:∃(w:Wd) (tape:Tape) (i:Input),w.os=os/\(w.forCall tape i).Shaped C.prog/\i.vars=[]/\Input.okWide C.prog (w.forCall tape i) .any w.heap.size f i /\
   ((s.pre enc C.prog fn conds apart (w.forCall tape i).memory i.args/\X (w.forCall tape i).memory i.args)/\sizedMet enc C.prog fn (OpenSpec.ofChange s) apart (w.forCall tape i).memory i.args)/\a.holds C.prog (lone (Frame.enter C.prog f i.args .normal) [] (w.forCall tape i)))
  (contract:∀(W:Wd) (base:Nat) (args:Array Value) (ds gs:List (DataW H)) (before:List MemPlace),
   (∀(j:Nat) t v,fn.params[j]?=some t->args[j]?=some v->Value.okWide C.prog W .any base t v) ->
   DataW.Whole enc C.prog fn.params.toList s.vars apart W args.toList ds gs before->X W args->W.ShapedOpen C.prog ->
   (∃ds gs before,DataW.Whole enc C.prog fn.params.toList (OpenSpec.ofChange s).vars apart W args.toList ds gs before/\∀n∈DataW.weightsEach C.prog (fn.params.toList++(OpenSpec.ofChange s).bare.plain.varTypes C.prog) (ds++gs),n<=reachBytes) ->
   Calls C.prog f args W fun e W'=>∃v,e = .returned v/\s.post enc C.prog fn apart fresh handsOn again W args v W') :
  ReturnsInHanded a C os f .any (fun w args=>(s.pre enc C.prog fn conds apart w args/\X w args)/\sizedMet enc C.prog fn (OpenSpec.ofChange s) apart w args) (s.post enc C.prog fn apart fresh handsOn again):=by
 refine returnsInHanded_of_calls own started noInit witness ?_;intro w tape i _ u _ l c k;obtain⟨_,_,_,m,d,_,_,_,_,h⟩:=l;have e:m=fn:=QV (d.symm.trans hfn);subst e;obtain⟨⟨⟨ds,gs,before,hw,hc⟩,hx⟩,hz⟩:=c;have r:=DataW.Whole.of_heap (w':=w.forCall tape i) (by rfl) hw;obtain⟨_,q,o,b,p,g⟩:=hz;refine(contract (w.forCall tape i) w.heap.size i.args ds gs before h r (hX _ _ _ (by rfl) hx) u ⟨q,o,b,DataW.Whole.of_heap (w':=w.forCall tape i) (by rfl) p,fun n z=>dT (Qa.1 g n z)⟩).mono fun e W' ⟨v,he,y⟩=>?_;subst he;exact ChangeSpec.post_blind y
section
variable{H:Type}{enc:TypeId×Value->H}{P:Program}{w:Wd}{base:Nat}{spare:Nat->Bool}{held:Bool}{fuel:Nat}{t:TypeId}{cs:List Value}{x:DataW H×List MemPlace}
def Wgt (P:Program) (t:TypeId) (d:DataW H):Prop:=∀n∈d.weights P t,n<=reachBytes
theorem zpy{ds:List (DataW H)}{e:TypeId}(h:∀n∈DataW.weightsAll P e ds,n<=reachBytes):∀d∈ds,Wgt P e d:=by
 induction ds with
 | nil=>intro d b;cases b
 | cons a r ih =>
  intro d b;simp only[DataW.weightsAll,QH] at h;rcases Ur.1 b with rfl | b
  ·exact fun n c=>h n (.inl c)
  ·exact ih (fun n c=>h n (.inr c)) d b
end
theorem zgb{H:Type}:∀{a b:List UInt8},a.map (fun b=>(DataW.lit (.int .u8 b.toNat):DataW H))=b.map (fun b=>DataW.lit (.int .u8 b.toNat))->a=b
 | [],[],_=>rfl
 | [],_::_,h=>by cases h
 | _::_,[],h=>by cases h
 | x::a,y::b,h=>by
  simp only[Uq,QB,DataW.lit.injEq,Lit.int.injEq,true_and] at h;rw[zgb h.2,QW.1 (by omega:x.toNat=y.toNat)]
section
variable{H:Type}{enc:TypeId×Value->H}{P:Program}{w:Wd}{base:Nat}{spare:Nat->Bool}{held:Bool}{fuel F:Nat}{t e:TypeId}{cs:List Value}{x:DataW H×List MemPlace}
def OpensW (enc:TypeId×Value->H) (P:Program) (w:Wd) (base:Nat) (spare:Nat->Bool) (held:Bool) (F:Nat) (t:TypeId) (R:List Value->Prop):Prop :=
 ∀n,n<F->∀cs x,DataW.trod enc P w base spare held n t cs=some x->Wgt P t x.1->R cs
theorem zay{R:List Value->Prop}(h:Opens enc P w base spare held t R):OpensW enc P w base spare held F t R:=fun n _ cs x a _=>h n cs x a
theorem OpensW.field{fs:Array Field}{R:List Value->Prop}(ht:P.underlying t=some (.struct fs))(h:DataW.trod enc P w base spare held fuel t cs=some x)(hw:Wgt P t x.1)(hF:fuel<=F){i:Nat}{f:Field}(hf:fs[i]?=some f){T o k:Nat}(hT:f.type=T)(hO:f.offset=o)(hk:P.cellsOf T=k)
  (ho:OpensW enc P w base spare held F T R):R ((cs.drop o).take k):=by
 subst hT hO hk;obtain⟨b,n,rfl,rfl,q,p,a⟩:=KD ht h;have g:=a i f hf;have c:i<b.length:=by rw[p];exact(Ji.1 hf).1
 rw[gE c] at g;refine ho n (by omega) _ _ g fun m l=>hw m ?_;simp only[DataW.weights,ht];refine DataW.weights_mem_each (j:=i) (t:=f.type) (d:=b[i].1) ?_ ?_ m l
 ·rw[KM];have:fs.toList[i]?=some f:=by simpa using hf
  rw[this];rfl
 ·rw[KM,gE c];rfl
theorem zf2(ht:P.underlying t=some .string):OpensW enc P w base spare held F t fun cs=>∃s:List UInt8,s.length<=140737488351232/\cs=[zJ s]:=fun n _ cs x h a=>by
 obtain⟨s,rfl,rfl,_⟩:=DataW.trod_string ht h;refine⟨s.data.toList,a _ (by simp[DataW.weights]),?_⟩;unfold zJ bs;rw[Array.toArray_toList]
theorem zbQ{β:Type}(i0:β){f:β->List Value}{Q:β->Prop}{sz:Nat}(hp:0<sz)(ht:P.underlying t=some (.slice e))(hc:P.cellsOf e=sz)(hb:Nat.ble 1 (P.bytesOf e)=true)(ho:OpensW enc P w base spare held F e fun cs=>∃b,Q b/\cs=f b) :
  OpensW enc P w base spare held (F+1) t fun cs=>∃(p:OA) (cap:Nat) (l:List β),cs=[.slice p l.length cap]/\(l.length<=140737488351232/\l.length*P.bytesOf e<=140737488351232)/\l.length<=cap/\(∀b∈l,Q b)/\∃b o,(l.length=0\/p=some ⟨b,o,none⟩)/\∀i (hi:i<l.length),b<w.heap.size/\zF w ⟨b,o+i*sz,none⟩ (f l[i]):=fun n hn cs x h hw=>by
 rcases DataW.trod_slice ht h with⟨rfl,_⟩ | ⟨a,len,cap,c,qA,n,rfl,rfl,hx,_,aa,ab,r,u,_,_⟩
 ·exact⟨none,0,[],rfl,⟨by simp,by simp⟩,by simp,by simp,0,0,.inl rfl,fun i hi=>by simp at hi⟩
 ·subst hx;have q:∀m,m∈((c.map (·.1)).length+(qA.map (·.1)).length)*P.bytesOf e::(DataW.weightsAll P e (c.map (·.1))++DataW.weightsAll P e (qA.map (·.1)))->m<=reachBytes:=fun m z=>by
   refine hw m ?_;simp only[DataW.weights,ht];exact z
  have hb:=JN hb;have v:len<=140737488351232/\len*P.bytesOf e<=140737488351232:=by
   have j:=q _ Ku;simp only[QD] at j;have:c.length*1<=(c.length+qA.length)*P.bytesOf e:=Ug (Qp _ _) hb;have g:c.length*P.bytesOf e<=(c.length+qA.length)*P.bytesOf e:=Ug (Qp _ _) (UN _);have hr:reachBytes=140737488351232:=rfl;rw[<- r];omega
  have k:∀i,i<len->∃m:β,Q m/\(a.add (i*sz)).spot=none/\(a.add (i*sz)).block<w.heap.size/\zF w ⟨(a.add (i*sz)).block,(a.add (i*sz)).off,none⟩ (f m):=fun i hi=>by
   have j:=u i hi;rw[hc,gE (by omega),Option.bind_eq_some_iff] at j;obtain⟨cs,g,h3⟩:=j;obtain⟨m,hq,rfl⟩:=ho n (by omega) _ _ h3 (zpy (ds:=c.map (·.1)) (fun m z=>q m (JR _ (List.mem_append_left _ z))) _ (Kg (gM _)));exact⟨m,hq,zin hp g⟩
  obtain⟨l,j,g⟩:=zlD i0 k;refine⟨some a,cap,l,by rw[j],by rw[j];exact v,by omega,fun b hb=>?_,a.block,a.off,?_,fun i hi=>?_⟩
  ·obtain⟨i,hi,rfl⟩:=Kd hb;exact(g i hi).1
  ·by_cases y:l.length=0
   ·exact .inl y
   ·right;have d:a.spot=none:=by
     have:=(g 0 (by omega)).2.1;simpa [Addr.add] using this
    obtain⟨b,o,s⟩:=a;dsimp only at d;subst d;rfl
  ·have d:a.spot=none:=by
    have:=(g 0 (by omega)).2.1;simpa [Addr.add] using this
   obtain⟨b,o,s⟩:=a;dsimp only at d;subst d;have:=(g i hi).2.2;rw[zjW] at this;exact this
end
section
variable{H:Type}{enc:TypeId×Value->H}{P:Program}{w:Wd}{base:Nat}{spare:Nat->Bool}{held:Bool}{fuel F:Nat}{t e:TypeId}{cs:List Value}{x:DataW H×List MemPlace}
theorem zet{α:Type}{E:Enc α}{p:OA}{l:List α}(h:∃b o,(l.length=0\/p=some ⟨b,o,none⟩)/\∀i (hi:i<l.length),b<w.heap.size/\zF w ⟨b,o+i*E.sz,none⟩ (E.enc l[i])):RowB E w.heap.size w p l:=by
 obtain⟨b,o,c,f⟩:=h;by_cases d:l=[]
 ·exact .inl d
 ·have a:0<l.length:=List.length_pos_iff.2 d;rcases c with c | rfl
  ·omega
  ·exact RowB.of_slr (.inr ⟨b,o,rfl,(f 0 a).1,fun i hi=>(f i hi).2⟩)
end
section
variable{H:Type}{enc:TypeId×Value->H}{w:Wd}{base:Nat}{spare:Nat->Bool}{held:Bool}{F:Nat}
theorem zhe:Opens enc PG w base spare held 66 fun cs=>∃(r:Bool) (n:UInt8),cs=[.bool r,u8 n]:=fun fuel cs x h=>by
 obtain⟨p,m,rfl,rfl,c,b,a⟩:=KD Tryz.underlying66 h;rw[cC 66 2 (by kernel_rfl)] at c;obtain⟨k,j⟩:=Opens.field (o:=0) (i:=0) a b rfl rfl zsv (zkw Tryz.underlying4);obtain⟨f,d⟩:=Opens.field (o:=1) (i:=1) a b rfl rfl zae (je Tryz.underlying5);refine⟨k,f,?_⟩;have l:cs=cs.drop 0:=rfl;have g:cs.drop 2=[]:=Jw (by omega);rw[l,cut cs 0 1 1 rfl,cut cs 1 1 2 rfl,j,d,g];rfl
theorem zmy:Opens enc PG w base spare held 68 fun cs=>∃x:InsD,True/\cs=zS.enc x:=fun fuel cs x h=>by
 obtain⟨xs,m,rfl,rfl,hl,b,a⟩:=KD Tryz.underlying68 h;rw[cC 68 10 (by kernel_rfl)] at hl;obtain⟨z,q⟩:=Opens.field (o:=0) (i:=0) a b rfl rfl zae (je Tryz.underlying5);obtain⟨c,y⟩:=Opens.field (o:=1) (i:=1) a b rfl rfl zae (je Tryz.underlying5);obtain⟨s,f⟩:=Opens.field (o:=2) (i:=2) a b rfl rfl zae (je Tryz.underlying5);obtain⟨r3,j,n⟩:=Opens.field (o:=3) (i:=3) a b rfl rfl (cC 66 2 (by kernel_rfl)) zhe;obtain⟨g,u,e4⟩:=Opens.field (o:=5) (i:=4) a b rfl rfl (cC 66 2 (by kernel_rfl)) zhe;obtain⟨d,l⟩:=Opens.field (o:=7) (i:=5) a b rfl rfl zae (je Tryz.underlying5);obtain⟨k,e6⟩:=Opens.field (o:=8) (i:=6) a b rfl rfl zae (je Tryz.underlying5);obtain⟨v,r⟩:=Opens.field (o:=9) (i:=7) a b rfl rfl zae (je Tryz.underlying5);refine⟨⟨z,c,s,r3,j,g,u,d,k,v⟩,trivial,?_⟩;have h0:cs=cs.drop 0:=rfl;have p:cs.drop 10=[]:=Jw (by omega);rw[h0,cut cs 0 1 1 rfl,cut cs 1 1 2 rfl,cut cs 2 1 3 rfl,cut cs 3 2 5 rfl,cut cs 5 2 7 rfl,cut cs 7 1 8 rfl,cut cs 8 1 9 rfl,cut cs 9 1 10 rfl,q,y,f,n,e4,l,e6,r,p];rfl
theorem zkx:OpensW enc PG w base spare held F 64 fun cs=>∃x:zk6,(x.1.length<=140737488351232/\RowB zS w.heap.size w x.2.1 x.1)/\cs=znD.enc x:=fun n i cs x h c=>by
 obtain⟨p,a,l,g,d,_,_,b⟩:=zbQ (F:=n) (⟨0,0,0,false,0,false,0,0,0,0⟩:InsD) (f:=zS.enc) (Q:=fun _=>True) (sz:=10) (by decide) Tryz.underlying64 (by kernel_rfl) (by kernel_rfl) (zay zmy) n (Qr n) cs x h c;exact⟨(l,p,a),⟨d.1,zet b⟩,g⟩
theorem zf3:∀F,OpensW enc PG w base spare held F 27 fun cs=>∃x:Cnd×OA×Nat,KidsV w.heap.size w x.2.1 x.1.kids/\cs=zu x.1 x.2.1 x.2.2
 | 0=>fun n r=>Ge r (Nat.not_lt_zero _)
 | F+1=>fun n r cs x h d=>by
  have ih:=zf3 F;have c:n<=F+1:=by omega
  have j:cs.length=5:=by
   obtain⟨xs,m,_,_,j,_,_⟩:=KD Tryz.underlying27 h;rw[cC 27 5 (by kernel_rfl)] at j;exact j
  obtain⟨b0,e0⟩:=OpensW.field (F:=F+1) (o:=0) (i:=0) Tryz.underlying27 h d c rfl rfl rfl zae (zay (je Tryz.underlying5));obtain⟨u,e1⟩:=OpensW.field (F:=F+1) (o:=1) (i:=1) Tryz.underlying27 h d c rfl rfl rfl zae (zay (je Tryz.underlying5));obtain⟨b2,v⟩:=OpensW.field (F:=F+1) (o:=2) (i:=2) Tryz.underlying27 h d c rfl rfl rfl zae (zay (je Tryz.underlying5));obtain⟨s,z⟩:=OpensW.field (F:=F+1) (o:=3) (i:=3) Tryz.underlying27 h d c rfl rfl rfl zae (zay (je Tryz.underlying5));obtain⟨p,k,l,e4,q,_,hQ,b,o,y,hc⟩:=OpensW.field (F:=F+1) (o:=4) (i:=4) Tryz.underlying27 h d c rfl rfl rfl (cC 25 1 (by kernel_rfl))
   (zbQ (F:=F) ((.mk 0 0 0 0 [],none,0):Cnd×OA×Nat) (f:=fun x=>zu x.1 x.2.1 x.2.2) (Q:=fun x=>KidsV w.heap.size w x.2.1 x.1.kids) (sz:=5) (by decide) Tryz.underlying25 (by kernel_rfl) (by kernel_rfl) ih)
  refine⟨(.mk b0 u b2 s (l.map (·.1)),p,k),?_,?_⟩
  ·refine .mk p (l.map (·.1)) (by rw[QD];have:=q.2;rw[show Tryz.prog.bytesOf 27=32 by kernel_rfl] at this;exact this) b o (by rw[QD];exact y) (fun i=>(l.getD i (.mk 0 0 0 0 [],none,0)).2.1) (fun i=>(l.getD i (.mk 0 0 0 0 [],none,0)).2.2) (fun i g=>?_) (fun i g=>?_)
   ·have a:i<l.length:=(by rw[QD] at g;exact g);have e:l.getD i (.mk 0 0 0 0 [],none,0)=l[i]:=(by rw[gDe,gE a];rfl);rw[e,Qh];exact hc i a
   ·have a:i<l.length:=(by rw[QD] at g;exact g);have e:l.getD i (.mk 0 0 0 0 [],none,0)=l[i]:=(by rw[gDe,gE a];rfl);rw[e,Qh];exact hQ _ (gM a)
  ·have h0:cs=cs.drop 0:=rfl;have h9:cs.drop 5=[]:=Jw (by omega);rw[h0,cut cs 0 1 1 rfl,cut cs 1 1 2 rfl,cut cs 2 1 3 rfl,cut cs 3 1 4 rfl,cut cs 4 1 5 rfl,e0,e1,v,z,e4,h9];simp[zu,Cnd.kind,Cnd.thread,Cnd.n,Cnd.val,Cnd.kids]
end
section
variable{H:Type}{enc:TypeId×Value->H}{w:Wd}{base:Nat}{spare:Nat->Bool}{held:Bool}{F:Nat}
theorem zi2:OpensW enc PG w base spare held F 29 fun cs=>∃p:Prg,PrgX w.heap.size w cs p/\∃p3 c3,cs[3]?=some (.slice p3 p.threads.length c3)/\p.threads.length<=c3:=fun n hn cs x h k=>by
 have g:n<=n+1:=Nat.le_succ n;have d:cs.length=10:=by
  obtain⟨xs,m,_,_,d,_,_⟩:=KD Tryz.underlying29 h;rw[cC 29 10 (by kernel_rfl)] at d;exact d
 obtain⟨nm,k0,e0⟩:=OpensW.field (F:=n+1) (o:=0) (i:=0) Tryz.underlying29 h k g rfl rfl rfl (cC 9 1 (by kernel_rfl)) (zf2 Tryz.underlying9);obtain⟨p1,c1,l1,e1,k1,y,q1,r1⟩:=OpensW.field (F:=n+1) (o:=1) (i:=1) Tryz.underlying29 h k g rfl rfl rfl (cC 22 1 (by kernel_rfl))
  (zbQ (F:=n) ([]:List UInt8) (f:=zeD.enc) (Q:=fun s=>s.length<=140737488351232) (sz:=1) (by decide) Tryz.underlying22 (by kernel_rfl) (by kernel_rfl) (zf2 Tryz.underlying9))
 obtain⟨p2,c2,l2,e2,k2,ab,q2,r2⟩:=OpensW.field (F:=n+1) (o:=2) (i:=2) Tryz.underlying29 h k g rfl rfl rfl (cC 23 1 (by kernel_rfl))
  (zbQ (F:=n) (0:UInt8) (f:=zN.enc) (Q:=fun _=>True) (sz:=1) (by decide) Tryz.underlying23 zae (by kernel_rfl) (zay (fun r cs x h=>by
   obtain⟨b,z⟩:=je Tryz.underlying5 r cs x h;exact⟨b,trivial,z⟩)))
 obtain⟨p3,c3,u,e3,k3,v,t,r3⟩:=OpensW.field (F:=n+1) (o:=3) (i:=3) Tryz.underlying29 h k g rfl rfl rfl (cC 24 1 (by kernel_rfl))
  (zbQ (F:=n) (([],none,0):zk6) (f:=znD.enc) (Q:=fun x=>x.1.length<=140737488351232/\RowB zS w.heap.size w x.2.1 x.1) (sz:=1) (by decide) Tryz.underlying24 (by kernel_rfl) (by kernel_rfl) zkx)
 obtain⟨b4,e4⟩:=OpensW.field (F:=n+1) (o:=4) (i:=4) Tryz.underlying29 h k g rfl rfl rfl zae (zay (je Tryz.underlying5));obtain⟨⟨c,p4,c4⟩,hk,e5⟩:=OpensW.field (F:=n+1) (o:=5) (i:=5) Tryz.underlying29 h k g rfl rfl rfl (cC 27 5 (by kernel_rfl)) (zf3 (n+1));have q:cs[3]?=some (.slice p3 (u.map (·.1)).length c3):=by
  have:=UY (fun l=>l[0]?) e3;simpa using this
 refine⟨⟨nm,l1,l2,u.map (·.1),b4,c⟩,⟨⟨⟨k0,k1.1,q1,k2.1,by rw[QD];exact k3.1,fun l d=>?_⟩,p1,c1,p2,c2,p3,c3,p4,c4,?_,zet r1,zet r2,⟨u,rfl,zet r3,fun x j=>(t x j).2⟩,hk,y⟩,⟨p3,c3,q,u,rfl,zet r3,fun x j=>⟨(t x j).2,fun aa a ha=>?_⟩⟩,⟨p2,c2,?_,zet r2⟩⟩,p3,c3,q,by rw[QD];exact v⟩
 ·obtain⟨x,j,rfl⟩:=Uz.1 d;exact(t x j).1
 ·have h0:cs=cs.drop 0:=rfl;have h9:cs.drop 10=[]:=Jw (by omega);rw[h0,cut cs 0 1 1 rfl,cut cs 1 1 2 rfl,cut cs 2 1 3 rfl,cut cs 3 1 4 rfl,cut cs 4 1 5 rfl,cut cs 5 5 10 rfl,e0,e1,e2,e3,e4,e5,h9];simp[jC,zu]
 ·have d:=List.length_pos_iff.2 aa;obtain⟨b,o,e,z,_⟩:=zhT (t x j).2 d;rw[ha] at e;obtain rfl:=QV e;exact z
 ·have:=UY (fun l=>l[0]?) e2;simpa using this
theorem zmA{a:Array Value}{d:DataW H}{p:List MemPlace}(h:DataW.Trod enc PG w base spare held 29 (.agg a) d p)(hw:Wgt PG 29 d):∃p:Prg,PrgX w.heap.size w a.toList p/\∃p3 c3,a.toList[3]?=some (.slice p3 p.threads.length c3)/\p.threads.length<=c3:=by
 obtain⟨b,h⟩:=h;exact zi2 (F:=b+1) b (Qr _) _ _ h hw
theorem zmB{a:Array Value}{d:DataW H}{p:List MemPlace}(h:DataW.Trod enc PG w base spare held 29 (.agg a) d p)(hw:Wgt PG 29 d):∃p:Prg,PrgX w.heap.size w a.toList p:=by
 obtain⟨p,h,_⟩:=zmA h hw;exact⟨p,h⟩
end
theorem zjd{α:Type}(d:α)(f:α->Value)(n:Nat)(l:List α)(h:l.length=n):l.map f=(List.range n).map fun i=>f (l.getD i d):=by
 apply KI;intro i;rw[KM,KM];by_cases a:i<n
 ·rw[Kc a,gE (by omega),QU,QU,gDe,gE (by omega)];rfl
 ·rw[JE (by omega),JE (by rw[KN];omega)];rfl
theorem flatMap_map{α:Type}(f:α->Value):∀l:List (List α),l.flatMap (fun x=>x.map f)=l.flatten.map f
 | []=>rfl
 | a::l=>by rw [KK,flatMap_map f l,List.flatten_cons,QG]
section
variable{H:Type}{enc:TypeId×Value->H}{w:Wd}{base:Nat}{spare:Nat->Bool}{held:Bool}
theorem zi1:Opens enc PG w base spare held 52 fun cs=>∃(f g:Nat->UInt8),cs=seg 32 (fun i=>u8 (f i))++seg 6 (fun i=>u8 (g i)):=fun q cs x h=>by
 obtain⟨xs,m,rfl,rfl,t,p,j⟩:=KD Tryz.underlying52 h;rw[cC 52 38 (by kernel_rfl)] at t;have row:Opens enc PG w base spare held 48 fun cs=>∃bs:List UInt8,bs.length=8/\cs=bs.map u8:=zhd Tryz.underlying48 Tryz.underlying5 zae (cC 48 8 (by kernel_rfl));obtain⟨e,y,k,z⟩:=Opens.field (o:=0) (i:=0) j p rfl rfl (cC 49 32 (by kernel_rfl)) (zmz (β:=List UInt8) [] (f:=fun bs=>bs.map u8) (Q:=fun bs=>bs.length=8) (n:=4) (sz:=8) Tryz.underlying49 (by kernel_rfl) (by kernel_rfl) row);obtain⟨r,s,u⟩:=Opens.field (o:=32) (i:=1) j p rfl rfl (cC 50 6 (by kernel_rfl)) (zhd Tryz.underlying50 Tryz.underlying5 zae (cC 50 6 (by kernel_rfl)));have l:e.flatten.length=32:=by
  match e,y with
  | [a,b,c,d],_ =>
   have:=k a (by simp);have:=k b (by simp);have:=k c (by simp);have:=k d (by simp);simp only[List.flatten_cons,List.flatten_nil,lap,QE];omega
 refine⟨fun i=>e.flatten.getD i 0,fun i=>r.getD i 0,?_⟩;have h0:cs=cs.drop 0:=rfl;have v:cs.drop 38=[]:=Jw (by omega);rw[h0,cut cs 0 32 32 rfl,cut cs 32 6 38 rfl,z,u,v,flatMap_map,zjd 0 u8 32 _ l,zjd 0 u8 6 r s,QA];rfl
end
section
variable{H:Type}{enc:TypeId×Value->H}{w:Wd}{base:Nat}{spare:Nat->Bool}{held:Bool}
theorem zi3{a:Array Value}{d:DataW H}{p:List MemPlace}(h:DataW.Trod enc PG w base spare held 52 (.agg a) d p):∃F:FinV,Value.agg a=qT F:=by
 obtain⟨b,h⟩:=h;obtain⟨f,g,c⟩:=zi1 _ _ _ h;have:a.toList=zA.enc (zoG f g):=c.trans (zec f g).symm;exact⟨zoG f g,by rw[qT,<- this]⟩
end
structure GlobVQ (W:Wd):Prop where
 t32:Tz32M W
 t64:Tz64M W
 pow : Lib.TabIs PG W "internal/strconv.uint64pow10" .u64 Lib.pow10Tab
 acc:True
 erng:True
 esyn:True
 needs:GlobC W
 u8f:True
 max:∃m,W.cell? ⟨0,0,none⟩=some (.int .i64 m)
abbrev zaa : List (String × DataW Unit) := [("math/bits.deBruijn32tab", Rows.laid_math_bits_deBruijn32tab), ("math/bits.deBruijn64tab", Rows.laid_math_bits_deBruijn64tab), ("internal/strconv.uint64pow10", Rows.laid_internal_strconv_uint64pow10), ("unicode/utf8.acceptRanges", Rows.laid_unicode_utf8_acceptRanges), ("strconv.ErrRange", Rows.laid_strconv_ErrRange), ("strconv.ErrSyntax", Rows.laid_strconv_ErrSyntax), ("seisin/check.needs", Rows.laid_seisin_check_needs), ("unicode/utf8.first", Rows.laid_unicode_utf8_first)]
theorem jE{W:Wd}(h:laidMetH PG zaa W)(hsh:W.ShapedOpen PG):GlobVQ W:=by
 have h0:laidMet PG zaa W:=h;have h1:=h0.tail;have h2:=h1.tail;have h3:=h2.tail;have h4:=h3.tail;have h5:=h4.tail;have h6:=h5.tail;have h7:=h6.tail;have t32:Tz32M W:=by
  obtain⟨ps,⟨g',t',cs,fuel,p,q,hg',ht',hv,hd,_,_⟩,_⟩:=h0
  obtain rfl := QV ((show Tryz.prog.globalNamed "math/bits.deBruijn32tab" = some 8 by kernel_rfl).symm.trans hg')
  obtain rfl:=QV ((show(Tryz.prog.globals[8]?).map (·.type)=some 399 by kernel_rfl).symm.trans ht');obtain⟨bs,h1,h2,h3⟩:=zdW Tryz.underlying399 Tryz.underlying5 (by kernel_rfl) (by kernel_rfl) hd;have hbs:bs=zgZ:=by
   have e:(Rows.laid_math_bits_deBruijn32tab:DataW Unit) = .agg (zgZ.map fun b => .lit (.int .u8 b.toNat)):=rfl;exact zgb (DataW.agg.inj (h3.symm.trans e))
  subst hbs;refine jF fun i v hvv=>?_;have hc:=World.var?_cell hg' hv i;rw[<- hvv,<- h2];simpa using hc
 have t64:Tz64M W:=by
  obtain⟨ps,⟨g',t',cs,fuel,p,q,hg',ht',hv,hd,_,_⟩,_⟩:=h1
  obtain rfl := QV ((show Tryz.prog.globalNamed "math/bits.deBruijn64tab" = some 7 by kernel_rfl).symm.trans hg')
  obtain rfl:=QV ((show(Tryz.prog.globals[7]?).map (·.type)=some 393 by kernel_rfl).symm.trans ht');obtain⟨bs,h1,h2,h3⟩:=zdW Tryz.underlying393 Tryz.underlying5 (by kernel_rfl) (by kernel_rfl) hd;have hbs:bs=zgY:=by
   have e:(Rows.laid_math_bits_deBruijn64tab:DataW Unit) = .agg (zgY.map fun b => .lit (.int .u8 b.toNat)):=rfl;exact zgb (DataW.agg.inj (h3.symm.trans e))
  subst hbs;refine jF fun i v hvv=>?_;have hc:=World.var?_cell hg' hv i;rw[<- hvv,<- h2];simpa using hc
 have pow : Lib.TabIs PG W "internal/strconv.uint64pow10" .u64 Lib.pow10Tab :=
  Lib.tabIs_of_head (g:=4) (by kernel_rfl) (by kernel_rfl) Tryz.underlying387 Tryz.underlying59 (by kernel_rfl) (by kernel_rfl) h2
 have acc:True:=trivial;have erng:True:=trivial;have esyn:True:=trivial;have needs:GlobC W:=by
  obtain⟨ps,⟨g',t',cs,fuel,p,q,hg',ht',hv,hd,_,_⟩,_⟩:=h6
  obtain rfl := QV ((show Tryz.prog.globalNamed "seisin/check.needs" = some 3 by kernel_rfl).symm.trans hg')
  obtain rfl:=QV ((show(Tryz.prog.globals[3]?).map (·.type)=some 385 by kernel_rfl).symm.trans ht');obtain⟨bs,h1,h2,h3⟩:=zdW Tryz.underlying385 Tryz.underlying5 (by kernel_rfl) (by kernel_rfl) hd;have hbs:bs=zdZ:=by
   match bs,h1 with
   | [b0,b1,b2,b3,b4,b5,b6,b7,b8],_ =>
    simp only[Rows.laid_seisin_check_needs,Uq,Ux,DataW.agg.injEq,QB,DataW.lit.injEq,Lit.int.injEq,true_and,UX] at h3;simp only[zdZ,QB,UX];obtain⟨a0,a1,a2,a3,a4,a5,a6,a7,a8⟩:=h3;refine⟨?_,?_,?_,?_,?_,?_,?_,?_,?_⟩ <;> (apply QW.1;simp;omega)
  subst hbs;refine jF fun i v hvv=>?_;have hc:=World.var?_cell hg' hv i;rw[<- hvv,<- h2];simpa using hc
 have u8f:True:=trivial;have max:∃m,W.cell? ⟨0,0,none⟩=some (.int .i64 m) :=
  cell_of_shapedOpen_int (zero := #[.int .i64 0]) (t:=3) hsh (dT (by kernel_rfl)) (by kernel_rfl) rfl (by kernel_rfl) (by kernel_rfl) Tryz.underlying3
 exact⟨t32,t64,pow,acc,erng,esyn,needs,u8f,max⟩
def zoo:DataW Unit->List Value
 | .lit (.int k n)=>[.int k n]
 | .lit (.string s)=>[.string ⟨s.toArray⟩]
 | _=>[]
def zkF:DataW Unit->List Value
 | .agg ps=>ps.flatMap zoo
 | x=>zoo x
def zeF:DataW Unit->List Value
 | .agg ps=>ps.flatMap zkF
 | x=>zkF x
def zcr (h:Array Obj) (g:Nat) (cs:List Value):Array Obj:=h.modify g fun
 | .cells _ t frozen => .cells cs.toArray t frozen
 | o=>o
def zhu:DataW Unit->List Value
 | .iface _ (.ptr (.agg ps))=>ps.flatMap zkF
 | _=>[]
def zrV (h:Array Obj):Array Obj :=
 let h1:=zcr h 8 (zeF Rows.laid_math_bits_deBruijn32tab)
 let h2:=zcr h1 7 (zeF Rows.laid_math_bits_deBruijn64tab)
 let h3:=zcr h2 4 (zeF Rows.laid_internal_strconv_uint64pow10)
 let h4:=zcr h3 6 (zeF Rows.laid_unicode_utf8_acceptRanges)
 let h5:=zcr h4 2 [.iface 348 (.pointer (some ⟨h.size+0,0,none⟩))]
 let h6:=zcr h5 1 [.iface 348 (.pointer (some ⟨h.size+1,0,none⟩))]
 let h7:=zcr h6 3 (zeF Rows.laid_seisin_check_needs)
 ((zcr h7 5 (zeF Rows.laid_unicode_utf8_first)).push (.cells (zhu Rows.laid_strconv_ErrRange).toArray 350)).push (.cells (zhu Rows.laid_strconv_ErrSyntax).toArray 350)
noncomputable def ze4 (os:Os):Wd :=
 { World.holding PG os ⟨#[],#[],[]⟩ with heap:=zrV (World.holding PG os ⟨#[],#[],[]⟩).heap }
theorem zfi(os:Os)(args:Array Value):laidMetH PG zaa ((ze4 os).forCall (fun _ _=>0) ⟨#[],args,[]⟩).memory:=by
 show laidMet PG zaa _;exact laidMet_of_run' 8 (by kernel_rfl) (by kernel_rfl)
end Go.Proofs.YtakcdebpklffiaaGreatDoor
