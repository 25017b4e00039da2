/- Contracts of functions, and plain facts, for the law that the last text of this claim proves. -/
import Derived.Test.YtpalcnbhkigagaaGreatDoorB5
import Derived.Test.YtpalcnbhkigagaaGreatDoorB3
import Derived.Test.YtpalcnbhkigagaaGreatDoorB4
import Derived.Test.YtpalcnbhkigagaaGreatDoorB1
import Derived.Test.YtpalcnbhkigagaaGreatDoorRows
import Derived.ProofKit
import Derived.OpenShut
import Derived.LaidLaws
import Derived.Below
import Derived.HandedShaped
import Derived.KernelRfl
import Derived.WalkKit
import Derived.ChangeOld
import Derived.SevenTiedAt
import Derived.LaidHandle
import Derived.Stop.LaidErr
import Derived.Lib.LaidTab
import Derived.SizedLaws
import Derived.Test.YtpalcnbhkigagaaGreatDoorB2
set_option linter.unusedSimpArgs false
set_option linter.unusedVariables false
namespace Go.Proofs.YtpalcnbhkigagaaGreatDoor
open Go.Vc Go.RowKit Go.Sei
theorem zqZ:∃ G,TyEq PG 51 true 6 2 G/\∀ f:Nat->UInt8,G (seg 6 fun i=>u8 (f i)):=by
 refine⟨_,.array (m:=6) (by decide) Tryz.underlying51 (fun w=>Tryz.isAgg51 w) (qr (by kernel_rfl) (by kernel_rfl)).1 (by kernel_rfl) tU8,fun f i hi=>⟨((f i).toNat:Int),?_⟩⟩;unfold zR;have h:=zaZ (n:=6) (fun i=>u8 (f i)) hi;rw [UT];have hl:i<(seg 6 fun i=>u8 (f i)).length:=by rw [zt];exact hi
 rw [<- JD hl,List.take_succ_cons,Um];rw [gE hl] at h;rw [Uc h];rfl
theorem zne {f g:Nat->UInt8}:seg 6 (fun i=>u8 (f i))=seg 6 (fun i=>u8 (g i))↔((List.range 6).all fun l=>decide (f l=g l))=true:=by
 rw [Qh];constructor
 ·intro h i hi;have hi:=Ul.1 hi;have h3:=zaZ (n:=6) (fun i=>u8 (f i)) hi;rw [h,zaZ (n:=6) (fun i=>u8 (g i)) hi] at h3;have h4:=Uc h3;unfold u8 at h4;injection h4 with _ h5;exact Up (qV.1 h5).symm
 ·intro h;unfold seg;refine Kj fun i hi=>?_;rw [dT (h i hi)]
theorem znB (x y:Operand) (f g:Nat->UInt8) (w:Wd):(do eqGuard .eql 51 x y (.agg (seg 6 fun i=>u8 (f i)).toArray) (.agg (seg 6 fun i=>u8 (g i)).toArray);binOp .eql 51 (.agg (seg 6 fun i=>u8 (f i)).toArray) (.agg (seg 6 fun i=>u8 (g i)).toArray)).run PG w = .ok (.bool ((List.range 6).all fun l=>decide (f l=g l))) w:=by
 obtain⟨G,h1,h2⟩:=zqZ;have:=zhF h1 9998 rfl (by kernel_rfl) (zt 6 _) (zt 6 _) (h2 f) (h2 g) x y w;rw [this,zcv zne,Ke]
section
variable {b c L g cap:Nat} {x:ExD} {q:OA} {w:Wd} {l:List Nat}
theorem zia {B:Nat} (ho:OwnS zu 3 B w (some ⟨g,0,none⟩) cap l) (fx:ExH w b x q c) (fL:w.heap[L]?=some (.cells #[At0 b] 100 (0,0))) (hT:Tz64M w) (htg:1≠g) (hco:zP x.co.to) (h48:∀ a∈l,a<48) (hn:l.length<=19) (hn1:1<=l.length) :
  Calls PG 85 #[.slice (some ⟨g,0,none⟩) l.length cap,i64 l.length,.func (.func 55) #[] #[At0 L]] w fun e w'=>e = .returned (.tuple #[])/\OwnS zu 3 B w' (some ⟨g,0,none⟩) cap (zcf (za9 x) l)/\w.grownBy w' (some g):=by
 refine zD 63 [.slice (some ⟨g,0,none⟩) l.length cap,i64 l.length,.func (.func 55) #[] #[At0 L]] Tryz.func85 ?_;refine⟨Unit,fun _=>⟨[(0,.slice (some ⟨g,0,none⟩) l.length cap),(1,i64 l.length),(2,.func (.func 55) #[] #[At0 L]),(6,i64 20),(7,i64 0),(8,i64 20)],[]⟩,fun _ X=>w=X,fun _=>0,(),(cvE rfl rfl),rfl,?_⟩;rintro _ _ rfl;refine brN (Ue (by omega)) (cmo (zfI ho fx fL hT htg hco h48 (by omega) hn1) ?_);rintro e X ⟨rfl,oX,gX⟩;refine⟨Unit,fun _=>⟨[(1,i64 l.length),(6,i64 20)],[]⟩,fun _ Y=>X=Y,fun _=>0,(),(cvE rfl rfl),rfl,?_⟩;rintro _ _ rfl;exact brN (Ue (by omega)) ⟨rfl,oX,gX⟩
theorem zjV {q:OA} {n m:Nat} (hm:m<=1000):Calls PG 115 #[.slice q n cap,i64 (m:Nat),i64 (m:Nat),.func (.func 55) #[] #[At0 L]] w fun e w'=>e = .returned (.tuple #[])/\w=w':=by
 refine zD 53 [.slice q n cap,i64 (m:Nat),i64 (m:Nat),.func (.func 55) #[] #[At0 L]] Tryz.func115 ?_;refine nxI (by omega) ⟨Unit,fun _=>⟨[(2,i64 (m:Nat)),(8,i64 ((m+1:Nat):Int))],[]⟩,fun _ X=>w=X,fun _=>0,(),(cvE rfl rfl),rfl,?_⟩;rintro _ _ rfl;exact brN (Ue (by omega)) ⟨rfl,rfl⟩
theorem zls {B:Nat} (ho:OwnS zu 3 B w (some ⟨g,0,none⟩) cap l) (fx:ExH w b x q c) (fL:w.heap[L]?=some (.cells #[At0 b] 100 (0,0))) (hT:Tz64M w) (htg:1≠g) (hco:zP x.co.to) (h48:∀ a∈l,a<48) (hn:l.length<=20) (hn1:1<=l.length) :
  Calls PG 85 #[.slice (some ⟨g,0,none⟩) l.length cap,i64 l.length,.func (.func 55) #[] #[At0 L]] w fun e w'=>e = .returned (.tuple #[])/\OwnS zu 3 B w' (some ⟨g,0,none⟩) cap (zcf (za9 x) l)/\w.grownBy w' (some g):=by
 by_cases h19:l.length<=19
 ·exact zia ho fx fL hT htg hco h48 h19 hn1
 have hn20:l.length=20:=by omega
 refine zD 63 [.slice (some ⟨g,0,none⟩) l.length cap,i64 l.length,.func (.func 55) #[] #[At0 L]] Tryz.func85 ?_;refine⟨Bool,fun k=>⟨[(0,.slice (some ⟨g,0,none⟩) l.length cap),(1,i64 l.length),(2,.func (.func 55) #[] #[At0 L]),(6,i64 20),(7,i64 (if k=true then (0:Nat) else l.length:Nat)),(8,i64 (if k=true then l.length else 40:Nat))],[]⟩,fun k X=>(k=true/\w=X)\/(k=false/\OwnS zu 3 B X (some ⟨g,0,none⟩) cap (zcf (za9 x) l)/\w.grownBy X (some g)),fun k=>if k=true then 1 else 0,true,⟨.cons rfl (.cons rfl (.cons rfl (.cons rfl (.cons rfl (.cons (by rw [hn20];rfl) .nil))))),rfl⟩,.inl ⟨rfl,rfl⟩,?_⟩;rintro k X (⟨rfl,rfl⟩ | ⟨rfl,oX,gX⟩)
 ·refine brE (Up (by show ((l.length:Nat):Int)<=(l.length:Int);omega)) (cmo (zfI ho fx fL hT htg hco h48 hn hn1) ?_);rintro e X ⟨rfl,oX,gX⟩;refine⟨40,by rw [hn20];rfl,?_⟩;exact⟨false,(cvE rfl rfl),.inr ⟨rfl,oX,gX⟩,by decide⟩
 ·refine brN (Ue (by show ¬ ((40:Nat):Int)<=(l.length:Int);omega)) (cmo (zjV (m:=l.length) (by omega)) ?_);rintro e _ ⟨rfl,rfl⟩;refine⟨Unit,fun _=>⟨[(1,i64 l.length),(6,i64 20)],[]⟩,fun _ Y=>X=Y,fun _=>0,(),(cvE rfl rfl),rfl,?_⟩;rintro _ _ rfl;exact brN (Ue (by omega)) ⟨rfl,oX,gX⟩
theorem zgj {B:Nat} (ho:OwnS zu 3 B w (some ⟨g,0,none⟩) cap l) (fx:ExH w b x q c) (fL:w.heap[L]?=some (.cells #[At0 b] 100 (0,0))) (hT:Tz64M w) (htg:1≠g) (hco:zP x.co.to) (h48:∀ a∈l,a<48) (hn:l.length<=20) (hn1:1<=l.length) :
  Calls PG 54 #[.slice (some ⟨g,0,none⟩) l.length cap,.func (.func 55) #[] #[At0 L]] w fun e w'=>e = .returned (.tuple #[])/\OwnS zu 3 B w' (some ⟨g,0,none⟩) cap (zcf (za9 x) l)/\w.grownBy w' (some g):=by
 refine zD 9 [.slice (some ⟨g,0,none⟩) l.length cap,.func (.func 55) #[] #[At0 L]] Tryz.func54 ?_;refine cmo (zls ho fx fL hT htg hco h48 hn hn1) ?_;rintro e X ⟨rfl,h1,h2⟩;exact⟨rfl,h1,h2⟩
theorem zlZ {l:List Nat} (h:0<l.length):l.headD 48=l[0]:=by
 cases l with
 | nil=>simp at h
 | cons a r=>rfl
theorem zmm {k a:Nat} (h:a∈qo x k):a<x.ev.length:=by
 unfold qo at h;exact Ul.1 (QQ.1 h).1
theorem zkA {k a:Nat} (h:a∈zM x k):a<x.ev.length:=zmm (zgt.1 h)
theorem zqh (q:OA) (c:Nat):((exC x q c).drop 99).take 49=zi x.co:=by
 obtain⟨A,T,hA,hE⟩:=zhE x q c;show ((exC { x with co:=x.co } q c).drop 99).take 49=_;rw [hE,<- hA,Ui,Jf (by rw [zj];decide),JE (by rw [zj];decide)]
theorem zk0 (q:OA) (c:Nat):((exC x q c).drop 327).take 6=seg 6 fun i=>u8 (x.mem i):=by
 obtain⟨A,T,hA,hE⟩:=znv x q c [];have:=hE x.mem;rw [QH] at this;show ((exC { x with mem:=x.mem } q c).drop 327).take 6=_;rw [this,<- hA,Ui,Jf (by rw [zt];decide),JE (by rw [zt];decide)]
abbrev zn8 (X:Wd) (b:Nat) (f:Nat->UInt8):Prop:=X.heap[b]?=some (.cells (seg 6 fun i=>u8 (f i)).toArray 51 (0,0))
theorem zl7 {locs:Nat} (fx:ExH w b x q c) (hv:ExW w x q) (hlo:locs<=6) (hne:∀ l,l<locs->qo x l≠[]) (hT:Tz64M w) :
  CB 34 #[At0 b,i64 locs] w (.bool (jY x locs)):=by
 refine qP 87 [At0 b,i64 locs] (.c .p (.c .p (.c .p (.c .p .p)))) Tryz.func34 ?_;obtain⟨L,hL⟩:=nm (w.heap.size);have hbw:=hlt fx;have hn:=hv.n;have htl:=zac hT;refine⟨Unit,fun _=>⟨[(1,i64 locs),(2,At0 L)],[]⟩,fun _ X=>X.heap[L]?=some (.cells #[At0 b] 100 (0,0))/\X.heap.size=L+1/\Bw w X,⟨(),⟨.cons rfl (.cons (by rw [hL];rfl) .nil),rfl⟩,by rw [hL];exact zx w _,by rw [hL];exact wz _ _,(zba w _)⟩,?_⟩;rintro _ X ⟨fL,sX,hbX⟩;refine⟨Unit,fun _=>⟨[(1,i64 locs),(2,At0 L),(5,At0 (L+1))],[]⟩,fun _ Y=>zaz Y (L+1) ⟨x.ev.length,fun _=>0⟩/\Y.heap.size=L+2/\Bw X Y,?_,?_⟩
 ·refine⟨_,zc (za fL) (i:=0) rfl,_,zc (za (zb hbX fx)) (i:=0) rfl,zi ⟨x.ev.length,fun _=>0⟩,by kernel_rfl,?_⟩;refine zm (X:=X) (v := .agg (zi ⟨x.ev.length,fun _=>0⟩).toArray) k48 (zj _) (by kernel_rfl) (z6 _) fun Z hbZ fZ sZ=>?_;rw [sX] at fZ sZ;exact⟨(),⟨.cons rfl (.cons rfl (.cons (by rw [<- sX];rfl) .nil)),rfl⟩,fZ,sZ,hbZ⟩
 rintro _ Y ⟨fT,sY,hbY⟩;refine⟨Unit,fun _=>⟨[(1,i64 locs),(2,At0 L),(5,At0 (L+1)),(6,At0 (L+2))],[]⟩,fun _ Z=>zn8 Z (L+2) (fun _=>0)/\zaz Z (L+1) ⟨x.ev.length,fun _=>0⟩/\Z.heap[L]?=some (.cells #[At0 b] 100 (0,0))/\Z.heap.size=L+3/\Bw w Z,?_,?_⟩
 ·exact⟨(),⟨.cons rfl (.cons rfl (.cons rfl (.cons (by rw [<- sY];rfl) .nil))),rfl⟩,by rw [<- sY];exact zx Y _,qm _ fT,qm _ (zb hbY fL),by rw [wz,sY],((zst hbX hbY)).alloc (by have:=hbX.size;have:=hbY.size;omega) _⟩
 clear fL sX hbX fT sY hbY;clear X Y;rintro _ X ⟨fM,fT,fL,sX,hbX⟩;obtain⟨P0,hP0⟩:∃ P0:RelD×(Nat->UInt8),P0=(⟨x.ev.length,fun _=>0⟩,fun _=>0):=⟨_,rfl⟩;have hco:jY x locs=match zgh x locs 0 P0 with
  | none=>false
  | some p=>jI p.1 x.co&&(List.range 6).all fun l=>decide (p.2 l=x.mem l):=by rw [hP0];rfl
 refine⟨RelD×(Nat->UInt8),fun P=>⟨[(2,At0 L),(5,At0 (L+1)),(6,At0 (L+2))],[]⟩,fun P Z=>zgh x locs 0 P0=some P/\zn8 Z (L+2) P.2/\zaz Z (L+1) P.1/\Z.heap[L]?=some (.cells #[At0 b] 100 (0,0))/\Bw w Z,?_,?_⟩
 ·refine⟨Nat×(RelD×(Nat->UInt8)),fun s=>⟨[(2,At0 L),(5,At0 (L+1)),(6,At0 (L+2)),(17,i64 locs),(18,i64 (s.1:Nat))],[]⟩,fun s Z=>s.1<=locs/\zgh x (locs-s.1) s.1 s.2=zgh x locs 0 P0/\zP s.2.1.to/\zn8 Z (L+2) s.2.2/\zaz Z (L+1) s.2.1/\Z.heap[L]?=some (.cells #[At0 b] 100 (0,0))/\Bw w Z/\L+3<=Z.heap.size,fun s=>locs-s.1,(0,P0),
   (cvE rfl rfl),⟨UV _,rfl,by rw [hP0];exact fun i _=>(by show 0<_;decide),by rw [hP0];exact fM,by rw [hP0];exact fT,fL,hbX,by omega⟩,?_⟩
  clear fM fT fL sX hbX;rintro⟨l,P⟩ Z ⟨hl,hgo,hPw,fM,fT,fL,hbZ,sZ⟩;dsimp only at hl hgo hPw fM fT sZ ⊢;refine biE (fun hc=>?_) fun hc=>?_
  ·have hc:(l:Int)<(locs:Int):=dT hc;have hll:l<locs:=by omega
   have hstep:zgh x (locs-l) l P=if (zM x l).headD 48=l then zgh x (locs-(l+1)) (l+1) (jQ (zM x l) P.1,upd P.2 l (zcW x.ev (zM x l))) else none:=by
    rw [show locs-l=(locs-(l+1))+1 by omega];rfl
   refine⟨_,zc (za fL) (i:=0) rfl,_,zc (za (zb hbZ fx)) (i:=0) rfl,?_⟩;obtain⟨pr,hpr⟩:∃ pr:Nat->Bool,pr=fun i=>decide ((evA x i).k=2)&&decide ((evA x i).l.toNat=l):=⟨_,rfl⟩;refine⟨Nat×OA×Nat,fun s=>⟨[(2,At0 L),(5,At0 (L+1)),(6,At0 (L+2)),(7,i64 (l:Nat)),(8,.slice s.2.1 ((List.range s.1).filter pr).length s.2.2),(17,i64 locs),(18,i64 (l:Nat)),(24,.slice q x.ev.length c),(25,i64 x.ev.length),(26,i64 (s.1:Nat))],[]⟩,fun s V=>s.1<=x.ev.length/\OwnS zu 3 Z.heap.size V s.2.1 s.2.2 ((List.range s.1).filter pr)/\Bw Z V,fun s=>x.ev.length-s.1,(0,none,0),
    (cvE rfl rfl),⟨UV _,OwnS.nil,UX _ _⟩,?_⟩
   rintro⟨k,ps,cs⟩ V ⟨hk,oV,hbV⟩;dsimp only at hk oV ⊢;have hVs:=hbV.size;refine biE (fun hc=>?_) fun hc=>?_
   ·have hc:(k:Int)<(x.ev.length:Int):=dT hc;have hkl:k<x.ev.length:=(by omega);have hbwV:=zst hbZ hbV;obtain⟨bq,oq,hqe,hb,hat⟩:=zb0 (hv.ev.below hbwV) hkl;rw [zdg] at hat;have hfl:(List.range (k+1)).filter pr=(List.range k).filter pr++if pr k=true then [k] else []:=by
     rw [QT,Kt,Ql,List.filter_nil]
    have hprk:pr k=(decide ((evA x k).k=2)&&decide ((evA x k).l.toNat=l)):=(by rw [hpr]);have hll2:((List.range k).filter pr).length<=k:=by
     have:=JK pr (List.range k);rw [KT] at this;exact this
    obtain⟨e,he⟩:=nm (evA x k);rw [<- he] at hat hprk;have eq0:some (Value.slice q x.ev.length c)=some (Value.slice (some ⟨bq,oq,none⟩) x.ev.length c):=(by rw [hqe]);subst hqe;refine⟨k,rfl,hkl,evE.enc e,rfl,hat,hb,zm (X:=V) (v := .agg (evE.enc e).toArray) k60 rfl rfl (Qh.2 fun u hu=>evE.one e u hu) fun U hbU fU sU=>?_⟩;have fU:U.heap[V.heap.size]?=some (.cells (evE.enc e).toArray 60 (0,0)):=fU;have oU:=oV.below hbU;have hbU2:=hbV.trans (hbU.mono hVs);have hUs:=hbU2.size;have skip:pr k=false->(k+1<=x.ev.length/\OwnS zu 3 Z.heap.size U ps cs ((List.range (k+1)).filter pr)/\Bw Z U):=fun h=>⟨hkl,by rw [hfl,h];simpa using oU,hbU2⟩;have skipE:pr k=false->((List.range (k+1)).filter pr).length=((List.range k).filter pr).length:=fun h=>by rw [hfl,h];simp
    refine⟨u8 e.k,zc (za fU) (i:=1) rfl,biE (fun h1=>?_) fun h1=>?_⟩
    ·have h1:e.k=2:=qV.1 (dT h1);refine⟨u8 e.l,zc (za fU) (i:=2) rfl,(e.l.toNat:Int),qp _,biE (fun h2=>?_) fun h2=>?_⟩
     ·have h2:(e.l.toNat:Int)=(l:Int):=dT h2;have hp1:pr k=true:=(by rw [hprk,Up h1,Up (by omega:e.l.toNat=l)];rfl);rw [Gk hp1] at hfl;refine⟨⟨by decide,by decide,rfl⟩,zu.enc k,rfl,?_⟩;have hb2:Bw U (U.alloc (.cells (zu.enc k).toArray 3)):=zba _ _;have sb2:=hb2.size;unfold zdx zad;show SatR _ _;refine zn0 (oU.below hb2) (qJ zu k) (by omega) (by omega) fun p' c' S oS gS hat2=>?_;rw [zag] at gS;rw [<- hfl] at oS ⊢;exact nxI (by omega) ⟨(k+1,p',c'),(cvE rfl rfl),⟨hkl,oS,hbU2.trans ((hb2.mono hUs).trans (qX (oU.below hb2) (by omega) (US _) gS))⟩,zdc (by omega)⟩
     ·have h2:¬ (e.l.toNat:Int)=(l:Int):=dF h2;have hp0:pr k=false:=(by rw [hprk,Ue (by omega:¬ e.l.toNat=l),Uf]);exact nxI (by omega) ⟨(k+1,ps,cs),⟨.cons rfl (.cons rfl (.cons rfl (.cons rfl (.cons (by show _=some (Value.slice ps ((List.range (k+1)).filter pr).length cs);rw [skipE hp0];rfl) (.cons rfl (.cons rfl (.cons rfl (.cons rfl (.cons rfl .nil))))))))),rfl⟩,skip hp0,zdc (by omega)⟩
    ·have h1:¬ e.k=2:=fun e2=>(dF h1) (by rw [e2];rfl);have hp0:pr k=false:=(by rw [hprk,Ue h1];rfl);exact brF (nxI (by omega) ⟨(k+1,ps,cs),⟨.cons rfl (.cons rfl (.cons rfl (.cons rfl (.cons (by show _=some (Value.slice ps ((List.range (k+1)).filter pr).length cs);rw [skipE hp0];rfl) (.cons rfl (.cons rfl (.cons rfl (.cons rfl (.cons rfl .nil))))))))),rfl⟩,skip hp0,zdc (by omega)⟩)
   have hc:¬ (k:Int)<(x.ev.length:Int):=dF hc;obtain rfl:k=x.ev.length:=by omega
   have hwr:(List.range x.ev.length).filter pr=qo x l:=by rw [hpr];rfl
   rw [hwr] at oV ⊢;have hwn:=hne l hll;have hw1:1<=(qo x l).length:=List.length_pos_iff.2 hwn;have hw19:(qo x l).length<=20:=hv.w20 l;have hps:∃ g,ps=some ⟨g,0,none⟩:=by
    rcases oV.inv with ⟨_,_,h⟩ | ⟨g,cur,h,_⟩
    ·exact (hwn h).elim
    ·exact⟨g,h⟩
   obtain⟨g,rfl⟩:=hps;have hg:=(zp oV rfl).1;have hg:Z.heap.size<=g:=hg;have hbwV:=zst hbZ hbV;have hZw:=hbZ.size;refine cmo (zgj oV (zb hbwV fx) (zb hbV fL) (hT.below hbwV) (by omega) hv.co (fun a ha=>by have:=zmm ha;omega) hw19 hw1) ?_;rintro e U ⟨rfl,oU,gU⟩;have oU:OwnS zu 3 Z.heap.size U (some ⟨g,0,none⟩) cs (zM x l):=oU;have hrl:(zM x l).length=(qo x l).length:=zlv _;have hbU:Bw Z U:=hbV.trans (zh gU hVs hg);have hbwU:=hbZ.trans (hbU.mono hZw);have hU0:0<(zM x l).length:=by omega
   obtain⟨bq,oq,hqe,hbq,hatq⟩:=oU.row.at hU0;have hbo:bq=g/\oq=0:=by simpa using hqe.symm
   obtain⟨rfl,rfl⟩:=hbo;rw [<- hrl];have hh:(zM x l).headD 48=(zM x l)[0]:=zlZ hU0;refine⟨0,rfl,hU0,i64 (zM x l)[0],by have:=zc (hatq 0 hU0) (i:=0) (v:=i64 (zM x l)[0]) rfl;exact this,biE (fun h=>?_) fun h=>?_⟩
   ·have h:(!decide (((zM x l)[0]:Int)=(l:Int)))=true:=h;have h:¬ ((zM x l)[0]:Int)=(l:Int):=(by simpa using h);rw [hstep,Gj (by rw [hh];omega)] at hgo;refine⟨rb ?_,hbwU⟩;rw [hco,<- hgo]
   have h:(!decide (((zM x l)[0]:Int)=(l:Int)))=false:=h;have h:((zM x l)[0]:Int)=(l:Int):=by simpa using h
   rw [hstep,Gk (by rw [hh];omega)] at hgo;have fTU:=zb hbU fT;have hRT:RelAt U (L+1) 0 48 [] [] P.1:=⟨rfl,by simpa using fTU⟩;have hrk48:∀ a∈zM x l,a<48:=fun a ha=>by have:=zkA ha;omega
   have hLZ:=hlt fT;have hL2Z:=hlt fM;refine cmo (znh hRT hPw oU.row (fun a ha=>by cases ha;exact⟨hbq,by show bq≠L+1;omega⟩) (by omega) hrk48) ?_;rintro e S ⟨rfl,hRS,gS⟩;have fTS:zaz S (L+1) (jQ (zM x l) P.1):=by simpa using hRS.cells
   have hbS:Bw w S:=hbwU.trans (zh gS hbwU.size (by omega));have fMS:=(gS.block (L+2) (hlt (zb hbU fM)) (by simp)).trans (zb hbU fM);have fLS:=(gS.block L (hlt (zb hbU fL)) (by simp)).trans (zb hbU fL);have oS:=z3 oU fTU (by decide) gS;obtain⟨j,hj⟩:∃ j,j+1=(zM x l).length:=⟨(zM x l).length-1,by omega⟩;have hjl:j<(zM x l).length:=by omega
   obtain⟨b6,o6,hp6,hl6,hat6⟩:=oS.row.at hjl;have hbo6:b6=bq/\o6=0:=by simpa using hp6.symm
   obtain⟨rfl,rfl⟩:=hbo6;obtain⟨t,ht⟩:∃ t,(zM x l)[j]=t:=⟨_,rfl⟩;have htev:t<x.ev.length:=zkA (by rw [<- ht];exact gM hjl);have hlast:(zM x l).getLastD 0=t:=by
    rw [List.getLastD_eq_getLast?,List.getLast?_eq_getElem?,show (zM x l).length-1=j by omega,gE hjl,ht];rfl
   obtain⟨b7,o7,hp7,hl7,hat7⟩:=zb0 (hv.ev.below hbS) htev;rw [zdg] at hat7;have hlV:zcW x.ev (zM x l)=(evA x t).v:=by
    show (x.ev.getD ((zM x l).getLastD 0) ev0).v=_;rw [hlast];rfl
   have dS:Bw S S.drew:=(UX _ _).drew;refine DrawE.ord [15] [0,1,2,3,4,5,6,7,8,9,10,11,12,13,14,15] (by kernel_rfl) ⟨_,zc (za (hdr fLS)) (i:=0) rfl,_,zc (za (hdr (zb hbS fx))) (i:=0) rfl,(j:Nat),(ze (by omega)).trans (by omega),j,rfl,hjl,i64 t,by have:=zc (zo dS (hat6 j hjl)) (i:=0) (v:=i64 t) (by rw [ht];rfl);exact this,?_⟩;rw [hp7];refine⟨t,rfl,htev,u8 (evA x t).v,by have:=zc (zo dS hat7) (i:=3) (v:=u8 (evA x t).v) rfl;exact this,l,rfl,by omega,?_⟩;refine zk k5 (hdr fMS) (o:=0+l*1) (v:=u8 (evA x t).v) rfl rfl (by rw [zt];omega) rfl fun T fT2 gT sT=>?_;have gT2:S.grownBy T (some (L+2)):=zd (zf dS) gT;have e8:=zhg (n:=6) (fun i=>u8 (P.2 i)) (fun i=>u8 (upd P.2 l (evA x t).v i)) (i:=l) (by omega) rfl (fun j hj=>by rw [qi _ _ hj]);rw [zJ] at e8;rw [UT,UN,e8] at fT2;exact nxI (by omega) ⟨(l+1,(jQ (zM x l) P.1,upd P.2 l (evA x t).v)),(cvE rfl rfl),⟨hll,by rw [<- hlV];exact hgo,zgN hPw hrk48,fT2,(gT2.block (L+1) (hlt fTS) (by simp)).trans fTS,(gT2.block L (hlt fLS) (by simp)).trans fLS,hbS.trans (zh gT2 hbS.size (by omega)),by have:=gT2.size;have:=gS.size;have:=hbU.size;omega⟩,zdc (by omega)⟩
  ·have hc:¬ (l:Int)<(locs:Int):=dF hc;obtain rfl:l=locs:=by omega
   rw [UL] at hgo;exact⟨P,(cvE rfl rfl),hgo.symm,fM,fT,fL,hbZ⟩
 rintro P Z ⟨hgo,fM,fT,fL,hbZ⟩;have hco2:jY x locs=(jI P.1 x.co&&(List.range 6).all fun l=>decide (P.2 l=x.mem l)):=by rw [hco,hgo]
 refine DrawE.ord [] [0,1,2,3,4,5,6,7,8,9,10,11,12,13,14,15] (by kernel_rfl) ?_;have dZ:Bw Z Z.drew:=(UX _ _).drew;refine⟨zi P.1,zj _,za (hdr fT),hlt (hdr fT),_,zc (za (hdr fL)) (i:=0) rfl,?_⟩;have fxZ:=hdr (zb hbZ fx);refine⟨zi x.co,zj _,by have h:=zF (n:=99) (m:=49) (za fxZ);rw [show (exC x q c).toArray.toList=exC x q c from rfl,zqh] at h;exact h,hlt fxZ,_,fun w=>zaS _ _ P.1 x.co w,?_⟩;have fin:Bw w Z.drew:=zst hbZ dZ;refine biE (fun h=>?_) fun h=>?_
 ·have h:jI P.1 x.co=true:=h;exact⟨seg 6 (fun i=>u8 (P.2 i)),zt _ _,za (hdr fM),hlt (hdr fM),_,zc (za (hdr fL)) (i:=0) rfl,seg 6 (fun i=>u8 (x.mem i)),zt _ _,by have h:=zF (n:=327) (m:=6) (za fxZ);rw [show (exC x q c).toArray.toList=exC x q c from rfl,zk0] at h;exact h,hlt fxZ,_,fun w=>znB _ _ P.2 x.mem w,rb (by rw [hco2,h,Uv]),fin⟩
 ·have h:jI P.1 x.co=false:=h;exact⟨rb (by rw [hco2,h,Ug]),fin⟩
end
section
variable {b c:Nat} {x:ExD} {q:OA} {w:Wd}
theorem zhk {X:Wd} {o:Nat} {A T:List Value} {r:RelD} (fx:ExH X b x q c) (hA:A.length=o) (hE:exC x q c=A++(zi r++T)) {i:Nat} (hi:i<48):X.cell? ⟨b,o+1+i*1,none⟩=some (s64 (r.to i)):=by
 have hR:RelAt X b o 55 A T r:=⟨hA,by rw [<- hE];exact fx⟩;exact hR.cell hi
theorem zpU {X:Wd} (fx:ExH X b x q c) {i:Nat} (hi:i<48):X.cell? ⟨b,0+1+1+i*1,none⟩=some (s64 (x.po.to i)):=by
 obtain⟨A,T,hA,hE⟩:=znu x q c [];exact zhk fx hA (by rw [<- hE,QH]) hi
theorem zqn {X:Wd} (fx:ExH X b x q c) {i:Nat} (hi:i<48):X.cell? ⟨b,0+148+1+i*1,none⟩=some (s64 (x.dt.to i)):=by
 obtain⟨A,T,hA,hE⟩:=znx x q c [];exact zhk fx hA (by rw [<- hE,QH]) hi
theorem zqx {X:Wd} (fx:ExH X b x q c) {i:Nat} (hi:i<48):X.cell? ⟨b,0+197+1+i*1,none⟩=some (s64 (x.ct.to i)):=by
 obtain⟨A,T,hA,hE⟩:=zny x q c [];exact zhk fx hA (by rw [<- hE,QH]) hi
theorem zpP {X:Wd} (fx:ExH X b x q c) {i:Nat} (hi:i<48):X.cell? ⟨b,0+246+1+i*1,none⟩=some (s64 (x.rm.to i)):=by
 obtain⟨A,T,hA,hE⟩:=znt x q c [];exact zhk fx hA (by rw [<- hE,QH]) hi
theorem n64 {a b:Nat} (h:(!decide ((a:Int)=(b:Int)))=true):¬ a=b:=fun e=>by
 rw [e] at h;simp at h
theorem y64 {a b:Nat} (h:(!decide ((a:Int)=(b:Int)))=false):a=b:=by
 have h:(a:Int)=(b:Int):=by simpa using h
 exact Uw h
theorem n8 {a d:UInt8} (h:(!decide ((a.toNat:Int)=(d.toNat:Int)))=true):¬ a=d:=fun e2=>by
 rw [e2] at h;simp at h
theorem y8 {a d:UInt8} (h:(!decide ((a.toNat:Int)=(d.toNat:Int)))=false):a=d:=qV.1 (by simpa using h)
def wrG (x:ExD) (k:Nat):Nat:=(List.range k).foldl (fun s i=>if (evA x i).k=2 then s|||2^i else s) 0
theorem zh2 (x:ExD) (k:Nat):wrG x (k+1)=if (evA x k).k=2 then wrG x k|||2^k else wrG x k:=by
 unfold wrG;rw [QT,KR];rfl
theorem zha (x:ExD):∀ k,k<=64->wrG x k<2^64
 | 0,_=>by show 0<_;decide
 | k+1,h=>by
  rw [zh2]
  split
  ·exact KW (zha x k (by omega)) (z7 (by omega))
  ·exact zha x k (by omega)
theorem zj5 (fx:ExH w b x q c) (hv:ExW w x q) (hrn:x.rm.n=x.ev.length) (hok:okR x.rm=true) (hT:Tz64M w) :
  CB 35 #[At0 b] w (.bool (zaG x)):=by
 refine qP 130 [At0 b] (.s .p (.s .p (.c .p .p))) Tryz.func35 ?_;have hn:=hv.n;obtain⟨W,hW⟩:=nm (zmn x);have hWG:W=wrG x x.ev.length:=by rw [hW];rfl
 have hW64:W<2^64:=by rw [hWG];exact zha x _ (by omega)
 refine⟨Unit,fun _=>⟨[(0,At0 b),(3,s64 W),(4,s64 0)],[]⟩,fun _ X=>Bw w X,?_,?_⟩
 ·refine⟨_,zc (za fx) (i:=0) rfl,?_⟩;refine⟨Nat,fun k=>⟨[(0,At0 b),(3,s64 (wrG x k)),(4,s64 0),(17,.slice q x.ev.length c),(18,i64 x.ev.length),(19,i64 (k:Nat))],[]⟩,fun k X=>k<=x.ev.length/\Bw w X,fun k=>x.ev.length-k,0,
   (cvE rfl rfl),⟨UV _,UX _ _⟩,?_⟩
  rintro k X ⟨hk,hbX⟩;dsimp only;refine biE (fun hc=>?_) fun hc=>?_
  ·have hc:(k:Int)<(x.ev.length:Int):=dT hc;have hkl:k<x.ev.length:=by omega
   obtain⟨bq,oq,hqe,hb,hat⟩:=zb0 (hv.ev.below hbX) hkl;rw [zdg] at hat;obtain⟨e,he⟩:=nm (evA x k);have hs:=zh2 x k;rw [<- he] at hat hs;subst hqe;refine⟨k,rfl,hkl,evE.enc e,rfl,hat,hb,zm (X:=X) (v := .agg (evE.enc e).toArray) k60 rfl rfl (Qh.2 fun u hu=>evE.one e u hu) fun Y hbY fY sY=>?_⟩;have fY:Y.heap[X.heap.size]?=some (.cells (evE.enc e).toArray 60 (0,0)):=fY;have hbY2:=zst hbX hbY;refine⟨u8 e.k,zc (za fY) (i:=1) rfl,biE (fun h=>?_) fun h=>?_⟩
   ·have h:e.k=2:=qV.1 (dT h);rw [Gk h] at hs;exact⟨by omega,((2^k:Nat):Int),zaa (e:=k) (by omega),((wrG x k|||2^k:Nat):Int),zaI (zha x k (by omega)) (z7 (by omega)),nxI (by omega) ⟨k+1,⟨.cons rfl (.cons (by show _=some (s64 (wrG x (k+1)));rw [hs];rfl) (.cons rfl (.cons rfl (.cons rfl (.cons rfl .nil))))),rfl⟩,⟨hkl,hbY2⟩,zdc (by omega)⟩⟩
   ·have h:¬ e.k=2:=fun e2=>(dF h) (by rw [e2];rfl);rw [Gj h] at hs;exact nxI (by omega) ⟨k+1,⟨.cons rfl (.cons (by show _=some (s64 (wrG x (k+1)));rw [hs];rfl) (.cons rfl (.cons rfl (.cons rfl (.cons rfl .nil))))),rfl⟩,⟨hkl,hbY2⟩,zdc (by omega)⟩
  ·have hc:¬ (k:Int)<(x.ev.length:Int):=dF hc;obtain rfl:k=x.ev.length:=by omega
   exact⟨(),⟨.cons rfl (.cons (by show _=some (s64 W);rw [hWG];rfl) (.cons rfl .nil)),rfl⟩,hbX⟩
 rintro _ X hbX;refine⟨_,zc (za (zb hbX fx)) (i:=0) rfl,?_⟩;have hdep:zaG x=zfV x W 0 x.ev 0:=by rw [hW];rfl
 refine⟨Nat×Nat,fun s=>⟨[(0,At0 b),(3,s64 W),(4,s64 s.2),(35,.slice q x.ev.length c),(36,i64 x.ev.length),(37,i64 (s.1:Nat))],[]⟩,fun s X=>s.1<=x.ev.length/\zfV x W s.1 (x.ev.drop s.1) s.2=zaG x/\s.2<2^64/\Bw w X,fun s=>x.ev.length-s.1,(0,0),
  (cvE rfl rfl),⟨UV _,hdep.symm,by decide,hbX⟩,?_⟩
 clear hbX;rintro⟨k,h⟩ X ⟨hk,hgo,hh,hbX⟩;dsimp only at hk hgo hh ⊢;refine biE (fun hc=>?_) fun hc=>?_
 ·have hc:(k:Int)<(x.ev.length:Int):=dT hc;have hkl:k<x.ev.length:=by omega
  have hk48:k<48:=by omega
  obtain⟨bq,oq,hqe,hb,hat⟩:=zb0 (hv.ev.below hbX) hkl;rw [zdg] at hat;obtain⟨e,he⟩:=nm (evA x k);rw [<- he] at hat;have hdrp:x.ev.drop k=e::x.ev.drop (k+1):=by
   rw [<- JD hkl,he];unfold evA;rw [gDe,gE hkl];rfl
  rw [hdrp] at hgo;unfold zfV at hgo;obtain⟨d,hd⟩:=nm (x.dt.to k);obtain⟨t,ht⟩:=nm (x.ct.to k);obtain⟨r,hr⟩:=nm (x.rm.to k);obtain⟨po,hpo⟩:=nm (x.po.to k);dsimp only at hgo;rw [<- hd,<- ht,<- hr,<- hpo] at hgo;have d64:d<2^64:=by rw [hd];exact hv.dt k hk48
  have t64:t<2^64:=by rw [ht];exact hv.ct k hk48
  have r64:r<2^64:=by rw [hr];exact hv.rm k hk48
  have p64:po<2^64:=by rw [hpo];exact hv.po k hk48
  have dt64:=KW d64 t64;have dtr64:=KW dt64 r64;have dr64:=KW d64 r64;subst hqe;refine⟨k,rfl,hkl,evE.enc e,rfl,hat,hb,zm (X:=X) (v := .agg (evE.enc e).toArray) k60 rfl rfl (Qh.2 fun u hu=>evE.one e u hu) fun Y hbY fY sY=>?_⟩;have fY:Y.heap[X.heap.size]?=some (.cells (evE.enc e).toArray 60 (0,0)):=fY;have hbY2:=zst hbX hbY;have dY:Bw Y Y.drew:=(UX _ _).drew;have fxY:=hdr (zb hbY2 fx);have fYd:=hdr fY;have hbD:=zst hbY2 dY;have no:∀ {Z:Wd},Bw w Z->zaG x=false->(Ending.returned (.bool false)=Ending.returned (.bool (zaG x))/\Bw w Z):=fun {Z} hb h=>⟨rb h.symm,hb⟩;refine DrawE.ord [] [0,1,2,3,4,5,6,7,8,9,10,11,12,13,14,15,16,17,18,19,20,21,22,23] (by kernel_rfl) ⟨k,rfl,hk48,s64 d,by rw [hd];exact zqn fxY hk48,?_⟩;refine⟨k,rfl,hk48,s64 t,by rw [ht];exact zqx fxY hk48,?_⟩;refine⟨k,rfl,hk48,s64 r,by rw [hr];exact zpP fxY hk48,?_⟩;refine⟨_,zaI d64 t64,_,zaI dt64 r64,biE (fun h1=>?_) fun h1=>?_⟩
  ·have h1:d|||t|||r=0:=Uw (dT h1);rw [Gk h1] at hgo;exact nxI (by omega) ⟨(k+1,h),(cvE rfl rfl),⟨hkl,hgo,hh,hbD⟩,zdc (by omega)⟩
  have h1:¬ d|||t|||r=0:=fun e2=>(dF h1) (by rw [e2];rfl);rw [Gj h1] at hgo;refine⟨u8 e.k,zc (za fYd) (i:=1) rfl,biE (fun h2=>?_) fun h2=>?_⟩
  ·have h2:¬ e.k=1:=n8 (d:=1) h2;rw [Gj fun h=>h2 h.1] at hgo;exact brT (brT (no hbD hgo.symm))
  have h2:e.k=1:=y8 (d:=1) h2;refine⟨_,zaI d64 r64,_,zbx dr64 hW64,biE (fun h3=>?_) fun h3=>?_⟩
  ·have h3:¬ jn (d|||r) W=0:=n64 (b:=0) h3;rw [Gj fun h=>h3 h.2.1] at hgo;exact brT (no hbD hgo.symm)
  have h3:jn (d|||r) W=0:=y64 (b:=0) h3;refine⟨_,zaI d64 t64,_,zaI dt64 r64,k,rfl,hk48,s64 po,by rw [hpo];exact zpU fxY hk48,?_⟩;refine⟨_,zbx dtr64 p64,biE (fun h4=>?_) fun h4=>?_⟩
  ·have h4:¬ jn (d|||t|||r) po=0:=n64 (b:=0) h4;rw [Gj fun h=>h4 h.2.2] at hgo;exact no hbD hgo.symm
  have h4:jn (d|||t|||r) po=0:=y64 (b:=0) h4;rw [Gk ⟨h2,h3,h4⟩] at hgo;refine cmo (zaU r64 (hT.below hbD)) ?_;rintro e2 Z ⟨rfl,hbZ⟩;have hbZ2:=zst hbD hbZ;by_cases hr0:r=0
  ·have e1:(els r).isEmpty=true:=by rw [hr0];rfl
   rw [e1];rw [Gk hr0] at hgo;exact brF (nxI (by omega) ⟨(k+1,h),(cvE rfl rfl),⟨hkl,hgo,hh,hbZ2⟩,zdc (by omega)⟩)
  rw [Gj hr0] at hgo;obtain⟨hhd,hem⟩:=zbI hr0 r64;rw [hhd,hem];have hmem:=zk3 hr0 r64;have hbit:r.testBit (ctz r)=true:=(zcH.1 hmem).2;have hvl:ctz r<x.ev.length:=by
   have:=(zkN hok hv.rm hk48 (by rw [<- hr];exact hbit)).1;rw [hrn] at this;omega
  obtain⟨v,hvd⟩:=nm (ctz r);rw [<- hvd] at hvl hgo ⊢;refine brT ?_;have fZ:=zb hbZ fYd;have dZ:Bw Z Z.drew:=(UX _ _).drew;have hbZ3:=zst hbZ2 dZ;refine DrawE.ord [] [0,1,2,3,4,5,6,7,8,9,10,11,12,13,14,15,16,17,18,19,20,21,22,23] (by kernel_rfl) ⟨by omega,((2^v:Nat):Int),zaa (e:=v) (by omega),biE (fun h5=>?_) fun h5=>?_⟩
  ·have h5:¬ r=2^v:=n64 h5;rw [Gj fun h=>h5 h.1] at hgo;exact brT (brT (no hbZ3 hgo.symm))
  have h5:r=2^v:=y64 h5;refine⟨by omega,_,zhb (a:=h) (k:=v) (by omega),_,zab (a:=h/2^v) (b:=1) (KC (Nat.div_le_self _ _) hh) (by decide),?_⟩;rw [zlf]
  cases hb5:h.testBit v with
  | true =>
   rw [Gj fun h=>(by rw [hb5] at h;cases h.2.1)] at hgo;exact brT (brT (no hbZ3 hgo.symm))
  | false =>
   refine brF ?_;obtain⟨bq2,oq2,hqe2,hb2,hat2⟩:=zb0 (hv.ev.below hbZ3) hvl;rw [zdg] at hat2;obtain⟨f,hf⟩:=nm (evA x v);rw [<- hf] at hat2 hgo;refine⟨_,zc (za (zb hbZ3 fx)) (i:=0) rfl,v,rfl,hvl,?_⟩;simp only [KX,Ur,Ge] at hqe2;rw [<- hqe2.1,<- hqe2.2] at hat2;refine⟨u8 f.l,by have:=zc hat2 (i:=2) (v:=u8 f.l) rfl;exact this,u8 e.l,zc (za (hdr fZ)) (i:=2) rfl,biE (fun h6=>?_) fun h6=>?_⟩
   ·have h6:¬ f.l=e.l:=n8 h6;rw [Gj fun h=>h6 h.2.2] at hgo;exact no hbZ3 hgo.symm
   have h6:f.l=e.l:=y8 h6;rw [Gk ⟨h5,hb5,h6⟩] at hgo;exact⟨_,zaI hh r64,nxI (by omega) ⟨(k+1,h|||r),(cvE rfl rfl),⟨hkl,hgo,KW hh r64,hbZ3⟩,zdc (by omega)⟩⟩
 ·have hc:¬ (k:Int)<(x.ev.length:Int):=dF hc;obtain rfl:k=x.ev.length:=by omega
  rw [Qk] at hgo;exact⟨rb hgo,hbX⟩
end
theorem ziU {locs:Nat}:∀ (ev:List Ev) (i:Nat) (t:Int) (n:Nat),ziW locs i ev t n=true->∀ j,i+j<locs->j<ev.length->∃ v,ev.getD j ev0=⟨-1,2,UInt8.ofNat (i+j),v,0,0,0⟩
 | [],_,_,_,_,_,_,h=>by simp at h
 | e::ev,i,t,n,h,j,hj,hl=>by
  unfold ziW at h;rw [Gk (by omega:i<locs)] at h;by_cases he:e=⟨-1,2,UInt8.ofNat i,e.v,0,0,0⟩
  ·rw [Gk he] at h
   cases j with
   | zero=>exact⟨e.v,by rw [UI];exact he⟩
   | succ j =>
    obtain⟨v,hv⟩:=ziU ev (i+1) t n h j (by omega) (by simpa using hl);exact⟨v,by rw [show i+(j+1)=i+1+j by omega];exact hv⟩
  ·rw [Gj he] at h;cases h
theorem zno (ev:List Ev):qM ev<=ev.length:=by
 unfold qM
 induction ev with
 | nil=>exact US _
 | cons e ev ih =>
  rw [Kl]
  split
  ·rw [Qq,Qq];omega
  ·exact UV _
theorem zml {x:ExD} {locs:Nat} (h:jw x.ev locs=true) (hl:locs<=x.ev.length) (h6:locs<=6):∀ l,l<locs->qo x l≠[]:=by
 intro l hll he;obtain⟨v,hv⟩:=ziU x.ev 0 0 0 h l (by omega) (by omega);have:l∈qo x l:=by
  unfold qo;rw [QQ,Ul];refine⟨by omega,?_⟩;have h2:evA x l=⟨-1,2,UInt8.ofNat (0+l),v,0,0,0⟩:=hv;rw [h2,bAT,dE,dE];refine⟨rfl,?_⟩;show (UInt8.ofNat (0+l)).toNat=l;rw [UN,KF];exact QA (by omega)
 rw [he] at this
 cases this
abbrev zb7 (x:ExD):List RelD:=[x.po,x.rf,x.co,x.dt,x.ct,x.rm]
theorem zoT (x:ExD) (q:OA) (c:Nat) {i:Nat} (hi:i<6):((exC x q c).drop (1+49*i)).take 49=zi ((zb7 x).getD i x.po):=by
 have g:∀ {A T:List Value} {o:Nat} {r:RelD},A.length=o->exC x q c=A++(zi r++T)->((exC x q c).drop o).take 49=zi r:=fun {A T o r} hA hE=>by
  rw [hE,<- hA,Ui,Jf (by rw [zj];decide),JE (by rw [zj];decide)]
 match i,hi with
 | 0,_=>obtain⟨A,T,hA,hE⟩:=znu x q c [];exact g hA (by rw [<- hE,QH];rfl)
 | 1,_=>obtain⟨A,T,hA,hE⟩:=zpy x q c [];exact g hA (by rw [<- hE,QH];rfl)
 | 2,_=>obtain⟨A,T,hA,hE⟩:=zpA x q c [];exact g hA (by rw [<- hE,QH];rfl)
 | 3,_=>obtain⟨A,T,hA,hE⟩:=znx x q c [];exact g hA (by rw [<- hE,QH];rfl)
 | 4,_=>obtain⟨A,T,hA,hE⟩:=zny x q c [];exact g hA (by rw [<- hE,QH];rfl)
 | 5,_=>obtain⟨A,T,hA,hE⟩:=znt x q c [];exact g hA (by rw [<- hE,QH];rfl)
theorem zor (L:Nat) {k:Nat} (hk:k<6):((List.range 6).map (fun i=>Value.pointer (some ⟨L,0+(1+49*i),none⟩)))[k]?=some (.pointer (some ⟨L,0+(1+49*k),none⟩)):=by
 rw [KS,Kg hk];rfl
def okX (x:ExD) (r:RelD):Bool:=decide (r.n=x.ev.length)&&okR r
section
variable {c:Nat} {x:ExD} {q:OA} {w:Wd}
theorem zd3 {X:Wd} {b:Nat} (fx:ExH X b x q c) {i:Nat} (hi:i<6):zw X ⟨b,0+(1+49*i),none⟩ (zi ((zb7 x).getD i x.po)):=by
 have h:=zF (n:=1+49*i) (m:=49) (za fx);rw [show (exC x q c).toArray.toList=exC x q c from rfl,zoT x q c hi] at h;exact h
theorem ExW.rel (hv:ExW w x q) {i:Nat} (hi:i<6):zP ((zb7 x).getD i x.po).to:=by
 match i,hi with
 | 0,_=>exact hv.po
 | 1,_=>exact hv.rf
 | 2,_=>exact hv.co
 | 3,_=>exact hv.dt
 | 4,_=>exact hv.ct
 | 5,_=>exact hv.rm
theorem zn5 (hv:ExW w x q) (hT:Tz64M w):CB 14 #[.agg (exC x q c).toArray] w (.bool (za5 x)):=by
 refine qP 70 [.agg (exC x q c).toArray] (.c .p (.c .p (.c .p (.c .p (.c .p .p))))) Tryz.func14 ?_;obtain⟨L,hL⟩:=nm (w.heap.size);have hn:=hv.n;refine⟨Unit,fun _=>⟨[(1,At0 L)],[]⟩,fun _ X=>ExH X L x q c/\Bw w X,⟨(),⟨.cons (by rw [hL];rfl) .nil,rfl⟩,by rw [hL];exact zx w _,(zba w _)⟩,?_⟩;rintro _ X ⟨fx,hbX⟩;obtain⟨n,hnn⟩:=nm (qM x.ev);refine⟨Unit,fun _=>⟨[(1,At0 L)],[]⟩,fun _ Y=>X=Y,?_,?_⟩
 ·refine⟨_,zc (za fx) (i:=0) rfl,biE (fun h=>?_) fun _=>?_⟩
  ·have h:(48:Int)<(x.ev.length:Nat):=dT h;omega
  exact⟨(),(cvE rfl rfl),rfl⟩
 rintro _ _ rfl;refine⟨Unit,fun _=>⟨[(1,At0 L),(3,i64 (n:Nat))],[]⟩,fun _ Y=>Bw X Y,?_,?_⟩
 ·refine⟨_,zc (za fx) (i:=0) rfl,cmo (zjX (hv.below hbX).ev (by omega)) ?_⟩;rintro e Y ⟨rfl,hbY⟩;rw [<- hnn];exact⟨(),(cvE rfl rfl),hbY⟩
 rintro _ Y hbY;have hvX:=hv.below hbX;have hnl:n<=x.ev.length:=by rw [hnn];exact zno _
 have hbwY:=zst hbX hbY;have hr0:decide (x.ev.length<=48)=true:=Up (by omega);have no:∀ {Z:Wd},Bw w Z->za5 x=false->(Ending.returned (.bool false)=Ending.returned (.bool (za5 x))/\Bw w Z):=fun {Z} hb h=>⟨rb h.symm,hb⟩;refine⟨Unit,fun _=>⟨[(1,At0 L),(3,i64 (n:Nat))],[]⟩,fun _ Z=>jw x.ev n=true/\(1<=n/\n<=6)/\ExH Z L x q c/\Bw w Z,?_,?_⟩
 ·refine biE (fun h1=>?_) fun h1=>?_
  ·have h1:(n:Int)<1:=dT h1;refine brT (brT (no hbwY ?_));unfold za5;rw [<- hnn,Ue (by omega:¬ 1<=n),Ug,Uf]
  have h1:¬ (n:Int)<1:=dF h1;refine biE (fun h2=>?_) fun h2=>?_
  ·have h2:(6:Int)<(n:Int):=dT h2;refine brT (no hbwY ?_);unfold za5;rw [<- hnn,Ue (by omega:¬ n<=6),Ug,Uf,Uf]
  have h2:¬ (6:Int)<(n:Int):=dF h2;have hn1:decide (1<=n)=true:=Up (by omega);have hn6:decide (n<=6)=true:=Up (by omega);have fY:=zb hbY fx;refine⟨_,zc (za fY) (i:=0) rfl,cmo (zgg (locs:=n) (hvX.below hbY).ev (by omega) (by omega)) ?_⟩;rintro e Z ⟨rfl,hbZ⟩;have hbwZ:=zst hbwY hbZ;refine biE (fun h3=>?_) fun h3=>?_
  ·have h3:jw x.ev n=false:=by
    have h3:(!jw x.ev n)=true:=h3;simpa using h3
   refine no hbwZ ?_;unfold za5;rw [<- hnn,h3,Ug,Uf,Uf,Uf]
  have h3:jw x.ev n=true:=by
   have h3:(!jw x.ev n)=false:=h3;simpa using h3
  exact⟨(),(cvE rfl rfl),h3,by omega,zb hbZ fY,hbwZ⟩
 rintro _ Z ⟨h3,⟨h1,h2⟩,fZ,hbwZ⟩;clear fx hbX hbY hbwY hvX;have hn1:decide (1<=n)=true:=Up h1;have hn6:decide (n<=6)=true:=Up h2;have hright:za5 x=(zbA x&&(jI x.po (poR x.ev)&&(zaR x&&(jY x n&&zaG x)))):=by
  unfold za5;rw [<- hnn,hr0,hn1,hn6,h3];rfl
 have hrels:zbA x=(zb7 x).all (okX x):=rfl;refine⟨Unit,fun _=>⟨[(1,At0 L),(3,i64 (n:Nat))],[]⟩,fun _ U=>zbA x=true/\ExH U L x q c/\Bw w U,?_,?_⟩
 ·refine⟨⟨by decide,by decide,rfl⟩,(List.range 6).map (fun i=>Value.pointer (some ⟨L,0+(1+49*i),none⟩)),rfl,?_⟩;obtain⟨g,hg⟩:=nm (Z.heap.size);refine⟨Nat,fun k=>⟨[(1,At0 L),(3,i64 (n:Nat)),(32,.slice (some ⟨g,0,none⟩) 6 6),(33,i64 6),(34,i64 (k:Nat))],[]⟩,fun k U=>k<=6/\((zb7 x).take k).all (okX x)=true/\U.heap[g]?=some (.cells ((List.range 6).map (fun i=>Value.pointer (some ⟨L,0+(1+49*i),none⟩))).toArray 95 (0,0))/\ExH U L x q c/\Bw w U,fun k=>6-k,0,
   ⟨.cons rfl (.cons rfl (.cons (by rw [hg];rfl) (.cons rfl (.cons rfl .nil)))),rfl⟩,⟨UV _,rfl,by rw [hg];exact zx Z _,qm _ fZ,hbwZ.alloc hbwZ.size _⟩,?_⟩
  clear hg fZ hbwZ;rintro k U ⟨hk,hall,fg,fU,hbU⟩;dsimp only;refine biE (fun hc=>?_) fun hc=>?_
  ·have hc:(k:Int)<6:=dT hc;have hk6:k<6:=by omega
   obtain⟨r,hr⟩:=nm ((zb7 x).getD k x.po);have hkl:k<(zb7 x).length:=hk6;have htk:(zb7 x).take (k+1)=(zb7 x).take k++[r]:=by
    rw [tsg hkl,hr,gDe,gE hkl];rfl
   have hrw:zP r.to:=by rw [hr];exact hv.rel hk6
   have hcel:zw U ⟨L,0+(1+49*k),none⟩ (zi r):=by rw [hr];exact zd3 fU hk6
   have dU:Bw U U.drew:=(UX _ _).drew;have hrm:r∈zb7 x:=by
    rw [hr,gDe,gE hkl];exact gM hkl
   have bad:∀ {Z:Wd},Bw w Z->okX x r=false->(Ending.returned (.bool false)=Ending.returned (.bool (za5 x))/\Bw w Z):=fun {Z} hb h=>no hb (by
    have:zbA x=false:=by
     rw [hrels,KK];exact⟨r,hrm,by rw [h];decide⟩
    rw [hright,this];rfl)
   refine⟨k,rfl,hk6,?_⟩;refine⟨.pointer (some ⟨L,0+(1+49*k),none⟩),by
    have:=zc (za fg) (i:=k*1) (v := .pointer (some ⟨L,0+(1+49*k),none⟩)) (by
     rw [UT];exact zor L hk6)
    exact this,?_⟩
   refine DrawE.ord [] [0,1,2,3,4,5,6,7,8,9,10,11,12,13,14] (by kernel_rfl) ⟨i64 r.n,zc (zo dU hcel) (i:=0) rfl,_,zc (za (hdr fU)) (i:=0) rfl,biE (fun h4=>?_) fun h4=>?_⟩
   ·have h4:(!decide (r.n=(x.ev.length:Int)))=true:=h4;have h4:¬ r.n=(x.ev.length:Int):=(by simpa using h4);exact brT (bad ((zst hbU dU)) (by unfold okX;rw [Ue h4];rfl))
   have h4:(!decide (r.n=(x.ev.length:Int)))=false:=h4;have h4:r.n=(x.ev.length:Int):=by simpa using h4
   refine⟨zi r,zj _,zo dU hcel,hlt (hdr fU),cmo (zbi hrw) ?_⟩;rintro e V ⟨rfl,hbV⟩;refine⟨hbV,?_⟩;have hbV2:=hbU.trans ((dU.trans hbV).mono hbU.size);refine biE (fun h5=>?_) fun h5=>?_
   ·have h5:okR r=false:=by
     have h5:(!okR r)=true:=h5;simpa using h5
    exact bad hbV2 (by unfold okX;rw [h5,Uf])
   have h5:okR r=true:=by
    have h5:(!okR r)=false:=h5;simpa using h5
   refine nxI (by omega) ⟨k+1,(cvE rfl rfl),⟨hk6,?_,zb (dU.trans hbV) fg,zb (dU.trans hbV) fU,hbV2⟩,zdc (by omega)⟩;rw [htk,QG,hall];show (true&&(okX x r&&true))=true;unfold okX;rw [Up h4,h5];rfl
  ·have hc:¬ (k:Int)<6:=dF hc;obtain rfl:k=6:=by omega
   exact⟨(),(cvE rfl rfl),hall,fU,hbU⟩
 rintro _ U ⟨hrr,fU,hbU⟩;rw [hrr,Uv] at hright;have hall:∀ r∈zb7 x,r.n=x.ev.length/\okR r=true:=fun r hr=>by
  rw [hrels,Qh] at hrr;have:=hrr r hr;unfold okX at this;rw [bAT,dE] at this;exact this
 have hrf:=hall x.rf (by simp);have hrm:=hall x.rm (by simp);have hvU:=hv.below hbU;have dU:Bw U U.drew:=(UX _ _).drew;have hvD:=hvU.below dU;have hbD:=zst hbU dU;refine DrawE.ord [] [0,1,2,3,4,5,6,7,8,9,10,11,12,13,14,15,16] (by kernel_rfl) ⟨zi x.po,zj _,zd3 (hdr fU) (i:=0) (by decide),hlt (hdr fU),_,zc (za (hdr fU)) (i:=0) rfl,cmo (zck hvD.ev (by omega)) ?_⟩;rintro e V ⟨rfl,hbV⟩;refine⟨hbV,?_⟩;have hbV2:=zst hbD hbV;have fV:=zb hbV (hdr fU);have hvV:=hvD.below hbV;refine⟨_,fun w=>zaS _ _ x.po (poR x.ev) w,biE (fun h4=>?_) fun h4=>?_⟩
 ·have h4:jI x.po (poR x.ev)=true:=h4;rw [h4,Uv] at hright;refine cmo (zlG fV hvV hrf.1 hrf.2 (hT.below hbV2)) ?_;rintro e T ⟨rfl,hbT⟩;refine⟨hbT,?_⟩;have hbT2:=zst hbV2 hbT;refine biE (fun h5=>?_) fun h5=>?_
  ·have h5:zaR x=true:=h5;rw [h5,Uv] at hright;refine cmo (zl7 (locs:=n) (zb hbT fV) (hvV.below hbT) (by omega) (zml h3 hnl (by omega)) (hT.below hbT2)) ?_;rintro e R ⟨rfl,hbR⟩;refine⟨hbR,?_⟩;have hbR2:=zst hbT2 hbR;refine biE (fun h6=>?_) fun h6=>?_
   ·have h6:jY x n=true:=h6;rw [h6,Uv] at hright;refine cmo (zj5 (zb hbR (zb hbT fV)) ((hvV.below hbT).below hbR) hrm.1 hrm.2 (hT.below hbR2)) ?_;rintro e Q ⟨rfl,hbQ⟩;exact⟨hbQ,rb hright.symm,(zst hbR2 hbQ)⟩
   ·have h6:jY x n=false:=h6;rw [h6,Ug] at hright;exact⟨rb hright.symm,hbR2⟩
  ·have h5:zaR x=false:=h5;rw [h5,Ug] at hright;exact brF ⟨rb hright.symm,hbT2⟩
 ·have h4:jI x.po (poR x.ev)=false:=h4;rw [h4,Ug] at hright;exact brF (brF ⟨rb hright.symm,hbV2⟩)
theorem zn4 (hv:ExV w x q) (hT:Tz64M w):CB 14 #[.agg (exC x q c).toArray] w (.bool (za5 x)):=zn5 hv.w hT
end
section
variable {b c:Nat} {x:ExD} {q:OA}
theorem zbk {X:Wd} (fx:zw X ⟨b,0,none⟩ (exC x q c)):X.cell? ⟨b,0+0,none⟩=some (.slice q x.ev.length c):=zc fx (i:=0) rfl
end
section
variable {b c:Nat} {x:ExD} {q:OA}
theorem zas {X:Wd} (fx:ExH X b x q c) {i:Nat} (hi:i<6) {o:Nat} (ho:o=1+49*i):zw X ⟨b,0+o,none⟩ (zi ((zb7 x).getD i x.po)):=by
 rw [ho];exact zd3 fx hi
end
theorem zcB {r:RelD} (h:zh1 r=true):zP r.to:=by
 unfold zh1 at h;rw [Qh] at h;exact fun i hi=>dT (h i (Ul.2 hi))
theorem zeW {x:ExD} {q:OA} {X:Wd} (hv:SlR evE X q x.ev) (h:0<x.ev.length):∃ bq oq,q=some ⟨bq,oq,none⟩/\bq<X.heap.size/\∀ i,i<x.ev.length->zw X ⟨bq,oq+i*7,none⟩ (evE.enc (evA x i)):=by
 obtain⟨b,o,hq,hb,hat⟩:=hv.at h;refine⟨b,o,hq,hb,fun i hi=>?_⟩;have:=hat i hi;unfold evA;rw [gDe,gE hi];exact this
theorem zq5 {X:Wd} {b:Nat} {x:ExD} {q:OA} {c:Nat} (fx:ExH X b x q c):zw X ⟨b,0+1,none⟩ (zi x.po):=zas fx (i:=0) (by decide) rfl
theorem zq4 {X:Wd} {b:Nat} {x:ExD} {q:OA} {c:Nat} (fx:ExH X b x q c):zw X ⟨b,0+50,none⟩ (zi x.rf):=zas fx (i:=1) (by decide) rfl
theorem zoq {X:Wd} {b:Nat} {x:ExD} {q:OA} {c:Nat} (fx:ExH X b x q c):zw X ⟨b,0+99,none⟩ (zi x.co):=zas fx (i:=2) (by decide) rfl
theorem zq6 {X:Wd} {b:Nat} {x:ExD} {q:OA} {c:Nat} (fx:ExH X b x q c):zw X ⟨b,0+148,none⟩ (zi x.dt):=zas fx (i:=3) (by decide) rfl
theorem zq7 {X:Wd} {b:Nat} {x:ExD} {q:OA} {c:Nat} (fx:ExH X b x q c):zw X ⟨b,0+197,none⟩ (zi x.ct):=zas fx (i:=4) (by decide) rfl
theorem zq3 {X:Wd} {b:Nat} {x:ExD} {q:OA} {c:Nat} (fx:ExH X b x q c):zw X ⟨b,0+246,none⟩ (zi x.rm):=zas fx (i:=5) (by decide) rfl
theorem zra {p:Bool} (h:(!p)=true):p=false:=by simpa using h
theorem zq9 {p:Bool} (h:(!p)=false):p=true:=by simpa using h
theorem zoS {X:Wd} {b:Nat} {x:ExD} {q:OA} {c l:Nat} (fx:zw X ⟨b,0,none⟩ (exC x q c)) (hl:l<6):X.cell? ⟨b,0+295+32+l*1,none⟩=some (u8 (x.mem l)):=by
 have h:=zk0 (x:=x) q c;have h2:(exC x q c)[327+l]?=some (u8 (x.mem l)):=by
  have h3:(((exC x q c).drop 327).take 6)[l]?=some (u8 (x.mem l)):=by
   rw [h];unfold seg;rw [KS,Kg hl];rfl
  rw [List.getElem?_take_of_lt hl,Ku] at h3;exact h3
 have h4:=zc fx h2;rw [show 0+(327+l)=0+295+32+l*1 by omega] at h4;exact h4
def zqf (x:ExD):Bool:=decide (x.ev.length<=20)&&(zh1 x.po&&(zh1 x.rf&&(zh1 x.co&&(zh1 x.dt&&(zh1 x.ct&&zh1 x.rm)))))
theorem zoO {X:Wd} {x:ExD} {q:OA} (h:zqf x=true) (he:SlR evE X q x.ev):ExV X x q:=by
 unfold zqf at h;simp only [bAT,dE] at h;obtain⟨h1,h2,h3,h4,h5,h6,h7⟩:=h;exact⟨he,h1,zcB h2,zcB h3,zcB h4,zcB h5,zcB h6,zcB h7⟩
def zbw (x:ExD):List Value:=seg 32 (fun i=>u8 (x.regs i))++seg 6 (fun i=>u8 (x.mem i))
theorem zct (x:ExD):(zbw x).length=38:=by unfold zbw;rw [lap,zt,zt]
def zkY (x y:ExD):Bool:=(List.range 32).all (fun i=>decide (x.regs i=y.regs i))&&(List.range 6).all (fun i=>decide (x.mem i=y.mem i))
theorem zgu {m n:Nat} {f:Nat->UInt8} {i j:Nat} (hi:i<m) (h:m*n<=1000) (hj:j<n):zR (zR (seg (m*n) (fun i=>u8 (f i))) (i*n) n) (j*1) 1=[u8 (f (i*n+j))]:=by
 have hlt:i*n+j<m*n:=by
  have:(i+1)*n<=m*n:=Kb n hi;rw [UM] at this;omega
 apply KN;intro k;unfold zR;rw [UT]
 cases k with
 | zero =>
  rw [List.getElem?_take_of_lt (by decide),Ku,UI,List.getElem?_take_of_lt hj,Ku,zaZ _ hlt];rfl
 | succ k =>
  rw [JI (by rw [Qs];omega),JI (by simp)]
theorem zq1:∃ G,TyEq PG 53 true 38 4 G/\∀ x:ExD,G (zbw x):=by
 have r8:TyEq PG 49 true 8 2 _ := .array (m:=8) (by decide) Tryz.underlying49 (fun w=>Tryz.isAgg49 w) (qr (by kernel_rfl) (by kernel_rfl)).1 (by kernel_rfl) tU8;have r32:TyEq PG 50 true 32 3 _ := .array (m:=4) (by decide) Tryz.underlying50 (fun w=>Tryz.isAgg50 w) (qr (by kernel_rfl) (by kernel_rfl)).1 (by kernel_rfl) r8;have r6:TyEq PG 51 true 6 2 _ := .array (m:=6) (by decide) Tryz.underlying51 (fun w=>Tryz.isAgg51 w) (qr (by kernel_rfl) (by kernel_rfl)).1 (by kernel_rfl) tU8;refine⟨_,.struct (uf Tryz.underlying53).1 (by kernel_rfl) (fun w=>Tryz.isAgg53 w) (qr (by kernel_rfl) (by kernel_rfl)).1 (by kernel_rfl)
  (by rw [(uf Tryz.underlying53).2];exact .cons (by decide) rfl r32 (.cons (by decide) rfl (r6.up 1) .nil)),fun x=>?_⟩
 have e0:zR (zbw x) 0 32=seg (4*8) fun i=>u8 (x.regs i):=by
  unfold zbw zR;rw [Uj,Jf (by rw [zt];decide),JE (by rw [zt];decide)]
 have e1:zR (zbw x) 32 6=seg (1*6) fun i=>u8 (x.mem i):=by
  unfold zbw zR;rw [Jd (by rw [zt];decide),JA (by rw [zt];decide),QR,JE (by rw [zt];decide)]
 refine⟨?_,?_,trivial⟩
 ·show ∀ i,i<4->∀ j,j<8->zqJ .u8 (zR (zR (zR (zbw x) 0 32) (i*8) 8) (j*1) 1);intro i hi j hj;rw [e0,zgu hi (by decide) hj];exact⟨_,rfl⟩
 ·show ∀ j,j<6->zqJ .u8 (zR (zR (zbw x) 32 6) (j*1) 1);intro j hj;rw [e1];have h:=zgu (m:=1) (n:=6) (f:=x.mem) (i:=0) (j:=j) (by decide) (by decide) hj;have h2:zR (seg (1*6) fun i=>u8 (x.mem i)) (0*6) 6=seg (1*6) fun i=>u8 (x.mem i):=by
   unfold zR;rw [UO,Uj,JE (by rw [zt];decide)]
  rw [h2] at h;rw [h];exact⟨_,rfl⟩
theorem zeN {n:Nat} {f g:Nat->UInt8}:seg n (fun i=>u8 (f i))=seg n (fun i=>u8 (g i))↔∀ i,i<n->f i=g i:=by
 constructor
 ·intro h i hi;have h1:=zaZ (n:=n) (fun i=>u8 (f i)) hi;rw [h,zaZ (n:=n) (fun i=>u8 (g i)) hi] at h1;have h2:=Uc h1;unfold u8 at h2;injection h2 with _ h3;exact (qV.1 h3).symm
 ·intro h;unfold seg;exact Kj fun i hi=>by rw [h i (Ul.1 hi)]
theorem zkX {x y:ExD}:zbw x=zbw y↔zkY x y=true:=by
 unfold zkY;rw [bAT,Qh,Qh];have hl:(seg 32 fun i=>u8 (x.regs i)).length=(seg 32 fun i=>u8 (y.regs i)).length:=by rw [zt,zt]
 constructor
 ·intro h;unfold zbw at h;obtain⟨h1,h2⟩:=List.append_inj h hl;exact⟨fun i hi=>Up (zeN.1 h1 i (Ul.1 hi)),fun i hi=>Up (zeN.1 h2 i (Ul.1 hi))⟩
 ·rintro⟨h1,h2⟩;unfold zbw;rw [zeN.2 fun i hi=>dT (h1 i (Ul.2 hi)),zeN.2 fun i hi=>dT (h2 i (Ul.2 hi))]
theorem zoX (u v:Operand) (x y:ExD) (w:Wd):(do eqGuard .eql 53 u v (.agg (zbw x).toArray) (.agg (zbw y).toArray);binOp .eql 53 (.agg (zbw x).toArray) (.agg (zbw y).toArray)).run PG w = .ok (.bool (zkY x y)) w:=by
 obtain⟨G,h1,h2⟩:=zq1;have:=zhF h1 9996 rfl (by kernel_rfl) (zct x) (zct y) (h2 x) (h2 y) u v w;rw [this,zcv zkX,Ke]
theorem znw {X:Wd} {b:Nat} {x:ExD} {q:OA} {c:Nat} (fx:ExH X b x q c):zw X ⟨b,0+295,none⟩ (zbw x):=by
 have h:=zF (n:=295) (m:=38) (za fx);have e:((exC x q c).toArray.toList.drop 295).take 38=zbw x:=by
  show ((exC x q c).drop 295).take 38=_;have e2:exC x q c=(.slice q x.ev.length c::(zi x.po++(zi x.rf++(zi x.co++(zi x.dt++(zi x.ct++zi x.rm))))))++zbw x:=by
   unfold exC zbw;simp only [KM,Qj]
  have e3:(Value.slice q x.ev.length c::(zi x.po++(zi x.rf++(zi x.co++(zi x.dt++(zi x.ct++zi x.rm)))))).length=295:=by simp only [Qq,lap,zj]
  rw [e2,<- e3,Ui,JE (by rw [zct];decide)]
 rw [e] at h;exact h
def zdr (x y:ExD):Bool:=jI x.po y.po&&(jI x.rf y.rf&&(jI x.co y.co&&(jI x.dt y.dt&&(jI x.ct y.ct&&(jI x.rm y.rm&&zkY x y)))))
def zfa (x y:ExD):Bool:=decide (x.ev.length=y.ev.length)&&((List.range x.ev.length).all (fun i=>decide (evA x i=evA y i))&&zdr x y)
theorem zbB (a:RelD):jI a a=true:=zgy.1 rfl
theorem zlA (x:ExD):zfa x x=true:=by
 unfold zfa zdr;rw [zbB,zbB,zbB,zbB,zbB,zbB,zkX.1 rfl];simp
theorem zmV {n i:Nat} {f:Nat->Bool} (hi:i<n) (h:f i=false):(List.range n).all f=false:=by
 rw [KK];exact⟨i,Ul.2 hi,by rw [h];decide⟩
theorem zlI {n:Nat} {f:Nat->Bool} (h:∀ i,i<n->f i=true):(List.range n).all f=true:=by
 rw [Qh];exact fun i hi=>h i (Ul.1 hi)
theorem zjL {k:Nat} {f:Nat->Bool} (h:∀ i,i<k->f i=true) (hk:f k=true):∀ i,i<k+1->f i=true:=fun i hi=>by
 by_cases e:i=k
 ·rw [e];exact hk
 ·exact h i (by omega)
section
variable {w:Wd} {c d:Nat} {x y:ExD} {q r:OA}
theorem zli (hx0:SlR evE w q x.ev) (hy0:SlR evE w r y.ev) (hl:x.ev.length<4611686018427387904):CB 13 #[.agg (exC x q c).toArray,.agg (exC y r d).toArray] w (.bool (zfa x y)):=by
 refine qP 78 [.agg (exC x q c).toArray,.agg (exC y r d).toArray] (.c .p (.c .p (.c .p .p))) Tryz.func13 ?_;obtain⟨L,hL⟩:=nm (w.heap.size);refine⟨Unit,fun _=>⟨[(2,At0 L),(3,At0 (L+1))],[]⟩,fun _ X=>ExH X L x q c/\ExH X (L+1) y r d/\Bw w X,?_,?_⟩
 ·have s1:=wz w (.cells (exC x q c).toArray 55);have h2:=zx (w.alloc (.cells (exC x q c).toArray 55)) (.cells (exC y r d).toArray 55);rw [s1] at h2;have b1:Bw w (w.alloc (.cells (exC x q c).toArray 55)):=zba w _;exact⟨(),⟨.cons (by rw [hL];rfl) (.cons (by rw [hL,<- s1];rfl) .nil),rfl⟩,by rw [hL];exact qm _ (zx w _),by rw [hL];exact h2,b1.alloc b1.size _⟩
 rintro _ X ⟨fX,fY,hbX⟩;refine⟨Unit,fun _=>⟨[(2,At0 L),(3,At0 (L+1))],[]⟩,fun _ Z=>x.ev.length=y.ev.length/\ExH Z L x q c/\ExH Z (L+1) y r d/\Bw w Z,?_,?_⟩
 ·refine⟨_,zbk (za fX),_,zbk (za fY),biE (fun h1=>?_) fun h1=>?_⟩
  ·have h1:=zra h1;exact⟨rb (by unfold zfa;rw [Ue (fun e=>(dF h1) (by rw [e])),Ug]),hbX⟩
  ·have h1:=zq9 h1;exact⟨(),(cvE rfl rfl),Uw (dT h1),fX,fY,hbX⟩
 clear fX fY hbX;rintro _ X ⟨hlen,fX,fY,hbX⟩;have hs:zfa x y=((List.range x.ev.length).all (fun i=>decide (evA x i=evA y i))&&zdr x y):=by unfold zfa;rw [Up hlen];rfl
 rw [hs];refine⟨Unit,fun _=>⟨[(2,At0 L),(3,At0 (L+1))],[]⟩,fun _ Z=>(List.range x.ev.length).all (fun i=>decide (evA x i=evA y i))=true/\ExH Z L x q c/\ExH Z (L+1) y r d/\Bw w Z,?_,?_⟩
 ·refine⟨_,zbk (za fX),Nat,fun i=>⟨[(2,At0 L),(3,At0 (L+1)),(15,i64 x.ev.length),(16,i64 (i:Nat))],[]⟩,fun i Z=>i<=x.ev.length/\(∀ j,j<i->decide (evA x j=evA y j)=true)/\ExH Z L x q c/\ExH Z (L+1) y r d/\Bw w Z,fun i=>x.ev.length-i,0,(cvE rfl rfl),⟨UV _,fun j hj=>by omega,fX,fY,hbX⟩,?_⟩;clear fX fY hbX;rintro i X ⟨hi,hall,fX,fY,hbX⟩;dsimp only;refine biE (fun hc=>?_) fun hc=>?_
  ·have hc:(i:Int)<(x.ev.length:Int):=dT hc;have hin:i<x.ev.length:=by omega
   obtain⟨bx,ox,hqx,hbx,hatx⟩:=zeW hx0 (by omega);obtain⟨by_,oy,hqy,hby,haty⟩:=zeW hy0 (by omega);subst hqx hqy;have hx:bx<w.heap.size/\∀ i,i<x.ev.length->zw w ⟨bx,ox+i*7,none⟩ (evE.enc (evA x i)):=⟨hbx,hatx⟩;have hy:by_<w.heap.size/\∀ i,i<y.ev.length->zw w ⟨by_,oy+i*7,none⟩ (evE.enc (evA y i)):=⟨hby,haty⟩;have dX:Bw X X.drew:=(UX _ _).drew;refine DrawE.ord [] [0,1,2,3,4,5,6,7,8,9,10] (by kernel_rfl) ?_;replace fX:=zb dX fX;replace fY:=zb dX fY;replace hbX:=zst hbX dX;refine⟨_,zbk (za fX),i,rfl,by omega,?_⟩;refine⟨_,rfl,zo hbX (hx.2 i (by omega)),nL hx.1 hbX.size,_,zbk (za fY),i,rfl,by omega,?_⟩;refine⟨_,rfl,zo hbX (hy.2 i (by omega)),nL hy.1 hbX.size,_,fun w=>zm7 _ _ _ _ w,biE (fun h1=>?_) fun h1=>?_⟩
   ·have h1:=zra h1;exact⟨rb (by rw [zmV hin h1];rfl),hbX⟩
   ·have h1:=zq9 h1;exact nxI (by omega) ⟨i+1,(cvE rfl rfl),⟨hin,zjL hall h1,fX,fY,hbX⟩,zdc (by omega)⟩
  ·have hc:¬ (i:Int)<(x.ev.length:Int):=dF hc;exact⟨(),(cvE rfl rfl),zlI fun j hj=>hall j (by omega),fX,fY,hbX⟩
 clear fX fY hbX;rintro _ X ⟨hev,fX,fY,hbX⟩;rw [hev,Uv];unfold zdr;refine⟨_,zj _,zq5 fX,hlt fX,_,zj _,zq5 fY,hlt fY,_,fun w=>zaS _ _ _ _ w,biE (fun h1=>?_) fun h1=>?_⟩
 ·refine⟨_,zj _,zq4 fX,hlt fX,_,zj _,zq4 fY,hlt fY,_,fun w=>zaS _ _ _ _ w,biE (fun h2=>?_) fun h2=>?_⟩
  ·refine⟨_,zj _,zoq fX,hlt fX,_,zj _,zoq fY,hlt fY,_,fun w=>zaS _ _ _ _ w,biE (fun h3=>?_) fun h3=>?_⟩
   ·refine⟨_,zj _,zq6 fX,hlt fX,_,zj _,zq6 fY,hlt fY,_,fun w=>zaS _ _ _ _ w,biE (fun h4=>?_) fun h4=>?_⟩
    ·refine⟨_,zj _,zq7 fX,hlt fX,_,zj _,zq7 fY,hlt fY,_,fun w=>zaS _ _ _ _ w,biE (fun h5=>?_) fun h5=>?_⟩
     ·refine⟨_,zj _,zq3 fX,hlt fX,_,zj _,zq3 fY,hlt fY,_,fun w=>zaS _ _ _ _ w,biE (fun h6=>?_) fun h6=>?_⟩
      ·exact⟨_,zct _,znw fX,hlt fX,_,zct _,znw fY,hlt fY,_,fun w=>zoX _ _ x y w,rb (by simp [h1,h2,h3,h4,h5,h6]),hbX⟩
      ·exact⟨rb (by simp [h1,h2,h3,h4,h5,h6]),hbX⟩
     ·exact brF ⟨rb (by simp [h1,h2,h3,h4,h5]),hbX⟩
    ·exact brF (brF ⟨rb (by simp [h1,h2,h3,h4]),hbX⟩)
   ·exact brF (brF (brF ⟨rb (by simp [h1,h2,h3]),hbX⟩))
  ·exact brF (brF (brF (brF ⟨rb (by simp [h1,h2]),hbX⟩)))
 ·exact brF (brF (brF (brF (brF ⟨rb (by simp [h1]),hbX⟩))))
end
def Rds (ev:Nat->Ev) (n s:Nat):Prop:=∀ b,s.testBit b=true->b<n/\(ev b).k=1
theorem zfd (ev:Nat->Ev) (n:Nat):Rds ev n 0:=fun b h=>by simp at h
theorem Rds.or {ev:Nat->Ev} {n s t:Nat} (h:Rds ev n s) (k:Rds ev n t):Rds ev n (s|||t):=fun b hb=>by
 rw [Uo,QE] at hb;exact hb.elim (h b) (k b)
theorem Rds.mono {ev:Nat->Ev} {n m s:Nat} (h:Rds ev n s) (hm:n<=m):Rds ev m s:=fun b hb=>⟨nL (h b hb).1 hm,(h b hb).2⟩
theorem zeQ {ev:Nat->Ev} {n b:Nat} (hb:b<n) (hk:(ev b).k=1):Rds ev n (2^b):=fun c hc=>by
 rw [Km] at hc;have e:b=c:=dT hc;rw [<- e];exact⟨hb,hk⟩
theorem Rds.upd {ev:Nat->Ev} {n m s:Nat} {e:Ev} (h:Rds ev n s) (hm:n<=m):Rds (upd ev m e) n s:=fun b hb=>by
 obtain⟨h1,h2⟩:=h b hb;rw [qi _ _ (by omega)];exact⟨h1,h2⟩
def zqM (k i:Nat) (e:Ev):Prop:=e.th=0/\e.p=UInt8.ofNat i/\(((e.k=1\/e.k=2)/\e.l.toNat<k)\/(e.k=3/\e.l=0/\e.v=0))
structure RunW (k:Nat) (R:RunD):Prop where
 ev:∀ i,i<R.many->zqM k i (R.ev i)
 deps:∀ j,Rds R.ev R.many (R.deps j)
 ctl:Rds R.ev R.many R.ctl
 data:∀ i,i<R.many->Rds R.ev i (R.data i)/\(R.data i≠0->(R.ev i).k=2)
 ctrl:∀ i,i<R.many->Rds R.ev i (R.ctrl i)
 att:∀ i,i<R.many->R.att i=0\/∃ b,i=b+1/\R.att i=2^b/\(R.ev b).k=1/\(R.ev i).k=2/\(R.ev b).l=(R.ev i).l
 fresh:∀ i,R.many<=i->R.att i=0
theorem zpM (k:Nat):RunW k zf9 where
 ev:=fun i h=>Gl h (QY i)
 deps:=fun j=>zfd _ _
 ctl:=zfd _ _
 data:=fun i h=>Gl h (QY i)
 ctrl:=fun i h=>Gl h (QY i)
 att:=fun i h=>Gl h (QY i)
 fresh:=fun i _=>rfl
section
variable {k:Nat} {R:RunD} {x:InsD} {v:UInt8}
theorem RunW.val (h:RunW k R) (r:Bool) (n:UInt8):Rds R.ev R.many (qg r n R).2:=by
 unfold qg
 split
 ·exact h.deps _
 ·exact zfd _ _
theorem RunW.emit (h:RunW k R) {kd l v m:UInt8} {d:Nat} (he:((kd=1\/kd=2)/\l.toNat<k)\/(kd=3/\l=0/\v=0)) (hd:Rds R.ev R.many d) (hk:d≠0->kd=2):RunW k (zap R kd l v m d):=by
 have old:∀ {i:Nat},i<R.many->upd R.ev R.many ⟨0,kd,l,v,m,UInt8.ofNat R.pc,UInt8.ofNat R.many⟩ i=R.ev i:=fun {i} hi=>qi _ _ (by omega);have new:upd R.ev R.many ⟨0,kd,l,v,m,UInt8.ofNat R.pc,UInt8.ofNat R.many⟩ R.many=⟨0,kd,l,v,m,UInt8.ofNat R.pc,UInt8.ofNat R.many⟩:=zJ _ _ _;have spl:∀ {i:Nat},i<R.many+1->i=R.many\/i<R.many:=fun {i} hi=>by omega
 refine⟨fun i hi=>?_,fun j=>(((h.deps j).upd (US _)).mono (Nat.le_succ _)),(h.ctl.upd (US _)).mono (Nat.le_succ _),fun i hi=>?_,fun i hi=>?_,fun i hi=>?_,fun i hi=>h.fresh i (by have:R.many+1<=i:=hi;omega)⟩
 ·show zqM k i (upd R.ev R.many _ i);rcases spl hi with e | hi
  ·rw [e,new];exact⟨rfl,rfl,he⟩
  ·rw [old hi];exact h.ev i hi
 ·show Rds (upd R.ev R.many _) i (upd R.data R.many d i)/\(upd R.data R.many d i≠0->(upd R.ev R.many _ i).k=2);rcases spl hi with e | hi
  ·rw [e,zJ,new];exact⟨hd.upd (US _),hk⟩
  ·rw [qi _ _ (by omega),old hi];exact⟨(h.data i hi).1.upd (Nat.le_of_lt hi),(h.data i hi).2⟩
 ·show Rds (upd R.ev R.many _) i (upd R.ctrl R.many R.ctl i);rcases spl hi with e | hi
  ·rw [e,zJ];exact h.ctl.upd (US _)
  ·rw [qi _ _ (by omega)];exact (h.ctrl i hi).upd (Nat.le_of_lt hi)
 ·show R.att i=0\/∃ b,i=b+1/\R.att i=2^b/\(upd R.ev R.many _ b).k=1/\(upd R.ev R.many _ i).k=2/\(upd R.ev R.many _ b).l=(upd R.ev R.many _ i).l;rcases spl hi with e | hi
  ·exact .inl (h.fresh i (by omega))
  ·rcases h.att i hi with h0 | ⟨b,hb,h1,h2,h3,h4⟩
   ·exact .inl h0
   ·refine .inr ⟨b,hb,h1,?_⟩;rw [old hi,old (by omega)];exact⟨h2,h3,h4⟩
theorem RunW.set (h:RunW k R) {d v:UInt8} {s:Nat} (hs:Rds R.ev R.many s):RunW k (zhf R d v s):=by
 refine⟨h.ev,fun j=>?_,h.ctl,h.data,h.ctrl,h.att,h.fresh⟩;show Rds R.ev R.many (upd R.deps d.toNat s j);by_cases e:j=d.toNat
 ·rw [e,zJ];exact hs
 ·rw [qi _ _ e];exact h.deps j
structure ExchW (k:Nat) (R S:RunD) (x:InsD):Prop where
 w:RunW k S
 m:S.many=R.many+2
 k1:(S.ev R.many).k=1
 k2:(S.ev (R.many+1)).k=2
 a:S.att (R.many+1)=2^R.many
theorem RunW.exch (h:RunW k R) (hl:x.loc.toNat<k) {o v:UInt8} {d:Nat} (hd:Rds R.ev R.many d):ExchW k R (zca R x o v d) x:=by
 have h1:=h.emit (kd:=1) (l:=x.loc) (v:=o) (m:=3) (d:=0) (.inl ⟨.inl rfl,hl⟩) (zfd _ _) (fun e=>Gl rfl e);have hd1:Rds (zap R 1 x.loc o 3 0).ev (R.many+1) d:=(hd.upd (US _)).mono (Nat.le_succ _);have h2:=h1.emit (kd:=2) (l:=x.loc) (v:=v) (m:=3) (d:=d) (.inl ⟨.inr rfl,hl⟩) hd1 (fun _=>rfl);obtain⟨S,hS⟩:=nm (zap (zap R 1 x.loc o 3 0) 2 x.loc v 3 d);rw [<- hS] at h2;have sm:S.many=R.many+2:=by rw [hS];rfl
 have e1:S.ev R.many=⟨0,1,x.loc,o,3,UInt8.ofNat R.pc,UInt8.ofNat R.many⟩:=by
  rw [hS];show upd (upd R.ev R.many _) (R.many+1) _ R.many=_;rw [qi _ _ (by omega),zJ]
 have e2:S.ev (R.many+1)=⟨0,2,x.loc,v,3,UInt8.ofNat R.pc,UInt8.ofNat (R.many+1)⟩:=by
  rw [hS];show upd (upd R.ev R.many _) (R.many+1) _ (R.many+1)=_;rw [zJ];rfl
 have h3:RunW k { S with att:=upd S.att (R.many+1) (2^R.many) }:=by
  refine⟨h2.ev,h2.deps,h2.ctl,h2.data,h2.ctrl,fun i hi=>?_,fun i hi=>?_⟩
  ·show upd S.att (R.many+1) (2^R.many) i=0\/∃ b,i=b+1/\upd S.att (R.many+1) (2^R.many) i=2^b/\(S.ev b).k=1/\(S.ev i).k=2/\(S.ev b).l=(S.ev i).l;by_cases e:i=R.many+1
   ·rw [e,zJ];exact .inr ⟨R.many,rfl,rfl,by rw [e1],by rw [e2],by rw [e1,e2]⟩
   ·rw [qi _ _ e];exact h2.att i hi
  ·show upd S.att (R.many+1) (2^R.many) i=0;have hi:S.many<=i:=hi;rw [qi _ _ (by omega)];exact h2.fresh i hi
 have h4:=RunW.set (d:=x.dst) (v:=o) h3 (zeQ (b:=R.many) (by show R.many<S.many;omega) (by show (S.ev R.many).k=1;rw [e1]));have e5:zca R x o v d=zhf { S with att:=upd S.att (R.many+1) (2^R.many) } x.dst o (2^R.many):=by rw [hS];rfl
 rw [e5];exact⟨h4,sm,by show (S.ev R.many).k=1;rw [e1],by show (S.ev (R.many+1)).k=2;rw [e2],zJ _ _ _⟩
theorem ExchW.rd {S:RunD} (h:ExchW k R S x):Rds S.ev (R.many+1) (2^R.many):=zeQ (Qy _) h.k1
theorem RunW.fetch (h:RunW k R) (hl:x.loc.toNat<k):RunW k (zeg R x v):=by
 have h1:=RunW.exch (o:=v) (v:=v+(qg x.ar x.an R).1) (d:=(qg x.ar x.an R).2) h hl (h.val x.ar x.an);obtain⟨S,hS⟩:=nm (zca R x v (v+(qg x.ar x.an R).1) (qg x.ar x.an R).2);rw [<- hS] at h1;have e:zeg R x v={ S with data:=upd S.data (R.many+1) (S.data (R.many+1)|||S.att (R.many+1)) }:=by rw [hS];rfl
 rw [e];have hw:=h1.w;have hm:=h1.m;refine⟨hw.ev,hw.deps,hw.ctl,fun i hi=>?_,hw.ctrl,hw.att,hw.fresh⟩;show Rds S.ev i (upd S.data (R.many+1) _ i)/\(upd S.data (R.many+1) _ i≠0->(S.ev i).k=2);by_cases e:i=R.many+1
 ·rw [e,zJ,h1.a];exact⟨(hw.data _ (by omega)).1.or h1.rd,fun _=>h1.k2⟩
 ·rw [qi _ _ e];exact hw.data i hi
theorem RunW.cas (h:RunW k R) (hl:x.loc.toNat<k):RunW k (zcR R x v):=by
 by_cases hv:v=(qg x.ar x.an R).1
 ·have h1:=RunW.exch (o:=v) (v:=(qg x.br x.bn R).1) (d:=(qg x.br x.bn R).2) h hl (h.val x.br x.bn);obtain⟨S,hS⟩:=nm (zca R x v (qg x.br x.bn R).1 (qg x.br x.bn R).2);rw [<- hS] at h1;have hw:=h1.w;have hm:=h1.m;have ha:Rds S.ev (R.many+1) (qg x.ar x.an R).2:=by
   have h2:Rds R.ev R.many (qg x.ar x.an R).2:=h.val _ _;have e1:∀ b,b<R.many->S.ev b=R.ev b:=fun b hb=>by
    rw [hS];show upd (upd R.ev R.many _) (R.many+1) _ b=_;rw [qi _ _ (by omega),qi _ _ (by omega)]
   intro b hb;obtain⟨c1,c2⟩:=h2 b hb;rw [e1 b c1];exact⟨by omega,c2⟩
  have e:zcR R x v={ S with ctrl:=upd S.ctrl (R.many+1) (S.ctrl (R.many+1)|||(S.att (R.many+1)|||(qg x.ar x.an R).2)) }:=by
   unfold zcR;rw [Gk hv,hS]
  rw [e];clear e;refine⟨hw.ev,hw.deps,hw.ctl,hw.data,fun i hi=>?_,hw.att,hw.fresh⟩;show Rds S.ev i (upd S.ctrl (R.many+1) _ i);by_cases e:i=R.many+1
  ·rw [e,zJ,h1.a];exact (hw.ctrl _ (by omega)).or (h1.rd.or ha)
  ·rw [qi _ _ e];exact hw.ctrl i hi
 ·have e:zcR R x v=zhf (zap R 1 x.loc v 3 0) x.dst v (2^R.many):=by unfold zcR;rw [Gj hv]
  rw [e];have h1:=h.emit (kd:=1) (l:=x.loc) (v:=v) (m:=3) (d:=0) (.inl ⟨.inl rfl,hl⟩) (zfd _ _) (fun e=>Gl rfl e);refine RunW.set h1 (zeQ (b:=R.many) (Qy _) ?_);show (upd R.ev R.many _ R.many).k=1;rw [zJ]
theorem RunW.pc (h:RunW k R) (n:Nat):RunW k { R with pc:=n }:=⟨h.ev,h.deps,h.ctl,h.data,h.ctrl,h.att,h.fresh⟩
theorem RunW.eff (h:RunW k R) (hx:ExG x) (hl:x.op=1\/x.op=2\/x.op=4\/x.op=5\/x.op=6->x.loc.toNat<k):RunW k (zdQ R x v):=by
 rcases hx with ⟨e,-⟩ | ⟨e,-⟩ | ⟨e,-⟩ | ⟨e,-⟩ | ⟨e,-⟩ | ⟨e,-⟩ | e | ⟨e,-⟩
 ·rw [zY.1 e];have h1:=h.emit (kd:=1) (l:=x.loc) (v:=v) (m:=x.mode) (d:=0) (.inl ⟨.inl rfl,hl (.inl e)⟩) (zfd _ _) (fun e=>Gl rfl e);refine RunW.set h1 (zeQ (b:=R.many) (Qy _) ?_);show (upd R.ev R.many _ R.many).k=1;rw [zJ]
 ·rw [zY.2.1 e];exact h.emit (.inl ⟨.inr rfl,hl (.inr (.inl e))⟩) (h.val _ _) (fun _=>rfl)
 ·rw [zY.2.2.1 e];exact h.set ((h.val _ _).or (h.val _ _))
 ·rw [zY.2.2.2.1 e];exact (h.exch (hl (.inr (.inr (.inl e)))) (h.val _ _)).w
 ·rw [zY.2.2.2.2.1 e];exact h.fetch (hl (.inr (.inr (.inr (.inl e)))))
 ·rw [zY.2.2.2.2.2.1 e];exact h.cas (hl (.inr (.inr (.inr (.inr e)))))
 ·rw [zY.2.2.2.2.2.2.1 e];exact h.emit (.inr ⟨rfl,rfl,rfl⟩) (zfd _ _) (fun e=>Gl rfl e)
 ·rw [zY.2.2.2.2.2.2.2 e];have h1:RunW k { R with ctl:=R.ctl|||((qg x.ar x.an R).2|||(qg x.br x.bn R).2) }:=⟨h.ev,h.deps,h.ctl.or ((h.val _ _).or (h.val _ _)),h.data,h.ctrl,h.att,h.fresh⟩;unfold zbf;dsimp only
  split
  ·exact h1.pc _
  ·exact h1
theorem RunW.exec (h:RunW k R) (hx:ExG x) (hl:x.op=1\/x.op=2\/x.op=4\/x.op=5\/x.op=6->x.loc.toNat<k):RunW k (zX R x v):=RunW.pc (h.eff hx hl) _
end
def ThW (k:Nat) (l:List InsD):Prop:=∀ x∈l,ExG x/\(x.op=1\/x.op=2\/x.op=4\/x.op=5\/x.op=6->x.loc.toNat<k)
theorem zpK {l:List InsD} {k:Nat} (h:z9 l k=true):ThW k l:=fun x hx=>by
 unfold z9 at h;rw [bAT,dE,Qh] at h;obtain⟨i,hi,rfl⟩:=Kh hx;have:=h.2 i (Ul.2 hi);rw [gE hi] at this;exact⟨(zhC this).1,(zhC this).2.2⟩
theorem RunW.go {k:Nat} {l:List InsD} (ht:ThW k l):∀ (n:Nat) (S:RunD),RunW k S->RunW k (goR l n S)
 | 0,S,h=>h
 | n+1,S,h=>by
  show RunW k (match l[S.pc]? with | none=>S | some x=>if zbs x then S else goR l n (zX S x 0))
  cases hg:l[S.pc]? with
  | none=>exact h
  | some x =>
   dsimp only
   split
   ·exact h
   ·obtain⟨a,b⟩:=ht x (JW hg);exact RunW.go ht n _ (h.exec a b)
theorem RunW.spread {k:Nat} {l:List InsD} (ht:ThW k l) (dom:List UInt8):∀ (n:Nat) (S:RunD),RunW k S->∀ R∈zS l dom n S,RunW k R
 | 0,S,h,R,hR=>by
  have hR:R∈[goR l l.length S]:=hR;rw [Ky] at hR;rw [hR];exact RunW.go ht _ _ h
 | n+1,S,h,R,hR=>by
  have hT:=RunW.go ht l.length S h;have hR:R∈(match l[(goR l l.length S).pc]? with | none=>[goR l l.length S] | some x=>dom.flatMap fun v=>zS l dom n (zX (goR l l.length S) x v)):=hR
  cases hg:l[(goR l l.length S).pc]? with
  | none =>
   rw [hg] at hR;have hR:=Ky.1 hR;rw [hR];exact hT
  | some x =>
   rw [hg] at hR;obtain⟨v,-,hv⟩:=List.mem_flatMap.1 hR;obtain⟨a,b⟩:=ht x (JW hg);exact RunW.spread ht dom n _ (hT.exec a b) R hv
theorem zql {l:List InsD} {k:Nat} (h:z9 l k=true) (dom:List UInt8):∀ R∈qH l dom,RunW k R/\R.many<=24:=fun R hR =>
 ⟨RunW.spread (zpK h) dom _ _ (zpM k) R hR,(zeX (zjv h) dom R hR).1⟩
structure PathW (k:Nat) (P:PathD):Prop where
 n:P.ev.length<=24
 ev:∀ i e,P.ev[i]?=some e->zqM k i e
 dt:∀ p∈P.data,∃ a b,P.ev[p.1]?=some a/\P.ev[p.2]?=some b/\p.1<p.2/\a.k=1/\b.k=2
 ct:∀ p∈P.ctrl,∃ a b,P.ev[p.1]?=some a/\P.ev[p.2]?=some b/\p.1<p.2/\a.k=1
 rm:∀ p∈P.rmw,∃ a b,P.ev[p.1]?=some a/\P.ev[p.2]?=some b/\p.2=p.1+1/\a.k=1/\b.k=2/\a.l=b.l
 dtl:P.data.length<=100000
 ctl:P.ctrl.length<=100000
 rml:P.rmw.length<=100000
theorem zc8 {f:Nat->Nat} {n:Nat} {p:Nat×Nat} (h:p∈zcl f n):p.2<n/\(f p.2).testBit p.1=true:=by
 unfold zcl at h;obtain⟨i,hi,h⟩:=List.mem_flatMap.1 h;obtain⟨a,ha,rfl⟩:=UG.1 h;exact⟨Ul.1 hi,(zcH.1 ha).2⟩
theorem zd9 (f:Nat->Nat) {n:Nat} (h:n<=24):(zcl f n).length<=100000:=by
 rw [<- zcF];have:=zd8 ((List.range n).map f) 0;rw [QK,KT] at this;omega
theorem zbZ {R:RunD} {i:Nat} (h:i<R.many):(zaM R).ev[i]?=some (R.ev i):=by
 show ((List.range R.many).map R.ev)[i]?=_;rw [KS,Kg h];rfl
theorem zpW {k:Nat} {R:RunD} (h:RunW k R) (hm:R.many<=24):PathW k (zaM R):=by
 have hl:(zaM R).ev.length=R.many:=by show ((List.range R.many).map R.ev).length=_;rw [QK,KT]
 refine⟨by omega,fun i e he=>?_,fun p hp=>?_,fun p hp=>?_,fun p hp=>?_,zd9 _ hm,zd9 _ hm,zd9 _ hm⟩
 ·have hi:i<R.many:=by rw [<- hl];exact (Jq.1 he).1
  rw [zbZ hi] at he;rw [<- Uc he];exact h.ev i hi
 ·obtain⟨h1,h2⟩:=zc8 hp;obtain⟨h3,h4⟩:=h.data _ h1;obtain⟨h5,h6⟩:=h3 _ h2;exact⟨_,_,zbZ (by omega),zbZ h1,h5,h6,h4 (fun e=>by rw [e] at h2;simp at h2)⟩
 ·obtain⟨h1,h2⟩:=zc8 hp;obtain⟨h5,h6⟩:=h.ctrl _ h1 _ h2;exact⟨_,_,zbZ (by omega),zbZ h1,h5,h6⟩
 ·obtain⟨h1,h2⟩:=zc8 hp;rcases h.att _ h1 with e | ⟨b,e1,e2,e3,e4,e5⟩
  ·rw [e] at h2;simp at h2
  ·rw [e2,Km] at h2;have e:b=p.1:=dT h2;subst e;exact⟨_,_,zbZ (by omega),zbZ h1,e1,e3,e4,e5⟩
theorem PathW.b {k:Nat} {P:PathD} (h:PathW k P):PathB k P:=by
 have lt:∀ {i:Nat} {e:Ev},P.ev[i]?=some e->i<P.ev.length:=fun {i e} he=>(Jq.1 he).1;refine⟨h.n,fun e he hk=>?_,fun p hp=>?_,fun p hp=>?_,fun p hp=>?_,h.dtl,h.ctl,h.rml⟩
 ·obtain⟨i,hi,rfl⟩:=Kh he;rcases (h.ev i _ (gE hi)).2.2 with h1 | ⟨h1,_⟩
  ·exact h1.2
  ·rw [h1] at hk;rcases hk with hk | hk <;> exact Gl hk (by decide)
 ·obtain⟨a,b,h1,h2,_⟩:=h.dt p hp;exact⟨lt h1,lt h2⟩
 ·obtain⟨a,b,h1,h2,_⟩:=h.ct p hp;exact⟨lt h1,lt h2⟩
 ·obtain⟨a,b,h1,h2,_⟩:=h.rm p hp;exact⟨lt h1,lt h2⟩
end Go.Proofs.YtpalcnbhkigagaaGreatDoor
namespace Go.Sei
def zdT (f:Nat->Bool) (n:Nat):Nat:=((List.range n).filter f).length
theorem zjW (e:Ev) (es:List Ev):qM (e::es)=if e.th = -1 then qM es+1 else 0:=by
 unfold qM;rw [Kl];by_cases h:e.th = -1
 ·rw [Gk (Up h),Gk h,Qq]
 ·rw [Gj (by simp [h]),Gj h];rfl
section
variable {L:List Ev} {locs:Nat}
theorem zbL (f:Nat->Bool) (n:Nat):zdT f (n+1)=zdT f n+if f n=true then 1 else 0:=by
 unfold zdT;rw [QT,Kt,lap,Ql,List.filter_nil]
 split <;> rfl
theorem znK {f:Nat->Bool} {n:Nat} (h:∀ k,k<n->f k=false):zdT f n=0:=by
 unfold zdT;rw [List.length_eq_zero_iff,JB];intro k hk;rw [h k (Ul.1 hk)];decide
end
end Go.Sei
namespace Go.Proofs.YtpalcnbhkigagaaGreatDoor
open Go.Vc Go.RowKit Go.Sei
theorem zgw (k:Nat) (p:Nat->Bool):zjF (k+1) p=if p k=true then zjF k p|||2^k else zjF k p:=by
 unfold zjF;rw [QT,KR];rfl
theorem zhl (p:Nat->Bool):∀ k,k<=64->zjF k p<2^64
 | 0,_=>by show 0<_;decide
 | k+1,h=>by
  rw [zgw]
  split
  ·exact KW (zhl p k (by omega)) (z7 (by omega))
  ·exact zhl p k (by omega)
theorem zmZ {n:Nat} {p:Nat->Nat->Bool} (hn:n<=64):zP (zkH n p).to:=zmd fun i _ _=>zhl _ n hn
structure RelOk (n:Nat) (r:RelD):Prop where
 n:r.n=n
 ok:okR r=true
 w:zP r.to
section
variable {n:Nat} {r a b:RelD}
theorem RelOk.le (h:RelOk n r):n<=48:=by
 have:=(zav h.ok).2.1;have:=h.n;omega
theorem zp4 (hn:r.n=n) (h48:n<=48) (h:∀ i j,i<48->j7 r i j=true->i<n/\j<n):okR r=true:=by
 unfold okR;rw [bAT,bAT,dE,dE,Qh];refine⟨by omega,by omega,fun i hi=>?_⟩;have hi:=Ul.1 hi;unfold za3;rw [bAT,QE,dE,dE,dE];refine⟨?_,?_⟩
 ·rw [zcq,zaB];apply Ka;intro j;rw [QB];by_cases hj:j<64
  ·rw [zcJ (zaT _) hj,zbO (by omega) (by omega) hj]
   cases hb:(r.to i).testBit j with
   | false=>rfl
   | true =>
    have:=(h i j hi hb).2;rw [Up (by omega)];rfl
  ·have:=JF (nL (KC (show jn (r.to i) (j4 r.n)<=_ from Qv) (show 18446744073709551615-j4 r.n<2^64 by omega)) (Kc (show 0<2 by decide) (show 64<=j by omega)));exact this
 ·by_cases hin:i<n
  ·exact .inl (by omega)
  ·refine .inr (Ka fun j=>?_);rw [QB]
   cases hb:(r.to i).testBit j with
   | false=>rfl
   | true=>exact Gl (h i j hi hb).1 hin
theorem RelOk.of (hn:r.n=n) (h48:n<=48) (h:∀ i j,i<48->j7 r i j=true->i<n/\j<n) (hw:zP r.to):RelOk n r:=⟨hn,zp4 hn h48 h,hw⟩
theorem zhj (p:Nat->Bool):∀ k j,(zjF k p).testBit j=(decide (j<k)&&p j)
 | 0,j=>by
  show (0:Nat).testBit j=_;simp
 | k+1,j=>by
  rw [zgw]
  split
  ·rename_i h;rw [Uo,zhj p k j,zhq];by_cases e:j=k
   ·subst e;simp [h]
   ·rw [Ue e,Uu];congr 1;exact QD.2 (by omega)
  ·rename_i h;rw [zhj p k j];by_cases e:j=k
   ·subst e;have:p j=false:=(by simpa using h);rw [this,Uf,Uf]
   ·congr 1;exact QD.2 (by omega)
theorem zme {f:Nat->Nat} {i j:Nat}:j7 (zbb n f) i j=(decide (i<n)&&(f i).testBit j):=by
 unfold j7 zbb;dsimp only
 split
 ·rename_i h;rw [Up h];rfl
 ·rename_i h;rw [Ue h,QB];rfl
theorem zm0 {p:Nat->Nat->Bool} {i j:Nat}:j7 (zkH n p) i j=(decide (i<n)&&(decide (j<n)&&p i j)):=by
 unfold zkH;rw [zme,zhj]
theorem RelOk.pick (h:n<=48) (p:Nat->Nat->Bool):RelOk n (zkH n p):=by
 refine .of rfl h (fun i j _ hb=>?_) (zmZ (by omega));rw [zm0] at hb;simp only [bAT,dE] at hb;exact⟨hb.1,hb.2.1⟩
theorem zmg (ha:RelOk n a) {i j:Nat} (hi:i<64):j7 (qu a) i j=(decide (j<n)&&j7 a j i):=by
 unfold j7;rw [zjh ha.ok];have e1:decide ((j:Int)<a.n)=decide (j<n):=QD.2 (by have:=ha.n;omega);have e2:decide (i∈els (a.to j))=(a.to j).testBit i:=by
  cases h:(a.to j).testBit i with
  | true=>exact Up (zcH.2 ⟨hi,h⟩)
  | false=>exact Ue fun hm=>by rw [(zcH.1 hm).2] at h;cases h
 rw [e1,e2]
end
structure WX (x:ExD):Prop where
 po:zP x.po.to
 rf:zP x.rf.to
 co:zP x.co.to
 dt:zP x.dt.to
 ct:zP x.ct.to
 rm:zP x.rm.to
structure XOk (x:ExD):Prop where
 n:x.ev.length<=48
 po:RelOk x.ev.length x.po
 rf:RelOk x.ev.length x.rf
 co:RelOk x.ev.length x.co
 dt:RelOk x.ev.length x.dt
 ct:RelOk x.ev.length x.ct
 rm:RelOk x.ev.length x.rm
 ev:jw x.ev (qM x.ev)=true
 poE:jI x.po (poR x.ev)=true
 rfR:zaR x=true
 coR:jY x (qM x.ev)=true
 dep:zaG x=true
section
variable {n:Nat} {a b:RelD} {x:ExD}
theorem zez {key:Nat->Nat} {y:Nat}:∀ r:List Nat,(qK key r y).Perm (y::r)
 | [] => .refl _
 | z::r=>by
  unfold qK
  split
  ·exact ((zez r).cons z).trans (.swap y z r)
  ·exact .refl _
theorem zgO {key:Nat->Nat}:∀ (l acc:List Nat),(l++acc).Nodup->(l.foldl (fun acc x=>qK key acc x) acc).Nodup
 | [],acc,h=>h
 | y::l,acc,h=>zgO l _ (by
   have p:(l++qK key acc y).Perm (y::l++acc):=((zez acc).append_left l).trans List.perm_middle;exact p.nodup_iff.2 h)
theorem zjJ (l:Nat):(zM x l).Nodup:=by
 unfold zM zcf;refine (List.reverse_perm _).nodup_iff.2 (zgO _ _ ?_);rw [QH];exact List.nodup_range.filter _
end
section
variable {x:ExD}
structure DepOne (x:ExD) (k:Nat):Prop where
 w:∀ j,j7 x.dt k j=true\/j7 x.rm k j=true->isW x j=true
 p:∀ j,j7 x.dt k j=true\/j7 x.ct k j=true\/j7 x.rm k j=true->isR x k=true/\j7 x.po k j=true
 u:∀ i j,j7 x.rm k i=true->j7 x.rm k j=true->i=j
 l:∀ j,j7 x.rm k j=true->(evA x j).l=(evA x k).l
end
def twl (s:List Nat) (i:Nat):List Nat:=s.takeWhile fun y => !decide (y=i)
theorem zce (a:Nat) (s:List Nat) (i:Nat):twl (a::s) i=if a=i then [] else a::twl s i:=by
 unfold twl;rw [Kl];by_cases h:a=i
 ·rw [Gk h,Gj (by simp [h])]
 ·rw [Gj h,Gk (by simp [h])]
theorem zhc:∀ {s:List Nat} {i j:Nat},j∈twl s i->j∈s/\j≠i
 | [],i,j,h=>by cases h
 | a::s,i,j,h=>by
  rw [zce] at h;by_cases ha:a=i
  ·rw [Gk ha] at h;cases h
  ·rw [Gj ha] at h;rcases Uz.1 h with rfl | h
   ·exact⟨Kx,ha⟩
   ·exact⟨JV _ (zhc h).1,(zhc h).2⟩
theorem zgm:∀ {s:List Nat} {i j k:Nat},j∈twl s i->k∈twl s j->k∈twl s i
 | [],i,j,k,h,_=>by cases h
 | a::s,i,j,k,h1,h2=>by
  rw [zce] at h1 h2 ⊢;by_cases ha:a=i
  ·rw [Gk ha] at h1;cases h1
  ·rw [Gj ha] at h1 ⊢;by_cases hb:a=j
   ·rw [Gk hb] at h2;cases h2
   ·rw [Gj hb] at h2;rcases Uz.1 h2 with rfl | h2
    ·exact Kx
    ·rcases Uz.1 h1 with h1 | h1
     ·exact (hb h1.symm).elim
     ·exact JV _ (zgm h1 h2)
theorem zfB:∀ (l:List Nat) (f:Nat->Nat) (b:Nat),l.Nodup->∀ i j,(zfC l f b i).testBit j=if i∈l then (b.testBit j||decide (j∈twl l i)) else (f i).testBit j
 | [],f,b,_,i,j=>by rw [Gj Qt];rfl
 | a::l,f,b,hn,i,j=>by
  have hn2:=QS.1 hn;show (zfC l (upd f a b) (b|||2^a) i).testBit j=_;rw [zfB l _ _ hn2.2,zce];by_cases hia:i=a
  ·subst hia;rw [Gj hn2.1,Gk Kx,zJ,Gk rfl];simp
  ·rw [Gj (show ¬ a=i from fun e=>hia e.symm)];by_cases hi:i∈l
   ·rw [Gk hi,Gk (JV _ hi),Uo,zhq,Bool.or_assoc];congr 1;rw [Bool.eq_iff_iff,QE,dE,dE,dE,Uz]
   ·rw [Gj hi,Gj (fun h=>by rcases Uz.1 h with h | h;exact hia h;exact hi h),qi _ _ hia]
theorem zfH {key:Nat->Nat} {y:Nat}:∀ {r:List Nat},r.Pairwise (fun a b=>key a<=key b)->(qK key r y).Pairwise (fun a b=>key a<=key b)
 | [],_=>List.pairwise_singleton _ _
 | z::r,h=>by
  have h2:=List.pairwise_cons.1 h;unfold qK
  split
  ·rename_i hlt;refine List.pairwise_cons.2 ⟨fun a ha=>?_,zfH h2.2⟩;rcases (zdb r).1 ha with rfl | ha
   ·omega
   ·exact h2.1 a ha
  ·rename_i hlt;refine List.pairwise_cons.2 ⟨fun a ha=>?_,h⟩;rcases Uz.1 ha with rfl | ha
   ·omega
   ·have:=h2.1 a ha;omega
theorem zkr {key:Nat->Nat}:∀ (l acc:List Nat),acc.Pairwise (fun a b=>key a<=key b)->(l.foldl (fun acc x=>qK key acc x) acc).Pairwise (fun a b=>key a<=key b)
 | [],_,h=>h
 | y::l,acc,h=>zkr l _ (zfH h)
theorem zhe (key:Nat->Nat) (l:List Nat):(zbz key l).Pairwise (fun a b=>key a<=key b):=zkr l [] .nil
theorem zlu {key:Nat->Nat} {l:List Nat} {a:Nat}:a∈zbz key l↔a∈l:=by
 have:a∈(zbz key l).reverse↔a∈l:=zgt
 rwa [List.mem_reverse] at this
theorem zes {key:Nat->Nat}:∀ {s:List Nat},s.Pairwise (fun a b=>key a<=key b)->s.Nodup->(∀ a b,a∈s->b∈s->a≠b->key a≠key b)->s.Pairwise (fun a b=>key a<key b)
 | [],_,_,_ => .nil
 | a::s,h,hn,hi=>by
  have h2:=List.pairwise_cons.1 h;have hn2:=QS.1 hn;refine List.pairwise_cons.2 ⟨fun b hb=>?_,zes h2.2 hn2.2 fun c d hc hd=>hi c d (JV _ hc) (JV _ hd)⟩;have h3:=h2.1 b hb;have h4:=hi a b Kx (JV _ hb) (fun e=>hn2.1 (by rw [e];exact hb));omega
theorem zk7 {f g:Nat->Bool}:∀ {n:Nat},(∀ i,i<n->f i=true->g i=true->False)->zdT f n+zdT g n=zdT (fun i=>f i||g i) n
 | 0,_=>rfl
 | n+1,h=>by
  have ih:=zk7 (f:=f) (g:=g) (n:=n) fun i hi=>h i (by omega);have:=h n (Qy _);rw [zbL,zbL,zbL,<- ih]
  cases hf:f n <;> cases hg:g n <;> simp [hf,hg] at this ⊢ <;> omega
theorem znL {a:Nat}:∀ {n:Nat},a<n->zdT (fun b=>decide (b=a)) n=1
 | 0,h=>Gl h (QY _)
 | n+1,h=>by
  rw [zbL];by_cases e:n=a
  ·subst e;rw [Gk (Up rfl),znK fun k hk=>Ue (by omega)]
  ·rw [Gj (by simp [e]),znL (by omega)]
theorem zi8 {f g:Nat->Bool}:∀ {n:Nat},(∀ i,i<n->f i=true->g i=true)->zdT f n<=zdT g n
 | 0,_=>US _
 | n+1,h=>by
  have ih:=zi8 (f:=f) (g:=g) (n:=n) fun i hi=>h i (by omega);have:=h n (Qy _);rw [zbL,zbL]
  cases hf:f n <;> cases hg:g n <;> simp [hf,hg] at this ⊢ <;> omega
theorem zj8 {f g:Nat->Bool} {n j:Nat} (h:∀ i,i<n->f i=true->g i=true) (hj:j<n) (h1:f j=false) (h2:g j=true):zdT f n<zdT g n:=by
 have e:=zk7 (f:=f) (g:=fun b=>decide (b=j)) (n:=n) fun i hi hf hd=>by
  have:i=j:=dT hd;rw [this,h1] at hf;cases hf
 rw [znL hj] at e;have:=zi8 (f:=fun i=>f i||decide (i=j)) (g:=g) (n:=n) fun i hi hor=>by
  rw [QE,dE] at hor;rcases hor with h3 | h3
  ·exact h i hi h3
  ·rw [h3];exact h2
 omega
theorem ziK (s:Nat):za8 s=zdT (fun j=>s.testBit j) 64:=rfl
section
variable {x:ExD}
abbrev sG (x:ExD) (l:Nat):List Nat:=zbz (za9 x) (qo x l)
theorem zmM (l:Nat):(sG x l).Nodup:=by
 have:=zjJ (x:=x) l;exact (List.reverse_perm _).nodup_iff.1 this
theorem zmU (l:Nat):zM x l=(sG x l).reverse:=rfl
theorem zkS {l a:Nat}:a∈qo x l↔a<x.ev.length/\isW x a=true/\(evA x a).l.toNat=l:=by
 unfold qo isW;rw [QQ,Ul,bAT,dE,dE]
def zmT (x:ExD):Nat->Nat->RelD×(Nat->UInt8)->RelD×(Nat->UInt8)
 | 0,_,p=>p
 | m+1,l,p=>zmT x m (l+1) (jQ (zM x l) p.1,upd p.2 l (zcW x.ev (zM x l)))
theorem zi4:∀ (m l:Nat) (p q:RelD×(Nat->UInt8)),zgh x m l p=some q↔(∀ k,l<=k->k<l+m->(zM x k).headD 48=k)/\q=zmT x m l p
 | 0,l,p,q=>⟨fun h=>⟨fun k h1 h2=>by omega,(Uc h).symm⟩,fun h=>by rw [h.2];rfl⟩
 | m+1,l,p,q=>by
  unfold zgh;by_cases hd:(zM x l).headD 48=l
  ·rw [Gk hd,zi4 m (l+1)];refine⟨fun h=>⟨fun k h1 h2=>?_,h.2⟩,fun h=>⟨fun k h1 h2=>h.1 k (by omega) (by omega),h.2⟩⟩;by_cases hk:k=l
   ·rw [hk];exact hd
   ·exact h.1 k (by omega) (by omega)
  ·rw [Gj hd];exact⟨fun h=>(by cases h),fun h=>(hd (h.1 l (US _) (by omega))).elim⟩
end
def fct:Nat->Nat
 | 0=>1
 | n+1=>(n+1)*fct n
theorem zdL:∀ n,1<=fct n
 | 0=>US _
 | n+1=>Nat.mul_pos (Nat.succ_pos n) (zdL n)
theorem ziS {a b:Nat} (h:a<=b):fct a<=fct b:=by
 induction b with
 | zero=>rw [Nat.le_zero.1 h];exact US _
 | succ b ih =>
  rcases Nat.lt_or_ge b a with h1 | h1
  ·rw [show a=b+1 by omega];exact US _
  ·refine UJ (ih h1) ?_;show fct b<=(b+1)*fct b;exact Nat.le_mul_of_pos_left _ (Nat.succ_pos b)
theorem zgT (s:Nat):(els s).Nodup:=by
 unfold els;exact List.Pairwise.filter _ List.nodup_range
theorem ziT (before:Nat->Nat):∀ (n left:Nat) (l x:List Nat),left<2^64->x∈zal before n left l->∃ s,x=l++s/\s.Perm (els left)/\∀ a t,s=a::t->before a&&&left=0
 | 0,left,l,x,hl,h=>by
  unfold zal at h
  split at h
  ·rename_i h0;rw [Ky] at h;exact⟨[],by rw [h,QH],by rw [h0,zaF],fun a t e=>by cases e⟩
  ·cases h
 | n+1,left,l,x,hl,h=>by
  unfold zal at h
  split at h
  ·rename_i h0;rw [Ky] at h;exact⟨[],by rw [h,QH],by rw [h0,zaF],fun a t e=>by cases e⟩
  ·obtain⟨a,ha,h⟩:=List.mem_flatMap.1 h
   split at h
   ·rename_i hb;obtain⟨s,hs,hp,_⟩:=ziT before n _ _ x (zbF hl) h;rw [zdN hl ha] at hp;refine⟨a::s,by rw [hs,KM];rfl,?_,fun b t e=>by cases e;exact hb⟩;refine (List.Perm.cons a hp).trans ?_;have hn:=zgT left;generalize els left=L at ha hn;clear hp hs h hl
    induction L with
    | nil=>cases ha
    | cons y r ih =>
     have hn2:=QS.1 hn;rcases Uz.1 ha with e | e
     ·subst e;rw [Ql,Gj (by simp),List.filter_eq_self.2 fun z hz=>by
       have:z≠a:=fun e=>hn2.1 (by rw [<- e];exact hz);simp [this]]
     ·have hya:y≠a:=fun e2=>hn2.1 (by rw [e2];exact e);rw [Ql,Gk (by simp [hya])];exact (List.Perm.swap y a _).trans (List.Perm.cons y (ih e hn2.2))
   ·cases h
theorem zkV {α β:Type} {f:α->List β} {b:Nat}:∀ {l:List α},(∀ a∈l,(f a).length<=b)->(l.flatMap f).length<=l.length*b
 | [],_=>by simp
 | a::l,h=>by
  rw [KQ,lap,Qq,UM];have:=h a Kx;have:=zkV (l:=l) fun x hx=>h x (JV _ hx);omega
theorem zgS (before:Nat->Nat):∀ (n left:Nat) (l:List Nat),left<2^64->(zal before n left l).length<=fct (els left).length
 | 0,left,l,hl=>by
  unfold zal
  split
  ·exact zdL _
  ·exact UV _
 | n+1,left,l,hl=>by
  unfold zal
  split
  ·exact zdL _
  ·have hne:(els left).length=0\/∃ m,(els left).length=m+1:=by
    cases (els left).length with
    | zero=>exact .inl rfl
    | succ m=>exact .inr ⟨m,rfl⟩
   rcases hne with h0 | ⟨m,hm⟩
   ·rw [List.length_eq_zero_iff.1 h0];exact UV _
   ·rw [hm];refine UJ (zkV (b:=fct m) fun a ha=>?_) (by rw [hm];exact US _)
    split
    ·refine UJ (zgS before n _ _ (zbF hl)) (ziS ?_);have:=zai hl ha;rw [zcq];omega
    ·exact UV _
theorem zbJ {f:Nat->List (List Nat)}:∀ {l:List Nat},l.Nodup->(∀ a∈l,a≠0->f a=[])->(l.flatMap f).length<=(f 0).length
 | [],_,_=>UV _
 | a::l,hn,h=>by
  have hn2:=QS.1 hn;rw [KQ,lap];by_cases e:a=0
  ·subst e;have:l.flatMap f=[]:=List.flatMap_eq_nil_iff.2 fun x hx=>h x (JV _ hx) fun e=>hn2.1 (by rw [<- e];exact hx);rw [this];exact US _
  ·rw [h a Kx e];have:=zbJ hn2.2 fun x hx=>h x (JV _ hx);simpa using this
section
variable {n:Nat}
theorem zo2 (hn:n<=48):RelOk n (crs n):=⟨rfl,znH n hn,fun i hi=>zk4 n i hi⟩
theorem zi0 (hn:n<=48) {a:Nat} (ha:a<n) (h0:a≠0):((qu (crs n)).to a).testBit 0=true:=by
 have h:=zmg (zo2 hn) (i:=a) (j:=0) (by omega);unfold j7 at h;rw [h,Up (by omega),Uv];show (if 0<n then (if Nat.testBit 1 0 then zaD (jX n) 1&&&jX n else 0) else 0).testBit a=true;rw [Gk (by omega),Gk (by decide),QZ];have hb:(jX n).testBit a=true:=by
  rw [zaB,zbO (by omega) (by omega) (by omega)];exact Up (by omega)
 rw [hb,Bool.and_true,zcq];have:jn (jX n) 1=jn (jX n) (2^0):=rfl;rw [this,zcJ (by decide) (by omega),hb,Km];simp;omega
theorem zm3 (h1:1<=n) (hn:n<=48) {o:List Nat} (h:o∈zbc (crs n)):o.Perm (List.range n)/\∃ t,o=0::t:=by
 unfold zbc at h
 split at h
 ·obtain⟨s,hs,hp,hf⟩:=ziT _ _ _ _ _ (ze0 n) h;rw [QR] at hs;subst hs;have e:els (jX ((n:Nat):Int))=List.range n:=by rw [zaB];exact zdP (by omega)
  have hp:o.Perm (List.range n):=by rw [<- e];exact hp
  refine⟨hp,?_⟩
  cases o with
  | nil=>have:=hp.length_eq;simp at this;omega
  | cons a t =>
   by_cases h0:a=0
   ·exact⟨t,by rw [h0]⟩
   ·have ha:a<n:=Ul.1 (hp.subset Kx);have h2:=hf a t rfl;have h3:=zi0 hn ha h0;have h4:(jX ((n:Nat):Int)).testBit 0=true:=by
     rw [zaB,zbO (by omega) (by omega) (by omega)];exact Up (by omega)
    have h5:((qu (crs n)).to a&&&jX ((n:Nat):Int)).testBit 0=true:=(by rw [QZ,h3,h4];rfl);have h6:((qu (crs n)).to a&&&jX ((n:Nat):Int))=0:=h2;rw [h6] at h5;simp at h5
 ·cases h
theorem zlM (h1:1<=n) (hn:n<=48):(zbc (crs n)).length<=fct (n-1):=by
 unfold zbc
 split
 ·have e:els (jX ((n:Nat):Int))=List.range n:=by rw [zaB];exact zdP (by omega)
  have e0:(0:Nat)∈els (jX ((n:Nat):Int)):=by rw [e];exact Ul.2 (by omega)
  show (zal (qu (crs n)).to 64 (jX ((n:Nat):Int)) []).length<=_;unfold zal
  split
  ·exact zdL _
  ·refine UJ (zbJ (zgT _) fun a ha h0=>?_) ?_
   ·have ha:a<n:=(by rw [e] at ha;exact Ul.1 ha);refine Gj fun h2=>?_;have h3:=zi0 hn ha h0;have h4:(jX ((n:Nat):Int)).testBit 0=true:=by
     rw [zaB,zbO (by omega) (by omega) (by omega)];exact Up (by omega)
    have h5:((qu (crs n)).to a&&&jX ((n:Nat):Int)).testBit 0=true:=(by rw [QZ,h3,h4];rfl);rw [h2] at h5;simp at h5
   ·split
    ·refine UJ (zgS _ _ _ _ (zbF (ze0 n))) (ziS ?_);have h6:=zai (ze0 n) e0;rw [e,KT] at h6;rw [zcq];omega
    ·exact UV _
 ·exact UV _
end
theorem zlW (w:List Nat):(List.range w.length).map (fun k=>w.getD k 0)=w:=by
 apply KN;intro i;rw [KS];by_cases h:i<w.length
 ·rw [Kg h,gE h];show some (w.getD i 0)=_;rw [gDe,gE h];rfl
 ·rw [JI (by simpa using h),JI (by simpa using h)];rfl
theorem zgz {w rk:List Nat} (h1:1<=w.length) (hn:w.length<=48) (h:rk∈zQ w):rk.Perm w/\rk.headD 48=w.headD 48:=by
 unfold zQ at h;dsimp only at h
 split at h
 ·obtain⟨o,ho,rfl⟩:=UG.1 h;obtain⟨hp,t,ht⟩:=zm3 h1 hn ho;refine⟨?_,?_⟩
  ·have:=hp.map fun k=>w.getD k 0;rw [zlW] at this;exact this
  ·rw [ht];show w.getD 0 0=_
   cases w with
   | nil=>simp at h1
   | cons a r=>rfl
 ·cases h
theorem zfe {w:List Nat} (h1:1<=w.length) (hn:w.length<=48):(zQ w).length<=fct (w.length-1)/\(zQ w).length<=10000:=by
 unfold zQ;dsimp only
 split
 ·rename_i h;rw [QK];exact⟨zlM h1 hn,h⟩
 ·exact⟨UV _,UV _⟩
def zb8:List (List Nat)->Nat
 | []=>1
 | f::fs=>f.length*zb8 fs
theorem zeT {a b lim:Nat} (hb:1<=b):min (min a lim*b) lim=min (a*b) lim:=by
 by_cases ha:a<=lim
 ·rw [QX ha]
 ·have e:min a lim=lim:=Nat.min_eq_right (by omega);have h2:lim<=lim*b:=Nat.le_mul_of_pos_right _ (by omega);have h3:lim<=a*b:=UJ (by omega) (Nat.le_mul_of_pos_right a (by omega:0<b));rw [e,Nat.min_eq_right h2,Nat.min_eq_right h3]
theorem zd6:∀ fs:List (List Nat),(∀ f∈fs,f≠[])->1<=zb8 fs
 | [],_=>US _
 | f::fs,h=>Nat.mul_pos (List.length_pos_iff.2 (h f Kx)) (zd6 fs fun g hg=>h g (JV _ hg))
theorem zhM {lim:Nat}:∀ (fs:List (List Nat)) (n:Nat),n<=lim->(∀ f∈fs,f≠[])->zdS lim fs n=some (min (n*zb8 fs) lim)
 | [],n,h,_=>by
  show some n=some (min (n*1) lim);rw [UT,QX h]
 | f::fs,n,h,hf=>by
  have h1:f≠[]:=hf f Kx;have hp:1<=f.length:=List.length_pos_iff.2 h1;unfold zdS;rw [Gj h1,zhM fs _ (Qz ..) fun g hg=>hf g (JV _ hg)];congr 1;show min (min (n*f.length) lim*zb8 fs) lim=min (n*(f.length*zb8 fs)) lim;rw [<- UB,zeT (zd6 fs fun g hg=>hf g (JV _ hg))]
theorem zgX {lim:Nat}:∀ (fs:List (List Nat)) (n:Nat),(∃ f∈fs,f=[])->zdS lim fs n=none
 | [],n,⟨f,h,_⟩=>by cases h
 | f::fs,n,⟨g,hg,e⟩=>by
  unfold zdS;by_cases h1:f=[]
  ·rw [Gk h1]
  ·rw [Gj h1];refine zgX fs _ ⟨g,?_,e⟩;rcases Uz.1 hg with h | h
   ·rw [h] at e;exact Gl e h1
   ·exact h
def up (len:Nat):Nat->Nat->Nat
 | 0,_=>1
 | m+1,k=>if k<len then k*up len m (k+1) else 1
theorem zms (len:Nat):∀ m k,1<=k->1<=up len m k
 | 0,_,_=>US _
 | m+1,k,h=>by
  unfold up
  split
  ·exact Nat.mul_pos h (zms len m (k+1) (by omega))
  ·exact US _
theorem zla {lim len:Nat}:∀ (m k n:Nat),1<=k->n<=lim->zeK lim len m k n=min (n*up len m k) lim
 | 0,k,n,_,h=>by
  show n=min (n*1) lim;rw [UT,QX h]
 | m+1,k,n,hk,h=>by
  unfold zeK up
  split
  ·rw [zla m (k+1) _ (by omega) (Qz ..),zeT (zms len m (k+1) (by omega)),UB]
  ·rw [UT,QX h]
theorem zmt:∀ (m k:Nat),1<=k->∀ len,len<=k+m->k<=len->fct (k-1)*up len m k=fct (len-1)
 | 0,k,h1,len,h2,h3=>by
  show fct (k-1)*1=_;rw [UT,show len=k by omega]
 | m+1,k,h1,len,h2,h3=>by
  unfold up
  split
  ·rename_i hlt;rw [<- zmt m (k+1) (by omega) len (by omega) (by omega),<- UB];congr 1;obtain⟨j,rfl⟩:∃ j,k=j+1:=⟨k-1,by omega⟩;show fct j*(j+1)=(j+1)*fct j;exact UK _ _
  ·rw [UT,show len=k by omega]
theorem zpH {len:Nat} (h:1<=len):up len len 2=fct (len-1):=by
 by_cases h2:2<=len
 ·have:=zmt len 2 (by decide) len (by omega) h2;have h3:fct (2-1)=1:=rfl;rw [h3,UU] at this;exact this
 ·have e:len=1:=by omega
  subst e;rfl
def zcT:List (List Nat)->Nat
 | []=>1
 | w::ws=>fct (w.length-1)*zcT ws
theorem zcE:∀ ws,1<=zcT ws
 | []=>US _
 | w::ws=>Nat.mul_pos (zdL _) (zcE ws)
theorem zk8 {lim:Nat}:∀ (ws:List (List Nat)) (n:Nat),n<=lim->(∀ w∈ws,1<=w.length)->zeJ lim ws n=min (n*zcT ws) lim
 | [],n,h,_=>by
  show n=min (n*1) lim;rw [UT,QX h]
 | w::ws,n,h,hw=>by
  unfold zeJ;rw [zla _ _ _ (by decide) h,zpH (hw w Kx),zk8 ws _ (Qz ..) fun v hv=>hw v (JV _ hv),zeT (zcE ws)];show _=min (n*(fct (w.length-1)*zcT ws)) lim;rw [UB]
theorem zk9 {m:MixD} {lim:Nat} (h1:1<=lim) (hw:∀ w∈m.wr,1<=w.length):jA m lim=if ∀ r∈m.rs,r.2≠[] then min (zb8 (m.rs.map (·.2))*zcT m.wr) lim else 0:=by
 unfold jA
 split
 ·rename_i e;rw [Gj];intro h;rw [zhM _ _ h1 fun f hf=>by
   obtain⟨r,hr,rfl⟩:=UG.1 hf;exact h r hr] at e
  cases e
 ·rename_i n e;by_cases h:∀ r∈m.rs,r.2≠[]
  ·rw [Gk h];rw [zhM _ _ h1 fun f hf=>by
    obtain⟨r,hr,rfl⟩:=UG.1 hf;exact h r hr] at e
   have e:=Uc e;rw [zk8 _ _ (by rw [<- e];exact Qz ..) hw,<- e,UU,zeT (zcE _)]
  ·rw [zgX] at e
   ·cases e
   ·refine Jn fun hn=>h fun r hr e2=>hn ⟨r.2,UG.2 ⟨r,hr,rfl⟩,e2⟩
theorem zi7 {m:MixD} (hw:∀ w∈m.wr,1<=w.length):jA m 1≠0↔∀ r∈m.rs,r.2≠[]:=by
 rw [zk9 (by decide) hw];constructor
 ·intro h;refine Jn fun hn=>h (Gj hn)
 ·intro h;rw [Gk h];have h1:1<=zb8 (m.rs.map (·.2)):=zd6 _ fun f hf=>by
   obtain⟨r,hr,rfl⟩:=UG.1 hf;exact h r hr
  have h2:1<=zb8 (m.rs.map (·.2))*zcT m.wr:=Nat.mul_pos h1 (zcE _);rw [Nat.min_eq_right h2];decide
theorem zmc (m:MixD):(zcw m).length=zO (jl m).reverse:=by
 unfold zcw jx;rw [QK,QK,KT]
theorem zkD:∀ rs:List (Nat×List Nat),zO (rs.map fun r=>r.2.length)=zb8 (rs.map (·.2))
 | []=>rfl
 | r::rs=>by
  show r.2.length*zO (rs.map fun r=>r.2.length)=r.2.length*zb8 (rs.map (·.2));rw [zkD rs]
theorem zkC:∀ ws:List (List Nat),(∀ w∈ws,1<=w.length/\w.length<=48)->zO (ws.map fun w=>(zQ w).length)<=zcT ws
 | [],_=>US _
 | w::ws,h=>by
  show (zQ w).length*zO (ws.map fun w=>(zQ w).length)<=fct (w.length-1)*zcT ws;have h1:=h w Kx;exact Un (zfe h1.1 h1.2).1 (zkC ws fun v hv=>h v (JV _ hv))
theorem znP {m:MixD} (hw:∀ w∈m.wr,1<=w.length/\w.length<=48) (h:jA m 20001<=20000):(jk m).length<=jA m 20001:=by
 unfold jk
 split
 ·exact UV _
 ·rename_i h1;have hs:=(zi7 fun w hm=>(hw w hm).1).1 h1;have e:=zk9 (m:=m) (lim:=20001) (by decide) fun w hm=>(hw w hm).1;rw [Gk hs] at e;have hp:zb8 (m.rs.map (·.2))*zcT m.wr=jA m 20001:=by
   by_cases hb:zb8 (m.rs.map (·.2))*zcT m.wr<=20001
   ·rw [e,QX hb]
   ·rw [Nat.min_eq_right (by omega)] at e;omega
  rw [zmc,<- hp];unfold jl;have e2:zO (m.rs.map (fun r=>r.2.length)++m.wr.map fun w=>(zQ w).length).reverse=zO (m.rs.map (fun r=>r.2.length)++m.wr.map fun w=>(zQ w).length):=by
   rw [zd7];unfold zaL;rw [zef,UU]
  rw [e2,zbD,zkD];exact Nat.mul_le_mul_left _ (zkC _ hw)
def zj3:Nat->List PathD->List Ev
 | _,[]=>[]
 | k,P::Ps=>zbT k P.ev++zj3 (k+1) Ps
theorem zf1:∀ (Ps:List PathD) (k:Nat) (x:ExD),(asR k Ps x).ev=x.ev++zj3 k Ps/\(asR k Ps x).po=x.po/\(asR k Ps x).rf=x.rf/\(asR k Ps x).co=x.co/\(asR k Ps x).mem=x.mem/\(asR k Ps x).dt.n=x.dt.n/\(asR k Ps x).ct.n=x.ct.n/\(asR k Ps x).rm.n=x.rm.n
 | [],k,x=>⟨(QH _).symm,rfl,rfl,rfl,rfl,rfl,rfl,rfl⟩
 | P::Ps,k,x=>by
  obtain⟨h1,h2⟩:=zf1 Ps (k+1) (zeo x k P);refine⟨?_,h2⟩;show (asR (k+1) Ps (zeo x k P)).ev=x.ev++(zbT k P.ev++zj3 (k+1) Ps);rw [h1,<- KM];rfl
theorem ziV:∀ (Ps:List PathD) (k n:Nat),Ps.foldl (fun n P=>n+P.ev.length) n=n+(zj3 k Ps).length
 | [],k,n=>rfl
 | P::Ps,k,n=>by
  show Ps.foldl _ (n+P.ev.length)=n+(zbT k P.ev++zj3 (k+1) Ps).length;rw [ziV Ps (k+1),lap];unfold zbT;rw [QK,UA]
theorem zfQ:∀ (Ps:List PathD) (k:Nat) (e:Ev),e∈zj3 k Ps->∃ P∈Ps,∃ a∈P.ev,∃ t:Nat,k<=t/\t<k+Ps.length/\e={ a with th:=t }
 | [],k,e,h=>by cases h
 | P::Ps,k,e,h=>by
  rcases QO.1 h with h | h
  ·obtain⟨a,ha,rfl⟩:=UG.1 h;exact⟨P,Kx,a,ha,k,US _,by rw [Qq];omega,rfl⟩
  ·obtain⟨Q,hQ,a,ha,t,h1,h2,h3⟩:=zfQ Ps (k+1) e h;exact⟨Q,JV _ hQ,a,ha,t,by omega,by rw [Qq];omega,h3⟩
section
variable {init:List UInt8} {Ps:List PathD}
theorem zeY:(zaj init Ps).ev=jm 0 init++zj3 0 Ps:=(zf1 Ps 0 _).1
theorem znY:(zaj init Ps).ev.length=zb6 init.length Ps:=by
 rw [zeY,lap,qk];exact (ziV Ps 0 init.length).symm
theorem zg1:(zaj init Ps).rf=zch (zb6 init.length Ps)/\(zaj init Ps).co=zch (zb6 init.length Ps)/\(zaj init Ps).mem=(fun _=>0)/\(zaj init Ps).dt.n=zb6 init.length Ps/\(zaj init Ps).ct.n=zb6 init.length Ps/\(zaj init Ps).rm.n=zb6 init.length Ps:=by
 obtain⟨_,_,h1,h2,h3,h4,h5,h6⟩:=zf1 Ps 0 { ex0 (zb6 init.length Ps) with ev:=jm 0 init };exact⟨h1,h2,h3,h4,h5,h6⟩
theorem zmf {i:Nat} (h:i<init.length):(zaj init Ps).ev[i]?=some ⟨-1,2,UInt8.ofNat i,init[i],0,0,0⟩:=by
 rw [zeY,Jp (by rw [qk];exact h),zaW init 0 h,UN]
theorem znX {e:Ev} (h:e∈(zaj init Ps).ev):(∃ i,∃ h:i<init.length,e=⟨-1,2,UInt8.ofNat i,init[i],0,0,0⟩)\/∃ P∈Ps,∃ a∈P.ev,∃ t:Nat,t<Ps.length/\e={ a with th:=t }:=by
 rw [zeY] at h;rcases QO.1 h with h | h
 ·obtain⟨i,hi,rfl⟩:=Kh h;rw [qk] at hi;have:=zaW init 0 hi;rw [gE (by rw [qk];exact hi),UN] at this;exact .inl ⟨i,hi,Uc this⟩
 ·obtain⟨P,hP,a,ha,t,_,h2,h3⟩:=zfQ Ps 0 e h;exact .inr ⟨P,hP,a,ha,t,by omega,h3⟩
theorem zjg (hi6:init.length<=6) (hP:∀ P∈Ps,PathW init.length P) {e:Ev} (h:e∈(zaj init Ps).ev) (hk:e.k=1\/e.k=2):e.l.toNat<init.length:=by
 rcases znX h with ⟨i,hi,rfl⟩ | ⟨P,hPm,a,ha,t,_,rfl⟩
 ·show (UInt8.ofNat i).toNat<_;rw [KF];omega
 ·exact (hP P hPm).b.loc a ha hk
end
def wrF:Nat->List Ev->Nat->List Nat
 | _,[],_=>[]
 | i,e::es,l=>(if e.k=2/\e.l.toNat=l then [i] else [])++wrF (i+1) es l
theorem zg9:∀ (es:List Ev) (i:Nat) (W:List (List Nat)),(∀ e∈es,e.k=2->e.l.toNat<W.length)->(zf8 i es W).length=W.length/\∀ l,l<W.length->(zf8 i es W).getD l []=W.getD l []++wrF i es l
 | [],i,W,h=>⟨rfl,fun l hl=>(QH _).symm⟩
 | e::es,i,W,h=>by
  unfold zf8;by_cases hk:e.k=2
  ·rw [Gk hk];obtain⟨V,hV⟩:=nm (W.set e.l.toNat (W.getD e.l.toNat []++[i]));have hVl:V.length=W.length:=by rw [hV,QM]
   obtain⟨h1,h2⟩:=zg9 es (i+1) V fun d hd hd2=>by rw [hVl];exact h d (JV _ hd) hd2
   rw [<- hV];refine⟨h1.trans hVl,fun l hl=>?_⟩;rw [h2 l (by omega)];show _=W.getD l []++((if e.k=2/\e.l.toNat=l then [i] else [])++wrF (i+1) es l);rw [<- KM];congr 1;rw [hV,gDe];by_cases hel:e.l.toNat=l
   ·rw [Gk ⟨hk,hel⟩,hel,JC hl];rfl
   ·rw [Gj fun h=>hel h.2,JT hel,QH,gDe]
  ·rw [Gj hk];obtain⟨h1,h2⟩:=zg9 es (i+1) W fun d hd=>h d (JV _ hd);refine⟨h1,fun l hl=>?_⟩;rw [h2 l hl];show _=W.getD l []++((if e.k=2/\e.l.toNat=l then [i] else [])++wrF (i+1) es l);rw [Gj fun h=>hk h.1,QR]
theorem zmp:∀ (es:List Ev) (i l:Nat),wrF i es l=((List.range es.length).filter fun j=>decide ((es.getD j ev0).k=2)&&decide ((es.getD j ev0).l.toNat=l)).map (· + i)
 | [],i,l=>rfl
 | e::es,i,l=>by
  unfold wrF;rw [zmp es (i+1) l,Qq,List.range_succ_eq_map,Ql,List.filter_map];have e0:(e::es).getD 0 ev0=e:=rfl;rw [e0];have ee:∀ j,(e::es).getD (Nat.succ j) ev0=es.getD j ev0:=fun j=>rfl;have hm:∀ L:List Nat,(L.map Nat.succ).map (· + i)=L.map (· + (i+1)):=fun L=>by
   rw [UE];exact Kj fun j _=>by show j.succ+i=j+(i+1);omega
  by_cases hk:e.k=2/\e.l.toNat=l
  ·rw [Gk hk,Up hk.1,Up hk.2,Gk (show (true&&true)=true from rfl),Uy,hm,UN];rfl
  ·rw [Gj hk];have:(decide (e.k=2)&&decide (e.l.toNat=l))=false:=by
    rw [Bool.and_eq_false_iff];by_cases h1:e.k=2
    ·exact .inr (Ue fun h=>hk ⟨h1,h⟩)
    ·exact .inl (Ue h1)
   rw [this,Gj Ks,hm];rfl
theorem zd4 (all:List Ev) (W:List (List Nat)):∀ (es:List Ev) (i:Nat) (r:Nat×List Nat),r∈zdu all W i es->∃ j e,es[j]?=some e/\e.k=1/\r=(i+j,(W.getD e.l.toNat []).filter fun w=>decide ((all.getD w ev0).v=e.v))
 | [],i,r,h=>by cases h
 | e::es,i,r,h=>by
  unfold zdu at h
  split at h
  ·rename_i hk;rcases Uz.1 h with h | h
   ·exact⟨0,e,rfl,hk,by rw [h];rfl⟩
   ·obtain⟨j,d,h1,h2,h3⟩:=zd4 all W es (i+1) r h;exact⟨j+1,d,h1,h2,by rw [h3,show i+1+j=i+(j+1) by omega]⟩
  ·obtain⟨j,d,h1,h2,h3⟩:=zd4 all W es (i+1) r h;exact⟨j+1,d,h1,h2,by rw [h3,show i+1+j=i+(j+1) by omega]⟩
theorem zin (all:List Ev) (W:List (List Nat)):∀ (es:List Ev) (i:Nat),(zdu all W i es).length<=es.length
 | [],i=>US _
 | e::es,i=>by
  have:=zin all W es (i+1);unfold zdu
  split
  ·rw [Qq,Qq];omega
  ·rw [Qq];omega
structure ChoiceW (init:List UInt8) (Ps:List PathD) (m:MixD):Prop where
 i1:1<=init.length
 i6:init.length<=6
 p4:Ps.length<=4
 P:∀ P∈Ps,PathW init.length P
 n:zb6 init.length Ps<=48
 m:m=jJ (zaj init Ps) init.length
section
variable {init:List UInt8} {Ps:List PathD} {m:MixD}
theorem ChoiceW.base (h:ChoiceW init Ps m):m.base=zaj init Ps:=by rw [h.m];rfl
theorem ChoiceW.len (h:ChoiceW init Ps m):m.base.ev.length=zb6 init.length Ps:=by rw [h.base,znY]
theorem ChoiceW.wr (h:ChoiceW init Ps m):m.wr.length=init.length/\∀ l,l<init.length->m.wr.getD l []=qo m.base l:=by
 obtain⟨h1,h2⟩:=zg9 (zaj init Ps).ev 0 (List.replicate init.length []) fun e he hk=>by
  rw [JL];exact zjg h.i6 h.P he (.inr hk)
 rw [JL] at h1 h2;have e:m.wr=zf8 0 (zaj init Ps).ev (List.replicate init.length []):=by rw [h.m];rfl
 rw [e];refine⟨h1,fun l hl=>?_⟩;rw [h2 l hl,zmp,gDe,List.getElem?_replicate,Gk hl,h.base];show []++List.map (· + 0) _=_;rw [QR];show List.map (fun x=>x) _=_;rw [List.map_id'];rfl
theorem ChoiceW.wr_mem (h:ChoiceW init Ps m) {w:List Nat} (hw:w∈m.wr):∃ l,l<init.length/\w=qo m.base l/\m.wr[l]?=some w:=by
 obtain⟨h1,h2⟩:=h.wr;obtain⟨l,hl,rfl⟩:=Kh hw;refine⟨l,by omega,?_,gE hl⟩;have:=h2 l (by omega);rw [gDe,gE hl] at this;exact this
theorem ChoiceW.ini (h:ChoiceW init Ps m) {i:Nat} (hi:i<init.length):evA m.base i=⟨-1,2,UInt8.ofNat i,init[i],0,0,0⟩:=by
 unfold evA;rw [h.base,gDe,zmf hi];rfl
theorem zg8 (x:ExD) (l:Nat):(qo x l).length<=x.ev.length:=by
 refine UJ (JK ..) ?_;rw [KT];exact US _
theorem zjq {x:ExD} {l a:Nat} (h:a∈qo x l):a<x.ev.length:=Ul.1 (QQ.1 h).1
theorem ChoiceW.head (h:ChoiceW init Ps m) {l:Nat} (hl:l<init.length):1<=(qo m.base l).length/\(qo m.base l).headD 48=l:=by
 have h6:=h.i6;have hn:init.length<=m.base.ev.length:=by
  rw [h.len];exact zib _ _
 have e:=zeA (p:=fun i=>decide ((evA m.base i).k=2)&&decide ((evA m.base i).l.toNat=l)) (n:=m.base.ev.length) (k:=l) (by omega) (fun i hi=>by
  rw [h.ini (by omega)];have:¬ (UInt8.ofNat i).toNat=l:=by rw [KF];omega
  rw [Ue this,Uf]) (by
  rw [h.ini hl];have:(UInt8.ofNat l).toNat=l:=by rw [KF];omega
  rw [Up this];rfl)
 unfold qo;rw [e];exact⟨by simp,rfl⟩
theorem ChoiceW.rs (h:ChoiceW init Ps m) {r:Nat×List Nat} (hr:r∈m.rs):∃ e,m.base.ev[r.1]?=some e/\e.k=1/\r.2=(m.wr.getD e.l.toNat []).filter fun w=>decide ((m.base.ev.getD w ev0).v=e.v):=by
 rw [h.m] at hr ⊢;obtain⟨j,e,h1,h2,h3⟩:=zd4 _ _ _ _ _ hr;rw [UN] at h3;exact⟨e,by rw [h3];exact h1,h2,by rw [h3];rfl⟩
theorem ChoiceW.src (h:ChoiceW init Ps m) {r:Nat×List Nat} (hr:r∈m.rs):r.1<m.base.ev.length/\r.2.length<=48/\∀ s∈r.2,s<m.base.ev.length:=by
 have hn:=h.n;rw [<- h.len] at hn;obtain⟨e,h1,h2,h3⟩:=h.rs hr;have hlt:=(Jq.1 h1).1;have hel:e.l.toNat<init.length:=by
  have:e∈(zaj init Ps).ev:=by rw [<- h.base];exact JW h1
  exact zjg h.i6 h.P this (.inl h2)
 rw [h.wr.2 _ hel] at h3;refine⟨hlt,?_,fun s hs=>?_⟩
 ·rw [h3];have h4:=zg8 m.base e.l.toNat;have h5:=JK (fun w=>decide ((m.base.ev.getD w ev0).v=e.v)) (qo m.base e.l.toNat);omega
 ·rw [h3] at hs;exact zjq (QQ.1 hs).1
theorem ChoiceW.c (h:ChoiceW init Ps m):MixC m:=by
 have hn:=h.n;rw [<- h.len] at hn;refine⟨?_,?_,fun r hr=>?_,fun w hw=>?_⟩
 ·have:m.rs.length<=m.base.ev.length:=by
   rw [h.m];exact zin _ _ _ _
  omega
 ·rw [h.wr.1];exact h.i6
 ·obtain⟨h1,h2,h3⟩:=h.src hr;exact⟨by omega,by omega,fun s hs=>by have:=h3 s hs;omega⟩
 ·obtain⟨l,hl,rfl,_⟩:=h.wr_mem hw;have:=zg8 m.base l;omega
theorem ChoiceW.w1 (h:ChoiceW init Ps m) {w:List Nat} (hw:w∈m.wr):1<=w.length/\w.length<=48:=by
 refine⟨?_,h.c.wr w hw⟩;obtain⟨l,hl,rfl,_⟩:=h.wr_mem hw;exact (h.head hl).1
theorem ChoiceW.b (h:ChoiceW init Ps m):MixB m:=by
 have hn:=h.n;rw [<- h.len] at hn;obtain⟨b1,b2,b3,_⟩:=zg1 (init:=init) (Ps:=Ps);have hc:=h.c;refine⟨hn,hc.rl,hc.wl,fun i _=>?_,fun i _=>?_,hc.rs,fun w hw=>?_⟩
 ·rw [h.base,b1];show 0<2^64;decide
 ·rw [h.base,b2];show 0<2^64;decide
 ·obtain⟨h1,h2⟩:=h.w1 hw;refine⟨h2,(zfe h1 h2).2,fun k hk=>?_⟩;have hp:=(zgz h1 h2 hk).1;have hl:=hp.length_eq;refine⟨fun e=>by rw [e] at hl;simp at hl;omega,by omega,fun a ha=>?_⟩;obtain⟨l,hl,rfl,_⟩:=h.wr_mem hw;exact zjq (hp.subset ha)
end
theorem zgC:∀ (Ts:List (List PathD)) (ds:List Nat) (P:PathD),P∈zao Ts ds->∃ T∈Ts,P∈T
 | Ts,[],P,h=>by cases Ts <;> cases h
 | [],d::ds,P,h=>by cases h
 | T::Ts,d::ds,P,h=>by
  unfold zao at h;rcases QO.1 h with h | h
  ·cases hd:T[d]? with
   | none=>rw [hd] at h;cases h
   | some Q =>
    rw [hd] at h;rw [Ky.1 h];exact⟨T,Kx,JW hd⟩
  ·obtain⟨U,hU,h2⟩:=zgC Ts ds P h;exact⟨U,JV _ hU,h2⟩
theorem zgD:∀ (Ts:List (List PathD)) (ds:List Nat),(zao Ts ds).length<=Ts.length
 | Ts,[]=>by cases Ts <;> exact UV _
 | [],d::ds=>US _
 | T::Ts,d::ds=>by
  unfold zao;rw [lap,Qq];have:=zgD Ts ds
  cases T[d]? <;> simp <;> omega
section
variable {p:Prg} {V:List UInt8}
theorem zix (hO:OkG p) {l:List InsD} (hl:l∈p.threads) {P:PathD} (hP:P∈zL V l):PathW p.init.length P:=by
 obtain⟨R,hR,rfl⟩:=UG.1 hP;have h1:=hO.tl l hl;rw [hO.il] at h1;obtain⟨a,b⟩:=zql h1 V R hR;exact zpW a b
theorem zen (hO:OkG p) {m:MixD} (hm:m∈zW p V):∃ ds∈jx ((p.threads.map (zL V)).map List.length),ChoiceW p.init (zao (p.threads.map (zL V)) ds) m:=by
 unfold zW znb at hm;obtain⟨ds,hds,he⟩:=List.mem_filterMap.1 hm;unfold zhy at he
 split at he
 ·rename_i h48;refine⟨ds,hds,hO.i1,hO.i6,?_,fun P hP=>?_,h48,(Uc he).symm⟩
  ·have:=zgD (p.threads.map (zL V)) ds;rw [QK] at this;have:=hO.t4;omega
  ·obtain⟨T,hT,h2⟩:=zgC _ _ _ hP;obtain⟨l,hl,rfl⟩:=UG.1 hT;exact zix hO hl h2
 ·cases he
theorem zmG {α:Type} {f g:α->Nat}:∀ {l:List α},(∀ a∈l,f a<=g a)->(l.map f).sum<=(l.map g).sum
 | [],_=>US _
 | a::l,h=>by
  rw [Uy,Uy,List.sum_cons,List.sum_cons];have:=h a Kx;have:=zmG (l:=l) fun b hb=>h b (JV _ hb);omega
theorem znl {α:Type} {f:α->Nat}:∀ {l:List α} {a:α},a∈l->f a<=(l.map f).sum
 | b::l,a,h=>by
  rw [Uy,List.sum_cons];rcases Uz.1 h with e | e
  ·rw [e];omega
  ·have:=znl (f:=f) e;omega
theorem zfY (hO:OkG p):CandB p V:=by
 refine⟨fun l hl P hP=>(zix hO hl hP).b,fun hm=>?_,fun hm m hmm=>?_,fun hm hs m hmm h1=>?_,fun hm hs=>?_⟩
 ·have h1:(zW p V).length<=(jx ((p.threads.map (zL V)).map List.length)).length:=List.length_filterMap_le _ _;have h2:(jx ((p.threads.map (zL V)).map List.length)).length=zO ((p.threads.map (zL V)).map List.length).reverse:=by
   unfold jx;rw [QK,KT]
  have h3:=hm.2.1 p.threads.length (US _);rw [Qu] at h3;rw [zd7] at h2;have h4:zaL ((p.threads.map (zL V)).map List.length)<=4096:=by rw [UE];exact h3
  omega
 ·obtain⟨_,_,h⟩:=zen hO hmm;exact h.c
 ·obtain⟨_,_,h⟩:=zen hO hmm;exact h.b
 ·show ((zW p V).flatMap jk).length<=30000;rw [List.length_flatMap];have:((zW p V).map fun m=>(jk m).length).sum<=((zW p V).map fun m=>jA m 20001).sum:=zmG fun m hmm=>by
   obtain⟨_,_,h⟩:=zen hO hmm;refine znP (fun w hw=>h.w1 hw) ?_;have:=znl (f:=fun m=>jA m 20001) hmm;omega
  omega
end
def zbn (p:Prg) (V:List UInt8) (most:Nat):Bool :=
 za7 p&&(decide (zbS p=some V)&&((p.threads.all fun l=>decide ((qH l V).length<=4096))&&(((List.range (p.threads.length+1)).all fun k=>decide (zaL ((p.threads.take k).map fun l=>(zL V l).length)<=4096)) &&
  (((jx ((p.threads.map (zL V)).map List.length)).all fun ds=>(zhy p.init (zao (p.threads.map (zL V)) ds)).isSome)&&decide (((zW p V).map fun m=>jA m 20001).sum<=most)))))
theorem zgZ {p:Prg} {V:List UInt8} {most:Nat} (h:zbn p V most=true):za7 p=true/\zf6 p V most:=by
 unfold zbn at h;simp only [bAT,dE,Qh,Ul] at h;obtain⟨h1,h2,h3,h4,h5,h6⟩:=h;exact⟨h1,h2,⟨h3,fun k hk=>h4 k (by omega),h5⟩,h6⟩
section
variable {w:Wd} {B most:Nat} {pc:List Value} {p:Prg} {V:List UInt8}
theorem zdX (hB:B<=w.heap.size) (hP:PrgX B w pc p) (hG:GlobE w) (hm20:most<=20000) (hq:zbn p V most=true) :
  Calls PG 11 #[.agg pc.toArray,i64 most] w fun e w'=>(∃ (xs:List zcQ) (q:OA) (c:Nat),e = .returned (.tuple #[.slice q xs.length c,i64 0])/\xs.map (·.1)=qt p V/\OwnS exE 55 w.heap.size w' q c xs/\∀ x∈xs,OwnS evE 60 w.heap.size w' x.2.1 x.2.2 x.1.ev)/\Bw w w':=by
 obtain⟨hok,hc⟩:=zgZ hq;refine cmo (zf5 hB hP hG hok hm20 fun V _=>zfY (zdy hok)) ?_;rintro e X ⟨(⟨V',h1,h2⟩ | ⟨h1,_⟩),hb⟩
 ·have:V'=V:=by
   have e1:=h1.1;rw [hc.1] at e1;exact (Uc e1).symm
  subst this;exact⟨h2,hb⟩
 ·exact Gl hc (h1 V)
theorem zof {M:Nat} (hB:B<=w.heap.size) (hP:PrgX B w pc p) (hG:GlobE w) (hm20:most<=20000) (hq:zbn p V M=true) (hn:decide (most<((zW p V).map fun m=>jA m 20001).sum)=true) :
  CB 11 #[.agg pc.toArray,i64 most] w (.tuple #[.slice none 0 0,i64 5]):=by
 obtain⟨hok,hc⟩:=zgZ hq;refine cmo (zf5 hB hP hG hok hm20 fun V _=>zfY (zdy hok)) ?_;rintro e X ⟨(⟨V',h1,h2⟩ | ⟨h1,h2⟩),hb⟩
 ·have:V'=V:=by
   have e1:=h1.1;rw [hc.1] at e1;exact (Uc e1).symm
  subst this;have:=dT hn;have:=h1.2.2;omega
 ·exact⟨h2,hb⟩
end
def stI (l v m:UInt8):InsD:=⟨2,0,l,false,v,false,0,0,m,0⟩
def ldI (d l m:UInt8):InsD:=⟨1,d,l,false,0,false,0,0,m,0⟩
def feI:InsD:=⟨7,0,0,false,0,false,0,0,3,0⟩
def p1P:Prg:=onP [[stI 0 1 0],[ldI 0 0 0]]
def p2P:Prg:=onP [[stI 0 1 0],[stI 0 1 0],[ldI 0 0 0]]
def p3P:Prg:=onP [[ldI 0 0 0,stI 0 1 0]]
def p4P:Prg:=onP [[feI]]
theorem zrD:zbn p1P [0,1] 9=true:=by kernel_rfl
theorem zq8:zbn p2P [0,1] 9=true:=by kernel_rfl
theorem zrC:zbn p3P [0,1] 9=true:=by kernel_rfl
theorem zrB:zbn p4P [0] 9=true:=by kernel_rfl
theorem zou:decide (5<((zW p2P [0,1]).map fun m=>jA m 20001).sum)=true:=by kernel_rfl
theorem zp3:(qt p1P [0,1]).length=2:=by kernel_rfl
theorem zp2:(qt p2P [0,1]).length=6:=by kernel_rfl
theorem zp1:(qt p3P [0,1]).length=2:=by kernel_rfl
theorem zp0:(qt p4P [0]).length=1:=by kernel_rfl
abbrev xA:ExD:=(qt p1P [0,1]).getD 0 (ex0 0)
abbrev yA:ExD:=(qt p1P [0,1]).getD 1 (ex0 0)
theorem zqQ:(decide (xA.ev.length=3)&&(decide (yA.ev.length=3)&&(decide ((evA xA 2).v=0)&&(decide ((evA yA 2).v=1)&&(decide (xA.rf.to 0=4)&&(decide (yA.rf.to 1=4)&&(decide (xA.co.to 0=2)&&(jI yA.co xA.co&&(decide (xA.mem 0=1)&&(decide (yA.regs 8=1)&&(za5 xA&&(zqf xA&&(!zfa xA yA)))))))))))))=true:=by kernel_rfl
theorem zlp {X W:Wd} (L:List (List InsD×Nat)) (hL:∀ p∈L,X.heap[p.2]?=some (.cells (p.1.flatMap zC.enc).toArray 41 (0,0))) (hW:W=X.alloc (.cells (L.map fun p=>Value.slice (some ⟨p.2,0,none⟩) p.1.length p.1.length).toArray 42)):ThrsW W.heap.size W (some ⟨X.heap.size,0,none⟩) (L.map (·.1)):=by
 have f:W.heap[X.heap.size]?=some (.cells (L.map fun p=>Value.slice (some ⟨p.2,0,none⟩) p.1.length p.1.length).toArray 42 (0,0)):=by rw [hW];exact zx X _
 refine⟨L.map fun p=>(p.1,some ⟨p.2,0,none⟩,p.1.length),by rw [UE];rfl,.inr ⟨X.heap.size,0,rfl,hlt f,?_⟩,fun x hx=>?_⟩
 ·have e:(L.map fun p=>((p.1,some ⟨p.2,0,none⟩,p.1.length):zki)).flatMap zmB.enc=L.map fun p=>Value.slice (some ⟨p.2,0,none⟩) p.1.length p.1.length:=by
   rw [Qm];clear hL hW f
   induction L with
   | nil=>rfl
   | cons a L ih=>rw [KQ,ih];rfl
  rw [e];exact za f
 ·obtain⟨y,hy,rfl⟩:=UG.1 hx;have g:W.heap[y.2]?=some (.cells (y.1.flatMap zC.enc).toArray 41 (0,0)):=by rw [hW];exact qm _ (hL y hy)
  exact⟨.inr ⟨y.2,0,rfl,hlt g,za g⟩,fun _ a ha=>by
   obtain rfl:(⟨y.2,0,none⟩:Addr)=a:=Uc ha;exact hlt g⟩
abbrev zcS (X:Wd) (O:Nat) (l:List InsD):Prop:=X.heap[O]?=some (.cells (l.flatMap zC.enc).toArray 41 (0,0))
structure CanB (X:Wd) (l:List ExD) (q:OA) (xs:List zcQ):Prop where
 e:xs.map (·.1)=l
 r:SlR exE X q xs
 v:∀ x∈xs,SlR evE X x.2.1 x.1.ev
theorem CanB.below {X Y:Wd} {l:List ExD} {q:OA} {xs:List zcQ} (h:CanB X l q xs) (hb:Bw X Y):CanB Y l q xs:=⟨h.e,h.r.below hb,fun x hx=>(h.v x hx).below hb⟩
theorem CanB.len {X:Wd} {l:List ExD} {q:OA} {xs:List zcQ} (h:CanB X l q xs):xs.length=l.length:=by rw [<- h.e,QK]
theorem jT {X W:Wd} {P Q:Nat} {x:ExD} {qx:OA} {cx:Nat} {cs:Array Value} (hb:Bw X W) (fP:W.heap[P]?=some (.cells cs 55 (0,0))) (hcs:cs.size=333) {o:Obj} (fQ:W.heap[Q]?=some o) (hPQ:P≠Q) (hP:X.heap.size<=P) {K:Wd->Prop} (k:∀ Y,ExH Y P x qx cx->Y.heap[Q]?=some o->Bw X Y->K Y) :
  SatR ((storeVar 55 ⟨P,0,none⟩ (.agg (exC x qx cx).toArray)).run PG W) fun _ w'=>K w' :=
 zE (v := .agg (exC x qx cx).toArray) k55 fP (zG _ _ _) hcs (zbl _ _ _) (k _ (zy fP) ((zq (fun h=>hPQ h.symm)).trans fQ) (zz hb hP _))
theorem zmQ {X:Wd} {b c:Nat} {x:ExD} {q:OA} (fx:ExH X b x q c) {i:Nat} (hi:i<48):X.cell? ⟨b,0+50+1+i*1,none⟩=some (s64 (x.rf.to i)):=by
 obtain⟨A,T,hA,hE⟩:=zj2 x q c;have hR:RelAt X b 50 55 A T x.rf:=⟨hA,by rw [<- hE];exact fx⟩;exact hR.cell hi
theorem zpO {X:Wd} {b c:Nat} {x:ExD} {q:OA} (fx:ExH X b x q c) {i:Nat} (hi:i<48):X.cell? ⟨b,0+99+1+i*1,none⟩=some (s64 (x.co.to i)):=by
 obtain⟨A,T,hA,hE⟩:=zhE x q c;have hR:RelAt X b 99 55 A T x.co:=⟨hA,by rw [<- hE];exact fx⟩;exact hR.cell hi
theorem zoR {X:Wd} {b:Nat} {x:ExD} {q:OA} {c i j:Nat} (fx:zw X ⟨b,0,none⟩ (exC x q c)) (hi:i*8+j<32):X.cell? ⟨b,0+295+i*8+j*1,none⟩=some (u8 (x.regs (i*8+j))):=by
 obtain⟨A,T,hA,hE⟩:=zkZ x q c [];have h2:(exC x q c)[295+(i*8+j)]?=some (u8 (x.regs (i*8+j))):=by
  have h:=hE x.regs;rw [QH] at h;rw [h,jd hA,Jp (by rw [zt];exact hi)];unfold seg;rw [KS,Kg hi];rfl
 have h4:=zc fx h2;rw [show 0+(295+(i*8+j))=0+295+i*8+j*1 by omega] at h4;exact h4
abbrev zEx:Obj := .cells zjp.toArray 55
theorem zri {w:Wd} (hG:GlobE w):CB 10 #[] w (.bool true):=by
 refine qP 183 [] (.s .p (.c .p (.c .p (.c .p (.c .p (.c .p (.c .p (.c .p (.c .p (.c .p .p)))))))))) Tryz.func10 ?_;refine⟨Nat,fun O=>⟨[(1,.slice (some ⟨O,0,none⟩) 1 1)],[]⟩,fun O X=>zcS X O [stI 0 1 0]/\Bw w X,?_,?_⟩
 ·refine⟨[.bool false,u8 1],by kernel_rfl,?_⟩;refine⟨zC.enc (stI 0 1 0),by kernel_rfl,?_⟩;exact⟨⟨by decide,by decide,rfl⟩,zC.enc (stI 0 1 0),rfl,w.heap.size,(cvE rfl rfl),zx w _,(zba w _)⟩
 rintro O X ⟨fO,hbX⟩;refine⟨Nat,fun D=>⟨[(1,.slice (some ⟨O,0,none⟩) 1 1),(2,.slice (some ⟨D,0,none⟩) 1 1)],[]⟩,fun D Y=>zcS Y O [stI 0 1 0]/\zcS Y D [ldI 0 0 0]/\Bw w Y,?_,?_⟩
 ·refine⟨zC.enc (ldI 0 0 0),by kernel_rfl,?_⟩;exact⟨⟨by decide,by decide,rfl⟩,zC.enc (ldI 0 0 0),rfl,X.heap.size,(cvE rfl rfl),qm _ fO,zx X _,hbX.alloc hbX.size _⟩
 clear fO hbX;clear X;rintro D X ⟨fO,fD,hbX⟩;refine⟨OA×List zcQ×Nat,fun s=>⟨[(1,.slice (some ⟨O,0,none⟩) 1 1),(2,.slice (some ⟨D,0,none⟩) 1 1),(3,.slice s.1 s.2.1.length s.2.2),(4,i64 0)],[]⟩,fun s Z=>CanB Z (qt p1P [0,1]) s.1 s.2.1/\zcS Z O [stI 0 1 0]/\zcS Z D [ldI 0 0 0]/\Bw w Z,?_,?_⟩
 ·obtain⟨S,hS⟩:=nm (X);have dXS:Bw X S:=by rw [hS];exact UX _ _
  have hbS:Bw w S:=by rw [hS];exact hbX
  rw [<- hS];obtain⟨W1,hW1⟩:=nm (S.alloc (.cells #[.slice (some ⟨O,0,none⟩) 1 1,.slice (some ⟨D,0,none⟩) 1 1] 42));have b1:Bw S W1:=by rw [hW1];exact (zba _ _)
  refine⟨⟨by decide,by decide,rfl⟩,[.slice (some ⟨O,0,none⟩) 1 1,.slice (some ⟨D,0,none⟩) 1 1],rfl,?_⟩;have hW1b:S.alloc (.cells [.slice (some ⟨O,0,none⟩) 1 1,.slice (some ⟨D,0,none⟩) 1 1].toArray 42)=W1:=hW1.symm;rw [hW1b];have hT:ThrsW W1.heap.size W1 (some ⟨S.heap.size,0,none⟩) [[stI 0 1 0],[ldI 0 0 0]]:=zlp [([stI 0 1 0],O),([ldI 0 0 0],D)] (fun p hp=>by
   simp only [Uz,Qt,Gh] at hp;rcases hp with rfl | rfl
   ·exact zb dXS fO
   ·exact zb dXS fD) hW1
  have h9:=zcD (ct:=2) hT (by decide) (fun l hl=>by
   simp only [Uz,Qt,Gh] at hl;rcases hl with rfl | rfl <;> decide)
  refine cmo h9 ?_;rintro e U ⟨⟨vs,rfl,hP⟩,hbU⟩;have b2:=zst b1 hbU;have bU:=zst hbS b2;refine cmo (zdX (US _) hP (hG.below bU) (by decide) zrD) ?_;rintro e V ⟨⟨xs,qq,cc,rfl,h1,h2,h3⟩,hbV⟩;have bXV:=dXS.trans (((zst b2 hbV)).mono dXS.size);exact⟨(qq,xs,cc),(cvE rfl rfl),⟨h1,h2.row,fun x hx=>(h3 x hx).row⟩,zb (bXV) fO,zb (bXV) fD,(zst hbX bXV)⟩
 clear fO fD hbX;clear X;rintro⟨q3,xs3,c3⟩ X ⟨cb3,fO,fD,hbX⟩;dsimp only at cb3 ⊢;refine⟨OA×List zcQ×Nat,fun s=>⟨[(1,.slice (some ⟨O,0,none⟩) 1 1),(2,.slice (some ⟨D,0,none⟩) 1 1),(3,.slice q3 xs3.length c3),(4,i64 0),(5,.slice s.1 s.2.1.length s.2.2),(6,i64 0)],[]⟩,fun s Z=>CanB Z (qt p2P [0,1]) s.1 s.2.1/\CanB Z (qt p1P [0,1]) q3 xs3/\zcS Z O [stI 0 1 0]/\zcS Z D [ldI 0 0 0]/\Bw w Z,?_,?_⟩
 ·obtain⟨S,hS⟩:=nm (X);have dXS:Bw X S:=by rw [hS];exact UX _ _
  have hbS:Bw w S:=by rw [hS];exact hbX
  rw [<- hS];obtain⟨W1,hW1⟩:=nm (S.alloc (.cells #[.slice (some ⟨O,0,none⟩) 1 1,.slice (some ⟨O,0,none⟩) 1 1,.slice (some ⟨D,0,none⟩) 1 1] 42));have b1:Bw S W1:=by rw [hW1];exact (zba _ _)
  refine⟨⟨by decide,by decide,rfl⟩,[.slice (some ⟨O,0,none⟩) 1 1,.slice (some ⟨O,0,none⟩) 1 1,.slice (some ⟨D,0,none⟩) 1 1],rfl,?_⟩;have hW1b:S.alloc (.cells [.slice (some ⟨O,0,none⟩) 1 1,.slice (some ⟨O,0,none⟩) 1 1,.slice (some ⟨D,0,none⟩) 1 1].toArray 42)=W1:=hW1.symm;rw [hW1b];have hT:ThrsW W1.heap.size W1 (some ⟨S.heap.size,0,none⟩) [[stI 0 1 0],[stI 0 1 0],[ldI 0 0 0]]:=zlp [([stI 0 1 0],O),([stI 0 1 0],O),([ldI 0 0 0],D)] (fun p hp=>by
   simp only [Uz,Qt,Gh] at hp;rcases hp with rfl | rfl | rfl
   ·exact zb dXS fO
   ·exact zb dXS fO
   ·exact zb dXS fD) hW1
  have h9:=zcD (ct:=3) hT (by decide) (fun l hl=>by
   simp only [Uz,Qt,Gh] at hl;rcases hl with rfl | rfl | rfl <;> decide)
  refine cmo h9 ?_;rintro e U ⟨⟨vs,rfl,hP⟩,hbU⟩;have b2:=zst b1 hbU;have bU:=zst hbS b2;refine cmo (zdX (US _) hP (hG.below bU) (by decide) zq8) ?_;rintro e V ⟨⟨xs,qq,cc,rfl,h1,h2,h3⟩,hbV⟩;have bXV:=dXS.trans (((zst b2 hbV)).mono dXS.size);exact⟨(qq,xs,cc),(cvE rfl rfl),⟨h1,h2.row,fun x hx=>(h3 x hx).row⟩,cb3.below (bXV),zb (bXV) fO,zb (bXV) fD,(zst hbX bXV)⟩
 clear cb3 fO fD hbX;clear X;rintro⟨q5,xs5,c5⟩ X ⟨cb5,cb3,fO,fD,hbX⟩;dsimp only at cb5 ⊢;refine⟨OA×List zcQ×Nat,fun s=>⟨[(1,.slice (some ⟨O,0,none⟩) 1 1),(2,.slice (some ⟨D,0,none⟩) 1 1),(3,.slice q3 xs3.length c3),(4,i64 0),(5,.slice q5 xs5.length c5),(6,i64 0),(7,.slice s.1 s.2.1.length s.2.2),(8,i64 0)],[]⟩,fun s Z=>CanB Z (qt p3P [0,1]) s.1 s.2.1/\CanB Z (qt p2P [0,1]) q5 xs5/\CanB Z (qt p1P [0,1]) q3 xs3/\zcS Z O [stI 0 1 0]/\zcS Z D [ldI 0 0 0]/\Bw w Z,?_,?_⟩
 ·obtain⟨S0,hS0⟩:=nm (X.drew);have d0:Bw X S0:=by rw [hS0];exact (UX _ _).drew
  refine DrawE.ord [] [0,1,2,3,4,5,6,7,8,9,10,11,12,13,14] (by kernel_rfl) ?_;rw [<- hS0];have gO:=zb d0 fO;have gD:=zb d0 fD;refine⟨0,rfl,by decide,?_⟩;refine⟨zC.enc (ldI 0 0 0),rfl,za gD,hlt gD,0,rfl,by decide,?_⟩;refine⟨zC.enc (stI 0 1 0),rfl,za gO,hlt gO,?_⟩;obtain⟨S,hS⟩:=nm (S0.alloc (.cells (zC.enc (ldI 0 0 0)++zC.enc (stI 0 1 0)).toArray 41));have d1:Bw S0 S:=by rw [hS];exact (zba _ _)
  refine⟨⟨by decide,by decide,rfl⟩,zC.enc (ldI 0 0 0)++zC.enc (stI 0 1 0),rfl,?_⟩;have hSb:S0.alloc (.cells (zC.enc (ldI 0 0 0)++zC.enc (stI 0 1 0)).toArray 41)=S:=hS.symm;rw [hSb];refine⟨d1,?_⟩;have fN:zcS S S0.heap.size [ldI 0 0 0,stI 0 1 0]:=by rw [hS];exact zx S0 _
  have dXS:Bw X S:=zst d0 d1;have hbS:Bw w S:=zst hbX dXS;obtain⟨W1,hW1⟩:=nm (S.alloc (.cells #[.slice (some ⟨S0.heap.size,0,none⟩) 2 2] 42));have b1:Bw S W1:=by rw [hW1];exact (zba _ _)
  refine⟨⟨by decide,by decide,rfl⟩,[.slice (some ⟨S0.heap.size,0,none⟩) 2 2],rfl,?_⟩;have hW1b:S.alloc (.cells [.slice (some ⟨S0.heap.size,0,none⟩) 2 2].toArray 42)=W1:=hW1.symm;rw [hW1b];refine⟨b1,?_⟩;have hT:ThrsW W1.heap.size W1 (some ⟨S.heap.size,0,none⟩) [[ldI 0 0 0,stI 0 1 0]]:=zlp [([ldI 0 0 0,stI 0 1 0],S0.heap.size)] (fun p hp=>by
   simp only [Uz,Qt,Gh] at hp;rcases hp with rfl
   ·exact fN) hW1
  have h9:=zcD (ct:=1) hT (by decide) (fun l hl=>by
   simp only [Uz,Qt,Gh] at hl;rcases hl with rfl <;> decide)
  refine cmo h9 ?_;rintro e U ⟨⟨vs,rfl,hP⟩,hbU⟩;refine⟨hbU,?_⟩;have b2:=zst b1 hbU;have bU:=zst hbS b2;refine cmo (zdX (US _) hP (hG.below bU) (by decide) zrC) ?_;rintro e V ⟨⟨xs,qq,cc,rfl,h1,h2,h3⟩,hbV⟩;refine⟨hbV,?_⟩;have bXV:=dXS.trans (((zst b2 hbV)).mono dXS.size);exact⟨(qq,xs,cc),(cvE rfl rfl),⟨h1,h2.row,fun x hx=>(h3 x hx).row⟩,cb5.below (bXV),cb3.below (bXV),zb (bXV) fO,zb (bXV) fD,(zst hbX bXV)⟩
 clear cb5 cb3 fO fD hbX;clear X;rintro⟨q7,xs7,c7⟩ X ⟨cb7,cb5,cb3,fO,fD,hbX⟩;dsimp only at cb7 ⊢;refine⟨OA×List zcQ×Nat,fun s=>⟨[(1,.slice (some ⟨O,0,none⟩) 1 1),(2,.slice (some ⟨D,0,none⟩) 1 1),(3,.slice q3 xs3.length c3),(4,i64 0),(5,.slice q5 xs5.length c5),(6,i64 0),(7,.slice q7 xs7.length c7),(8,i64 0),(9,.slice s.1 s.2.1.length s.2.2),(10,i64 0)],[]⟩,fun s Z=>CanB Z (qt p4P [0]) s.1 s.2.1/\CanB Z (qt p3P [0,1]) q7 xs7/\CanB Z (qt p2P [0,1]) q5 xs5/\CanB Z (qt p1P [0,1]) q3 xs3/\zcS Z O [stI 0 1 0]/\zcS Z D [ldI 0 0 0]/\Bw w Z,?_,?_⟩
 ·obtain⟨S,hS⟩:=nm (X);have fN0:=zx X (.cells (zC.enc feI).toArray 41);clear hS;clear S;obtain⟨S,hS⟩:=nm (X.alloc (.cells (zC.enc feI).toArray 41));refine⟨zC.enc feI,by kernel_rfl,?_⟩;refine⟨⟨by decide,by decide,rfl⟩,zC.enc feI,rfl,?_⟩;have hSb:X.alloc (.cells (zC.enc feI).toArray 41)=S:=hS.symm;rw [hSb];have fN:zcS S X.heap.size [feI]:=by rw [hS];exact fN0
  have dXS:Bw X S:=by rw [hS];exact (zba _ _)
  have hbS:Bw w S:=zst hbX dXS;obtain⟨W1,hW1⟩:=nm (S.alloc (.cells #[.slice (some ⟨X.heap.size,0,none⟩) 1 1] 42));have b1:Bw S W1:=by rw [hW1];exact (zba _ _)
  refine⟨⟨by decide,by decide,rfl⟩,[.slice (some ⟨X.heap.size,0,none⟩) 1 1],rfl,?_⟩;have hW1b:S.alloc (.cells [.slice (some ⟨X.heap.size,0,none⟩) 1 1].toArray 42)=W1:=hW1.symm;rw [hW1b];have hT:ThrsW W1.heap.size W1 (some ⟨S.heap.size,0,none⟩) [[feI]]:=zlp [([feI],X.heap.size)] (fun p hp=>by
   simp only [Uz,Qt,Gh] at hp;rcases hp with rfl
   ·exact fN) hW1
  have h9:=zcD (ct:=1) hT (by decide) (fun l hl=>by
   simp only [Uz,Qt,Gh] at hl;rcases hl with rfl <;> decide)
  refine cmo h9 ?_;rintro e U ⟨⟨vs,rfl,hP⟩,hbU⟩;have b2:=zst b1 hbU;have bU:=zst hbS b2;refine cmo (zdX (US _) hP (hG.below bU) (by decide) zrB) ?_;rintro e V ⟨⟨xs,qq,cc,rfl,h1,h2,h3⟩,hbV⟩;have bXV:=dXS.trans (((zst b2 hbV)).mono dXS.size);exact⟨(qq,xs,cc),(cvE rfl rfl),⟨h1,h2.row,fun x hx=>(h3 x hx).row⟩,cb7.below (bXV),cb5.below (bXV),cb3.below (bXV),zb (bXV) fO,zb (bXV) fD,(zst hbX bXV)⟩
 clear cb7 cb5 cb3 fO fD hbX;clear X;rintro⟨q9,xs9,c9⟩ X ⟨cb9,cb7,cb5,cb3,fO,fD,hbX⟩;dsimp only at cb9 ⊢;refine⟨Unit,fun _=>⟨[(1,.slice (some ⟨O,0,none⟩) 1 1),(2,.slice (some ⟨D,0,none⟩) 1 1),(3,.slice q3 xs3.length c3),(4,i64 0),(5,.slice q5 xs5.length c5),(6,i64 0),(7,.slice q7 xs7.length c7),(8,i64 0),(9,.slice q9 xs9.length c9),(10,i64 0),(12,i64 5)],[]⟩,fun _ Z=>CanB Z (qt p4P [0]) q9 xs9/\CanB Z (qt p3P [0,1]) q7 xs7/\CanB Z (qt p2P [0,1]) q5 xs5/\CanB Z (qt p1P [0,1]) q3 xs3/\zcS Z O [stI 0 1 0]/\zcS Z D [ldI 0 0 0]/\Bw w Z,?_,?_⟩
 ·obtain⟨S,hS⟩:=nm (X);have dXS:Bw X S:=by rw [hS];exact UX _ _
  have hbS:Bw w S:=by rw [hS];exact hbX
  rw [<- hS];obtain⟨W1,hW1⟩:=nm (S.alloc (.cells #[.slice (some ⟨O,0,none⟩) 1 1,.slice (some ⟨O,0,none⟩) 1 1,.slice (some ⟨D,0,none⟩) 1 1] 42));have b1:Bw S W1:=by rw [hW1];exact (zba _ _)
  refine⟨⟨by decide,by decide,rfl⟩,[.slice (some ⟨O,0,none⟩) 1 1,.slice (some ⟨O,0,none⟩) 1 1,.slice (some ⟨D,0,none⟩) 1 1],rfl,?_⟩;have hW1b:S.alloc (.cells [.slice (some ⟨O,0,none⟩) 1 1,.slice (some ⟨O,0,none⟩) 1 1,.slice (some ⟨D,0,none⟩) 1 1].toArray 42)=W1:=hW1.symm;rw [hW1b];have hT:ThrsW W1.heap.size W1 (some ⟨S.heap.size,0,none⟩) [[stI 0 1 0],[stI 0 1 0],[ldI 0 0 0]]:=zlp [([stI 0 1 0],O),([stI 0 1 0],O),([ldI 0 0 0],D)] (fun p hp=>by
   simp only [Uz,Qt,Gh] at hp;rcases hp with rfl | rfl | rfl
   ·exact zb dXS fO
   ·exact zb dXS fO
   ·exact zb dXS fD) hW1
  have h9:=zcD (ct:=3) hT (by decide) (fun l hl=>by
   simp only [Uz,Qt,Gh] at hl;rcases hl with rfl | rfl | rfl <;> decide)
  refine cmo h9 ?_;rintro e U ⟨⟨vs,rfl,hP⟩,hbU⟩;have b2:=zst b1 hbU;have bU:=zst hbS b2;refine cmo (zof (US _) hP (hG.below bU) (by decide) zq8 zou) ?_;rintro e V ⟨rfl,hbV⟩;have bXV:=dXS.trans (((zst b2 hbV)).mono dXS.size);exact⟨(),(cvE rfl rfl),cb9.below (bXV),cb7.below (bXV),cb5.below (bXV),cb3.below (bXV),zb (bXV) fO,zb (bXV) fD,(zst hbX bXV)⟩
 clear cb9 cb7 cb5 cb3 fO fD hbX;clear X;rintro _ X ⟨cb9,cb7,cb5,cb3,fO,fD,hbX⟩;have l3:xs3.length=2:=cb3.len.trans zp3;have l5:xs5.length=6:=cb5.len.trans zp2;have l7:xs7.length=2:=cb7.len.trans zp1;have l9:xs9.length=1:=cb9.len.trans zp0;refine⟨Unit,fun _=>⟨[(3,.slice q3 xs3.length c3)],[]⟩,fun _ Z=>X=Z,?_,?_⟩
 ·exact⟨0,rfl,0,rfl,0,rfl,brN (by decide) (brN (by decide) (brN (by rw [l3];rfl) (brN (by rw [l5];rfl) (brN (by rw [l7];rfl) (brN (by rw [l9];rfl) ⟨(),(cvE rfl rfl),rfl⟩)))))⟩
 rintro _ _ rfl;clear cb5 cb7 cb9 fO fD l5 l7 l9;have hxs:∀ i,i<2->∃ x,xs3[i]?=some x/\x.1=(qt p1P [0,1]).getD i (ex0 0):=fun i hi=>by
  have hl:i<xs3.length:=by omega
  refine⟨xs3[i],gE hl,?_⟩;rw [<- cb3.e,gDe,KS,gE hl];rfl
 obtain⟨x,hx0,hx1⟩:=hxs 0 (by decide);obtain⟨y,hy0,hy1⟩:=hxs 1 (by decide);obtain⟨bq,oq,hqq,hbq,hat⟩:=cb3.r.at (by omega:0<xs3.length);have hgx:xs3[0]'(by omega)=x:=Uc ((gE (by omega)).symm.trans hx0);have hgy:xs3[1]'(by omega)=y:=Uc ((gE (by omega)).symm.trans hy0);have atx:zw X ⟨bq,oq+0*333,none⟩ (exC x.1 x.2.1 x.2.2):=by have:=hat 0 (by omega);rw [hgx] at this;exact this
 have aty:zw X ⟨bq,oq+1*333,none⟩ (exC y.1 y.2.1 y.2.2):=by have:=hat 1 (by omega);rw [hgy] at this;exact this
 have vx:=cb3.v x (by rw [<- hgx];exact gM _);have vy:=cb3.v y (by rw [<- hgy];exact gM _);subst hqq;clear hat hgx hgy hx0 hy0 hxs;refine⟨Nat×Nat,fun s=>⟨[(13,At0 s.1),(14,At0 s.2)],[]⟩,fun s Z=>ExH Z s.1 x.1 x.2.1 x.2.2/\ExH Z s.2 y.1 y.2.1 y.2.2/\Bw X Z,?_,?_⟩
 ·have b0:Bw X X.drew:=(UX _ _).drew;have y0:=b0.size;refine DrawE.treeQ [8,9] (.op 0 (.op 1 (.op 2 (.op 3 (.op 4 (.alt (.op 6 (.alt (.op 7 (.alt (.op 8 (.op 5 (.op 9 (.nil)))) (.op 5 (.op 8 (.op 9 (.nil)))))) (.op 5 (.op 7 (.op 8 (.op 9 (.nil))))))) (.alt (.op 7 (.alt (.op 6 (.alt (.op 8 (.op 5 (.op 9 (.nil)))) (.op 5 (.op 8 (.op 9 (.nil)))))) (.op 5 (.op 6 (.op 8 (.op 9 (.nil))))))) (.op 5 (.alt (.op 6 (.op 7 (.op 8 (.op 9 (.nil))))) (.op 7 (.op 6 (.op 8 (.op 9 (.nil)))))))))))))) (by kernel_rfl) ⟨0,rfl,by omega,?_⟩;refine⟨exC x.1 x.2.1 x.2.2,zG _ _ _,zo b0 atx,nL hbq b0.size,1,rfl,by omega,?_⟩;refine Gc ?_ (Gc ?_ ?_)
  ·refine⟨(zba _ _),?_⟩;have b1:=b0.alloc b0.size zEx;have z1:=wz X.drew zEx;refine Gc ?_ ?_
   ·refine⟨(zba _ _),?_⟩;have b2:=b1.alloc b1.size zEx;have z2:=wz (X.drew.alloc zEx) zEx;refine Gc ?_ ?_
    ·exact jT (P:=X.drew.heap.size) (Q:=(X.drew.alloc zEx).heap.size) b2 (qm zEx (zx X.drew zEx)) zU (zx (X.drew.alloc zEx) zEx) (by omega) (by omega) fun V3 p3 q3 b3=>⟨exC y.1 y.2.1 y.2.2,zG _ _ _,zo b3 aty,nL hbq b3.size,jT (P:=(X.drew.alloc zEx).heap.size) (Q:=X.drew.heap.size) b3 (q3) zU (p3) (by omega) (by omega) fun V5 p5 q5 b5=>⟨(X.drew.heap.size,(X.drew.alloc zEx).heap.size),(cvE rfl rfl),q5,p5,b5⟩⟩
    ·exact⟨exC y.1 y.2.1 y.2.2,zG _ _ _,zo b2 aty,nL hbq b2.size,jT (P:=X.drew.heap.size) (Q:=(X.drew.alloc zEx).heap.size) b2 (qm zEx (zx X.drew zEx)) zU (zx (X.drew.alloc zEx) zEx) (by omega) (by omega) fun V7 p7 q7 b7=>jT (P:=(X.drew.alloc zEx).heap.size) (Q:=X.drew.heap.size) b7 (q7) zU (p7) (by omega) (by omega) fun V8 p8 q8 b8=>⟨(X.drew.heap.size,(X.drew.alloc zEx).heap.size),(cvE rfl rfl),q8,p8,b8⟩⟩
   ·refine⟨exC y.1 y.2.1 y.2.2,zG _ _ _,zo b1 aty,nL hbq b1.size,(zba _ _),?_⟩;have b10:=b1.alloc b1.size zEx;have z10:=wz (X.drew.alloc zEx) zEx;exact jT (P:=X.drew.heap.size) (Q:=(X.drew.alloc zEx).heap.size) b10 (qm zEx (zx X.drew zEx)) zU (zx (X.drew.alloc zEx) zEx) (by omega) (by omega) fun V11 p11 q11 b11=>jT (P:=(X.drew.alloc zEx).heap.size) (Q:=X.drew.heap.size) b11 (q11) zU (p11) (by omega) (by omega) fun V12 p12 q12 b12=>⟨(X.drew.heap.size,(X.drew.alloc zEx).heap.size),(cvE rfl rfl),q12,p12,b12⟩
  ·refine⟨(zba _ _),?_⟩;have b13:=b0.alloc b0.size zEx;have z13:=wz X.drew zEx;refine Gc ?_ ?_
   ·refine⟨(zba _ _),?_⟩;have b14:=b13.alloc b13.size zEx;have z14:=wz (X.drew.alloc zEx) zEx;refine Gc ?_ ?_
    ·exact jT (P:=(X.drew.alloc zEx).heap.size) (Q:=X.drew.heap.size) b14 (zx (X.drew.alloc zEx) zEx) zU (qm zEx (zx X.drew zEx)) (by omega) (by omega) fun V15 p15 q15 b15=>⟨exC y.1 y.2.1 y.2.2,zG _ _ _,zo b15 aty,nL hbq b15.size,jT (P:=X.drew.heap.size) (Q:=(X.drew.alloc zEx).heap.size) b15 (q15) zU (p15) (by omega) (by omega) fun V17 p17 q17 b17=>⟨((X.drew.alloc zEx).heap.size,X.drew.heap.size),(cvE rfl rfl),q17,p17,b17⟩⟩
    ·exact⟨exC y.1 y.2.1 y.2.2,zG _ _ _,zo b14 aty,nL hbq b14.size,jT (P:=(X.drew.alloc zEx).heap.size) (Q:=X.drew.heap.size) b14 (zx (X.drew.alloc zEx) zEx) zU (qm zEx (zx X.drew zEx)) (by omega) (by omega) fun V19 p19 q19 b19=>jT (P:=X.drew.heap.size) (Q:=(X.drew.alloc zEx).heap.size) b19 (q19) zU (p19) (by omega) (by omega) fun V20 p20 q20 b20=>⟨((X.drew.alloc zEx).heap.size,X.drew.heap.size),(cvE rfl rfl),q20,p20,b20⟩⟩
   ·refine⟨exC y.1 y.2.1 y.2.2,zG _ _ _,zo b13 aty,nL hbq b13.size,(zba _ _),?_⟩;have b22:=b13.alloc b13.size zEx;have z22:=wz (X.drew.alloc zEx) zEx;exact jT (P:=(X.drew.alloc zEx).heap.size) (Q:=X.drew.heap.size) b22 (zx (X.drew.alloc zEx) zEx) zU (qm zEx (zx X.drew zEx)) (by omega) (by omega) fun V23 p23 q23 b23=>jT (P:=X.drew.heap.size) (Q:=(X.drew.alloc zEx).heap.size) b23 (q23) zU (p23) (by omega) (by omega) fun V24 p24 q24 b24=>⟨((X.drew.alloc zEx).heap.size,X.drew.heap.size),(cvE rfl rfl),q24,p24,b24⟩
  ·refine⟨exC y.1 y.2.1 y.2.2,zG _ _ _,zo b0 aty,nL hbq b0.size,Gc ?_ ?_⟩
   ·refine⟨(zba _ _),?_⟩;have b26:=b0.alloc b0.size zEx;have z26:=wz X.drew zEx;refine⟨(zba _ _),?_⟩;have b27:=b26.alloc b26.size zEx;have z27:=wz (X.drew.alloc zEx) zEx;exact jT (P:=X.drew.heap.size) (Q:=(X.drew.alloc zEx).heap.size) b27 (qm zEx (zx X.drew zEx)) zU (zx (X.drew.alloc zEx) zEx) (by omega) (by omega) fun V28 p28 q28 b28=>jT (P:=(X.drew.alloc zEx).heap.size) (Q:=X.drew.heap.size) b28 (q28) zU (p28) (by omega) (by omega) fun V29 p29 q29 b29=>⟨(X.drew.heap.size,(X.drew.alloc zEx).heap.size),(cvE rfl rfl),q29,p29,b29⟩
   ·refine⟨(zba _ _),?_⟩;have b30:=b0.alloc b0.size zEx;have z30:=wz X.drew zEx;refine⟨(zba _ _),?_⟩;have b31:=b30.alloc b30.size zEx;have z31:=wz (X.drew.alloc zEx) zEx;exact jT (P:=(X.drew.alloc zEx).heap.size) (Q:=X.drew.heap.size) b31 (zx (X.drew.alloc zEx) zEx) zU (qm zEx (zx X.drew zEx)) (by omega) (by omega) fun V32 p32 q32 b32=>jT (P:=X.drew.heap.size) (Q:=(X.drew.alloc zEx).heap.size) b32 (q32) zU (p32) (by omega) (by omega) fun V33 p33 q33 b33=>⟨((X.drew.alloc zEx).heap.size,X.drew.heap.size),(cvE rfl rfl),q33,p33,b33⟩
 rintro⟨P,Q⟩ Y ⟨fX,fY,hbY⟩;dsimp only at fX fY ⊢;replace vx:=vx.below hbY;replace vy:=vy.below hbY;replace hbX:=zst hbX hbY;clear hbY atx aty cb3 l3 hbq;clear X;obtain⟨x,qx,cx⟩:=x;obtain⟨y,qy,cy⟩:=y;dsimp only at hx1 hy1 vx vy fX fY;have hsay:=zqQ;have e1:xA=x:=hx1.symm;have e2:yA=y:=hy1.symm;rw [e1,e2] at hsay;clear hx1 hy1 e1 e2;simp only [bAT,dE,KH] at hsay;obtain⟨s1,s2,s3,s4,s5,s6,s7,s8,s9,s10,s11,s12,s13⟩:=hsay
 rename Wd=>X
 have hvx:=zoO s12 vx;have sxx:=zlA x;obtain⟨bx,ox,hqx,hbx,hatx⟩:=zeW vx (by omega);obtain⟨by_,oy,hqy,hby,haty⟩:=zeW vy (by omega);have atx:=hatx 2 (by omega);have aty:=haty 2 (by omega);subst hqx hqy;have hbL:Bw X X:=UX _ _;refine⟨_,zbk (za fX),brE (Up (by rw [s1];rfl)) ⟨_,zbk (za fX),2,rfl,by omega,?_⟩⟩;refine⟨u8 (evA x 2).v,by have:=zc atx (i:=3) (v:=u8 (evA x 2).v) rfl;exact this,brE (Up (by rw [s3];rfl)) ⟨_,zbk (za fY),2,rfl,by omega,?_⟩⟩;refine⟨u8 (evA y 2).v,by have:=zc aty (i:=3) (v:=u8 (evA y 2).v) rfl;exact this,brE (Up (by rw [s4];rfl)) ⟨0,rfl,by decide,?_⟩⟩;refine⟨s64 (x.rf.to 0),zmQ fX (by decide),brE (Up (by rw [s5];rfl)) ⟨1,rfl,by decide,?_⟩⟩;refine⟨s64 (y.rf.to 1),zmQ fY (by decide),brE (Up (by rw [s6];rfl)) ⟨0,rfl,by decide,?_⟩⟩;refine⟨s64 (x.co.to 0),zpO fX (by decide),brE (Up (by rw [s7];rfl)) ⟨_,zj _,zoq fY,hlt fY,_,zj _,zoq fX,hlt fX,_,fun w=>zaS _ _ _ _ w,brE (s8) ⟨0,rfl,by decide,?_⟩⟩⟩;refine⟨u8 (x.mem 0),zoS (za fX) (by decide),brE (Up (by rw [s9];rfl)) ⟨1,rfl,by decide,?_⟩⟩;refine⟨0,rfl,by decide,?_⟩;refine⟨u8 (y.regs 8),zoR (za fY) (i:=1) (j:=0) (by decide),brE (Up (by rw [s10];rfl)) ⟨_,zG _ _ _,za fX,hlt fX,cmo (zn4 (hvx.below hbL) (hG.t64.below hbX)) ?_⟩⟩;rintro e U ⟨rfl,hbU⟩;have fX:=zb hbU fX;have fY:=zb hbU fY;replace hbX:=zst hbX hbU;replace hbL:=zst hbL hbU;refine brE (s11) ⟨_,zG _ _ _,za fX,hlt fX,_,zG _ _ _,za fX,hlt fX,cmo (zli (vx.below hbL) (vx.below hbL) (by omega)) ?_⟩;rintro e U ⟨rfl,hbU⟩;have fX:=zb hbU fX;have fY:=zb hbU fY;replace hbX:=zst hbX hbU;replace hbL:=zst hbL hbU;refine brE (sxx) ⟨_,zG _ _ _,za fX,hlt fX,_,zG _ _ _,za fY,hlt fY,cmo (zli (vx.below hbL) (vy.below hbL) (by omega)) ?_⟩;rintro e U ⟨rfl,hbU⟩;have fX:=zb hbU fX;have fY:=zb hbU fY;replace hbX:=zst hbX hbU;replace hbL:=zst hbL hbU;exact⟨rb (by rw [s13];rfl),hbX⟩
section
variable {w:Wd}
theorem zqL {q:OA} {cap:Nat} {l:List InsD} (hl:SlR zC w q l) (hn:l.length<=1000000) :
  Calls PG 23 #[.slice q l.length cap] w fun e w'=>(∃ b:Bool,e = .returned (.bool b))/\Bw w w':=by
 refine qP 35 [.slice q l.length cap] (.s .p (.s .p (.c .p .p))) Tryz.func23 ?_;refine⟨Nat,fun n=>⟨[(0,.slice q l.length cap),(3,i64 (n:Nat))],[]⟩,fun n X=>Bw w X,?_,?_⟩
 ·refine⟨Nat×Nat,fun s=>⟨[(0,.slice q l.length cap),(3,i64 (s.2:Nat)),(6,.slice q l.length cap),(7,i64 l.length),(8,i64 (s.1:Nat))],[]⟩,fun s X=>(s.1<=l.length/\s.2<=s.1)/\Bw w X,fun s=>l.length-s.1,(0,0),
   (cvE rfl rfl),⟨⟨UV _,US _⟩,UX _ _⟩,?_⟩
  rintro⟨k,n⟩ X ⟨⟨hk,hnk⟩,hbX⟩;dsimp only at hk hnk ⊢;refine biE (fun hc=>?_) fun hc=>?_
  ·have hc:(k:Int)<(l.length:Int):=dT hc;have hkl:k<l.length:=by omega
   obtain⟨bp,op,rfl,hlp,hat⟩:=hl.at hkl;refine⟨k,rfl,hkl,zC.enc l[k],zC.len _,zo hbX (hat k hkl),nL hlp hbX.size,zm (X:=X) (v := .agg (zC.enc l[k]).toArray) k41 (zC.len _) rfl (Qh.2 fun u hu=>zC.one _ u hu) fun Y hbY fY sY=>?_⟩;have fY:Y.heap[X.heap.size]?=some (.cells (zC.enc l[k]).toArray 41 (0,0)):=fY;have c0:Y.cell? ⟨X.heap.size,0+0,none⟩=some (u8 l[k].op):=zc (za fY) (i:=0) rfl;have hwY:=zst hbX hbY;have fin1:(k+1<=l.length/\n+1<=k+1)/\Bw w Y:=⟨⟨hkl,by omega⟩,hwY⟩;have fin0:(k+1<=l.length/\n<=k+1)/\Bw w Y:=⟨⟨hkl,by omega⟩,hwY⟩;have lt:l.length-(k+1)<l.length-k:=by omega
   refine⟨_,c0,biE (fun h1=>?_) fun h1=>?_⟩
   ·exact brT (nxI (by omega) (nxI (by omega) ⟨(k+1,n+1),(cvE rfl rfl),fin1,lt⟩))
   ·refine⟨_,c0,biE (fun h2=>?_) fun h2=>?_⟩
    ·refine⟨_,c0,biE (fun h3=>?_) fun h3=>?_⟩
     ·exact nxI (by omega) (nxI (by omega) ⟨(k+1,n+1),(cvE rfl rfl),fin1,lt⟩)
     ·exact nxI (by omega) ⟨(k+1,n),(cvE rfl rfl),fin0,lt⟩
    ·exact brF (nxI (by omega) ⟨(k+1,n),(cvE rfl rfl),fin0,lt⟩)
  ·exact⟨n,(cvE rfl rfl),hbX⟩
 rintro n X hbX;refine biE (fun h1=>?_) fun h1=>?_
 ·exact⟨⟨_,rfl⟩,hbX⟩
 ·exact⟨⟨_,rfl⟩,hbX⟩
end
section
variable {w:Wd} {B:Nat} {pc:List Value} {p:Prg}
theorem zqK (hB:B<=w.heap.size) (hP:PrgX B w pc p) :
  Calls PG 15 #[.agg pc.toArray] w fun e w'=>(∃ b:Bool,e = .returned (.bool b))/\Bw w w':=by
 refine qP 63 [.agg pc.toArray] (.c .p (.s .p (.s .p (.c .p .p)))) Tryz.func15 ?_;obtain⟨L,hL⟩:=nm (w.heap.size);have hpc:=hP.v.size;have hPl:=hP.v.len;obtain⟨q1,k1,q2,k2,q3,k3,q4,k4,hvs,_⟩:=hP.v.h;have hpc1:pc[1]?=some (.slice q1 p.locs.length k1):=by rw [hvs];rfl
 obtain⟨_,⟨p3,c3,h3,xs,hxs,zdG,hxr⟩,_⟩:=hP;have hxl:xs.length=p.threads.length:=by rw [<- hxs,QK]
 have hthr:=hPl.threads;refine⟨Unit,fun _=>⟨[(1,At0 L)],[]⟩,fun _ X=>X.heap[L]?=some (.cells pc.toArray 29 (0,0))/\Bw w X,⟨(),⟨.cons (by rw [hL];rfl) .nil,rfl⟩,by rw [hL];exact zx w _,(zba w _)⟩,?_⟩;rintro _ X ⟨f0,hbX⟩;have c3':X.cell? ⟨L,0+3,none⟩=some (.slice p3 p.threads.length c3):=zc (za f0) (i:=3) (by simpa using h3);have c1':X.cell? ⟨L,0+1,none⟩=some (.slice q1 p.locs.length k1):=zc (za f0) (i:=1) (by simpa using hpc1);refine⟨_,c3',biE (fun h1=>?_) fun h1=>?_⟩
 ·exact brT ⟨⟨_,rfl⟩,hbX⟩
 have h1:¬ (3:Int)<(p.threads.length:Int):=dF h1;refine⟨_,c1',biE (fun h2=>?_) fun h2=>?_⟩
 ·exact⟨⟨_,rfl⟩,hbX⟩
 refine⟨Nat,fun n=>⟨[(3,i64 (n:Nat))],[]⟩,fun n X=>Bw w X,?_,?_⟩
 ·refine⟨_,c3',?_⟩;refine⟨Nat×Nat,fun s=>⟨[(3,i64 (s.2:Nat)),(19,.slice p3 p.threads.length c3),(20,i64 p.threads.length),(21,i64 (s.1:Nat))],[]⟩,fun s Y=>(s.1<=p.threads.length/\s.2<=5*s.1)/\Bw w Y,fun s=>p.threads.length-s.1,(0,0),
   (cvE rfl rfl),⟨⟨UV _,US _⟩,hbX⟩,?_⟩
  clear c3' c1' f0 hbX;rintro⟨m,n⟩ Y ⟨⟨hm,hnm⟩,hbY⟩;dsimp only at hm hnm ⊢;refine biE (fun hc=>?_) fun hc=>?_
  ·have hc:(m:Int)<(p.threads.length:Int):=dT hc;have hmt:m<p.threads.length:=by omega
   have hmx:m<xs.length:=by omega
   obtain⟨b3,o3,hp3,hb3,hat3⟩:=zeP (zdG.below (hbY.mono hB)) hmx;have hB2:b3<Y.heap.size:=nL hb3 (UJ hB hbY.size);have e3:some (Value.slice p3 p.threads.length c3)=some (Value.slice (some ⟨b3,o3,none⟩) p.threads.length c3):=by rw [hp3]
   subst hp3;refine⟨m,rfl,hmt,zh8 xs[m],by have:=zc (hat3 m hmx) (i:=0) (v:=zh8 xs[m]) rfl;exact this,?_⟩;obtain⟨hrm,hrb⟩:=hxr _ (gM hmx);have hsl:SlR zC Y xs[m].2.1 xs[m].1:=(hrm.below (hbY.mono hB)).slr (UJ hB hbY.size);obtain⟨l,hl⟩:=nm (xs[m].1);obtain⟨ql,hql⟩:=nm (xs[m].2.1);obtain⟨cl,hcl⟩:=nm (xs[m].2.2);have hv:zh8 xs[m] = .slice ql l.length cl:=by rw [hl,hql,hcl];rfl
   rw [<- hl,<- hql] at hsl;rw [hv];refine biE (fun h5=>?_) fun h5=>?_
   ·exact brT ⟨⟨_,rfl⟩,hbY⟩
   have h5:¬ (5:Int)<(l.length:Int):=dF h5;have hl5:l.length<=5:=by omega
   refine cmo (zqL hsl (by omega)) ?_;rintro e Z ⟨⟨b,rfl⟩,hbZ⟩;have hwZ:=zst hbY hbZ;have hslZ:=hsl.below hbZ;refine biE (fun h6=>?_) fun h6=>?_
   ·exact⟨⟨_,rfl⟩,hwZ⟩
   refine⟨Nat×Nat,fun s=>⟨[(3,i64 (s.2:Nat)),(19,.slice (some ⟨b3,o3,none⟩) p.threads.length c3),(20,i64 p.threads.length),(21,i64 (m:Nat)),(33,.slice ql l.length cl),(34,i64 l.length),(35,i64 (s.1:Nat))],[]⟩,fun s V=>(s.1<=l.length/\s.2<=5*m+s.1)/\Bw Z V,fun s=>l.length-s.1,(0,n),
    (cvE rfl rfl),⟨⟨UV _,by show n<=5*m+0;omega⟩,UX _ _⟩,?_⟩
   rintro⟨k,n2⟩ V ⟨⟨hk,hn2⟩,hbV⟩;dsimp only at hk hn2 ⊢;refine biE (fun hc=>?_) fun hc=>?_
   ·have hc:(k:Int)<(l.length:Int):=dT hc;have hkl:k<l.length:=(by omega);obtain⟨bp,op,hqe,hlp,hat⟩:=hslZ.at hkl;subst hqe;refine⟨k,rfl,hkl,zC.enc l[k],zC.len _,zo hbV (hat k hkl),nL hlp hbV.size,zm (X:=V) (v := .agg (zC.enc l[k]).toArray) k41 (zC.len _) rfl (Qh.2 fun u hu=>zC.one _ u hu) fun U hbU fU sU=>?_⟩;have fU:U.heap[V.heap.size]?=some (.cells (zC.enc l[k]).toArray 41 (0,0)):=fU;have c0:U.cell? ⟨V.heap.size,0+0,none⟩=some (u8 l[k].op):=zc (za fU) (i:=0) rfl;have hZU:=zst hbV hbU;have fin1:(k+1<=l.length/\n2+1<=5*m+(k+1))/\Bw Z U:=⟨⟨hkl,by omega⟩,hZU⟩;have fin0:(k+1<=l.length/\n2<=5*m+(k+1))/\Bw Z U:=⟨⟨hkl,by omega⟩,hZU⟩;have lt:l.length-(k+1)<l.length-k:=(by omega);refine⟨_,c0,biE (fun h7=>?_) fun h7=>?_⟩
    ·exact brT (brT (nxI (by omega) (nxI (by omega) ⟨(k+1,n2+1),(cvE rfl rfl),fin1,lt⟩)))
    ·refine⟨_,c0,biE (fun h8=>?_) fun h8=>?_⟩
     ·exact brT (nxI (by omega) (nxI (by omega) ⟨(k+1,n2+1),(cvE rfl rfl),fin1,lt⟩))
     ·refine⟨_,c0,biE (fun h9=>?_) fun h9=>?_⟩
      ·refine⟨_,c0,biE (fun h=>?_) fun h=>?_⟩
       ·exact nxI (by omega) (nxI (by omega) ⟨(k+1,n2+1),(cvE rfl rfl),fin1,lt⟩)
       ·exact nxI (by omega) ⟨(k+1,n2),(cvE rfl rfl),fin0,lt⟩
      ·exact brF (nxI (by omega) ⟨(k+1,n2),(cvE rfl rfl),fin0,lt⟩)
   ·exact nxI (by omega) ⟨(m+1,n2),(cvE rfl rfl),⟨⟨hmt,by show n2<=5*(m+1);omega⟩,(zst hwZ hbV)⟩,zdc (by omega)⟩
  ·exact⟨n,(cvE rfl rfl),hbY⟩
 rintro n Y hbY;exact⟨⟨_,rfl⟩,hbY⟩
end
theorem zrc {P:Program} {w:Wd} {t ty:TypeId} {x y:Int} {K:Value->Wd->Prop} (k:K (i64 (if y<x then y else x)) w):SatR ((Builtin.min_ #[t,t] ty #[i64 x,i64 y]).run P w) K :=
 SatR.mk (v:=i64 (if y<x then y else x)) (w':=w) (by simp [Builtin.min_,Builtin.min2,i64]) k
theorem zrd {P:Program} {w:Wd} {t ty:TypeId} {x y:Int} {K:Value->Wd->Prop} (k:K (i64 (if y > x then y else x)) w):SatR ((Builtin.max_ #[t,t] ty #[i64 x,i64 y]).run P w) K :=
 SatR.mk (v:=i64 (if y > x then y else x)) (w':=w) (by simp [Builtin.max_,Builtin.max2,i64]) k
theorem zqT (a:UInt8):IntKind.u8.wrap ((BitVec.ofInt IntKind.u8.bits (a.toNat:Int)|||BitVec.ofInt IntKind.u8.bits (1:Int)).toNat:Int)=((a|||1:UInt8).toNat:Int):=by
 have e:∀ x:UInt8,(BitVec.ofInt IntKind.u8.bits (x.toNat:Int)).toNat=x.toNat:=fun x=>by
  have:=x.toNat_lt;show (BitVec.ofInt 8 (x.toNat:Int)).toNat=_;rw [Kq];omega
 have h1:BitVec.ofInt IntKind.u8.bits (1:Int)=BitVec.ofInt IntKind.u8.bits (((1:UInt8).toNat:Nat):Int):=rfl;rw [h1,BitVec.toNat_or,e,e,<- UInt8.toNat_or];exact zcC (by have:=(a|||1).toNat_lt;omega)
section
variable {w:Wd} {pc:List Value} {p:Prg}
theorem zjc {most:Int} {add:UInt8} (hP:PrgX w.heap.size w pc p) (hG:GlobE w) :
  CB 5 #[.agg pc.toArray,i64 most,u8 add] w (.bool true):=by
 refine qP 89 [.agg pc.toArray,i64 most,u8 add] (.c .p (.c .p (.c .p (.c .p (.c .p (.s .p (.c .p .p))))))) Tryz.func5 ?_;obtain⟨L,hL⟩:=nm (w.heap.size);have hpc:=hP.v.size;have aw:∀ {Y:Wd},Bw w Y->Calls PG 10 #[] Y fun e w'=>e = .returned (.bool true)/\Bw w w':=fun {Y} h=>cmo (zri (hG.below h)) fun e U h2=>⟨h2.1,h.trans (h2.2.mono h.size)⟩;refine⟨Unit,fun _=>⟨[(1,i64 most),(2,u8 add),(3,At0 L)],[]⟩,fun _ X=>X.heap[L]?=some (.cells pc.toArray 29 (0,0))/\Bw w X,⟨(),⟨.cons rfl (.cons rfl (.cons (by rw [hL];rfl) .nil)),rfl⟩,by rw [hL];exact zx w _,(zba w _)⟩,?_⟩;rintro _ X ⟨f0,hbX⟩;refine⟨Unit,fun _=>⟨[(1,i64 most),(2,u8 add),(3,At0 L)],[]⟩,fun _ X=>X.heap[L]?=some (.cells pc.toArray 29 (0,0))/\Bw w X,?_,?_⟩
 ·refine⟨pc,hpc,za f0,hlt f0,cmo (zqK hbX.size (hP.below hbX)) ?_⟩;rintro e Y ⟨⟨b,rfl⟩,hbY⟩;have hwY:=zst hbX hbY
  cases b with
  | false =>
   refine brT (cmo (aw hwY) ?_);rintro e U ⟨rfl,hbU⟩;exact⟨rfl,hbU⟩
  | true =>
   exact brF ⟨(),(cvE rfl rfl),zb hbY f0,hwY⟩
 clear f0 hbX;clear X;rintro _ X ⟨f0,hbX⟩;refine⟨Unit,fun _=>⟨[(1,i64 most),(2,u8 add),(3,At0 L)],[]⟩,fun _ X=>X.heap[L]?=some (.cells pc.toArray 29 (0,0))/\Bw w X,?_,?_⟩
 ·refine⟨pc,hpc,za f0,hlt f0,cmo (ze1 hbX.size (hP.v.below hbX) (hG.c.below hbX)) ?_⟩;rintro e Y ⟨m,rfl,hm,hbY⟩;have hwY:=zst hbX hbY;have f0:=zb hbY f0;refine biE (fun h=>?_) fun h=>?_
  ·have hok:za7 p=false:=by
    cases hok:za7 p with
    | false=>rfl
    | true =>
     have h0:=hm.2 hok;rw [h0] at h
     cases h
   refine⟨pc,hpc,za f0,hlt f0,cmo (zoe (most:=5) hwY.size (hP.below hwY) (hG.below hwY) hok (by decide)) ?_⟩;rintro e U ⟨rfl,hbU⟩;have hwU:=zst hwY hbU;refine brT (brT (cmo (aw hwU) ?_));rintro e V ⟨rfl,hbV⟩;exact⟨rfl,hbV⟩
  ·exact⟨(),(cvE rfl rfl),f0,hwY⟩
 clear f0 hbX;clear X;rintro _ X ⟨f0,hbX⟩;refine⟨Unit,fun _=>⟨[(1,i64 most),(2,u8 add),(3,At0 L),(9,.slice none 0 0),(10,i64 2)],[]⟩,fun _ X=>X.heap[L]?=some (.cells pc.toArray 29 (0,0))/\Bw w X,?_,?_⟩
 ·refine⟨pc,hpc,za f0,hlt f0,?_⟩;refine zrc ?_;refine cmo (zjn hpc (i:=if -1<most then -1 else most) (by split <;> omega)) ?_;rintro e U ⟨rfl,hbU⟩;exact⟨(),(cvE rfl rfl),zb hbU f0,(zst hbX hbU)⟩
 clear f0 hbX;clear X;rintro _ X ⟨f0,hbX⟩;refine⟨Unit,fun _=>⟨[(1,i64 most),(2,u8 add),(9,.slice none 0 0),(10,i64 2),(11,.slice none 0 0),(12,i64 2)],[]⟩,fun _ X=>Bw w X,?_,?_⟩
 ·refine⟨pc,hpc,za f0,hlt f0,?_⟩;refine zrd ?_;refine cmo (zjn hpc (i:=if 20001 > most then 20001 else most) (by split <;> omega)) ?_;rintro e U ⟨rfl,hbU⟩;exact⟨(),(cvE rfl rfl),(zst hbX hbU)⟩
 clear f0 hbX;clear X;rintro _ X hbX;have fN0:=zx X (.cells (zC.enc (gI (add|||1))).toArray 41);obtain⟨S,hS⟩:=nm (X.alloc (.cells (zC.enc (gI (add|||1))).toArray 41));refine⟨_,zqT add,[.bool false,u8 (add|||1)],rfl,zC.enc (gI (add|||1)),rfl,⟨by decide,by decide,rfl⟩,zC.enc (gI (add|||1)),rfl,?_⟩;have hSb:X.alloc (.cells (zC.enc (gI (add|||1))).toArray 41)=S:=hS.symm;rw [hSb];have fN:zcS S X.heap.size [gI (add|||1)]:=by rw [hS];exact fN0
 have dXS:Bw X S:=by rw [hS];exact (zba _ _)
 have hbS:Bw w S:=zst hbX dXS;refine⟨Unit,fun _=>⟨[(9,.slice none 0 0),(10,i64 2),(11,.slice none 0 0),(12,i64 2),(14,.slice none 0 0),(15,i64 5)],[]⟩,fun _ X=>Bw w X,?_,?_⟩
 ·obtain⟨W1,hW1⟩:=nm (S.alloc (.cells #[.slice (some ⟨X.heap.size,0,none⟩) 1 1,.slice (some ⟨X.heap.size,0,none⟩) 1 1] 42));have b1:Bw S W1:=by rw [hW1];exact (zba _ _)
  refine⟨⟨by decide,by decide,rfl⟩,[.slice (some ⟨X.heap.size,0,none⟩) 1 1,.slice (some ⟨X.heap.size,0,none⟩) 1 1],rfl,?_⟩;have hW1b:S.alloc (.cells [.slice (some ⟨X.heap.size,0,none⟩) 1 1,.slice (some ⟨X.heap.size,0,none⟩) 1 1].toArray 42)=W1:=hW1.symm;rw [hW1b];have hT:ThrsW W1.heap.size W1 (some ⟨S.heap.size,0,none⟩) [[gI (add|||1)],[gI (add|||1)]]:=zlp [([gI (add|||1)],X.heap.size),([gI (add|||1)],X.heap.size)] (fun p hp=>by
   simp only [Uz,Qt,Gh] at hp;rcases hp with rfl | rfl
   ·exact fN
   ·exact fN) hW1
  have h9:=zcD (ct:=2) hT (by show 2<=4;decide) (fun l hl=>by
   simp only [Uz,Qt,Gh] at hl;rcases hl with rfl | rfl <;> (show 1<=1000;decide))
  refine cmo h9 ?_;rintro e U ⟨⟨vs,rfl,hP2⟩,hbU⟩;have b2:=zst b1 hbU;have bU:=zst hbS b2;have hok:=znp add;refine cmo (zf5 (most:=5) (US _) hP2 (hG.below bU) hok (by decide) fun V _=>zfY (zdy hok)) ?_;rintro e V ⟨(⟨V',hco,_⟩ | ⟨_,rfl⟩),hbV⟩
  ·have:=hco.1;rw [ziP] at this
   cases this
  ·exact⟨(),(cvE rfl rfl),(zst bU hbV)⟩
 clear hbX hS fN dXS hSb hbS fN0;clear S X;rintro _ X hbX;refine brT (brT (brT ⟨0,rfl,0,rfl,brT (cmo (aw hbX) ?_)⟩));rintro e V ⟨rfl,hbV⟩;exact⟨rfl,hbV⟩
end
end Go.Proofs.YtpalcnbhkigagaaGreatDoor
namespace Go.Proofs.YtpalcnbhkigagaaGreatDoor
open Go.Vc Go.RowKit Go.Sei
open Go.ChangeShapes Go.WideShapes Go.ChangeAt
section
variable {H:Type} {enc:TypeId×Value->H} {P:Program} {w:Wd} {base:Nat} {spare:Nat->Bool} {held:Bool} {fuel:Nat} {t:TypeId} {cs:List Value} {x:DataW H×List MemPlace}
theorem zkM (ht:P.underlying t=some (.int .u8)) (h:DataW.trod enc P w base spare held fuel t cs=some x):∃ b:UInt8,cs=[u8 b]/\x.1 = .lit (.int .u8 b.toNat):=by
 obtain⟨n,rfl,rfl,hw⟩:=DataW.trod_int ht h;have hb:=bounds_u8 hw;have e:((UInt8.ofNat n.toNat).toNat:Int)=n:=by
  rw [KF];omega
 exact⟨UInt8.ofNat n.toNat,by rw [u8,e],by rw [e]⟩
theorem zfr {n:Nat} {e:TypeId} (ht:P.underlying t=some (.array n e)) (he:P.underlying e=some (.int .u8)) (hc:P.cellsOf e=1) (hn:P.cellsOf t=n)
  (h:DataW.trod enc P w base spare held fuel t cs=some x):∃ bs:List UInt8,bs.length=n/\cs=bs.map u8/\x.1 = .agg (bs.map fun b => .lit (.int .u8 b.toNat)):=by
 obtain⟨xs,m,rfl,rfl,hl,hx,hel⟩:=DataW.trod_array ht h;rw [hn] at hl;have each:∀ i (h:i<n),∃ b:UInt8,cs[i]?=some (u8 b)/\xs[i]?.map (·.1)=some (.lit (.int .u8 b.toNat)):=fun i hi=>by
  have h1:=hel i hi;rw [hc,gE (by omega)] at h1;obtain⟨b,h2,h3⟩:=zkM he h1;refine⟨b,?_,by rw [gE (by omega),Ub,h3]⟩;have:((cs.drop (i*1)).take 1)[0]?=some (u8 b):=by rw [h2];rfl
  simpa using this
 have:∀ k,k<=n->∃ bs:List UInt8,bs.length=k/\cs.take k=bs.map u8/\(xs.take k).map (·.1)=bs.map fun b => .lit (.int .u8 b.toNat):=by
  intro k
  induction k with
  | zero=>exact fun _=>⟨[],rfl,by simp,by simp⟩
  | succ k ih =>
   intro hk;obtain⟨bs,h1,h2,h3⟩:=ih (by omega);obtain⟨b,h4,h5⟩:=each k (by omega);have hk1:k<cs.length:=by omega
   have hk2:k<xs.length:=by omega
   rw [gE hk1] at h4;rw [gE hk2] at h5;refine⟨bs++[b],by simp [h1],?_,?_⟩
   ·rw [tsg hk1,h2,Uc h4];simp
   ·rw [tsg hk2,QN,h3];simp at h5;simp [h5]
 obtain⟨bs,h1,h2,h3⟩:=this n (US _);rw [JE (by omega)] at h2 h3;exact⟨bs,h1,h2,by rw [<- h3]⟩
end
theorem zay:Tryz.prog.cellsOf 5=1:=by kernel_rfl
theorem zqz:Tryz.prog.cellsOf 4=1:=by kernel_rfl
theorem zjj (b o i:Nat):(⟨b,o,none⟩:Addr).add i=⟨b,o+i,none⟩:=by
 unfold Addr.add;by_cases h:i=0
 ·simp [h]
 ·simp [h]
section
variable {w:Wd} {base:Nat} {cs:List Value}
theorem zhO {a:Addr} {n:Nat} (hn:0<n) (h:w.cells? base a n=some cs):a.spot=none/\a.block<w.heap.size/\zw w ⟨a.block,a.off,none⟩ cs:=by
 obtain⟨_,hl,hc⟩:=World.cells?_some h;have h0:=hc 0 hn;rw [gE (by omega)] at h0;have hs:a.spot=none:=by simpa [Addr.add] using World.cell?_spot h0
 obtain⟨b,o,s⟩:=a;dsimp only at hs;subst hs;refine⟨rfl,Jy _ _ h0,jV fun i v hv=>?_⟩;have hi:i<n:=by have:=(Jq.1 hv).1;omega
 have:=(hc i hi).trans hv;rw [zjj] at this;exact this
end
theorem zmL:ownKnob Tryz.prog.godebug=none:=by kernel_rfl
theorem zbU:laidOutB PG=true:=by kernel_rfl
section
variable {H:Type} {enc:TypeId×Value->H} {P:Program} {w:Wd} {base:Nat} {spare:Nat->Bool} {held:Bool} {fuel:Nat} {t e:TypeId} {cs:List Value} {x:DataW H×List MemPlace}
def Opens (enc:TypeId×Value->H) (P:Program) (w:Wd) (base:Nat) (spare:Nat->Bool) (held:Bool) (t:TypeId) (R:List Value->Prop):Prop :=
 ∀ fuel cs x,DataW.trod enc P w base spare held fuel t cs=some x->R cs
theorem Opens.field {fs:Array Field} {R:List Value->Prop} {i:Nat} {f:Field} {n:Nat} {xs:List (DataW H×List MemPlace)} {m:Nat} (hel:∀ (i:Nat) (f:Field),fs[i]?=some f->DataW.trod enc P w base spare held m f.type ((cs.drop f.offset).take (P.cellsOf f.type))=xs[i]?)
  (hl:xs.length=fs.size) (hi:fs[i]?=some f) {o:Nat} (hoo:f.offset=o) (hn:P.cellsOf f.type=n) (ho:Opens enc P w base spare held f.type R):R ((cs.drop o).take n):=by
 subst hoo;have h1:=hel i f hi;have:i<fs.size:=(Jj.1 hi).1;rw [gE (by omega),hn] at h1;exact ho _ _ _ h1
theorem ju (ht:P.underlying t=some (.int .u8)):Opens enc P w base spare held t fun cs=>∃ b:UInt8,cs=[u8 b]:=fun fuel cs x h=>by
 obtain⟨b,h,_⟩:=zkM ht h;exact⟨b,h⟩
theorem zjQ (ht:P.underlying t=some .bool):Opens enc P w base spare held t fun cs=>∃ b:Bool,cs=[.bool b]:=fun fuel cs x h=>by
 obtain⟨b,h,_⟩:=DataW.trod_bool ht h;exact⟨b,h⟩
theorem zoB {β:Type} {n:Nat} (i0:β) {Q:Nat->β->Prop} (h:∀ i,i<n->∃ b,Q i b):∃ bs:List β,bs.length=n/\∀ i (hi:i<bs.length),Q i bs[i]:=by
 have h2:∀ i,∃ b,i<n->Q i b:=fun i=>by
  by_cases hi:i<n
  ·obtain⟨b,hb⟩:=h i hi;exact⟨b,fun _=>hb⟩
  ·exact⟨i0,fun h=>Gl h hi⟩
 obtain⟨g,hg⟩:=Classical.axiomOfChoice h2;refine⟨(List.range n).map g,by simp,fun i hi=>?_⟩;simp only [Qo,Kw];exact hg i (by simpa using hi)
theorem cut (cs:List Value) (o n o':Nat) (h:o+n=o'):cs.drop o=(cs.drop o).take n++cs.drop o':=by
 rw [<- h,<- Uh,JO]
end
theorem cC (t n:Nat) (h:Tryz.prog.cellsOf t=n):Tryz.prog.cellsOf t=n:=h
theorem zdp {H:Type} {enc:TypeId×Value->H} {a:Assume} {C:Checked} {os:Os} {f:FuncId} {fn:Func} {s:ChangeSpec} {conds:List PathCond} {apart fresh handsOn again:Bool} {X:Wd->Array Value->Prop}
  (hX:∀ (w w':Wd) (args:Array Value),w.heap=w'.heap->X w args->X w' args)
  (own:ownKnob C.prog.godebug=none) (started:os.Started) (noInit:C.prog.inits.idxOf? f=none) (hfn:C.prog.funcs[f]?=some fn)
  (witness:∃ (w:Wd) (tape:Tape) (i:Input),w.os=os/\(w.forCall tape i).Shaped C.prog/\i.vars=[]/\Input.okWide C.prog (w.forCall tape i) .any w.heap.size f i /\
   ((s.pre enc C.prog fn conds apart (w.forCall tape i).memory i.args/\X (w.forCall tape i).memory i.args)/\sizedMet enc C.prog fn (OpenSpec.ofChange s) apart (w.forCall tape i).memory i.args)/\a.holds C.prog (lone (Frame.enter C.prog f i.args .normal) [] (w.forCall tape i)))
  (contract:∀ (W:Wd) (base:Nat) (args:Array Value) (ds gs:List (DataW H)) (before:List MemPlace),
   (∀ (j:Nat) t v,fn.params[j]?=some t->args[j]?=some v->Value.okWide C.prog W .any base t v) ->
   DataW.Whole enc C.prog fn.params.toList s.vars apart W args.toList ds gs before->X W args->W.ShapedOpen C.prog ->
   (∃ ds gs before,DataW.Whole enc C.prog fn.params.toList (OpenSpec.ofChange s).vars apart W args.toList ds gs before/\∀ n∈DataW.weightsEach C.prog (fn.params.toList++(OpenSpec.ofChange s).bare.plain.varTypes C.prog) (ds++gs),n<=reachBytes) ->
   Calls C.prog f args W fun e W'=>∃ v,e = .returned v/\s.post enc C.prog fn apart fresh handsOn again W args v W') :
  ReturnsInHanded a C os f .any (fun w args=>(s.pre enc C.prog fn conds apart w args/\X w args)/\sizedMet enc C.prog fn (OpenSpec.ofChange s) apart w args) (s.post enc C.prog fn apart fresh handsOn again):=by
 refine returnsInHanded_of_calls own started noInit witness ?_;intro w tape i _ hsh _ hok hpre hholds;obtain⟨_,_,_,fn',hfn',_,_,_,_,hval⟩:=hok;have e:fn'=fn:=Uc (hfn'.symm.trans hfn);subst e;obtain⟨⟨⟨ds,gs,before,hw,hc⟩,hx⟩,hz⟩:=hpre;have hw':=DataW.Whole.of_heap (w':=w.forCall tape i) (by rfl) hw;obtain⟨_,ds2,gs2,before2,hw2,hall⟩:=hz;refine (contract (w.forCall tape i) w.heap.size i.args ds gs before hval hw' (hX _ _ _ (by rfl) hx) hsh ⟨ds2,gs2,before2,DataW.Whole.of_heap (w':=w.forCall tape i) (by rfl) hw2,fun n hn=>dT (Qh.1 hall n hn)⟩).mono fun e W' ⟨v,he,hp⟩=>?_;subst he;exact ChangeSpec.post_blind hp
section
variable {H:Type} {enc:TypeId×Value->H} {P:Program} {w:Wd} {base:Nat} {spare:Nat->Bool} {held:Bool} {fuel:Nat} {t:TypeId} {cs:List Value} {x:DataW H×List MemPlace}
def Wgt (P:Program) (t:TypeId) (d:DataW H):Prop:=∀ n∈d.weights P t,n<=reachBytes
theorem zoi {ds:List (DataW H)} {e:TypeId} (h:∀ n∈DataW.weightsAll P e ds,n<=reachBytes):∀ d∈ds,Wgt P e d:=by
 induction ds with
 | nil=>intro d hd;cases hd
 | cons a r ih =>
  intro d hd;simp only [DataW.weightsAll,QO] at h;rcases Uz.1 hd with rfl | hd
  ·exact fun n hn=>h n (.inl hn)
  ·exact ih (fun n hn=>h n (.inr hn)) d hd
end
theorem zfz {H:Type}:∀ {a b:List UInt8},a.map (fun b=>(DataW.lit (.int .u8 b.toNat):DataW H))=b.map (fun b=>DataW.lit (.int .u8 b.toNat))->a=b
 | [],[],_=>rfl
 | [],_::_,h=>by cases h
 | _::_,[],h=>by cases h
 | x::a,y::b,h=>by
  simp only [Uy,QI,DataW.lit.injEq,Lit.int.injEq,true_and] at h;rw [zfz h.2,Ud.1 (by omega:x.toNat=y.toNat)]
section
variable {H:Type} {enc:TypeId×Value->H} {P:Program} {w:Wd} {base:Nat} {spare:Nat->Bool} {held:Bool} {fuel F:Nat} {t e:TypeId} {cs:List Value} {x:DataW H×List MemPlace}
def OpensW (enc:TypeId×Value->H) (P:Program) (w:Wd) (base:Nat) (spare:Nat->Bool) (held:Bool) (F:Nat) (t:TypeId) (R:List Value->Prop):Prop :=
 ∀ n,n<F->∀ cs x,DataW.trod enc P w base spare held n t cs=some x->Wgt P t x.1->R cs
theorem zau {R:List Value->Prop} (h:Opens enc P w base spare held t R):OpensW enc P w base spare held F t R:=fun n _ cs x h1 _=>h n cs x h1
theorem OpensW.field {fs:Array Field} {R:List Value->Prop} (ht:P.underlying t=some (.struct fs)) (h:DataW.trod enc P w base spare held fuel t cs=some x) (hw:Wgt P t x.1) (hF:fuel<=F) {i:Nat} {f:Field} (hf:fs[i]?=some f) {T o k:Nat} (hT:f.type=T) (hO:f.offset=o) (hk:P.cellsOf T=k)
  (ho:OpensW enc P w base spare held F T R):R ((cs.drop o).take k):=by
 subst hT hO hk;obtain⟨xs,n,rfl,rfl,hl,hx,hel⟩:=KI ht h;have h1:=hel i f hf;have hi:i<xs.length:=by rw [hx];exact (Jj.1 hf).1
 rw [gE hi] at h1;refine ho n (by omega) _ _ h1 fun m hm=>hw m ?_;simp only [DataW.weights,ht];refine DataW.weights_mem_each (j:=i) (t:=f.type) (d:=xs[i].1) ?_ ?_ m hm
 ·rw [KS];have:fs.toList[i]?=some f:=by simpa using hf
  rw [this];rfl
 ·rw [KS,gE hi];rfl
theorem zfp (ht:P.underlying t=some .string):OpensW enc P w base spare held F t fun cs=>∃ s:List UInt8,s.length<=140737488351232/\cs=[z5 s]:=fun n _ cs x h hw=>by
 obtain⟨s,rfl,rfl,_⟩:=DataW.trod_string ht h;refine⟨s.data.toList,hw _ (by simp [DataW.weights]),?_⟩;unfold z5 bs;rw [Array.toArray_toList]
theorem zbE {β:Type} (i0:β) {f:β->List Value} {Q:β->Prop} {sz:Nat} (hp:0<sz) (ht:P.underlying t=some (.slice e)) (hc:P.cellsOf e=sz) (hb:Nat.ble 1 (P.bytesOf e)=true) (ho:OpensW enc P w base spare held F e fun cs=>∃ b,Q b/\cs=f b) :
  OpensW enc P w base spare held (F+1) t fun cs=>∃ (p:OA) (cap:Nat) (l:List β),cs=[.slice p l.length cap]/\(l.length<=140737488351232/\l.length*P.bytesOf e<=140737488351232)/\l.length<=cap/\(∀ b∈l,Q b)/\∃ b o,(l.length=0\/p=some ⟨b,o,none⟩)/\∀ i (hi:i<l.length),b<w.heap.size/\zw w ⟨b,o+i*sz,none⟩ (f l[i]):=fun n hn cs x h hw=>by
 rcases DataW.trod_slice ht h with ⟨rfl,_⟩ | ⟨a,len,cap,elems,qS,n,rfl,rfl,hx,_,hlc,hcm,hlen,hel,_,_⟩
 ·exact⟨none,0,[],rfl,⟨by simp,by simp⟩,by simp,by simp,0,0,.inl rfl,fun i hi=>by simp at hi⟩
 ·subst hx;have hw':∀ m,m∈((elems.map (·.1)).length+(qS.map (·.1)).length)*P.bytesOf e::(DataW.weightsAll P e (elems.map (·.1))++DataW.weightsAll P e (qS.map (·.1)))->m<=reachBytes:=fun m hm=>by
   refine hw m ?_;simp only [DataW.weights,ht];exact hm
  have hb:=JQ hb;have hlb:len<=140737488351232/\len*P.bytesOf e<=140737488351232:=by
   have h1:=hw' _ Kx;simp only [QK] at h1;have:elems.length*1<=(elems.length+qS.length)*P.bytesOf e:=Un (Qw _ _) hb;have h2:elems.length*P.bytesOf e<=(elems.length+qS.length)*P.bytesOf e:=Un (Qw _ _) (US _);have hr:reachBytes=140737488351232:=rfl;rw [<- hlen];omega
  have each:∀ i,i<len->∃ m:β,Q m/\(a.add (i*sz)).spot=none/\(a.add (i*sz)).block<w.heap.size/\zw w ⟨(a.add (i*sz)).block,(a.add (i*sz)).off,none⟩ (f m):=fun i hi=>by
   have h1:=hel i hi;rw [hc,gE (by omega),Option.bind_eq_some_iff] at h1;obtain⟨cs,h2,h3⟩:=h1;obtain⟨m,hq,rfl⟩:=ho n (by omega) _ _ h3 (zoi (ds:=elems.map (·.1)) (fun m hm=>hw' m (JV _ (JU _ hm))) _ (List.mem_map_of_mem (gM _)));exact⟨m,hq,zhO hp h2⟩
  obtain⟨l,h1,h2⟩:=zoB i0 each;refine⟨some a,cap,l,by rw [h1],by rw [h1];exact hlb,by omega,fun b hb=>?_,a.block,a.off,?_,fun i hi=>?_⟩
  ·obtain⟨i,hi,rfl⟩:=Kh hb;exact (h2 i hi).1
  ·by_cases h00:l.length=0
   ·exact .inl h00
   ·right;have hsp:a.spot=none:=by
     have:=(h2 0 (by omega)).2.1;simpa [Addr.add] using this
    obtain⟨b,o,s⟩:=a;dsimp only at hsp;subst hsp;rfl
  ·have hsp:a.spot=none:=by
    have:=(h2 0 (by omega)).2.1;simpa [Addr.add] using this
   obtain⟨b,o,s⟩:=a;dsimp only at hsp;subst hsp;have:=(h2 i hi).2.2;rw [zjj] at this;exact this
end
section
variable {H:Type} {enc:TypeId×Value->H} {P:Program} {w:Wd} {base:Nat} {spare:Nat->Bool} {held:Bool} {fuel F:Nat} {t e:TypeId} {cs:List Value} {x:DataW H×List MemPlace}
theorem zd2 {α:Type} {E:Enc α} {p:OA} {l:List α} (h:∃ b o,(l.length=0\/p=some ⟨b,o,none⟩)/\∀ i (hi:i<l.length),b<w.heap.size/\zw w ⟨b,o+i*E.sz,none⟩ (E.enc l[i])):RowB E w.heap.size w p l:=by
 obtain⟨b,o,hp,hc⟩:=h;by_cases h0:l=[]
 ·exact .inl h0
 ·have hl0:0<l.length:=List.length_pos_iff.2 h0;rcases hp with hp | rfl
  ·omega
  ·exact RowB.of_slr (.inr ⟨b,o,rfl,(hc 0 hl0).1,fun i hi=>(hc i hi).2⟩)
end
section
variable {H:Type} {enc:TypeId×Value->H} {w:Wd} {base:Nat} {spare:Nat->Bool} {held:Bool} {F:Nat}
theorem zgG:Opens enc PG w base spare held 39 fun cs=>∃ (r:Bool) (n:UInt8),cs=[.bool r,u8 n]:=fun fuel cs x h=>by
 obtain⟨xs,m,rfl,rfl,hl,hx,hel⟩:=KI Tryz.underlying39 h;rw [cC 39 2 (by kernel_rfl)] at hl;obtain⟨b0,e0⟩:=Opens.field (o:=0) (i:=0) hel hx rfl rfl zqz (zjQ Tryz.underlying4);obtain⟨b1,e1⟩:=Opens.field (o:=1) (i:=1) hel hx rfl rfl zay (ju Tryz.underlying5);refine⟨b0,b1,?_⟩;have h0:cs=cs.drop 0:=rfl;have h9:cs.drop 2=[]:=JA (by omega);rw [h0,cut cs 0 1 1 rfl,cut cs 1 1 2 rfl,e0,e1,h9];rfl
theorem zlP:Opens enc PG w base spare held 41 fun cs=>∃ x:InsD,True/\cs=zC.enc x:=fun fuel cs x h=>by
 obtain⟨xs,m,rfl,rfl,hl,hx,hel⟩:=KI Tryz.underlying41 h;rw [cC 41 10 (by kernel_rfl)] at hl;obtain⟨b0,e0⟩:=Opens.field (o:=0) (i:=0) hel hx rfl rfl zay (ju Tryz.underlying5);obtain⟨b1,e1⟩:=Opens.field (o:=1) (i:=1) hel hx rfl rfl zay (ju Tryz.underlying5);obtain⟨b2,e2⟩:=Opens.field (o:=2) (i:=2) hel hx rfl rfl zay (ju Tryz.underlying5);obtain⟨r3,n3,e3⟩:=Opens.field (o:=3) (i:=3) hel hx rfl rfl (cC 39 2 (by kernel_rfl)) zgG;obtain⟨r4,n4,e4⟩:=Opens.field (o:=5) (i:=4) hel hx rfl rfl (cC 39 2 (by kernel_rfl)) zgG;obtain⟨b5,e5⟩:=Opens.field (o:=7) (i:=5) hel hx rfl rfl zay (ju Tryz.underlying5);obtain⟨b6,e6⟩:=Opens.field (o:=8) (i:=6) hel hx rfl rfl zay (ju Tryz.underlying5);obtain⟨b7,e7⟩:=Opens.field (o:=9) (i:=7) hel hx rfl rfl zay (ju Tryz.underlying5);refine⟨⟨b0,b1,b2,r3,n3,r4,n4,b5,b6,b7⟩,trivial,?_⟩;have h0:cs=cs.drop 0:=rfl;have h9:cs.drop 10=[]:=JA (by omega);rw [h0,cut cs 0 1 1 rfl,cut cs 1 1 2 rfl,cut cs 2 1 3 rfl,cut cs 3 2 5 rfl,cut cs 5 2 7 rfl,cut cs 7 1 8 rfl,cut cs 8 1 9 rfl,cut cs 9 1 10 rfl,e0,e1,e2,e3,e4,e5,e6,e7,h9];rfl
theorem zjR:OpensW enc PG w base spare held F 42 fun cs=>∃ x:zki,(x.1.length<=140737488351232/\RowB zC w.heap.size w x.2.1 x.1)/\cs=zmB.enc x:=fun n hn cs x h hw=>by
 obtain⟨p,cap,l,h1,h2,_,_,h3⟩:=zbE (F:=n) (⟨0,0,0,false,0,false,0,0,0,0⟩:InsD) (f:=zC.enc) (Q:=fun _=>True) (sz:=10) (by decide) Tryz.underlying42 (by kernel_rfl) (by kernel_rfl) (zau zlP) n (Qy n) cs x h hw;exact⟨(l,p,cap),⟨h2.1,zd2 h3⟩,h1⟩
theorem zfq:∀ F,OpensW enc PG w base spare held F 27 fun cs=>∃ x:Cnd×OA×Nat,KidsV w.heap.size w x.2.1 x.1.kids/\cs=jE x.1 x.2.1 x.2.2
 | 0=>fun n hn=>Gl hn (QY _)
 | F+1=>fun n hn cs x h hw=>by
  have ih:=zfq F;have hF:n<=F+1:=by omega
  have hl:cs.length=5:=by
   obtain⟨xs,m,_,_,hl,_,_⟩:=KI Tryz.underlying27 h;rw [cC 27 5 (by kernel_rfl)] at hl;exact hl
  obtain⟨b0,e0⟩:=OpensW.field (F:=F+1) (o:=0) (i:=0) Tryz.underlying27 h hw hF rfl rfl rfl zay (zau (ju Tryz.underlying5));obtain⟨b1,e1⟩:=OpensW.field (F:=F+1) (o:=1) (i:=1) Tryz.underlying27 h hw hF rfl rfl rfl zay (zau (ju Tryz.underlying5));obtain⟨b2,e2⟩:=OpensW.field (F:=F+1) (o:=2) (i:=2) Tryz.underlying27 h hw hF rfl rfl rfl zay (zau (ju Tryz.underlying5));obtain⟨b3,e3⟩:=OpensW.field (F:=F+1) (o:=3) (i:=3) Tryz.underlying27 h hw hF rfl rfl rfl zay (zau (ju Tryz.underlying5));obtain⟨p,cap,l,e4,hll,_,hQ,b,o,hp,hc⟩:=OpensW.field (F:=F+1) (o:=4) (i:=4) Tryz.underlying27 h hw hF rfl rfl rfl (cC 25 1 (by kernel_rfl))
   (zbE (F:=F) ((.mk 0 0 0 0 [],none,0):Cnd×OA×Nat) (f:=fun x=>jE x.1 x.2.1 x.2.2) (Q:=fun x=>KidsV w.heap.size w x.2.1 x.1.kids) (sz:=5) (by decide) Tryz.underlying25 (by kernel_rfl) (by kernel_rfl) ih)
  refine⟨(.mk b0 b1 b2 b3 (l.map (·.1)),p,cap),?_,?_⟩
  ·refine .mk p (l.map (·.1)) (by rw [QK];have:=hll.2;rw [show Tryz.prog.bytesOf 27=32 by kernel_rfl] at this;exact this) b o (by rw [QK];exact hp) (fun i=>(l.getD i (.mk 0 0 0 0 [],none,0)).2.1) (fun i=>(l.getD i (.mk 0 0 0 0 [],none,0)).2.2) (fun i hi=>?_) (fun i hi=>?_)
   ·have hi':i<l.length:=(by rw [QK] at hi;exact hi);have e:l.getD i (.mk 0 0 0 0 [],none,0)=l[i]:=(by rw [gDe,gE hi'];rfl);rw [e,Qo];exact hc i hi'
   ·have hi':i<l.length:=(by rw [QK] at hi;exact hi);have e:l.getD i (.mk 0 0 0 0 [],none,0)=l[i]:=(by rw [gDe,gE hi'];rfl);rw [e,Qo];exact hQ _ (gM hi')
  ·have h0:cs=cs.drop 0:=rfl;have h9:cs.drop 5=[]:=JA (by omega);rw [h0,cut cs 0 1 1 rfl,cut cs 1 1 2 rfl,cut cs 2 1 3 rfl,cut cs 3 1 4 rfl,cut cs 4 1 5 rfl,e0,e1,e2,e3,e4,h9];simp [jE,Cnd.kind,Cnd.thread,Cnd.n,Cnd.val,Cnd.kids]
end
section
variable {H:Type} {enc:TypeId×Value->H} {w:Wd} {base:Nat} {spare:Nat->Bool} {held:Bool} {F:Nat}
theorem ziA:OpensW enc PG w base spare held F 29 fun cs=>∃ p:Prg,PrgX w.heap.size w cs p:=fun n hn cs x h hw=>by
 have hF:n<=n+1:=Nat.le_succ n;have hl:cs.length=10:=by
  obtain⟨xs,m,_,_,hl,_,_⟩:=KI Tryz.underlying29 h;rw [cC 29 10 (by kernel_rfl)] at hl;exact hl
 obtain⟨nm,k0,e0⟩:=OpensW.field (F:=n+1) (o:=0) (i:=0) Tryz.underlying29 h hw hF rfl rfl rfl (cC 9 1 (by kernel_rfl)) (zfp Tryz.underlying9);obtain⟨p1,c1,l1,e1,k1,kc1,q1,r1⟩:=OpensW.field (F:=n+1) (o:=1) (i:=1) Tryz.underlying29 h hw hF rfl rfl rfl (cC 22 1 (by kernel_rfl))
  (zbE (F:=n) ([]:List UInt8) (f:=ziF.enc) (Q:=fun s=>s.length<=140737488351232) (sz:=1) (by decide) Tryz.underlying22 (by kernel_rfl) (by kernel_rfl) (zfp Tryz.underlying9))
 obtain⟨p2,c2,l2,e2,k2,kc2,q2,r2⟩:=OpensW.field (F:=n+1) (o:=2) (i:=2) Tryz.underlying29 h hw hF rfl rfl rfl (cC 23 1 (by kernel_rfl))
  (zbE (F:=n) (0:UInt8) (f:=zI.enc) (Q:=fun _=>True) (sz:=1) (by decide) Tryz.underlying23 zay (by kernel_rfl) (zau (fun fuel cs x h=>by
   obtain⟨b,hb⟩:=ju Tryz.underlying5 fuel cs x h;exact⟨b,trivial,hb⟩)))
 obtain⟨p3,c3,l3,e3,k3,kc3,q3,r3⟩:=OpensW.field (F:=n+1) (o:=3) (i:=3) Tryz.underlying29 h hw hF rfl rfl rfl (cC 24 1 (by kernel_rfl))
  (zbE (F:=n) (([],none,0):zki) (f:=zmB.enc) (Q:=fun x=>x.1.length<=140737488351232/\RowB zC w.heap.size w x.2.1 x.1) (sz:=1) (by decide) Tryz.underlying24 (by kernel_rfl) (by kernel_rfl) zjR)
 obtain⟨b4,e4⟩:=OpensW.field (F:=n+1) (o:=4) (i:=4) Tryz.underlying29 h hw hF rfl rfl rfl zay (zau (ju Tryz.underlying5));obtain⟨⟨c,p4,c4⟩,hk,e5⟩:=OpensW.field (F:=n+1) (o:=5) (i:=5) Tryz.underlying29 h hw hF rfl rfl rfl (cC 27 5 (by kernel_rfl)) (zfq (n+1));refine⟨⟨nm,l1,l2,l3.map (·.1),b4,c⟩,⟨⟨k0,k1.1,q1,k2.1,by rw [QK];exact k3.1,fun l hl=>?_⟩,p1,c1,p2,c2,p3,c3,p4,c4,?_,zd2 r1,zd2 r2,⟨l3,rfl,zd2 r3,fun x hx=>(q3 x hx).2⟩,hk,kc1⟩,⟨p3,c3,?_,l3,rfl,zd2 r3,fun x hx=>⟨(q3 x hx).2,fun hne a ha=>?_⟩⟩,⟨p2,c2,?_,zd2 r2⟩⟩
 ·obtain⟨x,hx,rfl⟩:=UG.1 hl;exact (q3 x hx).1
 ·have h0:cs=cs.drop 0:=rfl;have h9:cs.drop 10=[]:=JA (by omega);rw [h0,cut cs 0 1 1 rfl,cut cs 1 1 2 rfl,cut cs 2 1 3 rfl,cut cs 3 1 4 rfl,cut cs 4 1 5 rfl,cut cs 5 5 10 rfl,e0,e1,e2,e3,e4,e5,h9];simp [qh,jE]
 ·have:=Gf (fun l=>l[0]?) e3;simpa using this
 ·have hl:=List.length_pos_iff.2 hne;obtain⟨b,o,e,hb,_⟩:=zeP (q3 x hx).2 hl;rw [ha] at e;obtain rfl:=Uc e;exact hb
 ·have:=Gf (fun l=>l[0]?) e2;simpa using this
theorem zlQ {a:Array Value} {d:DataW H} {p:List MemPlace} (h:DataW.Trod enc PG w base spare held 29 (.agg a) d p) (hw:Wgt PG 29 d):∃ p:Prg,PrgX w.heap.size w a.toList p:=by
 obtain⟨fuel,h⟩:=h;exact ziA (F:=fuel+1) fuel (Qy _) _ _ h hw
end
section
variable {P:Program} {w:Wd} {base:Nat} {t:TypeId}
theorem zm4 {r:Reach} {v:Value} (ht:P.underlying t=some (.int .i64)) (h:Value.okWide P w r base t v):∃ n:Int,v=i64 n:=by
 unfold Value.okWide at h;rw [ht] at h
 cases v with
 | int k n =>
  have h1:k = .i64:=by
   simp only [Cell.okWide,Cell.ok,ht] at h;exact h.1
  subst h1;exact⟨n,rfl⟩
 | _=>simp_all [Cell.okWide,Cell.ok]
end
theorem flatMap_map {α:Type} (f:α->Value):∀ l:List (List α),l.flatMap (fun x=>x.map f)=l.flatten.map f
 | []=>rfl
 | a::l=>by rw [KQ,flatMap_map f l,List.flatten_cons,QN]
theorem zlR {P:Program} {w:Wd} {r:Reach} {base:Nat} {t:TypeId} {v:Value} (ht:P.underlying t=some (.int .u8)) (h:Value.okWide P w r base t v):∃ b:UInt8,v=u8 b:=by
 unfold Value.okWide at h;rw [ht] at h
 cases v with
 | int k n =>
  have h1:k = .u8/\IntKind.has .u8 n:=by
   simp only [Cell.okWide,Cell.ok,ht] at h;obtain⟨rfl,h⟩:=h;exact⟨rfl,h⟩
  obtain⟨rfl,h2⟩:=h1;have h3:0<=n/\n<=255:=⟨by have:=h2.1;simpa [IntKind.min,IntKind.signed,IntKind.bits] using this,by have:=h2.2;simpa [IntKind.max,IntKind.signed,IntKind.bits] using this⟩;have e:((UInt8.ofNat n.toNat).toNat:Int)=n:=by
   rw [KF];omega
  exact⟨UInt8.ofNat n.toNat,by rw [u8,e]⟩
 | _=>simp_all [Cell.okWide,Cell.ok]
end Go.Proofs.YtpalcnbhkigagaaGreatDoor
namespace Go.Proofs.YtpalcnbhkigagaaGreatDoor
open Go.Vc Go.RowKit Go.Sei
def chR (Rs:List (List (List Nat))) (ds:List Nat) (j:Nat):List Nat:=(Rs.getD j []).getD (ds.getD j 0) []
theorem zpB (R:List (List Nat)) (Rs:List (List (List Nat))) (ds:List Nat):chR (R::Rs) ds 0=R.getD (ds.headD 0) []:=by
 cases ds <;> rfl
theorem zeC (R:List (List Nat)) (Rs:List (List (List Nat))) (ds:List Nat) (j:Nat):chR (R::Rs) ds (j+1)=chR Rs ds.tail j:=by
 cases ds with
 | nil=>show (Rs.getD j []).getD (([]:List Nat).getD (j+1) 0) []=(Rs.getD j []).getD (([]:List Nat).getD j 0) [];rfl
 | cons d ds=>rfl
theorem zi6 (ev:List Ev):∀ (Rs:List (List (List Nat))) (l:Nat) (ds:List Nat) (p:RelD×(Nat->UInt8)),(∀ j,j<Rs.length->(chR Rs ds j).Nodup)->(∀ i j j',j<Rs.length->j'<Rs.length->i∈chR Rs ds j->i∈chR Rs ds j'->j=j') ->
  (coG ev l Rs ds p).1.n=p.1.n/\∀ i j,j7 (coG ev l Rs ds p).1 i j=true↔(∃ k,k<Rs.length/\i∈chR Rs ds k/\j∈twl (chR Rs ds k).reverse i)\/((∀ k,k<Rs.length->i ∉ chR Rs ds k)/\j7 p.1 i j=true)
 | [],l,ds,p,_,_=>⟨rfl,fun i j=>⟨fun h => .inr ⟨fun k hk=>Gl hk (QY _),h⟩,fun h=>by
   rcases h with ⟨k,hk,_⟩ | h
   ·exact Gl hk (QY _)
   ·exact h.2⟩⟩
 | R::Rs,l,ds,p,hn,hd=>by
  obtain⟨q,hq⟩:=nm ((jQ (R.getD (ds.headD 0) []) p.1,upd p.2 l (ev.getD ((R.getD (ds.headD 0) []).getLastD 0) ev0).v));have e:coG ev l (R::Rs) ds p=coG ev (l+1) Rs ds.tail q:=by rw [hq];rfl
  obtain⟨h1,h2⟩:=zi6 ev Rs (l+1) ds.tail q (fun j hj=>by rw [<- zeC R];exact hn (j+1) (by rw [Qq];omega)) (fun i j j' hj hj' a b=>by
   rw [<- zeC R] at a b;have:=hd i (j+1) (j'+1) (by rw [Qq];omega) (by rw [Qq];omega) a b;omega)
  have hn0:=hn 0 (by rw [Qq];omega);rw [e];refine⟨h1.trans (by rw [hq];rfl),fun i j=>?_⟩;have hb:j7 q.1 i j=if i∈chR (R::Rs) ds 0 then decide (j∈twl (chR (R::Rs) ds 0).reverse i) else j7 p.1 i j:=by
   rw [hq,<- zpB R Rs ds];unfold j7 jQ;show (zfC (chR (R::Rs) ds 0).reverse p.1.to 0 i).testBit j=_;rw [zfB _ _ _ ((List.reverse_perm _).nodup_iff.2 hn0),QB,Us];by_cases h:i∈chR (R::Rs) ds 0
   ·rw [Gk h,Gk (List.mem_reverse.2 h)]
   ·rw [Gj h,Gj fun h2=>h (List.mem_reverse.1 h2)]
  rw [h2,hb];constructor
  ·rintro (⟨k,a1,a2,a3⟩ | ⟨a1,a2⟩)
   ·rw [<- zeC R] at a2 a3;exact .inl ⟨k+1,by rw [Qq];omega,a2,a3⟩
   ·by_cases h:i∈chR (R::Rs) ds 0
    ·rw [Gk h] at a2;exact .inl ⟨0,by rw [Qq];omega,h,dT a2⟩
    ·rw [Gj h] at a2;refine .inr ⟨fun k hk=>?_,a2⟩
     cases k with
     | zero=>exact h
     | succ k=>rw [zeC];exact a1 k (by rw [Qq] at hk;omega)
  ·rintro (⟨k,a1,a2,a3⟩ | ⟨a1,a2⟩)
   ·cases k with
    | zero =>
     refine .inr ⟨fun k hk h=>?_,by rw [Gk a2];exact Up a3⟩;rw [<- zeC R] at h;have:=hd i 0 (k+1) (by rw [Qq];omega) (by rw [Qq];omega) a2 h;omega
    | succ k =>
     rw [zeC] at a2 a3;exact .inl ⟨k,by rw [Qq] at a1;omega,a2,a3⟩
   ·refine .inr ⟨fun k hk h=>?_,?_⟩
    ·rw [<- zeC R] at h;exact a1 (k+1) (by rw [Qq];omega) h
    ·rw [Gj (a1 0 (by rw [Qq];omega))];exact a2
theorem zk6 (x:ExD):∀ (Rs:List (List (List Nat))) (l:Nat) (ds:List Nat) (p:RelD×(Nat->UInt8)),(∀ j,j<Rs.length->chR Rs ds j=zM x (l+j))->coG x.ev l Rs ds p=zmT x Rs.length l p
 | [],l,ds,p,_=>rfl
 | R::Rs,l,ds,p,h=>by
  have h0:=h 0 (by rw [Qq];omega);rw [zpB,UI] at h0;show coG x.ev (l+1) Rs ds.tail (jQ (R.getD (ds.headD 0) []) p.1,upd p.2 l (zcW x.ev (R.getD (ds.headD 0) [])))=zmT x Rs.length (l+1) (jQ (zM x l) p.1,upd p.2 l (zcW x.ev (zM x l)));rw [h0];refine zk6 x Rs (l+1) ds.tail _ fun j hj=>?_;rw [<- zeC R,h (j+1) (by rw [Qq];omega)];congr 1;omega
theorem zh5:∀ {s:List Nat},s.Nodup->s.Pairwise fun a b=>a∈twl s b
 | [],_ => .nil
 | y::s,h=>by
  have h2:=QS.1 h;refine List.pairwise_cons.2 ⟨fun b hb=>?_,?_⟩
  ·rw [zce,Gj (fun e=>h2.1 (by rw [e];exact hb))];exact Kx
  ·refine List.Pairwise.imp_of_mem ?_ (zh5 h2.2);intro a b ha hb hab;rw [zce,Gj (fun e=>h2.1 (by rw [e];exact hb))];exact JV _ hab
theorem zkK {key:Nat->Nat}:∀ {s:List Nat},s.Pairwise (fun a b=>key a<key b)->∀ a b,a∈s->b∈s->a≠b->key a≠key b
 | [],_,a,b,ha,_,_=>by cases ha
 | y::s,h,a,b,ha,hb,hne=>by
  have h2:=List.pairwise_cons.1 h;rcases Uz.1 ha with e | e
  ·rcases Uz.1 hb with e2 | e2
   ·exact Gl (e.trans e2.symm) hne
   ·have:=h2.1 b e2;rw [e];omega
  ·rcases Uz.1 hb with e2 | e2
   ·have:=h2.1 a e;rw [e2];omega
   ·exact zkK h2.2 a b e e2 hne
theorem zlh {key:Nat->Nat}:∀ {a b:List Nat},a.Pairwise (fun x y=>key x<key y)->b.Pairwise (fun x y=>key x<key y)->(∀ x,x∈a↔x∈b)->a=b
 | [],[],_,_,_=>rfl
 | [],y::b,_,_,h=>Gl ((h y).2 (Kx ..)) (by simp)
 | x::a,[],_,_,h=>Gl ((h x).1 (Kx ..)) (by simp)
 | x::a,y::b,ha,hb,h=>by
  rw [List.pairwise_cons] at ha hb;have e:x=y:=by
   rcases Uz.1 ((h x).1 (Kx ..)) with e | h1
   ·exact e
   ·rcases Uz.1 ((h y).2 (Kx ..)) with e | h2
    ·exact e.symm
    ·have:=hb.1 x h1;have:=ha.1 y h2;omega
  subst e;rw [zlh ha.2 hb.2 fun z=>?_];have hz:=h z;rw [Uz,Uz] at hz;constructor
  ·intro hza;rcases hz.1 (.inr hza) with e | h2
   ·subst e;have:=ha.1 z hza;omega
   ·exact h2
  ·intro hzb;rcases hz.2 (.inr hzb) with e | h2
   ·subst e;have:=hb.1 z hzb;omega
   ·exact h2
theorem zjK {x:ExD} {l:Nat} {rk:List Nat} (h48:x.ev.length<=48) (hp:rk.Perm (qo x l)) (hb:∀ i,i∈rk->∀ j,j7 x.co i j=decide (j∈twl rk.reverse i)):zM x l=rk:=by
 have hwn:(qo x l).Nodup:=List.nodup_range.filter _;have hn:rk.Nodup:=hp.nodup_iff.2 hwn;have hrn:rk.reverse.Nodup:=(List.reverse_perm _).nodup_iff.2 hn;have hlt:∀ i,i∈rk->i<64:=fun i hi=>by have:=zjq (hp.subset hi);omega
 have key:rk.reverse.Pairwise fun a b=>za9 x a<za9 x b:=by
  refine List.Pairwise.imp_of_mem ?_ (zh5 hrn);intro a b ha hb2 hab;have ha:=List.mem_reverse.1 ha;have hb2:=List.mem_reverse.1 hb2;show za8 (x.co.to a)<za8 (x.co.to b);rw [ziK,ziK];refine zj8 (j:=a) (fun i _ hi=>?_) (hlt a ha) ?_ ?_
  ·have h1:j7 x.co a i=true:=hi;rw [hb a ha] at h1;show j7 x.co b i=true;rw [hb b hb2];exact Up (zgm hab (dT h1))
  ·show j7 x.co a a=false;rw [hb a ha];exact Ue fun h=>(zhc h).2 rfl
  ·show j7 x.co b a=true;rw [hb b hb2];exact Up hab
 have mem:∀ a,a∈sG x l↔a∈rk.reverse:=fun a=>zlu.trans (hp.mem_iff.symm.trans List.mem_reverse.symm);have e:sG x l=rk.reverse:=by
  exact zlh (key:=za9 x) (zes (zhe _ _) (zmM l) fun a b ha hb2 hne=>zkK key a b ((mem a).1 ha) ((mem b).1 hb2) hne) key mem
 rw [zmU,e,JZ]
section
variable {init:List UInt8} {Ps:List PathD} {m:MixD} {ds:List Nat}
theorem znQ (h:ChoiceW init Ps m):(qQ m ds).ev.length<=48:=by
 rw [zlb,h.len];exact h.n
theorem ChoiceW.ch (h:ChoiceW init Ps m) (hd:ds∈jx (jl m)):∀ l,l<init.length->(chR (m.wr.map zQ) (ds.drop m.rs.length) l).Perm (qo m.base l)/\(chR (m.wr.map zQ) (ds.drop m.rs.length) l).headD 48=l:=by
 intro l hl;obtain⟨h1,h2⟩:=zhK hd;obtain⟨w1,w2⟩:=h.wr;have hlw:l<m.wr.length:=by omega
 have hw:m.wr[l]=qo m.base l:=by
  have:=w2 l hl;rw [gDe,gE hlw] at this;exact this
 have hs:(jl m)[m.rs.length+l]?=some (zQ (qo m.base l)).length:=by
  unfold jl;rw [Jl (by rw [QK];omega),QK,Jw,KS,gE hlw,hw];rfl
 have hlen:m.rs.length+l<ds.length:=by rw [h1];exact (Jq.1 hs).1
 have hdl:=h2 _ _ _ hs (gE hlen);have e1:(m.wr.map zQ).getD l []=zQ (qo m.base l):=by
  rw [gDe,KS,gE hlw,hw];rfl
 have e2:(ds.drop m.rs.length).getD l 0=ds[m.rs.length+l]:=by
  rw [gDe,Ku,gE hlen];rfl
 have e3:chR (m.wr.map zQ) (ds.drop m.rs.length) l=(zQ (qo m.base l))[ds[m.rs.length+l]]:=by
  unfold chR;rw [e1,e2,gDe,gE hdl];rfl
 have hm:chR (m.wr.map zQ) (ds.drop m.rs.length) l∈zQ (qo m.base l):=by rw [e3];exact gM hdl
 obtain⟨g1,g2⟩:=h.head hl;have h48:(qo m.base l).length<=48:=by
  have:=zg8 m.base l;have:=h.n;have:=h.len;omega
 obtain⟨r1,r2⟩:=zgz g1 h48 hm;exact⟨r1,r2.trans g2⟩
theorem ChoiceW.chx (h:ChoiceW init Ps m) (hd:ds∈jx (jl m)):(∀ j,j<(m.wr.map zQ).length->(chR (m.wr.map zQ) (ds.drop m.rs.length) j).Nodup)/\∀ i j j',j<(m.wr.map zQ).length->j'<(m.wr.map zQ).length->i∈chR (m.wr.map zQ) (ds.drop m.rs.length) j->i∈chR (m.wr.map zQ) (ds.drop m.rs.length) j'->j=j':=by
 rw [QK,h.wr.1];refine⟨fun j hj=>(h.ch hd j hj).1.nodup_iff.2 (List.nodup_range.filter _),fun i j j' hj hj' a b=>?_⟩;have a:=(h.ch hd j hj).1.subset a;have b:=(h.ch hd j' hj').1.subset b;exact (zkS.1 a).2.2.symm.trans (zkS.1 b).2.2
theorem ChoiceW.rank (h:ChoiceW init Ps m) (hd:ds∈jx (jl m)) {l:Nat} (hl:l<init.length):zM (qQ m ds) l=chR (m.wr.map zQ) (ds.drop m.rs.length) l:=by
 obtain⟨c1,c2⟩:=h.chx hd;obtain⟨_,hb⟩:=zi6 m.base.ev (m.wr.map zQ) 0 (ds.drop m.rs.length) (m.base.co,m.base.mem) c1 c2;refine zjK (znQ h) (h.ch hd l hl).1 fun i hi j=>?_;have e:j7 (qQ m ds).co i j=j7 (coG m.base.ev 0 (m.wr.map zQ) (ds.drop m.rs.length) (m.base.co,m.base.mem)).1 i j:=rfl;rw [e,Bool.eq_iff_iff,hb,dE];have hlw:l<(m.wr.map zQ).length:=by rw [QK,h.wr.1];exact hl
 constructor
 ·rintro (⟨k,a1,a2,a3⟩ | ⟨a1,a2⟩)
  ·have:=c2 i k l a1 hlw a2 hi;rw [<- this];exact a3
  ·exact Gl hi (a1 l hlw)
 ·exact fun hj => .inl ⟨l,hlw,hi,hj⟩
theorem ChoiceW.res (h:ChoiceW init Ps m) (hd:ds∈jx (jl m)):((qQ m ds).co,(qQ m ds).mem)=zmT (qQ m ds) init.length 0 (⟨(qQ m ds).ev.length,fun _=>0⟩,fun _=>0):=by
 have e:=zk6 (qQ m ds) (m.wr.map zQ) 0 (ds.drop m.rs.length) (m.base.co,m.base.mem) fun j hj=>by
  rw [QK,h.wr.1] at hj;rw [UN,h.rank hd hj]
 obtain⟨_,b2,b3,_⟩:=zg1 (init:=init) (Ps:=Ps);have e2:(m.base.co,m.base.mem)=((⟨(qQ m ds).ev.length,fun _=>0⟩,fun _=>0):RelD×(Nat->UInt8)):=by
  rw [zlb,h.len,h.base,b2,b3];rfl
 rw [QK,h.wr.1] at e;show coG (qQ m ds).ev 0 (m.wr.map zQ) (ds.drop m.rs.length) (m.base.co,m.base.mem)=_;rw [e,e2]
theorem zjI (a:RelD):jI a a=true:=by
 unfold jI;rw [Up rfl,Uv,Qh];exact fun i _=>Up rfl
theorem ChoiceW.co (h:ChoiceW init Ps m) (hd:ds∈jx (jl m)):jY (qQ m ds) init.length=true:=by
 unfold jY;have e:=(zi4 (x:=qQ m ds) init.length 0 (⟨(qQ m ds).ev.length,fun _=>0⟩,fun _=>0) _).2 ⟨fun k _ hk=>by
  rw [h.rank hd (by omega)];exact (h.ch hd k (by omega)).2,h.res hd⟩
 rw [e];dsimp only;rw [zjI,Uv,Qh];exact fun l _=>Up rfl
end
theorem getD_some {L:List Nat} {k:Nat} (h:k<L.length):L[k]?=some (L.getD k 0):=by
 rw [gDe,gE h];rfl
section
variable {init:List UInt8} {Ps:List PathD} {m:MixD} {ds:List Nat}
structure Rels6 (n:Nat) (x:ExD):Prop where
 po:RelOk n x.po
 rf:RelOk n x.rf
 co:RelOk n x.co
 dt:RelOk n x.dt
 ct:RelOk n x.ct
 rm:RelOk n x.rm
end
structure GoodX (k:Nat) (x:ExD):Prop where
 n:x.ev.length<=48
 k1:1<=k
 k6:k<=6
 kn:k<=x.ev.length
 ini:qM x.ev=k
 po:x.po=poR x.ev
 rels:Rels6 x.ev.length x
 co:jY x k=true
 ev0:(evA x 0).k=2/\(evA x 0).l=0
 w8:∀ l,(qo x l).length<=8
theorem zgP:∀ (a b:List Ev),(∀ e∈a,e.th = -1)->(∀ e∈b,e.th ≠ -1)->qM (a++b)=a.length
 | [],b,_,hb=>by
  unfold qM
  cases b with
  | nil=>rfl
  | cons e b=>rw [QR,Kl,Gj (by simpa using hb e Kx)]
 | e::a,b,ha,hb=>by
  rw [Qj,zjW,Gk (ha e Kx),zgP a b (fun d hd=>ha d (JV _ hd)) hb,Qq]
section
variable {init:List UInt8} {Ps:List PathD} {m:MixD} {ds:List Nat}
theorem ChoiceW.inits (h:ChoiceW init Ps m):qM m.base.ev=init.length:=by
 rw [h.base,zeY,zgP,qk]
 ·intro e he;obtain⟨i,hi,rfl⟩:=Kh he;rw [qk] at hi;have:=zaW init 0 hi;rw [gE (by rw [qk];exact hi)] at this;rw [Uc this]
 ·intro e he;obtain⟨P,hP,a,ha,t,_,_,rfl⟩:=zfQ Ps 0 e he;show ((t:Nat):Int) ≠ -1;omega
end
structure RightP (x:ExD):Prop where
 ev:jw x.ev (qM x.ev)=true
 rel:∀ r∈[x.po,x.rf,x.co,x.dt,x.ct,x.rm],r.n=x.ev.length/\okR r=true
 po:jI x.po (poR x.ev)=true
 rf:zaR x=true
 co:jY x (qM x.ev)=true
section
variable {k:Nat} {x:ExD} {i:Nat}
structure SpW (y:ExD):Prop where
 w20:∀ l,(qo y l).length<=20
 po:zP y.po.to
 rf:zP y.rf.to
 co:zP y.co.to
 dt:zP y.dt.to
 ct:zP y.ct.to
 rm:zP y.rm.to
end
end Go.Proofs.YtpalcnbhkigagaaGreatDoor
namespace Go.Proofs.YtpalcnbhkigagaaGreatDoor
open Go.Vc Go.RowKit Go.Sei
open Go.ChangeShapes Go.WideShapes Go.ChangeAt
structure GlobP (W:Wd):Prop where
 t32:Tz32M W
 t64:Tz64M W
 needs:GlobC W
abbrev zar : List (String × DataW Unit) := [("math/bits.deBruijn32tab", Rows.laid_math_bits_deBruijn32tab), ("math/bits.deBruijn64tab", Rows.laid_math_bits_deBruijn64tab), ("seisin/check.needs", Rows.laid_seisin_check_needs)]
theorem zbt {W:Wd} (h:laidMetH PG zar W) (hsh:W.ShapedOpen PG):GlobP W:=by
 have h0:laidMet PG zar W:=h;have h1:=h0.tail;have h2:=h1.tail;have t32:Tz32M W:=by
  obtain⟨ps,⟨g',t',cs,fuel,p,q,hg',ht',hv,hd,_,_⟩,_⟩:=h0
  obtain rfl := Uc ((show Tryz.prog.globalNamed "math/bits.deBruijn32tab" = some 0 by kernel_rfl).symm.trans hg')
  obtain rfl:=Uc ((show (Tryz.prog.globals[0]?).map (·.type)=some 217 by kernel_rfl).symm.trans ht');obtain⟨bs,h1,h2,h3⟩:=zfr Tryz.underlying217 Tryz.underlying5 (by kernel_rfl) (by kernel_rfl) hd;have hbs:bs=zgl:=by
   have e:(Rows.laid_math_bits_deBruijn32tab:DataW Unit) = .agg (zgl.map fun b => .lit (.int .u8 b.toNat)):=rfl;exact zfz (DataW.agg.inj (h3.symm.trans e))
  subst hbs;refine jV fun i v hvv=>?_;have hc:=World.var?_cell hg' hv i;rw [<- hvv,<- h2];simpa using hc
 have t64:Tz64M W:=by
  obtain⟨ps,⟨g',t',cs,fuel,p,q,hg',ht',hv,hd,_,_⟩,_⟩:=h1
  obtain rfl := Uc ((show Tryz.prog.globalNamed "math/bits.deBruijn64tab" = some 1 by kernel_rfl).symm.trans hg')
  obtain rfl:=Uc ((show (Tryz.prog.globals[1]?).map (·.type)=some 227 by kernel_rfl).symm.trans ht');obtain⟨bs,h1,h2,h3⟩:=zfr Tryz.underlying227 Tryz.underlying5 (by kernel_rfl) (by kernel_rfl) hd;have hbs:bs=zgk:=by
   have e:(Rows.laid_math_bits_deBruijn64tab:DataW Unit) = .agg (zgk.map fun b => .lit (.int .u8 b.toNat)):=rfl;exact zfz (DataW.agg.inj (h3.symm.trans e))
  subst hbs;refine jV fun i v hvv=>?_;have hc:=World.var?_cell hg' hv i;rw [<- hvv,<- h2];simpa using hc
 have needs:GlobC W:=by
  obtain⟨ps,⟨g',t',cs,fuel,p,q,hg',ht',hv,hd,_,_⟩,_⟩:=h2
  obtain rfl := Uc ((show Tryz.prog.globalNamed "seisin/check.needs" = some 2 by kernel_rfl).symm.trans hg')
  obtain rfl:=Uc ((show (Tryz.prog.globals[2]?).map (·.type)=some 233 by kernel_rfl).symm.trans ht');obtain⟨bs,h1,h2,h3⟩:=zfr Tryz.underlying233 Tryz.underlying5 (by kernel_rfl) (by kernel_rfl) hd;have hbs:bs=zdA:=by
   match bs,h1 with
   | [b0,b1,b2,b3,b4,b5,b6,b7,b8],_ =>
    simp only [Rows.laid_seisin_check_needs,Uy,List.map_nil,DataW.agg.injEq,QI,DataW.lit.injEq,Lit.int.injEq,true_and,Ge] at h3;simp only [zdA,QI,Ge];obtain⟨a0,a1,a2,a3,a4,a5,a6,a7,a8⟩:=h3;refine⟨?_,?_,?_,?_,?_,?_,?_,?_,?_⟩ <;> (apply Ud.1;simp;omega)
  subst hbs;refine jV fun i v hvv=>?_;have hc:=World.var?_cell hg' hv i;rw [<- hvv,<- h2];simpa using hc
 exact⟨t32,t64,needs⟩
def zpu:DataW Unit->List Value
 | .lit (.int k n)=>[.int k n]
 | .lit (.string s)=>[.string ⟨s.toArray⟩]
 | _=>[]
def zpt:DataW Unit->List Value
 | .agg ps=>ps.flatMap zpu
 | x=>zpu x
def zng:DataW Unit->List Value
 | .agg ps=>ps.flatMap zpt
 | x=>zpt x
def zmJ (h:Array Obj) (g:Nat) (cs:List Value):Array Obj:=h.modify g fun
 | .cells _ t frozen => .cells cs.toArray t frozen
 | o=>o
def zre (h:Array Obj):Array Obj :=
 let h1:=zmJ h 0 (zng Rows.laid_math_bits_deBruijn32tab)
 let h2:=zmJ h1 1 (zng Rows.laid_math_bits_deBruijn64tab)
 zmJ h2 2 (zng Rows.laid_seisin_check_needs)
noncomputable def zfE (os:Os):Wd :=
 { World.holding PG os ⟨#[],#[],[]⟩ with heap:=zre (World.holding PG os ⟨#[],#[],[]⟩).heap }
theorem zfD (os:Os) (args:Array Value):laidMetH PG zar ((zfE os).forCall (fun _ _=>0) ⟨#[],args,[]⟩).memory:=by
 show laidMet PG zar _;exact laidMet_of_run' 8 (by kernel_rfl) (by kernel_rfl)
end Go.Proofs.YtpalcnbhkigagaaGreatDoor
