/- Contracts of functions, and plain facts, for the law that the last text of this claim proves. -/
import Derived.Test.YtnadlhpkpnfmbaaGreatDoorA4
import Derived.Test.YtnadlhpkpnfmbaaGreatDoorA1
import Derived.Test.YtnadlhpkpnfmbaaGreatDoorA2
import Derived.MapKept
import Derived.Laws.StructEq
import Derived.Shelf.Strings.Builder1
import Derived.Shelf.Strings.Builder2
import Derived.Shelf.Small.Strs
import Derived.Shelf.Strings.BuilderF
import Derived.Shelf.Strings.Search1
import Derived.Shelf.Strings.Search2
import Derived.Shelf.Strings.Search3
import Derived.Shelf.Strings.Count
import Derived.Shelf.LaysM
import Derived.Shelf.Strings.Shaped
import Derived.Shelf.Strings.Prefix
import Derived.Shelf.Strings.Split
import Derived.Shelf.Strings.Replace
import Derived.Shelf.Bits.Mul64
import Derived.Shelf.Strings.Repeat
import Derived.Shelf.Unicode.DecodeSlow
import Derived.Test.YtnadlhpkpnfmbaaGreatDoorProg
set_option linter.unusedSimpArgs false
set_option linter.unusedVariables false
namespace Go.Proofs.YtnadlhpkpnfmbaaGreatDoor
open Go.Vc Go.RowKit Go.Sei
abbrev exE3:=ExD×Option Addr×Nat
def exE:Enc exE3:=⟨fun x=>exC x.1 x.2.1 x.2.2,333,fun _=>zay ..,by decide,fun a u hu=>Je.1 (zeo ..) u hu⟩
abbrev ExH (X:World) (b:Nat) (x:ExD) (q:Option Addr) (c:Nat):Prop:=X.heap[b]?=some (.cells (exC x q c).toArray 37 (0,0))
def StX (B:Nat) (pre:List ExD) (vs:List Value) (W:World):Prop:=∃ x q c,pre.getLast?=some x/\vs=[.agg (exC x q c).toArray]/\OwnS evE 158 B W q c x.ev
def GvX (vs:List Value) (k:Nat):Prop:=∃ (x:ExD) (a:Addr) (c:Nat),vs=[.agg (exC x (some a) c).toArray]/\k=a.block
theorem zk5 {xs:List NatL} {rs:List (Nat×List Nat)} (h:xs.map (·.1)=rs.map (·.2)):xs.map (·.1.length)=rs.map fun r=>r.2.length:=by
 have:=congrArg (List.map List.length) h;rw [List.map_map,List.map_map] at this;exact this
theorem zjk {zs:List zgE} {ws:List (List Nat)} (h:zs.map (fun z=>z.1.map (·.1))=ws.map zcW):zs.map (·.1.length)=ws.map fun w=>(zcW w).length:=by
 have:=congrArg (List.map List.length) h;rw [List.map_map,List.map_map] at this;rw [<- show zs.map (List.length ∘ fun z:zgE=>z.1.map (·.1))=zs.map (·.1.length) from List.map_congr_left fun z _=>Jc _];exact this
section
variable {Rd:Nat->Prop} {W0:World} {bx b o:Nat} {m:MixD} {q:Option Addr} {c:Nat} {p1 p2 p3:Option Addr} {c1 c2 c3:Nat} {xs ys:List NatL}
theorem zrl (hM:MixM Rd W0 b o m q c p1 p2 p3 c1 c2 c3 xs ys) (fx:W0.heap[bx]?=some (.cells #[.pointer (some ⟨b,o,none⟩)] 244 (0,0))) (hbx:Rd bx) (hRd:∀ k,Rd k->k<W0.heap.size) (hT:Tz64M W0) (hRt:Rd 4) (hB:MixB m) (hev:m.base.ev.length<=48) :
  zrC Tryz.prog 141 [At0 bx] (zhg m) W0 Rd (StX W0.heap.size) GvX:=by
 intro yl F0 J W hsz hrd hrf hJ hy h0;refine cofM 141 [.func (.yield yl) #[] #[],At0 bx] (.c .p (.s .p (.c .p (.c .p (.c .p (.s .p .p)))))) Tryz.func141 ?_;have hMW:=hM.same hrd;have fxW:=(hrd bx hbx).trans fx;have hTW:Tz64M W:=zbZ hT (hrd _ hRt);have hRW:∀ k,Rd k->k<W.heap.size:=fun k hk=>by have:=hRd k hk;omega
 obtain⟨L,hL⟩:=nm (W.heap.size);have hxl:xs.length=m.rs.length:=by have:=congrArg List.length hM.e2;simpa using this
 have hyl:ys.length=m.wr.length:=by have:=congrArg List.length hM.e3;simpa using this
 have hrl48:=hB.rl;have hwl6:=hB.wl;have hx1:∀ y∈xs,y.1.length<=1000:=fun y hy=>by
  have:y.1∈m.rs.map (·.2):=by rw [<- hM.e2];exact JR.2 ⟨y,hy,rfl⟩
  obtain⟨r,hr,he⟩:=JR.1 this;rw [<- he];exact (hB.rs r hr).2.1
 refine⟨Unit,fun _=>⟨[(1,At0 bx),(2,At0 L)],[]⟩,fun _ X=>X.heap[L]?=some (.cells #[.func (.yield yl) #[] #[]] 40 (0,0))/\X.heap.size=L+1/\Bw W X,?_,?_⟩
 ·exact⟨(),⟨.cons rfl (.cons (by rw [hL];rfl) .nil),rfl⟩,by rw [hL];exact hnew W _,by rw [hL];exact wz _ _,(zba W _)⟩
 rintro _ X ⟨fL,sX,hbX⟩;refine⟨Option Addr×Nat,fun s=>⟨[(1,At0 bx),(2,At0 L),(3,.slice s.1 (xs.map (·.1.length)).length s.2)],[]⟩,fun s Z=>OwnS natE 3 W.heap.size Z s.1 s.2 (xs.map (·.1.length))/\Z.heap[L]?=some (.cells #[.func (.yield yl) #[] #[]] 40 (0,0))/\Bw W Z,?_,?_⟩
 ·refine⟨_,zac (zaa (zab hbX fxW)) (i:=0) rfl,_,zgb (hMW.same fun k hk=>hbX.block k (hRW k hk)).cells (i:=1) rfl,?_⟩;refine⟨Nat×Option Addr×Nat,fun s=>⟨[(1,At0 bx),(2,At0 L),(3,.slice s.2.1 ((xs.take s.1).map (·.1.length)).length s.2.2),(20,.slice p2 xs.length c2),(21,i64 xs.length),(22,i64 (s.1:Nat))],[]⟩,
   fun s Z=>s.1<=xs.length/\OwnS natE 3 W.heap.size Z s.2.1 s.2.2 ((xs.take s.1).map (·.1.length))/\Z.heap[L]?=some (.cells #[.func (.yield yl) #[] #[]] 40 (0,0))/\Bw W Z,fun s=>xs.length-s.1,(0,none,0),
   (cvE rfl rfl),⟨Jh _,OwnS.nil,fL,hbX⟩,?_⟩
  rintro⟨k,ps,cs⟩ Z ⟨hk,ho,fL,hbZ⟩;dsimp only at hk ho ⊢;refine biE (fun hc=>?_) fun hc=>?_
  ·have hc:(k:Int)<(xs.length:Int):=dT hc;have hkl:k<xs.length:=by omega
   have hZM:=hMW.same fun k hk=>hbZ.block k (hRW k hk);obtain⟨x,hx⟩:∃ x,xs[k]=x:=⟨_,rfl⟩;obtain⟨bp,op,hpe,hlp,hat⟩:=hZM.r2.at hkl;subst hpe;refine⟨k,rfl,hkl,slV x,by rw [<- hx];exact zac (hat k hkl) (i:=0) rfl,⟨by decide,by decide,rfl⟩,natE.enc x.1.length,rfl,?_⟩;have hb1:Bw Z (Z.alloc (.cells (natE.enc x.1.length).toArray 3)):=zba _ _;have hZs:=hbZ.size;have htl:((xs.take k).map (·.1.length)).length=k:=by rw [Jc,JD];omega
   have htk:(xs.take (k+1)).map (·.1.length)=(xs.take k).map (·.1.length)++[x.1.length]:=by
    rw [tsg hkl,Jw,hx];rfl
   unfold opsE zc2;show SatR _ _;refine appI (ho.below hb1) (za2 natE x.1.length) (by have:=hb1.size;omega) (by have:=hB.rl;omega) fun p' c' U oU gU hat1=>?_;rw [zcD] at gU;rw [<- htk] at oU ⊢;have fU:=zaQ (zab hb1 fL) (ho.below hb1) (by decide) gU;exact nxI (by omega) ⟨(k+1,p',c'),(cvE rfl rfl),⟨hkl,oU,fU,hbZ.trans ((hb1.mono hZs).trans (zbg (ho.below hb1) (by have:=hb1.size;omega) (Jb _) gU))⟩,zdc (by omega)⟩
  ·have hc:¬ (k:Int)<(xs.length:Int):=dF hc;obtain rfl:k=xs.length:=by omega
   rw [JF] at ho ⊢;exact⟨(ps,cs),(cvE rfl rfl),ho,fL,hbZ⟩
 clear fL sX hbX;rintro⟨ps,cs⟩ X ⟨ho,fL,hbX⟩;dsimp only at ho ⊢;refine⟨Nat,fun R=>⟨[(1,At0 bx),(2,At0 L),(3,.slice ps (xs.map (·.1.length)).length cs),(6,At0 R)],[]⟩,fun R Z=>CanS W.heap.size Z yl L R (xs.map (·.1.length)) ps cs [] none 0/\L<R/\Bw W Z,?_,?_⟩
 ·refine⟨X.heap.size,(cvE rfl rfl),⟨hold _ fL,hnew X _,ho.alloc _,OwnS.nil,fun z hz=>(by cases hz),fun z hz=>(by cases hz),fun z hz=>(by cases hz)⟩,hlt fL,hbX.alloc hbX.size _⟩
 clear ho fL hbX;rintro R X ⟨hS,hLR,hbX⟩;refine⟨(List zgE×Option Addr×Nat)×Option Addr×Nat,fun s=>⟨[(1,At0 bx),(2,At0 L),(3,.slice s.2.1 (zdz m).length s.2.2),(6,At0 R)],[]⟩,fun s Z=>CanS W.heap.size Z yl L R (zdz m) s.2.1 s.2.2 s.1.1 s.1.2.1 s.1.2.2/\s.1.1.map (fun z=>z.1.map (·.1))=m.wr.map zcW/\Bw W Z,?_,?_⟩
 ·refine⟨_,zac (zaa (zab hbX fxW)) (i:=0) rfl,_,zgb (hMW.same fun k hk=>hbX.block k (hRW k hk)).cells (i:=2) rfl,?_⟩;refine⟨Nat×(List zgE×Option Addr×Nat)×Option Addr×Nat,fun s=>⟨[(1,At0 bx),(2,At0 L),(3,.slice s.2.2.1 (xs.map (·.1.length)++s.2.1.1.map (·.1.length)).length s.2.2.2),(6,At0 R),(35,.slice p3 ys.length c3),(36,i64 ys.length),(37,i64 (s.1:Nat))],[]⟩,
   fun s Z=>s.1<=ys.length/\CanS W.heap.size Z yl L R (xs.map (·.1.length)++s.2.1.1.map (·.1.length)) s.2.2.1 s.2.2.2 s.2.1.1 s.2.1.2.1 s.2.1.2.2/\s.2.1.1.map (fun z=>z.1.map (·.1))=(ys.take s.1).map (fun y=>zcW y.1)/\Bw W Z,fun s=>ys.length-s.1,(0,([],none,0),ps,cs),
   ⟨.cons rfl (.cons rfl (.cons (by simp;rfl) (.cons rfl (.cons rfl (.cons rfl (.cons rfl .nil)))))),rfl⟩,⟨Jh _,by simpa using hS,rfl,hbX⟩,?_⟩
  clear hS hbX;rintro⟨k,⟨zs,pr,cr⟩,ps,cs⟩ Z ⟨hk,hS,hz,hbZ⟩;dsimp only at hk hS hz ⊢;have hzl:zs.length=k:=by
   have:=congrArg List.length hz;rw [Jc,Jc,JD] at this;omega
  refine biE (fun hc=>?_) fun hc=>?_
  ·have hc:(k:Int)<(ys.length:Int):=dT hc;have hkl:k<ys.length:=by omega
   have hZM:=hMW.same fun k hk=>hbZ.block k (hRW k hk);obtain⟨y,hyk⟩:∃ y,ys[k]=y:=⟨_,rfl⟩;have hym:y∈ys:=by rw [<- hyk];exact gM hkl
   have hyw:y.1∈m.wr:=by rw [<- hM.e3];exact JR.2 ⟨y,hym,rfl⟩
   obtain⟨bw1,bw2,bw3⟩:=hB.wr _ hyw;obtain⟨bp,op,hpe,hlp,hat⟩:=hZM.r3.at hkl;subst hpe;refine⟨k,rfl,hkl,slV y,by rw [<- hyk];exact zac (hat k hkl) (i:=0) rfl,cmo (zoA (hZM.n3 y hym) bw1 (zbZ hTW (hbZ.block _ (hRW _ hRt)))) ?_⟩;rintro e Y ⟨⟨rk,pk,ck,rfl,hrk,ork,onk⟩,hbY⟩;have hZs:=hbZ.size;have hSY:=hS.below hbY;have hrkl:rk.length<=10000:=by rw [<- hrk,Jc] at bw2;exact bw2
   obtain⟨nz,hnz⟩:∃ nz:zgE,nz=(rk,pk,ck):=⟨_,rfl⟩;have hen:[Value.slice pk rk.length ck]=rnkE.enc nz:=by rw [hnz];rfl
   refine⟨_,zac (zaa hSY.fR) (i:=0) rfl,⟨by decide,by decide,rfl⟩,rnkE.enc nz,by rw [<- hen];rfl,?_⟩;have hb1:Bw Y (Y.alloc (.cells (rnkE.enc nz).toArray 170)):=zba _ _;have hS1:=hSY.below hb1;have ork1:=ork.below hb1;have onk1:=fun x hx=>(onk x hx).below hb1;unfold opsE zc2;show SatR _ _;refine appR hS1.rk (za2 rnkE nz) (by have:=hb1.size;have:=hbY.size;omega) (by have:=hB.wl;omega) fun p' c' U oU gU hat1=>?_;have fLU:=zaQ hS1.fL hS1.rk (by decide) gU;have fRU:=zaQ hS1.fR hS1.rk (by decide) gU;refine zaq k245 fRU (o:=0) (v := .slice p' (zs++[nz]).length c') rfl rfl (by show 0<1;decide) rfl fun S fS gS sS=>?_;have hbZY:=hbZ.trans (hbY.mono hZs);have sY:=hbY.size;have sb1:=hb1.size;have hbU:Bw W U:=(hbZY.trans (hb1.mono (by omega))).trans (zbg hS1.rk (by omega) (Jb _) gU);have hRn:W.heap.size<=R:=by omega
   have hbS:Bw W S:=hbU.trans (zan gS hbU.size hRn);have hSS:CanS W.heap.size S yl L R (xs.map (·.1.length)++zs.map (·.1.length)) ps cs (zs++[nz]) p' c':=by
    have kU:∀ {α:Type} {E:Enc α} {T cc:Nat} {r:Option Addr} {ll:List α},T≠170->T≠245->OwnS E T W.heap.size (Y.alloc (.cells (rnkE.enc nz).toArray 170)) r cc ll->OwnS E T W.heap.size S r cc ll:=fun {α E T cc r ll} h1 h2 h=>zaT (zb3 h hS1.rk h1 gU) fRU h2 gS;refine⟨(gS.block L (hlt fLU) (by simp;omega)).trans fLU,fS,kU (by decide) (by decide) hS1.own,zaT oU fRU (by decide) gS,fun z hz=>?_,fun z hz=>?_,fun z hz=>?_⟩
    ·rcases JM.1 hz with hz | hz
     ·exact kU (by decide) (by decide) (hS1.n1 z hz)
     ·rw [Jl.1 hz,hnz];exact kU (by decide) (by decide) (ork1.lower hZs)
    ·rcases JM.1 hz with hz | hz
     ·exact fun x hx=>kU (by decide) (by decide) (hS1.n2 z hz x hx)
     ·rw [Jl.1 hz,hnz];exact fun x hx=>kU (by decide) (by decide) ((onk1 x hx).lower hZs)
    ·rcases JM.1 hz with hz | hz
     ·exact hS1.dis z hz
     ·rw [Jl.1 hz,hnz];intro x hx a b ha hb;have:=(zau (onk x hx) hb).1;have:=(zau hS.own ha).2.1;omega
   clear hS1 ork1 onk1 hSY hS oU gU hat1 fLU fRU fS gS;refine⟨⟨by decide,by decide,rfl⟩,natE.enc rk.length,rfl,?_⟩;have hb2:Bw S (S.alloc (.cells (natE.enc rk.length).toArray 3)):=zba _ _;have hS2:=hSS.below hb2;have sbS:=hbS.size;have sb2:=hb2.size;unfold opsE zc2;show SatR _ _;refine appI hS2.own (za2 natE rk.length) (by omega) (by rw [lap,Jc,Jc];have:=hB.rl;have:=hB.wl;omega) fun p2' c2' V oV gV hat2=>?_;rw [zcD] at gV;have hSV:=hS2.size oV gV hat2;have hzz:(xs.map (·.1.length)++zs.map (·.1.length))++[rk.length]=xs.map (·.1.length)++(zs++[nz]).map (·.1.length):=by
    rw [Jw,Jr,hnz];rfl
   rw [hzz] at hSV ⊢;refine nxI (by omega) ⟨(k+1,(zs++[nz],p',c'),p2',c2'),(cvE rfl rfl),⟨hkl,hSV,?_,hbS.trans ((hb2.mono sbS).trans (zbg hS2.own (by omega) (Jb _) gV))⟩,zdc (by omega)⟩;rw [tsg hkl,hyk,Jw,Jw,hz,hnz];show _++[rk.map (·.1)]=_++[zcW y.1];rw [hrk]
  ·have hc:¬ (k:Int)<(ys.length:Int):=dF hc;obtain rfl:k=ys.length:=by omega
   have hz2:zs.map (fun z=>z.1.map (·.1))=m.wr.map zcW:=by
    rw [JF] at hz;rw [hz,<- hM.e3,List.map_map];rfl
   have hsz2:xs.map (·.1.length)++zs.map (·.1.length)=zdz m:=by
    rw [zk5 hM.e2,zjk hz2];rfl
   rw [hsz2] at hS ⊢;exact⟨((zs,pr,cr),ps,cs),(cvE rfl rfl),hS,hz2,hbZ⟩
 clear hS hbX;rintro⟨⟨zs,pr,cr⟩,ps,cs⟩ V ⟨hS,hz,hbV⟩;dsimp only at hS hz ⊢;have hVs:=hbV.size;have hMV:=hMW.same fun k hk=>hbV.block k (hRW k hk);have fxV:=zab hbV fxW;have hsl1:(zdz m).length<=1000:=by
  unfold zdz;rw [lap,Jc,Jc];omega
 have hsl2:∀ n∈zdz m,n<=1000000:=fun n hn=>by
  unfold zdz at hn;rcases JM.1 hn with hn | hn
  ·obtain⟨r,hr,rfl⟩:=JR.1 hn;have:=(hB.rs r hr).2.1;omega
  ·obtain⟨w,hw,rfl⟩:=JR.1 hn;have:=(hB.wr w hw).2.1;omega
 refine cmo zpx ?_;rintro e V1 ⟨rfl,fo,sV1,hbV1⟩;have hI:=zsc fo (hS.own.row.below hbV1) (fun a ha=>by have:=(zau hS.own ha).2.1;omega) hsl1 hsl2;obtain⟨Kp,hKp⟩:∃ Kp:(Nat->Prop)->World->Prop,Kp=fun F Y=>V1.heap.size<=Y.heap.size/\∀ k,k<V.heap.size->(Rd k\/W.heap.size<=k)->Y.heap[k]?=V.heap[k]?/\¬ F k:=⟨_,rfl⟩;have hF0:∀ k,F0 k->k<W.heap.size:=fun k hk=>(hJ.lt _ _ _ _ h0 hk).1;have hLV:=hlt hS.fL;have hRV:=hlt hS.fR;have hb1:Bw W V1:=hbV.trans (hbV1.mono hVs);refine zfe (sgOk _) rfl (lb := #[At0 V.heap.size]) rfl rfl hI (Jb _) (fun k hk=>⟨?_,rfl⟩) (fun pre vs W ⟨l,q,_,h,_⟩=>by rw [h];rfl) (by decide)
  F0 (fun pre F Y=>J (pre.map (zdA m)) F Y/\Kp F Y) (fun _ _ _ _=>False) (fun k hk=>?_) ⟨?_,?_⟩ (fun ex=>⟨fun _ _ _ _ h=>h.elim,fun _ _ _ _ h=>h.elim⟩) ⟨hJ.step _ _ _ _ h0 (.below hb1),?_⟩ ?_ ?_ ?_
 ·rcases hk with (rfl | ⟨a,ha,rfl⟩) | h
  ·omega
  ·have:=(zau hS.own ha).2.1;omega
  ·exact h.elim
 ·rcases hk with rfl | ⟨a,ha,rfl⟩
  ·intro h;have:=hF0 _ h;omega
  ·intro h;have:=hF0 _ h;have:=(zau hS.own ha).1;omega
 ·rintro pre F A C ⟨hj,hk⟩ hs;rw [hKp] at hk ⊢;have hss:=hs.size;exact⟨hJ.step _ _ _ _ hj (hs.mono (by omega)),Jj hk.1 hss,fun k h1 h2=>⟨(hs.same k (by have:=hk.1;omega) (.inl ⟨by omega,fun h=>h⟩)).trans (hk.2 k h1 h2).1,(hk.2 k h1 h2).2⟩⟩
 ·rintro pre F A k ⟨hj,_⟩ hk;exact hJ.lt _ _ _ _ hj hk
 ·rw [hKp];refine⟨Jb _,fun k h1 h2=>⟨hbV1.block k h1,fun h=>?_⟩⟩;rcases h2 with h2 | h2
  ·exact hrf k h2 h
  ·have:=hF0 k h;omega
 ·rintro yl2 pre ds vs F Y hyl hpre hJ0 ⟨l,qd,hlast,rfl,hsl,hcel⟩ hfy ⟨lo,hlo⟩;have hdx:ds=l:=by simpa using hlast
  subst hdx;refine⟨rfl,F,KeepsG.refl _ _,hJ0,?_⟩;rintro O Y2 hY2 ⟨hj,hkp⟩;rw [hKp] at hkp;obtain⟨hY2s,hkp⟩:=hkp;have hkq:=hkp;have hslY:SlR natE Y2 qd ds:=by
   rw [hY2];refine zbf hsl fun a ha=>zai fun e=>?_;obtain⟨cur,hcur⟩:=hcel a ha;rw [e,hlo] at hcur
   cases hcur
  obtain⟨hdl,hdlt⟩:=zni (hpre.subset (List.mem_append_right _ (Jl.2 rfl)));have hdl2:ds.length=m.rs.length+m.wr.length:=by
   rw [hdl];unfold zdz;rw [lap,Jc,Jc]
  have hMY:MixM Rd Y2 b o m q c p1 p2 p3 c1 c2 c3 xs ys:=hMV.same fun k hk=>(hkp k (by have:=hRW k hk;omega) (.inl hk)).1;have fxY:=(hkp bx (by have:=hRW bx hbx;omega) (.inl hbx)).1.trans fxV;have fLY:=(hkp L hLV (.inr (by omega))).1.trans hS.fL;have fRY:=(hkp R hRV (.inr (by omega))).1.trans hS.fR;have kR:∀ {α:Type} {E:Enc α} {T cc:Nat} {r:Option Addr} {ll:List α},OwnS E T W.heap.size V r cc ll->OwnS E T W.heap.size Y2 r cc ll:=fun {α E T cc r ll} h=>h.same fun a ha=>(hkp _ (zau h ha).2.1 (.inr (zau h ha).1)).1;have rkY:=kR hS.rk;have n1Y:=fun z hz=>kR (hS.n1 z hz);have n2Y:=fun z hz y hy=>kR (hS.n2 z hz y hy);clear hkp hlo hcel hsl;have hbY:b<Y2.heap.size:=by have:=hRW b hM.db;omega
  refine⟨_,zac (zaa fxY) (i:=0) rfl,?_⟩;have hbase:zav Y2 ⟨b,o,none⟩ (exC m.base q c):=by
   have:=zaD (n:=0) (m:=333) hMY.cells;rw [List.drop_zero,JT (by rw [zay];decide),Jy (by rw [zay];decide)] at this;exact this
  refine⟨exC m.base q c,zay _ _ _,hbase,hbY,?_⟩;obtain⟨M,hMM⟩:=nm (Y2.heap.size);refine zak (X:=Y2) (v := .agg (exC m.base q c).toArray) k37 (zay _ _ _) zc9 (zeo _ _ _) fun Z hbZ fZ sZ=>?_;have fZ:ExH Z Y2.heap.size m.base q c:=fZ;rw [<- hMM] at fZ ⊢;refine⟨_,zac (zaa fZ) (i:=0) rfl,cmo (zja (hMY.ev.below hbZ) (by omega) hMY.qn) ?_⟩;rintro e Z2 ⟨⟨q1,k1,rfl,oE⟩,hbZ2⟩;refine zaq k25 (zab hbZ2 fZ) (o:=0+0) (v := .slice q1 m.base.ev.length k1) rfl rfl (by rw [zay];decide) rfl fun S fS gS sS=>?_;rw [show 0+0=0 from rfl,zsB] at fS;have hMZ2:M<Z2.heap.size:=by have:=hbZ2.size;omega
  have hbS:Bw Y2 S:=((zst hbZ hbZ2)).trans (zan gS (by omega) (by omega));have oES:OwnS evE 158 Y2.heap.size S q1 k1 m.base.ev:=zaT (oE.lower hbZ.size) (zab hbZ2 fZ) (by decide) gS;clear oE gS sS fZ hbZ hbZ2;have tMY:∀ {S:World},Bw Y2 S->MixM Rd S b o m q c p1 p2 p3 c1 c2 c3 xs ys:=fun {S} hb=>hMY.same fun k hk=>hb.block k (by have:=hRW k hk;omega);have hxlen:=hxl;refine⟨_,zac (zaa (zab hbS fxY)) (i:=0) rfl,_,zgb (tMY hbS).cells (i:=0) rfl,?_⟩;refine⟨Nat,fun k=>⟨[(1,At0 bx),(2,At0 L),(6,At0 R),(10,.slice qd ds.length ds.length),(11,At0 M),(67,.slice p1 m.rs.length c1),(68,i64 m.rs.length),(69,i64 (k:Nat))],[]⟩,
   fun k Z=>k<=m.rs.length/\ExH Z M { m.base with rf:=⟨m.base.rf.n,rfF (m.rs.take k) ds m.base.rf.to⟩ } q1 k1/\OwnS evE 158 Y2.heap.size Z q1 k1 m.base.ev/\Bw Y2 Z,fun k=>m.rs.length-k,0,
   (cvE rfl rfl),⟨Jh _,fS,oES,hbS⟩,?_⟩
  clear fS oES hbS;rintro k Z ⟨hk,fZ,oE,hbZ⟩;refine biE (fun hc=>?_) fun hc=>?_
  ·have hc:(k:Int)<(m.rs.length:Int):=dT hc;have hkl:k<m.rs.length:=by omega
   have hZM:=tMY hbZ;have hZs:=hbZ.size;obtain⟨⟨r,s⟩,hrs⟩:∃ x,m.rs[k]=x:=⟨_,rfl⟩;obtain⟨hr48,hs1,hs48⟩:=hB.rs (r,s) (by rw [<- hrs];exact gM hkl);dsimp only at hr48 hs1 hs48;have hkx:k<xs.length:=by omega
   obtain⟨y,hyk⟩:∃ y,xs[k]=y:=⟨_,rfl⟩;have hym:y∈xs:=by rw [<- hyk];exact gM hkx
   have hys:y.1=s:=by
    have h1:(xs.map (·.1))[k]?=some y.1:=(by rw [Jm,gE hkx,hyk];rfl);rw [hM.e2,Jm,gE hkl,hrs] at h1;exact (Jg h1).symm
   obtain⟨d,hd⟩:∃ d,ds[k]?=some d:=⟨_,gE (by omega)⟩;have hkd:k<ds.length:=by omega
   have hde:ds[k]=d:=by rw [gE hkd] at hd;exact Jg hd
   have hdlt2:d<y.1.length:=by
    refine hdlt k _ d ?_ hd;unfold zdz;rw [Kq (by rw [Jc];exact hkl),Jm,gE hkl,hrs,hys];rfl
   have hdlt3:d<s.length:=by rw [<- hys];exact hdlt2
   obtain⟨t,ht⟩:∃ t,y.1[d]=t:=⟨_,rfl⟩;have hts:s[d]=t:=by
    have h1:y.1[d]?=some t:=(by rw [gE hdlt2,ht]);rw [hys,gE hdlt3] at h1;exact Jg h1
   have ht48:t<48:=hs48 t (by rw [<- hts];exact gM hdlt3);have hgt:s.getD (ds.getD k 0) 0=t:=by
    rw [gDe,gDe,hd];show (s[d]?).getD 0=t;rw [gE hdlt3,hts];rfl
   have htk:rfF (m.rs.take (k+1)) ds m.base.rf.to=upd (rfF (m.rs.take k) ds m.base.rf.to) t (rfF (m.rs.take k) ds m.base.rf.to t|||2^r):=by
    rw [tsg hkl,hrs,zkg,JD,Nat.min_eq_left hk,hgt]
   obtain⟨G,hG⟩:=nm (rfF (m.rs.take k) ds m.base.rf.to);have hGw:WrdR G:=by
    rw [hG];exact zmi (ds:=[]) hB.rf fun r hr=>(hB.rs r (List.mem_of_mem_take hr)).1
   rw [<- hG] at fZ htk;obtain⟨A,T,hA,hE⟩:=zpJ { m.base with rf:=⟨m.base.rf.n,G⟩ } q1 k1;have hRel:RelAt Z M 50 37 A T ⟨m.base.rf.n,G⟩:=⟨hA,by rw [<- hE];exact fZ⟩;have hr1:k<(m.rs.map (·.1)).length:=by rw [Jc];exact hkl
   obtain⟨b1,o1,hp1,hl1,hat1⟩:=hZM.r1.at hr1;obtain⟨b2,o2,hp2,hl2,hat2⟩:=hZM.r2.at hkx;obtain⟨b3,o3,hp3,hl3,hat3⟩:=(hZM.n2 y hym).at hdlt2;have hslZ:=hslY.below hbZ;obtain⟨b4,o4,hp4,hl4,hat4⟩:=hslZ.at hkd;have e1:some (Value.slice p1 m.rs.length c1)=some (Value.slice (some ⟨b1,o1,none⟩) m.rs.length c1):=by rw [hp1]
   subst hp1;subst hp2;subst hp4;refine⟨k,rfl,hkl,i64 r,by have:=zac (hat1 k hr1) (i:=0) (v:=i64 r) (by rw [Ke,hrs];rfl);exact this,?_⟩;have dZ:Bw Z Z.drew:=(Ja _ _).drew;refine DrawE.ord [23] [0,1,2,3,4,5,6,7,8,9,10,11,12,13,14,15,16,17,18,19,20,21,22,23] (by kernel_rfl) ⟨_,zac (zaa (hdr (zab hbZ fxY))) (i:=0) rfl,_,zgb (hZM.same (X:=Z.drew) fun _ _=>rfl).cells (i:=1) rfl,k,rfl,hkx,slV y,by have:=zac (zar dZ (hat2 k hkx)) (i:=0) (v:=slV y) (by rw [hyk];rfl);exact this,k,rfl,hkd,i64 d,by have:=zac (zar dZ (hat4 k hkd)) (i:=0) (v:=i64 d) (by rw [hde];rfl);exact this,?_⟩;unfold slV;rw [hp3];refine⟨d,rfl,hdlt2,i64 t,by have:=zac (zar dZ (hat3 d hdlt2)) (i:=0) (v:=i64 t) (by rw [ht];rfl);exact this,t,rfl,ht48,s64 (G t),(hRel.same (Y:=Z.drew) rfl).cell ht48,by omega,_,zbO (e:=r) (by omega),_,zb9 (hGw t ht48) (zaH (by omega)),t,rfl,ht48,zaq k27 (hRel.same (Y:=Z.drew) rfl).cells (o:=50+1+t*1) (v:=s64 (G t|||2^r)) rfl rfl (by rw [hRel.len];omega) rfl fun S fS gS sS=>?_⟩;rw [hRel.set ht48] at fS;have gS2:Z.grownBy S (some M):=zaf (zag dZ) gS;refine nxI (by omega) ⟨k+1,(cvE rfl rfl),⟨hkl,?_,zaT oE fZ (by decide) gS2,hbZ.trans (zan gS2 hZs (by omega))⟩,zdc (by omega)⟩;rw [htk];have e5:=hE ⟨m.base.rf.n,upd G t (G t|||2^r)⟩;show S.heap[M]?=some (.cells (exC { m.base with rf:=⟨m.base.rf.n,upd G t (G t|||2^r)⟩ } q1 k1).toArray _ _);exact fS.trans (by rw [<- e5])
  have hc:¬ (k:Int)<(m.rs.length:Int):=dF hc;obtain rfl:k=m.rs.length:=by omega
  rw [JF] at fZ;obtain⟨RF,hRF⟩:∃ RF:ExD,RF={ m.base with rf:=⟨m.base.rf.n,rfF m.rs ds m.base.rf.to⟩ }:=⟨_,rfl⟩;rw [<- hRF] at fZ;have hRFe:RF.ev=m.base.ev:=by rw [hRF]
  have hRFc:RF.co=m.base.co:=by rw [hRF]
  have hRFm:RF.mem=m.base.mem:=by rw [hRF]
  obtain⟨dl,hdle⟩:=nm (ds.drop m.rs.length);have hdll:dl.length=m.wr.length:=by rw [hdle,Ks];omega
  have hslD:SlR natE Y2 (zbo qd ds.length m.rs.length 1) dl:=by
   have:=hslY.sub (cap:=ds.length) (lo:=m.rs.length) (hi:=ds.length) (by omega) (Jb _) (Jb _);rw [Jy (by rw [Ks];exact Jb _),<- hdle] at this;exact this
  refine⟨_,zac (zaa (zab hbZ fxY)) (i:=0) rfl,_,zgb (tMY hbZ).cells (i:=0) rfl,m.rs.length,rfl,by omega,?_⟩;obtain⟨qD,hqD⟩:=nm (zbo qd ds.length m.rs.length 1);rw [<- hqD] at hslD ⊢;have hdn:ds.length-m.rs.length=dl.length:=by omega
  rw [hdn];obtain⟨Rs,hRs⟩:=nm (m.wr.map zcW);have hRsl:Rs.length=m.wr.length:=by rw [hRs,Jc]
  have hzl:zs.length=m.wr.length:=by have:=congrArg List.length hz;simpa using this
  have hRsb:∀ R∈Rs,∀ k∈R,k≠[]/\k.length<=48/\∀ a∈k,a<m.base.ev.length:=fun R hR k hk=>by
   rw [hRs] at hR;obtain⟨w,hw,rfl⟩:=JR.1 hR;exact (hB.wr w hw).2.2 k hk
  refine⟨Nat,fun l=>⟨[(1,At0 bx),(2,At0 L),(6,At0 R),(11,At0 M),(104,.slice qD dl.length dl.length),(105,i64 dl.length),(106,i64 (l:Nat))],[]⟩,
   fun l Z=>l<=dl.length/\ExH Z M { RF with co:=(coG m.base.ev 0 (Rs.take l) dl (RF.co,RF.mem)).1,mem:=(coG m.base.ev 0 (Rs.take l) dl (RF.co,RF.mem)).2 } q1 k1/\OwnS evE 158 Y2.heap.size Z q1 k1 m.base.ev/\Bw Y2 Z,fun l=>dl.length-l,0,
   (cvE rfl rfl),⟨Jh _,fZ,oE,hbZ⟩,?_⟩
  clear fZ oE hbZ;rintro l Z ⟨hl,fZ,oE,hbZ⟩;obtain⟨P,hP⟩:=nm (coG m.base.ev 0 (Rs.take l) dl (RF.co,RF.mem));rw [<- hP] at fZ;have hZs:=hbZ.size;have hPw:WrdR P.1.to:=by
   rw [hP];refine znr (by rw [hRFc];exact hB.co) fun R hR k hk a ha=>?_;have:=(hRsb R (List.mem_of_mem_take hR) k hk).2.2 a ha;omega
  refine biE (fun hc=>?_) fun hc=>?_
  ·have hc:(l:Int)<(dl.length:Int):=dT hc;have hll:l<dl.length:=by omega
   have hlz:l<zs.length:=by omega
   have hlR:l<Rs.length:=by omega
   obtain⟨z,hzk⟩:∃ z,zs[l]=z:=⟨_,rfl⟩;have hzm:z∈zs:=by rw [<- hzk];exact gM hlz
   have hzR:Rs[l]?=some (z.1.map (·.1)):=by
    rw [hRs,<- hz,Jm,gE hlz,hzk];rfl
   have hzRm:z.1.map (·.1)∈Rs:=Kr hzR;obtain⟨d,hd⟩:∃ d,dl[l]=d:=⟨_,rfl⟩;have hdd:dl[l]?=some d:=by rw [gE hll,hd]
   have hdz:d<z.1.length:=by
    refine hdlt (m.rs.length+l) _ d ?_ (by rw [hdle,List.getElem?_drop] at hdd;exact hdd);unfold zdz;rw [JQ (by rw [Jc];omega),Jc,Nat.add_sub_cancel_left];have:=hzR;rw [hRs,Jm] at this;rw [Jm]
    cases hw:m.wr[l]? with
    | none=>rw [hw] at this;cases this
    | some w =>
     rw [hw] at this;have h2:zcW w=z.1.map (·.1):=Jg this;show some (zcW w).length=_;rw [h2,Jc]
   obtain⟨y,hyk⟩:∃ y,z.1[d]=y:=⟨_,rfl⟩;have hym:y∈z.1:=by rw [<- hyk];exact gM hdz
   obtain⟨hy0,hy48,hyev⟩:=hRsb _ hzRm y.1 (JR.2 ⟨y,hym,rfl⟩);have hgy:(z.1.map (·.1)).getD d []=y.1:=by
    rw [gDe,Jm,gE hdz,hyk];rfl
   obtain⟨hlR2,hzR2⟩:=Ju.1 hzR;have htk:coG m.base.ev 0 (Rs.take (l+1)) dl (RF.co,RF.mem)=(zdM y.1 P.1,upd P.2 l (zjA m.base.ev y.1)):=by
    rw [tsg hlR,hzR2,zkH,<- hP,JD,Nat.min_eq_left (by omega),JL];rw [show dl.getD l 0=d by rw [gDe,hdd];rfl,hgy]
   obtain⟨bD,oD,hpD,hlD,hatD⟩:=(hslD.below hbZ).at hll;obtain⟨bR,oR,hpR,hlR0,hatR⟩:=(rkY.below hbZ).row.at hlz;obtain⟨bz,oz,hpz,hlz0,hatz⟩:=((n1Y z hzm).below hbZ).row.at hdz;have hyrow:=((n2Y z hzm y hym).below hbZ).row;have hylt:=fun a ha=>(zau (n2Y z hzm y hym) (a:=a) ha).2.1;subst hpD;subst hpR;refine⟨l,rfl,hll,i64 d,by have:=zac (hatD l hll) (i:=0) (v:=i64 d) (by rw [hd];rfl);exact this,_,zac (zaa (zab hbZ fRY)) (i:=0) rfl,l,rfl,hlz,.slice z.2.1 z.1.length z.2.2,by have:=zac (hatR l hlz) (i:=0) (v := .slice z.2.1 z.1.length z.2.2) (by rw [hzk];rfl);exact this,?_⟩;rw [hpz];refine⟨d,rfl,hdz,slV y,by have:=zac (hatz d hdz) (i:=0) (v:=slV y) (by rw [hyk];rfl);exact this,?_⟩;obtain⟨A,T,hA,hE⟩:=zm8 { RF with co:=P.1,mem:=P.2 } q1 k1;have hRel:RelAt Z M 99 37 A T P.1:=⟨hA,by rw [<- hE];exact fZ⟩;refine cmo (zpD hRel hPw hyrow (fun a ha=>by have:=hylt a ha;omega) (by omega) (fun a ha=>by have:=hyev a ha;omega)) ?_;rintro e V2 ⟨rfl,hRel2,gV2⟩;have fV2:ExH V2 M { RF with co:=zdM y.1 P.1,mem:=P.2 } q1 k1:=by
    have e5:=hE (zdM y.1 P.1);show V2.heap[M]?=some (.cells (exC { RF with co:=zdM y.1 P.1,mem:=P.2 } q1 k1).toArray _ _);exact hRel2.cells.trans (by rw [<- e5])
   have hbV2:Bw Y2 V2:=hbZ.trans (zan gV2 hZs (by omega));have oE2:=zaT oE fZ (by decide) gV2;have hyr2:=((n2Y z hzm y hym).below hbV2).row;obtain⟨j,hj2⟩:∃ j,j+1=y.1.length:=⟨y.1.length-1,by have:=List.length_pos_iff.2 hy0;omega⟩;have hjl:j<y.1.length:=by omega
   obtain⟨b6,o6,hp6,hl6,hat6⟩:=hyr2.at hjl;obtain⟨t,ht⟩:∃ t,y.1[j]=t:=⟨_,rfl⟩;have htev:t<m.base.ev.length:=hyev t (by rw [<- ht];exact gM hjl);have hlast:y.1.getLastD 0=t:=by
    rw [List.getLastD_eq_getLast?,List.getLast?_eq_getElem?,show y.1.length-1=j by omega,gE hjl,ht];rfl
   obtain⟨b7,o7,hp7,hl7,hat7⟩:=oE2.row.at htev;have hlV:zjA m.base.ev y.1=(m.base.ev[t]).v:=by
    show (m.base.ev.getD (y.1.getLastD 0) ev0).v=_;rw [hlast,gDe,gE htev];rfl
   have dV:Bw V2 V2.drew:=(Ja _ _).drew;have hl6':l<6:=by omega
   unfold slV;rw [hp6];refine DrawE.ord [15] [0,1,2,3,4,5,6,7,8,9,10,11,12,13,14,15] (by kernel_rfl) ⟨.slice q1 m.base.ev.length k1,by have:=zac (zaa (hdr fV2)) (i:=0) (v := .slice q1 RF.ev.length k1) rfl;rw [hRFe] at this;exact this,(j:Nat),(zaj (by omega)).trans (by omega),j,rfl,hjl,i64 t,by have:=zac (zar dV (hat6 j hjl)) (i:=0) (v:=i64 t) (by rw [ht];rfl);exact this,?_⟩;rw [hp7];refine⟨t,rfl,htev,u8 (m.base.ev[t]).v,by have:=zac (zar dV (hat7 t htev)) (i:=3) (v:=u8 (m.base.ev[t]).v) rfl;exact this,l,rfl,hl6',zaq k5 (hdr fV2) (o:=327+l*1) (v:=u8 (m.base.ev[t]).v) rfl rfl (by rw [zay];omega) rfl fun S fS gS sS=>?_⟩;rw [Jp,zq0 _ _ _ hl6'] at fS;have gS2:V2.grownBy S (some M):=zaf (zag dV) gS;refine nxI (by omega) ⟨l+1,(cvE rfl rfl),⟨hll,?_,by rw [<- hp7];exact zaT oE2 fV2 (by decide) gS2,hbV2.trans (zan gS2 hbV2.size (by omega))⟩,zdc (by omega)⟩;rw [htk,hlV,<- hp7];exact fS
  have hc:¬ (l:Int)<(dl.length:Int):=dF hc;obtain rfl:l=dl.length:=by omega
  rw [Jy (by omega)] at hP;have hcand:zdA m ds={ RF with co:=P.1,mem:=P.2 }:=by
   rw [hP,hRF,hdle,hRs];rfl
  rw [<- hcand] at fZ;have oE:OwnS evE 158 Y2.heap.size Z q1 k1 (zdA m ds).ev:=oE;refine⟨_,zac (zaa (zab hbZ fLY)) (i:=0) rfl,exC (zdA m ds) q1 k1,zay _ _ _,zaa fZ,hlt fZ,?_⟩;have hjZ:=hJ.step _ _ _ _ hj (StepG.below hbZ);have hGv:∀ k,GvX [.agg (exC (zdA m ds) q1 k1).toArray] k->Y2.heap.size<=k/\∃ a,q1=some a/\k=a.block:=by
   rintro k ⟨x,a,cc,he,rfl⟩;have h1:(exC (zdA m ds) q1 k1).toArray=(exC x (some a) cc).toArray:=by
    have:=List.head_eq_of_cons_eq he;exact Value.agg.inj this
   have h2:exC (zdA m ds) q1 k1=exC x (some a) cc:=by simpa using h1
   have h3:Value.slice q1 (zdA m ds).ev.length k1=Value.slice (some a) x.ev.length cc:=List.head_eq_of_cons_eq h2;have h4:q1=some a:=by injection h3
   exact⟨(zau oE h4).1,a,h4,rfl⟩
  have hmp:(pre++[ds]).map (zdA m)=pre.map (zdA m)++[zdA m ds]:=by rw [Jw];rfl
  have hpm:(pre.map (zdA m)++[zdA m ds]) <+: zhg m:=by
   obtain⟨t,ht⟩:=hpre;refine⟨t.map (zdA m),?_⟩;unfold zhg;rw [<- ht,Jw,hmp]
  refine YieldR.mono (hy _ (zdA m ds) [.agg (exC (zdA m ds) q1 k1).toArray] F Z hjZ ⟨_,q1,k1,by simp,rfl,oE.lower (by omega)⟩ (fun k hk=>by have:=(hGv k hk).1;omega) hpm) ?_;rintro v U ⟨rfl,F',hjU,kU⟩;refine brF ?_;have kF:KeepsG F F' Y2 U:=⟨kU.os.trans hbZ.os,kU.tape.trans hbZ.tape,kU.output.trans hbZ.output,Jj hbZ.size kU.size,fun k hk hf=>(kU.same k (by omega) (fun h=>h.elim hf fun h=>by have:=(hGv k h).1;omega)).trans (hbZ.block k hk),fun k hk=>by
   rcases kU.fp k hk with (h | h) | h
   ·exact .inl h
   ·exact .inr (hGv k h).1
   ·exact .inr (by omega)⟩
  refine⟨F',⟨by rw [hmp];exact hjU,?_⟩,kF⟩;rw [hKp];refine⟨Jj hY2s kF.size,fun k h1 h2=>?_⟩;obtain⟨h3,h4⟩:=hkq k h1 h2;refine⟨(kF.same k (by omega) h4).trans h3,fun h=>?_⟩;rcases kF.fp k h with h | h
  ·exact h4 h
  ·omega
 ·rintro D F Y hD hfD ⟨hj,hk⟩ hdef;refine⟨_,rfl,hdef,⟨_,rfl⟩,F,?_⟩;show J ((zeq (zdz m)).map (zdA m)) F _;exact hJ.step _ _ _ _ hj (.put (by omega) hfD _)
 ·rintro D ex pre F Y hD hfD hpre h;exact h.elim
end
end Go.Proofs.YtnadlhpkpnfmbaaGreatDoor
namespace Go.Sei
def isR (x:ExD) (i:Nat):Bool:=decide ((evA x i).k=1)
def isW (x:ExD) (i:Nat):Bool:=decide ((evA x i).k=2)
def accA (x:ExD) (i:Nat):Bool:=isR x i||isW x i
def hasM (r:RelD) (a b:Nat):Bool:=(r.to a).testBit b
def rowP (n:Nat) (p:Nat->Bool):Nat:=(List.range n).foldl (fun s b=>if p b=true then s|||2^b else s) 0
def zd7 (n:Nat) (p:Nat->Nat->Bool):RelD:=zbD n fun a=>rowP n (p a)
def frM (x:ExD):RelD:=(zfl (zbB x.rf) x.co).1
def zjf (x:ExD) (a b:Nat):Bool:=accA x a&&(accA x b&&decide ((evA x a).l=(evA x b).l))
def extM (x:ExD) (r:RelD):RelD:=zd7 r.n.toNat fun a b=>hasM r a b && !decide ((evA x a).th=(evA x b).th)
def intM (x:ExD) (r:RelD):RelD:=zd7 r.n.toNat fun a b=>hasM r a b&&decide ((evA x a).th=(evA x b).th)
def locM (x:ExD):RelD:=zd7 x.ev.length (zjf x)
theorem znL {p:Nat->Bool} {n k:Nat} (hk:k<n) (h:p k=false):(List.range n).all p=false:=by
 rw [List.all_eq_false];exact⟨k,Jt.2 hk,by rw [h];decide⟩
theorem zpj {p:Nat->Bool} {k:Nat} (h:(List.range k).all p=true) (hp:p k=true):(List.range (k+1)).all p=true:=by
 rw [Ku,List.all_append,h];simp [hp]
theorem zmp {a j:Nat}:(2^a).testBit j=decide (j=a):=by
 rw [Nat.testBit_two_pow];exact Kd.2 ⟨fun e=>e.symm,fun e=>e.symm⟩
theorem zmm {a:Nat}:∀ (l:List Nat) (f:Nat->Nat) (b j:Nat),((l.foldl (fun f b=>upd f b (f b|||2^a)) f) b).testBit j=((f b).testBit j||(decide (b∈l)&&decide (j=a)))
 | [],f,b,j=>by simp
 | x::l,f,b,j=>by
  rw [List.foldl_cons,zmm l];by_cases hx:b=x
  ·subst hx;rw [zbn,Nat.testBit_or,zmp];by_cases hl:b∈l <;> by_cases hj:j=a <;> simp [hl,hj]
  ·rw [zcL _ _ hx];simp [hx]
theorem zgA (tf:Nat->Nat):∀ (n b j:Nat),(zc0 tf n b).testBit j=(decide (j<n)&&decide (b∈els (tf j)))
 | 0,b,j=>by
  show (0:Nat).testBit j=_;simp
 | n+1,b,j=>by
  have ih:=zgA tf n b j;unfold zc0 at ih ⊢;rw [Ku,Kt,List.foldl_cons,List.foldl_nil,zmm,ih];by_cases hj:j=n
  ·subst hj;simp
  ·by_cases h2:j<n
   ·rw [Ka h2,Ka (by omega:j<n+1),Kb hj];simp
   ·rw [Kb h2,Kb (by omega:¬ j<n+1),Kb hj];simp
theorem zph {r:RelD} (h:okR r=true) {b j:Nat}:((zbB r).to b).testBit j=(decide ((j:Int)<r.n)&&decide (b∈els (r.to j))):=by
 have hn:0<=r.n:=by
  unfold okR at h;rw [bAT,dE] at h;exact h.1
 have e:zbB r=⟨r.n,zc0 r.to r.n.toNat⟩:=Kc h;rw [e];show (zc0 r.to r.n.toNat b).testBit j=_;rw [zgA];congr 1;exact Kd.2 (by omega)
theorem znl {s:Nat} (h0:s≠0) (h:s<2^64):ctz s∈els s:=by
 rw [(zbA h0 h).1];exact Jv
end Go.Sei
namespace Go.Proofs.YtnadlhpkpnfmbaaGreatDoor
open Go.Vc Go.RowKit Go.Sei
section
variable {b c:Nat} {x:ExD} {q:Option Addr} {w:World}
theorem zgr {k:Nat}:x.ev.getD k ev0=evA x k:=rfl
theorem zmh (fx:ExH w b x q c) (hv:ExV w x q) (hn:x.rf.n=x.ev.length) (hok:okR x.rf=true) (hT:Tz64M w):CB 42 #[At0 b] w (.bool (zdH x)):=by
 refine cofM 72 [At0 b] (.s .p (.c .p .p)) Tryz.func42 ?_;obtain⟨from_,hfr⟩:∃ f,f=zbB x.rf:=⟨_,rfl⟩;have hn20:=hv.n;refine⟨Nat,fun F=>⟨[(0,At0 b),(3,At0 F)],[]⟩,fun F X=>RelH X F from_/\WrdR from_.to/\w.heap.size<=F/\Bw w X,?_,?_⟩
 ·refine⟨relC x.rf,zae _,?_,hlt fx,?_⟩
  ·have h:=zaD (n:=50) (m:=49) (zaa fx);obtain⟨A,T,hA,hE⟩:=zpJ x q c;have e:=hE x.rf;have e2:(exC x q c).drop 50=relC x.rf++T:=by
    show (exC { x with rf:=x.rf } q c).drop 50=_;rw [e,<- hA,List.drop_left]
   have e3:((exC x q c).toArray.toList.drop 50).take 49=relC x.rf:=by
    show ((exC x q c).drop 50).take 49=_;rw [e2,JT (by rw [zae];decide),Jy (by rw [zae];decide)]
   rw [e3] at h;exact h
  refine cmo (zhl hv.rf hT) ?_;rintro e Y ⟨rfl,hbY,hwr⟩;refine zak (X:=Y) (v := .agg (relC (zbB x.rf)).toArray) k30 (zae _) (by kernel_rfl) (zaw _) fun Z hbZ fZ sZ=>?_;rw [<- hfr] at fZ hwr;exact⟨Y.heap.size,(cvE rfl rfl),fZ,hwr,hbY.size,(zst hbY hbZ)⟩
 rintro F X ⟨fF,hwr,hF,hbX⟩;have bits:∀ i j,(from_.to i).testBit j=true->j<x.ev.length:=fun i j h=>by
  rw [hfr,zph hok,bAT,dE,hn] at h;omega
 refine⟨_,zac (zaa (zab hbX fx)) (i:=0) rfl,Nat,fun k=>⟨[(0,At0 b),(3,At0 F),(18,.slice q x.ev.length c),(19,i64 x.ev.length),(20,i64 (k:Nat))],[]⟩,fun k X=>k<=x.ev.length/\(List.range k).all (fun i=>zfU x (from_.to i) (evA x i))=true/\RelH X F from_/\Bw w X,fun k=>x.ev.length-k,0,(cvE rfl rfl),⟨Jh _,rfl,fF,hbX⟩,?_⟩;have hall:zdH x=(List.range x.ev.length).all fun i=>zfU x (from_.to i) (evA x i):=by rw [hfr];rfl
 clear fF hbX;rintro k X ⟨hk,hgo,fF,hbX⟩;dsimp only;have hXs:=hbX.size;refine biE (fun hc=>?_) fun hc=>?_
 ·have hc:(k:Int)<(x.ev.length:Int):=dT hc;have hkl:k<x.ev.length:=by omega
  obtain⟨bq,oq,hqe,hb,hat⟩:=zdO (hv.ev.below hbX) hkl;rw [zgr] at hat;obtain⟨e,he⟩:=nm (evA x k);obtain⟨s,hs⟩:=nm (from_.to k);rw [<- he] at hat;have hs64:s<2^64:=by rw [hs];exact hwr k (by omega)
  have eq0:some (Value.slice q x.ev.length c)=some (Value.slice (some ⟨bq,oq,none⟩) x.ev.length c):=by rw [hqe]
  subst hqe;refine⟨k,rfl,hkl,evE.enc e,rfl,hat,hb,zak (X:=X) (v := .agg (evE.enc e).toArray) k158 rfl rfl (Je.2 fun u hu=>evE.one e u hu) fun Y hbY fY sY=>?_⟩;have fY:Y.heap[X.heap.size]?=some (.cells (evE.enc e).toArray 158 (0,0)):=fY;have hbY2:=hbX.trans (hbY.mono hXs);have no:∀ {Z:World},Bw w Z->zfU x s e=false->(Ending.returned (.bool false)=Ending.returned (.bool (zdH x))/\Bw w Z):=fun {Z} hb h=>⟨rb (by
   rw [hall];symm;exact znL hkl (by rw [<- hs,<- he];exact h)),hb⟩
  have yes:∀ {Z:World},RelH Z F from_->Bw w Z->zfU x s e=true->(k+1<=x.ev.length/\(List.range (k+1)).all (fun i=>zfU x (from_.to i) (evA x i))=true/\RelH Z F from_/\Bw w Z):=fun {Z} f hb h=>⟨hkl,zpj hgo (by rw [<- hs,<- he];exact h),f,hb⟩;refine⟨k,rfl,by omega,?_⟩;refine⟨s64 s,by rw [hs];exact zbF (zab hbY fF) (by omega),u8 e.k,zac (zaa fY) (i:=1) rfl,biE (fun h=>?_) fun h=>?_⟩
  ·have h:¬ e.k=1:=by
    have h:(!decide ((e.k.toNat:Int)=((1:UInt8).toNat:Int)))=true:=h;intro e2;rw [e2] at h;simp at h
   have hone:zfU x s e=decide (s=0):=JZ h;refine biE (fun h2=>?_) fun h2=>?_
   ·have h2:¬ s=0:=by
     have h2:(!decide ((s:Int)=0))=true:=h2;intro e2;rw [e2] at h2
     cases h2
    exact no hbY2 (by rw [hone];exact Kb h2)
   ·have h2:s=0:=by
     have h2:(!decide ((s:Int)=0))=false:=h2;have h2:(s:Int)=0:=(by simpa using h2);omega
    exact nxI (by omega) ⟨k+1,(cvE rfl rfl),yes (zab hbY fF) hbY2 (by rw [hone];exact Ka h2),zdc (by omega)⟩
  have h:e.k=1:=by
   have h:(!decide ((e.k.toNat:Int)=((1:UInt8).toNat:Int)))=false:=h;exact zbJ.1 (by simpa using h)
  refine cmo (zcF hs64 (hT.below hbY2)) ?_;rintro e2 Z ⟨rfl,hbZ⟩;have hYs:=hbY2.size;have hbZ2:=hbY2.trans (hbZ.mono hYs);have fZ:=zab hbZ fY;have fFZ:=zab hbZ (zab hbY fF);by_cases hs0:s=0
  ·have e1:(els s).isEmpty=true:=by rw [hs0];rfl
   rw [e1];refine brT (brT (no hbZ2 ?_));unfold zfU;rw [Kc h,Kc hs0]
  obtain⟨hd,hem⟩:=zdu hs0 hs64;rw [hd,hem];have hmem:=znl hs0 hs64;have hbit:s.testBit (ctz s)=true:=(zhO.1 hmem).2;have hwl:ctz s<x.ev.length:=bits k _ (by rw [<- hs];exact hbit);refine brF ⟨by omega,((2^ctz s:Nat):Int),zbO (e:=ctz s) (by omega),biE (fun h2=>?_) fun h2=>?_⟩
  ·have h2:¬ s=2^ctz s:=by
    have h2:(!decide ((s:Int)=((2^ctz s:Nat):Int)))=true:=h2;intro e2;rw [<- e2] at h2;simp at h2
   refine no hbZ2 ?_;unfold zfU;rw [Kc h,JZ hs0,JZ h2]
  have h2:s=2^ctz s:=by
   have h2:(!decide ((s:Int)=((2^ctz s:Nat):Int)))=false:=h2;have h2:(s:Int)=((2^ctz s:Nat):Int):=by simpa using h2
   exact Int.ofNat.inj h2
  obtain⟨t,ht⟩:=nm (ctz s);rw [<- ht] at hwl h2 ⊢;obtain⟨bq2,oq2,hqe2,hb2,hat2⟩:=zdO (hv.ev.below hbZ2) hwl;rw [zgr] at hat2;obtain⟨f,hf⟩:=nm (evA x t);rw [<- hf] at hat2;have hone:zfU x s e=(decide (f.k=2)&&(decide (f.l=e.l)&&decide (f.v=e.v))):=by
   unfold zfU;rw [Kc h,JZ hs0,<- ht,Kc h2,<- hf]
  refine⟨_,zac (zaa (zab hbZ2 fx)) (i:=0) rfl,t,rfl,hwl,?_⟩;refine⟨evE.enc f,rfl,by
   simp only [Jf,Addr.mk.injEq,and_true] at hqe2;rw [hqe2.1,hqe2.2];exact hat2,by
   simp only [Jf,Addr.mk.injEq,and_true] at hqe2;rw [hqe2.1];exact hb2,?_⟩
  refine zak (X:=Z) (v := .agg (evE.enc f).toArray) k158 rfl rfl (Je.2 fun u hu=>evE.one f u hu) fun V hbV fV sV=>?_;have fV:V.heap[Z.heap.size]?=some (.cells (evE.enc f).toArray 158 (0,0)):=fV;have hbV2:=zst hbZ2 hbV;have fe:=zab hbV fZ;have fFV:=zab hbV fFZ;have n8:∀ {a d:UInt8},(!decide ((a.toNat:Int)=(d.toNat:Int)))=true->¬ a=d:=fun {a d} h e2=>by
   rw [e2] at h;simp at h
  have y8:∀ {a d:UInt8},(!decide ((a.toNat:Int)=(d.toNat:Int)))=false->a=d:=fun {a d} h=>zbJ.1 (by simpa using h);refine⟨u8 f.k,zac (zaa fV) (i:=1) rfl,biE (fun h3=>?_) fun h3=>?_⟩
  ·have h3:¬ f.k=2:=n8 (d:=2) h3;exact brT (brT (no hbV2 (by rw [hone,Kb h3];rfl)))
  have h3:f.k=2:=y8 (d:=2) h3;refine⟨u8 f.l,zac (zaa fV) (i:=2) rfl,u8 e.l,zac (zaa fe) (i:=2) rfl,biE (fun h4=>?_) fun h4=>?_⟩
  ·have h4:¬ f.l=e.l:=n8 h4;exact brT (no hbV2 (by rw [hone,Kb h4,JJ,JY]))
  have h4:f.l=e.l:=y8 h4;refine⟨u8 f.v,zac (zaa fV) (i:=3) rfl,u8 e.v,zac (zaa fe) (i:=3) rfl,biE (fun h5=>?_) fun h5=>?_⟩
  ·have h5:¬ f.v=e.v:=n8 h5;exact no hbV2 (by rw [hone,Kb h5,JY,JY])
  have h5:f.v=e.v:=y8 h5;exact nxI (by omega) ⟨k+1,(cvE rfl rfl),yes fFV hbV2 (by rw [hone,Ka h3,Ka h4,Ka h5];rfl),zdc (by omega)⟩
 ·have hc:¬ (k:Int)<(x.ev.length:Int):=dF hc;obtain rfl:k=x.ev.length:=by omega
  exact⟨rb (by rw [hall];exact hgo.symm),hbX⟩
end
theorem zs9 {bx n:Nat} {w:World} {i:Nat} (f:w.heap[bx]?=some (.cells #[i64 (n:Nat)] 3 (0,0))) (hn:n<=1000):Calls Tryz.prog 132 #[i64 (i:Nat),At0 bx] w fun e w'=>e = .returned (.bool true)/\w'.heap[bx]?=some (.cells #[i64 (n+1:Nat)] 3 (0,0))/\w.grownBy w' (some bx):=by
 refine cofE 6 [i64 (i:Nat),At0 bx] Tryz.func132 ?_;exact⟨_,zac (zaa f) (i:=0) rfl,nxI (by omega) (zaq k3 f (o:=0) (v:=i64 (n+1:Nat)) rfl rfl (by show 0<1;decide) rfl fun w' f' g' s'=>⟨rfl,f',g'⟩)⟩
theorem zjN {bs bx s:Nat} {w:World} (fs:w.heap[bs]?=some (.cells #[s64 s] 27 (0,0))) (fx:w.heap[bx]?=some (.cells #[i64 (0:Nat)] 3 (0,0))) (hs:s<2^64) (hT:Tz64M w) (hbx:4≠bx) :
  Calls Tryz.prog 151 #[.func (.func 132) #[] #[At0 bx],At0 bs] w fun e w'=>(∃ v,e = .returned v)/\w'.heap[bx]?=some (.cells #[i64 (lenS s:Nat)] 3 (0,0))/\w.grownBy w' (some bx):=by
 refine cofE 16 [.func (.func 132) #[] #[At0 bx],At0 bs] Tryz.func151 ?_;refine⟨_,zac (zaa fs) (i:=0) rfl,Nat×Nat,fun q=>⟨[(0,.func (.func 132) #[] #[At0 bx]),(3,s64 q.2)],[]⟩,fun q X=>X.heap[bx]?=some (.cells #[i64 (q.1:Nat)] 3 (0,0))/\q.1+lenS q.2=lenS s/\q.2<2^64/\w.grownBy X (some bx),fun q=>q.2,(0,s),(cvE rfl rfl),⟨fx,JL _,hs,zbz _ _⟩,?_⟩;rintro⟨n,r⟩ X ⟨f,hn,hr,gX⟩;dsimp only at f hn hr ⊢;have hls:=zgs s;refine biE (fun hc=>?_) fun hc=>?_
 ·have hc:(!decide ((r:Int)=0))=true:=hc;have hc:¬ (r:Int)=0:=by simpa using hc
  have hr0:r≠0:=by omega
  obtain⟨e1,e2,_,_⟩:=zbA hr0 hr;have hl:lenS r=lenS (rest r)+1:=by unfold lenS;rw [e1];rfl
  have hTX:Tz64M X:=zbZ hT (gX.block _ (zcA hT) (by simpa using hbx));refine cmo (zpt hTX hr0 hr) ?_;rintro e _ ⟨rfl,rfl⟩;have hn64:n<=1000:=by unfold lenS at hn;omega
  refine cmo (zs9 f hn64) ?_;rintro e V ⟨rfl,fV,gV⟩;exact brF ⟨((r-1:Nat):Int),(zfs (a:=(r:Int)-1) (by omega)).trans (by omega),((rest r:Nat):Int),zbP (a:=r) (b:=r-1) hr (by omega),(n+1,rest r),(cvE rfl rfl),⟨fV,by show n+1+lenS (rest r)=_;omega,by show rest r<_;omega,zaf gX gV⟩,e2⟩
 ·have hc:(!decide ((r:Int)=0))=false:=hc;have hc:(r:Int)=0:=by simpa using hc
  obtain rfl:r=0:=by omega
  have h0:lenS 0=0:=rfl;rw [h0,Nat.add_zero] at hn;exact⟨⟨_,rfl⟩,by rw [<- hn];exact f,gX⟩
theorem zs8 {s:Nat} {w:World} (hs:s<2^64) (hT:Tz64M w):CB 83 #[s64 s] w (i64 (lenS s:Nat)):=by
 refine cofM 11 [s64 s] (.s .p (.c .p .p)) Tryz.func83 ?_;obtain⟨L,hL⟩:=nm (w.heap.size);refine⟨Unit,fun _=>⟨[(0,s64 s),(3,At0 L)],[]⟩,fun _ Y=>Y.heap[L]?=some (.cells #[i64 (0:Nat)] 3 (0,0))/\Y.heap.size=L+1/\Bw w Y,?_,?_⟩
 ·refine zak (X:=w) (v:=i64 0) k3 rfl rfl rfl fun Y hbY fY sY=>?_;have fY:Y.heap[w.heap.size]?=some (.cells #[i64 (0:Nat)] 3 (0,0)):=fY;exact⟨(),⟨.cons rfl (.cons (by rw [hL];rfl) .nil),rfl⟩,by rw [hL];exact fY,by rw [hL];exact sY,hbY⟩
 rintro _ Y ⟨fY,sY,hbY⟩;refine cmo zhe ?_;rintro e _ ⟨rfl,rfl⟩;have hb2:Bw Y (Y.alloc (.cells #[s64 s] 27)):=zba _ _;have htl:=zcA hT;refine cmo (zjN (hnew Y _) (zab hb2 fY) hs ((hT.below hbY).below hb2) (by omega)) ?_;rintro e Z ⟨⟨v,rfl⟩,fZ,gZ⟩;exact⟨_,zac (zaa fZ) (i:=0) rfl,rfl,((zst hbY hb2)).trans (zan gZ (by have:=hbY.size;have:=hb2.size;omega) (by omega))⟩
def cmpI (x y:Nat):Int:=if x<y then -1 else if y<x then 1 else 0
theorem zpA {x:Nat} {w:World}:Calls Tryz.prog 131 #[i64 (x:Nat)] w fun e w'=>e = .returned (.bool false)/\w=w':=by
 refine cofE 6 [i64 (x:Nat)] Tryz.func131 ?_;exact⟨rb (by simp),rfl⟩
theorem zlA {x y:Nat} {w:World}:Calls Tryz.prog 82 #[i64 (x:Nat),i64 (y:Nat)] w fun e w'=>e = .returned (i64 (cmpI x y))/\w=w':=by
 refine cofE 20 [i64 (x:Nat),i64 (y:Nat)] Tryz.func82 ?_;refine cmo zpA ?_;rintro e _ ⟨rfl,rfl⟩;refine cmo zpA ?_;rintro e _ ⟨rfl,rfl⟩;refine brF (brF (biE (fun h=>?_) fun h=>?_))
 ·have h:(x:Int)<y:=dT h;exact⟨ri (by unfold cmpI;rw [Kc (by omega)]),rfl⟩
 have h:¬ (x:Int)<y:=dF h;refine biE (fun h2=>?_) fun h2=>?_
 ·have h2:(y:Int)<x:=dT h2;exact⟨ri (by unfold cmpI;rw [JZ (by omega),Kc (by omega)]),rfl⟩
 ·have h2:¬ (y:Int)<x:=dF h2;exact⟨ri (by unfold cmpI;rw [JZ (by omega),JZ (by omega)]),rfl⟩
section
variable {b c L:Nat} {x:ExD} {q:Option Addr} {w:World}
theorem zpL {X:World} (fx:ExH X b x q c) {i:Nat} (hi:i<48):X.cell? ⟨b,0+99+1+i*1,none⟩=some (s64 (x.co.to i)):=by
 obtain⟨A,T,hA,hE⟩:=zm8 x q c;have hR:RelAt X b 99 37 A T x.co:=⟨hA,by rw [<- hE];exact fx⟩;exact hR.cell hi
theorem zsP {u v:Nat} (fx:ExH w b x q c) (fL:w.heap[L]?=some (.cells #[At0 b] 86 (0,0))) (hco:WrdR x.co.to) (hu:u<48) (hv:v<48) (hT:Tz64M w) :
  CB 81 #[i64 (u:Nat),i64 (v:Nat),At0 L] w (i64 (cmpI (lenS (x.co.to v)) (lenS (x.co.to u)))):=by
 refine cofE 23 [i64 (u:Nat),i64 (v:Nat),At0 L] Tryz.func81 ?_;refine DrawE.ord [] [0,1,2,3,4,5,6,8,9,10,11,12,13,14,7,15,16,17] (by kernel_rfl) ?_;have hd:Bw w w.drew:=(Ja _ _).drew;refine⟨_,zac (zaa (hdr fL)) (i:=0) rfl,v,rfl,hv,_,zpL (hdr fx) hv,_,zac (zaa (hdr fL)) (i:=0) rfl,u,rfl,hu,_,zpL (hdr fx) hu,cmo (zs8 (hco v hv) (hT.below hd)) ?_⟩;rintro e X ⟨rfl,hbX⟩;refine⟨hbX,cmo (zs8 (hco u hu) ((hT.below hd).below hbX)) ?_⟩;rintro e Y ⟨rfl,hbY⟩;refine⟨hbY,cmo zlA ?_⟩;rintro e _ ⟨rfl,rfl⟩;exact⟨Ja _ _,rfl,(hd.trans hbX).trans (hbY.mono hbX.size)⟩
end
theorem zg6 {key:Nat->Nat} {x:Nat}:∀ (B A:List Nat),(∀ y∈B,key y<key x)->zco key (B++A) x=B++zco key A x
 | [],A,_=>rfl
 | y::B,A,h=>by
  show (if key y<key x then y::zco key (B++A) x else x::y::(B++A))=_;rw [Kc (h y Jv),zg6 B A fun z hz=>h z (JB _ hz)];rfl
theorem zg5 {key:Nat->Nat} {x:Nat}:∀ r:List Nat,(zco key r x).length=r.length+1
 | []=>rfl
 | y::r=>by
  unfold zco
  split
  ·show (zco key r x).length+1=_;rw [zg5 r];rfl
  ·rfl
theorem zg4 {key:Nat->Nat} {x a:Nat}:∀ r:List Nat,a∈zco key r x↔a=x\/a∈r
 | []=>by simp [zco]
 | y::r=>by
  unfold zco
  split
  ·rw [JV,zg4 r,JV];constructor
   ·rintro (h | h | h) <;> simp [h]
   ·rintro (h | h | h) <;> simp [h]
  ·simp
def zht (key:Nat->Nat) (l:List Nat):List Nat:=l.foldl (fun acc x=>zco key acc x) []
theorem zkZ (key:Nat->Nat) (l:List Nat) (x:Nat):zht key (l++[x])=zco key (zht key l) x:=by
 unfold zht;rw [Kt];rfl
theorem zdv {key:Nat->Nat} {a:Nat}:∀ (l acc:List Nat),a∈l.foldl (fun acc x=>zco key acc x) acc↔a∈l\/a∈acc
 | [],acc=>by simp
 | x::l,acc=>by
  rw [List.foldl_cons,zdv l,zg4,JV];constructor
  ·rintro (h | h | h) <;> simp [h]
  ·rintro ((h | h) | h) <;> simp [h]
theorem zdw {key:Nat->Nat}:∀ (l acc:List Nat),(l.foldl (fun acc x=>zco key acc x) acc).length=l.length+acc.length
 | [],acc=>by simp
 | x::l,acc=>by
  rw [List.foldl_cons,zdw l,zg5,Jq];omega
theorem zlV {key:Nat->Nat} {l:List Nat} {a:Nat}:a∈zgG key l↔a∈l:=by
 unfold zgG;rw [List.mem_reverse,zdv];simp
theorem zlW {key:Nat->Nat} (l:List Nat):(zgG key l).length=l.length:=by
 unfold zgG;rw [List.length_reverse,zdw];rfl
section
variable {b c L g cap:Nat} {x:ExD} {q:Option Addr} {w:World} {l:List Nat}
abbrev keyC (x:ExD):Nat->Nat:=fun i=>lenS (x.co.to i)
theorem zg3 {B:Nat} (ho:OwnS natE 3 B w (some ⟨g,0,none⟩) cap l) (fx:ExH w b x q c) (fL:w.heap[L]?=some (.cells #[At0 b] 86 (0,0))) (hT:Tz64M w) (htg:4≠g) (hco:WrdR x.co.to) (h48:∀ a∈l,a<48) (hn:l.length<=20) (hn1:1<=l.length) :
  Calls Tryz.prog 177 #[.slice (some ⟨g,0,none⟩) l.length cap,i64 0,i64 l.length,.func (.func 81) #[] #[At0 L]] w fun e w'=>e = .returned (.tuple #[])/\OwnS natE 3 B w' (some ⟨g,0,none⟩) cap (zgG (keyC x) l)/\w.grownBy w' (some g):=by
 refine cofM 53 [.slice (some ⟨g,0,none⟩) l.length cap,i64 0,i64 l.length,.func (.func 81) #[] #[At0 L]] (.c .p .p) Tryz.func177 ?_;obtain⟨E0,hE0⟩:∃ E0:List (Nat×Value),E0=[(0,.slice (some ⟨g,0,none⟩) l.length cap),(1,i64 0),(2,i64 l.length),(3,.func (.func 81) #[] #[At0 L])]:=⟨_,rfl⟩;have hbg:b≠g:=fun e=>by
  obtain⟨_,_,cur,hc⟩:=zau ho rfl;have hc:w.heap[g]?=_:=hc;rw [<- e,fx] at hc;simp at hc
 have hLg:L≠g:=fun e=>by
  obtain⟨_,_,cur,hc⟩:=zau ho rfl;have hc:w.heap[g]?=_:=hc;rw [<- e,fL] at hc;simp at hc
 refine⟨Unit,fun _=>⟨[(0,.slice (some ⟨g,0,none⟩) l.length cap),(1,i64 0),(2,i64 l.length),(3,.func (.func 81) #[] #[At0 L]),(8,i64 1)],[]⟩,fun _ X=>w=X,?_,?_⟩
 ·exact⟨1,zaj (by omega),(),(cvE rfl rfl),rfl⟩
 rintro _ _ rfl;have hl0:l.take 1=(zht (keyC x) (l.take 1)).reverse:=by
  cases l with
  | nil=>simp at hn1
  | cons a l=>rfl
 refine⟨Nat,fun i=>⟨[(0,.slice (some ⟨g,0,none⟩) l.length cap),(1,i64 0),(2,i64 l.length),(3,.func (.func 81) #[] #[At0 L]),(8,i64 (i:Nat))],[]⟩,fun i X=>(1<=i/\i<=l.length)/\OwnS natE 3 B X (some ⟨g,0,none⟩) cap ((zht (keyC x) (l.take i)).reverse++l.drop i)/\w.grownBy X (some g),fun i=>l.length-i,1,
  (cvE rfl rfl),⟨⟨Jb _,hn1⟩,by rw [<- hl0,List.take_append_drop];exact ho,zbz _ _⟩,?_⟩
 rintro i X ⟨⟨hi1,hi⟩,oX,gX⟩;dsimp only;refine biE (fun hc=>?_) fun hc=>?_
 ·have hc:(i:Int)<(l.length:Int):=dT hc;have hil:i<l.length:=by omega
  obtain⟨u,hu⟩:∃ u,l[i]=u:=⟨_,rfl⟩;have hum:u∈l:=by rw [<- hu];exact gM hil
  obtain⟨S,hS⟩:=nm (zht (keyC x) (l.take i));have hSm:∀ a∈S,a<48:=fun a ha=>by
   rw [hS] at ha;have:=(zdv (key:=keyC x) (l.take i) []).1 ha;rcases this with h | h
   ·exact h48 a (List.mem_of_mem_take h)
   ·cases h
  have hSl:S.length=i:=by
   rw [hS];unfold zht;rw [zdw,JD];simp;omega
  have htk:zht (keyC x) (l.take (i+1))=zco (keyC x) S u:=by
   rw [tsg hil,hu,zkZ,<- hS]
  rw [<- hS,<- JE hil,hu] at oX;refine⟨List Nat×List Nat,fun s=>⟨[(0,.slice (some ⟨g,0,none⟩) l.length cap),(1,i64 0),(2,i64 l.length),(3,.func (.func 81) #[] #[At0 L]),(8,i64 (i:Nat)),(9,i64 s.1.length)],[]⟩,fun s Y=>S.reverse=s.1++s.2/\(∀ y∈s.2,keyC x y<keyC x u)/\OwnS natE 3 B Y (some ⟨g,0,none⟩) cap (s.1++u::(s.2++l.drop (i+1)))/\w.grownBy Y (some g),fun s=>s.1.length,(S.reverse,[]),
   ⟨.cons rfl (.cons rfl (.cons rfl (.cons rfl (.cons rfl (.cons (by show _=some (i64 (S.reverse.length:Nat));rw [List.length_reverse,hSl];rfl) .nil))))),rfl⟩,⟨by rw [Jk],fun y hy=>(by cases hy),oX,gX⟩,?_⟩
  clear oX gX;rintro⟨A,Bs⟩ Y ⟨hsp,hkB,oY,gY⟩;dsimp only at hsp hkB oY ⊢;have hAl:A.length<=i:=by
   have:=congrArg List.length hsp;rw [List.length_reverse,hSl,lap] at this;omega
  have hdY:Bw Y Y.drew:=(Ja _ _).drew;have fin:∀ {Z:World},Bw Y Z->zco (keyC x) A.reverse u=u::A.reverse->((1<=i+1/\i+1<=l.length)/\OwnS natE 3 B Z (some ⟨g,0,none⟩) cap ((zht (keyC x) (l.take (i+1))).reverse++l.drop (i+1))/\w.grownBy Z (some g)):=fun {Z} hb hins=>by
   refine⟨⟨by omega,hil⟩,?_,zbh gY (hb.mono gY.size)⟩;have h1:S=Bs.reverse++A.reverse:=by rw [<- List.reverse_append,<- hsp,List.reverse_reverse]
   rw [htk,h1,zg6 _ _ (fun y hy=>hkB y (by simpa using hy)),hins];have h2:(Bs.reverse++u::A.reverse).reverse++l.drop (i+1)=A++u::(Bs++l.drop (i+1)):=by simp
   rw [h2];exact oY.below hb
  refine DrawE.ord [] [0,1,2,3,4,5,6,7,8,9,10,11,12,13,14,15,16] (by kernel_rfl) (biE (fun h=>?_) fun h=>?_)
  ·have h:(0:Int)<(A.length:Int):=dT h;obtain⟨A',y,hA⟩:∃ A' y,A=A'++[y]:=by
    refine⟨A.dropLast,A.getLast (fun e=>by rw [e] at h;simp at h),(List.dropLast_concat_getLast _).symm⟩
   subst hA;have hA'l:(A'++[y]).length=A'.length+1:=by simp
   rw [hA'l] at hAl h ⊢;have hrl:((A'++[y])++u::(Bs++l.drop (i+1))).length=l.length:=by
    have:=congrArg List.length hsp;rw [List.length_reverse,hSl] at this;simp only [lap,Jq,JW,Ks] at this ⊢;omega
   have hyS:y<48:=hSm y (by
    have:y∈S.reverse:=(by rw [hsp];simp);simpa using this)
   obtain⟨b',o',hq',hb',hat'⟩:=oY.row.at (i:=A'.length) (by rw [hrl];omega);have hbo:b'=g/\o'=0:=by simpa using hq'.symm
   obtain⟨rfl,rfl⟩:=hbo;have c1:Y.cell? ⟨b',0+(A'.length+1)*1,none⟩=some (i64 u):=by
    have:=zac (hat' (A'.length+1) (by rw [hrl];omega)) (i:=0) (v:=i64 u) (by
     have e:((A'++[y])++u::(Bs++l.drop (i+1)))[A'.length+1]?=some u:=by
      rw [JQ (by simp),hA'l,Km];rfl
     rw [gE (by rw [hrl];omega)] at e;rw [Jg e];rfl)
    exact this
   have c2:Y.cell? ⟨b',0+A'.length*1,none⟩=some (i64 y):=by
    have:=zac (hat' A'.length (by rw [hrl];omega)) (i:=0) (v:=i64 y) (by
     have e:((A'++[y])++u::(Bs++l.drop (i+1)))[A'.length]?=some y:=by
      rw [Jr,JQ (Jb _),Km];rfl
     rw [gE (by rw [hrl];omega)] at e;rw [Jg e];rfl)
    exact this
   refine⟨A'.length+1,rfl,by omega,?_⟩;refine⟨_,c1,(A'.length:Nat),(zaj (by omega)).trans (by omega),A'.length,rfl,by omega,?_⟩;refine⟨_,c2,?_⟩;have fxY:ExH Y b x q c:=(gY.block b (hlt fx) (by simpa using hbg)).trans fx;have fLY:Y.heap[L]?=some (.cells #[At0 b] 86 (0,0)):=(gY.block L (hlt fL) (by simpa using hLg)).trans fL;have hTY:Tz64M Y:=zbZ hT (gY.block _ (zcA hT) (by simpa using htg));refine cmo (zsP (hdr fxY) (hdr fLY) hco (h48 u hum) hyS (hTY.below hdY)) ?_;rintro e Z ⟨rfl,hbZ⟩;refine⟨hbZ,?_⟩;have hYZ:=hdY.trans hbZ;refine biE (fun hm=>?_) fun hm=>?_
   ·have hm:cmpI (lenS (x.co.to y)) (lenS (x.co.to u))<0:=dT hm;have hk:keyC x y<keyC x u:=by
     unfold cmpI at hm;by_cases h1:lenS (x.co.to y)<lenS (x.co.to u)
     ·exact h1
     ·rw [JZ h1] at hm
      split at hm <;> omega
    have oZ:=oY.below hYZ;have gZ:=zbh gY (hYZ.mono gY.size);obtain⟨b2,o2,hq2,hb2,hat2⟩:=oZ.row.at (i:=A'.length) (by rw [hrl];omega);have hbo2:b2=b'/\o2=0:=(by simpa using hq2.symm);obtain⟨rfl,rfl⟩:=hbo2;have dZ:Bw Z Z.drew:=(Ja _ _).drew;have d1:=zd2 hYZ c1;have d2:=zd2 hYZ c2;refine DrawE.ord [15,17] [0,1,2,3,4,5,6,7,8,9,10,11,12,13,14,15,16,17] (by kernel_rfl) ⟨(A'.length:Nat),(zaj (by omega)).trans (by omega),(A'.length:Nat),(zaj (by omega)).trans (by omega),A'.length,rfl,by omega,?_⟩;refine⟨_,d2,A'.length+1,rfl,by omega,?_⟩;refine⟨_,d1,A'.length+1,rfl,by omega,?_⟩;refine zjo (i:=A'.length+1) (v:=y) k3 rfl (oZ.below dZ) (by rw [hrl];omega) fun V oV gV=>⟨A'.length,rfl,by omega,?_⟩;refine zjo (i:=A'.length) (v:=u) k3 rfl oV (by rw [List.length_set,hrl];omega) fun U oU gU=>?_;have e1:(((A'++[y])++u::(Bs++l.drop (i+1))).set (A'.length+1) y).set A'.length u=A'++u::((y::Bs)++l.drop (i+1)):=by
     rw [Jr,List.set_append_right _ _ (by omega),Nat.add_sub_cancel_left,List.set_append_right _ _ (by omega),Km];rfl
    rw [e1] at oU;refine⟨(A'.length:Nat),(zaj (by omega)).trans (by omega),(A',y::Bs),(cvE rfl rfl),⟨by rw [hsp];simp,fun z hz=>?_,oU,zaf (zaf (zbh gZ (dZ.mono gZ.size)) gV) gU⟩,by show A'.length<_;omega⟩;rcases JV.1 hz with hz | hz
    ·rw [hz];exact hk
    ·exact hkB z hz
   ·have hm:¬ cmpI (lenS (x.co.to y)) (lenS (x.co.to u))<0:=dF hm;have hk:¬ keyC x y<keyC x u:=fun h=>hm (by unfold cmpI;rw [Kc h];decide);refine nxI (by omega) ⟨i+1,(cvE rfl rfl),fin hYZ ?_,zdc (by omega)⟩;rw [List.reverse_append];exact JZ hk
  ·have h:¬ (0:Int)<(A.length:Int):=dF h;have hA0:A=[]:=List.length_eq_zero_iff.1 (by omega);subst hA0;exact brF (nxI (by omega) ⟨i+1,(cvE rfl rfl),fin hdY rfl,zdc (by omega)⟩)
 ·have hc:¬ (i:Int)<(l.length:Int):=dF hc;obtain rfl:i=l.length:=by omega
  rw [JF,List.drop_length,Jk] at oX;exact⟨rfl,oX,gX⟩
end
theorem ztm:∃ G,TyEq Tryz.prog 33 true 6 2 G/\∀ f:Nat->UInt8,G (seg 6 fun i=>u8 (f i)):=by
 refine⟨_,.array (m:=6) (by decide) Tryz.underlying33 (fun w=>Tryz.isAgg33 w) (zby (by kernel_rfl) (by kernel_rfl)).1 (by kernel_rfl) tU8,fun f i hi=>⟨((f i).toNat:Int),?_⟩⟩;unfold zbv;have h:=zfd (n:=6) (fun i=>u8 (f i)) hi;rw [Jp];have hl:i<(seg 6 fun i=>u8 (f i)).length:=by rw [zaA];exact hi
 rw [<- JE hl,List.take_succ_cons,List.take_zero];rw [gE hl] at h;rw [Jg h];rfl
theorem zoJ {f g:Nat->UInt8}:seg 6 (fun i=>u8 (f i))=seg 6 (fun i=>u8 (g i))↔((List.range 6).all fun l=>decide (f l=g l))=true:=by
 rw [Je];constructor
 ·intro h i hi;have hi:=Jt.1 hi;have h3:=zfd (n:=6) (fun i=>u8 (f i)) hi;rw [h,zfd (n:=6) (fun i=>u8 (g i)) hi] at h3;have h4:=Jg h3;unfold u8 at h4;injection h4 with _ h5;exact Ka (zbJ.1 h5).symm
 ·intro h;unfold seg;refine List.map_congr_left fun i hi=>?_;rw [dT (h i hi)]
theorem zo5 (x y:Operand) (f g:Nat->UInt8) (w:World):(do eqGuard .eql 33 x y (.agg (seg 6 fun i=>u8 (f i)).toArray) (.agg (seg 6 fun i=>u8 (g i)).toArray);binOp .eql 33 (.agg (seg 6 fun i=>u8 (f i)).toArray) (.agg (seg 6 fun i=>u8 (g i)).toArray)).run Tryz.prog w = .ok (.bool ((List.range 6).all fun l=>decide (f l=g l))) w:=by
 obtain⟨G,h1,h2⟩:=ztm;have:=znc h1 9998 rfl (by kernel_rfl) (zaA 6 _) (zaA 6 _) (h2 f) (h2 g) x y w;rw [this,zeP zoJ,Bool.decide_eq_true]
section
variable {b c L g cap:Nat} {x:ExD} {q:Option Addr} {w:World} {l:List Nat}
theorem zjd {B:Nat} (ho:OwnS natE 3 B w (some ⟨g,0,none⟩) cap l) (fx:ExH w b x q c) (fL:w.heap[L]?=some (.cells #[At0 b] 86 (0,0))) (hT:Tz64M w) (htg:4≠g) (hco:WrdR x.co.to) (h48:∀ a∈l,a<48) (hn:l.length<=19) (hn1:1<=l.length) :
  Calls Tryz.prog 130 #[.slice (some ⟨g,0,none⟩) l.length cap,i64 l.length,.func (.func 81) #[] #[At0 L]] w fun e w'=>e = .returned (.tuple #[])/\OwnS natE 3 B w' (some ⟨g,0,none⟩) cap (zgG (keyC x) l)/\w.grownBy w' (some g):=by
 refine cofE 63 [.slice (some ⟨g,0,none⟩) l.length cap,i64 l.length,.func (.func 81) #[] #[At0 L]] Tryz.func130 ?_;refine⟨Unit,fun _=>⟨[(0,.slice (some ⟨g,0,none⟩) l.length cap),(1,i64 l.length),(2,.func (.func 81) #[] #[At0 L]),(6,i64 20),(7,i64 0),(8,i64 20)],[]⟩,fun _ X=>w=X,fun _=>0,(),(cvE rfl rfl),rfl,?_⟩;rintro _ _ rfl;refine brN (Kb (by omega)) (cmo (zg3 ho fx fL hT htg hco h48 (by omega) hn1) ?_);rintro e X ⟨rfl,oX,gX⟩;refine⟨Unit,fun _=>⟨[(1,i64 l.length),(6,i64 20)],[]⟩,fun _ Y=>X=Y,fun _=>0,(),(cvE rfl rfl),rfl,?_⟩;rintro _ _ rfl;exact brN (Kb (by omega)) ⟨rfl,oX,gX⟩
theorem zlm {q:Option Addr} {n m:Nat} (hm:m<=1000):Calls Tryz.prog 177 #[.slice q n cap,i64 (m:Nat),i64 (m:Nat),.func (.func 81) #[] #[At0 L]] w fun e w'=>e = .returned (.tuple #[])/\w=w':=by
 refine cofE 53 [.slice q n cap,i64 (m:Nat),i64 (m:Nat),.func (.func 81) #[] #[At0 L]] Tryz.func177 ?_;refine nxI (by omega) ⟨Unit,fun _=>⟨[(2,i64 (m:Nat)),(8,i64 ((m+1:Nat):Int))],[]⟩,fun _ X=>w=X,fun _=>0,(),(cvE rfl rfl),rfl,?_⟩;rintro _ _ rfl;exact brN (Kb (by omega)) ⟨rfl,rfl⟩
theorem zlT {B:Nat} (ho:OwnS natE 3 B w (some ⟨g,0,none⟩) cap l) (fx:ExH w b x q c) (fL:w.heap[L]?=some (.cells #[At0 b] 86 (0,0))) (hT:Tz64M w) (htg:4≠g) (hco:WrdR x.co.to) (h48:∀ a∈l,a<48) (hn:l.length<=20) (hn1:1<=l.length) :
  Calls Tryz.prog 130 #[.slice (some ⟨g,0,none⟩) l.length cap,i64 l.length,.func (.func 81) #[] #[At0 L]] w fun e w'=>e = .returned (.tuple #[])/\OwnS natE 3 B w' (some ⟨g,0,none⟩) cap (zgG (keyC x) l)/\w.grownBy w' (some g):=by
 by_cases h19:l.length<=19
 ·exact zjd ho fx fL hT htg hco h48 h19 hn1
 have hn20:l.length=20:=by omega
 refine cofE 63 [.slice (some ⟨g,0,none⟩) l.length cap,i64 l.length,.func (.func 81) #[] #[At0 L]] Tryz.func130 ?_;refine⟨Bool,fun k=>⟨[(0,.slice (some ⟨g,0,none⟩) l.length cap),(1,i64 l.length),(2,.func (.func 81) #[] #[At0 L]),(6,i64 20),(7,i64 (if k=true then (0:Nat) else l.length:Nat)),(8,i64 (if k=true then l.length else 40:Nat))],[]⟩,fun k X=>(k=true/\w=X)\/(k=false/\OwnS natE 3 B X (some ⟨g,0,none⟩) cap (zgG (keyC x) l)/\w.grownBy X (some g)),fun k=>if k=true then 1 else 0,true,⟨.cons rfl (.cons rfl (.cons rfl (.cons rfl (.cons rfl (.cons (by rw [hn20];rfl) .nil))))),rfl⟩,.inl ⟨rfl,rfl⟩,?_⟩;rintro k X (⟨rfl,rfl⟩ | ⟨rfl,oX,gX⟩)
 ·refine brE (Ka (by show ((l.length:Nat):Int)<=(l.length:Int);omega)) (cmo (zg3 ho fx fL hT htg hco h48 hn hn1) ?_);rintro e X ⟨rfl,oX,gX⟩;refine⟨40,by rw [hn20];rfl,?_⟩;exact⟨false,(cvE rfl rfl),.inr ⟨rfl,oX,gX⟩,by decide⟩
 ·refine brN (Kb (by show ¬ ((40:Nat):Int)<=(l.length:Int);omega)) (cmo (zlm (m:=l.length) (by omega)) ?_);rintro e _ ⟨rfl,rfl⟩;refine⟨Unit,fun _=>⟨[(1,i64 l.length),(6,i64 20)],[]⟩,fun _ Y=>X=Y,fun _=>0,(),(cvE rfl rfl),rfl,?_⟩;rintro _ _ rfl;exact brN (Kb (by omega)) ⟨rfl,oX,gX⟩
theorem zie {B:Nat} (ho:OwnS natE 3 B w (some ⟨g,0,none⟩) cap l) (fx:ExH w b x q c) (fL:w.heap[L]?=some (.cells #[At0 b] 86 (0,0))) (hT:Tz64M w) (htg:4≠g) (hco:WrdR x.co.to) (h48:∀ a∈l,a<48) (hn:l.length<=20) (hn1:1<=l.length) :
  Calls Tryz.prog 80 #[.slice (some ⟨g,0,none⟩) l.length cap,.func (.func 81) #[] #[At0 L]] w fun e w'=>e = .returned (.tuple #[])/\OwnS natE 3 B w' (some ⟨g,0,none⟩) cap (zgG (keyC x) l)/\w.grownBy w' (some g):=by
 refine cofE 9 [.slice (some ⟨g,0,none⟩) l.length cap,.func (.func 81) #[] #[At0 L]] Tryz.func80 ?_;refine cmo (zlT ho fx fL hT htg hco h48 hn hn1) ?_;rintro e X ⟨rfl,h1,h2⟩;exact⟨rfl,h1,h2⟩
theorem zm1 {l:List Nat} (h:0<l.length):l.headD 48=l[0]:=by
 cases l with
 | nil=>simp at h
 | cons a r=>rfl
theorem zpq {k a:Nat} (h:a∈zfN x k):a<x.ev.length:=by
 unfold zfN at h;exact Jt.1 (List.mem_filter.1 h).1
theorem zmk {k a:Nat} (h:a∈za6 x k):a<x.ev.length:=zpq (zlV.1 h)
theorem zsA (q:Option Addr) (c:Nat):((exC x q c).drop 99).take 49=relC x.co:=by
 obtain⟨A,T,hA,hE⟩:=zm8 x q c;show ((exC { x with co:=x.co } q c).drop 99).take 49=_;rw [hE,<- hA,List.drop_left,JT (by rw [zae];decide),Jy (by rw [zae];decide)]
theorem zqZ (q:Option Addr) (c:Nat):((exC x q c).drop 327).take 6=seg 6 fun i=>u8 (x.mem i):=by
 obtain⟨A,T,hA,hE⟩:=zpI x q c [];have:=hE x.mem;rw [Jk] at this;show ((exC { x with mem:=x.mem } q c).drop 327).take 6=_;rw [this,<- hA,List.drop_left,JT (by rw [zaA];decide),Jy (by rw [zaA];decide)]
abbrev zry (X:World) (b:Nat) (f:Nat->UInt8):Prop:=X.heap[b]?=some (.cells (seg 6 fun i=>u8 (f i)).toArray 33 (0,0))
theorem znq {locs:Nat} (fx:ExH w b x q c) (hv:ExV w x q) (hlo:locs<=6) (hne:∀ l,l<locs->zfN x l≠[]) (hT:Tz64M w) :
  CB 43 #[At0 b,i64 locs] w (.bool (zdR x locs)):=by
 refine cofM 87 [At0 b,i64 locs] (.c .p (.c .p (.c .p (.c .p .p)))) Tryz.func43 ?_;obtain⟨L,hL⟩:=nm (w.heap.size);have hbw:=hlt fx;have hn:=hv.n;have htl:=zcA hT;refine⟨Unit,fun _=>⟨[(1,i64 locs),(2,At0 L)],[]⟩,fun _ X=>X.heap[L]?=some (.cells #[At0 b] 86 (0,0))/\X.heap.size=L+1/\Bw w X,⟨(),⟨.cons rfl (.cons (by rw [hL];rfl) .nil),rfl⟩,by rw [hL];exact hnew w _,by rw [hL];exact wz _ _,(zba w _)⟩,?_⟩;rintro _ X ⟨fL,sX,hbX⟩;refine⟨Unit,fun _=>⟨[(1,i64 locs),(2,At0 L),(5,At0 (L+1))],[]⟩,fun _ Y=>RelH Y (L+1) ⟨x.ev.length,fun _=>0⟩/\Y.heap.size=L+2/\Bw X Y,?_,?_⟩
 ·refine⟨_,zac (zaa fL) (i:=0) rfl,_,zac (zaa (zab hbX fx)) (i:=0) rfl,relC ⟨x.ev.length,fun _=>0⟩,by kernel_rfl,?_⟩;refine zak (X:=X) (v := .agg (relC ⟨x.ev.length,fun _=>0⟩).toArray) k30 (zae _) (by kernel_rfl) (zaw _) fun Z hbZ fZ sZ=>?_;rw [sX] at fZ sZ;exact⟨(),⟨.cons rfl (.cons rfl (.cons (by rw [<- sX];rfl) .nil)),rfl⟩,fZ,sZ,hbZ⟩
 rintro _ Y ⟨fT,sY,hbY⟩;refine⟨Unit,fun _=>⟨[(1,i64 locs),(2,At0 L),(5,At0 (L+1)),(6,At0 (L+2))],[]⟩,fun _ Z=>zry Z (L+2) (fun _=>0)/\RelH Z (L+1) ⟨x.ev.length,fun _=>0⟩/\Z.heap[L]?=some (.cells #[At0 b] 86 (0,0))/\Z.heap.size=L+3/\Bw w Z,?_,?_⟩
 ·exact⟨(),⟨.cons rfl (.cons rfl (.cons rfl (.cons (by rw [<- sY];rfl) .nil))),rfl⟩,by rw [<- sY];exact hnew Y _,hold _ fT,hold _ (zab hbY fL),by rw [wz,sY],((zst hbX hbY)).alloc (by have:=hbX.size;have:=hbY.size;omega) _⟩
 clear fL sX hbX fT sY hbY;clear X Y;rintro _ X ⟨fM,fT,fL,sX,hbX⟩;obtain⟨P0,hP0⟩:∃ P0:RelD×(Nat->UInt8),P0=(⟨x.ev.length,fun _=>0⟩,fun _=>0):=⟨_,rfl⟩;have hco:zdR x locs=match coGo x locs 0 P0 with
  | none=>false
  | some p=>zdJ p.1 x.co&&(List.range 6).all fun l=>decide (p.2 l=x.mem l):=by rw [hP0];rfl
 refine⟨RelD×(Nat->UInt8),fun P=>⟨[(2,At0 L),(5,At0 (L+1)),(6,At0 (L+2))],[]⟩,fun P Z=>coGo x locs 0 P0=some P/\zry Z (L+2) P.2/\RelH Z (L+1) P.1/\Z.heap[L]?=some (.cells #[At0 b] 86 (0,0))/\Bw w Z,?_,?_⟩
 ·refine⟨Nat×(RelD×(Nat->UInt8)),fun s=>⟨[(2,At0 L),(5,At0 (L+1)),(6,At0 (L+2)),(17,i64 locs),(18,i64 (s.1:Nat))],[]⟩,fun s Z=>s.1<=locs/\coGo x (locs-s.1) s.1 s.2=coGo x locs 0 P0/\WrdR s.2.1.to/\zry Z (L+2) s.2.2/\RelH Z (L+1) s.2.1/\Z.heap[L]?=some (.cells #[At0 b] 86 (0,0))/\Bw w Z/\L+3<=Z.heap.size,fun s=>locs-s.1,(0,P0),
   (cvE rfl rfl),⟨Jh _,rfl,by rw [hP0];exact fun i _=>(by show 0<_;decide),by rw [hP0];exact fM,by rw [hP0];exact fT,fL,hbX,by omega⟩,?_⟩
  clear fM fT fL sX hbX;rintro⟨l,P⟩ Z ⟨hl,hgo,hPw,fM,fT,fL,hbZ,sZ⟩;dsimp only at hl hgo hPw fM fT sZ ⊢;refine biE (fun hc=>?_) fun hc=>?_
  ·have hc:(l:Int)<(locs:Int):=dT hc;have hll:l<locs:=by omega
   have hstep:coGo x (locs-l) l P=if (za6 x l).headD 48=l then coGo x (locs-(l+1)) (l+1) (zdM (za6 x l) P.1,upd P.2 l (zjA x.ev (za6 x l))) else none:=by
    rw [show locs-l=(locs-(l+1))+1 by omega];rfl
   refine⟨_,zac (zaa fL) (i:=0) rfl,_,zac (zaa (zab hbZ fx)) (i:=0) rfl,?_⟩;obtain⟨pr,hpr⟩:∃ pr:Nat->Bool,pr=fun i=>decide ((evA x i).k=2)&&decide ((evA x i).l.toNat=l):=⟨_,rfl⟩;refine⟨Nat×Option Addr×Nat,fun s=>⟨[(2,At0 L),(5,At0 (L+1)),(6,At0 (L+2)),(7,i64 (l:Nat)),(8,.slice s.2.1 ((List.range s.1).filter pr).length s.2.2),(17,i64 locs),(18,i64 (l:Nat)),(24,.slice q x.ev.length c),(25,i64 x.ev.length),(26,i64 (s.1:Nat))],[]⟩,fun s V=>s.1<=x.ev.length/\OwnS natE 3 Z.heap.size V s.2.1 s.2.2 ((List.range s.1).filter pr)/\Bw Z V,fun s=>x.ev.length-s.1,(0,none,0),
    (cvE rfl rfl),⟨Jh _,OwnS.nil,Ja _ _⟩,?_⟩
   rintro⟨k,ps,cs⟩ V ⟨hk,oV,hbV⟩;dsimp only at hk oV ⊢;have hVs:=hbV.size;refine biE (fun hc=>?_) fun hc=>?_
   ·have hc:(k:Int)<(x.ev.length:Int):=dT hc;have hkl:k<x.ev.length:=(by omega);have hbwV:=zst hbZ hbV;obtain⟨bq,oq,hqe,hb,hat⟩:=zdO (hv.ev.below hbwV) hkl;rw [zgr] at hat;have hfl:(List.range (k+1)).filter pr=(List.range k).filter pr++if pr k=true then [k] else []:=by
     rw [Ku,List.filter_append,List.filter_cons,List.filter_nil]
    have hprk:pr k=(decide ((evA x k).k=2)&&decide ((evA x k).l.toNat=l)):=(by rw [hpr]);have hll2:((List.range k).filter pr).length<=k:=by
     have:=List.length_filter_le pr (List.range k);rw [Kf] at this;exact this
    obtain⟨e,he⟩:=nm (evA x k);rw [<- he] at hat hprk;have eq0:some (Value.slice q x.ev.length c)=some (Value.slice (some ⟨bq,oq,none⟩) x.ev.length c):=(by rw [hqe]);subst hqe;refine⟨k,rfl,hkl,evE.enc e,rfl,hat,hb,zak (X:=V) (v := .agg (evE.enc e).toArray) k158 rfl rfl (Je.2 fun u hu=>evE.one e u hu) fun U hbU fU sU=>?_⟩;have fU:U.heap[V.heap.size]?=some (.cells (evE.enc e).toArray 158 (0,0)):=fU;have oU:=oV.below hbU;have hbU2:=hbV.trans (hbU.mono hVs);have hUs:=hbU2.size;have skip:pr k=false->(k+1<=x.ev.length/\OwnS natE 3 Z.heap.size U ps cs ((List.range (k+1)).filter pr)/\Bw Z U):=fun h=>⟨hkl,by rw [hfl,h];simpa using oU,hbU2⟩;have zfR:pr k=false->((List.range (k+1)).filter pr).length=((List.range k).filter pr).length:=fun h=>by rw [hfl,h];simp
    refine⟨u8 e.k,zac (zaa fU) (i:=1) rfl,biE (fun h1=>?_) fun h1=>?_⟩
    ·have h1:e.k=2:=zbJ.1 (dT h1);refine⟨u8 e.l,zac (zaa fU) (i:=2) rfl,(e.l.toNat:Int),zaU _,biE (fun h2=>?_) fun h2=>?_⟩
     ·have h2:(e.l.toNat:Int)=(l:Int):=dT h2;have hp1:pr k=true:=(by rw [hprk,Ka h1,Ka (by omega:e.l.toNat=l)];rfl);rw [Kc hp1] at hfl;refine⟨⟨by decide,by decide,rfl⟩,natE.enc k,rfl,?_⟩;have hb2:Bw U (U.alloc (.cells (natE.enc k).toArray 3)):=zba _ _;have sb2:=hb2.size;unfold opsE zc2;show SatR _ _;refine appI (oU.below hb2) (za2 natE k) (by omega) (by omega) fun p' c' S oS gS hat2=>?_;rw [zcD] at gS;rw [<- hfl] at oS ⊢;exact nxI (by omega) ⟨(k+1,p',c'),(cvE rfl rfl),⟨hkl,oS,hbU2.trans ((hb2.mono hUs).trans (zbg (oU.below hb2) (by omega) (Jb _) gS))⟩,zdc (by omega)⟩
     ·have h2:¬ (e.l.toNat:Int)=(l:Int):=dF h2;have hp0:pr k=false:=(by rw [hprk,Kb (by omega:¬ e.l.toNat=l),JY]);exact nxI (by omega) ⟨(k+1,ps,cs),⟨.cons rfl (.cons rfl (.cons rfl (.cons rfl (.cons (by show _=some (Value.slice ps ((List.range (k+1)).filter pr).length cs);rw [zfR hp0];rfl) (.cons rfl (.cons rfl (.cons rfl (.cons rfl (.cons rfl .nil))))))))),rfl⟩,skip hp0,zdc (by omega)⟩
    ·have h1:¬ e.k=2:=fun e2=>(dF h1) (by rw [e2];rfl);have hp0:pr k=false:=(by rw [hprk,Kb h1];rfl);exact brF (nxI (by omega) ⟨(k+1,ps,cs),⟨.cons rfl (.cons rfl (.cons rfl (.cons rfl (.cons (by show _=some (Value.slice ps ((List.range (k+1)).filter pr).length cs);rw [zfR hp0];rfl) (.cons rfl (.cons rfl (.cons rfl (.cons rfl (.cons rfl .nil))))))))),rfl⟩,skip hp0,zdc (by omega)⟩)
   have hc:¬ (k:Int)<(x.ev.length:Int):=dF hc;obtain rfl:k=x.ev.length:=by omega
   have hwr:(List.range x.ev.length).filter pr=zfN x l:=by rw [hpr];rfl
   rw [hwr] at oV ⊢;have hwn:=hne l hll;have hw1:1<=(zfN x l).length:=List.length_pos_iff.2 hwn;have hw19:(zfN x l).length<=20:=by
    have:=List.length_filter_le pr (List.range x.ev.length);rw [hwr,Kf] at this;omega
   have hps:∃ g,ps=some ⟨g,0,none⟩:=by
    rcases oV.inv with ⟨_,_,h⟩ | ⟨g,cur,h,_⟩
    ·exact (hwn h).elim
    ·exact⟨g,h⟩
   obtain⟨g,rfl⟩:=hps;have hg:=(zau oV rfl).1;have hg:Z.heap.size<=g:=hg;have hbwV:=zst hbZ hbV;have hZw:=hbZ.size;refine cmo (zie oV (zab hbwV fx) (zab hbV fL) (hT.below hbwV) (by omega) hv.co (fun a ha=>by have:=zpq ha;omega) hw19 hw1) ?_;rintro e U ⟨rfl,oU,gU⟩;have oU:OwnS natE 3 Z.heap.size U (some ⟨g,0,none⟩) cs (za6 x l):=oU;have hrl:(za6 x l).length=(zfN x l).length:=zlW _;have hbU:Bw Z U:=hbV.trans (zan gU hVs hg);have hbwU:=hbZ.trans (hbU.mono hZw);have hU0:0<(za6 x l).length:=by omega
   obtain⟨bq,oq,hqe,hbq,hatq⟩:=oU.row.at hU0;have hbo:bq=g/\oq=0:=by simpa using hqe.symm
   obtain⟨rfl,rfl⟩:=hbo;rw [<- hrl];have hh:(za6 x l).headD 48=(za6 x l)[0]:=zm1 hU0;refine⟨0,rfl,hU0,i64 (za6 x l)[0],by have:=zac (hatq 0 hU0) (i:=0) (v:=i64 (za6 x l)[0]) rfl;exact this,biE (fun h=>?_) fun h=>?_⟩
   ·have h:(!decide (((za6 x l)[0]:Int)=(l:Int)))=true:=h;have h:¬ ((za6 x l)[0]:Int)=(l:Int):=(by simpa using h);rw [hstep,JZ (by rw [hh];omega)] at hgo;refine⟨rb ?_,hbwU⟩;rw [hco,<- hgo]
   have h:(!decide (((za6 x l)[0]:Int)=(l:Int)))=false:=h;have h:((za6 x l)[0]:Int)=(l:Int):=by simpa using h
   rw [hstep,Kc (by rw [hh];omega)] at hgo;have fTU:=zab hbU fT;have hRT:RelAt U (L+1) 0 30 [] [] P.1:=⟨rfl,by simpa using fTU⟩;have hrk48:∀ a∈za6 x l,a<48:=fun a ha=>by have:=zmk ha;omega
   have hLZ:=hlt fT;have hL2Z:=hlt fM;refine cmo (zpD hRT hPw oU.row (fun a ha=>by cases ha;exact⟨hbq,by show bq≠L+1;omega⟩) (by omega) hrk48) ?_;rintro e S ⟨rfl,hRS,gS⟩;have fTS:RelH S (L+1) (zdM (za6 x l) P.1):=by simpa using hRS.cells
   have hbS:Bw w S:=hbwU.trans (zan gS hbwU.size (by omega));have fMS:=(gS.block (L+2) (hlt (zab hbU fM)) (by simp)).trans (zab hbU fM);have fLS:=(gS.block L (hlt (zab hbU fL)) (by simp)).trans (zab hbU fL);have oS:=zaT oU fTU (by decide) gS;obtain⟨j,hj⟩:∃ j,j+1=(za6 x l).length:=⟨(za6 x l).length-1,by omega⟩;have hjl:j<(za6 x l).length:=by omega
   obtain⟨b6,o6,hp6,hl6,hat6⟩:=oS.row.at hjl;have hbo6:b6=bq/\o6=0:=by simpa using hp6.symm
   obtain⟨rfl,rfl⟩:=hbo6;obtain⟨t,ht⟩:∃ t,(za6 x l)[j]=t:=⟨_,rfl⟩;have htev:t<x.ev.length:=zmk (by rw [<- ht];exact gM hjl);have hlast:(za6 x l).getLastD 0=t:=by
    rw [List.getLastD_eq_getLast?,List.getLast?_eq_getElem?,show (za6 x l).length-1=j by omega,gE hjl,ht];rfl
   obtain⟨b7,o7,hp7,hl7,hat7⟩:=zdO (hv.ev.below hbS) htev;rw [zgr] at hat7;have hlV:zjA x.ev (za6 x l)=(evA x t).v:=by
    show (x.ev.getD ((za6 x l).getLastD 0) ev0).v=_;rw [hlast];rfl
   have dS:Bw S S.drew:=(Ja _ _).drew;refine DrawE.ord [15] [0,1,2,3,4,5,6,7,8,9,10,11,12,13,14,15] (by kernel_rfl) ⟨_,zac (zaa (hdr fLS)) (i:=0) rfl,_,zac (zaa (hdr (zab hbS fx))) (i:=0) rfl,(j:Nat),(zaj (by omega)).trans (by omega),j,rfl,hjl,i64 t,by have:=zac (zar dS (hat6 j hjl)) (i:=0) (v:=i64 t) (by rw [ht];rfl);exact this,?_⟩;rw [hp7];refine⟨t,rfl,htev,u8 (evA x t).v,by have:=zac (zar dS hat7) (i:=3) (v:=u8 (evA x t).v) rfl;exact this,l,rfl,by omega,?_⟩;refine zaq k5 (hdr fMS) (o:=0+l*1) (v:=u8 (evA x t).v) rfl rfl (by rw [zaA];omega) rfl fun T fT2 gT sT=>?_;have gT2:S.grownBy T (some (L+2)):=zaf (zag dS) gT;have e8:=zl3 (n:=6) (fun i=>u8 (P.2 i)) (fun i=>u8 (upd P.2 l (evA x t).v i)) (i:=l) (by omega) rfl (fun j hj=>by rw [zcL _ _ hj]);rw [zbn] at e8;rw [Jp,JL,e8] at fT2;exact nxI (by omega) ⟨(l+1,(zdM (za6 x l) P.1,upd P.2 l (evA x t).v)),(cvE rfl rfl),⟨hll,by rw [<- hlV];exact hgo,ziU hPw hrk48,fT2,(gT2.block (L+1) (hlt fTS) (by simp)).trans fTS,(gT2.block L (hlt fLS) (by simp)).trans fLS,hbS.trans (zan gT2 hbS.size (by omega)),by have:=gT2.size;have:=gS.size;have:=hbU.size;omega⟩,zdc (by omega)⟩
  ·have hc:¬ (l:Int)<(locs:Int):=dF hc;obtain rfl:l=locs:=by omega
   rw [Km] at hgo;exact⟨P,(cvE rfl rfl),hgo.symm,fM,fT,fL,hbZ⟩
 rintro P Z ⟨hgo,fM,fT,fL,hbZ⟩;have hco2:zdR x locs=(zdJ P.1 x.co&&(List.range 6).all fun l=>decide (P.2 l=x.mem l)):=by rw [hco,hgo]
 refine DrawE.ord [] [0,1,2,3,4,5,6,7,8,9,10,11,12,13,14,15] (by kernel_rfl) ?_;have dZ:Bw Z Z.drew:=(Ja _ _).drew;refine⟨relC P.1,zae _,zaa (hdr fT),hlt (hdr fT),_,zac (zaa (hdr fL)) (i:=0) rfl,?_⟩;have fxZ:=hdr (zab hbZ fx);refine⟨relC x.co,zae _,by have h:=zaD (n:=99) (m:=49) (zaa fxZ);rw [show (exC x q c).toArray.toList=exC x q c from rfl,zsA] at h;exact h,hlt fxZ,_,fun w=>zh3 _ _ P.1 x.co w,?_⟩;have fin:Bw w Z.drew:=zst hbZ dZ;refine biE (fun h=>?_) fun h=>?_
 ·have h:zdJ P.1 x.co=true:=h;exact⟨seg 6 (fun i=>u8 (P.2 i)),zaA _ _,zaa (hdr fM),hlt (hdr fM),_,zac (zaa (hdr fL)) (i:=0) rfl,seg 6 (fun i=>u8 (x.mem i)),zaA _ _,by have h:=zaD (n:=327) (m:=6) (zaa fxZ);rw [show (exC x q c).toArray.toList=exC x q c from rfl,zqZ] at h;exact h,hlt fxZ,_,fun w=>zo5 _ _ P.2 x.mem w,rb (by rw [hco2,h,Js]),fin⟩
 ·have h:zdJ P.1 x.co=false:=h;exact⟨rb (by rw [hco2,h,JJ]),fin⟩
end
section
variable {b c:Nat} {x:ExD} {q:Option Addr} {w:World}
theorem zkf {X:World} {o:Nat} {A T:List Value} {r:RelD} (fx:ExH X b x q c) (hA:A.length=o) (hE:exC x q c=A++(relC r++T)) {i:Nat} (hi:i<48):X.cell? ⟨b,o+1+i*1,none⟩=some (s64 (r.to i)):=by
 have hR:RelAt X b o 37 A T r:=⟨hA,by rw [<- hE];exact fx⟩;exact hR.cell hi
theorem zr6 {X:World} (fx:ExH X b x q c) {i:Nat} (hi:i<48):X.cell? ⟨b,0+1+1+i*1,none⟩=some (s64 (x.po.to i)):=by
 obtain⟨A,T,hA,hE⟩:=zqT x q c [];exact zkf fx hA (by rw [<- hE,Jk]) hi
theorem zsE {X:World} (fx:ExH X b x q c) {i:Nat} (hi:i<48):X.cell? ⟨b,0+148+1+i*1,none⟩=some (s64 (x.dt.to i)):=by
 obtain⟨A,T,hA,hE⟩:=zqU x q c [];exact zkf fx hA (by rw [<- hE,Jk]) hi
theorem zsL {X:World} (fx:ExH X b x q c) {i:Nat} (hi:i<48):X.cell? ⟨b,0+197+1+i*1,none⟩=some (s64 (x.ct.to i)):=by
 obtain⟨A,T,hA,hE⟩:=zqV x q c [];exact zkf fx hA (by rw [<- hE,Jk]) hi
theorem zrX {X:World} (fx:ExH X b x q c) {i:Nat} (hi:i<48):X.cell? ⟨b,0+246+1+i*1,none⟩=some (s64 (x.rm.to i)):=by
 obtain⟨A,T,hA,hE⟩:=zqR x q c [];exact zkf fx hA (by rw [<- hE,Jk]) hi
theorem n64 {a b:Nat} (h:(!decide ((a:Int)=(b:Int)))=true):¬ a=b:=fun e=>by
 rw [e] at h;simp at h
theorem y64 {a b:Nat} (h:(!decide ((a:Int)=(b:Int)))=false):a=b:=by
 have h:(a:Int)=(b:Int):=by simpa using h
 exact Int.ofNat.inj h
theorem n8 {a d:UInt8} (h:(!decide ((a.toNat:Int)=(d.toNat:Int)))=true):¬ a=d:=fun e2=>by
 rw [e2] at h;simp at h
theorem y8 {a d:UInt8} (h:(!decide ((a.toNat:Int)=(d.toNat:Int)))=false):a=d:=zbJ.1 (by simpa using h)
def wrG (x:ExD) (k:Nat):Nat:=(List.range k).foldl (fun s i=>if (evA x i).k=2 then s|||2^i else s) 0
theorem zj0 (x:ExD) (k:Nat):wrG x (k+1)=if (evA x k).k=2 then wrG x k|||2^k else wrG x k:=by
 unfold wrG;rw [Ku,Kt];rfl
theorem zj1 (x:ExD):∀ k,k<=64->wrG x k<2^64
 | 0,_=>by show 0<_;decide
 | k+1,h=>by
  rw [zj0]
  split
  ·exact Nat.or_lt_two_pow (zj1 x k (by omega)) (zaH (by omega))
  ·exact zj1 x k (by omega)
theorem zlp (fx:ExH w b x q c) (hv:ExV w x q) (hrn:x.rm.n=x.ev.length) (hok:okR x.rm=true) (hT:Tz64M w) :
  CB 44 #[At0 b] w (.bool (zcT x)):=by
 refine cofM 130 [At0 b] (.s .p (.s .p (.c .p .p))) Tryz.func44 ?_;have hn:=hv.n;obtain⟨W,hW⟩:=nm (zpr x);have hWG:W=wrG x x.ev.length:=by rw [hW];rfl
 have hW64:W<2^64:=by rw [hWG];exact zj1 x _ (by omega)
 refine⟨Unit,fun _=>⟨[(0,At0 b),(3,s64 W),(4,s64 0)],[]⟩,fun _ X=>Bw w X,?_,?_⟩
 ·refine⟨_,zac (zaa fx) (i:=0) rfl,?_⟩;refine⟨Nat,fun k=>⟨[(0,At0 b),(3,s64 (wrG x k)),(4,s64 0),(17,.slice q x.ev.length c),(18,i64 x.ev.length),(19,i64 (k:Nat))],[]⟩,fun k X=>k<=x.ev.length/\Bw w X,fun k=>x.ev.length-k,0,
   (cvE rfl rfl),⟨Jh _,Ja _ _⟩,?_⟩
  rintro k X ⟨hk,hbX⟩;dsimp only;refine biE (fun hc=>?_) fun hc=>?_
  ·have hc:(k:Int)<(x.ev.length:Int):=dT hc;have hkl:k<x.ev.length:=by omega
   obtain⟨bq,oq,hqe,hb,hat⟩:=zdO (hv.ev.below hbX) hkl;rw [zgr] at hat;obtain⟨e,he⟩:=nm (evA x k);have hs:=zj0 x k;rw [<- he] at hat hs;subst hqe;refine⟨k,rfl,hkl,evE.enc e,rfl,hat,hb,zak (X:=X) (v := .agg (evE.enc e).toArray) k158 rfl rfl (Je.2 fun u hu=>evE.one e u hu) fun Y hbY fY sY=>?_⟩;have fY:Y.heap[X.heap.size]?=some (.cells (evE.enc e).toArray 158 (0,0)):=fY;have hbY2:=zst hbX hbY;refine⟨u8 e.k,zac (zaa fY) (i:=1) rfl,biE (fun h=>?_) fun h=>?_⟩
   ·have h:e.k=2:=zbJ.1 (dT h);rw [Kc h] at hs;exact⟨by omega,((2^k:Nat):Int),zbO (e:=k) (by omega),((wrG x k|||2^k:Nat):Int),zb9 (zj1 x k (by omega)) (zaH (by omega)),nxI (by omega) ⟨k+1,⟨.cons rfl (.cons (by show _=some (s64 (wrG x (k+1)));rw [hs];rfl) (.cons rfl (.cons rfl (.cons rfl (.cons rfl .nil))))),rfl⟩,⟨hkl,hbY2⟩,zdc (by omega)⟩⟩
   ·have h:¬ e.k=2:=fun e2=>(dF h) (by rw [e2];rfl);rw [JZ h] at hs;exact nxI (by omega) ⟨k+1,⟨.cons rfl (.cons (by show _=some (s64 (wrG x (k+1)));rw [hs];rfl) (.cons rfl (.cons rfl (.cons rfl (.cons rfl .nil))))),rfl⟩,⟨hkl,hbY2⟩,zdc (by omega)⟩
  ·have hc:¬ (k:Int)<(x.ev.length:Int):=dF hc;obtain rfl:k=x.ev.length:=by omega
   exact⟨(),⟨.cons rfl (.cons (by show _=some (s64 W);rw [hWG];rfl) (.cons rfl .nil)),rfl⟩,hbX⟩
 rintro _ X hbX;refine⟨_,zac (zaa (zab hbX fx)) (i:=0) rfl,?_⟩;have hdep:zcT x=zjQ x W 0 x.ev 0:=by rw [hW];rfl
 refine⟨Nat×Nat,fun s=>⟨[(0,At0 b),(3,s64 W),(4,s64 s.2),(35,.slice q x.ev.length c),(36,i64 x.ev.length),(37,i64 (s.1:Nat))],[]⟩,fun s X=>s.1<=x.ev.length/\zjQ x W s.1 (x.ev.drop s.1) s.2=zcT x/\s.2<2^64/\Bw w X,fun s=>x.ev.length-s.1,(0,0),
  (cvE rfl rfl),⟨Jh _,hdep.symm,by decide,hbX⟩,?_⟩
 clear hbX;rintro⟨k,h⟩ X ⟨hk,hgo,hh,hbX⟩;dsimp only at hk hgo hh ⊢;refine biE (fun hc=>?_) fun hc=>?_
 ·have hc:(k:Int)<(x.ev.length:Int):=dT hc;have hkl:k<x.ev.length:=by omega
  have hk48:k<48:=by omega
  obtain⟨bq,oq,hqe,hb,hat⟩:=zdO (hv.ev.below hbX) hkl;rw [zgr] at hat;obtain⟨e,he⟩:=nm (evA x k);rw [<- he] at hat;have hdrp:x.ev.drop k=e::x.ev.drop (k+1):=by
   rw [<- JE hkl,he];unfold evA;rw [gDe,gE hkl];rfl
  rw [hdrp] at hgo;unfold zjQ at hgo;obtain⟨d,hd⟩:=nm (x.dt.to k);obtain⟨t,ht⟩:=nm (x.ct.to k);obtain⟨r,hr⟩:=nm (x.rm.to k);obtain⟨po,hpo⟩:=nm (x.po.to k);dsimp only at hgo;rw [<- hd,<- ht,<- hr,<- hpo] at hgo;have d64:d<2^64:=by rw [hd];exact hv.dt k hk48
  have t64:t<2^64:=by rw [ht];exact hv.ct k hk48
  have r64:r<2^64:=by rw [hr];exact hv.rm k hk48
  have p64:po<2^64:=by rw [hpo];exact hv.po k hk48
  have dt64:=Nat.or_lt_two_pow d64 t64;have dtr64:=Nat.or_lt_two_pow dt64 r64;have dr64:=Nat.or_lt_two_pow d64 r64;subst hqe;refine⟨k,rfl,hkl,evE.enc e,rfl,hat,hb,zak (X:=X) (v := .agg (evE.enc e).toArray) k158 rfl rfl (Je.2 fun u hu=>evE.one e u hu) fun Y hbY fY sY=>?_⟩;have fY:Y.heap[X.heap.size]?=some (.cells (evE.enc e).toArray 158 (0,0)):=fY;have hbY2:=zst hbX hbY;have dY:Bw Y Y.drew:=(Ja _ _).drew;have fxY:=hdr (zab hbY2 fx);have fYd:=hdr fY;have hbD:=zst hbY2 dY;have no:∀ {Z:World},Bw w Z->zcT x=false->(Ending.returned (.bool false)=Ending.returned (.bool (zcT x))/\Bw w Z):=fun {Z} hb h=>⟨rb h.symm,hb⟩;refine DrawE.ord [] [0,1,2,3,4,5,6,7,8,9,10,11,12,13,14,15,16,17,18,19,20,21,22,23] (by kernel_rfl) ⟨k,rfl,hk48,s64 d,by rw [hd];exact zsE fxY hk48,?_⟩;refine⟨k,rfl,hk48,s64 t,by rw [ht];exact zsL fxY hk48,?_⟩;refine⟨k,rfl,hk48,s64 r,by rw [hr];exact zrX fxY hk48,?_⟩;refine⟨_,zb9 d64 t64,_,zb9 dt64 r64,biE (fun h1=>?_) fun h1=>?_⟩
  ·have h1:d|||t|||r=0:=Int.ofNat.inj (dT h1);rw [Kc h1] at hgo;exact nxI (by omega) ⟨(k+1,h),(cvE rfl rfl),⟨hkl,hgo,hh,hbD⟩,zdc (by omega)⟩
  have h1:¬ d|||t|||r=0:=fun e2=>(dF h1) (by rw [e2];rfl);rw [JZ h1] at hgo;refine⟨u8 e.k,zac (zaa fYd) (i:=1) rfl,biE (fun h2=>?_) fun h2=>?_⟩
  ·have h2:¬ e.k=1:=n8 (d:=1) h2;rw [JZ fun h=>h2 h.1] at hgo;exact brT (brT (no hbD hgo.symm))
  have h2:e.k=1:=y8 (d:=1) h2;refine⟨_,zb9 d64 r64,_,zdd dr64 hW64,biE (fun h3=>?_) fun h3=>?_⟩
  ·have h3:¬ zcn (d|||r) W=0:=n64 (b:=0) h3;rw [JZ fun h=>h3 h.2.1] at hgo;exact brT (no hbD hgo.symm)
  have h3:zcn (d|||r) W=0:=y64 (b:=0) h3;refine⟨_,zb9 d64 t64,_,zb9 dt64 r64,k,rfl,hk48,s64 po,by rw [hpo];exact zr6 fxY hk48,?_⟩;refine⟨_,zdd dtr64 p64,biE (fun h4=>?_) fun h4=>?_⟩
  ·have h4:¬ zcn (d|||t|||r) po=0:=n64 (b:=0) h4;rw [JZ fun h=>h4 h.2.2] at hgo;exact no hbD hgo.symm
  have h4:zcn (d|||t|||r) po=0:=y64 (b:=0) h4;rw [Kc ⟨h2,h3,h4⟩] at hgo;refine cmo (zcF r64 (hT.below hbD)) ?_;rintro e2 Z ⟨rfl,hbZ⟩;have hbZ2:=zst hbD hbZ;by_cases hr0:r=0
  ·have e1:(els r).isEmpty=true:=by rw [hr0];rfl
   rw [e1];rw [Kc hr0] at hgo;exact brF (nxI (by omega) ⟨(k+1,h),(cvE rfl rfl),⟨hkl,hgo,hh,hbZ2⟩,zdc (by omega)⟩)
  rw [JZ hr0] at hgo;obtain⟨hhd,hem⟩:=zdu hr0 r64;rw [hhd,hem];have hmem:=znl hr0 r64;have hbit:r.testBit (ctz r)=true:=(zhO.1 hmem).2;have hvl:ctz r<x.ev.length:=by
   have:=(zjq hok hv.rm hk48 (by rw [<- hr];exact hbit)).1;rw [hrn] at this;omega
  obtain⟨v,hvd⟩:=nm (ctz r);rw [<- hvd] at hvl hgo ⊢;refine brT ?_;have fZ:=zab hbZ fYd;have dZ:Bw Z Z.drew:=(Ja _ _).drew;have hbZ3:=zst hbZ2 dZ;refine DrawE.ord [] [0,1,2,3,4,5,6,7,8,9,10,11,12,13,14,15,16,17,18,19,20,21,22,23] (by kernel_rfl) ⟨by omega,((2^v:Nat):Int),zbO (e:=v) (by omega),biE (fun h5=>?_) fun h5=>?_⟩
  ·have h5:¬ r=2^v:=n64 h5;rw [JZ fun h=>h5 h.1] at hgo;exact brT (brT (no hbZ3 hgo.symm))
  have h5:r=2^v:=y64 h5;refine⟨by omega,_,zhp (a:=h) (k:=v) (by omega),_,zbP (a:=h/2^v) (b:=1) (Nat.lt_of_le_of_lt (Nat.div_le_self _ _) hh) (by decide),?_⟩;rw [zjS]
  cases hb5:h.testBit v with
  | true =>
   rw [JZ fun h=>(by rw [hb5] at h;cases h.2.1)] at hgo;exact brT (brT (no hbZ3 hgo.symm))
  | false =>
   refine brF ?_;obtain⟨bq2,oq2,hqe2,hb2,hat2⟩:=zdO (hv.ev.below hbZ3) hvl;rw [zgr] at hat2;obtain⟨f,hf⟩:=nm (evA x v);rw [<- hf] at hat2 hgo;refine⟨_,zac (zaa (zab hbZ3 fx)) (i:=0) rfl,v,rfl,hvl,?_⟩;simp only [Jf,Addr.mk.injEq,and_true] at hqe2;rw [<- hqe2.1,<- hqe2.2] at hat2;refine⟨u8 f.l,by have:=zac hat2 (i:=2) (v:=u8 f.l) rfl;exact this,u8 e.l,zac (zaa (hdr fZ)) (i:=2) rfl,biE (fun h6=>?_) fun h6=>?_⟩
   ·have h6:¬ f.l=e.l:=n8 h6;rw [JZ fun h=>h6 h.2.2] at hgo;exact no hbZ3 hgo.symm
   have h6:f.l=e.l:=y8 h6;rw [Kc ⟨h5,hb5,h6⟩] at hgo;exact⟨_,zb9 hh r64,nxI (by omega) ⟨(k+1,h|||r),(cvE rfl rfl),⟨hkl,hgo,Nat.or_lt_two_pow hh r64,hbZ3⟩,zdc (by omega)⟩⟩
 ·have hc:¬ (k:Int)<(x.ev.length:Int):=dF hc;obtain rfl:k=x.ev.length:=by omega
  rw [List.drop_length] at hgo;exact⟨rb hgo,hbX⟩
end
theorem zkD {locs:Nat}:∀ (ev:List Ev) (i:Nat) (t:Int) (n:Nat),evGo locs i ev t n=true->∀ j,i+j<locs->j<ev.length->∃ v,ev.getD j ev0=⟨-1,2,UInt8.ofNat (i+j),v,0,0,0⟩
 | [],_,_,_,_,_,_,h=>by simp at h
 | e::ev,i,t,n,h,j,hj,hl=>by
  unfold evGo at h;rw [Kc (by omega:i<locs)] at h;by_cases he:e=⟨-1,2,UInt8.ofNat i,e.v,0,0,0⟩
  ·rw [Kc he] at h
   cases j with
   | zero=>exact⟨e.v,by rw [Nat.add_zero];exact he⟩
   | succ j =>
    obtain⟨v,hv⟩:=zkD ev (i+1) t n h j (by omega) (by simpa using hl);exact⟨v,by rw [show i+(j+1)=i+1+j by omega];exact hv⟩
  ·rw [JZ he] at h;cases h
theorem zoX (ev:List Ev):zcE ev<=ev.length:=by
 unfold zcE
 induction ev with
 | nil=>exact Jb _
 | cons e ev ih =>
  rw [List.takeWhile_cons]
  split
  ·rw [Jq,Jq];omega
  ·exact Jh _
theorem znY {x:ExD} {locs:Nat} (h:zbM x.ev locs=true) (hl:locs<=x.ev.length) (h6:locs<=6):∀ l,l<locs->zfN x l≠[]:=by
 intro l hll he;obtain⟨v,hv⟩:=zkD x.ev 0 0 0 h l (by omega) (by omega);have:l∈zfN x l:=by
  unfold zfN;rw [List.mem_filter,Jt];refine⟨by omega,?_⟩;have h2:evA x l=⟨-1,2,UInt8.ofNat (0+l),v,0,0,0⟩:=hv;rw [h2,bAT,dE,dE];refine⟨rfl,?_⟩;show (UInt8.ofNat (0+l)).toNat=l;rw [JL,UInt8.toNat_ofNat'];exact Nat.mod_eq_of_lt (by omega)
 rw [he] at this
 cases this
abbrev zfn (x:ExD):List RelD:=[x.po,x.rf,x.co,x.dt,x.ct,x.rm]
theorem zqY (x:ExD) (q:Option Addr) (c:Nat) {i:Nat} (hi:i<6):((exC x q c).drop (1+49*i)).take 49=relC ((zfn x).getD i x.po):=by
 have g:∀ {A T:List Value} {o:Nat} {r:RelD},A.length=o->exC x q c=A++(relC r++T)->((exC x q c).drop o).take 49=relC r:=fun {A T o r} hA hE=>by
  rw [hE,<- hA,List.drop_left,JT (by rw [zae];decide),Jy (by rw [zae];decide)]
 match i,hi with
 | 0,_=>obtain⟨A,T,hA,hE⟩:=zqT x q c [];exact g hA (by rw [<- hE,Jk];rfl)
 | 1,_=>obtain⟨A,T,hA,hE⟩:=zsw x q c [];exact g hA (by rw [<- hE,Jk];rfl)
 | 2,_=>obtain⟨A,T,hA,hE⟩:=zsz x q c [];exact g hA (by rw [<- hE,Jk];rfl)
 | 3,_=>obtain⟨A,T,hA,hE⟩:=zqU x q c [];exact g hA (by rw [<- hE,Jk];rfl)
 | 4,_=>obtain⟨A,T,hA,hE⟩:=zqV x q c [];exact g hA (by rw [<- hE,Jk];rfl)
 | 5,_=>obtain⟨A,T,hA,hE⟩:=zqR x q c [];exact g hA (by rw [<- hE,Jk];rfl)
theorem zqh (L:Nat) {k:Nat} (hk:k<6):((List.range 6).map (fun i=>Value.pointer (some ⟨L,0+(1+49*i),none⟩)))[k]?=some (.pointer (some ⟨L,0+(1+49*k),none⟩)):=by
 rw [Jm,List.getElem?_range hk];rfl
def okX (x:ExD) (r:RelD):Bool:=decide (r.n=x.ev.length)&&okR r
section
variable {c:Nat} {x:ExD} {q:Option Addr} {w:World}
theorem zfV {X:World} {b:Nat} (fx:ExH X b x q c) {i:Nat} (hi:i<6):zav X ⟨b,0+(1+49*i),none⟩ (relC ((zfn x).getD i x.po)):=by
 have h:=zaD (n:=1+49*i) (m:=49) (zaa fx);rw [show (exC x q c).toArray.toList=exC x q c from rfl,zqY x q c hi] at h;exact h
theorem ExV.rel (hv:ExV w x q) {i:Nat} (hi:i<6):WrdR ((zfn x).getD i x.po).to:=by
 match i,hi with
 | 0,_=>exact hv.po
 | 1,_=>exact hv.rf
 | 2,_=>exact hv.co
 | 3,_=>exact hv.dt
 | 4,_=>exact hv.ct
 | 5,_=>exact hv.rm
theorem zd5 (hv:ExV w x q) (hT:Tz64M w):CB 10 #[.agg (exC x q c).toArray] w (.bool (za0 x)):=by
 refine cofM 70 [.agg (exC x q c).toArray] (.c .p (.c .p (.c .p (.c .p (.c .p .p))))) Tryz.func10 ?_;obtain⟨L,hL⟩:=nm (w.heap.size);have hn:=hv.n;refine⟨Unit,fun _=>⟨[(1,At0 L)],[]⟩,fun _ X=>ExH X L x q c/\Bw w X,⟨(),⟨.cons (by rw [hL];rfl) .nil,rfl⟩,by rw [hL];exact hnew w _,(zba w _)⟩,?_⟩;rintro _ X ⟨fx,hbX⟩;obtain⟨n,hnn⟩:=nm (zcE x.ev);refine⟨Unit,fun _=>⟨[(1,At0 L)],[]⟩,fun _ Y=>X=Y,?_,?_⟩
 ·refine⟨_,zac (zaa fx) (i:=0) rfl,biE (fun h=>?_) fun _=>?_⟩
  ·have h:(48:Int)<(x.ev.length:Nat):=dT h;omega
  exact⟨(),(cvE rfl rfl),rfl⟩
 rintro _ _ rfl;refine⟨Unit,fun _=>⟨[(1,At0 L),(3,i64 (n:Nat))],[]⟩,fun _ Y=>Bw X Y,?_,?_⟩
 ·refine⟨_,zac (zaa fx) (i:=0) rfl,cmo (zln (hv.below hbX).ev (by omega)) ?_⟩;rintro e Y ⟨rfl,hbY⟩;rw [<- hnn];exact⟨(),(cvE rfl rfl),hbY⟩
 rintro _ Y hbY;have hvX:=hv.below hbX;have hnl:n<=x.ev.length:=by rw [hnn];exact zoX _
 have hbwY:=zst hbX hbY;have hr0:decide (x.ev.length<=48)=true:=Ka (by omega);have no:∀ {Z:World},Bw w Z->za0 x=false->(Ending.returned (.bool false)=Ending.returned (.bool (za0 x))/\Bw w Z):=fun {Z} hb h=>⟨rb h.symm,hb⟩;refine⟨Unit,fun _=>⟨[(1,At0 L),(3,i64 (n:Nat))],[]⟩,fun _ Z=>zbM x.ev n=true/\(1<=n/\n<=6)/\ExH Z L x q c/\Bw w Z,?_,?_⟩
 ·refine biE (fun h1=>?_) fun h1=>?_
  ·have h1:(n:Int)<1:=dT h1;refine brT (brT (no hbwY ?_));unfold za0;rw [<- hnn,Kb (by omega:¬ 1<=n),JJ,JY]
  have h1:¬ (n:Int)<1:=dF h1;refine biE (fun h2=>?_) fun h2=>?_
  ·have h2:(6:Int)<(n:Int):=dT h2;refine brT (no hbwY ?_);unfold za0;rw [<- hnn,Kb (by omega:¬ n<=6),JJ,JY,JY]
  have h2:¬ (6:Int)<(n:Int):=dF h2;have hn1:decide (1<=n)=true:=Ka (by omega);have hn6:decide (n<=6)=true:=Ka (by omega);have fY:=zab hbY fx;refine⟨_,zac (zaa fY) (i:=0) rfl,cmo (zh2 (locs:=n) (hvX.below hbY).ev (by omega) (by omega)) ?_⟩;rintro e Z ⟨rfl,hbZ⟩;have hbwZ:=zst hbwY hbZ;refine biE (fun h3=>?_) fun h3=>?_
  ·have h3:zbM x.ev n=false:=by
    have h3:(!zbM x.ev n)=true:=h3;simpa using h3
   refine no hbwZ ?_;unfold za0;rw [<- hnn,h3,JJ,JY,JY,JY]
  have h3:zbM x.ev n=true:=by
   have h3:(!zbM x.ev n)=false:=h3;simpa using h3
  exact⟨(),(cvE rfl rfl),h3,by omega,zab hbZ fY,hbwZ⟩
 rintro _ Z ⟨h3,⟨h1,h2⟩,fZ,hbwZ⟩;clear fx hbX hbY hbwY hvX;have hn1:decide (1<=n)=true:=Ka h1;have hn6:decide (n<=6)=true:=Ka h2;have hright:za0 x=(zdI x&&(zdJ x.po (poR x.ev)&&(zdH x&&(zdR x n&&zcT x)))):=by
  unfold za0;rw [<- hnn,hr0,hn1,hn6,h3];rfl
 have hrels:zdI x=(zfn x).all (okX x):=rfl;refine⟨Unit,fun _=>⟨[(1,At0 L),(3,i64 (n:Nat))],[]⟩,fun _ U=>zdI x=true/\ExH U L x q c/\Bw w U,?_,?_⟩
 ·refine⟨⟨by decide,by decide,rfl⟩,(List.range 6).map (fun i=>Value.pointer (some ⟨L,0+(1+49*i),none⟩)),rfl,?_⟩;obtain⟨g,hg⟩:=nm (Z.heap.size);refine⟨Nat,fun k=>⟨[(1,At0 L),(3,i64 (n:Nat)),(32,.slice (some ⟨g,0,none⟩) 6 6),(33,i64 6),(34,i64 (k:Nat))],[]⟩,fun k U=>k<=6/\((zfn x).take k).all (okX x)=true/\U.heap[g]?=some (.cells ((List.range 6).map (fun i=>Value.pointer (some ⟨L,0+(1+49*i),none⟩))).toArray 82 (0,0))/\ExH U L x q c/\Bw w U,fun k=>6-k,0,
   ⟨.cons rfl (.cons rfl (.cons (by rw [hg];rfl) (.cons rfl (.cons rfl .nil)))),rfl⟩,⟨Jh _,rfl,by rw [hg];exact hnew Z _,hold _ fZ,hbwZ.alloc hbwZ.size _⟩,?_⟩
  clear hg fZ hbwZ;rintro k U ⟨hk,hall,fg,fU,hbU⟩;dsimp only;refine biE (fun hc=>?_) fun hc=>?_
  ·have hc:(k:Int)<6:=dT hc;have hk6:k<6:=by omega
   obtain⟨r,hr⟩:=nm ((zfn x).getD k x.po);have hkl:k<(zfn x).length:=hk6;have htk:(zfn x).take (k+1)=(zfn x).take k++[r]:=by
    rw [tsg hkl,hr,gDe,gE hkl];rfl
   have hrw:WrdR r.to:=by rw [hr];exact hv.rel hk6
   have hcel:zav U ⟨L,0+(1+49*k),none⟩ (relC r):=by rw [hr];exact zfV fU hk6
   have dU:Bw U U.drew:=(Ja _ _).drew;have hrm:r∈zfn x:=by
    rw [hr,gDe,gE hkl];exact gM hkl
   have bad:∀ {Z:World},Bw w Z->okX x r=false->(Ending.returned (.bool false)=Ending.returned (.bool (za0 x))/\Bw w Z):=fun {Z} hb h=>no hb (by
    have:zdI x=false:=by
     rw [hrels,List.all_eq_false];exact⟨r,hrm,by rw [h];decide⟩
    rw [hright,this];rfl)
   refine⟨k,rfl,hk6,?_⟩;refine⟨.pointer (some ⟨L,0+(1+49*k),none⟩),by
    have:=zac (zaa fg) (i:=k*1) (v := .pointer (some ⟨L,0+(1+49*k),none⟩)) (by
     rw [Jp];exact zqh L hk6)
    exact this,?_⟩
   refine DrawE.ord [] [0,1,2,3,4,5,6,7,8,9,10,11,12,13,14] (by kernel_rfl) ⟨i64 r.n,zac (zar dU hcel) (i:=0) rfl,_,zac (zaa (hdr fU)) (i:=0) rfl,biE (fun h4=>?_) fun h4=>?_⟩
   ·have h4:(!decide (r.n=(x.ev.length:Int)))=true:=h4;have h4:¬ r.n=(x.ev.length:Int):=(by simpa using h4);exact brT (bad ((zst hbU dU)) (by unfold okX;rw [Kb h4];rfl))
   have h4:(!decide (r.n=(x.ev.length:Int)))=false:=h4;have h4:r.n=(x.ev.length:Int):=by simpa using h4
   refine⟨relC r,zae _,zar dU hcel,hlt (hdr fU),cmo (zaV hrw) ?_⟩;rintro e V ⟨rfl,hbV⟩;refine⟨hbV,?_⟩;have hbV2:=hbU.trans ((dU.trans hbV).mono hbU.size);refine biE (fun h5=>?_) fun h5=>?_
   ·have h5:okR r=false:=by
     have h5:(!okR r)=true:=h5;simpa using h5
    exact bad hbV2 (by unfold okX;rw [h5,JY])
   have h5:okR r=true:=by
    have h5:(!okR r)=false:=h5;simpa using h5
   refine nxI (by omega) ⟨k+1,(cvE rfl rfl),⟨hk6,?_,zab (dU.trans hbV) fg,zab (dU.trans hbV) fU,hbV2⟩,zdc (by omega)⟩;rw [htk,List.all_append,hall];show (true&&(okX x r&&true))=true;unfold okX;rw [Ka h4,h5];rfl
  ·have hc:¬ (k:Int)<6:=dF hc;obtain rfl:k=6:=by omega
   exact⟨(),(cvE rfl rfl),hall,fU,hbU⟩
 rintro _ U ⟨hrr,fU,hbU⟩;rw [hrr,Js] at hright;have hall:∀ r∈zfn x,r.n=x.ev.length/\okR r=true:=fun r hr=>by
  rw [hrels,Je] at hrr;have:=hrr r hr;unfold okX at this;rw [bAT,dE] at this;exact this
 have hrf:=hall x.rf (by simp);have hrm:=hall x.rm (by simp);have hvU:=hv.below hbU;have dU:Bw U U.drew:=(Ja _ _).drew;have hvD:=hvU.below dU;have hbD:=zst hbU dU;refine DrawE.ord [] [0,1,2,3,4,5,6,7,8,9,10,11,12,13,14,15,16] (by kernel_rfl) ⟨relC x.po,zae _,zfV (hdr fU) (i:=0) (by decide),hlt (hdr fU),_,zac (zaa (hdr fU)) (i:=0) rfl,cmo (zeb hvD.ev (by omega)) ?_⟩;rintro e V ⟨rfl,hbV⟩;refine⟨hbV,?_⟩;have hbV2:=zst hbD hbV;have fV:=zab hbV (hdr fU);have hvV:=hvD.below hbV;refine⟨_,fun w=>zh3 _ _ x.po (poR x.ev) w,biE (fun h4=>?_) fun h4=>?_⟩
 ·have h4:zdJ x.po (poR x.ev)=true:=h4;rw [h4,Js] at hright;refine cmo (zmh fV hvV hrf.1 hrf.2 (hT.below hbV2)) ?_;rintro e T ⟨rfl,hbT⟩;refine⟨hbT,?_⟩;have hbT2:=zst hbV2 hbT;refine biE (fun h5=>?_) fun h5=>?_
  ·have h5:zdH x=true:=h5;rw [h5,Js] at hright;refine cmo (znq (locs:=n) (zab hbT fV) (hvV.below hbT) (by omega) (znY h3 hnl (by omega)) (hT.below hbT2)) ?_;rintro e R ⟨rfl,hbR⟩;refine⟨hbR,?_⟩;have hbR2:=zst hbT2 hbR;refine biE (fun h6=>?_) fun h6=>?_
   ·have h6:zdR x n=true:=h6;rw [h6,Js] at hright;refine cmo (zlp (zab hbR (zab hbT fV)) ((hvV.below hbT).below hbR) hrm.1 hrm.2 (hT.below hbR2)) ?_;rintro e Q ⟨rfl,hbQ⟩;exact⟨hbQ,rb hright.symm,(zst hbR2 hbQ)⟩
   ·have h6:zdR x n=false:=h6;rw [h6,JJ] at hright;exact⟨rb hright.symm,hbR2⟩
  ·have h5:zdH x=false:=h5;rw [h5,JJ] at hright;exact brF ⟨rb hright.symm,hbT2⟩
 ·have h4:zdJ x.po (poR x.ev)=false:=h4;rw [h4,JJ] at hright;exact brF (brF ⟨rb hright.symm,hbV2⟩)
end
theorem zfK {a b:RelD} {f:Nat->Nat} (h:a.n=b.n->okR a=true->okR b=true->∀ i,i<48->f i<2^64):WrdR (comb a b f).1.to:=by
 unfold comb
 split
 ·rename_i hc;rw [bAT,bAT,dE] at hc;exact zdS fun i _ hi=>h hc.1 hc.2.1 hc.2.2 i hi
 ·exact fun i _=>(by show 0<2^64;decide)
theorem zlN {a b:RelD} (ha:WrdR a.to) (hb:WrdR b.to):WrdR (zbd a b).1.to:=zfK fun _ _ _ i hi=>Nat.or_lt_two_pow (ha i hi) (hb i hi)
theorem zpe {a b:RelD} (ha:WrdR a.to):WrdR (zi7 a b).1.to:=zfK fun _ _ _ i hi=>Nat.lt_of_le_of_lt Nat.and_le_left (ha i hi)
theorem zj4 {a b:RelD} (ha:WrdR a.to) (hb:WrdR b.to):WrdR (zfl a b).1.to:=zfK fun _ h _ i hi=>by
 unfold zcQ;exact zhV hb _ _ (by decide) fun j hj=>(zhB h ha hi j hj).2
theorem zmQ {a b:RelD} (ha:WrdR a.to):WrdR (zff a b).1.to:=zfK fun _ _ _ i hi=>by
 rw [zhT];exact zfE (ha i hi)
theorem zer (k:Nat) (p:Nat->Bool):rowP (k+1) p=if p k=true then rowP k p|||2^k else rowP k p:=by
 unfold rowP;rw [Ku,Kt];rfl
theorem zfT (p:Nat->Bool):∀ k,k<=64->rowP k p<2^64
 | 0,_=>by show 0<_;decide
 | k+1,h=>by
  rw [zer]
  split
  ·exact Nat.or_lt_two_pow (zfT p k (by omega)) (zaH (by omega))
  ·exact zfT p k (by omega)
theorem zfB {n:Nat} {p:Nat->Nat->Bool} (hn:n<=64):WrdR (zd7 n p).to:=zdS fun i _ _=>zfT _ n hn
def zce (n:Nat) (p:Nat->Nat->Bool) (a k:Nat):Nat->Nat:=fun i=>if i<a then rowP n (p i) else if i=a then rowP k (p a) else 0
theorem zke (n:Nat) (p:Nat->Nat->Bool) (a k:Nat):zce n p a k a=rowP k (p a):=by
 unfold zce;rw [JZ (by omega),Kc rfl]
theorem zmd {n:Nat} {p:Nat->Nat->Bool} {a k:Nat} (h:p a k=true):upd (zce n p a k) a (zce n p a k a|||2^k)=zce n p a (k+1):=by
 funext i;by_cases hi:i=a
 ·subst hi;rw [zbn,zke,zke,zer,Kc h]
 ·rw [zcL _ _ hi];unfold zce;rw [JZ hi,JZ hi]
theorem zk7 {n:Nat} {p:Nat->Nat->Bool} {a k:Nat} (h:p a k=false):zce n p a k=zce n p a (k+1):=by
 have e:rowP (k+1) (p a)=rowP k (p a):=by rw [zer,JZ (by rw [h];decide)]
 funext i;unfold zce;rw [e]
theorem zk8 (n:Nat) (p:Nat->Nat->Bool) (a:Nat):zce n p a n=zce n p (a+1) 0:=by
 funext i;unfold zce;by_cases h1:i<a
 ·rw [Kc h1,Kc (by omega)]
 ·by_cases h2:i=a
  ·subst h2;rw [JZ h1,Kc rfl,Kc (by omega)]
  ·rw [JZ h1,JZ h2,JZ (by omega)]
   split
   ·rfl
   ·rfl
theorem zk6 (n:Nat) (p:Nat->Nat->Bool):zce n p 0 0=fun _=>0:=by
 funext i;unfold zce;rw [JZ (by omega)]
 split <;> rfl
theorem zme (n:Nat) (p:Nat->Nat->Bool):zce n p n 0=(zd7 n p).to:=by
 funext i;unfold zce zd7 zbD;show _=if i<n then _ else 0
 by_cases h:i<n
 ·rw [Kc h,Kc h]
 ·rw [JZ h,JZ h]
  split <;> rfl
theorem zmc {n:Nat} {p:Nat->Nat->Bool} {a k:Nat} (hn:n<=64) (hk:k<=64):WrdR (zce n p a k):=fun i _=>by
 unfold zce
 split
 ·exact zfT _ n hn
 ·split
  ·exact zfT _ k hk
  ·decide
theorem zrn {s b:Nat}:decide ((((s/2^b&&&1:Nat):Nat):Int)=1)=s.testBit b:=by
 rw [zjS]
 cases s.testBit b <;> rfl
section
variable {w:World}
theorem ziZ {b o a d:Nat} {r:RelD} (hc:∀ i,i<48->w.cell? ⟨b,o+1+i*1,none⟩=some (s64 (r.to i))) (hr:WrdR r.to) (ha:a<48) (hd:d<48) :
  Calls Tryz.prog 117 #[.pointer (some ⟨b,o,none⟩),i64 (a:Nat),i64 (d:Nat)] w fun e w'=>e = .returned (.bool (hasM r a d))/\w=w':=by
 refine cofE 17 [.pointer (some ⟨b,o,none⟩),i64 (a:Nat),i64 (d:Nat)] Tryz.func117 ?_;exact⟨a,rfl,ha,_,hc a ha,by omega,_,zhp (a:=r.to a) (k:=d) (by omega),_,zbP (a:=r.to a/2^d) (b:=1) (Nat.lt_of_le_of_lt (Nat.div_le_self _ _) (hr a ha)) (by decide),rb zrn,rfl⟩
theorem zkP {e:Ev}:Calls Tryz.prog 166 #[.agg (evE.enc e).toArray] w fun r w'=>r = .returned (.bool (decide (e.k=1)||decide (e.k=2)))/\Bw w w':=by
 refine cofE 11 [.agg (evE.enc e).toArray] Tryz.func166 ?_;have f:=hnew w (.cells (evE.enc e).toArray 158);have hb:Bw w (w.alloc (.cells (evE.enc e).toArray 158)):=zba w _;refine⟨u8 e.k,zac (zaa f) (i:=1) rfl,biE (fun h=>?_) fun h=>?_⟩
 ·have h:e.k=1:=zbJ.1 (dT h);exact⟨rb (by rw [Ka h];rfl),hb⟩
 ·have h:¬ e.k=1:=fun e2=>(dF h) (by rw [e2];rfl);refine⟨u8 e.k,zac (zaa f) (i:=1) rfl,rb ?_,hb⟩;rw [Kb h,Bool.false_or];exact Kd.2 (zbJ (x:=e.k) (y:=2))
theorem zmu {n g:Nat} {caps:Array Value} {p:Nat->Nat->Bool} (hn:n<=48) (hok:zbN (sg 0) g=true)
  (hp:∀ a d X,a<n->d<n->Bw w X->Calls Tryz.prog g (i64 (a:Nat)::i64 (d:Nat)::caps.toList).toArray X fun e Y=>e = .returned (.bool (p a d))/\Bw X Y) :
  CB 115 #[i64 n,.func (.func g) #[] caps] w (.agg (relC (zd7 n p)).toArray):=by
 refine cofM 34 [i64 n,.func (.func g) #[] caps] (.c .p (.c .p (.c .p .p))) Tryz.func115 ?_;obtain⟨L,hL⟩:=nm (w.heap.size);refine⟨Unit,fun _=>⟨[(0,i64 n),(1,.func (.func g) #[] caps),(4,At0 L)],[]⟩,fun _ X=>RelH X L zat/\X.heap.size=L+1/\Bw w X,?_,?_⟩
 ·exact⟨(),⟨.cons rfl (.cons rfl (.cons (by rw [hL];rfl) .nil)),rfl⟩,by rw [hL];exact hnew w _,by rw [hL];exact wz _ _,(zba w _)⟩
 rintro _ X ⟨f0,sX,hbX⟩;refine⟨Unit,fun _=>⟨[(0,i64 n),(1,.func (.func g) #[] caps),(4,At0 L),(5,At0 (L+1))],[]⟩,fun _ Y=>RelH Y (L+1) ⟨n,zce n p 0 0⟩/\Y.heap.size=L+2/\Bw X Y,?_,?_⟩
 ·refine⟨relC ⟨n,fun _=>0⟩,by kernel_rfl,?_⟩;refine zak (X:=X) (v := .agg (relC ⟨n,fun _=>0⟩).toArray) k30 (zae _) (by kernel_rfl) (zaw _) fun Z hbZ fZ sZ=>?_;rw [sX] at fZ sZ;exact⟨(),⟨.cons rfl (.cons rfl (.cons rfl (.cons (by rw [<- sX];rfl) .nil))),rfl⟩,by rw [zk6];exact fZ,sZ,hbZ⟩
 rintro _ Y ⟨f1,sY,hbY⟩;have hbwY:=zst hbX hbY;have f0:=zab hbY f0;refine⟨Unit,fun _=>⟨[(4,At0 L),(5,At0 (L+1))],[]⟩,fun _ Z=>RelH Z (L+1) (zd7 n p)/\RelH Z L zat/\Bw w Z,?_,?_⟩
 ·refine⟨Nat,fun a=>⟨[(0,i64 n),(1,.func (.func g) #[] caps),(4,At0 L),(5,At0 (L+1)),(10,i64 n),(11,i64 (a:Nat))],[]⟩,fun a Z=>a<=n/\RelH Z (L+1) ⟨n,zce n p a 0⟩/\RelH Z L zat/\Bw w Z,fun a=>n-a,0,
   (cvE rfl rfl),⟨Jh _,f1,f0,hbwY⟩,?_⟩
  rintro a Z ⟨ha,f1,f0,hbZ⟩;dsimp only at f1 ⊢;refine biE (fun hc=>?_) fun hc=>?_
  ·have hc:(a:Int)<(n:Int):=dT hc;have han:a<n:=by omega
   refine⟨Nat,fun d=>⟨[(0,i64 n),(1,.func (.func g) #[] caps),(4,At0 L),(5,At0 (L+1)),(6,i64 (a:Nat)),(10,i64 n),(11,i64 (a:Nat)),(14,i64 n),(15,i64 (d:Nat))],[]⟩,fun d V=>d<=n/\RelH V (L+1) ⟨n,zce n p a d⟩/\RelH V L zat/\Bw w V,fun d=>n-d,0,
    (cvE rfl rfl),⟨Jh _,f1,f0,hbZ⟩,?_⟩
   clear f1 f0 hbZ;rintro d V ⟨hd,f1,f0,hbV⟩;dsimp only at f1 ⊢;refine biE (fun hc=>?_) fun hc=>?_
   ·have hc:(d:Int)<(n:Int):=dT hc;have hdn:d<n:=(by omega);refine zkI hok (hp a d V han hdn hbV) ?_;rintro e U ⟨rfl,hbU⟩;refine⟨_,rfl,?_⟩;have f1:=zab hbU f1;have f0:=zab hbU f0;have hbU2:=zst hbV hbU;have sU:=hbU2.size;refine biE (fun h=>?_) fun h=>?_
    ·have h:p a d=true:=h;have hR:RelAt U (L+1) 0 30 [] [] ⟨n,zce n p a d⟩:=⟨rfl,by simpa using f1⟩;have dU:Bw U U.drew:=(Ja _ _).drew;have ha48:a<48:=(by omega);refine DrawE.ord [9] [0,1,2,3,4,5,6,7,8,9] (by kernel_rfl) ⟨a,rfl,ha48,s64 (zce n p a d a),(hR.same (Y:=U.drew) rfl).cell ha48,by omega,_,zbO (e:=d) (by omega),_,zb9 (zmc (by omega) (by omega) a ha48) (zaH (by omega)),a,rfl,ha48,zaq k27 (hR.same (Y:=U.drew) rfl).cells (o:=0+1+a*1) (v:=s64 (zce n p a d a|||2^d)) rfl rfl (by rw [hR.len];omega) rfl fun S fS gS sS=>?_⟩;rw [hR.set ha48] at fS;have e5:upd (zce n p a d) a (zce n p a d a|||2^d)=zce n p a (d+1):=zmd h;dsimp only at fS;rw [e5] at fS;have gS2:U.grownBy S (some (L+1)):=zaf (zag dU) gS;exact nxI (by omega) ⟨d+1,(cvE rfl rfl),⟨hdn,by simpa using fS,(gS2.block L (hlt f0) (by simp)).trans f0,hbU2.trans (zan gS2 sU (by omega))⟩,zdc (by omega)⟩
    ·have h:p a d=false:=h;exact nxI (by omega) ⟨d+1,(cvE rfl rfl),⟨hdn,by rw [<- zk7 h];exact f1,f0,hbU2⟩,zdc (by omega)⟩
   ·have hc:¬ (d:Int)<(n:Int):=dF hc;obtain rfl:d=n:=(by omega);exact nxI (by omega) ⟨a+1,(cvE rfl rfl),⟨han,by rw [<- zk8];exact f1,f0,hbV⟩,zdc (by omega)⟩
  ·have hc:¬ (a:Int)<(n:Int):=dF hc;obtain rfl:a=n:=by omega
   rw [zme] at f1;exact⟨(),(cvE rfl rfl),f1,f0,hbZ⟩
 rintro _ Z ⟨f1,f0,hbZ⟩;exact⟨relC (zd7 n p),zae _,zaa f1,hlt f1,zao (v := .agg (relC (zd7 n p)).toArray) k30 f0 (zae _) (zae _) (zaw _) ⟨relC (zd7 n p),zae _,zaa (zal f0),rfl,zah hbZ (by omega) _⟩⟩
end
section
variable {w:World} {b c:Nat} {x:ExD} {q:Option Addr}
theorem zcq {X:World} (fx:zav X ⟨b,0,none⟩ (exC x q c)):X.cell? ⟨b,0+0,none⟩=some (.slice q x.ev.length c):=zac fx (i:=0) rfl
theorem zpP (x:ExD) (i:Nat):(decide ((evA x i).k=1)||decide ((evA x i).k=2))=accA x i:=rfl
theorem zhc {X:World} (hv:SlR evE X q x.ev) {a:Nat} (ha:a<x.ev.length):∃ bq oq,q=some ⟨bq,oq,none⟩/\bq<X.heap.size/\zav X ⟨bq,oq+a*7,none⟩ (evE.enc (evA x a)):=zdO hv ha
theorem zrW {a d:Nat} (fx:zav w ⟨b,0,none⟩ (exC x q c)) (hv:SlR evE w q x.ev) (ha:a<x.ev.length) (hd:d<x.ev.length) :
  CB 118 #[At0 b,i64 (a:Nat),i64 (d:Nat)] w (.bool (zjf x a d)):=by
 refine cofM 44 [At0 b,i64 (a:Nat),i64 (d:Nat)] (.c .p .p) Tryz.func118 ?_;refine⟨Unit,fun _=>⟨[(0,At0 b),(1,i64 (a:Nat)),(2,i64 (d:Nat))],[]⟩,fun _ X=>w=X,⟨(),(cvE rfl rfl),rfl⟩,?_⟩;rintro _ _ rfl;obtain⟨bq,oq,hqe,hb,hat⟩:=zhc hv ha;obtain⟨bq2,oq2,hqe2,hb2,hat2⟩:=zhc hv hd;rw [hqe] at hqe2;simp only [Jf,Addr.mk.injEq,and_true] at hqe2;rw [<- hqe2.1,<- hqe2.2] at hat2;subst hqe;have dw:Bw w w.drew:=(Ja _ _).drew;refine DrawE.ord [] [0,1,2,3,4,5,6,7,8,9,10,11,12,13,14,15,16,17,18,19,20,21,22,23,24,25,26,27,28,29,30,31,32,33,34,35,36,37] (by kernel_rfl) ⟨_,zcq (zar dw fx),a,rfl,ha,evE.enc (evA x a),rfl,zar dw hat,nL hb dw.size,cmo zkP ?_⟩;rintro e X ⟨rfl,hbX⟩;refine⟨hbX,?_⟩;have bX:=dw.trans hbX;rw [zpP];refine biE (fun h1=>?_) fun h1=>?_
 ·have h1:accA x a=true:=h1;refine⟨_,zcq (zar bX fx),d,rfl,hd,evE.enc (evA x d),rfl,zar bX hat2,nL hb bX.size,cmo zkP ?_⟩;rintro e Y ⟨rfl,hbY⟩;refine⟨hbY,?_⟩;have bY:=zst bX hbY;rw [zpP];refine biE (fun h2=>?_) fun h2=>?_
  ·have h2:accA x d=true:=h2;refine⟨_,zcq (zar bY fx),a,rfl,ha,u8 (evA x a).l,by have:=zac (zar bY hat) (i:=2) (v:=u8 (evA x a).l) rfl;exact this,_,zcq (zar bY fx),d,rfl,hd,u8 (evA x d).l,by have:=zac (zar bY hat2) (i:=2) (v:=u8 (evA x d).l) rfl;exact this,rb ?_,bY⟩;unfold zjf;rw [h1,h2,Js,Js];exact Kd.2 zbJ
  ·have h2:accA x d=false:=h2;refine⟨rb ?_,bY⟩;unfold zjf;rw [h1,h2];rfl
 ·have h1:accA x a=false:=h1;refine brF ⟨rb ?_,bX⟩;unfold zjf;rw [h1];rfl
end
structure ScnV (X:World) (b:Nat) (x:ExD) (q:Option Addr) (c:Nat) (f l s:RelD):Prop where
 h:X.heap[b]?=some (.cells (exC x q c++(relC f++(relC l++relC s))).toArray 263 (0,0))
 v:ExV X x q
 wf:WrdR f.to
 wl:WrdR l.to
 ws:WrdR s.to
section
variable {w:World} {b c:Nat} {x:ExD} {q:Option Addr} {f l s:RelD}
theorem ScnV.below {X Y:World} (h:ScnV X b x q c f l s) (hb:Bw X Y):ScnV Y b x q c f l s:=⟨zab hb h.h,h.v.below hb,h.wf,h.wl,h.ws⟩
theorem ScnV.cells {X:World} (h:ScnV X b x q c f l s):zav X ⟨b,0,none⟩ (exC x q c):=by
 have:=zaD (n:=0) (m:=333) (zaa h.h);have e:((exC x q c++(relC f++(relC l++relC s))).toArray.toList.drop 0).take 333=exC x q c:=by
  show (exC x q c++_).take 333=_;rw [JT (by rw [zay];decide),Jy (by rw [zay];decide)]
 rw [e] at this;exact this
theorem ScnV.at {X:World} {o:Nat} {r:RelD} (h:ScnV X b x q c f l s) (hr:∃ A T,A.length=o/\exC x q c++(relC f++(relC l++relC s))=A++(relC r++T)):∀ i,i<48->X.cell? ⟨b,o+1+i*1,none⟩=some (s64 (r.to i)):=by
 intro i hi;obtain⟨A,T,hA,hE⟩:=hr;have:(exC x q c++(relC f++(relC l++relC s)))[o+1+i*1]?=some (s64 (r.to i)):=by
  rw [hE,Jp,Kn,zbt hA,Kq (by rw [zae];omega),zhx r hi]
 have h2:=zac (zaa h.h) this;rw [JL] at h2;exact h2
end
abbrev orG (l:List Nat):Nat:=l.foldl (fun s i=>s|||2^i) 0
theorem zoB (l:List Nat) (i:Nat):orG (l++[i])=orG l|||2^i:=by
 unfold orG;rw [Kt];rfl
theorem zmz:∀ (l:List Nat) (s:Nat),s<2^64->(∀ i∈l,i<64)->l.foldl (fun s i=>s|||2^i) s<2^64
 | [],s,h,_=>h
 | i::l,s,h,hl=>zmz l (s|||2^i) (Nat.or_lt_two_pow h (zaH (hl i Jv))) fun j hj=>hl j (JB _ hj)
theorem zpw {l:List Nat} (hl:∀ i∈l,i<64):orG l<2^64:=zmz l 0 (by decide) hl
section
variable {w:World}
theorem Of_c {p:Option Addr} {cp:Nat} {l:List Nat} (hl:SlR natE w p l) (h64:∀ i∈l,i<64) (hn:l.length<=1000):Calls Tryz.prog 150 #[.slice p l.length cp] w fun e w'=>e = .returned (.tuple #[s64 (orG l),i64 0])/\w=w':=by
 refine cofE 25 [.slice p l.length cp] Tryz.func150 ?_;refine⟨Nat,fun k=>⟨[(4,s64 (orG (l.take k))),(7,.slice p l.length cp),(8,i64 l.length),(9,i64 (k:Nat))],[]⟩,fun k X=>k<=l.length/\w=X,fun k=>l.length-k,0,(cvE rfl rfl),⟨Jh _,rfl⟩,?_⟩;rintro k _ ⟨hk,rfl⟩;dsimp only;refine biE (fun hc=>?_) fun hc=>?_
 ·have hc:(k:Int)<(l.length:Int):=dT hc;have hkl:k<l.length:=by omega
  obtain⟨b,o,rfl,hb,hat⟩:=hl.at hkl;obtain⟨t,ht⟩:∃ t,l[k]=t:=⟨_,rfl⟩;have ht64:=h64 t (by rw [<- ht];exact gM hkl);have htk:orG (l.take (k+1))=orG (l.take k)|||2^t:=by rw [tsg hkl,ht,zoB]
  refine⟨k,rfl,hkl,i64 t,by have:=zac (hat k hkl) (i:=0) (v:=i64 t) (by rw [ht];rfl);exact this,biE (fun h=>?_) fun _=>?_⟩
  ·have h:(t:Int)<0:=dT h;omega
  refine biE (fun h=>?_) fun _=>?_
  ·have h:(64:Int)<=(t:Nat):=dT h;omega
  exact⟨by omega,_,zbO (e:=t) (by omega),_,zb9 (zpw fun i hi=>h64 i (List.mem_of_mem_take hi)) (zaH ht64),nxI (by omega) ⟨k+1,⟨.cons (by show _=some (s64 (orG (l.take (k+1))));rw [htk];rfl) (.cons rfl (.cons rfl (.cons rfl .nil))),rfl⟩,⟨hkl,rfl⟩,zdc (by omega)⟩⟩
 ·have hc:¬ (k:Int)<(l.length:Int):=dF hc;obtain rfl:k=l.length:=by omega
  rw [JF];exact⟨rfl,rfl⟩
end
section
variable {b c:Nat} {x:ExD} {q:Option Addr} {w:World}
theorem zbU {X:World} (fx:ExH X b x q c) {i:Nat} (hi:i<6) {o:Nat} (ho:o=1+49*i):zav X ⟨b,0+o,none⟩ (relC ((zfn x).getD i x.po)):=by
 rw [ho];exact zfV fx hi
theorem zpF (hv:ExV w x q) (hT:Tz64M w):WrdR (zbB x.rf).to/\WrdR (frM x).to:=by
 have h1:WrdR (zbB x.rf).to:=by
  unfold zbB
  split
  ·rename_i h;intro i hi;refine Nat.lt_of_not_le fun hge=>?_;obtain⟨j,hj1,hj2⟩:=Nat.exists_ge_and_testBit_of_ge_two_pow hge;rw [show ((⟨x.rf.n,zc0 x.rf.to x.rf.n.toNat⟩:RelD).to i)=zc0 x.rf.to x.rf.n.toNat i from rfl,zgA,bAT,dE] at hj2;have h48:=(zaX h).2.1;omega
  ·exact fun i _=>(by show 0<2^64;decide)
 exact⟨h1,zj4 h1 hv.co⟩
theorem fr_c (fx:ExH w b x q c) (hv:ExV w x q) (hT:Tz64M w):CB 114 #[At0 b] w (.agg (relC (frM x)).toArray):=by
 refine cofM 19 [At0 b] (.c .p (.c .p .p)) Tryz.func114 ?_;obtain⟨L,hL⟩:=nm (w.heap.size);obtain⟨wb,wf⟩:=zpF hv hT;refine⟨Unit,fun _=>⟨[(0,At0 b),(2,At0 L)],[]⟩,fun _ X=>RelH X L zat/\Bw w X,⟨(),⟨.cons rfl (.cons (by rw [hL];rfl) .nil),rfl⟩,by rw [hL];exact hnew w _,(zba w _)⟩,?_⟩;rintro _ X ⟨f0,hbX⟩;refine⟨Nat,fun F=>⟨[(2,At0 L),(3,At0 F)],[]⟩,fun F Z=>RelH Z F (frM x)/\RelH Z L zat/\Bw w Z,?_,?_⟩
 ·have dX:Bw X X.drew:=(Ja _ _).drew;have fX:=hdr (zab hbX fx);have hba:∀ (A:World) (o:Obj),Bw A (A.alloc o):=fun A o=>(zba _ _);have put:∀ (W:World) (b3:Nat),Bw X W->RelH W b3 zat->X.heap.size<=b3->∀ {K:World->Prop},(∀ V,(RelH V b3 (frM x)/\RelH V L zat/\Bw w V)->K V) ->
    SatR ((storeVar 30 ⟨b3,0,none⟩ (.agg (relC (frM x)).toArray)).run Tryz.prog W) fun _ w'=>K w':=by
   intro W b3 hW f3 g3 K k;refine zao (v := .agg (relC (frM x)).toArray) k30 f3 (zae _) (zae _) (zaw _) ?_;have hL2:=hlt f0;exact k _ ⟨zal f3,(zam (by omega)).trans (zab hW f0),zah ((zst hbX hW)) (by have:=hbX.size;omega) _⟩
  refine DrawE.treeQ [14] (.op 0 (.op 1 (.op 2 (.op 3 (.op 5 (.op 6 (.op 7 (.op 8 (.alt (.op 13 (.op 4 (.op 9 (.op 10 (.op 11 (.op 12 (.op 14 (.op 15 (.nil))))))))) (.op 4 (.alt (.op 13 (.op 9 (.op 10 (.op 11 (.op 12 (.op 14 (.op 15 (.nil)))))))) (.op 9 (.op 10 (.op 11 (.op 12 (.op 13 (.op 14 (.op 15 (.nil))))))))))))))))))) (by kernel_rfl) ⟨relC x.rf,zae _,zbU fX (i:=1) (by decide) rfl,hlt fX,relC x.co,zae _,zbU fX (i:=2) (by decide) rfl,hlt fX,Jn ?_ ?_⟩
  ·refine⟨hba _ _,?_⟩;have b1:=dX.alloc (Jb _) (.cells (relC zat).toArray 30);refine cmo (zhl hv.rf (hT.below ((zst hbX b1)))) ?_;rintro e Y ⟨rfl,hbY,_⟩;refine⟨hbY,?_⟩;have b2:=zst b1 hbY;refine cmo (zkR wb hv.co (hT.below ((zst hbX b2)))) ?_;rintro e Z ⟨rfl,hbZ⟩;exact⟨hbZ,put Z X.heap.size ((zst b2 hbZ)) (zab hbZ (zab hbY (hnew X.drew _))) (Jb _) (fun V hV=>⟨X.heap.size,(cvE rfl rfl),hV⟩)⟩
  refine cmo (zhl hv.rf (hT.below ((zst hbX dX)))) ?_;rintro e Y ⟨rfl,hbY,_⟩;refine⟨hbY,?_⟩;have b1:=zst dX hbY;refine Jn ?_ ?_
  ·refine⟨hba _ _,?_⟩;have b2:=b1.alloc b1.size (.cells (relC zat).toArray 30);refine cmo (zkR wb hv.co (hT.below ((zst hbX b2)))) ?_;rintro e Z ⟨rfl,hbZ⟩;exact⟨hbZ,put Z Y.heap.size ((zst b2 hbZ)) (zab hbZ (hnew Y _)) b1.size (fun V hV=>⟨Y.heap.size,(cvE rfl rfl),hV⟩)⟩
  ·refine cmo (zkR wb hv.co (hT.below ((zst hbX b1)))) ?_;rintro e Z ⟨rfl,hbZ⟩;refine⟨hbZ,?_⟩;have b2:=zst b1 hbZ;exact⟨hba _ _,put _ Z.heap.size (b2.alloc b2.size _) (hnew Z _) b2.size (fun V hV=>⟨Z.heap.size,(cvE rfl rfl),hV⟩)⟩
 rintro F Z ⟨f1,f0,hbZ⟩;exact⟨relC (frM x),zae _,zaa f1,hlt f1,zao (v := .agg (relC (frM x)).toArray) k30 f0 (zae _) (zae _) (zaw _) ⟨relC (frM x),zae _,zaa (zal f0),rfl,zah hbZ (by omega) _⟩⟩
end
structure RelOk (n:Nat) (r:RelD):Prop where
 n:r.n=n
 ok:okR r=true
 w:WrdR r.to
section
variable {n:Nat} {r a b:RelD}
theorem RelOk.le (h:RelOk n r):n<=48:=by
 have:=(zaX h.ok).2.1;have:=h.n;omega
theorem RelOk.bit (h:RelOk n r) {i j:Nat} (hi:i<48) (hb:hasM r i j=true):i<n/\j<n:=by
 have:=zjq h.ok h.w hi hb;have:=h.n;omega
theorem zsb (hn:r.n=n) (h48:n<=48) (h:∀ i j,i<48->hasM r i j=true->i<n/\j<n):okR r=true:=by
 unfold okR;rw [bAT,bAT,dE,dE,Je];refine⟨by omega,by omega,fun i hi=>?_⟩;have hi:=Jt.1 hi;unfold zej;rw [bAT,Kl,dE,dE,dE];refine⟨?_,?_⟩
 ·rw [zhT,zgD];apply Nat.eq_of_testBit_eq;intro j;rw [Nat.zero_testBit];by_cases hj:j<64
  ·rw [zgi (zbu _) hj,zib (by omega) (by omega) hj]
   cases hb:(r.to i).testBit j with
   | false=>rfl
   | true =>
    have:=(h i j hi hb).2;rw [Ka (by omega)];rfl
  ·have:=Nat.testBit_lt_two_pow (nL (Nat.lt_of_le_of_lt (show zcn (r.to i) (allN r.n)<=_ from Nat.and_le_right) (show 18446744073709551615-allN r.n<2^64 by omega)) (Nat.pow_le_pow_right (show 0<2 by decide) (show 64<=j by omega)));exact this
 ·by_cases hin:i<n
  ·exact .inl (by omega)
  ·refine .inr (Nat.eq_of_testBit_eq fun j=>?_);rw [Nat.zero_testBit]
   cases hb:(r.to i).testBit j with
   | false=>rfl
   | true=>exact Kv (h i j hi hb).1 hin
theorem RelOk.of (hn:r.n=n) (h48:n<=48) (h:∀ i j,i<48->hasM r i j=true->i<n/\j<n) (hw:WrdR r.to):RelOk n r:=⟨hn,zsb hn h48 h,hw⟩
theorem zji (p:Nat->Bool):∀ k j,(rowP k p).testBit j=(decide (j<k)&&p j)
 | 0,j=>by
  show (0:Nat).testBit j=_;simp
 | k+1,j=>by
  rw [zer]
  split
  ·rename_i h;rw [Nat.testBit_or,zji p k j,zmp];by_cases e:j=k
   ·subst e;simp [h]
   ·rw [Kb e,Bool.or_false];congr 1;exact Kd.2 (by omega)
  ·rename_i h;rw [zji p k j];by_cases e:j=k
   ·subst e;have:p j=false:=(by simpa using h);rw [this,JY,JY]
   ·congr 1;exact Kd.2 (by omega)
theorem zeQ {f:Nat->Nat} {i j:Nat}:hasM (zbD n f) i j=(decide (i<n)&&(f i).testBit j):=by
 unfold hasM zbD;dsimp only
 split
 ·rename_i h;rw [Ka h];rfl
 ·rename_i h;rw [Kb h,Nat.zero_testBit];rfl
theorem zoy {p:Nat->Nat->Bool} {i j:Nat}:hasM (zd7 n p) i j=(decide (i<n)&&(decide (j<n)&&p i j)):=by
 unfold zd7;rw [zeQ,zji]
theorem RelOk.pick (h:n<=48) (p:Nat->Nat->Bool):RelOk n (zd7 n p):=by
 refine .of rfl h (fun i j _ hb=>?_) (zfB (by omega));rw [zoy] at hb;simp only [bAT,dE] at hb;exact⟨hb.1,hb.2.1⟩
theorem zh6 {f:Nat->Nat} (ha:RelOk n a) (hb:RelOk n b):comb a b f=(zbD n f,0):=by
 unfold comb;have e:a.n.toNat=n:=by have:=ha.n;omega
 rw [Ka (ha.n.trans hb.n.symm),ha.ok,hb.ok,Kc (show (true&&(true&&true))=true from rfl),e]
theorem RelOk.comb {f:Nat->Nat} (ha:RelOk n a) (hb:RelOk n b) (hf:∀ i j,i<n->(f i).testBit j=true->j<n):RelOk n (comb a b f).1:=by
 rw [zh6 ha hb];have h48:=ha.le;have hbit:∀ i j,hasM (zbD n f) i j=true->i<n/\j<n:=fun i j h=>by
  rw [zeQ,bAT,dE] at h;exact⟨h.1,hf i j h.1 h.2⟩
 refine .of rfl h48 (fun i j _ h=>hbit i j h) fun i hi=>?_;apply Nat.lt_of_not_le;intro hge;obtain⟨j,hj1,hj2⟩:=Nat.exists_ge_and_testBit_of_ge_two_pow hge;have:=(hbit i j hj2).2;omega
theorem zlO (ha:RelOk n a) (hb:RelOk n b) {i j:Nat} (hi:i<n):hasM (zbd a b).1 i j=(hasM a i j||hasM b i j):=by
 unfold zbd;rw [zh6 ha hb];show hasM (zbD n _) i j=_;rw [zeQ,Ka hi,Nat.testBit_or];rfl
theorem RelOk.union (ha:RelOk n a) (hb:RelOk n b):RelOk n (zbd a b).1:=ha.comb hb fun i j hi h=>by
 rw [Nat.testBit_or,Kl] at h;have h48:=ha.le;rcases h with h | h
 ·exact (ha.bit (by omega) h).2
 ·exact (hb.bit (by omega) h).2
theorem ziY {tq:Nat->Nat} {j:Nat}:∀ (l:List Nat) (t:Nat),(l.foldl (fun t a=>t|||tq a) t).testBit j=(t.testBit j||l.any fun a=>(tq a).testBit j)
 | [],t=>by simp
 | a::l,t=>by rw [List.foldl_cons,ziY l,Nat.testBit_or,List.any_cons,Bool.or_assoc]
theorem RelOk.then (ha:RelOk n a) (hb:RelOk n b):RelOk n (zfl a b).1:=ha.comb hb fun i j hi h=>by
 have h48:=ha.le;unfold zcQ at h;rw [ziY,Nat.zero_testBit,Bool.false_or,JK] at h;obtain⟨k,hk,h⟩:=h;have:=(ha.bit (by omega) (zhO.1 hk).2).2;exact (hb.bit (by omega) h).2
end
structure WX (x:ExD):Prop where
 po:WrdR x.po.to
 rf:WrdR x.rf.to
 co:WrdR x.co.to
 dt:WrdR x.dt.to
 ct:WrdR x.ct.to
 rm:WrdR x.rm.to
structure XOk (x:ExD):Prop where
 n:x.ev.length<=48
 po:RelOk x.ev.length x.po
 rf:RelOk x.ev.length x.rf
 co:RelOk x.ev.length x.co
 dt:RelOk x.ev.length x.dt
 ct:RelOk x.ev.length x.ct
 rm:RelOk x.ev.length x.rm
 ev:zbM x.ev (zcE x.ev)=true
 poE:zdJ x.po (poR x.ev)=true
 rfR:zdH x=true
 coR:zdR x (zcE x.ev)=true
 dep:zcT x=true
theorem ziv {X:World} {L:Nat} {r:RelD} (h:RelH X L r):∀ i,i<48->X.cell? ⟨L,0+1+i*1,none⟩=some (s64 (r.to i)):=by
 have hR:RelAt X L 0 30 [] [] r:=⟨rfl,by simpa using h⟩;exact fun i hi=>hR.cell hi
section
variable {b c:Nat} {x:ExD} {q:Option Addr} {w:World}
theorem zsv {r:RelD} {a d R B:Nat} (fR:RelH w R r) (hr:WrdR r.to) (fB:w.heap[B]?=some (.cells #[At0 b] 86 (0,0))) (fx:ExH w b x q c) (hv:ExV w x q) (ha:a<x.ev.length) (hd:d<x.ev.length) :
  CB 167 #[i64 (a:Nat),i64 (d:Nat),At0 R,At0 B] w (.bool (hasM r a d && !decide ((evA x a).th=(evA x d).th))):=by
 refine cofE 29 [i64 (a:Nat),i64 (d:Nat),At0 R,At0 B] Tryz.func167 ?_;have hn:=hv.n;obtain⟨bq,oq,hqe,hb,hat⟩:=zhc hv.ev ha;obtain⟨bq2,oq2,hqe2,hb2,hat2⟩:=zhc hv.ev hd;rw [hqe] at hqe2;simp only [Jf,Addr.mk.injEq,and_true] at hqe2;rw [<- hqe2.1,<- hqe2.2] at hat2;subst hqe;have dw:Bw w w.drew:=(Ja _ _).drew;refine DrawE.ord [] [0,1,2,3,4,5,6,7,8,9,10,11,12,13,14,15,16,17,18,19,20,21,22] (by kernel_rfl) (cmo (ziZ (ziv (hdr fR)) hr (by omega) (by omega)) ?_);rintro e _ ⟨rfl,rfl⟩;refine⟨Ja _ _,biE (fun h1=>?_) fun h1=>?_⟩
 ·have h1:hasM r a d=true:=h1;exact⟨At0 b,zac (zaa (hdr fB)) (i:=0) rfl,_,zcq (zaa (hdr fx)),a,rfl,ha,i64 (evA x a).th,by have:=zac (zar dw hat) (i:=0) (v:=i64 (evA x a).th) rfl;exact this,At0 b,zac (zaa (hdr fB)) (i:=0) rfl,_,zcq (zaa (hdr fx)),d,rfl,hd,i64 (evA x d).th,by have:=zac (zar dw hat2) (i:=0) (v:=i64 (evA x d).th) rfl;exact this,rb (by rw [h1,Js]),dw⟩
 ·have h1:hasM r a d=false:=h1;exact⟨rb (by rw [h1,JJ]),dw⟩
theorem zt1 {r:RelD} (fx:ExH w b x q c) (hv:ExV w x q) (hr:WrdR r.to) (hn:r.n=x.ev.length) :
  CB 120 #[At0 b,.agg (relC r).toArray] w (.agg (relC (extM x r)).toArray):=by
 refine cofM 9 [At0 b,.agg (relC r).toArray] (.c .p (.c .p .p)) Tryz.func120 ?_;obtain⟨L,hL⟩:=nm (w.heap.size);have h19:=hv.n;refine⟨Unit,fun _=>⟨[(2,At0 L),(3,At0 (L+1)),(4,At0 (L+2))],[]⟩,fun _ X=>X.heap[L]?=some (.cells #[At0 b] 86 (0,0))/\RelH X (L+1) r/\RelH X (L+2) zat/\Bw w X,?_,?_⟩
 ·have s1:=wz w (.cells #[At0 b] 86);have s2:=wz (w.alloc (.cells #[At0 b] 86)) (.cells (relC r).toArray 30);have b1:Bw w (w.alloc (.cells #[At0 b] 86)):=zba w _;have b2:=b1.alloc b1.size (.cells (relC r).toArray 30);have h1:=hnew w (.cells #[At0 b] 86);have h2:=hnew (w.alloc (.cells #[At0 b] 86)) (.cells (relC r).toArray 30);have h3:=hnew ((w.alloc (.cells #[At0 b] 86)).alloc (.cells (relC r).toArray 30)) (.cells (relC zat).toArray 30);rw [s1] at h2 s2;rw [s2] at h3;refine⟨(),⟨.cons (by rw [hL];rfl) (.cons (by rw [hL,<- s1];rfl) (.cons (by rw [hL,<- s2];rfl) .nil)),rfl⟩,by rw [hL];exact hold _ (hold _ h1),by rw [hL];exact hold _ h2,by rw [hL];exact h3,b2.alloc b2.size _⟩
 rintro _ X ⟨fB,fR,f0,hbX⟩;have fX:=zab hbX fx;have hvX:=hv.below hbX;refine⟨Unit,fun _=>⟨[(4,At0 (L+2))],[]⟩,fun _ Y=>RelH Y (L+2) (extM x r)/\Bw w Y,?_,?_⟩
 ·refine⟨i64 r.n,by have:=zac (zaa fR) (i:=0) (v:=i64 r.n) rfl;exact this,?_⟩;have en:extM x r=zd7 x.ev.length fun a d=>hasM r a d && !decide ((evA x a).th=(evA x d).th):=by
   unfold extM;rw [hn];rfl
  rw [hn];refine cmo (zmu (n:=x.ev.length) (caps := #[At0 (L+1),At0 L]) (g:=167) (p:=fun a d=>hasM r a d && !decide ((evA x a).th=(evA x d).th)) (by omega) (by kernel_rfl) fun a d Z ha hd hb=>zsv (zab hb fR) hr (zab hb fB) (zab hb fX) (hvX.below hb) ha hd) ?_;rintro e Y ⟨rfl,hbY⟩;rw [<- en];have f0:=zab hbY f0;exact zao (v := .agg (relC (extM x r)).toArray) k30 f0 (zae _) (zae _) (zaw _) ⟨(),(cvE rfl rfl),zal f0,zah ((zst hbX hbY)) (by omega) _⟩
 rintro _ Y ⟨f0,hbY⟩;exact⟨relC (extM x r),zae _,zaa f0,rfl,hbY⟩
end
section
variable {b c:Nat} {x:ExD} {q:Option Addr} {w:World}
theorem zso {r:RelD} {a d R:Nat} (fR:RelH w R r) (hr:WrdR r.to) (fx:ExH w b x q c) (hv:ExV w x q) (ha:a<x.ev.length) (hd:d<x.ev.length) :
  CB 148 #[i64 (a:Nat),i64 (d:Nat),At0 R,At0 b] w (.bool (hasM r a d&&decide ((evA x a).th=(evA x d).th))):=by
 refine cofE 25 [i64 (a:Nat),i64 (d:Nat),At0 R,At0 b] Tryz.func148 ?_;have hn:=hv.n;obtain⟨bq,oq,hqe,hb,hat⟩:=zhc hv.ev ha;obtain⟨bq2,oq2,hqe2,hb2,hat2⟩:=zhc hv.ev hd;rw [hqe] at hqe2;simp only [Jf,Addr.mk.injEq,and_true] at hqe2;rw [<- hqe2.1,<- hqe2.2] at hat2;subst hqe;have dw:Bw w w.drew:=(Ja _ _).drew;refine DrawE.ord [] [0,1,2,3,4,5,6,7,8,9,10,11,12,13,14,15,16,17,18] (by kernel_rfl) (cmo (ziZ (ziv (hdr fR)) hr (by omega) (by omega)) ?_);rintro e _ ⟨rfl,rfl⟩;refine⟨Ja _ _,biE (fun h1=>?_) fun h1=>?_⟩
 ·have h1:hasM r a d=true:=h1;exact⟨_,zcq (zaa (hdr fx)),a,rfl,ha,i64 (evA x a).th,by have:=zac (zar dw hat) (i:=0) (v:=i64 (evA x a).th) rfl;exact this,_,zcq (zaa (hdr fx)),d,rfl,hd,i64 (evA x d).th,by have:=zac (zar dw hat2) (i:=0) (v:=i64 (evA x d).th) rfl;exact this,rb (by rw [h1,Js]),dw⟩
 ·have h1:hasM r a d=false:=h1;exact⟨rb (by rw [h1,JJ]),dw⟩
theorem zsj {a d:Nat} (fx:ExH w b x q c) (hv:ExV w x q) (ha:a<x.ev.length) (hd:d<x.ev.length) :
  CB 146 #[i64 (a:Nat),i64 (d:Nat),At0 b] w (.bool (zjf x a d)):=by
 refine cofE 9 [i64 (a:Nat),i64 (d:Nat),At0 b] Tryz.func146 ?_;refine cmo (zrW (zaa fx) hv.ev ha hd) ?_;rintro e X ⟨rfl,hb⟩;exact⟨rfl,hb⟩
end
section
variable {b c:Nat} {x:ExD} {q:Option Addr} {w:World}
def ze8 (x:ExD) (r:RelD):Bool:=okR r&&(decide (r.n=x.ev.length)&&za0 x)
theorem notB {p:Bool} (h:(!p)=true):p=false:=by simpa using h
theorem notF {p:Bool} (h:(!p)=false):p=true:=by simpa using h
theorem zaS {X:World} {L:Nat} {r r0:RelD} (f0:RelH X L r0) (hL:w.heap.size<=L) (hbX:Bw w X) {K:World->Prop} (k:∀ Y,RelH Y L r->Bw w Y->K Y) :
  SatR ((storeVar 30 ⟨L,0,none⟩ (.agg (relC r).toArray)).run Tryz.prog X) fun _ w'=>K w' :=
 zao (v := .agg (relC r).toArray) k30 f0 (zae _) (zae _) (zaw _) (k _ (zal f0) (zah hbX hL _))
def frX (x:ExD):RelD:=if za0 x=true then frM x else zat
def locX (x:ExD):RelD:=if za0 x=true then locM x else zat
def extX (x:ExD) (r:RelD):RelD:=if ze8 x r=true then extM x r else zat
def intX (x:ExD) (r:RelD):RelD:=if ze8 x r=true then intM x r else zat
theorem ze7 {r:RelD} (h:ze8 x r=true):okR r=true/\r.n=x.ev.length/\za0 x=true:=by
 unfold ze8 at h;rw [bAT,bAT,dE] at h;exact h
theorem zdD (w:World) (x:ExD) (q:Option Addr) (c:Nat) (r:RelD) (T:TypeId) : 
  ExH ((w.alloc (.cells (exC x q c).toArray 37)).alloc (.cells (relC r).toArray T)) w.heap.size x q c/\((w.alloc (.cells (exC x q c).toArray 37)).alloc (.cells (relC r).toArray T)).heap[w.heap.size+1]?=some (.cells (relC r).toArray T (0,0)) /\
   ((w.alloc (.cells (exC x q c).toArray 37)).alloc (.cells (relC r).toArray T)).heap.size=w.heap.size+2/\Bw w ((w.alloc (.cells (exC x q c).toArray 37)).alloc (.cells (relC r).toArray T)):=by
 have s1:=wz w (.cells (exC x q c).toArray 37);have h2:=hnew (w.alloc (.cells (exC x q c).toArray 37)) (.cells (relC r).toArray T);have s2:=wz (w.alloc (.cells (exC x q c).toArray 37)) (.cells (relC r).toArray T);rw [s1] at h2 s2;have b1:Bw w (w.alloc (.cells (exC x q c).toArray 37)):=zba w _;exact⟨hold _ (hnew w _),h2,s2,b1.alloc b1.size _⟩
theorem zpG {r:RelD} (hv:ExV w x q) (hr:WrdR r.to) (hT:Tz64M w):CB 147 #[.agg (exC x q c).toArray,.agg (relC r).toArray] w (.bool (ze8 x r)):=by
 refine cofM 19 [.agg (exC x q c).toArray,.agg (relC r).toArray] (.c .p .p) Tryz.func147 ?_;obtain⟨L,hL⟩:=nm (w.heap.size);refine⟨Unit,fun _=>⟨[(2,At0 L),(3,At0 (L+1))],[]⟩,fun _ X=>ExH X L x q c/\RelH X (L+1) r/\Bw w X,?_,?_⟩
 ·obtain⟨h1,h2,h3,h4⟩:=zdD w x q c r 30;have s1:=wz w (.cells (exC x q c).toArray 37);exact⟨(),⟨.cons (by rw [hL];rfl) (.cons (by rw [hL,<- s1];rfl) .nil),rfl⟩,by rw [hL];exact h1,by rw [hL];exact h2,h4⟩
 rintro _ X ⟨fX,fR,hbX⟩;refine⟨relC r,zae _,zaa fR,hlt fR,cmo (zaV hr) ?_⟩;rintro e Y ⟨rfl,hbY⟩;have bY:=zst hbX hbY;refine biE (fun h1=>?_) fun h1=>?_
 ·have h1:okR r=true:=h1;refine⟨i64 r.n,by have:=zac (zaa (zab hbY fR)) (i:=0) (v:=i64 r.n) rfl;exact this,_,zcq (zaa (zab hbY fX)),biE (fun h2=>?_) fun h2=>?_⟩
  ·have h2:r.n=(x.ev.length:Int):=dT h2;refine⟨exC x q c,zay _ _ _,zaa (zab hbY fX),hlt (zab hbY fX),cmo (zd5 (hv.below bY) (hT.below bY)) ?_⟩;rintro e Z ⟨rfl,hbZ⟩;exact⟨rb (by unfold ze8;rw [h1,Ka h2];rfl),(zst bY hbZ)⟩
  ·have h2:¬ r.n=(x.ev.length:Int):=dF h2;exact⟨rb (by unfold ze8;rw [h1,Kb h2];rfl),bY⟩
 ·have h1:okR r=false:=h1;exact brF ⟨rb (by unfold ze8;rw [h1];rfl),bY⟩
theorem zub (hv:ExV w x q) (hT:Tz64M w):CB 98 #[.agg (exC x q c).toArray] w (.agg (relC (frX x)).toArray):=by
 refine cofM 8 [.agg (exC x q c).toArray] (.c .p .p) Tryz.func98 ?_;obtain⟨L,hL⟩:=nm (w.heap.size);have hn:=hv.n;refine⟨Unit,fun _=>⟨[(1,At0 L),(2,At0 (L+1))],[]⟩,fun _ X=>ExH X L x q c/\RelH X (L+1) zat/\Bw w X,?_,?_⟩
 ·obtain⟨h1,h2,h3,h4⟩:=zdD w x q c zat 30;have s1:=wz w (.cells (exC x q c).toArray 37);exact⟨(),⟨.cons (by rw [hL];rfl) (.cons (by rw [hL,<- s1];rfl) .nil),rfl⟩,by rw [hL];exact h1,by rw [hL];exact h2,h4⟩
 rintro _ X ⟨fX,f0,hbX⟩;have zero:frX x=zat->∀ {Y:World},Bw X Y->SatR ((storeVar 30 ⟨L+1,0,none⟩ (.agg (relC zat).toArray)).run Tryz.prog Y) fun _ w'=>∃ cells,cells.length=49/\zav w' ⟨L+1,0,none⟩ cells/\Ending.returned (.agg cells.toArray) = .returned (.agg (relC (frX x)).toArray)/\Bw w w':=fun h0 {Y} hb=>by
  rw [h0];exact zaS (zab hb f0) (by omega) ((zst hbX hb)) fun Z fZ bZ=>⟨relC zat,zae _,zaa fZ,rfl,bZ⟩
 refine⟨exC x q c,zay _ _ _,zaa fX,hlt fX,cmo (zd5 (hv.below hbX) (hT.below hbX)) ?_⟩;rintro e Y ⟨rfl,hbY⟩;have bY:=zst hbX hbY;have fY:=zab hbY fX;refine biE (fun h2=>?_) fun h2=>?_
 ·have h2:za0 x=false:=notB h2;refine⟨relC zat,by kernel_rfl,?_⟩;exact zero (JZ fun h=>by rw [h2] at h;cases h) hbY
 ·have h2:za0 x=true:=notF h2;have e0:frX x=frM x:=Kc h2;rw [e0];refine cmo (fr_c fY (hv.below bY) (hT.below bY)) ?_;rintro e Z ⟨rfl,hbZ⟩;exact zaS (zab hbZ (zab hbY f0)) (by omega) ((zst bY hbZ)) fun V fV bV=>⟨relC (frM x),zae _,zaa fV,rfl,bV⟩
theorem zs6 (hv:ExV w x q) (hT:Tz64M w):CB 99 #[.agg (exC x q c).toArray] w (.agg (relC (locX x)).toArray):=by
 refine cofM 12 [.agg (exC x q c).toArray] (.c .p .p) Tryz.func99 ?_;obtain⟨L,hL⟩:=nm (w.heap.size);have hn:=hv.n;refine⟨Unit,fun _=>⟨[(1,At0 L),(2,At0 (L+1))],[]⟩,fun _ X=>ExH X L x q c/\RelH X (L+1) zat/\Bw w X,?_,?_⟩
 ·obtain⟨h1,h2,h3,h4⟩:=zdD w x q c zat 30;have s1:=wz w (.cells (exC x q c).toArray 37);exact⟨(),⟨.cons (by rw [hL];rfl) (.cons (by rw [hL,<- s1];rfl) .nil),rfl⟩,by rw [hL];exact h1,by rw [hL];exact h2,h4⟩
 rintro _ X ⟨fX,f0,hbX⟩;have zero:locX x=zat->∀ {Y:World},Bw X Y->SatR ((storeVar 30 ⟨L+1,0,none⟩ (.agg (relC zat).toArray)).run Tryz.prog Y) fun _ w'=>∃ cells,cells.length=49/\zav w' ⟨L+1,0,none⟩ cells/\Ending.returned (.agg cells.toArray) = .returned (.agg (relC (locX x)).toArray)/\Bw w w':=fun h0 {Y} hb=>by
  rw [h0];exact zaS (zab hb f0) (by omega) ((zst hbX hb)) fun Z fZ bZ=>⟨relC zat,zae _,zaa fZ,rfl,bZ⟩
 refine⟨exC x q c,zay _ _ _,zaa fX,hlt fX,cmo (zd5 (hv.below hbX) (hT.below hbX)) ?_⟩;rintro e Y ⟨rfl,hbY⟩;have bY:=zst hbX hbY;have fY:=zab hbY fX;refine biE (fun h2=>?_) fun h2=>?_
 ·have h2:za0 x=false:=notB h2;refine⟨relC zat,by kernel_rfl,?_⟩;exact zero (JZ fun h=>by rw [h2] at h;cases h) hbY
 ·have h2:za0 x=true:=notF h2;have e0:locX x=locM x:=Kc h2;rw [e0];refine⟨_,zcq (zaa fY),cmo (zmu (n:=x.ev.length) (caps := #[At0 L]) (g:=146) (p:=zjf x) (by omega) (by kernel_rfl) fun a d Z ha hd hb=>zsj (zab hb fY) ((hv.below bY).below hb) ha hd) ?_⟩;rintro e Z ⟨rfl,hbZ⟩;exact zaS (zab hbZ (zab hbY f0)) (by omega) ((zst bY hbZ)) fun V fV bV=>⟨relC (locM x),zae _,zaa fV,rfl,bV⟩
theorem zte {r:RelD} (hv:ExV w x q) (hr:WrdR r.to) (hT:Tz64M w):CB 100 #[.agg (exC x q c).toArray,.agg (relC r).toArray] w (.agg (relC (extX x r)).toArray):=by
 refine cofM 12 [.agg (exC x q c).toArray,.agg (relC r).toArray] (.c .p .p) Tryz.func100 ?_;obtain⟨L,hL⟩:=nm (w.heap.size);have hn:=hv.n;refine⟨Unit,fun _=>⟨[(2,At0 L),(3,At0 (L+1)),(4,At0 (L+2))],[]⟩,fun _ X=>ExH X L x q c/\RelH X (L+1) r/\RelH X (L+2) zat/\Bw w X,?_,?_⟩
 ·obtain⟨h1,h2,h3,h4⟩:=zdD w x q c r 30;have s1:=wz w (.cells (exC x q c).toArray 37);obtain⟨U,hU⟩:=nm ((w.alloc (.cells (exC x q c).toArray 37)).alloc (.cells (relC r).toArray 30));rw [<- hU] at h1 h2 h3 h4;have f3:=hnew U (.cells (relC zat).toArray 30);rw [h3] at f3;subst hU;exact⟨(),⟨.cons (by rw [hL];rfl) (.cons (by rw [hL,<- s1];rfl) (.cons (by rw [hL,<- h3];rfl) .nil)),rfl⟩,by rw [hL];exact hold _ h1,by rw [hL];exact hold _ h2,by rw [hL];exact f3,h4.alloc h4.size _⟩
 rintro _ X ⟨fX,fR,f0,hbX⟩;have zero:extX x r=zat->∀ {Y:World},Bw X Y->SatR ((storeVar 30 ⟨L+2,0,none⟩ (.agg (relC zat).toArray)).run Tryz.prog Y) fun _ w'=>∃ cells,cells.length=49/\zav w' ⟨L+2,0,none⟩ cells/\Ending.returned (.agg cells.toArray) = .returned (.agg (relC (extX x r)).toArray)/\Bw w w':=fun h0 {Y} hb=>by
  rw [h0];exact zaS (zab hb f0) (by omega) ((zst hbX hb)) fun Z fZ bZ=>⟨relC zat,zae _,zaa fZ,rfl,bZ⟩
 refine⟨exC x q c,zay _ _ _,zaa fX,hlt fX,relC r,zae _,zaa fR,hlt fR,cmo (zpG (hv.below hbX) hr (hT.below hbX)) ?_⟩;rintro e Y ⟨rfl,hbY⟩;have bY:=zst hbX hbY;have fY:=zab hbY fX;refine biE (fun h2=>?_) fun h2=>?_
 ·have h2:ze8 x r=false:=notB h2;refine⟨relC zat,by kernel_rfl,?_⟩;exact zero (JZ fun h=>by rw [h2] at h;cases h) hbY
 ·have h2:ze8 x r=true:=notF h2;have h3:=ze7 h2;have e0:extX x r=extM x r:=Kc h2;rw [e0];refine⟨relC r,zae _,zaa (zab hbY fR),hlt (zab hbY fR),cmo (zt1 fY (hv.below bY) hr h3.2.1) ?_⟩;rintro e Z ⟨rfl,hbZ⟩;exact zaS (zab hbZ (zab hbY f0)) (by omega) ((zst bY hbZ)) fun V fV bV=>⟨relC (extM x r),zae _,zaa fV,rfl,bV⟩
theorem ztc {r:RelD} (hv:ExV w x q) (hr:WrdR r.to) (hT:Tz64M w):CB 101 #[.agg (exC x q c).toArray,.agg (relC r).toArray] w (.agg (relC (intX x r)).toArray):=by
 refine cofM 14 [.agg (exC x q c).toArray,.agg (relC r).toArray] (.c .p .p) Tryz.func101 ?_;obtain⟨L,hL⟩:=nm (w.heap.size);have hn:=hv.n;refine⟨Unit,fun _=>⟨[(2,At0 L),(3,At0 (L+1)),(4,At0 (L+2))],[]⟩,fun _ X=>ExH X L x q c/\RelH X (L+1) r/\RelH X (L+2) zat/\Bw w X,?_,?_⟩
 ·obtain⟨h1,h2,h3,h4⟩:=zdD w x q c r 30;have s1:=wz w (.cells (exC x q c).toArray 37);obtain⟨U,hU⟩:=nm ((w.alloc (.cells (exC x q c).toArray 37)).alloc (.cells (relC r).toArray 30));rw [<- hU] at h1 h2 h3 h4;have f3:=hnew U (.cells (relC zat).toArray 30);rw [h3] at f3;subst hU;exact⟨(),⟨.cons (by rw [hL];rfl) (.cons (by rw [hL,<- s1];rfl) (.cons (by rw [hL,<- h3];rfl) .nil)),rfl⟩,by rw [hL];exact hold _ h1,by rw [hL];exact hold _ h2,by rw [hL];exact f3,h4.alloc h4.size _⟩
 rintro _ X ⟨fX,fR,f0,hbX⟩;have zero:intX x r=zat->∀ {Y:World},Bw X Y->SatR ((storeVar 30 ⟨L+2,0,none⟩ (.agg (relC zat).toArray)).run Tryz.prog Y) fun _ w'=>∃ cells,cells.length=49/\zav w' ⟨L+2,0,none⟩ cells/\Ending.returned (.agg cells.toArray) = .returned (.agg (relC (intX x r)).toArray)/\Bw w w':=fun h0 {Y} hb=>by
  rw [h0];exact zaS (zab hb f0) (by omega) ((zst hbX hb)) fun Z fZ bZ=>⟨relC zat,zae _,zaa fZ,rfl,bZ⟩
 refine⟨exC x q c,zay _ _ _,zaa fX,hlt fX,relC r,zae _,zaa fR,hlt fR,cmo (zpG (hv.below hbX) hr (hT.below hbX)) ?_⟩;rintro e Y ⟨rfl,hbY⟩;have bY:=zst hbX hbY;have fY:=zab hbY fX;refine biE (fun h2=>?_) fun h2=>?_
 ·have h2:ze8 x r=false:=notB h2;refine⟨relC zat,by kernel_rfl,?_⟩;exact zero (JZ fun h=>by rw [h2] at h;cases h) hbY
 ·have h2:ze8 x r=true:=notF h2;have h3:=ze7 h2;have e0:intX x r=intM x r:=Kc h2;rw [e0];refine⟨i64 r.n,by have:=zac (zaa (zab hbY fR)) (i:=0) (v:=i64 r.n) rfl;exact this,?_⟩;have en:intM x r=zd7 x.ev.length fun a d=>hasM r a d&&decide ((evA x a).th=(evA x d).th):=by
   unfold intM;rw [h3.2.1];rfl
  rw [h3.2.1,en];refine cmo (zmu (n:=x.ev.length) (caps := #[At0 (L+1),At0 L]) (g:=148) (p:=fun a d=>hasM r a d&&decide ((evA x a).th=(evA x d).th)) (by omega) (by kernel_rfl) fun a d Z ha hd hb=>zso (zab hb (zab hbY fR)) hr (zab hb fY) ((hv.below bY).below hb) ha hd) ?_;rintro e Z ⟨rfl,hbZ⟩;rw [<- en];exact zaS (zab hbZ (zab hbY f0)) (by omega) ((zst bY hbZ)) fun V fV bV=>⟨relC (intM x r),zae _,zaa fV,rfl,bV⟩
end
def sqR (r:RelD):RelD:=zbD r.n.toNat fun a=>r.to a|||zcQ r.to (r.to a)
def eqR (a b:RelD):Bool:=decide (a.n=b.n)&&(List.range 48).all fun i=>decide (a.to i=b.to i)
def plusF:Nat->RelD->RelD
 | 0,r=>r
 | f+1,r=>if eqR (sqR r) r then r else plusF f (sqR r)
def zcf (r:RelD):RelD:=if okR r then plusF 2400 r else zat
def zfm (r:RelD):RelD:=if okR r then (zbd (zcf r) (idR r.n.toNat (allM r.n))).1 else zat
def irrR (r:RelD):Bool:=okR r&&(List.range r.n.toNat).all fun a => !(r.to a).testBit a
def zjF (e:Ev) (s:Bs):Bool :=
 let rd:=decide (e.k=1);let wr:=decide (e.k=2);let fe:=decide (e.k=3)
 if s=[82] then rd
 else if s=[87] then wr
 else if s=[70] then fe
 else if s=[77] then rd||wr
 else if s=[65] then rd&&(decide (e.m=1)||decide (e.m=3))
 else if s=[76] then wr&&(decide (e.m=2)||decide (e.m=3))
 else if s=[88] then (rd||wr)&&decide (e.m=3)
 else if s=[70,70] then fe&&decide (e.m=3)
 else if s=[70,76] then fe&&decide (e.m=4)
 else if s=[70,83] then fe&&decide (e.m=5)
 else if s=[73] then decide (e.th = -1)
 else false
def setM (x:ExD) (s:Bs):Nat:=orG ((List.range x.ev.length).filter fun i=>match x.ev[i]? with | some e=>zjF e s | none=>false)
def zdl (x:ExD):Bs->RelD:=fun s =>
 let n:=x.ev.length
 let cr:=zgw n (allM n) (allM n)
 if s=[112,111] then x.po else if s=[114,102] then x.rf else if s=[99,111] then x.co else if s=[114,109,119] then x.rm
 else if s=[100,97,116,97] then x.dt else if s=[99,116,114,108] then x.ct else if s=[102,114] then frX x else if s=[108,111,99] then locX x
 else if s=[105,100] then idR n (allM n) else if s=[101,120,116] then extX x cr else if s=[105,110,116] then intX x cr else zat
section
variable (x:ExD) (rels:Bs->RelD)
def un3 (k:UInt8) (a:RelD):RelD:=if k=6 then zbB a else if k=7 then zcf a else zfm a
def bin4 (k:UInt8) (a b:RelD):RelD:=if k=2 then (zbd a b).1 else if k=3 then (zi7 a b).1 else if k=4 then (zff a b).1 else if k=5 then (zfl a b).1 else zat
mutual
def valT:Trm->RelD
 | .mk k nq kids =>
  if k=1 then rels nq
  else if k=9 then idR x.ev.length (setM x nq)
  else if k=6\/k=7\/k=8 then un3 k (valH kids)
  else bin4 k (valH kids) (valS kids)
def valH:List Trm->RelD
 | []=>zat
 | t::_=>valT t
def valS:List Trm->RelD
 | []=>zat
 | _::r=>valH r
end
end
def letR (rels:Bs->RelD) (s:Bs) (r:RelD):Bs->RelD:=fun t=>if t=s then r else rels t
def zlk (x:ExD) (rels:Bs->RelD) (l:List LineD):Bs->RelD:=l.foldl (fun g y=>if y.kind=0 then letR g y.name (valT x g y.term) else g) rels
def zdx (t:Trm) (l:List LineD) (x:ExD):Option RelD :=
 match zbW l with
 | none=>none
 | some (_,lets) =>
  if (chkT lets 0 t).1&&za0 x then
   (if (prT ⟨[],0,0⟩ t).most > 50 then none else some (valT x (zlk x (zdl x) l) t))
  else none
def zgJ (x:ExD):(Bs->RelD)->List LineD->Bool×Bs
 | _,[]=>(true,[])
 | g,l::r =>
  let v:=valT x g l.term
  if l.kind=0 then zgJ x (letR g l.name v) r
  else if (if l.kind=1 then acyR v else if l.kind=2 then irrR v else zi2 v) then zgJ x g r
  else (false,l.name)
def zm0 (l:List LineD) (x:ExD):Option (Bool×Bs) :=
 if (zbW l).isSome&&za0 x then some (zgJ x (zdl x) l) else none
end Go.Proofs.YtnadlhpkpnfmbaaGreatDoor
namespace Go.Vc
open Go.RowKit
section
variable {P:Program} {κ:Type} [DecidableEq κ] {key:κ->Value} {K:TypeId}
theorem zbx {T elem:TypeId} (hK:MapK P K key) (hu:P.underlying T=some (.map K elem)) {w:World} {r:Nat} {f:κ->Option Value} (h:MapF key w r f) (q:κ) (x:Value) :
  ∃ o,(Instr.mapUpdate T (.map (some r)) (key q) x).run P w = .ok () (w.putObj r o)/\MapF key (w.putObj r o) r (fun q'=>if q'=q then some x else f q'):=by
 obtain⟨es,clock,hh,hf,hn,hb,hc⟩:=h;have hg:(getObj r).run P w = .ok (.map (es.map (entry key)).toArray clock) w:=by simp [getObj,Sem.run,hh]
 have hset:∀ o,(setObj r o).run P w = .ok () (w.putObj r o):=fun o=>by simp [setObj,Sem.run,hh,World.putObj]
 have e:asF es q=f q:=hf q;unfold asF at e;simp only [Instr.mapUpdate,Ji,run_underlying hu,Jd,hg,hK.check q _ w,zgp hK q es w]
 cases hfl:zdN q es 0 with
 | none =>
  rw [hfl] at e;simp only [Option.map_none] at e;refine⟨.map ((es++[(q,x,clock)]).map (entry key)).toArray (clock+1),?_,?_⟩
  ·have e2:(es.map (entry key)).toArray.push { key:=key q,val:=x,born:=clock }=((es++[(q,x,clock)]).map (entry key)).toArray:=by
    rw [<- Array.toList_inj];simp [entry]
   simp only [e2,hset]
  ·refine⟨es++[(q,x,clock)],clock+1,zcR hh,fun q'=>?_,?_,?_,?_⟩
   ·rw [zhi];by_cases hq:q'=q
    ·subst hq;rw [hf q',<- e];simp
    ·simp [hq,hf q']
   ·rw [Jw,List.map_cons,List.map_nil];refine List.nodup_append.2 ⟨hn,by simp,?_⟩;intro a ha b hb';simp only [Jl] at hb';subst hb';obtain⟨y,hy,rfl⟩:=JR.1 ha;exact zha hfl y hy
   ·rw [Jw,List.map_cons,List.map_nil];refine List.nodup_append.2 ⟨hb,by simp,?_⟩;intro a ha b hb';simp only [Jl] at hb';subst hb';obtain⟨y,hy,rfl⟩:=JR.1 ha;exact Nat.ne_of_lt (hc y hy)
   ·intro y hy;rw [JM] at hy;rcases hy with hy | hy
    ·exact Nat.lt_succ_of_lt (hc y hy)
    ·simp only [Jl] at hy;subst hy;exact Kg _
 | some p =>
  obtain⟨j,v⟩:=p;obtain⟨b,_,hj⟩:=zg9 hfl;rw [Nat.sub_zero] at hj;have hm:(q,v,b)∈es:=Kr hj;have hje:(es.map (entry key)).toArray[j]?=some (entry key (q,v,b)):=by simp [hj]
  have only:∀ i (hi:i<es.length),(es[i]).2.2=b->i=j:=fun i hi hbe=>by
   obtain⟨hjl,e2⟩:=Ju.1 hj;by_cases hij:i=j
   ·exact hij
   ·exfalso
    have h3:=(List.pairwise_iff_getElem.1 hb);rcases Nat.lt_or_gt_of_ne hij with hlt | hlt
    ·exact h3 i j (by simpa using hi) (by simpa using hjl) hlt (by simp [e2,hbe])
    ·exact h3 j i (by simpa using hjl) (by simpa using hi) hlt (by simp [e2,hbe])
  have hbq:∀ y∈es,y.2.2=b->y.1=q:=fun y hy hbe=>by
   obtain⟨i,hi,e1⟩:=List.getElem_of_mem hy;have:=only i hi (by rw [e1];exact hbe);subst this;obtain⟨_,e2⟩:=Ju.1 hj;rw [<- e1,e2]
  have hmod:(es.map (entry key)).toArray.modify j (fun e=>{ e with key:=key q,val:=x })=((es.map fun e=>if e.2.2=b then (e.1,x,e.2.2) else e).map (entry key)).toArray:=by
   apply Array.ext_getElem?;intro i;rw [Array.getElem?_modify];by_cases hil:i<es.length
   ·by_cases hij:j=i
    ·subst hij;obtain⟨_,e2⟩:=Ju.1 hj;rw [Kc rfl,hje];simp [hil,e2,entry]
    ·rw [JZ hij];have:¬ (es[i]).2.2=b:=fun h=>hij (only i hil h).symm;simp [hil,this]
   ·have h1:(es.map (entry key)).toArray[i]?=none:=(by simp;omega);have h2:((es.map fun e=>if e.2.2=b then (e.1,x,e.2.2) else e).map (entry key)).toArray[i]?=none:=(by simp;omega);rw [h1,h2];split <;> rfl
  refine⟨.map ((es.map fun e=>if e.2.2=b then (e.1,x,e.2.2) else e).map (entry key)).toArray clock,?_,?_⟩
  ·simp only [hje,Ko,Option.getD_some,entry,Instr.keyThatStays,hK.same q,if_true,JA,Jd,Ji];have hmod':=hmod;rw [hmod',hset]
  ·refine⟨_,clock,zcR hh,fun q'=>?_,?_,?_,?_⟩
   ·rw [znK x q q' es hn ⟨v,hm⟩ hbq,hf q']
   ·have:(es.map fun e=>if e.2.2=b then (e.1,x,e.2.2) else e).map (·.1)=es.map (·.1):=by
     rw [List.map_map];apply List.map_congr_left;intro e _;simp only [Function.comp_apply];split <;> rfl
    rw [this];exact hn
   ·have:(es.map fun e=>if e.2.2=b then (e.1,x,e.2.2) else e).map (·.2.2)=es.map (·.2.2):=by
     rw [List.map_map];apply List.map_congr_left;intro e _;simp only [Function.comp_apply];split <;> rfl
    rw [this];exact hb
   ·intro e he;obtain⟨y,hy,rfl⟩:=JR.1 he
    split
    ·exact hc y hy
    ·exact hc y hy
end
end Go.Vc
namespace Go.Proofs.YtnadlhpkpnfmbaaGreatDoor
open Go.Vc Go.RowKit
abbrev keyS (s:Bs):Value:=strV s
theorem beqK (a b:ByteArray):(a == b)=true↔a=b:=by
 rw [beq_toListBytes,beq_iff_eq,ByteArray.toList_eq,ByteArray.toList_eq];constructor
 ·intro h;obtain⟨⟨x⟩⟩:=a;obtain⟨⟨y⟩⟩:=b;exact congrArg (fun l:List UInt8=>(⟨⟨l⟩⟩:ByteArray)) h
 ·rintro rfl;rfl
theorem ziW (a:Bs):(bs a == bs a)=true:=(beqK _ _).2 rfl
theorem zmV (a b:Bs):(bs a == bs b)=decide (a=b):=by
 by_cases h:a=b
 ·subst h;rw [ziW,Ka rfl]
 ·rw [Kb h];exact Bool.eq_false_iff.2 fun e=>h (zsW ((beqK _ _).1 e))
theorem eqSJ (d:Nat) (x y:Bs) (w:World):(Op.equalIn (d+1) 9 (keyS x) (keyS y)).run Tryz.prog w = .ok (decide (x=y)) w:=by
 simp only [Op.equalIn,Ji,run_underlying Tryz.underlying9,Jd,JA,strV];rw [zmV]
theorem zt2 (e:Bool) (d:Nat) (q:Bs) (w:World):(Instr.checkKey e (d+1) 9 (keyS q)).run Tryz.prog w = .ok () w:=by
 simp only [Instr.checkKey,Ji,run_underlying Tryz.underlying9,Jd,JA,strV]
theorem skey:MapK Tryz.prog 9 keyS where
 check:=fun q e w=>zt2 e 9999 q w
 eq:=fun q q' w=>eqSJ 9999 q q' w
 same:=fun q=>by simp only [Instr.sameBits,strV];exact ziW q
 desc:=⟨_,Tryz.underlying9,fun q q'=>by
  right;simp only [Instr.sameNow,strV];rw [zmV]⟩
end Go.Proofs.YtnadlhpkpnfmbaaGreatDoor
namespace Go.Proofs.YtnadlhpkpnfmbaaGreatDoor
open Go.Vc Go.RowKit Go.Sei
def u8n (n:Nat):Value := .int .u8 (n:Nat)
def strL:List Nat:=[0,0,1,2,3,4,0,0,0,0]
def zhH:List Int:=[-1,0,2,2,2,2,1,1,1,0]
def zb1:List Bs:=[[],[],[124],[38],[92],[59],[94,45,49],[43],[42],[]]
structure GlobK (w:World):Prop where
 op:zav w ⟨3,0,none⟩ (zaW.map strV)
 st:zav w ⟨1,0,none⟩ (strL.map fun n=>i64 (n:Nat))
 sg:zav w ⟨2,0,none⟩ (zb1.map strV)
 nd:zav w ⟨0,0,none⟩ (zhH.map i64)
 lt:3<w.heap.size
theorem GlobK.below {w w2:World} (h:GlobK w) (hb:Bw w w2):GlobK w2 :=
 ⟨zar hb h.op,zar hb h.st,zar hb h.sg,zar hb h.nd,nL h.lt hb.size⟩
theorem zbq (c k:UInt8):decide ((c.toNat:Int)=(k.toNat:Int))=decide (c=k):=by
 rw [Kd];constructor
 ·intro h;exact Kh.1 (by omega)
 ·rintro rfl;rfl
theorem zfQ {s:Bs} {k:Nat} (h:k<s.length):(bs s).data.toList[k]?=some s[k]:=by
 show s[k]?=_;exact gE h
theorem zhQ (c:UInt8) (w:World):Calls Tryz.prog 156 #[u8 c] w fun e w'=>e = .returned (.bool (zc6 c))/\w=w':=by
 refine cofE 9 [u8 c] Tryz.func156 ?_;refine biE (fun h=>?_) fun h=>?_
 ·have h:(97:Int)<=(c.toNat:Int):=dT h;refine⟨rb ?_,rfl⟩;unfold zc6;rw [Ka (p:=97<=c.toNat) (by omega),Js];show decide ((c.toNat:Int)<=122)=_;rw [Kd];omega
 ·have h:¬ (97:Int)<=(c.toNat:Int):=dF h;refine⟨rb ?_,rfl⟩;unfold zc6;rw [Kb (p:=97<=c.toNat) (by omega)];rfl
theorem zj2 (c:UInt8) (w:World):Calls Tryz.prog 160 #[u8 c] w fun e w'=>e = .returned (.bool (zbY c))/\w=w':=by
 refine cofE 9 [u8 c] Tryz.func160 ?_;refine biE (fun h=>?_) fun h=>?_
 ·have h:(65:Int)<=(c.toNat:Int):=dT h;refine⟨rb ?_,rfl⟩;unfold zbY;rw [Ka (p:=65<=c.toNat) (by omega),Js];show decide ((c.toNat:Int)<=90)=_;rw [Kd];omega
 ·have h:¬ (65:Int)<=(c.toNat:Int):=dF h;refine⟨rb ?_,rfl⟩;unfold zbY;rw [Kb (p:=65<=c.toNat) (by omega)];rfl
theorem zpf (c:UInt8) (w:World):Calls Tryz.prog 154 #[u8 c] w fun e w'=>e = .returned (.bool (zbE c))/\w=w':=by
 refine cofE 9 [u8 c] Tryz.func154 ?_;unfold zbE;refine biE (fun h=>?_) fun h=>?_
 ·have h:decide (c=32)=true:=(zbq c 32).symm.trans h;exact⟨rb (by rw [h];rfl),rfl⟩
 ·have h:decide (c=32)=false:=(zbq c 32).symm.trans h;exact⟨rb (by rw [h];exact zbq c 9),rfl⟩
theorem zqr (c:UInt8) (w:World):Calls Tryz.prog 155 #[u8 c] w fun e w'=>e = .returned (.bool (zhC c))/\w=w':=by
 refine cofE 5 [u8 c] Tryz.func155 ?_;refine⟨rb ?_,rfl⟩;unfold zhC;have:=zbq c 10;rw [decide_not,<- this];rfl
theorem zoW (c:UInt8) (w:World):Calls Tryz.prog 157 #[u8 c] w fun e w'=>e = .returned (.bool (zbm c))/\w=w':=by
 refine cofE 17 [u8 c] Tryz.func157 ?_;refine cmo (zhQ c w) ?_;rintro e _ ⟨rfl,rfl⟩;unfold zbm;refine biE (fun h=>?_) fun h=>?_
 ·have h:zc6 c=true:=h;refine brT ?_;exact⟨rb (by rw [h];rfl),rfl⟩
 have h:zc6 c=false:=h;rw [h];refine biE (fun h1=>?_) fun h1=>?_
 ·have h1:(48:Int)<=(c.toNat:Int):=dT h1;have e1:decide (48<=c.toNat)=true:=Ka (by omega);rw [e1];refine biE (fun h2=>?_) fun h2=>?_
  ·have h2:(c.toNat:Int)<=57:=dT h2;exact⟨rb (by rw [Ka (p:=c.toNat<=57) (by omega)];rfl),rfl⟩
  ·have h2:¬ (c.toNat:Int)<=57:=dF h2;exact⟨rb (by rw [Kb (p:=c.toNat<=57) (by omega)];exact zbq c 45),rfl⟩
 ·have h1:¬ (48:Int)<=(c.toNat:Int):=dF h1;refine brF ?_;exact⟨rb (by rw [Kb (p:=48<=c.toNat) (by omega)];exact zbq c 45),rfl⟩
theorem zdG {p:UInt8->Bool} {s:Bs} {k:Nat} (h:k<s.length):runE p s k=if p s[k] then runE p s (k+1) else k:=by
 unfold runE runL;rw [JH h,List.takeWhile_cons]
 split
 ·rw [Jq];omega
 ·rfl
theorem zfw {p:UInt8->Bool} {s:Bs} {k:Nat} (h:s.length<=k):runE p s k=k:=by
 unfold runE runL;rw [JI h];rfl
theorem zeh {p:UInt8->Bool} {s:Bs} {k:Nat} (h:k<=s.length):runE p s k<=s.length:=by
 unfold runE runL;have:=(List.takeWhile_sublist p (l:=s.drop k)).length_le;rw [Ks] at this;omega
theorem zkd {p:UInt8->Bool} {s:Bs} {k:Nat}:k<=runE p s k:=Nat.le_add_right _ _
theorem zkc {p:UInt8->Bool} {s:Bs} {k:Nat}:(s.drop k).take (runE p s k-k)=runL p s k:=by
 unfold runE;rw [Nat.add_sub_cancel_left];unfold runL;exact (List.prefix_iff_eq_take.1 (List.takeWhile_prefix p)).symm
theorem zma (s:Bs) (a:Nat) (ha:a<=s.length) (hs:s.length<=140737488351232) (w:World):Calls Tryz.prog 153 #[strV s,i64 (a:Nat),.func (.func 154) #[] #[]] w fun e w'=>e = .returned (i64 (runE zbE s a:Nat))/\w=w':=by
 refine cofE 21 [strV s,i64 (a:Nat),.func (.func 154) #[] #[]] Tryz.func153 ?_;refine⟨Nat,fun k=>⟨[(0,strV s),(1,.int .i64 (k:Nat)),(2,.func (.func 154) #[] #[])],[]⟩,fun k X=>k<=s.length/\runE zbE s k=runE zbE s a/\w=X,fun k=>s.length-k,a,(cvE rfl rfl),⟨ha,rfl,rfl⟩,?_⟩;rintro k _ ⟨hk,he,rfl⟩;dsimp only at hk he ⊢;refine biE (fun hc=>?_) fun hc=>?_
 ·have hc:(k:Int)<(s.length:Int):=dT hc;have hl:k<s.length:=by omega
  refine⟨k,rfl,hl,s[k],zfQ hl,?_⟩;refine cmo (zpf _ _) ?_;rintro e _ ⟨rfl,rfl⟩;refine biE (fun hi=>?_) fun hi=>?_
  ·have hi:zbE s[k]=true:=hi;refine⟨(k+1:Nat),(zaj (by omega)).trans (by omega),?_⟩;refine⟨k+1,(cvE rfl rfl),⟨hl,?_,rfl⟩,zdc (by omega)⟩;rw [zdG hl,Kc hi] at he;exact he
  ·have hi:zbE s[k]=false:=hi;rw [zdG hl,JZ (by rw [hi];exact JU)] at he;exact⟨by rw [<- he];rfl,rfl⟩
 ·have hc:¬ (k:Int)<(s.length:Int):=dF hc;refine brF ?_;rw [zfw (by omega)] at he;exact⟨by rw [<- he];rfl,rfl⟩
theorem zom (s:Bs) (a:Nat) (ha:a<=s.length) (hs:s.length<=140737488351232) (w:World):Calls Tryz.prog 153 #[strV s,i64 (a:Nat),.func (.func 155) #[] #[]] w fun e w'=>e = .returned (i64 (runE zhC s a:Nat))/\w=w':=by
 refine cofE 21 [strV s,i64 (a:Nat),.func (.func 155) #[] #[]] Tryz.func153 ?_;refine⟨Nat,fun k=>⟨[(0,strV s),(1,.int .i64 (k:Nat)),(2,.func (.func 155) #[] #[])],[]⟩,fun k X=>k<=s.length/\runE zhC s k=runE zhC s a/\w=X,fun k=>s.length-k,a,(cvE rfl rfl),⟨ha,rfl,rfl⟩,?_⟩;rintro k _ ⟨hk,he,rfl⟩;dsimp only at hk he ⊢;refine biE (fun hc=>?_) fun hc=>?_
 ·have hc:(k:Int)<(s.length:Int):=dT hc;have hl:k<s.length:=by omega
  refine⟨k,rfl,hl,s[k],zfQ hl,?_⟩;refine cmo (zqr _ _) ?_;rintro e _ ⟨rfl,rfl⟩;refine biE (fun hi=>?_) fun hi=>?_
  ·have hi:zhC s[k]=true:=hi;refine⟨(k+1:Nat),(zaj (by omega)).trans (by omega),?_⟩;refine⟨k+1,(cvE rfl rfl),⟨hl,?_,rfl⟩,zdc (by omega)⟩;rw [zdG hl,Kc hi] at he;exact he
  ·have hi:zhC s[k]=false:=hi;rw [zdG hl,JZ (by rw [hi];exact JU)] at he;exact⟨by rw [<- he];rfl,rfl⟩
 ·have hc:¬ (k:Int)<(s.length:Int):=dF hc;refine brF ?_;rw [zfw (by omega)] at he;exact⟨by rw [<- he];rfl,rfl⟩
theorem zir (s:Bs) (a:Nat) (ha:a<=s.length) (hs:s.length<=140737488351232) (w:World):Calls Tryz.prog 153 #[strV s,i64 (a:Nat),.func (.func 157) #[] #[]] w fun e w'=>e = .returned (i64 (runE zbm s a:Nat))/\w=w':=by
 refine cofE 21 [strV s,i64 (a:Nat),.func (.func 157) #[] #[]] Tryz.func153 ?_;refine⟨Nat,fun k=>⟨[(0,strV s),(1,.int .i64 (k:Nat)),(2,.func (.func 157) #[] #[])],[]⟩,fun k X=>k<=s.length/\runE zbm s k=runE zbm s a/\w=X,fun k=>s.length-k,a,(cvE rfl rfl),⟨ha,rfl,rfl⟩,?_⟩;rintro k _ ⟨hk,he,rfl⟩;dsimp only at hk he ⊢;refine biE (fun hc=>?_) fun hc=>?_
 ·have hc:(k:Int)<(s.length:Int):=dT hc;have hl:k<s.length:=by omega
  refine⟨k,rfl,hl,s[k],zfQ hl,?_⟩;refine cmo (zoW _ _) ?_;rintro e _ ⟨rfl,rfl⟩;refine biE (fun hi=>?_) fun hi=>?_
  ·have hi:zbm s[k]=true:=hi;refine⟨(k+1:Nat),(zaj (by omega)).trans (by omega),?_⟩;refine⟨k+1,(cvE rfl rfl),⟨hl,?_,rfl⟩,zdc (by omega)⟩;rw [zdG hl,Kc hi] at he;exact he
  ·have hi:zbm s[k]=false:=hi;rw [zdG hl,JZ (by rw [hi];exact JU)] at he;exact⟨by rw [<- he];rfl,rfl⟩
 ·have hc:¬ (k:Int)<(s.length:Int):=dF hc;refine brF ?_;rw [zfw (by omega)] at he;exact⟨by rw [<- he];rfl,rfl⟩
theorem zl7 (s:Bs) (a:Nat) (ha:a<=s.length) (hs:s.length<=140737488351232) (w:World):Calls Tryz.prog 153 #[strV s,i64 (a:Nat),.func (.func 160) #[] #[]] w fun e w'=>e = .returned (i64 (runE zbY s a:Nat))/\w=w':=by
 refine cofE 21 [strV s,i64 (a:Nat),.func (.func 160) #[] #[]] Tryz.func153 ?_;refine⟨Nat,fun k=>⟨[(0,strV s),(1,.int .i64 (k:Nat)),(2,.func (.func 160) #[] #[])],[]⟩,fun k X=>k<=s.length/\runE zbY s k=runE zbY s a/\w=X,fun k=>s.length-k,a,(cvE rfl rfl),⟨ha,rfl,rfl⟩,?_⟩;rintro k _ ⟨hk,he,rfl⟩;dsimp only at hk he ⊢;refine biE (fun hc=>?_) fun hc=>?_
 ·have hc:(k:Int)<(s.length:Int):=dT hc;have hl:k<s.length:=by omega
  refine⟨k,rfl,hl,s[k],zfQ hl,?_⟩;refine cmo (zj2 _ _) ?_;rintro e _ ⟨rfl,rfl⟩;refine biE (fun hi=>?_) fun hi=>?_
  ·have hi:zbY s[k]=true:=hi;refine⟨(k+1:Nat),(zaj (by omega)).trans (by omega),?_⟩;refine⟨k+1,(cvE rfl rfl),⟨hl,?_,rfl⟩,zdc (by omega)⟩;rw [zdG hl,Kc hi] at he;exact he
  ·have hi:zbY s[k]=false:=hi;rw [zdG hl,JZ (by rw [hi];exact JU)] at he;exact⟨by rw [<- he];rfl,rfl⟩
 ·have hc:¬ (k:Int)<(s.length:Int):=dF hc;refine brF ?_;rw [zfw (by omega)] at he;exact⟨by rw [<- he];rfl,rfl⟩
theorem zoM (s:Bs):zd8 s<=4:=by
 have:=List.findIdx_le_length (xs:=zaW) (p:=fun w=>decide (w=s));exact this
def zgg (s:Bs):Int:=if zd8 s<4 then (zd8 s:Nat) else -1
theorem zoN {s:Bs} {k:Nat} (hk:k<zaW.length) (h:zaW[k]=s) (hno:∀ j (hj:j<zaW.length),j<k->zaW[j]≠s):zd8 s=k:=by
 unfold zd8;have h2:zaW.findIdx (fun w=>decide (w=s))<=k:=by
  refine Nat.le_of_not_lt fun hlt2=>?_;have:=List.not_of_lt_findIdx hlt2;simp [h] at this
 have h3:zaW.findIdx (fun w=>decide (w=s))<zaW.length:=Nat.lt_of_le_of_lt h2 hk;have h4:zaW[zaW.findIdx (fun w=>decide (w=s))]=s:=by
  have:=List.findIdx_getElem (w:=h3);exact dT this
 rcases Nat.lt_or_ge (zaW.findIdx (fun w=>decide (w=s))) k with h5 | h5
 ·exact Kv h4 (hno _ h3 h5)
 ·omega
theorem zkx (s:Bs) (w:World) (hg:GlobK w):Calls Tryz.prog 106 #[strV s] w fun e w'=>e = .returned (i64 (zgg s))/\w=w':=by
 refine cofE 15 [strV s] Tryz.func106 ?_;refine⟨zaW.map strV,rfl,hg.op,hg.lt,?_⟩;refine⟨Nat,fun k=>⟨[(0,strV s),(5,.agg (zaW.map strV).toArray),(6,.int .i64 (k:Nat))],[]⟩,fun k V=>k<=4/\(∀ j (hj:j<zaW.length),j<k->zaW[j]≠s)/\w=V,fun k=>4-k,0,
  (cvE rfl rfl),⟨Jh _,fun _ _ h=>Kv h (by omega),rfl⟩,?_⟩
 rintro k _ ⟨hk,hno,rfl⟩;refine biE (fun h=>?_) fun h=>?_
 ·have h:(k:Int)<4:=dT h;have hkl:k<zaW.length:=by show k<4;omega
  refine⟨k,rfl,by omega,?_⟩;have hget:(zaW.map strV)[k*1]?=some (strV zaW[k]):=by
   rw [Jp,Jm,gE hkl];rfl
  refine zcO hget ?_;refine⟨_,fun w=>zax _ _ zaW[k] s w,?_⟩;refine biE (fun h1=>?_) fun h1=>?_
  ·have h1:zaW[k]=s:=dT h1;have hi:=zoN hkl h1 hno;refine Jn ?_ rfl;unfold zgg;rw [hi,Kc (by omega)];rfl
  ·have h1:¬ zaW[k]=s:=dF h1;refine⟨(k+1:Nat),(zaj (by omega)).trans (by omega),?_⟩;refine⟨k+1,(cvE rfl rfl),⟨by omega,fun j hj hjk=>?_,rfl⟩,by dsimp only;omega⟩;by_cases e:j=k
   ·subst e;exact h1
   ·exact hno j hj (by omega)
 ·have h:¬ (k:Int)<4:=dF h;have hi:¬ zd8 s<4:=fun h3=>by
   have h3:zaW.findIdx (fun w=>decide (w=s))<zaW.length:=h3;have h4:zaW[zaW.findIdx (fun w=>decide (w=s))]=s:=dT (List.findIdx_getElem (w:=h3));exact hno _ h3 (by have:zaW.length=4:=rfl;omega) h4
  refine Jn ?_ rfl;unfold zgg;rw [JZ hi];rfl
theorem zmU (s:Bs):decide ((0:Int)<=zgg s)=decide (zd8 s<4):=by
 unfold zgg;rw [Kd]
 split <;> omega
theorem zmX (s:Bs) (w:World) (hg:GlobK w):Calls Tryz.prog 158 #[strV s] w fun e w'=>e = .returned (.bool (keyB s))/\w=w':=by
 refine cofE 10 [strV s] Tryz.func158 ?_;unfold keyB;refine⟨_,fun w=>zax _ _ s [97,115] w,?_⟩;refine biE (fun h=>?_) fun h=>?_
 ·have h:decide (s=[97,115])=true:=h;exact⟨rb (by rw [h];rfl),rfl⟩
 ·have h:decide (s=[97,115])=false:=h;rw [h];refine cmo (zkx s w hg) ?_;rintro e _ ⟨rfl,rfl⟩;exact⟨rb (zmU s),rfl⟩
theorem za3 {s w:Bs} (h:decide (s=w)=false):decide (w=s)=false:=Kb fun e=>dF h e.symm
theorem zhU (s:Bs) (w:World):Calls Tryz.prog 93 #[strV s] w fun e w'=>e = .returned (.bool (relB s))/\w=w':=by
 refine cofE 16 [strV s] Tryz.func93 ?_;refine⟨_,fun w=>zax _ _ s [112,111] w,?_⟩;refine biE (fun h0=>?_) fun h0=>?_
 ·refine brE h0 ?_;have e:s=[112,111]:=dT h0;exact⟨rb (by rw [e];rfl),rfl⟩
 refine⟨_,fun w=>zax _ _ s [114,102] w,?_⟩;refine biE (fun h1=>?_) fun h1=>?_
 ·refine brE h1 ?_;have e:s=[114,102]:=dT h1;exact⟨rb (by rw [e];rfl),rfl⟩
 refine⟨_,fun w=>zax _ _ s [99,111] w,?_⟩;refine biE (fun h2=>?_) fun h2=>?_
 ·refine brE h2 ?_;have e:s=[99,111]:=dT h2;exact⟨rb (by rw [e];rfl),rfl⟩
 refine⟨_,fun w=>zax _ _ s [102,114] w,?_⟩;refine biE (fun h3=>?_) fun h3=>?_
 ·refine brE h3 ?_;have e:s=[102,114]:=dT h3;exact⟨rb (by rw [e];rfl),rfl⟩
 refine⟨_,fun w=>zax _ _ s [114,109,119] w,?_⟩;refine biE (fun h4=>?_) fun h4=>?_
 ·refine brE h4 ?_;have e:s=[114,109,119]:=dT h4;exact⟨rb (by rw [e];rfl),rfl⟩
 refine⟨_,fun w=>zax _ _ s [100,97,116,97] w,?_⟩;refine biE (fun h5=>?_) fun h5=>?_
 ·refine brE h5 ?_;have e:s=[100,97,116,97]:=dT h5;exact⟨rb (by rw [e];rfl),rfl⟩
 refine⟨_,fun w=>zax _ _ s [99,116,114,108] w,?_⟩;refine biE (fun h6=>?_) fun h6=>?_
 ·refine brE h6 ?_;have e:s=[99,116,114,108]:=dT h6;exact⟨rb (by rw [e];rfl),rfl⟩
 refine⟨_,fun w=>zax _ _ s [108,111,99] w,?_⟩;refine biE (fun h7=>?_) fun h7=>?_
 ·refine brE h7 ?_;have e:s=[108,111,99]:=dT h7;exact⟨rb (by rw [e];rfl),rfl⟩
 refine⟨_,fun w=>zax _ _ s [105,100] w,?_⟩;refine biE (fun h8=>?_) fun h8=>?_
 ·refine brE h8 ?_;have e:s=[105,100]:=dT h8;exact⟨rb (by rw [e];rfl),rfl⟩
 refine⟨_,fun w=>zax _ _ s [101,120,116] w,?_⟩;refine biE (fun h9=>?_) fun h9=>?_
 ·refine brE h9 ?_;have e:s=[101,120,116]:=dT h9;exact⟨rb (by rw [e];rfl),rfl⟩
 refine⟨_,fun w=>zax _ _ s [105,110,116] w,?_⟩;refine biE (fun h10=>?_) fun h10=>?_
 ·have e:s=[105,110,116]:=dT h10;exact⟨rb (by rw [e];rfl),rfl⟩
 refine⟨rb ?_,rfl⟩;unfold relB;simp only [List.any_cons,List.any_nil,za3 h0,za3 h1,za3 h2,za3 h3,za3 h4,za3 h5,za3 h6,za3 h7,za3 h8,za3 h9,za3 h10,Bool.or_false]
theorem zmW (s:Bs) (w:World):Calls Tryz.prog 94 #[strV s] w fun e w'=>e = .returned (.bool (setB s))/\w=w':=by
 refine cofE 16 [strV s] Tryz.func94 ?_;refine⟨_,fun w=>zax _ _ s [82] w,?_⟩;refine biE (fun h0=>?_) fun h0=>?_
 ·refine brE h0 ?_;have e:s=[82]:=dT h0;exact⟨rb (by rw [e];rfl),rfl⟩
 refine⟨_,fun w=>zax _ _ s [87] w,?_⟩;refine biE (fun h1=>?_) fun h1=>?_
 ·refine brE h1 ?_;have e:s=[87]:=dT h1;exact⟨rb (by rw [e];rfl),rfl⟩
 refine⟨_,fun w=>zax _ _ s [70] w,?_⟩;refine biE (fun h2=>?_) fun h2=>?_
 ·refine brE h2 ?_;have e:s=[70]:=dT h2;exact⟨rb (by rw [e];rfl),rfl⟩
 refine⟨_,fun w=>zax _ _ s [77] w,?_⟩;refine biE (fun h3=>?_) fun h3=>?_
 ·refine brE h3 ?_;have e:s=[77]:=dT h3;exact⟨rb (by rw [e];rfl),rfl⟩
 refine⟨_,fun w=>zax _ _ s [65] w,?_⟩;refine biE (fun h4=>?_) fun h4=>?_
 ·refine brE h4 ?_;have e:s=[65]:=dT h4;exact⟨rb (by rw [e];rfl),rfl⟩
 refine⟨_,fun w=>zax _ _ s [76] w,?_⟩;refine biE (fun h5=>?_) fun h5=>?_
 ·refine brE h5 ?_;have e:s=[76]:=dT h5;exact⟨rb (by rw [e];rfl),rfl⟩
 refine⟨_,fun w=>zax _ _ s [88] w,?_⟩;refine biE (fun h6=>?_) fun h6=>?_
 ·refine brE h6 ?_;have e:s=[88]:=dT h6;exact⟨rb (by rw [e];rfl),rfl⟩
 refine⟨_,fun w=>zax _ _ s [70,70] w,?_⟩;refine biE (fun h7=>?_) fun h7=>?_
 ·refine brE h7 ?_;have e:s=[70,70]:=dT h7;exact⟨rb (by rw [e];rfl),rfl⟩
 refine⟨_,fun w=>zax _ _ s [70,76] w,?_⟩;refine biE (fun h8=>?_) fun h8=>?_
 ·refine brE h8 ?_;have e:s=[70,76]:=dT h8;exact⟨rb (by rw [e];rfl),rfl⟩
 refine⟨_,fun w=>zax _ _ s [70,83] w,?_⟩;refine biE (fun h9=>?_) fun h9=>?_
 ·refine brE h9 ?_;have e:s=[70,83]:=dT h9;exact⟨rb (by rw [e];rfl),rfl⟩
 refine⟨_,fun w=>zax _ _ s [73] w,?_⟩;refine biE (fun h10=>?_) fun h10=>?_
 ·have e:s=[73]:=dT h10;exact⟨rb (by rw [e];rfl),rfl⟩
 refine⟨rb ?_,rfl⟩;unfold setB;simp only [List.any_cons,List.any_nil,za3 h0,za3 h1,za3 h2,za3 h3,za3 h4,za3 h5,za3 h6,za3 h7,za3 h8,za3 h9,za3 h10,Bool.or_false]
def zaO (t:Tk):List Value:=[u8n t.kind,strV t.text,i64 (t.at_:Nat)]
theorem zj8 (k:Nat) (t:Bs) (a:Nat) (w:World):CB 159 #[u8n k,strV t,i64 (a:Nat)] w (.agg (zaO (zcr k t a)).toArray):=by
 refine cofE 16 [u8n k,strV t,i64 (a:Nat)] Tryz.func159 ?_;have f0:=hnew w (.cells #[.int .u8 0,strV [],i64 0] 134);have b0:Bw w (w.alloc (.cells #[.int .u8 0,strV [],i64 0] 134)):=zba w _;have fin:∀ {T:Tk} {K:World->Prop},(∀ Y,Bw w Y->Y.heap[w.heap.size]?=some (.cells (zaO T).toArray 134 (0,0))->K Y)->SatR ((storeVar 134 ⟨w.heap.size,0,none⟩ (.agg (zaO T).toArray)).run Tryz.prog (w.alloc (.cells #[.int .u8 0,strV [],i64 0] 134))) fun _ w'=>K w' :=
  fun {T K} k=>zao k134 f0 rfl rfl rfl (k _ (zah b0 (Jb _) _) (zal f0))
 refine biE (fun h=>?_) fun h=>?_
 ·have h:(16:Int)<(t.length:Int):=dT h;have e1:zcr k t a=⟨0,[],a⟩:=by unfold zcr;rw [Kc (by omega)]
  rw [e1];refine⟨zaO ⟨0,[],a⟩,rfl,?_⟩;refine fin (T:=⟨0,[],a⟩) fun Y hb f=>?_;exact⟨zaO ⟨0,[],a⟩,rfl,zaa f,rfl,hb⟩
 ·have h:¬ (16:Int)<(t.length:Int):=dF h;have e1:zcr k t a=⟨k,t,a⟩:=by unfold zcr;rw [JZ (by omega)]
  rw [e1];refine⟨zaO ⟨k,t,a⟩,rfl,?_⟩;refine fin (T:=⟨k,t,a⟩) fun Y hb f=>?_;exact⟨zaO ⟨k,t,a⟩,rfl,zaa f,rfl,hb⟩
end Go.Proofs.YtnadlhpkpnfmbaaGreatDoor
namespace Go.Proofs
open Go.Shelf
def Tryz.lays137_ren:Go.Shelf.Ren:=⟨fun | 137=>161 | 217=>204 | 266=>235 | n=>n,fun | 9=>9 | 5=>5 | 3=>3 | n=>n,fun | n=>n⟩
theorem Tryz.lays137:Go.Proofs.Lays.n137 Tryz.prog Tryz.lays137_ren:={
 mixed:=by kernel_rfl
 f137:=Tryz.func161.trans (congrArg some (by kernel_rfl))
 f217:=Tryz.func204.trans (congrArg some (by kernel_rfl))
 f266:=Tryz.func235.trans (congrArg some (by kernel_rfl))
 t3:=Tryz.underlying3
 a3:=Tryz.isAgg3
 z3:=Tryz.sizeOf3
 v3:=Tryz.zeroValue3
 t5:=Tryz.underlying5
 a5:=Tryz.isAgg5
 z5:=Tryz.sizeOf5
 v5:=Tryz.zeroValue5
 t9:=Tryz.underlying9
 a9:=Tryz.isAgg9
 z9:=Tryz.sizeOf9
 v9:=Tryz.zeroValue9 }
open Go.RowKit in
theorem Tryz.strings_IndexByte (s:ByteArray) (c:Int) (w:World) :
  Calls Tryz.prog 161 #[.string s,.int .u8 c] w fun e w'=>e = .returned (.int .i64 (Lib.indexByte s.data.toList c.toNat.toUInt8))∧w'=w:=Any.strings_IndexByte Tryz.lays137 s c w
def Tryz.lays99_ren:Go.Shelf.Ren:=⟨fun | 99=>73 | 206=>124 | n=>n,fun | 9=>9 | 4=>4 | 3=>3 | n=>n,fun | n=>n⟩
theorem Tryz.lays99:Go.Proofs.Lays.n99 Tryz.prog Tryz.lays99_ren:={
 mixed:=by kernel_rfl
 f99:=Tryz.func73.trans (congrArg some (by kernel_rfl))
 f206:=Tryz.func124.trans (congrArg some (by kernel_rfl))
 t3:=Tryz.underlying3
 a3:=Tryz.isAgg3
 z3:=Tryz.sizeOf3
 v3:=Tryz.zeroValue3
 t4:=Tryz.underlying4
 a4:=Tryz.isAgg4
 z4:=Tryz.sizeOf4
 v4:=Tryz.zeroValue4
 t9:=Tryz.underlying9
 a9:=Tryz.isAgg9
 z9:=Tryz.sizeOf9
 v9:=Tryz.zeroValue9 }
open Go.RowKit Go.Lib in
theorem Tryz.strings_HasPrefix (s p:ByteArray) (w:World) :
  Calls Tryz.prog 73 #[.string s,.string p] w fun e w'=>e = .returned (.bool (Lib.hasPrefix s.data.toList p.data.toList))∧w'=w:=Any.strings_HasPrefix Tryz.lays99 s p w
end Go.Proofs
namespace Go.Proofs.YtnadlhpkpnfmbaaGreatDoor
open Go.Vc Go.RowKit Go.Sei
theorem zoY (l:Bs) (c:UInt8):decide ((0:Int)<=Lib.indexByte l c)=decide (c∈l):=by
 have low:∀ l:Bs,-1<=Lib.indexByte l c:=fun l=>by
  induction l with
  | nil=>exact Int.le_refl _
  | cons b r ih =>
   unfold Lib.indexByte
   split
   ·omega
   ·split <;> omega
 rw [Kd]
 induction l with
 | nil=>exact⟨fun h=>Kv h (by unfold Lib.indexByte;decide),fun h=>by cases h⟩
 | cons b r ih =>
  unfold Lib.indexByte;by_cases hb:b=c
  ·subst hb;rw [Kc (by simp)];exact⟨fun _=>Jv,fun _=>Int.le_refl _⟩
  ·rw [JZ (by simpa using hb)];have hl:=low r;by_cases h1:Lib.indexByte r c = -1
   ·rw [Kc (by simpa using h1)];refine⟨fun h=>Kv h (by decide),fun h=>?_⟩;rcases JV.1 h with h | h
    ·exact Kv h.symm hb
    ·have:=ih.2 h;omega
   ·rw [JZ (by simpa using h1)];refine⟨fun _=>JB _ (ih.1 (by omega)),fun _=>by omega⟩
theorem preB (s:Bs) (a:Nat):Lib.hasPrefix (s.drop a) [94,45,49]=decide ((s.drop a).take 3=[94,45,49]):=by
 unfold Lib.hasPrefix;rw [Bool.eq_iff_iff,List.isPrefixOf_iff_prefix,dE,List.prefix_iff_eq_take];exact eq_comm
theorem zlZ {s:Bs} {a:Nat} (h:a<=s.length):zfR s a<=s.length:=by
 unfold zfR
 split
 ·exact zeh (zeh h)
 ·exact zeh h
theorem zp2 {s:Bs} {a:Nat} (h:a<=s.length):(zc1 s a).at_+(zc1 s a).text.length<=s.length:=by
 have sh:∀ {k:Nat} {t:Bs} {a:Nat},a+t.length<=s.length->(zcr k t a).at_+(zcr k t a).text.length<=s.length:=fun {k t a} h=>by
  unfold zcr
  split
  ·show a+0<=_;omega
  ·exact h
 have rl:∀ {p:UInt8->Bool},a+(runL p s a).length<=s.length:=fun {p}=>zeh h;unfold zc1
 split
 ·exact h
 ·rename_i c hc;have hl:=(Ju.1 hc).1
  split
  ·show a+1<=_;omega
  ·split
   ·split
    ·exact rl
    ·exact sh rl
   ·split
    ·exact sh rl
    ·split
     ·show a+1<=_;omega
     ·split
      ·rename_i h3;have:=congrArg List.length h3;rw [JD,Ks] at this;show a+3<=_;simp at this;omega
      ·exact h
theorem zol {s:Bs} {a:Nat} (h:a<=s.length):(zaz s a).at_+(zaz s a).text.length<=s.length:=zp2 (zlZ h)
theorem zh8 (s:Bs) (a b:Nat):(bs s).extract a b=bs ((s.drop a).take (b-a)):=by
 have:((bs s).extract a b).data.toList=(s.drop a).take (b-a):=by
  simp [bs]
 have h2:(bs ((s.drop a).take (b-a))).data.toList=(s.drop a).take (b-a):=rfl;exact congrArg (fun l:List UInt8=>(⟨⟨l⟩⟩:ByteArray)) (this.trans h2.symm)
section
variable {s:Bs} {a:Nat} {w:World}
theorem zp8 (hg:GlobK w) (ha:a<=s.length) (hs:s.length<=140737488351232):CB 105 #[strV s,i64 (a:Nat)] w (.agg (zaO (zaz s a)).toArray):=by
 refine cofM 90 [strV s,i64 (a:Nat)] (.c .p (.s .p (.c .p .p))) Tryz.func105 ?_;refine⟨Unit,fun _=>⟨[(0,strV s),(1,i64 (a:Nat)),(4,At0 w.heap.size)],[]⟩,fun _ X=>X.heap[w.heap.size]?=some (.cells #[.int .u8 0,strV [],i64 0] 134 (0,0))/\Bw w X,⟨(),(cvE rfl rfl),hnew w _,zba _ _⟩,?_⟩;rintro _ X ⟨f0,b0⟩;have gX:=hg.below b0;refine cmo (zma s a ha hs X) ?_;rintro e _ ⟨rfl,rfl⟩;have h1:=zeh (p:=zbE) ha;obtain⟨k,hk⟩:=nm (zfR s a);have hkl:k<=s.length:=by rw [hk];exact zlZ ha
 refine⟨Unit,fun _=>⟨[(0,strV s),(1,i64 (k:Nat)),(4,.pointer (some ⟨w.heap.size,0,none⟩))],[]⟩,fun _ Y=>X=Y,?_,?_⟩
 ·have no:∀ {n:Nat},n=runE zbE s a->s[n]?≠some 35->n=k:=fun {n} e h=>by
   rw [hk,e];unfold zfR;rw [JZ (by rw [<- e];exact h)]
  refine biE (fun hc=>?_) fun hc=>?_
  ·have hc:(runE zbE s a:Int)<(s.length:Int):=dT hc;have hl:runE zbE s a<s.length:=by omega
   refine⟨runE zbE s a,rfl,hl,s[runE zbE s a],zfQ hl,biE (fun h2=>?_) fun h2=>?_⟩
   ·have h2:s[runE zbE s a]=35:=dT ((zbq _ 35).symm.trans h2);refine cmo (zom s (runE zbE s a) h1 hs X) ?_;rintro e _ ⟨rfl,rfl⟩;have e:runE zhC s (runE zbE s a)=k:=by
     rw [hk];unfold zfR;rw [Kc (by rw [gE hl,h2])]
    exact⟨(),⟨.cons rfl (.cons (congrArg (fun n:Nat=>some (i64 (n:Nat))) e) (.cons rfl .nil)),rfl⟩,rfl⟩
   ·have h2:s[runE zbE s a]≠35:=dF ((zbq _ 35).symm.trans h2);have e:=no rfl (by rw [gE hl];intro e;exact h2 (Jg e));exact⟨(),⟨.cons rfl (.cons (congrArg (fun n:Nat=>some (i64 (n:Nat))) e) (.cons rfl .nil)),rfl⟩,rfl⟩
  ·have hc:¬ (runE zbE s a:Int)<(s.length:Int):=dF hc;refine brF ?_;have e:=no rfl (by rw [Jo (by omega)];exact fun h=>by cases h);exact⟨(),⟨.cons rfl (.cons (congrArg (fun n:Nat=>some (i64 (n:Nat))) e) (.cons rfl .nil)),rfl⟩,rfl⟩
 rintro _ _ rfl;have es:zaz s a=zc1 s k:=by rw [hk];rfl
 rw [es];clear es hk h1;have fin:∀ {T:Tk} {Z:World} {K:World->Prop},Bw X Z->(∀ Y,Bw w Y->Y.heap[w.heap.size]?=some (.cells (zaO T).toArray 134 (0,0))->K Y)->SatR ((storeVar 134 ⟨w.heap.size,0,none⟩ (.agg (zaO T).toArray)).run Tryz.prog Z) fun _ w'=>K w' :=
  fun {T Z K} hb k=>zao k134 (zab hb f0) rfl rfl rfl (k _ (zah ((zst b0 hb)) (Jb _) _) (zal (zab hb f0)))
 have out:∀ {T:Tk} {Y:World},Bw w Y->Y.heap[w.heap.size]?=some (.cells (zaO T).toArray 134 (0,0))->T=zc1 s k->∃ us:List Value,us.length=3/\zav Y ⟨w.heap.size,0,none⟩ us/\Ending.returned (zcp [.agg us.toArray]) = .returned (.agg (zaO (zc1 s k)).toArray)/\Bw w Y :=
  fun {T Y} hb f e=>⟨zaO T,rfl,zaa f,by rw [e];rfl,hb⟩
 refine biE (fun hc=>?_) fun hc=>?_
 ·have hc:(k:Int)=(s.length:Int):=dT hc;refine⟨zaO ⟨1,[],k⟩,rfl,fin (T:=⟨1,[],k⟩) (Ja _ _) fun Y hb f=>out hb f ?_⟩;unfold zc1;rw [Jo (by omega)]
 have hc:¬ (k:Int)=(s.length:Int):=dF hc;have hl:k<s.length:=by omega
 refine⟨k,rfl,hl,s[k],zfQ hl,?_⟩;obtain⟨c,hcc⟩:=nm (s[k]);rw [<- hcc];have ek:s[k]?=some c:=by rw [gE hl,hcc]
 have ew:((k+1:Nat):Int)=(k:Int)+1:=by omega
 have cut1:(s.drop k).take 1=[c]:=by rw [JH hl,hcc];rfl
 have hcut1:(bs s).extract k (k+1)=bs [c]:=by rw [zh8,Nat.add_sub_cancel_left,cut1]
 refine biE (fun h10=>?_) fun h10=>?_
 ·have h10:c=10:=dT ((zbq c 10).symm.trans h10);have e:zc1 s k=⟨2,[c],k⟩:=by unfold zc1;rw [ek];simp only [Kc h10]
  refine⟨(k+1:Nat),(zaj (by omega)).trans ew.symm,k+1,rfl,hl,k,rfl,by omega,?_⟩;refine⟨zaO ⟨2,[c],k⟩,by rw [hcut1];rfl,?_⟩;exact fin (T:=⟨2,[c],k⟩) (Ja _ _) fun Y hb f=>out hb f e.symm
 have h10:c≠10:=dF ((zbq c 10).symm.trans h10);refine cmo (zhQ c X) ?_;rintro e _ ⟨rfl,rfl⟩;refine biE (fun hlo=>?_) fun hlo=>?_
 ·have hlo:zc6 c=true:=hlo;refine cmo (zir s k hkl hs X) ?_;rintro e _ ⟨rfl,rfl⟩;have hr:=zeh (p:=zbm) hkl;refine⟨runE zbm s k,rfl,hr,k,rfl,zkd,?_⟩;have hcut:strV (runL zbm s k) = .string ((bs s).extract k (runE zbm s k)):=by rw [zh8,zkc];rfl
  have hik:=zmX (runL zbm s k) X gX;rw [hcut] at hik;refine cmo hik ?_;rintro e _ ⟨rfl,rfl⟩;refine biE (fun hk=>?_) fun hk=>?_
  ·have hk:keyB (runL zbm s k)=true:=hk;refine⟨zaO ⟨3,runL zbm s k,k⟩,by rw [<- hcut];rfl,?_⟩;refine fin (T:=⟨3,runL zbm s k,k⟩) (Ja _ _) fun Y hb f=>out hb f ?_;unfold zc1;rw [ek];simp only [JZ h10,Kc hlo,Kc hk]
  ·have hk:keyB (runL zbm s k)=false:=hk;have hsh:=zj8 4 (runL zbm s k) k X;rw [hcut] at hsh;refine cmo hsh ?_;rintro e Z ⟨rfl,hbZ⟩;refine fin (T:=zcr 4 (runL zbm s k) k) hbZ fun Y hb f=>out hb f ?_;unfold zc1;rw [ek];simp only [JZ h10,Kc hlo,hk,JC,if_false]
 have hlo:zc6 c=false:=hlo;refine cmo (zj2 c X) ?_;rintro e _ ⟨rfl,rfl⟩;refine biE (fun hup=>?_) fun hup=>?_
 ·have hup:zbY c=true:=hup;refine cmo (zl7 s k hkl hs X) ?_;rintro e _ ⟨rfl,rfl⟩;have hr:=zeh (p:=zbY) hkl;refine⟨runE zbY s k,rfl,hr,k,rfl,zkd,?_⟩;have hcut:strV (runL zbY s k) = .string ((bs s).extract k (runE zbY s k)):=by rw [zh8,zkc];rfl
  have hsh:=zj8 5 (runL zbY s k) k X;rw [hcut] at hsh;refine cmo hsh ?_;rintro e Z ⟨rfl,hbZ⟩;refine fin (T:=zcr 5 (runL zbY s k) k) hbZ fun Y hb f=>out hb f ?_;unfold zc1;rw [ek];simp only [JZ h10,hlo,hup,JC,if_false,if_true]
 have hup:zbY c=false:=hup;refine cmo (Tryz.strings_IndexByte (bs zl1) (c.toNat:Int) X) ?_;rintro e X' ⟨rfl,hx'⟩;have hx':=hx'.symm;subst hx';have ec:((c.toNat:Int).toNat.toUInt8)=c:=by rw [Int.toNat_natCast];exact UInt8.ofNat_toNat
 rw [ec];have em:=zoY zl1 c;refine biE (fun hsg=>?_) fun hsg=>?_
 ·have hsg:c∈zl1:=dT (em.symm.trans hsg);have e:zc1 s k=⟨6,[c],k⟩:=by unfold zc1;rw [ek];simp only [JZ h10,hlo,hup,JC,if_false,Kc hsg]
  refine⟨(k+1:Nat),(zaj (by omega)).trans ew.symm,k+1,rfl,hl,k,rfl,by omega,?_⟩;refine⟨zaO ⟨6,[c],k⟩,by rw [hcut1];rfl,?_⟩;exact fin (T:=⟨6,[c],k⟩) (Ja _ _) fun Y hb f=>out hb f e.symm
 have hsg:c ∉ zl1:=dF (em.symm.trans hsg);refine⟨k,rfl,hkl,cmo (Tryz.strings_HasPrefix ((bs s).extract k (bs s).size) (bs [94,45,49]) X) ?_⟩;rintro e X' ⟨rfl,hx'⟩;have hx':=hx'.symm;subst hx';have ep:Lib.hasPrefix ((bs s).extract k (bs s).size).data.toList (bs [94,45,49]).data.toList=decide ((s.drop k).take 3=[94,45,49]):=by
  rw [<- preB,zh8];show Lib.hasPrefix ((s.drop k).take (s.length-k)) _=_;rw [Jy (by rw [Ks];omega)];rfl
 rw [ep];refine biE (fun hp=>?_) fun hp=>?_
 ·have hp:(s.drop k).take 3=[94,45,49]:=dT hp;refine⟨zaO ⟨6,[94,45,49],k⟩,rfl,fin (T:=⟨6,[94,45,49],k⟩) (Ja _ _) fun Y hb f=>out hb f ?_⟩;unfold zc1;rw [ek];simp only [JZ h10,hlo,hup,JC,if_false,JZ hsg,Kc hp]
 ·have hp:¬ (s.drop k).take 3=[94,45,49]:=dF hp;refine⟨zaO ⟨0,[],k⟩,rfl,fin (T:=⟨0,[],k⟩) (Ja _ _) fun Y hb f=>out hb f ?_⟩;unfold zc1;rw [ek];simp only [JZ h10,hlo,hup,JC,if_false,JZ hsg,JZ hp]
end
def zad (t:Trm) (p:Option Addr) (cap:Nat):List Value:=[u8 t.kind,strV t.name,.slice p t.kids.length cap]
inductive KidsT (Q:Nat->Prop) (w:World):Option Addr->List Trm->Prop
 | mk (p:Option Addr) (kids:List Trm) (hn:kids.length<=140737488351232) (b o:Nat) (hp:kids.length=0\/p=some ⟨b,o,none⟩) (q:Nat->Option Addr) (c:Nat->Nat)
   (hk:∀ i (h:i<kids.length),kids[i].name.length<=140737488351232/\Q b/\zav w ⟨b,o+i*3,none⟩ (zad kids[i] (q i) (c i)))
   (ht:∀ i (h:i<kids.length),KidsT Q w (q i) kids[i].kids):KidsT Q w p kids
section
variable {Q Q':Nat->Prop} {w w2:World} {p:Option Addr} {kids:List Trm}
theorem KidsT.inv (h:KidsT Q w p kids):kids.length<=140737488351232/\∃ b o,(kids.length=0\/p=some ⟨b,o,none⟩) /\
  ∀ i (h:i<kids.length),∃ q c,kids[i].name.length<=140737488351232/\Q b/\zav w ⟨b,o+i*3,none⟩ (zad kids[i] q c)/\KidsT Q w q kids[i].kids:=by
 cases h with
 | mk _ _ hn b o hp q c hk ht=>exact⟨hn,b,o,hp,fun i hi=>⟨q i,c i,(hk i hi).1,(hk i hi).2.1,(hk i hi).2.2,ht i hi⟩⟩
theorem KidsT.by (hs:∀ (g:Nat) (cs:Array Value) (t:TypeId) (fr:Nat×Nat),Q g->w.heap[g]?=some (.cells cs t fr)->w2.heap[g]?=w.heap[g]?) (h:KidsT Q w p kids):KidsT Q w2 p kids:=by
 induction h with
 | mk p kids hn b o hp q c hk ht ih =>
  refine .mk p kids hn b o hp q c (fun i hi=>⟨(hk i hi).1,(hk i hi).2.1,?_⟩) ih;obtain⟨_,hB,hc⟩:=hk i hi;have h0:=hc 0 _ rfl;unfold World.cell? at h0
  split at h0
  ·rename_i cs t fr hb;exact zaB (hs b cs t fr hB hb) hc
  ·cases h0
theorem KidsT.kept (h:KidsT Q w p kids) (hb:Bw w w2):KidsT Q w2 p kids:=h.by fun g cs t fr _ hc=>hb.block g (hlt hc)
theorem KidsT.weak (h:KidsT Q w p kids) (hb:∀ b,Q b->Q' b):KidsT Q' w p kids:=by
 induction h with
 | mk p kids hn b o hp q c hk ht ih=>exact .mk p kids hn b o hp q c (fun i hi=>⟨(hk i hi).1,hb _ (hk i hi).2.1,(hk i hi).2.2⟩) ih
theorem KidsT.there (h:KidsT Q w p kids):KidsT (fun b=>Q b/\b<w.heap.size) w p kids:=by
 induction h with
 | mk p kids hn b o hp q c hk ht ih =>
  refine .mk p kids hn b o hp q c (fun i hi=>⟨(hk i hi).1,⟨(hk i hi).2.1,?_⟩,(hk i hi).2.2⟩) ih;have h0:=(hk i hi).2.2 0 _ rfl;unfold World.cell? at h0
  split at h0
  ·rename_i hb;exact hlt hb
  ·cases h0
theorem KidsT.nil:KidsT Q w p [] := .mk p [] (by decide) 0 0 (.inl rfl) (fun _=>none) (fun _=>0) (fun i hi=>by simp at hi) (fun i hi=>by simp at hi)
end
def mapB (f:Bs->Bool):Bs->Option Value:=fun t=>if f t then some (.bool true) else none
def zdm (s:Bs) (l c:Nat) (st:PS):List Value:=[strV s,u8n st.tok.kind,strV st.tok.text,i64 (st.tok.at_:Nat),.map (some l),.map (some c),i64 (st.nodes:Nat),i64 (st.deep:Nat),i64 st.e]
structure ParB (g l c:Nat) (s:Bs) (st:PS) (w:World):Prop where
 f:w.heap[g]?=some (.cells (zdm s l c st).toArray 136 (0,0))
 lm:MapF keyS w l (mapB st.lets)
 cm:MapF keyS w c (mapB st.checks)
 ord:3<l/\l<c/\c<g
 glob:GlobK w
 len:s.length<=8192
 pos:st.tok.at_+st.tok.text.length<=s.length
 nod:st.nodes<=400
 dep:st.deep<=50
theorem zbT {κ:Type} [DecidableEq κ] {key:κ->Value} {w:World} {r:Nat} {f:κ->Option Value} (h:MapF key w r f):r<w.heap.size:=by
 obtain⟨_,_,h,_⟩:=h;exact hlt h
theorem zjY {T:TypeId} {v:Value} (h:(Tryz.prog.info? T).bind (fun i=>i.zero)=some v) (w:World):(zeroValue T).run Tryz.prog w = .ok v w:=by
 cases hi:Tryz.prog.info? T with
 | none=>rw [hi] at h;cases h
 | some inf =>
  rw [hi] at h;have h:inf.zero=some v:=h;simp [zeroValue,typeInfo,hi,h]
section
variable {g l c:Nat} {s:Bs} {st st':PS} {w w2:World}
theorem ParB.lt (h:ParB g l c s st w):g<w.heap.size:=hlt h.f
theorem GlobK.grown (h:GlobK w) (hg:3<g) (hb:w.grownBy w2 (some g)):GlobK w2:=by
 have sm:∀ j,j<=3->w2.heap[j]?=w.heap[j]?:=fun j hj=>hb.block j (by have:=h.lt;omega) (by simp;omega);exact⟨zaB (sm _ (by decide)) h.op,zaB (sm _ (by decide)) h.st,zaB (sm _ (by decide)) h.sg,zaB (sm _ (by decide)) h.nd,nL h.lt hb.size⟩
theorem ParB.below (h:ParB g l c s st w) (hb:Bw w w2):ParB g l c s st w2 :=
 ⟨zab hb h.f,h.lm.below hb,h.cm.below hb,h.ord,h.glob.below hb,h.len,h.pos,h.nod,h.dep⟩
theorem ParB.put (h:ParB g l c s st w) (hb:w.grownBy w2 (some g)) (hf:w2.heap[g]?=some (.cells (zdm s l c st').toArray 136 (0,0))) (e1:st'.lets=st.lets) (e2:st'.checks=st.checks)
  (hp:st'.tok.at_+st'.tok.text.length<=s.length) (hn:st'.nodes<=400) (hd:st'.deep<=50):ParB g l c s st' w2:=by
 have o:=h.ord;refine⟨hf,?_,?_,o,h.glob.grown (by omega) hb,h.len,hp,hn,hd⟩
 ·rw [e1];exact h.lm.same (hb.block l (zbT h.lm) (by simp;omega))
 ·rw [e2];exact h.cm.same (hb.block c (zbT h.cm) (by simp;omega))
theorem ParB.tok (h:ParB g l c s st w) {t:Tk} (ht:t.at_+t.text.length<=s.length) {K:World->Prop} (k:∀ Y,ParB g l c s { st with tok:=t } Y->w.grownBy Y (some g)->K Y) :
  SatR ((storeVar 134 ⟨g,1,none⟩ (.agg (zaO t).toArray)).run Tryz.prog w) fun _ w'=>K w' :=
 zbs k134 h.f (o:=1) (v := .agg (zaO t).toArray) rfl (by show 1+3<=9;decide) rfl fun Y fY gY _=>k Y (h.put gY fY rfl rfl ht h.nod h.dep) gY
theorem ParB.nodes (h:ParB g l c s st w) {n:Nat} (hn:n<=400) {K:World->Prop} (k:∀ Y,ParB g l c s { st with nodes:=n } Y->w.grownBy Y (some g)->K Y) :
  SatR ((storeVar 3 ⟨g,6,none⟩ (i64 (n:Nat))).run Tryz.prog w) fun _ w'=>K w' :=
 zaq k3 h.f (o:=6) (v:=i64 (n:Nat)) rfl rfl (by show 6<9;decide) rfl fun Y fY gY _=>k Y (h.put gY fY rfl rfl h.pos hn h.dep) gY
theorem ParB.deep (h:ParB g l c s st w) {n:Nat} (hn:n<=50) {K:World->Prop} (k:∀ Y,ParB g l c s { st with deep:=n } Y->w.grownBy Y (some g)->K Y) :
  SatR ((storeVar 3 ⟨g,7,none⟩ (i64 (n:Nat))).run Tryz.prog w) fun _ w'=>K w' :=
 zaq k3 h.f (o:=7) (v:=i64 (n:Nat)) rfl rfl (by show 7<9;decide) rfl fun Y fY gY _=>k Y (h.put gY fY rfl rfl h.pos h.nod hn) gY
theorem ParB.err (h:ParB g l c s st w) {n:Int} {K:World->Prop} (k:∀ Y,ParB g l c s { st with e:=n } Y->w.grownBy Y (some g)->K Y) :
  SatR ((storeVar 42 ⟨g,8,none⟩ (i64 n)).run Tryz.prog w) fun _ w'=>K w' :=
 zaq k42 h.f (o:=8) (v:=i64 n) rfl rfl (by show 8<9;decide) rfl fun Y fY gY _=>k Y (h.put gY fY rfl rfl h.pos h.nod h.dep) gY
abbrev nx (s:Bs) (st:PS):PS:=zcY (zaz s) st
theorem zdo (h:ParB g l c s st w):Calls Tryz.prog 66 #[At0 g] w fun e w'=>e = .returned (zcp [])/\ParB g l c s (nx s st) w'/\w.grownBy w' (some g):=by
 refine cofE 22 [At0 g] Tryz.func66 ?_;refine DrawE.ord [20] [0,1,2,3,4,5,6,7,8,9,10,11,12,13,14,15,16,17,18,19,20] (by kernel_rfl) ?_;have h1:ParB g l c s st w.drew:=h.below (Ja _ w).drew;have hl:=h.len;have hp:=h.pos;refine⟨_,zac (zaa h1.f) (i:=0) rfl,_,zac (zaa h1.f) (i:=3) rfl,_,zac (zaa h1.f) (i:=2) rfl,((st.tok.at_+st.tok.text.length:Nat):Int),(zaj (a:=(st.tok.at_:Int)+(st.tok.text.length:Int)) (by omega)).trans (by omega),cmo (zp8 (s:=s) (a:=st.tok.at_+st.tok.text.length) h1.glob hp (by omega)) ?_⟩;rintro e X ⟨rfl,hbX⟩;refine⟨hbX,?_⟩;have hX:=h1.below hbX;exact hX.tok (zol hp) fun Y hY gY=>⟨rfl,hY,zaf (zag ((Ja _ w).drew.trans hbX)) gY⟩
theorem zbV (h:ParB g l c s st w) (n:Int):Calls Tryz.prog 107 #[At0 g,i64 n] w fun e w'=>e = .returned (.bool false)/\ParB g l c s (zcZ n st) w'/\w.grownBy w' (some g):=by
 refine cofE 9 [At0 g,i64 n] Tryz.func107 ?_;exact h.err fun Y hY gY=>⟨rfl,hY,gY⟩
theorem zaF {a b:Nat}:decide ((a:Int)=(b:Int))=decide (a=b):=by rw [Kd];omega
theorem is_c (h:ParB g l c s st w) (t:Bs):Calls Tryz.prog 206 #[At0 g,strV t] w fun e w'=>e = .returned (.bool (isP st t))/\w=w':=by
 refine cofE 20 [At0 g,strV t] Tryz.func206 ?_;unfold isP;refine⟨_,zac (zaa h.f) (i:=1) rfl,biE (fun h1=>?_) fun h1=>?_⟩
 ·have h1:decide (st.tok.kind=6)=true:=(zaF (b:=6)).symm.trans h1;exact⟨_,zac (zaa h.f) (i:=2) rfl,_,fun w=>zax _ _ st.tok.text t w,rb (by rw [h1];rfl),rfl⟩
 ·have h1:decide (st.tok.kind=6)=false:=(zaF (b:=6)).symm.trans h1;exact⟨rb (by rw [h1];rfl),rfl⟩
theorem zdY (h:ParB g l c s st w) (k:Nat) (t:Bs):Calls Tryz.prog 110 #[At0 g,u8n k,strV t] w fun e w'=>e = .returned (.bool (zaR (zaz s) k t st).1)/\ParB g l c s (zaR (zaz s) k t st).2 w'/\w.grownBy w' (some g):=by
 refine cofE 27 [At0 g,u8n k,strV t] Tryz.func110 ?_;refine⟨_,zac (zaa h.f) (i:=1) rfl,?_⟩;have bad:(st.tok.kind≠k\/st.tok.text≠t)->Calls Tryz.prog 107 #[At0 g,i64 110] w fun e w'=>e = .returned (.bool (zaR (zaz s) k t st).1)/\ParB g l c s (zaR (zaz s) k t st).2 w'/\w.grownBy w' (some g):=fun hb=>by
  have e:zaR (zaz s) k t st=(false,zcZ 110 st):=by unfold zaR;rw [Kc hb]
  rw [e];exact zbV h 110
 refine biE (fun h1=>?_) fun h1=>?_
 ·have h1:(!decide ((st.tok.kind:Int)=(k:Int)))=true:=h1;rw [zaF] at h1;refine brT (cmo (bad (.inl (by simpa using h1))) ?_);rintro e Y ⟨rfl,hY,gY⟩;exact⟨rfl,hY,gY⟩
 have h1:(!decide ((st.tok.kind:Int)=(k:Int)))=false:=h1;rw [zaF] at h1;have h1:st.tok.kind=k:=by simpa using h1
 refine⟨_,zac (zaa h.f) (i:=2) rfl,_,fun w=>zf7 _ _ st.tok.text t w,biE (fun h2=>?_) fun h2=>?_⟩
 ·have h2:(!decide (st.tok.text=t))=true:=h2;refine cmo (bad (.inr (by simpa using h2))) ?_;rintro e Y ⟨rfl,hY,gY⟩;exact⟨rfl,hY,gY⟩
 ·have h2:(!decide (st.tok.text=t))=false:=h2;have h2:st.tok.text=t:=by simpa using h2
  have e:zaR (zaz s) k t st=(true,nx s st):=by unfold zaR;rw [JZ (by rintro (h | h);exact h h1;exact h h2)]
  rw [e];refine cmo (zdo h) ?_;rintro e Y ⟨rfl,hY,gY⟩;exact⟨rfl,hY,gY⟩
theorem ziK (h:ParB g l c s st w):Calls Tryz.prog 164 #[At0 g] w fun e w'=>e = .returned (.bool (zcG (zaz s) st).1)/\ParB g l c s (zcG (zaz s) st).2 w'/\w.grownBy w' (some g):=by
 refine cofE 19 [At0 g] Tryz.func164 ?_;have hn:=h.nod;refine⟨_,zac (zaa h.f) (i:=6) rfl,biE (fun h1=>?_) fun h1=>?_⟩
 ·have h1:(400:Int)<=(st.nodes:Int):=dT h1;have e:zcG (zaz s) st=(false,zcZ 5 st):=by unfold zcG;rw [Kc (by omega)]
  rw [e];refine cmo (zbV h 5) ?_;rintro e Y ⟨rfl,hY,gY⟩;exact⟨rfl,hY,gY⟩
 ·have h1:¬ (400:Int)<=(st.nodes:Int):=dF h1;have e:zcG (zaz s) st=(true,nx s { st with nodes:=st.nodes+1 }):=by unfold zcG;rw [JZ (by omega)]
  rw [e];refine⟨_,zac (zaa h.f) (i:=6) rfl,((st.nodes+1:Nat):Int),(zaj (by omega)).trans (by omega),h.nodes (n:=st.nodes+1) (by omega) fun Y hY gY=>cmo (zdo hY) ?_⟩;rintro e Z ⟨rfl,hZ,gZ⟩;exact⟨rfl,hZ,zaf gY gZ⟩
theorem zeE {w:World} {r:Nat} {f:Bs->Bool} (h:MapF keyS w r (mapB f)) (t:Bs):(Instr.lookup 105 (.map (some r)) (strV t) false).run Tryz.prog w = .ok (.bool (f t)) w:=by
 have:=zg2 skey Tryz.underlying105 (z := .bool false) (zjY (by kernel_rfl)) h t false;refine this.trans ?_;unfold mapB
 cases f t <;> rfl
end
theorem zjZ {n:Nat} (h:n<=255):IntKind.u8.wrap (n:Int)=(n:Int):=by
 unfold IntKind.wrap;simp only [IntKind.bits,IntKind.signed,JJ,JC,if_false];omega
section
variable {g l c pb:Nat} {s:Bs} {st:PS} {w:World}
theorem zpY (h:ParB g l c s st w) (hp:w.heap[pb]?=some (.cells #[At0 g] 132 (0,0))) (t:Bs):Calls Tryz.prog 109 #[strV t,At0 pb] w fun e w'=>e = .returned (.bool (relB t||st.lets t))/\w=w':=by
 refine cofE 14 [strV t,At0 pb] Tryz.func109 ?_;refine cmo (zhU t w) ?_;rintro e _ ⟨rfl,rfl⟩;refine biE (fun h1=>?_) fun h1=>?_
 ·have h1:relB t=true:=h1;exact⟨rb (by rw [h1];rfl),rfl⟩
 ·have h1:relB t=false:=h1;rw [h1];exact⟨_,zac (zaa hp) (i:=0) rfl,_,zac (zaa h.f) (i:=4) rfl,_,fun w2 hb=>zeE (h.lm.below hb) t,rfl,rfl⟩
theorem zpX (h:ParB g l c s st w) (hp:w.heap[pb]?=some (.cells #[At0 g] 132 (0,0))) (t:Bs):Calls Tryz.prog 112 #[strV t,At0 pb] w fun e w'=>e = .returned (.bool (st.checks t))/\w=w':=by
 refine cofE 10 [strV t,At0 pb] Tryz.func112 ?_;exact⟨_,zac (zaa hp) (i:=0) rfl,_,zac (zaa h.f) (i:=5) rfl,_,fun w2 hb=>zeE (h.cm.below hb) t,rfl,rfl⟩
theorem zlj (h:ParB g l c s st w) (hp:w.heap[pb]?=some (.cells #[At0 g] 132 (0,0))):Calls Tryz.prog 108 #[At0 g,.func (.func 109) #[] #[At0 pb]] w fun e w'=>e = .returned (.tuple #[strV ((zcm (zaz s) (fun t=>relB t||st.lets t) st).1.getD []),.bool (zcm (zaz s) (fun t=>relB t||st.lets t) st).1.isSome])/\ParB g l c s (zcm (zaz s) (fun t=>relB t||st.lets t) st).2 w'/\w.grownBy w' (some g):=by
 refine cofE 28 [At0 g,.func (.func 109) #[] #[At0 pb]] Tryz.func108 ?_;refine⟨_,zac (zaa h.f) (i:=2) rfl,_,zac (zaa h.f) (i:=1) rfl,biE (fun h1=>?_) fun h1=>?_⟩
 ·have h1:(!decide ((st.tok.kind:Int)=((4:Nat):Int)))=true:=h1;rw [zaF] at h1;have h1:st.tok.kind≠4:=by simpa using h1
  have e:zcm (zaz s) (fun t=>relB t||st.lets t) st=(none,zcZ 110 st):=by unfold zcm;rw [Kc h1]
  rw [e];refine cmo (zbV h 110) ?_;rintro e Y ⟨rfl,hY,gY⟩;exact⟨rfl,hY,gY⟩
 have h1:(!decide ((st.tok.kind:Int)=((4:Nat):Int)))=false:=h1;rw [zaF] at h1;have h1:st.tok.kind=4:=by simpa using h1
 refine cmo (zpY h hp st.tok.text) ?_;rintro e _ ⟨rfl,rfl⟩;refine biE (fun h2=>?_) fun h2=>?_
 ·have h2:((fun t=>relB t||st.lets t) st.tok.text)=true:=h2;have e:zcm (zaz s) (fun t=>relB t||st.lets t) st=(none,zcZ 111 st):=by unfold zcm;rw [JZ (by rw [h1];decide),Kc h2]
  rw [e];refine cmo (zbV h 111) ?_;rintro e Y ⟨rfl,hY,gY⟩;exact⟨rfl,hY,gY⟩
 ·have h2:((fun t=>relB t||st.lets t) st.tok.text)=false:=h2;have e:zcm (zaz s) (fun t=>relB t||st.lets t) st=(some st.tok.text,nx s st):=by unfold zcm;rw [JZ (by rw [h1];decide),JZ (by rw [h2];exact JU)]
  rw [e];refine cmo (zdo h) ?_;rintro e Y ⟨rfl,hY,gY⟩;exact⟨rfl,hY,gY⟩
theorem zli (h:ParB g l c s st w) (hp:w.heap[pb]?=some (.cells #[At0 g] 132 (0,0))):Calls Tryz.prog 108 #[At0 g,.func (.func 112) #[] #[At0 pb]] w fun e w'=>e = .returned (.tuple #[strV ((zcm (zaz s) st.checks st).1.getD []),.bool (zcm (zaz s) st.checks st).1.isSome])/\ParB g l c s (zcm (zaz s) st.checks st).2 w'/\w.grownBy w' (some g):=by
 refine cofE 28 [At0 g,.func (.func 112) #[] #[At0 pb]] Tryz.func108 ?_;refine⟨_,zac (zaa h.f) (i:=2) rfl,_,zac (zaa h.f) (i:=1) rfl,biE (fun h1=>?_) fun h1=>?_⟩
 ·have h1:(!decide ((st.tok.kind:Int)=((4:Nat):Int)))=true:=h1;rw [zaF] at h1;have h1:st.tok.kind≠4:=by simpa using h1
  have e:zcm (zaz s) st.checks st=(none,zcZ 110 st):=by unfold zcm;rw [Kc h1]
  rw [e];refine cmo (zbV h 110) ?_;rintro e Y ⟨rfl,hY,gY⟩;exact⟨rfl,hY,gY⟩
 have h1:(!decide ((st.tok.kind:Int)=((4:Nat):Int)))=false:=h1;rw [zaF] at h1;have h1:st.tok.kind=4:=by simpa using h1
 refine cmo (zpX h hp st.tok.text) ?_;rintro e _ ⟨rfl,rfl⟩;refine biE (fun h2=>?_) fun h2=>?_
 ·have h2:(st.checks st.tok.text)=true:=h2;have e:zcm (zaz s) st.checks st=(none,zcZ 111 st):=by unfold zcm;rw [JZ (by rw [h1];decide),Kc h2]
  rw [e];refine cmo (zbV h 111) ?_;rintro e Y ⟨rfl,hY,gY⟩;exact⟨rfl,hY,gY⟩
 ·have h2:(st.checks st.tok.text)=false:=h2;have e:zcm (zaz s) st.checks st=(some st.tok.text,nx s st):=by unfold zcm;rw [JZ (by rw [h1];decide),JZ (by rw [h2];exact JU)]
  rw [e];refine cmo (zdo h) ?_;rintro e Y ⟨rfl,hY,gY⟩;exact⟨rfl,hY,gY⟩
theorem zcB (hg:GlobK w) {k:Nat} (hk:k<10):w.cell? ⟨1,0+k,none⟩=some (i64 (strL.getD k 0:Nat)):=by
 refine zac hg.st ?_;have hk:k<strL.length:=hk;rw [Jm,gE hk,gDe,gE hk];rfl
theorem zhu (hg:GlobK w) {k:Nat} (hk:k<10):w.cell? ⟨2,0+k,none⟩=some (strV (zb1.getD k [])):=by
 refine zac hg.sg ?_;have hk:k<zb1.length:=hk;rw [Jm,gE hk,gDe,gE hk];rfl
def noOp (st:PS) (k:Nat):Prop:=(2<k->isP st [124]=false)/\(3<k->isP st [38]=false)/\(4<k->isP st [92]=false)/\(5<k->isP st [59]=false)
theorem zld (h:ParB g l c s st w):Calls Tryz.prog 163 #[At0 g] w fun e w'=>e = .returned (u8n (zbk st))/\w=w':=by
 refine cofE 22 [At0 g] Tryz.func163 ?_;have hg:=h.glob;have hlt:=hg.lt;refine⟨strL.map (fun n=>i64 (n:Nat)),rfl,hg.st,nL (by decide) (Nat.succ_le_of_lt hg.lt),?_⟩;refine⟨Nat,fun k=>⟨[(0,At0 g),(5,.agg (strL.map (fun n=>i64 (n:Nat))).toArray),(6,.int .i64 (k:Nat))],[]⟩,fun k V=>k<=10/\noOp st k/\w=V,fun k=>10-k,0,
  (cvE rfl rfl),⟨Jh _,⟨fun h=>Kv h (by decide),fun h=>Kv h (by decide),fun h=>Kv h (by decide),fun h=>Kv h (by decide)⟩,rfl⟩,?_⟩
 rintro k _ ⟨hk,hno,rfl⟩;refine biE (fun h1=>?_) fun h1=>?_
 ·have h1:(k:Int)<10:=dT h1;have hkl:k<strL.length:=by show k<10;omega
  refine⟨k,rfl,by omega,?_⟩;have hget:(strL.map fun n=>i64 (n:Nat))[k*1]?=some (i64 (strL.getD k 0:Nat)):=by
   rw [Jp,Jm,gE hkl,gDe,gE hkl];rfl
  refine zcO hget (biE (fun h2=>?_) fun h2=>?_)
  ·have h2:(0:Int)<((strL.getD k 0:Nat):Int):=dT h2;refine⟨k,rfl,by omega,?_⟩;refine⟨_,by rw [Jp];exact zhu hg (by omega),cmo (is_c h (zb1.getD k [])) ?_⟩;rintro e _ ⟨rfl,rfl⟩;obtain⟨n2,n3,n4,n5⟩:=hno;have cases5:k=2\/k=3\/k=4\/k=5:=by
    have:∀ j:Fin 10,0<strL.getD j.1 0->j.1=2\/j.1=3\/j.1=4\/j.1=5:=(by decide);exact this ⟨k,by omega⟩ (by show 0<strL.getD k 0;omega)
   refine biE (fun h3=>?_) fun h3=>?_
   ·have h3:isP st (zb1.getD k [])=true:=h3;refine⟨(k:Int),zjZ (by omega),?_,rfl⟩;have e:zbk st=k:=by
     unfold zbk;rcases cases5 with rfl | rfl | rfl | rfl
     ·rw [Kc (show isP st [124]=true from h3)]
     ·rw [JZ (by rw [n2 (by decide)];decide),Kc (show isP st [38]=true from h3)]
     ·rw [JZ (by rw [n2 (by decide)];decide),JZ (by rw [n3 (by decide)];decide),Kc (show isP st [92]=true from h3)]
     ·rw [JZ (by rw [n2 (by decide)];decide),JZ (by rw [n3 (by decide)];decide),JZ (by rw [n4 (by decide)];decide),Kc (show isP st [59]=true from h3)]
    rw [e];rfl
   ·have h3:isP st (zb1.getD k [])=false:=h3;refine nxI (by omega) ⟨k+1,(cvE rfl rfl),⟨by omega,?_,rfl⟩,by dsimp only;omega⟩;refine⟨fun h=>?_,fun h=>?_,fun h=>?_,fun h=>?_⟩
    ·rcases cases5 with rfl | rfl | rfl | rfl
     ·exact h3
     all_goals exact n2 (by decide)
    ·rcases cases5 with rfl | rfl | rfl | rfl
     ·exact Kv h (by decide)
     ·exact h3
     all_goals exact n3 (by decide)
    ·rcases cases5 with rfl | rfl | rfl | rfl
     ·exact Kv h (by decide)
     ·exact Kv h (by decide)
     ·exact h3
     ·exact n4 (by decide)
    ·rcases cases5 with rfl | rfl | rfl | rfl
     ·exact Kv h (by decide)
     ·exact Kv h (by decide)
     ·exact Kv h (by decide)
     ·exact h3
  ·have h2:¬ (0:Int)<((strL.getD k 0:Nat):Int):=dF h2;refine brF (nxI (by omega) ⟨k+1,(cvE rfl rfl),⟨by omega,?_,rfl⟩,by dsimp only;omega⟩);have no5:k≠2/\k≠3/\k≠4/\k≠5:=by
    have:∀ j:Fin 10,¬ 0<strL.getD j.1 0->j.1≠2/\j.1≠3/\j.1≠4/\j.1≠5:=(by decide);exact this ⟨k,by omega⟩ (by show ¬ 0<strL.getD k 0;omega)
   obtain⟨n2,n3,n4,n5⟩:=hno;exact⟨fun h=>n2 (by omega),fun h=>n3 (by omega),fun h=>n4 (by omega),fun h=>n5 (by omega)⟩
 ·have h1:¬ (k:Int)<10:=dF h1;obtain⟨n2,n3,n4,n5⟩:=hno;refine⟨?_,rfl⟩;have e:zbk st=0:=by
   unfold zbk;rw [JZ (by rw [n2 (by omega)];decide),JZ (by rw [n3 (by omega)];decide),JZ (by rw [n4 (by omega)];decide),JZ (by rw [n5 (by omega)];decide)]
  rw [e];rfl
end
end Go.Proofs.YtnadlhpkpnfmbaaGreatDoor
namespace Go.Proofs.YtnadlhpkpnfmbaaGreatDoor
open Go.Vc
def GdT (k:Nat) (t:Tk):Prop:=t.at_<=k/\t.kind≠1/\(t.kind≠0->t.at_+t.text.length<=k)
def Sm {α:Type} (m:Nat) (st:PS) (r r':α×PS):Prop:=st.tok.at_<=r.2.tok.at_/\(r.2.tok.at_<=m->r'=r)
section
variable {sc sc':Nat->Tk} {m:Nat}
theorem Sm.same {α:Type} {st:PS} {r:α×PS} (h:r.2.tok=st.tok):Sm m st r r:=⟨by rw [h];exact Jb _,fun _=>rfl⟩
theorem Sm.eq {α:Type} {st st1:PS} {a:α} {r r':α×PS} (h:Sm m st r r') (e:r=(a,st1)):st.tok.at_<=st1.tok.at_/\(st1.tok.at_<=m->r'=(a,st1)):=by
 subst e;exact h
variable (Mo:∀ a,a<=(sc a).at_) (Sa:∀ a,(sc a).at_<=m->sc' a=sc a)
include Mo Sa
end
section
variable {p:UInt8->Bool}
theorem zl8 (s:Bs) (a:Nat):a<=runE p s a:=Nat.le_add_right _ _
end
theorem zp4 (s:Bs) (a:Nat):a<=zfR s a:=by
 unfold zfR
 split
 ·exact Jj (zl8 (p:=zbE) s a) (zl8 s _)
 ·exact zl8 s a
theorem zog (k:Nat) (t:Bs) (a:Nat):(zcr k t a).at_=a:=by unfold zcr;split <;> rfl
theorem zrP (s:Bs) (a:Nat):(zc1 s a).at_=a:=by
 unfold zc1
 split
 ·rfl
 ·repeat' split
  all_goals first | rfl | exact zog _ _ _
theorem zl5 (s:Bs) (a:Nat):a<=(zaz s a).at_:=by
 unfold zaz;rw [zrP];exact zp4 s a
def wordB (c:UInt8):Bool:=zc6 c||zbY c||(decide (48<=c.toNat)&&decide (c.toNat<=57))||decide (c=45)||decide (c=94)
section
variable {s:Bs}
def MoS (s:Bs) (a b:PS):Prop:=a.tok.at_<=b.tok.at_/\b.deep=a.deep/\(b.tok=a.tok\/∃ i,b.tok=zaz s i)
theorem MoS.refl (a:PS):MoS s a a:=⟨Jb _,rfl,.inl rfl⟩
theorem MoS.trans {a b c:PS} (h:MoS s a b) (k:MoS s b c):MoS s a c:=⟨Jj h.1 k.1,k.2.1.trans h.2.1,by
 rcases k.2.2 with e | e
 ·rw [e];exact h.2.2
 ·exact .inr e⟩
theorem zmH (s:Bs) (st:PS):st.tok.at_+st.tok.text.length<=(zcY (zaz s) st).tok.at_:=zl5 s _
theorem ze2 (st:PS):MoS s st (zcY (zaz s) st):=⟨Jj (Nat.le_add_right _ _) (zmH s st),rfl,.inr ⟨_,rfl⟩⟩
theorem zhL (st:PS):MoS s st (zcG (zaz s) st).2:=by
 unfold zcG
 split
 ·exact .refl _
 ·exact ze2 { st with nodes:=st.nodes+1 }
theorem zc5 (k:Nat) (t:Bs) (st:PS):MoS s st (zaR (zaz s) k t st).2:=by
 unfold zaR
 split
 ·exact .refl _
 ·exact ze2 st
theorem zdp:∀ f,(∀ least st,MoS s st (termP (zaz s) f least st).2)/\(∀ least t st,MoS s st (moreP (zaz s) f least t st).2) /\
  (∀ st,MoS s st (tightP (zaz s) f st).2)/\(∀ t st,MoS s st (postsP (zaz s) f t st).2)/\(∀ st,MoS s st (simpleP (zaz s) f st).2)
 | 0=>by
  refine⟨?_,?_,?_,?_,?_⟩ <;> intros <;> simp only [termP,moreP,tightP,postsP,simpleP] <;> exact .refl _
 | f+1=>by
  obtain⟨h1,h2,h3,h4,h5⟩:=zdp f;refine⟨fun least st=>?_,fun least t st=>?_,fun st=>?_,fun t st=>?_,fun st=>?_⟩
  ·rw [termP];have:=h3 st
   split <;> rename_i e <;> rw [e] at this
   ·exact this
   ·exact this.trans (h2 _ _ _)
  ·rw [moreP]
   split
   ·exact .refl _
   ·have hn:=zhL (s:=s) st
    split <;> rename_i e <;> rw [e] at hn
    ·exact hn
    ·have:=h1 (zbk st) ‹PS›
     split <;> rename_i e2 <;> rw [e2] at this
     ·exact hn.trans this
     ·exact hn.trans (this.trans (h2 _ _ _))
  ·rw [tightP];have:=h5 st
   split <;> rename_i e <;> rw [e] at this
   ·exact this
   ·exact this.trans (h4 _ _)
  ·rw [postsP]
   split
   ·exact .refl _
   ·have hn:=zhL (s:=s) st
    split <;> rename_i e <;> rw [e] at hn
    ·exact hn
    ·exact hn.trans (h4 _ _)
  ·rw [simpleP]
   split
   ·split
    ·exact .refl _
    ·have hn:=zhL (s:=s) st
     split <;> rename_i e <;> rw [e] at hn <;> exact hn
   ·split
    ·have hn:=zhL (s:=s) st
     split <;> rename_i e <;> rw [e] at hn
     ·exact hn
     ·split
      ·exact hn
      ·split
       ·exact hn
       ·rename_i st2 _ _;have hx:=zc5 (s:=s) 6 [93] (zcY (zaz s) st2);have hm:=hn.trans (ze2 (s:=s) st2)
        split <;> rename_i e2 <;> rw [e2] at hx <;> exact hm.trans hx
    ·split
     ·have ha:=ze2 (s:=s) { st with deep:=st.deep+1 };have hn:=h1 1 (zcY (zaz s) { st with deep:=st.deep+1 })
      split <;> rename_i st2 e <;> rw [e] at hn
      ·exact⟨Jj ha.1 hn.1,by show st2.deep-1=st.deep;have e1:st2.deep=st.deep+1:=hn.2.1.trans ha.2.1;omega,(ha.trans hn).2.2⟩
      ·have hx:=zc5 (s:=s) 6 [41] { st2 with deep:=st2.deep-1 };have hm:MoS s st { st2 with deep:=st2.deep-1 }:=⟨Jj ha.1 hn.1,by show st2.deep-1=st.deep;have e1:st2.deep=st.deep+1:=hn.2.1.trans ha.2.1;omega,(ha.trans hn).2.2⟩
       split <;> rename_i e2 <;> rw [e2] at hx <;> exact hm.trans hx
     ·exact .refl _
theorem zhM (used:Bs->Bool) (st:PS):MoS s st (zcm (zaz s) used st).2:=by
 unfold zcm
 split
 ·exact .refl _
 ·split
  ·exact .refl _
  ·exact ze2 st
theorem zku (l:LineD) (st:PS):MoS s st (endP l st).2:=by
 unfold endP
 split <;> exact .refl _
theorem zju {a b:PS} (h:MoS s a b) {f:Bs->Bool}:MoS s a { b with lets:=f }:=h
theorem zga {a b:PS} (h:MoS s a b) {f:Bs->Bool}:MoS s a { b with checks:=f }:=h
theorem zqu (f many:Nat) (st:PS):MoS s st (zem (zaz s) f many st).2:=by
 unfold zem
 split
 ·exact .refl _
 ·split
  ·exact .refl _
  ·have h0:=ze2 (s:=s) st
   split
   ·have h1:=zhM (s:=s) (fun t=>relB t||st.lets t) (zcY (zaz s) st)
    split <;> rename_i e <;> rw [e] at h1
    ·exact h0.trans h1
    ·rename_i nq st2;have h2:=zc5 (s:=s) 6 [61] st2;have h01:=h0.trans h1
     split <;> rename_i e2 <;> rw [e2] at h2
     ·exact h01.trans h2
     ·rename_i st3;have h3:=(zdp (s:=s) f).1 1 st3;have h02:=h01.trans h2
      split <;> rename_i e3 <;> rw [e3] at h3
      ·exact zju (h02.trans h3)
      ·exact (zju (h02.trans h3)).trans (zku _ _)
   ·have h1:=(zdp (s:=s) f).1 1 (zcY (zaz s) st)
    split <;> rename_i e <;> rw [e] at h1
    ·exact h0.trans h1
    ·rename_i t st2;have h2:=zc5 (s:=s) 3 [97,115] st2;have h01:=h0.trans h1
     split <;> rename_i e2 <;> rw [e2] at h2
     ·exact h01.trans h2
     ·rename_i st3;have h3:=zhM (s:=s) st3.checks st3;have h02:=h01.trans h2
      split <;> rename_i e3 <;> rw [e3] at h3
      ·exact zga (h02.trans h3)
      ·exact (zga (h02.trans h3)).trans (zku _ _)
theorem zqB {f many:Nat} {st st2:PS} {x:LineD} (h:zem (zaz s) f many st=(some x,st2)):st.tok.at_+1<=st2.tok.at_:=by
 have ht:1<=st.tok.text.length:=by
  unfold zem at h
  split at h
  ·cases h
  ·rename_i hc;have hl:zd8 st.tok.text<4:=by
    refine Classical.byContradiction fun hn=>hc (.inr ?_);omega
   cases ht:st.tok.text with
   | nil=>rw [ht] at hl;exact Kv hl (by decide)
   | cons a r=>simp
 have hn:=zmH s st;have key:(zcY (zaz s) st).tok.at_<=st2.tok.at_:=by
  have e2:st2=(zem (zaz s) f many st).2:=by rw [h]
  rw [e2];unfold zem at h ⊢
  split at h
  ·cases h
  ·rename_i hc;rw [JZ hc]
   split at h
   ·cases h
   ·rename_i hc2;rw [JZ hc2]
    split at h
    ·rename_i hc3;rw [Kc hc3];have h1:=zhM (s:=s) (fun t=>relB t||st.lets t) (zcY (zaz s) st)
     split <;> rename_i e <;> rw [e] at h1
     ·exact h1.1
     ·rename_i nq st2;have h2:=zc5 (s:=s) 6 [61] st2
      split <;> rename_i e2 <;> rw [e2] at h2
      ·exact (h1.trans h2).1
      ·rename_i st3;have h3:=(zdp (s:=s) f).1 1 st3
       split <;> rename_i e3 <;> rw [e3] at h3
       ·exact (h1.trans (h2.trans h3)).1
       ·exact ((zju (h1.trans (h2.trans h3))).trans (zku _ _)).1
    ·rename_i hc3;rw [JZ hc3];have h1:=(zdp (s:=s) f).1 1 (zcY (zaz s) st)
     split <;> rename_i e <;> rw [e] at h1
     ·exact h1.1
     ·rename_i t st2;have h2:=zc5 (s:=s) 3 [97,115] st2
      split <;> rename_i e2 <;> rw [e2] at h2
      ·exact (h1.trans h2).1
      ·rename_i st3;have h3:=zhM (s:=s) st3.checks st3
       split <;> rename_i e3 <;> rw [e3] at h3
       ·exact (h1.trans (h2.trans h3)).1
       ·exact ((zga (h1.trans (h2.trans h3))).trans (zku _ _)).1
 omega
theorem zmT {sc:Nat->Tk} {f many:Nat} {st st2:PS} {x:LineD} (h:zem sc f many st=(some x,st2)):many<40:=by
 unfold zem at h
 split at h
 ·cases h
 ·split at h
  ·cases h
  ·omega
theorem zl6 {i:Nat} (h:(zaz s i).kind=2):1<=(zaz s i).text.length:=by
 unfold zaz at h ⊢;unfold zc1 at h ⊢;have sh:∀ {k:Nat} {t:Bs} {a:Nat},k≠2->(zcr k t a).kind≠2:=fun {k t a} hk=>by
  unfold zcr;split
  ·exact fun h=>Kv h (by show (0:Nat)≠2;decide)
  ·exact hk
 split at h
 ·exact Kv h (by show (1:Nat)≠2;decide)
 ·rename_i c hc
  split at h
  ·rename_i h10;rw [Kc h10];exact Jb _
  ·split at h
   ·split at h
    ·exact Kv h (by show (3:Nat)≠2;decide)
    ·exact Kv h (sh (by decide))
   ·split at h
    ·exact Kv h (sh (by decide))
    ·split at h
     ·exact Kv h (by show (6:Nat)≠2;decide)
     ·split at h
      ·exact Kv h (by show (6:Nat)≠2;decide)
      ·exact Kv h (by show (0:Nat)≠2;decide)
end
end Go.Proofs.YtnadlhpkpnfmbaaGreatDoor
