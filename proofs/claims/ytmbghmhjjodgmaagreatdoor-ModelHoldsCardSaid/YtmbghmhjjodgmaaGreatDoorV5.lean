/- Contracts of functions, and plain facts, for the law that the last text of this claim proves. -/
import Derived.Test.YtmbghmhjjodgmaaGreatDoorV4
import Derived.Test.YtmbghmhjjodgmaaGreatDoorV1
set_option linter.unusedSimpArgs false
set_option linter.unusedVariables false
namespace Go.Proofs.YtmbghmhjjodgmaaGreatDoor
open Go.Vc Go.RowKit Go.Sei
abbrev exE3:=ExD×Option Addr×Nat
def exE:Enc exE3:=⟨fun x=>exC x.1 x.2.1 x.2.2,333,fun _=>zat ..,by decide,fun a u hu=>List.all_eq_true.1 (zdp ..) u hu⟩
abbrev ExH (X:World) (b:Nat) (x:ExD) (q:Option Addr) (c:Nat):Prop:=X.heap[b]?=some (.cells (exC x q c).toArray 34 (0,0))
def StX (B:Nat) (pre:List ExD) (vs:List Value) (W:World):Prop:=∃ x q c,pre.getLast?=some x/\vs=[.agg (exC x q c).toArray]/\OwnS evE 54 B W q c x.ev
def GvX (vs:List Value) (k:Nat):Prop:=∃ (x:ExD) (a:Addr) (c:Nat),vs=[.agg (exC x (some a) c).toArray]/\k=a.block
theorem zlp {xs:List NatL} {rs:List (Nat×List Nat)} (h:xs.map (·.1)=rs.map (·.2)):xs.map (·.1.length)=rs.map fun r=>r.2.length:=by
 have:=congrArg (List.map List.length) h;rw [List.map_map,List.map_map] at this;exact this
theorem zjv {zs:List zg4} {ws:List (List Nat)} (h:zs.map (fun z=>z.1.map (·.1))=ws.map zdn):zs.map (·.1.length)=ws.map fun w=>(zdn w).length:=by
 have:=congrArg (List.map List.length) h;rw [List.map_map,List.map_map] at this;rw [<- show zs.map (List.length ∘ fun z:zg4=>z.1.map (·.1))=zs.map (·.1.length) from List.map_congr_left fun z _=>List.length_map _];exact this
section
variable {Rd:Nat->Prop} {W0:World} {bx b o:Nat} {m:MixD} {q:Option Addr} {c:Nat} {p1 p2 p3:Option Addr} {c1 c2 c3:Nat} {xs ys:List NatL}
theorem zrl (hM:MixM Rd W0 b o m q c p1 p2 p3 c1 c2 c3 xs ys) (fx:W0.heap[bx]?=some (.cells #[.pointer (some ⟨b,o,none⟩)] 171 (0,0))) (hbx:Rd bx) (hRd:∀ k,Rd k->k<W0.heap.size) (hT:Tz64M W0) (hRt:Rd 0) (hB:MixB m) (hev:m.base.ev.length<=48) :
  zrD Tryz.prog 117 [At0 bx] (zhz m) W0 Rd (StX W0.heap.size) GvX:=by
 intro yl F0 J W hsz hrd hrf hJ hy h0;refine cofM 141 [.func (.yield yl) #[] #[],At0 bx] (.c .p (.s .p (.c .p (.c .p (.c .p (.s .p .p)))))) Tryz.func117 ?_;have hMW:=hM.same hrd;have fxW:=(hrd bx hbx).trans fx;have hTW:Tz64M W:=zb9 hT (hrd _ hRt);have hRW:∀ k,Rd k->k<W.heap.size:=fun k hk=>by have:=hRd k hk;omega
 obtain⟨L,hL⟩:=nm (W.heap.size);have hxl:xs.length=m.rs.length:=by have:=congrArg List.length hM.e2;simpa using this
 have hyl:ys.length=m.wr.length:=by have:=congrArg List.length hM.e3;simpa using this
 have hrl48:=hB.rl;have hwl6:=hB.wl;have hx1:∀ y∈xs,y.1.length<=1000:=fun y hy=>by
  have:y.1∈m.rs.map (·.2):=by rw [<- hM.e2];exact List.mem_map.2 ⟨y,hy,rfl⟩
  obtain⟨r,hr,he⟩:=List.mem_map.1 this;rw [<- he];exact (hB.rs r hr).2.1
 refine⟨Unit,fun _=>⟨[(1,At0 bx),(2,At0 L)],[]⟩,fun _ X=>X.heap[L]?=some (.cells #[.func (.yield yl) #[] #[]] 36 (0,0))/\X.heap.size=L+1/\Bw W X,?_,?_⟩
 ·exact⟨(),⟨.cons rfl (.cons (by rw [hL];rfl) .nil),rfl⟩,by rw [hL];exact hnew W _,by rw [hL];exact wz _ _,(zba W _)⟩
 rintro _ X ⟨fL,sX,hbX⟩;refine⟨Option Addr×Nat,fun s=>⟨[(1,At0 bx),(2,At0 L),(3,.slice s.1 (xs.map (·.1.length)).length s.2)],[]⟩,fun s Z=>OwnS natE 3 W.heap.size Z s.1 s.2 (xs.map (·.1.length))/\Z.heap[L]?=some (.cells #[.func (.yield yl) #[] #[]] 36 (0,0))/\Bw W Z,?_,?_⟩
 ·refine⟨_,zac (zab (zaa hbX fxW)) (i:=0) rfl,?_⟩;refine⟨_,zgA (hMW.same fun k hk=>hbX.block k (hRW k hk)).cells (i:=1) rfl,?_⟩;refine⟨Nat×Option Addr×Nat,fun s=>⟨[(1,At0 bx),(2,At0 L),(3,.slice s.2.1 ((xs.take s.1).map (·.1.length)).length s.2.2),(20,.slice p2 xs.length c2),(21,i64 xs.length),(22,i64 (s.1:Nat))],[]⟩,
   fun s Z=>s.1<=xs.length/\OwnS natE 3 W.heap.size Z s.2.1 s.2.2 ((xs.take s.1).map (·.1.length))/\Z.heap[L]?=some (.cells #[.func (.yield yl) #[] #[]] 36 (0,0))/\Bw W Z,fun s=>xs.length-s.1,(0,none,0),
   (cvE rfl rfl),⟨Nat.zero_le _,OwnS.nil,fL,hbX⟩,?_⟩
  rintro⟨k,ps,cs⟩ Z ⟨hk,ho,fL,hbZ⟩;dsimp only at hk ho ⊢;refine biE (fun hc=>?_) fun hc=>?_
  ·have hc:(k:Int)<(xs.length:Int):=dT hc;have hkl:k<xs.length:=by omega
   have hZM:=hMW.same fun k hk=>hbZ.block k (hRW k hk);obtain⟨x,hx⟩:∃ x,xs[k]=x:=⟨_,rfl⟩;obtain⟨bp,op,hpe,hlp,hat⟩:=hZM.r2.at hkl;subst hpe;refine⟨k,rfl,hkl,?_⟩;refine⟨slV x,by rw [<- hx];exact zac (hat k hkl) (i:=0) rfl,?_⟩;refine⟨⟨by decide,by decide,rfl⟩,natE.enc x.1.length,rfl,?_⟩;have hb1:Bw Z (Z.alloc (.cells (natE.enc x.1.length).toArray 3)):=zba _ _;have hZs:=hbZ.size;have htl:((xs.take k).map (·.1.length)).length=k:=by rw [List.length_map,List.length_take];omega
   have htk:(xs.take (k+1)).map (·.1.length)=(xs.take k).map (·.1.length)++[x.1.length]:=by
    rw [tsg hkl,List.map_append,hx];rfl
   unfold opsE zdl;show SatR _ _;refine appI (ho.below hb1) (zbi natE x.1.length) (by have:=hb1.size;omega) (by have:=hB.rl;omega) fun p' c' U oU gU hat1=>?_;rw [zcN] at gU;rw [<- htk] at oU ⊢;have fU:=za0 (zaa hb1 fL) (ho.below hb1) (by decide) gU;refine nxI (by omega) ?_;exact⟨(k+1,p',c'),(cvE rfl rfl),⟨hkl,oU,fU,hbZ.trans ((hb1.mono hZs).trans (zbc (ho.below hb1) (by have:=hb1.size;omega) (Nat.le_refl _) gU))⟩,zdc (by omega)⟩
  ·have hc:¬ (k:Int)<(xs.length:Int):=dF hc;obtain rfl:k=xs.length:=by omega
   rw [List.take_length] at ho ⊢;exact⟨(ps,cs),(cvE rfl rfl),ho,fL,hbZ⟩
 clear fL sX hbX;rintro⟨ps,cs⟩ X ⟨ho,fL,hbX⟩;dsimp only at ho ⊢;refine⟨Nat,fun R=>⟨[(1,At0 bx),(2,At0 L),(3,.slice ps (xs.map (·.1.length)).length cs),(6,At0 R)],[]⟩,fun R Z=>CanS W.heap.size Z yl L R (xs.map (·.1.length)) ps cs [] none 0/\L<R/\Bw W Z,?_,?_⟩
 ·refine⟨X.heap.size,(cvE rfl rfl),⟨hold _ fL,hnew X _,ho.alloc _,OwnS.nil,fun z hz=>(by cases hz),fun z hz=>(by cases hz),fun z hz=>(by cases hz)⟩,hlt fL,hbX.alloc hbX.size _⟩
 clear ho fL hbX;rintro R X ⟨hS,hLR,hbX⟩;refine⟨(List zg4×Option Addr×Nat)×Option Addr×Nat,fun s=>⟨[(1,At0 bx),(2,At0 L),(3,.slice s.2.1 (zdT m).length s.2.2),(6,At0 R)],[]⟩,fun s Z=>CanS W.heap.size Z yl L R (zdT m) s.2.1 s.2.2 s.1.1 s.1.2.1 s.1.2.2/\s.1.1.map (fun z=>z.1.map (·.1))=m.wr.map zdn/\Bw W Z,?_,?_⟩
 ·refine⟨_,zac (zab (zaa hbX fxW)) (i:=0) rfl,?_⟩;refine⟨_,zgA (hMW.same fun k hk=>hbX.block k (hRW k hk)).cells (i:=2) rfl,?_⟩;refine⟨Nat×(List zg4×Option Addr×Nat)×Option Addr×Nat,fun s=>⟨[(1,At0 bx),(2,At0 L),(3,.slice s.2.2.1 (xs.map (·.1.length)++s.2.1.1.map (·.1.length)).length s.2.2.2),(6,At0 R),(35,.slice p3 ys.length c3),(36,i64 ys.length),(37,i64 (s.1:Nat))],[]⟩,
   fun s Z=>s.1<=ys.length/\CanS W.heap.size Z yl L R (xs.map (·.1.length)++s.2.1.1.map (·.1.length)) s.2.2.1 s.2.2.2 s.2.1.1 s.2.1.2.1 s.2.1.2.2/\s.2.1.1.map (fun z=>z.1.map (·.1))=(ys.take s.1).map (fun y=>zdn y.1)/\Bw W Z,fun s=>ys.length-s.1,(0,([],none,0),ps,cs),
   ⟨.cons rfl (.cons rfl (.cons (by simp;rfl) (.cons rfl (.cons rfl (.cons rfl (.cons rfl .nil)))))),rfl⟩,⟨Nat.zero_le _,by simpa using hS,rfl,hbX⟩,?_⟩
  clear hS hbX;rintro⟨k,⟨zs,pr,cr⟩,ps,cs⟩ Z ⟨hk,hS,hz,hbZ⟩;dsimp only at hk hS hz ⊢;have hzl:zs.length=k:=by
   have:=congrArg List.length hz;rw [List.length_map,List.length_map,List.length_take] at this;omega
  refine biE (fun hc=>?_) fun hc=>?_
  ·have hc:(k:Int)<(ys.length:Int):=dT hc;have hkl:k<ys.length:=by omega
   have hZM:=hMW.same fun k hk=>hbZ.block k (hRW k hk);obtain⟨y,hyk⟩:∃ y,ys[k]=y:=⟨_,rfl⟩;have hym:y∈ys:=by rw [<- hyk];exact gM hkl
   have hyw:y.1∈m.wr:=by rw [<- hM.e3];exact List.mem_map.2 ⟨y,hym,rfl⟩
   obtain⟨bw1,bw2,bw3⟩:=hB.wr _ hyw;obtain⟨bp,op,hpe,hlp,hat⟩:=hZM.r3.at hkl;subst hpe;refine⟨k,rfl,hkl,?_⟩;refine⟨slV y,by rw [<- hyk];exact zac (hat k hkl) (i:=0) rfl,?_⟩;refine cmo (zoH (hZM.n3 y hym) bw1 (zb9 hTW (hbZ.block _ (hRW _ hRt)))) ?_;rintro e Y ⟨⟨rk,pk,ck,rfl,hrk,ork,onk⟩,hbY⟩;have hZs:=hbZ.size;have hSY:=hS.below hbY;have hrkl:rk.length<=10000:=by rw [<- hrk,List.length_map] at bw2;exact bw2
   obtain⟨nz,hnz⟩:∃ nz:zg4,nz=(rk,pk,ck):=⟨_,rfl⟩;have hen:[Value.slice pk rk.length ck]=rnkE.enc nz:=by rw [hnz];rfl
   refine⟨_,zac (zab hSY.fR) (i:=0) rfl,?_⟩;refine⟨⟨by decide,by decide,rfl⟩,rnkE.enc nz,by rw [<- hen];rfl,?_⟩;have hb1:Bw Y (Y.alloc (.cells (rnkE.enc nz).toArray 117)):=zba _ _;have hS1:=hSY.below hb1;have ork1:=ork.below hb1;have onk1:=fun x hx=>(onk x hx).below hb1;unfold opsE zdl;show SatR _ _;refine appR hS1.rk (zbi rnkE nz) (by have:=hb1.size;have:=hbY.size;omega) (by have:=hB.wl;omega) fun p' c' U oU gU hat1=>?_;have fLU:=za0 hS1.fL hS1.rk (by decide) gU;have fRU:=za0 hS1.fR hS1.rk (by decide) gU;refine zar k172 fRU (o:=0) (v := .slice p' (zs++[nz]).length c') rfl rfl (by show 0<1;decide) rfl fun S fS gS sS=>?_;have hbZY:=hbZ.trans (hbY.mono hZs);have sY:=hbY.size;have sb1:=hb1.size;have hbU:Bw W U:=(hbZY.trans (hb1.mono (by omega))).trans (zbc hS1.rk (by omega) (Nat.le_refl _) gU);have hRn:W.heap.size<=R:=by omega
   have hbS:Bw W S:=hbU.trans (zao gS hbU.size hRn);have hSS:CanS W.heap.size S yl L R (xs.map (·.1.length)++zs.map (·.1.length)) ps cs (zs++[nz]) p' c':=by
    have kU:∀ {α:Type} {E:Enc α} {T cc:Nat} {r:Option Addr} {ll:List α},T≠117->T≠172->OwnS E T W.heap.size (Y.alloc (.cells (rnkE.enc nz).toArray 117)) r cc ll->OwnS E T W.heap.size S r cc ll:=fun {α E T cc r ll} h1 h2 h=>za2 (zcg h hS1.rk h1 gU) fRU h2 gS;refine⟨(gS.block L (hlt fLU) (by simp;omega)).trans fLU,fS,kU (by decide) (by decide) hS1.own,za2 oU fRU (by decide) gS,fun z hz=>?_,fun z hz=>?_,fun z hz=>?_⟩
    ·rcases List.mem_append.1 hz with hz | hz
     ·exact kU (by decide) (by decide) (hS1.n1 z hz)
     ·rw [List.mem_singleton.1 hz,hnz];exact kU (by decide) (by decide) (ork1.lower hZs)
    ·rcases List.mem_append.1 hz with hz | hz
     ·exact fun x hx=>kU (by decide) (by decide) (hS1.n2 z hz x hx)
     ·rw [List.mem_singleton.1 hz,hnz];exact fun x hx=>kU (by decide) (by decide) ((onk1 x hx).lower hZs)
    ·rcases List.mem_append.1 hz with hz | hz
     ·exact hS1.dis z hz
     ·rw [List.mem_singleton.1 hz,hnz];intro x hx a b ha hb;have:=(zav (onk x hx) hb).1;have:=(zav hS.own ha).2.1;omega
   clear hS1 ork1 onk1 hSY hS oU gU hat1 fLU fRU fS gS;refine⟨⟨by decide,by decide,rfl⟩,natE.enc rk.length,rfl,?_⟩;have hb2:Bw S (S.alloc (.cells (natE.enc rk.length).toArray 3)):=zba _ _;have hS2:=hSS.below hb2;have sbS:=hbS.size;have sb2:=hb2.size;unfold opsE zdl;show SatR _ _;refine appI hS2.own (zbi natE rk.length) (by omega) (by rw [lap,List.length_map,List.length_map];have:=hB.rl;have:=hB.wl;omega) fun p2' c2' V oV gV hat2=>?_;rw [zcN] at gV;have hSV:=hS2.size oV gV hat2;have hzz:(xs.map (·.1.length)++zs.map (·.1.length))++[rk.length]=xs.map (·.1.length)++(zs++[nz]).map (·.1.length):=by
    rw [List.map_append,List.append_assoc,hnz];rfl
   rw [hzz] at hSV ⊢;refine nxI (by omega) ?_;refine⟨(k+1,(zs++[nz],p',c'),p2',c2'),(cvE rfl rfl),⟨hkl,hSV,?_,hbS.trans ((hb2.mono sbS).trans (zbc hS2.own (by omega) (Nat.le_refl _) gV))⟩,zdc (by omega)⟩;rw [tsg hkl,hyk,List.map_append,List.map_append,hz,hnz];show _++[rk.map (·.1)]=_++[zdn y.1];rw [hrk]
  ·have hc:¬ (k:Int)<(ys.length:Int):=dF hc;obtain rfl:k=ys.length:=by omega
   have hz2:zs.map (fun z=>z.1.map (·.1))=m.wr.map zdn:=by
    rw [List.take_length] at hz;rw [hz,<- hM.e3,List.map_map];rfl
   have hsz2:xs.map (·.1.length)++zs.map (·.1.length)=zdT m:=by
    rw [zlp hM.e2,zjv hz2];rfl
   rw [hsz2] at hS ⊢;exact⟨((zs,pr,cr),ps,cs),(cvE rfl rfl),hS,hz2,hbZ⟩
 clear hS hbX;rintro⟨⟨zs,pr,cr⟩,ps,cs⟩ V ⟨hS,hz,hbV⟩;dsimp only at hS hz ⊢;have hVs:=hbV.size;have hMV:=hMW.same fun k hk=>hbV.block k (hRW k hk);have fxV:=zaa hbV fxW;have hsl1:(zdT m).length<=1000:=by
  unfold zdT;rw [lap,List.length_map,List.length_map];omega
 have hsl2:∀ n∈zdT m,n<=1000000:=fun n hn=>by
  unfold zdT at hn;rcases List.mem_append.1 hn with hn | hn
  ·obtain⟨r,hr,rfl⟩:=List.mem_map.1 hn;have:=(hB.rs r hr).2.1;omega
  ·obtain⟨w,hw,rfl⟩:=List.mem_map.1 hn;have:=(hB.wr w hw).2.1;omega
 refine cmo zpy ?_;rintro e V1 ⟨rfl,fo,sV1,hbV1⟩;have hI:=zr2 fo (hS.own.row.below hbV1) (fun a ha=>by have:=(zav hS.own ha).2.1;omega) hsl1 hsl2;obtain⟨Kp,hKp⟩:∃ Kp:(Nat->Prop)->World->Prop,Kp=fun F Y=>V1.heap.size<=Y.heap.size/\∀ k,k<V.heap.size->(Rd k\/W.heap.size<=k)->Y.heap[k]?=V.heap[k]?/\¬ F k:=⟨_,rfl⟩;have hF0:∀ k,F0 k->k<W.heap.size:=fun k hk=>(hJ.lt _ _ _ _ h0 hk).1;have hLV:=hlt hS.fL;have hRV:=hlt hS.fR;have hb1:Bw W V1:=hbV.trans (hbV1.mono hVs);refine zfH (sgOk _) rfl (lb := #[At0 V.heap.size]) rfl rfl hI (Nat.le_refl _) (fun k hk=>⟨?_,rfl⟩) (fun pre vs W ⟨l,q,_,h,_⟩=>by rw [h];rfl) (by decide)
  F0 (fun pre F Y=>J (pre.map (zdZ m)) F Y/\Kp F Y) (fun _ _ _ _=>False) (fun k hk=>?_) ⟨?_,?_⟩ (fun ex=>⟨fun _ _ _ _ h=>h.elim,fun _ _ _ _ h=>h.elim⟩) ⟨hJ.step _ _ _ _ h0 (.below hb1),?_⟩ ?_ ?_ ?_
 ·rcases hk with (rfl | ⟨a,ha,rfl⟩) | h
  ·omega
  ·have:=(zav hS.own ha).2.1;omega
  ·exact h.elim
 ·rcases hk with rfl | ⟨a,ha,rfl⟩
  ·intro h;have:=hF0 _ h;omega
  ·intro h;have:=hF0 _ h;have:=(zav hS.own ha).1;omega
 ·rintro pre F A C ⟨hj,hk⟩ hs;rw [hKp] at hk ⊢;have hss:=hs.size;exact⟨hJ.step _ _ _ _ hj (hs.mono (by omega)),Nat.le_trans hk.1 hss,fun k h1 h2=>⟨(hs.same k (by have:=hk.1;omega) (.inl ⟨by omega,fun h=>h⟩)).trans (hk.2 k h1 h2).1,(hk.2 k h1 h2).2⟩⟩
 ·rintro pre F A k ⟨hj,_⟩ hk;exact hJ.lt _ _ _ _ hj hk
 ·rw [hKp];refine⟨Nat.le_refl _,fun k h1 h2=>⟨hbV1.block k h1,fun h=>?_⟩⟩;rcases h2 with h2 | h2
  ·exact hrf k h2 h
  ·have:=hF0 k h;omega
 ·rintro yl2 pre ds vs F Y hyl hpre hJ0 ⟨l,qd,hlast,rfl,hsl,hcel⟩ hfy ⟨lo,hlo⟩;have hdx:ds=l:=by simpa using hlast
  subst hdx;refine⟨rfl,F,KeepsG.refl _ _,hJ0,?_⟩;rintro O Y2 hY2 ⟨hj,hkp⟩;rw [hKp] at hkp;obtain⟨hY2s,hkp⟩:=hkp;have hkq:=hkp;have hslY:SlR natE Y2 qd ds:=by
   rw [hY2];refine zbk hsl fun a ha=>zag fun e=>?_;obtain⟨cur,hcur⟩:=hcel a ha;rw [e,hlo] at hcur
   cases hcur
  obtain⟨hdl,hdlt⟩:=znG (hpre.subset (List.mem_append_right _ (List.mem_singleton.2 rfl)));have hdl2:ds.length=m.rs.length+m.wr.length:=by
   rw [hdl];unfold zdT;rw [lap,List.length_map,List.length_map]
  have hMY:MixM Rd Y2 b o m q c p1 p2 p3 c1 c2 c3 xs ys:=hMV.same fun k hk=>(hkp k (by have:=hRW k hk;omega) (.inl hk)).1;have fxY:=(hkp bx (by have:=hRW bx hbx;omega) (.inl hbx)).1.trans fxV;have fLY:=(hkp L hLV (.inr (by omega))).1.trans hS.fL;have fRY:=(hkp R hRV (.inr (by omega))).1.trans hS.fR;have kR:∀ {α:Type} {E:Enc α} {T cc:Nat} {r:Option Addr} {ll:List α},OwnS E T W.heap.size V r cc ll->OwnS E T W.heap.size Y2 r cc ll:=fun {α E T cc r ll} h=>h.same fun a ha=>(hkp _ (zav h ha).2.1 (.inr (zav h ha).1)).1;have rkY:=kR hS.rk;have n1Y:=fun z hz=>kR (hS.n1 z hz);have n2Y:=fun z hz y hy=>kR (hS.n2 z hz y hy);clear hkp hlo hcel hsl;have hbY:b<Y2.heap.size:=by have:=hRW b hM.db;omega
  refine⟨_,zac (zab fxY) (i:=0) rfl,?_⟩;have hbase:zax Y2 ⟨b,o,none⟩ (exC m.base q c):=by
   have:=zaC (n:=0) (m:=333) hMY.cells;rw [List.drop_zero,List.take_append_of_le_length (by rw [zat];decide),List.take_of_length_le (by rw [zat];decide)] at this;exact this
  refine⟨exC m.base q c,zat _ _ _,hbase,hbY,?_⟩;obtain⟨M,hMM⟩:=nm (Y2.heap.size);refine zak (X:=Y2) (v := .agg (exC m.base q c).toArray) k34 (zat _ _ _) zbK (zdp _ _ _) fun Z hbZ fZ sZ=>?_;have fZ:ExH Z Y2.heap.size m.base q c:=fZ;rw [<- hMM] at fZ ⊢;refine⟨_,zac (zab fZ) (i:=0) rfl,?_⟩;refine cmo (zjh (hMY.ev.below hbZ) (by omega) hMY.qn) ?_;rintro e Z2 ⟨⟨q1,k1,rfl,oE⟩,hbZ2⟩;refine zar k22 (zaa hbZ2 fZ) (o:=0+0) (v := .slice q1 m.base.ev.length k1) rfl rfl (by rw [zat];decide) rfl fun S fS gS sS=>?_;rw [show 0+0=0 from rfl,zsq] at fS;have hMZ2:M<Z2.heap.size:=by have:=hbZ2.size;omega
  have hbS:Bw Y2 S:=((zst hbZ hbZ2)).trans (zao gS (by omega) (by omega));have oES:OwnS evE 54 Y2.heap.size S q1 k1 m.base.ev:=za2 (oE.lower hbZ.size) (zaa hbZ2 fZ) (by decide) gS;clear oE gS sS fZ hbZ hbZ2;have tMY:∀ {S:World},Bw Y2 S->MixM Rd S b o m q c p1 p2 p3 c1 c2 c3 xs ys:=fun {S} hb=>hMY.same fun k hk=>hb.block k (by have:=hRW k hk;omega);have hxlen:=hxl;refine⟨_,zac (zab (zaa hbS fxY)) (i:=0) rfl,?_⟩;refine⟨_,zgA (tMY hbS).cells (i:=0) rfl,?_⟩;refine⟨Nat,fun k=>⟨[(1,At0 bx),(2,At0 L),(6,At0 R),(10,.slice qd ds.length ds.length),(11,At0 M),(67,.slice p1 m.rs.length c1),(68,i64 m.rs.length),(69,i64 (k:Nat))],[]⟩,
   fun k Z=>k<=m.rs.length/\ExH Z M { m.base with rf:=⟨m.base.rf.n,rfF (m.rs.take k) ds m.base.rf.to⟩ } q1 k1/\OwnS evE 54 Y2.heap.size Z q1 k1 m.base.ev/\Bw Y2 Z,fun k=>m.rs.length-k,0,
   (cvE rfl rfl),⟨Nat.zero_le _,fS,oES,hbS⟩,?_⟩
  clear fS oES hbS;rintro k Z ⟨hk,fZ,oE,hbZ⟩;refine biE (fun hc=>?_) fun hc=>?_
  ·have hc:(k:Int)<(m.rs.length:Int):=dT hc;have hkl:k<m.rs.length:=by omega
   have hZM:=tMY hbZ;have hZs:=hbZ.size;obtain⟨⟨r,s⟩,hrs⟩:∃ x,m.rs[k]=x:=⟨_,rfl⟩;obtain⟨hr48,hs1,hs48⟩:=hB.rs (r,s) (by rw [<- hrs];exact gM hkl);dsimp only at hr48 hs1 hs48;have hkx:k<xs.length:=by omega
   obtain⟨y,hyk⟩:∃ y,xs[k]=y:=⟨_,rfl⟩;have hym:y∈xs:=by rw [<- hyk];exact gM hkx
   have hys:y.1=s:=by
    have h1:(xs.map (·.1))[k]?=some y.1:=(by rw [List.getElem?_map,gE hkx,hyk];rfl);rw [hM.e2,List.getElem?_map,gE hkl,hrs] at h1;exact (Option.some.inj h1).symm
   obtain⟨d,hd⟩:∃ d,ds[k]?=some d:=⟨_,gE (by omega)⟩;have hkd:k<ds.length:=by omega
   have hde:ds[k]=d:=by rw [gE hkd] at hd;exact Option.some.inj hd
   have hdlt2:d<y.1.length:=by
    refine hdlt k _ d ?_ hd;unfold zdT;rw [List.getElem?_append_left (by rw [List.length_map];exact hkl),List.getElem?_map,gE hkl,hrs,hys];rfl
   have hdlt3:d<s.length:=by rw [<- hys];exact hdlt2
   obtain⟨t,ht⟩:∃ t,y.1[d]=t:=⟨_,rfl⟩;have hts:s[d]=t:=by
    have h1:y.1[d]?=some t:=(by rw [gE hdlt2,ht]);rw [hys,gE hdlt3] at h1;exact Option.some.inj h1
   have ht48:t<48:=hs48 t (by rw [<- hts];exact gM hdlt3);have hgt:s.getD (ds.getD k 0) 0=t:=by
    rw [gDe,gDe,hd];show (s[d]?).getD 0=t;rw [gE hdlt3,hts];rfl
   have htk:rfF (m.rs.take (k+1)) ds m.base.rf.to=upd (rfF (m.rs.take k) ds m.base.rf.to) t (rfF (m.rs.take k) ds m.base.rf.to t|||2^r):=by
    rw [tsg hkl,hrs,zkl,List.length_take,Nat.min_eq_left hk,hgt]
   obtain⟨G,hG⟩:=nm (rfF (m.rs.take k) ds m.base.rf.to);have hGw:WrdR G:=by
    rw [hG];exact zmH (ds:=[]) hB.rf fun r hr=>(hB.rs r (List.mem_of_mem_take hr)).1
   rw [<- hG] at fZ htk;obtain⟨A,T,hA,hE⟩:=zpL { m.base with rf:=⟨m.base.rf.n,G⟩ } q1 k1;have hRel:RelAt Z M 50 34 A T ⟨m.base.rf.n,G⟩:=⟨hA,by rw [<- hE];exact fZ⟩;have hr1:k<(m.rs.map (·.1)).length:=by rw [List.length_map];exact hkl
   obtain⟨b1,o1,hp1,hl1,hat1⟩:=hZM.r1.at hr1;obtain⟨b2,o2,hp2,hl2,hat2⟩:=hZM.r2.at hkx;obtain⟨b3,o3,hp3,hl3,hat3⟩:=(hZM.n2 y hym).at hdlt2;have hslZ:=hslY.below hbZ;obtain⟨b4,o4,hp4,hl4,hat4⟩:=hslZ.at hkd;have e1:some (Value.slice p1 m.rs.length c1)=some (Value.slice (some ⟨b1,o1,none⟩) m.rs.length c1):=by rw [hp1]
   subst hp1;subst hp2;subst hp4;refine⟨k,rfl,hkl,?_⟩;refine⟨i64 r,by have:=zac (hat1 k hr1) (i:=0) (v:=i64 r) (by rw [List.getElem_map,hrs];rfl);exact this,?_⟩;have dZ:Bw Z Z.drew:=(Below.refl _ _).drew;refine DrawE.ord [23] [0,1,2,3,4,5,6,7,8,9,10,11,12,13,14,15,16,17,18,19,20,21,22,23] (by kernel_rfl) ?_;refine⟨_,zac (zab (hdr (zaa hbZ fxY))) (i:=0) rfl,?_⟩;refine⟨_,zgA (hZM.same (X:=Z.drew) fun _ _=>rfl).cells (i:=1) rfl,?_⟩;refine⟨k,rfl,hkx,?_⟩;refine⟨slV y,by have:=zac (zae dZ (hat2 k hkx)) (i:=0) (v:=slV y) (by rw [hyk];rfl);exact this,?_⟩;refine⟨k,rfl,hkd,?_⟩;refine⟨i64 d,by have:=zac (zae dZ (hat4 k hkd)) (i:=0) (v:=i64 d) (by rw [hde];rfl);exact this,?_⟩;unfold slV;rw [hp3];refine⟨d,rfl,hdlt2,?_⟩;refine⟨i64 t,by have:=zac (zae dZ (hat3 d hdlt2)) (i:=0) (v:=i64 t) (by rw [ht];rfl);exact this,?_⟩;refine⟨t,rfl,ht48,?_⟩;refine⟨s64 (G t),(hRel.same (Y:=Z.drew) rfl).cell ht48,?_⟩;refine⟨by omega,_,zbE (e:=r) (by omega),?_⟩;refine⟨_,zcH (hGw t ht48) (zaI (by omega)),?_⟩;refine⟨t,rfl,ht48,?_⟩;refine zar k24 (hRel.same (Y:=Z.drew) rfl).cells (o:=50+1+t*1) (v:=s64 (G t|||2^r)) rfl rfl (by rw [hRel.len];omega) rfl fun S fS gS sS=>?_;rw [hRel.set ht48] at fS;have gS2:Z.grownBy S (some M):=zaf (zai dZ) gS;refine nxI (by omega) ?_;refine⟨k+1,(cvE rfl rfl),⟨hkl,?_,za2 oE fZ (by decide) gS2,hbZ.trans (zao gS2 hZs (by omega))⟩,zdc (by omega)⟩;rw [htk];have e5:=hE ⟨m.base.rf.n,upd G t (G t|||2^r)⟩;show S.heap[M]?=some (.cells (exC { m.base with rf:=⟨m.base.rf.n,upd G t (G t|||2^r)⟩ } q1 k1).toArray _ _);exact fS.trans (by rw [<- e5])
  have hc:¬ (k:Int)<(m.rs.length:Int):=dF hc;obtain rfl:k=m.rs.length:=by omega
  rw [List.take_length] at fZ;obtain⟨RF,hRF⟩:∃ RF:ExD,RF={ m.base with rf:=⟨m.base.rf.n,rfF m.rs ds m.base.rf.to⟩ }:=⟨_,rfl⟩;rw [<- hRF] at fZ;have hRFe:RF.ev=m.base.ev:=by rw [hRF]
  have hRFc:RF.co=m.base.co:=by rw [hRF]
  have hRFm:RF.mem=m.base.mem:=by rw [hRF]
  obtain⟨dl,hdle⟩:=nm (ds.drop m.rs.length);have hdll:dl.length=m.wr.length:=by rw [hdle,List.length_drop];omega
  have hslD:SlR natE Y2 (zbt qd ds.length m.rs.length 1) dl:=by
   have:=hslY.sub (cap:=ds.length) (lo:=m.rs.length) (hi:=ds.length) (by omega) (Nat.le_refl _) (Nat.le_refl _);rw [List.take_of_length_le (by rw [List.length_drop];exact Nat.le_refl _),<- hdle] at this;exact this
  refine⟨_,zac (zab (zaa hbZ fxY)) (i:=0) rfl,?_⟩;refine⟨_,zgA (tMY hbZ).cells (i:=0) rfl,?_⟩;refine⟨m.rs.length,rfl,by omega,?_⟩;obtain⟨qD,hqD⟩:=nm (zbt qd ds.length m.rs.length 1);rw [<- hqD] at hslD ⊢;have hdn:ds.length-m.rs.length=dl.length:=by omega
  rw [hdn];obtain⟨Rs,hRs⟩:=nm (m.wr.map zdn);have hRsl:Rs.length=m.wr.length:=by rw [hRs,List.length_map]
  have hzl:zs.length=m.wr.length:=by have:=congrArg List.length hz;simpa using this
  have hRsb:∀ R∈Rs,∀ k∈R,k≠[]/\k.length<=48/\∀ a∈k,a<m.base.ev.length:=fun R hR k hk=>by
   rw [hRs] at hR;obtain⟨w,hw,rfl⟩:=List.mem_map.1 hR;exact (hB.wr w hw).2.2 k hk
  refine⟨Nat,fun l=>⟨[(1,At0 bx),(2,At0 L),(6,At0 R),(11,At0 M),(104,.slice qD dl.length dl.length),(105,i64 dl.length),(106,i64 (l:Nat))],[]⟩,
   fun l Z=>l<=dl.length/\ExH Z M { RF with co:=(coG m.base.ev 0 (Rs.take l) dl (RF.co,RF.mem)).1,mem:=(coG m.base.ev 0 (Rs.take l) dl (RF.co,RF.mem)).2 } q1 k1/\OwnS evE 54 Y2.heap.size Z q1 k1 m.base.ev/\Bw Y2 Z,fun l=>dl.length-l,0,
   (cvE rfl rfl),⟨Nat.zero_le _,fZ,oE,hbZ⟩,?_⟩
  clear fZ oE hbZ;rintro l Z ⟨hl,fZ,oE,hbZ⟩;obtain⟨P,hP⟩:=nm (coG m.base.ev 0 (Rs.take l) dl (RF.co,RF.mem));rw [<- hP] at fZ;have hZs:=hbZ.size;have hPw:WrdR P.1.to:=by
   rw [hP];refine znP (by rw [hRFc];exact hB.co) fun R hR k hk a ha=>?_;have:=(hRsb R (List.mem_of_mem_take hR) k hk).2.2 a ha;omega
  refine biE (fun hc=>?_) fun hc=>?_
  ·have hc:(l:Int)<(dl.length:Int):=dT hc;have hll:l<dl.length:=by omega
   have hlz:l<zs.length:=by omega
   have hlR:l<Rs.length:=by omega
   obtain⟨z,hzk⟩:∃ z,zs[l]=z:=⟨_,rfl⟩;have hzm:z∈zs:=by rw [<- hzk];exact gM hlz
   have hzR:Rs[l]?=some (z.1.map (·.1)):=by
    rw [hRs,<- hz,List.getElem?_map,gE hlz,hzk];rfl
   have hzRm:z.1.map (·.1)∈Rs:=List.mem_of_getElem? hzR;obtain⟨d,hd⟩:∃ d,dl[l]=d:=⟨_,rfl⟩;have hdd:dl[l]?=some d:=by rw [gE hll,hd]
   have hdz:d<z.1.length:=by
    refine hdlt (m.rs.length+l) _ d ?_ (by rw [hdle,List.getElem?_drop] at hdd;exact hdd);unfold zdT;rw [List.getElem?_append_right (by rw [List.length_map];omega),List.length_map,Nat.add_sub_cancel_left];have:=hzR;rw [hRs,List.getElem?_map] at this;rw [List.getElem?_map]
    cases hw:m.wr[l]? with
    | none=>rw [hw] at this;cases this
    | some w =>
     rw [hw] at this;have h2:zdn w=z.1.map (·.1):=Option.some.inj this;show some (zdn w).length=_;rw [h2,List.length_map]
   obtain⟨y,hyk⟩:∃ y,z.1[d]=y:=⟨_,rfl⟩;have hym:y∈z.1:=by rw [<- hyk];exact gM hdz
   obtain⟨hy0,hy48,hyev⟩:=hRsb _ hzRm y.1 (List.mem_map.2 ⟨y,hym,rfl⟩);have hgy:(z.1.map (·.1)).getD d []=y.1:=by
    rw [gDe,List.getElem?_map,gE hdz,hyk];rfl
   obtain⟨hlR2,hzR2⟩:=List.getElem?_eq_some_iff.1 hzR;have htk:coG m.base.ev 0 (Rs.take (l+1)) dl (RF.co,RF.mem)=(zdo y.1 P.1,upd P.2 l (zfP m.base.ev y.1)):=by
    rw [tsg hlR,hzR2,zkT,<- hP,List.length_take,Nat.min_eq_left (by omega),Nat.zero_add];rw [show dl.getD l 0=d by rw [gDe,hdd];rfl,hgy]
   obtain⟨bD,oD,hpD,hlD,hatD⟩:=(hslD.below hbZ).at hll;obtain⟨bR,oR,hpR,hlR0,hatR⟩:=(rkY.below hbZ).row.at hlz;obtain⟨bz,oz,hpz,hlz0,hatz⟩:=((n1Y z hzm).below hbZ).row.at hdz;have hyrow:=((n2Y z hzm y hym).below hbZ).row;have hylt:=fun a ha=>(zav (n2Y z hzm y hym) (a:=a) ha).2.1;subst hpD;subst hpR;refine⟨l,rfl,hll,?_⟩;refine⟨i64 d,by have:=zac (hatD l hll) (i:=0) (v:=i64 d) (by rw [hd];rfl);exact this,?_⟩;refine⟨_,zac (zab (zaa hbZ fRY)) (i:=0) rfl,?_⟩;refine⟨l,rfl,hlz,?_⟩;refine⟨.slice z.2.1 z.1.length z.2.2,by have:=zac (hatR l hlz) (i:=0) (v := .slice z.2.1 z.1.length z.2.2) (by rw [hzk];rfl);exact this,?_⟩;rw [hpz];refine⟨d,rfl,hdz,?_⟩;refine⟨slV y,by have:=zac (hatz d hdz) (i:=0) (v:=slV y) (by rw [hyk];rfl);exact this,?_⟩;obtain⟨A,T,hA,hE⟩:=znt { RF with co:=P.1,mem:=P.2 } q1 k1;have hRel:RelAt Z M 99 34 A T P.1:=⟨hA,by rw [<- hE];exact fZ⟩;refine cmo (zpD hRel hPw hyrow (fun a ha=>by have:=hylt a ha;omega) (by omega) (fun a ha=>by have:=hyev a ha;omega)) ?_;rintro e V2 ⟨rfl,hRel2,gV2⟩;have fV2:ExH V2 M { RF with co:=zdo y.1 P.1,mem:=P.2 } q1 k1:=by
    have e5:=hE (zdo y.1 P.1);show V2.heap[M]?=some (.cells (exC { RF with co:=zdo y.1 P.1,mem:=P.2 } q1 k1).toArray _ _);exact hRel2.cells.trans (by rw [<- e5])
   have hbV2:Bw Y2 V2:=hbZ.trans (zao gV2 hZs (by omega));have oE2:=za2 oE fZ (by decide) gV2;have hyr2:=((n2Y z hzm y hym).below hbV2).row;obtain⟨j,hj2⟩:∃ j,j+1=y.1.length:=⟨y.1.length-1,by have:=List.length_pos_iff.2 hy0;omega⟩;have hjl:j<y.1.length:=by omega
   obtain⟨b6,o6,hp6,hl6,hat6⟩:=hyr2.at hjl;obtain⟨t,ht⟩:∃ t,y.1[j]=t:=⟨_,rfl⟩;have htev:t<m.base.ev.length:=hyev t (by rw [<- ht];exact gM hjl);have hlast:y.1.getLastD 0=t:=by
    rw [List.getLastD_eq_getLast?,List.getLast?_eq_getElem?,show y.1.length-1=j by omega,gE hjl,ht];rfl
   obtain⟨b7,o7,hp7,hl7,hat7⟩:=oE2.row.at htev;have hlV:zfP m.base.ev y.1=(m.base.ev[t]).v:=by
    show (m.base.ev.getD (y.1.getLastD 0) ev0).v=_;rw [hlast,gDe,gE htev];rfl
   have dV:Bw V2 V2.drew:=(Below.refl _ _).drew;have hl6':l<6:=by omega
   unfold slV;rw [hp6];refine DrawE.ord [15] [0,1,2,3,4,5,6,7,8,9,10,11,12,13,14,15] (by kernel_rfl) ?_;refine⟨.slice q1 m.base.ev.length k1,by have:=zac (zab (hdr fV2)) (i:=0) (v := .slice q1 RF.ev.length k1) rfl;rw [hRFe] at this;exact this,?_⟩;refine⟨(j:Nat),(zaj (by omega)).trans (by omega),?_⟩;refine⟨j,rfl,hjl,?_⟩;refine⟨i64 t,by have:=zac (zae dV (hat6 j hjl)) (i:=0) (v:=i64 t) (by rw [ht];rfl);exact this,?_⟩;rw [hp7];refine⟨t,rfl,htev,?_⟩;refine⟨u8 (m.base.ev[t]).v,by have:=zac (zae dV (hat7 t htev)) (i:=3) (v:=u8 (m.base.ev[t]).v) rfl;exact this,?_⟩;refine⟨l,rfl,hl6',?_⟩;refine zar k5 (hdr fV2) (o:=327+l*1) (v:=u8 (m.base.ev[t]).v) rfl rfl (by rw [zat];omega) rfl fun S fS gS sS=>?_;rw [Nat.mul_one,zqY _ _ _ hl6'] at fS;have gS2:V2.grownBy S (some M):=zaf (zai dV) gS;refine nxI (by omega) ?_;refine⟨l+1,(cvE rfl rfl),⟨hll,?_,by rw [<- hp7];exact za2 oE2 fV2 (by decide) gS2,hbV2.trans (zao gS2 hbV2.size (by omega))⟩,zdc (by omega)⟩;rw [htk,hlV,<- hp7];exact fS
  have hc:¬ (l:Int)<(dl.length:Int):=dF hc;obtain rfl:l=dl.length:=by omega
  rw [List.take_of_length_le (by omega)] at hP;have hcand:zdZ m ds={ RF with co:=P.1,mem:=P.2 }:=by
   rw [hP,hRF,hdle,hRs];rfl
  rw [<- hcand] at fZ;have oE:OwnS evE 54 Y2.heap.size Z q1 k1 (zdZ m ds).ev:=oE;refine⟨_,zac (zab (zaa hbZ fLY)) (i:=0) rfl,?_⟩;refine⟨exC (zdZ m ds) q1 k1,zat _ _ _,zab fZ,hlt fZ,?_⟩;have hjZ:=hJ.step _ _ _ _ hj (StepG.below hbZ);have hGv:∀ k,GvX [.agg (exC (zdZ m ds) q1 k1).toArray] k->Y2.heap.size<=k/\∃ a,q1=some a/\k=a.block:=by
   rintro k ⟨x,a,cc,he,rfl⟩;have h1:(exC (zdZ m ds) q1 k1).toArray=(exC x (some a) cc).toArray:=by
    have:=List.head_eq_of_cons_eq he;exact Value.agg.inj this
   have h2:exC (zdZ m ds) q1 k1=exC x (some a) cc:=by simpa using h1
   have h3:Value.slice q1 (zdZ m ds).ev.length k1=Value.slice (some a) x.ev.length cc:=List.head_eq_of_cons_eq h2;have h4:q1=some a:=by injection h3
   exact⟨(zav oE h4).1,a,h4,rfl⟩
  have hmp:(pre++[ds]).map (zdZ m)=pre.map (zdZ m)++[zdZ m ds]:=by rw [List.map_append];rfl
  have hpm:(pre.map (zdZ m)++[zdZ m ds]) <+: zhz m:=by
   obtain⟨t,ht⟩:=hpre;refine⟨t.map (zdZ m),?_⟩;unfold zhz;rw [<- ht,List.map_append,hmp]
  refine YieldR.mono (hy _ (zdZ m ds) [.agg (exC (zdZ m ds) q1 k1).toArray] F Z hjZ ⟨_,q1,k1,by simp,rfl,oE.lower (by omega)⟩ (fun k hk=>by have:=(hGv k hk).1;omega) hpm) ?_;rintro v U ⟨rfl,F',hjU,kU⟩;refine brF ?_;have kF:KeepsG F F' Y2 U:=⟨kU.os.trans hbZ.os,kU.tape.trans hbZ.tape,kU.output.trans hbZ.output,Nat.le_trans hbZ.size kU.size,fun k hk hf=>(kU.same k (by omega) (fun h=>h.elim hf fun h=>by have:=(hGv k h).1;omega)).trans (hbZ.block k hk),fun k hk=>by
   rcases kU.fp k hk with (h | h) | h
   ·exact .inl h
   ·exact .inr (hGv k h).1
   ·exact .inr (by omega)⟩
  refine⟨F',⟨by rw [hmp];exact hjU,?_⟩,kF⟩;rw [hKp];refine⟨Nat.le_trans hY2s kF.size,fun k h1 h2=>?_⟩;obtain⟨h3,h4⟩:=hkq k h1 h2;refine⟨(kF.same k (by omega) h4).trans h3,fun h=>?_⟩;rcases kF.fp k h with h | h
  ·exact h4 h
  ·omega
 ·rintro D F Y hD hfD ⟨hj,hk⟩ hdef;refine⟨_,rfl,hdef,⟨_,rfl⟩,F,?_⟩;show J ((zeI (zdT m)).map (zdZ m)) F _;exact hJ.step _ _ _ _ hj (.put (by omega) hfD _)
 ·rintro D ex pre F Y hD hfD hpre h;exact h.elim
end
end Go.Proofs.YtmbghmhjjodgmaaGreatDoor
namespace Go.Sei
def isR (x : ExD) (i : Nat) : Bool := decide ((evA x i).k = 1)
def isW (x : ExD) (i : Nat) : Bool := decide ((evA x i).k = 2)
def accA (x : ExD) (i : Nat) : Bool := isR x i || isW x i
def hasM (r : RelD) (a b : Nat) : Bool := (r.to a).testBit b
def rowP (n : Nat) (p : Nat → Bool) : Nat := (List.range n).foldl (fun s b => if p b = true then s ||| 2 ^ b else s) 0
def zaP (n : Nat) (p : Nat → Nat → Bool) : RelD := zbx n fun a => rowP n (p a)
def zaY (r : RelD) (l : List RelD) : RelD := l.foldl (fun r o => (za8 r o).1) r
def frM (x : ExD) : RelD := (zbV (za3 x.rf) x.co).1
def zdX (x : ExD) (a b : Nat) : Bool := accA x a && (accA x b && decide ((evA x a).l = (evA x b).l))
def extM (x : ExD) (r : RelD) : RelD := zaP r.n.toNat fun a b => hasM r a b && !decide ((evA x a).th = (evA x b).th)
def locM (x : ExD) : RelD := zaP x.ev.length (zdX x)
def zcz (x : ExD) (md : UInt8) : Nat := ((List.range x.ev.length).filter fun i => decide ((evA x i).k = 3) && decide ((evA x i).m = md)).foldl (fun s i => s ||| 2 ^ i) 0
def zaB (x : ExD) (md : UInt8) : RelD := (zbV (zbV x.po (idR x.ev.length (zcz x md))).1 x.po).1
def zaG (x : ExD) (a : Nat) (md : UInt8) : Bool := decide ((evA x a).m = md) || decide ((evA x a).m = 3)
def zcp (x : ExD) (f : RelD) (a b : Nat) : Bool := hasM f a b || (zaG x a 3 || zaG x b 3)
def ze5 (m : Nat) (x : ExD) (f l s : RelD) (a b : Nat) : Bool :=
  match m with
  | 1 => false
  | 2 => true
  | 3 => isR x a || (isW x b || zcp x f a b)
  | 4 => isR x a || (zcp x f a b || (isW x b && (zdX x a b || hasM s a b)))
  | 5 => (isR x a && (zaG x a 1 || hasM l a b)) || ((isW x b && (zaG x b 2 || hasM s a b)) || hasM f a b)
  | 6 => hasM x.dt a b || ((hasM x.ct a b && isW x b) || (hasM x.rm a b || (hasM f a b || ((hasM l a b && (isR x a && isR x b)) || (hasM s a b && (isW x a && isW x b))))))
  | _ => false
def zdy (m : Nat) (x : ExD) : RelD := zaP x.ev.length fun a b => hasM x.po a b && (accA x a && (accA x b && ze5 m x (zaB x 3) (zaB x 4) (zaB x 5) a b))
def zdw (x : ExD) : RelD := zaP x.ev.length fun a b => hasM x.po a b && zdX x a b
def zcP (m : Nat) (x : ExD) : Nat :=
  if acyR (zaY (zdw x) [x.rf, x.co, frM x]) = true then
    (if zdz (zbH x.rm (zbV (frM x) x.co).1).1 = true then
      (if m = 1 then 0 else if acyR (zaY (zdy m x) [if m = 2 then x.rf else extM x x.rf, x.co, frM x]) = true then 0 else 3)
     else 2)
  else 1
def zbw (m : Nat) : Bool := decide (1 ≤ m) && decide (m ≤ 6)
def zd5 (m : Nat) (x : ExD) : Bool := zbw m && (za5 x && decide (zcP m x = 0))
def zgZ (m : Nat) (x : ExD) : Nat := if zbw m = true ∧ za5 x = true then zcP m x else 0
theorem zn5 {p:Nat->Bool} {n k:Nat} (hk:k<n) (h:p k=false):(List.range n).all p=false:=by
 rw [List.all_eq_false];exact⟨k,List.mem_range.2 hk,by rw [h];decide⟩
theorem zpg {p:Nat->Bool} {k:Nat} (h:(List.range k).all p=true) (hp:p k=true):(List.range (k+1)).all p=true:=by
 rw [List.range_succ,List.all_append,h];simp [hp]
theorem zbR {a j:Nat}:(2^a).testBit j=decide (j=a):=by
 rw [Nat.testBit_two_pow];exact decide_eq_decide.2 ⟨fun e=>e.symm,fun e=>e.symm⟩
theorem zmO {a:Nat}:∀ (l:List Nat) (f:Nat->Nat) (b j:Nat),((l.foldl (fun f b=>upd f b (f b|||2^a)) f) b).testBit j=((f b).testBit j||(decide (b∈l)&&decide (j=a)))
 | [],f,b,j=>by simp
 | x::l,f,b,j=>by
  rw [List.foldl_cons,zmO l];by_cases hx:b=x
  ·subst hx;rw [za6,Nat.testBit_or,zbR];by_cases hl:b∈l <;> by_cases hj:j=a <;> simp [hl,hj]
  ·rw [zcn _ _ hx];simp [hx]
theorem zg1 (to:Nat->Nat):∀ (n b j:Nat),(zdq to n b).testBit j=(decide (j<n)&&decide (b∈els (to j)))
 | 0,b,j=>by
  show (0:Nat).testBit j=_;simp
 | n+1,b,j=>by
  have ih:=zg1 to n b j;unfold zdq at ih ⊢;rw [List.range_succ,List.foldl_append,List.foldl_cons,List.foldl_nil,zmO,ih];by_cases hj:j=n
  ·subst hj;simp
  ·by_cases h2:j<n
   ·rw [decide_eq_true h2,decide_eq_true (by omega:j<n+1),decide_eq_false hj];simp
   ·rw [decide_eq_false h2,decide_eq_false (by omega:¬ j<n+1),decide_eq_false hj];simp
theorem zk2 {r:RelD} (h:okR r=true) {b j:Nat}:((za3 r).to b).testBit j=(decide ((j:Int)<r.n)&&decide (b∈els (r.to j))):=by
 have hn:0<=r.n:=by
  unfold okR at h;rw [bAT,dE] at h;exact h.1
 have e:za3 r=⟨r.n,zdq r.to r.n.toNat⟩:=if_pos h;rw [e];show (zdq r.to r.n.toNat b).testBit j=_;rw [zg1];congr 1;exact decide_eq_decide.2 (by omega)
theorem zh9 {s:Nat} (h0:s≠0) (h:s<2^64):ctz s∈els s:=by
 rw [(zbO h0 h).1];exact List.mem_cons_self
end Go.Sei
namespace Go.Proofs.YtmbghmhjjodgmaaGreatDoor
open Go.Vc Go.RowKit Go.Sei
section
variable {b c:Nat} {x:ExD} {q:Option Addr} {w:World}
theorem zgP {k:Nat}:x.ev.getD k ev0=evA x k:=rfl
theorem zmG (fx:ExH w b x q c) (hv:ExV w x q) (hn:x.rf.n=x.ev.length) (hok:okR x.rf=true) (hT:Tz64M w):CB 42 #[At0 b] w (.bool (zc5 x)):=by
 refine cofM 72 [At0 b] (.s .p (.c .p .p)) Tryz.func42 ?_;obtain⟨from_,hfr⟩:∃ f,f=za3 x.rf:=⟨_,rfl⟩;have hn20:=hv.n;refine⟨Nat,fun F=>⟨[(0,At0 b),(3,At0 F)],[]⟩,fun F X=>RelH X F from_/\WrdR from_.to/\w.heap.size<=F/\Bw w X,?_,?_⟩
 ·refine⟨relC x.rf,zad _,?_,hlt fx,?_⟩
  ·have h:=zaC (n:=50) (m:=49) (zab fx);obtain⟨A,T,hA,hE⟩:=zpL x q c;have e:=hE x.rf;have e2:(exC x q c).drop 50=relC x.rf++T:=by
    show (exC { x with rf:=x.rf } q c).drop 50=_;rw [e,<- hA,List.drop_left]
   have e3:((exC x q c).toArray.toList.drop 50).take 49=relC x.rf:=by
    show ((exC x q c).drop 50).take 49=_;rw [e2,List.take_append_of_le_length (by rw [zad];decide),List.take_of_length_le (by rw [zad];decide)]
   rw [e3] at h;exact h
  refine cmo (zji hv.rf hT) ?_;rintro e Y ⟨rfl,hbY,hwr⟩;refine zak (X:=Y) (v := .agg (relC (za3 x.rf)).toArray) k27 (zad _) (by kernel_rfl) (zas _) fun Z hbZ fZ sZ=>?_;rw [<- hfr] at fZ hwr;exact⟨Y.heap.size,(cvE rfl rfl),fZ,hwr,hbY.size,(zst hbY hbZ)⟩
 rintro F X ⟨fF,hwr,hF,hbX⟩;have bits:∀ i j,(from_.to i).testBit j=true->j<x.ev.length:=fun i j h=>by
  rw [hfr,zk2 hok,bAT,dE,hn] at h;omega
 refine⟨_,zac (zab (zaa hbX fx)) (i:=0) rfl,?_⟩;refine⟨Nat,fun k=>⟨[(0,At0 b),(3,At0 F),(18,.slice q x.ev.length c),(19,i64 x.ev.length),(20,i64 (k:Nat))],[]⟩,fun k X=>k<=x.ev.length/\(List.range k).all (fun i=>zeR x (from_.to i) (evA x i))=true/\RelH X F from_/\Bw w X,fun k=>x.ev.length-k,0,(cvE rfl rfl),⟨Nat.zero_le _,rfl,fF,hbX⟩,?_⟩;have hall:zc5 x=(List.range x.ev.length).all fun i=>zeR x (from_.to i) (evA x i):=by rw [hfr];rfl
 clear fF hbX;rintro k X ⟨hk,hgo,fF,hbX⟩;dsimp only;have hXs:=hbX.size;refine biE (fun hc=>?_) fun hc=>?_
 ·have hc:(k:Int)<(x.ev.length:Int):=dT hc;have hkl:k<x.ev.length:=by omega
  obtain⟨bq,oq,hqe,hb,hat⟩:=zev (hv.ev.below hbX) hkl;rw [zgP] at hat;obtain⟨e,he⟩:=nm (evA x k);obtain⟨s,hs⟩:=nm (from_.to k);rw [<- he] at hat;have hs64:s<2^64:=by rw [hs];exact hwr k (by omega)
  have eq0:some (Value.slice q x.ev.length c)=some (Value.slice (some ⟨bq,oq,none⟩) x.ev.length c):=by rw [hqe]
  subst hqe;refine⟨k,rfl,hkl,?_⟩;refine⟨evE.enc e,rfl,hat,hb,?_⟩;refine zak (X:=X) (v := .agg (evE.enc e).toArray) k54 rfl rfl (List.all_eq_true.2 fun u hu=>evE.one e u hu) fun Y hbY fY sY=>?_;have fY:Y.heap[X.heap.size]?=some (.cells (evE.enc e).toArray 54 (0,0)):=fY;have hbY2:=hbX.trans (hbY.mono hXs);have no:∀ {Z:World},Bw w Z->zeR x s e=false->(Ending.returned (.bool false)=Ending.returned (.bool (zc5 x))/\Bw w Z):=fun {Z} hb h=>⟨rb (by
   rw [hall];symm;exact zn5 hkl (by rw [<- hs,<- he];exact h)),hb⟩
  have yes:∀ {Z:World},RelH Z F from_->Bw w Z->zeR x s e=true->(k+1<=x.ev.length/\(List.range (k+1)).all (fun i=>zeR x (from_.to i) (evA x i))=true/\RelH Z F from_/\Bw w Z):=fun {Z} f hb h=>⟨hkl,zpg hgo (by rw [<- hs,<- he];exact h),f,hb⟩;refine⟨k,rfl,by omega,?_⟩;refine⟨s64 s,by rw [hs];exact zcM (zaa hbY fF) (by omega),?_⟩;refine⟨u8 e.k,zac (zab fY) (i:=1) rfl,?_⟩;refine biE (fun h=>?_) fun h=>?_
  ·have h:¬ e.k=1:=by
    have h:(!decide ((e.k.toNat:Int)=((1:UInt8).toNat:Int)))=true:=h;intro e2;rw [e2] at h;simp at h
   have hone:zeR x s e=decide (s=0):=if_neg h;refine biE (fun h2=>?_) fun h2=>?_
   ·have h2:¬ s=0:=by
     have h2:(!decide ((s:Int)=0))=true:=h2;intro e2;rw [e2] at h2
     cases h2
    exact no hbY2 (by rw [hone];exact decide_eq_false h2)
   ·have h2:s=0:=by
     have h2:(!decide ((s:Int)=0))=false:=h2;have h2:(s:Int)=0:=(by simpa using h2);omega
    refine nxI (by omega) ?_;exact⟨k+1,(cvE rfl rfl),yes (zaa hbY fF) hbY2 (by rw [hone];exact decide_eq_true h2),zdc (by omega)⟩
  have h:e.k=1:=by
   have h:(!decide ((e.k.toNat:Int)=((1:UInt8).toNat:Int)))=false:=h;exact zbj.1 (by simpa using h)
  refine cmo (zda hs64 (hT.below hbY2)) ?_;rintro e2 Z ⟨rfl,hbZ⟩;have hYs:=hbY2.size;have hbZ2:=hbY2.trans (hbZ.mono hYs);have fZ:=zaa hbZ fY;have fFZ:=zaa hbZ (zaa hbY fF);by_cases hs0:s=0
  ·have e1:(els s).isEmpty=true:=by rw [hs0];rfl
   rw [e1];refine brT ?_;refine brT ?_;refine no hbZ2 ?_;unfold zeR;rw [if_pos h,if_pos hs0]
  obtain⟨hd,hem⟩:=zdM hs0 hs64;rw [hd,hem];have hmem:=zh9 hs0 hs64;have hbit:s.testBit (ctz s)=true:=(zbT.1 hmem).2;have hwl:ctz s<x.ev.length:=bits k _ (by rw [<- hs];exact hbit);refine brF ?_;refine⟨by omega,((2^ctz s:Nat):Int),zbE (e:=ctz s) (by omega),?_⟩;refine biE (fun h2=>?_) fun h2=>?_
  ·have h2:¬ s=2^ctz s:=by
    have h2:(!decide ((s:Int)=((2^ctz s:Nat):Int)))=true:=h2;intro e2;rw [<- e2] at h2;simp at h2
   refine no hbZ2 ?_;unfold zeR;rw [if_pos h,if_neg hs0,if_neg h2]
  have h2:s=2^ctz s:=by
   have h2:(!decide ((s:Int)=((2^ctz s:Nat):Int)))=false:=h2;have h2:(s:Int)=((2^ctz s:Nat):Int):=by simpa using h2
   exact Int.ofNat.inj h2
  obtain⟨t,ht⟩:=nm (ctz s);rw [<- ht] at hwl h2 ⊢;obtain⟨bq2,oq2,hqe2,hb2,hat2⟩:=zev (hv.ev.below hbZ2) hwl;rw [zgP] at hat2;obtain⟨f,hf⟩:=nm (evA x t);rw [<- hf] at hat2;have hone:zeR x s e=(decide (f.k=2)&&(decide (f.l=e.l)&&decide (f.v=e.v))):=by
   unfold zeR;rw [if_pos h,if_neg hs0,<- ht,if_pos h2,<- hf]
  refine⟨_,zac (zab (zaa hbZ2 fx)) (i:=0) rfl,?_⟩;refine⟨t,rfl,hwl,?_⟩;refine⟨evE.enc f,rfl,by
   simp only [Option.some.injEq,Addr.mk.injEq,and_true] at hqe2;rw [hqe2.1,hqe2.2];exact hat2,by
   simp only [Option.some.injEq,Addr.mk.injEq,and_true] at hqe2;rw [hqe2.1];exact hb2,?_⟩
  refine zak (X:=Z) (v := .agg (evE.enc f).toArray) k54 rfl rfl (List.all_eq_true.2 fun u hu=>evE.one f u hu) fun V hbV fV sV=>?_;have fV:V.heap[Z.heap.size]?=some (.cells (evE.enc f).toArray 54 (0,0)):=fV;have hbV2:=zst hbZ2 hbV;have fe:=zaa hbV fZ;have fFV:=zaa hbV fFZ;have n8:∀ {a d:UInt8},(!decide ((a.toNat:Int)=(d.toNat:Int)))=true->¬ a=d:=fun {a d} h e2=>by
   rw [e2] at h;simp at h
  have y8:∀ {a d:UInt8},(!decide ((a.toNat:Int)=(d.toNat:Int)))=false->a=d:=fun {a d} h=>zbj.1 (by simpa using h);refine⟨u8 f.k,zac (zab fV) (i:=1) rfl,?_⟩;refine biE (fun h3=>?_) fun h3=>?_
  ·have h3:¬ f.k=2:=n8 (d:=2) h3;refine brT ?_;refine brT ?_;exact no hbV2 (by rw [hone,decide_eq_false h3];rfl)
  have h3:f.k=2:=y8 (d:=2) h3;refine⟨u8 f.l,zac (zab fV) (i:=2) rfl,?_⟩;refine⟨u8 e.l,zac (zab fe) (i:=2) rfl,?_⟩;refine biE (fun h4=>?_) fun h4=>?_
  ·have h4:¬ f.l=e.l:=n8 h4;refine brT ?_;exact no hbV2 (by rw [hone,decide_eq_false h4,Bool.false_and,Bool.and_false])
  have h4:f.l=e.l:=y8 h4;refine⟨u8 f.v,zac (zab fV) (i:=3) rfl,?_⟩;refine⟨u8 e.v,zac (zab fe) (i:=3) rfl,?_⟩;refine biE (fun h5=>?_) fun h5=>?_
  ·have h5:¬ f.v=e.v:=n8 h5;exact no hbV2 (by rw [hone,decide_eq_false h5,Bool.and_false,Bool.and_false])
  have h5:f.v=e.v:=y8 h5;refine nxI (by omega) ?_;exact⟨k+1,(cvE rfl rfl),yes fFV hbV2 (by rw [hone,decide_eq_true h3,decide_eq_true h4,decide_eq_true h5];rfl),zdc (by omega)⟩
 ·have hc:¬ (k:Int)<(x.ev.length:Int):=dF hc;obtain rfl:k=x.ev.length:=by omega
  exact⟨rb (by rw [hall];exact hgo.symm),hbX⟩
end
theorem zsQ {bx n:Nat} {w:World} {i:Nat} (f:w.heap[bx]?=some (.cells #[i64 (n:Nat)] 3 (0,0))) (hn:n<=1000):Calls Tryz.prog 122 #[i64 (i:Nat),At0 bx] w fun e w'=>e = .returned (.bool true)/\w'.heap[bx]?=some (.cells #[i64 (n+1:Nat)] 3 (0,0))/\w.grownBy w' (some bx):=by
 refine cofE 6 [i64 (i:Nat),At0 bx] Tryz.func122 ?_;refine⟨_,zac (zab f) (i:=0) rfl,?_⟩;refine nxI (by omega) ?_;exact zar k3 f (o:=0) (v:=i64 (n+1:Nat)) rfl rfl (by show 0<1;decide) rfl fun w' f' g' s'=>⟨rfl,f',g'⟩
theorem zjW {bs bx s:Nat} {w:World} (fs:w.heap[bs]?=some (.cells #[s64 s] 24 (0,0))) (fx:w.heap[bx]?=some (.cells #[i64 (0:Nat)] 3 (0,0))) (hs:s<2^64) (hT:Tz64M w) (hbx:0≠bx) :
  Calls Tryz.prog 141 #[.func (.func 122) #[] #[At0 bx],At0 bs] w fun e w'=>(∃ v,e = .returned v)/\w'.heap[bx]?=some (.cells #[i64 (lenS s:Nat)] 3 (0,0))/\w.grownBy w' (some bx):=by
 refine cofE 16 [.func (.func 122) #[] #[At0 bx],At0 bs] Tryz.func141 ?_;refine⟨_,zac (zab fs) (i:=0) rfl,?_⟩;refine⟨Nat×Nat,fun q=>⟨[(0,.func (.func 122) #[] #[At0 bx]),(3,s64 q.2)],[]⟩,fun q X=>X.heap[bx]?=some (.cells #[i64 (q.1:Nat)] 3 (0,0))/\q.1+lenS q.2=lenS s/\q.2<2^64/\w.grownBy X (some bx),fun q=>q.2,(0,s),(cvE rfl rfl),⟨fx,Nat.zero_add _,hs,zbN _ _⟩,?_⟩;rintro⟨n,r⟩ X ⟨f,hn,hr,gX⟩;dsimp only at f hn hr ⊢;have hls:=zgS s;refine biE (fun hc=>?_) fun hc=>?_
 ·have hc:(!decide ((r:Int)=0))=true:=hc;have hc:¬ (r:Int)=0:=by simpa using hc
  have hr0:r≠0:=by omega
  obtain⟨e1,e2,_,_⟩:=zbO hr0 hr;have hl:lenS r=lenS (rest r)+1:=by unfold lenS;rw [e1];rfl
  have hTX:Tz64M X:=zb9 hT (gX.block _ (zc1 hT) (by simpa using hbx));refine cmo (zps hTX hr0 hr) ?_;rintro e _ ⟨rfl,rfl⟩;have hn64:n<=1000:=by unfold lenS at hn;omega
  refine cmo (zsQ f hn64) ?_;rintro e V ⟨rfl,fV,gV⟩;refine brF ?_;refine⟨((r-1:Nat):Int),(zcR (a:=(r:Int)-1) (by omega)).trans (by omega),?_⟩;refine⟨((rest r:Nat):Int),zbZ (a:=r) (b:=r-1) hr (by omega),?_⟩;exact⟨(n+1,rest r),(cvE rfl rfl),⟨fV,by show n+1+lenS (rest r)=_;omega,by show rest r<_;omega,zaf gX gV⟩,e2⟩
 ·have hc:(!decide ((r:Int)=0))=false:=hc;have hc:(r:Int)=0:=by simpa using hc
  obtain rfl:r=0:=by omega
  have h0:lenS 0=0:=rfl;rw [h0,Nat.add_zero] at hn;exact⟨⟨_,rfl⟩,by rw [<- hn];exact f,gX⟩
theorem zsP {s:Nat} {w:World} (hs:s<2^64) (hT:Tz64M w):CB 91 #[s64 s] w (i64 (lenS s:Nat)):=by
 refine cofM 11 [s64 s] (.s .p (.c .p .p)) Tryz.func91 ?_;obtain⟨L,hL⟩:=nm (w.heap.size);refine⟨Unit,fun _=>⟨[(0,s64 s),(3,At0 L)],[]⟩,fun _ Y=>Y.heap[L]?=some (.cells #[i64 (0:Nat)] 3 (0,0))/\Y.heap.size=L+1/\Bw w Y,?_,?_⟩
 ·refine zak (X:=w) (v:=i64 0) k3 rfl rfl rfl fun Y hbY fY sY=>?_;have fY:Y.heap[w.heap.size]?=some (.cells #[i64 (0:Nat)] 3 (0,0)):=fY;exact⟨(),⟨.cons rfl (.cons (by rw [hL];rfl) .nil),rfl⟩,by rw [hL];exact fY,by rw [hL];exact sY,hbY⟩
 rintro _ Y ⟨fY,sY,hbY⟩;refine cmo zhw ?_;rintro e _ ⟨rfl,rfl⟩;have hb2:Bw Y (Y.alloc (.cells #[s64 s] 24)):=zba _ _;have htl:=zc1 hT;refine cmo (zjW (hnew Y _) (zaa hb2 fY) hs ((hT.below hbY).below hb2) (by omega)) ?_;rintro e Z ⟨⟨v,rfl⟩,fZ,gZ⟩;refine⟨_,zac (zab fZ) (i:=0) rfl,rfl,?_⟩;exact ((zst hbY hb2)).trans (zao gZ (by have:=hbY.size;have:=hb2.size;omega) (by omega))
def cmpI (x y:Nat):Int:=if x<y then -1 else if y<x then 1 else 0
theorem zpB {x:Nat} {w:World}:Calls Tryz.prog 121 #[i64 (x:Nat)] w fun e w'=>e = .returned (.bool false)/\w=w':=by
 refine cofE 6 [i64 (x:Nat)] Tryz.func121 ?_;exact⟨rb (by simp),rfl⟩
theorem zl0 {x y:Nat} {w:World}:Calls Tryz.prog 90 #[i64 (x:Nat),i64 (y:Nat)] w fun e w'=>e = .returned (i64 (cmpI x y))/\w=w':=by
 refine cofE 20 [i64 (x:Nat),i64 (y:Nat)] Tryz.func90 ?_;refine cmo zpB ?_;rintro e _ ⟨rfl,rfl⟩;refine cmo zpB ?_;rintro e _ ⟨rfl,rfl⟩;refine brF ?_;refine brF ?_;refine biE (fun h=>?_) fun h=>?_
 ·have h:(x:Int)<y:=dT h;exact⟨ri (by unfold cmpI;rw [if_pos (by omega)]),rfl⟩
 have h:¬ (x:Int)<y:=dF h;refine biE (fun h2=>?_) fun h2=>?_
 ·have h2:(y:Int)<x:=dT h2;exact⟨ri (by unfold cmpI;rw [if_neg (by omega),if_pos (by omega)]),rfl⟩
 ·have h2:¬ (y:Int)<x:=dF h2;exact⟨ri (by unfold cmpI;rw [if_neg (by omega),if_neg (by omega)]),rfl⟩
section
variable {b c L:Nat} {x:ExD} {q:Option Addr} {w:World}
theorem zpO {X:World} (fx:ExH X b x q c) {i:Nat} (hi:i<48):X.cell? ⟨b,0+99+1+i*1,none⟩=some (s64 (x.co.to i)):=by
 obtain⟨A,T,hA,hE⟩:=znt x q c;have hR:RelAt X b 99 34 A T x.co:=⟨hA,by rw [<- hE];exact fx⟩;exact hR.cell hi
theorem zsD {u v:Nat} (fx:ExH w b x q c) (fL:w.heap[L]?=some (.cells #[At0 b] 79 (0,0))) (hco:WrdR x.co.to) (hu:u<48) (hv:v<48) (hT:Tz64M w) :
  CB 89 #[i64 (u:Nat),i64 (v:Nat),At0 L] w (i64 (cmpI (lenS (x.co.to v)) (lenS (x.co.to u)))):=by
 refine cofE 23 [i64 (u:Nat),i64 (v:Nat),At0 L] Tryz.func89 ?_;refine DrawE.ord [] [0,1,2,3,4,5,6,8,9,10,11,12,13,14,7,15,16,17] (by kernel_rfl) ?_;have hd:Bw w w.drew:=(Below.refl _ _).drew;refine⟨_,zac (zab (hdr fL)) (i:=0) rfl,?_⟩;refine⟨v,rfl,hv,?_⟩;refine⟨_,zpO (hdr fx) hv,?_⟩;refine⟨_,zac (zab (hdr fL)) (i:=0) rfl,?_⟩;refine⟨u,rfl,hu,?_⟩;refine⟨_,zpO (hdr fx) hu,?_⟩;refine cmo (zsP (hco v hv) (hT.below hd)) ?_;rintro e X ⟨rfl,hbX⟩;refine⟨hbX,?_⟩;refine cmo (zsP (hco u hu) ((hT.below hd).below hbX)) ?_;rintro e Y ⟨rfl,hbY⟩;refine⟨hbY,?_⟩;refine cmo zl0 ?_;rintro e _ ⟨rfl,rfl⟩;exact⟨Below.refl _ _,rfl,(hd.trans hbX).trans (hbY.mono hbX.size)⟩
end
theorem zhs {key:Nat->Nat} {x:Nat}:∀ (B A:List Nat),(∀ y∈B,key y<key x)->zbA key (B++A) x=B++zbA key A x
 | [],A,_=>rfl
 | y::B,A,h=>by
  show (if key y<key x then y::zbA key (B++A) x else x::y::(B++A))=_;rw [if_pos (h y List.mem_cons_self),zhs B A fun z hz=>h z (List.mem_cons_of_mem _ hz)];rfl
theorem zhr {key:Nat->Nat} {x:Nat}:∀ r:List Nat,(zbA key r x).length=r.length+1
 | []=>rfl
 | y::r=>by
  unfold zbA
  split
  ·show (zbA key r x).length+1=_;rw [zhr r];rfl
  ·rfl
theorem zfv {key:Nat->Nat} {x a:Nat}:∀ r:List Nat,a∈zbA key r x↔a=x\/a∈r
 | []=>by simp [zbA]
 | y::r=>by
  unfold zbA
  split
  ·rw [List.mem_cons,zfv r,List.mem_cons];constructor
   ·rintro (h | h | h) <;> simp [h]
   ·rintro (h | h | h) <;> simp [h]
  ·simp
def zdW (key:Nat->Nat) (l:List Nat):List Nat:=l.foldl (fun acc x=>zbA key acc x) []
theorem zlj (key:Nat->Nat) (l:List Nat) (x:Nat):zdW key (l++[x])=zbA key (zdW key l) x:=by
 unfold zdW;rw [List.foldl_append];rfl
theorem zdO {key:Nat->Nat} {a:Nat}:∀ (l acc:List Nat),a∈l.foldl (fun acc x=>zbA key acc x) acc↔a∈l\/a∈acc
 | [],acc=>by simp
 | x::l,acc=>by
  rw [List.foldl_cons,zdO l,zfv,List.mem_cons];constructor
  ·rintro (h | h | h) <;> simp [h]
  ·rintro ((h | h) | h) <;> simp [h]
theorem zdP {key:Nat->Nat}:∀ (l acc:List Nat),(l.foldl (fun acc x=>zbA key acc x) acc).length=l.length+acc.length
 | [],acc=>by simp
 | x::l,acc=>by
  rw [List.foldl_cons,zdP l,zhr,List.length_cons];omega
theorem ziv {key:Nat->Nat} {l:List Nat} {a:Nat}:a∈zgh key l↔a∈l:=by
 unfold zgh;rw [List.mem_reverse,zdO];simp
theorem zmr {key:Nat->Nat} (l:List Nat):(zgh key l).length=l.length:=by
 unfold zgh;rw [List.length_reverse,zdP];rfl
section
variable {b c L g cap:Nat} {x:ExD} {q:Option Addr} {w:World} {l:List Nat}
abbrev keyC (x:ExD):Nat->Nat:=fun i=>lenS (x.co.to i)
theorem zhq {B:Nat} (ho:OwnS natE 3 B w (some ⟨g,0,none⟩) cap l) (fx:ExH w b x q c) (fL:w.heap[L]?=some (.cells #[At0 b] 79 (0,0))) (hT:Tz64M w) (htg:0≠g) (hco:WrdR x.co.to) (h48:∀ a∈l,a<48) (hn:l.length<=20) (hn1:1<=l.length) :
  Calls Tryz.prog 168 #[.slice (some ⟨g,0,none⟩) l.length cap,i64 0,i64 l.length,.func (.func 89) #[] #[At0 L]] w fun e w'=>e = .returned (.tuple #[])/\OwnS natE 3 B w' (some ⟨g,0,none⟩) cap (zgh (keyC x) l)/\w.grownBy w' (some g):=by
 refine cofM 53 [.slice (some ⟨g,0,none⟩) l.length cap,i64 0,i64 l.length,.func (.func 89) #[] #[At0 L]] (.c .p .p) Tryz.func168 ?_;obtain⟨E0,hE0⟩:∃ E0:List (Nat×Value),E0=[(0,.slice (some ⟨g,0,none⟩) l.length cap),(1,i64 0),(2,i64 l.length),(3,.func (.func 89) #[] #[At0 L])]:=⟨_,rfl⟩;have hbg:b≠g:=fun e=>by
  obtain⟨_,_,cur,hc⟩:=zav ho rfl;have hc:w.heap[g]?=_:=hc;rw [<- e,fx] at hc;simp at hc
 have hLg:L≠g:=fun e=>by
  obtain⟨_,_,cur,hc⟩:=zav ho rfl;have hc:w.heap[g]?=_:=hc;rw [<- e,fL] at hc;simp at hc
 refine⟨Unit,fun _=>⟨[(0,.slice (some ⟨g,0,none⟩) l.length cap),(1,i64 0),(2,i64 l.length),(3,.func (.func 89) #[] #[At0 L]),(8,i64 1)],[]⟩,fun _ X=>w=X,?_,?_⟩
 ·refine⟨1,zaj (by omega),?_⟩;exact⟨(),(cvE rfl rfl),rfl⟩
 rintro _ _ rfl;have hl0:l.take 1=(zdW (keyC x) (l.take 1)).reverse:=by
  cases l with
  | nil=>simp at hn1
  | cons a l=>rfl
 refine⟨Nat,fun i=>⟨[(0,.slice (some ⟨g,0,none⟩) l.length cap),(1,i64 0),(2,i64 l.length),(3,.func (.func 89) #[] #[At0 L]),(8,i64 (i:Nat))],[]⟩,fun i X=>(1<=i/\i<=l.length)/\OwnS natE 3 B X (some ⟨g,0,none⟩) cap ((zdW (keyC x) (l.take i)).reverse++l.drop i)/\w.grownBy X (some g),fun i=>l.length-i,1,
  (cvE rfl rfl),⟨⟨Nat.le_refl _,hn1⟩,by rw [<- hl0,List.take_append_drop];exact ho,zbN _ _⟩,?_⟩
 rintro i X ⟨⟨hi1,hi⟩,oX,gX⟩;dsimp only;refine biE (fun hc=>?_) fun hc=>?_
 ·have hc:(i:Int)<(l.length:Int):=dT hc;have hil:i<l.length:=by omega
  obtain⟨u,hu⟩:∃ u,l[i]=u:=⟨_,rfl⟩;have hum:u∈l:=by rw [<- hu];exact gM hil
  obtain⟨S,hS⟩:=nm (zdW (keyC x) (l.take i));have hSm:∀ a∈S,a<48:=fun a ha=>by
   rw [hS] at ha;have:=(zdO (key:=keyC x) (l.take i) []).1 ha;rcases this with h | h
   ·exact h48 a (List.mem_of_mem_take h)
   ·cases h
  have hSl:S.length=i:=by
   rw [hS];unfold zdW;rw [zdP,List.length_take];simp;omega
  have htk:zdW (keyC x) (l.take (i+1))=zbA (keyC x) S u:=by
   rw [tsg hil,hu,zlj,<- hS]
  rw [<- hS,<- List.getElem_cons_drop hil,hu] at oX;refine⟨List Nat×List Nat,fun s=>⟨[(0,.slice (some ⟨g,0,none⟩) l.length cap),(1,i64 0),(2,i64 l.length),(3,.func (.func 89) #[] #[At0 L]),(8,i64 (i:Nat)),(9,i64 s.1.length)],[]⟩,fun s Y=>S.reverse=s.1++s.2/\(∀ y∈s.2,keyC x y<keyC x u)/\OwnS natE 3 B Y (some ⟨g,0,none⟩) cap (s.1++u::(s.2++l.drop (i+1)))/\w.grownBy Y (some g),fun s=>s.1.length,(S.reverse,[]),
   ⟨.cons rfl (.cons rfl (.cons rfl (.cons rfl (.cons rfl (.cons (by show _=some (i64 (S.reverse.length:Nat));rw [List.length_reverse,hSl];rfl) .nil))))),rfl⟩,⟨by rw [List.append_nil],fun y hy=>(by cases hy),oX,gX⟩,?_⟩
  clear oX gX;rintro⟨A,Bs⟩ Y ⟨hsp,hkB,oY,gY⟩;dsimp only at hsp hkB oY ⊢;have hAl:A.length<=i:=by
   have:=congrArg List.length hsp;rw [List.length_reverse,hSl,lap] at this;omega
  have hdY:Bw Y Y.drew:=(Below.refl _ _).drew;have fin:∀ {Z:World},Bw Y Z->zbA (keyC x) A.reverse u=u::A.reverse->((1<=i+1/\i+1<=l.length)/\OwnS natE 3 B Z (some ⟨g,0,none⟩) cap ((zdW (keyC x) (l.take (i+1))).reverse++l.drop (i+1))/\w.grownBy Z (some g)):=fun {Z} hb hins=>by
   refine⟨⟨by omega,hil⟩,?_,zbl gY (hb.mono gY.size)⟩;have h1:S=Bs.reverse++A.reverse:=by rw [<- List.reverse_append,<- hsp,List.reverse_reverse]
   rw [htk,h1,zhs _ _ (fun y hy=>hkB y (by simpa using hy)),hins];have h2:(Bs.reverse++u::A.reverse).reverse++l.drop (i+1)=A++u::(Bs++l.drop (i+1)):=by simp
   rw [h2];exact oY.below hb
  refine DrawE.ord [] [0,1,2,3,4,5,6,7,8,9,10,11,12,13,14,15,16] (by kernel_rfl) ?_;refine biE (fun h=>?_) fun h=>?_
  ·have h:(0:Int)<(A.length:Int):=dT h;obtain⟨A',y,hA⟩:∃ A' y,A=A'++[y]:=by
    refine⟨A.dropLast,A.getLast (fun e=>by rw [e] at h;simp at h),(List.dropLast_concat_getLast _).symm⟩
   subst hA;have hA'l:(A'++[y]).length=A'.length+1:=by simp
   rw [hA'l] at hAl h ⊢;have hrl:((A'++[y])++u::(Bs++l.drop (i+1))).length=l.length:=by
    have:=congrArg List.length hsp;rw [List.length_reverse,hSl] at this;simp only [lap,List.length_cons,List.length_nil,List.length_drop] at this ⊢;omega
   have hyS:y<48:=hSm y (by
    have:y∈S.reverse:=(by rw [hsp];simp);simpa using this)
   obtain⟨b',o',hq',hb',hat'⟩:=oY.row.at (i:=A'.length) (by rw [hrl];omega);have hbo:b'=g/\o'=0:=by simpa using hq'.symm
   obtain⟨rfl,rfl⟩:=hbo;have c1:Y.cell? ⟨b',0+(A'.length+1)*1,none⟩=some (i64 u):=by
    have:=zac (hat' (A'.length+1) (by rw [hrl];omega)) (i:=0) (v:=i64 u) (by
     have e:((A'++[y])++u::(Bs++l.drop (i+1)))[A'.length+1]?=some u:=by
      rw [List.getElem?_append_right (by simp),hA'l,Nat.sub_self];rfl
     rw [gE (by rw [hrl];omega)] at e;rw [Option.some.inj e];rfl)
    exact this
   have c2:Y.cell? ⟨b',0+A'.length*1,none⟩=some (i64 y):=by
    have:=zac (hat' A'.length (by rw [hrl];omega)) (i:=0) (v:=i64 y) (by
     have e:((A'++[y])++u::(Bs++l.drop (i+1)))[A'.length]?=some y:=by
      rw [List.append_assoc,List.getElem?_append_right (Nat.le_refl _),Nat.sub_self];rfl
     rw [gE (by rw [hrl];omega)] at e;rw [Option.some.inj e];rfl)
    exact this
   refine⟨A'.length+1,rfl,by omega,?_⟩;refine⟨_,c1,?_⟩;refine⟨(A'.length:Nat),(zaj (by omega)).trans (by omega),?_⟩;refine⟨A'.length,rfl,by omega,?_⟩;refine⟨_,c2,?_⟩;have fxY:ExH Y b x q c:=(gY.block b (hlt fx) (by simpa using hbg)).trans fx;have fLY:Y.heap[L]?=some (.cells #[At0 b] 79 (0,0)):=(gY.block L (hlt fL) (by simpa using hLg)).trans fL;have hTY:Tz64M Y:=zb9 hT (gY.block _ (zc1 hT) (by simpa using htg));refine cmo (zsD (hdr fxY) (hdr fLY) hco (h48 u hum) hyS (hTY.below hdY)) ?_;rintro e Z ⟨rfl,hbZ⟩;refine⟨hbZ,?_⟩;have hYZ:=hdY.trans hbZ;refine biE (fun hm=>?_) fun hm=>?_
   ·have hm:cmpI (lenS (x.co.to y)) (lenS (x.co.to u))<0:=dT hm;have hk:keyC x y<keyC x u:=by
     unfold cmpI at hm;by_cases h1:lenS (x.co.to y)<lenS (x.co.to u)
     ·exact h1
     ·rw [if_neg h1] at hm
      split at hm <;> omega
    have oZ:=oY.below hYZ;have gZ:=zbl gY (hYZ.mono gY.size);obtain⟨b2,o2,hq2,hb2,hat2⟩:=oZ.row.at (i:=A'.length) (by rw [hrl];omega);have hbo2:b2=b'/\o2=0:=(by simpa using hq2.symm);obtain⟨rfl,rfl⟩:=hbo2;have dZ:Bw Z Z.drew:=(Below.refl _ _).drew;have d1:=zem hYZ c1;have d2:=zem hYZ c2;refine DrawE.ord [15,17] [0,1,2,3,4,5,6,7,8,9,10,11,12,13,14,15,16,17] (by kernel_rfl) ?_;refine⟨(A'.length:Nat),(zaj (by omega)).trans (by omega),?_⟩;refine⟨(A'.length:Nat),(zaj (by omega)).trans (by omega),?_⟩;refine⟨A'.length,rfl,by omega,?_⟩;refine⟨_,d2,?_⟩;refine⟨A'.length+1,rfl,by omega,?_⟩;refine⟨_,d1,?_⟩;refine⟨A'.length+1,rfl,by omega,?_⟩;refine zjz (i:=A'.length+1) (v:=y) k3 rfl (oZ.below dZ) (by rw [hrl];omega) fun V oV gV=>?_;refine⟨A'.length,rfl,by omega,?_⟩;refine zjz (i:=A'.length) (v:=u) k3 rfl oV (by rw [List.length_set,hrl];omega) fun U oU gU=>?_;have e1:(((A'++[y])++u::(Bs++l.drop (i+1))).set (A'.length+1) y).set A'.length u=A'++u::((y::Bs)++l.drop (i+1)):=by
     rw [List.append_assoc,List.set_append_right _ _ (by omega),Nat.add_sub_cancel_left,List.set_append_right _ _ (by omega),Nat.sub_self];rfl
    rw [e1] at oU;refine⟨(A'.length:Nat),(zaj (by omega)).trans (by omega),?_⟩;refine⟨(A',y::Bs),(cvE rfl rfl),⟨by rw [hsp];simp,fun z hz=>?_,oU,zaf (zaf (zbl gZ (dZ.mono gZ.size)) gV) gU⟩,by show A'.length<_;omega⟩;rcases List.mem_cons.1 hz with hz | hz
    ·rw [hz];exact hk
    ·exact hkB z hz
   ·have hm:¬ cmpI (lenS (x.co.to y)) (lenS (x.co.to u))<0:=dF hm;have hk:¬ keyC x y<keyC x u:=fun h=>hm (by unfold cmpI;rw [if_pos h];decide);refine nxI (by omega) ?_;refine⟨i+1,(cvE rfl rfl),fin hYZ ?_,zdc (by omega)⟩;rw [List.reverse_append];exact if_neg hk
  ·have h:¬ (0:Int)<(A.length:Int):=dF h;have hA0:A=[]:=List.length_eq_zero_iff.1 (by omega);subst hA0;refine brF ?_;refine nxI (by omega) ?_;exact⟨i+1,(cvE rfl rfl),fin hdY rfl,zdc (by omega)⟩
 ·have hc:¬ (i:Int)<(l.length:Int):=dF hc;obtain rfl:i=l.length:=by omega
  rw [List.take_length,List.drop_length,List.append_nil] at oX;exact⟨rfl,oX,gX⟩
end
theorem zs3:∃ G,TyEq Tryz.prog 30 true 6 2 G/\∀ f:Nat->UInt8,G (seg 6 fun i=>u8 (f i)):=by
 refine⟨_,.array (m:=6) (by decide) Tryz.underlying30 (fun w=>Tryz.isAgg30 w) (zbM (by kernel_rfl) (by kernel_rfl)).1 (by kernel_rfl) tU8,fun f i hi=>?_⟩;refine⟨((f i).toNat:Int),?_⟩;unfold zbC;have h:=zeP (n:=6) (fun i=>u8 (f i)) hi;rw [Nat.mul_one];have hl:i<(seg 6 fun i=>u8 (f i)).length:=by rw [zay];exact hi
 rw [<- List.getElem_cons_drop hl,List.take_succ_cons,List.take_zero];rw [gE hl] at h;rw [Option.some.inj h];rfl
theorem zoP {f g:Nat->UInt8}:seg 6 (fun i=>u8 (f i))=seg 6 (fun i=>u8 (g i))↔((List.range 6).all fun l=>decide (f l=g l))=true:=by
 rw [List.all_eq_true];constructor
 ·intro h i hi;have hi:=List.mem_range.1 hi;have h3:=zeP (n:=6) (fun i=>u8 (f i)) hi;rw [h,zeP (n:=6) (fun i=>u8 (g i)) hi] at h3;have h4:=Option.some.inj h3;unfold u8 at h4;injection h4 with _ h5;exact decide_eq_true (zbj.1 h5).symm
 ·intro h;unfold seg;refine List.map_congr_left fun i hi=>?_;rw [dT (h i hi)]
theorem zo8 (x y:Operand) (f g:Nat->UInt8) (w:World):(do eqGuard .eql 30 x y (.agg (seg 6 fun i=>u8 (f i)).toArray) (.agg (seg 6 fun i=>u8 (g i)).toArray);binOp .eql 30 (.agg (seg 6 fun i=>u8 (f i)).toArray) (.agg (seg 6 fun i=>u8 (g i)).toArray)).run Tryz.prog w = .ok (.bool ((List.range 6).all fun l=>decide (f l=g l))) w:=by
 obtain⟨G,h1,h2⟩:=zs3;have:=znw h1 9998 rfl (by kernel_rfl) (zay 6 _) (zay 6 _) (h2 f) (h2 g) x y w;rw [this,zf7 zoP,Bool.decide_eq_true]
section
variable {b c L g cap:Nat} {x:ExD} {q:Option Addr} {w:World} {l:List Nat}
theorem zjo {B:Nat} (ho:OwnS natE 3 B w (some ⟨g,0,none⟩) cap l) (fx:ExH w b x q c) (fL:w.heap[L]?=some (.cells #[At0 b] 79 (0,0))) (hT:Tz64M w) (htg:0≠g) (hco:WrdR x.co.to) (h48:∀ a∈l,a<48) (hn:l.length<=19) (hn1:1<=l.length) :
  Calls Tryz.prog 120 #[.slice (some ⟨g,0,none⟩) l.length cap,i64 l.length,.func (.func 89) #[] #[At0 L]] w fun e w'=>e = .returned (.tuple #[])/\OwnS natE 3 B w' (some ⟨g,0,none⟩) cap (zgh (keyC x) l)/\w.grownBy w' (some g):=by
 refine cofE 63 [.slice (some ⟨g,0,none⟩) l.length cap,i64 l.length,.func (.func 89) #[] #[At0 L]] Tryz.func120 ?_;refine⟨Unit,fun _=>⟨[(0,.slice (some ⟨g,0,none⟩) l.length cap),(1,i64 l.length),(2,.func (.func 89) #[] #[At0 L]),(6,i64 20),(7,i64 0),(8,i64 20)],[]⟩,fun _ X=>w=X,fun _=>0,(),(cvE rfl rfl),rfl,?_⟩;rintro _ _ rfl;refine brN (decide_eq_false (by omega)) ?_;refine cmo (zhq ho fx fL hT htg hco h48 (by omega) hn1) ?_;rintro e X ⟨rfl,oX,gX⟩;refine⟨Unit,fun _=>⟨[(1,i64 l.length),(6,i64 20)],[]⟩,fun _ Y=>X=Y,fun _=>0,(),(cvE rfl rfl),rfl,?_⟩;rintro _ _ rfl;refine brN (decide_eq_false (by omega)) ?_;exact⟨rfl,oX,gX⟩
theorem zlE {q:Option Addr} {n m:Nat} (hm:m<=1000):Calls Tryz.prog 168 #[.slice q n cap,i64 (m:Nat),i64 (m:Nat),.func (.func 89) #[] #[At0 L]] w fun e w'=>e = .returned (.tuple #[])/\w=w':=by
 refine cofE 53 [.slice q n cap,i64 (m:Nat),i64 (m:Nat),.func (.func 89) #[] #[At0 L]] Tryz.func168 ?_;refine nxI (by omega) ?_;refine⟨Unit,fun _=>⟨[(2,i64 (m:Nat)),(8,i64 ((m+1:Nat):Int))],[]⟩,fun _ X=>w=X,fun _=>0,(),(cvE rfl rfl),rfl,?_⟩;rintro _ _ rfl;refine brN (decide_eq_false (by omega)) ?_;exact⟨rfl,rfl⟩
theorem zmo {B:Nat} (ho:OwnS natE 3 B w (some ⟨g,0,none⟩) cap l) (fx:ExH w b x q c) (fL:w.heap[L]?=some (.cells #[At0 b] 79 (0,0))) (hT:Tz64M w) (htg:0≠g) (hco:WrdR x.co.to) (h48:∀ a∈l,a<48) (hn:l.length<=20) (hn1:1<=l.length) :
  Calls Tryz.prog 120 #[.slice (some ⟨g,0,none⟩) l.length cap,i64 l.length,.func (.func 89) #[] #[At0 L]] w fun e w'=>e = .returned (.tuple #[])/\OwnS natE 3 B w' (some ⟨g,0,none⟩) cap (zgh (keyC x) l)/\w.grownBy w' (some g):=by
 by_cases h19:l.length<=19
 ·exact zjo ho fx fL hT htg hco h48 h19 hn1
 have hn20:l.length=20:=by omega
 refine cofE 63 [.slice (some ⟨g,0,none⟩) l.length cap,i64 l.length,.func (.func 89) #[] #[At0 L]] Tryz.func120 ?_;refine⟨Bool,fun k=>⟨[(0,.slice (some ⟨g,0,none⟩) l.length cap),(1,i64 l.length),(2,.func (.func 89) #[] #[At0 L]),(6,i64 20),(7,i64 (if k=true then (0:Nat) else l.length:Nat)),(8,i64 (if k=true then l.length else 40:Nat))],[]⟩,fun k X=>(k=true/\w=X)\/(k=false/\OwnS natE 3 B X (some ⟨g,0,none⟩) cap (zgh (keyC x) l)/\w.grownBy X (some g)),fun k=>if k=true then 1 else 0,true,⟨.cons rfl (.cons rfl (.cons rfl (.cons rfl (.cons rfl (.cons (by rw [hn20];rfl) .nil))))),rfl⟩,.inl ⟨rfl,rfl⟩,?_⟩;rintro k X (⟨rfl,rfl⟩ | ⟨rfl,oX,gX⟩)
 ·refine brE (decide_eq_true (by show ((l.length:Nat):Int)<=(l.length:Int);omega)) ?_;refine cmo (zhq ho fx fL hT htg hco h48 hn hn1) ?_;rintro e X ⟨rfl,oX,gX⟩;refine⟨40,by rw [hn20];rfl,?_⟩;exact⟨false,(cvE rfl rfl),.inr ⟨rfl,oX,gX⟩,by decide⟩
 ·refine brN (decide_eq_false (by show ¬ ((40:Nat):Int)<=(l.length:Int);omega)) ?_;refine cmo (zlE (m:=l.length) (by omega)) ?_;rintro e _ ⟨rfl,rfl⟩;refine⟨Unit,fun _=>⟨[(1,i64 l.length),(6,i64 20)],[]⟩,fun _ Y=>X=Y,fun _=>0,(),(cvE rfl rfl),rfl,?_⟩;rintro _ _ rfl;refine brN (decide_eq_false (by omega)) ?_;exact⟨rfl,oX,gX⟩
theorem zik {B:Nat} (ho:OwnS natE 3 B w (some ⟨g,0,none⟩) cap l) (fx:ExH w b x q c) (fL:w.heap[L]?=some (.cells #[At0 b] 79 (0,0))) (hT:Tz64M w) (htg:0≠g) (hco:WrdR x.co.to) (h48:∀ a∈l,a<48) (hn:l.length<=20) (hn1:1<=l.length) :
  Calls Tryz.prog 88 #[.slice (some ⟨g,0,none⟩) l.length cap,.func (.func 89) #[] #[At0 L]] w fun e w'=>e = .returned (.tuple #[])/\OwnS natE 3 B w' (some ⟨g,0,none⟩) cap (zgh (keyC x) l)/\w.grownBy w' (some g):=by
 refine cofE 9 [.slice (some ⟨g,0,none⟩) l.length cap,.func (.func 89) #[] #[At0 L]] Tryz.func88 ?_;refine cmo (zmo ho fx fL hT htg hco h48 hn hn1) ?_;rintro e X ⟨rfl,h1,h2⟩;exact⟨rfl,h1,h2⟩
theorem znj {l:List Nat} (h:0<l.length):l.headD 48=l[0]:=by
 cases l with
 | nil=>simp at h
 | cons a r=>rfl
theorem zpq {k a:Nat} (h:a∈zbe x k):a<x.ev.length:=by
 unfold zbe at h;exact List.mem_range.1 (List.mem_filter.1 h).1
theorem zmM {k a:Nat} (h:a∈zaL x k):a<x.ev.length:=zpq (ziv.1 h)
theorem zsp (q:Option Addr) (c:Nat):((exC x q c).drop 99).take 49=relC x.co:=by
 obtain⟨A,T,hA,hE⟩:=znt x q c;show ((exC { x with co:=x.co } q c).drop 99).take 49=_;rw [hE,<- hA,List.drop_left,List.take_append_of_le_length (by rw [zad];decide),List.take_of_length_le (by rw [zad];decide)]
theorem zns (q:Option Addr) (c:Nat):((exC x q c).drop 327).take 6=seg 6 fun i=>u8 (x.mem i):=by
 obtain⟨A,T,hA,hE⟩:=zpK x q c [];have:=hE x.mem;rw [List.append_nil] at this;show ((exC { x with mem:=x.mem } q c).drop 327).take 6=_;rw [this,<- hA,List.drop_left,List.take_append_of_le_length (by rw [zay];decide),List.take_of_length_le (by rw [zay];decide)]
abbrev zry (X:World) (b:Nat) (f:Nat->UInt8):Prop:=X.heap[b]?=some (.cells (seg 6 fun i=>u8 (f i)).toArray 30 (0,0))
theorem znO {locs:Nat} (fx:ExH w b x q c) (hv:ExV w x q) (hlo:locs<=6) (hne:∀ l,l<locs->zbe x l≠[]) (hT:Tz64M w) :
  CB 43 #[At0 b,i64 locs] w (.bool (zcO x locs)):=by
 refine cofM 87 [At0 b,i64 locs] (.c .p (.c .p (.c .p (.c .p .p)))) Tryz.func43 ?_;obtain⟨L,hL⟩:=nm (w.heap.size);have hbw:=hlt fx;have hn:=hv.n;have htl:=zc1 hT;refine⟨Unit,fun _=>⟨[(1,i64 locs),(2,At0 L)],[]⟩,fun _ X=>X.heap[L]?=some (.cells #[At0 b] 79 (0,0))/\X.heap.size=L+1/\Bw w X,⟨(),⟨.cons rfl (.cons (by rw [hL];rfl) .nil),rfl⟩,by rw [hL];exact hnew w _,by rw [hL];exact wz _ _,(zba w _)⟩,?_⟩;rintro _ X ⟨fL,sX,hbX⟩;refine⟨Unit,fun _=>⟨[(1,i64 locs),(2,At0 L),(5,At0 (L+1))],[]⟩,fun _ Y=>RelH Y (L+1) ⟨x.ev.length,fun _=>0⟩/\Y.heap.size=L+2/\Bw X Y,?_,?_⟩
 ·refine⟨_,zac (zab fL) (i:=0) rfl,?_⟩;refine⟨_,zac (zab (zaa hbX fx)) (i:=0) rfl,?_⟩;refine⟨relC ⟨x.ev.length,fun _=>0⟩,by kernel_rfl,?_⟩;refine zak (X:=X) (v := .agg (relC ⟨x.ev.length,fun _=>0⟩).toArray) k27 (zad _) (by kernel_rfl) (zas _) fun Z hbZ fZ sZ=>?_;rw [sX] at fZ sZ;exact⟨(),⟨.cons rfl (.cons rfl (.cons (by rw [<- sX];rfl) .nil)),rfl⟩,fZ,sZ,hbZ⟩
 rintro _ Y ⟨fT,sY,hbY⟩;refine⟨Unit,fun _=>⟨[(1,i64 locs),(2,At0 L),(5,At0 (L+1)),(6,At0 (L+2))],[]⟩,fun _ Z=>zry Z (L+2) (fun _=>0)/\RelH Z (L+1) ⟨x.ev.length,fun _=>0⟩/\Z.heap[L]?=some (.cells #[At0 b] 79 (0,0))/\Z.heap.size=L+3/\Bw w Z,?_,?_⟩
 ·exact⟨(),⟨.cons rfl (.cons rfl (.cons rfl (.cons (by rw [<- sY];rfl) .nil))),rfl⟩,by rw [<- sY];exact hnew Y _,hold _ fT,hold _ (zaa hbY fL),by rw [wz,sY],((zst hbX hbY)).alloc (by have:=hbX.size;have:=hbY.size;omega) _⟩
 clear fL sX hbX fT sY hbY;clear X Y;rintro _ X ⟨fM,fT,fL,sX,hbX⟩;obtain⟨P0,hP0⟩:∃ P0:RelD×(Nat->UInt8),P0=(⟨x.ev.length,fun _=>0⟩,fun _=>0):=⟨_,rfl⟩;have hco:zcO x locs=match coGo x locs 0 P0 with
  | none=>false
  | some p=>zcv p.1 x.co&&(List.range 6).all fun l=>decide (p.2 l=x.mem l):=by rw [hP0];rfl
 refine⟨RelD×(Nat->UInt8),fun P=>⟨[(2,At0 L),(5,At0 (L+1)),(6,At0 (L+2))],[]⟩,fun P Z=>coGo x locs 0 P0=some P/\zry Z (L+2) P.2/\RelH Z (L+1) P.1/\Z.heap[L]?=some (.cells #[At0 b] 79 (0,0))/\Bw w Z,?_,?_⟩
 ·refine⟨Nat×(RelD×(Nat->UInt8)),fun s=>⟨[(2,At0 L),(5,At0 (L+1)),(6,At0 (L+2)),(17,i64 locs),(18,i64 (s.1:Nat))],[]⟩,fun s Z=>s.1<=locs/\coGo x (locs-s.1) s.1 s.2=coGo x locs 0 P0/\WrdR s.2.1.to/\zry Z (L+2) s.2.2/\RelH Z (L+1) s.2.1/\Z.heap[L]?=some (.cells #[At0 b] 79 (0,0))/\Bw w Z/\L+3<=Z.heap.size,fun s=>locs-s.1,(0,P0),
   (cvE rfl rfl),⟨Nat.zero_le _,rfl,by rw [hP0];exact fun i _=>(by show 0<_;decide),by rw [hP0];exact fM,by rw [hP0];exact fT,fL,hbX,by omega⟩,?_⟩
  clear fM fT fL sX hbX;rintro⟨l,P⟩ Z ⟨hl,hgo,hPw,fM,fT,fL,hbZ,sZ⟩;dsimp only at hl hgo hPw fM fT sZ ⊢;refine biE (fun hc=>?_) fun hc=>?_
  ·have hc:(l:Int)<(locs:Int):=dT hc;have hll:l<locs:=by omega
   have hstep:coGo x (locs-l) l P=if (zaL x l).headD 48=l then coGo x (locs-(l+1)) (l+1) (zdo (zaL x l) P.1,upd P.2 l (zfP x.ev (zaL x l))) else none:=by
    rw [show locs-l=(locs-(l+1))+1 by omega];rfl
   refine⟨_,zac (zab fL) (i:=0) rfl,?_⟩;refine⟨_,zac (zab (zaa hbZ fx)) (i:=0) rfl,?_⟩;obtain⟨pr,hpr⟩:∃ pr:Nat->Bool,pr=fun i=>decide ((evA x i).k=2)&&decide ((evA x i).l.toNat=l):=⟨_,rfl⟩;refine⟨Nat×Option Addr×Nat,fun s=>⟨[(2,At0 L),(5,At0 (L+1)),(6,At0 (L+2)),(7,i64 (l:Nat)),(8,.slice s.2.1 ((List.range s.1).filter pr).length s.2.2),(17,i64 locs),(18,i64 (l:Nat)),(24,.slice q x.ev.length c),(25,i64 x.ev.length),(26,i64 (s.1:Nat))],[]⟩,fun s V=>s.1<=x.ev.length/\OwnS natE 3 Z.heap.size V s.2.1 s.2.2 ((List.range s.1).filter pr)/\Bw Z V,fun s=>x.ev.length-s.1,(0,none,0),
    (cvE rfl rfl),⟨Nat.zero_le _,OwnS.nil,Below.refl _ _⟩,?_⟩
   rintro⟨k,ps,cs⟩ V ⟨hk,oV,hbV⟩;dsimp only at hk oV ⊢;have hVs:=hbV.size;refine biE (fun hc=>?_) fun hc=>?_
   ·have hc:(k:Int)<(x.ev.length:Int):=dT hc;have hkl:k<x.ev.length:=(by omega);have hbwV:=zst hbZ hbV;obtain⟨bq,oq,hqe,hb,hat⟩:=zev (hv.ev.below hbwV) hkl;rw [zgP] at hat;have hfl:(List.range (k+1)).filter pr=(List.range k).filter pr++if pr k=true then [k] else []:=by
     rw [List.range_succ,List.filter_append,List.filter_cons,List.filter_nil]
    have hprk:pr k=(decide ((evA x k).k=2)&&decide ((evA x k).l.toNat=l)):=(by rw [hpr]);have hll2:((List.range k).filter pr).length<=k:=by
     have:=List.length_filter_le pr (List.range k);rw [List.length_range] at this;exact this
    obtain⟨e,he⟩:=nm (evA x k);rw [<- he] at hat hprk;have eq0:some (Value.slice q x.ev.length c)=some (Value.slice (some ⟨bq,oq,none⟩) x.ev.length c):=(by rw [hqe]);subst hqe;refine⟨k,rfl,hkl,?_⟩;refine⟨evE.enc e,rfl,hat,hb,?_⟩;refine zak (X:=V) (v := .agg (evE.enc e).toArray) k54 rfl rfl (List.all_eq_true.2 fun u hu=>evE.one e u hu) fun U hbU fU sU=>?_;have fU:U.heap[V.heap.size]?=some (.cells (evE.enc e).toArray 54 (0,0)):=fU;have oU:=oV.below hbU;have hbU2:=hbV.trans (hbU.mono hVs);have hUs:=hbU2.size;have skip:pr k=false->(k+1<=x.ev.length/\OwnS natE 3 Z.heap.size U ps cs ((List.range (k+1)).filter pr)/\Bw Z U):=fun h=>⟨hkl,by rw [hfl,h];simpa using oU,hbU2⟩;have skipE:pr k=false->((List.range (k+1)).filter pr).length=((List.range k).filter pr).length:=fun h=>by rw [hfl,h];simp
    refine⟨u8 e.k,zac (zab fU) (i:=1) rfl,?_⟩;refine biE (fun h1=>?_) fun h1=>?_
    ·have h1:e.k=2:=zbj.1 (dT h1);refine⟨u8 e.l,zac (zab fU) (i:=2) rfl,?_⟩;refine⟨(e.l.toNat:Int),zaN _,?_⟩;refine biE (fun h2=>?_) fun h2=>?_
     ·have h2:(e.l.toNat:Int)=(l:Int):=dT h2;have hp1:pr k=true:=(by rw [hprk,decide_eq_true h1,decide_eq_true (by omega:e.l.toNat=l)];rfl);rw [if_pos hp1] at hfl;refine⟨⟨by decide,by decide,rfl⟩,natE.enc k,rfl,?_⟩;have hb2:Bw U (U.alloc (.cells (natE.enc k).toArray 3)):=zba _ _;have sb2:=hb2.size;unfold opsE zdl;show SatR _ _;refine appI (oU.below hb2) (zbi natE k) (by omega) (by omega) fun p' c' S oS gS hat2=>?_;rw [zcN] at gS;rw [<- hfl] at oS ⊢;refine nxI (by omega) ?_;exact⟨(k+1,p',c'),(cvE rfl rfl),⟨hkl,oS,hbU2.trans ((hb2.mono hUs).trans (zbc (oU.below hb2) (by omega) (Nat.le_refl _) gS))⟩,zdc (by omega)⟩
     ·have h2:¬ (e.l.toNat:Int)=(l:Int):=dF h2;have hp0:pr k=false:=(by rw [hprk,decide_eq_false (by omega:¬ e.l.toNat=l),Bool.and_false]);refine nxI (by omega) ?_;exact⟨(k+1,ps,cs),⟨.cons rfl (.cons rfl (.cons rfl (.cons rfl (.cons (by show _=some (Value.slice ps ((List.range (k+1)).filter pr).length cs);rw [skipE hp0];rfl) (.cons rfl (.cons rfl (.cons rfl (.cons rfl (.cons rfl .nil))))))))),rfl⟩,skip hp0,zdc (by omega)⟩
    ·have h1:¬ e.k=2:=fun e2=>(dF h1) (by rw [e2];rfl);have hp0:pr k=false:=(by rw [hprk,decide_eq_false h1];rfl);refine brF ?_;refine nxI (by omega) ?_;exact⟨(k+1,ps,cs),⟨.cons rfl (.cons rfl (.cons rfl (.cons rfl (.cons (by show _=some (Value.slice ps ((List.range (k+1)).filter pr).length cs);rw [skipE hp0];rfl) (.cons rfl (.cons rfl (.cons rfl (.cons rfl (.cons rfl .nil))))))))),rfl⟩,skip hp0,zdc (by omega)⟩
   have hc:¬ (k:Int)<(x.ev.length:Int):=dF hc;obtain rfl:k=x.ev.length:=by omega
   have hwr:(List.range x.ev.length).filter pr=zbe x l:=by rw [hpr];rfl
   rw [hwr] at oV ⊢;have hwn:=hne l hll;have hw1:1<=(zbe x l).length:=List.length_pos_iff.2 hwn;have hw19:(zbe x l).length<=20:=by
    have:=List.length_filter_le pr (List.range x.ev.length);rw [hwr,List.length_range] at this;omega
   have hps:∃ g,ps=some ⟨g,0,none⟩:=by
    rcases oV.inv with ⟨_,_,h⟩ | ⟨g,cur,h,_⟩
    ·exact (hwn h).elim
    ·exact⟨g,h⟩
   obtain⟨g,rfl⟩:=hps;have hg:=(zav oV rfl).1;have hg:Z.heap.size<=g:=hg;have hbwV:=zst hbZ hbV;have hZw:=hbZ.size;refine cmo (zik oV (zaa hbwV fx) (zaa hbV fL) (hT.below hbwV) (by omega) hv.co (fun a ha=>by have:=zpq ha;omega) hw19 hw1) ?_;rintro e U ⟨rfl,oU,gU⟩;have oU:OwnS natE 3 Z.heap.size U (some ⟨g,0,none⟩) cs (zaL x l):=oU;have hrl:(zaL x l).length=(zbe x l).length:=zmr _;have hbU:Bw Z U:=hbV.trans (zao gU hVs hg);have hbwU:=hbZ.trans (hbU.mono hZw);have hU0:0<(zaL x l).length:=by omega
   obtain⟨bq,oq,hqe,hbq,hatq⟩:=oU.row.at hU0;have hbo:bq=g/\oq=0:=by simpa using hqe.symm
   obtain⟨rfl,rfl⟩:=hbo;rw [<- hrl];have hh:(zaL x l).headD 48=(zaL x l)[0]:=znj hU0;refine⟨0,rfl,hU0,?_⟩;refine⟨i64 (zaL x l)[0],by have:=zac (hatq 0 hU0) (i:=0) (v:=i64 (zaL x l)[0]) rfl;exact this,?_⟩;refine biE (fun h=>?_) fun h=>?_
   ·have h:(!decide (((zaL x l)[0]:Int)=(l:Int)))=true:=h;have h:¬ ((zaL x l)[0]:Int)=(l:Int):=(by simpa using h);rw [hstep,if_neg (by rw [hh];omega)] at hgo;refine⟨rb ?_,hbwU⟩;rw [hco,<- hgo]
   have h:(!decide (((zaL x l)[0]:Int)=(l:Int)))=false:=h;have h:((zaL x l)[0]:Int)=(l:Int):=by simpa using h
   rw [hstep,if_pos (by rw [hh];omega)] at hgo;have fTU:=zaa hbU fT;have hRT:RelAt U (L+1) 0 27 [] [] P.1:=⟨rfl,by simpa using fTU⟩;have hrk48:∀ a∈zaL x l,a<48:=fun a ha=>by have:=zmM ha;omega
   have hLZ:=hlt fT;have hL2Z:=hlt fM;refine cmo (zpD hRT hPw oU.row (fun a ha=>by cases ha;exact⟨hbq,by show bq≠L+1;omega⟩) (by omega) hrk48) ?_;rintro e S ⟨rfl,hRS,gS⟩;have fTS:RelH S (L+1) (zdo (zaL x l) P.1):=by simpa using hRS.cells
   have hbS:Bw w S:=hbwU.trans (zao gS hbwU.size (by omega));have fMS:=(gS.block (L+2) (hlt (zaa hbU fM)) (by simp)).trans (zaa hbU fM);have fLS:=(gS.block L (hlt (zaa hbU fL)) (by simp)).trans (zaa hbU fL);have oS:=za2 oU fTU (by decide) gS;obtain⟨j,hj⟩:∃ j,j+1=(zaL x l).length:=⟨(zaL x l).length-1,by omega⟩;have hjl:j<(zaL x l).length:=by omega
   obtain⟨b6,o6,hp6,hl6,hat6⟩:=oS.row.at hjl;have hbo6:b6=bq/\o6=0:=by simpa using hp6.symm
   obtain⟨rfl,rfl⟩:=hbo6;obtain⟨t,ht⟩:∃ t,(zaL x l)[j]=t:=⟨_,rfl⟩;have htev:t<x.ev.length:=zmM (by rw [<- ht];exact gM hjl);have hlast:(zaL x l).getLastD 0=t:=by
    rw [List.getLastD_eq_getLast?,List.getLast?_eq_getElem?,show (zaL x l).length-1=j by omega,gE hjl,ht];rfl
   obtain⟨b7,o7,hp7,hl7,hat7⟩:=zev (hv.ev.below hbS) htev;rw [zgP] at hat7;have hlV:zfP x.ev (zaL x l)=(evA x t).v:=by
    show (x.ev.getD ((zaL x l).getLastD 0) ev0).v=_;rw [hlast];rfl
   have dS:Bw S S.drew:=(Below.refl _ _).drew;refine DrawE.ord [15] [0,1,2,3,4,5,6,7,8,9,10,11,12,13,14,15] (by kernel_rfl) ?_;refine⟨_,zac (zab (hdr fLS)) (i:=0) rfl,?_⟩;refine⟨_,zac (zab (hdr (zaa hbS fx))) (i:=0) rfl,?_⟩;refine⟨(j:Nat),(zaj (by omega)).trans (by omega),?_⟩;refine⟨j,rfl,hjl,?_⟩;refine⟨i64 t,by have:=zac (zae dS (hat6 j hjl)) (i:=0) (v:=i64 t) (by rw [ht];rfl);exact this,?_⟩;rw [hp7];refine⟨t,rfl,htev,?_⟩;refine⟨u8 (evA x t).v,by have:=zac (zae dS hat7) (i:=3) (v:=u8 (evA x t).v) rfl;exact this,?_⟩;refine⟨l,rfl,by omega,?_⟩;refine zar k5 (hdr fMS) (o:=0+l*1) (v:=u8 (evA x t).v) rfl rfl (by rw [zay];omega) rfl fun T fT2 gT sT=>?_;have gT2:S.grownBy T (some (L+2)):=zaf (zai dS) gT;have e8:=zmv (n:=6) (fun i=>u8 (P.2 i)) (fun i=>u8 (upd P.2 l (evA x t).v i)) (i:=l) (by omega) rfl (fun j hj=>by rw [zcn _ _ hj]);rw [za6] at e8;rw [Nat.mul_one,Nat.zero_add,e8] at fT2;refine nxI (by omega) ?_;refine⟨(l+1,(zdo (zaL x l) P.1,upd P.2 l (evA x t).v)),(cvE rfl rfl),⟨hll,by rw [<- hlV];exact hgo,ziW hPw hrk48,fT2,(gT2.block (L+1) (hlt fTS) (by simp)).trans fTS,(gT2.block L (hlt fLS) (by simp)).trans fLS,hbS.trans (zao gT2 hbS.size (by omega)),by have:=gT2.size;have:=gS.size;have:=hbU.size;omega⟩,zdc (by omega)⟩
  ·have hc:¬ (l:Int)<(locs:Int):=dF hc;obtain rfl:l=locs:=by omega
   rw [Nat.sub_self] at hgo;exact⟨P,(cvE rfl rfl),hgo.symm,fM,fT,fL,hbZ⟩
 rintro P Z ⟨hgo,fM,fT,fL,hbZ⟩;have hco2:zcO x locs=(zcv P.1 x.co&&(List.range 6).all fun l=>decide (P.2 l=x.mem l)):=by rw [hco,hgo]
 refine DrawE.ord [] [0,1,2,3,4,5,6,7,8,9,10,11,12,13,14,15] (by kernel_rfl) ?_;have dZ:Bw Z Z.drew:=(Below.refl _ _).drew;refine⟨relC P.1,zad _,zab (hdr fT),hlt (hdr fT),?_⟩;refine⟨_,zac (zab (hdr fL)) (i:=0) rfl,?_⟩;have fxZ:=hdr (zaa hbZ fx);refine⟨relC x.co,zad _,by have h:=zaC (n:=99) (m:=49) (zab fxZ);rw [show (exC x q c).toArray.toList=exC x q c from rfl,zsp] at h;exact h,hlt fxZ,?_⟩;refine⟨_,fun w=>znx _ _ P.1 x.co w,?_⟩;have fin:Bw w Z.drew:=zst hbZ dZ;refine biE (fun h=>?_) fun h=>?_
 ·have h:zcv P.1 x.co=true:=h;refine⟨seg 6 (fun i=>u8 (P.2 i)),zay _ _,zab (hdr fM),hlt (hdr fM),?_⟩;refine⟨_,zac (zab (hdr fL)) (i:=0) rfl,?_⟩;refine⟨seg 6 (fun i=>u8 (x.mem i)),zay _ _,by have h:=zaC (n:=327) (m:=6) (zab fxZ);rw [show (exC x q c).toArray.toList=exC x q c from rfl,zns] at h;exact h,hlt fxZ,?_⟩;refine⟨_,fun w=>zo8 _ _ P.2 x.mem w,?_⟩;exact⟨rb (by rw [hco2,h,Bool.true_and]),fin⟩
 ·have h:zcv P.1 x.co=false:=h;exact⟨rb (by rw [hco2,h,Bool.false_and]),fin⟩
end
section
variable {b c:Nat} {x:ExD} {q:Option Addr} {w:World}
theorem zkk {X:World} {o:Nat} {A T:List Value} {r:RelD} (fx:ExH X b x q c) (hA:A.length=o) (hE:exC x q c=A++(relC r++T)) {i:Nat} (hi:i<48):X.cell? ⟨b,o+1+i*1,none⟩=some (s64 (r.to i)):=by
 have hR:RelAt X b o 34 A T r:=⟨hA,by rw [<- hE];exact fx⟩;exact hR.cell hi
theorem zrX {X:World} (fx:ExH X b x q c) {i:Nat} (hi:i<48):X.cell? ⟨b,0+1+1+i*1,none⟩=some (s64 (x.po.to i)):=by
 obtain⟨A,T,hA,hE⟩:=zo2 x q c [];exact zkk fx hA (by rw [<- hE,List.append_nil]) hi
theorem zsu {X:World} (fx:ExH X b x q c) {i:Nat} (hi:i<48):X.cell? ⟨b,0+148+1+i*1,none⟩=some (s64 (x.dt.to i)):=by
 obtain⟨A,T,hA,hE⟩:=zo3 x q c [];exact zkk fx hA (by rw [<- hE,List.append_nil]) hi
theorem zsB {X:World} (fx:ExH X b x q c) {i:Nat} (hi:i<48):X.cell? ⟨b,0+197+1+i*1,none⟩=some (s64 (x.ct.to i)):=by
 obtain⟨A,T,hA,hE⟩:=zo4 x q c [];exact zkk fx hA (by rw [<- hE,List.append_nil]) hi
theorem zrR {X:World} (fx:ExH X b x q c) {i:Nat} (hi:i<48):X.cell? ⟨b,0+246+1+i*1,none⟩=some (s64 (x.rm.to i)):=by
 obtain⟨A,T,hA,hE⟩:=zo1 x q c [];exact zkk fx hA (by rw [<- hE,List.append_nil]) hi
theorem n64 {a b:Nat} (h:(!decide ((a:Int)=(b:Int)))=true):¬ a=b:=fun e=>by
 rw [e] at h;simp at h
theorem y64 {a b:Nat} (h:(!decide ((a:Int)=(b:Int)))=false):a=b:=by
 have h:(a:Int)=(b:Int):=by simpa using h
 exact Int.ofNat.inj h
theorem n8 {a d:UInt8} (h:(!decide ((a.toNat:Int)=(d.toNat:Int)))=true):¬ a=d:=fun e2=>by
 rw [e2] at h;simp at h
theorem y8 {a d:UInt8} (h:(!decide ((a.toNat:Int)=(d.toNat:Int)))=false):a=d:=zbj.1 (by simpa using h)
def wrG (x:ExD) (k:Nat):Nat:=(List.range k).foldl (fun s i=>if (evA x i).k=2 then s|||2^i else s) 0
theorem zkb (x:ExD) (k:Nat):wrG x (k+1)=if (evA x k).k=2 then wrG x k|||2^k else wrG x k:=by
 unfold wrG;rw [List.range_succ,List.foldl_append];rfl
theorem zkc (x:ExD):∀ k,k<=64->wrG x k<2^64
 | 0,_=>by show 0<_;decide
 | k+1,h=>by
  rw [zkb]
  split
  ·exact Nat.or_lt_two_pow (zkc x k (by omega)) (zaI (by omega))
  ·exact zkc x k (by omega)
theorem zlN (fx:ExH w b x q c) (hv:ExV w x q) (hrn:x.rm.n=x.ev.length) (hok:okR x.rm=true) (hT:Tz64M w) :
  CB 44 #[At0 b] w (.bool (zcF x)):=by
 refine cofM 130 [At0 b] (.s .p (.s .p (.c .p .p))) Tryz.func44 ?_;have hn:=hv.n;obtain⟨W,hW⟩:=nm (zc0 x);have hWG:W=wrG x x.ev.length:=by rw [hW];rfl
 have hW64:W<2^64:=by rw [hWG];exact zkc x _ (by omega)
 refine⟨Unit,fun _=>⟨[(0,At0 b),(3,s64 W),(4,s64 0)],[]⟩,fun _ X=>Bw w X,?_,?_⟩
 ·refine⟨_,zac (zab fx) (i:=0) rfl,?_⟩;refine⟨Nat,fun k=>⟨[(0,At0 b),(3,s64 (wrG x k)),(4,s64 0),(17,.slice q x.ev.length c),(18,i64 x.ev.length),(19,i64 (k:Nat))],[]⟩,fun k X=>k<=x.ev.length/\Bw w X,fun k=>x.ev.length-k,0,
   (cvE rfl rfl),⟨Nat.zero_le _,Below.refl _ _⟩,?_⟩
  rintro k X ⟨hk,hbX⟩;dsimp only;refine biE (fun hc=>?_) fun hc=>?_
  ·have hc:(k:Int)<(x.ev.length:Int):=dT hc;have hkl:k<x.ev.length:=by omega
   obtain⟨bq,oq,hqe,hb,hat⟩:=zev (hv.ev.below hbX) hkl;rw [zgP] at hat;obtain⟨e,he⟩:=nm (evA x k);have hs:=zkb x k;rw [<- he] at hat hs;subst hqe;refine⟨k,rfl,hkl,?_⟩;refine⟨evE.enc e,rfl,hat,hb,?_⟩;refine zak (X:=X) (v := .agg (evE.enc e).toArray) k54 rfl rfl (List.all_eq_true.2 fun u hu=>evE.one e u hu) fun Y hbY fY sY=>?_;have fY:Y.heap[X.heap.size]?=some (.cells (evE.enc e).toArray 54 (0,0)):=fY;have hbY2:=zst hbX hbY;refine⟨u8 e.k,zac (zab fY) (i:=1) rfl,?_⟩;refine biE (fun h=>?_) fun h=>?_
   ·have h:e.k=2:=zbj.1 (dT h);rw [if_pos h] at hs;refine⟨by omega,((2^k:Nat):Int),zbE (e:=k) (by omega),?_⟩;refine⟨((wrG x k|||2^k:Nat):Int),zcH (zkc x k (by omega)) (zaI (by omega)),?_⟩;refine nxI (by omega) ?_;exact⟨k+1,⟨.cons rfl (.cons (by show _=some (s64 (wrG x (k+1)));rw [hs];rfl) (.cons rfl (.cons rfl (.cons rfl (.cons rfl .nil))))),rfl⟩,⟨hkl,hbY2⟩,zdc (by omega)⟩
   ·have h:¬ e.k=2:=fun e2=>(dF h) (by rw [e2];rfl);rw [if_neg h] at hs;refine nxI (by omega) ?_;exact⟨k+1,⟨.cons rfl (.cons (by show _=some (s64 (wrG x (k+1)));rw [hs];rfl) (.cons rfl (.cons rfl (.cons rfl (.cons rfl .nil))))),rfl⟩,⟨hkl,hbY2⟩,zdc (by omega)⟩
  ·have hc:¬ (k:Int)<(x.ev.length:Int):=dF hc;obtain rfl:k=x.ev.length:=by omega
   exact⟨(),⟨.cons rfl (.cons (by show _=some (s64 W);rw [hWG];rfl) (.cons rfl .nil)),rfl⟩,hbX⟩
 rintro _ X hbX;refine⟨_,zac (zab (zaa hbX fx)) (i:=0) rfl,?_⟩;have hdep:zcF x=zfb x W 0 x.ev 0:=by rw [hW];rfl
 refine⟨Nat×Nat,fun s=>⟨[(0,At0 b),(3,s64 W),(4,s64 s.2),(35,.slice q x.ev.length c),(36,i64 x.ev.length),(37,i64 (s.1:Nat))],[]⟩,fun s X=>s.1<=x.ev.length/\zfb x W s.1 (x.ev.drop s.1) s.2=zcF x/\s.2<2^64/\Bw w X,fun s=>x.ev.length-s.1,(0,0),
  (cvE rfl rfl),⟨Nat.zero_le _,hdep.symm,by decide,hbX⟩,?_⟩
 clear hbX;rintro⟨k,h⟩ X ⟨hk,hgo,hh,hbX⟩;dsimp only at hk hgo hh ⊢;refine biE (fun hc=>?_) fun hc=>?_
 ·have hc:(k:Int)<(x.ev.length:Int):=dT hc;have hkl:k<x.ev.length:=by omega
  have hk48:k<48:=by omega
  obtain⟨bq,oq,hqe,hb,hat⟩:=zev (hv.ev.below hbX) hkl;rw [zgP] at hat;obtain⟨e,he⟩:=nm (evA x k);rw [<- he] at hat;have hdrp:x.ev.drop k=e::x.ev.drop (k+1):=by
   rw [<- List.getElem_cons_drop hkl,he];unfold evA;rw [gDe,gE hkl];rfl
  rw [hdrp] at hgo;unfold zfb at hgo;obtain⟨d,hd⟩:=nm (x.dt.to k);obtain⟨t,ht⟩:=nm (x.ct.to k);obtain⟨r,hr⟩:=nm (x.rm.to k);obtain⟨po,hpo⟩:=nm (x.po.to k);dsimp only at hgo;rw [<- hd,<- ht,<- hr,<- hpo] at hgo;have d64:d<2^64:=by rw [hd];exact hv.dt k hk48
  have t64:t<2^64:=by rw [ht];exact hv.ct k hk48
  have r64:r<2^64:=by rw [hr];exact hv.rm k hk48
  have p64:po<2^64:=by rw [hpo];exact hv.po k hk48
  have dt64:=Nat.or_lt_two_pow d64 t64;have dtr64:=Nat.or_lt_two_pow dt64 r64;have dr64:=Nat.or_lt_two_pow d64 r64;subst hqe;refine⟨k,rfl,hkl,?_⟩;refine⟨evE.enc e,rfl,hat,hb,?_⟩;refine zak (X:=X) (v := .agg (evE.enc e).toArray) k54 rfl rfl (List.all_eq_true.2 fun u hu=>evE.one e u hu) fun Y hbY fY sY=>?_;have fY:Y.heap[X.heap.size]?=some (.cells (evE.enc e).toArray 54 (0,0)):=fY;have hbY2:=zst hbX hbY;have dY:Bw Y Y.drew:=(Below.refl _ _).drew;have fxY:=hdr (zaa hbY2 fx);have fYd:=hdr fY;have hbD:=zst hbY2 dY;have no:∀ {Z:World},Bw w Z->zcF x=false->(Ending.returned (.bool false)=Ending.returned (.bool (zcF x))/\Bw w Z):=fun {Z} hb h=>⟨rb h.symm,hb⟩;refine DrawE.ord [] [0,1,2,3,4,5,6,7,8,9,10,11,12,13,14,15,16,17,18,19,20,21,22,23] (by kernel_rfl) ?_;refine⟨k,rfl,hk48,?_⟩;refine⟨s64 d,by rw [hd];exact zsu fxY hk48,?_⟩;refine⟨k,rfl,hk48,?_⟩;refine⟨s64 t,by rw [ht];exact zsB fxY hk48,?_⟩;refine⟨k,rfl,hk48,?_⟩;refine⟨s64 r,by rw [hr];exact zrR fxY hk48,?_⟩;refine⟨_,zcH d64 t64,?_⟩;refine⟨_,zcH dt64 r64,?_⟩;refine biE (fun h1=>?_) fun h1=>?_
  ·have h1:d|||t|||r=0:=Int.ofNat.inj (dT h1);rw [if_pos h1] at hgo;refine nxI (by omega) ?_;exact⟨(k+1,h),(cvE rfl rfl),⟨hkl,hgo,hh,hbD⟩,zdc (by omega)⟩
  have h1:¬ d|||t|||r=0:=fun e2=>(dF h1) (by rw [e2];rfl);rw [if_neg h1] at hgo;refine⟨u8 e.k,zac (zab fYd) (i:=1) rfl,?_⟩;refine biE (fun h2=>?_) fun h2=>?_
  ·have h2:¬ e.k=1:=n8 (d:=1) h2;rw [if_neg fun h=>h2 h.1] at hgo;refine brT ?_;refine brT ?_;exact no hbD hgo.symm
  have h2:e.k=1:=y8 (d:=1) h2;refine⟨_,zcH d64 r64,?_⟩;refine⟨_,zed dr64 hW64,?_⟩;refine biE (fun h3=>?_) fun h3=>?_
  ·have h3:¬ zb6 (d|||r) W=0:=n64 (b:=0) h3;rw [if_neg fun h=>h3 h.2.1] at hgo;refine brT ?_;exact no hbD hgo.symm
  have h3:zb6 (d|||r) W=0:=y64 (b:=0) h3;refine⟨_,zcH d64 t64,?_⟩;refine⟨_,zcH dt64 r64,?_⟩;refine⟨k,rfl,hk48,?_⟩;refine⟨s64 po,by rw [hpo];exact zrX fxY hk48,?_⟩;refine⟨_,zed dtr64 p64,?_⟩;refine biE (fun h4=>?_) fun h4=>?_
  ·have h4:¬ zb6 (d|||t|||r) po=0:=n64 (b:=0) h4;rw [if_neg fun h=>h4 h.2.2] at hgo;exact no hbD hgo.symm
  have h4:zb6 (d|||t|||r) po=0:=y64 (b:=0) h4;rw [if_pos ⟨h2,h3,h4⟩] at hgo;refine cmo (zda r64 (hT.below hbD)) ?_;rintro e2 Z ⟨rfl,hbZ⟩;have hbZ2:=zst hbD hbZ;by_cases hr0:r=0
  ·have e1:(els r).isEmpty=true:=by rw [hr0];rfl
   rw [e1];rw [if_pos hr0] at hgo;refine brF ?_;refine nxI (by omega) ?_;exact⟨(k+1,h),(cvE rfl rfl),⟨hkl,hgo,hh,hbZ2⟩,zdc (by omega)⟩
  rw [if_neg hr0] at hgo;obtain⟨hhd,hem⟩:=zdM hr0 r64;rw [hhd,hem];have hmem:=zh9 hr0 r64;have hbit:r.testBit (ctz r)=true:=(zbT.1 hmem).2;have hvl:ctz r<x.ev.length:=by
   have:=(zhN hok hv.rm hk48 (by rw [<- hr];exact hbit)).1;rw [hrn] at this;omega
  obtain⟨v,hvd⟩:=nm (ctz r);rw [<- hvd] at hvl hgo ⊢;refine brT ?_;have fZ:=zaa hbZ fYd;have dZ:Bw Z Z.drew:=(Below.refl _ _).drew;have hbZ3:=zst hbZ2 dZ;refine DrawE.ord [] [0,1,2,3,4,5,6,7,8,9,10,11,12,13,14,15,16,17,18,19,20,21,22,23] (by kernel_rfl) ?_;refine⟨by omega,((2^v:Nat):Int),zbE (e:=v) (by omega),?_⟩;refine biE (fun h5=>?_) fun h5=>?_
  ·have h5:¬ r=2^v:=n64 h5;rw [if_neg fun h=>h5 h.1] at hgo;refine brT ?_;refine brT ?_;exact no hbZ3 hgo.symm
  have h5:r=2^v:=y64 h5;refine⟨by omega,_,zfi (a:=h) (k:=v) (by omega),?_⟩;refine⟨_,zbZ (a:=h/2^v) (b:=1) (Nat.lt_of_le_of_lt (Nat.div_le_self _ _) hh) (by decide),?_⟩;rw [zj1]
  cases hb5:h.testBit v with
  | true =>
   rw [if_neg fun h=>(by rw [hb5] at h;cases h.2.1)] at hgo;refine brT ?_;refine brT ?_;exact no hbZ3 hgo.symm
  | false =>
   refine brF ?_;obtain⟨bq2,oq2,hqe2,hb2,hat2⟩:=zev (hv.ev.below hbZ3) hvl;rw [zgP] at hat2;obtain⟨f,hf⟩:=nm (evA x v);rw [<- hf] at hat2 hgo;refine⟨_,zac (zab (zaa hbZ3 fx)) (i:=0) rfl,?_⟩;refine⟨v,rfl,hvl,?_⟩;simp only [Option.some.injEq,Addr.mk.injEq,and_true] at hqe2;rw [<- hqe2.1,<- hqe2.2] at hat2;refine⟨u8 f.l,by have:=zac hat2 (i:=2) (v:=u8 f.l) rfl;exact this,?_⟩;refine⟨u8 e.l,zac (zab (hdr fZ)) (i:=2) rfl,?_⟩;refine biE (fun h6=>?_) fun h6=>?_
   ·have h6:¬ f.l=e.l:=n8 h6;rw [if_neg fun h=>h6 h.2.2] at hgo;exact no hbZ3 hgo.symm
   have h6:f.l=e.l:=y8 h6;rw [if_pos ⟨h5,hb5,h6⟩] at hgo;refine⟨_,zcH hh r64,?_⟩;refine nxI (by omega) ?_;exact⟨(k+1,h|||r),(cvE rfl rfl),⟨hkl,hgo,Nat.or_lt_two_pow hh r64,hbZ3⟩,zdc (by omega)⟩
 ·have hc:¬ (k:Int)<(x.ev.length:Int):=dF hc;obtain rfl:k=x.ev.length:=by omega
  rw [List.drop_length] at hgo;exact⟨rb hgo,hbX⟩
end
theorem zf4 {locs:Nat}:∀ (ev:List Ev) (i:Nat) (t:Int) (n:Nat),evGo locs i ev t n=true->∀ j,i+j<locs->j<ev.length->∃ v,ev.getD j ev0=⟨-1,2,UInt8.ofNat (i+j),v,0,0,0⟩
 | [],_,_,_,_,_,_,h=>by simp at h
 | e::ev,i,t,n,h,j,hj,hl=>by
  unfold evGo at h;rw [if_pos (by omega:i<locs)] at h;by_cases he:e=⟨-1,2,UInt8.ofNat i,e.v,0,0,0⟩
  ·rw [if_pos he] at h
   cases j with
   | zero=>exact⟨e.v,by rw [Nat.add_zero];exact he⟩
   | succ j =>
    obtain⟨v,hv⟩:=zf4 ev (i+1) t n h j (by omega) (by simpa using hl);exact⟨v,by rw [show i+(j+1)=i+1+j by omega];exact hv⟩
  ·rw [if_neg he] at h;cases h
theorem zkH (ev:List Ev):zaJ ev<=ev.length:=by
 unfold zaJ
 induction ev with
 | nil=>exact Nat.le_refl _
 | cons e ev ih =>
  rw [List.takeWhile_cons]
  split
  ·rw [List.length_cons,List.length_cons];omega
  ·exact Nat.zero_le _
theorem zof {x:ExD} {locs:Nat} (h:zbB x.ev locs=true) (hl:locs<=x.ev.length) (h6:locs<=6):∀ l,l<locs->zbe x l≠[]:=by
 intro l hll he;obtain⟨v,hv⟩:=zf4 x.ev 0 0 0 h l (by omega) (by omega);have:l∈zbe x l:=by
  unfold zbe;rw [List.mem_filter,List.mem_range];refine⟨by omega,?_⟩;have h2:evA x l=⟨-1,2,UInt8.ofNat (0+l),v,0,0,0⟩:=hv;rw [h2,bAT,dE,dE];refine⟨rfl,?_⟩;show (UInt8.ofNat (0+l)).toNat=l;rw [Nat.zero_add,UInt8.toNat_ofNat'];exact Nat.mod_eq_of_lt (by omega)
 rw [he] at this
 cases this
abbrev zc6 (x:ExD):List RelD:=[x.po,x.rf,x.co,x.dt,x.ct,x.rm]
theorem zqX (x:ExD) (q:Option Addr) (c:Nat) {i:Nat} (hi:i<6):((exC x q c).drop (1+49*i)).take 49=relC ((zc6 x).getD i x.po):=by
 have g:∀ {A T:List Value} {o:Nat} {r:RelD},A.length=o->exC x q c=A++(relC r++T)->((exC x q c).drop o).take 49=relC r:=fun {A T o r} hA hE=>by
  rw [hE,<- hA,List.drop_left,List.take_append_of_le_length (by rw [zad];decide),List.take_of_length_le (by rw [zad];decide)]
 match i,hi with
 | 0,_=>obtain⟨A,T,hA,hE⟩:=zo2 x q c [];exact g hA (by rw [<- hE,List.append_nil];rfl)
 | 1,_=>obtain⟨A,T,hA,hE⟩:=zsl x q c [];exact g hA (by rw [<- hE,List.append_nil];rfl)
 | 2,_=>obtain⟨A,T,hA,hE⟩:=zso x q c [];exact g hA (by rw [<- hE,List.append_nil];rfl)
 | 3,_=>obtain⟨A,T,hA,hE⟩:=zo3 x q c [];exact g hA (by rw [<- hE,List.append_nil];rfl)
 | 4,_=>obtain⟨A,T,hA,hE⟩:=zo4 x q c [];exact g hA (by rw [<- hE,List.append_nil];rfl)
 | 5,_=>obtain⟨A,T,hA,hE⟩:=zo1 x q c [];exact g hA (by rw [<- hE,List.append_nil];rfl)
theorem zqq (L:Nat) {k:Nat} (hk:k<6):((List.range 6).map (fun i=>Value.pointer (some ⟨L,0+(1+49*i),none⟩)))[k]?=some (.pointer (some ⟨L,0+(1+49*k),none⟩)):=by
 rw [List.getElem?_map,List.getElem?_range hk];rfl
def okX (x:ExD) (r:RelD):Bool:=decide (r.n=x.ev.length)&&okR r
section
variable {c:Nat} {x:ExD} {q:Option Addr} {w:World}
theorem zgj {X:World} {b:Nat} (fx:ExH X b x q c) {i:Nat} (hi:i<6):zax X ⟨b,0+(1+49*i),none⟩ (relC ((zc6 x).getD i x.po)):=by
 have h:=zaC (n:=1+49*i) (m:=49) (zab fx);rw [show (exC x q c).toArray.toList=exC x q c from rfl,zqX x q c hi] at h;exact h
theorem ExV.rel (hv:ExV w x q) {i:Nat} (hi:i<6):WrdR ((zc6 x).getD i x.po).to:=by
 match i,hi with
 | 0,_=>exact hv.po
 | 1,_=>exact hv.rf
 | 2,_=>exact hv.co
 | 3,_=>exact hv.dt
 | 4,_=>exact hv.ct
 | 5,_=>exact hv.rm
theorem zlb (hv:ExV w x q) (hT:Tz64M w):CB 8 #[.agg (exC x q c).toArray] w (.bool (za5 x)):=by
 refine cofM 70 [.agg (exC x q c).toArray] (.c .p (.c .p (.c .p (.c .p (.c .p .p))))) Tryz.func8 ?_;obtain⟨L,hL⟩:=nm (w.heap.size);have hn:=hv.n;refine⟨Unit,fun _=>⟨[(1,At0 L)],[]⟩,fun _ X=>ExH X L x q c/\Bw w X,⟨(),⟨.cons (by rw [hL];rfl) .nil,rfl⟩,by rw [hL];exact hnew w _,(zba w _)⟩,?_⟩;rintro _ X ⟨fx,hbX⟩;obtain⟨n,hnn⟩:=nm (zaJ x.ev);refine⟨Unit,fun _=>⟨[(1,At0 L)],[]⟩,fun _ Y=>X=Y,?_,?_⟩
 ·refine⟨_,zac (zab fx) (i:=0) rfl,?_⟩;refine biE (fun h=>?_) fun _=>?_
  ·have h:(48:Int)<(x.ev.length:Nat):=dT h;omega
  exact⟨(),(cvE rfl rfl),rfl⟩
 rintro _ _ rfl;refine⟨Unit,fun _=>⟨[(1,At0 L),(3,i64 (n:Nat))],[]⟩,fun _ Y=>Bw X Y,?_,?_⟩
 ·refine⟨_,zac (zab fx) (i:=0) rfl,?_⟩;refine cmo (zlG (hv.below hbX).ev (by omega)) ?_;rintro e Y ⟨rfl,hbY⟩;rw [<- hnn];exact⟨(),(cvE rfl rfl),hbY⟩
 rintro _ Y hbY;have hvX:=hv.below hbX;have hnl:n<=x.ev.length:=by rw [hnn];exact zkH _
 have hbwY:=zst hbX hbY;have hr0:decide (x.ev.length<=48)=true:=decide_eq_true (by omega);have no:∀ {Z:World},Bw w Z->za5 x=false->(Ending.returned (.bool false)=Ending.returned (.bool (za5 x))/\Bw w Z):=fun {Z} hb h=>⟨rb h.symm,hb⟩;refine⟨Unit,fun _=>⟨[(1,At0 L),(3,i64 (n:Nat))],[]⟩,fun _ Z=>zbB x.ev n=true/\(1<=n/\n<=6)/\ExH Z L x q c/\Bw w Z,?_,?_⟩
 ·refine biE (fun h1=>?_) fun h1=>?_
  ·have h1:(n:Int)<1:=dT h1;refine brT ?_;refine brT ?_;refine no hbwY ?_;unfold za5;rw [<- hnn,decide_eq_false (by omega:¬ 1<=n),Bool.false_and,Bool.and_false]
  have h1:¬ (n:Int)<1:=dF h1;refine biE (fun h2=>?_) fun h2=>?_
  ·have h2:(6:Int)<(n:Int):=dT h2;refine brT ?_;refine no hbwY ?_;unfold za5;rw [<- hnn,decide_eq_false (by omega:¬ n<=6),Bool.false_and,Bool.and_false,Bool.and_false]
  have h2:¬ (6:Int)<(n:Int):=dF h2;have hn1:decide (1<=n)=true:=decide_eq_true (by omega);have hn6:decide (n<=6)=true:=decide_eq_true (by omega);have fY:=zaa hbY fx;refine⟨_,zac (zab fY) (i:=0) rfl,?_⟩;refine cmo (zh7 (locs:=n) (hvX.below hbY).ev (by omega) (by omega)) ?_;rintro e Z ⟨rfl,hbZ⟩;have hbwZ:=zst hbwY hbZ;refine biE (fun h3=>?_) fun h3=>?_
  ·have h3:zbB x.ev n=false:=by
    have h3:(!zbB x.ev n)=true:=h3;simpa using h3
   refine no hbwZ ?_;unfold za5;rw [<- hnn,h3,Bool.false_and,Bool.and_false,Bool.and_false,Bool.and_false]
  have h3:zbB x.ev n=true:=by
   have h3:(!zbB x.ev n)=false:=h3;simpa using h3
  exact⟨(),(cvE rfl rfl),h3,by omega,zaa hbZ fY,hbwZ⟩
 rintro _ Z ⟨h3,⟨h1,h2⟩,fZ,hbwZ⟩;clear fx hbX hbY hbwY hvX;have hn1:decide (1<=n)=true:=decide_eq_true h1;have hn6:decide (n<=6)=true:=decide_eq_true h2;have hright:za5 x=(za9 x&&(zcv x.po (poR x.ev)&&(zc5 x&&(zcO x n&&zcF x)))):=by
  unfold za5;rw [<- hnn,hr0,hn1,hn6,h3];rfl
 have hrels:za9 x=(zc6 x).all (okX x):=rfl;refine⟨Unit,fun _=>⟨[(1,At0 L),(3,i64 (n:Nat))],[]⟩,fun _ U=>za9 x=true/\ExH U L x q c/\Bw w U,?_,?_⟩
 ·refine⟨⟨by decide,by decide,rfl⟩,(List.range 6).map (fun i=>Value.pointer (some ⟨L,0+(1+49*i),none⟩)),rfl,?_⟩;obtain⟨g,hg⟩:=nm (Z.heap.size);refine⟨Nat,fun k=>⟨[(1,At0 L),(3,i64 (n:Nat)),(32,.slice (some ⟨g,0,none⟩) 6 6),(33,i64 6),(34,i64 (k:Nat))],[]⟩,fun k U=>k<=6/\((zc6 x).take k).all (okX x)=true/\U.heap[g]?=some (.cells ((List.range 6).map (fun i=>Value.pointer (some ⟨L,0+(1+49*i),none⟩))).toArray 75 (0,0))/\ExH U L x q c/\Bw w U,fun k=>6-k,0,
   ⟨.cons rfl (.cons rfl (.cons (by rw [hg];rfl) (.cons rfl (.cons rfl .nil)))),rfl⟩,⟨Nat.zero_le _,rfl,by rw [hg];exact hnew Z _,hold _ fZ,hbwZ.alloc hbwZ.size _⟩,?_⟩
  clear hg fZ hbwZ;rintro k U ⟨hk,hall,fg,fU,hbU⟩;dsimp only;refine biE (fun hc=>?_) fun hc=>?_
  ·have hc:(k:Int)<6:=dT hc;have hk6:k<6:=by omega
   obtain⟨r,hr⟩:=nm ((zc6 x).getD k x.po);have hkl:k<(zc6 x).length:=hk6;have htk:(zc6 x).take (k+1)=(zc6 x).take k++[r]:=by
    rw [tsg hkl,hr,gDe,gE hkl];rfl
   have hrw:WrdR r.to:=by rw [hr];exact hv.rel hk6
   have hcel:zax U ⟨L,0+(1+49*k),none⟩ (relC r):=by rw [hr];exact zgj fU hk6
   have dU:Bw U U.drew:=(Below.refl _ _).drew;have hrm:r∈zc6 x:=by
    rw [hr,gDe,gE hkl];exact gM hkl
   have bad:∀ {Z:World},Bw w Z->okX x r=false->(Ending.returned (.bool false)=Ending.returned (.bool (za5 x))/\Bw w Z):=fun {Z} hb h=>no hb (by
    have:za9 x=false:=by
     rw [hrels,List.all_eq_false];exact⟨r,hrm,by rw [h];decide⟩
    rw [hright,this];rfl)
   refine⟨k,rfl,hk6,?_⟩;refine⟨.pointer (some ⟨L,0+(1+49*k),none⟩),by
    have:=zac (zab fg) (i:=k*1) (v := .pointer (some ⟨L,0+(1+49*k),none⟩)) (by
     rw [Nat.mul_one];exact zqq L hk6)
    exact this,?_⟩
   refine DrawE.ord [] [0,1,2,3,4,5,6,7,8,9,10,11,12,13,14] (by kernel_rfl) ?_;refine⟨i64 r.n,zac (zae dU hcel) (i:=0) rfl,?_⟩;refine⟨_,zac (zab (hdr fU)) (i:=0) rfl,?_⟩;refine biE (fun h4=>?_) fun h4=>?_
   ·have h4:(!decide (r.n=(x.ev.length:Int)))=true:=h4;have h4:¬ r.n=(x.ev.length:Int):=(by simpa using h4);refine brT ?_;exact bad ((zst hbU dU)) (by unfold okX;rw [decide_eq_false h4];rfl)
   have h4:(!decide (r.n=(x.ev.length:Int)))=false:=h4;have h4:r.n=(x.ev.length:Int):=by simpa using h4
   refine⟨relC r,zad _,zae dU hcel,hlt (hdr fU),?_⟩;refine cmo (zbG hrw) ?_;rintro e V ⟨rfl,hbV⟩;refine⟨hbV,?_⟩;have hbV2:=hbU.trans ((dU.trans hbV).mono hbU.size);refine biE (fun h5=>?_) fun h5=>?_
   ·have h5:okR r=false:=by
     have h5:(!okR r)=true:=h5;simpa using h5
    exact bad hbV2 (by unfold okX;rw [h5,Bool.and_false])
   have h5:okR r=true:=by
    have h5:(!okR r)=false:=h5;simpa using h5
   refine nxI (by omega) ?_;refine⟨k+1,(cvE rfl rfl),⟨hk6,?_,zaa (dU.trans hbV) fg,zaa (dU.trans hbV) fU,hbV2⟩,zdc (by omega)⟩;rw [htk,List.all_append,hall];show (true&&(okX x r&&true))=true;unfold okX;rw [decide_eq_true h4,h5];rfl
  ·have hc:¬ (k:Int)<6:=dF hc;obtain rfl:k=6:=by omega
   exact⟨(),(cvE rfl rfl),hall,fU,hbU⟩
 rintro _ U ⟨hrr,fU,hbU⟩;rw [hrr,Bool.true_and] at hright;have hall:∀ r∈zc6 x,r.n=x.ev.length/\okR r=true:=fun r hr=>by
  rw [hrels,List.all_eq_true] at hrr;have:=hrr r hr;unfold okX at this;rw [bAT,dE] at this;exact this
 have hrf:=hall x.rf (by simp);have hrm:=hall x.rm (by simp);have hvU:=hv.below hbU;have dU:Bw U U.drew:=(Below.refl _ _).drew;have hvD:=hvU.below dU;have hbD:=zst hbU dU;refine DrawE.ord [] [0,1,2,3,4,5,6,7,8,9,10,11,12,13,14,15,16] (by kernel_rfl) ?_;refine⟨relC x.po,zad _,zgj (hdr fU) (i:=0) (by decide),hlt (hdr fU),?_⟩;refine⟨_,zac (zab (hdr fU)) (i:=0) rfl,?_⟩;refine cmo (zeu hvD.ev (by omega)) ?_;rintro e V ⟨rfl,hbV⟩;refine⟨hbV,?_⟩;have hbV2:=zst hbD hbV;have fV:=zaa hbV (hdr fU);have hvV:=hvD.below hbV;refine⟨_,fun w=>znx _ _ x.po (poR x.ev) w,?_⟩;refine biE (fun h4=>?_) fun h4=>?_
 ·have h4:zcv x.po (poR x.ev)=true:=h4;rw [h4,Bool.true_and] at hright;refine cmo (zmG fV hvV hrf.1 hrf.2 (hT.below hbV2)) ?_;rintro e T ⟨rfl,hbT⟩;refine⟨hbT,?_⟩;have hbT2:=zst hbV2 hbT;refine biE (fun h5=>?_) fun h5=>?_
  ·have h5:zc5 x=true:=h5;rw [h5,Bool.true_and] at hright;refine cmo (znO (locs:=n) (zaa hbT fV) (hvV.below hbT) (by omega) (zof h3 hnl (by omega)) (hT.below hbT2)) ?_;rintro e R ⟨rfl,hbR⟩;refine⟨hbR,?_⟩;have hbR2:=zst hbT2 hbR;refine biE (fun h6=>?_) fun h6=>?_
   ·have h6:zcO x n=true:=h6;rw [h6,Bool.true_and] at hright;refine cmo (zlN (zaa hbR (zaa hbT fV)) ((hvV.below hbT).below hbR) hrm.1 hrm.2 (hT.below hbR2)) ?_;rintro e Q ⟨rfl,hbQ⟩;exact⟨hbQ,rb hright.symm,(zst hbR2 hbQ)⟩
   ·have h6:zcO x n=false:=h6;rw [h6,Bool.false_and] at hright;exact⟨rb hright.symm,hbR2⟩
  ·have h5:zc5 x=false:=h5;rw [h5,Bool.false_and] at hright;refine brF ?_;exact⟨rb hright.symm,hbT2⟩
 ·have h4:zcv x.po (poR x.ev)=false:=h4;rw [h4,Bool.false_and] at hright;refine brF ?_;refine brF ?_;exact⟨rb hright.symm,hbV2⟩
end
theorem zia {a b:RelD} {f:Nat->Nat} (h:a.n=b.n->okR a=true->okR b=true->∀ i,i<48->f i<2^64):WrdR (comb a b f).1.to:=by
 unfold comb
 split
 ·rename_i hc;rw [bAT,bAT,dE] at hc;exact zfe fun i _ hi=>h hc.1 hc.2.1 hc.2.2 i hi
 ·exact fun i _=>(by show 0<2^64;decide)
theorem zeL {a b:RelD} (ha:WrdR a.to) (hb:WrdR b.to):WrdR (za8 a b).1.to:=zia fun _ _ _ i hi=>Nat.or_lt_two_pow (ha i hi) (hb i hi)
theorem zkZ {a b:RelD} (ha:WrdR a.to):WrdR (zbH a b).1.to:=zia fun _ _ _ i hi=>Nat.lt_of_le_of_lt Nat.and_le_left (ha i hi)
theorem zeN {a b:RelD} (ha:WrdR a.to) (hb:WrdR b.to):WrdR (zbV a b).1.to:=zia fun _ h _ i hi=>by
 unfold zfI;exact zkJ hb _ _ (by decide) fun j hj=>(zjC h ha hi j hj).2
theorem zdt (k:Nat) (p:Nat->Bool):rowP (k+1) p=if p k=true then rowP k p|||2^k else rowP k p:=by
 unfold rowP;rw [List.range_succ,List.foldl_append];rfl
theorem zeB (p:Nat->Bool):∀ k,k<=64->rowP k p<2^64
 | 0,_=>by show 0<_;decide
 | k+1,h=>by
  rw [zdt]
  split
  ·exact Nat.or_lt_two_pow (zeB p k (by omega)) (zaI (by omega))
  ·exact zeB p k (by omega)
theorem zce {n:Nat} {p:Nat->Nat->Bool} (hn:n<=64):WrdR (zaP n p).to:=zfe fun i _ _=>zeB _ n hn
def zcu (n:Nat) (p:Nat->Nat->Bool) (a k:Nat):Nat->Nat:=fun i=>if i<a then rowP n (p i) else if i=a then rowP k (p a) else 0
theorem zki (n:Nat) (p:Nat->Nat->Bool) (a k:Nat):zcu n p a k a=rowP k (p a):=by
 unfold zcu;rw [if_neg (by omega),if_pos rfl]
theorem zmB {n:Nat} {p:Nat->Nat->Bool} {a k:Nat} (h:p a k=true):upd (zcu n p a k) a (zcu n p a k a|||2^k)=zcu n p a (k+1):=by
 funext i;by_cases hi:i=a
 ·subst hi;rw [za6,zki,zki,zdt,if_pos h]
 ·rw [zcn _ _ hi];unfold zcu;rw [if_neg hi,if_neg hi]
theorem zlr {n:Nat} {p:Nat->Nat->Bool} {a k:Nat} (h:p a k=false):zcu n p a k=zcu n p a (k+1):=by
 have e:rowP (k+1) (p a)=rowP k (p a):=by rw [zdt,if_neg (by rw [h];decide)]
 funext i;unfold zcu;rw [e]
theorem zls (n:Nat) (p:Nat->Nat->Bool) (a:Nat):zcu n p a n=zcu n p (a+1) 0:=by
 funext i;unfold zcu;by_cases h1:i<a
 ·rw [if_pos h1,if_pos (by omega)]
 ·by_cases h2:i=a
  ·subst h2;rw [if_neg h1,if_pos rfl,if_pos (by omega)]
  ·rw [if_neg h1,if_neg h2,if_neg (by omega)]
   split
   ·rfl
   ·rfl
theorem zlq (n:Nat) (p:Nat->Nat->Bool):zcu n p 0 0=fun _=>0:=by
 funext i;unfold zcu;rw [if_neg (by omega)]
 split <;> rfl
theorem zmC (n:Nat) (p:Nat->Nat->Bool):zcu n p n 0=(zaP n p).to:=by
 funext i;unfold zcu zaP zbx;show _=if i<n then _ else 0
 by_cases h:i<n
 ·rw [if_pos h,if_pos h]
 ·rw [if_neg h,if_neg h]
  split <;> rfl
theorem zmA {n:Nat} {p:Nat->Nat->Bool} {a k:Nat} (hn:n<=64) (hk:k<=64):WrdR (zcu n p a k):=fun i _=>by
 unfold zcu
 split
 ·exact zeB _ n hn
 ·split
  ·exact zeB _ k hk
  ·decide
theorem zro {s b:Nat}:decide ((((s/2^b&&&1:Nat):Nat):Int)=1)=s.testBit b:=by
 rw [zj1]
 cases s.testBit b <;> rfl
section
variable {w:World}
theorem zaD {b o a d:Nat} {r:RelD} (hc:∀ i,i<48->w.cell? ⟨b,o+1+i*1,none⟩=some (s64 (r.to i))) (hr:WrdR r.to) (ha:a<48) (hd:d<48) :
  Calls Tryz.prog 67 #[.pointer (some ⟨b,o,none⟩),i64 (a:Nat),i64 (d:Nat)] w fun e w'=>e = .returned (.bool (hasM r a d))/\w=w':=by
 refine cofE 17 [.pointer (some ⟨b,o,none⟩),i64 (a:Nat),i64 (d:Nat)] Tryz.func67 ?_;refine⟨a,rfl,ha,?_⟩;refine⟨_,hc a ha,?_⟩;refine⟨by omega,_,zfi (a:=r.to a) (k:=d) (by omega),?_⟩;refine⟨_,zbZ (a:=r.to a/2^d) (b:=1) (Nat.lt_of_le_of_lt (Nat.div_le_self _ _) (hr a ha)) (by decide),?_⟩;exact⟨rb zro,rfl⟩
theorem zgc {e:Ev}:Calls Tryz.prog 101 #[.agg (evE.enc e).toArray] w fun r w'=>r = .returned (.bool (decide (e.k=1)||decide (e.k=2)))/\Bw w w':=by
 refine cofE 11 [.agg (evE.enc e).toArray] Tryz.func101 ?_;have f:=hnew w (.cells (evE.enc e).toArray 54);have hb:Bw w (w.alloc (.cells (evE.enc e).toArray 54)):=zba w _;refine⟨u8 e.k,zac (zab f) (i:=1) rfl,?_⟩;refine biE (fun h=>?_) fun h=>?_
 ·have h:e.k=1:=zbj.1 (dT h);exact⟨rb (by rw [decide_eq_true h];rfl),hb⟩
 ·have h:¬ e.k=1:=fun e2=>(dF h) (by rw [e2];rfl);refine⟨u8 e.k,zac (zab f) (i:=1) rfl,?_⟩;refine⟨rb ?_,hb⟩;rw [decide_eq_false h,Bool.false_or];exact decide_eq_decide.2 (zbj (x:=e.k) (y:=2))
theorem zmT {n g:Nat} {caps:Array Value} {p:Nat->Nat->Bool} (hn:n<=48) (hok:zbP (sg 0) g=true)
  (hp:∀ a d X,a<n->d<n->Bw w X->Calls Tryz.prog g (i64 (a:Nat)::i64 (d:Nat)::caps.toList).toArray X fun e Y=>e = .returned (.bool (p a d))/\Bw X Y) :
  CB 61 #[i64 n,.func (.func g) #[] caps] w (.agg (relC (zaP n p)).toArray):=by
 refine cofM 34 [i64 n,.func (.func g) #[] caps] (.c .p (.c .p (.c .p .p))) Tryz.func61 ?_;obtain⟨L,hL⟩:=nm (w.heap.size);refine⟨Unit,fun _=>⟨[(0,i64 n),(1,.func (.func g) #[] caps),(4,At0 L)],[]⟩,fun _ X=>RelH X L zam/\X.heap.size=L+1/\Bw w X,?_,?_⟩
 ·exact⟨(),⟨.cons rfl (.cons rfl (.cons (by rw [hL];rfl) .nil)),rfl⟩,by rw [hL];exact hnew w _,by rw [hL];exact wz _ _,(zba w _)⟩
 rintro _ X ⟨f0,sX,hbX⟩;refine⟨Unit,fun _=>⟨[(0,i64 n),(1,.func (.func g) #[] caps),(4,At0 L),(5,At0 (L+1))],[]⟩,fun _ Y=>RelH Y (L+1) ⟨n,zcu n p 0 0⟩/\Y.heap.size=L+2/\Bw X Y,?_,?_⟩
 ·refine⟨relC ⟨n,fun _=>0⟩,by kernel_rfl,?_⟩;refine zak (X:=X) (v := .agg (relC ⟨n,fun _=>0⟩).toArray) k27 (zad _) (by kernel_rfl) (zas _) fun Z hbZ fZ sZ=>?_;rw [sX] at fZ sZ;exact⟨(),⟨.cons rfl (.cons rfl (.cons rfl (.cons (by rw [<- sX];rfl) .nil))),rfl⟩,by rw [zlq];exact fZ,sZ,hbZ⟩
 rintro _ Y ⟨f1,sY,hbY⟩;have hbwY:=zst hbX hbY;have f0:=zaa hbY f0;refine⟨Unit,fun _=>⟨[(4,At0 L),(5,At0 (L+1))],[]⟩,fun _ Z=>RelH Z (L+1) (zaP n p)/\RelH Z L zam/\Bw w Z,?_,?_⟩
 ·refine⟨Nat,fun a=>⟨[(0,i64 n),(1,.func (.func g) #[] caps),(4,At0 L),(5,At0 (L+1)),(10,i64 n),(11,i64 (a:Nat))],[]⟩,fun a Z=>a<=n/\RelH Z (L+1) ⟨n,zcu n p a 0⟩/\RelH Z L zam/\Bw w Z,fun a=>n-a,0,
   (cvE rfl rfl),⟨Nat.zero_le _,f1,f0,hbwY⟩,?_⟩
  rintro a Z ⟨ha,f1,f0,hbZ⟩;dsimp only at f1 ⊢;refine biE (fun hc=>?_) fun hc=>?_
  ·have hc:(a:Int)<(n:Int):=dT hc;have han:a<n:=by omega
   refine⟨Nat,fun d=>⟨[(0,i64 n),(1,.func (.func g) #[] caps),(4,At0 L),(5,At0 (L+1)),(6,i64 (a:Nat)),(10,i64 n),(11,i64 (a:Nat)),(14,i64 n),(15,i64 (d:Nat))],[]⟩,fun d V=>d<=n/\RelH V (L+1) ⟨n,zcu n p a d⟩/\RelH V L zam/\Bw w V,fun d=>n-d,0,
    (cvE rfl rfl),⟨Nat.zero_le _,f1,f0,hbZ⟩,?_⟩
   clear f1 f0 hbZ;rintro d V ⟨hd,f1,f0,hbV⟩;dsimp only at f1 ⊢;refine biE (fun hc=>?_) fun hc=>?_
   ·have hc:(d:Int)<(n:Int):=dT hc;have hdn:d<n:=(by omega);refine zid hok (hp a d V han hdn hbV) ?_;rintro e U ⟨rfl,hbU⟩;refine⟨_,rfl,?_⟩;have f1:=zaa hbU f1;have f0:=zaa hbU f0;have hbU2:=zst hbV hbU;have sU:=hbU2.size;refine biE (fun h=>?_) fun h=>?_
    ·have h:p a d=true:=h;have hR:RelAt U (L+1) 0 27 [] [] ⟨n,zcu n p a d⟩:=⟨rfl,by simpa using f1⟩;have dU:Bw U U.drew:=(Below.refl _ _).drew;have ha48:a<48:=(by omega);refine DrawE.ord [9] [0,1,2,3,4,5,6,7,8,9] (by kernel_rfl) ?_;refine⟨a,rfl,ha48,?_⟩;refine⟨s64 (zcu n p a d a),(hR.same (Y:=U.drew) rfl).cell ha48,?_⟩;refine⟨by omega,_,zbE (e:=d) (by omega),?_⟩;refine⟨_,zcH (zmA (by omega) (by omega) a ha48) (zaI (by omega)),?_⟩;refine⟨a,rfl,ha48,?_⟩;refine zar k24 (hR.same (Y:=U.drew) rfl).cells (o:=0+1+a*1) (v:=s64 (zcu n p a d a|||2^d)) rfl rfl (by rw [hR.len];omega) rfl fun S fS gS sS=>?_;rw [hR.set ha48] at fS;have e5:upd (zcu n p a d) a (zcu n p a d a|||2^d)=zcu n p a (d+1):=zmB h;dsimp only at fS;rw [e5] at fS;have gS2:U.grownBy S (some (L+1)):=zaf (zai dU) gS;refine nxI (by omega) ?_;exact⟨d+1,(cvE rfl rfl),⟨hdn,by simpa using fS,(gS2.block L (hlt f0) (by simp)).trans f0,hbU2.trans (zao gS2 sU (by omega))⟩,zdc (by omega)⟩
    ·have h:p a d=false:=h;refine nxI (by omega) ?_;exact⟨d+1,(cvE rfl rfl),⟨hdn,by rw [<- zlr h];exact f1,f0,hbU2⟩,zdc (by omega)⟩
   ·have hc:¬ (d:Int)<(n:Int):=dF hc;obtain rfl:d=n:=(by omega);refine nxI (by omega) ?_;exact⟨a+1,(cvE rfl rfl),⟨han,by rw [<- zls];exact f1,f0,hbV⟩,zdc (by omega)⟩
  ·have hc:¬ (a:Int)<(n:Int):=dF hc;obtain rfl:a=n:=by omega
   rw [zmC] at f1;exact⟨(),(cvE rfl rfl),f1,f0,hbZ⟩
 rintro _ Z ⟨f1,f0,hbZ⟩;refine⟨relC (zaP n p),zad _,zab f1,hlt f1,?_⟩;refine zaq (v := .agg (relC (zaP n p)).toArray) k27 f0 (zad _) (zad _) (zas _) ?_;exact⟨relC (zaP n p),zad _,zab (zal f0),rfl,zah hbZ (by omega) _⟩
def relE:Enc RelD:=⟨relC,49,zad,by decide,fun a u hu=>List.all_eq_true.1 (zas a) u hu⟩
theorem zee {l:List RelD}:∀ {r:RelD},WrdR r.to->(∀ o∈l,WrdR o.to)->WrdR (zaY r l).to:=by
 induction l with
 | nil=>exact fun h _=>h
 | cons o l ih=>exact fun h hl=>ih (zeL h (hl o List.mem_cons_self)) fun x hx=>hl x (List.mem_cons_of_mem _ hx)
theorem zjk {r:RelD} {l:List RelD} {pm:Option Addr} {cm:Nat} (hr:WrdR r.to) (hl:SlR relE w pm l) (hw:∀ o∈l,WrdR o.to) (hn:l.length<=1000) :
  CB 96 #[.agg (relC r).toArray,.slice pm l.length cm] w (.agg (relC (zaY r l)).toArray):=by
 refine cofM 21 [.agg (relC r).toArray,.slice pm l.length cm] (.c .p (.c .p .p)) Tryz.func96 ?_;obtain⟨L,hL⟩:=nm (w.heap.size);refine⟨Unit,fun _=>⟨[(1,.slice pm l.length cm),(2,At0 L),(4,At0 (L+1))],[]⟩,fun _ X=>RelH X L r/\RelH X (L+1) zam/\Bw w X,?_,?_⟩
 ·have s1:=wz w (.cells (relC r).toArray 27);have h2:=hnew (w.alloc (.cells (relC r).toArray 27)) (.cells (relC zam).toArray 27);rw [s1] at h2;refine⟨(),⟨.cons rfl (.cons (by rw [hL];rfl) (.cons (by rw [hL,<- s1];rfl) .nil)),rfl⟩,by rw [hL];exact hold _ (hnew w _),by rw [hL];exact h2,((zba w _)).alloc (by simp) _⟩
 rintro _ X ⟨f0,f1,hbX⟩;refine⟨Unit,fun _=>⟨[(2,At0 L),(4,At0 (L+1))],[]⟩,fun _ Z=>RelH Z L (zaY r l)/\RelH Z (L+1) zam/\Bw w Z,?_,?_⟩
 ·refine⟨Nat,fun k=>⟨[(2,At0 L),(4,At0 (L+1)),(7,.slice pm l.length cm),(8,i64 l.length),(9,i64 (k:Nat))],[]⟩,fun k Z=>k<=l.length/\RelH Z L (zaY r (l.take k))/\RelH Z (L+1) zam/\Bw w Z,fun k=>l.length-k,0,
   (cvE rfl rfl),⟨Nat.zero_le _,f0,f1,hbX⟩,?_⟩
  clear f0 f1 hbX;rintro k Z ⟨hk,f0,f1,hbZ⟩;dsimp only;have hZs:=hbZ.size;refine biE (fun hc=>?_) fun hc=>?_
  ·have hc:(k:Int)<(l.length:Int):=dT hc;have hkl:k<l.length:=by omega
   obtain⟨b,o,rfl,hb,hat⟩:=hl.at hkl;obtain⟨t,ht⟩:∃ t,l[k]=t:=⟨_,rfl⟩;have htm:t∈l:=by rw [<- ht];exact gM hkl
   have htk:zaY r (l.take (k+1))=(za8 (zaY r (l.take k)) t).1:=by
    unfold zaY;rw [tsg hkl,ht,List.foldl_append];rfl
   have hut:WrdR (zaY r (l.take k)).to:=zee hr fun o ho=>hw o (List.mem_of_mem_take ho);refine⟨k,rfl,hkl,?_⟩;refine⟨relC t,zad _,by rw [<- ht];exact zae hbZ (hat k hkl),nL hb hZs,?_⟩;refine zak (X:=Z) (v := .agg (relC t).toArray) k27 (zad _) (by kernel_rfl) (zas _) fun Y hbY fY sY=>?_;have fY:RelH Y Z.heap.size t:=fY;have f0:=zaa hbY f0;have f1:=zaa hbY f1;refine⟨relC (zaY r (l.take k)),zad _,zab f0,hlt f0,?_⟩;refine⟨relC t,zad _,zab fY,hlt fY,?_⟩;refine cmo (zrt hut (hw t htm)) ?_;rintro e V ⟨rfl,hbV⟩;have f0:=zaa hbV f0;have f1:=zaa hbV f1;refine zaq (v := .agg (relC (za8 (zaY r (l.take k)) t).1).toArray) k27 f0 (zad _) (zad _) (zas _) ?_;refine nxI (by omega) ?_;have hbV2:=(hbZ.trans (hbY.mono hZs)).trans (hbV.mono (by have:=hbY.size;omega));exact⟨k+1,(cvE rfl rfl),⟨hkl,by rw [htk];exact zal f0,(zan (by omega)).trans f1,zah hbV2 (by omega) _⟩,zdc (by omega)⟩
  ·have hc:¬ (k:Int)<(l.length:Int):=dF hc;obtain rfl:k=l.length:=by omega
   rw [List.take_length] at f0;exact⟨(),(cvE rfl rfl),f0,f1,hbZ⟩
 rintro _ Z ⟨f0,f1,hbZ⟩;refine⟨relC (zaY r l),zad _,zab f0,hlt f0,?_⟩;refine zaq (v := .agg (relC (zaY r l)).toArray) k27 f1 (zad _) (zad _) (zas _) ?_;exact⟨relC (zaY r l),zad _,zab (zal f1),rfl,zah hbZ (by omega) _⟩
end
section
variable {w:World} {b c:Nat} {x:ExD} {q:Option Addr}
theorem zaz {X:World} (fx:zax X ⟨b,0,none⟩ (exC x q c)):X.cell? ⟨b,0+0,none⟩=some (.slice q x.ev.length c):=zac fx (i:=0) rfl
theorem zhu {X:World} {o:Nat} {r:RelD} (fx:zax X ⟨b,0,none⟩ (exC x q c)) (h:∃ A T,A.length=o/\exC x q c=A++(relC r++T)):∀ i,i<48->X.cell? ⟨b,o+1+i*1,none⟩=some (s64 (r.to i)):=by
 intro i hi;obtain⟨A,T,hA,hE⟩:=h;have:(exC x q c)[o+1+i*1]?=some (s64 (r.to i)):=by
  rw [hE,Nat.mul_one,Nat.add_assoc,zbm hA,List.getElem?_append_left (by rw [zad];omega),zgk r hi]
 have h2:=zac fx this;rw [Nat.zero_add] at h2;exact h2
theorem zpJ (x:ExD) (q:Option Addr) (c:Nat):∃ A T,A.length=1/\exC x q c=A++(relC x.po++T):=by
 obtain⟨A,T,hA,hE⟩:=zo2 x q c [];exact⟨A,T,hA,by rw [<- hE,List.append_nil]⟩
theorem zsj (x:ExD) (q:Option Addr) (c:Nat):∃ A T,A.length=148/\exC x q c=A++(relC x.dt++T):=by
 obtain⟨A,T,hA,hE⟩:=zo3 x q c [];exact⟨A,T,hA,by rw [<- hE,List.append_nil]⟩
theorem zsk (x:ExD) (q:Option Addr) (c:Nat):∃ A T,A.length=197/\exC x q c=A++(relC x.ct++T):=by
 obtain⟨A,T,hA,hE⟩:=zo4 x q c [];exact⟨A,T,hA,by rw [<- hE,List.append_nil]⟩
theorem zpI (x:ExD) (q:Option Addr) (c:Nat):∃ A T,A.length=246/\exC x q c=A++(relC x.rm++T):=by
 obtain⟨A,T,hA,hE⟩:=zo1 x q c [];exact⟨A,T,hA,by rw [<- hE,List.append_nil]⟩
theorem zk9 (x:ExD) (i:Nat):(decide ((evA x i).k=1)||decide ((evA x i).k=2))=accA x i:=rfl
theorem zd8 {X:World} (hv:SlR evE X q x.ev) {a:Nat} (ha:a<x.ev.length):∃ bq oq,q=some ⟨bq,oq,none⟩/\bq<X.heap.size/\zax X ⟨bq,oq+a*7,none⟩ (evE.enc (evA x a)):=zev hv ha
theorem zpv {a d:Nat} (fx:zax w ⟨b,0,none⟩ (exC x q c)) (hv:SlR evE w q x.ev) (ha:a<x.ev.length) (hd:d<x.ev.length) :
  CB 63 #[At0 b,i64 (a:Nat),i64 (d:Nat)] w (.bool (zdX x a d)):=by
 refine cofM 44 [At0 b,i64 (a:Nat),i64 (d:Nat)] (.c .p .p) Tryz.func63 ?_;refine⟨Unit,fun _=>⟨[(0,At0 b),(1,i64 (a:Nat)),(2,i64 (d:Nat))],[]⟩,fun _ X=>w=X,⟨(),(cvE rfl rfl),rfl⟩,?_⟩;rintro _ _ rfl;obtain⟨bq,oq,hqe,hb,hat⟩:=zd8 hv ha;obtain⟨bq2,oq2,hqe2,hb2,hat2⟩:=zd8 hv hd;rw [hqe] at hqe2;simp only [Option.some.injEq,Addr.mk.injEq,and_true] at hqe2;rw [<- hqe2.1,<- hqe2.2] at hat2;subst hqe;have dw:Bw w w.drew:=(Below.refl _ _).drew;refine DrawE.ord [] [0,1,2,3,4,5,6,7,8,9,10,11,12,13,14,15,16,17,18,19,20,21,22,23,24,25,26,27,28,29,30,31,32,33,34,35,36,37] (by kernel_rfl) ?_;refine⟨_,zaz (zae dw fx),?_⟩;refine⟨a,rfl,ha,?_⟩;refine⟨evE.enc (evA x a),rfl,zae dw hat,nL hb dw.size,?_⟩;refine cmo zgc ?_;rintro e X ⟨rfl,hbX⟩;refine⟨hbX,?_⟩;have bX:=dw.trans hbX;rw [zk9];refine biE (fun h1=>?_) fun h1=>?_
 ·have h1:accA x a=true:=h1;refine⟨_,zaz (zae bX fx),?_⟩;refine⟨d,rfl,hd,?_⟩;refine⟨evE.enc (evA x d),rfl,zae bX hat2,nL hb bX.size,?_⟩;refine cmo zgc ?_;rintro e Y ⟨rfl,hbY⟩;refine⟨hbY,?_⟩;have bY:=zst bX hbY;rw [zk9];refine biE (fun h2=>?_) fun h2=>?_
  ·have h2:accA x d=true:=h2;refine⟨_,zaz (zae bY fx),?_⟩;refine⟨a,rfl,ha,?_⟩;refine⟨u8 (evA x a).l,by have:=zac (zae bY hat) (i:=2) (v:=u8 (evA x a).l) rfl;exact this,?_⟩;refine⟨_,zaz (zae bY fx),?_⟩;refine⟨d,rfl,hd,?_⟩;refine⟨u8 (evA x d).l,by have:=zac (zae bY hat2) (i:=2) (v:=u8 (evA x d).l) rfl;exact this,?_⟩;refine⟨rb ?_,bY⟩;unfold zdX;rw [h1,h2,Bool.true_and,Bool.true_and];exact decide_eq_decide.2 zbj
  ·have h2:accA x d=false:=h2;refine⟨rb ?_,bY⟩;unfold zdX;rw [h1,h2];rfl
 ·have h1:accA x a=false:=h1;refine brF ?_;refine⟨rb ?_,bX⟩;unfold zdX;rw [h1];rfl
end
structure ScnV (X:World) (b:Nat) (x:ExD) (q:Option Addr) (c:Nat) (f l s:RelD):Prop where
 h:X.heap[b]?=some (.cells (exC x q c++(relC f++(relC l++relC s))).toArray 142 (0,0))
 v:ExV X x q
 wf:WrdR f.to
 wl:WrdR l.to
 ws:WrdR s.to
section
variable {w:World} {b c:Nat} {x:ExD} {q:Option Addr} {f l s:RelD}
theorem ScnV.below {X Y:World} (h:ScnV X b x q c f l s) (hb:Bw X Y):ScnV Y b x q c f l s:=⟨zaa hb h.h,h.v.below hb,h.wf,h.wl,h.ws⟩
theorem ScnV.cells {X:World} (h:ScnV X b x q c f l s):zax X ⟨b,0,none⟩ (exC x q c):=by
 have:=zaC (n:=0) (m:=333) (zab h.h);have e:((exC x q c++(relC f++(relC l++relC s))).toArray.toList.drop 0).take 333=exC x q c:=by
  show (exC x q c++_).take 333=_;rw [List.take_append_of_le_length (by rw [zat];decide),List.take_of_length_le (by rw [zat];decide)]
 rw [e] at this;exact this
theorem ScnV.at {X:World} {o:Nat} {r:RelD} (h:ScnV X b x q c f l s) (hr:∃ A T,A.length=o/\exC x q c++(relC f++(relC l++relC s))=A++(relC r++T)):∀ i,i<48->X.cell? ⟨b,o+1+i*1,none⟩=some (s64 (r.to i)):=by
 intro i hi;obtain⟨A,T,hA,hE⟩:=hr;have:(exC x q c++(relC f++(relC l++relC s)))[o+1+i*1]?=some (s64 (r.to i)):=by
  rw [hE,Nat.mul_one,Nat.add_assoc,zbm hA,List.getElem?_append_left (by rw [zad];omega),zgk r hi]
 have h2:=zac (zab h.h) this;rw [Nat.zero_add] at h2;exact h2
theorem ScnV.full {X:World} (h:ScnV X b x q c f l s):∀ i,i<48->X.cell? ⟨b,0+333+1+i*1,none⟩=some (s64 (f.to i)):=h.at ⟨exC x q c,relC l++relC s,zat _ _ _,rfl⟩
theorem ScnV.loads {X:World} (h:ScnV X b x q c f l s):∀ i,i<48->X.cell? ⟨b,0+382+1+i*1,none⟩=some (s64 (l.to i)):=h.at ⟨exC x q c++relC f,relC s,by rw [lap,zat,zad],by rw [List.append_assoc]⟩
theorem ScnV.stores {X:World} (h:ScnV X b x q c f l s):∀ i,i<48->X.cell? ⟨b,0+431+1+i*1,none⟩=some (s64 (s.to i)):=h.at ⟨exC x q c++(relC f++relC l),[],by rw [lap,lap,zat,zad,zad],by simp only [List.append_assoc,List.append_nil]⟩
theorem zgm {a:Nat} (h:ScnV w b x q c f l s) (ha:a<x.ev.length):Calls Tryz.prog 134 #[At0 b,i64 (a:Nat)] w fun e w'=>e = .returned (.bool (isR x a))/\w=w':=by
 refine cofE 15 [At0 b,i64 (a:Nat)] Tryz.func134 ?_;obtain⟨bq,oq,hqe,hb,hat⟩:=zd8 h.v.ev ha;have fx:=h.cells;subst hqe;refine⟨_,zaz fx,?_⟩;refine⟨a,rfl,ha,?_⟩;refine⟨u8 (evA x a).k,by have:=zac hat (i:=1) (v:=u8 (evA x a).k) rfl;exact this,?_⟩;exact⟨rb (decide_eq_decide.2 (zbj (x:=(evA x a).k) (y:=1))),rfl⟩
theorem zbD {a:Nat} (h:ScnV w b x q c f l s) (ha:a<x.ev.length):Calls Tryz.prog 135 #[At0 b,i64 (a:Nat)] w fun e w'=>e = .returned (.bool (isW x a))/\w=w':=by
 refine cofE 15 [At0 b,i64 (a:Nat)] Tryz.func135 ?_;obtain⟨bq,oq,hqe,hb,hat⟩:=zd8 h.v.ev ha;have fx:=h.cells;subst hqe;refine⟨_,zaz fx,?_⟩;refine⟨a,rfl,ha,?_⟩;refine⟨u8 (evA x a).k,by have:=zac hat (i:=1) (v:=u8 (evA x a).k) rfl;exact this,?_⟩;exact⟨rb (decide_eq_decide.2 (zbj (x:=(evA x a).k) (y:=2))),rfl⟩
theorem zeO {a:Nat} {md:UInt8} (h:ScnV w b x q c f l s) (ha:a<x.ev.length):Calls Tryz.prog 139 #[At0 b,i64 (a:Nat),u8 md] w fun e w'=>e = .returned (.bool (zaG x a md))/\w=w':=by
 refine cofE 30 [At0 b,i64 (a:Nat),u8 md] Tryz.func139 ?_;obtain⟨bq,oq,hqe,hb,hat⟩:=zd8 h.v.ev ha;have fx:=h.cells;subst hqe;refine⟨_,zaz fx,?_⟩;refine⟨a,rfl,ha,?_⟩;refine⟨u8 (evA x a).m,by have:=zac hat (i:=4) (v:=u8 (evA x a).m) rfl;exact this,?_⟩;refine biE (fun h1=>?_) fun h1=>?_
 ·have h1:(evA x a).m=md:=zbj.1 (dT h1);exact⟨rb (by unfold zaG;rw [decide_eq_true h1];rfl),rfl⟩
 ·have h1:¬ (evA x a).m=md:=fun e=>(dF h1) (by rw [e]);refine⟨_,zaz fx,?_⟩;refine⟨a,rfl,ha,?_⟩;refine⟨u8 (evA x a).m,by have:=zac hat (i:=4) (v:=u8 (evA x a).m) rfl;exact this,?_⟩;exact⟨rb (by unfold zaG;rw [decide_eq_false h1,Bool.false_or];exact decide_eq_decide.2 (zbj (x:=(evA x a).m) (y:=3))),rfl⟩
theorem znY {a d:Nat} (h:ScnV w b x q c f l s) (ha:a<x.ev.length) (hd:d<x.ev.length):Calls Tryz.prog 136 #[At0 b,i64 (a:Nat),i64 (d:Nat)] w fun e w'=>e = .returned (.bool (zcp x f a d))/\w=w':=by
 refine cofE 23 [At0 b,i64 (a:Nat),i64 (d:Nat)] Tryz.func136 ?_;have hn:=h.v.n;refine cmo (zaD h.full h.wf (by omega) (by omega)) ?_;rintro e _ ⟨rfl,rfl⟩;refine biE (fun h1=>?_) fun h1=>?_
 ·have h1:hasM f a d=true:=h1;refine brT ?_;exact⟨rb (by unfold zcp;rw [h1];rfl),rfl⟩
 have h1:hasM f a d=false:=h1;refine cmo (zeO (md:=3) h ha) ?_;rintro e _ ⟨rfl,rfl⟩;refine biE (fun h2=>?_) fun h2=>?_
 ·have h2:zaG x a 3=true:=h2;exact⟨rb (by unfold zcp;rw [h1,h2];rfl),rfl⟩
 have h2:zaG x a 3=false:=h2;refine cmo (zeO (md:=3) h hd) ?_;rintro e _ ⟨rfl,rfl⟩;exact⟨rb (by unfold zcp;rw [h1,h2];rfl),rfl⟩
end
abbrev orG (l:List Nat):Nat:=l.foldl (fun s i=>s|||2^i) 0
theorem zoI (l:List Nat) (i:Nat):orG (l++[i])=orG l|||2^i:=by
 unfold orG;rw [List.foldl_append];rfl
theorem zmZ:∀ (l:List Nat) (s:Nat),s<2^64->(∀ i∈l,i<64)->l.foldl (fun s i=>s|||2^i) s<2^64
 | [],s,h,_=>h
 | i::l,s,h,hl=>zmZ l (s|||2^i) (Nat.or_lt_two_pow h (zaI (hl i List.mem_cons_self))) fun j hj=>hl j (List.mem_cons_of_mem _ hj)
theorem zpw {l:List Nat} (hl:∀ i∈l,i<64):orG l<2^64:=zmZ l 0 (by decide) hl
section
variable {w:World}
theorem Of_c {p:Option Addr} {cp:Nat} {l:List Nat} (hl:SlR natE w p l) (h64:∀ i∈l,i<64) (hn:l.length<=1000):Calls Tryz.prog 103 #[.slice p l.length cp] w fun e w'=>e = .returned (.tuple #[s64 (orG l),i64 0])/\w=w':=by
 refine cofE 25 [.slice p l.length cp] Tryz.func103 ?_;refine⟨Nat,fun k=>⟨[(4,s64 (orG (l.take k))),(7,.slice p l.length cp),(8,i64 l.length),(9,i64 (k:Nat))],[]⟩,fun k X=>k<=l.length/\w=X,fun k=>l.length-k,0,(cvE rfl rfl),⟨Nat.zero_le _,rfl⟩,?_⟩;rintro k _ ⟨hk,rfl⟩;dsimp only;refine biE (fun hc=>?_) fun hc=>?_
 ·have hc:(k:Int)<(l.length:Int):=dT hc;have hkl:k<l.length:=by omega
  obtain⟨b,o,rfl,hb,hat⟩:=hl.at hkl;obtain⟨t,ht⟩:∃ t,l[k]=t:=⟨_,rfl⟩;have ht64:=h64 t (by rw [<- ht];exact gM hkl);have htk:orG (l.take (k+1))=orG (l.take k)|||2^t:=by rw [tsg hkl,ht,zoI]
  refine⟨k,rfl,hkl,?_⟩;refine⟨i64 t,by have:=zac (hat k hkl) (i:=0) (v:=i64 t) (by rw [ht];rfl);exact this,?_⟩;refine biE (fun h=>?_) fun _=>?_
  ·have h:(t:Int)<0:=dT h;omega
  refine biE (fun h=>?_) fun _=>?_
  ·have h:(64:Int)<=(t:Nat):=dT h;omega
  refine⟨by omega,_,zbE (e:=t) (by omega),?_⟩;refine⟨_,zcH (zpw fun i hi=>h64 i (List.mem_of_mem_take hi)) (zaI ht64),?_⟩;refine nxI (by omega) ?_;exact⟨k+1,⟨.cons (by show _=some (s64 (orG (l.take (k+1))));rw [htk];rfl) (.cons rfl (.cons rfl (.cons rfl .nil))),rfl⟩,⟨hkl,rfl⟩,zdc (by omega)⟩
 ·have hc:¬ (k:Int)<(l.length:Int):=dF hc;obtain rfl:k=l.length:=by omega
  rw [List.take_length];exact⟨rfl,rfl⟩
end
section
variable {b c:Nat} {x:ExD} {q:Option Addr} {w:World}
theorem zaw {X:World} (fx:ExH X b x q c) {i:Nat} (hi:i<6) {o:Nat} (ho:o=1+49*i):zax X ⟨b,0+o,none⟩ (relC ((zc6 x).getD i x.po)):=by
 rw [ho];exact zgj fx hi
theorem zpF (hv:ExV w x q) (hT:Tz64M w):WrdR (za3 x.rf).to/\WrdR (frM x).to:=by
 have h1:WrdR (za3 x.rf).to:=by
  unfold za3
  split
  ·rename_i h;intro i hi;refine Nat.lt_of_not_le fun hge=>?_;obtain⟨j,hj1,hj2⟩:=Nat.exists_ge_and_testBit_of_ge_two_pow hge;rw [show ((⟨x.rf.n,zdq x.rf.to x.rf.n.toNat⟩:RelD).to i)=zdq x.rf.to x.rf.n.toNat i from rfl,zg1,bAT,dE] at hj2;have h48:=(zaQ h).2.1;omega
  ·exact fun i _=>(by show 0<2^64;decide)
 exact⟨h1,zeN h1 hv.co⟩
theorem fr_c (fx:ExH w b x q c) (hv:ExV w x q) (hT:Tz64M w):CB 60 #[At0 b] w (.agg (relC (frM x)).toArray):=by
 refine cofM 19 [At0 b] (.c .p (.c .p .p)) Tryz.func60 ?_;obtain⟨L,hL⟩:=nm (w.heap.size);obtain⟨wb,wf⟩:=zpF hv hT;refine⟨Unit,fun _=>⟨[(0,At0 b),(2,At0 L)],[]⟩,fun _ X=>RelH X L zam/\Bw w X,⟨(),⟨.cons rfl (.cons (by rw [hL];rfl) .nil),rfl⟩,by rw [hL];exact hnew w _,(zba w _)⟩,?_⟩;rintro _ X ⟨f0,hbX⟩;refine⟨Nat,fun F=>⟨[(2,At0 L),(3,At0 F)],[]⟩,fun F Z=>RelH Z F (frM x)/\RelH Z L zam/\Bw w Z,?_,?_⟩
 ·have dX:Bw X X.drew:=(Below.refl _ _).drew;have fX:=hdr (zaa hbX fx);have hba:∀ (A:World) (o:Obj),Bw A (A.alloc o):=fun A o=>(zba _ _);have put:∀ (W:World) (b3:Nat),Bw X W->RelH W b3 zam->X.heap.size<=b3->∀ {K:World->Prop},(∀ V,(RelH V b3 (frM x)/\RelH V L zam/\Bw w V)->K V) ->
    SatR ((storeVar 27 ⟨b3,0,none⟩ (.agg (relC (frM x)).toArray)).run Tryz.prog W) fun _ w'=>K w':=by
   intro W b3 hW f3 g3 K k;refine zaq (v := .agg (relC (frM x)).toArray) k27 f3 (zad _) (zad _) (zas _) ?_;have hL2:=hlt f0;exact k _ ⟨zal f3,(zan (by omega)).trans (zaa hW f0),zah ((zst hbX hW)) (by have:=hbX.size;omega) _⟩
  refine DrawE.treeQ [14] (.op 0 (.op 1 (.op 2 (.op 3 (.op 5 (.op 6 (.op 7 (.op 8 (.alt (.op 13 (.op 4 (.op 9 (.op 10 (.op 11 (.op 12 (.op 14 (.op 15 (.nil))))))))) (.op 4 (.alt (.op 13 (.op 9 (.op 10 (.op 11 (.op 12 (.op 14 (.op 15 (.nil)))))))) (.op 9 (.op 10 (.op 11 (.op 12 (.op 13 (.op 14 (.op 15 (.nil))))))))))))))))))) (by kernel_rfl) ?_;refine⟨relC x.rf,zad _,zaw fX (i:=1) (by decide) rfl,hlt fX,?_⟩;refine⟨relC x.co,zad _,zaw fX (i:=2) (by decide) rfl,hlt fX,?_⟩;refine And.intro ?_ ?_
  ·refine⟨hba _ _,?_⟩;have b1:=dX.alloc (Nat.le_refl _) (.cells (relC zam).toArray 27);refine cmo (zji hv.rf (hT.below ((zst hbX b1)))) ?_;rintro e Y ⟨rfl,hbY,_⟩;refine⟨hbY,?_⟩;have b2:=zst b1 hbY;refine cmo (zey wb hv.co (hT.below ((zst hbX b2)))) ?_;rintro e Z ⟨rfl,hbZ⟩;refine⟨hbZ,?_⟩;refine put Z X.heap.size ((zst b2 hbZ)) (zaa hbZ (zaa hbY (hnew X.drew _))) (Nat.le_refl _) ?_;exact fun V hV=>⟨X.heap.size,(cvE rfl rfl),hV⟩
  refine cmo (zji hv.rf (hT.below ((zst hbX dX)))) ?_;rintro e Y ⟨rfl,hbY,_⟩;refine⟨hbY,?_⟩;have b1:=zst dX hbY;refine And.intro ?_ ?_
  ·refine⟨hba _ _,?_⟩;have b2:=b1.alloc b1.size (.cells (relC zam).toArray 27);refine cmo (zey wb hv.co (hT.below ((zst hbX b2)))) ?_;rintro e Z ⟨rfl,hbZ⟩;refine⟨hbZ,?_⟩;refine put Z Y.heap.size ((zst b2 hbZ)) (zaa hbZ (hnew Y _)) b1.size ?_;exact fun V hV=>⟨Y.heap.size,(cvE rfl rfl),hV⟩
  ·refine cmo (zey wb hv.co (hT.below ((zst hbX b1)))) ?_;rintro e Z ⟨rfl,hbZ⟩;refine⟨hbZ,?_⟩;have b2:=zst b1 hbZ;refine⟨hba _ _,?_⟩;refine put _ Z.heap.size (b2.alloc b2.size _) (hnew Z _) b2.size ?_;exact fun V hV=>⟨Z.heap.size,(cvE rfl rfl),hV⟩
 rintro F Z ⟨f1,f0,hbZ⟩;refine⟨relC (frM x),zad _,zab f1,hlt f1,?_⟩;refine zaq (v := .agg (relC (frM x)).toArray) k27 f0 (zad _) (zad _) (zas _) ?_;exact⟨relC (frM x),zad _,zab (zal f0),rfl,zah hbZ (by omega) _⟩
end
structure RelOk (n:Nat) (r:RelD):Prop where
 n:r.n=n
 ok:okR r=true
 w:WrdR r.to
section
variable {n:Nat} {r a b:RelD}
theorem RelOk.le (h:RelOk n r):n<=48:=by
 have:=(zaQ h.ok).2.1;have:=h.n;omega
theorem RelOk.bit (h:RelOk n r) {i j:Nat} (hi:i<48) (hb:hasM r i j=true):i<n/\j<n:=by
 have:=zhN h.ok h.w hi hb;have:=h.n;omega
theorem zpx (hn:r.n=n) (h48:n<=48) (h:∀ i j,i<48->hasM r i j=true->i<n/\j<n):okR r=true:=by
 unfold okR;rw [bAT,bAT,dE,dE,List.all_eq_true];refine⟨by omega,by omega,fun i hi=>?_⟩;have hi:=List.mem_range.1 hi;unfold zeC;rw [bAT,Bool.or_eq_true,dE,dE,dE];refine⟨?_,?_⟩
 ·rw [zf0,zfF];apply Nat.eq_of_testBit_eq;intro j;rw [Nat.zero_testBit];by_cases hj:j<64
  ·rw [zdx (zc9 _) hj,zgb (by omega) (by omega) hj]
   cases hb:(r.to i).testBit j with
   | false=>rfl
   | true =>
    have:=(h i j hi hb).2;rw [decide_eq_true (by omega)];rfl
  ·have:=Nat.testBit_lt_two_pow (nL (Nat.lt_of_le_of_lt (show zb6 (r.to i) (allN r.n)<=_ from Nat.and_le_right) (show 18446744073709551615-allN r.n<2^64 by omega)) (Nat.pow_le_pow_right (show 0<2 by decide) (show 64<=j by omega)));exact this
 ·by_cases hin:i<n
  ·exact .inl (by omega)
  ·refine .inr (Nat.eq_of_testBit_eq fun j=>?_);rw [Nat.zero_testBit]
   cases hb:(r.to i).testBit j with
   | false=>rfl
   | true=>exact absurd (h i j hi hb).1 hin
theorem RelOk.of (hn:r.n=n) (h48:n<=48) (h:∀ i j,i<48->hasM r i j=true->i<n/\j<n) (hw:WrdR r.to):RelOk n r:=⟨hn,zpx hn h48 h,hw⟩
theorem zdm (p:Nat->Bool):∀ k j,(rowP k p).testBit j=(decide (j<k)&&p j)
 | 0,j=>by
  show (0:Nat).testBit j=_;simp
 | k+1,j=>by
  rw [zdt]
  split
  ·rename_i h;rw [Nat.testBit_or,zdm p k j,zbR];by_cases e:j=k
   ·subst e;simp [h]
   ·rw [decide_eq_false e,Bool.or_false];congr 1;exact decide_eq_decide.2 (by omega)
  ·rename_i h;rw [zdm p k j];by_cases e:j=k
   ·subst e;have:p j=false:=(by simpa using h);rw [this,Bool.and_false,Bool.and_false]
   ·congr 1;exact decide_eq_decide.2 (by omega)
theorem zdC {f:Nat->Nat} {i j:Nat}:hasM (zbx n f) i j=(decide (i<n)&&(f i).testBit j):=by
 unfold hasM zbx;dsimp only
 split
 ·rename_i h;rw [decide_eq_true h];rfl
 ·rename_i h;rw [decide_eq_false h,Nat.zero_testBit];rfl
theorem zcf {p:Nat->Nat->Bool} {i j:Nat}:hasM (zaP n p) i j=(decide (i<n)&&(decide (j<n)&&p i j)):=by
 unfold zaP;rw [zdC,zdm]
theorem RelOk.pick (h:n<=48) (p:Nat->Nat->Bool):RelOk n (zaP n p):=by
 refine .of rfl h (fun i j _ hb=>?_) (zce (by omega));rw [zcf] at hb;simp only [bAT,dE] at hb;exact⟨hb.1,hb.2.1⟩
theorem zfB {f:Nat->Nat} (ha:RelOk n a) (hb:RelOk n b):comb a b f=(zbx n f,0):=by
 unfold comb;have e:a.n.toNat=n:=by have:=ha.n;omega
 rw [decide_eq_true (ha.n.trans hb.n.symm),ha.ok,hb.ok,if_pos (show (true&&(true&&true))=true from rfl),e]
theorem RelOk.comb {f:Nat->Nat} (ha:RelOk n a) (hb:RelOk n b) (hf:∀ i j,i<n->(f i).testBit j=true->j<n):RelOk n (comb a b f).1:=by
 rw [zfB ha hb];have h48:=ha.le;have hbit:∀ i j,hasM (zbx n f) i j=true->i<n/\j<n:=fun i j h=>by
  rw [zdC,bAT,dE] at h;exact⟨h.1,hf i j h.1 h.2⟩
 refine .of rfl h48 (fun i j _ h=>hbit i j h) fun i hi=>?_;apply Nat.lt_of_not_le;intro hge;obtain⟨j,hj1,hj2⟩:=Nat.exists_ge_and_testBit_of_ge_two_pow hge;have:=(hbit i j hj2).2;omega
theorem zeM (ha:RelOk n a) (hb:RelOk n b) {i j:Nat} (hi:i<n):hasM (za8 a b).1 i j=(hasM a i j||hasM b i j):=by
 unfold za8;rw [zfB ha hb];show hasM (zbx n _) i j=_;rw [zdC,decide_eq_true hi,Nat.testBit_or];rfl
theorem RelOk.union (ha:RelOk n a) (hb:RelOk n b):RelOk n (za8 a b).1:=ha.comb hb fun i j hi h=>by
 rw [Nat.testBit_or,Bool.or_eq_true] at h;have h48:=ha.le;rcases h with h | h
 ·exact (ha.bit (by omega) h).2
 ·exact (hb.bit (by omega) h).2
theorem zie (ha:RelOk n a) (hb:RelOk n b) {i j:Nat} (hi:i<n):hasM (zbH a b).1 i j=(hasM a i j&&hasM b i j):=by
 unfold zbH;rw [zfB ha hb];show hasM (zbx n _) i j=_;rw [zdC,decide_eq_true hi,Nat.testBit_and];rfl
theorem RelOk.both (ha:RelOk n a) (hb:RelOk n b):RelOk n (zbH a b).1:=ha.comb hb fun i j hi h=>by
 rw [Nat.testBit_and,bAT] at h;have h48:=ha.le;exact (ha.bit (by omega) h.1).2
theorem zc8 (ha:RelOk n a) {i j:Nat} (hi:i<64):hasM (za3 a) i j=(decide (j<n)&&hasM a j i):=by
 unfold hasM;rw [zk2 ha.ok];have e1:decide ((j:Int)<a.n)=decide (j<n):=decide_eq_decide.2 (by have:=ha.n;omega);have e2:decide (i∈els (a.to j))=(a.to j).testBit i:=by
  cases h:(a.to j).testBit i with
  | true=>exact decide_eq_true (zbT.2 ⟨hi,h⟩)
  | false=>exact decide_eq_false fun hm=>by rw [(zbT.1 hm).2] at h;cases h
 rw [e1,e2]
theorem RelOk.back (ha:RelOk n a):RelOk n (za3 a):=by
 have h48:=ha.le;have hbit:∀ i j,i<48->hasM (za3 a) i j=true->i<n/\j<n:=fun i j hi h=>by
  rw [zc8 ha (by omega),bAT,dE] at h;exact⟨(ha.bit (by omega) h.2).2,h.1⟩
 refine .of ?_ h48 hbit fun i hi=>?_
 ·unfold za3;rw [if_pos ha.ok];exact ha.n
 ·apply Nat.lt_of_not_le;intro hge;obtain⟨j,hj1,hj2⟩:=Nat.exists_ge_and_testBit_of_ge_two_pow hge;have:=(hbit i j hi hj2).2;omega
theorem zgJ {to:Nat->Nat} {j:Nat}:∀ (l:List Nat) (t:Nat),(l.foldl (fun t a=>t|||to a) t).testBit j=(t.testBit j||l.any fun a=>(to a).testBit j)
 | [],t=>by simp
 | a::l,t=>by rw [List.foldl_cons,zgJ l,Nat.testBit_or,List.any_cons,Bool.or_assoc]
theorem zef (ha:RelOk n a) (hb:RelOk n b) {i j:Nat} (hi:i<n):hasM (zbV a b).1 i j=true↔∃ k,k<n/\hasM a i k=true/\hasM b k j=true:=by
 unfold zbV;rw [zfB ha hb];show hasM (zbx n _) i j=true↔_;have h48:=ha.le;rw [zdC,decide_eq_true hi,Bool.true_and];unfold zfI;rw [zgJ,Nat.zero_testBit,Bool.false_or,List.any_eq_true];constructor
 ·rintro⟨k,hk,h⟩;exact⟨k,(ha.bit (by omega) (zbT.1 hk).2).2,(zbT.1 hk).2,h⟩
 ·rintro⟨k,hk,h1,h2⟩;exact⟨k,zbT.2 ⟨by omega,h1⟩,h2⟩
theorem RelOk.then (ha:RelOk n a) (hb:RelOk n b):RelOk n (zbV a b).1:=ha.comb hb fun i j hi h=>by
 have h48:=ha.le;unfold zfI at h;rw [zgJ,Nat.zero_testBit,Bool.false_or,List.any_eq_true] at h;obtain⟨k,hk,h⟩:=h;have:=(ha.bit (by omega) (zbT.1 hk).2).2;exact (hb.bit (by omega) h).2
theorem zi4 {to:Nat->Nat}:∀ (l:List Nat) (s:Nat),l.foldl (fun s a=>if to a=0 then s else s|||2^a) s=0↔s=0/\∀ i∈l,to i=0
 | [],s=>by simp
 | a::l,s=>by
  rw [List.foldl_cons,zi4 l];by_cases h:to a=0
  ·rw [if_pos h];simp [h]
  ·rw [if_neg h];have:s|||2^a≠0:=fun e=>by
    have h2:=congrArg (fun s=>s.testBit a) e;simp only [Nat.testBit_or,zbR,Nat.zero_testBit,decide_true,Bool.or_true] at h2
    cases h2
   simp [h,this]
theorem znB (ha:RelOk n a):zdz a=true↔∀ i j,i<n->j<n->hasM a i j=false:=by
 have h48:=ha.le;have e:a.n.toNat=n:=by have:=ha.n;omega
 unfold zdz zlJ;rw [ha.ok,Bool.true_and,dE,if_pos rfl,e,zi4];constructor
 ·rintro⟨_,h⟩ i j hi _;unfold hasM;rw [h i (List.mem_range.2 hi),Nat.zero_testBit]
 ·intro h;refine⟨rfl,fun i hi=>Nat.eq_of_testBit_eq fun j=>?_⟩;have hi:=List.mem_range.1 hi;rw [Nat.zero_testBit]
  cases hb:(a.to i).testBit j with
  | false=>rfl
  | true =>
   have:=h i j hi (ha.bit (by omega) hb).2;unfold hasM at this;rw [hb] at this;cases this
def zpS (before:Nat->Nat) (left:Nat):Prop:=∀ S,S≠0->S&&&left=S->∃ i∈els S,before i&&&S=0
theorem zmj {before:Nat->Nat}:∀ (m left:Nat) (l:List Nat),left<2^64->(els left).length<=m->((topR before m left l).isSome=true↔zpS before left)
 | 0,left,l,h64,hm=>by
  have h0:left=0:=zgR h64 (by rw [List.isEmpty_iff];exact List.length_eq_zero_iff.1 (by omega));subst h0;exact⟨fun _ S hS he=>absurd he.symm (by rw [Nat.and_zero];exact hS),fun _=>rfl⟩
 | m+1,left,l,h64,hm=>by
  by_cases h0:left=0
  ·subst h0;have e:topR before (m+1) 0 l=some l:=if_pos rfl;rw [e];exact⟨fun _ S hS he=>absurd he.symm (by rw [Nat.and_zero];exact hS),fun _=>rfl⟩
  have e:topR before (m+1) left l=match ze9 before left with | none=>none | some a=>topR before m (zcK left (2^a)) (l++[a]):=if_neg h0
  rw [e]
  cases hf:ze9 before left with
  | none =>
   refine⟨fun h=>(by cases h),fun h=>?_⟩;obtain⟨i,hi,hb⟩:=h left h0 (Nat.and_self _);unfold ze9 at hf;rw [List.find?_eq_none] at hf;exact absurd (decide_eq_true hb) (hf i hi)
  | some k =>
   have hk:=zkL hf;have hk2:before k&&&left=0:=by
    unfold ze9 at hf;have:=List.find?_some hf;exact dT this
   have hk64:=znD hk;have hlen:=zdi h64 hk;have hsub:∀ S,S&&&zb6 left (2^k)=S->S&&&left=S:=fun S h=>by
    rw [<- h];unfold zb6;apply Nat.eq_of_testBit_eq;intro j;simp only [Nat.testBit_and]
    cases S.testBit j <;> cases left.testBit j <;> simp
   dsimp only;rw [zf0,zmj m (zb6 left (2^k)) (l++[k]) (zfZ h64) (by omega)];constructor
   ·intro h S hS he;by_cases hm2:k∈els S
    ·refine⟨k,hm2,?_⟩;rw [<- he,Nat.and_comm S left,<- Nat.and_assoc,hk2,Nat.zero_and]
    ·refine h S hS (Nat.eq_of_testBit_eq fun j=>?_);rw [Nat.testBit_and]
     cases hb:S.testBit j with
     | false=>rfl
     | true =>
      have hl:left.testBit j=true:=by
       have h2:=hb;rw [<- he,Nat.testBit_and,bAT] at h2;exact h2.2
      have hj:j<64:=by
       apply Nat.lt_of_not_le;intro hj;have:=Nat.testBit_lt_two_pow (nL h64 (Nat.pow_le_pow_right (by decide) hj));rw [this] at hl;cases hl
      have hjk:¬ j=k:=fun e=>hm2 (zbT.2 ⟨hk64,by rw [<- e];exact hb⟩);rw [zdx (zaI hk64) hj,hl,zbR,decide_eq_false hjk];rfl
   ·exact fun h S hS he=>h S hS (hsub S he)
theorem zj2 (ha:RelOk n a):acyR a=true↔zpS (za3 a).to (allN n):=by
 have h48:=ha.le;unfold acyR topF;rw [if_pos ha.ok,zfF,ha.n];refine zmj 64 _ _ (zc9 _) ?_;unfold els;have:=List.length_filter_le (fun i=>(allN n).testBit i) (List.range 64);rw [List.length_range] at this;exact this
theorem zk8 (ha:RelOk n a) (hb:RelOk n b) (hs:∀ i j,i<n->j<n->hasM b i j=true->hasM a i j=true) (h:acyR a=true):acyR b=true:=by
 have h48:=ha.le;rw [zj2 ha] at h;rw [zj2 hb];intro S hS he;obtain⟨i,hi,h0⟩:=h S hS he;refine⟨i,hi,Nat.eq_of_testBit_eq fun j=>?_⟩;have h1:=congrArg (fun s=>s.testBit j) h0;simp only [Nat.testBit_and,Nat.zero_testBit] at h1 ⊢
 cases hj:S.testBit j with
 | false=>rw [Bool.and_false]
 | true =>
  rw [hj,Bool.and_true] at h1;rw [Bool.and_true];have hi64:=znD hi;have e1:=zc8 ha (i:=i) (j:=j) hi64;have e2:=zc8 hb (i:=i) (j:=j) hi64;unfold hasM at e1 e2 hs;rw [e1] at h1;rw [e2];by_cases hjn:j<n
  ·rw [decide_eq_true hjn,Bool.true_and] at h1 ⊢
   cases hbj:(b.to j).testBit i with
   | false=>rfl
   | true =>
    have hin:=(hb.bit (i:=j) (j:=i) (by omega) hbj).2;rw [hs j i hjn hin hbj] at h1;cases h1
  ·rw [decide_eq_false hjn];rfl
end
structure WX (x:ExD):Prop where
 po:WrdR x.po.to
 rf:WrdR x.rf.to
 co:WrdR x.co.to
 dt:WrdR x.dt.to
 ct:WrdR x.ct.to
 rm:WrdR x.rm.to
structure XOk (x:ExD):Prop where
 n:x.ev.length<=48
 po:RelOk x.ev.length x.po
 rf:RelOk x.ev.length x.rf
 co:RelOk x.ev.length x.co
 dt:RelOk x.ev.length x.dt
 ct:RelOk x.ev.length x.ct
 rm:RelOk x.ev.length x.rm
 ev:zbB x.ev (zaJ x.ev)=true
 poE:zcv x.po (poR x.ev)=true
 rfR:zc5 x=true
 coR:zcO x (zaJ x.ev)=true
 dep:zcF x=true
section
variable {x:ExD}
theorem zrK (hw:WX x) (h:za5 x=true):XOk x:=by
 unfold za5 za9 at h;simp only [List.all_cons,List.all_nil,Bool.and_true,bAT,dE] at h;obtain⟨h1,_,_,h4,⟨h5,h6,h7,h8,h9,h10⟩,h11,h12,h13,h14⟩:=h;exact⟨h1,⟨h5.1,h5.2,hw.po⟩,⟨h6.1,h6.2,hw.rf⟩,⟨h7.1,h7.2,hw.co⟩,⟨h8.1,h8.2,hw.dt⟩,⟨h9.1,h9.2,hw.ct⟩,⟨h10.1,h10.2,hw.rm⟩,h4,h11,h12,h13,h14⟩
theorem zpG (h:XOk x):RelOk x.ev.length (frM x):=h.rf.back.then h.co
theorem zhd {n:Nat}:∀ {l:List RelD} {r:RelD},RelOk n r->(∀ o∈l,RelOk n o)->RelOk n (zaY r l)
 | [],_,h,_=>h
 | o::l,r,h,hl=>zhd (l:=l) (r:=(za8 r o).1) (h.union (hl o List.mem_cons_self)) fun y hy=>hl y (List.mem_cons_of_mem _ hy)
theorem zhe {n i j:Nat} (hi:i<n):∀ {l:List RelD} {r:RelD},RelOk n r->(∀ o∈l,RelOk n o)->hasM (zaY r l) i j=(hasM r i j||l.any fun o=>hasM o i j)
 | [],_,_,_=>by rw [List.any_nil,Bool.or_false];rfl
 | o::l,r,h,hl=>by
  have ho:=hl o List.mem_cons_self;have:=zhe (j:=j) hi (l:=l) (r:=(za8 r o).1) (h.union ho) fun y hy=>hl y (List.mem_cons_of_mem _ hy);show hasM (zaY (za8 r o).1 l) i j=_;rw [this,zeM h ho hi,List.any_cons,Bool.or_assoc]
theorem znq (h:XOk x) {r:RelD} (hr:RelOk x.ev.length r):RelOk x.ev.length (extM x r):=by
 have e:r.n.toNat=x.ev.length:=by have:=hr.n;omega
 unfold extM;rw [e];exact .pick h.n _
theorem zql (h:XOk x) {m:Nat}:RelOk x.ev.length (if m=2 then x.rf else extM x x.rf):=by
 split
 ·exact h.rf
 ·exact znq h h.rf
theorem zkF (h:XOk x) {m:Nat}:RelOk x.ev.length (zdy m x) := .pick h.n _
end
section
variable {n:Nat} {a b:RelD} {x:ExD}
theorem zeS (ha:RelOk n a) (hb:RelOk n b) (h:∀ i j,i<n->j<n->hasM a i j=hasM b i j):zcv a b=true:=by
 have h48:=ha.le;unfold zcv;rw [bAT,dE,List.all_eq_true];refine⟨ha.n.trans hb.n.symm,fun i hi=>decide_eq_true (Nat.eq_of_testBit_eq fun j=>?_)⟩;have hi:=List.mem_range.1 hi;by_cases hij:i<n/\j<n
 ·exact h i j hij.1 hij.2
 ·have e1:hasM a i j=false:=by
   cases hc:hasM a i j with
   | false=>rfl
   | true=>exact (hij (ha.bit hi hc)).elim
  have e2:hasM b i j=false:=by
   cases hc:hasM b i j with
   | false=>rfl
   | true=>exact (hij (hb.bit hi hc)).elim
  exact e1.trans e2.symm
theorem zcd (h:zcv a b=true) {i j:Nat} (hi:i<48):hasM a i j=hasM b i j:=by
 unfold zcv at h;rw [bAT,List.all_eq_true] at h;have:=dT (h.2 i (List.mem_range.2 hi));unfold hasM;rw [this]
theorem zqS {r:RelD} (hr:RelOk x.ev.length r) {i j:Nat} (hi:i<x.ev.length) (hj:j<x.ev.length):hasM (extM x r) i j=(hasM r i j && !decide ((evA x i).th=(evA x j).th)):=by
 have e:r.n.toNat=x.ev.length:=by have:=hr.n;omega
 unfold extM;rw [e,zcf,decide_eq_true hi,decide_eq_true hj];rfl
theorem zn9 {t:Int}:∀ (es:List Ev) (j s k:Nat),(zjx t j es s).testBit k=true↔s.testBit k=true\/∃ m,m<es.length/\k=j+m/\(es.getD m ev0).th=t
 | [],j,s,k=>by
  show s.testBit k=true↔_;simp
 | e::es,j,s,k=>by
  show (zjx t (j+1) es (if e.th=t then s|||2^j else s)).testBit k=true↔_;rw [zn9 es];have hs:(if e.th=t then s|||2^j else s).testBit k=true↔s.testBit k=true\/(k=j/\e.th=t):=by
   split
   ·rename_i h;rw [Nat.testBit_or,zbR,Bool.or_eq_true,dE];simp [h]
   ·rename_i h;simp [h]
  rw [hs];constructor
  ·rintro ((h | ⟨h1,h2⟩) | ⟨m,h1,h2,h3⟩)
   ·exact .inl h
   ·exact .inr ⟨0,by simp,h1,h2⟩
   ·exact .inr ⟨m+1,by simpa using h1,by omega,by simpa using h3⟩
  ·rintro (h | ⟨m,h1,h2,h3⟩)
   ·exact .inl (.inl h)
   ·cases m with
    | zero=>exact .inl (.inr ⟨h2,h3⟩)
    | succ m=>exact .inr ⟨m,by simpa using h1,by omega,by simpa using h3⟩
theorem zni {s i j:Nat}:hasM (idR n s) i j=(decide (i<n)&&(s.testBit j&&decide (j=i))):=by
 unfold idR;rw [zdC,Nat.testBit_and,zbR]
theorem RelOk.id (h:n<=48) (s:Nat):RelOk n (idR n s):=by
 have hb:∀ i j,hasM (idR n s) i j=true->i<n/\j<n:=fun i j hb=>by
  rw [zni] at hb;simp only [bAT,dE] at hb;exact⟨hb.1,by omega⟩
 refine .of rfl h (fun i j _=>hb i j) fun i hi=>?_;apply Nat.lt_of_not_le;intro hge;obtain⟨j,hj1,hj2⟩:=Nat.exists_ge_and_testBit_of_ge_two_pow hge;have:=(hb i j hj2).2;omega
theorem zlL (h:XOk x) (md:UInt8):RelOk x.ev.length (zaB x md):=(h.po.then (.id h.n _)).then h.po
theorem zgH {key:Nat->Nat} {y:Nat}:∀ r:List Nat,(zbA key r y).Perm (y::r)
 | [] => .refl _
 | z::r=>by
  unfold zbA
  split
  ·exact ((zgH r).cons z).trans (.swap y z r)
  ·exact .refl _
theorem zi0 {key:Nat->Nat}:∀ (l acc:List Nat),(l++acc).Nodup->(l.foldl (fun acc x=>zbA key acc x) acc).Nodup
 | [],acc,h=>h
 | y::l,acc,h=>zi0 l _ (by
   have p:(l++zbA key acc y).Perm (y::l++acc):=((zgH acc).append_left l).trans List.perm_middle;exact p.nodup_iff.2 h)
theorem zlv (l:Nat):(zaL x l).Nodup:=by
 unfold zaL zgh;refine (List.reverse_perm _).nodup_iff.2 (zi0 _ _ ?_);rw [List.append_nil];exact List.nodup_range.filter _
theorem zqB (h:XOk x):RelOk x.ev.length (locM x) := .pick h.n _
end
theorem zmJ {X:World} {L:Nat} {r:RelD} (h:RelH X L r):∀ i,i<48->X.cell? ⟨L,0+1+i*1,none⟩=some (s64 (r.to i)):=by
 have hR:RelAt X L 0 27 [] [] r:=⟨rfl,by simpa using h⟩;exact fun i hi=>hR.cell hi
section
variable {b c:Nat} {x:ExD} {q:Option Addr} {w:World}
theorem zsi {r:RelD} {a d R B:Nat} (fR:RelH w R r) (hr:WrdR r.to) (fB:w.heap[B]?=some (.cells #[At0 b] 79 (0,0))) (fx:ExH w b x q c) (hv:ExV w x q) (ha:a<x.ev.length) (hd:d<x.ev.length) :
  CB 102 #[i64 (a:Nat),i64 (d:Nat),At0 R,At0 B] w (.bool (hasM r a d && !decide ((evA x a).th=(evA x d).th))):=by
 refine cofE 29 [i64 (a:Nat),i64 (d:Nat),At0 R,At0 B] Tryz.func102 ?_;have hn:=hv.n;obtain⟨bq,oq,hqe,hb,hat⟩:=zd8 hv.ev ha;obtain⟨bq2,oq2,hqe2,hb2,hat2⟩:=zd8 hv.ev hd;rw [hqe] at hqe2;simp only [Option.some.injEq,Addr.mk.injEq,and_true] at hqe2;rw [<- hqe2.1,<- hqe2.2] at hat2;subst hqe;have dw:Bw w w.drew:=(Below.refl _ _).drew;refine DrawE.ord [] [0,1,2,3,4,5,6,7,8,9,10,11,12,13,14,15,16,17,18,19,20,21,22] (by kernel_rfl) ?_;refine cmo (zaD (zmJ (hdr fR)) hr (by omega) (by omega)) ?_;rintro e _ ⟨rfl,rfl⟩;refine⟨Below.refl _ _,?_⟩;refine biE (fun h1=>?_) fun h1=>?_
 ·have h1:hasM r a d=true:=h1;refine⟨At0 b,zac (zab (hdr fB)) (i:=0) rfl,?_⟩;refine⟨_,zaz (zab (hdr fx)),?_⟩;refine⟨a,rfl,ha,?_⟩;refine⟨i64 (evA x a).th,by have:=zac (zae dw hat) (i:=0) (v:=i64 (evA x a).th) rfl;exact this,?_⟩;refine⟨At0 b,zac (zab (hdr fB)) (i:=0) rfl,?_⟩;refine⟨_,zaz (zab (hdr fx)),?_⟩;refine⟨d,rfl,hd,?_⟩;refine⟨i64 (evA x d).th,by have:=zac (zae dw hat2) (i:=0) (v:=i64 (evA x d).th) rfl;exact this,?_⟩;exact⟨rb (by rw [h1,Bool.true_and]),dw⟩
 ·have h1:hasM r a d=false:=h1;exact⟨rb (by rw [h1,Bool.false_and]),dw⟩
theorem znW {a d B:Nat} (fB:w.heap[B]?=some (.cells #[At0 b] 79 (0,0))) (fx:ExH w b x q c) (hv:ExV w x q) (ha:a<x.ev.length) (hd:d<x.ev.length) :
  CB 94 #[i64 (a:Nat),i64 (d:Nat),At0 B] w (.bool (hasM x.po a d&&zdX x a d)):=by
 refine cofE 18 [i64 (a:Nat),i64 (d:Nat),At0 B] Tryz.func94 ?_;have hn:=hv.n;refine⟨At0 b,zac (zab fB) (i:=0) rfl,?_⟩;refine cmo (zaD (zhu (zab fx) (zpJ x q c)) hv.po (by omega) (by omega)) ?_;rintro e _ ⟨rfl,rfl⟩;refine biE (fun h1=>?_) fun h1=>?_
 ·have h1:hasM x.po a d=true:=h1;refine⟨At0 b,zac (zab fB) (i:=0) rfl,?_⟩;refine cmo (zpv (zab fx) hv.ev ha hd) ?_;rintro e X ⟨rfl,hb⟩;exact⟨rb (by rw [h1,Bool.true_and]),hb⟩
 ·have h1:hasM x.po a d=false:=h1;exact⟨rb (by rw [h1,Bool.false_and]),Below.refl _ _⟩
theorem zte {r:RelD} (fx:ExH w b x q c) (hv:ExV w x q) (hr:WrdR r.to) (hn:r.n=x.ev.length) :
  CB 65 #[At0 b,.agg (relC r).toArray] w (.agg (relC (extM x r)).toArray):=by
 refine cofM 9 [At0 b,.agg (relC r).toArray] (.c .p (.c .p .p)) Tryz.func65 ?_;obtain⟨L,hL⟩:=nm (w.heap.size);have h19:=hv.n;refine⟨Unit,fun _=>⟨[(2,At0 L),(3,At0 (L+1)),(4,At0 (L+2))],[]⟩,fun _ X=>X.heap[L]?=some (.cells #[At0 b] 79 (0,0))/\RelH X (L+1) r/\RelH X (L+2) zam/\Bw w X,?_,?_⟩
 ·have s1:=wz w (.cells #[At0 b] 79);have s2:=wz (w.alloc (.cells #[At0 b] 79)) (.cells (relC r).toArray 27);have b1:Bw w (w.alloc (.cells #[At0 b] 79)):=zba w _;have b2:=b1.alloc b1.size (.cells (relC r).toArray 27);have h1:=hnew w (.cells #[At0 b] 79);have h2:=hnew (w.alloc (.cells #[At0 b] 79)) (.cells (relC r).toArray 27);have h3:=hnew ((w.alloc (.cells #[At0 b] 79)).alloc (.cells (relC r).toArray 27)) (.cells (relC zam).toArray 27);rw [s1] at h2 s2;rw [s2] at h3;refine⟨(),⟨.cons (by rw [hL];rfl) (.cons (by rw [hL,<- s1];rfl) (.cons (by rw [hL,<- s2];rfl) .nil)),rfl⟩,by rw [hL];exact hold _ (hold _ h1),by rw [hL];exact hold _ h2,by rw [hL];exact h3,b2.alloc b2.size _⟩
 rintro _ X ⟨fB,fR,f0,hbX⟩;have fX:=zaa hbX fx;have hvX:=hv.below hbX;refine⟨Unit,fun _=>⟨[(4,At0 (L+2))],[]⟩,fun _ Y=>RelH Y (L+2) (extM x r)/\Bw w Y,?_,?_⟩
 ·refine⟨i64 r.n,by have:=zac (zab fR) (i:=0) (v:=i64 r.n) rfl;exact this,?_⟩;have en:extM x r=zaP x.ev.length fun a d=>hasM r a d && !decide ((evA x a).th=(evA x d).th):=by
   unfold extM;rw [hn];rfl
  rw [hn];refine cmo (zmT (n:=x.ev.length) (caps := #[At0 (L+1),At0 L]) (g:=102) (p:=fun a d=>hasM r a d && !decide ((evA x a).th=(evA x d).th)) (by omega) (by kernel_rfl) fun a d Z ha hd hb=>zsi (zaa hb fR) hr (zaa hb fB) (zaa hb fX) (hvX.below hb) ha hd) ?_;rintro e Y ⟨rfl,hbY⟩;rw [<- en];have f0:=zaa hbY f0;refine zaq (v := .agg (relC (extM x r)).toArray) k27 f0 (zad _) (zad _) (zas _) ?_;exact⟨(),(cvE rfl rfl),zal f0,zah ((zst hbX hbY)) (by omega) _⟩
 rintro _ Y ⟨f0,hbY⟩;exact⟨relC (extM x r),zad _,zab f0,rfl,hbY⟩
end
section
variable {b c:Nat} {x:ExD} {q:Option Addr} {w:World}
theorem zoZ {md:UInt8} (fx:ExH w b x q c) (hv:ExV w x q) (hT:Tz64M w):CB 68 #[At0 b,u8 md] w (.agg (relC (zaB x md)).toArray):=by
 refine cofM 70 [At0 b,u8 md] (.c .p (.c .p (.c .p (.c .p (.c .p (.c .p (.c .p .p))))))) Tryz.func68 ?_;obtain⟨L,hL⟩:=nm (w.heap.size);have hn:=hv.n;obtain⟨n,hnn⟩:=nm (x.ev.length);refine⟨Unit,fun _=>⟨[(0,At0 b),(1,u8 md),(4,At0 L)],[]⟩,fun _ X=>RelH X L zam/\Bw w X,⟨(),⟨.cons rfl (.cons rfl (.cons (by rw [hL];rfl) .nil)),rfl⟩,by rw [hL];exact hnew w _,(zba w _)⟩,?_⟩;rintro _ X ⟨f0,hbX⟩;refine⟨Unit,fun _=>⟨[(0,At0 b),(1,u8 md),(4,At0 L),(5,i64 n)],[]⟩,fun _ Y=>X=Y,?_,?_⟩
 ·refine⟨_,zac (zab (zaa hbX fx)) (i:=0) rfl,?_⟩;exact⟨(),⟨.cons rfl (.cons rfl (.cons rfl (.cons (by rw [hnn];rfl) .nil))),rfl⟩,rfl⟩
 rintro _ _ rfl;refine⟨Unit,fun _=>⟨[(0,At0 b),(1,u8 md),(4,At0 L),(5,i64 n),(6,.slice none 0 0)],[]⟩,fun _ Y=>X=Y,⟨(),(cvE rfl rfl),rfl⟩,?_⟩;rintro _ _ rfl;obtain⟨pr,hpr⟩:∃ pr:Nat->Bool,pr=fun i=>decide ((evA x i).k=3)&&decide ((evA x i).m=md):=⟨_,rfl⟩;obtain⟨B,hB⟩:=nm (X.heap.size);refine⟨Option Addr×Nat,fun s=>⟨[(0,At0 b),(4,At0 L),(5,i64 n),(6,.slice s.1 ((List.range n).filter pr).length s.2)],[]⟩,fun s V=>OwnS natE 3 B V s.1 s.2 ((List.range n).filter pr)/\Below B X V,?_,?_⟩
 ·refine⟨_,zac (zab (zaa hbX fx)) (i:=0) rfl,?_⟩;refine⟨Nat×Option Addr×Nat,fun s=>⟨[(0,At0 b),(1,u8 md),(4,At0 L),(5,i64 n),(6,.slice s.2.1 ((List.range s.1).filter pr).length s.2.2),(23,.slice q x.ev.length c),(24,i64 x.ev.length),(25,i64 (s.1:Nat))],[]⟩,fun s V=>s.1<=x.ev.length/\OwnS natE 3 B V s.2.1 s.2.2 ((List.range s.1).filter pr)/\Below B X V,fun s=>x.ev.length-s.1,(0,none,0),
   (cvE rfl rfl),⟨Nat.zero_le _,OwnS.nil,by rw [hB];exact Below.refl _ _⟩,?_⟩
  rintro⟨k,ps,cs⟩ V ⟨hk,oV,hbV⟩;dsimp only at hk oV ⊢;have hVs:B<=V.heap.size:=by have:=hbV.size;omega
  refine biE (fun hc=>?_) fun hc=>?_
  ·have hc:(k:Int)<(x.ev.length:Int):=dT hc;have hkl:k<x.ev.length:=by omega
   have hbwV:=hbX.trans (hbV.mono (by rw [hB];exact hbX.size));obtain⟨bq,oq,hqe,hb,hat⟩:=zd8 (hv.ev.below hbwV) hkl;have hfl:(List.range (k+1)).filter pr=(List.range k).filter pr++if pr k=true then [k] else []:=by
    rw [List.range_succ,List.filter_append,List.filter_cons,List.filter_nil]
   have hprk:pr k=(decide ((evA x k).k=3)&&decide ((evA x k).m=md)):=by rw [hpr]
   have hll2:((List.range k).filter pr).length<=k:=by
    have:=List.length_filter_le pr (List.range k);rw [List.length_range] at this;exact this
   obtain⟨e,he⟩:=nm (evA x k);rw [<- he] at hat hprk;have eq0:some (Value.slice q x.ev.length c)=some (Value.slice (some ⟨bq,oq,none⟩) x.ev.length c):=by rw [hqe]
   subst hqe;refine⟨k,rfl,hkl,?_⟩;refine⟨evE.enc e,rfl,hat,hb,?_⟩;refine zak (X:=V) (v := .agg (evE.enc e).toArray) k54 rfl rfl (List.all_eq_true.2 fun u hu=>evE.one e u hu) fun U hbU fU sU=>?_;have fU:U.heap[V.heap.size]?=some (.cells (evE.enc e).toArray 54 (0,0)):=fU;have oU:=oV.below hbU;have hbU2:=hbV.trans (hbU.mono hVs);have hUs:B<=U.heap.size:=by have:=hbU.size;omega
   have skip:pr k=false->(k+1<=x.ev.length/\OwnS natE 3 B U ps cs ((List.range (k+1)).filter pr)/\Below B X U):=fun h=>⟨hkl,by rw [hfl,h];simpa using oU,hbU2⟩;have skipE:pr k=false->((List.range (k+1)).filter pr).length=((List.range k).filter pr).length:=fun h=>by rw [hfl,h];simp
   refine⟨u8 e.k,zac (zab fU) (i:=1) rfl,?_⟩;refine biE (fun h1=>?_) fun h1=>?_
   ·have h1:e.k=3:=zbj.1 (dT h1);refine⟨u8 e.m,zac (zab fU) (i:=4) rfl,?_⟩;refine biE (fun h2=>?_) fun h2=>?_
    ·have h2:e.m=md:=zbj.1 (dT h2);have hp1:pr k=true:=(by rw [hprk,decide_eq_true h1,decide_eq_true h2];rfl);rw [if_pos hp1] at hfl;refine⟨⟨by decide,by decide,rfl⟩,natE.enc k,rfl,?_⟩;have hb2:Bw U (U.alloc (.cells (natE.enc k).toArray 3)):=zba _ _;have sb2:=hb2.size;unfold opsE zdl;show SatR _ _;refine appI (oU.below hb2) (zbi natE k) (by omega) (by omega) fun p' c' S oS gS hat2=>?_;rw [zcN] at gS;rw [<- hfl] at oS ⊢;refine nxI (by omega) ?_;exact⟨(k+1,p',c'),(cvE rfl rfl),⟨hkl,oS,hbU2.trans ((hb2.mono hUs).trans (zbc (oU.below hb2) (by omega) (Nat.le_refl _) gS))⟩,zdc (by omega)⟩
    ·have h2:¬ e.m=md:=fun e2=>(dF h2) (by rw [e2]);have hp0:pr k=false:=(by rw [hprk,decide_eq_false h2,Bool.and_false]);refine nxI (by omega) ?_;exact⟨(k+1,ps,cs),⟨.cons rfl (.cons rfl (.cons rfl (.cons rfl (.cons (by show _=some (Value.slice ps ((List.range (k+1)).filter pr).length cs);rw [skipE hp0];rfl) (.cons rfl (.cons rfl (.cons rfl .nil))))))),rfl⟩,skip hp0,zdc (by omega)⟩
   ·have h1:¬ e.k=3:=fun e2=>(dF h1) (by rw [e2];rfl);have hp0:pr k=false:=(by rw [hprk,decide_eq_false h1];rfl);refine brF ?_;refine nxI (by omega) ?_;exact⟨(k+1,ps,cs),⟨.cons rfl (.cons rfl (.cons rfl (.cons rfl (.cons (by show _=some (Value.slice ps ((List.range (k+1)).filter pr).length cs);rw [skipE hp0];rfl) (.cons rfl (.cons rfl (.cons rfl .nil))))))),rfl⟩,skip hp0,zdc (by omega)⟩
  ·have hc:¬ (k:Int)<(x.ev.length:Int):=dF hc;obtain rfl:k=x.ev.length:=by omega
   rw [<- hnn] at oV ⊢;exact⟨(ps,cs),(cvE rfl rfl),oV,hbV⟩
 rintro⟨ps,cs⟩ V ⟨oV,hbV⟩;dsimp only at oV ⊢;have hVs:B<=V.heap.size:=by have:=hbV.size;omega
 have hbwV:=hbX.trans (hbV.mono (by rw [hB];exact hbX.size));have hmask:orG ((List.range n).filter pr)=zcz x md:=by rw [hpr,hnn];rfl
 have hlt64:∀ i∈(List.range n).filter pr,i<64:=fun i hi=>by
  have:=List.mem_range.1 (List.mem_filter.1 hi).1;omega
 have hlen:((List.range n).filter pr).length<=n:=by
  have:=List.length_filter_le pr (List.range n);rw [List.length_range] at this;exact this
 refine⟨Unit,fun _=>⟨[(0,At0 b),(4,At0 L),(5,i64 n),(9,s64 (zcz x md))],[]⟩,fun _ Y=>V=Y,?_,?_⟩
 ·refine cmo (Of_c oV.row hlt64 (by omega)) ?_;rintro e Y ⟨rfl,rfl⟩;rw [hmask];exact⟨(),(cvE rfl rfl),rfl⟩
 rintro _ _ rfl;have hm64:zcz x md<2^64:=by rw [<- hmask];exact zpw hlt64
 replace f0:=zaa (by subst hB;exact hbV) f0;have fV:=zaa hbwV fx;have hvV:=hv.below hbwV;have hTV:=hT.below hbwV;clear oV hbX hbV hlen hlt64 hmask hpr hB hVs;clear B ps cs pr X;have idw:WrdR (idR n (zcz x md)).to:=fun i hi=>by
  unfold idR;exact zfe (fun i _ _=>Nat.lt_of_le_of_lt Nat.and_le_left hm64) i hi
 have hba:∀ (A:World) (o:Obj),Bw A (A.alloc o):=fun A o=>(zba _ _);refine⟨Nat,fun F=>⟨[(0,At0 b),(4,At0 L),(11,At0 F)],[]⟩,fun F Z=>RelH Z F (zbV x.po (idR n (zcz x md))).1/\RelH Z L zam/\Bw w Z,?_,?_⟩
 ·have dV:Bw V V.drew:=(Below.refl _ _).drew;have put:∀ (W:World) (b3:Nat),Bw V W->RelH W b3 zam->V.heap.size<=b3->∀ {K:World->Prop},(∀ Y,(RelH Y b3 (zbV x.po (idR n (zcz x md))).1/\RelH Y L zam/\Bw w Y)->K Y) ->
    SatR ((storeVar 27 ⟨b3,0,none⟩ (.agg (relC (zbV x.po (idR n (zcz x md))).1).toArray)).run Tryz.prog W) fun _ w'=>K w':=by
   intro W b3 hW f3 g3 K k;refine zaq (v := .agg (relC (zbV x.po (idR n (zcz x md))).1).toArray) k27 f3 (zad _) (zad _) (zas _) ?_;have hL2:=hlt f0;exact k _ ⟨zal f3,(zan (by omega)).trans (zaa hW f0),zah ((zst hbwV hW)) (by have:=hbwV.size;omega) _⟩
  refine DrawE.treeQ [12] (.op 0 (.op 1 (.op 2 (.op 3 (.op 4 (.op 5 (.alt (.op 11 (.op 6 (.op 7 (.op 8 (.op 9 (.op 10 (.op 12 (.op 13 (.nil))))))))) (.op 6 (.alt (.op 11 (.op 7 (.op 8 (.op 9 (.op 10 (.op 12 (.op 13 (.nil)))))))) (.op 7 (.op 8 (.op 9 (.op 10 (.op 11 (.op 12 (.op 13 (.nil))))))))))))))))) (by kernel_rfl) ?_;refine⟨relC x.po,zad _,zaw (hdr fV) (i:=0) (by decide) rfl,hlt (hdr fV),?_⟩;refine And.intro ?_ ?_
  ·refine⟨hba _ _,?_⟩;have b1:=dV.alloc (Nat.le_refl _) (.cells (relC zam).toArray 27);refine cmo (Id_c (n:=n) (by omega) hm64) ?_;rintro e Y ⟨rfl,hbY⟩;refine⟨hbY,?_⟩;have b2:=zst b1 hbY;refine cmo (zey hvV.po idw (hTV.below b2)) ?_;rintro e Z ⟨rfl,hbZ⟩;refine⟨hbZ,?_⟩;refine put Z V.heap.size ((zst b2 hbZ)) (zaa hbZ (zaa hbY (hnew V.drew _))) (Nat.le_refl _) ?_;exact fun Y hY=>⟨V.heap.size,(cvE rfl rfl),hY⟩
  refine cmo (Id_c (n:=n) (by omega) hm64) ?_;rintro e Y ⟨rfl,hbY⟩;refine⟨hbY,?_⟩;have b1:=zst dV hbY;refine And.intro ?_ ?_
  ·refine⟨hba _ _,?_⟩;have b2:=b1.alloc b1.size (.cells (relC zam).toArray 27);refine cmo (zey hvV.po idw (hTV.below b2)) ?_;rintro e Z ⟨rfl,hbZ⟩;refine⟨hbZ,?_⟩;refine put Z Y.heap.size ((zst b2 hbZ)) (zaa hbZ (hnew Y _)) b1.size ?_;exact fun V2 hV=>⟨Y.heap.size,(cvE rfl rfl),hV⟩
  ·refine cmo (zey hvV.po idw (hTV.below b1)) ?_;rintro e Z ⟨rfl,hbZ⟩;refine⟨hbZ,?_⟩;have b2:=zst b1 hbZ;refine⟨hba _ _,?_⟩;refine put _ Z.heap.size (b2.alloc b2.size _) (hnew Z _) b2.size ?_;exact fun V2 hV=>⟨Z.heap.size,(cvE rfl rfl),hV⟩
 clear f0 fV hvV hTV hbwV;clear V;rintro F V ⟨f1,f0,hbV⟩;have fV:=zaa hbV fx;have hTV:=hT.below hbV;have hFw:=zeN hv.po idw;have efen:(zbV (zbV x.po (idR n (zcz x md))).1 x.po).1=zaB x md:=by rw [hnn];rfl
 refine⟨Nat,fun G=>⟨[(4,At0 L),(13,At0 G)],[]⟩,fun G Z=>RelH Z G (zaB x md)/\RelH Z L zam/\Bw w Z,?_,?_⟩
 ·have dV:Bw V V.drew:=(Below.refl _ _).drew;have put:∀ (W:World) (b3:Nat),Bw V W->RelH W b3 zam->V.heap.size<=b3->∀ {K:World->Prop},(∀ Y,(RelH Y b3 (zaB x md)/\RelH Y L zam/\Bw w Y)->K Y) ->
    SatR ((storeVar 27 ⟨b3,0,none⟩ (.agg (relC (zaB x md)).toArray)).run Tryz.prog W) fun _ w'=>K w':=by
   intro W b3 hW f3 g3 K k;refine zaq (v := .agg (relC (zaB x md)).toArray) k27 f3 (zad _) (zad _) (zas _) ?_;have hL2:=hlt f0;exact k _ ⟨zal f3,(zan (by omega)).trans (zaa hW f0),zah ((zst hbV hW)) (by have:=hbV.size;omega) _⟩
  refine DrawE.treeQ [10] (.op 0 (.op 1 (.op 2 (.op 3 (.op 4 (.alt (.op 9 (.op 5 (.op 6 (.op 7 (.op 8 (.op 10 (.op 11 .nil))))))) (.op 5 (.op 6 (.op 7 (.op 8 (.op 9 (.op 10 (.op 11 .nil))))))))))))) (by kernel_rfl) ?_;refine⟨relC _,zad _,zab (hdr f1),hlt (hdr f1),?_⟩;refine⟨relC x.po,zad _,zaw (hdr fV) (i:=0) (by decide) rfl,hlt (hdr fV),?_⟩;refine And.intro ?_ ?_
  ·refine⟨hba _ _,?_⟩;have b1:=dV.alloc (Nat.le_refl _) (.cells (relC zam).toArray 27);refine cmo (zey hFw hv.po (hTV.below b1)) ?_;rintro e Y ⟨rfl,hbY⟩;refine⟨hbY,?_⟩;rw [efen];refine put Y V.heap.size ((zst b1 hbY)) (zaa hbY (hnew V.drew _)) (Nat.le_refl _) ?_;exact fun Y hY=>⟨V.heap.size,(cvE rfl rfl),hY⟩
  ·refine cmo (zey hFw hv.po (hTV.below dV)) ?_;rintro e Y ⟨rfl,hbY⟩;refine⟨hbY,?_⟩;have b1:=zst dV hbY;refine⟨hba _ _,?_⟩;rw [efen];refine put _ Y.heap.size (b1.alloc b1.size _) (hnew Y _) b1.size ?_;exact fun V2 hV=>⟨Y.heap.size,(cvE rfl rfl),hV⟩
 rintro G Z ⟨f1,f0,hbZ⟩;refine⟨relC (zaB x md),zad _,zab f1,hlt f1,?_⟩;refine zaq (v := .agg (relC (zaB x md)).toArray) k27 f0 (zad _) (zad _) (zas _) ?_;exact⟨relC (zaB x md),zad _,zab (zal f0),rfl,zah hbZ (by omega) _⟩
end
section
variable {w:World} {b c:Nat} {x:ExD} {q:Option Addr} {f l s:RelD}
theorem zqi {a d:Nat}:CB 131 #[At0 b,i64 (a:Nat),i64 (d:Nat)] w (.bool (ze5 1 x f l s a d)):=by
 refine cofE 7 [At0 b,i64 (a:Nat),i64 (d:Nat)] Tryz.func131 ?_;exact⟨rfl,Below.refl _ _⟩
theorem zqh {a d:Nat}:CB 132 #[At0 b,i64 (a:Nat),i64 (d:Nat)] w (.bool (ze5 2 x f l s a d)):=by
 refine cofE 7 [At0 b,i64 (a:Nat),i64 (d:Nat)] Tryz.func132 ?_;exact⟨rfl,Below.refl _ _⟩
theorem zqg {a d:Nat} (h:ScnV w b x q c f l s) (ha:a<x.ev.length) (hd:d<x.ev.length):CB 133 #[At0 b,i64 (a:Nat),i64 (d:Nat)] w (.bool (ze5 3 x f l s a d)):=by
 refine cofE 21 [At0 b,i64 (a:Nat),i64 (d:Nat)] Tryz.func133 ?_;have hn:=h.v.n;have hA:a<48:=by omega
 have hD:d<48:=by omega
 have hbw:=Below.refl w.heap.size w;refine cmo (zgm h ha) ?_;rintro e _ ⟨rfl,rfl⟩;refine biE (fun h1=>?_) fun h1=>?_
 ·have h1:isR x a=true:=h1;refine brT ?_;exact⟨rb (by show _=(isR x a||(isW x d||zcp x f a d));rw [h1];rfl),hbw⟩
 ·have h1:isR x a=false:=h1;refine cmo (zbD h hd) ?_;rintro e _ ⟨rfl,rfl⟩;refine biE (fun h2=>?_) fun h2=>?_
  ·have h2:isW x d=true:=h2;exact⟨rb (by show _=(isR x a||(isW x d||zcp x f a d));rw [h1,h2];rfl),hbw⟩
  ·have h2:isW x d=false:=h2;refine cmo (znY h ha hd) ?_;rintro e _ ⟨rfl,rfl⟩;exact⟨rb (by show _=(isR x a||(isW x d||zcp x f a d));rw [h1,h2];rfl),hbw⟩
theorem zqf {a d:Nat} (h:ScnV w b x q c f l s) (ha:a<x.ev.length) (hd:d<x.ev.length):CB 137 #[At0 b,i64 (a:Nat),i64 (d:Nat)] w (.bool (ze5 4 x f l s a d)):=by
 refine cofE 37 [At0 b,i64 (a:Nat),i64 (d:Nat)] Tryz.func137 ?_;have hn:=h.v.n;have hA:a<48:=by omega
 have hD:d<48:=by omega
 have hbw:=Below.refl w.heap.size w;refine cmo (zgm h ha) ?_;rintro e _ ⟨rfl,rfl⟩;refine biE (fun h1=>?_) fun h1=>?_
 ·have h1:isR x a=true:=h1;refine brT ?_;exact⟨rb (by show _=(isR x a||(zcp x f a d||(isW x d&&(zdX x a d||hasM s a d))));rw [h1];rfl),hbw⟩
 ·have h1:isR x a=false:=h1;refine cmo (znY h ha hd) ?_;rintro e _ ⟨rfl,rfl⟩;refine biE (fun h2=>?_) fun h2=>?_
  ·have h2:zcp x f a d=true:=h2;exact⟨rb (by show _=(isR x a||(zcp x f a d||(isW x d&&(zdX x a d||hasM s a d))));rw [h1,h2];rfl),hbw⟩
  ·have h2:zcp x f a d=false:=h2;refine cmo (zbD h hd) ?_;rintro e _ ⟨rfl,rfl⟩;refine biE (fun h3=>?_) fun h3=>?_
   ·have h3:isW x d=true:=h3;refine cmo (zpv h.cells h.v.ev ha hd) ?_;rintro e Z4 ⟨rfl,hbZ4⟩;have h:=h.below hbZ4;have hbw:=zst hbw hbZ4;refine biE (fun h4=>?_) fun h4=>?_
    ·have h4:zdX x a d=true:=h4;exact⟨rb (by show _=(isR x a||(zcp x f a d||(isW x d&&(zdX x a d||hasM s a d))));rw [h1,h2,h3,h4];rfl),hbw⟩
    ·have h4:zdX x a d=false:=h4;refine cmo (zaD h.stores h.ws hA hD) ?_;rintro e _ ⟨rfl,rfl⟩;exact⟨rb (by show _=(isR x a||(zcp x f a d||(isW x d&&(zdX x a d||hasM s a d))));rw [h1,h2,h3,h4];rfl),hbw⟩
   ·have h3:isW x d=false:=h3;exact⟨rb (by show _=(isR x a||(zcp x f a d||(isW x d&&(zdX x a d||hasM s a d))));rw [h1,h2,h3];rfl),hbw⟩
theorem zqe {a d:Nat} (h:ScnV w b x q c f l s) (ha:a<x.ev.length) (hd:d<x.ev.length):CB 138 #[At0 b,i64 (a:Nat),i64 (d:Nat)] w (.bool (ze5 5 x f l s a d)):=by
 refine cofE 49 [At0 b,i64 (a:Nat),i64 (d:Nat)] Tryz.func138 ?_;have hn:=h.v.n;have hA:a<48:=by omega
 have hD:d<48:=by omega
 have hbw:=Below.refl w.heap.size w;refine cmo (zgm h ha) ?_;rintro e _ ⟨rfl,rfl⟩;refine biE (fun h1=>?_) fun h1=>?_
 ·have h1:isR x a=true:=h1;refine cmo (zeO (md:=1) h ha) ?_;rintro e _ ⟨rfl,rfl⟩;refine biE (fun h2=>?_) fun h2=>?_
  ·have h2:zaG x a 1=true:=h2;refine brT ?_;refine brT ?_;exact⟨rb (by show _=((isR x a&&(zaG x a 1||hasM l a d))||((isW x d&&(zaG x d 2||hasM s a d))||hasM f a d));rw [h1,h2];rfl),hbw⟩
  ·have h2:zaG x a 1=false:=h2;refine cmo (zaD h.loads h.wl hA hD) ?_;rintro e _ ⟨rfl,rfl⟩;refine biE (fun h3=>?_) fun h3=>?_
   ·have h3:hasM l a d=true:=h3;refine brT ?_;exact⟨rb (by show _=((isR x a&&(zaG x a 1||hasM l a d))||((isW x d&&(zaG x d 2||hasM s a d))||hasM f a d));rw [h1,h2,h3];rfl),hbw⟩
   ·have h3:hasM l a d=false:=h3;refine cmo (zbD h hd) ?_;rintro e _ ⟨rfl,rfl⟩;refine biE (fun h4=>?_) fun h4=>?_
    ·have h4:isW x d=true:=h4;refine cmo (zeO (md:=2) h hd) ?_;rintro e _ ⟨rfl,rfl⟩;refine biE (fun h5=>?_) fun h5=>?_
     ·have h5:zaG x d 2=true:=h5;refine brT ?_;exact⟨rb (by show _=((isR x a&&(zaG x a 1||hasM l a d))||((isW x d&&(zaG x d 2||hasM s a d))||hasM f a d));rw [h1,h2,h3,h4,h5];rfl),hbw⟩
     ·have h5:zaG x d 2=false:=h5;refine cmo (zaD h.stores h.ws hA hD) ?_;rintro e _ ⟨rfl,rfl⟩;refine biE (fun h6=>?_) fun h6=>?_
      ·have h6:hasM s a d=true:=h6;exact⟨rb (by show _=((isR x a&&(zaG x a 1||hasM l a d))||((isW x d&&(zaG x d 2||hasM s a d))||hasM f a d));rw [h1,h2,h3,h4,h5,h6];rfl),hbw⟩
      ·have h6:hasM s a d=false:=h6;refine cmo (zaD h.full h.wf hA hD) ?_;rintro e _ ⟨rfl,rfl⟩;exact⟨rb (by show _=((isR x a&&(zaG x a 1||hasM l a d))||((isW x d&&(zaG x d 2||hasM s a d))||hasM f a d));rw [h1,h2,h3,h4,h5,h6];rfl),hbw⟩
    ·have h4:isW x d=false:=h4;refine brF ?_;refine cmo (zaD h.full h.wf hA hD) ?_;rintro e _ ⟨rfl,rfl⟩;exact⟨rb (by show _=((isR x a&&(zaG x a 1||hasM l a d))||((isW x d&&(zaG x d 2||hasM s a d))||hasM f a d));rw [h1,h2,h3,h4];rfl),hbw⟩
 ·have h1:isR x a=false:=h1;refine brF ?_;refine cmo (zbD h hd) ?_;rintro e _ ⟨rfl,rfl⟩;refine biE (fun h9=>?_) fun h9=>?_
  ·have h9:isW x d=true:=h9;refine cmo (zeO (md:=2) h hd) ?_;rintro e _ ⟨rfl,rfl⟩;refine biE (fun h10=>?_) fun h10=>?_
   ·have h10:zaG x d 2=true:=h10;refine brT ?_;exact⟨rb (by show _=((isR x a&&(zaG x a 1||hasM l a d))||((isW x d&&(zaG x d 2||hasM s a d))||hasM f a d));rw [h1,h9,h10];rfl),hbw⟩
   ·have h10:zaG x d 2=false:=h10;refine cmo (zaD h.stores h.ws hA hD) ?_;rintro e _ ⟨rfl,rfl⟩;refine biE (fun h11=>?_) fun h11=>?_
    ·have h11:hasM s a d=true:=h11;exact⟨rb (by show _=((isR x a&&(zaG x a 1||hasM l a d))||((isW x d&&(zaG x d 2||hasM s a d))||hasM f a d));rw [h1,h9,h10,h11];rfl),hbw⟩
    ·have h11:hasM s a d=false:=h11;refine cmo (zaD h.full h.wf hA hD) ?_;rintro e _ ⟨rfl,rfl⟩;exact⟨rb (by show _=((isR x a&&(zaG x a 1||hasM l a d))||((isW x d&&(zaG x d 2||hasM s a d))||hasM f a d));rw [h1,h9,h10,h11];rfl),hbw⟩
  ·have h9:isW x d=false:=h9;refine brF ?_;refine cmo (zaD h.full h.wf hA hD) ?_;rintro e _ ⟨rfl,rfl⟩;exact⟨rb (by show _=((isR x a&&(zaG x a 1||hasM l a d))||((isW x d&&(zaG x d 2||hasM s a d))||hasM f a d));rw [h1,h9];rfl),hbw⟩
theorem zqd {a d:Nat} (h:ScnV w b x q c f l s) (ha:a<x.ev.length) (hd:d<x.ev.length):CB 140 #[At0 b,i64 (a:Nat),i64 (d:Nat)] w (.bool (ze5 6 x f l s a d)):=by
 refine cofE 81 [At0 b,i64 (a:Nat),i64 (d:Nat)] Tryz.func140 ?_;have hn:=h.v.n;have hA:a<48:=by omega
 have hD:d<48:=by omega
 have hbw:=Below.refl w.heap.size w;refine cmo (zaD (zhu h.cells (zsj x q c)) h.v.dt hA hD) ?_;rintro e _ ⟨rfl,rfl⟩;refine biE (fun h1=>?_) fun h1=>?_
 ·have h1:hasM x.dt a d=true:=h1;refine brT ?_;refine brT ?_;refine brT ?_;refine brT ?_;exact⟨rb (by show _=(hasM x.dt a d||((hasM x.ct a d&&isW x d)||(hasM x.rm a d||(hasM f a d||((hasM l a d&&(isR x a&&isR x d))||(hasM s a d&&(isW x a&&isW x d)))))));rw [h1];rfl),hbw⟩
 ·have h1:hasM x.dt a d=false:=h1;refine cmo (zaD (zhu h.cells (zsk x q c)) h.v.ct hA hD) ?_;rintro e _ ⟨rfl,rfl⟩;refine biE (fun h2=>?_) fun h2=>?_
  ·have h2:hasM x.ct a d=true:=h2;refine cmo (zbD h hd) ?_;rintro e _ ⟨rfl,rfl⟩;refine biE (fun h3=>?_) fun h3=>?_
   ·have h3:isW x d=true:=h3;refine brT ?_;refine brT ?_;refine brT ?_;exact⟨rb (by show _=(hasM x.dt a d||((hasM x.ct a d&&isW x d)||(hasM x.rm a d||(hasM f a d||((hasM l a d&&(isR x a&&isR x d))||(hasM s a d&&(isW x a&&isW x d)))))));rw [h1,h2,h3];rfl),hbw⟩
   ·have h3:isW x d=false:=h3;refine cmo (zaD (zhu h.cells (zpI x q c)) h.v.rm hA hD) ?_;rintro e _ ⟨rfl,rfl⟩;refine biE (fun h4=>?_) fun h4=>?_
    ·have h4:hasM x.rm a d=true:=h4;refine brT ?_;refine brT ?_;exact⟨rb (by show _=(hasM x.dt a d||((hasM x.ct a d&&isW x d)||(hasM x.rm a d||(hasM f a d||((hasM l a d&&(isR x a&&isR x d))||(hasM s a d&&(isW x a&&isW x d)))))));rw [h1,h2,h3,h4];rfl),hbw⟩
    ·have h4:hasM x.rm a d=false:=h4;refine cmo (zaD h.full h.wf hA hD) ?_;rintro e _ ⟨rfl,rfl⟩;refine biE (fun h5=>?_) fun h5=>?_
     ·have h5:hasM f a d=true:=h5;refine brT ?_;exact⟨rb (by show _=(hasM x.dt a d||((hasM x.ct a d&&isW x d)||(hasM x.rm a d||(hasM f a d||((hasM l a d&&(isR x a&&isR x d))||(hasM s a d&&(isW x a&&isW x d)))))));rw [h1,h2,h3,h4,h5];rfl),hbw⟩
     ·have h5:hasM f a d=false:=h5;refine cmo (zaD h.loads h.wl hA hD) ?_;rintro e _ ⟨rfl,rfl⟩;refine biE (fun h6=>?_) fun h6=>?_
      ·have h6:hasM l a d=true:=h6;refine cmo (zgm h ha) ?_;rintro e _ ⟨rfl,rfl⟩;refine biE (fun h7=>?_) fun h7=>?_
       ·have h7:isR x a=true:=h7;refine cmo (zgm h hd) ?_;rintro e _ ⟨rfl,rfl⟩;refine biE (fun h8=>?_) fun h8=>?_
        ·have h8:isR x d=true:=h8;exact⟨rb (by show _=(hasM x.dt a d||((hasM x.ct a d&&isW x d)||(hasM x.rm a d||(hasM f a d||((hasM l a d&&(isR x a&&isR x d))||(hasM s a d&&(isW x a&&isW x d)))))));rw [h1,h2,h3,h4,h5,h6,h7,h8];rfl),hbw⟩
        ·have h8:isR x d=false:=h8;refine cmo (zaD h.stores h.ws hA hD) ?_;rintro e _ ⟨rfl,rfl⟩;refine biE (fun h9=>?_) fun h9=>?_
         ·have h9:hasM s a d=true:=h9;refine cmo (zbD h ha) ?_;rintro e _ ⟨rfl,rfl⟩;refine biE (fun h10=>?_) fun h10=>?_
          ·have h10:isW x a=true:=h10;refine cmo (zbD h hd) ?_;rintro e _ ⟨rfl,rfl⟩;exact⟨rb (by show _=(hasM x.dt a d||((hasM x.ct a d&&isW x d)||(hasM x.rm a d||(hasM f a d||((hasM l a d&&(isR x a&&isR x d))||(hasM s a d&&(isW x a&&isW x d)))))));rw [h1,h2,h3,h4,h5,h6,h7,h8,h9,h10];rfl),hbw⟩
          ·have h10:isW x a=false:=h10;exact⟨rb (by show _=(hasM x.dt a d||((hasM x.ct a d&&isW x d)||(hasM x.rm a d||(hasM f a d||((hasM l a d&&(isR x a&&isR x d))||(hasM s a d&&(isW x a&&isW x d)))))));rw [h1,h2,h3,h4,h5,h6,h7,h8,h9,h10];rfl),hbw⟩
         ·have h9:hasM s a d=false:=h9;refine brF ?_;exact⟨rb (by show _=(hasM x.dt a d||((hasM x.ct a d&&isW x d)||(hasM x.rm a d||(hasM f a d||((hasM l a d&&(isR x a&&isR x d))||(hasM s a d&&(isW x a&&isW x d)))))));rw [h1,h2,h3,h4,h5,h6,h7,h8,h9];rfl),hbw⟩
       ·have h7:isR x a=false:=h7;refine brF ?_;refine cmo (zaD h.stores h.ws hA hD) ?_;rintro e _ ⟨rfl,rfl⟩;refine biE (fun h12=>?_) fun h12=>?_
        ·have h12:hasM s a d=true:=h12;refine cmo (zbD h ha) ?_;rintro e _ ⟨rfl,rfl⟩;refine biE (fun h13=>?_) fun h13=>?_
         ·have h13:isW x a=true:=h13;refine cmo (zbD h hd) ?_;rintro e _ ⟨rfl,rfl⟩;exact⟨rb (by show _=(hasM x.dt a d||((hasM x.ct a d&&isW x d)||(hasM x.rm a d||(hasM f a d||((hasM l a d&&(isR x a&&isR x d))||(hasM s a d&&(isW x a&&isW x d)))))));rw [h1,h2,h3,h4,h5,h6,h7,h12,h13];rfl),hbw⟩
         ·have h13:isW x a=false:=h13;exact⟨rb (by show _=(hasM x.dt a d||((hasM x.ct a d&&isW x d)||(hasM x.rm a d||(hasM f a d||((hasM l a d&&(isR x a&&isR x d))||(hasM s a d&&(isW x a&&isW x d)))))));rw [h1,h2,h3,h4,h5,h6,h7,h12,h13];rfl),hbw⟩
        ·have h12:hasM s a d=false:=h12;refine brF ?_;exact⟨rb (by show _=(hasM x.dt a d||((hasM x.ct a d&&isW x d)||(hasM x.rm a d||(hasM f a d||((hasM l a d&&(isR x a&&isR x d))||(hasM s a d&&(isW x a&&isW x d)))))));rw [h1,h2,h3,h4,h5,h6,h7,h12];rfl),hbw⟩
      ·have h6:hasM l a d=false:=h6;refine brF ?_;refine brF ?_;refine cmo (zaD h.stores h.ws hA hD) ?_;rintro e _ ⟨rfl,rfl⟩;refine biE (fun h15=>?_) fun h15=>?_
       ·have h15:hasM s a d=true:=h15;refine cmo (zbD h ha) ?_;rintro e _ ⟨rfl,rfl⟩;refine biE (fun h16=>?_) fun h16=>?_
        ·have h16:isW x a=true:=h16;refine cmo (zbD h hd) ?_;rintro e _ ⟨rfl,rfl⟩;exact⟨rb (by show _=(hasM x.dt a d||((hasM x.ct a d&&isW x d)||(hasM x.rm a d||(hasM f a d||((hasM l a d&&(isR x a&&isR x d))||(hasM s a d&&(isW x a&&isW x d)))))));rw [h1,h2,h3,h4,h5,h6,h15,h16];rfl),hbw⟩
        ·have h16:isW x a=false:=h16;exact⟨rb (by show _=(hasM x.dt a d||((hasM x.ct a d&&isW x d)||(hasM x.rm a d||(hasM f a d||((hasM l a d&&(isR x a&&isR x d))||(hasM s a d&&(isW x a&&isW x d)))))));rw [h1,h2,h3,h4,h5,h6,h15,h16];rfl),hbw⟩
       ·have h15:hasM s a d=false:=h15;refine brF ?_;exact⟨rb (by show _=(hasM x.dt a d||((hasM x.ct a d&&isW x d)||(hasM x.rm a d||(hasM f a d||((hasM l a d&&(isR x a&&isR x d))||(hasM s a d&&(isW x a&&isW x d)))))));rw [h1,h2,h3,h4,h5,h6,h15];rfl),hbw⟩
  ·have h2:hasM x.ct a d=false:=h2;refine brF ?_;refine cmo (zaD (zhu h.cells (zpI x q c)) h.v.rm hA hD) ?_;rintro e _ ⟨rfl,rfl⟩;refine biE (fun h18=>?_) fun h18=>?_
   ·have h18:hasM x.rm a d=true:=h18;refine brT ?_;refine brT ?_;exact⟨rb (by show _=(hasM x.dt a d||((hasM x.ct a d&&isW x d)||(hasM x.rm a d||(hasM f a d||((hasM l a d&&(isR x a&&isR x d))||(hasM s a d&&(isW x a&&isW x d)))))));rw [h1,h2,h18];rfl),hbw⟩
   ·have h18:hasM x.rm a d=false:=h18;refine cmo (zaD h.full h.wf hA hD) ?_;rintro e _ ⟨rfl,rfl⟩;refine biE (fun h19=>?_) fun h19=>?_
    ·have h19:hasM f a d=true:=h19;refine brT ?_;exact⟨rb (by show _=(hasM x.dt a d||((hasM x.ct a d&&isW x d)||(hasM x.rm a d||(hasM f a d||((hasM l a d&&(isR x a&&isR x d))||(hasM s a d&&(isW x a&&isW x d)))))));rw [h1,h2,h18,h19];rfl),hbw⟩
    ·have h19:hasM f a d=false:=h19;refine cmo (zaD h.loads h.wl hA hD) ?_;rintro e _ ⟨rfl,rfl⟩;refine biE (fun h20=>?_) fun h20=>?_
     ·have h20:hasM l a d=true:=h20;refine cmo (zgm h ha) ?_;rintro e _ ⟨rfl,rfl⟩;refine biE (fun h21=>?_) fun h21=>?_
      ·have h21:isR x a=true:=h21;refine cmo (zgm h hd) ?_;rintro e _ ⟨rfl,rfl⟩;refine biE (fun h22=>?_) fun h22=>?_
       ·have h22:isR x d=true:=h22;exact⟨rb (by show _=(hasM x.dt a d||((hasM x.ct a d&&isW x d)||(hasM x.rm a d||(hasM f a d||((hasM l a d&&(isR x a&&isR x d))||(hasM s a d&&(isW x a&&isW x d)))))));rw [h1,h2,h18,h19,h20,h21,h22];rfl),hbw⟩
       ·have h22:isR x d=false:=h22;refine cmo (zaD h.stores h.ws hA hD) ?_;rintro e _ ⟨rfl,rfl⟩;refine biE (fun h23=>?_) fun h23=>?_
        ·have h23:hasM s a d=true:=h23;refine cmo (zbD h ha) ?_;rintro e _ ⟨rfl,rfl⟩;refine biE (fun h24=>?_) fun h24=>?_
         ·have h24:isW x a=true:=h24;refine cmo (zbD h hd) ?_;rintro e _ ⟨rfl,rfl⟩;exact⟨rb (by show _=(hasM x.dt a d||((hasM x.ct a d&&isW x d)||(hasM x.rm a d||(hasM f a d||((hasM l a d&&(isR x a&&isR x d))||(hasM s a d&&(isW x a&&isW x d)))))));rw [h1,h2,h18,h19,h20,h21,h22,h23,h24];rfl),hbw⟩
         ·have h24:isW x a=false:=h24;exact⟨rb (by show _=(hasM x.dt a d||((hasM x.ct a d&&isW x d)||(hasM x.rm a d||(hasM f a d||((hasM l a d&&(isR x a&&isR x d))||(hasM s a d&&(isW x a&&isW x d)))))));rw [h1,h2,h18,h19,h20,h21,h22,h23,h24];rfl),hbw⟩
        ·have h23:hasM s a d=false:=h23;refine brF ?_;exact⟨rb (by show _=(hasM x.dt a d||((hasM x.ct a d&&isW x d)||(hasM x.rm a d||(hasM f a d||((hasM l a d&&(isR x a&&isR x d))||(hasM s a d&&(isW x a&&isW x d)))))));rw [h1,h2,h18,h19,h20,h21,h22,h23];rfl),hbw⟩
      ·have h21:isR x a=false:=h21;refine brF ?_;refine cmo (zaD h.stores h.ws hA hD) ?_;rintro e _ ⟨rfl,rfl⟩;refine biE (fun h26=>?_) fun h26=>?_
       ·have h26:hasM s a d=true:=h26;refine cmo (zbD h ha) ?_;rintro e _ ⟨rfl,rfl⟩;refine biE (fun h27=>?_) fun h27=>?_
        ·have h27:isW x a=true:=h27;refine cmo (zbD h hd) ?_;rintro e _ ⟨rfl,rfl⟩;exact⟨rb (by show _=(hasM x.dt a d||((hasM x.ct a d&&isW x d)||(hasM x.rm a d||(hasM f a d||((hasM l a d&&(isR x a&&isR x d))||(hasM s a d&&(isW x a&&isW x d)))))));rw [h1,h2,h18,h19,h20,h21,h26,h27];rfl),hbw⟩
        ·have h27:isW x a=false:=h27;exact⟨rb (by show _=(hasM x.dt a d||((hasM x.ct a d&&isW x d)||(hasM x.rm a d||(hasM f a d||((hasM l a d&&(isR x a&&isR x d))||(hasM s a d&&(isW x a&&isW x d)))))));rw [h1,h2,h18,h19,h20,h21,h26,h27];rfl),hbw⟩
       ·have h26:hasM s a d=false:=h26;refine brF ?_;exact⟨rb (by show _=(hasM x.dt a d||((hasM x.ct a d&&isW x d)||(hasM x.rm a d||(hasM f a d||((hasM l a d&&(isR x a&&isR x d))||(hasM s a d&&(isW x a&&isW x d)))))));rw [h1,h2,h18,h19,h20,h21,h26];rfl),hbw⟩
     ·have h20:hasM l a d=false:=h20;refine brF ?_;refine brF ?_;refine cmo (zaD h.stores h.ws hA hD) ?_;rintro e _ ⟨rfl,rfl⟩;refine biE (fun h29=>?_) fun h29=>?_
      ·have h29:hasM s a d=true:=h29;refine cmo (zbD h ha) ?_;rintro e _ ⟨rfl,rfl⟩;refine biE (fun h30=>?_) fun h30=>?_
       ·have h30:isW x a=true:=h30;refine cmo (zbD h hd) ?_;rintro e _ ⟨rfl,rfl⟩;exact⟨rb (by show _=(hasM x.dt a d||((hasM x.ct a d&&isW x d)||(hasM x.rm a d||(hasM f a d||((hasM l a d&&(isR x a&&isR x d))||(hasM s a d&&(isW x a&&isW x d)))))));rw [h1,h2,h18,h19,h20,h29,h30];rfl),hbw⟩
       ·have h30:isW x a=false:=h30;exact⟨rb (by show _=(hasM x.dt a d||((hasM x.ct a d&&isW x d)||(hasM x.rm a d||(hasM f a d||((hasM l a d&&(isR x a&&isR x d))||(hasM s a d&&(isW x a&&isW x d)))))));rw [h1,h2,h18,h19,h20,h29,h30];rfl),hbw⟩
      ·have h29:hasM s a d=false:=h29;refine brF ?_;exact⟨rb (by show _=(hasM x.dt a d||((hasM x.ct a d&&isW x d)||(hasM x.rm a d||(hasM f a d||((hasM l a d&&(isR x a&&isR x d))||(hasM s a d&&(isW x a&&isW x d)))))));rw [h1,h2,h18,h19,h20,h29];rfl),hbw⟩
end
end Go.Proofs.YtmbghmhjjodgmaaGreatDoor
