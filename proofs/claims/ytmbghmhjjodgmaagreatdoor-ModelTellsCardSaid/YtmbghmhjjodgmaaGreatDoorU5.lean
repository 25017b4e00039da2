/- Contracts of functions, and plain facts, for the law that the last text of this claim proves. -/
import Derived.Test.YtmbghmhjjodgmaaGreatDoorU4
import Derived.Test.YtmbghmhjjodgmaaGreatDoorU1
set_option linter.unusedSimpArgs false
set_option linter.unusedVariables false
namespace Go.Proofs.YtmbghmhjjodgmaaGreatDoor
open Go.Vc Go.RowKit Go.Sei
abbrev exE3:=ExD×Option Addr×Nat
def exE:Enc exE3:=⟨fun x=>exC x.1 x.2.1 x.2.2,333,fun _=>zao ..,by decide,fun a u hu=>List.all_eq_true.1 (zde ..) u hu⟩
abbrev ExH (X:World) (b:Nat) (x:ExD) (q:Option Addr) (c:Nat):Prop:=X.heap[b]?=some (.cells (exC x q c).toArray 34 (0,0))
def StX (B:Nat) (pre:List ExD) (vs:List Value) (W:World):Prop:=∃ x q c,pre.getLast?=some x/\vs=[.agg (exC x q c).toArray]/\OwnS evE 54 B W q c x.ev
def GvX (vs:List Value) (k:Nat):Prop:=∃ (x:ExD) (a:Addr) (c:Nat),vs=[.agg (exC x (some a) c).toArray]/\k=a.block
theorem zk4 {xs:List NatL} {rs:List (Nat×List Nat)} (h:xs.map (·.1)=rs.map (·.2)):xs.map (·.1.length)=rs.map fun r=>r.2.length:=by
 have:=congrArg (List.map List.length) h;rw [List.map_map,List.map_map] at this;exact this
theorem zji {zs:List zgJ} {ws:List (List Nat)} (h:zs.map (fun z=>z.1.map (·.1))=ws.map zdb):zs.map (·.1.length)=ws.map fun w=>(zdb w).length:=by
 have:=congrArg (List.map List.length) h;rw [List.map_map,List.map_map] at this;rw [<- show zs.map (List.length ∘ fun z:zgJ=>z.1.map (·.1))=zs.map (·.1.length) from List.map_congr_left fun z _=>List.length_map _];exact this
section
variable {Rd:Nat->Prop} {W0:World} {bx b o:Nat} {m:MixD} {q:Option Addr} {c:Nat} {p1 p2 p3:Option Addr} {c1 c2 c3:Nat} {xs ys:List NatL}
theorem zqW (hM:MixM Rd W0 b o m q c p1 p2 p3 c1 c2 c3 xs ys) (fx:W0.heap[bx]?=some (.cells #[.pointer (some ⟨b,o,none⟩)] 171 (0,0))) (hbx:Rd bx) (hRd:∀ k,Rd k->k<W0.heap.size) (hT:Tz64M W0) (hRt:Rd 0) (hB:MixB m) (hev:m.base.ev.length<=48) :
  zrd Tryz.prog 117 [At0 bx] (zhd m) W0 Rd (StX W0.heap.size) GvX:=by
 intro yl F0 J W hsz hrd hrf hJ hy h0;refine cofM 141 [.func (.yield yl) #[] #[],At0 bx] (.c .p (.s .p (.c .p (.c .p (.c .p (.s .p .p)))))) Tryz.func117 ?_;have hMW:=hM.same hrd;have fxW:=(hrd bx hbx).trans fx;have hTW:Tz64M W:=zb4 hT (hrd _ hRt);have hRW:∀ k,Rd k->k<W.heap.size:=fun k hk=>by have:=hRd k hk;omega
 obtain⟨L,hL⟩:=nm (W.heap.size);have hxl:xs.length=m.rs.length:=by have:=congrArg List.length hM.e2;simpa using this
 have hyl:ys.length=m.wr.length:=by have:=congrArg List.length hM.e3;simpa using this
 have hrl48:=hB.rl;have hwl6:=hB.wl;have hx1:∀ y∈xs,y.1.length<=1000:=fun y hy=>by
  have:y.1∈m.rs.map (·.2):=by rw [<- hM.e2];exact List.mem_map.2 ⟨y,hy,rfl⟩
  obtain⟨r,hr,he⟩:=List.mem_map.1 this;rw [<- he];exact (hB.rs r hr).2.1
 refine⟨Unit,fun _=>⟨[(1,At0 bx),(2,At0 L)],[]⟩,fun _ X=>X.heap[L]?=some (.cells #[.func (.yield yl) #[] #[]] 36 (0,0))/\X.heap.size=L+1/\Bw W X,?_,?_⟩
 ·exact⟨(),⟨.cons rfl (.cons (by rw [hL];rfl) .nil),rfl⟩,by rw [hL];exact hnew W _,by rw [hL];exact wz _ _,(zba W _)⟩
 rintro _ X ⟨fL,sX,hbX⟩;refine⟨Option Addr×Nat,fun s=>⟨[(1,At0 bx),(2,At0 L),(3,.slice s.1 (xs.map (·.1.length)).length s.2)],[]⟩,fun s Z=>OwnS natE 3 W.heap.size Z s.1 s.2 (xs.map (·.1.length))/\Z.heap[L]?=some (.cells #[.func (.yield yl) #[] #[]] 36 (0,0))/\Bw W Z,?_,?_⟩
 ·refine⟨_,zac (zab (zaa hbX fxW)) (i:=0) rfl,?_⟩;refine⟨_,zgg (hMW.same fun k hk=>hbX.block k (hRW k hk)).cells (i:=1) rfl,?_⟩;refine⟨Nat×Option Addr×Nat,fun s=>⟨[(1,At0 bx),(2,At0 L),(3,.slice s.2.1 ((xs.take s.1).map (·.1.length)).length s.2.2),(20,.slice p2 xs.length c2),(21,i64 xs.length),(22,i64 (s.1:Nat))],[]⟩,
   fun s Z=>s.1<=xs.length/\OwnS natE 3 W.heap.size Z s.2.1 s.2.2 ((xs.take s.1).map (·.1.length))/\Z.heap[L]?=some (.cells #[.func (.yield yl) #[] #[]] 36 (0,0))/\Bw W Z,fun s=>xs.length-s.1,(0,none,0),
   (cvE rfl rfl),⟨Nat.zero_le _,OwnS.nil,fL,hbX⟩,?_⟩
  rintro⟨k,ps,cs⟩ Z ⟨hk,ho,fL,hbZ⟩;dsimp only at hk ho ⊢;refine biE (fun hc=>?_) fun hc=>?_
  ·have hc:(k:Int)<(xs.length:Int):=dT hc;have hkl:k<xs.length:=by omega
   have hZM:=hMW.same fun k hk=>hbZ.block k (hRW k hk);obtain⟨x,hx⟩:∃ x,xs[k]=x:=⟨_,rfl⟩;obtain⟨bp,op,hpe,hlp,hat⟩:=hZM.r2.at hkl;subst hpe;refine⟨k,rfl,hkl,?_⟩;refine⟨slV x,by rw [<- hx];exact zac (hat k hkl) (i:=0) rfl,?_⟩;refine⟨⟨by decide,by decide,rfl⟩,natE.enc x.1.length,rfl,?_⟩;have hb1:Bw Z (Z.alloc (.cells (natE.enc x.1.length).toArray 3)):=zba _ _;have hZs:=hbZ.size;have htl:((xs.take k).map (·.1.length)).length=k:=by rw [List.length_map,List.length_take];omega
   have htk:(xs.take (k+1)).map (·.1.length)=(xs.take k).map (·.1.length)++[x.1.length]:=by
    rw [tsg hkl,List.map_append,hx];rfl
   unfold opsE zda;show SatR _ _;refine appI (ho.below hb1) (zbg natE x.1.length) (by have:=hb1.size;omega) (by have:=hB.rl;omega) fun p' c' U oU gU hat1=>?_;rw [zcD] at gU;rw [<- htk] at oU ⊢;have fU:=zaV (zaa hb1 fL) (ho.below hb1) (by decide) gU;refine nxI (by omega) ?_;exact⟨(k+1,p',c'),(cvE rfl rfl),⟨hkl,oU,fU,hbZ.trans ((hb1.mono hZs).trans (za7 (ho.below hb1) (by have:=hb1.size;omega) (Nat.le_refl _) gU))⟩,zdc (by omega)⟩
  ·have hc:¬ (k:Int)<(xs.length:Int):=dF hc;obtain rfl:k=xs.length:=by omega
   rw [List.take_length] at ho ⊢;exact⟨(ps,cs),(cvE rfl rfl),ho,fL,hbZ⟩
 clear fL sX hbX;rintro⟨ps,cs⟩ X ⟨ho,fL,hbX⟩;dsimp only at ho ⊢;refine⟨Nat,fun R=>⟨[(1,At0 bx),(2,At0 L),(3,.slice ps (xs.map (·.1.length)).length cs),(6,At0 R)],[]⟩,fun R Z=>CanS W.heap.size Z yl L R (xs.map (·.1.length)) ps cs [] none 0/\L<R/\Bw W Z,?_,?_⟩
 ·refine⟨X.heap.size,(cvE rfl rfl),⟨hold _ fL,hnew X _,ho.alloc _,OwnS.nil,fun z hz=>(by cases hz),fun z hz=>(by cases hz),fun z hz=>(by cases hz)⟩,hlt fL,hbX.alloc hbX.size _⟩
 clear ho fL hbX;rintro R X ⟨hS,hLR,hbX⟩;refine⟨(List zgJ×Option Addr×Nat)×Option Addr×Nat,fun s=>⟨[(1,At0 bx),(2,At0 L),(3,.slice s.2.1 (zdL m).length s.2.2),(6,At0 R)],[]⟩,fun s Z=>CanS W.heap.size Z yl L R (zdL m) s.2.1 s.2.2 s.1.1 s.1.2.1 s.1.2.2/\s.1.1.map (fun z=>z.1.map (·.1))=m.wr.map zdb/\Bw W Z,?_,?_⟩
 ·refine⟨_,zac (zab (zaa hbX fxW)) (i:=0) rfl,?_⟩;refine⟨_,zgg (hMW.same fun k hk=>hbX.block k (hRW k hk)).cells (i:=2) rfl,?_⟩;refine⟨Nat×(List zgJ×Option Addr×Nat)×Option Addr×Nat,fun s=>⟨[(1,At0 bx),(2,At0 L),(3,.slice s.2.2.1 (xs.map (·.1.length)++s.2.1.1.map (·.1.length)).length s.2.2.2),(6,At0 R),(35,.slice p3 ys.length c3),(36,i64 ys.length),(37,i64 (s.1:Nat))],[]⟩,
   fun s Z=>s.1<=ys.length/\CanS W.heap.size Z yl L R (xs.map (·.1.length)++s.2.1.1.map (·.1.length)) s.2.2.1 s.2.2.2 s.2.1.1 s.2.1.2.1 s.2.1.2.2/\s.2.1.1.map (fun z=>z.1.map (·.1))=(ys.take s.1).map (fun y=>zdb y.1)/\Bw W Z,fun s=>ys.length-s.1,(0,([],none,0),ps,cs),
   ⟨.cons rfl (.cons rfl (.cons (by simp;rfl) (.cons rfl (.cons rfl (.cons rfl (.cons rfl .nil)))))),rfl⟩,⟨Nat.zero_le _,by simpa using hS,rfl,hbX⟩,?_⟩
  clear hS hbX;rintro⟨k,⟨zs,pr,cr⟩,ps,cs⟩ Z ⟨hk,hS,hz,hbZ⟩;dsimp only at hk hS hz ⊢;have hzl:zs.length=k:=by
   have:=congrArg List.length hz;rw [List.length_map,List.length_map,List.length_take] at this;omega
  refine biE (fun hc=>?_) fun hc=>?_
  ·have hc:(k:Int)<(ys.length:Int):=dT hc;have hkl:k<ys.length:=by omega
   have hZM:=hMW.same fun k hk=>hbZ.block k (hRW k hk);obtain⟨y,hyk⟩:∃ y,ys[k]=y:=⟨_,rfl⟩;have hym:y∈ys:=by rw [<- hyk];exact gM hkl
   have hyw:y.1∈m.wr:=by rw [<- hM.e3];exact List.mem_map.2 ⟨y,hym,rfl⟩
   obtain⟨bw1,bw2,bw3⟩:=hB.wr _ hyw;obtain⟨bp,op,hpe,hlp,hat⟩:=hZM.r3.at hkl;subst hpe;refine⟨k,rfl,hkl,?_⟩;refine⟨slV y,by rw [<- hyk];exact zac (hat k hkl) (i:=0) rfl,?_⟩;refine cmo (zoc (hZM.n3 y hym) bw1 (zb4 hTW (hbZ.block _ (hRW _ hRt)))) ?_;rintro e Y ⟨⟨rk,pk,ck,rfl,hrk,ork,onk⟩,hbY⟩;have hZs:=hbZ.size;have hSY:=hS.below hbY;have hrkl:rk.length<=10000:=by rw [<- hrk,List.length_map] at bw2;exact bw2
   obtain⟨nz,hnz⟩:∃ nz:zgJ,nz=(rk,pk,ck):=⟨_,rfl⟩;have hen:[Value.slice pk rk.length ck]=rnkE.enc nz:=by rw [hnz];rfl
   refine⟨_,zac (zab hSY.fR) (i:=0) rfl,?_⟩;refine⟨⟨by decide,by decide,rfl⟩,rnkE.enc nz,by rw [<- hen];rfl,?_⟩;have hb1:Bw Y (Y.alloc (.cells (rnkE.enc nz).toArray 117)):=zba _ _;have hS1:=hSY.below hb1;have ork1:=ork.below hb1;have onk1:=fun x hx=>(onk x hx).below hb1;unfold opsE zda;show SatR _ _;refine appR hS1.rk (zbg rnkE nz) (by have:=hb1.size;have:=hbY.size;omega) (by have:=hB.wl;omega) fun p' c' U oU gU hat1=>?_;have fLU:=zaV hS1.fL hS1.rk (by decide) gU;have fRU:=zaV hS1.fR hS1.rk (by decide) gU;refine zas k172 fRU (o:=0) (v := .slice p' (zs++[nz]).length c') rfl rfl (by show 0<1;decide) rfl fun S fS gS sS=>?_;have hbZY:=hbZ.trans (hbY.mono hZs);have sY:=hbY.size;have sb1:=hb1.size;have hbU:Bw W U:=(hbZY.trans (hb1.mono (by omega))).trans (za7 hS1.rk (by omega) (Nat.le_refl _) gU);have hRn:W.heap.size<=R:=by omega
   have hbS:Bw W S:=hbU.trans (zap gS hbU.size hRn);have hSS:CanS W.heap.size S yl L R (xs.map (·.1.length)++zs.map (·.1.length)) ps cs (zs++[nz]) p' c':=by
    have kU:∀ {α:Type} {E:Enc α} {T cc:Nat} {r:Option Addr} {ll:List α},T≠117->T≠172->OwnS E T W.heap.size (Y.alloc (.cells (rnkE.enc nz).toArray 117)) r cc ll->OwnS E T W.heap.size S r cc ll:=fun {α E T cc r ll} h1 h2 h=>zaY (zb7 h hS1.rk h1 gU) fRU h2 gS;refine⟨(gS.block L (hlt fLU) (by simp;omega)).trans fLU,fS,kU (by decide) (by decide) hS1.own,zaY oU fRU (by decide) gS,fun z hz=>?_,fun z hz=>?_,fun z hz=>?_⟩
    ·rcases List.mem_append.1 hz with hz | hz
     ·exact kU (by decide) (by decide) (hS1.n1 z hz)
     ·rw [List.mem_singleton.1 hz,hnz];exact kU (by decide) (by decide) (ork1.lower hZs)
    ·rcases List.mem_append.1 hz with hz | hz
     ·exact fun x hx=>kU (by decide) (by decide) (hS1.n2 z hz x hx)
     ·rw [List.mem_singleton.1 hz,hnz];exact fun x hx=>kU (by decide) (by decide) ((onk1 x hx).lower hZs)
    ·rcases List.mem_append.1 hz with hz | hz
     ·exact hS1.dis z hz
     ·rw [List.mem_singleton.1 hz,hnz];intro x hx a b ha hb;have:=(zav (onk x hx) hb).1;have:=(zav hS.own ha).2.1;omega
   clear hS1 ork1 onk1 hSY hS oU gU hat1 fLU fRU fS gS;refine⟨⟨by decide,by decide,rfl⟩,natE.enc rk.length,rfl,?_⟩;have hb2:Bw S (S.alloc (.cells (natE.enc rk.length).toArray 3)):=zba _ _;have hS2:=hSS.below hb2;have sbS:=hbS.size;have sb2:=hb2.size;unfold opsE zda;show SatR _ _;refine appI hS2.own (zbg natE rk.length) (by omega) (by rw [lap,List.length_map,List.length_map];have:=hB.rl;have:=hB.wl;omega) fun p2' c2' V oV gV hat2=>?_;rw [zcD] at gV;have hSV:=hS2.size oV gV hat2;have hzz:(xs.map (·.1.length)++zs.map (·.1.length))++[rk.length]=xs.map (·.1.length)++(zs++[nz]).map (·.1.length):=by
    rw [List.map_append,List.append_assoc,hnz];rfl
   rw [hzz] at hSV ⊢;refine nxI (by omega) ?_;refine⟨(k+1,(zs++[nz],p',c'),p2',c2'),(cvE rfl rfl),⟨hkl,hSV,?_,hbS.trans ((hb2.mono sbS).trans (za7 hS2.own (by omega) (Nat.le_refl _) gV))⟩,zdc (by omega)⟩;rw [tsg hkl,hyk,List.map_append,List.map_append,hz,hnz];show _++[rk.map (·.1)]=_++[zdb y.1];rw [hrk]
  ·have hc:¬ (k:Int)<(ys.length:Int):=dF hc;obtain rfl:k=ys.length:=by omega
   have hz2:zs.map (fun z=>z.1.map (·.1))=m.wr.map zdb:=by
    rw [List.take_length] at hz;rw [hz,<- hM.e3,List.map_map];rfl
   have hsz2:xs.map (·.1.length)++zs.map (·.1.length)=zdL m:=by
    rw [zk4 hM.e2,zji hz2];rfl
   rw [hsz2] at hS ⊢;exact⟨((zs,pr,cr),ps,cs),(cvE rfl rfl),hS,hz2,hbZ⟩
 clear hS hbX;rintro⟨⟨zs,pr,cr⟩,ps,cs⟩ V ⟨hS,hz,hbV⟩;dsimp only at hS hz ⊢;have hVs:=hbV.size;have hMV:=hMW.same fun k hk=>hbV.block k (hRW k hk);have fxV:=zaa hbV fxW;have hsl1:(zdL m).length<=1000:=by
  unfold zdL;rw [lap,List.length_map,List.length_map];omega
 have hsl2:∀ n∈zdL m,n<=1000000:=fun n hn=>by
  unfold zdL at hn;rcases List.mem_append.1 hn with hn | hn
  ·obtain⟨r,hr,rfl⟩:=List.mem_map.1 hn;have:=(hB.rs r hr).2.1;omega
  ·obtain⟨w,hw,rfl⟩:=List.mem_map.1 hn;have:=(hB.wr w hw).2.1;omega
 refine cmo zo2 ?_;rintro e V1 ⟨rfl,fo,sV1,hbV1⟩;have hI:=zrC fo (hS.own.row.below hbV1) (fun a ha=>by have:=(zav hS.own ha).2.1;omega) hsl1 hsl2;obtain⟨Kp,hKp⟩:∃ Kp:(Nat->Prop)->World->Prop,Kp=fun F Y=>V1.heap.size<=Y.heap.size/\∀ k,k<V.heap.size->(Rd k\/W.heap.size<=k)->Y.heap[k]?=V.heap[k]?/\¬ F k:=⟨_,rfl⟩;have hF0:∀ k,F0 k->k<W.heap.size:=fun k hk=>(hJ.lt _ _ _ _ h0 hk).1;have hLV:=hlt hS.fL;have hRV:=hlt hS.fR;have hb1:Bw W V1:=hbV.trans (hbV1.mono hVs);refine zft (sgOk _) rfl (lb := #[At0 V.heap.size]) rfl rfl hI (Nat.le_refl _) (fun k hk=>⟨?_,rfl⟩) (fun pre vs W ⟨l,q,_,h,_⟩=>by rw [h];rfl) (by decide)
  F0 (fun pre F Y=>J (pre.map (zdQ m)) F Y/\Kp F Y) (fun _ _ _ _=>False) (fun k hk=>?_) ⟨?_,?_⟩ (fun ex=>⟨fun _ _ _ _ h=>h.elim,fun _ _ _ _ h=>h.elim⟩) ⟨hJ.step _ _ _ _ h0 (.below hb1),?_⟩ ?_ ?_ ?_
 ·rcases hk with (rfl | ⟨a,ha,rfl⟩) | h
  ·omega
  ·have:=(zav hS.own ha).2.1;omega
  ·exact h.elim
 ·rcases hk with rfl | ⟨a,ha,rfl⟩
  ·intro h;have:=hF0 _ h;omega
  ·intro h;have:=hF0 _ h;have:=(zav hS.own ha).1;omega
 ·rintro pre F A C ⟨hj,hk⟩ hs;rw [hKp] at hk ⊢;have hss:=hs.size;exact⟨hJ.step _ _ _ _ hj (hs.mono (by omega)),Nat.le_trans hk.1 hss,fun k h1 h2=>⟨(hs.same k (by have:=hk.1;omega) (.inl ⟨by omega,fun h=>h⟩)).trans (hk.2 k h1 h2).1,(hk.2 k h1 h2).2⟩⟩
 ·rintro pre F A k ⟨hj,_⟩ hk;exact hJ.lt _ _ _ _ hj hk
 ·rw [hKp];refine⟨Nat.le_refl _,fun k h1 h2=>⟨hbV1.block k h1,fun h=>?_⟩⟩;rcases h2 with h2 | h2
  ·exact hrf k h2 h
  ·have:=hF0 k h;omega
 ·rintro yl2 pre ds vs F Y hyl hpre hJ0 ⟨l,qd,hlast,rfl,hsl,hcel⟩ hfy ⟨lo,hlo⟩;have hdx:ds=l:=by simpa using hlast
  subst hdx;refine⟨rfl,F,KeepsG.refl _ _,hJ0,?_⟩;rintro O Y2 hY2 ⟨hj,hkp⟩;rw [hKp] at hkp;obtain⟨hY2s,hkp⟩:=hkp;have hkq:=hkp;have hslY:SlR natE Y2 qd ds:=by
   rw [hY2];refine zbk hsl fun a ha=>zag fun e=>?_;obtain⟨cur,hcur⟩:=hcel a ha;rw [e,hlo] at hcur
   cases hcur
  obtain⟨hdl,hdlt⟩:=zna (hpre.subset (List.mem_append_right _ (List.mem_singleton.2 rfl)));have hdl2:ds.length=m.rs.length+m.wr.length:=by
   rw [hdl];unfold zdL;rw [lap,List.length_map,List.length_map]
  have hMY:MixM Rd Y2 b o m q c p1 p2 p3 c1 c2 c3 xs ys:=hMV.same fun k hk=>(hkp k (by have:=hRW k hk;omega) (.inl hk)).1;have fxY:=(hkp bx (by have:=hRW bx hbx;omega) (.inl hbx)).1.trans fxV;have fLY:=(hkp L hLV (.inr (by omega))).1.trans hS.fL;have fRY:=(hkp R hRV (.inr (by omega))).1.trans hS.fR;have kR:∀ {α:Type} {E:Enc α} {T cc:Nat} {r:Option Addr} {ll:List α},OwnS E T W.heap.size V r cc ll->OwnS E T W.heap.size Y2 r cc ll:=fun {α E T cc r ll} h=>h.same fun a ha=>(hkp _ (zav h ha).2.1 (.inr (zav h ha).1)).1;have rkY:=kR hS.rk;have n1Y:=fun z hz=>kR (hS.n1 z hz);have n2Y:=fun z hz y hy=>kR (hS.n2 z hz y hy);clear hkp hlo hcel hsl;have hbY:b<Y2.heap.size:=by have:=hRW b hM.db;omega
  refine⟨_,zac (zab fxY) (i:=0) rfl,?_⟩;have hbase:zaw Y2 ⟨b,o,none⟩ (exC m.base q c):=by
   have:=zaD (n:=0) (m:=333) hMY.cells;rw [List.drop_zero,List.take_append_of_le_length (by rw [zao];decide),List.take_of_length_le (by rw [zao];decide)] at this;exact this
  refine⟨exC m.base q c,zao _ _ _,hbase,hbY,?_⟩;obtain⟨M,hMM⟩:=nm (Y2.heap.size);refine zan (X:=Y2) (v := .agg (exC m.base q c).toArray) k34 (zao _ _ _) zbI (zde _ _ _) fun Z hbZ fZ sZ=>?_;have fZ:ExH Z Y2.heap.size m.base q c:=fZ;rw [<- hMM] at fZ ⊢;refine⟨_,zac (zab fZ) (i:=0) rfl,?_⟩;refine cmo (zi6 (hMY.ev.below hbZ) (by omega) hMY.qn) ?_;rintro e Z2 ⟨⟨q1,k1,rfl,oE⟩,hbZ2⟩;refine zas k22 (zaa hbZ2 fZ) (o:=0+0) (v := .slice q1 m.base.ev.length k1) rfl rfl (by rw [zao];decide) rfl fun S fS gS sS=>?_;rw [show 0+0=0 from rfl,zr3] at fS;have hMZ2:M<Z2.heap.size:=by have:=hbZ2.size;omega
  have hbS:Bw Y2 S:=((zst hbZ hbZ2)).trans (zap gS (by omega) (by omega));have oES:OwnS evE 54 Y2.heap.size S q1 k1 m.base.ev:=zaY (oE.lower hbZ.size) (zaa hbZ2 fZ) (by decide) gS;clear oE gS sS fZ hbZ hbZ2;have tMY:∀ {S:World},Bw Y2 S->MixM Rd S b o m q c p1 p2 p3 c1 c2 c3 xs ys:=fun {S} hb=>hMY.same fun k hk=>hb.block k (by have:=hRW k hk;omega);have hxlen:=hxl;refine⟨_,zac (zab (zaa hbS fxY)) (i:=0) rfl,?_⟩;refine⟨_,zgg (tMY hbS).cells (i:=0) rfl,?_⟩;refine⟨Nat,fun k=>⟨[(1,At0 bx),(2,At0 L),(6,At0 R),(10,.slice qd ds.length ds.length),(11,At0 M),(67,.slice p1 m.rs.length c1),(68,i64 m.rs.length),(69,i64 (k:Nat))],[]⟩,
   fun k Z=>k<=m.rs.length/\ExH Z M { m.base with rf:=⟨m.base.rf.n,rfF (m.rs.take k) ds m.base.rf.to⟩ } q1 k1/\OwnS evE 54 Y2.heap.size Z q1 k1 m.base.ev/\Bw Y2 Z,fun k=>m.rs.length-k,0,
   (cvE rfl rfl),⟨Nat.zero_le _,fS,oES,hbS⟩,?_⟩
  clear fS oES hbS;rintro k Z ⟨hk,fZ,oE,hbZ⟩;refine biE (fun hc=>?_) fun hc=>?_
  ·have hc:(k:Int)<(m.rs.length:Int):=dT hc;have hkl:k<m.rs.length:=by omega
   have hZM:=tMY hbZ;have hZs:=hbZ.size;obtain⟨⟨r,s⟩,hrs⟩:∃ x,m.rs[k]=x:=⟨_,rfl⟩;obtain⟨hr48,hs1,hs48⟩:=hB.rs (r,s) (by rw [<- hrs];exact gM hkl);dsimp only at hr48 hs1 hs48;have hkx:k<xs.length:=by omega
   obtain⟨y,hyk⟩:∃ y,xs[k]=y:=⟨_,rfl⟩;have hym:y∈xs:=by rw [<- hyk];exact gM hkx
   have hys:y.1=s:=by
    have h1:(xs.map (·.1))[k]?=some y.1:=(by rw [List.getElem?_map,gE hkx,hyk];rfl);rw [hM.e2,List.getElem?_map,gE hkl,hrs] at h1;exact (Option.some.inj h1).symm
   obtain⟨d,hd⟩:∃ d,ds[k]?=some d:=⟨_,gE (by omega)⟩;have hkd:k<ds.length:=by omega
   have hde:ds[k]=d:=by rw [gE hkd] at hd;exact Option.some.inj hd
   have hdlt2:d<y.1.length:=by
    refine hdlt k _ d ?_ hd;unfold zdL;rw [List.getElem?_append_left (by rw [List.length_map];exact hkl),List.getElem?_map,gE hkl,hrs,hys];rfl
   have hdlt3:d<s.length:=by rw [<- hys];exact hdlt2
   obtain⟨t,ht⟩:∃ t,y.1[d]=t:=⟨_,rfl⟩;have hts:s[d]=t:=by
    have h1:y.1[d]?=some t:=(by rw [gE hdlt2,ht]);rw [hys,gE hdlt3] at h1;exact Option.some.inj h1
   have ht48:t<48:=hs48 t (by rw [<- hts];exact gM hdlt3);have hgt:s.getD (ds.getD k 0) 0=t:=by
    rw [gDe,gDe,hd];show (s[d]?).getD 0=t;rw [gE hdlt3,hts];rfl
   have htk:rfF (m.rs.take (k+1)) ds m.base.rf.to=upd (rfF (m.rs.take k) ds m.base.rf.to) t (rfF (m.rs.take k) ds m.base.rf.to t|||2^r):=by
    rw [tsg hkl,hrs,zj6,List.length_take,Nat.min_eq_left hk,hgt]
   obtain⟨G,hG⟩:=nm (rfF (m.rs.take k) ds m.base.rf.to);have hGw:WrdR G:=by
    rw [hG];exact zmk (ds:=[]) hB.rf fun r hr=>(hB.rs r (List.mem_of_mem_take hr)).1
   rw [<- hG] at fZ htk;obtain⟨A,T,hA,hE⟩:=zpg { m.base with rf:=⟨m.base.rf.n,G⟩ } q1 k1;have hRel:RelAt Z M 50 34 A T ⟨m.base.rf.n,G⟩:=⟨hA,by rw [<- hE];exact fZ⟩;have hr1:k<(m.rs.map (·.1)).length:=by rw [List.length_map];exact hkl
   obtain⟨b1,o1,hp1,hl1,hat1⟩:=hZM.r1.at hr1;obtain⟨b2,o2,hp2,hl2,hat2⟩:=hZM.r2.at hkx;obtain⟨b3,o3,hp3,hl3,hat3⟩:=(hZM.n2 y hym).at hdlt2;have hslZ:=hslY.below hbZ;obtain⟨b4,o4,hp4,hl4,hat4⟩:=hslZ.at hkd;have e1:some (Value.slice p1 m.rs.length c1)=some (Value.slice (some ⟨b1,o1,none⟩) m.rs.length c1):=by rw [hp1]
   subst hp1;subst hp2;subst hp4;refine⟨k,rfl,hkl,?_⟩;refine⟨i64 r,by have:=zac (hat1 k hr1) (i:=0) (v:=i64 r) (by rw [List.getElem_map,hrs];rfl);exact this,?_⟩;have dZ:Bw Z Z.drew:=(Below.refl _ _).drew;refine DrawE.ord [23] [0,1,2,3,4,5,6,7,8,9,10,11,12,13,14,15,16,17,18,19,20,21,22,23] (by kernel_rfl) ?_;refine⟨_,zac (zab (hdr (zaa hbZ fxY))) (i:=0) rfl,?_⟩;refine⟨_,zgg (hZM.same (X:=Z.drew) fun _ _=>rfl).cells (i:=1) rfl,?_⟩;refine⟨k,rfl,hkx,?_⟩;refine⟨slV y,by have:=zac (zae dZ (hat2 k hkx)) (i:=0) (v:=slV y) (by rw [hyk];rfl);exact this,?_⟩;refine⟨k,rfl,hkd,?_⟩;refine⟨i64 d,by have:=zac (zae dZ (hat4 k hkd)) (i:=0) (v:=i64 d) (by rw [hde];rfl);exact this,?_⟩;unfold slV;rw [hp3];refine⟨d,rfl,hdlt2,?_⟩;refine⟨i64 t,by have:=zac (zae dZ (hat3 d hdlt2)) (i:=0) (v:=i64 t) (by rw [ht];rfl);exact this,?_⟩;refine⟨t,rfl,ht48,?_⟩;refine⟨s64 (G t),(hRel.same (Y:=Z.drew) rfl).cell ht48,?_⟩;refine⟨by omega,_,zbQ (e:=r) (by omega),?_⟩;refine⟨_,zcz (hGw t ht48) (zaK (by omega)),?_⟩;refine⟨t,rfl,ht48,?_⟩;refine zas k24 (hRel.same (Y:=Z.drew) rfl).cells (o:=50+1+t*1) (v:=s64 (G t|||2^r)) rfl rfl (by rw [hRel.len];omega) rfl fun S fS gS sS=>?_;rw [hRel.set ht48] at fS;have gS2:Z.grownBy S (some M):=zaf (zaj dZ) gS;refine nxI (by omega) ?_;refine⟨k+1,(cvE rfl rfl),⟨hkl,?_,zaY oE fZ (by decide) gS2,hbZ.trans (zap gS2 hZs (by omega))⟩,zdc (by omega)⟩;rw [htk];have e5:=hE ⟨m.base.rf.n,upd G t (G t|||2^r)⟩;show S.heap[M]?=some (.cells (exC { m.base with rf:=⟨m.base.rf.n,upd G t (G t|||2^r)⟩ } q1 k1).toArray _ _);exact fS.trans (by rw [<- e5])
  have hc:¬ (k:Int)<(m.rs.length:Int):=dF hc;obtain rfl:k=m.rs.length:=by omega
  rw [List.take_length] at fZ;obtain⟨RF,hRF⟩:∃ RF:ExD,RF={ m.base with rf:=⟨m.base.rf.n,rfF m.rs ds m.base.rf.to⟩ }:=⟨_,rfl⟩;rw [<- hRF] at fZ;have hRFe:RF.ev=m.base.ev:=by rw [hRF]
  have hRFc:RF.co=m.base.co:=by rw [hRF]
  have hRFm:RF.mem=m.base.mem:=by rw [hRF]
  obtain⟨dl,hdle⟩:=nm (ds.drop m.rs.length);have hdll:dl.length=m.wr.length:=by rw [hdle,List.length_drop];omega
  have hslD:SlR natE Y2 (zbw qd ds.length m.rs.length 1) dl:=by
   have:=hslY.sub (cap:=ds.length) (lo:=m.rs.length) (hi:=ds.length) (by omega) (Nat.le_refl _) (Nat.le_refl _);rw [List.take_of_length_le (by rw [List.length_drop];exact Nat.le_refl _),<- hdle] at this;exact this
  refine⟨_,zac (zab (zaa hbZ fxY)) (i:=0) rfl,?_⟩;refine⟨_,zgg (tMY hbZ).cells (i:=0) rfl,?_⟩;refine⟨m.rs.length,rfl,by omega,?_⟩;obtain⟨qD,hqD⟩:=nm (zbw qd ds.length m.rs.length 1);rw [<- hqD] at hslD ⊢;have hdn:ds.length-m.rs.length=dl.length:=by omega
  rw [hdn];obtain⟨Rs,hRs⟩:=nm (m.wr.map zdb);have hRsl:Rs.length=m.wr.length:=by rw [hRs,List.length_map]
  have hzl:zs.length=m.wr.length:=by have:=congrArg List.length hz;simpa using this
  have hRsb:∀ R∈Rs,∀ k∈R,k≠[]/\k.length<=48/\∀ a∈k,a<m.base.ev.length:=fun R hR k hk=>by
   rw [hRs] at hR;obtain⟨w,hw,rfl⟩:=List.mem_map.1 hR;exact (hB.wr w hw).2.2 k hk
  refine⟨Nat,fun l=>⟨[(1,At0 bx),(2,At0 L),(6,At0 R),(11,At0 M),(104,.slice qD dl.length dl.length),(105,i64 dl.length),(106,i64 (l:Nat))],[]⟩,
   fun l Z=>l<=dl.length/\ExH Z M { RF with co:=(coG m.base.ev 0 (Rs.take l) dl (RF.co,RF.mem)).1,mem:=(coG m.base.ev 0 (Rs.take l) dl (RF.co,RF.mem)).2 } q1 k1/\OwnS evE 54 Y2.heap.size Z q1 k1 m.base.ev/\Bw Y2 Z,fun l=>dl.length-l,0,
   (cvE rfl rfl),⟨Nat.zero_le _,fZ,oE,hbZ⟩,?_⟩
  clear fZ oE hbZ;rintro l Z ⟨hl,fZ,oE,hbZ⟩;obtain⟨P,hP⟩:=nm (coG m.base.ev 0 (Rs.take l) dl (RF.co,RF.mem));rw [<- hP] at fZ;have hZs:=hbZ.size;have hPw:WrdR P.1.to:=by
   rw [hP];refine znk (by rw [hRFc];exact hB.co) fun R hR k hk a ha=>?_;have:=(hRsb R (List.mem_of_mem_take hR) k hk).2.2 a ha;omega
  refine biE (fun hc=>?_) fun hc=>?_
  ·have hc:(l:Int)<(dl.length:Int):=dT hc;have hll:l<dl.length:=by omega
   have hlz:l<zs.length:=by omega
   have hlR:l<Rs.length:=by omega
   obtain⟨z,hzk⟩:∃ z,zs[l]=z:=⟨_,rfl⟩;have hzm:z∈zs:=by rw [<- hzk];exact gM hlz
   have hzR:Rs[l]?=some (z.1.map (·.1)):=by
    rw [hRs,<- hz,List.getElem?_map,gE hlz,hzk];rfl
   have hzRm:z.1.map (·.1)∈Rs:=List.mem_of_getElem? hzR;obtain⟨d,hd⟩:∃ d,dl[l]=d:=⟨_,rfl⟩;have hdd:dl[l]?=some d:=by rw [gE hll,hd]
   have hdz:d<z.1.length:=by
    refine hdlt (m.rs.length+l) _ d ?_ (by rw [hdle,List.getElem?_drop] at hdd;exact hdd);unfold zdL;rw [List.getElem?_append_right (by rw [List.length_map];omega),List.length_map,Nat.add_sub_cancel_left];have:=hzR;rw [hRs,List.getElem?_map] at this;rw [List.getElem?_map]
    cases hw:m.wr[l]? with
    | none=>rw [hw] at this;cases this
    | some w =>
     rw [hw] at this;have h2:zdb w=z.1.map (·.1):=Option.some.inj this;show some (zdb w).length=_;rw [h2,List.length_map]
   obtain⟨y,hyk⟩:∃ y,z.1[d]=y:=⟨_,rfl⟩;have hym:y∈z.1:=by rw [<- hyk];exact gM hdz
   obtain⟨hy0,hy48,hyev⟩:=hRsb _ hzRm y.1 (List.mem_map.2 ⟨y,hym,rfl⟩);have hgy:(z.1.map (·.1)).getD d []=y.1:=by
    rw [gDe,List.getElem?_map,gE hdz,hyk];rfl
   obtain⟨hlR2,hzR2⟩:=List.getElem?_eq_some_iff.1 hzR;have htk:coG m.base.ev 0 (Rs.take (l+1)) dl (RF.co,RF.mem)=(zdd y.1 P.1,upd P.2 l (zfB m.base.ev y.1)):=by
    rw [tsg hlR,hzR2,zkB,<- hP,List.length_take,Nat.min_eq_left (by omega),Nat.zero_add];rw [show dl.getD l 0=d by rw [gDe,hdd];rfl,hgy]
   obtain⟨bD,oD,hpD,hlD,hatD⟩:=(hslD.below hbZ).at hll;obtain⟨bR,oR,hpR,hlR0,hatR⟩:=(rkY.below hbZ).row.at hlz;obtain⟨bz,oz,hpz,hlz0,hatz⟩:=((n1Y z hzm).below hbZ).row.at hdz;have hyrow:=((n2Y z hzm y hym).below hbZ).row;have hylt:=fun a ha=>(zav (n2Y z hzm y hym) (a:=a) ha).2.1;subst hpD;subst hpR;refine⟨l,rfl,hll,?_⟩;refine⟨i64 d,by have:=zac (hatD l hll) (i:=0) (v:=i64 d) (by rw [hd];rfl);exact this,?_⟩;refine⟨_,zac (zab (zaa hbZ fRY)) (i:=0) rfl,?_⟩;refine⟨l,rfl,hlz,?_⟩;refine⟨.slice z.2.1 z.1.length z.2.2,by have:=zac (hatR l hlz) (i:=0) (v := .slice z.2.1 z.1.length z.2.2) (by rw [hzk];rfl);exact this,?_⟩;rw [hpz];refine⟨d,rfl,hdz,?_⟩;refine⟨slV y,by have:=zac (hatz d hdz) (i:=0) (v:=slV y) (by rw [hyk];rfl);exact this,?_⟩;obtain⟨A,T,hA,hE⟩:=zm0 { RF with co:=P.1,mem:=P.2 } q1 k1;have hRel:RelAt Z M 99 34 A T P.1:=⟨hA,by rw [<- hE];exact fZ⟩;refine cmo (zo7 hRel hPw hyrow (fun a ha=>by have:=hylt a ha;omega) (by omega) (fun a ha=>by have:=hyev a ha;omega)) ?_;rintro e V2 ⟨rfl,hRel2,gV2⟩;have fV2:ExH V2 M { RF with co:=zdd y.1 P.1,mem:=P.2 } q1 k1:=by
    have e5:=hE (zdd y.1 P.1);show V2.heap[M]?=some (.cells (exC { RF with co:=zdd y.1 P.1,mem:=P.2 } q1 k1).toArray _ _);exact hRel2.cells.trans (by rw [<- e5])
   have hbV2:Bw Y2 V2:=hbZ.trans (zap gV2 hZs (by omega));have oE2:=zaY oE fZ (by decide) gV2;have hyr2:=((n2Y z hzm y hym).below hbV2).row;obtain⟨j,hj2⟩:∃ j,j+1=y.1.length:=⟨y.1.length-1,by have:=List.length_pos_iff.2 hy0;omega⟩;have hjl:j<y.1.length:=by omega
   obtain⟨b6,o6,hp6,hl6,hat6⟩:=hyr2.at hjl;obtain⟨t,ht⟩:∃ t,y.1[j]=t:=⟨_,rfl⟩;have htev:t<m.base.ev.length:=hyev t (by rw [<- ht];exact gM hjl);have hlast:y.1.getLastD 0=t:=by
    rw [List.getLastD_eq_getLast?,List.getLast?_eq_getElem?,show y.1.length-1=j by omega,gE hjl,ht];rfl
   obtain⟨b7,o7,hp7,hl7,hat7⟩:=oE2.row.at htev;have hlV:zfB m.base.ev y.1=(m.base.ev[t]).v:=by
    show (m.base.ev.getD (y.1.getLastD 0) ev0).v=_;rw [hlast,gDe,gE htev];rfl
   have dV:Bw V2 V2.drew:=(Below.refl _ _).drew;have hl6':l<6:=by omega
   unfold slV;rw [hp6];refine DrawE.ord [15] [0,1,2,3,4,5,6,7,8,9,10,11,12,13,14,15] (by kernel_rfl) ?_;refine⟨.slice q1 m.base.ev.length k1,by have:=zac (zab (hdr fV2)) (i:=0) (v := .slice q1 RF.ev.length k1) rfl;rw [hRFe] at this;exact this,?_⟩;refine⟨(j:Nat),(zak (by omega)).trans (by omega),?_⟩;refine⟨j,rfl,hjl,?_⟩;refine⟨i64 t,by have:=zac (zae dV (hat6 j hjl)) (i:=0) (v:=i64 t) (by rw [ht];rfl);exact this,?_⟩;rw [hp7];refine⟨t,rfl,htev,?_⟩;refine⟨u8 (m.base.ev[t]).v,by have:=zac (zae dV (hat7 t htev)) (i:=3) (v:=u8 (m.base.ev[t]).v) rfl;exact this,?_⟩;refine⟨l,rfl,hl6',?_⟩;refine zas k5 (hdr fV2) (o:=327+l*1) (v:=u8 (m.base.ev[t]).v) rfl rfl (by rw [zao];omega) rfl fun S fS gS sS=>?_;rw [Nat.mul_one,zqz _ _ _ hl6'] at fS;have gS2:V2.grownBy S (some M):=zaf (zaj dV) gS;refine nxI (by omega) ?_;refine⟨l+1,(cvE rfl rfl),⟨hll,?_,by rw [<- hp7];exact zaY oE2 fV2 (by decide) gS2,hbV2.trans (zap gS2 hbV2.size (by omega))⟩,zdc (by omega)⟩;rw [htk,hlV,<- hp7];exact fS
  have hc:¬ (l:Int)<(dl.length:Int):=dF hc;obtain rfl:l=dl.length:=by omega
  rw [List.take_of_length_le (by omega)] at hP;have hcand:zdQ m ds={ RF with co:=P.1,mem:=P.2 }:=by
   rw [hP,hRF,hdle,hRs];rfl
  rw [<- hcand] at fZ;have oE:OwnS evE 54 Y2.heap.size Z q1 k1 (zdQ m ds).ev:=oE;refine⟨_,zac (zab (zaa hbZ fLY)) (i:=0) rfl,?_⟩;refine⟨exC (zdQ m ds) q1 k1,zao _ _ _,zab fZ,hlt fZ,?_⟩;have hjZ:=hJ.step _ _ _ _ hj (StepG.below hbZ);have hGv:∀ k,GvX [.agg (exC (zdQ m ds) q1 k1).toArray] k->Y2.heap.size<=k/\∃ a,q1=some a/\k=a.block:=by
   rintro k ⟨x,a,cc,he,rfl⟩;have h1:(exC (zdQ m ds) q1 k1).toArray=(exC x (some a) cc).toArray:=by
    have:=List.head_eq_of_cons_eq he;exact Value.agg.inj this
   have h2:exC (zdQ m ds) q1 k1=exC x (some a) cc:=by simpa using h1
   have h3:Value.slice q1 (zdQ m ds).ev.length k1=Value.slice (some a) x.ev.length cc:=List.head_eq_of_cons_eq h2;have h4:q1=some a:=by injection h3
   exact⟨(zav oE h4).1,a,h4,rfl⟩
  have hmp:(pre++[ds]).map (zdQ m)=pre.map (zdQ m)++[zdQ m ds]:=by rw [List.map_append];rfl
  have hpm:(pre.map (zdQ m)++[zdQ m ds]) <+: zhd m:=by
   obtain⟨t,ht⟩:=hpre;refine⟨t.map (zdQ m),?_⟩;unfold zhd;rw [<- ht,List.map_append,hmp]
  refine YieldR.mono (hy _ (zdQ m ds) [.agg (exC (zdQ m ds) q1 k1).toArray] F Z hjZ ⟨_,q1,k1,by simp,rfl,oE.lower (by omega)⟩ (fun k hk=>by have:=(hGv k hk).1;omega) hpm) ?_;rintro v U ⟨rfl,F',hjU,kU⟩;refine brF ?_;have kF:KeepsG F F' Y2 U:=⟨kU.os.trans hbZ.os,kU.tape.trans hbZ.tape,kU.output.trans hbZ.output,Nat.le_trans hbZ.size kU.size,fun k hk hf=>(kU.same k (by omega) (fun h=>h.elim hf fun h=>by have:=(hGv k h).1;omega)).trans (hbZ.block k hk),fun k hk=>by
   rcases kU.fp k hk with (h | h) | h
   ·exact .inl h
   ·exact .inr (hGv k h).1
   ·exact .inr (by omega)⟩
  refine⟨F',⟨by rw [hmp];exact hjU,?_⟩,kF⟩;rw [hKp];refine⟨Nat.le_trans hY2s kF.size,fun k h1 h2=>?_⟩;obtain⟨h3,h4⟩:=hkq k h1 h2;refine⟨(kF.same k (by omega) h4).trans h3,fun h=>?_⟩;rcases kF.fp k h with h | h
  ·exact h4 h
  ·omega
 ·rintro D F Y hD hfD ⟨hj,hk⟩ hdef;refine⟨_,rfl,hdef,⟨_,rfl⟩,F,?_⟩;show J ((zeC (zdL m)).map (zdQ m)) F _;exact hJ.step _ _ _ _ hj (.put (by omega) hfD _)
 ·rintro D ex pre F Y hD hfD hpre h;exact h.elim
end
end Go.Proofs.YtmbghmhjjodgmaaGreatDoor
namespace Go.Sei
def isR (x : ExD) (i : Nat) : Bool := decide ((evA x i).k = 1)
def isW (x : ExD) (i : Nat) : Bool := decide ((evA x i).k = 2)
def accA (x : ExD) (i : Nat) : Bool := isR x i || isW x i
def hasM (r : RelD) (a b : Nat) : Bool := (r.to a).testBit b
def rowP (n : Nat) (p : Nat → Bool) : Nat := (List.range n).foldl (fun s b => if p b = true then s ||| 2 ^ b else s) 0
def zaX (n : Nat) (p : Nat → Nat → Bool) : RelD := zbP n fun a => rowP n (p a)
def za6 (r : RelD) (l : List RelD) : RelD := l.foldl (fun r o => (zfs r o).1) r
def frM (x : ExD) : RelD := (zbY (za3 x.rf) x.co).1
def zdj (x : ExD) (a b : Nat) : Bool := accA x a && (accA x b && decide ((evA x a).l = (evA x b).l))
def extM (x : ExD) (r : RelD) : RelD := zaX r.n.toNat fun a b => hasM r a b && !decide ((evA x a).th = (evA x b).th)
def intM (x : ExD) (r : RelD) : RelD := zaX r.n.toNat fun a b => hasM r a b && decide ((evA x a).th = (evA x b).th)
def locM (x : ExD) : RelD := zaX x.ev.length (zdj x)
def zcs (x : ExD) (md : UInt8) : Nat := ((List.range x.ev.length).filter fun i => decide ((evA x i).k = 3) && decide ((evA x i).m = md)).foldl (fun s i => s ||| 2 ^ i) 0
def zaz (x : ExD) (md : UInt8) : RelD := (zbY (zbY x.po (idR x.ev.length (zcs x md))).1 x.po).1
def zaG (x : ExD) (a : Nat) (md : UInt8) : Bool := decide ((evA x a).m = md) || decide ((evA x a).m = 3)
def zch (x : ExD) (f : RelD) (a b : Nat) : Bool := hasM f a b || (zaG x a 3 || zaG x b 3)
def zeU (m : Nat) (x : ExD) (f l s : RelD) (a b : Nat) : Bool :=
  match m with
  | 1 => false
  | 2 => true
  | 3 => isR x a || (isW x b || zch x f a b)
  | 4 => isR x a || (zch x f a b || (isW x b && (zdj x a b || hasM s a b)))
  | 5 => (isR x a && (zaG x a 1 || hasM l a b)) || ((isW x b && (zaG x b 2 || hasM s a b)) || hasM f a b)
  | 6 => hasM x.dt a b || ((hasM x.ct a b && isW x b) || (hasM x.rm a b || (hasM f a b || ((hasM l a b && (isR x a && isR x b)) || (hasM s a b && (isW x a && isW x b))))))
  | _ => false
def zcX (m : Nat) (x : ExD) : RelD := zaX x.ev.length fun a b => hasM x.po a b && (accA x a && (accA x b && zeU m x (zaz x 3) (zaz x 4) (zaz x 5) a b))
def zdW (x : ExD) : RelD := zaX x.ev.length fun a b => hasM x.po a b && zdj x a b
def zdH (m : Nat) (x : ExD) : Nat :=
  if acyR (za6 (zdW x) [x.rf, x.co, frM x]) = true then
    (if zeq (zd3 x.rm (zbY (frM x) x.co).1).1 = true then
      (if m = 1 then 0 else if acyR (za6 (zcX m x) [if m = 2 then x.rf else extM x x.rf, x.co, frM x]) = true then 0 else 3)
     else 2)
  else 1
def zbh (m : Nat) : Bool := decide (1 ≤ m) && decide (m ≤ 6)
def zg7 (m : Nat) (x : ExD) : Bool := zbh m && (zaL x && decide (zdH m x = 0))
def zi0 (m : Nat) (x : ExD) : Nat := if zbh m = true ∧ zaL x = true then zdH m x else 0
theorem znB {p:Nat->Bool} {n k:Nat} (hk:k<n) (h:p k=false):(List.range n).all p=false:=by
 rw [List.all_eq_false];exact⟨k,List.mem_range.2 hk,by rw [h];decide⟩
theorem zoN {p:Nat->Bool} {k:Nat} (h:(List.range k).all p=true) (hp:p k=true):(List.range (k+1)).all p=true:=by
 rw [List.range_succ,List.all_append,h];simp [hp]
theorem zb6 {a j:Nat}:(2^a).testBit j=decide (j=a):=by
 rw [Nat.testBit_two_pow];exact decide_eq_decide.2 ⟨fun e=>e.symm,fun e=>e.symm⟩
theorem zmp {a:Nat}:∀ (l:List Nat) (f:Nat->Nat) (b j:Nat),((l.foldl (fun f b=>upd f b (f b|||2^a)) f) b).testBit j=((f b).testBit j||(decide (b∈l)&&decide (j=a)))
 | [],f,b,j=>by simp
 | x::l,f,b,j=>by
  rw [List.foldl_cons,zmp l];by_cases hx:b=x
  ·subst hx;rw [zaZ,Nat.testBit_or,zb6];by_cases hl:b∈l <;> by_cases hj:j=a <;> simp [hl,hj]
  ·rw [zcf _ _ hx];simp [hx]
theorem zgE (to:Nat->Nat):∀ (n b j:Nat),(zdf to n b).testBit j=(decide (j<n)&&decide (b∈els (to j)))
 | 0,b,j=>by
  show (0:Nat).testBit j=_;simp
 | n+1,b,j=>by
  have ih:=zgE to n b j;unfold zdf at ih ⊢;rw [List.range_succ,List.foldl_append,List.foldl_cons,List.foldl_nil,zmp,ih];by_cases hj:j=n
  ·subst hj;simp
  ·by_cases h2:j<n
   ·rw [decide_eq_true h2,decide_eq_true (by omega:j<n+1),decide_eq_false hj];simp
   ·rw [decide_eq_false h2,decide_eq_false (by omega:¬ j<n+1),decide_eq_false hj];simp
theorem zkJ {r:RelD} (h:okR r=true) {b j:Nat}:((za3 r).to b).testBit j=(decide ((j:Int)<r.n)&&decide (b∈els (r.to j))):=by
 have hn:0<=r.n:=by
  unfold okR at h;rw [bAT,dE] at h;exact h.1
 have e:za3 r=⟨r.n,zdf r.to r.n.toNat⟩:=if_pos h;rw [e];show (zdf r.to r.n.toNat b).testBit j=_;rw [zgE];congr 1;exact decide_eq_decide.2 (by omega)
theorem zhR {s:Nat} (h0:s≠0) (h:s<2^64):ctz s∈els s:=by
 rw [(zbM h0 h).1];exact List.mem_cons_self
end Go.Sei
namespace Go.Proofs.YtmbghmhjjodgmaaGreatDoor
open Go.Vc Go.RowKit Go.Sei
section
variable {b c:Nat} {x:ExD} {q:Option Addr} {w:World}
theorem zgv {k:Nat}:x.ev.getD k ev0=evA x k:=rfl
theorem zmj (fx:ExH w b x q c) (hv:ExV w x q) (hn:x.rf.n=x.ev.length) (hok:okR x.rf=true) (hT:Tz64M w):CB 42 #[At0 b] w (.bool (zcT x)):=by
 refine cofM 72 [At0 b] (.s .p (.c .p .p)) Tryz.func42 ?_;obtain⟨from_,hfr⟩:∃ f,f=za3 x.rf:=⟨_,rfl⟩;have hn20:=hv.n;refine⟨Nat,fun F=>⟨[(0,At0 b),(3,At0 F)],[]⟩,fun F X=>RelH X F from_/\WrdR from_.to/\w.heap.size<=F/\Bw w X,?_,?_⟩
 ·refine⟨relC x.rf,zad _,?_,hlt fx,?_⟩
  ·have h:=zaD (n:=50) (m:=49) (zab fx);obtain⟨A,T,hA,hE⟩:=zpg x q c;have e:=hE x.rf;have e2:(exC x q c).drop 50=relC x.rf++T:=by
    show (exC { x with rf:=x.rf } q c).drop 50=_;rw [e,<- hA,List.drop_left]
   have e3:((exC x q c).toArray.toList.drop 50).take 49=relC x.rf:=by
    show ((exC x q c).drop 50).take 49=_;rw [e2,List.take_append_of_le_length (by rw [zad];decide),List.take_of_length_le (by rw [zad];decide)]
   rw [e3] at h;exact h
  refine cmo (zi7 hv.rf hT) ?_;rintro e Y ⟨rfl,hbY,hwr⟩;refine zan (X:=Y) (v := .agg (relC (za3 x.rf)).toArray) k27 (zad _) (by kernel_rfl) (zau _) fun Z hbZ fZ sZ=>?_;rw [<- hfr] at fZ hwr;exact⟨Y.heap.size,(cvE rfl rfl),fZ,hwr,hbY.size,(zst hbY hbZ)⟩
 rintro F X ⟨fF,hwr,hF,hbX⟩;have bits:∀ i j,(from_.to i).testBit j=true->j<x.ev.length:=fun i j h=>by
  rw [hfr,zkJ hok,bAT,dE,hn] at h;omega
 refine⟨_,zac (zab (zaa hbX fx)) (i:=0) rfl,?_⟩;refine⟨Nat,fun k=>⟨[(0,At0 b),(3,At0 F),(18,.slice q x.ev.length c),(19,i64 x.ev.length),(20,i64 (k:Nat))],[]⟩,fun k X=>k<=x.ev.length/\(List.range k).all (fun i=>zeJ x (from_.to i) (evA x i))=true/\RelH X F from_/\Bw w X,fun k=>x.ev.length-k,0,(cvE rfl rfl),⟨Nat.zero_le _,rfl,fF,hbX⟩,?_⟩;have hall:zcT x=(List.range x.ev.length).all fun i=>zeJ x (from_.to i) (evA x i):=by rw [hfr];rfl
 clear fF hbX;rintro k X ⟨hk,hgo,fF,hbX⟩;dsimp only;have hXs:=hbX.size;refine biE (fun hc=>?_) fun hc=>?_
 ·have hc:(k:Int)<(x.ev.length:Int):=dT hc;have hkl:k<x.ev.length:=by omega
  obtain⟨bq,oq,hqe,hb,hat⟩:=zep (hv.ev.below hbX) hkl;rw [zgv] at hat;obtain⟨e,he⟩:=nm (evA x k);obtain⟨s,hs⟩:=nm (from_.to k);rw [<- he] at hat;have hs64:s<2^64:=by rw [hs];exact hwr k (by omega)
  have eq0:some (Value.slice q x.ev.length c)=some (Value.slice (some ⟨bq,oq,none⟩) x.ev.length c):=by rw [hqe]
  subst hqe;refine⟨k,rfl,hkl,?_⟩;refine⟨evE.enc e,rfl,hat,hb,?_⟩;refine zan (X:=X) (v := .agg (evE.enc e).toArray) k54 rfl rfl (List.all_eq_true.2 fun u hu=>evE.one e u hu) fun Y hbY fY sY=>?_;have fY:Y.heap[X.heap.size]?=some (.cells (evE.enc e).toArray 54 (0,0)):=fY;have hbY2:=hbX.trans (hbY.mono hXs);have no:∀ {Z:World},Bw w Z->zeJ x s e=false->(Ending.returned (.bool false)=Ending.returned (.bool (zcT x))/\Bw w Z):=fun {Z} hb h=>⟨rb (by
   rw [hall];symm;exact znB hkl (by rw [<- hs,<- he];exact h)),hb⟩
  have yes:∀ {Z:World},RelH Z F from_->Bw w Z->zeJ x s e=true->(k+1<=x.ev.length/\(List.range (k+1)).all (fun i=>zeJ x (from_.to i) (evA x i))=true/\RelH Z F from_/\Bw w Z):=fun {Z} f hb h=>⟨hkl,zoN hgo (by rw [<- hs,<- he];exact h),f,hb⟩;refine⟨k,rfl,by omega,?_⟩;refine⟨s64 s,by rw [hs];exact zcC (zaa hbY fF) (by omega),?_⟩;refine⟨u8 e.k,zac (zab fY) (i:=1) rfl,?_⟩;refine biE (fun h=>?_) fun h=>?_
  ·have h:¬ e.k=1:=by
    have h:(!decide ((e.k.toNat:Int)=((1:UInt8).toNat:Int)))=true:=h;intro e2;rw [e2] at h;simp at h
   have hone:zeJ x s e=decide (s=0):=if_neg h;refine biE (fun h2=>?_) fun h2=>?_
   ·have h2:¬ s=0:=by
     have h2:(!decide ((s:Int)=0))=true:=h2;intro e2;rw [e2] at h2
     cases h2
    exact no hbY2 (by rw [hone];exact decide_eq_false h2)
   ·have h2:s=0:=by
     have h2:(!decide ((s:Int)=0))=false:=h2;have h2:(s:Int)=0:=(by simpa using h2);omega
    refine nxI (by omega) ?_;exact⟨k+1,(cvE rfl rfl),yes (zaa hbY fF) hbY2 (by rw [hone];exact decide_eq_true h2),zdc (by omega)⟩
  have h:e.k=1:=by
   have h:(!decide ((e.k.toNat:Int)=((1:UInt8).toNat:Int)))=false:=h;exact zbi.1 (by simpa using h)
  refine cmo (zcZ hs64 (hT.below hbY2)) ?_;rintro e2 Z ⟨rfl,hbZ⟩;have hYs:=hbY2.size;have hbZ2:=hbY2.trans (hbZ.mono hYs);have fZ:=zaa hbZ fY;have fFZ:=zaa hbZ (zaa hbY fF);by_cases hs0:s=0
  ·have e1:(els s).isEmpty=true:=by rw [hs0];rfl
   rw [e1];refine brT ?_;refine brT ?_;refine no hbZ2 ?_;unfold zeJ;rw [if_pos h,if_pos hs0]
  obtain⟨hd,hem⟩:=zdC hs0 hs64;rw [hd,hem];have hmem:=zhR hs0 hs64;have hbit:s.testBit (ctz s)=true:=(zcW.1 hmem).2;have hwl:ctz s<x.ev.length:=bits k _ (by rw [<- hs];exact hbit);refine brF ?_;refine⟨by omega,((2^ctz s:Nat):Int),zbQ (e:=ctz s) (by omega),?_⟩;refine biE (fun h2=>?_) fun h2=>?_
  ·have h2:¬ s=2^ctz s:=by
    have h2:(!decide ((s:Int)=((2^ctz s:Nat):Int)))=true:=h2;intro e2;rw [<- e2] at h2;simp at h2
   refine no hbZ2 ?_;unfold zeJ;rw [if_pos h,if_neg hs0,if_neg h2]
  have h2:s=2^ctz s:=by
   have h2:(!decide ((s:Int)=((2^ctz s:Nat):Int)))=false:=h2;have h2:(s:Int)=((2^ctz s:Nat):Int):=by simpa using h2
   exact Int.ofNat.inj h2
  obtain⟨t,ht⟩:=nm (ctz s);rw [<- ht] at hwl h2 ⊢;obtain⟨bq2,oq2,hqe2,hb2,hat2⟩:=zep (hv.ev.below hbZ2) hwl;rw [zgv] at hat2;obtain⟨f,hf⟩:=nm (evA x t);rw [<- hf] at hat2;have hone:zeJ x s e=(decide (f.k=2)&&(decide (f.l=e.l)&&decide (f.v=e.v))):=by
   unfold zeJ;rw [if_pos h,if_neg hs0,<- ht,if_pos h2,<- hf]
  refine⟨_,zac (zab (zaa hbZ2 fx)) (i:=0) rfl,?_⟩;refine⟨t,rfl,hwl,?_⟩;refine⟨evE.enc f,rfl,by
   simp only [Option.some.injEq,Addr.mk.injEq,and_true] at hqe2;rw [hqe2.1,hqe2.2];exact hat2,by
   simp only [Option.some.injEq,Addr.mk.injEq,and_true] at hqe2;rw [hqe2.1];exact hb2,?_⟩
  refine zan (X:=Z) (v := .agg (evE.enc f).toArray) k54 rfl rfl (List.all_eq_true.2 fun u hu=>evE.one f u hu) fun V hbV fV sV=>?_;have fV:V.heap[Z.heap.size]?=some (.cells (evE.enc f).toArray 54 (0,0)):=fV;have hbV2:=zst hbZ2 hbV;have fe:=zaa hbV fZ;have fFV:=zaa hbV fFZ;have n8:∀ {a d:UInt8},(!decide ((a.toNat:Int)=(d.toNat:Int)))=true->¬ a=d:=fun {a d} h e2=>by
   rw [e2] at h;simp at h
  have y8:∀ {a d:UInt8},(!decide ((a.toNat:Int)=(d.toNat:Int)))=false->a=d:=fun {a d} h=>zbi.1 (by simpa using h);refine⟨u8 f.k,zac (zab fV) (i:=1) rfl,?_⟩;refine biE (fun h3=>?_) fun h3=>?_
  ·have h3:¬ f.k=2:=n8 (d:=2) h3;refine brT ?_;refine brT ?_;exact no hbV2 (by rw [hone,decide_eq_false h3];rfl)
  have h3:f.k=2:=y8 (d:=2) h3;refine⟨u8 f.l,zac (zab fV) (i:=2) rfl,?_⟩;refine⟨u8 e.l,zac (zab fe) (i:=2) rfl,?_⟩;refine biE (fun h4=>?_) fun h4=>?_
  ·have h4:¬ f.l=e.l:=n8 h4;refine brT ?_;exact no hbV2 (by rw [hone,decide_eq_false h4,Bool.false_and,Bool.and_false])
  have h4:f.l=e.l:=y8 h4;refine⟨u8 f.v,zac (zab fV) (i:=3) rfl,?_⟩;refine⟨u8 e.v,zac (zab fe) (i:=3) rfl,?_⟩;refine biE (fun h5=>?_) fun h5=>?_
  ·have h5:¬ f.v=e.v:=n8 h5;exact no hbV2 (by rw [hone,decide_eq_false h5,Bool.and_false,Bool.and_false])
  have h5:f.v=e.v:=y8 h5;refine nxI (by omega) ?_;exact⟨k+1,(cvE rfl rfl),yes fFV hbV2 (by rw [hone,decide_eq_true h3,decide_eq_true h4,decide_eq_true h5];rfl),zdc (by omega)⟩
 ·have hc:¬ (k:Int)<(x.ev.length:Int):=dF hc;obtain rfl:k=x.ev.length:=by omega
  exact⟨rb (by rw [hall];exact hgo.symm),hbX⟩
end
theorem zss {bx n:Nat} {w:World} {i:Nat} (f:w.heap[bx]?=some (.cells #[i64 (n:Nat)] 3 (0,0))) (hn:n<=1000):Calls Tryz.prog 122 #[i64 (i:Nat),At0 bx] w fun e w'=>e = .returned (.bool true)/\w'.heap[bx]?=some (.cells #[i64 (n+1:Nat)] 3 (0,0))/\w.grownBy w' (some bx):=by
 refine cofE 6 [i64 (i:Nat),At0 bx] Tryz.func122 ?_;refine⟨_,zac (zab f) (i:=0) rfl,?_⟩;refine nxI (by omega) ?_;exact zas k3 f (o:=0) (v:=i64 (n+1:Nat)) rfl rfl (by show 0<1;decide) rfl fun w' f' g' s'=>⟨rfl,f',g'⟩
theorem zjK {bs bx s:Nat} {w:World} (fs:w.heap[bs]?=some (.cells #[s64 s] 24 (0,0))) (fx:w.heap[bx]?=some (.cells #[i64 (0:Nat)] 3 (0,0))) (hs:s<2^64) (hT:Tz64M w) (hbx:0≠bx) :
  Calls Tryz.prog 141 #[.func (.func 122) #[] #[At0 bx],At0 bs] w fun e w'=>(∃ v,e = .returned v)/\w'.heap[bx]?=some (.cells #[i64 (lenS s:Nat)] 3 (0,0))/\w.grownBy w' (some bx):=by
 refine cofE 16 [.func (.func 122) #[] #[At0 bx],At0 bs] Tryz.func141 ?_;refine⟨_,zac (zab fs) (i:=0) rfl,?_⟩;refine⟨Nat×Nat,fun q=>⟨[(0,.func (.func 122) #[] #[At0 bx]),(3,s64 q.2)],[]⟩,fun q X=>X.heap[bx]?=some (.cells #[i64 (q.1:Nat)] 3 (0,0))/\q.1+lenS q.2=lenS s/\q.2<2^64/\w.grownBy X (some bx),fun q=>q.2,(0,s),(cvE rfl rfl),⟨fx,Nat.zero_add _,hs,zbL _ _⟩,?_⟩;rintro⟨n,r⟩ X ⟨f,hn,hr,gX⟩;dsimp only at f hn hr ⊢;have hls:=zgw s;refine biE (fun hc=>?_) fun hc=>?_
 ·have hc:(!decide ((r:Int)=0))=true:=hc;have hc:¬ (r:Int)=0:=by simpa using hc
  have hr0:r≠0:=by omega
  obtain⟨e1,e2,_,_⟩:=zbM hr0 hr;have hl:lenS r=lenS (rest r)+1:=by unfold lenS;rw [e1];rfl
  have hTX:Tz64M X:=zb4 hT (gX.block _ (zcQ hT) (by simpa using hbx));refine cmo (zoY hTX hr0 hr) ?_;rintro e _ ⟨rfl,rfl⟩;have hn64:n<=1000:=by unfold lenS at hn;omega
  refine cmo (zss f hn64) ?_;rintro e V ⟨rfl,fV,gV⟩;refine brF ?_;refine⟨((r-1:Nat):Int),(zc3 (a:=(r:Int)-1) (by omega)).trans (by omega),?_⟩;refine⟨((rest r:Nat):Int),zbW (a:=r) (b:=r-1) hr (by omega),?_⟩;exact⟨(n+1,rest r),(cvE rfl rfl),⟨fV,by show n+1+lenS (rest r)=_;omega,by show rest r<_;omega,zaf gX gV⟩,e2⟩
 ·have hc:(!decide ((r:Int)=0))=false:=hc;have hc:(r:Int)=0:=by simpa using hc
  obtain rfl:r=0:=by omega
  have h0:lenS 0=0:=rfl;rw [h0,Nat.add_zero] at hn;exact⟨⟨_,rfl⟩,by rw [<- hn];exact f,gX⟩
theorem zsr {s:Nat} {w:World} (hs:s<2^64) (hT:Tz64M w):CB 91 #[s64 s] w (i64 (lenS s:Nat)):=by
 refine cofM 11 [s64 s] (.s .p (.c .p .p)) Tryz.func91 ?_;obtain⟨L,hL⟩:=nm (w.heap.size);refine⟨Unit,fun _=>⟨[(0,s64 s),(3,At0 L)],[]⟩,fun _ Y=>Y.heap[L]?=some (.cells #[i64 (0:Nat)] 3 (0,0))/\Y.heap.size=L+1/\Bw w Y,?_,?_⟩
 ·refine zan (X:=w) (v:=i64 0) k3 rfl rfl rfl fun Y hbY fY sY=>?_;have fY:Y.heap[w.heap.size]?=some (.cells #[i64 (0:Nat)] 3 (0,0)):=fY;exact⟨(),⟨.cons rfl (.cons (by rw [hL];rfl) .nil),rfl⟩,by rw [hL];exact fY,by rw [hL];exact sY,hbY⟩
 rintro _ Y ⟨fY,sY,hbY⟩;refine cmo zhc ?_;rintro e _ ⟨rfl,rfl⟩;have hb2:Bw Y (Y.alloc (.cells #[s64 s] 24)):=zba _ _;have htl:=zcQ hT;refine cmo (zjK (hnew Y _) (zaa hb2 fY) hs ((hT.below hbY).below hb2) (by omega)) ?_;rintro e Z ⟨⟨v,rfl⟩,fZ,gZ⟩;refine⟨_,zac (zab fZ) (i:=0) rfl,rfl,?_⟩;exact ((zst hbY hb2)).trans (zap gZ (by have:=hbY.size;have:=hb2.size;omega) (by omega))
def cmpI (x y:Nat):Int:=if x<y then -1 else if y<x then 1 else 0
theorem zo5 {x:Nat} {w:World}:Calls Tryz.prog 121 #[i64 (x:Nat)] w fun e w'=>e = .returned (.bool false)/\w=w':=by
 refine cofE 6 [i64 (x:Nat)] Tryz.func121 ?_;exact⟨rb (by simp),rfl⟩
theorem zlE {x y:Nat} {w:World}:Calls Tryz.prog 90 #[i64 (x:Nat),i64 (y:Nat)] w fun e w'=>e = .returned (i64 (cmpI x y))/\w=w':=by
 refine cofE 20 [i64 (x:Nat),i64 (y:Nat)] Tryz.func90 ?_;refine cmo zo5 ?_;rintro e _ ⟨rfl,rfl⟩;refine cmo zo5 ?_;rintro e _ ⟨rfl,rfl⟩;refine brF ?_;refine brF ?_;refine biE (fun h=>?_) fun h=>?_
 ·have h:(x:Int)<y:=dT h;exact⟨ri (by unfold cmpI;rw [if_pos (by omega)]),rfl⟩
 have h:¬ (x:Int)<y:=dF h;refine biE (fun h2=>?_) fun h2=>?_
 ·have h2:(y:Int)<x:=dT h2;exact⟨ri (by unfold cmpI;rw [if_neg (by omega),if_pos (by omega)]),rfl⟩
 ·have h2:¬ (y:Int)<x:=dF h2;exact⟨ri (by unfold cmpI;rw [if_neg (by omega),if_neg (by omega)]),rfl⟩
section
variable {b c L:Nat} {x:ExD} {q:Option Addr} {w:World}
theorem zpj {X:World} (fx:ExH X b x q c) {i:Nat} (hi:i<48):X.cell? ⟨b,0+99+1+i*1,none⟩=some (s64 (x.co.to i)):=by
 obtain⟨A,T,hA,hE⟩:=zm0 x q c;have hR:RelAt X b 99 34 A T x.co:=⟨hA,by rw [<- hE];exact fx⟩;exact hR.cell hi
theorem zsg {u v:Nat} (fx:ExH w b x q c) (fL:w.heap[L]?=some (.cells #[At0 b] 79 (0,0))) (hco:WrdR x.co.to) (hu:u<48) (hv:v<48) (hT:Tz64M w) :
  CB 89 #[i64 (u:Nat),i64 (v:Nat),At0 L] w (i64 (cmpI (lenS (x.co.to v)) (lenS (x.co.to u)))):=by
 refine cofE 23 [i64 (u:Nat),i64 (v:Nat),At0 L] Tryz.func89 ?_;refine DrawE.ord [] [0,1,2,3,4,5,6,8,9,10,11,12,13,14,7,15,16,17] (by kernel_rfl) ?_;have hd:Bw w w.drew:=(Below.refl _ _).drew;refine⟨_,zac (zab (hdr fL)) (i:=0) rfl,?_⟩;refine⟨v,rfl,hv,?_⟩;refine⟨_,zpj (hdr fx) hv,?_⟩;refine⟨_,zac (zab (hdr fL)) (i:=0) rfl,?_⟩;refine⟨u,rfl,hu,?_⟩;refine⟨_,zpj (hdr fx) hu,?_⟩;refine cmo (zsr (hco v hv) (hT.below hd)) ?_;rintro e X ⟨rfl,hbX⟩;refine⟨hbX,?_⟩;refine cmo (zsr (hco u hu) ((hT.below hd).below hbX)) ?_;rintro e Y ⟨rfl,hbY⟩;refine⟨hbY,?_⟩;refine cmo zlE ?_;rintro e _ ⟨rfl,rfl⟩;exact⟨Below.refl _ _,rfl,(hd.trans hbX).trans (hbY.mono hbX.size)⟩
end
theorem zg6 {key:Nat->Nat} {x:Nat}:∀ (B A:List Nat),(∀ y∈B,key y<key x)->zbC key (B++A) x=B++zbC key A x
 | [],A,_=>rfl
 | y::B,A,h=>by
  show (if key y<key x then y::zbC key (B++A) x else x::y::(B++A))=_;rw [if_pos (h y List.mem_cons_self),zg6 B A fun z hz=>h z (List.mem_cons_of_mem _ hz)];rfl
theorem zg5 {key:Nat->Nat} {x:Nat}:∀ r:List Nat,(zbC key r x).length=r.length+1
 | []=>rfl
 | y::r=>by
  unfold zbC
  split
  ·show (zbC key r x).length+1=_;rw [zg5 r];rfl
  ·rfl
theorem zfk {key:Nat->Nat} {x a:Nat}:∀ r:List Nat,a∈zbC key r x↔a=x\/a∈r
 | []=>by simp [zbC]
 | y::r=>by
  unfold zbC
  split
  ·rw [List.mem_cons,zfk r,List.mem_cons];constructor
   ·rintro (h | h | h) <;> simp [h]
   ·rintro (h | h | h) <;> simp [h]
  ·simp
def zdO (key:Nat->Nat) (l:List Nat):List Nat:=l.foldl (fun acc x=>zbC key acc x) []
theorem zkY (key:Nat->Nat) (l:List Nat) (x:Nat):zdO key (l++[x])=zbC key (zdO key l) x:=by
 unfold zdO;rw [List.foldl_append];rfl
theorem zdE {key:Nat->Nat} {a:Nat}:∀ (l acc:List Nat),a∈l.foldl (fun acc x=>zbC key acc x) acc↔a∈l\/a∈acc
 | [],acc=>by simp
 | x::l,acc=>by
  rw [List.foldl_cons,zdE l,zfk,List.mem_cons];constructor
  ·rintro (h | h | h) <;> simp [h]
  ·rintro ((h | h) | h) <;> simp [h]
theorem zdF {key:Nat->Nat}:∀ (l acc:List Nat),(l.foldl (fun acc x=>zbC key acc x) acc).length=l.length+acc.length
 | [],acc=>by simp
 | x::l,acc=>by
  rw [List.foldl_cons,zdF l,zg5,List.length_cons];omega
theorem zib {key:Nat->Nat} {l:List Nat} {a:Nat}:a∈zhm key l↔a∈l:=by
 unfold zhm;rw [List.mem_reverse,zdE];simp
theorem zl2 {key:Nat->Nat} (l:List Nat):(zhm key l).length=l.length:=by
 unfold zhm;rw [List.length_reverse,zdF];rfl
section
variable {b c L g cap:Nat} {x:ExD} {q:Option Addr} {w:World} {l:List Nat}
abbrev keyC (x:ExD):Nat->Nat:=fun i=>lenS (x.co.to i)
theorem zli {B:Nat} (ho:OwnS natE 3 B w (some ⟨g,0,none⟩) cap l) (fx:ExH w b x q c) (fL:w.heap[L]?=some (.cells #[At0 b] 79 (0,0))) (hT:Tz64M w) (htg:0≠g) (hco:WrdR x.co.to) (h48:∀ a∈l,a<48) (hn:l.length<=19) (hn1:1<=l.length) :
  Calls Tryz.prog 168 #[.slice (some ⟨g,0,none⟩) l.length cap,i64 0,i64 l.length,.func (.func 89) #[] #[At0 L]] w fun e w'=>e = .returned (.tuple #[])/\OwnS natE 3 B w' (some ⟨g,0,none⟩) cap (zhm (keyC x) l)/\w.grownBy w' (some g):=by
 refine cofM 53 [.slice (some ⟨g,0,none⟩) l.length cap,i64 0,i64 l.length,.func (.func 89) #[] #[At0 L]] (.c .p .p) Tryz.func168 ?_;obtain⟨E0,hE0⟩:∃ E0:List (Nat×Value),E0=[(0,.slice (some ⟨g,0,none⟩) l.length cap),(1,i64 0),(2,i64 l.length),(3,.func (.func 89) #[] #[At0 L])]:=⟨_,rfl⟩;have hbg:b≠g:=fun e=>by
  obtain⟨_,_,cur,hc⟩:=zav ho rfl;have hc:w.heap[g]?=_:=hc;rw [<- e,fx] at hc;simp at hc
 have hLg:L≠g:=fun e=>by
  obtain⟨_,_,cur,hc⟩:=zav ho rfl;have hc:w.heap[g]?=_:=hc;rw [<- e,fL] at hc;simp at hc
 refine⟨Unit,fun _=>⟨[(0,.slice (some ⟨g,0,none⟩) l.length cap),(1,i64 0),(2,i64 l.length),(3,.func (.func 89) #[] #[At0 L]),(8,i64 1)],[]⟩,fun _ X=>w=X,?_,?_⟩
 ·refine⟨1,zak (by omega),?_⟩;exact⟨(),(cvE rfl rfl),rfl⟩
 rintro _ _ rfl;have hl0:l.take 1=(zdO (keyC x) (l.take 1)).reverse:=by
  cases l with
  | nil=>simp at hn1
  | cons a l=>rfl
 refine⟨Nat,fun i=>⟨[(0,.slice (some ⟨g,0,none⟩) l.length cap),(1,i64 0),(2,i64 l.length),(3,.func (.func 89) #[] #[At0 L]),(8,i64 (i:Nat))],[]⟩,fun i X=>(1<=i/\i<=l.length)/\OwnS natE 3 B X (some ⟨g,0,none⟩) cap ((zdO (keyC x) (l.take i)).reverse++l.drop i)/\w.grownBy X (some g),fun i=>l.length-i,1,
  (cvE rfl rfl),⟨⟨Nat.le_refl _,hn1⟩,by rw [<- hl0,List.take_append_drop];exact ho,zbL _ _⟩,?_⟩
 rintro i X ⟨⟨hi1,hi⟩,oX,gX⟩;dsimp only;refine biE (fun hc=>?_) fun hc=>?_
 ·have hc:(i:Int)<(l.length:Int):=dT hc;have hil:i<l.length:=by omega
  obtain⟨u,hu⟩:∃ u,l[i]=u:=⟨_,rfl⟩;have hum:u∈l:=by rw [<- hu];exact gM hil
  obtain⟨S,hS⟩:=nm (zdO (keyC x) (l.take i));have hSm:∀ a∈S,a<48:=fun a ha=>by
   rw [hS] at ha;have:=(zdE (key:=keyC x) (l.take i) []).1 ha;rcases this with h | h
   ·exact h48 a (List.mem_of_mem_take h)
   ·cases h
  have hSl:S.length=i:=by
   rw [hS];unfold zdO;rw [zdF,List.length_take];simp;omega
  have htk:zdO (keyC x) (l.take (i+1))=zbC (keyC x) S u:=by
   rw [tsg hil,hu,zkY,<- hS]
  rw [<- hS,<- List.getElem_cons_drop hil,hu] at oX;refine⟨List Nat×List Nat,fun s=>⟨[(0,.slice (some ⟨g,0,none⟩) l.length cap),(1,i64 0),(2,i64 l.length),(3,.func (.func 89) #[] #[At0 L]),(8,i64 (i:Nat)),(9,i64 s.1.length)],[]⟩,fun s Y=>S.reverse=s.1++s.2/\(∀ y∈s.2,keyC x y<keyC x u)/\OwnS natE 3 B Y (some ⟨g,0,none⟩) cap (s.1++u::(s.2++l.drop (i+1)))/\w.grownBy Y (some g),fun s=>s.1.length,(S.reverse,[]),
   ⟨.cons rfl (.cons rfl (.cons rfl (.cons rfl (.cons rfl (.cons (by show _=some (i64 (S.reverse.length:Nat));rw [List.length_reverse,hSl];rfl) .nil))))),rfl⟩,⟨by rw [List.append_nil],fun y hy=>(by cases hy),oX,gX⟩,?_⟩
  clear oX gX;rintro⟨A,Bs⟩ Y ⟨hsp,hkB,oY,gY⟩;dsimp only at hsp hkB oY ⊢;have hAl:A.length<=i:=by
   have:=congrArg List.length hsp;rw [List.length_reverse,hSl,lap] at this;omega
  have hdY:Bw Y Y.drew:=(Below.refl _ _).drew;have fin:∀ {Z:World},Bw Y Z->zbC (keyC x) A.reverse u=u::A.reverse->((1<=i+1/\i+1<=l.length)/\OwnS natE 3 B Z (some ⟨g,0,none⟩) cap ((zdO (keyC x) (l.take (i+1))).reverse++l.drop (i+1))/\w.grownBy Z (some g)):=fun {Z} hb hins=>by
   refine⟨⟨by omega,hil⟩,?_,zbm gY (hb.mono gY.size)⟩;have h1:S=Bs.reverse++A.reverse:=by rw [<- List.reverse_append,<- hsp,List.reverse_reverse]
   rw [htk,h1,zg6 _ _ (fun y hy=>hkB y (by simpa using hy)),hins];have h2:(Bs.reverse++u::A.reverse).reverse++l.drop (i+1)=A++u::(Bs++l.drop (i+1)):=by simp
   rw [h2];exact oY.below hb
  refine DrawE.ord [] [0,1,2,3,4,5,6,7,8,9,10,11,12,13,14,15,16] (by kernel_rfl) ?_;refine biE (fun h=>?_) fun h=>?_
  ·have h:(0:Int)<(A.length:Int):=dT h;obtain⟨A',y,hA⟩:∃ A' y,A=A'++[y]:=by
    refine⟨A.dropLast,A.getLast (fun e=>by rw [e] at h;simp at h),(List.dropLast_concat_getLast _).symm⟩
   subst hA;have hA'l:(A'++[y]).length=A'.length+1:=by simp
   rw [hA'l] at hAl h ⊢;have hrl:((A'++[y])++u::(Bs++l.drop (i+1))).length=l.length:=by
    have:=congrArg List.length hsp;rw [List.length_reverse,hSl] at this;simp only [lap,List.length_cons,List.length_nil,List.length_drop] at this ⊢;omega
   have hyS:y<48:=hSm y (by
    have:y∈S.reverse:=(by rw [hsp];simp);simpa using this)
   obtain⟨b',o',hq',hb',hat'⟩:=oY.row.at (i:=A'.length) (by rw [hrl];omega);have hbo:b'=g/\o'=0:=by simpa using hq'.symm
   obtain⟨rfl,rfl⟩:=hbo;have c1:Y.cell? ⟨b',0+(A'.length+1)*1,none⟩=some (i64 u):=by
    have:=zac (hat' (A'.length+1) (by rw [hrl];omega)) (i:=0) (v:=i64 u) (by
     have e:((A'++[y])++u::(Bs++l.drop (i+1)))[A'.length+1]?=some u:=by
      rw [List.getElem?_append_right (by simp),hA'l,Nat.sub_self];rfl
     rw [gE (by rw [hrl];omega)] at e;rw [Option.some.inj e];rfl)
    exact this
   have c2:Y.cell? ⟨b',0+A'.length*1,none⟩=some (i64 y):=by
    have:=zac (hat' A'.length (by rw [hrl];omega)) (i:=0) (v:=i64 y) (by
     have e:((A'++[y])++u::(Bs++l.drop (i+1)))[A'.length]?=some y:=by
      rw [List.append_assoc,List.getElem?_append_right (Nat.le_refl _),Nat.sub_self];rfl
     rw [gE (by rw [hrl];omega)] at e;rw [Option.some.inj e];rfl)
    exact this
   refine⟨A'.length+1,rfl,by omega,?_⟩;refine⟨_,c1,?_⟩;refine⟨(A'.length:Nat),(zak (by omega)).trans (by omega),?_⟩;refine⟨A'.length,rfl,by omega,?_⟩;refine⟨_,c2,?_⟩;have fxY:ExH Y b x q c:=(gY.block b (hlt fx) (by simpa using hbg)).trans fx;have fLY:Y.heap[L]?=some (.cells #[At0 b] 79 (0,0)):=(gY.block L (hlt fL) (by simpa using hLg)).trans fL;have hTY:Tz64M Y:=zb4 hT (gY.block _ (zcQ hT) (by simpa using htg));refine cmo (zsg (hdr fxY) (hdr fLY) hco (h48 u hum) hyS (hTY.below hdY)) ?_;rintro e Z ⟨rfl,hbZ⟩;refine⟨hbZ,?_⟩;have hYZ:=hdY.trans hbZ;refine biE (fun hm=>?_) fun hm=>?_
   ·have hm:cmpI (lenS (x.co.to y)) (lenS (x.co.to u))<0:=dT hm;have hk:keyC x y<keyC x u:=by
     unfold cmpI at hm;by_cases h1:lenS (x.co.to y)<lenS (x.co.to u)
     ·exact h1
     ·rw [if_neg h1] at hm
      split at hm <;> omega
    have oZ:=oY.below hYZ;have gZ:=zbm gY (hYZ.mono gY.size);obtain⟨b2,o2,hq2,hb2,hat2⟩:=oZ.row.at (i:=A'.length) (by rw [hrl];omega);have hbo2:b2=b'/\o2=0:=(by simpa using hq2.symm);obtain⟨rfl,rfl⟩:=hbo2;have dZ:Bw Z Z.drew:=(Below.refl _ _).drew;have d1:=zeg hYZ c1;have d2:=zeg hYZ c2;refine DrawE.ord [15,17] [0,1,2,3,4,5,6,7,8,9,10,11,12,13,14,15,16,17] (by kernel_rfl) ?_;refine⟨(A'.length:Nat),(zak (by omega)).trans (by omega),?_⟩;refine⟨(A'.length:Nat),(zak (by omega)).trans (by omega),?_⟩;refine⟨A'.length,rfl,by omega,?_⟩;refine⟨_,d2,?_⟩;refine⟨A'.length+1,rfl,by omega,?_⟩;refine⟨_,d1,?_⟩;refine⟨A'.length+1,rfl,by omega,?_⟩;refine zjm (i:=A'.length+1) (v:=y) k3 rfl (oZ.below dZ) (by rw [hrl];omega) fun V oV gV=>?_;refine⟨A'.length,rfl,by omega,?_⟩;refine zjm (i:=A'.length) (v:=u) k3 rfl oV (by rw [List.length_set,hrl];omega) fun U oU gU=>?_;have e1:(((A'++[y])++u::(Bs++l.drop (i+1))).set (A'.length+1) y).set A'.length u=A'++u::((y::Bs)++l.drop (i+1)):=by
     rw [List.append_assoc,List.set_append_right _ _ (by omega),Nat.add_sub_cancel_left,List.set_append_right _ _ (by omega),Nat.sub_self];rfl
    rw [e1] at oU;refine⟨(A'.length:Nat),(zak (by omega)).trans (by omega),?_⟩;refine⟨(A',y::Bs),(cvE rfl rfl),⟨by rw [hsp];simp,fun z hz=>?_,oU,zaf (zaf (zbm gZ (dZ.mono gZ.size)) gV) gU⟩,by show A'.length<_;omega⟩;rcases List.mem_cons.1 hz with hz | hz
    ·rw [hz];exact hk
    ·exact hkB z hz
   ·have hm:¬ cmpI (lenS (x.co.to y)) (lenS (x.co.to u))<0:=dF hm;have hk:¬ keyC x y<keyC x u:=fun h=>hm (by unfold cmpI;rw [if_pos h];decide);refine nxI (by omega) ?_;refine⟨i+1,(cvE rfl rfl),fin hYZ ?_,zdc (by omega)⟩;rw [List.reverse_append];exact if_neg hk
  ·have h:¬ (0:Int)<(A.length:Int):=dF h;have hA0:A=[]:=List.length_eq_zero_iff.1 (by omega);subst hA0;refine brF ?_;refine nxI (by omega) ?_;exact⟨i+1,(cvE rfl rfl),fin hdY rfl,zdc (by omega)⟩
 ·have hc:¬ (i:Int)<(l.length:Int):=dF hc;obtain rfl:i=l.length:=by omega
  rw [List.take_length,List.drop_length,List.append_nil] at oX;exact⟨rfl,oX,gX⟩
end
theorem zsG:∃ G,TyEq Tryz.prog 30 true 6 2 G/\∀ f:Nat->UInt8,G (seg 6 fun i=>u8 (f i)):=by
 refine⟨_,.array (m:=6) (by decide) Tryz.underlying30 (fun w=>Tryz.isAgg30 w) (zbK (by kernel_rfl) (by kernel_rfl)).1 (by kernel_rfl) tU8,fun f i hi=>?_⟩;refine⟨((f i).toNat:Int),?_⟩;unfold zbE;have h:=zeH (n:=6) (fun i=>u8 (f i)) hi;rw [Nat.mul_one];have hl:i<(seg 6 fun i=>u8 (f i)).length:=by rw [zay];exact hi
 rw [<- List.getElem_cons_drop hl,List.take_succ_cons,List.take_zero];rw [gE hl] at h;rw [Option.some.inj h];rfl
theorem zok {f g:Nat->UInt8}:seg 6 (fun i=>u8 (f i))=seg 6 (fun i=>u8 (g i))↔((List.range 6).all fun l=>decide (f l=g l))=true:=by
 rw [List.all_eq_true];constructor
 ·intro h i hi;have hi:=List.mem_range.1 hi;have h3:=zeH (n:=6) (fun i=>u8 (f i)) hi;rw [h,zeH (n:=6) (fun i=>u8 (g i)) hi] at h3;have h4:=Option.some.inj h3;unfold u8 at h4;injection h4 with _ h5;exact decide_eq_true (zbi.1 h5).symm
 ·intro h;unfold seg;refine List.map_congr_left fun i hi=>?_;rw [dT (h i hi)]
theorem zoE (x y:Operand) (f g:Nat->UInt8) (w:World):(do eqGuard .eql 30 x y (.agg (seg 6 fun i=>u8 (f i)).toArray) (.agg (seg 6 fun i=>u8 (g i)).toArray);binOp .eql 30 (.agg (seg 6 fun i=>u8 (f i)).toArray) (.agg (seg 6 fun i=>u8 (g i)).toArray)).run Tryz.prog w = .ok (.bool ((List.range 6).all fun l=>decide (f l=g l))) w:=by
 obtain⟨G,h1,h2⟩:=zsG;have:=zm3 h1 9998 rfl (by kernel_rfl) (zay 6 _) (zay 6 _) (h2 f) (h2 g) x y w;rw [this,zfR zok,Bool.decide_eq_true]
section
variable {b c L g cap:Nat} {x:ExD} {q:Option Addr} {w:World} {l:List Nat}
theorem zlZ {B:Nat} (ho:OwnS natE 3 B w (some ⟨g,0,none⟩) cap l) (fx:ExH w b x q c) (fL:w.heap[L]?=some (.cells #[At0 b] 79 (0,0))) (hT:Tz64M w) (htg:0≠g) (hco:WrdR x.co.to) (h48:∀ a∈l,a<48) (hn:l.length<=19) (hn1:1<=l.length) :
  Calls Tryz.prog 120 #[.slice (some ⟨g,0,none⟩) l.length cap,i64 l.length,.func (.func 89) #[] #[At0 L]] w fun e w'=>e = .returned (.tuple #[])/\OwnS natE 3 B w' (some ⟨g,0,none⟩) cap (zhm (keyC x) l)/\w.grownBy w' (some g):=by
 refine cofE 63 [.slice (some ⟨g,0,none⟩) l.length cap,i64 l.length,.func (.func 89) #[] #[At0 L]] Tryz.func120 ?_;refine⟨Unit,fun _=>⟨[(0,.slice (some ⟨g,0,none⟩) l.length cap),(1,i64 l.length),(2,.func (.func 89) #[] #[At0 L]),(6,i64 20),(7,i64 0),(8,i64 20)],[]⟩,fun _ X=>w=X,fun _=>0,(),(cvE rfl rfl),rfl,?_⟩;rintro _ _ rfl;refine brN (decide_eq_false (by omega)) ?_;refine cmo (zli ho fx fL hT htg hco h48 hn hn1) ?_;rintro e X ⟨rfl,oX,gX⟩;refine⟨Unit,fun _=>⟨[(1,i64 l.length),(6,i64 20)],[]⟩,fun _ Y=>X=Y,fun _=>0,(),(cvE rfl rfl),rfl,?_⟩;rintro _ _ rfl;refine brN (decide_eq_false (by omega)) ?_;exact⟨rfl,oX,gX⟩
theorem zh2 {B:Nat} (ho:OwnS natE 3 B w (some ⟨g,0,none⟩) cap l) (fx:ExH w b x q c) (fL:w.heap[L]?=some (.cells #[At0 b] 79 (0,0))) (hT:Tz64M w) (htg:0≠g) (hco:WrdR x.co.to) (h48:∀ a∈l,a<48) (hn:l.length<=19) (hn1:1<=l.length) :
  Calls Tryz.prog 88 #[.slice (some ⟨g,0,none⟩) l.length cap,.func (.func 89) #[] #[At0 L]] w fun e w'=>e = .returned (.tuple #[])/\OwnS natE 3 B w' (some ⟨g,0,none⟩) cap (zhm (keyC x) l)/\w.grownBy w' (some g):=by
 refine cofE 9 [.slice (some ⟨g,0,none⟩) l.length cap,.func (.func 89) #[] #[At0 L]] Tryz.func88 ?_;refine cmo (zlZ ho fx fL hT htg hco h48 hn hn1) ?_;rintro e X ⟨rfl,h1,h2⟩;exact⟨rfl,h1,h2⟩
theorem zmQ {l:List Nat} (h:0<l.length):l.headD 48=l[0]:=by
 cases l with
 | nil=>simp at h
 | cons a r=>rfl
theorem zoW {k a:Nat} (h:a∈za9 x k):a<x.ev.length:=by
 unfold za9 at h;exact List.mem_range.1 (List.mem_filter.1 h).1
theorem zmn {k a:Nat} (h:a∈zaM x k):a<x.ev.length:=zoW (zib.1 h)
theorem zr2 (q:Option Addr) (c:Nat):((exC x q c).drop 99).take 49=relC x.co:=by
 obtain⟨A,T,hA,hE⟩:=zm0 x q c;show ((exC { x with co:=x.co } q c).drop 99).take 49=_;rw [hE,<- hA,List.drop_left,List.take_append_of_le_length (by rw [zad];decide),List.take_of_length_le (by rw [zad];decide)]
theorem zmZ (q:Option Addr) (c:Nat):((exC x q c).drop 327).take 6=seg 6 fun i=>u8 (x.mem i):=by
 obtain⟨A,T,hA,hE⟩:=zpf x q c [];have:=hE x.mem;rw [List.append_nil] at this;show ((exC { x with mem:=x.mem } q c).drop 327).take 6=_;rw [this,<- hA,List.drop_left,List.take_append_of_le_length (by rw [zay];decide),List.take_of_length_le (by rw [zay];decide)]
abbrev zq8 (X:World) (b:Nat) (f:Nat->UInt8):Prop:=X.heap[b]?=some (.cells (seg 6 fun i=>u8 (f i)).toArray 30 (0,0))
theorem znj {locs:Nat} (fx:ExH w b x q c) (hv:ExV w x q) (hlo:locs<=6) (hne:∀ l,l<locs->za9 x l≠[]) (hT:Tz64M w) :
  CB 43 #[At0 b,i64 locs] w (.bool (zcF x locs)):=by
 refine cofM 87 [At0 b,i64 locs] (.c .p (.c .p (.c .p (.c .p .p)))) Tryz.func43 ?_;obtain⟨L,hL⟩:=nm (w.heap.size);have hbw:=hlt fx;have hn:=hv.n;have htl:=zcQ hT;refine⟨Unit,fun _=>⟨[(1,i64 locs),(2,At0 L)],[]⟩,fun _ X=>X.heap[L]?=some (.cells #[At0 b] 79 (0,0))/\X.heap.size=L+1/\Bw w X,⟨(),⟨.cons rfl (.cons (by rw [hL];rfl) .nil),rfl⟩,by rw [hL];exact hnew w _,by rw [hL];exact wz _ _,(zba w _)⟩,?_⟩;rintro _ X ⟨fL,sX,hbX⟩;refine⟨Unit,fun _=>⟨[(1,i64 locs),(2,At0 L),(5,At0 (L+1))],[]⟩,fun _ Y=>RelH Y (L+1) ⟨x.ev.length,fun _=>0⟩/\Y.heap.size=L+2/\Bw X Y,?_,?_⟩
 ·refine⟨_,zac (zab fL) (i:=0) rfl,?_⟩;refine⟨_,zac (zab (zaa hbX fx)) (i:=0) rfl,?_⟩;refine⟨relC ⟨x.ev.length,fun _=>0⟩,by kernel_rfl,?_⟩;refine zan (X:=X) (v := .agg (relC ⟨x.ev.length,fun _=>0⟩).toArray) k27 (zad _) (by kernel_rfl) (zau _) fun Z hbZ fZ sZ=>?_;rw [sX] at fZ sZ;exact⟨(),⟨.cons rfl (.cons rfl (.cons (by rw [<- sX];rfl) .nil)),rfl⟩,fZ,sZ,hbZ⟩
 rintro _ Y ⟨fT,sY,hbY⟩;refine⟨Unit,fun _=>⟨[(1,i64 locs),(2,At0 L),(5,At0 (L+1)),(6,At0 (L+2))],[]⟩,fun _ Z=>zq8 Z (L+2) (fun _=>0)/\RelH Z (L+1) ⟨x.ev.length,fun _=>0⟩/\Z.heap[L]?=some (.cells #[At0 b] 79 (0,0))/\Z.heap.size=L+3/\Bw w Z,?_,?_⟩
 ·exact⟨(),⟨.cons rfl (.cons rfl (.cons rfl (.cons (by rw [<- sY];rfl) .nil))),rfl⟩,by rw [<- sY];exact hnew Y _,hold _ fT,hold _ (zaa hbY fL),by rw [wz,sY],((zst hbX hbY)).alloc (by have:=hbX.size;have:=hbY.size;omega) _⟩
 clear fL sX hbX fT sY hbY;clear X Y;rintro _ X ⟨fM,fT,fL,sX,hbX⟩;obtain⟨P0,hP0⟩:∃ P0:RelD×(Nat->UInt8),P0=(⟨x.ev.length,fun _=>0⟩,fun _=>0):=⟨_,rfl⟩;have hco:zcF x locs=match coGo x locs 0 P0 with
  | none=>false
  | some p=>zbe p.1 x.co&&(List.range 6).all fun l=>decide (p.2 l=x.mem l):=by rw [hP0];rfl
 refine⟨RelD×(Nat->UInt8),fun P=>⟨[(2,At0 L),(5,At0 (L+1)),(6,At0 (L+2))],[]⟩,fun P Z=>coGo x locs 0 P0=some P/\zq8 Z (L+2) P.2/\RelH Z (L+1) P.1/\Z.heap[L]?=some (.cells #[At0 b] 79 (0,0))/\Bw w Z,?_,?_⟩
 ·refine⟨Nat×(RelD×(Nat->UInt8)),fun s=>⟨[(2,At0 L),(5,At0 (L+1)),(6,At0 (L+2)),(17,i64 locs),(18,i64 (s.1:Nat))],[]⟩,fun s Z=>s.1<=locs/\coGo x (locs-s.1) s.1 s.2=coGo x locs 0 P0/\WrdR s.2.1.to/\zq8 Z (L+2) s.2.2/\RelH Z (L+1) s.2.1/\Z.heap[L]?=some (.cells #[At0 b] 79 (0,0))/\Bw w Z/\L+3<=Z.heap.size,fun s=>locs-s.1,(0,P0),
   (cvE rfl rfl),⟨Nat.zero_le _,rfl,by rw [hP0];exact fun i _=>(by show 0<_;decide),by rw [hP0];exact fM,by rw [hP0];exact fT,fL,hbX,by omega⟩,?_⟩
  clear fM fT fL sX hbX;rintro⟨l,P⟩ Z ⟨hl,hgo,hPw,fM,fT,fL,hbZ,sZ⟩;dsimp only at hl hgo hPw fM fT sZ ⊢;refine biE (fun hc=>?_) fun hc=>?_
  ·have hc:(l:Int)<(locs:Int):=dT hc;have hll:l<locs:=by omega
   have hstep:coGo x (locs-l) l P=if (zaM x l).headD 48=l then coGo x (locs-(l+1)) (l+1) (zdd (zaM x l) P.1,upd P.2 l (zfB x.ev (zaM x l))) else none:=by
    rw [show locs-l=(locs-(l+1))+1 by omega];rfl
   refine⟨_,zac (zab fL) (i:=0) rfl,?_⟩;refine⟨_,zac (zab (zaa hbZ fx)) (i:=0) rfl,?_⟩;obtain⟨pr,hpr⟩:∃ pr:Nat->Bool,pr=fun i=>decide ((evA x i).k=2)&&decide ((evA x i).l.toNat=l):=⟨_,rfl⟩;refine⟨Nat×Option Addr×Nat,fun s=>⟨[(2,At0 L),(5,At0 (L+1)),(6,At0 (L+2)),(7,i64 (l:Nat)),(8,.slice s.2.1 ((List.range s.1).filter pr).length s.2.2),(17,i64 locs),(18,i64 (l:Nat)),(24,.slice q x.ev.length c),(25,i64 x.ev.length),(26,i64 (s.1:Nat))],[]⟩,fun s V=>s.1<=x.ev.length/\OwnS natE 3 Z.heap.size V s.2.1 s.2.2 ((List.range s.1).filter pr)/\Bw Z V,fun s=>x.ev.length-s.1,(0,none,0),
    (cvE rfl rfl),⟨Nat.zero_le _,OwnS.nil,Below.refl _ _⟩,?_⟩
   rintro⟨k,ps,cs⟩ V ⟨hk,oV,hbV⟩;dsimp only at hk oV ⊢;have hVs:=hbV.size;refine biE (fun hc=>?_) fun hc=>?_
   ·have hc:(k:Int)<(x.ev.length:Int):=dT hc;have hkl:k<x.ev.length:=(by omega);have hbwV:=zst hbZ hbV;obtain⟨bq,oq,hqe,hb,hat⟩:=zep (hv.ev.below hbwV) hkl;rw [zgv] at hat;have hfl:(List.range (k+1)).filter pr=(List.range k).filter pr++if pr k=true then [k] else []:=by
     rw [List.range_succ,List.filter_append,List.filter_cons,List.filter_nil]
    have hprk:pr k=(decide ((evA x k).k=2)&&decide ((evA x k).l.toNat=l)):=(by rw [hpr]);have hll2:((List.range k).filter pr).length<=k:=by
     have:=List.length_filter_le pr (List.range k);rw [List.length_range] at this;exact this
    obtain⟨e,he⟩:=nm (evA x k);rw [<- he] at hat hprk;have eq0:some (Value.slice q x.ev.length c)=some (Value.slice (some ⟨bq,oq,none⟩) x.ev.length c):=(by rw [hqe]);subst hqe;refine⟨k,rfl,hkl,?_⟩;refine⟨evE.enc e,rfl,hat,hb,?_⟩;refine zan (X:=V) (v := .agg (evE.enc e).toArray) k54 rfl rfl (List.all_eq_true.2 fun u hu=>evE.one e u hu) fun U hbU fU sU=>?_;have fU:U.heap[V.heap.size]?=some (.cells (evE.enc e).toArray 54 (0,0)):=fU;have oU:=oV.below hbU;have hbU2:=hbV.trans (hbU.mono hVs);have hUs:=hbU2.size;have skip:pr k=false->(k+1<=x.ev.length/\OwnS natE 3 Z.heap.size U ps cs ((List.range (k+1)).filter pr)/\Bw Z U):=fun h=>⟨hkl,by rw [hfl,h];simpa using oU,hbU2⟩;have skipE:pr k=false->((List.range (k+1)).filter pr).length=((List.range k).filter pr).length:=fun h=>by rw [hfl,h];simp
    refine⟨u8 e.k,zac (zab fU) (i:=1) rfl,?_⟩;refine biE (fun h1=>?_) fun h1=>?_
    ·have h1:e.k=2:=zbi.1 (dT h1);refine⟨u8 e.l,zac (zab fU) (i:=2) rfl,?_⟩;refine⟨(e.l.toNat:Int),zaP _,?_⟩;refine biE (fun h2=>?_) fun h2=>?_
     ·have h2:(e.l.toNat:Int)=(l:Int):=dT h2;have hp1:pr k=true:=(by rw [hprk,decide_eq_true h1,decide_eq_true (by omega:e.l.toNat=l)];rfl);rw [if_pos hp1] at hfl;refine⟨⟨by decide,by decide,rfl⟩,natE.enc k,rfl,?_⟩;have hb2:Bw U (U.alloc (.cells (natE.enc k).toArray 3)):=zba _ _;have sb2:=hb2.size;unfold opsE zda;show SatR _ _;refine appI (oU.below hb2) (zbg natE k) (by omega) (by omega) fun p' c' S oS gS hat2=>?_;rw [zcD] at gS;rw [<- hfl] at oS ⊢;refine nxI (by omega) ?_;exact⟨(k+1,p',c'),(cvE rfl rfl),⟨hkl,oS,hbU2.trans ((hb2.mono hUs).trans (za7 (oU.below hb2) (by omega) (Nat.le_refl _) gS))⟩,zdc (by omega)⟩
     ·have h2:¬ (e.l.toNat:Int)=(l:Int):=dF h2;have hp0:pr k=false:=(by rw [hprk,decide_eq_false (by omega:¬ e.l.toNat=l),Bool.and_false]);refine nxI (by omega) ?_;exact⟨(k+1,ps,cs),⟨.cons rfl (.cons rfl (.cons rfl (.cons rfl (.cons (by show _=some (Value.slice ps ((List.range (k+1)).filter pr).length cs);rw [skipE hp0];rfl) (.cons rfl (.cons rfl (.cons rfl (.cons rfl (.cons rfl .nil))))))))),rfl⟩,skip hp0,zdc (by omega)⟩
    ·have h1:¬ e.k=2:=fun e2=>(dF h1) (by rw [e2];rfl);have hp0:pr k=false:=(by rw [hprk,decide_eq_false h1];rfl);refine brF ?_;refine nxI (by omega) ?_;exact⟨(k+1,ps,cs),⟨.cons rfl (.cons rfl (.cons rfl (.cons rfl (.cons (by show _=some (Value.slice ps ((List.range (k+1)).filter pr).length cs);rw [skipE hp0];rfl) (.cons rfl (.cons rfl (.cons rfl (.cons rfl (.cons rfl .nil))))))))),rfl⟩,skip hp0,zdc (by omega)⟩
   have hc:¬ (k:Int)<(x.ev.length:Int):=dF hc;obtain rfl:k=x.ev.length:=by omega
   have hwr:(List.range x.ev.length).filter pr=za9 x l:=by rw [hpr];rfl
   rw [hwr] at oV ⊢;have hwn:=hne l hll;have hw1:1<=(za9 x l).length:=List.length_pos_iff.2 hwn;have hw19:(za9 x l).length<=19:=by
    have:=List.length_filter_le pr (List.range x.ev.length);rw [hwr,List.length_range] at this;omega
   have hps:∃ g,ps=some ⟨g,0,none⟩:=by
    rcases oV.inv with ⟨_,_,h⟩ | ⟨g,cur,h,_⟩
    ·exact (hwn h).elim
    ·exact⟨g,h⟩
   obtain⟨g,rfl⟩:=hps;have hg:=(zav oV rfl).1;have hg:Z.heap.size<=g:=hg;have hbwV:=zst hbZ hbV;have hZw:=hbZ.size;refine cmo (zh2 oV (zaa hbwV fx) (zaa hbV fL) (hT.below hbwV) (by omega) hv.co (fun a ha=>by have:=zoW ha;omega) hw19 hw1) ?_;rintro e U ⟨rfl,oU,gU⟩;have oU:OwnS natE 3 Z.heap.size U (some ⟨g,0,none⟩) cs (zaM x l):=oU;have hrl:(zaM x l).length=(za9 x l).length:=zl2 _;have hbU:Bw Z U:=hbV.trans (zap gU hVs hg);have hbwU:=hbZ.trans (hbU.mono hZw);have hU0:0<(zaM x l).length:=by omega
   obtain⟨bq,oq,hqe,hbq,hatq⟩:=oU.row.at hU0;have hbo:bq=g/\oq=0:=by simpa using hqe.symm
   obtain⟨rfl,rfl⟩:=hbo;rw [<- hrl];have hh:(zaM x l).headD 48=(zaM x l)[0]:=zmQ hU0;refine⟨0,rfl,hU0,?_⟩;refine⟨i64 (zaM x l)[0],by have:=zac (hatq 0 hU0) (i:=0) (v:=i64 (zaM x l)[0]) rfl;exact this,?_⟩;refine biE (fun h=>?_) fun h=>?_
   ·have h:(!decide (((zaM x l)[0]:Int)=(l:Int)))=true:=h;have h:¬ ((zaM x l)[0]:Int)=(l:Int):=(by simpa using h);rw [hstep,if_neg (by rw [hh];omega)] at hgo;refine⟨rb ?_,hbwU⟩;rw [hco,<- hgo]
   have h:(!decide (((zaM x l)[0]:Int)=(l:Int)))=false:=h;have h:((zaM x l)[0]:Int)=(l:Int):=by simpa using h
   rw [hstep,if_pos (by rw [hh];omega)] at hgo;have fTU:=zaa hbU fT;have hRT:RelAt U (L+1) 0 27 [] [] P.1:=⟨rfl,by simpa using fTU⟩;have hrk48:∀ a∈zaM x l,a<48:=fun a ha=>by have:=zmn ha;omega
   have hLZ:=hlt fT;have hL2Z:=hlt fM;refine cmo (zo7 hRT hPw oU.row (fun a ha=>by cases ha;exact⟨hbq,by show bq≠L+1;omega⟩) (by omega) hrk48) ?_;rintro e S ⟨rfl,hRS,gS⟩;have fTS:RelH S (L+1) (zdd (zaM x l) P.1):=by simpa using hRS.cells
   have hbS:Bw w S:=hbwU.trans (zap gS hbwU.size (by omega));have fMS:=(gS.block (L+2) (hlt (zaa hbU fM)) (by simp)).trans (zaa hbU fM);have fLS:=(gS.block L (hlt (zaa hbU fL)) (by simp)).trans (zaa hbU fL);have oS:=zaY oU fTU (by decide) gS;obtain⟨j,hj⟩:∃ j,j+1=(zaM x l).length:=⟨(zaM x l).length-1,by omega⟩;have hjl:j<(zaM x l).length:=by omega
   obtain⟨b6,o6,hp6,hl6,hat6⟩:=oS.row.at hjl;have hbo6:b6=bq/\o6=0:=by simpa using hp6.symm
   obtain⟨rfl,rfl⟩:=hbo6;obtain⟨t,ht⟩:∃ t,(zaM x l)[j]=t:=⟨_,rfl⟩;have htev:t<x.ev.length:=zmn (by rw [<- ht];exact gM hjl);have hlast:(zaM x l).getLastD 0=t:=by
    rw [List.getLastD_eq_getLast?,List.getLast?_eq_getElem?,show (zaM x l).length-1=j by omega,gE hjl,ht];rfl
   obtain⟨b7,o7,hp7,hl7,hat7⟩:=zep (hv.ev.below hbS) htev;rw [zgv] at hat7;have hlV:zfB x.ev (zaM x l)=(evA x t).v:=by
    show (x.ev.getD ((zaM x l).getLastD 0) ev0).v=_;rw [hlast];rfl
   have dS:Bw S S.drew:=(Below.refl _ _).drew;refine DrawE.ord [15] [0,1,2,3,4,5,6,7,8,9,10,11,12,13,14,15] (by kernel_rfl) ?_;refine⟨_,zac (zab (hdr fLS)) (i:=0) rfl,?_⟩;refine⟨_,zac (zab (hdr (zaa hbS fx))) (i:=0) rfl,?_⟩;refine⟨(j:Nat),(zak (by omega)).trans (by omega),?_⟩;refine⟨j,rfl,hjl,?_⟩;refine⟨i64 t,by have:=zac (zae dS (hat6 j hjl)) (i:=0) (v:=i64 t) (by rw [ht];rfl);exact this,?_⟩;rw [hp7];refine⟨t,rfl,htev,?_⟩;refine⟨u8 (evA x t).v,by have:=zac (zae dS hat7) (i:=3) (v:=u8 (evA x t).v) rfl;exact this,?_⟩;refine⟨l,rfl,by omega,?_⟩;refine zas k5 (hdr fMS) (o:=0+l*1) (v:=u8 (evA x t).v) rfl rfl (by rw [zay];omega) rfl fun T fT2 gT sT=>?_;have gT2:S.grownBy T (some (L+2)):=zaf (zaj dS) gT;have e8:=zl6 (n:=6) (fun i=>u8 (P.2 i)) (fun i=>u8 (upd P.2 l (evA x t).v i)) (i:=l) (by omega) rfl (fun j hj=>by rw [zcf _ _ hj]);rw [zaZ] at e8;rw [Nat.mul_one,Nat.zero_add,e8] at fT2;refine nxI (by omega) ?_;refine⟨(l+1,(zdd (zaM x l) P.1,upd P.2 l (evA x t).v)),(cvE rfl rfl),⟨hll,by rw [<- hlV];exact hgo,ziH hPw hrk48,fT2,(gT2.block (L+1) (hlt fTS) (by simp)).trans fTS,(gT2.block L (hlt fLS) (by simp)).trans fLS,hbS.trans (zap gT2 hbS.size (by omega)),by have:=gT2.size;have:=gS.size;have:=hbU.size;omega⟩,zdc (by omega)⟩
  ·have hc:¬ (l:Int)<(locs:Int):=dF hc;obtain rfl:l=locs:=by omega
   rw [Nat.sub_self] at hgo;exact⟨P,(cvE rfl rfl),hgo.symm,fM,fT,fL,hbZ⟩
 rintro P Z ⟨hgo,fM,fT,fL,hbZ⟩;have hco2:zcF x locs=(zbe P.1 x.co&&(List.range 6).all fun l=>decide (P.2 l=x.mem l)):=by rw [hco,hgo]
 refine DrawE.ord [] [0,1,2,3,4,5,6,7,8,9,10,11,12,13,14,15] (by kernel_rfl) ?_;have dZ:Bw Z Z.drew:=(Below.refl _ _).drew;refine⟨relC P.1,zad _,zab (hdr fT),hlt (hdr fT),?_⟩;refine⟨_,zac (zab (hdr fL)) (i:=0) rfl,?_⟩;have fxZ:=hdr (zaa hbZ fx);refine⟨relC x.co,zad _,by have h:=zaD (n:=99) (m:=49) (zab fxZ);rw [show (exC x q c).toArray.toList=exC x q c from rfl,zr2] at h;exact h,hlt fxZ,?_⟩;refine⟨_,fun w=>zca _ _ P.1 x.co w,?_⟩;have fin:Bw w Z.drew:=zst hbZ dZ;refine biE (fun h=>?_) fun h=>?_
 ·have h:zbe P.1 x.co=true:=h;refine⟨seg 6 (fun i=>u8 (P.2 i)),zay _ _,zab (hdr fM),hlt (hdr fM),?_⟩;refine⟨_,zac (zab (hdr fL)) (i:=0) rfl,?_⟩;refine⟨seg 6 (fun i=>u8 (x.mem i)),zay _ _,by have h:=zaD (n:=327) (m:=6) (zab fxZ);rw [show (exC x q c).toArray.toList=exC x q c from rfl,zmZ] at h;exact h,hlt fxZ,?_⟩;refine⟨_,fun w=>zoE _ _ P.2 x.mem w,?_⟩;exact⟨rb (by rw [hco2,h,Bool.true_and]),fin⟩
 ·have h:zbe P.1 x.co=false:=h;exact⟨rb (by rw [hco2,h,Bool.false_and]),fin⟩
end
section
variable {b c:Nat} {x:ExD} {q:Option Addr} {w:World}
theorem zj5 {X:World} {o:Nat} {A T:List Value} {r:RelD} (fx:ExH X b x q c) (hA:A.length=o) (hE:exC x q c=A++(relC r++T)) {i:Nat} (hi:i<48):X.cell? ⟨b,o+1+i*1,none⟩=some (s64 (r.to i)):=by
 have hR:RelAt X b o 34 A T r:=⟨hA,by rw [<- hE];exact fx⟩;exact hR.cell hi
theorem zrx {X:World} (fx:ExH X b x q c) {i:Nat} (hi:i<48):X.cell? ⟨b,0+1+1+i*1,none⟩=some (s64 (x.po.to i)):=by
 obtain⟨A,T,hA,hE⟩:=zoy x q c [];exact zj5 fx hA (by rw [<- hE,List.append_nil]) hi
theorem zr7 {X:World} (fx:ExH X b x q c) {i:Nat} (hi:i<48):X.cell? ⟨b,0+148+1+i*1,none⟩=some (s64 (x.dt.to i)):=by
 obtain⟨A,T,hA,hE⟩:=zoz x q c [];exact zj5 fx hA (by rw [<- hE,List.append_nil]) hi
theorem zse {X:World} (fx:ExH X b x q c) {i:Nat} (hi:i<48):X.cell? ⟨b,0+197+1+i*1,none⟩=some (s64 (x.ct.to i)):=by
 obtain⟨A,T,hA,hE⟩:=zoA x q c [];exact zj5 fx hA (by rw [<- hE,List.append_nil]) hi
theorem zrr {X:World} (fx:ExH X b x q c) {i:Nat} (hi:i<48):X.cell? ⟨b,0+246+1+i*1,none⟩=some (s64 (x.rm.to i)):=by
 obtain⟨A,T,hA,hE⟩:=zox x q c [];exact zj5 fx hA (by rw [<- hE,List.append_nil]) hi
theorem n64 {a b:Nat} (h:(!decide ((a:Int)=(b:Int)))=true):¬ a=b:=fun e=>by
 rw [e] at h;simp at h
theorem y64 {a b:Nat} (h:(!decide ((a:Int)=(b:Int)))=false):a=b:=by
 have h:(a:Int)=(b:Int):=by simpa using h
 exact Int.ofNat.inj h
theorem n8 {a d:UInt8} (h:(!decide ((a.toNat:Int)=(d.toNat:Int)))=true):¬ a=d:=fun e2=>by
 rw [e2] at h;simp at h
theorem y8 {a d:UInt8} (h:(!decide ((a.toNat:Int)=(d.toNat:Int)))=false):a=d:=zbi.1 (by simpa using h)
def wrG (x:ExD) (k:Nat):Nat:=(List.range k).foldl (fun s i=>if (evA x i).k=2 then s|||2^i else s) 0
theorem zjW (x:ExD) (k:Nat):wrG x (k+1)=if (evA x k).k=2 then wrG x k|||2^k else wrG x k:=by
 unfold wrG;rw [List.range_succ,List.foldl_append];rfl
theorem zjX (x:ExD):∀ k,k<=64->wrG x k<2^64
 | 0,_=>by show 0<_;decide
 | k+1,h=>by
  rw [zjW]
  split
  ·exact Nat.or_lt_two_pow (zjX x k (by omega)) (zaK (by omega))
  ·exact zjX x k (by omega)
theorem zls (fx:ExH w b x q c) (hv:ExV w x q) (hrn:x.rm.n=x.ev.length) (hok:okR x.rm=true) (hT:Tz64M w) :
  CB 44 #[At0 b] w (.bool (zcx x)):=by
 refine cofM 130 [At0 b] (.s .p (.s .p (.c .p .p))) Tryz.func44 ?_;have hn:=hv.n;obtain⟨W,hW⟩:=nm (zcP x);have hWG:W=wrG x x.ev.length:=by rw [hW];rfl
 have hW64:W<2^64:=by rw [hWG];exact zjX x _ (by omega)
 refine⟨Unit,fun _=>⟨[(0,At0 b),(3,s64 W),(4,s64 0)],[]⟩,fun _ X=>Bw w X,?_,?_⟩
 ·refine⟨_,zac (zab fx) (i:=0) rfl,?_⟩;refine⟨Nat,fun k=>⟨[(0,At0 b),(3,s64 (wrG x k)),(4,s64 0),(17,.slice q x.ev.length c),(18,i64 x.ev.length),(19,i64 (k:Nat))],[]⟩,fun k X=>k<=x.ev.length/\Bw w X,fun k=>x.ev.length-k,0,
   (cvE rfl rfl),⟨Nat.zero_le _,Below.refl _ _⟩,?_⟩
  rintro k X ⟨hk,hbX⟩;dsimp only;refine biE (fun hc=>?_) fun hc=>?_
  ·have hc:(k:Int)<(x.ev.length:Int):=dT hc;have hkl:k<x.ev.length:=by omega
   obtain⟨bq,oq,hqe,hb,hat⟩:=zep (hv.ev.below hbX) hkl;rw [zgv] at hat;obtain⟨e,he⟩:=nm (evA x k);have hs:=zjW x k;rw [<- he] at hat hs;subst hqe;refine⟨k,rfl,hkl,?_⟩;refine⟨evE.enc e,rfl,hat,hb,?_⟩;refine zan (X:=X) (v := .agg (evE.enc e).toArray) k54 rfl rfl (List.all_eq_true.2 fun u hu=>evE.one e u hu) fun Y hbY fY sY=>?_;have fY:Y.heap[X.heap.size]?=some (.cells (evE.enc e).toArray 54 (0,0)):=fY;have hbY2:=zst hbX hbY;refine⟨u8 e.k,zac (zab fY) (i:=1) rfl,?_⟩;refine biE (fun h=>?_) fun h=>?_
   ·have h:e.k=2:=zbi.1 (dT h);rw [if_pos h] at hs;refine⟨by omega,((2^k:Nat):Int),zbQ (e:=k) (by omega),?_⟩;refine⟨((wrG x k|||2^k:Nat):Int),zcz (zjX x k (by omega)) (zaK (by omega)),?_⟩;refine nxI (by omega) ?_;exact⟨k+1,⟨.cons rfl (.cons (by show _=some (s64 (wrG x (k+1)));rw [hs];rfl) (.cons rfl (.cons rfl (.cons rfl (.cons rfl .nil))))),rfl⟩,⟨hkl,hbY2⟩,zdc (by omega)⟩
   ·have h:¬ e.k=2:=fun e2=>(dF h) (by rw [e2];rfl);rw [if_neg h] at hs;refine nxI (by omega) ?_;exact⟨k+1,⟨.cons rfl (.cons (by show _=some (s64 (wrG x (k+1)));rw [hs];rfl) (.cons rfl (.cons rfl (.cons rfl (.cons rfl .nil))))),rfl⟩,⟨hkl,hbY2⟩,zdc (by omega)⟩
  ·have hc:¬ (k:Int)<(x.ev.length:Int):=dF hc;obtain rfl:k=x.ev.length:=by omega
   exact⟨(),⟨.cons rfl (.cons (by show _=some (s64 W);rw [hWG];rfl) (.cons rfl .nil)),rfl⟩,hbX⟩
 rintro _ X hbX;refine⟨_,zac (zab (zaa hbX fx)) (i:=0) rfl,?_⟩;have hdep:zcx x=zeZ x W 0 x.ev 0:=by rw [hW];rfl
 refine⟨Nat×Nat,fun s=>⟨[(0,At0 b),(3,s64 W),(4,s64 s.2),(35,.slice q x.ev.length c),(36,i64 x.ev.length),(37,i64 (s.1:Nat))],[]⟩,fun s X=>s.1<=x.ev.length/\zeZ x W s.1 (x.ev.drop s.1) s.2=zcx x/\s.2<2^64/\Bw w X,fun s=>x.ev.length-s.1,(0,0),
  (cvE rfl rfl),⟨Nat.zero_le _,hdep.symm,by decide,hbX⟩,?_⟩
 clear hbX;rintro⟨k,h⟩ X ⟨hk,hgo,hh,hbX⟩;dsimp only at hk hgo hh ⊢;refine biE (fun hc=>?_) fun hc=>?_
 ·have hc:(k:Int)<(x.ev.length:Int):=dT hc;have hkl:k<x.ev.length:=by omega
  have hk48:k<48:=by omega
  obtain⟨bq,oq,hqe,hb,hat⟩:=zep (hv.ev.below hbX) hkl;rw [zgv] at hat;obtain⟨e,he⟩:=nm (evA x k);rw [<- he] at hat;have hdrp:x.ev.drop k=e::x.ev.drop (k+1):=by
   rw [<- List.getElem_cons_drop hkl,he];unfold evA;rw [gDe,gE hkl];rfl
  rw [hdrp] at hgo;unfold zeZ at hgo;obtain⟨d,hd⟩:=nm (x.dt.to k);obtain⟨t,ht⟩:=nm (x.ct.to k);obtain⟨r,hr⟩:=nm (x.rm.to k);obtain⟨po,hpo⟩:=nm (x.po.to k);dsimp only at hgo;rw [<- hd,<- ht,<- hr,<- hpo] at hgo;have d64:d<2^64:=by rw [hd];exact hv.dt k hk48
  have t64:t<2^64:=by rw [ht];exact hv.ct k hk48
  have r64:r<2^64:=by rw [hr];exact hv.rm k hk48
  have p64:po<2^64:=by rw [hpo];exact hv.po k hk48
  have dt64:=Nat.or_lt_two_pow d64 t64;have dtr64:=Nat.or_lt_two_pow dt64 r64;have dr64:=Nat.or_lt_two_pow d64 r64;subst hqe;refine⟨k,rfl,hkl,?_⟩;refine⟨evE.enc e,rfl,hat,hb,?_⟩;refine zan (X:=X) (v := .agg (evE.enc e).toArray) k54 rfl rfl (List.all_eq_true.2 fun u hu=>evE.one e u hu) fun Y hbY fY sY=>?_;have fY:Y.heap[X.heap.size]?=some (.cells (evE.enc e).toArray 54 (0,0)):=fY;have hbY2:=zst hbX hbY;have dY:Bw Y Y.drew:=(Below.refl _ _).drew;have fxY:=hdr (zaa hbY2 fx);have fYd:=hdr fY;have hbD:=zst hbY2 dY;have no:∀ {Z:World},Bw w Z->zcx x=false->(Ending.returned (.bool false)=Ending.returned (.bool (zcx x))/\Bw w Z):=fun {Z} hb h=>⟨rb h.symm,hb⟩;refine DrawE.ord [] [0,1,2,3,4,5,6,7,8,9,10,11,12,13,14,15,16,17,18,19,20,21,22,23] (by kernel_rfl) ?_;refine⟨k,rfl,hk48,?_⟩;refine⟨s64 d,by rw [hd];exact zr7 fxY hk48,?_⟩;refine⟨k,rfl,hk48,?_⟩;refine⟨s64 t,by rw [ht];exact zse fxY hk48,?_⟩;refine⟨k,rfl,hk48,?_⟩;refine⟨s64 r,by rw [hr];exact zrr fxY hk48,?_⟩;refine⟨_,zcz d64 t64,?_⟩;refine⟨_,zcz dt64 r64,?_⟩;refine biE (fun h1=>?_) fun h1=>?_
  ·have h1:d|||t|||r=0:=Int.ofNat.inj (dT h1);rw [if_pos h1] at hgo;refine nxI (by omega) ?_;exact⟨(k+1,h),(cvE rfl rfl),⟨hkl,hgo,hh,hbD⟩,zdc (by omega)⟩
  have h1:¬ d|||t|||r=0:=fun e2=>(dF h1) (by rw [e2];rfl);rw [if_neg h1] at hgo;refine⟨u8 e.k,zac (zab fYd) (i:=1) rfl,?_⟩;refine biE (fun h2=>?_) fun h2=>?_
  ·have h2:¬ e.k=1:=n8 (d:=1) h2;rw [if_neg fun h=>h2 h.1] at hgo;refine brT ?_;refine brT ?_;exact no hbD hgo.symm
  have h2:e.k=1:=y8 (d:=1) h2;refine⟨_,zcz d64 r64,?_⟩;refine⟨_,zd6 dr64 hW64,?_⟩;refine biE (fun h3=>?_) fun h3=>?_
  ·have h3:¬ zcr (d|||r) W=0:=n64 (b:=0) h3;rw [if_neg fun h=>h3 h.2.1] at hgo;refine brT ?_;exact no hbD hgo.symm
  have h3:zcr (d|||r) W=0:=y64 (b:=0) h3;refine⟨_,zcz d64 t64,?_⟩;refine⟨_,zcz dt64 r64,?_⟩;refine⟨k,rfl,hk48,?_⟩;refine⟨s64 po,by rw [hpo];exact zrx fxY hk48,?_⟩;refine⟨_,zd6 dtr64 p64,?_⟩;refine biE (fun h4=>?_) fun h4=>?_
  ·have h4:¬ zcr (d|||t|||r) po=0:=n64 (b:=0) h4;rw [if_neg fun h=>h4 h.2.2] at hgo;exact no hbD hgo.symm
  have h4:zcr (d|||t|||r) po=0:=y64 (b:=0) h4;rw [if_pos ⟨h2,h3,h4⟩] at hgo;refine cmo (zcZ r64 (hT.below hbD)) ?_;rintro e2 Z ⟨rfl,hbZ⟩;have hbZ2:=zst hbD hbZ;by_cases hr0:r=0
  ·have e1:(els r).isEmpty=true:=by rw [hr0];rfl
   rw [e1];rw [if_pos hr0] at hgo;refine brF ?_;refine nxI (by omega) ?_;exact⟨(k+1,h),(cvE rfl rfl),⟨hkl,hgo,hh,hbZ2⟩,zdc (by omega)⟩
  rw [if_neg hr0] at hgo;obtain⟨hhd,hem⟩:=zdC hr0 r64;rw [hhd,hem];have hmem:=zhR hr0 r64;have hbit:r.testBit (ctz r)=true:=(zcW.1 hmem).2;have hvl:ctz r<x.ev.length:=by
   have:=(zhr hok hv.rm hk48 (by rw [<- hr];exact hbit)).1;rw [hrn] at this;omega
  obtain⟨v,hvd⟩:=nm (ctz r);rw [<- hvd] at hvl hgo ⊢;refine brT ?_;have fZ:=zaa hbZ fYd;have dZ:Bw Z Z.drew:=(Below.refl _ _).drew;have hbZ3:=zst hbZ2 dZ;refine DrawE.ord [] [0,1,2,3,4,5,6,7,8,9,10,11,12,13,14,15,16,17,18,19,20,21,22,23] (by kernel_rfl) ?_;refine⟨by omega,((2^v:Nat):Int),zbQ (e:=v) (by omega),?_⟩;refine biE (fun h5=>?_) fun h5=>?_
  ·have h5:¬ r=2^v:=n64 h5;rw [if_neg fun h=>h5 h.1] at hgo;refine brT ?_;refine brT ?_;exact no hbZ3 hgo.symm
  have h5:r=2^v:=y64 h5;refine⟨by omega,_,ze8 (a:=h) (k:=v) (by omega),?_⟩;refine⟨_,zbW (a:=h/2^v) (b:=1) (Nat.lt_of_le_of_lt (Nat.div_le_self _ _) hh) (by decide),?_⟩;rw [zjP]
  cases hb5:h.testBit v with
  | true =>
   rw [if_neg fun h=>(by rw [hb5] at h;cases h.2.1)] at hgo;refine brT ?_;refine brT ?_;exact no hbZ3 hgo.symm
  | false =>
   refine brF ?_;obtain⟨bq2,oq2,hqe2,hb2,hat2⟩:=zep (hv.ev.below hbZ3) hvl;rw [zgv] at hat2;obtain⟨f,hf⟩:=nm (evA x v);rw [<- hf] at hat2 hgo;refine⟨_,zac (zab (zaa hbZ3 fx)) (i:=0) rfl,?_⟩;refine⟨v,rfl,hvl,?_⟩;simp only [Option.some.injEq,Addr.mk.injEq,and_true] at hqe2;rw [<- hqe2.1,<- hqe2.2] at hat2;refine⟨u8 f.l,by have:=zac hat2 (i:=2) (v:=u8 f.l) rfl;exact this,?_⟩;refine⟨u8 e.l,zac (zab (hdr fZ)) (i:=2) rfl,?_⟩;refine biE (fun h6=>?_) fun h6=>?_
   ·have h6:¬ f.l=e.l:=n8 h6;rw [if_neg fun h=>h6 h.2.2] at hgo;exact no hbZ3 hgo.symm
   have h6:f.l=e.l:=y8 h6;rw [if_pos ⟨h5,hb5,h6⟩] at hgo;refine⟨_,zcz hh r64,?_⟩;refine nxI (by omega) ?_;exact⟨(k+1,h|||r),(cvE rfl rfl),⟨hkl,hgo,Nat.or_lt_two_pow hh r64,hbZ3⟩,zdc (by omega)⟩
 ·have hc:¬ (k:Int)<(x.ev.length:Int):=dF hc;obtain rfl:k=x.ev.length:=by omega
  rw [List.drop_length] at hgo;exact⟨rb hgo,hbX⟩
end
theorem zfO {locs:Nat}:∀ (ev:List Ev) (i:Nat) (t:Int) (n:Nat),evGo locs i ev t n=true->∀ j,i+j<locs->j<ev.length->∃ v,ev.getD j ev0=⟨-1,2,UInt8.ofNat (i+j),v,0,0,0⟩
 | [],_,_,_,_,_,_,h=>by simp at h
 | e::ev,i,t,n,h,j,hj,hl=>by
  unfold evGo at h;rw [if_pos (by omega:i<locs)] at h;by_cases he:e=⟨-1,2,UInt8.ofNat i,e.v,0,0,0⟩
  ·rw [if_pos he] at h
   cases j with
   | zero=>exact⟨e.v,by rw [Nat.add_zero];exact he⟩
   | succ j =>
    obtain⟨v,hv⟩:=zfO ev (i+1) t n h j (by omega) (by simpa using hl);exact⟨v,by rw [show i+(j+1)=i+1+j by omega];exact hv⟩
  ·rw [if_neg he] at h;cases h
theorem zkp (ev:List Ev):zaI ev<=ev.length:=by
 unfold zaI
 induction ev with
 | nil=>exact Nat.le_refl _
 | cons e ev ih =>
  rw [List.takeWhile_cons]
  split
  ·rw [List.length_cons,List.length_cons];omega
  ·exact Nat.zero_le _
theorem znK {x:ExD} {locs:Nat} (h:zbD x.ev locs=true) (hl:locs<=x.ev.length) (h6:locs<=6):∀ l,l<locs->za9 x l≠[]:=by
 intro l hll he;obtain⟨v,hv⟩:=zfO x.ev 0 0 0 h l (by omega) (by omega);have:l∈za9 x l:=by
  unfold za9;rw [List.mem_filter,List.mem_range];refine⟨by omega,?_⟩;have h2:evA x l=⟨-1,2,UInt8.ofNat (0+l),v,0,0,0⟩:=hv;rw [h2,bAT,dE,dE];refine⟨rfl,?_⟩;show (UInt8.ofNat (0+l)).toNat=l;rw [Nat.zero_add,UInt8.toNat_ofNat'];exact Nat.mod_eq_of_lt (by omega)
 rw [he] at this
 cases this
abbrev zcU (x:ExD):List RelD:=[x.po,x.rf,x.co,x.dt,x.ct,x.rm]
theorem zqy (x:ExD) (q:Option Addr) (c:Nat) {i:Nat} (hi:i<6):((exC x q c).drop (1+49*i)).take 49=relC ((zcU x).getD i x.po):=by
 have g:∀ {A T:List Value} {o:Nat} {r:RelD},A.length=o->exC x q c=A++(relC r++T)->((exC x q c).drop o).take 49=relC r:=fun {A T o r} hA hE=>by
  rw [hE,<- hA,List.drop_left,List.take_append_of_le_length (by rw [zad];decide),List.take_of_length_le (by rw [zad];decide)]
 match i,hi with
 | 0,_=>obtain⟨A,T,hA,hE⟩:=zoy x q c [];exact g hA (by rw [<- hE,List.append_nil];rfl)
 | 1,_=>obtain⟨A,T,hA,hE⟩:=zrY x q c [];exact g hA (by rw [<- hE,List.append_nil];rfl)
 | 2,_=>obtain⟨A,T,hA,hE⟩:=zr1 x q c [];exact g hA (by rw [<- hE,List.append_nil];rfl)
 | 3,_=>obtain⟨A,T,hA,hE⟩:=zoz x q c [];exact g hA (by rw [<- hE,List.append_nil];rfl)
 | 4,_=>obtain⟨A,T,hA,hE⟩:=zoA x q c [];exact g hA (by rw [<- hE,List.append_nil];rfl)
 | 5,_=>obtain⟨A,T,hA,hE⟩:=zox x q c [];exact g hA (by rw [<- hE,List.append_nil];rfl)
theorem zpX (L:Nat) {k:Nat} (hk:k<6):((List.range 6).map (fun i=>Value.pointer (some ⟨L,0+(1+49*i),none⟩)))[k]?=some (.pointer (some ⟨L,0+(1+49*k),none⟩)):=by
 rw [List.getElem?_map,List.getElem?_range hk];rfl
def okX (x:ExD) (r:RelD):Bool:=decide (r.n=x.ev.length)&&okR r
section
variable {c:Nat} {x:ExD} {q:Option Addr} {w:World}
theorem zf0 {X:World} {b:Nat} (fx:ExH X b x q c) {i:Nat} (hi:i<6):zaw X ⟨b,0+(1+49*i),none⟩ (relC ((zcU x).getD i x.po)):=by
 have h:=zaD (n:=1+49*i) (m:=49) (zab fx);rw [show (exC x q c).toArray.toList=exC x q c from rfl,zqy x q c hi] at h;exact h
theorem ExV.rel (hv:ExV w x q) {i:Nat} (hi:i<6):WrdR ((zcU x).getD i x.po).to:=by
 match i,hi with
 | 0,_=>exact hv.po
 | 1,_=>exact hv.rf
 | 2,_=>exact hv.co
 | 3,_=>exact hv.dt
 | 4,_=>exact hv.ct
 | 5,_=>exact hv.rm
theorem zdK (hv:ExV w x q) (hT:Tz64M w):CB 8 #[.agg (exC x q c).toArray] w (.bool (zaL x)):=by
 refine cofM 70 [.agg (exC x q c).toArray] (.c .p (.c .p (.c .p (.c .p (.c .p .p))))) Tryz.func8 ?_;obtain⟨L,hL⟩:=nm (w.heap.size);have hn:=hv.n;refine⟨Unit,fun _=>⟨[(1,At0 L)],[]⟩,fun _ X=>ExH X L x q c/\Bw w X,⟨(),⟨.cons (by rw [hL];rfl) .nil,rfl⟩,by rw [hL];exact hnew w _,(zba w _)⟩,?_⟩;rintro _ X ⟨fx,hbX⟩;obtain⟨n,hnn⟩:=nm (zaI x.ev);refine⟨Unit,fun _=>⟨[(1,At0 L)],[]⟩,fun _ Y=>X=Y,?_,?_⟩
 ·refine⟨_,zac (zab fx) (i:=0) rfl,?_⟩;refine biE (fun h=>?_) fun _=>?_
  ·have h:(48:Int)<(x.ev.length:Nat):=dT h;omega
  exact⟨(),(cvE rfl rfl),rfl⟩
 rintro _ _ rfl;refine⟨Unit,fun _=>⟨[(1,At0 L),(3,i64 (n:Nat))],[]⟩,fun _ Y=>Bw X Y,?_,?_⟩
 ·refine⟨_,zac (zab fx) (i:=0) rfl,?_⟩;refine cmo (zll (hv.below hbX).ev (by omega)) ?_;rintro e Y ⟨rfl,hbY⟩;rw [<- hnn];exact⟨(),(cvE rfl rfl),hbY⟩
 rintro _ Y hbY;have hvX:=hv.below hbX;have hnl:n<=x.ev.length:=by rw [hnn];exact zkp _
 have hbwY:=zst hbX hbY;have hr0:decide (x.ev.length<=48)=true:=decide_eq_true (by omega);have no:∀ {Z:World},Bw w Z->zaL x=false->(Ending.returned (.bool false)=Ending.returned (.bool (zaL x))/\Bw w Z):=fun {Z} hb h=>⟨rb h.symm,hb⟩;refine⟨Unit,fun _=>⟨[(1,At0 L),(3,i64 (n:Nat))],[]⟩,fun _ Z=>zbD x.ev n=true/\(1<=n/\n<=6)/\ExH Z L x q c/\Bw w Z,?_,?_⟩
 ·refine biE (fun h1=>?_) fun h1=>?_
  ·have h1:(n:Int)<1:=dT h1;refine brT ?_;refine brT ?_;refine no hbwY ?_;unfold zaL;rw [<- hnn,decide_eq_false (by omega:¬ 1<=n),Bool.false_and,Bool.and_false]
  have h1:¬ (n:Int)<1:=dF h1;refine biE (fun h2=>?_) fun h2=>?_
  ·have h2:(6:Int)<(n:Int):=dT h2;refine brT ?_;refine no hbwY ?_;unfold zaL;rw [<- hnn,decide_eq_false (by omega:¬ n<=6),Bool.false_and,Bool.and_false,Bool.and_false]
  have h2:¬ (6:Int)<(n:Int):=dF h2;have hn1:decide (1<=n)=true:=decide_eq_true (by omega);have hn6:decide (n<=6)=true:=decide_eq_true (by omega);have fY:=zaa hbY fx;refine⟨_,zac (zab fY) (i:=0) rfl,?_⟩;refine cmo (zhO (locs:=n) (hvX.below hbY).ev (by omega) (by omega)) ?_;rintro e Z ⟨rfl,hbZ⟩;have hbwZ:=zst hbwY hbZ;refine biE (fun h3=>?_) fun h3=>?_
  ·have h3:zbD x.ev n=false:=by
    have h3:(!zbD x.ev n)=true:=h3;simpa using h3
   refine no hbwZ ?_;unfold zaL;rw [<- hnn,h3,Bool.false_and,Bool.and_false,Bool.and_false,Bool.and_false]
  have h3:zbD x.ev n=true:=by
   have h3:(!zbD x.ev n)=false:=h3;simpa using h3
  exact⟨(),(cvE rfl rfl),h3,by omega,zaa hbZ fY,hbwZ⟩
 rintro _ Z ⟨h3,⟨h1,h2⟩,fZ,hbwZ⟩;clear fx hbX hbY hbwY hvX;have hn1:decide (1<=n)=true:=decide_eq_true h1;have hn6:decide (n<=6)=true:=decide_eq_true h2;have hright:zaL x=(za4 x&&(zbe x.po (poR x.ev)&&(zcT x&&(zcF x n&&zcx x)))):=by
  unfold zaL;rw [<- hnn,hr0,hn1,hn6,h3];rfl
 have hrels:za4 x=(zcU x).all (okX x):=rfl;refine⟨Unit,fun _=>⟨[(1,At0 L),(3,i64 (n:Nat))],[]⟩,fun _ U=>za4 x=true/\ExH U L x q c/\Bw w U,?_,?_⟩
 ·refine⟨⟨by decide,by decide,rfl⟩,(List.range 6).map (fun i=>Value.pointer (some ⟨L,0+(1+49*i),none⟩)),rfl,?_⟩;obtain⟨g,hg⟩:=nm (Z.heap.size);refine⟨Nat,fun k=>⟨[(1,At0 L),(3,i64 (n:Nat)),(32,.slice (some ⟨g,0,none⟩) 6 6),(33,i64 6),(34,i64 (k:Nat))],[]⟩,fun k U=>k<=6/\((zcU x).take k).all (okX x)=true/\U.heap[g]?=some (.cells ((List.range 6).map (fun i=>Value.pointer (some ⟨L,0+(1+49*i),none⟩))).toArray 75 (0,0))/\ExH U L x q c/\Bw w U,fun k=>6-k,0,
   ⟨.cons rfl (.cons rfl (.cons (by rw [hg];rfl) (.cons rfl (.cons rfl .nil)))),rfl⟩,⟨Nat.zero_le _,rfl,by rw [hg];exact hnew Z _,hold _ fZ,hbwZ.alloc hbwZ.size _⟩,?_⟩
  clear hg fZ hbwZ;rintro k U ⟨hk,hall,fg,fU,hbU⟩;dsimp only;refine biE (fun hc=>?_) fun hc=>?_
  ·have hc:(k:Int)<6:=dT hc;have hk6:k<6:=by omega
   obtain⟨r,hr⟩:=nm ((zcU x).getD k x.po);have hkl:k<(zcU x).length:=hk6;have htk:(zcU x).take (k+1)=(zcU x).take k++[r]:=by
    rw [tsg hkl,hr,gDe,gE hkl];rfl
   have hrw:WrdR r.to:=by rw [hr];exact hv.rel hk6
   have hcel:zaw U ⟨L,0+(1+49*k),none⟩ (relC r):=by rw [hr];exact zf0 fU hk6
   have dU:Bw U U.drew:=(Below.refl _ _).drew;have hrm:r∈zcU x:=by
    rw [hr,gDe,gE hkl];exact gM hkl
   have bad:∀ {Z:World},Bw w Z->okX x r=false->(Ending.returned (.bool false)=Ending.returned (.bool (zaL x))/\Bw w Z):=fun {Z} hb h=>no hb (by
    have:za4 x=false:=by
     rw [hrels,List.all_eq_false];exact⟨r,hrm,by rw [h];decide⟩
    rw [hright,this];rfl)
   refine⟨k,rfl,hk6,?_⟩;refine⟨.pointer (some ⟨L,0+(1+49*k),none⟩),by
    have:=zac (zab fg) (i:=k*1) (v := .pointer (some ⟨L,0+(1+49*k),none⟩)) (by
     rw [Nat.mul_one];exact zpX L hk6)
    exact this,?_⟩
   refine DrawE.ord [] [0,1,2,3,4,5,6,7,8,9,10,11,12,13,14] (by kernel_rfl) ?_;refine⟨i64 r.n,zac (zae dU hcel) (i:=0) rfl,?_⟩;refine⟨_,zac (zab (hdr fU)) (i:=0) rfl,?_⟩;refine biE (fun h4=>?_) fun h4=>?_
   ·have h4:(!decide (r.n=(x.ev.length:Int)))=true:=h4;have h4:¬ r.n=(x.ev.length:Int):=(by simpa using h4);refine brT ?_;exact bad ((zst hbU dU)) (by unfold okX;rw [decide_eq_false h4];rfl)
   have h4:(!decide (r.n=(x.ev.length:Int)))=false:=h4;have h4:r.n=(x.ev.length:Int):=by simpa using h4
   refine⟨relC r,zad _,zae dU hcel,hlt (hdr fU),?_⟩;refine cmo (zbu hrw) ?_;rintro e V ⟨rfl,hbV⟩;refine⟨hbV,?_⟩;have hbV2:=hbU.trans ((dU.trans hbV).mono hbU.size);refine biE (fun h5=>?_) fun h5=>?_
   ·have h5:okR r=false:=by
     have h5:(!okR r)=true:=h5;simpa using h5
    exact bad hbV2 (by unfold okX;rw [h5,Bool.and_false])
   have h5:okR r=true:=by
    have h5:(!okR r)=false:=h5;simpa using h5
   refine nxI (by omega) ?_;refine⟨k+1,(cvE rfl rfl),⟨hk6,?_,zaa (dU.trans hbV) fg,zaa (dU.trans hbV) fU,hbV2⟩,zdc (by omega)⟩;rw [htk,List.all_append,hall];show (true&&(okX x r&&true))=true;unfold okX;rw [decide_eq_true h4,h5];rfl
  ·have hc:¬ (k:Int)<6:=dF hc;obtain rfl:k=6:=by omega
   exact⟨(),(cvE rfl rfl),hall,fU,hbU⟩
 rintro _ U ⟨hrr,fU,hbU⟩;rw [hrr,Bool.true_and] at hright;have hall:∀ r∈zcU x,r.n=x.ev.length/\okR r=true:=fun r hr=>by
  rw [hrels,List.all_eq_true] at hrr;have:=hrr r hr;unfold okX at this;rw [bAT,dE] at this;exact this
 have hrf:=hall x.rf (by simp);have hrm:=hall x.rm (by simp);have hvU:=hv.below hbU;have dU:Bw U U.drew:=(Below.refl _ _).drew;have hvD:=hvU.below dU;have hbD:=zst hbU dU;refine DrawE.ord [] [0,1,2,3,4,5,6,7,8,9,10,11,12,13,14,15,16] (by kernel_rfl) ?_;refine⟨relC x.po,zad _,zf0 (hdr fU) (i:=0) (by decide),hlt (hdr fU),?_⟩;refine⟨_,zac (zab (hdr fU)) (i:=0) rfl,?_⟩;refine cmo (zeo hvD.ev (by omega)) ?_;rintro e V ⟨rfl,hbV⟩;refine⟨hbV,?_⟩;have hbV2:=zst hbD hbV;have fV:=zaa hbV (hdr fU);have hvV:=hvD.below hbV;refine⟨_,fun w=>zca _ _ x.po (poR x.ev) w,?_⟩;refine biE (fun h4=>?_) fun h4=>?_
 ·have h4:zbe x.po (poR x.ev)=true:=h4;rw [h4,Bool.true_and] at hright;refine cmo (zmj fV hvV hrf.1 hrf.2 (hT.below hbV2)) ?_;rintro e T ⟨rfl,hbT⟩;refine⟨hbT,?_⟩;have hbT2:=zst hbV2 hbT;refine biE (fun h5=>?_) fun h5=>?_
  ·have h5:zcT x=true:=h5;rw [h5,Bool.true_and] at hright;refine cmo (znj (locs:=n) (zaa hbT fV) (hvV.below hbT) (by omega) (znK h3 hnl (by omega)) (hT.below hbT2)) ?_;rintro e R ⟨rfl,hbR⟩;refine⟨hbR,?_⟩;have hbR2:=zst hbT2 hbR;refine biE (fun h6=>?_) fun h6=>?_
   ·have h6:zcF x n=true:=h6;rw [h6,Bool.true_and] at hright;refine cmo (zls (zaa hbR (zaa hbT fV)) ((hvV.below hbT).below hbR) hrm.1 hrm.2 (hT.below hbR2)) ?_;rintro e Q ⟨rfl,hbQ⟩;exact⟨hbQ,rb hright.symm,(zst hbR2 hbQ)⟩
   ·have h6:zcF x n=false:=h6;rw [h6,Bool.false_and] at hright;exact⟨rb hright.symm,hbR2⟩
  ·have h5:zcT x=false:=h5;rw [h5,Bool.false_and] at hright;refine brF ?_;exact⟨rb hright.symm,hbT2⟩
 ·have h4:zbe x.po (poR x.ev)=false:=h4;rw [h4,Bool.false_and] at hright;refine brF ?_;refine brF ?_;exact⟨rb hright.symm,hbV2⟩
end
theorem zhS {a b:RelD} {f:Nat->Nat} (h:a.n=b.n->okR a=true->okR b=true->∀ i,i<48->f i<2^64):WrdR (comb a b f).1.to:=by
 unfold comb
 split
 ·rename_i hc;rw [bAT,bAT,dE] at hc;exact ze2 fun i _ hi=>h hc.1 hc.2.1 hc.2.2 i hi
 ·exact fun i _=>(by show 0<2^64;decide)
theorem zlS {a b:RelD} (ha:WrdR a.to) (hb:WrdR b.to):WrdR (zfs a b).1.to:=zhS fun _ _ _ i hi=>Nat.or_lt_two_pow (ha i hi) (hb i hi)
theorem zoK {a b:RelD} (ha:WrdR a.to):WrdR (zd3 a b).1.to:=zhS fun _ _ _ i hi=>Nat.lt_of_le_of_lt Nat.and_le_left (ha i hi)
theorem zeF {a b:RelD} (ha:WrdR a.to) (hb:WrdR b.to):WrdR (zbY a b).1.to:=zhS fun _ h _ i hi=>by
 unfold zfu;exact zkr hb _ _ (by decide) fun j hj=>(zjp h ha hi j hj).2
theorem zdm (k:Nat) (p:Nat->Bool):rowP (k+1) p=if p k=true then rowP k p|||2^k else rowP k p:=by
 unfold rowP;rw [List.range_succ,List.foldl_append];rfl
theorem zew (p:Nat->Bool):∀ k,k<=64->rowP k p<2^64
 | 0,_=>by show 0<_;decide
 | k+1,h=>by
  rw [zdm]
  split
  ·exact Nat.or_lt_two_pow (zew p k (by omega)) (zaK (by omega))
  ·exact zew p k (by omega)
theorem zdB {n:Nat} {p:Nat->Nat->Bool} (hn:n<=64):WrdR (zaX n p).to:=ze2 fun i _ _=>zew _ n hn
def zcm (n:Nat) (p:Nat->Nat->Bool) (a k:Nat):Nat->Nat:=fun i=>if i<a then rowP n (p i) else if i=a then rowP k (p a) else 0
theorem zj3 (n:Nat) (p:Nat->Nat->Bool) (a k:Nat):zcm n p a k a=rowP k (p a):=by
 unfold zcm;rw [if_neg (by omega),if_pos rfl]
theorem zmd {n:Nat} {p:Nat->Nat->Bool} {a k:Nat} (h:p a k=true):upd (zcm n p a k) a (zcm n p a k a|||2^k)=zcm n p a (k+1):=by
 funext i;by_cases hi:i=a
 ·subst hi;rw [zaZ,zj3,zj3,zdm,if_pos h]
 ·rw [zcf _ _ hi];unfold zcm;rw [if_neg hi,if_neg hi]
theorem zk6 {n:Nat} {p:Nat->Nat->Bool} {a k:Nat} (h:p a k=false):zcm n p a k=zcm n p a (k+1):=by
 have e:rowP (k+1) (p a)=rowP k (p a):=by rw [zdm,if_neg (by rw [h];decide)]
 funext i;unfold zcm;rw [e]
theorem zk7 (n:Nat) (p:Nat->Nat->Bool) (a:Nat):zcm n p a n=zcm n p (a+1) 0:=by
 funext i;unfold zcm;by_cases h1:i<a
 ·rw [if_pos h1,if_pos (by omega)]
 ·by_cases h2:i=a
  ·subst h2;rw [if_neg h1,if_pos rfl,if_pos (by omega)]
  ·rw [if_neg h1,if_neg h2,if_neg (by omega)]
   split
   ·rfl
   ·rfl
theorem zk5 (n:Nat) (p:Nat->Nat->Bool):zcm n p 0 0=fun _=>0:=by
 funext i;unfold zcm;rw [if_neg (by omega)]
 split <;> rfl
theorem zme (n:Nat) (p:Nat->Nat->Bool):zcm n p n 0=(zaX n p).to:=by
 funext i;unfold zcm zaX zbP;show _=if i<n then _ else 0
 by_cases h:i<n
 ·rw [if_pos h,if_pos h]
 ·rw [if_neg h,if_neg h]
  split <;> rfl
theorem zmc {n:Nat} {p:Nat->Nat->Bool} {a k:Nat} (hn:n<=64) (hk:k<=64):WrdR (zcm n p a k):=fun i _=>by
 unfold zcm
 split
 ·exact zew _ n hn
 ·split
  ·exact zew _ k hk
  ·decide
theorem zqZ {s b:Nat}:decide ((((s/2^b&&&1:Nat):Nat):Int)=1)=s.testBit b:=by
 rw [zjP]
 cases s.testBit b <;> rfl
section
variable {w:World}
theorem zaC {b o a d:Nat} {r:RelD} (hc:∀ i,i<48->w.cell? ⟨b,o+1+i*1,none⟩=some (s64 (r.to i))) (hr:WrdR r.to) (ha:a<48) (hd:d<48) :
  Calls Tryz.prog 67 #[.pointer (some ⟨b,o,none⟩),i64 (a:Nat),i64 (d:Nat)] w fun e w'=>e = .returned (.bool (hasM r a d))/\w=w':=by
 refine cofE 17 [.pointer (some ⟨b,o,none⟩),i64 (a:Nat),i64 (d:Nat)] Tryz.func67 ?_;refine⟨a,rfl,ha,?_⟩;refine⟨_,hc a ha,?_⟩;refine⟨by omega,_,ze8 (a:=r.to a) (k:=d) (by omega),?_⟩;refine⟨_,zbW (a:=r.to a/2^d) (b:=1) (Nat.lt_of_le_of_lt (Nat.div_le_self _ _) (hr a ha)) (by decide),?_⟩;exact⟨rb zqZ,rfl⟩
theorem zfV {e:Ev}:Calls Tryz.prog 101 #[.agg (evE.enc e).toArray] w fun r w'=>r = .returned (.bool (decide (e.k=1)||decide (e.k=2)))/\Bw w w':=by
 refine cofE 11 [.agg (evE.enc e).toArray] Tryz.func101 ?_;have f:=hnew w (.cells (evE.enc e).toArray 54);have hb:Bw w (w.alloc (.cells (evE.enc e).toArray 54)):=zba w _;refine⟨u8 e.k,zac (zab f) (i:=1) rfl,?_⟩;refine biE (fun h=>?_) fun h=>?_
 ·have h:e.k=1:=zbi.1 (dT h);exact⟨rb (by rw [decide_eq_true h];rfl),hb⟩
 ·have h:¬ e.k=1:=fun e2=>(dF h) (by rw [e2];rfl);refine⟨u8 e.k,zac (zab f) (i:=1) rfl,?_⟩;refine⟨rb ?_,hb⟩;rw [decide_eq_false h,Bool.false_or];exact decide_eq_decide.2 (zbi (x:=e.k) (y:=2))
theorem zir {n g:Nat} {caps:Array Value} {p:Nat->Nat->Bool} (hn:n<=48) (hok:zbN (sg 0) g=true)
  (hp:∀ a d X,a<n->d<n->Bw w X->Calls Tryz.prog g (i64 (a:Nat)::i64 (d:Nat)::caps.toList).toArray X fun e Y=>e = .returned (.bool (p a d))/\Bw X Y) :
  CB 61 #[i64 n,.func (.func g) #[] caps] w (.agg (relC (zaX n p)).toArray):=by
 refine cofM 34 [i64 n,.func (.func g) #[] caps] (.c .p (.c .p (.c .p .p))) Tryz.func61 ?_;obtain⟨L,hL⟩:=nm (w.heap.size);refine⟨Unit,fun _=>⟨[(0,i64 n),(1,.func (.func g) #[] caps),(4,At0 L)],[]⟩,fun _ X=>RelH X L zai/\X.heap.size=L+1/\Bw w X,?_,?_⟩
 ·exact⟨(),⟨.cons rfl (.cons rfl (.cons (by rw [hL];rfl) .nil)),rfl⟩,by rw [hL];exact hnew w _,by rw [hL];exact wz _ _,(zba w _)⟩
 rintro _ X ⟨f0,sX,hbX⟩;refine⟨Unit,fun _=>⟨[(0,i64 n),(1,.func (.func g) #[] caps),(4,At0 L),(5,At0 (L+1))],[]⟩,fun _ Y=>RelH Y (L+1) ⟨n,zcm n p 0 0⟩/\Y.heap.size=L+2/\Bw X Y,?_,?_⟩
 ·refine⟨relC ⟨n,fun _=>0⟩,by kernel_rfl,?_⟩;refine zan (X:=X) (v := .agg (relC ⟨n,fun _=>0⟩).toArray) k27 (zad _) (by kernel_rfl) (zau _) fun Z hbZ fZ sZ=>?_;rw [sX] at fZ sZ;exact⟨(),⟨.cons rfl (.cons rfl (.cons rfl (.cons (by rw [<- sX];rfl) .nil))),rfl⟩,by rw [zk5];exact fZ,sZ,hbZ⟩
 rintro _ Y ⟨f1,sY,hbY⟩;have hbwY:=zst hbX hbY;have f0:=zaa hbY f0;refine⟨Unit,fun _=>⟨[(4,At0 L),(5,At0 (L+1))],[]⟩,fun _ Z=>RelH Z (L+1) (zaX n p)/\RelH Z L zai/\Bw w Z,?_,?_⟩
 ·refine⟨Nat,fun a=>⟨[(0,i64 n),(1,.func (.func g) #[] caps),(4,At0 L),(5,At0 (L+1)),(10,i64 n),(11,i64 (a:Nat))],[]⟩,fun a Z=>a<=n/\RelH Z (L+1) ⟨n,zcm n p a 0⟩/\RelH Z L zai/\Bw w Z,fun a=>n-a,0,
   (cvE rfl rfl),⟨Nat.zero_le _,f1,f0,hbwY⟩,?_⟩
  rintro a Z ⟨ha,f1,f0,hbZ⟩;dsimp only at f1 ⊢;refine biE (fun hc=>?_) fun hc=>?_
  ·have hc:(a:Int)<(n:Int):=dT hc;have han:a<n:=by omega
   refine⟨Nat,fun d=>⟨[(0,i64 n),(1,.func (.func g) #[] caps),(4,At0 L),(5,At0 (L+1)),(6,i64 (a:Nat)),(10,i64 n),(11,i64 (a:Nat)),(14,i64 n),(15,i64 (d:Nat))],[]⟩,fun d V=>d<=n/\RelH V (L+1) ⟨n,zcm n p a d⟩/\RelH V L zai/\Bw w V,fun d=>n-d,0,
    (cvE rfl rfl),⟨Nat.zero_le _,f1,f0,hbZ⟩,?_⟩
   clear f1 f0 hbZ;rintro d V ⟨hd,f1,f0,hbV⟩;dsimp only at f1 ⊢;refine biE (fun hc=>?_) fun hc=>?_
   ·have hc:(d:Int)<(n:Int):=dT hc;have hdn:d<n:=(by omega);refine zhV hok (hp a d V han hdn hbV) ?_;rintro e U ⟨rfl,hbU⟩;refine⟨_,rfl,?_⟩;have f1:=zaa hbU f1;have f0:=zaa hbU f0;have hbU2:=zst hbV hbU;have sU:=hbU2.size;refine biE (fun h=>?_) fun h=>?_
    ·have h:p a d=true:=h;have hR:RelAt U (L+1) 0 27 [] [] ⟨n,zcm n p a d⟩:=⟨rfl,by simpa using f1⟩;have dU:Bw U U.drew:=(Below.refl _ _).drew;have ha48:a<48:=(by omega);refine DrawE.ord [9] [0,1,2,3,4,5,6,7,8,9] (by kernel_rfl) ?_;refine⟨a,rfl,ha48,?_⟩;refine⟨s64 (zcm n p a d a),(hR.same (Y:=U.drew) rfl).cell ha48,?_⟩;refine⟨by omega,_,zbQ (e:=d) (by omega),?_⟩;refine⟨_,zcz (zmc (by omega) (by omega) a ha48) (zaK (by omega)),?_⟩;refine⟨a,rfl,ha48,?_⟩;refine zas k24 (hR.same (Y:=U.drew) rfl).cells (o:=0+1+a*1) (v:=s64 (zcm n p a d a|||2^d)) rfl rfl (by rw [hR.len];omega) rfl fun S fS gS sS=>?_;rw [hR.set ha48] at fS;have e5:upd (zcm n p a d) a (zcm n p a d a|||2^d)=zcm n p a (d+1):=zmd h;dsimp only at fS;rw [e5] at fS;have gS2:U.grownBy S (some (L+1)):=zaf (zaj dU) gS;refine nxI (by omega) ?_;exact⟨d+1,(cvE rfl rfl),⟨hdn,by simpa using fS,(gS2.block L (hlt f0) (by simp)).trans f0,hbU2.trans (zap gS2 sU (by omega))⟩,zdc (by omega)⟩
    ·have h:p a d=false:=h;refine nxI (by omega) ?_;exact⟨d+1,(cvE rfl rfl),⟨hdn,by rw [<- zk6 h];exact f1,f0,hbU2⟩,zdc (by omega)⟩
   ·have hc:¬ (d:Int)<(n:Int):=dF hc;obtain rfl:d=n:=(by omega);refine nxI (by omega) ?_;exact⟨a+1,(cvE rfl rfl),⟨han,by rw [<- zk7];exact f1,f0,hbV⟩,zdc (by omega)⟩
  ·have hc:¬ (a:Int)<(n:Int):=dF hc;obtain rfl:a=n:=by omega
   rw [zme] at f1;exact⟨(),(cvE rfl rfl),f1,f0,hbZ⟩
 rintro _ Z ⟨f1,f0,hbZ⟩;refine⟨relC (zaX n p),zad _,zab f1,hlt f1,?_⟩;refine zar (v := .agg (relC (zaX n p)).toArray) k27 f0 (zad _) (zad _) (zau _) ?_;exact⟨relC (zaX n p),zad _,zab (zal f0),rfl,zah hbZ (by omega) _⟩
def relE:Enc RelD:=⟨relC,49,zad,by decide,fun a u hu=>List.all_eq_true.1 (zau a) u hu⟩
theorem zd7 {l:List RelD}:∀ {r:RelD},WrdR r.to->(∀ o∈l,WrdR o.to)->WrdR (za6 r l).to:=by
 induction l with
 | nil=>exact fun h _=>h
 | cons o l ih=>exact fun h hl=>ih (zlS h (hl o List.mem_cons_self)) fun x hx=>hl x (List.mem_cons_of_mem _ hx)
theorem zi9 {r:RelD} {l:List RelD} {pm:Option Addr} {cm:Nat} (hr:WrdR r.to) (hl:SlR relE w pm l) (hw:∀ o∈l,WrdR o.to) (hn:l.length<=1000) :
  CB 96 #[.agg (relC r).toArray,.slice pm l.length cm] w (.agg (relC (za6 r l)).toArray):=by
 refine cofM 21 [.agg (relC r).toArray,.slice pm l.length cm] (.c .p (.c .p .p)) Tryz.func96 ?_;obtain⟨L,hL⟩:=nm (w.heap.size);refine⟨Unit,fun _=>⟨[(1,.slice pm l.length cm),(2,At0 L),(4,At0 (L+1))],[]⟩,fun _ X=>RelH X L r/\RelH X (L+1) zai/\Bw w X,?_,?_⟩
 ·have s1:=wz w (.cells (relC r).toArray 27);have h2:=hnew (w.alloc (.cells (relC r).toArray 27)) (.cells (relC zai).toArray 27);rw [s1] at h2;refine⟨(),⟨.cons rfl (.cons (by rw [hL];rfl) (.cons (by rw [hL,<- s1];rfl) .nil)),rfl⟩,by rw [hL];exact hold _ (hnew w _),by rw [hL];exact h2,((zba w _)).alloc (by simp) _⟩
 rintro _ X ⟨f0,f1,hbX⟩;refine⟨Unit,fun _=>⟨[(2,At0 L),(4,At0 (L+1))],[]⟩,fun _ Z=>RelH Z L (za6 r l)/\RelH Z (L+1) zai/\Bw w Z,?_,?_⟩
 ·refine⟨Nat,fun k=>⟨[(2,At0 L),(4,At0 (L+1)),(7,.slice pm l.length cm),(8,i64 l.length),(9,i64 (k:Nat))],[]⟩,fun k Z=>k<=l.length/\RelH Z L (za6 r (l.take k))/\RelH Z (L+1) zai/\Bw w Z,fun k=>l.length-k,0,
   (cvE rfl rfl),⟨Nat.zero_le _,f0,f1,hbX⟩,?_⟩
  clear f0 f1 hbX;rintro k Z ⟨hk,f0,f1,hbZ⟩;dsimp only;have hZs:=hbZ.size;refine biE (fun hc=>?_) fun hc=>?_
  ·have hc:(k:Int)<(l.length:Int):=dT hc;have hkl:k<l.length:=by omega
   obtain⟨b,o,rfl,hb,hat⟩:=hl.at hkl;obtain⟨t,ht⟩:∃ t,l[k]=t:=⟨_,rfl⟩;have htm:t∈l:=by rw [<- ht];exact gM hkl
   have htk:za6 r (l.take (k+1))=(zfs (za6 r (l.take k)) t).1:=by
    unfold za6;rw [tsg hkl,ht,List.foldl_append];rfl
   have hut:WrdR (za6 r (l.take k)).to:=zd7 hr fun o ho=>hw o (List.mem_of_mem_take ho);refine⟨k,rfl,hkl,?_⟩;refine⟨relC t,zad _,by rw [<- ht];exact zae hbZ (hat k hkl),nL hb hZs,?_⟩;refine zan (X:=Z) (v := .agg (relC t).toArray) k27 (zad _) (by kernel_rfl) (zau _) fun Y hbY fY sY=>?_;have fY:RelH Y Z.heap.size t:=fY;have f0:=zaa hbY f0;have f1:=zaa hbY f1;refine⟨relC (za6 r (l.take k)),zad _,zab f0,hlt f0,?_⟩;refine⟨relC t,zad _,zab fY,hlt fY,?_⟩;refine cmo (zq4 hut (hw t htm)) ?_;rintro e V ⟨rfl,hbV⟩;have f0:=zaa hbV f0;have f1:=zaa hbV f1;refine zar (v := .agg (relC (zfs (za6 r (l.take k)) t).1).toArray) k27 f0 (zad _) (zad _) (zau _) ?_;refine nxI (by omega) ?_;have hbV2:=(hbZ.trans (hbY.mono hZs)).trans (hbV.mono (by have:=hbY.size;omega));exact⟨k+1,(cvE rfl rfl),⟨hkl,by rw [htk];exact zal f0,(zam (by omega)).trans f1,zah hbV2 (by omega) _⟩,zdc (by omega)⟩
  ·have hc:¬ (k:Int)<(l.length:Int):=dF hc;obtain rfl:k=l.length:=by omega
   rw [List.take_length] at f0;exact⟨(),(cvE rfl rfl),f0,f1,hbZ⟩
 rintro _ Z ⟨f0,f1,hbZ⟩;refine⟨relC (za6 r l),zad _,zab f0,hlt f0,?_⟩;refine zar (v := .agg (relC (za6 r l)).toArray) k27 f1 (zad _) (zad _) (zau _) ?_;exact⟨relC (za6 r l),zad _,zab (zal f1),rfl,zah hbZ (by omega) _⟩
end
structure RelOk (n:Nat) (r:RelD):Prop where
 n:r.n=n
 ok:okR r=true
 w:WrdR r.to
section
variable {n:Nat} {r a b:RelD}
theorem RelOk.le (h:RelOk n r):n<=48:=by
 have:=(zbl h.ok).2.1;have:=h.n;omega
theorem RelOk.bit (h:RelOk n r) {i j:Nat} (hi:i<48) (hb:hasM r i j=true):i<n/\j<n:=by
 have:=zhr h.ok h.w hi hb;have:=h.n;omega
theorem zo1 (hn:r.n=n) (h48:n<=48) (h:∀ i j,i<48->hasM r i j=true->i<n/\j<n):okR r=true:=by
 unfold okR;rw [bAT,bAT,dE,dE,List.all_eq_true];refine⟨by omega,by omega,fun i hi=>?_⟩;have hi:=List.mem_range.1 hi;unfold zey;rw [bAT,Bool.or_eq_true,dE,dE,dE];refine⟨?_,?_⟩
 ·rw [zhE,zgH];apply Nat.eq_of_testBit_eq;intro j;rw [Nat.zero_testBit];by_cases hj:j<64
  ·rw [zdX (zdJ _) hj,zhZ (by omega) (by omega) hj]
   cases hb:(r.to i).testBit j with
   | false=>rfl
   | true =>
    have:=(h i j hi hb).2;rw [decide_eq_true (by omega)];rfl
  ·have:=Nat.testBit_lt_two_pow (nL (Nat.lt_of_le_of_lt (show zcr (r.to i) (allN r.n)<=_ from Nat.and_le_right) (show 18446744073709551615-allN r.n<2^64 by omega)) (Nat.pow_le_pow_right (show 0<2 by decide) (show 64<=j by omega)));exact this
 ·by_cases hin:i<n
  ·exact .inl (by omega)
  ·refine .inr (Nat.eq_of_testBit_eq fun j=>?_);rw [Nat.zero_testBit]
   cases hb:(r.to i).testBit j with
   | false=>rfl
   | true=>exact absurd (h i j hi hb).1 hin
theorem RelOk.of (hn:r.n=n) (h48:n<=48) (h:∀ i j,i<48->hasM r i j=true->i<n/\j<n) (hw:WrdR r.to):RelOk n r:=⟨hn,zo1 hn h48 h,hw⟩
theorem zev (p:Nat->Bool):∀ k j,(rowP k p).testBit j=(decide (j<k)&&p j)
 | 0,j=>by
  show (0:Nat).testBit j=_;simp
 | k+1,j=>by
  rw [zdm]
  split
  ·rename_i h;rw [Nat.testBit_or,zev p k j,zb6];by_cases e:j=k
   ·subst e;simp [h]
   ·rw [decide_eq_false e,Bool.or_false];congr 1;exact decide_eq_decide.2 (by omega)
  ·rename_i h;rw [zev p k j];by_cases e:j=k
   ·subst e;have:p j=false:=(by simpa using h);rw [this,Bool.and_false,Bool.and_false]
   ·congr 1;exact decide_eq_decide.2 (by omega)
theorem ze3 {f:Nat->Nat} {i j:Nat}:hasM (zbP n f) i j=(decide (i<n)&&(f i).testBit j):=by
 unfold hasM zbP;dsimp only
 split
 ·rename_i h;rw [decide_eq_true h];rfl
 ·rename_i h;rw [decide_eq_false h,Nat.zero_testBit];rfl
theorem zbV {p:Nat->Nat->Bool} {i j:Nat}:hasM (zaX n p) i j=(decide (i<n)&&(decide (j<n)&&p i j)):=by
 unfold zaX;rw [ze3,zev]
theorem RelOk.pick (h:n<=48) (p:Nat->Nat->Bool):RelOk n (zaX n p):=by
 refine .of rfl h (fun i j _ hb=>?_) (zdB (by omega));rw [zbV] at hb;simp only [bAT,dE] at hb;exact⟨hb.1,hb.2.1⟩
theorem zni {f:Nat->Nat} (ha:RelOk n a) (hb:RelOk n b):comb a b f=(zbP n f,0):=by
 unfold comb;have e:a.n.toNat=n:=by have:=ha.n;omega
 rw [decide_eq_true (ha.n.trans hb.n.symm),ha.ok,hb.ok,if_pos (show (true&&(true&&true))=true from rfl),e]
theorem RelOk.comb {f:Nat->Nat} (ha:RelOk n a) (hb:RelOk n b) (hf:∀ i j,i<n->(f i).testBit j=true->j<n):RelOk n (comb a b f).1:=by
 rw [zni ha hb];have h48:=ha.le;have hbit:∀ i j,hasM (zbP n f) i j=true->i<n/\j<n:=fun i j h=>by
  rw [ze3,bAT,dE] at h;exact⟨h.1,hf i j h.1 h.2⟩
 refine .of rfl h48 (fun i j _ h=>hbit i j h) fun i hi=>?_;apply Nat.lt_of_not_le;intro hge;obtain⟨j,hj1,hj2⟩:=Nat.exists_ge_and_testBit_of_ge_two_pow hge;have:=(hbit i j hj2).2;omega
theorem ze4 (ha:RelOk n a) {i j:Nat} (hi:i<64):hasM (za3 a) i j=(decide (j<n)&&hasM a j i):=by
 unfold hasM;rw [zkJ ha.ok];have e1:decide ((j:Int)<a.n)=decide (j<n):=decide_eq_decide.2 (by have:=ha.n;omega);have e2:decide (i∈els (a.to j))=(a.to j).testBit i:=by
  cases h:(a.to j).testBit i with
  | true=>exact decide_eq_true (zcW.2 ⟨hi,h⟩)
  | false=>exact decide_eq_false fun hm=>by rw [(zcW.1 hm).2] at h;cases h
 rw [e1,e2]
theorem RelOk.back (ha:RelOk n a):RelOk n (za3 a):=by
 have h48:=ha.le;have hbit:∀ i j,i<48->hasM (za3 a) i j=true->i<n/\j<n:=fun i j hi h=>by
  rw [ze4 ha (by omega),bAT,dE] at h;exact⟨(ha.bit (by omega) h.2).2,h.1⟩
 refine .of ?_ h48 hbit fun i hi=>?_
 ·unfold za3;rw [if_pos ha.ok];exact ha.n
 ·apply Nat.lt_of_not_le;intro hge;obtain⟨j,hj1,hj2⟩:=Nat.exists_ge_and_testBit_of_ge_two_pow hge;have:=(hbit i j hi hj2).2;omega
theorem zgp {to:Nat->Nat} {j:Nat}:∀ (l:List Nat) (t:Nat),(l.foldl (fun t a=>t|||to a) t).testBit j=(t.testBit j||l.any fun a=>(to a).testBit j)
 | [],t=>by simp
 | a::l,t=>by rw [List.foldl_cons,zgp l,Nat.testBit_or,List.any_cons,Bool.or_assoc]
theorem zfD (ha:RelOk n a) (hb:RelOk n b) {i j:Nat} (hi:i<n):hasM (zbY a b).1 i j=true↔∃ k,k<n/\hasM a i k=true/\hasM b k j=true:=by
 unfold zbY;rw [zni ha hb];show hasM (zbP n _) i j=true↔_;have h48:=ha.le;rw [ze3,decide_eq_true hi,Bool.true_and];unfold zfu;rw [zgp,Nat.zero_testBit,Bool.false_or,List.any_eq_true];constructor
 ·rintro⟨k,hk,h⟩;exact⟨k,(ha.bit (by omega) (zcW.1 hk).2).2,(zcW.1 hk).2,h⟩
 ·rintro⟨k,hk,h1,h2⟩;exact⟨k,zcW.2 ⟨by omega,h1⟩,h2⟩
theorem RelOk.then (ha:RelOk n a) (hb:RelOk n b):RelOk n (zbY a b).1:=ha.comb hb fun i j hi h=>by
 have h48:=ha.le;unfold zfu at h;rw [zgp,Nat.zero_testBit,Bool.false_or,List.any_eq_true] at h;obtain⟨k,hk,h⟩:=h;have:=(ha.bit (by omega) (zcW.1 hk).2).2;exact (hb.bit (by omega) h).2
end
structure WX (x:ExD):Prop where
 po:WrdR x.po.to
 rf:WrdR x.rf.to
 co:WrdR x.co.to
 dt:WrdR x.dt.to
 ct:WrdR x.ct.to
 rm:WrdR x.rm.to
structure XOk (x:ExD):Prop where
 n:x.ev.length<=48
 po:RelOk x.ev.length x.po
 rf:RelOk x.ev.length x.rf
 co:RelOk x.ev.length x.co
 dt:RelOk x.ev.length x.dt
 ct:RelOk x.ev.length x.ct
 rm:RelOk x.ev.length x.rm
 ev:zbD x.ev (zaI x.ev)=true
 poE:zbe x.po (poR x.ev)=true
 rfR:zcT x=true
 coR:zcF x (zaI x.ev)=true
 dep:zcx x=true
section
variable {x:ExD}
theorem zrk (hw:WX x) (h:zaL x=true):XOk x:=by
 unfold zaL za4 at h;simp only [List.all_cons,List.all_nil,Bool.and_true,bAT,dE] at h;obtain⟨h1,_,_,h4,⟨h5,h6,h7,h8,h9,h10⟩,h11,h12,h13,h14⟩:=h;exact⟨h1,⟨h5.1,h5.2,hw.po⟩,⟨h6.1,h6.2,hw.rf⟩,⟨h7.1,h7.2,hw.co⟩,⟨h8.1,h8.2,hw.dt⟩,⟨h9.1,h9.2,hw.ct⟩,⟨h10.1,h10.2,hw.rm⟩,h4,h11,h12,h13,h14⟩
theorem zrO (h:XOk x):RelOk x.ev.length (frM x):=h.rf.back.then h.co
theorem zqq (h:XOk x) {r:RelD} (hr:RelOk x.ev.length r):RelOk x.ev.length (extM x r):=by
 have e:r.n.toNat=x.ev.length:=by have:=hr.n;omega
 unfold extM;rw [e];exact .pick h.n _
theorem zoo (h:XOk x) {m:Nat}:RelOk x.ev.length (zcX m x) := .pick h.n _
def zgN (m:Nat) (x:ExD):RelD:=if zbh m=true/\zaL x=true then zcX m x else zai
end
section
variable {n:Nat} {a b:RelD} {x:ExD}
theorem zdA (ha:RelOk n a) (hb:RelOk n b) (h:∀ i j,i<n->j<n->hasM a i j=hasM b i j):zbe a b=true:=by
 have h48:=ha.le;unfold zbe;rw [bAT,dE,List.all_eq_true];refine⟨ha.n.trans hb.n.symm,fun i hi=>decide_eq_true (Nat.eq_of_testBit_eq fun j=>?_)⟩;have hi:=List.mem_range.1 hi;by_cases hij:i<n/\j<n
 ·exact h i j hij.1 hij.2
 ·have e1:hasM a i j=false:=by
   cases hc:hasM a i j with
   | false=>rfl
   | true=>exact (hij (ha.bit hi hc)).elim
  have e2:hasM b i j=false:=by
   cases hc:hasM b i j with
   | false=>rfl
   | true=>exact (hij (hb.bit hi hc)).elim
  exact e1.trans e2.symm
theorem zdU (h:zbe a b=true) {i j:Nat} (hi:i<48):hasM a i j=hasM b i j:=by
 unfold zbe at h;rw [bAT,List.all_eq_true] at h;have:=dT (h.2 i (List.mem_range.2 hi));unfold hasM;rw [this]
theorem zqf (h:XOk x) {r:RelD} (hr:RelOk x.ev.length r):RelOk x.ev.length (intM x r):=by
 have e:r.n.toNat=x.ev.length:=by have:=hr.n;omega
 unfold intM;rw [e];exact .pick h.n _
theorem zqt {r:RelD} (hr:RelOk x.ev.length r) {i j:Nat} (hi:i<x.ev.length) (hj:j<x.ev.length):hasM (extM x r) i j=(hasM r i j && !decide ((evA x i).th=(evA x j).th)):=by
 have e:r.n.toNat=x.ev.length:=by have:=hr.n;omega
 unfold extM;rw [e,zbV,decide_eq_true hi,decide_eq_true hj];rfl
theorem zqg {r:RelD} (hr:RelOk x.ev.length r) {i j:Nat} (hi:i<x.ev.length) (hj:j<x.ev.length):hasM (intM x r) i j=(hasM r i j&&decide ((evA x i).th=(evA x j).th)):=by
 have e:r.n.toNat=x.ev.length:=by have:=hr.n;omega
 unfold intM;rw [e,zbV,decide_eq_true hi,decide_eq_true hj];rfl
theorem znE {t:Int}:∀ (es:List Ev) (j s k:Nat),(zjk t j es s).testBit k=true↔s.testBit k=true\/∃ m,m<es.length/\k=j+m/\(es.getD m ev0).th=t
 | [],j,s,k=>by
  show s.testBit k=true↔_;simp
 | e::es,j,s,k=>by
  show (zjk t (j+1) es (if e.th=t then s|||2^j else s)).testBit k=true↔_;rw [znE es];have hs:(if e.th=t then s|||2^j else s).testBit k=true↔s.testBit k=true\/(k=j/\e.th=t):=by
   split
   ·rename_i h;rw [Nat.testBit_or,zb6,Bool.or_eq_true,dE];simp [h]
   ·rename_i h;simp [h]
  rw [hs];constructor
  ·rintro ((h | ⟨h1,h2⟩) | ⟨m,h1,h2,h3⟩)
   ·exact .inl h
   ·exact .inr ⟨0,by simp,h1,h2⟩
   ·exact .inr ⟨m+1,by simpa using h1,by omega,by simpa using h3⟩
  ·rintro (h | ⟨m,h1,h2,h3⟩)
   ·exact .inl (.inl h)
   ·cases m with
    | zero=>exact .inl (.inr ⟨h2,h3⟩)
    | succ m=>exact .inr ⟨m,by simpa using h1,by omega,by simpa using h3⟩
theorem zmP {s i j:Nat}:hasM (idR n s) i j=(decide (i<n)&&(s.testBit j&&decide (j=i))):=by
 unfold idR;rw [ze3,Nat.testBit_and,zb6]
theorem RelOk.id (h:n<=48) (s:Nat):RelOk n (idR n s):=by
 have hb:∀ i j,hasM (idR n s) i j=true->i<n/\j<n:=fun i j hb=>by
  rw [zmP] at hb;simp only [bAT,dE] at hb;exact⟨hb.1,by omega⟩
 refine .of rfl h (fun i j _=>hb i j) fun i hi=>?_;apply Nat.lt_of_not_le;intro hge;obtain⟨j,hj1,hj2⟩:=Nat.exists_ge_and_testBit_of_ge_two_pow hge;have:=(hb i j hj2).2;omega
def zb9 (x:ExD) (md:UInt8):RelD:=if zaL x=true then (if 3<=md.toNat/\md.toNat<=5 then zaz x md else relN x.ev.length) else zai
theorem zlp (h:XOk x) (md:UInt8):RelOk x.ev.length (zaz x md):=(h.po.then (.id h.n _)).then h.po
theorem zpS {n:Nat} (h:n<=48):RelOk n (relN n):=by
 refine .of rfl h (fun i j _ hb=>?_) fun i _=>(by show 0<2^64;decide);have:(0:Nat).testBit j=true:=hb;rw [Nat.zero_testBit] at this;cases this
theorem zgn {key:Nat->Nat} {y:Nat}:∀ r:List Nat,(zbC key r y).Perm (y::r)
 | [] => .refl _
 | z::r=>by
  unfold zbC
  split
  ·exact ((zgn r).cons z).trans (.swap y z r)
  ·exact .refl _
theorem ziL {key:Nat->Nat}:∀ (l acc:List Nat),(l++acc).Nodup->(l.foldl (fun acc x=>zbC key acc x) acc).Nodup
 | [],acc,h=>h
 | y::l,acc,h=>ziL l _ (by
   have p:(l++zbC key acc y).Perm (y::l++acc):=((zgn acc).append_left l).trans List.perm_middle;exact p.nodup_iff.2 h)
theorem zla (l:Nat):(zaM x l).Nodup:=by
 unfold zaM zhm;refine (List.reverse_perm _).nodup_iff.2 (ziL _ _ ?_);rw [List.append_nil];exact List.nodup_range.filter _
theorem zp9 (h:XOk x):RelOk x.ev.length (locM x) := .pick h.n _
end
def zb1 (r:RelD) (a:Nat):Nat:=cntQ (fun b=>hasQ r b a) r.n.toNat
def zcd (r:RelD) (a:Nat):Nat:=cntQ (fun b=>hasQ r a b) r.n.toNat
def poQ (x:ExD) (a b:Nat):Bool:=decide (0<=(evA x a).th)&&(decide ((evA x a).th=(evA x b).th)&&decide (a<b))
def zek (x:ExD) (a b:Nat):Bool:=decide ((evA x a).l=(evA x b).l)
def zga (x:ExD) (a b:Nat):Bool :=
 (hasQ x.po a b == poQ x a b)&&((!hasQ x.rf a b||(isW x a&&(isR x b&&(zek x a b&&decide ((evA x a).v=(evA x b).v)))))&&((!hasQ x.co a b||(isW x a&&(isW x b&&zek x a b))) &&
  ((!hasQ x.dt a b||(poQ x a b&&(isR x a&&isW x b)))&&((!hasQ x.ct a b||(poQ x a b&&isR x a))&&(!hasQ x.rm a b||(poQ x a b&&(isR x a&&(isW x b&&zek x a b))))))))
def zeD (x:ExD) (a:Nat):Bool:=(!isR x a||decide (zb1 x.rf a=1))&&(decide (zcd x.rm a<=1)&&decide (zb1 x.rm a<=1))
theorem zfp {f:Nat->Bool}:∀ {n:Nat},0<cntQ f n↔∃ i,i<n/\f i=true
 | 0=>⟨fun h=>absurd h (Nat.lt_irrefl _),fun ⟨i,h,_⟩=>absurd h (Nat.not_lt_zero _)⟩
 | n+1=>by
  rw [za1];constructor
  ·intro h;by_cases hf:f n=true
   ·exact⟨n,Nat.lt_succ_self _,hf⟩
   ·rw [if_neg hf] at h;obtain⟨i,h1,h2⟩:=zfp.1 (show 0<cntQ f n by omega);exact⟨i,by omega,h2⟩
  ·rintro⟨i,h1,h2⟩;by_cases hi:i=n
   ·subst hi;rw [if_pos h2];omega
   ·have:=zfp.2 ⟨i,(by omega:i<n),h2⟩;omega
theorem zdq {f:Nat->Bool}:∀ {n:Nat},cntQ f n<=1↔∀ i j,i<n->j<n->f i=true->f j=true->i=j
 | 0=>⟨fun _ i j h=>absurd h (Nat.not_lt_zero _),fun _=>Nat.zero_le _⟩
 | n+1=>by
  rw [za1];constructor
  ·intro h i j hi hj fi fj;by_cases hf:f n=true
   ·rw [if_pos hf] at h;have h0:¬ 0<cntQ f n:=(by omega);have no:∀ k,k<n->f k=true->False:=fun k hk fk=>h0 (zfp.2 ⟨k,hk,fk⟩);have e1:i=n:=by
     by_cases hi2:i<n
     ·exact (no i hi2 fi).elim
     ·omega
    have e2:j=n:=by
     by_cases hj2:j<n
     ·exact (no j hj2 fj).elim
     ·omega
    omega
   ·rw [if_neg hf] at h;have e1:i<n:=by
     by_cases e:i=n
     ·rw [e] at fi;exact absurd fi hf
     ·omega
    have e2:j<n:=by
     by_cases e:j=n
     ·rw [e] at fj;exact absurd fj hf
     ·omega
    exact zdq.1 (by omega) i j e1 e2 fi fj
  ·intro h;by_cases hf:f n=true
   ·rw [if_pos hf];have:cntQ f n=0:=ze0 fun k hk=>by
     cases hfk:f k with
     | false=>rfl
     | true=>have:=h k n (by omega) (by omega) hfk hf;omega
    omega
   ·rw [if_neg hf];have:=(zdq (n:=n)).2 fun i j hi hj fi fj=>h i j (by omega) (by omega) fi fj;omega
theorem zqR {f:Nat->Bool} {n:Nat}:cntQ f n=1↔(∃ i,i<n/\f i=true)/\∀ i j,i<n->j<n->f i=true->f j=true->i=j:=by
 rw [<- zfp,<- zdq];omega
section
variable {n:Nat} {r:RelD} {x:ExD}
theorem zgq (h:RelOk n r) {a b:Nat} (ha:a<48):hasQ r a b=hasM r a b:=by
 unfold hasQ;rw [h.ok,Bool.true_and]
 cases hb:(r.to a).testBit b with
 | false=>rw [show hasM r a b=false from hb,Bool.and_false,Bool.and_false]
 | true =>
  have:=h.bit ha hb;have:=h.n;rw [show hasM r a b=true from hb,decide_eq_true (by omega),decide_eq_true (by omega)];rfl
theorem RelOk.nat (h:RelOk n r):r.n.toNat=n:=by have:=h.n;omega
theorem zko (h:RelOk n r) {a:Nat} (ha:a<n):zb1 r a=1↔(∃ j,j<n/\hasM r j a=true)/\∀ i j,i<n->j<n->hasM r i a=true->hasM r j a=true->i=j:=by
 unfold zb1;rw [zqR,h.nat];have h48:=h.le;have e:∀ i,i<n->hasQ r i a=hasM r i a:=fun i hi=>zgq h (by omega);constructor
 ·rintro⟨⟨j,hj,h1⟩,h2⟩;exact⟨⟨j,hj,by rw [<- e j hj];exact h1⟩,fun i j hi hj fi fj=>h2 i j hi hj (by rw [e i hi];exact fi) (by rw [e j hj];exact fj)⟩
 ·rintro⟨⟨j,hj,h1⟩,h2⟩;exact⟨⟨j,hj,by rw [e j hj];exact h1⟩,fun i j hi hj fi fj=>h2 i j hi hj (by rw [<- e i hi];exact fi) (by rw [<- e j hj];exact fj)⟩
theorem zmN (h:RelOk n r) {a:Nat} (ha:a<n):zb1 r a<=1↔∀ i j,i<n->j<n->hasM r i a=true->hasM r j a=true->i=j:=by
 unfold zb1;rw [zdq,h.nat];have h48:=h.le;have e:∀ i,i<n->hasQ r i a=hasM r i a:=fun i hi=>zgq h (by omega);exact⟨fun h2 i j hi hj fi fj=>h2 i j hi hj (by rw [e i hi];exact fi) (by rw [e j hj];exact fj),fun h2 i j hi hj fi fj=>h2 i j hi hj (by rw [<- e i hi];exact fi) (by rw [<- e j hj];exact fj)⟩
theorem zmS (h:RelOk n r) {a:Nat} (ha:a<n):zcd r a<=1↔∀ i j,i<n->j<n->hasM r a i=true->hasM r a j=true->i=j:=by
 unfold zcd;rw [zdq,h.nat];have h48:=h.le;have e:∀ i,hasQ r a i=hasM r a i:=fun i=>zgq h (by omega);simp only [e]
theorem zqG {j:Nat} (h:j<64):ctz (2^j)=j:=by
 have h2:(2:Nat)^j<2^64:=Nat.pow_lt_pow_right (by decide) h;have:=(zcW.1 (zhR (Nat.ne_of_gt (Nat.pow_pos (by decide))) h2)).2;rw [zb6] at this;exact dT this
theorem znw {s:Nat} (h:s≠0):∃ j,s.testBit j=true:=by
 refine Classical.byContradiction fun hn=>h (Nat.eq_of_testBit_eq fun j=>?_);rw [Nat.zero_testBit]
 cases hb:s.testBit j with
 | false=>rfl
 | true=>exact (hn ⟨j,hb⟩).elim
theorem zrs (hrf:RelOk x.ev.length x.rf):zcT x=true↔(∀ a b,a<x.ev.length->b<x.ev.length->hasM x.rf a b=true->isW x a=true/\isR x b=true/\(evA x a).l=(evA x b).l/\(evA x a).v=(evA x b).v) /\
  ∀ b,b<x.ev.length->isR x b=true->(∃ j,j<x.ev.length/\hasM x.rf j b=true)/\∀ i j,i<x.ev.length->j<x.ev.length->hasM x.rf i b=true->hasM x.rf j b=true->i=j:=by
 have h48:=hrf.le;have bk:∀ i,i<x.ev.length->∀ j,((za3 x.rf).to i).testBit j=(decide (j<x.ev.length)&&hasM x.rf j i):=fun i hi j=>ze4 hrf (by omega);have w64:∀ i,i<x.ev.length->(za3 x.rf).to i<2^64:=fun i hi=>hrf.back.w i (by omega);unfold zcT;rw [List.all_eq_true];constructor
 ·intro h;have one:∀ b,b<x.ev.length->∀ a,hasM x.rf a b=true->a<x.ev.length->(evA x b).k=1/\a=ctz ((za3 x.rf).to b)/\(evA x a).k=2/\(evA x a).l=(evA x b).l/\(evA x a).v=(evA x b).v:=fun b hb a hab ha=>by
   have h1:=h b (List.mem_range.2 hb);have hbit:((za3 x.rf).to b).testBit a=true:=by rw [bk b hb,hab,decide_eq_true ha];rfl
   have h0:¬ (za3 x.rf).to b=0:=fun e=>by rw [e,Nat.zero_testBit] at hbit;cases hbit
   unfold zeJ at h1;by_cases hk:(evA x b).k=1
   ·rw [if_pos hk,if_neg h0] at h1;by_cases hs:(za3 x.rf).to b=2^ctz ((za3 x.rf).to b)
    ·rw [if_pos hs] at h1;have hz:a=ctz ((za3 x.rf).to b):=by
      rw [hs,zb6] at hbit;exact dT hbit
     rw [<- hz] at h1;simp only [bAT,dE] at h1;exact⟨hk,hz,h1⟩
    ·rw [if_neg hs] at h1;cases h1
   ·rw [if_neg hk] at h1;exact (h0 (dT h1)).elim
  refine⟨fun a b ha hb hab=>?_,fun b hb hr=>⟨?_,fun i j hi hj h1 h2=>?_⟩⟩
  ·obtain⟨h1,_,h3,h4⟩:=one b hb a hab ha;exact⟨decide_eq_true h3,decide_eq_true h1,h4⟩
  ·have h1:=h b (List.mem_range.2 hb);unfold zeJ at h1;rw [if_pos (dT hr:(evA x b).k=1)] at h1;by_cases h0:(za3 x.rf).to b=0
   ·rw [if_pos h0] at h1;cases h1
   ·obtain⟨j,hj⟩:=znw h0;rw [bk b hb,bAT,dE] at hj;exact⟨j,hj⟩
  ·exact (one b hb i h1 hi).2.1.trans (one b hb j h2 hj).2.1.symm
 ·rintro⟨h1,h2⟩ b hb;have hb:=List.mem_range.1 hb;unfold zeJ;by_cases hk:(evA x b).k=1
  ·rw [if_pos hk];obtain⟨⟨j,hj,hj1⟩,hu⟩:=h2 b hb (decide_eq_true hk);have hs:(za3 x.rf).to b=2^j:=Nat.eq_of_testBit_eq fun i=>by
    rw [bk b hb,zb6];by_cases hij:i=j
    ·rw [hij,hj1,decide_eq_true hj,decide_eq_true rfl];rfl
    ·rw [decide_eq_false hij]
     cases hi:hasM x.rf i b with
     | false=>rw [Bool.and_false]
     | true =>
      by_cases hin:i<x.ev.length
      ·exact (hij (hu i j hin hj hi hj1)).elim
      ·rw [decide_eq_false hin];rfl
   have hz:ctz ((za3 x.rf).to b)=j:=by rw [hs];exact zqG (by omega)
   have h0:¬ (za3 x.rf).to b=0:=by rw [hs];exact Nat.ne_of_gt (Nat.pow_pos (by decide))
   rw [if_neg h0,hz,if_pos hs];obtain⟨a1,_,a3,a4⟩:=h1 j b hj hb hj1;rw [decide_eq_true (dT a1:(evA x j).k=2),decide_eq_true a3,decide_eq_true a4];rfl
  ·rw [if_neg hk];refine decide_eq_true (Nat.eq_of_testBit_eq fun j=>?_);rw [bk b hb,Nat.zero_testBit];by_cases hj:j<x.ev.length
   ·cases hjb:hasM x.rf j b with
    | false=>rw [Bool.and_false]
    | true=>exact (hk (dT (h1 j b hj hb hjb).2.1)).elim
   ·rw [decide_eq_false hj];rfl
end
section
variable {x : ExD}
theorem zeT {a b : Nat} (ha : a < 2 ^ 64) (hb : b < 2 ^ 64) : zcE a b = 0 ↔ ∀ j, a.testBit j = true → b.testBit j = true := by
  rw [zhE]
  constructor
  · intro h j hj
    have hj64 : j < 64 := by
      refine Nat.lt_of_not_le fun hge => ?_
      rw [Nat.testBit_lt_two_pow (Nat.lt_of_lt_of_le ha (Nat.pow_le_pow_right (by decide) hge))] at hj
      cases hj
    have := zdX (a := a) hb hj64
    rw [h, Nat.zero_testBit, hj, Bool.true_and] at this
    cases hc : b.testBit j with
    | true => rfl
    | false => rw [hc] at this; cases this
  · intro h
    refine Nat.eq_of_testBit_eq fun j => ?_
    rw [Nat.zero_testBit]
    by_cases hj : j < 64
    · rw [zdX (a := a) hb hj]
      cases hc : a.testBit j with
      | false => rfl
      | true => rw [h j hc]; rfl
    · exact Nat.testBit_lt_two_pow (Nat.lt_of_lt_of_le (Nat.lt_of_le_of_lt (show zcr a b ≤ a from Nat.and_le_left) ha) (Nat.pow_le_pow_right (by decide) (by omega)))
theorem zpr (x : ExD) : ∀ k j, ((List.range k).foldl (fun s i => if (evA x i).k = 2 then s ||| 2 ^ i else s) 0).testBit j = (decide (j < k) && isW x j)
  | 0, j => by show (0 : Nat).testBit j = _; simp
  | k + 1, j => by
    rw [List.range_succ, List.foldl_append, List.foldl_cons, List.foldl_nil]
    unfold isW at *
    split
    · rename_i h
      rw [Nat.testBit_or, zpr x k j, zb6]
      by_cases e : j = k
      · subst e
        simp [h, isW]
      · rw [decide_eq_false e, Bool.or_false]
        unfold isW
        congr 1
        exact decide_eq_decide.2 (by omega)
    · rename_i h
      rw [zpr x k j]
      unfold isW
      by_cases e : j = k
      · subst e
        rw [decide_eq_false h, Bool.and_false, Bool.and_false]
      · congr 1
        exact decide_eq_decide.2 (by omega)
theorem zlK (x : ExD) (j : Nat) : (zcP x).testBit j = (decide (j < x.ev.length) && isW x j) := zpr x _ j
theorem zrl (h : x.ev.length ≤ 48) : zcP x < 2 ^ 64 := by
  refine Nat.lt_of_not_le fun hge => ?_
  obtain ⟨j, hj1, hj2⟩ := Nat.exists_ge_and_testBit_of_ge_two_pow hge
  rw [zlK, Bool.and_eq_true, decide_eq_true_eq] at hj2
  omega
structure DepOne (x : ExD) (k : Nat) : Prop where
  w : ∀ j, hasM x.dt k j = true ∨ hasM x.rm k j = true → isW x j = true
  p : ∀ j, hasM x.dt k j = true ∨ hasM x.ct k j = true ∨ hasM x.rm k j = true → isR x k = true ∧ hasM x.po k j = true
  u : ∀ i j, hasM x.rm k i = true → hasM x.rm k j = true → i = j
  l : ∀ j, hasM x.rm k j = true → (evA x j).l = (evA x k).l
theorem zky (h48 : x.ev.length ≤ 48) (hpo : RelOk x.ev.length x.po) (hdt : RelOk x.ev.length x.dt) (hct : RelOk x.ev.length x.ct) (hrm : RelOk x.ev.length x.rm) : ∀ (m i h : Nat), i + m = x.ev.length →
    (zeZ x (zcP x) i (x.ev.drop i) h = true ↔ (∀ k, i ≤ k → k < x.ev.length → DepOne x k) ∧ (∀ k j, i ≤ k → k < x.ev.length → hasM x.rm k j = true → h.testBit j = false) ∧ ∀ k k' j, i ≤ k → k < k' → k' < x.ev.length → hasM x.rm k j = true → hasM x.rm k' j = true → False)
  | 0, i, h, hi => by
    rw [List.drop_of_length_le (by omega)]
    exact ⟨fun _ => ⟨fun k h1 h2 => by omega, fun k j h1 h2 => by omega, fun k k' j h1 h2 h3 => by omega⟩, fun _ => rfl⟩
  | m + 1, i, h, hi => by
    have hil : i < x.ev.length := by omega
    have hd : x.ev.drop i = evA x i :: x.ev.drop (i + 1) := by
      unfold evA
      rw [List.getD_eq_getElem?_getD, List.getElem?_eq_getElem hil, ← List.getElem_cons_drop hil]; rfl
    rw [hd]
    obtain ⟨d, hdd⟩ : ∃ d, d = x.dt.to i := ⟨_, rfl⟩
    obtain ⟨c, hcc⟩ : ∃ c, c = x.ct.to i := ⟨_, rfl⟩
    obtain ⟨r, hrr⟩ : ∃ r, r = x.rm.to i := ⟨_, rfl⟩
    have bd : ∀ j, d.testBit j = hasM x.dt i j := fun j => by rw [hdd]; rfl
    have bc : ∀ j, c.testBit j = hasM x.ct i j := fun j => by rw [hcc]; rfl
    have br : ∀ j, r.testBit j = hasM x.rm i j := fun j => by rw [hrr]; rfl
    have d64 : d < 2 ^ 64 := by rw [hdd]; exact hdt.w i (by omega)
    have c64 : c < 2 ^ 64 := by rw [hcc]; exact hct.w i (by omega)
    have r64 : r < 2 ^ 64 := by rw [hrr]; exact hrm.w i (by omega)
    have hstep : zeZ x (zcP x) i (evA x i :: x.ev.drop (i + 1)) h = if d ||| c ||| r = 0 then zeZ x (zcP x) (i + 1) (x.ev.drop (i + 1)) h
        else if (evA x i).k = 1 ∧ zcE (d ||| r) (zcP x) = 0 ∧ zcE (d ||| c ||| r) (x.po.to i) = 0 then
          (if r = 0 then zeZ x (zcP x) (i + 1) (x.ev.drop (i + 1)) h
           else if r = 2 ^ ctz r ∧ h.testBit (ctz r) = false ∧ (evA x (ctz r)).l = (evA x i).l then zeZ x (zcP x) (i + 1) (x.ev.drop (i + 1)) (h ||| r) else false)
        else false := by rw [hdd, hcc, hrr]; rfl
    rw [hstep]
    have sp : ∀ (P : Nat → Prop), (∀ k, i ≤ k → k < x.ev.length → P k) ↔ P i ∧ ∀ k, i + 1 ≤ k → k < x.ev.length → P k := fun P =>
      ⟨fun h => ⟨h i (Nat.le_refl _) hil, fun k h1 h2 => h k (by omega) h2⟩, fun h k h1 h2 => by
        by_cases hk : k = i
        · rw [hk]; exact h.1
        · exact h.2 k (by omega) h2⟩
    have one : DepOne x i ↔ (d ||| c ||| r = 0 ∨ ((evA x i).k = 1 ∧ zcE (d ||| r) (zcP x) = 0 ∧ zcE (d ||| c ||| r) (x.po.to i) = 0)) ∧ (∀ a b, r.testBit a = true → r.testBit b = true → a = b) ∧ (∀ j, r.testBit j = true → (evA x j).l = (evA x i).l) := by
      have inl : ∀ j, hasM x.dt i j = true ∨ hasM x.rm i j = true → j < x.ev.length := fun j hj => by
        rcases hj with hj | hj
        · exact (hdt.bit (by omega) hj).2
        · exact (hrm.bit (by omega) hj).2
      constructor
      · rintro ⟨w, p, u, l⟩
        refine ⟨?_, fun a b ha hb => u a b (by rw [← br]; exact ha) (by rw [← br]; exact hb), fun j hj => l j (by rw [← br]; exact hj)⟩
        by_cases h0 : d ||| c ||| r = 0
        · exact .inl h0
        · obtain ⟨j, hj⟩ := znw h0
          have hor : ∀ j, (d ||| c ||| r).testBit j = true → hasM x.dt i j = true ∨ hasM x.ct i j = true ∨ hasM x.rm i j = true := fun j hj => by
            rw [Nat.testBit_or, Nat.testBit_or, bd, bc, br, Bool.or_eq_true, Bool.or_eq_true] at hj
            rcases hj with (hj | hj) | hj
            · exact .inl hj
            · exact .inr (.inl hj)
            · exact .inr (.inr hj)
          refine .inr ⟨of_decide_eq_true (p j (hor j hj)).1, (zeT (Nat.or_lt_two_pow d64 r64) (zrl h48)).2 fun j hj => ?_, (zeT (Nat.or_lt_two_pow (Nat.or_lt_two_pow d64 c64) r64) (hpo.w i (by omega))).2 fun j hj => (p j (hor j hj)).2⟩
          rw [Nat.testBit_or, bd, br, Bool.or_eq_true] at hj
          rw [zlK, w j hj, decide_eq_true (inl j hj)]; rfl
      · rintro ⟨h1, u, l⟩
        have bits : ∀ j, hasM x.dt i j = true ∨ hasM x.ct i j = true ∨ hasM x.rm i j = true → (d ||| c ||| r).testBit j = true := fun j hj => by
          rw [Nat.testBit_or, Nat.testBit_or, bd, bc, br]
          rcases hj with hj | hj | hj <;> rw [hj] <;> simp
        have nz : ∀ j, hasM x.dt i j = true ∨ hasM x.ct i j = true ∨ hasM x.rm i j = true → (evA x i).k = 1 ∧ zcE (d ||| r) (zcP x) = 0 ∧ zcE (d ||| c ||| r) (x.po.to i) = 0 := fun j hj => by
          rcases h1 with h1 | h1
          · have := bits j hj
            rw [h1, Nat.zero_testBit] at this
            cases this
          · exact h1
        refine ⟨fun j hj => ?_, fun j hj => ?_, fun a b ha hb => u a b (by rw [br]; exact ha) (by rw [br]; exact hb), fun j hj => l j (by rw [br]; exact hj)⟩
        · have h2 := (nz j (by rcases hj with hj | hj; exact .inl hj; exact .inr (.inr hj))).2.1
          have h3 := (zeT (Nat.or_lt_two_pow d64 r64) (zrl h48)).1 h2 j (by
            rw [Nat.testBit_or, bd, br]
            rcases hj with hj | hj <;> rw [hj] <;> simp)
          rw [zlK, Bool.and_eq_true] at h3
          exact h3.2
        · have h2 := nz j hj
          exact ⟨decide_eq_true h2.1, (zeT (Nat.or_lt_two_pow (Nat.or_lt_two_pow d64 c64) r64) (hpo.w i (by omega))).1 h2.2.2 j (bits j hj)⟩
    have hr0 : d ||| c ||| r = 0 → r = 0 := fun h0 => Nat.eq_of_testBit_eq fun j => by
      have := congrArg (fun s => s.testBit j) h0
      simp only [Nat.testBit_or, Nat.zero_testBit, Bool.or_eq_false_iff] at this
      rw [Nat.zero_testBit]; exact this.2
    have rest : ∀ h2, (∀ k j, i + 1 ≤ k → k < x.ev.length → hasM x.rm k j = true → (h2.testBit j = false ↔ h.testBit j = false ∧ r.testBit j = false)) → (∀ j, r.testBit j = true → h.testBit j = false) → DepOne x i →
        ((zeZ x (zcP x) (i + 1) (x.ev.drop (i + 1)) h2 = true) ↔ (∀ k, i ≤ k → k < x.ev.length → DepOne x k) ∧ (∀ k j, i ≤ k → k < x.ev.length → hasM x.rm k j = true → h.testBit j = false) ∧ ∀ k k' j, i ≤ k → k < k' → k' < x.ev.length → hasM x.rm k j = true → hasM x.rm k' j = true → False) := fun h2 hh hf hi1 => by
      rw [zky h48 hpo hdt hct hrm m (i + 1) h2 (by omega), sp (DepOne x)]
      constructor
      · rintro ⟨a1, a2, a3⟩
        refine ⟨⟨hi1, a1⟩, fun k j k1 k2 k3 => ?_, fun k k' j k1 k2 k3 k4 k5 => ?_⟩
        · by_cases hk : k = i
          · subst hk
            exact hf j (by rw [br]; exact k3)
          · exact ((hh k j (by omega) k2 k3).1 (a2 k j (by omega) k2 k3)).1
        · by_cases hk : k = i
          · subst hk
            have := ((hh k' j (by omega) k3 k5).1 (a2 k' j (by omega) k3 k5)).2
            rw [br, k4] at this
            cases this
          · exact a3 k k' j (by omega) k2 k3 k4 k5
      · rintro ⟨a1, a2, a3⟩
        refine ⟨a1.2, fun k j k1 k2 k3 => (hh k j k1 k2 k3).2 ⟨a2 k j (by omega) k2 k3, ?_⟩, fun k k' j k1 k2 k3 k4 k5 => a3 k k' j (by omega) k2 k3 k4 k5⟩
        cases hb : r.testBit j with
        | false => rfl
        | true => exact (a3 i k j (Nat.le_refl _) (by omega) k2 (by rw [← br]; exact hb) k3).elim
    by_cases h0 : d ||| c ||| r = 0
    · rw [if_pos h0]
      have r0 := hr0 h0
      refine rest h (fun k j _ _ _ => ?_) (fun j hj => ?_) (one.2 ⟨.inl h0, fun a b ha => ?_, fun j hj => ?_⟩)
      · rw [r0, Nat.zero_testBit]; simp
      · rw [r0, Nat.zero_testBit] at hj; cases hj
      · rw [r0, Nat.zero_testBit] at ha; cases ha
      · rw [r0, Nat.zero_testBit] at hj; cases hj
    rw [if_neg h0]
    by_cases hc2 : (evA x i).k = 1 ∧ zcE (d ||| r) (zcP x) = 0 ∧ zcE (d ||| c ||| r) (x.po.to i) = 0
    · rw [if_pos hc2]
      by_cases r0 : r = 0
      · rw [if_pos r0]
        refine rest h (fun k j _ _ _ => ?_) (fun j hj => ?_) (one.2 ⟨.inr hc2, fun a b ha => ?_, fun j hj => ?_⟩)
        · rw [r0, Nat.zero_testBit]; simp
        · rw [r0, Nat.zero_testBit] at hj; cases hj
        · rw [r0, Nat.zero_testBit] at ha; cases ha
        · rw [r0, Nat.zero_testBit] at hj; cases hj
      · rw [if_neg r0]
        by_cases hc3 : r = 2 ^ ctz r ∧ h.testBit (ctz r) = false ∧ (evA x (ctz r)).l = (evA x i).l
        · rw [if_pos hc3]
          have bz : ∀ j, r.testBit j = true → j = ctz r := fun j hj => by
            rw [hc3.1, zb6] at hj
            exact of_decide_eq_true hj
          refine rest (h ||| r) (fun k j _ _ _ => ?_) (fun j hj => ?_) (one.2 ⟨.inr hc2, fun a b ha hb => (bz a ha).trans (bz b hb).symm, fun j hj => ?_⟩)
          · rw [Nat.testBit_or, Bool.or_eq_false_iff]
          · rw [bz j hj]; exact hc3.2.1
          · rw [bz j hj]; exact hc3.2.2
        · rw [if_neg hc3]
          refine ⟨fun h => (by cases h), fun hall => ?_⟩
          have ho := one.1 (hall.1 i (Nat.le_refl _) hil)
          obtain ⟨j, hj⟩ := znw r0
          have hz := (zcW.1 (zhR r0 r64)).2
          refine (hc3 ⟨Nat.eq_of_testBit_eq fun a => ?_, hall.2.1 i _ (Nat.le_refl _) hil (by rw [← br]; exact hz), ho.2.2 _ hz⟩).elim
          rw [zb6]
          by_cases ha : a = ctz r
          · rw [ha, hz, decide_eq_true rfl]
          · rw [decide_eq_false ha]
            cases hb : r.testBit a with
            | false => rfl
            | true => exact (ha (ho.2.1 a _ hb hz)).elim
    · rw [if_neg hc2]
      refine ⟨fun h => (by cases h), fun hall => ?_⟩
      rcases (one.1 (hall.1 i (Nat.le_refl _) hil)).1 with h1 | h1
      · exact (h0 h1).elim
      · exact (hc2 h1).elim
end
def twl (s:List Nat) (i:Nat):List Nat:=s.takeWhile fun y => !decide (y=i)
theorem zcG (a:Nat) (s:List Nat) (i:Nat):twl (a::s) i=if a=i then [] else a::twl s i:=by
 unfold twl;rw [List.takeWhile_cons];by_cases h:a=i
 ·rw [if_pos h,if_neg (by simp [h])]
 ·rw [if_neg h,if_pos (by simp [h])]
theorem zck:∀ {s:List Nat} {i j:Nat},j∈twl s i->j∈s/\j≠i
 | [],i,j,h=>by cases h
 | a::s,i,j,h=>by
  rw [zcG] at h;by_cases ha:a=i
  ·rw [if_pos ha] at h;cases h
  ·rw [if_neg ha] at h;rcases List.mem_cons.1 h with rfl | h
   ·exact⟨List.mem_cons_self,ha⟩
   ·exact⟨List.mem_cons_of_mem _ (zck h).1,(zck h).2⟩
theorem zdh:∀ {s:List Nat} {i j:Nat},i∈s->j∈s->i≠j->(j∈twl s i↔¬ i∈twl s j)
 | [],i,j,h,_,_=>by cases h
 | a::s,i,j,hi,hj,hij=>by
  rw [zcG,zcG];by_cases h1:a=i
  ·rw [if_pos h1,if_neg (fun h=>hij (h1.symm.trans h))];exact⟨fun h=>(by cases h),fun h=>(h (by rw [h1];exact List.mem_cons_self)).elim⟩
  ·by_cases h2:a=j
   ·rw [if_neg h1,if_pos h2];exact⟨fun _ h=>(by cases h),fun _=>by rw [h2];exact List.mem_cons_self⟩
   ·rw [if_neg h1,if_neg h2,List.mem_cons,List.mem_cons];have hi2:i∈s:=(by rcases List.mem_cons.1 hi with h | h;exact (h1 h.symm).elim;exact h);have hj2:j∈s:=(by rcases List.mem_cons.1 hj with h | h;exact (h2 h.symm).elim;exact h);have:=zdh hi2 hj2 hij;constructor
    ·rintro (h | h) (h' | h')
     ·exact h2 h.symm
     ·exact h2 h.symm
     ·exact h1 h'.symm
     ·exact this.1 h h'
    ·intro h;exact .inr (this.2 fun h'=>h (.inr h'))
theorem zh4:∀ {s:List Nat} {i j k:Nat},j∈twl s i->k∈twl s j->k∈twl s i
 | [],i,j,k,h,_=>by cases h
 | a::s,i,j,k,h1,h2=>by
  rw [zcG] at h1 h2 ⊢;by_cases ha:a=i
  ·rw [if_pos ha] at h1;cases h1
  ·rw [if_neg ha] at h1 ⊢;by_cases hb:a=j
   ·rw [if_pos hb] at h2;cases h2
   ·rw [if_neg hb] at h2;rcases List.mem_cons.1 h2 with rfl | h2
    ·exact List.mem_cons_self
    ·rcases List.mem_cons.1 h1 with h1 | h1
     ·exact (hb h1.symm).elim
     ·exact List.mem_cons_of_mem _ (zh4 h1 h2)
theorem zjY {z:Nat}:∀ {A:List Nat},z ∉ A->twl (A++[z]) z=A
 | [],_=>by rw [List.nil_append,zcG,if_pos rfl]
 | a::A,h=>by
  rw [List.cons_append,zcG,if_neg (fun e=>h (by rw [e];exact List.mem_cons_self)),zjY fun h2=>h (List.mem_cons_of_mem _ h2)]
theorem zjb {R:Nat->Nat->Prop}:∀ {s:List Nat} {i j:Nat},s.Pairwise R->i∈s->j∈twl s i->R j i
 | [],i,j,_,h,_=>by cases h
 | a::s,i,j,hp,hi,hj=>by
  rw [zcG] at hj;by_cases ha:a=i
  ·rw [if_pos ha] at hj;cases hj
  ·rw [if_neg ha] at hj;have hi2:i∈s:=by rcases List.mem_cons.1 hi with h | h;exact (ha h.symm).elim;exact h
   rcases List.mem_cons.1 hj with rfl | hj
   ·exact (List.pairwise_cons.1 hp).1 i hi2
   ·exact zjb (List.pairwise_cons.1 hp).2 hi2 hj
theorem zg2:∀ (l:List Nat) (f:Nat->Nat) (b:Nat),l.Nodup->∀ i j,(zjx l f b i).testBit j=if i∈l then (b.testBit j||decide (j∈twl l i)) else (f i).testBit j
 | [],f,b,_,i,j=>by rw [if_neg List.not_mem_nil];rfl
 | a::l,f,b,hn,i,j=>by
  have hn2:=List.nodup_cons.1 hn;show (zjx l (upd f a b) (b|||2^a) i).testBit j=_;rw [zg2 l _ _ hn2.2,zcG];by_cases hia:i=a
  ·subst hia;rw [if_neg hn2.1,if_pos List.mem_cons_self,zaZ,if_pos rfl];simp
  ·rw [if_neg (show ¬ a=i from fun e=>hia e.symm)];by_cases hi:i∈l
   ·rw [if_pos hi,if_pos (List.mem_cons_of_mem _ hi),Nat.testBit_or,zb6,Bool.or_assoc];congr 1;rw [Bool.eq_iff_iff,Bool.or_eq_true,dE,dE,dE,List.mem_cons]
   ·rw [if_neg hi,if_neg (fun h=>by rcases List.mem_cons.1 h with h | h;exact hia h;exact hi h),zcf _ _ hia]
theorem zg4 {key:Nat->Nat} {y:Nat}:∀ {r:List Nat},r.Pairwise (fun a b=>key a<=key b)->(zbC key r y).Pairwise (fun a b=>key a<=key b)
 | [],_=>List.pairwise_singleton _ _
 | z::r,h=>by
  have h2:=List.pairwise_cons.1 h;unfold zbC
  split
  ·rename_i hlt;refine List.pairwise_cons.2 ⟨fun a ha=>?_,zg4 h2.2⟩;rcases (zfk r).1 ha with rfl | ha
   ·omega
   ·exact h2.1 a ha
  ·rename_i hlt;refine List.pairwise_cons.2 ⟨fun a ha=>?_,h⟩;rcases List.mem_cons.1 ha with rfl | ha
   ·omega
   ·have:=h2.1 a ha;omega
theorem zl1 {key:Nat->Nat}:∀ (l acc:List Nat),acc.Pairwise (fun a b=>key a<=key b)->(l.foldl (fun acc x=>zbC key acc x) acc).Pairwise (fun a b=>key a<=key b)
 | [],_,h=>h
 | y::l,acc,h=>zl1 l _ (zg4 h)
theorem zia (key:Nat->Nat) (l:List Nat):(zdO key l).Pairwise (fun a b=>key a<=key b):=zl1 l [] .nil
theorem zaJ {key:Nat->Nat} {l:List Nat} {a:Nat}:a∈zdO key l↔a∈l:=by
 have:a∈(zdO key l).reverse↔a∈l:=zib
 rwa [List.mem_reverse] at this
theorem zf6 {key:Nat->Nat}:∀ {s:List Nat},s.Pairwise (fun a b=>key a<=key b)->s.Nodup->(∀ a b,a∈s->b∈s->a≠b->key a≠key b)->s.Pairwise (fun a b=>key a<key b)
 | [],_,_,_ => .nil
 | a::s,h,hn,hi=>by
  have h2:=List.pairwise_cons.1 h;have hn2:=List.nodup_cons.1 hn;refine List.pairwise_cons.2 ⟨fun b hb=>?_,zf6 h2.2 hn2.2 fun c d hc hd=>hi c d (List.mem_cons_of_mem _ hc) (List.mem_cons_of_mem _ hd)⟩;have h3:=h2.1 b hb;have h4:=hi a b List.mem_cons_self (List.mem_cons_of_mem _ hb) (fun e=>hn2.1 (by rw [e];exact hb));omega
theorem zlU {key:Nat->Nat} {s:List Nat} {i j:Nat} (hp:s.Pairwise (fun a b=>key a<key b)) (hi:i∈s) (hj:j∈s):j∈twl s i↔key j<key i:=by
 constructor
 ·exact zjb hp hi
 ·intro h;refine (zdh hi hj (fun e=>by rw [e] at h;omega)).2 fun h2=>?_;have:=zjb hp hj h2;omega
theorem zgB {f g:Nat->Bool}:∀ {n:Nat},(∀ i,i<n->f i=g i)->cntQ f n=cntQ g n
 | 0,_=>rfl
 | n+1,h=>by rw [za1,za1,h n (Nat.lt_succ_self _),zgB fun i hi=>h i (by omega)]
theorem zhU {f g:Nat->Bool}:∀ {n:Nat},(∀ i,i<n->f i=true->g i=true->False)->cntQ f n+cntQ g n=cntQ (fun i=>f i||g i) n
 | 0,_=>rfl
 | n+1,h=>by
  have ih:=zhU (f:=f) (g:=g) (n:=n) fun i hi=>h i (by omega);have:=h n (Nat.lt_succ_self _);rw [za1,za1,za1,<- ih]
  cases hf:f n <;> cases hg:g n <;> simp [hf,hg] at this ⊢ <;> omega
theorem znl {a:Nat}:∀ {n:Nat},a<n->cntQ (fun b=>decide (b=a)) n=1
 | 0,h=>absurd h (Nat.not_lt_zero _)
 | n+1,h=>by
  rw [za1];by_cases e:n=a
  ·subst e;rw [if_pos (decide_eq_true rfl),ze0 fun k hk=>decide_eq_false (by omega)]
  ·rw [if_neg (by simp [e]),znl (by omega)]
theorem zkC {f g:Nat->Bool}:∀ {n:Nat},(∀ i,i<n->f i=true->g i=true)->cntQ f n<=cntQ g n
 | 0,_=>Nat.le_refl _
 | n+1,h=>by
  have ih:=zkC (f:=f) (g:=g) (n:=n) fun i hi=>h i (by omega);have:=h n (Nat.lt_succ_self _);rw [za1,za1]
  cases hf:f n <;> cases hg:g n <;> simp [hf,hg] at this ⊢ <;> omega
theorem zlu {f g:Nat->Bool} {n j:Nat} (h:∀ i,i<n->f i=true->g i=true) (hj:j<n) (h1:f j=false) (h2:g j=true):cntQ f n<cntQ g n:=by
 have e:=zhU (f:=f) (g:=fun b=>decide (b=j)) (n:=n) fun i hi hf hd=>by
  have:i=j:=dT hd;rw [this,h1] at hf;cases hf
 rw [znl hj] at e;have:=zkC (f:=fun i=>f i||decide (i=j)) (g:=g) (n:=n) fun i hi hor=>by
  rw [Bool.or_eq_true,dE] at hor;rcases hor with h3 | h3
  ·exact h i hi h3
  ·rw [h3];exact h2
 omega
theorem zkm (s:Nat):lenS s=cntQ (fun j=>s.testBit j) 64:=rfl
inductive TC (R:Nat->Nat->Prop):Nat->Nat->Prop
 | one {a b:Nat} (h:R a b):TC R a b
 | step {a b c:Nat} (h:TC R a b) (k:R b c):TC R a c
theorem TC.first {R:Nat->Nat->Prop} {a b c:Nat} (h:R a b) (k:TC R b c):TC R a c:=by
 induction k with
 | one k=>exact .step (.one h) k
 | step _ k2 ih=>exact .step ih k2
theorem TC.trans {R:Nat->Nat->Prop} {a b c:Nat} (h:TC R a b) (k:TC R b c):TC R a c:=by
 induction k with
 | one k=>exact .step h k
 | step _ k2 ih=>exact .step ih k2
def zcc (x:ExD) (a loc:Nat):Bool:=isW x a&&decide ((evA x a).l.toNat=loc)
def zlh (x:ExD) (loc:Nat):Nat:=cntQ (fun a=>zcc x a loc) x.ev.length
def zhp (x:ExD) (loc a:Nat):Bool :=
 (decide (zb1 x.co a+zcd x.co a+1=zlh x loc)&&(!hasQ x.co a a&&((!decide (a=loc)||decide (zb1 x.co a=0))&&(!decide (zcd x.co a=0)||decide (x.mem loc=(evA x a).v))))) &&
  (List.range x.ev.length).all fun b=>(!(!decide (b=a)&&zcc x b loc) || !(hasQ x.co a b == hasQ x.co b a))&&(List.range x.ev.length).all fun c => !(hasQ x.co a b&&hasQ x.co b c)||hasQ x.co a c
def zf5 (x:ExD) (locs:Nat):Bool:=(List.range 6).all fun loc=>if locs<=loc then decide (x.mem loc=0) else (List.range x.ev.length).all fun a => !zcc x a loc||zhp x loc a
section
variable {x:ExD}
abbrev sG (x:ExD) (l:Nat):List Nat:=zdO (keyC x) (za9 x l)
theorem zhn (l:Nat):(sG x l).Nodup:=by
 have:=zla (x:=x) l;exact (List.reverse_perm _).nodup_iff.1 this
theorem zeK (l:Nat):zaM x l=(sG x l).reverse:=rfl
theorem zb0 {l a:Nat}:a∈za9 x l↔a<x.ev.length/\isW x a=true/\(evA x a).l.toNat=l:=by
 unfold za9 isW;rw [List.mem_filter,List.mem_range,bAT,dE,dE]
def resC (x:ExD):Nat->Nat->RelD×(Nat->UInt8)->RelD×(Nat->UInt8)
 | 0,_,p=>p
 | m+1,l,p=>resC x m (l+1) (zdd (zaM x l) p.1,upd p.2 l (zfB x.ev (zaM x l)))
theorem zhT:∀ (m l:Nat) (p q:RelD×(Nat->UInt8)),coGo x m l p=some q↔(∀ k,l<=k->k<l+m->(zaM x k).headD 48=k)/\q=resC x m l p
 | 0,l,p,q=>⟨fun h=>⟨fun k h1 h2=>by omega,(Option.some.inj h).symm⟩,fun h=>by rw [h.2];rfl⟩
 | m+1,l,p,q=>by
  unfold coGo;by_cases hd:(zaM x l).headD 48=l
  ·rw [if_pos hd,zhT m (l+1)];refine⟨fun h=>⟨fun k h1 h2=>?_,h.2⟩,fun h=>⟨fun k h1 h2=>h.1 k (by omega) (by omega),h.2⟩⟩;by_cases hk:k=l
   ·rw [hk];exact hd
   ·exact h.1 k (by omega) (by omega)
  ·rw [if_neg hd];exact⟨fun h=>(by cases h),fun h=>(hd (h.1 l (Nat.le_refl _) (by omega))).elim⟩
theorem zom {l:Nat} {r:RelD} {i j:Nat}:hasM (zdd (zaM x l) r) i j=if i∈za9 x l then decide (j∈twl (sG x l) i) else hasM r i j:=by
 unfold hasM zdd;rw [zeK,List.reverse_reverse];show (zjx (sG x l) r.to 0 i).testBit j=_;rw [zg2 _ _ _ (zhn l),Nat.zero_testBit,Bool.false_or];by_cases h:i∈za9 x l
 ·rw [if_pos h,if_pos (zaJ.2 h)]
 ·rw [if_neg h,if_neg (fun h2=>h (zaJ.1 h2))]
theorem zj7:∀ (m l:Nat) (p:RelD×(Nat->UInt8)),(resC x m l p).1.n=p.1.n/\(∀ i j,hasM (resC x m l p).1 i j=true↔(∃ k,l<=k/\k<l+m/\i∈za9 x k/\j∈twl (sG x k) i)\/((∀ k,l<=k->k<l+m->i ∉ za9 x k)/\hasM p.1 i j=true)) /\
  ∀ k,(resC x m l p).2 k=if l<=k/\k<l+m then zfB x.ev (zaM x k) else p.2 k
 | 0,l,p=>⟨rfl,fun i j=>⟨fun h => .inr ⟨fun k h1 h2=>by omega,h⟩,fun h=>by
   rcases h with ⟨k,h1,h2,_⟩ | h
   ·omega
   ·exact h.2⟩,fun k=>(if_neg (by omega)).symm⟩
 | m+1,l,p=>by
  obtain⟨h1,h2,h3⟩:=zj7 m (l+1) (zdd (zaM x l) p.1,upd p.2 l (zfB x.ev (zaM x l)));refine⟨h1,fun i j=>?_,fun k=>?_⟩
  ·show hasM (resC x m (l+1) _).1 i j=true↔_;rw [h2,zom];have uniq:∀ {k k'},i∈za9 x k->i∈za9 x k'->k=k':=fun a b=>(zb0.1 a).2.2.symm.trans (zb0.1 b).2.2;constructor
   ·rintro (⟨k,a1,a2,a3,a4⟩ | ⟨a1,a2⟩)
    ·exact .inl ⟨k,by omega,by omega,a3,a4⟩
    ·by_cases hi:i∈za9 x l
     ·rw [if_pos hi] at a2;exact .inl ⟨l,Nat.le_refl _,by omega,hi,dT a2⟩
     ·rw [if_neg hi] at a2;refine .inr ⟨fun k b1 b2=>?_,a2⟩;by_cases hk:k=l
      ·rw [hk];exact hi
      ·exact a1 k (by omega) (by omega)
   ·rintro (⟨k,a1,a2,a3,a4⟩ | ⟨a1,a2⟩)
    ·by_cases hk:k=l
     ·subst hk;refine .inr ⟨fun k' b1 b2 b3=>?_,by rw [if_pos a3];exact decide_eq_true a4⟩;have:=uniq a3 b3;omega
     ·exact .inl ⟨k,by omega,by omega,a3,a4⟩
    ·exact .inr ⟨fun k b1 b2=>a1 k (by omega) (by omega),by rw [if_neg (a1 l (Nat.le_refl _) (by omega))];exact a2⟩
  ·show (resC x m (l+1) _).2 k=_;rw [h3];by_cases hk:l+1<=k/\k<l+1+m
   ·rw [if_pos hk,if_pos (by omega)]
   ·rw [if_neg hk];by_cases hkl:k=l
    ·subst hkl;rw [if_pos (by omega)];show upd p.2 k _ k=_;exact zaZ _ _ _
    ·rw [if_neg (by omega)];exact zcf _ _ hkl
theorem zjN (hco:RelOk x.ev.length x.co) {locs:Nat}:zcF x locs=true↔(∀ k,k<locs->(zaM x k).headD 48=k)/\(∀ i j,i<48->(hasM x.co i j=true↔∃ k,k<locs/\i∈za9 x k/\j∈twl (sG x k) i))/\∀ k,k<6->x.mem k=if k<locs then zfB x.ev (zaM x k) else 0:=by
 obtain⟨p0,hp0⟩:∃ p0:RelD×(Nat->UInt8),p0=(⟨x.ev.length,fun _=>0⟩,fun _=>0):=⟨_,rfl⟩;obtain⟨r1,r2,r3⟩:=zj7 (x:=x) locs 0 p0;have z:∀ i j,hasM p0.1 i j=false:=fun i j=>by rw [hp0];exact Nat.zero_testBit _
 have r2':∀ i j,hasM (resC x locs 0 p0).1 i j=true↔∃ k,k<locs/\i∈za9 x k/\j∈twl (sG x k) i:=fun i j=>by
  rw [r2];constructor
  ·rintro (⟨k,_,h2,h3⟩ | ⟨_,h⟩)
   ·exact⟨k,by omega,h3⟩
   ·rw [z] at h;cases h
  ·rintro⟨k,h2,h3⟩;exact .inl ⟨k,Nat.zero_le _,by omega,h3⟩
 have r3':∀ k,(resC x locs 0 p0).2 k=if k<locs then zfB x.ev (zaM x k) else 0:=fun k=>by
  rw [r3];by_cases hk:k<locs
  ·rw [if_pos (by omega),if_pos hk]
  ·rw [if_neg (by omega),if_neg hk,hp0]
 have e:zcF x locs=match coGo x locs 0 p0 with
  | none=>false
  | some p=>zbe p.1 x.co&&(List.range 6).all fun l=>decide (p.2 l=x.mem l):=by rw [hp0];rfl
 rw [e];by_cases hd:∀ k,k<locs->(zaM x k).headD 48=k
 ·rw [(zhT locs 0 p0 (resC x locs 0 p0)).2 ⟨fun k _ h=>hd k (by omega),rfl⟩];dsimp only;rw [bAT,List.all_eq_true];constructor
  ·rintro⟨h1,h2⟩;refine⟨hd,fun i j hi=>?_,fun k hk=>?_⟩
   ·rw [<- zdU h1 hi];exact r2' i j
   ·rw [<- r3'];exact (dT (h2 k (List.mem_range.2 hk))).symm
  ·rintro⟨_,h2,h3⟩;refine⟨?_,fun k hk=>decide_eq_true (by rw [r3'];exact (h3 k (List.mem_range.1 hk)).symm)⟩;unfold zbe;rw [bAT,dE,List.all_eq_true];refine⟨by rw [r1,hp0];exact hco.n.symm,fun i hi=>decide_eq_true (Nat.eq_of_testBit_eq fun j=>?_)⟩;have:=(r2' i j).trans (h2 i j (List.mem_range.1 hi)).symm;exact Bool.eq_iff_iff.2 this
 ·cases hg:coGo x locs 0 p0 with
  | none=>exact⟨fun h=>(by cases h),fun h=>(hd h.1).elim⟩
  | some q=>exact (hd fun k hk=>((zhT locs 0 p0 q).1 hg).1 k (Nat.zero_le _) (by omega)).elim
theorem zeR {a loc:Nat} (ha:a<x.ev.length):zcc x a loc=true↔a∈za9 x loc:=by
 unfold zcc;rw [zb0,bAT,dE];exact⟨fun h=>⟨ha,h⟩,fun h=>h.2⟩
theorem zmJ {s:List Nat} {d:Nat} (h:s≠[]):∃ A z,s=A++[z]/\s.reverse.headD d=z:=by
 cases hr:s.reverse with
 | nil=>exact (h (List.reverse_eq_nil_iff.1 hr)).elim
 | cons z r=>exact⟨r.reverse,z,by rw [<- List.reverse_reverse s,hr,List.reverse_cons],rfl⟩
theorem zms (hco:RelOk x.ev.length x.co) {locs:Nat} (hl6:locs<=6) (hwl:∀ i,i<x.ev.length->isW x i=true->(evA x i).l.toNat<locs) (hin:∀ k,k<locs->k∈za9 x k) :
  zcF x locs=true↔(∀ a b,a<x.ev.length->b<x.ev.length->hasM x.co a b=true->isW x a=true/\isW x b=true/\(evA x a).l=(evA x b).l)/\zf5 x locs=true:=by
 have h48:=hco.le;have hq:∀ {a b},a<x.ev.length->hasQ x.co a b=hasM x.co a b:=fun {a b} ha=>zgq hco (by omega);have hb:∀ {a b},a<x.ev.length->hasM x.co a b=true->b<x.ev.length:=fun {a b} ha h=>(hco.bit (by omega) h).2;have into0:∀ {a},zb1 x.co a=0↔∀ b,b<x.ev.length->hasM x.co b a=false:=fun {a}=>by
  unfold zb1;rw [hco.nat];constructor
  ·intro h b hb2
   cases hc:hasM x.co b a with
   | false=>rfl
   | true =>
    have:=zfp (f:=fun b=>hasQ x.co b a).2 ⟨b,hb2,by rw [hq hb2];exact hc⟩;omega
  ·intro h;exact ze0 fun b hb2=>by rw [hq hb2];exact h b hb2
 have from0:∀ {a},a<x.ev.length->(zcd x.co a=0↔∀ b,hasM x.co a b=false):=fun {a} ha=>by
  unfold zcd;rw [hco.nat];constructor
  ·intro h b
   cases hc:hasM x.co a b with
   | false=>rfl
   | true =>
    have:=zfp (f:=fun b=>hasQ x.co a b).2 ⟨b,hb ha hc,by rw [hq ha];exact hc⟩;omega
  ·intro h;exact ze0 fun b hb2=>by rw [hq ha];exact h b
 rw [zjN hco];constructor
 ·rintro⟨h1,h2,h3⟩;have uniq:∀ {a k k'},a∈za9 x k->a∈za9 x k'->k=k':=fun a b=>(zb0.1 a).2.2.symm.trans (zb0.1 b).2.2;refine⟨fun a b ha hb2 hab=>?_,?_⟩
  ·obtain⟨k,hk,ha2,hb3⟩:=(h2 a b (by omega)).1 hab;have m1:=zb0.1 ha2;have m2:=zb0.1 (zaJ.1 (zck hb3).1);exact⟨m1.2.1,m2.2.1,UInt8.toNat_inj.1 (m1.2.2.trans m2.2.2.symm)⟩
  ·unfold zf5;rw [List.all_eq_true];intro loc hloc;have hloc:=List.mem_range.1 hloc;by_cases hll:locs<=loc
   ·rw [if_pos hll,h3 loc hloc,if_neg (by omega)];rfl
   rw [if_neg hll,List.all_eq_true];intro a ha;have ha:=List.mem_range.1 ha;rw [Bool.or_eq_true,Bool.not_eq_true']
   cases hm:zcc x a loc with
   | false=>exact .inl rfl
   | true =>
    right;have hM:=(zeR ha).1 hm;have hs:=zaJ (key:=keyC x).2 hM;have out:∀ b,hasM x.co a b=true↔b∈twl (sG x loc) a:=fun b=>by
     rw [h2 a b (by omega)];exact⟨fun ⟨k,_,hk2,hk3⟩=>by rw [uniq hM hk2];exact hk3,fun h=>⟨loc,by omega,hM,h⟩⟩
    have inn:∀ b,b<x.ev.length->(hasM x.co b a=true↔b∈za9 x loc/\a∈twl (sG x loc) b):=fun b hb2=>by
     rw [h2 b a (by omega)];constructor
     ·rintro⟨k,_,hk2,hk3⟩;have:=uniq (zaJ.1 (zck hk3).1) hM;rw [<- this];exact⟨hk2,hk3⟩
     ·rintro⟨hk2,hk3⟩;exact⟨loc,by omega,hk2,hk3⟩
    unfold zhp;simp only [bAT];refine⟨⟨?_,?_,?_,?_⟩,?_⟩
    ·refine decide_eq_true ?_;have dis:∀ b,b<x.ev.length->hasQ x.co b a=true->hasQ x.co a b=true->False:=fun b hb2 c1 c2=>by
      rw [hq hb2] at c1;rw [hq ha] at c2;have d1:=(inn b hb2).1 c1;have d2:=(out b).1 c2;exact ((zdh hs (zaJ.2 d1.1) (fun e=>(zck d2).2 e.symm)).1 d2) d1.2
     have e1:=zhU (f:=fun b=>hasQ x.co b a) (g:=fun b=>hasQ x.co a b) (n:=x.ev.length) dis;have e2:cntQ (fun i=>hasQ x.co i a||hasQ x.co a i) x.ev.length=cntQ (fun b=>zcc x b loc && !decide (b=a)) x.ev.length:=zgB fun b hb2=>by
      rw [Bool.eq_iff_iff,Bool.or_eq_true,bAT,zeR hb2,hq hb2,hq ha,inn b hb2,out b,Bool.not_eq_true',decide_eq_false_iff_not];constructor
      ·rintro (⟨c1,c2⟩ | c)
       ·exact⟨c1,fun e=>(zck c2).2 e.symm⟩
       ·exact⟨zaJ.1 (zck c).1,(zck c).2⟩
      ·rintro⟨c1,c2⟩;by_cases c:b∈twl (sG x loc) a
       ·exact .inr c
       ·refine .inl ⟨c1,?_⟩;refine Classical.byContradiction fun hn=>c ((zdh hs (zaJ.2 c1) (fun e=>c2 e.symm)).2 hn)
     have e3:=zhU (f:=fun b=>zcc x b loc && !decide (b=a)) (g:=fun b=>decide (b=a)) (n:=x.ev.length) fun b _ c1 c2=>by
      rw [bAT,c2] at c1;exact absurd c1.2 (by decide)
     rw [znl ha] at e3;have e4:cntQ (fun i=>(zcc x i loc && !decide (i=a))||decide (i=a)) x.ev.length=zlh x loc:=zgB fun b hb2=>by
      by_cases e:b=a
      ·rw [e,hm,decide_eq_true rfl];rfl
      ·rw [decide_eq_false e,Bool.or_false];simp
     unfold zb1 zcd;rw [hco.nat,e1,e2,<- e4,<- e3]
    ·rw [Bool.not_eq_true',hq ha]
     cases hc:hasM x.co a a with
     | false=>rfl
     | true=>exact ((zck ((out a).1 hc)).2 rfl).elim
    ·rw [Bool.or_eq_true,Bool.not_eq_true'];by_cases hal:a=loc
     ·right;refine decide_eq_true (into0.2 fun b hb2=>?_)
      cases hc:hasM x.co b a with
      | false=>rfl
      | true =>
       obtain⟨c1,c2⟩:=(inn b hb2).1 hc;have hne:sG x loc≠[]:=List.ne_nil_of_mem hs;obtain⟨A,z,hA,hz⟩:=zmJ (d:=48) hne;have hz2:z=a:=by
        have:=h1 loc (by omega);rw [zeK] at this;rw [<- hz,this,hal]
       rw [hz2] at hA;have hnd:=zhn (x:=x) loc;rw [hA] at hnd;have haA:a ∉ A:=fun h=>by
        have:=(List.nodup_append.1 hnd).2.2 a h a List.mem_cons_self;exact this rfl
       have hba:b≠a:=fun e=>(zck c2).2 e.symm;have hbA:b∈A:=by
        have:=zaJ (key:=keyC x).2 c1;rw [show zdO (keyC x) (za9 x loc)=A++[a] from hA,List.mem_append] at this;rcases this with h | h
        ·exact h
        ·exact (hba (List.mem_singleton.1 h)).elim
       have:b∈twl (sG x loc) a:=(by rw [hA,zjY haA];exact hbA);exact ((zdh hs (zaJ.2 c1) (fun e=>hba e.symm)).1 this c2).elim
     ·exact .inl (decide_eq_false hal)
    ·rw [Bool.or_eq_true,Bool.not_eq_true'];by_cases hf:zcd x.co a=0
     ·right;refine decide_eq_true ?_;have no:=(from0 ha).1 hf;rw [h3 loc hloc,if_pos (by omega)];show (x.ev.getD ((zaM x loc).getLastD 0) ev0).v=_;have hh:(zaM x loc).getLastD 0=a:=by
       rw [zeK]
       cases hsG:sG x loc with
       | nil=>rw [show zdO (keyC x) (za9 x loc)=[] from hsG] at hs;cases hs
       | cons z s =>
        have:z=a:=Classical.byContradiction fun hz=>by
         have:=no z;rw [Bool.eq_false_iff] at this;refine this ((out z).2 ?_);rw [hsG,zcG,if_neg hz];exact List.mem_cons_self
        rw [this];simp
      rw [hh];rfl
     ·exact .inl (decide_eq_false hf)
    ·rw [List.all_eq_true];intro b hb2;have hb2:=List.mem_range.1 hb2;rw [bAT,List.all_eq_true];refine⟨?_,fun c hc=>?_⟩
     ·rw [Bool.or_eq_true,Bool.not_eq_true',Bool.not_eq_true',beq_eq_false_iff_ne];by_cases hbm:(!decide (b=a)&&zcc x b loc)=true
      ·right;rw [bAT,Bool.not_eq_true',decide_eq_false_iff_not,zeR hb2] at hbm;rw [hq ha,hq hb2];intro e;have t:=zdh hs (zaJ.2 hbm.2) (fun e=>hbm.1 e.symm);by_cases c:b∈twl (sG x loc) a
       ·have c1:=(out b).2 c;rw [e] at c1;exact t.1 c ((inn b hb2).1 c1).2
       ·have c2:a∈twl (sG x loc) b:=Classical.byContradiction fun hn=>c (t.2 hn);have c3:=(inn b hb2).2 ⟨hbm.2,c2⟩;rw [<- e] at c3;exact c ((out b).1 c3)
      ·exact .inl (by simpa using hbm)
     ·have hc:=List.mem_range.1 hc;rw [Bool.or_eq_true,Bool.not_eq_true'];by_cases hh:(hasQ x.co a b&&hasQ x.co b c)=true
      ·right;rw [bAT,hq ha,hq hb2] at hh;rw [hq ha,out c];have c1:=(out b).1 hh.1;obtain⟨k,_,k2,k3⟩:=(h2 b c (by omega)).1 hh.2;have:=uniq (zaJ.1 (zck c1).1) k2;rw [<- this] at k3;exact zh4 c1 k3
      ·exact .inl (by simpa using hh)
 ·rintro⟨hpc,hpl⟩;unfold zf5 at hpl;rw [List.all_eq_true] at hpl;have ord:∀ loc,loc<locs->∀ a,a∈za9 x loc->(a=loc->∀ b,b<x.ev.length->hasM x.co b a=false)/\((∀ b,hasM x.co a b=false)->x.mem loc=(evA x a).v)/\hasM x.co a a=false/\(∀ b,b∈za9 x loc->b≠a->hasM x.co a b≠hasM x.co b a)/\∀ b c,hasM x.co a b=true->hasM x.co b c=true->hasM x.co a c=true:=fun loc hloc a hM=>by
   have ha:=(zb0.1 hM).1;have h1:=hpl loc (List.mem_range.2 (by omega));rw [if_neg (by omega),List.all_eq_true] at h1;have h2:=h1 a (List.mem_range.2 ha);rw [(zeR ha).2 hM,Bool.not_true,Bool.false_or] at h2;unfold zhp at h2;simp only [bAT,Bool.or_eq_true,Bool.not_eq_true',dE,decide_eq_false_iff_not,List.all_eq_true,List.mem_range] at h2;obtain⟨⟨_,c2,c3,c4⟩,c5⟩:=h2;refine⟨fun e b hb2=>?_,fun hn=>?_,by rw [<- hq ha];exact c2,fun b hbM hne=>?_,fun b c h3 h4=>?_⟩
   ·rcases c3 with c3 | c3
    ·exact (c3 e).elim
    ·exact into0.1 c3 b hb2
   ·rcases c4 with c4 | c4
    ·exact (c4 ((from0 ha).2 hn)).elim
    ·exact c4
   ·have hb2:=(zb0.1 hbM).1;have:=(c5 b hb2).1;rcases this with h | h
    ·rw [decide_eq_false hne,(zeR hb2).2 hbM] at h;exact absurd h (by decide)
    ·rw [beq_eq_false_iff_ne,hq ha,hq hb2] at h;exact h
   ·have hb2:=hb ha h3;have hc2:=hb hb2 h4;have:=(c5 b hb2).2 c hc2;rw [hq ha,hq hb2,hq ha,h3,h4] at this;rcases this with h | h
    ·exact absurd h (by decide)
    ·exact h
  have sameL:∀ {loc a b},a∈za9 x loc->hasM x.co a b=true->b∈za9 x loc:=fun {loc a b} hM h=>by
   have ha:=zb0.1 hM;have hb2:=hb ha.1 h;obtain⟨_,c2,c3⟩:=hpc a b ha.1 hb2 h;exact zb0.2 ⟨hb2,c2,by rw [<- c3];exact ha.2.2⟩
  have kmono:∀ {loc a b},loc<locs->a∈za9 x loc->hasM x.co a b=true->keyC x b<keyC x a:=fun {loc a b} hloc hM h=>by
   have hbM:=sameL hM h;have ob:=ord loc hloc b hbM;have oa:=ord loc hloc a hM;have hb2:=(zb0.1 hbM).1;show lenS (x.co.to b)<lenS (x.co.to a);rw [zkm,zkm];exact zlu (j:=b) (fun c _ hc=>oa.2.2.2.2 b c h hc) (by omega) ob.2.2.1 h
  have total:∀ {loc a b},loc<locs->a∈za9 x loc->b∈za9 x loc->a≠b->(hasM x.co a b=true/\keyC x b<keyC x a)\/(hasM x.co b a=true/\keyC x a<keyC x b):=fun {loc a b} hloc hM hbM hne=>by
   have:=(ord loc hloc a hM).2.2.2.1 b hbM (fun e=>hne e.symm)
   cases c1:hasM x.co a b with
   | true=>exact .inl ⟨rfl,kmono hloc hM c1⟩
   | false =>
    cases c2:hasM x.co b a with
    | true=>exact .inr ⟨rfl,kmono hloc hbM c2⟩
    | false=>exact (this (c1.trans c2.symm)).elim
  have strict:∀ loc,loc<locs->(sG x loc).Pairwise fun a b=>keyC x a<keyC x b:=fun loc hloc =>
   zf6 (zia _ _) (zhn loc) fun a b ha hb2 hne=>by
    rcases total hloc (zaJ.1 ha) (zaJ.1 hb2) hne with h | h <;> omega
  refine⟨fun loc hloc=>?_,fun i j hi=>?_,fun loc hloc6=>?_⟩
  ·have hL:=hin loc hloc;have hs:=zaJ (key:=keyC x).2 hL;obtain⟨A,z,hA,hz⟩:=zmJ (d:=48) (List.ne_nil_of_mem hs);rw [zeK];refine hz.trans (Classical.byContradiction fun hne=>?_);have hzm:z∈za9 x loc:=zaJ.1 (by rw [show zdO (keyC x) (za9 x loc)=A++[z] from hA];simp);have hlA:loc∈A:=by
    rw [show zdO (keyC x) (za9 x loc)=A++[z] from hA,List.mem_append] at hs;rcases hs with h | h
    ·exact h
    ·exact (hne (List.mem_singleton.1 h).symm).elim
   have k1:keyC x loc<keyC x z:=by
    have:=strict loc hloc;rw [show sG x loc=A++[z] from hA,List.pairwise_append] at this;exact this.2.2 loc hlA z List.mem_cons_self
   have:=(ord loc hloc loc hL).1 rfl z (zb0.1 hzm).1;rcases total hloc hL hzm (fun e=>hne e.symm) with h | h
   ·omega
   ·rw [h.1] at this;cases this
  ·constructor
   ·intro h;have hi2:i<x.ev.length:=(hco.bit hi h).1;obtain⟨w1,w2,w3⟩:=hpc i j hi2 (hb hi2 h) h;have hloc:=hwl i hi2 w1;have hM:i∈za9 x (evA x i).l.toNat:=zb0.2 ⟨hi2,w1,rfl⟩;exact⟨_,hloc,hM,(zlU (strict _ hloc) (zaJ.2 hM) (zaJ.2 (sameL hM h))).2 (kmono hloc hM h)⟩
   ·rintro⟨k,hk,hM,ht⟩;have hjM:=zaJ.1 (zck ht).1;have:=(zlU (strict k hk) (zaJ.2 hM) (zaJ.2 hjM)).1 ht;rcases total hk hM hjM (fun e=>(zck ht).2 e.symm) with h | h
    ·exact h.1
    ·omega
  ·by_cases hloc:loc<locs
   ·rw [if_pos hloc];have hL:=hin loc hloc;have hs:=zaJ (key:=keyC x).2 hL;show _=(x.ev.getD ((zaM x loc).getLastD 0) ev0).v;rw [zeK];have st:=strict loc hloc
    cases hsG:sG x loc with
    | nil=>rw [show zdO (keyC x) (za9 x loc)=[] from hsG] at hs;cases hs
    | cons z s =>
     have hzm:z∈za9 x loc:=zaJ.1 (show z∈sG x loc by rw [hsG];exact List.mem_cons_self);have e:(z::s).reverse.getLastD 0=z:=(by simp);rw [e];refine (ord loc hloc z hzm).2.1 fun b=>?_
     cases hc:hasM x.co z b with
     | false=>rfl
     | true =>
      have hbM:=sameL hzm hc;have k1:=kmono hloc hzm hc;have hbs:b∈z::s:=(by rw [<- hsG];exact zaJ.2 hbM);rcases List.mem_cons.1 hbs with rfl | hbs
      ·omega
      ·rw [hsG] at st;have:=(List.pairwise_cons.1 st).1 b hbs;omega
   ·have h1:=hpl loc (List.mem_range.2 hloc6);rw [if_pos (by omega)] at h1;rw [if_neg hloc];exact dT h1
end
def zei (n:Nat) (f:Nat->Nat->Bool):Bool:=(List.range n).all fun a=>(List.range n).all fun b=>f a b
def zdM (x:ExD):Bool:=match zbS x.ev with
 | none=>false
 | some locs=>za4 x&&(zei x.ev.length (zga x)&&((List.range x.ev.length).all (zeD x)&&zf5 x locs))
theorem znA {n:Nat} {f:Nat->Nat->Bool}:zei n f=true↔∀ a b,a<n->b<n->f a b=true:=by
 unfold zei;simp only [List.all_eq_true,List.mem_range];exact⟨fun h a b ha hb=>h a ha b hb,fun h a ha b hb=>h a b ha hb⟩
section
variable {x:ExD}
theorem zqB:∀ (ev:List Ev) (locs i:Nat) (t:Int) (n:Nat),evGo locs i ev t n=true->0<=t->∀ j,j<ev.length->(i+j<locs->(ev.getD j ev0).th = -1)/\(locs<=i+j->0<=(ev.getD j ev0).th)/\((ev.getD j ev0).k=2->i+j<locs/\(ev.getD j ev0).l.toNat=(UInt8.ofNat (i+j)).toNat\/(ev.getD j ev0).l.toNat<locs)
 | [],_,_,_,_,_,_,j,hj=>by simp at hj
 | e::ev,locs,i,t,n,h,ht,j,hj=>by
  unfold evGo at h;by_cases hi:i<locs
  ·rw [if_pos hi] at h;by_cases he:e=⟨-1,2,UInt8.ofNat i,e.v,0,0,0⟩
   ·rw [if_pos he] at h
    cases j with
    | zero =>
     have e1:e.th = -1:=(by rw [he]);have e2:e.l=UInt8.ofNat i:=(by rw [he]);exact⟨fun _=>e1,fun h2=>by omega,fun _ => .inl ⟨hi,by show e.l.toNat=_;rw [e2];rfl⟩⟩
    | succ j =>
     have:=zqB ev locs (i+1) t n h ht j (by simpa using hj);rw [show i+1+j=i+(j+1) by omega] at this;exact this
   ·rw [if_neg he] at h;cases h
  ·rw [if_neg hi] at h;by_cases hb:e.th<t\/4<=e.th
   ·rw [if_pos hb] at h;cases h
   ·rw [if_neg hb] at h;dsimp only at h;obtain⟨t',ht'⟩:∃ t',t'=if t<e.th then e.th else t:=⟨_,rfl⟩
    have h0:0<=t':=(by rw [ht'];split <;> omega);obtain⟨n',hn'⟩:∃ n',n'=if t<e.th then 0 else n:=⟨_,rfl⟩
    rw [<- ht',<- hn'] at h;have go:∀ {m},evGo locs (i+1) ev t' m=true->(e.k=2->e.l.toNat<locs)->∀ j,j<(e::ev).length->(i+j<locs->((e::ev).getD j ev0).th = -1)/\(locs<=i+j->0<=((e::ev).getD j ev0).th)/\(((e::ev).getD j ev0).k=2->i+j<locs/\((e::ev).getD j ev0).l.toNat=(UInt8.ofNat (i+j)).toNat\/((e::ev).getD j ev0).l.toNat<locs):=fun {m} h2 hl j hj=>by
     cases j with
     | zero=>exact⟨fun h3=>by omega,fun _=>by show 0<=e.th;omega,fun h3 => .inr (hl h3)⟩
     | succ j =>
      have:=zqB ev locs (i+1) t' m h2 h0 j (by simpa using hj);rw [show i+1+j=i+(j+1) by omega] at this;exact this
    by_cases hp:e.p.toNat=n'
    ·rw [if_pos hp] at h;by_cases k12:e.k=1\/e.k=2
     ·rw [if_pos k12] at h;by_cases hl:e.l.toNat<locs
      ·rw [if_pos hl] at h;exact go h (fun _=>hl) j hj
      ·rw [if_neg hl] at h;cases h
     ·rw [if_neg k12] at h;by_cases k3:e.k=3
      ·rw [if_pos k3] at h;by_cases hz:e.l=0/\e.v=0
       ·rw [if_pos hz] at h;exact go h (fun h2=>(k12 (.inr h2)).elim) j hj
       ·rw [if_neg hz] at h;cases h
      ·rw [if_neg k3] at h;cases h
    ·rw [if_neg hp] at h;cases h
theorem zhW {a b:Bool}:(!a||b)=true↔(a=true->b=true):=by cases a <;> cases b <;> simp
theorem zmh (hw:WX x):zaL x=zdM x:=by
 unfold zdM
 cases hh:zbS x.ev with
 | none =>
  dsimp only
  cases hr:zaL x with
  | false=>rfl
  | true =>
   unfold zaL at hr;simp only [bAT,dE] at hr;obtain⟨h1,h2,h3,h4,_⟩:=hr;rw [(zec x.ev (zaI x.ev)).2 ⟨rfl,h1,h2,h3,h4⟩] at hh
   cases hh
 | some locs =>
  dsimp only;obtain⟨hl,h48,h1,h6,hev⟩:=(zec x.ev locs).1 hh;have hX:zaL x=(za4 x&&(zbe x.po (poR x.ev)&&(zcT x&&(zcF x locs&&zcx x)))):=by
   unfold zaL;rw [<- hl,decide_eq_true h48,decide_eq_true h1,decide_eq_true h6,hev];rfl
  rw [hX]
  cases hrels:za4 x with
  | false=>rfl
  | true =>
   rw [Bool.true_and,Bool.true_and];have hrel:=hrels;unfold za4 at hrel;simp only [List.all_cons,List.all_nil,Bool.and_true,bAT,dE] at hrel;obtain⟨a1,a2,a3,a4,a5,a6⟩:=hrel;have rpo:RelOk x.ev.length x.po:=⟨a1.1,a1.2,hw.po⟩;have rrf:RelOk x.ev.length x.rf:=⟨a2.1,a2.2,hw.rf⟩;have rco:RelOk x.ev.length x.co:=⟨a3.1,a3.2,hw.co⟩;have rdt:RelOk x.ev.length x.dt:=⟨a4.1,a4.2,hw.dt⟩;have rct:RelOk x.ev.length x.ct:=⟨a5.1,a5.2,hw.ct⟩;have rrm:RelOk x.ev.length x.rm:=⟨a6.1,a6.2,hw.rm⟩;obtain⟨n,hn⟩:=nm (x.ev.length);have hq:∀ {r:RelD},RelOk x.ev.length r->∀ {a b},a<x.ev.length->hasQ r a b=hasM r a b:=fun {r} h {a b} ha=>zgq h (by omega);have hlen:locs<=x.ev.length:=by
    rw [hl];unfold zaI;exact (List.takeWhile_sublist _).length_le
   have thv:=zqB x.ev locs 0 0 0 hev (Int.le_refl _);have hth:∀ a,a<x.ev.length->((evA x a).th ≠ -1↔0<=(evA x a).th):=fun a ha=>by
    obtain⟨b1,b2,_⟩:=thv a ha;unfold evA;by_cases hc:a<locs
    ·have:=b1 (by omega);omega
    ·have:=b2 (by omega);omega
   have po_bit:∀ i j,i<x.ev.length->(hasM (poR x.ev) i j=true↔(evA x i).th ≠ -1/\i<j/\j<x.ev.length/\(evA x j).th=(evA x i).th):=fun i j hi=>by
    have hg:x.ev[i]?=some (evA x i):=by
     rw [gE hi];unfold evA;rw [gDe,gE hi];rfl
    show (zel x.ev i).testBit j=true↔_;unfold zel;rw [hg];dsimp only;by_cases ht:(evA x i).th = -1
    ·rw [if_pos ht];simp [ht]
    ·rw [if_neg ht,znE,Nat.zero_testBit];have hd:∀ m,(x.ev.drop (i+1)).getD m ev0=evA x (i+1+m):=fun m=>by
      unfold evA;rw [gDe,gDe,List.getElem?_drop]
     constructor
     ·rintro (h | ⟨m,b1,b2,b3⟩)
      ·cases h
      ·rw [hd,<- b2] at b3;rw [List.length_drop] at b1;exact⟨ht,by omega,by omega,b3⟩
     ·rintro⟨_,b1,b2,b3⟩;refine .inr ⟨j-(i+1),by rw [List.length_drop];omega,by omega,?_⟩;rw [hd,show i+1+(j-(i+1))=j by omega];exact b3
   have poE:zbe x.po (poR x.ev)=true↔∀ a b,a<x.ev.length->b<x.ev.length->hasQ x.po a b=poQ x a b:=by
    have e:∀ a b,a<x.ev.length->b<x.ev.length->(hasM (poR x.ev) a b=true↔poQ x a b=true):=fun a b ha hb=>by
     rw [po_bit a b ha];unfold poQ;rw [bAT,bAT,dE,dE,dE,<- hth a ha];exact⟨fun h=>⟨h.1,h.2.2.2.symm,h.2.1⟩,fun h=>⟨h.1,h.2.2,hb,h.2.1.symm⟩⟩
    constructor
    ·intro h a b ha hb;rw [hq rpo ha,zdU h (by omega)];exact Bool.eq_iff_iff.2 (e a b ha hb)
    ·intro h;unfold zbe;rw [bAT,dE,List.all_eq_true];refine⟨a1.1,fun i hi=>decide_eq_true (Nat.eq_of_testBit_eq fun j=>?_)⟩;have hi:=List.mem_range.1 hi;show hasM x.po i j=hasM (poR x.ev) i j;by_cases hin:i<x.ev.length
     ·by_cases hjn:j<x.ev.length
      ·rw [<- hq rpo hin,h i j hin hjn];exact (Bool.eq_iff_iff.2 (e i j hin hjn)).symm
      ·have c1:hasM x.po i j=false:=by
        cases hc:hasM x.po i j with
        | false=>rfl
        | true=>exact (hjn (rpo.bit hi hc).2).elim
       have c2:hasM (poR x.ev) i j=false:=by
        cases hc:hasM (poR x.ev) i j with
        | false=>rfl
        | true=>exact (hjn ((po_bit i j hin).1 hc).2.2.1).elim
       rw [c1,c2]
     ·have c1:hasM x.po i j=false:=by
       cases hc:hasM x.po i j with
       | false=>rfl
       | true=>exact (hin (rpo.bit hi hc).1).elim
      have c2:hasM (poR x.ev) i j=false:=by
       show (zel x.ev i).testBit j=false;unfold zel;rw [List.getElem?_eq_none (by omega)];exact Nat.zero_testBit _
      rw [c1,c2]
   have rfE:=zrs (x:=x) rrf;have hwl:∀ i,i<x.ev.length->isW x i=true->(evA x i).l.toNat<locs:=fun i hi hW=>by
    rcases (thv i hi).2.2 (dT hW) with ⟨b1,b2⟩ | b
    ·unfold evA;rw [b2,Nat.zero_add,UInt8.toNat_ofNat',Nat.mod_eq_of_lt (by omega)];omega
    ·exact b
   have hin:∀ k,k<locs->k∈za9 x k:=fun k hk=>by
    obtain⟨v,hv⟩:=zfO x.ev 0 0 0 hev k (by omega) (by omega);have h2:evA x k=⟨-1,2,UInt8.ofNat (0+k),v,0,0,0⟩:=hv;refine zb0.2 ⟨by omega,by unfold isW;rw [h2];rfl,?_⟩;rw [h2];show (UInt8.ofNat (0+k)).toNat=k;rw [Nat.zero_add,UInt8.toNat_ofNat'];exact Nat.mod_eq_of_lt (by omega)
   have coE:=zms rco h6 hwl hin;have depE:=zky (x:=x) h48 rpo rdt rct rrm x.ev.length 0 0 (Nat.zero_add _);rw [List.drop_zero] at depE;have depD:zcx x=zeZ x (zcP x) 0 x.ev 0:=rfl;have sl:∀ a b,(evA x a).l=(evA x b).l↔zek x a b=true:=fun a b=>(decide_eq_true_iff).symm;rw [Bool.eq_iff_iff];simp only [bAT];rw [poE,rfE,coE,depD,depE,znA,List.all_eq_true];constructor
   ·rintro⟨p1,⟨r1,r2⟩,⟨c1,c2⟩,d1,d2,d3⟩;refine⟨fun a b ha hb=>?_,fun a ha=>?_,c2⟩
    ·have e1:poQ x a b=hasM x.po a b:=(by rw [<- p1 a b ha hb,hq rpo ha]);unfold zga;simp only [bAT,zhW,beq_iff_eq];rw [hq rrf ha,hq rco ha,hq rdt ha,hq rct ha,hq rrm ha,e1];have D:=d1 a (Nat.zero_le _) ha;refine⟨by rw [hq rpo ha],fun h=>?_,fun h=>?_,fun h=>?_,fun h=>?_,fun h=>?_⟩
     ·obtain⟨b1,b2,b3,b4⟩:=r1 a b ha hb h;exact⟨b1,b2,(sl a b).1 b3,decide_eq_true b4⟩
     ·obtain⟨b1,b2,b3⟩:=c1 a b ha hb h;exact⟨b1,b2,(sl a b).1 b3⟩
     ·obtain⟨b1,b2⟩:=D.p b (.inl h);exact⟨b2,b1,D.w b (.inl h)⟩
     ·obtain⟨b1,b2⟩:=D.p b (.inr (.inl h));exact⟨b2,b1⟩
     ·obtain⟨b1,b2⟩:=D.p b (.inr (.inr h));exact⟨b2,b1,D.w b (.inr h),(sl a b).1 (D.l b h).symm⟩
    ·have ha:=List.mem_range.1 ha;unfold zeD;simp only [bAT,zhW,dE];refine⟨fun h=>(zko rrf ha).2 (r2 a ha h),(zmS rrm ha).2 fun i j _ _ h1 h2=>(d1 a (Nat.zero_le _) ha).u i j h1 h2,(zmN rrm ha).2 fun i j hi hj h1 h2=>?_⟩;rcases Nat.lt_trichotomy i j with h | h | h
     ·exact (d3 i j a (Nat.zero_le _) h hj h1 h2).elim
     ·exact h
     ·exact (d3 j i a (Nat.zero_le _) h hi h2 h1).elim
   ·rintro⟨p,cn,pl⟩;have P:∀ a b,a<x.ev.length->b<x.ev.length->hasQ x.po a b=poQ x a b/\(hasM x.rf a b=true->isW x a=true/\isR x b=true/\zek x a b=true/\(evA x a).v=(evA x b).v)/\(hasM x.co a b=true->isW x a=true/\isW x b=true/\zek x a b=true) /\
      (hasM x.dt a b=true->poQ x a b=true/\isR x a=true/\isW x b=true)/\(hasM x.ct a b=true->poQ x a b=true/\isR x a=true)/\(hasM x.rm a b=true->poQ x a b=true/\isR x a=true/\isW x b=true/\zek x a b=true):=fun a b ha hb=>by
     have:=p a b ha hb;unfold zga at this;simp only [bAT,zhW,beq_iff_eq,dE] at this;rw [hq rrf ha,hq rco ha,hq rdt ha,hq rct ha,hq rrm ha] at this;exact this
    have C:∀ a,a<x.ev.length->(isR x a=true->zb1 x.rf a=1)/\zcd x.rm a<=1/\zb1 x.rm a<=1:=fun a ha=>by
     have:=cn a (List.mem_range.2 ha);unfold zeD at this;simp only [bAT,zhW,dE] at this;exact this
    have pom:∀ a b,a<x.ev.length->b<x.ev.length->poQ x a b=true->hasM x.po a b=true:=fun a b ha hb h=>by rw [<- hq rpo ha,(P a b ha hb).1];exact h
    have bb:∀ {r:RelD},RelOk x.ev.length r->∀ {a b},a<x.ev.length->hasM r a b=true->b<x.ev.length:=fun {r} h {a b} ha h2=>(h.bit (by omega) h2).2;refine⟨fun a b ha hb=>(P a b ha hb).1,⟨fun a b ha hb h=>?_,fun b hb h=>(zko rrf hb).1 ((C b hb).1 h)⟩,⟨fun a b ha hb h=>?_,pl⟩,fun k _ hk=>?_,fun k j _ _ _=>Nat.zero_testBit _,fun k k' j _ h1 h2 h3 h4=>?_⟩
    ·obtain⟨b1,b2,b3,b4⟩:=(P a b ha hb).2.1 h;exact⟨b1,b2,(sl a b).2 b3,b4⟩
    ·obtain⟨b1,b2,b3⟩:=(P a b ha hb).2.2.1 h;exact⟨b1,b2,(sl a b).2 b3⟩
    ·refine⟨fun j h=>?_,fun j h=>?_,fun i j h1 h2=>(zmS rrm hk).1 (C k hk).2.1 i j (bb rrm hk h1) (bb rrm hk h2) h1 h2,fun j h=>((sl k j).2 ((P k j hk (bb rrm hk h)).2.2.2.2.2 h).2.2.2).symm⟩
     ·rcases h with h | h
      ·exact ((P k j hk (bb rdt hk h)).2.2.2.1 h).2.2
      ·exact ((P k j hk (bb rrm hk h)).2.2.2.2.2 h).2.2.1
     ·rcases h with h | h | h
      ·have:=(P k j hk (bb rdt hk h)).2.2.2.1 h;exact⟨this.2.1,pom k j hk (bb rdt hk h) this.1⟩
      ·have:=(P k j hk (bb rct hk h)).2.2.2.2.1 h;exact⟨this.2,pom k j hk (bb rct hk h) this.1⟩
      ·have:=(P k j hk (bb rrm hk h)).2.2.2.2.2 h;exact⟨this.2.1,pom k j hk (bb rrm hk h) this.1⟩
    ·have hk':k<x.ev.length:=(by omega);have:=(zmN rrm (bb rrm hk' h3)).1 (C j (bb rrm hk' h3)).2.2 k k' hk' h2 h3 h4;omega
end
def kneQ (x:ExD) (a:Nat):Bool := !decide ((evA x a).k=3)
def anyQ (n:Nat) (f:Nat->Bool):Bool:=(List.range n).any f
def frQ (x:ExD):RelD:=zaX x.ev.length fun a b=>anyQ x.ev.length fun w=>hasM x.rf w a&&hasM x.co w b
def locQ (x:ExD):RelD:=zaX x.ev.length fun a b=>kneQ x a&&(kneQ x b&&decide ((evA x a).l=(evA x b).l))
def zdi (x:ExD) (r:RelD) (one:Bool):RelD:=zaX x.ev.length fun a b=>hasM r a b&&decide (decide ((evA x a).th=(evA x b).th)=one)
def fenQ (x:ExD) (md:UInt8) (f:Nat):Bool:=decide (3<=md.toNat)&&(decide (md.toNat<=5)&&(decide ((evA x f).k=3)&&decide ((evA x f).m=md)))
def zaN (x:ExD) (md:UInt8):RelD:=zaX x.ev.length fun a b=>anyQ x.ev.length fun f=>fenQ x md f&&(hasM x.po a f&&hasM x.po f b)
def zfC (x:ExD) (a:Nat):Bool:=kneQ x a&&decide ((evA x a).m=3)
def zat (m:Nat) (x:ExD) (a b:Nat) (full loads stores:Bool):Bool :=
 let atomic:=zfC x a||zfC x b
 let tso := !(isW x a&&isR x b)||(full||atomic)
 match m with
 | 2=>true
 | 3=>tso
 | 4=>if (isW x a&&isW x b)=true then decide ((evA x a).l=(evA x b).l)||(full||(stores||atomic)) else tso
 | 5=>(isR x a&&(decide ((evA x a).m=1)||decide ((evA x a).m=3)))||((isW x b&&(decide ((evA x b).m=2)||decide ((evA x b).m=3)))||(full||((isR x a&&loads)||(isW x b&&stores))))
 | 6=>hasM x.dt a b||((isW x b&&hasM x.ct a b)||(full||((isR x a&&(isR x b&&loads))||((isW x a&&(isW x b&&stores))||hasM x.rm a b))))
 | _=>false
def zhF (m:Nat) (x:ExD):RelD:=zaX x.ev.length fun a b=>hasM x.po a b&&(kneQ x a&&(kneQ x b&&zat m x a b (hasM (zaN x 3) a b) (hasM (zaN x 4) a b) (hasM (zaN x 5) a b)))
theorem zjQ {n:Nat} {f:Nat->Bool}:anyQ n f=true↔∃ i,i<n/\f i=true:=by
 unfold anyQ;rw [List.any_eq_true];exact⟨fun ⟨i,h1,h2⟩=>⟨i,List.mem_range.1 h1,h2⟩,fun ⟨i,h1,h2⟩=>⟨i,List.mem_range.2 h1,h2⟩⟩
section
variable {n:Nat} {a b:RelD} {x:ExD}
theorem zoD (h:XOk x) (h1:1<=zaI x.ev) (h6:zaI x.ev<=6) {i:Nat} (hi:i<x.ev.length):(evA x i).k=1\/(evA x i).k=2\/(evA x i).k=3:=by
 have hh:=(zec x.ev (zaI x.ev)).2 ⟨rfl,h.n,h1,h6,h.ev⟩;by_cases hc:i<zaI x.ev
 ·obtain⟨v,hv⟩:=zfO x.ev 0 0 0 h.ev i (by omega) hi;have h2:evA x i=⟨-1,2,UInt8.ofNat (0+i),v,0,0,0⟩:=hv;rw [h2];exact .inr (.inl rfl)
 ·unfold zbS at hh
  cases hg:hdGo 0 x.ev with
  | none=>rw [hg] at hh;cases hh
  | some locs =>
   rw [hg] at hh;dsimp only at hh;by_cases hb:locs<1\/6<locs\/48<x.ev.length
   ·rw [if_pos hb] at hh;cases hh
   ·rw [if_neg hb] at hh;by_cases ha:((List.range (x.ev.length-locs)).all fun j=>zdP x.ev locs j)=true
    ·rw [if_pos ha] at hh;have hl:=Option.some.inj hh;subst hl;rw [List.all_eq_true] at ha;have:=(ziN _ _ _).1 (ha (i-zaI x.ev) (List.mem_range.2 (by omega)));have k:=(ziI _ _).1 this.2.2.2.2;rw [ziP,show zaI x.ev+(i-zaI x.ev)=i by omega] at k;show (x.ev.getD i ev0).k=1\/(x.ev.getD i ev0).k=2\/(x.ev.getD i ev0).k=3;rcases k with ⟨k | k,_⟩ | ⟨k,_⟩
     ·exact .inl k
     ·exact .inr (.inl k)
     ·exact .inr (.inr k)
    ·rw [if_neg ha] at hh;cases hh
theorem zh1 {i:Nat} (h:(evA x i).k=1\/(evA x i).k=2\/(evA x i).k=3):kneQ x i=accA x i:=by
 unfold kneQ accA isR isW;rcases h with h | h | h <;> rw [h] <;> rfl
structure KOk (x:ExD):Prop extends XOk x where
 k:∀ i,i<x.ev.length->(evA x i).k=1\/(evA x i).k=2\/(evA x i).k=3
theorem zrJ (hw:WX x) (h:zaL x=true):KOk x:=by
 have hx:=zrk hw h;unfold zaL at h;simp only [bAT,dE] at h;exact⟨hx,fun i hi=>zoD hx h.2.1 h.2.2.1 hi⟩
theorem zrP (h:KOk x):zbe (frM x) (frQ x)=true:=zdA (zrO h.toXOk) (.pick h.n _) fun i j hi hj=>by
 have h48:=h.n;unfold frQ;rw [zbV,decide_eq_true hi,decide_eq_true hj,Bool.true_and,Bool.true_and,Bool.eq_iff_iff,zjQ];unfold frM;rw [zfD h.rf.back h.co hi];constructor
 ·rintro⟨k,hk,h1,h2⟩;rw [ze4 h.rf (by omega),bAT] at h1;exact⟨k,hk,by rw [h1.2,h2];rfl⟩
 ·rintro⟨k,hk,h1⟩;rw [bAT] at h1;exact⟨k,hk,by rw [ze4 h.rf (by omega),h1.1,decide_eq_true hk];rfl,h1.2⟩
theorem zqa (h:KOk x):zbe (locM x) (locQ x)=true:=zdA (zp9 h.toXOk) (.pick h.n _) fun i j hi hj=>by
 unfold locM locQ;rw [zbV,zbV,zh1 (h.k i hi),zh1 (h.k j hj)];rfl
theorem zqu (h:KOk x) {r:RelD} (hr:RelOk x.ev.length r):zbe (extM x r) (zdi x r false)=true:=zdA (zqq h.toXOk hr) (.pick h.n _) fun i j hi hj=>by
 unfold zdi;rw [zqt hr hi hj,zbV,decide_eq_true hi,decide_eq_true hj];by_cases e:(evA x i).th=(evA x j).th
 ·rw [decide_eq_true e];rfl
 ·rw [decide_eq_false e];rfl
theorem zqh (h:KOk x) {r:RelD} (hr:RelOk x.ev.length r):zbe (intM x r) (zdi x r true)=true:=zdA (zqf h.toXOk hr) (.pick h.n _) fun i j hi hj=>by
 unfold zdi;rw [zqg hr hi hj,zbV,decide_eq_true hi,decide_eq_true hj];by_cases e:(evA x i).th=(evA x j).th
 ·rw [decide_eq_true e];rfl
 ·rw [decide_eq_false e];rfl
theorem zmX (x:ExD) (md:UInt8) (j:Nat) (h:x.ev.length<=64):(zcs x md).testBit j=(decide (j<x.ev.length)&&(decide ((evA x j).k=3)&&decide ((evA x j).m=md))):=by
 have go:∀ (l:List Nat) (s:Nat),(l.foldl (fun s i=>s|||2^i) s).testBit j=(s.testBit j||decide (j∈l)):=fun l=>by
  induction l with
  | nil=>intro s;simp
  | cons a l ih =>
   intro s;rw [List.foldl_cons,ih,Nat.testBit_or,zb6,Bool.or_assoc];congr 1;rw [Bool.eq_iff_iff,Bool.or_eq_true,dE,dE,dE,List.mem_cons]
 unfold zcs;rw [go,Nat.zero_testBit,Bool.false_or,Bool.eq_iff_iff,dE,List.mem_filter,List.mem_range];simp only [bAT,dE]
theorem zed (h:KOk x) {md:UInt8} (h1:3<=md.toNat) (h2:md.toNat<=5):zbe (zaz x md) (zaN x md)=true:=zdA (zlp h.toXOk md) (.pick h.n _) fun i j hi hj=>by
 have h48:=h.n;have hid:=RelOk.id (n:=x.ev.length) h.n (zcs x md);have h3:=h.po.then hid;unfold zaN;rw [zbV,decide_eq_true hi,decide_eq_true hj,Bool.true_and,Bool.true_and,Bool.eq_iff_iff,zjQ];unfold zaz;rw [zfD h3 h.po hi];have hf:∀ f,fenQ x md f=(decide ((evA x f).k=3)&&decide ((evA x f).m=md)):=fun f=>by
  unfold fenQ;rw [decide_eq_true h1,decide_eq_true h2];rfl
 constructor
 ·rintro⟨k,hk,b1,b2⟩;obtain⟨m,hm,c1,c2⟩:=(zfD h.po hid hi).1 b1;rw [zmP,bAT,bAT,dE,dE] at c2;obtain⟨_,c3,rfl⟩:=c2;rw [zmX x md _ (by omega),bAT] at c3;exact⟨_,hm,by rw [hf,c3.2,c1,b2];rfl⟩
 ·rintro⟨k,hk,b⟩;rw [hf] at b;simp only [bAT] at b;refine⟨k,hk,(zfD h.po hid hi).2 ⟨k,hk,b.2.1,?_⟩,b.2.2⟩;rw [zmP,zmX x md _ (by omega),decide_eq_true hk,b.1.1,b.1.2,decide_eq_true rfl];rfl
theorem zlq (h:KOk x) (md:UInt8) (hr:zaL x=true):zbe (zb9 x md) (zaN x md)=true:=by
 unfold zb9;rw [if_pos hr];by_cases hm:3<=md.toNat/\md.toNat<=5
 ·rw [if_pos hm];exact zed h hm.1 hm.2
 ·rw [if_neg hm];refine zdA (zpS h.n) (.pick h.n _) fun i j hi hj=>?_;rw [show hasM (relN x.ev.length) i j=false from Nat.zero_testBit _];unfold zaN;rw [zbV,decide_eq_true hi,decide_eq_true hj,Bool.true_and,Bool.true_and];refine (Bool.eq_false_iff.2 fun hc=>?_).symm;obtain⟨f,_,hf⟩:=zjQ.1 hc;rw [bAT] at hf;unfold fenQ at hf;simp only [bAT,dE] at hf;exact hm ⟨hf.1.1,hf.1.2.1⟩
theorem zoq {m:Nat} {f l s:RelD} {i j:Nat} (hi:accA x i=true) (hj:accA x j=true):zeU m x f l s i j=zat m x i j (hasM f i j) (hasM l i j) (hasM s i j):=by
 have ki:kneQ x i=true/\isR x i = !isW x i:=by
  unfold accA at hi;unfold kneQ;unfold isR isW at hi ⊢;rw [Bool.or_eq_true,dE,dE] at hi;rcases hi with h | h <;> rw [h] <;> exact⟨rfl,rfl⟩
 have kj:kneQ x j=true/\isR x j = !isW x j:=by
  unfold accA at hj;unfold kneQ;unfold isR isW at hj ⊢;rw [Bool.or_eq_true,dE,dE] at hj;rcases hj with h | h <;> rw [h] <;> exact⟨rfl,rfl⟩
 have hs:zdj x i j=decide ((evA x i).l=(evA x j).l):=by unfold zdj;rw [hi,hj];rfl
 have si:zfC x i=decide ((evA x i).m=3):=by unfold zfC;rw [ki.1];rfl
 have sj:zfC x j=decide ((evA x j).m=3):=by unfold zfC;rw [kj.1];rfl
 have s3:∀ a,zaG x a 3=decide ((evA x a).m=3):=fun a=>by unfold zaG;rw [Bool.or_self]
 match m with
 | 0=>rfl
 | 1=>rfl
 | 2=>rfl
 | 3 =>
  simp only [zeU,zat,zch,s3,si,sj,ki.2,kj.2]
  cases isW x i <;> cases isW x j <;> simp
 | 4 =>
  simp only [zeU,zat,zch,s3,si,sj,ki.2,kj.2,hs]
  cases isW x i <;> cases isW x j <;> simp
  cases hasM f i j <;> cases hasM s i j <;> cases decide ((evA x i).m=3) <;> cases decide ((evA x j).m=3) <;> simp
 | 5 =>
  simp only [zeU,zat,zaG,ki.2]
  cases isW x i <;> cases isW x j <;> cases hasM f i j <;> cases hasM l i j <;> cases hasM s i j <;> simp
 | 6 =>
  simp only [zeU,zat,ki.2,kj.2]
  cases isW x i <;> cases isW x j <;> cases hasM f i j <;> cases hasM l i j <;> cases hasM s i j <;> cases hasM x.dt i j <;> cases hasM x.ct i j <;> cases hasM x.rm i j <;> rfl
 | m+7=>rfl
theorem zop (h:KOk x) (m:Nat):zbe (zcX m x) (zhF m x)=true:=zdA (zoo h.toXOk) (.pick h.n _) fun i j hi hj=>by
 have h48:=h.n;unfold zcX zhF;rw [zbV,zbV,zh1 (h.k i hi),zh1 (h.k j hj)];have e3:=zdU (zed h (md:=3) (by decide) (by decide)) (i:=i) (j:=j) (by omega);have e4:=zdU (zed h (md:=4) (by decide) (by decide)) (i:=i) (j:=j) (by omega);have e5:=zdU (zed h (md:=5) (by decide) (by decide)) (i:=i) (j:=j) (by omega);rw [<- e3,<- e4,<- e5]
 cases hai:accA x i with
 | false=>simp
 | true =>
  cases haj:accA x j with
  | false=>simp
  | true=>rw [zoq hai haj]
end
def zbj (base:Nat->Nat) (n:Nat) (p:Nat->Nat->Bool) (a k:Nat):Nat->Nat:=fun i=>if i<a then base i|||rowP n (p i) else if i=a then base i|||rowP k (p a) else base i
section
variable {base:Nat->Nat} {n a k:Nat} {p:Nat->Nat->Bool}
theorem zj4:zbj base n p a k a=base a|||rowP k (p a):=by
 unfold zbj;rw [if_neg (by omega),if_pos rfl]
theorem zmf (h:p a k=true):upd (zbj base n p a k) a (zbj base n p a k a|||2^k)=zbj base n p a (k+1):=by
 funext i;by_cases hi:i=a
 ·subst hi;rw [zaZ,zj4,zj4,zdm,if_pos h,Nat.or_assoc]
 ·rw [zcf _ _ hi];unfold zbj;rw [if_neg hi,if_neg hi]
theorem za2 (h:p a k=false):zbj base n p a k=zbj base n p a (k+1):=by
 have e:rowP (k+1) (p a)=rowP k (p a):=by rw [zdm,if_neg (by rw [h];decide)]
 funext i;unfold zbj;rw [e]
theorem zdl:zbj base n p a n=zbj base n p (a+1) 0:=by
 funext i;unfold zbj;by_cases h1:i<a
 ·rw [if_pos h1,if_pos (by omega)]
 ·by_cases h2:i=a
  ·subst h2;rw [if_neg h1,if_pos rfl,if_pos (by omega)]
  ·rw [if_neg h1,if_neg h2,if_neg (by omega)]
   split
   ·rw [show rowP 0 (p (a+1))=0 from rfl,Nat.or_zero]
   ·rfl
theorem zdk:zbj base n p 0 0=base:=by
 funext i;unfold zbj;rw [if_neg (by omega)]
 split
 ·rw [show rowP 0 (p 0)=0 from rfl,Nat.or_zero]
 ·rfl
theorem zdT (hb:WrdR base) (hn:n<=64) (hk:k<=64):WrdR (zbj base n p a k):=fun i hi=>by
 unfold zbj
 split
 ·exact Nat.or_lt_two_pow (hb i hi) (zew _ n hn)
 ·split
  ·exact Nat.or_lt_two_pow (hb i hi) (zew _ k hk)
  ·exact hb i hi
theorem zfZ:zbj (fun _=>0) n p n 0=(zaX n p).to:=by
 funext i;unfold zbj zaX zbP;show _=if i<n then _ else 0
 by_cases h:i<n
 ·rw [if_pos h,if_pos h,Nat.zero_or]
 ·rw [if_neg h,if_neg h]
  split
  ·exact (Nat.zero_or _).trans rfl
  ·rfl
theorem zpR (f g:Nat->Bool):rowP n f|||rowP n g=rowP n fun b=>f b||g b:=Nat.eq_of_testBit_eq fun j=>by
 rw [Nat.testBit_or,zev,zev,zev]
 cases decide (j<n) <;> rfl
theorem zkM {f:Nat->Bool}:anyQ (k+1) f=(anyQ k f||f k):=by
 unfold anyQ;rw [List.range_succ,List.any_append,List.any_cons,List.any_nil,Bool.or_false]
theorem zih {f:Nat->Nat->Nat->Bool}:zbj (zaX n fun a b=>anyQ k (f a b)).to n (fun a b=>f a b k) n 0=(zaX n fun a b=>anyQ (k+1) (f a b)).to:=by
 funext i;unfold zbj zaX zbP;show (if i<n then (if i<n then _ else 0)|||_ else if i=n then (if i<n then _ else 0)|||_ else if i<n then _ else 0)=if i<n then _ else 0
 by_cases h:i<n
 ·rw [if_pos h,if_pos h,if_pos h,zpR];congr 1;funext b;show _=anyQ (k+1) (f i b);rw [zkM]
 ·rw [if_neg h,if_neg h,if_neg h]
  split
  ·exact (Nat.zero_or _).trans rfl
  ·rfl
theorem zkL {f:Nat->Nat->Nat->Bool}:(zaX n fun a b=>anyQ 0 (f a b)).to=fun _=>0:=by
 funext i;unfold zaX zbP;show (if i<n then _ else 0)=0
 split
 ·refine Nat.eq_of_testBit_eq fun j=>?_;rw [zev,Nat.zero_testBit];exact Bool.and_false _
 ·rfl
end
section
variable {w:World} {b c:Nat} {x:ExD} {q:Option Addr}
theorem zax {X:World} (fx:zaw X ⟨b,0,none⟩ (exC x q c)):X.cell? ⟨b,0+0,none⟩=some (.slice q x.ev.length c):=zac fx (i:=0) rfl
theorem zha {X:World} {o:Nat} {r:RelD} (fx:zaw X ⟨b,0,none⟩ (exC x q c)) (h:∃ A T,A.length=o/\exC x q c=A++(relC r++T)):∀ i,i<48->X.cell? ⟨b,o+1+i*1,none⟩=some (s64 (r.to i)):=by
 intro i hi;obtain⟨A,T,hA,hE⟩:=h;have:(exC x q c)[o+1+i*1]?=some (s64 (r.to i)):=by
  rw [hE,Nat.mul_one,Nat.add_assoc,zbn hA,List.getElem?_append_left (by rw [zad];omega),zf1 r hi]
 have h2:=zac fx this;rw [Nat.zero_add] at h2;exact h2
theorem zpe (x:ExD) (q:Option Addr) (c:Nat):∃ A T,A.length=1/\exC x q c=A++(relC x.po++T):=by
 obtain⟨A,T,hA,hE⟩:=zoy x q c [];exact⟨A,T,hA,by rw [<- hE,List.append_nil]⟩
theorem zrW (x:ExD) (q:Option Addr) (c:Nat):∃ A T,A.length=148/\exC x q c=A++(relC x.dt++T):=by
 obtain⟨A,T,hA,hE⟩:=zoz x q c [];exact⟨A,T,hA,by rw [<- hE,List.append_nil]⟩
theorem zrX (x:ExD) (q:Option Addr) (c:Nat):∃ A T,A.length=197/\exC x q c=A++(relC x.ct++T):=by
 obtain⟨A,T,hA,hE⟩:=zoA x q c [];exact⟨A,T,hA,by rw [<- hE,List.append_nil]⟩
theorem zpd (x:ExD) (q:Option Addr) (c:Nat):∃ A T,A.length=246/\exC x q c=A++(relC x.rm++T):=by
 obtain⟨A,T,hA,hE⟩:=zox x q c [];exact⟨A,T,hA,by rw [<- hE,List.append_nil]⟩
theorem zkP (x:ExD) (i:Nat):(decide ((evA x i).k=1)||decide ((evA x i).k=2))=accA x i:=rfl
theorem zdo {X:World} (hv:SlR evE X q x.ev) {a:Nat} (ha:a<x.ev.length):∃ bq oq,q=some ⟨bq,oq,none⟩/\bq<X.heap.size/\zaw X ⟨bq,oq+a*7,none⟩ (evE.enc (evA x a)):=zep hv ha
theorem zl9 {a d:Nat} (fx:zaw w ⟨b,0,none⟩ (exC x q c)) (hv:SlR evE w q x.ev) (ha:a<x.ev.length) (hd:d<x.ev.length) :
  CB 63 #[At0 b,i64 (a:Nat),i64 (d:Nat)] w (.bool (zdj x a d)):=by
 refine cofM 44 [At0 b,i64 (a:Nat),i64 (d:Nat)] (.c .p .p) Tryz.func63 ?_;refine⟨Unit,fun _=>⟨[(0,At0 b),(1,i64 (a:Nat)),(2,i64 (d:Nat))],[]⟩,fun _ X=>w=X,⟨(),(cvE rfl rfl),rfl⟩,?_⟩;rintro _ _ rfl;obtain⟨bq,oq,hqe,hb,hat⟩:=zdo hv ha;obtain⟨bq2,oq2,hqe2,hb2,hat2⟩:=zdo hv hd;rw [hqe] at hqe2;simp only [Option.some.injEq,Addr.mk.injEq,and_true] at hqe2;rw [<- hqe2.1,<- hqe2.2] at hat2;subst hqe;have dw:Bw w w.drew:=(Below.refl _ _).drew;refine DrawE.ord [] [0,1,2,3,4,5,6,7,8,9,10,11,12,13,14,15,16,17,18,19,20,21,22,23,24,25,26,27,28,29,30,31,32,33,34,35,36,37] (by kernel_rfl) ?_;refine⟨_,zax (zae dw fx),?_⟩;refine⟨a,rfl,ha,?_⟩;refine⟨evE.enc (evA x a),rfl,zae dw hat,nL hb dw.size,?_⟩;refine cmo zfV ?_;rintro e X ⟨rfl,hbX⟩;refine⟨hbX,?_⟩;have bX:=dw.trans hbX;rw [zkP];refine biE (fun h1=>?_) fun h1=>?_
 ·have h1:accA x a=true:=h1;refine⟨_,zax (zae bX fx),?_⟩;refine⟨d,rfl,hd,?_⟩;refine⟨evE.enc (evA x d),rfl,zae bX hat2,nL hb bX.size,?_⟩;refine cmo zfV ?_;rintro e Y ⟨rfl,hbY⟩;refine⟨hbY,?_⟩;have bY:=zst bX hbY;rw [zkP];refine biE (fun h2=>?_) fun h2=>?_
  ·have h2:accA x d=true:=h2;refine⟨_,zax (zae bY fx),?_⟩;refine⟨a,rfl,ha,?_⟩;refine⟨u8 (evA x a).l,by have:=zac (zae bY hat) (i:=2) (v:=u8 (evA x a).l) rfl;exact this,?_⟩;refine⟨_,zax (zae bY fx),?_⟩;refine⟨d,rfl,hd,?_⟩;refine⟨u8 (evA x d).l,by have:=zac (zae bY hat2) (i:=2) (v:=u8 (evA x d).l) rfl;exact this,?_⟩;refine⟨rb ?_,bY⟩;unfold zdj;rw [h1,h2,Bool.true_and,Bool.true_and];exact decide_eq_decide.2 zbi
  ·have h2:accA x d=false:=h2;refine⟨rb ?_,bY⟩;unfold zdj;rw [h1,h2];rfl
 ·have h1:accA x a=false:=h1;refine brF ?_;refine⟨rb ?_,bX⟩;unfold zdj;rw [h1];rfl
end
structure ScnV (X:World) (b:Nat) (x:ExD) (q:Option Addr) (c:Nat) (f l s:RelD):Prop where
 h:X.heap[b]?=some (.cells (exC x q c++(relC f++(relC l++relC s))).toArray 142 (0,0))
 v:ExV X x q
 wf:WrdR f.to
 wl:WrdR l.to
 ws:WrdR s.to
section
variable {w:World} {b c:Nat} {x:ExD} {q:Option Addr} {f l s:RelD}
theorem ScnV.below {X Y:World} (h:ScnV X b x q c f l s) (hb:Bw X Y):ScnV Y b x q c f l s:=⟨zaa hb h.h,h.v.below hb,h.wf,h.wl,h.ws⟩
theorem ScnV.cells {X:World} (h:ScnV X b x q c f l s):zaw X ⟨b,0,none⟩ (exC x q c):=by
 have:=zaD (n:=0) (m:=333) (zab h.h);have e:((exC x q c++(relC f++(relC l++relC s))).toArray.toList.drop 0).take 333=exC x q c:=by
  show (exC x q c++_).take 333=_;rw [List.take_append_of_le_length (by rw [zao];decide),List.take_of_length_le (by rw [zao];decide)]
 rw [e] at this;exact this
theorem ScnV.at {X:World} {o:Nat} {r:RelD} (h:ScnV X b x q c f l s) (hr:∃ A T,A.length=o/\exC x q c++(relC f++(relC l++relC s))=A++(relC r++T)):∀ i,i<48->X.cell? ⟨b,o+1+i*1,none⟩=some (s64 (r.to i)):=by
 intro i hi;obtain⟨A,T,hA,hE⟩:=hr;have:(exC x q c++(relC f++(relC l++relC s)))[o+1+i*1]?=some (s64 (r.to i)):=by
  rw [hE,Nat.mul_one,Nat.add_assoc,zbn hA,List.getElem?_append_left (by rw [zad];omega),zf1 r hi]
 have h2:=zac (zab h.h) this;rw [Nat.zero_add] at h2;exact h2
theorem ScnV.full {X:World} (h:ScnV X b x q c f l s):∀ i,i<48->X.cell? ⟨b,0+333+1+i*1,none⟩=some (s64 (f.to i)):=h.at ⟨exC x q c,relC l++relC s,zao _ _ _,rfl⟩
theorem ScnV.loads {X:World} (h:ScnV X b x q c f l s):∀ i,i<48->X.cell? ⟨b,0+382+1+i*1,none⟩=some (s64 (l.to i)):=h.at ⟨exC x q c++relC f,relC s,by rw [lap,zao,zad],by rw [List.append_assoc]⟩
theorem ScnV.stores {X:World} (h:ScnV X b x q c f l s):∀ i,i<48->X.cell? ⟨b,0+431+1+i*1,none⟩=some (s64 (s.to i)):=h.at ⟨exC x q c++(relC f++relC l),[],by rw [lap,lap,zao,zad,zad],by simp only [List.append_assoc,List.append_nil]⟩
theorem zf3 {a:Nat} (h:ScnV w b x q c f l s) (ha:a<x.ev.length):Calls Tryz.prog 134 #[At0 b,i64 (a:Nat)] w fun e w'=>e = .returned (.bool (isR x a))/\w=w':=by
 refine cofE 15 [At0 b,i64 (a:Nat)] Tryz.func134 ?_;obtain⟨bq,oq,hqe,hb,hat⟩:=zdo h.v.ev ha;have fx:=h.cells;subst hqe;refine⟨_,zax fx,?_⟩;refine⟨a,rfl,ha,?_⟩;refine⟨u8 (evA x a).k,by have:=zac hat (i:=1) (v:=u8 (evA x a).k) rfl;exact this,?_⟩;exact⟨rb (decide_eq_decide.2 (zbi (x:=(evA x a).k) (y:=1))),rfl⟩
theorem zbF {a:Nat} (h:ScnV w b x q c f l s) (ha:a<x.ev.length):Calls Tryz.prog 135 #[At0 b,i64 (a:Nat)] w fun e w'=>e = .returned (.bool (isW x a))/\w=w':=by
 refine cofE 15 [At0 b,i64 (a:Nat)] Tryz.func135 ?_;obtain⟨bq,oq,hqe,hb,hat⟩:=zdo h.v.ev ha;have fx:=h.cells;subst hqe;refine⟨_,zax fx,?_⟩;refine⟨a,rfl,ha,?_⟩;refine⟨u8 (evA x a).k,by have:=zac hat (i:=1) (v:=u8 (evA x a).k) rfl;exact this,?_⟩;exact⟨rb (decide_eq_decide.2 (zbi (x:=(evA x a).k) (y:=2))),rfl⟩
theorem zeG {a:Nat} {md:UInt8} (h:ScnV w b x q c f l s) (ha:a<x.ev.length):Calls Tryz.prog 139 #[At0 b,i64 (a:Nat),u8 md] w fun e w'=>e = .returned (.bool (zaG x a md))/\w=w':=by
 refine cofE 30 [At0 b,i64 (a:Nat),u8 md] Tryz.func139 ?_;obtain⟨bq,oq,hqe,hb,hat⟩:=zdo h.v.ev ha;have fx:=h.cells;subst hqe;refine⟨_,zax fx,?_⟩;refine⟨a,rfl,ha,?_⟩;refine⟨u8 (evA x a).m,by have:=zac hat (i:=4) (v:=u8 (evA x a).m) rfl;exact this,?_⟩;refine biE (fun h1=>?_) fun h1=>?_
 ·have h1:(evA x a).m=md:=zbi.1 (dT h1);exact⟨rb (by unfold zaG;rw [decide_eq_true h1];rfl),rfl⟩
 ·have h1:¬ (evA x a).m=md:=fun e=>(dF h1) (by rw [e]);refine⟨_,zax fx,?_⟩;refine⟨a,rfl,ha,?_⟩;refine⟨u8 (evA x a).m,by have:=zac hat (i:=4) (v:=u8 (evA x a).m) rfl;exact this,?_⟩;exact⟨rb (by unfold zaG;rw [decide_eq_false h1,Bool.false_or];exact decide_eq_decide.2 (zbi (x:=(evA x a).m) (y:=3))),rfl⟩
theorem znt {a d:Nat} (h:ScnV w b x q c f l s) (ha:a<x.ev.length) (hd:d<x.ev.length):Calls Tryz.prog 136 #[At0 b,i64 (a:Nat),i64 (d:Nat)] w fun e w'=>e = .returned (.bool (zch x f a d))/\w=w':=by
 refine cofE 23 [At0 b,i64 (a:Nat),i64 (d:Nat)] Tryz.func136 ?_;have hn:=h.v.n;refine cmo (zaC h.full h.wf (by omega) (by omega)) ?_;rintro e _ ⟨rfl,rfl⟩;refine biE (fun h1=>?_) fun h1=>?_
 ·have h1:hasM f a d=true:=h1;refine brT ?_;exact⟨rb (by unfold zch;rw [h1];rfl),rfl⟩
 have h1:hasM f a d=false:=h1;refine cmo (zeG (md:=3) h ha) ?_;rintro e _ ⟨rfl,rfl⟩;refine biE (fun h2=>?_) fun h2=>?_
 ·have h2:zaG x a 3=true:=h2;exact⟨rb (by unfold zch;rw [h1,h2];rfl),rfl⟩
 have h2:zaG x a 3=false:=h2;refine cmo (zeG (md:=3) h hd) ?_;rintro e _ ⟨rfl,rfl⟩;exact⟨rb (by unfold zch;rw [h1,h2];rfl),rfl⟩
end
end Go.Proofs.YtmbghmhjjodgmaaGreatDoor
