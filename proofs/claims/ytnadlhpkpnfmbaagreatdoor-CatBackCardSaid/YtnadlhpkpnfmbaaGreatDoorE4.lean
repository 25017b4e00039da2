/- Contracts of functions, and plain facts, for the law that the last text of this claim proves. -/
import Derived.Test.YtnadlhpkpnfmbaaGreatDoorE3
import Derived.Test.YtnadlhpkpnfmbaaGreatDoorE1
import Derived.Test.YtnadlhpkpnfmbaaGreatDoorE2
set_option linter.unusedSimpArgs false
set_option linter.unusedVariables false
namespace Go.Proofs.YtnadlhpkpnfmbaaGreatDoor
open Go.Vc Go.RowKit Go.Sei
structure GlobE (w:Wd):Prop where
 c:GlobC w
 t64:Tz64M w
 t32:Tz32M w
theorem GlobE.below {w w2:Wd} (h:GlobE w) (hb:Bw w w2):GlobE w2:=⟨h.c.below hb,h.t64.below hb,h.t32.below hb⟩
abbrev zdp:=PathD×(OA×Nat)×(OA×Nat)×(OA×Nat)×(OA×Nat)
def jv:Enc zdp:=⟨fun x=>zhL x.1 x.2.1.1 x.2.1.2 x.2.2.1.1 x.2.2.1.2 x.2.2.2.1.1 x.2.2.2.1.2 x.2.2.2.2.1 x.2.2.2.2.2,12,fun _=>zj1 ..,by decide,fun a u hu=>Qk.1 (zj0 ..) u hu⟩
structure RowIn {α:Type} (E:Enc α) (T:TypeId) (B:Nat) (F:Nat->Prop) (Y:Wd) (q:OA) (c:Nat) (l:List α):Prop where
 own:OwnS E T B Y q c l
 inF:∀ a,q=some a->F a.block
section
variable {α:Type} {E:Enc α} {T:TypeId} {B:Nat} {F G:Nat->Prop} {Y Z:Wd} {q:OA} {c:Nat} {l:List α}
theorem zaI (h:OwnS E T B Y q c l) {a:Addr} (ha:q=some a):B<=a.block/\a.block<Y.heap.size/\∃ cur,Y.heap[a.block]?=some (.cells cur T (0,0)):=by
 rcases h.inv with ⟨h1,_⟩ | ⟨g,cur,h1,h2,h3,_⟩
 ·rw [h1] at ha;cases ha
 ·rw [h1] at ha;cases ha;exact⟨h2,hlt h3,cur,h3⟩
theorem RowIn.same (h:RowIn E T B F Y q c l) (hs:∀ k,F k->k<Y.heap.size->Z.heap[k]?=Y.heap[k]?) (hG:∀ k,F k->G k):RowIn E T B G Z q c l :=
 ⟨h.own.same fun a ha=>hs _ (h.inF a ha) (zaI h.own ha).2.1,fun a ha=>hG _ (h.inF a ha)⟩
end
def PthIn (B:Nat) (F:Nat->Prop) (Y:Wd) (x:zdp):Prop:=RowIn evE 158 B F Y x.2.1.1 x.2.1.2 x.1.ev/\RowIn prE 326 B F Y x.2.2.1.1 x.2.2.1.2 x.1.data/\RowIn prE 326 B F Y x.2.2.2.1.1 x.2.2.2.1.2 x.1.ctrl/\RowIn prE 326 B F Y x.2.2.2.2.1 x.2.2.2.2.2 x.1.rmw
theorem PthIn.same {B:Nat} {F G:Nat->Prop} {Y Z:Wd} {x:zdp} (h:PthIn B F Y x) (hs:∀ k,F k->k<Y.heap.size->Z.heap[k]?=Y.heap[k]?) (hG:∀ k,F k->G k):PthIn B G Z x :=
 ⟨h.1.same hs hG,h.2.1.same hs hG,h.2.2.1.same hs hG,h.2.2.2.same hs hG⟩
theorem q7 {W A B:Wd} {r:Option Nat} (h:W.grownBy A r) (hb:Below W.heap.size A B):W.grownBy B r :=
 ⟨hb.os.trans h.os,hb.tape.trans h.tape,hb.output.trans h.output,UT h.size hb.size,fun k hk hne=>(hb.block k hk).trans (h.block k hk hne)⟩
theorem zqM {q:OA} {cap:Nat} {l:List InsD} {w:Wd} (hl:SlR qr w q l) (hG:GlobC w) (hn:l.length<=140737488351232) :
  CB 196 #[.slice q l.length cap] w (.bool (jy l 6)):=by
 refine zD 5 [.slice q l.length cap] Tryz.func196 ?_;refine cmo (zk0 (locs:=6) hl hG hn) ?_;rintro e X ⟨rfl,hb⟩;exact⟨rfl,hb⟩
def JPa (B n0 L:Nat) (W:Wd) (pre:List RunD) (F:Nat->Prop) (Y:Wd):Prop :=
 (n0<=Y.heap.size/\F L/\∀ k,F k->k<Y.heap.size)/\(∃ (xs:List zdp) (p:OA) (c:Nat),Y.heap[L]?=some (.cells [.slice p xs.length c].toArray 233 (0,0))/\RowIn jv 241 B F Y p c xs/\xs.map (·.1)=pre.map zck/\∀ x∈xs,PthIn n0 F Y x)/\Below B W Y
theorem JPa.iter {B n0 L:Nat} {W:Wd} (hB:B<=n0) (hn:n0=W.heap.size):JG n0 (fun _=>False) (JPa B n0 L W):=by
 refine⟨?_,?_⟩
 ·rintro pre F A C ⟨⟨h1,h2,h3⟩,⟨xs,p,c,h4,h5,h6,h7⟩,h8⟩ hs;have sf:∀ k,F k->k<A.heap.size->C.heap[k]?=A.heap[k]?:=fun k hk hl=>hs.same k hl (.inr hk);refine⟨⟨UT h1 hs.size,h2,fun k hk=>nL (h3 k hk) hs.size⟩,⟨xs,p,c,(sf L h2 (h3 L h2)).trans h4,h5.same sf fun k h=>h,h6,fun x hx=>(h7 x hx).same sf fun k h=>h⟩,h8.trans ⟨hs.os,hs.tape,hs.output,hs.size,fun k hk=>hs.same k (by omega) (.inl ⟨by omega,fun h=>h⟩)⟩⟩
 ·rintro pre F A k ⟨⟨_,_,h3⟩,_⟩ hk;exact⟨h3 k hk,fun h=>h⟩
def PthO (B:Nat) (Y:Wd) (x:zdp):Prop:=OwnS evE 158 B Y x.2.1.1 x.2.1.2 x.1.ev/\OwnS prE 326 B Y x.2.2.1.1 x.2.2.1.2 x.1.data/\OwnS prE 326 B Y x.2.2.2.1.1 x.2.2.2.1.2 x.1.ctrl/\OwnS prE 326 B Y x.2.2.2.2.1 x.2.2.2.2.2 x.1.rmw
theorem PthO.mono {B B':Nat} {Y:Wd} {x:zdp} (h:PthO B Y x) (hB:B'<=B):PthO B' Y x:=⟨OwnS.lower h.1 hB,OwnS.lower h.2.1 hB,OwnS.lower h.2.2.1 hB,OwnS.lower h.2.2.2 hB⟩
section
variable {l:List InsD} {vals:List UInt8} {q p:OA} {cap cd:Nat} {w:Wd}
theorem zsh (hl:SlR qr w q l) (hp:SlR zO w p vals) (hv1:1<=vals.length) (hv12:vals.length<=12) (hvs:zdV vals=true) (hx:∀ x∈l,zdI x) (hok:jy l 6=true) (hG:GlobE w) (hR:∀ R∈zaf l (ded vals),R.many<=24/\ztY R) (hm:(zaf l (ded vals)).length<=4096) (hqb:∀ a,q=some a->a.block<w.heap.size) (hdl:(ded vals).length<=12) :
  Calls PG 138 #[.slice q l.length cap,.slice p vals.length cd,i64 4096] w fun e w'=>(∃ (xs:List zdp) (p':OA) (c':Nat),e = .returned (.tuple #[.slice p' xs.length c',i64 0])/\xs.map (·.1)=(zaf l (ded vals)).map zck/\OwnS jv 241 w.heap.size w' p' c' xs/\∀ x∈xs,PthO w.heap.size w' x)/\Bw w w':=by
 have h12:l.length<=12:=by
  unfold jy at hok;rw [bAT,dE] at hok;exact hok.1
 refine z6 45 [.slice q l.length cap,.slice p vals.length cd,i64 4096] (.c .p (.s .p (.c .p (.c .p (.c .p (.c .p .p)))))) Tryz.func138 ?_;obtain⟨L,hL⟩:=nm (w.heap.size);refine⟨Unit,fun _=>⟨[(0,.slice q l.length cap),(1,.slice p vals.length cd),(5,AtR L),(6,AtR (L+1)),(7,AtR (L+2))],[]⟩,fun _ X=>X.heap[L]?=some (.cells #[i64 4096] 3 (0,0))/\X.heap[L+1]?=some (.cells #[.slice none 0 0] 233 (0,0))/\X.heap[L+2]?=some (.cells #[i64 0] 42 (0,0))/\X.heap.size=L+3/\Bw w X,?_,?_⟩
 ·have s1:=wz w (.cells #[i64 4096] 3);have h2:=zA (w.alloc (.cells #[i64 4096] 3)) (.cells #[.slice none 0 0] 233);have s2:=wz (w.alloc (.cells #[i64 4096] 3)) (.cells #[.slice none 0 0] 233);have h3:=zA ((w.alloc (.cells #[i64 4096] 3)).alloc (.cells #[.slice none 0 0] 233)) (.cells #[i64 0] 42);have s3:=wz ((w.alloc (.cells #[i64 4096] 3)).alloc (.cells #[.slice none 0 0] 233)) (.cells #[i64 0] 42);rw [s1] at h2 s2;rw [s2] at h3 s3;refine⟨(),⟨.cons rfl (.cons rfl (.cons (by rw [hL];rfl) (.cons (by rw [hL,<- s1];rfl) (.cons (by rw [hL,<- s2];rfl) .nil)))),rfl⟩,?_,?_,?_,?_,?_⟩
  ·rw [hL];exact qy _ (qy _ (zA w _))
  ·rw [hL];exact qy _ h2
  ·rw [hL];exact h3
  ·rw [hL];exact s3
  ·exact (((zba w _)).alloc (by simp) _).alloc (by simp;omega) _
 rintro _ X ⟨f0,f1,f2,sX,hbX⟩;refine⟨_,zc (za f0) (i:=0) rfl,brF ⟨_,zc (za f0) (i:=0) rfl,brF (cmo (zqM (hl.below hbX) (hG.c.below hbX) (by omega)) ?_)⟩⟩;rintro e Y ⟨rfl,hbY⟩;rw [hok];refine brF ?_;have hwY:=zst hbX hbY;have f0:=zb hbY f0;have f1:=zb hbY f1;have f2:=zb hbY f2;have sY:=hbY.size;obtain⟨D,hD⟩:=nm (ded vals);rw [<- hD] at hR hm hdl ⊢;refine⟨OA×Nat,fun s=>⟨[(0,.slice q l.length cap),(1,.slice s.1 D.length s.2),(5,AtR L),(6,AtR (L+1)),(7,AtR (L+2))],[]⟩,fun s Z=>OwnS zO 5 (L+3) Z s.1 s.2 D/\Bw Y Z,?_,?_⟩
 ·refine cmo (zec (hp.below hwY) hv1 hv12 hvs) ?_;rintro e Z ⟨⟨d,cc,rfl,ho⟩,hbZ⟩;rw [<- hD] at ho;exact⟨(d,cc),⟨.cons rfl (.cons (by rw [hD];rfl) (.cons rfl (.cons rfl (.cons rfl .nil)))),rfl⟩,OwnS.lower ho (by omega),hbZ⟩
 rintro⟨d,cc⟩ Z ⟨oD,hbZ⟩;dsimp only at oD ⊢;have hwZ:=zst hwY hbZ;have f0:=zb hbZ f0;have f1:=zb hbZ f1;have f2:=zb hbZ f2;have sZ:=hbZ.size;obtain⟨N,hN⟩:=nm (Z.heap.size);refine⟨Unit,fun _=>⟨[(0,.slice q l.length cap),(1,.slice d D.length cc),(5,AtR L),(6,AtR (L+1)),(7,AtR (L+2)),(8,AtR N)],[]⟩,fun _ V=>V.heap[N]?=some (.cells [i64 0].toArray 3 (0,0))/\V.heap.size=N+1/\Bw Z V,?_,?_⟩
 ·exact zk (X:=Z) (v:=i64 0) k3 rfl rfl rfl fun V hbV fV sV=>⟨(),⟨.cons rfl (.cons rfl (.cons rfl (.cons rfl (.cons rfl (.cons (by rw [hN];rfl) .nil))))),rfl⟩,by rw [hN];exact fV,by rw [hN];exact sV,hbV⟩
 rintro _ V ⟨fN,sV,hbV⟩;have hwV:=zst hwZ hbV;have f0:=zb hbV f0;have f1:=zb hbV f1;have f2:=zb hbV f2;have dlt:∀ a,d=some a->a.block<N:=fun a ha=>by rw [hN];exact (zaI oD ha).2.1
 have oD:=oD.below hbV;have hNZ:w.heap.size<=N:=by rw [hN];exact hwZ.size
 have hNL:L+3<=N:=by omega
 obtain⟨xs0,hxs0⟩:=nm (zaf l D);rw [<- hxs0] at hR hm ⊢;refine⟨Nat,fun D1=>⟨[(0,.slice q l.length cap),(1,.slice d D.length cc),(5,AtR L),(6,AtR (L+1)),(7,AtR (L+2)),(8,AtR N)],[{ target := .collected D1,args := #[] }]⟩,fun D1 U=>U.heap[N]?=some (.cells #[i64 xs0.length] 3 (0,0))/\U.heap[D1]?=some (.deferred (some []))/\N<D1/\V.grownBy U (some N),?_,?_⟩
 ·refine cmo zji ?_;rintro e W ⟨rfl,fi,fd,sW,hbW⟩;have hwW:=zst hwV hbW;have fNW:=zb hbW fN;have f0W:=zb hbW f0;have qlt:∀ a,q=some a->a.block<w.heap.size:=hqb;have hI:=zlV (q:=q) (p:=d) (hl.below hwW) (oD.below hbW).row fi fd (fun a ha=>by have:=qlt a ha;have:=hwW.size;omega) (fun a ha=>by have:=dlt a ha;omega) h12 hx (by omega);rw [<- hxs0] at hI;refine zc4 (zbi _) rfl (lb := #[AtR V.heap.size,AtR (V.heap.size+1)]) rfl rfl hI (Gc _) (fun k hk=>⟨?_,rfl⟩) (fun pre vs W ⟨R,b,_,h,_⟩=>by rw [h];rfl) (by decide)
   (fun k=>k=N) (fun pre F Y=>F=(fun k=>k=N)/\W.heap.size<=Y.heap.size/\Y.heap[N]?=some (.cells [i64 pre.length].toArray 3 (0,0))/\W.grownBy Y (some N)) (fun _ _ _ _=>False) (fun k hk=>?_)
   (joG (F:=fun k=>k=N) (J:=fun (pre:List RunD) Y=>W.heap.size<=Y.heap.size/\Y.heap[N]?=some (.cells [i64 pre.length].toArray 3 (0,0))/\W.grownBy Y (some N)) (fun k h=>by omega) (fun s A h=>h.1) (fun pre A B ⟨h1,h2,h3⟩ hb=>⟨UT h1 hb.size,zac hb (by omega) h2,q7 h3 hb⟩))
   (fun ex=>⟨fun _ _ _ _ h=>h.elim,fun _ _ _ _ h=>h.elim⟩) ⟨rfl,Gc _,fNW,jF _ _⟩ ?_ ?_ ?_
  ·rcases hk with ((rfl | rfl) | ⟨a,ha,rfl⟩ | ⟨a,ha,rfl⟩) | h
   ·omega
   ·omega
   ·have:=qlt a ha;have:=hwW.size;omega
   ·have:=dlt a ha;omega
   ·exact h.elim
  ·rcases hk with (rfl | rfl) | ⟨a,ha,rfl⟩ | ⟨a,ha,rfl⟩
   ·omega
   ·omega
   ·have:=qlt a ha;omega
   ·have:=dlt a ha;omega
  ·rintro yl pre x vs F Y hyl hpre hJ ⟨R',b',_,rfl,_⟩ hfy hlo;refine⟨rfl,F,KeepsG.refl _ _,hJ,?_⟩;rintro o Y2 hY2 ⟨rfl,h1,h2,h3⟩;have hpl:pre.length<xs0.length:=by
    obtain⟨t,ht⟩:=hpre;rw [<- ht];simp only [lap,Qt];omega
   have g0:Y2.heap[L]?=some (.cells #[i64 4096] 3 (0,0)):=(h3.block L (hlt f0W) (by simp;omega)).trans f0W;refine⟨_,zc (za h2) (i:=0) rfl,_,zc (za g0) (i:=0) rfl,brN (Uj (by omega)) ⟨_,zc (za h2) (i:=0) rfl,((pre.length+1:Nat):Int),(zi (by omega)).trans (by omega),zu k3 h2 (o:=0) (v:=i64 (pre.length+1:Nat)) rfl rfl (by show 0<1;decide) rfl fun Z fZ gZ sZ=>⟨_,⟨rfl,by omega,?_,zg h3 gZ⟩,KeepsG.grown (F:=fun k=>k=N) gZ rfl⟩⟩⟩;rw [lap];exact fZ
  ·rintro D1 F Y hD hfD ⟨rfl,h1,h2,h3⟩ hdef;refine⟨D1,(cvE rfl rfl),h2,hdef,by omega,?_⟩;exact zg (zh hbW) h3
  ·rintro D ex pre F Y hD hfD hpre h;exact h.elim
 clear fN sV;rintro D1 U ⟨fN,fD1,hND,gU⟩;have old:∀ {k:Nat} {o:Obj},k≠N->V.heap[k]?=some o->U.heap[k]?=some o:=fun {k o} hne h=>(gU.block k (hlt h) (by simpa using hne)).trans h;have sU:=gU.size;have hNV:=hbV.size;have f1:=old (by omega) f1;have f2:=old (by omega) f2;have oD:OwnS zO 5 (L+3) U d cc D:=oD.kept gU fun g hg e=>by
  have:g<N:=dlt _ hg;simp only [KZ] at e;omega
 have hwU:Bw w U:=hwV.trans ⟨gU.os,gU.tape,gU.output,gU.size,fun k hk=>gU.block k (by have:=hwV.size;omega) (by simp;omega)⟩;clear f0 old gU hbV hwV;obtain⟨M,hM⟩:=nm (U.heap.size);have hDU:=hlt fD1;refine⟨OA×Nat,fun s=>⟨[(0,.slice q l.length cap),(1,.slice d D.length cc),(6,AtR (L+1)),(7,AtR (L+2)),(9,AtR (M+1))],[{ target := .collected D1,args := #[] }]⟩,fun s Z=>Z.heap[M+1]?=some (.cells [.slice s.1 0 s.2].toArray 233 (0,0))/\OwnS jv 241 M Z s.1 s.2 []/\(∀ a,s.1=some a->a.block=M)/\Z.heap.size=M+2/\Bw U Z,?_,?_⟩
 ·refine⟨_,zc (za fN) (i:=0) rfl,zda (E:=jv) Tryz.underlying233 znZ rfl rfl rfl xs0.length (by show 104*_<=_;omega) (by unfold maxLen;omega) fun Z oZ hbZ' sZ'=>zk (X:=Z) (v := .slice (some ⟨U.heap.size,0,none⟩) 0 xs0.length) zrr rfl rfl rfl fun Z2 hbZ2 fZ2 sZ2=>?_⟩;rw [<- hM] at oZ sZ';rw [sZ'] at fZ2 sZ2;refine⟨(some ⟨M,0,none⟩,xs0.length),⟨.cons rfl (.cons rfl (.cons rfl (.cons rfl (.cons (by rw [<- sZ'];rfl) .nil)))),rfl⟩,by rw [hM] at fZ2 ⊢;exact fZ2,oZ.below hbZ2,fun a ha=>by cases ha;rfl,sZ2,hbZ'.trans (hbZ2.mono hbZ'.size)⟩
 clear fN;rintro⟨p0,c0⟩ V ⟨fV,oV,p0M,sV,hbV⟩;dsimp only at fV oV p0M;have f1:=zb hbV f1;have f2:=zb hbV f2;have fD1:=zb hbV fD1;have oD:=oD.below hbV;have hwV:=zst hwU hbV;have hMU:w.heap.size<=M:=by rw [hM];exact hwU.size
 have dlt2:∀ a,d=some a->a.block<N:=dlt;refine cmo zji ?_;rintro e W ⟨rfl,fi,fd,sW,hbW⟩;have hwW:=zst hwV hbW;have hVM:Bw V W:=hbW;have hI:=zlV (q:=q) (p:=d) (hl.below hwW) (oD.below hbW).row fi fd (fun a ha=>by have:=hqb a ha;have:=hwW.size;omega) (fun a ha=>by have:=dlt a ha;omega) h12 hx (by omega);rw [<- hxs0] at hI;refine zc4 (zbi _) rfl (lb := #[AtR V.heap.size,AtR (V.heap.size+1)]) rfl rfl hI (Gc _) (fun k hk=>⟨?_,rfl⟩) (fun pre vs W ⟨R,b,_,h,_⟩=>by rw [h];rfl) (by decide)
  (fun k=>k=M+1\/k=M) (JPa M W.heap.size (M+1) W) (fun _ _ _ _=>False) (fun k hk=>?_)
  (JPa.iter (by omega) rfl) (fun ex=>⟨fun _ _ _ _ h=>h.elim,fun _ _ _ _ h=>h.elim⟩) ⟨⟨Gc _,.inl rfl,fun k hk=>by omega⟩,⟨[],p0,c0,zb hbW fV,⟨oV.below hbW,fun a ha => .inr (p0M a ha)⟩,rfl,fun x hx=>(by cases hx)⟩,Gh _ _⟩ ?_ ?_ ?_
 ·rcases hk with ((rfl | rfl) | ⟨a,ha,rfl⟩ | ⟨a,ha,rfl⟩) | h
  ·omega
  ·omega
  ·have:=hqb a ha;have:=hwW.size;omega
  ·have:=dlt a ha;omega
  ·exact h.elim
 ·rcases hk with (rfl | rfl) | ⟨a,ha,rfl⟩ | ⟨a,ha,rfl⟩
  ·omega
  ·omega
  ·have:=hqb a ha;omega
  ·have:=dlt a ha;omega
 ·rintro yl pre x vs F Y hyl hpre hJ ⟨R,b,hlast,rfl,fR⟩ hfy ⟨lo,hlo⟩;have hxR:x=R:=by simpa using hlast
  subst hxR;refine⟨rfl,F,KeepsG.refl _ _,hJ,?_⟩;rintro o Y2 hY2 ⟨⟨h1,h2,h3⟩,⟨xs,p,c,h4,h5,h6,h7⟩,h8⟩;have hbl:b≠yl:=fun e=>by
   rw [e] at fR;rw [fR] at hlo
   cases hlo
  have fR2:zau Y2 b x:=by rw [hY2];exact (zj hbl).trans fR
  have hmem:x∈xs0:=hpre.subset (by simp);obtain⟨r1,r2⟩:=hR x hmem;have hxl:xs.length=pre.length:=by
   have:=Gq List.length h6;rw [QQ,QQ] at this;exact this
  have hpl:pre.length<xs0.length:=by
   obtain⟨t,ht⟩:=hpre;rw [<- ht];simp only [lap,Qt];omega
  have hwY2:Bw w Y2:=hwW.trans (h8.mono hMU);have hd2:Bw Y2 Y2.drew:=(Gh _ _).drew;have hwY2d:Bw w Y2.drew:=zst hwY2 hd2;refine DrawE.ord [4,5] [0,1,2,3,4,5] (by kernel_rfl) ⟨_,zc (za (hdr h4)) (i:=0) rfl,cmo (zs7 (hdr fR2) r1 r2 (hG.t32.below hwY2d)) ?_⟩;rintro e Y3 ⟨⟨q1,k1,q2,k2,q3,k3,q4,k4,rfl,o1,o2,o3,o4⟩,hb3⟩;refine⟨hb3,?_⟩;obtain⟨nx,hnx⟩:∃ nx:zdp,nx=(zck x,(q1,k1),(q2,k2),(q3,k3),(q4,k4)):=⟨_,rfl⟩;have hen:zhL (zck x) q1 k1 q2 k2 q3 k3 q4 k4=jv.enc nx:=by rw [hnx];rfl
  rw [hen];refine⟨⟨by decide,by decide,rfl⟩,jv.enc nx,zbc (jv.len nx) rfl,?_⟩;have hba:Bw Y3 (Y3.alloc (.cells (jv.enc nx).toArray 241)):=zba _ _;have sa:(Y3.alloc (.cells (jv.enc nx).toArray 241)).heap.size=Y3.heap.size+1:=wz _ _;have s3:Y2.heap.size<=Y3.heap.size:=hb3.size;refine⟨hba,?_⟩;have hb2:Bw Y2 (Y3.alloc (.cells (jv.enc nx).toArray 241)):=(hd2.trans hb3).trans (hba.mono s3);refine ji (E:=jv) (T:=241) (B:=M) (l:=xs) (news:=[nx]) (cap:=c) (m:=1) Tryz.underlying233 znZ rfl rfl rfl (h5.own.below hb2) rfl (qF jv nx) (by omega) (by omega) (by show (xs.length+1)*104<=_;omega) ?_;intro p2 c2 Y5 o5 g5 hb5 hat;have h4':Y5.heap[M+1]?=some (.cells [.slice p xs.length c].toArray 233 (0,0)):=by
   refine (g5.block (M+1) (hlt (zb hb2 h4)) fun e=>?_).trans (zb hb2 h4)
   cases hp:p with
   | none=>rw [hp] at e;simp [Value.ownBlock] at e
   | some a =>
    rw [hp] at e;simp only [Value.ownBlock,KZ] at e;obtain⟨_,_,cur,hcur⟩:=zaI h5.own hp;rw [<- e] at hcur;rw [hcur] at h4;simp at h4
  refine zu zrr h4' (o:=0) (v := .slice p2 (xs++[nx]).length c2) rfl rfl (by show 0<1;decide) rfl fun Z fZ gZ sZ=>?_;have s5:=g5.size;have wr:∀ k,k<Y2.heap.size->k≠M+1->(∀ a,p=some a->k≠a.block)->Z.heap[k]?=Y2.heap[k]?:=fun k hk hne hnp=>by
   refine (gZ.block k (by omega) (by simpa using hne)).trans ((g5.block k (by omega) fun e=>?_).trans (hb2.block k hk))
   cases hp:p with
   | none=>rw [hp] at e;simp [Value.ownBlock] at e
   | some a =>
    rw [hp] at e;simp only [Value.ownBlock,KZ] at e;exact hnp a hp e
  have new:∀ k,Y2.heap.size<=k->k<Y3.heap.size->Z.heap[k]?=Y3.heap[k]?:=fun k hk1 hk2=>by
   refine (gZ.block k (by omega) (by simp;omega)).trans ((g5.block k (by omega) fun e=>?_).trans (hba.block k hk2))
   cases hp:p with
   | none=>rw [hp] at e;simp [Value.ownBlock] at e
   | some a =>
    rw [hp] at e;simp only [Value.ownBlock,KZ] at e;have:=h3 _ (h5.inF a hp);omega
  have tyne:∀ {α:Type} {E:Enc α} {T c:Nat} {r:OA} {B:Nat} {ll:List α},T≠241->T≠233->OwnS E T B Y2 r c ll->∀ a,r=some a->Z.heap[a.block]?=Y2.heap[a.block]?:=fun {α E T c r B ll} t1 t2 ho a ha=>by
   obtain⟨_,hl2,cur,hcur⟩:=zaI ho ha;refine wr _ hl2 (fun e=>?_) (fun a' ha' e=>?_)
   ·rw [e,h4] at hcur;simp at hcur;exact t2 hcur.2.symm
   ·obtain⟨_,_,cur',hcur'⟩:=zaI h5.own ha';rw [e,hcur'] at hcur;simp at hcur;exact t1 hcur.2.symm
  have inNew:∀ {α:Type} {E:Enc α} {T c:Nat} {r:OA} {ll:List α},OwnS E T Y2.drew.heap.size Y3 r c ll->RowIn E T W.heap.size (fun k=>F k\/(Y2.heap.size<=k/\k<Z.heap.size)) Z r c ll:=fun {α E T c r ll} ho=>by
   refine⟨OwnS.lower (ho.same fun a ha=>?_) h1,fun a ha=>?_⟩
   ·have:=zaI ho ha;exact new _ this.1 this.2.1
   ·have h:=zaI ho ha;have ha1:Y2.heap.size<=a.block:=h.1;exact .inr ⟨ha1,by have:=h.2.1;omega⟩
  refine⟨fun k=>F k\/(Y2.heap.size<=k/\k<Z.heap.size),⟨⟨by omega,.inl h2,fun k hk=>?_⟩,⟨xs++[nx],p2,c2,fZ,⟨o5.kept gZ fun g hg e=>?_,fun a ha=>?_⟩,?_,fun y hy=>?_⟩,?_⟩,⟨gZ.os.trans (g5.os.trans hb2.os),gZ.tape.trans (g5.tape.trans hb2.tape),gZ.output.trans (g5.output.trans hb2.output),by omega,fun k hk hf=>wr k hk (fun e=>hf (by rw [e];exact h2)) (fun a ha e=>hf (by rw [e];exact h5.inF a ha)),fun k hk=>hk.imp id fun h=>h.1⟩⟩
  ·rcases hk with hk | hk
   ·have:=h3 k hk;omega
   ·exact hk.2
  ·have:=zaI o5 hg;obtain⟨_,_,cur,hcur⟩:=this;simp only [KZ] at e;have hcur:Y5.heap[g]?=_:=hcur;rw [<- e,h4'] at hcur;simp at hcur
  ·rcases hat a ha with h | h
   ·exact .inl (h5.inF a h)
   ·have:=(zaI o5 ha).2.1;exact .inr ⟨by omega,by omega⟩
  ·rw [QT,h6,QT,hnx];rfl
  ·rcases QU.1 hy with hy | hy
   ·have h:=h7 y hy;have st:∀ {α:Type} {E:Enc α} {T c:Nat} {r:OA} {ll:List α},T≠241->T≠233->RowIn E T W.heap.size F Y2 r c ll->RowIn E T W.heap.size (fun k=>F k\/(Y2.heap.size<=k/\k<Z.heap.size)) Z r c ll:=fun {α E T c r ll} t1 t2 hh=>⟨hh.own.same fun a ha=>tyne t1 t2 hh.own a ha,fun a ha => .inl (hh.inF a ha)⟩;exact⟨st (by decide) (by decide) h.1,st (by decide) (by decide) h.2.1,st (by decide) (by decide) h.2.2.1,st (by decide) (by decide) h.2.2.2⟩
   ·simp only [KA] at hy;subst hy;rw [hnx];exact⟨inNew o1,inNew o2,inNew o3,inNew o4⟩
  ·refine h8.trans ⟨gZ.os.trans (g5.os.trans hb2.os),gZ.tape.trans (g5.tape.trans hb2.tape),gZ.output.trans (g5.output.trans hb2.output),by omega,fun k hk=>wr k (by omega) (by omega) fun a ha=>?_⟩;have:=(zaI h5.own ha).1;omega
 ·rintro D2 F Y hD hfD ⟨⟨h1,h2,h3⟩,⟨xs,p,c,h4,h5,h6,h7⟩,h8⟩ hdef;have g1:Y.heap[L+1]?=some (.cells #[.slice none 0 0] 233 (0,0)):=(h8.block (L+1) (by omega)).trans (zb hbW f1);have g2:Y.heap[L+2]?=some (.cells #[i64 0] 42 (0,0)):=(h8.block (L+2) (by omega)).trans (zb hbW f2);have gD:Y.heap[D1]?=some (.deferred (some [])):=(h8.block D1 (by omega)).trans (zb hbW fD1);refine⟨_,zc (za h4) (i:=0) rfl,zu zrr g1 (o:=0) (v := .slice p xs.length c) rfl rfl (by show 0<1;decide) rfl fun Z1 fZ1 gZ1 sZ1=>?_⟩;have g2':=(gZ1.block (L+2) (hlt g2) (by simp)).trans g2;refine zu k42 g2' (o:=0) (v:=i64 0) rfl rfl (by show 0<1;decide) rfl fun Z2 fZ2 gZ2 sZ2=>?_;have hYs:M<Y.heap.size:=by omega
  have k2:∀ k,k<Y.heap.size->k≠L+1->k≠L+2->Z2.heap[k]?=Y.heap[k]?:=fun k hk n1 n2=>(gZ2.block k (by rw [sZ1];exact hk) (by simpa using n2)).trans (gZ1.block k hk (by simpa using n1));have hdef2:=(k2 D2 (hlt hdef) (by omega) (by omega)).trans hdef;have hD12:=(k2 D1 (hlt gD) (by omega) (by omega)).trans gD;have fZ1':=(gZ2.block (L+1) (hlt fZ1) (by simp)).trans fZ1;have neD:D1≠D2:=by omega
  refine⟨_,rfl,hdef2,_,rfl,(zj neD).trans hD12,?_⟩;obtain⟨Zf,hZf⟩:=nm ((Z2.putObj D2 (.deferred none)).putObj D1 (.deferred none));have kf:∀ k,k≠D1->k≠D2->Zf.heap[k]?=Z2.heap[k]?:=fun k n1 n2=>by rw [hZf];exact (zj n1).trans (zj n2)
  refine⟨.slice p xs.length c,?_,i64 0,?_,⟨xs,p,c,rfl,h6,?_,fun x hx=>?_⟩,?_⟩
  ·exact zc (za (by rw [<- hZf];exact (kf (L+1) (by omega) (by omega)).trans fZ1')) (i:=0) rfl
  ·exact zc (za (by rw [<- hZf];exact (kf (L+2) (by omega) (by omega)).trans fZ2)) (i:=0) rfl
  ·rw [<- hZf];refine OwnS.lower (h5.own.same fun a ha=>?_) hMU;have h:=zaI h5.own ha;have n1:a.block≠D2:=fun e=>by rw [<- e] at hfD;exact hfD (h5.inF a ha)
   exact (kf _ (by omega) n1).trans (k2 _ h.2.1 (by omega) (by omega))
  ·have h:=h7 x hx;have st:∀ {α:Type} {E:Enc α} {T c:Nat} {r:OA} {ll:List α},RowIn E T W.heap.size F Y r c ll->OwnS E T w.heap.size Zf r c ll:=fun {α E T c r ll} hh=>by
    refine OwnS.lower (hh.own.same fun a ha=>?_) hwW.size;have h:=zaI hh.own ha;have n1:a.block≠D2:=fun e=>by rw [<- e] at hfD;exact hfD (hh.inF a ha)
    exact (kf _ (by omega) n1).trans (k2 _ h.2.1 (by omega) (by omega))
   rw [<- hZf];exact⟨st h.1,st h.2.1,st h.2.2.1,st h.2.2.2⟩
  ·have hwY:Bw w Y:=hwW.trans (h8.mono hMU);have b1:=(hwY.trans (zm gZ1 hwY.size (by omega))).trans (zm gZ2 (by rw [sZ1];exact hwY.size) (by omega));exact qX (qX b1 (by omega) _) (by omega) _
 ·rintro D ex pre F Y hD hfD hpre h;exact h.elim
end
structure RelAt (X:Wd) (b o:Nat) (T:TypeId) (A Z:List Value) (r:RelD):Prop where
 at_:A.length=o
 cells:X.heap[b]?=some (.cells (A++(ze r++Z)).toArray T (0,0))
section
variable {X:Wd} {b o:Nat} {T:TypeId} {A Z:List Value} {r:RelD}
theorem RelAt.cell (h:RelAt X b o T A Z r) {i:Nat} (hi:i<48):X.cell? ⟨b,o+1+i*1,none⟩=some (s64 (r.to i)):=by
 have:(A++(ze r++Z))[o+1+i*1]?=some (s64 (r.to i)):=by
  rw [Gd,UH,q8 h.at_,Jp (by rw [zf];omega),zga r hi]
 have h2:=zc (za h.cells) this;rw [UX] at h2;exact h2
theorem RelAt.set (h:RelAt X b o T A Z r) {i:Nat} (hi:i<48) (v:Nat):(A++(ze r++Z)).set (o+1+i*1) (s64 v)=A++(ze ⟨r.n,upd r.to i v⟩++Z):=by
 rw [Gd,UH,jB h.at_,List.set_append_left _ _ (by rw [zf];omega),zex r hi]
theorem RelAt.len (h:RelAt X b o T A Z r):(A++(ze r++Z)).length=o+49+Z.length:=by
 rw [lap,lap,zf,h.at_];omega
theorem RelAt.same {Y:Wd} (h:RelAt X b o T A Z r) (hs:Y.heap[b]?=X.heap[b]?):RelAt Y b o T A Z r:=⟨h.at_,hs.trans h.cells⟩
def zpa (f:Nat) (ps:List (Nat×Nat)):Prop:=∀ p∈ps,f+p.1<48/\f+p.2<48
theorem zey {f:Nat}:∀ {ps:List (Nat×Nat)} {to:Nat->Nat},zI to->zpa f ps->zI (zjY f ps to)
 | [],_,h,_=>h
 | p::ps,to,h,hp=>by
  have h1:=hp p Kz;exact zey (ps:=ps) (zf4 h (KY (h _ h1.1) (zZ (by omega)))) fun q hq=>hp q (JW _ hq)
theorem zlb {n:Nat} (h:n<256):((UInt8.ofNat n).toNat:Int)=(n:Nat):=by
 have:(UInt8.ofNat n).toNat=n:=by simp;omega
 rw [this]
theorem zo9 {w:Wd} {q:OA} {cap f:Nat} {ps:List (Nat×Nat)} (hr:RelAt w b o T A Z r) (hw:zI r.to) (hl:SlR prE w q ps) (hqb:∀ a,q=some a->a.block≠b) (hn:ps.length<=100000) (hp:zpa f ps) :
  Calls PG 201 #[.pointer (some ⟨b,o,none⟩),.slice q ps.length cap,i64 f] w fun e w'=>e = .returned (.tuple #[])/\RelAt w' b o T A Z (zls f ps r)/\w.grownBy w' (some b):=by
 refine zD 35 [.pointer (some ⟨b,o,none⟩),.slice q ps.length cap,i64 f] Tryz.func201 ?_;have hbw:=hlt hr.cells;refine⟨Nat×(Nat->Nat),fun s=>⟨[(0,.pointer (some ⟨b,o,none⟩)),(1,.slice q ps.length cap),(2,i64 f),(8,.slice q ps.length cap),(9,i64 ps.length),(10,i64 (s.1:Nat))],[]⟩,
  fun s X=>s.1<=ps.length/\zI s.2/\zjY f (ps.drop s.1) s.2=zjY f ps r.to/\RelAt X b o T A Z ⟨r.n,s.2⟩/\w.grownBy X (some b),fun s=>ps.length-s.1,(0,r.to),
  (cvE rfl rfl),⟨Ge _,hw,rfl,hr,jF _ _⟩,?_⟩
 rintro⟨k,g⟩ X ⟨hk,hg,he,hX,gX⟩;dsimp only at hk hg he hX ⊢;have hXs:=gX.size;refine biE (fun hc=>?_) fun hc=>?_
 ·have hc:(k:Int)<(ps.length:Int):=dT hc;have hkl:k<ps.length:=by omega
  obtain⟨pr,hpr⟩:∃ pr,ps[k]=pr:=⟨_,rfl⟩;obtain⟨p1,p2⟩:=hp pr (by rw [<- hpr];exact gM hkl);rw [<- JD hkl,hpr] at he;have he:zjY f (ps.drop (k+1)) (upd g (f+pr.1) (g (f+pr.1)|||2^(f+pr.2)))=zjY f ps r.to:=he;obtain⟨bp,op,rfl,hlp,hat⟩:=hl.at hkl;have hbp:bp≠b:=hqb _ rfl;have hatX:zo X ⟨bp,op+k*2,none⟩ (prE.enc ps[k]):=zJ (gX.block bp hlp (by simpa using hbp)) (hat k hkl);refine⟨k,rfl,hkl,prE.enc pr,rfl,by rw [<- hpr];exact hatX,nL hlp hXs,?_⟩;refine zk (X:=X) (v := .agg (prE.enc pr).toArray) zu2 rfl rfl rfl fun Y hbY fY sY=>DrawE.ord [20] [0,1,2,3,4,5,6,7,8,9,10,11,12,13,14,15,16,17,18,19,20] (by kernel_rfl) ?_;have fY1:Y.heap[X.heap.size]?=some (.cells (prE.enc pr).toArray 326 (0,0)):=fY;have hrY:=hX.same (hbY.block b (nL hbw hXs));refine⟨0,rfl,by decide,?_⟩;refine⟨u8 (UInt8.ofNat pr.1),zc (za (hdr fY1)) (i:=0*1) rfl,((pr.1:Nat):Int),by rw [zlb (by omega)];exact zi (by omega),((f+pr.1:Nat):Int),(zi (by omega)).trans (by omega),f+pr.1,rfl,by omega,?_⟩;refine⟨s64 (g (f+pr.1)),(hrY.same (Y:=Y.drew) rfl).cell p1,1,rfl,by decide,?_⟩;refine⟨u8 (UInt8.ofNat pr.2),zc (za (hdr fY1)) (i:=1*1) rfl,((pr.2:Nat):Int),by rw [zlb (by omega)];exact zi (by omega),((f+pr.2:Nat):Int),(zi (by omega)).trans (by omega),by omega,_,jU (e:=f+pr.2) (by omega),_,zao (hg _ p1) (zZ (by omega)),f+pr.1,rfl,by omega,?_⟩;refine zu k27 (hrY.same (Y:=Y.drew) rfl).cells (o:=o+1+(f+pr.1)*1) (v:=s64 (g (f+pr.1)|||2^(f+pr.2))) rfl rfl (by rw [hrY.len];omega) rfl fun S fS gS sS=>?_;rw [hrY.set p1] at fS;exact nxI (by omega) ⟨(k+1,_),(cvE rfl rfl),⟨hkl,zf4 hg (KY (hg _ p1) (zZ (by omega))),he,⟨hr.at_,fS⟩,zg gX (zg (zh hbY) (zg (zh (Gh _ Y).drew) gS))⟩,zdc (by omega)⟩
 ·have hc:¬ (k:Int)<(ps.length:Int):=dF hc;obtain rfl:k=ps.length:=by omega
  rw [Qn] at he;have he:g=zjY f ps r.to:=he;subst he;exact⟨rfl,hX,gX⟩
end
def zv1 (pre:List Nat) (vs:List Value) (W:Wd):Prop:=∃ (a i:Nat),pre.getLast?=some a/\vs=[i64 i,i64 a]
theorem ztT {bx:Nat} {l:List Nat} {q:OA} {c:Nat} {W0:Wd} (fx:W0.heap[bx]?=some (.cells #[.slice q l.length c] 128 (0,0))) (hl:SlR zC W0 q l) (hql:∀ a,q=some a->a.block<W0.heap.size) (hn:l.length<=100000) :
  ziH PG 179 [At0 bx] l.reverse W0 (fun k=>k=bx\/∃ a,q=some a/\k=a.block) (fun _=>False) zv1:=by
 intro yl F0 J Jx W hsz hrd hrf hJ hJx hy h0;have fxW:=(hrd bx (.inl (.inl rfl))).trans fx;have hlW:SlR zC W q l:=qN hl fun a ha=>hrd _ (.inl (.inr ⟨a,ha,rfl⟩));have hbxW:=hlt fxW;refine zD 19 [.func (.yield yl) #[] #[],At0 bx] Tryz.func179 ?_;refine⟨_,zc (za fxW) (i:=0) rfl,((l.length:Nat):Int)-1,zi (by omega),?_⟩;refine⟨Nat×(Nat->Prop),fun s=>⟨[(0,.func (.yield yl) #[] #[]),(1,At0 bx),(3,i64 (((l.length:Nat):Int)-1-(s.1:Nat)))],[]⟩,
  fun s V=>s.1<=l.length/\J (l.reverse.take s.1) s.2 V/\W.heap.size<=V.heap.size/\V.heap[bx]?=some (.cells #[.slice q l.length c] 128 (0,0))/\¬ s.2 bx/\RowF zC W.heap.size s.2 V q l,fun s=>l.length-s.1,(0,F0),
  ⟨.cons rfl (.cons rfl (.cons (by show _=some (i64 (((l.length:Nat):Int)-1-((0:Nat):Int)));rw [Int.ofNat_zero,Int.sub_zero];rfl) .nil)),rfl⟩,⟨Ge _,h0,Gc _,fxW,hrf _ (.inl rfl),⟨hlW,fun a ha=>⟨by have:=hql a ha;omega,hrf _ (.inr ⟨a,ha,rfl⟩)⟩⟩⟩,?_⟩
 rintro⟨t,F⟩ V ⟨ht,hjV,hWV,fxV,hbF,hqV⟩;dsimp only at ht hjV hbF hqV ⊢;refine biE (fun hi=>?_) fun hi=>?_
 ·have hi:(0:Int)<=((l.length:Nat):Int)-1-(t:Nat):=dT hi;obtain⟨i,hit⟩:∃ i,i+t+1=l.length:=⟨l.length-1-t,by omega⟩;have hii:((l.length:Nat):Int)-1-(t:Nat)=(i:Nat):=by omega
  rw [hii];have hil:i<l.length:=by omega
  have hrt:l.reverse[t]?=some l[i]:=by
   rw [JK (by omega),show l.length-1-t=i by omega,gE hil]
  have htl:t<l.reverse.length:=by rw [Ki];omega
  have hre:l.reverse[t]=l[i]:=by rw [gE htl] at hrt;exact Ug hrt
  have htk:l.reverse.take (t+1)=l.reverse.take t++[l[i]]:=by rw [tsg htl,hre]
  refine⟨_,zc (za fxV) (i:=0) rfl,?_⟩;obtain⟨bq,oq,hqe,hlq,hatq⟩:=hqV.row.at hil;subst hqe;refine⟨i,rfl,hil,i64 l[i],zc (hatq i hil) (i:=0) rfl,YieldR.mono (hy _ l[i] [i64 (i:Nat),i64 l[i]] F V hjV ⟨l[i],i,by simp,rfl⟩ (by rw [<- htk];exact List.take_prefix _ _)) ?_⟩;rintro v Y (⟨rfl,F',hjY,kY⟩ | ⟨rfl,F',hjY⟩)
  ·refine brF ?_;have hbF':¬ F' bx:=fun h=>by
    rcases kY.fp bx h with h | h
    ·exact hbF h
    ·have:=hlt fxV;omega
   exact⟨((l.length:Nat):Int)-1-((t+1:Nat):Int),(zi (by omega)).trans (by omega),(t+1,F'),(cvE rfl rfl),⟨by omega,by rw [htk];exact hjY,UT hWV kY.size,(kY.same bx (hlt fxV) hbF).trans fxV,hbF',hqV.keep hWV kY (fun _ _ h=>h)⟩,zdc (by omega)⟩
  ·exact brT ⟨⟨_,rfl⟩,.inr ⟨_,F',by rw [<- htk];exact List.take_prefix _ _,hjY⟩⟩
 ·have hi:¬ (0:Int)<=((l.length:Nat):Int)-1-(t:Nat):=dF hi;have hte:t=l.length:=by omega
  subst hte;rw [JE (by rw [Ki];exact Gc _)] at hjV;exact⟨⟨_,rfl⟩,.inl ⟨F,hjV⟩⟩
theorem zr9 {q:OA} {n c:Nat} {w:Wd}:Calls PG 133 #[.slice q n c] w fun e w'=>e = .returned (.func (.func 179) #[] #[At0 w.heap.size])/\w'.heap[w.heap.size]?=some (.cells #[.slice q n c] 128 (0,0))/\w'.heap.size=w.heap.size+1/\Bw w w':=by
 refine zD 4 [.slice q n c] Tryz.func133 ?_;exact⟨rfl,zA w _,wz _ _,(zba w _)⟩
theorem zpk {q:OA} {n c:Nat} {w:Wd}:Calls PG 139 #[.slice q n c] w fun e w'=>e = .returned (.func (.func 198) #[] #[At0 w.heap.size])/\w'.heap[w.heap.size]?=some (.cells #[.slice q n c] 128 (0,0))/\w'.heap.size=w.heap.size+1/\Bw w w':=by
 refine zD 4 [.slice q n c] Tryz.func139 ?_;exact⟨rfl,zA w _,wz _ _,(zba w _)⟩
def zfY (p:(Nat->Nat)×Nat) (a:Nat):(Nat->Nat)×Nat:=(upd p.1 a p.2,p.2|||2^a)
theorem zd1:∀ (l:List Nat) (f:Nat->Nat) (b:Nat),zmS l f b=(l.foldl zfY (f,b)).1
 | [],_,_=>rfl
 | a::l,f,b=>zd1 l (upd f a b) (b|||2^a)
theorem zjd:∀ {l:List Nat} {f:Nat->Nat} {b:Nat},zI f->b<2^64->(∀ a∈l,a<48)->zI (l.foldl zfY (f,b)).1/\(l.foldl zfY (f,b)).2<2^64
 | [],_,_,h,hb,_=>⟨h,hb⟩
 | a::l,f,b,h,hb,hl=>zjd (l:=l) (zf4 h hb) (KY hb (zZ (by have:=hl a Kz;omega))) fun x hx=>hl x (JW _ hx)
theorem zit {l:List Nat} {r:RelD} (h:zI r.to) (hl:∀ a∈l,a<48):zI (za6 l r).to:=by
 show zI (zmS l.reverse r.to 0);rw [zd1];exact (zjd h (by decide) fun a ha=>hl a (by simpa using ha)).1
section
variable {b o:Nat} {T:TypeId} {A Z:List Value} {r:RelD} {w:Wd} {q:OA} {c:Nat} {l:List Nat}
theorem zpx (hr:RelAt w b o T A Z r) (hw:zI r.to) (hl:SlR zC w q l) (hql:∀ a,q=some a->a.block<w.heap.size/\a.block≠b) (hn:l.length<=100000) (h48:∀ a∈l,a<48) :
  Calls PG 84 #[.pointer (some ⟨b,o,none⟩),.slice q l.length c] w fun e w'=>e = .returned (.tuple #[])/\RelAt w' b o T A Z (za6 l r)/\w.grownBy w' (some b):=by
 refine z6 21 [.pointer (some ⟨b,o,none⟩),.slice q l.length c] (.s .p (.c .p .p)) Tryz.func84 ?_;obtain⟨L,hL⟩:=nm (w.heap.size);refine⟨Unit,fun _=>⟨[(1,.slice q l.length c),(2,At0 L),(4,At0 (L+1))],[]⟩,fun _ X=>X.heap[L]?=some (.cells #[.pointer (some ⟨b,o,none⟩)] 82 (0,0))/\X.heap[L+1]?=some (.cells #[s64 0] 27 (0,0))/\X.heap.size=L+2/\Bw w X,?_,?_⟩
 ·have s1:=wz w (.cells #[.pointer (some ⟨b,o,none⟩)] 82 (0,0));have h2:=zA (w.alloc (.cells #[.pointer (some ⟨b,o,none⟩)] 82 (0,0))) (.cells #[s64 0] 27 (0,0));have s2:=wz (w.alloc (.cells #[.pointer (some ⟨b,o,none⟩)] 82 (0,0))) (.cells #[s64 0] 27 (0,0));rw [s1] at h2 s2;exact⟨(),⟨.cons rfl (.cons (by rw [hL];rfl) (.cons (by rw [hL,<- s1];rfl) .nil)),rfl⟩,by rw [hL];exact qy _ (zA w _),by rw [hL];exact h2,by rw [hL];exact s2,((zba w _)).alloc (by simp) _⟩
 rintro _ X ⟨f0,f1,sX,hbX⟩;have hbw:=hlt hr.cells;refine cmo zr9 ?_;rintro e W ⟨rfl,fx,sW,hbW⟩;have hwW:=zst hbX hbW;have hI:=ztT fx (hl.below hwW) (fun a ha=>by have:=(hql a ha).1;omega) hn;have f0:=zb hbW f0;have f1:=zb hbW f1;refine zc4 (zbi _) rfl (lb := #[At0 X.heap.size]) rfl rfl hI (Gc _) (fun k hk=>⟨?_,rfl⟩) (fun pre vs W ⟨a,i,_,h⟩=>by rw [h];rfl) (by decide)
  (fun k=>k=b\/k=L+1) (fun pre F Y=>F=(fun k=>k=b\/k=L+1)/\W.heap.size<=Y.heap.size/\RelAt Y b o T A Z ⟨r.n,(pre.foldl zfY (r.to,0)).1⟩/\Y.heap[L+1]?=some (.cells [s64 (pre.foldl zfY (r.to,0)).2].toArray 27 (0,0))/\Y.heap[L]?=some (.cells #[.pointer (some ⟨b,o,none⟩)] 82 (0,0))/\w.grownBy Y (some b)) (fun _ _ _ _=>False) (fun k hk=>?_)
  (joG (F:=fun k=>k=b\/k=L+1) (J:=fun (pre:List Nat) Y=>W.heap.size<=Y.heap.size/\RelAt Y b o T A Z ⟨r.n,(pre.foldl zfY (r.to,0)).1⟩/\Y.heap[L+1]?=some (.cells [s64 (pre.foldl zfY (r.to,0)).2].toArray 27 (0,0))/\Y.heap[L]?=some (.cells #[.pointer (some ⟨b,o,none⟩)] 82 (0,0))/\w.grownBy Y (some b))
   (fun k h=>by omega) (fun s A h=>h.1) (fun pre A B ⟨h1,h2,h3,h4,h5⟩ hb=>⟨UT h1 hb.size,h2.same (hb.block _ (by omega)),zac hb (by omega) h3,zac hb (by omega) h4,q7 h5 (hb.mono hwW.size)⟩))
  (fun ex=>⟨fun _ _ _ _ h=>h.elim,fun _ _ _ _ h=>h.elim⟩) ⟨rfl,Gc _,hr.same (hwW.block _ hbw),f1,f0,zh hwW⟩ ?_ ?_ ?_
 ·rcases hk with (rfl | ⟨a,ha,rfl⟩) | h
  ·omega
  ·have:=(hql a ha).1;have:=hwW.size;omega
  ·exact h.elim
 ·rcases hk with rfl | ⟨a,ha,rfl⟩
  ·omega
  ·have:=hql a ha;omega
 ·rintro yl pre x vs F Y hyl hpre hJ ⟨a,i,hlast,rfl⟩ hfy hlo;have hxa:x=a:=by simpa using hlast
  subst hxa;refine⟨rfl,F,KeepsG.refl _ _,hJ,?_⟩;rintro O Y2 hY2 ⟨rfl,h1,h2,h3,h4,h5⟩;obtain⟨g1,g2⟩:=zjd (l:=pre) (f:=r.to) (b:=0) hw (by decide) (fun a ha=>h48 a (by have:=hpre.subset (List.mem_append_left _ ha);simpa using this));have hx48:x<48:=h48 x (by have:=hpre.subset (JO _ (KA.2 rfl));simpa using this);have hfold:(pre++[x]).foldl zfY (r.to,0)=zfY (pre.foldl zfY (r.to,0)) x:=by rw [KT];rfl
  obtain⟨P,hP⟩:=nm (pre.foldl zfY (r.to,0));rw [<- hP] at h2 h3 g1 g2 hfold;refine DrawE.ord [6] [0,1,2,3,4,5,6] (by kernel_rfl) ⟨_,zc (za (hdr h4)) (i:=0) rfl,_,zc (za (hdr h3)) (i:=0) rfl,x,rfl,hx48,zu k27 (h2.same (Y:=Y2.drew) rfl).cells (o:=o+1+x*1) (v:=s64 P.2) rfl rfl (by rw [h2.len];omega) rfl fun S fS gS sS=>?_⟩;rw [h2.set hx48] at fS;have gS2:Y2.grownBy S (some b):=zg (zh (Gh _ Y2).drew) gS;have h3S:=(gS2.block (L+1) (hlt h3) (by simp;omega)).trans h3;refine DrawE.ord [4] [0,1,2,3,4] (by kernel_rfl) ⟨_,zc (za (hdr h3S)) (i:=0) rfl,by omega,_,jU (e:=x) (by omega),_,zao g2 (zZ (by omega)),zu k27 (hdr h3S) (o:=0) (v:=s64 (P.2|||2^x)) rfl rfl (by show 0<1;decide) rfl fun V fV gV sV=>?_⟩;have gV2:S.grownBy V (some (L+1)):=zg (zh (Gh _ S).drew) gV;have hLw:L=w.heap.size:=hL;refine⟨fun k=>k=b\/k=L+1,⟨rfl,?_,⟨hr.at_,?_⟩,by rw [hfold];exact fV,?_,?_⟩,(KeepsG.grown gS2 (.inl rfl)).trans (KeepsG.grown gV2 (.inr rfl))⟩
  ·have:=gS2.size;have:=gV2.size;omega
  ·rw [hfold];exact (gV2.block b (hlt fS) (by simp;omega)).trans fS
  ·exact (gV2.block L (nL (hlt h4) gS2.size) (by simp)).trans ((gS2.block L (hlt h4) (by simp;omega)).trans h4)
  ·exact⟨gV2.os.trans (gS2.os.trans h5.os),gV2.tape.trans (gS2.tape.trans h5.tape),gV2.output.trans (gS2.output.trans h5.output),by have:=gS2.size;have:=gV2.size;have:=h5.size;omega,fun k hk hne=>(gV2.block k (by have:=gS2.size;have:=h5.size;omega) (by simp;omega)).trans ((gS2.block k (by have:=h5.size;omega) hne).trans (h5.block k hk hne))⟩
 ·rintro D F Y hD hfD ⟨rfl,h1,h2,h3,h4,h5⟩ hdef;refine⟨_,rfl,hdef,?_⟩;have hDb:b≠D:=by have:=hwW.size;omega
  refine⟨rfl,⟨hr.at_,?_⟩,?_⟩
  ·rw [show za6 l r=⟨r.n,(l.reverse.foldl zfY (r.to,0)).1⟩ by unfold za6;rw [zd1]];exact (zj hDb).trans h2.cells
  ·exact⟨h5.os,h5.tape,h5.output,by have:=h5.size;simpa [World.putObj] using this,fun k hk hne=>(zj (by have:=hwW.size;omega)).trans (h5.block k hk hne)⟩
 ·rintro D ex pre F Y hD hfD hpre h;exact h.elim
end
theorem zi0 {P:Program} {iT:TI} {T B g cap i v:Nat} {l:List Nat} {w:Wd} (hT:TIok P T iT) (hs:iT.size=1) (h:OwnS zC T B w (some ⟨g,0,none⟩) cap l) (hi:i<l.length) {K:Wd->Prop}
  (k:∀ w',OwnS zC T B w' (some ⟨g,0,none⟩) cap (l.set i v)->w.grownBy w' (some g)->K w'):SatR ((storeVar T ⟨g,0+i*1,none⟩ (i64 v)).run P w) fun _ w'=>K w':=by
 rcases h.inv with ⟨h,_⟩ | ⟨g',cur,hg,hB,hc,hl,hm,hs2,ht⟩
 ·cases h
 ·simp only [KZ,Uv,Gp] at hg;subst hg;have e:cur=cur.toList.toArray:=rfl;have hsz:cur.toList.length=cap:=by
   have:cur.toList.length=cur.size:=rfl;rw [this,hs2];exact Gd _
  refine zu hT (cs:=cur.toList) (by rw [<- e];exact hc) (o:=0+i*1) (v:=i64 v) rfl hs (by omega) rfl fun w' fw gw sw=>k w' ?_ gw;unfold OwnS World.ownsRow;have ht:cur.toList.take (l.length*1)=l.flatMap zC.enc:=ht;refine⟨by rw [qC],.inr ⟨g,cap,_,rfl,hB,fw,by rw [QS];exact hl,hm,?_,?_⟩⟩
  ·show (cur.toList.set (0+i*1) (i64 v)).length=_;rw [QS];exact hs2
  ·show (cur.toList.set (0+i*1) (i64 v)).take ((l.set i v).length*1)=_;rw [Gd,UX,Gd,QS,List.take_set,<- Gd l.length,ht,zeG,zeG];unfold ziT;rw [UN]
theorem zrE {before:Nat->Nat}:∀ (m left:Nat) (l:List Nat),∀ x∈zco before m left l,∀ a∈x,a∈l\/a∈els left:=by
 intro m
 induction m with
 | zero =>
  intro left l x hx a ha;unfold zco at hx
  split at hx
  ·rw [KA.1 hx] at ha;exact .inl ha
  ·cases hx
 | succ m ih =>
  intro left l x hx a ha;unfold zco at hx
  split at hx
  ·rw [KA.1 hx] at ha;exact .inl ha
  ·obtain⟨b,hb,hx⟩:=List.mem_flatMap.1 hx
   split at hx
   ·rcases ih _ _ x hx a ha with h | h
    ·rcases QU.1 h with h | h
     ·exact .inl h
     ·rw [KA.1 h];exact .inr hb
    ·refine .inr ?_;unfold els at h ⊢;rw [QV] at h ⊢;refine⟨h.1,?_⟩;have h2:=h.2;unfold za7 at h2;rw [Ud,bAT] at h2;exact h2.1
   ·cases hx
theorem zq7 {r:RelD} {n:Nat} (hr:r.n=n) (hn:n<=64) {x:List Nat} (h:x∈zcX r) {a:Nat} (ha:a∈x):a<n:=by
 unfold zcX at h
 split at h
 ·rcases zrE _ _ _ x h a ha with h | h
  ·cases h
  ·rw [ze5,hr,zjj hn] at h;exact Uq.1 h
 ·cases h
abbrev crs (n:Nat):RelD:=zee n 1 (za7 (zax n) 1)
theorem ztL:∀ n,n<=48->okR (crs n)=true:=by
 intro n hn;have h:(List.range 49).all (fun n=>okR (crs n))=true:=by kernel_rfl
 rw [Qk] at h;exact h n (Uq.2 (by omega))
theorem zsd (n:Int):zax n<2^64:=jY n
theorem zrR (n:Nat):zI (crs n).to:=fun i _=>by
 show (if i<n then (if Nat.testBit 1 i then za7 (zax n) 1&&&zax n else 0) else 0)<2^64
 split
 ·split
  ·exact KE Nat.and_le_right (zsd n)
  ·decide
 ·decide
def zbB (ws:List Nat) (o:List Nat):List Nat:=o.map fun k=>ws.getD k 0
theorem zq3 {ws o:List Nat} {i:Nat} (hi:i<o.length) (h:i<(zbB ws (o.take i)++o.drop i).length):(zbB ws (o.take i)++o.drop i)[i]=o[i]:=by
 have hl:(zbB ws (o.take i)).length=i:=by unfold zbB;rw [QQ,Qv,Uc (by omega)]
 have h2:(zbB ws (o.take i)++o.drop i)[i]?=o[i]?:=by
  rw [Jl (by omega),hl,UV,Kw,UQ]
 rw [gE h,gE hi] at h2;exact Ug h2
theorem zo4 {ws o:List Nat} {i:Nat} (hi:i<o.length) (ho:o[i]<ws.length):(zbB ws (o.take i)++o.drop i).set i ws[o[i]]=zbB ws (o.take (i+1))++o.drop (i+1):=by
 have hl:(zbB ws (o.take i)).length=i:=by unfold zbB;rw [QQ,Qv,Uc (by omega)]
 rw [JP _ _ (by omega),hl,UV,<- JD hi,List.set_cons_zero,tsg hi];unfold zbB;rw [QT,KO,UE,UM,gDe,gE ho];rfl
section
variable {q:OA} {c:Nat} {ws:List Nat} {w:Wd}
theorem zpi (hl:SlR zC w q ws) (hn:ws.length<=48) (hT:Tz64M w) :
  Calls PG 142 #[.slice q ws.length c] w fun e w'=>(∃ (xs:List (List Nat×OA×Nat)) (p:OA) (c':Nat),e = .returned (.slice p xs.length c')/\xs.map (·.1)=zaj ws/\OwnS qO 128 w.heap.size w' p c' xs/\∀ x∈xs,OwnS zC 3 w.heap.size w' x.2.1 x.2.2 x.1)/\Bw w w':=by
 refine z6 44 [.slice q ws.length c] (.s .p (.s .p (.c .p .p))) Tryz.func142 ?_;obtain⟨B,hB⟩:=nm (w.heap.size);refine⟨List (List Nat×OA×Nat)×OA×Nat,fun s=>⟨[(0,.slice q ws.length c),(4,.slice s.2.1 s.1.length s.2.2)],[]⟩,fun s X=>(zaj ws=(s.1.map (·.1)).map (zbB ws)/\AscB s.1/\s.1.length<=10000/\∀ x∈s.1,x.1.length<=64/\∀ a∈x.1,a<ws.length)/\OwnS qO 128 B X s.2.1 s.2.2 s.1/\(∀ x∈s.1,OwnS zC 3 B X x.2.1 x.2.2 x.1)/\Bw w X,?_,?_⟩
 ·refine cmo zhG ?_;rintro e _ ⟨rfl,rfl⟩;refine⟨_,zcd (jY _) (by decide:1<2^64),cmo (zne (n:=ws.length) (a:=1) (b:=jx (zat ws.length) 1) hn (by decide) (zg4 (jY _))) ?_⟩;rintro e X ⟨rfl,hbX⟩;refine cmo (zqx (r:=crs ws.length) (m:=10000) (zrR _) (hT.below hbX) (Gc _) (ztL _ hn)) ?_;rintro e Y ⟨⟨hm,xs,p,c',rfl,hxs,hasc,ho,hx⟩ | ⟨hm,rfl⟩,hbY⟩
  ·refine⟨(xs,p,c'),(cvE rfl rfl),⟨?_,hasc,?_,fun x hx=>?_⟩,ho.lower (by rw [hB];exact hbX.size),fun x h=>(hx x h).lower (by rw [hB];exact hbX.size),(zst hbX hbY)⟩
   ·show zaj ws=(xs.map (·.1)).map (zbB ws);rw [hxs];unfold zaj;exact Gx hm
   ·show xs.length<=10000;rw [<- hxs,QQ] at hm;exact hm
   ·have hmem:x.1∈zcX (crs ws.length):=(by rw [<- hxs];exact UO.2 ⟨x,hx,rfl⟩);exact⟨zmG hmem,fun a ha=>zq7 rfl (by omega) hmem ha⟩
  ·refine⟨([],none,0),(cvE rfl rfl),⟨?_,List.Pairwise.nil,Ge _,fun x hx=>(by cases hx)⟩,OwnS.nil,fun x hx=>(by cases hx),(zst hbX hbY)⟩;show zaj ws=[];unfold zaj;exact Gw (by show ¬ (zcX (crs ws.length)).length<=10000;omega)
 rintro⟨xs,p,c'⟩ X ⟨⟨hrk,hasc,hxl,hxx⟩,ho,hx,hbX⟩;dsimp only at hrk hasc hxl hxx ho hx ⊢;have hbs:=hbX.size;refine⟨Nat,fun k=>⟨[(0,.slice q ws.length c),(4,.slice p xs.length c'),(21,.slice p xs.length c'),(22,i64 xs.length),(23,i64 (k:Nat))],[]⟩,
  fun k Z=>k<=xs.length/\OwnS qO 128 B Z p c' xs/\(∀ x∈xs.take k,OwnS zC 3 B Z x.2.1 x.2.2 (zbB ws x.1))/\(∀ x∈xs.drop k,OwnS zC 3 B Z x.2.1 x.2.2 x.1)/\Bw w Z,fun k=>xs.length-k,0,
  (cvE rfl rfl),⟨Ge _,ho,fun x h=>(by rw [Ur] at h;cases h),fun x h=>hx x h,hbX⟩,?_⟩
 clear ho hx hbX hbs;rintro k Z ⟨hk,ho,htk,hdr,hbZ⟩;have hbs:=hbZ.size;refine biE (fun hc=>?_) fun hc=>?_
 ·have hc:(k:Int)<(xs.length:Int):=dT hc;have hkl:k<xs.length:=by omega
  obtain⟨x,hxk⟩:∃ x,xs[k]=x:=⟨_,rfl⟩;have hxm:x∈xs:=by rw [<- hxk];exact gM hkl
  obtain⟨hx64,hxa⟩:=hxx x hxm;have hsplit:xs=xs.take k++x::xs.drop (k+1):=by rw [<- hxk,JD,JQ]
  have hdrop:xs.drop k=x::xs.drop (k+1):=by rw [<- hxk,JD]
  have hox:OwnS zC 3 B Z x.2.1 x.2.2 x.1:=hdr x (by rw [hdrop];simp);obtain⟨bp,op,hpe,hlp,hat⟩:=ho.row.at hkl;subst hpe;refine⟨k,rfl,hkl,.slice x.2.1 x.1.length x.2.2,by rw [<- hxk];exact zc (hat k hkl) (i:=0) rfl,?_⟩;refine⟨Nat,fun i=>⟨[(0,.slice q ws.length c),(4,.slice (some ⟨bp,op,none⟩) xs.length c'),(7,.slice x.2.1 x.1.length x.2.2),(21,.slice (some ⟨bp,op,none⟩) xs.length c'),(22,i64 xs.length),(23,i64 (k:Nat)),(27,.slice x.2.1 x.1.length x.2.2),(28,i64 x.1.length),(29,i64 (i:Nat))],[]⟩,
   fun i V=>i<=x.1.length/\OwnS zC 3 B V x.2.1 x.2.2 (zbB ws (x.1.take i)++x.1.drop i)/\Z.grownBy V (x.2.1.map Addr.block),fun i=>x.1.length-i,0,
   (cvE rfl rfl),⟨Ge _,hox,jF _ _⟩,?_⟩
  rintro i V ⟨hi,hoV,gV⟩;refine biE (fun hc=>?_) fun hc=>?_
  ·have hc:(i:Int)<(x.1.length:Int):=dT hc;have hil:i<x.1.length:=by omega
   have hlen:(zbB ws (x.1.take i)++x.1.drop i).length=x.1.length:=by
    unfold zbB;simp;omega
   have hgi:(zbB ws (x.1.take i)++x.1.drop i)[i]'(by omega)=x.1[i]:=by
    exact zq3 hil (by omega)
   obtain⟨b',o',hqe,hlq,hat'⟩:=hoV.row.at (i:=i) (by omega);have hao:=hxa x.1[i] (gM hil);obtain⟨bw,ow,hwe,hlw,hatw⟩:=hl.at hao;subst hwe;have hq0:∃ g,x.2.1=some ⟨g,0,none⟩:=by
    rcases hoV.inv with ⟨h,_⟩ | ⟨g,cur,h,_⟩
    ·rw [h] at hqe;cases hqe
    ·exact⟨g,h⟩
   obtain⟨g,hg⟩:=hq0;have hbo:b'=g/\o'=0:=by rw [hg] at hqe;simpa using hqe.symm
   obtain⟨rfl,rfl⟩:=hbo;rw [hg] at hoV gV ⊢;have hBg:=(zx hoV rfl).1;refine⟨i,rfl,hil,i64 x.1[i],by have:=zc (hat' i (by omega)) (i:=0) (v:=i64 x.1[i]) (by rw [hgi];rfl);exact this,x.1[i],rfl,hao,?_⟩;have hVw:V.heap[bw]?=w.heap[bw]?:=(gV.block bw (by omega) (by have:B<=b':=hBg;simp;omega)).trans (hbZ.block bw hlw);refine⟨i64 ws[x.1[i]],zc (zJ hVw (hatw _ hao)) (i:=0) rfl,i,rfl,hil,zi0 (i:=i) (v:=ws[x.1[i]]) k3 rfl hoV (by omega) fun V' oV' gV'=>nxI (by omega) ⟨i+1,(cvE rfl rfl),⟨hil,?_,zg gV gV'⟩,zdc (by omega)⟩⟩;have e:(zbB ws (x.1.take i)++x.1.drop i).set i ws[x.1[i]]=zbB ws (x.1.take (i+1))++x.1.drop (i+1):=zo4 hil hao;rw [e] at oV';exact oV'
  ·have hc:¬ (i:Int)<(x.1.length:Int):=dF hc;obtain rfl:i=x.1.length:=by omega
   rw [Qx,Qn,QM] at hoV;have keepI:∀ y:List Nat×OA×Nat,∀ l',OwnS zC 3 B Z y.2.1 y.2.2 l'->(∀ a b,x.2.1=some a->y.2.1=some b->a.block≠b.block)->OwnS zC 3 B V y.2.1 y.2.2 l':=fun y l' hy hne=>hy.same fun b hb=>gV.block _ (zx hy hb).2.1 (by
    intro e
    cases hx1:x.2.1 with
    | none=>rw [hx1] at e;cases e
    | some a =>
     rw [hx1] at e;simp only [Uf,KZ] at e;exact hne a b hx1 hb e.symm)
   unfold AscB at hasc;rw [hsplit,List.pairwise_append,List.pairwise_cons] at hasc;obtain⟨_,⟨hA1,_⟩,hA2⟩:=hasc;refine nxI (by omega) ⟨k+1,(cvE rfl rfl),⟨hkl,?_,fun y hy=>?_,fun y hy=>?_,?_⟩,zdc (by omega)⟩
   ·refine ho.same fun a ha=>gV.block _ (zx ho ha).2.1 fun e=>?_
    cases hx1:x.2.1 with
    | none=>rw [hx1] at e;cases e
    | some a2 =>
     rw [hx1] at e;simp only [Uf,KZ] at e;obtain⟨_,_,c1,h1⟩:=zx ho ha;obtain⟨_,_,c2,h2⟩:=zx hox hx1;rw [<- e,h1] at h2;simp at h2
   ·rw [tsg hkl,hxk] at hy;rcases QU.1 hy with hy | hy
    ·exact keepI y _ (htk y hy) fun a b ha hb e=>by
      have:=hA2 y hy x (by simp) b a hb ha;omega
    ·rw [KA.1 hy];exact hoV
   ·exact keepI y _ (hdr y (by rw [hdrop];exact JW _ hy)) fun a b ha hb e=>by
     have:=hA1 y hy a b ha hb;omega
   ·cases hx1:x.2.1 with
    | none =>
     rw [hx1] at gV;exact hbZ.trans ⟨gV.os,gV.tape,gV.output,gV.size,fun j hj=>gV.block j (by omega) (fun e=>by cases e)⟩
    | some a =>
     rw [hx1] at gV;exact hbZ.trans (zm gV hbs (by have:=(zx hox hx1).1;omega))
 ·have hc:¬ (k:Int)<(xs.length:Int):=dF hc;obtain rfl:k=xs.length:=by omega
  rw [Qx] at htk;refine⟨⟨xs.map fun x=>(zbB ws x.1,x.2),p,c',by rw [QQ];rfl,?_,?_,fun y hy=>?_⟩,hbZ⟩
  ·rw [hrk,UL,UL];rfl
  ·rw [<- hB];have e1:(xs.map fun x=>(zbB ws x.1,x.2)).flatMap qO.enc=xs.flatMap qO.enc:=by
    rw [Qp];congr 1;funext x;show [Value.slice x.2.1 (zbB ws x.1).length x.2.2]=[Value.slice x.2.1 x.1.length x.2.2];unfold zbB;rw [QQ]
   unfold OwnS at ho ⊢;rw [e1,QQ];exact ho
  ·obtain⟨x,hx,rfl⟩:=UO.1 hy;rw [<- hB];exact htk x hx
end
def exC (x:ExD) (q:OA) (c:Nat):List Value := .slice q x.ev.length c::(ze x.po++(ze x.rf++(ze x.co++(ze x.dt++(ze x.ct++(ze x.rm++(seg 32 (fun i=>u8 (x.regs i))++seg 6 (fun i=>u8 (x.mem i)))))))))
theorem zH (x:ExD) (q:OA) (c:Nat):(exC x q c).length=333:=by
 unfold exC;simp only [Qt,lap,zf,zG]
theorem zcE (x:ExD) (q:OA) (c:Nat):(exC x q c).all Value.oneCell'=true:=by
 unfold exC;rw [UC,QL,QL,QL,QL,QL,QL,QL,zK,zK,zK,zK,zK,zK,zbo fun _=>rfl,zbo fun _=>rfl];rfl
section
variable (x:ExD) (q:OA) (c:Nat) (S:List Value)
theorem zpX:∃ A Z,A.length=1/\∀ r,exC { x with po:=r } q c++S=A++(ze r++Z) :=
 ⟨.slice q x.ev.length c::[],(ze x.rf++(ze x.co++(ze x.dt++(ze x.ct++(ze x.rm++(seg 32 (fun i=>u8 (x.regs i))++(seg 6 (fun i=>u8 (x.mem i))++S))))))),by simp only [Qt,QR,lap,zf],fun r=>by simp only [exC,KO,Qm,QW]⟩
theorem zsz:∃ A Z,A.length=50/\∀ r,exC { x with rf:=r } q c++S=A++(ze r++Z) :=
 ⟨.slice q x.ev.length c::ze x.po,(ze x.co++(ze x.dt++(ze x.ct++(ze x.rm++(seg 32 (fun i=>u8 (x.regs i))++(seg 6 (fun i=>u8 (x.mem i))++S)))))),by simp only [Qt,QR,lap,zf],fun r=>by simp only [exC,KO,Qm,QW]⟩
theorem zsB:∃ A Z,A.length=99/\∀ r,exC { x with co:=r } q c++S=A++(ze r++Z) :=
 ⟨.slice q x.ev.length c::(ze x.po++ze x.rf),(ze x.dt++(ze x.ct++(ze x.rm++(seg 32 (fun i=>u8 (x.regs i))++(seg 6 (fun i=>u8 (x.mem i))++S))))),by simp only [Qt,QR,lap,zf],fun r=>by simp only [exC,KO,Qm,QW]⟩
theorem zpZ:∃ A Z,A.length=148/\∀ r,exC { x with dt:=r } q c++S=A++(ze r++Z) :=
 ⟨.slice q x.ev.length c::(ze x.po++(ze x.rf++ze x.co)),(ze x.ct++(ze x.rm++(seg 32 (fun i=>u8 (x.regs i))++(seg 6 (fun i=>u8 (x.mem i))++S)))),by simp only [Qt,QR,lap,zf],fun r=>by simp only [exC,KO,Qm,QW]⟩
theorem zp0:∃ A Z,A.length=197/\∀ r,exC { x with ct:=r } q c++S=A++(ze r++Z) :=
 ⟨.slice q x.ev.length c::(ze x.po++(ze x.rf++(ze x.co++ze x.dt))),(ze x.rm++(seg 32 (fun i=>u8 (x.regs i))++(seg 6 (fun i=>u8 (x.mem i))++S))),by simp only [Qt,QR,lap,zf],fun r=>by simp only [exC,KO,Qm,QW]⟩
theorem zpW:∃ A Z,A.length=246/\∀ r,exC { x with rm:=r } q c++S=A++(ze r++Z) :=
 ⟨.slice q x.ev.length c::(ze x.po++(ze x.rf++(ze x.co++(ze x.dt++ze x.ct)))),(seg 32 (fun i=>u8 (x.regs i))++(seg 6 (fun i=>u8 (x.mem i))++S)),by simp only [Qt,QR,lap,zf],fun r=>by simp only [exC,KO,Qm,QW]⟩
theorem zrG:∃ A Z,A.length=295/\∀ f,exC { x with regs:=f } q c++S=A++(seg 32 (fun i=>u8 (f i))++Z) :=
 ⟨.slice q x.ev.length c::(ze x.po++(ze x.rf++(ze x.co++(ze x.dt++(ze x.ct++ze x.rm))))),(seg 6 (fun i=>u8 (x.mem i))++S),by simp only [Qt,lap,zf],fun f=>by simp only [exC,KO,Qm,QW]⟩
theorem zpY:∃ A Z,A.length=327/\∀ f,exC { x with mem:=f } q c++S=A++(seg 6 (fun i=>u8 (f i))++Z) :=
 ⟨.slice q x.ev.length c::(ze x.po++(ze x.rf++(ze x.co++(ze x.dt++(ze x.ct++(ze x.rm++seg 32 (fun i=>u8 (x.regs i)))))))),S,by simp only [Qt,lap,zf,zG],fun f=>by simp only [exC,KO,Qm,QW]⟩
theorem zsA (l:List Ev) (q':OA) (c':Nat):(exC x q c++S).set 0 (.slice q' l.length c')=exC { x with ev:=l } q' c'++S:=by
 unfold exC;rw [Qm,List.set_cons_zero,Qm]
theorem ztu:(exC x q c++S)[0]?=some (.slice q x.ev.length c):=rfl
end
theorem zgh {x:ExD} {q:OA} {c:Nat} {S:List Value} {i:Nat} {v:Value} (h:S[i]?=some v):(exC x q c++S)[333+i]?=some v:=by
 rw [q8 (zH _ _ _)];exact h
theorem zjb {x:ExD} {q:OA} {c:Nat} {S:List Value} {i:Nat} {v:Value}:(exC x q c++S).set (333+i) v=exC x q c++S.set i v:=jB (zH _ _ _)
abbrev zay:=List Nat×OA×Nat
abbrev slV (x:zay):Value := .slice x.2.1 x.1.length x.2.2
def zdH (l:List zay):List Value:=l.map slV
theorem zfo:∀ l:List zay,l.flatMap qO.enc=zdH l
 | []=>rfl
 | a::l=>by
  show slV a::l.flatMap qO.enc=slV a::zdH l;rw [zfo l]
abbrev RowLH (Z:Wd) (g:Nat) (l:List zay):Prop:=Z.heap[g]?=some (.cells (zdH l).toArray 128 (0,0))
theorem RowLH.sl {Z:Wd} {g:Nat} {l:List zay} (h:RowLH Z g l):SlR qO Z (some ⟨g,0,none⟩) l :=
 SlR.of_cells (hlt h) (by rw [zfo];exact za h)
theorem RowLH.own {Z:Wd} {g B:Nat} {l:List zay} (h:RowLH Z g l) (hB:B<=g) (hm:l.length<=maxLen):OwnS qO 128 B Z (some ⟨g,0,none⟩) l.length l:=by
 unfold OwnS World.ownsRow;have hz:(zdH l).length=l.length:=by unfold zdH;rw [QQ]
 refine⟨by rw [qC],.inr ⟨g,l.length,(zdH l).toArray,rfl,hB,h,Gc _,hm,?_,?_⟩⟩
 ·show (zdH l).length=l.length*1;rw [hz,Gd]
 ·show (zdH l).take (l.length*1)=_;rw [zfo,JE (by rw [hz,Gd];exact Gc _)]
structure Rows (B:Nat) (Z:Wd) (W:List zay):Prop where
 own:∀ x∈W,OwnS zC 3 B Z x.2.1 x.2.2 x.1
 dis:∀ (i j:Nat) (x y:zay),W[i]?=some x->W[j]?=some y->i≠j->∀ a b,x.2.1=some a->y.2.1=some b->a.block≠b.block
theorem Rows.same {B:Nat} {Z Y:Wd} {W:List zay} (h:Rows B Z W) (hs:∀ x∈W,∀ a,x.2.1=some a->Y.heap[a.block]?=Z.heap[a.block]?):Rows B Y W :=
 ⟨fun x hx=>(h.own x hx).same (hs x hx),h.dis⟩
theorem Rows.nils (B:Nat) (Z:Wd) (n:Nat):Rows B Z (List.replicate n ([],none,0)):=by
 refine⟨fun x hx=>?_,fun i j x y hx hy _ a b ha _=>?_⟩
 ·rw [Js hx];exact OwnS.nil
 ·have:=JY hx;rw [Js this] at ha
  cases ha
theorem Rows.set {B:Nat} {Z Y:Wd} {W:List zay} {i:Nat} {x y:zay} (h:Rows B Z W) (hi:W[i]?=some x) (ho:OwnS zC 3 B Y y.2.1 y.2.2 y.1) (hg:Z.grownBy Y (x.2.1.map Addr.block)) (hat:∀ a,y.2.1=some a->x.2.1=some a\/Z.heap.size<=a.block):Rows B Y (W.set i y):=by
 obtain⟨hil,hxi⟩:=Jq.1 hi;have ne:∀ (j:Nat) (z:zay),W[j]?=some z->i≠j->∀ b,z.2.1=some b->Y.heap[b.block]?=Z.heap[b.block]?:=fun j z hj hne b hb=>by
  refine hg.block _ (zx (h.own z (JY hj)) hb).2.1 fun e=>?_
  cases hx1:x.2.1 with
  | none=>rw [hx1] at e;cases e
  | some a =>
   rw [hx1] at e;simp only [Uf,KZ] at e;exact h.dis i j x z hi hj hne a b hx1 hb e.symm
 have inv:∀ (j:Nat) (z:zay),(W.set i y)[j]?=some z->(i=j/\z=y)\/(i≠j/\W[j]?=some z):=fun j z hj=>by
  by_cases e:i=j
  ·subst e;rw [JC hil] at hj;exact .inl ⟨rfl,(Ug hj).symm⟩
  ·rw [JV e] at hj;exact .inr ⟨e,hj⟩
 refine⟨fun z hz=>?_,fun j k u v hu hv hjk a b ha hb=>?_⟩
 ·obtain⟨j,hj⟩:=List.mem_iff_getElem?.1 hz;rcases inv j z hj with ⟨_,rfl⟩ | ⟨hne,hj⟩
  ·exact ho
  ·exact (h.own z (JY hj)).same (ne j z hj hne)
 ·rcases inv j u hu with ⟨e1,rfl⟩ | ⟨n1,hu'⟩ <;> rcases inv k v hv with ⟨e2,rfl⟩ | ⟨n2,hv'⟩
  ·omega
  ·rcases hat a ha with h1 | h1
   ·exact h.dis i k x v hi hv' n2 a b h1 hb
   ·have:=(zx (h.own v (JY hv')) hb).2.1;omega
  ·rcases hat b hb with h1 | h1
   ·exact h.dis j i u x hu' hi (fun e=>n1 e.symm) a b ha h1
   ·have:=(zx (h.own u (JY hu')) ha).2.1;omega
  ·exact h.dis j k u v hu' hv' hjk a b ha hb
end Go.Proofs.YtnadlhpkpnfmbaaGreatDoor
namespace Go.Vc
open Go.RowKit
def DrawA (S:Sig) (ops:Array Oper) (E:Env) (w:Wd) (K:Env->Wd->Prop) (QP:List PanicEntry->Wd->Prop):Prop :=
 ∃ (X:List Nat) (T:OT),(zkM (zcC S.τ X ops) ops ops.size (Array.replicate ops.size false) T&&ops.all (fun o=>jg o.op))=true/\zgK S ops.toList X QP T E w.drew K
def zhs (ops:Array Oper) (D:Nat->Bool) (i:Nat):Bool:=match ops[i]? with
 | some o=>o.after.toList.all fun e => !Region.binds .any e||D e.on
 | none=>true
def zsp (ops:Array Oper):Bool:=(List.range ops.size).all fun i=>match ops[i]? with
 | some o=>o.after.toList.all fun e => !Region.binds .any e||Nat.blt e.on i
 | none=>true
def zbx (S:Sig) (ops:Array Oper) (i:Nat) (E:Env) (w:Wd) (K:Env->Wd->Prop):Prop:=match zfJ ops.toList i with
 | some o=>zav S ops.toList false i o E w K (fun _ _ _=>False)
 | none=>True
def zsK (S:Sig) (ops:Array Oper) (E:Env) (w:Wd) (K:Env->Wd->Prop):Prop :=
 (ops.all (fun o=>jg o.op)&&zsp ops)=true/\∃ J:(Nat->Bool)->Env->Wd->Prop,J (fun _=>false) E w.drew /\
  (∀ (D:Nat->Bool) (E:Env) (w:Wd) (i:Nat),J D E w->D i=false->zhs ops D i=true->zbx S ops i E w fun E' w'=>J (fun j=>Nat.beq j i||D j) E' w') /\
  (∀ (D:Nat->Bool) (E:Env) (w:Wd),(∀ i,i<ops.size->D i=true)->J D E w->K E w)
inductive Mn where
 | m (m:Mk)
 | s (a b:Mn)
 | c (a b:Mn)
 | d (a b:Mn)
 | t
 | i
noncomputable def wpN (S:Sig) (m:Mn):Code->Env->Wd->(Exit->Env->Wd->Prop)->Prop :=
 Mn.rec (motive:=fun _=>Code->Env->Wd->(Exit->Env->Wd->Prop)->Prop)
  (fun m c E w Q=>wpM S m c E w Q)
  (fun _ _ ia ib c E w Q=>match c with
   | .seq x y=>ia x E w fun ex E' w'=>match ex with
    | .normal=>ib y E' w' Q
    | ex=>Q ex E' w'
   | _=>False)
  (fun _ _ ia ib c E w Q=>match c with
   | .seq x y=>zsm (fun Q=>ia x E w Q) (fun E w Q=>ib y E w Q) Q
   | _=>False)
  (fun _ _ ia ib c E w Q=>match c with
   | .cond c x y=>(match opd E c with
    | some (.bool v)=>Br v (ia x E w Q) (ib y E w Q)
    | _=>False)
   | _=>False)
  (fun c E w Q=>match c with
   | .region _ ops true=>DrawA S ops E w (fun E w=>Q .normal E w) (fun ch w=>Q (.panic ch) ⟨[],E.ds⟩ w)
   | _=>False)
  (fun c E w Q=>match c with
   | .region _ ops true=>zsK S ops E w (fun E w=>Q .normal E w)
   | _=>False)
  m
section
variable {S:Sig}
theorem zpC {ops:Array Oper} {L:Array Bool} (h:((List.range ops.size).filter fun i => !L.getD i false).length<=0):∀ i,i<ops.size->L.getD i false=true:=fun i hi=>by
 have h0:=Jf (Nat.le_zero.1 h);have:=JB.1 h0 i (Uq.2 hi);simpa using this
theorem zpB {ops:Array Oper} {L:Array Bool} {i m:Nat} (hi:i<ops.size) (hs:L.size=ops.size) (hl:L.getD i false=false) (h:((List.range ops.size).filter fun i => !L.getD i false).length<=m+1) :
  ((List.range ops.size).filter fun j => !(L.setIfInBounds i true).getD j false).length<=m:=by
 have e:(List.range ops.size).filter (fun j => !(L.setIfInBounds i true).getD j false)=((List.range ops.size).filter fun j => !L.getD j false).filter fun j=>decide (j≠i):=by
  rw [List.filter_filter];refine KR fun j hj=>?_;by_cases hji:j=i
  ·subst hji;simp [hs,hi]
  ·rw [zdi hji];simp [hji]
 rw [e];have hm:i∈(List.range ops.size).filter fun j => !L.getD j false:=QV.2 ⟨Uq.2 hi,by rw [hl];rfl⟩;have:=List.length_filter_lt_length_iff_exists.2 (⟨i,hm,by simp⟩:∃ x,x∈((List.range ops.size).filter fun j => !L.getD j false)/\¬ (fun j=>decide (j≠i)) x=true);omega
theorem zhB (hS:SigOk S) {ops:Array Oper} (hsel:∀ o∈ops,jg o.op=true) (htop:zsp ops=true) {Q:Exit->Env->Wd->Prop} {J:(Nat->Bool)->Env->Wd->Prop}
  (hstep:∀ (D:Nat->Bool) (E:Env) (w:Wd) (i:Nat),J D E w->D i=false->zhs ops D i=true->zbx S ops i E w fun E' w'=>J (fun j=>Nat.beq j i||D j) E' w')
  (hend:∀ (D:Nat->Bool) (E:Env) (w:Wd),(∀ i,i<ops.size->D i=true)->J D E w->Q .normal E w) :
  ∀ (m:Nat) (L:Array Bool) (a:Act) (E:Env) (w:Wd),L.size=ops.size->((List.range ops.size).filter fun i => !L.getD i false).length<=m->Agrees S a E->J (fun i=>L.getD i false) E w->wpAnyIn (FR S.r) NN S.P .any ops (zeP S Q) m L a w
 | 0,L,a,E,w,hs,hm,ha,hJ=>by
  have hall:=zpC hm;refine⟨?_,⟨E,ha,hend _ E w hall hJ⟩⟩;rw [Je];intro i hi;obtain⟨hl,o,ho,_⟩:=mem_ready.1 hi;have hlt:=(Jk.1 ho).1;have:=hall i hlt;have hls:i<L.size:=by omega
  simp [hls] at hl this;rw [this] at hl;cases hl
 | m+1,L,a,E,w,hs,hm,ha,hJ=>by
  refine⟨fun h0=>?_,fun i hi=>?_⟩
  ·have hall:∀ i,i<ops.size->L.getD i false=true:=by
    intro i
    induction i using Nat.strongRecOn with
    | ind i ih =>
     intro hlt
     cases hl:L.getD i false with
     | true=>rfl
     | false =>
      exfalso
      have hls:i<L.size:=(by omega);have:i∈Region.ready .any ops L:=mem_ready.2 ⟨by simp [hls] at hl ⊢;exact hl,ops[i],Jm hlt,fun e he hb=>by
       have ht:=Qk.1 htop i (Uq.2 hlt);rw [Jm hlt] at ht;have ht:=Qk.1 ht e (by simpa using he);rw [hb] at ht;have hlt2:e.on<i:=Nat.blt_eq.mp (by simpa using ht);exact ih e.on hlt2 (by omega)⟩
      rw [h0] at this
      cases this
   exact⟨E,ha,hend _ E w hall hJ⟩
  ·obtain⟨hl,o,ho,hall⟩:=mem_ready.1 hi;have hlt:=(Jk.1 ho).1;have hls:i<L.size:=by omega
   have hl0:L.getD i false=false:=by simp [hls] at hl ⊢;exact hl
   have hd:zhs ops (fun i=>L.getD i false) i=true:=by
    unfold zhs;rw [ho];refine Qk.2 fun e he=>?_;have:=hall e (by simpa using he)
    cases hb:Region.binds .any e with
    | false=>rfl
    | true=>simp [this hb]
   have hst:=hstep _ E w i hJ hl0 hd;unfold zbx at hst;rw [zc8,show ops.toList[i]?=some o by simpa using ho] at hst;refine zh0 hS ho (hsel o (JI ho)) hst ha (fun E' a' w' ha' hk=>zhB hS hsel htop hstep hend m (L.setIfInBounds i true) a' E' w' (by simpa using hs) (zpB hlt hs hl0 hm) ha' ?_) (fun _ _ h=>h.elim);have e:(fun j=>(L.setIfInBounds i true).getD j false)=fun j=>Nat.beq j i||L.getD j false:=by
    funext j;by_cases hji:j=i
    ·subst hji;rw [show Nat.beq j j=true from UR j,Bool.true_or];simp [hls]
    ·rw [zdi hji,show Nat.beq j i=false from Bool.eq_false_iff.2 fun e=>hji (JR e),Uw]
   rw [e];exact hk
theorem zni (hS:SigOk S):∀ (m:Mn) (c:Code) (E:Env) (a:Act) (w:Wd) (Q:Exit->Env->Wd->Prop),Agrees S a E->wpN S m c E w Q->c.wpIn (FR S.r) NN S.P (zeP S Q) a w:=by
 intro m
 induction m with
 | m m=>intro c E a w Q ha h;exact jM hS m c E a w Q ha h
 | s p q ihp ihq =>
  intro c E a w Q ha h
  cases c with
  | seq x y =>
   replace h:(wpN S p x E w fun ex E' w'=>match ex with | .normal=>wpN S q y E' w' Q | ex=>Q ex E' w'):=h;refine wpIn_seq (Gn (ihp x E a w _ ha h) ?_);rintro ex a' w' ⟨E',ha',hq⟩
   cases ex with
   | normal=>exact ihq y E' a' w' Q ha' hq
   | _=>exact⟨E',ha',hq⟩
  | _=>exact h.elim
 | c p q ihp ihq =>
  intro c E a w Q ha h
  cases c with
  | seq x y =>
   replace h:zsm (fun Q=>wpN S p x E w Q) (fun E w Q=>wpN S q y E w Q) Q:=h;obtain⟨σ,env,inv,h1,h2⟩:=h;refine wpIn_seq (Gn (ihp x E a w _ ha h1) ?_);rintro ex a' w' ⟨E',ha',hq⟩
   cases ex with
   | normal =>
    obtain⟨s,hc,hi⟩:=hq;exact ihq y (env s) a' w' Q (ha'.cov hc) (h2 s w' hi)
   | _=>exact⟨E',ha',hq⟩
  | _=>exact h.elim
 | d p q ihp ihq =>
  intro c E a w Q ha h
  cases c with
  | cond c x y =>
   replace h:(match opd E c with | some (.bool v)=>Br v (wpN S p x E w Q) (wpN S q y E w Q) | _=>False):=h
   split at h
   ·rename_i b hb;refine wpIn_cond_split (ha.eval hb) (fun e=>ihp x E a w Q ha (h.1 e)) (fun e=>ihq y E a w Q ha (h.2 e))
   ·exact h.elim
  | _=>exact h.elim
 | t =>
  intro c E a w Q ha h
  cases c with
  | region id ops draw =>
   cases draw with
   | false=>exact h.elim
   | true =>
    replace h:DrawA S ops E w (fun E w=>Q .normal E w) (fun ch w=>Q (.panic ch) ⟨[],E.ds⟩ w):=h;obtain⟨X,T,hT,h⟩:=h;refine wpIn_region_any hS.mixed ?_;have hI:∀ (b:Act) (dst:Option Tmp) (v:Value),(b.tmps.size=S.n/\b.defers=E.ds)->((b.put dst v).tmps.size=S.n/\(b.put dst v).defers=E.ds):=fun b dst v hb=>by
     cases dst with
     | none=>exact hb
     | some d=>exact⟨by simp [Act.put,hb.1],hb.2⟩
    have hQ:∀ ch (b:Act) w,(b.tmps.size=S.n/\b.defers=E.ds)->Q (.panic ch) ⟨[],E.ds⟩ w->zeP S Q (.panic ch) b w:=fun ch b w hb hq=>⟨⟨[],E.ds⟩,⟨hb.1,hb.2,fun t v hv=>by simp [Env.find,VEnv.find] at hv⟩,hq⟩;have hia:a.tmps.size=S.n/\a.defers=E.ds:=⟨ha.size,ha.defers⟩;simp only [bAT,Jc] at hT;exact zcM (Q:=zeP S Q) hI hQ hT.2 (fun k i h=>zbY h) ops.size _ T a w.drew hT.1 hia (zaS (n:=NN) hS hT.2 T E a w.drew ha h)
  | _=>exact h.elim
 | i =>
  intro c E a w Q ha h
  cases c with
  | region id ops draw =>
   cases draw with
   | false=>exact h.elim
   | true =>
    replace h:zsK S ops E w (fun E w=>Q .normal E w):=h;obtain⟨hb,J,h0,hstep,hend⟩:=h;simp only [bAT,Jc] at hb;refine wpIn_region_any hS.mixed (zhB hS hb.1 hb.2 hstep hend ops.size _ a E _ (by simp) ?_ ha ?_)
    ·exact UT (JL _ _) (by simp)
    ·have e:(fun i=>(Array.replicate ops.size false).getD i false)=fun _=>false:=by
      funext i;by_cases hi:i<ops.size <;> simp [hi]
     rw [e];exact h0
  | _=>exact h.elim
theorem zmc (hS:SigOk S) {f:FuncId} {fn:Func} {c:Code} {args:List Value} {w:Wd} {R:Ending->Wd->Prop} (m:Mn)
  (hf:S.P.funcs[f]?=some fn) (hb:fn.body=some c) (hn:fn.ntmps=S.n) (hle:args.length<=S.n) (hr:S.r=none)
  (h:wpN S m c ⟨zcU 0 args,[]⟩ w (zj5 S fn R)):Calls S.P f args.toArray w R:=by
 rw [<- callsIn_wide (n:=NN)];have hF:FR none=Fence.wide:=rfl;rw [<- hF];refine Ko hf hb trivial ?_;have ha:Agrees S { tmps:=args.toArray++Array.replicate (fn.ntmps-args.toArray.size) undef,defers:=[] } ⟨zcU 0 args,[]⟩:=by
  refine⟨?_,rfl,fun t v hv=>?_⟩
  ·simp [hn];omega
  ·obtain⟨_,h2⟩:=zcL _ _ _ _ hv;simp only [UW] at h2;have hlt:t<args.length:=(Jq.1 h2).1;simp only [JH,KX,hlt,Gu];simpa using h2
 have h1:=zni hS m c _ _ w _ ha h;rw [hr] at h1;refine Gn h1 ?_;rintro ex a' w' ⟨E',ha',hq⟩
 cases ex with
 | normal=>have:=jD hS ha' _ _ hq;rw [<- ha'.defers] at this;exact this
 | ret=>have:=jD hS ha' _ _ hq;rw [<- ha'.defers] at this;exact this
 | panic ch =>
  obtain⟨hd,hR⟩:=hq;show LeavesInM _ _ _ _ _ _ a'.defers _ _;rw [ha'.defers,hd];exact hR
 | exit _=>exact hq.elim
 | goto _=>exact hq.elim
 | outgrown=>exact hq.elim
def zkL (rec_:Array Bool->OT->Bool) (ind:Nat->Nat->Bool) (ops:Array Oper) (listed:Array Bool) (T:OT):Bool :=
 !(Region.ready .any ops listed).isEmpty&&(Region.ready .any ops listed).all fun i =>
   (OT.firsts ind i T).any fun T'=>rec_ (listed.setIfInBounds i true) T'
def zf0 (ind:Nat->Nat->Bool) (ops:Array Oper):Nat->Array Bool->OT->Bool
 | 0,listed,T=>(Region.ready .any ops listed).isEmpty&&(match T with | .nil=>true | _=>false)
 | m+1,listed,.op k T'=>(match (Region.ready .any ops listed).contains k&&zeV ind ops k listed with
  | true=>zf0 ind ops m (listed.setIfInBounds k true) T'
  | false=>zkL (zf0 ind ops m) ind ops listed (.op k T'))
 | m+1,listed,.nil=>zkL (zf0 ind ops m) ind ops listed .nil
 | m+1,listed,.alt x y=>zkL (zf0 ind ops m) ind ops listed (.alt x y)
section
variable {ind:Nat->Nat->Bool} {ops:Array Oper}
theorem zaW {rec_:Array Bool->OT->Bool} {L:Array Bool} {T:OT} (h:zkL rec_ ind ops L T=true):(Region.ready .any ops L).isEmpty=false/\∀ i∈Region.ready .any ops L,∃ T',T'∈OT.firsts ind i T/\rec_ (L.setIfInBounds i true) T'=true:=by
 simp only [zkL,bAT,KJ,Qk,Ql] at h;exact⟨h.1,fun i hi=>h.2 i hi⟩
theorem zoa:∀ (m:Nat) (L:Array Bool) (T:OT),zeg ops L->zf0 ind ops (m+1) L T=true ->
  (Region.ready .any ops L).isEmpty=false/\∀ i∈Region.ready .any ops L,∃ T',T'∈OT.firsts ind i T/\zf0 ind ops m (L.setIfInBounds i true) T'=true:=by
 intro m
 induction m with
 | zero =>
  intro L T hc h
  cases T with
  | nil=>exact zaW h
  | alt x y=>exact zaW h
  | op k T' =>
   simp only [zf0] at h
   split at h
   ·rename_i hf;simp only [bAT,JU,dE] at hf;refine⟨Jr.2 (KB hf.1),fun i hi=>?_⟩;by_cases e:i=k
    ·subst e;exact⟨T',by simp [OT.firsts],h⟩
    ·have:=zaR hi e;simp only [bAT,Qs] at h;rw [h.1] at this;cases this
   ·exact zaW h
 | succ m ih =>
  intro L T hc h
  cases T with
  | nil=>exact zaW h
  | alt x y=>exact zaW h
  | op k T' =>
   unfold zf0 at h
   split at h
   ·rename_i hf;simp only [bAT,JU,dE] at hf;refine⟨Jr.2 (KB hf.1),fun i hi=>?_⟩;by_cases e:i=k
    ·subst e;exact⟨T',by simp [OT.firsts],h⟩
    ·obtain⟨T'',h1,h2⟩:=(ih _ T' (zcI hc hf.1) h).2 i (zaR hi e);refine⟨.op k T'',?_,?_⟩
     ·have:¬ k=i:=fun e2=>e e2.symm;rw [OT.firsts,Gw this,Gx (zkD hc hf.2 hf.1 hi e)];exact Kk h1
     ·have hk2:k∈Region.ready .any ops (L.setIfInBounds i true):=zaR hf.1 (fun e2=>e e2.symm);have hb:((Region.ready .any ops (L.setIfInBounds i true)).contains k&&zeV ind ops k (L.setIfInBounds i true))=true:=by
       simp only [bAT,JU,dE];exact⟨hk2,zhh hf.2⟩
      unfold zf0;rw [hb];rw [zjN];exact h2
   ·exact zaW h
theorem zfy:∀ (m:Nat) (L:Array Bool) (T:OT),zeg ops L->zf0 ind ops m L T=true->zkM ind ops m L T=true
 | 0,L,T,_,h=>h
 | m+1,L,T,hc,h=>by
  obtain⟨h1,h2⟩:=zoa m L T hc h;simp only [zkM,bAT,KJ,Qk,Ql];refine⟨h1,fun i hi=>?_⟩;obtain⟨T',h3,h4⟩:=h2 i hi;exact⟨T',h3,zfy m _ T' (zcI hc hi) h4⟩
end
theorem DrawA.treeR {S:Sig} {ops:Array Oper} {E:Env} {w:Wd} {K:Env->Wd->Prop} {QP:List PanicEntry->Wd->Prop} (X:List Nat) (T:OT)
  (h:(zf0 (zcC S.τ X ops) ops ops.size (Array.replicate ops.size false) T&&ops.all (fun o=>jg o.op))=true) (k:zgK S ops.toList X QP T E w.drew K):DrawA S ops E w K QP :=
 ⟨X,T,by
  simp only [bAT] at h ⊢;refine⟨zfy _ _ _ (fun j o hj=>?_) h.1,h.2⟩;by_cases hl:j<ops.size <;> simp [hl] at hj,k⟩
theorem DrawE.treeR {S:Sig} {ops:Array Oper} {E:Env} {w:Wd} {K:Env->Wd->Prop} {QP:List PanicEntry->Wd->Prop} (X:List Nat) (T:OT)
  (h:(zf0 (zcC S.τ X ops) ops ops.size (Array.replicate ops.size false) T&&ops.all (fun o=>jg o.op))=true) (k:zgK S ops.toList X QP T E w.drew K):DrawE S ops E w K QP :=
 .inr (.inr ⟨X,T,by
  simp only [bAT] at h ⊢;refine⟨zfy _ _ _ (fun j o hj=>?_) h.1,h.2⟩;by_cases hl:j<ops.size <;> simp [hl] at hj,k⟩)
end
end Go.Vc
namespace Go.Proofs.YtnadlhpkpnfmbaaGreatDoor
open Go.Vc Go.RowKit Go.Sei
abbrev zaX (X:Wd) (b:Nat) (x:ExD) (q:OA) (c:Nat) (S:List Value):Prop:=X.heap[b]?=some (.cells (exC x q c++S).toArray 172 (0,0))
abbrev zU:Value := .slice none 0 0
theorem zcA {X:Wd} {b:Nat} {x:ExD} {q:OA} {c:Nat} {S:List Value} (h:zaX X b x q c S):X.cell? ⟨b,0+0,none⟩=some (.slice q x.ev.length c):=zc (za h) (ztu x q c S)
theorem j9 {X:Wd} {b:Nat} {x:ExD} {q:OA} {c:Nat} {S:List Value} (h:zaX X b x q c S) {i:Nat} {v:Value} (hi:S[i]?=some v):X.cell? ⟨b,333+i,none⟩=some v:=by
 have:=zc (za h) (zgh (x:=x) (q:=q) (c:=c) hi);rw [UX] at this;exact this
theorem zp4 {w Z:Wd} {q:OA} {ev:List Ev} {b:Nat} (hl:SlR evE w q ev) (hqb:∀ a,q=some a->a.block≠b) (g:w.grownBy Z (some b)):SlR evE Z q ev:=by
 rcases hl with h | ⟨b',o,h1,h2,h3⟩
 ·exact .inl h
 ·have:=hqb _ h1;exact .inr ⟨b',o,h1,nL h2 g.size,fun i hi=>zJ (g.block b' h2 (by simpa using this)) (h3 i hi)⟩
theorem zaH (p:OA) (n c:Nat):(Value.slice p n c).ownBlock=p.map Addr.block:=by cases p <;> rfl
theorem zgI {α:Type} {E:Enc α} {T B cap:Nat} {w:Wd} {p:OA} {l:List α} (h:OwnS E T B w p cap l) {k T':Nat} {cur:Array Value} {fr:Nat×Nat} (hk:w.heap[k]?=some (.cells cur T' fr)) (hT:T'≠T):some k≠p.map Addr.block:=fun e=>by
 cases hp:p with
 | none=>rw [hp] at e;cases e
 | some a =>
  rw [hp] at e;simp only [Uf,KZ] at e;obtain⟨_,_,cur',h'⟩:=zx h hp;rw [<- e,hk] at h';simp at h';exact hT h'.2.1
theorem SatR.mono {α:Type} {r:Result α} {K K':α->Wd->Prop} (h:SatR r K) (k:∀ v w,K v w->K' v w):SatR r K':=by
 obtain⟨v,w',e,h⟩:=h;exact⟨v,w',e,k v w' h⟩
section
variable {α β:Type} {E:Enc α} {E':Enc β} {T T' B B' c c':Nat} {A C:Wd} {p q:OA} {l:List α} {l':List β}
theorem zc6 (h:OwnS E T B A q c l) (g:A.grownBy C (p.map Addr.block)) (hne:∀ a b',p=some a->q=some b'->a.block≠b'.block):OwnS E T B C q c l :=
 h.same fun b' hb'=>g.block _ (zx h hb').2.1 fun e=>by
  cases hp:p with
  | none=>rw [hp] at e;cases e
  | some a =>
   rw [hp] at e;simp only [Uf,KZ] at e;exact hne a b' hp hb' e.symm
theorem j8 (h:OwnS E T B A q c l) (hp:OwnS E' T' B' A p c' l') (hT:T≠T') (g:A.grownBy C (p.map Addr.block)):OwnS E T B C q c l :=
 zc6 h g fun a b' ha hb e=>by
  obtain⟨_,_,c1,h1⟩:=zx h hb;obtain⟨_,_,c2,h2⟩:=zx hp ha;rw [e,h1] at h2;simp at h2;exact hT h2.2
theorem qh {b:Nat} {cur:Array Value} {fr:Nat×Nat} (h:OwnS E T B A q c l) (hb:A.heap[b]?=some (.cells cur T' fr)) (hT:T≠T') (g:A.grownBy C (some b)):OwnS E T B C q c l :=
 h.same fun b' hb'=>g.block _ (zx h hb').2.1 fun e=>by
  obtain⟨_,_,c1,h1⟩:=zx h hb';simp only [KZ] at e;rw [e,hb] at h1;simp at h1;exact hT h1.2.1.symm
theorem qg {b:Nat} {cur:Array Value} {fr:Nat×Nat} (hb:A.heap[b]?=some (.cells cur T' fr)) (h:OwnS E T B A q c l) (hT:T'≠T) (g:A.grownBy C (q.map Addr.block)):C.heap[b]?=some (.cells cur T' fr) :=
 (g.block b (hlt hb) (zgI h hb hT)).trans hb
theorem q6 {n:Nat} (hp:OwnS E T B A p c l) (hn:n<=A.heap.size) (hB:n<=B) (g:A.grownBy C (p.map Addr.block)):Below n A C:=by
 refine⟨g.os,g.tape,g.output,g.size,fun j hj=>g.block j (by omega) fun e=>?_⟩
 cases h:p with
 | none=>rw [h] at e;cases e
 | some a =>
  rw [h] at e;simp only [Uf,KZ] at e;have:=(zx hp h).1;omega
end
theorem zqr {B c k:Nat} {V1:Wd} {p:OA} {l:List Nat} {a:Addr} (ho:OwnS zC 3 B V1 p c l) (ha:zo V1 a ([k].flatMap zC.enc)) (hB:B<=V1.heap.size) (hl:l.length<=100000) {K:Value->Wd->Prop}
  (h:∀ p' c' w',OwnS zC 3 B w' p' c' (l++[k])->V1.grownBy w' (Value.slice p l.length c).ownBlock->(∀ a,p'=some a->p=some a\/a.block=V1.heap.size)->K (.slice p' (l++[k]).length c') w') :
  SatR ((Builtin.append_ #[128,128] 128 #[.slice p l.length c,.slice (some a) 1 1]).run PG V1) K :=
 ji (E:=zC) (T:=3) (B:=B) (l:=l) (news:=[k]) (cap:=c) (m:=1) Tryz.underlying128 k3 rfl rfl rfl ho rfl ha hB (by omega) (by show (l.length+1)*8<=_;omega) fun p' c' w' a1 a2 _ a4=>h p' c' w' a1 a2 a4
theorem zv0 {B c:Nat} {V1:Wd} {p:OA} {l:List zay} {y:zay} {a:Addr} (ho:OwnS qO 128 B V1 p c l) (ha:zo V1 a ([y].flatMap qO.enc)) (hB:B<=V1.heap.size) (hl:l.length<=100000) {K:Value->Wd->Prop}
  (h:∀ p' c' w',OwnS qO 128 B w' p' c' (l++[y])->V1.grownBy w' (Value.slice p l.length c).ownBlock->(∀ a,p'=some a->p=some a\/a.block=V1.heap.size)->K (.slice p' (l++[y]).length c') w') :
  SatR ((Builtin.append_ #[170,170] 170 #[.slice p l.length c,.slice (some a) 1 1]).run PG V1) K :=
 ji (E:=qO) (T:=128) (B:=B) (l:=l) (news:=[y]) (cap:=c) (m:=1) Tryz.underlying170 zpF rfl rfl rfl ho rfl ha hB (by omega) (by show (l.length+1)*24<=_;omega) fun p' c' w' a1 a2 _ a4=>h p' c' w' a1 a2 a4
section
variable {b:Nat} {x:ExD} {q:OA} {c locs:Nat} {w:Wd}
theorem zog (hm:zaX w b x q c [zU,zU,zU]) (hl:SlR evE w q x.ev) (hqb:∀ a,q=some a->a.block≠b) (hn:x.ev.length<=48) (hlo:locs<=100) (hv:∀ e∈x.ev,e.k=1\/e.k=2->e.l.toNat<locs) :
  Calls PG 202 #[At0 b,i64 locs] w fun e w'=>e = .returned (.tuple #[])/\(∃ (p1 p2 p3:OA) (c1 c2 c3:Nat) (xs ys:List zay),
   zaX w' b x q c [.slice p1 (zaa x locs).rs.length c1,.slice p2 xs.length c2,.slice p3 ys.length c3]/\OwnS zC 3 w.heap.size w' p1 c1 ((zaa x locs).rs.map (·.1))/\xs.map (·.1)=(zaa x locs).rs.map (·.2)/\OwnS qO 128 w.heap.size w' p2 c2 xs/\(∀ y∈xs,OwnS zC 3 w.heap.size w' y.2.1 y.2.2 y.1) /\
   ys.map (·.1)=(zaa x locs).wr/\OwnS qO 128 w.heap.size w' p3 c3 ys/\∀ y∈ys,OwnS zC 3 w.heap.size w' y.2.1 y.2.2 y.1)/\w.grownBy w' (some b):=by
 refine z6 114 [At0 b,i64 locs] (.c .p (.c .p .p)) Tryz.func202 ?_;obtain⟨B,hB⟩:=nm (w.heap.size);have hbw:=hlt hm;obtain⟨W0,hW0⟩:∃ W0:List zay,W0=List.replicate locs ([],none,0):=⟨_,rfl⟩;have hW0l:W0.length=locs:=by rw [hW0,JM]
 refine⟨Unit,fun _=>⟨[(0,At0 b)],[]⟩,fun _ X=>zaX X b x q c [zU,zU,.slice (some ⟨B,0,none⟩) locs locs]/\RowLH X B W0/\w.grownBy X (some b)/\B<X.heap.size,?_,?_⟩
 ·refine zir Tryz.underlying170 zpF rfl rfl (by decide) locs (by show 24*_<=_;omega) (by omega) fun X fX hbX sX=>?_;have ez:∀ n,zb3 [Value.slice none 0 0] n=zdH (List.replicate n ([],none,0)):=fun n=>by
   induction n with
   | zero=>rfl
   | succ n ih =>
    show Value.slice none 0 0::zb3 [Value.slice none 0 0] n=slV ([],none,0)::zdH (List.replicate n ([],none,0));rw [<- ih];rfl
  have fX:X.heap[w.heap.size]?=some (.cells (zb3 [Value.slice none 0 0] locs).toArray 128 (0,0)):=fX;rw [ez,<- hW0,<- hB] at fX;have hmX:=(hbX.block b hbw).trans hm;refine zu zn1 hmX (o:=0+335) (v := .slice (some ⟨w.heap.size,0,none⟩) locs locs) rfl rfl (by rw [lap,zH];decide) rfl fun Y fY gY sY=>?_;rw [show 0+335=333+2 from rfl,zjb] at fY;exact⟨(),(cvE rfl rfl),by rw [hB];exact fY,(gY.block B (hlt fX) (by simp;omega)).trans fX,zg (zh hbX) gY,by rw [sY,sX,hB];omega⟩
 rintro _ X ⟨hmX,fX,gX,sX⟩;refine⟨List zay,fun W=>⟨[(0,At0 b)],[]⟩,fun W Z=>zaX Z b x q c [zU,zU,.slice (some ⟨B,0,none⟩) locs locs]/\RowLH Z B W/\w.grownBy Z (some b)/\W.length=locs/\W.map (·.1)=(zaa x locs).wr/\Rows B Z W/\∀ y∈W,y.1.length<=48/\∀ a∈y.1,a<x.ev.length,?_,?_⟩
 ·refine⟨_,zcA hmX,?_⟩;refine⟨Nat×List zay,fun s=>⟨[(0,At0 b),(20,.slice q x.ev.length c),(21,i64 x.ev.length),(22,i64 (s.1:Nat))],[]⟩,
   fun s Z=>s.1<=x.ev.length/\zaX Z b x q c [zU,zU,.slice (some ⟨B,0,none⟩) locs locs]/\RowLH Z B s.2/\w.grownBy Z (some b)/\s.2.length=locs/\znh s.1 (x.ev.drop s.1) (s.2.map (·.1))=(zaa x locs).wr/\Rows B Z s.2/\(∀ y∈s.2,y.1.length<=s.1/\∀ a∈y.1,a<x.ev.length),fun s=>x.ev.length-s.1,(0,W0),
   (cvE rfl rfl),⟨Ge _,hmX,fX,gX,hW0l,by rw [hW0,List.map_replicate];rfl,by rw [hW0];exact Rows.nils _ _ _,fun y hy=>by rw [hW0] at hy;rw [Js hy];exact⟨Ge _,fun a ha=>by cases ha⟩⟩,?_⟩
  clear hmX fX gX sX;rintro⟨k,W⟩ Z ⟨hk,hmZ,fZ,gZ,hWl,hacc,hR,hL⟩;dsimp only at hk fZ hWl hacc hR hL ⊢;refine biE (fun hc=>?_) fun hc=>?_
  ·have hc:(k:Int)<(x.ev.length:Int):=dT hc;have hkl:k<x.ev.length:=by omega
   obtain⟨e,he⟩:∃ e,x.ev[k]=e:=⟨_,rfl⟩;have hem:e∈x.ev:=by rw [<- he];exact gM hkl
   rw [<- JD hkl,he] at hacc;have hacc:znh (k+1) (x.ev.drop (k+1)) (if e.k=2 then (W.map (·.1)).set e.l.toNat ((W.map (·.1)).getD e.l.toNat []++[k]) else W.map (·.1))=(zaa x locs).wr:=hacc;have hlZ:=zp4 hl hqb gZ;obtain⟨bp,op,hqe,hlp,hat⟩:=hlZ.at hkl;subst hqe;refine⟨k,rfl,hkl,evE.enc e,rfl,by rw [<- he];exact hat k hkl,hlp,?_⟩;refine zk (X:=Z) (v := .agg (evE.enc e).toArray) zd3 rfl rfl (Qk.2 fun u hu=>evE.one e u hu) fun Y hbY fY sY=>?_;have gY:=zg gZ (zh (row:=some b) hbY);have hmY:=zb hbY hmZ;have fBY:=zb hbY fZ;have hRY:Rows B Y W:=hR.same fun y hy a ha=>hbY.block _ (zx (hR.own y hy) ha).2.1;have fY:Y.heap[Z.heap.size]?=some (.cells (evE.enc e).toArray 158 (0,0)):=fY;refine⟨u8 e.k,zc (za fY) (i:=1) rfl,biE (fun h=>?_) fun h=>?_⟩
   ·have h:e.k=2:=qV.1 (dT h);rw [Gx h] at hacc;have hll:=hv e hem (.inr h);obtain⟨l,hle⟩:∃ l,e.l.toNat=l:=⟨_,rfl⟩;rw [hle] at hacc hll;have hlW:l<W.length:=(by omega);obtain⟨y,hy⟩:∃ y,W[l]?=some y:=⟨_,gE hlW⟩;have hym:y∈W:=JY hy;have hgd:(W.map (·.1)).getD l []=y.1:=(by rw [gDe,KU,hy];rfl);rw [hgd] at hacc;have hyo:=hRY.own y hym;have hylen:=(hL y hym).1;have hrl:(zdH W)[l]?=some (slV y):=(by unfold zdH;rw [KU,hy];rfl);have hd:Bw Y Y.drew:=(Gh _ Y).drew;have hba:Below Y.drew.heap.size Y.drew (Y.drew.alloc (.cells (zC.enc k).toArray 3)):=zba _ _;have sa:(Y.drew.alloc (.cells (zC.enc k).toArray 3)).heap.size=Y.heap.size+1:=wz _ _;have nB:=zgI hyo fBY (by decide);have nb:=zgI hyo hmY (by decide);have fin:∀ p2 c2 V,OwnS zC 3 B V p2 c2 (y.1++[k])->(Y.drew.alloc (.cells (zC.enc k).toArray 3)).grownBy V (Value.slice y.2.1 y.1.length y.2.2).ownBlock->(∀ a,p2=some a->y.2.1=some a\/a.block=(Y.drew.alloc (.cells (zC.enc k).toArray 3)).heap.size) ->
      (zaX V b x (some ⟨bp,op,none⟩) c [zU,zU,.slice (some ⟨B,0,none⟩) locs locs]/\V.heap[Z.heap.size]?=some (.cells (evE.enc e).toArray 158 (0,0))) /\
      SatR ((storeVar 128 ⟨B,0+l*1,none⟩ (slV (y.1++[k],p2,c2))).run PG V) fun _ S=>zaX S b x (some ⟨bp,op,none⟩) c [zU,zU,.slice (some ⟨B,0,none⟩) locs locs]/\RowLH S B (W.set l (y.1++[k],p2,c2))/\w.grownBy S (some b)/\(W.set l (y.1++[k],p2,c2)).length=locs/\znh (k+1) (x.ev.drop (k+1)) ((W.set l (y.1++[k],p2,c2)).map (·.1))=(zaa x locs).wr/\Rows B S (W.set l (y.1++[k],p2,c2))/\∀ z∈W.set l (y.1++[k],p2,c2),z.1.length<=k+1/\∀ a∈z.1,a<x.ev.length:=by
     intro p2 c2 V oV gV hat2;obtain⟨U,hU⟩:=nm (Y.drew.alloc (.cells (zC.enc k).toArray 3));rw [<- hU] at gV hba sa hat2;have hbYU:Bw Y U:=hd.trans hba;rw [zaH] at gV;have gYV:Y.grownBy V (y.2.1.map Addr.block):=zg (zh hbYU) gV;have fBV:RowLH V B W:=(gYV.block B (hlt fBY) nB).trans fBY;have hmV:=(gYV.block b (hlt hmY) nb).trans hmY;have nE:=zgI hyo fY (by decide);refine⟨⟨hmV,(gYV.block _ (hlt fY) nE).trans fY⟩,zu zpF fBV (o:=0+l*1) (v:=slV (y.1++[k],p2,c2)) rfl rfl (by unfold zdH;rw [QQ];omega) rfl fun S fS gS sS=>?_⟩;have fS2:RowLH S B (W.set l (y.1++[k],p2,c2)):=by
      rw [Gd,UX] at fS;refine fS.trans ?_;unfold zdH;rw [UN]
     have hRV:Rows B V (W.set l (y.1++[k],p2,c2)):=hRY.set (y:=(y.1++[k],p2,c2)) hy oV gYV fun a ha=>(hat2 a ha).imp id fun h=>by omega
     have hRS:Rows B S (W.set l (y.1++[k],p2,c2)):=hRV.same fun z hz a ha=>gS.block _ (zx (hRV.own z hz) ha).2.1 fun e=>by
      have h1:=zgI (hRV.own z hz) fBV (by decide);rw [ha] at h1;exact h1 e.symm
     have gyb:w.grownBy S (some b):=by
      have hBb:B≠b:=(by omega);have e1:Below B Y S:=by
       refine Below.trans ⟨gYV.os,gYV.tape,gYV.output,gYV.size,fun j hj=>gYV.block j (by have:=hlt fBY;omega) fun e=>?_⟩ (zm gS (by have:=hlt fBV;omega) (Gc _))
       cases hp:y.2.1 with
       | none=>rw [hp] at e;cases e
       | some a =>
        rw [hp] at e;simp only [Uf,KZ] at e;have:=(zx hyo hp).1;omega
      rw [hB] at e1;exact q7 gY e1
     refine⟨(gS.block b (hlt hmV) (by simp;omega)).trans hmV,fS2,gyb,by rw [QS];exact hWl,?_,hRS,fun z hz=>?_⟩
     ·rw [UN];exact hacc
     ·rcases List.mem_or_eq_of_mem_set hz with h | h
      ·exact⟨by have:=(hL z h).1;omega,(hL z h).2⟩
      ·rw [h];refine⟨by simp only [lap,Qt,QR];omega,fun a ha=>?_⟩;rcases QU.1 ha with ha | ha
       ·exact (hL y hym).2 a ha
       ·rw [KA.1 ha];exact hkl
    refine DrawE.treeR [16,18] (.op 0 (.op 1 (.op 2 (.op 4 (.op 6 (.op 7 (.op 8 (.op 9 (.op 10 (.op 11 (.op 12 (.op 13 (.op 14 (.alt (.op 15 (.alt (.op 16 (.alt (.op 3 (.op 5 (.op 17 (.op 18 (.nil))))) (.op 5 (.op 3 (.op 17 (.op 18 (.nil))))))) (.alt (.op 3 (.alt (.op 16 (.op 5 (.op 17 (.op 18 (.nil))))) (.op 5 (.op 16 (.op 17 (.op 18 (.nil))))))) (.op 5 (.alt (.op 16 (.op 3 (.op 17 (.op 18 (.nil))))) (.op 3 (.op 16 (.op 17 (.op 18 (.nil)))))))))) (.alt (.op 3 (.alt (.op 15 (.alt (.op 16 (.op 5 (.op 17 (.op 18 (.nil))))) (.op 5 (.op 16 (.op 17 (.op 18 (.nil))))))) (.op 5 (.op 15 (.op 16 (.op 17 (.op 18 (.nil)))))))) (.op 5 (.alt (.op 15 (.alt (.op 16 (.op 3 (.op 17 (.op 18 (.nil))))) (.op 3 (.op 16 (.op 17 (.op 18 (.nil))))))) (.op 3 (.op 15 (.op 16 (.op 17 (.op 18 (.nil))))))))))))))))))))))) (by kernel_rfl) ⟨_,j9 (hdr hmY) (i:=2) rfl,u8 e.l,zc (za (hdr fY)) (i:=2) rfl,l,by rw [<- hle],hll,?_⟩;refine⟨slV y,by have:=zc (za (hdr fBY)) (i:=l*1) (v:=slV y) (by rw [Gd];exact hrl);exact this,?_⟩;have hsz:x.ev.length-(k+1)<x.ev.length-k:=(by omega);have app:∀ {K:Value->Wd->Prop},(∀ p2 c2 V,((zaX V b x (some ⟨bp,op,none⟩) c [zU,zU,.slice (some ⟨B,0,none⟩) locs locs]/\V.heap[Z.heap.size]?=some (.cells (evE.enc e).toArray 158 (0,0))) /\
      SatR ((storeVar 128 ⟨B,0+l*1,none⟩ (slV (y.1++[k],p2,c2))).run PG V) fun _ S=>zaX S b x (some ⟨bp,op,none⟩) c [zU,zU,.slice (some ⟨B,0,none⟩) locs locs]/\RowLH S B (W.set l (y.1++[k],p2,c2))/\w.grownBy S (some b)/\(W.set l (y.1++[k],p2,c2)).length=locs/\znh (k+1) (x.ev.drop (k+1)) ((W.set l (y.1++[k],p2,c2)).map (·.1))=(zaa x locs).wr/\Rows B S (W.set l (y.1++[k],p2,c2))/\∀ z∈W.set l (y.1++[k],p2,c2),z.1.length<=k+1/\∀ a∈z.1,a<x.ev.length)->K (slV (y.1++[k],p2,c2)) V) ->
      SatR ((Builtin.append_ #[128,128] 128 #[slV y,.slice (some ⟨Y.drew.heap.size,0,none⟩) 1 1]).run PG (Y.drew.alloc (.cells (zC.enc k).toArray 3))) K:=fun {K} h =>
     ji (E:=zC) (T:=3) (B:=B) (l:=y.1) (news:=[k]) (cap:=y.2.2) (m:=1) Tryz.underlying128 k3 rfl rfl rfl (hyo.below (hd.trans hba)) rfl (qF zC k) (by have:=gY.size;omega) (by omega) (by show (y.1.length+1)*8<=_;omega) fun p2 c2 V oV gV hbV hat2=>h p2 c2 V (fin p2 c2 V oV gV hat2)
    have hmA:=qy (.cells (zC.enc k).toArray 3 (0,0)) (hdr hmY);have fEA:=qy (.cells (zC.enc k).toArray 3 (0,0)) (hdr fY);refine Gm ?_ (Gm ?_ ?_)
    ·refine⟨⟨by decide,by decide,rfl⟩,zC.enc k,rfl,hba,Gm ?_ (Gm ?_ ?_)⟩
     ·refine app fun p2 c2 V ⟨⟨hmV,fEV⟩,hst⟩=>Gm ?_ ?_
      ·refine⟨_,j9 hmV (i:=2) rfl,u8 e.l,zc (za fEV) (i:=2) rfl,l,by rw [<- hle],hll,?_⟩;refine SatR.mono hst ?_;rintro _ S hS;exact nxI (by omega) ⟨(k+1,W.set l (y.1++[k],p2,c2)),(cvE rfl rfl),⟨hkl,hS⟩,hsz⟩
      ·refine⟨u8 e.l,zc (za fEV) (i:=2) rfl,_,j9 hmV (i:=2) rfl,l,by rw [<- hle],hll,?_⟩;refine SatR.mono hst ?_;rintro _ S hS;exact nxI (by omega) ⟨(k+1,W.set l (y.1++[k],p2,c2)),(cvE rfl rfl),⟨hkl,hS⟩,hsz⟩
     ·refine⟨_,j9 hmA (i:=2) rfl,Gm ?_ ?_⟩
      ·refine app fun p2 c2 V ⟨⟨hmV,fEV⟩,hst⟩=>⟨u8 e.l,zc (za fEV) (i:=2) rfl,l,by rw [<- hle],hll,?_⟩;refine SatR.mono hst ?_;rintro _ S hS;exact nxI (by omega) ⟨(k+1,W.set l (y.1++[k],p2,c2)),(cvE rfl rfl),⟨hkl,hS⟩,hsz⟩
      ·refine⟨u8 e.l,zc (za fEA) (i:=2) rfl,app fun p2 c2 V ⟨⟨hmV,fEV⟩,hst⟩=>⟨l,by rw [<- hle],hll,?_⟩⟩;refine SatR.mono hst ?_;rintro _ S hS;exact nxI (by omega) ⟨(k+1,W.set l (y.1++[k],p2,c2)),(cvE rfl rfl),⟨hkl,hS⟩,hsz⟩
     ·refine⟨u8 e.l,zc (za fEA) (i:=2) rfl,Gm ?_ ?_⟩
      ·refine app fun p2 c2 V ⟨⟨hmV,fEV⟩,hst⟩=>⟨_,j9 hmV (i:=2) rfl,l,by rw [<- hle],hll,?_⟩;refine SatR.mono hst ?_;rintro _ S hS;exact nxI (by omega) ⟨(k+1,W.set l (y.1++[k],p2,c2)),(cvE rfl rfl),⟨hkl,hS⟩,hsz⟩
      ·refine⟨_,j9 hmA (i:=2) rfl,app fun p2 c2 V ⟨⟨hmV,fEV⟩,hst⟩=>⟨l,by rw [<- hle],hll,?_⟩⟩;refine SatR.mono hst ?_;rintro _ S hS;exact nxI (by omega) ⟨(k+1,W.set l (y.1++[k],p2,c2)),(cvE rfl rfl),⟨hkl,hS⟩,hsz⟩
    ·refine⟨_,j9 (hdr hmY) (i:=2) rfl,Gm ?_ ?_⟩
     ·refine⟨⟨by decide,by decide,rfl⟩,zC.enc k,rfl,hba,Gm ?_ ?_⟩
      ·refine app fun p2 c2 V ⟨⟨hmV,fEV⟩,hst⟩=>⟨u8 e.l,zc (za fEV) (i:=2) rfl,l,by rw [<- hle],hll,?_⟩;refine SatR.mono hst ?_;rintro _ S hS;exact nxI (by omega) ⟨(k+1,W.set l (y.1++[k],p2,c2)),(cvE rfl rfl),⟨hkl,hS⟩,hsz⟩
      ·refine⟨u8 e.l,zc (za fEA) (i:=2) rfl,app fun p2 c2 V ⟨⟨hmV,fEV⟩,hst⟩=>⟨l,by rw [<- hle],hll,?_⟩⟩;refine SatR.mono hst ?_;rintro _ S hS;exact nxI (by omega) ⟨(k+1,W.set l (y.1++[k],p2,c2)),(cvE rfl rfl),⟨hkl,hS⟩,hsz⟩
     ·refine⟨u8 e.l,zc (za (hdr fY)) (i:=2) rfl,⟨by decide,by decide,rfl⟩,zC.enc k,rfl,hba,app fun p2 c2 V ⟨⟨hmV,fEV⟩,hst⟩=>⟨l,by rw [<- hle],hll,?_⟩⟩;refine SatR.mono hst ?_;rintro _ S hS;exact nxI (by omega) ⟨(k+1,W.set l (y.1++[k],p2,c2)),(cvE rfl rfl),⟨hkl,hS⟩,hsz⟩
    ·refine⟨u8 e.l,zc (za (hdr fY)) (i:=2) rfl,Gm ?_ ?_⟩
     ·refine⟨⟨by decide,by decide,rfl⟩,zC.enc k,rfl,hba,Gm ?_ ?_⟩
      ·refine app fun p2 c2 V ⟨⟨hmV,fEV⟩,hst⟩=>⟨_,j9 hmV (i:=2) rfl,l,by rw [<- hle],hll,?_⟩;refine SatR.mono hst ?_;rintro _ S hS;exact nxI (by omega) ⟨(k+1,W.set l (y.1++[k],p2,c2)),(cvE rfl rfl),⟨hkl,hS⟩,hsz⟩
      ·refine⟨_,j9 hmA (i:=2) rfl,app fun p2 c2 V ⟨⟨hmV,fEV⟩,hst⟩=>⟨l,by rw [<- hle],hll,?_⟩⟩;refine SatR.mono hst ?_;rintro _ S hS;exact nxI (by omega) ⟨(k+1,W.set l (y.1++[k],p2,c2)),(cvE rfl rfl),⟨hkl,hS⟩,hsz⟩
     ·refine⟨_,j9 (hdr hmY) (i:=2) rfl,⟨by decide,by decide,rfl⟩,zC.enc k,rfl,hba,app fun p2 c2 V ⟨⟨hmV,fEV⟩,hst⟩=>⟨l,by rw [<- hle],hll,?_⟩⟩;refine SatR.mono hst ?_;rintro _ S hS;exact nxI (by omega) ⟨(k+1,W.set l (y.1++[k],p2,c2)),(cvE rfl rfl),⟨hkl,hS⟩,hsz⟩
   ·have h:¬ e.k=2:=fun e'=>dF h (by rw [e'];rfl);rw [Gw h] at hacc;exact nxI (by omega) ⟨(k+1,W),(cvE rfl rfl),⟨hkl,hmY,fBY,gY,hWl,hacc,hRY,fun y hy=>⟨by have:=(hL y hy).1;show _<=k+1;omega,(hL y hy).2⟩⟩,zdc (by omega)⟩
  ·have hc:¬ (k:Int)<(x.ev.length:Int):=dF hc;obtain rfl:k=x.ev.length:=by omega
   rw [Qn] at hacc;exact⟨W,(cvE rfl rfl),hmZ,fZ,gZ,hWl,hacc,hR,fun y hy=>⟨by have:=(hL y hy).1;omega,(hL y hy).2⟩⟩
 rintro W X ⟨hmX,fX,gX,hWl,hwr,hR,hWb⟩;refine⟨_,zcA hmX,?_⟩;obtain⟨RS,hRS⟩:=nm ((zaa x locs).rs);have hRSg:RS=zhK x.ev (W.map (·.1)) 0 x.ev:=by rw [hRS,hwr];rfl
 rw [<- hRS,<- hwr];have sX:B<X.heap.size:=hlt fX;refine⟨Nat×List (Nat×List Nat)×List zay×(OA×Nat)×(OA×Nat),fun s=>⟨[(0,At0 b),(53,.slice q x.ev.length c),(54,i64 x.ev.length),(55,i64 (s.1:Nat))],[]⟩,
  fun s Z=>s.1<=x.ev.length/\RS=s.2.1++zhK x.ev (W.map (·.1)) s.1 (x.ev.drop s.1)/\s.2.1.length<=s.1/\s.2.2.1.map (·.1)=s.2.1.map (·.2)/\zaX Z b x q c [.slice s.2.2.2.1.1 (s.2.1.map (·.1)).length s.2.2.2.1.2,.slice s.2.2.2.2.1 s.2.2.1.length s.2.2.2.2.2,.slice (some ⟨B,0,none⟩) locs locs]/\RowLH Z B W/\w.grownBy Z (some b)/\(∀ y∈W,OwnS zC 3 B Z y.2.1 y.2.2 y.1)/\(∀ y∈s.2.2.1,OwnS zC 3 B Z y.2.1 y.2.2 y.1) /\
   OwnS zC 3 B Z s.2.2.2.1.1 s.2.2.2.1.2 (s.2.1.map (·.1))/\OwnS qO 128 B Z s.2.2.2.2.1 s.2.2.2.2.2 s.2.2.1/\(∀ a,s.2.2.2.1.1=some a->∀ y,y∈s.2.2.1\/y∈W->∀ b',y.2.1=some b'->a.block≠b'.block)/\(∀ a,s.2.2.2.2.1=some a->a.block≠B),
  fun s=>x.ev.length-s.1,(0,[],[],(none,0),(none,0)),
  (cvE rfl rfl),⟨Ge _,hRSg,Gc _,rfl,hmX,fX,gX,hR.own,fun y hy=>(by cases hy),OwnS.nil,OwnS.nil,fun a ha=>(by cases ha),fun a ha=>(by cases ha)⟩,?_⟩
 clear hmX fX gX hR sX;rintro⟨k,dn,xs,⟨p1,c1⟩,⟨p2,c2⟩⟩ Z ⟨hk,hspec,hdl,hxs,hmZ,fZ,gZ,hWo,hxo,ho1,ho2,hd1,hd2⟩;dsimp only at hk hspec hdl hxs hmZ hxo ho1 ho2 hd1 hd2 ⊢;refine biE (fun hc=>?_) fun hc=>?_
 ·have hc:(k:Int)<(x.ev.length:Int):=dT hc;have hkl:k<x.ev.length:=by omega
  obtain⟨e,he⟩:∃ e,x.ev[k]=e:=⟨_,rfl⟩;have hem:e∈x.ev:=by rw [<- he];exact gM hkl
  rw [<- JD hkl,he] at hspec;have hlZ:=zp4 hl hqb gZ;obtain⟨bp,op,hqe,hlp,hat⟩:=hlZ.at hkl;subst hqe;refine⟨k,rfl,hkl,evE.enc e,rfl,by rw [<- he];exact hat k hkl,hlp,?_⟩;refine zk (X:=Z) (v := .agg (evE.enc e).toArray) zd3 rfl rfl (Qk.2 fun u hu=>evE.one e u hu) fun Y hbY fY sY=>?_;have gY:=zg gZ (zh (row:=some b) hbY);have hmY:=zb hbY hmZ;have fBY:=zb hbY fZ;have fY:Y.heap[Z.heap.size]?=some (.cells (evE.enc e).toArray 158 (0,0)):=fY;refine⟨u8 e.k,zc (za fY) (i:=1) rfl,biE (fun h=>?_) fun h=>?_⟩
  ·have h:¬ e.k=1:=fun e'=>by
    rw [e'] at h;exact Gy h (by decide)
   have hspec:RS=dn++(if e.k=1 then (k,((W.map (·.1)).getD e.l.toNat []).filter fun w=>decide ((x.ev.getD w ev0).v=e.v))::zhK x.ev (W.map (·.1)) (k+1) (x.ev.drop (k+1)) else zhK x.ev (W.map (·.1)) (k+1) (x.ev.drop (k+1))):=hspec;rw [Gw h] at hspec;exact nxI (by omega) ⟨(k+1,dn,xs,(p1,c1),(p2,c2)),(cvE rfl rfl),⟨hkl,hspec,by show dn.length<=k+1;omega,hxs,hmY,fBY,gY,fun y hy=>(hWo y hy).below hbY,fun y hy=>(hxo y hy).below hbY,ho1.below hbY,ho2.below hbY,hd1,hd2⟩,zdc (by omega)⟩
  ·have h1:decide ((e.k.toNat:Int)=1)=true:=by simpa using h
   have h:e.k=1:=qV.1 (dT h1);obtain⟨l,hle⟩:∃ l,e.l.toNat=l:=⟨_,rfl⟩;have hll:l<locs:=by rw [<- hle];exact hv e hem (.inl h)
   have hlW:l<W.length:=by omega
   obtain⟨y,hy⟩:∃ y,W[l]?=some y:=⟨_,gE hlW⟩;have hym:y∈W:=JY hy;have hgd:(W.map (·.1)).getD l []=y.1:=by rw [gDe,KU,hy];rfl
   obtain⟨P,hP⟩:∃ P:Nat->Bool,P=fun w=>decide ((x.ev.getD w ev0).v=e.v):=⟨_,rfl⟩;have hspec:RS=dn++(k,y.1.filter P)::zhK x.ev (W.map (·.1)) (k+1) (x.ev.drop (k+1)):=by
    have hspec:RS=dn++(if e.k=1 then (k,((W.map (·.1)).getD e.l.toNat []).filter fun w=>decide ((x.ev.getD w ev0).v=e.v))::zhK x.ev (W.map (·.1)) (k+1) (x.ev.drop (k+1)) else zhK x.ev (W.map (·.1)) (k+1) (x.ev.drop (k+1))):=hspec;rw [Gx h,hle,hgd,<- hP] at hspec;exact hspec
   obtain⟨hy48,hyb⟩:=hWb y hym;have hyo:=(hWo y hym).below hbY;have hrl:(zdH W)[l]?=some (slV y):=by unfold zdH;rw [KU,hy];rfl
   have hd:Bw Y Y.drew:=(Gh _ Y).drew;refine DrawE.ord [] [0,1,2,3,4,5,6,7,8,9] (by kernel_rfl) ⟨_,j9 (hdr hmY) (i:=2) rfl,u8 e.l,zc (za (hdr fY)) (i:=2) rfl,l,by rw [<- hle],hll,?_⟩;refine⟨slV y,by have:=zc (za (hdr fBY)) (i:=l*1) (v:=slV y) (by rw [Gd];exact hrl);exact this,?_⟩;obtain⟨M,hM⟩:=nm (Y.heap.size);refine⟨Nat×List Nat×OA×Nat,fun s=>⟨[(0,At0 b),(6,i64 (k:Nat)),(7,At0 Z.heap.size),(8,.slice s.2.2.1 s.2.1.length s.2.2.2),(53,.slice (some ⟨bp,op,none⟩) x.ev.length c),(54,i64 x.ev.length),(55,i64 (k:Nat)),(70,slV y),(71,i64 y.1.length),(72,i64 (s.1:Nat))],[]⟩,
    fun s V=>s.1<=y.1.length/\s.2.1=(y.1.take s.1).filter P/\OwnS zC 3 M V s.2.2.1 s.2.2.2 s.2.1/\Below M Y V,fun s=>y.1.length-s.1,(0,[],none,0),
    (cvE rfl rfl),⟨Ge _,rfl,OwnS.nil,by rw [hM];exact hd⟩,?_⟩
   rintro⟨i,fr,p3,c3⟩ V ⟨hi,hfr,hoV,hbV⟩;dsimp only at hi hfr hoV ⊢;have sV:=hbV.size;have hmV:=(hbV.block b (by have:=hlt hmY;omega)).trans hmY;have fEV:=(hbV.block Z.heap.size (by have:=hlt fY;omega)).trans fY;have fBV:=(hbV.block B (by have:=hlt fBY;omega)).trans fBY;have hbYV:Bw Y V:=by rw [hM] at hbV;exact hbV
   have hyoV:=hyo.below hbYV;have hfl:fr.length<=i:=by rw [hfr];exact UT (JL _ _) (by rw [Qv];exact Nat.min_le_left _ _)
   refine biE (fun hc=>?_) fun hc=>?_
   ·have hc:(i:Int)<(y.1.length:Int):=dT hc;have hil:i<y.1.length:=(by omega);have hyi:=hyb y.1[i] (gM hil);have hlV:=zp4 hl hqb (q7 gY (hbV.mono (by have:=gY.size;omega)));obtain⟨by_,oy,hye,hly,haty⟩:=hyoV.row.at hil;obtain⟨bq,oq,hqe,hlq,hatq⟩:=hlV.at hyi;simp only [KZ,Uv,Gp] at hqe;obtain⟨rfl,rfl⟩:=hqe;have htk:(y.1.take (i+1)).filter P=fr++(if P y.1[i] then [y.1[i]] else []):=by
     rw [tsg hil,Kv,hfr]
     cases hPi:P y.1[i] <;> simp [hPi]
    have hPv:P y.1[i]=decide (x.ev[y.1[i]].v=e.v):=by
     rw [hP];show decide ((x.ev.getD y.1[i] ev0).v=e.v)=_;rw [gDe,gE hyi];rfl
    rw [show slV y = .slice (some ⟨by_,oy,none⟩) y.1.length y.2.2 by unfold slV;rw [hye]];refine⟨i,rfl,hil,i64 y.1[i],zc (haty i hil) (i:=0) rfl,DrawE.ord [] [0,1,2,3,4,5,6,7,8,9,10,11] (by kernel_rfl) ⟨_,zcA (hdr hmV),y.1[i],rfl,hyi,?_⟩⟩;have hdV:Bw V V.drew:=(Gh _ V).drew;refine⟨u8 x.ev[y.1[i]].v,by have:=zc (zw hdV (hatq y.1[i] hyi)) (i:=3) (v:=u8 x.ev[y.1[i]].v) rfl;exact this,u8 e.v,zc (za (hdr fEV)) (i:=3) rfl,biE (fun hq=>?_) fun hq=>?_⟩
    ·have hq:x.ev[y.1[i]].v=e.v:=qV.1 (dT hq);rw [hPv,Ut hq,Gx rfl] at htk;refine⟨⟨by decide,by decide,rfl⟩,zC.enc y.1[i],rfl,?_⟩;have hba:Below V.drew.heap.size V.drew (V.drew.alloc (.cells (zC.enc y.1[i]).toArray 3)):=zba _ _;refine ji (E:=zC) (T:=3) (B:=M) (l:=fr) (news:=[y.1[i]]) (cap:=c3) (m:=1) Tryz.underlying128 k3 rfl rfl rfl (hoV.below (hdV.trans hba)) rfl (qF zC y.1[i]) (by have:=hba.size;have:=hdV.size;omega) (by omega) (by show (fr.length+1)*8<=_;omega) ?_;intro p4 c4 U oU gU hbU hat4;exact nxI (by omega) ⟨(i+1,fr++[y.1[i]],p4,c4),(cvE rfl rfl),⟨hil,htk.symm,oU,((hbV.trans (hdV.mono (by omega))).trans (hba.mono (by have:=hdV.size;omega))).trans hbU⟩,zdc (by omega)⟩
    ·have hq:¬ x.ev[y.1[i]].v=e.v:=fun e'=>dF hq (by rw [e']);rw [hPv,Uj hq] at htk;simp only [Kt,Gr,QM] at htk;exact nxI (by omega) ⟨(i+1,fr,p3,c3),(cvE rfl rfl),⟨hil,htk.symm,hoV.below hdV,hbV.trans (hdV.mono (by omega))⟩,zdc (by omega)⟩
   ·have hc:¬ (i:Int)<(y.1.length:Int):=dF hc;obtain rfl:i=y.1.length:=(by omega);rw [Qx] at hfr;have hbMB:B<=M:=(by have:=hlt fBY;omega);have hxlen:xs.length=dn.length:=by
     have:=Gq List.length hxs;simpa using this
    refine⟨.slice p1 (dn.map (·.1)).length c1,j9 hmV (i:=0) rfl,⟨by decide,by decide,rfl⟩,zC.enc k,rfl,?_⟩;obtain⟨V1,hV1⟩:=nm (V.alloc (.cells (zC.enc k).toArray 3));have hb1:Bw V V1:=(by rw [hV1];exact (zba _ _));have s1:V1.heap.size=V.heap.size+1:=(by rw [hV1];exact wz _ _);have hZV:Bw Z V:=zst hbY hbYV;have hZV1:Bw Z V1:=zst hZV hb1;have ho1V:=ho1.below hZV1;rw [<- hV1];refine zqr ho1V (by rw [hV1];exact qF zC k) (by omega) (by rw [QQ];omega) fun q1 d1 U oU gU hat1=>?_;rw [zaH] at gU;have hmV1:=zb hb1 hmV;have hmU:=qg hmV1 ho1V (by decide) gU;have fBU:=qg (zb hb1 fBV) ho1V (by decide) gU;refine zu zpF hmU (o:=0+333) (v := .slice q1 (dn.map (·.1)++[k]).length d1) rfl rfl (by rw [lap,zH];show 333<336;decide) rfl fun S fS gS sS=>?_;rw [show 0+333=333+0 from rfl,zjb] at fS;have fS:zaX S b x (some ⟨bp,op,none⟩) c [.slice q1 (dn.map (·.1)++[k]).length d1,.slice p2 xs.length c2,.slice (some ⟨B,0,none⟩) locs locs]:=fS;have p1M:∀ a,p1=some a->a.block<M:=fun a ha=>by have:=(zx ho1 ha).2.1;have:=hbY.size;omega
    have hoU:OwnS zC 3 M U p3 c3 fr:=zc6 (hoV.below hb1) gU fun a b' ha hb e=>by have:=p1M a ha;have:=(zx hoV hb).1;omega
    have hWU:∀ y∈W,OwnS zC 3 B U y.2.1 y.2.2 y.1:=fun y hy=>zc6 ((hWo y hy).below hZV1) gU fun a b' ha hb=>hd1 a ha y (.inr hy) b' hb;have hxU:∀ y∈xs,OwnS zC 3 B U y.2.1 y.2.2 y.1:=fun y hy=>zc6 ((hxo y hy).below hZV1) gU fun a b' ha hb=>hd1 a ha y (.inl hy) b' hb;have ho2U:=j8 (ho2.below hZV1) ho1V (by decide) gU;have hoS:=qh hoU hmU (by decide) gS;have hWS:∀ y∈W,OwnS zC 3 B S y.2.1 y.2.2 y.1:=fun y hy=>qh (hWU y hy) hmU (by decide) gS;have hxS:∀ y∈xs,OwnS zC 3 B S y.2.1 y.2.2 y.1:=fun y hy=>qh (hxU y hy) hmU (by decide) gS;have ho2S:=qh ho2U hmU (by decide) gS;have ho1S:=qh oU hmU (by decide) gS;have hBb:B≠b:=(by omega);have fBS:=(gS.block B (hlt fBU) (by simp;omega)).trans fBU;refine⟨_,j9 fS (i:=1) rfl,⟨by decide,by decide,rfl⟩,qO.enc (fr,p3,c3),rfl,?_⟩;obtain⟨S1,hS1⟩:=nm (S.alloc (.cells (qO.enc (fr,p3,c3)).toArray 128));have hbS1:Bw S S1:=(by rw [hS1];exact (zba _ _));have sS1:S1.heap.size=S.heap.size+1:=(by rw [hS1];exact wz _ _);have ho2S1:=ho2S.below hbS1;have sU:=gU.size;unfold zeC zav;show SatR _ _;rw [<- hS1];refine zv0 ho2S1 (by rw [hS1];exact qF qO (fr,p3,c3)) (by omega) (by omega) fun q2 d2 N oN gN hat2=>?_;rw [zaH] at gN;have fN:=qg (zb hbS1 fS) ho2S1 (by decide) gN;refine zu zn1 fN (o:=0+334) (v := .slice q2 (xs++[(fr,p3,c3)]).length d2) rfl rfl (by rw [lap,zH];show 334<336;decide) rfl fun O fO gO sO=>?_;rw [show 0+334=333+1 from rfl,zjb] at fO;have fO:zaX O b x (some ⟨bp,op,none⟩) c [.slice q1 ((dn++[(k,fr)]).map (·.1)).length d1,.slice q2 (xs++[(fr,p3,c3)]).length d2,.slice (some ⟨B,0,none⟩) locs locs]:=by
     rw [QT];exact fO
    have step:∀ {q:OA} {cc:Nat} {ll:List Nat} {B':Nat},OwnS zC 3 B' S q cc ll->OwnS zC 3 B' O q cc ll:=fun h =>
     qh (j8 (h.below hbS1) ho2S1 (by decide) gN) fN (by decide) gO
    have h2B:∀ a,p2=some a->a.block≠B:=hd2;have fBO:RowLH O B W:=by
     have h1:=zb hbS1 fBS;have h2:=(gN.block B (hlt h1) fun e=>by
      cases hp:p2 with
      | none=>rw [hp] at e;cases e
      | some a =>
       rw [hp] at e;simp only [Uf,KZ] at e;exact hd2 a hp e.symm).trans h1
     exact (gO.block B (hlt h2) (by simp;omega)).trans h2
    have newr:∀ a,q1=some a->p1=some a\/V.heap.size<=a.block:=fun a ha=>(hat1 a ha).imp id fun h=>by omega
    have new2:∀ a,q2=some a->p2=some a\/U.heap.size<=a.block:=fun a ha=>(hat2 a ha).imp id fun h=>by omega
    have frM:∀ a,p3=some a->M<=a.block/\a.block<V.heap.size:=fun a ha=>⟨(zx hoV ha).1,(zx hoV ha).2.1⟩;have hwb:w.grownBy O (some b):=by
     have sG:=gS.size;have sZ:=hlt fZ;have e0:Below B Z V1:=hZV1.mono (by omega);have e1:Below B V1 U:=q6 ho1V (by omega) (Gc _) gU;have e2:Below B S S1:=hbS1.mono (by omega);have e3:Below B S1 N:=q6 ho2S1 (by omega) (Gc _) gN;rw [hB] at e0 e1 e2 e3;exact zg (q7 (q7 (zg (q7 (q7 gZ e0) e1) gS) e2) e3) gO
    refine nxI (by omega) ⟨(k+1,dn++[(k,fr)],xs++[(fr,p3,c3)],(q1,d1),(q2,d2)),(cvE rfl rfl),⟨hkl,?_,?_,?_,fO,fBO,hwb,fun y hy=>step (hWS y hy),fun y hy=>?_,?_,qh oN fN (by decide) gO,fun a ha y hy b' hb'=>?_,fun a ha=>?_⟩,zdc (by omega)⟩
    ·show RS=(dn++[(k,fr)])++_;rw [hspec,<- hfr,KO];rfl
    ·show (dn++[(k,fr)]).length<=k+1;simp only [lap,Qt,QR];omega
    ·show (xs++[(fr,p3,c3)]).map (·.1)=(dn++[(k,fr)]).map (·.2);rw [QT,QT,hxs];rfl
    ·rcases QU.1 hy with hy | hy
     ·exact step (hxS y hy)
     ·rw [KA.1 hy];exact step (hoS.lower hbMB)
    ·show OwnS zC 3 B O q1 d1 ((dn++[(k,fr)]).map (·.1));rw [QT];exact step ho1S
    ·have old:(y∈xs\/y∈W)\/y=(fr,p3,c3):=by
      rcases hy with hy | hy
      ·rcases QU.1 hy with hy | hy
       ·exact .inl (.inl hy)
       ·exact .inr (KA.1 hy)
      ·exact .inl (.inr hy)
     rcases old with hy | rfl
     ·rcases newr a ha with h | h
      ·exact hd1 a h y hy b' hb'
      ·have:b'.block<Z.heap.size:=by
        rcases hy with hy | hy
        ·exact (zx (hxo y hy) hb').2.1
        ·exact (zx (hWo y hy) hb').2.1
       have:=hZV.size;omega
     ·have h3:=frM b' hb';rcases newr a ha with h | h
      ·have:=p1M a h;omega
      ·omega
    ·rcases new2 a ha with h | h
     ·exact hd2 a h
     ·omega
 ·have hc:¬ (k:Int)<(x.ev.length:Int):=dF hc;obtain rfl:k=x.ev.length:=by omega
  rw [Qn] at hspec;have hspec:RS=dn++[]:=hspec;rw [QM] at hspec;subst hspec;refine⟨rfl,⟨p1,p2,some ⟨B,0,none⟩,c1,c2,locs,xs,W,by rw [hWl];rw [QQ] at hmZ;exact hmZ,by rw [<- hB];exact ho1,hxs,by rw [<- hB];exact ho2,by rw [<- hB];exact hxo,rfl,?_,by rw [<- hB];exact hWo⟩,gZ⟩;rw [<- hB];have:=fZ.own (B:=B) (Gc _) (by unfold maxLen;omega);rw [hWl] at this;exact this
end
theorem zmP {P:Program} {w:Wd} {t ty:TypeId} {a b:Nat} {K:Value->Wd->Prop} (k:K (i64 (min a b:Nat)) w):SatR ((Builtin.min_ #[t,t] ty #[i64 a,i64 b]).run P w) K:=by
 refine SatR.mk (v:=i64 (min a b:Nat)) (w':=w) ?_ k;by_cases h:(b:Int)<a
 ·have e:min a b=b:=Nat.min_eq_right (by omega);rw [e];simp [Builtin.min_,Builtin.min2,i64,h]
 ·have e:min a b=a:=Uc (by omega);rw [e];simp [Builtin.min_,Builtin.min2,i64,h]
section
variable {b o:Nat} {x:ExD} {q:OA} {c:Nat} {w:Wd} {r:Value} {p2 p3:OA} {c2 c3 lim:Nat} {xs ys:List zay}
def zqe (lim:Nat) (fs ws:List (List Nat)):Nat:=match zkQ lim fs 1 with
 | none=>0
 | some n=>zjl lim ws n
theorem zrS (hm:zo w ⟨b,o,none⟩ (exC x q c++[r,.slice p2 xs.length c2,.slice p3 ys.length c3])) (h2:SlR qO w p2 xs) (h3:SlR qO w p3 ys) (hx:∀ y∈xs,y.1.length<=1000) (hy:∀ y∈ys,y.1.length<=1000) (hxl:xs.length<=1000) (hyl:ys.length<=1000) (hl0:1<=lim) (hl:lim<=100000) :
  Calls PG 88 #[.pointer (some ⟨b,o,none⟩),i64 lim] w fun e w'=>e = .returned (i64 (zqe lim (xs.map (·.1)) (ys.map (·.1)):Nat))/\w=w':=by
 refine zD 52 [.pointer (some ⟨b,o,none⟩),i64 lim] Tryz.func88 ?_;have g2:w.cell? ⟨b,o+334,none⟩=some (.slice p2 xs.length c2):=zc hm (zgh (i:=1) rfl);have g3:w.cell? ⟨b,o+335,none⟩=some (.slice p3 ys.length c3):=zc hm (zgh (i:=2) rfl);refine⟨_,g2,?_⟩;obtain⟨fs,hfs⟩:=nm (xs.map (·.1));have hfl:fs.length=xs.length:=by rw [hfs,QQ]
 rw [<- hfs];refine⟨Nat×Nat,fun s=>⟨[(0,.pointer (some ⟨b,o,none⟩)),(1,i64 lim),(5,i64 (s.2:Nat)),(14,.slice p2 xs.length c2),(15,i64 xs.length),(16,i64 (s.1:Nat))],[]⟩,
  fun s X=>s.1<=xs.length/\s.2<=lim/\zkQ lim (fs.drop s.1) s.2=zkQ lim fs 1/\w=X,fun s=>xs.length-s.1,(0,1),
  (cvE rfl rfl),⟨Ge _,hl0,rfl,rfl⟩,?_⟩
 rintro⟨k,n⟩ _ ⟨hk,hnl,hacc,rfl⟩;dsimp only at hk hnl hacc ⊢;refine biE (fun hc=>?_) fun hc=>?_
 ·have hc:(k:Int)<(xs.length:Int):=dT hc;have hkl:k<xs.length:=by omega
  obtain⟨bp,op,rfl,hlp,hat⟩:=h2.at hkl;have hfk:fs[k]'(by omega)=xs[k].1:=by simp [hfs]
  rw [<- JD (show k<fs.length by omega),hfk] at hacc;have hacc:(if xs[k].1=[] then none else zkQ lim (fs.drop (k+1)) (min (n*xs[k].1.length) lim))=zkQ lim fs 1:=hacc;have h1000:=hx xs[k] (gM hkl);refine⟨k,rfl,hkl,slV xs[k],zc (hat k hkl) (i:=0) rfl,biE (fun h=>?_) fun h=>?_⟩
  ·have h:(xs[k].1.length:Int)=0:=dT h;have h0:xs[k].1=[]:=Jf (by omega);rw [Gx h0] at hacc;refine⟨?_,rfl⟩;unfold zqe;rw [<- hacc];rfl
  ·have h:¬ (xs[k].1.length:Int)=0:=dF h;have h0:xs[k].1≠[]:=fun e=>h (by rw [e];rfl);rw [Gw h0] at hacc;have hm':n*xs[k].1.length<=100000*1000:=Us (by omega) h1000;exact⟨((n*xs[k].1.length:Nat):Int),by rw [QK];exact zi (by rw [<- QK];omega),zmP (nxI (by omega) ⟨(k+1,min (n*xs[k].1.length) lim),(cvE rfl rfl),⟨hkl,QB _ _,hacc,rfl⟩,zdc (by omega)⟩)⟩
 have hc:¬ (k:Int)<(xs.length:Int):=dF hc;rw [Jz (by omega)] at hacc;have hacc:some n=zkQ lim fs 1:=hacc;have hres:zqe lim fs (ys.map (·.1))=zjl lim (ys.map (·.1)) n:=by unfold zqe;rw [<- hacc]
 rw [hres];obtain⟨ws,hws⟩:=nm (ys.map (·.1));have hwl:ws.length=ys.length:=by rw [hws,QQ]
 rw [<- hws];clear hres hacc hc hk hfl hfs g2;refine⟨_,g3,?_⟩;refine⟨Nat×Nat,fun s=>⟨[(0,.pointer (some ⟨b,o,none⟩)),(1,i64 lim),(5,i64 (s.2:Nat)),(33,.slice p3 ys.length c3),(34,i64 ys.length),(35,i64 (s.1:Nat))],[]⟩,
  fun s X=>s.1<=ys.length/\s.2<=lim/\zjl lim (ws.drop s.1) s.2=zjl lim ws n/\w=X,fun s=>ys.length-s.1,(0,n),
  (cvE rfl rfl),⟨Ge _,hnl,rfl,rfl⟩,?_⟩
 rintro⟨k,n'⟩ _ ⟨hk,hnl',hacc,rfl⟩;dsimp only at hk hnl' hacc ⊢;refine biE (fun hc=>?_) fun hc=>?_
 ·have hc:(k:Int)<(ys.length:Int):=dT hc;have hkl:k<ys.length:=by omega
  obtain⟨bp,op,rfl,hlp,hat⟩:=h3.at hkl;have hfk:ws[k]'(by omega)=ys[k].1:=by simp [hws]
  rw [<- JD (show k<ws.length by omega),hfk] at hacc;obtain⟨L,hL⟩:=nm (ys[k].1.length);have hacc:zjl lim (ws.drop (k+1)) (zkR lim L L 2 n')=zjl lim ws n:=by rw [hL];exact hacc
  have h1000:=hy ys[k] (gM hkl);rw [<- hL] at h1000;refine⟨k,rfl,hkl,slV ys[k],zc (hat k hkl) (i:=0) rfl,?_⟩;refine⟨Nat×Nat×Nat,fun s=>⟨[(0,.pointer (some ⟨b,o,none⟩)),(1,i64 lim),(5,i64 (s.2.2:Nat)),(9,slV ys[k]),(10,i64 (s.2.1:Nat)),(33,.slice (some ⟨bp,op,none⟩) ys.length c3),(34,i64 ys.length),(35,i64 (k:Nat))],[]⟩,
   fun s X=>s.2.2<=lim/\L<=s.2.1+s.1/\s.2.1<=L+2/\zkR lim L s.1 s.2.1 s.2.2=zkR lim L L 2 n'/\w=X,fun s=>s.1,(L,2,n'),
   (cvE rfl rfl),⟨hnl',by show L<=2+L;omega,by show 2<=L+2;omega,rfl,rfl⟩,?_⟩
  rintro⟨m,j,n2⟩ _ ⟨hn2,hLj,hjL,hK,rfl⟩;dsimp only at hn2 hLj hjL hK ⊢;refine biE (fun hc=>?_) fun hc=>?_
  ·have hc:(j:Int)<(ys[k].1.length:Int):=dT hc;have hjl:j<L:=by omega
   obtain⟨m,rfl⟩:∃ m',m=m'+1:=⟨m-1,by omega⟩;have hK:(if j<L then zkR lim L m (j+1) (min (n2*j) lim) else n2)=zkR lim L L 2 n':=hK;rw [Gx hjl] at hK;have hm':n2*j<=100000*1000:=Us (by omega) (by omega);exact⟨((n2*j:Nat):Int),by rw [QK];exact zi (by rw [<- QK];omega),zmP (nxI (by omega) ⟨(m,j+1,min (n2*j) lim),(cvE rfl rfl),⟨QB _ _,by show L<=j+1+m;omega,by show j+1<=L+2;omega,hK,rfl⟩,QA _⟩)⟩
  ·have hc:¬ (j:Int)<(ys[k].1.length:Int):=dF hc;have hjl:¬ j<L:=by omega
   have hK2:n2=zkR lim L L 2 n':=by
    rw [<- hK]
    cases m with
    | zero=>rfl
    | succ m =>
     show n2=if j<L then _ else n2
     rw [Gw hjl]
   exact nxI (by omega) ⟨(k+1,n2),(cvE rfl rfl),⟨hkl,hn2,by rw [hK2];exact hacc,rfl⟩,zdc (by omega)⟩
 ·have hc:¬ (k:Int)<(ys.length:Int):=dF hc;rw [Jz (by omega)] at hacc;have hacc:n'=zjl lim ws n:=hacc;rw [<- hacc];exact⟨rfl,rfl⟩
end
theorem zbu:(zng).toArray.size=333:=by kernel_rfl
theorem j5:(zbl).toArray.size=336:=by kernel_rfl
section
variable {w:Wd}
theorem zrO {n:Nat}:CB 200 #[i64 n] w (.agg (exC (ex0 n) none 0).toArray):=by
 refine z6 13 [i64 n] (.s .p (.c .p .p)) Tryz.func200 ?_;obtain⟨L,hL⟩:=nm (w.heap.size);obtain⟨X0,hX0⟩:=nm (w.alloc (.cells (zng).toArray 37));have f0:X0.heap[L]?=some (.cells (zng).toArray 37 (0,0)):=by rw [hX0,hL];exact zA w _
 have s0:X0.heap.size=L+1:=by rw [hX0,hL];exact wz _ _
 have hb0:Bw w X0:=by rw [hX0];exact (zba w _)
 refine⟨Unit,fun _=>⟨[(2,At0 L),(3,At0 (L+1))],[]⟩,fun _ X=>X.heap[L]?=some (.cells (zng).toArray 37 (0,0))/\qj X (L+1) (zdW n)/\Bw w X,?_,?_⟩
 ·refine⟨ze (zdW n),rfl,zk (X:=w.alloc (.cells (zng).toArray 37 (0,0))) (v := .agg (ze (zdW n)).toArray) k30 (zf _) (by kernel_rfl) (zK _) fun V hbV fV sV=>?_⟩;rw [<- hX0] at hbV fV sV;rw [s0] at fV sV;exact⟨(),⟨.cons (by rw [hL];rfl) (.cons (by rw [<- s0,hX0];rfl) .nil),rfl⟩,zb hbV f0,fV,(zst hb0 hbV)⟩
 rintro _ X ⟨f1,f2,hbX⟩;refine⟨ze (zdW n),zf _,za f2,hlt f2,ze (zdW n),zf _,za f2,hlt f2,ze (zdW n),zf _,za f2,hlt f2,ze (zdW n),zf _,za f2,hlt f2,ze (zdW n),zf _,za f2,hlt f2,ze (zdW n),zf _,za f2,hlt f2,exC (ex0 n) none 0,by kernel_rfl,?_⟩;exact zy (v := .agg (exC (ex0 n) none 0).toArray) k37 f1 (zH _ _ _) zbu (zcE _ _ _) ⟨exC (ex0 n) none 0,zH _ _ _,za (zq f1),rfl,zl hbX (by omega) _⟩
end
structure PathB (locs:Nat) (P:PathD):Prop where
 ev:P.ev.length<=24
 loc:∀ e∈P.ev,e.k=1\/e.k=2->e.l.toNat<locs
 dt:∀ p∈P.data,p.1<P.ev.length/\p.2<P.ev.length
 ct:∀ p∈P.ctrl,p.1<P.ev.length/\p.2<P.ev.length
 rm:∀ p∈P.rmw,p.1<P.ev.length/\p.2<P.ev.length
 dtl:P.data.length<=100000
 ctl:P.ctrl.length<=100000
 rml:P.rmw.length<=100000
structure PthS (B:Nat) (w:Wd) (x:zdp):Prop where
 lt:∀ a,x.2.2.1.1=some a\/x.2.2.2.1.1=some a\/x.2.2.2.2.1=some a->a.block<B
 ev:SlR evE w x.2.1.1 x.1.ev
 dt:SlR prE w x.2.2.1.1 x.1.data
 ct:SlR prE w x.2.2.2.1.1 x.1.ctrl
 rm:SlR prE w x.2.2.2.2.1 x.1.rmw
theorem PthS.below {B:Nat} {w X:Wd} {x:zdp} (h:PthS B w x) (hb:Bw w X):PthS B X x:=⟨h.lt,h.ev.below hb,h.dt.below hb,h.ct.below hb,h.rm.below hb⟩
theorem zaV:∀ (vs:List UInt8) (l:Nat),(jE l vs).length=vs.length
 | [],_=>rfl
 | v::vs,l=>by
  show (jE (l+1) vs).length+1=vs.length+1;rw [zaV vs]
theorem zfs:∀ (vs:List UInt8) (l:Nat) {k:Nat} (h:k<vs.length),(jE l vs)[k]?=some ⟨-1,2,UInt8.ofNat (l+k),vs[k],0,0,0⟩
 | [],_,_,h=>by cases h
 | v::vs,l,0,_=>rfl
 | v::vs,l,k+1,h=>by
  show (jE (l+1) vs)[k]?=_;rw [zfs vs (l+1) (Nat.lt_of_succ_lt_succ h),UH,UP 1 k];rfl
theorem zkx {vs:List UInt8} {k:Nat} (h:k<vs.length):(jE 0 vs).take (k+1)=(jE 0 vs).take k++[⟨-1,2,UInt8.ofNat k,vs[k],0,0,0⟩]:=by
 have hl:k<(jE 0 vs).length:=by rw [zaV];exact h
 have:=zfs vs 0 h;rw [gE hl,UX] at this;rw [tsg hl,Ug this]
theorem zoQ (n:Nat) (Ps:List PathD):n<=Ps.foldl (fun n P=>n+P.ev.length) n:=by
 induction Ps generalizing n with
 | nil=>exact Gc _
 | cons P Ps ih=>exact UT (Qy _ _) (ih (n+P.ev.length))
theorem zvd {B c:Nat} {V1:Wd} {p:OA} {l:List Ev} {y:Ev} {a:Addr} (ho:OwnS evE 158 B V1 p c l) (ha:zo V1 a ([y].flatMap evE.enc)) (hB:B<=V1.heap.size) (hl:l.length<=100000) {K:Value->Wd->Prop}
  (h:∀ p' c' w',OwnS evE 158 B w' p' c' (l++[y])->V1.grownBy w' (p.map Addr.block)->(∀ a,p'=some a->p=some a\/a.block=V1.heap.size)->K (.slice p' (l++[y]).length c') w') :
  SatR ((Builtin.append_ #[25,25] 25 #[.slice p l.length c,.slice (some a) 1 1]).run PG V1) K :=
 ji (E:=evE) (T:=158) (B:=B) (l:=l) (news:=[y]) (cap:=c) (m:=1) Tryz.underlying25 zd3 rfl rfl rfl ho rfl ha hB (by omega) (by show (l.length+1)*16<=_;omega) fun p' c' w' a1 a2 _ a4=>h p' c' w' a1 (by rw [zaH] at a2;exact a2) a4
theorem zoW {f g:Nat->UInt8}:∀ {k:Nat},k<4->(seg 32 (fun i=>u8 (f i))).take (k*8)++seg 8 (fun i=>u8 (g i))++(seg 32 (fun i=>u8 (f i))).drop (k*8+8)=seg 32 (fun i=>u8 (if i/8=k then g (i%8) else f i))
 | 0,_=>by kernel_rfl
 | 1,_=>by kernel_rfl
 | 2,_=>by kernel_rfl
 | 3,_=>by kernel_rfl
 | k+4,h=>by omega
theorem zj8 {A Z l r:List Value} {n o m:Nat} (hA:A.length=n) (hl:o+m<=l.length) (hr:r.length=m):(A++(l++Z)).take (n+o)++r++(A++(l++Z)).drop (n+o+m)=A++((l.take o++r++l.drop (o+m))++Z):=by
 subst hA;rw [List.take_length_add_append,Jg (by omega),UH,Jj,List.drop_append_of_le_length hl];simp only [KO]
theorem zqq (k:Nat) (P:PathD) (Ps:List PathD) (x:ExD):asR k (P::Ps) x=asR (k+1) Ps (zjr x k P):=rfl
theorem znm {k:Nat} {l:List Ev} {j:Nat} (h:j<l.length):zdR k (l.take (j+1))=zdR k (l.take j)++[{ l[j] with th:=k }]:=by
 rw [tsg h];unfold zdR;rw [QT];rfl
theorem zcj {n f:Nat} {ps:List (Nat×Nat)} (h:∀ p∈ps,p.1<n/\p.2<n) (hf:f+n<=48):zpa f ps:=fun p hp=>⟨by have:=(h p hp).1;omega,by have:=(h p hp).2;omega⟩
def zvj (B:Nat) (w:Wd) (vs:List Value) (m:MixD):Prop :=
 ∃ (q p1 p2 p3:OA) (c c1 c2 c3:Nat) (xs ys:List zay),vs=exC m.base q c++[.slice p1 m.rs.length c1,.slice p2 xs.length c2,.slice p3 ys.length c3]/\OwnS evE 158 B w q c m.base.ev /\
  OwnS zC 3 B w p1 c1 (m.rs.map (·.1))/\xs.map (·.1)=m.rs.map (·.2)/\OwnS qO 128 B w p2 c2 xs/\(∀ y∈xs,OwnS zC 3 B w y.2.1 y.2.2 y.1) /\
   ys.map (·.1)=m.wr/\OwnS qO 128 B w p3 c3 ys/\∀ y∈ys,OwnS zC 3 B w y.2.1 y.2.2 y.1
section
variable {w:Wd} {bP cl cp ci:Nat} {pc:List Value} {pl pp pi:OA} {init:List UInt8} {Ps:List zdp}
theorem zme (fP:w.heap[bP]?=some (.cells pc.toArray 103 (0,0))) (h1:pc[1]?=some (.slice pl init.length cl)) (h2:pc[2]?=some (.slice pi init.length ci)) (hi:SlR zO w pi init) (hi6:init.length<=6)
  (hP:SlR jv w pp Ps) (hPs:∀ x∈Ps,PthS w.heap.size w x) (hPb:∀ x∈Ps,PathB init.length x.1) (hP4:Ps.length<=4) :
  Calls PG 140 #[At0 bP,.slice pp Ps.length cp] w fun e w'=>(∃ vs,match zkk init (Ps.map (·.1)) with
   | some m=>e = .returned (.tuple #[.agg vs.toArray,.bool true])/\zvj w.heap.size w' vs m
   | none=>e = .returned (.tuple #[.agg vs.toArray,.bool false]))/\Bw w w':=by
 refine z6 143 [At0 bP,.slice pp Ps.length cp] (.c .p (.s .p (.c .p (.s .p (.s .p (.c .p (.c .p (.c .p (.c .p (.c .p .p)))))))))) Tryz.func140 ?_;obtain⟨L,hL⟩:=nm (w.heap.size);obtain⟨N,hN⟩:=nm (zoR init.length (Ps.map (·.1)));have hbP:=hlt fP;refine⟨Unit,fun _=>⟨[(0,At0 bP),(1,.slice pp Ps.length cp),(4,At0 L)],[]⟩,fun _ X=>X.heap[L]?=some (.cells (zbl).toArray 172 (0,0))/\Bw w X,?_,?_⟩
 ·exact⟨(),⟨.cons rfl (.cons rfl (.cons (by rw [hL];rfl) .nil)),rfl⟩,by rw [hL];exact zA w _,(zba w _)⟩
 rintro _ X ⟨f0,hbX⟩;have ldP:∀ {X:Wd},Bw w X->∀ {i:Nat} {v:Value},pc[i]?=some v->X.cell? ⟨bP,0+i,none⟩=some v:=fun {X} hb {i v} h=>zc (za ((hb.block bP hbP).trans fP)) (by simpa using h);refine⟨_,ldP hbX h1,Unit,fun _=>⟨[(0,At0 bP),(1,.slice pp Ps.length cp),(4,At0 L),(6,i64 N)],[]⟩,fun _ X=>X.heap[L]?=some (.cells (zbl).toArray 172 (0,0))/\Bw w X,?_,?_⟩
 ·refine⟨Nat×Nat,fun s=>⟨[(0,At0 bP),(1,.slice pp Ps.length cp),(4,At0 L),(6,i64 (s.2:Nat)),(23,.slice pp Ps.length cp),(24,i64 Ps.length),(25,i64 (s.1:Nat))],[]⟩,
   fun s Y=>s.1<=Ps.length/\s.2<=init.length+24*s.1/\((Ps.map (·.1)).drop s.1).foldl (fun n P=>n+P.ev.length) s.2=N/\Y.heap[L]?=some (.cells (zbl).toArray 172 (0,0))/\Bw w Y,fun s=>Ps.length-s.1,(0,init.length),
   (cvE rfl rfl),⟨Ge _,Gc _,hN.symm,f0,hbX⟩,?_⟩
  clear f0 hbX;rintro⟨k,n⟩ Y ⟨hk,hn,hacc,f0,hbY⟩;dsimp only at hk hn hacc ⊢;refine biE (fun hc=>?_) fun hc=>?_
  ·have hc:(k:Int)<(Ps.length:Int):=dT hc;have hkl:k<Ps.length:=by omega
   obtain⟨x,hx⟩:∃ x,Ps[k]=x:=⟨_,rfl⟩;have hxm:x∈Ps:=by rw [<- hx];exact gM hkl
   have hdp:(Ps.map (·.1)).drop k=x.1::(Ps.map (·.1)).drop (k+1):=by
    rw [<- JD (show k<(Ps.map (·.1)).length by simpa using hkl)];simp [hx]
   rw [hdp] at hacc;have hev:=(hPb x hxm).ev;obtain⟨bp,op,rfl,hlp,hat⟩:=hP.at hkl;refine⟨k,rfl,hkl,jv.enc x,jv.len x,by rw [<- hx];exact zw hbY (hat k hkl),nL hlp hbY.size,zk (X:=Y) (v := .agg (jv.enc x).toArray) znZ (jv.len x) rfl (Qk.2 fun u hu=>jv.one x u hu) fun Z hbZ fZ sZ=>?_⟩;have fZ:Z.heap[Y.heap.size]?=some (.cells (jv.enc x).toArray 241 (0,0)):=fZ;exact⟨.slice x.2.1.1 x.1.ev.length x.2.1.2,zc (za fZ) (i:=0) rfl,((n+x.1.ev.length:Nat):Int),(zi (by omega)).trans (by omega),nxI (by omega) ⟨(k+1,n+x.1.ev.length),(cvE rfl rfl),⟨hkl,by show n+x.1.ev.length<=init.length+24*(k+1);omega,hacc,zb hbZ f0,(zst hbY hbZ)⟩,zdc (by omega)⟩⟩
  ·have hc:¬ (k:Int)<(Ps.length:Int):=dF hc;rw [Jz (by rw [QQ];omega)] at hacc;have hacc:n=N:=hacc;subst hacc;exact⟨(),(cvE rfl rfl),f0,hbY⟩
 clear f0 hbX;rintro _ X ⟨f0,hbX⟩;have hmr:zkk init (Ps.map (·.1))=if N<=48 then some (zaa (zqo init (Ps.map (·.1))) init.length) else none:=by rw [hN];rfl
 have hLX:=hlt f0;refine biE (fun h=>?_) fun h=>?_
 ·have h:(48:Int)<(N:Nat):=dT h;rw [hmr,Gw (by omega)];refine⟨zbl,by kernel_rfl,?_⟩;exact zy (v := .agg (zbl).toArray) zpE f0 j5 j5 (by kernel_rfl) ⟨zbl,j5,za (zq f0),⟨_,rfl⟩,zl hbX (by omega) _⟩
 have h:¬ (48:Int)<(N:Nat):=dF h;have hN48:N<=48:=by omega
 rw [hmr,Gx hN48];refine cmo zrO ?_;rintro e Y ⟨rfl,hbY⟩;refine⟨exC (ex0 N) none 0++[zU,zU,zU],by kernel_rfl,?_⟩;refine zk (X:=Y) (v := .agg (exC (ex0 N) none 0++[zU,zU,zU]).toArray) zpE (by show (exC (ex0 N) none 0++[zU,zU,zU]).length=_;rw [lap,zH];rfl) j5 (by show (exC (ex0 N) none 0++[zU,zU,zU]).all _=true;rw [QL,zcE];rfl) fun V hbV fV sV=>⟨Nat,fun M=>⟨[(0,At0 bP),(1,.slice pp Ps.length cp),(4,At0 L),(9,At0 M),(10,At0 M)],[]⟩,fun M X=>L<M/\zaX X M (ex0 N) none 0 [zU,zU,zU]/\X.heap[L]?=some (.cells (zbl).toArray 172 (0,0))/\Bw w X,?_,?_⟩
 ·exact⟨Y.heap.size,(cvE rfl rfl),by have:=hbY.size;omega,fV,zb hbV (zb hbY f0),((zst hbX hbY)).trans (hbV.mono (by have:=hbX.size;have:=hbY.size;omega))⟩
 clear fV sV hbV V hbY Y;clear f0 hbX hLX;rintro M X ⟨hLM,fM,f0,hbX⟩;dsimp only at fM ⊢;refine⟨OA×Nat,fun _=>⟨[(0,At0 bP),(1,.slice pp Ps.length cp),(4,At0 L),(9,At0 M),(10,At0 M)],[]⟩,fun s X=>zaX X M { ex0 N with ev:=jE 0 init } s.1 s.2 [zU,zU,zU]/\OwnS evE 158 w.heap.size X s.1 s.2 (jE 0 init)/\X.heap[L]?=some (.cells (zbl).toArray 172 (0,0))/\Bw w X,?_,?_⟩
 ·refine⟨_,ldP hbX h2,?_⟩;refine⟨Nat×OA×Nat,fun s=>⟨[(0,At0 bP),(1,.slice pp Ps.length cp),(4,At0 L),(9,At0 M),(10,At0 M),(45,.slice pi init.length ci),(46,i64 init.length),(47,i64 (s.1:Nat))],[]⟩,
   fun s Y=>s.1<=init.length/\zaX Y M { ex0 N with ev:=(jE 0 init).take s.1 } s.2.1 s.2.2 [zU,zU,zU]/\OwnS evE 158 w.heap.size Y s.2.1 s.2.2 ((jE 0 init).take s.1)/\Y.heap[L]?=some (.cells (zbl).toArray 172 (0,0))/\Bw w Y,fun s=>init.length-s.1,(0,none,0),
   (cvE rfl rfl),⟨Ge _,fM,OwnS.nil,f0,hbX⟩,?_⟩
  clear fM f0 hbX;rintro⟨k,q,c⟩ Y ⟨hk,fM,ho,f0,hbY⟩;dsimp only at hk fM ho ⊢;refine biE (fun hc=>?_) fun hc=>?_
  ·have hc:(k:Int)<(init.length:Int):=dT hc;have hkl:k<init.length:=by omega
   obtain⟨bi,oi,rfl,hli,hat⟩:=hi.at hkl;have htk:=zkx hkl;have htl:((jE 0 init).take k).length=k:=by rw [Qv,zaV];omega
   refine⟨k,rfl,hkl,u8 init[k],zc (zw hbY (hat k hkl)) (i:=0) rfl,_,zcA fM,_,w8N k,?_⟩;obtain⟨e,he⟩:∃ e:Ev,e=⟨-1,2,UInt8.ofNat k,init[k],0,0,0⟩:=⟨_,rfl⟩;refine⟨evE.enc e,by rw [he];rfl,?_⟩;refine⟨⟨by decide,by decide,rfl⟩,evE.enc e,zbc rfl rfl,?_⟩;obtain⟨Y1,hY1⟩:=nm (Y.alloc (.cells (evE.enc e).toArray 158));have hb1:Bw Y Y1:=by rw [hY1];exact (zba _ _)
   have sY:=hbY.size;have ho1:=ho.below hb1;unfold zeC zav;show SatR _ _;rw [<- hY1];refine zvd ho1 (by rw [hY1];exact qF evE e) (by have:=hb1.size;omega) (by omega) fun q1 c1 U oU gU hat1=>?_;have fMU:=qg (zb hb1 fM) ho1 (by decide) gU;have f0U:=qg (zb hb1 f0) ho1 (by decide) gU;refine zu k25 fMU (o:=0+0) (v := .slice q1 ((jE 0 init).take k++[e]).length c1) rfl rfl (by rw [lap,zH];decide) rfl fun S fS gS sS=>?_;rw [show 0+0=0 from rfl,zsA,he,<- htk] at fS;refine nxI (by omega) ⟨(k+1,q1,c1),(cvE rfl rfl),⟨hkl,fS,by rw [he,<- htk] at oU;exact qh oU fMU (by decide) gS,(gS.block L (hlt f0U) (by simp;omega)).trans f0U,?_⟩,zdc (by omega)⟩;have sU:=gU.size;have s1:=hb1.size;exact ((hbY.trans (hb1.mono sY)).trans (q6 ho1 (by omega) (Gc _) gU)).trans (zm gS (by omega) (by omega))
  ·have hc:¬ (k:Int)<(init.length:Int):=dF hc;obtain rfl:k=init.length:=by omega
   have e:(jE 0 init).take init.length=jE 0 init:=JE (by rw [zaV];exact Gc _);rw [e] at fM ho;exact⟨(q,c),(cvE rfl rfl),fM,ho,f0,hbY⟩
 clear fM f0 hbX;rintro⟨q,c⟩ X ⟨fM,ho,f0,hbX⟩;dsimp only at fM ho ⊢;obtain⟨x0,hx0⟩:∃ x0:ExD,x0={ ex0 N with ev:=jE 0 init }:=⟨_,rfl⟩;have hx0e:x0.ev=jE 0 init:=by rw [hx0]
 rw [<- hx0] at fM;rw [<- hx0e] at ho;refine⟨OA×Nat,fun _=>⟨[(0,At0 bP),(1,.slice pp Ps.length cp),(4,At0 L),(9,At0 M),(10,At0 M)],[]⟩,fun s X=>zaX X M (asR 0 (Ps.map (·.1)) x0) s.1 s.2 [zU,zU,zU]/\OwnS evE 158 w.heap.size X s.1 s.2 (asR 0 (Ps.map (·.1)) x0).ev/\(asR 0 (Ps.map (·.1)) x0).ev.length=N/\(∀ e∈(asR 0 (Ps.map (·.1)) x0).ev,e.k=1\/e.k=2->e.l.toNat<init.length)/\X.heap[L]?=some (.cells (zbl).toArray 172 (0,0))/\Bw w X,?_,?_⟩
 ·refine⟨Nat×ExD×OA×Nat,fun s=>⟨[(0,At0 bP),(1,.slice pp Ps.length cp),(4,At0 L),(9,At0 M),(10,At0 M),(66,.slice pp Ps.length cp),(67,i64 Ps.length),(68,i64 (s.1:Nat))],[]⟩,
   fun s Y=>s.1<=Ps.length/\asR s.1 ((Ps.map (·.1)).drop s.1) s.2.1=asR 0 (Ps.map (·.1)) x0/\((Ps.map (·.1)).drop s.1).foldl (fun n P=>n+P.ev.length) s.2.1.ev.length=N/\(zI s.2.1.dt.to/\zI s.2.1.ct.to/\zI s.2.1.rm.to)/\(∀ e∈s.2.1.ev,e.k=1\/e.k=2->e.l.toNat<init.length) /\
    zaX Y M s.2.1 s.2.2.1 s.2.2.2 [zU,zU,zU]/\OwnS evE 158 w.heap.size Y s.2.2.1 s.2.2.2 s.2.1.ev/\Y.heap[L]?=some (.cells (zbl).toArray 172 (0,0))/\Bw w Y,fun s=>Ps.length-s.1,(0,x0,q,c),
   (cvE rfl rfl),⟨Ge _,rfl,by rw [hN,hx0e,zaV];rfl,?_,?_,fM,ho,f0,hbX⟩,?_⟩
  ·rw [hx0];exact⟨fun i _=>(by decide:0<2^64),fun i _=>(by decide:0<2^64),fun i _=>(by decide:0<2^64)⟩
  ·intro e he _;rw [hx0e] at he;obtain⟨j,hj⟩:=List.mem_iff_getElem?.1 he;have hjl:j<init.length:=by
    have:=(Jq.1 hj).1
    rwa [zaV] at this
   rw [zfs init 0 hjl] at hj;rw [<- Ug hj];show (UInt8.ofNat (0+j)).toNat<init.length;have:=zlb (n:=0+j) (by omega);omega
  clear fM ho f0 hbX;rintro⟨k,x,q,c⟩ Y ⟨hk,hacc,hfold,⟨hw1,hw2,hw3⟩,hloc,fM,ho,f0,hbY⟩;dsimp only at hk hacc hfold hw1 hw2 hw3 hloc fM ho ⊢;refine biE (fun hc=>?_) fun hc=>?_
  ·have hc:(k:Int)<(Ps.length:Int):=dT hc;have hkl:k<Ps.length:=by omega
   obtain⟨y,hy⟩:∃ y,Ps[k]=y:=⟨_,rfl⟩;have hym:y∈Ps:=by rw [<- hy];exact gM hkl
   have hdp:(Ps.map (·.1)).drop k=y.1::(Ps.map (·.1)).drop (k+1):=by
    rw [<- JD (show k<(Ps.map (·.1)).length by simpa using hkl)];simp [hy]
   rw [hdp] at hacc hfold;rw [zqq] at hacc;have hfold:((Ps.map (·.1)).drop (k+1)).foldl (fun n P=>n+P.ev.length) (x.ev.length+y.1.ev.length)=N:=hfold;have hsz:=zoQ (x.ev.length+y.1.ev.length) ((Ps.map (·.1)).drop (k+1));rw [hfold] at hsz;obtain⟨b24,bloc,bdt,bct,brm,ldt,lct,lrm⟩:=hPb y hym;obtain⟨bp,op,rfl,hlp,hat⟩:=hP.at hkl;refine⟨k,rfl,hkl,jv.enc y,jv.len y,by rw [<- hy];exact zw hbY (hat k hkl),nL hlp hbY.size,zk (X:=Y) (v := .agg (jv.enc y).toArray) znZ (jv.len y) rfl (Qk.2 fun u hu=>jv.one y u hu) fun Z hbZ fZ sZ=>?_⟩;obtain⟨D,hD⟩:=nm (Y.heap.size);have fD:Z.heap[D]?=some (.cells (jv.enc y).toArray 241 (0,0)):=by rw [hD];exact fZ
   have hMD:M<D:=by rw [hD];exact hlt fM
   have eD:At0 Y.heap.size=At0 D:=by rw [hD]
   have fMZ:=zb hbZ fM;have f0Z:=zb hbZ f0;have hoZ:=ho.below hbZ;have hwZ:=zst hbY hbZ;refine⟨_,zcA fMZ,.slice y.2.1.1 y.1.ev.length y.2.1.2,by rw [<- hD];exact zc (za fD) (i:=0) rfl,?_⟩;refine⟨Nat×OA×Nat,fun s=>⟨[(0,At0 bP),(1,.slice (some ⟨bp,op,none⟩) Ps.length cp),(4,At0 L),(9,At0 M),(10,At0 M),(13,i64 (k:Nat)),(14,At0 D),(15,i64 x.ev.length),(66,.slice (some ⟨bp,op,none⟩) Ps.length cp),(67,i64 Ps.length),(68,i64 (k:Nat)),(79,.slice y.2.1.1 y.1.ev.length y.2.1.2),(80,i64 y.1.ev.length),(81,i64 (s.1:Nat))],[]⟩,
    fun s V=>s.1<=y.1.ev.length/\zaX V M { x with ev:=x.ev++zdR k (y.1.ev.take s.1) } s.2.1 s.2.2 [zU,zU,zU]/\OwnS evE 158 w.heap.size V s.2.1 s.2.2 (x.ev++zdR k (y.1.ev.take s.1))/\V.heap[L]?=some (.cells (zbl).toArray 172 (0,0))/\V.heap[D]?=some (.cells (jv.enc y).toArray 241 (0,0))/\Bw w V,fun s=>y.1.ev.length-s.1,(0,q,c),
    ⟨.cons rfl (.cons rfl (.cons rfl (.cons rfl (.cons rfl (.cons rfl (.cons (Gq some eD) (.cons rfl (.cons rfl (.cons rfl (.cons rfl (.cons rfl (.cons rfl (.cons rfl .nil))))))))))))),rfl⟩,⟨Ge _,by show zaX Z M { x with ev:=x.ev++[] } q c _;rw [QM];exact fMZ,by show OwnS _ _ _ Z q c (x.ev++[]);rw [QM];exact hoZ,f0Z,fD,hwZ⟩,?_⟩
   clear fMZ f0Z hoZ hwZ fZ sZ hbZ fM ho f0 hbY;rintro⟨j,q,c⟩ V ⟨hj,fM,ho,f0,fD,hbV⟩;dsimp only at hj fM ho ⊢;have sV:=hbV.size;have hS:=(hPs y hym).below hbV;refine biE (fun hc=>?_) fun hc=>?_
   ·have hc:(j:Int)<(y.1.ev.length:Int):=dT hc;have hjl:j<y.1.ev.length:=(by omega);obtain⟨e,he⟩:∃ e,y.1.ev[j]=e:=⟨_,rfl⟩;have htk:=znm (k:=k) hjl;rw [he] at htk;obtain⟨be,oe,hbe,hle,hate⟩:=hS.ev.at hjl;rw [hbe];refine⟨j,rfl,hjl,evE.enc e,rfl,by rw [<- he];exact hate j hjl,hle,?_⟩;refine zk (X:=V) (v := .agg (evE.enc e).toArray) zd3 rfl rfl (Qk.2 fun u hu=>evE.one e u hu) fun T hbT fT sT=>?_;have fT:T.heap[V.heap.size]?=some (.cells (evE.enc e).toArray 158 (0,0)):=fT;refine zu k3 fT (o:=0+0) (v:=i64 (k:Nat)) rfl rfl (by show 0<7;decide) rfl fun T2 fT2 gT2 sT2=>?_;obtain⟨e2,he2⟩:∃ e2:Ev,e2={ e with th:=k }:=⟨_,rfl⟩;have fT2:T2.heap[V.heap.size]?=some (.cells (evE.enc e2).toArray 158 (0,0)):=(by rw [he2];exact fT2);have hVT:Bw V T2:=hbT.trans (zm gT2 (by omega) (Gc _));have fM2:=zb hVT fM;have fT3:=hdr fT2;have hd:Bw T2 T2.drew:=(Gh _ T2).drew;have hlenx:(x.ev++zdR k (y.1.ev.take j)).length<=48:=by
     unfold zdR;rw [lap,QQ,Qv];omega
    have ho2:=ho.below hVT;refine DrawE.ord [7,10] [0,1,2,3,4,5,6,7,8,9,10] (by kernel_rfl) ⟨_,zcA (hdr fM2),evE.enc e2,rfl,za fT3,hlt fT3,⟨by decide,by decide,rfl⟩,evE.enc e2,zbc rfl rfl,?_⟩;obtain⟨Y1,hY1⟩:=nm (T2.drew.alloc (.cells (evE.enc e2).toArray 158));have hb1:Bw T2 Y1:=(by rw [hY1];exact hd.trans ((Gh T2.drew.heap.size _).alloc (Gc _) _));refine⟨(zba _ _),?_⟩;have sT:=hVT.size;have s1:=hb1.size;have ho3:=ho2.below hb1;unfold znN zav;show SatR _ _;rw [<- hY1];refine zvd ho3 (by rw [hY1];exact qF evE e2) (by omega) (by omega) fun q1 c1 U oU gU hat1=>?_;have fMU:=qg (zb hb1 fM2) ho3 (by decide) gU;have f0U:=qg (zb (hVT.trans (hb1.mono sT)) f0) ho3 (by decide) gU;have fDU:=qg (zb (hVT.trans (hb1.mono sT)) fD) ho3 (by decide) gU;refine zu k25 fMU (o:=0+0) (v := .slice q1 ((x.ev++zdR k (y.1.ev.take j))++[e2]).length c1) rfl rfl (by rw [lap,zH];decide) rfl fun S fS gS sS=>?_;have hev2:(x.ev++zdR k (y.1.ev.take j))++[e2]=x.ev++zdR k (y.1.ev.take (j+1)):=(by rw [htk,he2,KO]);rw [show 0+0=0 from rfl,zsA,hev2] at fS;refine nxI (by omega) ⟨(j+1,q1,c1),(cvE rfl rfl),⟨hjl,fS,by rw [hev2] at oU;exact qh oU fMU (by decide) gS,(gS.block L (hlt f0U) (by simp;omega)).trans f0U,(gS.block D (hlt fDU) (by simp;omega)).trans fDU,?_⟩,zdc (by omega)⟩;have sU:=gU.size;exact ((hbV.trans ((hVT.trans (hb1.mono sT)).mono sV)).trans (q6 ho3 (by omega) (Gc _) gU)).trans (zm gS (by omega) (by omega))
   ·have hc:¬ (j:Int)<(y.1.ev.length:Int):=dF hc;obtain rfl:j=y.1.ev.length:=(by omega);rw [Qx] at fM ho;obtain⟨x1,hx1⟩:∃ x1:ExD,x1={ x with ev:=x.ev++zdR k y.1.ev }:=⟨_,rfl⟩;rw [<- hx1] at fM;have fM0:=fM;have ho0:=ho;have f00:=f0;have fD0:=fD;have hb0:=hbV;have hS0:=hS;obtain⟨x2,hx2⟩:∃ z:ExD,z={ x1 with dt:=zls x.ev.length y.1.data x.dt }:=⟨_,rfl⟩;obtain⟨A1,Z1,hA1,hE1⟩:=zpZ x1 q c [zU,zU,zU];have hx1dt:x1.dt=x.dt:=(by rw [hx1]);have hR1:RelAt V M 148 172 A1 Z1 x.dt:=⟨hA1,by
     have h:=hE1 x1.dt;rw [hx1dt] at h;rw [<- h,<- hx1dt];exact fM0⟩
    have dw1:Bw V V.drew:=(Gh _ _).drew;refine DrawE.ord [6] [0,1,2,3,4,5,6] (by kernel_rfl) ⟨.slice y.2.2.1.1 y.1.data.length y.2.2.1.2,zc (za (hdr fD0)) (i:=1) rfl,cmo (zo9 (f:=x.ev.length) (hR1.same (Y:=V.drew) rfl) hw1 ((hS0.dt).below dw1) (fun a ha=>by have:=hS0.lt a (.inl ha);omega) ldt (zcj bdt (by omega))) ?_⟩;rintro e V1 ⟨rfl,hRn1,gn1⟩;have g1:V.grownBy V1 (some M):=zg (zh dw1) gn1;have sg1:=g1.size;have fM1:zaX V1 M x2 q c [zU,zU,zU]:=by
     have h:=hRn1.cells;rw [<- hE1] at h;rw [hx2];exact h
    have ho1:=qh ho0 fM0 (by decide) g1;have f01:=(g1.block L (hlt f00) (by simp;omega)).trans f00;have fD1:=(g1.block D (hlt fD0) (by simp;omega)).trans fD0;have hb1:Bw w V1:=hb0.trans (zm g1 hb0.size (by omega));have hS1:=(hPs y hym).below hb1;obtain⟨x3,hx3⟩:∃ z:ExD,z={ x2 with ct:=zls x.ev.length y.1.ctrl x.ct }:=⟨_,rfl⟩;obtain⟨A2,Z2,hA2,hE2⟩:=zp0 x2 q c [zU,zU,zU];have hx2ct:x2.ct=x.ct:=(by rw [hx2];rw [hx1]);have hR2:RelAt V1 M 197 172 A2 Z2 x.ct:=⟨hA2,by
     have h:=hE2 x2.ct;rw [hx2ct] at h;rw [<- h,<- hx2ct];exact fM1⟩
    have dw2:Bw V1 V1.drew:=(Gh _ _).drew;refine DrawE.ord [6] [0,1,2,3,4,5,6] (by kernel_rfl) ⟨.slice y.2.2.2.1.1 y.1.ctrl.length y.2.2.2.1.2,zc (za (hdr fD1)) (i:=2) rfl,cmo (zo9 (f:=x.ev.length) (hR2.same (Y:=V1.drew) rfl) hw2 ((hS1.ct).below dw2) (fun a ha=>by have:=hS1.lt a (.inr (.inl ha));omega) lct (zcj bct (by omega))) ?_⟩;rintro e V2 ⟨rfl,hRn2,gn2⟩;have g2:V1.grownBy V2 (some M):=zg (zh dw2) gn2;have sg2:=g2.size;have fM2:zaX V2 M x3 q c [zU,zU,zU]:=by
     have h:=hRn2.cells;rw [<- hE2] at h;rw [hx3];exact h
    have ho2:=qh ho1 fM1 (by decide) g2;have f02:=(g2.block L (hlt f01) (by simp;omega)).trans f01;have fD2:=(g2.block D (hlt fD1) (by simp;omega)).trans fD1;have hb2:Bw w V2:=hb1.trans (zm g2 hb1.size (by omega));have hS2:=(hPs y hym).below hb2;obtain⟨x4,hx4⟩:∃ z:ExD,z={ x3 with rm:=zls x.ev.length y.1.rmw x.rm }:=⟨_,rfl⟩;obtain⟨A3,Z3,hA3,hE3⟩:=zpW x3 q c [zU,zU,zU];have hx3rm:x3.rm=x.rm:=(by rw [hx3];rw [hx2];rw [hx1]);have hR3:RelAt V2 M 246 172 A3 Z3 x.rm:=⟨hA3,by
     have h:=hE3 x3.rm;rw [hx3rm] at h;rw [<- h,<- hx3rm];exact fM2⟩
    have dw3:Bw V2 V2.drew:=(Gh _ _).drew;refine DrawE.ord [6] [0,1,2,3,4,5,6] (by kernel_rfl) ⟨.slice y.2.2.2.2.1 y.1.rmw.length y.2.2.2.2.2,zc (za (hdr fD2)) (i:=3) rfl,cmo (zo9 (f:=x.ev.length) (hR3.same (Y:=V2.drew) rfl) hw3 ((hS2.rm).below dw3) (fun a ha=>by have:=hS2.lt a (.inr (.inr ha));omega) lrm (zcj brm (by omega))) ?_⟩;rintro e V3 ⟨rfl,hRn3,gn3⟩;have g3:V2.grownBy V3 (some M):=zg (zh dw3) gn3;have sg3:=g3.size;have fM3:zaX V3 M x4 q c [zU,zU,zU]:=by
     have h:=hRn3.cells;rw [<- hE3] at h;rw [hx4];exact h
    have ho3:=qh ho2 fM2 (by decide) g3;have f03:=(g3.block L (hlt f02) (by simp;omega)).trans f02;have fD3:=(g3.block D (hlt fD2) (by simp;omega)).trans fD2;have hb3:Bw w V3:=hb2.trans (zm g3 hb2.size (by omega));have hS3:=(hPs y hym).below hb3;have hx5:zjr x k y.1={ x4 with regs:=fun i=>if i/8=k then y.1.regs (i%8) else x4.regs i }:=(by rw [hx4,hx3,hx2,hx1];rfl);obtain⟨A5,Z5,hA5,hE5⟩:=zrG x4 q c [zU,zU,zU];have hM5:exC x4 q c++[zU,zU,zU]=A5++(seg 32 (fun i=>u8 (x4.regs i))++Z5):=hE5 x4.regs;have fM5:V3.heap[M]?=some (.cells (A5++(seg 32 (fun i=>u8 (x4.regs i))++Z5)).toArray 172 (0,0)):=(by rw [<- hM5];exact fM3);have hsub:((jv.enc y).drop 4).take 8=seg 8 (fun i=>u8 (y.1.regs i)):=JE (by rw [Qu,jv.len];decide);refine DrawE.ord [8] [0,1,2,3,4,5,6,7,8] (by kernel_rfl) ⟨seg 8 (fun i=>u8 (y.1.regs i)),zG _ _,by rw [<- hsub];have:=zM (n:=4) (m:=8) (za (hdr fD3));exact this,hlt (hdr fD3),k,rfl,by omega,?_⟩;refine jj k31 (hdr fM5) (o:=295+k*8) (v := .agg (seg 8 (fun i=>u8 (y.1.regs i))).toArray) (zG _ _) (by show 295+k*8+(seg 8 _).length<=(A5++(seg 32 _++Z5)).length;rw [<- hM5,lap,zH,zG];show _<=336;omega) (zbo fun _=>rfl) fun S fS gS sS=>?_;obtain⟨x5,hx5e⟩:=nm (zjr x k y.1);have fS:zaX S M x5 q c [zU,zU,zU]:=by
     refine fS.trans ?_;have e1:=zj8 (A:=A5) (Z:=Z5) (l:=seg 32 (fun i=>u8 (x4.regs i))) (r:=seg 8 (fun i=>u8 (y.1.regs i))) (o:=k*8) (m:=8) hA5 (by rw [zG];omega) (zG _ _);rw [zoW (by omega)] at e1;rw [hx5e,hx5,hE5,<- e1];show some (Obj.cells ((A5++(seg 32 (fun i=>u8 (x4.regs i))++Z5)).take (295+k*8)++seg 8 (fun i=>u8 (y.1.regs i))++(A5++(seg 32 (fun i=>u8 (x4.regs i))++Z5)).drop (295+k*8+(seg 8 (fun i=>u8 (y.1.regs i))).length)).toArray _ _)=_;rw [zG]
    have dw4:Bw V3 V3.drew:=(Gh _ _).drew;have g4:V3.grownBy S (some M):=zg (zh dw4) gS;have hev5:x5.ev=x.ev++zdR k y.1.ev:=(by rw [hx5e];rfl);have hx1e:x1.ev=x5.ev:=(by rw [hx1,hev5]);have hlen5:x5.ev.length=x.ev.length+y.1.ev.length:=(by rw [hev5,lap];unfold zdR;rw [QQ]);refine nxI (by omega) ⟨(k+1,x5,q,c),(cvE rfl rfl),⟨hkl,by rw [hx5e];exact hacc,by rw [hlen5];exact hfold,?_,fun e he hk=>?_,fS,?_,(g4.block L (hlt f03) (by simp;omega)).trans f03,hb3.trans (zm g4 hb3.size (by omega))⟩,zdc (by omega)⟩
    ·rw [hx5e];exact⟨zey hw1 (zcj bdt (by omega)),zey hw2 (zcj bct (by omega)),zey hw3 (zcj brm (by omega))⟩
    ·have he:e∈x5.ev:=he;rw [hev5] at he;rcases QU.1 he with he | he
     ·exact hloc e he hk
     ·unfold zdR at he;obtain⟨e',he',rfl⟩:=UO.1 he;exact bloc e' he' hk
    ·show OwnS evE 158 w.heap.size S q c x5.ev;rw [hev5];exact qh ho3 fM3 (by decide) g4
  ·have hc:¬ (k:Int)<(Ps.length:Int):=dF hc;rw [Jz (by rw [QQ];omega)] at hacc hfold;have hacc:x=asR 0 (Ps.map (·.1)) x0:=hacc;have hfold:x.ev.length=N:=hfold;rw [<- hacc];exact⟨(q,c),(cvE rfl rfl),fM,ho,hfold,hloc,f0,hbY⟩
 clear fM ho f0 hbX;rintro⟨q,c⟩ X ⟨fM,ho,hxl,hloc,f0,hbX⟩;dsimp only at fM ho ⊢;obtain⟨AX,hAX⟩:=nm (asR 0 (Ps.map (·.1)) x0);rw [<- hAX] at fM ho hxl hloc;obtain⟨BX,hBX⟩:∃ BX:ExD,BX={ AX with po:=poR AX.ev }:=⟨_,rfl⟩;have hbase:zqo init (Ps.map (·.1))=BX:=by
  rw [hBX,hAX,hx0,hN];rfl
 rw [hbase];refine⟨Unit,fun _=>⟨[(0,At0 bP),(1,.slice pp Ps.length cp),(4,At0 L),(9,At0 M),(10,At0 M)],[]⟩,fun _ X=>zaX X M BX q c [zU,zU,zU]/\OwnS evE 158 w.heap.size X q c BX.ev/\X.heap[L]?=some (.cells (zbl).toArray 172 (0,0))/\Bw w X,?_,?_⟩
 ·refine⟨_,zcA fM,cmo (zc5 ho.row (by omega)) ?_⟩;rintro e Y ⟨rfl,hbY⟩;have fMY:=zb hbY fM;obtain⟨A5,Z5,hA5,hE5⟩:=zpX AX q c [zU,zU,zU];have hM5:exC AX q c++[zU,zU,zU]=A5++(ze AX.po++Z5):=hE5 AX.po;have fM5:Y.heap[M]?=some (.cells (A5++(ze AX.po++Z5)).toArray 172 (0,0)):=by rw [<- hM5];exact fMY
  refine jj k30 fM5 (o:=0+1) (v := .agg (ze (poR AX.ev)).toArray) (zf _) (by show 0+1+(ze _).length<=(A5++(ze AX.po++Z5)).length;rw [<- hM5,lap,zH,zf];decide) (zK _) fun S fS gS sS=>?_;have fS:zaX S M BX q c [zU,zU,zU]:=by
   refine fS.trans ?_;have e1:=zj8 (A:=A5) (Z:=Z5) (l:=ze AX.po) (r:=ze (poR AX.ev)) (o:=0) (m:=49) hA5 (by rw [zf];omega) (zf _);rw [hBX,hE5];have e2:(ze AX.po).take 0++ze (poR AX.ev)++(ze AX.po).drop (0+49)=ze (poR AX.ev):=by
    rw [Ur,QW,Jz (by rw [zf];omega),QM]
   rw [e2] at e1;rw [<- e1];show some (Obj.cells ((A5++(ze AX.po++Z5)).take (0+1)++ze (poR AX.ev)++(A5++(ze AX.po++Z5)).drop (0+1+(ze (poR AX.ev)).length)).toArray _ _)=_;rw [zf]
  have hLX:=hlt f0;have hbwY:=zst hbX hbY;exact⟨(),(cvE rfl rfl),fS,by rw [hBX];exact qh (ho.below hbY) fMY (by decide) gS,(gS.block L (hlt (zb hbY f0)) (by simp;omega)).trans (zb hbY f0),hbwY.trans (zm gS hbwY.size (by omega))⟩
 have hBe:BX.ev=AX.ev:=by rw [hBX]
 clear fM ho f0 hbX;rintro _ X ⟨fM,ho,f0,hbX⟩;refine⟨List Value,fun _=>⟨[(0,At0 bP),(1,.slice pp Ps.length cp),(4,At0 L),(9,At0 M),(10,At0 M)],[]⟩,fun vs X=>X.heap[M]?=some (.cells vs.toArray 172 (0,0))/\zvj w.heap.size X vs (zaa BX init.length)/\X.heap[L]?=some (.cells (zbl).toArray 172 (0,0))/\Bw w X,?_,?_⟩
 ·refine⟨_,ldP hbX h1,?_⟩;have hqM:∀ a,q=some a->a.block≠M:=fun a ha e=>by
   obtain⟨_,_,cur,h'⟩:=zx ho ha;rw [e,fM] at h';simp at h'
  refine cmo (zog fM ho.row hqM (by rw [hBe];omega) (by omega) (by rw [hBe];exact hloc)) ?_;rintro e Y ⟨rfl,⟨p1,p2,p3,c1,c2,c3,xs,ys,fY,h1',h2',h3',h4',h5',h6',h7'⟩,gY⟩;have hwX:=hbX.size;refine⟨_,(cvE rfl rfl),fY,⟨q,p1,p2,p3,c,c1,c2,c3,xs,ys,rfl,qh ho fM (by decide) gY,h1'.lower hwX,h2',h3'.lower hwX,fun y hy=>(h4' y hy).lower hwX,h5',h6'.lower hwX,fun y hy=>(h7' y hy).lower hwX⟩,(gY.block L (hlt f0) (by simp;omega)).trans f0,hbX.trans (zm gY hbX.size (by omega))⟩
 clear fM ho f0 hbX;rintro vs X ⟨fM,hv,f0,hbX⟩;have hvl:vs.length=336:=by
  obtain⟨q,p1,p2,p3,c,c1,c2,c3,xs,ys,e,_⟩:=hv;rw [e,lap,zH];rfl
 have hv1:vs.all Value.oneCell'=true:=by
  obtain⟨q,p1,p2,p3,c,c1,c2,c3,xs,ys,e,_⟩:=hv;rw [e,QL,zcE];rfl
 refine⟨vs,hvl,za fM,hlt fM,zy (v := .agg vs.toArray) zpE f0 hvl j5 hv1 ⟨vs,hvl,za (zq f0),⟨vs,rfl,?_⟩,zl hbX (by omega) _⟩⟩;obtain⟨q,p1,p2,p3,c,c1,c2,c3,xs,ys,e,k1,k2,k3,k4,k5,k6,k7,k8⟩:=hv;have kp:∀ {α:Type} {E:Enc α} {T cc:Nat} {r:OA} {ll:List α},T≠172->OwnS E T w.heap.size X r cc ll->OwnS E T w.heap.size (X.setRow L vs.toArray) r cc ll:=fun {α E T cc r ll} hT h=>qh h f0 hT (qq X L _);exact⟨q,p1,p2,p3,c,c1,c2,c3,xs,ys,e,kp (by decide) k1,kp (by decide) k2,k3,kp (by decide) k4,fun y hy=>kp (by decide) (k5 y hy),k6,kp (by decide) k7,fun y hy=>kp (by decide) (k8 y hy)⟩
end
structure ExV (w:Wd) (x:ExD) (q:OA):Prop where
 ev:SlR evE w q x.ev
 n:x.ev.length<=20
 po:zI x.po.to
 rf:zI x.rf.to
 co:zI x.co.to
 dt:zI x.dt.to
 ct:zI x.ct.to
 rm:zI x.rm.to
theorem ExV.below {w w2:Wd} {x:ExD} {q:OA} (h:ExV w x q) (hb:Bw w w2):ExV w2 x q:=⟨h.ev.below hb,h.n,h.po,h.rf,h.co,h.dt,h.ct,h.rm⟩
theorem zca {w:Wd} {q:OA} {l:List Ev} (h:SlR evE w q l) {i:Nat} (hi:i<l.length):∃ b o,q=some ⟨b,o,none⟩/\b<w.heap.size/\zo w ⟨b,o+i*7,none⟩ (evE.enc (l.getD i ev0)):=by
 obtain⟨b,o,hq,hb,hat⟩:=h.at hi;refine⟨b,o,hq,hb,?_⟩;rw [gDe,gE hi];exact hat i hi
theorem zvt:TyEq PG 27 false 1 1 (fun cs=>∃ x,cs=[.int .u64 x]) := .int Tryz.underlying27 (fun w=>Tryz.isAgg27 w) (jr (by kernel_rfl) (by kernel_rfl)).1 (by kernel_rfl)
theorem zuk:TyEq PG 3 false 1 1 (fun cs=>∃ x,cs=[.int .i64 x]) := .int Tryz.underlying3 (fun w=>Tryz.isAgg3 w) (jr (by kernel_rfl) (by kernel_rfl)).1 (by kernel_rfl)
theorem zuh:∃ G,TyEq PG 28 true 48 2 G/\∀ f:Nat->Nat,G (zaG f):=by
 refine⟨_,.array (m:=48) (by decide) Tryz.underlying28 (fun w=>Tryz.isAgg28 w) (jr (by kernel_rfl) (by kernel_rfl)).1 (by kernel_rfl) zvt,fun f i hi=>⟨(f i:Nat),?_⟩⟩;unfold qw;have h:=zcy f hi;rw [Gd];have hl:i<(zaG f).length:=by rw [za4];exact hi
 rw [<- JD hl,List.take_succ_cons,Ur];rw [gE hl] at h;rw [Ug h];rfl
theorem zui:∃ G,TyEq PG 30 true 49 3 G/\∀ r:RelD,G (ze r):=by
 obtain⟨G,h1,h2⟩:=zuh;refine⟨_,.struct (uf Tryz.underlying30).1 (by kernel_rfl) (fun w=>Tryz.isAgg30 w) (jr (by kernel_rfl) (by kernel_rfl)).1 (by kernel_rfl)
  (by rw [(uf Tryz.underlying30).2];exact .cons (by decide) rfl (zuk.up 1) (.cons (by decide) rfl h1 .nil)),fun r=>?_⟩
 exact⟨⟨_,rfl⟩,by have:=h2 r.to;have e:((ze r).drop 1).take 48=zaG r.to:=JE (by rw [show (ze r).drop 1=zaG r.to from rfl,za4];decide);rw [e];exact this,trivial⟩
theorem znF {a b:RelD}:ze a=ze b↔zci a b=true:=by
 unfold zci;rw [bAT,dE,Qk];constructor
 ·intro h;have h1:i64 a.n=i64 b.n:=Jv h;have h2:zaG a.to=zaG b.to:=List.tail_eq_of_cons_eq h;refine⟨by injection h1,fun i hi=>Ut ?_⟩;have hi:=Uq.1 hi;have h3:=zcy a.to hi;rw [h2,zcy b.to hi] at h3;have h4:=Ug h3;unfold s64 at h4;injection h4 with _ h5;omega
 ·rintro⟨h1,h2⟩;unfold ze zaG;rw [h1];congr 1;refine Kj fun i hi=>?_;rw [dT (h2 i hi)]
theorem zmZ (x y:Operand) (a b:RelD) (w:Wd):(do eqGuard .eql 30 x y (.agg (ze a).toArray) (.agg (ze b).toArray);binOp .eql 30 (.agg (ze a).toArray) (.agg (ze b).toArray)).run PG w = .ok (.bool (zci a b)) w:=by
 obtain⟨G,h1,h2⟩:=zui;have:=zlU h1 9997 rfl (by kernel_rfl) (zf a) (zf b) (h2 a) (h2 b) x y w;rw [this,ze2 znF,Bool.decide_eq_true]
theorem zvv:∃ G,TyEq PG 158 true 7 2 G/\∀ e:Ev,G (evE.enc e):=by
 refine⟨_,.struct (uf Tryz.underlying158).1 (by kernel_rfl) (fun w=>Tryz.isAgg158 w) (jr (by kernel_rfl) (by kernel_rfl)).1 (by kernel_rfl)
  (by rw [(uf Tryz.underlying158).2];exact .cons (by decide) rfl zuk (.cons (by decide) rfl tU8 (.cons (by decide) rfl tU8 (.cons (by decide) rfl tU8 (.cons (by decide) rfl tU8 (.cons (by decide) rfl tU8 (.cons (by decide) rfl tU8 .nil))))))),fun e=>?_⟩
 exact⟨⟨_,rfl⟩,⟨_,rfl⟩,⟨_,rfl⟩,⟨_,rfl⟩,⟨_,rfl⟩,⟨_,rfl⟩,⟨_,rfl⟩,trivial⟩
theorem zn6 {a b:Ev}:evE.enc a=evE.enc b↔a=b:=by
 constructor
 ·intro h;obtain⟨a1,a2,a3,a4,a5,a6,a7⟩:=a;obtain⟨b1,b2,b3,b4,b5,b6,b7⟩:=b;have h:[i64 a1,u8 a2,u8 a3,u8 a4,u8 a5,u8 a6,u8 a7]=[i64 b1,u8 b2,u8 b3,u8 b4,u8 b5,u8 b6,u8 b7]:=h;simp only [QN,Gp,u8,Value.int.injEq,Gt,qV] at h;obtain⟨h1,rfl,rfl,rfl,rfl,rfl,rfl⟩:=h;have h1:a1=b1:=by injection h1
  rw [h1]
 ·rintro rfl;rfl
theorem ztf (x y:Operand) (a b:Ev) (w:Wd):(do eqGuard .neq 158 x y (.agg (evE.enc a).toArray) (.agg (evE.enc b).toArray);binOp .neq 158 (.agg (evE.enc a).toArray) (.agg (evE.enc b).toArray)).run PG w = .ok (.bool (!decide (a=b))) w:=by
 obtain⟨G,h1,h2⟩:=zvv;have:=zte h1 9998 rfl (by kernel_rfl) (a:=evE.enc a) (b:=evE.enc b) rfl rfl (h2 a) (h2 b) x y w;rw [this,ze2 zn6]
theorem zd5:∀ (ev:List Ev) (k:Nat),(∀ j,j<k->(ev.getD j ev0).th = -1)->k<=ev.length->zaq ev=k+zaq (ev.drop k)
 | ev,0,_,_=>by rw [Uo,UX]
 | [],k+1,_,h=>by simp at h
 | e::ev,k+1,hj,h=>by
  have h0:e.th = -1:=hj 0 (by omega);have ih:=zd5 ev k (fun j hjk=>hj (j+1) (by omega)) (by simpa using h);unfold zaq at ih ⊢;rw [Km,Gx (Ut h0),Qt,ih,List.drop_succ_cons];omega
section
variable {q:OA} {c:Nat} {ev:List Ev} {w:Wd}
theorem zlM (hl:SlR evE w q ev) (hn:ev.length<=1000):CB 38 #[.slice q ev.length c] w (i64 (zaq ev:Nat)):=by
 refine zD 19 [.slice q ev.length c] Tryz.func38 ?_;refine⟨Nat,fun k=>⟨[(0,.slice q ev.length c),(5,.slice q ev.length c),(6,i64 ev.length),(7,i64 (k:Nat))],[]⟩,fun k X=>k<=ev.length/\(∀ j,j<k->(ev.getD j ev0).th = -1)/\Bw w X,fun k=>ev.length-k,0,(cvE rfl rfl),⟨Ge _,fun j h=>by omega,Gh _ _⟩,?_⟩;rintro k X ⟨hk,hj,hbX⟩;dsimp only;have hXs:=hbX.size;refine biE (fun hc=>?_) fun hc=>?_
 ·have hc:(k:Int)<(ev.length:Int):=dT hc;have hkl:k<ev.length:=by omega
  obtain⟨b,o,rfl,hb,hat⟩:=zca (hl.below hbX) hkl;obtain⟨e,he⟩:=nm (ev.getD k ev0);rw [<- he] at hat;refine⟨k,rfl,hkl,evE.enc e,rfl,hat,hb,zk (X:=X) (v := .agg (evE.enc e).toArray) zd3 rfl rfl (Qk.2 fun u hu=>evE.one e u hu) fun Y hbY fY sY=>?_⟩;have fY:Y.heap[X.heap.size]?=some (.cells (evE.enc e).toArray 158 (0,0)):=fY;refine⟨i64 e.th,zc (za fY) (i:=0) rfl,?_⟩;have hbY2:=hbX.trans (hbY.mono hXs);refine biE (fun h=>?_) fun h=>?_
  ·have h:(!decide (e.th = -1))=true:=h;have h:¬ e.th = -1:=by simpa using h
   refine⟨?_,hbY2⟩;have h2:=zd5 ev k hj hk;have h3:zaq (ev.drop k)=0:=by
    unfold zaq;have h4:ev[k]=e:=(by rw [he,gDe,gE hkl];rfl);rw [<- JD hkl,Km,h4,Gw (by simpa using h)];rfl
   rw [h3] at h2;exact ri (by omega)
  ·have h:(!decide (e.th = -1))=false:=h;have h:e.th = -1:=by simpa using h
   refine nxI (by omega) ⟨k+1,(cvE rfl rfl),⟨hkl,fun j hjk=>?_,hbY2⟩,zdc (by omega)⟩;by_cases e2:j=k
   ·rw [e2,<- he];exact h
   ·exact hj j (by omega)
 ·have hc:¬ (k:Int)<(ev.length:Int):=dF hc;obtain rfl:k=ev.length:=by omega
  refine⟨?_,hbX⟩;have h2:=zd5 ev ev.length hj (Gc _);rw [Qn] at h2;exact ri (by rw [h2];show ((ev.length:Nat):Int)=((ev.length+0:Nat):Int);rfl)
theorem zqk {i:Nat} {v:UInt8}:zcT (zfi [(0,1,false),(1,1,false),(2,1,false),(3,1,false),(4,1,false),(5,1,false),(6,1,false)]) (evE.enc ev0) [(0,i64 (-1)),(1,u8 2),(2,u8 (UInt8.ofNat i)),(3,u8 v)]=some (evE.enc ⟨-1,2,UInt8.ofNat i,v,0,0,0⟩):=rfl
theorem zhP {locs:Nat} (hl:SlR evE w q ev) (hn:ev.length<=1000) (hlo:locs<=1000):CB 39 #[.slice q ev.length c,i64 locs] w (.bool (jJ ev locs)):=by
 refine zD 69 [.slice q ev.length c,i64 locs] Tryz.func39 ?_;refine⟨Nat×Int×Nat,fun s=>⟨[(1,i64 locs),(5,i64 s.2.1),(6,i64 (s.2.2:Nat)),(9,.slice q ev.length c),(10,i64 ev.length),(11,i64 (s.1:Nat))],[]⟩,fun s X=>s.1<=ev.length/\s.2.2<=s.1/\zkH locs s.1 (ev.drop s.1) s.2.1 s.2.2=jJ ev locs/\Bw w X,fun s=>ev.length-s.1,(0,0,0),(cvE rfl rfl),⟨Ge _,Gc _,rfl,Gh _ _⟩,?_⟩;rintro⟨k,t,m⟩ X ⟨hk,hm,hgo,hbX⟩;dsimp only at hk hm hgo ⊢;have hXs:=hbX.size;refine biE (fun hc=>?_) fun hc=>?_
 ·have hc:(k:Int)<(ev.length:Int):=dT hc;have hkl:k<ev.length:=by omega
  obtain⟨b,o,rfl,hb,hat⟩:=zca (hl.below hbX) hkl;obtain⟨e,he⟩:=nm (ev.getD k ev0);rw [<- he] at hat;have hdr:ev.drop k=e::ev.drop (k+1):=by
   rw [<- JD hkl,he,gDe,gE hkl];rfl
  rw [hdr] at hgo;unfold zkH at hgo;refine⟨k,rfl,hkl,evE.enc e,rfl,hat,hb,zk (X:=X) (v := .agg (evE.enc e).toArray) zd3 rfl rfl (Qk.2 fun u hu=>evE.one e u hu) fun Y hbY fY sY=>?_⟩;have fY:Y.heap[X.heap.size]?=some (.cells (evE.enc e).toArray 158 (0,0)):=fY;have hbY2:=hbX.trans (hbY.mono hXs);have ld:∀ {i:Nat} {v:Value},(evE.enc e)[i]?=some v->Y.cell? ⟨X.heap.size,0+i,none⟩=some v:=fun h=>zc (za fY) h;have no:jJ ev locs=false->(Ending.returned (.bool false)=Ending.returned (.bool (jJ ev locs))/\Bw w Y):=fun h=>⟨rb h.symm,hbY2⟩;refine biE (fun h=>?_) fun h=>?_
  ·have h:(k:Int)<(locs:Int):=dT h;rw [Gx (by omega:k<locs)] at hgo;refine⟨evE.enc e,rfl,za fY,hlt fY,_,w8N k,u8 e.v,ld (i:=3) rfl,evE.enc ⟨-1,2,UInt8.ofNat k,e.v,0,0,0⟩,zqk,_,fun w=>ztf _ _ e _ w,biE (fun h2=>?_) fun h2=>?_⟩
   ·have h2:¬ e=⟨-1,2,UInt8.ofNat k,e.v,0,0,0⟩:=(by simpa using h2);rw [Gw h2] at hgo;exact no hgo.symm
   ·have h2:e=⟨-1,2,UInt8.ofNat k,e.v,0,0,0⟩:=(by simpa using h2);rw [Gx h2] at hgo;exact nxI (by omega) ⟨(k+1,t,m),(cvE rfl rfl),⟨hkl,by show m<=k+1;omega,hgo,hbY2⟩,zdc (by omega)⟩
  ·have h:¬ (k:Int)<(locs:Int):=dF h;rw [Gw (by omega:¬ k<locs)] at hgo;refine⟨i64 e.th,ld (i:=0) rfl,biE (fun h1=>?_) fun h1=>?_⟩
   ·have h1:e.th<t:=dT h1;refine brT ?_;rw [Gx (.inl h1)] at hgo;exact no hgo.symm
   have h1:¬ e.th<t:=dF h1;refine⟨i64 e.th,ld (i:=0) rfl,biE (fun h2=>?_) fun h2=>?_⟩
   ·have h2:4<=e.th:=dT h2;rw [Gx (.inr h2)] at hgo;exact no hgo.symm
   have h2:¬ 4<=e.th:=dF h2;rw [Gw (by rintro (h | h);exact h1 h;exact h2 h)] at hgo;refine⟨i64 e.th,ld (i:=0) rfl,biE (fun h9=>?_) fun h9=>?_⟩
   ·have h9:t<e.th:=dT h9;dsimp only at hgo;rw [Gx h9,Gx h9] at hgo;refine⟨i64 e.th,ld (i:=0) rfl,u8 e.p,ld (i:=6) rfl,(e.p.toNat:Int),qA _,biE (fun h3=>?_) fun h3=>?_⟩
    ·have h3:¬ e.p.toNat=0:=by
      have h3:(!decide ((e.p.toNat:Int)=(0:Nat)))=true:=h3;simpa using h3
     rw [Gw h3] at hgo;exact no hgo.symm
    have h3:e.p.toNat=0:=by
     have h3:(!decide ((e.p.toNat:Int)=(0:Nat)))=false:=h3;simpa using h3
    rw [Gx h3] at hgo;refine⟨((0+1:Nat):Int),(zi (by omega)).trans (by omega),u8 e.k,ld (i:=1) rfl,biE (fun h4=>?_) fun h4=>?_⟩
    ·refine brE h4 ?_;have h4:e.k=1:=qV.1 (dT h4);rw [Gx (.inl h4)] at hgo;refine⟨u8 e.l,ld (i:=2) rfl,(e.l.toNat:Int),qA _,biE (fun h5=>?_) fun h5=>?_⟩
     ·have h5:(locs:Int)<=(e.l.toNat:Int):=dT h5;rw [Gw (by omega)] at hgo;exact no hgo.symm
     ·have h5:¬ (locs:Int)<=(e.l.toNat:Int):=dF h5;rw [Gx (by omega)] at hgo;exact nxI (by omega) ⟨(k+1,e.th,0+1),(cvE rfl rfl),⟨hkl,by show 0+1<=k+1;omega,hgo,hbY2⟩,zdc (by omega)⟩
    have h4:¬ e.k=1:=fun e2=>(dF h4) (by rw [e2];rfl);refine biE (fun h5=>?_) fun h5=>?_
    ·have h5:e.k=2:=qV.1 (dT h5);rw [Gx (.inr h5)] at hgo;refine⟨u8 e.l,ld (i:=2) rfl,(e.l.toNat:Int),qA _,biE (fun h5=>?_) fun h5=>?_⟩
     ·have h5:(locs:Int)<=(e.l.toNat:Int):=dT h5;rw [Gw (by omega)] at hgo;exact no hgo.symm
     ·have h5:¬ (locs:Int)<=(e.l.toNat:Int):=dF h5;rw [Gx (by omega)] at hgo;exact nxI (by omega) ⟨(k+1,e.th,0+1),(cvE rfl rfl),⟨hkl,by show 0+1<=k+1;omega,hgo,hbY2⟩,zdc (by omega)⟩
    have h5:¬ e.k=2:=fun e2=>(dF h5) (by rw [e2];rfl);rw [Gw (by rintro (h | h);exact h4 h;exact h5 h)] at hgo;refine biE (fun h6=>?_) fun h6=>?_
    ·have h6:e.k=3:=qV.1 (dT h6);rw [Gx h6] at hgo;refine⟨u8 e.l,ld (i:=2) rfl,biE (fun h7=>?_) fun h7=>?_⟩
     ·have h7:¬ e.l=0:=by
       have h7:(!decide ((e.l.toNat:Int)=0))=true:=h7;intro e2;rw [e2] at h7
       cases h7
      refine brT ?_;rw [Gw fun h=>h7 h.1] at hgo;exact no hgo.symm
     ·have h7:e.l=0:=by
       have h7:(!decide ((e.l.toNat:Int)=((0:UInt8).toNat:Int)))=false:=h7;exact qV.1 (by simpa using h7)
      refine⟨u8 e.v,ld (i:=3) rfl,biE (fun h8=>?_) fun h8=>?_⟩
      ·have h8:¬ e.v=0:=by
        have h8:(!decide ((e.v.toNat:Int)=0))=true:=h8;intro e2;rw [e2] at h8
        cases h8
       rw [Gw fun h=>h8 h.2] at hgo;exact no hgo.symm
      ·have h8:e.v=0:=by
        have h8:(!decide ((e.v.toNat:Int)=((0:UInt8).toNat:Int)))=false:=h8;exact qV.1 (by simpa using h8)
       rw [Gx ⟨h7,h8⟩] at hgo;exact nxI (by omega) ⟨(k+1,e.th,0+1),(cvE rfl rfl),⟨hkl,by show 0+1<=k+1;omega,hgo,hbY2⟩,zdc (by omega)⟩
    ·have h6:¬ e.k=3:=fun e2=>(dF h6) (by rw [e2];rfl);rw [Gw h6] at hgo;exact no hgo.symm
   ·have h9:¬ t<e.th:=dF h9;dsimp only at hgo;rw [Gw h9,Gw h9] at hgo;refine⟨u8 e.p,ld (i:=6) rfl,(e.p.toNat:Int),qA _,biE (fun h3=>?_) fun h3=>?_⟩
    ·have h3:¬ e.p.toNat=m:=by
      have h3:(!decide ((e.p.toNat:Int)=(m:Nat)))=true:=h3;intro e2;rw [e2] at h3;simp at h3
     rw [Gw h3] at hgo;exact no hgo.symm
    have h3:e.p.toNat=m:=by
     have h3:(!decide ((e.p.toNat:Int)=(m:Nat)))=false:=h3;have h3:(e.p.toNat:Int)=(m:Nat):=(by simpa using h3);omega
    rw [Gx h3] at hgo;refine nxI (by omega) ⟨u8 e.k,ld (i:=1) rfl,biE (fun h4=>?_) fun h4=>?_⟩
    ·refine brE h4 ?_;have h4:e.k=1:=qV.1 (dT h4);rw [Gx (.inl h4)] at hgo;refine⟨u8 e.l,ld (i:=2) rfl,(e.l.toNat:Int),qA _,biE (fun h5=>?_) fun h5=>?_⟩
     ·have h5:(locs:Int)<=(e.l.toNat:Int):=dT h5;rw [Gw (by omega)] at hgo;exact no hgo.symm
     ·have h5:¬ (locs:Int)<=(e.l.toNat:Int):=dF h5;rw [Gx (by omega)] at hgo;exact nxI (by omega) ⟨(k+1,t,m+1),(cvE rfl rfl),⟨hkl,by show m+1<=k+1;omega,hgo,hbY2⟩,zdc (by omega)⟩
    have h4:¬ e.k=1:=fun e2=>(dF h4) (by rw [e2];rfl);refine biE (fun h5=>?_) fun h5=>?_
    ·have h5:e.k=2:=qV.1 (dT h5);rw [Gx (.inr h5)] at hgo;refine⟨u8 e.l,ld (i:=2) rfl,(e.l.toNat:Int),qA _,biE (fun h5=>?_) fun h5=>?_⟩
     ·have h5:(locs:Int)<=(e.l.toNat:Int):=dT h5;rw [Gw (by omega)] at hgo;exact no hgo.symm
     ·have h5:¬ (locs:Int)<=(e.l.toNat:Int):=dF h5;rw [Gx (by omega)] at hgo;exact nxI (by omega) ⟨(k+1,t,m+1),(cvE rfl rfl),⟨hkl,by show m+1<=k+1;omega,hgo,hbY2⟩,zdc (by omega)⟩
    have h5:¬ e.k=2:=fun e2=>(dF h5) (by rw [e2];rfl);rw [Gw (by rintro (h | h);exact h4 h;exact h5 h)] at hgo;refine biE (fun h6=>?_) fun h6=>?_
    ·have h6:e.k=3:=qV.1 (dT h6);rw [Gx h6] at hgo;refine⟨u8 e.l,ld (i:=2) rfl,biE (fun h7=>?_) fun h7=>?_⟩
     ·have h7:¬ e.l=0:=by
       have h7:(!decide ((e.l.toNat:Int)=0))=true:=h7;intro e2;rw [e2] at h7
       cases h7
      refine brT ?_;rw [Gw fun h=>h7 h.1] at hgo;exact no hgo.symm
     ·have h7:e.l=0:=by
       have h7:(!decide ((e.l.toNat:Int)=((0:UInt8).toNat:Int)))=false:=h7;exact qV.1 (by simpa using h7)
      refine⟨u8 e.v,ld (i:=3) rfl,biE (fun h8=>?_) fun h8=>?_⟩
      ·have h8:¬ e.v=0:=by
        have h8:(!decide ((e.v.toNat:Int)=0))=true:=h8;intro e2;rw [e2] at h8
        cases h8
       rw [Gw fun h=>h8 h.2] at hgo;exact no hgo.symm
      ·have h8:e.v=0:=by
        have h8:(!decide ((e.v.toNat:Int)=((0:UInt8).toNat:Int)))=false:=h8;exact qV.1 (by simpa using h8)
       rw [Gx ⟨h7,h8⟩] at hgo;exact nxI (by omega) ⟨(k+1,t,m+1),(cvE rfl rfl),⟨hkl,by show m+1<=k+1;omega,hgo,hbY2⟩,zdc (by omega)⟩
    ·have h6:¬ e.k=3:=fun e2=>(dF h6) (by rw [e2];rfl);rw [Gw h6] at hgo;exact no hgo.symm
 ·have hc:¬ (k:Int)<(ev.length:Int):=dF hc;obtain rfl:k=ev.length:=by omega
  rw [Qn] at hgo;exact⟨rb hgo,hbX⟩
end
end Go.Proofs.YtnadlhpkpnfmbaaGreatDoor
namespace Go.Vc
open Go.RowKit
def zqB {α:Type} (P:Program) (g:Nat) (lb:List Value) (xs:List α) (W0:Wd) (Rd:Nat->Prop) (St:List α->List Value->Wd->Prop) (Gv:List Value->Nat->Prop):Prop :=
 ∀ (l:Nat) (F0:Nat->Prop) (J:List α->(Nat->Prop)->Wd->Prop) (W:Wd),W0.heap.size<=W.heap.size->(∀ k,Rd k->W.heap[k]?=W0.heap[k]?)->(∀ k,Rd k->¬ F0 k) ->
  JG W.heap.size (fun _=>False) J ->
  (∀ pre x vs F W1,J pre F W1->St (pre++[x]) vs W1->(∀ k,Gv vs k->W.heap.size<=k)->(pre++[x]) <+: xs->YieldR P l vs.toArray W1 fun v W2 =>
   v = .bool true/\∃ F',J (pre++[x]) F' W2/\KeepsG (fun k=>F k\/Gv vs k) F' W1 W2) ->
  J [] F0 W ->
  Calls P g (.func (.yield l) #[] #[]::lb).toArray W fun e W'=>(∃ v,e = .returned v)/\∃ F',J xs F' W'
theorem zs2 {α:Type} {S:Sig} (hS:SigOk S) (hr:S.r=none) {f:Operand} {ps:Array Tmp} {assign body:Code} {E:Env} {w:Wd} {Q:Exit->Env->Wd->Prop}
  {gf:Nat} {lb:Array Value} (hg:opd E f=some (.func (.func gf) #[] lb)) (hok:jK S gf=true)
  {xs:List α} {W0:Wd} {Rd:Nat->Prop} {St:List α->List Value->Wd->Prop} {Gv:List Value->Nat->Prop} (hI:zqB S.P gf lb.toList xs W0 Rd St Gv) (hGv:∀ pre vs W k,St pre vs W->Gv vs k->∃ cs t fr,W.heap[k]?=some (.cells cs t fr)) (hW0:W0.heap.size<=w.heap.size) (hRd:∀ k,Rd k->k<W0.heap.size/\w.heap[k]?=W0.heap[k]?)
  (hps:∀ pre vs W,St pre vs W->vs.length=ps.size) (hpn:∀ p∈ps.toList,p<S.n)
  (F0:Nat->Prop) (J:List α->(Nat->Prop)->Wd->Prop) (hRF:∀ k,Rd k->¬ F0 k)
  (hJ:JG w.heap.size (fun _=>False) J) (h0:J [] F0 w)
  (hround:∀ (l:Nat) (pre:List α) (x:α) (vs:List Value) (F:Nat->Prop) (W:Wd),w.heap.size<=l->(pre++[x]) <+: xs->J pre F W->St (pre++[x]) vs W->(∀ k,Gv vs k->w.heap.size<=k)->¬ F l->(∃ lo,W.heap[l]?=some (.loop lo)) ->
   wpE (sr S l) assign ⟨setL ps.toList vs E.vs,[]⟩ W fun ex E1 W1=>ex = .normal/\∃ F1,KeepsG (fun k=>F k\/Gv vs k) F1 W W1/\J pre F1 W1 /\
    ∀ o W2,W2=W1.putObj l o->J pre F1 W2->wpE (sr S l) body E1 W2 (zsE F1 J (fun _ _ _ _=>False) (pre++[x]) W2))
  (hdone:∀ D F W,w.heap.size<=D->¬ F D->J xs F W->W.heap[D]?=some (.deferred (some []))->Q .normal ⟨E.vs,{ target := .collected D,args := #[] }::E.ds⟩ W) :
  zju S f ps assign body E w Q:=by
 intro a ha;have hcall:∀ args w,(callFunc gf args).run S.P w = .ok (.enter gf args) w:=by
  simp only [jK,bAT,Gj,Gk] at hok;exact fun args w=>hS.call gf hok.1.1 hok.1.2 hok.2 args w
 refine wpIn_rangeFunc ?_;intro fn hfn;have hro:(FR S.r).round=none:=hr;rw [hro];obtain⟨rec,hrec⟩:∃ rec:LoopState->Option Code->Loop,rec=fun st pe=>{ state:=st,pending:=pe,fn,tmps:=a.tmps,params:=ps,assign,body,defers:=w.heap.size }:=⟨_,rfl⟩;obtain⟨W1,hW1⟩:∃ W1,(w.alloc (.deferred (some []))).alloc (.loop (rec .ready none))=W1:=⟨_,rfl⟩;have hK0:=zA w (.deferred (some []));have hK1:W1.heap[w.heap.size]?=some (.deferred (some [])):=by rw [<- hW1];exact qy _ hK0
 have hL1:W1.heap[w.heap.size+1]?=some (.loop (rec .ready none)):=by
  rw [<- hW1];have:=zA (w.alloc (.deferred (some []))) (.loop (rec .ready none));rwa [wz] at this
 have hs1:W1.heap.size=w.heap.size+2:=by rw [<- hW1];simp
 have hst1:Bw w W1:=by
  rw [<- hW1];exact ((zba w _)).alloc (by simp) _
 have hJ1:=hJ.step _ _ _ _ h0 (.below hst1);have hFl:∀ k,F0 k->k<w.heap.size:=fun k hk=>(hJ.lt _ _ _ k h0 hk).1;refine⟨w.heap.size+1,[{ target := .collected w.heap.size,args := #[] }],W1,{ target := .fn (.func gf) lb,args := #[.func (.yield (w.heap.size+1)) #[] #[]] },W1,gf,
  #[.func (.yield (w.heap.size+1)) #[] #[]]++lb,W1,?_,?_,fun _ _=>trivial,?_,fun h=>by simp [FR] at h,?_⟩
 ·rw [<- hW1,hrec];exact Kq _ _ _ _ _
 ·have hg':=ha.eval hg;simp only [resolve,hg'];simp [go_sem]
 ·simp [invoke,go_sem,hcall]
 ·have hargs : #[Value.func (.yield (w.heap.size+1)) #[] #[]]++lb=(Value.func (.yield (w.heap.size+1)) #[] #[]::lb.toList).toArray:=by rw [<- Qf];simp
  rw [hargs];have book:∀ {σ:Type} {K:σ->(Nat->Prop)->Wd->Prop} (lo:Loop),JG w.heap.size (fun _=>False) K->JG W1.heap.size (fun _=>False) (fun s F W=>K s F W/\W.heap[w.heap.size+1]?=some (.loop lo)/\W.heap[w.heap.size]?=some (.deferred (some []))/\¬ F (w.heap.size+1)/\¬ F w.heap.size):=by
   intro σ K lo hK;exact⟨fun s F A B ⟨hk,hl,hd,hf1,hf2⟩ hs=>⟨hK.step s F A B hk (hs.mono (by omega)),(hs.same _ (hlt hl) (.inl ⟨by omega,fun h=>h⟩)).trans hl,(hs.same _ (hlt hd) (.inl ⟨by omega,fun h=>h⟩)).trans hd,hf1,hf2⟩,fun s F A k ⟨hk,_⟩ hf=>hK.lt s F A k hk hf⟩
  have hcalls:=hI (w.heap.size+1) F0 (fun pre F W=>J pre F W/\W.heap[w.heap.size+1]?=some (.loop (rec .ready none))/\W.heap[w.heap.size]?=some (.deferred (some []))/\¬ F (w.heap.size+1)/\¬ F w.heap.size)
   W1 (by omega) (fun k hk=>by
    obtain⟨h1,h2⟩:=hRd k hk;rw [<- h2];exact hst1.block k (by omega)) hRF (book _ hJ) ?_ ⟨hJ1,hL1,hK1,fun h=>by have:=hFl _ h;omega,fun h=>by have:=hFl _ h;omega⟩
  ·refine zcJ (hcalls.mono ?_);rintro e W2 ⟨⟨v,rfl⟩,F,hj,hl,hk,hf1,hf2⟩;have hj2:=hJ.step _ _ _ _ hj (StepG.put (Ow:=fun _=>False) (o := .loop (rec .exhausted none)) (n0:=w.heap.size) (l:=w.heap.size+1) (by omega) hf1);refine⟨none,_,by have:=Gg (P:=S.P) hl (by rw [hrec];simp);rw [hrec] at this;exact this,?_⟩;rw [hrec] at hj2;exact⟨⟨E.vs,{ target := .collected w.heap.size,args := #[] }::E.ds⟩,⟨ha.size,by simp [ha.defers],ha.val⟩,hdone w.heap.size F _ (Gc _) hf2 hj2 ((zj (by omega)).trans hk)⟩
  ·rintro pre x vs F W ⟨hj,hl,hk,hf1,hf2⟩ hst0 hgv0 hpre;have hg1:¬ (F (w.heap.size+1)\/Gv vs (w.heap.size+1)):=fun h=>h.elim hf1 fun h=>by
    obtain⟨_,_,_,h2⟩:=hGv _ _ _ _ hst0 h;rw [hl] at h2;cases h2
   have hg2:¬ (F w.heap.size\/Gv vs w.heap.size):=fun h=>h.elim hf2 fun h=>by
    obtain⟨_,_,_,h2⟩:=hGv _ _ _ _ hst0 h;rw [hk] at h2;cases h2
   have hy:=run_yield (P:=S.P) (args:=vs.toArray) hl (by rw [hrec];simpa using hps _ _ _ hst0);rw [hrec] at hy;refine⟨fn,_,assign,body,hy,zbO (r:=none) (n:=NN) (roundIn_of_wpIn (F:=FR none) trivial ?_)⟩;have hag:Agrees (sr S (w.heap.size+1)) { tmps:=(ps.zip vs.toArray).foldl (fun t (p,v)=>t.setIfInBounds p v) a.tmps,defers:=[] } ⟨setL ps.toList vs E.vs,[]⟩:=by
    have h1:Agrees (sr S (w.heap.size+1)) { a with defers:=[] } ⟨E.vs,[]⟩:=⟨ha.size,rfl,ha.val⟩;have h2:=zbM ps.toList vs _ _ h1 hpn;have e:(ps.zip vs.toArray).foldl (fun t (p,v)=>t.setIfInBounds p v) a.tmps=(ps.toList.zip vs).foldl (fun t (p,v)=>t.setIfInBounds p v) a.tmps:=by
     rw [<- Kr];simp
    rw [e];exact h2
   have hw:=qE (zh1 hS _) assign _ _ W _ hag (hround (w.heap.size+1) pre x vs F W (by omega) hpre hj hst0 (fun k hk=>by have:=hgv0 k hk;omega) hf1 ⟨_,hl⟩);refine Gn hw ?_;rintro ex a1 Wa ⟨E1,hag1,rfl,F1,hk1,hj1,hbody⟩;have hla:=(hk1.same _ (hlt hl) hg1).trans hl;have hka:=(hk1.same _ (hlt hk) hg2).trans hk;have hfa1:¬ F1 (w.heap.size+1):=fun h=>by rcases hk1.fp _ h with h | h;exact hg1 h;have:=hlt hl;omega
   have hfa2:¬ F1 w.heap.size:=fun h=>by rcases hk1.fp _ h with h | h;exact hg2 h;have:=hlt hk;omega
   refine⟨_,run_beginRound hla (by rw [hrec]),?_⟩;have hst:StepG w.heap.size (fun _=>False) F1 Wa (Wa.putObj (w.heap.size+1) (.loop { rec .ready none with state := .busy })) := .put (by omega) hfa1 _;have hj2:=hJ.step _ _ _ _ hj1 hst;have hw2:=qE (zh1 hS _) body _ _ _ _ hag1 (hbody _ _ rfl hj2);refine Gn hw2 ?_;have hl2:(Wa.putObj (w.heap.size+1) (.loop { rec .ready none with state := .busy })).heap[w.heap.size+1]?=some (.loop { rec .ready none with state := .busy }):=za9 hla;have hk2:(Wa.putObj (w.heap.size+1) (.loop { rec .ready none with state := .busy })).heap[w.heap.size]?=some (.deferred (some [])):=(zj (by omega)).trans hka;rintro e a3 W3 ⟨E3,_,hq⟩
   cases e with
   | normal =>
    obtain⟨F3,hj3,hk3⟩:=hq;have hl3:=(hk3.same _ (hlt hl2) hfa1).trans hl2;have hd3:=(hk3.same _ (hlt hk2) hfa2).trans hk2;have hf31:¬ F3 (w.heap.size+1):=fun h=>by rcases hk3.fp _ h with h | h;exact hfa1 h;have:=hlt hl2;omega
    have hf32:¬ F3 w.heap.size:=fun h=>by rcases hk3.fp _ h with h | h;exact hfa2 h;have:=hlt hk2;omega
    have hr3:=run_endRound (P:=S.P) none hl3;have hl4:=za9 (o' := .loop (rec .ready none)) hl3;have hk4:(W3.putObj (w.heap.size+1) (.loop (rec .ready none))).heap[w.heap.size]?=some (.deferred (some [])):=(zj (by omega)).trans hd3;have hs3:StepG w.heap.size (fun _=>False) F3 W3 (W3.putObj (w.heap.size+1) (.loop (rec .ready none))) := .put (by omega) hf31 _;have hj4:=hJ.step _ _ _ _ hj3 hs3;rw [hrec] at hr3 hl4 hk4 hs3 hj4;refine⟨_,_,hr3,rfl,F3,⟨hj4,by rw [hrec];exact hl4,hk4,hf31,hf32⟩,hs3.os.trans (hk3.os.trans hk1.os),hs3.tape.trans (hk3.tape.trans hk1.tape),hs3.output.trans (hk3.output.trans hk1.output),?_,fun k hk5 hf5=>?_,fun k hk5=>?_⟩
    ·have h1:=hk1.size;have h2:=hst.size;have h3:=hk3.size;have h4:=hs3.size;exact UT (UT (UT h1 h2) h3) h4
    ·by_cases hkl:k=w.heap.size+1
     ·subst hkl;rw [hl,hrec];exact hl4
     ·have h1:¬ F1 k:=fun h=>by rcases hk1.fp _ h with h | h;exact hf5 h;omega
      have h2:=hk1.size;have h3:=hst.size;rw [zj hkl,hk3.same k (by omega) h1,zj hkl];exact hk1.same k hk5 hf5
    ·rcases hk3.fp _ hk5 with h2 | h2
     ·exact hk1.fp _ h2
     ·have h3:=hk1.size;have h4:=hst.size;exact .inr (by omega)
   | ret=>exact (show False from (by obtain⟨_,h,_⟩:=hq;exact h)).elim
   | exit id=>exact (show False from (by obtain⟨_,h,_⟩:=hq;exact h)).elim
   | goto t=>exact hq.elim
   | panic ch=>exact hq.elim
   | outgrown=>exact hq.elim
end Go.Vc
namespace Go.Proofs.YtnadlhpkpnfmbaaGreatDoor
open Go.Vc Go.RowKit Go.Sei
abbrev zdq:=List zay×OA×Nat
def zhJ:Enc zdq where
 sz:=1
 enc x:=[.slice x.2.1 x.1.length x.2.2]
 len x:=rfl
 one x v hv:=by
  simp at hv;subst hv;rfl
 pos:=by decide
structure MixM (Rd:Nat->Prop) (w:Wd) (b o:Nat) (m:MixD) (q:OA) (c:Nat) (p1 p2 p3:OA) (c1 c2 c3:Nat) (xs ys:List zay):Prop where
 cells:zo w ⟨b,o,none⟩ (exC m.base q c++[.slice p1 m.rs.length c1,.slice p2 xs.length c2,.slice p3 ys.length c3])
 ev:SlR evE w q m.base.ev
 qn:q=none->c=0
 r1:SlR zC w p1 (m.rs.map (·.1))
 e2:xs.map (·.1)=m.rs.map (·.2)
 r2:SlR qO w p2 xs
 n2:∀ y∈xs,SlR zC w y.2.1 y.1
 e3:ys.map (·.1)=m.wr
 r3:SlR qO w p3 ys
 n3:∀ y∈ys,SlR zC w y.2.1 y.1
 db:Rd b
 dq:∀ a,q=some a->Rd a.block
 d1:∀ a,p1=some a->Rd a.block
 d2:∀ a,p2=some a->Rd a.block
 d3:∀ a,p3=some a->Rd a.block
 m2:∀ y∈xs,∀ a,y.2.1=some a->Rd a.block
 m3:∀ y∈ys,∀ a,y.2.1=some a->Rd a.block
theorem MixM.same {Rd:Nat->Prop} {w X:Wd} {b o:Nat} {m:MixD} {q:OA} {c:Nat} {p1 p2 p3:OA} {c1 c2 c3:Nat} {xs ys:List zay} (h:MixM Rd w b o m q c p1 p2 p3 c1 c2 c3 xs ys) (hs:∀ k,Rd k->X.heap[k]?=w.heap[k]?):MixM Rd X b o m q c p1 p2 p3 c1 c2 c3 xs ys :=
 ⟨zJ (hs _ h.db) h.cells,qN h.ev fun a ha=>hs _ (h.dq a ha),h.qn,qN h.r1 fun a ha=>hs _ (h.d1 a ha),h.e2,qN h.r2 fun a ha=>hs _ (h.d2 a ha),fun y hy=>qN (h.n2 y hy) fun a ha=>hs _ (h.m2 y hy a ha),
  h.e3,qN h.r3 fun a ha=>hs _ (h.d3 a ha),fun y hy=>qN (h.n3 y hy) fun a ha=>hs _ (h.m3 y hy a ha),h.db,h.dq,h.d1,h.d2,h.d3,h.m2,h.m3⟩
theorem zeK {w:Wd} {b o:Nat} {x:ExD} {q:OA} {c:Nat} {S:List Value} (h:zo w ⟨b,o,none⟩ (exC x q c++S)) {i:Nat} {v:Value} (hi:S[i]?=some v):w.cell? ⟨b,o+(333+i),none⟩=some v:=zc h (zgh hi)
theorem zvY {B c:Nat} {V1:Wd} {p:OA} {l:List zdq} {y:zdq} {a:Addr} (ho:OwnS zhJ 170 B V1 p c l) (ha:zo V1 a ([y].flatMap zhJ.enc)) (hB:B<=V1.heap.size) (hl:l.length<=100000) {K:Value->Wd->Prop}
  (h:∀ p' c' w',OwnS zhJ 170 B w' p' c' (l++[y])->V1.grownBy w' (p.map Addr.block)->(∀ a,p'=some a->p=some a\/a.block=V1.heap.size)->K (.slice p' (l++[y]).length c') w') :
  SatR ((Builtin.append_ #[245,245] 245 #[.slice p l.length c,.slice (some a) 1 1]).run PG V1) K :=
 ji (E:=zhJ) (T:=170) (B:=B) (l:=l) (news:=[y]) (cap:=c) (m:=1) Tryz.underlying245 zn1 rfl rfl rfl ho rfl ha hB (by omega) (by show (l.length+1)*24<=_;omega) fun p' c' w' a1 a2 _ a4=>h p' c' w' a1 (by rw [zaH] at a2;exact a2) a4
structure CanS (B:Nat) (Z:Wd) (yl L R:Nat) (ss:List Nat) (ps:OA) (cs:Nat) (zs:List zdq) (pr:OA) (cr:Nat):Prop where
 fL:Z.heap[L]?=some (.cells #[.func (.yield yl) #[] #[]] 40 (0,0))
 fR:Z.heap[R]?=some (.cells #[.slice pr zs.length cr] 245 (0,0))
 own:OwnS zC 3 B Z ps cs ss
 rk:OwnS zhJ 170 B Z pr cr zs
 n1:∀ z∈zs,OwnS qO 128 B Z z.2.1 z.2.2 z.1
 n2:∀ z∈zs,∀ y∈z.1,OwnS zC 3 B Z y.2.1 y.2.2 y.1
 dis:∀ z∈zs,∀ y∈z.1,∀ a b,ps=some a->y.2.1=some b->a.block≠b.block
theorem CanS.below {B:Nat} {Z Y:Wd} {yl L R:Nat} {ss:List Nat} {ps:OA} {cs:Nat} {zs:List zdq} {pr:OA} {cr:Nat} (h:CanS B Z yl L R ss ps cs zs pr cr) (hb:Bw Z Y):CanS B Y yl L R ss ps cs zs pr cr :=
 ⟨zb hb h.fL,zb hb h.fR,h.own.below hb,h.rk.below hb,fun z hz=>(h.n1 z hz).below hb,fun z hz y hy=>(h.n2 z hz y hy).below hb,h.dis⟩
theorem CanS.size {B:Nat} {Z Y:Wd} {yl L R:Nat} {ss:List Nat} {ps:OA} {cs:Nat} {zs:List zdq} {pr:OA} {cr:Nat} (h:CanS B Z yl L R ss ps cs zs pr cr) {ps':OA} {cs' n:Nat} (ho:OwnS zC 3 B Y ps' cs' (ss++[n])) (g:Z.grownBy Y (ps.map Addr.block)) (hat:∀ a,ps'=some a->ps=some a\/a.block=Z.heap.size):CanS B Y yl L R (ss++[n]) ps' cs' zs pr cr :=
 ⟨qg h.fL h.own (by decide) g,qg h.fR h.own (by decide) g,ho,j8 h.rk h.own (by decide) g,fun z hz=>j8 (h.n1 z hz) h.own (by decide) g,fun z hz y hy=>zc6 (h.n2 z hz y hy) g fun a b ha hb=>h.dis z hz y hy a b ha hb,fun z hz y hy a b ha hb=>by
  rcases hat a ha with h1 | h1
  ·exact h.dis z hz y hy a b h1 hb
  ·have:=(zx (h.n2 z hz y hy) hb).2.1;omega⟩
theorem zmy {ds:List Nat}:∀ {rs:List (Nat×List Nat)} {ds:List Nat} {f:Nat->Nat},zI f->(∀ r∈rs,r.1<48)->zI (rfF rs ds f)
 | [],_,_,h,_=>h
 | (r,s)::rs,ds,f,h,hr=>by
  have h1:=hr (r,s) Kz;refine zmy (rs:=rs) (ds:=ds.tail) (f:=upd f (s.getD (ds.headD 0) 0) (f (s.getD (ds.headD 0) 0)|||2^r)) ?_ fun x hx=>hr x (JW _ hx);intro j hj;by_cases e:j=s.getD (ds.headD 0) 0
  ·rw [e,qZ];exact KY (by rw [<- e];exact h j hj) (zZ (by have:r<48:=h1;omega))
  ·rw [zaA _ _ e];exact h j hj
theorem zm5 {ev:List Ev}:∀ {Rs:List (List (List Nat))} {l:Nat} {ds:List Nat} {p:RelD×(Nat->UInt8)},zI p.1.to->(∀ R∈Rs,∀ k∈R,∀ a∈k,a<48)->zI (coG ev l Rs ds p).1.to
 | [],_,_,_,h,_=>h
 | R::Rs,l,ds,p,h,hr=>by
  refine zm5 (Rs:=Rs) (l:=l+1) (ds:=ds.tail) (p:=(za6 (R.getD (ds.headD 0) []) p.1,_)) (zit h fun a ha=>?_) fun x hx=>hr x (JW _ hx);rw [gDe] at ha
  cases hg:R[ds.headD 0]? with
  | none=>rw [hg] at ha;cases ha
  | some k =>
   rw [hg] at ha;exact hr R Kz k (JY hg) a ha
section
variable (x:ExD) (q:OA) (c:Nat)
theorem zp2:∃ A Z,A.length=50/\∀ r,exC { x with rf:=r } q c=A++(ze r++Z):=by
 obtain⟨A,Z,h1,h2⟩:=zsz x q c [];exact⟨A,Z,h1,fun r=>by rw [<- h2,QM]⟩
theorem zlT:∃ A Z,A.length=99/\∀ r,exC { x with co:=r } q c=A++(ze r++Z):=by
 obtain⟨A,Z,h1,h2⟩:=zsB x q c [];exact⟨A,Z,h1,fun r=>by rw [<- h2,QM]⟩
theorem zrK {l:Nat} (hl:l<6) (v:UInt8):(exC x q c).set (327+l) (u8 v)=exC { x with mem:=upd x.mem l v } q c:=by
 obtain⟨A,Z,h1,h2⟩:=zpY x q c [];have e1:=h2 x.mem;have e2:=h2 (upd x.mem l v);rw [QM] at e1 e2;rw [e2];show (exC { x with mem:=x.mem } q c).set _ _=_;rw [e1,jB h1];have e3:=zep (B:=Z) (f:=fun i=>u8 (x.mem i)) (fun i=>u8 (upd x.mem l v i)) hl (fun j hj=>by rw [zaA _ _ hj]);rw [<- e3,qZ]
theorem ztw (l:List Ev) (q':OA) (c':Nat):(exC x q c).set 0 (.slice q' l.length c')=exC { x with ev:=l } q' c':=rfl
end
abbrev zfZ:=ExD×OA×Nat
def exE:Enc zfZ:=⟨fun x=>exC x.1 x.2.1 x.2.2,333,fun _=>zH ..,by decide,fun a u hu=>Qk.1 (zcE ..) u hu⟩
abbrev ExH (X:Wd) (b:Nat) (x:ExD) (q:OA) (c:Nat):Prop:=X.heap[b]?=some (.cells (exC x q c).toArray 37 (0,0))
def StX (B:Nat) (pre:List ExD) (vs:List Value) (W:Wd):Prop:=∃ x q c,pre.getLast?=some x/\vs=[.agg (exC x q c).toArray]/\OwnS evE 158 B W q c x.ev
def GvX (vs:List Value) (k:Nat):Prop:=∃ (x:ExD) (a:Addr) (c:Nat),vs=[.agg (exC x (some a) c).toArray]/\k=a.block
theorem zll {xs:List zay} {rs:List (Nat×List Nat)} (h:xs.map (·.1)=rs.map (·.2)):xs.map (·.1.length)=rs.map fun r=>r.2.length:=by
 have:=Gq (List.map List.length) h;rw [UL,UL] at this;exact this
theorem zjW {zs:List zdq} {ws:List (List Nat)} (h:zs.map (fun z=>z.1.map (·.1))=ws.map zaj):zs.map (·.1.length)=ws.map fun w=>(zaj w).length:=by
 have:=Gq (List.map List.length) h;rw [UL,UL] at this;rw [<- show zs.map (List.length ∘ fun z:zdq=>z.1.map (·.1))=zs.map (·.1.length) from Kj fun z _=>QQ _];exact this
section
variable {Rd:Nat->Prop} {W0:Wd} {bx b o:Nat} {m:MixD} {q:OA} {c:Nat} {p1 p2 p3:OA} {c1 c2 c3:Nat} {xs ys:List zay}
theorem zr6 (hM:MixM Rd W0 b o m q c p1 p2 p3 c1 c2 c3 xs ys) (fx:W0.heap[bx]?=some (.cells #[.pointer (some ⟨b,o,none⟩)] 244 (0,0))) (hbx:Rd bx) (hRd:∀ k,Rd k->k<W0.heap.size) (hT:Tz64M W0) (hRt:Rd 4) (hB:MixB m) (hev:m.base.ev.length<=48) :
  zqB PG 141 [At0 bx] (zfC m) W0 Rd (StX W0.heap.size) GvX:=by
 intro yl F0 J W hsz hrd hrf hJ hy h0;refine z6 141 [.func (.yield yl) #[] #[],At0 bx] (.c .p (.s .p (.c .p (.c .p (.c .p (.s .p .p)))))) Tryz.func141 ?_;have hMW:=hM.same hrd;have fxW:=(hrd bx hbx).trans fx;have hTW:Tz64M W:=j7 hT (hrd _ hRt);have hRW:∀ k,Rd k->k<W.heap.size:=fun k hk=>by have:=hRd k hk;omega
 obtain⟨L,hL⟩:=nm (W.heap.size);have hxl:xs.length=m.rs.length:=by have:=Gq List.length hM.e2;simpa using this
 have hyl:ys.length=m.wr.length:=by have:=Gq List.length hM.e3;simpa using this
 have hrl48:=hB.rl;have hwl6:=hB.wl;have hx1:∀ y∈xs,y.1.length<=1000:=fun y hy=>by
  have:y.1∈m.rs.map (·.2):=by rw [<- hM.e2];exact UO.2 ⟨y,hy,rfl⟩
  obtain⟨r,hr,he⟩:=UO.1 this;rw [<- he];exact (hB.rs r hr).2.1
 refine⟨Unit,fun _=>⟨[(1,At0 bx),(2,At0 L)],[]⟩,fun _ X=>X.heap[L]?=some (.cells #[.func (.yield yl) #[] #[]] 40 (0,0))/\X.heap.size=L+1/\Bw W X,?_,?_⟩
 ·exact⟨(),⟨.cons rfl (.cons (by rw [hL];rfl) .nil),rfl⟩,by rw [hL];exact zA W _,by rw [hL];exact wz _ _,(zba W _)⟩
 rintro _ X ⟨fL,sX,hbX⟩;refine⟨OA×Nat,fun s=>⟨[(1,At0 bx),(2,At0 L),(3,.slice s.1 (xs.map (·.1.length)).length s.2)],[]⟩,fun s Z=>OwnS zC 3 W.heap.size Z s.1 s.2 (xs.map (·.1.length))/\Z.heap[L]?=some (.cells #[.func (.yield yl) #[] #[]] 40 (0,0))/\Bw W Z,?_,?_⟩
 ·refine⟨_,zc (za (zb hbX fxW)) (i:=0) rfl,_,zeK (hMW.same fun k hk=>hbX.block k (hRW k hk)).cells (i:=1) rfl,?_⟩;refine⟨Nat×OA×Nat,fun s=>⟨[(1,At0 bx),(2,At0 L),(3,.slice s.2.1 ((xs.take s.1).map (·.1.length)).length s.2.2),(20,.slice p2 xs.length c2),(21,i64 xs.length),(22,i64 (s.1:Nat))],[]⟩,
   fun s Z=>s.1<=xs.length/\OwnS zC 3 W.heap.size Z s.2.1 s.2.2 ((xs.take s.1).map (·.1.length))/\Z.heap[L]?=some (.cells #[.func (.yield yl) #[] #[]] 40 (0,0))/\Bw W Z,fun s=>xs.length-s.1,(0,none,0),
   (cvE rfl rfl),⟨Ge _,OwnS.nil,fL,hbX⟩,?_⟩
  rintro⟨k,ps,cs⟩ Z ⟨hk,ho,fL,hbZ⟩;dsimp only at hk ho ⊢;refine biE (fun hc=>?_) fun hc=>?_
  ·have hc:(k:Int)<(xs.length:Int):=dT hc;have hkl:k<xs.length:=by omega
   have hZM:=hMW.same fun k hk=>hbZ.block k (hRW k hk);obtain⟨x,hx⟩:∃ x,xs[k]=x:=⟨_,rfl⟩;obtain⟨bp,op,hpe,hlp,hat⟩:=hZM.r2.at hkl;subst hpe;refine⟨k,rfl,hkl,slV x,by rw [<- hx];exact zc (hat k hkl) (i:=0) rfl,⟨by decide,by decide,rfl⟩,zC.enc x.1.length,rfl,?_⟩;have hb1:Bw Z (Z.alloc (.cells (zC.enc x.1.length).toArray 3)):=zba _ _;have hZs:=hbZ.size;have htl:((xs.take k).map (·.1.length)).length=k:=by rw [QQ,Qv];omega
   have htk:(xs.take (k+1)).map (·.1.length)=(xs.take k).map (·.1.length)++[x.1.length]:=by
    rw [tsg hkl,QT,hx];rfl
   unfold zeC zav;show SatR _ _;refine zqr (ho.below hb1) (qF zC x.1.length) (by have:=hb1.size;omega) (by have:=hB.rl;omega) fun p' c' U oU gU hat1=>?_;rw [zaH] at gU;rw [<- htk] at oU ⊢;have fU:=qg (zb hb1 fL) (ho.below hb1) (by decide) gU;exact nxI (by omega) ⟨(k+1,p',c'),(cvE rfl rfl),⟨hkl,oU,fU,hbZ.trans ((hb1.mono hZs).trans (q6 (ho.below hb1) (by have:=hb1.size;omega) (Gc _) gU))⟩,zdc (by omega)⟩
  ·have hc:¬ (k:Int)<(xs.length:Int):=dF hc;obtain rfl:k=xs.length:=by omega
   rw [Qx] at ho ⊢;exact⟨(ps,cs),(cvE rfl rfl),ho,fL,hbZ⟩
 clear fL sX hbX;rintro⟨ps,cs⟩ X ⟨ho,fL,hbX⟩;dsimp only at ho ⊢;refine⟨Nat,fun R=>⟨[(1,At0 bx),(2,At0 L),(3,.slice ps (xs.map (·.1.length)).length cs),(6,At0 R)],[]⟩,fun R Z=>CanS W.heap.size Z yl L R (xs.map (·.1.length)) ps cs [] none 0/\L<R/\Bw W Z,?_,?_⟩
 ·refine⟨X.heap.size,(cvE rfl rfl),⟨qy _ fL,zA X _,ho.alloc _,OwnS.nil,fun z hz=>(by cases hz),fun z hz=>(by cases hz),fun z hz=>(by cases hz)⟩,hlt fL,hbX.alloc hbX.size _⟩
 clear ho fL hbX;rintro R X ⟨hS,hLR,hbX⟩;refine⟨(List zdq×OA×Nat)×OA×Nat,fun s=>⟨[(1,At0 bx),(2,At0 L),(3,.slice s.2.1 (zbh m).length s.2.2),(6,At0 R)],[]⟩,fun s Z=>CanS W.heap.size Z yl L R (zbh m) s.2.1 s.2.2 s.1.1 s.1.2.1 s.1.2.2/\s.1.1.map (fun z=>z.1.map (·.1))=m.wr.map zaj/\Bw W Z,?_,?_⟩
 ·refine⟨_,zc (za (zb hbX fxW)) (i:=0) rfl,_,zeK (hMW.same fun k hk=>hbX.block k (hRW k hk)).cells (i:=2) rfl,?_⟩;refine⟨Nat×(List zdq×OA×Nat)×OA×Nat,fun s=>⟨[(1,At0 bx),(2,At0 L),(3,.slice s.2.2.1 (xs.map (·.1.length)++s.2.1.1.map (·.1.length)).length s.2.2.2),(6,At0 R),(35,.slice p3 ys.length c3),(36,i64 ys.length),(37,i64 (s.1:Nat))],[]⟩,
   fun s Z=>s.1<=ys.length/\CanS W.heap.size Z yl L R (xs.map (·.1.length)++s.2.1.1.map (·.1.length)) s.2.2.1 s.2.2.2 s.2.1.1 s.2.1.2.1 s.2.1.2.2/\s.2.1.1.map (fun z=>z.1.map (·.1))=(ys.take s.1).map (fun y=>zaj y.1)/\Bw W Z,fun s=>ys.length-s.1,(0,([],none,0),ps,cs),
   ⟨.cons rfl (.cons rfl (.cons (by simp;rfl) (.cons rfl (.cons rfl (.cons rfl (.cons rfl .nil)))))),rfl⟩,⟨Ge _,by simpa using hS,rfl,hbX⟩,?_⟩
  clear hS hbX;rintro⟨k,⟨zs,pr,cr⟩,ps,cs⟩ Z ⟨hk,hS,hz,hbZ⟩;dsimp only at hk hS hz ⊢;have hzl:zs.length=k:=by
   have:=Gq List.length hz;rw [QQ,QQ,Qv] at this;omega
  refine biE (fun hc=>?_) fun hc=>?_
  ·have hc:(k:Int)<(ys.length:Int):=dT hc;have hkl:k<ys.length:=by omega
   have hZM:=hMW.same fun k hk=>hbZ.block k (hRW k hk);obtain⟨y,hyk⟩:∃ y,ys[k]=y:=⟨_,rfl⟩;have hym:y∈ys:=by rw [<- hyk];exact gM hkl
   have hyw:y.1∈m.wr:=by rw [<- hM.e3];exact UO.2 ⟨y,hym,rfl⟩
   obtain⟨bw1,bw2,bw3⟩:=hB.wr _ hyw;obtain⟨bp,op,hpe,hlp,hat⟩:=hZM.r3.at hkl;subst hpe;refine⟨k,rfl,hkl,slV y,by rw [<- hyk];exact zc (hat k hkl) (i:=0) rfl,cmo (zpi (hZM.n3 y hym) bw1 (j7 hTW (hbZ.block _ (hRW _ hRt)))) ?_⟩;rintro e Y ⟨⟨rk,pk,ck,rfl,hrk,ork,onk⟩,hbY⟩;have hZs:=hbZ.size;have hSY:=hS.below hbY;have hrkl:rk.length<=10000:=by rw [<- hrk,QQ] at bw2;exact bw2
   obtain⟨nz,hnz⟩:∃ nz:zdq,nz=(rk,pk,ck):=⟨_,rfl⟩;have hen:[Value.slice pk rk.length ck]=zhJ.enc nz:=by rw [hnz];rfl
   refine⟨_,zc (za hSY.fR) (i:=0) rfl,⟨by decide,by decide,rfl⟩,zhJ.enc nz,by rw [<- hen];rfl,?_⟩;have hb1:Bw Y (Y.alloc (.cells (zhJ.enc nz).toArray 170)):=zba _ _;have hS1:=hSY.below hb1;have ork1:=ork.below hb1;have onk1:=fun x hx=>(onk x hx).below hb1;unfold zeC zav;show SatR _ _;refine zvY hS1.rk (qF zhJ nz) (by have:=hb1.size;have:=hbY.size;omega) (by have:=hB.wl;omega) fun p' c' U oU gU hat1=>?_;have fLU:=qg hS1.fL hS1.rk (by decide) gU;have fRU:=qg hS1.fR hS1.rk (by decide) gU;refine zu zvR fRU (o:=0) (v := .slice p' (zs++[nz]).length c') rfl rfl (by show 0<1;decide) rfl fun S fS gS sS=>?_;have hbZY:=hbZ.trans (hbY.mono hZs);have sY:=hbY.size;have sb1:=hb1.size;have hbU:Bw W U:=(hbZY.trans (hb1.mono (by omega))).trans (q6 hS1.rk (by omega) (Gc _) gU);have hRn:W.heap.size<=R:=by omega
   have hbS:Bw W S:=hbU.trans (zm gS hbU.size hRn);have hSS:CanS W.heap.size S yl L R (xs.map (·.1.length)++zs.map (·.1.length)) ps cs (zs++[nz]) p' c':=by
    have kU:∀ {α:Type} {E:Enc α} {T cc:Nat} {r:OA} {ll:List α},T≠170->T≠245->OwnS E T W.heap.size (Y.alloc (.cells (zhJ.enc nz).toArray 170)) r cc ll->OwnS E T W.heap.size S r cc ll:=fun {α E T cc r ll} h1 h2 h=>qh (j8 h hS1.rk h1 gU) fRU h2 gS;refine⟨(gS.block L (hlt fLU) (by simp;omega)).trans fLU,fS,kU (by decide) (by decide) hS1.own,qh oU fRU (by decide) gS,fun z hz=>?_,fun z hz=>?_,fun z hz=>?_⟩
    ·rcases QU.1 hz with hz | hz
     ·exact kU (by decide) (by decide) (hS1.n1 z hz)
     ·rw [KA.1 hz,hnz];exact kU (by decide) (by decide) (ork1.lower hZs)
    ·rcases QU.1 hz with hz | hz
     ·exact fun x hx=>kU (by decide) (by decide) (hS1.n2 z hz x hx)
     ·rw [KA.1 hz,hnz];exact fun x hx=>kU (by decide) (by decide) ((onk1 x hx).lower hZs)
    ·rcases QU.1 hz with hz | hz
     ·exact hS1.dis z hz
     ·rw [KA.1 hz,hnz];intro x hx a b ha hb;have:=(zx (onk x hx) hb).1;have:=(zx hS.own ha).2.1;omega
   clear hS1 ork1 onk1 hSY hS oU gU hat1 fLU fRU fS gS;refine⟨⟨by decide,by decide,rfl⟩,zC.enc rk.length,rfl,?_⟩;have hb2:Bw S (S.alloc (.cells (zC.enc rk.length).toArray 3)):=zba _ _;have hS2:=hSS.below hb2;have sbS:=hbS.size;have sb2:=hb2.size;unfold zeC zav;show SatR _ _;refine zqr hS2.own (qF zC rk.length) (by omega) (by rw [lap,QQ,QQ];have:=hB.rl;have:=hB.wl;omega) fun p2' c2' V oV gV hat2=>?_;rw [zaH] at gV;have hSV:=hS2.size oV gV hat2;have hzz:(xs.map (·.1.length)++zs.map (·.1.length))++[rk.length]=xs.map (·.1.length)++(zs++[nz]).map (·.1.length):=by
    rw [QT,KO,hnz];rfl
   rw [hzz] at hSV ⊢;refine nxI (by omega) ⟨(k+1,(zs++[nz],p',c'),p2',c2'),(cvE rfl rfl),⟨hkl,hSV,?_,hbS.trans ((hb2.mono sbS).trans (q6 hS2.own (by omega) (Gc _) gV))⟩,zdc (by omega)⟩;rw [tsg hkl,hyk,QT,QT,hz,hnz];show _++[rk.map (·.1)]=_++[zaj y.1];rw [hrk]
  ·have hc:¬ (k:Int)<(ys.length:Int):=dF hc;obtain rfl:k=ys.length:=by omega
   have hz2:zs.map (fun z=>z.1.map (·.1))=m.wr.map zaj:=by
    rw [Qx] at hz;rw [hz,<- hM.e3,UL];rfl
   have hsz2:xs.map (·.1.length)++zs.map (·.1.length)=zbh m:=by
    rw [zll hM.e2,zjW hz2];rfl
   rw [hsz2] at hS ⊢;exact⟨((zs,pr,cr),ps,cs),(cvE rfl rfl),hS,hz2,hbZ⟩
 clear hS hbX;rintro⟨⟨zs,pr,cr⟩,ps,cs⟩ V ⟨hS,hz,hbV⟩;dsimp only at hS hz ⊢;have hVs:=hbV.size;have hMV:=hMW.same fun k hk=>hbV.block k (hRW k hk);have fxV:=zb hbV fxW;have hsl1:(zbh m).length<=1000:=by
  unfold zbh;rw [lap,QQ,QQ];omega
 have hsl2:∀ n∈zbh m,n<=1000000:=fun n hn=>by
  unfold zbh at hn;rcases QU.1 hn with hn | hn
  ·obtain⟨r,hr,rfl⟩:=UO.1 hn;have:=(hB.rs r hr).2.1;omega
  ·obtain⟨w,hw,rfl⟩:=UO.1 hn;have:=(hB.wr w hw).2.1;omega
 refine cmo zpk ?_;rintro e V1 ⟨rfl,fo,sV1,hbV1⟩;have hI:=zsu fo (hS.own.row.below hbV1) (fun a ha=>by have:=(zx hS.own ha).2.1;omega) hsl1 hsl2;obtain⟨Kp,hKp⟩:∃ Kp:(Nat->Prop)->Wd->Prop,Kp=fun F Y=>V1.heap.size<=Y.heap.size/\∀ k,k<V.heap.size->(Rd k\/W.heap.size<=k)->Y.heap[k]?=V.heap[k]?/\¬ F k:=⟨_,rfl⟩;have hF0:∀ k,F0 k->k<W.heap.size:=fun k hk=>(hJ.lt _ _ _ _ h0 hk).1;have hLV:=hlt hS.fL;have hRV:=hlt hS.fR;have hb1:Bw W V1:=hbV.trans (hbV1.mono hVs);refine zc4 (zbi _) rfl (lb := #[At0 V.heap.size]) rfl rfl hI (Gc _) (fun k hk=>⟨?_,rfl⟩) (fun pre vs W ⟨l,q,_,h,_⟩=>by rw [h];rfl) (by decide)
  F0 (fun pre F Y=>J (pre.map (zaP m)) F Y/\Kp F Y) (fun _ _ _ _=>False) (fun k hk=>?_) ⟨?_,?_⟩ (fun ex=>⟨fun _ _ _ _ h=>h.elim,fun _ _ _ _ h=>h.elim⟩) ⟨hJ.step _ _ _ _ h0 (.below hb1),?_⟩ ?_ ?_ ?_
 ·rcases hk with (rfl | ⟨a,ha,rfl⟩) | h
  ·omega
  ·have:=(zx hS.own ha).2.1;omega
  ·exact h.elim
 ·rcases hk with rfl | ⟨a,ha,rfl⟩
  ·intro h;have:=hF0 _ h;omega
  ·intro h;have:=hF0 _ h;have:=(zx hS.own ha).1;omega
 ·rintro pre F A C ⟨hj,hk⟩ hs;rw [hKp] at hk ⊢;have hss:=hs.size;exact⟨hJ.step _ _ _ _ hj (hs.mono (by omega)),UT hk.1 hss,fun k h1 h2=>⟨(hs.same k (by have:=hk.1;omega) (.inl ⟨by omega,fun h=>h⟩)).trans (hk.2 k h1 h2).1,(hk.2 k h1 h2).2⟩⟩
 ·rintro pre F A k ⟨hj,_⟩ hk;exact hJ.lt _ _ _ _ hj hk
 ·rw [hKp];refine⟨Gc _,fun k h1 h2=>⟨hbV1.block k h1,fun h=>?_⟩⟩;rcases h2 with h2 | h2
  ·exact hrf k h2 h
  ·have:=hF0 k h;omega
 ·rintro yl2 pre ds vs F Y hyl hpre hJ0 ⟨l,qd,hlast,rfl,hsl,hcel⟩ hfy ⟨lo,hlo⟩;have hdx:ds=l:=by simpa using hlast
  subst hdx;refine⟨rfl,F,KeepsG.refl _ _,hJ0,?_⟩;rintro O Y2 hY2 ⟨hj,hkp⟩;rw [hKp] at hkp;obtain⟨hY2s,hkp⟩:=hkp;have hkq:=hkp;have hslY:SlR zC Y2 qd ds:=by
   rw [hY2];refine qN hsl fun a ha=>zj fun e=>?_;obtain⟨cur,hcur⟩:=hcel a ha;rw [e,hlo] at hcur
   cases hcur
  obtain⟨hdl,hdlt⟩:=zm1 (hpre.subset (JO _ (KA.2 rfl)));have hdl2:ds.length=m.rs.length+m.wr.length:=by
   rw [hdl];unfold zbh;rw [lap,QQ,QQ]
  have hMY:MixM Rd Y2 b o m q c p1 p2 p3 c1 c2 c3 xs ys:=hMV.same fun k hk=>(hkp k (by have:=hRW k hk;omega) (.inl hk)).1;have fxY:=(hkp bx (by have:=hRW bx hbx;omega) (.inl hbx)).1.trans fxV;have fLY:=(hkp L hLV (.inr (by omega))).1.trans hS.fL;have fRY:=(hkp R hRV (.inr (by omega))).1.trans hS.fR;have kR:∀ {α:Type} {E:Enc α} {T cc:Nat} {r:OA} {ll:List α},OwnS E T W.heap.size V r cc ll->OwnS E T W.heap.size Y2 r cc ll:=fun {α E T cc r ll} h=>h.same fun a ha=>(hkp _ (zx h ha).2.1 (.inr (zx h ha).1)).1;have rkY:=kR hS.rk;have n1Y:=fun z hz=>kR (hS.n1 z hz);have n2Y:=fun z hz y hy=>kR (hS.n2 z hz y hy);clear hkp hlo hcel hsl;have hbY:b<Y2.heap.size:=by have:=hRW b hM.db;omega
  refine⟨_,zc (za fxY) (i:=0) rfl,?_⟩;have hbase:zo Y2 ⟨b,o,none⟩ (exC m.base q c):=by
   have:=zM (n:=0) (m:=333) hMY.cells;rw [Uo,Jg (by rw [zH];decide),JE (by rw [zH];decide)] at this;exact this
  refine⟨exC m.base q c,zH _ _ _,hbase,hbY,?_⟩;obtain⟨M,hMM⟩:=nm (Y2.heap.size);refine zk (X:=Y2) (v := .agg (exC m.base q c).toArray) k37 (zH _ _ _) zbu (zcE _ _ _) fun Z hbZ fZ sZ=>?_;have fZ:ExH Z Y2.heap.size m.base q c:=fZ;rw [<- hMM] at fZ ⊢;refine⟨_,zc (za fZ) (i:=0) rfl,cmo (ziI (hMY.ev.below hbZ) (by omega) hMY.qn) ?_⟩;rintro e Z2 ⟨⟨q1,k1,rfl,oE⟩,hbZ2⟩;refine zu k25 (zb hbZ2 fZ) (o:=0+0) (v := .slice q1 m.base.ev.length k1) rfl rfl (by rw [zH];decide) rfl fun S fS gS sS=>?_;rw [show 0+0=0 from rfl,ztw] at fS;have hMZ2:M<Z2.heap.size:=by have:=hbZ2.size;omega
  have hbS:Bw Y2 S:=((zst hbZ hbZ2)).trans (zm gS (by omega) (by omega));have oES:OwnS evE 158 Y2.heap.size S q1 k1 m.base.ev:=qh (oE.lower hbZ.size) (zb hbZ2 fZ) (by decide) gS;clear oE gS sS fZ hbZ hbZ2;have tMY:∀ {S:Wd},Bw Y2 S->MixM Rd S b o m q c p1 p2 p3 c1 c2 c3 xs ys:=fun {S} hb=>hMY.same fun k hk=>hb.block k (by have:=hRW k hk;omega);have hxlen:=hxl;refine⟨_,zc (za (zb hbS fxY)) (i:=0) rfl,_,zeK (tMY hbS).cells (i:=0) rfl,?_⟩;refine⟨Nat,fun k=>⟨[(1,At0 bx),(2,At0 L),(6,At0 R),(10,.slice qd ds.length ds.length),(11,At0 M),(67,.slice p1 m.rs.length c1),(68,i64 m.rs.length),(69,i64 (k:Nat))],[]⟩,
   fun k Z=>k<=m.rs.length/\ExH Z M { m.base with rf:=⟨m.base.rf.n,rfF (m.rs.take k) ds m.base.rf.to⟩ } q1 k1/\OwnS evE 158 Y2.heap.size Z q1 k1 m.base.ev/\Bw Y2 Z,fun k=>m.rs.length-k,0,
   (cvE rfl rfl),⟨Ge _,fS,oES,hbS⟩,?_⟩
  clear fS oES hbS;rintro k Z ⟨hk,fZ,oE,hbZ⟩;refine biE (fun hc=>?_) fun hc=>?_
  ·have hc:(k:Int)<(m.rs.length:Int):=dT hc;have hkl:k<m.rs.length:=by omega
   have hZM:=tMY hbZ;have hZs:=hbZ.size;obtain⟨⟨r,s⟩,hrs⟩:∃ x,m.rs[k]=x:=⟨_,rfl⟩;obtain⟨hr48,hs1,hs48⟩:=hB.rs (r,s) (by rw [<- hrs];exact gM hkl);dsimp only at hr48 hs1 hs48;have hkx:k<xs.length:=by omega
   obtain⟨y,hyk⟩:∃ y,xs[k]=y:=⟨_,rfl⟩;have hym:y∈xs:=by rw [<- hyk];exact gM hkx
   have hys:y.1=s:=by
    have h1:(xs.map (·.1))[k]?=some y.1:=(by rw [KU,gE hkx,hyk];rfl);rw [hM.e2,KU,gE hkl,hrs] at h1;exact (Ug h1).symm
   obtain⟨d,hd⟩:∃ d,ds[k]?=some d:=⟨_,gE (by omega)⟩;have hkd:k<ds.length:=by omega
   have hde:ds[k]=d:=by rw [gE hkd] at hd;exact Ug hd
   have hdlt2:d<y.1.length:=by
    refine hdlt k _ d ?_ hd;unfold zbh;rw [Jp (by rw [QQ];exact hkl),KU,gE hkl,hrs,hys];rfl
   have hdlt3:d<s.length:=by rw [<- hys];exact hdlt2
   obtain⟨t,ht⟩:∃ t,y.1[d]=t:=⟨_,rfl⟩;have hts:s[d]=t:=by
    have h1:y.1[d]?=some t:=(by rw [gE hdlt2,ht]);rw [hys,gE hdlt3] at h1;exact Ug h1
   have ht48:t<48:=hs48 t (by rw [<- hts];exact gM hdlt3);have hgt:s.getD (ds.getD k 0) 0=t:=by
    rw [gDe,gDe,hd];show (s[d]?).getD 0=t;rw [gE hdlt3,hts];rfl
   have htk:rfF (m.rs.take (k+1)) ds m.base.rf.to=upd (rfF (m.rs.take k) ds m.base.rf.to) t (rfF (m.rs.take k) ds m.base.rf.to t|||2^r):=by
    rw [tsg hkl,hrs,zjU,Qv,Uc hk,hgt]
   obtain⟨G,hG⟩:=nm (rfF (m.rs.take k) ds m.base.rf.to);have hGw:zI G:=by
    rw [hG];exact zmy (ds:=[]) hB.rf fun r hr=>(hB.rs r (JZ hr)).1
   rw [<- hG] at fZ htk;obtain⟨A,T,hA,hE⟩:=zp2 { m.base with rf:=⟨m.base.rf.n,G⟩ } q1 k1;have hRel:RelAt Z M 50 37 A T ⟨m.base.rf.n,G⟩:=⟨hA,by rw [<- hE];exact fZ⟩;have hr1:k<(m.rs.map (·.1)).length:=by rw [QQ];exact hkl
   obtain⟨b1,o1,hp1,hl1,hat1⟩:=hZM.r1.at hr1;obtain⟨b2,o2,hp2,hl2,hat2⟩:=hZM.r2.at hkx;obtain⟨b3,o3,hp3,hl3,hat3⟩:=(hZM.n2 y hym).at hdlt2;have hslZ:=hslY.below hbZ;obtain⟨b4,o4,hp4,hl4,hat4⟩:=hslZ.at hkd;have e1:some (Value.slice p1 m.rs.length c1)=some (Value.slice (some ⟨b1,o1,none⟩) m.rs.length c1):=by rw [hp1]
   subst hp1;subst hp2;subst hp4;refine⟨k,rfl,hkl,i64 r,by have:=zc (hat1 k hr1) (i:=0) (v:=i64 r) (by rw [Qr,hrs];rfl);exact this,?_⟩;have dZ:Bw Z Z.drew:=(Gh _ _).drew;refine DrawE.ord [23] [0,1,2,3,4,5,6,7,8,9,10,11,12,13,14,15,16,17,18,19,20,21,22,23] (by kernel_rfl) ⟨_,zc (za (hdr (zb hbZ fxY))) (i:=0) rfl,_,zeK (hZM.same (X:=Z.drew) fun _ _=>rfl).cells (i:=1) rfl,k,rfl,hkx,slV y,by have:=zc (zw dZ (hat2 k hkx)) (i:=0) (v:=slV y) (by rw [hyk];rfl);exact this,k,rfl,hkd,i64 d,by have:=zc (zw dZ (hat4 k hkd)) (i:=0) (v:=i64 d) (by rw [hde];rfl);exact this,?_⟩;unfold slV;rw [hp3];refine⟨d,rfl,hdlt2,i64 t,by have:=zc (zw dZ (hat3 d hdlt2)) (i:=0) (v:=i64 t) (by rw [ht];rfl);exact this,t,rfl,ht48,s64 (G t),(hRel.same (Y:=Z.drew) rfl).cell ht48,by omega,_,jU (e:=r) (by omega),_,zao (hGw t ht48) (zZ (by omega)),t,rfl,ht48,zu k27 (hRel.same (Y:=Z.drew) rfl).cells (o:=50+1+t*1) (v:=s64 (G t|||2^r)) rfl rfl (by rw [hRel.len];omega) rfl fun S fS gS sS=>?_⟩;rw [hRel.set ht48] at fS;have gS2:Z.grownBy S (some M):=zg (zh dZ) gS;refine nxI (by omega) ⟨k+1,(cvE rfl rfl),⟨hkl,?_,qh oE fZ (by decide) gS2,hbZ.trans (zm gS2 hZs (by omega))⟩,zdc (by omega)⟩;rw [htk];have e5:=hE ⟨m.base.rf.n,upd G t (G t|||2^r)⟩;show S.heap[M]?=some (.cells (exC { m.base with rf:=⟨m.base.rf.n,upd G t (G t|||2^r)⟩ } q1 k1).toArray _ _);exact fS.trans (by rw [<- e5])
  have hc:¬ (k:Int)<(m.rs.length:Int):=dF hc;obtain rfl:k=m.rs.length:=by omega
  rw [Qx] at fZ;obtain⟨RF,hRF⟩:∃ RF:ExD,RF={ m.base with rf:=⟨m.base.rf.n,rfF m.rs ds m.base.rf.to⟩ }:=⟨_,rfl⟩;rw [<- hRF] at fZ;have hRFe:RF.ev=m.base.ev:=by rw [hRF]
  have hRFc:RF.co=m.base.co:=by rw [hRF]
  have hRFm:RF.mem=m.base.mem:=by rw [hRF]
  obtain⟨dl,hdle⟩:=nm (ds.drop m.rs.length);have hdll:dl.length=m.wr.length:=by rw [hdle,Qu];omega
  have hslD:SlR zC Y2 (qS qd ds.length m.rs.length 1) dl:=by
   have:=hslY.sub (cap:=ds.length) (lo:=m.rs.length) (hi:=ds.length) (by omega) (Gc _) (Gc _);rw [JE (by rw [Qu];exact Gc _),<- hdle] at this;exact this
  refine⟨_,zc (za (zb hbZ fxY)) (i:=0) rfl,_,zeK (tMY hbZ).cells (i:=0) rfl,m.rs.length,rfl,by omega,?_⟩;obtain⟨qD,hqD⟩:=nm (qS qd ds.length m.rs.length 1);rw [<- hqD] at hslD ⊢;have hdn:ds.length-m.rs.length=dl.length:=by omega
  rw [hdn];obtain⟨Rs,hRs⟩:=nm (m.wr.map zaj);have hRsl:Rs.length=m.wr.length:=by rw [hRs,QQ]
  have hzl:zs.length=m.wr.length:=by have:=Gq List.length hz;simpa using this
  have hRsb:∀ R∈Rs,∀ k∈R,k≠[]/\k.length<=48/\∀ a∈k,a<m.base.ev.length:=fun R hR k hk=>by
   rw [hRs] at hR;obtain⟨w,hw,rfl⟩:=UO.1 hR;exact (hB.wr w hw).2.2 k hk
  refine⟨Nat,fun l=>⟨[(1,At0 bx),(2,At0 L),(6,At0 R),(11,At0 M),(104,.slice qD dl.length dl.length),(105,i64 dl.length),(106,i64 (l:Nat))],[]⟩,
   fun l Z=>l<=dl.length/\ExH Z M { RF with co:=(coG m.base.ev 0 (Rs.take l) dl (RF.co,RF.mem)).1,mem:=(coG m.base.ev 0 (Rs.take l) dl (RF.co,RF.mem)).2 } q1 k1/\OwnS evE 158 Y2.heap.size Z q1 k1 m.base.ev/\Bw Y2 Z,fun l=>dl.length-l,0,
   (cvE rfl rfl),⟨Ge _,fZ,oE,hbZ⟩,?_⟩
  clear fZ oE hbZ;rintro l Z ⟨hl,fZ,oE,hbZ⟩;obtain⟨P,hP⟩:=nm (coG m.base.ev 0 (Rs.take l) dl (RF.co,RF.mem));rw [<- hP] at fZ;have hZs:=hbZ.size;have hPw:zI P.1.to:=by
   rw [hP];refine zm5 (by rw [hRFc];exact hB.co) fun R hR k hk a ha=>?_;have:=(hRsb R (JZ hR) k hk).2.2 a ha;omega
  refine biE (fun hc=>?_) fun hc=>?_
  ·have hc:(l:Int)<(dl.length:Int):=dT hc;have hll:l<dl.length:=by omega
   have hlz:l<zs.length:=by omega
   have hlR:l<Rs.length:=by omega
   obtain⟨z,hzk⟩:∃ z,zs[l]=z:=⟨_,rfl⟩;have hzm:z∈zs:=by rw [<- hzk];exact gM hlz
   have hzR:Rs[l]?=some (z.1.map (·.1)):=by
    rw [hRs,<- hz,KU,gE hlz,hzk];rfl
   have hzRm:z.1.map (·.1)∈Rs:=JY hzR;obtain⟨d,hd⟩:∃ d,dl[l]=d:=⟨_,rfl⟩;have hdd:dl[l]?=some d:=by rw [gE hll,hd]
   have hdz:d<z.1.length:=by
    refine hdlt (m.rs.length+l) _ d ?_ (by rw [hdle,Kw] at hdd;exact hdd);unfold zbh;rw [Jl (by rw [QQ];omega),QQ,Jw];have:=hzR;rw [hRs,KU] at this;rw [KU]
    cases hw:m.wr[l]? with
    | none=>rw [hw] at this;cases this
    | some w =>
     rw [hw] at this;have h2:zaj w=z.1.map (·.1):=Ug this;show some (zaj w).length=_;rw [h2,QQ]
   obtain⟨y,hyk⟩:∃ y,z.1[d]=y:=⟨_,rfl⟩;have hym:y∈z.1:=by rw [<- hyk];exact gM hdz
   obtain⟨hy0,hy48,hyev⟩:=hRsb _ hzRm y.1 (UO.2 ⟨y,hym,rfl⟩);have hgy:(z.1.map (·.1)).getD d []=y.1:=by
    rw [gDe,KU,gE hdz,hyk];rfl
   obtain⟨hlR2,hzR2⟩:=Jq.1 hzR;have htk:coG m.base.ev 0 (Rs.take (l+1)) dl (RF.co,RF.mem)=(za6 y.1 P.1,upd P.2 l (zg5 m.base.ev y.1)):=by
    rw [tsg hlR,hzR2,zkP,<- hP,Qv,Uc (by omega),UX];rw [show dl.getD l 0=d by rw [gDe,hdd];rfl,hgy]
   obtain⟨bD,oD,hpD,hlD,hatD⟩:=(hslD.below hbZ).at hll;obtain⟨bR,oR,hpR,hlR0,hatR⟩:=(rkY.below hbZ).row.at hlz;obtain⟨bz,oz,hpz,hlz0,hatz⟩:=((n1Y z hzm).below hbZ).row.at hdz;have hyrow:=((n2Y z hzm y hym).below hbZ).row;have hylt:=fun a ha=>(zx (n2Y z hzm y hym) (a:=a) ha).2.1;subst hpD;subst hpR;refine⟨l,rfl,hll,i64 d,by have:=zc (hatD l hll) (i:=0) (v:=i64 d) (by rw [hd];rfl);exact this,_,zc (za (zb hbZ fRY)) (i:=0) rfl,l,rfl,hlz,.slice z.2.1 z.1.length z.2.2,by have:=zc (hatR l hlz) (i:=0) (v := .slice z.2.1 z.1.length z.2.2) (by rw [hzk];rfl);exact this,?_⟩;rw [hpz];refine⟨d,rfl,hdz,slV y,by have:=zc (hatz d hdz) (i:=0) (v:=slV y) (by rw [hyk];rfl);exact this,?_⟩;obtain⟨A,T,hA,hE⟩:=zlT { RF with co:=P.1,mem:=P.2 } q1 k1;have hRel:RelAt Z M 99 37 A T P.1:=⟨hA,by rw [<- hE];exact fZ⟩;refine cmo (zpx hRel hPw hyrow (fun a ha=>by have:=hylt a ha;omega) (by omega) (fun a ha=>by have:=hyev a ha;omega)) ?_;rintro e V2 ⟨rfl,hRel2,gV2⟩;have fV2:ExH V2 M { RF with co:=za6 y.1 P.1,mem:=P.2 } q1 k1:=by
    have e5:=hE (za6 y.1 P.1);show V2.heap[M]?=some (.cells (exC { RF with co:=za6 y.1 P.1,mem:=P.2 } q1 k1).toArray _ _);exact hRel2.cells.trans (by rw [<- e5])
   have hbV2:Bw Y2 V2:=hbZ.trans (zm gV2 hZs (by omega));have oE2:=qh oE fZ (by decide) gV2;have hyr2:=((n2Y z hzm y hym).below hbV2).row;obtain⟨j,hj2⟩:∃ j,j+1=y.1.length:=⟨y.1.length-1,by have:=List.length_pos_iff.2 hy0;omega⟩;have hjl:j<y.1.length:=by omega
   obtain⟨b6,o6,hp6,hl6,hat6⟩:=hyr2.at hjl;obtain⟨t,ht⟩:∃ t,y.1[j]=t:=⟨_,rfl⟩;have htev:t<m.base.ev.length:=hyev t (by rw [<- ht];exact gM hjl);have hlast:y.1.getLastD 0=t:=by
    rw [List.getLastD_eq_getLast?,List.getLast?_eq_getElem?,show y.1.length-1=j by omega,gE hjl,ht];rfl
   obtain⟨b7,o7,hp7,hl7,hat7⟩:=oE2.row.at htev;have hlV:zg5 m.base.ev y.1=(m.base.ev[t]).v:=by
    show (m.base.ev.getD (y.1.getLastD 0) ev0).v=_;rw [hlast,gDe,gE htev];rfl
   have dV:Bw V2 V2.drew:=(Gh _ _).drew;have hl6':l<6:=by omega
   unfold slV;rw [hp6];refine DrawE.ord [15] [0,1,2,3,4,5,6,7,8,9,10,11,12,13,14,15] (by kernel_rfl) ⟨.slice q1 m.base.ev.length k1,by have:=zc (za (hdr fV2)) (i:=0) (v := .slice q1 RF.ev.length k1) rfl;rw [hRFe] at this;exact this,(j:Nat),(zi (by omega)).trans (by omega),j,rfl,hjl,i64 t,by have:=zc (zw dV (hat6 j hjl)) (i:=0) (v:=i64 t) (by rw [ht];rfl);exact this,?_⟩;rw [hp7];refine⟨t,rfl,htev,u8 (m.base.ev[t]).v,by have:=zc (zw dV (hat7 t htev)) (i:=3) (v:=u8 (m.base.ev[t]).v) rfl;exact this,l,rfl,hl6',zu k5 (hdr fV2) (o:=327+l*1) (v:=u8 (m.base.ev[t]).v) rfl rfl (by rw [zH];omega) rfl fun S fS gS sS=>?_⟩;rw [Gd,zrK _ _ _ hl6'] at fS;have gS2:V2.grownBy S (some M):=zg (zh dV) gS;refine nxI (by omega) ⟨l+1,(cvE rfl rfl),⟨hll,?_,by rw [<- hp7];exact qh oE2 fV2 (by decide) gS2,hbV2.trans (zm gS2 hbV2.size (by omega))⟩,zdc (by omega)⟩;rw [htk,hlV,<- hp7];exact fS
  have hc:¬ (l:Int)<(dl.length:Int):=dF hc;obtain rfl:l=dl.length:=by omega
  rw [JE (by omega)] at hP;have hcand:zaP m ds={ RF with co:=P.1,mem:=P.2 }:=by
   rw [hP,hRF,hdle,hRs];rfl
  rw [<- hcand] at fZ;have oE:OwnS evE 158 Y2.heap.size Z q1 k1 (zaP m ds).ev:=oE;refine⟨_,zc (za (zb hbZ fLY)) (i:=0) rfl,exC (zaP m ds) q1 k1,zH _ _ _,za fZ,hlt fZ,?_⟩;have hjZ:=hJ.step _ _ _ _ hj (StepG.below hbZ);have hGv:∀ k,GvX [.agg (exC (zaP m ds) q1 k1).toArray] k->Y2.heap.size<=k/\∃ a,q1=some a/\k=a.block:=by
   rintro k ⟨x,a,cc,he,rfl⟩;have h1:(exC (zaP m ds) q1 k1).toArray=(exC x (some a) cc).toArray:=by
    have:=Jv he;exact Value.agg.inj this
   have h2:exC (zaP m ds) q1 k1=exC x (some a) cc:=by simpa using h1
   have h3:Value.slice q1 (zaP m ds).ev.length k1=Value.slice (some a) x.ev.length cc:=Jv h2;have h4:q1=some a:=by injection h3
   exact⟨(zx oE h4).1,a,h4,rfl⟩
  have hmp:(pre++[ds]).map (zaP m)=pre.map (zaP m)++[zaP m ds]:=by rw [QT];rfl
  have hpm:(pre.map (zaP m)++[zaP m ds]) <+: zfC m:=by
   obtain⟨t,ht⟩:=hpre;refine⟨t.map (zaP m),?_⟩;unfold zfC;rw [<- ht,QT,hmp]
  refine YieldR.mono (hy _ (zaP m ds) [.agg (exC (zaP m ds) q1 k1).toArray] F Z hjZ ⟨_,q1,k1,by simp,rfl,oE.lower (by omega)⟩ (fun k hk=>by have:=(hGv k hk).1;omega) hpm) ?_;rintro v U ⟨rfl,F',hjU,kU⟩;refine brF ?_;have kF:KeepsG F F' Y2 U:=⟨kU.os.trans hbZ.os,kU.tape.trans hbZ.tape,kU.output.trans hbZ.output,UT hbZ.size kU.size,fun k hk hf=>(kU.same k (by omega) (fun h=>h.elim hf fun h=>by have:=(hGv k h).1;omega)).trans (hbZ.block k hk),fun k hk=>by
   rcases kU.fp k hk with (h | h) | h
   ·exact .inl h
   ·exact .inr (hGv k h).1
   ·exact .inr (by omega)⟩
  refine⟨F',⟨by rw [hmp];exact hjU,?_⟩,kF⟩;rw [hKp];refine⟨UT hY2s kF.size,fun k h1 h2=>?_⟩;obtain⟨h3,h4⟩:=hkq k h1 h2;refine⟨(kF.same k (by omega) h4).trans h3,fun h=>?_⟩;rcases kF.fp k h with h | h
  ·exact h4 h
  ·omega
 ·rintro D F Y hD hfD ⟨hj,hk⟩ hdef;refine⟨_,rfl,hdef,⟨_,rfl⟩,F,?_⟩;show J ((zbG (zbh m)).map (zaP m)) F _;exact hJ.step _ _ _ _ hj (.put (by omega) hfD _)
 ·rintro D ex pre F Y hD hfD hpre h;exact h.elim
end
end Go.Proofs.YtnadlhpkpnfmbaaGreatDoor
namespace Go.Sei
def isR (x:ExD) (i:Nat):Bool:=decide ((evA x i).k=1)
def isW (x:ExD) (i:Nat):Bool:=decide ((evA x i).k=2)
def zmg (x:ExD) (i:Nat):Bool:=isR x i||isW x i
def zcm (r:RelD) (a b:Nat):Bool:=(r.to a).testBit b
def zfX (n:Nat) (p:Nat->Bool):Nat:=(List.range n).foldl (fun s b=>if p b=true then s|||2^b else s) 0
def zbm (n:Nat) (p:Nat->Nat->Bool):RelD:=jG n fun a=>zfX n (p a)
def frM (x:ExD):RelD:=(zfE (qP x.rf) x.co).1
def zgz (x:ExD) (a b:Nat):Bool:=zmg x a&&(zmg x b&&decide ((evA x a).l=(evA x b).l))
def zhO (x:ExD) (r:RelD):RelD:=zbm r.n.toNat fun a b=>zcm r a b && !decide ((evA x a).th=(evA x b).th)
def zn2 (x:ExD) (r:RelD):RelD:=zbm r.n.toNat fun a b=>zcm r a b&&decide ((evA x a).th=(evA x b).th)
def zrk (x:ExD):RelD:=zbm x.ev.length (zgz x)
theorem zom {p:Nat->Bool} {n k:Nat} (hk:k<n) (h:p k=false):(List.range n).all p=false:=by
 rw [KM];exact⟨k,Uq.2 hk,by rw [h];decide⟩
theorem zqt {p:Nat->Bool} {k:Nat} (h:(List.range k).all p=true) (hp:p k=true):(List.range (k+1)).all p=true:=by
 rw [QY,QL,h];simp [hp]
theorem zmC {a j:Nat}:(2^a).testBit j=decide (j=a):=by
 rw [Kn];exact QH.2 ⟨fun e=>e.symm,fun e=>e.symm⟩
theorem zmB {a:Nat}:∀ (l:List Nat) (f:Nat->Nat) (b j:Nat),((l.foldl (fun f b=>upd f b (f b|||2^a)) f) b).testBit j=((f b).testBit j||(decide (b∈l)&&decide (j=a)))
 | [],f,b,j=>by simp
 | x::l,f,b,j=>by
  rw [QO,zmB l];by_cases hx:b=x
  ·subst hx;rw [qZ,Nat.testBit_or,zmC];by_cases hl:b∈l <;> by_cases hj:j=a <;> simp [hl,hj]
  ·rw [zaA _ _ hx];simp [hx]
theorem zfD (tf:Nat->Nat):∀ (n b j:Nat),(zan tf n b).testBit j=(decide (j<n)&&decide (b∈els (tf j)))
 | 0,b,j=>by
  show (0:Nat).testBit j=_;simp
 | n+1,b,j=>by
  have ih:=zfD tf n b j;unfold zan at ih ⊢;rw [QY,KT,QO,List.foldl_nil,zmB,ih];by_cases hj:j=n
  ·subst hj;simp
  ·by_cases h2:j<n
   ·rw [Ut h2,Ut (by omega:j<n+1),Uj hj];simp
   ·rw [Uj h2,Uj (by omega:¬ j<n+1),Uj hj];simp
theorem zqp {r:RelD} (h:okR r=true) {b j:Nat}:((qP r).to b).testBit j=(decide ((j:Int)<r.n)&&decide (b∈els (r.to j))):=by
 have hn:0<=r.n:=by
  unfold okR at h;rw [bAT,dE] at h;exact h.1
 have e:qP r=⟨r.n,zan r.to r.n.toNat⟩:=Gx h;rw [e];show (zan r.to r.n.toNat b).testBit j=_;rw [zfD];congr 1;exact QH.2 (by omega)
theorem zm3 {s:Nat} (h0:s≠0) (h:s<2^64):ctz s∈els s:=by
 rw [(ju h0 h).1];exact Kz
end Go.Sei
namespace Go.Proofs.YtnadlhpkpnfmbaaGreatDoor
open Go.Vc Go.RowKit Go.Sei
section
variable {b c:Nat} {x:ExD} {q:OA} {w:Wd}
theorem zea {k:Nat}:x.ev.getD k ev0=evA x k:=rfl
theorem znD (fx:ExH w b x q c) (hv:ExV w x q) (hn:x.rf.n=x.ev.length) (hok:okR x.rf=true) (hT:Tz64M w):CB 42 #[At0 b] w (.bool (zbQ x)):=by
 refine z6 72 [At0 b] (.s .p (.c .p .p)) Tryz.func42 ?_;obtain⟨from_,hfr⟩:∃ f,f=qP x.rf:=⟨_,rfl⟩;have hn20:=hv.n;refine⟨Nat,fun F=>⟨[(0,At0 b),(3,At0 F)],[]⟩,fun F X=>qj X F from_/\zI from_.to/\w.heap.size<=F/\Bw w X,?_,?_⟩
 ·refine⟨ze x.rf,zf _,?_,hlt fx,?_⟩
  ·have h:=zM (n:=50) (m:=49) (za fx);obtain⟨A,T,hA,hE⟩:=zp2 x q c;have e:=hE x.rf;have e2:(exC x q c).drop 50=ze x.rf++T:=by
    show (exC { x with rf:=x.rf } q c).drop 50=_;rw [e,<- hA,Un]
   have e3:((exC x q c).toArray.toList.drop 50).take 49=ze x.rf:=by
    show ((exC x q c).drop 50).take 49=_;rw [e2,Jg (by rw [zf];decide),JE (by rw [zf];decide)]
   rw [e3] at h;exact h
  refine cmo (zhF hv.rf hT) ?_;rintro e Y ⟨rfl,hbY,hwr⟩;refine zk (X:=Y) (v := .agg (ze (qP x.rf)).toArray) k30 (zf _) (by kernel_rfl) (zK _) fun Z hbZ fZ sZ=>?_;rw [<- hfr] at fZ hwr;exact⟨Y.heap.size,(cvE rfl rfl),fZ,hwr,hbY.size,(zst hbY hbZ)⟩
 rintro F X ⟨fF,hwr,hF,hbX⟩;have bits:∀ i j,(from_.to i).testBit j=true->j<x.ev.length:=fun i j h=>by
  rw [hfr,zqp hok,bAT,dE,hn] at h;omega
 refine⟨_,zc (za (zb hbX fx)) (i:=0) rfl,Nat,fun k=>⟨[(0,At0 b),(3,At0 F),(18,.slice q x.ev.length c),(19,i64 x.ev.length),(20,i64 (k:Nat))],[]⟩,fun k X=>k<=x.ev.length/\(List.range k).all (fun i=>zc2 x (from_.to i) (evA x i))=true/\qj X F from_/\Bw w X,fun k=>x.ev.length-k,0,(cvE rfl rfl),⟨Ge _,rfl,fF,hbX⟩,?_⟩;have hall:zbQ x=(List.range x.ev.length).all fun i=>zc2 x (from_.to i) (evA x i):=by rw [hfr];rfl
 clear fF hbX;rintro k X ⟨hk,hgo,fF,hbX⟩;dsimp only;have hXs:=hbX.size;refine biE (fun hc=>?_) fun hc=>?_
 ·have hc:(k:Int)<(x.ev.length:Int):=dT hc;have hkl:k<x.ev.length:=by omega
  obtain⟨bq,oq,hqe,hb,hat⟩:=zca (hv.ev.below hbX) hkl;rw [zea] at hat;obtain⟨e,he⟩:=nm (evA x k);obtain⟨s,hs⟩:=nm (from_.to k);rw [<- he] at hat;have hs64:s<2^64:=by rw [hs];exact hwr k (by omega)
  have eq0:some (Value.slice q x.ev.length c)=some (Value.slice (some ⟨bq,oq,none⟩) x.ev.length c):=by rw [hqe]
  subst hqe;refine⟨k,rfl,hkl,evE.enc e,rfl,hat,hb,zk (X:=X) (v := .agg (evE.enc e).toArray) zd3 rfl rfl (Qk.2 fun u hu=>evE.one e u hu) fun Y hbY fY sY=>?_⟩;have fY:Y.heap[X.heap.size]?=some (.cells (evE.enc e).toArray 158 (0,0)):=fY;have hbY2:=hbX.trans (hbY.mono hXs);have no:∀ {Z:Wd},Bw w Z->zc2 x s e=false->(Ending.returned (.bool false)=Ending.returned (.bool (zbQ x))/\Bw w Z):=fun {Z} hb h=>⟨rb (by
   rw [hall];symm;exact zom hkl (by rw [<- hs,<- he];exact h)),hb⟩
  have yes:∀ {Z:Wd},qj Z F from_->Bw w Z->zc2 x s e=true->(k+1<=x.ev.length/\(List.range (k+1)).all (fun i=>zc2 x (from_.to i) (evA x i))=true/\qj Z F from_/\Bw w Z):=fun {Z} f hb h=>⟨hkl,zqt hgo (by rw [<- hs,<- he];exact h),f,hb⟩;refine⟨k,rfl,by omega,?_⟩;refine⟨s64 s,by rw [hs];exact zbR (zb hbY fF) (by omega),u8 e.k,zc (za fY) (i:=1) rfl,biE (fun h=>?_) fun h=>?_⟩
  ·have h:¬ e.k=1:=by
    have h:(!decide ((e.k.toNat:Int)=((1:UInt8).toNat:Int)))=true:=h;intro e2;rw [e2] at h;simp at h
   have hone:zc2 x s e=decide (s=0):=Gw h;refine biE (fun h2=>?_) fun h2=>?_
   ·have h2:¬ s=0:=by
     have h2:(!decide ((s:Int)=0))=true:=h2;intro e2;rw [e2] at h2
     cases h2
    exact no hbY2 (by rw [hone];exact Uj h2)
   ·have h2:s=0:=by
     have h2:(!decide ((s:Int)=0))=false:=h2;have h2:(s:Int)=0:=(by simpa using h2);omega
    exact nxI (by omega) ⟨k+1,(cvE rfl rfl),yes (zb hbY fF) hbY2 (by rw [hone];exact Ut h2),zdc (by omega)⟩
  have h:e.k=1:=by
   have h:(!decide ((e.k.toNat:Int)=((1:UInt8).toNat:Int)))=false:=h;exact qV.1 (by simpa using h)
  refine cmo (zaM hs64 (hT.below hbY2)) ?_;rintro e2 Z ⟨rfl,hbZ⟩;have hYs:=hbY2.size;have hbZ2:=hbY2.trans (hbZ.mono hYs);have fZ:=zb hbZ fY;have fFZ:=zb hbZ (zb hbY fF);by_cases hs0:s=0
  ·have e1:(els s).isEmpty=true:=by rw [hs0];rfl
   rw [e1];refine brT (brT (no hbZ2 ?_));unfold zc2;rw [Gx h,Gx hs0]
  obtain⟨hd,hem⟩:=zbD hs0 hs64;rw [hd,hem];have hmem:=zm3 hs0 hs64;have hbit:s.testBit (ctz s)=true:=(zgi.1 hmem).2;have hwl:ctz s<x.ev.length:=bits k _ (by rw [<- hs];exact hbit);refine brF ⟨by omega,((2^ctz s:Nat):Int),jU (e:=ctz s) (by omega),biE (fun h2=>?_) fun h2=>?_⟩
  ·have h2:¬ s=2^ctz s:=by
    have h2:(!decide ((s:Int)=((2^ctz s:Nat):Int)))=true:=h2;intro e2;rw [<- e2] at h2;simp at h2
   refine no hbZ2 ?_;unfold zc2;rw [Gx h,Gw hs0,Gw h2]
  have h2:s=2^ctz s:=by
   have h2:(!decide ((s:Int)=((2^ctz s:Nat):Int)))=false:=h2;have h2:(s:Int)=((2^ctz s:Nat):Int):=by simpa using h2
   exact UB h2
  obtain⟨t,ht⟩:=nm (ctz s);rw [<- ht] at hwl h2 ⊢;obtain⟨bq2,oq2,hqe2,hb2,hat2⟩:=zca (hv.ev.below hbZ2) hwl;rw [zea] at hat2;obtain⟨f,hf⟩:=nm (evA x t);rw [<- hf] at hat2;have hone:zc2 x s e=(decide (f.k=2)&&(decide (f.l=e.l)&&decide (f.v=e.v))):=by
   unfold zc2;rw [Gx h,Gw hs0,<- ht,Gx h2,<- hf]
  refine⟨_,zc (za (zb hbZ2 fx)) (i:=0) rfl,t,rfl,hwl,?_⟩;refine⟨evE.enc f,rfl,by
   simp only [KZ,Uv,Gp] at hqe2;rw [hqe2.1,hqe2.2];exact hat2,by
   simp only [KZ,Uv,Gp] at hqe2;rw [hqe2.1];exact hb2,?_⟩
  refine zk (X:=Z) (v := .agg (evE.enc f).toArray) zd3 rfl rfl (Qk.2 fun u hu=>evE.one f u hu) fun V hbV fV sV=>?_;have fV:V.heap[Z.heap.size]?=some (.cells (evE.enc f).toArray 158 (0,0)):=fV;have hbV2:=zst hbZ2 hbV;have fe:=zb hbV fZ;have fFV:=zb hbV fFZ;have n8:∀ {a d:UInt8},(!decide ((a.toNat:Int)=(d.toNat:Int)))=true->¬ a=d:=fun {a d} h e2=>by
   rw [e2] at h;simp at h
  have y8:∀ {a d:UInt8},(!decide ((a.toNat:Int)=(d.toNat:Int)))=false->a=d:=fun {a d} h=>qV.1 (by simpa using h);refine⟨u8 f.k,zc (za fV) (i:=1) rfl,biE (fun h3=>?_) fun h3=>?_⟩
  ·have h3:¬ f.k=2:=n8 (d:=2) h3;exact brT (brT (no hbV2 (by rw [hone,Uj h3];rfl)))
  have h3:f.k=2:=y8 (d:=2) h3;refine⟨u8 f.l,zc (za fV) (i:=2) rfl,u8 e.l,zc (za fe) (i:=2) rfl,biE (fun h4=>?_) fun h4=>?_⟩
  ·have h4:¬ f.l=e.l:=n8 h4;exact brT (no hbV2 (by rw [hone,Uj h4,Ul,Uk]))
  have h4:f.l=e.l:=y8 h4;refine⟨u8 f.v,zc (za fV) (i:=3) rfl,u8 e.v,zc (za fe) (i:=3) rfl,biE (fun h5=>?_) fun h5=>?_⟩
  ·have h5:¬ f.v=e.v:=n8 h5;exact no hbV2 (by rw [hone,Uj h5,Uk,Uk])
  have h5:f.v=e.v:=y8 h5;exact nxI (by omega) ⟨k+1,(cvE rfl rfl),yes fFV hbV2 (by rw [hone,Ut h3,Ut h4,Ut h5];rfl),zdc (by omega)⟩
 ·have hc:¬ (k:Int)<(x.ev.length:Int):=dF hc;obtain rfl:k=x.ev.length:=by omega
  exact⟨rb (by rw [hall];exact hgo.symm),hbX⟩
end
end Go.Proofs.YtnadlhpkpnfmbaaGreatDoor
