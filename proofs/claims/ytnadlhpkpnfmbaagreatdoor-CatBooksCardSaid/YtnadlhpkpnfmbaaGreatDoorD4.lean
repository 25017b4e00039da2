/- Contracts of functions, and plain facts, for the law that the last text of this claim proves. -/
import Derived.Test.YtnadlhpkpnfmbaaGreatDoorD3
import Derived.Test.YtnadlhpkpnfmbaaGreatDoorD1
import Derived.Test.YtnadlhpkpnfmbaaGreatDoorD2
set_option linter.unusedSimpArgs false
set_option linter.unusedVariables false
namespace Go.Proofs.YtnadlhpkpnfmbaaGreatDoor
open Go.Vc Go.RowKit Go.Sei
structure GlobE (w:Wd):Prop where
 c:GlobC w
 t64:Tz64M w
 t32:Tz32M w
theorem GlobE.below {w w2:Wd} (h:GlobE w) (hb:Bw w w2):GlobE w2:=⟨h.c.below hb,h.t64.below hb,h.t32.below hb⟩
abbrev zee:=PathD×(OA×Nat)×(OA×Nat)×(OA×Nat)×(OA×Nat)
def jQ:Enc zee:=⟨fun x=>zh9 x.1 x.2.1.1 x.2.1.2 x.2.2.1.1 x.2.2.1.2 x.2.2.2.1.1 x.2.2.2.1.2 x.2.2.2.2.1 x.2.2.2.2.2,12,fun _=>zkl ..,by decide,fun a u hu=>Qj.1 (zkk ..) u hu⟩
structure RowIn {α:Type} (E:Enc α) (T:TypeId) (B:Nat) (F:Nat->Prop) (Y:Wd) (q:OA) (c:Nat) (l:List α):Prop where
 own:OwnS E T B Y q c l
 inF:∀ a,q=some a->F a.block
section
variable {α:Type} {E:Enc α} {T:TypeId} {B:Nat} {F G:Nat->Prop} {Y Z:Wd} {q:OA} {c:Nat} {l:List α}
theorem za8 (h:OwnS E T B Y q c l) {a:Addr} (ha:q=some a):B<=a.block/\a.block<Y.heap.size/\∃ cur,Y.heap[a.block]?=some (.cells cur T (0,0)):=by
 rcases h.inv with ⟨h1,_⟩ | ⟨g,cur,h1,h2,h3,_⟩
 ·rw [h1] at ha;cases ha
 ·rw [h1] at ha;cases ha;exact⟨h2,hlt h3,cur,h3⟩
theorem RowIn.same (h:RowIn E T B F Y q c l) (hs:∀ k,F k->k<Y.heap.size->Z.heap[k]?=Y.heap[k]?) (hG:∀ k,F k->G k):RowIn E T B G Z q c l :=
 ⟨h.own.same fun a ha=>hs _ (h.inF a ha) (za8 h.own ha).2.1,fun a ha=>hG _ (h.inF a ha)⟩
end
def PthIn (B:Nat) (F:Nat->Prop) (Y:Wd) (x:zee):Prop:=RowIn evE 158 B F Y x.2.1.1 x.2.1.2 x.1.ev/\RowIn prE 326 B F Y x.2.2.1.1 x.2.2.1.2 x.1.data/\RowIn prE 326 B F Y x.2.2.2.1.1 x.2.2.2.1.2 x.1.ctrl/\RowIn prE 326 B F Y x.2.2.2.2.1 x.2.2.2.2.2 x.1.rmw
theorem PthIn.same {B:Nat} {F G:Nat->Prop} {Y Z:Wd} {x:zee} (h:PthIn B F Y x) (hs:∀ k,F k->k<Y.heap.size->Z.heap[k]?=Y.heap[k]?) (hG:∀ k,F k->G k):PthIn B G Z x :=
 ⟨h.1.same hs hG,h.2.1.same hs hG,h.2.2.1.same hs hG,h.2.2.2.same hs hG⟩
theorem jp {W A B:Wd} {r:Option Nat} (h:W.grownBy A r) (hb:Below W.heap.size A B):W.grownBy B r :=
 ⟨hb.os.trans h.os,hb.tape.trans h.tape,hb.output.trans h.output,UU h.size hb.size,fun k hk hne=>(hb.block k hk).trans (h.block k hk hne)⟩
theorem zru {q:OA} {cap:Nat} {l:List InsD} {w:Wd} (hl:SlR qF w q l) (hG:GlobC w) (hn:l.length<=140737488351232) :
  CB 196 #[.slice q l.length cap] w (.bool (jX l 6)):=by
 refine zJ 5 [.slice q l.length cap] Tryz.func196 ?_;refine cmo (zlw (locs:=6) hl hG hn) ?_;rintro e X ⟨rfl,hb⟩;exact⟨rfl,hb⟩
def JPa (B n0 L:Nat) (W:Wd) (pre:List RunD) (F:Nat->Prop) (Y:Wd):Prop :=
 (n0<=Y.heap.size/\F L/\∀ k,F k->k<Y.heap.size)/\(∃ (xs:List zee) (p:OA) (c:Nat),Y.heap[L]?=some (.cells [.slice p xs.length c].toArray 233 (0,0))/\RowIn jQ 241 B F Y p c xs/\xs.map (·.1)=pre.map zcS/\∀ x∈xs,PthIn n0 F Y x)/\Below B W Y
theorem JPa.iter {B n0 L:Nat} {W:Wd} (hB:B<=n0) (hn:n0=W.heap.size):JG n0 (fun _=>False) (JPa B n0 L W):=by
 refine⟨?_,?_⟩
 ·rintro pre F A C ⟨⟨h1,h2,h3⟩,⟨xs,p,c,h4,h5,h6,h7⟩,h8⟩ hs;have sf:∀ k,F k->k<A.heap.size->C.heap[k]?=A.heap[k]?:=fun k hk hl=>hs.same k hl (.inr hk);refine⟨⟨UU h1 hs.size,h2,fun k hk=>nL (h3 k hk) hs.size⟩,⟨xs,p,c,(sf L h2 (h3 L h2)).trans h4,h5.same sf fun k h=>h,h6,fun x hx=>(h7 x hx).same sf fun k h=>h⟩,h8.trans ⟨hs.os,hs.tape,hs.output,hs.size,fun k hk=>hs.same k (by omega) (.inl ⟨by omega,fun h=>h⟩)⟩⟩
 ·rintro pre F A k ⟨⟨_,_,h3⟩,_⟩ hk;exact⟨h3 k hk,fun h=>h⟩
def PthO (B:Nat) (Y:Wd) (x:zee):Prop:=OwnS evE 158 B Y x.2.1.1 x.2.1.2 x.1.ev/\OwnS prE 326 B Y x.2.2.1.1 x.2.2.1.2 x.1.data/\OwnS prE 326 B Y x.2.2.2.1.1 x.2.2.2.1.2 x.1.ctrl/\OwnS prE 326 B Y x.2.2.2.2.1 x.2.2.2.2.2 x.1.rmw
theorem PthO.mono {B B':Nat} {Y:Wd} {x:zee} (h:PthO B Y x) (hB:B'<=B):PthO B' Y x:=⟨OwnS.lower h.1 hB,OwnS.lower h.2.1 hB,OwnS.lower h.2.2.1 hB,OwnS.lower h.2.2.2 hB⟩
section
variable {l:List InsD} {vals:List UInt8} {q p:OA} {cap cd:Nat} {w:Wd}
theorem ztf (hl:SlR qF w q l) (hp:SlR zW w p vals) (hv1:1<=vals.length) (hv12:vals.length<=12) (hvs:zeF vals=true) (hx:∀ x∈l,zeu x) (hok:jX l 6=true) (hG:GlobE w) (hR:∀ R∈zaD l (ded vals),R.many<=24/\zvl R) (hm:(zaD l (ded vals)).length<=4096) (hqb:∀ a,q=some a->a.block<w.heap.size) (hdl:(ded vals).length<=12) :
  Calls PG 138 #[.slice q l.length cap,.slice p vals.length cd,i64 4096] w fun e w'=>(∃ (xs:List zee) (p':OA) (c':Nat),e = .returned (.tuple #[.slice p' xs.length c',i64 0])/\xs.map (·.1)=(zaD l (ded vals)).map zcS/\OwnS jQ 241 w.heap.size w' p' c' xs/\∀ x∈xs,PthO w.heap.size w' x)/\Bw w w':=by
 have h12:l.length<=12:=by
  unfold jX at hok;rw [bAT,dE] at hok;exact hok.1
 refine qa 45 [.slice q l.length cap,.slice p vals.length cd,i64 4096] (.c .p (.s .p (.c .p (.c .p (.c .p (.c .p .p)))))) Tryz.func138 ?_;obtain⟨L,hL⟩:=nm (w.heap.size);refine⟨Unit,fun _=>⟨[(0,.slice q l.length cap),(1,.slice p vals.length cd),(5,AtR L),(6,AtR (L+1)),(7,AtR (L+2))],[]⟩,fun _ X=>X.heap[L]?=some (.cells #[i64 4096] 3 (0,0))/\X.heap[L+1]?=some (.cells #[.slice none 0 0] 233 (0,0))/\X.heap[L+2]?=some (.cells #[i64 0] 42 (0,0))/\X.heap.size=L+3/\Bw w X,?_,?_⟩
 ·have s1:=wz w (.cells #[i64 4096] 3);have h2:=zz (w.alloc (.cells #[i64 4096] 3)) (.cells #[.slice none 0 0] 233);have s2:=wz (w.alloc (.cells #[i64 4096] 3)) (.cells #[.slice none 0 0] 233);have h3:=zz ((w.alloc (.cells #[i64 4096] 3)).alloc (.cells #[.slice none 0 0] 233)) (.cells #[i64 0] 42);have s3:=wz ((w.alloc (.cells #[i64 4096] 3)).alloc (.cells #[.slice none 0 0] 233)) (.cells #[i64 0] 42);rw [s1] at h2 s2;rw [s2] at h3 s3;refine⟨(),⟨.cons rfl (.cons rfl (.cons (by rw [hL];rfl) (.cons (by rw [hL,<- s1];rfl) (.cons (by rw [hL,<- s2];rfl) .nil)))),rfl⟩,?_,?_,?_,?_,?_⟩
  ·rw [hL];exact qm _ (qm _ (zz w _))
  ·rw [hL];exact qm _ h2
  ·rw [hL];exact h3
  ·rw [hL];exact s3
  ·exact (((zba w _)).alloc (by simp) _).alloc (by simp;omega) _
 rintro _ X ⟨f0,f1,f2,sX,hbX⟩;refine⟨_,zc (za f0) (i:=0) rfl,brF ⟨_,zc (za f0) (i:=0) rfl,brF (cmo (zru (hl.below hbX) (hG.c.below hbX) (by omega)) ?_)⟩⟩;rintro e Y ⟨rfl,hbY⟩;rw [hok];refine brF ?_;have hwY:=zst hbX hbY;have f0:=zb hbY f0;have f1:=zb hbY f1;have f2:=zb hbY f2;have sY:=hbY.size;obtain⟨D,hD⟩:=nm (ded vals);rw [<- hD] at hR hm hdl ⊢;refine⟨OA×Nat,fun s=>⟨[(0,.slice q l.length cap),(1,.slice s.1 D.length s.2),(5,AtR L),(6,AtR (L+1)),(7,AtR (L+2))],[]⟩,fun s Z=>OwnS zW 5 (L+3) Z s.1 s.2 D/\Bw Y Z,?_,?_⟩
 ·refine cmo (zeW (hp.below hwY) hv1 hv12 hvs) ?_;rintro e Z ⟨⟨d,cc,rfl,ho⟩,hbZ⟩;rw [<- hD] at ho;exact⟨(d,cc),⟨.cons rfl (.cons (by rw [hD];rfl) (.cons rfl (.cons rfl (.cons rfl .nil)))),rfl⟩,OwnS.lower ho (by omega),hbZ⟩
 rintro⟨d,cc⟩ Z ⟨oD,hbZ⟩;dsimp only at oD ⊢;have hwZ:=zst hwY hbZ;have f0:=zb hbZ f0;have f1:=zb hbZ f1;have f2:=zb hbZ f2;have sZ:=hbZ.size;obtain⟨N,hN⟩:=nm (Z.heap.size);refine⟨Unit,fun _=>⟨[(0,.slice q l.length cap),(1,.slice d D.length cc),(5,AtR L),(6,AtR (L+1)),(7,AtR (L+2)),(8,AtR N)],[]⟩,fun _ V=>V.heap[N]?=some (.cells [i64 0].toArray 3 (0,0))/\V.heap.size=N+1/\Bw Z V,?_,?_⟩
 ·exact zn (X:=Z) (v:=i64 0) k3 rfl rfl rfl fun V hbV fV sV=>⟨(),⟨.cons rfl (.cons rfl (.cons rfl (.cons rfl (.cons rfl (.cons (by rw [hN];rfl) .nil))))),rfl⟩,by rw [hN];exact fV,by rw [hN];exact sV,hbV⟩
 rintro _ V ⟨fN,sV,hbV⟩;have hwV:=zst hwZ hbV;have f0:=zb hbV f0;have f1:=zb hbV f1;have f2:=zb hbV f2;have dlt:∀ a,d=some a->a.block<N:=fun a ha=>by rw [hN];exact (za8 oD ha).2.1
 have oD:=oD.below hbV;have hNZ:w.heap.size<=N:=by rw [hN];exact hwZ.size
 have hNL:L+3<=N:=by omega
 obtain⟨xs0,hxs0⟩:=nm (zaD l D);rw [<- hxs0] at hR hm ⊢;refine⟨Nat,fun D1=>⟨[(0,.slice q l.length cap),(1,.slice d D.length cc),(5,AtR L),(6,AtR (L+1)),(7,AtR (L+2)),(8,AtR N)],[{ target := .collected D1,args := #[] }]⟩,fun D1 U=>U.heap[N]?=some (.cells #[i64 xs0.length] 3 (0,0))/\U.heap[D1]?=some (.deferred (some []))/\N<D1/\V.grownBy U (some N),?_,?_⟩
 ·refine cmo zjB ?_;rintro e W ⟨rfl,fi,fd,sW,hbW⟩;have hwW:=zst hwV hbW;have fNW:=zb hbW fN;have f0W:=zb hbW f0;have qlt:∀ a,q=some a->a.block<w.heap.size:=hqb;have hI:=zmo (q:=q) (p:=d) (hl.below hwW) (oD.below hbW).row fi fd (fun a ha=>by have:=qlt a ha;have:=hwW.size;omega) (fun a ha=>by have:=dlt a ha;omega) h12 hx (by omega);rw [<- hxs0] at hI;refine zdN (zbF _) rfl (lb := #[AtR V.heap.size,AtR (V.heap.size+1)]) rfl rfl hI (Ge _) (fun k hk=>⟨?_,rfl⟩) (fun pre vs W ⟨R,b,_,h,_⟩=>by rw [h];rfl) (by decide)
   (fun k=>k=N) (fun pre F Y=>F=(fun k=>k=N)/\W.heap.size<=Y.heap.size/\Y.heap[N]?=some (.cells [i64 pre.length].toArray 3 (0,0))/\W.grownBy Y (some N)) (fun _ _ _ _=>False) (fun k hk=>?_)
   (joG (F:=fun k=>k=N) (J:=fun (pre:List RunD) Y=>W.heap.size<=Y.heap.size/\Y.heap[N]?=some (.cells [i64 pre.length].toArray 3 (0,0))/\W.grownBy Y (some N)) (fun k h=>by omega) (fun s A h=>h.1) (fun pre A B ⟨h1,h2,h3⟩ hb=>⟨UU h1 hb.size,zaA hb (by omega) h2,jp h3 hb⟩))
   (fun ex=>⟨fun _ _ _ _ h=>h.elim,fun _ _ _ _ h=>h.elim⟩) ⟨rfl,Ge _,fNW,j5 _ _⟩ ?_ ?_ ?_
  ·rcases hk with ((rfl | rfl) | ⟨a,ha,rfl⟩ | ⟨a,ha,rfl⟩) | h
   ·omega
   ·omega
   ·have:=qlt a ha;have:=hwW.size;omega
   ·have:=dlt a ha;omega
   ·exact h.elim
  ·rcases hk with (rfl | rfl) | ⟨a,ha,rfl⟩ | ⟨a,ha,rfl⟩
   ·omega
   ·omega
   ·have:=qlt a ha;omega
   ·have:=dlt a ha;omega
  ·rintro yl pre x vs F Y hyl hpre hJ ⟨R',b',_,rfl,_⟩ hfy hlo;refine⟨rfl,F,KeepsG.refl _ _,hJ,?_⟩;rintro o Y2 hY2 ⟨rfl,h1,h2,h3⟩;have hpl:pre.length<xs0.length:=by
    obtain⟨t,ht⟩:=hpre;rw [<- ht];simp only [lap,Qs];omega
   have g0:Y2.heap[L]?=some (.cells #[i64 4096] 3 (0,0)):=(h3.block L (hlt f0W) (by simp;omega)).trans f0W;refine⟨_,zc (za h2) (i:=0) rfl,_,zc (za g0) (i:=0) rfl,brN (Uj (by omega)) ⟨_,zc (za h2) (i:=0) rfl,((pre.length+1:Nat):Int),(zk (by omega)).trans (by omega),zy k3 h2 (o:=0) (v:=i64 (pre.length+1:Nat)) rfl rfl (by show 0<1;decide) rfl fun Z fZ gZ sZ=>⟨_,⟨rfl,by omega,?_,zh h3 gZ⟩,KeepsG.grown (F:=fun k=>k=N) gZ rfl⟩⟩⟩;rw [lap];exact fZ
  ·rintro D1 F Y hD hfD ⟨rfl,h1,h2,h3⟩ hdef;refine⟨D1,(cvE rfl rfl),h2,hdef,by omega,?_⟩;exact zh (zi hbW) h3
  ·rintro D ex pre F Y hD hfD hpre h;exact h.elim
 clear fN sV;rintro D1 U ⟨fN,fD1,hND,gU⟩;have old:∀ {k:Nat} {o:Obj},k≠N->V.heap[k]?=some o->U.heap[k]?=some o:=fun {k o} hne h=>(gU.block k (hlt h) (by simpa using hne)).trans h;have sU:=gU.size;have hNV:=hbV.size;have f1:=old (by omega) f1;have f2:=old (by omega) f2;have oD:OwnS zW 5 (L+3) U d cc D:=oD.kept gU fun g hg e=>by
  have:g<N:=dlt _ hg;simp only [KZ] at e;omega
 have hwU:Bw w U:=hwV.trans ⟨gU.os,gU.tape,gU.output,gU.size,fun k hk=>gU.block k (by have:=hwV.size;omega) (by simp;omega)⟩;clear f0 old gU hbV hwV;obtain⟨M,hM⟩:=nm (U.heap.size);have hDU:=hlt fD1;refine⟨OA×Nat,fun s=>⟨[(0,.slice q l.length cap),(1,.slice d D.length cc),(6,AtR (L+1)),(7,AtR (L+2)),(9,AtR (M+1))],[{ target := .collected D1,args := #[] }]⟩,fun s Z=>Z.heap[M+1]?=some (.cells [.slice s.1 0 s.2].toArray 233 (0,0))/\OwnS jQ 241 M Z s.1 s.2 []/\(∀ a,s.1=some a->a.block=M)/\Z.heap.size=M+2/\Bw U Z,?_,?_⟩
 ·refine⟨_,zc (za fN) (i:=0) rfl,zdV (E:=jQ) Tryz.underlying233 zoA rfl rfl rfl xs0.length (by show 104*_<=_;omega) (by unfold maxLen;omega) fun Z oZ hbZ' sZ'=>zn (X:=Z) (v := .slice (some ⟨U.heap.size,0,none⟩) 0 xs0.length) zso rfl rfl rfl fun Z2 hbZ2 fZ2 sZ2=>?_⟩;rw [<- hM] at oZ sZ';rw [sZ'] at fZ2 sZ2;refine⟨(some ⟨M,0,none⟩,xs0.length),⟨.cons rfl (.cons rfl (.cons rfl (.cons rfl (.cons (by rw [<- sZ'];rfl) .nil)))),rfl⟩,by rw [hM] at fZ2 ⊢;exact fZ2,oZ.below hbZ2,fun a ha=>by cases ha;rfl,sZ2,hbZ'.trans (hbZ2.mono hbZ'.size)⟩
 clear fN;rintro⟨p0,c0⟩ V ⟨fV,oV,p0M,sV,hbV⟩;dsimp only at fV oV p0M;have f1:=zb hbV f1;have f2:=zb hbV f2;have fD1:=zb hbV fD1;have oD:=oD.below hbV;have hwV:=zst hwU hbV;have hMU:w.heap.size<=M:=by rw [hM];exact hwU.size
 have dlt2:∀ a,d=some a->a.block<N:=dlt;refine cmo zjB ?_;rintro e W ⟨rfl,fi,fd,sW,hbW⟩;have hwW:=zst hwV hbW;have hVM:Bw V W:=hbW;have hI:=zmo (q:=q) (p:=d) (hl.below hwW) (oD.below hbW).row fi fd (fun a ha=>by have:=hqb a ha;have:=hwW.size;omega) (fun a ha=>by have:=dlt a ha;omega) h12 hx (by omega);rw [<- hxs0] at hI;refine zdN (zbF _) rfl (lb := #[AtR V.heap.size,AtR (V.heap.size+1)]) rfl rfl hI (Ge _) (fun k hk=>⟨?_,rfl⟩) (fun pre vs W ⟨R,b,_,h,_⟩=>by rw [h];rfl) (by decide)
  (fun k=>k=M+1\/k=M) (JPa M W.heap.size (M+1) W) (fun _ _ _ _=>False) (fun k hk=>?_)
  (JPa.iter (by omega) rfl) (fun ex=>⟨fun _ _ _ _ h=>h.elim,fun _ _ _ _ h=>h.elim⟩) ⟨⟨Ge _,.inl rfl,fun k hk=>by omega⟩,⟨[],p0,c0,zb hbW fV,⟨oV.below hbW,fun a ha => .inr (p0M a ha)⟩,rfl,fun x hx=>(by cases hx)⟩,Gj _ _⟩ ?_ ?_ ?_
 ·rcases hk with ((rfl | rfl) | ⟨a,ha,rfl⟩ | ⟨a,ha,rfl⟩) | h
  ·omega
  ·omega
  ·have:=hqb a ha;have:=hwW.size;omega
  ·have:=dlt a ha;omega
  ·exact h.elim
 ·rcases hk with (rfl | rfl) | ⟨a,ha,rfl⟩ | ⟨a,ha,rfl⟩
  ·omega
  ·omega
  ·have:=hqb a ha;omega
  ·have:=dlt a ha;omega
 ·rintro yl pre x vs F Y hyl hpre hJ ⟨R,b,hlast,rfl,fR⟩ hfy ⟨lo,hlo⟩;have hxR:x=R:=by simpa using hlast
  subst hxR;refine⟨rfl,F,KeepsG.refl _ _,hJ,?_⟩;rintro o Y2 hY2 ⟨⟨h1,h2,h3⟩,⟨xs,p,c,h4,h5,h6,h7⟩,h8⟩;have hbl:b≠yl:=fun e=>by
   rw [e] at fR;rw [fR] at hlo
   cases hlo
  have fR2:zaW Y2 b x:=by rw [hY2];exact (zl hbl).trans fR
  have hmem:x∈xs0:=hpre.subset (by simp);obtain⟨r1,r2⟩:=hR x hmem;have hxl:xs.length=pre.length:=by
   have:=Gs List.length h6;rw [QQ,QQ] at this;exact this
  have hpl:pre.length<xs0.length:=by
   obtain⟨t,ht⟩:=hpre;rw [<- ht];simp only [lap,Qs];omega
  have hwY2:Bw w Y2:=hwW.trans (h8.mono hMU);have hd2:Bw Y2 Y2.drew:=(Gj _ _).drew;have hwY2d:Bw w Y2.drew:=zst hwY2 hd2;refine DrawE.ord [4,5] [0,1,2,3,4,5] (by kernel_rfl) ⟨_,zc (za (hdr h4)) (i:=0) rfl,cmo (zua (hdr fR2) r1 r2 (hG.t32.below hwY2d)) ?_⟩;rintro e Y3 ⟨⟨q1,k1,q2,k2,q3,k3,q4,k4,rfl,o1,o2,o3,o4⟩,hb3⟩;refine⟨hb3,?_⟩;obtain⟨nx,hnx⟩:∃ nx:zee,nx=(zcS x,(q1,k1),(q2,k2),(q3,k3),(q4,k4)):=⟨_,rfl⟩;have hen:zh9 (zcS x) q1 k1 q2 k2 q3 k3 q4 k4=jQ.enc nx:=by rw [hnx];rfl
  rw [hen];refine⟨⟨by decide,by decide,rfl⟩,jQ.enc nx,zbA (jQ.len nx) rfl,?_⟩;have hba:Bw Y3 (Y3.alloc (.cells (jQ.enc nx).toArray 241)):=zba _ _;have sa:(Y3.alloc (.cells (jQ.enc nx).toArray 241)).heap.size=Y3.heap.size+1:=wz _ _;have s3:Y2.heap.size<=Y3.heap.size:=hb3.size;refine⟨hba,?_⟩;have hb2:Bw Y2 (Y3.alloc (.cells (jQ.enc nx).toArray 241)):=(hd2.trans hb3).trans (hba.mono s3);refine jr (E:=jQ) (T:=241) (B:=M) (l:=xs) (news:=[nx]) (cap:=c) (m:=1) Tryz.underlying233 zoA rfl rfl rfl (h5.own.below hb2) rfl (qH jQ nx) (by omega) (by omega) (by show (xs.length+1)*104<=_;omega) ?_;intro p2 c2 Y5 o5 g5 hb5 hat;have h4':Y5.heap[M+1]?=some (.cells [.slice p xs.length c].toArray 233 (0,0)):=by
   refine (g5.block (M+1) (hlt (zb hb2 h4)) fun e=>?_).trans (zb hb2 h4)
   cases hp:p with
   | none=>rw [hp] at e;simp [Value.ownBlock] at e
   | some a =>
    rw [hp] at e;simp only [Value.ownBlock,KZ] at e;obtain⟨_,_,cur,hcur⟩:=za8 h5.own hp;rw [<- e] at hcur;rw [hcur] at h4;simp at h4
  refine zy zso h4' (o:=0) (v := .slice p2 (xs++[nx]).length c2) rfl rfl (by show 0<1;decide) rfl fun Z fZ gZ sZ=>?_;have s5:=g5.size;have wr:∀ k,k<Y2.heap.size->k≠M+1->(∀ a,p=some a->k≠a.block)->Z.heap[k]?=Y2.heap[k]?:=fun k hk hne hnp=>by
   refine (gZ.block k (by omega) (by simpa using hne)).trans ((g5.block k (by omega) fun e=>?_).trans (hb2.block k hk))
   cases hp:p with
   | none=>rw [hp] at e;simp [Value.ownBlock] at e
   | some a =>
    rw [hp] at e;simp only [Value.ownBlock,KZ] at e;exact hnp a hp e
  have new:∀ k,Y2.heap.size<=k->k<Y3.heap.size->Z.heap[k]?=Y3.heap[k]?:=fun k hk1 hk2=>by
   refine (gZ.block k (by omega) (by simp;omega)).trans ((g5.block k (by omega) fun e=>?_).trans (hba.block k hk2))
   cases hp:p with
   | none=>rw [hp] at e;simp [Value.ownBlock] at e
   | some a =>
    rw [hp] at e;simp only [Value.ownBlock,KZ] at e;have:=h3 _ (h5.inF a hp);omega
  have tyne:∀ {α:Type} {E:Enc α} {T c:Nat} {r:OA} {B:Nat} {ll:List α},T≠241->T≠233->OwnS E T B Y2 r c ll->∀ a,r=some a->Z.heap[a.block]?=Y2.heap[a.block]?:=fun {α E T c r B ll} t1 t2 ho a ha=>by
   obtain⟨_,hl2,cur,hcur⟩:=za8 ho ha;refine wr _ hl2 (fun e=>?_) (fun a' ha' e=>?_)
   ·rw [e,h4] at hcur;simp at hcur;exact t2 hcur.2.symm
   ·obtain⟨_,_,cur',hcur'⟩:=za8 h5.own ha';rw [e,hcur'] at hcur;simp at hcur;exact t1 hcur.2.symm
  have inNew:∀ {α:Type} {E:Enc α} {T c:Nat} {r:OA} {ll:List α},OwnS E T Y2.drew.heap.size Y3 r c ll->RowIn E T W.heap.size (fun k=>F k\/(Y2.heap.size<=k/\k<Z.heap.size)) Z r c ll:=fun {α E T c r ll} ho=>by
   refine⟨OwnS.lower (ho.same fun a ha=>?_) h1,fun a ha=>?_⟩
   ·have:=za8 ho ha;exact new _ this.1 this.2.1
   ·have h:=za8 ho ha;have ha1:Y2.heap.size<=a.block:=h.1;exact .inr ⟨ha1,by have:=h.2.1;omega⟩
  refine⟨fun k=>F k\/(Y2.heap.size<=k/\k<Z.heap.size),⟨⟨by omega,.inl h2,fun k hk=>?_⟩,⟨xs++[nx],p2,c2,fZ,⟨o5.kept gZ fun g hg e=>?_,fun a ha=>?_⟩,?_,fun y hy=>?_⟩,?_⟩,⟨gZ.os.trans (g5.os.trans hb2.os),gZ.tape.trans (g5.tape.trans hb2.tape),gZ.output.trans (g5.output.trans hb2.output),by omega,fun k hk hf=>wr k hk (fun e=>hf (by rw [e];exact h2)) (fun a ha e=>hf (by rw [e];exact h5.inF a ha)),fun k hk=>hk.imp id fun h=>h.1⟩⟩
  ·rcases hk with hk | hk
   ·have:=h3 k hk;omega
   ·exact hk.2
  ·have:=za8 o5 hg;obtain⟨_,_,cur,hcur⟩:=this;simp only [KZ] at e;have hcur:Y5.heap[g]?=_:=hcur;rw [<- e,h4'] at hcur;simp at hcur
  ·rcases hat a ha with h | h
   ·exact .inl (h5.inF a h)
   ·have:=(za8 o5 ha).2.1;exact .inr ⟨by omega,by omega⟩
  ·rw [QT,h6,QT,hnx];rfl
  ·rcases QU.1 hy with hy | hy
   ·have h:=h7 y hy;have st:∀ {α:Type} {E:Enc α} {T c:Nat} {r:OA} {ll:List α},T≠241->T≠233->RowIn E T W.heap.size F Y2 r c ll->RowIn E T W.heap.size (fun k=>F k\/(Y2.heap.size<=k/\k<Z.heap.size)) Z r c ll:=fun {α E T c r ll} t1 t2 hh=>⟨hh.own.same fun a ha=>tyne t1 t2 hh.own a ha,fun a ha => .inl (hh.inF a ha)⟩;exact⟨st (by decide) (by decide) h.1,st (by decide) (by decide) h.2.1,st (by decide) (by decide) h.2.2.1,st (by decide) (by decide) h.2.2.2⟩
   ·simp only [KA] at hy;subst hy;rw [hnx];exact⟨inNew o1,inNew o2,inNew o3,inNew o4⟩
  ·refine h8.trans ⟨gZ.os.trans (g5.os.trans hb2.os),gZ.tape.trans (g5.tape.trans hb2.tape),gZ.output.trans (g5.output.trans hb2.output),by omega,fun k hk=>wr k (by omega) (by omega) fun a ha=>?_⟩;have:=(za8 h5.own ha).1;omega
 ·rintro D2 F Y hD hfD ⟨⟨h1,h2,h3⟩,⟨xs,p,c,h4,h5,h6,h7⟩,h8⟩ hdef;have g1:Y.heap[L+1]?=some (.cells #[.slice none 0 0] 233 (0,0)):=(h8.block (L+1) (by omega)).trans (zb hbW f1);have g2:Y.heap[L+2]?=some (.cells #[i64 0] 42 (0,0)):=(h8.block (L+2) (by omega)).trans (zb hbW f2);have gD:Y.heap[D1]?=some (.deferred (some [])):=(h8.block D1 (by omega)).trans (zb hbW fD1);refine⟨_,zc (za h4) (i:=0) rfl,zy zso g1 (o:=0) (v := .slice p xs.length c) rfl rfl (by show 0<1;decide) rfl fun Z1 fZ1 gZ1 sZ1=>?_⟩;have g2':=(gZ1.block (L+2) (hlt g2) (by simp)).trans g2;refine zy k42 g2' (o:=0) (v:=i64 0) rfl rfl (by show 0<1;decide) rfl fun Z2 fZ2 gZ2 sZ2=>?_;have hYs:M<Y.heap.size:=by omega
  have k2:∀ k,k<Y.heap.size->k≠L+1->k≠L+2->Z2.heap[k]?=Y.heap[k]?:=fun k hk n1 n2=>(gZ2.block k (by rw [sZ1];exact hk) (by simpa using n2)).trans (gZ1.block k hk (by simpa using n1));have hdef2:=(k2 D2 (hlt hdef) (by omega) (by omega)).trans hdef;have hD12:=(k2 D1 (hlt gD) (by omega) (by omega)).trans gD;have fZ1':=(gZ2.block (L+1) (hlt fZ1) (by simp)).trans fZ1;have neD:D1≠D2:=by omega
  refine⟨_,rfl,hdef2,_,rfl,(zl neD).trans hD12,?_⟩;obtain⟨Zf,hZf⟩:=nm ((Z2.putObj D2 (.deferred none)).putObj D1 (.deferred none));have kf:∀ k,k≠D1->k≠D2->Zf.heap[k]?=Z2.heap[k]?:=fun k n1 n2=>by rw [hZf];exact (zl n1).trans (zl n2)
  refine⟨.slice p xs.length c,?_,i64 0,?_,⟨xs,p,c,rfl,h6,?_,fun x hx=>?_⟩,?_⟩
  ·exact zc (za (by rw [<- hZf];exact (kf (L+1) (by omega) (by omega)).trans fZ1')) (i:=0) rfl
  ·exact zc (za (by rw [<- hZf];exact (kf (L+2) (by omega) (by omega)).trans fZ2)) (i:=0) rfl
  ·rw [<- hZf];refine OwnS.lower (h5.own.same fun a ha=>?_) hMU;have h:=za8 h5.own ha;have n1:a.block≠D2:=fun e=>by rw [<- e] at hfD;exact hfD (h5.inF a ha)
   exact (kf _ (by omega) n1).trans (k2 _ h.2.1 (by omega) (by omega))
  ·have h:=h7 x hx;have st:∀ {α:Type} {E:Enc α} {T c:Nat} {r:OA} {ll:List α},RowIn E T W.heap.size F Y r c ll->OwnS E T w.heap.size Zf r c ll:=fun {α E T c r ll} hh=>by
    refine OwnS.lower (hh.own.same fun a ha=>?_) hwW.size;have h:=za8 hh.own ha;have n1:a.block≠D2:=fun e=>by rw [<- e] at hfD;exact hfD (hh.inF a ha)
    exact (kf _ (by omega) n1).trans (k2 _ h.2.1 (by omega) (by omega))
   rw [<- hZf];exact⟨st h.1,st h.2.1,st h.2.2.1,st h.2.2.2⟩
  ·have hwY:Bw w Y:=hwW.trans (h8.mono hMU);have b1:=(hwY.trans (zq gZ1 hwY.size (by omega))).trans (zq gZ2 (by rw [sZ1];exact hwY.size) (by omega));exact jh (jh b1 (by omega) _) (by omega) _
 ·rintro D ex pre F Y hD hfD hpre h;exact h.elim
end
structure RelAt (X:Wd) (b o:Nat) (T:TypeId) (A Z:List Value) (r:RelD):Prop where
 at_:A.length=o
 cells:X.heap[b]?=some (.cells (A++(zd r++Z)).toArray T (0,0))
section
variable {X:Wd} {b o:Nat} {T:TypeId} {A Z:List Value} {r:RelD}
theorem RelAt.cell (h:RelAt X b o T A Z r) {i:Nat} (hi:i<48):X.cell? ⟨b,o+1+i*1,none⟩=some (s64 (r.to i)):=by
 have:(A++(zd r++Z))[o+1+i*1]?=some (s64 (r.to i)):=by
  rw [Gf,UI,jd h.at_,Jp (by rw [ze];omega),zff r hi]
 have h2:=zc (za h.cells) this;rw [UY] at h2;exact h2
theorem RelAt.set (h:RelAt X b o T A Z r) {i:Nat} (hi:i<48) (v:Nat):(A++(zd r++Z)).set (o+1+i*1) (s64 v)=A++(zd ⟨r.n,upd r.to i v⟩++Z):=by
 rw [Gf,UI,jZ h.at_,List.set_append_left _ _ (by rw [ze];omega),zfe r hi]
theorem RelAt.len (h:RelAt X b o T A Z r):(A++(zd r++Z)).length=o+49+Z.length:=by
 rw [lap,lap,ze,h.at_];omega
theorem RelAt.same {Y:Wd} (h:RelAt X b o T A Z r) (hs:Y.heap[b]?=X.heap[b]?):RelAt Y b o T A Z r:=⟨h.at_,hs.trans h.cells⟩
def zpM (f:Nat) (ps:List (Nat×Nat)):Prop:=∀ p∈ps,f+p.1<48/\f+p.2<48
theorem zfg {f:Nat}:∀ {ps:List (Nat×Nat)} {to:Nat->Nat},zG to->zpM f ps->zG (zki f ps to)
 | [],_,h,_=>h
 | p::ps,to,h,hp=>by
  have h1:=hp p Kz;exact zfg (ps:=ps) (zgJ h (KY (h _ h1.1) (z6 (by omega)))) fun q hq=>hp q (JW _ hq)
theorem zlF {n:Nat} (h:n<256):((UInt8.ofNat n).toNat:Int)=(n:Nat):=by
 have:(UInt8.ofNat n).toNat=n:=by simp;omega
 rw [this]
theorem zpL {w:Wd} {q:OA} {cap f:Nat} {ps:List (Nat×Nat)} (hr:RelAt w b o T A Z r) (hw:zG r.to) (hl:SlR prE w q ps) (hqb:∀ a,q=some a->a.block≠b) (hn:ps.length<=100000) (hp:zpM f ps) :
  Calls PG 201 #[.pointer (some ⟨b,o,none⟩),.slice q ps.length cap,i64 f] w fun e w'=>e = .returned (.tuple #[])/\RelAt w' b o T A Z (zlY f ps r)/\w.grownBy w' (some b):=by
 refine zJ 35 [.pointer (some ⟨b,o,none⟩),.slice q ps.length cap,i64 f] Tryz.func201 ?_;have hbw:=hlt hr.cells;refine⟨Nat×(Nat->Nat),fun s=>⟨[(0,.pointer (some ⟨b,o,none⟩)),(1,.slice q ps.length cap),(2,i64 f),(8,.slice q ps.length cap),(9,i64 ps.length),(10,i64 (s.1:Nat))],[]⟩,
  fun s X=>s.1<=ps.length/\zG s.2/\zki f (ps.drop s.1) s.2=zki f ps r.to/\RelAt X b o T A Z ⟨r.n,s.2⟩/\w.grownBy X (some b),fun s=>ps.length-s.1,(0,r.to),
  (cvE rfl rfl),⟨Gg _,hw,rfl,hr,j5 _ _⟩,?_⟩
 rintro⟨k,g⟩ X ⟨hk,hg,he,hX,gX⟩;dsimp only at hk hg he hX ⊢;have hXs:=gX.size;refine biE (fun hc=>?_) fun hc=>?_
 ·have hc:(k:Int)<(ps.length:Int):=dT hc;have hkl:k<ps.length:=by omega
  obtain⟨pr,hpr⟩:∃ pr,ps[k]=pr:=⟨_,rfl⟩;obtain⟨p1,p2⟩:=hp pr (by rw [<- hpr];exact gM hkl);rw [<- JD hkl,hpr] at he;have he:zki f (ps.drop (k+1)) (upd g (f+pr.1) (g (f+pr.1)|||2^(f+pr.2)))=zki f ps r.to:=he;obtain⟨bp,op,rfl,hlp,hat⟩:=hl.at hkl;have hbp:bp≠b:=hqb _ rfl;have hatX:zw X ⟨bp,op+k*2,none⟩ (prE.enc ps[k]):=zQ (gX.block bp hlp (by simpa using hbp)) (hat k hkl);refine⟨k,rfl,hkl,prE.enc pr,rfl,by rw [<- hpr];exact hatX,nL hlp hXs,?_⟩;refine zn (X:=X) (v := .agg (prE.enc pr).toArray) zwx rfl rfl rfl fun Y hbY fY sY=>DrawE.ord [20] [0,1,2,3,4,5,6,7,8,9,10,11,12,13,14,15,16,17,18,19,20] (by kernel_rfl) ?_;have fY1:Y.heap[X.heap.size]?=some (.cells (prE.enc pr).toArray 326 (0,0)):=fY;have hrY:=hX.same (hbY.block b (nL hbw hXs));refine⟨0,rfl,by decide,?_⟩;refine⟨u8 (UInt8.ofNat pr.1),zc (za (hdr fY1)) (i:=0*1) rfl,((pr.1:Nat):Int),by rw [zlF (by omega)];exact zk (by omega),((f+pr.1:Nat):Int),(zk (by omega)).trans (by omega),f+pr.1,rfl,by omega,?_⟩;refine⟨s64 (g (f+pr.1)),(hrY.same (Y:=Y.drew) rfl).cell p1,1,rfl,by decide,?_⟩;refine⟨u8 (UInt8.ofNat pr.2),zc (za (hdr fY1)) (i:=1*1) rfl,((pr.2:Nat):Int),by rw [zlF (by omega)];exact zk (by omega),((f+pr.2:Nat):Int),(zk (by omega)).trans (by omega),by omega,_,jU (e:=f+pr.2) (by omega),_,zaj (hg _ p1) (z6 (by omega)),f+pr.1,rfl,by omega,?_⟩;refine zy k27 (hrY.same (Y:=Y.drew) rfl).cells (o:=o+1+(f+pr.1)*1) (v:=s64 (g (f+pr.1)|||2^(f+pr.2))) rfl rfl (by rw [hrY.len];omega) rfl fun S fS gS sS=>?_;rw [hrY.set p1] at fS;exact nxI (by omega) ⟨(k+1,_),(cvE rfl rfl),⟨hkl,zgJ hg (KY (hg _ p1) (z6 (by omega))),he,⟨hr.at_,fS⟩,zh gX (zh (zi hbY) (zh (zi (Gj _ Y).drew) gS))⟩,zdc (by omega)⟩
 ·have hc:¬ (k:Int)<(ps.length:Int):=dF hc;obtain rfl:k=ps.length:=by omega
  rw [Qm] at he;have he:g=zki f ps r.to:=he;subst he;exact⟨rfl,hX,gX⟩
end
def zxC (pre:List Nat) (vs:List Value) (W:Wd):Prop:=∃ (a i:Nat),pre.getLast?=some a/\vs=[i64 i,i64 a]
theorem zvg {bx:Nat} {l:List Nat} {q:OA} {c:Nat} {W0:Wd} (fx:W0.heap[bx]?=some (.cells #[.slice q l.length c] 128 (0,0))) (hl:SlR zE W0 q l) (hql:∀ a,q=some a->a.block<W0.heap.size) (hn:l.length<=100000) :
  ziX PG 179 [At0 bx] l.reverse W0 (fun k=>k=bx\/∃ a,q=some a/\k=a.block) (fun _=>False) zxC:=by
 intro yl F0 J Jx W hsz hrd hrf hJ hJx hy h0;have fxW:=(hrd bx (.inl (.inl rfl))).trans fx;have hlW:SlR zE W q l:=q9 hl fun a ha=>hrd _ (.inl (.inr ⟨a,ha,rfl⟩));have hbxW:=hlt fxW;refine zJ 19 [.func (.yield yl) #[] #[],At0 bx] Tryz.func179 ?_;refine⟨_,zc (za fxW) (i:=0) rfl,((l.length:Nat):Int)-1,zk (by omega),?_⟩;refine⟨Nat×(Nat->Prop),fun s=>⟨[(0,.func (.yield yl) #[] #[]),(1,At0 bx),(3,i64 (((l.length:Nat):Int)-1-(s.1:Nat)))],[]⟩,
  fun s V=>s.1<=l.length/\J (l.reverse.take s.1) s.2 V/\W.heap.size<=V.heap.size/\V.heap[bx]?=some (.cells #[.slice q l.length c] 128 (0,0))/\¬ s.2 bx/\RowF zE W.heap.size s.2 V q l,fun s=>l.length-s.1,(0,F0),
  ⟨.cons rfl (.cons rfl (.cons (by show _=some (i64 (((l.length:Nat):Int)-1-((0:Nat):Int)));rw [Int.ofNat_zero,Int.sub_zero];rfl) .nil)),rfl⟩,⟨Gg _,h0,Ge _,fxW,hrf _ (.inl rfl),⟨hlW,fun a ha=>⟨by have:=hql a ha;omega,hrf _ (.inr ⟨a,ha,rfl⟩)⟩⟩⟩,?_⟩
 rintro⟨t,F⟩ V ⟨ht,hjV,hWV,fxV,hbF,hqV⟩;dsimp only at ht hjV hbF hqV ⊢;refine biE (fun hi=>?_) fun hi=>?_
 ·have hi:(0:Int)<=((l.length:Nat):Int)-1-(t:Nat):=dT hi;obtain⟨i,hit⟩:∃ i,i+t+1=l.length:=⟨l.length-1-t,by omega⟩;have hii:((l.length:Nat):Int)-1-(t:Nat)=(i:Nat):=by omega
  rw [hii];have hil:i<l.length:=by omega
  have hrt:l.reverse[t]?=some l[i]:=by
   rw [JK (by omega),show l.length-1-t=i by omega,gE hil]
  have htl:t<l.reverse.length:=by rw [Ki];omega
  have hre:l.reverse[t]=l[i]:=by rw [gE htl] at hrt;exact Ug hrt
  have htk:l.reverse.take (t+1)=l.reverse.take t++[l[i]]:=by rw [tsg htl,hre]
  refine⟨_,zc (za fxV) (i:=0) rfl,?_⟩;obtain⟨bq,oq,hqe,hlq,hatq⟩:=hqV.row.at hil;subst hqe;refine⟨i,rfl,hil,i64 l[i],zc (hatq i hil) (i:=0) rfl,YieldR.mono (hy _ l[i] [i64 (i:Nat),i64 l[i]] F V hjV ⟨l[i],i,by simp,rfl⟩ (by rw [<- htk];exact List.take_prefix _ _)) ?_⟩;rintro v Y (⟨rfl,F',hjY,kY⟩ | ⟨rfl,F',hjY⟩)
  ·refine brF ?_;have hbF':¬ F' bx:=fun h=>by
    rcases kY.fp bx h with h | h
    ·exact hbF h
    ·have:=hlt fxV;omega
   exact⟨((l.length:Nat):Int)-1-((t+1:Nat):Int),(zk (by omega)).trans (by omega),(t+1,F'),(cvE rfl rfl),⟨by omega,by rw [htk];exact hjY,UU hWV kY.size,(kY.same bx (hlt fxV) hbF).trans fxV,hbF',hqV.keep hWV kY (fun _ _ h=>h)⟩,zdc (by omega)⟩
  ·exact brT ⟨⟨_,rfl⟩,.inr ⟨_,F',by rw [<- htk];exact List.take_prefix _ _,hjY⟩⟩
 ·have hi:¬ (0:Int)<=((l.length:Nat):Int)-1-(t:Nat):=dF hi;have hte:t=l.length:=by omega
  subst hte;rw [JE (by rw [Ki];exact Ge _)] at hjV;exact⟨⟨_,rfl⟩,.inl ⟨F,hjV⟩⟩
theorem zs7 {q:OA} {n c:Nat} {w:Wd}:Calls PG 133 #[.slice q n c] w fun e w'=>e = .returned (.func (.func 179) #[] #[At0 w.heap.size])/\w'.heap[w.heap.size]?=some (.cells #[.slice q n c] 128 (0,0))/\w'.heap.size=w.heap.size+1/\Bw w w':=by
 refine zJ 4 [.slice q n c] Tryz.func133 ?_;exact⟨rfl,zz w _,wz _ _,(zba w _)⟩
theorem zpX {q:OA} {n c:Nat} {w:Wd}:Calls PG 139 #[.slice q n c] w fun e w'=>e = .returned (.func (.func 198) #[] #[At0 w.heap.size])/\w'.heap[w.heap.size]?=some (.cells #[.slice q n c] 128 (0,0))/\w'.heap.size=w.heap.size+1/\Bw w w':=by
 refine zJ 4 [.slice q n c] Tryz.func139 ?_;exact⟨rfl,zz w _,wz _ _,(zba w _)⟩
def zgD (p:(Nat->Nat)×Nat) (a:Nat):(Nat->Nat)×Nat:=(upd p.1 a p.2,p.2|||2^a)
theorem zeN:∀ (l:List Nat) (f:Nat->Nat) (b:Nat),znf l f b=(l.foldl zgD (f,b)).1
 | [],_,_=>rfl
 | a::l,f,b=>zeN l (upd f a b) (b|||2^a)
theorem zjt:∀ {l:List Nat} {f:Nat->Nat} {b:Nat},zG f->b<2^64->(∀ a∈l,a<48)->zG (l.foldl zgD (f,b)).1/\(l.foldl zgD (f,b)).2<2^64
 | [],_,_,h,hb,_=>⟨h,hb⟩
 | a::l,f,b,h,hb,hl=>zjt (l:=l) (zgJ h hb) (KY hb (z6 (by have:=hl a Kz;omega))) fun x hx=>hl x (JW _ hx)
theorem ziM {l:List Nat} {r:RelD} (h:zG r.to) (hl:∀ a∈l,a<48):zG (zbw l r).to:=by
 show zG (znf l.reverse r.to 0);rw [zeN];exact (zjt h (by decide) fun a ha=>hl a (by simpa using ha)).1
section
variable {b o:Nat} {T:TypeId} {A Z:List Value} {r:RelD} {w:Wd} {q:OA} {c:Nat} {l:List Nat}
theorem zqb (hr:RelAt w b o T A Z r) (hw:zG r.to) (hl:SlR zE w q l) (hql:∀ a,q=some a->a.block<w.heap.size/\a.block≠b) (hn:l.length<=100000) (h48:∀ a∈l,a<48) :
  Calls PG 84 #[.pointer (some ⟨b,o,none⟩),.slice q l.length c] w fun e w'=>e = .returned (.tuple #[])/\RelAt w' b o T A Z (zbw l r)/\w.grownBy w' (some b):=by
 refine qa 21 [.pointer (some ⟨b,o,none⟩),.slice q l.length c] (.s .p (.c .p .p)) Tryz.func84 ?_;obtain⟨L,hL⟩:=nm (w.heap.size);refine⟨Unit,fun _=>⟨[(1,.slice q l.length c),(2,At0 L),(4,At0 (L+1))],[]⟩,fun _ X=>X.heap[L]?=some (.cells #[.pointer (some ⟨b,o,none⟩)] 82 (0,0))/\X.heap[L+1]?=some (.cells #[s64 0] 27 (0,0))/\X.heap.size=L+2/\Bw w X,?_,?_⟩
 ·have s1:=wz w (.cells #[.pointer (some ⟨b,o,none⟩)] 82 (0,0));have h2:=zz (w.alloc (.cells #[.pointer (some ⟨b,o,none⟩)] 82 (0,0))) (.cells #[s64 0] 27 (0,0));have s2:=wz (w.alloc (.cells #[.pointer (some ⟨b,o,none⟩)] 82 (0,0))) (.cells #[s64 0] 27 (0,0));rw [s1] at h2 s2;exact⟨(),⟨.cons rfl (.cons (by rw [hL];rfl) (.cons (by rw [hL,<- s1];rfl) .nil)),rfl⟩,by rw [hL];exact qm _ (zz w _),by rw [hL];exact h2,by rw [hL];exact s2,((zba w _)).alloc (by simp) _⟩
 rintro _ X ⟨f0,f1,sX,hbX⟩;have hbw:=hlt hr.cells;refine cmo zs7 ?_;rintro e W ⟨rfl,fx,sW,hbW⟩;have hwW:=zst hbX hbW;have hI:=zvg fx (hl.below hwW) (fun a ha=>by have:=(hql a ha).1;omega) hn;have f0:=zb hbW f0;have f1:=zb hbW f1;refine zdN (zbF _) rfl (lb := #[At0 X.heap.size]) rfl rfl hI (Ge _) (fun k hk=>⟨?_,rfl⟩) (fun pre vs W ⟨a,i,_,h⟩=>by rw [h];rfl) (by decide)
  (fun k=>k=b\/k=L+1) (fun pre F Y=>F=(fun k=>k=b\/k=L+1)/\W.heap.size<=Y.heap.size/\RelAt Y b o T A Z ⟨r.n,(pre.foldl zgD (r.to,0)).1⟩/\Y.heap[L+1]?=some (.cells [s64 (pre.foldl zgD (r.to,0)).2].toArray 27 (0,0))/\Y.heap[L]?=some (.cells #[.pointer (some ⟨b,o,none⟩)] 82 (0,0))/\w.grownBy Y (some b)) (fun _ _ _ _=>False) (fun k hk=>?_)
  (joG (F:=fun k=>k=b\/k=L+1) (J:=fun (pre:List Nat) Y=>W.heap.size<=Y.heap.size/\RelAt Y b o T A Z ⟨r.n,(pre.foldl zgD (r.to,0)).1⟩/\Y.heap[L+1]?=some (.cells [s64 (pre.foldl zgD (r.to,0)).2].toArray 27 (0,0))/\Y.heap[L]?=some (.cells #[.pointer (some ⟨b,o,none⟩)] 82 (0,0))/\w.grownBy Y (some b))
   (fun k h=>by omega) (fun s A h=>h.1) (fun pre A B ⟨h1,h2,h3,h4,h5⟩ hb=>⟨UU h1 hb.size,h2.same (hb.block _ (by omega)),zaA hb (by omega) h3,zaA hb (by omega) h4,jp h5 (hb.mono hwW.size)⟩))
  (fun ex=>⟨fun _ _ _ _ h=>h.elim,fun _ _ _ _ h=>h.elim⟩) ⟨rfl,Ge _,hr.same (hwW.block _ hbw),f1,f0,zi hwW⟩ ?_ ?_ ?_
 ·rcases hk with (rfl | ⟨a,ha,rfl⟩) | h
  ·omega
  ·have:=(hql a ha).1;have:=hwW.size;omega
  ·exact h.elim
 ·rcases hk with rfl | ⟨a,ha,rfl⟩
  ·omega
  ·have:=hql a ha;omega
 ·rintro yl pre x vs F Y hyl hpre hJ ⟨a,i,hlast,rfl⟩ hfy hlo;have hxa:x=a:=by simpa using hlast
  subst hxa;refine⟨rfl,F,KeepsG.refl _ _,hJ,?_⟩;rintro O Y2 hY2 ⟨rfl,h1,h2,h3,h4,h5⟩;obtain⟨g1,g2⟩:=zjt (l:=pre) (f:=r.to) (b:=0) hw (by decide) (fun a ha=>h48 a (by have:=hpre.subset (List.mem_append_left _ ha);simpa using this));have hx48:x<48:=h48 x (by have:=hpre.subset (JO _ (KA.2 rfl));simpa using this);have hfold:(pre++[x]).foldl zgD (r.to,0)=zgD (pre.foldl zgD (r.to,0)) x:=by rw [KT];rfl
  obtain⟨P,hP⟩:=nm (pre.foldl zgD (r.to,0));rw [<- hP] at h2 h3 g1 g2 hfold;refine DrawE.ord [6] [0,1,2,3,4,5,6] (by kernel_rfl) ⟨_,zc (za (hdr h4)) (i:=0) rfl,_,zc (za (hdr h3)) (i:=0) rfl,x,rfl,hx48,zy k27 (h2.same (Y:=Y2.drew) rfl).cells (o:=o+1+x*1) (v:=s64 P.2) rfl rfl (by rw [h2.len];omega) rfl fun S fS gS sS=>?_⟩;rw [h2.set hx48] at fS;have gS2:Y2.grownBy S (some b):=zh (zi (Gj _ Y2).drew) gS;have h3S:=(gS2.block (L+1) (hlt h3) (by simp;omega)).trans h3;refine DrawE.ord [4] [0,1,2,3,4] (by kernel_rfl) ⟨_,zc (za (hdr h3S)) (i:=0) rfl,by omega,_,jU (e:=x) (by omega),_,zaj g2 (z6 (by omega)),zy k27 (hdr h3S) (o:=0) (v:=s64 (P.2|||2^x)) rfl rfl (by show 0<1;decide) rfl fun V fV gV sV=>?_⟩;have gV2:S.grownBy V (some (L+1)):=zh (zi (Gj _ S).drew) gV;have hLw:L=w.heap.size:=hL;refine⟨fun k=>k=b\/k=L+1,⟨rfl,?_,⟨hr.at_,?_⟩,by rw [hfold];exact fV,?_,?_⟩,(KeepsG.grown gS2 (.inl rfl)).trans (KeepsG.grown gV2 (.inr rfl))⟩
  ·have:=gS2.size;have:=gV2.size;omega
  ·rw [hfold];exact (gV2.block b (hlt fS) (by simp;omega)).trans fS
  ·exact (gV2.block L (nL (hlt h4) gS2.size) (by simp)).trans ((gS2.block L (hlt h4) (by simp;omega)).trans h4)
  ·exact⟨gV2.os.trans (gS2.os.trans h5.os),gV2.tape.trans (gS2.tape.trans h5.tape),gV2.output.trans (gS2.output.trans h5.output),by have:=gS2.size;have:=gV2.size;have:=h5.size;omega,fun k hk hne=>(gV2.block k (by have:=gS2.size;have:=h5.size;omega) (by simp;omega)).trans ((gS2.block k (by have:=h5.size;omega) hne).trans (h5.block k hk hne))⟩
 ·rintro D F Y hD hfD ⟨rfl,h1,h2,h3,h4,h5⟩ hdef;refine⟨_,rfl,hdef,?_⟩;have hDb:b≠D:=by have:=hwW.size;omega
  refine⟨rfl,⟨hr.at_,?_⟩,?_⟩
  ·rw [show zbw l r=⟨r.n,(l.reverse.foldl zgD (r.to,0)).1⟩ by unfold zbw;rw [zeN]];exact (zl hDb).trans h2.cells
  ·exact⟨h5.os,h5.tape,h5.output,by have:=h5.size;simpa [World.putObj] using this,fun k hk hne=>(zl (by have:=hwW.size;omega)).trans (h5.block k hk hne)⟩
 ·rintro D ex pre F Y hD hfD hpre h;exact h.elim
end
theorem zjj {P:Program} {iT:TI} {T B g cap i v:Nat} {l:List Nat} {w:Wd} (hT:TIok P T iT) (hs:iT.size=1) (h:OwnS zE T B w (some ⟨g,0,none⟩) cap l) (hi:i<l.length) {K:Wd->Prop}
  (k:∀ w',OwnS zE T B w' (some ⟨g,0,none⟩) cap (l.set i v)->w.grownBy w' (some g)->K w'):SatR ((storeVar T ⟨g,0+i*1,none⟩ (i64 v)).run P w) fun _ w'=>K w':=by
 rcases h.inv with ⟨h,_⟩ | ⟨g',cur,hg,hB,hc,hl,hm,hs2,ht⟩
 ·cases h
 ·simp only [KZ,Uw,Gr] at hg;subst hg;have e:cur=cur.toList.toArray:=rfl;have hsz:cur.toList.length=cap:=by
   have:cur.toList.length=cur.size:=rfl;rw [this,hs2];exact Gf _
  refine zy hT (cs:=cur.toList) (by rw [<- e];exact hc) (o:=0+i*1) (v:=i64 v) rfl hs (by omega) rfl fun w' fw gw sw=>k w' ?_ gw;unfold OwnS World.ownsRow;have ht:cur.toList.take (l.length*1)=l.flatMap zE.enc:=ht;refine⟨by rw [qP],.inr ⟨g,cap,_,rfl,hB,fw,by rw [QS];exact hl,hm,?_,?_⟩⟩
  ·show (cur.toList.set (0+i*1) (i64 v)).length=_;rw [QS];exact hs2
  ·show (cur.toList.set (0+i*1) (i64 v)).take ((l.set i v).length*1)=_;rw [Gf,UY,Gf,QS,List.take_set,<- Gf l.length,ht,zfp,zfp];unfold zjc;rw [UO]
theorem zsD {before:Nat->Nat}:∀ (m left:Nat) (l:List Nat),∀ x∈zcX before m left l,∀ a∈x,a∈l\/a∈els left:=by
 intro m
 induction m with
 | zero =>
  intro left l x hx a ha;unfold zcX at hx
  split at hx
  ·rw [KA.1 hx] at ha;exact .inl ha
  ·cases hx
 | succ m ih =>
  intro left l x hx a ha;unfold zcX at hx
  split at hx
  ·rw [KA.1 hx] at ha;exact .inl ha
  ·obtain⟨b,hb,hx⟩:=List.mem_flatMap.1 hx
   split at hx
   ·rcases ih _ _ x hx a ha with h | h
    ·rcases QU.1 h with h | h
     ·exact .inl h
     ·rw [KA.1 h];exact .inr hb
    ·refine .inr ?_;unfold els at h ⊢;rw [QV] at h ⊢;refine⟨h.1,?_⟩;have h2:=h.2;unfold zao at h2;rw [Ud,bAT] at h2;exact h2.1
   ·cases hx
theorem zr1 {r:RelD} {n:Nat} (hr:r.n=n) (hn:n<=64) {x:List Nat} (h:x∈zdE r) {a:Nat} (ha:a∈x):a<n:=by
 unfold zdE at h
 split at h
 ·rcases zsD _ _ _ x h a ha with h | h
  ·cases h
  ·rw [zbT,hr,zjC hn] at h;exact Ur.1 h
 ·cases h
abbrev crs (n:Nat):RelD:=zaU n 1 (zao (jx n) 1)
theorem zuV:∀ n,n<=48->okR (crs n)=true:=by
 intro n hn;have h:(List.range 49).all (fun n=>okR (crs n))=true:=by kernel_rfl
 rw [Qj] at h;exact h n (Ur.2 (by omega))
theorem ztb (n:Int):jx n<2^64:=jE n
theorem zsP (n:Nat):zG (crs n).to:=fun i _=>by
 show (if i<n then (if Nat.testBit 1 i then zao (jx n) 1&&&jx n else 0) else 0)<2^64
 split
 ·split
  ·exact KE Qx (ztb n)
  ·decide
 ·decide
def zb5 (ws:List Nat) (o:List Nat):List Nat:=o.map fun k=>ws.getD k 0
theorem zrW {ws o:List Nat} {i:Nat} (hi:i<o.length) (h:i<(zb5 ws (o.take i)++o.drop i).length):(zb5 ws (o.take i)++o.drop i)[i]=o[i]:=by
 have hl:(zb5 ws (o.take i)).length=i:=by unfold zb5;rw [QQ,Qu,Uc (by omega)]
 have h2:(zb5 ws (o.take i)++o.drop i)[i]?=o[i]?:=by
  rw [Jl (by omega),hl,UW,Kw,UR]
 rw [gE h,gE hi] at h2;exact Ug h2
theorem zpH {ws o:List Nat} {i:Nat} (hi:i<o.length) (ho:o[i]<ws.length):(zb5 ws (o.take i)++o.drop i).set i ws[o[i]]=zb5 ws (o.take (i+1))++o.drop (i+1):=by
 have hl:(zb5 ws (o.take i)).length=i:=by unfold zb5;rw [QQ,Qu,Uc (by omega)]
 rw [JP _ _ (by omega),hl,UW,<- JD hi,List.set_cons_zero,tsg hi];unfold zb5;rw [QT,KO,UF,UN,gDe,gE ho];rfl
section
variable {q:OA} {c:Nat} {ws:List Nat} {w:Wd}
theorem zpT (hl:SlR zE w q ws) (hn:ws.length<=48) (hT:Tz64M w) :
  Calls PG 142 #[.slice q ws.length c] w fun e w'=>(∃ (xs:List (List Nat×OA×Nat)) (p:OA) (c':Nat),e = .returned (.slice p xs.length c')/\xs.map (·.1)=zaL ws/\OwnS ja 128 w.heap.size w' p c' xs/\∀ x∈xs,OwnS zE 3 w.heap.size w' x.2.1 x.2.2 x.1)/\Bw w w':=by
 refine qa 44 [.slice q ws.length c] (.s .p (.s .p (.c .p .p))) Tryz.func142 ?_;obtain⟨B,hB⟩:=nm (w.heap.size);refine⟨List (List Nat×OA×Nat)×OA×Nat,fun s=>⟨[(0,.slice q ws.length c),(4,.slice s.2.1 s.1.length s.2.2)],[]⟩,fun s X=>(zaL ws=(s.1.map (·.1)).map (zb5 ws)/\AscB s.1/\s.1.length<=10000/\∀ x∈s.1,x.1.length<=64/\∀ a∈x.1,a<ws.length)/\OwnS ja 128 B X s.2.1 s.2.2 s.1/\(∀ x∈s.1,OwnS zE 3 B X x.2.1 x.2.2 x.1)/\Bw w X,?_,?_⟩
 ·refine cmo zh4 ?_;rintro e _ ⟨rfl,rfl⟩;refine⟨_,zbZ (jE _) (by decide:1<2^64),cmo (znO (n:=ws.length) (a:=1) (b:=jC (zaH ws.length) 1) hn (by decide) (zd0 (jE _))) ?_⟩;rintro e X ⟨rfl,hbX⟩;refine cmo (zre (r:=crs ws.length) (m:=10000) (zsP _) (hT.below hbX) (Ge _) (zuV _ hn)) ?_;rintro e Y ⟨⟨hm,xs,p,c',rfl,hxs,hasc,ho,hx⟩ | ⟨hm,rfl⟩,hbY⟩
  ·refine⟨(xs,p,c'),(cvE rfl rfl),⟨?_,hasc,?_,fun x hx=>?_⟩,ho.lower (by rw [hB];exact hbX.size),fun x h=>(hx x h).lower (by rw [hB];exact hbX.size),(zst hbX hbY)⟩
   ·show zaL ws=(xs.map (·.1)).map (zb5 ws);rw [hxs];unfold zaL;exact Gz hm
   ·show xs.length<=10000;rw [<- hxs,QQ] at hm;exact hm
   ·have hmem:x.1∈zdE (crs ws.length):=(by rw [<- hxs];exact UP.2 ⟨x,hx,rfl⟩);exact⟨zm4 hmem,fun a ha=>zr1 rfl (by omega) hmem ha⟩
  ·refine⟨([],none,0),(cvE rfl rfl),⟨?_,List.Pairwise.nil,Gg _,fun x hx=>(by cases hx)⟩,OwnS.nil,fun x hx=>(by cases hx),(zst hbX hbY)⟩;show zaL ws=[];unfold zaL;exact Gy (by show ¬ (zdE (crs ws.length)).length<=10000;omega)
 rintro⟨xs,p,c'⟩ X ⟨⟨hrk,hasc,hxl,hxx⟩,ho,hx,hbX⟩;dsimp only at hrk hasc hxl hxx ho hx ⊢;have hbs:=hbX.size;refine⟨Nat,fun k=>⟨[(0,.slice q ws.length c),(4,.slice p xs.length c'),(21,.slice p xs.length c'),(22,i64 xs.length),(23,i64 (k:Nat))],[]⟩,
  fun k Z=>k<=xs.length/\OwnS ja 128 B Z p c' xs/\(∀ x∈xs.take k,OwnS zE 3 B Z x.2.1 x.2.2 (zb5 ws x.1))/\(∀ x∈xs.drop k,OwnS zE 3 B Z x.2.1 x.2.2 x.1)/\Bw w Z,fun k=>xs.length-k,0,
  (cvE rfl rfl),⟨Gg _,ho,fun x h=>(by rw [Us] at h;cases h),fun x h=>hx x h,hbX⟩,?_⟩
 clear ho hx hbX hbs;rintro k Z ⟨hk,ho,htk,hdr,hbZ⟩;have hbs:=hbZ.size;refine biE (fun hc=>?_) fun hc=>?_
 ·have hc:(k:Int)<(xs.length:Int):=dT hc;have hkl:k<xs.length:=by omega
  obtain⟨x,hxk⟩:∃ x,xs[k]=x:=⟨_,rfl⟩;have hxm:x∈xs:=by rw [<- hxk];exact gM hkl
  obtain⟨hx64,hxa⟩:=hxx x hxm;have hsplit:xs=xs.take k++x::xs.drop (k+1):=by rw [<- hxk,JD,JQ]
  have hdrop:xs.drop k=x::xs.drop (k+1):=by rw [<- hxk,JD]
  have hox:OwnS zE 3 B Z x.2.1 x.2.2 x.1:=hdr x (by rw [hdrop];simp);obtain⟨bp,op,hpe,hlp,hat⟩:=ho.row.at hkl;subst hpe;refine⟨k,rfl,hkl,.slice x.2.1 x.1.length x.2.2,by rw [<- hxk];exact zc (hat k hkl) (i:=0) rfl,?_⟩;refine⟨Nat,fun i=>⟨[(0,.slice q ws.length c),(4,.slice (some ⟨bp,op,none⟩) xs.length c'),(7,.slice x.2.1 x.1.length x.2.2),(21,.slice (some ⟨bp,op,none⟩) xs.length c'),(22,i64 xs.length),(23,i64 (k:Nat)),(27,.slice x.2.1 x.1.length x.2.2),(28,i64 x.1.length),(29,i64 (i:Nat))],[]⟩,
   fun i V=>i<=x.1.length/\OwnS zE 3 B V x.2.1 x.2.2 (zb5 ws (x.1.take i)++x.1.drop i)/\Z.grownBy V (x.2.1.map Addr.block),fun i=>x.1.length-i,0,
   (cvE rfl rfl),⟨Gg _,hox,j5 _ _⟩,?_⟩
  rintro i V ⟨hi,hoV,gV⟩;refine biE (fun hc=>?_) fun hc=>?_
  ·have hc:(i:Int)<(x.1.length:Int):=dT hc;have hil:i<x.1.length:=by omega
   have hlen:(zb5 ws (x.1.take i)++x.1.drop i).length=x.1.length:=by
    unfold zb5;simp;omega
   have hgi:(zb5 ws (x.1.take i)++x.1.drop i)[i]'(by omega)=x.1[i]:=by
    exact zrW hil (by omega)
   obtain⟨b',o',hqe,hlq,hat'⟩:=hoV.row.at (i:=i) (by omega);have hao:=hxa x.1[i] (gM hil);obtain⟨bw,ow,hwe,hlw,hatw⟩:=hl.at hao;subst hwe;have hq0:∃ g,x.2.1=some ⟨g,0,none⟩:=by
    rcases hoV.inv with ⟨h,_⟩ | ⟨g,cur,h,_⟩
    ·rw [h] at hqe;cases hqe
    ·exact⟨g,h⟩
   obtain⟨g,hg⟩:=hq0;have hbo:b'=g/\o'=0:=by rw [hg] at hqe;simpa using hqe.symm
   obtain⟨rfl,rfl⟩:=hbo;rw [hg] at hoV gV ⊢;have hBg:=(zA hoV rfl).1;refine⟨i,rfl,hil,i64 x.1[i],by have:=zc (hat' i (by omega)) (i:=0) (v:=i64 x.1[i]) (by rw [hgi];rfl);exact this,x.1[i],rfl,hao,?_⟩;have hVw:V.heap[bw]?=w.heap[bw]?:=(gV.block bw (by omega) (by have:B<=b':=hBg;simp;omega)).trans (hbZ.block bw hlw);refine⟨i64 ws[x.1[i]],zc (zQ hVw (hatw _ hao)) (i:=0) rfl,i,rfl,hil,zjj (i:=i) (v:=ws[x.1[i]]) k3 rfl hoV (by omega) fun V' oV' gV'=>nxI (by omega) ⟨i+1,(cvE rfl rfl),⟨hil,?_,zh gV gV'⟩,zdc (by omega)⟩⟩;have e:(zb5 ws (x.1.take i)++x.1.drop i).set i ws[x.1[i]]=zb5 ws (x.1.take (i+1))++x.1.drop (i+1):=zpH hil hao;rw [e] at oV';exact oV'
  ·have hc:¬ (i:Int)<(x.1.length:Int):=dF hc;obtain rfl:i=x.1.length:=by omega
   rw [Qw,Qm,QM] at hoV;have keepI:∀ y:List Nat×OA×Nat,∀ l',OwnS zE 3 B Z y.2.1 y.2.2 l'->(∀ a b,x.2.1=some a->y.2.1=some b->a.block≠b.block)->OwnS zE 3 B V y.2.1 y.2.2 l':=fun y l' hy hne=>hy.same fun b hb=>gV.block _ (zA hy hb).2.1 (by
    intro e
    cases hx1:x.2.1 with
    | none=>rw [hx1] at e;cases e
    | some a =>
     rw [hx1] at e;simp only [Uf,KZ] at e;exact hne a b hx1 hb e.symm)
   unfold AscB at hasc;rw [hsplit,List.pairwise_append,List.pairwise_cons] at hasc;obtain⟨_,⟨hA1,_⟩,hA2⟩:=hasc;refine nxI (by omega) ⟨k+1,(cvE rfl rfl),⟨hkl,?_,fun y hy=>?_,fun y hy=>?_,?_⟩,zdc (by omega)⟩
   ·refine ho.same fun a ha=>gV.block _ (zA ho ha).2.1 fun e=>?_
    cases hx1:x.2.1 with
    | none=>rw [hx1] at e;cases e
    | some a2 =>
     rw [hx1] at e;simp only [Uf,KZ] at e;obtain⟨_,_,c1,h1⟩:=zA ho ha;obtain⟨_,_,c2,h2⟩:=zA hox hx1;rw [<- e,h1] at h2;simp at h2
   ·rw [tsg hkl,hxk] at hy;rcases QU.1 hy with hy | hy
    ·exact keepI y _ (htk y hy) fun a b ha hb e=>by
      have:=hA2 y hy x (by simp) b a hb ha;omega
    ·rw [KA.1 hy];exact hoV
   ·exact keepI y _ (hdr y (by rw [hdrop];exact JW _ hy)) fun a b ha hb e=>by
     have:=hA1 y hy a b ha hb;omega
   ·cases hx1:x.2.1 with
    | none =>
     rw [hx1] at gV;exact hbZ.trans ⟨gV.os,gV.tape,gV.output,gV.size,fun j hj=>gV.block j (by omega) (fun e=>by cases e)⟩
    | some a =>
     rw [hx1] at gV;exact hbZ.trans (zq gV hbs (by have:=(zA hox hx1).1;omega))
 ·have hc:¬ (k:Int)<(xs.length:Int):=dF hc;obtain rfl:k=xs.length:=by omega
  rw [Qw] at htk;refine⟨⟨xs.map fun x=>(zb5 ws x.1,x.2),p,c',by rw [QQ];rfl,?_,?_,fun y hy=>?_⟩,hbZ⟩
  ·rw [hrk,UM,UM];rfl
  ·rw [<- hB];have e1:(xs.map fun x=>(zb5 ws x.1,x.2)).flatMap ja.enc=xs.flatMap ja.enc:=by
    rw [Qo];congr 1;funext x;show [Value.slice x.2.1 (zb5 ws x.1).length x.2.2]=[Value.slice x.2.1 x.1.length x.2.2];unfold zb5;rw [QQ]
   unfold OwnS at ho ⊢;rw [e1,QQ];exact ho
  ·obtain⟨x,hx,rfl⟩:=UP.1 hy;rw [<- hB];exact htk x hx
end
def exC (x:ExD) (q:OA) (c:Nat):List Value := .slice q x.ev.length c::(zd x.po++(zd x.rf++(zd x.co++(zd x.dt++(zd x.ct++(zd x.rm++(seg 32 (fun i=>u8 (x.regs i))++seg 6 (fun i=>u8 (x.mem i)))))))))
theorem zI (x:ExD) (q:OA) (c:Nat):(exC x q c).length=333:=by
 unfold exC;simp only [Qs,lap,ze,zM]
theorem zdk (x:ExD) (q:OA) (c:Nat):(exC x q c).all Value.oneCell'=true:=by
 unfold exC;rw [UD,QL,QL,QL,QL,QL,QL,QL,zD,zD,zD,zD,zD,zD,zbN fun _=>rfl,zbN fun _=>rfl];rfl
section
variable (x:ExD) (q:OA) (c:Nat) (S:List Value)
theorem znn:∃ A Z,A.length=1/\∀ r,exC { x with po:=r } q c++S=A++(zd r++Z) :=
 ⟨.slice q x.ev.length c::[],(zd x.rf++(zd x.co++(zd x.dt++(zd x.ct++(zd x.rm++(seg 32 (fun i=>u8 (x.regs i))++(seg 6 (fun i=>u8 (x.mem i))++S))))))),by simp only [Qs,QR,lap,ze],fun r=>by simp only [exC,KO,Ql,QW]⟩
theorem ztB:∃ A Z,A.length=50/\∀ r,exC { x with rf:=r } q c++S=A++(zd r++Z) :=
 ⟨.slice q x.ev.length c::zd x.po,(zd x.co++(zd x.dt++(zd x.ct++(zd x.rm++(seg 32 (fun i=>u8 (x.regs i))++(seg 6 (fun i=>u8 (x.mem i))++S)))))),by simp only [Qs,QR,lap,ze],fun r=>by simp only [exC,KO,Ql,QW]⟩
theorem ztD:∃ A Z,A.length=99/\∀ r,exC { x with co:=r } q c++S=A++(zd r++Z) :=
 ⟨.slice q x.ev.length c::(zd x.po++zd x.rf),(zd x.dt++(zd x.ct++(zd x.rm++(seg 32 (fun i=>u8 (x.regs i))++(seg 6 (fun i=>u8 (x.mem i))++S))))),by simp only [Qs,QR,lap,ze],fun r=>by simp only [exC,KO,Ql,QW]⟩
theorem zno:∃ A Z,A.length=148/\∀ r,exC { x with dt:=r } q c++S=A++(zd r++Z) :=
 ⟨.slice q x.ev.length c::(zd x.po++(zd x.rf++zd x.co)),(zd x.ct++(zd x.rm++(seg 32 (fun i=>u8 (x.regs i))++(seg 6 (fun i=>u8 (x.mem i))++S)))),by simp only [Qs,QR,lap,ze],fun r=>by simp only [exC,KO,Ql,QW]⟩
theorem znp:∃ A Z,A.length=197/\∀ r,exC { x with ct:=r } q c++S=A++(zd r++Z) :=
 ⟨.slice q x.ev.length c::(zd x.po++(zd x.rf++(zd x.co++zd x.dt))),(zd x.rm++(seg 32 (fun i=>u8 (x.regs i))++(seg 6 (fun i=>u8 (x.mem i))++S))),by simp only [Qs,QR,lap,ze],fun r=>by simp only [exC,KO,Ql,QW]⟩
theorem znm:∃ A Z,A.length=246/\∀ r,exC { x with rm:=r } q c++S=A++(zd r++Z) :=
 ⟨.slice q x.ev.length c::(zd x.po++(zd x.rf++(zd x.co++(zd x.dt++zd x.ct)))),(seg 32 (fun i=>u8 (x.regs i))++(seg 6 (fun i=>u8 (x.mem i))++S)),by simp only [Qs,QR,lap,ze],fun r=>by simp only [exC,KO,Ql,QW]⟩
theorem zsF:∃ A Z,A.length=295/\∀ f,exC { x with regs:=f } q c++S=A++(seg 32 (fun i=>u8 (f i))++Z) :=
 ⟨.slice q x.ev.length c::(zd x.po++(zd x.rf++(zd x.co++(zd x.dt++(zd x.ct++zd x.rm))))),(seg 6 (fun i=>u8 (x.mem i))++S),by simp only [Qs,lap,ze],fun f=>by simp only [exC,KO,Ql,QW]⟩
theorem zqH:∃ A Z,A.length=327/\∀ f,exC { x with mem:=f } q c++S=A++(seg 6 (fun i=>u8 (f i))++Z) :=
 ⟨.slice q x.ev.length c::(zd x.po++(zd x.rf++(zd x.co++(zd x.dt++(zd x.ct++(zd x.rm++seg 32 (fun i=>u8 (x.regs i)))))))),S,by simp only [Qs,lap,ze,zM],fun f=>by simp only [exC,KO,Ql,QW]⟩
theorem ztC (l:List Ev) (q':OA) (c':Nat):(exC x q c++S).set 0 (.slice q' l.length c')=exC { x with ev:=l } q' c'++S:=by
 unfold exC;rw [Ql,List.set_cons_zero,Ql]
theorem zuE:(exC x q c++S)[0]?=some (.slice q x.ev.length c):=rfl
end
theorem zgR {x:ExD} {q:OA} {c:Nat} {S:List Value} {i:Nat} {v:Value} (h:S[i]?=some v):(exC x q c++S)[333+i]?=some v:=by
 rw [jd (zI _ _ _)];exact h
theorem zjr {x:ExD} {q:OA} {c:Nat} {S:List Value} {i:Nat} {v:Value}:(exC x q c++S).set (333+i) v=exC x q c++S.set i v:=jZ (zI _ _ _)
abbrev za1:=List Nat×OA×Nat
abbrev slV (x:za1):Value := .slice x.2.1 x.1.length x.2.2
def zet (l:List za1):List Value:=l.map slV
theorem zf1:∀ l:List za1,l.flatMap ja.enc=zet l
 | []=>rfl
 | a::l=>by
  show slV a::l.flatMap ja.enc=slV a::zet l;rw [zf1 l]
abbrev RowLH (Z:Wd) (g:Nat) (l:List za1):Prop:=Z.heap[g]?=some (.cells (zet l).toArray 128 (0,0))
theorem RowLH.sl {Z:Wd} {g:Nat} {l:List za1} (h:RowLH Z g l):SlR ja Z (some ⟨g,0,none⟩) l :=
 SlR.of_cells (hlt h) (by rw [zf1];exact za h)
theorem RowLH.own {Z:Wd} {g B:Nat} {l:List za1} (h:RowLH Z g l) (hB:B<=g) (hm:l.length<=maxLen):OwnS ja 128 B Z (some ⟨g,0,none⟩) l.length l:=by
 unfold OwnS World.ownsRow;have hz:(zet l).length=l.length:=by unfold zet;rw [QQ]
 refine⟨by rw [qP],.inr ⟨g,l.length,(zet l).toArray,rfl,hB,h,Ge _,hm,?_,?_⟩⟩
 ·show (zet l).length=l.length*1;rw [hz,Gf]
 ·show (zet l).take (l.length*1)=_;rw [zf1,JE (by rw [hz,Gf];exact Ge _)]
structure Rows (B:Nat) (Z:Wd) (W:List za1):Prop where
 own:∀ x∈W,OwnS zE 3 B Z x.2.1 x.2.2 x.1
 dis:∀ (i j:Nat) (x y:za1),W[i]?=some x->W[j]?=some y->i≠j->∀ a b,x.2.1=some a->y.2.1=some b->a.block≠b.block
theorem Rows.same {B:Nat} {Z Y:Wd} {W:List za1} (h:Rows B Z W) (hs:∀ x∈W,∀ a,x.2.1=some a->Y.heap[a.block]?=Z.heap[a.block]?):Rows B Y W :=
 ⟨fun x hx=>(h.own x hx).same (hs x hx),h.dis⟩
theorem Rows.nils (B:Nat) (Z:Wd) (n:Nat):Rows B Z (List.replicate n ([],none,0)):=by
 refine⟨fun x hx=>?_,fun i j x y hx hy _ a b ha _=>?_⟩
 ·rw [Js hx];exact OwnS.nil
 ·have:=JY hx;rw [Js this] at ha
  cases ha
theorem Rows.set {B:Nat} {Z Y:Wd} {W:List za1} {i:Nat} {x y:za1} (h:Rows B Z W) (hi:W[i]?=some x) (ho:OwnS zE 3 B Y y.2.1 y.2.2 y.1) (hg:Z.grownBy Y (x.2.1.map Addr.block)) (hat:∀ a,y.2.1=some a->x.2.1=some a\/Z.heap.size<=a.block):Rows B Y (W.set i y):=by
 obtain⟨hil,hxi⟩:=Jq.1 hi;have ne:∀ (j:Nat) (z:za1),W[j]?=some z->i≠j->∀ b,z.2.1=some b->Y.heap[b.block]?=Z.heap[b.block]?:=fun j z hj hne b hb=>by
  refine hg.block _ (zA (h.own z (JY hj)) hb).2.1 fun e=>?_
  cases hx1:x.2.1 with
  | none=>rw [hx1] at e;cases e
  | some a =>
   rw [hx1] at e;simp only [Uf,KZ] at e;exact h.dis i j x z hi hj hne a b hx1 hb e.symm
 have inv:∀ (j:Nat) (z:za1),(W.set i y)[j]?=some z->(i=j/\z=y)\/(i≠j/\W[j]?=some z):=fun j z hj=>by
  by_cases e:i=j
  ·subst e;rw [JC hil] at hj;exact .inl ⟨rfl,(Ug hj).symm⟩
  ·rw [JV e] at hj;exact .inr ⟨e,hj⟩
 refine⟨fun z hz=>?_,fun j k u v hu hv hjk a b ha hb=>?_⟩
 ·obtain⟨j,hj⟩:=List.mem_iff_getElem?.1 hz;rcases inv j z hj with ⟨_,rfl⟩ | ⟨hne,hj⟩
  ·exact ho
  ·exact (h.own z (JY hj)).same (ne j z hj hne)
 ·rcases inv j u hu with ⟨e1,rfl⟩ | ⟨n1,hu'⟩ <;> rcases inv k v hv with ⟨e2,rfl⟩ | ⟨n2,hv'⟩
  ·omega
  ·rcases hat a ha with h1 | h1
   ·exact h.dis i k x v hi hv' n2 a b h1 hb
   ·have:=(zA (h.own v (JY hv')) hb).2.1;omega
  ·rcases hat b hb with h1 | h1
   ·exact h.dis j i u x hu' hi (fun e=>n1 e.symm) a b ha h1
   ·have:=(zA (h.own u (JY hu')) ha).2.1;omega
  ·exact h.dis j k u v hu' hv' hjk a b ha hb
end Go.Proofs.YtnadlhpkpnfmbaaGreatDoor
namespace Go.Vc
open Go.RowKit
def DrawA (S:Sig) (ops:Array Oper) (E:Env) (w:Wd) (K:Env->Wd->Prop) (QP:List PanicEntry->Wd->Prop):Prop :=
 ∃ (X:List Nat) (T:OT),(zk9 (zdh S.τ X ops) ops ops.size (Array.replicate ops.size false) T&&ops.all (fun o=>jB o.op))=true/\zhg S ops.toList X QP T E w.drew K
def zhP (ops:Array Oper) (D:Nat->Bool) (i:Nat):Bool:=match ops[i]? with
 | some o=>o.after.toList.all fun e => !Region.binds .any e||D e.on
 | none=>true
def ztq (ops:Array Oper):Bool:=(List.range ops.size).all fun i=>match ops[i]? with
 | some o=>o.after.toList.all fun e => !Region.binds .any e||Nat.blt e.on i
 | none=>true
def zb1 (S:Sig) (ops:Array Oper) (i:Nat) (E:Env) (w:Wd) (K:Env->Wd->Prop):Prop:=match zgo ops.toList i with
 | some o=>zaI S ops.toList false i o E w K (fun _ _ _=>False)
 | none=>True
def ztL (S:Sig) (ops:Array Oper) (E:Env) (w:Wd) (K:Env->Wd->Prop):Prop :=
 (ops.all (fun o=>jB o.op)&&ztq ops)=true/\∃ J:(Nat->Bool)->Env->Wd->Prop,J (fun _=>false) E w.drew /\
  (∀ (D:Nat->Bool) (E:Env) (w:Wd) (i:Nat),J D E w->D i=false->zhP ops D i=true->zb1 S ops i E w fun E' w'=>J (fun j=>Nat.beq j i||D j) E' w') /\
  (∀ (D:Nat->Bool) (E:Env) (w:Wd),(∀ i,i<ops.size->D i=true)->J D E w->K E w)
inductive Mn where
 | m (m:Mk)
 | s (a b:Mn)
 | c (a b:Mn)
 | d (a b:Mn)
 | t
 | i
noncomputable def wpN (S:Sig) (m:Mn):Code->Env->Wd->(Exit->Env->Wd->Prop)->Prop :=
 Mn.rec (motive:=fun _=>Code->Env->Wd->(Exit->Env->Wd->Prop)->Prop)
  (fun m c E w Q=>wpM S m c E w Q)
  (fun _ _ ia ib c E w Q=>match c with
   | .seq x y=>ia x E w fun ex E' w'=>match ex with
    | .normal=>ib y E' w' Q
    | ex=>Q ex E' w'
   | _=>False)
  (fun _ _ ia ib c E w Q=>match c with
   | .seq x y=>ztm (fun Q=>ia x E w Q) (fun E w Q=>ib y E w Q) Q
   | _=>False)
  (fun _ _ ia ib c E w Q=>match c with
   | .cond c x y=>(match opd E c with
    | some (.bool v)=>Br v (ia x E w Q) (ib y E w Q)
    | _=>False)
   | _=>False)
  (fun c E w Q=>match c with
   | .region _ ops true=>DrawA S ops E w (fun E w=>Q .normal E w) (fun ch w=>Q (.panic ch) ⟨[],E.ds⟩ w)
   | _=>False)
  (fun c E w Q=>match c with
   | .region _ ops true=>ztL S ops E w (fun E w=>Q .normal E w)
   | _=>False)
  m
section
variable {S:Sig}
theorem zqg {ops:Array Oper} {L:Array Bool} (h:((List.range ops.size).filter fun i => !L.getD i false).length<=0):∀ i,i<ops.size->L.getD i false=true:=fun i hi=>by
 have h0:=Jf (Nat.le_zero.1 h);have:=JB.1 h0 i (Ur.2 hi);simpa using this
theorem zqf {ops:Array Oper} {L:Array Bool} {i m:Nat} (hi:i<ops.size) (hs:L.size=ops.size) (hl:L.getD i false=false) (h:((List.range ops.size).filter fun i => !L.getD i false).length<=m+1) :
  ((List.range ops.size).filter fun j => !(L.setIfInBounds i true).getD j false).length<=m:=by
 have e:(List.range ops.size).filter (fun j => !(L.setIfInBounds i true).getD j false)=((List.range ops.size).filter fun j => !L.getD j false).filter fun j=>decide (j≠i):=by
  rw [List.filter_filter];refine KR fun j hj=>?_;by_cases hji:j=i
  ·subst hji;simp [hs,hi]
  ·rw [zd4 hji];simp [hji]
 rw [e];have hm:i∈(List.range ops.size).filter fun j => !L.getD j false:=QV.2 ⟨Ur.2 hi,by rw [hl];rfl⟩;have:=List.length_filter_lt_length_iff_exists.2 (⟨i,hm,by simp⟩:∃ x,x∈((List.range ops.size).filter fun j => !L.getD j false)/\¬ (fun j=>decide (j≠i)) x=true);omega
theorem zh0 (hS:SigOk S) {ops:Array Oper} (hsel:∀ o∈ops,jB o.op=true) (htop:ztq ops=true) {Q:Exit->Env->Wd->Prop} {J:(Nat->Bool)->Env->Wd->Prop}
  (hstep:∀ (D:Nat->Bool) (E:Env) (w:Wd) (i:Nat),J D E w->D i=false->zhP ops D i=true->zb1 S ops i E w fun E' w'=>J (fun j=>Nat.beq j i||D j) E' w')
  (hend:∀ (D:Nat->Bool) (E:Env) (w:Wd),(∀ i,i<ops.size->D i=true)->J D E w->Q .normal E w) :
  ∀ (m:Nat) (L:Array Bool) (a:Act) (E:Env) (w:Wd),L.size=ops.size->((List.range ops.size).filter fun i => !L.getD i false).length<=m->Agrees S a E->J (fun i=>L.getD i false) E w->wpAnyIn (FR S.r) NN S.P .any ops (zfw S Q) m L a w
 | 0,L,a,E,w,hs,hm,ha,hJ=>by
  have hall:=zqg hm;refine⟨?_,⟨E,ha,hend _ E w hall hJ⟩⟩;rw [Je];intro i hi;obtain⟨hl,o,ho,_⟩:=mem_ready.1 hi;have hlt:=(Jk.1 ho).1;have:=hall i hlt;have hls:i<L.size:=by omega
  simp [hls] at hl this;rw [this] at hl;cases hl
 | m+1,L,a,E,w,hs,hm,ha,hJ=>by
  refine⟨fun h0=>?_,fun i hi=>?_⟩
  ·have hall:∀ i,i<ops.size->L.getD i false=true:=by
    intro i
    induction i using Nat.strongRecOn with
    | ind i ih =>
     intro hlt
     cases hl:L.getD i false with
     | true=>rfl
     | false =>
      exfalso
      have hls:i<L.size:=(by omega);have:i∈Region.ready .any ops L:=mem_ready.2 ⟨by simp [hls] at hl ⊢;exact hl,ops[i],Jm hlt,fun e he hb=>by
       have ht:=Qj.1 htop i (Ur.2 hlt);rw [Jm hlt] at ht;have ht:=Qj.1 ht e (by simpa using he);rw [hb] at ht;have hlt2:e.on<i:=Nat.blt_eq.mp (by simpa using ht);exact ih e.on hlt2 (by omega)⟩
      rw [h0] at this
      cases this
   exact⟨E,ha,hend _ E w hall hJ⟩
  ·obtain⟨hl,o,ho,hall⟩:=mem_ready.1 hi;have hlt:=(Jk.1 ho).1;have hls:i<L.size:=by omega
   have hl0:L.getD i false=false:=by simp [hls] at hl ⊢;exact hl
   have hd:zhP ops (fun i=>L.getD i false) i=true:=by
    unfold zhP;rw [ho];refine Qj.2 fun e he=>?_;have:=hall e (by simpa using he)
    cases hb:Region.binds .any e with
    | false=>rfl
    | true=>simp [this hb]
   have hst:=hstep _ E w i hJ hl0 hd;unfold zb1 at hst;rw [zdS,show ops.toList[i]?=some o by simpa using ho] at hst;refine zim hS ho (hsel o (JI ho)) hst ha (fun E' a' w' ha' hk=>zh0 hS hsel htop hstep hend m (L.setIfInBounds i true) a' E' w' (by simpa using hs) (zqf hlt hs hl0 hm) ha' ?_) (fun _ _ h=>h.elim);have e:(fun j=>(L.setIfInBounds i true).getD j false)=fun j=>Nat.beq j i||L.getD j false:=by
    funext j;by_cases hji:j=i
    ·subst hji;rw [show Nat.beq j j=true from US j,Bool.true_or];simp [hls]
    ·rw [zd4 hji,show Nat.beq j i=false from Bool.eq_false_iff.2 fun e=>hji (JR e),Ux]
   rw [e];exact hk
theorem znR (hS:SigOk S):∀ (m:Mn) (c:Code) (E:Env) (a:Act) (w:Wd) (Q:Exit->Env->Wd->Prop),Agrees S a E->wpN S m c E w Q->c.wpIn (FR S.r) NN S.P (zfw S Q) a w:=by
 intro m
 induction m with
 | m m=>intro c E a w Q ha h;exact j9 hS m c E a w Q ha h
 | s p q ihp ihq =>
  intro c E a w Q ha h
  cases c with
  | seq x y =>
   replace h:(wpN S p x E w fun ex E' w'=>match ex with | .normal=>wpN S q y E' w' Q | ex=>Q ex E' w'):=h;refine wpIn_seq (Gq (ihp x E a w _ ha h) ?_);rintro ex a' w' ⟨E',ha',hq⟩
   cases ex with
   | normal=>exact ihq y E' a' w' Q ha' hq
   | _=>exact⟨E',ha',hq⟩
  | _=>exact h.elim
 | c p q ihp ihq =>
  intro c E a w Q ha h
  cases c with
  | seq x y =>
   replace h:ztm (fun Q=>wpN S p x E w Q) (fun E w Q=>wpN S q y E w Q) Q:=h;obtain⟨σ,env,inv,h1,h2⟩:=h;refine wpIn_seq (Gq (ihp x E a w _ ha h1) ?_);rintro ex a' w' ⟨E',ha',hq⟩
   cases ex with
   | normal =>
    obtain⟨s,hc,hi⟩:=hq;exact ihq y (env s) a' w' Q (ha'.cov hc) (h2 s w' hi)
   | _=>exact⟨E',ha',hq⟩
  | _=>exact h.elim
 | d p q ihp ihq =>
  intro c E a w Q ha h
  cases c with
  | cond c x y =>
   replace h:(match opd E c with | some (.bool v)=>Br v (wpN S p x E w Q) (wpN S q y E w Q) | _=>False):=h
   split at h
   ·rename_i b hb;refine wpIn_cond_split (ha.eval hb) (fun e=>ihp x E a w Q ha (h.1 e)) (fun e=>ihq y E a w Q ha (h.2 e))
   ·exact h.elim
  | _=>exact h.elim
 | t =>
  intro c E a w Q ha h
  cases c with
  | region id ops draw =>
   cases draw with
   | false=>exact h.elim
   | true =>
    replace h:DrawA S ops E w (fun E w=>Q .normal E w) (fun ch w=>Q (.panic ch) ⟨[],E.ds⟩ w):=h;obtain⟨X,T,hT,h⟩:=h;refine wpIn_region_any hS.mixed ?_;have hI:∀ (b:Act) (dst:Option Tmp) (v:Value),(b.tmps.size=S.n/\b.defers=E.ds)->((b.put dst v).tmps.size=S.n/\(b.put dst v).defers=E.ds):=fun b dst v hb=>by
     cases dst with
     | none=>exact hb
     | some d=>exact⟨by simp [Act.put,hb.1],hb.2⟩
    have hQ:∀ ch (b:Act) w,(b.tmps.size=S.n/\b.defers=E.ds)->Q (.panic ch) ⟨[],E.ds⟩ w->zfw S Q (.panic ch) b w:=fun ch b w hb hq=>⟨⟨[],E.ds⟩,⟨hb.1,hb.2,fun t v hv=>by simp [Env.find,VEnv.find] at hv⟩,hq⟩;have hia:a.tmps.size=S.n/\a.defers=E.ds:=⟨ha.size,ha.defers⟩;simp only [bAT,Jc] at hT;exact zdr (Q:=zfw S Q) hI hQ hT.2 (fun k i h=>zcz h) ops.size _ T a w.drew hT.1 hia (zbj (n:=NN) hS hT.2 T E a w.drew ha h)
  | _=>exact h.elim
 | i =>
  intro c E a w Q ha h
  cases c with
  | region id ops draw =>
   cases draw with
   | false=>exact h.elim
   | true =>
    replace h:ztL S ops E w (fun E w=>Q .normal E w):=h;obtain⟨hb,J,h0,hstep,hend⟩:=h;simp only [bAT,Jc] at hb;refine wpIn_region_any hS.mixed (zh0 hS hb.1 hb.2 hstep hend ops.size _ a E _ (by simp) ?_ ha ?_)
    ·exact UU (JL _ _) (by simp)
    ·have e:(fun i=>(Array.replicate ops.size false).getD i false)=fun _=>false:=by
      funext i;by_cases hi:i<ops.size <;> simp [hi]
     rw [e];exact h0
  | _=>exact h.elim
theorem zmC (hS:SigOk S) {f:FuncId} {fn:Func} {c:Code} {args:List Value} {w:Wd} {R:Ending->Wd->Prop} (m:Mn)
  (hf:S.P.funcs[f]?=some fn) (hb:fn.body=some c) (hn:fn.ntmps=S.n) (hle:args.length<=S.n) (hr:S.r=none)
  (h:wpN S m c ⟨zdA 0 args,[]⟩ w (zko S fn R)):Calls S.P f args.toArray w R:=by
 rw [<- callsIn_wide (n:=NN)];have hF:FR none=Fence.wide:=rfl;rw [<- hF];refine Ko hf hb trivial ?_;have ha:Agrees S { tmps:=args.toArray++Array.replicate (fn.ntmps-args.toArray.size) undef,defers:=[] } ⟨zdA 0 args,[]⟩:=by
  refine⟨?_,rfl,fun t v hv=>?_⟩
  ·simp [hn];omega
  ·obtain⟨_,h2⟩:=zdq _ _ _ _ hv;simp only [UX] at h2;have hlt:t<args.length:=(Jq.1 h2).1;simp only [JH,KX,hlt,Gx];simpa using h2
 have h1:=znR hS m c _ _ w _ ha h;rw [hr] at h1;refine Gq h1 ?_;rintro ex a' w' ⟨E',ha',hq⟩
 cases ex with
 | normal=>have:=j0 hS ha' _ _ hq;rw [<- ha'.defers] at this;exact this
 | ret=>have:=j0 hS ha' _ _ hq;rw [<- ha'.defers] at this;exact this
 | panic ch =>
  obtain⟨hd,hR⟩:=hq;show LeavesInM _ _ _ _ _ _ a'.defers _ _;rw [ha'.defers,hd];exact hR
 | exit _=>exact hq.elim
 | goto _=>exact hq.elim
 | outgrown=>exact hq.elim
def zk8 (rec_:Array Bool->OT->Bool) (ind:Nat->Nat->Bool) (ops:Array Oper) (listed:Array Bool) (T:OT):Bool :=
 !(Region.ready .any ops listed).isEmpty&&(Region.ready .any ops listed).all fun i =>
   (OT.firsts ind i T).any fun T'=>rec_ (listed.setIfInBounds i true) T'
def zgF (ind:Nat->Nat->Bool) (ops:Array Oper):Nat->Array Bool->OT->Bool
 | 0,listed,T=>(Region.ready .any ops listed).isEmpty&&(match T with | .nil=>true | _=>false)
 | m+1,listed,.op k T'=>(match (Region.ready .any ops listed).contains k&&zfB ind ops k listed with
  | true=>zgF ind ops m (listed.setIfInBounds k true) T'
  | false=>zk8 (zgF ind ops m) ind ops listed (.op k T'))
 | m+1,listed,.nil=>zk8 (zgF ind ops m) ind ops listed .nil
 | m+1,listed,.alt x y=>zk8 (zgF ind ops m) ind ops listed (.alt x y)
section
variable {ind:Nat->Nat->Bool} {ops:Array Oper}
theorem zbn {rec_:Array Bool->OT->Bool} {L:Array Bool} {T:OT} (h:zk8 rec_ ind ops L T=true):(Region.ready .any ops L).isEmpty=false/\∀ i∈Region.ready .any ops L,∃ T',T'∈OT.firsts ind i T/\rec_ (L.setIfInBounds i true) T'=true:=by
 simp only [zk8,bAT,KJ,Qj,Qk] at h;exact⟨h.1,fun i hi=>h.2 i hi⟩
theorem zoO:∀ (m:Nat) (L:Array Bool) (T:OT),zeY ops L->zgF ind ops (m+1) L T=true ->
  (Region.ready .any ops L).isEmpty=false/\∀ i∈Region.ready .any ops L,∃ T',T'∈OT.firsts ind i T/\zgF ind ops m (L.setIfInBounds i true) T'=true:=by
 intro m
 induction m with
 | zero =>
  intro L T hc h
  cases T with
  | nil=>exact zbn h
  | alt x y=>exact zbn h
  | op k T' =>
   simp only [zgF] at h
   split at h
   ·rename_i hf;simp only [bAT,JU,dE] at hf;refine⟨Jr.2 (KB hf.1),fun i hi=>?_⟩;by_cases e:i=k
    ·subst e;exact⟨T',by simp [OT.firsts],h⟩
    ·have:=zbi hi e;simp only [bAT,Qr] at h;rw [h.1] at this;cases this
   ·exact zbn h
 | succ m ih =>
  intro L T hc h
  cases T with
  | nil=>exact zbn h
  | alt x y=>exact zbn h
  | op k T' =>
   unfold zgF at h
   split at h
   ·rename_i hf;simp only [bAT,JU,dE] at hf;refine⟨Jr.2 (KB hf.1),fun i hi=>?_⟩;by_cases e:i=k
    ·subst e;exact⟨T',by simp [OT.firsts],h⟩
    ·obtain⟨T'',h1,h2⟩:=(ih _ T' (zdn hc hf.1) h).2 i (zbi hi e);refine⟨.op k T'',?_,?_⟩
     ·have:¬ k=i:=fun e2=>e e2.symm;rw [OT.firsts,Gy this,Gz (zkZ hc hf.2 hf.1 hi e)];exact Kk h1
     ·have hk2:k∈Region.ready .any ops (L.setIfInBounds i true):=zbi hf.1 (fun e2=>e e2.symm);have hb:((Region.ready .any ops (L.setIfInBounds i true)).contains k&&zfB ind ops k (L.setIfInBounds i true))=true:=by
       simp only [bAT,JU,dE];exact⟨hk2,zhG hf.2⟩
      unfold zgF;rw [hb];rw [zj5];exact h2
   ·exact zbn h
theorem zgd:∀ (m:Nat) (L:Array Bool) (T:OT),zeY ops L->zgF ind ops m L T=true->zk9 ind ops m L T=true
 | 0,L,T,_,h=>h
 | m+1,L,T,hc,h=>by
  obtain⟨h1,h2⟩:=zoO m L T hc h;simp only [zk9,bAT,KJ,Qj,Qk];refine⟨h1,fun i hi=>?_⟩;obtain⟨T',h3,h4⟩:=h2 i hi;exact⟨T',h3,zgd m _ T' (zdn hc hi) h4⟩
end
theorem DrawA.treeR {S:Sig} {ops:Array Oper} {E:Env} {w:Wd} {K:Env->Wd->Prop} {QP:List PanicEntry->Wd->Prop} (X:List Nat) (T:OT)
  (h:(zgF (zdh S.τ X ops) ops ops.size (Array.replicate ops.size false) T&&ops.all (fun o=>jB o.op))=true) (k:zhg S ops.toList X QP T E w.drew K):DrawA S ops E w K QP :=
 ⟨X,T,by
  simp only [bAT] at h ⊢;refine⟨zgd _ _ _ (fun j o hj=>?_) h.1,h.2⟩;by_cases hl:j<ops.size <;> simp [hl] at hj,k⟩
theorem DrawE.treeR {S:Sig} {ops:Array Oper} {E:Env} {w:Wd} {K:Env->Wd->Prop} {QP:List PanicEntry->Wd->Prop} (X:List Nat) (T:OT)
  (h:(zgF (zdh S.τ X ops) ops ops.size (Array.replicate ops.size false) T&&ops.all (fun o=>jB o.op))=true) (k:zhg S ops.toList X QP T E w.drew K):DrawE S ops E w K QP :=
 .inr (.inr ⟨X,T,by
  simp only [bAT] at h ⊢;refine⟨zgd _ _ _ (fun j o hj=>?_) h.1,h.2⟩;by_cases hl:j<ops.size <;> simp [hl] at hj,k⟩)
end
end Go.Vc
namespace Go.Proofs.YtnadlhpkpnfmbaaGreatDoor
open Go.Vc Go.RowKit Go.Sei
abbrev zbo (X:Wd) (b:Nat) (x:ExD) (q:OA) (c:Nat) (S:List Value):Prop:=X.heap[b]?=some (.cells (exC x q c++S).toArray 172 (0,0))
abbrev z7:Value := .slice none 0 0
theorem zde {X:Wd} {b:Nat} {x:ExD} {q:OA} {c:Nat} {S:List Value} (h:zbo X b x q c S):X.cell? ⟨b,0+0,none⟩=some (.slice q x.ev.length c):=zc (za h) (zuE x q c S)
theorem zau {X:Wd} {b:Nat} {x:ExD} {q:OA} {c:Nat} {S:List Value} (h:zbo X b x q c S) {i:Nat} {v:Value} (hi:S[i]?=some v):X.cell? ⟨b,333+i,none⟩=some v:=by
 have:=zc (za h) (zgR (x:=x) (q:=q) (c:=c) hi);rw [UY] at this;exact this
theorem zqL {w Z:Wd} {q:OA} {ev:List Ev} {b:Nat} (hl:SlR evE w q ev) (hqb:∀ a,q=some a->a.block≠b) (g:w.grownBy Z (some b)):SlR evE Z q ev:=by
 rcases hl with h | ⟨b',o,h1,h2,h3⟩
 ·exact .inl h
 ·have:=hqb _ h1;exact .inr ⟨b',o,h1,nL h2 g.size,fun i hi=>zQ (g.block b' h2 (by simpa using this)) (h3 i hi)⟩
theorem zaP (p:OA) (n c:Nat):(Value.slice p n c).ownBlock=p.map Addr.block:=by cases p <;> rfl
theorem zhe {α:Type} {E:Enc α} {T B cap:Nat} {w:Wd} {p:OA} {l:List α} (h:OwnS E T B w p cap l) {k T':Nat} {cur:Array Value} {fr:Nat×Nat} (hk:w.heap[k]?=some (.cells cur T' fr)) (hT:T'≠T):some k≠p.map Addr.block:=fun e=>by
 cases hp:p with
 | none=>rw [hp] at e;cases e
 | some a =>
  rw [hp] at e;simp only [Uf,KZ] at e;obtain⟨_,_,cur',h'⟩:=zA h hp;rw [<- e,hk] at h';simp at h';exact hT h'.2.1
theorem SatR.mono {α:Type} {r:Result α} {K K':α->Wd->Prop} (h:SatR r K) (k:∀ v w,K v w->K' v w):SatR r K':=by
 obtain⟨v,w',e,h⟩:=h;exact⟨v,w',e,k v w' h⟩
section
variable {α β:Type} {E:Enc α} {E':Enc β} {T T' B B' c c':Nat} {A C:Wd} {p q:OA} {l:List α} {l':List β}
theorem zdQ (h:OwnS E T B A q c l) (g:A.grownBy C (p.map Addr.block)) (hne:∀ a b',p=some a->q=some b'->a.block≠b'.block):OwnS E T B C q c l :=
 h.same fun b' hb'=>g.block _ (zA h hb').2.1 fun e=>by
  cases hp:p with
  | none=>rw [hp] at e;cases e
  | some a =>
   rw [hp] at e;simp only [Uf,KZ] at e;exact hne a b' hp hb' e.symm
theorem zat (h:OwnS E T B A q c l) (hp:OwnS E' T' B' A p c' l') (hT:T≠T') (g:A.grownBy C (p.map Addr.block)):OwnS E T B C q c l :=
 zdQ h g fun a b' ha hb e=>by
  obtain⟨_,_,c1,h1⟩:=zA h hb;obtain⟨_,_,c2,h2⟩:=zA hp ha;rw [e,h1] at h2;simp at h2;exact hT h2.2
theorem qq {b:Nat} {cur:Array Value} {fr:Nat×Nat} (h:OwnS E T B A q c l) (hb:A.heap[b]?=some (.cells cur T' fr)) (hT:T≠T') (g:A.grownBy C (some b)):OwnS E T B C q c l :=
 h.same fun b' hb'=>g.block _ (zA h hb').2.1 fun e=>by
  obtain⟨_,_,c1,h1⟩:=zA h hb';simp only [KZ] at e;rw [e,hb] at h1;simp at h1;exact hT h1.2.1.symm
theorem qp {b:Nat} {cur:Array Value} {fr:Nat×Nat} (hb:A.heap[b]?=some (.cells cur T' fr)) (h:OwnS E T B A q c l) (hT:T'≠T) (g:A.grownBy C (q.map Addr.block)):C.heap[b]?=some (.cells cur T' fr) :=
 (g.block b (hlt hb) (zhe h hb hT)).trans hb
theorem q5 {n:Nat} (hp:OwnS E T B A p c l) (hn:n<=A.heap.size) (hB:n<=B) (g:A.grownBy C (p.map Addr.block)):Below n A C:=by
 refine⟨g.os,g.tape,g.output,g.size,fun j hj=>g.block j (by omega) fun e=>?_⟩
 cases h:p with
 | none=>rw [h] at e;cases e
 | some a =>
  rw [h] at e;simp only [Uf,KZ] at e;have:=(zA hp h).1;omega
end
theorem zo2 {B c k:Nat} {V1:Wd} {p:OA} {l:List Nat} {a:Addr} (ho:OwnS zE 3 B V1 p c l) (ha:zw V1 a ([k].flatMap zE.enc)) (hB:B<=V1.heap.size) (hl:l.length<=100000) {K:Value->Wd->Prop}
  (h:∀ p' c' w',OwnS zE 3 B w' p' c' (l++[k])->V1.grownBy w' (Value.slice p l.length c).ownBlock->(∀ a,p'=some a->p=some a\/a.block=V1.heap.size)->K (.slice p' (l++[k]).length c') w') :
  SatR ((Builtin.append_ #[128,128] 128 #[.slice p l.length c,.slice (some a) 1 1]).run PG V1) K :=
 jr (E:=zE) (T:=3) (B:=B) (l:=l) (news:=[k]) (cap:=c) (m:=1) Tryz.underlying128 k3 rfl rfl rfl ho rfl ha hB (by omega) (by show (l.length+1)*8<=_;omega) fun p' c' w' a1 a2 _ a4=>h p' c' w' a1 a2 a4
theorem zxA {B c:Nat} {V1:Wd} {p:OA} {l:List za1} {y:za1} {a:Addr} (ho:OwnS ja 128 B V1 p c l) (ha:zw V1 a ([y].flatMap ja.enc)) (hB:B<=V1.heap.size) (hl:l.length<=100000) {K:Value->Wd->Prop}
  (h:∀ p' c' w',OwnS ja 128 B w' p' c' (l++[y])->V1.grownBy w' (Value.slice p l.length c).ownBlock->(∀ a,p'=some a->p=some a\/a.block=V1.heap.size)->K (.slice p' (l++[y]).length c') w') :
  SatR ((Builtin.append_ #[170,170] 170 #[.slice p l.length c,.slice (some a) 1 1]).run PG V1) K :=
 jr (E:=ja) (T:=128) (B:=B) (l:=l) (news:=[y]) (cap:=c) (m:=1) Tryz.underlying170 zqj rfl rfl rfl ho rfl ha hB (by omega) (by show (l.length+1)*24<=_;omega) fun p' c' w' a1 a2 _ a4=>h p' c' w' a1 a2 a4
section
variable {b:Nat} {x:ExD} {q:OA} {c locs:Nat} {w:Wd}
theorem zoT (hm:zbo w b x q c [z7,z7,z7]) (hl:SlR evE w q x.ev) (hqb:∀ a,q=some a->a.block≠b) (hn:x.ev.length<=48) (hlo:locs<=100) (hv:∀ e∈x.ev,e.k=1\/e.k=2->e.l.toNat<locs) :
  Calls PG 202 #[At0 b,i64 locs] w fun e w'=>e = .returned (.tuple #[])/\(∃ (p1 p2 p3:OA) (c1 c2 c3:Nat) (xs ys:List za1),
   zbo w' b x q c [.slice p1 (zax x locs).rs.length c1,.slice p2 xs.length c2,.slice p3 ys.length c3]/\OwnS zE 3 w.heap.size w' p1 c1 ((zax x locs).rs.map (·.1))/\xs.map (·.1)=(zax x locs).rs.map (·.2)/\OwnS ja 128 w.heap.size w' p2 c2 xs/\(∀ y∈xs,OwnS zE 3 w.heap.size w' y.2.1 y.2.2 y.1) /\
   ys.map (·.1)=(zax x locs).wr/\OwnS ja 128 w.heap.size w' p3 c3 ys/\∀ y∈ys,OwnS zE 3 w.heap.size w' y.2.1 y.2.2 y.1)/\w.grownBy w' (some b):=by
 refine qa 114 [At0 b,i64 locs] (.c .p (.c .p .p)) Tryz.func202 ?_;obtain⟨B,hB⟩:=nm (w.heap.size);have hbw:=hlt hm;obtain⟨W0,hW0⟩:∃ W0:List za1,W0=List.replicate locs ([],none,0):=⟨_,rfl⟩;have hW0l:W0.length=locs:=by rw [hW0,JM]
 refine⟨Unit,fun _=>⟨[(0,At0 b)],[]⟩,fun _ X=>zbo X b x q c [z7,z7,.slice (some ⟨B,0,none⟩) locs locs]/\RowLH X B W0/\w.grownBy X (some b)/\B<X.heap.size,?_,?_⟩
 ·refine ziK Tryz.underlying170 zqj rfl rfl (by decide) locs (by show 24*_<=_;omega) (by omega) fun X fX hbX sX=>?_;have ez:∀ n,zcE [Value.slice none 0 0] n=zet (List.replicate n ([],none,0)):=fun n=>by
   induction n with
   | zero=>rfl
   | succ n ih =>
    show Value.slice none 0 0::zcE [Value.slice none 0 0] n=slV ([],none,0)::zet (List.replicate n ([],none,0));rw [<- ih];rfl
  have fX:X.heap[w.heap.size]?=some (.cells (zcE [Value.slice none 0 0] locs).toArray 128 (0,0)):=fX;rw [ez,<- hW0,<- hB] at fX;have hmX:=(hbX.block b hbw).trans hm;refine zy zoC hmX (o:=0+335) (v := .slice (some ⟨w.heap.size,0,none⟩) locs locs) rfl rfl (by rw [lap,zI];decide) rfl fun Y fY gY sY=>?_;rw [show 0+335=333+2 from rfl,zjr] at fY;exact⟨(),(cvE rfl rfl),by rw [hB];exact fY,(gY.block B (hlt fX) (by simp;omega)).trans fX,zh (zi hbX) gY,by rw [sY,sX,hB];omega⟩
 rintro _ X ⟨hmX,fX,gX,sX⟩;refine⟨List za1,fun W=>⟨[(0,At0 b)],[]⟩,fun W Z=>zbo Z b x q c [z7,z7,.slice (some ⟨B,0,none⟩) locs locs]/\RowLH Z B W/\w.grownBy Z (some b)/\W.length=locs/\W.map (·.1)=(zax x locs).wr/\Rows B Z W/\∀ y∈W,y.1.length<=48/\∀ a∈y.1,a<x.ev.length,?_,?_⟩
 ·refine⟨_,zde hmX,?_⟩;refine⟨Nat×List za1,fun s=>⟨[(0,At0 b),(20,.slice q x.ev.length c),(21,i64 x.ev.length),(22,i64 (s.1:Nat))],[]⟩,
   fun s Z=>s.1<=x.ev.length/\zbo Z b x q c [z7,z7,.slice (some ⟨B,0,none⟩) locs locs]/\RowLH Z B s.2/\w.grownBy Z (some b)/\s.2.length=locs/\znQ s.1 (x.ev.drop s.1) (s.2.map (·.1))=(zax x locs).wr/\Rows B Z s.2/\(∀ y∈s.2,y.1.length<=s.1/\∀ a∈y.1,a<x.ev.length),fun s=>x.ev.length-s.1,(0,W0),
   (cvE rfl rfl),⟨Gg _,hmX,fX,gX,hW0l,by rw [hW0,List.map_replicate];rfl,by rw [hW0];exact Rows.nils _ _ _,fun y hy=>by rw [hW0] at hy;rw [Js hy];exact⟨Gg _,fun a ha=>by cases ha⟩⟩,?_⟩
  clear hmX fX gX sX;rintro⟨k,W⟩ Z ⟨hk,hmZ,fZ,gZ,hWl,hacc,hR,hL⟩;dsimp only at hk fZ hWl hacc hR hL ⊢;refine biE (fun hc=>?_) fun hc=>?_
  ·have hc:(k:Int)<(x.ev.length:Int):=dT hc;have hkl:k<x.ev.length:=by omega
   obtain⟨e,he⟩:∃ e,x.ev[k]=e:=⟨_,rfl⟩;have hem:e∈x.ev:=by rw [<- he];exact gM hkl
   rw [<- JD hkl,he] at hacc;have hacc:znQ (k+1) (x.ev.drop (k+1)) (if e.k=2 then (W.map (·.1)).set e.l.toNat ((W.map (·.1)).getD e.l.toNat []++[k]) else W.map (·.1))=(zax x locs).wr:=hacc;have hlZ:=zqL hl hqb gZ;obtain⟨bp,op,hqe,hlp,hat⟩:=hlZ.at hkl;subst hqe;refine⟨k,rfl,hkl,evE.enc e,rfl,by rw [<- he];exact hat k hkl,hlp,?_⟩;refine zn (X:=Z) (v := .agg (evE.enc e).toArray) zd3 rfl rfl (Qj.2 fun u hu=>evE.one e u hu) fun Y hbY fY sY=>?_;have gY:=zh gZ (zi (row:=some b) hbY);have hmY:=zb hbY hmZ;have fBY:=zb hbY fZ;have hRY:Rows B Y W:=hR.same fun y hy a ha=>hbY.block _ (zA (hR.own y hy) ha).2.1;have fY:Y.heap[Z.heap.size]?=some (.cells (evE.enc e).toArray 158 (0,0)):=fY;refine⟨u8 e.k,zc (za fY) (i:=1) rfl,biE (fun h=>?_) fun h=>?_⟩
   ·have h:e.k=2:=qG.1 (dT h);rw [Gz h] at hacc;have hll:=hv e hem (.inr h);obtain⟨l,hle⟩:∃ l,e.l.toNat=l:=⟨_,rfl⟩;rw [hle] at hacc hll;have hlW:l<W.length:=(by omega);obtain⟨y,hy⟩:∃ y,W[l]?=some y:=⟨_,gE hlW⟩;have hym:y∈W:=JY hy;have hgd:(W.map (·.1)).getD l []=y.1:=(by rw [gDe,KU,hy];rfl);rw [hgd] at hacc;have hyo:=hRY.own y hym;have hylen:=(hL y hym).1;have hrl:(zet W)[l]?=some (slV y):=(by unfold zet;rw [KU,hy];rfl);have hd:Bw Y Y.drew:=(Gj _ Y).drew;have hba:Below Y.drew.heap.size Y.drew (Y.drew.alloc (.cells (zE.enc k).toArray 3)):=zba _ _;have sa:(Y.drew.alloc (.cells (zE.enc k).toArray 3)).heap.size=Y.heap.size+1:=wz _ _;have nB:=zhe hyo fBY (by decide);have nb:=zhe hyo hmY (by decide);have fin:∀ p2 c2 V,OwnS zE 3 B V p2 c2 (y.1++[k])->(Y.drew.alloc (.cells (zE.enc k).toArray 3)).grownBy V (Value.slice y.2.1 y.1.length y.2.2).ownBlock->(∀ a,p2=some a->y.2.1=some a\/a.block=(Y.drew.alloc (.cells (zE.enc k).toArray 3)).heap.size) ->
      (zbo V b x (some ⟨bp,op,none⟩) c [z7,z7,.slice (some ⟨B,0,none⟩) locs locs]/\V.heap[Z.heap.size]?=some (.cells (evE.enc e).toArray 158 (0,0))) /\
      SatR ((storeVar 128 ⟨B,0+l*1,none⟩ (slV (y.1++[k],p2,c2))).run PG V) fun _ S=>zbo S b x (some ⟨bp,op,none⟩) c [z7,z7,.slice (some ⟨B,0,none⟩) locs locs]/\RowLH S B (W.set l (y.1++[k],p2,c2))/\w.grownBy S (some b)/\(W.set l (y.1++[k],p2,c2)).length=locs/\znQ (k+1) (x.ev.drop (k+1)) ((W.set l (y.1++[k],p2,c2)).map (·.1))=(zax x locs).wr/\Rows B S (W.set l (y.1++[k],p2,c2))/\∀ z∈W.set l (y.1++[k],p2,c2),z.1.length<=k+1/\∀ a∈z.1,a<x.ev.length:=by
     intro p2 c2 V oV gV hat2;obtain⟨U,hU⟩:=nm (Y.drew.alloc (.cells (zE.enc k).toArray 3));rw [<- hU] at gV hba sa hat2;have hbYU:Bw Y U:=hd.trans hba;rw [zaP] at gV;have gYV:Y.grownBy V (y.2.1.map Addr.block):=zh (zi hbYU) gV;have fBV:RowLH V B W:=(gYV.block B (hlt fBY) nB).trans fBY;have hmV:=(gYV.block b (hlt hmY) nb).trans hmY;have nE:=zhe hyo fY (by decide);refine⟨⟨hmV,(gYV.block _ (hlt fY) nE).trans fY⟩,zy zqj fBV (o:=0+l*1) (v:=slV (y.1++[k],p2,c2)) rfl rfl (by unfold zet;rw [QQ];omega) rfl fun S fS gS sS=>?_⟩;have fS2:RowLH S B (W.set l (y.1++[k],p2,c2)):=by
      rw [Gf,UY] at fS;refine fS.trans ?_;unfold zet;rw [UO]
     have hRV:Rows B V (W.set l (y.1++[k],p2,c2)):=hRY.set (y:=(y.1++[k],p2,c2)) hy oV gYV fun a ha=>(hat2 a ha).imp id fun h=>by omega
     have hRS:Rows B S (W.set l (y.1++[k],p2,c2)):=hRV.same fun z hz a ha=>gS.block _ (zA (hRV.own z hz) ha).2.1 fun e=>by
      have h1:=zhe (hRV.own z hz) fBV (by decide);rw [ha] at h1;exact h1 e.symm
     have gyb:w.grownBy S (some b):=by
      have hBb:B≠b:=(by omega);have e1:Below B Y S:=by
       refine Below.trans ⟨gYV.os,gYV.tape,gYV.output,gYV.size,fun j hj=>gYV.block j (by have:=hlt fBY;omega) fun e=>?_⟩ (zq gS (by have:=hlt fBV;omega) (Ge _))
       cases hp:y.2.1 with
       | none=>rw [hp] at e;cases e
       | some a =>
        rw [hp] at e;simp only [Uf,KZ] at e;have:=(zA hyo hp).1;omega
      rw [hB] at e1;exact jp gY e1
     refine⟨(gS.block b (hlt hmV) (by simp;omega)).trans hmV,fS2,gyb,by rw [QS];exact hWl,?_,hRS,fun z hz=>?_⟩
     ·rw [UO];exact hacc
     ·rcases List.mem_or_eq_of_mem_set hz with h | h
      ·exact⟨by have:=(hL z h).1;omega,(hL z h).2⟩
      ·rw [h];refine⟨by simp only [lap,Qs,QR];omega,fun a ha=>?_⟩;rcases QU.1 ha with ha | ha
       ·exact (hL y hym).2 a ha
       ·rw [KA.1 ha];exact hkl
    refine DrawE.treeR [16,18] (.op 0 (.op 1 (.op 2 (.op 4 (.op 6 (.op 7 (.op 8 (.op 9 (.op 10 (.op 11 (.op 12 (.op 13 (.op 14 (.alt (.op 15 (.alt (.op 16 (.alt (.op 3 (.op 5 (.op 17 (.op 18 (.nil))))) (.op 5 (.op 3 (.op 17 (.op 18 (.nil))))))) (.alt (.op 3 (.alt (.op 16 (.op 5 (.op 17 (.op 18 (.nil))))) (.op 5 (.op 16 (.op 17 (.op 18 (.nil))))))) (.op 5 (.alt (.op 16 (.op 3 (.op 17 (.op 18 (.nil))))) (.op 3 (.op 16 (.op 17 (.op 18 (.nil)))))))))) (.alt (.op 3 (.alt (.op 15 (.alt (.op 16 (.op 5 (.op 17 (.op 18 (.nil))))) (.op 5 (.op 16 (.op 17 (.op 18 (.nil))))))) (.op 5 (.op 15 (.op 16 (.op 17 (.op 18 (.nil)))))))) (.op 5 (.alt (.op 15 (.alt (.op 16 (.op 3 (.op 17 (.op 18 (.nil))))) (.op 3 (.op 16 (.op 17 (.op 18 (.nil))))))) (.op 3 (.op 15 (.op 16 (.op 17 (.op 18 (.nil))))))))))))))))))))))) (by kernel_rfl) ⟨_,zau (hdr hmY) (i:=2) rfl,u8 e.l,zc (za (hdr fY)) (i:=2) rfl,l,by rw [<- hle],hll,?_⟩;refine⟨slV y,by have:=zc (za (hdr fBY)) (i:=l*1) (v:=slV y) (by rw [Gf];exact hrl);exact this,?_⟩;have hsz:x.ev.length-(k+1)<x.ev.length-k:=(by omega);have app:∀ {K:Value->Wd->Prop},(∀ p2 c2 V,((zbo V b x (some ⟨bp,op,none⟩) c [z7,z7,.slice (some ⟨B,0,none⟩) locs locs]/\V.heap[Z.heap.size]?=some (.cells (evE.enc e).toArray 158 (0,0))) /\
      SatR ((storeVar 128 ⟨B,0+l*1,none⟩ (slV (y.1++[k],p2,c2))).run PG V) fun _ S=>zbo S b x (some ⟨bp,op,none⟩) c [z7,z7,.slice (some ⟨B,0,none⟩) locs locs]/\RowLH S B (W.set l (y.1++[k],p2,c2))/\w.grownBy S (some b)/\(W.set l (y.1++[k],p2,c2)).length=locs/\znQ (k+1) (x.ev.drop (k+1)) ((W.set l (y.1++[k],p2,c2)).map (·.1))=(zax x locs).wr/\Rows B S (W.set l (y.1++[k],p2,c2))/\∀ z∈W.set l (y.1++[k],p2,c2),z.1.length<=k+1/\∀ a∈z.1,a<x.ev.length)->K (slV (y.1++[k],p2,c2)) V) ->
      SatR ((Builtin.append_ #[128,128] 128 #[slV y,.slice (some ⟨Y.drew.heap.size,0,none⟩) 1 1]).run PG (Y.drew.alloc (.cells (zE.enc k).toArray 3))) K:=fun {K} h =>
     jr (E:=zE) (T:=3) (B:=B) (l:=y.1) (news:=[k]) (cap:=y.2.2) (m:=1) Tryz.underlying128 k3 rfl rfl rfl (hyo.below (hd.trans hba)) rfl (qH zE k) (by have:=gY.size;omega) (by omega) (by show (y.1.length+1)*8<=_;omega) fun p2 c2 V oV gV hbV hat2=>h p2 c2 V (fin p2 c2 V oV gV hat2)
    have hmA:=qm (.cells (zE.enc k).toArray 3 (0,0)) (hdr hmY);have fEA:=qm (.cells (zE.enc k).toArray 3 (0,0)) (hdr fY);refine Gp ?_ (Gp ?_ ?_)
    ·refine⟨⟨by decide,by decide,rfl⟩,zE.enc k,rfl,hba,Gp ?_ (Gp ?_ ?_)⟩
     ·refine app fun p2 c2 V ⟨⟨hmV,fEV⟩,hst⟩=>Gp ?_ ?_
      ·refine⟨_,zau hmV (i:=2) rfl,u8 e.l,zc (za fEV) (i:=2) rfl,l,by rw [<- hle],hll,?_⟩;refine SatR.mono hst ?_;rintro _ S hS;exact nxI (by omega) ⟨(k+1,W.set l (y.1++[k],p2,c2)),(cvE rfl rfl),⟨hkl,hS⟩,hsz⟩
      ·refine⟨u8 e.l,zc (za fEV) (i:=2) rfl,_,zau hmV (i:=2) rfl,l,by rw [<- hle],hll,?_⟩;refine SatR.mono hst ?_;rintro _ S hS;exact nxI (by omega) ⟨(k+1,W.set l (y.1++[k],p2,c2)),(cvE rfl rfl),⟨hkl,hS⟩,hsz⟩
     ·refine⟨_,zau hmA (i:=2) rfl,Gp ?_ ?_⟩
      ·refine app fun p2 c2 V ⟨⟨hmV,fEV⟩,hst⟩=>⟨u8 e.l,zc (za fEV) (i:=2) rfl,l,by rw [<- hle],hll,?_⟩;refine SatR.mono hst ?_;rintro _ S hS;exact nxI (by omega) ⟨(k+1,W.set l (y.1++[k],p2,c2)),(cvE rfl rfl),⟨hkl,hS⟩,hsz⟩
      ·refine⟨u8 e.l,zc (za fEA) (i:=2) rfl,app fun p2 c2 V ⟨⟨hmV,fEV⟩,hst⟩=>⟨l,by rw [<- hle],hll,?_⟩⟩;refine SatR.mono hst ?_;rintro _ S hS;exact nxI (by omega) ⟨(k+1,W.set l (y.1++[k],p2,c2)),(cvE rfl rfl),⟨hkl,hS⟩,hsz⟩
     ·refine⟨u8 e.l,zc (za fEA) (i:=2) rfl,Gp ?_ ?_⟩
      ·refine app fun p2 c2 V ⟨⟨hmV,fEV⟩,hst⟩=>⟨_,zau hmV (i:=2) rfl,l,by rw [<- hle],hll,?_⟩;refine SatR.mono hst ?_;rintro _ S hS;exact nxI (by omega) ⟨(k+1,W.set l (y.1++[k],p2,c2)),(cvE rfl rfl),⟨hkl,hS⟩,hsz⟩
      ·refine⟨_,zau hmA (i:=2) rfl,app fun p2 c2 V ⟨⟨hmV,fEV⟩,hst⟩=>⟨l,by rw [<- hle],hll,?_⟩⟩;refine SatR.mono hst ?_;rintro _ S hS;exact nxI (by omega) ⟨(k+1,W.set l (y.1++[k],p2,c2)),(cvE rfl rfl),⟨hkl,hS⟩,hsz⟩
    ·refine⟨_,zau (hdr hmY) (i:=2) rfl,Gp ?_ ?_⟩
     ·refine⟨⟨by decide,by decide,rfl⟩,zE.enc k,rfl,hba,Gp ?_ ?_⟩
      ·refine app fun p2 c2 V ⟨⟨hmV,fEV⟩,hst⟩=>⟨u8 e.l,zc (za fEV) (i:=2) rfl,l,by rw [<- hle],hll,?_⟩;refine SatR.mono hst ?_;rintro _ S hS;exact nxI (by omega) ⟨(k+1,W.set l (y.1++[k],p2,c2)),(cvE rfl rfl),⟨hkl,hS⟩,hsz⟩
      ·refine⟨u8 e.l,zc (za fEA) (i:=2) rfl,app fun p2 c2 V ⟨⟨hmV,fEV⟩,hst⟩=>⟨l,by rw [<- hle],hll,?_⟩⟩;refine SatR.mono hst ?_;rintro _ S hS;exact nxI (by omega) ⟨(k+1,W.set l (y.1++[k],p2,c2)),(cvE rfl rfl),⟨hkl,hS⟩,hsz⟩
     ·refine⟨u8 e.l,zc (za (hdr fY)) (i:=2) rfl,⟨by decide,by decide,rfl⟩,zE.enc k,rfl,hba,app fun p2 c2 V ⟨⟨hmV,fEV⟩,hst⟩=>⟨l,by rw [<- hle],hll,?_⟩⟩;refine SatR.mono hst ?_;rintro _ S hS;exact nxI (by omega) ⟨(k+1,W.set l (y.1++[k],p2,c2)),(cvE rfl rfl),⟨hkl,hS⟩,hsz⟩
    ·refine⟨u8 e.l,zc (za (hdr fY)) (i:=2) rfl,Gp ?_ ?_⟩
     ·refine⟨⟨by decide,by decide,rfl⟩,zE.enc k,rfl,hba,Gp ?_ ?_⟩
      ·refine app fun p2 c2 V ⟨⟨hmV,fEV⟩,hst⟩=>⟨_,zau hmV (i:=2) rfl,l,by rw [<- hle],hll,?_⟩;refine SatR.mono hst ?_;rintro _ S hS;exact nxI (by omega) ⟨(k+1,W.set l (y.1++[k],p2,c2)),(cvE rfl rfl),⟨hkl,hS⟩,hsz⟩
      ·refine⟨_,zau hmA (i:=2) rfl,app fun p2 c2 V ⟨⟨hmV,fEV⟩,hst⟩=>⟨l,by rw [<- hle],hll,?_⟩⟩;refine SatR.mono hst ?_;rintro _ S hS;exact nxI (by omega) ⟨(k+1,W.set l (y.1++[k],p2,c2)),(cvE rfl rfl),⟨hkl,hS⟩,hsz⟩
     ·refine⟨_,zau (hdr hmY) (i:=2) rfl,⟨by decide,by decide,rfl⟩,zE.enc k,rfl,hba,app fun p2 c2 V ⟨⟨hmV,fEV⟩,hst⟩=>⟨l,by rw [<- hle],hll,?_⟩⟩;refine SatR.mono hst ?_;rintro _ S hS;exact nxI (by omega) ⟨(k+1,W.set l (y.1++[k],p2,c2)),(cvE rfl rfl),⟨hkl,hS⟩,hsz⟩
   ·have h:¬ e.k=2:=fun e'=>dF h (by rw [e'];rfl);rw [Gy h] at hacc;exact nxI (by omega) ⟨(k+1,W),(cvE rfl rfl),⟨hkl,hmY,fBY,gY,hWl,hacc,hRY,fun y hy=>⟨by have:=(hL y hy).1;show _<=k+1;omega,(hL y hy).2⟩⟩,zdc (by omega)⟩
  ·have hc:¬ (k:Int)<(x.ev.length:Int):=dF hc;obtain rfl:k=x.ev.length:=by omega
   rw [Qm] at hacc;exact⟨W,(cvE rfl rfl),hmZ,fZ,gZ,hWl,hacc,hR,fun y hy=>⟨by have:=(hL y hy).1;omega,(hL y hy).2⟩⟩
 rintro W X ⟨hmX,fX,gX,hWl,hwr,hR,hWb⟩;refine⟨_,zde hmX,?_⟩;obtain⟨RS,hRS⟩:=nm ((zax x locs).rs);have hRSg:RS=zh8 x.ev (W.map (·.1)) 0 x.ev:=by rw [hRS,hwr];rfl
 rw [<- hRS,<- hwr];have sX:B<X.heap.size:=hlt fX;refine⟨Nat×List (Nat×List Nat)×List za1×(OA×Nat)×(OA×Nat),fun s=>⟨[(0,At0 b),(53,.slice q x.ev.length c),(54,i64 x.ev.length),(55,i64 (s.1:Nat))],[]⟩,
  fun s Z=>s.1<=x.ev.length/\RS=s.2.1++zh8 x.ev (W.map (·.1)) s.1 (x.ev.drop s.1)/\s.2.1.length<=s.1/\s.2.2.1.map (·.1)=s.2.1.map (·.2)/\zbo Z b x q c [.slice s.2.2.2.1.1 (s.2.1.map (·.1)).length s.2.2.2.1.2,.slice s.2.2.2.2.1 s.2.2.1.length s.2.2.2.2.2,.slice (some ⟨B,0,none⟩) locs locs]/\RowLH Z B W/\w.grownBy Z (some b)/\(∀ y∈W,OwnS zE 3 B Z y.2.1 y.2.2 y.1)/\(∀ y∈s.2.2.1,OwnS zE 3 B Z y.2.1 y.2.2 y.1) /\
   OwnS zE 3 B Z s.2.2.2.1.1 s.2.2.2.1.2 (s.2.1.map (·.1))/\OwnS ja 128 B Z s.2.2.2.2.1 s.2.2.2.2.2 s.2.2.1/\(∀ a,s.2.2.2.1.1=some a->∀ y,y∈s.2.2.1\/y∈W->∀ b',y.2.1=some b'->a.block≠b'.block)/\(∀ a,s.2.2.2.2.1=some a->a.block≠B),
  fun s=>x.ev.length-s.1,(0,[],[],(none,0),(none,0)),
  (cvE rfl rfl),⟨Gg _,hRSg,Ge _,rfl,hmX,fX,gX,hR.own,fun y hy=>(by cases hy),OwnS.nil,OwnS.nil,fun a ha=>(by cases ha),fun a ha=>(by cases ha)⟩,?_⟩
 clear hmX fX gX hR sX;rintro⟨k,dn,xs,⟨p1,c1⟩,⟨p2,c2⟩⟩ Z ⟨hk,hspec,hdl,hxs,hmZ,fZ,gZ,hWo,hxo,ho1,ho2,hd1,hd2⟩;dsimp only at hk hspec hdl hxs hmZ hxo ho1 ho2 hd1 hd2 ⊢;refine biE (fun hc=>?_) fun hc=>?_
 ·have hc:(k:Int)<(x.ev.length:Int):=dT hc;have hkl:k<x.ev.length:=by omega
  obtain⟨e,he⟩:∃ e,x.ev[k]=e:=⟨_,rfl⟩;have hem:e∈x.ev:=by rw [<- he];exact gM hkl
  rw [<- JD hkl,he] at hspec;have hlZ:=zqL hl hqb gZ;obtain⟨bp,op,hqe,hlp,hat⟩:=hlZ.at hkl;subst hqe;refine⟨k,rfl,hkl,evE.enc e,rfl,by rw [<- he];exact hat k hkl,hlp,?_⟩;refine zn (X:=Z) (v := .agg (evE.enc e).toArray) zd3 rfl rfl (Qj.2 fun u hu=>evE.one e u hu) fun Y hbY fY sY=>?_;have gY:=zh gZ (zi (row:=some b) hbY);have hmY:=zb hbY hmZ;have fBY:=zb hbY fZ;have fY:Y.heap[Z.heap.size]?=some (.cells (evE.enc e).toArray 158 (0,0)):=fY;refine⟨u8 e.k,zc (za fY) (i:=1) rfl,biE (fun h=>?_) fun h=>?_⟩
  ·have h:¬ e.k=1:=fun e'=>by
    rw [e'] at h;exact GA h (by decide)
   have hspec:RS=dn++(if e.k=1 then (k,((W.map (·.1)).getD e.l.toNat []).filter fun w=>decide ((x.ev.getD w ev0).v=e.v))::zh8 x.ev (W.map (·.1)) (k+1) (x.ev.drop (k+1)) else zh8 x.ev (W.map (·.1)) (k+1) (x.ev.drop (k+1))):=hspec;rw [Gy h] at hspec;exact nxI (by omega) ⟨(k+1,dn,xs,(p1,c1),(p2,c2)),(cvE rfl rfl),⟨hkl,hspec,by show dn.length<=k+1;omega,hxs,hmY,fBY,gY,fun y hy=>(hWo y hy).below hbY,fun y hy=>(hxo y hy).below hbY,ho1.below hbY,ho2.below hbY,hd1,hd2⟩,zdc (by omega)⟩
  ·have h1:decide ((e.k.toNat:Int)=1)=true:=by simpa using h
   have h:e.k=1:=qG.1 (dT h1);obtain⟨l,hle⟩:∃ l,e.l.toNat=l:=⟨_,rfl⟩;have hll:l<locs:=by rw [<- hle];exact hv e hem (.inl h)
   have hlW:l<W.length:=by omega
   obtain⟨y,hy⟩:∃ y,W[l]?=some y:=⟨_,gE hlW⟩;have hym:y∈W:=JY hy;have hgd:(W.map (·.1)).getD l []=y.1:=by rw [gDe,KU,hy];rfl
   obtain⟨P,hP⟩:∃ P:Nat->Bool,P=fun w=>decide ((x.ev.getD w ev0).v=e.v):=⟨_,rfl⟩;have hspec:RS=dn++(k,y.1.filter P)::zh8 x.ev (W.map (·.1)) (k+1) (x.ev.drop (k+1)):=by
    have hspec:RS=dn++(if e.k=1 then (k,((W.map (·.1)).getD e.l.toNat []).filter fun w=>decide ((x.ev.getD w ev0).v=e.v))::zh8 x.ev (W.map (·.1)) (k+1) (x.ev.drop (k+1)) else zh8 x.ev (W.map (·.1)) (k+1) (x.ev.drop (k+1))):=hspec;rw [Gz h,hle,hgd,<- hP] at hspec;exact hspec
   obtain⟨hy48,hyb⟩:=hWb y hym;have hyo:=(hWo y hym).below hbY;have hrl:(zet W)[l]?=some (slV y):=by unfold zet;rw [KU,hy];rfl
   have hd:Bw Y Y.drew:=(Gj _ Y).drew;refine DrawE.ord [] [0,1,2,3,4,5,6,7,8,9] (by kernel_rfl) ⟨_,zau (hdr hmY) (i:=2) rfl,u8 e.l,zc (za (hdr fY)) (i:=2) rfl,l,by rw [<- hle],hll,?_⟩;refine⟨slV y,by have:=zc (za (hdr fBY)) (i:=l*1) (v:=slV y) (by rw [Gf];exact hrl);exact this,?_⟩;obtain⟨M,hM⟩:=nm (Y.heap.size);refine⟨Nat×List Nat×OA×Nat,fun s=>⟨[(0,At0 b),(6,i64 (k:Nat)),(7,At0 Z.heap.size),(8,.slice s.2.2.1 s.2.1.length s.2.2.2),(53,.slice (some ⟨bp,op,none⟩) x.ev.length c),(54,i64 x.ev.length),(55,i64 (k:Nat)),(70,slV y),(71,i64 y.1.length),(72,i64 (s.1:Nat))],[]⟩,
    fun s V=>s.1<=y.1.length/\s.2.1=(y.1.take s.1).filter P/\OwnS zE 3 M V s.2.2.1 s.2.2.2 s.2.1/\Below M Y V,fun s=>y.1.length-s.1,(0,[],none,0),
    (cvE rfl rfl),⟨Gg _,rfl,OwnS.nil,by rw [hM];exact hd⟩,?_⟩
   rintro⟨i,fr,p3,c3⟩ V ⟨hi,hfr,hoV,hbV⟩;dsimp only at hi hfr hoV ⊢;have sV:=hbV.size;have hmV:=(hbV.block b (by have:=hlt hmY;omega)).trans hmY;have fEV:=(hbV.block Z.heap.size (by have:=hlt fY;omega)).trans fY;have fBV:=(hbV.block B (by have:=hlt fBY;omega)).trans fBY;have hbYV:Bw Y V:=by rw [hM] at hbV;exact hbV
   have hyoV:=hyo.below hbYV;have hfl:fr.length<=i:=by rw [hfr];exact UU (JL _ _) (by rw [Qu];exact Nat.min_le_left _ _)
   refine biE (fun hc=>?_) fun hc=>?_
   ·have hc:(i:Int)<(y.1.length:Int):=dT hc;have hil:i<y.1.length:=(by omega);have hyi:=hyb y.1[i] (gM hil);have hlV:=zqL hl hqb (jp gY (hbV.mono (by have:=gY.size;omega)));obtain⟨by_,oy,hye,hly,haty⟩:=hyoV.row.at hil;obtain⟨bq,oq,hqe,hlq,hatq⟩:=hlV.at hyi;simp only [KZ,Uw,Gr] at hqe;obtain⟨rfl,rfl⟩:=hqe;have htk:(y.1.take (i+1)).filter P=fr++(if P y.1[i] then [y.1[i]] else []):=by
     rw [tsg hil,Kv,hfr]
     cases hPi:P y.1[i] <;> simp [hPi]
    have hPv:P y.1[i]=decide (x.ev[y.1[i]].v=e.v):=by
     rw [hP];show decide ((x.ev.getD y.1[i] ev0).v=e.v)=_;rw [gDe,gE hyi];rfl
    rw [show slV y = .slice (some ⟨by_,oy,none⟩) y.1.length y.2.2 by unfold slV;rw [hye]];refine⟨i,rfl,hil,i64 y.1[i],zc (haty i hil) (i:=0) rfl,DrawE.ord [] [0,1,2,3,4,5,6,7,8,9,10,11] (by kernel_rfl) ⟨_,zde (hdr hmV),y.1[i],rfl,hyi,?_⟩⟩;have hdV:Bw V V.drew:=(Gj _ V).drew;refine⟨u8 x.ev[y.1[i]].v,by have:=zc (zt hdV (hatq y.1[i] hyi)) (i:=3) (v:=u8 x.ev[y.1[i]].v) rfl;exact this,u8 e.v,zc (za (hdr fEV)) (i:=3) rfl,biE (fun hq=>?_) fun hq=>?_⟩
    ·have hq:x.ev[y.1[i]].v=e.v:=qG.1 (dT hq);rw [hPv,Uu hq,Gz rfl] at htk;refine⟨⟨by decide,by decide,rfl⟩,zE.enc y.1[i],rfl,?_⟩;have hba:Below V.drew.heap.size V.drew (V.drew.alloc (.cells (zE.enc y.1[i]).toArray 3)):=zba _ _;refine jr (E:=zE) (T:=3) (B:=M) (l:=fr) (news:=[y.1[i]]) (cap:=c3) (m:=1) Tryz.underlying128 k3 rfl rfl rfl (hoV.below (hdV.trans hba)) rfl (qH zE y.1[i]) (by have:=hba.size;have:=hdV.size;omega) (by omega) (by show (fr.length+1)*8<=_;omega) ?_;intro p4 c4 U oU gU hbU hat4;exact nxI (by omega) ⟨(i+1,fr++[y.1[i]],p4,c4),(cvE rfl rfl),⟨hil,htk.symm,oU,((hbV.trans (hdV.mono (by omega))).trans (hba.mono (by have:=hdV.size;omega))).trans hbU⟩,zdc (by omega)⟩
    ·have hq:¬ x.ev[y.1[i]].v=e.v:=fun e'=>dF hq (by rw [e']);rw [hPv,Uj hq] at htk;simp only [Kt,Gt,QM] at htk;exact nxI (by omega) ⟨(i+1,fr,p3,c3),(cvE rfl rfl),⟨hil,htk.symm,hoV.below hdV,hbV.trans (hdV.mono (by omega))⟩,zdc (by omega)⟩
   ·have hc:¬ (i:Int)<(y.1.length:Int):=dF hc;obtain rfl:i=y.1.length:=(by omega);rw [Qw] at hfr;have hbMB:B<=M:=(by have:=hlt fBY;omega);have hxlen:xs.length=dn.length:=by
     have:=Gs List.length hxs;simpa using this
    refine⟨.slice p1 (dn.map (·.1)).length c1,zau hmV (i:=0) rfl,⟨by decide,by decide,rfl⟩,zE.enc k,rfl,?_⟩;obtain⟨V1,hV1⟩:=nm (V.alloc (.cells (zE.enc k).toArray 3));have hb1:Bw V V1:=(by rw [hV1];exact (zba _ _));have s1:V1.heap.size=V.heap.size+1:=(by rw [hV1];exact wz _ _);have hZV:Bw Z V:=zst hbY hbYV;have hZV1:Bw Z V1:=zst hZV hb1;have ho1V:=ho1.below hZV1;rw [<- hV1];refine zo2 ho1V (by rw [hV1];exact qH zE k) (by omega) (by rw [QQ];omega) fun q1 d1 U oU gU hat1=>?_;rw [zaP] at gU;have hmV1:=zb hb1 hmV;have hmU:=qp hmV1 ho1V (by decide) gU;have fBU:=qp (zb hb1 fBV) ho1V (by decide) gU;refine zy zqj hmU (o:=0+333) (v := .slice q1 (dn.map (·.1)++[k]).length d1) rfl rfl (by rw [lap,zI];show 333<336;decide) rfl fun S fS gS sS=>?_;rw [show 0+333=333+0 from rfl,zjr] at fS;have fS:zbo S b x (some ⟨bp,op,none⟩) c [.slice q1 (dn.map (·.1)++[k]).length d1,.slice p2 xs.length c2,.slice (some ⟨B,0,none⟩) locs locs]:=fS;have p1M:∀ a,p1=some a->a.block<M:=fun a ha=>by have:=(zA ho1 ha).2.1;have:=hbY.size;omega
    have hoU:OwnS zE 3 M U p3 c3 fr:=zdQ (hoV.below hb1) gU fun a b' ha hb e=>by have:=p1M a ha;have:=(zA hoV hb).1;omega
    have hWU:∀ y∈W,OwnS zE 3 B U y.2.1 y.2.2 y.1:=fun y hy=>zdQ ((hWo y hy).below hZV1) gU fun a b' ha hb=>hd1 a ha y (.inr hy) b' hb;have hxU:∀ y∈xs,OwnS zE 3 B U y.2.1 y.2.2 y.1:=fun y hy=>zdQ ((hxo y hy).below hZV1) gU fun a b' ha hb=>hd1 a ha y (.inl hy) b' hb;have ho2U:=zat (ho2.below hZV1) ho1V (by decide) gU;have hoS:=qq hoU hmU (by decide) gS;have hWS:∀ y∈W,OwnS zE 3 B S y.2.1 y.2.2 y.1:=fun y hy=>qq (hWU y hy) hmU (by decide) gS;have hxS:∀ y∈xs,OwnS zE 3 B S y.2.1 y.2.2 y.1:=fun y hy=>qq (hxU y hy) hmU (by decide) gS;have ho2S:=qq ho2U hmU (by decide) gS;have ho1S:=qq oU hmU (by decide) gS;have hBb:B≠b:=(by omega);have fBS:=(gS.block B (hlt fBU) (by simp;omega)).trans fBU;refine⟨_,zau fS (i:=1) rfl,⟨by decide,by decide,rfl⟩,ja.enc (fr,p3,c3),rfl,?_⟩;obtain⟨S1,hS1⟩:=nm (S.alloc (.cells (ja.enc (fr,p3,c3)).toArray 128));have hbS1:Bw S S1:=(by rw [hS1];exact (zba _ _));have sS1:S1.heap.size=S.heap.size+1:=(by rw [hS1];exact wz _ _);have ho2S1:=ho2S.below hbS1;have sU:=gU.size;unfold zeK zaI;show SatR _ _;rw [<- hS1];refine zxA ho2S1 (by rw [hS1];exact qH ja (fr,p3,c3)) (by omega) (by omega) fun q2 d2 N oN gN hat2=>?_;rw [zaP] at gN;have fN:=qp (zb hbS1 fS) ho2S1 (by decide) gN;refine zy zoC fN (o:=0+334) (v := .slice q2 (xs++[(fr,p3,c3)]).length d2) rfl rfl (by rw [lap,zI];show 334<336;decide) rfl fun O fO gO sO=>?_;rw [show 0+334=333+1 from rfl,zjr] at fO;have fO:zbo O b x (some ⟨bp,op,none⟩) c [.slice q1 ((dn++[(k,fr)]).map (·.1)).length d1,.slice q2 (xs++[(fr,p3,c3)]).length d2,.slice (some ⟨B,0,none⟩) locs locs]:=by
     rw [QT];exact fO
    have step:∀ {q:OA} {cc:Nat} {ll:List Nat} {B':Nat},OwnS zE 3 B' S q cc ll->OwnS zE 3 B' O q cc ll:=fun h =>
     qq (zat (h.below hbS1) ho2S1 (by decide) gN) fN (by decide) gO
    have h2B:∀ a,p2=some a->a.block≠B:=hd2;have fBO:RowLH O B W:=by
     have h1:=zb hbS1 fBS;have h2:=(gN.block B (hlt h1) fun e=>by
      cases hp:p2 with
      | none=>rw [hp] at e;cases e
      | some a =>
       rw [hp] at e;simp only [Uf,KZ] at e;exact hd2 a hp e.symm).trans h1
     exact (gO.block B (hlt h2) (by simp;omega)).trans h2
    have newr:∀ a,q1=some a->p1=some a\/V.heap.size<=a.block:=fun a ha=>(hat1 a ha).imp id fun h=>by omega
    have new2:∀ a,q2=some a->p2=some a\/U.heap.size<=a.block:=fun a ha=>(hat2 a ha).imp id fun h=>by omega
    have frM:∀ a,p3=some a->M<=a.block/\a.block<V.heap.size:=fun a ha=>⟨(zA hoV ha).1,(zA hoV ha).2.1⟩;have hwb:w.grownBy O (some b):=by
     have sG:=gS.size;have sZ:=hlt fZ;have e0:Below B Z V1:=hZV1.mono (by omega);have e1:Below B V1 U:=q5 ho1V (by omega) (Ge _) gU;have e2:Below B S S1:=hbS1.mono (by omega);have e3:Below B S1 N:=q5 ho2S1 (by omega) (Ge _) gN;rw [hB] at e0 e1 e2 e3;exact zh (jp (jp (zh (jp (jp gZ e0) e1) gS) e2) e3) gO
    refine nxI (by omega) ⟨(k+1,dn++[(k,fr)],xs++[(fr,p3,c3)],(q1,d1),(q2,d2)),(cvE rfl rfl),⟨hkl,?_,?_,?_,fO,fBO,hwb,fun y hy=>step (hWS y hy),fun y hy=>?_,?_,qq oN fN (by decide) gO,fun a ha y hy b' hb'=>?_,fun a ha=>?_⟩,zdc (by omega)⟩
    ·show RS=(dn++[(k,fr)])++_;rw [hspec,<- hfr,KO];rfl
    ·show (dn++[(k,fr)]).length<=k+1;simp only [lap,Qs,QR];omega
    ·show (xs++[(fr,p3,c3)]).map (·.1)=(dn++[(k,fr)]).map (·.2);rw [QT,QT,hxs];rfl
    ·rcases QU.1 hy with hy | hy
     ·exact step (hxS y hy)
     ·rw [KA.1 hy];exact step (hoS.lower hbMB)
    ·show OwnS zE 3 B O q1 d1 ((dn++[(k,fr)]).map (·.1));rw [QT];exact step ho1S
    ·have old:(y∈xs\/y∈W)\/y=(fr,p3,c3):=by
      rcases hy with hy | hy
      ·rcases QU.1 hy with hy | hy
       ·exact .inl (.inl hy)
       ·exact .inr (KA.1 hy)
      ·exact .inl (.inr hy)
     rcases old with hy | rfl
     ·rcases newr a ha with h | h
      ·exact hd1 a h y hy b' hb'
      ·have:b'.block<Z.heap.size:=by
        rcases hy with hy | hy
        ·exact (zA (hxo y hy) hb').2.1
        ·exact (zA (hWo y hy) hb').2.1
       have:=hZV.size;omega
     ·have h3:=frM b' hb';rcases newr a ha with h | h
      ·have:=p1M a h;omega
      ·omega
    ·rcases new2 a ha with h | h
     ·exact hd2 a h
     ·omega
 ·have hc:¬ (k:Int)<(x.ev.length:Int):=dF hc;obtain rfl:k=x.ev.length:=by omega
  rw [Qm] at hspec;have hspec:RS=dn++[]:=hspec;rw [QM] at hspec;subst hspec;refine⟨rfl,⟨p1,p2,some ⟨B,0,none⟩,c1,c2,locs,xs,W,by rw [hWl];rw [QQ] at hmZ;exact hmZ,by rw [<- hB];exact ho1,hxs,by rw [<- hB];exact ho2,by rw [<- hB];exact hxo,rfl,?_,by rw [<- hB];exact hWo⟩,gZ⟩;rw [<- hB];have:=fZ.own (B:=B) (Ge _) (by unfold maxLen;omega);rw [hWl] at this;exact this
end
theorem znb {P:Program} {w:Wd} {t ty:TypeId} {a b:Nat} {K:Value->Wd->Prop} (k:K (i64 (min a b:Nat)) w):SatR ((Builtin.min_ #[t,t] ty #[i64 a,i64 b]).run P w) K:=by
 refine SatR.mk (v:=i64 (min a b:Nat)) (w':=w) ?_ k;by_cases h:(b:Int)<a
 ·have e:min a b=b:=Nat.min_eq_right (by omega);rw [e];simp [Builtin.min_,Builtin.min2,i64,h]
 ·have e:min a b=a:=Uc (by omega);rw [e];simp [Builtin.min_,Builtin.min2,i64,h]
section
variable {b o:Nat} {x:ExD} {q:OA} {c:Nat} {w:Wd} {r:Value} {p2 p3:OA} {c2 c3 lim:Nat} {xs ys:List za1}
def zqV (lim:Nat) (fs ws:List (List Nat)):Nat:=match zld lim fs 1 with
 | none=>0
 | some n=>zjE lim ws n
theorem zsQ (hm:zw w ⟨b,o,none⟩ (exC x q c++[r,.slice p2 xs.length c2,.slice p3 ys.length c3])) (h2:SlR ja w p2 xs) (h3:SlR ja w p3 ys) (hx:∀ y∈xs,y.1.length<=1000) (hy:∀ y∈ys,y.1.length<=1000) (hxl:xs.length<=1000) (hyl:ys.length<=1000) (hl0:1<=lim) (hl:lim<=100000) :
  Calls PG 88 #[.pointer (some ⟨b,o,none⟩),i64 lim] w fun e w'=>e = .returned (i64 (zqV lim (xs.map (·.1)) (ys.map (·.1)):Nat))/\w=w':=by
 refine zJ 52 [.pointer (some ⟨b,o,none⟩),i64 lim] Tryz.func88 ?_;have g2:w.cell? ⟨b,o+334,none⟩=some (.slice p2 xs.length c2):=zc hm (zgR (i:=1) rfl);have g3:w.cell? ⟨b,o+335,none⟩=some (.slice p3 ys.length c3):=zc hm (zgR (i:=2) rfl);refine⟨_,g2,?_⟩;obtain⟨fs,hfs⟩:=nm (xs.map (·.1));have hfl:fs.length=xs.length:=by rw [hfs,QQ]
 rw [<- hfs];refine⟨Nat×Nat,fun s=>⟨[(0,.pointer (some ⟨b,o,none⟩)),(1,i64 lim),(5,i64 (s.2:Nat)),(14,.slice p2 xs.length c2),(15,i64 xs.length),(16,i64 (s.1:Nat))],[]⟩,
  fun s X=>s.1<=xs.length/\s.2<=lim/\zld lim (fs.drop s.1) s.2=zld lim fs 1/\w=X,fun s=>xs.length-s.1,(0,1),
  (cvE rfl rfl),⟨Gg _,hl0,rfl,rfl⟩,?_⟩
 rintro⟨k,n⟩ _ ⟨hk,hnl,hacc,rfl⟩;dsimp only at hk hnl hacc ⊢;refine biE (fun hc=>?_) fun hc=>?_
 ·have hc:(k:Int)<(xs.length:Int):=dT hc;have hkl:k<xs.length:=by omega
  obtain⟨bp,op,rfl,hlp,hat⟩:=h2.at hkl;have hfk:fs[k]'(by omega)=xs[k].1:=by simp [hfs]
  rw [<- JD (show k<fs.length by omega),hfk] at hacc;have hacc:(if xs[k].1=[] then none else zld lim (fs.drop (k+1)) (min (n*xs[k].1.length) lim))=zld lim fs 1:=hacc;have h1000:=hx xs[k] (gM hkl);refine⟨k,rfl,hkl,slV xs[k],zc (hat k hkl) (i:=0) rfl,biE (fun h=>?_) fun h=>?_⟩
  ·have h:(xs[k].1.length:Int)=0:=dT h;have h0:xs[k].1=[]:=Jf (by omega);rw [Gz h0] at hacc;refine⟨?_,rfl⟩;unfold zqV;rw [<- hacc];rfl
  ·have h:¬ (xs[k].1.length:Int)=0:=dF h;have h0:xs[k].1≠[]:=fun e=>h (by rw [e];rfl);rw [Gy h0] at hacc;have hm':n*xs[k].1.length<=100000*1000:=Nat.mul_le_mul (by omega) h1000;exact⟨((n*xs[k].1.length:Nat):Int),by rw [QK];exact zk (by rw [<- QK];omega),znb (nxI (by omega) ⟨(k+1,min (n*xs[k].1.length) lim),(cvE rfl rfl),⟨hkl,QB _ _,hacc,rfl⟩,zdc (by omega)⟩)⟩
 have hc:¬ (k:Int)<(xs.length:Int):=dF hc;rw [Jz (by omega)] at hacc;have hacc:some n=zld lim fs 1:=hacc;have hres:zqV lim fs (ys.map (·.1))=zjE lim (ys.map (·.1)) n:=by unfold zqV;rw [<- hacc]
 rw [hres];obtain⟨ws,hws⟩:=nm (ys.map (·.1));have hwl:ws.length=ys.length:=by rw [hws,QQ]
 rw [<- hws];clear hres hacc hc hk hfl hfs g2;refine⟨_,g3,?_⟩;refine⟨Nat×Nat,fun s=>⟨[(0,.pointer (some ⟨b,o,none⟩)),(1,i64 lim),(5,i64 (s.2:Nat)),(33,.slice p3 ys.length c3),(34,i64 ys.length),(35,i64 (s.1:Nat))],[]⟩,
  fun s X=>s.1<=ys.length/\s.2<=lim/\zjE lim (ws.drop s.1) s.2=zjE lim ws n/\w=X,fun s=>ys.length-s.1,(0,n),
  (cvE rfl rfl),⟨Gg _,hnl,rfl,rfl⟩,?_⟩
 rintro⟨k,n'⟩ _ ⟨hk,hnl',hacc,rfl⟩;dsimp only at hk hnl' hacc ⊢;refine biE (fun hc=>?_) fun hc=>?_
 ·have hc:(k:Int)<(ys.length:Int):=dT hc;have hkl:k<ys.length:=by omega
  obtain⟨bp,op,rfl,hlp,hat⟩:=h3.at hkl;have hfk:ws[k]'(by omega)=ys[k].1:=by simp [hws]
  rw [<- JD (show k<ws.length by omega),hfk] at hacc;obtain⟨L,hL⟩:=nm (ys[k].1.length);have hacc:zjE lim (ws.drop (k+1)) (zle lim L L 2 n')=zjE lim ws n:=by rw [hL];exact hacc
  have h1000:=hy ys[k] (gM hkl);rw [<- hL] at h1000;refine⟨k,rfl,hkl,slV ys[k],zc (hat k hkl) (i:=0) rfl,?_⟩;refine⟨Nat×Nat×Nat,fun s=>⟨[(0,.pointer (some ⟨b,o,none⟩)),(1,i64 lim),(5,i64 (s.2.2:Nat)),(9,slV ys[k]),(10,i64 (s.2.1:Nat)),(33,.slice (some ⟨bp,op,none⟩) ys.length c3),(34,i64 ys.length),(35,i64 (k:Nat))],[]⟩,
   fun s X=>s.2.2<=lim/\L<=s.2.1+s.1/\s.2.1<=L+2/\zle lim L s.1 s.2.1 s.2.2=zle lim L L 2 n'/\w=X,fun s=>s.1,(L,2,n'),
   (cvE rfl rfl),⟨hnl',by show L<=2+L;omega,by show 2<=L+2;omega,rfl,rfl⟩,?_⟩
  rintro⟨m,j,n2⟩ _ ⟨hn2,hLj,hjL,hK,rfl⟩;dsimp only at hn2 hLj hjL hK ⊢;refine biE (fun hc=>?_) fun hc=>?_
  ·have hc:(j:Int)<(ys[k].1.length:Int):=dT hc;have hjl:j<L:=by omega
   obtain⟨m,rfl⟩:∃ m',m=m'+1:=⟨m-1,by omega⟩;have hK:(if j<L then zle lim L m (j+1) (min (n2*j) lim) else n2)=zle lim L L 2 n':=hK;rw [Gz hjl] at hK;have hm':n2*j<=100000*1000:=Nat.mul_le_mul (by omega) (by omega);exact⟨((n2*j:Nat):Int),by rw [QK];exact zk (by rw [<- QK];omega),znb (nxI (by omega) ⟨(m,j+1,min (n2*j) lim),(cvE rfl rfl),⟨QB _ _,by show L<=j+1+m;omega,by show j+1<=L+2;omega,hK,rfl⟩,QA _⟩)⟩
  ·have hc:¬ (j:Int)<(ys[k].1.length:Int):=dF hc;have hjl:¬ j<L:=by omega
   have hK2:n2=zle lim L L 2 n':=by
    rw [<- hK]
    cases m with
    | zero=>rfl
    | succ m =>
     show n2=if j<L then _ else n2
     rw [Gy hjl]
   exact nxI (by omega) ⟨(k+1,n2),(cvE rfl rfl),⟨hkl,hn2,by rw [hK2];exact hacc,rfl⟩,zdc (by omega)⟩
 ·have hc:¬ (k:Int)<(ys.length:Int):=dF hc;rw [Jz (by omega)] at hacc;have hacc:n'=zjE lim ws n:=hacc;rw [<- hacc];exact⟨rfl,rfl⟩
end
theorem zbY:(zjP).toArray.size=333:=by kernel_rfl
theorem zaq:(zbJ).toArray.size=336:=by kernel_rfl
section
variable {w:Wd}
theorem zsM {n:Nat}:CB 200 #[i64 n] w (.agg (exC (ex0 n) none 0).toArray):=by
 refine qa 13 [i64 n] (.s .p (.c .p .p)) Tryz.func200 ?_;obtain⟨L,hL⟩:=nm (w.heap.size);obtain⟨X0,hX0⟩:=nm (w.alloc (.cells (zjP).toArray 37));have f0:X0.heap[L]?=some (.cells (zjP).toArray 37 (0,0)):=by rw [hX0,hL];exact zz w _
 have s0:X0.heap.size=L+1:=by rw [hX0,hL];exact wz _ _
 have hb0:Bw w X0:=by rw [hX0];exact (zba w _)
 refine⟨Unit,fun _=>⟨[(2,At0 L),(3,At0 (L+1))],[]⟩,fun _ X=>X.heap[L]?=some (.cells (zjP).toArray 37 (0,0))/\zN X (L+1) (zeG n)/\Bw w X,?_,?_⟩
 ·refine⟨zd (zeG n),rfl,zn (X:=w.alloc (.cells (zjP).toArray 37 (0,0))) (v := .agg (zd (zeG n)).toArray) k30 (ze _) (by kernel_rfl) (zD _) fun V hbV fV sV=>?_⟩;rw [<- hX0] at hbV fV sV;rw [s0] at fV sV;exact⟨(),⟨.cons (by rw [hL];rfl) (.cons (by rw [<- s0,hX0];rfl) .nil),rfl⟩,zb hbV f0,fV,(zst hb0 hbV)⟩
 rintro _ X ⟨f1,f2,hbX⟩;refine⟨zd (zeG n),ze _,za f2,hlt f2,zd (zeG n),ze _,za f2,hlt f2,zd (zeG n),ze _,za f2,hlt f2,zd (zeG n),ze _,za f2,hlt f2,zd (zeG n),ze _,za f2,hlt f2,zd (zeG n),ze _,za f2,hlt f2,exC (ex0 n) none 0,by kernel_rfl,?_⟩;exact zr (v := .agg (exC (ex0 n) none 0).toArray) k37 f1 (zI _ _ _) zbY (zdk _ _ _) ⟨exC (ex0 n) none 0,zI _ _ _,za (zm f1),rfl,zj hbX (by omega) _⟩
end
structure PathB (locs:Nat) (P:PathD):Prop where
 ev:P.ev.length<=24
 loc:∀ e∈P.ev,e.k=1\/e.k=2->e.l.toNat<locs
 dt:∀ p∈P.data,p.1<P.ev.length/\p.2<P.ev.length
 ct:∀ p∈P.ctrl,p.1<P.ev.length/\p.2<P.ev.length
 rm:∀ p∈P.rmw,p.1<P.ev.length/\p.2<P.ev.length
 dtl:P.data.length<=100000
 ctl:P.ctrl.length<=100000
 rml:P.rmw.length<=100000
structure PthS (B:Nat) (w:Wd) (x:zee):Prop where
 lt:∀ a,x.2.2.1.1=some a\/x.2.2.2.1.1=some a\/x.2.2.2.2.1=some a->a.block<B
 ev:SlR evE w x.2.1.1 x.1.ev
 dt:SlR prE w x.2.2.1.1 x.1.data
 ct:SlR prE w x.2.2.2.1.1 x.1.ctrl
 rm:SlR prE w x.2.2.2.2.1 x.1.rmw
theorem PthS.below {B:Nat} {w X:Wd} {x:zee} (h:PthS B w x) (hb:Bw w X):PthS B X x:=⟨h.lt,h.ev.below hb,h.dt.below hb,h.ct.below hb,h.rm.below hb⟩
theorem zbl:∀ (vs:List UInt8) (l:Nat),(j4 l vs).length=vs.length
 | [],_=>rfl
 | v::vs,l=>by
  show (j4 (l+1) vs).length+1=vs.length+1;rw [zbl vs]
theorem zf5:∀ (vs:List UInt8) (l:Nat) {k:Nat} (h:k<vs.length),(j4 l vs)[k]?=some ⟨-1,2,UInt8.ofNat (l+k),vs[k],0,0,0⟩
 | [],_,_,h=>by cases h
 | v::vs,l,0,_=>rfl
 | v::vs,l,k+1,h=>by
  show (j4 (l+1) vs)[k]?=_;rw [zf5 vs (l+1) (Nat.lt_of_succ_lt_succ h),UI,UQ 1 k];rfl
theorem zkR {vs:List UInt8} {k:Nat} (h:k<vs.length):(j4 0 vs).take (k+1)=(j4 0 vs).take k++[⟨-1,2,UInt8.ofNat k,vs[k],0,0,0⟩]:=by
 have hl:k<(j4 0 vs).length:=by rw [zbl];exact h
 have:=zf5 vs 0 h;rw [gE hl,UY] at this;rw [tsg hl,Ug this]
theorem zpt (n:Nat) (Ps:List PathD):n<=Ps.foldl (fun n P=>n+P.ev.length) n:=by
 induction Ps generalizing n with
 | nil=>exact Ge _
 | cons P Ps ih=>exact UU (Qy _ _) (ih (n+P.ev.length))
theorem zwO {B c:Nat} {V1:Wd} {p:OA} {l:List Ev} {y:Ev} {a:Addr} (ho:OwnS evE 158 B V1 p c l) (ha:zw V1 a ([y].flatMap evE.enc)) (hB:B<=V1.heap.size) (hl:l.length<=100000) {K:Value->Wd->Prop}
  (h:∀ p' c' w',OwnS evE 158 B w' p' c' (l++[y])->V1.grownBy w' (p.map Addr.block)->(∀ a,p'=some a->p=some a\/a.block=V1.heap.size)->K (.slice p' (l++[y]).length c') w') :
  SatR ((Builtin.append_ #[25,25] 25 #[.slice p l.length c,.slice (some a) 1 1]).run PG V1) K :=
 jr (E:=evE) (T:=158) (B:=B) (l:=l) (news:=[y]) (cap:=c) (m:=1) Tryz.underlying25 zd3 rfl rfl rfl ho rfl ha hB (by omega) (by show (l.length+1)*16<=_;omega) fun p' c' w' a1 a2 _ a4=>h p' c' w' a1 (by rw [zaP] at a2;exact a2) a4
theorem zpz {f g:Nat->UInt8}:∀ {k:Nat},k<4->(seg 32 (fun i=>u8 (f i))).take (k*8)++seg 8 (fun i=>u8 (g i))++(seg 32 (fun i=>u8 (f i))).drop (k*8+8)=seg 32 (fun i=>u8 (if i/8=k then g (i%8) else f i))
 | 0,_=>by kernel_rfl
 | 1,_=>by kernel_rfl
 | 2,_=>by kernel_rfl
 | 3,_=>by kernel_rfl
 | k+4,h=>by omega
theorem zkr {A Z l r:List Value} {n o m:Nat} (hA:A.length=n) (hl:o+m<=l.length) (hr:r.length=m):(A++(l++Z)).take (n+o)++r++(A++(l++Z)).drop (n+o+m)=A++((l.take o++r++l.drop (o+m))++Z):=by
 subst hA;rw [List.take_length_add_append,Jg (by omega),UI,Jj,List.drop_append_of_le_length hl];simp only [KO]
theorem zq7 (k:Nat) (P:PathD) (Ps:List PathD) (x:ExD):asR k (P::Ps) x=asR (k+1) Ps (zjK x k P):=rfl
theorem znV {k:Nat} {l:List Ev} {j:Nat} (h:j<l.length):zeB k (l.take (j+1))=zeB k (l.take j)++[{ l[j] with th:=k }]:=by
 rw [tsg h];unfold zeB;rw [QT];rfl
theorem zcQ {n f:Nat} {ps:List (Nat×Nat)} (h:∀ p∈ps,p.1<n/\p.2<n) (hf:f+n<=48):zpM f ps:=fun p hp=>⟨by have:=(h p hp).1;omega,by have:=(h p hp).2;omega⟩
def zwW (B:Nat) (w:Wd) (vs:List Value) (m:MixD):Prop :=
 ∃ (q p1 p2 p3:OA) (c c1 c2 c3:Nat) (xs ys:List za1),vs=exC m.base q c++[.slice p1 m.rs.length c1,.slice p2 xs.length c2,.slice p3 ys.length c3]/\OwnS evE 158 B w q c m.base.ev /\
  OwnS zE 3 B w p1 c1 (m.rs.map (·.1))/\xs.map (·.1)=m.rs.map (·.2)/\OwnS ja 128 B w p2 c2 xs/\(∀ y∈xs,OwnS zE 3 B w y.2.1 y.2.2 y.1) /\
   ys.map (·.1)=m.wr/\OwnS ja 128 B w p3 c3 ys/\∀ y∈ys,OwnS zE 3 B w y.2.1 y.2.2 y.1
section
variable {w:Wd} {bP cl cp ci:Nat} {pc:List Value} {pl pp pi:OA} {init:List UInt8} {Ps:List zee}
theorem zmE (fP:w.heap[bP]?=some (.cells pc.toArray 103 (0,0))) (h1:pc[1]?=some (.slice pl init.length cl)) (h2:pc[2]?=some (.slice pi init.length ci)) (hi:SlR zW w pi init) (hi6:init.length<=6)
  (hP:SlR jQ w pp Ps) (hPs:∀ x∈Ps,PthS w.heap.size w x) (hPb:∀ x∈Ps,PathB init.length x.1) (hP4:Ps.length<=4) :
  Calls PG 140 #[At0 bP,.slice pp Ps.length cp] w fun e w'=>(∃ vs,match zkE init (Ps.map (·.1)) with
   | some m=>e = .returned (.tuple #[.agg vs.toArray,.bool true])/\zwW w.heap.size w' vs m
   | none=>e = .returned (.tuple #[.agg vs.toArray,.bool false]))/\Bw w w':=by
 refine qa 143 [At0 bP,.slice pp Ps.length cp] (.c .p (.s .p (.c .p (.s .p (.s .p (.c .p (.c .p (.c .p (.c .p (.c .p .p)))))))))) Tryz.func140 ?_;obtain⟨L,hL⟩:=nm (w.heap.size);obtain⟨N,hN⟩:=nm (zpu init.length (Ps.map (·.1)));have hbP:=hlt fP;refine⟨Unit,fun _=>⟨[(0,At0 bP),(1,.slice pp Ps.length cp),(4,At0 L)],[]⟩,fun _ X=>X.heap[L]?=some (.cells (zbJ).toArray 172 (0,0))/\Bw w X,?_,?_⟩
 ·exact⟨(),⟨.cons rfl (.cons rfl (.cons (by rw [hL];rfl) .nil)),rfl⟩,by rw [hL];exact zz w _,(zba w _)⟩
 rintro _ X ⟨f0,hbX⟩;have ldP:∀ {X:Wd},Bw w X->∀ {i:Nat} {v:Value},pc[i]?=some v->X.cell? ⟨bP,0+i,none⟩=some v:=fun {X} hb {i v} h=>zc (za ((hb.block bP hbP).trans fP)) (by simpa using h);refine⟨_,ldP hbX h1,Unit,fun _=>⟨[(0,At0 bP),(1,.slice pp Ps.length cp),(4,At0 L),(6,i64 N)],[]⟩,fun _ X=>X.heap[L]?=some (.cells (zbJ).toArray 172 (0,0))/\Bw w X,?_,?_⟩
 ·refine⟨Nat×Nat,fun s=>⟨[(0,At0 bP),(1,.slice pp Ps.length cp),(4,At0 L),(6,i64 (s.2:Nat)),(23,.slice pp Ps.length cp),(24,i64 Ps.length),(25,i64 (s.1:Nat))],[]⟩,
   fun s Y=>s.1<=Ps.length/\s.2<=init.length+24*s.1/\((Ps.map (·.1)).drop s.1).foldl (fun n P=>n+P.ev.length) s.2=N/\Y.heap[L]?=some (.cells (zbJ).toArray 172 (0,0))/\Bw w Y,fun s=>Ps.length-s.1,(0,init.length),
   (cvE rfl rfl),⟨Gg _,Ge _,hN.symm,f0,hbX⟩,?_⟩
  clear f0 hbX;rintro⟨k,n⟩ Y ⟨hk,hn,hacc,f0,hbY⟩;dsimp only at hk hn hacc ⊢;refine biE (fun hc=>?_) fun hc=>?_
  ·have hc:(k:Int)<(Ps.length:Int):=dT hc;have hkl:k<Ps.length:=by omega
   obtain⟨x,hx⟩:∃ x,Ps[k]=x:=⟨_,rfl⟩;have hxm:x∈Ps:=by rw [<- hx];exact gM hkl
   have hdp:(Ps.map (·.1)).drop k=x.1::(Ps.map (·.1)).drop (k+1):=by
    rw [<- JD (show k<(Ps.map (·.1)).length by simpa using hkl)];simp [hx]
   rw [hdp] at hacc;have hev:=(hPb x hxm).ev;obtain⟨bp,op,rfl,hlp,hat⟩:=hP.at hkl;refine⟨k,rfl,hkl,jQ.enc x,jQ.len x,by rw [<- hx];exact zt hbY (hat k hkl),nL hlp hbY.size,zn (X:=Y) (v := .agg (jQ.enc x).toArray) zoA (jQ.len x) rfl (Qj.2 fun u hu=>jQ.one x u hu) fun Z hbZ fZ sZ=>?_⟩;have fZ:Z.heap[Y.heap.size]?=some (.cells (jQ.enc x).toArray 241 (0,0)):=fZ;exact⟨.slice x.2.1.1 x.1.ev.length x.2.1.2,zc (za fZ) (i:=0) rfl,((n+x.1.ev.length:Nat):Int),(zk (by omega)).trans (by omega),nxI (by omega) ⟨(k+1,n+x.1.ev.length),(cvE rfl rfl),⟨hkl,by show n+x.1.ev.length<=init.length+24*(k+1);omega,hacc,zb hbZ f0,(zst hbY hbZ)⟩,zdc (by omega)⟩⟩
  ·have hc:¬ (k:Int)<(Ps.length:Int):=dF hc;rw [Jz (by rw [QQ];omega)] at hacc;have hacc:n=N:=hacc;subst hacc;exact⟨(),(cvE rfl rfl),f0,hbY⟩
 clear f0 hbX;rintro _ X ⟨f0,hbX⟩;have hmr:zkE init (Ps.map (·.1))=if N<=48 then some (zax (zq6 init (Ps.map (·.1))) init.length) else none:=by rw [hN];rfl
 have hLX:=hlt f0;refine biE (fun h=>?_) fun h=>?_
 ·have h:(48:Int)<(N:Nat):=dT h;rw [hmr,Gy (by omega)];refine⟨zbJ,by kernel_rfl,?_⟩;exact zr (v := .agg (zbJ).toArray) zqi f0 zaq zaq (by kernel_rfl) ⟨zbJ,zaq,za (zm f0),⟨_,rfl⟩,zj hbX (by omega) _⟩
 have h:¬ (48:Int)<(N:Nat):=dF h;have hN48:N<=48:=by omega
 rw [hmr,Gz hN48];refine cmo zsM ?_;rintro e Y ⟨rfl,hbY⟩;refine⟨exC (ex0 N) none 0++[z7,z7,z7],by kernel_rfl,?_⟩;refine zn (X:=Y) (v := .agg (exC (ex0 N) none 0++[z7,z7,z7]).toArray) zqi (by show (exC (ex0 N) none 0++[z7,z7,z7]).length=_;rw [lap,zI];rfl) zaq (by show (exC (ex0 N) none 0++[z7,z7,z7]).all _=true;rw [QL,zdk];rfl) fun V hbV fV sV=>⟨Nat,fun M=>⟨[(0,At0 bP),(1,.slice pp Ps.length cp),(4,At0 L),(9,At0 M),(10,At0 M)],[]⟩,fun M X=>L<M/\zbo X M (ex0 N) none 0 [z7,z7,z7]/\X.heap[L]?=some (.cells (zbJ).toArray 172 (0,0))/\Bw w X,?_,?_⟩
 ·exact⟨Y.heap.size,(cvE rfl rfl),by have:=hbY.size;omega,fV,zb hbV (zb hbY f0),((zst hbX hbY)).trans (hbV.mono (by have:=hbX.size;have:=hbY.size;omega))⟩
 clear fV sV hbV V hbY Y;clear f0 hbX hLX;rintro M X ⟨hLM,fM,f0,hbX⟩;dsimp only at fM ⊢;refine⟨OA×Nat,fun _=>⟨[(0,At0 bP),(1,.slice pp Ps.length cp),(4,At0 L),(9,At0 M),(10,At0 M)],[]⟩,fun s X=>zbo X M { ex0 N with ev:=j4 0 init } s.1 s.2 [z7,z7,z7]/\OwnS evE 158 w.heap.size X s.1 s.2 (j4 0 init)/\X.heap[L]?=some (.cells (zbJ).toArray 172 (0,0))/\Bw w X,?_,?_⟩
 ·refine⟨_,ldP hbX h2,?_⟩;refine⟨Nat×OA×Nat,fun s=>⟨[(0,At0 bP),(1,.slice pp Ps.length cp),(4,At0 L),(9,At0 M),(10,At0 M),(45,.slice pi init.length ci),(46,i64 init.length),(47,i64 (s.1:Nat))],[]⟩,
   fun s Y=>s.1<=init.length/\zbo Y M { ex0 N with ev:=(j4 0 init).take s.1 } s.2.1 s.2.2 [z7,z7,z7]/\OwnS evE 158 w.heap.size Y s.2.1 s.2.2 ((j4 0 init).take s.1)/\Y.heap[L]?=some (.cells (zbJ).toArray 172 (0,0))/\Bw w Y,fun s=>init.length-s.1,(0,none,0),
   (cvE rfl rfl),⟨Gg _,fM,OwnS.nil,f0,hbX⟩,?_⟩
  clear fM f0 hbX;rintro⟨k,q,c⟩ Y ⟨hk,fM,ho,f0,hbY⟩;dsimp only at hk fM ho ⊢;refine biE (fun hc=>?_) fun hc=>?_
  ·have hc:(k:Int)<(init.length:Int):=dT hc;have hkl:k<init.length:=by omega
   obtain⟨bi,oi,rfl,hli,hat⟩:=hi.at hkl;have htk:=zkR hkl;have htl:((j4 0 init).take k).length=k:=by rw [Qu,zbl];omega
   refine⟨k,rfl,hkl,u8 init[k],zc (zt hbY (hat k hkl)) (i:=0) rfl,_,zde fM,_,w8N k,?_⟩;obtain⟨e,he⟩:∃ e:Ev,e=⟨-1,2,UInt8.ofNat k,init[k],0,0,0⟩:=⟨_,rfl⟩;refine⟨evE.enc e,by rw [he];rfl,?_⟩;refine⟨⟨by decide,by decide,rfl⟩,evE.enc e,zbA rfl rfl,?_⟩;obtain⟨Y1,hY1⟩:=nm (Y.alloc (.cells (evE.enc e).toArray 158));have hb1:Bw Y Y1:=by rw [hY1];exact (zba _ _)
   have sY:=hbY.size;have ho1:=ho.below hb1;unfold zeK zaI;show SatR _ _;rw [<- hY1];refine zwO ho1 (by rw [hY1];exact qH evE e) (by have:=hb1.size;omega) (by omega) fun q1 c1 U oU gU hat1=>?_;have fMU:=qp (zb hb1 fM) ho1 (by decide) gU;have f0U:=qp (zb hb1 f0) ho1 (by decide) gU;refine zy k25 fMU (o:=0+0) (v := .slice q1 ((j4 0 init).take k++[e]).length c1) rfl rfl (by rw [lap,zI];decide) rfl fun S fS gS sS=>?_;rw [show 0+0=0 from rfl,ztC,he,<- htk] at fS;refine nxI (by omega) ⟨(k+1,q1,c1),(cvE rfl rfl),⟨hkl,fS,by rw [he,<- htk] at oU;exact qq oU fMU (by decide) gS,(gS.block L (hlt f0U) (by simp;omega)).trans f0U,?_⟩,zdc (by omega)⟩;have sU:=gU.size;have s1:=hb1.size;exact ((hbY.trans (hb1.mono sY)).trans (q5 ho1 (by omega) (Ge _) gU)).trans (zq gS (by omega) (by omega))
  ·have hc:¬ (k:Int)<(init.length:Int):=dF hc;obtain rfl:k=init.length:=by omega
   have e:(j4 0 init).take init.length=j4 0 init:=JE (by rw [zbl];exact Ge _);rw [e] at fM ho;exact⟨(q,c),(cvE rfl rfl),fM,ho,f0,hbY⟩
 clear fM f0 hbX;rintro⟨q,c⟩ X ⟨fM,ho,f0,hbX⟩;dsimp only at fM ho ⊢;obtain⟨x0,hx0⟩:∃ x0:ExD,x0={ ex0 N with ev:=j4 0 init }:=⟨_,rfl⟩;have hx0e:x0.ev=j4 0 init:=by rw [hx0]
 rw [<- hx0] at fM;rw [<- hx0e] at ho;refine⟨OA×Nat,fun _=>⟨[(0,At0 bP),(1,.slice pp Ps.length cp),(4,At0 L),(9,At0 M),(10,At0 M)],[]⟩,fun s X=>zbo X M (asR 0 (Ps.map (·.1)) x0) s.1 s.2 [z7,z7,z7]/\OwnS evE 158 w.heap.size X s.1 s.2 (asR 0 (Ps.map (·.1)) x0).ev/\(asR 0 (Ps.map (·.1)) x0).ev.length=N/\(∀ e∈(asR 0 (Ps.map (·.1)) x0).ev,e.k=1\/e.k=2->e.l.toNat<init.length)/\X.heap[L]?=some (.cells (zbJ).toArray 172 (0,0))/\Bw w X,?_,?_⟩
 ·refine⟨Nat×ExD×OA×Nat,fun s=>⟨[(0,At0 bP),(1,.slice pp Ps.length cp),(4,At0 L),(9,At0 M),(10,At0 M),(66,.slice pp Ps.length cp),(67,i64 Ps.length),(68,i64 (s.1:Nat))],[]⟩,
   fun s Y=>s.1<=Ps.length/\asR s.1 ((Ps.map (·.1)).drop s.1) s.2.1=asR 0 (Ps.map (·.1)) x0/\((Ps.map (·.1)).drop s.1).foldl (fun n P=>n+P.ev.length) s.2.1.ev.length=N/\(zG s.2.1.dt.to/\zG s.2.1.ct.to/\zG s.2.1.rm.to)/\(∀ e∈s.2.1.ev,e.k=1\/e.k=2->e.l.toNat<init.length) /\
    zbo Y M s.2.1 s.2.2.1 s.2.2.2 [z7,z7,z7]/\OwnS evE 158 w.heap.size Y s.2.2.1 s.2.2.2 s.2.1.ev/\Y.heap[L]?=some (.cells (zbJ).toArray 172 (0,0))/\Bw w Y,fun s=>Ps.length-s.1,(0,x0,q,c),
   (cvE rfl rfl),⟨Gg _,rfl,by rw [hN,hx0e,zbl];rfl,?_,?_,fM,ho,f0,hbX⟩,?_⟩
  ·rw [hx0];exact⟨fun i _=>(by decide:0<2^64),fun i _=>(by decide:0<2^64),fun i _=>(by decide:0<2^64)⟩
  ·intro e he _;rw [hx0e] at he;obtain⟨j,hj⟩:=List.mem_iff_getElem?.1 he;have hjl:j<init.length:=by
    have:=(Jq.1 hj).1
    rwa [zbl] at this
   rw [zf5 init 0 hjl] at hj;rw [<- Ug hj];show (UInt8.ofNat (0+j)).toNat<init.length;have:=zlF (n:=0+j) (by omega);omega
  clear fM ho f0 hbX;rintro⟨k,x,q,c⟩ Y ⟨hk,hacc,hfold,⟨hw1,hw2,hw3⟩,hloc,fM,ho,f0,hbY⟩;dsimp only at hk hacc hfold hw1 hw2 hw3 hloc fM ho ⊢;refine biE (fun hc=>?_) fun hc=>?_
  ·have hc:(k:Int)<(Ps.length:Int):=dT hc;have hkl:k<Ps.length:=by omega
   obtain⟨y,hy⟩:∃ y,Ps[k]=y:=⟨_,rfl⟩;have hym:y∈Ps:=by rw [<- hy];exact gM hkl
   have hdp:(Ps.map (·.1)).drop k=y.1::(Ps.map (·.1)).drop (k+1):=by
    rw [<- JD (show k<(Ps.map (·.1)).length by simpa using hkl)];simp [hy]
   rw [hdp] at hacc hfold;rw [zq7] at hacc;have hfold:((Ps.map (·.1)).drop (k+1)).foldl (fun n P=>n+P.ev.length) (x.ev.length+y.1.ev.length)=N:=hfold;have hsz:=zpt (x.ev.length+y.1.ev.length) ((Ps.map (·.1)).drop (k+1));rw [hfold] at hsz;obtain⟨b24,bloc,bdt,bct,brm,ldt,lct,lrm⟩:=hPb y hym;obtain⟨bp,op,rfl,hlp,hat⟩:=hP.at hkl;refine⟨k,rfl,hkl,jQ.enc y,jQ.len y,by rw [<- hy];exact zt hbY (hat k hkl),nL hlp hbY.size,zn (X:=Y) (v := .agg (jQ.enc y).toArray) zoA (jQ.len y) rfl (Qj.2 fun u hu=>jQ.one y u hu) fun Z hbZ fZ sZ=>?_⟩;obtain⟨D,hD⟩:=nm (Y.heap.size);have fD:Z.heap[D]?=some (.cells (jQ.enc y).toArray 241 (0,0)):=by rw [hD];exact fZ
   have hMD:M<D:=by rw [hD];exact hlt fM
   have eD:At0 Y.heap.size=At0 D:=by rw [hD]
   have fMZ:=zb hbZ fM;have f0Z:=zb hbZ f0;have hoZ:=ho.below hbZ;have hwZ:=zst hbY hbZ;refine⟨_,zde fMZ,.slice y.2.1.1 y.1.ev.length y.2.1.2,by rw [<- hD];exact zc (za fD) (i:=0) rfl,?_⟩;refine⟨Nat×OA×Nat,fun s=>⟨[(0,At0 bP),(1,.slice (some ⟨bp,op,none⟩) Ps.length cp),(4,At0 L),(9,At0 M),(10,At0 M),(13,i64 (k:Nat)),(14,At0 D),(15,i64 x.ev.length),(66,.slice (some ⟨bp,op,none⟩) Ps.length cp),(67,i64 Ps.length),(68,i64 (k:Nat)),(79,.slice y.2.1.1 y.1.ev.length y.2.1.2),(80,i64 y.1.ev.length),(81,i64 (s.1:Nat))],[]⟩,
    fun s V=>s.1<=y.1.ev.length/\zbo V M { x with ev:=x.ev++zeB k (y.1.ev.take s.1) } s.2.1 s.2.2 [z7,z7,z7]/\OwnS evE 158 w.heap.size V s.2.1 s.2.2 (x.ev++zeB k (y.1.ev.take s.1))/\V.heap[L]?=some (.cells (zbJ).toArray 172 (0,0))/\V.heap[D]?=some (.cells (jQ.enc y).toArray 241 (0,0))/\Bw w V,fun s=>y.1.ev.length-s.1,(0,q,c),
    ⟨.cons rfl (.cons rfl (.cons rfl (.cons rfl (.cons rfl (.cons rfl (.cons (Gs some eD) (.cons rfl (.cons rfl (.cons rfl (.cons rfl (.cons rfl (.cons rfl (.cons rfl .nil))))))))))))),rfl⟩,⟨Gg _,by show zbo Z M { x with ev:=x.ev++[] } q c _;rw [QM];exact fMZ,by show OwnS _ _ _ Z q c (x.ev++[]);rw [QM];exact hoZ,f0Z,fD,hwZ⟩,?_⟩
   clear fMZ f0Z hoZ hwZ fZ sZ hbZ fM ho f0 hbY;rintro⟨j,q,c⟩ V ⟨hj,fM,ho,f0,fD,hbV⟩;dsimp only at hj fM ho ⊢;have sV:=hbV.size;have hS:=(hPs y hym).below hbV;refine biE (fun hc=>?_) fun hc=>?_
   ·have hc:(j:Int)<(y.1.ev.length:Int):=dT hc;have hjl:j<y.1.ev.length:=(by omega);obtain⟨e,he⟩:∃ e,y.1.ev[j]=e:=⟨_,rfl⟩;have htk:=znV (k:=k) hjl;rw [he] at htk;obtain⟨be,oe,hbe,hle,hate⟩:=hS.ev.at hjl;rw [hbe];refine⟨j,rfl,hjl,evE.enc e,rfl,by rw [<- he];exact hate j hjl,hle,?_⟩;refine zn (X:=V) (v := .agg (evE.enc e).toArray) zd3 rfl rfl (Qj.2 fun u hu=>evE.one e u hu) fun T hbT fT sT=>?_;have fT:T.heap[V.heap.size]?=some (.cells (evE.enc e).toArray 158 (0,0)):=fT;refine zy k3 fT (o:=0+0) (v:=i64 (k:Nat)) rfl rfl (by show 0<7;decide) rfl fun T2 fT2 gT2 sT2=>?_;obtain⟨e2,he2⟩:∃ e2:Ev,e2={ e with th:=k }:=⟨_,rfl⟩;have fT2:T2.heap[V.heap.size]?=some (.cells (evE.enc e2).toArray 158 (0,0)):=(by rw [he2];exact fT2);have hVT:Bw V T2:=hbT.trans (zq gT2 (by omega) (Ge _));have fM2:=zb hVT fM;have fT3:=hdr fT2;have hd:Bw T2 T2.drew:=(Gj _ T2).drew;have hlenx:(x.ev++zeB k (y.1.ev.take j)).length<=48:=by
     unfold zeB;rw [lap,QQ,Qu];omega
    have ho2:=ho.below hVT;refine DrawE.ord [7,10] [0,1,2,3,4,5,6,7,8,9,10] (by kernel_rfl) ⟨_,zde (hdr fM2),evE.enc e2,rfl,za fT3,hlt fT3,⟨by decide,by decide,rfl⟩,evE.enc e2,zbA rfl rfl,?_⟩;obtain⟨Y1,hY1⟩:=nm (T2.drew.alloc (.cells (evE.enc e2).toArray 158));have hb1:Bw T2 Y1:=(by rw [hY1];exact hd.trans ((Gj T2.drew.heap.size _).alloc (Ge _) _));refine⟨(zba _ _),?_⟩;have sT:=hVT.size;have s1:=hb1.size;have ho3:=ho2.below hb1;unfold zom zaI;show SatR _ _;rw [<- hY1];refine zwO ho3 (by rw [hY1];exact qH evE e2) (by omega) (by omega) fun q1 c1 U oU gU hat1=>?_;have fMU:=qp (zb hb1 fM2) ho3 (by decide) gU;have f0U:=qp (zb (hVT.trans (hb1.mono sT)) f0) ho3 (by decide) gU;have fDU:=qp (zb (hVT.trans (hb1.mono sT)) fD) ho3 (by decide) gU;refine zy k25 fMU (o:=0+0) (v := .slice q1 ((x.ev++zeB k (y.1.ev.take j))++[e2]).length c1) rfl rfl (by rw [lap,zI];decide) rfl fun S fS gS sS=>?_;have hev2:(x.ev++zeB k (y.1.ev.take j))++[e2]=x.ev++zeB k (y.1.ev.take (j+1)):=(by rw [htk,he2,KO]);rw [show 0+0=0 from rfl,ztC,hev2] at fS;refine nxI (by omega) ⟨(j+1,q1,c1),(cvE rfl rfl),⟨hjl,fS,by rw [hev2] at oU;exact qq oU fMU (by decide) gS,(gS.block L (hlt f0U) (by simp;omega)).trans f0U,(gS.block D (hlt fDU) (by simp;omega)).trans fDU,?_⟩,zdc (by omega)⟩;have sU:=gU.size;exact ((hbV.trans ((hVT.trans (hb1.mono sT)).mono sV)).trans (q5 ho3 (by omega) (Ge _) gU)).trans (zq gS (by omega) (by omega))
   ·have hc:¬ (j:Int)<(y.1.ev.length:Int):=dF hc;obtain rfl:j=y.1.ev.length:=(by omega);rw [Qw] at fM ho;obtain⟨x1,hx1⟩:∃ x1:ExD,x1={ x with ev:=x.ev++zeB k y.1.ev }:=⟨_,rfl⟩;rw [<- hx1] at fM;have fM0:=fM;have ho0:=ho;have f00:=f0;have fD0:=fD;have hb0:=hbV;have hS0:=hS;obtain⟨x2,hx2⟩:∃ z:ExD,z={ x1 with dt:=zlY x.ev.length y.1.data x.dt }:=⟨_,rfl⟩;obtain⟨A1,Z1,hA1,hE1⟩:=zno x1 q c [z7,z7,z7];have hx1dt:x1.dt=x.dt:=(by rw [hx1]);have hR1:RelAt V M 148 172 A1 Z1 x.dt:=⟨hA1,by
     have h:=hE1 x1.dt;rw [hx1dt] at h;rw [<- h,<- hx1dt];exact fM0⟩
    have dw1:Bw V V.drew:=(Gj _ _).drew;refine DrawE.ord [6] [0,1,2,3,4,5,6] (by kernel_rfl) ⟨.slice y.2.2.1.1 y.1.data.length y.2.2.1.2,zc (za (hdr fD0)) (i:=1) rfl,cmo (zpL (f:=x.ev.length) (hR1.same (Y:=V.drew) rfl) hw1 ((hS0.dt).below dw1) (fun a ha=>by have:=hS0.lt a (.inl ha);omega) ldt (zcQ bdt (by omega))) ?_⟩;rintro e V1 ⟨rfl,hRn1,gn1⟩;have g1:V.grownBy V1 (some M):=zh (zi dw1) gn1;have sg1:=g1.size;have fM1:zbo V1 M x2 q c [z7,z7,z7]:=by
     have h:=hRn1.cells;rw [<- hE1] at h;rw [hx2];exact h
    have ho1:=qq ho0 fM0 (by decide) g1;have f01:=(g1.block L (hlt f00) (by simp;omega)).trans f00;have fD1:=(g1.block D (hlt fD0) (by simp;omega)).trans fD0;have hb1:Bw w V1:=hb0.trans (zq g1 hb0.size (by omega));have hS1:=(hPs y hym).below hb1;obtain⟨x3,hx3⟩:∃ z:ExD,z={ x2 with ct:=zlY x.ev.length y.1.ctrl x.ct }:=⟨_,rfl⟩;obtain⟨A2,Z2,hA2,hE2⟩:=znp x2 q c [z7,z7,z7];have hx2ct:x2.ct=x.ct:=(by rw [hx2];rw [hx1]);have hR2:RelAt V1 M 197 172 A2 Z2 x.ct:=⟨hA2,by
     have h:=hE2 x2.ct;rw [hx2ct] at h;rw [<- h,<- hx2ct];exact fM1⟩
    have dw2:Bw V1 V1.drew:=(Gj _ _).drew;refine DrawE.ord [6] [0,1,2,3,4,5,6] (by kernel_rfl) ⟨.slice y.2.2.2.1.1 y.1.ctrl.length y.2.2.2.1.2,zc (za (hdr fD1)) (i:=2) rfl,cmo (zpL (f:=x.ev.length) (hR2.same (Y:=V1.drew) rfl) hw2 ((hS1.ct).below dw2) (fun a ha=>by have:=hS1.lt a (.inr (.inl ha));omega) lct (zcQ bct (by omega))) ?_⟩;rintro e V2 ⟨rfl,hRn2,gn2⟩;have g2:V1.grownBy V2 (some M):=zh (zi dw2) gn2;have sg2:=g2.size;have fM2:zbo V2 M x3 q c [z7,z7,z7]:=by
     have h:=hRn2.cells;rw [<- hE2] at h;rw [hx3];exact h
    have ho2:=qq ho1 fM1 (by decide) g2;have f02:=(g2.block L (hlt f01) (by simp;omega)).trans f01;have fD2:=(g2.block D (hlt fD1) (by simp;omega)).trans fD1;have hb2:Bw w V2:=hb1.trans (zq g2 hb1.size (by omega));have hS2:=(hPs y hym).below hb2;obtain⟨x4,hx4⟩:∃ z:ExD,z={ x3 with rm:=zlY x.ev.length y.1.rmw x.rm }:=⟨_,rfl⟩;obtain⟨A3,Z3,hA3,hE3⟩:=znm x3 q c [z7,z7,z7];have hx3rm:x3.rm=x.rm:=(by rw [hx3];rw [hx2];rw [hx1]);have hR3:RelAt V2 M 246 172 A3 Z3 x.rm:=⟨hA3,by
     have h:=hE3 x3.rm;rw [hx3rm] at h;rw [<- h,<- hx3rm];exact fM2⟩
    have dw3:Bw V2 V2.drew:=(Gj _ _).drew;refine DrawE.ord [6] [0,1,2,3,4,5,6] (by kernel_rfl) ⟨.slice y.2.2.2.2.1 y.1.rmw.length y.2.2.2.2.2,zc (za (hdr fD2)) (i:=3) rfl,cmo (zpL (f:=x.ev.length) (hR3.same (Y:=V2.drew) rfl) hw3 ((hS2.rm).below dw3) (fun a ha=>by have:=hS2.lt a (.inr (.inr ha));omega) lrm (zcQ brm (by omega))) ?_⟩;rintro e V3 ⟨rfl,hRn3,gn3⟩;have g3:V2.grownBy V3 (some M):=zh (zi dw3) gn3;have sg3:=g3.size;have fM3:zbo V3 M x4 q c [z7,z7,z7]:=by
     have h:=hRn3.cells;rw [<- hE3] at h;rw [hx4];exact h
    have ho3:=qq ho2 fM2 (by decide) g3;have f03:=(g3.block L (hlt f02) (by simp;omega)).trans f02;have fD3:=(g3.block D (hlt fD2) (by simp;omega)).trans fD2;have hb3:Bw w V3:=hb2.trans (zq g3 hb2.size (by omega));have hS3:=(hPs y hym).below hb3;have hx5:zjK x k y.1={ x4 with regs:=fun i=>if i/8=k then y.1.regs (i%8) else x4.regs i }:=(by rw [hx4,hx3,hx2,hx1];rfl);obtain⟨A5,Z5,hA5,hE5⟩:=zsF x4 q c [z7,z7,z7];have hM5:exC x4 q c++[z7,z7,z7]=A5++(seg 32 (fun i=>u8 (x4.regs i))++Z5):=hE5 x4.regs;have fM5:V3.heap[M]?=some (.cells (A5++(seg 32 (fun i=>u8 (x4.regs i))++Z5)).toArray 172 (0,0)):=(by rw [<- hM5];exact fM3);have hsub:((jQ.enc y).drop 4).take 8=seg 8 (fun i=>u8 (y.1.regs i)):=JE (by rw [Qt,jQ.len];decide);refine DrawE.ord [8] [0,1,2,3,4,5,6,7,8] (by kernel_rfl) ⟨seg 8 (fun i=>u8 (y.1.regs i)),zM _ _,by rw [<- hsub];have:=zV (n:=4) (m:=8) (za (hdr fD3));exact this,hlt (hdr fD3),k,rfl,by omega,?_⟩;refine jk k31 (hdr fM5) (o:=295+k*8) (v := .agg (seg 8 (fun i=>u8 (y.1.regs i))).toArray) (zM _ _) (by show 295+k*8+(seg 8 _).length<=(A5++(seg 32 _++Z5)).length;rw [<- hM5,lap,zI,zM];show _<=336;omega) (zbN fun _=>rfl) fun S fS gS sS=>?_;obtain⟨x5,hx5e⟩:=nm (zjK x k y.1);have fS:zbo S M x5 q c [z7,z7,z7]:=by
     refine fS.trans ?_;have e1:=zkr (A:=A5) (Z:=Z5) (l:=seg 32 (fun i=>u8 (x4.regs i))) (r:=seg 8 (fun i=>u8 (y.1.regs i))) (o:=k*8) (m:=8) hA5 (by rw [zM];omega) (zM _ _);rw [zpz (by omega)] at e1;rw [hx5e,hx5,hE5,<- e1];show some (Obj.cells ((A5++(seg 32 (fun i=>u8 (x4.regs i))++Z5)).take (295+k*8)++seg 8 (fun i=>u8 (y.1.regs i))++(A5++(seg 32 (fun i=>u8 (x4.regs i))++Z5)).drop (295+k*8+(seg 8 (fun i=>u8 (y.1.regs i))).length)).toArray _ _)=_;rw [zM]
    have dw4:Bw V3 V3.drew:=(Gj _ _).drew;have g4:V3.grownBy S (some M):=zh (zi dw4) gS;have hev5:x5.ev=x.ev++zeB k y.1.ev:=(by rw [hx5e];rfl);have hx1e:x1.ev=x5.ev:=(by rw [hx1,hev5]);have hlen5:x5.ev.length=x.ev.length+y.1.ev.length:=(by rw [hev5,lap];unfold zeB;rw [QQ]);refine nxI (by omega) ⟨(k+1,x5,q,c),(cvE rfl rfl),⟨hkl,by rw [hx5e];exact hacc,by rw [hlen5];exact hfold,?_,fun e he hk=>?_,fS,?_,(g4.block L (hlt f03) (by simp;omega)).trans f03,hb3.trans (zq g4 hb3.size (by omega))⟩,zdc (by omega)⟩
    ·rw [hx5e];exact⟨zfg hw1 (zcQ bdt (by omega)),zfg hw2 (zcQ bct (by omega)),zfg hw3 (zcQ brm (by omega))⟩
    ·have he:e∈x5.ev:=he;rw [hev5] at he;rcases QU.1 he with he | he
     ·exact hloc e he hk
     ·unfold zeB at he;obtain⟨e',he',rfl⟩:=UP.1 he;exact bloc e' he' hk
    ·show OwnS evE 158 w.heap.size S q c x5.ev;rw [hev5];exact qq ho3 fM3 (by decide) g4
  ·have hc:¬ (k:Int)<(Ps.length:Int):=dF hc;rw [Jz (by rw [QQ];omega)] at hacc hfold;have hacc:x=asR 0 (Ps.map (·.1)) x0:=hacc;have hfold:x.ev.length=N:=hfold;rw [<- hacc];exact⟨(q,c),(cvE rfl rfl),fM,ho,hfold,hloc,f0,hbY⟩
 clear fM ho f0 hbX;rintro⟨q,c⟩ X ⟨fM,ho,hxl,hloc,f0,hbX⟩;dsimp only at fM ho ⊢;obtain⟨AX,hAX⟩:=nm (asR 0 (Ps.map (·.1)) x0);rw [<- hAX] at fM ho hxl hloc;obtain⟨BX,hBX⟩:∃ BX:ExD,BX={ AX with po:=poR AX.ev }:=⟨_,rfl⟩;have hbase:zq6 init (Ps.map (·.1))=BX:=by
  rw [hBX,hAX,hx0,hN];rfl
 rw [hbase];refine⟨Unit,fun _=>⟨[(0,At0 bP),(1,.slice pp Ps.length cp),(4,At0 L),(9,At0 M),(10,At0 M)],[]⟩,fun _ X=>zbo X M BX q c [z7,z7,z7]/\OwnS evE 158 w.heap.size X q c BX.ev/\X.heap[L]?=some (.cells (zbJ).toArray 172 (0,0))/\Bw w X,?_,?_⟩
 ·refine⟨_,zde fM,cmo (zdO ho.row (by omega)) ?_⟩;rintro e Y ⟨rfl,hbY⟩;have fMY:=zb hbY fM;obtain⟨A5,Z5,hA5,hE5⟩:=znn AX q c [z7,z7,z7];have hM5:exC AX q c++[z7,z7,z7]=A5++(zd AX.po++Z5):=hE5 AX.po;have fM5:Y.heap[M]?=some (.cells (A5++(zd AX.po++Z5)).toArray 172 (0,0)):=by rw [<- hM5];exact fMY
  refine jk k30 fM5 (o:=0+1) (v := .agg (zd (poR AX.ev)).toArray) (ze _) (by show 0+1+(zd _).length<=(A5++(zd AX.po++Z5)).length;rw [<- hM5,lap,zI,ze];decide) (zD _) fun S fS gS sS=>?_;have fS:zbo S M BX q c [z7,z7,z7]:=by
   refine fS.trans ?_;have e1:=zkr (A:=A5) (Z:=Z5) (l:=zd AX.po) (r:=zd (poR AX.ev)) (o:=0) (m:=49) hA5 (by rw [ze];omega) (ze _);rw [hBX,hE5];have e2:(zd AX.po).take 0++zd (poR AX.ev)++(zd AX.po).drop (0+49)=zd (poR AX.ev):=by
    rw [Us,QW,Jz (by rw [ze];omega),QM]
   rw [e2] at e1;rw [<- e1];show some (Obj.cells ((A5++(zd AX.po++Z5)).take (0+1)++zd (poR AX.ev)++(A5++(zd AX.po++Z5)).drop (0+1+(zd (poR AX.ev)).length)).toArray _ _)=_;rw [ze]
  have hLX:=hlt f0;have hbwY:=zst hbX hbY;exact⟨(),(cvE rfl rfl),fS,by rw [hBX];exact qq (ho.below hbY) fMY (by decide) gS,(gS.block L (hlt (zb hbY f0)) (by simp;omega)).trans (zb hbY f0),hbwY.trans (zq gS hbwY.size (by omega))⟩
 have hBe:BX.ev=AX.ev:=by rw [hBX]
 clear fM ho f0 hbX;rintro _ X ⟨fM,ho,f0,hbX⟩;refine⟨List Value,fun _=>⟨[(0,At0 bP),(1,.slice pp Ps.length cp),(4,At0 L),(9,At0 M),(10,At0 M)],[]⟩,fun vs X=>X.heap[M]?=some (.cells vs.toArray 172 (0,0))/\zwW w.heap.size X vs (zax BX init.length)/\X.heap[L]?=some (.cells (zbJ).toArray 172 (0,0))/\Bw w X,?_,?_⟩
 ·refine⟨_,ldP hbX h1,?_⟩;have hqM:∀ a,q=some a->a.block≠M:=fun a ha e=>by
   obtain⟨_,_,cur,h'⟩:=zA ho ha;rw [e,fM] at h';simp at h'
  refine cmo (zoT fM ho.row hqM (by rw [hBe];omega) (by omega) (by rw [hBe];exact hloc)) ?_;rintro e Y ⟨rfl,⟨p1,p2,p3,c1,c2,c3,xs,ys,fY,h1',h2',h3',h4',h5',h6',h7'⟩,gY⟩;have hwX:=hbX.size;refine⟨_,(cvE rfl rfl),fY,⟨q,p1,p2,p3,c,c1,c2,c3,xs,ys,rfl,qq ho fM (by decide) gY,h1'.lower hwX,h2',h3'.lower hwX,fun y hy=>(h4' y hy).lower hwX,h5',h6'.lower hwX,fun y hy=>(h7' y hy).lower hwX⟩,(gY.block L (hlt f0) (by simp;omega)).trans f0,hbX.trans (zq gY hbX.size (by omega))⟩
 clear fM ho f0 hbX;rintro vs X ⟨fM,hv,f0,hbX⟩;have hvl:vs.length=336:=by
  obtain⟨q,p1,p2,p3,c,c1,c2,c3,xs,ys,e,_⟩:=hv;rw [e,lap,zI];rfl
 have hv1:vs.all Value.oneCell'=true:=by
  obtain⟨q,p1,p2,p3,c,c1,c2,c3,xs,ys,e,_⟩:=hv;rw [e,QL,zdk];rfl
 refine⟨vs,hvl,za fM,hlt fM,zr (v := .agg vs.toArray) zqi f0 hvl zaq hv1 ⟨vs,hvl,za (zm f0),⟨vs,rfl,?_⟩,zj hbX (by omega) _⟩⟩;obtain⟨q,p1,p2,p3,c,c1,c2,c3,xs,ys,e,k1,k2,k3,k4,k5,k6,k7,k8⟩:=hv;have kp:∀ {α:Type} {E:Enc α} {T cc:Nat} {r:OA} {ll:List α},T≠172->OwnS E T w.heap.size X r cc ll->OwnS E T w.heap.size (X.setRow L vs.toArray) r cc ll:=fun {α E T cc r ll} hT h=>qq h f0 hT (qA X L _);exact⟨q,p1,p2,p3,c,c1,c2,c3,xs,ys,e,kp (by decide) k1,kp (by decide) k2,k3,kp (by decide) k4,fun y hy=>kp (by decide) (k5 y hy),k6,kp (by decide) k7,fun y hy=>kp (by decide) (k8 y hy)⟩
end
structure ExV (w:Wd) (x:ExD) (q:OA):Prop where
 ev:SlR evE w q x.ev
 n:x.ev.length<=20
 po:zG x.po.to
 rf:zG x.rf.to
 co:zG x.co.to
 dt:zG x.dt.to
 ct:zG x.ct.to
 rm:zG x.rm.to
theorem ExV.below {w w2:Wd} {x:ExD} {q:OA} (h:ExV w x q) (hb:Bw w w2):ExV w2 x q:=⟨h.ev.below hb,h.n,h.po,h.rf,h.co,h.dt,h.ct,h.rm⟩
theorem zcd {w:Wd} {q:OA} {l:List Ev} (h:SlR evE w q l) {i:Nat} (hi:i<l.length):∃ b o,q=some ⟨b,o,none⟩/\b<w.heap.size/\zw w ⟨b,o+i*7,none⟩ (evE.enc (l.getD i ev0)):=by
 obtain⟨b,o,hq,hb,hat⟩:=h.at hi;refine⟨b,o,hq,hb,?_⟩;rw [gDe,gE hi];exact hat i hi
theorem zw4:TyEq PG 27 false 1 1 (fun cs=>∃ x,cs=[.int .u64 x]) := .int Tryz.underlying27 (fun w=>Tryz.isAgg27 w) (jL (by kernel_rfl) (by kernel_rfl)).1 (by kernel_rfl)
theorem zvJ:TyEq PG 3 false 1 1 (fun cs=>∃ x,cs=[.int .i64 x]) := .int Tryz.underlying3 (fun w=>Tryz.isAgg3 w) (jL (by kernel_rfl) (by kernel_rfl)).1 (by kernel_rfl)
theorem zvG:∃ G,TyEq PG 28 true 48 2 G/\∀ f:Nat->Nat,G (za7 f):=by
 refine⟨_,.array (m:=48) (by decide) Tryz.underlying28 (fun w=>Tryz.isAgg28 w) (jL (by kernel_rfl) (by kernel_rfl)).1 (by kernel_rfl) zw4,fun f i hi=>⟨(f i:Nat),?_⟩⟩;unfold qJ;have h:=zda f hi;rw [Gf];have hl:i<(za7 f).length:=by rw [zbu];exact hi
 rw [<- JD hl,List.take_succ_cons,Us];rw [gE hl] at h;rw [Ug h];rfl
theorem zvH:∃ G,TyEq PG 30 true 49 3 G/\∀ r:RelD,G (zd r):=by
 obtain⟨G,h1,h2⟩:=zvG;refine⟨_,.struct (uf Tryz.underlying30).1 (by kernel_rfl) (fun w=>Tryz.isAgg30 w) (jL (by kernel_rfl) (by kernel_rfl)).1 (by kernel_rfl)
  (by rw [(uf Tryz.underlying30).2];exact .cons (by decide) rfl (zvJ.up 1) (.cons (by decide) rfl h1 .nil)),fun r=>?_⟩
 exact⟨⟨_,rfl⟩,by have:=h2 r.to;have e:((zd r).drop 1).take 48=za7 r.to:=JE (by rw [show (zd r).drop 1=za7 r.to from rfl,zbu];decide);rw [e];exact this,trivial⟩
theorem zof {a b:RelD}:zd a=zd b↔zb6 a b=true:=by
 unfold zb6;rw [bAT,dE,Qj];constructor
 ·intro h;have h1:i64 a.n=i64 b.n:=Jv h;have h2:za7 a.to=za7 b.to:=List.tail_eq_of_cons_eq h;refine⟨by injection h1,fun i hi=>Uu ?_⟩;have hi:=Ur.1 hi;have h3:=zda a.to hi;rw [h2,zda b.to hi] at h3;have h4:=Ug h3;unfold s64 at h4;injection h4 with _ h5;omega
 ·rintro⟨h1,h2⟩;unfold zd za7;rw [h1];congr 1;refine Kj fun i hi=>?_;rw [dT (h2 i hi)]
theorem znr (x y:Operand) (a b:RelD) (w:Wd):(do eqGuard .eql 30 x y (.agg (zd a).toArray) (.agg (zd b).toArray);binOp .eql 30 (.agg (zd a).toArray) (.agg (zd b).toArray)).run PG w = .ok (.bool (zb6 a b)) w:=by
 obtain⟨G,h1,h2⟩:=zvH;have:=zmn h1 9997 rfl (by kernel_rfl) (ze a) (ze b) (h2 a) (h2 b) x y w;rw [this,zfJ zof,Bool.decide_eq_true]
theorem zw6:∃ G,TyEq PG 158 true 7 2 G/\∀ e:Ev,G (evE.enc e):=by
 refine⟨_,.struct (uf Tryz.underlying158).1 (by kernel_rfl) (fun w=>Tryz.isAgg158 w) (jL (by kernel_rfl) (by kernel_rfl)).1 (by kernel_rfl)
  (by rw [(uf Tryz.underlying158).2];exact .cons (by decide) rfl zvJ (.cons (by decide) rfl tU8 (.cons (by decide) rfl tU8 (.cons (by decide) rfl tU8 (.cons (by decide) rfl tU8 (.cons (by decide) rfl tU8 (.cons (by decide) rfl tU8 .nil))))))),fun e=>?_⟩
 exact⟨⟨_,rfl⟩,⟨_,rfl⟩,⟨_,rfl⟩,⟨_,rfl⟩,⟨_,rfl⟩,⟨_,rfl⟩,⟨_,rfl⟩,trivial⟩
theorem zoH {a b:Ev}:evE.enc a=evE.enc b↔a=b:=by
 constructor
 ·intro h;obtain⟨a1,a2,a3,a4,a5,a6,a7⟩:=a;obtain⟨b1,b2,b3,b4,b5,b6,b7⟩:=b;have h:[i64 a1,u8 a2,u8 a3,u8 a4,u8 a5,u8 a6,u8 a7]=[i64 b1,u8 b2,u8 b3,u8 b4,u8 b5,u8 b6,u8 b7]:=h;simp only [QN,Gr,u8,Value.int.injEq,Gw,qG] at h;obtain⟨h1,rfl,rfl,rfl,rfl,rfl,rfl⟩:=h;have h1:a1=b1:=by injection h1
  rw [h1]
 ·rintro rfl;rfl
theorem zuh (x y:Operand) (a b:Ev) (w:Wd):(do eqGuard .neq 158 x y (.agg (evE.enc a).toArray) (.agg (evE.enc b).toArray);binOp .neq 158 (.agg (evE.enc a).toArray) (.agg (evE.enc b).toArray)).run PG w = .ok (.bool (!decide (a=b))) w:=by
 obtain⟨G,h1,h2⟩:=zw6;have:=zug h1 9998 rfl (by kernel_rfl) (a:=evE.enc a) (b:=evE.enc b) rfl rfl (h2 a) (h2 b) x y w;rw [this,zfJ zoH]
theorem zeQ:∀ (ev:List Ev) (k:Nat),(∀ j,j<k->(ev.getD j ev0).th = -1)->k<=ev.length->zaR ev=k+zaR (ev.drop k)
 | ev,0,_,_=>by rw [Up,UY]
 | [],k+1,_,h=>by simp at h
 | e::ev,k+1,hj,h=>by
  have h0:e.th = -1:=hj 0 (by omega);have ih:=zeQ ev k (fun j hjk=>hj (j+1) (by omega)) (by simpa using h);unfold zaR at ih ⊢;rw [Km,Gz (Uu h0),Qs,ih,List.drop_succ_cons];omega
section
variable {q:OA} {c:Nat} {ev:List Ev} {w:Wd}
theorem zmg (hl:SlR evE w q ev) (hn:ev.length<=1000):CB 38 #[.slice q ev.length c] w (i64 (zaR ev:Nat)):=by
 refine zJ 19 [.slice q ev.length c] Tryz.func38 ?_;refine⟨Nat,fun k=>⟨[(0,.slice q ev.length c),(5,.slice q ev.length c),(6,i64 ev.length),(7,i64 (k:Nat))],[]⟩,fun k X=>k<=ev.length/\(∀ j,j<k->(ev.getD j ev0).th = -1)/\Bw w X,fun k=>ev.length-k,0,(cvE rfl rfl),⟨Gg _,fun j h=>by omega,Gj _ _⟩,?_⟩;rintro k X ⟨hk,hj,hbX⟩;dsimp only;have hXs:=hbX.size;refine biE (fun hc=>?_) fun hc=>?_
 ·have hc:(k:Int)<(ev.length:Int):=dT hc;have hkl:k<ev.length:=by omega
  obtain⟨b,o,rfl,hb,hat⟩:=zcd (hl.below hbX) hkl;obtain⟨e,he⟩:=nm (ev.getD k ev0);rw [<- he] at hat;refine⟨k,rfl,hkl,evE.enc e,rfl,hat,hb,zn (X:=X) (v := .agg (evE.enc e).toArray) zd3 rfl rfl (Qj.2 fun u hu=>evE.one e u hu) fun Y hbY fY sY=>?_⟩;have fY:Y.heap[X.heap.size]?=some (.cells (evE.enc e).toArray 158 (0,0)):=fY;refine⟨i64 e.th,zc (za fY) (i:=0) rfl,?_⟩;have hbY2:=hbX.trans (hbY.mono hXs);refine biE (fun h=>?_) fun h=>?_
  ·have h:(!decide (e.th = -1))=true:=h;have h:¬ e.th = -1:=by simpa using h
   refine⟨?_,hbY2⟩;have h2:=zeQ ev k hj hk;have h3:zaR (ev.drop k)=0:=by
    unfold zaR;have h4:ev[k]=e:=(by rw [he,gDe,gE hkl];rfl);rw [<- JD hkl,Km,h4,Gy (by simpa using h)];rfl
   rw [h3] at h2;exact ri (by omega)
  ·have h:(!decide (e.th = -1))=false:=h;have h:e.th = -1:=by simpa using h
   refine nxI (by omega) ⟨k+1,(cvE rfl rfl),⟨hkl,fun j hjk=>?_,hbY2⟩,zdc (by omega)⟩;by_cases e2:j=k
   ·rw [e2,<- he];exact h
   ·exact hj j (by omega)
 ·have hc:¬ (k:Int)<(ev.length:Int):=dF hc;obtain rfl:k=ev.length:=by omega
  refine⟨?_,hbX⟩;have h2:=zeQ ev ev.length hj (Ge _);rw [Qm] at h2;exact ri (by rw [h2];show ((ev.length:Nat):Int)=((ev.length+0:Nat):Int);rfl)
theorem zq0 {i:Nat} {v:UInt8}:zdx (zfU [(0,1,false),(1,1,false),(2,1,false),(3,1,false),(4,1,false),(5,1,false),(6,1,false)]) (evE.enc ev0) [(0,i64 (-1)),(1,u8 2),(2,u8 (UInt8.ofNat i)),(3,u8 v)]=some (evE.enc ⟨-1,2,UInt8.ofNat i,v,0,0,0⟩):=rfl
theorem zic {locs:Nat} (hl:SlR evE w q ev) (hn:ev.length<=1000) (hlo:locs<=1000):CB 39 #[.slice q ev.length c,i64 locs] w (.bool (j8 ev locs)):=by
 refine zJ 69 [.slice q ev.length c,i64 locs] Tryz.func39 ?_;refine⟨Nat×Int×Nat,fun s=>⟨[(1,i64 locs),(5,i64 s.2.1),(6,i64 (s.2.2:Nat)),(9,.slice q ev.length c),(10,i64 ev.length),(11,i64 (s.1:Nat))],[]⟩,fun s X=>s.1<=ev.length/\s.2.2<=s.1/\zk4 locs s.1 (ev.drop s.1) s.2.1 s.2.2=j8 ev locs/\Bw w X,fun s=>ev.length-s.1,(0,0,0),(cvE rfl rfl),⟨Gg _,Ge _,rfl,Gj _ _⟩,?_⟩;rintro⟨k,t,m⟩ X ⟨hk,hm,hgo,hbX⟩;dsimp only at hk hm hgo ⊢;have hXs:=hbX.size;refine biE (fun hc=>?_) fun hc=>?_
 ·have hc:(k:Int)<(ev.length:Int):=dT hc;have hkl:k<ev.length:=by omega
  obtain⟨b,o,rfl,hb,hat⟩:=zcd (hl.below hbX) hkl;obtain⟨e,he⟩:=nm (ev.getD k ev0);rw [<- he] at hat;have hdr:ev.drop k=e::ev.drop (k+1):=by
   rw [<- JD hkl,he,gDe,gE hkl];rfl
  rw [hdr] at hgo;unfold zk4 at hgo;refine⟨k,rfl,hkl,evE.enc e,rfl,hat,hb,zn (X:=X) (v := .agg (evE.enc e).toArray) zd3 rfl rfl (Qj.2 fun u hu=>evE.one e u hu) fun Y hbY fY sY=>?_⟩;have fY:Y.heap[X.heap.size]?=some (.cells (evE.enc e).toArray 158 (0,0)):=fY;have hbY2:=hbX.trans (hbY.mono hXs);have ld:∀ {i:Nat} {v:Value},(evE.enc e)[i]?=some v->Y.cell? ⟨X.heap.size,0+i,none⟩=some v:=fun h=>zc (za fY) h;have no:j8 ev locs=false->(Ending.returned (.bool false)=Ending.returned (.bool (j8 ev locs))/\Bw w Y):=fun h=>⟨rb h.symm,hbY2⟩;refine biE (fun h=>?_) fun h=>?_
  ·have h:(k:Int)<(locs:Int):=dT h;rw [Gz (by omega:k<locs)] at hgo;refine⟨evE.enc e,rfl,za fY,hlt fY,_,w8N k,u8 e.v,ld (i:=3) rfl,evE.enc ⟨-1,2,UInt8.ofNat k,e.v,0,0,0⟩,zq0,_,fun w=>zuh _ _ e _ w,biE (fun h2=>?_) fun h2=>?_⟩
   ·have h2:¬ e=⟨-1,2,UInt8.ofNat k,e.v,0,0,0⟩:=(by simpa using h2);rw [Gy h2] at hgo;exact no hgo.symm
   ·have h2:e=⟨-1,2,UInt8.ofNat k,e.v,0,0,0⟩:=(by simpa using h2);rw [Gz h2] at hgo;exact nxI (by omega) ⟨(k+1,t,m),(cvE rfl rfl),⟨hkl,by show m<=k+1;omega,hgo,hbY2⟩,zdc (by omega)⟩
  ·have h:¬ (k:Int)<(locs:Int):=dF h;rw [Gy (by omega:¬ k<locs)] at hgo;refine⟨i64 e.th,ld (i:=0) rfl,biE (fun h1=>?_) fun h1=>?_⟩
   ·have h1:e.th<t:=dT h1;refine brT ?_;rw [Gz (.inl h1)] at hgo;exact no hgo.symm
   have h1:¬ e.th<t:=dF h1;refine⟨i64 e.th,ld (i:=0) rfl,biE (fun h2=>?_) fun h2=>?_⟩
   ·have h2:4<=e.th:=dT h2;rw [Gz (.inr h2)] at hgo;exact no hgo.symm
   have h2:¬ 4<=e.th:=dF h2;rw [Gy (by rintro (h | h);exact h1 h;exact h2 h)] at hgo;refine⟨i64 e.th,ld (i:=0) rfl,biE (fun h9=>?_) fun h9=>?_⟩
   ·have h9:t<e.th:=dT h9;dsimp only at hgo;rw [Gz h9,Gz h9] at hgo;refine⟨i64 e.th,ld (i:=0) rfl,u8 e.p,ld (i:=6) rfl,(e.p.toNat:Int),qN _,biE (fun h3=>?_) fun h3=>?_⟩
    ·have h3:¬ e.p.toNat=0:=by
      have h3:(!decide ((e.p.toNat:Int)=(0:Nat)))=true:=h3;simpa using h3
     rw [Gy h3] at hgo;exact no hgo.symm
    have h3:e.p.toNat=0:=by
     have h3:(!decide ((e.p.toNat:Int)=(0:Nat)))=false:=h3;simpa using h3
    rw [Gz h3] at hgo;refine⟨((0+1:Nat):Int),(zk (by omega)).trans (by omega),u8 e.k,ld (i:=1) rfl,biE (fun h4=>?_) fun h4=>?_⟩
    ·refine brE h4 ?_;have h4:e.k=1:=qG.1 (dT h4);rw [Gz (.inl h4)] at hgo;refine⟨u8 e.l,ld (i:=2) rfl,(e.l.toNat:Int),qN _,biE (fun h5=>?_) fun h5=>?_⟩
     ·have h5:(locs:Int)<=(e.l.toNat:Int):=dT h5;rw [Gy (by omega)] at hgo;exact no hgo.symm
     ·have h5:¬ (locs:Int)<=(e.l.toNat:Int):=dF h5;rw [Gz (by omega)] at hgo;exact nxI (by omega) ⟨(k+1,e.th,0+1),(cvE rfl rfl),⟨hkl,by show 0+1<=k+1;omega,hgo,hbY2⟩,zdc (by omega)⟩
    have h4:¬ e.k=1:=fun e2=>(dF h4) (by rw [e2];rfl);refine biE (fun h5=>?_) fun h5=>?_
    ·have h5:e.k=2:=qG.1 (dT h5);rw [Gz (.inr h5)] at hgo;refine⟨u8 e.l,ld (i:=2) rfl,(e.l.toNat:Int),qN _,biE (fun h5=>?_) fun h5=>?_⟩
     ·have h5:(locs:Int)<=(e.l.toNat:Int):=dT h5;rw [Gy (by omega)] at hgo;exact no hgo.symm
     ·have h5:¬ (locs:Int)<=(e.l.toNat:Int):=dF h5;rw [Gz (by omega)] at hgo;exact nxI (by omega) ⟨(k+1,e.th,0+1),(cvE rfl rfl),⟨hkl,by show 0+1<=k+1;omega,hgo,hbY2⟩,zdc (by omega)⟩
    have h5:¬ e.k=2:=fun e2=>(dF h5) (by rw [e2];rfl);rw [Gy (by rintro (h | h);exact h4 h;exact h5 h)] at hgo;refine biE (fun h6=>?_) fun h6=>?_
    ·have h6:e.k=3:=qG.1 (dT h6);rw [Gz h6] at hgo;refine⟨u8 e.l,ld (i:=2) rfl,biE (fun h7=>?_) fun h7=>?_⟩
     ·have h7:¬ e.l=0:=by
       have h7:(!decide ((e.l.toNat:Int)=0))=true:=h7;intro e2;rw [e2] at h7
       cases h7
      refine brT ?_;rw [Gy fun h=>h7 h.1] at hgo;exact no hgo.symm
     ·have h7:e.l=0:=by
       have h7:(!decide ((e.l.toNat:Int)=((0:UInt8).toNat:Int)))=false:=h7;exact qG.1 (by simpa using h7)
      refine⟨u8 e.v,ld (i:=3) rfl,biE (fun h8=>?_) fun h8=>?_⟩
      ·have h8:¬ e.v=0:=by
        have h8:(!decide ((e.v.toNat:Int)=0))=true:=h8;intro e2;rw [e2] at h8
        cases h8
       rw [Gy fun h=>h8 h.2] at hgo;exact no hgo.symm
      ·have h8:e.v=0:=by
        have h8:(!decide ((e.v.toNat:Int)=((0:UInt8).toNat:Int)))=false:=h8;exact qG.1 (by simpa using h8)
       rw [Gz ⟨h7,h8⟩] at hgo;exact nxI (by omega) ⟨(k+1,e.th,0+1),(cvE rfl rfl),⟨hkl,by show 0+1<=k+1;omega,hgo,hbY2⟩,zdc (by omega)⟩
    ·have h6:¬ e.k=3:=fun e2=>(dF h6) (by rw [e2];rfl);rw [Gy h6] at hgo;exact no hgo.symm
   ·have h9:¬ t<e.th:=dF h9;dsimp only at hgo;rw [Gy h9,Gy h9] at hgo;refine⟨u8 e.p,ld (i:=6) rfl,(e.p.toNat:Int),qN _,biE (fun h3=>?_) fun h3=>?_⟩
    ·have h3:¬ e.p.toNat=m:=by
      have h3:(!decide ((e.p.toNat:Int)=(m:Nat)))=true:=h3;intro e2;rw [e2] at h3;simp at h3
     rw [Gy h3] at hgo;exact no hgo.symm
    have h3:e.p.toNat=m:=by
     have h3:(!decide ((e.p.toNat:Int)=(m:Nat)))=false:=h3;have h3:(e.p.toNat:Int)=(m:Nat):=(by simpa using h3);omega
    rw [Gz h3] at hgo;refine nxI (by omega) ⟨u8 e.k,ld (i:=1) rfl,biE (fun h4=>?_) fun h4=>?_⟩
    ·refine brE h4 ?_;have h4:e.k=1:=qG.1 (dT h4);rw [Gz (.inl h4)] at hgo;refine⟨u8 e.l,ld (i:=2) rfl,(e.l.toNat:Int),qN _,biE (fun h5=>?_) fun h5=>?_⟩
     ·have h5:(locs:Int)<=(e.l.toNat:Int):=dT h5;rw [Gy (by omega)] at hgo;exact no hgo.symm
     ·have h5:¬ (locs:Int)<=(e.l.toNat:Int):=dF h5;rw [Gz (by omega)] at hgo;exact nxI (by omega) ⟨(k+1,t,m+1),(cvE rfl rfl),⟨hkl,by show m+1<=k+1;omega,hgo,hbY2⟩,zdc (by omega)⟩
    have h4:¬ e.k=1:=fun e2=>(dF h4) (by rw [e2];rfl);refine biE (fun h5=>?_) fun h5=>?_
    ·have h5:e.k=2:=qG.1 (dT h5);rw [Gz (.inr h5)] at hgo;refine⟨u8 e.l,ld (i:=2) rfl,(e.l.toNat:Int),qN _,biE (fun h5=>?_) fun h5=>?_⟩
     ·have h5:(locs:Int)<=(e.l.toNat:Int):=dT h5;rw [Gy (by omega)] at hgo;exact no hgo.symm
     ·have h5:¬ (locs:Int)<=(e.l.toNat:Int):=dF h5;rw [Gz (by omega)] at hgo;exact nxI (by omega) ⟨(k+1,t,m+1),(cvE rfl rfl),⟨hkl,by show m+1<=k+1;omega,hgo,hbY2⟩,zdc (by omega)⟩
    have h5:¬ e.k=2:=fun e2=>(dF h5) (by rw [e2];rfl);rw [Gy (by rintro (h | h);exact h4 h;exact h5 h)] at hgo;refine biE (fun h6=>?_) fun h6=>?_
    ·have h6:e.k=3:=qG.1 (dT h6);rw [Gz h6] at hgo;refine⟨u8 e.l,ld (i:=2) rfl,biE (fun h7=>?_) fun h7=>?_⟩
     ·have h7:¬ e.l=0:=by
       have h7:(!decide ((e.l.toNat:Int)=0))=true:=h7;intro e2;rw [e2] at h7
       cases h7
      refine brT ?_;rw [Gy fun h=>h7 h.1] at hgo;exact no hgo.symm
     ·have h7:e.l=0:=by
       have h7:(!decide ((e.l.toNat:Int)=((0:UInt8).toNat:Int)))=false:=h7;exact qG.1 (by simpa using h7)
      refine⟨u8 e.v,ld (i:=3) rfl,biE (fun h8=>?_) fun h8=>?_⟩
      ·have h8:¬ e.v=0:=by
        have h8:(!decide ((e.v.toNat:Int)=0))=true:=h8;intro e2;rw [e2] at h8
        cases h8
       rw [Gy fun h=>h8 h.2] at hgo;exact no hgo.symm
      ·have h8:e.v=0:=by
        have h8:(!decide ((e.v.toNat:Int)=((0:UInt8).toNat:Int)))=false:=h8;exact qG.1 (by simpa using h8)
       rw [Gz ⟨h7,h8⟩] at hgo;exact nxI (by omega) ⟨(k+1,t,m+1),(cvE rfl rfl),⟨hkl,by show m+1<=k+1;omega,hgo,hbY2⟩,zdc (by omega)⟩
    ·have h6:¬ e.k=3:=fun e2=>(dF h6) (by rw [e2];rfl);rw [Gy h6] at hgo;exact no hgo.symm
 ·have hc:¬ (k:Int)<(ev.length:Int):=dF hc;obtain rfl:k=ev.length:=by omega
  rw [Qm] at hgo;exact⟨rb hgo,hbX⟩
end
end Go.Proofs.YtnadlhpkpnfmbaaGreatDoor
namespace Go.Vc
open Go.RowKit
def zri {α:Type} (P:Program) (g:Nat) (lb:List Value) (xs:List α) (W0:Wd) (Rd:Nat->Prop) (St:List α->List Value->Wd->Prop) (Gv:List Value->Nat->Prop):Prop :=
 ∀ (l:Nat) (F0:Nat->Prop) (J:List α->(Nat->Prop)->Wd->Prop) (W:Wd),W0.heap.size<=W.heap.size->(∀ k,Rd k->W.heap[k]?=W0.heap[k]?)->(∀ k,Rd k->¬ F0 k) ->
  JG W.heap.size (fun _=>False) J ->
  (∀ pre x vs F W1,J pre F W1->St (pre++[x]) vs W1->(∀ k,Gv vs k->W.heap.size<=k)->(pre++[x]) <+: xs->YieldR P l vs.toArray W1 fun v W2 =>
   v = .bool true/\∃ F',J (pre++[x]) F' W2/\KeepsG (fun k=>F k\/Gv vs k) F' W1 W2) ->
  J [] F0 W ->
  Calls P g (.func (.yield l) #[] #[]::lb).toArray W fun e W'=>(∃ v,e = .returned v)/\∃ F',J xs F' W'
theorem zt5 {α:Type} {S:Sig} (hS:SigOk S) (hr:S.r=none) {f:Operand} {ps:Array Tmp} {assign body:Code} {E:Env} {w:Wd} {Q:Exit->Env->Wd->Prop}
  {gf:Nat} {lb:Array Value} (hg:opd E f=some (.func (.func gf) #[] lb)) (hok:jP S gf=true)
  {xs:List α} {W0:Wd} {Rd:Nat->Prop} {St:List α->List Value->Wd->Prop} {Gv:List Value->Nat->Prop} (hI:zri S.P gf lb.toList xs W0 Rd St Gv) (hGv:∀ pre vs W k,St pre vs W->Gv vs k->∃ cs t fr,W.heap[k]?=some (.cells cs t fr)) (hW0:W0.heap.size<=w.heap.size) (hRd:∀ k,Rd k->k<W0.heap.size/\w.heap[k]?=W0.heap[k]?)
  (hps:∀ pre vs W,St pre vs W->vs.length=ps.size) (hpn:∀ p∈ps.toList,p<S.n)
  (F0:Nat->Prop) (J:List α->(Nat->Prop)->Wd->Prop) (hRF:∀ k,Rd k->¬ F0 k)
  (hJ:JG w.heap.size (fun _=>False) J) (h0:J [] F0 w)
  (hround:∀ (l:Nat) (pre:List α) (x:α) (vs:List Value) (F:Nat->Prop) (W:Wd),w.heap.size<=l->(pre++[x]) <+: xs->J pre F W->St (pre++[x]) vs W->(∀ k,Gv vs k->w.heap.size<=k)->¬ F l->(∃ lo,W.heap[l]?=some (.loop lo)) ->
   wpE (sr S l) assign ⟨setL ps.toList vs E.vs,[]⟩ W fun ex E1 W1=>ex = .normal/\∃ F1,KeepsG (fun k=>F k\/Gv vs k) F1 W W1/\J pre F1 W1 /\
    ∀ o W2,W2=W1.putObj l o->J pre F1 W2->wpE (sr S l) body E1 W2 (ztG F1 J (fun _ _ _ _=>False) (pre++[x]) W2))
  (hdone:∀ D F W,w.heap.size<=D->¬ F D->J xs F W->W.heap[D]?=some (.deferred (some []))->Q .normal ⟨E.vs,{ target := .collected D,args := #[] }::E.ds⟩ W) :
  zjN S f ps assign body E w Q:=by
 intro a ha;have hcall:∀ args w,(callFunc gf args).run S.P w = .ok (.enter gf args) w:=by
  simp only [jP,bAT,Gl,Gm] at hok;exact fun args w=>hS.call gf hok.1.1 hok.1.2 hok.2 args w
 refine wpIn_rangeFunc ?_;intro fn hfn;have hro:(FR S.r).round=none:=hr;rw [hro];obtain⟨rec,hrec⟩:∃ rec:LoopState->Option Code->Loop,rec=fun st pe=>{ state:=st,pending:=pe,fn,tmps:=a.tmps,params:=ps,assign,body,defers:=w.heap.size }:=⟨_,rfl⟩;obtain⟨W1,hW1⟩:∃ W1,(w.alloc (.deferred (some []))).alloc (.loop (rec .ready none))=W1:=⟨_,rfl⟩;have hK0:=zz w (.deferred (some []));have hK1:W1.heap[w.heap.size]?=some (.deferred (some [])):=by rw [<- hW1];exact qm _ hK0
 have hL1:W1.heap[w.heap.size+1]?=some (.loop (rec .ready none)):=by
  rw [<- hW1];have:=zz (w.alloc (.deferred (some []))) (.loop (rec .ready none));rwa [wz] at this
 have hs1:W1.heap.size=w.heap.size+2:=by rw [<- hW1];simp
 have hst1:Bw w W1:=by
  rw [<- hW1];exact ((zba w _)).alloc (by simp) _
 have hJ1:=hJ.step _ _ _ _ h0 (.below hst1);have hFl:∀ k,F0 k->k<w.heap.size:=fun k hk=>(hJ.lt _ _ _ k h0 hk).1;refine⟨w.heap.size+1,[{ target := .collected w.heap.size,args := #[] }],W1,{ target := .fn (.func gf) lb,args := #[.func (.yield (w.heap.size+1)) #[] #[]] },W1,gf,
  #[.func (.yield (w.heap.size+1)) #[] #[]]++lb,W1,?_,?_,fun _ _=>trivial,?_,fun h=>by simp [FR] at h,?_⟩
 ·rw [<- hW1,hrec];exact Kq _ _ _ _ _
 ·have hg':=ha.eval hg;simp only [resolve,hg'];simp [go_sem]
 ·simp [invoke,go_sem,hcall]
 ·have hargs : #[Value.func (.yield (w.heap.size+1)) #[] #[]]++lb=(Value.func (.yield (w.heap.size+1)) #[] #[]::lb.toList).toArray:=by rw [<- Qe];simp
  rw [hargs];have book:∀ {σ:Type} {K:σ->(Nat->Prop)->Wd->Prop} (lo:Loop),JG w.heap.size (fun _=>False) K->JG W1.heap.size (fun _=>False) (fun s F W=>K s F W/\W.heap[w.heap.size+1]?=some (.loop lo)/\W.heap[w.heap.size]?=some (.deferred (some []))/\¬ F (w.heap.size+1)/\¬ F w.heap.size):=by
   intro σ K lo hK;exact⟨fun s F A B ⟨hk,hl,hd,hf1,hf2⟩ hs=>⟨hK.step s F A B hk (hs.mono (by omega)),(hs.same _ (hlt hl) (.inl ⟨by omega,fun h=>h⟩)).trans hl,(hs.same _ (hlt hd) (.inl ⟨by omega,fun h=>h⟩)).trans hd,hf1,hf2⟩,fun s F A k ⟨hk,_⟩ hf=>hK.lt s F A k hk hf⟩
  have hcalls:=hI (w.heap.size+1) F0 (fun pre F W=>J pre F W/\W.heap[w.heap.size+1]?=some (.loop (rec .ready none))/\W.heap[w.heap.size]?=some (.deferred (some []))/\¬ F (w.heap.size+1)/\¬ F w.heap.size)
   W1 (by omega) (fun k hk=>by
    obtain⟨h1,h2⟩:=hRd k hk;rw [<- h2];exact hst1.block k (by omega)) hRF (book _ hJ) ?_ ⟨hJ1,hL1,hK1,fun h=>by have:=hFl _ h;omega,fun h=>by have:=hFl _ h;omega⟩
  ·refine zdo (hcalls.mono ?_);rintro e W2 ⟨⟨v,rfl⟩,F,hj,hl,hk,hf1,hf2⟩;have hj2:=hJ.step _ _ _ _ hj (StepG.put (Ow:=fun _=>False) (o := .loop (rec .exhausted none)) (n0:=w.heap.size) (l:=w.heap.size+1) (by omega) hf1);refine⟨none,_,by have:=Gi (P:=S.P) hl (by rw [hrec];simp);rw [hrec] at this;exact this,?_⟩;rw [hrec] at hj2;exact⟨⟨E.vs,{ target := .collected w.heap.size,args := #[] }::E.ds⟩,⟨ha.size,by simp [ha.defers],ha.val⟩,hdone w.heap.size F _ (Ge _) hf2 hj2 ((zl (by omega)).trans hk)⟩
  ·rintro pre x vs F W ⟨hj,hl,hk,hf1,hf2⟩ hst0 hgv0 hpre;have hg1:¬ (F (w.heap.size+1)\/Gv vs (w.heap.size+1)):=fun h=>h.elim hf1 fun h=>by
    obtain⟨_,_,_,h2⟩:=hGv _ _ _ _ hst0 h;rw [hl] at h2;cases h2
   have hg2:¬ (F w.heap.size\/Gv vs w.heap.size):=fun h=>h.elim hf2 fun h=>by
    obtain⟨_,_,_,h2⟩:=hGv _ _ _ _ hst0 h;rw [hk] at h2;cases h2
   have hy:=run_yield (P:=S.P) (args:=vs.toArray) hl (by rw [hrec];simpa using hps _ _ _ hst0);rw [hrec] at hy;refine⟨fn,_,assign,body,hy,zcq (r:=none) (n:=NN) (roundIn_of_wpIn (F:=FR none) trivial ?_)⟩;have hag:Agrees (sr S (w.heap.size+1)) { tmps:=(ps.zip vs.toArray).foldl (fun t (p,v)=>t.setIfInBounds p v) a.tmps,defers:=[] } ⟨setL ps.toList vs E.vs,[]⟩:=by
    have h1:Agrees (sr S (w.heap.size+1)) { a with defers:=[] } ⟨E.vs,[]⟩:=⟨ha.size,rfl,ha.val⟩;have h2:=zco ps.toList vs _ _ h1 hpn;have e:(ps.zip vs.toArray).foldl (fun t (p,v)=>t.setIfInBounds p v) a.tmps=(ps.toList.zip vs).foldl (fun t (p,v)=>t.setIfInBounds p v) a.tmps:=by
     rw [<- Kr];simp
    rw [e];exact h2
   have hw:=qS (zin hS _) assign _ _ W _ hag (hround (w.heap.size+1) pre x vs F W (by omega) hpre hj hst0 (fun k hk=>by have:=hgv0 k hk;omega) hf1 ⟨_,hl⟩);refine Gq hw ?_;rintro ex a1 Wa ⟨E1,hag1,rfl,F1,hk1,hj1,hbody⟩;have hla:=(hk1.same _ (hlt hl) hg1).trans hl;have hka:=(hk1.same _ (hlt hk) hg2).trans hk;have hfa1:¬ F1 (w.heap.size+1):=fun h=>by rcases hk1.fp _ h with h | h;exact hg1 h;have:=hlt hl;omega
   have hfa2:¬ F1 w.heap.size:=fun h=>by rcases hk1.fp _ h with h | h;exact hg2 h;have:=hlt hk;omega
   refine⟨_,run_beginRound hla (by rw [hrec]),?_⟩;have hst:StepG w.heap.size (fun _=>False) F1 Wa (Wa.putObj (w.heap.size+1) (.loop { rec .ready none with state := .busy })) := .put (by omega) hfa1 _;have hj2:=hJ.step _ _ _ _ hj1 hst;have hw2:=qS (zin hS _) body _ _ _ _ hag1 (hbody _ _ rfl hj2);refine Gq hw2 ?_;have hl2:(Wa.putObj (w.heap.size+1) (.loop { rec .ready none with state := .busy })).heap[w.heap.size+1]?=some (.loop { rec .ready none with state := .busy }):=zbx hla;have hk2:(Wa.putObj (w.heap.size+1) (.loop { rec .ready none with state := .busy })).heap[w.heap.size]?=some (.deferred (some [])):=(zl (by omega)).trans hka;rintro e a3 W3 ⟨E3,_,hq⟩
   cases e with
   | normal =>
    obtain⟨F3,hj3,hk3⟩:=hq;have hl3:=(hk3.same _ (hlt hl2) hfa1).trans hl2;have hd3:=(hk3.same _ (hlt hk2) hfa2).trans hk2;have hf31:¬ F3 (w.heap.size+1):=fun h=>by rcases hk3.fp _ h with h | h;exact hfa1 h;have:=hlt hl2;omega
    have hf32:¬ F3 w.heap.size:=fun h=>by rcases hk3.fp _ h with h | h;exact hfa2 h;have:=hlt hk2;omega
    have hr3:=run_endRound (P:=S.P) none hl3;have hl4:=zbx (o' := .loop (rec .ready none)) hl3;have hk4:(W3.putObj (w.heap.size+1) (.loop (rec .ready none))).heap[w.heap.size]?=some (.deferred (some [])):=(zl (by omega)).trans hd3;have hs3:StepG w.heap.size (fun _=>False) F3 W3 (W3.putObj (w.heap.size+1) (.loop (rec .ready none))) := .put (by omega) hf31 _;have hj4:=hJ.step _ _ _ _ hj3 hs3;rw [hrec] at hr3 hl4 hk4 hs3 hj4;refine⟨_,_,hr3,rfl,F3,⟨hj4,by rw [hrec];exact hl4,hk4,hf31,hf32⟩,hs3.os.trans (hk3.os.trans hk1.os),hs3.tape.trans (hk3.tape.trans hk1.tape),hs3.output.trans (hk3.output.trans hk1.output),?_,fun k hk5 hf5=>?_,fun k hk5=>?_⟩
    ·have h1:=hk1.size;have h2:=hst.size;have h3:=hk3.size;have h4:=hs3.size;exact UU (UU (UU h1 h2) h3) h4
    ·by_cases hkl:k=w.heap.size+1
     ·subst hkl;rw [hl,hrec];exact hl4
     ·have h1:¬ F1 k:=fun h=>by rcases hk1.fp _ h with h | h;exact hf5 h;omega
      have h2:=hk1.size;have h3:=hst.size;rw [zl hkl,hk3.same k (by omega) h1,zl hkl];exact hk1.same k hk5 hf5
    ·rcases hk3.fp _ hk5 with h2 | h2
     ·exact hk1.fp _ h2
     ·have h3:=hk1.size;have h4:=hst.size;exact .inr (by omega)
   | ret=>exact (show False from (by obtain⟨_,h,_⟩:=hq;exact h)).elim
   | exit id=>exact (show False from (by obtain⟨_,h,_⟩:=hq;exact h)).elim
   | goto t=>exact hq.elim
   | panic ch=>exact hq.elim
   | outgrown=>exact hq.elim
end Go.Vc
namespace Go.Proofs.YtnadlhpkpnfmbaaGreatDoor
open Go.Vc Go.RowKit Go.Sei
abbrev zef:=List za1×OA×Nat
def zh7:Enc zef where
 sz:=1
 enc x:=[.slice x.2.1 x.1.length x.2.2]
 len x:=rfl
 one x v hv:=by
  simp at hv;subst hv;rfl
 pos:=by decide
structure MixM (Rd:Nat->Prop) (w:Wd) (b o:Nat) (m:MixD) (q:OA) (c:Nat) (p1 p2 p3:OA) (c1 c2 c3:Nat) (xs ys:List za1):Prop where
 cells:zw w ⟨b,o,none⟩ (exC m.base q c++[.slice p1 m.rs.length c1,.slice p2 xs.length c2,.slice p3 ys.length c3])
 ev:SlR evE w q m.base.ev
 qn:q=none->c=0
 r1:SlR zE w p1 (m.rs.map (·.1))
 e2:xs.map (·.1)=m.rs.map (·.2)
 r2:SlR ja w p2 xs
 n2:∀ y∈xs,SlR zE w y.2.1 y.1
 e3:ys.map (·.1)=m.wr
 r3:SlR ja w p3 ys
 n3:∀ y∈ys,SlR zE w y.2.1 y.1
 db:Rd b
 dq:∀ a,q=some a->Rd a.block
 d1:∀ a,p1=some a->Rd a.block
 d2:∀ a,p2=some a->Rd a.block
 d3:∀ a,p3=some a->Rd a.block
 m2:∀ y∈xs,∀ a,y.2.1=some a->Rd a.block
 m3:∀ y∈ys,∀ a,y.2.1=some a->Rd a.block
theorem MixM.same {Rd:Nat->Prop} {w X:Wd} {b o:Nat} {m:MixD} {q:OA} {c:Nat} {p1 p2 p3:OA} {c1 c2 c3:Nat} {xs ys:List za1} (h:MixM Rd w b o m q c p1 p2 p3 c1 c2 c3 xs ys) (hs:∀ k,Rd k->X.heap[k]?=w.heap[k]?):MixM Rd X b o m q c p1 p2 p3 c1 c2 c3 xs ys :=
 ⟨zQ (hs _ h.db) h.cells,q9 h.ev fun a ha=>hs _ (h.dq a ha),h.qn,q9 h.r1 fun a ha=>hs _ (h.d1 a ha),h.e2,q9 h.r2 fun a ha=>hs _ (h.d2 a ha),fun y hy=>q9 (h.n2 y hy) fun a ha=>hs _ (h.m2 y hy a ha),
  h.e3,q9 h.r3 fun a ha=>hs _ (h.d3 a ha),fun y hy=>q9 (h.n3 y hy) fun a ha=>hs _ (h.m3 y hy a ha),h.db,h.dq,h.d1,h.d2,h.d3,h.m2,h.m3⟩
theorem zfs {w:Wd} {b o:Nat} {x:ExD} {q:OA} {c:Nat} {S:List Value} (h:zw w ⟨b,o,none⟩ (exC x q c++S)) {i:Nat} {v:Value} (hi:S[i]?=some v):w.cell? ⟨b,o+(333+i),none⟩=some v:=zc h (zgR hi)
theorem zxy {B c:Nat} {V1:Wd} {p:OA} {l:List zef} {y:zef} {a:Addr} (ho:OwnS zh7 170 B V1 p c l) (ha:zw V1 a ([y].flatMap zh7.enc)) (hB:B<=V1.heap.size) (hl:l.length<=100000) {K:Value->Wd->Prop}
  (h:∀ p' c' w',OwnS zh7 170 B w' p' c' (l++[y])->V1.grownBy w' (p.map Addr.block)->(∀ a,p'=some a->p=some a\/a.block=V1.heap.size)->K (.slice p' (l++[y]).length c') w') :
  SatR ((Builtin.append_ #[245,245] 245 #[.slice p l.length c,.slice (some a) 1 1]).run PG V1) K :=
 jr (E:=zh7) (T:=170) (B:=B) (l:=l) (news:=[y]) (cap:=c) (m:=1) Tryz.underlying245 zoC rfl rfl rfl ho rfl ha hB (by omega) (by show (l.length+1)*24<=_;omega) fun p' c' w' a1 a2 _ a4=>h p' c' w' a1 (by rw [zaP] at a2;exact a2) a4
structure CanS (B:Nat) (Z:Wd) (yl L R:Nat) (ss:List Nat) (ps:OA) (cs:Nat) (zs:List zef) (pr:OA) (cr:Nat):Prop where
 fL:Z.heap[L]?=some (.cells #[.func (.yield yl) #[] #[]] 40 (0,0))
 fR:Z.heap[R]?=some (.cells #[.slice pr zs.length cr] 245 (0,0))
 own:OwnS zE 3 B Z ps cs ss
 rk:OwnS zh7 170 B Z pr cr zs
 n1:∀ z∈zs,OwnS ja 128 B Z z.2.1 z.2.2 z.1
 n2:∀ z∈zs,∀ y∈z.1,OwnS zE 3 B Z y.2.1 y.2.2 y.1
 dis:∀ z∈zs,∀ y∈z.1,∀ a b,ps=some a->y.2.1=some b->a.block≠b.block
theorem CanS.below {B:Nat} {Z Y:Wd} {yl L R:Nat} {ss:List Nat} {ps:OA} {cs:Nat} {zs:List zef} {pr:OA} {cr:Nat} (h:CanS B Z yl L R ss ps cs zs pr cr) (hb:Bw Z Y):CanS B Y yl L R ss ps cs zs pr cr :=
 ⟨zb hb h.fL,zb hb h.fR,h.own.below hb,h.rk.below hb,fun z hz=>(h.n1 z hz).below hb,fun z hz y hy=>(h.n2 z hz y hy).below hb,h.dis⟩
theorem CanS.size {B:Nat} {Z Y:Wd} {yl L R:Nat} {ss:List Nat} {ps:OA} {cs:Nat} {zs:List zef} {pr:OA} {cr:Nat} (h:CanS B Z yl L R ss ps cs zs pr cr) {ps':OA} {cs' n:Nat} (ho:OwnS zE 3 B Y ps' cs' (ss++[n])) (g:Z.grownBy Y (ps.map Addr.block)) (hat:∀ a,ps'=some a->ps=some a\/a.block=Z.heap.size):CanS B Y yl L R (ss++[n]) ps' cs' zs pr cr :=
 ⟨qp h.fL h.own (by decide) g,qp h.fR h.own (by decide) g,ho,zat h.rk h.own (by decide) g,fun z hz=>zat (h.n1 z hz) h.own (by decide) g,fun z hz y hy=>zdQ (h.n2 z hz y hy) g fun a b ha hb=>h.dis z hz y hy a b ha hb,fun z hz y hy a b ha hb=>by
  rcases hat a ha with h1 | h1
  ·exact h.dis z hz y hy a b h1 hb
  ·have:=(zA (h.n2 z hz y hy) hb).2.1;omega⟩
theorem zmX {ds:List Nat}:∀ {rs:List (Nat×List Nat)} {ds:List Nat} {f:Nat->Nat},zG f->(∀ r∈rs,r.1<48)->zG (rfF rs ds f)
 | [],_,_,h,_=>h
 | (r,s)::rs,ds,f,h,hr=>by
  have h1:=hr (r,s) Kz;refine zmX (rs:=rs) (ds:=ds.tail) (f:=upd f (s.getD (ds.headD 0) 0) (f (s.getD (ds.headD 0) 0)|||2^r)) ?_ fun x hx=>hr x (JW _ hx);intro j hj;by_cases e:j=s.getD (ds.headD 0) 0
  ·rw [e,ji];exact KY (by rw [<- e];exact h j hj) (z6 (by have:r<48:=h1;omega))
  ·rw [za3 _ _ e];exact h j hj
theorem znx {ev:List Ev}:∀ {Rs:List (List (List Nat))} {l:Nat} {ds:List Nat} {p:RelD×(Nat->UInt8)},zG p.1.to->(∀ R∈Rs,∀ k∈R,∀ a∈k,a<48)->zG (coG ev l Rs ds p).1.to
 | [],_,_,_,h,_=>h
 | R::Rs,l,ds,p,h,hr=>by
  refine znx (Rs:=Rs) (l:=l+1) (ds:=ds.tail) (p:=(zbw (R.getD (ds.headD 0) []) p.1,_)) (ziM h fun a ha=>?_) fun x hx=>hr x (JW _ hx);rw [gDe] at ha
  cases hg:R[ds.headD 0]? with
  | none=>rw [hg] at ha;cases ha
  | some k =>
   rw [hg] at ha;exact hr R Kz k (JY hg) a ha
section
variable (x:ExD) (q:OA) (c:Nat)
theorem zqJ:∃ A Z,A.length=50/\∀ r,exC { x with rf:=r } q c=A++(zd r++Z):=by
 obtain⟨A,Z,h1,h2⟩:=ztB x q c [];exact⟨A,Z,h1,fun r=>by rw [<- h2,QM]⟩
theorem zmm:∃ A Z,A.length=99/\∀ r,exC { x with co:=r } q c=A++(zd r++Z):=by
 obtain⟨A,Z,h1,h2⟩:=ztD x q c [];exact⟨A,Z,h1,fun r=>by rw [<- h2,QM]⟩
theorem zsJ {l:Nat} (hl:l<6) (v:UInt8):(exC x q c).set (327+l) (u8 v)=exC { x with mem:=upd x.mem l v } q c:=by
 obtain⟨A,Z,h1,h2⟩:=zqH x q c [];have e1:=h2 x.mem;have e2:=h2 (upd x.mem l v);rw [QM] at e1 e2;rw [e2];show (exC { x with mem:=x.mem } q c).set _ _=_;rw [e1,jZ h1];have e3:=ze7 (B:=Z) (f:=fun i=>u8 (x.mem i)) (fun i=>u8 (upd x.mem l v i)) hl (fun j hj=>by rw [za3 _ _ hj]);rw [<- e3,ji]
theorem zuG (l:List Ev) (q':OA) (c':Nat):(exC x q c).set 0 (.slice q' l.length c')=exC { x with ev:=l } q' c':=rfl
end
abbrev zgE:=ExD×OA×Nat
def exE:Enc zgE:=⟨fun x=>exC x.1 x.2.1 x.2.2,333,fun _=>zI ..,by decide,fun a u hu=>Qj.1 (zdk ..) u hu⟩
abbrev ExH (X:Wd) (b:Nat) (x:ExD) (q:OA) (c:Nat):Prop:=X.heap[b]?=some (.cells (exC x q c).toArray 37 (0,0))
def StX (B:Nat) (pre:List ExD) (vs:List Value) (W:Wd):Prop:=∃ x q c,pre.getLast?=some x/\vs=[.agg (exC x q c).toArray]/\OwnS evE 158 B W q c x.ev
def GvX (vs:List Value) (k:Nat):Prop:=∃ (x:ExD) (a:Addr) (c:Nat),vs=[.agg (exC x (some a) c).toArray]/\k=a.block
theorem zlS {xs:List za1} {rs:List (Nat×List Nat)} (h:xs.map (·.1)=rs.map (·.2)):xs.map (·.1.length)=rs.map fun r=>r.2.length:=by
 have:=Gs (List.map List.length) h;rw [UM,UM] at this;exact this
theorem zkg {zs:List zef} {ws:List (List Nat)} (h:zs.map (fun z=>z.1.map (·.1))=ws.map zaL):zs.map (·.1.length)=ws.map fun w=>(zaL w).length:=by
 have:=Gs (List.map List.length) h;rw [UM,UM] at this;rw [<- show zs.map (List.length ∘ fun z:zef=>z.1.map (·.1))=zs.map (·.1.length) from Kj fun z _=>QQ _];exact this
section
variable {Rd:Nat->Prop} {W0:Wd} {bx b o:Nat} {m:MixD} {q:OA} {c:Nat} {p1 p2 p3:OA} {c1 c2 c3:Nat} {xs ys:List za1}
theorem zs3 (hM:MixM Rd W0 b o m q c p1 p2 p3 c1 c2 c3 xs ys) (fx:W0.heap[bx]?=some (.cells #[.pointer (some ⟨b,o,none⟩)] 244 (0,0))) (hbx:Rd bx) (hRd:∀ k,Rd k->k<W0.heap.size) (hT:Tz64M W0) (hRt:Rd 4) (hB:MixB m) (hev:m.base.ev.length<=48) :
  zri PG 141 [At0 bx] (zgf m) W0 Rd (StX W0.heap.size) GvX:=by
 intro yl F0 J W hsz hrd hrf hJ hy h0;refine qa 141 [.func (.yield yl) #[] #[],At0 bx] (.c .p (.s .p (.c .p (.c .p (.c .p (.s .p .p)))))) Tryz.func141 ?_;have hMW:=hM.same hrd;have fxW:=(hrd bx hbx).trans fx;have hTW:Tz64M W:=zas hT (hrd _ hRt);have hRW:∀ k,Rd k->k<W.heap.size:=fun k hk=>by have:=hRd k hk;omega
 obtain⟨L,hL⟩:=nm (W.heap.size);have hxl:xs.length=m.rs.length:=by have:=Gs List.length hM.e2;simpa using this
 have hyl:ys.length=m.wr.length:=by have:=Gs List.length hM.e3;simpa using this
 have hrl48:=hB.rl;have hwl6:=hB.wl;have hx1:∀ y∈xs,y.1.length<=1000:=fun y hy=>by
  have:y.1∈m.rs.map (·.2):=by rw [<- hM.e2];exact UP.2 ⟨y,hy,rfl⟩
  obtain⟨r,hr,he⟩:=UP.1 this;rw [<- he];exact (hB.rs r hr).2.1
 refine⟨Unit,fun _=>⟨[(1,At0 bx),(2,At0 L)],[]⟩,fun _ X=>X.heap[L]?=some (.cells #[.func (.yield yl) #[] #[]] 40 (0,0))/\X.heap.size=L+1/\Bw W X,?_,?_⟩
 ·exact⟨(),⟨.cons rfl (.cons (by rw [hL];rfl) .nil),rfl⟩,by rw [hL];exact zz W _,by rw [hL];exact wz _ _,(zba W _)⟩
 rintro _ X ⟨fL,sX,hbX⟩;refine⟨OA×Nat,fun s=>⟨[(1,At0 bx),(2,At0 L),(3,.slice s.1 (xs.map (·.1.length)).length s.2)],[]⟩,fun s Z=>OwnS zE 3 W.heap.size Z s.1 s.2 (xs.map (·.1.length))/\Z.heap[L]?=some (.cells #[.func (.yield yl) #[] #[]] 40 (0,0))/\Bw W Z,?_,?_⟩
 ·refine⟨_,zc (za (zb hbX fxW)) (i:=0) rfl,_,zfs (hMW.same fun k hk=>hbX.block k (hRW k hk)).cells (i:=1) rfl,?_⟩;refine⟨Nat×OA×Nat,fun s=>⟨[(1,At0 bx),(2,At0 L),(3,.slice s.2.1 ((xs.take s.1).map (·.1.length)).length s.2.2),(20,.slice p2 xs.length c2),(21,i64 xs.length),(22,i64 (s.1:Nat))],[]⟩,
   fun s Z=>s.1<=xs.length/\OwnS zE 3 W.heap.size Z s.2.1 s.2.2 ((xs.take s.1).map (·.1.length))/\Z.heap[L]?=some (.cells #[.func (.yield yl) #[] #[]] 40 (0,0))/\Bw W Z,fun s=>xs.length-s.1,(0,none,0),
   (cvE rfl rfl),⟨Gg _,OwnS.nil,fL,hbX⟩,?_⟩
  rintro⟨k,ps,cs⟩ Z ⟨hk,ho,fL,hbZ⟩;dsimp only at hk ho ⊢;refine biE (fun hc=>?_) fun hc=>?_
  ·have hc:(k:Int)<(xs.length:Int):=dT hc;have hkl:k<xs.length:=by omega
   have hZM:=hMW.same fun k hk=>hbZ.block k (hRW k hk);obtain⟨x,hx⟩:∃ x,xs[k]=x:=⟨_,rfl⟩;obtain⟨bp,op,hpe,hlp,hat⟩:=hZM.r2.at hkl;subst hpe;refine⟨k,rfl,hkl,slV x,by rw [<- hx];exact zc (hat k hkl) (i:=0) rfl,⟨by decide,by decide,rfl⟩,zE.enc x.1.length,rfl,?_⟩;have hb1:Bw Z (Z.alloc (.cells (zE.enc x.1.length).toArray 3)):=zba _ _;have hZs:=hbZ.size;have htl:((xs.take k).map (·.1.length)).length=k:=by rw [QQ,Qu];omega
   have htk:(xs.take (k+1)).map (·.1.length)=(xs.take k).map (·.1.length)++[x.1.length]:=by
    rw [tsg hkl,QT,hx];rfl
   unfold zeK zaI;show SatR _ _;refine zo2 (ho.below hb1) (qH zE x.1.length) (by have:=hb1.size;omega) (by have:=hB.rl;omega) fun p' c' U oU gU hat1=>?_;rw [zaP] at gU;rw [<- htk] at oU ⊢;have fU:=qp (zb hb1 fL) (ho.below hb1) (by decide) gU;exact nxI (by omega) ⟨(k+1,p',c'),(cvE rfl rfl),⟨hkl,oU,fU,hbZ.trans ((hb1.mono hZs).trans (q5 (ho.below hb1) (by have:=hb1.size;omega) (Ge _) gU))⟩,zdc (by omega)⟩
  ·have hc:¬ (k:Int)<(xs.length:Int):=dF hc;obtain rfl:k=xs.length:=by omega
   rw [Qw] at ho ⊢;exact⟨(ps,cs),(cvE rfl rfl),ho,fL,hbZ⟩
 clear fL sX hbX;rintro⟨ps,cs⟩ X ⟨ho,fL,hbX⟩;dsimp only at ho ⊢;refine⟨Nat,fun R=>⟨[(1,At0 bx),(2,At0 L),(3,.slice ps (xs.map (·.1.length)).length cs),(6,At0 R)],[]⟩,fun R Z=>CanS W.heap.size Z yl L R (xs.map (·.1.length)) ps cs [] none 0/\L<R/\Bw W Z,?_,?_⟩
 ·refine⟨X.heap.size,(cvE rfl rfl),⟨qm _ fL,zz X _,ho.alloc _,OwnS.nil,fun z hz=>(by cases hz),fun z hz=>(by cases hz),fun z hz=>(by cases hz)⟩,hlt fL,hbX.alloc hbX.size _⟩
 clear ho fL hbX;rintro R X ⟨hS,hLR,hbX⟩;refine⟨(List zef×OA×Nat)×OA×Nat,fun s=>⟨[(1,At0 bx),(2,At0 L),(3,.slice s.2.1 (zbE m).length s.2.2),(6,At0 R)],[]⟩,fun s Z=>CanS W.heap.size Z yl L R (zbE m) s.2.1 s.2.2 s.1.1 s.1.2.1 s.1.2.2/\s.1.1.map (fun z=>z.1.map (·.1))=m.wr.map zaL/\Bw W Z,?_,?_⟩
 ·refine⟨_,zc (za (zb hbX fxW)) (i:=0) rfl,_,zfs (hMW.same fun k hk=>hbX.block k (hRW k hk)).cells (i:=2) rfl,?_⟩;refine⟨Nat×(List zef×OA×Nat)×OA×Nat,fun s=>⟨[(1,At0 bx),(2,At0 L),(3,.slice s.2.2.1 (xs.map (·.1.length)++s.2.1.1.map (·.1.length)).length s.2.2.2),(6,At0 R),(35,.slice p3 ys.length c3),(36,i64 ys.length),(37,i64 (s.1:Nat))],[]⟩,
   fun s Z=>s.1<=ys.length/\CanS W.heap.size Z yl L R (xs.map (·.1.length)++s.2.1.1.map (·.1.length)) s.2.2.1 s.2.2.2 s.2.1.1 s.2.1.2.1 s.2.1.2.2/\s.2.1.1.map (fun z=>z.1.map (·.1))=(ys.take s.1).map (fun y=>zaL y.1)/\Bw W Z,fun s=>ys.length-s.1,(0,([],none,0),ps,cs),
   ⟨.cons rfl (.cons rfl (.cons (by simp;rfl) (.cons rfl (.cons rfl (.cons rfl (.cons rfl .nil)))))),rfl⟩,⟨Gg _,by simpa using hS,rfl,hbX⟩,?_⟩
  clear hS hbX;rintro⟨k,⟨zs,pr,cr⟩,ps,cs⟩ Z ⟨hk,hS,hz,hbZ⟩;dsimp only at hk hS hz ⊢;have hzl:zs.length=k:=by
   have:=Gs List.length hz;rw [QQ,QQ,Qu] at this;omega
  refine biE (fun hc=>?_) fun hc=>?_
  ·have hc:(k:Int)<(ys.length:Int):=dT hc;have hkl:k<ys.length:=by omega
   have hZM:=hMW.same fun k hk=>hbZ.block k (hRW k hk);obtain⟨y,hyk⟩:∃ y,ys[k]=y:=⟨_,rfl⟩;have hym:y∈ys:=by rw [<- hyk];exact gM hkl
   have hyw:y.1∈m.wr:=by rw [<- hM.e3];exact UP.2 ⟨y,hym,rfl⟩
   obtain⟨bw1,bw2,bw3⟩:=hB.wr _ hyw;obtain⟨bp,op,hpe,hlp,hat⟩:=hZM.r3.at hkl;subst hpe;refine⟨k,rfl,hkl,slV y,by rw [<- hyk];exact zc (hat k hkl) (i:=0) rfl,cmo (zpT (hZM.n3 y hym) bw1 (zas hTW (hbZ.block _ (hRW _ hRt)))) ?_⟩;rintro e Y ⟨⟨rk,pk,ck,rfl,hrk,ork,onk⟩,hbY⟩;have hZs:=hbZ.size;have hSY:=hS.below hbY;have hrkl:rk.length<=10000:=by rw [<- hrk,QQ] at bw2;exact bw2
   obtain⟨nz,hnz⟩:∃ nz:zef,nz=(rk,pk,ck):=⟨_,rfl⟩;have hen:[Value.slice pk rk.length ck]=zh7.enc nz:=by rw [hnz];rfl
   refine⟨_,zc (za hSY.fR) (i:=0) rfl,⟨by decide,by decide,rfl⟩,zh7.enc nz,by rw [<- hen];rfl,?_⟩;have hb1:Bw Y (Y.alloc (.cells (zh7.enc nz).toArray 170)):=zba _ _;have hS1:=hSY.below hb1;have ork1:=ork.below hb1;have onk1:=fun x hx=>(onk x hx).below hb1;unfold zeK zaI;show SatR _ _;refine zxy hS1.rk (qH zh7 nz) (by have:=hb1.size;have:=hbY.size;omega) (by have:=hB.wl;omega) fun p' c' U oU gU hat1=>?_;have fLU:=qp hS1.fL hS1.rk (by decide) gU;have fRU:=qp hS1.fR hS1.rk (by decide) gU;refine zy zxs fRU (o:=0) (v := .slice p' (zs++[nz]).length c') rfl rfl (by show 0<1;decide) rfl fun S fS gS sS=>?_;have hbZY:=hbZ.trans (hbY.mono hZs);have sY:=hbY.size;have sb1:=hb1.size;have hbU:Bw W U:=(hbZY.trans (hb1.mono (by omega))).trans (q5 hS1.rk (by omega) (Ge _) gU);have hRn:W.heap.size<=R:=by omega
   have hbS:Bw W S:=hbU.trans (zq gS hbU.size hRn);have hSS:CanS W.heap.size S yl L R (xs.map (·.1.length)++zs.map (·.1.length)) ps cs (zs++[nz]) p' c':=by
    have kU:∀ {α:Type} {E:Enc α} {T cc:Nat} {r:OA} {ll:List α},T≠170->T≠245->OwnS E T W.heap.size (Y.alloc (.cells (zh7.enc nz).toArray 170)) r cc ll->OwnS E T W.heap.size S r cc ll:=fun {α E T cc r ll} h1 h2 h=>qq (zat h hS1.rk h1 gU) fRU h2 gS;refine⟨(gS.block L (hlt fLU) (by simp;omega)).trans fLU,fS,kU (by decide) (by decide) hS1.own,qq oU fRU (by decide) gS,fun z hz=>?_,fun z hz=>?_,fun z hz=>?_⟩
    ·rcases QU.1 hz with hz | hz
     ·exact kU (by decide) (by decide) (hS1.n1 z hz)
     ·rw [KA.1 hz,hnz];exact kU (by decide) (by decide) (ork1.lower hZs)
    ·rcases QU.1 hz with hz | hz
     ·exact fun x hx=>kU (by decide) (by decide) (hS1.n2 z hz x hx)
     ·rw [KA.1 hz,hnz];exact fun x hx=>kU (by decide) (by decide) ((onk1 x hx).lower hZs)
    ·rcases QU.1 hz with hz | hz
     ·exact hS1.dis z hz
     ·rw [KA.1 hz,hnz];intro x hx a b ha hb;have:=(zA (onk x hx) hb).1;have:=(zA hS.own ha).2.1;omega
   clear hS1 ork1 onk1 hSY hS oU gU hat1 fLU fRU fS gS;refine⟨⟨by decide,by decide,rfl⟩,zE.enc rk.length,rfl,?_⟩;have hb2:Bw S (S.alloc (.cells (zE.enc rk.length).toArray 3)):=zba _ _;have hS2:=hSS.below hb2;have sbS:=hbS.size;have sb2:=hb2.size;unfold zeK zaI;show SatR _ _;refine zo2 hS2.own (qH zE rk.length) (by omega) (by rw [lap,QQ,QQ];have:=hB.rl;have:=hB.wl;omega) fun p2' c2' V oV gV hat2=>?_;rw [zaP] at gV;have hSV:=hS2.size oV gV hat2;have hzz:(xs.map (·.1.length)++zs.map (·.1.length))++[rk.length]=xs.map (·.1.length)++(zs++[nz]).map (·.1.length):=by
    rw [QT,KO,hnz];rfl
   rw [hzz] at hSV ⊢;refine nxI (by omega) ⟨(k+1,(zs++[nz],p',c'),p2',c2'),(cvE rfl rfl),⟨hkl,hSV,?_,hbS.trans ((hb2.mono sbS).trans (q5 hS2.own (by omega) (Ge _) gV))⟩,zdc (by omega)⟩;rw [tsg hkl,hyk,QT,QT,hz,hnz];show _++[rk.map (·.1)]=_++[zaL y.1];rw [hrk]
  ·have hc:¬ (k:Int)<(ys.length:Int):=dF hc;obtain rfl:k=ys.length:=by omega
   have hz2:zs.map (fun z=>z.1.map (·.1))=m.wr.map zaL:=by
    rw [Qw] at hz;rw [hz,<- hM.e3,UM];rfl
   have hsz2:xs.map (·.1.length)++zs.map (·.1.length)=zbE m:=by
    rw [zlS hM.e2,zkg hz2];rfl
   rw [hsz2] at hS ⊢;exact⟨((zs,pr,cr),ps,cs),(cvE rfl rfl),hS,hz2,hbZ⟩
 clear hS hbX;rintro⟨⟨zs,pr,cr⟩,ps,cs⟩ V ⟨hS,hz,hbV⟩;dsimp only at hS hz ⊢;have hVs:=hbV.size;have hMV:=hMW.same fun k hk=>hbV.block k (hRW k hk);have fxV:=zb hbV fxW;have hsl1:(zbE m).length<=1000:=by
  unfold zbE;rw [lap,QQ,QQ];omega
 have hsl2:∀ n∈zbE m,n<=1000000:=fun n hn=>by
  unfold zbE at hn;rcases QU.1 hn with hn | hn
  ·obtain⟨r,hr,rfl⟩:=UP.1 hn;have:=(hB.rs r hr).2.1;omega
  ·obtain⟨w,hw,rfl⟩:=UP.1 hn;have:=(hB.wr w hw).2.1;omega
 refine cmo zpX ?_;rintro e V1 ⟨rfl,fo,sV1,hbV1⟩;have hI:=ztt fo (hS.own.row.below hbV1) (fun a ha=>by have:=(zA hS.own ha).2.1;omega) hsl1 hsl2;obtain⟨Kp,hKp⟩:∃ Kp:(Nat->Prop)->Wd->Prop,Kp=fun F Y=>V1.heap.size<=Y.heap.size/\∀ k,k<V.heap.size->(Rd k\/W.heap.size<=k)->Y.heap[k]?=V.heap[k]?/\¬ F k:=⟨_,rfl⟩;have hF0:∀ k,F0 k->k<W.heap.size:=fun k hk=>(hJ.lt _ _ _ _ h0 hk).1;have hLV:=hlt hS.fL;have hRV:=hlt hS.fR;have hb1:Bw W V1:=hbV.trans (hbV1.mono hVs);refine zdN (zbF _) rfl (lb := #[At0 V.heap.size]) rfl rfl hI (Ge _) (fun k hk=>⟨?_,rfl⟩) (fun pre vs W ⟨l,q,_,h,_⟩=>by rw [h];rfl) (by decide)
  F0 (fun pre F Y=>J (pre.map (zbf m)) F Y/\Kp F Y) (fun _ _ _ _=>False) (fun k hk=>?_) ⟨?_,?_⟩ (fun ex=>⟨fun _ _ _ _ h=>h.elim,fun _ _ _ _ h=>h.elim⟩) ⟨hJ.step _ _ _ _ h0 (.below hb1),?_⟩ ?_ ?_ ?_
 ·rcases hk with (rfl | ⟨a,ha,rfl⟩) | h
  ·omega
  ·have:=(zA hS.own ha).2.1;omega
  ·exact h.elim
 ·rcases hk with rfl | ⟨a,ha,rfl⟩
  ·intro h;have:=hF0 _ h;omega
  ·intro h;have:=hF0 _ h;have:=(zA hS.own ha).1;omega
 ·rintro pre F A C ⟨hj,hk⟩ hs;rw [hKp] at hk ⊢;have hss:=hs.size;exact⟨hJ.step _ _ _ _ hj (hs.mono (by omega)),UU hk.1 hss,fun k h1 h2=>⟨(hs.same k (by have:=hk.1;omega) (.inl ⟨by omega,fun h=>h⟩)).trans (hk.2 k h1 h2).1,(hk.2 k h1 h2).2⟩⟩
 ·rintro pre F A k ⟨hj,_⟩ hk;exact hJ.lt _ _ _ _ hj hk
 ·rw [hKp];refine⟨Ge _,fun k h1 h2=>⟨hbV1.block k h1,fun h=>?_⟩⟩;rcases h2 with h2 | h2
  ·exact hrf k h2 h
  ·have:=hF0 k h;omega
 ·rintro yl2 pre ds vs F Y hyl hpre hJ0 ⟨l,qd,hlast,rfl,hsl,hcel⟩ hfy ⟨lo,hlo⟩;have hdx:ds=l:=by simpa using hlast
  subst hdx;refine⟨rfl,F,KeepsG.refl _ _,hJ0,?_⟩;rintro O Y2 hY2 ⟨hj,hkp⟩;rw [hKp] at hkp;obtain⟨hY2s,hkp⟩:=hkp;have hkq:=hkp;have hslY:SlR zE Y2 qd ds:=by
   rw [hY2];refine q9 hsl fun a ha=>zl fun e=>?_;obtain⟨cur,hcur⟩:=hcel a ha;rw [e,hlo] at hcur
   cases hcur
  obtain⟨hdl,hdlt⟩:=znt (hpre.subset (JO _ (KA.2 rfl)));have hdl2:ds.length=m.rs.length+m.wr.length:=by
   rw [hdl];unfold zbE;rw [lap,QQ,QQ]
  have hMY:MixM Rd Y2 b o m q c p1 p2 p3 c1 c2 c3 xs ys:=hMV.same fun k hk=>(hkp k (by have:=hRW k hk;omega) (.inl hk)).1;have fxY:=(hkp bx (by have:=hRW bx hbx;omega) (.inl hbx)).1.trans fxV;have fLY:=(hkp L hLV (.inr (by omega))).1.trans hS.fL;have fRY:=(hkp R hRV (.inr (by omega))).1.trans hS.fR;have kR:∀ {α:Type} {E:Enc α} {T cc:Nat} {r:OA} {ll:List α},OwnS E T W.heap.size V r cc ll->OwnS E T W.heap.size Y2 r cc ll:=fun {α E T cc r ll} h=>h.same fun a ha=>(hkp _ (zA h ha).2.1 (.inr (zA h ha).1)).1;have rkY:=kR hS.rk;have n1Y:=fun z hz=>kR (hS.n1 z hz);have n2Y:=fun z hz y hy=>kR (hS.n2 z hz y hy);clear hkp hlo hcel hsl;have hbY:b<Y2.heap.size:=by have:=hRW b hM.db;omega
  refine⟨_,zc (za fxY) (i:=0) rfl,?_⟩;have hbase:zw Y2 ⟨b,o,none⟩ (exC m.base q c):=by
   have:=zV (n:=0) (m:=333) hMY.cells;rw [Up,Jg (by rw [zI];decide),JE (by rw [zI];decide)] at this;exact this
  refine⟨exC m.base q c,zI _ _ _,hbase,hbY,?_⟩;obtain⟨M,hMM⟩:=nm (Y2.heap.size);refine zn (X:=Y2) (v := .agg (exC m.base q c).toArray) k37 (zI _ _ _) zbY (zdk _ _ _) fun Z hbZ fZ sZ=>?_;have fZ:ExH Z Y2.heap.size m.base q c:=fZ;rw [<- hMM] at fZ ⊢;refine⟨_,zc (za fZ) (i:=0) rfl,cmo (ziY (hMY.ev.below hbZ) (by omega) hMY.qn) ?_⟩;rintro e Z2 ⟨⟨q1,k1,rfl,oE⟩,hbZ2⟩;refine zy k25 (zb hbZ2 fZ) (o:=0+0) (v := .slice q1 m.base.ev.length k1) rfl rfl (by rw [zI];decide) rfl fun S fS gS sS=>?_;rw [show 0+0=0 from rfl,zuG] at fS;have hMZ2:M<Z2.heap.size:=by have:=hbZ2.size;omega
  have hbS:Bw Y2 S:=((zst hbZ hbZ2)).trans (zq gS (by omega) (by omega));have oES:OwnS evE 158 Y2.heap.size S q1 k1 m.base.ev:=qq (oE.lower hbZ.size) (zb hbZ2 fZ) (by decide) gS;clear oE gS sS fZ hbZ hbZ2;have tMY:∀ {S:Wd},Bw Y2 S->MixM Rd S b o m q c p1 p2 p3 c1 c2 c3 xs ys:=fun {S} hb=>hMY.same fun k hk=>hb.block k (by have:=hRW k hk;omega);have hxlen:=hxl;refine⟨_,zc (za (zb hbS fxY)) (i:=0) rfl,_,zfs (tMY hbS).cells (i:=0) rfl,?_⟩;refine⟨Nat,fun k=>⟨[(1,At0 bx),(2,At0 L),(6,At0 R),(10,.slice qd ds.length ds.length),(11,At0 M),(67,.slice p1 m.rs.length c1),(68,i64 m.rs.length),(69,i64 (k:Nat))],[]⟩,
   fun k Z=>k<=m.rs.length/\ExH Z M { m.base with rf:=⟨m.base.rf.n,rfF (m.rs.take k) ds m.base.rf.to⟩ } q1 k1/\OwnS evE 158 Y2.heap.size Z q1 k1 m.base.ev/\Bw Y2 Z,fun k=>m.rs.length-k,0,
   (cvE rfl rfl),⟨Gg _,fS,oES,hbS⟩,?_⟩
  clear fS oES hbS;rintro k Z ⟨hk,fZ,oE,hbZ⟩;refine biE (fun hc=>?_) fun hc=>?_
  ·have hc:(k:Int)<(m.rs.length:Int):=dT hc;have hkl:k<m.rs.length:=by omega
   have hZM:=tMY hbZ;have hZs:=hbZ.size;obtain⟨⟨r,s⟩,hrs⟩:∃ x,m.rs[k]=x:=⟨_,rfl⟩;obtain⟨hr48,hs1,hs48⟩:=hB.rs (r,s) (by rw [<- hrs];exact gM hkl);dsimp only at hr48 hs1 hs48;have hkx:k<xs.length:=by omega
   obtain⟨y,hyk⟩:∃ y,xs[k]=y:=⟨_,rfl⟩;have hym:y∈xs:=by rw [<- hyk];exact gM hkx
   have hys:y.1=s:=by
    have h1:(xs.map (·.1))[k]?=some y.1:=(by rw [KU,gE hkx,hyk];rfl);rw [hM.e2,KU,gE hkl,hrs] at h1;exact (Ug h1).symm
   obtain⟨d,hd⟩:∃ d,ds[k]?=some d:=⟨_,gE (by omega)⟩;have hkd:k<ds.length:=by omega
   have hde:ds[k]=d:=by rw [gE hkd] at hd;exact Ug hd
   have hdlt2:d<y.1.length:=by
    refine hdlt k _ d ?_ hd;unfold zbE;rw [Jp (by rw [QQ];exact hkl),KU,gE hkl,hrs,hys];rfl
   have hdlt3:d<s.length:=by rw [<- hys];exact hdlt2
   obtain⟨t,ht⟩:∃ t,y.1[d]=t:=⟨_,rfl⟩;have hts:s[d]=t:=by
    have h1:y.1[d]?=some t:=(by rw [gE hdlt2,ht]);rw [hys,gE hdlt3] at h1;exact Ug h1
   have ht48:t<48:=hs48 t (by rw [<- hts];exact gM hdlt3);have hgt:s.getD (ds.getD k 0) 0=t:=by
    rw [gDe,gDe,hd];show (s[d]?).getD 0=t;rw [gE hdlt3,hts];rfl
   have htk:rfF (m.rs.take (k+1)) ds m.base.rf.to=upd (rfF (m.rs.take k) ds m.base.rf.to) t (rfF (m.rs.take k) ds m.base.rf.to t|||2^r):=by
    rw [tsg hkl,hrs,zkc,Qu,Uc hk,hgt]
   obtain⟨G,hG⟩:=nm (rfF (m.rs.take k) ds m.base.rf.to);have hGw:zG G:=by
    rw [hG];exact zmX (ds:=[]) hB.rf fun r hr=>(hB.rs r (JZ hr)).1
   rw [<- hG] at fZ htk;obtain⟨A,T,hA,hE⟩:=zqJ { m.base with rf:=⟨m.base.rf.n,G⟩ } q1 k1;have hRel:RelAt Z M 50 37 A T ⟨m.base.rf.n,G⟩:=⟨hA,by rw [<- hE];exact fZ⟩;have hr1:k<(m.rs.map (·.1)).length:=by rw [QQ];exact hkl
   obtain⟨b1,o1,hp1,hl1,hat1⟩:=hZM.r1.at hr1;obtain⟨b2,o2,hp2,hl2,hat2⟩:=hZM.r2.at hkx;obtain⟨b3,o3,hp3,hl3,hat3⟩:=(hZM.n2 y hym).at hdlt2;have hslZ:=hslY.below hbZ;obtain⟨b4,o4,hp4,hl4,hat4⟩:=hslZ.at hkd;have e1:some (Value.slice p1 m.rs.length c1)=some (Value.slice (some ⟨b1,o1,none⟩) m.rs.length c1):=by rw [hp1]
   subst hp1;subst hp2;subst hp4;refine⟨k,rfl,hkl,i64 r,by have:=zc (hat1 k hr1) (i:=0) (v:=i64 r) (by rw [Qq,hrs];rfl);exact this,?_⟩;have dZ:Bw Z Z.drew:=(Gj _ _).drew;refine DrawE.ord [23] [0,1,2,3,4,5,6,7,8,9,10,11,12,13,14,15,16,17,18,19,20,21,22,23] (by kernel_rfl) ⟨_,zc (za (hdr (zb hbZ fxY))) (i:=0) rfl,_,zfs (hZM.same (X:=Z.drew) fun _ _=>rfl).cells (i:=1) rfl,k,rfl,hkx,slV y,by have:=zc (zt dZ (hat2 k hkx)) (i:=0) (v:=slV y) (by rw [hyk];rfl);exact this,k,rfl,hkd,i64 d,by have:=zc (zt dZ (hat4 k hkd)) (i:=0) (v:=i64 d) (by rw [hde];rfl);exact this,?_⟩;unfold slV;rw [hp3];refine⟨d,rfl,hdlt2,i64 t,by have:=zc (zt dZ (hat3 d hdlt2)) (i:=0) (v:=i64 t) (by rw [ht];rfl);exact this,t,rfl,ht48,s64 (G t),(hRel.same (Y:=Z.drew) rfl).cell ht48,by omega,_,jU (e:=r) (by omega),_,zaj (hGw t ht48) (z6 (by omega)),t,rfl,ht48,zy k27 (hRel.same (Y:=Z.drew) rfl).cells (o:=50+1+t*1) (v:=s64 (G t|||2^r)) rfl rfl (by rw [hRel.len];omega) rfl fun S fS gS sS=>?_⟩;rw [hRel.set ht48] at fS;have gS2:Z.grownBy S (some M):=zh (zi dZ) gS;refine nxI (by omega) ⟨k+1,(cvE rfl rfl),⟨hkl,?_,qq oE fZ (by decide) gS2,hbZ.trans (zq gS2 hZs (by omega))⟩,zdc (by omega)⟩;rw [htk];have e5:=hE ⟨m.base.rf.n,upd G t (G t|||2^r)⟩;show S.heap[M]?=some (.cells (exC { m.base with rf:=⟨m.base.rf.n,upd G t (G t|||2^r)⟩ } q1 k1).toArray _ _);exact fS.trans (by rw [<- e5])
  have hc:¬ (k:Int)<(m.rs.length:Int):=dF hc;obtain rfl:k=m.rs.length:=by omega
  rw [Qw] at fZ;obtain⟨RF,hRF⟩:∃ RF:ExD,RF={ m.base with rf:=⟨m.base.rf.n,rfF m.rs ds m.base.rf.to⟩ }:=⟨_,rfl⟩;rw [<- hRF] at fZ;have hRFe:RF.ev=m.base.ev:=by rw [hRF]
  have hRFc:RF.co=m.base.co:=by rw [hRF]
  have hRFm:RF.mem=m.base.mem:=by rw [hRF]
  obtain⟨dl,hdle⟩:=nm (ds.drop m.rs.length);have hdll:dl.length=m.wr.length:=by rw [hdle,Qt];omega
  have hslD:SlR zE Y2 (je qd ds.length m.rs.length 1) dl:=by
   have:=hslY.sub (cap:=ds.length) (lo:=m.rs.length) (hi:=ds.length) (by omega) (Ge _) (Ge _);rw [JE (by rw [Qt];exact Ge _),<- hdle] at this;exact this
  refine⟨_,zc (za (zb hbZ fxY)) (i:=0) rfl,_,zfs (tMY hbZ).cells (i:=0) rfl,m.rs.length,rfl,by omega,?_⟩;obtain⟨qD,hqD⟩:=nm (je qd ds.length m.rs.length 1);rw [<- hqD] at hslD ⊢;have hdn:ds.length-m.rs.length=dl.length:=by omega
  rw [hdn];obtain⟨Rs,hRs⟩:=nm (m.wr.map zaL);have hRsl:Rs.length=m.wr.length:=by rw [hRs,QQ]
  have hzl:zs.length=m.wr.length:=by have:=Gs List.length hz;simpa using this
  have hRsb:∀ R∈Rs,∀ k∈R,k≠[]/\k.length<=48/\∀ a∈k,a<m.base.ev.length:=fun R hR k hk=>by
   rw [hRs] at hR;obtain⟨w,hw,rfl⟩:=UP.1 hR;exact (hB.wr w hw).2.2 k hk
  refine⟨Nat,fun l=>⟨[(1,At0 bx),(2,At0 L),(6,At0 R),(11,At0 M),(104,.slice qD dl.length dl.length),(105,i64 dl.length),(106,i64 (l:Nat))],[]⟩,
   fun l Z=>l<=dl.length/\ExH Z M { RF with co:=(coG m.base.ev 0 (Rs.take l) dl (RF.co,RF.mem)).1,mem:=(coG m.base.ev 0 (Rs.take l) dl (RF.co,RF.mem)).2 } q1 k1/\OwnS evE 158 Y2.heap.size Z q1 k1 m.base.ev/\Bw Y2 Z,fun l=>dl.length-l,0,
   (cvE rfl rfl),⟨Gg _,fZ,oE,hbZ⟩,?_⟩
  clear fZ oE hbZ;rintro l Z ⟨hl,fZ,oE,hbZ⟩;obtain⟨P,hP⟩:=nm (coG m.base.ev 0 (Rs.take l) dl (RF.co,RF.mem));rw [<- hP] at fZ;have hZs:=hbZ.size;have hPw:zG P.1.to:=by
   rw [hP];refine znx (by rw [hRFc];exact hB.co) fun R hR k hk a ha=>?_;have:=(hRsb R (JZ hR) k hk).2.2 a ha;omega
  refine biE (fun hc=>?_) fun hc=>?_
  ·have hc:(l:Int)<(dl.length:Int):=dT hc;have hll:l<dl.length:=by omega
   have hlz:l<zs.length:=by omega
   have hlR:l<Rs.length:=by omega
   obtain⟨z,hzk⟩:∃ z,zs[l]=z:=⟨_,rfl⟩;have hzm:z∈zs:=by rw [<- hzk];exact gM hlz
   have hzR:Rs[l]?=some (z.1.map (·.1)):=by
    rw [hRs,<- hz,KU,gE hlz,hzk];rfl
   have hzRm:z.1.map (·.1)∈Rs:=JY hzR;obtain⟨d,hd⟩:∃ d,dl[l]=d:=⟨_,rfl⟩;have hdd:dl[l]?=some d:=by rw [gE hll,hd]
   have hdz:d<z.1.length:=by
    refine hdlt (m.rs.length+l) _ d ?_ (by rw [hdle,Kw] at hdd;exact hdd);unfold zbE;rw [Jl (by rw [QQ];omega),QQ,Jw];have:=hzR;rw [hRs,KU] at this;rw [KU]
    cases hw:m.wr[l]? with
    | none=>rw [hw] at this;cases this
    | some w =>
     rw [hw] at this;have h2:zaL w=z.1.map (·.1):=Ug this;show some (zaL w).length=_;rw [h2,QQ]
   obtain⟨y,hyk⟩:∃ y,z.1[d]=y:=⟨_,rfl⟩;have hym:y∈z.1:=by rw [<- hyk];exact gM hdz
   obtain⟨hy0,hy48,hyev⟩:=hRsb _ hzRm y.1 (UP.2 ⟨y,hym,rfl⟩);have hgy:(z.1.map (·.1)).getD d []=y.1:=by
    rw [gDe,KU,gE hdz,hyk];rfl
   obtain⟨hlR2,hzR2⟩:=Jq.1 hzR;have htk:coG m.base.ev 0 (Rs.take (l+1)) dl (RF.co,RF.mem)=(zbw y.1 P.1,upd P.2 l (zhw m.base.ev y.1)):=by
    rw [tsg hlR,hzR2,zlc,<- hP,Qu,Uc (by omega),UY];rw [show dl.getD l 0=d by rw [gDe,hdd];rfl,hgy]
   obtain⟨bD,oD,hpD,hlD,hatD⟩:=(hslD.below hbZ).at hll;obtain⟨bR,oR,hpR,hlR0,hatR⟩:=(rkY.below hbZ).row.at hlz;obtain⟨bz,oz,hpz,hlz0,hatz⟩:=((n1Y z hzm).below hbZ).row.at hdz;have hyrow:=((n2Y z hzm y hym).below hbZ).row;have hylt:=fun a ha=>(zA (n2Y z hzm y hym) (a:=a) ha).2.1;subst hpD;subst hpR;refine⟨l,rfl,hll,i64 d,by have:=zc (hatD l hll) (i:=0) (v:=i64 d) (by rw [hd];rfl);exact this,_,zc (za (zb hbZ fRY)) (i:=0) rfl,l,rfl,hlz,.slice z.2.1 z.1.length z.2.2,by have:=zc (hatR l hlz) (i:=0) (v := .slice z.2.1 z.1.length z.2.2) (by rw [hzk];rfl);exact this,?_⟩;rw [hpz];refine⟨d,rfl,hdz,slV y,by have:=zc (hatz d hdz) (i:=0) (v:=slV y) (by rw [hyk];rfl);exact this,?_⟩;obtain⟨A,T,hA,hE⟩:=zmm { RF with co:=P.1,mem:=P.2 } q1 k1;have hRel:RelAt Z M 99 37 A T P.1:=⟨hA,by rw [<- hE];exact fZ⟩;refine cmo (zqb hRel hPw hyrow (fun a ha=>by have:=hylt a ha;omega) (by omega) (fun a ha=>by have:=hyev a ha;omega)) ?_;rintro e V2 ⟨rfl,hRel2,gV2⟩;have fV2:ExH V2 M { RF with co:=zbw y.1 P.1,mem:=P.2 } q1 k1:=by
    have e5:=hE (zbw y.1 P.1);show V2.heap[M]?=some (.cells (exC { RF with co:=zbw y.1 P.1,mem:=P.2 } q1 k1).toArray _ _);exact hRel2.cells.trans (by rw [<- e5])
   have hbV2:Bw Y2 V2:=hbZ.trans (zq gV2 hZs (by omega));have oE2:=qq oE fZ (by decide) gV2;have hyr2:=((n2Y z hzm y hym).below hbV2).row;obtain⟨j,hj2⟩:∃ j,j+1=y.1.length:=⟨y.1.length-1,by have:=List.length_pos_iff.2 hy0;omega⟩;have hjl:j<y.1.length:=by omega
   obtain⟨b6,o6,hp6,hl6,hat6⟩:=hyr2.at hjl;obtain⟨t,ht⟩:∃ t,y.1[j]=t:=⟨_,rfl⟩;have htev:t<m.base.ev.length:=hyev t (by rw [<- ht];exact gM hjl);have hlast:y.1.getLastD 0=t:=by
    rw [List.getLastD_eq_getLast?,List.getLast?_eq_getElem?,show y.1.length-1=j by omega,gE hjl,ht];rfl
   obtain⟨b7,o7,hp7,hl7,hat7⟩:=oE2.row.at htev;have hlV:zhw m.base.ev y.1=(m.base.ev[t]).v:=by
    show (m.base.ev.getD (y.1.getLastD 0) ev0).v=_;rw [hlast,gDe,gE htev];rfl
   have dV:Bw V2 V2.drew:=(Gj _ _).drew;have hl6':l<6:=by omega
   unfold slV;rw [hp6];refine DrawE.ord [15] [0,1,2,3,4,5,6,7,8,9,10,11,12,13,14,15] (by kernel_rfl) ⟨.slice q1 m.base.ev.length k1,by have:=zc (za (hdr fV2)) (i:=0) (v := .slice q1 RF.ev.length k1) rfl;rw [hRFe] at this;exact this,(j:Nat),(zk (by omega)).trans (by omega),j,rfl,hjl,i64 t,by have:=zc (zt dV (hat6 j hjl)) (i:=0) (v:=i64 t) (by rw [ht];rfl);exact this,?_⟩;rw [hp7];refine⟨t,rfl,htev,u8 (m.base.ev[t]).v,by have:=zc (zt dV (hat7 t htev)) (i:=3) (v:=u8 (m.base.ev[t]).v) rfl;exact this,l,rfl,hl6',zy k5 (hdr fV2) (o:=327+l*1) (v:=u8 (m.base.ev[t]).v) rfl rfl (by rw [zI];omega) rfl fun S fS gS sS=>?_⟩;rw [Gf,zsJ _ _ _ hl6'] at fS;have gS2:V2.grownBy S (some M):=zh (zi dV) gS;refine nxI (by omega) ⟨l+1,(cvE rfl rfl),⟨hll,?_,by rw [<- hp7];exact qq oE2 fV2 (by decide) gS2,hbV2.trans (zq gS2 hbV2.size (by omega))⟩,zdc (by omega)⟩;rw [htk,hlV,<- hp7];exact fS
  have hc:¬ (l:Int)<(dl.length:Int):=dF hc;obtain rfl:l=dl.length:=by omega
  rw [JE (by omega)] at hP;have hcand:zbf m ds={ RF with co:=P.1,mem:=P.2 }:=by
   rw [hP,hRF,hdle,hRs];rfl
  rw [<- hcand] at fZ;have oE:OwnS evE 158 Y2.heap.size Z q1 k1 (zbf m ds).ev:=oE;refine⟨_,zc (za (zb hbZ fLY)) (i:=0) rfl,exC (zbf m ds) q1 k1,zI _ _ _,za fZ,hlt fZ,?_⟩;have hjZ:=hJ.step _ _ _ _ hj (StepG.below hbZ);have hGv:∀ k,GvX [.agg (exC (zbf m ds) q1 k1).toArray] k->Y2.heap.size<=k/\∃ a,q1=some a/\k=a.block:=by
   rintro k ⟨x,a,cc,he,rfl⟩;have h1:(exC (zbf m ds) q1 k1).toArray=(exC x (some a) cc).toArray:=by
    have:=Jv he;exact Value.agg.inj this
   have h2:exC (zbf m ds) q1 k1=exC x (some a) cc:=by simpa using h1
   have h3:Value.slice q1 (zbf m ds).ev.length k1=Value.slice (some a) x.ev.length cc:=Jv h2;have h4:q1=some a:=by injection h3
   exact⟨(zA oE h4).1,a,h4,rfl⟩
  have hmp:(pre++[ds]).map (zbf m)=pre.map (zbf m)++[zbf m ds]:=by rw [QT];rfl
  have hpm:(pre.map (zbf m)++[zbf m ds]) <+: zgf m:=by
   obtain⟨t,ht⟩:=hpre;refine⟨t.map (zbf m),?_⟩;unfold zgf;rw [<- ht,QT,hmp]
  refine YieldR.mono (hy _ (zbf m ds) [.agg (exC (zbf m ds) q1 k1).toArray] F Z hjZ ⟨_,q1,k1,by simp,rfl,oE.lower (by omega)⟩ (fun k hk=>by have:=(hGv k hk).1;omega) hpm) ?_;rintro v U ⟨rfl,F',hjU,kU⟩;refine brF ?_;have kF:KeepsG F F' Y2 U:=⟨kU.os.trans hbZ.os,kU.tape.trans hbZ.tape,kU.output.trans hbZ.output,UU hbZ.size kU.size,fun k hk hf=>(kU.same k (by omega) (fun h=>h.elim hf fun h=>by have:=(hGv k h).1;omega)).trans (hbZ.block k hk),fun k hk=>by
   rcases kU.fp k hk with (h | h) | h
   ·exact .inl h
   ·exact .inr (hGv k h).1
   ·exact .inr (by omega)⟩
  refine⟨F',⟨by rw [hmp];exact hjU,?_⟩,kF⟩;rw [hKp];refine⟨UU hY2s kF.size,fun k h1 h2=>?_⟩;obtain⟨h3,h4⟩:=hkq k h1 h2;refine⟨(kF.same k (by omega) h4).trans h3,fun h=>?_⟩;rcases kF.fp k h with h | h
  ·exact h4 h
  ·omega
 ·rintro D F Y hD hfD ⟨hj,hk⟩ hdef;refine⟨_,rfl,hdef,⟨_,rfl⟩,F,?_⟩;show J ((zcf (zbE m)).map (zbf m)) F _;exact hJ.step _ _ _ _ hj (.put (by omega) hfD _)
 ·rintro D ex pre F Y hD hfD hpre h;exact h.elim
end
end Go.Proofs.YtnadlhpkpnfmbaaGreatDoor
namespace Go.Sei
def isR (x : ExD) (i : Nat) : Bool := decide ((evA x i).k = 1)
def isW (x : ExD) (i : Nat) : Bool := decide ((evA x i).k = 2)
def zaf (x : ExD) (i : Nat) : Bool := isR x i || isW x i
def zg (r : RelD) (a b : Nat) : Bool := (r.to a).testBit b
def zgC (n : Nat) (p : Nat → Bool) : Nat := (List.range n).foldl (fun s b => if p b = true then s ||| 2 ^ b else s) 0
def zbe (n : Nat) (p : Nat → Nat → Bool) : RelD := ju n fun a => zgC n (p a)
def z8 (r : RelD) (l : List RelD) : RelD := l.foldl (fun r o => (zK r o).1) r
def frM (x : ExD) : RelD := (qf (qE x.rf) x.co).1
def zaJ (x : ExD) (a b : Nat) : Bool := zaf x a && (zaf x b && decide ((evA x a).l = (evA x b).l))
def zaG (x : ExD) (r : RelD) : RelD := zbe r.n.toNat fun a b => zg r a b && !decide ((evA x a).th = (evA x b).th)
def zmd (x : ExD) (r : RelD) : RelD := zbe r.n.toNat fun a b => zg r a b && decide ((evA x a).th = (evA x b).th)
def zf3 (x : ExD) : RelD := zbe x.ev.length (zaJ x)
def j6 (x : ExD) (md : UInt8) : Nat := ((List.range x.ev.length).filter fun i => decide ((evA x i).k = 3) && decide ((evA x i).m = md)).foldl (fun s i => s ||| 2 ^ i) 0
def zB (x : ExD) (md : UInt8) : RelD := (qf (qf x.po (idR x.ev.length (j6 x md))).1 x.po).1
def zO (x : ExD) (a : Nat) (md : UInt8) : Bool := decide ((evA x a).m = md) || decide ((evA x a).m = 3)
def jF (x : ExD) (f : RelD) (a b : Nat) : Bool := zg f a b || (zO x a 3 || zO x b 3)
def zcb (m : Nat) (x : ExD) (f l s : RelD) (a b : Nat) : Bool :=
  match m with
  | 1 => false
  | 2 => true
  | 3 => isR x a || (isW x b || jF x f a b)
  | 4 => isR x a || (jF x f a b || (isW x b && (zaJ x a b || zg s a b)))
  | 5 => (isR x a && (zO x a 1 || zg l a b)) || ((isW x b && (zO x b 2 || zg s a b)) || zg f a b)
  | 6 => zg x.dt a b || ((zg x.ct a b && isW x b) || (zg x.rm a b || (zg f a b || ((zg l a b && (isR x a && isR x b)) || (zg s a b && (isW x a && isW x b))))))
  | _ => false
def qV (m : Nat) (x : ExD) : RelD := zbe x.ev.length fun a b => zg x.po a b && (zaf x a && (zaf x b && zcb m x (zB x 3) (zB x 4) (zB x 5) a b))
def zan (x : ExD) : RelD := zbe x.ev.length fun a b => zg x.po a b && zaJ x a b
def zai (m : Nat) (x : ExD) : Nat :=
  if jg (z8 (zan x) [x.rf, x.co, frM x]) = true then
    (if zaS (qK x.rm (qf (frM x) x.co).1).1 = true then
      (if m = 1 then 0 else if jg (z8 (qV m x) [if m = 2 then x.rf else zaG x x.rf, x.co, frM x]) = true then 0 else 3)
     else 2)
  else 1
def j3 (m : Nat) : Bool := decide (1 ≤ m) && decide (m ≤ 6)
def zf8 (m : Nat) (x : ExD) : Bool := j3 m && (zS x && decide (zai m x = 0))
def zey (m : Nat) (x : ExD) : Nat := if j3 m = true ∧ zS x = true then zai m x else 0
theorem zo3 {p:Nat->Bool} {n k:Nat} (hk:k<n) (h:p k=false):(List.range n).all p=false:=by
 rw [KM];exact⟨k,Ur.2 hk,by rw [h];decide⟩
theorem zq9 {p:Nat->Bool} {k:Nat} (h:(List.range k).all p=true) (hp:p k=true):(List.range (k+1)).all p=true:=by
 rw [QY,QL,h];simp [hp]
theorem zdd {a j:Nat}:(2^a).testBit j=decide (j=a):=by
 rw [Kn];exact QH.2 ⟨fun e=>e.symm,fun e=>e.symm⟩
theorem zm0 {a:Nat}:∀ (l:List Nat) (f:Nat->Nat) (b j:Nat),((l.foldl (fun f b=>upd f b (f b|||2^a)) f) b).testBit j=((f b).testBit j||(decide (b∈l)&&decide (j=a)))
 | [],f,b,j=>by simp
 | x::l,f,b,j=>by
  rw [QO,zm0 l];by_cases hx:b=x
  ·subst hx;rw [ji,Ut,zdd];by_cases hl:b∈l <;> by_cases hj:j=a <;> simp [hl,hj]
  ·rw [za3 _ _ hx];simp [hx]
theorem zgh (tf:Nat->Nat):∀ (n b j:Nat),(zaO tf n b).testBit j=(decide (j<n)&&decide (b∈els (tf j)))
 | 0,b,j=>by
  show (0:Nat).testBit j=_;simp
 | n+1,b,j=>by
  have ih:=zgh tf n b j;unfold zaO at ih ⊢;rw [QY,KT,QO,List.foldl_nil,zm0,ih];by_cases hj:j=n
  ·subst hj;simp
  ·by_cases h2:j<n
   ·rw [Uu h2,Uu (by omega:j<n+1),Uj hj];simp
   ·rw [Uj h2,Uj (by omega:¬ j<n+1),Uj hj];simp
theorem zlp {r:RelD} (h:okR r=true) {b j:Nat}:((qE r).to b).testBit j=(decide ((j:Int)<r.n)&&decide (b∈els (r.to j))):=by
 have hn:0<=r.n:=by
  unfold okR at h;rw [bAT,dE] at h;exact h.1
 have e:qE r=⟨r.n,zaO r.to r.n.toNat⟩:=Gz h;rw [e];show (zaO r.to r.n.toNat b).testBit j=_;rw [zgh];congr 1;exact QH.2 (by omega)
theorem znv {s:Nat} (h0:s≠0) (h:s<2^64):ctz s∈els s:=by
 rw [(jO h0 h).1];exact Kz
end Go.Sei
