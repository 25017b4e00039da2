/- Contracts of functions, and plain facts, for the law that the last text of this claim proves. -/
import Derived.Test.YtpalcnbhkigagaaGreatDoorB2
import Derived.Sort.AssemblyPlain
set_option linter.unusedSimpArgs false
set_option linter.unusedVariables false
namespace Go.Proofs.YtpalcnbhkigagaaGreatDoor
open Go.Vc Go.RowKit Go.Sei
theorem zrz:∃ G,TyEq PG 39 true 2 2 G/\∀ r n,G [.bool r,u8 n]:=by
 refine⟨_,.struct (uf Tryz.underlying39).1 (by kernel_rfl) (fun w=>Tryz.isAgg39 w) (qr (by kernel_rfl) (by kernel_rfl)).1 (by kernel_rfl)
  (by rw [(uf Tryz.underlying39).2];exact .cons (by decide) rfl zq2 (.cons (by decide) rfl tU8 .nil)),fun r n=>?_⟩
 exact⟨⟨_,rfl⟩,⟨_,rfl⟩,trivial⟩
theorem zrx:∃ G,TyEq PG 41 true 10 3 G/\∀ x,G (zC.enc x):=by
 obtain⟨G,h1,h2⟩:=zrz;refine⟨_,.struct (uf Tryz.underlying41).1 (by kernel_rfl) (fun w=>Tryz.isAgg41 w) (qr (by kernel_rfl) (by kernel_rfl)).1 (by kernel_rfl)
  (by rw [(uf Tryz.underlying41).2];exact .cons (by decide) rfl (tU8.up 1) (.cons (by decide) rfl (tU8.up 1) (.cons (by decide) rfl (tU8.up 1) (.cons (by decide) rfl h1 (.cons (by decide) rfl h1 (.cons (by decide) rfl (tU8.up 1) (.cons (by decide) rfl (tU8.up 1) (.cons (by decide) rfl (tU8.up 1) .nil)))))))),fun x=>?_⟩
 exact⟨⟨_,rfl⟩,⟨_,rfl⟩,⟨_,rfl⟩,h2 _ _,h2 _ _,⟨_,rfl⟩,⟨_,rfl⟩,⟨_,rfl⟩,trivial⟩
theorem zbd {a b:UInt8} (h:u8 a=u8 b):a=b:=by
 unfold u8 at h;simp only [Value.int.injEq,true_and] at h;exact qV.1 h
theorem zoG {a b:InsD}:zC.enc a=zC.enc b↔a=b:=by
 constructor
 ·intro h;obtain⟨a0,a1,a2,a3,a4,a5,a6,a7,a8,a9⟩:=a;obtain⟨b0,b1,b2,b3,b4,b5,b6,b7,b8,b9⟩:=b;simp only [zC,QI,Ge,Value.bool.injEq] at h;obtain⟨h0,h1,h2,rfl,h4,rfl,h6,h7,h8,h9⟩:=h;rw [zbd h0,zbd h1,zbd h2,zbd h4,zbd h6,zbd h7,zbd h8,zbd h9]
 ·exact fun h=>by rw [h]
theorem zoW (x y:Operand) (a b:InsD) (w:Wd):(do eqGuard .eql 41 x y (.agg (zC.enc a).toArray) (.agg (zC.enc b).toArray);binOp .eql 41 (.agg (zC.enc a).toArray) (.agg (zC.enc b).toArray)).run PG w = .ok (.bool (decide (a=b))) w:=by
 obtain⟨G,h,hG⟩:=zrx;rw [zhF h 9997 rfl (by kernel_rfl) rfl rfl (hG a) (hG b) x y w,zcv zoG]
structure SpV (X:Wd) (g bx:Nat) (x:InsD) (locs after:Nat):Prop where
 c:X.heap[g]?=some (.cells (spC x locs after).toArray 178 (0,0))
 b:X.heap[bx]?=some (.cells #[At0 g] 209 (0,0))
 G:GlobC X
theorem SpV.below {X Y:Wd} {g bx locs after:Nat} {x:InsD} (h:SpV X g bx x locs after) (hb:Bw X Y):SpV Y g bx x locs after:=⟨zb hb h.c,zb hb h.b,h.G.below hb⟩
theorem SpV.cells {X:Wd} {g bx locs after:Nat} {x:InsD} (h:SpV X g bx x locs after):zw X ⟨g,0,none⟩ (spC x locs after):=za h.c
section
variable {g bx locs after:Nat} {x:InsD} {w:Wd}
theorem zpa (h:SpV w g bx x locs after):CB 122 #[At0 bx] w (.bool (decide (1<=x.op.toNat)&&decide (x.op.toNat<=8))):=by
 refine zD 16 [At0 bx] Tryz.func122 ?_;refine⟨_,zc (za h.b) (i:=0) rfl,_,zc h.cells (i:=0) rfl,biE (fun h1=>?_) fun h1=>?_⟩
 ·have h1:(1:Int)<=x.op.toNat:=dT h1;refine⟨_,zc (za h.b) (i:=0) rfl,_,zc h.cells (i:=0) rfl,rb ?_,UX _ _⟩;rw [Up (p:=1<=x.op.toNat) (by omega),Uv,QD];show (x.op.toNat:Int)<=8↔_;omega
 ·have h1:¬ (1:Int)<=x.op.toNat:=dF h1;refine⟨rb ?_,UX _ _⟩;rw [Ue (p:=1<=x.op.toNat) (by omega)];rfl
theorem zo9 (h:SpV w g bx x locs after) (hop:x.op.toNat<=8):CB 123 #[At0 bx] w (.bool (decide (x=zeR x))):=by
 refine zD 9 [At0 bx] Tryz.func123 ?_;have hd:SpV w.drew g bx x locs after:=h.below (UX _ w).drew;refine DrawE.ord [] [0,1,2,3,4,5,6,7] (by kernel_rfl) ⟨_,zc (za hd.b) (i:=0) rfl,zC.enc x,rfl,zF (n:=0) (m:=10) hd.cells,hlt hd.c,_,zc (za hd.b) (i:=0) rfl,cmo (zm8 hd.cells (hlt hd.c) hop hd.G) ?_⟩;rintro e V ⟨rfl,hb⟩;exact⟨hb,_,fun w=>zoW _ _ x (zeR x) w,rfl,(UX _ w).drew.trans hb⟩
theorem zo8 (h:SpV w g bx x locs after):CB 125 #[At0 bx] w (.bool (decide (x.dst.toNat<8))):=by
 refine zD 8 [At0 bx] Tryz.func125 ?_;refine⟨_,zc (za h.b) (i:=0) rfl,_,zc h.cells (i:=1) rfl,rb ?_,UX _ _⟩;show decide ((x.dst.toNat:Int)<8)=_;rw [QD];omega
theorem zo7 (h:SpV w g bx x locs after) (hop:x.op.toNat<=8):CB 126 #[At0 bx] w (.bool (!jp x.op 2||decide (x.loc.toNat<locs))):=by
 refine zD 18 [At0 bx] Tryz.func126 ?_;have hd:SpV w.drew g bx x locs after:=h.below (UX _ w).drew;refine DrawE.ord [] [0,1,2,3,4,5,6,7,8,9,10,11,12,13,14,15,16] (by kernel_rfl) ⟨_,zc (za hd.b) (i:=0) rfl,cmo (zdH 2 hd.cells hop hd.G) ?_⟩;rintro e _ ⟨rfl,rfl⟩;refine⟨UX _ _,biE (fun h1=>?_) fun h1=>?_⟩
 ·have h1:(!jp x.op 2)=true:=h1;exact⟨rb (by rw [h1];rfl),(UX _ w).drew⟩
 ·have h1:(!jp x.op 2)=false:=h1;refine⟨_,zc (za hd.b) (i:=0) rfl,_,zc hd.cells (i:=2) rfl,_,qp _,_,zc (za hd.b) (i:=0) rfl,_,zc hd.cells (i:=10) rfl,rb ?_,(UX _ w).drew⟩;rw [h1,Us,QD];omega
theorem zo6 (h:SpV w g bx x locs after):CB 128 #[At0 bx] w (.bool (zhV x.ar x.an&&zhV x.br x.bn)):=by
 refine zD 16 [At0 bx] Tryz.func128 ?_;refine⟨_,zc (za h.b) (i:=0) rfl,[.bool x.ar,u8 x.an],rfl,zF (n:=3) (m:=2) h.cells,hlt h.c,cmo (zf2 x.ar x.an w) ?_⟩;rintro e V ⟨rfl,hb⟩;have hV:=h.below hb;refine biE (fun h1=>?_) fun h1=>?_
 ·have h1:zhV x.ar x.an=true:=h1;refine⟨_,zc (za hV.b) (i:=0) rfl,[.bool x.br,u8 x.bn],rfl,zF (n:=5) (m:=2) hV.cells,hlt hV.c,cmo (zf2 x.br x.bn V) ?_⟩;rintro e U ⟨rfl,hb2⟩;exact⟨rb (by rw [h1,Uv]),(zst hb hb2)⟩
 ·have h1:zhV x.ar x.an=false:=h1;exact⟨rb (by rw [h1,Ug]),hb⟩
theorem zo5 (h:SpV w g bx x locs after) (hop:x.op.toNat<=8):CB 132 #[At0 bx] w (.bool (!jp x.op 64||(decide (1<=x.skip.toNat)&&decide (x.skip.toNat<=after)))):=by
 refine zD 26 [At0 bx] Tryz.func132 ?_;have hd:SpV w.drew g bx x locs after:=h.below (UX _ w).drew;refine DrawE.ord [] [0,1,2,3,4,5,6,7,8,9,10,11,12,13,14,15,16,17,18,19,20,21,22,23,24] (by kernel_rfl) ⟨_,zc (za hd.b) (i:=0) rfl,cmo (zdH 64 hd.cells hop hd.G) ?_⟩;rintro e _ ⟨rfl,rfl⟩;refine⟨UX _ _,biE (fun h1=>?_) fun h1=>?_⟩
 ·have h1:(!jp x.op 64)=true:=h1;exact⟨rb (by rw [h1];rfl),(UX _ w).drew⟩
 ·have h1:(!jp x.op 64)=false:=h1;rw [h1,Us];refine⟨_,zc (za hd.b) (i:=0) rfl,_,zc hd.cells (i:=9) rfl,biE (fun h2=>?_) fun h2=>?_⟩
  ·have h2:(1:Int)<=x.skip.toNat:=dT h2;refine⟨_,zc (za hd.b) (i:=0) rfl,_,zc hd.cells (i:=9) rfl,_,qp _,_,zc (za hd.b) (i:=0) rfl,_,zc hd.cells (i:=11) rfl,rb ?_,(UX _ w).drew⟩;rw [Up (p:=1<=x.skip.toNat) (by omega),Uv,QD];omega
  ·have h2:¬ (1:Int)<=x.skip.toNat:=dF h2;refine⟨rb ?_,(UX _ w).drew⟩;rw [Ue (p:=1<=x.skip.toNat) (by omega)];rfl
end
def zhL (g bx:Nat):List Value:=[.func (.func 122) #[] #[At0 bx],.func (.func 123) #[] #[At0 bx],.func (.func 125) #[] #[At0 bx],
 .func (.func 126) #[] #[At0 bx],.func (.func 128) #[] #[At0 bx],.func (.func 130) #[At0 g] #[],.func (.func 131) #[At0 g] #[],
 .func (.func 132) #[] #[At0 bx]]
theorem zo4 {g:Nat} {w:Wd}:Calls PG 91 #[At0 g] w fun e w'=>e = .returned (.slice (some ⟨w.heap.size+1,0,none⟩) 8 8) /\
  w'.heap[w.heap.size]?=some (.cells #[At0 g] 209 (0,0))/\w'.heap[w.heap.size+1]?=some (.cells (zhL g w.heap.size).toArray 33 (0,0))/\w'.heap.size=w.heap.size+2/\Bw w w':=by
 refine zD 14 [At0 g] Tryz.func91 ?_;obtain⟨W,hW⟩:=nm (w.alloc (.cells #[At0 g] 209));have hb:W.heap[w.heap.size]?=some (.cells #[At0 g] 209 (0,0)):=by rw [hW];exact zx w _
 have hs:W.heap.size=w.heap.size+1:=by rw [hW,wz]
 have hbb:Bw w W:=by rw [hW];exact (zba w _)
 refine⟨_,zc (za (zx w _)) (i:=0) rfl,_,zc (za (zx w _)) (i:=0) rfl,⟨by decide,by decide,rfl⟩,zhL g w.heap.size,rfl,?_⟩;have hs1:=wz w (.cells #[At0 g] 209);refine⟨?_,?_,?_,?_,?_⟩
 ·show Ending.returned (.slice (some ⟨(w.alloc (.cells #[At0 g] 209)).heap.size,0,none⟩) 8 8)=_;rw [hs1]
 ·exact qm _ (zx w _)
 ·rw [<- hs1];exact zx _ _
 ·rw [wz,wz]
 ·exact ((zba w _)).alloc (by simp) _
structure ThI (X:Wd) (L:Nat) (x:InsD) (locs after:Nat):Prop where
 c:X.heap[L]?=some (.cells (spC x locs after).toArray 178 (0,0))
 b:X.heap[L+1]?=some (.cells #[At0 L] 209 (0,0))
 s:X.heap[L+2]?=some (.cells (zhL L (L+1)).toArray 33 (0,0))
theorem ThI.below {X Y:Wd} {L:Nat} {x:InsD} {locs after:Nat} (h:ThI X L x locs after) (hb:Bw X Y):ThI Y L x locs after:=⟨zb hb h.c,zb hb h.b,zb hb h.s⟩
def zoH:InsD:=⟨0,0,0,false,0,false,0,0,0,0⟩
theorem zji {l:List Bool}:∀ {n:Nat},(∀ j,j<n->l[j]?=some true)->n=l.length->l.all id=true:=by
 intro n h e;rw [Qh];intro b hb;obtain⟨j,hj,rfl⟩:=Kh hb;have:=h j (by omega);rw [gE hj] at this;exact Uc this
theorem zn1 {l:List Bool} {j:Nat} (h:l[j]?=some false):l.all id=false:=by
 rw [KK];obtain⟨hj,e⟩:=Jq.1 h;exact⟨l[j],gM _,by rw [e];decide⟩
theorem zcs {l:List InsD} {k locs:Nat} (hkl:k<l.length) {i:Nat} (h:(qs l[k] locs (l.length-1-k))[i]?=some false) {w X:Wd} (hb:Bw w X) :
  Ending.returned (.bool false) = .returned (.bool (z9 l locs))/\Bw w X:=by
 refine⟨rb ?_,hb⟩;symm;unfold z9;rw [Bool.and_eq_false_iff];refine .inr ?_;rw [KK];refine⟨k,Ul.2 hkl,?_⟩;rw [gE hkl];show ¬ zgf l[k] locs (l.length-1-k)=true;unfold zgf;rw [zn1 h];simp
theorem zjk {p:OA} {cap locs:Nat} {l:List InsD} {w:Wd} (hl:SlR zC w p l) (hG:GlobC w) (hn:l.length<=140737488351232) :
  CB 67 #[.slice p l.length cap,i64 locs] w (.bool (z9 l locs)):=by
 refine zD 43 [.slice p l.length cap,i64 locs] Tryz.func67 ?_;obtain⟨L,hL⟩:=nm (w.heap.size);refine biE (fun h=>?_) fun h=>?_
 ·have h:(12:Int)<l.length:=dT h;exact⟨rb (by unfold z9;rw [Ue (by omega)];rfl),UX _ _⟩
 have h12:¬ (12:Int)<l.length:=dF h;refine⟨spC zoH locs 0,rfl,zm (X:=w) (v := .agg (spC zoH locs 0).toArray) zrF rfl rfl rfl fun V hbV fV sV=>cmo zo4 ?_⟩;rintro e W0 ⟨rfl,hbx,hsl,hsz,hb0⟩;rw [sV,<- hL] at hsz hbx hsl;have hI0:ThI W0 L zoH locs 0:=⟨hL▸zb hb0 fV,hbx,hsl⟩;have hbw:Bw w W0:=zst hbV hb0;have p1:some (Value.pointer (some ⟨w.heap.size,0,none⟩))=some (At0 L):=by rw [hL]
 have p2:some (Value.slice (some ⟨V.heap.size+1,0,none⟩) 8 8)=some (Value.slice (some ⟨L+2,0,none⟩) 8 8):=by rw [sV,hL]
 clear hbx hsl fV sV hb0 hbV;refine⟨Nat,fun k=>⟨[(0,.slice p l.length cap),(1,i64 locs),(5,At0 L),(6,.slice (some ⟨L+2,0,none⟩) 8 8),(17,.slice p l.length cap),(18,i64 l.length),(19,i64 (k:Nat))],[]⟩,
  fun k X=>k<=l.length/\(∀ i,i<k->∀ x,l[i]?=some x->zgf x locs (l.length-1-i)=true)/\(∃ x aft,ThI X L x locs aft)/\Bw w X,fun k=>l.length-k,0,
  ⟨.cons rfl (.cons rfl (.cons p1 (.cons p2 (.cons rfl (.cons rfl (.cons rfl .nil)))))),rfl⟩,⟨UV _,fun i hi=>by omega,⟨zoH,0,hI0⟩,hbw⟩,?_⟩
 rintro k X ⟨hk,hdone,⟨x0,a0,hI⟩,hbX⟩;dsimp only at hk hdone ⊢;refine biE (fun hc=>?_) fun hc=>?_
 ·have hc:(k:Int)<(l.length:Int):=dT hc;have hkl:k<l.length:=by omega
  obtain⟨b,o,rfl,hbl,hat⟩:=hl.at hkl;refine⟨k,rfl,hkl,?_⟩;have hx:=hat k hkl;refine⟨zC.enc l[k],rfl,jB hbX hbl hx,nL hbl hbX.size,zm (X:=X) (v := .agg (zC.enc l[k]).toArray) k41 rfl rfl rfl fun Y hbY fY sY=>⟨zC.enc l[k],rfl,za fY,hlt fY,((l.length-1:Nat):Int),(ze (by omega)).trans (by omega),((l.length-1-k:Nat):Int),(ze (by omega)).trans (by omega),?_⟩⟩;have hY:=hI.below hbY;refine jK k41 hY.c (o:=0) (v := .agg (zC.enc l[k]).toArray) rfl (by show 0+10<=12;omega) rfl fun Z fZ gZ sZ=>jK k3 fZ (o:=11) (v:=i64 (l.length-1-k:Nat)) rfl (by show 11+1<=12;omega) rfl fun U fU gU sU=>?_;have hIU:ThI U L l[k] locs (l.length-1-k):=⟨fU,(gU.block _ (by have:=hlt hY.b;omega) (by simp)).trans ((gZ.block _ (hlt hY.b) (by simp)).trans hY.b),(gU.block _ (by have:=hlt hY.s;omega) (by simp)).trans ((gZ.block _ (hlt hY.s) (by simp)).trans hY.s)⟩;have hbU:Bw w U:=by
   have h1:Bw w Y:=zst hbX hbY;have h2:∀ (A B:Wd),Bw w A->A.grownBy B (some L)->Bw w B:=fun A B ha hg=>ha.trans ⟨hg.os,hg.tape,hg.output,hg.size,fun j hj=>hg.block j (nL hj ha.size) (by simp;omega)⟩;exact h2 _ _ (h2 _ _ h1 gZ) gU
  refine⟨Nat,fun j=>⟨[(0,.slice (some ⟨b,o,none⟩) l.length cap),(1,i64 locs),(5,At0 L),(6,.slice (some ⟨L+2,0,none⟩) 8 8),(17,.slice (some ⟨b,o,none⟩) l.length cap),(18,i64 l.length),(19,i64 (k:Nat)),(32,.slice (some ⟨L+2,0,none⟩) 8 8),(33,i64 8),(34,i64 (j:Nat))],[]⟩,
   fun j X=>j<=8/\(∀ i,i<j->(qs l[k] locs (l.length-1-k))[i]?=some true)/\ThI X L l[k] locs (l.length-1-k)/\Bw w X,fun j=>8-j,0,
   (cvE rfl rfl),⟨UV _,fun i hi=>by omega,hIU,hbU⟩,?_⟩
  clear hIU hbU;rintro j X2 ⟨hj,hpre,hI2,hb2⟩;dsimp only at hj hpre ⊢;have hG2:GlobC X2:=hG.below hb2;have hS:SpV X2 L (L+1) l[k] locs (l.length-1-k):=⟨hI2.c,hI2.b,hG2⟩;refine biE (fun hc2=>?_) fun hc2=>?_
  ·have hc2:(j:Int)<8:=dT hc2;refine⟨j,rfl,(by omega),?_⟩;have ho:0<j->l[k].op.toNat<=8:=fun h0=>by
    have:=Uc (hpre 0 h0);rw [bAT] at this;exact dT this.2
   have hat2:∀ {v:Value},(zhL L (L+1))[j]?=some v->X2.cell? ⟨L+2,0+j*1,none⟩=some v:=fun hv=>by
    have:=zc (za hI2.s) (i:=j) (by simpa using hv);rw [UT];exact this
   have hcs:j=0\/j=1\/j=2\/j=3\/j=4\/j=5\/j=6\/j=7:=by omega
   rcases hcs with rfl | rfl | rfl | rfl | rfl | rfl | rfl | rfl
   ·refine⟨_,hat2 rfl,cmo (zpa hS) ?_⟩;rintro e W ⟨rfl,hbW⟩;have hI3:=hI2.below hbW;refine biE (fun hb=>?_) fun hb=>?_
    ·have hb:(!((qs l[k] locs (l.length-1-k))[0]'(by show 0<8;decide)))=true:=hb;have hb:(qs l[k] locs (l.length-1-k))[0]?=some false:=(by rw [gE (by show 0<8;decide)];exact Gf some (by rw [<- UD ((qs l[k] locs (l.length-1-k))[0]'(by show 0<8;decide)),hb];rfl));exact zcs hkl hb ((zst hb2 hbW))
    ·have hb:(!((qs l[k] locs (l.length-1-k))[0]'(by show 0<8;decide)))=false:=hb;have hb:(qs l[k] locs (l.length-1-k))[0]?=some true:=(by rw [gE (by show 0<8;decide)];exact Gf some (by rw [<- UD ((qs l[k] locs (l.length-1-k))[0]'(by show 0<8;decide)),hb];rfl));refine⟨_,(ze (by omega)).trans rfl,1,(cvE rfl rfl),⟨by omega,fun i hi=>?_,hI3,(zst hb2 hbW)⟩,by decide⟩;by_cases hik:i=0
     ·rw [hik];exact hb
     ·exact hpre i (by omega)
   ·refine⟨_,hat2 rfl,cmo (zo9 hS (ho (by omega))) ?_⟩;rintro e W ⟨rfl,hbW⟩;have hI3:=hI2.below hbW;refine biE (fun hb=>?_) fun hb=>?_
    ·have hb:(!((qs l[k] locs (l.length-1-k))[1]'(by show 1<8;decide)))=true:=hb;have hb:(qs l[k] locs (l.length-1-k))[1]?=some false:=(by rw [gE (by show 1<8;decide)];exact Gf some (by rw [<- UD ((qs l[k] locs (l.length-1-k))[1]'(by show 1<8;decide)),hb];rfl));exact zcs hkl hb ((zst hb2 hbW))
    ·have hb:(!((qs l[k] locs (l.length-1-k))[1]'(by show 1<8;decide)))=false:=hb;have hb:(qs l[k] locs (l.length-1-k))[1]?=some true:=(by rw [gE (by show 1<8;decide)];exact Gf some (by rw [<- UD ((qs l[k] locs (l.length-1-k))[1]'(by show 1<8;decide)),hb];rfl));refine⟨_,(ze (by omega)).trans rfl,2,(cvE rfl rfl),⟨by omega,fun i hi=>?_,hI3,(zst hb2 hbW)⟩,by decide⟩;by_cases hik:i=1
     ·rw [hik];exact hb
     ·exact hpre i (by omega)
   ·refine⟨_,hat2 rfl,cmo (zo8 hS) ?_⟩;rintro e W ⟨rfl,hbW⟩;have hI3:=hI2.below hbW;refine biE (fun hb=>?_) fun hb=>?_
    ·have hb:(!((qs l[k] locs (l.length-1-k))[2]'(by show 2<8;decide)))=true:=hb;have hb:(qs l[k] locs (l.length-1-k))[2]?=some false:=(by rw [gE (by show 2<8;decide)];exact Gf some (by rw [<- UD ((qs l[k] locs (l.length-1-k))[2]'(by show 2<8;decide)),hb];rfl));exact zcs hkl hb ((zst hb2 hbW))
    ·have hb:(!((qs l[k] locs (l.length-1-k))[2]'(by show 2<8;decide)))=false:=hb;have hb:(qs l[k] locs (l.length-1-k))[2]?=some true:=(by rw [gE (by show 2<8;decide)];exact Gf some (by rw [<- UD ((qs l[k] locs (l.length-1-k))[2]'(by show 2<8;decide)),hb];rfl));refine⟨_,(ze (by omega)).trans rfl,3,(cvE rfl rfl),⟨by omega,fun i hi=>?_,hI3,(zst hb2 hbW)⟩,by decide⟩;by_cases hik:i=2
     ·rw [hik];exact hb
     ·exact hpre i (by omega)
   ·refine⟨_,hat2 rfl,cmo (zo7 hS (ho (by omega))) ?_⟩;rintro e W ⟨rfl,hbW⟩;have hI3:=hI2.below hbW;refine biE (fun hb=>?_) fun hb=>?_
    ·have hb:(!((qs l[k] locs (l.length-1-k))[3]'(by show 3<8;decide)))=true:=hb;have hb:(qs l[k] locs (l.length-1-k))[3]?=some false:=(by rw [gE (by show 3<8;decide)];exact Gf some (by rw [<- UD ((qs l[k] locs (l.length-1-k))[3]'(by show 3<8;decide)),hb];rfl));exact zcs hkl hb ((zst hb2 hbW))
    ·have hb:(!((qs l[k] locs (l.length-1-k))[3]'(by show 3<8;decide)))=false:=hb;have hb:(qs l[k] locs (l.length-1-k))[3]?=some true:=(by rw [gE (by show 3<8;decide)];exact Gf some (by rw [<- UD ((qs l[k] locs (l.length-1-k))[3]'(by show 3<8;decide)),hb];rfl));refine⟨_,(ze (by omega)).trans rfl,4,(cvE rfl rfl),⟨by omega,fun i hi=>?_,hI3,(zst hb2 hbW)⟩,by decide⟩;by_cases hik:i=3
     ·rw [hik];exact hb
     ·exact hpre i (by omega)
   ·refine⟨_,hat2 rfl,cmo (zo6 hS) ?_⟩;rintro e W ⟨rfl,hbW⟩;have hI3:=hI2.below hbW;refine biE (fun hb=>?_) fun hb=>?_
    ·have hb:(!((qs l[k] locs (l.length-1-k))[4]'(by show 4<8;decide)))=true:=hb;have hb:(qs l[k] locs (l.length-1-k))[4]?=some false:=(by rw [gE (by show 4<8;decide)];exact Gf some (by rw [<- UD ((qs l[k] locs (l.length-1-k))[4]'(by show 4<8;decide)),hb];rfl));exact zcs hkl hb ((zst hb2 hbW))
    ·have hb:(!((qs l[k] locs (l.length-1-k))[4]'(by show 4<8;decide)))=false:=hb;have hb:(qs l[k] locs (l.length-1-k))[4]?=some true:=(by rw [gE (by show 4<8;decide)];exact Gf some (by rw [<- UD ((qs l[k] locs (l.length-1-k))[4]'(by show 4<8;decide)),hb];rfl));refine⟨_,(ze (by omega)).trans rfl,5,(cvE rfl rfl),⟨by omega,fun i hi=>?_,hI3,(zst hb2 hbW)⟩,by decide⟩;by_cases hik:i=4
     ·rw [hik];exact hb
     ·exact hpre i (by omega)
   ·refine⟨_,hat2 rfl,cmo (ziG hS.cells) ?_⟩;rintro e _ ⟨rfl,rfl⟩;have hbW:Bw X2 X2:=UX _ _;have hI3:=hI2;refine biE (fun hb=>?_) fun hb=>?_
    ·have hb:(!((qs l[k] locs (l.length-1-k))[5]'(by show 5<8;decide)))=true:=hb;have hb:(qs l[k] locs (l.length-1-k))[5]?=some false:=(by rw [gE (by show 5<8;decide)];exact Gf some (by rw [<- UD ((qs l[k] locs (l.length-1-k))[5]'(by show 5<8;decide)),hb];rfl));exact zcs hkl hb ((zst hb2 hbW))
    ·have hb:(!((qs l[k] locs (l.length-1-k))[5]'(by show 5<8;decide)))=false:=hb;have hb:(qs l[k] locs (l.length-1-k))[5]?=some true:=(by rw [gE (by show 5<8;decide)];exact Gf some (by rw [<- UD ((qs l[k] locs (l.length-1-k))[5]'(by show 5<8;decide)),hb];rfl));refine⟨_,(ze (by omega)).trans rfl,6,(cvE rfl rfl),⟨by omega,fun i hi=>?_,hI3,(zst hb2 hbW)⟩,by decide⟩;by_cases hik:i=5
     ·rw [hik];exact hb
     ·exact hpre i (by omega)
   ·refine⟨_,hat2 rfl,cmo (zl0 hS.cells) ?_⟩;rintro e _ ⟨rfl,rfl⟩;have hbW:Bw X2 X2:=UX _ _;have hI3:=hI2;refine biE (fun hb=>?_) fun hb=>?_
    ·have hb:(!((qs l[k] locs (l.length-1-k))[6]'(by show 6<8;decide)))=true:=hb;have hb:(qs l[k] locs (l.length-1-k))[6]?=some false:=(by rw [gE (by show 6<8;decide)];exact Gf some (by rw [<- UD ((qs l[k] locs (l.length-1-k))[6]'(by show 6<8;decide)),hb];rfl));exact zcs hkl hb ((zst hb2 hbW))
    ·have hb:(!((qs l[k] locs (l.length-1-k))[6]'(by show 6<8;decide)))=false:=hb;have hb:(qs l[k] locs (l.length-1-k))[6]?=some true:=(by rw [gE (by show 6<8;decide)];exact Gf some (by rw [<- UD ((qs l[k] locs (l.length-1-k))[6]'(by show 6<8;decide)),hb];rfl));refine⟨_,(ze (by omega)).trans rfl,7,(cvE rfl rfl),⟨by omega,fun i hi=>?_,hI3,(zst hb2 hbW)⟩,by decide⟩;by_cases hik:i=6
     ·rw [hik];exact hb
     ·exact hpre i (by omega)
   ·refine⟨_,hat2 rfl,cmo (zo5 hS (ho (by omega))) ?_⟩;rintro e W ⟨rfl,hbW⟩;have hI3:=hI2.below hbW;refine biE (fun hb=>?_) fun hb=>?_
    ·have hb:(!((qs l[k] locs (l.length-1-k))[7]'(by show 7<8;decide)))=true:=hb;have hb:(qs l[k] locs (l.length-1-k))[7]?=some false:=(by rw [gE (by show 7<8;decide)];exact Gf some (by rw [<- UD ((qs l[k] locs (l.length-1-k))[7]'(by show 7<8;decide)),hb];rfl));exact zcs hkl hb ((zst hb2 hbW))
    ·have hb:(!((qs l[k] locs (l.length-1-k))[7]'(by show 7<8;decide)))=false:=hb;have hb:(qs l[k] locs (l.length-1-k))[7]?=some true:=(by rw [gE (by show 7<8;decide)];exact Gf some (by rw [<- UD ((qs l[k] locs (l.length-1-k))[7]'(by show 7<8;decide)),hb];rfl));refine⟨_,(ze (by omega)).trans rfl,8,(cvE rfl rfl),⟨by omega,fun i hi=>?_,hI3,(zst hb2 hbW)⟩,by decide⟩;by_cases hik:i=7
     ·rw [hik];exact hb
     ·exact hpre i (by omega)
  ·have hc2:¬ (j:Int)<8:=dF hc2;obtain rfl:j=8:=by omega
   have hok:zgf l[k] locs (l.length-1-k)=true:=zji hpre rfl;refine nxI (by omega) ⟨k+1,(cvE rfl rfl),⟨hkl,fun i hi x hlx=>?_,⟨_,_,hI2⟩,hb2⟩,zdc (by omega)⟩;by_cases hik:i=k
   ·subst hik;rw [gE hkl] at hlx;rw [<- Uc hlx];exact hok
   ·exact hdone i (by omega) x hlx
 ·have hc:¬ (k:Int)<(l.length:Int):=dF hc;obtain rfl:k=l.length:=by omega
  refine⟨rb ?_,hbX⟩;unfold z9;rw [Up (by omega),Uv,Eq.comm,Qh];intro i hi;have hi:i<l.length:=Ul.1 hi;rw [gE hi];exact hdone i hi _ (gE hi)
structure GlobE (w:Wd):Prop where
 c:GlobC w
 t64:Tz64M w
 t32:Tz32M w
theorem GlobE.below {w w2:Wd} (h:GlobE w) (hb:Bw w w2):GlobE w2:=⟨h.c.below hb,h.t64.below hb,h.t32.below hb⟩
abbrev zcz:=PathD×(OA×Nat)×(OA×Nat)×(OA×Nat)×(OA×Nat)
def jy:Enc zcz:=⟨fun x=>zgb x.1 x.2.1.1 x.2.1.2 x.2.2.1.1 x.2.2.1.2 x.2.2.2.1.1 x.2.2.2.1.2 x.2.2.2.2.1 x.2.2.2.2.2,12,fun _=>ziu ..,by decide,fun a u hu=>Qh.1 (zit ..) u hu⟩
structure RowIn {α:Type} (E:Enc α) (T:TypeId) (B:Nat) (F:Nat->Prop) (Y:Wd) (q:OA) (c:Nat) (l:List α):Prop where
 own:OwnS E T B Y q c l
 inF:∀ a,q=some a->F a.block
section
variable {α:Type} {E:Enc α} {T:TypeId} {B:Nat} {F G:Nat->Prop} {Y Z:Wd} {q:OA} {c:Nat} {l:List α}
theorem jZ (h:OwnS E T B Y q c l) {a:Addr} (ha:q=some a):B<=a.block/\a.block<Y.heap.size/\∃ cur,Y.heap[a.block]?=some (.cells cur T (0,0)):=by
 rcases h.inv with ⟨h1,_⟩ | ⟨g,cur,h1,h2,h3,_⟩
 ·rw [h1] at ha;cases ha
 ·rw [h1] at ha;cases ha;exact⟨h2,hlt h3,cur,h3⟩
theorem RowIn.same (h:RowIn E T B F Y q c l) (hs:∀ k,F k->k<Y.heap.size->Z.heap[k]?=Y.heap[k]?) (hG:∀ k,F k->G k):RowIn E T B G Z q c l :=
 ⟨h.own.same fun a ha=>hs _ (h.inF a ha) (jZ h.own ha).2.1,fun a ha=>hG _ (h.inF a ha)⟩
end
def PthIn (B:Nat) (F:Nat->Prop) (Y:Wd) (x:zcz):Prop:=RowIn evE 60 B F Y x.2.1.1 x.2.1.2 x.1.ev/\RowIn prE 184 B F Y x.2.2.1.1 x.2.2.1.2 x.1.data/\RowIn prE 184 B F Y x.2.2.2.1.1 x.2.2.2.1.2 x.1.ctrl/\RowIn prE 184 B F Y x.2.2.2.2.1 x.2.2.2.2.2 x.1.rmw
theorem PthIn.same {B:Nat} {F G:Nat->Prop} {Y Z:Wd} {x:zcz} (h:PthIn B F Y x) (hs:∀ k,F k->k<Y.heap.size->Z.heap[k]?=Y.heap[k]?) (hG:∀ k,F k->G k):PthIn B G Z x :=
 ⟨h.1.same hs hG,h.2.1.same hs hG,h.2.2.1.same hs hG,h.2.2.2.same hs hG⟩
theorem ja {W A B:Wd} {r:Option Nat} (h:W.grownBy A r) (hb:Below W.heap.size A B):W.grownBy B r :=
 ⟨hb.os.trans h.os,hb.tape.trans h.tape,hb.output.trans h.output,UJ h.size hb.size,fun k hk hne=>(hb.block k hk).trans (h.block k hk hne)⟩
theorem zoj {q:OA} {cap:Nat} {l:List InsD} {w:Wd} (hl:SlR zC w q l) (hG:GlobC w) (hn:l.length<=140737488351232) :
  CB 37 #[.slice q l.length cap] w (.bool (z9 l 6)):=by
 refine zD 5 [.slice q l.length cap] Tryz.func37 ?_;refine cmo (zjk (locs:=6) hl hG hn) ?_;rintro e X ⟨rfl,hb⟩;exact⟨rfl,hb⟩
def JPa (B n0 L:Nat) (W:Wd) (pre:List RunD) (F:Nat->Prop) (Y:Wd):Prop :=
 (n0<=Y.heap.size/\F L/\∀ k,F k->k<Y.heap.size)/\(∃ (xs:List zcz) (p:OA) (c:Nat),Y.heap[L]?=some (.cells [.slice p xs.length c].toArray 78 (0,0))/\RowIn jy 73 B F Y p c xs/\xs.map (·.1)=pre.map zaM/\∀ x∈xs,PthIn n0 F Y x)/\Below B W Y
theorem JPa.iter {B n0 L:Nat} {W:Wd} (hB:B<=n0) (hn:n0=W.heap.size):JG n0 (fun _=>False) (JPa B n0 L W):=by
 refine⟨?_,?_⟩
 ·rintro pre F A C ⟨⟨h1,h2,h3⟩,⟨xs,p,c,h4,h5,h6,h7⟩,h8⟩ hs;have sf:∀ k,F k->k<A.heap.size->C.heap[k]?=A.heap[k]?:=fun k hk hl=>hs.same k hl (.inr hk);refine⟨⟨UJ h1 hs.size,h2,fun k hk=>nL (h3 k hk) hs.size⟩,⟨xs,p,c,(sf L h2 (h3 L h2)).trans h4,h5.same sf fun k h=>h,h6,fun x hx=>(h7 x hx).same sf fun k h=>h⟩,h8.trans ⟨hs.os,hs.tape,hs.output,hs.size,fun k hk=>hs.same k (by omega) (.inl ⟨by omega,fun h=>h⟩)⟩⟩
 ·rintro pre F A k ⟨⟨_,_,h3⟩,_⟩ hk;exact⟨h3 k hk,fun h=>h⟩
def PthO (B:Nat) (Y:Wd) (x:zcz):Prop:=OwnS evE 60 B Y x.2.1.1 x.2.1.2 x.1.ev/\OwnS prE 184 B Y x.2.2.1.1 x.2.2.1.2 x.1.data/\OwnS prE 184 B Y x.2.2.2.1.1 x.2.2.2.1.2 x.1.ctrl/\OwnS prE 184 B Y x.2.2.2.2.1 x.2.2.2.2.2 x.1.rmw
theorem PthO.mono {B B':Nat} {Y:Wd} {x:zcz} (h:PthO B Y x) (hB:B'<=B):PthO B' Y x:=⟨OwnS.lower h.1 hB,OwnS.lower h.2.1 hB,OwnS.lower h.2.2.1 hB,OwnS.lower h.2.2.2 hB⟩
def wrE (R:RunD) (i:Nat) (v:UInt8):Bool:=(List.range i).any fun j=>decide ((R.ev j).k=2)&&decide ((R.ev j).v=v)
def wrL (rs:List RunD) (v:UInt8):Bool:=rs.any fun R=>wrE R R.many v
theorem zjr (rs:List RunD):jq rs=zH.filter (wrL rs):=rfl
def wrC (f:UInt8->Bool):List Value:=seg 256 fun i => .bool (f (UInt8.ofNat i))
theorem zjs (f:UInt8->Bool) {i:Nat} (h:i<256):(wrC f)[i]?=some (.bool (f (UInt8.ofNat i))):=zaZ _ h
theorem zoh (f:UInt8->Bool) (x:UInt8):(wrC f).set x.toNat (.bool true)=wrC fun v=>f v||decide (x=v):=by
 have hx:=x.toNat_lt;apply KN;intro j;by_cases hj:j<256
 ·rw [zjs _ hj];by_cases e:x.toNat=j
  ·subst e;rw [JC (by unfold wrC;rw [zt];exact hx),UInt8.ofNat_toNat,Up rfl,Bool.or_true]
  ·rw [JT e,zjs _ hj];have:x≠UInt8.ofNat j:=fun h=>e (by rw [h,KF];omega);rw [Ue this,Uu]
 ·rw [JI (by unfold wrC;rw [QM,zt];omega),JI (by unfold wrC;rw [zt];omega)]
theorem zkp (f:UInt8->Bool):(wrC f).length=256:=zt _ _
theorem zmo (rs:List RunD) (R:RunD) (v:UInt8):wrL (rs++[R]) v=(wrL rs v||wrE R R.many v):=by
 unfold wrL;rw [List.any_append];simp
theorem zmq (R:RunD) (i:Nat) (v:UInt8):wrE R (i+1) v=(wrE R i v||(decide ((R.ev i).k=2)&&decide ((R.ev i).v=v))):=by
 unfold wrE;rw [QT,List.any_append];simp
theorem zjZ (p:UInt8->Bool) (x:UInt8):[x].filter p=if p x=true then [x] else []:=by
 rw [Ql,List.filter_nil]
theorem znT {k:Nat} (h:k<256):∃ hl:k<zH.length,zH[k]=UInt8.ofNat k:=by
 have hl:zH.length=256:=by unfold zH;rw [QK,KT]
 refine⟨by rw [hl];exact h,?_⟩;simp [zH]
theorem zrt:List.replicate 256 (Value.bool false)=wrC fun _=>false:=by kernel_rfl
theorem zcG {a b:Nat}:decide ((a:Int)<(b:Int))=decide (a<b):=by rw [QD];omega
def jo (c:Cnd):Bool:=decide (c.thread=0)&&(decide (c.n=0)&&decide (c.val=0))
theorem j3 {threads locs d:Nat} (c:Cnd):jS threads locs (d+1) c=(if c.kind=0 then jo c&&decide (c.kids.length=0) else
  if c.kind=1 then decide (c.thread.toNat<threads)&&(decide (c.n.toNat<8)&&decide (c.kids.length=0)) else
  if c.kind=2 then decide (c.n.toNat<locs)&&(decide (c.thread=0)&&decide (c.kids.length=0)) else
  if c.kind=3\/c.kind=4 then jo c&&(decide (2<=c.kids.length)&&c.kids.all (jS threads locs d)) else
  if c.kind=5 then jo c&&(decide (c.kids.length=1)&&c.kids.all (jS threads locs d)) else false):=by
 obtain⟨k,t,n,v,kids⟩:=c;rfl
def zpE (c:Cnd):Prop:=(c.kind=3\/c.kind=4)/\jo c=true/\2<=c.kids.length\/c.kind=5/\jo c=true/\c.kids.length=1
theorem zj7 {threads locs d:Nat} {c:Cnd} (h:zpE c):jS threads locs (d+1) c=c.kids.all (jS threads locs d):=by
 rw [j3];rcases h with ⟨h1,h2,h3⟩ | ⟨h1,h2,h3⟩
 ·rw [Gj (by rcases h1 with h | h <;> rw [h] <;> decide),Gj (by rcases h1 with h | h <;> rw [h] <;> decide),Gj (by rcases h1 with h | h <;> rw [h] <;> decide),Gk h1,h2,Up h3];rfl
 ·rw [Gj (by rw [h1];decide),Gj (by rw [h1];decide),Gj (by rw [h1];decide),Gj (by rw [h1];decide),Gk h1,h2,Up h3];rfl
theorem zi3 {B threads locs:Nat} {w:Wd} (hB:B<=w.heap.size):∀ (d:Nat) (c:Cnd) (b o:Nat) (p:OA) (cap:Nat),d<=1000->b<B->zw w ⟨b,o,none⟩ (jE c p cap)->KidsV B w p c.kids ->
  Calls PG 92 #[.pointer (some ⟨b,o,none⟩),i64 threads,i64 locs,i64 d] w fun e w'=>e = .returned (.bool (jS threads locs d c))/\w=w':=by
 intro d
 induction d with
 | zero =>
  intro c b o p cap _ hb hc hk;refine zD 141 [.pointer (some ⟨b,o,none⟩),i64 threads,i64 locs,i64 0] Tryz.func92 ?_;exact brT ⟨rfl,rfl⟩
 | succ d ih =>
  intro c b o p cap hd hb hc hk;refine qP 141 [.pointer (some ⟨b,o,none⟩),i64 threads,i64 locs,i64 (d+1:Nat)] (.s .p (.s .p (.c .p (.c .p .p)))) Tryz.func92 ?_;have hbl:b<w.heap.size:=nL hb hB;refine biE (fun h=>?_) fun h=>?_
  ·have h:((d+1:Nat):Int)=0:=dT h;omega
  clear h;refine⟨Unit,fun _=>⟨[(0,.pointer (some ⟨b,o,none⟩)),(1,i64 threads),(2,i64 locs),(3,i64 (d+1:Nat)),(9,.bool (jo c))],[]⟩,fun _ X=>w=X,?_,?_⟩
  ·have fin:∀ {v:Bool},v=jo c->some (Value.bool v)=some (.bool (jo c)):=fun h=>by rw [h]
   refine⟨_,zc hc (i:=1) rfl,biE (fun h1=>?_) fun h1=>?_⟩
   ·have h1:decide (c.thread=0)=true:=(u8d c.thread 0).symm.trans h1;refine⟨_,zc hc (i:=2) rfl,biE (fun h2=>?_) fun h2=>?_⟩
    ·have h2:decide (c.n=0)=true:=(u8d c.n 0).symm.trans h2;exact⟨_,zc hc (i:=3) rfl,(),⟨.cons rfl (.cons rfl (.cons rfl (.cons rfl (.cons (fin (by unfold jo;rw [h1,h2];exact u8d c.val 0)) .nil)))),rfl⟩,rfl⟩
    ·have h2:decide (c.n=0)=false:=(u8d c.n 0).symm.trans h2;exact⟨(),⟨.cons rfl (.cons rfl (.cons rfl (.cons rfl (.cons (fin (by unfold jo;rw [h1,h2];rfl)) .nil)))),rfl⟩,rfl⟩
   ·have h1:decide (c.thread=0)=false:=(u8d c.thread 0).symm.trans h1;exact brF ⟨(),⟨.cons rfl (.cons rfl (.cons rfl (.cons rfl (.cons (fin (by unfold jo;rw [h1];rfl)) .nil)))),rfl⟩,rfl⟩
  rintro _ _ rfl;refine⟨Unit,fun _=>⟨[(0,.pointer (some ⟨b,o,none⟩)),(1,i64 threads),(2,i64 locs),(3,i64 (d+1:Nat))],[]⟩,fun _ X=>zpE c/\w=X,?_,?_⟩
  ·have hkn:c.kids.length<=140737488351232:=by have:=hk.inv.1;omega
   refine⟨_,zc hc (i:=0) rfl,biE (fun h0=>?_) fun h0=>?_⟩
   ·have h0:c.kind=0:=dT ((u8d c.kind 0).symm.trans h0);have e:jS threads locs (d+1) c=(jo c&&decide (c.kids.length=0)):=(by rw [j3,Gk h0]);rw [e];refine biE (fun h=>?_) fun h=>?_
    ·have h:jo c=true:=h;exact⟨_,zc hc (i:=4) rfl,rb (by rw [h,Uv];exact zbj),rfl⟩
    ·have h:jo c=false:=h;exact⟨rb (by rw [h];rfl),rfl⟩
   have h0:¬ c.kind=0:=dF ((u8d c.kind 0).symm.trans h0);refine biE (fun h1=>?_) fun h1=>?_
   ·have h1:c.kind=1:=dT ((u8d c.kind 1).symm.trans h1);have e:jS threads locs (d+1) c=(decide (c.thread.toNat<threads)&&(decide (c.n.toNat<8)&&decide (c.kids.length=0))):=(by rw [j3,Gj h0,Gk h1]);rw [e];refine⟨_,zc hc (i:=1) rfl,_,qp _,biE (fun h=>?_) fun h=>?_⟩
    ·have h:decide (c.thread.toNat<threads)=true:=zcG.symm.trans h;refine⟨_,zc hc (i:=2) rfl,biE (fun h2=>?_) fun h2=>?_⟩
     ·have h2:decide (c.n.toNat<8)=true:=(zcG (b:=8)).symm.trans h2;exact⟨_,zc hc (i:=4) rfl,rb (by rw [h,h2];exact zbj),rfl⟩
     ·have h2:decide (c.n.toNat<8)=false:=(zcG (b:=8)).symm.trans h2;exact⟨rb (by rw [h,h2];rfl),rfl⟩
    ·have h:decide (c.thread.toNat<threads)=false:=zcG.symm.trans h;exact brF ⟨rb (by rw [h];rfl),rfl⟩
   have h1:¬ c.kind=1:=dF ((u8d c.kind 1).symm.trans h1);refine biE (fun h2=>?_) fun h2=>?_
   ·have h2:c.kind=2:=dT ((u8d c.kind 2).symm.trans h2);have e:jS threads locs (d+1) c=(decide (c.n.toNat<locs)&&(decide (c.thread=0)&&decide (c.kids.length=0))):=(by rw [j3,Gj h0,Gj h1,Gk h2]);rw [e];refine⟨_,zc hc (i:=2) rfl,_,qp _,biE (fun h=>?_) fun h=>?_⟩
    ·have h:decide (c.n.toNat<locs)=true:=zcG.symm.trans h;refine⟨_,zc hc (i:=1) rfl,biE (fun h3=>?_) fun h3=>?_⟩
     ·have h3:decide (c.thread=0)=true:=(u8d c.thread 0).symm.trans h3;exact⟨_,zc hc (i:=4) rfl,rb (by rw [h,h3];exact zbj),rfl⟩
     ·have h3:decide (c.thread=0)=false:=(u8d c.thread 0).symm.trans h3;exact⟨rb (by rw [h,h3];rfl),rfl⟩
    ·have h:decide (c.n.toNat<locs)=false:=zcG.symm.trans h;exact brF ⟨rb (by rw [h];rfl),rfl⟩
   have h2:¬ c.kind=2:=dF ((u8d c.kind 2).symm.trans h2);have g34:∀ (hk34:c.kind=3\/c.kind=4),jS threads locs (d+1) c=(jo c&&(decide (2<=c.kids.length)&&c.kids.all (jS threads locs d))):=fun hk34=>by
    rw [j3,Gj h0,Gj h1,Gj h2,Gk hk34]
   refine biE (fun h3=>?_) fun h3=>?_
   ·have h3':decide ((c.kind.toNat:Int)=3)=true:=h3;have h3:c.kind=3\/c.kind=4 := .inl (dT ((u8d c.kind 3).symm.trans h3));refine brE h3' (biE (fun h=>?_) fun h=>?_)
    ·have h:(!jo c)=true:=h;have h:jo c=false:=(by simpa using h);exact brT ⟨rb (by rw [g34 h3,h];rfl),rfl⟩
    ·have h:(!jo c)=false:=h;have h:jo c=true:=(by simpa using h);refine⟨_,zc hc (i:=4) rfl,biE (fun h4=>?_) fun h4=>?_⟩
     ·have h4:(c.kids.length:Int)<2:=dT h4;exact⟨rb (by rw [g34 h3,Ue (by omega)];simp),rfl⟩
     ·have h4:¬ (c.kids.length:Int)<2:=dF h4;exact⟨(),(cvE rfl rfl),.inl ⟨h3,h,by omega⟩,rfl⟩
   have h3:¬ c.kind=3:=dF ((u8d c.kind 3).symm.trans h3);refine biE (fun h4=>?_) fun h4=>?_
   ·have h3:c.kind=3\/c.kind=4 := .inr (dT ((u8d c.kind 4).symm.trans h4));refine biE (fun h=>?_) fun h=>?_
    ·have h:(!jo c)=true:=h;have h:jo c=false:=(by simpa using h);exact brT ⟨rb (by rw [g34 h3,h];rfl),rfl⟩
    ·have h:(!jo c)=false:=h;have h:jo c=true:=(by simpa using h);refine⟨_,zc hc (i:=4) rfl,biE (fun h4=>?_) fun h4=>?_⟩
     ·have h4:(c.kids.length:Int)<2:=dT h4;exact⟨rb (by rw [g34 h3,Ue (by omega)];simp),rfl⟩
     ·have h4:¬ (c.kids.length:Int)<2:=dF h4;exact⟨(),(cvE rfl rfl),.inl ⟨h3,h,by omega⟩,rfl⟩
   have h4:¬ c.kind=4:=dF ((u8d c.kind 4).symm.trans h4);have h34:¬ (c.kind=3\/c.kind=4):=fun h=>h.elim h3 h4;refine biE (fun h5=>?_) fun h5=>?_
   ·have h5:c.kind=5:=dT ((u8d c.kind 5).symm.trans h5);have e:jS threads locs (d+1) c=(jo c&&(decide (c.kids.length=1)&&c.kids.all (jS threads locs d))):=(by rw [j3,Gj h0,Gj h1,Gj h2,Gj h34,Gk h5]);refine biE (fun h=>?_) fun h=>?_
    ·have h:(!jo c)=true:=h;have h:jo c=false:=(by simpa using h);exact brT ⟨rb (by rw [e,h];rfl),rfl⟩
    ·have h:(!jo c)=false:=h;have h:jo c=true:=(by simpa using h);refine⟨_,zc hc (i:=4) rfl,biE (fun h4=>?_) fun h4=>?_⟩
     ·have h4:(!decide ((c.kids.length:Int)=1))=true:=h4;have h4:¬ (c.kids.length:Int)=1:=(by simpa using h4);exact⟨rb (by rw [e,Ue (by omega)];simp),rfl⟩
     ·have h4:(!decide ((c.kids.length:Int)=1))=false:=h4;have h4:(c.kids.length:Int)=1:=(by simpa using h4);exact⟨(),(cvE rfl rfl),.inr ⟨h5,h,by omega⟩,rfl⟩
   have h5:¬ c.kind=5:=dF ((u8d c.kind 5).symm.trans h5);exact⟨rb (by rw [j3,Gj h0,Gj h1,Gj h2,Gj h34,Gj h5]),rfl⟩
  rintro _ _ ⟨ha,rfl⟩;rw [zj7 ha];refine⟨_,zc hc (i:=4) rfl,?_⟩;obtain⟨hn,b1,o1,hp,hks⟩:=hk.inv;refine⟨Nat,fun k=>⟨[(0,.pointer (some ⟨b,o,none⟩)),(1,i64 threads),(2,i64 locs),(3,i64 (d+1:Nat)),(124,i64 c.kids.length),(125,i64 (k:Nat))],[]⟩,fun k X=>k<=c.kids.length/\(∀ x∈c.kids.take k,jS threads locs d x=true)/\w=X,fun k=>c.kids.length-k,0,
   (cvE rfl rfl),⟨UV _,by simp,rfl⟩,?_⟩
  rintro k _ ⟨hk,hall,rfl⟩;dsimp only at hk hall ⊢;refine biE (fun hc2=>?_) fun hc2=>?_
  ·have hc2:(k:Int)<(c.kids.length:Int):=dT hc2;have hkl:k<c.kids.length:=by omega
   rcases hp with hp | rfl
   ·omega
   obtain⟨q,cq,hb1,hq,hkq⟩:=hks k hkl;refine⟨_,zc hc (i:=4) rfl,k,rfl,hkl,(d:Int),(ze (by omega)).trans (by omega),cmo (ih c.kids[k] b1 (o1+k*5) q cq (by omega) hb1 hq hkq) ?_⟩;rintro e _ ⟨rfl,rfl⟩;refine biE (fun h=>?_) fun h=>?_
   ·have h:(!jS threads locs d c.kids[k])=true:=h;refine⟨rb ?_,rfl⟩;symm;rw [KK];exact⟨c.kids[k],gM _,by simpa using h⟩
   ·have h:(!jS threads locs d c.kids[k])=false:=h;refine⟨_,(ze (by omega)).trans rfl,k+1,(cvE rfl rfl),⟨hkl,?_,rfl⟩,zdc (by omega)⟩;rw [tsg hkl];intro x hx;rcases QO.1 hx with hx | hx
    ·exact hall x hx
    ·simp only [Ky] at hx;rw [hx];simpa using h
  ·have hc2:¬ (k:Int)<(c.kids.length:Int):=dF hc2;obtain rfl:k=c.kids.length:=by omega
   rw [Qu] at hall;exact⟨rb (Qh.2 hall).symm,rfl⟩
theorem zqN {B threads locs cap:Nat} {p:OA} {c:Cnd} {w:Wd} (hB:B<=w.heap.size) (hk:KidsV B w p c.kids) :
  CB 70 #[.agg (jE c p cap).toArray,i64 threads,i64 locs] w (.bool (jS threads locs 20 c)):=by
 refine zD 10 [.agg (jE c p cap).toArray,i64 threads,i64 locs] Tryz.func70 ?_;have hb:Bw w (w.alloc (.cells (jE c p cap).toArray 27)):=zba w _;have hn:=zx w (.cells (jE c p cap).toArray 27);refine cmo (zi3 (B:=w.heap.size+1) (by rw [wz];omega) 20 c w.heap.size 0 p cap (by omega) (by omega) (za hn) ((hk.kept (hb.mono hB)).wider (by omega))) ?_;rintro e _ ⟨rfl,rfl⟩;exact⟨rfl,hb⟩
theorem ziJ {g:Nat} {p:Prg} {p1 p2 p3 p4:OA} {c1 c2 c3 c4 B:Nat} {w:Wd} (hc:zw w ⟨g,0,none⟩ (qh p p1 c1 p2 c2 p3 c3 p4 c4)) (hg:g<w.heap.size) (h1:RowB ziF B w p1 p.locs) (hB:B<=w.heap.size) (hcap:p.locs.length<=c1) (hl:PrgLen p) :
  CB 62 #[At0 g] w (.bool (zcV p)):=by
 refine qP 56 [At0 g] (.s .p (.c .p .p)) Tryz.func62 ?_;have hbd:Bw w w.drew:=(UX _ w).drew;have hcd:zw w.drew ⟨g,0,none⟩ (qh p p1 c1 p2 c2 p3 c3 p4 c4):=zo hbd hc;have h1d:SlR ziF w.drew p1 p.locs:=(h1.below (hbd.mono hB)).slr (UJ hB hbd.size);have hln:=hl.locs;refine⟨Unit,fun _=>⟨[(0,At0 g)],[]⟩,fun _ X=>(1<=p.locs.length/\p.locs.length<=6/\p.init.length=p.locs.length)/\X=w.drew,?_,?_⟩
 ·refine DrawE.ord [] [0,1,2,3,4,5,6,7,8,9,10,11,12,13,14,15,16,17,18,19,20,21,22,23,24,25,26] (by kernel_rfl) ⟨_,zc hcd (i:=1) rfl,biE (fun ha=>?_) fun ha=>?_⟩
  ·have ha:(p.locs.length:Int)<1:=dT ha;exact brT (brT ⟨rb (by unfold zcV;rw [Ue (by omega)];rfl),hbd⟩)
  ·have ha:¬ (p.locs.length:Int)<1:=dF ha;refine⟨_,zc hcd (i:=1) rfl,biE (fun hd=>?_) fun hd=>?_⟩
   ·have hd:(6:Int)<(p.locs.length:Int):=dT hd;exact brT ⟨rb (by unfold zcV;rw [Ue (p:=p.locs.length<=6) (by omega)];simp),hbd⟩
   ·have hd:¬ (6:Int)<(p.locs.length:Int):=dF hd;refine⟨_,zc hcd (i:=2) rfl,_,zc hcd (i:=1) rfl,biE (fun he=>?_) fun he=>?_⟩
    ·have he:(!decide ((p.init.length:Int)=(p.locs.length:Int)))=true:=he;have he:¬ (p.init.length:Int)=(p.locs.length:Int):=(by simpa using he);exact⟨rb (by unfold zcV;rw [Ue (p:=p.init.length=p.locs.length) (by omega)];simp),hbd⟩
    ·have he:(!decide ((p.init.length:Int)=(p.locs.length:Int)))=false:=he;have he:(p.init.length:Int)=(p.locs.length:Int):=(by simpa using he);exact⟨(),(cvE rfl rfl),⟨by omega,by omega,by omega⟩,rfl⟩
 rintro _ _ ⟨⟨l1,l6,li⟩,rfl⟩;have hdef:zcV p=zc7 [] p.locs:=by unfold zcV;rw [Up l1,Up l6,Up li];rfl
 rw [hdef];refine⟨_,zc hcd (i:=1) rfl,?_⟩;refine⟨Nat,fun k=>⟨[(0,At0 g),(35,.slice p1 p.locs.length c1),(36,i64 p.locs.length),(37,i64 (k:Nat))],[]⟩,fun k X=>k<=p.locs.length/\zc7 (p.locs.take k) (p.locs.drop k)=zc7 [] p.locs/\X=w.drew,fun k=>p.locs.length-k,0,
  (cvE rfl rfl),⟨UV _,rfl,rfl⟩,?_⟩
 rintro k _ ⟨hk,hna,rfl⟩;dsimp only at hk hna ⊢;refine biE (fun hc2=>?_) fun hc2=>?_
 ·have hc2:(k:Int)<(p.locs.length:Int):=dT hc2;have hkl:k<p.locs.length:=by omega
  obtain⟨b,o,rfl,hb,hat⟩:=h1d.at hkl;have hbk:Bw w w.drew:=hbd;refine⟨k,rfl,hkl,_,zc (hat k hkl) (i:=0) rfl,?_⟩;have hs:p.locs[k].length<=140737488351232:=hl.loc _ (gM _);have hstep:zc7 [] p.locs=(zdC p.locs[k]&&(!((p.locs.take k).any fun q=>decide (q=p.locs[k]))&&zc7 (p.locs.take (k+1)) (p.locs.drop (k+1)))):=by
   rw [<- hna,Jo hkl,tsg hkl];rfl
  refine cmo (zqF p.locs[k] hs _) ?_;rintro e _ ⟨rfl,rfl⟩;refine biE (fun h=>?_) fun h=>?_
  ·have h:(!zdC p.locs[k])=true:=h;have h:zdC p.locs[k]=false:=by simpa using h
   exact brT ⟨rb (by rw [hstep,h];rfl),hbd⟩
  ·have h:(!zdC p.locs[k])=false:=h;have h:zdC p.locs[k]=true:=by simpa using h
   refine⟨_,zc hcd (i:=1) rfl,k,rfl,by omega,?_⟩;have hsub:SlR ziF w.drew (qO (some ⟨b,o,none⟩) c1 0 1) (p.locs.take k):=SlR.sub h1d (lo:=0) (hi:=k) (UV _) (by omega) hcap;have htl:(p.locs.take k).length=k:=by rw [Qs];omega
   have hcn:=zkj (qO (some ⟨b,o,none⟩) c1 0 1) (c1-0) (p.locs.take k) p.locs[k] w.drew hsub (by omega);rw [htl] at hcn;refine cmo hcn ?_;rintro e _ ⟨rfl,rfl⟩;refine biE (fun h5=>?_) fun h5=>?_
   ·have h5:((p.locs.take k).any fun q=>decide (q=p.locs[k]))=true:=h5;exact⟨rb (by rw [hstep,h5];simp),hbd⟩
   ·have h5:((p.locs.take k).any fun q=>decide (q=p.locs[k]))=false:=h5;exact⟨_,(ze (by omega)).trans rfl,k+1,(cvE rfl rfl),⟨hkl,by rw [hstep,h,h5];rfl,rfl⟩,zdc (by omega)⟩
 ·have hc2:¬ (k:Int)<(p.locs.length:Int):=dF hc2;obtain rfl:k=p.locs.length:=by omega
  rw [Qk] at hna;exact⟨rb hna,hbd⟩
structure DmV (B:Nat) (X:Wd) (g bx:Nat) (p:Prg):Prop where
 hB:B<=X.heap.size
 hg:g<X.heap.size
 len:PrgLen p
 h:∃ p1 c1 p2 c2 p3 c3 p4 c4,zw X ⟨g,0,none⟩ (qh p p1 c1 p2 c2 p3 c3 p4 c4)/\RowB ziF B X p1 p.locs/\RowB zI B X p2 p.init/\ThrsV B X p3 p.threads/\KidsV B X p4 p.cond.kids/\p.locs.length<=c1
 b:X.heap[bx]?=some (.cells #[At0 g] 84 (0,0))
 G:GlobC X
theorem DmV.below {B:Nat} {X Y:Wd} {g bx:Nat} {p:Prg} (h:DmV B X g bx p) (hb:Bw X Y):DmV B Y g bx p:=by
 obtain⟨p1,c1,p2,c2,p3,c3,p4,c4,h0,h1,h2,h3,h4,h5⟩:=h.h;have hb':=hb.mono h.hB;exact⟨UJ h.hB hb.size,nL h.hg hb.size,h.len,⟨p1,c1,p2,c2,p3,c3,p4,c4,zo hb h0,h1.below hb',h2.below hb',h3.below hb',h4.kept hb',h5⟩,zb hb h.b,h.G.below hb⟩
def zjG (sel:Bool) (bx:Nat):Value:=match sel with
 | false => .func (.func 64) #[] #[]
 | true => .func (.func 66) #[] #[.pointer (some ⟨bx,0,none⟩)]
def zbr (sel:Bool) (p:Prg) (l:List InsD):Bool:=match sel with
 | false=>decide (l.length<=12)
 | true=>z9 l p.locs.length
section
variable {B g bx:Nat} {p:Prg} {w:Wd}
theorem zom (q:OA) (cap:Nat) (l:List InsD):Calls PG 64 #[.slice q l.length cap] w fun e w'=>e = .returned (.bool (decide (l.length<=12)))/\w=w':=by
 refine zD 6 [.slice q l.length cap] Tryz.func64 ?_;refine⟨rb ?_,rfl⟩;rw [QD];show ((l.length:Int)<=12)↔_;omega
theorem zmA (h:DmV B w g bx p) {q:OA} {cap:Nat} {l:List InsD} (hl:SlR zC w q l) (hn:l.length<=140737488351232) :
  CB 66 #[.slice q l.length cap,At0 bx] w (.bool (z9 l p.locs.length)):=by
 refine zD 11 [.slice q l.length cap,At0 bx] Tryz.func66 ?_;obtain⟨p1,c1,p2,c2,p3,c3,p4,c4,h0,h1,h2,h3,h4,h5⟩:=h.h;refine⟨_,zc (za h.b) (i:=0) rfl,_,zc h0 (i:=1) rfl,cmo (zjk hl h.G hn) ?_⟩;rintro e V ⟨rfl,hb⟩;exact⟨rfl,hb⟩
theorem zk1 (sel:Bool) (h:DmV B w g bx p):CB 58 #[zjG sel bx,At0 bx] w (.bool (p.threads.all (zbr sel p))):=by
 refine zD 20 [zjG sel bx,At0 bx] Tryz.func58 ?_;obtain⟨p1,c1,p2,c2,p3,c3,p4,c4,h0,h1,h2,h3,h4,h5⟩:=h.h;obtain⟨xs,hxs,hr,hx⟩:=h3;have hlen:p.threads.length=xs.length:=by rw [<- hxs,QK]
 have hln:=h.len.threads;refine⟨_,zc (za h.b) (i:=0) rfl,_,zc h0 (i:=3) rfl,?_⟩;refine⟨Nat,fun k=>⟨[(0,zjG sel bx),(1,At0 bx),(9,.slice p3 p.threads.length c3),(10,i64 p.threads.length),(11,i64 (k:Nat))],[]⟩,fun k X=>k<=p.threads.length/\(∀ l∈p.threads.take k,zbr sel p l=true)/\Bw w X,fun k=>p.threads.length-k,0,
  (cvE rfl rfl),⟨UV _,by simp,UX _ _⟩,?_⟩
 rintro k X ⟨hk,hall,hbX⟩;dsimp only at hk hall ⊢;have hX:=h.below hbX;refine biE (fun hc=>?_) fun hc=>?_
 ·have hc:(k:Int)<(p.threads.length:Int):=dT hc;have hkl:k<p.threads.length:=by omega
  have hkx:k<xs.length:=by omega
  have e1:p.threads[k]=xs[k].1:=by simp [<- hxs]
  obtain⟨b,o,hp3,hat⟩:=hr.get;rcases hp3 with hp3 | rfl
  ·omega
  refine⟨k,rfl,hkl,?_⟩;obtain⟨hb1,ha1⟩:=hat k hkx;refine⟨_,zc (jB (hbX.mono h.hB) hb1 ha1) (i:=0) rfl,?_⟩;have zdG:SlR zC X xs[k].2.1 xs[k].1:=((hx _ (gM hkx)).below (hbX.mono h.hB)).slr hX.hB;have hln1:xs[k].1.length<=140737488351232:=by rw [<- e1];exact h.len.thread _ (gM _)
  have hfin:zbr sel p xs[k].1=false->p.threads.all (zbr sel p)=false:=fun hf=>by
   rw [KK];exact⟨p.threads[k],gM _,by rw [e1,hf];simp⟩
  have hgo:zbr sel p xs[k].1=true->∀ l∈p.threads.take (k+1),zbr sel p l=true:=fun ht=>by
   rw [tsg hkl];intro x hx;rcases QO.1 hx with hx | hx
   ·exact hall x hx
   ·simp only [Ky] at hx;rw [hx,e1];exact ht
  cases sel with
  | false =>
   refine cmo (zom xs[k].2.1 xs[k].2.2 xs[k].1) ?_;rintro e _ ⟨rfl,rfl⟩;refine biE (fun hb=>?_) fun hb=>?_
   ·have hb:(!zbr false p xs[k].1)=true:=hb;exact⟨rb (hfin (by simpa using hb)).symm,hbX⟩
   ·have hb:(!zbr false p xs[k].1)=false:=hb;exact⟨_,(ze (by omega)).trans rfl,k+1,(cvE rfl rfl),⟨hkl,hgo (by simpa using hb),hbX⟩,zdc (by omega)⟩
  | true =>
   refine cmo (zmA hX (cap:=xs[k].2.2) zdG hln1) ?_;rintro e Y ⟨rfl,hbY⟩;refine biE (fun hb=>?_) fun hb=>?_
   ·have hb:(!zbr true p xs[k].1)=true:=hb;exact⟨rb (hfin (by simpa using hb)).symm,(zst hbX hbY)⟩
   ·have hb:(!zbr true p xs[k].1)=false:=hb;exact⟨_,(ze (by omega)).trans rfl,k+1,(cvE rfl rfl),⟨hkl,hgo (by simpa using hb),(zst hbX hbY)⟩,zdc (by omega)⟩
 ·have hc:¬ (k:Int)<(p.threads.length:Int):=dF hc;obtain rfl:k=p.threads.length:=by omega
  rw [Qu] at hall;exact⟨rb (Qh.2 hall).symm,hbX⟩
theorem zqu (h:DmV B w g bx p):CB 59 #[At0 bx] w (.bool (zcK p.name)):=by
 refine zD 7 [At0 bx] Tryz.func59 ?_;obtain⟨p1,c1,p2,c2,p3,c3,p4,c4,h0,h1,h2,h3,h4,h5⟩:=h.h;refine⟨_,zc (za h.b) (i:=0) rfl,_,zc h0 (i:=0) rfl,cmo (znm p.name h.len.name w) ?_⟩;rintro e V ⟨rfl,hb⟩;exact⟨rfl,hb⟩
theorem zqt (h:DmV B w g bx p):CB 61 #[At0 bx] w (.bool (zcV p)):=by
 refine zD 4 [At0 bx] Tryz.func61 ?_;obtain⟨p1,c1,p2,c2,p3,c3,p4,c4,h0,h1,h2,h3,h4,h5⟩:=h.h;refine⟨_,zc (za h.b) (i:=0) rfl,cmo (ziJ h0 h.hg h1 h.hB h5 h.len) ?_⟩;rintro e V ⟨rfl,hb⟩;exact⟨rfl,hb⟩
def evV (bx:Nat):Value := .func (.func 58) #[] #[At0 bx]
theorem zqs (h:DmV B w g bx p) {ev:Nat} (hev:w.heap[ev]?=some (.cells #[evV bx] 138 (0,0))):CB 63 #[At0 bx,At0 ev] w (.bool (decide (1<=p.threads.length)&&(decide (p.threads.length<=4)&&p.threads.all fun l=>decide (l.length<=12)))):=by
 refine zD 21 [At0 bx,At0 ev] Tryz.func63 ?_;obtain⟨p1,c1,p2,c2,p3,c3,p4,c4,h0,h1,h2,h3,h4,h5⟩:=h.h;refine⟨_,zc (za h.b) (i:=0) rfl,_,zc h0 (i:=3) rfl,biE (fun ha=>?_) fun ha=>?_⟩
 ·have ha:(1:Int)<=(p.threads.length:Int):=dT ha;refine⟨_,zc (za h.b) (i:=0) rfl,_,zc h0 (i:=3) rfl,biE (fun hb=>?_) fun hb=>?_⟩
  ·have hb:(p.threads.length:Int)<=4:=dT hb;refine⟨_,zc (za hev) (i:=0) rfl,cmo (zk1 false h) ?_⟩;rintro e V ⟨rfl,hbV⟩;refine⟨rb ?_,hbV⟩;rw [Up (by omega),Up (by omega),Uv,Uv];rfl
  ·have hb:¬ (p.threads.length:Int)<=4:=dF hb;exact⟨rb (by rw [Ue (p:=p.threads.length<=4) (by omega)];simp),UX _ _⟩
 ·have ha:¬ (1:Int)<=(p.threads.length:Int):=dF ha;exact brF ⟨rb (by rw [Ue (p:=1<=p.threads.length) (by omega)];rfl),UX _ _⟩
theorem zqr (h:DmV B w g bx p) {ev:Nat} (hev:w.heap[ev]?=some (.cells #[evV bx] 138 (0,0))):CB 65 #[At0 ev,At0 bx] w (.bool (p.threads.all fun l=>z9 l p.locs.length)):=by
 refine zD 6 [At0 ev,At0 bx] Tryz.func65 ?_;refine⟨_,zc (za hev) (i:=0) rfl,cmo (zk1 true h) ?_⟩;rintro e V ⟨rfl,hbV⟩;exact⟨rfl,hbV⟩
theorem zqq (h:DmV B w g bx p):CB 68 #[At0 bx] w (.bool (decide (p.ask=1)||(decide (p.ask=2)||decide (p.ask=3)))):=by
 refine zD 21 [At0 bx] Tryz.func68 ?_;obtain⟨p1,c1,p2,c2,p3,c3,p4,c4,h0,h1,h2,h3,h4,h5⟩:=h.h;refine⟨_,zc (za h.b) (i:=0) rfl,_,zc h0 (i:=4) rfl,biE (fun ha=>?_) fun ha=>?_⟩
 ·have ha:decide (p.ask=1)=true:=(u8d p.ask 1).symm.trans ha;exact brT ⟨rb (by rw [ha];rfl),UX _ _⟩
 ·have ha:decide (p.ask=1)=false:=(u8d p.ask 1).symm.trans ha;refine⟨_,zc (za h.b) (i:=0) rfl,_,zc h0 (i:=4) rfl,biE (fun hb=>?_) fun hb=>?_⟩
  ·have hb:decide (p.ask=2)=true:=(u8d p.ask 2).symm.trans hb;exact⟨rb (by rw [ha,hb];rfl),UX _ _⟩
  ·have hb:decide (p.ask=2)=false:=(u8d p.ask 2).symm.trans hb;exact⟨_,zc (za h.b) (i:=0) rfl,_,zc h0 (i:=4) rfl,rb (by rw [ha,hb];exact u8d p.ask 3),UX _ _⟩
theorem zqp (h:DmV B w g bx p):CB 69 #[At0 bx] w (.bool (jS p.threads.length p.locs.length 20 p.cond)):=by
 refine zD 17 [At0 bx] Tryz.func69 ?_;have hbd:Bw w w.drew:=(UX _ w).drew;have hd:=h.below hbd;obtain⟨p1,c1,p2,c2,p3,c3,p4,c4,h0,h1,h2,h3,h4,h5⟩:=hd.h;refine DrawE.ord [] [0,1,2,3,4,5,6,7,8,9,10,11,12,13,14,15] (by kernel_rfl) ⟨_,zc (za hd.b) (i:=0) rfl,jE p.cond p4 c4,rfl,zF (n:=5) (m:=5) h0,hd.hg,_,zc (za hd.b) (i:=0) rfl,_,zc h0 (i:=3) rfl,_,zc (za hd.b) (i:=0) rfl,_,zc h0 (i:=1) rfl,cmo (zqN hd.hB h4) ?_⟩;rintro e V ⟨rfl,hbV⟩;exact⟨hbV,rfl,hbd.trans hbV⟩
def zqo (bx ev:Nat):List Value:=[i64 70,.func (.func 59) #[] #[At0 bx],i64 71,.func (.func 61) #[] #[At0 bx],
 i64 72,.func (.func 63) #[] #[At0 bx,At0 ev],i64 73,.func (.func 65) #[] #[At0 ev,At0 bx],
 i64 75,.func (.func 68) #[] #[At0 bx],i64 74,.func (.func 69) #[] #[At0 bx]]
theorem zl4 {g:Nat} {w:Wd}:Calls PG 36 #[At0 g] w fun e w'=>e = .returned (.slice (some ⟨w.heap.size+2,0,none⟩) 6 6) /\
  w'.heap[w.heap.size]?=some (.cells #[At0 g] 84 (0,0))/\w'.heap[w.heap.size+1]?=some (.cells #[evV w.heap.size] 138 (0,0)) /\
  w'.heap[w.heap.size+2]?=some (.cells (zqo w.heap.size (w.heap.size+1)).toArray 105 (0,0))/\w'.heap.size=w.heap.size+3/\Bw w w':=by
 refine zD 18 [At0 g] Tryz.func36 ?_;have hs:=wz w (.cells (At0 g).cells 84);refine zm (X:=w.alloc (.cells (At0 g).cells 84)) (v:=evV w.heap.size) zrH rfl rfl rfl fun V hbV fV sV=>?_;generalize hev:(w.alloc (.cells (At0 g).cells 84)).heap.size=ev at *;refine⟨[i64 70,.func (.func 59) #[] #[.pointer (some ⟨w.heap.size,0,none⟩)]],rfl,[i64 71,.func (.func 61) #[] #[.pointer (some ⟨w.heap.size,0,none⟩)]],rfl,[i64 72,.func (.func 63) #[] #[.pointer (some ⟨w.heap.size,0,none⟩),At0 ev]],rfl,[i64 73,.func (.func 65) #[] #[At0 ev,.pointer (some ⟨w.heap.size,0,none⟩)]],rfl,[i64 75,.func (.func 68) #[] #[.pointer (some ⟨w.heap.size,0,none⟩)]],rfl,[i64 74,.func (.func 69) #[] #[.pointer (some ⟨w.heap.size,0,none⟩)]],rfl,⟨by decide,by decide,rfl⟩,zqo w.heap.size ev,rfl,?_⟩;subst hs;refine⟨?_,?_,?_,?_,?_,?_⟩
 ·rw [sV];rfl
 ·exact qm _ (zb (show Below _ _ _ from hev▸hbV) (zx w _))
 ·exact qm _ fV
 ·rw [show w.heap.size+2=V.heap.size from sV.symm];exact zx _ _
 ·rw [wz,sV]
 ·exact (((zba w _)).trans (hbV.mono (by omega))).alloc (by omega) _
end
def okL (p:Prg):List Bool:=[zcK p.name,zcV p,decide (1<=p.threads.length)&&(decide (p.threads.length<=4)&&p.threads.all fun l=>decide (l.length<=12)),p.threads.all (fun l=>z9 l p.locs.length),
 decide (p.ask=1)||(decide (p.ask=2)||decide (p.ask=3)),jS p.threads.length p.locs.length 20 p.cond]
theorem zkO {p:Prg}:za7 p=(okL p).all id:=by
 unfold za7 okL;simp only [Ux,List.all_nil,Bool.and_true,id]
theorem ze1 {B:Nat} {p:Prg} {vs:List Value} {w:Wd} (hB:B<=w.heap.size) (hp:PrgV B w vs p) (hG:GlobC w) :
  Calls PG 16 #[.agg vs.toArray] w fun e w'=>∃ n:Int,e = .returned (i64 n)/\(n=0↔za7 p=true)/\Bw w w':=by
 obtain⟨hl,p1,c1,p2,c2,p3,c3,p4,c4,rfl,h1,h2,h3,h4,h5⟩:=hp;refine zD 18 [.agg (qh p p1 c1 p2 c2 p3 c3 p4 c4).toArray] Tryz.func16 ?_;obtain⟨L,hL⟩:=nm (w.heap.size);have hn:=zx w (.cells (Value.agg (qh p p1 c1 p2 c2 p3 c3 p4 c4).toArray).cells 29);have hs:=wz w (.cells (Value.agg (qh p p1 c1 p2 c2 p3 c3 p4 c4).toArray).cells 29);have hb:Bw w (w.alloc (.cells (Value.agg (qh p p1 c1 p2 c2 p3 c3 p4 c4).toArray).cells 29)):=zba w _;refine cmo zl4 ?_;rintro e V ⟨rfl,hbx,hev,hsl,hsz,hbV⟩;have hbw:Bw w V:=zst hb hbV;have p1':some (Value.slice (some ⟨(w.alloc (.cells (Value.agg (qh p p1 c1 p2 c2 p3 c3 p4 c4).toArray).cells 29)).heap.size+2,0,none⟩) 6 6)=some (Value.slice (some ⟨L+3,0,none⟩) 6 6):=by rw [hs,hL]
 have hD:DmV B V L (L+1) p:=by
  have hbB:=hbw.mono hB;rw [hs,<- hL] at hbx;refine⟨UJ hB hbw.size,by omega,hl,⟨p1,c1,p2,c2,p3,c3,p4,c4,za (zb hbV (hL▸hn)),h1.below hbB,h2.below hbB,h3.below hbB,h4.kept hbB,h5⟩,hbx,hG.below hbw⟩
 rw [hs,<- hL] at hev hsl;clear hn hs hb hbx hbV hsz;refine⟨Nat,fun j=>⟨[(5,.slice (some ⟨L+3,0,none⟩) 6 6),(6,i64 6),(7,i64 (j:Nat))],[]⟩,
  fun j X=>j<=6/\(∀ i,i<j->(okL p)[i]?=some true)/\DmV B X L (L+1) p/\X.heap[L+2]?=some (.cells #[evV (L+1)] 138 (0,0))/\X.heap[L+3]?=some (.cells (zqo (L+1) (L+2)).toArray 105 (0,0))/\Bw w X,fun j=>6-j,0,
  ⟨.cons p1' (.cons rfl (.cons rfl .nil)),rfl⟩,⟨UV _,fun i hi=>by omega,hD,hev,hsl,hbw⟩,?_⟩
 clear hD hev hsl hbw p1';rintro j X ⟨hj,hpre,hD,hev,hsl,hbw⟩;dsimp only at hj hpre ⊢;refine biE (fun hc=>?_) fun hc=>?_
 ·have hc:(j:Int)<6:=dT hc;have hno:∀ {i:Nat},(okL p)[i]?=some false->za7 p=false:=fun h=>by rw [zkO];exact zn1 h
  have hcs:j=0\/j=1\/j=2\/j=3\/j=4\/j=5:=by omega
  rcases hcs with rfl | rfl | rfl | rfl | rfl | rfl
  ·refine⟨0,rfl,by decide,?_⟩;refine⟨[i64 70,.func (.func 59) #[] #[At0 (L+1)]],rfl,zF (n:=0) (m:=2) (za hsl),hlt hsl,zm (X:=X) (v := .agg [i64 70,.func (.func 59) #[] #[At0 (L+1)]].toArray) zlX rfl rfl rfl fun Y hbY fY sY=>?_⟩;have hY:=hD.below hbY;have hevY:=zb hbY hev;have hslY:=zb hbY hsl;refine⟨_,zc (za fY) (i:=1) rfl,cmo (zqu hY) ?_⟩;rintro e W ⟨rfl,hbW⟩;have hbX:Bw w W:=((zst hbw hbY)).trans (hbW.mono (UJ hbw.size hbY.size));refine biE (fun hb=>?_) fun hb=>?_
   ·have hb:(!((okL p)[0]'(by show 0<6;decide)))=true:=hb;have hb:(okL p)[0]?=some false:=(by rw [gE (by show 0<6;decide)];exact Gf some (by rw [<- UD ((okL p)[0]'(by show 0<6;decide)),hb];rfl));exact⟨_,zc (za (zb hbW fY)) (i:=0) rfl,70,rfl,⟨fun h=>Gl h (by decide),fun h=>by rw [hno hb] at h;cases h⟩,hbX⟩
   ·have hb:(!((okL p)[0]'(by show 0<6;decide)))=false:=hb;have hb:(okL p)[0]?=some true:=(by rw [gE (by show 0<6;decide)];exact Gf some (by rw [<- UD ((okL p)[0]'(by show 0<6;decide)),hb];rfl));refine⟨_,(ze (by omega)).trans rfl,1,(cvE rfl rfl),⟨by omega,fun i hi=>?_,hY.below hbW,zb hbW hevY,zb hbW hslY,hbX⟩,by decide⟩;by_cases hik:i=0
    ·rw [hik];exact hb
    ·exact hpre i (by omega)
  ·refine⟨1,rfl,by decide,?_⟩;refine⟨[i64 71,.func (.func 61) #[] #[At0 (L+1)]],rfl,zF (n:=2) (m:=2) (za hsl),hlt hsl,zm (X:=X) (v := .agg [i64 71,.func (.func 61) #[] #[At0 (L+1)]].toArray) zlX rfl rfl rfl fun Y hbY fY sY=>?_⟩;have hY:=hD.below hbY;have hevY:=zb hbY hev;have hslY:=zb hbY hsl;refine⟨_,zc (za fY) (i:=1) rfl,cmo (zqt hY) ?_⟩;rintro e W ⟨rfl,hbW⟩;have hbX:Bw w W:=((zst hbw hbY)).trans (hbW.mono (UJ hbw.size hbY.size));refine biE (fun hb=>?_) fun hb=>?_
   ·have hb:(!((okL p)[1]'(by show 1<6;decide)))=true:=hb;have hb:(okL p)[1]?=some false:=(by rw [gE (by show 1<6;decide)];exact Gf some (by rw [<- UD ((okL p)[1]'(by show 1<6;decide)),hb];rfl));exact⟨_,zc (za (zb hbW fY)) (i:=0) rfl,71,rfl,⟨fun h=>Gl h (by decide),fun h=>by rw [hno hb] at h;cases h⟩,hbX⟩
   ·have hb:(!((okL p)[1]'(by show 1<6;decide)))=false:=hb;have hb:(okL p)[1]?=some true:=(by rw [gE (by show 1<6;decide)];exact Gf some (by rw [<- UD ((okL p)[1]'(by show 1<6;decide)),hb];rfl));refine⟨_,(ze (by omega)).trans rfl,2,(cvE rfl rfl),⟨by omega,fun i hi=>?_,hY.below hbW,zb hbW hevY,zb hbW hslY,hbX⟩,by decide⟩;by_cases hik:i=1
    ·rw [hik];exact hb
    ·exact hpre i (by omega)
  ·refine⟨2,rfl,by decide,?_⟩;refine⟨[i64 72,.func (.func 63) #[] #[At0 (L+1),At0 (L+2)]],rfl,zF (n:=4) (m:=2) (za hsl),hlt hsl,zm (X:=X) (v := .agg [i64 72,.func (.func 63) #[] #[At0 (L+1),At0 (L+2)]].toArray) zlX rfl rfl rfl fun Y hbY fY sY=>?_⟩;have hY:=hD.below hbY;have hevY:=zb hbY hev;have hslY:=zb hbY hsl;refine⟨_,zc (za fY) (i:=1) rfl,cmo (zqs hY hevY) ?_⟩;rintro e W ⟨rfl,hbW⟩;have hbX:Bw w W:=((zst hbw hbY)).trans (hbW.mono (UJ hbw.size hbY.size));refine biE (fun hb=>?_) fun hb=>?_
   ·have hb:(!((okL p)[2]'(by show 2<6;decide)))=true:=hb;have hb:(okL p)[2]?=some false:=(by rw [gE (by show 2<6;decide)];exact Gf some (by rw [<- UD ((okL p)[2]'(by show 2<6;decide)),hb];rfl));exact⟨_,zc (za (zb hbW fY)) (i:=0) rfl,72,rfl,⟨fun h=>Gl h (by decide),fun h=>by rw [hno hb] at h;cases h⟩,hbX⟩
   ·have hb:(!((okL p)[2]'(by show 2<6;decide)))=false:=hb;have hb:(okL p)[2]?=some true:=(by rw [gE (by show 2<6;decide)];exact Gf some (by rw [<- UD ((okL p)[2]'(by show 2<6;decide)),hb];rfl));refine⟨_,(ze (by omega)).trans rfl,3,(cvE rfl rfl),⟨by omega,fun i hi=>?_,hY.below hbW,zb hbW hevY,zb hbW hslY,hbX⟩,by decide⟩;by_cases hik:i=2
    ·rw [hik];exact hb
    ·exact hpre i (by omega)
  ·refine⟨3,rfl,by decide,?_⟩;refine⟨[i64 73,.func (.func 65) #[] #[At0 (L+2),At0 (L+1)]],rfl,zF (n:=6) (m:=2) (za hsl),hlt hsl,zm (X:=X) (v := .agg [i64 73,.func (.func 65) #[] #[At0 (L+2),At0 (L+1)]].toArray) zlX rfl rfl rfl fun Y hbY fY sY=>?_⟩;have hY:=hD.below hbY;have hevY:=zb hbY hev;have hslY:=zb hbY hsl;refine⟨_,zc (za fY) (i:=1) rfl,cmo (zqr hY hevY) ?_⟩;rintro e W ⟨rfl,hbW⟩;have hbX:Bw w W:=((zst hbw hbY)).trans (hbW.mono (UJ hbw.size hbY.size));refine biE (fun hb=>?_) fun hb=>?_
   ·have hb:(!((okL p)[3]'(by show 3<6;decide)))=true:=hb;have hb:(okL p)[3]?=some false:=(by rw [gE (by show 3<6;decide)];exact Gf some (by rw [<- UD ((okL p)[3]'(by show 3<6;decide)),hb];rfl));exact⟨_,zc (za (zb hbW fY)) (i:=0) rfl,73,rfl,⟨fun h=>Gl h (by decide),fun h=>by rw [hno hb] at h;cases h⟩,hbX⟩
   ·have hb:(!((okL p)[3]'(by show 3<6;decide)))=false:=hb;have hb:(okL p)[3]?=some true:=(by rw [gE (by show 3<6;decide)];exact Gf some (by rw [<- UD ((okL p)[3]'(by show 3<6;decide)),hb];rfl));refine⟨_,(ze (by omega)).trans rfl,4,(cvE rfl rfl),⟨by omega,fun i hi=>?_,hY.below hbW,zb hbW hevY,zb hbW hslY,hbX⟩,by decide⟩;by_cases hik:i=3
    ·rw [hik];exact hb
    ·exact hpre i (by omega)
  ·refine⟨4,rfl,by decide,?_⟩;refine⟨[i64 75,.func (.func 68) #[] #[At0 (L+1)]],rfl,zF (n:=8) (m:=2) (za hsl),hlt hsl,zm (X:=X) (v := .agg [i64 75,.func (.func 68) #[] #[At0 (L+1)]].toArray) zlX rfl rfl rfl fun Y hbY fY sY=>?_⟩;have hY:=hD.below hbY;have hevY:=zb hbY hev;have hslY:=zb hbY hsl;refine⟨_,zc (za fY) (i:=1) rfl,cmo (zqq hY) ?_⟩;rintro e W ⟨rfl,hbW⟩;have hbX:Bw w W:=((zst hbw hbY)).trans (hbW.mono (UJ hbw.size hbY.size));refine biE (fun hb=>?_) fun hb=>?_
   ·have hb:(!((okL p)[4]'(by show 4<6;decide)))=true:=hb;have hb:(okL p)[4]?=some false:=(by rw [gE (by show 4<6;decide)];exact Gf some (by rw [<- UD ((okL p)[4]'(by show 4<6;decide)),hb];rfl));exact⟨_,zc (za (zb hbW fY)) (i:=0) rfl,75,rfl,⟨fun h=>Gl h (by decide),fun h=>by rw [hno hb] at h;cases h⟩,hbX⟩
   ·have hb:(!((okL p)[4]'(by show 4<6;decide)))=false:=hb;have hb:(okL p)[4]?=some true:=(by rw [gE (by show 4<6;decide)];exact Gf some (by rw [<- UD ((okL p)[4]'(by show 4<6;decide)),hb];rfl));refine⟨_,(ze (by omega)).trans rfl,5,(cvE rfl rfl),⟨by omega,fun i hi=>?_,hY.below hbW,zb hbW hevY,zb hbW hslY,hbX⟩,by decide⟩;by_cases hik:i=4
    ·rw [hik];exact hb
    ·exact hpre i (by omega)
  ·refine⟨5,rfl,by decide,?_⟩;refine⟨[i64 74,.func (.func 69) #[] #[At0 (L+1)]],rfl,zF (n:=10) (m:=2) (za hsl),hlt hsl,zm (X:=X) (v := .agg [i64 74,.func (.func 69) #[] #[At0 (L+1)]].toArray) zlX rfl rfl rfl fun Y hbY fY sY=>?_⟩;have hY:=hD.below hbY;have hevY:=zb hbY hev;have hslY:=zb hbY hsl;refine⟨_,zc (za fY) (i:=1) rfl,cmo (zqp hY) ?_⟩;rintro e W ⟨rfl,hbW⟩;have hbX:Bw w W:=((zst hbw hbY)).trans (hbW.mono (UJ hbw.size hbY.size));refine biE (fun hb=>?_) fun hb=>?_
   ·have hb:(!((okL p)[5]'(by show 5<6;decide)))=true:=hb;have hb:(okL p)[5]?=some false:=(by rw [gE (by show 5<6;decide)];exact Gf some (by rw [<- UD ((okL p)[5]'(by show 5<6;decide)),hb];rfl));exact⟨_,zc (za (zb hbW fY)) (i:=0) rfl,74,rfl,⟨fun h=>Gl h (by decide),fun h=>by rw [hno hb] at h;cases h⟩,hbX⟩
   ·have hb:(!((okL p)[5]'(by show 5<6;decide)))=false:=hb;have hb:(okL p)[5]?=some true:=(by rw [gE (by show 5<6;decide)];exact Gf some (by rw [<- UD ((okL p)[5]'(by show 5<6;decide)),hb];rfl));refine⟨_,(ze (by omega)).trans rfl,6,(cvE rfl rfl),⟨by omega,fun i hi=>?_,hY.below hbW,zb hbW hevY,zb hbW hslY,hbX⟩,by decide⟩;by_cases hik:i=5
    ·rw [hik];exact hb
    ·exact hpre i (by omega)
 ·have hc:¬ (j:Int)<6:=dF hc;obtain rfl:j=6:=by omega
  exact⟨0,rfl,⟨fun _=>by rw [zkO];exact zji hpre rfl,fun _=>rfl⟩,hbw⟩
def ThrsW (B:Nat) (w:Wd) (p:OA) (l:List (List InsD)):Prop:=∃ xs:List zki,xs.map (·.1)=l/\RowB zmB B w p xs/\∀ x∈xs,RowB zC B w x.2.1 x.1/\(x.1≠[]->∀ a,x.2.1=some a->a.block<B)
structure PrgX (B:Nat) (w:Wd) (vs:List Value) (p:Prg):Prop where
 v:PrgV B w vs p
 th:∃ p3 c3,vs[3]?=some (.slice p3 p.threads.length c3)/\ThrsW B w p3 p.threads
 init:∃ p2 c2,vs[2]?=some (.slice p2 p.init.length c2)/\RowB zI B w p2 p.init
theorem ThrsW.below {B:Nat} {w w2:Wd} {p:OA} {l:List (List InsD)} (h:ThrsW B w p l) (hb:Below B w w2):ThrsW B w2 p l:=by
 obtain⟨xs,h1,h2,h3⟩:=h;exact⟨xs,h1,h2.below hb,fun x hx=>⟨(h3 x hx).1.below hb,(h3 x hx).2⟩⟩
theorem PrgX.below {B:Nat} {w w2:Wd} {vs:List Value} {p:Prg} (h:PrgX B w vs p) (hb:Below B w w2):PrgX B w2 vs p:=by
 obtain⟨h1,⟨p3,c3,h2,h3⟩,⟨p2,c2,h4,h5⟩⟩:=h;exact⟨h1.below hb,⟨p3,c3,h2,h3.below hb⟩,⟨p2,c2,h4,h5.below hb⟩⟩
theorem zeP {α:Type} {E:Enc α} {B:Nat} {w:Wd} {p:OA} {l:List α} (h:RowB E B w p l) {i:Nat} (hi:i<l.length):∃ b o,p=some ⟨b,o,none⟩/\b<B/\∀ i (h:i<l.length),zw w ⟨b,o+i*E.sz,none⟩ (E.enc l[i]):=by
 obtain⟨b,o,hp,hat⟩:=h.get;rcases hp with hp | hp
 ·omega
 ·exact⟨b,o,hp,(hat i hi).1,fun j hj=>(hat j hj).2⟩
theorem zcd {x y:UInt8}:decide (((x.toNat:Nat):Int)=((y.toNat:Nat):Int))=decide (x=y):=QD.2 qV
theorem zoy {x y:UInt8}:decide (((x.toNat:Nat):Int)<((y.toNat:Nat):Int))=decide (x.toNat<y.toNat):=QD.2 Int.ofNat_lt
theorem zpr (a b:UInt8):IntKind.u8.wrap ((a.toNat:Int)+(b.toNat:Int))=((a+b).toNat:Int):=by
 rw [UInt8.toNat_add];unfold IntKind.wrap;simp only [IntKind.bits,IntKind.signed,Ug,Kr,Gg];omega
theorem zqS (a b:UInt8):IntKind.u8.wrap ((a.toNat:Int)-(b.toNat:Int))=((a-b).toNat:Int):=by
 rw [UInt8.toNat_sub];have:=a.toNat_lt;have:=b.toNat_lt;unfold IntKind.wrap;simp only [IntKind.bits,IntKind.signed,Ug,Kr,Gg];omega
theorem zqR (a b:UInt8):IntKind.u8.wrap ((BitVec.ofInt IntKind.u8.bits (a.toNat:Int) ^^^ BitVec.ofInt IntKind.u8.bits (b.toNat:Int)).toNat:Int)=((a ^^^ b).toNat:Int):=by
 have e:∀ x:UInt8,(BitVec.ofInt IntKind.u8.bits (x.toNat:Int)).toNat=x.toNat:=fun x=>by
  have:=x.toNat_lt;rw [Kq];simp only [IntKind.bits];omega
 rw [BitVec.toNat_xor,e,e,<- UInt8.toNat_xor];have:=(a ^^^ b).toNat_lt;unfold IntKind.wrap;simp only [IntKind.bits,IntKind.signed,Ug,Kr,Gg];omega
structure RunS (R:RunD):Prop where
 d:∀ i,R.deps i<2^32
 c:R.ctl<2^32
 s:∀ i,R.data i<2^32/\R.ctrl i<2^32/\R.att i<2^32
theorem ziz {a b:Nat} (ha:a<2^32) (hb:b<2^32):a|||b<2^32:=KW ha hb
theorem zkE {n:Nat} (h:n<32):2^n<2^32:=Kd (by decide) h
theorem zdZ {f:Nat->Nat} {b:Nat} (h:∀ i,f i<b) {k v:Nat} (hv:v<b):∀ i,upd f k v i<b:=fun i=>by
 by_cases e:i=k
 ·rw [e,zJ];exact hv
 ·rw [qi _ _ e];exact h i
theorem RunS.val {R:RunD} (h:RunS R) (r:Bool) (n:UInt8):(qg r n R).2<2^32:=by
 unfold qg
 split
 ·exact h.d _
 ·exact (by decide:0<2^32)
theorem RunS.emit {R:RunD} (h:RunS R) {k a v m:UInt8} {d:Nat} (hd:d<2^32):RunS (zap R k a v m d) :=
 ⟨h.d,h.c,fun i=>⟨zdZ (fun i=>(h.s i).1) hd i,zdZ (fun i=>(h.s i).2.1) h.c i,(h.s i).2.2⟩⟩
theorem RunS.set {R:RunD} (h:RunS R) {d v:UInt8} {s:Nat} (hs:s<2^32):RunS (zhf R d v s):=⟨zdZ h.d hs,h.c,h.s⟩
theorem RunS.exch {R:RunD} (h:RunS R) (hm:R.many<32) {x:InsD} {o v:UInt8} {d:Nat} (hd:d<2^32):RunS (zca R x o v d):=by
 have h2:=(h.emit (k:=1) (a:=x.loc) (v:=o) (m:=3) (d:=0) (by decide)).emit (k:=2) (a:=x.loc) (v:=v) (m:=3) hd;exact RunS.set (R:={ zap (zap R 1 x.loc o 3 0) 2 x.loc v 3 d with att:=upd (zap (zap R 1 x.loc o 3 0) 2 x.loc v 3 d).att (R.many+1) (2^R.many) })
  ⟨h2.d,h2.c,fun i=>⟨(h2.s i).1,(h2.s i).2.1,zdZ (fun i=>(h2.s i).2.2) (zkE hm) i⟩⟩ (zkE hm)
section
variable {R:RunD} {b:Nat} {w:Wd} {x:InsD} {v:UInt8}
theorem zj1 {o v:UInt8} {d:Nat} (f:jf w b R) (hm:R.many<23) (hd:x.dst.toNat<8):Calls PG 136 #[AtR b,zbG x,u8 o,u8 v,s32 d] w fun e w' =>
  e = .returned (i64 (R.many+1:Nat))/\jf w' b (zca R x o v d)/\w.grownBy w' (some b):=by
 refine zD 39 [AtR b,zbG x,u8 o,u8 v,s32 d] Tryz.func136 ?_;have f0:=zx w (.cells (zC.enc x).toArray 41);have hb:Bw w (w.alloc (.cells (zC.enc x).toArray 41)):=zba w _;have fr:=zb hb f;have hne:w.heap.size≠b:=fun e=>by have:=hlt f;omega
 refine⟨_,zc (za f0) (i:=2) rfl,?_⟩;refine cmo (zeh (k:=1) (l:=x.loc) (v:=o) (m:=3) (d:=0) fr (by omega)) ?_;rintro e Y ⟨rfl,fY,gY,sY⟩;have f0Y:=(gY.block w.heap.size (hlt f0) (by simpa using hne)).trans f0;refine⟨_,zc (za f0Y) (i:=2) rfl,?_⟩;refine cmo (zeh (k:=2) (l:=x.loc) (v:=v) (m:=3) (d:=d) fY (by show R.many+1<24;omega)) ?_;rintro e Z ⟨rfl,fZ,gZ,sZ⟩;have f0Z:=(gZ.block w.heap.size (hlt f0Y) (by simpa using hne)).trans f0Y;have gd:∀ Z:Wd,Z.grownBy Z.drew (some b):=fun Z=>⟨rfl,rfl,rfl,US _,fun _ _ _=>rfl⟩;refine DrawE.ord [7] [0,1,2,3,4,5,6,7] (by kernel_rfl) ?_;refine⟨by omega,_,zeL (e:=R.many) (by omega),?_⟩;refine⟨R.many+1,rfl,by omega,?_⟩;refine zk zjU (hdr fZ) (o:=0+235+(R.many+1)*1) (v:=s32 (2^R.many)) rfl rfl (by rw [ji];omega) rfl fun V fV gV sV=>?_;rw [UN,UT,zih _ (by omega)] at fV;have f0V:=(gV.block w.heap.size (hlt f0Z) (by simpa using hne)).trans (hdr f0Z);refine DrawE.ord [6] [0,1,2,3,4,5,6] (by kernel_rfl) ?_;refine⟨_,zc (za (hdr f0V)) (i:=1) rfl,?_⟩;refine⟨by omega,_,zeL (e:=R.many) (by omega),?_⟩;refine cmo (zku (d:=x.dst) (v:=o) (s:=2^R.many) (hdr fV) hd) ?_;rintro e U ⟨rfl,fU,gU,sU⟩;exact⟨rfl,fU,zd (zf hb) (zd gY (zd gZ (zd (gd Z) (zd gV (zd (gd V) gU)))))⟩
theorem zlB (f:jf w b R) (hm:R.many<23) (hd:x.dst.toNat<8) (ha:x.ar=true->x.an.toNat<8):Calls PG 96 #[AtR b,zbG x,u8 v] w fun e w' =>
  e = .returned (.tuple #[])/\jf w' b (zmE R x v)/\w.grownBy w' (some b):=by
 refine zD 21 [AtR b,zbG x,u8 v] Tryz.func96 ?_;have f0:=zx w (.cells (zC.enc x).toArray 41);have hb:Bw w (w.alloc (.cells (zC.enc x).toArray 41)):=zba w _;have fr:=zb hb f;refine⟨[.bool x.ar,u8 x.an],rfl,qc (o:=3) (n:=2) f0,hlt f0,?_⟩;refine cmo (zaO fr ha) ?_;rintro e Y ⟨rfl,hbY⟩;have f0Y:=zb hbY f0;have fY:=zb hbY fr;refine⟨zC.enc x,rfl,za f0Y,hlt f0Y,?_⟩;refine cmo (zj1 (x:=x) (o:=v) (v:=(qg x.ar x.an R).1) (d:=(qg x.ar x.an R).2) fY hm hd) ?_;rintro e Z ⟨rfl,fZ,gZ⟩;exact⟨rfl,fZ,zd (zf hb) (zd (zf hbY) gZ)⟩
theorem zjC (f:jf w b R) (hs:RunS R) (hm:R.many<23) (hd:x.dst.toNat<8) (ha:x.ar=true->x.an.toNat<8):Calls PG 97 #[AtR b,zbG x,u8 v] w fun e w' =>
  e = .returned (.tuple #[])/\jf w' b (zeg R x v)/\w.grownBy w' (some b):=by
 refine zD 40 [AtR b,zbG x,u8 v] Tryz.func97 ?_;have f0:=zx w (.cells (zC.enc x).toArray 41);have hb:Bw w (w.alloc (.cells (zC.enc x).toArray 41)):=zba w _;have fr:=zb hb f;refine⟨[.bool x.ar,u8 x.an],rfl,qc (o:=3) (n:=2) f0,hlt f0,?_⟩;refine cmo (zaO fr ha) ?_;rintro e Y ⟨rfl,hbY⟩;have f0Y:=zb hbY f0;have fY:=zb hbY fr;refine⟨zC.enc x,rfl,za f0Y,hlt f0Y,?_⟩;refine⟨_,zpr _ _,?_⟩;refine cmo (zj1 (x:=x) (o:=v) (v:=v+(qg x.ar x.an R).1) (d:=(qg x.ar x.an R).2) fY hm hd) ?_;rintro e Z ⟨rfl,fZ,gZ⟩;obtain⟨S,hS⟩:=nm (zca R x v (v+(qg x.ar x.an R).1) (qg x.ar x.an R).2);have sS:RunS S:=by rw [hS];exact hs.exch (by omega) (hs.val _ _)
 rw [<- hS] at fZ;have gd:∀ Z:Wd,Z.grownBy Z.drew (some b):=fun Z=>⟨rfl,rfl,rfl,US _,fun _ _ _=>rfl⟩;refine DrawE.ord [16] [0,1,2,3,4,5,6,7,8,9,10,11,12,13,14,15,16] (by kernel_rfl) ?_;refine⟨R.many+1,rfl,by omega,?_⟩;refine⟨_,by rw [UT,UA];exact zc (za (hdr fZ)) (zii S (i:=R.many+1) (by omega)),?_⟩;refine⟨R.many+1,rfl,by omega,?_⟩;refine⟨_,by rw [UT,UA];exact zc (za (hdr fZ)) (zhi S (i:=R.many+1) (by omega)),?_⟩;refine⟨_,zdY (sS.s _).1 (sS.s _).2.2,?_⟩;refine⟨R.many+1,rfl,by omega,?_⟩;refine zk zjU (hdr fZ) (o:=0+187+(R.many+1)*1) (v:=s32 (S.data (R.many+1)|||S.att (R.many+1))) rfl rfl (by rw [ji];omega) rfl fun V fV gV sV=>?_;rw [UN,UT,zdn _ (by omega)] at fV;refine⟨rfl,?_,zd (zf hb) (zd (zf hbY) (zd gZ (zd (gd Z) gV)))⟩;rw [hS] at fV;exact fV
theorem zlE (f:jf w b R) (hs:RunS R) (hd:x.dst.toNat<8) (ha:x.ar=true->x.an.toNat<8) (hc:x.br=true->x.bn.toNat<8):Calls PG 95 #[AtR b,zbG x,u8 v] w fun e w' =>
  e = .returned (.tuple #[])/\jf w' b (zna R x)/\w.grownBy w' (some b):=by
 refine qP 47 [AtR b,zbG x,u8 v] (.s .p (.s .p (.s .p (.c .p .p)))) Tryz.func95 ?_;have f0:=zx w (.cells (zC.enc x).toArray 41);have hb:Bw w (w.alloc (.cells (zC.enc x).toArray 41)):=zba w _;have fr:=zb hb f;refine⟨[.bool x.ar,u8 x.an],rfl,qc (o:=3) (n:=2) f0,hlt f0,?_⟩;refine cmo (zaO fr ha) ?_;rintro e Y ⟨rfl,hbY⟩;have f0Y:=zb hbY f0;have fY:=zb hbY fr;refine⟨[.bool x.br,u8 x.bn],rfl,qc (o:=5) (n:=2) f0Y,hlt f0Y,?_⟩;refine cmo (zaO fY hc) ?_;rintro e Z ⟨rfl,hbZ⟩;have f0Z:=zb hbZ f0Y;have fZ:=zb hbZ fY;obtain⟨A,hA⟩:=nm (qg x.ar x.an R);obtain⟨C,hC⟩:=nm (qg x.br x.bn R);rw [<- hA,<- hC];refine⟨Unit,fun _=>⟨[(0,AtR b),(4,At0 w.heap.size),(6,u8 (zg0 x.fn A.1 C.1)),(7,s32 A.2),(9,s32 C.2)],[]⟩,fun _ X=>X=Z,?_,?_⟩
 ·refine⟨_,zc (za f0Z) (i:=7) rfl,?_⟩;refine biE (fun h=>?_) fun h=>?_
  ·have h:x.fn=1:=dT ((zcd (x:=x.fn) (y:=1)).symm.trans h);refine⟨_,zpr _ _,?_⟩;exact⟨(),⟨.cons rfl (.cons rfl (.cons (by unfold zg0;rw [Gk h];rfl) (.cons rfl (.cons rfl .nil)))),rfl⟩,rfl⟩
  ·have h:¬ x.fn=1:=dF ((zcd (x:=x.fn) (y:=1)).symm.trans h);refine biE (fun k=>?_) fun k=>?_
   ·have k:x.fn=2:=dT ((zcd (x:=x.fn) (y:=2)).symm.trans k);refine⟨_,zqS _ _,?_⟩;exact⟨(),⟨.cons rfl (.cons rfl (.cons (by unfold zg0;rw [Gj h,Gk k];rfl) (.cons rfl (.cons rfl .nil)))),rfl⟩,rfl⟩
   ·have k:¬ x.fn=2:=dF ((zcd (x:=x.fn) (y:=2)).symm.trans k);refine⟨_,zqR _ _,?_⟩;exact⟨(),⟨.cons rfl (.cons rfl (.cons (by unfold zg0;rw [Gj h,Gj k];rfl) (.cons rfl (.cons rfl .nil)))),rfl⟩,rfl⟩
 rintro _ _ rfl;refine⟨_,zc (za f0Z) (i:=1) rfl,?_⟩;refine⟨_,zdY (by rw [hA];exact hs.val _ _) (by rw [hC];exact hs.val _ _),?_⟩;refine cmo (zku (d:=x.dst) (v:=zg0 x.fn A.1 C.1) (s:=A.2|||C.2) fZ hd) ?_;rintro e U ⟨rfl,fU,gU,sU⟩;refine⟨rfl,?_,zd (zf hb) (zd (zf hbY) (zd (zf hbZ) gU))⟩;rw [hA,hC] at fU;exact fU
theorem zmN (f:jf w b R) (hs:RunS R) (hm:R.many<23) (hd:x.dst.toNat<8) (ha:x.ar=true->x.an.toNat<8) (hc:x.br=true->x.bn.toNat<8):Calls PG 98 #[AtR b,zbG x,u8 v] w fun e w' =>
  e = .returned (.tuple #[])/\jf w' b (zcR R x v)/\w.grownBy w' (some b):=by
 refine zD 65 [AtR b,zbG x,u8 v] Tryz.func98 ?_;have f0:=zx w (.cells (zC.enc x).toArray 41);have hb:Bw w (w.alloc (.cells (zC.enc x).toArray 41)):=zba w _;have fr:=zb hb f;refine⟨[.bool x.ar,u8 x.an],rfl,qc (o:=3) (n:=2) f0,hlt f0,?_⟩;refine cmo (zaO fr ha) ?_;rintro e Y ⟨rfl,hbY⟩;have f0Y:=zb hbY f0;have fY:=zb hbY fr;refine⟨[.bool x.br,u8 x.bn],rfl,qc (o:=5) (n:=2) f0Y,hlt f0Y,?_⟩;refine cmo (zaO fY hc) ?_;rintro e Z ⟨rfl,hbZ⟩;have f0Z:=zb hbZ f0Y;have fZ:=zb hbZ fY;have gd:∀ Z:Wd,Z.grownBy Z.drew (some b):=fun Z=>⟨rfl,rfl,rfl,US _,fun _ _ _=>rfl⟩;have gZ:w.grownBy Z (some b):=zd (zf hb) (zd (zf hbY) (zf hbZ));have hne:w.heap.size≠b:=fun e=>by have:=hlt f;omega
 obtain⟨A,hA⟩:=nm (qg x.ar x.an R);obtain⟨C,hC⟩:=nm (qg x.br x.bn R);have hA2:A.2<2^32:=by rw [hA];exact hs.val _ _
 have hC2:C.2<2^32:=by rw [hC];exact hs.val _ _
 rw [<- hA,<- hC];refine biE (fun h=>?_) fun h=>?_
 ·have h:¬ v=A.1:=fun e=>by rw [e] at h;have h:(!decide (((A.1.toNat:Nat):Int)=((A.1.toNat:Nat):Int)))=true:=h;simp at h
  refine⟨_,zc (za f0Z) (i:=2) rfl,?_⟩;refine cmo (zeh (k:=1) (l:=x.loc) (v:=v) (m:=3) (d:=0) fZ (by omega)) ?_;rintro e U ⟨rfl,fU,gU,sU⟩;have f0U:=(gU.block w.heap.size (hlt f0Z) (by simpa using hne)).trans f0Z;refine DrawE.ord [6] [0,1,2,3,4,5,6] (by kernel_rfl) ?_;refine⟨_,zc (za (hdr f0U)) (i:=1) rfl,?_⟩;refine⟨by omega,_,zeL (e:=R.many) (by omega),?_⟩;refine cmo (zku (d:=x.dst) (v:=v) (s:=2^R.many) (hdr fU) hd) ?_;rintro e V ⟨rfl,fV,gV,sV⟩;refine⟨rfl,?_,zd gZ (zd gU (zd (gd U) gV))⟩;unfold zcR;rw [Gj (by rw [<- hA];exact h)];exact fV
 ·have h:v=A.1:=by
   have h:(!decide (((v.toNat:Nat):Int)=((A.1.toNat:Nat):Int)))=false:=h;rw [zcd,Bool.not_eq_false',dE] at h;exact h
  refine⟨zC.enc x,rfl,za f0Z,hlt f0Z,?_⟩;refine cmo (zj1 (x:=x) (o:=v) (v:=C.1) (d:=C.2) fZ hm hd) ?_;rintro e U ⟨rfl,fU,gU⟩;obtain⟨S,hS⟩:=nm (zca R x v C.1 C.2);have sS:RunS S:=by rw [hS];exact hs.exch (by omega) hC2
  rw [<- hS] at fU;refine DrawE.ord [18] [0,1,2,3,4,5,6,7,8,9,10,11,12,13,14,15,16,17,18] (by kernel_rfl) ?_;refine⟨R.many+1,rfl,by omega,?_⟩;refine⟨_,by rw [UT,UA];exact zc (za (hdr fU)) (zij S (i:=R.many+1) (by omega)),?_⟩;refine⟨R.many+1,rfl,by omega,?_⟩;refine⟨_,by rw [UT,UA];exact zc (za (hdr fU)) (zhi S (i:=R.many+1) (by omega)),?_⟩;refine⟨_,zdY (sS.s _).2.2 hA2,?_⟩;refine⟨_,zdY (sS.s _).2.1 (ziz (sS.s _).2.2 hA2),?_⟩;refine⟨R.many+1,rfl,by omega,?_⟩;refine zk zjU (hdr fU) (o:=0+211+(R.many+1)*1) (v:=s32 (S.ctrl (R.many+1)|||(S.att (R.many+1)|||A.2))) rfl rfl (by rw [ji];omega) rfl fun V fV gV sV=>?_;rw [UN,UT,zdo _ (by omega)] at fV;refine⟨rfl,?_,zd gZ (zd gU (zd (gd U) gV))⟩;unfold zcR;rw [Gk (by rw [<- hA];exact h),<- hA,<- hC,<- hS];exact fV
theorem zlC (f:jf w b R) (hs:RunS R) (hp:R.pc<=1000) (ha:x.ar=true->x.an.toNat<8) (hc:x.br=true->x.bn.toNat<8):Calls PG 100 #[AtR b,zbG x,u8 v] w fun e w' =>
  e = .returned (.tuple #[])/\jf w' b (zbf R x)/\w.grownBy w' (some b):=by
 refine qP 61 [AtR b,zbG x,u8 v] (.s .p (.s .p (.c .p (.c .p (.s .p (.c .p .p)))))) Tryz.func100 ?_;have f0:=zx w (.cells (zC.enc x).toArray 41);have hb:Bw w (w.alloc (.cells (zC.enc x).toArray 41)):=zba w _;have fr:=zb hb f;have hne:w.heap.size≠b:=fun e=>by have:=hlt f;omega
 refine⟨[.bool x.ar,u8 x.an],rfl,qc (o:=3) (n:=2) f0,hlt f0,?_⟩;refine cmo (zaO fr ha) ?_;rintro e Y ⟨rfl,hbY⟩;have f0Y:=zb hbY f0;have fY:=zb hbY fr;have gd:∀ Z:Wd,Z.grownBy Z.drew (some b):=fun Z=>⟨rfl,rfl,rfl,US _,fun _ _ _=>rfl⟩;obtain⟨A,hA⟩:=nm (qg x.ar x.an R);obtain⟨C,hC⟩:=nm (qg x.br x.bn R);have hA2:A.2<2^32:=by rw [hA];exact hs.val _ _
 have hC2:C.2<2^32:=by rw [hC];exact hs.val _ _
 refine⟨Unit,fun _=>⟨[(0,AtR b),(4,At0 w.heap.size),(6,u8 A.1),(7,s32 A.2),(8,u8 C.1),(9,s32 C.2)],[]⟩,fun _ X=>Bw Y X,?_,?_⟩
 ·refine⟨[.bool x.br,u8 x.bn],rfl,qc (o:=5) (n:=2) f0Y,hlt f0Y,?_⟩;refine cmo (zaO fY hc) ?_;rintro e Z ⟨rfl,hbZ⟩;rw [<- hA,<- hC];exact⟨(),(cvE rfl rfl),hbZ⟩
 rintro _ Z hbZ;have f0Z:=zb hbZ f0Y;have fZ:=zb hbZ fY;obtain⟨S,hS⟩:∃ S:RunD,S={ R with ctl:=R.ctl|||(A.2|||C.2) }:=⟨_,rfl⟩;have hpc:S.pc=R.pc:=by rw [hS]
 refine⟨Unit,fun _=>⟨[(0,AtR b),(4,At0 w.heap.size),(6,u8 A.1),(8,u8 C.1)],[]⟩,fun _ X=>jf X b S/\X.heap[w.heap.size]?=some (.cells (zC.enc x).toArray 41 (0,0))/\w.grownBy X (some b),?_,?_⟩
 ·refine⟨_,zc (za fZ) (i:=17) (zkw R),?_⟩;refine⟨_,zdY hA2 hC2,?_⟩;refine⟨_,zdY hs.c (ziz hA2 hC2),?_⟩;refine zk zjU fZ (o:=0+17) (v:=s32 (R.ctl|||(A.2|||C.2))) rfl rfl (by rw [ji];decide) rfl fun V fV gV sV=>?_;rw [UN,zig] at fV;exact⟨(),(cvE rfl rfl),by rw [hS];exact fV,(gV.block w.heap.size (hlt f0Z) (by simpa using hne)).trans f0Z,zd (zf hb) (zd (zf hbY) (zd (zf hbZ) gV))⟩
 clear f0 fr f0Y fY f0Z fZ hb hbY hbZ;rintro _ V ⟨fV,f0V,gV'⟩;refine⟨Unit,fun _=>⟨[(0,AtR b),(4,At0 w.heap.size),(10,.bool (zh9 x.fn A.1 C.1))],[]⟩,fun _ X=>X=V,?_,?_⟩
 ·refine⟨_,zc (za f0V) (i:=7) rfl,?_⟩;refine biE (fun h=>?_) fun h=>?_
  ·have h:x.fn=4:=dT ((zcd (x:=x.fn) (y:=4)).symm.trans h);exact⟨(),⟨.cons rfl (.cons rfl (.cons (by unfold zh9;rw [Gk h,<- zcd];rfl) .nil)),rfl⟩,rfl⟩
  ·have h:¬ x.fn=4:=dF ((zcd (x:=x.fn) (y:=4)).symm.trans h);refine biE (fun k=>?_) fun k=>?_
   ·have k:x.fn=5:=dT ((zcd (x:=x.fn) (y:=5)).symm.trans k);exact⟨(),⟨.cons rfl (.cons rfl (.cons (by unfold zh9;rw [Gj h,Gk k,<- zcd];rfl) .nil)),rfl⟩,rfl⟩
   ·have k:¬ x.fn=5:=dF ((zcd (x:=x.fn) (y:=5)).symm.trans k);exact⟨(),⟨.cons rfl (.cons rfl (.cons (by unfold zh9;rw [Gj h,Gj k,<- zoy];rfl) .nil)),rfl⟩,rfl⟩
 rintro _ _ rfl;refine biE (fun h=>?_) fun h=>?_
 ·refine DrawE.ord [10] [0,1,2,3,4,5,6,7,8,9,10] (by kernel_rfl) ?_;refine⟨_,zc (za (hdr fV)) (i:=0) rfl,?_⟩;refine⟨_,zc (za (hdr f0V)) (i:=9) rfl,?_⟩;have hk:=x.skip.toNat_lt;refine⟨_,ze (by omega),?_⟩;refine⟨((S.pc+x.skip.toNat:Nat):Int),(ze (by omega)).trans rfl,?_⟩;refine zk k3 (hdr fV) (o:=0+0) (v:=i64 (S.pc+x.skip.toNat:Nat)) rfl rfl (by rw [ji];decide) rfl fun U fU gU sU=>?_;rw [UN,zfc] at fU;refine⟨rfl,?_,zd gV' (zd (gd _) gU)⟩;unfold zbf;rw [<- hA,<- hC,Gk h];rw [hS] at fU;exact fU
 ·refine⟨rfl,?_,gV'⟩;unfold zbf;rw [<- hA,<- hC,Gj (by rw [h];decide)];rw [hS] at fV;exact fV
end
def ExG (x:InsD):Prop :=
 (x.op=1/\x.dst.toNat<8)\/(x.op=2/\(x.ar=true->x.an.toNat<8))\/(x.op=3/\x.dst.toNat<8/\(x.ar=true->x.an.toNat<8)/\(x.br=true->x.bn.toNat<8))\/(x.op=4/\x.dst.toNat<8/\(x.ar=true->x.an.toNat<8))\/(x.op=5/\x.dst.toNat<8/\(x.ar=true->x.an.toNat<8))\/(x.op=6/\x.dst.toNat<8/\(x.ar=true->x.an.toNat<8)/\(x.br=true->x.bn.toNat<8))\/x.op=7\/(x.op=8/\(x.ar=true->x.an.toNat<8)/\(x.br=true->x.bn.toNat<8))
theorem zY {x:InsD} {R:RunD} {v:UInt8}:(x.op=1->zdQ R x v=znf R x v)/\(x.op=2->zdQ R x v=zjw R x)/\(x.op=3->zdQ R x v=zna R x)/\(x.op=4->zdQ R x v=zmE R x v)/\(x.op=5->zdQ R x v=zeg R x v)/\(x.op=6->zdQ R x v=zcR R x v)/\(x.op=7->zdQ R x v=zj0 R x)/\(x.op=8->zdQ R x v=zbf R x):=by
 unfold zdQ;refine⟨fun h=>?_,fun h=>?_,fun h=>?_,fun h=>?_,fun h=>?_,fun h=>?_,fun h=>?_,fun h=>?_⟩ <;> rw [h] <;> rfl
theorem zks {R:RunD} {x:InsD}:(zbf R x).pc<=R.pc+255/\(zbf R x).many=R.many/\(zbf R x).pc<=R.pc+x.skip.toNat:=by
 have:=x.skip.toNat_lt;unfold zbf;dsimp only
 split
 ·exact⟨by dsimp only;omega,rfl,US _⟩
 ·exact⟨by dsimp only;omega,rfl,by dsimp only;omega⟩
theorem znO {R:RunD} {x:InsD} {v:UInt8}:(zcR R x v).pc=R.pc/\R.many+1<=(zcR R x v).many/\(zcR R x v).many<=R.many+2:=by
 unfold zcR
 split
 ·exact⟨rfl,Nat.le_succ _,US _⟩
 ·exact⟨rfl,US _,Nat.le_succ _⟩
section
variable {R:RunD} {b:Nat} {w:Wd}
theorem zfO {x:InsD} {v:UInt8} (f:jf w b R) (hs:RunS R) (hm:R.many<23) (hp:R.pc<=1000) (hx:ExG x):Calls PG 39 #[AtR b,zbG x,u8 v] w fun e w' =>
  e = .returned (.tuple #[])/\jf w' b (zX R x v)/\w.grownBy w' (some b):=by
 refine zD 21 [AtR b,zbG x,u8 v] Tryz.func39 ?_;have f0:=zx w (.cells (zC.enc x).toArray 41);obtain⟨W1,hW1⟩:=nm ((w.alloc (.cells (zC.enc x).toArray 41)).drew);have hb:Bw w W1:=by rw [hW1];exact ((zba w _)).drew
 have fr:jf W1 b R:=zb hb f;have f0:W1.heap[w.heap.size]?=some (.cells (zC.enc x).toArray 41 (0,0)):=by rw [hW1];exact f0
 have hW1':(w.alloc (.cells (Value.agg (zC.enc x).toArray).cells 41)).drew=W1:=hW1.symm;refine DrawE.ord [7] [1,2,4,5,6,0,3,7] (by kernel_rfl) ?_;rw [hW1'];refine⟨_,zc (za f0) (i:=0) rfl,zC.enc x,rfl,za f0,hlt f0,cmo zl3 ?_⟩;rintro e Y ⟨rfl,hbY⟩;refine⟨hbY,?_⟩;have fY:=zb hbY fr;have gY:w.grownBy Y (some b):=zd (zf hb) (zf hbY);have fin:∀ {S:RunD} {Z:Wd},jf Z b S->Y.grownBy Z (some b)->S.pc<=2000->zdQ R x v=S->∃ u,Z.cell? ⟨b,0+0,none⟩=some u/\zpj PG .add 3 (.tmp 17) (.const (i64 1)) u (i64 1) (fun v18=>SatR ((storeVar 3 ⟨b,0+0,none⟩ v18).run PG Z) fun _ w'=>(Ending.returned (.tuple #[])=Ending.returned (.tuple #[]))/\jf w' b (zX R x v)/\w.grownBy w' (some b)):=by
  intro S Z fZ gZ hpc he;have he:zX R x v={ S with pc:=S.pc+1 }:=by unfold zX;rw [he]
  refine⟨_,zc (za fZ) (i:=0) rfl,((S.pc+1:Nat):Int),(ze (by show _<=((S.pc:Nat):Int)+1/\((S.pc:Nat):Int)+1<=_;omega)).trans rfl,zk k3 fZ (o:=0+0) (v:=i64 (S.pc+1:Nat)) rfl rfl (by rw [ji];decide) rfl fun V fV gV sV=>?_⟩;rw [UN,zfc] at fV;rw [he];exact⟨rfl,fV,zd gY (zd gZ gV)⟩
 rcases hx with ⟨h1,h2⟩ | ⟨h1,h2⟩ | ⟨h1,h2,h3,h4⟩ | ⟨h1,h2,h3⟩ | ⟨h1,h2,h3⟩ | ⟨h1,h2,h3,h4⟩ | h1 | ⟨h1,h2,h3⟩
 ·refine⟨1,by rw [h1];rfl,by decide,?_⟩;refine jU (v:=fnV 93) rfl (cmo (zlF fY (by omega) h2) ?_);rintro e Z ⟨rfl,fZ,gZ⟩;exact fin fZ gZ (show R.pc<=2000 by omega) (zY.1 h1)
 ·refine⟨2,by rw [h1];rfl,by decide,?_⟩;refine jU (v:=fnV 94) rfl (cmo (zjB fY (by omega) h2) ?_);rintro e Z ⟨rfl,fZ,gZ⟩;exact fin fZ gZ (show R.pc<=2000 by omega) (zY.2.1 h1)
 ·refine⟨3,by rw [h1];rfl,by decide,?_⟩;refine jU (v:=fnV 95) rfl (cmo (zlE fY hs h2 h3 h4) ?_);rintro e Z ⟨rfl,fZ,gZ⟩;exact fin fZ gZ (show R.pc<=2000 by omega) (zY.2.2.1 h1)
 ·refine⟨4,by rw [h1];rfl,by decide,?_⟩;refine jU (v:=fnV 96) rfl (cmo (zlB fY hm h2 h3) ?_);rintro e Z ⟨rfl,fZ,gZ⟩;exact fin fZ gZ (show R.pc<=2000 by omega) (zY.2.2.2.1 h1)
 ·refine⟨5,by rw [h1];rfl,by decide,?_⟩;refine jU (v:=fnV 97) rfl (cmo (zjC fY hs hm h2 h3) ?_);rintro e Z ⟨rfl,fZ,gZ⟩;exact fin fZ gZ (show R.pc<=2000 by omega) (zY.2.2.2.2.1 h1)
 ·refine⟨6,by rw [h1];rfl,by decide,?_⟩;refine jU (v:=fnV 98) rfl (cmo (zmN fY hs hm h2 h3 h4) ?_);rintro e Z ⟨rfl,fZ,gZ⟩;exact fin fZ gZ (by rw [znO.1];omega) (zY.2.2.2.2.2.1 h1)
 ·refine⟨7,by rw [h1];rfl,by decide,?_⟩;refine jU (v:=fnV 99) rfl (cmo (zjD fY (by omega)) ?_);rintro e Z ⟨rfl,fZ,gZ⟩;exact fin fZ gZ (show R.pc<=2000 by omega) (zY.2.2.2.2.2.2.1 h1)
 ·refine⟨8,by rw [h1];rfl,by decide,?_⟩;refine jU (v:=fnV 100) rfl (cmo (zlC fY hs hp h2 h3) ?_);rintro e Z ⟨rfl,fZ,gZ⟩;exact fin fZ gZ (by have:=(zks (R:=R) (x:=x)).1;omega) (zY.2.2.2.2.2.2.2 h1)
end
theorem zlD {R:RunD} {x:InsD} {v:UInt8} (hs:RunS R) (hm:R.many<31) (hx:ExG x):RunS (zX R x v):=by
 have fin:∀ S:RunD,RunS S->zdQ R x v=S->RunS (zX R x v):=fun S h e=>by
  unfold zX;rw [e];exact⟨h.d,h.c,h.s⟩
 have ex:∀ {o a:UInt8} {d:Nat},d<2^32->RunS (zca R x o a d):=fun hd=>hs.exch (by omega) hd;rcases hx with ⟨h1,-⟩ | ⟨h1,-⟩ | ⟨h1,-⟩ | ⟨h1,-⟩ | ⟨h1,-⟩ | ⟨h1,-⟩ | h1 | ⟨h1,-⟩
 ·exact fin _ ((hs.emit (by decide)).set (zkE (by omega))) (zY.1 h1)
 ·exact fin _ (hs.emit (hs.val _ _)) (zY.2.1 h1)
 ·exact fin _ (hs.set (ziz (hs.val _ _) (hs.val _ _))) (zY.2.2.1 h1)
 ·exact fin _ (ex (hs.val _ _)) (zY.2.2.2.1 h1)
 ·refine fin (zeg R x v) ?_ (zY.2.2.2.2.1 h1);have h:=ex (o:=v) (a:=v+(qg x.ar x.an R).1) (hs.val x.ar x.an);exact⟨h.d,h.c,fun i=>⟨zdZ (fun i=>(h.s i).1) (ziz (h.s _).1 (h.s _).2.2) i,(h.s i).2⟩⟩
 ·refine fin (zcR R x v) ?_ (zY.2.2.2.2.2.1 h1);unfold zcR
  split
  ·have h:=ex (o:=v) (a:=(qg x.br x.bn R).1) (hs.val x.br x.bn);exact⟨h.d,h.c,fun i=>⟨(h.s i).1,zdZ (fun i=>(h.s i).2.1) (ziz (h.s _).2.1 (ziz (h.s _).2.2 (hs.val _ _))) i,(h.s i).2.2⟩⟩
  ·exact (hs.emit (by decide)).set (zkE (by omega))
 ·exact fin _ (hs.emit (by decide)) (zY.2.2.2.2.2.2.1 h1)
 ·refine fin (zbf R x) ?_ (zY.2.2.2.2.2.2.2 h1);have h:RunS { R with ctl:=R.ctl|||((qg x.ar x.an R).2|||(qg x.br x.bn R).2) }:=⟨hs.d,ziz hs.c (ziz (hs.val _ _) (hs.val _ _)),hs.s⟩;unfold zbf;dsimp only
  split
  ·exact⟨h.d,h.c,h.s⟩
  ·exact h
theorem zpN:RunS zf9:=⟨fun _=>(by decide:0<2^32),by decide,fun _=>⟨(by decide:0<2^32),(by decide:0<2^32),(by decide:0<2^32)⟩⟩
def ThG (l:List InsD):Prop:=l.length<=12/\∀ i x,l[i]?=some x->ExG x/\(x.op=8->x.skip.toNat<=l.length-1-i)
theorem zhC {x:InsD} {k n:Nat} (h:zgf x k n=true):ExG x/\(x.op=8->x.skip.toNat<=n)/\(x.op=1\/x.op=2\/x.op=4\/x.op=5\/x.op=6->x.loc.toNat<k):=by
 unfold zgf qs at h;simp only [Ux,List.all_nil,id_eq,Bool.and_true,bAT,dE,QE] at h;obtain⟨⟨h1,h8⟩,-,hd,hl,⟨ha,hb⟩,-,-,hs⟩:=h;have arg:∀ {r:Bool} {n:UInt8},zhV r n=true->r=true->n.toNat<8:=fun {r n} h hr=>by
  subst hr;unfold zhV at h;simpa using h
 have ha:=arg ha;have hb:=arg hb;have key:∀ i,1<=i->i<=8->UInt8.ofNat i=1\/UInt8.ofNat i=2\/UInt8.ofNat i=3\/UInt8.ofNat i=4\/UInt8.ofNat i=5\/UInt8.ofNat i=6\/UInt8.ofNat i=7\/UInt8.ofNat i=8:=by
  intro i a b;have:i=1\/i=2\/i=3\/i=4\/i=5\/i=6\/i=7\/i=8:=by omega
  rcases this with e | e | e | e | e | e | e | e <;> subst e <;> decide
 have hop:=key x.op.toNat h1 h8;rw [UInt8.ofNat_toNat] at hop;refine⟨?_,fun e=>?_,fun e=>?_⟩
 ·unfold ExG;rcases hop with e | e | e | e | e | e | e | e
  ·exact .inl ⟨e,hd⟩
  ·exact .inr (.inl ⟨e,ha⟩)
  ·exact .inr (.inr (.inl ⟨e,hd,ha,hb⟩))
  ·exact .inr (.inr (.inr (.inl ⟨e,hd,ha⟩)))
  ·exact .inr (.inr (.inr (.inr (.inl ⟨e,hd,ha⟩))))
  ·exact .inr (.inr (.inr (.inr (.inr (.inl ⟨e,hd,ha,hb⟩)))))
  ·exact .inr (.inr (.inr (.inr (.inr (.inr (.inl e))))))
  ·exact .inr (.inr (.inr (.inr (.inr (.inr (.inr ⟨e,ha,hb⟩))))))
 ·rw [e] at hs;rcases hs with hs | hs
  ·exact Gl hs (by decide)
  ·exact hs.2
 ·rcases hl with hl | hl
  ·rcases e with e | e | e | e | e <;> rw [e] at hl <;> exact Gl hl (by decide)
  ·exact hl
theorem zjv {l:List InsD} {k:Nat} (h:z9 l k=true):ThG l:=by
 unfold z9 at h;rw [bAT,dE,Qh] at h;refine⟨h.1,fun i x hi=>?_⟩;have hil:i<l.length:=(Jq.1 hi).1;have:=h.2 i (Ul.2 hil);rw [hi] at this;exact⟨(zhC this).1,(zhC this).2.1⟩
structure RunOk (l:List InsD) (R:RunD):Prop where
 m:R.many<=2*R.pc
 p:R.pc<=l.length
 s:RunS R
theorem zkx (l:List InsD):RunOk l zf9:=⟨US _,UV _,zpN⟩
theorem zdM {l:List InsD} {S:RunD} {x:InsD} {v:UInt8} (ht:ThG l) (h:RunOk l S) (hx:l[S.pc]?=some x):RunOk l (zX S x v)/\S.pc+1<=(zX S x v).pc:=by
 obtain⟨hx1,hx8⟩:=ht.2 _ _ hx;have hpl:S.pc<l.length:=(Jq.1 hx).1;have hm:=h.m;have h12:=ht.1;have hs:=zlD (v:=v) h.s (by omega) hx1;have fin:∀ T:RunD,zdQ S x v=T->T.many<=2*T.pc+2->S.pc<=T.pc->T.pc+1<=l.length->RunOk l (zX S x v)/\S.pc+1<=(zX S x v).pc:=fun T e h1 h2 h3=>by
  have e2:zX S x v={ T with pc:=T.pc+1 }:=by unfold zX;rw [e]
  refine⟨⟨?_,?_,hs⟩,?_⟩
  ·rw [e2];dsimp only;omega
  ·rw [e2];exact h3
  ·rw [e2];dsimp only;omega
 rcases hx1 with ⟨e,-⟩ | ⟨e,-⟩ | ⟨e,-⟩ | ⟨e,-⟩ | ⟨e,-⟩ | ⟨e,-⟩ | e | ⟨e,-⟩
 ·exact fin _ (zY.1 e) (show S.many+1<=2*S.pc+2 by omega) (US _) hpl
 ·exact fin _ (zY.2.1 e) (show S.many+1<=2*S.pc+2 by omega) (US _) hpl
 ·exact fin _ (zY.2.2.1 e) (show S.many<=2*S.pc+2 by omega) (US _) hpl
 ·exact fin _ (zY.2.2.2.1 e) (show S.many+1+1<=2*S.pc+2 by omega) (US _) hpl
 ·exact fin _ (zY.2.2.2.2.1 e) (show S.many+1+1<=2*S.pc+2 by omega) (US _) hpl
 ·obtain⟨c1,c2,c3⟩:=znO (R:=S) (x:=x) (v:=v);exact fin _ (zY.2.2.2.2.2.1 e) (by omega) (by omega) (by omega)
 ·exact fin _ (zY.2.2.2.2.2.2.1 e) (show S.many+1<=2*S.pc+2 by omega) (US _) hpl
 ·obtain⟨c1,c2,c3⟩:=zks (R:=S) (x:=x);have h8:=hx8 e;have hge:S.pc<=(zbf S x).pc:=by
   unfold zbf;dsimp only
   split
   ·exact Qw _ _
   ·exact US _
  exact fin _ (zY.2.2.2.2.2.2.2 e) (by omega) hge (by omega)
theorem zlH {x:InsD} (hx:ExG x):((x.op=1\/x.op=4\/x.op=5\/x.op=6)/\zbs x=true)\/((x.op≠1/\x.op≠4/\x.op≠5/\x.op≠6)/\zbs x=false):=by
 by_cases h:x.op=1\/x.op=4\/x.op=5\/x.op=6
 ·refine .inl ⟨h,?_⟩;unfold zbs;rcases h with e | e | e | e <;> rw [e] <;> rfl
 ·have h1:x.op≠1:=fun e=>h (.inl e);have h4:x.op≠4:=fun e=>h (.inr (.inl e));have h5:x.op≠5:=fun e=>h (.inr (.inr (.inl e)));have h6:x.op≠6:=fun e=>h (.inr (.inr (.inr e)));refine .inr ⟨⟨h1,h4,h5,h6⟩,?_⟩;unfold zbs;rw [Ue h1,Ue h4,Ue h5,Ue h6];rfl
section
variable {R:RunD} {b:Nat} {w:Wd} {l:List InsD} {q:OA} {cap:Nat}
theorem zfg (f:jf w b R) (hl:SlR zC w q l) (hq:l≠[]->∀ a,q=some a->a.block≠b) (ht:ThG l) (hR:RunOk l R) :
  Calls PG 38 #[AtR b,.slice q l.length cap] w fun e w'=>e = .returned (.bool (l[(goR l l.length R).pc]?).isSome)/\jf w' b (goR l l.length R)/\w.grownBy w' (some b)/\RunOk l (goR l l.length R)/\R.pc<=(goR l l.length R).pc:=by
 refine zD 34 [AtR b,.slice q l.length cap] Tryz.func38 ?_;have h12:=ht.1;refine⟨RunD×Nat,fun s=>⟨[(0,AtR b),(1,.slice q l.length cap)],[]⟩,
  fun s X=>(goR l l.length R=goR l s.2 s.1/\l.length<=s.2+s.1.pc/\RunOk l s.1/\R.pc<=s.1.pc)/\jf X b s.1/\w.grownBy X (some b),fun s=>l.length-s.1.pc,(R,l.length),
  (cvE rfl rfl),⟨⟨rfl,by omega,hR,US _⟩,f,zV w _⟩,?_⟩
 rintro⟨S,n⟩ X ⟨⟨he,hn,hS,hpp⟩,fX,gX⟩;dsimp only at he hn hS hpp fX ⊢;refine⟨_,zc (za fX) (i:=0) rfl,biE (fun hc=>?_) fun hc=>?_⟩
 ·have hc:(S.pc:Int)<(l.length:Int):=dT hc;have hi:S.pc<l.length:=by omega
  have hm:=hS.m;obtain⟨n,rfl⟩:∃ n',n=n'+1:=⟨n-1,by omega⟩;obtain⟨bq,oq,rfl,hlq,hat⟩:=(zlw hl (hq (List.ne_nil_of_length_pos (by omega))) gX).at hi;have hg:l[S.pc]?=some l[S.pc]:=gE hi;have hxi:=(ht.2 _ _ hg).1;refine⟨_,zc (za fX) (i:=0) rfl,S.pc,rfl,hi,_,zc (hat S.pc hi) (i:=0) rfl,?_⟩;have no:∀ k:UInt8,l[S.pc].op≠k->decide (((l[S.pc].op).toNat:Int)=(k.toNat:Int))=false:=fun k hk=>Ue fun e=>hk (qV.1 e);rcases zlH hxi with ⟨ho,hr⟩ | ⟨⟨o1,o4,o5,o6⟩,hr⟩
  ·have e1:goR l l.length R=S:=he.trans (zoM hg hr _);have fin:∀ {u:Bool},u=true->(Ending.returned (.bool u)=Ending.returned (.bool (l[(goR l l.length R).pc]?).isSome)/\jf X b (goR l l.length R)/\w.grownBy X (some b)/\RunOk l (goR l l.length R)/\R.pc<=(goR l l.length R).pc):=fun hu=>by
    rw [e1,hg,hu];exact⟨rfl,fX,gX,hS,hpp⟩
   rcases ho with ho | ho | ho | ho
   ·exact brE (by rw [ho];rfl) (brE (by rw [ho];rfl) (fin rfl))
   ·exact brN (no 1 (by rw [ho];decide)) (brE (by rw [ho];rfl) (brE (by rw [ho];rfl) (fin rfl)))
   ·exact brN (no 1 (by rw [ho];decide)) (brN (no 4 (by rw [ho];decide)) (brE (by rw [ho];rfl) (brE (by rw [ho];rfl) (fin rfl))))
   ·exact brN (no 1 (by rw [ho];decide)) (brN (no 4 (by rw [ho];decide)) (brN (no 5 (by rw [ho];decide)) (brE (by rw [ho];rfl) (fin rfl))))
  ·refine brN (no 1 o1) (brN (no 4 o4) (brN (no 5 o5) (brN (no 6 o6) ⟨_,zc (za fX) (i:=0) rfl,S.pc,rfl,hi,zC.enc l[S.pc],rfl,hat S.pc hi,hlq,cmo (zfO (v:=0) fX hS.s (by omega) (by omega) hxi) ?_⟩)));rintro e Y ⟨rfl,fY,gY⟩;obtain⟨x1,x2⟩:=zdM (v:=0) ht hS hg;exact⟨(zX S l[S.pc] 0,n),(cvE rfl rfl),⟨⟨he.trans (zoL hg hr n),by dsimp only;omega,x1,by dsimp only;omega⟩,fY,zd gX gY⟩,by dsimp only;omega⟩
 ·have hc:¬ (S.pc:Int)<(l.length:Int):=dF hc;have hg:l[S.pc]?=none:=JI (by omega);have e1:goR l l.length R=S:=he.trans (znq hg _);rw [e1,hg];exact⟨rfl,fX,gX,hS,hpp⟩
end
structure RowN {α : Type} (E : Enc α) (n0 : Nat) (F : Nat → Prop) (X : Wd) (q : OA) (l : List α) : Prop where
  row : SlR E X q l
  out : l ≠ [] → ∀ a, q = some a → a.block < n0 ∧ ¬ F a.block
theorem RowN.keep {α : Type} {E : Enc α} {n0 : Nat} {F F' G : Nat → Prop} {X Y : Wd} {q : OA} {l : List α} (h : RowN E n0 F X q l) (hn : n0 ≤ X.heap.size) (k : KeepsG G F' X Y) (hG : ∀ k, k < n0 → G k → F k) : RowN E n0 F' Y q l := by
  by_cases hne : l = []
  · exact ⟨.inl hne, fun h => (h hne).elim⟩
  · have r : RowF E n0 F X q l := ⟨h.row, h.out hne⟩
    have r2 := r.keep hn k hG
    exact ⟨r2.row, fun _ => r2.out⟩
section
variable {yl n0 cap cd : Nat} {J Jx : List RunD → (Nat → Prop) → Wd → Prop} {xs : List RunD} {l : List InsD} {dom : List UInt8} {q p : OA}
theorem zlt (hJ : JG n0 (fun _ => False) J) (hn0 : ∀ pre F X, J pre F X → n0 ≤ X.heap.size) (hy : ∀ pre x vs F W1, J pre F W1 → StR (pre ++ [x]) vs W1 → (pre ++ [x]) <+: xs → YieldR PG yl vs.toArray W1 fun v W2 =>
      (v = .bool true ∧ ∃ F', J (pre ++ [x]) F' W2 ∧ KeepsG F F' W1 W2) ∨ (v = .bool false ∧ ∃ F', Jx (pre ++ [x]) F' W2)) (ht : ThG l) (hd : dom.length ≤ 1000) :
    ∀ (n : Nat) (S : RunD) (b : Nat) (pre : List RunD) (F : Nat → Prop) (X : Wd), l.length ≤ n + S.pc → RunOk l S → jf X b S → n0 ≤ b → ¬ F b → J pre F X → RowN zC n0 F X q l → RowF zI n0 F X p dom → (pre ++ zS l dom n S) <+: xs →
      Calls PG 105 #[AtR b, .slice q l.length cap, .slice p dom.length cd, .func (.yield yl) #[] #[]] X fun e Y =>
        (e = .returned (.bool true) ∧ ∃ F', J (pre ++ zS l dom n S) F' Y ∧ KeepsG (fun k => F k ∨ k = b) F' X Y) ∨ (e = .returned (.bool false) ∧ ∃ pre' F', pre' <+: xs ∧ Jx pre' F' Y) := by
  intro n
  induction n with
  | zero =>
    intro S b pre F X hn hS fX hb hFb hj hq hdm hpre
    refine jc (S := sg 41) (zaY _) (args := [AtR b, .slice q l.length cap, .slice p dom.length cd, .func (.yield yl) #[] #[]]) Tryz.func105 rfl rfl (JQ rfl) rfl ?_
    have hpc : S.pc = l.length := by have := hS.p; omega
    have hg : l[S.pc]? = none := JI (by omega)
    have e1 : goR l l.length S = S := znq hg _
    refine UY (zfg fX hq.row (fun hne a ha => by have := (hq.out hne a ha).1; omega) ht hS) ?_
    rintro e Y ⟨rfl, fY, gY, _⟩
    rw [e1] at fY ⊢
    rw [hg]
    refine brT ?_
    have hjY := hJ.step _ _ _ _ hj (StepG.grown gY (.inl hb) hFb)
    have hs : zS l dom 0 S = [S] := by show [goR l l.length S] = _; rw [e1]
    rw [hs] at hpre ⊢
    refine YieldR.mono (hy pre S [AtR b] F Y hjY ⟨S, b, by simp, rfl, fY⟩ hpre) ?_
    rintro v Z (⟨rfl, F', hJZ, hKZ⟩ | ⟨rfl, F', hJZ⟩)
    · exact .inl ⟨rfl, F', hJZ, (KeepsG.grown (F := fun k => F k ∨ k = b) gY (.inr rfl)).trans (hKZ.weak fun k h => .inl h)⟩
    · exact .inr ⟨rfl, _, F', hpre, hJZ⟩
  | succ n ih =>
    intro S b pre F X hn hS fX hb hFb hj hq hdm hpre
    refine jc (S := sg 41) (zaY _) (args := [AtR b, .slice q l.length cap, .slice p dom.length cd, .func (.yield yl) #[] #[]]) Tryz.func105 rfl rfl (JQ rfl) rfl ?_
    obtain ⟨T, hT⟩ : ∃ T, T = goR l l.length S := ⟨_, rfl⟩
    refine UY (zfg fX hq.row (fun hne a ha => by have := (hq.out hne a ha).1; omega) ht hS) ?_
    rintro e Y ⟨rfl, fY, gY, tO, tpp⟩
    rw [← hT] at fY tO tpp ⊢
    have hjY := hJ.step _ _ _ _ hj (StepG.grown gY (.inl hb) hFb)
    have hXn := hn0 _ _ _ hj
    have kY : KeepsG (fun k => F k ∨ k = b) F X Y := ⟨gY.os, gY.tape, gY.output, gY.size, fun k hk hf => gY.block k hk (fun e => hf (.inr (by cases e; rfl))), fun k h => .inl (.inl h)⟩
    have hqY := hq.keep hXn kY (fun k hk h => h.resolve_right (by omega))
    have hdY := hdm.keep hXn kY (fun k hk h => h.resolve_right (by omega))
    cases hg : l[T.pc]? with
    | none =>
      refine brT ?_
      have hs : zS l dom (n + 1) S = [T] := by
        show (match l[(goR l l.length S).pc]? with | none => [goR l l.length S] | some x => _) = _
        rw [← hT, hg]
      rw [hs] at hpre ⊢
      refine YieldR.mono (hy pre T [AtR b] F Y hjY ⟨T, b, by simp, rfl, fY⟩ hpre) ?_
      rintro v Z (⟨rfl, F', hJZ, hKZ⟩ | ⟨rfl, F', hJZ⟩)
      · exact .inl ⟨rfl, F', hJZ, kY.trans hKZ⟩
      · exact .inr ⟨rfl, _, F', hpre, hJZ⟩
    | some x =>
      have hi : T.pc < l.length := (Jq.1 hg).1
      have hxe : l[T.pc] = x := by rw [Jt hi] at hg; exact Uc hg
      have hxi := (ht.2 _ _ hg).1
      refine brF ?_
      have hs : zS l dom (n + 1) S = dom.flatMap fun v => zS l dom n (zX T x v) := by
        show (match l[(goR l l.length S).pc]? with | none => [goR l l.length S] | some x => _) = _
        rw [← hT, hg]
      rw [hs] at hpre ⊢
      refine ⟨Nat × (Nat → Prop), fun s => ⟨[(0, AtR b), (1, .slice q l.length cap), (2, .slice p dom.length cd), (3, .func (.yield yl) #[] #[]), (19, .slice p dom.length cd), (20, i64 dom.length), (21, i64 (s.1 : Nat))], []⟩,
        fun s Z => s.1 ≤ dom.length ∧ J (pre ++ (dom.take s.1).flatMap fun v => zS l dom n (zX T x v)) s.2 Z ∧ jf Z b T ∧ ¬ s.2 b ∧ RowN zC n0 s.2 Z q l ∧ RowF zI n0 s.2 Z p dom ∧ KeepsG (fun k => F k ∨ k = b) s.2 X Z, fun s => dom.length - s.1, (0, F),
        ⟨.cons rfl (.cons rfl (.cons rfl (.cons rfl (.cons rfl (.cons rfl (.cons rfl .nil)))))), rfl⟩, ⟨UV _, by rw [Um]; show J (pre ++ []) F Y; rw [QH]; exact hjY, fY, hFb, hqY, hdY, kY⟩, ?_⟩
      clear fY gY hjY hqY hdY kY
      rintro ⟨k, G⟩ Z ⟨hk, hjZ, fZ, hGb, hqZ, hdZ, kZ⟩
      dsimp only at hk hjZ hGb hqZ hdZ kZ ⊢
      have hZn := hn0 _ _ _ hjZ
      refine Gc (fun hc => ?_) (fun hc => ?_)
      · have hc : (k : Int) < (dom.length : Int) := Qa hc
        have hkd : k < dom.length := by omega
        obtain ⟨bp, op, hpe, hlp, hatp⟩ := hdZ.row.at hkd
        have hqr := hqZ
        obtain ⟨bq, oq, hqe, hlq, hatq⟩ := hqZ.row.at hi
        have ep : some (Value.slice p dom.length cd) = some (Value.slice (some ⟨bp, op, none⟩) dom.length cd) := by rw [hpe]
        subst hpe
        refine ⟨k, rfl, hkd, ?_⟩
        refine ⟨u8 dom[k], by have := zc (hatp k hkd) (i := 0) (v := u8 dom[k]) rfl; exact this, ?_⟩
        refine ⟨qj T, ji _, za fZ, hlt fZ, ?_⟩
        refine zm (X := Z) (v := .agg (qj T).toArray) (jC.get 112 _ rfl) (ji _) zlk (zmO _) fun V hbV fV sV => ?_
        subst hqe
        have fV : jf V Z.heap.size T := fV
        refine ⟨_, zc (za fV) (i := 0) rfl, ?_⟩
        refine ⟨T.pc, rfl, hi, ?_⟩
        refine ⟨zC.enc x, rfl, by rw [← hxe]; exact zo hbV (hatq T.pc hi), KD hlq hbV.size, ?_⟩
        refine UY (zfO (v := dom[k]) fV tO.s (by have := tO.m; have := ht.1; omega) (by have := ht.1; omega) hxi) ?_
        rintro e U ⟨rfl, fU, gU⟩
        obtain ⟨x1, x2⟩ := zdM (v := dom[k]) ht tO hg
        have hGn : ¬ G Z.heap.size := fun h => by have := (hJ.lt _ _ _ _ hjZ h).1; omega
        have hjU := hJ.step _ _ _ _ (hJ.step _ _ _ _ hjZ (StepG.below hbV)) (StepG.grown gU (.inl hZn) hGn)
        have hbU : Below Z.heap.size Z U := hbV.trans (zh gU hbV.size (US _))
        have kU : KeepsG G G Z U := KeepsG.below hbU fun k h => .inl h
        have hqU := hqr.keep hZn kU (fun k _ h => h)
        have hdU := hdZ.keep hZn kU (fun k _ h => h)
        have hdk : dom.flatMap (fun v => zS l dom n (zX T x v)) = (dom.take k).flatMap (fun v => zS l dom n (zX T x v)) ++ (zS l dom n (zX T x dom[k]) ++ (dom.drop (k + 1)).flatMap fun v => zS l dom n (zX T x v)) := by
          have e : dom = dom.take k ++ dom[k] :: dom.drop (k + 1) := by rw [JD, JO]
          have e2 : (dom.take k ++ dom[k] :: dom.drop (k + 1)).flatMap (fun v => zS l dom n (zX T x v)) = (dom.take k).flatMap (fun v => zS l dom n (zX T x v)) ++ (zS l dom n (zX T x dom[k]) ++ (dom.drop (k + 1)).flatMap fun v => zS l dom n (zX T x v)) := by
            rw [Kf, KQ]
          rw [← e] at e2
          exact e2
        have hpk : ((pre ++ (dom.take k).flatMap fun v => zS l dom n (zX T x v)) ++ zS l dom n (zX T x dom[k])) <+: xs := by
          refine List.IsPrefix.trans ?_ hpre
          rw [hdk]
          exact ⟨(dom.drop (k + 1)).flatMap fun v => zS l dom n (zX T x v), by simp only [KM]⟩
        have htk : (dom.take (k + 1)).flatMap (fun v => zS l dom n (zX T x v)) = (dom.take k).flatMap (fun v => zS l dom n (zX T x v)) ++ zS l dom n (zX T x dom[k]) := by
          rw [Jc hkd, Kf, KQ, Qn, QH]
        refine UY (ih (zX T x dom[k]) Z.heap.size (pre ++ (dom.take k).flatMap fun v => zS l dom n (zX T x v)) G U (by omega) x1 fU hZn hGn hjU hqU hdU hpk) ?_
        rintro e V' (⟨rfl, F', hjV, kV⟩ | ⟨rfl, pre', F', hp', hjx⟩)
        · refine brF ?_
          have kW : KeepsG G F' Z V' := ⟨kV.os.trans kU.os, kV.tape.trans kU.tape, kV.output.trans kU.output, UJ kU.size kV.size, fun i hi hf => (kV.same i (KD hi kU.size) (fun h => by
            rcases h with h | h
            · exact hf h
            · omega)).trans (kU.same i hi hf), fun i h => by
            have := kU.size
            rcases kV.fp i h with (h2 | h2) | h2
            · exact .inl h2
            · exact .inr (by omega)
            · exact .inr (by omega)⟩
          have hbZ := hlt fZ
          refine ⟨((k + 1 : Nat) : Int), (ze (by omega)).trans (by omega), ?_⟩
          refine ⟨(k + 1, F'), ⟨.cons rfl (.cons rfl (.cons rfl (.cons rfl (.cons rfl (.cons rfl (.cons rfl .nil)))))), rfl⟩, ⟨hkd, ?_, (kW.same b hbZ hGb).trans fZ, fun h => ?_, hqr.keep hZn kW (fun _ _ h => h), hdZ.keep hZn kW (fun _ _ h => h), kZ.trans kW⟩, by show dom.length - (k + 1) < dom.length - k; omega⟩
          · show J (pre ++ (dom.take (k + 1)).flatMap fun v => zS l dom n (zX T x v)) F' V'
            rw [htk, ← KM]
            exact hjV
          · rcases kW.fp b h with h2 | h2
            · exact hGb h2
            · omega
        · refine brT ?_
          exact .inr ⟨rfl, pre', F', hp', hjx⟩
      · have hc : ¬ (k : Int) < (dom.length : Int) := KG hc
        obtain rfl : k = dom.length := by omega
        rw [Qu] at hjZ
        exact .inl ⟨rfl, G, hjZ, kZ⟩
theorem zhG {bi bd : Nat} {W0 : Wd} (hl : SlR zC W0 q l) (hp : SlR zI W0 p dom) (fi : W0.heap[bi]? = some (.cells #[.slice q l.length cap] 42 (0, 0))) (fd : W0.heap[bd]? = some (.cells #[.slice p dom.length cd] 23 (0, 0))) (hql : l ≠ [] → ∀ a, q = some a → a.block < W0.heap.size) (hpl : ∀ a, p = some a → a.block < W0.heap.size) (ht : ThG l) (hd : dom.length ≤ 1000) :
    zg5 PG 104 [AtR bi, AtR bd] (qH l dom) W0 (fun k => (k = bi ∨ k = bd) ∨ (l ≠ [] ∧ ∃ a, q = some a ∧ k = a.block) ∨ ∃ a, p = some a ∧ k = a.block) (fun _ => False) StR := by
  intro yl F0 J Jx W hsz hrd hrf hJ hJx hy h0
  refine jc (S := sg 9) (zaY _) (args := [.func (.yield yl) #[] #[], AtR bi, AtR bd]) Tryz.func104 rfl rfl (JQ rfl) rfl ?_
  obtain ⟨X, hX⟩ : ∃ X, X = W.alloc (.cells (qj zf9).toArray 112) := ⟨_, rfl⟩
  have hbX : Below W.heap.size W X := by rw [hX]; exact (UX _ W).alloc (US _) _
  have fX : jf X W.heap.size zf9 := by rw [hX]; exact zx W _
  have ez : zkn = qj zf9 := by kernel_rfl
  have hX' : W.alloc (.cells (zkn).toArray 112) = X := by rw [hX, ez]
  have fiW := (hrd bi (.inl (.inl (.inl rfl)))).trans fi
  have fdW := (hrd bd (.inl (.inl (.inr rfl)))).trans fd
  have hjX := hJ.step _ _ _ _ h0 (StepG.below hbX)
  have hF : ¬ F0 W.heap.size := fun h => by have := (hJ.lt _ _ _ _ h0 h).1; omega
  have hlX : RowN zC W.heap.size F0 X q l := by
    by_cases hne : l = []
    · exact ⟨.inl hne, fun h => (h hne).elim⟩
    · exact ⟨qF hl fun a ha => (hbX.block _ (by have := hql hne a ha; omega)).trans (hrd _ (.inl (.inr (.inl ⟨hne, a, ha, rfl⟩)))), fun _ a ha => ⟨by have := hql hne a ha; omega, hrf _ (.inr (.inl ⟨hne, a, ha, rfl⟩))⟩⟩
  have hpX : RowF zI W.heap.size F0 X p dom := ⟨qF hp fun a ha => (hbX.block _ (by have := hpl a ha; omega)).trans (hrd _ (.inl (.inr (.inr ⟨a, ha, rfl⟩)))), fun a ha => ⟨by have := hpl a ha; omega, hrf _ (.inr (.inr ⟨a, ha, rfl⟩))⟩⟩
  refine ⟨_, by rw [hX']; exact zc (za (zb hbX fiW)) (i := 0) rfl, ?_⟩
  refine ⟨_, by rw [hX']; exact zc (za (zb hbX fdW)) (i := 0) rfl, ?_⟩
  rw [hX']
  have hJn : JG W.heap.size (fun _ => False) (fun pre F Z => J pre F Z ∧ W.heap.size ≤ Z.heap.size) := ⟨fun s F A B ⟨h, hn⟩ hs => ⟨hJ.step _ _ _ _ h hs, UJ hn hs.size⟩, fun s F A k ⟨h, _⟩ hk => hJ.lt _ _ _ _ h hk⟩
  refine UY (zlt (xs := qH l dom) (Jx := Jx) hJn (fun _ _ _ h => h.2) (fun pre x vs F W1 ⟨hj, hn⟩ hst hpre => YieldR.mono (hy pre x vs F W1 hj hst hpre) fun v W2 h => ?_) ht hd l.length zf9 W.heap.size [] F0 X (US _) (zkx l) fX (US _) hF ⟨hjX, hbX.size⟩ hlX hpX (List.prefix_refl _)) ?_
  · rcases h with ⟨rfl, F', h1, h2⟩ | h
    · exact .inl ⟨rfl, F', ⟨h1, UJ hn h2.size⟩, h2⟩
    · exact .inr h
  · rintro e Y (⟨rfl, F', ⟨hj, _⟩, _⟩ | ⟨rfl, pre', F', h1, h2⟩)
    · exact ⟨⟨_, rfl⟩, .inl ⟨F', hj⟩⟩
    · exact ⟨⟨_, rfl⟩, .inr ⟨pre', F', h1, h2⟩⟩
end
theorem zjY {l:List InsD} (ht:ThG l):∀ (n:Nat) (S:RunD),RunOk l S->RunOk l (goR l n S)
 | 0,S,h=>h
 | n+1,S,h=>by
  show RunOk l (match l[S.pc]? with | none=>S | some x=>if zbs x then S else goR l n (zX S x 0))
  cases hg:l[S.pc]? with
  | none=>exact h
  | some x =>
   dsimp only
   split
   ·exact h
   ·exact zjY ht n _ (zdM ht h hg).1
theorem ze5 {l:List InsD} (ht:ThG l) (dom:List UInt8):∀ (n:Nat) (S:RunD),RunOk l S->∀ R∈zS l dom n S,RunOk l R
 | 0,S,h,R,hR=>by
  have hR:R∈[goR l l.length S]:=hR;rw [Ky] at hR;rw [hR];exact zjY ht _ _ h
 | n+1,S,h,R,hR=>by
  have hT:=zjY ht l.length S h;have hR:R∈(match l[(goR l l.length S).pc]? with | none=>[goR l l.length S] | some x=>dom.flatMap fun v=>zS l dom n (zX (goR l l.length S) x v)):=hR
  cases hg:l[(goR l l.length S).pc]? with
  | none =>
   rw [hg] at hR;have hR:=Ky.1 hR;rw [hR];exact hT
  | some x =>
   rw [hg] at hR;obtain⟨v,-,hv⟩:=List.mem_flatMap.1 hR;exact ze5 ht dom n _ (zdM ht hT hg).1 R hv
theorem znC {l:List InsD} (ht:ThG l) (dom:List UInt8):∀ R∈qH l dom,RunOk l R:=ze5 ht dom _ _ (zkx l)
theorem zeX {l:List InsD} (ht:ThG l) (dom:List UInt8):∀ R∈qH l dom,R.many<=24/\∀ i,R.data i<2^32/\R.ctrl i<2^32/\R.att i<2^32:=fun R hR=>by
 have h:=znC ht dom R hR;have h1:=h.m;have h2:=h.p;have h3:=ht.1;exact⟨by omega,fun i=>h.s.s i⟩
section
variable {l:List InsD} {dom:List UInt8} {q p:OA} {cap cd:Nat} {w:Wd}
theorem zlm (hl:SlR zC w q l) (hp:SlR zI w p dom) (hok:z9 l 6=true) (hqb:l≠[]->∀ a,q=some a->a.block<w.heap.size) (hpb:∀ a,p=some a->a.block<w.heap.size) (hdl:dom.length<=1000) :
  Calls PG 43 #[.slice q l.length cap,.slice p dom.length cd] w fun e w'=>((∃ (p':OA) (c':Nat),(qH l dom).length<=4096/\e = .returned (.tuple #[.slice p' (jq (qH l dom)).length c',.bool true])/\OwnS zI 5 w.heap.size w' p' c' (jq (qH l dom)))\/(4096<(qH l dom).length/\e = .returned (.tuple #[.slice none 0 0,.bool false])))/\Bw w w':=by
 have ht:=zjv hok;have h12:l.length<=12:=ht.1;have hR:∀ R∈qH l dom,R.many<=24:=fun R h=>(zeX ht dom R h).1;refine qP 55 [.slice q l.length cap,.slice p dom.length cd] (.c .p (.c .p (.c .p (.c .p (.s .p (.c .p .p)))))) Tryz.func43 ?_;obtain⟨L,hL⟩:=nm (w.heap.size);refine⟨Unit,fun _=>⟨[(0,.slice q l.length cap),(1,.slice p dom.length cd),(4,AtR L),(5,AtR (L+1))],[]⟩,fun _ X=>X.heap[L]?=some (.cells #[.slice none 0 0] 23 (0,0))/\X.heap[L+1]?=some (.cells #[.bool false] 4 (0,0))/\X.heap.size=L+2/\Bw w X,?_,?_⟩
 ·have s1:=wz w (.cells #[.slice none 0 0] 23);have h2:=zx (w.alloc (.cells #[.slice none 0 0] 23)) (.cells #[.bool false] 4);have s2:=wz (w.alloc (.cells #[.slice none 0 0] 23)) (.cells #[.bool false] 4);rw [s1] at h2 s2;refine⟨(),⟨.cons rfl (.cons rfl (.cons (by rw [hL];rfl) (.cons (by rw [hL,<- s1];rfl) .nil))),rfl⟩,?_,?_,?_,?_⟩
  ·rw [hL];exact qm _ (zx w _)
  ·rw [hL];exact h2
  ·rw [hL];exact s2
  ·exact ((zba w _)).alloc (by simp) _
 rintro _ X ⟨f0,f1,sX,hbX⟩;refine⟨Unit,fun _=>⟨[(0,.slice q l.length cap),(1,.slice p dom.length cd),(4,AtR L),(5,AtR (L+1)),(6,AtR (L+2))],[]⟩,fun _ Y=>Y.heap[L+2]?=some (.cells (wrC fun _=>false).toArray 150 (0,0))/\Y.heap.size=L+3/\Bw X Y,?_,?_⟩
 ·refine⟨(),⟨.cons rfl (.cons rfl (.cons rfl (.cons rfl (.cons (by rw [<- sX];rfl) .nil)))),rfl⟩,?_,?_,?_⟩
  ·rw [<- sX,<- zrt];exact zx X _
  ·have:=wz X (.cells (List.replicate 256 (Value.bool false)).toArray 150);rw [sX] at this;exact this
  ·exact (zba X _)
 rintro _ Y ⟨f2,sY,hbY⟩;refine⟨Unit,fun _=>⟨[(0,.slice q l.length cap),(1,.slice p dom.length cd),(4,AtR L),(5,AtR (L+1)),(6,AtR (L+2)),(7,AtR (L+3))],[]⟩,fun _ Z=>Z.heap[L+3]?=some (.cells [i64 (0:Nat)].toArray 3 (0,0))/\Z.heap.size=L+4/\Bw Y Z,?_,?_⟩
 ·refine zm (X:=Y) (v:=i64 0) k3 rfl rfl rfl fun Z hbZ fZ sZ=>?_;rw [sY] at fZ sZ;exact⟨(),⟨.cons rfl (.cons rfl (.cons rfl (.cons rfl (.cons rfl (.cons (by rw [<- sY];rfl) .nil))))),rfl⟩,fZ,sZ,hbZ⟩
 rintro _ V ⟨f3,sV,hbV⟩;have hXV:Bw X V:=zst hbY hbV;have hwV:=zst hbX hXV;have f0:=zb hXV f0;have f1:=zb hXV f1;have f2:=zb hbV f2;clear hbX hbY hbV hXV;obtain⟨xs,hxs⟩:=nm (qH l dom);rw [<- hxs] at hR ⊢;refine⟨Nat,fun D1=>⟨[(4,AtR L),(5,AtR (L+1)),(6,AtR (L+2))],[{ target := .collected D1,args := #[] }]⟩,fun D1 U=>xs.length<=4096/\U.heap[L+2]?=some (.cells (wrC (wrL xs)).toArray 150 (0,0))/\U.heap[D1]?=some (.deferred (some []))/\L+2<D1/\Below (L+2) V U,?_,?_⟩
 ·refine cmo zhH ?_;rintro e W ⟨rfl,fi,fd,sW,hbW⟩;have hwW:=zst hwV hbW;have hI:=zhG (q:=q) (p:=p) (hl.below hwW) (hp.below hwW) fi fd (fun hne a ha=>by have:=hqb hne a ha;have:=hwW.size;omega) (fun a ha=>by have:=hpb a ha;have:=hwW.size;omega) ht hdl;rw [<- hxs] at hI;obtain⟨J,hJ⟩:∃ J:List RunD->Wd->Prop,J=fun pre Y=>W.heap.size<=Y.heap.size/\pre.length<=4096/\Y.heap[L+2]?=some (.cells (wrC (wrL pre)).toArray 150 (0,0))/\Y.heap[L+3]?=some (.cells [i64 pre.length].toArray 3 (0,0))/\Below (L+2) W Y:=⟨_,rfl⟩;obtain⟨F0,hF0⟩:∃ F0:Nat->Prop,F0=fun k=>k=L+2\/k=L+3\/k=L\/k=L+1:=⟨_,rfl⟩;have f0W:=zb hbW f0;have f1W:=zb hbW f1;refine zcj (zaY _) rfl (lb := #[AtR V.heap.size,AtR (V.heap.size+1)]) rfl rfl hI (US _) (fun k hk=>⟨?_,rfl⟩) (fun pre vs W ⟨R,b,_,h,_⟩=>by rw [h];rfl) (by decide)
   F0 (fun pre F Y=>F=F0/\J pre Y) (fun ex pre F Y=>F=F0/\W.heap.size<=Y.heap.size/\ex = .ret/\4096<xs.length/\Y.heap[L]?=some (.cells #[.slice none 0 0] 23 (0,0))/\Y.heap[L+1]?=some (.cells #[.bool false] 4 (0,0))/\Below L W Y) (fun k hk=>?_)
   (joG (F:=F0) (J:=J) (fun k h=>by rw [hF0] at h;omega) (fun s A h=>by rw [hJ] at h;exact h.1) (fun pre A B h hb=>by
    rw [hJ] at h ⊢;obtain⟨h1,h0,h2,h3,h4⟩:=h;exact⟨UJ h1 hb.size,h0,qT hb (by omega) h2,qT hb (by omega) h3,h4.trans (hb.mono (by omega))⟩))
   (fun ex=>joG (F:=F0) (J:=fun (pre:List RunD) Y=>W.heap.size<=Y.heap.size/\ex = .ret/\4096<xs.length/\Y.heap[L]?=some (.cells #[.slice none 0 0] 23 (0,0))/\Y.heap[L+1]?=some (.cells #[.bool false] 4 (0,0))/\Below L W Y) (fun k h=>by rw [hF0] at h;omega) (fun s A h=>h.1) (fun pre A B ⟨h1,h2,h3,h4,h5,h6⟩ hb=>⟨UJ h1 hb.size,h2,h3,qT hb (by omega) h4,qT hb (by omega) h5,h6.trans (hb.mono (by omega))⟩)) ⟨rfl,by rw [hJ];exact⟨US _,UV _,zb hbW f2,zb hbW f3,UX _ _⟩⟩ ?_ ?_ ?_
  ·rcases hk with ((rfl | rfl) | ⟨hne,a,ha,rfl⟩ | ⟨a,ha,rfl⟩) | h
   ·omega
   ·omega
   ·have:=hqb hne a ha;have:=hwW.size;omega
   ·have:=hpb a ha;have:=hwW.size;omega
   ·exact h.elim
  ·rw [hF0];rcases hk with (rfl | rfl) | ⟨hne,a,ha,rfl⟩ | ⟨a,ha,rfl⟩
   ·omega
   ·omega
   ·have:=hqb hne a ha;omega
   ·have:=hpb a ha;omega
  ·rintro yl pre x vs F Y hyl hpre hJ0 ⟨R,b,hlast,rfl,fR⟩ hfy ⟨lo,hlo⟩;have hxR:x=R:=by simpa using hlast
   subst hxR;refine⟨rfl,F,KeepsG.refl _ _,hJ0,?_⟩;rintro o Y2 hY2 ⟨rfl,hJ2⟩;rw [hJ] at hJ2;obtain⟨h1,h0,h2,h3,h4⟩:=hJ2;have hbl:b≠yl:=fun e=>by
    rw [e] at fR;rw [fR] at hlo
    cases hlo
   have fR2:jf Y2 b x:=by rw [hY2];exact (zg hbl).trans fR
   have r1:=hR x (hpre.subset (by simp));have hpl:pre.length<xs.length:=by
    obtain⟨t,ht⟩:=hpre;rw [<- ht];simp only [lap,Qq];omega
   refine⟨_,zc (za h3) (i:=0) rfl,?_⟩;refine biE (fun hct=>?_) fun hct=>?_
   ·have hct:(pre.length:Int)=4096:=dT hct;have g0:Y2.heap[L]?=some (.cells #[.slice none 0 0] 23 (0,0)):=(h4.block L (by omega)).trans f0W;have g1:Y2.heap[L+1]?=some (.cells #[.bool false] 4 (0,0)):=(h4.block (L+1) (by omega)).trans f1W;refine zk k23 g0 (o:=0) (v := .slice none 0 0) rfl rfl (by show 0<1;decide) rfl fun Z1 fZ1 gZ1 sZ1=>?_;have g1':=(gZ1.block (L+1) (hlt g1) (by simp)).trans g1;refine zk k4 g1' (o:=0) (v := .bool false) rfl rfl (by show 0<1;decide) rfl fun Z2 fZ2 gZ2 sZ2=>?_;refine⟨F,⟨rfl,by omega,rfl,by omega,(gZ2.block L (hlt fZ1) (by simp)).trans fZ1,fZ2,?_⟩,(KeepsG.grown (F:=F) gZ1 (by rw [hF0];exact .inr (.inr (.inl rfl)))).trans (KeepsG.grown (F:=F) gZ2 (by rw [hF0];exact .inr (.inr (.inr rfl))))⟩;exact ((h4.mono (by omega)).trans (zh gZ1 (by omega) (US _))).trans (zh gZ2 (by omega) (by omega))
   have hct:¬ (pre.length:Int)=4096:=dF hct;refine⟨_,zc (za h3) (i:=0) rfl,?_⟩;refine⟨((pre.length+1:Nat):Int),(ze (by omega)).trans (by omega),?_⟩;refine zk k3 h3 (o:=0) (v:=i64 (pre.length+1:Nat)) rfl rfl (by show 0<1;decide) rfl fun Z fZ gZ sZ=>?_;have fRZ:jf Z b x:=(gZ.block b (hlt fR2) (fun e=>by
    have e:b=L+3:=(by simpa using e);rw [e] at fR2;rw [fR2] at h3;simp at h3)).trans fR2
   have f2Z:=(gZ.block (L+2) (hlt h2) (by simp)).trans h2;have kZ:KeepsG F F Y2 Z:=KeepsG.grown gZ (by rw [hF0];exact .inr (.inl rfl));have bZ:Below (L+2) W Z:=h4.trans (zh gZ (by omega) (by omega));refine DrawE.ord [] [0,1,2,3,4,5,6,7,8,9] (by kernel_rfl) ?_;have hdZ:Bw Z Z.drew:=(UX _ _).drew;refine⟨_,zc (za (hdr fRZ)) (i:=18) (za2 x),?_⟩;refine⟨x.many,rfl,r1,?_⟩;have ecut:qO (some ⟨b,0+19,none⟩) 24 0 7=some ⟨b,19,none⟩:=by rw [zb1,UN]
   refine⟨Nat,fun i=>⟨[(6,AtR (L+2)),(7,AtR (L+3)),(29,.slice (some ⟨b,19,none⟩) (x.many-0) (24-0)),(30,i64 (x.many:Nat)),(31,i64 (i:Nat))],[]⟩,
    fun i T=>i<=x.many/\T.heap[L+2]?=some (.cells (wrC fun v=>wrL pre v||wrE x i v).toArray 150 (0,0))/\jf T b x/\T.heap[L+3]?=some (.cells [i64 (pre.length+1:Nat)].toArray 3 (0,0))/\KeepsG F F Y2 T/\Below (L+2) W T,fun i=>x.many-i,0,
    ⟨.cons rfl (.cons rfl (.cons (by rw [<- ecut];rfl) (.cons rfl (.cons rfl .nil)))),rfl⟩,⟨UV _,?_,hdr fRZ,hdr fZ,kZ.trans (KeepsG.below hdZ fun k h => .inl h),bZ.drew⟩,?_⟩
   ·have e:(fun v=>wrL pre v||wrE x 0 v)=wrL pre:=by
     funext v;show (wrL pre v||false)=_;rw [Uu]
    rw [e];exact f2Z
   rintro i T ⟨hi,t2,tR,t3,kT,bT⟩;have hTs:=kT.size;refine biE (fun hc=>?_) fun hc=>?_
   ·have hc:(i:Int)<(x.many:Int):=dT hc;have him:i<x.many:=(by omega);refine⟨i,rfl,him,?_⟩;have hev:zw T ⟨b,19+i*7,none⟩ (evE.enc (x.ev i)):=by
     have:=zF (n:=i*7) (m:=7) (zkv tR);rw [znz x.ev (show i<24 by omega)] at this;exact this
    refine⟨evE.enc (x.ev i),rfl,hev,hlt tR,?_⟩;refine zm (X:=T) (v := .agg (evE.enc (x.ev i)).toArray) k60 rfl rfl rfl fun T2 hb2 fT2 sT2=>?_;have k2:KeepsG F F Y2 T2:=kT.trans (KeepsG.below hb2 fun k h => .inl h);have b2:Below (L+2) W T2:=bT.trans (hb2.mono (by omega));have n1:=zmq x i;refine⟨_,zc (za fT2) (i:=1) rfl,?_⟩;have u2:=zb hb2 t2;have uR:=zb hb2 tR;have u3:=zb hb2 t3;refine biE (fun hk=>?_) fun hk=>?_
    ·have hk:(x.ev i).k=2:=qV.1 (dT hk);refine⟨_,zc (za fT2) (i:=3) rfl,?_⟩;refine⟨((x.ev i).v).toNat,rfl,((x.ev i).v).toNat_lt,?_⟩;refine zk k4 u2 (o:=0+((x.ev i).v).toNat*1) (v := .bool true) rfl rfl (by rw [zkp];have:=((x.ev i).v).toNat_lt;omega) rfl fun T3 fT3 gT3 sT3=>?_;rw [UN,UT,zoh] at fT3;have k3:KeepsG F F Y2 T3:=k2.trans (KeepsG.grown gT3 (by rw [hF0];exact .inl rfl));have hT2s:=k2.size;refine nxI (by omega) ?_;refine⟨i+1,(cvE rfl rfl),⟨him,?_,(gT3.block b (hlt uR) (fun e=>by
      have e:b=L+2:=(by simpa using e);rw [e] at uR;rw [uR] at u2;simp at u2)).trans uR,(gT3.block (L+3) (hlt u3) (by simp)).trans u3,k3,b2.trans (zh gT3 (by omega) (US _))⟩,zdc (by omega)⟩
     have e:(fun v=>wrL pre v||wrE x (i+1) v)=fun v=>(wrL pre v||wrE x i v)||decide ((x.ev i).v=v):=by
      funext v;rw [n1,Up hk,Uv,Bool.or_assoc]
     rw [e];exact fT3
    ·have hk:¬ (x.ev i).k=2:=fun e=>(dF hk) (by rw [e];rfl);refine nxI (by omega) ?_;refine⟨i+1,(cvE rfl rfl),⟨him,?_,uR,u3,k2,b2⟩,zdc (by omega)⟩;have e:(fun v=>wrL pre v||wrE x (i+1) v)=fun v=>(wrL pre v||wrE x i v):=by
      funext v;rw [n1,Ue hk,Ug,Uu]
     rw [e];exact u2
   ·have hc:¬ (i:Int)<(x.many:Int):=dF hc;obtain rfl:i=x.many:=(by omega);refine⟨F,⟨rfl,?_⟩,kT⟩;rw [hJ];refine⟨by omega,by rw [lap];show pre.length+1<=4096;omega,?_,by rw [lap];exact t3,bT⟩;have e:wrL (pre++[x])=fun v=>wrL pre v||wrE x x.many v:=by
     funext v;exact zmo pre x v
    rw [e];exact t2
  ·rintro D1 F Y hD hfD ⟨rfl,hj⟩ hdef;rw [hJ] at hj;obtain⟨h1,h0,h2,h3,h4⟩:=hj;exact⟨D1,(cvE rfl rfl),h0,h2,hdef,by omega,(hbW.mono (by omega)).trans h4⟩
  ·rintro D ex pre F Y hD hfD hpre ⟨rfl,h1,rfl,hlong,g0,g1,hbY⟩ hdef;refine⟨_,rfl,hdef,?_⟩;refine⟨.slice none 0 0,zc (za ((zg (by omega)).trans g0)) (i:=0) rfl,.bool false,zc (za ((zg (by omega)).trans g1)) (i:=0) rfl,.inr ⟨hlong,rfl⟩,?_⟩;have hwY:=hwW.trans (hbY.mono (by omega));exact qB hwY (by have:=hwV.size;omega) _
 clear f2 f3;rintro D1 U ⟨hm,f2,fD1,hLD,bU⟩;have f0:U.heap[L]?=some (.cells #[.slice none 0 0] 23 (0,0)):=(bU.block L (by omega)).trans f0;have f1:U.heap[L+1]?=some (.cells #[.bool false] 4 (0,0)):=(bU.block (L+1) (by omega)).trans f1;have hwU:Bw w U:=hwV.trans (bU.mono (by omega));have sU:=hlt f2;have sD:=hlt fD1;clear bU hwV;refine⟨List UInt8×OA×Nat,fun s=>⟨[(4,AtR L),(5,AtR (L+1)),(11,.slice s.2.1 s.1.length s.2.2)],[{ target := .collected D1,args := #[] }]⟩,fun s Z=>s.1=jq xs/\OwnS zI 5 U.heap.size Z s.2.1 s.2.2 s.1/\Bw U Z,?_,?_⟩
 ·refine⟨wrC (wrL xs),zkp _,za f2,hlt f2,?_⟩;refine⟨Nat×OA×Nat,fun s=>⟨[(4,AtR L),(5,AtR (L+1)),(11,.slice s.2.1 ((zH.take s.1).filter (wrL xs)).length s.2.2),(42,.agg (wrC (wrL xs)).toArray),(43,i64 (s.1:Nat))],[{ target := .collected D1,args := #[] }]⟩,
   fun s Z=>s.1<=256/\OwnS zI 5 U.heap.size Z s.2.1 s.2.2 ((zH.take s.1).filter (wrL xs))/\Bw U Z,fun s=>256-s.1,(0,none,0),
   (cvE rfl rfl),⟨UV _,OwnS.nil,UX _ _⟩,?_⟩
  rintro⟨k,r,c⟩ Z ⟨hk,ho,hbZ⟩;dsimp only at hk ho ⊢;have hZs:=hbZ.size;refine biE (fun hc=>?_) fun hc=>?_
  ·have hc:(k:Int)<256:=dT hc;have hk2:k<256:=by omega
   have tk:zH.take (k+1)=zH.take k++[UInt8.ofNat k]:=by
    obtain⟨hlb,hbk⟩:=znT hk2;rw [tsg hlb,hbk]
   have fl:(zH.take (k+1)).filter (wrL xs)=(zH.take k).filter (wrL xs)++(if wrL xs (UInt8.ofNat k)=true then [UInt8.ofNat k] else []):=by
    rw [tk,Kt,zjZ]
   have hfl:((zH.take k).filter (wrL xs)).length<=256:=by
    have h1:=JK (wrL xs) (zH.take k);rw [Qs] at h1;omega
   refine⟨k,rfl,hk2,?_⟩;refine jU (by rw [UT];exact zjs _ hk2) ?_;refine biE (fun hv=>?_) fun hv=>?_
   ·rw [Gk hv] at fl;refine⟨_,w8N k,?_⟩;refine⟨⟨by decide,by decide,rfl⟩,zI.enc (UInt8.ofNat k),rfl,?_⟩;have hba:Bw Z (Z.alloc (.cells (zI.enc (UInt8.ofNat k)).toArray 5)):=zba _ _;refine js (E:=zI) (T:=5) (B:=U.heap.size) (l:=(zH.take k).filter (wrL xs)) (news:=[UInt8.ofNat k]) (cap:=c) (m:=1) Tryz.underlying23 k5 rfl rfl rfl (ho.below hba) rfl (qJ zI (UInt8.ofNat k)) (by have:=hba.size;omega) (by omega) (by show (((zH.take k).filter (wrL xs)).length+1)*1<=_;omega) ?_;intro p2 c2 T oT gT hbT hat;refine nxI (by omega) ?_;refine⟨(k+1,p2,c2),⟨.cons rfl (.cons rfl (.cons (by rw [fl];rfl) (.cons rfl (.cons rfl .nil)))),rfl⟩,⟨hk2,by show OwnS zI _ _ _ _ _ ((zH.take (k+1)).filter (wrL xs));rw [fl];exact oT,(hbZ.trans (hba.mono hZs)).trans hbT⟩,zdc (by omega)⟩
   ·have hv:wrL xs (UInt8.ofNat k)=false:=hv;rw [hv,Gj Ks,QH] at fl;refine nxI (by omega) ?_;exact⟨(k+1,r,c),⟨.cons rfl (.cons rfl (.cons (by rw [fl];rfl) (.cons rfl (.cons rfl .nil)))),rfl⟩,⟨hk2,by show OwnS zI _ _ _ _ _ ((zH.take (k+1)).filter (wrL xs));rw [fl];exact ho,hbZ⟩,zdc (by omega)⟩
  ·have hc:¬ (k:Int)<256:=dF hc;obtain rfl:k=256:=by omega
   have e:(zH.take 256).filter (wrL xs)=jq xs:=by
    rw [zjr,JE (by unfold zH;rw [QK,KT];exact US _)]
   rw [e] at ho;exact⟨(jq xs,r,c),⟨.cons rfl (.cons rfl (.cons (by rw [e];rfl) .nil)),rfl⟩,rfl,ho,hbZ⟩
 rintro⟨ys,r,c⟩ Z ⟨rfl,ho,hbZ⟩;dsimp only at ho ⊢;have hZs:=hbZ.size;have g0:=zb hbZ f0;have g1:=zb hbZ f1;have gD:=zb hbZ fD1;refine zk k23 g0 (o:=0) (v := .slice r (jq xs).length c) rfl rfl (by show 0<1;decide) rfl fun Z1 fZ1 gZ1 sZ1=>?_;have g1':=(gZ1.block (L+1) (hlt g1) (by simp)).trans g1;refine zk k4 g1' (o:=0) (v := .bool true) rfl rfl (by show 0<1;decide) rfl fun Z2 fZ2 gZ2 sZ2=>?_;have k2:∀ k,k<Z.heap.size->k≠L->k≠L+1->Z2.heap[k]?=Z.heap[k]?:=fun k hk n1 n2=>(gZ2.block k (by rw [sZ1];exact hk) (by simpa using n2)).trans (gZ1.block k hk (by simpa using n1));have fZ1':=(gZ2.block L (hlt fZ1) (by simp)).trans fZ1;refine⟨_,rfl,(k2 D1 (hlt gD) (by omega) (by omega)).trans gD,?_⟩;refine⟨.slice r (jq xs).length c,?_,.bool true,?_,.inl ⟨r,c,hm,rfl,?_⟩,?_⟩
 ·exact zc (za ((zg (by omega)).trans fZ1')) (i:=0) rfl
 ·exact zc (za ((zg (by omega)).trans fZ2)) (i:=0) rfl
 ·refine OwnS.lower (ho.same fun a ha=>?_) hwU.size;have h:=jZ ho ha;exact (zg (by omega)).trans (k2 _ h.2.1 (by omega) (by omega))
 ·have hwZ:=zst hwU hbZ;exact qB ((hwZ.trans (zh gZ1 hwZ.size (by omega))).trans (zh gZ2 (by rw [sZ1];exact hwZ.size) (by omega))) (by omega) _
end
end Go.Proofs.YtpalcnbhkigagaaGreatDoor
namespace Go.Proofs.YtpalcnbhkigagaaGreatDoor
open Go.Vc Go.RowKit Go.Sei
open Go.Sort (swp)
abbrev RB (w:Wd) (g:Nat) (sp:List Value) (d:Array UInt8):Prop:=RowS zI 5 w g sp d.toList
def lt8 (x y:UInt8):Bool:=decide ((x.toNat:Int)<(y.toNat:Int))
theorem zmD:Go.Sort.SWO lt8 where
 irrefl:=fun x=>Ue (by omega)
 trans:=fun x y z h1 h2=>by
  have h1:=dT h1;have h2:=dT h2;exact Up (by omega)
 ntrans:=fun x y z h1 h2=>by
  have h1:=dF h1;have h2:=dF h2;exact Ue (by omega)
section
variable {w:Wd} {g i j:Nat} {sp:List Value} {d:Array UInt8}
theorem zn (h:RB w g sp d) (hi:i<d.size):w.cell? ⟨g,0+i*1,none⟩=some (u8 d[i]!):=by
 have h1:i<d.toList.length:=by simpa using hi
 have:=zcx h h1;rw [this,getElem!_pos d i hi];simp
theorem zB {P:Program} {iT:TI} (hT:TIok P 5 iT) (hs:iT.size=1) (hr:RB w g sp d) (hi:i<d.size) (x:UInt8) {K:Wd->Prop}
  (k:∀ w',RB w' g sp (d.setIfInBounds i x)->w.grownBy w' (some g)->K w') :
  SatR ((storeVar 5 ⟨g,0+i*1,none⟩ (.agg (zI.enc x).toArray)).run P w) fun _ w'=>K w':=by
 refine zgp hT hs hr (i:=i) (by simpa using hi) x fun Z hRZ gZ sZ=>k Z ?_ gZ;show RowS zI 5 Z g sp (d.setIfInBounds i x).toList;rw [Array.toList_setIfInBounds];exact hRZ
theorem zr (w:Wd) (g:Nat):w.grownBy w.drew (some g):=⟨rfl,rfl,rfl,US _,fun _ _ _=>rfl⟩
end
section
variable {w:Wd} {g cap L a b:Nat} {sp:List Value} {d:Array UInt8}
theorem zqa (hr:RB w g sp d) (hL:d.size=L) (hab:a<=b) (hb:b<=L) (hl:L<=1000000) :
  Calls PG 137 #[.slice (some ⟨g,0,none⟩) L cap,i64 a,i64 b] w fun e w'=>e = .returned (.tuple #[])/\RB w' g sp (Go.Sort.insertionSort lt8 d a b)/\w.grownBy w' (some g):=by
 refine zD 49 [.slice (some ⟨g,0,none⟩) L cap,i64 a,i64 b] Tryz.func137 ?_;obtain⟨R,hR⟩:=nm (Go.Sort.insertionSort lt8 d a b);rw [<- hR];refine⟨((a+1:Nat):Int),(ze (by first | omega | (dsimp only;omega))).trans (by first | omega | (dsimp only;omega)),Nat×Array UInt8,fun s=>⟨[(0,.slice (some ⟨g,0,none⟩) L cap),(1,i64 a),(2,i64 b),(6,i64 (s.1:Nat))],[]⟩,fun s X=>a+1<=s.1/\s.2.size=L/\Go.Sort.insOuter lt8 a b s.1 s.2=R/\RB X g sp s.2/\w.grownBy X (some g),fun s=>b-s.1,(a+1,d),(cvE rfl rfl),⟨US _,hL,by rw [hR];rfl,hr,zV _ _⟩,?_⟩;rintro⟨i,d1⟩ X ⟨hi,hs1,hR1,hrX,gX⟩;dsimp only at hi hs1 hR1 hrX;rw [Go.Sort.insOuter] at hR1;refine biE (fun hc=>?_) fun hc=>?_
 ·have hc:(i:Int)<(b:Int):=dT hc;have hib:i<b:=by omega
  rw [Gk hib] at hR1;refine⟨Nat×Array UInt8,fun s=>⟨[(0,.slice (some ⟨g,0,none⟩) L cap),(1,i64 a),(2,i64 b),(6,i64 (i:Nat)),(7,i64 (s.1:Nat))],[]⟩,fun s Y=>a<=s.1/\s.1<=i/\s.2.size=L/\Go.Sort.insInner lt8 a s.1 s.2=Go.Sort.insInner lt8 a i d1/\RB Y g sp s.2/\w.grownBy Y (some g),fun s=>s.1,(i,d1),(cvE rfl rfl),⟨by show a<=i;omega,US _,hs1,rfl,hrX,gX⟩,?_⟩;rintro⟨j,d2⟩ Y ⟨hj,hji,hs2,hR2,hrY,gY⟩;dsimp only at hj hji hs2 hR2 hrY;have hout:∀ Z d3,Go.Sort.insInner lt8 a i d1=d3->d3.size=L->RB Z g sp d3->w.grownBy Z (some g)->a+1<=i+1/\d3.size=L/\Go.Sort.insOuter lt8 a b (i+1) d3=R/\RB Z g sp d3/\w.grownBy Z (some g):=fun Z d3 e z q gz=>⟨by omega,z,by rw [<- e];exact hR1,q,gz⟩;have gYd:=zd gY (zr Y g);have qd:RB Y.drew g sp d2:=hrY;refine DrawE.ord [] [0,1,2,3,4,5,6,7,8,9,10,11,12,13,14] (by kernel_rfl) (biE (fun h2=>?_) fun h2=>?_)
  ·have h2:(a:Int)<(j:Int):=dT h2;obtain⟨k,rfl⟩:∃ k,j=k+1:=⟨j-1,by omega⟩;have hk1:k+1<d2.size:=by omega
   have hk:k<d2.size:=by omega
   have e2:Go.Sort.insInner lt8 a (k+1) d2=if (decide (k+1 > a)&&lt8 d2[k+1]! d2[k]!)=true then Go.Sort.insInner lt8 a k (swp d2 (k+1) k) else d2:=rfl
   have e3:decide (k+1 > a)=true:=Up (by omega);rw [e2,e3,Uv] at hR2;refine⟨k+1,rfl,by omega,?_⟩;refine⟨_,zn qd hk1,((k:Nat):Int),(ze (by first | omega | (dsimp only;omega))).trans (by first | omega | (dsimp only;omega)),k,rfl,by omega,?_⟩;refine⟨_,zn qd hk,cmo jr ?_⟩;rintro e _ ⟨rfl,rfl⟩;refine⟨UX _ _,biE (fun h3=>?_) fun h3=>?_⟩
   ·have h3:lt8 d2[k+1]! d2[k]! = true:=h3;rw [Gk h3] at hR2;have qe:RB Y.drew.drew g sp d2:=qd;refine DrawE.ord [15,17] [0,1,2,3,4,5,6,7,8,9,10,11,12,13,14,15,16,17] (by kernel_rfl) ⟨((k:Nat):Int),(ze (by first | omega | (dsimp only;omega))).trans (by first | omega | (dsimp only;omega)),((k:Nat):Int),(ze (by first | omega | (dsimp only;omega))).trans (by first | omega | (dsimp only;omega)),k,rfl,by omega,?_⟩;refine⟨_,zn qe hk,k+1,rfl,by omega,?_⟩;refine⟨_,zn qe hk1,k+1,rfl,by omega,?_⟩;refine zB k5 rfl qe hk1 d2[k]! fun V1 q1 g1=>⟨k,rfl,by omega,?_⟩;refine zB k5 rfl q1 (by rw [Array.size_setIfInBounds];exact hk) d2[k+1]! fun V2 q2 g2=>?_;have q2:RB V2 g sp (swp d2 (k+1) (k)):=q2;have z2:(swp d2 (k+1) (k)).size=d2.size:=Go.Sort.size_swp d2 (k+1) (k);exact⟨((k:Nat):Int),(ze (by first | omega | (dsimp only;omega))).trans (by first | omega | (dsimp only;omega)),(k,swp d2 (k+1) k),(cvE rfl rfl),⟨by show a<=k;omega,by show k<=i;omega,by rw [z2];exact hs2,hR2,q2,zd gYd (zd (zr _ g) (zd g1 g2))⟩,Qy k⟩
   ·have h3:lt8 d2[k+1]! d2[k]! = false:=h3;rw [Gj (by rw [h3];exact Ks)] at hR2;exact⟨((i+1:Nat):Int),(ze (by first | omega | (dsimp only;omega))).trans (by first | omega | (dsimp only;omega)),(i+1,d2),(cvE rfl rfl),hout _ _ hR2.symm hs2 qd gYd,zdc (by omega)⟩
  ·have h2:¬ (a:Int)<(j:Int):=dF h2;have hja:j=a:=by omega
   subst hja;have e2:Go.Sort.insInner lt8 j j d2=d2:=by
    cases j with
    | zero=>rfl
    | succ k =>
     show (if (decide (k+1 > k+1)&&lt8 d2[k+1]! d2[k]!)=true then _ else d2)=d2;rw [Ue (by omega),Ug];rfl
   rw [e2] at hR2;exact Gc (fun h=>by cases h) (fun _=>⟨((i+1:Nat):Int),(ze (by first | omega | (dsimp only;omega))).trans (by first | omega | (dsimp only;omega)),(i+1,d2),(cvE rfl rfl),hout _ _ hR2.symm hs2 qd gYd,zdc (by omega)⟩)
 ·have hc:¬ (i:Int)<(b:Int):=dF hc;rw [Gj (by omega)] at hR1;exact⟨rfl,hR1▸hrX,gX⟩
end
def za0 (hi first root:Nat) (d:Array UInt8):Nat:=if (decide (2*root+1+1<hi)&&lt8 d[first+(2*root+1)]! d[first+(2*root+1)+1]!)=true then 2*root+2 else 2*root+1
theorem ze7 {hi first root:Nat} {d:Array UInt8} (h:¬ 2*root+1<hi):Go.Sort.siftDown lt8 hi first root d=d:=by
 rw [Go.Sort.siftDown,dif_pos (by omega)]
theorem zkt {hi first root:Nat} {d:Array UInt8} (h:2*root+1<hi):Go.Sort.siftDown lt8 hi first root d =
  if (!lt8 d[first+root]! d[first+za0 hi first root d]!)=true then d else Go.Sort.siftDown lt8 hi first (za0 hi first root d) (swp d (first+root) (first+za0 hi first root d)):=by
 rw [Go.Sort.siftDown,dif_neg (by omega)];unfold za0;by_cases h2:(decide (2*root+1+1<hi)&&lt8 d[first+(2*root+1)]! d[first+(2*root+1)+1]!)=true
 ·have h3:2*root+2<hi:=by
   rw [bAT,dE] at h2;omega
  rw [Gk h2,Gk h2,dif_pos h3]
 ·rw [Gj h2,Gj h2]
theorem zgv {hi first root:Nat} {d:Array UInt8} (h:2*root+1<hi):za0 hi first root d<hi/\root<za0 hi first root d:=by
 unfold za0
 split
 ·rename_i h2;rw [bAT,dE] at h2;omega
 ·omega
section
variable {w:Wd} {g cap L a b:Nat} {sp:List Value} {d:Array UInt8}
theorem zmI {lo hi first:Nat} (hr:RB w g sp d) (hL:d.size=L) (hb:first+hi<=L) (hl:L<=1000000) (hlo:lo<=1000000) :
  Calls PG 155 #[.slice (some ⟨g,0,none⟩) L cap,i64 lo,i64 hi,i64 first] w fun e w'=>e = .returned (.tuple #[])/\RB w' g sp (Go.Sort.siftDown lt8 hi first lo d)/\w.grownBy w' (some g):=by
 refine zD 76 [.slice (some ⟨g,0,none⟩) L cap,i64 lo,i64 hi,i64 first] Tryz.func155 ?_;obtain⟨R,hR⟩:=nm (Go.Sort.siftDown lt8 hi first lo d);rw [<- hR];refine⟨Nat×Array UInt8,fun s=>⟨[(0,.slice (some ⟨g,0,none⟩) L cap),(1,i64 lo),(2,i64 hi),(3,i64 first),(8,i64 (s.1:Nat))],[]⟩,fun s X=>s.1<=1000000/\s.2.size=L/\Go.Sort.siftDown lt8 hi first s.1 s.2=R/\RB X g sp s.2/\w.grownBy X (some g),fun s=>hi-s.1,(lo,d),(cvE rfl rfl),⟨hlo,hL,hR.symm,hr,zV _ _⟩,?_⟩;rintro⟨root,d1⟩ X ⟨hro,hs1,hR1,hrX,gX⟩;dsimp only at hro hs1 hR1 hrX;refine⟨((2*root:Nat):Int),(ze (by first | omega | (dsimp only;omega))).trans (by first | omega | (dsimp only;omega)),((2*root+1:Nat):Int),(ze (by first | omega | (dsimp only;omega))).trans (by first | omega | (dsimp only;omega)),biE (fun hc=>?_) fun hc=>?_⟩
 ·have hc:(hi:Int)<=((2*root+1:Nat):Int):=dT hc;rw [ze7 (by omega)] at hR1;exact⟨rfl,hR1▸hrX,gX⟩
 ·have hc:¬ (hi:Int)<=((2*root+1:Nat):Int):=dF hc;have hch:2*root+1<hi:=by omega
  rw [zkt hch] at hR1;obtain⟨hclt,hcr⟩:=zgv (d:=d1) (first:=first) hch;obtain⟨c,hcd⟩:=nm (za0 hi first root d1);rw [<- hcd] at hR1 hclt hcr;have qd:RB X.drew g sp d1:=hrX;have gXd:=zd gX (zr X g);refine DrawE.ord [] [0,1,2,3,4,5,6,7,8,9,10,11,12,13,14,15,16,17,18,19] (by kernel_rfl) ⟨((2*root+1+1:Nat):Int),(ze (by first | omega | (dsimp only;omega))).trans (by first | omega | (dsimp only;omega)),biE (fun h2=>?_) fun h2=>?_⟩
  ·have h2:((2*root+1+1:Nat):Int)<(hi:Int):=dT h2;have h2:2*root+1+1<hi:=by omega
   have hx1:first+(2*root+1)<d1.size:=by omega
   have hx2:first+(2*root+1)+1<d1.size:=by omega
   refine⟨((first+(2*root+1):Nat):Int),(ze (by first | omega | (dsimp only;omega))).trans (by first | omega | (dsimp only;omega)),first+(2*root+1),rfl,by omega,?_⟩;refine⟨_,zn qd hx1,((first+(2*root+1):Nat):Int),(ze (by first | omega | (dsimp only;omega))).trans (by first | omega | (dsimp only;omega)),((first+(2*root+1)+1:Nat):Int),(ze (by first | omega | (dsimp only;omega))).trans (by first | omega | (dsimp only;omega)),first+(2*root+1)+1,rfl,by omega,?_⟩;refine⟨_,zn qd hx2,cmo jr ?_⟩;rintro e _ ⟨rfl,rfl⟩;refine⟨UX _ _,biE (fun h3=>?_) fun h3=>?_⟩
   ·have h3:lt8 d1[first+(2*root+1)]! d1[first+(2*root+1)+1]! = true:=h3;have hce:c=2*root+2:=(by rw [hcd];unfold za0;rw [h3,Up h2];rfl);subst hce;clear hcd;refine⟨((2*root+2:Nat):Int),(ze (by first | omega | (dsimp only;omega))).trans (by first | omega | (dsimp only;omega)),?_⟩;have hi1:first+root<d1.size:=by omega
    have hi2:first+(2*root+2)<d1.size:=by omega
    have q5:RB X.drew.drew g sp d1:=hrX;refine DrawE.ord [] [0,1,2,3,4,5,6,7,8,9,10,11,12,13] (by kernel_rfl) ⟨((first+root:Nat):Int),(ze (by first | omega | (dsimp only;omega))).trans (by first | omega | (dsimp only;omega)),first+root,rfl,by omega,?_⟩;refine⟨_,zn q5 hi1,((first+(2*root+2):Nat):Int),(ze (by first | omega | (dsimp only;omega))).trans (by first | omega | (dsimp only;omega)),first+(2*root+2),rfl,by omega,?_⟩;refine⟨_,zn q5 hi2,cmo jr ?_⟩;rintro e _ ⟨rfl,rfl⟩;refine⟨UX _ _,biE (fun h4=>?_) fun h4=>?_⟩
    ·have h4:(!lt8 d1[first+root]! d1[first+(2*root+2)]!)=true:=h4;rw [Gk h4] at hR1;exact⟨rfl,hR1▸hrX,zd gXd (zr _ g)⟩
    ·have h4:(!lt8 d1[first+root]! d1[first+(2*root+2)]!)=false:=h4;rw [Gj (by rw [h4];exact Ks)] at hR1;have q6:RB X.drew.drew.drew g sp d1:=hrX;refine DrawE.ord [21,23] [0,1,2,3,4,5,6,7,8,9,10,11,12,13,14,15,16,17,18,19,20,21,22,23] (by kernel_rfl) ⟨((first+root:Nat):Int),(ze (by first | omega | (dsimp only;omega))).trans (by first | omega | (dsimp only;omega)),((first+(2*root+2):Nat):Int),(ze (by first | omega | (dsimp only;omega))).trans (by first | omega | (dsimp only;omega)),((first+(2*root+2):Nat):Int),(ze (by first | omega | (dsimp only;omega))).trans (by first | omega | (dsimp only;omega)),first+(2*root+2),rfl,by omega,?_⟩;refine⟨_,zn q6 hi2,((first+root:Nat):Int),(ze (by first | omega | (dsimp only;omega))).trans (by first | omega | (dsimp only;omega)),first+root,rfl,by omega,?_⟩;refine⟨_,zn q6 hi1,first+root,rfl,by omega,?_⟩;refine zB k5 rfl q6 hi1 d1[first+(2*root+2)]! fun V1 q1 g1=>⟨first+(2*root+2),rfl,by omega,?_⟩;refine zB k5 rfl q1 (by rw [Array.size_setIfInBounds];exact hi2) d1[first+root]! fun V2 q2 g2=>?_;have q2:RB V2 g sp (swp d1 (first+root) (first+(2*root+2))):=q2;have z2:(swp d1 (first+root) (first+(2*root+2))).size=d1.size:=Go.Sort.size_swp d1 (first+root) (first+(2*root+2));exact⟨(2*root+2,swp d1 (first+root) (first+(2*root+2))),(cvE rfl rfl),⟨by show 2*root+2<=1000000;omega,by rw [z2];exact hs1,hR1,q2,zd gXd (zd (zr _ g) (zd (zr _ g) (zd g1 g2)))⟩,by show hi-(2*root+2)<hi-root;omega⟩
   ·have h3:lt8 d1[first+(2*root+1)]! d1[first+(2*root+1)+1]! = false:=h3;have hce:c=2*root+1:=(by rw [hcd];unfold za0;rw [h3,Uf];rfl);subst hce;clear hcd;have hi1:first+root<d1.size:=by omega
    have hi2:first+(2*root+1)<d1.size:=by omega
    have q5:RB X.drew.drew g sp d1:=hrX;refine DrawE.ord [] [0,1,2,3,4,5,6,7,8,9,10,11,12,13] (by kernel_rfl) ⟨((first+root:Nat):Int),(ze (by first | omega | (dsimp only;omega))).trans (by first | omega | (dsimp only;omega)),first+root,rfl,by omega,?_⟩;refine⟨_,zn q5 hi1,((first+(2*root+1):Nat):Int),(ze (by first | omega | (dsimp only;omega))).trans (by first | omega | (dsimp only;omega)),first+(2*root+1),rfl,by omega,?_⟩;refine⟨_,zn q5 hi2,cmo jr ?_⟩;rintro e _ ⟨rfl,rfl⟩;refine⟨UX _ _,biE (fun h4=>?_) fun h4=>?_⟩
    ·have h4:(!lt8 d1[first+root]! d1[first+(2*root+1)]!)=true:=h4;rw [Gk h4] at hR1;exact⟨rfl,hR1▸hrX,zd gXd (zr _ g)⟩
    ·have h4:(!lt8 d1[first+root]! d1[first+(2*root+1)]!)=false:=h4;rw [Gj (by rw [h4];exact Ks)] at hR1;have q6:RB X.drew.drew.drew g sp d1:=hrX;refine DrawE.ord [21,23] [0,1,2,3,4,5,6,7,8,9,10,11,12,13,14,15,16,17,18,19,20,21,22,23] (by kernel_rfl) ⟨((first+root:Nat):Int),(ze (by first | omega | (dsimp only;omega))).trans (by first | omega | (dsimp only;omega)),((first+(2*root+1):Nat):Int),(ze (by first | omega | (dsimp only;omega))).trans (by first | omega | (dsimp only;omega)),((first+(2*root+1):Nat):Int),(ze (by first | omega | (dsimp only;omega))).trans (by first | omega | (dsimp only;omega)),first+(2*root+1),rfl,by omega,?_⟩;refine⟨_,zn q6 hi2,((first+root:Nat):Int),(ze (by first | omega | (dsimp only;omega))).trans (by first | omega | (dsimp only;omega)),first+root,rfl,by omega,?_⟩;refine⟨_,zn q6 hi1,first+root,rfl,by omega,?_⟩;refine zB k5 rfl q6 hi1 d1[first+(2*root+1)]! fun V1 q1 g1=>⟨first+(2*root+1),rfl,by omega,?_⟩;refine zB k5 rfl q1 (by rw [Array.size_setIfInBounds];exact hi2) d1[first+root]! fun V2 q2 g2=>?_;have q2:RB V2 g sp (swp d1 (first+root) (first+(2*root+1))):=q2;have z2:(swp d1 (first+root) (first+(2*root+1))).size=d1.size:=Go.Sort.size_swp d1 (first+root) (first+(2*root+1));exact⟨(2*root+1,swp d1 (first+root) (first+(2*root+1))),(cvE rfl rfl),⟨by show 2*root+1<=1000000;omega,by rw [z2];exact hs1,hR1,q2,zd gXd (zd (zr _ g) (zd (zr _ g) (zd g1 g2)))⟩,by show hi-(2*root+1)<hi-root;omega⟩
  ·have h2:¬ ((2*root+1+1:Nat):Int)<(hi:Int):=dF h2;refine Gc (fun h=>by cases h) (fun _=>?_);have hce:c=2*root+1:=by rw [hcd];unfold za0;rw [Ue (by omega),Ug];rfl
   subst hce;clear hcd;have hi1:first+root<d1.size:=by omega
   have hi2:first+(2*root+1)<d1.size:=by omega
   have q5:RB X.drew.drew g sp d1:=hrX;refine DrawE.ord [] [0,1,2,3,4,5,6,7,8,9,10,11,12,13] (by kernel_rfl) ⟨((first+root:Nat):Int),(ze (by first | omega | (dsimp only;omega))).trans (by first | omega | (dsimp only;omega)),first+root,rfl,by omega,?_⟩;refine⟨_,zn q5 hi1,((first+(2*root+1):Nat):Int),(ze (by first | omega | (dsimp only;omega))).trans (by first | omega | (dsimp only;omega)),first+(2*root+1),rfl,by omega,?_⟩;refine⟨_,zn q5 hi2,cmo jr ?_⟩;rintro e _ ⟨rfl,rfl⟩;refine⟨UX _ _,biE (fun h4=>?_) fun h4=>?_⟩
   ·have h4:(!lt8 d1[first+root]! d1[first+(2*root+1)]!)=true:=h4;rw [Gk h4] at hR1;exact⟨rfl,hR1▸hrX,zd gXd (zr _ g)⟩
   ·have h4:(!lt8 d1[first+root]! d1[first+(2*root+1)]!)=false:=h4;rw [Gj (by rw [h4];exact Ks)] at hR1;have q6:RB X.drew.drew.drew g sp d1:=hrX;refine DrawE.ord [21,23] [0,1,2,3,4,5,6,7,8,9,10,11,12,13,14,15,16,17,18,19,20,21,22,23] (by kernel_rfl) ⟨((first+root:Nat):Int),(ze (by first | omega | (dsimp only;omega))).trans (by first | omega | (dsimp only;omega)),((first+(2*root+1):Nat):Int),(ze (by first | omega | (dsimp only;omega))).trans (by first | omega | (dsimp only;omega)),((first+(2*root+1):Nat):Int),(ze (by first | omega | (dsimp only;omega))).trans (by first | omega | (dsimp only;omega)),first+(2*root+1),rfl,by omega,?_⟩;refine⟨_,zn q6 hi2,((first+root:Nat):Int),(ze (by first | omega | (dsimp only;omega))).trans (by first | omega | (dsimp only;omega)),first+root,rfl,by omega,?_⟩;refine⟨_,zn q6 hi1,first+root,rfl,by omega,?_⟩;refine zB k5 rfl q6 hi1 d1[first+(2*root+1)]! fun V1 q1 g1=>⟨first+(2*root+1),rfl,by omega,?_⟩;refine zB k5 rfl q1 (by rw [Array.size_setIfInBounds];exact hi2) d1[first+root]! fun V2 q2 g2=>?_;have q2:RB V2 g sp (swp d1 (first+root) (first+(2*root+1))):=q2;have z2:(swp d1 (first+root) (first+(2*root+1))).size=d1.size:=Go.Sort.size_swp d1 (first+root) (first+(2*root+1));exact⟨(2*root+1,swp d1 (first+root) (first+(2*root+1))),(cvE rfl rfl),⟨by show 2*root+1<=1000000;omega,by rw [z2];exact hs1,hR1,q2,zd gXd (zd (zr _ g) (zd (zr _ g) (zd g1 g2)))⟩,by show hi-(2*root+1)<hi-root;omega⟩
theorem zd1 (hi first:Nat):∀ (n root:Nat) (d:Array UInt8),hi-root<=n->(Go.Sort.siftDown lt8 hi first root d).size=d.size
 | 0,root,d,h=>by rw [ze7 (by omega)]
 | n+1,root,d,h=>by
  by_cases hc:2*root+1<hi
  ·have:=zgv (d:=d) (first:=first) hc;rw [zkt hc]
   split
   ·rfl
   ·rw [zd1 hi first n _ _ (by omega)];exact Go.Sort.size_swp ..
  ·rw [ze7 hc]
theorem zoI (hr:RB w g sp d) (hL:d.size=L) (hab:a<b) (hb:b<=L) (hl:L<=1000000) :
  Calls PG 138 #[.slice (some ⟨g,0,none⟩) L cap,i64 a,i64 b] w fun e w'=>e = .returned (.tuple #[])/\RB w' g sp (Go.Sort.heapSort lt8 d a b)/\w.grownBy w' (some g):=by
 refine zD 56 [.slice (some ⟨g,0,none⟩) L cap,i64 a,i64 b] Tryz.func138 ?_;obtain⟨R,hR⟩:=nm (Go.Sort.heapSort lt8 d a b);rw [<- hR];refine⟨((b-a:Nat):Int),(ze (by first | omega | (dsimp only;omega))).trans (by first | omega | (dsimp only;omega)),((b-a-1:Nat):Int),(ze (by first | omega | (dsimp only;omega))).trans (by first | omega | (dsimp only;omega)),by decide,(((b-a-1)/2:Nat):Int),(Gf _ (show ((b-a-1:Nat):Int).tdiv 2=(((b-a-1)/2:Nat):Int) from rfl)).trans (ze (by omega)),Nat×Array UInt8,fun s=>⟨[(0,.slice (some ⟨g,0,none⟩) L cap),(1,i64 a),(2,i64 b),(6,i64 a),(7,i64 0),(8,i64 (b-a:Nat)),(9,i64 ((s.1:Int)-1))],[]⟩,fun s X=>s.1<=(b-a-1)/2+1/\s.2.size=L/\Go.Sort.heapPop lt8 a (b-a) (Go.Sort.heapBuild lt8 (b-a) a s.1 s.2)=R/\RB X g sp s.2/\w.grownBy X (some g),fun s=>s.1,((b-a-1)/2+1,d),⟨.cons rfl (.cons rfl (.cons rfl (.cons rfl (.cons rfl (.cons rfl (.cons (by dsimp only;rw [show ((((b-a-1)/2+1:Nat):Int)-1)=(((b-a-1)/2:Nat):Int) by omega];rfl) .nil)))))),rfl⟩,⟨US _,hL,hR.symm,hr,zV _ _⟩,?_⟩;rintro⟨k,d1⟩ X ⟨hk,hs1,hR1,hrX,gX⟩;dsimp only at hk hs1 hR1 hrX;refine biE (fun hc=>?_) fun hc=>?_
 ·have hc:(0:Int)<=(k:Int)-1:=dT hc;obtain⟨m,rfl⟩:∃ m,k=m+1:=⟨k-1,by omega⟩;have hm:(((m+1:Nat):Int)-1)=(m:Int):=by omega
  have c1:=zmI (cap:=cap) (lo:=m) (hi:=b-a) (first:=a) hrX hs1 (by omega) hl (by omega);rw [<- hm] at c1;refine cmo c1 ?_;rintro e Y ⟨rfl,qY,gY⟩;exact⟨(m:Int)-1,(ze (by omega)).trans (by omega),(m,Go.Sort.siftDown lt8 (b-a) a m d1),(cvE rfl rfl),⟨by show m<=_;omega,by show (Go.Sort.siftDown ..).size=L;rw [zd1 _ _ _ _ _ (US _)];exact hs1,hR1,qY,zd gX gY⟩,Qy m⟩
 ·have hc:¬ (0:Int)<=(k:Int)-1:=dF hc;obtain rfl:k=0:=by omega
  have hR1:Go.Sort.heapPop lt8 a (b-a) d1=R:=hR1;refine⟨((b-a-1:Nat):Int),(ze (by first | omega | (dsimp only;omega))).trans (by first | omega | (dsimp only;omega)),Nat×Array UInt8,fun s=>⟨[(0,.slice (some ⟨g,0,none⟩) L cap),(1,i64 a),(2,i64 b),(6,i64 a),(7,i64 0),(8,i64 (b-a:Nat)),(10,i64 ((s.1:Int)-1))],[]⟩,fun s Y=>s.1<=b-a/\s.2.size=L/\Go.Sort.heapPop lt8 a s.1 s.2=R/\RB Y g sp s.2/\w.grownBy Y (some g),fun s=>s.1,(b-a,d1),⟨.cons rfl (.cons rfl (.cons rfl (.cons rfl (.cons rfl (.cons rfl (.cons (by dsimp only;rw [show (((b-a:Nat):Int)-1)=((b-a-1:Nat):Int) by omega];rfl) .nil)))))),rfl⟩,⟨US _,hs1,hR1,hrX,gX⟩,?_⟩;rintro⟨k,d2⟩ Y ⟨hk,hs2,hR2,hrY,gY⟩;dsimp only at hk hs2 hR2 hrY;refine biE (fun hc=>?_) fun hc=>?_
  ·have hc:(0:Int)<=(k:Int)-1:=dT hc;obtain⟨m,rfl⟩:∃ m,k=m+1:=⟨k-1,by omega⟩;have hm:(((m+1:Nat):Int)-1)=(m:Int):=by omega
   have hi1:a<d2.size:=by omega
   have hi2:a+m<d2.size:=by omega
   have qd:RB Y.drew g sp d2:=hrY;refine DrawE.ord [17,19] [0,1,2,3,4,5,6,7,8,9,10,11,12,13,14,15,16,17,18,19] (by kernel_rfl) ⟨((a+m:Nat):Int),(ze (by first | omega | (dsimp only;omega))).trans (by first | omega | (dsimp only;omega)),((a+m:Nat):Int),(ze (by first | omega | (dsimp only;omega))).trans (by first | omega | (dsimp only;omega)),a+m,rfl,by omega,?_⟩;refine⟨_,zn qd hi2,a,rfl,by omega,?_⟩;refine⟨_,zn qd hi1,a,rfl,by omega,?_⟩;refine zB k5 rfl qd hi1 d2[a+m]! fun V1 q1 g1=>⟨a+m,rfl,by omega,?_⟩;refine zB k5 rfl q1 (by rw [Array.size_setIfInBounds];exact hi2) d2[a]! fun V2 q2 g2=>?_;have q2:RB V2 g sp (swp d2 (a) (a+m)):=q2;have z2:(swp d2 (a) (a+m)).size=d2.size:=Go.Sort.size_swp d2 (a) (a+m);have c1:=zmI (cap:=cap) (lo:=0) (hi:=m) (first:=a) q2 (by rw [z2];exact hs2) (by omega) hl (by omega);rw [<- hm] at c1;refine cmo c1 ?_;rintro e Z ⟨rfl,qZ,gZ⟩;exact⟨(m:Int)-1,(ze (by omega)).trans (by omega),(m,Go.Sort.siftDown lt8 m a 0 (swp d2 a (a+m))),(cvE rfl rfl),⟨by show m<=_;omega,by show (Go.Sort.siftDown ..).size=L;rw [zd1 _ _ _ _ _ (US _),z2];exact hs2,hR2,qZ,zd gY (zd (zr _ g) (zd g1 (zd g2 gZ)))⟩,Qy m⟩
  ·have hc:¬ (0:Int)<=(k:Int)-1:=dF hc;obtain rfl:k=0:=by omega
   have hR2:d2=R:=hR2;exact⟨rfl,hR2▸hrY,gY⟩
end
theorem zc4 {p:UInt8->Bool} {d:Array UInt8} {i j:Nat} (h:i<=j) (hp:p d[i]! = true):Go.Sort.scanUp p d j i=Go.Sort.scanUp p d j (i+1):=by
 rw [Go.Sort.scanUp,Gk (by rw [Up h,hp];rfl)]
theorem zaV {p:UInt8->Bool} {d:Array UInt8} {i j:Nat} (h:i<=j->p d[i]! = false):Go.Sort.scanUp p d j i=i:=by
 rw [Go.Sort.scanUp];by_cases e:i<=j
 ·rw [Gj (by rw [h e,Uf];exact Ks)]
 ·rw [Gj (by rw [Ue e];exact Ks)]
theorem zbV {p:UInt8->Bool} {d:Array UInt8} {i j:Nat} (h:i<=j+1) (hp:p d[j+1]! = true):Go.Sort.scanDown p d i (j+1)=Go.Sort.scanDown p d i j:=by
 show (if (decide (i<=j+1)&&p d[j+1]!)=true then _ else _)=_;rw [Up h,hp];rfl
theorem j5 {p:UInt8->Bool} {d:Array UInt8} {i:Nat}:∀ {j:Nat},(i<=j->p d[j]! = false)->Go.Sort.scanDown p d i j=j
 | 0,_=>rfl
 | j+1,h=>by
  show (if (decide (i<=j+1)&&p d[j+1]!)=true then _ else _)=_;by_cases e:i<=j+1
  ·rw [h e,Uf];rfl
  ·rw [Ue e];rfl
section
variable {w:Wd} {g cap L a b pivot:Nat} {sp:List Value} {d:Array UInt8}
theorem zpZ (hr:RB w g sp d) (hL:d.size=L) (hap:a<=pivot) (hpb:pivot<b) (hb:b<=L) (hl:L<=1000000) :
  Calls PG 145 #[.slice (some ⟨g,0,none⟩) L cap,i64 a,i64 b,i64 pivot] w fun e w'=>∃ m ap d',Go.Sort.partition lt8 d a b pivot=(m,ap,d')/\e = .returned (.tuple #[i64 (m:Nat),.bool ap])/\RB w' g sp d'/\w.grownBy w' (some g):=by
 refine qP 168 [.slice (some ⟨g,0,none⟩) L cap,i64 a,i64 b,i64 pivot] (.s .p (.s .p (.s .p (.c .p (.c .p (.s .p (.s .p (.s .p (.s .p (.c (.b (.l (.b (.c .p (.c .p .p))))) .p)))))))))) Tryz.func145 ?_;have ha1:a<d.size:=by omega
 have ha2:pivot<d.size:=by omega
 have q0:RB w.drew g sp d:=hr;refine DrawE.ord [13,15] [0,1,2,3,4,5,6,7,8,9,10,11,12,13,14,15] (by kernel_rfl) ⟨pivot,rfl,by omega,?_⟩;refine⟨_,zn q0 ha2,a,rfl,by omega,?_⟩;refine⟨_,zn q0 ha1,a,rfl,by omega,?_⟩;refine zB k5 rfl q0 ha1 d[pivot]! fun V1s q1s g1s=>⟨pivot,rfl,by omega,?_⟩;refine zB k5 rfl q1s (by rw [Array.size_setIfInBounds];exact ha2) d[a]! fun V2s q2s g2s=>?_;have q2s:RB V2s g sp (swp d (a) (pivot)):=q2s;have z2s:(swp d (a) (pivot)).size=d.size:=Go.Sort.size_swp d (a) (pivot);obtain⟨d1,hd1⟩:=nm (swp d a pivot);rw [<- hd1] at q2s z2s;have g0:=zd (zr w g) (zd g1s g2s);have hz1:d1.size=L:=by rw [z2s];exact hL
 refine⟨((a+1:Nat):Int),(ze (by first | omega | (dsimp only;omega))).trans (by first | omega | (dsimp only;omega)),?_⟩;obtain⟨J0,hJ0⟩:=nm (b-1);refine⟨((J0:Nat):Int),(ze (by first | omega | (dsimp only;omega))).trans (by first | omega | (dsimp only;omega)),?_⟩;obtain⟨I0,hI0⟩:=nm (Go.Sort.scanUp (fun x=>lt8 x d1[a]!) d1 J0 (a+1));obtain⟨K0,hK0⟩:=nm (Go.Sort.scanDown (fun x => !lt8 x d1[a]!) d1 I0 J0);have hPE:Go.Sort.partition lt8 d a b pivot=if I0 > K0 then (K0,true,swp d1 K0 a) else ((Go.Sort.partLoop lt8 a (I0+1) (K0-1) (swp d1 I0 K0)).1,false,swp (Go.Sort.partLoop lt8 a (I0+1) (K0-1) (swp d1 I0 K0)).2 (Go.Sort.partLoop lt8 a (I0+1) (K0-1) (swp d1 I0 K0)).1 a):=by rw [hK0,hI0,hJ0,hd1];rfl
 refine⟨Unit,fun _=>⟨[(0,.slice (some ⟨g,0,none⟩) L cap),(1,i64 a),(2,i64 b),(3,i64 pivot),(10,i64 (I0:Nat)),(11,i64 (J0:Nat))],[]⟩,fun _ X=>(a+1<=I0/\I0<=J0+1/\(I0<=J0->lt8 d1[I0]! d1[a]! = false))/\RB X g sp d1/\w.grownBy X (some g),?_,?_⟩
 ·refine⟨Nat,fun u=>⟨[(0,.slice (some ⟨g,0,none⟩) L cap),(1,i64 a),(2,i64 b),(3,i64 pivot),(10,i64 (u:Nat)),(11,i64 (J0:Nat))],[]⟩,fun u X=>a+1<=u/\u<=J0+1/\Go.Sort.scanUp (fun x=>lt8 x d1[a]!) d1 J0 u=I0/\RB X g sp d1/\w.grownBy X (some g),fun u=>J0+1-u,(a+1),(cvE rfl rfl),⟨by omega,by omega,hI0.symm,q2s,g0⟩,?_⟩;rintro u Y ⟨hi,hij,hRs,hrY,gY⟩;have gYd:=zd gY (zr Y g);have qd:RB Y.drew g sp d1:=hrY;refine DrawE.ord [] [0,1,2,3,4,5,6,7,8,9,10,11,12,13] (by kernel_rfl) (biE (fun h2=>?_) fun h2=>?_)
  ·have h2:(u:Int)<=(J0:Int):=dT h2;have h2:u<=J0:=by omega
   have hx1:u<d1.size:=by omega
   have hx2:a<d1.size:=by omega
   refine⟨u,rfl,by omega,?_⟩;refine⟨_,zn qd hx1,a,rfl,by omega,?_⟩;refine⟨_,zn qd hx2,cmo jr ?_⟩;rintro e _ ⟨rfl,rfl⟩;refine⟨UX _ _,biE (fun h3=>?_) fun h3=>?_⟩
   ·have h3:lt8 d1[u]! d1[a]! = true:=h3;rw [zc4 (p:=fun x=>lt8 x d1[a]!) h2 h3] at hRs;exact⟨((u+1:Nat):Int),(ze (by first | omega | (dsimp only;omega))).trans (by first | omega | (dsimp only;omega)),u+1,(cvE rfl rfl),⟨by omega,by omega,hRs,qd,gYd⟩,zdc (by omega)⟩
   ·have h3:lt8 d1[u]! d1[a]! = false:=h3;rw [zaV (p:=fun x=>lt8 x d1[a]!) fun _=>h3] at hRs;subst hRs;exact⟨(),(cvE rfl rfl),⟨hi,hij,fun _=>h3⟩,qd,gYd⟩
  ·have h2:¬ (u:Int)<=(J0:Int):=dF h2;refine Gc (fun h=>by cases h) (fun _=>?_);rw [zaV (p:=fun x=>lt8 x d1[a]!) fun h=>Gl h (by omega)] at hRs;subst hRs;exact⟨(),(cvE rfl rfl),⟨hi,hij,fun h=>Gl h (by omega)⟩,qd,gYd⟩
 rintro _ X ⟨⟨hI1,hI2,hI3⟩,hrX,gX⟩;refine⟨Unit,fun _=>⟨[(0,.slice (some ⟨g,0,none⟩) L cap),(1,i64 a),(2,i64 b),(3,i64 pivot),(10,i64 (I0:Nat)),(11,i64 (K0:Nat))],[]⟩,fun _ X=>(K0<=J0/\I0<=K0+1/\(I0<=K0->(!lt8 d1[K0]! d1[a]!)=false))/\RB X g sp d1/\w.grownBy X (some g),?_,?_⟩
 ·refine⟨Nat,fun k=>⟨[(0,.slice (some ⟨g,0,none⟩) L cap),(1,i64 a),(2,i64 b),(3,i64 pivot),(10,i64 (I0:Nat)),(11,i64 (k:Nat))],[]⟩,fun k X=>k<=J0/\I0<=k+1/\Go.Sort.scanDown (fun x => !lt8 x d1[a]!) d1 I0 k=K0/\RB X g sp d1/\w.grownBy X (some g),fun k=>k,J0,(cvE rfl rfl),⟨US _,by omega,hK0.symm,hrX,gX⟩,?_⟩;rintro k Y ⟨hi,hij,hRs,hrY,gY⟩;have gYd:=zd gY (zr Y g);have qd:RB Y.drew g sp d1:=hrY;refine DrawE.ord [] [0,1,2,3,4,5,6,7,8,9,10,11,12,13,14] (by kernel_rfl) (biE (fun h2=>?_) fun h2=>?_)
  ·have h2:(I0:Int)<=(k:Int):=dT h2;have h2:I0<=k:=by omega
   have hx1:k<d1.size:=by omega
   have hx2:a<d1.size:=by omega
   refine⟨k,rfl,by omega,?_⟩;refine⟨_,zn qd hx1,a,rfl,by omega,?_⟩;refine⟨_,zn qd hx2,cmo jr ?_⟩;rintro e _ ⟨rfl,rfl⟩;refine⟨UX _ _,biE (fun h3=>?_) fun h3=>?_⟩
   ·have h3:(!lt8 d1[k]! d1[a]!)=true:=h3;obtain⟨m,rfl⟩:∃ m,k=m+1:=⟨k-1,by omega⟩;rw [zbV (p:=fun x => !lt8 x d1[a]!) h2 h3] at hRs;exact⟨((m:Nat):Int),(ze (by first | omega | (dsimp only;omega))).trans (by first | omega | (dsimp only;omega)),m,(cvE rfl rfl),⟨by omega,by omega,hRs,qd,gYd⟩,Qy m⟩
   ·have h3:(!lt8 d1[k]! d1[a]!)=false:=h3;rw [j5 (p:=fun x => !lt8 x d1[a]!) fun _=>h3] at hRs;subst hRs;exact⟨(),(cvE rfl rfl),⟨hi,hij,fun _=>h3⟩,qd,gYd⟩
  ·have h2:¬ (I0:Int)<=(k:Int):=dF h2;refine Gc (fun h=>by cases h) (fun _=>?_);rw [j5 (p:=fun x => !lt8 x d1[a]!) fun h=>Gl h (by omega)] at hRs;subst hRs;exact⟨(),(cvE rfl rfl),⟨hi,hij,fun h=>Gl h (by omega)⟩,qd,gYd⟩
 rintro _ Y ⟨⟨hK1,hK2,hK3⟩,hrY,gY⟩;refine biE (fun hc=>?_) fun hc=>?_
 ·have hc:(K0:Int)<(I0:Int):=dT hc;rw [Gk (by omega)] at hPE;have hx1:K0<d1.size:=by omega
  have hx2:a<d1.size:=by omega
  have qd:RB Y.drew g sp d1:=hrY;refine DrawE.ord [13,15] [0,1,2,3,4,5,6,7,8,9,10,11,12,13,14,15] (by kernel_rfl) ⟨a,rfl,by omega,?_⟩;refine⟨_,zn qd hx2,K0,rfl,by omega,?_⟩;refine⟨_,zn qd hx1,K0,rfl,by omega,?_⟩;refine zB k5 rfl qd hx1 d1[a]! fun V1 q1 g1=>⟨a,rfl,by omega,?_⟩;refine zB k5 rfl q1 (by rw [Array.size_setIfInBounds];exact hx2) d1[K0]! fun V2 q2 g2=>?_;have q2:RB V2 g sp (swp d1 (K0) (a)):=q2;have z2:(swp d1 (K0) (a)).size=d1.size:=Go.Sort.size_swp d1 (K0) (a);exact⟨K0,true,_,hPE,rfl,q2,zd gY (zd (zr _ g) (zd g1 g2))⟩
 ·have hc:¬ (K0:Int)<(I0:Int):=dF hc;rw [Gj (by omega)] at hPE;have hne0:I0≠K0:=fun h=>by
   have e1:=hI3 (by omega);have e2:=hK3 (by omega);rw [h] at e1;rw [e1] at e2
   cases e2
  have hx1:I0<d1.size:=by omega
  have hx2:K0<d1.size:=by omega
  have qd:RB Y.drew g sp d1:=hrY;refine DrawE.ord [13,15] [0,1,2,3,4,5,6,7,8,9,10,11,12,13,14,15] (by kernel_rfl) ⟨K0,rfl,by omega,?_⟩;refine⟨_,zn qd hx2,I0,rfl,by omega,?_⟩;refine⟨_,zn qd hx1,I0,rfl,by omega,?_⟩;refine zB k5 rfl qd hx1 d1[K0]! fun V1t q1t g1t=>⟨K0,rfl,by omega,?_⟩;refine zB k5 rfl q1t (by rw [Array.size_setIfInBounds];exact hx2) d1[I0]! fun V2t q2t g2t=>?_;have q2t:RB V2t g sp (swp d1 (I0) (K0)):=q2t;have z2t:(swp d1 (I0) (K0)).size=d1.size:=Go.Sort.size_swp d1 (I0) (K0);refine⟨((I0+1:Nat):Int),(ze (by first | omega | (dsimp only;omega))).trans (by first | omega | (dsimp only;omega)),((K0-1:Nat):Int),(ze (by first | omega | (dsimp only;omega))).trans (by first | omega | (dsimp only;omega)),?_⟩;obtain⟨d2,hd2⟩:=nm (swp d1 I0 K0);rw [<- hd2] at hPE q2t z2t;have gt0:=zd gY (zd (zr _ g) (zd g1t g2t));have hz2:d2.size=L:=by rw [z2t];exact hz1
  obtain⟨R2,hR2⟩:=nm (Go.Sort.partLoop lt8 a (I0+1) (K0-1) d2);refine⟨Unit,fun _=>⟨[(0,.slice (some ⟨g,0,none⟩) L cap),(1,i64 a),(2,i64 b),(3,i64 pivot),(11,i64 (R2.1:Nat))],[]⟩,fun _ X=>(a<=R2.1/\R2.1<b)/\R2.2.size=L/\RB X g sp R2.2/\w.grownBy X (some g),?_,?_⟩
  ·refine⟨Nat×Nat×Array UInt8,fun s=>⟨[(0,.slice (some ⟨g,0,none⟩) L cap),(1,i64 a),(2,i64 b),(3,i64 pivot),(10,i64 (s.1:Nat)),(11,i64 (s.2.1:Nat))],[]⟩,fun s X=>(a+1<=s.1/\s.1<=s.2.1+1/\s.2.1<b)/\s.2.2.size=L/\Go.Sort.partLoop lt8 a s.1 s.2.1 s.2.2=R2/\RB X g sp s.2.2/\w.grownBy X (some g),fun s=>s.2.1+1-s.1,((I0+1),(K0-1),d2),(cvE rfl rfl),⟨⟨by show a+1<=(I0+1);omega,by show (I0+1)<=(K0-1)+1;omega,by show (K0-1)<b;omega⟩,hz2,hR2.symm,q2t,gt0⟩,?_⟩;rintro⟨i,j,e⟩ X ⟨⟨hi,hij,hjb⟩,hze,hR,hrX,gX⟩;dsimp only at hi hij hjb hze hR hrX;rw [Go.Sort.partLoop_eq] at hR;obtain⟨I,hI⟩:=nm (Go.Sort.scanUp (fun x=>lt8 x e[a]!) e j i);rw [<- hI] at hR;obtain⟨J,hJ⟩:=nm (Go.Sort.scanDown (fun x => !lt8 x e[a]!) e I j);rw [<- hJ] at hR;refine⟨Unit,fun _=>⟨[(0,.slice (some ⟨g,0,none⟩) L cap),(1,i64 a),(2,i64 b),(3,i64 pivot),(10,i64 (I:Nat)),(11,i64 (j:Nat))],[]⟩,fun _ X=>(i<=I/\I<=j+1/\(I<=j->lt8 e[I]! e[a]! = false))/\RB X g sp e/\w.grownBy X (some g),?_,?_⟩
   ·refine⟨Nat,fun u=>⟨[(0,.slice (some ⟨g,0,none⟩) L cap),(1,i64 a),(2,i64 b),(3,i64 pivot),(10,i64 (u:Nat)),(11,i64 (j:Nat))],[]⟩,fun u X=>i<=u/\u<=j+1/\Go.Sort.scanUp (fun x=>lt8 x e[a]!) e j u=I/\RB X g sp e/\w.grownBy X (some g),fun u=>j+1-u,i,(cvE rfl rfl),⟨by omega,by omega,hI.symm,hrX,gX⟩,?_⟩;rintro u Y ⟨hi,hij,hRs,hrY,gY⟩;have gYd:=zd gY (zr Y g);have qd:RB Y.drew g sp e:=hrY;refine DrawE.ord [] [0,1,2,3,4,5,6,7,8,9,10,11,12,13] (by kernel_rfl) (biE (fun h2=>?_) fun h2=>?_)
    ·have h2:(u:Int)<=(j:Int):=dT h2;have h2:u<=j:=(by omega);have hx1:u<e.size:=(by omega);have hx2:a<e.size:=(by omega);refine⟨u,rfl,by omega,?_⟩;refine⟨_,zn qd hx1,a,rfl,by omega,?_⟩;refine⟨_,zn qd hx2,cmo jr ?_⟩;rintro e _ ⟨rfl,rfl⟩;refine⟨UX _ _,biE (fun h3=>?_) fun h3=>?_⟩
     ·have h3:lt8 e[u]! e[a]! = true:=h3;rw [zc4 (p:=fun x=>lt8 x e[a]!) h2 h3] at hRs;exact⟨((u+1:Nat):Int),(ze (by first | omega | (dsimp only;omega))).trans (by first | omega | (dsimp only;omega)),u+1,(cvE rfl rfl),⟨by omega,by omega,hRs,qd,gYd⟩,zdc (by omega)⟩
     ·have h3:lt8 e[u]! e[a]! = false:=h3;rw [zaV (p:=fun x=>lt8 x e[a]!) fun _=>h3] at hRs;subst hRs;exact⟨(),(cvE rfl rfl),⟨hi,hij,fun _=>h3⟩,qd,gYd⟩
    ·have h2:¬ (u:Int)<=(j:Int):=dF h2;refine Gc (fun h=>by cases h) (fun _=>?_);rw [zaV (p:=fun x=>lt8 x e[a]!) fun h=>Gl h (by omega)] at hRs;subst hRs;exact⟨(),(cvE rfl rfl),⟨hi,hij,fun h=>Gl h (by omega)⟩,qd,gYd⟩
   rintro _ Y ⟨⟨hI1,hI2,hI3⟩,hrY,gY⟩;refine⟨Unit,fun _=>⟨[(0,.slice (some ⟨g,0,none⟩) L cap),(1,i64 a),(2,i64 b),(3,i64 pivot),(10,i64 (I:Nat)),(11,i64 (J:Nat))],[]⟩,fun _ X=>(J<=j/\I<=J+1/\(I<=J->(!lt8 e[J]! e[a]!)=false))/\RB X g sp e/\w.grownBy X (some g),?_,?_⟩
   ·refine⟨Nat,fun k=>⟨[(0,.slice (some ⟨g,0,none⟩) L cap),(1,i64 a),(2,i64 b),(3,i64 pivot),(10,i64 (I:Nat)),(11,i64 (k:Nat))],[]⟩,fun k X=>k<=j/\I<=k+1/\Go.Sort.scanDown (fun x => !lt8 x e[a]!) e I k=J/\RB X g sp e/\w.grownBy X (some g),fun k=>k,j,(cvE rfl rfl),⟨US _,by omega,hJ.symm,hrY,gY⟩,?_⟩;rintro k Y ⟨hi,hij,hRs,hrY,gY⟩;have gYd:=zd gY (zr Y g);have qd:RB Y.drew g sp e:=hrY;refine DrawE.ord [] [0,1,2,3,4,5,6,7,8,9,10,11,12,13,14] (by kernel_rfl) (biE (fun h2=>?_) fun h2=>?_)
    ·have h2:(I:Int)<=(k:Int):=dT h2;have h2:I<=k:=(by omega);have hx1:k<e.size:=(by omega);have hx2:a<e.size:=(by omega);refine⟨k,rfl,by omega,?_⟩;refine⟨_,zn qd hx1,a,rfl,by omega,?_⟩;refine⟨_,zn qd hx2,cmo jr ?_⟩;rintro e _ ⟨rfl,rfl⟩;refine⟨UX _ _,biE (fun h3=>?_) fun h3=>?_⟩
     ·have h3:(!lt8 e[k]! e[a]!)=true:=h3;obtain⟨m,rfl⟩:∃ m,k=m+1:=⟨k-1,by omega⟩;rw [zbV (p:=fun x => !lt8 x e[a]!) h2 h3] at hRs;exact⟨((m:Nat):Int),(ze (by first | omega | (dsimp only;omega))).trans (by first | omega | (dsimp only;omega)),m,(cvE rfl rfl),⟨by omega,by omega,hRs,qd,gYd⟩,Qy m⟩
     ·have h3:(!lt8 e[k]! e[a]!)=false:=h3;rw [j5 (p:=fun x => !lt8 x e[a]!) fun _=>h3] at hRs;subst hRs;exact⟨(),(cvE rfl rfl),⟨hi,hij,fun _=>h3⟩,qd,gYd⟩
    ·have h2:¬ (I:Int)<=(k:Int):=dF h2;refine Gc (fun h=>by cases h) (fun _=>?_);rw [j5 (p:=fun x => !lt8 x e[a]!) fun h=>Gl h (by omega)] at hRs;subst hRs;exact⟨(),(cvE rfl rfl),⟨hi,hij,fun h=>Gl h (by omega)⟩,qd,gYd⟩
   rintro _ Z ⟨⟨hJ1,hJ2,hJ3⟩,hrZ,gZ⟩;refine biE (fun hc=>?_) fun hc=>?_
   ·have hc:(J:Int)<(I:Int):=dT hc;rw [Gk (by omega)] at hR;subst hR;exact⟨(),(cvE rfl rfl),⟨by show a<=J;omega,by show J<b;omega⟩,hze,hrZ,gZ⟩
   ·have hc:¬ (J:Int)<(I:Int):=dF hc;rw [Gj (by omega)] at hR;have hne:I≠J:=fun h=>by
     have e1:=hI3 (by omega);have e2:=hJ3 (by omega);rw [h] at e1;rw [e1] at e2
     cases e2
    have hx1:I<e.size:=(by omega);have hx2:J<e.size:=(by omega);have qe:RB Z.drew g sp e:=hrZ;refine DrawE.ord [13,15] [0,1,2,3,4,5,6,7,8,9,10,11,12,13,14,15] (by kernel_rfl) ⟨J,rfl,by omega,?_⟩;refine⟨_,zn qe hx2,I,rfl,by omega,?_⟩;refine⟨_,zn qe hx1,I,rfl,by omega,?_⟩;refine zB k5 rfl qe hx1 e[J]! fun V1 q1 g1=>⟨J,rfl,by omega,?_⟩;refine zB k5 rfl q1 (by rw [Array.size_setIfInBounds];exact hx2) e[I]! fun V2 q2 g2=>?_;have q2:RB V2 g sp (swp e (I) (J)):=q2;have z2:(swp e (I) (J)).size=e.size:=Go.Sort.size_swp e (I) (J);exact⟨((I+1:Nat):Int),(ze (by first | omega | (dsimp only;omega))).trans (by first | omega | (dsimp only;omega)),((J-1:Nat):Int),(ze (by first | omega | (dsimp only;omega))).trans (by first | omega | (dsimp only;omega)),(I+1,J-1,swp e I J),(cvE rfl rfl),⟨⟨by show a+1<=I+1;omega,by show I+1<=J-1+1;omega,by show J-1<b;omega⟩,by show (swp e I J).size=L;rw [z2];exact hze,hR,q2,zd gZ (zd (zr _ g) (zd g1 g2))⟩,by show J-1+1-(I+1)<j+1-i;omega⟩
  rintro _ X2 ⟨⟨hm1,hm2⟩,hzR,hrX2,gX2⟩;rw [<- hR2] at hPE;have hy1:R2.1<R2.2.size:=by omega
  have hy2:a<R2.2.size:=by omega
  have qf:RB X2.drew g sp R2.2:=hrX2;refine DrawE.ord [13,15] [0,1,2,3,4,5,6,7,8,9,10,11,12,13,14,15] (by kernel_rfl) ⟨a,rfl,by omega,?_⟩;refine⟨_,zn qf hy2,R2.1,rfl,by omega,?_⟩;refine⟨_,zn qf hy1,R2.1,rfl,by omega,?_⟩;refine zB k5 rfl qf hy1 R2.2[a]! fun V1u q1u g1u=>⟨a,rfl,by omega,?_⟩;refine zB k5 rfl q1u (by rw [Array.size_setIfInBounds];exact hy2) R2.2[R2.1]! fun V2u q2u g2u=>?_;have q2u:RB V2u g sp (swp R2.2 (R2.1) (a)):=q2u;have z2u:(swp R2.2 (R2.1) (a)).size=R2.2.size:=Go.Sort.size_swp R2.2 (R2.1) (a);exact⟨R2.1,false,_,hPE,rfl,q2u,zd gX2 (zd (zr _ g) (zd g1u g2u))⟩
theorem zm1 (hr:RB w g sp d) (hL:d.size=L) (hap:a<=pivot) (hpb:pivot<b) (hb:b<=L) (hl:L<=1000000) :
  Calls PG 144 #[.slice (some ⟨g,0,none⟩) L cap,i64 a,i64 b,i64 pivot] w fun e w'=>∃ m d',Go.Sort.partitionEqual lt8 d a b pivot=(m,d')/\e = .returned (i64 (m:Nat))/\RB w' g sp d'/\w.grownBy w' (some g):=by
 refine qP 84 [.slice (some ⟨g,0,none⟩) L cap,i64 a,i64 b,i64 pivot] (.s .p (.s .p (.s .p (.c (.b (.l (.b (.c .p (.c .p .p))))) .p)))) Tryz.func144 ?_;have ha1:a<d.size:=by omega
 have ha2:pivot<d.size:=by omega
 have q0:RB w.drew g sp d:=hr;refine DrawE.ord [13,15] [0,1,2,3,4,5,6,7,8,9,10,11,12,13,14,15] (by kernel_rfl) ⟨pivot,rfl,by omega,?_⟩;refine⟨_,zn q0 ha2,a,rfl,by omega,?_⟩;refine⟨_,zn q0 ha1,a,rfl,by omega,?_⟩;refine zB k5 rfl q0 ha1 d[pivot]! fun V1s q1s g1s=>⟨pivot,rfl,by omega,?_⟩;refine zB k5 rfl q1s (by rw [Array.size_setIfInBounds];exact ha2) d[a]! fun V2s q2s g2s=>?_;have q2s:RB V2s g sp (swp d (a) (pivot)):=q2s;have z2s:(swp d (a) (pivot)).size=d.size:=Go.Sort.size_swp d (a) (pivot);obtain⟨d1,hd1⟩:=nm (swp d a pivot);rw [<- hd1] at q2s z2s;have g0:=zd (zr w g) (zd g1s g2s);have hz1:d1.size=L:=by rw [z2s];exact hL
 refine⟨((a+1:Nat):Int),(ze (by first | omega | (dsimp only;omega))).trans (by first | omega | (dsimp only;omega)),?_⟩;obtain⟨J0,hJ0⟩:=nm (b-1);refine⟨((J0:Nat):Int),(ze (by first | omega | (dsimp only;omega))).trans (by first | omega | (dsimp only;omega)),?_⟩;have hPE:Go.Sort.partitionEqual lt8 d a b pivot=Go.Sort.partEqLoop lt8 a (a+1) J0 d1:=by rw [hJ0,hd1];rfl
 obtain⟨R2,hR2⟩:=nm (Go.Sort.partEqLoop lt8 a (a+1) J0 d1);refine⟨Unit,fun _=>⟨[(0,.slice (some ⟨g,0,none⟩) L cap),(1,i64 a),(2,i64 b),(3,i64 pivot),(9,i64 (R2.1:Nat))],[]⟩,fun _ X=>(a<=R2.1/\R2.1<=b)/\R2.2.size=L/\RB X g sp R2.2/\w.grownBy X (some g),?_,?_⟩
 ·refine⟨Nat×Nat×Array UInt8,fun s=>⟨[(0,.slice (some ⟨g,0,none⟩) L cap),(1,i64 a),(2,i64 b),(3,i64 pivot),(9,i64 (s.1:Nat)),(10,i64 (s.2.1:Nat))],[]⟩,fun s X=>(a+1<=s.1/\s.1<=s.2.1+1/\s.2.1<b)/\s.2.2.size=L/\Go.Sort.partEqLoop lt8 a s.1 s.2.1 s.2.2=R2/\RB X g sp s.2.2/\w.grownBy X (some g),fun s=>s.2.1+1-s.1,((a+1),J0,d1),(cvE rfl rfl),⟨⟨by show a+1<=(a+1);omega,by show (a+1)<=J0+1;omega,by show J0<b;omega⟩,hz1,hR2.symm,q2s,g0⟩,?_⟩;rintro⟨i,j,e⟩ X ⟨⟨hi,hij,hjb⟩,hze,hR,hrX,gX⟩;dsimp only at hi hij hjb hze hR hrX;rw [Go.Sort.partEqLoop_eq] at hR;obtain⟨I,hI⟩:=nm (Go.Sort.scanUp (fun x => !lt8 e[a]! x) e j i);rw [<- hI] at hR;obtain⟨J,hJ⟩:=nm (Go.Sort.scanDown (fun x=>lt8 e[a]! x) e I j);rw [<- hJ] at hR;refine⟨Unit,fun _=>⟨[(0,.slice (some ⟨g,0,none⟩) L cap),(1,i64 a),(2,i64 b),(3,i64 pivot),(9,i64 (I:Nat)),(10,i64 (j:Nat))],[]⟩,fun _ X=>(i<=I/\I<=j+1/\(I<=j->(!lt8 e[a]! e[I]!)=false))/\RB X g sp e/\w.grownBy X (some g),?_,?_⟩
  ·refine⟨Nat,fun u=>⟨[(0,.slice (some ⟨g,0,none⟩) L cap),(1,i64 a),(2,i64 b),(3,i64 pivot),(9,i64 (u:Nat)),(10,i64 (j:Nat))],[]⟩,fun u X=>i<=u/\u<=j+1/\Go.Sort.scanUp (fun x => !lt8 e[a]! x) e j u=I/\RB X g sp e/\w.grownBy X (some g),fun u=>j+1-u,i,(cvE rfl rfl),⟨by omega,by omega,hI.symm,hrX,gX⟩,?_⟩;rintro u Y ⟨hi,hij,hRs,hrY,gY⟩;have gYd:=zd gY (zr Y g);have qd:RB Y.drew g sp e:=hrY;refine DrawE.ord [] [0,1,2,3,4,5,6,7,8,9,10,11,12,13,14] (by kernel_rfl) (biE (fun h2=>?_) fun h2=>?_)
   ·have h2:(u:Int)<=(j:Int):=dT h2;have h2:u<=j:=(by omega);have hx1:u<e.size:=(by omega);have hx2:a<e.size:=(by omega);refine⟨a,rfl,by omega,?_⟩;refine⟨_,zn qd hx2,u,rfl,by omega,?_⟩;refine⟨_,zn qd hx1,cmo jr ?_⟩;rintro e _ ⟨rfl,rfl⟩;refine⟨UX _ _,biE (fun h3=>?_) fun h3=>?_⟩
    ·have h3:(!lt8 e[a]! e[u]!)=true:=h3;rw [zc4 (p:=fun x => !lt8 e[a]! x) h2 h3] at hRs;exact⟨((u+1:Nat):Int),(ze (by first | omega | (dsimp only;omega))).trans (by first | omega | (dsimp only;omega)),u+1,(cvE rfl rfl),⟨by omega,by omega,hRs,qd,gYd⟩,zdc (by omega)⟩
    ·have h3:(!lt8 e[a]! e[u]!)=false:=h3;rw [zaV (p:=fun x => !lt8 e[a]! x) fun _=>h3] at hRs;subst hRs;exact⟨(),(cvE rfl rfl),⟨hi,hij,fun _=>h3⟩,qd,gYd⟩
   ·have h2:¬ (u:Int)<=(j:Int):=dF h2;refine Gc (fun h=>by cases h) (fun _=>?_);rw [zaV (p:=fun x => !lt8 e[a]! x) fun h=>Gl h (by omega)] at hRs;subst hRs;exact⟨(),(cvE rfl rfl),⟨hi,hij,fun h=>Gl h (by omega)⟩,qd,gYd⟩
  rintro _ Y ⟨⟨hI1,hI2,hI3⟩,hrY,gY⟩;refine⟨Unit,fun _=>⟨[(0,.slice (some ⟨g,0,none⟩) L cap),(1,i64 a),(2,i64 b),(3,i64 pivot),(9,i64 (I:Nat)),(10,i64 (J:Nat))],[]⟩,fun _ X=>(J<=j/\I<=J+1/\(I<=J->lt8 e[a]! e[J]! = false))/\RB X g sp e/\w.grownBy X (some g),?_,?_⟩
  ·refine⟨Nat,fun k=>⟨[(0,.slice (some ⟨g,0,none⟩) L cap),(1,i64 a),(2,i64 b),(3,i64 pivot),(9,i64 (I:Nat)),(10,i64 (k:Nat))],[]⟩,fun k X=>k<=j/\I<=k+1/\Go.Sort.scanDown (fun x=>lt8 e[a]! x) e I k=J/\RB X g sp e/\w.grownBy X (some g),fun k=>k,j,(cvE rfl rfl),⟨US _,by omega,hJ.symm,hrY,gY⟩,?_⟩;rintro k Y ⟨hi,hij,hRs,hrY,gY⟩;have gYd:=zd gY (zr Y g);have qd:RB Y.drew g sp e:=hrY;refine DrawE.ord [] [0,1,2,3,4,5,6,7,8,9,10,11,12,13] (by kernel_rfl) (biE (fun h2=>?_) fun h2=>?_)
   ·have h2:(I:Int)<=(k:Int):=dT h2;have h2:I<=k:=(by omega);have hx1:k<e.size:=(by omega);have hx2:a<e.size:=(by omega);refine⟨a,rfl,by omega,?_⟩;refine⟨_,zn qd hx2,k,rfl,by omega,?_⟩;refine⟨_,zn qd hx1,cmo jr ?_⟩;rintro e _ ⟨rfl,rfl⟩;refine⟨UX _ _,biE (fun h3=>?_) fun h3=>?_⟩
    ·have h3:lt8 e[a]! e[k]! = true:=h3;obtain⟨m,rfl⟩:∃ m,k=m+1:=⟨k-1,by omega⟩;rw [zbV (p:=fun x=>lt8 e[a]! x) h2 h3] at hRs;exact⟨((m:Nat):Int),(ze (by first | omega | (dsimp only;omega))).trans (by first | omega | (dsimp only;omega)),m,(cvE rfl rfl),⟨by omega,by omega,hRs,qd,gYd⟩,Qy m⟩
    ·have h3:lt8 e[a]! e[k]! = false:=h3;rw [j5 (p:=fun x=>lt8 e[a]! x) fun _=>h3] at hRs;subst hRs;exact⟨(),(cvE rfl rfl),⟨hi,hij,fun _=>h3⟩,qd,gYd⟩
   ·have h2:¬ (I:Int)<=(k:Int):=dF h2;refine Gc (fun h=>by cases h) (fun _=>?_);rw [j5 (p:=fun x=>lt8 e[a]! x) fun h=>Gl h (by omega)] at hRs;subst hRs;exact⟨(),(cvE rfl rfl),⟨hi,hij,fun h=>Gl h (by omega)⟩,qd,gYd⟩
  rintro _ Z ⟨⟨hJ1,hJ2,hJ3⟩,hrZ,gZ⟩;refine biE (fun hc=>?_) fun hc=>?_
  ·have hc:(J:Int)<(I:Int):=dT hc;rw [Gk (by omega)] at hR;subst hR;exact⟨(),(cvE rfl rfl),⟨by show a<=I;omega,by show I<=b;omega⟩,hze,hrZ,gZ⟩
  ·have hc:¬ (J:Int)<(I:Int):=dF hc;rw [Gj (by omega)] at hR;have hne:I≠J:=fun h=>by
    have e1:=hI3 (by omega);have e2:=hJ3 (by omega);rw [h] at e1;rw [e2] at e1
    cases e1
   have hx1:I<e.size:=by omega
   have hx2:J<e.size:=by omega
   have qe:RB Z.drew g sp e:=hrZ;refine DrawE.ord [13,15] [0,1,2,3,4,5,6,7,8,9,10,11,12,13,14,15] (by kernel_rfl) ⟨J,rfl,by omega,?_⟩;refine⟨_,zn qe hx2,I,rfl,by omega,?_⟩;refine⟨_,zn qe hx1,I,rfl,by omega,?_⟩;refine zB k5 rfl qe hx1 e[J]! fun V1 q1 g1=>⟨J,rfl,by omega,?_⟩;refine zB k5 rfl q1 (by rw [Array.size_setIfInBounds];exact hx2) e[I]! fun V2 q2 g2=>?_;have q2:RB V2 g sp (swp e (I) (J)):=q2;have z2:(swp e (I) (J)).size=e.size:=Go.Sort.size_swp e (I) (J);exact⟨((I+1:Nat):Int),(ze (by first | omega | (dsimp only;omega))).trans (by first | omega | (dsimp only;omega)),((J-1:Nat):Int),(ze (by first | omega | (dsimp only;omega))).trans (by first | omega | (dsimp only;omega)),(I+1,J-1,swp e I J),(cvE rfl rfl),⟨⟨by show a+1<=I+1;omega,by show I+1<=J-1+1;omega,by show J-1<b;omega⟩,by show (swp e I J).size=L;rw [z2];exact hze,hR,q2,zd gZ (zd (zr _ g) (zd g1 g2))⟩,by show J-1+1-(I+1)<j+1-i;omega⟩
 rintro _ X ⟨⟨hm1,hm2⟩,hzR,hrX,gX⟩;exact⟨R2.1,R2.2,hPE.trans hR2.symm,rfl,hrX,gX⟩
end
theorem zlz {d:Array UInt8} {b i:Nat} (h:i<b) (hp:lt8 d[i]! d[i-1]! = false):Go.Sort.scanSorted lt8 d b i=Go.Sort.scanSorted lt8 d b (i+1):=by
 rw [Go.Sort.scanSorted,Gk (by rw [Up h,hp];rfl)]
theorem zid {d:Array UInt8} {b i:Nat} (h:i<b->lt8 d[i]! d[i-1]! = true):Go.Sort.scanSorted lt8 d b i=i:=by
 rw [Go.Sort.scanSorted];by_cases e:i<b
 ·rw [Gj (by rw [h e,Ut,Uf];exact Ks)]
 ·rw [Gj (by rw [Ue e];exact Ks)]
section
variable {w:Wd} {g cap L a b:Nat} {sp:List Value} {d:Array UInt8}
theorem zpR (hr:RB w g sp d) (hL:d.size=L) (hab:a<b) (hb:b<=L) (hl:L<=1000000) :
  Calls PG 141 #[.slice (some ⟨g,0,none⟩) L cap,i64 a,i64 b] w fun e w'=>e = .returned (.tuple #[])/\RB w' g sp (Go.Sort.reverseRange d a b)/\w.grownBy w' (some g):=by
 refine zD 32 [.slice (some ⟨g,0,none⟩) L cap,i64 a,i64 b] Tryz.func141 ?_;obtain⟨R,hR⟩:=nm (Go.Sort.reverseRange d a b);rw [<- hR];refine⟨((b-1:Nat):Int),(ze (by first | omega | (dsimp only;omega))).trans (by first | omega | (dsimp only;omega)),Nat×Nat×Array UInt8,fun s=>⟨[(0,.slice (some ⟨g,0,none⟩) L cap),(1,i64 a),(2,i64 b),(6,i64 (s.1:Nat)),(7,i64 (s.2.1:Nat))],[]⟩,fun s X=>s.2.1<b/\s.2.2.size=L/\Go.Sort.reverseLoop s.1 s.2.1 s.2.2=R/\RB X g sp s.2.2/\w.grownBy X (some g),fun s=>s.2.1-s.1,(a,b-1,d),(cvE rfl rfl),⟨by show b-1<b;omega,hL,hR.symm,hr,zV _ _⟩,?_⟩;rintro⟨i,j,e⟩ X ⟨hj,hze,hR1,hrX,gX⟩;dsimp only at hj hze hR1 hrX;rw [Go.Sort.reverseLoop] at hR1;refine biE (fun hc=>?_) fun hc=>?_
 ·have hc:(i:Int)<(j:Int):=dT hc;rw [Gk (by omega)] at hR1;have hx1:i<e.size:=by omega
  have hx2:j<e.size:=by omega
  have qd:RB X.drew g sp e:=hrX;refine DrawE.ord [13,15] [0,1,2,3,4,5,6,7,8,9,10,11,12,13,14,15] (by kernel_rfl) ⟨j,rfl,by omega,?_⟩;refine⟨_,zn qd hx2,i,rfl,by omega,?_⟩;refine⟨_,zn qd hx1,i,rfl,by omega,?_⟩;refine zB k5 rfl qd hx1 e[j]! fun V1 q1 g1=>⟨j,rfl,by omega,?_⟩;refine zB k5 rfl q1 (by rw [Array.size_setIfInBounds];exact hx2) e[i]! fun V2 q2 g2=>?_;have q2:RB V2 g sp (swp e (i) (j)):=q2;have z2:(swp e (i) (j)).size=e.size:=Go.Sort.size_swp e (i) (j);exact⟨((i+1:Nat):Int),(ze (by first | omega | (dsimp only;omega))).trans (by first | omega | (dsimp only;omega)),((j-1:Nat):Int),(ze (by first | omega | (dsimp only;omega))).trans (by first | omega | (dsimp only;omega)),(i+1,j-1,swp e i j),(cvE rfl rfl),⟨by show j-1<b;omega,by show (swp e i j).size=L;rw [z2];exact hze,hR1,q2,zd gX (zd (zr _ g) (zd g1 g2))⟩,by show j-1-(i+1)<j-i;omega⟩
 ·have hc:¬ (i:Int)<(j:Int):=dF hc;rw [Gj (by omega)] at hR1;exact⟨rfl,hR1▸hrX,gX⟩
theorem zlL (hr:RB w g sp d) (hL:d.size=L) (hab:a<b) (hb:b<=L) (hl:L<=1000000) :
  Calls PG 142 #[.slice (some ⟨g,0,none⟩) L cap,i64 a,i64 b] w fun e w'=>∃ d' ok,Go.Sort.partialInsertionSort lt8 d a b=(d',ok)/\e = .returned (.bool ok)/\RB w' g sp d'/\w.grownBy w' (some g):=by
 refine qP 133 [.slice (some ⟨g,0,none⟩) L cap,i64 a,i64 b] (.s .p (.s .p (.s (.s .p (.b (.l (.s .p (.c (.b (.c .p (.s .p (.s .p (.s .p (.c .p .p)))))) .p))))) .p))) Tryz.func142 ?_;obtain⟨R,hR⟩:=nm (Go.Sort.partialInsertionSort lt8 d a b);have fin:∀ Z d' ok,(d',ok)=R->RB Z g sp d'->w.grownBy Z (some g)->∃ d'' ok',Go.Sort.partialInsertionSort lt8 d a b=(d'',ok')/\Ending.returned (.bool ok) = .returned (.bool ok')/\RB Z g sp d''/\w.grownBy Z (some g):=fun Z d' ok e q gz=>⟨d',ok,by rw [<- hR,<- e],rfl,q,gz⟩;refine⟨((a+1:Nat):Int),(ze (by first | omega | (dsimp only;omega))).trans (by first | omega | (dsimp only;omega)),Nat×Nat×Array UInt8,fun s=>⟨[(0,.slice (some ⟨g,0,none⟩) L cap),(1,i64 a),(2,i64 b),(7,i64 (s.2.1:Nat)),(8,i64 (s.1:Nat))],[]⟩,fun s X=>(s.1<=5/\a+1<=s.2.1/\s.2.1<=b)/\s.2.2.size=L/\Go.Sort.partialIns lt8 a b (5-s.1) s.2.1 s.2.2=R/\RB X g sp s.2.2/\w.grownBy X (some g),fun s=>5-s.1,(0,a+1,d),(cvE rfl rfl),⟨⟨by show 0<=5;decide,US _,by show a+1<=b;omega⟩,hL,hR.symm,hr,zV _ _⟩,?_⟩;rintro⟨n,i,e⟩ X ⟨⟨hn,hi,hib⟩,hze,hR1,hrX,gX⟩;dsimp only at hn hi hib hze hR1 hrX;refine biE (fun hc=>?_) fun hc=>?_
 ·have hc:(n:Int)<5:=dT hc;have hn5:5-n=(5-(n+1))+1:=by omega
  rw [hn5] at hR1;obtain⟨I,hI⟩:=nm (Go.Sort.scanSorted lt8 e b i);have hR1:(if I=b then (e,true) else if b-a<50 then (e,false) else Go.Sort.partialIns lt8 a b (5-(n+1)) I (if b-I ≥ 2 then Go.Sort.shiftUp lt8 b (I+1) (if I-a ≥ 2 then Go.Sort.shiftDown lt8 (I-1) (swp e I (I-1)) else swp e I (I-1)) else (if I-a ≥ 2 then Go.Sort.shiftDown lt8 (I-1) (swp e I (I-1)) else swp e I (I-1))))=R:=by rw [hI];exact hR1
  obtain⟨D1,hD1⟩:=nm (swp e I (I-1));obtain⟨D2,hD2⟩:=nm ((if I-a ≥ 2 then Go.Sort.shiftDown lt8 (I-1) D1 else D1));obtain⟨D3,hD3⟩:=nm ((if b-I ≥ 2 then Go.Sort.shiftUp lt8 b (I+1) D2 else D2));rw [<- hD1,<- hD2,<- hD3] at hR1;refine⟨Unit,fun _=>⟨[(0,.slice (some ⟨g,0,none⟩) L cap),(1,i64 a),(2,i64 b),(7,i64 (I:Nat)),(8,i64 (n:Nat))],[]⟩,fun _ Y=>(a+1<=I/\I<=b)/\D3.size=L/\Go.Sort.partialIns lt8 a b (5-(n+1)) I D3=R/\RB Y g sp D3/\w.grownBy Y (some g),?_,?_⟩
  ·refine⟨Unit,fun _=>⟨[(0,.slice (some ⟨g,0,none⟩) L cap),(1,i64 a),(2,i64 b),(7,i64 (I:Nat)),(8,i64 (n:Nat))],[]⟩,fun _ Y=>(a+1<=I/\I<=b)/\RB Y g sp e/\w.grownBy Y (some g),?_,?_⟩
   ·refine⟨Nat,fun k=>⟨[(0,.slice (some ⟨g,0,none⟩) L cap),(1,i64 a),(2,i64 b),(7,i64 (k:Nat)),(8,i64 (n:Nat))],[]⟩,fun k Y=>(a+1<=k/\k<=b)/\Go.Sort.scanSorted lt8 e b k=I/\RB Y g sp e/\w.grownBy Y (some g),fun k=>b-k,i,(cvE rfl rfl),⟨⟨hi,hib⟩,hI.symm,hrX,gX⟩,?_⟩;rintro k Y ⟨⟨hk1,hk2⟩,hRs,hrY,gY⟩;have gYd:=zd gY (zr Y g);have qd:RB Y.drew g sp e:=hrY;refine DrawE.ord [] [0,1,2,3,4,5,6,7,8,9,10,11,12,13,14,15] (by kernel_rfl) (biE (fun h2=>?_) fun h2=>?_)
    ·have h2:(k:Int)<(b:Int):=dT h2;have h2:k<b:=(by omega);have hx1:k<e.size:=(by omega);have hx2:k-1<e.size:=(by omega);refine⟨k,rfl,by omega,?_⟩;refine⟨_,zn qd hx1,((k-1:Nat):Int),(ze (by first | omega | (dsimp only;omega))).trans (by first | omega | (dsimp only;omega)),k-1,rfl,by omega,?_⟩;refine⟨_,zn qd hx2,cmo jr ?_⟩;rintro e _ ⟨rfl,rfl⟩;refine⟨UX _ _,biE (fun h3=>?_) fun h3=>?_⟩
     ·have h3:(!lt8 e[k]! e[k-1]!)=true:=h3;have h3:lt8 e[k]! e[k-1]! = false:=(by simpa using h3);rw [zlz h2 h3] at hRs;exact⟨((k+1:Nat):Int),(ze (by first | omega | (dsimp only;omega))).trans (by first | omega | (dsimp only;omega)),k+1,(cvE rfl rfl),⟨⟨by omega,by omega⟩,hRs,qd,gYd⟩,zdc (by omega)⟩
     ·have h3:(!lt8 e[k]! e[k-1]!)=false:=h3;have h3:lt8 e[k]! e[k-1]! = true:=(by simpa using h3);rw [zid fun _=>h3] at hRs;subst hRs;exact⟨(),(cvE rfl rfl),⟨hk1,hk2⟩,qd,gYd⟩
    ·have h2:¬ (k:Int)<(b:Int):=dF h2;refine Gc (fun h=>by cases h) (fun _=>?_);rw [zid fun h=>Gl h (by omega)] at hRs;subst hRs;exact⟨(),(cvE rfl rfl),⟨hk1,hk2⟩,qd,gYd⟩
   rintro _ Y ⟨⟨hI1,hI2⟩,hrY,gY⟩;refine biE (fun h=>?_) fun h=>?_
   ·have h:(I:Int)=(b:Int):=dT h;rw [Gk (by omega)] at hR1;exact fin _ _ _ hR1 hrY gY
   ·have h:¬ (I:Int)=(b:Int):=dF h;have hIb:I<b:=(by omega);rw [Gj (by omega)] at hR1;refine⟨((b-a:Nat):Int),(ze (by first | omega | (dsimp only;omega))).trans (by first | omega | (dsimp only;omega)),biE (fun h5=>?_) fun h5=>?_⟩
    ·have h5:((b-a:Nat):Int)<50:=dT h5;rw [Gk (by omega)] at hR1;exact fin _ _ _ hR1 hrY gY
    ·have h5:¬ ((b-a:Nat):Int)<50:=dF h5;rw [Gj (by omega)] at hR1;have hx1:I<e.size:=(by omega);have hx2:I-1<e.size:=(by omega);have qd:RB Y.drew g sp e:=hrY;refine DrawE.ord [15,17] [0,1,2,3,4,5,6,7,8,9,10,11,12,13,14,15,16,17] (by kernel_rfl) ⟨((I-1:Nat):Int),(ze (by first | omega | (dsimp only;omega))).trans (by first | omega | (dsimp only;omega)),((I-1:Nat):Int),(ze (by first | omega | (dsimp only;omega))).trans (by first | omega | (dsimp only;omega)),I-1,rfl,by omega,?_⟩;refine⟨_,zn qd hx2,I,rfl,by omega,?_⟩;refine⟨_,zn qd hx1,I,rfl,by omega,?_⟩;refine zB k5 rfl qd hx1 e[I-1]! fun V1s q1s g1s=>⟨I-1,rfl,by omega,?_⟩;refine zB k5 rfl q1s (by rw [Array.size_setIfInBounds];exact hx2) e[I]! fun V2s q2s g2s=>?_;have q2s:RB V2s g sp (swp e (I) (I-1)):=q2s;have z2s:(swp e (I) (I-1)).size=e.size:=Go.Sort.size_swp e (I) (I-1);rw [<- hD1] at q2s z2s;have gs:=zd gY (zd (zr _ g) (zd g1s g2s));have hz1:D1.size=L:=(by rw [z2s];exact hze);refine⟨Unit,fun _=>⟨[(0,.slice (some ⟨g,0,none⟩) L cap),(1,i64 a),(2,i64 b),(7,i64 (I:Nat)),(8,i64 (n:Nat))],[]⟩,fun _ Z=>D2.size=L/\RB Z g sp D2/\w.grownBy Z (some g),?_,?_⟩
     ·refine⟨((I-a:Nat):Int),(ze (by first | omega | (dsimp only;omega))).trans (by first | omega | (dsimp only;omega)),biE (fun h6=>?_) fun h6=>?_⟩
      ·have h6:(2:Int)<=((I-a:Nat):Int):=dT h6;rw [Gk (by omega)] at hD2;refine⟨((I-1:Nat):Int),(ze (by first | omega | (dsimp only;omega))).trans (by first | omega | (dsimp only;omega)),Nat×Array UInt8,fun s=>⟨[(0,.slice (some ⟨g,0,none⟩) L cap),(1,i64 a),(2,i64 b),(7,i64 (I:Nat)),(8,i64 (n:Nat)),(9,i64 (s.1:Nat))],[]⟩,fun s V=>(s.1<=I-1)/\s.2.size=L/\Go.Sort.shiftDown lt8 s.1 s.2=D2/\RB V g sp s.2/\w.grownBy V (some g),fun s=>s.1,(I-1,D1),(cvE rfl rfl),⟨US _,hz1,hD2.symm,q2s,gs⟩,?_⟩;rintro⟨k,f⟩ V ⟨hk,hzf,hRf,hrV,gV⟩;dsimp only at hk hzf hRf hrV;refine biE (fun h7=>?_) fun h7=>?_
       ·have h7:(1:Int)<=(k:Int):=dT h7;obtain⟨m,rfl⟩:∃ m,k=m+1:=⟨k-1,by omega⟩;have hRf:(if (!lt8 f[m+1]! f[m]!)=true then f else Go.Sort.shiftDown lt8 m (swp f (m+1) m))=D2:=hRf;have hx3:m+1<f.size:=(by omega);have hx4:m<f.size:=(by omega);have qv:RB V.drew g sp f:=hrV;have gVd:=zd gV (zr V g);refine DrawE.ord [] [0,1,2,3,4,5,6,7,8,9,10] (by kernel_rfl) ⟨m+1,rfl,by omega,?_⟩;refine⟨_,zn qv hx3,((m:Nat):Int),(ze (by first | omega | (dsimp only;omega))).trans (by first | omega | (dsimp only;omega)),m,rfl,by omega,?_⟩;refine⟨_,zn qv hx4,cmo jr ?_⟩;rintro e _ ⟨rfl,rfl⟩;refine⟨UX _ _,biE (fun h8=>?_) fun h8=>?_⟩
        ·have h8:(!lt8 f[m+1]! f[m]!)=true:=h8;rw [Gk h8] at hRf;subst hRf;exact⟨(),(cvE rfl rfl),hzf,qv,gVd⟩
        ·have h8:(!lt8 f[m+1]! f[m]!)=false:=h8;rw [Gj (by rw [h8];exact Ks)] at hRf;have qw:RB V.drew.drew g sp f:=hrV;refine DrawE.ord [15,17] [0,1,2,3,4,5,6,7,8,9,10,11,12,13,14,15,16,17] (by kernel_rfl) ⟨((m:Nat):Int),(ze (by first | omega | (dsimp only;omega))).trans (by first | omega | (dsimp only;omega)),((m:Nat):Int),(ze (by first | omega | (dsimp only;omega))).trans (by first | omega | (dsimp only;omega)),m,rfl,by omega,?_⟩;refine⟨_,zn qw hx4,m+1,rfl,by omega,?_⟩;refine⟨_,zn qw hx3,m+1,rfl,by omega,?_⟩;refine zB k5 rfl qw hx3 f[m]! fun V1 q1 g1=>⟨m,rfl,by omega,?_⟩;refine zB k5 rfl q1 (by rw [Array.size_setIfInBounds];exact hx4) f[m+1]! fun V2 q2 g2=>?_;have q2:RB V2 g sp (swp f (m+1) (m)):=q2;have z2:(swp f (m+1) (m)).size=f.size:=Go.Sort.size_swp f (m+1) (m);exact⟨((m:Nat):Int),(ze (by first | omega | (dsimp only;omega))).trans (by first | omega | (dsimp only;omega)),(m,swp f (m+1) m),(cvE rfl rfl),⟨by show m<=I-1;omega,by show (swp f _ _).size=L;rw [z2];exact hzf,hRf,q2,zd gVd (zd (zr _ g) (zd g1 g2))⟩,Qy m⟩
       ·have h7:¬ (1:Int)<=(k:Int):=dF h7;obtain rfl:k=0:=(by omega);have hRf:f=D2:=hRf;subst hRf;exact⟨(),(cvE rfl rfl),hzf,hrV,gV⟩
      ·have h6:¬ (2:Int)<=((I-a:Nat):Int):=dF h6;rw [Gj (by omega)] at hD2;subst hD2;exact⟨(),(cvE rfl rfl),hz1,q2s,gs⟩
     rintro _ Z ⟨hzZ,hrZ,gZ⟩;refine⟨((b-I:Nat):Int),(ze (by first | omega | (dsimp only;omega))).trans (by first | omega | (dsimp only;omega)),biE (fun h6=>?_) fun h6=>?_⟩
     ·have h6:(2:Int)<=((b-I:Nat):Int):=dT h6;rw [Gk (by omega)] at hD3;refine⟨((I+1:Nat):Int),(ze (by first | omega | (dsimp only;omega))).trans (by first | omega | (dsimp only;omega)),Nat×Array UInt8,fun s=>⟨[(0,.slice (some ⟨g,0,none⟩) L cap),(1,i64 a),(2,i64 b),(7,i64 (I:Nat)),(8,i64 (n:Nat)),(10,i64 (s.1:Nat))],[]⟩,fun s V=>(I+1<=s.1/\s.1<=b)/\s.2.size=L/\Go.Sort.shiftUp lt8 b s.1 s.2=D3/\RB V g sp s.2/\w.grownBy V (some g),fun s=>b-s.1,(I+1,D2),(cvE rfl rfl),⟨⟨US _,by show I+1<=b;omega⟩,hzZ,hD3.symm,hrZ,gZ⟩,?_⟩;rintro⟨k,f⟩ V ⟨hk,hzf,hRf,hrV,gV⟩;dsimp only at hk hzf hRf hrV;refine biE (fun h7=>?_) fun h7=>?_
      ·have h7:(k:Int)<(b:Int):=dT h7;rw [Go.Sort.shiftUp,Gk (by omega)] at hRf;have hx3:k<f.size:=(by omega);have hx4:k-1<f.size:=(by omega);have qv:RB V.drew g sp f:=hrV;have gVd:=zd gV (zr V g);refine DrawE.ord [] [0,1,2,3,4,5,6,7,8,9,10] (by kernel_rfl) ⟨k,rfl,by omega,?_⟩;refine⟨_,zn qv hx3,((k-1:Nat):Int),(ze (by first | omega | (dsimp only;omega))).trans (by first | omega | (dsimp only;omega)),k-1,rfl,by omega,?_⟩;refine⟨_,zn qv hx4,cmo jr ?_⟩;rintro e _ ⟨rfl,rfl⟩;refine⟨UX _ _,biE (fun h8=>?_) fun h8=>?_⟩
       ·have h8:(!lt8 f[k]! f[k-1]!)=true:=h8;rw [Gk h8] at hRf;subst hRf;exact⟨(),(cvE rfl rfl),⟨hI1,hI2⟩,hzf,hR1,qv,gVd⟩
       ·have h8:(!lt8 f[k]! f[k-1]!)=false:=h8;rw [Gj (by rw [h8];exact Ks)] at hRf;have qw:RB V.drew.drew g sp f:=hrV;refine DrawE.ord [15,17] [0,1,2,3,4,5,6,7,8,9,10,11,12,13,14,15,16,17] (by kernel_rfl) ⟨((k-1:Nat):Int),(ze (by first | omega | (dsimp only;omega))).trans (by first | omega | (dsimp only;omega)),((k-1:Nat):Int),(ze (by first | omega | (dsimp only;omega))).trans (by first | omega | (dsimp only;omega)),k-1,rfl,by omega,?_⟩;refine⟨_,zn qw hx4,k,rfl,by omega,?_⟩;refine⟨_,zn qw hx3,k,rfl,by omega,?_⟩;refine zB k5 rfl qw hx3 f[k-1]! fun V1 q1 g1=>⟨k-1,rfl,by omega,?_⟩;refine zB k5 rfl q1 (by rw [Array.size_setIfInBounds];exact hx4) f[k]! fun V2 q2 g2=>?_;have q2:RB V2 g sp (swp f (k) (k-1)):=q2;have z2:(swp f (k) (k-1)).size=f.size:=Go.Sort.size_swp f (k) (k-1);exact⟨((k+1:Nat):Int),(ze (by first | omega | (dsimp only;omega))).trans (by first | omega | (dsimp only;omega)),(k+1,swp f k (k-1)),(cvE rfl rfl),⟨⟨by show I+1<=k+1;omega,by show k+1<=b;omega⟩,by show (swp f _ _).size=L;rw [z2];exact hzf,hRf,q2,zd gVd (zd (zr _ g) (zd g1 g2))⟩,zdc (by omega)⟩
      ·have h7:¬ (k:Int)<(b:Int):=dF h7;rw [Go.Sort.shiftUp,Gj (by omega)] at hRf;subst hRf;exact⟨(),(cvE rfl rfl),⟨hI1,hI2⟩,hzf,hR1,hrV,gV⟩
     ·have h6:¬ (2:Int)<=((b-I:Nat):Int):=dF h6;rw [Gj (by omega)] at hD3;subst hD3;exact⟨(),(cvE rfl rfl),⟨hI1,hI2⟩,hzZ,hR1,hrZ,gZ⟩
  rintro _ Y ⟨⟨hI1,hI2⟩,hz3,hR3,hrY,gY⟩;exact⟨((n+1:Nat):Int),(ze (by first | omega | (dsimp only;omega))).trans (by first | omega | (dsimp only;omega)),(n+1,I,D3),(cvE rfl rfl),⟨⟨by show n+1<=5;omega,hI1,hI2⟩,hz3,hR3,hrY,gY⟩,zdc (by omega)⟩
 ·have hc:¬ (n:Int)<5:=dF hc;obtain rfl:n=5:=by omega
  have hR1:(e,false)=R:=hR1;exact fin _ _ _ hR1 hrX gX
end
abbrev zf3 (w:Wd) (s:Nat) (v:Int):Prop:=w.heap[s]?=some (.cells #[.int .i64 v] 3 (0,0))
theorem zkU {w:Wd} {s:Nat} {v:Int} (h:zf3 w s v):w.cell? ⟨s,0,none⟩=some (.int .i64 v):=zc (za h) (i:=0) rfl
section
variable {w:Wd} {g cap L a b s:Nat} {v:Int} {sp:List Value} {d:Array UInt8}
theorem zdv {w2:Wd} (h:RB w g sp d) (hg:w.grownBy w2 (some s)) (hs:s≠g):RB w2 g sp d:=by
 refine RowS.same h (hg.block g (RowS.lt h) fun e=>hs ?_)
 cases e;rfl
theorem zfl (hr:RB w g sp d) (hL:d.size=L) (hb:zf3 w s v) (hs:s≠g) (ha:a<L) (hbL:b<L) (hl:L<=1000000) :
  Calls PG 168 #[.slice (some ⟨g,0,none⟩) L cap,i64 a,i64 b,At0 s] w fun e w'=>(∃ x y:Nat,e = .returned (.tuple #[i64 x,i64 y])/\((x=a/\y=b)\/(x=b/\y=a)))/\(∃ u,zf3 w' s u)/\w.grownBy w' (some s):=by
 refine zD 28 [.slice (some ⟨g,0,none⟩) L cap,i64 a,i64 b,At0 s] Tryz.func168 ?_;have qd:RB w.drew g sp d:=hr;have hx1:a<d.size:=by omega
 have hx2:b<d.size:=by omega
 have hbd:zf3 w.drew s v:=hb;refine DrawE.ord [] [0,1,2,3,4,5,6,7,8] (by kernel_rfl) ⟨b,rfl,by omega,?_⟩;refine⟨_,zn qd hx2,a,rfl,by omega,?_⟩;refine⟨_,zn qd hx1,cmo jr ?_⟩;rintro e _ ⟨rfl,rfl⟩;refine⟨UX _ _,biE (fun h=>?_) fun h=>?_⟩
 ·exact⟨_,zkU hbd,_,rfl,qE k3 rfl hbd (o:=0) (by show 0<1;decide) (v := .int .i64 (IntKind.i64.wrap (v+1))) rfl rfl fun Y fY gY sY=>⟨⟨b,a,rfl,.inr ⟨rfl,rfl⟩⟩,⟨_,fY⟩,zd (zr w s) gY⟩⟩
 ·exact⟨⟨a,b,rfl,.inl ⟨rfl,rfl⟩⟩,⟨_,hbd⟩,zr w s⟩
theorem ziI {c:Nat} (hr:RB w g sp d) (hL:d.size=L) (hb:zf3 w s v) (hs:s≠g) (ha:a<L) (hbL:b<L) (hcL:c<L) (hl:L<=1000000) :
  Calls PG 159 #[.slice (some ⟨g,0,none⟩) L cap,i64 a,i64 b,i64 c,At0 s] w fun e w'=>(∃ x:Nat,e = .returned (i64 x)/\(x=a\/x=b\/x=c))/\(∃ u,zf3 w' s u)/\w.grownBy w' (some s):=by
 refine zD 36 [.slice (some ⟨g,0,none⟩) L cap,i64 a,i64 b,i64 c,At0 s] Tryz.func159 ?_;refine cmo (zfl hr hL hb hs ha hbL hl) ?_;rintro e X ⟨⟨x,y,rfl,hxy⟩,⟨u,bX⟩,gX⟩;have rX:=zdv hr gX hs;refine cmo (zfl rX hL bX hs (a:=y) (b:=c) (by omega) hcL hl) ?_;rintro e Y ⟨⟨x2,y2,rfl,hxy2⟩,⟨u2,bY⟩,gY⟩;have rY:=zdv rX gY hs;refine cmo (zfl rY hL bY hs (a:=x) (b:=x2) (by omega) (by omega) hl) ?_;rintro e Z ⟨⟨x3,y3,rfl,hxy3⟩,bZ,gZ⟩;exact⟨⟨y3,rfl,by omega⟩,bZ,zd gX (zd gY gZ)⟩
theorem zfy (hr:RB w g sp d) (hL:d.size=L) (hb:zf3 w s v) (hs:s≠g) (ha:1<=a) (haL:a+1<L) (hl:L<=1000000) :
  Calls PG 158 #[.slice (some ⟨g,0,none⟩) L cap,i64 a,At0 s] w fun e w'=>(∃ x:Nat,e = .returned (i64 x)/\(x=a-1\/x=a\/x=a+1))/\(∃ u,zf3 w' s u)/\w.grownBy w' (some s):=by
 refine zD 15 [.slice (some ⟨g,0,none⟩) L cap,i64 a,At0 s] Tryz.func158 ?_;refine⟨((a-1:Nat):Int),(ze (by omega)).trans (by omega),nxI (by omega) (cmo (ziI hr hL hb hs (a:=a-1) (b:=a) (c:=a+1) (by omega) (by omega) haL hl) ?_)⟩;rintro e X ⟨⟨x,rfl,hx⟩,hb,hg⟩;exact⟨⟨x,rfl,hx⟩,hb,hg⟩
theorem zhp (n k:Nat) (h:n<=1000000):IntKind.i64.wrap ((n:Int).tdiv (k:Int))=((n/k:Nat):Int):=by
 have e:(n:Int).tdiv (k:Int)=((n/k:Nat):Int):=rfl;have:n/k<=n:=Nat.div_le_self n k;rw [e];generalize n/k=q at this ⊢;exact ze (by omega)
theorem zrA {a b n q L:Nat} (hn:n=b-a) (hq:4*q<=n) (h2:2<=q) (hb:b<=L):(1<=a+q*1/\a+q*1+1<L)/\(1<=a+q*2/\a+q*2+1<L)/\(1<=a+q*3/\a+q*3+1<L):=by omega
theorem zlK {a b n q x:Nat} (hn:n=b-a) (hq:4*q<=n) (h2:2<=q) (k:Nat) (hk:k=1\/k=2\/k=3) (hx:x=a+q*k-1\/x=a+q*k\/x=a+q*k+1):a<=x/\x<b:=by
 rcases hk with rfl | rfl | rfl <;> omega
theorem zot (hr:RB w g sp d) (hL:d.size=L) (hab:a<b) (hbL:b<=L) (hl:L<=1000000) :
  Calls PG 140 #[.slice (some ⟨g,0,none⟩) L cap,i64 a,i64 b] w fun e w'=>(∃ (p:Nat) (h:Int),e = .returned (.tuple #[i64 p,.int .i64 h])/\a<=p/\p<b)/\RB w' g sp d/\w.grownBy w' (some g):=by
 refine qP 57 [.slice (some ⟨g,0,none⟩) L cap,i64 a,i64 b] (.s .p (.s .p (.s .p (.s .p (.s .p (.c .p (.c (.s .p (.d (.c .p .p) .p)) .p))))))) Tryz.func140 ?_;obtain⟨n,hn⟩:=nm (b-a);obtain⟨q,hq⟩:=nm (n/4);have hn1:IntKind.i64.wrap (((b:Nat):Int)-((a:Nat):Int))=(n:Int):=(ze (by omega)).trans (by omega);have hq4:IntKind.i64.wrap ((n:Int).tdiv 4)=(q:Int):=by rw [hq];exact zhp n 4 (by omega)
 have hqn:4*q<=n:=by omega
 refine⟨(n:Int),hn1,?_⟩;obtain⟨s,hsz⟩:=nm (w.heap.size);have bS:zf3 (w.alloc (.cells #[.int .i64 0] 3)) s 0:=by rw [hsz];exact zx w _
 have hbw:Bw w (w.alloc (.cells #[.int .i64 0] 3)):=zba w _;have hgs:s≠g:=fun e=>by have:=RowS.lt hr;omega
 have rS:RB (w.alloc (.cells #[.int .i64 0] 3)) g sp d:=RowS.below hr hbw;subst hsz;refine⟨by decide,(q:Int),hq4,((q*1:Nat):Int),(ze (by omega)).trans (by omega),((a+q*1:Nat):Int),(ze (by omega)).trans (by omega),by decide,(q:Int),hq4,((q*2:Nat):Int),(ze (by omega)).trans (by omega),((a+q*2:Nat):Int),(ze (by omega)).trans (by omega),Unit,fun _=>⟨[(0,.slice (some ⟨g,0,none⟩) L cap),(1,i64 a),(2,i64 b),(8,i64 n),(9,At0 w.heap.size),(10,i64 (a+q*1:Nat)),(11,i64 (a+q*2:Nat)),(12,i64 (a+q*3:Nat))],[]⟩,fun _ X=>w.alloc (.cells #[.int .i64 0] 3)=X,?_,?_⟩
 ·exact⟨by decide,(q:Int),hq4,((q*3:Nat):Int),(ze (by omega)).trans (by omega),((a+q*3:Nat):Int),(ze (by omega)).trans (by omega),(),(cvE rfl rfl),rfl⟩
 rintro _ _ rfl;have keep:∀ Y,(w.alloc (.cells #[.int .i64 0] 3)).grownBy Y (some w.heap.size)->RB Y g sp d/\w.grownBy Y (some g):=fun Y gY =>
  ⟨zdv rS gY hgs,zf (hbw.trans (zh gY hbw.size (by omega)))⟩
 refine⟨Nat×Int,fun t=>⟨[(0,.slice (some ⟨g,0,none⟩) L cap),(1,i64 a),(2,i64 b),(9,At0 w.heap.size),(11,i64 (t.1:Nat))],[]⟩,fun t X=>(a<=t.1/\t.1<b)/\zf3 X w.heap.size t.2/\(w.alloc (.cells #[.int .i64 0] 3)).grownBy X (some w.heap.size),?_,?_⟩
 ·refine biE (fun hc=>?_) fun hc=>?_
  ·have hc:(8:Int)<=(n:Int):=dT hc;refine⟨(Nat×Nat×Nat)×Int,fun t=>⟨[(0,.slice (some ⟨g,0,none⟩) L cap),(1,i64 a),(2,i64 b),(9,At0 w.heap.size),(10,i64 (t.1.1:Nat)),(11,i64 (t.1.2.1:Nat)),(12,i64 (t.1.2.2:Nat))],[]⟩,fun t X=>((a<=t.1.1/\t.1.1<b)/\(a<=t.1.2.1/\t.1.2.1<b)/\(a<=t.1.2.2/\t.1.2.2<b))/\zf3 X w.heap.size t.2/\(w.alloc (.cells #[.int .i64 0] 3)).grownBy X (some w.heap.size),?_,?_⟩
   ·refine biE (fun h5=>?_) fun h5=>?_
    ·have h2q:2<=q:=(by omega);obtain⟨⟨m1,m2⟩,⟨m3,m4⟩,m5,m6⟩:=zrA hn hqn h2q hbL;have c1:=zfy (cap:=cap) rS hL bS hgs (a:=a+q*1) m1 m2 hl;refine cmo c1 ?_;rintro e X ⟨⟨x,rfl,hx⟩,⟨u,bX⟩,gX⟩;have c2:=zfy (cap:=cap) (keep X gX).1 hL bX hgs (a:=a+q*2) m3 m4 hl;refine cmo c2 ?_;rintro e Y ⟨⟨y,rfl,hy⟩,⟨u2,bY⟩,gY⟩;have gY':=zd gX gY;have c3:=zfy (cap:=cap) (keep Y gY').1 hL bY hgs (a:=a+q*3) m5 m6 hl;refine cmo c3 ?_;rintro e Z ⟨⟨z,rfl,hz⟩,⟨u3,bZ⟩,gZ⟩;exact⟨((x,y,z),u3),(cvE rfl rfl),⟨zlK hn hqn h2q 1 (.inl rfl) hx,zlK hn hqn h2q 2 (.inr (.inl rfl)) hy,zlK hn hqn h2q 3 (.inr (.inr rfl)) hz⟩,bZ,zd gY' gZ⟩
    ·have h2q:2<=q:=(by omega);exact⟨((a+q*1,a+q*2,a+q*3),0),(cvE rfl rfl),⟨zlK hn hqn h2q 1 (.inl rfl) (.inr (.inl rfl)),zlK hn hqn h2q 2 (.inr (.inl rfl)) (.inr (.inl rfl)),zlK hn hqn h2q 3 (.inr (.inr rfl)) (.inr (.inl rfl))⟩,bS,zV _ _⟩
   ·rintro⟨⟨x,y,z⟩,u⟩ X ⟨⟨hx,hy,hz⟩,bX,gX⟩;dsimp only at hx hy hz bX gX;refine cmo (ziI (keep X gX).1 hL bX hgs (a:=x) (b:=y) (c:=z) (by omega) (by omega) (by omega) hl) ?_;rintro e Y ⟨⟨m,rfl,hm⟩,⟨u2,bY⟩,gY⟩;refine⟨(m,u2),(cvE rfl rfl),⟨?_,?_⟩,bY,zd gX gY⟩ <;> dsimp only <;> omega
  ·refine⟨(a+q*2,0),(cvE rfl rfl),⟨?_,?_⟩,bS,zV _ _⟩ <;> dsimp only <;> omega
 rintro⟨p,u⟩ X ⟨hp,bX,gX⟩;dsimp only at hp bX gX;obtain⟨k1,k2⟩:=keep X gX;refine⟨_,zkU bX,biE (fun h=>?_) fun h=>?_⟩
 ·exact⟨⟨p,1,rfl,hp⟩,k1,k2⟩
 ·refine biE (fun h=>?_) fun h=>?_
  ·exact⟨⟨p,2,rfl,hp⟩,k1,k2⟩
  ·exact⟨⟨p,0,rfl,hp⟩,k1,k2⟩
end
theorem zkQ {a:Nat} (h:a<2^64):(BitVec.ofInt 64 (a:Int)).toNat=a:=by
 rw [BitVec.ofInt_natCast,BitVec.toNat_ofNat,QA h]
theorem zrk {a b:Nat} (ha:a<2^64) (hb:b<2^64):IntKind.u64.wrap ((BitVec.ofInt IntKind.u64.bits (a:Int)&&&BitVec.ofInt IntKind.u64.bits (b:Int)).toNat:Int)=((a&&&b:Nat):Int):=by
 show IntKind.u64.wrap ((BitVec.ofInt 64 (a:Int)&&&BitVec.ofInt 64 (b:Int)).toNat:Int)=_;rw [Qe,zkQ ha,zkQ hb];have:a&&&b<=a:=QV;exact j9 (by omega)
theorem exU {x:Int} {K:Int->Prop} (k:∀ r:Nat,r<2^64->K (r:Int)):∃ r,IntKind.u64.wrap x=r/\K r:=by
 have h:0<=IntKind.u64.wrap x/\IntKind.u64.wrap x<18446744073709551616:=by
  unfold IntKind.wrap;simp only [IntKind.bits,IntKind.signed,Ug,Kr,Gg];omega
 obtain⟨r,hr⟩:=Int.eq_ofNat_of_zero_le h.1;refine⟨_,rfl,?_⟩;rw [hr];exact k r (by rw [hr] at h;omega)
def zqW (l:List UInt8):Bool:=(List.range l.length).all fun m=>match l[m]? with
 | some u=>decide (u.toNat<=8)&&(decide (m=0)||decide (2^u.toNat<=2*m))
 | none=>false
theorem zmC {l:List UInt8} (hs:zqW l=true) {n:Nat} {u:UInt8} (h:l[n]?=some u):u.toNat<=8/\(1<=n->2^u.toNat<=2*n):=by
 have:=Qh.1 hs n (Ul.2 (Jq.1 h).1);rw [h] at this;simp only [bAT,QE,dE] at this;exact⟨this.1,fun h1=>this.2.resolve_left (by omega)⟩
theorem zmH {s:ByteArray} {n:Nat} {K:UInt8->Prop} (h:n<s.size) (k:∀ u,s.data.toList[n]?=some u->K u):∃ u,s.data.toList[n]?=some u/\K u:=by
 have h:n<s.data.toList.length:=by simpa using h
 exact⟨_,gE h,k _ (gE h)⟩
section
variable {w:Wd} {g cap L a b s:Nat} {v:Int} {sp:List Value} {d:Array UInt8}
theorem znk {n:Nat} (h:n<65536):Calls PG 147 #[.int .u64 (n:Nat)] w fun e w'=>(∃ m:Nat,e = .returned (i64 m)/\m<=16/\(1<=n->2^m<=2*n))/\w=w':=by
 refine zD 25 [.int .u64 (n:Nat)] Tryz.func147 ?_;refine brN (Ue (by omega)) (brN (Ue (by omega)) (biE (fun hc=>?_) fun hc=>?_))
 ·have hc:(256:Int)<=(n:Int):=dT hc;obtain⟨q,hq⟩:=nm (n/256);have hq1:1<=q/\q<256/\q*256<=n:=by omega
  refine⟨by decide,(q:Int),by
   show (n:Int).fdiv (2^(min (Int.toNat (8:Int)) IntKind.u64.bits))=_;rw [show min (Int.toNat (8:Int)) IntKind.u64.bits=8 from rfl,Jk _ (by decide)];omega,?_⟩
  refine⟨(8:Int),by decide,?_⟩;refine⟨(q:Int),zcC (by omega),q,rfl,zhz hq1.2.1 (by kernel_rfl),zmH (zhz hq1.2.1 (by kernel_rfl)) fun u hu=>?_⟩;obtain⟨t1,t2⟩:=zmC (by kernel_rfl) hu;refine⟨(u.toNat:Int),ze (by omega),((8+u.toNat:Nat):Int),(ze (by omega)).trans (by omega),⟨8+u.toNat,rfl,by omega,fun _=>?_⟩,rfl⟩;have:=t2 hq1.1;rw [Nat.pow_add];omega
 ·have hc:¬ (256:Int)<=(n:Int):=dF hc;have hn:n<256:=by omega
  refine⟨(n:Nat),zcC (by omega),n,rfl,zhz hn (by kernel_rfl),zmH (zhz hn (by kernel_rfl)) fun u hu=>?_⟩;obtain⟨t1,t2⟩:=zmC (by kernel_rfl) hu;exact⟨(u.toNat:Int),ze (by omega),((0+u.toNat:Nat):Int),(ze (by omega)).trans (by omega),⟨0+u.toNat,rfl,by omega,fun h1=>by rw [UN];exact t2 h1⟩,rfl⟩
theorem znj {n:Nat} (h:n<65536):Calls PG 103 #[.int .u64 (n:Nat)] w fun e w'=>(∃ m:Nat,e = .returned (i64 m)/\m<=16/\(1<=n->2^m<=2*n))/\w=w':=by
 refine zD 8 [.int .u64 (n:Nat)] Tryz.func103 ?_;refine brF (cmo (znk h) ?_);rintro e _ ⟨⟨m,rfl,h1,h2⟩,rfl⟩;exact⟨⟨m,rfl,h1,h2⟩,rfl⟩
theorem zlU {n:Nat} (h:n<65536) (h1:1<=n):Calls PG 156 #[i64 n] w fun e w'=>(∃ m:Nat,e = .returned (.int .u64 (m:Nat))/\1<=m/\m<=2*n)/\w=w':=by
 refine zD 7 [i64 n] Tryz.func156 ?_;refine⟨(n:Nat),j9 (by omega),cmo (znj h) ?_⟩;rintro e _ ⟨⟨m,rfl,h2,h3⟩,rfl⟩;have hp:1<=2^m:=Nat.one_le_two_pow;have:=h3 h1;refine⟨by omega,((2^m:Nat):Int),?_,?_⟩
 ·rw [KJ,show min m IntKind.u64.bits=m from QX (by show m<=64;omega),Int.one_mul];have e:((2:Int)^m)=((2^m:Nat):Int):=by rw [Int.natCast_pow];rfl
  rw [e];exact j9 (by omega)
 ·exact⟨⟨2^m,rfl,hp,this⟩,rfl⟩
abbrev zgi (w:Wd) (s:Nat) (v:Nat):Prop:=w.heap[s]?=some (.cells #[.int .u64 (v:Nat)] 234 (0,0))
theorem zbQ {w:Wd} {s v:Nat} (h:zgi w s v):w.cell? ⟨s,0,none⟩=some (.int .u64 (v:Nat)):=zc (za h) (i:=0) rfl
theorem zqP {v:Nat} (hb:zgi w s v):Calls PG 157 #[At0 s] w fun e w'=>(∃ r:Nat,e = .returned (.int .u64 (r:Nat))/\r<2^64/\zgi w' s r)/\w.grownBy w' (some s):=by
 refine zD 33 [At0 s] Tryz.func157 ?_;have b0:zgi w.drew s v:=hb;refine DrawE.ord [9] [0,1,2,3,4,5,6,7,8,9] (by kernel_rfl) ⟨_,zbQ b0,_,zbQ b0,by decide,?_⟩;refine exU fun r1 _=>exU fun r2 _=>qE zoC rfl b0 (o:=0) (by show 0<1;decide) (v := .int .u64 (r2:Nat)) rfl rfl fun Y fY gY sY=>?_;have b1:zgi Y.drew s r2:=fY;refine DrawE.ord [9] [0,1,2,3,4,5,6,7,8,9] (by kernel_rfl) ⟨_,zbQ b1,_,zbQ b1,by decide,_,rfl,?_⟩;refine exU fun r4 _=>qE zoC rfl b1 (o:=0) (by show 0<1;decide) (v := .int .u64 (r4:Nat)) rfl rfl fun Z fZ gZ sZ=>?_;have b2:zgi Z.drew s r4:=fZ;refine DrawE.ord [9] [0,1,2,3,4,5,6,7,8,9] (by kernel_rfl) ⟨_,zbQ b2,_,zbQ b2,by decide,?_⟩;refine exU fun r5 _=>exU fun r6 h6=>qE zoC rfl b2 (o:=0) (by show 0<1;decide) (v := .int .u64 (r6:Nat)) rfl rfl fun V fV gV sV=>?_;have b3:zgi V s r6:=fV;exact⟨_,zbQ b3,⟨r6,rfl,h6,b3⟩,zd (zr w s) (zd gY (zd (zr _ s) (zd gZ (zd (zr _ s) gV))))⟩
theorem zpi (hr:RB w g sp d) (hL:d.size=L) (hab:a+8<=b) (hbL:b<=L) (hl:L<=60000) :
  Calls PG 139 #[.slice (some ⟨g,0,none⟩) L cap,i64 a,i64 b] w fun e w'=>e = .returned (.tuple #[])/\(∃ d',Go.Sort.PermIn a b d d'/\RB w' g sp d')/\w.grownBy w' (some g):=by
 refine zD 65 [.slice (some ⟨g,0,none⟩) L cap,i64 a,i64 b] Tryz.func139 ?_;obtain⟨n,hn⟩:=nm (b-a);obtain⟨q,hq⟩:=nm (n/4);have hn1:IntKind.i64.wrap (((b:Nat):Int)-((a:Nat):Int))=(n:Int):=(ze (by omega)).trans (by omega);have hq4:IntKind.i64.wrap ((n:Int).tdiv 4)=(q:Int):=by rw [hq];exact zhp n 4 (by omega)
 have hq2:2<=q/\4*q<=n:=by omega
 refine⟨(n:Int),hn1,brE (Up (by omega)) ⟨(n:Nat),j9 (by omega),?_⟩⟩;obtain⟨s,hsz⟩:=nm (w.heap.size);have hgs:s≠g:=fun e=>by have:=RowS.lt hr;omega
 have hbw:Bw w (w.alloc (.cells #[.int .u64 0] 234)):=zba w _;refine qE zoC rfl (zx w (.cells #[.int .u64 0] 234)) (o:=0) (by show 0<1;decide) (v := .int .u64 (n:Nat)) rfl rfl fun X fX gX sX=>?_;rw [<- hsz] at fX gX;have bX:zgi X s n:=fX;have hwX:Bw w X:=hbw.trans (zh gX hbw.size (by omega));have rX:RB X g sp d:=RowS.below hr hwX;refine cmo (zlU (n:=n) (by omega) (by omega)) ?_;rintro e _ ⟨⟨md,rfl,hm1,hm2⟩,rfl⟩;refine⟨by decide,(q:Int),hq4,((q*2:Nat):Int),(ze (by omega)).trans (by omega),((a+q*2:Nat):Int),(ze (by omega)).trans (by omega),((a+q*2-1:Nat):Int),(ze (by omega)).trans (by omega),?_⟩;refine⟨Nat×Nat×Array UInt8,fun t=>⟨[(0,.slice (some ⟨g,0,none⟩) L cap),(1,i64 a),(2,i64 b),(6,i64 n),(7,At0 s),(8,.int .u64 (md:Nat)),(9,i64 (t.1:Nat))],[]⟩,
  fun t Y=>(a<=t.1/\t.1<=a+q*2+2)/\(Go.Sort.PermIn a b d t.2.2/\t.2.2.size=L)/\zgi Y s t.2.1/\RB Y g sp t.2.2/\w.grownBy Y (some g)/\w.heap.size<=s,fun t=>a+q*2+2-t.1,(a+q*2-1,n,d),
  ⟨.cons rfl (.cons rfl (.cons rfl (.cons rfl (.cons (by rw [hsz];rfl) (.cons rfl (.cons rfl .nil)))))),rfl⟩,⟨⟨by dsimp only;omega,by dsimp only;omega⟩,⟨Go.Sort.permIn_refl _ _ _,hL⟩,bX,rX,zf hwX,by omega⟩,?_⟩
 rintro⟨i,v,e⟩ Y ⟨⟨hi1,hi2⟩,⟨hP,hze⟩,bY,rY,gY,hws⟩;dsimp only at hi1 hi2 hP hze bY rY gY;refine⟨by decide,(q:Int),hq4,((q*2:Nat):Int),(ze (by omega)).trans (by omega),((a+q*2:Nat):Int),(ze (by omega)).trans (by omega),((a+q*2+1:Nat):Int),(ze (by omega)).trans (by omega),biE (fun hc=>?_) fun hc=>?_⟩
 ·have hc:(i:Int)<=((a+q*2+1:Nat):Int):=dT hc;refine cmo (zqP bY) ?_;rintro e' Z ⟨⟨r,rfl,hr64,bZ⟩,gZ⟩;have rZ:RB Z g sp e:=zdv rY gZ hgs;have gwZ:w.grownBy Z (some g):=⟨gZ.os.trans gY.os,gZ.tape.trans gY.tape,gZ.output.trans gY.output,UJ gY.size gZ.size,fun k hk hn=>(gZ.block k (nL hk gY.size) (fun h=>by cases h;omega)).trans (gY.block k hk hn)⟩;refine⟨((md-1:Nat):Int),(j9 (by omega)).trans (by omega),?_⟩;have hand:r&&&(md-1)<=md-1:=Qv;refine⟨((r&&&(md-1):Nat):Int),zrk hr64 (by omega),?_⟩;obtain⟨o,ho⟩:=nm (r&&&(md-1));rw [<- ho] at hand ⊢;refine⟨(o:Int),ze (by omega),?_⟩;have fin:∀ o':Nat,o'<n->∀ V2,RB V2 g sp (swp e i (a+o'))->Z.grownBy V2 (some g)->(a<=i+1/\i+1<=a+q*2+2)/\(Go.Sort.PermIn a b d (swp e i (a+o'))/\(swp e i (a+o')).size=L)/\zgi V2 s r/\RB V2 g sp (swp e i (a+o'))/\w.grownBy V2 (some g)/\w.heap.size<=s:=fun o' ho' V2 q2 g2=>by
   have hp:=Go.Sort.swp_permIn e a b i (a+o') hi1 (by omega) (by omega) (by omega) (by omega);exact⟨⟨by omega,by omega⟩,⟨Go.Sort.permIn_trans _ _ _ a b hP hp,by rw [Go.Sort.size_swp];exact hze⟩,(g2.block s (hlt bZ) (fun h=>by cases h;exact hgs rfl)).trans bZ,q2,zd gwZ g2,hws⟩
  have hx1:i<e.size:=by omega
  refine biE (fun h8=>?_) fun h8=>?_
  ·have h8:(n:Int)<=(o:Int):=dT h8;refine⟨((o-n:Nat):Int),(ze (by omega)).trans (by omega),?_⟩;have hx2:a+(o-n)<e.size:=by omega
   have qd:RB Z.drew g sp e:=rZ;refine DrawE.ord [17,19] [0,1,2,3,4,5,6,7,8,9,10,11,12,13,14,15,16,17,18,19] (by kernel_rfl) ⟨((a+(o-n):Nat):Int),(ze (by omega)).trans (by omega),((a+(o-n):Nat):Int),(ze (by omega)).trans (by omega),a+(o-n),rfl,by omega,?_⟩;refine⟨_,zn qd hx2,i,rfl,by omega,?_⟩;refine⟨_,zn qd hx1,i,rfl,by omega,?_⟩;refine zB k5 rfl qd hx1 e[a+(o-n)]! fun V1 q1 g1=>⟨a+(o-n),rfl,by omega,?_⟩;exact zB k5 rfl q1 (by rw [Array.size_setIfInBounds];exact hx2) e[i]! fun V2 q2 g2=>nxI (by omega) ⟨(i+1,r,swp e i (a+(o-n))),(cvE rfl rfl),fin _ (by omega) V2 q2 (zd (zr _ g) (zd g1 g2)),by dsimp only;omega⟩
  ·have h8:¬ (n:Int)<=(o:Int):=dF h8;have hx2:a+o<e.size:=by omega
   have qd:RB Z.drew g sp e:=rZ;refine DrawE.ord [17,19] [0,1,2,3,4,5,6,7,8,9,10,11,12,13,14,15,16,17,18,19] (by kernel_rfl) ⟨((a+o:Nat):Int),(ze (by omega)).trans (by omega),((a+o:Nat):Int),(ze (by omega)).trans (by omega),a+o,rfl,by omega,?_⟩;refine⟨_,zn qd hx2,i,rfl,by omega,?_⟩;refine⟨_,zn qd hx1,i,rfl,by omega,?_⟩;refine zB k5 rfl qd hx1 e[a+o]! fun V1 q1 g1=>⟨a+o,rfl,by omega,?_⟩;exact zB k5 rfl q1 (by rw [Array.size_setIfInBounds];exact hx2) e[i]! fun V2 q2 g2=>nxI (by omega) ⟨(i+1,r,swp e i (a+o)),(cvE rfl rfl),fin _ (by omega) V2 q2 (zd (zr _ g) (zd g1 g2)),by dsimp only;omega⟩
 ·exact⟨rfl,⟨e,hP,rY⟩,gY⟩
end
end Go.Proofs.YtpalcnbhkigagaaGreatDoor
