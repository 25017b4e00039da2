/- Contracts of functions, and plain facts, for the law that the last text of this claim proves. -/
import Derived.Test.YtpalcnbhkigagaaGreatDoorH2
import Derived.Test.YtpalcnbhkigagaaGreatDoorH1
import Derived.Lib.AppendZerosOnto
import Derived.Laws.OwnMore
set_option linter.unusedSimpArgs false
set_option linter.unusedVariables false
namespace Go.Proofs.YtpalcnbhkigagaaGreatDoor
open Go.Vc Go.RowKit Go.Sei
theorem zsy:∃ G,TyEq PG 39 true 2 2 G/\∀ r n,G [.bool r,u8 n]:=by
 refine⟨_,.struct (uf Tryz.underlying39).1 (by kernel_rfl) (fun w=>Tryz.isAgg39 w) (qI (by kernel_rfl) (by kernel_rfl)).1 (by kernel_rfl)
  (by rw [(uf Tryz.underlying39).2];exact .cons (by decide) rfl zr4 (.cons (by decide) rfl tU8 .nil)),fun r n=>?_⟩
 exact⟨⟨_,rfl⟩,⟨_,rfl⟩,trivial⟩
theorem zsw:∃ G,TyEq PG 41 true 10 3 G/\∀ x,G (zH.enc x):=by
 obtain⟨G,h1,h2⟩:=zsy;refine⟨_,.struct (uf Tryz.underlying41).1 (by kernel_rfl) (fun w=>Tryz.isAgg41 w) (qI (by kernel_rfl) (by kernel_rfl)).1 (by kernel_rfl)
  (by rw [(uf Tryz.underlying41).2];exact .cons (by decide) rfl (tU8.up 1) (.cons (by decide) rfl (tU8.up 1) (.cons (by decide) rfl (tU8.up 1) (.cons (by decide) rfl h1 (.cons (by decide) rfl h1 (.cons (by decide) rfl (tU8.up 1) (.cons (by decide) rfl (tU8.up 1) (.cons (by decide) rfl (tU8.up 1) .nil)))))))),fun x=>?_⟩
 exact⟨⟨_,rfl⟩,⟨_,rfl⟩,⟨_,rfl⟩,h2 _ _,h2 _ _,⟨_,rfl⟩,⟨_,rfl⟩,⟨_,rfl⟩,trivial⟩
theorem zbC {a b:UInt8} (h:u8 a=u8 b):a=b:=by
 unfold u8 at h;simp only [Value.int.injEq,true_and] at h;exact jh.1 h
theorem zpK {a b:InsD}:zH.enc a=zH.enc b↔a=b:=by
 constructor
 ·intro h;obtain⟨a0,a1,a2,a3,a4,a5,a6,a7,a8,a9⟩:=a;obtain⟨b0,b1,b2,b3,b4,b5,b6,b7,b8,b9⟩:=b;simp only [zH,QN,Gk,Value.bool.injEq] at h;obtain⟨h0,h1,h2,rfl,h4,rfl,h6,h7,h8,h9⟩:=h;rw [zbC h0,zbC h1,zbC h2,zbC h4,zbC h6,zbC h7,zbC h8,zbC h9]
 ·exact fun h=>by rw [h]
theorem zp1 (x y:Operand) (a b:InsD) (w:Wd):(do eqGuard .eql 41 x y (.agg (zH.enc a).toArray) (.agg (zH.enc b).toArray);binOp .eql 41 (.agg (zH.enc a).toArray) (.agg (zH.enc b).toArray)).run PG w = .ok (.bool (decide (a=b))) w:=by
 obtain⟨G,h,hG⟩:=zsw;rw [ziu h 9997 rfl (by kernel_rfl) rfl rfl (hG a) (hG b) x y w,zcW zpK]
structure SpV (X:Wd) (g bx:Nat) (x:InsD) (locs after:Nat):Prop where
 c:X.heap[g]?=some (.cells (spC x locs after).toArray 178 (0,0))
 b:X.heap[bx]?=some (.cells #[At0 g] 209 (0,0))
 G:GlobC X
theorem SpV.below {X Y:Wd} {g bx locs after:Nat} {x:InsD} (h:SpV X g bx x locs after) (hb:Bw X Y):SpV Y g bx x locs after:=⟨zb hb h.c,zb hb h.b,h.G.below hb⟩
theorem SpV.cells {X:Wd} {g bx locs after:Nat} {x:InsD} (h:SpV X g bx x locs after):zx X ⟨g,0,none⟩ (spC x locs after):=za h.c
section
variable {g bx locs after:Nat} {x:InsD} {w:Wd}
theorem zqf (h:SpV w g bx x locs after):CB 122 #[At0 bx] w (.bool (decide (1<=x.op.toNat)&&decide (x.op.toNat<=8))):=by
 refine zI 16 [At0 bx] Tryz.func122 ?_;refine⟨_,zc (za h.b) (i:=0) rfl,_,zc h.cells (i:=0) rfl,biE (fun h1=>?_) fun h1=>?_⟩
 ·have h1:(1:Int)<=x.op.toNat:=dT h1;refine⟨_,zc (za h.b) (i:=0) rfl,_,zc h.cells (i:=0) rfl,rb ?_,Gd _ _⟩;rw [Uu (p:=1<=x.op.toNat) (by omega),UA,QI];show (x.op.toNat:Int)<=8↔_;omega
 ·have h1:¬ (1:Int)<=x.op.toNat:=dF h1;refine⟨rb ?_,Gd _ _⟩;rw [Uj (p:=1<=x.op.toNat) (by omega)];rfl
theorem zqe (h:SpV w g bx x locs after) (hop:x.op.toNat<=8):CB 123 #[At0 bx] w (.bool (decide (x=zft x))):=by
 refine zI 9 [At0 bx] Tryz.func123 ?_;have hd:SpV w.drew g bx x locs after:=h.below (Gd _ w).drew;refine DrawE.ord [] [0,1,2,3,4,5,6,7] (by kernel_rfl) ⟨_,zc (za hd.b) (i:=0) rfl,zH.enc x,rfl,zK (n:=0) (m:=10) hd.cells,hlt hd.c,_,zc (za hd.b) (i:=0) rfl,cmo (zn0 hd.cells (hlt hd.c) hop hd.G) ?_⟩;rintro e V ⟨rfl,hb⟩;exact⟨hb,_,fun w=>zp1 _ _ x (zft x) w,rfl,(Gd _ w).drew.trans hb⟩
theorem zqd (h:SpV w g bx x locs after):CB 125 #[At0 bx] w (.bool (decide (x.dst.toNat<8))):=by
 refine zI 8 [At0 bx] Tryz.func125 ?_;refine⟨_,zc (za h.b) (i:=0) rfl,_,zc h.cells (i:=1) rfl,rb ?_,Gd _ _⟩;show decide ((x.dst.toNat:Int)<8)=_;rw [QI];omega
theorem zqc (h:SpV w g bx x locs after) (hop:x.op.toNat<=8):CB 126 #[At0 bx] w (.bool (!jy x.op 2||decide (x.loc.toNat<locs))):=by
 refine zI 18 [At0 bx] Tryz.func126 ?_;have hd:SpV w.drew g bx x locs after:=h.below (Gd _ w).drew;refine DrawE.ord [] [0,1,2,3,4,5,6,7,8,9,10,11,12,13,14,15,16] (by kernel_rfl) ⟨_,zc (za hd.b) (i:=0) rfl,cmo (zed 2 hd.cells hop hd.G) ?_⟩;rintro e _ ⟨rfl,rfl⟩;refine⟨Gd _ _,biE (fun h1=>?_) fun h1=>?_⟩
 ·have h1:(!jy x.op 2)=true:=h1;exact⟨rb (by rw [h1];rfl),(Gd _ w).drew⟩
 ·have h1:(!jy x.op 2)=false:=h1;refine⟨_,zc (za hd.b) (i:=0) rfl,_,zc hd.cells (i:=2) rfl,_,qH _,_,zc (za hd.b) (i:=0) rfl,_,zc hd.cells (i:=10) rfl,rb ?_,(Gd _ w).drew⟩;rw [h1,Ux,QI];omega
theorem zqb (h:SpV w g bx x locs after):CB 128 #[At0 bx] w (.bool (ziK x.ar x.an&&ziK x.br x.bn)):=by
 refine zI 16 [At0 bx] Tryz.func128 ?_;refine⟨_,zc (za h.b) (i:=0) rfl,[.bool x.ar,u8 x.an],rfl,zK (n:=3) (m:=2) h.cells,hlt h.c,cmo (zgK x.ar x.an w) ?_⟩;rintro e V ⟨rfl,hb⟩;have hV:=h.below hb;refine biE (fun h1=>?_) fun h1=>?_
 ·have h1:ziK x.ar x.an=true:=h1;refine⟨_,zc (za hV.b) (i:=0) rfl,[.bool x.br,u8 x.bn],rfl,zK (n:=5) (m:=2) hV.cells,hlt hV.c,cmo (zgK x.br x.bn V) ?_⟩;rintro e U ⟨rfl,hb2⟩;exact⟨rb (by rw [h1,UA]),(zst hb hb2)⟩
 ·have h1:ziK x.ar x.an=false:=h1;exact⟨rb (by rw [h1,Ul]),hb⟩
theorem zqa (h:SpV w g bx x locs after) (hop:x.op.toNat<=8):CB 132 #[At0 bx] w (.bool (!jy x.op 64||(decide (1<=x.skip.toNat)&&decide (x.skip.toNat<=after)))):=by
 refine zI 26 [At0 bx] Tryz.func132 ?_;have hd:SpV w.drew g bx x locs after:=h.below (Gd _ w).drew;refine DrawE.ord [] [0,1,2,3,4,5,6,7,8,9,10,11,12,13,14,15,16,17,18,19,20,21,22,23,24] (by kernel_rfl) ⟨_,zc (za hd.b) (i:=0) rfl,cmo (zed 64 hd.cells hop hd.G) ?_⟩;rintro e _ ⟨rfl,rfl⟩;refine⟨Gd _ _,biE (fun h1=>?_) fun h1=>?_⟩
 ·have h1:(!jy x.op 64)=true:=h1;exact⟨rb (by rw [h1];rfl),(Gd _ w).drew⟩
 ·have h1:(!jy x.op 64)=false:=h1;rw [h1,Ux];refine⟨_,zc (za hd.b) (i:=0) rfl,_,zc hd.cells (i:=9) rfl,biE (fun h2=>?_) fun h2=>?_⟩
  ·have h2:(1:Int)<=x.skip.toNat:=dT h2;refine⟨_,zc (za hd.b) (i:=0) rfl,_,zc hd.cells (i:=9) rfl,_,qH _,_,zc (za hd.b) (i:=0) rfl,_,zc hd.cells (i:=11) rfl,rb ?_,(Gd _ w).drew⟩;rw [Uu (p:=1<=x.skip.toNat) (by omega),UA,QI];omega
  ·have h2:¬ (1:Int)<=x.skip.toNat:=dF h2;refine⟨rb ?_,(Gd _ w).drew⟩;rw [Uj (p:=1<=x.skip.toNat) (by omega)];rfl
end
def ziB (g bx:Nat):List Value:=[.func (.func 122) #[] #[At0 bx],.func (.func 123) #[] #[At0 bx],.func (.func 125) #[] #[At0 bx],
 .func (.func 126) #[] #[At0 bx],.func (.func 128) #[] #[At0 bx],.func (.func 130) #[At0 g] #[],.func (.func 131) #[At0 g] #[],
 .func (.func 132) #[] #[At0 bx]]
theorem zp9 {g:Nat} {w:Wd}:Calls PG 91 #[At0 g] w fun e w'=>e = .returned (.slice (some ⟨w.heap.size+1,0,none⟩) 8 8) /\
  w'.heap[w.heap.size]?=some (.cells #[At0 g] 209 (0,0))/\w'.heap[w.heap.size+1]?=some (.cells (ziB g w.heap.size).toArray 33 (0,0))/\w'.heap.size=w.heap.size+2/\Bw w w':=by
 refine zI 14 [At0 g] Tryz.func91 ?_;obtain⟨W,hW⟩:=nm (w.alloc (.cells #[At0 g] 209));have hb:W.heap[w.heap.size]?=some (.cells #[At0 g] 209 (0,0)):=by rw [hW];exact zz w _
 have hs:W.heap.size=w.heap.size+1:=by rw [hW,wz]
 have hbb:Bw w W:=by rw [hW];exact (zba w _)
 refine⟨_,zc (za (zz w _)) (i:=0) rfl,_,zc (za (zz w _)) (i:=0) rfl,⟨by decide,by decide,rfl⟩,ziB g w.heap.size,rfl,?_⟩;have hs1:=wz w (.cells #[At0 g] 209);refine⟨?_,?_,?_,?_,?_⟩
 ·show Ending.returned (.slice (some ⟨(w.alloc (.cells #[At0 g] 209)).heap.size,0,none⟩) 8 8)=_;rw [hs1]
 ·exact qG _ (zz w _)
 ·rw [<- hs1];exact zz _ _
 ·rw [wz,wz]
 ·exact ((zba w _)).alloc (by simp) _
structure ThI (X:Wd) (L:Nat) (x:InsD) (locs after:Nat):Prop where
 c:X.heap[L]?=some (.cells (spC x locs after).toArray 178 (0,0))
 b:X.heap[L+1]?=some (.cells #[At0 L] 209 (0,0))
 s:X.heap[L+2]?=some (.cells (ziB L (L+1)).toArray 33 (0,0))
theorem ThI.below {X Y:Wd} {L:Nat} {x:InsD} {locs after:Nat} (h:ThI X L x locs after) (hb:Bw X Y):ThI Y L x locs after:=⟨zb hb h.c,zb hb h.b,zb hb h.s⟩
def zpL:InsD:=⟨0,0,0,false,0,false,0,0,0,0⟩
theorem zj6 {l:List Bool}:∀ {n:Nat},(∀ j,j<n->l[j]?=some true)->n=l.length->l.all id=true:=by
 intro n h e;rw [Qm];intro b hb;obtain⟨j,hj,rfl⟩:=Kl hb;have:=h j (by omega);rw [gE hj] at this;exact Uh this
theorem zo1 {l:List Bool} {j:Nat} (h:l[j]?=some false):l.all id=false:=by
 rw [KQ];obtain⟨hj,e⟩:=Js.1 h;exact⟨l[j],gM _,by rw [e];decide⟩
theorem zcR {l:List InsD} {k locs:Nat} (hkl:k<l.length) {i:Nat} (h:(qJ l[k] locs (l.length-1-k))[i]?=some false) {w X:Wd} (hb:Bw w X) :
  Ending.returned (.bool false) = .returned (.bool (qr l locs))/\Bw w X:=by
 refine⟨rb ?_,hb⟩;symm;unfold qr;rw [Bool.and_eq_false_iff];refine .inr ?_;rw [KQ];refine⟨k,Uq.2 hkl,?_⟩;rw [gE hkl];show ¬ zgU l[k] locs (l.length-1-k)=true;unfold zgU;rw [zo1 h];simp
theorem zj8 {p:OA} {cap locs:Nat} {l:List InsD} {w:Wd} (hl:SlR zH w p l) (hG:GlobC w) (hn:l.length<=140737488351232) :
  CB 67 #[.slice p l.length cap,i64 locs] w (.bool (qr l locs)):=by
 refine zI 43 [.slice p l.length cap,i64 locs] Tryz.func67 ?_;obtain⟨L,hL⟩:=nm (w.heap.size);refine biE (fun h=>?_) fun h=>?_
 ·have h:(12:Int)<l.length:=dT h;exact⟨rb (by unfold qr;rw [Uj (by omega)];rfl),Gd _ _⟩
 have h12:¬ (12:Int)<l.length:=dF h;refine⟨spC zpL locs 0,rfl,zn (X:=w) (v := .agg (spC zpL locs 0).toArray) zsE rfl rfl rfl fun V hbV fV sV=>cmo zp9 ?_⟩;rintro e W0 ⟨rfl,hbx,hsl,hsz,hb0⟩;rw [sV,<- hL] at hsz hbx hsl;have hI0:ThI W0 L zpL locs 0:=⟨hL▸zb hb0 fV,hbx,hsl⟩;have hbw:Bw w W0:=zst hbV hb0;have p1:some (Value.pointer (some ⟨w.heap.size,0,none⟩))=some (At0 L):=by rw [hL]
 have p2:some (Value.slice (some ⟨V.heap.size+1,0,none⟩) 8 8)=some (Value.slice (some ⟨L+2,0,none⟩) 8 8):=by rw [sV,hL]
 clear hbx hsl fV sV hb0 hbV;refine⟨Nat,fun k=>⟨[(0,.slice p l.length cap),(1,i64 locs),(5,At0 L),(6,.slice (some ⟨L+2,0,none⟩) 8 8),(17,.slice p l.length cap),(18,i64 l.length),(19,i64 (k:Nat))],[]⟩,
  fun k X=>k<=l.length/\(∀ i,i<k->∀ x,l[i]?=some x->zgU x locs (l.length-1-i)=true)/\(∃ x aft,ThI X L x locs aft)/\Bw w X,fun k=>l.length-k,0,
  ⟨.cons rfl (.cons rfl (.cons p1 (.cons p2 (.cons rfl (.cons rfl (.cons rfl .nil)))))),rfl⟩,⟨Gb _,fun i hi=>by omega,⟨zpL,0,hI0⟩,hbw⟩,?_⟩
 rintro k X ⟨hk,hdone,⟨x0,a0,hI⟩,hbX⟩;dsimp only at hk hdone ⊢;refine biE (fun hc=>?_) fun hc=>?_
 ·have hc:(k:Int)<(l.length:Int):=dT hc;have hkl:k<l.length:=by omega
  obtain⟨b,o,rfl,hbl,hat⟩:=hl.at hkl;refine⟨k,rfl,hkl,?_⟩;have hx:=hat k hkl;refine⟨zH.enc l[k],rfl,jK hbX hbl hx,nL hbl hbX.size,zn (X:=X) (v := .agg (zH.enc l[k]).toArray) k41 rfl rfl rfl fun Y hbY fY sY=>⟨zH.enc l[k],rfl,za fY,hlt fY,((l.length-1:Nat):Int),(ze (by omega)).trans (by omega),((l.length-1-k:Nat):Int),(ze (by omega)).trans (by omega),?_⟩⟩;have hY:=hI.below hbY;refine jU k41 hY.c (o:=0) (v := .agg (zH.enc l[k]).toArray) rfl (by show 0+10<=12;omega) rfl fun Z fZ gZ sZ=>jU k3 fZ (o:=11) (v:=i64 (l.length-1-k:Nat)) rfl (by show 11+1<=12;omega) rfl fun U fU gU sU=>?_;have hIU:ThI U L l[k] locs (l.length-1-k):=⟨fU,(gU.block _ (by have:=hlt hY.b;omega) (by simp)).trans ((gZ.block _ (hlt hY.b) (by simp)).trans hY.b),(gU.block _ (by have:=hlt hY.s;omega) (by simp)).trans ((gZ.block _ (hlt hY.s) (by simp)).trans hY.s)⟩;have hbU:Bw w U:=by
   have h1:Bw w Y:=zst hbX hbY;have h2:∀ (A B:Wd),Bw w A->A.grownBy B (some L)->Bw w B:=fun A B ha hg=>ha.trans ⟨hg.os,hg.tape,hg.output,hg.size,fun j hj=>hg.block j (nL hj ha.size) (by simp;omega)⟩;exact h2 _ _ (h2 _ _ h1 gZ) gU
  refine⟨Nat,fun j=>⟨[(0,.slice (some ⟨b,o,none⟩) l.length cap),(1,i64 locs),(5,At0 L),(6,.slice (some ⟨L+2,0,none⟩) 8 8),(17,.slice (some ⟨b,o,none⟩) l.length cap),(18,i64 l.length),(19,i64 (k:Nat)),(32,.slice (some ⟨L+2,0,none⟩) 8 8),(33,i64 8),(34,i64 (j:Nat))],[]⟩,
   fun j X=>j<=8/\(∀ i,i<j->(qJ l[k] locs (l.length-1-k))[i]?=some true)/\ThI X L l[k] locs (l.length-1-k)/\Bw w X,fun j=>8-j,0,
   (cvE rfl rfl),⟨Gb _,fun i hi=>by omega,hIU,hbU⟩,?_⟩
  clear hIU hbU;rintro j X2 ⟨hj,hpre,hI2,hb2⟩;dsimp only at hj hpre ⊢;have hG2:GlobC X2:=hG.below hb2;have hS:SpV X2 L (L+1) l[k] locs (l.length-1-k):=⟨hI2.c,hI2.b,hG2⟩;refine biE (fun hc2=>?_) fun hc2=>?_
  ·have hc2:(j:Int)<8:=dT hc2;refine⟨j,rfl,(by omega),?_⟩;have ho:0<j->l[k].op.toNat<=8:=fun h0=>by
    have:=Uh (hpre 0 h0);rw [bAT] at this;exact dT this.2
   have hat2:∀ {v:Value},(ziB L (L+1))[j]?=some v->X2.cell? ⟨L+2,0+j*1,none⟩=some v:=fun hv=>by
    have:=zc (za hI2.s) (i:=j) (by simpa using hv);rw [UZ];exact this
   have hcs:j=0\/j=1\/j=2\/j=3\/j=4\/j=5\/j=6\/j=7:=by omega
   rcases hcs with rfl | rfl | rfl | rfl | rfl | rfl | rfl | rfl
   ·refine⟨_,hat2 rfl,cmo (zqf hS) ?_⟩;rintro e W ⟨rfl,hbW⟩;have hI3:=hI2.below hbW;refine biE (fun hb=>?_) fun hb=>?_
    ·have hb:(!((qJ l[k] locs (l.length-1-k))[0]'(by show 0<8;decide)))=true:=hb;have hb:(qJ l[k] locs (l.length-1-k))[0]?=some false:=(by rw [gE (by show 0<8;decide)];exact Gl some (by rw [<- UI ((qJ l[k] locs (l.length-1-k))[0]'(by show 0<8;decide)),hb];rfl));exact zcR hkl hb ((zst hb2 hbW))
    ·have hb:(!((qJ l[k] locs (l.length-1-k))[0]'(by show 0<8;decide)))=false:=hb;have hb:(qJ l[k] locs (l.length-1-k))[0]?=some true:=(by rw [gE (by show 0<8;decide)];exact Gl some (by rw [<- UI ((qJ l[k] locs (l.length-1-k))[0]'(by show 0<8;decide)),hb];rfl));refine⟨_,(ze (by omega)).trans rfl,1,(cvE rfl rfl),⟨by omega,fun i hi=>?_,hI3,(zst hb2 hbW)⟩,by decide⟩;by_cases hik:i=0
     ·rw [hik];exact hb
     ·exact hpre i (by omega)
   ·refine⟨_,hat2 rfl,cmo (zqe hS (ho (by omega))) ?_⟩;rintro e W ⟨rfl,hbW⟩;have hI3:=hI2.below hbW;refine biE (fun hb=>?_) fun hb=>?_
    ·have hb:(!((qJ l[k] locs (l.length-1-k))[1]'(by show 1<8;decide)))=true:=hb;have hb:(qJ l[k] locs (l.length-1-k))[1]?=some false:=(by rw [gE (by show 1<8;decide)];exact Gl some (by rw [<- UI ((qJ l[k] locs (l.length-1-k))[1]'(by show 1<8;decide)),hb];rfl));exact zcR hkl hb ((zst hb2 hbW))
    ·have hb:(!((qJ l[k] locs (l.length-1-k))[1]'(by show 1<8;decide)))=false:=hb;have hb:(qJ l[k] locs (l.length-1-k))[1]?=some true:=(by rw [gE (by show 1<8;decide)];exact Gl some (by rw [<- UI ((qJ l[k] locs (l.length-1-k))[1]'(by show 1<8;decide)),hb];rfl));refine⟨_,(ze (by omega)).trans rfl,2,(cvE rfl rfl),⟨by omega,fun i hi=>?_,hI3,(zst hb2 hbW)⟩,by decide⟩;by_cases hik:i=1
     ·rw [hik];exact hb
     ·exact hpre i (by omega)
   ·refine⟨_,hat2 rfl,cmo (zqd hS) ?_⟩;rintro e W ⟨rfl,hbW⟩;have hI3:=hI2.below hbW;refine biE (fun hb=>?_) fun hb=>?_
    ·have hb:(!((qJ l[k] locs (l.length-1-k))[2]'(by show 2<8;decide)))=true:=hb;have hb:(qJ l[k] locs (l.length-1-k))[2]?=some false:=(by rw [gE (by show 2<8;decide)];exact Gl some (by rw [<- UI ((qJ l[k] locs (l.length-1-k))[2]'(by show 2<8;decide)),hb];rfl));exact zcR hkl hb ((zst hb2 hbW))
    ·have hb:(!((qJ l[k] locs (l.length-1-k))[2]'(by show 2<8;decide)))=false:=hb;have hb:(qJ l[k] locs (l.length-1-k))[2]?=some true:=(by rw [gE (by show 2<8;decide)];exact Gl some (by rw [<- UI ((qJ l[k] locs (l.length-1-k))[2]'(by show 2<8;decide)),hb];rfl));refine⟨_,(ze (by omega)).trans rfl,3,(cvE rfl rfl),⟨by omega,fun i hi=>?_,hI3,(zst hb2 hbW)⟩,by decide⟩;by_cases hik:i=2
     ·rw [hik];exact hb
     ·exact hpre i (by omega)
   ·refine⟨_,hat2 rfl,cmo (zqc hS (ho (by omega))) ?_⟩;rintro e W ⟨rfl,hbW⟩;have hI3:=hI2.below hbW;refine biE (fun hb=>?_) fun hb=>?_
    ·have hb:(!((qJ l[k] locs (l.length-1-k))[3]'(by show 3<8;decide)))=true:=hb;have hb:(qJ l[k] locs (l.length-1-k))[3]?=some false:=(by rw [gE (by show 3<8;decide)];exact Gl some (by rw [<- UI ((qJ l[k] locs (l.length-1-k))[3]'(by show 3<8;decide)),hb];rfl));exact zcR hkl hb ((zst hb2 hbW))
    ·have hb:(!((qJ l[k] locs (l.length-1-k))[3]'(by show 3<8;decide)))=false:=hb;have hb:(qJ l[k] locs (l.length-1-k))[3]?=some true:=(by rw [gE (by show 3<8;decide)];exact Gl some (by rw [<- UI ((qJ l[k] locs (l.length-1-k))[3]'(by show 3<8;decide)),hb];rfl));refine⟨_,(ze (by omega)).trans rfl,4,(cvE rfl rfl),⟨by omega,fun i hi=>?_,hI3,(zst hb2 hbW)⟩,by decide⟩;by_cases hik:i=3
     ·rw [hik];exact hb
     ·exact hpre i (by omega)
   ·refine⟨_,hat2 rfl,cmo (zqb hS) ?_⟩;rintro e W ⟨rfl,hbW⟩;have hI3:=hI2.below hbW;refine biE (fun hb=>?_) fun hb=>?_
    ·have hb:(!((qJ l[k] locs (l.length-1-k))[4]'(by show 4<8;decide)))=true:=hb;have hb:(qJ l[k] locs (l.length-1-k))[4]?=some false:=(by rw [gE (by show 4<8;decide)];exact Gl some (by rw [<- UI ((qJ l[k] locs (l.length-1-k))[4]'(by show 4<8;decide)),hb];rfl));exact zcR hkl hb ((zst hb2 hbW))
    ·have hb:(!((qJ l[k] locs (l.length-1-k))[4]'(by show 4<8;decide)))=false:=hb;have hb:(qJ l[k] locs (l.length-1-k))[4]?=some true:=(by rw [gE (by show 4<8;decide)];exact Gl some (by rw [<- UI ((qJ l[k] locs (l.length-1-k))[4]'(by show 4<8;decide)),hb];rfl));refine⟨_,(ze (by omega)).trans rfl,5,(cvE rfl rfl),⟨by omega,fun i hi=>?_,hI3,(zst hb2 hbW)⟩,by decide⟩;by_cases hik:i=4
     ·rw [hik];exact hb
     ·exact hpre i (by omega)
   ·refine⟨_,hat2 rfl,cmo (zjy hS.cells) ?_⟩;rintro e _ ⟨rfl,rfl⟩;have hbW:Bw X2 X2:=Gd _ _;have hI3:=hI2;refine biE (fun hb=>?_) fun hb=>?_
    ·have hb:(!((qJ l[k] locs (l.length-1-k))[5]'(by show 5<8;decide)))=true:=hb;have hb:(qJ l[k] locs (l.length-1-k))[5]?=some false:=(by rw [gE (by show 5<8;decide)];exact Gl some (by rw [<- UI ((qJ l[k] locs (l.length-1-k))[5]'(by show 5<8;decide)),hb];rfl));exact zcR hkl hb ((zst hb2 hbW))
    ·have hb:(!((qJ l[k] locs (l.length-1-k))[5]'(by show 5<8;decide)))=false:=hb;have hb:(qJ l[k] locs (l.length-1-k))[5]?=some true:=(by rw [gE (by show 5<8;decide)];exact Gl some (by rw [<- UI ((qJ l[k] locs (l.length-1-k))[5]'(by show 5<8;decide)),hb];rfl));refine⟨_,(ze (by omega)).trans rfl,6,(cvE rfl rfl),⟨by omega,fun i hi=>?_,hI3,(zst hb2 hbW)⟩,by decide⟩;by_cases hik:i=5
     ·rw [hik];exact hb
     ·exact hpre i (by omega)
   ·refine⟨_,hat2 rfl,cmo (zmO hS.cells) ?_⟩;rintro e _ ⟨rfl,rfl⟩;have hbW:Bw X2 X2:=Gd _ _;have hI3:=hI2;refine biE (fun hb=>?_) fun hb=>?_
    ·have hb:(!((qJ l[k] locs (l.length-1-k))[6]'(by show 6<8;decide)))=true:=hb;have hb:(qJ l[k] locs (l.length-1-k))[6]?=some false:=(by rw [gE (by show 6<8;decide)];exact Gl some (by rw [<- UI ((qJ l[k] locs (l.length-1-k))[6]'(by show 6<8;decide)),hb];rfl));exact zcR hkl hb ((zst hb2 hbW))
    ·have hb:(!((qJ l[k] locs (l.length-1-k))[6]'(by show 6<8;decide)))=false:=hb;have hb:(qJ l[k] locs (l.length-1-k))[6]?=some true:=(by rw [gE (by show 6<8;decide)];exact Gl some (by rw [<- UI ((qJ l[k] locs (l.length-1-k))[6]'(by show 6<8;decide)),hb];rfl));refine⟨_,(ze (by omega)).trans rfl,7,(cvE rfl rfl),⟨by omega,fun i hi=>?_,hI3,(zst hb2 hbW)⟩,by decide⟩;by_cases hik:i=6
     ·rw [hik];exact hb
     ·exact hpre i (by omega)
   ·refine⟨_,hat2 rfl,cmo (zqa hS (ho (by omega))) ?_⟩;rintro e W ⟨rfl,hbW⟩;have hI3:=hI2.below hbW;refine biE (fun hb=>?_) fun hb=>?_
    ·have hb:(!((qJ l[k] locs (l.length-1-k))[7]'(by show 7<8;decide)))=true:=hb;have hb:(qJ l[k] locs (l.length-1-k))[7]?=some false:=(by rw [gE (by show 7<8;decide)];exact Gl some (by rw [<- UI ((qJ l[k] locs (l.length-1-k))[7]'(by show 7<8;decide)),hb];rfl));exact zcR hkl hb ((zst hb2 hbW))
    ·have hb:(!((qJ l[k] locs (l.length-1-k))[7]'(by show 7<8;decide)))=false:=hb;have hb:(qJ l[k] locs (l.length-1-k))[7]?=some true:=(by rw [gE (by show 7<8;decide)];exact Gl some (by rw [<- UI ((qJ l[k] locs (l.length-1-k))[7]'(by show 7<8;decide)),hb];rfl));refine⟨_,(ze (by omega)).trans rfl,8,(cvE rfl rfl),⟨by omega,fun i hi=>?_,hI3,(zst hb2 hbW)⟩,by decide⟩;by_cases hik:i=7
     ·rw [hik];exact hb
     ·exact hpre i (by omega)
  ·have hc2:¬ (j:Int)<8:=dF hc2;obtain rfl:j=8:=by omega
   have hok:zgU l[k] locs (l.length-1-k)=true:=zj6 hpre rfl;refine nxI (by omega) ⟨k+1,(cvE rfl rfl),⟨hkl,fun i hi x hlx=>?_,⟨_,_,hI2⟩,hb2⟩,zdc (by omega)⟩;by_cases hik:i=k
   ·subst hik;rw [gE hkl] at hlx;rw [<- Uh hlx];exact hok
   ·exact hdone i (by omega) x hlx
 ·have hc:¬ (k:Int)<(l.length:Int):=dF hc;obtain rfl:k=l.length:=by omega
  refine⟨rb ?_,hbX⟩;unfold qr;rw [Uu (by omega),UA,Eq.comm,Qm];intro i hi;have hi:i<l.length:=Uq.1 hi;rw [gE hi];exact hdone i hi _ (gE hi)
structure GlobE (w:Wd):Prop where
 c:GlobC w
 t64:Tz64M w
 t32:Tz32M w
theorem GlobE.below {w w2:Wd} (h:GlobE w) (hb:Bw w w2):GlobE w2:=⟨h.c.below hb,h.t64.below hb,h.t32.below hb⟩
abbrev zc0:=PathD×(OA×Nat)×(OA×Nat)×(OA×Nat)×(OA×Nat)
def jG:Enc zc0:=⟨fun x=>zgQ x.1 x.2.1.1 x.2.1.2 x.2.2.1.1 x.2.2.1.2 x.2.2.2.1.1 x.2.2.2.1.2 x.2.2.2.2.1 x.2.2.2.2.2,12,fun _=>zjm ..,by decide,fun a u hu=>Qm.1 (zjl ..) u hu⟩
structure RowIn {α:Type} (E:Enc α) (T:TypeId) (B:Nat) (F:Nat->Prop) (Y:Wd) (q:OA) (c:Nat) (l:List α):Prop where
 own:OwnS E T B Y q c l
 inF:∀ a,q=some a->F a.block
section
variable {α:Type} {E:Enc α} {T:TypeId} {B:Nat} {F G:Nat->Prop} {Y Z:Wd} {q:OA} {c:Nat} {l:List α}
theorem zao (h:OwnS E T B Y q c l) {a:Addr} (ha:q=some a):B<=a.block/\a.block<Y.heap.size/\∃ cur,Y.heap[a.block]?=some (.cells cur T (0,0)):=by
 rcases h.inv with ⟨h1,_⟩ | ⟨g,cur,h1,h2,h3,_⟩
 ·rw [h1] at ha;cases ha
 ·rw [h1] at ha;cases ha;exact⟨h2,hlt h3,cur,h3⟩
theorem RowIn.same (h:RowIn E T B F Y q c l) (hs:∀ k,F k->k<Y.heap.size->Z.heap[k]?=Y.heap[k]?) (hG:∀ k,F k->G k):RowIn E T B G Z q c l :=
 ⟨h.own.same fun a ha=>hs _ (h.inF a ha) (zao h.own ha).2.1,fun a ha=>hG _ (h.inF a ha)⟩
end
def PthIn (B:Nat) (F:Nat->Prop) (Y:Wd) (x:zc0):Prop:=RowIn evE 60 B F Y x.2.1.1 x.2.1.2 x.1.ev/\RowIn prE 184 B F Y x.2.2.1.1 x.2.2.1.2 x.1.data/\RowIn prE 184 B F Y x.2.2.2.1.1 x.2.2.2.1.2 x.1.ctrl/\RowIn prE 184 B F Y x.2.2.2.2.1 x.2.2.2.2.2 x.1.rmw
theorem PthIn.same {B:Nat} {F G:Nat->Prop} {Y Z:Wd} {x:zc0} (h:PthIn B F Y x) (hs:∀ k,F k->k<Y.heap.size->Z.heap[k]?=Y.heap[k]?) (hG:∀ k,F k->G k):PthIn B G Z x :=
 ⟨h.1.same hs hG,h.2.1.same hs hG,h.2.2.1.same hs hG,h.2.2.2.same hs hG⟩
theorem jj {W A B:Wd} {r:Option Nat} (h:W.grownBy A r) (hb:Below W.heap.size A B):W.grownBy B r :=
 ⟨hb.os.trans h.os,hb.tape.trans h.tape,hb.output.trans h.output,UO h.size hb.size,fun k hk hne=>(hb.block k hk).trans (h.block k hk hne)⟩
theorem zpk {q:OA} {cap:Nat} {l:List InsD} {w:Wd} (hl:SlR zH w q l) (hG:GlobC w) (hn:l.length<=140737488351232) :
  CB 37 #[.slice q l.length cap] w (.bool (qr l 6)):=by
 refine zI 5 [.slice q l.length cap] Tryz.func37 ?_;refine cmo (zj8 (locs:=6) hl hG hn) ?_;rintro e X ⟨rfl,hb⟩;exact⟨rfl,hb⟩
def JPa (B n0 L:Nat) (W:Wd) (pre:List RunD) (F:Nat->Prop) (Y:Wd):Prop :=
 (n0<=Y.heap.size/\F L/\∀ k,F k->k<Y.heap.size)/\(∃ (xs:List zc0) (p:OA) (c:Nat),Y.heap[L]?=some (.cells [.slice p xs.length c].toArray 78 (0,0))/\RowIn jG 73 B F Y p c xs/\xs.map (·.1)=pre.map za8/\∀ x∈xs,PthIn n0 F Y x)/\Below B W Y
theorem JPa.iter {B n0 L:Nat} {W:Wd} (hB:B<=n0) (hn:n0=W.heap.size):JG n0 (fun _=>False) (JPa B n0 L W):=by
 refine⟨?_,?_⟩
 ·rintro pre F A C ⟨⟨h1,h2,h3⟩,⟨xs,p,c,h4,h5,h6,h7⟩,h8⟩ hs;have sf:∀ k,F k->k<A.heap.size->C.heap[k]?=A.heap[k]?:=fun k hk hl=>hs.same k hl (.inr hk);refine⟨⟨UO h1 hs.size,h2,fun k hk=>nL (h3 k hk) hs.size⟩,⟨xs,p,c,(sf L h2 (h3 L h2)).trans h4,h5.same sf fun k h=>h,h6,fun x hx=>(h7 x hx).same sf fun k h=>h⟩,h8.trans ⟨hs.os,hs.tape,hs.output,hs.size,fun k hk=>hs.same k (by omega) (.inl ⟨by omega,fun h=>h⟩)⟩⟩
 ·rintro pre F A k ⟨⟨_,_,h3⟩,_⟩ hk;exact⟨h3 k hk,fun h=>h⟩
def PthO (B:Nat) (Y:Wd) (x:zc0):Prop:=OwnS evE 60 B Y x.2.1.1 x.2.1.2 x.1.ev/\OwnS prE 184 B Y x.2.2.1.1 x.2.2.1.2 x.1.data/\OwnS prE 184 B Y x.2.2.2.1.1 x.2.2.2.1.2 x.1.ctrl/\OwnS prE 184 B Y x.2.2.2.2.1 x.2.2.2.2.2 x.1.rmw
theorem PthO.mono {B B':Nat} {Y:Wd} {x:zc0} (h:PthO B Y x) (hB:B'<=B):PthO B' Y x:=⟨OwnS.lower h.1 hB,OwnS.lower h.2.1 hB,OwnS.lower h.2.2.1 hB,OwnS.lower h.2.2.2 hB⟩
def wrE (R:RunD) (i:Nat) (v:UInt8):Bool:=(List.range i).any fun j=>decide ((R.ev j).k=2)&&decide ((R.ev j).v=v)
def wrL (rs:List RunD) (v:UInt8):Bool:=rs.any fun R=>wrE R R.many v
theorem zkd (rs:List RunD):zah rs=zO.filter (wrL rs):=rfl
def wrC (f:UInt8->Bool):List Value:=seg 256 fun i => .bool (f (UInt8.ofNat i))
theorem zke (f:UInt8->Bool) {i:Nat} (h:i<256):(wrC f)[i]?=some (.bool (f (UInt8.ofNat i))):=zbo _ h
theorem zpi (f:UInt8->Bool) (x:UInt8):(wrC f).set x.toNat (.bool true)=wrC fun v=>f v||decide (x=v):=by
 have hx:=x.toNat_lt;apply KT;intro j;by_cases hj:j<256
 ·rw [zke _ hj];by_cases e:x.toNat=j
  ·subst e;rw [JH (by unfold wrC;rw [zw];exact hx),UInt8.ofNat_toNat,Uu rfl,Bool.or_true]
  ·rw [JY e,zke _ hj];have:x≠UInt8.ofNat j:=fun h=>e (by rw [h,KK];omega);rw [Uj this,Uz]
 ·rw [JM (by unfold wrC;rw [QS,zw];omega),JM (by unfold wrC;rw [zw];omega)]
theorem zlh (f:UInt8->Bool):(wrC f).length=256:=zw _ _
theorem zne (rs:List RunD) (R:RunD) (v:UInt8):wrL (rs++[R]) v=(wrL rs v||wrE R R.many v):=by
 unfold wrL;rw [List.any_append];simp
theorem zng (R:RunD) (i:Nat) (v:UInt8):wrE R (i+1) v=(wrE R i v||(decide ((R.ev i).k=2)&&decide ((R.ev i).v=v))):=by
 unfold wrE;rw [QY,List.any_append];simp
theorem zkP (p:UInt8->Bool) (x:UInt8):[x].filter p=if p x=true then [x] else []:=by
 rw [Qq,List.filter_nil]
theorem zoQ {k:Nat} (h:k<256):∃ hl:k<zO.length,zO[k]=UInt8.ofNat k:=by
 have hl:zO.length=256:=by unfold zO;rw [QQ,KY]
 refine⟨by rw [hl];exact h,?_⟩;simp [zO]
theorem zsr:List.replicate 256 (Value.bool false)=wrC fun _=>false:=by kernel_rfl
theorem zc8 {a b:Nat}:decide ((a:Int)<(b:Int))=decide (a<b):=by rw [QI];omega
def jx (c:Cnd):Bool:=decide (c.thread=0)&&(decide (c.n=0)&&decide (c.val=0))
theorem zap {threads locs d:Nat} (c:Cnd):j9 threads locs (d+1) c=(if c.kind=0 then jx c&&decide (c.kids.length=0) else
  if c.kind=1 then decide (c.thread.toNat<threads)&&(decide (c.n.toNat<8)&&decide (c.kids.length=0)) else
  if c.kind=2 then decide (c.n.toNat<locs)&&(decide (c.thread=0)&&decide (c.kids.length=0)) else
  if c.kind=3\/c.kind=4 then jx c&&(decide (2<=c.kids.length)&&c.kids.all (j9 threads locs d)) else
  if c.kind=5 then jx c&&(decide (c.kids.length=1)&&c.kids.all (j9 threads locs d)) else false):=by
 obtain⟨k,t,n,v,kids⟩:=c;rfl
def zqI (c:Cnd):Prop:=(c.kind=3\/c.kind=4)/\jx c=true/\2<=c.kids.length\/c.kind=5/\jx c=true/\c.kids.length=1
theorem zkY {threads locs d:Nat} {c:Cnd} (h:zqI c):j9 threads locs (d+1) c=c.kids.all (j9 threads locs d):=by
 rw [zap];rcases h with ⟨h1,h2,h3⟩ | ⟨h1,h2,h3⟩
 ·rw [Gq (by rcases h1 with h | h <;> rw [h] <;> decide),Gq (by rcases h1 with h | h <;> rw [h] <;> decide),Gq (by rcases h1 with h | h <;> rw [h] <;> decide),Gr h1,h2,Uu h3];rfl
 ·rw [Gq (by rw [h1];decide),Gq (by rw [h1];decide),Gq (by rw [h1];decide),Gq (by rw [h1];decide),Gr h1,h2,Uu h3];rfl
theorem zjV {B threads locs:Nat} {w:Wd} (hB:B<=w.heap.size):∀ (d:Nat) (c:Cnd) (b o:Nat) (p:OA) (cap:Nat),d<=1000->b<B->zx w ⟨b,o,none⟩ (jN c p cap)->KidsV B w p c.kids ->
  Calls PG 92 #[.pointer (some ⟨b,o,none⟩),i64 threads,i64 locs,i64 d] w fun e w'=>e = .returned (.bool (j9 threads locs d c))/\w=w':=by
 intro d
 induction d with
 | zero =>
  intro c b o p cap _ hb hc hk;refine zI 141 [.pointer (some ⟨b,o,none⟩),i64 threads,i64 locs,i64 0] Tryz.func92 ?_;exact brT ⟨rfl,rfl⟩
 | succ d ih =>
  intro c b o p cap hd hb hc hk;refine qX 141 [.pointer (some ⟨b,o,none⟩),i64 threads,i64 locs,i64 (d+1:Nat)] (.s .p (.s .p (.c .p (.c .p .p)))) Tryz.func92 ?_;have hbl:b<w.heap.size:=nL hb hB;refine biE (fun h=>?_) fun h=>?_
  ·have h:((d+1:Nat):Int)=0:=dT h;omega
  clear h;refine⟨Unit,fun _=>⟨[(0,.pointer (some ⟨b,o,none⟩)),(1,i64 threads),(2,i64 locs),(3,i64 (d+1:Nat)),(9,.bool (jx c))],[]⟩,fun _ X=>w=X,?_,?_⟩
  ·have fin:∀ {v:Bool},v=jx c->some (Value.bool v)=some (.bool (jx c)):=fun h=>by rw [h]
   refine⟨_,zc hc (i:=1) rfl,biE (fun h1=>?_) fun h1=>?_⟩
   ·have h1:decide (c.thread=0)=true:=(u8d c.thread 0).symm.trans h1;refine⟨_,zc hc (i:=2) rfl,biE (fun h2=>?_) fun h2=>?_⟩
    ·have h2:decide (c.n=0)=true:=(u8d c.n 0).symm.trans h2;exact⟨_,zc hc (i:=3) rfl,(),⟨.cons rfl (.cons rfl (.cons rfl (.cons rfl (.cons (fin (by unfold jx;rw [h1,h2];exact u8d c.val 0)) .nil)))),rfl⟩,rfl⟩
    ·have h2:decide (c.n=0)=false:=(u8d c.n 0).symm.trans h2;exact⟨(),⟨.cons rfl (.cons rfl (.cons rfl (.cons rfl (.cons (fin (by unfold jx;rw [h1,h2];rfl)) .nil)))),rfl⟩,rfl⟩
   ·have h1:decide (c.thread=0)=false:=(u8d c.thread 0).symm.trans h1;exact brF ⟨(),⟨.cons rfl (.cons rfl (.cons rfl (.cons rfl (.cons (fin (by unfold jx;rw [h1];rfl)) .nil)))),rfl⟩,rfl⟩
  rintro _ _ rfl;refine⟨Unit,fun _=>⟨[(0,.pointer (some ⟨b,o,none⟩)),(1,i64 threads),(2,i64 locs),(3,i64 (d+1:Nat))],[]⟩,fun _ X=>zqI c/\w=X,?_,?_⟩
  ·have hkn:c.kids.length<=140737488351232:=by have:=hk.inv.1;omega
   refine⟨_,zc hc (i:=0) rfl,biE (fun h0=>?_) fun h0=>?_⟩
   ·have h0:c.kind=0:=dT ((u8d c.kind 0).symm.trans h0);have e:j9 threads locs (d+1) c=(jx c&&decide (c.kids.length=0)):=(by rw [zap,Gr h0]);rw [e];refine biE (fun h=>?_) fun h=>?_
    ·have h:jx c=true:=h;exact⟨_,zc hc (i:=4) rfl,rb (by rw [h,UA];exact zbL),rfl⟩
    ·have h:jx c=false:=h;exact⟨rb (by rw [h];rfl),rfl⟩
   have h0:¬ c.kind=0:=dF ((u8d c.kind 0).symm.trans h0);refine biE (fun h1=>?_) fun h1=>?_
   ·have h1:c.kind=1:=dT ((u8d c.kind 1).symm.trans h1);have e:j9 threads locs (d+1) c=(decide (c.thread.toNat<threads)&&(decide (c.n.toNat<8)&&decide (c.kids.length=0))):=(by rw [zap,Gq h0,Gr h1]);rw [e];refine⟨_,zc hc (i:=1) rfl,_,qH _,biE (fun h=>?_) fun h=>?_⟩
    ·have h:decide (c.thread.toNat<threads)=true:=zc8.symm.trans h;refine⟨_,zc hc (i:=2) rfl,biE (fun h2=>?_) fun h2=>?_⟩
     ·have h2:decide (c.n.toNat<8)=true:=(zc8 (b:=8)).symm.trans h2;exact⟨_,zc hc (i:=4) rfl,rb (by rw [h,h2];exact zbL),rfl⟩
     ·have h2:decide (c.n.toNat<8)=false:=(zc8 (b:=8)).symm.trans h2;exact⟨rb (by rw [h,h2];rfl),rfl⟩
    ·have h:decide (c.thread.toNat<threads)=false:=zc8.symm.trans h;exact brF ⟨rb (by rw [h];rfl),rfl⟩
   have h1:¬ c.kind=1:=dF ((u8d c.kind 1).symm.trans h1);refine biE (fun h2=>?_) fun h2=>?_
   ·have h2:c.kind=2:=dT ((u8d c.kind 2).symm.trans h2);have e:j9 threads locs (d+1) c=(decide (c.n.toNat<locs)&&(decide (c.thread=0)&&decide (c.kids.length=0))):=(by rw [zap,Gq h0,Gq h1,Gr h2]);rw [e];refine⟨_,zc hc (i:=2) rfl,_,qH _,biE (fun h=>?_) fun h=>?_⟩
    ·have h:decide (c.n.toNat<locs)=true:=zc8.symm.trans h;refine⟨_,zc hc (i:=1) rfl,biE (fun h3=>?_) fun h3=>?_⟩
     ·have h3:decide (c.thread=0)=true:=(u8d c.thread 0).symm.trans h3;exact⟨_,zc hc (i:=4) rfl,rb (by rw [h,h3];exact zbL),rfl⟩
     ·have h3:decide (c.thread=0)=false:=(u8d c.thread 0).symm.trans h3;exact⟨rb (by rw [h,h3];rfl),rfl⟩
    ·have h:decide (c.n.toNat<locs)=false:=zc8.symm.trans h;exact brF ⟨rb (by rw [h];rfl),rfl⟩
   have h2:¬ c.kind=2:=dF ((u8d c.kind 2).symm.trans h2);have g34:∀ (hk34:c.kind=3\/c.kind=4),j9 threads locs (d+1) c=(jx c&&(decide (2<=c.kids.length)&&c.kids.all (j9 threads locs d))):=fun hk34=>by
    rw [zap,Gq h0,Gq h1,Gq h2,Gr hk34]
   refine biE (fun h3=>?_) fun h3=>?_
   ·have h3':decide ((c.kind.toNat:Int)=3)=true:=h3;have h3:c.kind=3\/c.kind=4 := .inl (dT ((u8d c.kind 3).symm.trans h3));refine brE h3' (biE (fun h=>?_) fun h=>?_)
    ·have h:(!jx c)=true:=h;have h:jx c=false:=(by simpa using h);exact brT ⟨rb (by rw [g34 h3,h];rfl),rfl⟩
    ·have h:(!jx c)=false:=h;have h:jx c=true:=(by simpa using h);refine⟨_,zc hc (i:=4) rfl,biE (fun h4=>?_) fun h4=>?_⟩
     ·have h4:(c.kids.length:Int)<2:=dT h4;exact⟨rb (by rw [g34 h3,Uj (by omega)];simp),rfl⟩
     ·have h4:¬ (c.kids.length:Int)<2:=dF h4;exact⟨(),(cvE rfl rfl),.inl ⟨h3,h,by omega⟩,rfl⟩
   have h3:¬ c.kind=3:=dF ((u8d c.kind 3).symm.trans h3);refine biE (fun h4=>?_) fun h4=>?_
   ·have h3:c.kind=3\/c.kind=4 := .inr (dT ((u8d c.kind 4).symm.trans h4));refine biE (fun h=>?_) fun h=>?_
    ·have h:(!jx c)=true:=h;have h:jx c=false:=(by simpa using h);exact brT ⟨rb (by rw [g34 h3,h];rfl),rfl⟩
    ·have h:(!jx c)=false:=h;have h:jx c=true:=(by simpa using h);refine⟨_,zc hc (i:=4) rfl,biE (fun h4=>?_) fun h4=>?_⟩
     ·have h4:(c.kids.length:Int)<2:=dT h4;exact⟨rb (by rw [g34 h3,Uj (by omega)];simp),rfl⟩
     ·have h4:¬ (c.kids.length:Int)<2:=dF h4;exact⟨(),(cvE rfl rfl),.inl ⟨h3,h,by omega⟩,rfl⟩
   have h4:¬ c.kind=4:=dF ((u8d c.kind 4).symm.trans h4);have h34:¬ (c.kind=3\/c.kind=4):=fun h=>h.elim h3 h4;refine biE (fun h5=>?_) fun h5=>?_
   ·have h5:c.kind=5:=dT ((u8d c.kind 5).symm.trans h5);have e:j9 threads locs (d+1) c=(jx c&&(decide (c.kids.length=1)&&c.kids.all (j9 threads locs d))):=(by rw [zap,Gq h0,Gq h1,Gq h2,Gq h34,Gr h5]);refine biE (fun h=>?_) fun h=>?_
    ·have h:(!jx c)=true:=h;have h:jx c=false:=(by simpa using h);exact brT ⟨rb (by rw [e,h];rfl),rfl⟩
    ·have h:(!jx c)=false:=h;have h:jx c=true:=(by simpa using h);refine⟨_,zc hc (i:=4) rfl,biE (fun h4=>?_) fun h4=>?_⟩
     ·have h4:(!decide ((c.kids.length:Int)=1))=true:=h4;have h4:¬ (c.kids.length:Int)=1:=(by simpa using h4);exact⟨rb (by rw [e,Uj (by omega)];simp),rfl⟩
     ·have h4:(!decide ((c.kids.length:Int)=1))=false:=h4;have h4:(c.kids.length:Int)=1:=(by simpa using h4);exact⟨(),(cvE rfl rfl),.inr ⟨h5,h,by omega⟩,rfl⟩
   have h5:¬ c.kind=5:=dF ((u8d c.kind 5).symm.trans h5);exact⟨rb (by rw [zap,Gq h0,Gq h1,Gq h2,Gq h34,Gq h5]),rfl⟩
  rintro _ _ ⟨ha,rfl⟩;rw [zkY ha];refine⟨_,zc hc (i:=4) rfl,?_⟩;obtain⟨hn,b1,o1,hp,hks⟩:=hk.inv;refine⟨Nat,fun k=>⟨[(0,.pointer (some ⟨b,o,none⟩)),(1,i64 threads),(2,i64 locs),(3,i64 (d+1:Nat)),(124,i64 c.kids.length),(125,i64 (k:Nat))],[]⟩,fun k X=>k<=c.kids.length/\(∀ x∈c.kids.take k,j9 threads locs d x=true)/\w=X,fun k=>c.kids.length-k,0,
   (cvE rfl rfl),⟨Gb _,by simp,rfl⟩,?_⟩
  rintro k _ ⟨hk,hall,rfl⟩;dsimp only at hk hall ⊢;refine biE (fun hc2=>?_) fun hc2=>?_
  ·have hc2:(k:Int)<(c.kids.length:Int):=dT hc2;have hkl:k<c.kids.length:=by omega
   rcases hp with hp | rfl
   ·omega
   obtain⟨q,cq,hb1,hq,hkq⟩:=hks k hkl;refine⟨_,zc hc (i:=4) rfl,k,rfl,hkl,(d:Int),(ze (by omega)).trans (by omega),cmo (ih c.kids[k] b1 (o1+k*5) q cq (by omega) hb1 hq hkq) ?_⟩;rintro e _ ⟨rfl,rfl⟩;refine biE (fun h=>?_) fun h=>?_
   ·have h:(!j9 threads locs d c.kids[k])=true:=h;refine⟨rb ?_,rfl⟩;symm;rw [KQ];exact⟨c.kids[k],gM _,by simpa using h⟩
   ·have h:(!j9 threads locs d c.kids[k])=false:=h;refine⟨_,(ze (by omega)).trans rfl,k+1,(cvE rfl rfl),⟨hkl,?_,rfl⟩,zdc (by omega)⟩;rw [tsg hkl];intro x hx;rcases QU.1 hx with hx | hx
    ·exact hall x hx
    ·simp only [KD] at hx;rw [hx];simpa using h
  ·have hc2:¬ (k:Int)<(c.kids.length:Int):=dF hc2;obtain rfl:k=c.kids.length:=by omega
   rw [Qz] at hall;exact⟨rb (Qm.2 hall).symm,rfl⟩
theorem zrQ {B threads locs cap:Nat} {p:OA} {c:Cnd} {w:Wd} (hB:B<=w.heap.size) (hk:KidsV B w p c.kids) :
  CB 70 #[.agg (jN c p cap).toArray,i64 threads,i64 locs] w (.bool (j9 threads locs 20 c)):=by
 refine zI 10 [.agg (jN c p cap).toArray,i64 threads,i64 locs] Tryz.func70 ?_;have hb:Bw w (w.alloc (.cells (jN c p cap).toArray 27)):=zba w _;have hn:=zz w (.cells (jN c p cap).toArray 27);refine cmo (zjV (B:=w.heap.size+1) (by rw [wz];omega) 20 c w.heap.size 0 p cap (by omega) (by omega) (za hn) ((hk.kept (hb.mono hB)).wider (by omega))) ?_;rintro e _ ⟨rfl,rfl⟩;exact⟨rfl,hb⟩
theorem zjB {g:Nat} {p:Prg} {p1 p2 p3 p4:OA} {c1 c2 c3 c4 B:Nat} {w:Wd} (hc:zx w ⟨g,0,none⟩ (qA p p1 c1 p2 c2 p3 c3 p4 c4)) (hg:g<w.heap.size) (h1:RowB zjx B w p1 p.locs) (hB:B<=w.heap.size) (hcap:p.locs.length<=c1) (hl:PrgLen p) :
  CB 62 #[At0 g] w (.bool (zdq p)):=by
 refine qX 56 [At0 g] (.s .p (.c .p .p)) Tryz.func62 ?_;have hbd:Bw w w.drew:=(Gd _ w).drew;have hcd:zx w.drew ⟨g,0,none⟩ (qA p p1 c1 p2 c2 p3 c3 p4 c4):=zm hbd hc;have h1d:SlR zjx w.drew p1 p.locs:=(h1.below (hbd.mono hB)).slr (UO hB hbd.size);have hln:=hl.locs;refine⟨Unit,fun _=>⟨[(0,At0 g)],[]⟩,fun _ X=>(1<=p.locs.length/\p.locs.length<=6/\p.init.length=p.locs.length)/\X=w.drew,?_,?_⟩
 ·refine DrawE.ord [] [0,1,2,3,4,5,6,7,8,9,10,11,12,13,14,15,16,17,18,19,20,21,22,23,24,25,26] (by kernel_rfl) ⟨_,zc hcd (i:=1) rfl,biE (fun ha=>?_) fun ha=>?_⟩
  ·have ha:(p.locs.length:Int)<1:=dT ha;exact brT (brT ⟨rb (by unfold zdq;rw [Uj (by omega)];rfl),hbd⟩)
  ·have ha:¬ (p.locs.length:Int)<1:=dF ha;refine⟨_,zc hcd (i:=1) rfl,biE (fun hd=>?_) fun hd=>?_⟩
   ·have hd:(6:Int)<(p.locs.length:Int):=dT hd;exact brT ⟨rb (by unfold zdq;rw [Uj (p:=p.locs.length<=6) (by omega)];simp),hbd⟩
   ·have hd:¬ (6:Int)<(p.locs.length:Int):=dF hd;refine⟨_,zc hcd (i:=2) rfl,_,zc hcd (i:=1) rfl,biE (fun he=>?_) fun he=>?_⟩
    ·have he:(!decide ((p.init.length:Int)=(p.locs.length:Int)))=true:=he;have he:¬ (p.init.length:Int)=(p.locs.length:Int):=(by simpa using he);exact⟨rb (by unfold zdq;rw [Uj (p:=p.init.length=p.locs.length) (by omega)];simp),hbd⟩
    ·have he:(!decide ((p.init.length:Int)=(p.locs.length:Int)))=false:=he;have he:(p.init.length:Int)=(p.locs.length:Int):=(by simpa using he);exact⟨(),(cvE rfl rfl),⟨by omega,by omega,by omega⟩,rfl⟩
 rintro _ _ ⟨⟨l1,l6,li⟩,rfl⟩;have hdef:zdq p=zdB [] p.locs:=by unfold zdq;rw [Uu l1,Uu l6,Uu li];rfl
 rw [hdef];refine⟨_,zc hcd (i:=1) rfl,?_⟩;refine⟨Nat,fun k=>⟨[(0,At0 g),(35,.slice p1 p.locs.length c1),(36,i64 p.locs.length),(37,i64 (k:Nat))],[]⟩,fun k X=>k<=p.locs.length/\zdB (p.locs.take k) (p.locs.drop k)=zdB [] p.locs/\X=w.drew,fun k=>p.locs.length-k,0,
  (cvE rfl rfl),⟨Gb _,rfl,rfl⟩,?_⟩
 rintro k _ ⟨hk,hna,rfl⟩;dsimp only at hk hna ⊢;refine biE (fun hc2=>?_) fun hc2=>?_
 ·have hc2:(k:Int)<(p.locs.length:Int):=dT hc2;have hkl:k<p.locs.length:=by omega
  obtain⟨b,o,rfl,hb,hat⟩:=h1d.at hkl;have hbk:Bw w w.drew:=hbd;refine⟨k,rfl,hkl,_,zc (hat k hkl) (i:=0) rfl,?_⟩;have hs:p.locs[k].length<=140737488351232:=hl.loc _ (gM _);have hstep:zdB [] p.locs=(zd7 p.locs[k]&&(!((p.locs.take k).any fun q=>decide (q=p.locs[k]))&&zdB (p.locs.take (k+1)) (p.locs.drop (k+1)))):=by
   rw [<- hna,Jq hkl,tsg hkl];rfl
  refine cmo (zrI p.locs[k] hs _) ?_;rintro e _ ⟨rfl,rfl⟩;refine biE (fun h=>?_) fun h=>?_
  ·have h:(!zd7 p.locs[k])=true:=h;have h:zd7 p.locs[k]=false:=by simpa using h
   exact brT ⟨rb (by rw [hstep,h];rfl),hbd⟩
  ·have h:(!zd7 p.locs[k])=false:=h;have h:zd7 p.locs[k]=true:=by simpa using h
   refine⟨_,zc hcd (i:=1) rfl,k,rfl,by omega,?_⟩;have hsub:SlR zjx w.drew (jd (some ⟨b,o,none⟩) c1 0 1) (p.locs.take k):=SlR.sub h1d (lo:=0) (hi:=k) (Gb _) (by omega) hcap;have htl:(p.locs.take k).length=k:=by rw [Qx];omega
   have hcn:=zlb (jd (some ⟨b,o,none⟩) c1 0 1) (c1-0) (p.locs.take k) p.locs[k] w.drew hsub (by omega);rw [htl] at hcn;refine cmo hcn ?_;rintro e _ ⟨rfl,rfl⟩;refine biE (fun h5=>?_) fun h5=>?_
   ·have h5:((p.locs.take k).any fun q=>decide (q=p.locs[k]))=true:=h5;exact⟨rb (by rw [hstep,h5];simp),hbd⟩
   ·have h5:((p.locs.take k).any fun q=>decide (q=p.locs[k]))=false:=h5;exact⟨_,(ze (by omega)).trans rfl,k+1,(cvE rfl rfl),⟨hkl,by rw [hstep,h,h5];rfl,rfl⟩,zdc (by omega)⟩
 ·have hc2:¬ (k:Int)<(p.locs.length:Int):=dF hc2;obtain rfl:k=p.locs.length:=by omega
  rw [Qp] at hna;exact⟨rb hna,hbd⟩
structure DmV (B:Nat) (X:Wd) (g bx:Nat) (p:Prg):Prop where
 hB:B<=X.heap.size
 hg:g<X.heap.size
 len:PrgLen p
 h:∃ p1 c1 p2 c2 p3 c3 p4 c4,zx X ⟨g,0,none⟩ (qA p p1 c1 p2 c2 p3 c3 p4 c4)/\RowB zjx B X p1 p.locs/\RowB zM B X p2 p.init/\ThrsV B X p3 p.threads/\KidsV B X p4 p.cond.kids/\p.locs.length<=c1
 b:X.heap[bx]?=some (.cells #[At0 g] 84 (0,0))
 G:GlobC X
theorem DmV.below {B:Nat} {X Y:Wd} {g bx:Nat} {p:Prg} (h:DmV B X g bx p) (hb:Bw X Y):DmV B Y g bx p:=by
 obtain⟨p1,c1,p2,c2,p3,c3,p4,c4,h0,h1,h2,h3,h4,h5⟩:=h.h;have hb':=hb.mono h.hB;exact⟨UO h.hB hb.size,nL h.hg hb.size,h.len,⟨p1,c1,p2,c2,p3,c3,p4,c4,zm hb h0,h1.below hb',h2.below hb',h3.below hb',h4.kept hb',h5⟩,zb hb h.b,h.G.below hb⟩
def zku (sel:Bool) (bx:Nat):Value:=match sel with
 | false => .func (.func 64) #[] #[]
 | true => .func (.func 66) #[] #[.pointer (some ⟨bx,0,none⟩)]
def zbT (sel:Bool) (p:Prg) (l:List InsD):Bool:=match sel with
 | false=>decide (l.length<=12)
 | true=>qr l p.locs.length
section
variable {B g bx:Nat} {p:Prg} {w:Wd}
theorem zpn (q:OA) (cap:Nat) (l:List InsD):Calls PG 64 #[.slice q l.length cap] w fun e w'=>e = .returned (.bool (decide (l.length<=12)))/\w=w':=by
 refine zI 6 [.slice q l.length cap] Tryz.func64 ?_;refine⟨rb ?_,rfl⟩;rw [QI];show ((l.length:Int)<=12)↔_;omega
theorem znr (h:DmV B w g bx p) {q:OA} {cap:Nat} {l:List InsD} (hl:SlR zH w q l) (hn:l.length<=140737488351232) :
  CB 66 #[.slice q l.length cap,At0 bx] w (.bool (qr l p.locs.length)):=by
 refine zI 11 [.slice q l.length cap,At0 bx] Tryz.func66 ?_;obtain⟨p1,c1,p2,c2,p3,c3,p4,c4,h0,h1,h2,h3,h4,h5⟩:=h.h;refine⟨_,zc (za h.b) (i:=0) rfl,_,zc h0 (i:=1) rfl,cmo (zj8 hl h.G hn) ?_⟩;rintro e V ⟨rfl,hb⟩;exact⟨rfl,hb⟩
theorem zlV (sel:Bool) (h:DmV B w g bx p):CB 58 #[zku sel bx,At0 bx] w (.bool (p.threads.all (zbT sel p))):=by
 refine zI 20 [zku sel bx,At0 bx] Tryz.func58 ?_;obtain⟨p1,c1,p2,c2,p3,c3,p4,c4,h0,h1,h2,h3,h4,h5⟩:=h.h;obtain⟨xs,hxs,hr,hx⟩:=h3;have hlen:p.threads.length=xs.length:=by rw [<- hxs,QQ]
 have hln:=h.len.threads;refine⟨_,zc (za h.b) (i:=0) rfl,_,zc h0 (i:=3) rfl,?_⟩;refine⟨Nat,fun k=>⟨[(0,zku sel bx),(1,At0 bx),(9,.slice p3 p.threads.length c3),(10,i64 p.threads.length),(11,i64 (k:Nat))],[]⟩,fun k X=>k<=p.threads.length/\(∀ l∈p.threads.take k,zbT sel p l=true)/\Bw w X,fun k=>p.threads.length-k,0,
  (cvE rfl rfl),⟨Gb _,by simp,Gd _ _⟩,?_⟩
 rintro k X ⟨hk,hall,hbX⟩;dsimp only at hk hall ⊢;have hX:=h.below hbX;refine biE (fun hc=>?_) fun hc=>?_
 ·have hc:(k:Int)<(p.threads.length:Int):=dT hc;have hkl:k<p.threads.length:=by omega
  have hkx:k<xs.length:=by omega
  have e1:p.threads[k]=xs[k].1:=by simp [<- hxs]
  obtain⟨b,o,hp3,hat⟩:=hr.get;rcases hp3 with hp3 | rfl
  ·omega
  refine⟨k,rfl,hkl,?_⟩;obtain⟨hb1,ha1⟩:=hat k hkx;refine⟨_,zc (jK (hbX.mono h.hB) hb1 ha1) (i:=0) rfl,?_⟩;have zec:SlR zH X xs[k].2.1 xs[k].1:=((hx _ (gM hkx)).below (hbX.mono h.hB)).slr hX.hB;have hln1:xs[k].1.length<=140737488351232:=by rw [<- e1];exact h.len.thread _ (gM _)
  have hfin:zbT sel p xs[k].1=false->p.threads.all (zbT sel p)=false:=fun hf=>by
   rw [KQ];exact⟨p.threads[k],gM _,by rw [e1,hf];simp⟩
  have hgo:zbT sel p xs[k].1=true->∀ l∈p.threads.take (k+1),zbT sel p l=true:=fun ht=>by
   rw [tsg hkl];intro x hx;rcases QU.1 hx with hx | hx
   ·exact hall x hx
   ·simp only [KD] at hx;rw [hx,e1];exact ht
  cases sel with
  | false =>
   refine cmo (zpn xs[k].2.1 xs[k].2.2 xs[k].1) ?_;rintro e _ ⟨rfl,rfl⟩;refine biE (fun hb=>?_) fun hb=>?_
   ·have hb:(!zbT false p xs[k].1)=true:=hb;exact⟨rb (hfin (by simpa using hb)).symm,hbX⟩
   ·have hb:(!zbT false p xs[k].1)=false:=hb;exact⟨_,(ze (by omega)).trans rfl,k+1,(cvE rfl rfl),⟨hkl,hgo (by simpa using hb),hbX⟩,zdc (by omega)⟩
  | true =>
   refine cmo (znr hX (cap:=xs[k].2.2) zec hln1) ?_;rintro e Y ⟨rfl,hbY⟩;refine biE (fun hb=>?_) fun hb=>?_
   ·have hb:(!zbT true p xs[k].1)=true:=hb;exact⟨rb (hfin (by simpa using hb)).symm,(zst hbX hbY)⟩
   ·have hb:(!zbT true p xs[k].1)=false:=hb;exact⟨_,(ze (by omega)).trans rfl,k+1,(cvE rfl rfl),⟨hkl,hgo (by simpa using hb),(zst hbX hbY)⟩,zdc (by omega)⟩
 ·have hc:¬ (k:Int)<(p.threads.length:Int):=dF hc;obtain rfl:k=p.threads.length:=by omega
  rw [Qz] at hall;exact⟨rb (Qm.2 hall).symm,hbX⟩
theorem zrv (h:DmV B w g bx p):CB 59 #[At0 bx] w (.bool (zda p.name)):=by
 refine zI 7 [At0 bx] Tryz.func59 ?_;obtain⟨p1,c1,p2,c2,p3,c3,p4,c4,h0,h1,h2,h3,h4,h5⟩:=h.h;refine⟨_,zc (za h.b) (i:=0) rfl,_,zc h0 (i:=0) rfl,cmo (zoe p.name h.len.name w) ?_⟩;rintro e V ⟨rfl,hb⟩;exact⟨rfl,hb⟩
theorem zru (h:DmV B w g bx p):CB 61 #[At0 bx] w (.bool (zdq p)):=by
 refine zI 4 [At0 bx] Tryz.func61 ?_;obtain⟨p1,c1,p2,c2,p3,c3,p4,c4,h0,h1,h2,h3,h4,h5⟩:=h.h;refine⟨_,zc (za h.b) (i:=0) rfl,cmo (zjB h0 h.hg h1 h.hB h5 h.len) ?_⟩;rintro e V ⟨rfl,hb⟩;exact⟨rfl,hb⟩
def evV (bx:Nat):Value := .func (.func 58) #[] #[At0 bx]
theorem zrt (h:DmV B w g bx p) {ev:Nat} (hev:w.heap[ev]?=some (.cells #[evV bx] 138 (0,0))):CB 63 #[At0 bx,At0 ev] w (.bool (decide (1<=p.threads.length)&&(decide (p.threads.length<=4)&&p.threads.all fun l=>decide (l.length<=12)))):=by
 refine zI 21 [At0 bx,At0 ev] Tryz.func63 ?_;obtain⟨p1,c1,p2,c2,p3,c3,p4,c4,h0,h1,h2,h3,h4,h5⟩:=h.h;refine⟨_,zc (za h.b) (i:=0) rfl,_,zc h0 (i:=3) rfl,biE (fun ha=>?_) fun ha=>?_⟩
 ·have ha:(1:Int)<=(p.threads.length:Int):=dT ha;refine⟨_,zc (za h.b) (i:=0) rfl,_,zc h0 (i:=3) rfl,biE (fun hb=>?_) fun hb=>?_⟩
  ·have hb:(p.threads.length:Int)<=4:=dT hb;refine⟨_,zc (za hev) (i:=0) rfl,cmo (zlV false h) ?_⟩;rintro e V ⟨rfl,hbV⟩;refine⟨rb ?_,hbV⟩;rw [Uu (by omega),Uu (by omega),UA,UA];rfl
  ·have hb:¬ (p.threads.length:Int)<=4:=dF hb;exact⟨rb (by rw [Uj (p:=p.threads.length<=4) (by omega)];simp),Gd _ _⟩
 ·have ha:¬ (1:Int)<=(p.threads.length:Int):=dF ha;exact brF ⟨rb (by rw [Uj (p:=1<=p.threads.length) (by omega)];rfl),Gd _ _⟩
theorem zrs (h:DmV B w g bx p) {ev:Nat} (hev:w.heap[ev]?=some (.cells #[evV bx] 138 (0,0))):CB 65 #[At0 ev,At0 bx] w (.bool (p.threads.all fun l=>qr l p.locs.length)):=by
 refine zI 6 [At0 ev,At0 bx] Tryz.func65 ?_;refine⟨_,zc (za hev) (i:=0) rfl,cmo (zlV true h) ?_⟩;rintro e V ⟨rfl,hbV⟩;exact⟨rfl,hbV⟩
theorem zrr (h:DmV B w g bx p):CB 68 #[At0 bx] w (.bool (decide (p.ask=1)||(decide (p.ask=2)||decide (p.ask=3)))):=by
 refine zI 21 [At0 bx] Tryz.func68 ?_;obtain⟨p1,c1,p2,c2,p3,c3,p4,c4,h0,h1,h2,h3,h4,h5⟩:=h.h;refine⟨_,zc (za h.b) (i:=0) rfl,_,zc h0 (i:=4) rfl,biE (fun ha=>?_) fun ha=>?_⟩
 ·have ha:decide (p.ask=1)=true:=(u8d p.ask 1).symm.trans ha;exact brT ⟨rb (by rw [ha];rfl),Gd _ _⟩
 ·have ha:decide (p.ask=1)=false:=(u8d p.ask 1).symm.trans ha;refine⟨_,zc (za h.b) (i:=0) rfl,_,zc h0 (i:=4) rfl,biE (fun hb=>?_) fun hb=>?_⟩
  ·have hb:decide (p.ask=2)=true:=(u8d p.ask 2).symm.trans hb;exact⟨rb (by rw [ha,hb];rfl),Gd _ _⟩
  ·have hb:decide (p.ask=2)=false:=(u8d p.ask 2).symm.trans hb;exact⟨_,zc (za h.b) (i:=0) rfl,_,zc h0 (i:=4) rfl,rb (by rw [ha,hb];exact u8d p.ask 3),Gd _ _⟩
theorem zrq (h:DmV B w g bx p):CB 69 #[At0 bx] w (.bool (j9 p.threads.length p.locs.length 20 p.cond)):=by
 refine zI 17 [At0 bx] Tryz.func69 ?_;have hbd:Bw w w.drew:=(Gd _ w).drew;have hd:=h.below hbd;obtain⟨p1,c1,p2,c2,p3,c3,p4,c4,h0,h1,h2,h3,h4,h5⟩:=hd.h;refine DrawE.ord [] [0,1,2,3,4,5,6,7,8,9,10,11,12,13,14,15] (by kernel_rfl) ⟨_,zc (za hd.b) (i:=0) rfl,jN p.cond p4 c4,rfl,zK (n:=5) (m:=5) h0,hd.hg,_,zc (za hd.b) (i:=0) rfl,_,zc h0 (i:=3) rfl,_,zc (za hd.b) (i:=0) rfl,_,zc h0 (i:=1) rfl,cmo (zrQ hd.hB h4) ?_⟩;rintro e V ⟨rfl,hbV⟩;exact⟨hbV,rfl,hbd.trans hbV⟩
def zrp (bx ev:Nat):List Value:=[i64 70,.func (.func 59) #[] #[At0 bx],i64 71,.func (.func 61) #[] #[At0 bx],
 i64 72,.func (.func 63) #[] #[At0 bx,At0 ev],i64 73,.func (.func 65) #[] #[At0 ev,At0 bx],
 i64 75,.func (.func 68) #[] #[At0 bx],i64 74,.func (.func 69) #[] #[At0 bx]]
theorem zmS {g:Nat} {w:Wd}:Calls PG 36 #[At0 g] w fun e w'=>e = .returned (.slice (some ⟨w.heap.size+2,0,none⟩) 6 6) /\
  w'.heap[w.heap.size]?=some (.cells #[At0 g] 84 (0,0))/\w'.heap[w.heap.size+1]?=some (.cells #[evV w.heap.size] 138 (0,0)) /\
  w'.heap[w.heap.size+2]?=some (.cells (zrp w.heap.size (w.heap.size+1)).toArray 105 (0,0))/\w'.heap.size=w.heap.size+3/\Bw w w':=by
 refine zI 18 [At0 g] Tryz.func36 ?_;have hs:=wz w (.cells (At0 g).cells 84);refine zn (X:=w.alloc (.cells (At0 g).cells 84)) (v:=evV w.heap.size) zsG rfl rfl rfl fun V hbV fV sV=>?_;generalize hev:(w.alloc (.cells (At0 g).cells 84)).heap.size=ev at *;refine⟨[i64 70,.func (.func 59) #[] #[.pointer (some ⟨w.heap.size,0,none⟩)]],rfl,[i64 71,.func (.func 61) #[] #[.pointer (some ⟨w.heap.size,0,none⟩)]],rfl,[i64 72,.func (.func 63) #[] #[.pointer (some ⟨w.heap.size,0,none⟩),At0 ev]],rfl,[i64 73,.func (.func 65) #[] #[At0 ev,.pointer (some ⟨w.heap.size,0,none⟩)]],rfl,[i64 75,.func (.func 68) #[] #[.pointer (some ⟨w.heap.size,0,none⟩)]],rfl,[i64 74,.func (.func 69) #[] #[.pointer (some ⟨w.heap.size,0,none⟩)]],rfl,⟨by decide,by decide,rfl⟩,zrp w.heap.size ev,rfl,?_⟩;subst hs;refine⟨?_,?_,?_,?_,?_,?_⟩
 ·rw [sV];rfl
 ·exact qG _ (zb (show Below _ _ _ from hev▸hbV) (zz w _))
 ·exact qG _ fV
 ·rw [show w.heap.size+2=V.heap.size from sV.symm];exact zz _ _
 ·rw [wz,sV]
 ·exact (((zba w _)).trans (hbV.mono (by omega))).alloc (by omega) _
end
def okL (p:Prg):List Bool:=[zda p.name,zdq p,decide (1<=p.threads.length)&&(decide (p.threads.length<=4)&&p.threads.all fun l=>decide (l.length<=12)),p.threads.all (fun l=>qr l p.locs.length),
 decide (p.ask=1)||(decide (p.ask=2)||decide (p.ask=3)),j9 p.threads.length p.locs.length 20 p.cond]
theorem zlJ {p:Prg}:zcC p=(okL p).all id:=by
 unfold zcC okL;simp only [UC,List.all_nil,Bool.and_true,id]
theorem ziM {B:Nat} {p:Prg} {vs:List Value} {w:Wd} (hB:B<=w.heap.size) (hp:PrgV B w vs p) (hG:GlobC w) :
  Calls PG 16 #[.agg vs.toArray] w fun e w'=>∃ n:Int,e = .returned (i64 n)/\(n=0↔zcC p=true)/\Bw w w':=by
 obtain⟨hl,p1,c1,p2,c2,p3,c3,p4,c4,rfl,h1,h2,h3,h4,h5⟩:=hp;refine zI 18 [.agg (qA p p1 c1 p2 c2 p3 c3 p4 c4).toArray] Tryz.func16 ?_;obtain⟨L,hL⟩:=nm (w.heap.size);have hn:=zz w (.cells (Value.agg (qA p p1 c1 p2 c2 p3 c3 p4 c4).toArray).cells 29);have hs:=wz w (.cells (Value.agg (qA p p1 c1 p2 c2 p3 c3 p4 c4).toArray).cells 29);have hb:Bw w (w.alloc (.cells (Value.agg (qA p p1 c1 p2 c2 p3 c3 p4 c4).toArray).cells 29)):=zba w _;refine cmo zmS ?_;rintro e V ⟨rfl,hbx,hev,hsl,hsz,hbV⟩;have hbw:Bw w V:=zst hb hbV;have p1':some (Value.slice (some ⟨(w.alloc (.cells (Value.agg (qA p p1 c1 p2 c2 p3 c3 p4 c4).toArray).cells 29)).heap.size+2,0,none⟩) 6 6)=some (Value.slice (some ⟨L+3,0,none⟩) 6 6):=by rw [hs,hL]
 have hD:DmV B V L (L+1) p:=by
  have hbB:=hbw.mono hB;rw [hs,<- hL] at hbx;refine⟨UO hB hbw.size,by omega,hl,⟨p1,c1,p2,c2,p3,c3,p4,c4,za (zb hbV (hL▸hn)),h1.below hbB,h2.below hbB,h3.below hbB,h4.kept hbB,h5⟩,hbx,hG.below hbw⟩
 rw [hs,<- hL] at hev hsl;clear hn hs hb hbx hbV hsz;refine⟨Nat,fun j=>⟨[(5,.slice (some ⟨L+3,0,none⟩) 6 6),(6,i64 6),(7,i64 (j:Nat))],[]⟩,
  fun j X=>j<=6/\(∀ i,i<j->(okL p)[i]?=some true)/\DmV B X L (L+1) p/\X.heap[L+2]?=some (.cells #[evV (L+1)] 138 (0,0))/\X.heap[L+3]?=some (.cells (zrp (L+1) (L+2)).toArray 105 (0,0))/\Bw w X,fun j=>6-j,0,
  ⟨.cons p1' (.cons rfl (.cons rfl .nil)),rfl⟩,⟨Gb _,fun i hi=>by omega,hD,hev,hsl,hbw⟩,?_⟩
 clear hD hev hsl hbw p1';rintro j X ⟨hj,hpre,hD,hev,hsl,hbw⟩;dsimp only at hj hpre ⊢;refine biE (fun hc=>?_) fun hc=>?_
 ·have hc:(j:Int)<6:=dT hc;have hno:∀ {i:Nat},(okL p)[i]?=some false->zcC p=false:=fun h=>by rw [zlJ];exact zo1 h
  have hcs:j=0\/j=1\/j=2\/j=3\/j=4\/j=5:=by omega
  rcases hcs with rfl | rfl | rfl | rfl | rfl | rfl
  ·refine⟨0,rfl,by decide,?_⟩;refine⟨[i64 70,.func (.func 59) #[] #[At0 (L+1)]],rfl,zK (n:=0) (m:=2) (za hsl),hlt hsl,zn (X:=X) (v := .agg [i64 70,.func (.func 59) #[] #[At0 (L+1)]].toArray) zmL rfl rfl rfl fun Y hbY fY sY=>?_⟩;have hY:=hD.below hbY;have hevY:=zb hbY hev;have hslY:=zb hbY hsl;refine⟨_,zc (za fY) (i:=1) rfl,cmo (zrv hY) ?_⟩;rintro e W ⟨rfl,hbW⟩;have hbX:Bw w W:=((zst hbw hbY)).trans (hbW.mono (UO hbw.size hbY.size));refine biE (fun hb=>?_) fun hb=>?_
   ·have hb:(!((okL p)[0]'(by show 0<6;decide)))=true:=hb;have hb:(okL p)[0]?=some false:=(by rw [gE (by show 0<6;decide)];exact Gl some (by rw [<- UI ((okL p)[0]'(by show 0<6;decide)),hb];rfl));exact⟨_,zc (za (zb hbW fY)) (i:=0) rfl,70,rfl,⟨fun h=>Gs h (by decide),fun h=>by rw [hno hb] at h;cases h⟩,hbX⟩
   ·have hb:(!((okL p)[0]'(by show 0<6;decide)))=false:=hb;have hb:(okL p)[0]?=some true:=(by rw [gE (by show 0<6;decide)];exact Gl some (by rw [<- UI ((okL p)[0]'(by show 0<6;decide)),hb];rfl));refine⟨_,(ze (by omega)).trans rfl,1,(cvE rfl rfl),⟨by omega,fun i hi=>?_,hY.below hbW,zb hbW hevY,zb hbW hslY,hbX⟩,by decide⟩;by_cases hik:i=0
    ·rw [hik];exact hb
    ·exact hpre i (by omega)
  ·refine⟨1,rfl,by decide,?_⟩;refine⟨[i64 71,.func (.func 61) #[] #[At0 (L+1)]],rfl,zK (n:=2) (m:=2) (za hsl),hlt hsl,zn (X:=X) (v := .agg [i64 71,.func (.func 61) #[] #[At0 (L+1)]].toArray) zmL rfl rfl rfl fun Y hbY fY sY=>?_⟩;have hY:=hD.below hbY;have hevY:=zb hbY hev;have hslY:=zb hbY hsl;refine⟨_,zc (za fY) (i:=1) rfl,cmo (zru hY) ?_⟩;rintro e W ⟨rfl,hbW⟩;have hbX:Bw w W:=((zst hbw hbY)).trans (hbW.mono (UO hbw.size hbY.size));refine biE (fun hb=>?_) fun hb=>?_
   ·have hb:(!((okL p)[1]'(by show 1<6;decide)))=true:=hb;have hb:(okL p)[1]?=some false:=(by rw [gE (by show 1<6;decide)];exact Gl some (by rw [<- UI ((okL p)[1]'(by show 1<6;decide)),hb];rfl));exact⟨_,zc (za (zb hbW fY)) (i:=0) rfl,71,rfl,⟨fun h=>Gs h (by decide),fun h=>by rw [hno hb] at h;cases h⟩,hbX⟩
   ·have hb:(!((okL p)[1]'(by show 1<6;decide)))=false:=hb;have hb:(okL p)[1]?=some true:=(by rw [gE (by show 1<6;decide)];exact Gl some (by rw [<- UI ((okL p)[1]'(by show 1<6;decide)),hb];rfl));refine⟨_,(ze (by omega)).trans rfl,2,(cvE rfl rfl),⟨by omega,fun i hi=>?_,hY.below hbW,zb hbW hevY,zb hbW hslY,hbX⟩,by decide⟩;by_cases hik:i=1
    ·rw [hik];exact hb
    ·exact hpre i (by omega)
  ·refine⟨2,rfl,by decide,?_⟩;refine⟨[i64 72,.func (.func 63) #[] #[At0 (L+1),At0 (L+2)]],rfl,zK (n:=4) (m:=2) (za hsl),hlt hsl,zn (X:=X) (v := .agg [i64 72,.func (.func 63) #[] #[At0 (L+1),At0 (L+2)]].toArray) zmL rfl rfl rfl fun Y hbY fY sY=>?_⟩;have hY:=hD.below hbY;have hevY:=zb hbY hev;have hslY:=zb hbY hsl;refine⟨_,zc (za fY) (i:=1) rfl,cmo (zrt hY hevY) ?_⟩;rintro e W ⟨rfl,hbW⟩;have hbX:Bw w W:=((zst hbw hbY)).trans (hbW.mono (UO hbw.size hbY.size));refine biE (fun hb=>?_) fun hb=>?_
   ·have hb:(!((okL p)[2]'(by show 2<6;decide)))=true:=hb;have hb:(okL p)[2]?=some false:=(by rw [gE (by show 2<6;decide)];exact Gl some (by rw [<- UI ((okL p)[2]'(by show 2<6;decide)),hb];rfl));exact⟨_,zc (za (zb hbW fY)) (i:=0) rfl,72,rfl,⟨fun h=>Gs h (by decide),fun h=>by rw [hno hb] at h;cases h⟩,hbX⟩
   ·have hb:(!((okL p)[2]'(by show 2<6;decide)))=false:=hb;have hb:(okL p)[2]?=some true:=(by rw [gE (by show 2<6;decide)];exact Gl some (by rw [<- UI ((okL p)[2]'(by show 2<6;decide)),hb];rfl));refine⟨_,(ze (by omega)).trans rfl,3,(cvE rfl rfl),⟨by omega,fun i hi=>?_,hY.below hbW,zb hbW hevY,zb hbW hslY,hbX⟩,by decide⟩;by_cases hik:i=2
    ·rw [hik];exact hb
    ·exact hpre i (by omega)
  ·refine⟨3,rfl,by decide,?_⟩;refine⟨[i64 73,.func (.func 65) #[] #[At0 (L+2),At0 (L+1)]],rfl,zK (n:=6) (m:=2) (za hsl),hlt hsl,zn (X:=X) (v := .agg [i64 73,.func (.func 65) #[] #[At0 (L+2),At0 (L+1)]].toArray) zmL rfl rfl rfl fun Y hbY fY sY=>?_⟩;have hY:=hD.below hbY;have hevY:=zb hbY hev;have hslY:=zb hbY hsl;refine⟨_,zc (za fY) (i:=1) rfl,cmo (zrs hY hevY) ?_⟩;rintro e W ⟨rfl,hbW⟩;have hbX:Bw w W:=((zst hbw hbY)).trans (hbW.mono (UO hbw.size hbY.size));refine biE (fun hb=>?_) fun hb=>?_
   ·have hb:(!((okL p)[3]'(by show 3<6;decide)))=true:=hb;have hb:(okL p)[3]?=some false:=(by rw [gE (by show 3<6;decide)];exact Gl some (by rw [<- UI ((okL p)[3]'(by show 3<6;decide)),hb];rfl));exact⟨_,zc (za (zb hbW fY)) (i:=0) rfl,73,rfl,⟨fun h=>Gs h (by decide),fun h=>by rw [hno hb] at h;cases h⟩,hbX⟩
   ·have hb:(!((okL p)[3]'(by show 3<6;decide)))=false:=hb;have hb:(okL p)[3]?=some true:=(by rw [gE (by show 3<6;decide)];exact Gl some (by rw [<- UI ((okL p)[3]'(by show 3<6;decide)),hb];rfl));refine⟨_,(ze (by omega)).trans rfl,4,(cvE rfl rfl),⟨by omega,fun i hi=>?_,hY.below hbW,zb hbW hevY,zb hbW hslY,hbX⟩,by decide⟩;by_cases hik:i=3
    ·rw [hik];exact hb
    ·exact hpre i (by omega)
  ·refine⟨4,rfl,by decide,?_⟩;refine⟨[i64 75,.func (.func 68) #[] #[At0 (L+1)]],rfl,zK (n:=8) (m:=2) (za hsl),hlt hsl,zn (X:=X) (v := .agg [i64 75,.func (.func 68) #[] #[At0 (L+1)]].toArray) zmL rfl rfl rfl fun Y hbY fY sY=>?_⟩;have hY:=hD.below hbY;have hevY:=zb hbY hev;have hslY:=zb hbY hsl;refine⟨_,zc (za fY) (i:=1) rfl,cmo (zrr hY) ?_⟩;rintro e W ⟨rfl,hbW⟩;have hbX:Bw w W:=((zst hbw hbY)).trans (hbW.mono (UO hbw.size hbY.size));refine biE (fun hb=>?_) fun hb=>?_
   ·have hb:(!((okL p)[4]'(by show 4<6;decide)))=true:=hb;have hb:(okL p)[4]?=some false:=(by rw [gE (by show 4<6;decide)];exact Gl some (by rw [<- UI ((okL p)[4]'(by show 4<6;decide)),hb];rfl));exact⟨_,zc (za (zb hbW fY)) (i:=0) rfl,75,rfl,⟨fun h=>Gs h (by decide),fun h=>by rw [hno hb] at h;cases h⟩,hbX⟩
   ·have hb:(!((okL p)[4]'(by show 4<6;decide)))=false:=hb;have hb:(okL p)[4]?=some true:=(by rw [gE (by show 4<6;decide)];exact Gl some (by rw [<- UI ((okL p)[4]'(by show 4<6;decide)),hb];rfl));refine⟨_,(ze (by omega)).trans rfl,5,(cvE rfl rfl),⟨by omega,fun i hi=>?_,hY.below hbW,zb hbW hevY,zb hbW hslY,hbX⟩,by decide⟩;by_cases hik:i=4
    ·rw [hik];exact hb
    ·exact hpre i (by omega)
  ·refine⟨5,rfl,by decide,?_⟩;refine⟨[i64 74,.func (.func 69) #[] #[At0 (L+1)]],rfl,zK (n:=10) (m:=2) (za hsl),hlt hsl,zn (X:=X) (v := .agg [i64 74,.func (.func 69) #[] #[At0 (L+1)]].toArray) zmL rfl rfl rfl fun Y hbY fY sY=>?_⟩;have hY:=hD.below hbY;have hevY:=zb hbY hev;have hslY:=zb hbY hsl;refine⟨_,zc (za fY) (i:=1) rfl,cmo (zrq hY) ?_⟩;rintro e W ⟨rfl,hbW⟩;have hbX:Bw w W:=((zst hbw hbY)).trans (hbW.mono (UO hbw.size hbY.size));refine biE (fun hb=>?_) fun hb=>?_
   ·have hb:(!((okL p)[5]'(by show 5<6;decide)))=true:=hb;have hb:(okL p)[5]?=some false:=(by rw [gE (by show 5<6;decide)];exact Gl some (by rw [<- UI ((okL p)[5]'(by show 5<6;decide)),hb];rfl));exact⟨_,zc (za (zb hbW fY)) (i:=0) rfl,74,rfl,⟨fun h=>Gs h (by decide),fun h=>by rw [hno hb] at h;cases h⟩,hbX⟩
   ·have hb:(!((okL p)[5]'(by show 5<6;decide)))=false:=hb;have hb:(okL p)[5]?=some true:=(by rw [gE (by show 5<6;decide)];exact Gl some (by rw [<- UI ((okL p)[5]'(by show 5<6;decide)),hb];rfl));refine⟨_,(ze (by omega)).trans rfl,6,(cvE rfl rfl),⟨by omega,fun i hi=>?_,hY.below hbW,zb hbW hevY,zb hbW hslY,hbX⟩,by decide⟩;by_cases hik:i=5
    ·rw [hik];exact hb
    ·exact hpre i (by omega)
 ·have hc:¬ (j:Int)<6:=dF hc;obtain rfl:j=6:=by omega
  exact⟨0,rfl,⟨fun _=>by rw [zlJ];exact zj6 hpre rfl,fun _=>rfl⟩,hbw⟩
def ThrsW (B:Nat) (w:Wd) (p:OA) (l:List (List InsD)):Prop:=∃ xs:List zla,xs.map (·.1)=l/\RowB zns B w p xs/\∀ x∈xs,RowB zH B w x.2.1 x.1/\(x.1≠[]->∀ a,x.2.1=some a->a.block<B)
structure PrgX (B:Nat) (w:Wd) (vs:List Value) (p:Prg):Prop where
 v:PrgV B w vs p
 th:∃ p3 c3,vs[3]?=some (.slice p3 p.threads.length c3)/\ThrsW B w p3 p.threads
 init:∃ p2 c2,vs[2]?=some (.slice p2 p.init.length c2)/\RowB zM B w p2 p.init
theorem ThrsW.below {B:Nat} {w w2:Wd} {p:OA} {l:List (List InsD)} (h:ThrsW B w p l) (hb:Below B w w2):ThrsW B w2 p l:=by
 obtain⟨xs,h1,h2,h3⟩:=h;exact⟨xs,h1,h2.below hb,fun x hx=>⟨(h3 x hx).1.below hb,(h3 x hx).2⟩⟩
theorem PrgX.below {B:Nat} {w w2:Wd} {vs:List Value} {p:Prg} (h:PrgX B w vs p) (hb:Below B w w2):PrgX B w2 vs p:=by
 obtain⟨h1,⟨p3,c3,h2,h3⟩,⟨p2,c2,h4,h5⟩⟩:=h;exact⟨h1.below hb,⟨p3,c3,h2,h3.below hb⟩,⟨p2,c2,h4,h5.below hb⟩⟩
theorem zfr {α:Type} {E:Enc α} {B:Nat} {w:Wd} {p:OA} {l:List α} (h:RowB E B w p l) {i:Nat} (hi:i<l.length):∃ b o,p=some ⟨b,o,none⟩/\b<B/\∀ i (h:i<l.length),zx w ⟨b,o+i*E.sz,none⟩ (E.enc l[i]):=by
 obtain⟨b,o,hp,hat⟩:=h.get;rcases hp with hp | hp
 ·omega
 ·exact⟨b,o,hp,(hat i hi).1,fun j hj=>(hat j hj).2⟩
def onP (ts:List (List InsD)):Prg:=⟨[116],[[120]],[0],ts,1,.mk 0 0 0 0 []⟩
end Go.Proofs.YtpalcnbhkigagaaGreatDoor
namespace Go.Sei
def j6 (before:Nat->Nat):Nat->Nat->List Nat->List (List Nat)
 | 0,left,l=>if left=0 then [l] else []
 | n+1,left,l=>if left=0 then [l] else (els left).flatMap fun a=>if before a&&&left=0 then j6 before n (jE left (2^a)) (l++[a]) else []
def za5 (r:RelD):List (List Nat):=if zg2 r then j6 (zR r).to 64 (jO r.n) [] else []
def zab:List Nat->Nat->List Nat
 | [],_=>[]
 | n::ns,j=>j%n::zab ns (j/n)
def zT:List Nat->Nat
 | []=>1
 | n::ns=>n*zT ns
def z6 (sizes:List Nat):List (List Nat):=(List.range (zT sizes.reverse)).map fun j=>(zab sizes.reverse j).reverse
theorem zem:∀ (rs:List Nat) (j:Nat),(zab rs j).length=rs.length
 | [],_=>rfl
 | n::ns,j=>by
  show (zab ns (j/n)).length+1=ns.length+1;rw [zem ns]
theorem zhJ:∀ rs:List Nat,zab rs 0=List.replicate rs.length 0
 | []=>rfl
 | n::ns=>by
  show 0%n::zab ns (0/n)=0::List.replicate ns.length 0;rw [Nat.zero_mod,Nat.zero_div,zhJ ns]
theorem zhp:∀ {rs:List Nat},(∀ n∈rs,n≠0)->0<zT rs
 | [],_=>Nat.one_pos
 | n::ns,h=>Nat.mul_pos (by have:=h n (by simp);omega) (zhp fun m hm=>h m (by simp [hm]))
theorem zdz:∀ {rs:List Nat},0∈rs->zT rs=0
 | [],h=>by cases h
 | n::ns,h=>by
  show n*zT ns=0;rcases UE.1 h with h | h
  ·rw [<- h,UU]
  ·rw [zdz h,Nat.mul_zero]
theorem zeS {n j:Nat} (hn:n≠0):(j%n=n-1->(j+1)%n=0/\(j+1)/n=j/n+1)/\(j%n≠n-1->(j+1)%n=j%n+1/\(j+1)/n=j/n):=by
 have h1:=Ub j n;have h2:=Gh j (KJ hn);obtain⟨q,hq⟩:∃ q,j/n=q:=⟨_,rfl⟩;obtain⟨m,hm⟩:∃ m,j%n=m:=⟨_,rfl⟩;rw [hq,hm] at h1 ⊢;rw [hm] at h2;refine⟨fun h=>?_,fun h=>?_⟩
 ·have e:j+1=n*(q+1):=by rw [Nat.mul_add];omega
  rw [e];exact⟨Nat.mul_mod_right _ _,Nat.mul_div_cancel_left _ (KJ hn)⟩
 ·have e:j+1=n*q+(m+1):=by omega
  rw [e,Nat.mul_add_mod,QF (by omega),Nat.mul_add_div (KJ hn),Nat.div_eq_of_lt (by omega)];exact⟨rfl,rfl⟩
def zgM (rs:List Nat) (j t:Nat):Prop:=∃ A ns k,rs=A++ns/\A.length=t/\zab rs (j+1)=List.replicate t 0++zab ns (k+1)/\(zab rs j).drop t=zab ns k/\zT A*(k+1)=j+1
theorem zb8:∀ A B:List Nat,zT (A++B)=zT A*zT B
 | [],B=>(Ga _).symm
 | n::A,B=>by
  show n*zT (A++B)=n*zT A*zT B;rw [zb8 A B,UG]
theorem zk1 (rs:List Nat) (j:Nat):zgM rs j 0:=⟨[],rs,j,rfl,rfl,rfl,rfl,Ga _⟩
theorem zk3 {rs:List Nat} {j t:Nat} (hr:∀ n∈rs,n≠0) (h:zgM rs j t) {n d:Nat} (hn:rs[t]?=some n) (hd:(zab rs j)[t]?=some d) (he:d=n-1):zgM rs j (t+1):=by
 obtain⟨A,ns,k,h1,h2,h3,h4,h5⟩:=h
 cases ns with
 | nil =>
  rw [h1,QM,JM (by omega)] at hn
  cases hn
 | cons m ns =>
  have hm:m=n:=by
   rw [h1,Jn (by omega),h2,UQ] at hn;exact Uh hn
  subst hm;have hd2:k%m=d:=by
   have:=Gl (fun l=>l[0]?) h4;simp only [Kz,UN] at this;rw [hd] at this;exact (Uh this).symm
  have hm0:m≠0:=hr m (by rw [h1];simp);obtain⟨e1,e2⟩:=(zeS hm0).1 (hd2.trans he);have hk:k+1=m*(k/m+1):=by
   have:=Ub (k+1) m;rw [e1,e2] at this;omega
  refine⟨A++[m],ns,k/m,by rw [h1];simp,by simp [h2],?_,?_,?_⟩
  ·rw [h3];show _++((k+1)%m::zab ns ((k+1)/m))=_;rw [e1,e2,List.replicate_succ',KS];rfl
  ·rw [<- Um,h4];rfl
  ·rw [<- h5,zb8];show zT A*(m*1)*_=_;rw [UZ,UG,<- hk]
theorem zk2 {rs:List Nat} {j t:Nat} (hr:∀ n∈rs,n≠0) (h:zgM rs j t) {n d:Nat} (hn:rs[t]?=some n) (hd:(zab rs j)[t]?=some d) (he:d≠n-1):zab rs (j+1)=List.replicate t 0++(d+1)::(zab rs j).drop (t+1):=by
 obtain⟨A,ns,k,h1,h2,h3,h4,h5⟩:=h
 cases ns with
 | nil =>
  rw [h1,QM,JM (by omega)] at hn
  cases hn
 | cons m ns =>
  have hm:m=n:=by
   rw [h1,Jn (by omega),h2,UQ] at hn;exact Uh hn
  subst hm;have hd2:k%m=d:=by
   have:=Gl (fun l=>l[0]?) h4;simp only [Kz,UN] at this;rw [hd] at this;exact (Uh this).symm
  have hm0:m≠0:=hr m (by rw [h1];simp);obtain⟨e1,e2⟩:=(zeS hm0).2 (fun h=>he (hd2.symm.trans h));rw [h3,<- Um,h4];show _++((k+1)%m::zab ns ((k+1)/m))=_;rw [e1,e2,hd2];rfl
theorem zmZ {rs:List Nat} {j:Nat} (h:zgM rs j rs.length) (hj:j<zT rs):j+1=zT rs:=by
 obtain⟨A,ns,k,h1,h2,h3,h4,h5⟩:=h;have hl:=Gl List.length h1;rw [lap,h2] at hl;have:ns=[]:=List.length_eq_zero_iff.1 (by omega);subst this;rw [QM] at h1;rw [h1] at hj ⊢;have h6:zT A*(k+1)<=zT A:=by omega
 rcases Nat.eq_zero_or_pos (zT A) with h0 | h0
 ·omega
 ·have:k+1<=1:=Nat.le_of_mul_le_mul_left (by omega:zT A*(k+1)<=zT A*1) h0;have:k=0:=by omega
  subst this;omega
theorem zk4 {rs:List Nat} {j t:Nat} (hr:∀ n∈rs,n≠0) (h:zgM rs j t) {n d:Nat} (hn:rs[t]?=some n) (hd:(zab rs j)[t]?=some d) (he:d≠n-1) (hj:j<zT rs):j+1<zT rs:=by
 obtain⟨A,ns,k,h1,h2,h3,h4,h5⟩:=h
 cases ns with
 | nil =>
  rw [h1,QM,JM (by omega)] at hn
  cases hn
 | cons m ns =>
  have hm:m=n:=by
   rw [h1,Jn (by omega),h2,UQ] at hn;exact Uh hn
  subst hm;have hd2:k%m=d:=by
   have:=Gl (fun l=>l[0]?) h4;simp only [Kz,UN] at this;rw [hd] at this;exact (Uh this).symm
  have hm0:m≠0:=hr m (by rw [h1];simp);obtain⟨e1,e2⟩:=(zeS hm0).2 (fun h=>he (hd2.symm.trans h));apply Jp;intro hc;have hP:zT rs=zT A*(m*zT ns):=by rw [h1,zb8];rfl
  have hA:0<zT A:=by
   apply KJ;intro h0;rw [hP,h0,UU] at hj;omega
  have h6:zT A*(k+1)=zT A*(m*zT ns):=by omega
  have h7:=Nat.eq_of_mul_eq_mul_left hA h6;rw [h7,Nat.mul_mod_right] at e1;omega
theorem zhk {L:List Nat} {t d:Nat} (h:L[t]?=some d):(List.replicate t 0++L.drop t).reverse=(L.drop (t+1)).reverse++d::(List.replicate t 0).reverse:=by
 obtain⟨ht,rfl⟩:=Js.1 h;rw [<- JI ht,Kq,KZ,KS];rfl
theorem zqV {L:List Nat} {t d:Nat} (h:L[t]?=some d) {i:Nat} (hi:i+t+1=L.length):(List.replicate t 0++L.drop t).reverse[i]?=some d:=by
 rw [zhk h,Jn (by simp;omega)];have:i-(L.drop (t+1)).reverse.length=0:=by simp;omega
 rw [this];rfl
theorem zlu {L:List Nat} {t d:Nat} (h:L[t]?=some d) {i:Nat} (hi:i+t+1=L.length) (v:Nat):((List.replicate t 0++L.drop t).reverse).set i v=(List.replicate t 0++v::L.drop (t+1)).reverse:=by
 rw [zhk h,JR _ _ (by simp;omega)];have:i-(L.drop (t+1)).reverse.length=0:=by simp;omega
 rw [this,Kq,KZ,KS];rfl
theorem znK {L:List Nat} {t:Nat}:(List.replicate t 0++0::L.drop (t+1)).reverse=(List.replicate (t+1) 0++L.drop (t+1)).reverse:=by
 rw [List.replicate_succ',KS];rfl
structure ExD where
 ev:List Ev
 po:RelD
 rf:RelD
 co:RelD
 dt:RelD
 ct:RelD
 rm:RelD
 regs:Nat->UInt8
 mem:Nat->UInt8
structure MixD where
 base:ExD
 rs:List (Nat×List Nat)
 wr:List (List Nat)
def zcG (n:Nat):RelD:=⟨n,fun _=>0⟩
def ex0 (n:Nat):ExD:=⟨[],zcG n,zcG n,zcG n,zcG n,zcG n,zcG n,fun _=>0,fun _=>0⟩
def zeD (b:Nat):List (Nat×Nat)->(Nat->Nat)->Nat->Nat
 | [],f=>f
 | p::ps,f=>zeD b ps (upd f (b+p.1) (f (b+p.1)|||2^(b+p.2)))
def zkC (b:Nat) (ps:List (Nat×Nat)) (r:RelD):RelD:=⟨r.n,zeD b ps r.to⟩
def zfW (a:Int):Nat->List Ev->Nat->Nat
 | _,[],s=>s
 | j,e::es,s=>zfW a (j+1) es (if e.th=a then s|||2^j else s)
def zbK (ev:List Ev) (i:Nat):Nat:=match ev[i]? with
 | none=>0
 | some e=>if e.th = -1 then 0 else zfW e.th (i+1) (ev.drop (i+1)) 0
def poR (ev:List Ev):RelD:=⟨ev.length,zbK ev⟩
def jn:Nat->List UInt8->List Ev
 | _,[]=>[]
 | l,v::vs=>⟨-1,2,UInt8.ofNat l,v,0,0,0⟩::jn (l+1) vs
def zbm (k:Nat) (l:List Ev):List Ev:=l.map fun e=>{ e with th:=k }
def zbZ (x:ExD) (k:Nat) (P:PathD):ExD :=
 { x with ev:=x.ev++zbm k P.ev,dt:=zkC x.ev.length P.data x.dt,ct:=zkC x.ev.length P.ctrl x.ct,rm:=zkC x.ev.length P.rmw x.rm,regs:=fun i=>if i/8=k then P.regs (i%8) else x.regs i }
def asR:Nat->List PathD->ExD->ExD
 | _,[],x=>x
 | k,P::Ps,x=>asR (k+1) Ps (zbZ x k P)
def zbn (locs:Nat) (Ps:List PathD):Nat:=Ps.foldl (fun n P=>n+P.ev.length) locs
def zfD:Nat->List Ev->List (List Nat)->List (List Nat)
 | _,[],W=>W
 | i,e::es,W=>zfD (i+1) es (if e.k=2 then W.set e.l.toNat (W.getD e.l.toNat []++[i]) else W)
def zbv (all:List Ev) (W:List (List Nat)):Nat->List Ev->List (Nat×List Nat)
 | _,[]=>[]
 | i,e::es=>if e.k=1 then (i,(W.getD e.l.toNat []).filter fun w=>decide ((all.getD w ev0).v=e.v))::zbv all W (i+1) es else zbv all W (i+1) es
def jw (init:List UInt8) (Ps:List PathD):ExD :=
 let x:=asR 0 Ps { ex0 (zbn init.length Ps) with ev:=jn 0 init }
 { x with po:=poR x.ev }
def jT (x:ExD) (locs:Nat):MixD :=
 let W:=zfD 0 x.ev (List.replicate locs [])
 ⟨x,zbv x.ev W 0 x.ev,W⟩
def zim (init:List UInt8) (Ps:List PathD):Option MixD:=if zbn init.length Ps<=48 then some (jT (jw init Ps) init.length) else none
def zen (lim:Nat):List (List Nat)->Nat->Option Nat
 | [],n=>some n
 | f::fs,n=>if f=[] then none else zen lim fs (min (n*f.length) lim)
def zfk (lim len:Nat):Nat->Nat->Nat->Nat
 | 0,_,n=>n
 | m+1,k,n=>if k<len then zfk lim len m (k+1) (min (n*k) lim) else n
def zfj (lim:Nat):List (List Nat)->Nat->Nat
 | [],n=>n
 | l::ls,n=>zfj lim ls (zfk lim l.length l.length 2 n)
def jp (m:MixD) (lim:Nat):Nat:=match zen lim (m.rs.map (·.2)) 1 with
 | none=>0
 | some n=>zfj lim m.wr n
def zB (w:List Nat):List (List Nat) :=
 let l:=za5 (zgE w.length 1 (jE (jO w.length) 1))
 if l.length<=10000 then l.map fun o=>o.map fun k=>w.getD k 0 else []
def zgi:List Nat->(Nat->Nat)->Nat->(Nat->Nat)
 | [],f,_=>f
 | a::l,f,b=>zgi l (upd f a b) (b|||2^a)
def jX (l:List Nat) (r:RelD):RelD:=⟨r.n,zgi l.reverse r.to 0⟩
def rfF:List (Nat×List Nat)->List Nat->(Nat->Nat)->Nat->Nat
 | [],_,f=>f
 | (r,s)::rs,ds,f=>rfF rs ds.tail (upd f (s.getD (ds.headD 0) 0) (f (s.getD (ds.headD 0) 0)|||2^r))
def coG (ev:List Ev):Nat->List (List (List Nat))->List Nat->RelD×(Nat->UInt8)->RelD×(Nat->UInt8)
 | _,[],_,p=>p
 | l,R::Rs,ds,p=>coG ev (l+1) Rs ds.tail (jX (R.getD (ds.headD 0) []) p.1,upd p.2 l (ev.getD ((R.getD (ds.headD 0) []).getLastD 0) ev0).v)
def zq (m:MixD) (ds:List Nat):ExD :=
 let c:=coG m.base.ev 0 (m.wr.map zB) (ds.drop m.rs.length) (m.base.co,m.base.mem)
 { m.base with rf:=⟨m.base.rf.n,rfF m.rs ds m.base.rf.to⟩,co:=c.1,mem:=c.2 }
def zG (m:MixD):List Nat:=m.rs.map (fun r=>r.2.length)++m.wr.map fun w=>(zB w).length
def zcX (m:MixD):List ExD:=(z6 (zG m)).map (zq m)
def zaL (Ts:List (List PathD)):List Nat->List PathD
 | []=>[]
 | d::ds=>match Ts with
  | []=>[]
  | T::Ts=>(match T[d]? with | some P=>[P] | none=>[])++zaL Ts ds
theorem zlW:∀ (rs:List Nat) (j:Nat),(∀ n∈rs,n≠0)->∀ (i n d:Nat),rs[i]?=some n->(zab rs j)[i]?=some d->d<n
 | [],_,_,_,_,_,h,_=>by simp at h
 | m::rs,j,h0,0,n,d,h,hd=>by
  have h:m=n:=by simpa using h
  have hd:j%m=d:=by simpa [zab] using hd
  subst h;subst hd;exact Gh _ (KJ (h0 m (by simp)))
 | m::rs,j,h0,i+1,n,d,h,hd=>zlW rs (j/m) (fun n hn=>h0 n (by simp [hn])) i n d (by simpa using h) (by simpa [zab] using hd)
theorem zal {sizes ds:List Nat} (h:ds∈z6 sizes):ds.length=sizes.length/\∀ (i n d:Nat),sizes[i]?=some n->ds[i]?=some d->d<n:=by
 unfold z6 at h;obtain⟨j,hj,rfl⟩:=UL.1 h;have hj:=Uq.1 hj;have h0:∀ n∈sizes.reverse,n≠0:=fun n hn e=>by
  subst e;rw [zdz hn] at hj;omega
 have hl:(zab sizes.reverse j).length=sizes.length:=by rw [zem,Km]
 refine⟨by rw [Km,hl],fun i n d hn hd=>?_⟩;have hi:i<sizes.length:=(Js.1 hn).1;have e1:=JN (l:=sizes.reverse) (i:=i) (by simpa using hi);rw [Kd,hn] at e1;have e2:=JN (l:=zab sizes.reverse j) (i:=i) (by omega);rw [hd,hl] at e2;rw [Km] at e1;exact zlW _ _ h0 _ n d e1.symm e2.symm
theorem zjd:∀ (rs:List (Nat×List Nat)) (r:Nat) (s:List Nat) (ds:List Nat) (f:Nat->Nat),rfF (rs++[(r,s)]) ds f=upd (rfF rs ds f) (s.getD (ds.getD rs.length 0) 0) (rfF rs ds f (s.getD (ds.getD rs.length 0) 0)|||2^r)
 | [],r,s,ds,f=>by
  have:ds.getD 0 0=ds.headD 0:=by cases ds <;> rfl
  show upd f (s.getD (ds.headD 0) 0) _=_;rw [<- this];rfl
 | (r',s')::rs,r,s,ds,f=>by
  have e:ds.getD (rs.length+1) 0=ds.tail.getD rs.length 0:=by
   cases ds with
   | nil=>simp
   | cons a ds=>simp
  show rfF (rs++[(r,s)]) ds.tail _=_;rw [zjd rs r s ds.tail];show _=upd (rfF rs ds.tail _) (s.getD (ds.getD (rs.length+1) 0) 0) (rfF rs ds.tail _ (s.getD (ds.getD (rs.length+1) 0) 0)|||2^r);rw [e]
abbrev za9 (ev:List Ev) (rk:List Nat):UInt8:=(ev.getD (rk.getLastD 0) ev0).v
theorem zjX (ev:List Ev):∀ (Rs:List (List (List Nat))) (R:List (List Nat)) (l:Nat) (ds:List Nat) (p:RelD×(Nat->UInt8)),
  coG ev l (Rs++[R]) ds p=(jX (R.getD (ds.getD Rs.length 0) []) (coG ev l Rs ds p).1,upd (coG ev l Rs ds p).2 (l+Rs.length) (za9 ev (R.getD (ds.getD Rs.length 0) [])))
 | [],R,l,ds,p=>by
  have:ds.getD 0 0=ds.headD 0:=by cases ds <;> rfl
  show (jX (R.getD (ds.headD 0) []) p.1,upd p.2 l _)=_;rw [<- this];rfl
 | R'::Rs,R,l,ds,p=>by
  have e:ds.getD (Rs.length+1) 0=ds.tail.getD Rs.length 0:=by
   cases ds with
   | nil=>simp
   | cons a ds=>simp
  show coG ev (l+1) (Rs++[R]) ds.tail _=_;rw [zjX ev Rs R (l+1) ds.tail];show _=(jX (R.getD (ds.getD (Rs.length+1) 0) []) _,upd _ (l+(Rs.length+1)) (za9 ev (R.getD (ds.getD (Rs.length+1) 0) [])));rw [e,show l+1+Rs.length=l+(Rs.length+1) by omega];rfl
def ziT (r:RelD):Bool:=(List.range 48).all fun i=>decide (r.to i<2^64)
structure MixB (m:MixD):Prop where
 ev:m.base.ev.length<=48
 rl:m.rs.length<=48
 wl:m.wr.length<=6
 rf:∀ i,i<48->m.base.rf.to i<2^64
 co:∀ i,i<48->m.base.co.to i<2^64
 rs:∀ r∈m.rs,r.1<48/\r.2.length<=1000/\∀ s∈r.2,s<48
 wr:∀ w∈m.wr,w.length<=48/\(zB w).length<=10000/\∀ k∈zB w,k≠[]/\k.length<=48/\∀ a∈k,a<m.base.ev.length
theorem zfA (m:MixD) (ds:List Nat):(zq m ds).ev=m.base.ev:=rfl
end Go.Sei
namespace Go.Proofs.YtpalcnbhkigagaaGreatDoor
open Go.Vc Go.RowKit Go.Sei
theorem zdX {X:Wd} {b:Nat} {r:RelD} (f:X.heap[b]?=some (.cells (zj r).toArray 48 (0,0))) {i:Nat} (h:i<48):X.cell? ⟨b,0+1+i*1,none⟩=some (s64 (r.to i)):=by
 rw [UZ,UF];exact zc (za f) (zia r h)
theorem zar {r:RelD} (h:okR r=true):0<=r.n/\r.n<=48/\∀ a,a<48->qa (r.to a) (zac r.n)=0/\((a:Int)<r.n\/r.to a=0):=by
 unfold okR at h;rw [bAT,bAT,dE,dE,Qm] at h;refine⟨h.1,h.2.1,fun a ha=>?_⟩;have:=h.2.2 a (Uq.2 ha);unfold zbs at this;rw [bAT,QJ,dE,dE,dE] at this;exact this
theorem zbB {n:Int} (h0:0<=n) (h:n<=64) {i:Nat} (hi:i<64):(zac n).testBit i=decide ((i:Int)<n):=by
 unfold zac
 split
 ·rw [QG,Uj (by omega)]
 split
 ·rw [show 18446744073709551615=2^64-1 from rfl,Nat.testBit_two_pow_sub_one];rw [Uu hi,Uu (by omega)]
 ·rw [Nat.testBit_two_pow_sub_one];apply QI.2;omega
theorem zij {r:RelD} (h:okR r=true) (hr:zX r.to) {a i:Nat} (ha:a<48) (hb:(r.to a).testBit i=true):(i:Int)<r.n/\(a:Int)<r.n:=by
 obtain⟨h0,h48,hall⟩:=zar h;obtain⟨h1,h2⟩:=hall a ha;have hi:i<64:=by
  apply QC;intro hi;have:=JK (nL (hr a ha) (Kg (by decide) hi));rw [this] at hb;cases hb
 refine⟨?_,?_⟩
 ·have h3:(qa (r.to a) (zac r.n)).testBit i=false:=by rw [h1];exact QG i
  rw [zat (zaG _) hi,hb,zbB h0 (by omega) hi] at h3;simpa using h3
 ·rcases h2 with h2 | h2
  ·exact h2
  ·rw [h2,QG] at hb;cases hb
theorem zpz {r:RelD} (h:okR r=true) (hr:zX r.to) {a:Nat} (ha:a<48):∀ i∈els (r.to a),(i:Int)<r.n/\i<48:=fun i hi=>by
 have h1:=(zij h hr ha (zaC.1 hi).2).1;have:=(zar h).2.1;exact⟨h1,by omega⟩
theorem zcc {s:Nat} (h0:s≠0) (h:s<2^64):(els s).headD 0=ctz s/\(els s).isEmpty=false:=by
 rw [(jM h0 h).1];exact⟨rfl,rfl⟩
theorem zdg {s:Nat} (h:s<2^64) (he:(els s).isEmpty=true):s=0:=by
 apply Jp;intro h0;rw [(zcc h0 h).2] at he;cases he
theorem zgA {s:Nat} (h:s<2^64) (he:(!(els s).isEmpty)=true):s≠0:=fun h0=>by
 subst h0;rw [zaE] at he;cases he
theorem zm2 {n:Nat} {f:Nat->Nat} (h:∀ i,i<n->i<48->f i<2^64):zX (zbA n f).to:=fun i hi=>by
 unfold zbA;dsimp only
 split
 ·rename_i h1;exact h i h1 hi
 ·decide
section
variable {ra rb:RelD} {w:Wd}
theorem zpe {ba bb i a b:Nat} (fa:w.heap[ba]?=some (.cells #[s64 a] 45 (0,0))) (fb:w.heap[bb]?=some (.cells #[s64 b] 45 (0,0))) (hi:i<48) :
  CB 111 (i64 (i:Nat)::[At0 ba,At0 bb]).toArray w (s64 (if a.testBit i then b else 0)):=by
 refine zI 11 (i64 (i:Nat)::[At0 ba,At0 bb]) Tryz.func111 ?_;refine⟨_,zc (za fa) (i:=0) rfl,by omega,_,zfm (k:=i) (by omega),?_⟩;have e1:IntKind.u64.wrap ((BitVec.ofInt IntKind.u64.bits ((a/2^i:Nat):Int)&&&BitVec.ofInt IntKind.u64.bits (1:Int)).toNat:Int)=((a/2^i&&&1:Nat):Int):=by
  show IntKind.u64.wrap ((BitVec.ofInt 64 ((a/2^i:Nat):Int)&&&BitVec.ofInt 64 (1:Int)).toNat:Int)=_;rw [Qj,show (BitVec.ofInt 64 (1:Int)).toNat=1 from rfl,KG,KG,Kv];have e2:(((a/2^i:Nat):Int)%((2^64:Nat):Int)).toNat=(a/2^i)%2^64:=by
   rw [<- Int.natCast_emod,KO]
  rw [e2];generalize a/2^i=m;rw [w64 (by omega)];omega
 refine⟨_,e1,?_⟩;rw [ziJ];refine biE (fun h=>?_) fun h=>?_
 ·have h:a.testBit i=false:=by
   cases hc:a.testBit i with
   | false=>rfl
   | true =>
    rw [hc] at h;exact Gs h (by decide)
  exact⟨by rw [h];rfl,Gd _ _⟩
 ·have h:a.testBit i=true:=by
   cases hc:a.testBit i with
   | true=>rfl
   | false =>
    rw [hc] at h;exact Gs h (by decide)
  exact⟨_,zc (za fb) (i:=0) rfl,by rw [h];rfl,Gd _ _⟩
theorem zqx {n a b:Nat} (hn:n<=48) (ha:a<2^64) (hb:b<2^64):CB 82 #[i64 n,s64 a,s64 b] w (.agg (zj (zgE n a b)).toArray):=by
 refine qX 21 [i64 n,s64 a,s64 b] (.c .p (.s .p (.s .p .p))) Tryz.func82 ?_;obtain⟨L,hL⟩:=nm (w.heap.size);refine⟨Unit,fun _=>⟨[(0,i64 n),(4,At0 L),(5,At0 (L+1)),(6,At0 (L+2))],[]⟩,fun _ X=>X.heap[L]?=some (.cells #[s64 a] 45 (0,0))/\X.heap[L+1]?=some (.cells [s64 b].toArray 45 (0,0))/\X.heap[L+2]?=some (.cells (zj jr).toArray 48 (0,0))/\Bw w X,?_,?_⟩
 ·have s1:=wz w (.cells #[s64 a] 45);have s2:=wz (w.alloc (.cells #[s64 a] 45)) (.cells #[s64 b] 45);have h2:=zz (w.alloc (.cells #[s64 a] 45)) (.cells #[s64 b] 45);have h3:=zz ((w.alloc (.cells #[s64 a] 45)).alloc (.cells #[s64 b] 45)) (.cells (zj jr).toArray 48);rw [s1] at s2 h2;rw [s2] at h3;refine⟨(),⟨.cons rfl (.cons (by rw [hL];rfl) (.cons (by rw [hL,<- s1];rfl) (.cons (by rw [hL,<- s2];rfl) .nil))),rfl⟩,?_,?_,?_,?_⟩
  ·rw [hL];exact qG _ (qG _ (zz w _))
  ·rw [hL];exact qG _ h2
  ·rw [hL];exact h3
  ·exact (((zba w _)).alloc (by simp) _).alloc (by simp;omega) _
 rintro _ X ⟨f0,f1,f2,hbX⟩;refine brN (Uj (by omega)) (brN (Uj (by omega)) (DrawE.ord [4] [0,1,2,3,4] (by kernel_rfl) ⟨_,zc (za (hdr f1)) (i:=0) rfl,cmo zhU ?_⟩));rintro e _ ⟨rfl,rfl⟩;refine⟨Gd _ _,_,zai (a:=b) (b:=zac n) hb (zaG _),?_⟩;have hd:Bw X X.drew:=(Gd _ X).drew;refine zi k45 (hdr f1) (o:=0) (v:=s64 (b&&&zac n)) rfl rfl (by show 0<1;decide) rfl fun Y fY gY sY=>?_;have fY:Y.heap[L+1]?=some (.cells #[s64 (b&&&zac n)] 45 (0,0)):=fY;have hbY:Bw w Y:=((zst hbX hd)).trans (zh gY hbX.size (by omega));have f0Y:=(gY.block L (hlt (hdr f0)) (by simp)).trans (hdr f0);have f2Y:=(gY.block (L+2) (hlt (hdr f2)) (by simp)).trans (hdr f2);refine cmo (zql (w:=Y) (n:=n) (row:=fun x=>if a.testBit x then b&&&jO n else 0) hn (by kernel_rfl) (fun i Z hi hbZ=>zpe (zb hbZ f0Y) (zb hbZ fY) (by omega))) ?_;rintro e Z ⟨rfl,hbZ⟩;have f2Z:=zb hbZ f2Y;exact zJ (v := .agg (zj (zgE n a b)).toArray) k48 f2Z rfl rfl (qo _) ⟨zj (zgE n a b),zk _,za (zA f2Z),rfl,zC ((zst hbY hbZ)) (by omega) _⟩
end
theorem zfo {f:Nat->Nat} (h:zX f) {i v:Nat} (hv:v<2^64):zX (upd f i v):=fun j hj=>by
 by_cases e:j=i
 ·rw [e,zE];exact hv
 ·rw [zV _ _ e];exact h j hj
def zqH (a:Nat) (l:List Nat) (f:Nat->Nat):Nat->Nat:=l.foldl (fun f b=>upd f b (f b|||2^a)) f
section
variable {r:RelD} {w:Wd}
theorem zle (hr:zX r.to) (hT:Tz64M w):Calls PG 52 #[.agg (zj r).toArray] w fun e w'=>e = .returned (.agg (zj (zR r)).toArray)/\Bw w w'/\zX (zR r).to:=by
 refine qX 50 [.agg (zj r).toArray] (.c .p (.s .p (.s .p (.c .p .p)))) Tryz.func52 ?_;obtain⟨L,hL⟩:=nm (w.heap.size);refine⟨Unit,fun _=>⟨[(1,At0 L),(2,At0 (L+1))],[]⟩,fun _ X=>X.heap[L]?=some (.cells (zj r).toArray 48 (0,0))/\X.heap[L+1]?=some (.cells (zj jr).toArray 48 (0,0))/\X.heap.size=L+2/\Bw w X,?_,?_⟩
 ·have s1:=wz w (.cells (zj r).toArray 48);have h2:=zz (w.alloc (.cells (zj r).toArray 48)) (.cells (zj jr).toArray 48);have s2:=wz (w.alloc (.cells (zj r).toArray 48)) (.cells (zj jr).toArray 48);rw [s1] at h2 s2;refine⟨(),⟨.cons (by rw [hL];rfl) (.cons (by rw [hL,<- s1];rfl) .nil),rfl⟩,?_,?_,?_,?_⟩
  ·rw [hL];exact qG _ (zz w _)
  ·rw [hL];exact h2
  ·rw [hL];exact s2
  ·exact ((zba w _)).alloc (by simp) _
 rintro _ X ⟨f0,f1,sX,hbX⟩;refine⟨zj r,zk _,za f0,hlt f0,cmo (zaZ hr) ?_⟩;rintro e Y ⟨rfl,hbY⟩;have hbwY:=zst hbX hbY;have f0Y:=zb hbY f0;have f1Y:=zb hbY f1;refine biE (fun h=>?_) fun h=>?_
 ·have h:okR r=false:=by
   have h:(!okR r)=true:=h;simpa using h
  have e:zR r=jr:=by unfold zR;rw [h];rfl
  rw [e];exact⟨zj jr,rfl,zJ (v := .agg (zj jr).toArray) k48 f1Y rfl rfl (qo _) ⟨zj jr,zk _,za (zA f1Y),rfl,zC hbwY (by omega) _,fun i _=>(by decide:0<2^64)⟩⟩
 have h:okR r=true:=by
  have h:(!okR r)=false:=h;simpa using h
 obtain⟨p0,p48,_⟩:=zar h;obtain⟨n,hn⟩:∃ n:Nat,r.n=n:=⟨r.n.toNat,by omega⟩;have hn48:n<=48:=by omega
 have e0:zR r=⟨n,zaF r.to n⟩:=by unfold zR;rw [Gr h,hn];rfl
 rw [e0];have hnY:Y.cell? ⟨L,0+0,none⟩=some (i64 n):=by rw [<- hn];exact zc (za f0Y) (i:=0) rfl
 refine⟨i64 n,hnY,zj ⟨n,fun _=>0⟩,rfl,?_⟩;have sY:=hbY.size;refine zn (X:=Y) (v := .agg (zj ⟨n,fun _=>0⟩).toArray) k48 rfl rfl (qo _) fun Z hbZ fZ sZ=>?_;obtain⟨M,hM⟩:=nm (Y.heap.size);rw [<- hM] at fZ sZ;have pM:some (Value.pointer (some ⟨Y.heap.size,0,none⟩))=some (At0 M):=by rw [hM]
 have hbwZ:=zst hbwY hbZ;refine⟨Unit,fun _=>⟨[(1,At0 L),(2,At0 (L+1)),(3,At0 M)],[]⟩,fun _ V=>V.heap[M]?=some (.cells (zj ⟨n,zaF r.to n⟩).toArray 48 (0,0))/\V.heap[L+1]?=some (.cells (zj jr).toArray 48 (0,0))/\Bw w V/\zX (zaF r.to n),?_,?_⟩
 ·refine⟨i64 n,by rw [<- hn];exact zc (za (zb hbZ f0Y)) (i:=0) rfl,?_⟩;refine⟨Nat,fun k=>⟨[(1,At0 L),(2,At0 (L+1)),(3,At0 M),(16,i64 n),(17,i64 (k:Nat))],[]⟩,
   fun k V=>k<=n/\V.heap[M]?=some (.cells (zj ⟨n,zaF r.to k⟩).toArray 48 (0,0))/\zX (zaF r.to k)/\Below M Z V,fun k=>n-k,0,
   ⟨.cons rfl (.cons rfl (.cons pM (.cons rfl (.cons rfl .nil)))),rfl⟩,⟨Gb _,fZ,fun i _=>(by decide:0<2^64),Gd _ _⟩,?_⟩
  rintro k V ⟨hk,fV,hwV,hbV⟩;have sV:=hbV.size;refine biE (fun hc=>?_) fun hc=>?_
  ·have hc:(k:Int)<(n:Int):=dT hc;have hkn:k<n:=by omega
   have step:zaF r.to (k+1)=zqH k (els (r.to k)) (zaF r.to k):=by
    unfold zaF;rw [QY,KW];rfl
   have h48:=zpz h hr (a:=k) (by omega);have f0V:V.heap[L]?=some (.cells (zj r).toArray 48 (0,0)):=(hbV.block L (by omega)).trans (zb hbZ f0Y);have hTV:Tz64M V:=hT.below (hbwZ.trans (hbV.mono (by omega)));refine⟨k,rfl,by omega,?_⟩;refine⟨_,zdX f0V (by omega),cmo (zbi (hr k (by omega)) hTV) ?_⟩;rintro e U ⟨rfl,hbU⟩;refine⟨(Nat->Nat)×Nat,fun q=>⟨[(1,At0 L),(2,At0 (L+1)),(3,At0 M),(4,i64 (k:Nat)),(5,s64 q.2),(6,i64 ((els q.2).headD 0:Nat)),(7,.bool (!(els q.2).isEmpty)),(16,i64 n),(17,i64 (k:Nat))],[]⟩,
    fun q T=>(zaF r.to (k+1)=zqH k (els q.2) q.1/\zX q.1/\q.2<2^64/\∀ b∈els q.2,b<48)/\T.heap[M]?=some (.cells (zj ⟨n,q.1⟩).toArray 48 (0,0))/\Below M Z T,fun q=>q.2,(zaF r.to k,r.to k),
    (cvE rfl rfl),⟨⟨step,hwV,hr k (by omega),fun b hb=>(h48 b hb).2⟩,zb hbU fV,hbV.trans (hbU.mono (by omega))⟩,?_⟩
   rintro⟨g,q⟩ T ⟨⟨he,hg,hq,hb48⟩,fT,hbT⟩;dsimp only at he hg hq hb48 fT ⊢;have sT:=hbT.size;refine biE (fun hc=>?_) fun hc=>?_
   ·have h0:=zgA hq hc;obtain⟨e1,e2,_,e3⟩:=jM h0 hq;have hd:=(zcc h0 hq).1;have hc48:ctz q<48:=hb48 _ (by rw [e1];exact KC);rw [hd];refine DrawE.ord [9] [0,1,2,3,4,5,6,7,8,9] (by kernel_rfl) ⟨ctz q,rfl,hc48,_,zdX (hdr fT) hc48,by omega,_,jI (e:=k) (by omega),_,zaw (hg _ hc48) (qb (by omega)),ctz q,rfl,hc48,zi k45 (hdr fT) (o:=0+1+ctz q*1) (v:=s64 (g (ctz q)|||2^k)) rfl rfl (by rw [zk];omega) rfl fun S fS gS sS=>?_⟩;rw [UT,UZ,zdY _ hc48] at fS;have hdT:Bw T T.drew:=(Gd _ T).drew;have hbS:Below M Z S:=(hbT.trans (hdT.mono (show M<=T.heap.size by omega))).trans (zh gS (show M<=T.heap.size by omega) (UY _));refine⟨((q-1:Nat):Int),(w64 (a:=(q:Int)-1) (by omega)).trans (by omega),((jf q:Nat):Int),zai (a:=q) (b:=q-1) hq (by omega),cmo (zbi (s:=jf q) (by omega) (hT.below (hbwZ.trans (hbS.mono (by omega))))) ?_⟩;rintro e R ⟨rfl,hbR⟩;have sS2:=hbS.size;refine⟨(upd g (ctz q) (g (ctz q)|||2^k),jf q),(cvE rfl rfl),⟨⟨?_,zfo hg (Qb (hg _ hc48) (qb (by omega))),by show jf q<_;omega,fun b hb=>hb48 b (by rw [e1];exact Ka _ hb)⟩,zb hbR fS,hbS.trans (hbR.mono (by omega))⟩,e2⟩;rw [he,e1];rfl
   ·have hc:(els q).isEmpty=true:=(by simpa using hc);have:=zdg hq hc;subst this;rw [zaE] at he;have he:zaF r.to (k+1)=g:=he;exact nxI (by omega) ⟨k+1,(cvE rfl rfl),⟨hkn,by rw [he];exact fT,by rw [he];exact hg,hbT⟩,zdc (by omega)⟩
  ·have hc:¬ (k:Int)<(n:Int):=dF hc;obtain rfl:k=n:=by omega
   exact⟨(),(cvE rfl rfl),fV,(hbV.block (L+1) (by omega)).trans (zb hbZ f1Y),hbwZ.trans (hbV.mono (by omega)),hwV⟩
 clear fZ sZ pM hbwZ hbZ Z;rintro _ V ⟨fM,f1V,hbV,hw⟩;exact⟨zj ⟨n,zaF r.to n⟩,zk _,za fM,hlt fM,zJ (v := .agg (zj ⟨n,zaF r.to n⟩).toArray) k48 f1V rfl rfl (qo _) ⟨zj ⟨n,zaF r.to n⟩,zk _,za (zA f1V),rfl,zC hbV (by omega) _,hw⟩⟩
theorem zmP {p:Nat->Bool} {x:Nat} {l:List Nat}:(x::l).find? p=if p x then some x else l.find? p:=by
 rw [List.find?_cons]
 cases p x <;> rfl
theorem zrf {b left:Nat} (f:w.heap[b]?=some (.cells (zj r).toArray 48 (0,0))) (hr:zX r.to) (hs:left<2^64) (h48:∀ i∈els left,i<48) (hT:Tz64M w) :
  CB 169 #[At0 b,s64 left] w (.tuple #[i64 ((zbN r.to left).getD 0:Nat),.bool (zbN r.to left).isSome]):=by
 refine zI 35 [At0 b,s64 left] Tryz.func169 ?_;refine cmo (zbi hs hT) ?_;rintro e X ⟨rfl,hbX⟩;refine⟨Nat,fun q=>⟨[(0,At0 b),(1,s64 left),(6,s64 q),(7,i64 ((els q).headD 0:Nat)),(8,.bool (!(els q).isEmpty))],[]⟩,
  fun q Y=>zbN r.to left=(els q).find? (fun a=>decide (r.to a&&&left=0))/\(q<2^64/\∀ i∈els q,i<48)/\Bw w Y,fun q=>q,left,
  (cvE rfl rfl),⟨rfl,⟨hs,h48⟩,hbX⟩,?_⟩
 clear hbX X;rintro q X ⟨he,⟨hq,h48⟩,hbX⟩;refine biE (fun hc=>?_) fun hc=>?_
 ·have h0:=zgA hq hc;obtain⟨e1,e2,_,e3⟩:=jM h0 hq;have hd:=(zcc h0 hq).1;have hc48:ctz q<48:=h48 _ (by rw [e1];exact KC);have fX:=zb hbX f;refine⟨ctz q,Gl Nat.cast hd.symm,hc48,_,zdX fX hc48,_,zai (hr _ hc48) hs,?_⟩;rw [e1,zmP] at he;refine biE (fun h=>?_) fun h=>?_
  ·have h:r.to (ctz q)&&&left=0:=UB (dT h);rw [Uu h] at he;have he:zbN r.to left=some (ctz q):=he;exact⟨by rw [he,<- hd];rfl,hbX⟩
  ·have h:¬ r.to (ctz q)&&&left=0:=fun e=>by
    have h:¬ (((r.to (ctz q)&&&left:Nat):Int)=0):=dF h;exact h (by rw [e];rfl)
   rw [Uj h] at he;refine⟨((q-1:Nat):Int),(w64 (a:=(q:Int)-1) (by omega)).trans (by omega),((jf q:Nat):Int),zai (a:=q) (b:=q-1) hq (by omega),cmo (zbi (s:=jf q) (by omega) (hT.below hbX)) ?_⟩;rintro e Y ⟨rfl,hbY⟩;exact⟨jf q,(cvE rfl rfl),⟨he,⟨by omega,fun i hi=>h48 i (by rw [e1];exact Ka _ hi)⟩,(zst hbX hbY)⟩,e2⟩
 ·have hc:(els q).isEmpty=true:=by simpa using hc
  have:=zdg hq hc;subst this;rw [zaE] at he;have he:zbN r.to left=none:=he;exact⟨by rw [he];rfl,hbX⟩
end
theorem zcT {s a:Nat} (hs:s<2^64) (ha:a∈els s):els (qa s (2^a))=(els s).filter (fun i => !decide (i=a)):=by
 have ha64:=zox ha;unfold els;rw [List.filter_filter];apply KU;intro i hi;rw [zat (qb ha64) (Uq.1 hi),Ks,Bool.and_comm];congr 2;exact QI.2 ⟨fun h=>h.symm,fun h=>h.symm⟩
theorem j7 {s a:Nat} (hs:s<2^64) (ha:a∈els s):(els (qa s (2^a))).length<(els s).length:=by
 rw [zcT hs ha];exact List.length_filter_lt_length_iff_exists.2 ⟨a,ha,by simp⟩
theorem zob {s a:Nat} (hs:s<2^64) (ha:a∈els s):qa s (2^a)<s:=by
 have h1:qa s (2^a)<=s:=Ua;have h2:qa s (2^a)≠s:=fun e=>by
  have:=j7 hs ha;rw [e] at this;omega
 omega
theorem zdh {n:Nat} (h:n<=64):els (zac n)=List.range n:=by
 have e:∀ i∈List.range 64,(zac n).testBit i=decide (i<n):=fun i hi=>by
  rw [zbB (by omega) (by omega) (Uq.1 hi)];exact QI.2 (by omega)
 unfold els;rw [KU e];obtain⟨m,hm⟩:∃ m,64=n+m:=⟨64-n,by omega⟩;rw [hm,List.range_add,Ky];have f1:(List.range n).filter (fun i=>decide (i<n))=List.range n:=by
  rw [List.filter_eq_self];intro i hi;simpa using hi
 have f2:((List.range m).map (n + ·)).filter (fun i=>decide (i<n))=[]:=by
  rw [JF];intro i hi;obtain⟨j,_,rfl⟩:=UL.1 hi;simp
 rw [f1,f2,QM]
theorem zjH {before:Nat->Nat} {left a:Nat} (h:zbN before left=some a):a∈els left:=List.mem_of_find?_eq_some h
section
variable {r:RelD} {w:Wd}
theorem zsk (hr:zX r.to) (hT:Tz64M w):Calls PG 161 #[.agg (zj r).toArray] w fun e w' =>
  (∃ p c,e = .returned (.tuple #[.slice p ((zdS r).getD []).length c,.bool (zdS r).isSome])/\OwnS zu 3 w.heap.size w' p c ((zdS r).getD []))/\Bw w w':=by
 refine qX 38 [.agg (zj r).toArray] (.c .p (.s .p (.c .p (.c .p (.s .p .p))))) Tryz.func161 ?_;obtain⟨L,hL⟩:=nm (w.heap.size);refine⟨Unit,fun _=>⟨[(1,At0 L)],[]⟩,fun _ X=>X.heap[L]?=some (.cells (zj r).toArray 48 (0,0))/\X.heap.size=L+1/\Bw w X,⟨(),⟨.cons (by rw [hL];rfl) .nil,rfl⟩,by rw [hL];exact zz w _,by rw [hL];exact wz _ _,(zba w _)⟩,?_⟩;rintro _ X ⟨f0,sX,hbX⟩;refine⟨zj r,zk _,za f0,hlt f0,cmo (zaZ hr) ?_⟩;rintro e Y ⟨rfl,hbY⟩;have hbwY:=zst hbX hbY;have f0Y:=zb hbY f0;refine biE (fun h=>?_) fun h=>?_
 ·have h:okR r=false:=by
   have h:(!okR r)=true:=h;simpa using h
  have e:zdS r=none:=by unfold zdS;rw [h];rfl
  rw [e];exact⟨⟨none,0,rfl,OwnS.nil⟩,hbwY⟩
 have h:okR r=true:=by
  have h:(!okR r)=false:=h;simpa using h
 obtain⟨p0,p48,_⟩:=zar h;obtain⟨n,hn⟩:∃ n:Nat,r.n=n:=⟨r.n.toNat,by omega⟩;have hn48:n<=48:=by omega
 have sY:=hbY.size;refine⟨Nat,fun M=>⟨[(1,At0 L),(4,At0 M)],[]⟩,fun M Z=>Z.heap[M]?=some (.cells (zj (zR r)).toArray 48 (0,0))/\L<M/\Z.heap[L]?=some (.cells (zj r).toArray 48 (0,0))/\zX (zR r).to/\Bw w Z,?_,?_⟩
 ·refine⟨zj r,zk _,za f0Y,hlt f0Y,cmo (zle hr (hT.below hbwY)) ?_⟩;rintro e Z ⟨rfl,hbZ,hw⟩;refine zn (X:=Z) (v := .agg (zj (zR r)).toArray) k48 rfl rfl (qo _) fun V hbV fV sV=>?_;have sZ:=hbZ.size;exact⟨Z.heap.size,(cvE rfl rfl),fV,by omega,zb hbV (zb hbZ f0Y),hw,((zst hbwY hbZ)).trans (hbV.mono (by omega))⟩
 clear f0 sX hbX hbY hbwY f0Y sY Y X;rintro M X ⟨fM,hLM,f0,hw,hbX⟩;refine⟨Unit,fun _=>⟨[(1,At0 L),(4,At0 M),(5,s64 (zac n))],[]⟩,fun _ Y=>X=Y,?_,?_⟩
 ·refine⟨i64 n,by rw [<- hn];exact zc (za f0) (i:=0) rfl,cmo zhU ?_⟩;rintro e _ ⟨rfl,rfl⟩;exact⟨(),(cvE rfl rfl),rfl⟩
 rintro _ _ rfl;refine⟨i64 n,by rw [<- hn];exact zc (za f0) (i:=0) rfl,zcO (E:=zu) Tryz.underlying66 k3 rfl rfl rfl n (by show 8*n<=_;omega) (by unfold maxLen;omega) fun Z oZ hbZ sZ=>?_⟩;have hbwZ:=zst hbX hbZ;have wX:=hbX.size;have eT:zdS r=zhY (zR r).to 64 (zac n) []:=by unfold zdS;rw [Gr h,zan,hn]
 have hMX:=hlt fM;refine⟨Nat×List Nat×Nat×OA×Nat,fun q=>⟨[(1,At0 L),(4,At0 M),(5,s64 q.1),(6,.slice q.2.2.2.1 q.2.1.length q.2.2.2.2)],[]⟩,
  fun q Y=>(zdS r=zhY (zR r).to q.2.2.1 q.1 q.2.1/\(els q.1).length<=q.2.2.1/\q.2.2.1+q.2.1.length=64/\q.1<2^64/\∀ i∈els q.1,i<48)/\OwnS zu 3 X.heap.size Y q.2.2.2.1 q.2.2.2.2 q.2.1/\Bw X Y,fun q=>q.1,(zac n,[],64,some ⟨X.heap.size,0,none⟩,n),
  (cvE rfl rfl),⟨⟨eT,zek _,rfl,zaG _,fun i hi=>by
   rw [show els (zac n)=List.range n from zdh (by omega)] at hi;have:=Uq.1 hi;omega⟩,oZ,hbZ⟩,?_⟩
 rintro⟨q,l,m,p,c⟩ Y ⟨⟨he,hm,hml,hq,h48⟩,ho,hbY⟩;dsimp only at he hm hml hq h48 ho ⊢;have sY:=hbY.size;refine biE (fun hc=>?_) fun hc=>?_
 ·have hc:(!decide ((q:Int)=0))=true:=hc;have h0:q≠0:=fun e=>by
   subst e;exact Gs hc (by decide)
  obtain⟨e1,_,_,_⟩:=jM h0 hq;have hm1:1<=(els q).length:=by rw [e1];simp
  obtain⟨m,rfl⟩:∃ m',m=m'+1:=⟨m-1,by omega⟩;have fMY:=zb hbY fM;have step:zdS r=match zbN (zR r).to q with | none=>none | some a=>zhY (zR r).to m (jE q (2^a)) (l++[a]):=by
   rw [he];show (if q=0 then some l else _)=_;rw [Gq h0]
   cases zbN (zR r).to q <;> rfl
  refine cmo (zrf fMY hw hq h48 (hT.below (hbX.trans (hbY.mono wX)))) ?_;rintro e V ⟨rfl,hbV⟩;have hbXV:=hbY.trans (hbV.mono sY)
  cases hf:zbN (zR r).to q with
  | none =>
   rw [hf] at step;refine brT ?_;have e:zdS r=none:=step;rw [e];exact⟨⟨none,0,rfl,OwnS.nil⟩,hbX.trans (hbXV.mono wX)⟩
  | some a =>
   rw [hf] at step;refine brF ?_;have ha:=zjH hf;have ha48:=h48 a ha;refine⟨⟨by decide,by decide,rfl⟩,zu.enc a,rfl,?_⟩;have hba:Bw V (V.alloc (.cells (zu.enc a).toArray 3)):=zba _ _;have hYa:Bw Y (V.alloc (.cells (zu.enc a).toArray 3)):=zst hbV hba;have sa:(V.alloc (.cells (zu.enc a).toArray 3)).heap.size=V.heap.size+1:=wz _ _;have sV:=hbV.size;refine jA (E:=zu) (T:=3) (B:=X.heap.size) (l:=l) (news:=[a]) (cap:=c) (m:=1) Tryz.underlying66 k3 rfl rfl rfl (ho.below hYa) rfl (qF zu a) (by omega) (by omega) (by show (l.length+1)*8<=_;omega) ?_;intro p2 c2 U oU gU hbU hat;refine⟨by omega,_,jI (e:=a) (by omega),_,zaX hq (qb (by omega)),?_⟩;have hlen:=j7 hq ha;refine⟨(qa q (2^a),l++[a],m,p2,c2),(cvE rfl rfl),⟨⟨step,by show (els (qa q (2^a))).length<=m;omega,by simp only [lap,Qv,QR];omega,qW hq,fun i hi=>?_⟩,oU,?_⟩,zob hq ha⟩
   ·rw [zcT hq ha] at hi;exact h48 i (QV.1 hi).1
   ·exact (hbY.trans (hYa.mono sY)).trans hbU
 ·have hc:(!decide ((q:Int)=0))=false:=hc;have h0:q=0:=by
   have h1:decide ((q:Int)=0)=true:=by simpa using hc
   exact UB (dT h1)
  subst h0;have e:zdS r=some l:=by
   rw [he]
   cases m <;> rfl
  rw [e];exact⟨⟨p,c,rfl,OwnS.lower ho wX⟩,hbX.trans (hbY.mono wX)⟩
theorem zna (hr:zX r.to) (hT:Tz64M w):CB 149 #[.agg (zj r).toArray] w (.bool (zg2 r)):=by
 refine zI 11 [.agg (zj r).toArray] Tryz.func149 ?_;have f0:=zz w (.cells (zj r).toArray 48);have hb:Bw w (w.alloc (.cells (zj r).toArray 48)):=zba w _;refine⟨zj r,zk _,za f0,hlt f0,cmo (zsk hr (hT.below hb)) ?_⟩;rintro e X ⟨⟨p,c,rfl,_⟩,hbX⟩;exact⟨rfl,(zst hb hbX)⟩
end
end Go.Proofs.YtpalcnbhkigagaaGreatDoor
namespace Go.Vc
open Go.RowKit
theorem KeepsG.more {F G:Nat->Prop} {A B:Wd} {g:Nat} (h:KeepsG G F A B) (hg:G g):KeepsG G (fun k=>F k\/k=g) A B :=
 ⟨h.os,h.tape,h.output,h.size,h.same,fun k hk=>hk.elim (h.fp k) fun e => .inl (by rw [e];exact hg)⟩
theorem zqr {α:Type} {E:Enc α} {P:Program} {w:Wd} {t T ty B g cap m c:Nat} {a:Addr} {l news:List α} {iT:TI} (hu:P.underlying t=some (.slice T)) (hT:TIok P T iT) (hs:iT.size=E.sz)
  (ho:OwnS E T B w (some ⟨g,0,none⟩) cap l) (hm:news.length=m) (hn:zx w a (news.flatMap E.enc)) (hroom:l.length+m<=cap) {K:Value->Wd->Prop}
  (k:∀ w',OwnS E T B w' (some ⟨g,0,none⟩) cap (l++news)->w.grownBy w' (some g)->K (.slice (some ⟨g,0,none⟩) (l++news).length cap) w') :
  SatR ((Builtin.append_ #[t,t] ty #[.slice (some ⟨g,0,none⟩) l.length cap,.slice (some a) m c]).run P w) K:=by
 obtain⟨⟨inf,hi,hsz,_,_⟩,_⟩:=hT;obtain⟨w',hr,ho',hg⟩:=run_append_fits (P:=P) w B t ty T inf E.sz hu hi (hsz.trans hs) g l.length cap (l.flatMap E.enc) ho a m c (news.flatMap E.enc) (by rw [qp,hm]) hn (zcd news) hroom;refine SatR.mk hr ?_;have hl:l.length+m=(l++news).length:=by simp [hm]
 have hf:l.flatMap E.enc++news.flatMap E.enc=(l++news).flatMap E.enc:=by rw [Kj]
 rw [hl,hf] at ho';rw [hl];exact k w' ho' hg
theorem OwnS.pref {α:Type} {E:Enc α} {T B cap g:Nat} {w:Wd} {l m:List α} (h:OwnS E T B w (some ⟨g,0,none⟩) cap (l++m)):OwnS E T B w (some ⟨g,0,none⟩) cap l:=by
 rcases h.inv with ⟨h,_⟩ | ⟨g',cur,hg,hB,hc,hl,hm,hs,ht⟩
 ·cases h
 ·simp only [Qc,Uw,Gk] at hg;subst hg;unfold OwnS World.ownsRow;refine⟨by rw [qp],.inr ⟨g,cap,cur,rfl,hB,hc,by rw [lap] at hl;omega,hm,hs,?_⟩⟩;have:=Gl (List.take (l.length*E.sz)) ht;rw [List.take_take,Kj,QZ (qp l)] at this;rw [<- this];congr 1;rw [lap,UX];omega
theorem zo {α:Type} {E:Enc α} {T B c:Nat} {Y:Wd} {q:OA} {l:List α} (h:OwnS E T B Y q c l) {a:Addr} (ha:q=some a):B<=a.block/\a.block<Y.heap.size/\∃ cur,Y.heap[a.block]?=some (.cells cur T (0,0)):=by
 rcases h.inv with ⟨h1,_⟩ | ⟨g,cur,h1,h2,h3,_⟩
 ·rw [h1] at ha;cases ha
 ·rw [h1] at ha;cases ha;exact⟨h2,hlt h3,cur,h3⟩
structure Gath {α:Type} (E:Enc α) (T TS B n0 L:Nat) (W:Wd) (NIn:(Nat->Prop)->Wd->α->Prop) (xs:List α) (F:Nat->Prop) (Y:Wd):Prop where
 size:n0<=Y.heap.size
 inL:F L
 lt:∀ k,F k->k<Y.heap.size
 row:∃ (p:OA) (c:Nat),Y.heap[L]?=some (.cells [.slice p xs.length c].toArray TS (0,0))/\OwnS E T B Y p c xs/\∀ a,p=some a->F a.block
 nest:∀ x∈xs,NIn F Y x
 old:Below B W Y
def zhR {α:Type} (T TS:Nat) (NIn:(Nat->Prop)->Wd->α->Prop):Prop :=
 ∀ (F G:Nat->Prop) (Y Z:Wd) (x:α),NIn F Y x->(∀ k cur T',F k->Y.heap[k]?=some (.cells cur T' (0,0))->T'≠T->T'≠TS->Z.heap[k]?=Y.heap[k]?)->(∀ k,F k->G k)->NIn G Z x
theorem Gath.iter {α σ:Type} {E:Enc α} {T TS B n0 L:Nat} {W:Wd} {NIn:(Nat->Prop)->Wd->α->Prop} {f:σ->List α->Prop} (hN:zhR T TS NIn) (hB:B<=n0) :
  JG n0 (fun _=>False) (fun (s:σ) F Y=>∃ xs,f s xs/\Gath E T TS B n0 L W NIn xs F Y):=by
 refine⟨?_,?_⟩
 ·rintro s F A C ⟨xs,hf,h⟩ hs;have sf:∀ k,F k->k<A.heap.size->C.heap[k]?=A.heap[k]?:=fun k hk hl=>hs.same k hl (.inr hk);obtain⟨p,c,h1,h2,h3⟩:=h.row;exact⟨xs,hf,UO h.size hs.size,h.inL,fun k hk=>nL (h.lt k hk) hs.size,⟨p,c,(sf L h.inL (h.lt L h.inL)).trans h1,h2.same fun a ha=>sf _ (h3 a ha) (h.lt _ (h3 a ha)),h3⟩,
   fun x hx=>hN F F A C x (h.nest x hx) (fun k _ _ hk _ _ _=>sf k hk (h.lt k hk)) fun k h=>h,h.old.trans ⟨hs.os,hs.tape,hs.output,hs.size,fun k hk=>hs.same k (nL (nL hk hB) h.size) (.inl ⟨by omega,fun h=>h⟩)⟩⟩
 ·rintro s F A k ⟨xs,_,h⟩ hk;exact⟨h.lt k hk,fun h=>h⟩
theorem Gath.stepX {α:Type} {E:Enc α} {P:Program} {T TS B n0 L ty cap1:Nat} {W Y2 Y3:Wd} {NIn:(Nat->Prop)->Wd->α->Prop} {xs:List α} {F:Nat->Prop} {iT iS:TI} {z:List Value} (hN:zhR T TS NIn) (hne:T≠TS)
  (hu:P.underlying TS=some (.slice T)) (hT:TIok P T iT) (hz:iT.zero=some z) (hs:iT.size=E.sz) (hzl:z.length=E.sz) (hS:TIok P TS iS) (hS1:iS.size=1)
  (h:Gath E T TS B n0 L W NIn xs F Y2) (hB:B<=n0) (hL:B<=L) (hb3:Bw Y2 Y3) (nx:α) (hl:xs.length+1<=4611686018427387904) (hby:(xs.length+1)*iT.bytes<=140737488355328)
  (zz:∀ (G:Nat->Prop) (Z:Wd),(∀ k,Y2.heap.size<=k->k<Y3.heap.size->Z.heap[k]?=Y3.heap[k]?)->(∀ k,Y2.heap.size<=k->k<Y3.heap.size->G k)->(∀ k cur T',F k->Y2.heap[k]?=some (.cells cur T' (0,0))->T'≠T->T'≠TS->Z.heap[k]?=Y2.heap[k]?)->(∀ k,F k->G k)->NIn G Z nx) :
  ∀ p c,Y2.heap[L]?=some (.cells [.slice p xs.length c].toArray TS (0,0)) ->
  ∃ v Y5,(Builtin.append_ #[TS,TS] ty #[.slice p xs.length c,.slice (some ⟨Y3.heap.size,0,none⟩) 1 cap1]).run P (Y3.alloc (.cells (E.enc nx).toArray T)) = .ok v Y5 /\
   ∃ Z,(storeVar TS ⟨L,0,none⟩ v).run P Y5 = .ok () Z/\∃ F',Gath E T TS B n0 L W NIn (xs++[nx]) F' Z/\KeepsG F F' Y2 Z/\∀ k,F k->F' k:=by
 intro p c h4;obtain⟨p',c',h4',h5,h6⟩:=h.row;rw [h4] at h4';simp at h4';obtain⟨rfl,rfl⟩:=h4';have h1:=h.size;have h2:=h.inL;have h3:=h.lt;have hba:Bw Y3 (Y3.alloc (.cells (E.enc nx).toArray T)):=zba _ _;have sa:(Y3.alloc (.cells (E.enc nx).toArray T)).heap.size=Y3.heap.size+1:=wz _ _;have s3:Y2.heap.size<=Y3.heap.size:=hb3.size;have hb2:Bw Y2 (Y3.alloc (.cells (E.enc nx).toArray T)):=hb3.trans (hba.mono s3);have hap:SatR ((Builtin.append_ #[TS,TS] ty #[.slice p xs.length c,.slice (some ⟨Y3.heap.size,0,none⟩) 1 cap1]).run P (Y3.alloc (.cells (E.enc nx).toArray T))) fun v Y5=>∃ p2 c2,v = .slice p2 (xs++[nx]).length c2/\OwnS E T B Y5 p2 c2 (xs++[nx])/\(Y3.alloc (.cells (E.enc nx).toArray T)).grownBy Y5 (Value.slice p xs.length c).ownBlock/\∀ a,p2=some a->p=some a\/a.block=(Y3.alloc (.cells (E.enc nx).toArray T)).heap.size :=
  jA (E:=E) (T:=T) (B:=B) (l:=xs) (news:=[nx]) (cap:=c) (m:=1) hu hT hz hs hzl (h5.below hb2) rfl (by
   have:=zhM (w:=Y3) (cs:=(E.enc nx).toArray) (t:=T);simpa using this) (by omega) (by omega) hby fun p2 c2 Y5 o5 g5 hb5 hat=>⟨p2,c2,rfl,o5,g5,hat⟩
 obtain⟨v,Y5,hrun,p2,c2,rfl,o5,g5,hat⟩:=hap;have pb:∀ {k:Nat},(Value.slice p xs.length c).ownBlock=some k->∃ a,p=some a/\a.block=k:=fun {k} e=>by
  cases hp:p with
  | none=>rw [hp] at e;simp [Value.ownBlock] at e
  | some a =>
   rw [hp] at e;simp only [Value.ownBlock,Qc] at e;exact⟨a,rfl,e⟩
 have h4':Y5.heap[L]?=some (.cells [.slice p xs.length c].toArray TS (0,0)):=by
  refine (g5.block L (hlt (zb hb2 h4)) fun e=>?_).trans (zb hb2 h4);obtain⟨a,hp,e⟩:=pb e.symm;obtain⟨_,_,cur,hcur⟩:=zo h5 hp;rw [e,h4] at hcur;simp at hcur;exact hne hcur.2.symm
 have hst:SatR ((storeVar TS ⟨L,0,none⟩ (.slice p2 (xs++[nx]).length c2)).run P Y5) fun _ Z=>Z.heap[L]?=some (.cells [.slice p2 (xs++[nx]).length c2].toArray TS (0,0))/\Y5.grownBy Z (some L)/\Z.heap.size=Y5.heap.size :=
  zi hS h4' (o:=0) (v := .slice p2 (xs++[nx]).length c2) rfl hS1 (by show 0<1;decide) rfl fun Z fZ gZ sZ=>⟨fZ,gZ,sZ⟩
 obtain⟨u,Z,hrun2,fZ,gZ,sZ⟩:=hst;have s5:=g5.size;refine⟨_,Y5,hrun,Z,hrun2,fun k=>F k\/(Y2.heap.size<=k/\k<Z.heap.size),?_⟩;have wr:∀ k,k<Y2.heap.size->k≠L->(∀ a,p=some a->k≠a.block)->Z.heap[k]?=Y2.heap[k]?:=fun k hk hne hnp=>by
  refine (gZ.block k (by omega) (by simpa using hne)).trans ((g5.block k (by omega) fun e=>?_).trans (hb2.block k hk));obtain⟨a,hp,e⟩:=pb e.symm;exact hnp a hp e.symm
 have new:∀ k,Y2.heap.size<=k->k<Y3.heap.size->Z.heap[k]?=Y3.heap[k]?:=fun k hk1 hk2=>by
  have hL2:=h3 L h2;refine (gZ.block k (by omega) (by simp;omega)).trans ((g5.block k (by omega) fun e=>?_).trans (hba.block k hk2));obtain⟨a,hp,e⟩:=pb e.symm;have:=h3 _ (h6 a hp);omega
 have ty':∀ k cur T',F k->Y2.heap[k]?=some (.cells cur T' (0,0))->T'≠T->T'≠TS->Z.heap[k]?=Y2.heap[k]?:=fun k cur T' hk hc t1 t2=>by
  refine wr k (h3 k hk) (fun e=>?_) fun a ha e=>?_
  ·rw [e,h4] at hc;simp at hc;exact t2 hc.2.symm
  ·obtain⟨_,_,cur',hcur'⟩:=zo h5 ha;rw [<- e,hc] at hcur';simp at hcur';exact t1 hcur'.2
 refine⟨⟨by omega,.inl h2,fun k hk=>?_,⟨p2,c2,fZ,o5.kept gZ fun g hg e=>?_,fun a ha=>?_⟩,fun y hy=>?_,?_⟩,⟨gZ.os.trans (g5.os.trans hb2.os),gZ.tape.trans (g5.tape.trans hb2.tape),gZ.output.trans (g5.output.trans hb2.output),by omega,fun k hk hf=>wr k hk (fun e=>hf (by rw [e];exact h2)) (fun a ha e=>hf (by rw [e];exact h6 a ha)),fun k hk=>hk.imp id fun h=>h.1⟩,fun k hk => .inl hk⟩
 ·rcases hk with hk | hk
  ·have:=h3 k hk;omega
  ·exact hk.2
 ·obtain⟨_,_,cur,hcur⟩:=zo o5 hg;simp only [Qc] at e;have hcur:Y5.heap[g]?=_:=hcur;rw [<- e,h4'] at hcur;simp at hcur;exact hne hcur.2.symm
 ·rcases hat a ha with h | h
  ·exact .inl (h6 a h)
  ·have:=(zo o5 ha).2.1;exact .inr ⟨by omega,by omega⟩
 ·rcases QU.1 hy with hy | hy
  ·exact hN F _ Y2 Z y (h.nest y hy) ty' fun k hk => .inl hk
  ·simp only [KD] at hy;subst hy;exact zz _ Z new (fun k hk1 hk2 => .inr ⟨hk1,by omega⟩) ty' fun k hk => .inl hk
 ·refine h.old.trans ⟨gZ.os.trans (g5.os.trans hb2.os),gZ.tape.trans (g5.tape.trans hb2.tape),gZ.output.trans (g5.output.trans hb2.output),by omega,fun k hk=>wr k (by omega) (by omega) fun a ha=>?_⟩;have:=(zo h5 ha).1;omega
theorem Gath.step {α:Type} {E:Enc α} {P:Program} {T TS B n0 L ty cap1:Nat} {W Y2 Y3:Wd} {NIn:(Nat->Prop)->Wd->α->Prop} {xs:List α} {F:Nat->Prop} {iT iS:TI} {z:List Value} (hN:zhR T TS NIn) (hne:T≠TS)
  (hu:P.underlying TS=some (.slice T)) (hT:TIok P T iT) (hz:iT.zero=some z) (hs:iT.size=E.sz) (hzl:z.length=E.sz) (hS:TIok P TS iS) (hS1:iS.size=1)
  (h:Gath E T TS B n0 L W NIn xs F Y2) (hB:B<=n0) (hL:B<=L) (hb3:Bw Y2 Y3) (nx:α) (hl:xs.length+1<=4611686018427387904) (hby:(xs.length+1)*iT.bytes<=140737488355328)
  (zz:∀ (G:Nat->Prop) (Z:Wd),(∀ k,Y2.heap.size<=k->k<Y3.heap.size->Z.heap[k]?=Y3.heap[k]?)->(∀ k,Y2.heap.size<=k->k<Y3.heap.size->G k)->NIn G Z nx) :
  ∀ p c,Y2.heap[L]?=some (.cells [.slice p xs.length c].toArray TS (0,0)) ->
  ∃ v Y5,(Builtin.append_ #[TS,TS] ty #[.slice p xs.length c,.slice (some ⟨Y3.heap.size,0,none⟩) 1 cap1]).run P (Y3.alloc (.cells (E.enc nx).toArray T)) = .ok v Y5 /\
   ∃ Z,(storeVar TS ⟨L,0,none⟩ v).run P Y5 = .ok () Z/\∃ F',Gath E T TS B n0 L W NIn (xs++[nx]) F' Z/\KeepsG F F' Y2 Z/\∀ k,F k->F' k :=
 h.stepX hN hne hu hT hz hs hzl hS hS1 hB hL hb3 nx hl hby fun G Z h1 h2 _ _=>zz G Z h1 h2
end Go.Vc
namespace Go.Proofs.YtpalcnbhkigagaaGreatDoor
open Go.Vc Go.RowKit Go.Sei
abbrev zaH (X : Wd) (b : Nat) (r : RelD) : Prop := X.heap[b]? = some (.cells (zj r).toArray 48 (0, 0))
def StO (pre : List (List Nat)) (vs : List Value) (W : Wd) : Prop := ∃ l q c, pre.getLast? = some l ∧ vs = [.slice q l.length c] ∧ SlR zu W q l ∧ (q = none → c = 0) ∧ ∀ a, q = some a → ∃ cur, W.heap[a.block]? = some (.cells cur 3 (0, 0))
section
variable {yl n0 n bB : Nat} {J Jx : List (List Nat) → (Nat → Prop) → Wd → Prop} {xs : List (List Nat)} {r : RelD}
theorem zok (hJ : JG n0 (fun _ => False) J) (hn0 : ∀ pre F X, J pre F X → n0 ≤ X.heap.size) (hy : ∀ pre x vs F W1, J pre F W1 → StO (pre ++ [x]) vs W1 → (pre ++ [x]) <+: xs → YieldR PG yl vs.toArray W1 fun v W2 =>
      (v = .bool true ∧ ∃ F', J (pre ++ [x]) F' W2 ∧ KeepsG F F' W1 W2) ∨ (v = .bool false ∧ ∃ F', Jx (pre ++ [x]) F' W2)) (hr : zX r.to) (hn : n ≤ 48) (ht0 : 1 < n0) :
    ∀ (m left : Nat) (l : List Nat) (g : Nat) (pre : List (List Nat)) (F : Nat → Prop) (X : Wd), (els left).length ≤ m → left < 2 ^ 64 → (∀ i ∈ els left, i < 48) → l.length + (els left).length ≤ n → OwnS zu 3 n0 X (some ⟨g, 0, none⟩) n l → ¬ F g → J pre F X → zaH X bB r → ¬ F bB → n0 ≤ bB → bB ≠ g → Tz64M X → ¬ F 1 → (pre ++ j6 r.to m left l) <+: xs →
      Calls PG 150 #[At0 bB, s64 left, .slice (some ⟨g, 0, none⟩) l.length n, .func (.yield yl) #[] #[]] X fun e Y =>
        (e = .returned (.bool true) ∧ ∃ F', J (pre ++ j6 r.to m left l) F' Y ∧ KeepsG (fun k => F k ∨ k = g) F' X Y ∧ OwnS zu 3 n0 Y (some ⟨g, 0, none⟩) n l ∧ ¬ F' g) ∨ (e = .returned (.bool false) ∧ ∃ pre' F', pre' <+: xs ∧ Jx pre' F' Y) := by
  intro m
  induction m with
  | zero =>
    intro left l g pre F X hm hlt64 h48 hln ho hFg hj hR hFb hbn hbg hT hFt hpre
    have h0 : left = 0 := by
      apply Jp
      intro h0
      rw [(jM h0 hlt64).1] at hm
      simp at hm
    subst h0
    refine jl (S := sg 56) (zbe _) (args := [At0 bB, s64 0, .slice (some ⟨g, 0, none⟩) l.length n, .func (.yield yl) #[] #[]]) Tryz.func150 rfl rfl (JU rfl) rfl ?_
    refine brT ?_
    have hs : j6 r.to 0 0 l = [l] := rfl
    rw [hs] at hpre ⊢
    refine YieldR.mono (hy pre l [.slice (some ⟨g, 0, none⟩) l.length n] F X hj ⟨l, _, n, by simp, rfl, ho.row, fun h => (by cases h), fun a ha => (zo ho ha).2.2⟩ hpre) ?_
    rintro v Z (⟨rfl, F', hJZ, hKZ⟩ | ⟨rfl, F', hJZ⟩)
    · have hgl : g < X.heap.size := (zo ho rfl).2.1
      exact .inl ⟨rfl, F', hJZ, hKZ.weak fun k h => .inl h, ho.same fun a ha => by cases ha; exact hKZ.same g hgl hFg, fun h => by
        rcases hKZ.fp g h with h | h
        · exact hFg h
        · omega⟩
    · exact .inr ⟨rfl, _, F', hpre, hJZ⟩
  | succ m ih =>
    intro left l g pre F X hm hlt64 h48 hln ho hFg hj hR hFb hbn hbg hT hFt hpre
    refine jl (S := sg 56) (zbe _) (args := [At0 bB, s64 left, .slice (some ⟨g, 0, none⟩) l.length n, .func (.yield yl) #[] #[]]) Tryz.func150 rfl rfl (JU rfl) rfl ?_
    have hgl : g < X.heap.size := (zo ho rfl).2.1
    have hgn : n0 ≤ g := (zo ho rfl).1
    refine Gi (fun h => ?_) (fun h => ?_)
    · have h : left = 0 := UB (Qf h)
      subst h
      have hs : j6 r.to (m + 1) 0 l = [l] := rfl
      rw [hs] at hpre ⊢
      refine YieldR.mono (hy pre l [.slice (some ⟨g, 0, none⟩) l.length n] F X hj ⟨l, _, n, by simp, rfl, ho.row, fun h => (by cases h), fun a ha => (zo ho ha).2.2⟩ hpre) ?_
      rintro v Z (⟨rfl, F', hJZ, hKZ⟩ | ⟨rfl, F', hJZ⟩)
      · exact .inl ⟨rfl, F', hJZ, hKZ.weak fun k h => .inl h, ho.same fun a ha => by cases ha; exact hKZ.same g hgl hFg, fun h => by
        rcases hKZ.fp g h with h | h
        · exact hFg h
        · omega⟩
      · exact .inr ⟨rfl, _, F', hpre, hJZ⟩
    have h : left ≠ 0 := fun e => (KL h) (by rw [e]; rfl)
    obtain ⟨G, hG⟩ : ∃ G : Nat → List (List Nat), G = fun a => if r.to a &&& left = 0 then j6 r.to m (jE left (2 ^ a)) (l ++ [a]) else [] := ⟨_, rfl⟩
    have hs : j6 r.to (m + 1) left l = (els left).flatMap G := by
      rw [hG]
      show (if left = 0 then [l] else _) = _
      rw [Gq h]
    rw [hs] at hpre ⊢
    refine Ge (zbi hlt64 hT) ?_
    rintro e X1 ⟨rfl, hb1⟩
    refine ⟨Nat × List Nat × (Nat → Prop), fun s => ⟨[(0, At0 bB), (1, s64 left), (2, .slice (some ⟨g, 0, none⟩) l.length n), (3, .func (.yield yl) #[] #[]), (9, s64 s.1), (10, i64 ((els s.1).headD 0 : Nat)), (11, .bool (!(els s.1).isEmpty))], []⟩,
      fun s Z => (els left = s.2.1 ++ els s.1 ∧ s.1 < 2 ^ 64) ∧ J (pre ++ s.2.1.flatMap G) s.2.2 Z ∧ OwnS zu 3 n0 Z (some ⟨g, 0, none⟩) n l ∧ ¬ s.2.2 g ∧ zaH Z bB r ∧ ¬ s.2.2 bB ∧ Tz64M Z ∧ ¬ s.2.2 1 ∧ KeepsG (fun k => F k ∨ k = g) s.2.2 X Z, fun s => s.1, (left, [], F),
      ⟨.cons rfl (.cons rfl (.cons rfl (.cons rfl (.cons rfl (.cons rfl (.cons rfl .nil)))))), rfl⟩, ⟨⟨rfl, hlt64⟩, by show J (pre ++ []) F X1; rw [QM]; exact hJ.step _ _ _ _ hj (.below hb1), ho.below hb1, hFg, zb hb1 hR, hFb, hT.below hb1, hFt, KeepsG.below hb1 fun k h => .inl (.inl h)⟩, ?_⟩
    rintro ⟨q, don, F1⟩ Z ⟨⟨he, hq⟩, hjZ, hoZ, hgZ, hRZ, hbZ, hTZ, htZ, kZ⟩
    dsimp only at he hq hjZ hgZ hbZ htZ kZ ⊢
    have hZn := hn0 _ _ _ hjZ
    refine Gi (fun hc => ?_) (fun hc => ?_)
    · have h0 := zgA hq hc
      obtain ⟨e1, e2, _, e3⟩ := jM h0 hq
      have hd := (zcc h0 hq).1
      have hmem : ctz q ∈ els left := by rw [he, e1]; simp
      have hc48 : ctz q < 48 := h48 _ hmem
      rw [e1] at he
      have hpa : ∀ t, (don ++ [ctz q]).flatMap t = don.flatMap t ++ t (ctz q) := fun t : Nat → List (List Nat) => by
        rw [Kj, KV, Qs, QM]
      have next : ∀ {Y : Wd} {F2 : Nat → Prop}, J (pre ++ (don ++ [ctz q]).flatMap G) F2 Y → OwnS zu 3 n0 Y (some ⟨g, 0, none⟩) n l → ¬ F2 g → zaH Y bB r → ¬ F2 bB → Tz64M Y → ¬ F2 1 → KeepsG (fun k => F k ∨ k = g) F2 X Y →
          ∀ Y2, Below Y.heap.size Y Y2 → ((els left = (don ++ [ctz q]) ++ els (jf q) ∧ jf q < 2 ^ 64) ∧ J (pre ++ (don ++ [ctz q]).flatMap G) F2 Y2 ∧ OwnS zu 3 n0 Y2 (some ⟨g, 0, none⟩) n l ∧ ¬ F2 g ∧ zaH Y2 bB r ∧ ¬ F2 bB ∧ Tz64M Y2 ∧ ¬ F2 1 ∧ KeepsG (fun k => F k ∨ k = g) F2 X Y2) :=
        fun {Y F2} a1 a2 a3 a4 a5 a6 a7 a8 Y2 hb => ⟨⟨by rw [he]; simp, by omega⟩, hJ.step _ _ _ _ a1 (.below hb), a2.below hb, a3, zb hb a4, a5, a6.below hb, a7, a8.trans (KeepsG.below hb fun k h => .inl h)⟩
      refine DrawE.ord [18, 20] [0, 1, 2, 3, 4, 5, 6, 7, 8, 9, 10, 11, 12, 13, 14, 15, 16, 19, 17, 18, 20, 21, 22] (by kernel_rfl) ?_
      have hdZ : Below Z.heap.size Z Z.drew := (Gd _ _).drew
      refine ⟨ctz q, Gl Nat.cast hd.symm, hc48, ?_⟩
      refine ⟨_, zdX (hdr hRZ) hc48, ?_⟩
      refine ⟨_, zai (hr _ hc48) hlt64, ?_⟩
      refine Gi (fun hb => ?_) (fun hb => ?_)
      · have hb : r.to (ctz q) &&& left = 0 := UB (Qf hb)
        have hGc : G (ctz q) = j6 r.to m (jE left (2 ^ ctz q)) (l ++ [ctz q]) := by rw [hG]; exact Gr hb
        refine ⟨by omega, ((2 ^ ctz q : Nat) : Int), by rw [hd]; exact jI (e := ctz q) (by omega), ?_⟩
        refine ⟨_, zaX hlt64 (qb (by omega)), ?_⟩
        refine ⟨⟨by decide, by decide, rfl⟩, zu.enc (ctz q), by rw [hd]; rfl, ?_⟩
        have hba : Below Z.drew.heap.size Z.drew (Z.drew.alloc (.cells (zu.enc (ctz q)).toArray 3)) := (Gd _ _).alloc (UY _) _
        refine ⟨hba, ?_⟩
        have hbA : Below Z.heap.size Z (Z.drew.alloc (.cells (zu.enc (ctz q)).toArray 3)) := hdZ.trans hba
        have hll := j7 hlt64 hmem
        refine zqr (E := zu) (l := l) (news := [ctz q]) (m := 1) Tryz.underlying66 (jL.get 3 _ rfl) rfl (hoZ.below hbA) rfl (qF zu (ctz q)) (by
          have : 1 ≤ (els left).length := by rw [he]; simp; omega
          omega) ?_
        intro Y oY gY
        have hjY := hJ.step _ _ _ _ (hJ.step _ _ _ _ hjZ (.below hbA)) (StepG.grown gY (.inl hgn) hgZ)
        have sA : (Z.drew.alloc (.cells (zu.enc (ctz q)).toArray 3)).heap.size = Z.heap.size + 1 := QH _ _
        have hRY : zaH Y bB r := (gY.block bB (hlt (zb hbA hRZ)) (by simpa using hbg)).trans (zb hbA hRZ)
        have htl := zax hTZ
        have hTY : Tz64M Y := j0 (hTZ.below hbA) (gY.block _ (by omega) (by
          intro e
          have : 1 = g := by simpa using e
          omega))
        have hpre2 : ((pre ++ don.flatMap G) ++ j6 r.to m (jE left (2 ^ ctz q)) (l ++ [ctz q])) <+: xs := by
          refine List.IsPrefix.trans ?_ hpre
          rw [he, ← hGc, Kj, KV]
          exact ⟨(els (jf q)).flatMap G, by simp only [KS]⟩
        refine Ge (ih (qa left (2 ^ ctz q)) (l ++ [ctz q]) g (pre ++ don.flatMap G) F1 Y (by omega) (qW hlt64) (fun i hi => by
          rw [zcT hlt64 hmem] at hi
          exact h48 i (QV.1 hi).1) (by simp only [List.length_append, Qv, QR]; omega) oY hgZ hjY hRY hbZ hbn hbg hTY htZ hpre2) ?_
        rintro e V (⟨rfl, F2, hjV, kV, oV, hgV⟩ | ⟨rfl, pre', F2, hp', hjx⟩)
        · refine brF ?_
          have kZY : KeepsG (fun k => F1 k ∨ k = g) (fun k => F1 k ∨ k = g) Z Y := (KeepsG.below hbA fun k h => .inl h).trans (KeepsG.grown gY (.inr rfl))
          have kW : KeepsG (fun k => F k ∨ k = g) F2 X V := ((kZ.more (.inr rfl)).trans kZY).trans kV
          have sY := gY.size
          have kYV := kV.size
          have hbV : ¬ F2 bB := fun h => by
            have := hlt hRY
            rcases kV.fp bB h with (h | h) | h
            · exact hbZ h
            · exact hbg h
            · omega
          have htV : ¬ F2 1 := fun h => by
            rcases kV.fp _ h with (h | h) | h
            · exact htZ h
            · omega
            · omega
          have hRV : zaH V bB r := (kV.same bB (hlt hRY) (fun h => h.elim hbZ hbg)).trans hRY
          have hTV : Tz64M V := j0 hTY (kV.same _ (by omega) (fun h => h.elim htZ fun e => by omega))
          refine ⟨((q - 1 : Nat) : Int), (w64 (a := (q : Int) - 1) (by omega)).trans (by omega), ?_⟩
          refine ⟨((jf q : Nat) : Int), zai (a := q) (b := q - 1) hq (by omega), ?_⟩
          refine Ge (zbi (s := jf q) (by omega) hTV) ?_
          rintro e U ⟨rfl, hbU⟩
          exact ⟨(jf q, don ++ [ctz q], F2), ⟨.cons rfl (.cons rfl (.cons rfl (.cons rfl (.cons rfl (.cons rfl (.cons rfl .nil)))))), rfl⟩, next (by rw [hpa, hGc, ← KS]; exact hjV) oV.pref hgV hRV hbV hTV htV kW U hbU, e2⟩
        · refine brT ?_
          exact .inr ⟨rfl, pre', F2, hp', hjx⟩
      · have hb : ¬ r.to (ctz q) &&& left = 0 := fun e => (KL hb) (by rw [e]; rfl)
        have hGc : G (ctz q) = [] := by rw [hG]; exact Gq hb
        refine brF ?_
        refine ⟨((q - 1 : Nat) : Int), (w64 (a := (q : Int) - 1) (by omega)).trans (by omega), ?_⟩
        refine ⟨((jf q : Nat) : Int), zai (a := q) (b := q - 1) hq (by omega), ?_⟩
        refine Ge (zbi (s := jf q) (by omega) (hTZ.below hdZ)) ?_
        rintro e Y ⟨rfl, hbY⟩
        exact ⟨(jf q, don ++ [ctz q], F1), ⟨.cons rfl (.cons rfl (.cons rfl (.cons rfl (.cons rfl (.cons rfl (.cons rfl .nil)))))), rfl⟩, next (by rw [hpa, hGc, QM]; exact hjZ) hoZ hgZ hRZ hbZ hTZ htZ kZ Y (hdZ.trans hbY), e2⟩
    · have hc : (els q).isEmpty = true := by simpa using hc
      have := zdg hq hc
      subst this
      rw [zaE, QM] at he
      rw [he]
      exact .inl ⟨rfl, F1, hjZ, kZ, hoZ, hgZ⟩
end
section
variable {r:RelD}
theorem zsj {bx:Nat} {W0:Wd} (hr:zX r.to) (hn:r.n<=48) (fx:zaH W0 bx r) (hT:Tz64M W0) :
  zhS PG 148 [At0 bx] (za5 r) W0 (fun k=>k=bx\/k=1) (fun _=>False) StO:=by
 intro yl F0 J Jx W hsz hrd hrf hJ hJx hy h0;have fxW:zaH W bx r:=(hrd bx (.inl (.inl rfl))).trans fx;have hTW:Tz64M W:=j0 hT (hrd _ (.inl (.inr rfl)));refine zI 17 [.func (.yield yl) #[] #[],At0 bx] Tryz.func148 ?_;refine⟨zj r,zk _,za fxW,hlt fxW,cmo (zna hr hTW) ?_⟩;rintro e X ⟨rfl,hbX⟩;refine biE (fun h=>?_) fun h=>?_
 ·have h:zg2 r=false:=by
   have h:(!zg2 r)=true:=h;simpa using h
  have hs:za5 r=[]:=by unfold za5;rw [h];rfl
  rw [hs];exact⟨⟨_,rfl⟩,.inl ⟨F0,hJ.step _ _ _ _ h0 (.below hbX)⟩⟩
 have h:zg2 r=true:=by
  have h:(!zg2 r)=false:=h;simpa using h
 have hs:za5 r=j6 (zR r).to 64 (jO r.n) []:=by unfold za5;rw [h];rfl
 rw [hs] at hy ⊢;refine⟨zj r,zk _,za (zb hbX fxW),hlt (zb hbX fxW),cmo (zle hr (hTW.below hbX)) ?_⟩;rintro e Y ⟨rfl,hbY,hrB⟩;have hbXY:=zst hbX hbY;refine zn (X:=Y) (v := .agg (zj (zR r)).toArray) k48 (zk _) (by kernel_rfl) (qo _) fun V hbV fV sV=>?_;have hbV2:=zst hbXY hbV;have fxV:=zb hbV2 fxW;have hTV:=hTW.below hbV2;have hok:okR r=true:=by
  unfold zg2 zdS at h
  split at h
  ·assumption
  ·simp at h
 obtain⟨p0,p48,_⟩:=zar hok;obtain⟨n,hnn⟩:∃ n:Nat,r.n=n:=⟨r.n.toNat,by omega⟩;have hn48:n<=48:=by omega
 have hal:els (zac n)=List.range n:=zdh (by omega);have wY:=hbXY.size;have hbVF:¬ F0 Y.heap.size:=fun h=>by have:=(hJ.lt _ _ _ _ h0 h).1;omega
 have htl:=zax hTW;have hJn:JG W.heap.size (fun _=>False) (fun pre F Z=>J pre F Z/\W.heap.size<=Z.heap.size):=⟨fun s F A B ⟨h,hn⟩ hs=>⟨hJ.step _ _ _ _ h hs,UO hn hs.size⟩,fun s F A k ⟨h,_⟩ hk=>hJ.lt _ _ _ _ h hk⟩;have hal2:jO r.n=zac n:=by rw [zan,hnn]
 have main:∀ Z:Wd,OwnS zu 3 V.heap.size Z (some ⟨V.heap.size,0,none⟩) n []->Bw V Z->Calls PG 150 #[At0 Y.heap.size,s64 (zac n),.slice (some ⟨V.heap.size,0,none⟩) 0 n,.func (.yield yl) #[] #[]] Z fun e Y2=>(∃ v,e = .returned v)/\((∃ F',J (j6 (zR r).to 64 (jO r.n) []) F' Y2)\/∃ pre F',pre <+: j6 (zR r).to 64 (jO r.n) []/\Jx pre F' Y2):=by
  intro Z oZ hbZ;have hbWZ:Bw W Z:=zst hbV2 hbZ;refine cmo (zok (l:=[]) (J:=fun pre F Z=>J pre F Z/\W.heap.size<=Z.heap.size) (Jx:=Jx) (n0:=W.heap.size) (n:=n) (bB:=Y.heap.size) (r:=zR r) (xs:=j6 (zR r).to 64 (jO r.n) []) hJn (fun _ _ _ h=>h.2) (fun pre x vs F W1 ⟨hj,hn⟩ hst hpre=>YieldR.mono (hy pre x vs F W1 hj hst hpre) fun v W2 h=>?_) hrB hn48 htl 64 (zac n) V.heap.size [] F0 Z (zek _) (zaG _) (fun i hi=>by
   rw [hal] at hi;have:=Uq.1 hi;omega) (by rw [hal];simp) (oZ.lower hbV2.size) (fun h=>?_) ⟨hJ.step _ _ _ _ h0 (.below hbWZ),hbWZ.size⟩ (zb hbZ fV) hbVF wY (by omega) (hTV.below hbZ) (hrf _ (.inr rfl)) (by rw [hal2];exact List.prefix_refl _)) ?_
  ·rcases h with ⟨rfl,F',h1,h2⟩ | h
   ·exact .inl ⟨rfl,F',⟨h1,UO hn h2.size⟩,h2⟩
   ·exact .inr h
  ·have:=(hJ.lt _ _ _ _ h0 h).1;have:=hbV2.size;omega
  ·rintro e Y2 (⟨rfl,F',⟨hj,_⟩,_⟩ | ⟨rfl,pre',F',h1,h2⟩)
   ·rw [hal2];exact⟨⟨_,rfl⟩,.inl ⟨F',hj⟩⟩
   ·exact⟨⟨_,rfl⟩,.inr ⟨pre',F',h1,h2⟩⟩
 refine DrawE.treeQ [7] (.op 0 (.op 1 (.op 3 (.op 4 (.op 6 (.alt (.op 2 (.op 5 (.op 7 .nil))) (.op 5 (.op 2 (.op 7 .nil))))))))) (by kernel_rfl) ⟨i64 n,by rw [<- hnn];exact zc (za fxV) (i:=0) rfl,i64 n,by rw [<- hnn];exact zc (za fxV) (i:=0) rfl,Gi ?_ ?_⟩
 ·refine cmo zhU ?_;rintro e _ ⟨rfl,rfl⟩;refine⟨Gd _ _,zcO (E:=zu) Tryz.underlying66 k3 rfl rfl rfl n (by show 8*n<=_;omega) (by unfold maxLen;omega) fun Z oZ hbZ sZ=>⟨hbZ,cmo (main Z oZ (((Gd _ V).drew).trans hbZ)) ?_⟩⟩;rintro e Y2 ⟨⟨v,rfl⟩,h⟩;exact⟨⟨_,rfl⟩,h⟩
 ·refine zcO (E:=zu) Tryz.underlying66 k3 rfl rfl rfl n (by show 8*n<=_;omega) (by unfold maxLen;omega) fun Z oZ hbZ sZ=>⟨hbZ,cmo zhU ?_⟩;rintro e _ ⟨rfl,rfl⟩;refine⟨Gd _ _,cmo (main Z oZ (((Gd _ V).drew).trans hbZ)) ?_⟩;rintro e Y2 ⟨⟨v,rfl⟩,h⟩;exact⟨⟨_,rfl⟩,h⟩
theorem zrF {w:Wd}:Calls PG 108 #[.agg (zj r).toArray] w fun e w'=>e = .returned (.func (.func 148) #[] #[At0 w.heap.size])/\zaH w' w.heap.size r/\w'.heap.size=w.heap.size+1/\Bw w w':=by
 refine zI 4 [.agg (zj r).toArray] Tryz.func108 ?_;exact⟨rfl,zz w _,wz _ _,(zba w _)⟩
theorem znh {b:Nat} {m:Nat} {w:Wd} (hr:zX r.to) (fb:zaH w b r):CB 107 #[At0 b,i64 m] w (.bool (decide (m<=10000)&&okR r)):=by
 refine zI 17 [At0 b,i64 m] Tryz.func107 ?_;refine biE (fun h=>?_) fun h=>?_
 ·refine biE (fun h2=>?_) fun h2=>?_
  ·have h2:(m:Int)<=10000:=dT h2;refine⟨zj r,zk _,za fb,hlt fb,cmo (zaZ hr) ?_⟩;rintro e Y ⟨rfl,hbY⟩;exact⟨rb (by rw [Uu (show m<=10000 by omega),UA]),hbY⟩
  ·have h2:¬ (m:Int)<=10000:=dF h2;exact⟨rb (by rw [Uj (show ¬ m<=10000 by omega),Ul]),Gd _ _⟩
 ·have h:¬ (0:Int)<=m:=dF h;omega
end
def qV:Enc (List Nat×OA×Nat) where
 sz:=1
 enc x:=[.slice x.2.1 x.1.length x.2.2]
 len x:=rfl
 one x v hv:=by
  simp at hv;subst hv;rfl
 pos:=by decide
theorem zpf {p:OA} {cap:Nat} {l:List Nat} {w:Wd} (hl:SlR zu w p l) (hn:l.length<=100000) (hc:p=none->cap=0) :
  Calls PG 109 #[.slice p l.length cap] w fun e w'=>(∃ q c,e = .returned (.slice q l.length c)/\OwnS zu 3 w.heap.size w' q c l)/\Bw w w':=by
 refine zI 8 [.slice p l.length cap] Tryz.func109 ?_;refine⟨_,fun w=>zrm Tryz.underlying66 _ _ p l.length cap w,?_⟩
 cases p with
 | none =>
  refine brT ?_;have e:=hl.none;subst e;exact⟨⟨none,0,rfl,OwnS.nil⟩,Gd _ _⟩
 | some a =>
  refine brF ⟨⟨by decide,by decide,rfl⟩,[],rfl,?_⟩;have hb0:Bw w (w.alloc (.cells #[] 3)):=zba w _;refine zfB (E:=zu) (T:=3) (B:=w.heap.size) (l:=[]) (news:=l) (cap:=0) Tryz.underlying66 k3 rfl rfl rfl zf0 rfl (hl.below hb0) (fun h=>by cases h) hb0.size (by simp;omega) (by show (0+l.length)*8<=_;omega) ?_;intro p' cap' w' ho hg hbw;exact⟨⟨p',cap',rfl,ho⟩,hb0.trans hbw⟩
def zrJ (B:Nat) (F:Nat->Prop) (Y:Wd) (x:List Nat×OA×Nat):Prop:=OwnS zu 3 B Y x.2.1 x.2.2 x.1/\∀ a,x.2.1=some a->F a.block
theorem zeK (B:Nat):zhR 66 85 (zrJ B):=by
 rintro F G Y Z x ⟨h1,h2⟩ hs hFG;refine⟨h1.same fun a ha=>?_,fun a ha=>hFG _ (h2 a ha)⟩;obtain⟨_,_,cur,hc⟩:=zo h1 ha;exact hs _ cur 3 (h2 a ha) hc (by decide) (by decide)
theorem zpV {before:Nat->Nat}:∀ (m left:Nat) (l:List Nat),∀ x∈j6 before m left l,x.length<=l.length+m:=by
 intro m
 induction m with
 | zero =>
  intro left l x hx;unfold j6 at hx
  split at hx
  ·simp only [KD] at hx;subst hx;omega
  ·cases hx
 | succ m ih =>
  intro left l x hx;unfold j6 at hx
  split at hx
  ·simp only [KD] at hx;subst hx;omega
  ·obtain⟨a,_,ha⟩:=List.mem_flatMap.1 hx
   split at ha
   ·have:=ih _ _ _ ha;simp only [lap,Qv,QR] at this;omega
   ·cases ha
theorem zlH {r:RelD} {x:List Nat} (h:x∈za5 r):x.length<=64:=by
 unfold za5 at h
 split at h
 ·have:=zpV _ _ _ x h;simpa using this
 ·cases h
def AscB (xs:List (List Nat×OA×Nat)):Prop:=xs.Pairwise fun x y=>∀ a b,x.2.1=some a->y.2.1=some b->a.block<b.block
theorem AscB.snoc {xs:List (List Nat×OA×Nat)} {n:Nat} {y:List Nat×OA×Nat} (h:AscB xs) (h1:∀ x∈xs,∀ a,x.2.1=some a->a.block<n) (h2:∀ a,y.2.1=some a->n<=a.block):AscB (xs++[y]):=by
 unfold AscB;rw [List.pairwise_append];refine⟨h,List.pairwise_singleton _ _,fun x hx z hz a b ha hb=>?_⟩;rw [KD.1 hz] at hb;exact nL (h1 x hx a ha) (h2 b hb)
abbrev zsb:List (List Nat×OA×Nat):=[]
theorem zo7 {r:RelD} {m:Nat} {w:Wd} (hr:zX r.to) (hT:Tz64M w) (hm:m<=10000) (hok:okR r=true) :
  Calls PG 81 #[.agg (zj r).toArray,i64 m] w fun e w' =>
   (((za5 r).length<=m/\∃ (xs:List (List Nat×OA×Nat)) (p:OA) (c:Nat),e = .returned (.tuple #[.slice p xs.length c,i64 0])/\xs.map (·.1)=za5 r/\AscB xs/\OwnS qV 66 w.heap.size w' p c xs/\∀ x∈xs,OwnS zu 3 w.heap.size w' x.2.1 x.2.2 x.1) \/
    (m<(za5 r).length/\e = .returned (.tuple #[.slice none 0 0,i64 5])))/\Bw w w':=by
 refine qX 24 [.agg (zj r).toArray,i64 m] (.c .p (.s .p (.c .p .p))) Tryz.func81 ?_;obtain⟨L,hL⟩:=nm (w.heap.size);refine⟨Unit,fun _=>⟨[(2,At0 L),(3,At0 (L+1)),(4,At0 (L+2)),(5,At0 (L+3))],[]⟩,fun _ X=>(zaH X L r/\X.heap[L+1]?=some (.cells #[i64 m] 3 (0,0))/\X.heap[L+2]?=some (.cells #[.slice none 0 0] 85 (0,0))/\X.heap[L+3]?=some (.cells #[i64 0] 34 (0,0)))/\X.heap.size=L+4/\Bw w X,?_,?_⟩
 ·have s1:=wz w (.cells (zj r).toArray 48);have h2:=zz (w.alloc (.cells (zj r).toArray 48)) (.cells #[i64 m] 3 (0,0));have s2:=wz (w.alloc (.cells (zj r).toArray 48)) (.cells #[i64 m] 3 (0,0));have h3:=zz ((w.alloc (.cells (zj r).toArray 48)).alloc (.cells #[i64 m] 3 (0,0))) (.cells #[.slice none 0 0] 85 (0,0));have s3:=wz ((w.alloc (.cells (zj r).toArray 48)).alloc (.cells #[i64 m] 3 (0,0))) (.cells #[.slice none 0 0] 85 (0,0));have h4:=zz (((w.alloc (.cells (zj r).toArray 48)).alloc (.cells #[i64 m] 3 (0,0))).alloc (.cells #[.slice none 0 0] 85 (0,0))) (.cells #[i64 0] 34 (0,0));have s4:=wz (((w.alloc (.cells (zj r).toArray 48)).alloc (.cells #[i64 m] 3 (0,0))).alloc (.cells #[.slice none 0 0] 85 (0,0))) (.cells #[i64 0] 34 (0,0));rw [s1] at h2 s2;rw [s2] at h3 s3;rw [s3] at h4 s4;rw [<- hL] at h2 s2 h3 s3 h4 s4;have f0:=qG (.cells #[i64 0] 34 (0,0)) (qG (.cells #[.slice none 0 0] 85 (0,0)) (qG (.cells #[i64 m] 3 (0,0)) (zz w (.cells (zj r).toArray 48))));rw [<- hL] at f0;exact⟨(),⟨.cons (by rw [hL];rfl) (.cons (by rw [hL,<- s1];rfl) (.cons (by rw [<- s2];rfl) (.cons (by rw [<- s3];rfl) .nil))),rfl⟩,⟨f0,qG _ (qG _ h2),qG _ h3,h4⟩,s4,((((zba w _)).alloc (by simp) _).alloc (by simp;omega) _).alloc (by simp;omega) _⟩
 rintro _ X ⟨⟨f0,f1,f2,f3⟩,sX,hbX⟩;refine⟨_,zc (za f1) (i:=0) rfl,cmo (znh hr f0) ?_⟩;rintro e Y ⟨rfl,hbY⟩;refine brN (by rw [hok,Uu hm];rfl) ?_;have hwY:=zst hbX hbY;obtain⟨M,hM⟩:=nm (Y.heap.size);have hMX:L+4<=M:=by have:=hbY.size;omega
 refine⟨Unit,fun _=>⟨[(2,At0 L),(3,At0 (L+1)),(4,At0 (L+2)),(5,At0 (L+3)),(6,At0 M)],[]⟩,fun _ V=>V.heap[M]?=some (.cells #[.slice none 0 0] 85 (0,0))/\V.heap.size=M+1/\Bw X V,?_,?_⟩
 ·exact⟨(),⟨.cons rfl (.cons rfl (.cons rfl (.cons rfl (.cons (by rw [hM];rfl) .nil)))),rfl⟩,by rw [hM];exact zz Y _,by rw [hM];exact wz Y _,hbY.alloc hbY.size _⟩
 rintro _ V ⟨fM,sV,hbV⟩;have hwV:=zst hbX hbV;have f0:=zb hbV f0;have f1:=zb hbV f1;have f2:=zb hbV f2;have f3:=zb hbV f3;refine⟨zj r,zk _,za f0,hlt f0,cmo zrF ?_⟩;rintro e W ⟨rfl,fx,sW,hbW⟩;obtain⟨p0,p48,_⟩:=zar hok;have hwW:=zst hwV hbW;have htl:=zax hT;have hI:=zsj hr p48 fx (hT.below hwW);have f1:=zb hbW f1;have f2:=zb hbW f2;have f3:=zb hbW f3;have fM:=zb hbW fM;have hwL:w.heap.size=L:=hL.symm;clear hbV hbY hwY hbX f0 sX;refine zcK (zbe _) rfl (lb := #[At0 V.heap.size]) rfl rfl hI (UY _) (fun k hk=>⟨?_,rfl⟩) (fun pre vs W ⟨l,q,c,_,h,_⟩=>by rw [h];rfl) (by decide)
  (fun k=>k=M\/k=L+2\/k=L+3)
  (fun pre F Z=>(∃ xs,(xs.map (·.1)=pre/\pre.length<=m/\AscB xs)/\Gath qV 66 85 (L+4) W.heap.size M W (zrJ (L+4)) xs F Z)/\F (L+2)/\F (L+3))
  (fun ex pre F Z=>ex = .ret/\m<(za5 r).length/\Z.heap[L+2]?=some (.cells #[.slice none 0 0] 85 (0,0))/\Z.heap[L+3]?=some (.cells #[i64 5] 34 (0,0))/\Bw w Z/\W.heap.size<=Z.heap.size/\F (L+2)/\F (L+3)/\∀ k,F k->k<Z.heap.size)
  (fun k hk=>?_) ⟨?_,?_⟩ (fun ex=>⟨?_,?_⟩) ?_ ?_ ?_ ?_
 ·rcases hk with (rfl | rfl) | h
  ·omega
  ·have:=hwW.size;omega
  ·exact h.elim
 ·rcases hk with rfl | rfl <;> omega
 ·rintro pre F A C ⟨h,h2,h3⟩ hs;exact⟨(Gath.iter (σ:=List (List Nat)) (f:=fun pre xs=>xs.map (·.1)=pre/\pre.length<=m/\AscB xs) (zeK (L+4)) (by omega)).step pre F A C h hs,h2,h3⟩
 ·rintro pre F A k ⟨h,_⟩ hk;exact (Gath.iter (σ:=List (List Nat)) (f:=fun pre xs=>xs.map (·.1)=pre/\pre.length<=m/\AscB xs) (zeK (L+4)) (by omega)).lt pre F A k h hk
 ·rintro pre F A C ⟨h1,h2,h3,h4,h5,h6,h7,h8,h9⟩ hs;exact⟨h1,h2,(hs.same _ (hlt h3) (.inr h7)).trans h3,(hs.same _ (hlt h4) (.inr h8)).trans h4,h5.trans ⟨hs.os,hs.tape,hs.output,hs.size,fun k hk=>hs.same k (nL hk h5.size) (.inl ⟨by omega,fun h=>h⟩)⟩,UO h6 hs.size,h7,h8,fun k hk=>nL (h9 k hk) hs.size⟩
 ·rintro pre F A k ⟨h1,h2,h3,h4,h5,h6,h7,h8,h9⟩ hk;exact⟨h9 k hk,fun h=>h⟩
 ·refine⟨⟨zsb,⟨rfl,Gb _,List.Pairwise.nil⟩,⟨UY _,.inl rfl,fun k hk=>?_,⟨none,0,fM,OwnS.nil,fun a h=>by cases h⟩,fun x hx=>(by cases hx),Gd _ _⟩⟩,.inr (.inl rfl),.inr (.inr rfl)⟩;rcases hk with rfl | rfl | rfl <;> omega
 ·rintro yl pre x vs F Y hyl hpre hJ ⟨l,q,c,hlast,rfl,hsl,hqc,hcel⟩ hfy ⟨lo,hlo⟩;have hxR:x=l:=by simpa using hlast
  subst hxR;refine⟨rfl,F,KeepsG.refl _ _,hJ,?_⟩;rintro o Y2 hY2 ⟨⟨xs,⟨hxs,hpm,hasc⟩,hG⟩,hF2,hF3⟩;have hpl:pre.length<(za5 r).length:=by
   obtain⟨t,ht⟩:=hpre;rw [<- ht];simp only [lap,Qv];omega
  have hxl:xs.length=pre.length:=by rw [<- hxs,QQ]
  have hmem:x∈za5 r:=hpre.subset (by simp);have hlen:=zlH hmem;have hslY:SlR zu Y2 q x:=by
   rw [hY2];refine qT hsl fun a ha=>zg fun e=>?_;obtain⟨cur,hcur⟩:=hcel a ha;rw [e,hlo] at hcur
   cases hcur
  obtain⟨p,c',h4,h5,h6⟩:=hG.row;have hWL:L+4<=W.heap.size:=by omega
  have g1:Y2.heap[L+1]?=some (.cells #[i64 m] 3 (0,0)):=(hG.old.block _ (by omega)).trans f1;refine⟨_,zc (za h4) (i:=0) rfl,_,zc (za g1) (i:=0) rfl,biE (fun hc=>?_) fun hc=>?_⟩
  ·have hc:((xs.length:Nat):Int)=(m:Int):=dT hc;have g2:Y2.heap[L+2]?=some (.cells #[.slice none 0 0] 85 (0,0)):=(hG.old.block _ (by omega)).trans f2;have g3:Y2.heap[L+3]?=some (.cells #[i64 0] 34 (0,0)):=(hG.old.block _ (by omega)).trans f3;refine zi k85 g2 (o:=0) (v := .slice none 0 0) rfl rfl (by show 0<1;decide) rfl fun Z1 fZ1 gZ1 sZ1=>zi k34 ((gZ1.block (L+3) (hlt g3) (by simp)).trans g3) (o:=0) (v:=i64 5) rfl rfl (by show 0<1;decide) rfl fun Z2 fZ2 gZ2 sZ2=>⟨F,⟨rfl,by omega,(gZ2.block (L+2) (hlt fZ1) (by simp)).trans fZ1,fZ2,?_,by have:=hG.size;omega,hF2,hF3,fun k hk=>by have:=hG.lt k hk;omega⟩,(KeepsG.grown gZ1 hF2).trans (KeepsG.grown gZ2 hF3)⟩;have hwY:=hwW.trans (hG.old.mono (by omega));exact (hwY.trans (zh gZ1 hwY.size (by omega))).trans (zh gZ2 (by have:=hwY.size;omega) (by omega))
  ·have hc:¬ ((xs.length:Nat):Int)=(m:Int):=dF hc;refine DrawE.ord [4,5] [0,1,2,3,4,5] (by kernel_rfl) ?_;have hd2:Bw Y2 Y2.drew:=(Gd _ _).drew;refine⟨_,zc (za (hdr h4)) (i:=0) rfl,cmo (zpf (hslY.below hd2) (by omega) hqc) ?_⟩;rintro e Y3 ⟨⟨q1,k1,rfl,o1⟩,hb3⟩;refine⟨hb3,?_⟩;obtain⟨nx,hnx⟩:∃ nx:List Nat×OA×Nat,nx=(x,q1,k1):=⟨_,rfl⟩;have hen:[Value.slice q1 x.length k1]=qV.enc nx:=by rw [hnx];rfl
   refine⟨⟨by decide,by decide,rfl⟩,qV.enc nx,by rw [<- hen];rfl,?_⟩;have hba:Bw Y3 (Y3.alloc (.cells (qV.enc nx).toArray 66)):=zba _ _;refine⟨hba,?_⟩;have hnw:∀ (G:Nat->Prop) (Z:Wd),(∀ k,Y2.heap.size<=k->k<Y3.heap.size->Z.heap[k]?=Y3.heap[k]?)->(∀ k,Y2.heap.size<=k->k<Y3.heap.size->G k)->zrJ (L+4) G Z nx:=by
    intro G Z hs hg;rw [hnx];have ol:∀ a,q1=some a->Y2.heap.size<=a.block/\a.block<Y3.heap.size:=fun a ha=>⟨(zo o1 ha).1,(zo o1 ha).2.1⟩;have hY2s:=hG.size;exact⟨OwnS.lower (o1.same fun a ha=>hs _ (ol a ha).1 (ol a ha).2) (by show L+4<=Y2.heap.size;omega),fun a ha=>hg _ (ol a ha).1 (ol a ha).2⟩
   obtain⟨v,Y5,hrun,Z,hrun2,F',hG',hK',hFF⟩:=hG.step (P:=PG) (ty:=85) (cap1:=1) (zeK (L+4)) (by decide) Tryz.underlying85 k66 rfl rfl rfl k85 rfl (by omega) (by omega) (hd2.trans hb3) nx (by omega) (by show (xs.length+1)*24<=_;omega) hnw p c' h4;exact SatR.mk hrun (SatR.mk hrun2 ⟨F',⟨⟨_,⟨by rw [QT,hxs,hnx];rfl,by simp only [lap,Qv,QR];omega,hasc.snoc (n:=Y2.heap.size) (fun x' hx' a ha=>(zo (hG.nest x' hx').1 ha).2.1) (fun a ha=>by rw [hnx] at ha;exact (zo o1 ha).1)⟩,hG'⟩,hFF _ hF2,hFF _ hF3⟩,hK'⟩)
 ·rintro D F Y hD hfD ⟨⟨xs,⟨hxs,hpm,hasc⟩,hG⟩,hF2,hF3⟩ hdef;obtain⟨p,c',h4,h5,h6⟩:=hG.row;have hWL:L+4<=W.heap.size:=by omega
  have g2:Y.heap[L+2]?=some (.cells #[.slice none 0 0] 85 (0,0)):=(hG.old.block _ (by omega)).trans f2;have g3:Y.heap[L+3]?=some (.cells #[i64 0] 34 (0,0)):=(hG.old.block _ (by omega)).trans f3;refine⟨_,zc (za h4) (i:=0) rfl,zi k85 g2 (o:=0) (v := .slice p xs.length c') rfl rfl (by show 0<1;decide) rfl fun Z1 fZ1 gZ1 sZ1=>zi k34 ((gZ1.block (L+3) (hlt g3) (by simp)).trans g3) (o:=0) (v:=i64 0) rfl rfl (by show 0<1;decide) rfl fun Z2 fZ2 gZ2 sZ2=>?_⟩;have k2:∀ k,k<Y.heap.size->k≠L+2->k≠L+3->Z2.heap[k]?=Y.heap[k]?:=fun k hk n1 n2=>(gZ2.block k (by rw [sZ1];exact hk) (by simpa using n2)).trans (gZ1.block k hk (by simpa using n1));refine⟨_,rfl,(k2 D (hlt hdef) (by omega) (by omega)).trans hdef,?_⟩;have f2':=(gZ2.block (L+2) (hlt fZ1) (by simp)).trans fZ1;have nD2:D≠L+2:=fun e=>hfD (e▸hF2);have nD3:D≠L+3:=fun e=>hfD (e▸hF3);have hwY:=hwW.trans (hG.old.mono (by omega));have b2:=(hwY.trans (zh gZ1 hwY.size (by omega))).trans (zh gZ2 (by have:=hwY.size;omega) (by omega));have kp:∀ a:Addr,L+4<=a.block->F a.block->a.block<Y.heap.size->(Z2.putObj D (.deferred none)).heap[a.block]?=Y.heap[a.block]?:=fun a h1 h2 h3=>(zg fun e=>by rw [<- e] at hfD;exact hfD h2).trans (k2 _ h3 (by omega) (by omega));refine⟨.slice p xs.length c',zc (za ((zg fun e=>nD2 e.symm).trans f2')) (i:=0) rfl,i64 0,zc (za ((zg fun e=>nD3 e.symm).trans fZ2)) (i:=0) rfl,.inl ⟨by rw [<- hxs,QQ] at hpm ⊢;exact hpm,xs,p,c',rfl,hxs,hasc,?_,fun x hx=>?_⟩,qP b2 (by omega) _⟩
  ·exact OwnS.lower (h5.same fun a ha=>kp a (zo h5 ha).1 (h6 a ha) (zo h5 ha).2.1) (by omega)
  ·obtain⟨hx1,hx2⟩:=hG.nest x hx;exact OwnS.lower (hx1.same fun a ha=>kp a (zo hx1 ha).1 (hx2 a ha) (zo hx1 ha).2.1) (by omega)
 ·rintro D ex pre F Y hD hfD hpre ⟨rfl,hm2,h3,h4,h5,h6,h7,h8,h9⟩ hdef;refine⟨_,rfl,hdef,?_⟩;have nD2:D≠L+2:=fun e=>hfD (e▸h7);have nD3:D≠L+3:=fun e=>hfD (e▸h8);exact⟨_,zc (za ((zg fun e=>nD2 e.symm).trans h3)) (i:=0) rfl,_,zc (za ((zg fun e=>nD3 e.symm).trans h4)) (i:=0) rfl,.inr ⟨hm2,rfl⟩,qP h5 (by have:=hwW.size;omega) _⟩
theorem zpb {p:OA} {cap:Nat} {l:List Nat} {s:Nat} {w:Wd} (hl:SlR zu w p l) (hn:l.length<=140737488351232) :
  Calls PG 106 #[.slice p l.length cap,i64 s] w fun e w'=>∃ n:Int,e = .returned (i64 n)/\decide (0<=n)=l.any (fun q=>decide (q=s))/\w=w':=by
 refine zI 19 [.slice p l.length cap,i64 s] Tryz.func106 ?_;refine⟨Nat,fun k=>⟨[(0,.slice p l.length cap),(1,i64 s),(7,i64 l.length),(8,i64 (k:Nat))],[]⟩,fun k X=>k<=l.length/\(∀ q∈l.take k,¬ q=s)/\w=X,fun k=>l.length-k,0,(cvE rfl rfl),⟨Gb _,by simp,rfl⟩,?_⟩;rintro k _ ⟨hk,hno,rfl⟩;dsimp only at hk hno ⊢;refine biE (fun hc=>?_) fun hc=>?_
 ·have hc:(k:Int)<(l.length:Int):=dT hc;have hkl:k<l.length:=by omega
  obtain⟨b,o,rfl,hb,hat⟩:=hl.at hkl;refine⟨k,rfl,hkl,i64 l[k],zc (hat k hkl) (i:=0) rfl,biE (fun h=>?_) fun h=>?_⟩
  ·have h:(s:Int)=(l[k]:Nat):=dT h;refine⟨k,rfl,?_,rfl⟩;rw [Uu (by omega)];symm;rw [Qn];exact⟨l[k],gM _,Uu (by omega)⟩
  ·have h:¬ (s:Int)=(l[k]:Nat):=dF h;refine⟨(k+1:Nat),(ze (by omega)).trans (by omega),k+1,(cvE rfl rfl),⟨hkl,?_,rfl⟩,zdc (by omega)⟩;rw [tsg hkl];intro q hq;rcases QU.1 hq with hq | hq
   ·exact hno q hq
   ·simp only [KD] at hq;rw [hq];exact fun e=>h (by rw [e])
 ·have hc:¬ (k:Int)<(l.length:Int):=dF hc;obtain rfl:k=l.length:=by omega
  rw [Qz] at hno;refine⟨-1,rfl,?_,rfl⟩;symm;show _=false;rw [KR];exact fun q hq=>by simpa using hno q hq
theorem zj9 {p:OA} {cap:Nat} {l:List Nat} {s:Nat} {w:Wd} (hl:SlR zu w p l) (hn:l.length<=140737488351232) :
  Calls PG 77 #[.slice p l.length cap,i64 s] w fun e w'=>e = .returned (.bool (l.any fun q=>decide (q=s)))/\w=w':=by
 refine zI 9 [.slice p l.length cap,i64 s] Tryz.func77 ?_;refine cmo (zpb hl hn) ?_;rintro e _ ⟨n,rfl,h,rfl⟩;exact⟨rb h,rfl⟩
abbrev zh8 (l:List Nat):List Value:=l.map fun n:Nat=>i64 n
abbrev RowI (Z:Wd) (g:Nat) (l:List Nat):Prop:=Z.heap[g]?=some (.cells (zh8 l).toArray 3 (0,0))
theorem zd6:∀ l:List Nat,l.flatMap zu.enc=zh8 l
 | []=>rfl
 | a::l=>by
  show i64 a::l.flatMap zu.enc=i64 a::zh8 l;rw [zd6 l]
theorem ziO:∀ n,zbR [Value.int IntKind.i64 0] n=zh8 (List.replicate n 0)
 | 0=>rfl
 | n+1=>by
  show Value.int IntKind.i64 0::zbR [Value.int IntKind.i64 0] n=i64 0::zh8 (List.replicate n 0);rw [<- ziO n];rfl
theorem RowI.sl {Z:Wd} {g:Nat} {l:List Nat} (h:RowI Z g l):SlR zu Z (some ⟨g,0,none⟩) l :=
 SlR.of_cells (hlt h) (by rw [zd6];exact za h)
theorem zmA {α:Type} {f:Nat->α} {n j:Nat} (h:j<n):((List.range j).map f++[f j]) <+: (List.range n).map f:=by
 obtain⟨m,rfl⟩:∃ m,n=(j+1)+m:=⟨n-(j+1),by omega⟩;rw [List.range_add,QT];exact⟨_,by rw [QY,QT];rfl⟩
def StD (pre:List (List Nat)) (vs:List Value) (W:Wd):Prop:=∃ l q,pre.getLast?=some l/\vs=[.slice q l.length l.length]/\SlR zu W q l/\∀ a,q=some a->∃ cur,W.heap[a.block]?=some (.cells cur 3 (0,0))
section
variable {bx:Nat} {sizes:List Nat} {q:OA} {c:Nat} {W0:Wd}
theorem zqz (fx:W0.heap[bx]?=some (.cells #[.slice q sizes.length c] 66 (0,0))) (hl:SlR zu W0 q sizes) (hql:∀ a,q=some a->a.block<W0.heap.size) (hn:sizes.length<=1000) (hm:∀ n∈sizes,n<=1000000) :
  zhS PG 76 [At0 bx] (z6 sizes) W0 (fun k=>k=bx\/∃ a,q=some a/\k=a.block) (fun _=>False) StD:=by
 intro yl F0 J Jx W hsz hrd hrf hJ hJx hy h0;have fxW:=(hrd bx (.inl (.inl rfl))).trans fx;have hlW:SlR zu W q sizes:=qT hl fun a ha=>hrd _ (.inl (.inr ⟨a,ha,rfl⟩));refine zI 43 [.func (.yield yl) #[] #[],At0 bx] Tryz.func76 ?_;refine⟨_,zc (za fxW) (i:=0) rfl,cmo (zj9 (s:=0) hlW (by omega)) ?_⟩;rintro e _ ⟨rfl,rfl⟩;refine biE (fun h=>?_) fun h=>?_
 ·have h:(sizes.any fun q=>decide (q=0))=true:=h;obtain⟨z,hz,hz0⟩:=Qn.1 h;have hz0:z=0:=dT hz0;subst hz0;have hs:z6 sizes=[]:=by unfold z6;rw [zdz (by simpa using hz)];rfl
  rw [hs];exact⟨⟨_,rfl⟩,.inl ⟨F0,h0⟩⟩
 have h:(sizes.any fun q=>decide (q=0))=false:=h;obtain⟨rs,hrs⟩:=nm (sizes.reverse);have hr0:∀ n∈rs,n≠0:=fun n hn e=>by
  rw [KR] at h;exact h n (by rw [hrs] at hn;simpa using hn) (Uu e)
 have hlen:rs.length=sizes.length:=by rw [hrs,Km]
 refine⟨_,zc (za fxW) (i:=0) rfl,zc9 Tryz.underlying66 k3 rfl rfl (by decide) sizes.length (by show 8*_<=_;omega) (by omega) fun X fX hbX sX=>?_⟩;rw [ziO] at fX;obtain⟨D,hD⟩:∃ D:Nat->List Nat,D=fun j=>(zab rs j).reverse:=⟨_,rfl⟩;have hDl:∀ j,(D j).length=sizes.length:=fun j=>by rw [hD];show ((zab rs j).reverse).length=_;rw [Km,zem,hlen]
 have hds:z6 sizes=(List.range (zT rs)).map D:=by unfold z6;rw [hD,hrs]
 have hP:0<zT rs:=zhp hr0;have hD0:D 0=List.replicate sizes.length 0:=by
  rw [hD];show (zab rs 0).reverse=_;rw [zhJ,List.reverse_replicate,hlen]
 rw [<- hD0] at fX;rw [hds] at hy ⊢;obtain⟨g,hg⟩:=nm (W.heap.size);rw [<- hg] at fX;have hbxW:=hlt fxW;refine⟨Nat×(Nat->Prop),fun s=>⟨[(0,.func (.yield yl) #[] #[]),(1,At0 bx),(3,.slice (some ⟨g,0,none⟩) sizes.length sizes.length)],[]⟩,
  fun s Z=>s.1<zT rs/\J ((List.range s.1).map D) s.2 Z/\RowI Z g (D s.1)/\¬ s.2 g/\W.heap.size<=Z.heap.size/\Z.heap[bx]?=some (.cells #[.slice q sizes.length c] 66 (0,0))/\¬ s.2 bx/\RowF zu W.heap.size s.2 Z q sizes,
  fun s=>zT rs-s.1,(0,F0),⟨.cons rfl (.cons rfl (.cons (by rw [hg];rfl) .nil)),rfl⟩,
  ⟨hP,hJ.step _ _ _ _ h0 (.below hbX),fX,fun h=>by have:=(hJ.lt _ _ _ _ h0 h).1;omega,hbX.size,zb hbX fxW,hrf _ (.inl rfl),⟨hlW.below hbX,fun a ha=>⟨by have:=hql a ha;omega,hrf _ (.inr ⟨a,ha,rfl⟩)⟩⟩⟩,?_⟩
 rintro⟨j,F⟩ Z ⟨hj,hjZ,fZ,hgF,hWZ,fxZ,hbF,hqZ⟩;dsimp only at hj hjZ fZ hgF fxZ hbF hqZ ⊢;have hpre:((List.range j).map D++[D j]) <+: (List.range (zT rs)).map D:=zmA hj;refine YieldR.mono (hy _ (D j) [.slice (some ⟨g,0,none⟩) sizes.length sizes.length] F Z hjZ ⟨D j,_,by simp,by rw [hDl j],fZ.sl,fun a ha=>(by cases ha;exact⟨_,fZ⟩)⟩ hpre) ?_;rintro v Y (⟨rfl,F',hjY,kY⟩ | ⟨rfl,F',hjY⟩)
 ·refine brT ?_;have hgZ:=hlt fZ;have fY:RowI Y g (D j):=(kY.same g hgZ hgF).trans fZ;have hgF':¬ F' g:=fun h=>by
   rcases kY.fp g h with h | h
   ·exact hgF h
   ·omega
  have fxY:=(kY.same bx (hlt fxZ) hbF).trans fxZ;have hbF':¬ F' bx:=fun h=>by
   rcases kY.fp bx h with h | h
   ·exact hbF h
   ·have:=hlt fxZ;omega
  have hqY:=hqZ.keep hWZ kY (fun _ _ h=>h);have hWY:=UO hWZ kY.size;have hjY2:J ((List.range (j+1)).map D) F' Y:=by
   rw [QY,QT];exact hjY
  clear hjY hpre fZ fxZ hqZ hjZ hWZ hgZ hgF hbF kY;refine⟨((sizes.length:Nat):Int)-1,ze (by omega),?_⟩;have hgn:W.heap.size<=g:=by omega
  have hbg:bx≠g:=by omega
  refine⟨Nat,fun t=>⟨[(0,.func (.yield yl) #[] #[]),(1,At0 bx),(3,.slice (some ⟨g,0,none⟩) sizes.length sizes.length),(4,i64 (((sizes.length:Nat):Int)-1-(t:Nat)))],[]⟩,
   fun t V=>t<=sizes.length/\zgM rs j t/\RowI V g ((List.replicate t 0++(zab rs j).drop t).reverse)/\J ((List.range (j+1)).map D) F' V/\W.heap.size<=V.heap.size/\V.heap[bx]?=some (.cells #[.slice q sizes.length c] 66 (0,0))/\RowF zu W.heap.size F' V q sizes,fun t=>sizes.length-t,0,
   ⟨.cons rfl (.cons rfl (.cons rfl (.cons (by rw [Int.ofNat_zero,Int.sub_zero];rfl) .nil))),rfl⟩,⟨Gb _,zk1 _ _,by rw [hD] at fY;exact fY,hjY2,hWY,fxY,hqY⟩,?_⟩
  clear fY fxY hqY hjY2 hWY;rintro t V ⟨ht,hc,fV,hjV,hWV,fxV,hqV⟩;dsimp only at ht hc fV hjV ⊢;have hLl:(zab rs j).length=sizes.length:=by rw [zem,hlen]
  refine DrawE.ord [] [0,1,2,3,4,5,6,7,8,9,10,11,12,13] (by kernel_rfl) (biE (fun hi=>?_) fun hi=>?_)
  ·have hi:(0:Int)<=((sizes.length:Nat):Int)-1-(t:Nat):=dT hi;have htl:t<sizes.length:=by omega
   obtain⟨i,hit⟩:∃ i,i+t+1=sizes.length:=⟨sizes.length-1-t,by omega⟩;have hii:((sizes.length:Nat):Int)-1-(t:Nat)=(i:Nat):=by omega
   rw [hii];obtain⟨d,hd⟩:∃ d,(zab rs j)[t]?=some d:=⟨_,gE (by omega)⟩;obtain⟨n,hn⟩:∃ n,rs[t]?=some n:=⟨_,gE (by omega)⟩;have hil:i<sizes.length:=by omega
   have hsn:sizes[i]=n:=by
    have:=JN (l:=sizes) (i:=t) htl;rw [<- hrs,hn,show sizes.length-1-t=i by omega,gE hil] at this;exact (Uh this).symm
   have hnm:n∈sizes:=by rw [<- hsn];exact gM hil
   have hn1:=hm n hnm;have hn0:n≠0:=hr0 n (by rw [hrs];simpa using hnm);have zec:=zqV hd (i:=i) (by omega);have hdn:d<n:=by
    obtain⟨A,ns,k,c1,c2,c3,c4,c5⟩:=hc
    cases ns with
    | nil=>rw [c1,QM,JM (by omega)] at hn;cases hn
    | cons m ns =>
     have hm':m=n:=by
      rw [c1,Jn (by omega),c2,UQ] at hn;exact Uh hn
     have:=Gl (fun l=>l[0]?) c4;simp only [Kz,UN] at this;rw [hd] at this;have:d=k%m:=Uh this;rw [this,hm'];exact Gh _ (by omega)
   have hrl:((List.replicate t 0++(zab rs j).drop t).reverse).length=sizes.length:=by simp;omega
   refine⟨i,rfl,hil,?_⟩;have hrc:(zh8 (List.replicate t 0++(zab rs j).drop t).reverse)[i*1]?=some (i64 d):=by
    rw [UZ,KX,zec];rfl
   refine⟨i64 d,zc (za (hdr fV)) hrc,_,zc (za (hdr fxV)) (i:=0) rfl,?_⟩;obtain⟨bq,oq,hqe,hlq,hatq⟩:=hqV.row.at hil;subst hqe;refine⟨i,rfl,hil,i64 n,by rw [<- hsn];exact zc (zm (Gd _ V).drew (hatq i hil)) (i:=0) rfl,((n:Nat):Int)-1,ze (by omega),biE (fun he=>?_) fun he=>?_⟩
   ·have he:(d:Int)=(n:Int)-1:=dT he;have hrs2:=zlu hd (i:=i) (by omega) 0;refine⟨i,rfl,hil,zi k3 (hdr fV) (o:=0+i*1) (v:=i64 0) rfl rfl (by rw [QQ,hrl];omega) rfl fun V1 fV1 gV1 sV1=>⟨((sizes.length:Nat):Int)-1-((t+1:Nat):Int),(ze (by omega)).trans (by omega),?_⟩⟩;have gV2:V.grownBy V1 (some g):=zd (zf (Gd _ V).drew) gV1;have kV:KeepsG (fun k=>k=g) (fun _=>False) V V1:=⟨gV2.os,gV2.tape,gV2.output,gV2.size,fun k hk hf=>gV2.block k hk (fun e=>hf (by cases e;rfl)),fun k h=>h.elim⟩;have hsV:=gV2.size;refine⟨t+1,(cvE rfl rfl),⟨htl,zk3 hr0 hc hn hd (by omega),?_,hJ.step _ _ _ _ hjV (StepG.grown gV2 (.inl hgn) hgF'),by omega,(gV2.block bx (hlt fxV) (by simpa using hbg)).trans fxV,⟨qT hqV.row fun a ha=>gV2.block _ (by have:=(hqV.out a ha).1;omega) (by have:=(hqV.out a ha).1;simp;omega),hqV.out⟩⟩,zdc (by omega)⟩;show RowI V1 g _;rw [<- znK,<- hrs2];rw [UZ,UT] at fV1;refine fV1.trans ?_;unfold zh8;rw [UK];rfl
   ·have he:¬ (d:Int)=(n:Int)-1:=dF he;have hstop:=zk2 hr0 hc hn hd (by omega);have hmore:=zk4 hr0 hc hn hd (by omega) hj;have hrs2:=zlu hd (i:=i) (by omega) (d+1);refine brN (Uj (by omega)) ⟨i,rfl,hil,i64 d,zc (za (hdr fV)) hrc,nxI (by omega) ⟨i,rfl,hil,zi k3 (hdr fV) (o:=0+i*1) (v:=i64 ((d+1:Nat):Int)) rfl rfl (by rw [QQ,hrl];omega) rfl fun V1 fV1 gV1 sV1=>?_⟩⟩;have gV2:V.grownBy V1 (some g):=zd (zf (Gd _ V).drew) gV1;have hsV:=gV2.size;refine⟨(j+1,F'),(cvE rfl rfl),⟨hmore,hJ.step _ _ _ _ hjV (StepG.grown gV2 (.inl hgn) hgF'),?_,hgF',by omega,(gV2.block bx (hlt fxV) (by simpa using hbg)).trans fxV,hbF',⟨qT hqV.row fun a ha=>gV2.block _ (by have:=(hqV.out a ha).1;omega) (by have:=(hqV.out a ha).1;simp;omega),hqV.out⟩⟩,zdc (by omega)⟩;show RowI V1 g (D (j+1));rw [hD];show RowI V1 g (zab rs (j+1)).reverse;rw [hstop,<- hrs2];rw [UZ,UT] at fV1;refine fV1.trans ?_;unfold zh8;rw [UK]
  ·have hi:¬ (0:Int)<=((sizes.length:Nat):Int)-1-(t:Nat):=dF hi;have hte:t=rs.length:=by omega
   rw [hte] at hc;have he:=zmZ hc hj;refine brF (brE (Uu (by omega)) ?_);rw [he] at hjV;exact⟨⟨_,rfl⟩,.inl ⟨F',hJ.step _ _ _ _ hjV (.below (Gd _ V).drew)⟩⟩
 ·exact brF ⟨⟨_,rfl⟩,.inr ⟨_,F',hpre,hjY⟩⟩
end
def poG (ev:List Ev) (k:Nat):Nat->Nat:=fun i=>if i<k then zbK ev i else 0
theorem zlC (ev:List Ev) (k:Nat):upd (poG ev k) k (zbK ev k)=poG ev (k+1):=by
 funext i;unfold upd poG;by_cases h:i=k
 ·rw [Gr h,Gr (by omega),h]
 ·rw [Gq h];by_cases h2:i<k
  ·rw [Gr h2,Gr (by omega)]
  ·rw [Gq h2,Gq (by omega)]
theorem zjn (ev:List Ev) (k:Nat):upd (poG ev k) k 0=poG ev k:=by
 funext i;unfold upd poG;by_cases h:i=k
 ·rw [Gr h,Gq (by omega)]
 ·rw [Gq h]
theorem zpt (ev:List Ev):poG ev ev.length=zbK ev:=by
 funext i;unfold poG
 split
 ·rfl
 ·unfold zbK;rw [JM (by omega)]
section
variable {p:OA} {cap:Nat} {ev:List Ev} {w:Wd}
theorem zcL (hl:SlR evE w p ev) (hn:ev.length<=48):CB 32 #[.slice p ev.length cap] w (.agg (zj (poR ev)).toArray):=by
 refine qX 47 [.slice p ev.length cap] (.s .p (.c .p .p)) Tryz.func32 ?_;obtain⟨L,hL⟩:=nm (w.heap.size);have hbL:=zz w (.cells (zj jr).toArray 48 (0,0));have hbb:Bw w (w.alloc (.cells (zj jr).toArray 48 (0,0))):=zba w _;have hbs:=wz w (.cells (zj jr).toArray 48 (0,0));refine⟨Unit,fun _=>⟨[(0,.slice p ev.length cap),(2,At0 L),(3,At0 (L+1))],[]⟩,fun _ X=>zaH X L jr/\zaH X (L+1) ⟨ev.length,fun _=>0⟩/\X.heap.size=L+2/\Bw w X,?_,?_⟩
 ·refine⟨zj ⟨ev.length,fun _=>0⟩,rfl,zn (X:=w.alloc (.cells (zj jr).toArray 48 (0,0))) (v := .agg (zj ⟨ev.length,fun _=>0⟩).toArray) k48 (zk _) rfl (qo _) fun V hbV fV sV=>?_⟩;rw [hbs] at fV sV;exact⟨(),⟨.cons rfl (.cons (by rw [hL];rfl) (.cons (by rw [hL,<- hbs];rfl) .nil)),rfl⟩,by rw [hL];exact zb hbV hbL,by rw [hL];exact fV,by rw [hL];exact sV,(zst hbb hbV)⟩
 rintro _ X ⟨f0,f1,sX,hbX⟩;refine⟨Nat,fun k=>⟨[(0,.slice p ev.length cap),(2,At0 L),(3,At0 (L+1)),(10,.slice p ev.length cap),(11,i64 ev.length),(12,i64 (k:Nat))],[]⟩,
  fun k V=>k<=ev.length/\zaH V (L+1) ⟨ev.length,poG ev k⟩/\zaH V L jr/\L+1<V.heap.size/\Bw w V,fun k=>ev.length-k,0,
  (cvE rfl rfl),⟨Gb _,f1,f0,by omega,hbX⟩,?_⟩
 rintro k V ⟨hk,fV,f0V,sV,hbV⟩;dsimp only at hk fV ⊢;refine biE (fun hc=>?_) fun hc=>?_
 ·have hc:(k:Int)<(ev.length:Int):=dT hc;have hkl:k<ev.length:=by omega
  obtain⟨e,he⟩:∃ e,ev[k]=e:=⟨_,rfl⟩;have hek:ev[k]?=some e:=by rw [<- he];exact gE hkl
  obtain⟨bp,op,rfl,hlp,hat⟩:=hl.at hkl;refine⟨k,rfl,hkl,evE.enc e,rfl,by rw [<- he];exact zm hbV (hat k hkl),nL hlp hbV.size,zn (X:=V) (v := .agg (evE.enc e).toArray) k60 rfl rfl (Qm.2 fun u hu=>evE.one e u hu) fun Y hbY fY sY=>?_⟩;obtain⟨b,hb⟩:=nm (V.heap.size);rw [<- hb] at fY;have eb:some (Value.pointer (some ⟨V.heap.size,0,none⟩))=some (At0 b):=by rw [hb]
  have hwY:=zst hbV hbY;have hMb:L+1<b:=by omega
  have fYM:=zb hbY fV;have fYL:=zb hbY f0V;refine⟨i64 e.th,by rw [<- hb];exact zc (za fY) (i:=0) rfl,biE (fun h=>?_) fun h=>?_⟩
  ·have h:e.th = -1:=dT h;have hr:zbK ev k=0:=by
    unfold zbK;rw [hek];exact Gr h
   refine nxI (by omega) ⟨k+1,(cvE rfl rfl),⟨hkl,?_,fYL,by omega,hwY⟩,zdc (by omega)⟩;rw [<- zlC,hr,zjn];exact fYM
  have h:¬ e.th = -1:=dF h;have hr:zbK ev k=zfW e.th (k+1) (ev.drop (k+1)) 0:=by
   unfold zbK;rw [hek];exact Gq h
  refine nxI (by omega) ?_;refine⟨Nat×Nat,fun s=>⟨[(0,.slice (some ⟨bp,op,none⟩) ev.length cap),(2,At0 L),(3,At0 (L+1)),(4,i64 (k:Nat)),(5,At0 b),(6,i64 (s.1:Nat)),(10,.slice (some ⟨bp,op,none⟩) ev.length cap),(11,i64 ev.length),(12,i64 (k:Nat))],[]⟩,
   fun s Z=>s.1<=ev.length/\zbK ev k=zfW e.th s.1 (ev.drop s.1) s.2/\s.2<2^64/\zaH Z (L+1) ⟨ev.length,upd (poG ev k) k s.2⟩/\zaH Z L jr/\Z.heap[b]?=some (.cells (evE.enc e).toArray 60 (0,0))/\Bw w Z,fun s=>ev.length-s.1,(k+1,0),
   ⟨.cons rfl (.cons rfl (.cons rfl (.cons rfl (.cons eb (.cons rfl (.cons rfl (.cons rfl (.cons rfl .nil)))))))),rfl⟩,⟨hkl,hr,(by decide:0<2^64),by rw [zjn];exact fYM,fYL,fY,hwY⟩,?_⟩
  clear fY fYM fYL hwY hbY sY f0V fV hbV sV;rintro⟨j,s⟩ Z ⟨hj,hacc,hs,fM,fL,fb,hbZ⟩;dsimp only at hj hacc hs fM ⊢;refine biE (fun hc=>?_) fun hc=>?_
  ·have hc:(j:Int)<(ev.length:Int):=dT hc;have hjl:j<ev.length:=by omega
   have hdrop:ev.drop j=ev[j]::ev.drop (j+1):=(JI hjl).symm;rw [hdrop] at hacc;have hacc:zbK ev k=zfW e.th (j+1) (ev.drop (j+1)) (if ev[j].th=e.th then s|||2^j else s):=hacc;refine DrawE.ord [] [0,1,2,3,4,5,6,7] (by kernel_rfl) ⟨j,rfl,hjl,i64 ev[j].th,zc (zm hbZ (hat j hjl)) (i:=0) rfl,i64 e.th,zc (za (hdr fb)) (i:=0) rfl,?_⟩;have hslot:(zj ⟨(ev.length:Int),upd (poG ev k) k s⟩)[1+k]?=some (s64 s):=by
    have:=zia ⟨(ev.length:Int),upd (poG ev k) k s⟩ (i:=k) (by omega);rw [this];show some (s64 (upd (poG ev k) k s k))=_;rw [zE]
   have hdZ:Bw Z Z.drew:=(Gd _ Z).drew;refine biE (fun he=>?_) fun he=>?_
   ·have he:ev[j].th=e.th:=dT he;rw [Gr he] at hacc;refine DrawE.ord [9] [0,1,2,3,4,5,6,7,8,9] (by kernel_rfl) ⟨k,rfl,by omega,?_⟩;refine⟨s64 s,by rw [UZ,UF];exact zc (za (hdr (hdr fM))) hslot,by omega,_,jI (e:=j) (by omega),_,zaw hs (qb (by omega)),k,rfl,by omega,?_⟩;refine zi k45 (hdr (hdr fM)) (o:=0+1+k*1) (v:=s64 (s|||2^j)) rfl rfl (by rw [zk];omega) rfl fun S fS gS sS=>?_;rw [UT,UZ,zdY _ (show k<48 by omega)] at fS;have gS2:Z.grownBy S (some (L+1)):=zd (zf (Gd _ Z).drew) (zd (zf (Gd _ _).drew) gS);refine nxI (by omega) ⟨(j+1,s|||2^j),(cvE rfl rfl),⟨hjl,hacc,Qb hs (qb (by omega)),?_,(gS2.block L (hlt fL) (by simp)).trans fL,(gS2.block b (hlt fb) (by simp;omega)).trans fb,hbZ.trans (zh gS2 hbZ.size (by omega))⟩,zdc (by omega)⟩;have:upd (upd (poG ev k) k s) k (s|||2^j)=upd (poG ev k) k (s|||2^j):=by
     funext i;unfold upd
     split <;> rfl
    rw [this] at fS;exact fS
   ·have he:¬ ev[j].th=e.th:=dF he;rw [Gq he] at hacc;exact nxI (by omega) ⟨(j+1,s),(cvE rfl rfl),⟨hjl,hacc,hs,fM,fL,fb,(zst hbZ hdZ)⟩,zdc (by omega)⟩
  ·have hc:¬ (j:Int)<(ev.length:Int):=dF hc;have:j=ev.length:=by omega
   subst this;rw [Qp] at hacc;have hacc:zbK ev k=s:=hacc;refine nxI (by omega) ⟨k+1,(cvE rfl rfl),⟨hkl,?_,fL,hlt fM,hbZ⟩,zdc (by omega)⟩;rw [<- zlC,hacc];exact fM
 ·have hc:¬ (k:Int)<(ev.length:Int):=dF hc;obtain rfl:k=ev.length:=by omega
  rw [zpt] at fV;exact⟨zj (poR ev),zk _,za fV,hlt fV,zJ (v := .agg (zj (poR ev)).toArray) k48 f0V rfl rfl (qo _) ⟨zj (poR ev),zk _,za (zA f0V),rfl,zC hbV (by omega) _⟩⟩
end
structure RelAt (X:Wd) (b o:Nat) (T:TypeId) (A Z:List Value) (r:RelD):Prop where
 at_:A.length=o
 cells:X.heap[b]?=some (.cells (A++(zj r++Z)).toArray T (0,0))
section
variable {X:Wd} {b o:Nat} {T:TypeId} {A Z:List Value} {r:RelD}
theorem RelAt.cell (h:RelAt X b o T A Z r) {i:Nat} (hi:i<48):X.cell? ⟨b,o+1+i*1,none⟩=some (s64 (r.to i)):=by
 have:(A++(zj r++Z))[o+1+i*1]?=some (s64 (r.to i)):=by
  rw [UZ,UF,jm h.at_,Jr (by rw [zk];omega),zia r hi]
 have h2:=zc (za h.cells) this;rw [UT] at h2;exact h2
theorem RelAt.set (h:RelAt X b o T A Z r) {i:Nat} (hi:i<48) (v:Nat):(A++(zj r++Z)).set (o+1+i*1) (s64 v)=A++(zj ⟨r.n,upd r.to i v⟩++Z):=by
 rw [UZ,UF,qs h.at_,List.set_append_left _ _ (by rw [zk];omega),zdY r hi]
theorem RelAt.len (h:RelAt X b o T A Z r):(A++(zj r++Z)).length=o+49+Z.length:=by
 rw [lap,lap,zk,h.at_];omega
theorem RelAt.same {Y:Wd} (h:RelAt X b o T A Z r) (hs:Y.heap[b]?=X.heap[b]?):RelAt Y b o T A Z r:=⟨h.at_,hs.trans h.cells⟩
def znR (f:Nat) (ps:List (Nat×Nat)):Prop:=∀ p∈ps,f+p.1<48/\f+p.2<48
theorem zd0 {f:Nat}:∀ {ps:List (Nat×Nat)} {to:Nat->Nat},zX to->znR f ps->zX (zeD f ps to)
 | [],_,h,_=>h
 | p::ps,to,h,hp=>by
  have h1:=hp p KC;exact zd0 (ps:=ps) (zfo h (Qb (h _ h1.1) (qb (by omega)))) fun q hq=>hp q (Ka _ hq)
theorem zkg {n:Nat} (h:n<256):((UInt8.ofNat n).toNat:Int)=(n:Nat):=by
 have:(UInt8.ofNat n).toNat=n:=by simp;omega
 rw [this]
theorem znQ {w:Wd} {q:OA} {cap f:Nat} {ps:List (Nat×Nat)} (hr:RelAt w b o T A Z r) (hw:zX r.to) (hl:SlR prE w q ps) (hqb:∀ a,q=some a->a.block≠b) (hn:ps.length<=100000) (hp:znR f ps) :
  Calls PG 79 #[.pointer (some ⟨b,o,none⟩),.slice q ps.length cap,i64 f] w fun e w'=>e = .returned (.tuple #[])/\RelAt w' b o T A Z (zkC f ps r)/\w.grownBy w' (some b):=by
 refine zI 35 [.pointer (some ⟨b,o,none⟩),.slice q ps.length cap,i64 f] Tryz.func79 ?_;have hbw:=hlt hr.cells;refine⟨Nat×(Nat->Nat),fun s=>⟨[(0,.pointer (some ⟨b,o,none⟩)),(1,.slice q ps.length cap),(2,i64 f),(8,.slice q ps.length cap),(9,i64 ps.length),(10,i64 (s.1:Nat))],[]⟩,
  fun s X=>s.1<=ps.length/\zX s.2/\zeD f (ps.drop s.1) s.2=zeD f ps r.to/\RelAt X b o T A Z ⟨r.n,s.2⟩/\w.grownBy X (some b),fun s=>ps.length-s.1,(0,r.to),
  (cvE rfl rfl),⟨Gb _,hw,rfl,hr,z8 _ _⟩,?_⟩
 rintro⟨k,g⟩ X ⟨hk,hg,he,hX,gX⟩;dsimp only at hk hg he hX ⊢;have hXs:=gX.size;refine biE (fun hc=>?_) fun hc=>?_
 ·have hc:(k:Int)<(ps.length:Int):=dT hc;have hkl:k<ps.length:=by omega
  obtain⟨pr,hpr⟩:∃ pr,ps[k]=pr:=⟨_,rfl⟩;obtain⟨p1,p2⟩:=hp pr (by rw [<- hpr];exact gM hkl);rw [<- JI hkl,hpr] at he;have he:zeD f (ps.drop (k+1)) (upd g (f+pr.1) (g (f+pr.1)|||2^(f+pr.2)))=zeD f ps r.to:=he;obtain⟨bp,op,rfl,hlp,hat⟩:=hl.at hkl;have hbp:bp≠b:=hqb _ rfl;have hatX:zx X ⟨bp,op+k*2,none⟩ (prE.enc ps[k]):=jk (gX.block bp hlp (by simpa using hbp)) (hat k hkl);refine⟨k,rfl,hkl,prE.enc pr,rfl,by rw [<- hpr];exact hatX,nL hlp hXs,?_⟩;refine zn (X:=X) (v := .agg (prE.enc pr).toArray) zsd rfl rfl rfl fun Y hbY fY sY=>DrawE.ord [20] [0,1,2,3,4,5,6,7,8,9,10,11,12,13,14,15,16,17,18,19,20] (by kernel_rfl) ?_;have fY1:Y.heap[X.heap.size]?=some (.cells (prE.enc pr).toArray 184 (0,0)):=fY;have hrY:=hX.same (hbY.block b (nL hbw hXs));refine⟨0,rfl,by decide,?_⟩;refine⟨u8 (UInt8.ofNat pr.1),zc (za (hdr fY1)) (i:=0*1) rfl,((pr.1:Nat):Int),by rw [zkg (by omega)];exact ze (by omega),((f+pr.1:Nat):Int),(ze (by omega)).trans (by omega),f+pr.1,rfl,by omega,?_⟩;refine⟨s64 (g (f+pr.1)),(hrY.same (Y:=Y.drew) rfl).cell p1,1,rfl,by decide,?_⟩;refine⟨u8 (UInt8.ofNat pr.2),zc (za (hdr fY1)) (i:=1*1) rfl,((pr.2:Nat):Int),by rw [zkg (by omega)];exact ze (by omega),((f+pr.2:Nat):Int),(ze (by omega)).trans (by omega),by omega,_,jI (e:=f+pr.2) (by omega),_,zaw (hg _ p1) (qb (by omega)),f+pr.1,rfl,by omega,?_⟩;refine zi k45 (hrY.same (Y:=Y.drew) rfl).cells (o:=o+1+(f+pr.1)*1) (v:=s64 (g (f+pr.1)|||2^(f+pr.2))) rfl rfl (by rw [hrY.len];omega) rfl fun S fS gS sS=>?_;rw [hrY.set p1] at fS;exact nxI (by omega) ⟨(k+1,_),(cvE rfl rfl),⟨hkl,zfo hg (Qb (hg _ p1) (qb (by omega))),he,⟨hr.at_,fS⟩,zd gX (zd (zf hbY) (zd (zf (Gd _ Y).drew) gS))⟩,zdc (by omega)⟩
 ·have hc:¬ (k:Int)<(ps.length:Int):=dF hc;obtain rfl:k=ps.length:=by omega
  rw [Qp] at he;have he:g=zeD f ps r.to:=he;subst he;exact⟨rfl,hX,gX⟩
end
def zsO (pre:List Nat) (vs:List Value) (W:Wd):Prop:=∃ (a i:Nat),pre.getLast?=some a/\vs=[i64 i,i64 a]
theorem zrE {bx:Nat} {l:List Nat} {q:OA} {c:Nat} {W0:Wd} (fx:W0.heap[bx]?=some (.cells #[.slice q l.length c] 66 (0,0))) (hl:SlR zu W0 q l) (hql:∀ a,q=some a->a.block<W0.heap.size) (hn:l.length<=100000) :
  zhS PG 112 [At0 bx] l.reverse W0 (fun k=>k=bx\/∃ a,q=some a/\k=a.block) (fun _=>False) zsO:=by
 intro yl F0 J Jx W hsz hrd hrf hJ hJx hy h0;have fxW:=(hrd bx (.inl (.inl rfl))).trans fx;have hlW:SlR zu W q l:=qT hl fun a ha=>hrd _ (.inl (.inr ⟨a,ha,rfl⟩));have hbxW:=hlt fxW;refine zI 19 [.func (.yield yl) #[] #[],At0 bx] Tryz.func112 ?_;refine⟨_,zc (za fxW) (i:=0) rfl,((l.length:Nat):Int)-1,ze (by omega),?_⟩;refine⟨Nat×(Nat->Prop),fun s=>⟨[(0,.func (.yield yl) #[] #[]),(1,At0 bx),(3,i64 (((l.length:Nat):Int)-1-(s.1:Nat)))],[]⟩,
  fun s V=>s.1<=l.length/\J (l.reverse.take s.1) s.2 V/\W.heap.size<=V.heap.size/\V.heap[bx]?=some (.cells #[.slice q l.length c] 66 (0,0))/\¬ s.2 bx/\RowF zu W.heap.size s.2 V q l,fun s=>l.length-s.1,(0,F0),
  ⟨.cons rfl (.cons rfl (.cons (by show _=some (i64 (((l.length:Nat):Int)-1-((0:Nat):Int)));rw [Int.ofNat_zero,Int.sub_zero];rfl) .nil)),rfl⟩,⟨Gb _,h0,UY _,fxW,hrf _ (.inl rfl),⟨hlW,fun a ha=>⟨by have:=hql a ha;omega,hrf _ (.inr ⟨a,ha,rfl⟩)⟩⟩⟩,?_⟩
 rintro⟨t,F⟩ V ⟨ht,hjV,hWV,fxV,hbF,hqV⟩;dsimp only at ht hjV hbF hqV ⊢;refine biE (fun hi=>?_) fun hi=>?_
 ·have hi:(0:Int)<=((l.length:Nat):Int)-1-(t:Nat):=dT hi;obtain⟨i,hit⟩:∃ i,i+t+1=l.length:=⟨l.length-1-t,by omega⟩;have hii:((l.length:Nat):Int)-1-(t:Nat)=(i:Nat):=by omega
  rw [hii];have hil:i<l.length:=by omega
  have hrt:l.reverse[t]?=some l[i]:=by
   rw [JN (by omega),show l.length-1-t=i by omega,gE hil]
  have htl:t<l.reverse.length:=by rw [Km];omega
  have hre:l.reverse[t]=l[i]:=by rw [gE htl] at hrt;exact Uh hrt
  have htk:l.reverse.take (t+1)=l.reverse.take t++[l[i]]:=by rw [tsg htl,hre]
  refine⟨_,zc (za fxV) (i:=0) rfl,?_⟩;obtain⟨bq,oq,hqe,hlq,hatq⟩:=hqV.row.at hil;subst hqe;refine⟨i,rfl,hil,i64 l[i],zc (hatq i hil) (i:=0) rfl,YieldR.mono (hy _ l[i] [i64 (i:Nat),i64 l[i]] F V hjV ⟨l[i],i,by simp,rfl⟩ (by rw [<- htk];exact List.take_prefix _ _)) ?_⟩;rintro v Y (⟨rfl,F',hjY,kY⟩ | ⟨rfl,F',hjY⟩)
  ·refine brF ?_;have hbF':¬ F' bx:=fun h=>by
    rcases kY.fp bx h with h | h
    ·exact hbF h
    ·have:=hlt fxV;omega
   exact⟨((l.length:Nat):Int)-1-((t+1:Nat):Int),(ze (by omega)).trans (by omega),(t+1,F'),(cvE rfl rfl),⟨by omega,by rw [htk];exact hjY,UO hWV kY.size,(kY.same bx (hlt fxV) hbF).trans fxV,hbF',hqV.keep hWV kY (fun _ _ h=>h)⟩,zdc (by omega)⟩
  ·exact brT ⟨⟨_,rfl⟩,.inr ⟨_,F',by rw [<- htk];exact List.take_prefix _ _,hjY⟩⟩
 ·have hi:¬ (0:Int)<=((l.length:Nat):Int)-1-(t:Nat):=dF hi;have hte:t=l.length:=by omega
  subst hte;rw [JJ (by rw [Km];exact UY _)] at hjV;exact⟨⟨_,rfl⟩,.inl ⟨F,hjV⟩⟩
theorem zqq {q:OA} {n c:Nat} {w:Wd}:Calls PG 83 #[.slice q n c] w fun e w'=>e = .returned (.func (.func 112) #[] #[At0 w.heap.size])/\w'.heap[w.heap.size]?=some (.cells #[.slice q n c] 66 (0,0))/\w'.heap.size=w.heap.size+1/\Bw w w':=by
 refine zI 4 [.slice q n c] Tryz.func83 ?_;exact⟨rfl,zz w _,wz _ _,(zba w _)⟩
theorem znX {q:OA} {n c:Nat} {w:Wd}:Calls PG 45 #[.slice q n c] w fun e w'=>e = .returned (.func (.func 76) #[] #[At0 w.heap.size])/\w'.heap[w.heap.size]?=some (.cells #[.slice q n c] 66 (0,0))/\w'.heap.size=w.heap.size+1/\Bw w w':=by
 refine zI 4 [.slice q n c] Tryz.func45 ?_;exact⟨rfl,zz w _,wz _ _,(zba w _)⟩
def zfh (p:(Nat->Nat)×Nat) (a:Nat):(Nat->Nat)×Nat:=(upd p.1 a p.2,p.2|||2^a)
theorem zdD:∀ (l:List Nat) (f:Nat->Nat) (b:Nat),zgi l f b=(l.foldl zfh (f,b)).1
 | [],_,_=>rfl
 | a::l,f,b=>zdD l (upd f a b) (b|||2^a)
theorem zio:∀ {l:List Nat} {f:Nat->Nat} {b:Nat},zX f->b<2^64->(∀ a∈l,a<48)->zX (l.foldl zfh (f,b)).1/\(l.foldl zfh (f,b)).2<2^64
 | [],_,_,h,hb,_=>⟨h,hb⟩
 | a::l,f,b,h,hb,hl=>zio (l:=l) (zfo h hb) (Qb hb (qb (by have:=hl a KC;omega))) fun x hx=>hl x (Ka _ hx)
theorem zhB {l:List Nat} {r:RelD} (h:zX r.to) (hl:∀ a∈l,a<48):zX (jX l r).to:=by
 show zX (zgi l.reverse r.to 0);rw [zdD];exact (zio h (by decide) fun a ha=>hl a (by simpa using ha)).1
section
variable {b o:Nat} {T:TypeId} {A Z:List Value} {r:RelD} {w:Wd} {q:OA} {c:Nat} {l:List Nat}
theorem zoa (hr:RelAt w b o T A Z r) (hw:zX r.to) (hl:SlR zu w q l) (hql:∀ a,q=some a->a.block<w.heap.size/\a.block≠b) (hn:l.length<=100000) (h48:∀ a∈l,a<48) :
  Calls PG 50 #[.pointer (some ⟨b,o,none⟩),.slice q l.length c] w fun e w'=>e = .returned (.tuple #[])/\RelAt w' b o T A Z (jX l r)/\w.grownBy w' (some b):=by
 refine qX 21 [.pointer (some ⟨b,o,none⟩),.slice q l.length c] (.s .p (.c .p .p)) Tryz.func50 ?_;obtain⟨L,hL⟩:=nm (w.heap.size);refine⟨Unit,fun _=>⟨[(1,.slice q l.length c),(2,At0 L),(4,At0 (L+1))],[]⟩,fun _ X=>X.heap[L]?=some (.cells #[.pointer (some ⟨b,o,none⟩)] 95 (0,0))/\X.heap[L+1]?=some (.cells #[s64 0] 45 (0,0))/\X.heap.size=L+2/\Bw w X,?_,?_⟩
 ·have s1:=wz w (.cells #[.pointer (some ⟨b,o,none⟩)] 95 (0,0));have h2:=zz (w.alloc (.cells #[.pointer (some ⟨b,o,none⟩)] 95 (0,0))) (.cells #[s64 0] 45 (0,0));have s2:=wz (w.alloc (.cells #[.pointer (some ⟨b,o,none⟩)] 95 (0,0))) (.cells #[s64 0] 45 (0,0));rw [s1] at h2 s2;exact⟨(),⟨.cons rfl (.cons (by rw [hL];rfl) (.cons (by rw [hL,<- s1];rfl) .nil)),rfl⟩,by rw [hL];exact qG _ (zz w _),by rw [hL];exact h2,by rw [hL];exact s2,((zba w _)).alloc (by simp) _⟩
 rintro _ X ⟨f0,f1,sX,hbX⟩;have hbw:=hlt hr.cells;refine cmo zqq ?_;rintro e W ⟨rfl,fx,sW,hbW⟩;have hwW:=zst hbX hbW;have hI:=zrE fx (hl.below hwW) (fun a ha=>by have:=(hql a ha).1;omega) hn;have f0:=zb hbW f0;have f1:=zb hbW f1;refine zcK (zbe _) rfl (lb := #[At0 X.heap.size]) rfl rfl hI (UY _) (fun k hk=>⟨?_,rfl⟩) (fun pre vs W ⟨a,i,_,h⟩=>by rw [h];rfl) (by decide)
  (fun k=>k=b\/k=L+1) (fun pre F Y=>F=(fun k=>k=b\/k=L+1)/\W.heap.size<=Y.heap.size/\RelAt Y b o T A Z ⟨r.n,(pre.foldl zfh (r.to,0)).1⟩/\Y.heap[L+1]?=some (.cells [s64 (pre.foldl zfh (r.to,0)).2].toArray 45 (0,0))/\Y.heap[L]?=some (.cells #[.pointer (some ⟨b,o,none⟩)] 95 (0,0))/\w.grownBy Y (some b)) (fun _ _ _ _=>False) (fun k hk=>?_)
  (joG (F:=fun k=>k=b\/k=L+1) (J:=fun (pre:List Nat) Y=>W.heap.size<=Y.heap.size/\RelAt Y b o T A Z ⟨r.n,(pre.foldl zfh (r.to,0)).1⟩/\Y.heap[L+1]?=some (.cells [s64 (pre.foldl zfh (r.to,0)).2].toArray 45 (0,0))/\Y.heap[L]?=some (.cells #[.pointer (some ⟨b,o,none⟩)] 95 (0,0))/\w.grownBy Y (some b))
   (fun k h=>by omega) (fun s A h=>h.1) (fun pre A B ⟨h1,h2,h3,h4,h5⟩ hb=>⟨UO h1 hb.size,h2.same (hb.block _ (by omega)),jg hb (by omega) h3,jg hb (by omega) h4,jj h5 (hb.mono hwW.size)⟩))
  (fun ex=>⟨fun _ _ _ _ h=>h.elim,fun _ _ _ _ h=>h.elim⟩) ⟨rfl,UY _,hr.same (hwW.block _ hbw),f1,f0,zf hwW⟩ ?_ ?_ ?_
 ·rcases hk with (rfl | ⟨a,ha,rfl⟩) | h
  ·omega
  ·have:=(hql a ha).1;have:=hwW.size;omega
  ·exact h.elim
 ·rcases hk with rfl | ⟨a,ha,rfl⟩
  ·omega
  ·have:=hql a ha;omega
 ·rintro yl pre x vs F Y hyl hpre hJ ⟨a,i,hlast,rfl⟩ hfy hlo;have hxa:x=a:=by simpa using hlast
  subst hxa;refine⟨rfl,F,KeepsG.refl _ _,hJ,?_⟩;rintro O Y2 hY2 ⟨rfl,h1,h2,h3,h4,h5⟩;obtain⟨g1,g2⟩:=zio (l:=pre) (f:=r.to) (b:=0) hw (by decide) (fun a ha=>h48 a (by have:=hpre.subset (JZ _ ha);simpa using this));have hx48:x<48:=h48 x (by have:=hpre.subset (JQ _ (KD.2 rfl));simpa using this);have hfold:(pre++[x]).foldl zfh (r.to,0)=zfh (pre.foldl zfh (r.to,0)) x:=by rw [KW];rfl
  obtain⟨P,hP⟩:=nm (pre.foldl zfh (r.to,0));rw [<- hP] at h2 h3 g1 g2 hfold;refine DrawE.ord [6] [0,1,2,3,4,5,6] (by kernel_rfl) ⟨_,zc (za (hdr h4)) (i:=0) rfl,_,zc (za (hdr h3)) (i:=0) rfl,x,rfl,hx48,zi k45 (h2.same (Y:=Y2.drew) rfl).cells (o:=o+1+x*1) (v:=s64 P.2) rfl rfl (by rw [h2.len];omega) rfl fun S fS gS sS=>?_⟩;rw [h2.set hx48] at fS;have gS2:Y2.grownBy S (some b):=zd (zf (Gd _ Y2).drew) gS;have h3S:=(gS2.block (L+1) (hlt h3) (by simp;omega)).trans h3;refine DrawE.ord [4] [0,1,2,3,4] (by kernel_rfl) ⟨_,zc (za (hdr h3S)) (i:=0) rfl,by omega,_,jI (e:=x) (by omega),_,zaw g2 (qb (by omega)),zi k45 (hdr h3S) (o:=0) (v:=s64 (P.2|||2^x)) rfl rfl (by show 0<1;decide) rfl fun V fV gV sV=>?_⟩;have gV2:S.grownBy V (some (L+1)):=zd (zf (Gd _ S).drew) gV;have hLw:L=w.heap.size:=hL;refine⟨fun k=>k=b\/k=L+1,⟨rfl,?_,⟨hr.at_,?_⟩,by rw [hfold];exact fV,?_,?_⟩,(KeepsG.grown gS2 (.inl rfl)).trans (KeepsG.grown gV2 (.inr rfl))⟩
  ·have:=gS2.size;have:=gV2.size;omega
  ·rw [hfold];exact (gV2.block b (hlt fS) (by simp;omega)).trans fS
  ·exact (gV2.block L (nL (hlt h4) gS2.size) (by simp)).trans ((gS2.block L (hlt h4) (by simp;omega)).trans h4)
  ·exact⟨gV2.os.trans (gS2.os.trans h5.os),gV2.tape.trans (gS2.tape.trans h5.tape),gV2.output.trans (gS2.output.trans h5.output),by have:=gS2.size;have:=gV2.size;have:=h5.size;omega,fun k hk hne=>(gV2.block k (by have:=gS2.size;have:=h5.size;omega) (by simp;omega)).trans ((gS2.block k (by have:=h5.size;omega) hne).trans (h5.block k hk hne))⟩
 ·rintro D F Y hD hfD ⟨rfl,h1,h2,h3,h4,h5⟩ hdef;refine⟨_,rfl,hdef,?_⟩;have hDb:b≠D:=by have:=hwW.size;omega
  refine⟨rfl,⟨hr.at_,?_⟩,?_⟩
  ·rw [show jX l r=⟨r.n,(l.reverse.foldl zfh (r.to,0)).1⟩ by unfold jX;rw [zdD]];exact (zg hDb).trans h2.cells
  ·exact⟨h5.os,h5.tape,h5.output,by have:=h5.size;simpa [World.putObj] using this,fun k hk hne=>(zg (by have:=hwW.size;omega)).trans (h5.block k hk hne)⟩
 ·rintro D ex pre F Y hD hfD hpre h;exact h.elim
end
theorem zih {P:Program} {iT:TI} {T B g cap i v:Nat} {l:List Nat} {w:Wd} (hT:TIok P T iT) (hs:iT.size=1) (h:OwnS zu T B w (some ⟨g,0,none⟩) cap l) (hi:i<l.length) {K:Wd->Prop}
  (k:∀ w',OwnS zu T B w' (some ⟨g,0,none⟩) cap (l.set i v)->w.grownBy w' (some g)->K w'):SatR ((storeVar T ⟨g,0+i*1,none⟩ (i64 v)).run P w) fun _ w'=>K w':=by
 rcases h.inv with ⟨h,_⟩ | ⟨g',cur,hg,hB,hc,hl,hm,hs2,ht⟩
 ·cases h
 ·simp only [Qc,Uw,Gk] at hg;subst hg;have e:cur=cur.toList.toArray:=rfl;have hsz:cur.toList.length=cap:=by
   have:cur.toList.length=cur.size:=rfl;rw [this,hs2];exact UZ _
  refine zi hT (cs:=cur.toList) (by rw [<- e];exact hc) (o:=0+i*1) (v:=i64 v) rfl hs (by omega) rfl fun w' fw gw sw=>k w' ?_ gw;unfold OwnS World.ownsRow;have ht:cur.toList.take (l.length*1)=l.flatMap zu.enc:=ht;refine⟨by rw [qp],.inr ⟨g,cap,_,rfl,hB,fw,by rw [QS];exact hl,hm,?_,?_⟩⟩
  ·show (cur.toList.set (0+i*1) (i64 v)).length=_;rw [QS];exact hs2
  ·show (cur.toList.set (0+i*1) (i64 v)).take ((l.set i v).length*1)=_;rw [UZ,UT,UZ,QS,List.take_set,<- UZ l.length,ht,zd6,zd6];unfold zh8;rw [UK]
theorem zpU {before:Nat->Nat}:∀ (m left:Nat) (l:List Nat),∀ x∈j6 before m left l,∀ a∈x,a∈l\/a∈els left:=by
 intro m
 induction m with
 | zero =>
  intro left l x hx a ha;unfold j6 at hx
  split at hx
  ·rw [KD.1 hx] at ha;exact .inl ha
  ·cases hx
 | succ m ih =>
  intro left l x hx a ha;unfold j6 at hx
  split at hx
  ·rw [KD.1 hx] at ha;exact .inl ha
  ·obtain⟨b,hb,hx⟩:=List.mem_flatMap.1 hx
   split at hx
   ·rcases ih _ _ x hx a ha with h | h
    ·rcases QU.1 h with h | h
     ·exact .inl h
     ·rw [KD.1 h];exact .inr hb
    ·refine .inr ?_;unfold els at h ⊢;rw [QV] at h ⊢;refine⟨h.1,?_⟩;have h2:=h.2;unfold jE at h2;rw [Ue,bAT] at h2;exact h2.1
   ·cases hx
theorem zpw {r:RelD} {n:Nat} (hr:r.n=n) (hn:n<=64) {x:List Nat} (h:x∈za5 r) {a:Nat} (ha:a∈x):a<n:=by
 unfold za5 at h
 split at h
 ·rcases zpU _ _ _ x h a ha with h | h
  ·cases h
  ·rw [zan,hr,zdh hn] at h;exact Uq.1 h
 ·cases h
abbrev crs (n:Nat):RelD:=zgE n 1 (jE (jO n) 1)
theorem zoE:∀ n,n<=48->okR (crs n)=true:=by
 intro n hn;have h:(List.range 49).all (fun n=>okR (crs n))=true:=by kernel_rfl
 rw [Qm] at h;exact h n (Uq.2 (by omega))
theorem zdm (n:Int):jO n<2^64:=zaG n
theorem zlX (n:Nat):zX (crs n).to:=fun i _=>by
 show (if i<n then (if Nat.testBit 1 i then jE (jO n) 1&&&jO n else 0) else 0)<2^64
 split
 ·split
  ·exact KH QA (zdm n)
  ·decide
 ·decide
def zbt (ws:List Nat) (o:List Nat):List Nat:=o.map fun k=>ws.getD k 0
theorem zpq {ws o:List Nat} {i:Nat} (hi:i<o.length) (h:i<(zbt ws (o.take i)++o.drop i).length):(zbt ws (o.take i)++o.drop i)[i]=o[i]:=by
 have hl:(zbt ws (o.take i)).length=i:=by unfold zbt;rw [QQ,Qx,Uc (by omega)]
 have h2:(zbt ws (o.take i)++o.drop i)[i]?=o[i]?:=by
  rw [Jn (by omega),hl,UQ,Kz,UN]
 rw [gE h,gE hi] at h2;exact Uh h2
theorem znJ {ws o:List Nat} {i:Nat} (hi:i<o.length) (ho:o[i]<ws.length):(zbt ws (o.take i)++o.drop i).set i ws[o[i]]=zbt ws (o.take (i+1))++o.drop (i+1):=by
 have hl:(zbt ws (o.take i)).length=i:=by unfold zbt;rw [QQ,Qx,Uc (by omega)]
 rw [JR _ _ (by omega),hl,UQ,<- JI hi,List.set_cons_zero,tsg hi];unfold zbt;rw [QT,KS,UD,List.map_nil,gDe,gE ho];rfl
section
variable {q:OA} {c:Nat} {ws:List Nat} {w:Wd}
theorem znW (hl:SlR zu w q ws) (hn:ws.length<=48) (hT:Tz64M w) :
  Calls PG 48 #[.slice q ws.length c] w fun e w'=>(∃ (xs:List (List Nat×OA×Nat)) (p:OA) (c':Nat),e = .returned (.slice p xs.length c')/\xs.map (·.1)=zB ws/\OwnS qV 66 w.heap.size w' p c' xs/\∀ x∈xs,OwnS zu 3 w.heap.size w' x.2.1 x.2.2 x.1)/\Bw w w':=by
 refine qX 44 [.slice q ws.length c] (.s .p (.s .p (.c .p .p))) Tryz.func48 ?_;obtain⟨B,hB⟩:=nm (w.heap.size);refine⟨List (List Nat×OA×Nat)×OA×Nat,fun s=>⟨[(0,.slice q ws.length c),(4,.slice s.2.1 s.1.length s.2.2)],[]⟩,fun s X=>(zB ws=(s.1.map (·.1)).map (zbt ws)/\AscB s.1/\s.1.length<=10000/\∀ x∈s.1,x.1.length<=64/\∀ a∈x.1,a<ws.length)/\OwnS qV 66 B X s.2.1 s.2.2 s.1/\(∀ x∈s.1,OwnS zu 3 B X x.2.1 x.2.2 x.1)/\Bw w X,?_,?_⟩
 ·refine cmo zhU ?_;rintro e _ ⟨rfl,rfl⟩;refine⟨_,zaX (zaG _) (by decide:1<2^64),cmo (zqx (n:=ws.length) (a:=1) (b:=qa (zac ws.length) 1) hn (by decide) (qW (zaG _))) ?_⟩;rintro e X ⟨rfl,hbX⟩;refine cmo (zo7 (r:=crs ws.length) (m:=10000) (zlX _) (hT.below hbX) (UY _) (zoE _ hn)) ?_;rintro e Y ⟨⟨hm,xs,p,c',rfl,hxs,hasc,ho,hx⟩ | ⟨hm,rfl⟩,hbY⟩
  ·refine⟨(xs,p,c'),(cvE rfl rfl),⟨?_,hasc,?_,fun x hx=>?_⟩,ho.lower (by rw [hB];exact hbX.size),fun x h=>(hx x h).lower (by rw [hB];exact hbX.size),(zst hbX hbY)⟩
   ·show zB ws=(xs.map (·.1)).map (zbt ws);rw [hxs];unfold zB;exact Gr hm
   ·show xs.length<=10000;rw [<- hxs,QQ] at hm;exact hm
   ·have hmem:x.1∈za5 (crs ws.length):=(by rw [<- hxs];exact UL.2 ⟨x,hx,rfl⟩);exact⟨zlH hmem,fun a ha=>zpw rfl (by omega) hmem ha⟩
  ·refine⟨([],none,0),(cvE rfl rfl),⟨?_,List.Pairwise.nil,Gb _,fun x hx=>(by cases hx)⟩,OwnS.nil,fun x hx=>(by cases hx),(zst hbX hbY)⟩;show zB ws=[];unfold zB;exact Gq (by show ¬ (za5 (crs ws.length)).length<=10000;omega)
 rintro⟨xs,p,c'⟩ X ⟨⟨hrk,hasc,hxl,hxx⟩,ho,hx,hbX⟩;dsimp only at hrk hasc hxl hxx ho hx ⊢;have hbs:=hbX.size;refine⟨Nat,fun k=>⟨[(0,.slice q ws.length c),(4,.slice p xs.length c'),(21,.slice p xs.length c'),(22,i64 xs.length),(23,i64 (k:Nat))],[]⟩,
  fun k Z=>k<=xs.length/\OwnS qV 66 B Z p c' xs/\(∀ x∈xs.take k,OwnS zu 3 B Z x.2.1 x.2.2 (zbt ws x.1))/\(∀ x∈xs.drop k,OwnS zu 3 B Z x.2.1 x.2.2 x.1)/\Bw w Z,fun k=>xs.length-k,0,
  (cvE rfl rfl),⟨Gb _,ho,fun x h=>(by rw [Ur] at h;cases h),fun x h=>hx x h,hbX⟩,?_⟩
 clear ho hx hbX hbs;rintro k Z ⟨hk,ho,htk,hdr,hbZ⟩;have hbs:=hbZ.size;refine biE (fun hc=>?_) fun hc=>?_
 ·have hc:(k:Int)<(xs.length:Int):=dT hc;have hkl:k<xs.length:=by omega
  obtain⟨x,hxk⟩:∃ x,xs[k]=x:=⟨_,rfl⟩;have hxm:x∈xs:=by rw [<- hxk];exact gM hkl
  obtain⟨hx64,hxa⟩:=hxx x hxm;have hsplit:xs=xs.take k++x::xs.drop (k+1):=by rw [<- hxk,JI,JS]
  have hdrop:xs.drop k=x::xs.drop (k+1):=by rw [<- hxk,JI]
  have hox:OwnS zu 3 B Z x.2.1 x.2.2 x.1:=hdr x (by rw [hdrop];simp);obtain⟨bp,op,hpe,hlp,hat⟩:=ho.row.at hkl;subst hpe;refine⟨k,rfl,hkl,.slice x.2.1 x.1.length x.2.2,by rw [<- hxk];exact zc (hat k hkl) (i:=0) rfl,?_⟩;refine⟨Nat,fun i=>⟨[(0,.slice q ws.length c),(4,.slice (some ⟨bp,op,none⟩) xs.length c'),(7,.slice x.2.1 x.1.length x.2.2),(21,.slice (some ⟨bp,op,none⟩) xs.length c'),(22,i64 xs.length),(23,i64 (k:Nat)),(27,.slice x.2.1 x.1.length x.2.2),(28,i64 x.1.length),(29,i64 (i:Nat))],[]⟩,
   fun i V=>i<=x.1.length/\OwnS zu 3 B V x.2.1 x.2.2 (zbt ws (x.1.take i)++x.1.drop i)/\Z.grownBy V (x.2.1.map Addr.block),fun i=>x.1.length-i,0,
   (cvE rfl rfl),⟨Gb _,hox,z8 _ _⟩,?_⟩
  rintro i V ⟨hi,hoV,gV⟩;refine biE (fun hc=>?_) fun hc=>?_
  ·have hc:(i:Int)<(x.1.length:Int):=dT hc;have hil:i<x.1.length:=by omega
   have hlen:(zbt ws (x.1.take i)++x.1.drop i).length=x.1.length:=by
    unfold zbt;simp;omega
   have hgi:(zbt ws (x.1.take i)++x.1.drop i)[i]'(by omega)=x.1[i]:=by
    exact zpq hil (by omega)
   obtain⟨b',o',hqe,hlq,hat'⟩:=hoV.row.at (i:=i) (by omega);have hao:=hxa x.1[i] (gM hil);obtain⟨bw,ow,hwe,hlw,hatw⟩:=hl.at hao;subst hwe;have hq0:∃ g,x.2.1=some ⟨g,0,none⟩:=by
    rcases hoV.inv with ⟨h,_⟩ | ⟨g,cur,h,_⟩
    ·rw [h] at hqe;cases hqe
    ·exact⟨g,h⟩
   obtain⟨g,hg⟩:=hq0;have hbo:b'=g/\o'=0:=by rw [hg] at hqe;simpa using hqe.symm
   obtain⟨rfl,rfl⟩:=hbo;rw [hg] at hoV gV ⊢;have hBg:=(zo hoV rfl).1;refine⟨i,rfl,hil,i64 x.1[i],by have:=zc (hat' i (by omega)) (i:=0) (v:=i64 x.1[i]) (by rw [hgi];rfl);exact this,x.1[i],rfl,hao,?_⟩;have hVw:V.heap[bw]?=w.heap[bw]?:=(gV.block bw (by omega) (by have:B<=b':=hBg;simp;omega)).trans (hbZ.block bw hlw);refine⟨i64 ws[x.1[i]],zc (jk hVw (hatw _ hao)) (i:=0) rfl,i,rfl,hil,zih (i:=i) (v:=ws[x.1[i]]) k3 rfl hoV (by omega) fun V' oV' gV'=>nxI (by omega) ⟨i+1,(cvE rfl rfl),⟨hil,?_,zd gV gV'⟩,zdc (by omega)⟩⟩;have e:(zbt ws (x.1.take i)++x.1.drop i).set i ws[x.1[i]]=zbt ws (x.1.take (i+1))++x.1.drop (i+1):=znJ hil hao;rw [e] at oV';exact oV'
  ·have hc:¬ (i:Int)<(x.1.length:Int):=dF hc;obtain rfl:i=x.1.length:=by omega
   rw [Qz,Qp,QM] at hoV;have keepI:∀ y:List Nat×OA×Nat,∀ l',OwnS zu 3 B Z y.2.1 y.2.2 l'->(∀ a b,x.2.1=some a->y.2.1=some b->a.block≠b.block)->OwnS zu 3 B V y.2.1 y.2.2 l':=fun y l' hy hne=>hy.same fun b hb=>gV.block _ (zo hy hb).2.1 (by
    intro e
    cases hx1:x.2.1 with
    | none=>rw [hx1] at e;cases e
    | some a =>
     rw [hx1] at e;simp only [Ug,Qc] at e;exact hne a b hx1 hb e.symm)
   unfold AscB at hasc;rw [hsplit,List.pairwise_append,List.pairwise_cons] at hasc;obtain⟨_,⟨hA1,_⟩,hA2⟩:=hasc;refine nxI (by omega) ⟨k+1,(cvE rfl rfl),⟨hkl,?_,fun y hy=>?_,fun y hy=>?_,?_⟩,zdc (by omega)⟩
   ·refine ho.same fun a ha=>gV.block _ (zo ho ha).2.1 fun e=>?_
    cases hx1:x.2.1 with
    | none=>rw [hx1] at e;cases e
    | some a2 =>
     rw [hx1] at e;simp only [Ug,Qc] at e;obtain⟨_,_,c1,h1⟩:=zo ho ha;obtain⟨_,_,c2,h2⟩:=zo hox hx1;rw [<- e,h1] at h2;simp at h2
   ·rw [tsg hkl,hxk] at hy;rcases QU.1 hy with hy | hy
    ·exact keepI y _ (htk y hy) fun a b ha hb e=>by
      have:=hA2 y hy x (by simp) b a hb ha;omega
    ·rw [KD.1 hy];exact hoV
   ·exact keepI y _ (hdr y (by rw [hdrop];exact Ka _ hy)) fun a b ha hb e=>by
     have:=hA1 y hy a b ha hb;omega
   ·cases hx1:x.2.1 with
    | none =>
     rw [hx1] at gV;exact hbZ.trans ⟨gV.os,gV.tape,gV.output,gV.size,fun j hj=>gV.block j (by omega) (fun e=>by cases e)⟩
    | some a =>
     rw [hx1] at gV;exact hbZ.trans (zh gV hbs (by have:=(zo hox hx1).1;omega))
 ·have hc:¬ (k:Int)<(xs.length:Int):=dF hc;obtain rfl:k=xs.length:=by omega
  rw [Qz] at htk;refine⟨⟨xs.map fun x=>(zbt ws x.1,x.2),p,c',by rw [QQ];rfl,?_,?_,fun y hy=>?_⟩,hbZ⟩
  ·rw [hrk,UJ,UJ];rfl
  ·rw [<- hB];have e1:(xs.map fun x=>(zbt ws x.1,x.2)).flatMap qV.enc=xs.flatMap qV.enc:=by
    rw [Qr];congr 1;funext x;show [Value.slice x.2.1 (zbt ws x.1).length x.2.2]=[Value.slice x.2.1 x.1.length x.2.2];unfold zbt;rw [QQ]
   unfold OwnS at ho ⊢;rw [e1,QQ];exact ho
  ·obtain⟨x,hx,rfl⟩:=UL.1 hy;rw [<- hB];exact htk x hx
end
def exC (x:ExD) (q:OA) (c:Nat):List Value := .slice q x.ev.length c::(zj x.po++(zj x.rf++(zj x.co++(zj x.dt++(zj x.ct++(zj x.rm++(seg 32 (fun i=>u8 (x.regs i))++seg 6 (fun i=>u8 (x.mem i)))))))))
theorem zy (x:ExD) (q:OA) (c:Nat):(exC x q c).length=333:=by
 unfold exC;simp only [Qv,lap,zk,zw]
theorem zak (x:ExD) (q:OA) (c:Nat):(exC x q c).all Value.oneCell'=true:=by
 unfold exC;rw [UC,QL,QL,QL,QL,QL,QL,QL,qo,qo,qo,qo,qo,qo,zbf fun _=>rfl,zbf fun _=>rfl];rfl
section
variable (x:ExD) (q:OA) (c:Nat) (S:List Value)
theorem zon:∃ A Z,A.length=1/\∀ r,exC { x with po:=r } q c++S=A++(zj r++Z) :=
 ⟨.slice q x.ev.length c::[],(zj x.rf++(zj x.co++(zj x.dt++(zj x.ct++(zj x.rm++(seg 32 (fun i=>u8 (x.regs i))++(seg 6 (fun i=>u8 (x.mem i))++S))))))),by simp only [Qv,QR,lap,zk],fun r=>by simp only [exC,KS,Qo,QW]⟩
theorem zom:∃ A Z,A.length=50/\∀ r,exC { x with rf:=r } q c++S=A++(zj r++Z) :=
 ⟨.slice q x.ev.length c::zj x.po,(zj x.co++(zj x.dt++(zj x.ct++(zj x.rm++(seg 32 (fun i=>u8 (x.regs i))++(seg 6 (fun i=>u8 (x.mem i))++S)))))),by simp only [Qv,QR,lap,zk],fun r=>by simp only [exC,KS,Qo,QW]⟩
theorem zor:∃ A Z,A.length=99/\∀ r,exC { x with co:=r } q c++S=A++(zj r++Z) :=
 ⟨.slice q x.ev.length c::(zj x.po++zj x.rf),(zj x.dt++(zj x.ct++(zj x.rm++(seg 32 (fun i=>u8 (x.regs i))++(seg 6 (fun i=>u8 (x.mem i))++S))))),by simp only [Qv,QR,lap,zk],fun r=>by simp only [exC,KS,Qo,QW]⟩
theorem zop:∃ A Z,A.length=148/\∀ r,exC { x with dt:=r } q c++S=A++(zj r++Z) :=
 ⟨.slice q x.ev.length c::(zj x.po++(zj x.rf++zj x.co)),(zj x.ct++(zj x.rm++(seg 32 (fun i=>u8 (x.regs i))++(seg 6 (fun i=>u8 (x.mem i))++S)))),by simp only [Qv,QR,lap,zk],fun r=>by simp only [exC,KS,Qo,QW]⟩
theorem zoq:∃ A Z,A.length=197/\∀ r,exC { x with ct:=r } q c++S=A++(zj r++Z) :=
 ⟨.slice q x.ev.length c::(zj x.po++(zj x.rf++(zj x.co++zj x.dt))),(zj x.rm++(seg 32 (fun i=>u8 (x.regs i))++(seg 6 (fun i=>u8 (x.mem i))++S))),by simp only [Qv,QR,lap,zk],fun r=>by simp only [exC,KS,Qo,QW]⟩
theorem zol:∃ A Z,A.length=246/\∀ r,exC { x with rm:=r } q c++S=A++(zj r++Z) :=
 ⟨.slice q x.ev.length c::(zj x.po++(zj x.rf++(zj x.co++(zj x.dt++zj x.ct)))),(seg 32 (fun i=>u8 (x.regs i))++(seg 6 (fun i=>u8 (x.mem i))++S)),by simp only [Qv,QR,lap,zk],fun r=>by simp only [exC,KS,Qo,QW]⟩
theorem zlT:∃ A Z,A.length=295/\∀ f,exC { x with regs:=f } q c++S=A++(seg 32 (fun i=>u8 (f i))++Z) :=
 ⟨.slice q x.ev.length c::(zj x.po++(zj x.rf++(zj x.co++(zj x.dt++(zj x.ct++zj x.rm))))),(seg 6 (fun i=>u8 (x.mem i))++S),by simp only [Qv,lap,zk],fun f=>by simp only [exC,KS,Qo,QW]⟩
theorem zkT:∃ A Z,A.length=327/\∀ f,exC { x with mem:=f } q c++S=A++(seg 6 (fun i=>u8 (f i))++Z) :=
 ⟨.slice q x.ev.length c::(zj x.po++(zj x.rf++(zj x.co++(zj x.dt++(zj x.ct++(zj x.rm++seg 32 (fun i=>u8 (x.regs i)))))))),S,by simp only [Qv,lap,zk,zw],fun f=>by simp only [exC,KS,Qo,QW]⟩
theorem zqF (l:List Ev) (q':OA) (c':Nat):(exC x q c++S).set 0 (.slice q' l.length c')=exC { x with ev:=l } q' c'++S:=by
 unfold exC;rw [Qo,List.set_cons_zero,Qo]
theorem zri:(exC x q c++S)[0]?=some (.slice q x.ev.length c):=rfl
end
theorem zfu {x:ExD} {q:OA} {c:Nat} {S:List Value} {i:Nat} {v:Value} (h:S[i]?=some v):(exC x q c++S)[333+i]?=some v:=by
 rw [jm (zy _ _ _)];exact h
theorem zil {x:ExD} {q:OA} {c:Nat} {S:List Value} {i:Nat} {v:Value}:(exC x q c++S).set (333+i) v=exC x q c++S.set i v:=qs (zy _ _ _)
abbrev zau:=List Nat×OA×Nat
abbrev slV (x:zau):Value := .slice x.2.1 x.1.length x.2.2
def zdn (l:List zau):List Value:=l.map slV
theorem zeL:∀ l:List zau,l.flatMap qV.enc=zdn l
 | []=>rfl
 | a::l=>by
  show slV a::l.flatMap qV.enc=slV a::zdn l;rw [zeL l]
abbrev RowLH (Z:Wd) (g:Nat) (l:List zau):Prop:=Z.heap[g]?=some (.cells (zdn l).toArray 66 (0,0))
theorem RowLH.sl {Z:Wd} {g:Nat} {l:List zau} (h:RowLH Z g l):SlR qV Z (some ⟨g,0,none⟩) l :=
 SlR.of_cells (hlt h) (by rw [zeL];exact za h)
theorem RowLH.own {Z:Wd} {g B:Nat} {l:List zau} (h:RowLH Z g l) (hB:B<=g) (hm:l.length<=maxLen):OwnS qV 66 B Z (some ⟨g,0,none⟩) l.length l:=by
 unfold OwnS World.ownsRow;have hz:(zdn l).length=l.length:=by unfold zdn;rw [QQ]
 refine⟨by rw [qp],.inr ⟨g,l.length,(zdn l).toArray,rfl,hB,h,UY _,hm,?_,?_⟩⟩
 ·show (zdn l).length=l.length*1;rw [hz,UZ]
 ·show (zdn l).take (l.length*1)=_;rw [zeL,JJ (by rw [hz,UZ];exact UY _)]
structure Rows (B:Nat) (Z:Wd) (W:List zau):Prop where
 own:∀ x∈W,OwnS zu 3 B Z x.2.1 x.2.2 x.1
 dis:∀ (i j:Nat) (x y:zau),W[i]?=some x->W[j]?=some y->i≠j->∀ a b,x.2.1=some a->y.2.1=some b->a.block≠b.block
theorem Rows.same {B:Nat} {Z Y:Wd} {W:List zau} (h:Rows B Z W) (hs:∀ x∈W,∀ a,x.2.1=some a->Y.heap[a.block]?=Z.heap[a.block]?):Rows B Y W :=
 ⟨fun x hx=>(h.own x hx).same (hs x hx),h.dis⟩
theorem Rows.nils (B:Nat) (Z:Wd) (n:Nat):Rows B Z (List.replicate n ([],none,0)):=by
 refine⟨fun x hx=>?_,fun i j x y hx hy _ a b ha _=>?_⟩
 ·rw [Jv hx];exact OwnS.nil
 ·have:=Kb hx;rw [Jv this] at ha
  cases ha
theorem Rows.set {B:Nat} {Z Y:Wd} {W:List zau} {i:Nat} {x y:zau} (h:Rows B Z W) (hi:W[i]?=some x) (ho:OwnS zu 3 B Y y.2.1 y.2.2 y.1) (hg:Z.grownBy Y (x.2.1.map Addr.block)) (hat:∀ a,y.2.1=some a->x.2.1=some a\/Z.heap.size<=a.block):Rows B Y (W.set i y):=by
 obtain⟨hil,hxi⟩:=Js.1 hi;have ne:∀ (j:Nat) (z:zau),W[j]?=some z->i≠j->∀ b,z.2.1=some b->Y.heap[b.block]?=Z.heap[b.block]?:=fun j z hj hne b hb=>by
  refine hg.block _ (zo (h.own z (Kb hj)) hb).2.1 fun e=>?_
  cases hx1:x.2.1 with
  | none=>rw [hx1] at e;cases e
  | some a =>
   rw [hx1] at e;simp only [Ug,Qc] at e;exact h.dis i j x z hi hj hne a b hx1 hb e.symm
 have inv:∀ (j:Nat) (z:zau),(W.set i y)[j]?=some z->(i=j/\z=y)\/(i≠j/\W[j]?=some z):=fun j z hj=>by
  by_cases e:i=j
  ·subst e;rw [JH hil] at hj;exact .inl ⟨rfl,(Uh hj).symm⟩
  ·rw [JY e] at hj;exact .inr ⟨e,hj⟩
 refine⟨fun z hz=>?_,fun j k u v hu hv hjk a b ha hb=>?_⟩
 ·obtain⟨j,hj⟩:=List.mem_iff_getElem?.1 hz;rcases inv j z hj with ⟨_,rfl⟩ | ⟨hne,hj⟩
  ·exact ho
  ·exact (h.own z (Kb hj)).same (ne j z hj hne)
 ·rcases inv j u hu with ⟨e1,rfl⟩ | ⟨n1,hu'⟩ <;> rcases inv k v hv with ⟨e2,rfl⟩ | ⟨n2,hv'⟩
  ·omega
  ·rcases hat a ha with h1 | h1
   ·exact h.dis i k x v hi hv' n2 a b h1 hb
   ·have:=(zo (h.own v (Kb hv')) hb).2.1;omega
  ·rcases hat b hb with h1 | h1
   ·exact h.dis j i u x hu' hi (fun e=>n1 e.symm) a b ha h1
   ·have:=(zo (h.own u (Kb hu')) ha).2.1;omega
  ·exact h.dis j k u v hu' hv' hjk a b ha hb
end Go.Proofs.YtpalcnbhkigagaaGreatDoor
namespace Go.Vc
open Go.RowKit
def DrawA (S:Sig) (ops:Array Oper) (E:Env) (w:Wd) (K:Env->Wd->Prop) (QP:List PanicEntry->Wd->Prop):Prop :=
 ∃ (X:List Nat) (T:OT),(zjU (zcp S.τ X ops) ops ops.size (Array.replicate ops.size false) T&&ops.all (fun o=>jD o.op))=true/\zf3 S ops.toList X QP T E w.drew K
inductive Mn where
 | m (m:Mk)
 | s (a b:Mn)
 | c (a b:Mn)
 | d (a b:Mn)
 | t
 | i
section
variable {S:Sig}
def zjT (rec_:Array Bool->OT->Bool) (ind:Nat->Nat->Bool) (ops:Array Oper) (listed:Array Bool) (T:OT):Bool :=
 !(Region.ready .any ops listed).isEmpty&&(Region.ready .any ops listed).all fun i =>
   (OT.firsts ind i T).any fun T'=>rec_ (listed.setIfInBounds i true) T'
def zfi (ind:Nat->Nat->Bool) (ops:Array Oper):Nat->Array Bool->OT->Bool
 | 0,listed,T=>(Region.ready .any ops listed).isEmpty&&(match T with | .nil=>true | _=>false)
 | m+1,listed,.op k T'=>(match (Region.ready .any ops listed).contains k&&zee ind ops k listed with
  | true=>zfi ind ops m (listed.setIfInBounds k true) T'
  | false=>zjT (zfi ind ops m) ind ops listed (.op k T'))
 | m+1,listed,.nil=>zjT (zfi ind ops m) ind ops listed .nil
 | m+1,listed,.alt x y=>zjT (zfi ind ops m) ind ops listed (.alt x y)
section
variable {ind:Nat->Nat->Bool} {ops:Array Oper}
theorem zaS {rec_:Array Bool->OT->Bool} {L:Array Bool} {T:OT} (h:zjT rec_ ind ops L T=true):(Region.ready .any ops L).isEmpty=false/\∀ i∈Region.ready .any ops L,∃ T',T'∈OT.firsts ind i T/\rec_ (L.setIfInBounds i true) T'=true:=by
 simp only [zjT,bAT,KM,Qm,Qn] at h;exact⟨h.1,fun i hi=>h.2 i hi⟩
theorem zmT:∀ (m:Nat) (L:Array Bool) (T:OT),zdO ops L->zfi ind ops (m+1) L T=true ->
  (Region.ready .any ops L).isEmpty=false/\∀ i∈Region.ready .any ops L,∃ T',T'∈OT.firsts ind i T/\zfi ind ops m (L.setIfInBounds i true) T'=true:=by
 intro m
 induction m with
 | zero =>
  intro L T hc h
  cases T with
  | nil=>exact zaS h
  | alt x y=>exact zaS h
  | op k T' =>
   simp only [zfi] at h
   split at h
   ·rename_i hf;simp only [bAT,JW,dE] at hf;refine⟨Ju.2 (KE hf.1),fun i hi=>?_⟩;by_cases e:i=k
    ·subst e;exact⟨T',by simp [OT.firsts],h⟩
    ·have:=zaQ hi e;simp only [bAT,Qu] at h;rw [h.1] at this;cases this
   ·exact zaS h
 | succ m ih =>
  intro L T hc h
  cases T with
  | nil=>exact zaS h
  | alt x y=>exact zaS h
  | op k T' =>
   unfold zfi at h
   split at h
   ·rename_i hf;simp only [bAT,JW,dE] at hf;refine⟨Ju.2 (KE hf.1),fun i hi=>?_⟩;by_cases e:i=k
    ·subst e;exact⟨T',by simp [OT.firsts],h⟩
    ·obtain⟨T'',h1,h2⟩:=(ih _ T' (zcw hc hf.1) h).2 i (zaQ hi e);refine⟨.op k T'',?_,?_⟩
     ·have:¬ k=i:=fun e2=>e e2.symm;rw [OT.firsts,Gq this,Gr (zjI hc hf.2 hf.1 hi e)];exact Ko h1
     ·have hk2:k∈Region.ready .any ops (L.setIfInBounds i true):=zaQ hf.1 (fun e2=>e e2.symm);have hb:((Region.ready .any ops (L.setIfInBounds i true)).contains k&&zee ind ops k (L.setIfInBounds i true))=true:=by
       simp only [bAT,JW,dE];exact⟨hk2,zgu hf.2⟩
      unfold zfi;rw [hb];rw [zi3];exact h2
   ·exact zaS h
theorem zeV:∀ (m:Nat) (L:Array Bool) (T:OT),zdO ops L->zfi ind ops m L T=true->zjU ind ops m L T=true
 | 0,L,T,_,h=>h
 | m+1,L,T,hc,h=>by
  obtain⟨h1,h2⟩:=zmT m L T hc h;simp only [zjU,bAT,KM,Qm,Qn];refine⟨h1,fun i hi=>?_⟩;obtain⟨T',h3,h4⟩:=h2 i hi;exact⟨T',h3,zeV m _ T' (zcw hc hi) h4⟩
end
theorem DrawA.treeR {S:Sig} {ops:Array Oper} {E:Env} {w:Wd} {K:Env->Wd->Prop} {QP:List PanicEntry->Wd->Prop} (X:List Nat) (T:OT)
  (h:(zfi (zcp S.τ X ops) ops ops.size (Array.replicate ops.size false) T&&ops.all (fun o=>jD o.op))=true) (k:zf3 S ops.toList X QP T E w.drew K):DrawA S ops E w K QP :=
 ⟨X,T,by
  simp only [bAT] at h ⊢;refine⟨zeV _ _ _ (fun j o hj=>?_) h.1,h.2⟩;by_cases hl:j<ops.size <;> simp [hl] at hj,k⟩
theorem DrawE.treeR {S:Sig} {ops:Array Oper} {E:Env} {w:Wd} {K:Env->Wd->Prop} {QP:List PanicEntry->Wd->Prop} (X:List Nat) (T:OT)
  (h:(zfi (zcp S.τ X ops) ops ops.size (Array.replicate ops.size false) T&&ops.all (fun o=>jD o.op))=true) (k:zf3 S ops.toList X QP T E w.drew K):DrawE S ops E w K QP :=
 .inr (.inr ⟨X,T,by
  simp only [bAT] at h ⊢;refine⟨zeV _ _ _ (fun j o hj=>?_) h.1,h.2⟩;by_cases hl:j<ops.size <;> simp [hl] at hj,k⟩)
end
end Go.Vc
