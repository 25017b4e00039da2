/- Contracts of functions, and plain facts, for the law that the last text of this claim proves. -/
import Derived.Test.YtmbghmhjjodgmaaGreatDoorV3
import Derived.Test.YtmbghmhjjodgmaaGreatDoorV1
import Derived.Test.YtmbghmhjjodgmaaGreatDoorV2
set_option linter.unusedSimpArgs false
set_option linter.unusedVariables false
namespace Go.Proofs.YtmbghmhjjodgmaaGreatDoor
open Go.Vc Go.RowKit Go.Sei
def zkS (g bx:Nat):List Value:=[.func (.func 193) #[] #[At0 bx],.func (.func 194) #[] #[At0 bx],.func (.func 196) #[] #[At0 bx],
 .func (.func 197) #[] #[At0 bx],.func (.func 199) #[] #[At0 bx],.func (.func 201) #[At0 g] #[],.func (.func 202) #[At0 g] #[],
 .func (.func 203) #[] #[At0 bx]]
theorem zq8 {g:Nat} {w:World}:Calls Tryz.prog 175 #[At0 g] w fun e w'=>e = .returned (.slice (some ⟨w.heap.size+1,0,none⟩) 8 8) /\
  w'.heap[w.heap.size]?=some (.cells #[At0 g] 251 (0,0))/\w'.heap[w.heap.size+1]?=some (.cells (zkS g w.heap.size).toArray 35 (0,0))/\w'.heap.size=w.heap.size+2/\Bw w w':=by
 refine cofE 14 [At0 g] Tryz.func175 ?_;obtain⟨W,hW⟩:=nm (w.alloc (.cells #[At0 g] 251));have hb:W.heap[w.heap.size]?=some (.cells #[At0 g] 251 (0,0)):=by rw [hW];exact hnew w _
 have hs:W.heap.size=w.heap.size+1:=by rw [hW,wz]
 have hbb:Bw w W:=by rw [hW];exact (zba w _)
 refine⟨_,zac (zab (hnew w _)) (i:=0) rfl,?_⟩;refine⟨_,zac (zab (hnew w _)) (i:=0) rfl,?_⟩;refine⟨⟨by decide,by decide,rfl⟩,zkS g w.heap.size,rfl,?_⟩;have hs1:=wz w (.cells #[At0 g] 251);refine⟨?_,?_,?_,?_,?_⟩
 ·show Ending.returned (.slice (some ⟨(w.alloc (.cells #[At0 g] 251)).heap.size,0,none⟩) 8 8)=_;rw [hs1]
 ·exact hold _ (hnew w _)
 ·rw [<- hs1];exact hnew _ _
 ·rw [wz,wz]
 ·exact ((zba w _)).alloc (by simp) _
structure ThI (X:World) (L:Nat) (x:InsD) (locs after:Nat):Prop where
 c:X.heap[L]?=some (.cells (spC x locs after).toArray 226 (0,0))
 b:X.heap[L+1]?=some (.cells #[At0 L] 251 (0,0))
 s:X.heap[L+2]?=some (.cells (zkS L (L+1)).toArray 35 (0,0))
theorem ThI.below {X Y:World} {L:Nat} {x:InsD} {locs after:Nat} (h:ThI X L x locs after) (hb:Bw X Y):ThI Y L x locs after:=⟨zaa hb h.c,zaa hb h.b,zaa hb h.s⟩
def ins0:InsD:=⟨0,0,0,false,0,false,0,0,0,0⟩
theorem zk6 {l:List Bool}:∀ {n:Nat},(∀ j,j<n->l[j]?=some true)->n=l.length->l.all id=true:=by
 intro n h e;rw [List.all_eq_true];intro b hb;obtain⟨j,hj,rfl⟩:=List.getElem_of_mem hb;have:=h j (by omega);rw [gE hj] at this;exact Option.some.inj this
theorem zpQ {l:List Bool} {j:Nat} (h:l[j]?=some false):l.all id=false:=by
 rw [List.all_eq_false];obtain⟨hj,e⟩:=List.getElem?_eq_some_iff.1 h;exact⟨l[j],gM _,by rw [e];decide⟩
theorem zfJ {l:List InsD} {k locs:Nat} (hkl:k<l.length) {i:Nat} (h:(insC l[k] locs (l.length-1-k))[i]?=some false) {w X:World} (hb:Bw w X) :
  Ending.returned (.bool false) = .returned (.bool (zb0 l locs))/\Bw w X:=by
 refine⟨rb ?_,hb⟩;symm;unfold zb0;rw [Bool.and_eq_false_iff];refine .inr ?_;rw [List.all_eq_false];refine⟨k,List.mem_range.2 hkl,?_⟩;rw [gE hkl];show ¬ insB l[k] locs (l.length-1-k)=true;unfold insB;rw [zpQ h];simp
theorem zla {p:Option Addr} {cap locs:Nat} {l:List InsD} {w:World} (hl:SlR insE w p l) (hG:GlobC w) (hn:l.length<=140737488351232) :
  CB 152 #[.slice p l.length cap,i64 locs] w (.bool (zb0 l locs)):=by
 refine cofE 43 [.slice p l.length cap,i64 locs] Tryz.func152 ?_;obtain⟨L,hL⟩:=nm (w.heap.size);refine biE (fun h=>?_) fun h=>?_
 ·have h:(12:Int)<l.length:=dT h;exact⟨rb (by unfold zb0;rw [decide_eq_false (by omega)];rfl),Below.refl _ _⟩
 have h12:¬ (12:Int)<l.length:=dF h;refine⟨spC ins0 locs 0,rfl,?_⟩;refine zak (X:=w) (v := .agg (spC ins0 locs 0).toArray) k226 rfl rfl rfl fun V hbV fV sV=>?_;refine cmo zq8 ?_;rintro e W0 ⟨rfl,hbx,hsl,hsz,hb0⟩;rw [sV,<- hL] at hsz hbx hsl;have hI0:ThI W0 L ins0 locs 0:=⟨hL▸zaa hb0 fV,hbx,hsl⟩;have hbw:Bw w W0:=zst hbV hb0;have p1:some (Value.pointer (some ⟨w.heap.size,0,none⟩))=some (At0 L):=by rw [hL]
 have p2:some (Value.slice (some ⟨V.heap.size+1,0,none⟩) 8 8)=some (Value.slice (some ⟨L+2,0,none⟩) 8 8):=by rw [sV,hL]
 clear hbx hsl fV sV hb0 hbV;refine⟨Nat,fun k=>⟨[(0,.slice p l.length cap),(1,i64 locs),(5,At0 L),(6,.slice (some ⟨L+2,0,none⟩) 8 8),(17,.slice p l.length cap),(18,i64 l.length),(19,i64 (k:Nat))],[]⟩,
  fun k X=>k<=l.length/\(∀ i,i<k->∀ x,l[i]?=some x->insB x locs (l.length-1-i)=true)/\(∃ x aft,ThI X L x locs aft)/\Bw w X,fun k=>l.length-k,0,
  ⟨.cons rfl (.cons rfl (.cons p1 (.cons p2 (.cons rfl (.cons rfl (.cons rfl .nil)))))),rfl⟩,⟨Nat.zero_le _,fun i hi=>by omega,⟨ins0,0,hI0⟩,hbw⟩,?_⟩
 rintro k X ⟨hk,hdone,⟨x0,a0,hI⟩,hbX⟩;dsimp only at hk hdone ⊢;refine biE (fun hc=>?_) fun hc=>?_
 ·have hc:(k:Int)<(l.length:Int):=dT hc;have hkl:k<l.length:=by omega
  obtain⟨b,o,rfl,hbl,hat⟩:=hl.at hkl;refine⟨k,rfl,hkl,?_⟩;have hx:=hat k hkl;refine⟨insE.enc l[k],rfl,zaA hbX hbl hx,nL hbl hbX.size,?_⟩;refine zak (X:=X) (v := .agg (insE.enc l[k]).toArray) k59 rfl rfl rfl fun Y hbY fY sY=>?_;refine⟨insE.enc l[k],rfl,zab fY,hlt fY,?_⟩;refine⟨((l.length-1:Nat):Int),(zaj (by omega)).trans (by omega),?_⟩;refine⟨((l.length-1-k:Nat):Int),(zaj (by omega)).trans (by omega),?_⟩;have hY:=hI.below hbY;refine zbL k59 hY.c (o:=0) (v := .agg (insE.enc l[k]).toArray) rfl (by show 0+10<=12;omega) rfl fun Z fZ gZ sZ=>?_;refine zbL k3 fZ (o:=11) (v:=i64 (l.length-1-k:Nat)) rfl (by show 11+1<=12;omega) rfl fun U fU gU sU=>?_;have hIU:ThI U L l[k] locs (l.length-1-k):=⟨fU,(gU.block _ (by have:=hlt hY.b;omega) (by simp)).trans ((gZ.block _ (hlt hY.b) (by simp)).trans hY.b),(gU.block _ (by have:=hlt hY.s;omega) (by simp)).trans ((gZ.block _ (hlt hY.s) (by simp)).trans hY.s)⟩;have hbU:Bw w U:=by
   have h1:Bw w Y:=zst hbX hbY;have h2:∀ (A B:World),Bw w A->A.grownBy B (some L)->Bw w B:=fun A B ha hg=>ha.trans ⟨hg.os,hg.tape,hg.output,hg.size,fun j hj=>hg.block j (nL hj ha.size) (by simp;omega)⟩;exact h2 _ _ (h2 _ _ h1 gZ) gU
  refine⟨Nat,fun j=>⟨[(0,.slice (some ⟨b,o,none⟩) l.length cap),(1,i64 locs),(5,At0 L),(6,.slice (some ⟨L+2,0,none⟩) 8 8),(17,.slice (some ⟨b,o,none⟩) l.length cap),(18,i64 l.length),(19,i64 (k:Nat)),(32,.slice (some ⟨L+2,0,none⟩) 8 8),(33,i64 8),(34,i64 (j:Nat))],[]⟩,
   fun j X=>j<=8/\(∀ i,i<j->(insC l[k] locs (l.length-1-k))[i]?=some true)/\ThI X L l[k] locs (l.length-1-k)/\Bw w X,fun j=>8-j,0,
   (cvE rfl rfl),⟨Nat.zero_le _,fun i hi=>by omega,hIU,hbU⟩,?_⟩
  clear hIU hbU;rintro j X2 ⟨hj,hpre,hI2,hb2⟩;dsimp only at hj hpre ⊢;have hG2:GlobC X2:=hG.below hb2;have hS:SpV X2 L (L+1) l[k] locs (l.length-1-k):=⟨hI2.c,hI2.b,hG2⟩;refine biE (fun hc2=>?_) fun hc2=>?_
  ·have hc2:(j:Int)<8:=dT hc2;refine⟨j,rfl,(by omega),?_⟩;have ho:0<j->l[k].op.toNat<=8:=fun h0=>by
    have:=Option.some.inj (hpre 0 h0);rw [bAT] at this;exact dT this.2
   have hat2:∀ {v:Value},(zkS L (L+1))[j]?=some v->X2.cell? ⟨L+2,0+j*1,none⟩=some v:=fun hv=>by
    have:=zac (zab hI2.s) (i:=j) (by simpa using hv);rw [Nat.mul_one];exact this
   have hcs:j=0\/j=1\/j=2\/j=3\/j=4\/j=5\/j=6\/j=7:=by omega
   rcases hcs with rfl | rfl | rfl | rfl | rfl | rfl | rfl | rfl
   ·refine⟨_,hat2 rfl,?_⟩;refine cmo (zre hS) ?_;rintro e W ⟨rfl,hbW⟩;have hI3:=hI2.below hbW;refine biE (fun hb=>?_) fun hb=>?_
    ·have hb:(!((insC l[k] locs (l.length-1-k))[0]'(by show 0<8;decide)))=true:=hb;have hb:(insC l[k] locs (l.length-1-k))[0]?=some false:=(by rw [gE (by show 0<8;decide)];exact congrArg some (by rw [<- Bool.not_not ((insC l[k] locs (l.length-1-k))[0]'(by show 0<8;decide)),hb];rfl));exact zfJ hkl hb ((zst hb2 hbW))
    ·have hb:(!((insC l[k] locs (l.length-1-k))[0]'(by show 0<8;decide)))=false:=hb;have hb:(insC l[k] locs (l.length-1-k))[0]?=some true:=(by rw [gE (by show 0<8;decide)];exact congrArg some (by rw [<- Bool.not_not ((insC l[k] locs (l.length-1-k))[0]'(by show 0<8;decide)),hb];rfl));refine⟨_,(zaj (by omega)).trans rfl,?_⟩;refine⟨1,(cvE rfl rfl),⟨by omega,fun i hi=>?_,hI3,(zst hb2 hbW)⟩,by decide⟩;by_cases hik:i=0
     ·rw [hik];exact hb
     ·exact hpre i (by omega)
   ·refine⟨_,hat2 rfl,?_⟩;refine cmo (zrd hS (ho (by omega))) ?_;rintro e W ⟨rfl,hbW⟩;have hI3:=hI2.below hbW;refine biE (fun hb=>?_) fun hb=>?_
    ·have hb:(!((insC l[k] locs (l.length-1-k))[1]'(by show 1<8;decide)))=true:=hb;have hb:(insC l[k] locs (l.length-1-k))[1]?=some false:=(by rw [gE (by show 1<8;decide)];exact congrArg some (by rw [<- Bool.not_not ((insC l[k] locs (l.length-1-k))[1]'(by show 1<8;decide)),hb];rfl));exact zfJ hkl hb ((zst hb2 hbW))
    ·have hb:(!((insC l[k] locs (l.length-1-k))[1]'(by show 1<8;decide)))=false:=hb;have hb:(insC l[k] locs (l.length-1-k))[1]?=some true:=(by rw [gE (by show 1<8;decide)];exact congrArg some (by rw [<- Bool.not_not ((insC l[k] locs (l.length-1-k))[1]'(by show 1<8;decide)),hb];rfl));refine⟨_,(zaj (by omega)).trans rfl,?_⟩;refine⟨2,(cvE rfl rfl),⟨by omega,fun i hi=>?_,hI3,(zst hb2 hbW)⟩,by decide⟩;by_cases hik:i=1
     ·rw [hik];exact hb
     ·exact hpre i (by omega)
   ·refine⟨_,hat2 rfl,?_⟩;refine cmo (zrc hS) ?_;rintro e W ⟨rfl,hbW⟩;have hI3:=hI2.below hbW;refine biE (fun hb=>?_) fun hb=>?_
    ·have hb:(!((insC l[k] locs (l.length-1-k))[2]'(by show 2<8;decide)))=true:=hb;have hb:(insC l[k] locs (l.length-1-k))[2]?=some false:=(by rw [gE (by show 2<8;decide)];exact congrArg some (by rw [<- Bool.not_not ((insC l[k] locs (l.length-1-k))[2]'(by show 2<8;decide)),hb];rfl));exact zfJ hkl hb ((zst hb2 hbW))
    ·have hb:(!((insC l[k] locs (l.length-1-k))[2]'(by show 2<8;decide)))=false:=hb;have hb:(insC l[k] locs (l.length-1-k))[2]?=some true:=(by rw [gE (by show 2<8;decide)];exact congrArg some (by rw [<- Bool.not_not ((insC l[k] locs (l.length-1-k))[2]'(by show 2<8;decide)),hb];rfl));refine⟨_,(zaj (by omega)).trans rfl,?_⟩;refine⟨3,(cvE rfl rfl),⟨by omega,fun i hi=>?_,hI3,(zst hb2 hbW)⟩,by decide⟩;by_cases hik:i=2
     ·rw [hik];exact hb
     ·exact hpre i (by omega)
   ·refine⟨_,hat2 rfl,?_⟩;refine cmo (zrb hS (ho (by omega))) ?_;rintro e W ⟨rfl,hbW⟩;have hI3:=hI2.below hbW;refine biE (fun hb=>?_) fun hb=>?_
    ·have hb:(!((insC l[k] locs (l.length-1-k))[3]'(by show 3<8;decide)))=true:=hb;have hb:(insC l[k] locs (l.length-1-k))[3]?=some false:=(by rw [gE (by show 3<8;decide)];exact congrArg some (by rw [<- Bool.not_not ((insC l[k] locs (l.length-1-k))[3]'(by show 3<8;decide)),hb];rfl));exact zfJ hkl hb ((zst hb2 hbW))
    ·have hb:(!((insC l[k] locs (l.length-1-k))[3]'(by show 3<8;decide)))=false:=hb;have hb:(insC l[k] locs (l.length-1-k))[3]?=some true:=(by rw [gE (by show 3<8;decide)];exact congrArg some (by rw [<- Bool.not_not ((insC l[k] locs (l.length-1-k))[3]'(by show 3<8;decide)),hb];rfl));refine⟨_,(zaj (by omega)).trans rfl,?_⟩;refine⟨4,(cvE rfl rfl),⟨by omega,fun i hi=>?_,hI3,(zst hb2 hbW)⟩,by decide⟩;by_cases hik:i=3
     ·rw [hik];exact hb
     ·exact hpre i (by omega)
   ·refine⟨_,hat2 rfl,?_⟩;refine cmo (zra hS) ?_;rintro e W ⟨rfl,hbW⟩;have hI3:=hI2.below hbW;refine biE (fun hb=>?_) fun hb=>?_
    ·have hb:(!((insC l[k] locs (l.length-1-k))[4]'(by show 4<8;decide)))=true:=hb;have hb:(insC l[k] locs (l.length-1-k))[4]?=some false:=(by rw [gE (by show 4<8;decide)];exact congrArg some (by rw [<- Bool.not_not ((insC l[k] locs (l.length-1-k))[4]'(by show 4<8;decide)),hb];rfl));exact zfJ hkl hb ((zst hb2 hbW))
    ·have hb:(!((insC l[k] locs (l.length-1-k))[4]'(by show 4<8;decide)))=false:=hb;have hb:(insC l[k] locs (l.length-1-k))[4]?=some true:=(by rw [gE (by show 4<8;decide)];exact congrArg some (by rw [<- Bool.not_not ((insC l[k] locs (l.length-1-k))[4]'(by show 4<8;decide)),hb];rfl));refine⟨_,(zaj (by omega)).trans rfl,?_⟩;refine⟨5,(cvE rfl rfl),⟨by omega,fun i hi=>?_,hI3,(zst hb2 hbW)⟩,by decide⟩;by_cases hik:i=4
     ·rw [hik];exact hb
     ·exact hpre i (by omega)
   ·refine⟨_,hat2 rfl,?_⟩;refine cmo (zjG hS.cells) ?_;rintro e _ ⟨rfl,rfl⟩;have hbW:Bw X2 X2:=Below.refl _ _;have hI3:=hI2;refine biE (fun hb=>?_) fun hb=>?_
    ·have hb:(!((insC l[k] locs (l.length-1-k))[5]'(by show 5<8;decide)))=true:=hb;have hb:(insC l[k] locs (l.length-1-k))[5]?=some false:=(by rw [gE (by show 5<8;decide)];exact congrArg some (by rw [<- Bool.not_not ((insC l[k] locs (l.length-1-k))[5]'(by show 5<8;decide)),hb];rfl));exact zfJ hkl hb ((zst hb2 hbW))
    ·have hb:(!((insC l[k] locs (l.length-1-k))[5]'(by show 5<8;decide)))=false:=hb;have hb:(insC l[k] locs (l.length-1-k))[5]?=some true:=(by rw [gE (by show 5<8;decide)];exact congrArg some (by rw [<- Bool.not_not ((insC l[k] locs (l.length-1-k))[5]'(by show 5<8;decide)),hb];rfl));refine⟨_,(zaj (by omega)).trans rfl,?_⟩;refine⟨6,(cvE rfl rfl),⟨by omega,fun i hi=>?_,hI3,(zst hb2 hbW)⟩,by decide⟩;by_cases hik:i=5
     ·rw [hik];exact hb
     ·exact hpre i (by omega)
   ·refine⟨_,hat2 rfl,?_⟩;refine cmo (znm hS.cells) ?_;rintro e _ ⟨rfl,rfl⟩;have hbW:Bw X2 X2:=Below.refl _ _;have hI3:=hI2;refine biE (fun hb=>?_) fun hb=>?_
    ·have hb:(!((insC l[k] locs (l.length-1-k))[6]'(by show 6<8;decide)))=true:=hb;have hb:(insC l[k] locs (l.length-1-k))[6]?=some false:=(by rw [gE (by show 6<8;decide)];exact congrArg some (by rw [<- Bool.not_not ((insC l[k] locs (l.length-1-k))[6]'(by show 6<8;decide)),hb];rfl));exact zfJ hkl hb ((zst hb2 hbW))
    ·have hb:(!((insC l[k] locs (l.length-1-k))[6]'(by show 6<8;decide)))=false:=hb;have hb:(insC l[k] locs (l.length-1-k))[6]?=some true:=(by rw [gE (by show 6<8;decide)];exact congrArg some (by rw [<- Bool.not_not ((insC l[k] locs (l.length-1-k))[6]'(by show 6<8;decide)),hb];rfl));refine⟨_,(zaj (by omega)).trans rfl,?_⟩;refine⟨7,(cvE rfl rfl),⟨by omega,fun i hi=>?_,hI3,(zst hb2 hbW)⟩,by decide⟩;by_cases hik:i=6
     ·rw [hik];exact hb
     ·exact hpre i (by omega)
   ·refine⟨_,hat2 rfl,?_⟩;refine cmo (zq9 hS (ho (by omega))) ?_;rintro e W ⟨rfl,hbW⟩;have hI3:=hI2.below hbW;refine biE (fun hb=>?_) fun hb=>?_
    ·have hb:(!((insC l[k] locs (l.length-1-k))[7]'(by show 7<8;decide)))=true:=hb;have hb:(insC l[k] locs (l.length-1-k))[7]?=some false:=(by rw [gE (by show 7<8;decide)];exact congrArg some (by rw [<- Bool.not_not ((insC l[k] locs (l.length-1-k))[7]'(by show 7<8;decide)),hb];rfl));exact zfJ hkl hb ((zst hb2 hbW))
    ·have hb:(!((insC l[k] locs (l.length-1-k))[7]'(by show 7<8;decide)))=false:=hb;have hb:(insC l[k] locs (l.length-1-k))[7]?=some true:=(by rw [gE (by show 7<8;decide)];exact congrArg some (by rw [<- Bool.not_not ((insC l[k] locs (l.length-1-k))[7]'(by show 7<8;decide)),hb];rfl));refine⟨_,(zaj (by omega)).trans rfl,?_⟩;refine⟨8,(cvE rfl rfl),⟨by omega,fun i hi=>?_,hI3,(zst hb2 hbW)⟩,by decide⟩;by_cases hik:i=7
     ·rw [hik];exact hb
     ·exact hpre i (by omega)
  ·have hc2:¬ (j:Int)<8:=dF hc2;obtain rfl:j=8:=by omega
   have hok:insB l[k] locs (l.length-1-k)=true:=zk6 hpre rfl;refine nxI (by omega) ?_;refine⟨k+1,(cvE rfl rfl),⟨hkl,fun i hi x hlx=>?_,⟨_,_,hI2⟩,hb2⟩,zdc (by omega)⟩;by_cases hik:i=k
   ·subst hik;rw [gE hkl] at hlx;rw [<- Option.some.inj hlx];exact hok
   ·exact hdone i (by omega) x hlx
 ·have hc:¬ (k:Int)<(l.length:Int):=dF hc;obtain rfl:k=l.length:=by omega
  refine⟨rb ?_,hbX⟩;unfold zb0;rw [decide_eq_true (by omega),Bool.true_and,Eq.comm,List.all_eq_true];intro i hi;have hi:i<l.length:=List.mem_range.1 hi;rw [gE hi];exact hdone i hi _ (gE hi)
structure GlobE (w:World):Prop where
 c:GlobC w
 t64:Tz64M w
 t32:Tz32M w
theorem GlobE.below {w w2:World} (h:GlobE w) (hb:Bw w w2):GlobE w2:=⟨h.c.below hb,h.t64.below hb,h.t32.below hb⟩
abbrev PthR:=PathD×(Option Addr×Nat)×(Option Addr×Nat)×(Option Addr×Nat)×(Option Addr×Nat)
def pthE:Enc PthR:=⟨fun x=>pthC x.1 x.2.1.1 x.2.1.2 x.2.2.1.1 x.2.2.1.2 x.2.2.2.1.1 x.2.2.2.1.2 x.2.2.2.2.1 x.2.2.2.2.2,12,fun _=>zks ..,by decide,fun a u hu=>List.all_eq_true.1 (zkr ..) u hu⟩
structure RowIn {α:Type} (E:Enc α) (T:TypeId) (B:Nat) (F:Nat->Prop) (Y:World) (q:Option Addr) (c:Nat) (l:List α):Prop where
 own:OwnS E T B Y q c l
 inF:∀ a,q=some a->F a.block
section
variable {α:Type} {E:Enc α} {T:TypeId} {B:Nat} {F G:Nat->Prop} {Y Z:World} {q:Option Addr} {c:Nat} {l:List α}
theorem zdh (h:OwnS E T B Y q c l) {a:Addr} (ha:q=some a):B<=a.block/\a.block<Y.heap.size/\∃ cur,Y.heap[a.block]?=some (.cells cur T (0,0)):=by
 rcases h.inv with ⟨h1,_⟩ | ⟨g,cur,h1,h2,h3,_⟩
 ·rw [h1] at ha;cases ha
 ·rw [h1] at ha;cases ha;exact⟨h2,hlt h3,cur,h3⟩
theorem RowIn.same (h:RowIn E T B F Y q c l) (hs:∀ k,F k->k<Y.heap.size->Z.heap[k]?=Y.heap[k]?) (hG:∀ k,F k->G k):RowIn E T B G Z q c l :=
 ⟨h.own.same fun a ha=>hs _ (h.inF a ha) (zdh h.own ha).2.1,fun a ha=>hG _ (h.inF a ha)⟩
end
def PthIn (B:Nat) (F:Nat->Prop) (Y:World) (x:PthR):Prop:=RowIn evE 54 B F Y x.2.1.1 x.2.1.2 x.1.ev/\RowIn prE 238 B F Y x.2.2.1.1 x.2.2.1.2 x.1.data/\RowIn prE 238 B F Y x.2.2.2.1.1 x.2.2.2.1.2 x.1.ctrl/\RowIn prE 238 B F Y x.2.2.2.2.1 x.2.2.2.2.2 x.1.rmw
theorem PthIn.same {B:Nat} {F G:Nat->Prop} {Y Z:World} {x:PthR} (h:PthIn B F Y x) (hs:∀ k,F k->k<Y.heap.size->Z.heap[k]?=Y.heap[k]?) (hG:∀ k,F k->G k):PthIn B G Z x :=
 ⟨h.1.same hs hG,h.2.1.same hs hG,h.2.2.1.same hs hG,h.2.2.2.same hs hG⟩
theorem zbl {W A B:World} {r:Option Nat} (h:W.grownBy A r) (hb:Below W.heap.size A B):W.grownBy B r :=
 ⟨hb.os.trans h.os,hb.tape.trans h.tape,hb.output.trans h.output,Nat.le_trans h.size hb.size,fun k hk hne=>(hb.block k hk).trans (h.block k hk hne)⟩
theorem zpZ {q:Option Addr} {cap:Nat} {l:List InsD} {w:World} (hl:SlR insE w q l) (hG:GlobC w) (hn:l.length<=140737488351232) :
  CB 159 #[.slice q l.length cap] w (.bool (zb0 l 6)):=by
 refine cofE 5 [.slice q l.length cap] Tryz.func159 ?_;refine cmo (zla (locs:=6) hl hG hn) ?_;rintro e X ⟨rfl,hb⟩;exact⟨rfl,hb⟩
def JPa (B n0 L:Nat) (W:World) (pre:List RunD) (F:Nat->Prop) (Y:World):Prop :=
 (n0<=Y.heap.size/\F L/\∀ k,F k->k<Y.heap.size)/\(∃ (xs:List PthR) (p:Option Addr) (c:Nat),Y.heap[L]?=some (.cells [.slice p xs.length c].toArray 160 (0,0))/\RowIn pthE 168 B F Y p c xs/\xs.map (·.1)=pre.map zfq/\∀ x∈xs,PthIn n0 F Y x)/\Below B W Y
theorem JPa.iter {B n0 L:Nat} {W:World} (hB:B<=n0) (hn:n0=W.heap.size):JG n0 (fun _=>False) (JPa B n0 L W):=by
 refine⟨?_,?_⟩
 ·rintro pre F A C ⟨⟨h1,h2,h3⟩,⟨xs,p,c,h4,h5,h6,h7⟩,h8⟩ hs;have sf:∀ k,F k->k<A.heap.size->C.heap[k]?=A.heap[k]?:=fun k hk hl=>hs.same k hl (.inr hk);refine⟨⟨Nat.le_trans h1 hs.size,h2,fun k hk=>nL (h3 k hk) hs.size⟩,⟨xs,p,c,(sf L h2 (h3 L h2)).trans h4,h5.same sf fun k h=>h,h6,fun x hx=>(h7 x hx).same sf fun k h=>h⟩,h8.trans ⟨hs.os,hs.tape,hs.output,hs.size,fun k hk=>hs.same k (by omega) (.inl ⟨by omega,fun h=>h⟩)⟩⟩
 ·rintro pre F A k ⟨⟨_,_,h3⟩,_⟩ hk;exact⟨h3 k hk,fun h=>h⟩
def PthO (B:Nat) (Y:World) (x:PthR):Prop:=OwnS evE 54 B Y x.2.1.1 x.2.1.2 x.1.ev/\OwnS prE 238 B Y x.2.2.1.1 x.2.2.1.2 x.1.data/\OwnS prE 238 B Y x.2.2.2.1.1 x.2.2.2.1.2 x.1.ctrl/\OwnS prE 238 B Y x.2.2.2.2.1 x.2.2.2.2.2 x.1.rmw
theorem PthO.mono {B B':Nat} {Y:World} {x:PthR} (h:PthO B Y x) (hB:B'<=B):PthO B' Y x:=⟨OwnS.lower h.1 hB,OwnS.lower h.2.1 hB,OwnS.lower h.2.2.1 hB,OwnS.lower h.2.2.2 hB⟩
section
variable {l:List InsD} {vals:List UInt8} {q p:Option Addr} {cap cd:Nat} {w:World}
theorem zrx (hl:SlR insE w q l) (hp:SlR zaU w p vals) (hv1:1<=vals.length) (hv12:vals.length<=12) (hvs:srt8 vals=true) (hx:∀ x∈l,ExOk x) (hok:zb0 l 6=true) (hG:GlobE w) (hR:∀ R∈zdd l (ded vals),R.many<=24/\RunB R) (hm:(zdd l (ded vals)).length<=4096) (hqb:∀ a,q=some a->a.block<w.heap.size) (hdl:(ded vals).length<=12) :
  Calls Tryz.prog 114 #[.slice q l.length cap,.slice p vals.length cd,i64 4096] w fun e w'=>(∃ (xs:List PthR) (p':Option Addr) (c':Nat),e = .returned (.tuple #[.slice p' xs.length c',i64 0])/\xs.map (·.1)=(zdd l (ded vals)).map zfq/\OwnS pthE 168 w.heap.size w' p' c' xs/\∀ x∈xs,PthO w.heap.size w' x)/\Bw w w':=by
 have h12:l.length<=12:=by
  unfold zb0 at hok;rw [bAT,dE] at hok;exact hok.1
 refine cofM 45 [.slice q l.length cap,.slice p vals.length cd,i64 4096] (.c .p (.s .p (.c .p (.c .p (.c .p (.c .p .p)))))) Tryz.func114 ?_;obtain⟨L,hL⟩:=nm (w.heap.size);refine⟨Unit,fun _=>⟨[(0,.slice q l.length cap),(1,.slice p vals.length cd),(5,AtR L),(6,AtR (L+1)),(7,AtR (L+2))],[]⟩,fun _ X=>X.heap[L]?=some (.cells #[i64 4096] 3 (0,0))/\X.heap[L+1]?=some (.cells #[.slice none 0 0] 160 (0,0))/\X.heap[L+2]?=some (.cells #[i64 0] 47 (0,0))/\X.heap.size=L+3/\Bw w X,?_,?_⟩
 ·have s1:=wz w (.cells #[i64 4096] 3);have h2:=hnew (w.alloc (.cells #[i64 4096] 3)) (.cells #[.slice none 0 0] 160);have s2:=wz (w.alloc (.cells #[i64 4096] 3)) (.cells #[.slice none 0 0] 160);have h3:=hnew ((w.alloc (.cells #[i64 4096] 3)).alloc (.cells #[.slice none 0 0] 160)) (.cells #[i64 0] 47);have s3:=wz ((w.alloc (.cells #[i64 4096] 3)).alloc (.cells #[.slice none 0 0] 160)) (.cells #[i64 0] 47);rw [s1] at h2 s2;rw [s2] at h3 s3;refine⟨(),⟨.cons rfl (.cons rfl (.cons (by rw [hL];rfl) (.cons (by rw [hL,<- s1];rfl) (.cons (by rw [hL,<- s2];rfl) .nil)))),rfl⟩,?_,?_,?_,?_,?_⟩
  ·rw [hL];exact hold _ (hold _ (hnew w _))
  ·rw [hL];exact hold _ h2
  ·rw [hL];exact h3
  ·rw [hL];exact s3
  ·exact (((zba w _)).alloc (by simp) _).alloc (by simp;omega) _
 rintro _ X ⟨f0,f1,f2,sX,hbX⟩;refine⟨_,zac (zab f0) (i:=0) rfl,?_⟩;refine brF ?_;refine⟨_,zac (zab f0) (i:=0) rfl,?_⟩;refine brF ?_;refine cmo (zpZ (hl.below hbX) (hG.c.below hbX) (by omega)) ?_;rintro e Y ⟨rfl,hbY⟩;rw [hok];refine brF ?_;have hwY:=zst hbX hbY;have f0:=zaa hbY f0;have f1:=zaa hbY f1;have f2:=zaa hbY f2;have sY:=hbY.size;obtain⟨D,hD⟩:=nm (ded vals);rw [<- hD] at hR hm hdl ⊢;refine⟨Option Addr×Nat,fun s=>⟨[(0,.slice q l.length cap),(1,.slice s.1 D.length s.2),(5,AtR L),(6,AtR (L+1)),(7,AtR (L+2))],[]⟩,fun s Z=>OwnS zaU 5 (L+3) Z s.1 s.2 D/\Bw Y Z,?_,?_⟩
 ·refine cmo (zfA (hp.below hwY) hv1 hv12 hvs) ?_;rintro e Z ⟨⟨d,cc,rfl,ho⟩,hbZ⟩;rw [<- hD] at ho;exact⟨(d,cc),⟨.cons rfl (.cons (by rw [hD];rfl) (.cons rfl (.cons rfl (.cons rfl .nil)))),rfl⟩,OwnS.lower ho (by omega),hbZ⟩
 rintro⟨d,cc⟩ Z ⟨oD,hbZ⟩;dsimp only at oD ⊢;have hwZ:=zst hwY hbZ;have f0:=zaa hbZ f0;have f1:=zaa hbZ f1;have f2:=zaa hbZ f2;have sZ:=hbZ.size;obtain⟨N,hN⟩:=nm (Z.heap.size);refine⟨Unit,fun _=>⟨[(0,.slice q l.length cap),(1,.slice d D.length cc),(5,AtR L),(6,AtR (L+1)),(7,AtR (L+2)),(8,AtR N)],[]⟩,fun _ V=>V.heap[N]?=some (.cells [i64 0].toArray 3 (0,0))/\V.heap.size=N+1/\Bw Z V,?_,?_⟩
 ·refine zak (X:=Z) (v:=i64 0) k3 rfl rfl rfl fun V hbV fV sV=>?_;exact⟨(),⟨.cons rfl (.cons rfl (.cons rfl (.cons rfl (.cons rfl (.cons (by rw [hN];rfl) .nil))))),rfl⟩,by rw [hN];exact fV,by rw [hN];exact sV,hbV⟩
 rintro _ V ⟨fN,sV,hbV⟩;have hwV:=zst hwZ hbV;have f0:=zaa hbV f0;have f1:=zaa hbV f1;have f2:=zaa hbV f2;have dlt:∀ a,d=some a->a.block<N:=fun a ha=>by rw [hN];exact (zdh oD ha).2.1
 have oD:=oD.below hbV;have hNZ:w.heap.size<=N:=by rw [hN];exact hwZ.size
 have hNL:L+3<=N:=by omega
 obtain⟨xs0,hxs0⟩:=nm (zdd l D);rw [<- hxs0] at hR hm ⊢;refine⟨Nat,fun D1=>⟨[(0,.slice q l.length cap),(1,.slice d D.length cc),(5,AtR L),(6,AtR (L+1)),(7,AtR (L+2)),(8,AtR N)],[{ target := .collected D1,args := #[] }]⟩,fun D1 U=>U.heap[N]?=some (.cells #[i64 xs0.length] 3 (0,0))/\U.heap[D1]?=some (.deferred (some []))/\N<D1/\V.grownBy U (some N),?_,?_⟩
 ·refine cmo zjU ?_;rintro e W ⟨rfl,fi,fd,sW,hbW⟩;have hwW:=zst hwV hbW;have fNW:=zaa hbW fN;have f0W:=zaa hbW f0;have qlt:∀ a,q=some a->a.block<w.heap.size:=hqb;have hI:=znz (q:=q) (p:=d) (hl.below hwW) (oD.below hbW).row fi fd (fun a ha=>by have:=qlt a ha;have:=hwW.size;omega) (fun a ha=>by have:=dlt a ha;omega) h12 hx (by omega);rw [<- hxs0] at hI;refine zfH (sgOk _) rfl (lb := #[AtR V.heap.size,AtR (V.heap.size+1)]) rfl rfl hI (Nat.le_refl _) (fun k hk=>⟨?_,rfl⟩) (fun pre vs W ⟨R,b,_,h,_⟩=>by rw [h];rfl) (by decide)
   (fun k=>k=N) (fun pre F Y=>F=(fun k=>k=N)/\W.heap.size<=Y.heap.size/\Y.heap[N]?=some (.cells [i64 pre.length].toArray 3 (0,0))/\W.grownBy Y (some N)) (fun _ _ _ _=>False) (fun k hk=>?_)
   (joG (F:=fun k=>k=N) (J:=fun (pre:List RunD) Y=>W.heap.size<=Y.heap.size/\Y.heap[N]?=some (.cells [i64 pre.length].toArray 3 (0,0))/\W.grownBy Y (some N)) (fun k h=>by omega) (fun s A h=>h.1) (fun pre A B ⟨h1,h2,h3⟩ hb=>⟨Nat.le_trans h1 hb.size,zci hb (by omega) h2,zbl h3 hb⟩))
   (fun ex=>⟨fun _ _ _ _ h=>h.elim,fun _ _ _ _ h=>h.elim⟩) ⟨rfl,Nat.le_refl _,fNW,zbN _ _⟩ ?_ ?_ ?_
  ·rcases hk with ((rfl | rfl) | ⟨a,ha,rfl⟩ | ⟨a,ha,rfl⟩) | h
   ·omega
   ·omega
   ·have:=qlt a ha;have:=hwW.size;omega
   ·have:=dlt a ha;omega
   ·exact h.elim
  ·rcases hk with (rfl | rfl) | ⟨a,ha,rfl⟩ | ⟨a,ha,rfl⟩
   ·omega
   ·omega
   ·have:=qlt a ha;omega
   ·have:=dlt a ha;omega
  ·rintro yl pre x vs F Y hyl hpre hJ ⟨R',b',_,rfl,_⟩ hfy hlo;refine⟨rfl,F,KeepsG.refl _ _,hJ,?_⟩;rintro o Y2 hY2 ⟨rfl,h1,h2,h3⟩;have hpl:pre.length<xs0.length:=by
    obtain⟨t,ht⟩:=hpre;rw [<- ht];simp only [lap,List.length_cons];omega
   have g0:Y2.heap[L]?=some (.cells #[i64 4096] 3 (0,0)):=(h3.block L (hlt f0W) (by simp;omega)).trans f0W;refine⟨_,zac (zab h2) (i:=0) rfl,?_⟩;refine⟨_,zac (zab g0) (i:=0) rfl,?_⟩;refine brN (decide_eq_false (by omega)) ?_;refine⟨_,zac (zab h2) (i:=0) rfl,?_⟩;refine⟨((pre.length+1:Nat):Int),(zaj (by omega)).trans (by omega),?_⟩;refine zar k3 h2 (o:=0) (v:=i64 (pre.length+1:Nat)) rfl rfl (by show 0<1;decide) rfl fun Z fZ gZ sZ=>?_;refine⟨_,⟨rfl,by omega,?_,zaf h3 gZ⟩,KeepsG.grown (F:=fun k=>k=N) gZ rfl⟩;rw [lap];exact fZ
  ·rintro D1 F Y hD hfD ⟨rfl,h1,h2,h3⟩ hdef;refine⟨D1,(cvE rfl rfl),h2,hdef,by omega,?_⟩;exact zaf (zai hbW) h3
  ·rintro D ex pre F Y hD hfD hpre h;exact h.elim
 clear fN sV;rintro D1 U ⟨fN,fD1,hND,gU⟩;have old:∀ {k:Nat} {o:Obj},k≠N->V.heap[k]?=some o->U.heap[k]?=some o:=fun {k o} hne h=>(gU.block k (hlt h) (by simpa using hne)).trans h;have sU:=gU.size;have hNV:=hbV.size;have f1:=old (by omega) f1;have f2:=old (by omega) f2;have oD:OwnS zaU 5 (L+3) U d cc D:=oD.kept gU fun g hg e=>by
  have:g<N:=dlt _ hg;simp only [Option.some.injEq] at e;omega
 have hwU:Bw w U:=hwV.trans ⟨gU.os,gU.tape,gU.output,gU.size,fun k hk=>gU.block k (by have:=hwV.size;omega) (by simp;omega)⟩;clear f0 old gU hbV hwV;obtain⟨M,hM⟩:=nm (U.heap.size);have hDU:=hlt fD1;refine⟨Option Addr×Nat,fun s=>⟨[(0,.slice q l.length cap),(1,.slice d D.length cc),(6,AtR (L+1)),(7,AtR (L+2)),(9,AtR (M+1))],[{ target := .collected D1,args := #[] }]⟩,fun s Z=>Z.heap[M+1]?=some (.cells [.slice s.1 0 s.2].toArray 160 (0,0))/\OwnS pthE 168 M Z s.1 s.2 []/\(∀ a,s.1=some a->a.block=M)/\Z.heap.size=M+2/\Bw U Z,?_,?_⟩
 ·refine⟨_,zac (zab fN) (i:=0) rfl,?_⟩;refine ze2 (E:=pthE) Tryz.underlying160 k168 rfl rfl rfl xs0.length (by show 104*_<=_;omega) (by unfold maxLen;omega) fun Z oZ hbZ' sZ'=>?_;refine zak (X:=Z) (v := .slice (some ⟨U.heap.size,0,none⟩) 0 xs0.length) k160 rfl rfl rfl fun Z2 hbZ2 fZ2 sZ2=>?_;rw [<- hM] at oZ sZ';rw [sZ'] at fZ2 sZ2;refine⟨(some ⟨M,0,none⟩,xs0.length),⟨.cons rfl (.cons rfl (.cons rfl (.cons rfl (.cons (by rw [<- sZ'];rfl) .nil)))),rfl⟩,by rw [hM] at fZ2 ⊢;exact fZ2,oZ.below hbZ2,fun a ha=>by cases ha;rfl,sZ2,hbZ'.trans (hbZ2.mono hbZ'.size)⟩
 clear fN;rintro⟨p0,c0⟩ V ⟨fV,oV,p0M,sV,hbV⟩;dsimp only at fV oV p0M;have f1:=zaa hbV f1;have f2:=zaa hbV f2;have fD1:=zaa hbV fD1;have oD:=oD.below hbV;have hwV:=zst hwU hbV;have hMU:w.heap.size<=M:=by rw [hM];exact hwU.size
 have dlt2:∀ a,d=some a->a.block<N:=dlt;refine cmo zjU ?_;rintro e W ⟨rfl,fi,fd,sW,hbW⟩;have hwW:=zst hwV hbW;have hVM:Bw V W:=hbW;have hI:=znz (q:=q) (p:=d) (hl.below hwW) (oD.below hbW).row fi fd (fun a ha=>by have:=hqb a ha;have:=hwW.size;omega) (fun a ha=>by have:=dlt a ha;omega) h12 hx (by omega);rw [<- hxs0] at hI;refine zfH (sgOk _) rfl (lb := #[AtR V.heap.size,AtR (V.heap.size+1)]) rfl rfl hI (Nat.le_refl _) (fun k hk=>⟨?_,rfl⟩) (fun pre vs W ⟨R,b,_,h,_⟩=>by rw [h];rfl) (by decide)
  (fun k=>k=M+1\/k=M) (JPa M W.heap.size (M+1) W) (fun _ _ _ _=>False) (fun k hk=>?_)
  (JPa.iter (by omega) rfl) (fun ex=>⟨fun _ _ _ _ h=>h.elim,fun _ _ _ _ h=>h.elim⟩) ⟨⟨Nat.le_refl _,.inl rfl,fun k hk=>by omega⟩,⟨[],p0,c0,zaa hbW fV,⟨oV.below hbW,fun a ha => .inr (p0M a ha)⟩,rfl,fun x hx=>(by cases hx)⟩,Below.refl _ _⟩ ?_ ?_ ?_
 ·rcases hk with ((rfl | rfl) | ⟨a,ha,rfl⟩ | ⟨a,ha,rfl⟩) | h
  ·omega
  ·omega
  ·have:=hqb a ha;have:=hwW.size;omega
  ·have:=dlt a ha;omega
  ·exact h.elim
 ·rcases hk with (rfl | rfl) | ⟨a,ha,rfl⟩ | ⟨a,ha,rfl⟩
  ·omega
  ·omega
  ·have:=hqb a ha;omega
  ·have:=dlt a ha;omega
 ·rintro yl pre x vs F Y hyl hpre hJ ⟨R,b,hlast,rfl,fR⟩ hfy ⟨lo,hlo⟩;have hxR:x=R:=by simpa using hlast
  subst hxR;refine⟨rfl,F,KeepsG.refl _ _,hJ,?_⟩;rintro o Y2 hY2 ⟨⟨h1,h2,h3⟩,⟨xs,p,c,h4,h5,h6,h7⟩,h8⟩;have hbl:b≠yl:=fun e=>by
   rw [e] at fR;rw [fR] at hlo
   cases hlo
  have fR2:RunH Y2 b x:=by rw [hY2];exact (zag hbl).trans fR
  have hmem:x∈xs0:=hpre.subset (by simp);obtain⟨r1,r2⟩:=hR x hmem;have hxl:xs.length=pre.length:=by
   have:=congrArg List.length h6;rw [List.length_map,List.length_map] at this;exact this
  have hpl:pre.length<xs0.length:=by
   obtain⟨t,ht⟩:=hpre;rw [<- ht];simp only [lap,List.length_cons];omega
  have hwY2:Bw w Y2:=hwW.trans (h8.mono hMU);have hd2:Bw Y2 Y2.drew:=(Below.refl _ _).drew;have hwY2d:Bw w Y2.drew:=zst hwY2 hd2;refine DrawE.ord [4,5] [0,1,2,3,4,5] (by kernel_rfl) ?_;refine⟨_,zac (zab (hdr h4)) (i:=0) rfl,?_⟩;refine cmo (zrZ (hdr fR2) r1 r2 (hG.t32.below hwY2d)) ?_;rintro e Y3 ⟨⟨q1,k1,q2,k2,q3,k3,q4,k4,rfl,o1,o2,o3,o4⟩,hb3⟩;refine⟨hb3,?_⟩;obtain⟨nx,hnx⟩:∃ nx:PthR,nx=(zfq x,(q1,k1),(q2,k2),(q3,k3),(q4,k4)):=⟨_,rfl⟩;have hen:pthC (zfq x) q1 k1 q2 k2 q3 k3 q4 k4=pthE.enc nx:=by rw [hnx];rfl
  rw [hen];refine⟨⟨by decide,by decide,rfl⟩,pthE.enc nx,zcV (pthE.len nx) rfl,?_⟩;have hba:Bw Y3 (Y3.alloc (.cells (pthE.enc nx).toArray 168)):=zba _ _;have sa:(Y3.alloc (.cells (pthE.enc nx).toArray 168)).heap.size=Y3.heap.size+1:=wz _ _;have s3:Y2.heap.size<=Y3.heap.size:=hb3.size;refine⟨hba,?_⟩;have hb2:Bw Y2 (Y3.alloc (.cells (pthE.enc nx).toArray 168)):=(hd2.trans hb3).trans (hba.mono s3);refine zbJ (E:=pthE) (T:=168) (B:=M) (l:=xs) (news:=[nx]) (cap:=c) (m:=1) Tryz.underlying160 k168 rfl rfl rfl (h5.own.below hb2) rfl (zbi pthE nx) (by omega) (by omega) (by show (xs.length+1)*104<=_;omega) ?_;intro p2 c2 Y5 o5 g5 hb5 hat;have h4':Y5.heap[M+1]?=some (.cells [.slice p xs.length c].toArray 160 (0,0)):=by
   refine (g5.block (M+1) (hlt (zaa hb2 h4)) fun e=>?_).trans (zaa hb2 h4)
   cases hp:p with
   | none=>rw [hp] at e;simp [Value.ownBlock] at e
   | some a =>
    rw [hp] at e;simp only [Value.ownBlock,Option.some.injEq] at e;obtain⟨_,_,cur,hcur⟩:=zdh h5.own hp;rw [<- e] at hcur;rw [hcur] at h4;simp at h4
  refine zar k160 h4' (o:=0) (v := .slice p2 (xs++[nx]).length c2) rfl rfl (by show 0<1;decide) rfl fun Z fZ gZ sZ=>?_;have s5:=g5.size;have wr:∀ k,k<Y2.heap.size->k≠M+1->(∀ a,p=some a->k≠a.block)->Z.heap[k]?=Y2.heap[k]?:=fun k hk hne hnp=>by
   refine (gZ.block k (by omega) (by simpa using hne)).trans ((g5.block k (by omega) fun e=>?_).trans (hb2.block k hk))
   cases hp:p with
   | none=>rw [hp] at e;simp [Value.ownBlock] at e
   | some a =>
    rw [hp] at e;simp only [Value.ownBlock,Option.some.injEq] at e;exact hnp a hp e
  have new:∀ k,Y2.heap.size<=k->k<Y3.heap.size->Z.heap[k]?=Y3.heap[k]?:=fun k hk1 hk2=>by
   refine (gZ.block k (by omega) (by simp;omega)).trans ((g5.block k (by omega) fun e=>?_).trans (hba.block k hk2))
   cases hp:p with
   | none=>rw [hp] at e;simp [Value.ownBlock] at e
   | some a =>
    rw [hp] at e;simp only [Value.ownBlock,Option.some.injEq] at e;have:=h3 _ (h5.inF a hp);omega
  have tyne:∀ {α:Type} {E:Enc α} {T c:Nat} {r:Option Addr} {B:Nat} {ll:List α},T≠168->T≠160->OwnS E T B Y2 r c ll->∀ a,r=some a->Z.heap[a.block]?=Y2.heap[a.block]?:=fun {α E T c r B ll} t1 t2 ho a ha=>by
   obtain⟨_,hl2,cur,hcur⟩:=zdh ho ha;refine wr _ hl2 (fun e=>?_) (fun a' ha' e=>?_)
   ·rw [e,h4] at hcur;simp at hcur;exact t2 hcur.2.symm
   ·obtain⟨_,_,cur',hcur'⟩:=zdh h5.own ha';rw [e,hcur'] at hcur;simp at hcur;exact t1 hcur.2.symm
  have inNew:∀ {α:Type} {E:Enc α} {T c:Nat} {r:Option Addr} {ll:List α},OwnS E T Y2.drew.heap.size Y3 r c ll->RowIn E T W.heap.size (fun k=>F k\/(Y2.heap.size<=k/\k<Z.heap.size)) Z r c ll:=fun {α E T c r ll} ho=>by
   refine⟨OwnS.lower (ho.same fun a ha=>?_) h1,fun a ha=>?_⟩
   ·have:=zdh ho ha;exact new _ this.1 this.2.1
   ·have h:=zdh ho ha;have ha1:Y2.heap.size<=a.block:=h.1;exact .inr ⟨ha1,by have:=h.2.1;omega⟩
  refine⟨fun k=>F k\/(Y2.heap.size<=k/\k<Z.heap.size),⟨⟨by omega,.inl h2,fun k hk=>?_⟩,⟨xs++[nx],p2,c2,fZ,⟨o5.kept gZ fun g hg e=>?_,fun a ha=>?_⟩,?_,fun y hy=>?_⟩,?_⟩,⟨gZ.os.trans (g5.os.trans hb2.os),gZ.tape.trans (g5.tape.trans hb2.tape),gZ.output.trans (g5.output.trans hb2.output),by omega,fun k hk hf=>wr k hk (fun e=>hf (by rw [e];exact h2)) (fun a ha e=>hf (by rw [e];exact h5.inF a ha)),fun k hk=>hk.imp id fun h=>h.1⟩⟩
  ·rcases hk with hk | hk
   ·have:=h3 k hk;omega
   ·exact hk.2
  ·have:=zdh o5 hg;obtain⟨_,_,cur,hcur⟩:=this;simp only [Option.some.injEq] at e;have hcur:Y5.heap[g]?=_:=hcur;rw [<- e,h4'] at hcur;simp at hcur
  ·rcases hat a ha with h | h
   ·exact .inl (h5.inF a h)
   ·have:=(zdh o5 ha).2.1;exact .inr ⟨by omega,by omega⟩
  ·rw [List.map_append,h6,List.map_append,hnx];rfl
  ·rcases List.mem_append.1 hy with hy | hy
   ·have h:=h7 y hy;have st:∀ {α:Type} {E:Enc α} {T c:Nat} {r:Option Addr} {ll:List α},T≠168->T≠160->RowIn E T W.heap.size F Y2 r c ll->RowIn E T W.heap.size (fun k=>F k\/(Y2.heap.size<=k/\k<Z.heap.size)) Z r c ll:=fun {α E T c r ll} t1 t2 hh=>⟨hh.own.same fun a ha=>tyne t1 t2 hh.own a ha,fun a ha => .inl (hh.inF a ha)⟩;exact⟨st (by decide) (by decide) h.1,st (by decide) (by decide) h.2.1,st (by decide) (by decide) h.2.2.1,st (by decide) (by decide) h.2.2.2⟩
   ·simp only [List.mem_singleton] at hy;subst hy;rw [hnx];exact⟨inNew o1,inNew o2,inNew o3,inNew o4⟩
  ·refine h8.trans ⟨gZ.os.trans (g5.os.trans hb2.os),gZ.tape.trans (g5.tape.trans hb2.tape),gZ.output.trans (g5.output.trans hb2.output),by omega,fun k hk=>wr k (by omega) (by omega) fun a ha=>?_⟩;have:=(zdh h5.own ha).1;omega
 ·rintro D2 F Y hD hfD ⟨⟨h1,h2,h3⟩,⟨xs,p,c,h4,h5,h6,h7⟩,h8⟩ hdef;have g1:Y.heap[L+1]?=some (.cells #[.slice none 0 0] 160 (0,0)):=(h8.block (L+1) (by omega)).trans (zaa hbW f1);have g2:Y.heap[L+2]?=some (.cells #[i64 0] 47 (0,0)):=(h8.block (L+2) (by omega)).trans (zaa hbW f2);have gD:Y.heap[D1]?=some (.deferred (some [])):=(h8.block D1 (by omega)).trans (zaa hbW fD1);refine⟨_,zac (zab h4) (i:=0) rfl,?_⟩;refine zar k160 g1 (o:=0) (v := .slice p xs.length c) rfl rfl (by show 0<1;decide) rfl fun Z1 fZ1 gZ1 sZ1=>?_;have g2':=(gZ1.block (L+2) (hlt g2) (by simp)).trans g2;refine zar k47 g2' (o:=0) (v:=i64 0) rfl rfl (by show 0<1;decide) rfl fun Z2 fZ2 gZ2 sZ2=>?_;have hYs:M<Y.heap.size:=by omega
  have k2:∀ k,k<Y.heap.size->k≠L+1->k≠L+2->Z2.heap[k]?=Y.heap[k]?:=fun k hk n1 n2=>(gZ2.block k (by rw [sZ1];exact hk) (by simpa using n2)).trans (gZ1.block k hk (by simpa using n1));have hdef2:=(k2 D2 (hlt hdef) (by omega) (by omega)).trans hdef;have hD12:=(k2 D1 (hlt gD) (by omega) (by omega)).trans gD;have fZ1':=(gZ2.block (L+1) (hlt fZ1) (by simp)).trans fZ1;have neD:D1≠D2:=by omega
  refine⟨_,rfl,hdef2,?_⟩;refine⟨_,rfl,(zag neD).trans hD12,?_⟩;obtain⟨Zf,hZf⟩:=nm ((Z2.putObj D2 (.deferred none)).putObj D1 (.deferred none));have kf:∀ k,k≠D1->k≠D2->Zf.heap[k]?=Z2.heap[k]?:=fun k n1 n2=>by rw [hZf];exact (zag n1).trans (zag n2)
  refine⟨.slice p xs.length c,?_,i64 0,?_,⟨xs,p,c,rfl,h6,?_,fun x hx=>?_⟩,?_⟩
  ·exact zac (zab (by rw [<- hZf];exact (kf (L+1) (by omega) (by omega)).trans fZ1')) (i:=0) rfl
  ·exact zac (zab (by rw [<- hZf];exact (kf (L+2) (by omega) (by omega)).trans fZ2)) (i:=0) rfl
  ·rw [<- hZf];refine OwnS.lower (h5.own.same fun a ha=>?_) hMU;have h:=zdh h5.own ha;have n1:a.block≠D2:=fun e=>by rw [<- e] at hfD;exact hfD (h5.inF a ha)
   exact (kf _ (by omega) n1).trans (k2 _ h.2.1 (by omega) (by omega))
  ·have h:=h7 x hx;have st:∀ {α:Type} {E:Enc α} {T c:Nat} {r:Option Addr} {ll:List α},RowIn E T W.heap.size F Y r c ll->OwnS E T w.heap.size Zf r c ll:=fun {α E T c r ll} hh=>by
    refine OwnS.lower (hh.own.same fun a ha=>?_) hwW.size;have h:=zdh hh.own ha;have n1:a.block≠D2:=fun e=>by rw [<- e] at hfD;exact hfD (hh.inF a ha)
    exact (kf _ (by omega) n1).trans (k2 _ h.2.1 (by omega) (by omega))
   rw [<- hZf];exact⟨st h.1,st h.2.1,st h.2.2.1,st h.2.2.2⟩
  ·have hwY:Bw w Y:=hwW.trans (h8.mono hMU);have b1:=(hwY.trans (zao gZ1 hwY.size (by omega))).trans (zao gZ2 (by rw [sZ1];exact hwY.size) (by omega));exact zbI (zbI b1 (by omega) _) (by omega) _
 ·rintro D ex pre F Y hD hfD hpre h;exact h.elim
end
structure RelAt (X:World) (b o:Nat) (T:TypeId) (A Z:List Value) (r:RelD):Prop where
 at_:A.length=o
 cells:X.heap[b]?=some (.cells (A++(relC r++Z)).toArray T (0,0))
section
variable {X:World} {b o:Nat} {T:TypeId} {A Z:List Value} {r:RelD}
theorem RelAt.cell (h:RelAt X b o T A Z r) {i:Nat} (hi:i<48):X.cell? ⟨b,o+1+i*1,none⟩=some (s64 (r.to i)):=by
 have:(A++(relC r++Z))[o+1+i*1]?=some (s64 (r.to i)):=by
  rw [Nat.mul_one,Nat.add_assoc,zbm h.at_,List.getElem?_append_left (by rw [zad];omega),zgk r hi]
 have h2:=zac (zab h.cells) this;rw [Nat.zero_add] at h2;exact h2
theorem RelAt.set (h:RelAt X b o T A Z r) {i:Nat} (hi:i<48) (v:Nat):(A++(relC r++Z)).set (o+1+i*1) (s64 v)=A++(relC ⟨r.n,upd r.to i v⟩++Z):=by
 rw [Nat.mul_one,Nat.add_assoc,zb1 h.at_,List.set_append_left _ _ (by rw [zad];omega),zfU r hi]
theorem RelAt.len (h:RelAt X b o T A Z r):(A++(relC r++Z)).length=o+49+Z.length:=by
 rw [lap,lap,zad,h.at_];omega
theorem RelAt.same {Y:World} (h:RelAt X b o T A Z r) (hs:Y.heap[b]?=X.heap[b]?):RelAt Y b o T A Z r:=⟨h.at_,hs.trans h.cells⟩
def zqo (f:Nat) (ps:List (Nat×Nat)):Prop:=∀ p∈ps,f+p.1<48/\f+p.2<48
theorem zfV {f:Nat}:∀ {ps:List (Nat×Nat)} {to:Nat->Nat},WrdR to->zqo f ps->WrdR (putF f ps to)
 | [],_,h,_=>h
 | p::ps,to,h,hp=>by
  have h1:=hp p List.mem_cons_self;exact zfV (ps:=ps) (zhH h (Nat.or_lt_two_pow (h _ h1.1) (zaI (by omega)))) fun q hq=>hp q (List.mem_cons_of_mem _ hq)
theorem zmh {n:Nat} (h:n<256):((UInt8.ofNat n).toNat:Int)=(n:Nat):=by
 have:(UInt8.ofNat n).toNat=n:=by simp;omega
 rw [this]
theorem zqn {w:World} {q:Option Addr} {cap f:Nat} {ps:List (Nat×Nat)} (hr:RelAt w b o T A Z r) (hw:WrdR r.to) (hl:SlR prE w q ps) (hqb:∀ a,q=some a->a.block≠b) (hn:ps.length<=100000) (hp:zqo f ps) :
  Calls Tryz.prog 164 #[.pointer (some ⟨b,o,none⟩),.slice q ps.length cap,i64 f] w fun e w'=>e = .returned (.tuple #[])/\RelAt w' b o T A Z (putR f ps r)/\w.grownBy w' (some b):=by
 refine cofE 35 [.pointer (some ⟨b,o,none⟩),.slice q ps.length cap,i64 f] Tryz.func164 ?_;have hbw:=hlt hr.cells;refine⟨Nat×(Nat->Nat),fun s=>⟨[(0,.pointer (some ⟨b,o,none⟩)),(1,.slice q ps.length cap),(2,i64 f),(8,.slice q ps.length cap),(9,i64 ps.length),(10,i64 (s.1:Nat))],[]⟩,
  fun s X=>s.1<=ps.length/\WrdR s.2/\putF f (ps.drop s.1) s.2=putF f ps r.to/\RelAt X b o T A Z ⟨r.n,s.2⟩/\w.grownBy X (some b),fun s=>ps.length-s.1,(0,r.to),
  (cvE rfl rfl),⟨Nat.zero_le _,hw,rfl,hr,zbN _ _⟩,?_⟩
 rintro⟨k,g⟩ X ⟨hk,hg,he,hX,gX⟩;dsimp only at hk hg he hX ⊢;have hXs:=gX.size;refine biE (fun hc=>?_) fun hc=>?_
 ·have hc:(k:Int)<(ps.length:Int):=dT hc;have hkl:k<ps.length:=by omega
  obtain⟨pr,hpr⟩:∃ pr,ps[k]=pr:=⟨_,rfl⟩;obtain⟨p1,p2⟩:=hp pr (by rw [<- hpr];exact gM hkl);rw [<- List.getElem_cons_drop hkl,hpr] at he;have he:putF f (ps.drop (k+1)) (upd g (f+pr.1) (g (f+pr.1)|||2^(f+pr.2)))=putF f ps r.to:=he;obtain⟨bp,op,rfl,hlp,hat⟩:=hl.at hkl;have hbp:bp≠b:=hqb _ rfl;have hatX:zax X ⟨bp,op+k*2,none⟩ (prE.enc ps[k]):=zbo (gX.block bp hlp (by simpa using hbp)) (hat k hkl);refine⟨k,rfl,hkl,?_⟩;refine⟨prE.enc pr,rfl,by rw [<- hpr];exact hatX,nL hlp hXs,?_⟩;refine zak (X:=X) (v := .agg (prE.enc pr).toArray) k238 rfl rfl rfl fun Y hbY fY sY=>?_;refine DrawE.ord [20] [0,1,2,3,4,5,6,7,8,9,10,11,12,13,14,15,16,17,18,19,20] (by kernel_rfl) ?_;have fY1:Y.heap[X.heap.size]?=some (.cells (prE.enc pr).toArray 238 (0,0)):=fY;have hrY:=hX.same (hbY.block b (nL hbw hXs));refine⟨0,rfl,by decide,?_⟩;refine⟨u8 (UInt8.ofNat pr.1),zac (zab (hdr fY1)) (i:=0*1) rfl,?_⟩;refine⟨((pr.1:Nat):Int),by rw [zmh (by omega)];exact zaj (by omega),?_⟩;refine⟨((f+pr.1:Nat):Int),(zaj (by omega)).trans (by omega),?_⟩;refine⟨f+pr.1,rfl,by omega,?_⟩;refine⟨s64 (g (f+pr.1)),(hrY.same (Y:=Y.drew) rfl).cell p1,?_⟩;refine⟨1,rfl,by decide,?_⟩;refine⟨u8 (UInt8.ofNat pr.2),zac (zab (hdr fY1)) (i:=1*1) rfl,?_⟩;refine⟨((pr.2:Nat):Int),by rw [zmh (by omega)];exact zaj (by omega),?_⟩;refine⟨((f+pr.2:Nat):Int),(zaj (by omega)).trans (by omega),?_⟩;refine⟨by omega,_,zbE (e:=f+pr.2) (by omega),?_⟩;refine⟨_,zcH (hg _ p1) (zaI (by omega)),?_⟩;refine⟨f+pr.1,rfl,by omega,?_⟩;refine zar k24 (hrY.same (Y:=Y.drew) rfl).cells (o:=o+1+(f+pr.1)*1) (v:=s64 (g (f+pr.1)|||2^(f+pr.2))) rfl rfl (by rw [hrY.len];omega) rfl fun S fS gS sS=>?_;rw [hrY.set p1] at fS;refine nxI (by omega) ?_;exact⟨(k+1,_),(cvE rfl rfl),⟨hkl,zhH hg (Nat.or_lt_two_pow (hg _ p1) (zaI (by omega))),he,⟨hr.at_,fS⟩,zaf gX (zaf (zai hbY) (zaf (zai (Below.refl _ Y).drew) gS))⟩,zdc (by omega)⟩
 ·have hc:¬ (k:Int)<(ps.length:Int):=dF hc;obtain rfl:k=ps.length:=by omega
  rw [List.drop_length] at he;have he:g=putF f ps r.to:=he;subst he;exact⟨rfl,hX,gX⟩
end
def StBk (pre:List Nat) (vs:List Value) (W:World):Prop:=∃ (a i:Nat),pre.getLast?=some a/\vs=[i64 i,i64 a]
theorem zsI {bx:Nat} {l:List Nat} {q:Option Addr} {c:Nat} {W0:World} (fx:W0.heap[bx]?=some (.cells #[.slice q l.length c] 108 (0,0))) (hl:SlR natE W0 q l) (hql:∀ a,q=some a->a.block<W0.heap.size) (hn:l.length<=100000) :
  zlX Tryz.prog 170 [At0 bx] l.reverse W0 (fun k=>k=bx\/∃ a,q=some a/\k=a.block) (fun _=>False) StBk:=by
 intro yl F0 J Jx W hsz hrd hrf hJ hJx hy h0;have fxW:=(hrd bx (.inl (.inl rfl))).trans fx;have hlW:SlR natE W q l:=zbk hl fun a ha=>hrd _ (.inl (.inr ⟨a,ha,rfl⟩));have hbxW:=hlt fxW;refine cofE 19 [.func (.yield yl) #[] #[],At0 bx] Tryz.func170 ?_;refine⟨_,zac (zab fxW) (i:=0) rfl,?_⟩;refine⟨((l.length:Nat):Int)-1,zaj (by omega),?_⟩;refine⟨Nat×(Nat->Prop),fun s=>⟨[(0,.func (.yield yl) #[] #[]),(1,At0 bx),(3,i64 (((l.length:Nat):Int)-1-(s.1:Nat)))],[]⟩,
  fun s V=>s.1<=l.length/\J (l.reverse.take s.1) s.2 V/\W.heap.size<=V.heap.size/\V.heap[bx]?=some (.cells #[.slice q l.length c] 108 (0,0))/\¬ s.2 bx/\RowF natE W.heap.size s.2 V q l,fun s=>l.length-s.1,(0,F0),
  ⟨.cons rfl (.cons rfl (.cons (by show _=some (i64 (((l.length:Nat):Int)-1-((0:Nat):Int)));rw [Int.ofNat_zero,Int.sub_zero];rfl) .nil)),rfl⟩,⟨Nat.zero_le _,h0,Nat.le_refl _,fxW,hrf _ (.inl rfl),⟨hlW,fun a ha=>⟨by have:=hql a ha;omega,hrf _ (.inr ⟨a,ha,rfl⟩)⟩⟩⟩,?_⟩
 rintro⟨t,F⟩ V ⟨ht,hjV,hWV,fxV,hbF,hqV⟩;dsimp only at ht hjV hbF hqV ⊢;refine biE (fun hi=>?_) fun hi=>?_
 ·have hi:(0:Int)<=((l.length:Nat):Int)-1-(t:Nat):=dT hi;obtain⟨i,hit⟩:∃ i,i+t+1=l.length:=⟨l.length-1-t,by omega⟩;have hii:((l.length:Nat):Int)-1-(t:Nat)=(i:Nat):=by omega
  rw [hii];have hil:i<l.length:=by omega
  have hrt:l.reverse[t]?=some l[i]:=by
   rw [List.getElem?_reverse (by omega),show l.length-1-t=i by omega,gE hil]
  have htl:t<l.reverse.length:=by rw [List.length_reverse];omega
  have hre:l.reverse[t]=l[i]:=by rw [gE htl] at hrt;exact Option.some.inj hrt
  have htk:l.reverse.take (t+1)=l.reverse.take t++[l[i]]:=by rw [tsg htl,hre]
  refine⟨_,zac (zab fxV) (i:=0) rfl,?_⟩;obtain⟨bq,oq,hqe,hlq,hatq⟩:=hqV.row.at hil;subst hqe;refine⟨i,rfl,hil,?_⟩;refine⟨i64 l[i],zac (hatq i hil) (i:=0) rfl,?_⟩;refine YieldR.mono (hy _ l[i] [i64 (i:Nat),i64 l[i]] F V hjV ⟨l[i],i,by simp,rfl⟩ (by rw [<- htk];exact List.take_prefix _ _)) ?_;rintro v Y (⟨rfl,F',hjY,kY⟩ | ⟨rfl,F',hjY⟩)
  ·refine brF ?_;have hbF':¬ F' bx:=fun h=>by
    rcases kY.fp bx h with h | h
    ·exact hbF h
    ·have:=hlt fxV;omega
   refine⟨((l.length:Nat):Int)-1-((t+1:Nat):Int),(zaj (by omega)).trans (by omega),?_⟩;exact⟨(t+1,F'),(cvE rfl rfl),⟨by omega,by rw [htk];exact hjY,Nat.le_trans hWV kY.size,(kY.same bx (hlt fxV) hbF).trans fxV,hbF',hqV.keep hWV kY (fun _ _ h=>h)⟩,zdc (by omega)⟩
  ·refine brT ?_;exact⟨⟨_,rfl⟩,.inr ⟨_,F',by rw [<- htk];exact List.take_prefix _ _,hjY⟩⟩
 ·have hi:¬ (0:Int)<=((l.length:Nat):Int)-1-(t:Nat):=dF hi;have hte:t=l.length:=by omega
  subst hte;rw [List.take_of_length_le (by rw [List.length_reverse];exact Nat.le_refl _)] at hjV;exact⟨⟨_,rfl⟩,.inl ⟨F,hjV⟩⟩
theorem zrq {q:Option Addr} {n c:Nat} {w:World}:Calls Tryz.prog 123 #[.slice q n c] w fun e w'=>e = .returned (.func (.func 170) #[] #[At0 w.heap.size])/\w'.heap[w.heap.size]?=some (.cells #[.slice q n c] 108 (0,0))/\w'.heap.size=w.heap.size+1/\Bw w w':=by
 refine cofE 4 [.slice q n c] Tryz.func123 ?_;exact⟨rfl,hnew w _,wz _ _,(zba w _)⟩
theorem zpy {q:Option Addr} {n c:Nat} {w:World}:Calls Tryz.prog 115 #[.slice q n c] w fun e w'=>e = .returned (.func (.func 161) #[] #[At0 w.heap.size])/\w'.heap[w.heap.size]?=some (.cells #[.slice q n c] 108 (0,0))/\w'.heap.size=w.heap.size+1/\Bw w w':=by
 refine cofE 4 [.slice q n c] Tryz.func115 ?_;exact⟨rfl,hnew w _,wz _ _,(zba w _)⟩
def linS (p:(Nat->Nat)×Nat) (a:Nat):(Nat->Nat)×Nat:=(upd p.1 a p.2,p.2|||2^a)
theorem zfs:∀ (l:List Nat) (f:Nat->Nat) (b:Nat),zjK l f b=(l.foldl linS (f,b)).1
 | [],_,_=>rfl
 | a::l,f,b=>zfs l (upd f a b) (b|||2^a)
theorem zjL:∀ {l:List Nat} {f:Nat->Nat} {b:Nat},WrdR f->b<2^64->(∀ a∈l,a<48)->WrdR (l.foldl linS (f,b)).1/\(l.foldl linS (f,b)).2<2^64
 | [],_,_,h,hb,_=>⟨h,hb⟩
 | a::l,f,b,h,hb,hl=>zjL (l:=l) (zhH h hb) (Nat.or_lt_two_pow hb (zaI (by have:=hl a List.mem_cons_self;omega))) fun x hx=>hl x (List.mem_cons_of_mem _ hx)
theorem ziW {l:List Nat} {r:RelD} (h:WrdR r.to) (hl:∀ a∈l,a<48):WrdR (zdo l r).to:=by
 show WrdR (zjK l.reverse r.to 0);rw [zfs];exact (zjL h (by decide) fun a ha=>hl a (by simpa using ha)).1
section
variable {b o:Nat} {T:TypeId} {A Z:List Value} {r:RelD} {w:World} {q:Option Addr} {c:Nat} {l:List Nat}
theorem zpD (hr:RelAt w b o T A Z r) (hw:WrdR r.to) (hl:SlR natE w q l) (hql:∀ a,q=some a->a.block<w.heap.size/\a.block≠b) (hn:l.length<=100000) (h48:∀ a∈l,a<48) :
  Calls Tryz.prog 92 #[.pointer (some ⟨b,o,none⟩),.slice q l.length c] w fun e w'=>e = .returned (.tuple #[])/\RelAt w' b o T A Z (zdo l r)/\w.grownBy w' (some b):=by
 refine cofM 21 [.pointer (some ⟨b,o,none⟩),.slice q l.length c] (.s .p (.c .p .p)) Tryz.func92 ?_;obtain⟨L,hL⟩:=nm (w.heap.size);refine⟨Unit,fun _=>⟨[(1,.slice q l.length c),(2,At0 L),(4,At0 (L+1))],[]⟩,fun _ X=>X.heap[L]?=some (.cells #[.pointer (some ⟨b,o,none⟩)] 75 (0,0))/\X.heap[L+1]?=some (.cells #[s64 0] 24 (0,0))/\X.heap.size=L+2/\Bw w X,?_,?_⟩
 ·have s1:=wz w (.cells #[.pointer (some ⟨b,o,none⟩)] 75 (0,0));have h2:=hnew (w.alloc (.cells #[.pointer (some ⟨b,o,none⟩)] 75 (0,0))) (.cells #[s64 0] 24 (0,0));have s2:=wz (w.alloc (.cells #[.pointer (some ⟨b,o,none⟩)] 75 (0,0))) (.cells #[s64 0] 24 (0,0));rw [s1] at h2 s2;exact⟨(),⟨.cons rfl (.cons (by rw [hL];rfl) (.cons (by rw [hL,<- s1];rfl) .nil)),rfl⟩,by rw [hL];exact hold _ (hnew w _),by rw [hL];exact h2,by rw [hL];exact s2,((zba w _)).alloc (by simp) _⟩
 rintro _ X ⟨f0,f1,sX,hbX⟩;have hbw:=hlt hr.cells;refine cmo zrq ?_;rintro e W ⟨rfl,fx,sW,hbW⟩;have hwW:=zst hbX hbW;have hI:=zsI fx (hl.below hwW) (fun a ha=>by have:=(hql a ha).1;omega) hn;have f0:=zaa hbW f0;have f1:=zaa hbW f1;refine zfH (sgOk _) rfl (lb := #[At0 X.heap.size]) rfl rfl hI (Nat.le_refl _) (fun k hk=>⟨?_,rfl⟩) (fun pre vs W ⟨a,i,_,h⟩=>by rw [h];rfl) (by decide)
  (fun k=>k=b\/k=L+1) (fun pre F Y=>F=(fun k=>k=b\/k=L+1)/\W.heap.size<=Y.heap.size/\RelAt Y b o T A Z ⟨r.n,(pre.foldl linS (r.to,0)).1⟩/\Y.heap[L+1]?=some (.cells [s64 (pre.foldl linS (r.to,0)).2].toArray 24 (0,0))/\Y.heap[L]?=some (.cells #[.pointer (some ⟨b,o,none⟩)] 75 (0,0))/\w.grownBy Y (some b)) (fun _ _ _ _=>False) (fun k hk=>?_)
  (joG (F:=fun k=>k=b\/k=L+1) (J:=fun (pre:List Nat) Y=>W.heap.size<=Y.heap.size/\RelAt Y b o T A Z ⟨r.n,(pre.foldl linS (r.to,0)).1⟩/\Y.heap[L+1]?=some (.cells [s64 (pre.foldl linS (r.to,0)).2].toArray 24 (0,0))/\Y.heap[L]?=some (.cells #[.pointer (some ⟨b,o,none⟩)] 75 (0,0))/\w.grownBy Y (some b))
   (fun k h=>by omega) (fun s A h=>h.1) (fun pre A B ⟨h1,h2,h3,h4,h5⟩ hb=>⟨Nat.le_trans h1 hb.size,h2.same (hb.block _ (by omega)),zci hb (by omega) h3,zci hb (by omega) h4,zbl h5 (hb.mono hwW.size)⟩))
  (fun ex=>⟨fun _ _ _ _ h=>h.elim,fun _ _ _ _ h=>h.elim⟩) ⟨rfl,Nat.le_refl _,hr.same (hwW.block _ hbw),f1,f0,zai hwW⟩ ?_ ?_ ?_
 ·rcases hk with (rfl | ⟨a,ha,rfl⟩) | h
  ·omega
  ·have:=(hql a ha).1;have:=hwW.size;omega
  ·exact h.elim
 ·rcases hk with rfl | ⟨a,ha,rfl⟩
  ·omega
  ·have:=hql a ha;omega
 ·rintro yl pre x vs F Y hyl hpre hJ ⟨a,i,hlast,rfl⟩ hfy hlo;have hxa:x=a:=by simpa using hlast
  subst hxa;refine⟨rfl,F,KeepsG.refl _ _,hJ,?_⟩;rintro O Y2 hY2 ⟨rfl,h1,h2,h3,h4,h5⟩;obtain⟨g1,g2⟩:=zjL (l:=pre) (f:=r.to) (b:=0) hw (by decide) (fun a ha=>h48 a (by have:=hpre.subset (List.mem_append_left _ ha);simpa using this));have hx48:x<48:=h48 x (by have:=hpre.subset (List.mem_append_right _ (List.mem_singleton.2 rfl));simpa using this);have hfold:(pre++[x]).foldl linS (r.to,0)=linS (pre.foldl linS (r.to,0)) x:=by rw [List.foldl_append];rfl
  obtain⟨P,hP⟩:=nm (pre.foldl linS (r.to,0));rw [<- hP] at h2 h3 g1 g2 hfold;refine DrawE.ord [6] [0,1,2,3,4,5,6] (by kernel_rfl) ?_;refine⟨_,zac (zab (hdr h4)) (i:=0) rfl,?_⟩;refine⟨_,zac (zab (hdr h3)) (i:=0) rfl,?_⟩;refine⟨x,rfl,hx48,?_⟩;refine zar k24 (h2.same (Y:=Y2.drew) rfl).cells (o:=o+1+x*1) (v:=s64 P.2) rfl rfl (by rw [h2.len];omega) rfl fun S fS gS sS=>?_;rw [h2.set hx48] at fS;have gS2:Y2.grownBy S (some b):=zaf (zai (Below.refl _ Y2).drew) gS;have h3S:=(gS2.block (L+1) (hlt h3) (by simp;omega)).trans h3;refine DrawE.ord [4] [0,1,2,3,4] (by kernel_rfl) ?_;refine⟨_,zac (zab (hdr h3S)) (i:=0) rfl,?_⟩;refine⟨by omega,_,zbE (e:=x) (by omega),?_⟩;refine⟨_,zcH g2 (zaI (by omega)),?_⟩;refine zar k24 (hdr h3S) (o:=0) (v:=s64 (P.2|||2^x)) rfl rfl (by show 0<1;decide) rfl fun V fV gV sV=>?_;have gV2:S.grownBy V (some (L+1)):=zaf (zai (Below.refl _ S).drew) gV;have hLw:L=w.heap.size:=hL;refine⟨fun k=>k=b\/k=L+1,⟨rfl,?_,⟨hr.at_,?_⟩,by rw [hfold];exact fV,?_,?_⟩,(KeepsG.grown gS2 (.inl rfl)).trans (KeepsG.grown gV2 (.inr rfl))⟩
  ·have:=gS2.size;have:=gV2.size;omega
  ·rw [hfold];exact (gV2.block b (hlt fS) (by simp;omega)).trans fS
  ·exact (gV2.block L (nL (hlt h4) gS2.size) (by simp)).trans ((gS2.block L (hlt h4) (by simp;omega)).trans h4)
  ·exact⟨gV2.os.trans (gS2.os.trans h5.os),gV2.tape.trans (gS2.tape.trans h5.tape),gV2.output.trans (gS2.output.trans h5.output),by have:=gS2.size;have:=gV2.size;have:=h5.size;omega,fun k hk hne=>(gV2.block k (by have:=gS2.size;have:=h5.size;omega) (by simp;omega)).trans ((gS2.block k (by have:=h5.size;omega) hne).trans (h5.block k hk hne))⟩
 ·rintro D F Y hD hfD ⟨rfl,h1,h2,h3,h4,h5⟩ hdef;refine⟨_,rfl,hdef,?_⟩;have hDb:b≠D:=by have:=hwW.size;omega
  refine⟨rfl,⟨hr.at_,?_⟩,?_⟩
  ·rw [show zdo l r=⟨r.n,(l.reverse.foldl linS (r.to,0)).1⟩ by unfold zdo;rw [zfs]];exact (zag hDb).trans h2.cells
  ·exact⟨h5.os,h5.tape,h5.output,by have:=h5.size;simpa [World.putObj] using this,fun k hk hne=>(zag (by have:=hwW.size;omega)).trans (h5.block k hk hne)⟩
 ·rintro D ex pre F Y hD hfD hpre h;exact h.elim
end
theorem zjz {P:Program} {iT:TI} {T B g cap i v:Nat} {l:List Nat} {w:World} (hT:TIok P T iT) (hs:iT.size=1) (h:OwnS natE T B w (some ⟨g,0,none⟩) cap l) (hi:i<l.length) {K:World->Prop}
  (k:∀ w',OwnS natE T B w' (some ⟨g,0,none⟩) cap (l.set i v)->w.grownBy w' (some g)->K w'):SatR ((storeVar T ⟨g,0+i*1,none⟩ (i64 v)).run P w) fun _ w'=>K w':=by
 rcases h.inv with ⟨h,_⟩ | ⟨g',cur,hg,hB,hc,hl,hm,hs2,ht⟩
 ·cases h
 ·simp only [Option.some.injEq,Addr.mk.injEq,and_true] at hg;subst hg;have e:cur=cur.toList.toArray:=rfl;have hsz:cur.toList.length=cap:=by
   have:cur.toList.length=cur.size:=rfl;rw [this,hs2];exact Nat.mul_one _
  refine zar hT (cs:=cur.toList) (by rw [<- e];exact hc) (o:=0+i*1) (v:=i64 v) rfl hs (by omega) rfl fun w' fw gw sw=>k w' ?_ gw;unfold OwnS World.ownsRow;have ht:cur.toList.take (l.length*1)=l.flatMap natE.enc:=ht;refine⟨by rw [zbg],.inr ⟨g,cap,_,rfl,hB,fw,by rw [List.length_set];exact hl,hm,?_,?_⟩⟩
  ·show (cur.toList.set (0+i*1) (i64 v)).length=_;rw [List.length_set];exact hs2
  ·show (cur.toList.set (0+i*1) (i64 v)).take ((l.set i v).length*1)=_;rw [Nat.mul_one,Nat.zero_add,Nat.mul_one,List.length_set,List.take_set,<- Nat.mul_one l.length,ht,zfY,zfY];unfold rowI;rw [List.map_set]
theorem zqQ {before:Nat->Nat}:∀ (m left:Nat) (l:List Nat),∀ x∈extR before m left l,∀ a∈x,a∈l\/a∈els left:=by
 intro m
 induction m with
 | zero =>
  intro left l x hx a ha;unfold extR at hx
  split at hx
  ·rw [List.mem_singleton.1 hx] at ha;exact .inl ha
  ·cases hx
 | succ m ih =>
  intro left l x hx a ha;unfold extR at hx
  split at hx
  ·rw [List.mem_singleton.1 hx] at ha;exact .inl ha
  ·obtain⟨b,hb,hx⟩:=List.mem_flatMap.1 hx
   split at hx
   ·rcases ih _ _ x hx a ha with h | h
    ·rcases List.mem_append.1 h with h | h
     ·exact .inl h
     ·rw [List.mem_singleton.1 h];exact .inr hb
    ·refine .inr ?_;unfold els at h ⊢;rw [List.mem_filter] at h ⊢;refine⟨h.1,?_⟩;have h2:=h.2;unfold zcK at h2;rw [Nat.testBit_and,bAT] at h2;exact h2.1
   ·cases hx
theorem zqt {r:RelD} {n:Nat} (hr:r.n=n) (hn:n<=64) {x:List Nat} (h:x∈ordR r) {a:Nat} (ha:a∈x):a<n:=by
 unfold ordR at h
 split at h
 ·rcases zqQ _ _ _ x h a ha with h | h
  ·cases h
  ·rw [zfF,hr,zjV hn] at h;exact List.mem_range.1 h
 ·cases h
abbrev crs (n:Nat):RelD:=zja n 1 (zcK (allM n) 1)
theorem zsC:∀ n,n<=48->okR (crs n)=true:=by
 intro n hn;have h:(List.range 49).all (fun n=>okR (crs n))=true:=by kernel_rfl
 rw [List.all_eq_true] at h;exact h n (List.mem_range.2 (by omega))
theorem zrs (n:Int):allM n<2^64:=zc9 n
theorem zq6 (n:Nat):WrdR (crs n).to:=fun i _=>by
 show (if i<n then (if Nat.testBit 1 i then zcK (allM n) 1&&&allM n else 0) else 0)<2^64
 split
 ·split
  ·exact Nat.lt_of_le_of_lt Nat.and_le_right (zrs n)
  ·decide
 ·decide
def rowG (ws:List Nat) (o:List Nat):List Nat:=o.map fun k=>ws.getD k 0
theorem zqj {ws o:List Nat} {i:Nat} (hi:i<o.length) (h:i<(rowG ws (o.take i)++o.drop i).length):(rowG ws (o.take i)++o.drop i)[i]=o[i]:=by
 have hl:(rowG ws (o.take i)).length=i:=by unfold rowG;rw [List.length_map,List.length_take,Nat.min_eq_left (by omega)]
 have h2:(rowG ws (o.take i)++o.drop i)[i]?=o[i]?:=by
  rw [List.getElem?_append_right (by omega),hl,Nat.sub_self,List.getElem?_drop,Nat.add_zero]
 rw [gE h,gE hi] at h2;exact Option.some.inj h2
theorem zoA {ws o:List Nat} {i:Nat} (hi:i<o.length) (ho:o[i]<ws.length):(rowG ws (o.take i)++o.drop i).set i ws[o[i]]=rowG ws (o.take (i+1))++o.drop (i+1):=by
 have hl:(rowG ws (o.take i)).length=i:=by unfold rowG;rw [List.length_map,List.length_take,Nat.min_eq_left (by omega)]
 rw [List.set_append_right _ _ (by omega),hl,Nat.sub_self,<- List.getElem_cons_drop hi,List.set_cons_zero,tsg hi];unfold rowG;rw [List.map_append,List.append_assoc,List.map_cons,List.map_nil,gDe,gE ho];rfl
section
variable {q:Option Addr} {c:Nat} {ws:List Nat} {w:World}
theorem zoH (hl:SlR natE w q ws) (hn:ws.length<=48) (hT:Tz64M w) :
  Calls Tryz.prog 118 #[.slice q ws.length c] w fun e w'=>(∃ (xs:List (List Nat×Option Addr×Nat)) (p:Option Addr) (c':Nat),e = .returned (.slice p xs.length c')/\xs.map (·.1)=zdn ws/\OwnS zbS 108 w.heap.size w' p c' xs/\∀ x∈xs,OwnS natE 3 w.heap.size w' x.2.1 x.2.2 x.1)/\Bw w w':=by
 refine cofM 44 [.slice q ws.length c] (.s .p (.s .p (.c .p .p))) Tryz.func118 ?_;obtain⟨B,hB⟩:=nm (w.heap.size);refine⟨List (List Nat×Option Addr×Nat)×Option Addr×Nat,fun s=>⟨[(0,.slice q ws.length c),(4,.slice s.2.1 s.1.length s.2.2)],[]⟩,fun s X=>(zdn ws=(s.1.map (·.1)).map (rowG ws)/\AscB s.1/\s.1.length<=10000/\∀ x∈s.1,x.1.length<=64/\∀ a∈x.1,a<ws.length)/\OwnS zbS 108 B X s.2.1 s.2.2 s.1/\(∀ x∈s.1,OwnS natE 3 B X x.2.1 x.2.2 x.1)/\Bw w X,?_,?_⟩
 ·refine cmo zl3 ?_;rintro e _ ⟨rfl,rfl⟩;refine⟨_,zed (zc9 _) (by decide:1<2^64),?_⟩;refine cmo (zrH (n:=ws.length) (a:=1) (b:=zb6 (allN ws.length) 1) hn (by decide) (zfZ (zc9 _))) ?_;rintro e X ⟨rfl,hbX⟩;refine cmo (zpl (r:=crs ws.length) (m:=10000) (zq6 _) (hT.below hbX) (Nat.le_refl _) (zsC _ hn)) ?_;rintro e Y ⟨⟨hm,xs,p,c',rfl,hxs,hasc,ho,hx⟩ | ⟨hm,rfl⟩,hbY⟩
  ·refine⟨(xs,p,c'),(cvE rfl rfl),⟨?_,hasc,?_,fun x hx=>?_⟩,ho.lower (by rw [hB];exact hbX.size),fun x h=>(hx x h).lower (by rw [hB];exact hbX.size),(zst hbX hbY)⟩
   ·show zdn ws=(xs.map (·.1)).map (rowG ws);rw [hxs];unfold zdn;exact if_pos hm
   ·show xs.length<=10000;rw [<- hxs,List.length_map] at hm;exact hm
   ·have hmem:x.1∈ordR (crs ws.length):=(by rw [<- hxs];exact List.mem_map.2 ⟨x,hx,rfl⟩);exact⟨zmW hmem,fun a ha=>zqt rfl (by omega) hmem ha⟩
  ·refine⟨([],none,0),(cvE rfl rfl),⟨?_,List.Pairwise.nil,Nat.zero_le _,fun x hx=>(by cases hx)⟩,OwnS.nil,fun x hx=>(by cases hx),(zst hbX hbY)⟩;show zdn ws=[];unfold zdn;exact if_neg (by show ¬ (ordR (crs ws.length)).length<=10000;omega)
 rintro⟨xs,p,c'⟩ X ⟨⟨hrk,hasc,hxl,hxx⟩,ho,hx,hbX⟩;dsimp only at hrk hasc hxl hxx ho hx ⊢;have hbs:=hbX.size;refine⟨Nat,fun k=>⟨[(0,.slice q ws.length c),(4,.slice p xs.length c'),(21,.slice p xs.length c'),(22,i64 xs.length),(23,i64 (k:Nat))],[]⟩,
  fun k Z=>k<=xs.length/\OwnS zbS 108 B Z p c' xs/\(∀ x∈xs.take k,OwnS natE 3 B Z x.2.1 x.2.2 (rowG ws x.1))/\(∀ x∈xs.drop k,OwnS natE 3 B Z x.2.1 x.2.2 x.1)/\Bw w Z,fun k=>xs.length-k,0,
  (cvE rfl rfl),⟨Nat.zero_le _,ho,fun x h=>(by rw [List.take_zero] at h;cases h),fun x h=>hx x h,hbX⟩,?_⟩
 clear ho hx hbX hbs;rintro k Z ⟨hk,ho,htk,hdr,hbZ⟩;have hbs:=hbZ.size;refine biE (fun hc=>?_) fun hc=>?_
 ·have hc:(k:Int)<(xs.length:Int):=dT hc;have hkl:k<xs.length:=by omega
  obtain⟨x,hxk⟩:∃ x,xs[k]=x:=⟨_,rfl⟩;have hxm:x∈xs:=by rw [<- hxk];exact gM hkl
  obtain⟨hx64,hxa⟩:=hxx x hxm;have hsplit:xs=xs.take k++x::xs.drop (k+1):=by rw [<- hxk,List.getElem_cons_drop,List.take_append_drop]
  have hdrop:xs.drop k=x::xs.drop (k+1):=by rw [<- hxk,List.getElem_cons_drop]
  have hox:OwnS natE 3 B Z x.2.1 x.2.2 x.1:=hdr x (by rw [hdrop];simp);obtain⟨bp,op,hpe,hlp,hat⟩:=ho.row.at hkl;subst hpe;refine⟨k,rfl,hkl,?_⟩;refine⟨.slice x.2.1 x.1.length x.2.2,by rw [<- hxk];exact zac (hat k hkl) (i:=0) rfl,?_⟩;refine⟨Nat,fun i=>⟨[(0,.slice q ws.length c),(4,.slice (some ⟨bp,op,none⟩) xs.length c'),(7,.slice x.2.1 x.1.length x.2.2),(21,.slice (some ⟨bp,op,none⟩) xs.length c'),(22,i64 xs.length),(23,i64 (k:Nat)),(27,.slice x.2.1 x.1.length x.2.2),(28,i64 x.1.length),(29,i64 (i:Nat))],[]⟩,
   fun i V=>i<=x.1.length/\OwnS natE 3 B V x.2.1 x.2.2 (rowG ws (x.1.take i)++x.1.drop i)/\Z.grownBy V (x.2.1.map Addr.block),fun i=>x.1.length-i,0,
   (cvE rfl rfl),⟨Nat.zero_le _,hox,zbN _ _⟩,?_⟩
  rintro i V ⟨hi,hoV,gV⟩;refine biE (fun hc=>?_) fun hc=>?_
  ·have hc:(i:Int)<(x.1.length:Int):=dT hc;have hil:i<x.1.length:=by omega
   have hlen:(rowG ws (x.1.take i)++x.1.drop i).length=x.1.length:=by
    unfold rowG;simp;omega
   have hgi:(rowG ws (x.1.take i)++x.1.drop i)[i]'(by omega)=x.1[i]:=by
    exact zqj hil (by omega)
   obtain⟨b',o',hqe,hlq,hat'⟩:=hoV.row.at (i:=i) (by omega);have hao:=hxa x.1[i] (gM hil);obtain⟨bw,ow,hwe,hlw,hatw⟩:=hl.at hao;subst hwe;have hq0:∃ g,x.2.1=some ⟨g,0,none⟩:=by
    rcases hoV.inv with ⟨h,_⟩ | ⟨g,cur,h,_⟩
    ·rw [h] at hqe;cases hqe
    ·exact⟨g,h⟩
   obtain⟨g,hg⟩:=hq0;have hbo:b'=g/\o'=0:=by rw [hg] at hqe;simpa using hqe.symm
   obtain⟨rfl,rfl⟩:=hbo;rw [hg] at hoV gV ⊢;have hBg:=(zav hoV rfl).1;refine⟨i,rfl,hil,?_⟩;refine⟨i64 x.1[i],by have:=zac (hat' i (by omega)) (i:=0) (v:=i64 x.1[i]) (by rw [hgi];rfl);exact this,?_⟩;refine⟨x.1[i],rfl,hao,?_⟩;have hVw:V.heap[bw]?=w.heap[bw]?:=(gV.block bw (by omega) (by have:B<=b':=hBg;simp;omega)).trans (hbZ.block bw hlw);refine⟨i64 ws[x.1[i]],zac (zbo hVw (hatw _ hao)) (i:=0) rfl,?_⟩;refine⟨i,rfl,hil,?_⟩;refine zjz (i:=i) (v:=ws[x.1[i]]) k3 rfl hoV (by omega) fun V' oV' gV'=>?_;refine nxI (by omega) ?_;refine⟨i+1,(cvE rfl rfl),⟨hil,?_,zaf gV gV'⟩,zdc (by omega)⟩;have e:(rowG ws (x.1.take i)++x.1.drop i).set i ws[x.1[i]]=rowG ws (x.1.take (i+1))++x.1.drop (i+1):=zoA hil hao;rw [e] at oV';exact oV'
  ·have hc:¬ (i:Int)<(x.1.length:Int):=dF hc;obtain rfl:i=x.1.length:=by omega
   rw [List.take_length,List.drop_length,List.append_nil] at hoV;have keepI:∀ y:List Nat×Option Addr×Nat,∀ l',OwnS natE 3 B Z y.2.1 y.2.2 l'->(∀ a b,x.2.1=some a->y.2.1=some b->a.block≠b.block)->OwnS natE 3 B V y.2.1 y.2.2 l':=fun y l' hy hne=>hy.same fun b hb=>gV.block _ (zav hy hb).2.1 (by
    intro e
    cases hx1:x.2.1 with
    | none=>rw [hx1] at e;cases e
    | some a =>
     rw [hx1] at e;simp only [Option.map_some,Option.some.injEq] at e;exact hne a b hx1 hb e.symm)
   unfold AscB at hasc;rw [hsplit,List.pairwise_append,List.pairwise_cons] at hasc;obtain⟨_,⟨hA1,_⟩,hA2⟩:=hasc;refine nxI (by omega) ?_;refine⟨k+1,(cvE rfl rfl),⟨hkl,?_,fun y hy=>?_,fun y hy=>?_,?_⟩,zdc (by omega)⟩
   ·refine ho.same fun a ha=>gV.block _ (zav ho ha).2.1 fun e=>?_
    cases hx1:x.2.1 with
    | none=>rw [hx1] at e;cases e
    | some a2 =>
     rw [hx1] at e;simp only [Option.map_some,Option.some.injEq] at e;obtain⟨_,_,c1,h1⟩:=zav ho ha;obtain⟨_,_,c2,h2⟩:=zav hox hx1;rw [<- e,h1] at h2;simp at h2
   ·rw [tsg hkl,hxk] at hy;rcases List.mem_append.1 hy with hy | hy
    ·exact keepI y _ (htk y hy) fun a b ha hb e=>by
      have:=hA2 y hy x (by simp) b a hb ha;omega
    ·rw [List.mem_singleton.1 hy];exact hoV
   ·exact keepI y _ (hdr y (by rw [hdrop];exact List.mem_cons_of_mem _ hy)) fun a b ha hb e=>by
     have:=hA1 y hy a b ha hb;omega
   ·cases hx1:x.2.1 with
    | none =>
     rw [hx1] at gV;exact hbZ.trans ⟨gV.os,gV.tape,gV.output,gV.size,fun j hj=>gV.block j (by omega) (fun e=>by cases e)⟩
    | some a =>
     rw [hx1] at gV;exact hbZ.trans (zao gV hbs (by have:=(zav hox hx1).1;omega))
 ·have hc:¬ (k:Int)<(xs.length:Int):=dF hc;obtain rfl:k=xs.length:=by omega
  rw [List.take_length] at htk;refine⟨⟨xs.map fun x=>(rowG ws x.1,x.2),p,c',by rw [List.length_map];rfl,?_,?_,fun y hy=>?_⟩,hbZ⟩
  ·rw [hrk,List.map_map,List.map_map];rfl
  ·rw [<- hB];have e1:(xs.map fun x=>(rowG ws x.1,x.2)).flatMap zbS.enc=xs.flatMap zbS.enc:=by
    rw [List.flatMap_map];congr 1;funext x;show [Value.slice x.2.1 (rowG ws x.1).length x.2.2]=[Value.slice x.2.1 x.1.length x.2.2];unfold rowG;rw [List.length_map]
   unfold OwnS at ho ⊢;rw [e1,List.length_map];exact ho
  ·obtain⟨x,hx,rfl⟩:=List.mem_map.1 hy;rw [<- hB];exact htk x hx
end
def exC (x:ExD) (q:Option Addr) (c:Nat):List Value := .slice q x.ev.length c::(relC x.po++(relC x.rf++(relC x.co++(relC x.dt++(relC x.ct++(relC x.rm++(seg 32 (fun i=>u8 (x.regs i))++seg 6 (fun i=>u8 (x.mem i)))))))))
theorem zat (x:ExD) (q:Option Addr) (c:Nat):(exC x q c).length=333:=by
 unfold exC;simp only [List.length_cons,lap,zad,zay]
theorem zdp (x:ExD) (q:Option Addr) (c:Nat):(exC x q c).all Value.oneCell'=true:=by
 unfold exC;rw [List.all_cons,List.all_append,List.all_append,List.all_append,List.all_append,List.all_append,List.all_append,List.all_append,zas,zas,zas,zas,zas,zas,zdH fun _=>rfl,zdH fun _=>rfl];rfl
section
variable (x:ExD) (q:Option Addr) (c:Nat) (S:List Value)
theorem zo2:∃ A Z,A.length=1/\∀ r,exC { x with po:=r } q c++S=A++(relC r++Z) :=
 ⟨.slice q x.ev.length c::[],(relC x.rf++(relC x.co++(relC x.dt++(relC x.ct++(relC x.rm++(seg 32 (fun i=>u8 (x.regs i))++(seg 6 (fun i=>u8 (x.mem i))++S))))))),by simp only [List.length_cons,List.length_nil,lap,zad],fun r=>by simp only [exC,List.append_assoc,List.cons_append,List.nil_append]⟩
theorem zsl:∃ A Z,A.length=50/\∀ r,exC { x with rf:=r } q c++S=A++(relC r++Z) :=
 ⟨.slice q x.ev.length c::relC x.po,(relC x.co++(relC x.dt++(relC x.ct++(relC x.rm++(seg 32 (fun i=>u8 (x.regs i))++(seg 6 (fun i=>u8 (x.mem i))++S)))))),by simp only [List.length_cons,List.length_nil,lap,zad],fun r=>by simp only [exC,List.append_assoc,List.cons_append,List.nil_append]⟩
theorem zso:∃ A Z,A.length=99/\∀ r,exC { x with co:=r } q c++S=A++(relC r++Z) :=
 ⟨.slice q x.ev.length c::(relC x.po++relC x.rf),(relC x.dt++(relC x.ct++(relC x.rm++(seg 32 (fun i=>u8 (x.regs i))++(seg 6 (fun i=>u8 (x.mem i))++S))))),by simp only [List.length_cons,List.length_nil,lap,zad],fun r=>by simp only [exC,List.append_assoc,List.cons_append,List.nil_append]⟩
theorem zo3:∃ A Z,A.length=148/\∀ r,exC { x with dt:=r } q c++S=A++(relC r++Z) :=
 ⟨.slice q x.ev.length c::(relC x.po++(relC x.rf++relC x.co)),(relC x.ct++(relC x.rm++(seg 32 (fun i=>u8 (x.regs i))++(seg 6 (fun i=>u8 (x.mem i))++S)))),by simp only [List.length_cons,List.length_nil,lap,zad],fun r=>by simp only [exC,List.append_assoc,List.cons_append,List.nil_append]⟩
theorem zo4:∃ A Z,A.length=197/\∀ r,exC { x with ct:=r } q c++S=A++(relC r++Z) :=
 ⟨.slice q x.ev.length c::(relC x.po++(relC x.rf++(relC x.co++relC x.dt))),(relC x.rm++(seg 32 (fun i=>u8 (x.regs i))++(seg 6 (fun i=>u8 (x.mem i))++S))),by simp only [List.length_cons,List.length_nil,lap,zad],fun r=>by simp only [exC,List.append_assoc,List.cons_append,List.nil_append]⟩
theorem zo1:∃ A Z,A.length=246/\∀ r,exC { x with rm:=r } q c++S=A++(relC r++Z) :=
 ⟨.slice q x.ev.length c::(relC x.po++(relC x.rf++(relC x.co++(relC x.dt++relC x.ct)))),(seg 32 (fun i=>u8 (x.regs i))++(seg 6 (fun i=>u8 (x.mem i))++S)),by simp only [List.length_cons,List.length_nil,lap,zad],fun r=>by simp only [exC,List.append_assoc,List.cons_append,List.nil_append]⟩
theorem znr:∃ A Z,A.length=295/\∀ f,exC { x with regs:=f } q c++S=A++(seg 32 (fun i=>u8 (f i))++Z) :=
 ⟨.slice q x.ev.length c::(relC x.po++(relC x.rf++(relC x.co++(relC x.dt++(relC x.ct++relC x.rm))))),(seg 6 (fun i=>u8 (x.mem i))++S),by simp only [List.length_cons,lap,zad],fun f=>by simp only [exC,List.append_assoc,List.cons_append,List.nil_append]⟩
theorem zpK:∃ A Z,A.length=327/\∀ f,exC { x with mem:=f } q c++S=A++(seg 6 (fun i=>u8 (f i))++Z) :=
 ⟨.slice q x.ev.length c::(relC x.po++(relC x.rf++(relC x.co++(relC x.dt++(relC x.ct++(relC x.rm++seg 32 (fun i=>u8 (x.regs i)))))))),S,by simp only [List.length_cons,lap,zad,zay],fun f=>by simp only [exC,List.append_assoc,List.cons_append,List.nil_append]⟩
theorem zsn (l:List Ev) (q':Option Addr) (c':Nat):(exC x q c++S).set 0 (.slice q' l.length c')=exC { x with ev:=l } q' c'++S:=by
 unfold exC;rw [List.cons_append,List.set_cons_zero,List.cons_append]
theorem zsm:(exC x q c++S)[0]?=some (.slice q x.ev.length c):=rfl
end
theorem zhU {x:ExD} {q:Option Addr} {c:Nat} {S:List Value} {i:Nat} {v:Value} (h:S[i]?=some v):(exC x q c++S)[333+i]?=some v:=by
 rw [zbm (zat _ _ _)];exact h
theorem zjH {x:ExD} {q:Option Addr} {c:Nat} {S:List Value} {i:Nat} {v:Value}:(exC x q c++S).set (333+i) v=exC x q c++S.set i v:=zb1 (zat _ _ _)
abbrev NatL:=List Nat×Option Addr×Nat
abbrev slV (x:NatL):Value := .slice x.2.1 x.1.length x.2.2
def rowL (l:List NatL):List Value:=l.map slV
theorem zgy:∀ l:List NatL,l.flatMap zbS.enc=rowL l
 | []=>rfl
 | a::l=>by
  show slV a::l.flatMap zbS.enc=slV a::rowL l;rw [zgy l]
abbrev RowLH (Z:World) (g:Nat) (l:List NatL):Prop:=Z.heap[g]?=some (.cells (rowL l).toArray 108 (0,0))
theorem RowLH.sl {Z:World} {g:Nat} {l:List NatL} (h:RowLH Z g l):SlR zbS Z (some ⟨g,0,none⟩) l :=
 SlR.of_cells (hlt h) (by rw [zgy];exact zab h)
theorem RowLH.own {Z:World} {g B:Nat} {l:List NatL} (h:RowLH Z g l) (hB:B<=g) (hm:l.length<=maxLen):OwnS zbS 108 B Z (some ⟨g,0,none⟩) l.length l:=by
 unfold OwnS World.ownsRow;have hz:(rowL l).length=l.length:=by unfold rowL;rw [List.length_map]
 refine⟨by rw [zbg],.inr ⟨g,l.length,(rowL l).toArray,rfl,hB,h,Nat.le_refl _,hm,?_,?_⟩⟩
 ·show (rowL l).length=l.length*1;rw [hz,Nat.mul_one]
 ·show (rowL l).take (l.length*1)=_;rw [zgy,List.take_of_length_le (by rw [hz,Nat.mul_one];exact Nat.le_refl _)]
structure Rows (B:Nat) (Z:World) (W:List NatL):Prop where
 own:∀ x∈W,OwnS natE 3 B Z x.2.1 x.2.2 x.1
 dis:∀ (i j:Nat) (x y:NatL),W[i]?=some x->W[j]?=some y->i≠j->∀ a b,x.2.1=some a->y.2.1=some b->a.block≠b.block
theorem Rows.same {B:Nat} {Z Y:World} {W:List NatL} (h:Rows B Z W) (hs:∀ x∈W,∀ a,x.2.1=some a->Y.heap[a.block]?=Z.heap[a.block]?):Rows B Y W :=
 ⟨fun x hx=>(h.own x hx).same (hs x hx),h.dis⟩
theorem Rows.nils (B:Nat) (Z:World) (n:Nat):Rows B Z (List.replicate n ([],none,0)):=by
 refine⟨fun x hx=>?_,fun i j x y hx hy _ a b ha _=>?_⟩
 ·rw [List.eq_of_mem_replicate hx];exact OwnS.nil
 ·have:=List.mem_of_getElem? hx;rw [List.eq_of_mem_replicate this] at ha
  cases ha
theorem Rows.set {B:Nat} {Z Y:World} {W:List NatL} {i:Nat} {x y:NatL} (h:Rows B Z W) (hi:W[i]?=some x) (ho:OwnS natE 3 B Y y.2.1 y.2.2 y.1) (hg:Z.grownBy Y (x.2.1.map Addr.block)) (hat:∀ a,y.2.1=some a->x.2.1=some a\/Z.heap.size<=a.block):Rows B Y (W.set i y):=by
 obtain⟨hil,hxi⟩:=List.getElem?_eq_some_iff.1 hi;have ne:∀ (j:Nat) (z:NatL),W[j]?=some z->i≠j->∀ b,z.2.1=some b->Y.heap[b.block]?=Z.heap[b.block]?:=fun j z hj hne b hb=>by
  refine hg.block _ (zav (h.own z (List.mem_of_getElem? hj)) hb).2.1 fun e=>?_
  cases hx1:x.2.1 with
  | none=>rw [hx1] at e;cases e
  | some a =>
   rw [hx1] at e;simp only [Option.map_some,Option.some.injEq] at e;exact h.dis i j x z hi hj hne a b hx1 hb e.symm
 have inv:∀ (j:Nat) (z:NatL),(W.set i y)[j]?=some z->(i=j/\z=y)\/(i≠j/\W[j]?=some z):=fun j z hj=>by
  by_cases e:i=j
  ·subst e;rw [List.getElem?_set_self hil] at hj;exact .inl ⟨rfl,(Option.some.inj hj).symm⟩
  ·rw [List.getElem?_set_ne e] at hj;exact .inr ⟨e,hj⟩
 refine⟨fun z hz=>?_,fun j k u v hu hv hjk a b ha hb=>?_⟩
 ·obtain⟨j,hj⟩:=List.mem_iff_getElem?.1 hz;rcases inv j z hj with ⟨_,rfl⟩ | ⟨hne,hj⟩
  ·exact ho
  ·exact (h.own z (List.mem_of_getElem? hj)).same (ne j z hj hne)
 ·rcases inv j u hu with ⟨e1,rfl⟩ | ⟨n1,hu'⟩ <;> rcases inv k v hv with ⟨e2,rfl⟩ | ⟨n2,hv'⟩
  ·omega
  ·rcases hat a ha with h1 | h1
   ·exact h.dis i k x v hi hv' n2 a b h1 hb
   ·have:=(zav (h.own v (List.mem_of_getElem? hv')) hb).2.1;omega
  ·rcases hat b hb with h1 | h1
   ·exact h.dis j i u x hu' hi (fun e=>n1 e.symm) a b ha h1
   ·have:=(zav (h.own u (List.mem_of_getElem? hu')) ha).2.1;omega
  ·exact h.dis j k u v hu' hv' hjk a b ha hb
end Go.Proofs.YtmbghmhjjodgmaaGreatDoor
namespace Go.Vc
open Go.RowKit
def DrawA (S:Sig) (ops:Array Oper) (E:Env) (w:World) (K:Env->World->Prop) (QP:List PanicEntry->World->Prop):Prop :=
 ∃ (X:List Nat) (T:OT),(covA (ze6 S.τ X ops) ops ops.size (Array.replicate ops.size false) T&&ops.all (fun o=>zcx o.op))=true/\opsT S ops.toList X QP T E w.drew K
inductive Mn where
 | m (m:Mk)
 | s (a b:Mn)
 | c (a b:Mn)
 | d (a b:Mn)
 | t
section
variable {S:Sig}
def znN (rec_:Array Bool->OT->Bool) (ind:Nat->Nat->Bool) (ops:Array Oper) (listed:Array Bool) (T:OT):Bool :=
 !(Region.ready .any ops listed).isEmpty&&(Region.ready .any ops listed).all fun i =>
   (OT.firsts ind i T).any fun T'=>rec_ (listed.setIfInBounds i true) T'
def covR (ind:Nat->Nat->Bool) (ops:Array Oper):Nat->Array Bool->OT->Bool
 | 0,listed,T=>(Region.ready .any ops listed).isEmpty&&(match T with | .nil=>true | _=>false)
 | m+1,listed,.op k T'=>(match (Region.ready .any ops listed).contains k&&zh3 ind ops k listed with
  | true=>covR ind ops m (listed.setIfInBounds k true) T'
  | false=>znN (covR ind ops m) ind ops listed (.op k T'))
 | m+1,listed,.nil=>znN (covR ind ops m) ind ops listed .nil
 | m+1,listed,.alt x y=>znN (covR ind ops m) ind ops listed (.alt x y)
section
variable {ind:Nat->Nat->Bool} {ops:Array Oper}
theorem zcZ {rec_:Array Bool->OT->Bool} {L:Array Bool} {T:OT} (h:znN rec_ ind ops L T=true):(Region.ready .any ops L).isEmpty=false/\∀ i∈Region.ready .any ops L,∃ T',T'∈OT.firsts ind i T/\rec_ (L.setIfInBounds i true) T'=true:=by
 simp only [znN,bAT,Bool.not_eq_true',List.all_eq_true,List.any_eq_true] at h;exact⟨h.1,fun i hi=>h.2 i hi⟩
theorem znL:∀ (m:Nat) (L:Array Bool) (T:OT),zg5 ops L->covR ind ops (m+1) L T=true ->
  (Region.ready .any ops L).isEmpty=false/\∀ i∈Region.ready .any ops L,∃ T',T'∈OT.firsts ind i T/\covR ind ops m (L.setIfInBounds i true) T'=true:=by
 intro m
 induction m with
 | zero =>
  intro L T hc h
  cases T with
  | nil=>exact zcZ h
  | alt x y=>exact zcZ h
  | op k T' =>
   simp only [covR] at h
   split at h
   ·rename_i hf;simp only [bAT,List.contains_eq_mem,dE] at hf;refine⟨List.isEmpty_eq_false_iff.2 (List.ne_nil_of_mem hf.1),fun i hi=>?_⟩;by_cases e:i=k
    ·subst e;exact⟨T',by simp [OT.firsts],h⟩
    ·have:=zcX hi e;simp only [bAT,List.isEmpty_iff] at h;rw [h.1] at this;cases this
   ·exact zcZ h
 | succ m ih =>
  intro L T hc h
  cases T with
  | nil=>exact zcZ h
  | alt x y=>exact zcZ h
  | op k T' =>
   unfold covR at h
   split at h
   ·rename_i hf;simp only [bAT,List.contains_eq_mem,dE] at hf;refine⟨List.isEmpty_eq_false_iff.2 (List.ne_nil_of_mem hf.1),fun i hi=>?_⟩;by_cases e:i=k
    ·subst e;exact⟨T',by simp [OT.firsts],h⟩
    ·obtain⟨T'',h1,h2⟩:=(ih _ T' (zek hc hf.1) h).2 i (zcX hi e);refine⟨.op k T'',?_,?_⟩
     ·have:¬ k=i:=fun e2=>e e2.symm;rw [OT.firsts,if_neg this,if_pos (zkM hc hf.2 hf.1 hi e)];exact List.mem_map_of_mem h1
     ·have hk2:k∈Region.ready .any ops (L.setIfInBounds i true):=zcX hf.1 (fun e2=>e e2.symm);have hb:((Region.ready .any ops (L.setIfInBounds i true)).contains k&&zh3 ind ops k (L.setIfInBounds i true))=true:=by
       simp only [bAT,List.contains_eq_mem,dE];exact⟨hk2,zht hf.2⟩
      unfold covR;rw [hb];rw [zkf];exact h2
   ·exact zcZ h
theorem zgV:∀ (m:Nat) (L:Array Bool) (T:OT),zg5 ops L->covR ind ops m L T=true->covA ind ops m L T=true
 | 0,L,T,_,h=>h
 | m+1,L,T,hc,h=>by
  obtain⟨h1,h2⟩:=znL m L T hc h;simp only [covA,bAT,Bool.not_eq_true',List.all_eq_true,List.any_eq_true];refine⟨h1,fun i hi=>?_⟩;obtain⟨T',h3,h4⟩:=h2 i hi;exact⟨T',h3,zgV m _ T' (zek hc hi) h4⟩
end
theorem DrawA.treeR {S:Sig} {ops:Array Oper} {E:Env} {w:World} {K:Env->World->Prop} {QP:List PanicEntry->World->Prop} (X:List Nat) (T:OT)
  (h:(covR (ze6 S.τ X ops) ops ops.size (Array.replicate ops.size false) T&&ops.all (fun o=>zcx o.op))=true) (k:opsT S ops.toList X QP T E w.drew K):DrawA S ops E w K QP :=
 ⟨X,T,by
  simp only [bAT] at h ⊢;refine⟨zgV _ _ _ (fun j o hj=>?_) h.1,h.2⟩;by_cases hl:j<ops.size <;> simp [hl] at hj,k⟩
theorem DrawE.treeR {S:Sig} {ops:Array Oper} {E:Env} {w:World} {K:Env->World->Prop} {QP:List PanicEntry->World->Prop} (X:List Nat) (T:OT)
  (h:(covR (ze6 S.τ X ops) ops ops.size (Array.replicate ops.size false) T&&ops.all (fun o=>zcx o.op))=true) (k:opsT S ops.toList X QP T E w.drew K):DrawE S ops E w K QP :=
 .inr (.inr ⟨X,T,by
  simp only [bAT] at h ⊢;refine⟨zgV _ _ _ (fun j o hj=>?_) h.1,h.2⟩;by_cases hl:j<ops.size <;> simp [hl] at hj,k⟩)
end
end Go.Vc
namespace Go.Proofs.YtmbghmhjjodgmaaGreatDoor
open Go.Vc Go.RowKit Go.Sei
abbrev MixH (X:World) (b:Nat) (x:ExD) (q:Option Addr) (c:Nat) (S:List Value):Prop:=X.heap[b]?=some (.cells (exC x q c++S).toArray 119 (0,0))
abbrev nilV:Value := .slice none 0 0
theorem zeE {X:World} {b:Nat} {x:ExD} {q:Option Addr} {c:Nat} {S:List Value} (h:MixH X b x q c S):X.cell? ⟨b,0+0,none⟩=some (.slice q x.ev.length c):=zac (zab h) (zsm x q c S)
theorem zcy {X:World} {b:Nat} {x:ExD} {q:Option Addr} {c:Nat} {S:List Value} (h:MixH X b x q c S) {i:Nat} {v:Value} (hi:S[i]?=some v):X.cell? ⟨b,333+i,none⟩=some v:=by
 have:=zac (zab h) (zhU (x:=x) (q:=q) (c:=c) hi);rw [Nat.zero_add] at this;exact this
theorem zq1 {w Z:World} {q:Option Addr} {ev:List Ev} {b:Nat} (hl:SlR evE w q ev) (hqb:∀ a,q=some a->a.block≠b) (g:w.grownBy Z (some b)):SlR evE Z q ev:=by
 rcases hl with h | ⟨b',o,h1,h2,h3⟩
 ·exact .inl h
 ·have:=hqb _ h1;exact .inr ⟨b',o,h1,nL h2 g.size,fun i hi=>zbo (g.block b' h2 (by simpa using this)) (h3 i hi)⟩
theorem zcN (p:Option Addr) (n c:Nat):(Value.slice p n c).ownBlock=p.map Addr.block:=by cases p <;> rfl
theorem ziL {α:Type} {E:Enc α} {T B cap:Nat} {w:World} {p:Option Addr} {l:List α} (h:OwnS E T B w p cap l) {k T':Nat} {cur:Array Value} {fr:Nat×Nat} (hk:w.heap[k]?=some (.cells cur T' fr)) (hT:T'≠T):some k≠p.map Addr.block:=fun e=>by
 cases hp:p with
 | none=>rw [hp] at e;cases e
 | some a =>
  rw [hp] at e;simp only [Option.map_some,Option.some.injEq] at e;obtain⟨_,_,cur',h'⟩:=zav h hp;rw [<- e,hk] at h';simp at h';exact hT h'.2.1
theorem SatR.mono {α:Type} {r:Result α} {K K':α->World->Prop} (h:SatR r K) (k:∀ v w,K v w->K' v w):SatR r K':=by
 obtain⟨v,w',e,h⟩:=h;exact⟨v,w',e,k v w' h⟩
section
variable {α β:Type} {E:Enc α} {E':Enc β} {T T' B B' c c':Nat} {A C:World} {p q:Option Addr} {l:List α} {l':List β}
theorem zeZ (h:OwnS E T B A q c l) (g:A.grownBy C (p.map Addr.block)) (hne:∀ a b',p=some a->q=some b'->a.block≠b'.block):OwnS E T B C q c l :=
 h.same fun b' hb'=>g.block _ (zav h hb').2.1 fun e=>by
  cases hp:p with
  | none=>rw [hp] at e;cases e
  | some a =>
   rw [hp] at e;simp only [Option.map_some,Option.some.injEq] at e;exact hne a b' hp hb' e.symm
theorem zcg (h:OwnS E T B A q c l) (hp:OwnS E' T' B' A p c' l') (hT:T≠T') (g:A.grownBy C (p.map Addr.block)):OwnS E T B C q c l :=
 zeZ h g fun a b' ha hb e=>by
  obtain⟨_,_,c1,h1⟩:=zav h hb;obtain⟨_,_,c2,h2⟩:=zav hp ha;rw [e,h1] at h2;simp at h2;exact hT h2.2
theorem za2 {b:Nat} {cur:Array Value} {fr:Nat×Nat} (h:OwnS E T B A q c l) (hb:A.heap[b]?=some (.cells cur T' fr)) (hT:T≠T') (g:A.grownBy C (some b)):OwnS E T B C q c l :=
 h.same fun b' hb'=>g.block _ (zav h hb').2.1 fun e=>by
  obtain⟨_,_,c1,h1⟩:=zav h hb';simp only [Option.some.injEq] at e;rw [e,hb] at h1;simp at h1;exact hT h1.2.1.symm
theorem za0 {b:Nat} {cur:Array Value} {fr:Nat×Nat} (hb:A.heap[b]?=some (.cells cur T' fr)) (h:OwnS E T B A q c l) (hT:T'≠T) (g:A.grownBy C (q.map Addr.block)):C.heap[b]?=some (.cells cur T' fr) :=
 (g.block b (hlt hb) (ziL h hb hT)).trans hb
theorem zbc {n:Nat} (hp:OwnS E T B A p c l) (hn:n<=A.heap.size) (hB:n<=B) (g:A.grownBy C (p.map Addr.block)):Below n A C:=by
 refine⟨g.os,g.tape,g.output,g.size,fun j hj=>g.block j (by omega) fun e=>?_⟩
 cases h:p with
 | none=>rw [h] at e;cases e
 | some a =>
  rw [h] at e;simp only [Option.map_some,Option.some.injEq] at e;have:=(zav hp h).1;omega
end
theorem appI {B c k:Nat} {V1:World} {p:Option Addr} {l:List Nat} {a:Addr} (ho:OwnS natE 3 B V1 p c l) (ha:zax V1 a ([k].flatMap natE.enc)) (hB:B<=V1.heap.size) (hl:l.length<=100000) {K:Value->World->Prop}
  (h:∀ p' c' w',OwnS natE 3 B w' p' c' (l++[k])->V1.grownBy w' (Value.slice p l.length c).ownBlock->(∀ a,p'=some a->p=some a\/a.block=V1.heap.size)->K (.slice p' (l++[k]).length c') w') :
  SatR ((Builtin.append_ #[108,108] 108 #[.slice p l.length c,.slice (some a) 1 1]).run Tryz.prog V1) K :=
 zbJ (E:=natE) (T:=3) (B:=B) (l:=l) (news:=[k]) (cap:=c) (m:=1) Tryz.underlying108 k3 rfl rfl rfl ho rfl ha hB (by omega) (by show (l.length+1)*8<=_;omega) fun p' c' w' a1 a2 _ a4=>h p' c' w' a1 a2 a4
theorem appL {B c:Nat} {V1:World} {p:Option Addr} {l:List NatL} {y:NatL} {a:Addr} (ho:OwnS zbS 108 B V1 p c l) (ha:zax V1 a ([y].flatMap zbS.enc)) (hB:B<=V1.heap.size) (hl:l.length<=100000) {K:Value->World->Prop}
  (h:∀ p' c' w',OwnS zbS 108 B w' p' c' (l++[y])->V1.grownBy w' (Value.slice p l.length c).ownBlock->(∀ a,p'=some a->p=some a\/a.block=V1.heap.size)->K (.slice p' (l++[y]).length c') w') :
  SatR ((Builtin.append_ #[117,117] 117 #[.slice p l.length c,.slice (some a) 1 1]).run Tryz.prog V1) K :=
 zbJ (E:=zbS) (T:=108) (B:=B) (l:=l) (news:=[y]) (cap:=c) (m:=1) Tryz.underlying117 k108 rfl rfl rfl ho rfl ha hB (by omega) (by show (l.length+1)*24<=_;omega) fun p' c' w' a1 a2 _ a4=>h p' c' w' a1 a2 a4
section
variable {b:Nat} {x:ExD} {q:Option Addr} {c locs:Nat} {w:World}
theorem znT (hm:MixH w b x q c [nilV,nilV,nilV]) (hl:SlR evE w q x.ev) (hqb:∀ a,q=some a->a.block≠b) (hn:x.ev.length<=48) (hlo:locs<=100) (hv:∀ e∈x.ev,e.k=1\/e.k=2->e.l.toNat<locs) :
  Calls Tryz.prog 165 #[At0 b,i64 locs] w fun e w'=>e = .returned (.tuple #[])/\(∃ (p1 p2 p3:Option Addr) (c1 c2 c3:Nat) (xs ys:List NatL),
   MixH w' b x q c [.slice p1 (zcB x locs).rs.length c1,.slice p2 xs.length c2,.slice p3 ys.length c3]/\OwnS natE 3 w.heap.size w' p1 c1 ((zcB x locs).rs.map (·.1))/\xs.map (·.1)=(zcB x locs).rs.map (·.2)/\OwnS zbS 108 w.heap.size w' p2 c2 xs/\(∀ y∈xs,OwnS natE 3 w.heap.size w' y.2.1 y.2.2 y.1) /\
   ys.map (·.1)=(zcB x locs).wr/\OwnS zbS 108 w.heap.size w' p3 c3 ys/\∀ y∈ys,OwnS natE 3 w.heap.size w' y.2.1 y.2.2 y.1)/\w.grownBy w' (some b):=by
 refine cofM 114 [At0 b,i64 locs] (.c .p (.c .p .p)) Tryz.func165 ?_;obtain⟨B,hB⟩:=nm (w.heap.size);have hbw:=hlt hm;obtain⟨W0,hW0⟩:∃ W0:List NatL,W0=List.replicate locs ([],none,0):=⟨_,rfl⟩;have hW0l:W0.length=locs:=by rw [hW0,List.length_replicate]
 refine⟨Unit,fun _=>⟨[(0,At0 b)],[]⟩,fun _ X=>MixH X b x q c [nilV,nilV,.slice (some ⟨B,0,none⟩) locs locs]/\RowLH X B W0/\w.grownBy X (some b)/\B<X.heap.size,?_,?_⟩
 ·refine ziU Tryz.underlying117 k108 rfl rfl (by decide) locs (by show 24*_<=_;omega) (by omega) fun X fX hbX sX=>?_;have ez:∀ n,zrep [Value.slice none 0 0] n=rowL (List.replicate n ([],none,0)):=fun n=>by
   induction n with
   | zero=>rfl
   | succ n ih =>
    show Value.slice none 0 0::zrep [Value.slice none 0 0] n=slV ([],none,0)::rowL (List.replicate n ([],none,0));rw [<- ih];rfl
  have fX:X.heap[w.heap.size]?=some (.cells (zrep [Value.slice none 0 0] locs).toArray 108 (0,0)):=fX;rw [ez,<- hW0,<- hB] at fX;have hmX:=(hbX.block b hbw).trans hm;refine zar k117 hmX (o:=0+335) (v := .slice (some ⟨w.heap.size,0,none⟩) locs locs) rfl rfl (by rw [lap,zat];decide) rfl fun Y fY gY sY=>?_;rw [show 0+335=333+2 from rfl,zjH] at fY;exact⟨(),(cvE rfl rfl),by rw [hB];exact fY,(gY.block B (hlt fX) (by simp;omega)).trans fX,zaf (zai hbX) gY,by rw [sY,sX,hB];omega⟩
 rintro _ X ⟨hmX,fX,gX,sX⟩;refine⟨List NatL,fun W=>⟨[(0,At0 b)],[]⟩,fun W Z=>MixH Z b x q c [nilV,nilV,.slice (some ⟨B,0,none⟩) locs locs]/\RowLH Z B W/\w.grownBy Z (some b)/\W.length=locs/\W.map (·.1)=(zcB x locs).wr/\Rows B Z W/\∀ y∈W,y.1.length<=48/\∀ a∈y.1,a<x.ev.length,?_,?_⟩
 ·refine⟨_,zeE hmX,?_⟩;refine⟨Nat×List NatL,fun s=>⟨[(0,At0 b),(20,.slice q x.ev.length c),(21,i64 x.ev.length),(22,i64 (s.1:Nat))],[]⟩,
   fun s Z=>s.1<=x.ev.length/\MixH Z b x q c [nilV,nilV,.slice (some ⟨B,0,none⟩) locs locs]/\RowLH Z B s.2/\w.grownBy Z (some b)/\s.2.length=locs/\wrsG s.1 (x.ev.drop s.1) (s.2.map (·.1))=(zcB x locs).wr/\Rows B Z s.2/\(∀ y∈s.2,y.1.length<=s.1/\∀ a∈y.1,a<x.ev.length),fun s=>x.ev.length-s.1,(0,W0),
   (cvE rfl rfl),⟨Nat.zero_le _,hmX,fX,gX,hW0l,by rw [hW0,List.map_replicate];rfl,by rw [hW0];exact Rows.nils _ _ _,fun y hy=>by rw [hW0] at hy;rw [List.eq_of_mem_replicate hy];exact⟨Nat.zero_le _,fun a ha=>by cases ha⟩⟩,?_⟩
  clear hmX fX gX sX;rintro⟨k,W⟩ Z ⟨hk,hmZ,fZ,gZ,hWl,hacc,hR,hL⟩;dsimp only at hk fZ hWl hacc hR hL ⊢;refine biE (fun hc=>?_) fun hc=>?_
  ·have hc:(k:Int)<(x.ev.length:Int):=dT hc;have hkl:k<x.ev.length:=by omega
   obtain⟨e,he⟩:∃ e,x.ev[k]=e:=⟨_,rfl⟩;have hem:e∈x.ev:=by rw [<- he];exact gM hkl
   rw [<- List.getElem_cons_drop hkl,he] at hacc;have hacc:wrsG (k+1) (x.ev.drop (k+1)) (if e.k=2 then (W.map (·.1)).set e.l.toNat ((W.map (·.1)).getD e.l.toNat []++[k]) else W.map (·.1))=(zcB x locs).wr:=hacc;have hlZ:=zq1 hl hqb gZ;obtain⟨bp,op,hqe,hlp,hat⟩:=hlZ.at hkl;subst hqe;refine⟨k,rfl,hkl,?_⟩;refine⟨evE.enc e,rfl,by rw [<- he];exact hat k hkl,hlp,?_⟩;refine zak (X:=Z) (v := .agg (evE.enc e).toArray) k54 rfl rfl (List.all_eq_true.2 fun u hu=>evE.one e u hu) fun Y hbY fY sY=>?_;have gY:=zaf gZ (zai (row:=some b) hbY);have hmY:=zaa hbY hmZ;have fBY:=zaa hbY fZ;have hRY:Rows B Y W:=hR.same fun y hy a ha=>hbY.block _ (zav (hR.own y hy) ha).2.1;have fY:Y.heap[Z.heap.size]?=some (.cells (evE.enc e).toArray 54 (0,0)):=fY;refine⟨u8 e.k,zac (zab fY) (i:=1) rfl,?_⟩;refine biE (fun h=>?_) fun h=>?_
   ·have h:e.k=2:=zbj.1 (dT h);rw [if_pos h] at hacc;have hll:=hv e hem (.inr h);obtain⟨l,hle⟩:∃ l,e.l.toNat=l:=⟨_,rfl⟩;rw [hle] at hacc hll;have hlW:l<W.length:=(by omega);obtain⟨y,hy⟩:∃ y,W[l]?=some y:=⟨_,gE hlW⟩;have hym:y∈W:=List.mem_of_getElem? hy;have hgd:(W.map (·.1)).getD l []=y.1:=(by rw [gDe,List.getElem?_map,hy];rfl);rw [hgd] at hacc;have hyo:=hRY.own y hym;have hylen:=(hL y hym).1;have hrl:(rowL W)[l]?=some (slV y):=(by unfold rowL;rw [List.getElem?_map,hy];rfl);have hd:Bw Y Y.drew:=(Below.refl _ Y).drew;have hba:Below Y.drew.heap.size Y.drew (Y.drew.alloc (.cells (natE.enc k).toArray 3)):=zba _ _;have sa:(Y.drew.alloc (.cells (natE.enc k).toArray 3)).heap.size=Y.heap.size+1:=wz _ _;have nB:=ziL hyo fBY (by decide);have nb:=ziL hyo hmY (by decide);have fin:∀ p2 c2 V,OwnS natE 3 B V p2 c2 (y.1++[k])->(Y.drew.alloc (.cells (natE.enc k).toArray 3)).grownBy V (Value.slice y.2.1 y.1.length y.2.2).ownBlock->(∀ a,p2=some a->y.2.1=some a\/a.block=(Y.drew.alloc (.cells (natE.enc k).toArray 3)).heap.size) ->
      (MixH V b x (some ⟨bp,op,none⟩) c [nilV,nilV,.slice (some ⟨B,0,none⟩) locs locs]/\V.heap[Z.heap.size]?=some (.cells (evE.enc e).toArray 54 (0,0))) /\
      SatR ((storeVar 108 ⟨B,0+l*1,none⟩ (slV (y.1++[k],p2,c2))).run Tryz.prog V) fun _ S=>MixH S b x (some ⟨bp,op,none⟩) c [nilV,nilV,.slice (some ⟨B,0,none⟩) locs locs]/\RowLH S B (W.set l (y.1++[k],p2,c2))/\w.grownBy S (some b)/\(W.set l (y.1++[k],p2,c2)).length=locs/\wrsG (k+1) (x.ev.drop (k+1)) ((W.set l (y.1++[k],p2,c2)).map (·.1))=(zcB x locs).wr/\Rows B S (W.set l (y.1++[k],p2,c2))/\∀ z∈W.set l (y.1++[k],p2,c2),z.1.length<=k+1/\∀ a∈z.1,a<x.ev.length:=by
     intro p2 c2 V oV gV hat2;obtain⟨U,hU⟩:=nm (Y.drew.alloc (.cells (natE.enc k).toArray 3));rw [<- hU] at gV hba sa hat2;have hbYU:Bw Y U:=hd.trans hba;rw [zcN] at gV;have gYV:Y.grownBy V (y.2.1.map Addr.block):=zaf (zai hbYU) gV;have fBV:RowLH V B W:=(gYV.block B (hlt fBY) nB).trans fBY;have hmV:=(gYV.block b (hlt hmY) nb).trans hmY;have nE:=ziL hyo fY (by decide);refine⟨⟨hmV,(gYV.block _ (hlt fY) nE).trans fY⟩,?_⟩;refine zar k108 fBV (o:=0+l*1) (v:=slV (y.1++[k],p2,c2)) rfl rfl (by unfold rowL;rw [List.length_map];omega) rfl fun S fS gS sS=>?_;have fS2:RowLH S B (W.set l (y.1++[k],p2,c2)):=by
      rw [Nat.mul_one,Nat.zero_add] at fS;refine fS.trans ?_;unfold rowL;rw [List.map_set]
     have hRV:Rows B V (W.set l (y.1++[k],p2,c2)):=hRY.set (y:=(y.1++[k],p2,c2)) hy oV gYV fun a ha=>(hat2 a ha).imp id fun h=>by omega
     have hRS:Rows B S (W.set l (y.1++[k],p2,c2)):=hRV.same fun z hz a ha=>gS.block _ (zav (hRV.own z hz) ha).2.1 fun e=>by
      have h1:=ziL (hRV.own z hz) fBV (by decide);rw [ha] at h1;exact h1 e.symm
     have gyb:w.grownBy S (some b):=by
      have hBb:B≠b:=(by omega);have e1:Below B Y S:=by
       refine Below.trans ⟨gYV.os,gYV.tape,gYV.output,gYV.size,fun j hj=>gYV.block j (by have:=hlt fBY;omega) fun e=>?_⟩ (zao gS (by have:=hlt fBV;omega) (Nat.le_refl _))
       cases hp:y.2.1 with
       | none=>rw [hp] at e;cases e
       | some a =>
        rw [hp] at e;simp only [Option.map_some,Option.some.injEq] at e;have:=(zav hyo hp).1;omega
      rw [hB] at e1;exact zbl gY e1
     refine⟨(gS.block b (hlt hmV) (by simp;omega)).trans hmV,fS2,gyb,by rw [List.length_set];exact hWl,?_,hRS,fun z hz=>?_⟩
     ·rw [List.map_set];exact hacc
     ·rcases List.mem_or_eq_of_mem_set hz with h | h
      ·exact⟨by have:=(hL z h).1;omega,(hL z h).2⟩
      ·rw [h];refine⟨by simp only [lap,List.length_cons,List.length_nil];omega,fun a ha=>?_⟩;rcases List.mem_append.1 ha with ha | ha
       ·exact (hL y hym).2 a ha
       ·rw [List.mem_singleton.1 ha];exact hkl
    refine DrawE.treeR [16,18] (.op 0 (.op 1 (.op 2 (.op 4 (.op 6 (.op 7 (.op 8 (.op 9 (.op 10 (.op 11 (.op 12 (.op 13 (.op 14 (.alt (.op 15 (.alt (.op 16 (.alt (.op 3 (.op 5 (.op 17 (.op 18 (.nil))))) (.op 5 (.op 3 (.op 17 (.op 18 (.nil))))))) (.alt (.op 3 (.alt (.op 16 (.op 5 (.op 17 (.op 18 (.nil))))) (.op 5 (.op 16 (.op 17 (.op 18 (.nil))))))) (.op 5 (.alt (.op 16 (.op 3 (.op 17 (.op 18 (.nil))))) (.op 3 (.op 16 (.op 17 (.op 18 (.nil)))))))))) (.alt (.op 3 (.alt (.op 15 (.alt (.op 16 (.op 5 (.op 17 (.op 18 (.nil))))) (.op 5 (.op 16 (.op 17 (.op 18 (.nil))))))) (.op 5 (.op 15 (.op 16 (.op 17 (.op 18 (.nil)))))))) (.op 5 (.alt (.op 15 (.alt (.op 16 (.op 3 (.op 17 (.op 18 (.nil))))) (.op 3 (.op 16 (.op 17 (.op 18 (.nil))))))) (.op 3 (.op 15 (.op 16 (.op 17 (.op 18 (.nil))))))))))))))))))))))) (by kernel_rfl) ?_;refine⟨_,zcy (hdr hmY) (i:=2) rfl,?_⟩;refine⟨u8 e.l,zac (zab (hdr fY)) (i:=2) rfl,?_⟩;refine⟨l,by rw [<- hle],hll,?_⟩;refine⟨slV y,by have:=zac (zab (hdr fBY)) (i:=l*1) (v:=slV y) (by rw [Nat.mul_one];exact hrl);exact this,?_⟩;have hsz:x.ev.length-(k+1)<x.ev.length-k:=(by omega);have app:∀ {K:Value->World->Prop},(∀ p2 c2 V,((MixH V b x (some ⟨bp,op,none⟩) c [nilV,nilV,.slice (some ⟨B,0,none⟩) locs locs]/\V.heap[Z.heap.size]?=some (.cells (evE.enc e).toArray 54 (0,0))) /\
      SatR ((storeVar 108 ⟨B,0+l*1,none⟩ (slV (y.1++[k],p2,c2))).run Tryz.prog V) fun _ S=>MixH S b x (some ⟨bp,op,none⟩) c [nilV,nilV,.slice (some ⟨B,0,none⟩) locs locs]/\RowLH S B (W.set l (y.1++[k],p2,c2))/\w.grownBy S (some b)/\(W.set l (y.1++[k],p2,c2)).length=locs/\wrsG (k+1) (x.ev.drop (k+1)) ((W.set l (y.1++[k],p2,c2)).map (·.1))=(zcB x locs).wr/\Rows B S (W.set l (y.1++[k],p2,c2))/\∀ z∈W.set l (y.1++[k],p2,c2),z.1.length<=k+1/\∀ a∈z.1,a<x.ev.length)->K (slV (y.1++[k],p2,c2)) V) ->
      SatR ((Builtin.append_ #[108,108] 108 #[slV y,.slice (some ⟨Y.drew.heap.size,0,none⟩) 1 1]).run Tryz.prog (Y.drew.alloc (.cells (natE.enc k).toArray 3))) K:=fun {K} h =>
     zbJ (E:=natE) (T:=3) (B:=B) (l:=y.1) (news:=[k]) (cap:=y.2.2) (m:=1) Tryz.underlying108 k3 rfl rfl rfl (hyo.below (hd.trans hba)) rfl (zbi natE k) (by have:=gY.size;omega) (by omega) (by show (y.1.length+1)*8<=_;omega) fun p2 c2 V oV gV hbV hat2=>h p2 c2 V (fin p2 c2 V oV gV hat2)
    have hmA:=hold (.cells (natE.enc k).toArray 3 (0,0)) (hdr hmY);have fEA:=hold (.cells (natE.enc k).toArray 3 (0,0)) (hdr fY);refine And.intro ?_ (And.intro ?_ ?_)
    ·refine⟨⟨by decide,by decide,rfl⟩,natE.enc k,rfl,?_⟩;refine⟨hba,?_⟩;refine And.intro ?_ (And.intro ?_ ?_)
     ·refine app fun p2 c2 V ⟨⟨hmV,fEV⟩,hst⟩=>?_;refine And.intro ?_ ?_
      ·refine⟨_,zcy hmV (i:=2) rfl,?_⟩;refine⟨u8 e.l,zac (zab fEV) (i:=2) rfl,?_⟩;refine⟨l,by rw [<- hle],hll,?_⟩;refine SatR.mono hst ?_;rintro _ S hS;refine nxI (by omega) ?_;exact⟨(k+1,W.set l (y.1++[k],p2,c2)),(cvE rfl rfl),⟨hkl,hS⟩,hsz⟩
      ·refine⟨u8 e.l,zac (zab fEV) (i:=2) rfl,?_⟩;refine⟨_,zcy hmV (i:=2) rfl,?_⟩;refine⟨l,by rw [<- hle],hll,?_⟩;refine SatR.mono hst ?_;rintro _ S hS;refine nxI (by omega) ?_;exact⟨(k+1,W.set l (y.1++[k],p2,c2)),(cvE rfl rfl),⟨hkl,hS⟩,hsz⟩
     ·refine⟨_,zcy hmA (i:=2) rfl,?_⟩;refine And.intro ?_ ?_
      ·refine app fun p2 c2 V ⟨⟨hmV,fEV⟩,hst⟩=>?_;refine⟨u8 e.l,zac (zab fEV) (i:=2) rfl,?_⟩;refine⟨l,by rw [<- hle],hll,?_⟩;refine SatR.mono hst ?_;rintro _ S hS;refine nxI (by omega) ?_;exact⟨(k+1,W.set l (y.1++[k],p2,c2)),(cvE rfl rfl),⟨hkl,hS⟩,hsz⟩
      ·refine⟨u8 e.l,zac (zab fEA) (i:=2) rfl,?_⟩;refine app fun p2 c2 V ⟨⟨hmV,fEV⟩,hst⟩=>?_;refine⟨l,by rw [<- hle],hll,?_⟩;refine SatR.mono hst ?_;rintro _ S hS;refine nxI (by omega) ?_;exact⟨(k+1,W.set l (y.1++[k],p2,c2)),(cvE rfl rfl),⟨hkl,hS⟩,hsz⟩
     ·refine⟨u8 e.l,zac (zab fEA) (i:=2) rfl,?_⟩;refine And.intro ?_ ?_
      ·refine app fun p2 c2 V ⟨⟨hmV,fEV⟩,hst⟩=>?_;refine⟨_,zcy hmV (i:=2) rfl,?_⟩;refine⟨l,by rw [<- hle],hll,?_⟩;refine SatR.mono hst ?_;rintro _ S hS;refine nxI (by omega) ?_;exact⟨(k+1,W.set l (y.1++[k],p2,c2)),(cvE rfl rfl),⟨hkl,hS⟩,hsz⟩
      ·refine⟨_,zcy hmA (i:=2) rfl,?_⟩;refine app fun p2 c2 V ⟨⟨hmV,fEV⟩,hst⟩=>?_;refine⟨l,by rw [<- hle],hll,?_⟩;refine SatR.mono hst ?_;rintro _ S hS;refine nxI (by omega) ?_;exact⟨(k+1,W.set l (y.1++[k],p2,c2)),(cvE rfl rfl),⟨hkl,hS⟩,hsz⟩
    ·refine⟨_,zcy (hdr hmY) (i:=2) rfl,?_⟩;refine And.intro ?_ ?_
     ·refine⟨⟨by decide,by decide,rfl⟩,natE.enc k,rfl,?_⟩;refine⟨hba,?_⟩;refine And.intro ?_ ?_
      ·refine app fun p2 c2 V ⟨⟨hmV,fEV⟩,hst⟩=>?_;refine⟨u8 e.l,zac (zab fEV) (i:=2) rfl,?_⟩;refine⟨l,by rw [<- hle],hll,?_⟩;refine SatR.mono hst ?_;rintro _ S hS;refine nxI (by omega) ?_;exact⟨(k+1,W.set l (y.1++[k],p2,c2)),(cvE rfl rfl),⟨hkl,hS⟩,hsz⟩
      ·refine⟨u8 e.l,zac (zab fEA) (i:=2) rfl,?_⟩;refine app fun p2 c2 V ⟨⟨hmV,fEV⟩,hst⟩=>?_;refine⟨l,by rw [<- hle],hll,?_⟩;refine SatR.mono hst ?_;rintro _ S hS;refine nxI (by omega) ?_;exact⟨(k+1,W.set l (y.1++[k],p2,c2)),(cvE rfl rfl),⟨hkl,hS⟩,hsz⟩
     ·refine⟨u8 e.l,zac (zab (hdr fY)) (i:=2) rfl,?_⟩;refine⟨⟨by decide,by decide,rfl⟩,natE.enc k,rfl,?_⟩;refine⟨hba,?_⟩;refine app fun p2 c2 V ⟨⟨hmV,fEV⟩,hst⟩=>?_;refine⟨l,by rw [<- hle],hll,?_⟩;refine SatR.mono hst ?_;rintro _ S hS;refine nxI (by omega) ?_;exact⟨(k+1,W.set l (y.1++[k],p2,c2)),(cvE rfl rfl),⟨hkl,hS⟩,hsz⟩
    ·refine⟨u8 e.l,zac (zab (hdr fY)) (i:=2) rfl,?_⟩;refine And.intro ?_ ?_
     ·refine⟨⟨by decide,by decide,rfl⟩,natE.enc k,rfl,?_⟩;refine⟨hba,?_⟩;refine And.intro ?_ ?_
      ·refine app fun p2 c2 V ⟨⟨hmV,fEV⟩,hst⟩=>?_;refine⟨_,zcy hmV (i:=2) rfl,?_⟩;refine⟨l,by rw [<- hle],hll,?_⟩;refine SatR.mono hst ?_;rintro _ S hS;refine nxI (by omega) ?_;exact⟨(k+1,W.set l (y.1++[k],p2,c2)),(cvE rfl rfl),⟨hkl,hS⟩,hsz⟩
      ·refine⟨_,zcy hmA (i:=2) rfl,?_⟩;refine app fun p2 c2 V ⟨⟨hmV,fEV⟩,hst⟩=>?_;refine⟨l,by rw [<- hle],hll,?_⟩;refine SatR.mono hst ?_;rintro _ S hS;refine nxI (by omega) ?_;exact⟨(k+1,W.set l (y.1++[k],p2,c2)),(cvE rfl rfl),⟨hkl,hS⟩,hsz⟩
     ·refine⟨_,zcy (hdr hmY) (i:=2) rfl,?_⟩;refine⟨⟨by decide,by decide,rfl⟩,natE.enc k,rfl,?_⟩;refine⟨hba,?_⟩;refine app fun p2 c2 V ⟨⟨hmV,fEV⟩,hst⟩=>?_;refine⟨l,by rw [<- hle],hll,?_⟩;refine SatR.mono hst ?_;rintro _ S hS;refine nxI (by omega) ?_;exact⟨(k+1,W.set l (y.1++[k],p2,c2)),(cvE rfl rfl),⟨hkl,hS⟩,hsz⟩
   ·have h:¬ e.k=2:=fun e'=>dF h (by rw [e'];rfl);rw [if_neg h] at hacc;refine nxI (by omega) ?_;exact⟨(k+1,W),(cvE rfl rfl),⟨hkl,hmY,fBY,gY,hWl,hacc,hRY,fun y hy=>⟨by have:=(hL y hy).1;show _<=k+1;omega,(hL y hy).2⟩⟩,zdc (by omega)⟩
  ·have hc:¬ (k:Int)<(x.ev.length:Int):=dF hc;obtain rfl:k=x.ev.length:=by omega
   rw [List.drop_length] at hacc;exact⟨W,(cvE rfl rfl),hmZ,fZ,gZ,hWl,hacc,hR,fun y hy=>⟨by have:=(hL y hy).1;omega,(hL y hy).2⟩⟩
 rintro W X ⟨hmX,fX,gX,hWl,hwr,hR,hWb⟩;refine⟨_,zeE hmX,?_⟩;obtain⟨RS,hRS⟩:=nm ((zcB x locs).rs);have hRSg:RS=rdsG x.ev (W.map (·.1)) 0 x.ev:=by rw [hRS,hwr];rfl
 rw [<- hRS,<- hwr];have sX:B<X.heap.size:=hlt fX;refine⟨Nat×List (Nat×List Nat)×List NatL×(Option Addr×Nat)×(Option Addr×Nat),fun s=>⟨[(0,At0 b),(53,.slice q x.ev.length c),(54,i64 x.ev.length),(55,i64 (s.1:Nat))],[]⟩,
  fun s Z=>s.1<=x.ev.length/\RS=s.2.1++rdsG x.ev (W.map (·.1)) s.1 (x.ev.drop s.1)/\s.2.1.length<=s.1/\s.2.2.1.map (·.1)=s.2.1.map (·.2)/\MixH Z b x q c [.slice s.2.2.2.1.1 (s.2.1.map (·.1)).length s.2.2.2.1.2,.slice s.2.2.2.2.1 s.2.2.1.length s.2.2.2.2.2,.slice (some ⟨B,0,none⟩) locs locs]/\RowLH Z B W/\w.grownBy Z (some b)/\(∀ y∈W,OwnS natE 3 B Z y.2.1 y.2.2 y.1)/\(∀ y∈s.2.2.1,OwnS natE 3 B Z y.2.1 y.2.2 y.1) /\
   OwnS natE 3 B Z s.2.2.2.1.1 s.2.2.2.1.2 (s.2.1.map (·.1))/\OwnS zbS 108 B Z s.2.2.2.2.1 s.2.2.2.2.2 s.2.2.1/\(∀ a,s.2.2.2.1.1=some a->∀ y,y∈s.2.2.1\/y∈W->∀ b',y.2.1=some b'->a.block≠b'.block)/\(∀ a,s.2.2.2.2.1=some a->a.block≠B),
  fun s=>x.ev.length-s.1,(0,[],[],(none,0),(none,0)),
  (cvE rfl rfl),⟨Nat.zero_le _,hRSg,Nat.le_refl _,rfl,hmX,fX,gX,hR.own,fun y hy=>(by cases hy),OwnS.nil,OwnS.nil,fun a ha=>(by cases ha),fun a ha=>(by cases ha)⟩,?_⟩
 clear hmX fX gX hR sX;rintro⟨k,dn,xs,⟨p1,c1⟩,⟨p2,c2⟩⟩ Z ⟨hk,hspec,hdl,hxs,hmZ,fZ,gZ,hWo,hxo,ho1,ho2,hd1,hd2⟩;dsimp only at hk hspec hdl hxs hmZ hxo ho1 ho2 hd1 hd2 ⊢;refine biE (fun hc=>?_) fun hc=>?_
 ·have hc:(k:Int)<(x.ev.length:Int):=dT hc;have hkl:k<x.ev.length:=by omega
  obtain⟨e,he⟩:∃ e,x.ev[k]=e:=⟨_,rfl⟩;have hem:e∈x.ev:=by rw [<- he];exact gM hkl
  rw [<- List.getElem_cons_drop hkl,he] at hspec;have hlZ:=zq1 hl hqb gZ;obtain⟨bp,op,hqe,hlp,hat⟩:=hlZ.at hkl;subst hqe;refine⟨k,rfl,hkl,?_⟩;refine⟨evE.enc e,rfl,by rw [<- he];exact hat k hkl,hlp,?_⟩;refine zak (X:=Z) (v := .agg (evE.enc e).toArray) k54 rfl rfl (List.all_eq_true.2 fun u hu=>evE.one e u hu) fun Y hbY fY sY=>?_;have gY:=zaf gZ (zai (row:=some b) hbY);have hmY:=zaa hbY hmZ;have fBY:=zaa hbY fZ;have fY:Y.heap[Z.heap.size]?=some (.cells (evE.enc e).toArray 54 (0,0)):=fY;refine⟨u8 e.k,zac (zab fY) (i:=1) rfl,?_⟩;refine biE (fun h=>?_) fun h=>?_
  ·have h:¬ e.k=1:=fun e'=>by
    rw [e'] at h;exact absurd h (by decide)
   have hspec:RS=dn++(if e.k=1 then (k,((W.map (·.1)).getD e.l.toNat []).filter fun w=>decide ((x.ev.getD w ev0).v=e.v))::rdsG x.ev (W.map (·.1)) (k+1) (x.ev.drop (k+1)) else rdsG x.ev (W.map (·.1)) (k+1) (x.ev.drop (k+1))):=hspec;rw [if_neg h] at hspec;refine nxI (by omega) ?_;exact⟨(k+1,dn,xs,(p1,c1),(p2,c2)),(cvE rfl rfl),⟨hkl,hspec,by show dn.length<=k+1;omega,hxs,hmY,fBY,gY,fun y hy=>(hWo y hy).below hbY,fun y hy=>(hxo y hy).below hbY,ho1.below hbY,ho2.below hbY,hd1,hd2⟩,zdc (by omega)⟩
  ·have h1:decide ((e.k.toNat:Int)=1)=true:=by simpa using h
   have h:e.k=1:=zbj.1 (dT h1);obtain⟨l,hle⟩:∃ l,e.l.toNat=l:=⟨_,rfl⟩;have hll:l<locs:=by rw [<- hle];exact hv e hem (.inl h)
   have hlW:l<W.length:=by omega
   obtain⟨y,hy⟩:∃ y,W[l]?=some y:=⟨_,gE hlW⟩;have hym:y∈W:=List.mem_of_getElem? hy;have hgd:(W.map (·.1)).getD l []=y.1:=by rw [gDe,List.getElem?_map,hy];rfl
   obtain⟨P,hP⟩:∃ P:Nat->Bool,P=fun w=>decide ((x.ev.getD w ev0).v=e.v):=⟨_,rfl⟩;have hspec:RS=dn++(k,y.1.filter P)::rdsG x.ev (W.map (·.1)) (k+1) (x.ev.drop (k+1)):=by
    have hspec:RS=dn++(if e.k=1 then (k,((W.map (·.1)).getD e.l.toNat []).filter fun w=>decide ((x.ev.getD w ev0).v=e.v))::rdsG x.ev (W.map (·.1)) (k+1) (x.ev.drop (k+1)) else rdsG x.ev (W.map (·.1)) (k+1) (x.ev.drop (k+1))):=hspec;rw [if_pos h,hle,hgd,<- hP] at hspec;exact hspec
   obtain⟨hy48,hyb⟩:=hWb y hym;have hyo:=(hWo y hym).below hbY;have hrl:(rowL W)[l]?=some (slV y):=by unfold rowL;rw [List.getElem?_map,hy];rfl
   have hd:Bw Y Y.drew:=(Below.refl _ Y).drew;refine DrawE.ord [] [0,1,2,3,4,5,6,7,8,9] (by kernel_rfl) ?_;refine⟨_,zcy (hdr hmY) (i:=2) rfl,?_⟩;refine⟨u8 e.l,zac (zab (hdr fY)) (i:=2) rfl,?_⟩;refine⟨l,by rw [<- hle],hll,?_⟩;refine⟨slV y,by have:=zac (zab (hdr fBY)) (i:=l*1) (v:=slV y) (by rw [Nat.mul_one];exact hrl);exact this,?_⟩;obtain⟨M,hM⟩:=nm (Y.heap.size);refine⟨Nat×List Nat×Option Addr×Nat,fun s=>⟨[(0,At0 b),(6,i64 (k:Nat)),(7,At0 Z.heap.size),(8,.slice s.2.2.1 s.2.1.length s.2.2.2),(53,.slice (some ⟨bp,op,none⟩) x.ev.length c),(54,i64 x.ev.length),(55,i64 (k:Nat)),(70,slV y),(71,i64 y.1.length),(72,i64 (s.1:Nat))],[]⟩,
    fun s V=>s.1<=y.1.length/\s.2.1=(y.1.take s.1).filter P/\OwnS natE 3 M V s.2.2.1 s.2.2.2 s.2.1/\Below M Y V,fun s=>y.1.length-s.1,(0,[],none,0),
    (cvE rfl rfl),⟨Nat.zero_le _,rfl,OwnS.nil,by rw [hM];exact hd⟩,?_⟩
   rintro⟨i,fr,p3,c3⟩ V ⟨hi,hfr,hoV,hbV⟩;dsimp only at hi hfr hoV ⊢;have sV:=hbV.size;have hmV:=(hbV.block b (by have:=hlt hmY;omega)).trans hmY;have fEV:=(hbV.block Z.heap.size (by have:=hlt fY;omega)).trans fY;have fBV:=(hbV.block B (by have:=hlt fBY;omega)).trans fBY;have hbYV:Bw Y V:=by rw [hM] at hbV;exact hbV
   have hyoV:=hyo.below hbYV;have hfl:fr.length<=i:=by rw [hfr];exact Nat.le_trans (List.length_filter_le _ _) (by rw [List.length_take];exact Nat.min_le_left _ _)
   refine biE (fun hc=>?_) fun hc=>?_
   ·have hc:(i:Int)<(y.1.length:Int):=dT hc;have hil:i<y.1.length:=(by omega);have hyi:=hyb y.1[i] (gM hil);have hlV:=zq1 hl hqb (zbl gY (hbV.mono (by have:=gY.size;omega)));obtain⟨by_,oy,hye,hly,haty⟩:=hyoV.row.at hil;obtain⟨bq,oq,hqe,hlq,hatq⟩:=hlV.at hyi;simp only [Option.some.injEq,Addr.mk.injEq,and_true] at hqe;obtain⟨rfl,rfl⟩:=hqe;have htk:(y.1.take (i+1)).filter P=fr++(if P y.1[i] then [y.1[i]] else []):=by
     rw [tsg hil,List.filter_append,hfr]
     cases hPi:P y.1[i] <;> simp [hPi]
    have hPv:P y.1[i]=decide (x.ev[y.1[i]].v=e.v):=by
     rw [hP];show decide ((x.ev.getD y.1[i] ev0).v=e.v)=_;rw [gDe,gE hyi];rfl
    rw [show slV y = .slice (some ⟨by_,oy,none⟩) y.1.length y.2.2 by unfold slV;rw [hye]];refine⟨i,rfl,hil,?_⟩;refine⟨i64 y.1[i],zac (haty i hil) (i:=0) rfl,?_⟩;refine DrawE.ord [] [0,1,2,3,4,5,6,7,8,9,10,11] (by kernel_rfl) ?_;refine⟨_,zeE (hdr hmV),?_⟩;refine⟨y.1[i],rfl,hyi,?_⟩;have hdV:Bw V V.drew:=(Below.refl _ V).drew;refine⟨u8 x.ev[y.1[i]].v,by have:=zac (zae hdV (hatq y.1[i] hyi)) (i:=3) (v:=u8 x.ev[y.1[i]].v) rfl;exact this,?_⟩;refine⟨u8 e.v,zac (zab (hdr fEV)) (i:=3) rfl,?_⟩;refine biE (fun hq=>?_) fun hq=>?_
    ·have hq:x.ev[y.1[i]].v=e.v:=zbj.1 (dT hq);rw [hPv,decide_eq_true hq,if_pos rfl] at htk;refine⟨⟨by decide,by decide,rfl⟩,natE.enc y.1[i],rfl,?_⟩;have hba:Below V.drew.heap.size V.drew (V.drew.alloc (.cells (natE.enc y.1[i]).toArray 3)):=zba _ _;refine zbJ (E:=natE) (T:=3) (B:=M) (l:=fr) (news:=[y.1[i]]) (cap:=c3) (m:=1) Tryz.underlying108 k3 rfl rfl rfl (hoV.below (hdV.trans hba)) rfl (zbi natE y.1[i]) (by have:=hba.size;have:=hdV.size;omega) (by omega) (by show (fr.length+1)*8<=_;omega) ?_;intro p4 c4 U oU gU hbU hat4;refine nxI (by omega) ?_;refine⟨(i+1,fr++[y.1[i]],p4,c4),(cvE rfl rfl),⟨hil,htk.symm,oU,?_⟩,zdc (by omega)⟩;exact ((hbV.trans (hdV.mono (by omega))).trans (hba.mono (by have:=hdV.size;omega))).trans hbU
    ·have hq:¬ x.ev[y.1[i]].v=e.v:=fun e'=>dF hq (by rw [e']);rw [hPv,decide_eq_false hq] at htk;simp only [Bool.false_eq_true,if_false,List.append_nil] at htk;refine nxI (by omega) ?_;exact⟨(i+1,fr,p3,c3),(cvE rfl rfl),⟨hil,htk.symm,hoV.below hdV,hbV.trans (hdV.mono (by omega))⟩,zdc (by omega)⟩
   ·have hc:¬ (i:Int)<(y.1.length:Int):=dF hc;obtain rfl:i=y.1.length:=(by omega);rw [List.take_length] at hfr;have hbMB:B<=M:=(by have:=hlt fBY;omega);have hxlen:xs.length=dn.length:=by
     have:=congrArg List.length hxs;simpa using this
    refine⟨.slice p1 (dn.map (·.1)).length c1,zcy hmV (i:=0) rfl,?_⟩;refine⟨⟨by decide,by decide,rfl⟩,natE.enc k,rfl,?_⟩;obtain⟨V1,hV1⟩:=nm (V.alloc (.cells (natE.enc k).toArray 3));have hb1:Bw V V1:=(by rw [hV1];exact (zba _ _));have s1:V1.heap.size=V.heap.size+1:=(by rw [hV1];exact wz _ _);have hZV:Bw Z V:=zst hbY hbYV;have hZV1:Bw Z V1:=zst hZV hb1;have ho1V:=ho1.below hZV1;rw [<- hV1];refine appI ho1V (by rw [hV1];exact zbi natE k) (by omega) (by rw [List.length_map];omega) fun q1 d1 U oU gU hat1=>?_;rw [zcN] at gU;have hmV1:=zaa hb1 hmV;have hmU:=za0 hmV1 ho1V (by decide) gU;have fBU:=za0 (zaa hb1 fBV) ho1V (by decide) gU;refine zar k108 hmU (o:=0+333) (v := .slice q1 (dn.map (·.1)++[k]).length d1) rfl rfl (by rw [lap,zat];show 333<336;decide) rfl fun S fS gS sS=>?_;rw [show 0+333=333+0 from rfl,zjH] at fS;have fS:MixH S b x (some ⟨bp,op,none⟩) c [.slice q1 (dn.map (·.1)++[k]).length d1,.slice p2 xs.length c2,.slice (some ⟨B,0,none⟩) locs locs]:=fS;have p1M:∀ a,p1=some a->a.block<M:=fun a ha=>by have:=(zav ho1 ha).2.1;have:=hbY.size;omega
    have hoU:OwnS natE 3 M U p3 c3 fr:=zeZ (hoV.below hb1) gU fun a b' ha hb e=>by have:=p1M a ha;have:=(zav hoV hb).1;omega
    have hWU:∀ y∈W,OwnS natE 3 B U y.2.1 y.2.2 y.1:=fun y hy=>zeZ ((hWo y hy).below hZV1) gU fun a b' ha hb=>hd1 a ha y (.inr hy) b' hb;have hxU:∀ y∈xs,OwnS natE 3 B U y.2.1 y.2.2 y.1:=fun y hy=>zeZ ((hxo y hy).below hZV1) gU fun a b' ha hb=>hd1 a ha y (.inl hy) b' hb;have ho2U:=zcg (ho2.below hZV1) ho1V (by decide) gU;have hoS:=za2 hoU hmU (by decide) gS;have hWS:∀ y∈W,OwnS natE 3 B S y.2.1 y.2.2 y.1:=fun y hy=>za2 (hWU y hy) hmU (by decide) gS;have hxS:∀ y∈xs,OwnS natE 3 B S y.2.1 y.2.2 y.1:=fun y hy=>za2 (hxU y hy) hmU (by decide) gS;have ho2S:=za2 ho2U hmU (by decide) gS;have ho1S:=za2 oU hmU (by decide) gS;have hBb:B≠b:=(by omega);have fBS:=(gS.block B (hlt fBU) (by simp;omega)).trans fBU;refine⟨_,zcy fS (i:=1) rfl,?_⟩;refine⟨⟨by decide,by decide,rfl⟩,zbS.enc (fr,p3,c3),rfl,?_⟩;obtain⟨S1,hS1⟩:=nm (S.alloc (.cells (zbS.enc (fr,p3,c3)).toArray 108));have hbS1:Bw S S1:=(by rw [hS1];exact (zba _ _));have sS1:S1.heap.size=S.heap.size+1:=(by rw [hS1];exact wz _ _);have ho2S1:=ho2S.below hbS1;have sU:=gU.size;unfold opsE zdl;show SatR _ _;rw [<- hS1];refine appL ho2S1 (by rw [hS1];exact zbi zbS (fr,p3,c3)) (by omega) (by omega) fun q2 d2 N oN gN hat2=>?_;rw [zcN] at gN;have fN:=za0 (zaa hbS1 fS) ho2S1 (by decide) gN;refine zar k117 fN (o:=0+334) (v := .slice q2 (xs++[(fr,p3,c3)]).length d2) rfl rfl (by rw [lap,zat];show 334<336;decide) rfl fun O fO gO sO=>?_;rw [show 0+334=333+1 from rfl,zjH] at fO;have fO:MixH O b x (some ⟨bp,op,none⟩) c [.slice q1 ((dn++[(k,fr)]).map (·.1)).length d1,.slice q2 (xs++[(fr,p3,c3)]).length d2,.slice (some ⟨B,0,none⟩) locs locs]:=by
     rw [List.map_append];exact fO
    have step:∀ {q:Option Addr} {cc:Nat} {ll:List Nat} {B':Nat},OwnS natE 3 B' S q cc ll->OwnS natE 3 B' O q cc ll:=fun h =>
     za2 (zcg (h.below hbS1) ho2S1 (by decide) gN) fN (by decide) gO
    have h2B:∀ a,p2=some a->a.block≠B:=hd2;have fBO:RowLH O B W:=by
     have h1:=zaa hbS1 fBS;have h2:=(gN.block B (hlt h1) fun e=>by
      cases hp:p2 with
      | none=>rw [hp] at e;cases e
      | some a =>
       rw [hp] at e;simp only [Option.map_some,Option.some.injEq] at e;exact hd2 a hp e.symm).trans h1
     exact (gO.block B (hlt h2) (by simp;omega)).trans h2
    have newr:∀ a,q1=some a->p1=some a\/V.heap.size<=a.block:=fun a ha=>(hat1 a ha).imp id fun h=>by omega
    have new2:∀ a,q2=some a->p2=some a\/U.heap.size<=a.block:=fun a ha=>(hat2 a ha).imp id fun h=>by omega
    have frM:∀ a,p3=some a->M<=a.block/\a.block<V.heap.size:=fun a ha=>⟨(zav hoV ha).1,(zav hoV ha).2.1⟩;have hwb:w.grownBy O (some b):=by
     have sG:=gS.size;have sZ:=hlt fZ;have e0:Below B Z V1:=hZV1.mono (by omega);have e1:Below B V1 U:=zbc ho1V (by omega) (Nat.le_refl _) gU;have e2:Below B S S1:=hbS1.mono (by omega);have e3:Below B S1 N:=zbc ho2S1 (by omega) (Nat.le_refl _) gN;rw [hB] at e0 e1 e2 e3;exact zaf (zbl (zbl (zaf (zbl (zbl gZ e0) e1) gS) e2) e3) gO
    refine nxI (by omega) ?_;refine⟨(k+1,dn++[(k,fr)],xs++[(fr,p3,c3)],(q1,d1),(q2,d2)),(cvE rfl rfl),⟨hkl,?_,?_,?_,fO,fBO,hwb,fun y hy=>step (hWS y hy),fun y hy=>?_,?_,za2 oN fN (by decide) gO,fun a ha y hy b' hb'=>?_,fun a ha=>?_⟩,zdc (by omega)⟩
    ·show RS=(dn++[(k,fr)])++_;rw [hspec,<- hfr,List.append_assoc];rfl
    ·show (dn++[(k,fr)]).length<=k+1;simp only [lap,List.length_cons,List.length_nil];omega
    ·show (xs++[(fr,p3,c3)]).map (·.1)=(dn++[(k,fr)]).map (·.2);rw [List.map_append,List.map_append,hxs];rfl
    ·rcases List.mem_append.1 hy with hy | hy
     ·exact step (hxS y hy)
     ·rw [List.mem_singleton.1 hy];exact step (hoS.lower hbMB)
    ·show OwnS natE 3 B O q1 d1 ((dn++[(k,fr)]).map (·.1));rw [List.map_append];exact step ho1S
    ·have old:(y∈xs\/y∈W)\/y=(fr,p3,c3):=by
      rcases hy with hy | hy
      ·rcases List.mem_append.1 hy with hy | hy
       ·exact .inl (.inl hy)
       ·exact .inr (List.mem_singleton.1 hy)
      ·exact .inl (.inr hy)
     rcases old with hy | rfl
     ·rcases newr a ha with h | h
      ·exact hd1 a h y hy b' hb'
      ·have:b'.block<Z.heap.size:=by
        rcases hy with hy | hy
        ·exact (zav (hxo y hy) hb').2.1
        ·exact (zav (hWo y hy) hb').2.1
       have:=hZV.size;omega
     ·have h3:=frM b' hb';rcases newr a ha with h | h
      ·have:=p1M a h;omega
      ·omega
    ·rcases new2 a ha with h | h
     ·exact hd2 a h
     ·omega
 ·have hc:¬ (k:Int)<(x.ev.length:Int):=dF hc;obtain rfl:k=x.ev.length:=by omega
  rw [List.drop_length] at hspec;have hspec:RS=dn++[]:=hspec;rw [List.append_nil] at hspec;subst hspec;refine⟨rfl,⟨p1,p2,some ⟨B,0,none⟩,c1,c2,locs,xs,W,by rw [hWl];rw [List.length_map] at hmZ;exact hmZ,by rw [<- hB];exact ho1,hxs,by rw [<- hB];exact ho2,by rw [<- hB];exact hxo,rfl,?_,by rw [<- hB];exact hWo⟩,gZ⟩;rw [<- hB];have:=fZ.own (B:=B) (Nat.le_refl _) (by unfold maxLen;omega);rw [hWl] at this;exact this
end
theorem zm9 {P:Program} {w:World} {t ty:TypeId} {a b:Nat} {K:Value->World->Prop} (k:K (i64 (min a b:Nat)) w):SatR ((Builtin.min_ #[t,t] ty #[i64 a,i64 b]).run P w) K:=by
 refine SatR.mk (v:=i64 (min a b:Nat)) (w':=w) ?_ k;by_cases h:(b:Int)<a
 ·have e:min a b=b:=Nat.min_eq_right (by omega);rw [e];simp [Builtin.min_,Builtin.min2,i64,h]
 ·have e:min a b=a:=Nat.min_eq_left (by omega);rw [e];simp [Builtin.min_,Builtin.min2,i64,h]
section
variable {b o:Nat} {x:ExD} {q:Option Addr} {c:Nat} {w:World} {r:Value} {p2 p3:Option Addr} {c2 c3 lim:Nat} {xs ys:List NatL}
def cntF (lim:Nat) (fs ws:List (List Nat)):Nat:=match cntS lim fs 1 with
 | none=>0
 | some n=>cntW lim ws n
theorem zq7 (hm:zax w ⟨b,o,none⟩ (exC x q c++[r,.slice p2 xs.length c2,.slice p3 ys.length c3])) (h2:SlR zbS w p2 xs) (h3:SlR zbS w p3 ys) (hx:∀ y∈xs,y.1.length<=1000) (hy:∀ y∈ys,y.1.length<=1000) (hxl:xs.length<=1000) (hyl:ys.length<=1000) (hl0:1<=lim) (hl:lim<=100000) :
  Calls Tryz.prog 83 #[.pointer (some ⟨b,o,none⟩),i64 lim] w fun e w'=>e = .returned (i64 (cntF lim (xs.map (·.1)) (ys.map (·.1)):Nat))/\w=w':=by
 refine cofE 52 [.pointer (some ⟨b,o,none⟩),i64 lim] Tryz.func83 ?_;have g2:w.cell? ⟨b,o+334,none⟩=some (.slice p2 xs.length c2):=zac hm (zhU (i:=1) rfl);have g3:w.cell? ⟨b,o+335,none⟩=some (.slice p3 ys.length c3):=zac hm (zhU (i:=2) rfl);refine⟨_,g2,?_⟩;obtain⟨fs,hfs⟩:=nm (xs.map (·.1));have hfl:fs.length=xs.length:=by rw [hfs,List.length_map]
 rw [<- hfs];refine⟨Nat×Nat,fun s=>⟨[(0,.pointer (some ⟨b,o,none⟩)),(1,i64 lim),(5,i64 (s.2:Nat)),(14,.slice p2 xs.length c2),(15,i64 xs.length),(16,i64 (s.1:Nat))],[]⟩,
  fun s X=>s.1<=xs.length/\s.2<=lim/\cntS lim (fs.drop s.1) s.2=cntS lim fs 1/\w=X,fun s=>xs.length-s.1,(0,1),
  (cvE rfl rfl),⟨Nat.zero_le _,hl0,rfl,rfl⟩,?_⟩
 rintro⟨k,n⟩ _ ⟨hk,hnl,hacc,rfl⟩;dsimp only at hk hnl hacc ⊢;refine biE (fun hc=>?_) fun hc=>?_
 ·have hc:(k:Int)<(xs.length:Int):=dT hc;have hkl:k<xs.length:=by omega
  obtain⟨bp,op,rfl,hlp,hat⟩:=h2.at hkl;have hfk:fs[k]'(by omega)=xs[k].1:=by simp [hfs]
  rw [<- List.getElem_cons_drop (show k<fs.length by omega),hfk] at hacc;have hacc:(if xs[k].1=[] then none else cntS lim (fs.drop (k+1)) (min (n*xs[k].1.length) lim))=cntS lim fs 1:=hacc;have h1000:=hx xs[k] (gM hkl);refine⟨k,rfl,hkl,?_⟩;refine⟨slV xs[k],zac (hat k hkl) (i:=0) rfl,?_⟩;refine biE (fun h=>?_) fun h=>?_
  ·have h:(xs[k].1.length:Int)=0:=dT h;have h0:xs[k].1=[]:=List.eq_nil_of_length_eq_zero (by omega);rw [if_pos h0] at hacc;refine⟨?_,rfl⟩;unfold cntF;rw [<- hacc];rfl
  ·have h:¬ (xs[k].1.length:Int)=0:=dF h;have h0:xs[k].1≠[]:=fun e=>h (by rw [e];rfl);rw [if_neg h0] at hacc;have hm':n*xs[k].1.length<=100000*1000:=Nat.mul_le_mul (by omega) h1000;refine⟨((n*xs[k].1.length:Nat):Int),by rw [Int.natCast_mul];exact zaj (by rw [<- Int.natCast_mul];omega),?_⟩;refine zm9 ?_;refine nxI (by omega) ?_;exact⟨(k+1,min (n*xs[k].1.length) lim),(cvE rfl rfl),⟨hkl,Nat.min_le_right _ _,hacc,rfl⟩,zdc (by omega)⟩
 have hc:¬ (k:Int)<(xs.length:Int):=dF hc;rw [List.drop_eq_nil_of_le (by omega)] at hacc;have hacc:some n=cntS lim fs 1:=hacc;have hres:cntF lim fs (ys.map (·.1))=cntW lim (ys.map (·.1)) n:=by unfold cntF;rw [<- hacc]
 rw [hres];obtain⟨ws,hws⟩:=nm (ys.map (·.1));have hwl:ws.length=ys.length:=by rw [hws,List.length_map]
 rw [<- hws];clear hres hacc hc hk hfl hfs g2;refine⟨_,g3,?_⟩;refine⟨Nat×Nat,fun s=>⟨[(0,.pointer (some ⟨b,o,none⟩)),(1,i64 lim),(5,i64 (s.2:Nat)),(33,.slice p3 ys.length c3),(34,i64 ys.length),(35,i64 (s.1:Nat))],[]⟩,
  fun s X=>s.1<=ys.length/\s.2<=lim/\cntW lim (ws.drop s.1) s.2=cntW lim ws n/\w=X,fun s=>ys.length-s.1,(0,n),
  (cvE rfl rfl),⟨Nat.zero_le _,hnl,rfl,rfl⟩,?_⟩
 rintro⟨k,n'⟩ _ ⟨hk,hnl',hacc,rfl⟩;dsimp only at hk hnl' hacc ⊢;refine biE (fun hc=>?_) fun hc=>?_
 ·have hc:(k:Int)<(ys.length:Int):=dT hc;have hkl:k<ys.length:=by omega
  obtain⟨bp,op,rfl,hlp,hat⟩:=h3.at hkl;have hfk:ws[k]'(by omega)=ys[k].1:=by simp [hws]
  rw [<- List.getElem_cons_drop (show k<ws.length by omega),hfk] at hacc;obtain⟨L,hL⟩:=nm (ys[k].1.length);have hacc:cntW lim (ws.drop (k+1)) (cntK lim L L 2 n')=cntW lim ws n:=by rw [hL];exact hacc
  have h1000:=hy ys[k] (gM hkl);rw [<- hL] at h1000;refine⟨k,rfl,hkl,?_⟩;refine⟨slV ys[k],zac (hat k hkl) (i:=0) rfl,?_⟩;refine⟨Nat×Nat×Nat,fun s=>⟨[(0,.pointer (some ⟨b,o,none⟩)),(1,i64 lim),(5,i64 (s.2.2:Nat)),(9,slV ys[k]),(10,i64 (s.2.1:Nat)),(33,.slice (some ⟨bp,op,none⟩) ys.length c3),(34,i64 ys.length),(35,i64 (k:Nat))],[]⟩,
   fun s X=>s.2.2<=lim/\L<=s.2.1+s.1/\s.2.1<=L+2/\cntK lim L s.1 s.2.1 s.2.2=cntK lim L L 2 n'/\w=X,fun s=>s.1,(L,2,n'),
   (cvE rfl rfl),⟨hnl',by show L<=2+L;omega,by show 2<=L+2;omega,rfl,rfl⟩,?_⟩
  rintro⟨m,j,n2⟩ _ ⟨hn2,hLj,hjL,hK,rfl⟩;dsimp only at hn2 hLj hjL hK ⊢;refine biE (fun hc=>?_) fun hc=>?_
  ·have hc:(j:Int)<(ys[k].1.length:Int):=dT hc;have hjl:j<L:=by omega
   obtain⟨m,rfl⟩:∃ m',m=m'+1:=⟨m-1,by omega⟩;have hK:(if j<L then cntK lim L m (j+1) (min (n2*j) lim) else n2)=cntK lim L L 2 n':=hK;rw [if_pos hjl] at hK;have hm':n2*j<=100000*1000:=Nat.mul_le_mul (by omega) (by omega);refine⟨((n2*j:Nat):Int),by rw [Int.natCast_mul];exact zaj (by rw [<- Int.natCast_mul];omega),?_⟩;refine zm9 ?_;refine nxI (by omega) ?_;exact⟨(m,j+1,min (n2*j) lim),(cvE rfl rfl),⟨Nat.min_le_right _ _,by show L<=j+1+m;omega,by show j+1<=L+2;omega,hK,rfl⟩,Nat.lt_succ_self _⟩
  ·have hc:¬ (j:Int)<(ys[k].1.length:Int):=dF hc;have hjl:¬ j<L:=by omega
   have hK2:n2=cntK lim L L 2 n':=by
    rw [<- hK]
    cases m with
    | zero=>rfl
    | succ m =>
     show n2=if j<L then _ else n2
     rw [if_neg hjl]
   refine nxI (by omega) ?_;exact⟨(k+1,n2),(cvE rfl rfl),⟨hkl,hn2,by rw [hK2];exact hacc,rfl⟩,zdc (by omega)⟩
 ·have hc:¬ (k:Int)<(ys.length:Int):=dF hc;rw [List.drop_eq_nil_of_le (by omega)] at hacc;have hacc:n'=cntW lim ws n:=hacc;rw [<- hacc];exact⟨rfl,rfl⟩
end
theorem zbK:(zt34).toArray.size=333:=by kernel_rfl
theorem zb7:(zep).toArray.size=336:=by kernel_rfl
section
variable {w:World}
theorem zq3 {n:Nat}:CB 163 #[i64 n] w (.agg (exC (ex0 n) none 0).toArray):=by
 refine cofM 13 [i64 n] (.s .p (.c .p .p)) Tryz.func163 ?_;obtain⟨L,hL⟩:=nm (w.heap.size);obtain⟨X0,hX0⟩:=nm (w.alloc (.cells (zt34).toArray 34));have f0:X0.heap[L]?=some (.cells (zt34).toArray 34 (0,0)):=by rw [hX0,hL];exact hnew w _
 have s0:X0.heap.size=L+1:=by rw [hX0,hL];exact wz _ _
 have hb0:Bw w X0:=by rw [hX0];exact (zba w _)
 refine⟨Unit,fun _=>⟨[(2,At0 L),(3,At0 (L+1))],[]⟩,fun _ X=>X.heap[L]?=some (.cells (zt34).toArray 34 (0,0))/\RelH X (L+1) (relN n)/\Bw w X,?_,?_⟩
 ·refine⟨relC (relN n),rfl,?_⟩;refine zak (X:=w.alloc (.cells (zt34).toArray 34 (0,0))) (v := .agg (relC (relN n)).toArray) k27 (zad _) (by kernel_rfl) (zas _) fun V hbV fV sV=>?_;rw [<- hX0] at hbV fV sV;rw [s0] at fV sV;exact⟨(),⟨.cons (by rw [hL];rfl) (.cons (by rw [<- s0,hX0];rfl) .nil),rfl⟩,zaa hbV f0,fV,(zst hb0 hbV)⟩
 rintro _ X ⟨f1,f2,hbX⟩;refine⟨relC (relN n),zad _,zab f2,hlt f2,?_⟩;refine⟨relC (relN n),zad _,zab f2,hlt f2,?_⟩;refine⟨relC (relN n),zad _,zab f2,hlt f2,?_⟩;refine⟨relC (relN n),zad _,zab f2,hlt f2,?_⟩;refine⟨relC (relN n),zad _,zab f2,hlt f2,?_⟩;refine⟨relC (relN n),zad _,zab f2,hlt f2,?_⟩;refine⟨exC (ex0 n) none 0,by kernel_rfl,?_⟩;refine zaq (v := .agg (exC (ex0 n) none 0).toArray) k34 f1 (zat _ _ _) zbK (zdp _ _ _) ?_;exact⟨exC (ex0 n) none 0,zat _ _ _,zab (zal f1),rfl,zah hbX (by omega) _⟩
end
structure PathB (locs:Nat) (P:PathD):Prop where
 ev:P.ev.length<=24
 loc:∀ e∈P.ev,e.k=1\/e.k=2->e.l.toNat<locs
 dt:∀ p∈P.data,p.1<P.ev.length/\p.2<P.ev.length
 ct:∀ p∈P.ctrl,p.1<P.ev.length/\p.2<P.ev.length
 rm:∀ p∈P.rmw,p.1<P.ev.length/\p.2<P.ev.length
 dtl:P.data.length<=100000
 ctl:P.ctrl.length<=100000
 rml:P.rmw.length<=100000
structure PthS (B:Nat) (w:World) (x:PthR):Prop where
 lt:∀ a,x.2.2.1.1=some a\/x.2.2.2.1.1=some a\/x.2.2.2.2.1=some a->a.block<B
 ev:SlR evE w x.2.1.1 x.1.ev
 dt:SlR prE w x.2.2.1.1 x.1.data
 ct:SlR prE w x.2.2.2.1.1 x.1.ctrl
 rm:SlR prE w x.2.2.2.2.1 x.1.rmw
theorem PthS.below {B:Nat} {w X:World} {x:PthR} (h:PthS B w x) (hb:Bw w X):PthS B X x:=⟨h.lt,h.ev.below hb,h.dt.below hb,h.ct.below hb,h.rm.below hb⟩
theorem zcY:∀ (vs:List UInt8) (l:Nat),(zch l vs).length=vs.length
 | [],_=>rfl
 | v::vs,l=>by
  show (zch (l+1) vs).length+1=vs.length+1;rw [zcY vs]
theorem zgI:∀ (vs:List UInt8) (l:Nat) {k:Nat} (h:k<vs.length),(zch l vs)[k]?=some ⟨-1,2,UInt8.ofNat (l+k),vs[k],0,0,0⟩
 | [],_,_,h=>by cases h
 | v::vs,l,0,_=>rfl
 | v::vs,l,k+1,h=>by
  show (zch (l+1) vs)[k]?=_;rw [zgI vs (l+1) (Nat.lt_of_succ_lt_succ h),Nat.add_assoc,Nat.add_comm 1 k];rfl
theorem zjP {vs:List UInt8} {k:Nat} (h:k<vs.length):(zch 0 vs).take (k+1)=(zch 0 vs).take k++[⟨-1,2,UInt8.ofNat k,vs[k],0,0,0⟩]:=by
 have hl:k<(zch 0 vs).length:=by rw [zcY];exact h
 have:=zgI vs 0 h;rw [gE hl,Nat.zero_add] at this;rw [tsg hl,Option.some.inj this]
theorem zos (n:Nat) (Ps:List PathD):n<=Ps.foldl (fun n P=>n+P.ev.length) n:=by
 induction Ps generalizing n with
 | nil=>exact Nat.le_refl _
 | cons P Ps ih=>exact Nat.le_trans (Nat.le_add_right _ _) (ih (n+P.ev.length))
theorem appE {B c:Nat} {V1:World} {p:Option Addr} {l:List Ev} {y:Ev} {a:Addr} (ho:OwnS evE 54 B V1 p c l) (ha:zax V1 a ([y].flatMap evE.enc)) (hB:B<=V1.heap.size) (hl:l.length<=100000) {K:Value->World->Prop}
  (h:∀ p' c' w',OwnS evE 54 B w' p' c' (l++[y])->V1.grownBy w' (p.map Addr.block)->(∀ a,p'=some a->p=some a\/a.block=V1.heap.size)->K (.slice p' (l++[y]).length c') w') :
  SatR ((Builtin.append_ #[22,22] 22 #[.slice p l.length c,.slice (some a) 1 1]).run Tryz.prog V1) K :=
 zbJ (E:=evE) (T:=54) (B:=B) (l:=l) (news:=[y]) (cap:=c) (m:=1) Tryz.underlying22 k54 rfl rfl rfl ho rfl ha hB (by omega) (by show (l.length+1)*16<=_;omega) fun p' c' w' a1 a2 _ a4=>h p' c' w' a1 (by rw [zcN] at a2;exact a2) a4
theorem zot {f g:Nat->UInt8}:∀ {k:Nat},k<4->(seg 32 (fun i=>u8 (f i))).take (k*8)++seg 8 (fun i=>u8 (g i))++(seg 32 (fun i=>u8 (f i))).drop (k*8+8)=seg 32 (fun i=>u8 (if i/8=k then g (i%8) else f i))
 | 0,_=>by kernel_rfl
 | 1,_=>by kernel_rfl
 | 2,_=>by kernel_rfl
 | 3,_=>by kernel_rfl
 | k+4,h=>by omega
theorem zkv {A Z l r:List Value} {n o m:Nat} (hA:A.length=n) (hl:o+m<=l.length) (hr:r.length=m):(A++(l++Z)).take (n+o)++r++(A++(l++Z)).drop (n+o+m)=A++((l.take o++r++l.drop (o+m))++Z):=by
 subst hA;rw [List.take_length_add_append,List.take_append_of_le_length (by omega),Nat.add_assoc,List.drop_length_add_append,List.drop_append_of_le_length hl];simp only [List.append_assoc]
theorem zpf (k:Nat) (P:PathD) (Ps:List PathD) (x:ExD):asR k (P::Ps) x=asR (k+1) Ps (zk3 x k P):=rfl
theorem zml {k:Nat} {l:List Ev} {j:Nat} (h:j<l.length):thEv k (l.take (j+1))=thEv k (l.take j)++[{ l[j] with th:=k }]:=by
 rw [tsg h];unfold thEv;rw [List.map_append];rfl
theorem zeg {n f:Nat} {ps:List (Nat×Nat)} (h:∀ p∈ps,p.1<n/\p.2<n) (hf:f+n<=48):zqo f ps:=fun p hp=>⟨by have:=(h p hp).1;omega,by have:=(h p hp).2;omega⟩
def MixV (B:Nat) (w:World) (vs:List Value) (m:MixD):Prop :=
 ∃ (q p1 p2 p3:Option Addr) (c c1 c2 c3:Nat) (xs ys:List NatL),vs=exC m.base q c++[.slice p1 m.rs.length c1,.slice p2 xs.length c2,.slice p3 ys.length c3]/\OwnS evE 54 B w q c m.base.ev /\
  OwnS natE 3 B w p1 c1 (m.rs.map (·.1))/\xs.map (·.1)=m.rs.map (·.2)/\OwnS zbS 108 B w p2 c2 xs/\(∀ y∈xs,OwnS natE 3 B w y.2.1 y.2.2 y.1) /\
   ys.map (·.1)=m.wr/\OwnS zbS 108 B w p3 c3 ys/\∀ y∈ys,OwnS natE 3 B w y.2.1 y.2.2 y.1
section
variable {w:World} {bP cl cp ci:Nat} {pc:List Value} {pl pp pi:Option Addr} {init:List UInt8} {Ps:List PthR}
theorem zlV (fP:w.heap[bP]?=some (.cells pc.toArray 71 (0,0))) (h1:pc[1]?=some (.slice pl init.length cl)) (h2:pc[2]?=some (.slice pi init.length ci)) (hi:SlR zaU w pi init) (hi6:init.length<=6)
  (hP:SlR pthE w pp Ps) (hPs:∀ x∈Ps,PthS w.heap.size w x) (hPb:∀ x∈Ps,PathB init.length x.1) (hP4:Ps.length<=4) :
  Calls Tryz.prog 116 #[At0 bP,.slice pp Ps.length cp] w fun e w'=>(∃ vs,match mixR init (Ps.map (·.1)) with
   | some m=>e = .returned (.tuple #[.agg vs.toArray,.bool true])/\MixV w.heap.size w' vs m
   | none=>e = .returned (.tuple #[.agg vs.toArray,.bool false]))/\Bw w w':=by
 refine cofM 143 [At0 bP,.slice pp Ps.length cp] (.c .p (.s .p (.c .p (.s .p (.s .p (.c .p (.c .p (.c .p (.c .p (.c .p .p)))))))))) Tryz.func116 ?_;obtain⟨L,hL⟩:=nm (w.heap.size);obtain⟨N,hN⟩:=nm (zp4 init.length (Ps.map (·.1)));have hbP:=hlt fP;refine⟨Unit,fun _=>⟨[(0,At0 bP),(1,.slice pp Ps.length cp),(4,At0 L)],[]⟩,fun _ X=>X.heap[L]?=some (.cells (zep).toArray 119 (0,0))/\Bw w X,?_,?_⟩
 ·exact⟨(),⟨.cons rfl (.cons rfl (.cons (by rw [hL];rfl) .nil)),rfl⟩,by rw [hL];exact hnew w _,(zba w _)⟩
 rintro _ X ⟨f0,hbX⟩;have ldP:∀ {X:World},Bw w X->∀ {i:Nat} {v:Value},pc[i]?=some v->X.cell? ⟨bP,0+i,none⟩=some v:=fun {X} hb {i v} h=>zac (zab ((hb.block bP hbP).trans fP)) (by simpa using h);refine⟨_,ldP hbX h1,?_⟩;refine⟨Unit,fun _=>⟨[(0,At0 bP),(1,.slice pp Ps.length cp),(4,At0 L),(6,i64 N)],[]⟩,fun _ X=>X.heap[L]?=some (.cells (zep).toArray 119 (0,0))/\Bw w X,?_,?_⟩
 ·refine⟨Nat×Nat,fun s=>⟨[(0,At0 bP),(1,.slice pp Ps.length cp),(4,At0 L),(6,i64 (s.2:Nat)),(23,.slice pp Ps.length cp),(24,i64 Ps.length),(25,i64 (s.1:Nat))],[]⟩,
   fun s Y=>s.1<=Ps.length/\s.2<=init.length+24*s.1/\((Ps.map (·.1)).drop s.1).foldl (fun n P=>n+P.ev.length) s.2=N/\Y.heap[L]?=some (.cells (zep).toArray 119 (0,0))/\Bw w Y,fun s=>Ps.length-s.1,(0,init.length),
   (cvE rfl rfl),⟨Nat.zero_le _,Nat.le_refl _,hN.symm,f0,hbX⟩,?_⟩
  clear f0 hbX;rintro⟨k,n⟩ Y ⟨hk,hn,hacc,f0,hbY⟩;dsimp only at hk hn hacc ⊢;refine biE (fun hc=>?_) fun hc=>?_
  ·have hc:(k:Int)<(Ps.length:Int):=dT hc;have hkl:k<Ps.length:=by omega
   obtain⟨x,hx⟩:∃ x,Ps[k]=x:=⟨_,rfl⟩;have hxm:x∈Ps:=by rw [<- hx];exact gM hkl
   have hdp:(Ps.map (·.1)).drop k=x.1::(Ps.map (·.1)).drop (k+1):=by
    rw [<- List.getElem_cons_drop (show k<(Ps.map (·.1)).length by simpa using hkl)];simp [hx]
   rw [hdp] at hacc;have hev:=(hPb x hxm).ev;obtain⟨bp,op,rfl,hlp,hat⟩:=hP.at hkl;refine⟨k,rfl,hkl,?_⟩;refine⟨pthE.enc x,pthE.len x,by rw [<- hx];exact zae hbY (hat k hkl),nL hlp hbY.size,?_⟩;refine zak (X:=Y) (v := .agg (pthE.enc x).toArray) k168 (pthE.len x) rfl (List.all_eq_true.2 fun u hu=>pthE.one x u hu) fun Z hbZ fZ sZ=>?_;have fZ:Z.heap[Y.heap.size]?=some (.cells (pthE.enc x).toArray 168 (0,0)):=fZ;refine⟨.slice x.2.1.1 x.1.ev.length x.2.1.2,zac (zab fZ) (i:=0) rfl,?_⟩;refine⟨((n+x.1.ev.length:Nat):Int),(zaj (by omega)).trans (by omega),?_⟩;refine nxI (by omega) ?_;exact⟨(k+1,n+x.1.ev.length),(cvE rfl rfl),⟨hkl,by show n+x.1.ev.length<=init.length+24*(k+1);omega,hacc,zaa hbZ f0,(zst hbY hbZ)⟩,zdc (by omega)⟩
  ·have hc:¬ (k:Int)<(Ps.length:Int):=dF hc;rw [List.drop_eq_nil_of_le (by rw [List.length_map];omega)] at hacc;have hacc:n=N:=hacc;subst hacc;exact⟨(),(cvE rfl rfl),f0,hbY⟩
 clear f0 hbX;rintro _ X ⟨f0,hbX⟩;have hmr:mixR init (Ps.map (·.1))=if N<=48 then some (zcB (zrp init (Ps.map (·.1))) init.length) else none:=by rw [hN];rfl
 have hLX:=hlt f0;refine biE (fun h=>?_) fun h=>?_
 ·have h:(48:Int)<(N:Nat):=dT h;rw [hmr,if_neg (by omega)];refine⟨zep,by kernel_rfl,?_⟩;refine zaq (v := .agg (zep).toArray) k119 f0 zb7 zb7 (by kernel_rfl) ?_;exact⟨zep,zb7,zab (zal f0),⟨_,rfl⟩,zah hbX (by omega) _⟩
 have h:¬ (48:Int)<(N:Nat):=dF h;have hN48:N<=48:=by omega
 rw [hmr,if_pos hN48];refine cmo zq3 ?_;rintro e Y ⟨rfl,hbY⟩;refine⟨exC (ex0 N) none 0++[nilV,nilV,nilV],by kernel_rfl,?_⟩;refine zak (X:=Y) (v := .agg (exC (ex0 N) none 0++[nilV,nilV,nilV]).toArray) k119 (by show (exC (ex0 N) none 0++[nilV,nilV,nilV]).length=_;rw [lap,zat];rfl) zb7 (by show (exC (ex0 N) none 0++[nilV,nilV,nilV]).all _=true;rw [List.all_append,zdp];rfl) fun V hbV fV sV=>?_;refine⟨Nat,fun M=>⟨[(0,At0 bP),(1,.slice pp Ps.length cp),(4,At0 L),(9,At0 M),(10,At0 M)],[]⟩,fun M X=>L<M/\MixH X M (ex0 N) none 0 [nilV,nilV,nilV]/\X.heap[L]?=some (.cells (zep).toArray 119 (0,0))/\Bw w X,?_,?_⟩
 ·exact⟨Y.heap.size,(cvE rfl rfl),by have:=hbY.size;omega,fV,zaa hbV (zaa hbY f0),((zst hbX hbY)).trans (hbV.mono (by have:=hbX.size;have:=hbY.size;omega))⟩
 clear fV sV hbV V hbY Y;clear f0 hbX hLX;rintro M X ⟨hLM,fM,f0,hbX⟩;dsimp only at fM ⊢;refine⟨Option Addr×Nat,fun _=>⟨[(0,At0 bP),(1,.slice pp Ps.length cp),(4,At0 L),(9,At0 M),(10,At0 M)],[]⟩,fun s X=>MixH X M { ex0 N with ev:=zch 0 init } s.1 s.2 [nilV,nilV,nilV]/\OwnS evE 54 w.heap.size X s.1 s.2 (zch 0 init)/\X.heap[L]?=some (.cells (zep).toArray 119 (0,0))/\Bw w X,?_,?_⟩
 ·refine⟨_,ldP hbX h2,?_⟩;refine⟨Nat×Option Addr×Nat,fun s=>⟨[(0,At0 bP),(1,.slice pp Ps.length cp),(4,At0 L),(9,At0 M),(10,At0 M),(45,.slice pi init.length ci),(46,i64 init.length),(47,i64 (s.1:Nat))],[]⟩,
   fun s Y=>s.1<=init.length/\MixH Y M { ex0 N with ev:=(zch 0 init).take s.1 } s.2.1 s.2.2 [nilV,nilV,nilV]/\OwnS evE 54 w.heap.size Y s.2.1 s.2.2 ((zch 0 init).take s.1)/\Y.heap[L]?=some (.cells (zep).toArray 119 (0,0))/\Bw w Y,fun s=>init.length-s.1,(0,none,0),
   (cvE rfl rfl),⟨Nat.zero_le _,fM,OwnS.nil,f0,hbX⟩,?_⟩
  clear fM f0 hbX;rintro⟨k,q,c⟩ Y ⟨hk,fM,ho,f0,hbY⟩;dsimp only at hk fM ho ⊢;refine biE (fun hc=>?_) fun hc=>?_
  ·have hc:(k:Int)<(init.length:Int):=dT hc;have hkl:k<init.length:=by omega
   obtain⟨bi,oi,rfl,hli,hat⟩:=hi.at hkl;have htk:=zjP hkl;have htl:((zch 0 init).take k).length=k:=by rw [List.length_take,zcY];omega
   refine⟨k,rfl,hkl,?_⟩;refine⟨u8 init[k],zac (zae hbY (hat k hkl)) (i:=0) rfl,?_⟩;refine⟨_,zeE fM,?_⟩;refine⟨_,w8N k,?_⟩;obtain⟨e,he⟩:∃ e:Ev,e=⟨-1,2,UInt8.ofNat k,init[k],0,0,0⟩:=⟨_,rfl⟩;refine⟨evE.enc e,by rw [he];rfl,?_⟩;refine⟨⟨by decide,by decide,rfl⟩,evE.enc e,zcV rfl rfl,?_⟩;obtain⟨Y1,hY1⟩:=nm (Y.alloc (.cells (evE.enc e).toArray 54));have hb1:Bw Y Y1:=by rw [hY1];exact (zba _ _)
   have sY:=hbY.size;have ho1:=ho.below hb1;unfold opsE zdl;show SatR _ _;rw [<- hY1];refine appE ho1 (by rw [hY1];exact zbi evE e) (by have:=hb1.size;omega) (by omega) fun q1 c1 U oU gU hat1=>?_;have fMU:=za0 (zaa hb1 fM) ho1 (by decide) gU;have f0U:=za0 (zaa hb1 f0) ho1 (by decide) gU;refine zar k22 fMU (o:=0+0) (v := .slice q1 ((zch 0 init).take k++[e]).length c1) rfl rfl (by rw [lap,zat];decide) rfl fun S fS gS sS=>?_;rw [show 0+0=0 from rfl,zsn,he,<- htk] at fS;refine nxI (by omega) ?_;refine⟨(k+1,q1,c1),(cvE rfl rfl),⟨hkl,fS,by rw [he,<- htk] at oU;exact za2 oU fMU (by decide) gS,(gS.block L (hlt f0U) (by simp;omega)).trans f0U,?_⟩,zdc (by omega)⟩;have sU:=gU.size;have s1:=hb1.size;exact ((hbY.trans (hb1.mono sY)).trans (zbc ho1 (by omega) (Nat.le_refl _) gU)).trans (zao gS (by omega) (by omega))
  ·have hc:¬ (k:Int)<(init.length:Int):=dF hc;obtain rfl:k=init.length:=by omega
   have e:(zch 0 init).take init.length=zch 0 init:=List.take_of_length_le (by rw [zcY];exact Nat.le_refl _);rw [e] at fM ho;exact⟨(q,c),(cvE rfl rfl),fM,ho,f0,hbY⟩
 clear fM f0 hbX;rintro⟨q,c⟩ X ⟨fM,ho,f0,hbX⟩;dsimp only at fM ho ⊢;obtain⟨x0,hx0⟩:∃ x0:ExD,x0={ ex0 N with ev:=zch 0 init }:=⟨_,rfl⟩;have hx0e:x0.ev=zch 0 init:=by rw [hx0]
 rw [<- hx0] at fM;rw [<- hx0e] at ho;refine⟨Option Addr×Nat,fun _=>⟨[(0,At0 bP),(1,.slice pp Ps.length cp),(4,At0 L),(9,At0 M),(10,At0 M)],[]⟩,fun s X=>MixH X M (asR 0 (Ps.map (·.1)) x0) s.1 s.2 [nilV,nilV,nilV]/\OwnS evE 54 w.heap.size X s.1 s.2 (asR 0 (Ps.map (·.1)) x0).ev/\(asR 0 (Ps.map (·.1)) x0).ev.length=N/\(∀ e∈(asR 0 (Ps.map (·.1)) x0).ev,e.k=1\/e.k=2->e.l.toNat<init.length)/\X.heap[L]?=some (.cells (zep).toArray 119 (0,0))/\Bw w X,?_,?_⟩
 ·refine⟨Nat×ExD×Option Addr×Nat,fun s=>⟨[(0,At0 bP),(1,.slice pp Ps.length cp),(4,At0 L),(9,At0 M),(10,At0 M),(66,.slice pp Ps.length cp),(67,i64 Ps.length),(68,i64 (s.1:Nat))],[]⟩,
   fun s Y=>s.1<=Ps.length/\asR s.1 ((Ps.map (·.1)).drop s.1) s.2.1=asR 0 (Ps.map (·.1)) x0/\((Ps.map (·.1)).drop s.1).foldl (fun n P=>n+P.ev.length) s.2.1.ev.length=N/\(WrdR s.2.1.dt.to/\WrdR s.2.1.ct.to/\WrdR s.2.1.rm.to)/\(∀ e∈s.2.1.ev,e.k=1\/e.k=2->e.l.toNat<init.length) /\
    MixH Y M s.2.1 s.2.2.1 s.2.2.2 [nilV,nilV,nilV]/\OwnS evE 54 w.heap.size Y s.2.2.1 s.2.2.2 s.2.1.ev/\Y.heap[L]?=some (.cells (zep).toArray 119 (0,0))/\Bw w Y,fun s=>Ps.length-s.1,(0,x0,q,c),
   (cvE rfl rfl),⟨Nat.zero_le _,rfl,by rw [hN,hx0e,zcY];rfl,?_,?_,fM,ho,f0,hbX⟩,?_⟩
  ·rw [hx0];exact⟨fun i _=>(by decide:0<2^64),fun i _=>(by decide:0<2^64),fun i _=>(by decide:0<2^64)⟩
  ·intro e he _;rw [hx0e] at he;obtain⟨j,hj⟩:=List.mem_iff_getElem?.1 he;have hjl:j<init.length:=by
    have:=(List.getElem?_eq_some_iff.1 hj).1
    rwa [zcY] at this
   rw [zgI init 0 hjl] at hj;rw [<- Option.some.inj hj];show (UInt8.ofNat (0+j)).toNat<init.length;have:=zmh (n:=0+j) (by omega);omega
  clear fM ho f0 hbX;rintro⟨k,x,q,c⟩ Y ⟨hk,hacc,hfold,⟨hw1,hw2,hw3⟩,hloc,fM,ho,f0,hbY⟩;dsimp only at hk hacc hfold hw1 hw2 hw3 hloc fM ho ⊢;refine biE (fun hc=>?_) fun hc=>?_
  ·have hc:(k:Int)<(Ps.length:Int):=dT hc;have hkl:k<Ps.length:=by omega
   obtain⟨y,hy⟩:∃ y,Ps[k]=y:=⟨_,rfl⟩;have hym:y∈Ps:=by rw [<- hy];exact gM hkl
   have hdp:(Ps.map (·.1)).drop k=y.1::(Ps.map (·.1)).drop (k+1):=by
    rw [<- List.getElem_cons_drop (show k<(Ps.map (·.1)).length by simpa using hkl)];simp [hy]
   rw [hdp] at hacc hfold;rw [zpf] at hacc;have hfold:((Ps.map (·.1)).drop (k+1)).foldl (fun n P=>n+P.ev.length) (x.ev.length+y.1.ev.length)=N:=hfold;have hsz:=zos (x.ev.length+y.1.ev.length) ((Ps.map (·.1)).drop (k+1));rw [hfold] at hsz;obtain⟨b24,bloc,bdt,bct,brm,ldt,lct,lrm⟩:=hPb y hym;obtain⟨bp,op,rfl,hlp,hat⟩:=hP.at hkl;refine⟨k,rfl,hkl,?_⟩;refine⟨pthE.enc y,pthE.len y,by rw [<- hy];exact zae hbY (hat k hkl),nL hlp hbY.size,?_⟩;refine zak (X:=Y) (v := .agg (pthE.enc y).toArray) k168 (pthE.len y) rfl (List.all_eq_true.2 fun u hu=>pthE.one y u hu) fun Z hbZ fZ sZ=>?_;obtain⟨D,hD⟩:=nm (Y.heap.size);have fD:Z.heap[D]?=some (.cells (pthE.enc y).toArray 168 (0,0)):=by rw [hD];exact fZ
   have hMD:M<D:=by rw [hD];exact hlt fM
   have eD:At0 Y.heap.size=At0 D:=by rw [hD]
   have fMZ:=zaa hbZ fM;have f0Z:=zaa hbZ f0;have hoZ:=ho.below hbZ;have hwZ:=zst hbY hbZ;refine⟨_,zeE fMZ,?_⟩;refine⟨.slice y.2.1.1 y.1.ev.length y.2.1.2,by rw [<- hD];exact zac (zab fD) (i:=0) rfl,?_⟩;refine⟨Nat×Option Addr×Nat,fun s=>⟨[(0,At0 bP),(1,.slice (some ⟨bp,op,none⟩) Ps.length cp),(4,At0 L),(9,At0 M),(10,At0 M),(13,i64 (k:Nat)),(14,At0 D),(15,i64 x.ev.length),(66,.slice (some ⟨bp,op,none⟩) Ps.length cp),(67,i64 Ps.length),(68,i64 (k:Nat)),(79,.slice y.2.1.1 y.1.ev.length y.2.1.2),(80,i64 y.1.ev.length),(81,i64 (s.1:Nat))],[]⟩,
    fun s V=>s.1<=y.1.ev.length/\MixH V M { x with ev:=x.ev++thEv k (y.1.ev.take s.1) } s.2.1 s.2.2 [nilV,nilV,nilV]/\OwnS evE 54 w.heap.size V s.2.1 s.2.2 (x.ev++thEv k (y.1.ev.take s.1))/\V.heap[L]?=some (.cells (zep).toArray 119 (0,0))/\V.heap[D]?=some (.cells (pthE.enc y).toArray 168 (0,0))/\Bw w V,fun s=>y.1.ev.length-s.1,(0,q,c),
    ⟨.cons rfl (.cons rfl (.cons rfl (.cons rfl (.cons rfl (.cons rfl (.cons (congrArg some eD) (.cons rfl (.cons rfl (.cons rfl (.cons rfl (.cons rfl (.cons rfl (.cons rfl .nil))))))))))))),rfl⟩,⟨Nat.zero_le _,by show MixH Z M { x with ev:=x.ev++[] } q c _;rw [List.append_nil];exact fMZ,by show OwnS _ _ _ Z q c (x.ev++[]);rw [List.append_nil];exact hoZ,f0Z,fD,hwZ⟩,?_⟩
   clear fMZ f0Z hoZ hwZ fZ sZ hbZ fM ho f0 hbY;rintro⟨j,q,c⟩ V ⟨hj,fM,ho,f0,fD,hbV⟩;dsimp only at hj fM ho ⊢;have sV:=hbV.size;have hS:=(hPs y hym).below hbV;refine biE (fun hc=>?_) fun hc=>?_
   ·have hc:(j:Int)<(y.1.ev.length:Int):=dT hc;have hjl:j<y.1.ev.length:=(by omega);obtain⟨e,he⟩:∃ e,y.1.ev[j]=e:=⟨_,rfl⟩;have htk:=zml (k:=k) hjl;rw [he] at htk;obtain⟨be,oe,hbe,hle,hate⟩:=hS.ev.at hjl;rw [hbe];refine⟨j,rfl,hjl,?_⟩;refine⟨evE.enc e,rfl,by rw [<- he];exact hate j hjl,hle,?_⟩;refine zak (X:=V) (v := .agg (evE.enc e).toArray) k54 rfl rfl (List.all_eq_true.2 fun u hu=>evE.one e u hu) fun T hbT fT sT=>?_;have fT:T.heap[V.heap.size]?=some (.cells (evE.enc e).toArray 54 (0,0)):=fT;refine zar k3 fT (o:=0+0) (v:=i64 (k:Nat)) rfl rfl (by show 0<7;decide) rfl fun T2 fT2 gT2 sT2=>?_;obtain⟨e2,he2⟩:∃ e2:Ev,e2={ e with th:=k }:=⟨_,rfl⟩;have fT2:T2.heap[V.heap.size]?=some (.cells (evE.enc e2).toArray 54 (0,0)):=(by rw [he2];exact fT2);have hVT:Bw V T2:=hbT.trans (zao gT2 (by omega) (Nat.le_refl _));have fM2:=zaa hVT fM;have fT3:=hdr fT2;have hd:Bw T2 T2.drew:=(Below.refl _ T2).drew;have hlenx:(x.ev++thEv k (y.1.ev.take j)).length<=48:=by
     unfold thEv;rw [lap,List.length_map,List.length_take];omega
    have ho2:=ho.below hVT;refine DrawE.ord [7,10] [0,1,2,3,4,5,6,7,8,9,10] (by kernel_rfl) ?_;refine⟨_,zeE (hdr fM2),?_⟩;refine⟨evE.enc e2,rfl,zab fT3,hlt fT3,?_⟩;refine⟨⟨by decide,by decide,rfl⟩,evE.enc e2,zcV rfl rfl,?_⟩;obtain⟨Y1,hY1⟩:=nm (T2.drew.alloc (.cells (evE.enc e2).toArray 54));have hb1:Bw T2 Y1:=(by rw [hY1];exact hd.trans ((Below.refl T2.drew.heap.size _).alloc (Nat.le_refl _) _));refine⟨(zba _ _),?_⟩;have sT:=hVT.size;have s1:=hb1.size;have ho3:=ho2.below hb1;unfold opsO zdl;show SatR _ _;rw [<- hY1];refine appE ho3 (by rw [hY1];exact zbi evE e2) (by omega) (by omega) fun q1 c1 U oU gU hat1=>?_;have fMU:=za0 (zaa hb1 fM2) ho3 (by decide) gU;have f0U:=za0 (zaa (hVT.trans (hb1.mono sT)) f0) ho3 (by decide) gU;have fDU:=za0 (zaa (hVT.trans (hb1.mono sT)) fD) ho3 (by decide) gU;refine zar k22 fMU (o:=0+0) (v := .slice q1 ((x.ev++thEv k (y.1.ev.take j))++[e2]).length c1) rfl rfl (by rw [lap,zat];decide) rfl fun S fS gS sS=>?_;have hev2:(x.ev++thEv k (y.1.ev.take j))++[e2]=x.ev++thEv k (y.1.ev.take (j+1)):=(by rw [htk,he2,List.append_assoc]);rw [show 0+0=0 from rfl,zsn,hev2] at fS;refine nxI (by omega) ?_;refine⟨(j+1,q1,c1),(cvE rfl rfl),⟨hjl,fS,by rw [hev2] at oU;exact za2 oU fMU (by decide) gS,(gS.block L (hlt f0U) (by simp;omega)).trans f0U,(gS.block D (hlt fDU) (by simp;omega)).trans fDU,?_⟩,zdc (by omega)⟩;have sU:=gU.size;exact ((hbV.trans ((hVT.trans (hb1.mono sT)).mono sV)).trans (zbc ho3 (by omega) (Nat.le_refl _) gU)).trans (zao gS (by omega) (by omega))
   ·have hc:¬ (j:Int)<(y.1.ev.length:Int):=dF hc;obtain rfl:j=y.1.ev.length:=(by omega);rw [List.take_length] at fM ho;obtain⟨x1,hx1⟩:∃ x1:ExD,x1={ x with ev:=x.ev++thEv k y.1.ev }:=⟨_,rfl⟩;rw [<- hx1] at fM;have fM0:=fM;have ho0:=ho;have f00:=f0;have fD0:=fD;have hb0:=hbV;have hS0:=hS;obtain⟨x2,hx2⟩:∃ z:ExD,z={ x1 with dt:=putR x.ev.length y.1.data x.dt }:=⟨_,rfl⟩;obtain⟨A1,Z1,hA1,hE1⟩:=zo3 x1 q c [nilV,nilV,nilV];have hx1dt:x1.dt=x.dt:=(by rw [hx1]);have hR1:RelAt V M 148 119 A1 Z1 x.dt:=⟨hA1,by
     have h:=hE1 x1.dt;rw [hx1dt] at h;rw [<- h,<- hx1dt];exact fM0⟩
    have dw1:Bw V V.drew:=(Below.refl _ _).drew;refine DrawE.ord [6] [0,1,2,3,4,5,6] (by kernel_rfl) ?_;refine⟨.slice y.2.2.1.1 y.1.data.length y.2.2.1.2,zac (zab (hdr fD0)) (i:=1) rfl,?_⟩;refine cmo (zqn (f:=x.ev.length) (hR1.same (Y:=V.drew) rfl) hw1 ((hS0.dt).below dw1) (fun a ha=>by have:=hS0.lt a (.inl ha);omega) ldt (zeg bdt (by omega))) ?_;rintro e V1 ⟨rfl,hRn1,gn1⟩;have g1:V.grownBy V1 (some M):=zaf (zai dw1) gn1;have sg1:=g1.size;have fM1:MixH V1 M x2 q c [nilV,nilV,nilV]:=by
     have h:=hRn1.cells;rw [<- hE1] at h;rw [hx2];exact h
    have ho1:=za2 ho0 fM0 (by decide) g1;have f01:=(g1.block L (hlt f00) (by simp;omega)).trans f00;have fD1:=(g1.block D (hlt fD0) (by simp;omega)).trans fD0;have hb1:Bw w V1:=hb0.trans (zao g1 hb0.size (by omega));have hS1:=(hPs y hym).below hb1;obtain⟨x3,hx3⟩:∃ z:ExD,z={ x2 with ct:=putR x.ev.length y.1.ctrl x.ct }:=⟨_,rfl⟩;obtain⟨A2,Z2,hA2,hE2⟩:=zo4 x2 q c [nilV,nilV,nilV];have hx2ct:x2.ct=x.ct:=(by rw [hx2];rw [hx1]);have hR2:RelAt V1 M 197 119 A2 Z2 x.ct:=⟨hA2,by
     have h:=hE2 x2.ct;rw [hx2ct] at h;rw [<- h,<- hx2ct];exact fM1⟩
    have dw2:Bw V1 V1.drew:=(Below.refl _ _).drew;refine DrawE.ord [6] [0,1,2,3,4,5,6] (by kernel_rfl) ?_;refine⟨.slice y.2.2.2.1.1 y.1.ctrl.length y.2.2.2.1.2,zac (zab (hdr fD1)) (i:=2) rfl,?_⟩;refine cmo (zqn (f:=x.ev.length) (hR2.same (Y:=V1.drew) rfl) hw2 ((hS1.ct).below dw2) (fun a ha=>by have:=hS1.lt a (.inr (.inl ha));omega) lct (zeg bct (by omega))) ?_;rintro e V2 ⟨rfl,hRn2,gn2⟩;have g2:V1.grownBy V2 (some M):=zaf (zai dw2) gn2;have sg2:=g2.size;have fM2:MixH V2 M x3 q c [nilV,nilV,nilV]:=by
     have h:=hRn2.cells;rw [<- hE2] at h;rw [hx3];exact h
    have ho2:=za2 ho1 fM1 (by decide) g2;have f02:=(g2.block L (hlt f01) (by simp;omega)).trans f01;have fD2:=(g2.block D (hlt fD1) (by simp;omega)).trans fD1;have hb2:Bw w V2:=hb1.trans (zao g2 hb1.size (by omega));have hS2:=(hPs y hym).below hb2;obtain⟨x4,hx4⟩:∃ z:ExD,z={ x3 with rm:=putR x.ev.length y.1.rmw x.rm }:=⟨_,rfl⟩;obtain⟨A3,Z3,hA3,hE3⟩:=zo1 x3 q c [nilV,nilV,nilV];have hx3rm:x3.rm=x.rm:=(by rw [hx3];rw [hx2];rw [hx1]);have hR3:RelAt V2 M 246 119 A3 Z3 x.rm:=⟨hA3,by
     have h:=hE3 x3.rm;rw [hx3rm] at h;rw [<- h,<- hx3rm];exact fM2⟩
    have dw3:Bw V2 V2.drew:=(Below.refl _ _).drew;refine DrawE.ord [6] [0,1,2,3,4,5,6] (by kernel_rfl) ?_;refine⟨.slice y.2.2.2.2.1 y.1.rmw.length y.2.2.2.2.2,zac (zab (hdr fD2)) (i:=3) rfl,?_⟩;refine cmo (zqn (f:=x.ev.length) (hR3.same (Y:=V2.drew) rfl) hw3 ((hS2.rm).below dw3) (fun a ha=>by have:=hS2.lt a (.inr (.inr ha));omega) lrm (zeg brm (by omega))) ?_;rintro e V3 ⟨rfl,hRn3,gn3⟩;have g3:V2.grownBy V3 (some M):=zaf (zai dw3) gn3;have sg3:=g3.size;have fM3:MixH V3 M x4 q c [nilV,nilV,nilV]:=by
     have h:=hRn3.cells;rw [<- hE3] at h;rw [hx4];exact h
    have ho3:=za2 ho2 fM2 (by decide) g3;have f03:=(g3.block L (hlt f02) (by simp;omega)).trans f02;have fD3:=(g3.block D (hlt fD2) (by simp;omega)).trans fD2;have hb3:Bw w V3:=hb2.trans (zao g3 hb2.size (by omega));have hS3:=(hPs y hym).below hb3;have hx5:zk3 x k y.1={ x4 with regs:=fun i=>if i/8=k then y.1.regs (i%8) else x4.regs i }:=(by rw [hx4,hx3,hx2,hx1];rfl);obtain⟨A5,Z5,hA5,hE5⟩:=znr x4 q c [nilV,nilV,nilV];have hM5:exC x4 q c++[nilV,nilV,nilV]=A5++(seg 32 (fun i=>u8 (x4.regs i))++Z5):=hE5 x4.regs;have fM5:V3.heap[M]?=some (.cells (A5++(seg 32 (fun i=>u8 (x4.regs i))++Z5)).toArray 119 (0,0)):=(by rw [<- hM5];exact fM3);have hsub:((pthE.enc y).drop 4).take 8=seg 8 (fun i=>u8 (y.1.regs i)):=List.take_of_length_le (by rw [List.length_drop,pthE.len];decide);refine DrawE.ord [8] [0,1,2,3,4,5,6,7,8] (by kernel_rfl) ?_;refine⟨seg 8 (fun i=>u8 (y.1.regs i)),zay _ _,by rw [<- hsub];have:=zaC (n:=4) (m:=8) (zab (hdr fD3));exact this,hlt (hdr fD3),?_⟩;refine⟨k,rfl,by omega,?_⟩;refine zbL k28 (hdr fM5) (o:=295+k*8) (v := .agg (seg 8 (fun i=>u8 (y.1.regs i))).toArray) (zay _ _) (by show 295+k*8+(seg 8 _).length<=(A5++(seg 32 _++Z5)).length;rw [<- hM5,lap,zat,zay];show _<=336;omega) (zdH fun _=>rfl) fun S fS gS sS=>?_;obtain⟨x5,hx5e⟩:=nm (zk3 x k y.1);have fS:MixH S M x5 q c [nilV,nilV,nilV]:=by
     refine fS.trans ?_;have e1:=zkv (A:=A5) (Z:=Z5) (l:=seg 32 (fun i=>u8 (x4.regs i))) (r:=seg 8 (fun i=>u8 (y.1.regs i))) (o:=k*8) (m:=8) hA5 (by rw [zay];omega) (zay _ _);rw [zot (by omega)] at e1;rw [hx5e,hx5,hE5,<- e1];show some (Obj.cells ((A5++(seg 32 (fun i=>u8 (x4.regs i))++Z5)).take (295+k*8)++seg 8 (fun i=>u8 (y.1.regs i))++(A5++(seg 32 (fun i=>u8 (x4.regs i))++Z5)).drop (295+k*8+(seg 8 (fun i=>u8 (y.1.regs i))).length)).toArray _ _)=_;rw [zay]
    have dw4:Bw V3 V3.drew:=(Below.refl _ _).drew;have g4:V3.grownBy S (some M):=zaf (zai dw4) gS;have hev5:x5.ev=x.ev++thEv k y.1.ev:=(by rw [hx5e];rfl);have hx1e:x1.ev=x5.ev:=(by rw [hx1,hev5]);have hlen5:x5.ev.length=x.ev.length+y.1.ev.length:=(by rw [hev5,lap];unfold thEv;rw [List.length_map]);refine nxI (by omega) ?_;refine⟨(k+1,x5,q,c),(cvE rfl rfl),⟨hkl,by rw [hx5e];exact hacc,by rw [hlen5];exact hfold,?_,fun e he hk=>?_,fS,?_,(g4.block L (hlt f03) (by simp;omega)).trans f03,hb3.trans (zao g4 hb3.size (by omega))⟩,zdc (by omega)⟩
    ·rw [hx5e];exact⟨zfV hw1 (zeg bdt (by omega)),zfV hw2 (zeg bct (by omega)),zfV hw3 (zeg brm (by omega))⟩
    ·have he:e∈x5.ev:=he;rw [hev5] at he;rcases List.mem_append.1 he with he | he
     ·exact hloc e he hk
     ·unfold thEv at he;obtain⟨e',he',rfl⟩:=List.mem_map.1 he;exact bloc e' he' hk
    ·show OwnS evE 54 w.heap.size S q c x5.ev;rw [hev5];exact za2 ho3 fM3 (by decide) g4
  ·have hc:¬ (k:Int)<(Ps.length:Int):=dF hc;rw [List.drop_eq_nil_of_le (by rw [List.length_map];omega)] at hacc hfold;have hacc:x=asR 0 (Ps.map (·.1)) x0:=hacc;have hfold:x.ev.length=N:=hfold;rw [<- hacc];exact⟨(q,c),(cvE rfl rfl),fM,ho,hfold,hloc,f0,hbY⟩
 clear fM ho f0 hbX;rintro⟨q,c⟩ X ⟨fM,ho,hxl,hloc,f0,hbX⟩;dsimp only at fM ho ⊢;obtain⟨AX,hAX⟩:=nm (asR 0 (Ps.map (·.1)) x0);rw [<- hAX] at fM ho hxl hloc;obtain⟨BX,hBX⟩:∃ BX:ExD,BX={ AX with po:=poR AX.ev }:=⟨_,rfl⟩;have hbase:zrp init (Ps.map (·.1))=BX:=by
  rw [hBX,hAX,hx0,hN];rfl
 rw [hbase];refine⟨Unit,fun _=>⟨[(0,At0 bP),(1,.slice pp Ps.length cp),(4,At0 L),(9,At0 M),(10,At0 M)],[]⟩,fun _ X=>MixH X M BX q c [nilV,nilV,nilV]/\OwnS evE 54 w.heap.size X q c BX.ev/\X.heap[L]?=some (.cells (zep).toArray 119 (0,0))/\Bw w X,?_,?_⟩
 ·refine⟨_,zeE fM,?_⟩;refine cmo (zeu ho.row (by omega)) ?_;rintro e Y ⟨rfl,hbY⟩;have fMY:=zaa hbY fM;obtain⟨A5,Z5,hA5,hE5⟩:=zo2 AX q c [nilV,nilV,nilV];have hM5:exC AX q c++[nilV,nilV,nilV]=A5++(relC AX.po++Z5):=hE5 AX.po;have fM5:Y.heap[M]?=some (.cells (A5++(relC AX.po++Z5)).toArray 119 (0,0)):=by rw [<- hM5];exact fMY
  refine zbL k27 fM5 (o:=0+1) (v := .agg (relC (poR AX.ev)).toArray) (zad _) (by show 0+1+(relC _).length<=(A5++(relC AX.po++Z5)).length;rw [<- hM5,lap,zat,zad];decide) (zas _) fun S fS gS sS=>?_;have fS:MixH S M BX q c [nilV,nilV,nilV]:=by
   refine fS.trans ?_;have e1:=zkv (A:=A5) (Z:=Z5) (l:=relC AX.po) (r:=relC (poR AX.ev)) (o:=0) (m:=49) hA5 (by rw [zad];omega) (zad _);rw [hBX,hE5];have e2:(relC AX.po).take 0++relC (poR AX.ev)++(relC AX.po).drop (0+49)=relC (poR AX.ev):=by
    rw [List.take_zero,List.nil_append,List.drop_eq_nil_of_le (by rw [zad];omega),List.append_nil]
   rw [e2] at e1;rw [<- e1];show some (Obj.cells ((A5++(relC AX.po++Z5)).take (0+1)++relC (poR AX.ev)++(A5++(relC AX.po++Z5)).drop (0+1+(relC (poR AX.ev)).length)).toArray _ _)=_;rw [zad]
  have hLX:=hlt f0;have hbwY:=zst hbX hbY;exact⟨(),(cvE rfl rfl),fS,by rw [hBX];exact za2 (ho.below hbY) fMY (by decide) gS,(gS.block L (hlt (zaa hbY f0)) (by simp;omega)).trans (zaa hbY f0),hbwY.trans (zao gS hbwY.size (by omega))⟩
 have hBe:BX.ev=AX.ev:=by rw [hBX]
 clear fM ho f0 hbX;rintro _ X ⟨fM,ho,f0,hbX⟩;refine⟨List Value,fun _=>⟨[(0,At0 bP),(1,.slice pp Ps.length cp),(4,At0 L),(9,At0 M),(10,At0 M)],[]⟩,fun vs X=>X.heap[M]?=some (.cells vs.toArray 119 (0,0))/\MixV w.heap.size X vs (zcB BX init.length)/\X.heap[L]?=some (.cells (zep).toArray 119 (0,0))/\Bw w X,?_,?_⟩
 ·refine⟨_,ldP hbX h1,?_⟩;have hqM:∀ a,q=some a->a.block≠M:=fun a ha e=>by
   obtain⟨_,_,cur,h'⟩:=zav ho ha;rw [e,fM] at h';simp at h'
  refine cmo (znT fM ho.row hqM (by rw [hBe];omega) (by omega) (by rw [hBe];exact hloc)) ?_;rintro e Y ⟨rfl,⟨p1,p2,p3,c1,c2,c3,xs,ys,fY,h1',h2',h3',h4',h5',h6',h7'⟩,gY⟩;have hwX:=hbX.size;refine⟨_,(cvE rfl rfl),fY,⟨q,p1,p2,p3,c,c1,c2,c3,xs,ys,rfl,za2 ho fM (by decide) gY,h1'.lower hwX,h2',h3'.lower hwX,fun y hy=>(h4' y hy).lower hwX,h5',h6'.lower hwX,fun y hy=>(h7' y hy).lower hwX⟩,(gY.block L (hlt f0) (by simp;omega)).trans f0,hbX.trans (zao gY hbX.size (by omega))⟩
 clear fM ho f0 hbX;rintro vs X ⟨fM,hv,f0,hbX⟩;have hvl:vs.length=336:=by
  obtain⟨q,p1,p2,p3,c,c1,c2,c3,xs,ys,e,_⟩:=hv;rw [e,lap,zat];rfl
 have hv1:vs.all Value.oneCell'=true:=by
  obtain⟨q,p1,p2,p3,c,c1,c2,c3,xs,ys,e,_⟩:=hv;rw [e,List.all_append,zdp];rfl
 refine⟨vs,hvl,zab fM,hlt fM,?_⟩;refine zaq (v := .agg vs.toArray) k119 f0 hvl zb7 hv1 ?_;refine⟨vs,hvl,zab (zal f0),⟨vs,rfl,?_⟩,zah hbX (by omega) _⟩;obtain⟨q,p1,p2,p3,c,c1,c2,c3,xs,ys,e,k1,k2,k3,k4,k5,k6,k7,k8⟩:=hv;have kp:∀ {α:Type} {E:Enc α} {T cc:Nat} {r:Option Addr} {ll:List α},T≠119->OwnS E T w.heap.size X r cc ll->OwnS E T w.heap.size (X.setRow L vs.toArray) r cc ll:=fun {α E T cc r ll} hT h=>za2 h f0 hT (zbr X L _);exact⟨q,p1,p2,p3,c,c1,c2,c3,xs,ys,e,kp (by decide) k1,kp (by decide) k2,k3,kp (by decide) k4,fun y hy=>kp (by decide) (k5 y hy),k6,kp (by decide) k7,fun y hy=>kp (by decide) (k8 y hy)⟩
end
structure ExV (w:World) (x:ExD) (q:Option Addr):Prop where
 ev:SlR evE w q x.ev
 n:x.ev.length<=20
 po:WrdR x.po.to
 rf:WrdR x.rf.to
 co:WrdR x.co.to
 dt:WrdR x.dt.to
 ct:WrdR x.ct.to
 rm:WrdR x.rm.to
theorem ExV.below {w w2:World} {x:ExD} {q:Option Addr} (h:ExV w x q) (hb:Bw w w2):ExV w2 x q:=⟨h.ev.below hb,h.n,h.po,h.rf,h.co,h.dt,h.ct,h.rm⟩
theorem zev {w:World} {q:Option Addr} {l:List Ev} (h:SlR evE w q l) {i:Nat} (hi:i<l.length):∃ b o,q=some ⟨b,o,none⟩/\b<w.heap.size/\zax w ⟨b,o+i*7,none⟩ (evE.enc (l.getD i ev0)):=by
 obtain⟨b,o,hq,hb,hat⟩:=h.at hi;refine⟨b,o,hq,hb,?_⟩;rw [gDe,gE hi];exact hat i hi
theorem tU64:TyEq Tryz.prog 24 false 1 1 (fun cs=>∃ x,cs=[.int .u64 x]) := .int Tryz.underlying24 (fun w=>Tryz.isAgg24 w) (zbM (by kernel_rfl) (by kernel_rfl)).1 (by kernel_rfl)
theorem tI64:TyEq Tryz.prog 3 false 1 1 (fun cs=>∃ x,cs=[.int .i64 x]) := .int Tryz.underlying3 (fun w=>Tryz.isAgg3 w) (zbM (by kernel_rfl) (by kernel_rfl)).1 (by kernel_rfl)
theorem zs1:∃ G,TyEq Tryz.prog 25 true 48 2 G/\∀ f:Nat->Nat,G (zdK f):=by
 refine⟨_,.array (m:=48) (by decide) Tryz.underlying25 (fun w=>Tryz.isAgg25 w) (zbM (by kernel_rfl) (by kernel_rfl)).1 (by kernel_rfl) tU64,fun f i hi=>?_⟩;refine⟨(f i:Nat),?_⟩;unfold zbC;have h:=zez f hi;rw [Nat.mul_one];have hl:i<(zdK f).length:=by rw [zdg];exact hi
 rw [<- List.getElem_cons_drop hl,List.take_succ_cons,List.take_zero];rw [gE hl] at h;rw [Option.some.inj h];rfl
theorem zs2:∃ G,TyEq Tryz.prog 27 true 49 3 G/\∀ r:RelD,G (relC r):=by
 obtain⟨G,h1,h2⟩:=zs1;refine⟨_,.struct (uf Tryz.underlying27).1 (by kernel_rfl) (fun w=>Tryz.isAgg27 w) (zbM (by kernel_rfl) (by kernel_rfl)).1 (by kernel_rfl)
  (by rw [(uf Tryz.underlying27).2];exact .cons (by decide) rfl (tI64.up 1) (.cons (by decide) rfl h1 .nil)),fun r=>?_⟩
 exact⟨⟨_,rfl⟩,by have:=h2 r.to;have e:((relC r).drop 1).take 48=zdK r.to:=List.take_of_length_le (by rw [show (relC r).drop 1=zdK r.to from rfl,zdg];decide);rw [e];exact this,trivial⟩
theorem zmL {a b:RelD}:relC a=relC b↔zcv a b=true:=by
 unfold zcv;rw [bAT,dE,List.all_eq_true];constructor
 ·intro h;have h1:i64 a.n=i64 b.n:=List.head_eq_of_cons_eq h;have h2:zdK a.to=zdK b.to:=List.tail_eq_of_cons_eq h;refine⟨by injection h1,fun i hi=>decide_eq_true ?_⟩;have hi:=List.mem_range.1 hi;have h3:=zez a.to hi;rw [h2,zez b.to hi] at h3;have h4:=Option.some.inj h3;unfold s64 at h4;injection h4 with _ h5;omega
 ·rintro⟨h1,h2⟩;unfold relC zdK;rw [h1];congr 1;refine List.map_congr_left fun i hi=>?_;rw [dT (h2 i hi)]
theorem znx (x y:Operand) (a b:RelD) (w:World):(do eqGuard .eql 27 x y (.agg (relC a).toArray) (.agg (relC b).toArray);binOp .eql 27 (.agg (relC a).toArray) (.agg (relC b).toArray)).run Tryz.prog w = .ok (.bool (zcv a b)) w:=by
 obtain⟨G,h1,h2⟩:=zs2;have:=znw h1 9997 rfl (by kernel_rfl) (zad a) (zad b) (h2 a) (h2 b) x y w;rw [this,zf7 zmL,Bool.decide_eq_true]
theorem tEvE:∃ G,TyEq Tryz.prog 54 true 7 2 G/\∀ e:Ev,G (evE.enc e):=by
 refine⟨_,.struct (uf Tryz.underlying54).1 (by kernel_rfl) (fun w=>Tryz.isAgg54 w) (zbM (by kernel_rfl) (by kernel_rfl)).1 (by kernel_rfl)
  (by rw [(uf Tryz.underlying54).2];exact .cons (by decide) rfl tI64 (.cons (by decide) rfl tU8 (.cons (by decide) rfl tU8 (.cons (by decide) rfl tU8 (.cons (by decide) rfl tU8 (.cons (by decide) rfl tU8 (.cons (by decide) rfl tU8 .nil))))))),fun e=>?_⟩
 exact⟨⟨_,rfl⟩,⟨_,rfl⟩,⟨_,rfl⟩,⟨_,rfl⟩,⟨_,rfl⟩,⟨_,rfl⟩,⟨_,rfl⟩,trivial⟩
theorem znv {a b:Ev}:evE.enc a=evE.enc b↔a=b:=by
 constructor
 ·intro h;obtain⟨a1,a2,a3,a4,a5,a6,a7⟩:=a;obtain⟨b1,b2,b3,b4,b5,b6,b7⟩:=b;have h:[i64 a1,u8 a2,u8 a3,u8 a4,u8 a5,u8 a6,u8 a7]=[i64 b1,u8 b2,u8 b3,u8 b4,u8 b5,u8 b6,u8 b7]:=h;simp only [List.cons.injEq,and_true,u8,Value.int.injEq,true_and,zbj] at h;obtain⟨h1,rfl,rfl,rfl,rfl,rfl,rfl⟩:=h;have h1:a1=b1:=by injection h1
  rw [h1]
 ·rintro rfl;rfl
theorem zpA (x y:Operand) (a b:Ev) (w:World):(do eqGuard .neq 54 x y (.agg (evE.enc a).toArray) (.agg (evE.enc b).toArray);binOp .neq 54 (.agg (evE.enc a).toArray) (.agg (evE.enc b).toArray)).run Tryz.prog w = .ok (.bool (!decide (a=b))) w:=by
 obtain⟨G,h1,h2⟩:=tEvE;have:=zr3 h1 9998 rfl (by kernel_rfl) (a:=evE.enc a) (b:=evE.enc b) rfl rfl (h2 a) (h2 b) x y w;rw [this,zf7 znv]
theorem zfw:∀ (ev:List Ev) (k:Nat),(∀ j,j<k->(ev.getD j ev0).th = -1)->k<=ev.length->zaJ ev=k+zaJ (ev.drop k)
 | ev,0,_,_=>by rw [List.drop_zero,Nat.zero_add]
 | [],k+1,_,h=>by simp at h
 | e::ev,k+1,hj,h=>by
  have h0:e.th = -1:=hj 0 (by omega);have ih:=zfw ev k (fun j hjk=>hj (j+1) (by omega)) (by simpa using h);unfold zaJ at ih ⊢;rw [List.takeWhile_cons,if_pos (decide_eq_true h0),List.length_cons,ih,List.drop_succ_cons];omega
section
variable {q:Option Addr} {c:Nat} {ev:List Ev} {w:World}
theorem zlG (hl:SlR evE w q ev) (hn:ev.length<=1000):CB 39 #[.slice q ev.length c] w (i64 (zaJ ev:Nat)):=by
 refine cofE 19 [.slice q ev.length c] Tryz.func39 ?_;refine⟨Nat,fun k=>⟨[(0,.slice q ev.length c),(5,.slice q ev.length c),(6,i64 ev.length),(7,i64 (k:Nat))],[]⟩,fun k X=>k<=ev.length/\(∀ j,j<k->(ev.getD j ev0).th = -1)/\Bw w X,fun k=>ev.length-k,0,(cvE rfl rfl),⟨Nat.zero_le _,fun j h=>by omega,Below.refl _ _⟩,?_⟩;rintro k X ⟨hk,hj,hbX⟩;dsimp only;have hXs:=hbX.size;refine biE (fun hc=>?_) fun hc=>?_
 ·have hc:(k:Int)<(ev.length:Int):=dT hc;have hkl:k<ev.length:=by omega
  obtain⟨b,o,rfl,hb,hat⟩:=zev (hl.below hbX) hkl;obtain⟨e,he⟩:=nm (ev.getD k ev0);rw [<- he] at hat;refine⟨k,rfl,hkl,?_⟩;refine⟨evE.enc e,rfl,hat,hb,?_⟩;refine zak (X:=X) (v := .agg (evE.enc e).toArray) k54 rfl rfl (List.all_eq_true.2 fun u hu=>evE.one e u hu) fun Y hbY fY sY=>?_;have fY:Y.heap[X.heap.size]?=some (.cells (evE.enc e).toArray 54 (0,0)):=fY;refine⟨i64 e.th,zac (zab fY) (i:=0) rfl,?_⟩;have hbY2:=hbX.trans (hbY.mono hXs);refine biE (fun h=>?_) fun h=>?_
  ·have h:(!decide (e.th = -1))=true:=h;have h:¬ e.th = -1:=by simpa using h
   refine⟨?_,hbY2⟩;have h2:=zfw ev k hj hk;have h3:zaJ (ev.drop k)=0:=by
    unfold zaJ;have h4:ev[k]=e:=(by rw [he,gDe,gE hkl];rfl);rw [<- List.getElem_cons_drop hkl,List.takeWhile_cons,h4,if_neg (by simpa using h)];rfl
   rw [h3] at h2;exact ri (by omega)
  ·have h:(!decide (e.th = -1))=false:=h;have h:e.th = -1:=by simpa using h
   refine nxI (by omega) ?_;refine⟨k+1,(cvE rfl rfl),⟨hkl,fun j hjk=>?_,hbY2⟩,zdc (by omega)⟩;by_cases e2:j=k
   ·rw [e2,<- he];exact h
   ·exact hj j (by omega)
 ·have hc:¬ (k:Int)<(ev.length:Int):=dF hc;obtain rfl:k=ev.length:=by omega
  refine⟨?_,hbX⟩;have h2:=zfw ev ev.length hj (Nat.le_refl _);rw [List.drop_length] at h2;exact ri (by rw [h2];show ((ev.length:Nat):Int)=((ev.length+0:Nat):Int);rfl)
theorem zpd {i:Nat} {v:UInt8}:zha (zku [(0,1,false),(1,1,false),(2,1,false),(3,1,false),(4,1,false),(5,1,false),(6,1,false)]) (evE.enc ev0) [(0,i64 (-1)),(1,u8 2),(2,u8 (UInt8.ofNat i)),(3,u8 v)]=some (evE.enc ⟨-1,2,UInt8.ofNat i,v,0,0,0⟩):=rfl
theorem zh7 {locs:Nat} (hl:SlR evE w q ev) (hn:ev.length<=1000) (hlo:locs<=1000):CB 40 #[.slice q ev.length c,i64 locs] w (.bool (zbB ev locs)):=by
 refine cofE 69 [.slice q ev.length c,i64 locs] Tryz.func40 ?_;refine⟨Nat×Int×Nat,fun s=>⟨[(1,i64 locs),(5,i64 s.2.1),(6,i64 (s.2.2:Nat)),(9,.slice q ev.length c),(10,i64 ev.length),(11,i64 (s.1:Nat))],[]⟩,fun s X=>s.1<=ev.length/\s.2.2<=s.1/\evGo locs s.1 (ev.drop s.1) s.2.1 s.2.2=zbB ev locs/\Bw w X,fun s=>ev.length-s.1,(0,0,0),(cvE rfl rfl),⟨Nat.zero_le _,Nat.le_refl _,rfl,Below.refl _ _⟩,?_⟩;rintro⟨k,t,m⟩ X ⟨hk,hm,hgo,hbX⟩;dsimp only at hk hm hgo ⊢;have hXs:=hbX.size;refine biE (fun hc=>?_) fun hc=>?_
 ·have hc:(k:Int)<(ev.length:Int):=dT hc;have hkl:k<ev.length:=by omega
  obtain⟨b,o,rfl,hb,hat⟩:=zev (hl.below hbX) hkl;obtain⟨e,he⟩:=nm (ev.getD k ev0);rw [<- he] at hat;have hdr:ev.drop k=e::ev.drop (k+1):=by
   rw [<- List.getElem_cons_drop hkl,he,gDe,gE hkl];rfl
  rw [hdr] at hgo;unfold evGo at hgo;refine⟨k,rfl,hkl,?_⟩;refine⟨evE.enc e,rfl,hat,hb,?_⟩;refine zak (X:=X) (v := .agg (evE.enc e).toArray) k54 rfl rfl (List.all_eq_true.2 fun u hu=>evE.one e u hu) fun Y hbY fY sY=>?_;have fY:Y.heap[X.heap.size]?=some (.cells (evE.enc e).toArray 54 (0,0)):=fY;have hbY2:=hbX.trans (hbY.mono hXs);have ld:∀ {i:Nat} {v:Value},(evE.enc e)[i]?=some v->Y.cell? ⟨X.heap.size,0+i,none⟩=some v:=fun h=>zac (zab fY) h;have no:zbB ev locs=false->(Ending.returned (.bool false)=Ending.returned (.bool (zbB ev locs))/\Bw w Y):=fun h=>⟨rb h.symm,hbY2⟩;refine biE (fun h=>?_) fun h=>?_
  ·have h:(k:Int)<(locs:Int):=dT h;rw [if_pos (by omega:k<locs)] at hgo;refine⟨evE.enc e,rfl,zab fY,hlt fY,?_⟩;refine⟨_,w8N k,?_⟩;refine⟨u8 e.v,ld (i:=3) rfl,?_⟩;refine⟨evE.enc ⟨-1,2,UInt8.ofNat k,e.v,0,0,0⟩,zpd,?_⟩;refine⟨_,fun w=>zpA _ _ e _ w,?_⟩;refine biE (fun h2=>?_) fun h2=>?_
   ·have h2:¬ e=⟨-1,2,UInt8.ofNat k,e.v,0,0,0⟩:=(by simpa using h2);rw [if_neg h2] at hgo;exact no hgo.symm
   ·have h2:e=⟨-1,2,UInt8.ofNat k,e.v,0,0,0⟩:=(by simpa using h2);rw [if_pos h2] at hgo;refine nxI (by omega) ?_;exact⟨(k+1,t,m),(cvE rfl rfl),⟨hkl,by show m<=k+1;omega,hgo,hbY2⟩,zdc (by omega)⟩
  ·have h:¬ (k:Int)<(locs:Int):=dF h;rw [if_neg (by omega:¬ k<locs)] at hgo;refine⟨i64 e.th,ld (i:=0) rfl,?_⟩;refine biE (fun h1=>?_) fun h1=>?_
   ·have h1:e.th<t:=dT h1;refine brT ?_;rw [if_pos (.inl h1)] at hgo;exact no hgo.symm
   have h1:¬ e.th<t:=dF h1;refine⟨i64 e.th,ld (i:=0) rfl,?_⟩;refine biE (fun h2=>?_) fun h2=>?_
   ·have h2:4<=e.th:=dT h2;rw [if_pos (.inr h2)] at hgo;exact no hgo.symm
   have h2:¬ 4<=e.th:=dF h2;rw [if_neg (by rintro (h | h);exact h1 h;exact h2 h)] at hgo;refine⟨i64 e.th,ld (i:=0) rfl,?_⟩;refine biE (fun h9=>?_) fun h9=>?_
   ·have h9:t<e.th:=dT h9;dsimp only at hgo;rw [if_pos h9,if_pos h9] at hgo;refine⟨i64 e.th,ld (i:=0) rfl,?_⟩;refine⟨u8 e.p,ld (i:=6) rfl,?_⟩;refine⟨(e.p.toNat:Int),zaN _,?_⟩;refine biE (fun h3=>?_) fun h3=>?_
    ·have h3:¬ e.p.toNat=0:=by
      have h3:(!decide ((e.p.toNat:Int)=(0:Nat)))=true:=h3;simpa using h3
     rw [if_neg h3] at hgo;exact no hgo.symm
    have h3:e.p.toNat=0:=by
     have h3:(!decide ((e.p.toNat:Int)=(0:Nat)))=false:=h3;simpa using h3
    rw [if_pos h3] at hgo;refine⟨((0+1:Nat):Int),(zaj (by omega)).trans (by omega),?_⟩;refine⟨u8 e.k,ld (i:=1) rfl,?_⟩;refine biE (fun h4=>?_) fun h4=>?_
    ·refine brE h4 ?_;have h4:e.k=1:=zbj.1 (dT h4);rw [if_pos (.inl h4)] at hgo;refine⟨u8 e.l,ld (i:=2) rfl,?_⟩;refine⟨(e.l.toNat:Int),zaN _,?_⟩;refine biE (fun h5=>?_) fun h5=>?_
     ·have h5:(locs:Int)<=(e.l.toNat:Int):=dT h5;rw [if_neg (by omega)] at hgo;exact no hgo.symm
     ·have h5:¬ (locs:Int)<=(e.l.toNat:Int):=dF h5;rw [if_pos (by omega)] at hgo;refine nxI (by omega) ?_;exact⟨(k+1,e.th,0+1),(cvE rfl rfl),⟨hkl,by show 0+1<=k+1;omega,hgo,hbY2⟩,zdc (by omega)⟩
    have h4:¬ e.k=1:=fun e2=>(dF h4) (by rw [e2];rfl);refine biE (fun h5=>?_) fun h5=>?_
    ·have h5:e.k=2:=zbj.1 (dT h5);rw [if_pos (.inr h5)] at hgo;refine⟨u8 e.l,ld (i:=2) rfl,?_⟩;refine⟨(e.l.toNat:Int),zaN _,?_⟩;refine biE (fun h5=>?_) fun h5=>?_
     ·have h5:(locs:Int)<=(e.l.toNat:Int):=dT h5;rw [if_neg (by omega)] at hgo;exact no hgo.symm
     ·have h5:¬ (locs:Int)<=(e.l.toNat:Int):=dF h5;rw [if_pos (by omega)] at hgo;refine nxI (by omega) ?_;exact⟨(k+1,e.th,0+1),(cvE rfl rfl),⟨hkl,by show 0+1<=k+1;omega,hgo,hbY2⟩,zdc (by omega)⟩
    have h5:¬ e.k=2:=fun e2=>(dF h5) (by rw [e2];rfl);rw [if_neg (by rintro (h | h);exact h4 h;exact h5 h)] at hgo;refine biE (fun h6=>?_) fun h6=>?_
    ·have h6:e.k=3:=zbj.1 (dT h6);rw [if_pos h6] at hgo;refine⟨u8 e.l,ld (i:=2) rfl,?_⟩;refine biE (fun h7=>?_) fun h7=>?_
     ·have h7:¬ e.l=0:=by
       have h7:(!decide ((e.l.toNat:Int)=0))=true:=h7;intro e2;rw [e2] at h7
       cases h7
      refine brT ?_;rw [if_neg fun h=>h7 h.1] at hgo;exact no hgo.symm
     ·have h7:e.l=0:=by
       have h7:(!decide ((e.l.toNat:Int)=((0:UInt8).toNat:Int)))=false:=h7;exact zbj.1 (by simpa using h7)
      refine⟨u8 e.v,ld (i:=3) rfl,?_⟩;refine biE (fun h8=>?_) fun h8=>?_
      ·have h8:¬ e.v=0:=by
        have h8:(!decide ((e.v.toNat:Int)=0))=true:=h8;intro e2;rw [e2] at h8
        cases h8
       rw [if_neg fun h=>h8 h.2] at hgo;exact no hgo.symm
      ·have h8:e.v=0:=by
        have h8:(!decide ((e.v.toNat:Int)=((0:UInt8).toNat:Int)))=false:=h8;exact zbj.1 (by simpa using h8)
       rw [if_pos ⟨h7,h8⟩] at hgo;refine nxI (by omega) ?_;exact⟨(k+1,e.th,0+1),(cvE rfl rfl),⟨hkl,by show 0+1<=k+1;omega,hgo,hbY2⟩,zdc (by omega)⟩
    ·have h6:¬ e.k=3:=fun e2=>(dF h6) (by rw [e2];rfl);rw [if_neg h6] at hgo;exact no hgo.symm
   ·have h9:¬ t<e.th:=dF h9;dsimp only at hgo;rw [if_neg h9,if_neg h9] at hgo;refine⟨u8 e.p,ld (i:=6) rfl,?_⟩;refine⟨(e.p.toNat:Int),zaN _,?_⟩;refine biE (fun h3=>?_) fun h3=>?_
    ·have h3:¬ e.p.toNat=m:=by
      have h3:(!decide ((e.p.toNat:Int)=(m:Nat)))=true:=h3;intro e2;rw [e2] at h3;simp at h3
     rw [if_neg h3] at hgo;exact no hgo.symm
    have h3:e.p.toNat=m:=by
     have h3:(!decide ((e.p.toNat:Int)=(m:Nat)))=false:=h3;have h3:(e.p.toNat:Int)=(m:Nat):=(by simpa using h3);omega
    rw [if_pos h3] at hgo;refine nxI (by omega) ?_;refine⟨u8 e.k,ld (i:=1) rfl,?_⟩;refine biE (fun h4=>?_) fun h4=>?_
    ·refine brE h4 ?_;have h4:e.k=1:=zbj.1 (dT h4);rw [if_pos (.inl h4)] at hgo;refine⟨u8 e.l,ld (i:=2) rfl,?_⟩;refine⟨(e.l.toNat:Int),zaN _,?_⟩;refine biE (fun h5=>?_) fun h5=>?_
     ·have h5:(locs:Int)<=(e.l.toNat:Int):=dT h5;rw [if_neg (by omega)] at hgo;exact no hgo.symm
     ·have h5:¬ (locs:Int)<=(e.l.toNat:Int):=dF h5;rw [if_pos (by omega)] at hgo;refine nxI (by omega) ?_;exact⟨(k+1,t,m+1),(cvE rfl rfl),⟨hkl,by show m+1<=k+1;omega,hgo,hbY2⟩,zdc (by omega)⟩
    have h4:¬ e.k=1:=fun e2=>(dF h4) (by rw [e2];rfl);refine biE (fun h5=>?_) fun h5=>?_
    ·have h5:e.k=2:=zbj.1 (dT h5);rw [if_pos (.inr h5)] at hgo;refine⟨u8 e.l,ld (i:=2) rfl,?_⟩;refine⟨(e.l.toNat:Int),zaN _,?_⟩;refine biE (fun h5=>?_) fun h5=>?_
     ·have h5:(locs:Int)<=(e.l.toNat:Int):=dT h5;rw [if_neg (by omega)] at hgo;exact no hgo.symm
     ·have h5:¬ (locs:Int)<=(e.l.toNat:Int):=dF h5;rw [if_pos (by omega)] at hgo;refine nxI (by omega) ?_;exact⟨(k+1,t,m+1),(cvE rfl rfl),⟨hkl,by show m+1<=k+1;omega,hgo,hbY2⟩,zdc (by omega)⟩
    have h5:¬ e.k=2:=fun e2=>(dF h5) (by rw [e2];rfl);rw [if_neg (by rintro (h | h);exact h4 h;exact h5 h)] at hgo;refine biE (fun h6=>?_) fun h6=>?_
    ·have h6:e.k=3:=zbj.1 (dT h6);rw [if_pos h6] at hgo;refine⟨u8 e.l,ld (i:=2) rfl,?_⟩;refine biE (fun h7=>?_) fun h7=>?_
     ·have h7:¬ e.l=0:=by
       have h7:(!decide ((e.l.toNat:Int)=0))=true:=h7;intro e2;rw [e2] at h7
       cases h7
      refine brT ?_;rw [if_neg fun h=>h7 h.1] at hgo;exact no hgo.symm
     ·have h7:e.l=0:=by
       have h7:(!decide ((e.l.toNat:Int)=((0:UInt8).toNat:Int)))=false:=h7;exact zbj.1 (by simpa using h7)
      refine⟨u8 e.v,ld (i:=3) rfl,?_⟩;refine biE (fun h8=>?_) fun h8=>?_
      ·have h8:¬ e.v=0:=by
        have h8:(!decide ((e.v.toNat:Int)=0))=true:=h8;intro e2;rw [e2] at h8
        cases h8
       rw [if_neg fun h=>h8 h.2] at hgo;exact no hgo.symm
      ·have h8:e.v=0:=by
        have h8:(!decide ((e.v.toNat:Int)=((0:UInt8).toNat:Int)))=false:=h8;exact zbj.1 (by simpa using h8)
       rw [if_pos ⟨h7,h8⟩] at hgo;refine nxI (by omega) ?_;exact⟨(k+1,t,m+1),(cvE rfl rfl),⟨hkl,by show m+1<=k+1;omega,hgo,hbY2⟩,zdc (by omega)⟩
    ·have h6:¬ e.k=3:=fun e2=>(dF h6) (by rw [e2];rfl);rw [if_neg h6] at hgo;exact no hgo.symm
 ·have hc:¬ (k:Int)<(ev.length:Int):=dF hc;obtain rfl:k=ev.length:=by omega
  rw [List.drop_length] at hgo;exact⟨rb hgo,hbX⟩
end
end Go.Proofs.YtmbghmhjjodgmaaGreatDoor
namespace Go.Vc
open Go.RowKit
def zrD {α:Type} (P:Program) (g:Nat) (lb:List Value) (xs:List α) (W0:World) (Rd:Nat->Prop) (St:List α->List Value->World->Prop) (Gv:List Value->Nat->Prop):Prop :=
 ∀ (l:Nat) (F0:Nat->Prop) (J:List α->(Nat->Prop)->World->Prop) (W:World),W0.heap.size<=W.heap.size->(∀ k,Rd k->W.heap[k]?=W0.heap[k]?)->(∀ k,Rd k->¬ F0 k) ->
  JG W.heap.size (fun _=>False) J ->
  (∀ pre x vs F W1,J pre F W1->St (pre++[x]) vs W1->(∀ k,Gv vs k->W.heap.size<=k)->(pre++[x]) <+: xs->YieldR P l vs.toArray W1 fun v W2 =>
   v = .bool true/\∃ F',J (pre++[x]) F' W2/\KeepsG (fun k=>F k\/Gv vs k) F' W1 W2) ->
  J [] F0 W ->
  Calls P g (.func (.yield l) #[] #[]::lb).toArray W fun e W'=>(∃ v,e = .returned v)/\∃ F',J xs F' W'
theorem zrV {α:Type} {S:Sig} (hS:SigOk S) (hr:S.r=none) {f:Operand} {ps:Array Tmp} {assign body:Code} {E:Env} {w:World} {Q:Exit->Env->World->Prop}
  {gf:Nat} {lb:Array Value} (hg:opd E f=some (.func (.func gf) #[] lb)) (hok:zbP S gf=true)
  {xs:List α} {W0:World} {Rd:Nat->Prop} {St:List α->List Value->World->Prop} {Gv:List Value->Nat->Prop} (hI:zrD S.P gf lb.toList xs W0 Rd St Gv) (hGv:∀ pre vs W k,St pre vs W->Gv vs k->∃ cs t fr,W.heap[k]?=some (.cells cs t fr)) (hW0:W0.heap.size<=w.heap.size) (hRd:∀ k,Rd k->k<W0.heap.size/\w.heap[k]?=W0.heap[k]?)
  (hps:∀ pre vs W,St pre vs W->vs.length=ps.size) (hpn:∀ p∈ps.toList,p<S.n)
  (F0:Nat->Prop) (J:List α->(Nat->Prop)->World->Prop) (hRF:∀ k,Rd k->¬ F0 k)
  (hJ:JG w.heap.size (fun _=>False) J) (h0:J [] F0 w)
  (hround:∀ (l:Nat) (pre:List α) (x:α) (vs:List Value) (F:Nat->Prop) (W:World),w.heap.size<=l->(pre++[x]) <+: xs->J pre F W->St (pre++[x]) vs W->(∀ k,Gv vs k->w.heap.size<=k)->¬ F l->(∃ lo,W.heap[l]?=some (.loop lo)) ->
   wpE (sr S l) assign ⟨setL ps.toList vs E.vs,[]⟩ W fun ex E1 W1=>ex = .normal/\∃ F1,KeepsG (fun k=>F k\/Gv vs k) F1 W W1/\J pre F1 W1 /\
    ∀ o W2,W2=W1.putObj l o->J pre F1 W2->wpE (sr S l) body E1 W2 (zsH F1 J (fun _ _ _ _=>False) (pre++[x]) W2))
  (hdone:∀ D F W,w.heap.size<=D->¬ F D->J xs F W->W.heap[D]?=some (.deferred (some []))->Q .normal ⟨E.vs,{ target := .collected D,args := #[] }::E.ds⟩ W) :
  zlc S f ps assign body E w Q:=by
 intro a ha;have hcall:∀ args w,(callFunc gf args).run S.P w = .ok (.enter gf args) w:=by
  simp only [zbP,bAT,Nat.ble_eq,Nat.blt_eq] at hok;exact fun args w=>hS.call gf hok.1.1 hok.1.2 hok.2 args w
 refine wpIn_rangeFunc ?_;intro fn hfn;have hro:(FR S.r).round=none:=hr;rw [hro];obtain⟨rec,hrec⟩:∃ rec:LoopState->Option Code->Loop,rec=fun st pe=>{ state:=st,pending:=pe,fn,tmps:=a.tmps,params:=ps,assign,body,defers:=w.heap.size }:=⟨_,rfl⟩;obtain⟨W1,hW1⟩:∃ W1,(w.alloc (.deferred (some []))).alloc (.loop (rec .ready none))=W1:=⟨_,rfl⟩;have hK0:=hnew w (.deferred (some []));have hK1:W1.heap[w.heap.size]?=some (.deferred (some [])):=by rw [<- hW1];exact hold _ hK0
 have hL1:W1.heap[w.heap.size+1]?=some (.loop (rec .ready none)):=by
  rw [<- hW1];have:=hnew (w.alloc (.deferred (some []))) (.loop (rec .ready none));rwa [wz] at this
 have hs1:W1.heap.size=w.heap.size+2:=by rw [<- hW1];simp
 have hst1:Bw w W1:=by
  rw [<- hW1];exact ((zba w _)).alloc (by simp) _
 have hJ1:=hJ.step _ _ _ _ h0 (.below hst1);have hFl:∀ k,F0 k->k<w.heap.size:=fun k hk=>(hJ.lt _ _ _ k h0 hk).1;refine⟨w.heap.size+1,[{ target := .collected w.heap.size,args := #[] }],W1,{ target := .fn (.func gf) lb,args := #[.func (.yield (w.heap.size+1)) #[] #[]] },W1,gf,
  #[.func (.yield (w.heap.size+1)) #[] #[]]++lb,W1,?_,?_,fun _ _=>trivial,?_,fun h=>by simp [FR] at h,?_⟩
 ·rw [<- hW1,hrec];exact run_enterLoop_outer _ _ _ _ _
 ·have hg':=ha.eval hg;simp only [resolve,hg'];simp [go_sem]
 ·simp [invoke,go_sem,hcall]
 ·have hargs : #[Value.func (.yield (w.heap.size+1)) #[] #[]]++lb=(Value.func (.yield (w.heap.size+1)) #[] #[]::lb.toList).toArray:=by rw [<- Array.toList_inj];simp
  rw [hargs];have book:∀ {σ:Type} {K:σ->(Nat->Prop)->World->Prop} (lo:Loop),JG w.heap.size (fun _=>False) K->JG W1.heap.size (fun _=>False) (fun s F W=>K s F W/\W.heap[w.heap.size+1]?=some (.loop lo)/\W.heap[w.heap.size]?=some (.deferred (some []))/\¬ F (w.heap.size+1)/\¬ F w.heap.size):=by
   intro σ K lo hK;refine⟨fun s F A B ⟨hk,hl,hd,hf1,hf2⟩ hs=>?_,fun s F A k ⟨hk,_⟩ hf=>hK.lt s F A k hk hf⟩;exact⟨hK.step s F A B hk (hs.mono (by omega)),(hs.same _ (hlt hl) (.inl ⟨by omega,fun h=>h⟩)).trans hl,(hs.same _ (hlt hd) (.inl ⟨by omega,fun h=>h⟩)).trans hd,hf1,hf2⟩
  have hcalls:=hI (w.heap.size+1) F0 (fun pre F W=>J pre F W/\W.heap[w.heap.size+1]?=some (.loop (rec .ready none))/\W.heap[w.heap.size]?=some (.deferred (some []))/\¬ F (w.heap.size+1)/\¬ F w.heap.size)
   W1 (by omega) (fun k hk=>by
    obtain⟨h1,h2⟩:=hRd k hk;rw [<- h2];exact hst1.block k (by omega)) hRF (book _ hJ) ?_ ⟨hJ1,hL1,hK1,fun h=>by have:=hFl _ h;omega,fun h=>by have:=hFl _ h;omega⟩
  ·refine zel (hcalls.mono ?_);rintro e W2 ⟨⟨v,rfl⟩,F,hj,hl,hk,hf1,hf2⟩;have hj2:=hJ.step _ _ _ _ hj (StepG.put (Ow:=fun _=>False) (o := .loop (rec .exhausted none)) (n0:=w.heap.size) (l:=w.heap.size+1) (by omega) hf1);refine⟨none,_,by have:=run_endLoop (P:=S.P) hl (by rw [hrec];simp);rw [hrec] at this;exact this,?_⟩;rw [hrec] at hj2;exact⟨⟨E.vs,{ target := .collected w.heap.size,args := #[] }::E.ds⟩,⟨ha.size,by simp [ha.defers],ha.val⟩,hdone w.heap.size F _ (Nat.le_refl _) hf2 hj2 ((zag (by omega)).trans hk)⟩
  ·rintro pre x vs F W ⟨hj,hl,hk,hf1,hf2⟩ hst0 hgv0 hpre;have hg1:¬ (F (w.heap.size+1)\/Gv vs (w.heap.size+1)):=fun h=>h.elim hf1 fun h=>by
    obtain⟨_,_,_,h2⟩:=hGv _ _ _ _ hst0 h;rw [hl] at h2;cases h2
   have hg2:¬ (F w.heap.size\/Gv vs w.heap.size):=fun h=>h.elim hf2 fun h=>by
    obtain⟨_,_,_,h2⟩:=hGv _ _ _ _ hst0 h;rw [hk] at h2;cases h2
   have hy:=run_yield (P:=S.P) (args:=vs.toArray) hl (by rw [hrec];simpa using hps _ _ _ hst0);rw [hrec] at hy;refine⟨fn,_,assign,body,hy,zdL (r:=none) (n:=NN) (roundIn_of_wpIn (F:=FR none) trivial ?_)⟩;have hag:Agrees (sr S (w.heap.size+1)) { tmps:=(ps.zip vs.toArray).foldl (fun t (p,v)=>t.setIfInBounds p v) a.tmps,defers:=[] } ⟨setL ps.toList vs E.vs,[]⟩:=by
    have h1:Agrees (sr S (w.heap.size+1)) { a with defers:=[] } ⟨E.vs,[]⟩:=⟨ha.size,rfl,ha.val⟩;have h2:=zdG ps.toList vs _ _ h1 hpn;have e:(ps.zip vs.toArray).foldl (fun t (p,v)=>t.setIfInBounds p v) a.tmps=(ps.toList.zip vs).foldl (fun t (p,v)=>t.setIfInBounds p v) a.tmps:=by
     rw [<- Array.foldl_toList];simp
    rw [e];exact h2
   have hw:=zbf (zli hS _) assign _ _ W _ hag (hround (w.heap.size+1) pre x vs F W (by omega) hpre hj hst0 (fun k hk=>by have:=hgv0 k hk;omega) hf1 ⟨_,hl⟩);refine wpIn_mono hw ?_;rintro ex a1 Wa ⟨E1,hag1,rfl,F1,hk1,hj1,hbody⟩;have hla:=(hk1.same _ (hlt hl) hg1).trans hl;have hka:=(hk1.same _ (hlt hk) hg2).trans hk;have hfa1:¬ F1 (w.heap.size+1):=fun h=>by rcases hk1.fp _ h with h | h;exact hg1 h;have:=hlt hl;omega
   have hfa2:¬ F1 w.heap.size:=fun h=>by rcases hk1.fp _ h with h | h;exact hg2 h;have:=hlt hk;omega
   refine⟨_,run_beginRound hla (by rw [hrec]),?_⟩;have hst:StepG w.heap.size (fun _=>False) F1 Wa (Wa.putObj (w.heap.size+1) (.loop { rec .ready none with state := .busy })) := .put (by omega) hfa1 _;have hj2:=hJ.step _ _ _ _ hj1 hst;have hw2:=zbf (zli hS _) body _ _ _ _ hag1 (hbody _ _ rfl hj2);refine wpIn_mono hw2 ?_;have hl2:(Wa.putObj (w.heap.size+1) (.loop { rec .ready none with state := .busy })).heap[w.heap.size+1]?=some (.loop { rec .ready none with state := .busy }):=zei hla;have hk2:(Wa.putObj (w.heap.size+1) (.loop { rec .ready none with state := .busy })).heap[w.heap.size]?=some (.deferred (some [])):=(zag (by omega)).trans hka;rintro e a3 W3 ⟨E3,_,hq⟩
   cases e with
   | normal =>
    obtain⟨F3,hj3,hk3⟩:=hq;have hl3:=(hk3.same _ (hlt hl2) hfa1).trans hl2;have hd3:=(hk3.same _ (hlt hk2) hfa2).trans hk2;have hf31:¬ F3 (w.heap.size+1):=fun h=>by rcases hk3.fp _ h with h | h;exact hfa1 h;have:=hlt hl2;omega
    have hf32:¬ F3 w.heap.size:=fun h=>by rcases hk3.fp _ h with h | h;exact hfa2 h;have:=hlt hk2;omega
    have hr3:=run_endRound (P:=S.P) none hl3;have hl4:=zei (o' := .loop (rec .ready none)) hl3;have hk4:(W3.putObj (w.heap.size+1) (.loop (rec .ready none))).heap[w.heap.size]?=some (.deferred (some [])):=(zag (by omega)).trans hd3;have hs3:StepG w.heap.size (fun _=>False) F3 W3 (W3.putObj (w.heap.size+1) (.loop (rec .ready none))) := .put (by omega) hf31 _;have hj4:=hJ.step _ _ _ _ hj3 hs3;rw [hrec] at hr3 hl4 hk4 hs3 hj4;refine⟨_,_,hr3,rfl,F3,⟨hj4,by rw [hrec];exact hl4,hk4,hf31,hf32⟩,?_⟩;refine⟨hs3.os.trans (hk3.os.trans hk1.os),hs3.tape.trans (hk3.tape.trans hk1.tape),hs3.output.trans (hk3.output.trans hk1.output),?_,fun k hk5 hf5=>?_,fun k hk5=>?_⟩
    ·have h1:=hk1.size;have h2:=hst.size;have h3:=hk3.size;have h4:=hs3.size;exact Nat.le_trans (Nat.le_trans (Nat.le_trans h1 h2) h3) h4
    ·by_cases hkl:k=w.heap.size+1
     ·subst hkl;rw [hl,hrec];exact hl4
     ·have h1:¬ F1 k:=fun h=>by rcases hk1.fp _ h with h | h;exact hf5 h;omega
      have h2:=hk1.size;have h3:=hst.size;rw [zag hkl,hk3.same k (by omega) h1,zag hkl];exact hk1.same k hk5 hf5
    ·rcases hk3.fp _ hk5 with h2 | h2
     ·exact hk1.fp _ h2
     ·have h3:=hk1.size;have h4:=hst.size;exact .inr (by omega)
   | ret=>exact (show False from (by obtain⟨_,h,_⟩:=hq;exact h)).elim
   | exit id=>exact (show False from (by obtain⟨_,h,_⟩:=hq;exact h)).elim
   | goto t=>exact hq.elim
   | panic ch=>exact hq.elim
   | outgrown=>exact hq.elim
end Go.Vc
namespace Go.Proofs.YtmbghmhjjodgmaaGreatDoor
open Go.Vc Go.RowKit Go.Sei
abbrev zg4:=List NatL×Option Addr×Nat
def rnkE:Enc zg4 where
 sz:=1
 enc x:=[.slice x.2.1 x.1.length x.2.2]
 len x:=rfl
 one x v hv:=by
  simp at hv;subst hv;rfl
 pos:=by decide
structure MixM (Rd:Nat->Prop) (w:World) (b o:Nat) (m:MixD) (q:Option Addr) (c:Nat) (p1 p2 p3:Option Addr) (c1 c2 c3:Nat) (xs ys:List NatL):Prop where
 cells:zax w ⟨b,o,none⟩ (exC m.base q c++[.slice p1 m.rs.length c1,.slice p2 xs.length c2,.slice p3 ys.length c3])
 ev:SlR evE w q m.base.ev
 qn:q=none->c=0
 r1:SlR natE w p1 (m.rs.map (·.1))
 e2:xs.map (·.1)=m.rs.map (·.2)
 r2:SlR zbS w p2 xs
 n2:∀ y∈xs,SlR natE w y.2.1 y.1
 e3:ys.map (·.1)=m.wr
 r3:SlR zbS w p3 ys
 n3:∀ y∈ys,SlR natE w y.2.1 y.1
 db:Rd b
 dq:∀ a,q=some a->Rd a.block
 d1:∀ a,p1=some a->Rd a.block
 d2:∀ a,p2=some a->Rd a.block
 d3:∀ a,p3=some a->Rd a.block
 m2:∀ y∈xs,∀ a,y.2.1=some a->Rd a.block
 m3:∀ y∈ys,∀ a,y.2.1=some a->Rd a.block
theorem MixM.same {Rd:Nat->Prop} {w X:World} {b o:Nat} {m:MixD} {q:Option Addr} {c:Nat} {p1 p2 p3:Option Addr} {c1 c2 c3:Nat} {xs ys:List NatL} (h:MixM Rd w b o m q c p1 p2 p3 c1 c2 c3 xs ys) (hs:∀ k,Rd k->X.heap[k]?=w.heap[k]?):MixM Rd X b o m q c p1 p2 p3 c1 c2 c3 xs ys :=
 ⟨zbo (hs _ h.db) h.cells,zbk h.ev fun a ha=>hs _ (h.dq a ha),h.qn,zbk h.r1 fun a ha=>hs _ (h.d1 a ha),h.e2,zbk h.r2 fun a ha=>hs _ (h.d2 a ha),fun y hy=>zbk (h.n2 y hy) fun a ha=>hs _ (h.m2 y hy a ha),
  h.e3,zbk h.r3 fun a ha=>hs _ (h.d3 a ha),fun y hy=>zbk (h.n3 y hy) fun a ha=>hs _ (h.m3 y hy a ha),h.db,h.dq,h.d1,h.d2,h.d3,h.m2,h.m3⟩
theorem zgA {w:World} {b o:Nat} {x:ExD} {q:Option Addr} {c:Nat} {S:List Value} (h:zax w ⟨b,o,none⟩ (exC x q c++S)) {i:Nat} {v:Value} (hi:S[i]?=some v):w.cell? ⟨b,o+(333+i),none⟩=some v:=zac h (zhU hi)
theorem appR {B c:Nat} {V1:World} {p:Option Addr} {l:List zg4} {y:zg4} {a:Addr} (ho:OwnS rnkE 117 B V1 p c l) (ha:zax V1 a ([y].flatMap rnkE.enc)) (hB:B<=V1.heap.size) (hl:l.length<=100000) {K:Value->World->Prop}
  (h:∀ p' c' w',OwnS rnkE 117 B w' p' c' (l++[y])->V1.grownBy w' (p.map Addr.block)->(∀ a,p'=some a->p=some a\/a.block=V1.heap.size)->K (.slice p' (l++[y]).length c') w') :
  SatR ((Builtin.append_ #[172,172] 172 #[.slice p l.length c,.slice (some a) 1 1]).run Tryz.prog V1) K :=
 zbJ (E:=rnkE) (T:=117) (B:=B) (l:=l) (news:=[y]) (cap:=c) (m:=1) Tryz.underlying172 k117 rfl rfl rfl ho rfl ha hB (by omega) (by show (l.length+1)*24<=_;omega) fun p' c' w' a1 a2 _ a4=>h p' c' w' a1 (by rw [zcN] at a2;exact a2) a4
structure CanS (B:Nat) (Z:World) (yl L R:Nat) (ss:List Nat) (ps:Option Addr) (cs:Nat) (zs:List zg4) (pr:Option Addr) (cr:Nat):Prop where
 fL:Z.heap[L]?=some (.cells #[.func (.yield yl) #[] #[]] 36 (0,0))
 fR:Z.heap[R]?=some (.cells #[.slice pr zs.length cr] 172 (0,0))
 own:OwnS natE 3 B Z ps cs ss
 rk:OwnS rnkE 117 B Z pr cr zs
 n1:∀ z∈zs,OwnS zbS 108 B Z z.2.1 z.2.2 z.1
 n2:∀ z∈zs,∀ y∈z.1,OwnS natE 3 B Z y.2.1 y.2.2 y.1
 dis:∀ z∈zs,∀ y∈z.1,∀ a b,ps=some a->y.2.1=some b->a.block≠b.block
theorem CanS.below {B:Nat} {Z Y:World} {yl L R:Nat} {ss:List Nat} {ps:Option Addr} {cs:Nat} {zs:List zg4} {pr:Option Addr} {cr:Nat} (h:CanS B Z yl L R ss ps cs zs pr cr) (hb:Bw Z Y):CanS B Y yl L R ss ps cs zs pr cr :=
 ⟨zaa hb h.fL,zaa hb h.fR,h.own.below hb,h.rk.below hb,fun z hz=>(h.n1 z hz).below hb,fun z hz y hy=>(h.n2 z hz y hy).below hb,h.dis⟩
theorem CanS.size {B:Nat} {Z Y:World} {yl L R:Nat} {ss:List Nat} {ps:Option Addr} {cs:Nat} {zs:List zg4} {pr:Option Addr} {cr:Nat} (h:CanS B Z yl L R ss ps cs zs pr cr) {ps':Option Addr} {cs' n:Nat} (ho:OwnS natE 3 B Y ps' cs' (ss++[n])) (g:Z.grownBy Y (ps.map Addr.block)) (hat:∀ a,ps'=some a->ps=some a\/a.block=Z.heap.size):CanS B Y yl L R (ss++[n]) ps' cs' zs pr cr :=
 ⟨za0 h.fL h.own (by decide) g,za0 h.fR h.own (by decide) g,ho,zcg h.rk h.own (by decide) g,fun z hz=>zcg (h.n1 z hz) h.own (by decide) g,fun z hz y hy=>zeZ (h.n2 z hz y hy) g fun a b ha hb=>h.dis z hz y hy a b ha hb,fun z hz y hy a b ha hb=>by
  rcases hat a ha with h1 | h1
  ·exact h.dis z hz y hy a b h1 hb
  ·have:=(zav (h.n2 z hz y hy) hb).2.1;omega⟩
theorem zmH {ds:List Nat}:∀ {rs:List (Nat×List Nat)} {ds:List Nat} {f:Nat->Nat},WrdR f->(∀ r∈rs,r.1<48)->WrdR (rfF rs ds f)
 | [],_,_,h,_=>h
 | (r,s)::rs,ds,f,h,hr=>by
  have h1:=hr (r,s) List.mem_cons_self;refine zmH (rs:=rs) (ds:=ds.tail) (f:=upd f (s.getD (ds.headD 0) 0) (f (s.getD (ds.headD 0) 0)|||2^r)) ?_ fun x hx=>hr x (List.mem_cons_of_mem _ hx);intro j hj;by_cases e:j=s.getD (ds.headD 0) 0
  ·rw [e,za6];exact Nat.or_lt_two_pow (by rw [<- e];exact h j hj) (zaI (by have:r<48:=h1;omega))
  ·rw [zcn _ _ e];exact h j hj
theorem znP {ev:List Ev}:∀ {Rs:List (List (List Nat))} {l:Nat} {ds:List Nat} {p:RelD×(Nat->UInt8)},WrdR p.1.to->(∀ R∈Rs,∀ k∈R,∀ a∈k,a<48)->WrdR (coG ev l Rs ds p).1.to
 | [],_,_,_,h,_=>h
 | R::Rs,l,ds,p,h,hr=>by
  refine znP (Rs:=Rs) (l:=l+1) (ds:=ds.tail) (p:=(zdo (R.getD (ds.headD 0) []) p.1,_)) ?_ fun x hx=>hr x (List.mem_cons_of_mem _ hx);refine ziW h fun a ha=>?_;rw [gDe] at ha
  cases hg:R[ds.headD 0]? with
  | none=>rw [hg] at ha;cases ha
  | some k =>
   rw [hg] at ha;exact hr R List.mem_cons_self k (List.mem_of_getElem? hg) a ha
section
variable (x:ExD) (q:Option Addr) (c:Nat)
theorem zpL:∃ A Z,A.length=50/\∀ r,exC { x with rf:=r } q c=A++(relC r++Z):=by
 obtain⟨A,Z,h1,h2⟩:=zsl x q c [];exact⟨A,Z,h1,fun r=>by rw [<- h2,List.append_nil]⟩
theorem znt:∃ A Z,A.length=99/\∀ r,exC { x with co:=r } q c=A++(relC r++Z):=by
 obtain⟨A,Z,h1,h2⟩:=zso x q c [];exact⟨A,Z,h1,fun r=>by rw [<- h2,List.append_nil]⟩
theorem zqY {l:Nat} (hl:l<6) (v:UInt8):(exC x q c).set (327+l) (u8 v)=exC { x with mem:=upd x.mem l v } q c:=by
 obtain⟨A,Z,h1,h2⟩:=zpK x q c [];have e1:=h2 x.mem;have e2:=h2 (upd x.mem l v);rw [List.append_nil] at e1 e2;rw [e2];show (exC { x with mem:=x.mem } q c).set _ _=_;rw [e1,zb1 h1];have e3:=zgi (B:=Z) (f:=fun i=>u8 (x.mem i)) (fun i=>u8 (upd x.mem l v i)) hl (fun j hj=>by rw [zcn _ _ hj]);rw [<- e3,za6]
theorem zsq (l:List Ev) (q':Option Addr) (c':Nat):(exC x q c).set 0 (.slice q' l.length c')=exC { x with ev:=l } q' c':=rfl
end
end Go.Proofs.YtmbghmhjjodgmaaGreatDoor
