/- Contracts of functions, and plain facts, for the law that the last text of this claim proves. -/
import Derived.Test.YtpalcnbhkigagaaGreatDoorM5
import Derived.Test.YtpalcnbhkigagaaGreatDoorM2
import Derived.Test.YtpalcnbhkigagaaGreatDoorM4
set_option linter.unusedSimpArgs false
set_option linter.unusedVariables false
namespace Go.Proofs.YtpalcnbhkigagaaGreatDoor
open Go.Vc Go.RowKit Go.Sei
structure DmV (B:Nat) (X:Wd) (g bx:Nat) (p:Prg):Prop where
 hB:B<=X.heap.size
 hg:g<X.heap.size
 len:PrgLen p
 h:∃ p1 c1 p2 c2 p3 c3 p4 c4,zx X ⟨g,0,none⟩ (qo p p1 c1 p2 c2 p3 c3 p4 c4)/\RowB zjB B X p1 p.locs/\RowB zJ B X p2 p.init/\ThrsV B X p3 p.threads/\KidsV B X p4 p.cond.kids/\p.locs.length<=c1
 b:X.heap[bx]?=some (.cells #[At0 g] 84 (0,0))
 G:GlobC X
theorem DmV.below {B:Nat} {X Y:Wd} {g bx:Nat} {p:Prg} (h:DmV B X g bx p) (hb:Bw X Y):DmV B Y g bx p:=by
 obtain⟨p1,c1,p2,c2,p3,c3,p4,c4,h0,h1,h2,h3,h4,h5⟩:=h.h;have hb':=hb.mono h.hB;exact⟨UM h.hB hb.size,nL h.hg hb.size,h.len,⟨p1,c1,p2,c2,p3,c3,p4,c4,zm hb h0,h1.below hb',h2.below hb',h3.below hb',h4.kept hb',h5⟩,zb hb h.b,h.G.below hb⟩
def zkG (sel:Bool) (bx:Nat):Value:=match sel with
 | false => .func (.func 64) #[] #[]
 | true => .func (.func 66) #[] #[.pointer (some ⟨bx,0,none⟩)]
def zbS (sel:Bool) (p:Prg) (l:List InsD):Bool:=match sel with
 | false=>decide (l.length<=12)
 | true=>z8 l p.locs.length
section
variable {B g bx:Nat} {p:Prg} {w:Wd}
theorem zpv (q:OA) (cap:Nat) (l:List InsD):Calls PG 64 #[.slice q l.length cap] w fun e w'=>e = .returned (.bool (decide (l.length<=12)))/\w=w':=by
 refine zH 6 [.slice q l.length cap] Tryz.func64 ?_;refine⟨rb ?_,rfl⟩;rw [QG];show ((l.length:Int)<=12)↔_;omega
theorem znF (h:DmV B w g bx p) {q:OA} {cap:Nat} {l:List InsD} (hl:SlR zD w q l) (hn:l.length<=140737488351232) :
  CB 66 #[.slice q l.length cap,At0 bx] w (.bool (z8 l p.locs.length)):=by
 refine zH 11 [.slice q l.length cap,At0 bx] Tryz.func66 ?_;obtain⟨p1,c1,p2,c2,p3,c3,p4,c4,h0,h1,h2,h3,h4,h5⟩:=h.h;refine⟨_,zc (za h.b) (i:=0) rfl,_,zc h0 (i:=1) rfl,cmo (zkl hl h.G hn) ?_⟩;rintro e V ⟨rfl,hb⟩;exact⟨rfl,hb⟩
theorem zl8 (sel:Bool) (h:DmV B w g bx p):CB 58 #[zkG sel bx,At0 bx] w (.bool (p.threads.all (zbS sel p))):=by
 refine zH 20 [zkG sel bx,At0 bx] Tryz.func58 ?_;obtain⟨p1,c1,p2,c2,p3,c3,p4,c4,h0,h1,h2,h3,h4,h5⟩:=h.h;obtain⟨xs,hxs,hr,hx⟩:=h3;have hlen:p.threads.length=xs.length:=by rw [<- hxs,QN]
 have hln:=h.len.threads;refine⟨_,zc (za h.b) (i:=0) rfl,_,zc h0 (i:=3) rfl,?_⟩;refine⟨Nat,fun k=>⟨[(0,zkG sel bx),(1,At0 bx),(9,.slice p3 p.threads.length c3),(10,i64 p.threads.length),(11,i64 (k:Nat))],[]⟩,fun k X=>k<=p.threads.length/\(∀ l∈p.threads.take k,zbS sel p l=true)/\Bw w X,fun k=>p.threads.length-k,0,
  (cvE rfl rfl),⟨UZ _,by simp,Gb _ _⟩,?_⟩
 rintro k X ⟨hk,hall,hbX⟩;dsimp only at hk hall ⊢;have hX:=h.below hbX;refine biE (fun hc=>?_) fun hc=>?_
 ·have hc:(k:Int)<(p.threads.length:Int):=dT hc;have hkl:k<p.threads.length:=by omega
  have hkx:k<xs.length:=by omega
  have e1:p.threads[k]=xs[k].1:=by simp [<- hxs]
  obtain⟨b,o,hp3,hat⟩:=hr.get;rcases hp3 with hp3 | rfl
  ·omega
  refine⟨k,rfl,hkl,?_⟩;obtain⟨hb1,ha1⟩:=hat k hkx;refine⟨_,zc (jL (hbX.mono h.hB) hb1 ha1) (i:=0) rfl,?_⟩;have zcV:SlR zD X xs[k].2.1 xs[k].1:=((hx _ (gM hkx)).below (hbX.mono h.hB)).slr hX.hB;have hln1:xs[k].1.length<=140737488351232:=by rw [<- e1];exact h.len.thread _ (gM _)
  have hfin:zbS sel p xs[k].1=false->p.threads.all (zbS sel p)=false:=fun hf=>by
   rw [KN];exact⟨p.threads[k],gM _,by rw [e1,hf];simp⟩
  have hgo:zbS sel p xs[k].1=true->∀ l∈p.threads.take (k+1),zbS sel p l=true:=fun ht=>by
   rw [tsg hkl];intro x hx;rcases QS.1 hx with hx | hx
   ·exact hall x hx
   ·simp only [KB] at hx;rw [hx,e1];exact ht
  cases sel with
  | false =>
   refine cmo (zpv xs[k].2.1 xs[k].2.2 xs[k].1) ?_;rintro e _ ⟨rfl,rfl⟩;refine biE (fun hb=>?_) fun hb=>?_
   ·have hb:(!zbS false p xs[k].1)=true:=hb;exact⟨rb (hfin (by simpa using hb)).symm,hbX⟩
   ·have hb:(!zbS false p xs[k].1)=false:=hb;exact⟨_,(ze (by omega)).trans rfl,k+1,(cvE rfl rfl),⟨hkl,hgo (by simpa using hb),hbX⟩,zdc (by omega)⟩
  | true =>
   refine cmo (znF hX (cap:=xs[k].2.2) zcV hln1) ?_;rintro e Y ⟨rfl,hbY⟩;refine biE (fun hb=>?_) fun hb=>?_
   ·have hb:(!zbS true p xs[k].1)=true:=hb;exact⟨rb (hfin (by simpa using hb)).symm,(zst hbX hbY)⟩
   ·have hb:(!zbS true p xs[k].1)=false:=hb;exact⟨_,(ze (by omega)).trans rfl,k+1,(cvE rfl rfl),⟨hkl,hgo (by simpa using hb),(zst hbX hbY)⟩,zdc (by omega)⟩
 ·have hc:¬ (k:Int)<(p.threads.length:Int):=dF hc;obtain rfl:k=p.threads.length:=by omega
  rw [Qx] at hall;exact⟨rb (Qk.2 hall).symm,hbX⟩
theorem zrQ (h:DmV B w g bx p):CB 59 #[At0 bx] w (.bool (zdb p.name)):=by
 refine zH 7 [At0 bx] Tryz.func59 ?_;obtain⟨p1,c1,p2,c2,p3,c3,p4,c4,h0,h1,h2,h3,h4,h5⟩:=h.h;refine⟨_,zc (za h.b) (i:=0) rfl,_,zc h0 (i:=0) rfl,cmo (zop p.name h.len.name w) ?_⟩;rintro e V ⟨rfl,hb⟩;exact⟨rfl,hb⟩
theorem zrP (h:DmV B w g bx p):CB 61 #[At0 bx] w (.bool (zdt p)):=by
 refine zH 4 [At0 bx] Tryz.func61 ?_;obtain⟨p1,c1,p2,c2,p3,c3,p4,c4,h0,h1,h2,h3,h4,h5⟩:=h.h;refine⟨_,zc (za h.b) (i:=0) rfl,cmo (zjG h0 h.hg h1 h.hB h5 h.len) ?_⟩;rintro e V ⟨rfl,hb⟩;exact⟨rfl,hb⟩
def evV (bx:Nat):Value := .func (.func 58) #[] #[At0 bx]
theorem zrO (h:DmV B w g bx p) {ev:Nat} (hev:w.heap[ev]?=some (.cells #[evV bx] 138 (0,0))):CB 63 #[At0 bx,At0 ev] w (.bool (decide (1<=p.threads.length)&&(decide (p.threads.length<=4)&&p.threads.all fun l=>decide (l.length<=12)))):=by
 refine zH 21 [At0 bx,At0 ev] Tryz.func63 ?_;obtain⟨p1,c1,p2,c2,p3,c3,p4,c4,h0,h1,h2,h3,h4,h5⟩:=h.h;refine⟨_,zc (za h.b) (i:=0) rfl,_,zc h0 (i:=3) rfl,biE (fun ha=>?_) fun ha=>?_⟩
 ·have ha:(1:Int)<=(p.threads.length:Int):=dT ha;refine⟨_,zc (za h.b) (i:=0) rfl,_,zc h0 (i:=3) rfl,biE (fun hb=>?_) fun hb=>?_⟩
  ·have hb:(p.threads.length:Int)<=4:=dT hb;refine⟨_,zc (za hev) (i:=0) rfl,cmo (zl8 false h) ?_⟩;rintro e V ⟨rfl,hbV⟩;refine⟨rb ?_,hbV⟩;rw [Us (by omega),Us (by omega),Uy,Uy];rfl
  ·have hb:¬ (p.threads.length:Int)<=4:=dF hb;exact⟨rb (by rw [Uh (p:=p.threads.length<=4) (by omega)];simp),Gb _ _⟩
 ·have ha:¬ (1:Int)<=(p.threads.length:Int):=dF ha;exact brF ⟨rb (by rw [Uh (p:=1<=p.threads.length) (by omega)];rfl),Gb _ _⟩
theorem zrN (h:DmV B w g bx p) {ev:Nat} (hev:w.heap[ev]?=some (.cells #[evV bx] 138 (0,0))):CB 65 #[At0 ev,At0 bx] w (.bool (p.threads.all fun l=>z8 l p.locs.length)):=by
 refine zH 6 [At0 ev,At0 bx] Tryz.func65 ?_;refine⟨_,zc (za hev) (i:=0) rfl,cmo (zl8 true h) ?_⟩;rintro e V ⟨rfl,hbV⟩;exact⟨rfl,hbV⟩
theorem zrM (h:DmV B w g bx p):CB 68 #[At0 bx] w (.bool (decide (p.ask=1)||(decide (p.ask=2)||decide (p.ask=3)))):=by
 refine zH 21 [At0 bx] Tryz.func68 ?_;obtain⟨p1,c1,p2,c2,p3,c3,p4,c4,h0,h1,h2,h3,h4,h5⟩:=h.h;refine⟨_,zc (za h.b) (i:=0) rfl,_,zc h0 (i:=4) rfl,biE (fun ha=>?_) fun ha=>?_⟩
 ·have ha:decide (p.ask=1)=true:=(u8d p.ask 1).symm.trans ha;exact brT ⟨rb (by rw [ha];rfl),Gb _ _⟩
 ·have ha:decide (p.ask=1)=false:=(u8d p.ask 1).symm.trans ha;refine⟨_,zc (za h.b) (i:=0) rfl,_,zc h0 (i:=4) rfl,biE (fun hb=>?_) fun hb=>?_⟩
  ·have hb:decide (p.ask=2)=true:=(u8d p.ask 2).symm.trans hb;exact⟨rb (by rw [ha,hb];rfl),Gb _ _⟩
  ·have hb:decide (p.ask=2)=false:=(u8d p.ask 2).symm.trans hb;exact⟨_,zc (za h.b) (i:=0) rfl,_,zc h0 (i:=4) rfl,rb (by rw [ha,hb];exact u8d p.ask 3),Gb _ _⟩
theorem zrL (h:DmV B w g bx p):CB 69 #[At0 bx] w (.bool (jE p.threads.length p.locs.length 20 p.cond)):=by
 refine zH 17 [At0 bx] Tryz.func69 ?_;have hbd:Bw w w.drew:=(Gb _ w).drew;have hd:=h.below hbd;obtain⟨p1,c1,p2,c2,p3,c3,p4,c4,h0,h1,h2,h3,h4,h5⟩:=hd.h;refine DrawE.ord [] [0,1,2,3,4,5,6,7,8,9,10,11,12,13,14,15] (by kernel_rfl) ⟨_,zc (za hd.b) (i:=0) rfl,jO p.cond p4 c4,rfl,zG (n:=5) (m:=5) h0,hd.hg,_,zc (za hd.b) (i:=0) rfl,_,zc h0 (i:=3) rfl,_,zc (za hd.b) (i:=0) rfl,_,zc h0 (i:=1) rfl,cmo (zsb hd.hB h4) ?_⟩;rintro e V ⟨rfl,hbV⟩;exact⟨hbV,rfl,hbd.trans hbV⟩
def zrK (bx ev:Nat):List Value:=[i64 70,.func (.func 59) #[] #[At0 bx],i64 71,.func (.func 61) #[] #[At0 bx],
 i64 72,.func (.func 63) #[] #[At0 bx,At0 ev],i64 73,.func (.func 65) #[] #[At0 ev,At0 bx],
 i64 75,.func (.func 68) #[] #[At0 bx],i64 74,.func (.func 69) #[] #[At0 bx]]
theorem zm9 {g:Nat} {w:Wd}:Calls PG 36 #[At0 g] w fun e w'=>e = .returned (.slice (some ⟨w.heap.size+2,0,none⟩) 6 6) /\
  w'.heap[w.heap.size]?=some (.cells #[At0 g] 84 (0,0))/\w'.heap[w.heap.size+1]?=some (.cells #[evV w.heap.size] 138 (0,0)) /\
  w'.heap[w.heap.size+2]?=some (.cells (zrK w.heap.size (w.heap.size+1)).toArray 105 (0,0))/\w'.heap.size=w.heap.size+3/\Bw w w':=by
 refine zH 18 [At0 g] Tryz.func36 ?_;have hs:=wz w (.cells (At0 g).cells 84);refine zn (X:=w.alloc (.cells (At0 g).cells 84)) (v:=evV w.heap.size) zsX rfl rfl rfl fun V hbV fV sV=>?_;generalize hev:(w.alloc (.cells (At0 g).cells 84)).heap.size=ev at *;refine⟨[i64 70,.func (.func 59) #[] #[.pointer (some ⟨w.heap.size,0,none⟩)]],rfl,[i64 71,.func (.func 61) #[] #[.pointer (some ⟨w.heap.size,0,none⟩)]],rfl,[i64 72,.func (.func 63) #[] #[.pointer (some ⟨w.heap.size,0,none⟩),At0 ev]],rfl,[i64 73,.func (.func 65) #[] #[At0 ev,.pointer (some ⟨w.heap.size,0,none⟩)]],rfl,[i64 75,.func (.func 68) #[] #[.pointer (some ⟨w.heap.size,0,none⟩)]],rfl,[i64 74,.func (.func 69) #[] #[.pointer (some ⟨w.heap.size,0,none⟩)]],rfl,⟨by decide,by decide,rfl⟩,zrK w.heap.size ev,rfl,?_⟩;subst hs;refine⟨?_,?_,?_,?_,?_,?_⟩
 ·rw [sV];rfl
 ·exact qF _ (zb (show Below _ _ _ from hev▸hbV) (zy w _))
 ·exact qF _ fV
 ·rw [show w.heap.size+2=V.heap.size from sV.symm];exact zy _ _
 ·rw [wz,sV]
 ·exact (((zba w _)).trans (hbV.mono (by omega))).alloc (by omega) _
end
def okL (p:Prg):List Bool:=[zdb p.name,zdt p,decide (1<=p.threads.length)&&(decide (p.threads.length<=4)&&p.threads.all fun l=>decide (l.length<=12)),p.threads.all (fun l=>z8 l p.locs.length),
 decide (p.ask=1)||(decide (p.ask=2)||decide (p.ask=3)),jE p.threads.length p.locs.length 20 p.cond]
theorem zlV {p:Prg}:zbu p=(okL p).all id:=by
 unfold zbu okL;simp only [UA,List.all_nil,Bool.and_true,id]
theorem ziP {B:Nat} {p:Prg} {vs:List Value} {w:Wd} (hB:B<=w.heap.size) (hp:PrgV B w vs p) (hG:GlobC w) :
  Calls PG 16 #[.agg vs.toArray] w fun e w'=>∃ n:Int,e = .returned (i64 n)/\(n=0↔zbu p=true)/\Bw w w':=by
 obtain⟨hl,p1,c1,p2,c2,p3,c3,p4,c4,rfl,h1,h2,h3,h4,h5⟩:=hp;refine zH 18 [.agg (qo p p1 c1 p2 c2 p3 c3 p4 c4).toArray] Tryz.func16 ?_;obtain⟨L,hL⟩:=nm (w.heap.size);have hn:=zy w (.cells (Value.agg (qo p p1 c1 p2 c2 p3 c3 p4 c4).toArray).cells 29);have hs:=wz w (.cells (Value.agg (qo p p1 c1 p2 c2 p3 c3 p4 c4).toArray).cells 29);have hb:Bw w (w.alloc (.cells (Value.agg (qo p p1 c1 p2 c2 p3 c3 p4 c4).toArray).cells 29)):=zba w _;refine cmo zm9 ?_;rintro e V ⟨rfl,hbx,hev,hsl,hsz,hbV⟩;have hbw:Bw w V:=zst hb hbV;have p1':some (Value.slice (some ⟨(w.alloc (.cells (Value.agg (qo p p1 c1 p2 c2 p3 c3 p4 c4).toArray).cells 29)).heap.size+2,0,none⟩) 6 6)=some (Value.slice (some ⟨L+3,0,none⟩) 6 6):=by rw [hs,hL]
 have hD:DmV B V L (L+1) p:=by
  have hbB:=hbw.mono hB;rw [hs,<- hL] at hbx;refine⟨UM hB hbw.size,by omega,hl,⟨p1,c1,p2,c2,p3,c3,p4,c4,za (zb hbV (hL▸hn)),h1.below hbB,h2.below hbB,h3.below hbB,h4.kept hbB,h5⟩,hbx,hG.below hbw⟩
 rw [hs,<- hL] at hev hsl;clear hn hs hb hbx hbV hsz;refine⟨Nat,fun j=>⟨[(5,.slice (some ⟨L+3,0,none⟩) 6 6),(6,i64 6),(7,i64 (j:Nat))],[]⟩,
  fun j X=>j<=6/\(∀ i,i<j->(okL p)[i]?=some true)/\DmV B X L (L+1) p/\X.heap[L+2]?=some (.cells #[evV (L+1)] 138 (0,0))/\X.heap[L+3]?=some (.cells (zrK (L+1) (L+2)).toArray 105 (0,0))/\Bw w X,fun j=>6-j,0,
  ⟨.cons p1' (.cons rfl (.cons rfl .nil)),rfl⟩,⟨UZ _,fun i hi=>by omega,hD,hev,hsl,hbw⟩,?_⟩
 clear hD hev hsl hbw p1';rintro j X ⟨hj,hpre,hD,hev,hsl,hbw⟩;dsimp only at hj hpre ⊢;refine biE (fun hc=>?_) fun hc=>?_
 ·have hc:(j:Int)<6:=dT hc;have hno:∀ {i:Nat},(okL p)[i]?=some false->zbu p=false:=fun h=>by rw [zlV];exact zo8 h
  have hcs:j=0\/j=1\/j=2\/j=3\/j=4\/j=5:=by omega
  rcases hcs with rfl | rfl | rfl | rfl | rfl | rfl
  ·refine⟨0,rfl,by decide,?_⟩;refine⟨[i64 70,.func (.func 59) #[] #[At0 (L+1)]],rfl,zG (n:=0) (m:=2) (za hsl),hlt hsl,zn (X:=X) (v := .agg [i64 70,.func (.func 59) #[] #[At0 (L+1)]].toArray) zm1 rfl rfl rfl fun Y hbY fY sY=>?_⟩;have hY:=hD.below hbY;have hevY:=zb hbY hev;have hslY:=zb hbY hsl;refine⟨_,zc (za fY) (i:=1) rfl,cmo (zrQ hY) ?_⟩;rintro e W ⟨rfl,hbW⟩;have hbX:Bw w W:=((zst hbw hbY)).trans (hbW.mono (UM hbw.size hbY.size));refine biE (fun hb=>?_) fun hb=>?_
   ·have hb:(!((okL p)[0]'(by show 0<6;decide)))=true:=hb;have hb:(okL p)[0]?=some false:=(by rw [gE (by show 0<6;decide)];exact Gj some (by rw [<- UG ((okL p)[0]'(by show 0<6;decide)),hb];rfl));exact⟨_,zc (za (zb hbW fY)) (i:=0) rfl,70,rfl,⟨fun h=>Gq h (by decide),fun h=>by rw [hno hb] at h;cases h⟩,hbX⟩
   ·have hb:(!((okL p)[0]'(by show 0<6;decide)))=false:=hb;have hb:(okL p)[0]?=some true:=(by rw [gE (by show 0<6;decide)];exact Gj some (by rw [<- UG ((okL p)[0]'(by show 0<6;decide)),hb];rfl));refine⟨_,(ze (by omega)).trans rfl,1,(cvE rfl rfl),⟨by omega,fun i hi=>?_,hY.below hbW,zb hbW hevY,zb hbW hslY,hbX⟩,by decide⟩;by_cases hik:i=0
    ·rw [hik];exact hb
    ·exact hpre i (by omega)
  ·refine⟨1,rfl,by decide,?_⟩;refine⟨[i64 71,.func (.func 61) #[] #[At0 (L+1)]],rfl,zG (n:=2) (m:=2) (za hsl),hlt hsl,zn (X:=X) (v := .agg [i64 71,.func (.func 61) #[] #[At0 (L+1)]].toArray) zm1 rfl rfl rfl fun Y hbY fY sY=>?_⟩;have hY:=hD.below hbY;have hevY:=zb hbY hev;have hslY:=zb hbY hsl;refine⟨_,zc (za fY) (i:=1) rfl,cmo (zrP hY) ?_⟩;rintro e W ⟨rfl,hbW⟩;have hbX:Bw w W:=((zst hbw hbY)).trans (hbW.mono (UM hbw.size hbY.size));refine biE (fun hb=>?_) fun hb=>?_
   ·have hb:(!((okL p)[1]'(by show 1<6;decide)))=true:=hb;have hb:(okL p)[1]?=some false:=(by rw [gE (by show 1<6;decide)];exact Gj some (by rw [<- UG ((okL p)[1]'(by show 1<6;decide)),hb];rfl));exact⟨_,zc (za (zb hbW fY)) (i:=0) rfl,71,rfl,⟨fun h=>Gq h (by decide),fun h=>by rw [hno hb] at h;cases h⟩,hbX⟩
   ·have hb:(!((okL p)[1]'(by show 1<6;decide)))=false:=hb;have hb:(okL p)[1]?=some true:=(by rw [gE (by show 1<6;decide)];exact Gj some (by rw [<- UG ((okL p)[1]'(by show 1<6;decide)),hb];rfl));refine⟨_,(ze (by omega)).trans rfl,2,(cvE rfl rfl),⟨by omega,fun i hi=>?_,hY.below hbW,zb hbW hevY,zb hbW hslY,hbX⟩,by decide⟩;by_cases hik:i=1
    ·rw [hik];exact hb
    ·exact hpre i (by omega)
  ·refine⟨2,rfl,by decide,?_⟩;refine⟨[i64 72,.func (.func 63) #[] #[At0 (L+1),At0 (L+2)]],rfl,zG (n:=4) (m:=2) (za hsl),hlt hsl,zn (X:=X) (v := .agg [i64 72,.func (.func 63) #[] #[At0 (L+1),At0 (L+2)]].toArray) zm1 rfl rfl rfl fun Y hbY fY sY=>?_⟩;have hY:=hD.below hbY;have hevY:=zb hbY hev;have hslY:=zb hbY hsl;refine⟨_,zc (za fY) (i:=1) rfl,cmo (zrO hY hevY) ?_⟩;rintro e W ⟨rfl,hbW⟩;have hbX:Bw w W:=((zst hbw hbY)).trans (hbW.mono (UM hbw.size hbY.size));refine biE (fun hb=>?_) fun hb=>?_
   ·have hb:(!((okL p)[2]'(by show 2<6;decide)))=true:=hb;have hb:(okL p)[2]?=some false:=(by rw [gE (by show 2<6;decide)];exact Gj some (by rw [<- UG ((okL p)[2]'(by show 2<6;decide)),hb];rfl));exact⟨_,zc (za (zb hbW fY)) (i:=0) rfl,72,rfl,⟨fun h=>Gq h (by decide),fun h=>by rw [hno hb] at h;cases h⟩,hbX⟩
   ·have hb:(!((okL p)[2]'(by show 2<6;decide)))=false:=hb;have hb:(okL p)[2]?=some true:=(by rw [gE (by show 2<6;decide)];exact Gj some (by rw [<- UG ((okL p)[2]'(by show 2<6;decide)),hb];rfl));refine⟨_,(ze (by omega)).trans rfl,3,(cvE rfl rfl),⟨by omega,fun i hi=>?_,hY.below hbW,zb hbW hevY,zb hbW hslY,hbX⟩,by decide⟩;by_cases hik:i=2
    ·rw [hik];exact hb
    ·exact hpre i (by omega)
  ·refine⟨3,rfl,by decide,?_⟩;refine⟨[i64 73,.func (.func 65) #[] #[At0 (L+2),At0 (L+1)]],rfl,zG (n:=6) (m:=2) (za hsl),hlt hsl,zn (X:=X) (v := .agg [i64 73,.func (.func 65) #[] #[At0 (L+2),At0 (L+1)]].toArray) zm1 rfl rfl rfl fun Y hbY fY sY=>?_⟩;have hY:=hD.below hbY;have hevY:=zb hbY hev;have hslY:=zb hbY hsl;refine⟨_,zc (za fY) (i:=1) rfl,cmo (zrN hY hevY) ?_⟩;rintro e W ⟨rfl,hbW⟩;have hbX:Bw w W:=((zst hbw hbY)).trans (hbW.mono (UM hbw.size hbY.size));refine biE (fun hb=>?_) fun hb=>?_
   ·have hb:(!((okL p)[3]'(by show 3<6;decide)))=true:=hb;have hb:(okL p)[3]?=some false:=(by rw [gE (by show 3<6;decide)];exact Gj some (by rw [<- UG ((okL p)[3]'(by show 3<6;decide)),hb];rfl));exact⟨_,zc (za (zb hbW fY)) (i:=0) rfl,73,rfl,⟨fun h=>Gq h (by decide),fun h=>by rw [hno hb] at h;cases h⟩,hbX⟩
   ·have hb:(!((okL p)[3]'(by show 3<6;decide)))=false:=hb;have hb:(okL p)[3]?=some true:=(by rw [gE (by show 3<6;decide)];exact Gj some (by rw [<- UG ((okL p)[3]'(by show 3<6;decide)),hb];rfl));refine⟨_,(ze (by omega)).trans rfl,4,(cvE rfl rfl),⟨by omega,fun i hi=>?_,hY.below hbW,zb hbW hevY,zb hbW hslY,hbX⟩,by decide⟩;by_cases hik:i=3
    ·rw [hik];exact hb
    ·exact hpre i (by omega)
  ·refine⟨4,rfl,by decide,?_⟩;refine⟨[i64 75,.func (.func 68) #[] #[At0 (L+1)]],rfl,zG (n:=8) (m:=2) (za hsl),hlt hsl,zn (X:=X) (v := .agg [i64 75,.func (.func 68) #[] #[At0 (L+1)]].toArray) zm1 rfl rfl rfl fun Y hbY fY sY=>?_⟩;have hY:=hD.below hbY;have hevY:=zb hbY hev;have hslY:=zb hbY hsl;refine⟨_,zc (za fY) (i:=1) rfl,cmo (zrM hY) ?_⟩;rintro e W ⟨rfl,hbW⟩;have hbX:Bw w W:=((zst hbw hbY)).trans (hbW.mono (UM hbw.size hbY.size));refine biE (fun hb=>?_) fun hb=>?_
   ·have hb:(!((okL p)[4]'(by show 4<6;decide)))=true:=hb;have hb:(okL p)[4]?=some false:=(by rw [gE (by show 4<6;decide)];exact Gj some (by rw [<- UG ((okL p)[4]'(by show 4<6;decide)),hb];rfl));exact⟨_,zc (za (zb hbW fY)) (i:=0) rfl,75,rfl,⟨fun h=>Gq h (by decide),fun h=>by rw [hno hb] at h;cases h⟩,hbX⟩
   ·have hb:(!((okL p)[4]'(by show 4<6;decide)))=false:=hb;have hb:(okL p)[4]?=some true:=(by rw [gE (by show 4<6;decide)];exact Gj some (by rw [<- UG ((okL p)[4]'(by show 4<6;decide)),hb];rfl));refine⟨_,(ze (by omega)).trans rfl,5,(cvE rfl rfl),⟨by omega,fun i hi=>?_,hY.below hbW,zb hbW hevY,zb hbW hslY,hbX⟩,by decide⟩;by_cases hik:i=4
    ·rw [hik];exact hb
    ·exact hpre i (by omega)
  ·refine⟨5,rfl,by decide,?_⟩;refine⟨[i64 74,.func (.func 69) #[] #[At0 (L+1)]],rfl,zG (n:=10) (m:=2) (za hsl),hlt hsl,zn (X:=X) (v := .agg [i64 74,.func (.func 69) #[] #[At0 (L+1)]].toArray) zm1 rfl rfl rfl fun Y hbY fY sY=>?_⟩;have hY:=hD.below hbY;have hevY:=zb hbY hev;have hslY:=zb hbY hsl;refine⟨_,zc (za fY) (i:=1) rfl,cmo (zrL hY) ?_⟩;rintro e W ⟨rfl,hbW⟩;have hbX:Bw w W:=((zst hbw hbY)).trans (hbW.mono (UM hbw.size hbY.size));refine biE (fun hb=>?_) fun hb=>?_
   ·have hb:(!((okL p)[5]'(by show 5<6;decide)))=true:=hb;have hb:(okL p)[5]?=some false:=(by rw [gE (by show 5<6;decide)];exact Gj some (by rw [<- UG ((okL p)[5]'(by show 5<6;decide)),hb];rfl));exact⟨_,zc (za (zb hbW fY)) (i:=0) rfl,74,rfl,⟨fun h=>Gq h (by decide),fun h=>by rw [hno hb] at h;cases h⟩,hbX⟩
   ·have hb:(!((okL p)[5]'(by show 5<6;decide)))=false:=hb;have hb:(okL p)[5]?=some true:=(by rw [gE (by show 5<6;decide)];exact Gj some (by rw [<- UG ((okL p)[5]'(by show 5<6;decide)),hb];rfl));refine⟨_,(ze (by omega)).trans rfl,6,(cvE rfl rfl),⟨by omega,fun i hi=>?_,hY.below hbW,zb hbW hevY,zb hbW hslY,hbX⟩,by decide⟩;by_cases hik:i=5
    ·rw [hik];exact hb
    ·exact hpre i (by omega)
 ·have hc:¬ (j:Int)<6:=dF hc;obtain rfl:j=6:=by omega
  exact⟨0,rfl,⟨fun _=>by rw [zlV];exact zkj hpre rfl,fun _=>rfl⟩,hbw⟩
def ThrsW (B:Nat) (w:Wd) (p:OA) (l:List (List InsD)):Prop:=∃ xs:List ziN,xs.map (·.1)=l/\RowB zeF B w p xs/\∀ x∈xs,RowB zD B w x.2.1 x.1/\(x.1≠[]->∀ a,x.2.1=some a->a.block<B)
structure PrgX (B:Nat) (w:Wd) (vs:List Value) (p:Prg):Prop where
 v:PrgV B w vs p
 th:∃ p3 c3,vs[3]?=some (.slice p3 p.threads.length c3)/\ThrsW B w p3 p.threads
 init:∃ p2 c2,vs[2]?=some (.slice p2 p.init.length c2)/\RowB zJ B w p2 p.init
theorem ThrsW.below {B:Nat} {w w2:Wd} {p:OA} {l:List (List InsD)} (h:ThrsW B w p l) (hb:Below B w w2):ThrsW B w2 p l:=by
 obtain⟨xs,h1,h2,h3⟩:=h;exact⟨xs,h1,h2.below hb,fun x hx=>⟨(h3 x hx).1.below hb,(h3 x hx).2⟩⟩
theorem PrgX.below {B:Nat} {w w2:Wd} {vs:List Value} {p:Prg} (h:PrgX B w vs p) (hb:Below B w w2):PrgX B w2 vs p:=by
 obtain⟨h1,⟨p3,c3,h2,h3⟩,⟨p2,c2,h4,h5⟩⟩:=h;exact⟨h1.below hb,⟨p3,c3,h2,h3.below hb⟩,⟨p2,c2,h4,h5.below hb⟩⟩
theorem zd1 {α:Type} {E:Enc α} {B:Nat} {w:Wd} {p:OA} {l:List α} (h:RowB E B w p l) {i:Nat} (hi:i<l.length):∃ b o,p=some ⟨b,o,none⟩/\b<B/\∀ i (h:i<l.length),zx w ⟨b,o+i*E.sz,none⟩ (E.enc l[i]):=by
 obtain⟨b,o,hp,hat⟩:=h.get;rcases hp with hp | hp
 ·omega
 ·exact⟨b,o,hp,(hat i hi).1,fun j hj=>(hat j hj).2⟩
section
variable {l:List InsD} {dom:List UInt8} {q p:OA} {cap cd:Nat} {w:Wd}
theorem zmp (hl:SlR zD w q l) (hp:SlR zJ w p dom) (hok:z8 l 6=true) (hqb:l≠[]->∀ a,q=some a->a.block<w.heap.size) (hpb:∀ a,p=some a->a.block<w.heap.size) (hdl:dom.length<=1000) :
  Calls PG 43 #[.slice q l.length cap,.slice p dom.length cd] w fun e w'=>((∃ (p':OA) (c':Nat),(qb l dom).length<=4096/\e = .returned (.tuple #[.slice p' (jJ (qb l dom)).length c',.bool true])/\OwnS zJ 5 w.heap.size w' p' c' (jJ (qb l dom)))\/(4096<(qb l dom).length/\e = .returned (.tuple #[.slice none 0 0,.bool false])))/\Bw w w':=by
 have ht:=zku hok;have h12:l.length<=12:=ht.1;have hR:∀ R∈qb l dom,R.many<=24:=fun R h=>(zfJ ht dom R h).1;refine jf 55 [.slice q l.length cap,.slice p dom.length cd] (.c .p (.c .p (.c .p (.c .p (.s .p (.c .p .p)))))) Tryz.func43 ?_;obtain⟨L,hL⟩:=nm (w.heap.size);refine⟨Unit,fun _=>⟨[(0,.slice q l.length cap),(1,.slice p dom.length cd),(4,AtR L),(5,AtR (L+1))],[]⟩,fun _ X=>X.heap[L]?=some (.cells #[.slice none 0 0] 23 (0,0))/\X.heap[L+1]?=some (.cells #[.bool false] 4 (0,0))/\X.heap.size=L+2/\Bw w X,?_,?_⟩
 ·have s1:=wz w (.cells #[.slice none 0 0] 23);have h2:=zy (w.alloc (.cells #[.slice none 0 0] 23)) (.cells #[.bool false] 4);have s2:=wz (w.alloc (.cells #[.slice none 0 0] 23)) (.cells #[.bool false] 4);rw [s1] at h2 s2;refine⟨(),⟨.cons rfl (.cons rfl (.cons (by rw [hL];rfl) (.cons (by rw [hL,<- s1];rfl) .nil))),rfl⟩,?_,?_,?_,?_⟩
  ·rw [hL];exact qF _ (zy w _)
  ·rw [hL];exact h2
  ·rw [hL];exact s2
  ·exact ((zba w _)).alloc (by simp) _
 rintro _ X ⟨f0,f1,sX,hbX⟩;refine⟨Unit,fun _=>⟨[(0,.slice q l.length cap),(1,.slice p dom.length cd),(4,AtR L),(5,AtR (L+1)),(6,AtR (L+2))],[]⟩,fun _ Y=>Y.heap[L+2]?=some (.cells (wrC fun _=>false).toArray 150 (0,0))/\Y.heap.size=L+3/\Bw X Y,?_,?_⟩
 ·refine⟨(),⟨.cons rfl (.cons rfl (.cons rfl (.cons rfl (.cons (by rw [<- sX];rfl) .nil)))),rfl⟩,?_,?_,?_⟩
  ·rw [<- sX,<- zsJ];exact zy X _
  ·have:=wz X (.cells (List.replicate 256 (Value.bool false)).toArray 150);rw [sX] at this;exact this
  ·exact (zba X _)
 rintro _ Y ⟨f2,sY,hbY⟩;refine⟨Unit,fun _=>⟨[(0,.slice q l.length cap),(1,.slice p dom.length cd),(4,AtR L),(5,AtR (L+1)),(6,AtR (L+2)),(7,AtR (L+3))],[]⟩,fun _ Z=>Z.heap[L+3]?=some (.cells [i64 (0:Nat)].toArray 3 (0,0))/\Z.heap.size=L+4/\Bw Y Z,?_,?_⟩
 ·refine zn (X:=Y) (v:=i64 0) k3 rfl rfl rfl fun Z hbZ fZ sZ=>?_;rw [sY] at fZ sZ;exact⟨(),⟨.cons rfl (.cons rfl (.cons rfl (.cons rfl (.cons rfl (.cons (by rw [<- sY];rfl) .nil))))),rfl⟩,fZ,sZ,hbZ⟩
 rintro _ V ⟨f3,sV,hbV⟩;have hXV:Bw X V:=zst hbY hbV;have hwV:=zst hbX hXV;have f0:=zb hXV f0;have f1:=zb hXV f1;have f2:=zb hbV f2;clear hbX hbY hbV hXV;obtain⟨xs,hxs⟩:=nm (qb l dom);rw [<- hxs] at hR ⊢;refine⟨Nat,fun D1=>⟨[(4,AtR L),(5,AtR (L+1)),(6,AtR (L+2))],[{ target := .collected D1,args := #[] }]⟩,fun D1 U=>xs.length<=4096/\U.heap[L+2]?=some (.cells (wrC (wrL xs)).toArray 150 (0,0))/\U.heap[D1]?=some (.deferred (some []))/\L+2<D1/\Below (L+2) V U,?_,?_⟩
 ·refine cmo ziB ?_;rintro e W ⟨rfl,fi,fd,sW,hbW⟩;have hwW:=zst hwV hbW;have hI:=ziA (q:=q) (p:=p) (hl.below hwW) (hp.below hwW) fi fd (fun hne a ha=>by have:=hqb hne a ha;have:=hwW.size;omega) (fun a ha=>by have:=hpb a ha;have:=hwW.size;omega) ht hdl;rw [<- hxs] at hI;obtain⟨J,hJ⟩:∃ J:List RunD->Wd->Prop,J=fun pre Y=>W.heap.size<=Y.heap.size/\pre.length<=4096/\Y.heap[L+2]?=some (.cells (wrC (wrL pre)).toArray 150 (0,0))/\Y.heap[L+3]?=some (.cells [i64 pre.length].toArray 3 (0,0))/\Below (L+2) W Y:=⟨_,rfl⟩;obtain⟨F0,hF0⟩:∃ F0:Nat->Prop,F0=fun k=>k=L+2\/k=L+3\/k=L\/k=L+1:=⟨_,rfl⟩;have f0W:=zb hbW f0;have f1W:=zb hbW f1;refine zcL (zbe _) rfl (lb := #[AtR V.heap.size,AtR (V.heap.size+1)]) rfl rfl hI (UW _) (fun k hk=>⟨?_,rfl⟩) (fun pre vs W ⟨R,b,_,h,_⟩=>by rw [h];rfl) (by decide)
   F0 (fun pre F Y=>F=F0/\J pre Y) (fun ex pre F Y=>F=F0/\W.heap.size<=Y.heap.size/\ex = .ret/\4096<xs.length/\Y.heap[L]?=some (.cells #[.slice none 0 0] 23 (0,0))/\Y.heap[L+1]?=some (.cells #[.bool false] 4 (0,0))/\Below L W Y) (fun k hk=>?_)
   (joG (F:=F0) (J:=J) (fun k h=>by rw [hF0] at h;omega) (fun s A h=>by rw [hJ] at h;exact h.1) (fun pre A B h hb=>by
    rw [hJ] at h ⊢;obtain⟨h1,h0,h2,h3,h4⟩:=h;exact⟨UM h1 hb.size,h0,jh hb (by omega) h2,jh hb (by omega) h3,h4.trans (hb.mono (by omega))⟩))
   (fun ex=>joG (F:=F0) (J:=fun (pre:List RunD) Y=>W.heap.size<=Y.heap.size/\ex = .ret/\4096<xs.length/\Y.heap[L]?=some (.cells #[.slice none 0 0] 23 (0,0))/\Y.heap[L+1]?=some (.cells #[.bool false] 4 (0,0))/\Below L W Y) (fun k h=>by rw [hF0] at h;omega) (fun s A h=>h.1) (fun pre A B ⟨h1,h2,h3,h4,h5,h6⟩ hb=>⟨UM h1 hb.size,h2,h3,jh hb (by omega) h4,jh hb (by omega) h5,h6.trans (hb.mono (by omega))⟩)) ⟨rfl,by rw [hJ];exact⟨UW _,UZ _,zb hbW f2,zb hbW f3,Gb _ _⟩⟩ ?_ ?_ ?_
  ·rcases hk with ((rfl | rfl) | ⟨hne,a,ha,rfl⟩ | ⟨a,ha,rfl⟩) | h
   ·omega
   ·omega
   ·have:=hqb hne a ha;have:=hwW.size;omega
   ·have:=hpb a ha;have:=hwW.size;omega
   ·exact h.elim
  ·rw [hF0];rcases hk with (rfl | rfl) | ⟨hne,a,ha,rfl⟩ | ⟨a,ha,rfl⟩
   ·omega
   ·omega
   ·have:=hqb hne a ha;omega
   ·have:=hpb a ha;omega
  ·rintro yl pre x vs F Y hyl hpre hJ0 ⟨R,b,hlast,rfl,fR⟩ hfy ⟨lo,hlo⟩;have hxR:x=R:=by simpa using hlast
   subst hxR;refine⟨rfl,F,KeepsG.refl _ _,hJ0,?_⟩;rintro o Y2 hY2 ⟨rfl,hJ2⟩;rw [hJ] at hJ2;obtain⟨h1,h0,h2,h3,h4⟩:=hJ2;have hbl:b≠yl:=fun e=>by
    rw [e] at fR;rw [fR] at hlo
    cases hlo
   have fR2:jq Y2 b x:=by rw [hY2];exact (zg hbl).trans fR
   have r1:=hR x (hpre.subset (by simp));have hpl:pre.length<xs.length:=by
    obtain⟨t,ht⟩:=hpre;rw [<- ht];simp only [lap,Qt];omega
   refine⟨_,zc (za h3) (i:=0) rfl,?_⟩;refine biE (fun hct=>?_) fun hct=>?_
   ·have hct:(pre.length:Int)=4096:=dT hct;have g0:Y2.heap[L]?=some (.cells #[.slice none 0 0] 23 (0,0)):=(h4.block L (by omega)).trans f0W;have g1:Y2.heap[L+1]?=some (.cells #[.bool false] 4 (0,0)):=(h4.block (L+1) (by omega)).trans f1W;refine zk k23 g0 (o:=0) (v := .slice none 0 0) rfl rfl (by show 0<1;decide) rfl fun Z1 fZ1 gZ1 sZ1=>?_;have g1':=(gZ1.block (L+1) (hlt g1) (by simp)).trans g1;refine zk k4 g1' (o:=0) (v := .bool false) rfl rfl (by show 0<1;decide) rfl fun Z2 fZ2 gZ2 sZ2=>?_;refine⟨F,⟨rfl,by omega,rfl,by omega,(gZ2.block L (hlt fZ1) (by simp)).trans fZ1,fZ2,?_⟩,(KeepsG.grown (F:=F) gZ1 (by rw [hF0];exact .inr (.inr (.inl rfl)))).trans (KeepsG.grown (F:=F) gZ2 (by rw [hF0];exact .inr (.inr (.inr rfl))))⟩;exact ((h4.mono (by omega)).trans (zi gZ1 (by omega) (UW _))).trans (zi gZ2 (by omega) (by omega))
   have hct:¬ (pre.length:Int)=4096:=dF hct;refine⟨_,zc (za h3) (i:=0) rfl,?_⟩;refine⟨((pre.length+1:Nat):Int),(ze (by omega)).trans (by omega),?_⟩;refine zk k3 h3 (o:=0) (v:=i64 (pre.length+1:Nat)) rfl rfl (by show 0<1;decide) rfl fun Z fZ gZ sZ=>?_;have fRZ:jq Z b x:=(gZ.block b (hlt fR2) (fun e=>by
    have e:b=L+3:=(by simpa using e);rw [e] at fR2;rw [fR2] at h3;simp at h3)).trans fR2
   have f2Z:=(gZ.block (L+2) (hlt h2) (by simp)).trans h2;have kZ:KeepsG F F Y2 Z:=KeepsG.grown gZ (by rw [hF0];exact .inr (.inl rfl));have bZ:Below (L+2) W Z:=h4.trans (zi gZ (by omega) (by omega));refine DrawE.ord [] [0,1,2,3,4,5,6,7,8,9] (by kernel_rfl) ?_;have hdZ:Bw Z Z.drew:=(Gb _ _).drew;refine⟨_,zc (za (hdr fRZ)) (i:=18) (zbo x),?_⟩;refine⟨x.many,rfl,r1,?_⟩;have ecut:je (some ⟨b,0+19,none⟩) 24 0 7=some ⟨b,19,none⟩:=by rw [zcu,UR]
   refine⟨Nat,fun i=>⟨[(6,AtR (L+2)),(7,AtR (L+3)),(29,.slice (some ⟨b,19,none⟩) (x.many-0) (24-0)),(30,i64 (x.many:Nat)),(31,i64 (i:Nat))],[]⟩,
    fun i T=>i<=x.many/\T.heap[L+2]?=some (.cells (wrC fun v=>wrL pre v||wrE x i v).toArray 150 (0,0))/\jq T b x/\T.heap[L+3]?=some (.cells [i64 (pre.length+1:Nat)].toArray 3 (0,0))/\KeepsG F F Y2 T/\Below (L+2) W T,fun i=>x.many-i,0,
    ⟨.cons rfl (.cons rfl (.cons (by rw [<- ecut];rfl) (.cons rfl (.cons rfl .nil)))),rfl⟩,⟨UZ _,?_,hdr fRZ,hdr fZ,kZ.trans (KeepsG.below hdZ fun k h => .inl h),bZ.drew⟩,?_⟩
   ·have e:(fun v=>wrL pre v||wrE x 0 v)=wrL pre:=by
     funext v;show (wrL pre v||false)=_;rw [Ux]
    rw [e];exact f2Z
   rintro i T ⟨hi,t2,tR,t3,kT,bT⟩;have hTs:=kT.size;refine biE (fun hc=>?_) fun hc=>?_
   ·have hc:(i:Int)<(x.many:Int):=dT hc;have him:i<x.many:=(by omega);refine⟨i,rfl,him,?_⟩;have hev:zx T ⟨b,19+i*7,none⟩ (evE.enc (x.ev i)):=by
     have:=zG (n:=i*7) (m:=7) (zlA tR);rw [zoC x.ev (show i<24 by omega)] at this;exact this
    refine⟨evE.enc (x.ev i),rfl,hev,hlt tR,?_⟩;refine zn (X:=T) (v := .agg (evE.enc (x.ev i)).toArray) k60 rfl rfl rfl fun T2 hb2 fT2 sT2=>?_;have k2:KeepsG F F Y2 T2:=kT.trans (KeepsG.below hb2 fun k h => .inl h);have b2:Below (L+2) W T2:=bT.trans (hb2.mono (by omega));have n1:=znw x i;refine⟨_,zc (za fT2) (i:=1) rfl,?_⟩;have u2:=zb hb2 t2;have uR:=zb hb2 tR;have u3:=zb hb2 t3;refine biE (fun hk=>?_) fun hk=>?_
    ·have hk:(x.ev i).k=2:=ji.1 (dT hk);refine⟨_,zc (za fT2) (i:=3) rfl,?_⟩;refine⟨((x.ev i).v).toNat,rfl,((x.ev i).v).toNat_lt,?_⟩;refine zk k4 u2 (o:=0+((x.ev i).v).toNat*1) (v := .bool true) rfl rfl (by rw [zlt];have:=((x.ev i).v).toNat_lt;omega) rfl fun T3 fT3 gT3 sT3=>?_;rw [UR,UX,zpp] at fT3;have k3:KeepsG F F Y2 T3:=k2.trans (KeepsG.grown gT3 (by rw [hF0];exact .inl rfl));have hT2s:=k2.size;refine nxI (by omega) ?_;refine⟨i+1,(cvE rfl rfl),⟨him,?_,(gT3.block b (hlt uR) (fun e=>by
      have e:b=L+2:=(by simpa using e);rw [e] at uR;rw [uR] at u2;simp at u2)).trans uR,(gT3.block (L+3) (hlt u3) (by simp)).trans u3,k3,b2.trans (zi gT3 (by omega) (UW _))⟩,zdc (by omega)⟩
     have e:(fun v=>wrL pre v||wrE x (i+1) v)=fun v=>(wrL pre v||wrE x i v)||decide ((x.ev i).v=v):=by
      funext v;rw [n1,Us hk,Uy,Bool.or_assoc]
     rw [e];exact fT3
    ·have hk:¬ (x.ev i).k=2:=fun e=>(dF hk) (by rw [e];rfl);refine nxI (by omega) ?_;refine⟨i+1,(cvE rfl rfl),⟨him,?_,uR,u3,k2,b2⟩,zdc (by omega)⟩;have e:(fun v=>wrL pre v||wrE x (i+1) v)=fun v=>(wrL pre v||wrE x i v):=by
      funext v;rw [n1,Uh hk,Uj,Ux]
     rw [e];exact u2
   ·have hc:¬ (i:Int)<(x.many:Int):=dF hc;obtain rfl:i=x.many:=(by omega);refine⟨F,⟨rfl,?_⟩,kT⟩;rw [hJ];refine⟨by omega,by rw [lap];show pre.length+1<=4096;omega,?_,by rw [lap];exact t3,bT⟩;have e:wrL (pre++[x])=fun v=>wrL pre v||wrE x x.many v:=by
     funext v;exact znu pre x v
    rw [e];exact t2
  ·rintro D1 F Y hD hfD ⟨rfl,hj⟩ hdef;rw [hJ] at hj;obtain⟨h1,h0,h2,h3,h4⟩:=hj;exact⟨D1,(cvE rfl rfl),h0,h2,hdef,by omega,(hbW.mono (by omega)).trans h4⟩
  ·rintro D ex pre F Y hD hfD hpre ⟨rfl,h1,rfl,hlong,g0,g1,hbY⟩ hdef;refine⟨_,rfl,hdef,?_⟩;refine⟨.slice none 0 0,zc (za ((zg (by omega)).trans g0)) (i:=0) rfl,.bool false,zc (za ((zg (by omega)).trans g1)) (i:=0) rfl,.inr ⟨hlong,rfl⟩,?_⟩;have hwY:=hwW.trans (hbY.mono (by omega));exact qQ hwY (by have:=hwV.size;omega) _
 clear f2 f3;rintro D1 U ⟨hm,f2,fD1,hLD,bU⟩;have f0:U.heap[L]?=some (.cells #[.slice none 0 0] 23 (0,0)):=(bU.block L (by omega)).trans f0;have f1:U.heap[L+1]?=some (.cells #[.bool false] 4 (0,0)):=(bU.block (L+1) (by omega)).trans f1;have hwU:Bw w U:=hwV.trans (bU.mono (by omega));have sU:=hlt f2;have sD:=hlt fD1;clear bU hwV;refine⟨List UInt8×OA×Nat,fun s=>⟨[(4,AtR L),(5,AtR (L+1)),(11,.slice s.2.1 s.1.length s.2.2)],[{ target := .collected D1,args := #[] }]⟩,fun s Z=>s.1=jJ xs/\OwnS zJ 5 U.heap.size Z s.2.1 s.2.2 s.1/\Bw U Z,?_,?_⟩
 ·refine⟨wrC (wrL xs),zlt _,za f2,hlt f2,?_⟩;refine⟨Nat×OA×Nat,fun s=>⟨[(4,AtR L),(5,AtR (L+1)),(11,.slice s.2.1 ((zP.take s.1).filter (wrL xs)).length s.2.2),(42,.agg (wrC (wrL xs)).toArray),(43,i64 (s.1:Nat))],[{ target := .collected D1,args := #[] }]⟩,
   fun s Z=>s.1<=256/\OwnS zJ 5 U.heap.size Z s.2.1 s.2.2 ((zP.take s.1).filter (wrL xs))/\Bw U Z,fun s=>256-s.1,(0,none,0),
   (cvE rfl rfl),⟨UZ _,OwnS.nil,Gb _ _⟩,?_⟩
  rintro⟨k,r,c⟩ Z ⟨hk,ho,hbZ⟩;dsimp only at hk ho ⊢;have hZs:=hbZ.size;refine biE (fun hc=>?_) fun hc=>?_
  ·have hc:(k:Int)<256:=dT hc;have hk2:k<256:=by omega
   have tk:zP.take (k+1)=zP.take k++[UInt8.ofNat k]:=by
    obtain⟨hlb,hbk⟩:=zoX hk2;rw [tsg hlb,hbk]
   have fl:(zP.take (k+1)).filter (wrL xs)=(zP.take k).filter (wrL xs)++(if wrL xs (UInt8.ofNat k)=true then [UInt8.ofNat k] else []):=by
    rw [tk,Kw,zk0]
   have hfl:((zP.take k).filter (wrL xs)).length<=256:=by
    have h1:=JM (wrL xs) (zP.take k);rw [Qv] at h1;omega
   refine⟨k,rfl,hk2,?_⟩;refine zab (by rw [UX];exact zkr _ hk2) ?_;refine biE (fun hv=>?_) fun hv=>?_
   ·rw [Gp hv] at fl;refine⟨_,w8N k,?_⟩;refine⟨⟨by decide,by decide,rfl⟩,zJ.enc (UInt8.ofNat k),rfl,?_⟩;have hba:Bw Z (Z.alloc (.cells (zJ.enc (UInt8.ofNat k)).toArray 5)):=zba _ _;refine ju (E:=zJ) (T:=5) (B:=U.heap.size) (l:=(zP.take k).filter (wrL xs)) (news:=[UInt8.ofNat k]) (cap:=c) (m:=1) Tryz.underlying23 k5 rfl rfl rfl (ho.below hba) rfl (qN zJ (UInt8.ofNat k)) (by have:=hba.size;omega) (by omega) (by show (((zP.take k).filter (wrL xs)).length+1)*1<=_;omega) ?_;intro p2 c2 T oT gT hbT hat;refine nxI (by omega) ?_;refine⟨(k+1,p2,c2),⟨.cons rfl (.cons rfl (.cons (by rw [fl];rfl) (.cons rfl (.cons rfl .nil)))),rfl⟩,⟨hk2,by show OwnS zJ _ _ _ _ _ ((zP.take (k+1)).filter (wrL xs));rw [fl];exact oT,(hbZ.trans (hba.mono hZs)).trans hbT⟩,zdc (by omega)⟩
   ·have hv:wrL xs (UInt8.ofNat k)=false:=hv;rw [hv,Gn Kv,QK] at fl;refine nxI (by omega) ?_;exact⟨(k+1,r,c),⟨.cons rfl (.cons rfl (.cons (by rw [fl];rfl) (.cons rfl (.cons rfl .nil)))),rfl⟩,⟨hk2,by show OwnS zJ _ _ _ _ _ ((zP.take (k+1)).filter (wrL xs));rw [fl];exact ho,hbZ⟩,zdc (by omega)⟩
  ·have hc:¬ (k:Int)<256:=dF hc;obtain rfl:k=256:=by omega
   have e:(zP.take 256).filter (wrL xs)=jJ xs:=by
    rw [zkq,JH (by unfold zP;rw [QN,KW];exact UW _)]
   rw [e] at ho;exact⟨(jJ xs,r,c),⟨.cons rfl (.cons rfl (.cons (by rw [e];rfl) .nil)),rfl⟩,rfl,ho,hbZ⟩
 rintro⟨ys,r,c⟩ Z ⟨rfl,ho,hbZ⟩;dsimp only at ho ⊢;have hZs:=hbZ.size;have g0:=zb hbZ f0;have g1:=zb hbZ f1;have gD:=zb hbZ fD1;refine zk k23 g0 (o:=0) (v := .slice r (jJ xs).length c) rfl rfl (by show 0<1;decide) rfl fun Z1 fZ1 gZ1 sZ1=>?_;have g1':=(gZ1.block (L+1) (hlt g1) (by simp)).trans g1;refine zk k4 g1' (o:=0) (v := .bool true) rfl rfl (by show 0<1;decide) rfl fun Z2 fZ2 gZ2 sZ2=>?_;have k2:∀ k,k<Z.heap.size->k≠L->k≠L+1->Z2.heap[k]?=Z.heap[k]?:=fun k hk n1 n2=>(gZ2.block k (by rw [sZ1];exact hk) (by simpa using n2)).trans (gZ1.block k hk (by simpa using n1));have fZ1':=(gZ2.block L (hlt fZ1) (by simp)).trans fZ1;refine⟨_,rfl,(k2 D1 (hlt gD) (by omega) (by omega)).trans gD,?_⟩;refine⟨.slice r (jJ xs).length c,?_,.bool true,?_,.inl ⟨r,c,hm,rfl,?_⟩,?_⟩
 ·exact zc (za ((zg (by omega)).trans fZ1')) (i:=0) rfl
 ·exact zc (za ((zg (by omega)).trans fZ2)) (i:=0) rfl
 ·refine OwnS.lower (ho.same fun a ha=>?_) hwU.size;have h:=zak ho ha;exact (zg (by omega)).trans (k2 _ h.2.1 (by omega) (by omega))
 ·have hwZ:=zst hwU hbZ;exact qQ ((hwZ.trans (zi gZ1 hwZ.size (by omega))).trans (zi gZ2 (by rw [sZ1];exact hwZ.size) (by omega))) (by omega) _
end
structure OkG (p:Prg):Prop where
 l1:1<=p.locs.length
 l6:p.locs.length<=6
 il:p.locs.length=p.init.length
 t1:1<=p.threads.length
 t4:p.threads.length<=4
 th:∀ l∈p.threads,z8 l 6=true
 tl:∀ l∈p.threads,z8 l p.locs.length=true
theorem OkG.i1 {p:Prg} (h:OkG p):1<=p.init.length:=by have:=h.l1;have:=h.il;omega
theorem OkG.i6 {p:Prg} (h:OkG p):p.init.length<=6:=by have:=h.l6;have:=h.il;omega
theorem zm2 {x:InsD} {k k' n:Nat} (hk:k<=k') (h:zg1 x k n=true):zg1 x k' n=true:=by
 unfold zg1 qJ at h ⊢;simp only [UA,List.all_nil,id_eq,Bool.and_true,bAT,dE,QH] at h ⊢;obtain⟨h1,h2,h3,h4,h5⟩:=h;exact⟨h1,h2,h3,h4.imp id (fun h=>nL h hk),h5⟩
theorem zh0 {l:List InsD} {k k':Nat} (hk:k<=k') (h:z8 l k=true):z8 l k'=true:=by
 unfold z8 at h ⊢;rw [bAT,dE,Qk] at h ⊢;refine⟨h.1,fun i hi=>?_⟩;have:=h.2 i hi
 split at this
 ·exact zm2 hk this
 ·rfl
theorem zcn {p:Prg} (h:zbu p=true):OkG p:=by
 unfold zbu at h;simp only [bAT] at h;obtain⟨_,h2,⟨h4a,h4b,h5⟩,h6,_,h8⟩:=h;unfold zdt at h2;simp only [bAT,dE] at h2 h4a h4b;have h7:=Qk.1 h6;exact⟨h2.1,h2.2.1,h2.2.2.1.symm,h4a,h4b,fun l hl=>zh0 h2.2.1 (h7 l hl),h7⟩
def zdW (threads:List (List InsD)):Nat->List UInt8->Option (List UInt8)
 | 0,_=>none
 | n+1,vals=>if 16<vals.length then none else if (threads.any fun l=>decide (4096<(qb l vals).length))=true then none else if (zaC threads vals).length=vals.length then some vals else zdW threads n (zaC threads vals)
def zbA (p:Prg):Option (List UInt8):=zdW p.threads 18 (qO p.init)
theorem zct (l:List UInt8):qO (qO l)=qO l:=ziC (zgK l)
theorem zhG {l:List UInt8} (h:1<=l.length):1<=(qO l).length:=by
 cases l with
 | nil=>simp at h
 | cons x r=>exact List.length_pos_of_mem (zeY.2 (KA ..))
theorem ziU (rs:List RunD):(jJ rs).length<=256:=by
 refine UM (JM ..) ?_;unfold zP;rw [QN,KW];exact UW _
theorem zl4 {α β:Type} {g:α->List β} (hg:∀ a,(g a).length<=256):∀ l:List α,(l.flatMap g).length<=256*l.length
 | []=>UW _
 | a::l=>by
  rw [KT,lap,Qt];have:=hg a;have:=zl4 hg l;omega
theorem zoH {a b:List UInt8} (h:∀ x,x∈a->x∈b):(qO a).length<=(qO b).length:=by
 unfold qO;rw [<- List.countP_eq_length_filter,<- List.countP_eq_length_filter];refine List.countP_mono_left fun x _ hx=>?_;obtain⟨y,hy,e⟩:=Ql.1 hx;exact Ql.2 ⟨y,h y hy,e⟩
theorem zhC (ths:List (List InsD)) {vals:List UInt8} (h:qO vals=vals):vals.length<=(zaC ths vals).length:=by
 unfold zaC
 conv=>lhs;rw [<- h]
 exact zoH fun x hx=>JW _ hx
section
variable {B:Nat} {p:Prg} {pc:List Value} {w:Wd}
theorem znp (hB:B<=w.heap.size) (hP:PrgX B w pc p) (hG:GlobE w) (hok:zbu p=true) :
  Calls PG 22 #[.agg pc.toArray,i64 16] w fun e w'=>((∃ (V:List UInt8) (q:OA) (c:Nat),zbA p=some V/\e = .returned (.tuple #[.slice q V.length c,i64 0])/\OwnS zJ 5 w.heap.size w' q c V)\/(zbA p=none/\e = .returned (.tuple #[.slice none 0 0,i64 5])))/\Bw w w':=by
 have hOP:=zcn hok;have hi1:=hOP.i1;have hi6:=hOP.i6;refine jf 60 [.agg pc.toArray,i64 16] (.c .p (.s .p (.c .p .p))) Tryz.func22 ?_;obtain⟨L,hL⟩:=nm (w.heap.size);have hpc:=hP.v.size;have hthr:=hP.v.len.threads;refine⟨Unit,fun _=>⟨[(1,i64 16),(2,AtR L)],[]⟩,fun _ X=>X.heap[L]?=some (.cells pc.toArray 29 (0,0))/\Bw w X,⟨(),⟨.cons rfl (.cons (by rw [hL];rfl) .nil),rfl⟩,by rw [hL];exact zy w _,(zba w _)⟩,?_⟩;rintro _ X ⟨f0,hbX⟩;refine brF (brF ⟨pc,hpc,za f0,hlt f0,cmo (ziP (UM hB hbX.size) (hP.v.below (hbX.mono hB)) (hG.c.below hbX)) ?_⟩);rintro e Y ⟨m,rfl,hm,hbY⟩;have hm0:m=0:=hm.2 hok;subst hm0;refine brF ?_;have hwY:=zst hbX hbY;have f0:=zb hbY f0;obtain⟨_,⟨p3,c3,h3,xs,hxs,zcV,hxr⟩,⟨p2,c2,h2,hinit⟩⟩:=hP;refine⟨OA×Nat,fun s=>⟨[(1,i64 16),(2,AtR L),(6,.slice s.1 (qO p.init).length s.2)],[]⟩,fun s Z=>OwnS zJ 5 w.heap.size Z s.1 s.2 (qO p.init)/\Z.heap[L]?=some (.cells pc.toArray 29 (0,0))/\Bw w Z,?_,?_⟩
 ·refine⟨_,zc (za f0) (i:=2) (by simpa using h2),cmo (zcX ((hinit.below (hwY.mono hB)).slr (UM hB hwY.size)) hi1 (by omega)) ?_⟩;rintro e Z ⟨⟨q,c,rfl,ho⟩,hbZ⟩;exact⟨(q,c),(cvE rfl rfl),OwnS.lower ho hwY.size,zb hbZ f0,(zst hwY hbZ)⟩
 rintro⟨q,c⟩ X ⟨ho,f0,hbX⟩;obtain⟨R,hR⟩:=nm (zbA p);rw [<- hR];refine⟨List UInt8×OA×Nat,fun s=>⟨[(1,i64 16),(2,AtR L),(6,.slice s.2.1 s.1.length s.2.2)],[]⟩,
  fun s Z=>((1<=s.1.length/\qO s.1=s.1)/\∃ n,18<=n+s.1.length/\zdW p.threads n s.1=R)/\OwnS zJ 5 w.heap.size Z s.2.1 s.2.2 s.1/\Z.heap[L]?=some (.cells pc.toArray 29 (0,0))/\Bw w Z,fun s=>300-s.1.length,(qO p.init,q,c),
  (cvE rfl rfl),⟨⟨⟨zhG hi1,zct _⟩,18,Qz _ _,hR.symm⟩,ho,f0,hbX⟩,?_⟩
 rintro⟨vals,q,c⟩ X ⟨⟨⟨hv1,hvd⟩,n,hn,hQ⟩,ho,f0,hbX⟩;dsimp only at hv1 hvd hn hQ ho ⊢;have hv256:vals.length<=256:=by rw [<- hvd];exact zdj _
 refine biE (fun h16=>?_) fun h16=>?_
 ·have h16:(16:Int)<(vals.length:Int):=dT h16;have e:R=none:=by
   rw [<- hQ]
   cases n with
   | zero=>rfl
   | succ n=>exact Gp (by omega)
  exact⟨.inr ⟨e,rfl⟩,hbX⟩
 have h16:¬ (16:Int)<(vals.length:Int):=dF h16;obtain⟨k,rfl⟩:∃ k,n=k+1:=⟨n-1,by omega⟩;have hQ:(if 16<vals.length then none else if (p.threads.any fun l=>decide (4096<(qb l vals).length))=true then none else if (zaC p.threads vals).length=vals.length then some vals else zdW p.threads k (zaC p.threads vals))=R:=hQ;rw [Gn (by omega)] at hQ;have hq0:q=none->c=0:=fun e=>by
  rcases ho.inv with ⟨_,h,_⟩ | ⟨g,_,h,_⟩
  ·exact h
  ·rw [e] at h;cases h
 have hqb:∀ a,q=some a->a.block<X.heap.size:=fun a ha=>(zak ho ha).2.1;refine cmo (zkn ho.row (by omega) hq0) ?_;rintro e Y ⟨⟨q1,k1,rfl,o1⟩,hbY⟩;have hwY:=zst hbX hbY;have f0Y:=zb hbY f0;have hl3:xs.length=p.threads.length:=by rw [<- hxs,QN]
 refine⟨_,zc (za f0Y) (i:=3) (by simpa using h3),?_⟩;obtain⟨g,hg⟩:∃ g:List InsD->List UInt8,g=fun l=>jJ (qb l vals):=⟨_,rfl⟩;have hnx:zaC p.threads vals=qO (vals++p.threads.flatMap g):=by unfold zaC;rw [hg]
 have hgl:∀ l,(g l).length<=256:=fun l=>by rw [hg];exact ziU _
 have hth4:=hOP.t4;refine⟨Nat×OA×Nat,fun s=>⟨[(1,i64 16),(2,AtR L),(6,.slice q vals.length c),(7,.slice s.2.1 (vals++(p.threads.take s.1).flatMap g).length s.2.2),(33,.slice p3 p.threads.length c3),(34,i64 p.threads.length),(35,i64 (s.1:Nat))],[]⟩,
  fun s Z=>(s.1<=p.threads.length/\∀ l∈p.threads.take s.1,(qb l vals).length<=4096)/\OwnS zJ 5 X.heap.size Z s.2.1 s.2.2 (vals++(p.threads.take s.1).flatMap g)/\Bw X Z,fun s=>p.threads.length-s.1,(0,q1,k1),
  ⟨.cons rfl (.cons rfl (.cons rfl (.cons (by rw [Up,Qq,QK];rfl) (.cons rfl (.cons rfl (.cons rfl .nil)))))),rfl⟩,⟨⟨UZ _,fun l hl=>by cases hl⟩,by show OwnS zJ _ _ _ _ _ (vals++(p.threads.take 0).flatMap g);rw [Up,Qq,QK];exact o1,hbY⟩,?_⟩
 rintro⟨m,q1,k1⟩ Y ⟨⟨hm,hsm⟩,o1,hbY⟩;dsimp only at hm hsm o1 ⊢;have hwY:=zst hbX hbY;have f0Y:=zb hbY f0;have hXY:=hbY.size;have lenTake:∀ j,(vals++(p.threads.take j).flatMap g).length<=1280:=fun j=>by
  have h1:=zl4 hgl (p.threads.take j);rw [Qv] at h1;rw [lap];omega
 refine biE (fun hc=>?_) fun hc=>?_
 ·have hc:(m:Int)<(p.threads.length:Int):=dT hc;have hmt:m<p.threads.length:=by omega
  have hmx:m<xs.length:=by omega
  obtain⟨b3,o3,hp3,hb3,hat3⟩:=zd1 (zcV.below (hwY.mono hB)) hmx;have hB2:b3<Y.heap.size:=nL hb3 (UM hB hwY.size);have e3:some (Value.slice p3 p.threads.length c3)=some (Value.slice (some ⟨b3,o3,none⟩) p.threads.length c3):=by rw [hp3]
  subst hp3;refine⟨m,rfl,hmt,zi2 xs[m],by have:=zc (hat3 m hmx) (i:=0) (v:=zi2 xs[m]) rfl;exact this,?_⟩;obtain⟨hrm,hrb⟩:=hxr _ (gM hmx);have hxm:xs[m].1=p.threads[m]:=by
   have:=Gj (fun l=>l[m]?) hxs;simp only [KV,gE hmx,gE hmt,Ue,Qa] at this;exact this
  have hmem:=gM hmt;have hxl:xs[m].1.length=p.threads[m].length:=by rw [hxm]
  have hw:=zmp (w:=Y) (l:=p.threads[m]) (dom:=vals) (q:=xs[m].2.1) (p:=q) (cap:=xs[m].2.2) (cd:=c) (by rw [<- hxm];exact (hrm.below (hwY.mono hB)).slr (UM hB hwY.size)) (ho.row.below hbY) (hOP.th _ hmem) (fun hne a ha=>nL (hrb (by rw [hxm];exact hne) a ha) (UM hB hwY.size)) (fun a ha=>nL (hqb a ha) hXY) (by omega);rw [<- hxl] at hw;have eg:jJ (qb p.threads[m] vals)=g p.threads[m]:=by rw [hg]
  rw [eg] at hw;refine cmo hw ?_;rintro e Z ⟨(⟨q2,k2,hs,rfl,o2⟩ | ⟨hs,rfl⟩),hbZ⟩
  case inr =>
   refine brT ?_;have e:R=none:=by
    rw [<- hQ];exact Gp (Ql.2 ⟨_,hmem,Us hs⟩)
   exact⟨.inr ⟨e,rfl⟩,hbX.trans ((hbY.trans (hbZ.mono hXY)).mono hbX.size)⟩
  refine brF ?_;have tk:(p.threads.take (m+1)).flatMap g=(p.threads.take m).flatMap g++g p.threads[m]:=by
   rw [tsg hmt,Kh,KT,Qq,QK]
  have l1:=lenTake m;have l2:=lenTake (m+1);rw [tk,<- KQ,lap] at l2;have hXZ:=hbY.trans (hbZ.mono hXY);have hsZ:=hbZ.size;refine zey (E:=zJ) (T:=5) (B:=X.heap.size) (l:=vals++(p.threads.take m).flatMap g) (news:=g p.threads[m]) (cap:=k1) (m:=(g p.threads[m]).length) Tryz.underlying23 k5 rfl rfl rfl (o1.below hbZ) rfl o2.row (fun e=>by
   rcases o2.inv with ⟨_,h,_⟩ | ⟨g',_,h,_⟩
   ·exact h
   ·rw [e] at h;cases h) (by omega) (by omega) (by show ((vals++(p.threads.take m).flatMap g).length+(g p.threads[m]).length)*1<=_;omega) ?_
  intro q4 k4 U oU gU hbU;rw [KQ,<- tk] at oU ⊢;refine nxI (by omega) ⟨(m+1,q4,k4),(cvE rfl rfl),⟨⟨hmt,fun l hl=>?_⟩,oU,hXZ.trans hbU⟩,zdc (by omega)⟩;have hl:l∈p.threads.take (m+1):=hl;rw [tsg hmt] at hl;rcases QS.1 hl with hl | hl
  ·exact hsm l hl
  ·rw [KB.1 hl];exact hs
 ·have hc:¬ (m:Int)<(p.threads.length:Int):=dF hc;obtain rfl:m=p.threads.length:=by omega
  rw [Qx] at o1 hsm ⊢;have l3:=lenTake p.threads.length;rw [Qx] at l3;rw [Gn (fun h=>by
   obtain⟨l,hl,e⟩:=Ql.1 h;have:=hsm l hl;have:=dT e;omega)] at hQ
  refine cmo (zcX o1.row (by rw [lap];omega) (by omega)) ?_;rintro e Z ⟨⟨q2,k2,rfl,o2⟩,hbZ⟩;rw [<- hnx] at o2 ⊢;have hXZ:=hbY.trans (hbZ.mono hXY);have hwZ:=zst hbX hXZ;refine biE (fun he=>?_) fun he=>?_
  ·have he:(zaC p.threads vals).length=vals.length:=by
    have:=dT he;omega
   rw [Gp he] at hQ;exact⟨.inl ⟨vals,q,c,hQ.symm,rfl,ho.below hXZ⟩,hwZ⟩
  ·have he:¬ (zaC p.threads vals).length=vals.length:=fun e=>(dF he) (by rw [e]);rw [Gn he] at hQ;have hge:=zhC p.threads hvd;have hle:(zaC p.threads vals).length<=256:=zdj _;exact⟨(zaC p.threads vals,q2,k2),(cvE rfl rfl),⟨⟨⟨by show 1<=(zaC p.threads vals).length;omega,zct _⟩,k,by show 18<=k+(zaC p.threads vals).length;omega,hQ⟩,OwnS.lower o2 hwY.size,zb hXZ f0,hwZ⟩,by show 300-(zaC p.threads vals).length<300-vals.length;omega⟩
end
abbrev zu (V:List UInt8) (l:List InsD):List PathD:=(qb l V).map zaa
abbrev zL (p:Prg) (V:List UInt8):List MixD:=zkU p.init (p.threads.map (zu V))
def zcD (p:Prg) (V:List UInt8):Prop :=
 (∀ l∈p.threads,(qb l V).length<=4096)/\(∀ k,k<=p.threads.length->za3 ((p.threads.take k).map fun l=>(zu V l).length)<=4096) /\
  ∀ ds∈z7 ((p.threads.map (zu V)).map List.length),(zcR p.init (qt (p.threads.map (zu V)) ds)).isSome=true
section
variable {w:Wd} {bP cv B:Nat} {pc:List Value} {qv:OA} {V:List UInt8} {p:Prg}
theorem zof (fP:w.heap[bP]?=some (.cells pc.toArray 29 (0,0))) (hB:B<=w.heap.size) (hP:PrgX B w pc p) (hO:OkG p) (hG:GlobE w) (hV:SlR zJ w qv V) (hv1:1<=V.length) (hVd:qO V=V) (hpb:∀ l∈p.threads,∀ P∈zu V l,PathB p.init.length P) :
  Calls PG 24 #[At0 bP,.slice qv V.length cv] w fun e w'=>((zcD p V/\∃ (ms:List MixX) (q:OA) (c:Nat),e = .returned (.tuple #[.slice q ms.length c,.bool true])/\ms.map (·.m)=zL p V/\OwnS zgY 87 w.heap.size w' q c ms/\∀ x∈ms,NInM w.heap.size (fun k=>w.heap.size<=k) w' x)\/(¬ zcD p V/\e = .returned (.tuple #[.slice none 0 0,.bool false])))/\Bw w w':=by
 have hil:=hO.il;have hi6:=hO.i6;have ht4:=hO.t4;have hv256:V.length<=256:=by rw [<- hVd];exact zdj V
 refine jf 89 [At0 bP,.slice qv V.length cv] (.c .p (.c .p (.s .p (.s .p (.c .p (.c .p (.s .p .p))))))) Tryz.func24 ?_;obtain⟨L,hL⟩:=nm (w.heap.size);have hbP:=hlt fP;refine⟨Unit,fun _=>⟨[(1,.slice qv V.length cv),(2,At0 L),(4,At0 (L+1)),(5,At0 (L+2))],[]⟩,fun _ X=>X.heap[L]?=some (.cells #[At0 bP] 84 (0,0))/\X.heap[L+1]?=some (.cells #[.slice none 0 0] 81 (0,0))/\X.heap[L+2]?=some (.cells #[.bool false] 4 (0,0))/\X.heap.size=L+3/\Bw w X,?_,?_⟩
 ·have s1:=wz w (.cells #[At0 bP] 84);have h2:=zy (w.alloc (.cells #[At0 bP] 84)) (.cells #[.slice none 0 0] 81);have s2:=wz (w.alloc (.cells #[At0 bP] 84)) (.cells #[.slice none 0 0] 81);have h3:=zy ((w.alloc (.cells #[At0 bP] 84)).alloc (.cells #[.slice none 0 0] 81)) (.cells #[.bool false] 4);have s3:=wz ((w.alloc (.cells #[At0 bP] 84)).alloc (.cells #[.slice none 0 0] 81)) (.cells #[.bool false] 4);rw [s1] at h2 s2;rw [s2] at h3 s3;refine⟨(),⟨.cons rfl (.cons (by rw [hL];rfl) (.cons (by rw [hL,<- s1];rfl) (.cons (by rw [hL,<- s2];rfl) .nil))),rfl⟩,?_,?_,?_,?_,?_⟩
  ·rw [hL];exact qF _ (qF _ (zy w _))
  ·rw [hL];exact qF _ h2
  ·rw [hL];exact h3
  ·rw [hL];exact s3
  ·exact (((zba w _)).alloc (by simp) _).alloc (by simp;omega) _
 rintro _ X ⟨f0,f1,f2,sX,hbX⟩;refine⟨Unit,fun _=>⟨[(1,.slice qv V.length cv),(2,At0 L),(4,At0 (L+1)),(5,At0 (L+2)),(6,At0 (L+3))],[]⟩,fun _ Y=>MxS w.heap.size Y L bP [] none 0 [] none 0/\Bw w Y,?_,?_⟩
 ·refine⟨(),⟨.cons rfl (.cons rfl (.cons rfl (.cons rfl (.cons (by rw [<- sX];rfl) .nil)))),rfl⟩,⟨qF _ f0,qF _ f1,qF _ f2,by rw [<- sX];exact zy X _,OwnS.nil,OwnS.nil,fun z hz=>(by cases hz),fun z hz=>(by cases hz)⟩,hbX.alloc hbX.size _⟩
 clear f0 f1 f2 sX hbX;rintro _ X ⟨hS,hbX⟩;have hP0:=hP;obtain⟨_,⟨p3,c3,h3,xs,hxs,zcV,hxr⟩,⟨p2,c2,h2,hinit⟩⟩:=hP;have hxl:xs.length=p.threads.length:=by rw [<- hxs,QN]
 refine⟨(List TpR×OA×Nat)×OA×Nat,fun s=>⟨[(2,At0 L),(4,At0 (L+1)),(5,At0 (L+2)),(6,At0 (L+3)),(7,.slice s.2.1 (p.threads.map fun l=>(zu V l).length).length s.2.2)],[]⟩,fun s Z=>((∀ l∈p.threads,(qb l V).length<=4096)/\∀ k,k<=p.threads.length->za3 ((p.threads.take k).map fun l=>(zu V l).length)<=4096)/\MxS w.heap.size Z L bP (p.threads.map fun l=>(zu V l).length) s.2.1 s.2.2 s.1.1 s.1.2.1 s.1.2.2/\s.1.1.map (fun z=>z.1.map (·.1))=p.threads.map (zu V)/\Bw w Z,?_,?_⟩
 ·refine⟨_,zc (za hS.f0) (i:=0) rfl,?_⟩;refine⟨_,zc (za (zb hbX fP)) (i:=3) (by simpa using h3),?_⟩;refine⟨Nat×(List TpR×OA×Nat)×OA×Nat,fun s=>⟨[(1,.slice qv V.length cv),(2,At0 L),(4,At0 (L+1)),(5,At0 (L+2)),(6,At0 (L+3)),(7,.slice s.2.2.1 ((p.threads.take s.1).map fun l=>(zu V l).length).length s.2.2.2),(8,i64 (za3 ((p.threads.take s.1).map fun l=>(zu V l).length):Nat)),(23,.slice p3 p.threads.length c3),(24,i64 p.threads.length),(25,i64 (s.1:Nat))],[]⟩,
   fun s Z=>(s.1<=p.threads.length/\(∀ l∈p.threads.take s.1,(qb l V).length<=4096)/\∀ k,k<=s.1->za3 ((p.threads.take k).map fun l=>(zu V l).length)<=4096)/\MxS w.heap.size Z L bP ((p.threads.take s.1).map fun l=>(zu V l).length) s.2.2.1 s.2.2.2 s.2.1.1 s.2.1.2.1 s.2.1.2.2/\s.2.1.1.map (fun z=>z.1.map (·.1))=(p.threads.take s.1).map (zu V)/\Bw w Z,fun s=>p.threads.length-s.1,(0,([],none,0),none,0),
   (cvE rfl rfl),⟨⟨UZ _,fun l hl=>Gq hl (by simp),fun k hk=>by rw [Nat.le_zero.1 hk];exact (by decide:(1:Nat)<=4096)⟩,hS,rfl,hbX⟩,?_⟩
  clear hS hbX;rintro⟨k,⟨ts,pT,cT⟩,ps,cs⟩ Z ⟨⟨hk,hle,hall⟩,hS,hz,hbZ⟩;dsimp only at hk hle hall hS hz ⊢;have hts:ts.length=k:=by
   have:=Gj List.length hz;rw [QN,QN,Qv] at this;omega
  refine biE (fun hc=>?_) fun hc=>?_
  ·have hc:(k:Int)<(p.threads.length:Int):=dT hc;have hkl:k<p.threads.length:=by omega
   have hkx:k<xs.length:=by omega
   have hZs:=hbZ.size;obtain⟨l,hlk⟩:∃ l,p.threads[k]=l:=⟨_,rfl⟩;have hlm:l∈p.threads:=by rw [<- hlk];exact gM hkl
   have hQ:=hO.th l hlm;obtain⟨b3,o3,hp3,hb3,hat3⟩:=zd1 (zcV.below (hbZ.mono hB)) hkx;have hB2:b3<Z.heap.size:=by omega
   have e3:some (Value.slice p3 p.threads.length c3)=some (Value.slice (some ⟨b3,o3,none⟩) p.threads.length c3):=by rw [hp3]
   subst hp3;refine⟨k,rfl,hkl,?_⟩;refine⟨zi2 xs[k],by have:=zc (hat3 k hkx) (i:=0) (v:=zi2 xs[k]) rfl;exact this,?_⟩;obtain⟨hrm,hrb⟩:=hxr _ (gM hkx);have hxm:xs[k].1=l:=by
    have:=Gj (fun l=>l[k]?) hxs;simp only [KV,gE hkx,gE hkl,Ue,Qa] at this;rw [this,hlk]
   have hpt:(p.threads.take (k+1))=p.threads.take k++[l]:=by rw [tsg hkl,hlk]
   refine cmo (zpe (l:=xs[k].1) (vals:=V) ((hrm.below (hbZ.mono hB)).slr (by omega)) (hV.below hbZ) hv1 (by omega) (by rw [hxm];exact hQ) (hG.below hbZ) (fun hne a ha=>by have:=hrb hne a ha;omega)) ?_;rw [hVd,hxm];obtain⟨A,hA⟩:=nm (za3 ((p.threads.take k).map fun l=>(zu V l).length));have hpr0:=hall k (UW _);rintro e Y ⟨(⟨rk,pk,ck,hmle,rfl,hrk,ork,onk⟩ | ⟨hlong,rfl⟩),hbY⟩
   case inr =>
    have hSY:=hS.below hbY;rw [<- hA] at hpr0 ⊢;refine⟨((A*0:Nat):Int),(ze (by omega)).trans (by omega),?_⟩;refine brT ?_;refine brT ?_;refine zk k81 hSY.f1 (o:=0) (v := .slice none 0 0) rfl rfl (by show 0<1;decide) rfl fun Z1 fZ1 gZ1 sZ1=>?_;refine zk k4 ((gZ1.block (L+2) (hlt hSY.f2) (by simp)).trans hSY.f2) (o:=0) (v := .bool false) rfl rfl (by show 0<1;decide) rfl fun Z2 fZ2 gZ2 sZ2=>?_;refine⟨.slice none 0 0,zc (za ((gZ2.block (L+1) (hlt fZ1) (by simp)).trans fZ1)) (i:=0) rfl,.bool false,zc (za fZ2) (i:=0) rfl,.inr ⟨fun h=>?_,rfl⟩,?_⟩
    ·have:=h.1 l hlm;omega
    ·have hwY:=hbZ.trans (hbY.mono hZs);exact (hwY.trans (zi gZ1 hwY.size (by omega))).trans (zi gZ2 (by rw [sZ1];exact hwY.size) (by omega))
   have hrk:rk.map (·.1)=zu V l:=hrk;have hrkl:rk.length=(zu V l).length:=by rw [<- hrk,QN]
   have hpl:(zu V l).length<=4096:=by rw [QN];exact hmle
   have hSY:=hS.below hbY;have hA2:za3 ((p.threads.take (k+1)).map fun l=>(zu V l).length)=A*rk.length:=by
    rw [hpt,QR];show za3 ((p.threads.take k).map (fun l=>(zu V l).length)++[(zu V l).length])=_;rw [zf2,<- hrkl,hA]
   rw [<- hA] at hpr0 ⊢;obtain⟨nz,hnz⟩:∃ nz:TpR,nz=(rk,pk,ck):=⟨_,rfl⟩;have hen:[Value.slice pk rk.length ck]=tpE.enc nz:=by rw [hnz];rfl
   have hAr:A*rk.length<=4096*4096:=Uq hpr0 (by omega);refine⟨((A*rk.length:Nat):Int),by rw [<- QI];exact ze (by omega),?_⟩;refine brF ?_;refine biE (fun hbig=>?_) fun hbig=>?_
   ·have hbig:(4096:Int)<((A*rk.length:Nat):Int):=dT hbig;refine zk k81 hSY.f1 (o:=0) (v := .slice none 0 0) rfl rfl (by show 0<1;decide) rfl fun Z1 fZ1 gZ1 sZ1=>?_;refine zk k4 ((gZ1.block (L+2) (hlt hSY.f2) (by simp)).trans hSY.f2) (o:=0) (v := .bool false) rfl rfl (by show 0<1;decide) rfl fun Z2 fZ2 gZ2 sZ2=>?_;refine⟨.slice none 0 0,zc (za ((gZ2.block (L+1) (hlt fZ1) (by simp)).trans fZ1)) (i:=0) rfl,.bool false,zc (za fZ2) (i:=0) rfl,.inr ⟨fun h=>?_,rfl⟩,?_⟩
    ·have:=h.2.1 (k+1) hkl;rw [hA2] at this;omega
    ·have hwY:=hbZ.trans (hbY.mono hZs);exact (hwY.trans (zi gZ1 hwY.size (by omega))).trans (zi gZ2 (by rw [sZ1];exact hwY.size) (by omega))
   have hbig:¬ (4096:Int)<((A*rk.length:Nat):Int):=dF hbig;have hpr:A*rk.length<=4096:=by omega
   refine⟨_,zc (za hSY.f3) (i:=0) rfl,?_⟩;refine⟨⟨by decide,by decide,rfl⟩,tpE.enc nz,by rw [<- hen];rfl,?_⟩;have hb1:Bw Y (Y.alloc (.cells (tpE.enc nz).toArray 78)):=zba _ _;have hS1:=hSY.below hb1;have ork1:=ork.below hb1;have onk1:=fun x hx=>(onk x hx).same (Z:=Y.alloc (.cells (tpE.enc nz).toArray 78)) fun {α E T c q l} _ ho=>ho.below hb1;unfold zdE zam;show SatR _ _;refine zs1 hS1.rk (qN tpE nz) (by have:=hb1.size;have:=hbY.size;omega) (by omega) fun p' c' U oU gU hat1=>?_;have f0U:=zZ hS1.f0 hS1.rk (by decide) gU;have f1U:=zZ hS1.f1 hS1.rk (by decide) gU;have f2U:=zZ hS1.f2 hS1.rk (by decide) gU;have f3U:=zZ hS1.f3 hS1.rk (by decide) gU;refine zk zsZ f3U (o:=0) (v := .slice p' (ts++[nz]).length c') rfl rfl (by show 0<1;decide) rfl fun S fS gS sS=>?_;have hbZY:=hbZ.trans (hbY.mono hZs);have sY:=hbY.size;have sb1:=hb1.size;have hbU:Bw w U:=(hbZY.trans (hb1.mono (by omega))).trans (jk hS1.rk (by omega) (UW _) gU);have hbS:Bw w S:=hbU.trans (zi gS hbU.size (by omega));have hSS:MxS w.heap.size S L bP ((p.threads.take k).map fun l=>(zu V l).length) ps cs (ts++[nz]) p' c':=by
    have kU:∀ {α:Type} {E:Enc α} {T cc:Nat} {r:OA} {ll:List α},T≠78->T≠118->OwnS E T w.heap.size (Y.alloc (.cells (tpE.enc nz).toArray 78)) r cc ll->OwnS E T w.heap.size S r cc ll:=fun {α E T cc r ll} h1 h2 h=>qa (jZ h hS1.rk h1 gU) f3U h2 gS;have kB:∀ {b:Nat} {o:Obj},b≠L+3->U.heap[b]?=some o->S.heap[b]?=some o:=fun {b o} hb h=>(gS.block b (hlt h) (by simpa using hb)).trans h;have kP:∀ x:zc2,PthO w.heap.size (Y.alloc (.cells (tpE.enc nz).toArray 78)) x->PthO w.heap.size S x:=fun x hx=>hx.same fun {α E T c q l} ht ho=>kU (by rcases ht with rfl | rfl <;> decide) (by rcases ht with rfl | rfl <;> decide) ho;refine⟨kB (by omega) f0U,kB (by omega) f1U,kB (by omega) f2U,fS,kU (by decide) (by decide) hS1.own,qa oU f3U (by decide) gS,fun z hz=>?_,fun z hz=>?_⟩
    ·rcases QS.1 hz with hz | hz
     ·exact kU (by decide) (by decide) (hS1.n1 z hz)
     ·rw [KB.1 hz,hnz];exact kU (by decide) (by decide) (ork1.lower hZs)
    ·rcases QS.1 hz with hz | hz
     ·exact fun x hx=>kP x (hS1.n2 z hz x hx)
     ·rw [KB.1 hz,hnz];exact fun x hx=>kP x ((onk1 x hx).mono hZs)
   clear hS1 ork1 onk1 hSY hS oU gU hat1 f0U f1U f2U f3U fS gS;refine⟨⟨by decide,by decide,rfl⟩,zw.enc rk.length,rfl,?_⟩;have hb2:Bw S (S.alloc (.cells (zw.enc rk.length).toArray 3)):=zba _ _;have hS2:=hSS.below hb2;have sbS:=hbS.size;have sb2:=hb2.size;unfold zdE zam;show SatR _ _;refine zo7 hS2.own (qN zw rk.length) (by omega) (by rw [QN,Qv];omega) fun p2' c2' V' oV gV hat2=>?_;rw [zag] at gV;have hSV:=hS2.size oV gV;have hzz:((p.threads.take k).map fun l=>(zu V l).length)++[rk.length]=(p.threads.take (k+1)).map fun l=>(zu V l).length:=by
    rw [hpt,QR,hrkl];rfl
   rw [hzz] at hSV ⊢;refine nxI (by omega) ?_;refine⟨(k+1,(ts++[nz],p',c'),p2',c2'),⟨.cons rfl (.cons rfl (.cons rfl (.cons rfl (.cons rfl (.cons rfl (.cons (by show _=some (i64 (za3 ((p.threads.take (k+1)).map fun l=>(zu V l).length):Nat));rw [hA2];rfl) (.cons rfl (.cons rfl (.cons rfl .nil))))))))),rfl⟩,⟨⟨hkl,fun l' hl'=>?_,fun k' hk'=>?_⟩,hSV,?_,hbS.trans ((hb2.mono sbS).trans (jk hS2.own (by omega) (UW _) gV))⟩,zdc (by omega)⟩
   ·have hl':l'∈p.threads.take (k+1):=hl';rw [hpt] at hl';rcases QS.1 hl' with h | h
    ·exact hle l' h
    ·rw [KB.1 h];exact hmle
   ·have hk':k'<=k+1:=hk';by_cases e:k'=k+1
    ·rw [e,hA2];exact hpr
    ·exact hall k' (by omega)
   rw [hpt,QR,QR,hz,hnz];show _++[rk.map (·.1)]=_++[zu V l];rw [hrk]
  ·have hc:¬ (k:Int)<(p.threads.length:Int):=dF hc;obtain rfl:k=p.threads.length:=by omega
   rw [Qx] at hz hS hle ⊢;exact⟨((ts,pT,cT),ps,cs),(cvE rfl rfl),⟨hle,hall⟩,hS,hz,hbZ⟩
 rintro⟨⟨ts,pT,cT⟩,ps,cs⟩ X ⟨⟨hle,hall⟩,hS,hz,hbX⟩;dsimp only at hS hz ⊢;obtain⟨Q,hQ⟩:=nm (X.heap.size);refine⟨Unit,fun _=>⟨[(2,At0 L),(4,At0 (L+1)),(5,At0 (L+2)),(6,At0 (L+3)),(7,.slice ps (p.threads.map fun l=>(zu V l).length).length cs),(13,At0 Q)],[]⟩,fun _ Z=>MxS w.heap.size Z L bP (p.threads.map fun l=>(zu V l).length) ps cs ts pT cT/\Z.heap[Q]?=some (.cells #[.slice none 0 0] 81 (0,0))/\Z.heap.size=Q+1/\Bw w Z,?_,?_⟩
 ·refine⟨(),⟨.cons rfl (.cons rfl (.cons rfl (.cons rfl (.cons rfl (.cons (by rw [hQ];rfl) .nil))))),rfl⟩,hS.below ((zba X _)),by rw [hQ];exact zy X _,by rw [hQ];exact wz _ _,hbX.alloc hbX.size _⟩
 have hQw:w.heap.size+4<=Q:=by have:=hlt hS.f3;omega
 clear hS hbX hQ;clear X;rintro _ X ⟨hS,fQ,sX,hbX⟩;obtain⟨Ts,hTs⟩:=nm (p.threads.map (zu V));have hTl:Ts.length=p.threads.length:=by rw [hTs,QN]
 have htl:ts.length=p.threads.length:=by have:=Gj List.length hz;simpa using this
 have hsz:(p.threads.map fun l=>(zu V l).length)=Ts.map List.length:=by rw [hTs,UH];rfl
 rw [hsz] at hS ⊢;rw [<- hTs] at hz;have hsl1:(Ts.map List.length).length<=1000:=by rw [QN];omega
 have hsl2:∀ n∈Ts.map List.length,n<=1000000:=fun n hn=>by
  rw [hTs,UH] at hn;obtain⟨l,hl,rfl⟩:=UJ.1 hn;have:=hle l hl;show ((qb l V).map zaa).length<=_;rw [QN];omega
 have hmemT:∀ z∈ts,∀ x∈z.1,PathB p.init.length x.1:=fun z hz' x hx=>by
  have h1:z.1.map (·.1)∈Ts:=by rw [<- hz];exact UJ.2 ⟨z,hz',rfl⟩
  rw [hTs] at h1;obtain⟨l,hl,he⟩:=UJ.1 h1;exact hpb l hl x.1 (by rw [he];exact UJ.2 ⟨x,hx,rfl⟩)
 refine cmo zn9 ?_;rintro e V1 ⟨rfl,fo,sV1,hbV1⟩;have hI:=zqR fo (hS.own.row.below hbV1) (fun a ha=>by have:=(zq hS.own ha).2.1;omega) hsl1 hsl2;have hS1:=hS.below hbV1;have hb1:Bw w V1:=zst hbX hbV1;have hG0:Gath zgY 87 81 Q V1.heap.size Q V1 (NInM w.heap.size) [] (fun k=>k=Q\/k=L+1\/k=L+2) V1 :=
  ⟨UW _,.inl rfl,fun k hk=>by have:=hlt hS1.f3;omega,⟨none,0,zb hbV1 fQ,OwnS.nil,fun a h=>by cases h⟩,fun x hx=>(by cases hx),Gb _ _⟩
 obtain⟨f,hf⟩:∃ f:List Nat->Option MixD,f=fun ds=>zcR p.init (qt Ts ds):=⟨_,rfl⟩;have hmix:zL p V=(z7 (Ts.map List.length)).filterMap f:=by rw [hf,hTs];rfl
 have hIter:=Gath.iter (σ:=List (List Nat)) (E:=zgY) (T:=87) (TS:=81) (B:=Q) (n0:=V1.heap.size) (L:=Q) (W:=V1) (NIn:=NInM w.heap.size) (f:=fun pre (ms:List MixX)=>ms.map (·.m)=pre.filterMap f/\ms.length<=pre.length/\∀ ds∈pre,(f ds).isSome=true) (zhu _) (by omega);have hOkI:∀ h:(∀ ds∈z7 (Ts.map List.length),(f ds).isSome=true),zcD p V:=fun h=>⟨hle,hall,by rw [hf,hTs] at h;exact h⟩;have hOkE:zcD p V->∀ ds∈z7 (Ts.map List.length),(f ds).isSome=true:=fun h=>by rw [hf,hTs];exact h.2.2
 have hQL:L+2<Q:=by omega
 have h1Q:=hS1.f1;have h2Q:=hS1.f2;refine zcL (zbe _) rfl (lb := #[At0 X.heap.size]) rfl rfl hI (UW _) (fun k hk=>⟨?_,rfl⟩) (fun pre vs W ⟨l,q,_,h,_⟩=>by rw [h];rfl) (by decide)
  (fun k=>k=Q\/k=L+1\/k=L+2) (fun pre F Y=>(F (L+1)/\F (L+2))/\∃ ms,(ms.map (·.m)=pre.filterMap f/\ms.length<=pre.length/\∀ ds∈pre,(f ds).isSome=true)/\Gath zgY 87 81 Q V1.heap.size Q V1 (NInM w.heap.size) ms F Y)
  (fun ex pre F Y=>(∀ k,F k->k<Y.heap.size)/\V1.heap.size<=Y.heap.size/\ex = .ret/\¬ zcD p V/\Y.heap[L+1]?=some (.cells #[.slice none 0 0] 81 (0,0))/\Y.heap[L+2]?=some (.cells #[.bool false] 4 (0,0))/\Bw w Y) (fun k hk=>?_) ⟨fun s F A C ⟨h1,h2⟩ hs=>⟨h1,hIter.step s F A C h2 hs⟩,fun s F A k ⟨_,h2⟩ hk=>hIter.lt s F A k h2 hk⟩
  (fun ex=>⟨fun pre F A C ⟨g1,g2,g3,g4,g5,g6,g7⟩ hs=>⟨fun k hk=>nL (g1 k hk) hs.size,UM g2 hs.size,g3,g4,(hs.same _ (hlt g5) (.inl ⟨by omega,fun h=>h⟩)).trans g5,(hs.same _ (hlt g6) (.inl ⟨by omega,fun h=>h⟩)).trans g6,g7.trans ⟨hs.os,hs.tape,hs.output,hs.size,fun k hk=>hs.same k (by have:=g7.size;omega) (.inl ⟨by have:=hb1.size;omega,fun h=>h⟩)⟩⟩,fun pre F A k ⟨g1,_⟩ hk=>⟨g1 k hk,fun h=>h⟩⟩) ⟨⟨.inr (.inl rfl),.inr (.inr rfl)⟩,[],⟨rfl,UZ _,fun ds h=>by cases h⟩,hG0⟩ ?_ ?_ ?_
 ·rcases hk with (rfl | ⟨a,ha,rfl⟩) | h
  ·omega
  ·have:=(zq hS.own ha).2.1;omega
  ·exact h.elim
 ·rcases hk with rfl | ⟨a,ha,rfl⟩
  ·omega
  ·obtain⟨_,_,cur,hc⟩:=zq hS.own ha;rintro (e | e | e)
   ·rw [e,fQ] at hc;simp at hc
   ·rw [e,hS.f1] at hc;simp at hc
   ·rw [e,hS.f2] at hc;simp at hc
 ·rintro yl pre ds vs F Y hyl hpre hJ0 ⟨l,qd,hlast,rfl,hsl,hcel⟩ hfy ⟨lo,hlo⟩;have hdx:ds=l:=by simpa using hlast
  subst hdx;refine⟨rfl,F,KeepsG.refl _ _,hJ0,?_⟩;rintro O Y2 hY2 ⟨hFL,ms,⟨hms,hml,hsm⟩,hG2⟩;have hslY:SlR zw Y2 qd ds:=by
   rw [hY2];refine qV hsl fun a ha=>zg fun e=>?_;obtain⟨cur,hcur⟩:=hcel a ha;rw [e,hlo] at hcur
   cases hcur
  obtain⟨hdl,hdlt⟩:=zaE (hpre.subset (JO _ (KB.2 rfl)));have hdm:ds∈z7 (Ts.map List.length):=hpre.subset (JO _ (KB.2 rfl));rw [QN] at hdl;have hY2s:=hG2.size;have old:∀ {k:Nat} {ob:Obj},k<Q->V1.heap[k]?=some ob->Y2.heap[k]?=some ob:=fun {k ob} hk h=>(hG2.old.block k hk).trans h;have g0:=old (by omega) hS1.f0;have g3:=old (by omega) hS1.f3;have kR:∀ {α:Type} {E:Enc α} {T cc:Nat} {r:OA} {ll:List α},T≠81->OwnS E T w.heap.size X r cc ll->OwnS E T w.heap.size Y2 r cc ll:=fun {α E T cc r ll} hT h=>h.same fun a ha=>by
   have hq:a.block≠Q:=fun e=>by
    obtain⟨_,_,cur,hc⟩:=zq h ha;rw [e,fQ] at hc;simp at hc;exact hT hc.2.symm
   have:=(zq h ha).2.1;exact (hG2.old.block _ (by omega)).trans (hbV1.block _ this)
  have rkY:=kR (by decide) hS.rk;have n1Y:=fun z hz=>kR (by decide) (hS.n1 z hz);have n2Y:∀ z∈ts,∀ x∈z.1,PthO w.heap.size Y2 x:=fun z hz x hx=>(hS.n2 z hz x hx).same fun {α E T c q l} ht ho=>kR (by rcases ht with rfl | rfl <;> decide) ho;have fPY:Y2.heap[bP]?=some (.cells pc.toArray 29 (0,0)):=old (by omega) ((hb1.block bP hbP).trans fP);have hbwY:Bw w Y2:=hb1.trans (hG2.old.mono (by omega));refine⟨Nat×List zc2×OA×Nat,fun s=>⟨[(2,At0 L),(4,At0 (L+1)),(5,At0 (L+2)),(6,At0 (L+3)),(13,At0 Q),(15,.slice s.2.2.1 s.2.1.length s.2.2.2),(58,.slice qd ds.length ds.length),(59,i64 ds.length),(60,i64 (s.1:Nat))],[]⟩,
   fun s Z=>s.1<=ds.length/\OwnS jH 73 Y2.heap.size Z s.2.2.1 s.2.2.2 s.2.1/\s.2.1.map (·.1)=qt (Ts.take s.1) (ds.take s.1)/\s.2.1.length=s.1/\(∀ x∈s.2.1,∃ z∈ts,x∈z.1)/\Bw Y2 Z,fun s=>ds.length-s.1,(0,[],none,0),
   (cvE rfl rfl),⟨UZ _,OwnS.nil,by simp [qt],rfl,fun x hx=>(by cases hx),Gb _ _⟩,?_⟩
  rintro⟨k,Cs,pC,cC⟩ Z ⟨hk,oC,hCs,hCl,hCm,hbZ⟩;dsimp only at hk oC hCs hCl hCm ⊢;have hZs:=hbZ.size;refine biE (fun hc=>?_) fun hc=>?_
  ·have hc:(k:Int)<(ds.length:Int):=dT hc;have hkl:k<ds.length:=by omega
   have hkt:k<ts.length:=by omega
   obtain⟨z,hzk⟩:∃ z,ts[k]=z:=⟨_,rfl⟩;have hzm:z∈ts:=by rw [<- hzk];exact gM hkt
   have hkT:k<Ts.length:=by omega
   have hzT:Ts[k]=z.1.map (·.1):=by
    have h1:Ts[k]?=some (z.1.map (·.1)):=(by rw [<- hz,KV,gE hkt,hzk];rfl);rw [gE hkT] at h1;exact Uf h1
   obtain⟨d,hd⟩:∃ d,ds[k]=d:=⟨_,rfl⟩;have hdz:d<z.1.length:=by
    have:=hdlt k (Ts[k].length) d (by rw [KV,gE hkT];rfl) (by rw [gE hkl,hd]);rw [hzT,QN] at this;exact this
   obtain⟨x,hx⟩:∃ x,z.1[d]=x:=⟨_,rfl⟩;have hxm:x∈z.1:=by rw [<- hx];exact gM hdz
   have hpick:qt (Ts.take (k+1)) (ds.take (k+1))=qt (Ts.take k) (ds.take k)++[x.1]:=by
    rw [tsg hkT,tsg hkl,hd,hzT,zdD _ _ _ _ (by rw [Qv,Qv];omega),KV,gE hdz,hx];rfl
   obtain⟨bD,oD,hpD,hlD,hatD⟩:=(hslY.below hbZ).at hkl;obtain⟨bT,oT,hpT,hlT,hatT⟩:=(rkY.below hbZ).row.at hkt;obtain⟨bz,oz,hpz,hlz,hatz⟩:=((n1Y z hzm).below hbZ).row.at hdz;subst hpD;subst hpT;refine⟨k,rfl,hkl,?_⟩;refine⟨i64 d,by have:=zc (hatD k hkl) (i:=0) (v:=i64 d) (by rw [hd];rfl);exact this,?_⟩;refine⟨_,zc (za (zb hbZ g3)) (i:=0) rfl,?_⟩;refine⟨k,rfl,hkt,?_⟩;refine⟨.slice z.2.1 z.1.length z.2.2,by have:=zc (hatT k hkt) (i:=0) (v := .slice z.2.1 z.1.length z.2.2) (by rw [hzk];rfl);exact this,?_⟩;rw [hpz];refine⟨d,rfl,hdz,?_⟩;refine⟨jH.enc x,jH.len x,by rw [<- hx];exact hatz d hdz,hlz,?_⟩;refine⟨⟨by decide,by decide,rfl⟩,jH.enc x,za4 (jH.len x) rfl,?_⟩;have hb2:Bw Z (Z.alloc (.cells (jH.enc x).toArray 73)):=zba _ _;have sb2:=hb2.size;unfold zdE zam;show SatR _ _;refine zs3 (oC.below hb2) (qN jH x) (by omega) (by omega) fun p' c' U oU gU hat1=>?_;refine nxI (by omega) ?_;refine⟨(k+1,Cs++[x],p',c'),(cvE rfl rfl),⟨hkl,oU,by rw [QR,hCs,hpick];rfl,by rw [lap,hCl];rfl,fun y hy=>?_,hbZ.trans ((hb2.mono hZs).trans (jk (oC.below hb2) (by omega) (UW _) gU))⟩,zdc (by omega)⟩;rcases QS.1 hy with hy | hy
   ·exact hCm y hy
   ·rw [KB.1 hy];exact⟨z,hzm,hxm⟩
  have hc:¬ (k:Int)<(ds.length:Int):=dF hc;obtain rfl:k=ds.length:=by omega
  rw [Qx,JH (by omega)] at hCs;obtain⟨q1,y1,q2,y2,q3,y3,q4,y4,hvs,_⟩:=hP0.v.h;have hpc1:pc[1]?=some (.slice q1 p.init.length y1):=by rw [hvs,<- hil];rfl
  have hZw:w.heap.size<=Z.heap.size:=by have:=hbwY.size;omega
  refine⟨_,zc (za (zb hbZ g0)) (i:=0) rfl,?_⟩;refine cmo (zll (zb hbZ fPY) hpc1 h2 ((hinit.below (((zst hbwY hbZ)).mono hB)).slr (by omega)) hi6 oC.row (fun x hx=>?_) (fun x hx=>?_) (by omega)) ?_
  ·obtain⟨z,hz1,hx1⟩:=hCm x hx;obtain⟨o1,o2,o3,o4⟩:=n2Y z hz1 x hx1;refine⟨fun a ha=>?_,(o1.below hbZ).row,(o2.below hbZ).row,(o3.below hbZ).row,(o4.below hbZ).row⟩;rcases ha with ha | ha | ha
   ·exact (zq (o2.below hbZ) ha).2.1
   ·exact (zq (o3.below hbZ) ha).2.1
   ·exact (zq (o4.below hbZ) ha).2.1
  ·obtain⟨z,hz1,hx1⟩:=hCm x hx;exact hmemT z hz1 x hx1
  rintro e U ⟨⟨vs,hres⟩,hbU⟩;have hfd0:f ds=zcR p.init (Cs.map (·.1)):=by rw [hf,hCs]
  cases hmx:zcR p.init (Cs.map (·.1)) with
  | none =>
   rw [hmx] at hres hfd0;obtain⟨rfl,hvz⟩:=hres;have hvl:vs.length=336:=by rw [hvz];exact jz
   have hv1:vs.all Value.oneCell'=true:=by rw [hvz];kernel_rfl
   have hUs:=hbU.size;refine zn (X:=U) (v := .agg vs.toArray) k87 hvl jz hv1 fun V' hbV fV sV=>?_;refine brT ?_;have hbY2V:Bw Y2 V':=(hbZ.trans (hbU.mono hZs)).trans (hbV.mono (by omega));have hV2:=hbY2V.size;have g1:V'.heap[L+1]?=_:=zb hbY2V (old (by omega) hS1.f1);have g2:V'.heap[L+2]?=_:=zb hbY2V (old (by omega) hS1.f2);refine zk k81 g1 (o:=0) (v := .slice none 0 0) rfl rfl (by show 0<1;decide) rfl fun Z1 fZ1 gZ1 sZ1=>?_;refine zk k4 ((gZ1.block (L+2) (hlt g2) (by simp)).trans g2) (o:=0) (v := .bool false) rfl rfl (by show 0<1;decide) rfl fun Z2 fZ2 gZ2 sZ2=>?_;have hFlt:=hG2.lt;have b2:Bw w Z2:=(((zst hbwY hbY2V)).trans (zi gZ1 (by have:=hbwY.size;omega) (by omega))).trans (zi gZ2 (by have:=hbwY.size;omega) (by omega));refine⟨F,⟨fun k hk=>by have:=hFlt k hk;omega,by omega,rfl,fun h=>?_,(gZ2.block (L+1) (hlt fZ1) (by simp)).trans fZ1,fZ2,b2⟩,(((KeepsG.below hbY2V fun k h => .inl h):KeepsG F F Y2 V').trans (KeepsG.grown (F:=F) gZ1 hFL.1)).trans (KeepsG.grown (F:=F) gZ2 hFL.2)⟩;have:=hOkE h ds hdm;rw [hfd0] at this
   cases this
  | some mx =>
  rw [hmx] at hres;have hfd:f ds=some mx:=by rw [hfd0,hmx]
  obtain⟨rfl,x1,x2,x3,x4,y1,y2,y3,y4,xs',ys',hvs',m1,m2,m3,m4,m5,m6,m7,m8⟩:=hres;obtain⟨nx,hnx⟩:∃ nx:MixX,nx=⟨mx,x1,y1,x2,y2,x3,y3,x4,y4,xs',ys'⟩:=⟨_,rfl⟩;have hen:vs=zgY.enc nx:=by rw [hvs',hnx];rfl
  have hvl:vs.length=336:=by rw [hen];exact zgY.len nx
  have hv1:vs.all Value.oneCell'=true:=by rw [hen];exact zjE nx
  have hUs:=hbU.size;refine zn (X:=U) (v := .agg vs.toArray) k87 hvl jz hv1 fun V' hbV fV sV=>?_;have fV:V'.heap[U.heap.size]?=some (.cells vs.toArray 87 (0,0)):=fV;refine brF ?_;have hbY2V:Bw Y2 V':=(hbZ.trans (hbU.mono hZs)).trans (hbV.mono (by omega));obtain⟨pr,cr,h4,h5,h6⟩:=hG2.row;refine⟨_,zc (za (zb hbY2V h4)) (i:=0) rfl,?_⟩;refine⟨vs,hvl,za fV,hlt fV,?_⟩;refine⟨⟨by decide,by decide,jz⟩,zgY.enc nx,by rw [<- hen];exact za4 hvl jz,?_⟩;have hpl:pre.length<1000000000:=by
   obtain⟨t,ht⟩:=hpre;have h7:(pre++[ds]++t).length=zS (Ts.map List.length).reverse:=by
    rw [ht];unfold z7;rw [QN,KW]
   have h8:zS (Ts.map List.length).reverse<=4096:=by
    have h9:=hall p.threads.length (UW _);rw [Qx,hsz] at h9;rw [zc6];exact h9
   simp only [lap,Qt] at h7;omega
  have hnw:∀ (G:Nat->Prop) (S:Wd),(∀ k,Y2.heap.size<=k->k<V'.heap.size->S.heap[k]?=V'.heap[k]?)->(∀ k,Y2.heap.size<=k->k<V'.heap.size->G k)->NInM w.heap.size G S nx:=by
   intro G S hs hg;have kp:∀ {α:Type} {E:Enc α} {T cc:Nat} {r:OA} {ll:List α},OwnS E T Z.heap.size U r cc ll->RowIn E T w.heap.size G S r cc ll:=fun {α E T cc r ll} h=>by
    have ol:∀ a,r=some a->Y2.heap.size<=a.block/\a.block<V'.heap.size:=fun a ha=>⟨by have:=(zq h ha).1;omega,by have:=(zq h ha).2.1;omega⟩;exact⟨OwnS.lower ((h.below hbV).same fun a ha=>hs _ (ol a ha).1 (ol a ha).2) hZw,fun a ha=>hg _ (ol a ha).1 (ol a ha).2⟩
   rw [hnx];exact⟨m3,m6,kp m1,kp m2,kp m4,fun y hy=>kp (m5 y hy),kp m7,fun y hy=>kp (m8 y hy)⟩
  obtain⟨v,Y5,hrun,S,hrun2,F',hG',hK',hFF'⟩:=hG2.step (P:=PG) (ty:=81) (cap1:=1) (zhu _) (by decide) Tryz.underlying81 k87 rfl rfl (by show _=336;exact jz) k81 rfl (by omega) (UW _) hbY2V nx (by omega) (by show (ms.length+1)*2488<=_;omega) hnw pr cr h4;unfold zdE zam;refine SatR.mk hrun ?_;refine SatR.mk hrun2 ?_;refine⟨F',⟨⟨hFF' _ hFL.1,hFF' _ hFL.2⟩,_,⟨?_,by rw [lap,lap];show ms.length+1<=pre.length+1;omega,fun d hd=>?_⟩,hG'⟩,hK'⟩
  case refine_2 =>
   rcases QS.1 hd with h | h
   ·exact hsm d h
   ·rw [KB.1 h,hfd];rfl
  rw [QR,List.filterMap_append,hms];show _++[nx.m]=_++List.filterMap f [ds];rw [show List.filterMap f [ds]=[mx] by rw [List.filterMap_cons,hfd];rfl,hnx]
 ·rintro D F Y hD hfD ⟨hFL,ms,⟨hms,hml,hsm⟩,hG⟩ hdef;obtain⟨pr,cr,h4,h5,h6⟩:=hG.row;have hYs:=hG.size;have old:∀ {k:Nat} {ob:Obj},k<Q->V1.heap[k]?=some ob->Y.heap[k]?=some ob:=fun {k ob} hk h=>(hG.old.block k hk).trans h;have g1:=old (by omega) hS1.f1;have g2:=old (by omega) hS1.f2;refine⟨_,zc (za h4) (i:=0) rfl,?_⟩;refine zk k81 g1 (o:=0) (v := .slice pr ms.length cr) rfl rfl (by show 0<1;decide) rfl fun Z1 fZ1 gZ1 sZ1=>?_;refine zk k4 ((gZ1.block (L+2) (hlt g2) (by simp)).trans g2) (o:=0) (v := .bool true) rfl rfl (by show 0<1;decide) rfl fun Z2 fZ2 gZ2 sZ2=>?_;have k2:∀ k,k<Y.heap.size->k≠L+1->k≠L+2->Z2.heap[k]?=Y.heap[k]?:=fun k hk n1 n2=>(gZ2.block k (by rw [sZ1];exact hk) (by simpa using n2)).trans (gZ1.block k hk (by simpa using n1));refine⟨_,rfl,(k2 D (hlt hdef) (by omega) (by omega)).trans hdef,?_⟩;have f2':=(gZ2.block (L+1) (hlt fZ1) (by simp)).trans fZ1;have kp:∀ a:Addr,a.block≠L+1->a.block≠L+2->F a.block->a.block<Y.heap.size->(Z2.putObj D (.deferred none)).heap[a.block]?=Y.heap[a.block]?:=fun a n1 n2 h2 h3=>(zg fun e=>by rw [<- e] at hfD;exact hfD h2).trans (k2 _ h3 n1 n2);have hwY:=hb1.trans (hG.old.mono (by omega));have b2:=(hwY.trans (zi gZ1 hwY.size (by omega))).trans (zi gZ2 (by have:=hwY.size;omega) (by omega));have ne:∀ {α:Type} {E:Enc α} {T B' cc:Nat} {r:OA} {ll:List α},T≠81->T≠4->OwnS E T B' Y r cc ll->∀ a,r=some a->a.block≠L+1/\a.block≠L+2:=fun {α E T B' cc r ll} t1 t2 h a ha=>by
   obtain⟨_,_,cur,hc⟩:=zq h ha;refine⟨fun e=>?_,fun e=>?_⟩
   ·rw [e,g1] at hc;simp at hc;exact t1 hc.2.symm
   ·rw [e,g2] at hc;simp at hc;exact t2 hc.2.symm
  refine⟨.slice pr ms.length cr,zc (za ((zg (by omega)).trans f2')) (i:=0) rfl,.bool true,zc (za ((zg (by omega)).trans fZ2)) (i:=0) rfl,.inl ⟨hOkI hsm,ms,pr,cr,rfl,by rw [hms,hmix],?_,fun x hx=>?_⟩,qQ b2 (by omega) _⟩
  ·exact OwnS.lower (h5.same fun a ha=>kp a (ne (by decide) (by decide) h5 a ha).1 (ne (by decide) (by decide) h5 a ha).2 (h6 a ha) (zq h5 ha).2.1) (by omega)
  ·exact (hG.nest x hx).same fun {α E T c q l} t1 t2 t3 hr=>⟨hr.own.same fun a ha=>kp a (ne t2 t3 hr.own a ha).1 (ne t2 t3 hr.own a ha).2 (hr.inF a ha) (zq hr.own ha).2.1,fun a ha=>(zq hr.own ha).1⟩
 ·rintro D ex pre F Y hD hfD hpre ⟨g1,g2,rfl,g4,g5,g6,g7⟩ hdef;refine⟨_,rfl,hdef,?_⟩;refine⟨.slice none 0 0,zc (za ((zg (by have:=hlt hS1.f3;omega)).trans g5)) (i:=0) rfl,.bool false,zc (za ((zg (by have:=hlt hS1.f3;omega)).trans g6)) (i:=0) rfl,.inr ⟨g4,rfl⟩,qQ g7 (by have:=hb1.size;omega) _⟩
end
def qc (m:MixD):List ExD:=if qG m 1=0 then [] else zcx m
abbrev zR (p:Prg) (V:List UInt8):List ExD:=(zL p V).flatMap qc
def zaH (p:Prg) (V:List UInt8) (most:Nat):Prop:=zbA p=some V/\zcD p V/\((zL p V).map fun m=>qG m 20001).sum<=most
structure MixC (m:MixD):Prop where
 rl:m.rs.length<=48
 wl:m.wr.length<=6
 rs:∀ r∈m.rs,r.1<48/\r.2.length<=1000/\∀ s∈r.2,s<48
 wr:∀ w∈m.wr,w.length<=48
structure CandB (p:Prg) (V:List UInt8):Prop where
 pb:∀ l∈p.threads,∀ P∈zu V l,PathB p.init.length P
 ml:zcD p V->(zL p V).length<=5000
 mc:zcD p V->∀ m∈zL p V,MixC m
 mb:zcD p V->((zL p V).map fun m=>qG m 20001).sum<=20000->∀ m∈zL p V,qG m 1≠0->MixB m
 len:zcD p V->((zL p V).map fun m=>qG m 20001).sum<=20000->(zR p V).length<=30000
theorem zj5 {lim:Nat}:∀ (fs:List (List Nat)) (n:Nat),n<=lim->∀ k,zes lim fs n=some k->k<=lim
 | [],n,h,k,e=>by cases e;exact h
 | f::fs,n,h,k,e=>by
  unfold zes at e
  split at e
  ·cases e
  ·exact zj5 fs _ (QC ..) k e
theorem zj6 {lim len:Nat}:∀ (m k n:Nat),n<=lim->zft lim len m k n<=lim
 | 0,k,n,h=>h
 | m+1,k,n,h=>by
  unfold zft
  split
  ·exact zj6 m _ _ (QC ..)
  ·exact h
theorem zj4 {lim:Nat}:∀ (ws:List (List Nat)) (n:Nat),n<=lim->zfs lim ws n<=lim
 | [],n,h=>h
 | w::ws,n,h=>zj4 ws _ (zj6 _ _ _ h)
theorem zoR {lim:Nat} (m:MixD) (h:1<=lim):qG m lim<=lim:=by
 unfold qG
 split
 ·exact UZ _
 ·rename_i n e;exact zj4 _ _ (zj5 _ _ h _ e)
theorem ziY (ths:List (List InsD)):∀ (n:Nat) (vals V:List UInt8),1<=vals.length/\qO vals=vals->zdW ths n vals=some V->1<=V.length/\qO V=V
 | 0,vals,V,h,e=>by cases e
 | n+1,vals,V,h,e=>by
  unfold zdW at e
  split at e
  ·cases e
  ·split at e
   ·cases e
   ·split at e
    ·cases e;exact h
    ·refine ziY ths n _ V ⟨?_,zct _⟩ e;have:=zhC ths h.2;show 1<=(zaC ths vals).length;omega
theorem zks {p:Prg} {V:List UInt8} (hO:OkG p) (h:zbA p=some V):1<=V.length/\qO V=V :=
 ziY _ _ _ _ ⟨zhG hO.i1,zct _⟩ h
theorem znK {l:List Nat} (k:Nat):(l.take k).sum<=l.sum:=by
 have:l.sum=(l.take k).sum+(l.drop k).sum:=by rw [<- List.sum_append,JQ]
 omega
theorem zqv {m:MixD} {xs ys:List zar} {lim:Nat} (h1:xs.map (·.1)=m.rs.map (·.2)) (h2:ys.map (·.1)=m.wr):zoS lim (xs.map (·.1)) (ys.map (·.1))=qG m lim:=by
 rw [h1,h2];rfl
section
variable {w:Wd} {B most:Nat} {pc:List Value} {p:Prg}
theorem zcg (hB:B<=w.heap.size) (hP:PrgX B w pc p) (hG:GlobE w) (hok:zbu p=true) (hm20:most<=20000) (hCB:∀ V,qO V=V->CandB p V) :
  Calls PG 11 #[.agg pc.toArray,i64 most] w fun e w'=>((∃ V,zaH p V most/\∃ (xs:List zbX) (q:OA) (c:Nat),e = .returned (.tuple #[.slice q xs.length c,i64 0])/\xs.map (·.1)=zR p V/\OwnS exE 55 w.heap.size w' q c xs/\∀ x∈xs,OwnS evE 60 w.heap.size w' x.2.1 x.2.2 x.1.ev)\/((∀ V,¬ zaH p V most)/\e = .returned (.tuple #[.slice none 0 0,i64 5])))/\Bw w w':=by
 have hO:=zcn hok;refine jf 74 [.agg pc.toArray,i64 most] (.c .p (.s .p (.s .p (.s .p (.c .p (.s .p (.s .p (.c .p (.c .p (.c .p .p)))))))))) Tryz.func11 ?_;obtain⟨L,hL⟩:=nm (w.heap.size);have hpc:=hP.v.size;refine⟨Unit,fun _=>⟨[(1,i64 most),(2,At0 L)],[]⟩,fun _ X=>X.heap[L]?=some (.cells pc.toArray 29 (0,0))/\L<X.heap.size/\Bw w X,⟨(),⟨.cons rfl (.cons (by rw [hL];rfl) .nil),rfl⟩,by rw [hL];exact zy w _,by rw [hL];exact hlt (zy w _),(zba w _)⟩,?_⟩;rintro _ X ⟨f0,sX,hbX⟩;refine brN (Uh (by omega)) (brN (Uh (by omega)) ⟨pc,hpc,za f0,hlt f0,cmo (ziP (UM hB hbX.size) (hP.v.below (hbX.mono hB)) (hG.c.below hbX)) ?_⟩);rintro e Y ⟨m,rfl,hm,hbY⟩;have hm0:m=0:=hm.2 hok;subst hm0;refine brF ?_;have hwY:=zst hbX hbY;have f0:=zb hbY f0;refine⟨pc,hpc,za f0,hlt f0,cmo (znp (UM hB hwY.size) (hP.below (hwY.mono hB)) (hG.below hwY) hok) ?_⟩;rintro e Z ⟨(⟨V,qv,cv,hval,rfl,oV⟩ | ⟨hval,rfl⟩),hbZ⟩
 case inr =>
  refine brT ⟨.inr ⟨fun V h=>?_,rfl⟩,(zst hwY hbZ)⟩;have:=h.1;rw [hval] at this
  cases this
 refine brF ?_;obtain⟨hv1,hVd⟩:=zks hO hval;have hQ:=hCB V hVd;have uniq:∀ V',zaH p V' most->V'=V:=fun V' h=>by
  have:=h.1;rw [hval] at this;exact (Uf this).symm
 have hwZ:=zst hwY hbZ;have f0:=zb hbZ f0;clear hbX hbY hwY;obtain⟨V0,hV0⟩:=nm (V);refine⟨Bool×List MixX×OA×Nat,fun s=>⟨[(1,i64 most),(8,.slice s.2.2.1 s.2.1.length s.2.2.2),(9,.bool s.1)],[]⟩,fun s U=>((s.1=true/\zcD p V/\s.2.1.map (·.m)=zL p V/\OwnS zgY 87 w.heap.size U s.2.2.1 s.2.2.2 s.2.1/\∀ x∈s.2.1,NInM w.heap.size (fun k=>w.heap.size<=k) U x)\/(s.1=false/\¬ zcD p V))/\Bw w U,?_,?_⟩
 ·refine cmo (zof f0 (UM hB hwZ.size) (hP.below (hwZ.mono hB)) hO (hG.below hwZ) oV.row hv1 hVd hQ.pb) ?_;rintro e U ⟨(⟨hmo,ms,q,c,rfl,hms,oM,nM⟩ | ⟨hmo,rfl⟩),hbU⟩
  case inr=>exact⟨(false,[],none,0),(cvE rfl rfl),.inr ⟨rfl,hmo⟩,(zst hwZ hbU)⟩
  exact⟨(true,ms,q,c),(cvE rfl rfl),.inl ⟨rfl,hmo,hms,oM.lower hwZ.size,fun x hx=>(nM x hx).lower hwZ.size⟩,(zst hwZ hbU)⟩
 clear oV hbZ hwZ f0;rintro⟨ok,ms,q,c⟩ X ⟨hor,hbX⟩;dsimp only at hor ⊢;rcases hor with ⟨rfl,hmo,hms,oM,nM⟩ | ⟨rfl,hmo⟩
 case inr =>
  exact brT ⟨.inr ⟨fun V' h=>hmo (by rw [<- uniq V' h];exact h.2.1),rfl⟩,hbX⟩
 refine brF ?_;have hml:ms.length<=5000:=by have:=hQ.ml hmo;rw [<- hms,QN] at this;exact this
 have hmc:∀ x∈ms,MixC x.m:=fun x hx=>hQ.mc hmo x.m (by rw [<- hms];exact UJ.2 ⟨x,hx,rfl⟩);have hsumE:((zL p V).map fun m=>qG m 20001).sum=(ms.map fun x=>qG x.m 20001).sum:=by
  rw [<- hms,UH];rfl
 have htake:∀ k,((ms.take k).map fun x=>qG x.m 20001).sum<=(ms.map fun x=>qG x.m 20001).sum:=fun k=>by
  have:=znK (l:=ms.map fun x=>qG x.m 20001) k;rw [<- List.map_take] at this;exact this
 obtain⟨tot,htot⟩:=nm ((ms.map fun x=>qG x.m 20001).sum);have cnt:∀ {Z:Wd} {k lim:Nat} (hk:k<ms.length),OwnS zgY 87 w.heap.size Z q c ms->(∀ x∈ms,NInM w.heap.size (fun k=>w.heap.size<=k) Z x)->1<=lim->lim<=100000->∃ b o,q=some ⟨b,o,none⟩/\Calls PG 25 #[.pointer (some ⟨b,o+k*336,none⟩),i64 lim] Z fun e w'=>e = .returned (i64 (qG ms[k].m lim:Nat))/\Z=w':=fun {Z k lim} hk oM nM h1 h2=>by
  obtain⟨b,o,hq,hb,hat⟩:=oM.row.at hk;have hx:=nM ms[k] (gM hk);have hb1:=hmc ms[k] (gM hk);have hxl:ms[k].xs.length=ms[k].m.rs.length:=by have:=Gj List.length hx.e2;simpa using this
  have hyl:ms[k].ys.length=ms[k].m.wr.length:=by have:=Gj List.length hx.e3;simpa using this
  refine⟨b,o,hq,?_⟩;have:=zqm (lim:=lim) (r := .slice ms[k].p1 ms[k].m.rs.length ms[k].c1) (hat k hk) hx.r2.own.row hx.r3.own.row (fun y hy=>?_) (fun y hy=>?_) (by have:=hb1.rl;omega) (by have:=hb1.wl;omega) h1 h2
  ·rw [zqv hx.e2 hx.e3] at this;exact this
  ·have h3:y.1∈ms[k].m.rs.map (·.2):=by rw [<- hx.e2];exact UJ.2 ⟨y,hy,rfl⟩
   obtain⟨r,hr,he⟩:=UJ.1 h3;rw [<- he];exact (hb1.rs r hr).2.1
  ·have h3:y.1∈ms[k].m.wr:=by rw [<- hx.e3];exact UJ.2 ⟨y,hy,rfl⟩
   have:=hb1.wr _ h3;omega
 refine⟨Unit,fun _=>⟨[(8,.slice q ms.length c),(10,i64 tot)],[]⟩,fun _ Z=>tot<=most/\X=Z,?_,?_⟩
 ·refine⟨Nat,fun k=>⟨[(1,i64 most),(8,.slice q ms.length c),(10,i64 (((ms.take k).map fun x=>qG x.m 20001).sum:Nat)),(40,i64 ms.length),(41,i64 (k:Nat))],[]⟩,
   fun k Z=>(k<=ms.length/\((ms.take k).map fun x=>qG x.m 20001).sum<=most)/\X=Z,fun k=>ms.length-k,0,(cvE rfl rfl),⟨⟨UZ _,UZ _⟩,rfl⟩,?_⟩
  rintro k _ ⟨⟨hk,hsk⟩,rfl⟩;dsimp only;refine biE (fun hc=>?_) fun hc=>?_
  ·have hc:(k:Int)<(ms.length:Int):=dT hc;have hkl:k<ms.length:=by omega
   obtain⟨b,o,hq,hcall⟩:=cnt (lim:=20001) hkl oM nM (by decide) (by decide);have htk:((ms.take (k+1)).map fun x=>qG x.m 20001).sum=((ms.take k).map fun x=>qG x.m 20001).sum+qG ms[k].m 20001:=by
    rw [tsg hkl,QR,List.sum_append];show _+(qG ms[k].m 20001+0)=_;rw [UL]
   have h1:qG ms[k].m 20001<=20001:=zoR _ (by decide);subst hq;refine⟨k,rfl,hkl,cmo hcall ?_⟩;rintro e _ ⟨rfl,rfl⟩;refine⟨((((ms.take (k+1)).map fun x=>qG x.m 20001).sum:Nat):Int),?_,?_⟩
   ·rw [htk,Int.natCast_add];exact ze (by omega)
   refine biE (fun hbig=>?_) fun hbig=>?_
   ·have hbig:(most:Int)<((((ms.take (k+1)).map fun x=>qG x.m 20001).sum:Nat):Int):=dT hbig;refine⟨.inr ⟨fun V' h=>?_,rfl⟩,hbX⟩;have h2:=uniq V' h;subst h2;have h3:=h.2.2;rw [hsumE] at h3;have:=htake (k+1);omega
   have hbig:¬ (most:Int)<((((ms.take (k+1)).map fun x=>qG x.m 20001).sum:Nat):Int):=dF hbig;exact nxI (by omega) ⟨k+1,(cvE rfl rfl),⟨⟨hkl,by omega⟩,rfl⟩,zdc (by omega)⟩
  ·have hc:¬ (k:Int)<(ms.length:Int):=dF hc;obtain rfl:k=ms.length:=by omega
   rw [Qx,<- htot] at hsk ⊢;exact⟨(),(cvE rfl rfl),hsk,rfl⟩
 rintro _ _ ⟨htm,rfl⟩;have hCO:zaH p V most:=⟨hval,hmo,by rw [hsumE,<- htot];exact htm⟩;have hsm:((zL p V).map fun m=>qG m 20001).sum<=20000:=UM hCO.2.2 hm20;have hXs:=hbX.size;refine⟨OA×Nat,fun s=>⟨[(8,.slice q ms.length c),(12,.slice s.1 0 s.2)],[]⟩,fun s Z=>OwnS exE 55 X.heap.size Z s.1 s.2 []/\Bw X Z,?_,?_⟩
 ·exact zcS (E:=exE) Tryz.underlying30 k55 rfl (by show _=333;exact zX) rfl tot (by show 2416*tot<=_;omega) (by unfold maxLen;omega) fun Z oZ hbZ sZ=>⟨(some ⟨X.heap.size,0,none⟩,tot),(cvE rfl rfl),oZ,hbZ⟩
 rintro⟨p0,c0⟩ Y ⟨oY,hbY⟩;dsimp only at oY ⊢;refine⟨List zbX×OA×Nat,fun s=>⟨[(12,.slice s.2.1 s.1.length s.2.2)],[]⟩,fun s Z=>s.1.map (·.1)=zR p V/\OwnS exE 55 X.heap.size Z s.2.1 s.2.2 s.1/\(∀ x∈s.1,OwnS evE 60 X.heap.size Z x.2.1 x.2.2 x.1.ev)/\Bw X Z,?_,?_⟩
 ·refine⟨Nat×List zbX×OA×Nat,fun s=>⟨[(8,.slice q ms.length c),(12,.slice s.2.2.1 s.2.1.length s.2.2.2),(57,i64 ms.length),(58,i64 (s.1:Nat))],[]⟩,
   fun s Z=>s.1<=ms.length/\s.2.1.map (·.1)=(ms.take s.1).flatMap (fun x=>qc x.m)/\OwnS exE 55 X.heap.size Z s.2.2.1 s.2.2.2 s.2.1/\(∀ x∈s.2.1,OwnS evE 60 X.heap.size Z x.2.1 x.2.2 x.1.ev)/\Bw X Z,fun s=>ms.length-s.1,(0,[],p0,c0),
   (cvE rfl rfl),⟨UZ _,rfl,oY,fun x hx=>(by cases hx),hbY⟩,?_⟩
  clear oY hbY;rintro⟨k,outs,po,co⟩ Z ⟨hk,hou,oZ,nZ,hbZ⟩;dsimp only at hk hou oZ nZ ⊢;have hZs:=hbZ.size;have oMZ:OwnS zgY 87 w.heap.size Z q c ms:=oM.same fun a ha=>hbZ.block _ (zq oM ha).2.1;have nMZ:∀ x∈ms,NInM w.heap.size (fun k=>w.heap.size<=k) Z x:=fun x hx=>(nM x hx).same fun {α E T c q l} _ _ _ hr=>⟨hr.own.same fun a ha=>hbZ.block _ (zq hr.own ha).2.1,hr.inF⟩;refine biE (fun hc=>?_) fun hc=>?_
  ·have hc:(k:Int)<(ms.length:Int):=dT hc;have hkl:k<ms.length:=by omega
   obtain⟨b,o,hq,hcall⟩:=cnt (lim:=1) hkl oMZ nMZ (by decide) (by decide);obtain⟨x,hx⟩:∃ x,ms[k]=x:=⟨_,rfl⟩;have hxm:x∈ms:=by rw [<- hx];exact gM hkl
   have htk:(ms.take (k+1)).flatMap (fun x=>qc x.m)=(ms.take k).flatMap (fun x=>qc x.m)++qc x.m:=by
    rw [tsg hkl,Kh,hx,KT,Qq,QK]
   rw [hx] at hcall;have hat:zx Z ⟨b,o+k*336,none⟩ (zmZ x):=by
    obtain⟨b',o',hq',_,hat⟩:=oMZ.row.at hkl;rw [hq] at hq';have:=hat k hkl;simp only [Qa,Uu,Gi] at hq';rw [<- hx,hq'.1,hq'.2];exact this
   have hbX2:b<X.heap.size:=(zq oM hq).2.1;subst hq;refine⟨k,rfl,hkl,cmo hcall ?_⟩;rintro e _ ⟨rfl,rfl⟩;refine biE (fun h=>?_) fun h=>?_
   ·have h:qG x.m 1=0:=Uz (dT h);have hc0:qc x.m=[]:=Gp h;rw [hc0,QK] at htk;exact nxI (by omega) ⟨(k+1,outs,po,co),(cvE rfl rfl),⟨hkl,by rw [hou,htk],oZ,nZ,hbZ⟩,zdc (by omega)⟩
   have h:qG x.m 1≠0:=fun e=>(dF h) (by rw [e];rfl);have hc1:qc x.m=zcx x.m:=Gn h;rw [hc1] at htk;refine⟨k,rfl,hkl,cmo zqz ?_⟩;rintro e U ⟨rfl,fU,sU,hbU⟩;have hxM:=nMZ x hxm;have hxB:=hQ.mb hmo hsm x.m (by rw [<- hms];exact UJ.2 ⟨x,hxm,rfl⟩) h;obtain⟨Rd,hRd⟩:∃ Rd:Nat->Prop,Rd=fun k=>k<X.heap.size\/k=Z.heap.size:=⟨_,rfl⟩;have ltX:∀ {α:Type} {E:Enc α} {T cc:Nat} {r:OA} {ll:List α},RowIn E T w.heap.size (fun k=>w.heap.size<=k) X r cc ll->∀ a,r=some a->Rd a.block:=fun {α E T cc r ll} h a ha=>by rw [hRd];exact .inl (zq h.own ha).2.1
   have hX:=nM x hxm;have hM:MixM Rd U b (o+k*336) x.m x.q x.c x.p1 x.p2 x.p3 x.c1 x.c2 x.c3 x.xs x.ys:=by
    have r:∀ {α:Type} {E:Enc α} {T cc:Nat} {r:OA} {ll:List α},RowIn E T w.heap.size (fun k=>w.heap.size<=k) Z r cc ll->SlR E U r ll:=fun {α E T cc r ll} h=>(h.own.below hbU).row;refine⟨zm hbU hat,r hxM.ev,fun e=>?_,r hxM.r1,hxM.e2,r hxM.r2,fun y hy=>r (hxM.n2 y hy),hxM.e3,r hxM.r3,fun y hy=>r (hxM.n3 y hy),by rw [hRd];exact .inl hbX2,ltX hX.ev,ltX hX.r1,ltX hX.r2,ltX hX.r3,fun y hy=>ltX (hX.n2 y hy),fun y hy=>ltX (hX.n3 y hy)⟩;rcases hxM.ev.own.inv with ⟨_,h,_⟩ | ⟨g,cur,h,_⟩
    ·exact h
    ·rw [e] at h;cases h
   have hRl:∀ k,Rd k->k<U.heap.size:=fun k hk=>by
    rw [hRd] at hk;omega
   have hTU:Tz64M U:=hG.t64.below (hbX.trans ((hbZ.trans (hbU.mono hZs)).mono hXs));have htz:=zav hG.t64;have hI:=zqA hM fU (by rw [hRd];exact .inr rfl) hRl hTU (by rw [hRd];left;omega) hxB hxB.ev;have hln:outs.length+(zcx x.m).length<=30000:=by
    have h2:=hQ.len hmo hsm;have h3:(zR p V)=ms.flatMap (fun x=>qc x.m):=by
     show (zL p V).flatMap qc=_;rw [<- hms,Qp]
    rw [h3] at h2;have h4:ms.flatMap (fun x=>qc x.m)=(ms.take (k+1)).flatMap (fun x=>qc x.m)++(ms.drop (k+1)).flatMap (fun x=>qc x.m):=(by rw [<- Kh,JQ]);rw [h4,htk,<- hou,lap,lap,QN] at h2;omega
   refine cmo (zko (oZ.below hbU) (fun y hy=>(nZ y hy).below hbU) (by omega) hI (UW _) (fun k hk=>⟨hRl k hk,rfl⟩) (fun k hk=>by rw [hRd] at hk;exact hk) fU (by omega) hln) ?_;rintro e T ⟨⟨new,pn,cn,rfl,zy,oT,nT⟩,hbT⟩;exact nxI (by omega) ⟨(k+1,outs++new,pn,cn),(cvE rfl rfl),⟨hkl,by rw [QR,hou,zy,htk],oT,nT,(hbZ.trans (hbU.mono hZs)).trans hbT⟩,zdc (by omega)⟩
  ·have hc:¬ (k:Int)<(ms.length:Int):=dF hc;obtain rfl:k=ms.length:=by omega
   rw [Qx] at hou;refine⟨(outs,po,co),(cvE rfl rfl),?_,oZ,nZ,hbZ⟩;rw [hou];show ms.flatMap _=(zL p V).flatMap qc;rw [<- hms,Qp]
 rintro⟨outs,po,co⟩ Z ⟨hou,oZ,nZ,hbZ⟩;exact⟨.inl ⟨V,hCO,outs,po,co,rfl,hou,oZ.lower hXs,fun x hx=>(nZ x hx).lower hXs⟩,hbX.trans (hbZ.mono hXs)⟩
end
def zaK:List (List Nat)->Nat
 | []=>1
 | f::fs=>f.length*zaK fs
theorem zfE {a b lim:Nat} (hb:1<=b):min (min a lim*b) lim=min (a*b) lim:=by
 by_cases ha:a<=lim
 ·rw [Ua ha]
 ·have e:min a lim=lim:=Nat.min_eq_right (by omega);have h2:lim<=lim*b:=Nat.le_mul_of_pos_right _ (by omega);have h3:lim<=a*b:=UM (by omega) (Nat.le_mul_of_pos_right a (by omega:0<b));rw [e,Nat.min_eq_right h2,Nat.min_eq_right h3]
theorem zeM:∀ fs:List (List Nat),(∀ f∈fs,f≠[])->1<=zaK fs
 | [],_=>UW _
 | f::fs,h=>Nat.mul_pos (List.length_pos_iff.2 (h f KA)) (zeM fs fun g hg=>h g (JY _ hg))
theorem ziH {lim:Nat}:∀ (fs:List (List Nat)) (n:Nat),n<=lim->(∀ f∈fs,f≠[])->zes lim fs n=some (min (n*zaK fs) lim)
 | [],n,h,_=>by
  show some n=some (min (n*1) lim);rw [UX,Ua h]
 | f::fs,n,h,hf=>by
  have h1:f≠[]:=hf f KA;have hp:1<=f.length:=List.length_pos_iff.2 h1;unfold zes;rw [Gn h1,ziH fs _ (QC ..) fun g hg=>hf g (JY _ hg)];congr 1;show min (min (n*f.length) lim*zaK fs) lim=min (n*(f.length*zaK fs)) lim;rw [<- UE,zfE (zeM fs fun g hg=>hf g (JY _ hg))]
theorem zhL {lim:Nat}:∀ (fs:List (List Nat)) (n:Nat),(∃ f∈fs,f=[])->zes lim fs n=none
 | [],n,⟨f,h,_⟩=>by cases h
 | f::fs,n,⟨g,hg,e⟩=>by
  unfold zes;by_cases h1:f=[]
  ·rw [Gp h1]
  ·rw [Gn h1];refine zhL fs _ ⟨g,?_,e⟩;rcases UC.1 hg with h | h
   ·rw [h] at e;exact Gq e h1
   ·exact h
def up (len:Nat):Nat->Nat->Nat
 | 0,_=>1
 | m+1,k=>if k<len then k*up len m (k+1) else 1
theorem zny (len:Nat):∀ m k,1<=k->1<=up len m k
 | 0,_,_=>UW _
 | m+1,k,h=>by
  unfold up
  split
  ·exact Nat.mul_pos h (zny len m (k+1) (by omega))
  ·exact UW _
theorem zmf {lim len:Nat}:∀ (m k n:Nat),1<=k->n<=lim->zft lim len m k n=min (n*up len m k) lim
 | 0,k,n,_,h=>by
  show n=min (n*1) lim;rw [UX,Ua h]
 | m+1,k,n,hk,h=>by
  unfold zft up
  split
  ·rw [zmf m (k+1) _ (by omega) (QC ..),zfE (zny len m (k+1) (by omega)),UE]
  ·rw [UX,Ua h]
theorem znz:∀ (m k:Nat),1<=k->∀ len,len<=k+m->k<=len->fct (k-1)*up len m k=fct (len-1)
 | 0,k,h1,len,h2,h3=>by
  show fct (k-1)*1=_;rw [UX,show len=k by omega]
 | m+1,k,h1,len,h2,h3=>by
  unfold up
  split
  ·rename_i hlt;rw [<- znz m (k+1) (by omega) len (by omega) (by omega),<- UE];congr 1;obtain⟨j,rfl⟩:∃ j,k=j+1:=⟨k-1,by omega⟩;show fct j*(j+1)=(j+1)*fct j;exact UN _ _
  ·rw [UX,show len=k by omega]
theorem zq6 {len:Nat} (h:1<=len):up len len 2=fct (len-1):=by
 by_cases h2:2<=len
 ·have:=znz len 2 (by decide) len (by omega) h2;have h3:fct (2-1)=1:=rfl;rw [h3,UY] at this;exact this
 ·have e:len=1:=by omega
  subst e;rfl
def zap:List (List Nat)->Nat
 | []=>1
 | w::ws=>fct (w.length-1)*zap ws
theorem zb6:∀ ws,1<=zap ws
 | []=>UW _
 | w::ws=>Nat.mul_pos (zdg _) (zb6 ws)
theorem zme {lim:Nat}:∀ (ws:List (List Nat)) (n:Nat),n<=lim->(∀ w∈ws,1<=w.length)->zfs lim ws n=min (n*zap ws) lim
 | [],n,h,_=>by
  show n=min (n*1) lim;rw [UX,Ua h]
 | w::ws,n,h,hw=>by
  unfold zfs;rw [zmf _ _ _ (by decide) h,zq6 (hw w KA),zme ws _ (QC ..) fun v hv=>hw v (JY _ hv),zfE (zb6 ws)];show _=min (n*(fct (w.length-1)*zap ws)) lim;rw [UE]
theorem zcv {m:MixD} {lim:Nat} (h1:1<=lim) (hw:∀ w∈m.wr,1<=w.length):qG m lim=if ∀ r∈m.rs,r.2≠[] then min (zaK (m.rs.map (·.2))*zap m.wr) lim else 0:=by
 unfold qG
 split
 ·rename_i e;rw [Gn];intro h;rw [ziH _ _ h1 fun f hf=>by
   obtain⟨r,hr,rfl⟩:=UJ.1 hf;exact h r hr] at e
  cases e
 ·rename_i n e;by_cases h:∀ r∈m.rs,r.2≠[]
  ·rw [Gp h];rw [ziH _ _ h1 fun f hf=>by
    obtain⟨r,hr,rfl⟩:=UJ.1 hf;exact h r hr] at e
   have e:=Uf e;rw [zme _ _ (by rw [<- e];exact QC ..) hw,<- e,UY,zfE (zb6 _)]
  ·rw [zhL] at e
   ·cases e
   ·refine Jp fun hn=>h fun r hr e2=>hn ⟨r.2,UJ.2 ⟨r,hr,rfl⟩,e2⟩
theorem zcY {m:MixD} (hw:∀ w∈m.wr,1<=w.length):qG m 1≠0↔∀ r∈m.rs,r.2≠[]:=by
 rw [zcv (by decide) hw];constructor
 ·intro h;refine Jp fun hn=>h (Gn hn)
 ·intro h;rw [Gp h];have h1:1<=zaK (m.rs.map (·.2)):=zeM _ fun f hf=>by
   obtain⟨r,hr,rfl⟩:=UJ.1 hf;exact h r hr
  have h2:1<=zaK (m.rs.map (·.2))*zap m.wr:=Nat.mul_pos h1 (zb6 _);rw [Nat.min_eq_right h2];decide
theorem zhN (m:MixD):(zcx m).length=zS (zM m).reverse:=by
 unfold zcx z7;rw [QN,QN,KW]
theorem zif:∀ rs:List (Nat×List Nat),zS (rs.map fun r=>r.2.length)=zaK (rs.map (·.2))
 | []=>rfl
 | r::rs=>by
  show r.2.length*zS (rs.map fun r=>r.2.length)=r.2.length*zaK (rs.map (·.2));rw [zif rs]
theorem zlJ:∀ ws:List (List Nat),(∀ w∈ws,1<=w.length/\w.length<=48)->zS (ws.map fun w=>(zF w).length)<=zap ws
 | [],_=>UW _
 | w::ws,h=>by
  show (zF w).length*zS (ws.map fun w=>(zF w).length)<=fct (w.length-1)*zap ws;have h1:=h w KA;exact Uq (zf0 h1.1 h1.2).1 (zlJ ws fun v hv=>h v (JY _ hv))
theorem zoU {m:MixD} (hw:∀ w∈m.wr,1<=w.length/\w.length<=48) (h:qG m 20001<=20000):(qc m).length<=qG m 20001:=by
 unfold qc
 split
 ·exact UZ _
 ·rename_i h1;have hs:=(zcY fun w hm=>(hw w hm).1).1 h1;have e:=zcv (m:=m) (lim:=20001) (by decide) fun w hm=>(hw w hm).1;rw [Gp hs] at e;have hp:zaK (m.rs.map (·.2))*zap m.wr=qG m 20001:=by
   by_cases hb:zaK (m.rs.map (·.2))*zap m.wr<=20001
   ·rw [e,Ua hb]
   ·rw [Nat.min_eq_right (by omega)] at e;omega
  rw [zhN,<- hp];unfold zM;have e2:zS (m.rs.map (fun r=>r.2.length)++m.wr.map fun w=>(zF w).length).reverse=zS (m.rs.map (fun r=>r.2.length)++m.wr.map fun w=>(zF w).length):=by
   rw [zc6];unfold za3;rw [zdf,UY]
  rw [e2,zbj,zif];exact Nat.mul_le_mul_left _ (zlJ _ hw)
theorem zgC {m:MixD} (hw:∀ w∈m.wr,1<=w.length) {lim:Nat} (hl:1<=lim) (h:qG m lim<lim) (h1:qG m 1≠0):∀ w∈m.wr,fct (w.length-1)<lim:=by
 have hs:=(zcY hw).1 h1;have e:=zcv (m:=m) hl hw;rw [Gp hs] at e;have hp:zaK (m.rs.map (·.2))*zap m.wr<lim:=by
  refine QA fun hb=>?_;rw [Nat.min_eq_right hb] at e;omega
 have h2:1<=zaK (m.rs.map (·.2)):=by
  refine Nat.one_le_iff_ne_zero.2 fun h0=>?_;rw [h0,US,Nat.zero_min] at e;have e1:=zcv (m:=m) (lim:=1) (by decide) hw;rw [Gp hs,h0,US,Nat.zero_min] at e1;exact h1 e1
 have h3:zap m.wr<lim:=KF (Nat.le_mul_of_pos_left _ (by omega)) hp;have:∀ ws:List (List Nat),∀ w∈ws,fct (w.length-1)<=zap ws:=by
  intro ws
  induction ws with
  | nil=>intro w h;cases h
  | cons v ws ih =>
   intro w h;show _<=fct (v.length-1)*zap ws;rcases UC.1 h with e | e
   ·rw [e];exact Nat.le_mul_of_pos_right _ (zb6 ws)
   ·exact UM (ih w e) (Nat.le_mul_of_pos_left _ (zdg _))
 exact fun w hm=>KF (this _ w hm) h3
theorem zqu {m:MixD} (hw:∀ w∈m.wr,1<=w.length) {a b:Nat} (ha:1<=a) (hb:1<=b) (h:qG m a=0):qG m b=0:=by
 rw [zcv ha hw] at h;rw [zcv hb hw]
 split at h
 ·rename_i hs;rw [Gp hs];have:zaK (m.rs.map (·.2))*zap m.wr=0:=by
   by_cases hl:zaK (m.rs.map (·.2))*zap m.wr<=a
   ·rw [Ua hl] at h;exact h
   ·rw [Nat.min_eq_right (by omega)] at h;omega
  rw [this,Nat.zero_min]
 ·rename_i hs;rw [Gn hs]
def zdq:Nat->List PathD->List Ev
 | _,[]=>[]
 | k,P::Ps=>za1 k P.ev++zdq (k+1) Ps
theorem zgQ:∀ (Ps:List PathD) (k:Nat) (x:ExD),(asR k Ps x).ev=x.ev++zdq k Ps/\(asR k Ps x).po=x.po/\(asR k Ps x).rf=x.rf/\(asR k Ps x).co=x.co/\(asR k Ps x).mem=x.mem/\(asR k Ps x).dt.n=x.dt.n/\(asR k Ps x).ct.n=x.ct.n/\(asR k Ps x).rm.n=x.rm.n
 | [],k,x=>⟨(QK _).symm,rfl,rfl,rfl,rfl,rfl,rfl,rfl⟩
 | P::Ps,k,x=>by
  obtain⟨h1,h2⟩:=zgQ Ps (k+1) (jT x k P);refine⟨?_,h2⟩;show (asR (k+1) Ps (jT x k P)).ev=x.ev++(za1 k P.ev++zdq (k+1) Ps);rw [h1,<- KQ];rfl
theorem zjS:∀ (Ps:List PathD) (k n:Nat),Ps.foldl (fun n P=>n+P.ev.length) n=n+(zdq k Ps).length
 | [],k,n=>rfl
 | P::Ps,k,n=>by
  show Ps.foldl _ (n+P.ev.length)=n+(za1 k P.ev++zdq (k+1) Ps).length;rw [zjS Ps (k+1),lap];unfold za1;rw [QN,UD]
theorem zgG:∀ (Ps:List PathD) (k:Nat) (e:Ev),e∈zdq k Ps->∃ P∈Ps,∃ a∈P.ev,∃ t:Nat,k<=t/\t<k+Ps.length/\e={ a with th:=t }
 | [],k,e,h=>by cases h
 | P::Ps,k,e,h=>by
  rcases QS.1 h with h | h
  ·obtain⟨a,ha,rfl⟩:=UJ.1 h;exact⟨P,KA,a,ha,k,UW _,by rw [Qt];omega,rfl⟩
  ·obtain⟨Q,hQ,a,ha,t,h1,h2,h3⟩:=zgG Ps (k+1) e h;exact⟨Q,JY _ hQ,a,ha,t,by omega,by rw [Qt];omega,h3⟩
section
variable {init:List UInt8} {Ps:List PathD}
theorem zdm:(jF init Ps).ev=jc 0 init++zdq 0 Ps:=(zgQ Ps 0 _).1
theorem zo2:(jF init Ps).ev.length=zan init.length Ps:=by
 rw [zdm,lap,z5];exact (zjS Ps 0 init.length).symm
theorem zdl:(jF init Ps).rf=zcE (zan init.length Ps)/\(jF init Ps).co=zcE (zan init.length Ps)/\(jF init Ps).mem=(fun _=>0)/\(jF init Ps).dt.n=zan init.length Ps/\(jF init Ps).ct.n=zan init.length Ps/\(jF init Ps).rm.n=zan init.length Ps:=by
 obtain⟨_,_,h1,h2,h3,h4,h5,h6⟩:=zgQ Ps 0 { ex0 (zan init.length Ps) with ev:=jc 0 init };exact⟨h1,h2,h3,h4,h5,h6⟩
theorem znl {i:Nat} (h:i<init.length):(jF init Ps).ev[i]?=some ⟨-1,2,UInt8.ofNat i,init[i],0,0,0⟩:=by
 rw [zdm,Jr (by rw [z5];exact h),zaS init 0 h,UR]
theorem zo1 {e:Ev} (h:e∈(jF init Ps).ev):(∃ i,∃ h:i<init.length,e=⟨-1,2,UInt8.ofNat i,init[i],0,0,0⟩)\/∃ P∈Ps,∃ a∈P.ev,∃ t:Nat,t<Ps.length/\e={ a with th:=t }:=by
 rw [zdm] at h;rcases QS.1 h with h | h
 ·obtain⟨i,hi,rfl⟩:=Kj h;rw [z5] at hi;have:=zaS init 0 hi;rw [gE (by rw [z5];exact hi),UR] at this;exact .inl ⟨i,hi,Uf this⟩
 ·obtain⟨P,hP,a,ha,t,_,h2,h3⟩:=zgG Ps 0 e h;exact .inr ⟨P,hP,a,ha,t,by omega,h3⟩
theorem zex (hi6:init.length<=6) (hP:∀ P∈Ps,PathW init.length P) {e:Ev} (h:e∈(jF init Ps).ev) (hk:e.k=1\/e.k=2):e.l.toNat<init.length:=by
 rcases zo1 h with ⟨i,hi,rfl⟩ | ⟨P,hPm,a,ha,t,_,rfl⟩
 ·show (UInt8.ofNat i).toNat<_;rw [KI];omega
 ·exact (hP P hPm).b.loc a ha hk
end
def wrF:Nat->List Ev->Nat->List Nat
 | _,[],_=>[]
 | i,e::es,l=>(if e.k=2/\e.l.toNat=l then [i] else [])++wrF (i+1) es l
theorem zhW:∀ (es:List Ev) (i:Nat) (W:List (List Nat)),(∀ e∈es,e.k=2->e.l.toNat<W.length)->(zgV i es W).length=W.length/\∀ l,l<W.length->(zgV i es W).getD l []=W.getD l []++wrF i es l
 | [],i,W,h=>⟨rfl,fun l hl=>(QK _).symm⟩
 | e::es,i,W,h=>by
  unfold zgV;by_cases hk:e.k=2
  ·rw [Gp hk];obtain⟨V,hV⟩:=nm (W.set e.l.toNat (W.getD e.l.toNat []++[i]));have hVl:V.length=W.length:=by rw [hV,QQ]
   obtain⟨h1,h2⟩:=zhW es (i+1) V fun d hd hd2=>by rw [hVl];exact h d (JY _ hd) hd2
   rw [<- hV];refine⟨h1.trans hVl,fun l hl=>?_⟩;rw [h2 l (by omega)];show _=W.getD l []++((if e.k=2/\e.l.toNat=l then [i] else [])++wrF (i+1) es l);rw [<- KQ];congr 1;rw [hV,gDe];by_cases hel:e.l.toNat=l
   ·rw [Gp ⟨hk,hel⟩,hel,JE hl];rfl
   ·rw [Gn fun h=>hel h.2,JV hel,QK,gDe]
  ·rw [Gn hk];obtain⟨h1,h2⟩:=zhW es (i+1) W fun d hd=>h d (JY _ hd);refine⟨h1,fun l hl=>?_⟩;rw [h2 l hl];show _=W.getD l []++((if e.k=2/\e.l.toNat=l then [i] else [])++wrF (i+1) es l);rw [Gn fun h=>hk h.1,QU]
theorem znv:∀ (es:List Ev) (i l:Nat),wrF i es l=((List.range es.length).filter fun j=>decide ((es.getD j ev0).k=2)&&decide ((es.getD j ev0).l.toNat=l)).map (· + i)
 | [],i,l=>rfl
 | e::es,i,l=>by
  unfold wrF;rw [znv es (i+1) l,Qt,List.range_succ_eq_map,Qo,List.filter_map];have e0:(e::es).getD 0 ev0=e:=rfl;rw [e0];have ee:∀ j,(e::es).getD (Nat.succ j) ev0=es.getD j ev0:=fun j=>rfl;have hm:∀ L:List Nat,(L.map Nat.succ).map (· + i)=L.map (· + (i+1)):=fun L=>by
   rw [UH];exact Kl fun j _=>by show j.succ+i=j+(i+1);omega
  by_cases hk:e.k=2/\e.l.toNat=l
  ·rw [Gp hk,Us hk.1,Us hk.2,Gp (show (true&&true)=true from rfl),UB,hm,UR];rfl
  ·rw [Gn hk];have:(decide (e.k=2)&&decide (e.l.toNat=l))=false:=by
    rw [Bool.and_eq_false_iff];by_cases h1:e.k=2
    ·exact .inr (Uh fun h=>hk ⟨h1,h⟩)
    ·exact .inl (Uh h1)
   rw [this,Gn Kv,hm];rfl
theorem zc5 (all:List Ev) (W:List (List Nat)):∀ (es:List Ev) (i:Nat) (r:Nat×List Nat),r∈zbs all W i es->∃ j e,es[j]?=some e/\e.k=1/\r=(i+j,(W.getD e.l.toNat []).filter fun w=>decide ((all.getD w ev0).v=e.v))
 | [],i,r,h=>by cases h
 | e::es,i,r,h=>by
  unfold zbs at h
  split at h
  ·rename_i hk;rcases UC.1 h with h | h
   ·exact⟨0,e,rfl,hk,by rw [h];rfl⟩
   ·obtain⟨j,d,h1,h2,h3⟩:=zc5 all W es (i+1) r h;exact⟨j+1,d,h1,h2,by rw [h3,show i+1+j=i+(j+1) by omega]⟩
  ·obtain⟨j,d,h1,h2,h3⟩:=zc5 all W es (i+1) r h;exact⟨j+1,d,h1,h2,by rw [h3,show i+1+j=i+(j+1) by omega]⟩
theorem zjh (all:List Ev) (W:List (List Nat)):∀ (es:List Ev) (i:Nat),(zbs all W i es).length<=es.length
 | [],i=>UW _
 | e::es,i=>by
  have:=zjh all W es (i+1);unfold zbs
  split
  ·rw [Qt,Qt];omega
  ·rw [Qt];omega
structure ChoiceW (init:List UInt8) (Ps:List PathD) (m:MixD):Prop where
 i1:1<=init.length
 i6:init.length<=6
 p4:Ps.length<=4
 P:∀ P∈Ps,PathW init.length P
 n:zan init.length Ps<=48
 m:m=jU (jF init Ps) init.length
section
variable {init:List UInt8} {Ps:List PathD} {m:MixD}
theorem ChoiceW.base (h:ChoiceW init Ps m):m.base=jF init Ps:=by rw [h.m];rfl
theorem ChoiceW.len (h:ChoiceW init Ps m):m.base.ev.length=zan init.length Ps:=by rw [h.base,zo2]
theorem ChoiceW.wr (h:ChoiceW init Ps m):m.wr.length=init.length/\∀ l,l<init.length->m.wr.getD l []=z9 m.base l:=by
 obtain⟨h1,h2⟩:=zhW (jF init Ps).ev 0 (List.replicate init.length []) fun e he hk=>by
  rw [JN];exact zex h.i6 h.P he (.inr hk)
 rw [JN] at h1 h2;have e:m.wr=zgV 0 (jF init Ps).ev (List.replicate init.length []):=by rw [h.m];rfl
 rw [e];refine⟨h1,fun l hl=>?_⟩;rw [h2 l hl,znv,gDe,List.getElem?_replicate,Gp hl,h.base];show []++List.map (· + 0) _=_;rw [QU];show List.map (fun x=>x) _=_;rw [List.map_id'];rfl
theorem ChoiceW.wr_mem (h:ChoiceW init Ps m) {w:List Nat} (hw:w∈m.wr):∃ l,l<init.length/\w=z9 m.base l/\m.wr[l]?=some w:=by
 obtain⟨h1,h2⟩:=h.wr;obtain⟨l,hl,rfl⟩:=Kj hw;refine⟨l,by omega,?_,gE hl⟩;have:=h2 l (by omega);rw [gDe,gE hl] at this;exact this
theorem ChoiceW.ini (h:ChoiceW init Ps m) {i:Nat} (hi:i<init.length):evA m.base i=⟨-1,2,UInt8.ofNat i,init[i],0,0,0⟩:=by
 unfold evA;rw [h.base,gDe,znl hi];rfl
theorem zfv (x:ExD) (l:Nat):(z9 x l).length<=x.ev.length:=by
 refine UM (JM ..) ?_;rw [KW];exact UW _
theorem zeC {x:ExD} {l a:Nat} (h:a∈z9 x l):a<x.ev.length:=Uo.1 (QT.1 h).1
theorem ChoiceW.head (h:ChoiceW init Ps m) {l:Nat} (hl:l<init.length):1<=(z9 m.base l).length/\(z9 m.base l).headD 48=l:=by
 have h6:=h.i6;have hn:init.length<=m.base.ev.length:=by
  rw [h.len];exact zfQ _ _
 have e:=zfg (p:=fun i=>decide ((evA m.base i).k=2)&&decide ((evA m.base i).l.toNat=l)) (n:=m.base.ev.length) (k:=l) (by omega) (fun i hi=>by
  rw [h.ini (by omega)];have:¬ (UInt8.ofNat i).toNat=l:=by rw [KI];omega
  rw [Uh this,Ui]) (by
  rw [h.ini hl];have:(UInt8.ofNat l).toNat=l:=by rw [KI];omega
  rw [Us this];rfl)
 unfold z9;rw [e];exact⟨by simp,rfl⟩
theorem ChoiceW.rs (h:ChoiceW init Ps m) {r:Nat×List Nat} (hr:r∈m.rs):∃ e,m.base.ev[r.1]?=some e/\e.k=1/\r.2=(m.wr.getD e.l.toNat []).filter fun w=>decide ((m.base.ev.getD w ev0).v=e.v):=by
 rw [h.m] at hr ⊢;obtain⟨j,e,h1,h2,h3⟩:=zc5 _ _ _ _ _ hr;rw [UR] at h3;exact⟨e,by rw [h3];exact h1,h2,by rw [h3];rfl⟩
theorem ChoiceW.src (h:ChoiceW init Ps m) {r:Nat×List Nat} (hr:r∈m.rs):r.1<m.base.ev.length/\r.2.length<=48/\∀ s∈r.2,s<m.base.ev.length:=by
 have hn:=h.n;rw [<- h.len] at hn;obtain⟨e,h1,h2,h3⟩:=h.rs hr;have hlt:=(Js.1 h1).1;have hel:e.l.toNat<init.length:=by
  have:e∈(jF init Ps).ev:=by rw [<- h.base];exact JZ h1
  exact zex h.i6 h.P this (.inl h2)
 rw [h.wr.2 _ hel] at h3;refine⟨hlt,?_,fun s hs=>?_⟩
 ·rw [h3];have h4:=zfv m.base e.l.toNat;have h5:=JM (fun w=>decide ((m.base.ev.getD w ev0).v=e.v)) (z9 m.base e.l.toNat);omega
 ·rw [h3] at hs;exact zeC (QT.1 hs).1
theorem ChoiceW.c (h:ChoiceW init Ps m):MixC m:=by
 have hn:=h.n;rw [<- h.len] at hn;refine⟨?_,?_,fun r hr=>?_,fun w hw=>?_⟩
 ·have:m.rs.length<=m.base.ev.length:=by
   rw [h.m];exact zjh _ _ _ _
  omega
 ·rw [h.wr.1];exact h.i6
 ·obtain⟨h1,h2,h3⟩:=h.src hr;exact⟨by omega,by omega,fun s hs=>by have:=h3 s hs;omega⟩
 ·obtain⟨l,hl,rfl,_⟩:=h.wr_mem hw;have:=zfv m.base l;omega
theorem ChoiceW.w1 (h:ChoiceW init Ps m) {w:List Nat} (hw:w∈m.wr):1<=w.length/\w.length<=48:=by
 refine⟨?_,h.c.wr w hw⟩;obtain⟨l,hl,rfl,_⟩:=h.wr_mem hw;exact (h.head hl).1
theorem ChoiceW.b (h:ChoiceW init Ps m):MixB m:=by
 have hn:=h.n;rw [<- h.len] at hn;obtain⟨b1,b2,b3,_⟩:=zdl (init:=init) (Ps:=Ps);have hc:=h.c;refine⟨hn,hc.rl,hc.wl,fun i _=>?_,fun i _=>?_,hc.rs,fun w hw=>?_⟩
 ·rw [h.base,b1];show 0<2^64;decide
 ·rw [h.base,b2];show 0<2^64;decide
 ·obtain⟨h1,h2⟩:=h.w1 hw;refine⟨h2,(zf0 h1 h2).2,fun k hk=>?_⟩;have hp:=(zhn h1 h2 hk).1;have hl:=hp.length_eq;refine⟨fun e=>by rw [e] at hl;simp at hl;omega,by omega,fun a ha=>?_⟩;obtain⟨l,hl,rfl,_⟩:=h.wr_mem hw;exact zeC (hp.subset ha)
end
theorem zeN:∀ (Ts:List (List PathD)) (ds:List Nat) (P:PathD),P∈qt Ts ds->∃ T∈Ts,P∈T
 | Ts,[],P,h=>by cases Ts <;> cases h
 | [],d::ds,P,h=>by cases h
 | T::Ts,d::ds,P,h=>by
  unfold qt at h;rcases QS.1 h with h | h
  ·cases hd:T[d]? with
   | none=>rw [hd] at h;cases h
   | some Q =>
    rw [hd] at h;rw [KB.1 h];exact⟨T,KA,JZ hd⟩
  ·obtain⟨U,hU,h2⟩:=zeN Ts ds P h;exact⟨U,JY _ hU,h2⟩
theorem zeO:∀ (Ts:List (List PathD)) (ds:List Nat),(qt Ts ds).length<=Ts.length
 | Ts,[]=>by cases Ts <;> exact UZ _
 | [],d::ds=>UW _
 | T::Ts,d::ds=>by
  unfold qt;rw [lap,Qt];have:=zeO Ts ds
  cases T[d]? <;> simp <;> omega
section
variable {p:Prg} {V:List UInt8}
theorem zf5 (hO:OkG p) {l:List InsD} (hl:l∈p.threads) {P:PathD} (hP:P∈zu V l):PathW p.init.length P:=by
 obtain⟨R,hR,rfl⟩:=UJ.1 hP;have h1:=hO.tl l hl;rw [hO.il] at h1;obtain⟨a,b⟩:=zrI h1 V R hR;exact zrm a b
theorem zcd (hO:OkG p) {m:MixD} (hm:m∈zL p V):∃ ds∈z7 ((p.threads.map (zu V)).map List.length),ChoiceW p.init (qt (p.threads.map (zu V)) ds) m:=by
 unfold zL zkU at hm;obtain⟨ds,hds,he⟩:=List.mem_filterMap.1 hm;unfold zcR at he
 split at he
 ·rename_i h48;refine⟨ds,hds,hO.i1,hO.i6,?_,fun P hP=>?_,h48,(Uf he).symm⟩
  ·have:=zeO (p.threads.map (zu V)) ds;rw [QN] at this;have:=hO.t4;omega
  ·obtain⟨T,hT,h2⟩:=zeN _ _ _ hP;obtain⟨l,hl,rfl⟩:=UJ.1 hT;exact zf5 hO hl h2
 ·cases he
theorem znL {α:Type} {f g:α->Nat}:∀ {l:List α},(∀ a∈l,f a<=g a)->(l.map f).sum<=(l.map g).sum
 | [],_=>UW _
 | a::l,h=>by
  rw [UB,UB,List.sum_cons,List.sum_cons];have:=h a KA;have:=znL (l:=l) fun b hb=>h b (JY _ hb);omega
theorem ziu {α:Type} {f:α->Nat}:∀ {l:List α} {a:α},a∈l->f a<=(l.map f).sum
 | b::l,a,h=>by
  rw [UB,List.sum_cons];rcases UC.1 h with e | e
  ·rw [e];omega
  ·have:=ziu (f:=f) e;omega
theorem zcZ (hO:OkG p):CandB p V:=by
 refine⟨fun l hl P hP=>(zf5 hO hl hP).b,fun hm=>?_,fun hm m hmm=>?_,fun hm hs m hmm h1=>?_,fun hm hs=>?_⟩
 ·have h1:(zL p V).length<=(z7 ((p.threads.map (zu V)).map List.length)).length:=List.length_filterMap_le _ _;have h2:(z7 ((p.threads.map (zu V)).map List.length)).length=zS ((p.threads.map (zu V)).map List.length).reverse:=by
   unfold z7;rw [QN,KW]
  have h3:=hm.2.1 p.threads.length (UW _);rw [Qx] at h3;rw [zc6] at h2;have h4:za3 ((p.threads.map (zu V)).map List.length)<=4096:=by rw [UH];exact h3
  omega
 ·obtain⟨_,_,h⟩:=zcd hO hmm;exact h.c
 ·obtain⟨_,_,h⟩:=zcd hO hmm;exact h.b
 ·show ((zL p V).flatMap qc).length<=30000;rw [List.length_flatMap];have:((zL p V).map fun m=>(qc m).length).sum<=((zL p V).map fun m=>qG m 20001).sum:=znL fun m hmm=>by
   obtain⟨_,_,h⟩:=zcd hO hmm;refine zoU (fun w hw=>h.w1 hw) ?_;have:=ziu (f:=fun m=>qG m 20001) hmm;omega
  omega
end
def chR (Rs:List (List (List Nat))) (ds:List Nat) (j:Nat):List Nat:=(Rs.getD j []).getD (ds.getD j 0) []
theorem zq0 (R:List (List Nat)) (Rs:List (List (List Nat))) (ds:List Nat):chR (R::Rs) ds 0=R.getD (ds.headD 0) []:=by
 cases ds <;> rfl
theorem zfi (R:List (List Nat)) (Rs:List (List (List Nat))) (ds:List Nat) (j:Nat):chR (R::Rs) ds (j+1)=chR Rs ds.tail j:=by
 cases ds with
 | nil=>show (Rs.getD j []).getD (([]:List Nat).getD (j+1) 0) []=(Rs.getD j []).getD (([]:List Nat).getD j 0) [];rfl
 | cons d ds=>rfl
theorem zer (ev:List Ev):∀ (Rs:List (List (List Nat))) (l:Nat) (ds:List Nat) (p:RelD×(Nat->UInt8)),(∀ j,j<Rs.length->(chR Rs ds j).Nodup)->(∀ i j j',j<Rs.length->j'<Rs.length->i∈chR Rs ds j->i∈chR Rs ds j'->j=j') ->
  (coG ev l Rs ds p).1.n=p.1.n/\∀ i j,z3 (coG ev l Rs ds p).1 i j=true↔(∃ k,k<Rs.length/\i∈chR Rs ds k/\j∈twl (chR Rs ds k).reverse i)\/((∀ k,k<Rs.length->i ∉ chR Rs ds k)/\z3 p.1 i j=true)
 | [],l,ds,p,_,_=>⟨rfl,fun i j=>⟨fun h => .inr ⟨fun k hk=>Gq hk (Ub _),h⟩,fun h=>by
   rcases h with ⟨k,hk,_⟩ | h
   ·exact Gq hk (Ub _)
   ·exact h.2⟩⟩
 | R::Rs,l,ds,p,hn,hd=>by
  obtain⟨q,hq⟩:=nm ((j7 (R.getD (ds.headD 0) []) p.1,upd p.2 l (ev.getD ((R.getD (ds.headD 0) []).getLastD 0) ev0).v));have e:coG ev l (R::Rs) ds p=coG ev (l+1) Rs ds.tail q:=by rw [hq];rfl
  obtain⟨h1,h2⟩:=zer ev Rs (l+1) ds.tail q (fun j hj=>by rw [<- zfi R];exact hn (j+1) (by rw [Qt];omega)) (fun i j j' hj hj' a b=>by
   rw [<- zfi R] at a b;have:=hd i (j+1) (j'+1) (by rw [Qt];omega) (by rw [Qt];omega) a b;omega)
  have hn0:=hn 0 (by rw [Qt];omega);rw [e];refine⟨h1.trans (by rw [hq];rfl),fun i j=>?_⟩;have hb:z3 q.1 i j=if i∈chR (R::Rs) ds 0 then decide (j∈twl (chR (R::Rs) ds 0).reverse i) else z3 p.1 i j:=by
   rw [hq,<- zq0 R Rs ds];unfold z3 j7;show (zgp (chR (R::Rs) ds 0).reverse p.1.to 0 i).testBit j=_;rw [zgo _ _ _ ((List.reverse_perm _).nodup_iff.2 hn0),QE,Uv];by_cases h:i∈chR (R::Rs) ds 0
   ·rw [Gp h,Gp (List.mem_reverse.2 h)]
   ·rw [Gn h,Gn fun h2=>h (List.mem_reverse.1 h2)]
  rw [h2,hb];constructor
  ·rintro (⟨k,a1,a2,a3⟩ | ⟨a1,a2⟩)
   ·rw [<- zfi R] at a2 a3;exact .inl ⟨k+1,by rw [Qt];omega,a2,a3⟩
   ·by_cases h:i∈chR (R::Rs) ds 0
    ·rw [Gp h] at a2;exact .inl ⟨0,by rw [Qt];omega,h,dT a2⟩
    ·rw [Gn h] at a2;refine .inr ⟨fun k hk=>?_,a2⟩
     cases k with
     | zero=>exact h
     | succ k=>rw [zfi];exact a1 k (by rw [Qt] at hk;omega)
  ·rintro (⟨k,a1,a2,a3⟩ | ⟨a1,a2⟩)
   ·cases k with
    | zero =>
     refine .inr ⟨fun k hk h=>?_,by rw [Gp a2];exact Us a3⟩;rw [<- zfi R] at h;have:=hd i 0 (k+1) (by rw [Qt];omega) (by rw [Qt];omega) a2 h;omega
    | succ k =>
     rw [zfi] at a2 a3;exact .inl ⟨k,by rw [Qt] at a1;omega,a2,a3⟩
   ·refine .inr ⟨fun k hk h=>?_,?_⟩
    ·rw [<- zfi R] at h;exact a1 (k+1) (by rw [Qt];omega) h
    ·rw [Gn (a1 0 (by rw [Qt];omega))];exact a2
theorem zmc (x:ExD):∀ (Rs:List (List (List Nat))) (l:Nat) (ds:List Nat) (p:RelD×(Nat->UInt8)),(∀ j,j<Rs.length->chR Rs ds j=zQ x (l+j))->coG x.ev l Rs ds p=znX x Rs.length l p
 | [],l,ds,p,_=>rfl
 | R::Rs,l,ds,p,h=>by
  have h0:=h 0 (by rw [Qt];omega);rw [zq0,UL] at h0;show coG x.ev (l+1) Rs ds.tail (j7 (R.getD (ds.headD 0) []) p.1,upd p.2 l (zdu x.ev (R.getD (ds.headD 0) [])))=znX x Rs.length (l+1) (j7 (zQ x l) p.1,upd p.2 l (zdu x.ev (zQ x l)));rw [h0];refine zmc x Rs (l+1) ds.tail _ fun j hj=>?_;rw [<- zfi R,h (j+1) (by rw [Qt];omega)];congr 1;omega
theorem ziZ:∀ {s:List Nat},s.Nodup->s.Pairwise fun a b=>a∈twl s b
 | [],_ => .nil
 | y::s,h=>by
  have h2:=QV.1 h;refine List.pairwise_cons.2 ⟨fun b hb=>?_,?_⟩
  ·rw [zcI,Gn (fun e=>h2.1 (by rw [e];exact hb))];exact KA
  ·refine List.Pairwise.imp_of_mem ?_ (ziZ h2.2);intro a b ha hb hab;rw [zcI,Gn (fun e=>h2.1 (by rw [e];exact hb))];exact JY _ hab
theorem zlQ {key:Nat->Nat}:∀ {s:List Nat},s.Pairwise (fun a b=>key a<key b)->∀ a b,a∈s->b∈s->a≠b->key a≠key b
 | [],_,a,b,ha,_,_=>by cases ha
 | y::s,h,a,b,ha,hb,hne=>by
  have h2:=List.pairwise_cons.1 h;rcases UC.1 ha with e | e
  ·rcases UC.1 hb with e2 | e2
   ·exact Gq (e.trans e2.symm) hne
   ·have:=h2.1 b e2;rw [e];omega
  ·rcases UC.1 hb with e2 | e2
   ·have:=h2.1 a e;rw [e2];omega
   ·exact zlQ h2.2 a b e e2 hne
theorem zml {key:Nat->Nat}:∀ {a b:List Nat},a.Pairwise (fun x y=>key x<key y)->b.Pairwise (fun x y=>key x<key y)->(∀ x,x∈a↔x∈b)->a=b
 | [],[],_,_,_=>rfl
 | [],y::b,_,_,h=>Gq ((h y).2 (KA ..)) (by simp)
 | x::a,[],_,_,h=>Gq ((h x).1 (KA ..)) (by simp)
 | x::a,y::b,ha,hb,h=>by
  rw [List.pairwise_cons] at ha hb;have e:x=y:=by
   rcases UC.1 ((h x).1 (KA ..)) with e | h1
   ·exact e
   ·rcases UC.1 ((h y).2 (KA ..)) with e | h2
    ·exact e.symm
    ·have:=hb.1 x h1;have:=ha.1 y h2;omega
  subst e;rw [zml ha.2 hb.2 fun z=>?_];have hz:=h z;rw [UC,UC] at hz;constructor
  ·intro hza;rcases hz.1 (.inr hza) with e | h2
   ·subst e;have:=ha.1 z hza;omega
   ·exact h2
  ·intro hzb;rcases hz.2 (.inr hzb) with e | h2
   ·subst e;have:=hb.1 z hzb;omega
   ·exact h2
theorem zfZ {x:ExD} {l:Nat} {rk:List Nat} (h48:x.ev.length<=48) (hp:rk.Perm (z9 x l)) (hb:∀ i,i∈rk->∀ j,z3 x.co i j=decide (j∈twl rk.reverse i)):zQ x l=rk:=by
 have hwn:(z9 x l).Nodup:=List.nodup_range.filter _;have hn:rk.Nodup:=hp.nodup_iff.2 hwn;have hrn:rk.reverse.Nodup:=(List.reverse_perm _).nodup_iff.2 hn;have hlt:∀ i,i∈rk->i<64:=fun i hi=>by have:=zeC (hp.subset hi);omega
 have key:rk.reverse.Pairwise fun a b=>zbw x a<zbw x b:=by
  refine List.Pairwise.imp_of_mem ?_ (ziZ hrn);intro a b ha hb2 hab;have ha:=List.mem_reverse.1 ha;have hb2:=List.mem_reverse.1 hb2;show zbv (x.co.to a)<zbv (x.co.to b);rw [zjH,zjH];refine zk8 (j:=a) (fun i _ hi=>?_) (hlt a ha) ?_ ?_
  ·have h1:z3 x.co a i=true:=hi;rw [hb a ha] at h1;show z3 x.co b i=true;rw [hb b hb2];exact Us (zha hab (dT h1))
  ·show z3 x.co a a=false;rw [hb a ha];exact Uh fun h=>(zfy h).2 rfl
  ·show z3 x.co b a=true;rw [hb b hb2];exact Us hab
 have mem:∀ a,a∈sG x l↔a∈rk.reverse:=fun a=>zmw.trans (hp.mem_iff.symm.trans List.mem_reverse.symm);have e:sG x l=rk.reverse:=by
  exact zml (key:=zbw x) (ze7 (zh1 _ _) (znQ l) fun a b ha hb2 hne=>zlQ key a b ((mem a).1 ha) ((mem b).1 hb2) hne) key mem
 rw [znZ,e,Kb]
section
variable {init:List UInt8} {Ps:List PathD} {m:MixD} {ds:List Nat}
theorem zev (h:ChoiceW init Ps m):(zT m ds).ev.length<=48:=by
 rw [zfK,h.len];exact h.n
theorem ChoiceW.ch (h:ChoiceW init Ps m) (hd:ds∈z7 (zM m)):∀ l,l<init.length->(chR (m.wr.map zF) (ds.drop m.rs.length) l).Perm (z9 m.base l)/\(chR (m.wr.map zF) (ds.drop m.rs.length) l).headD 48=l:=by
 intro l hl;obtain⟨h1,h2⟩:=zaE hd;obtain⟨w1,w2⟩:=h.wr;have hlw:l<m.wr.length:=by omega
 have hw:m.wr[l]=z9 m.base l:=by
  have:=w2 l hl;rw [gDe,gE hlw] at this;exact this
 have hs:(zM m)[m.rs.length+l]?=some (zF (z9 m.base l)).length:=by
  unfold zM;rw [Jn (by rw [QN];omega),QN,Jz,KV,gE hlw,hw];rfl
 have hlen:m.rs.length+l<ds.length:=by rw [h1];exact (Js.1 hs).1
 have hdl:=h2 _ _ _ hs (gE hlen);have e1:(m.wr.map zF).getD l []=zF (z9 m.base l):=by
  rw [gDe,KV,gE hlw,hw];rfl
 have e2:(ds.drop m.rs.length).getD l 0=ds[m.rs.length+l]:=by
  rw [gDe,Kx,gE hlen];rfl
 have e3:chR (m.wr.map zF) (ds.drop m.rs.length) l=(zF (z9 m.base l))[ds[m.rs.length+l]]:=by
  unfold chR;rw [e1,e2,gDe,gE hdl];rfl
 have hm:chR (m.wr.map zF) (ds.drop m.rs.length) l∈zF (z9 m.base l):=by rw [e3];exact gM hdl
 obtain⟨g1,g2⟩:=h.head hl;have h48:(z9 m.base l).length<=48:=by
  have:=zfv m.base l;have:=h.n;have:=h.len;omega
 obtain⟨r1,r2⟩:=zhn g1 h48 hm;exact⟨r1,r2.trans g2⟩
theorem ChoiceW.chx (h:ChoiceW init Ps m) (hd:ds∈z7 (zM m)):(∀ j,j<(m.wr.map zF).length->(chR (m.wr.map zF) (ds.drop m.rs.length) j).Nodup)/\∀ i j j',j<(m.wr.map zF).length->j'<(m.wr.map zF).length->i∈chR (m.wr.map zF) (ds.drop m.rs.length) j->i∈chR (m.wr.map zF) (ds.drop m.rs.length) j'->j=j':=by
 rw [QN,h.wr.1];refine⟨fun j hj=>(h.ch hd j hj).1.nodup_iff.2 (List.nodup_range.filter _),fun i j j' hj hj' a b=>?_⟩;have a:=(h.ch hd j hj).1.subset a;have b:=(h.ch hd j' hj').1.subset b;exact (zfF.1 a).2.2.symm.trans (zfF.1 b).2.2
theorem ChoiceW.rank (h:ChoiceW init Ps m) (hd:ds∈z7 (zM m)) {l:Nat} (hl:l<init.length):zQ (zT m ds) l=chR (m.wr.map zF) (ds.drop m.rs.length) l:=by
 obtain⟨c1,c2⟩:=h.chx hd;obtain⟨_,hb⟩:=zer m.base.ev (m.wr.map zF) 0 (ds.drop m.rs.length) (m.base.co,m.base.mem) c1 c2;refine zfZ (zev h) (h.ch hd l hl).1 fun i hi j=>?_;have e:z3 (zT m ds).co i j=z3 (coG m.base.ev 0 (m.wr.map zF) (ds.drop m.rs.length) (m.base.co,m.base.mem)).1 i j:=rfl;rw [e,Bool.eq_iff_iff,hb,dE];have hlw:l<(m.wr.map zF).length:=by rw [QN,h.wr.1];exact hl
 constructor
 ·rintro (⟨k,a1,a2,a3⟩ | ⟨a1,a2⟩)
  ·have:=c2 i k l a1 hlw a2 hi;rw [<- this];exact a3
  ·exact Gq hi (a1 l hlw)
 ·exact fun hj => .inl ⟨l,hlw,hi,hj⟩
theorem ChoiceW.res (h:ChoiceW init Ps m) (hd:ds∈z7 (zM m)):((zT m ds).co,(zT m ds).mem)=znX (zT m ds) init.length 0 (⟨(zT m ds).ev.length,fun _=>0⟩,fun _=>0):=by
 have e:=zmc (zT m ds) (m.wr.map zF) 0 (ds.drop m.rs.length) (m.base.co,m.base.mem) fun j hj=>by
  rw [QN,h.wr.1] at hj;rw [UR,h.rank hd hj]
 obtain⟨_,b2,b3,_⟩:=zdl (init:=init) (Ps:=Ps);have e2:(m.base.co,m.base.mem)=((⟨(zT m ds).ev.length,fun _=>0⟩,fun _=>0):RelD×(Nat->UInt8)):=by
  rw [zfK,h.len,h.base,b2,b3];rfl
 rw [QN,h.wr.1] at e;show coG (zT m ds).ev 0 (m.wr.map zF) (ds.drop m.rs.length) (m.base.co,m.base.mem)=_;rw [e,e2]
theorem zkI (a:RelD):qM a a=true:=by
 unfold qM;rw [Us rfl,Uy,Qk];exact fun i _=>Us rfl
theorem ChoiceW.co (h:ChoiceW init Ps m) (hd:ds∈z7 (zM m)):zai (zT m ds) init.length=true:=by
 unfold zai;have e:=(zj1 (x:=zT m ds) init.length 0 (⟨(zT m ds).ev.length,fun _=>0⟩,fun _=>0) _).2 ⟨fun k _ hk=>by
  rw [h.rank hd (by omega)];exact (h.ch hd k (by omega)).2,h.res hd⟩
 rw [e];dsimp only;rw [zkI,Uy,Qk];exact fun l _=>Us rfl
end
theorem zb4 {r:RelD} {n:Nat} (hn:r.n=n) (h48:n<=48) (h:∀ i j,i<48->z3 r i j=true->i<n/\j<n):RelOk n r:=by
 refine .of hn h48 h fun i hi=>QA fun hge=>?_;obtain⟨j,hj1,hj2⟩:=Ja hge;have:=(h i j hi hj2).2;omega
theorem zpH (ev:List Ev) {i j:Nat}:z3 (poR ev) i j=true↔∃ e,ev[i]?=some e/\e.th ≠ -1/\i<j/\j<ev.length/\(ev.getD j ev0).th=e.th:=by
 unfold z3 poR;show (zbI ev i).testBit j=true↔_;unfold zbI
 cases he:ev[i]? with
 | none=>simp
 | some e =>
  have hi:i<ev.length:=(Js.1 he).1;dsimp only;by_cases h1:e.th = -1
  ·rw [Gp h1];simp [h1]
  ·rw [Gn h1,zmm];rw [Qu];constructor
   ·rintro (h | ⟨m,h2,h3,h4⟩)
    ·simp at h
    ·rw [zhD] at h4;exact⟨e,rfl,h1,by omega,by omega,by rw [h3];exact h4⟩
   ·rintro⟨e',he',_,h2,h3,h4⟩
    cases he'
    refine .inr ⟨j-(i+1),by omega,by omega,?_⟩;rw [zhD,show i+1+(j-(i+1))=j by omega];exact h4
theorem zlE:∀ (rs:List (Nat×List Nat)) (ds:List Nat) (f:Nat->Nat) (i j:Nat),(rfF rs ds f i).testBit j=true↔(f i).testBit j=true\/∃ (t:Nat) (r:Nat×List Nat),rs[t]?=some r/\i=r.2.getD (ds.getD t 0) 0/\j=r.1
 | [],ds,f,i,j=>⟨fun h => .inl h,fun h=>by
   rcases h with h | ⟨t,r,h,_⟩
   ·exact h
   ·simp at h⟩
 | (r,s)::rs,ds,f,i,j=>by
  show (rfF rs ds.tail (upd f (s.getD (ds.headD 0) 0) (f (s.getD (ds.headD 0) 0)|||2^r)) i).testBit j=true↔_;rw [zlE rs];have ht:∀ t,ds.tail.getD t 0=ds.getD (t+1) 0:=fun t=>by cases ds <;> rfl
  have h0:ds.headD 0=ds.getD 0 0:=by cases ds <;> rfl
  have hu:(upd f (s.getD (ds.headD 0) 0) (f (s.getD (ds.headD 0) 0)|||2^r) i).testBit j=true↔(f i).testBit j=true\/(i=s.getD (ds.getD 0 0) 0/\j=r):=by
   rw [h0];by_cases e:i=s.getD (ds.getD 0 0) 0
   ·rw [e,zK,Ur,za0,QH,dE];simp
   ·rw [qr _ _ e];exact⟨.inl,fun h=>h.resolve_right fun h2=>e h2.1⟩
  rw [hu];constructor
  ·rintro ((h | ⟨h1,h2⟩) | ⟨t,q,h1,h2,h3⟩)
   ·exact .inl h
   ·exact .inr ⟨0,(r,s),rfl,h1,h2⟩
   ·exact .inr ⟨t+1,q,h1,by rw [<- ht];exact h2,h3⟩
  ·rintro (h | ⟨t,q,h1,h2,h3⟩)
   ·exact .inl (.inl h)
   ·cases t with
    | zero =>
     have h1:some (r,s)=some q:=h1
     cases h1
     exact .inl (.inr ⟨h2,h3⟩)
    | succ t=>exact .inr ⟨t,q,h1,by rw [ht];exact h2,h3⟩
theorem zd8 (b:Nat):∀ (ps:List (Nat×Nat)) (f:Nat->Nat) (i j:Nat),(zeL b ps f i).testBit j=true↔(f i).testBit j=true\/∃ p∈ps,i=b+p.1/\j=b+p.2
 | [],f,i,j=>⟨fun h => .inl h,fun h=>by
   rcases h with h | ⟨p,h,_⟩
   ·exact h
   ·cases h⟩
 | p::ps,f,i,j=>by
  show (zeL b ps (upd f (b+p.1) (f (b+p.1)|||2^(b+p.2))) i).testBit j=true↔_;rw [zd8 b ps];have hu:(upd f (b+p.1) (f (b+p.1)|||2^(b+p.2)) i).testBit j=true↔(f i).testBit j=true\/(i=b+p.1/\j=b+p.2):=by
   by_cases e:i=b+p.1
   ·rw [e,zK,Ur,za0,QH,dE];simp
   ·rw [qr _ _ e];simp [e]
  rw [hu];constructor
  ·rintro ((h | h) | ⟨q,hq,h⟩)
   ·exact .inl h
   ·exact .inr ⟨p,KA,h⟩
   ·exact .inr ⟨q,JY _ hq,h⟩
  ·rintro (h | ⟨q,hq,h⟩)
   ·exact .inl (.inl h)
   ·rcases UC.1 hq with e | e
    ·rw [e] at h;exact .inl (.inr h)
    ·exact .inr ⟨q,e,h⟩
theorem getD_some {L:List Nat} {k:Nat} (h:k<L.length):L[k]?=some (L.getD k 0):=by
 rw [gDe,gE h];rfl
theorem zp5 {L:List Nat} {k v:Nat} (h:L[k]?=some v):L.getD k 0=v:=by
 rw [gDe,h];rfl
def zfn (sel:PathD->List (Nat×Nat)):Nat->List PathD->Nat->Nat->Prop
 | _,[],_,_=>False
 | b,P::Ps,i,j=>(∃ p∈sel P,i=b+p.1/\j=b+p.2)\/zfn sel (b+P.ev.length) Ps i j
theorem zfO (x:ExD) (k:Nat) (P:PathD):(jT x k P).ev.length=x.ev.length+P.ev.length:=by
 show (x.ev++za1 k P.ev).length=_;rw [lap];unfold za1;rw [QN]
theorem zo4:∀ (Ps:List PathD) (k:Nat) (x:ExD) (i j:Nat),z3 (asR k Ps x).dt i j=true↔z3 x.dt i j=true\/zfn PathD.data x.ev.length Ps i j
 | [],k,x,i,j=>⟨fun h => .inl h,fun h=>h.elim id False.elim⟩
 | P::Ps,k,x,i,j=>by
  show z3 (asR (k+1) Ps (jT x k P)).dt i j=true↔_;rw [zo4 Ps,zfO];show ((zeL x.ev.length P.data x.dt.to i).testBit j=true\/_)↔_;rw [zd8,or_assoc];rfl
theorem zo5:∀ (Ps:List PathD) (k:Nat) (x:ExD) (i j:Nat),z3 (asR k Ps x).ct i j=true↔z3 x.ct i j=true\/zfn PathD.ctrl x.ev.length Ps i j
 | [],k,x,i,j=>⟨fun h => .inl h,fun h=>h.elim id False.elim⟩
 | P::Ps,k,x,i,j=>by
  show z3 (asR (k+1) Ps (jT x k P)).ct i j=true↔_;rw [zo5 Ps,zfO];show ((zeL x.ev.length P.ctrl x.ct.to i).testBit j=true\/_)↔_;rw [zd8,or_assoc];rfl
theorem zo3:∀ (Ps:List PathD) (k:Nat) (x:ExD) (i j:Nat),z3 (asR k Ps x).rm i j=true↔z3 x.rm i j=true\/zfn PathD.rmw x.ev.length Ps i j
 | [],k,x,i,j=>⟨fun h => .inl h,fun h=>h.elim id False.elim⟩
 | P::Ps,k,x,i,j=>by
  show z3 (asR (k+1) Ps (jT x k P)).rm i j=true↔_;rw [zo3 Ps,zfO];show ((zeL x.ev.length P.rmw x.rm.to i).testBit j=true\/_)↔_;rw [zd8,or_assoc];rfl
theorem ziD {sel:PathD->List (Nat×Nat)}:∀ (Ps:List PathD) (k b i j:Nat),(∀ P∈Ps,∀ p∈sel P,p.1<P.ev.length/\p.2<P.ev.length)->zfn sel b Ps i j->i<b+(zdq k Ps).length/\j<b+(zdq k Ps).length
 | [],k,b,i,j,h,hd=>hd.elim
 | P::Ps,k,b,i,j,h,hd=>by
  have e:(zdq k (P::Ps)).length=P.ev.length+(zdq (k+1) Ps).length:=by
   show (za1 k P.ev++zdq (k+1) Ps).length=_;rw [lap];unfold za1;rw [QN]
  rw [e];rcases hd with ⟨p,hp,h1,h2⟩ | hd
  ·have:=h P KA p hp;omega
  ·have:=ziD Ps (k+1) _ i j (fun Q hQ=>h Q (JY _ hQ)) hd;omega
section
variable {init:List UInt8} {Ps:List PathD} {m:MixD} {ds:List Nat}
theorem zcG (n i j:Nat):¬ z3 (zcE n) i j=true:=fun h=>by
 have h:(0:Nat).testBit j=true:=h;simp at h
theorem znm (h:∀ P∈Ps,PathW init.length P):(∀ i j,z3 (jF init Ps).dt i j=true↔zfn PathD.data init.length Ps i j)/\(∀ i j,z3 (jF init Ps).ct i j=true↔zfn PathD.ctrl init.length Ps i j)/\∀ i j,z3 (jF init Ps).rm i j=true↔zfn PathD.rmw init.length Ps i j:=by
 obtain⟨x0,hx0⟩:∃ x0:ExD,x0={ ex0 (zan init.length Ps) with ev:=jc 0 init }:=⟨_,rfl⟩;have hl:x0.ev.length=init.length:=by rw [hx0];exact z5 init 0
 refine⟨fun i j=>?_,fun i j=>?_,fun i j=>?_⟩
 ·have:=zo4 Ps 0 x0 i j;rw [hl] at this;show z3 (asR 0 Ps _).dt i j=true↔_;rw [<- hx0,this];exact⟨fun h=>h.resolve_left (by rw [hx0];exact zcG _ i j),.inr⟩
 ·have:=zo5 Ps 0 x0 i j;rw [hl] at this;show z3 (asR 0 Ps _).ct i j=true↔_;rw [<- hx0,this];exact⟨fun h=>h.resolve_left (by rw [hx0];exact zcG _ i j),.inr⟩
 ·have:=zo3 Ps 0 x0 i j;rw [hl] at this;show z3 (asR 0 Ps _).rm i j=true↔_;rw [<- hx0,this];exact⟨fun h=>h.resolve_left (by rw [hx0];exact zcG _ i j),.inr⟩
theorem ChoiceW.rfb (h:ChoiceW init Ps m) (hd:ds∈z7 (zM m)) {i j:Nat}:z3 (zT m ds).rf i j=true↔∃ (t:Nat) (r:Nat×List Nat),m.rs[t]?=some r/\i∈r.2/\r.2[ds.getD t 0]?=some i/\j=r.1:=by
 obtain⟨h1,h2⟩:=zaE hd;obtain⟨b1,_⟩:=zdl (init:=init) (Ps:=Ps);have e:z3 (zT m ds).rf i j=(rfF m.rs ds m.base.rf.to i).testBit j:=rfl;rw [e,zlE];have z:¬ (m.base.rf.to i).testBit j=true:=by
  rw [h.base,b1];exact zcG _ i j
 have dig:∀ {t r},m.rs[t]?=some r->ds.getD t 0<r.2.length:=fun {t r} hr=>by
  have ht:=(Js.1 hr).1;have hs:(zM m)[t]?=some r.2.length:=by
   unfold zM;rw [Jr (by rw [QN];exact ht),KV,hr];rfl
  have hlen:t<ds.length:=by rw [h1];exact (Js.1 hs).1
  rw [gDe,gE hlen];exact h2 _ _ _ hs (gE hlen)
 constructor
 ·rintro (h | ⟨t,r,g1,g2,g3⟩)
  ·exact Gq h z
  ·have hlt:=dig g1;have e2:r.2[ds.getD t 0]?=some i:=by
    rw [g2];exact getD_some hlt
   exact⟨t,r,g1,JZ e2,e2,g3⟩
 ·rintro⟨t,r,g1,_,g2,g3⟩;exact .inr ⟨t,r,g1,(zp5 g2).symm,g3⟩
structure Rels6 (n:Nat) (x:ExD):Prop where
 po:RelOk n x.po
 rf:RelOk n x.rf
 co:RelOk n x.co
 dt:RelOk n x.dt
 ct:RelOk n x.ct
 rm:RelOk n x.rm
theorem ChoiceW.rels (h:ChoiceW init Ps m) (hd:ds∈z7 (zM m)):Rels6 (zT m ds).ev.length (zT m ds):=by
 have h48:=zev (ds:=ds) h;obtain⟨b1,b2,b3,b4,b5,b6⟩:=zdl (init:=init) (Ps:=Ps);have hl:(zT m ds).ev.length=zan init.length Ps:=by rw [zfK,h.len]
 have hn:((zan init.length Ps:Nat):Int)=((zT m ds).ev.length:Nat):=by rw [hl]
 obtain⟨d1,d2,d3⟩:=znm h.P;have hb:init.length+(zdq 0 Ps).length=(zT m ds).ev.length:=by
  rw [zfK,h.base,zdm,lap,z5]
 refine⟨?_,?_,?_,?_,?_,?_⟩
 ·have e:(zT m ds).po=poR (zT m ds).ev:=by
   show m.base.po=poR m.base.ev;rw [h.base];rfl
  rw [e];refine zb4 rfl h48 fun i j _ hb=>?_;obtain⟨e,he,_,_,h3,_⟩:=(zpH _).1 hb;exact⟨(Js.1 he).1,h3⟩
 ·refine zb4 (by show m.base.rf.n=_;rw [h.base,b1];exact hn) h48 fun i j _ hb=>?_;obtain⟨t,r,g1,g2,_,g3⟩:=(h.rfb hd).1 hb;obtain⟨s1,_,s3⟩:=h.src (JZ g1);exact⟨s3 i g2,by rw [g3];exact s1⟩
 ·obtain⟨c1,c2⟩:=h.chx hd;obtain⟨c0,hbits⟩:=zer m.base.ev (m.wr.map zF) 0 (ds.drop m.rs.length) (m.base.co,m.base.mem) c1 c2;refine zb4 (by show (coG m.base.ev 0 (m.wr.map zF) (ds.drop m.rs.length) (m.base.co,m.base.mem)).1.n=_;rw [c0,h.base,b2];exact hn) h48 fun i j _ hb=>?_;have hb:z3 (coG m.base.ev 0 (m.wr.map zF) (ds.drop m.rs.length) (m.base.co,m.base.mem)).1 i j=true:=hb;rcases (hbits i j).1 hb with ⟨k,a1,a2,a3⟩ | ⟨_,a2⟩
  ·rw [QN,h.wr.1] at a1;have hp:=(h.ch hd k a1).1;exact⟨zeC (hp.subset a2),zeC (hp.subset (List.mem_reverse.1 (zfy a3).1))⟩
  ·rw [h.base,b2] at a2;exact Gq a2 (zcG _ i j)
 ·refine zb4 (by show m.base.dt.n=_;rw [h.base,b4];exact hn) h48 fun i j _ hb=>?_;have hb:z3 m.base.dt i j=true:=hb;rw [h.base,d1] at hb;have:=ziD Ps 0 _ i j (fun P hP p hp=>(h.P P hP).b.dt p hp) hb;omega
 ·refine zb4 (by show m.base.ct.n=_;rw [h.base,b5];exact hn) h48 fun i j _ hb=>?_;have hb:z3 m.base.ct i j=true:=hb;rw [h.base,d2] at hb;have:=ziD Ps 0 _ i j (fun P hP p hp=>(h.P P hP).b.ct p hp) hb;omega
 ·refine zb4 (by show m.base.rm.n=_;rw [h.base,b6];exact hn) h48 fun i j _ hb=>?_;have hb:z3 m.base.rm i j=true:=hb;rw [h.base,d3] at hb;have:=ziD Ps 0 _ i j (fun P hP p hp=>(h.P P hP).b.rm p hp) hb;omega
end
theorem zqy {p:Prg} {V:List UInt8} (hO:OkG p) {x:ExD} (hx:x∈zR p V):∃ Ps m ds,ChoiceW p.init Ps m/\m∈zL p V/\qG m 1≠0/\ds∈z7 (zM m)/\x=zT m ds:=by
 obtain⟨m,hm,hx⟩:=List.mem_flatMap.1 hx;unfold qc at hx
 split at hx
 ·cases hx
 ·rename_i h1;obtain⟨d,_,h⟩:=zcd hO hm;obtain⟨ds,hds,rfl⟩:=UJ.1 hx;exact⟨_,m,ds,h,hm,h1,hds,rfl⟩
structure GoodX (k:Nat) (x:ExD):Prop where
 n:x.ev.length<=48
 k1:1<=k
 k6:k<=6
 kn:k<=x.ev.length
 ini:jb x.ev=k
 po:x.po=poR x.ev
 rels:Rels6 x.ev.length x
 co:zai x k=true
 ev0:(evA x 0).k=2/\(evA x 0).l=0
 w8:∀ l,(z9 x l).length<=8
theorem zhB:∀ (a b:List Ev),(∀ e∈a,e.th = -1)->(∀ e∈b,e.th ≠ -1)->jb (a++b)=a.length
 | [],b,_,hb=>by
  unfold jb
  cases b with
  | nil=>rfl
  | cons e b=>rw [QU,Ko,Gn (by simpa using hb e KA)]
 | e::a,b,ha,hb=>by
  rw [Qm,zkX,Gp (ha e KA),zhB a b (fun d hd=>ha d (JY _ hd)) hb,Qt]
theorem zl5 {n:Nat} (h:fct (n-1)<20001):n<=8:=by
 refine Nat.le_of_not_lt fun h9=>?_;have h1:fct 8<=fct (n-1):=zel (by omega);have h2:fct 8=40320:=rfl;omega
section
variable {init:List UInt8} {Ps:List PathD} {m:MixD} {ds:List Nat}
theorem ChoiceW.inits (h:ChoiceW init Ps m):jb m.base.ev=init.length:=by
 rw [h.base,zdm,zhB,z5]
 ·intro e he;obtain⟨i,hi,rfl⟩:=Kj he;rw [z5] at hi;have:=zaS init 0 hi;rw [gE (by rw [z5];exact hi)] at this;rw [Uf this]
 ·intro e he;obtain⟨P,hP,a,ha,t,_,_,rfl⟩:=zgG Ps 0 e he;show ((t:Nat):Int) ≠ -1;omega
theorem ChoiceW.good (h:ChoiceW init Ps m) (hd:ds∈z7 (zM m)) (h1:qG m 1≠0) (hc:qG m 20001<=20000):GoodX init.length (zT m ds):=by
 have hin:init.length<=m.base.ev.length:=by rw [h.len];exact zfQ _ _
 have e0:=h.ini (i:=0) (by have:=h.i1;omega);refine⟨zev h,h.i1,h.i6,hin,h.inits,?_,h.rels hd,h.co hd,?_,fun l=>?_⟩
 ·show m.base.po=poR m.base.ev;rw [h.base];rfl
 ·show (evA m.base 0).k=2/\(evA m.base 0).l=0;rw [e0];exact⟨rfl,rfl⟩
 ·show (z9 m.base l).length<=8;by_cases hl:l<init.length
  ·have hw:=h.wr.2 l hl;have hlw:l<m.wr.length:=by have:=h.wr.1;omega
   have hm:z9 m.base l∈m.wr:=by
    rw [<- hw,gDe,gE hlw];exact gM hlw
   exact zl5 (zgC (fun w hw=>(h.w1 hw).1) (lim:=20001) (by decide) (by omega) h1 _ hm)
  ·have:z9 m.base l=[]:=by
    refine Je.2 fun a ha=>?_;obtain⟨a1,a2,a3⟩:=zfF.1 ha;have hmem:evA m.base a∈(jF init Ps).ev:=by
     rw [<- h.base];unfold evA;rw [gDe,gE a1];exact gM a1
    have:=zex h.i6 h.P hmem (.inr (dT a2));omega
   rw [this];exact UZ _
end
theorem zlh {p:Prg} {V:List UInt8} {most:Nat} (hO:OkG p) (hc:zaH p V most) (hm:most<=20000) {x:ExD} (hx:x∈zR p V):GoodX p.init.length x:=by
 obtain⟨Ps,m,ds,h,hmm,h1,hd,rfl⟩:=zqy hO hx;refine h.good hd h1 ?_;have h2:=hc.2.2;have:=ziu (f:=fun m=>qG m 20001) hmm;omega
structure RightP (x:ExD):Prop where
 ev:jD x.ev (jb x.ev)=true
 rel:∀ r∈[x.po,x.rf,x.co,x.dt,x.ct,x.rm],r.n=x.ev.length/\okR r=true
 po:qM x.po (poR x.ev)=true
 rf:zaf x=true
 co:zai x (jb x.ev)=true
section
variable {k:Nat} {x:ExD} {i:Nat}
structure SpW (y:ExD):Prop where
 w20:∀ l,(z9 y l).length<=20
 po:zV y.po.to
 rf:zV y.rf.to
 co:zV y.co.to
 dt:zV y.dt.to
 ct:zV y.ct.to
 rm:zV y.rm.to
end
section
variable {init:List UInt8} {Ps:List PathD} {m:MixD} {ds:List Nat}
theorem zji (all:List Ev) (W:List (List Nat)):∀ (es:List Ev) (i j:Nat) (e:Ev),es[j]?=some e->e.k=1->∃ (t:Nat) (s:List Nat),(zbs all W i es)[t]?=some (i+j,s)
 | [],i,j,e,h,_=>by simp at h
 | d::es,i,0,e,h,hk=>by
  have e1:d=e:=by simpa using h
  subst e1;unfold zbs;rw [Gp hk];exact⟨0,_,rfl⟩
 | d::es,i,j+1,e,h,hk=>by
  obtain⟨t,s,ht⟩:=zji all W es (i+1) j e (by simpa using h) hk;rw [show i+1+j=i+(j+1) by omega] at ht;unfold zbs
  split
  ·exact⟨t+1,s,ht⟩
  ·exact⟨t,s,ht⟩
theorem zlG (all:List Ev) (W:List (List Nat)):∀ (es:List Ev) (i:Nat),(zbs all W i es).Pairwise (fun a b=>a.1<b.1)/\∀ r∈zbs all W i es,i<=r.1
 | [],i=>⟨.nil,fun r h=>by cases h⟩
 | d::es,i=>by
  obtain⟨h1,h2⟩:=zlG all W es (i+1);unfold zbs
  split
  ·refine⟨List.pairwise_cons.2 ⟨fun r hr=>?_,h1⟩,fun r hr=>?_⟩
   ·have:=h2 r hr;show i<r.1;omega
   ·rcases UC.1 hr with e | e
    ·rw [e];exact UW _
    ·have:=h2 r e;omega
  ·exact⟨h1,fun r hr=>by have:=h2 r hr;omega⟩
theorem ChoiceW.rs_one (h:ChoiceW init Ps m) {t t':Nat} {r r':Nat×List Nat} (h1:m.rs[t]?=some r) (h2:m.rs[t']?=some r') (he:r.1=r'.1):t=t':=by
 have hp:m.rs.Pairwise (fun a b=>a.1<b.1):=by rw [h.m];exact (zlG _ _ _ _).1
 obtain⟨l1,e1⟩:=Js.1 h1;obtain⟨l2,e2⟩:=Js.1 h2;rcases Nat.lt_trichotomy t t' with g | g | g
 ·have:=List.pairwise_iff_getElem.1 hp t t' l1 l2 g;rw [e1,e2] at this;omega
 ·exact g
 ·have:=List.pairwise_iff_getElem.1 hp t' t l2 l1 g;rw [e1,e2] at this;omega
theorem ChoiceW.rf (h:ChoiceW init Ps m) (hd:ds∈z7 (zM m)):zaf (zT m ds)=true:=by
 have hr:=h.rels hd;have dig:∀ {t r},m.rs[t]?=some r->ds.getD t 0<r.2.length:=fun {t r} hr=>by
  obtain⟨h1,h2⟩:=zaE hd;have ht:=(Js.1 hr).1;have hs:(zM m)[t]?=some r.2.length:=by
   unfold zM;rw [Jr (by rw [QN];exact ht),KV,hr];rfl
  have hlen:t<ds.length:=by rw [h1];exact (Js.1 hs).1
  rw [gDe,gE hlen];exact h2 _ _ _ hs (gE hlen)
 refine (zrf hr.rf).2 ⟨fun a b ha hb hab=>?_,fun b hb hrb=>⟨?_,fun i j hi hj h1 h2=>?_⟩⟩
 ·obtain⟨t,r,h1,h2,h3,h4⟩:=(h.rfb hd).1 hab;obtain⟨e,g1,g2,g3⟩:=h.rs (JZ h1);have hem:e∈(jF init Ps).ev:=by rw [<- h.base];exact JZ g1
  have hel:=zex h.i6 h.P hem (.inl g2);rw [g3,h.wr.2 _ hel] at h2;obtain⟨m1,m2⟩:=QT.1 h2;obtain⟨a1,a2,a3⟩:=zfF.1 m1;have eb:evA (zT m ds) b=e:=by
   show m.base.ev.getD b ev0=e;rw [h4,gDe,g1];rfl
  have m2:(evA m.base a).v=e.v:=dT m2;refine⟨a2,?_,?_,?_⟩
  ·unfold isR;rw [eb];exact Us g2
  ·rw [eb];exact Ug.1 a3
  ·rw [eb];exact m2
 ·have hb:b<m.base.ev.length:=hb;have hev:m.base.ev[b]?=some (evA m.base b):=by
   unfold evA;rw [gDe,gE hb];rfl
  have hk:(evA m.base b).k=1:=dT hrb;obtain⟨t,s,ht⟩:=zji m.base.ev m.wr m.base.ev 0 b _ hev hk;have ht:m.rs[t]?=some (0+b,s):=by
   have e:m.rs=zbs m.base.ev m.wr 0 m.base.ev:=by rw [h.m];rfl
   rw [e];exact ht
  rw [UR] at ht;have hlt:=dig ht;have e2:s[ds.getD t 0]?=some (s[ds.getD t 0]'hlt):=gE hlt;have hab:z3 (zT m ds).rf (s[ds.getD t 0]'hlt) b=true:=(h.rfb hd).2 ⟨t,(b,s),ht,JZ e2,e2,rfl⟩;exact⟨_,(h.src (JZ ht)).2.2 _ (JZ e2),hab⟩
 ·obtain⟨t,r,g1,g2,g3,g4⟩:=(h.rfb hd).1 h1;obtain⟨t',r',k1,k2,k3,k4⟩:=(h.rfb hd).1 h2;have et:=h.rs_one g1 k1 (by omega);subst et;rw [g1] at k1;obtain rfl:=Uf k1;rw [g3] at k3;exact Uf k3
end
def zsv (R:RunD):List Ev:=(List.range R.many).map R.ev
def zfp (t:Nat) (l:List Ev):List Ev:=(l.filter fun e=>decide (e.th=(t:Int))).map fun e=>{ e with th:=0 }
theorem zlS (t:Nat) (a b:List Ev):zfp t (a++b)=zfp t a++zfp t b:=by
 unfold zfp;rw [Kw,QR]
theorem zjs {t:Nat} {l:List Ev} (h:∀ e∈l,e.th≠(t:Int)):zfp t l=[]:=by
 unfold zfp;rw [JD.2 fun e he=>by simpa using h e he];rfl
theorem zru {t k:Nat} {l:List Ev} (h:∀ e∈l,e.th=0):zfp t (za1 k l)=if k=t then l else []:=by
 by_cases e:k=t
 ·subst e;rw [Gp rfl];unfold zfp za1;rw [List.filter_eq_self.2 fun a ha=>by
   obtain⟨b,_,rfl⟩:=UJ.1 ha;exact Us rfl,UH]
  conv=>rhs;rw [<- List.map_id l]
  refine Kl fun a ha=>?_;have:=h a ha
  cases a
  simp_all
 ·rw [Gn e];refine zjs fun a ha=>?_;obtain⟨b,_,rfl⟩:=UJ.1 ha;show ((k:Nat):Int)≠(t:Nat);omega
theorem zjt (t:Nat):∀ (Ps:List PathD) (k:Nat),(∀ P∈Ps,∀ e∈P.ev,e.th=0)->zfp t (zdq k Ps)=if k<=t then (match Ps[t-k]? with | some P=>P.ev | none=>[]) else []
 | [],k,_=>by
  have e:zfp t (zdq k [])=[]:=rfl;rw [e]
  split <;> simp
 | P::Ps,k,h=>by
  show zfp t (za1 k P.ev++zdq (k+1) Ps)=_;rw [zlS,zru (h P KA),zjt t Ps (k+1) fun Q hQ=>h Q (JY _ hQ)];by_cases e:k=t
  ·subst e;rw [Gp rfl,Gn (by omega),Gp (UW _),UO,QK];rfl
  ·rw [Gn e,QU];by_cases h1:k<=t
   ·rw [Gp (by omega),Gp h1];obtain⟨d,hd⟩:∃ d,t-k=d+1:=⟨t-k-1,by omega⟩;rw [hd,show t-(k+1)=d by omega,Jw]
   ·rw [Gn (by omega),Gn h1]
theorem zfX:∀ (Ps:List PathD) (k:Nat) (x:ExD) (i:Nat),(asR k Ps x).regs i=if k<=i/8 then (match Ps[i/8-k]? with | some P=>P.regs (i%8) | none=>x.regs i) else x.regs i
 | [],k,x,i=>by
  show x.regs i=_
  split <;> simp
 | P::Ps,k,x,i=>by
  show (asR (k+1) Ps (jT x k P)).regs i=_;rw [zfX Ps (k+1)];have e:(jT x k P).regs i=if i/8=k then P.regs (i%8) else x.regs i:=rfl
  rw [e];by_cases h:i/8=k
  ·rw [Gn (by omega),Gp h,Gp (by omega),h,UO];rfl
  ·rw [Gn h];by_cases h1:k<=i/8
   ·rw [Gp (by omega),Gp h1];obtain⟨d,hd⟩:∃ d,i/8-k=d+1:=⟨i/8-k-1,by omega⟩;rw [hd,show i/8-(k+1)=d by omega,Jw]
   ·rw [Gn (by omega),Gn h1]
theorem zih:∀ (Ts:List (List PathD)) (ds:List Nat),ds.length=Ts.length->(∀ (i n d:Nat),(Ts.map List.length)[i]?=some n->ds[i]?=some d->d<n) ->
  (qt Ts ds).length=Ts.length/\∀ (t:Nat) (T:List PathD) (d:Nat),Ts[t]?=some T->ds[t]?=some d->(qt Ts ds)[t]?=T[d]?
 | [],[],_,_=>⟨rfl,fun t T d h=>by simp at h⟩
 | [],d::ds,h,_=>by cases h
 | T::Ts,[],h,_=>by cases h
 | T::Ts,d::ds,h,hb=>by
  have hd:d<T.length:=hb 0 T.length d rfl rfl;obtain⟨h1,h2⟩:=zih Ts ds (by simpa using h) fun i n d' a b=>hb (i+1) n d' a b;have e:qt (T::Ts) (d::ds)=T[d]::qt Ts ds:=by
   show (match T[d]? with | some P=>[P] | none=>[])++qt Ts ds=_;rw [gE hd];rfl
  rw [e];refine⟨by rw [Qt,Qt,h1],fun t U d' hU hd'=>?_⟩
  cases t with
  | zero =>
   have hU:=Uf hU;have hd':=Uf hd';subst hU hd';exact (gE hd).symm
  | succ t =>
   rw [Jw];exact h2 t U d' hU hd'
section
variable {p:Prg} {V:List UInt8}
theorem znf (hO:OkG p) {m:MixD} {ds:List Nat} (hds:ds∈z7 ((p.threads.map (zu V)).map List.length)) (hm:zcR p.init (qt (p.threads.map (zu V)) ds)=some m) :
  ChoiceW p.init (qt (p.threads.map (zu V)) ds) m/\ds.length=p.threads.length/\∀ (t:Nat) (l:List InsD),p.threads[t]?=some l->∃ d,ds[t]?=some d/\∃ R,(qb l V)[d]?=some R/\(qt (p.threads.map (zu V)) ds)[t]?=some (zaa R)/\zfp t m.base.ev=zsv R/\∀ j,j<8->m.base.regs (8*t+j)=R.regs j:=by
 obtain⟨h1,h2⟩:=zaE hds;rw [QN,QN] at h1;obtain⟨g1,g2⟩:=zih (p.threads.map (zu V)) ds (by rw [QN];exact h1) h2;unfold zcR at hm
 split at hm
 case isFalse=>cases hm
 rename_i h48;have hm:=Uf hm;have hw:∀ P∈qt (p.threads.map (zu V)) ds,PathW p.init.length P:=fun P hP=>by
  obtain⟨T,hT,h2⟩:=zeN _ _ _ hP;obtain⟨l,hl,rfl⟩:=UJ.1 hT;exact zf5 hO hl h2
 have hC:ChoiceW p.init (qt (p.threads.map (zu V)) ds) m:=⟨hO.i1,hO.i6,by
  rw [g1,QN];have:=hO.t4;omega,hw,h48,hm.symm⟩
 refine⟨hC,h1,fun t l hl=>?_⟩;have ht:t<ds.length:=by rw [h1];exact (Js.1 hl).1
 have hT:(p.threads.map (zu V))[t]?=some (zu V l):=by rw [KV,hl];rfl
 have hd:ds[t]?=some ds[t]:=gE ht;have hlt:ds[t]<(qb l V).length:=by
  have:=h2 t (zu V l).length ds[t] (by rw [KV,hT];rfl) hd;have e:(zu V l).length=(qb l V).length:=QN ..;omega
 have hR:(qb l V)[ds[t]]?=some (qb l V)[ds[t]]:=gE hlt;have hP:(qt (p.threads.map (zu V)) ds)[t]?=some (zaa (qb l V)[ds[t]]):=by
  rw [g2 t _ _ hT hd];show ((qb l V).map zaa)[ds[t]]?=_;rw [KV,hR];rfl
 have hth:∀ P∈qt (p.threads.map (zu V)) ds,∀ e∈P.ev,e.th=0:=fun P hP e he=>by
  obtain⟨q,hq⟩:=List.mem_iff_getElem?.1 he;exact ((hw P hP).ev q e hq).1
 refine⟨ds[t],hd,(qb l V)[ds[t]],hR,hP,?_,fun j hj=>?_⟩
 ·rw [hC.base,zdm,zlS,zjt t _ 0 hth,Gp (UZ _),UP,hP,zjs,QU]
  ·rfl
  ·intro e he;obtain⟨i,hi,rfl⟩:=Kj he;rw [z5] at hi;have:=zaS p.init 0 hi;rw [gE (by rw [z5];exact hi)] at this;rw [Uf this];show (-1:Int)≠(t:Nat);omega
 ·have e:m.base.regs=(asR 0 (qt (p.threads.map (zu V)) ds) { ex0 (zan p.init.length (qt (p.threads.map (zu V)) ds)) with ev:=jc 0 p.init }).regs:=by rw [hC.base];rfl
  have e1:(8*t+j)/8=t:=by omega
  have e2:(8*t+j)%8=j:=by omega
  rw [e,zfX,e1,e2,Gp (UZ _),UP,hP];rfl
end
section
variable {b c:Nat} {x:ExD} {q:OA}
theorem j3 {X:Wd} (fx:zx X ⟨b,0,none⟩ (exC x q c)):X.cell? ⟨b,0+0,none⟩=some (.slice q x.ev.length c):=zc fx (i:=0) rfl
end
section
variable {b c:Nat} {x:ExD} {q:OA}
theorem zaO {X:Wd} (fx:ExH X b x q c) {i:Nat} (hi:i<6) {o:Nat} (ho:o=1+49*i):zx X ⟨b,0+o,none⟩ (zj ((zcB x).getD i x.po)):=by
 rw [ho];exact zeI fx hi
end
theorem zc4 {r:RelD} (h:ziV r=true):zV r.to:=by
 unfold ziV at h;rw [Qk] at h;exact fun i hi=>dT (h i (Uo.2 hi))
theorem zdh {x:ExD} {q:OA} {X:Wd} (hv:SlR evE X q x.ev) (h:0<x.ev.length):∃ bq oq,q=some ⟨bq,oq,none⟩/\bq<X.heap.size/\∀ i,i<x.ev.length->zx X ⟨bq,oq+i*7,none⟩ (evE.enc (evA x i)):=by
 obtain⟨b,o,hq,hb,hat⟩:=hv.at h;refine⟨b,o,hq,hb,fun i hi=>?_⟩;have:=hat i hi;unfold evA;rw [gDe,gE hi];exact this
theorem zpC {X:Wd} {b:Nat} {x:ExD} {q:OA} {c:Nat} (fx:ExH X b x q c):zx X ⟨b,0+1,none⟩ (zj x.po):=zaO fx (i:=0) (by decide) rfl
theorem zpB {X:Wd} {b:Nat} {x:ExD} {q:OA} {c:Nat} (fx:ExH X b x q c):zx X ⟨b,0+50,none⟩ (zj x.rf):=zaO fx (i:=1) (by decide) rfl
theorem zmM {X:Wd} {b:Nat} {x:ExD} {q:OA} {c:Nat} (fx:ExH X b x q c):zx X ⟨b,0+99,none⟩ (zj x.co):=zaO fx (i:=2) (by decide) rfl
theorem zpD {X:Wd} {b:Nat} {x:ExD} {q:OA} {c:Nat} (fx:ExH X b x q c):zx X ⟨b,0+148,none⟩ (zj x.dt):=zaO fx (i:=3) (by decide) rfl
theorem zpE {X:Wd} {b:Nat} {x:ExD} {q:OA} {c:Nat} (fx:ExH X b x q c):zx X ⟨b,0+197,none⟩ (zj x.ct):=zaO fx (i:=4) (by decide) rfl
theorem zpA {X:Wd} {b:Nat} {x:ExD} {q:OA} {c:Nat} (fx:ExH X b x q c):zx X ⟨b,0+246,none⟩ (zj x.rm):=zaO fx (i:=5) (by decide) rfl
theorem zsq {p:Bool} (h:(!p)=true):p=false:=by simpa using h
theorem zsp {p:Bool} (h:(!p)=false):p=true:=by simpa using h
theorem zqb {X:Wd} {b:Nat} {x:ExD} {q:OA} {c l:Nat} (fx:zx X ⟨b,0,none⟩ (exC x q c)) (hl:l<6):X.cell? ⟨b,0+295+32+l*1,none⟩=some (u8 (x.mem l)):=by
 have h:=zl7 (x:=x) q c;have h2:(exC x q c)[327+l]?=some (u8 (x.mem l)):=by
  have h3:(((exC x q c).drop 327).take 6)[l]?=some (u8 (x.mem l)):=by
   rw [h];unfold seg;rw [KV,Ki hl];rfl
  rw [List.getElem?_take_of_lt hl,Kx] at h3;exact h3
 have h4:=zc fx h2;rw [show 0+(327+l)=0+295+32+l*1 by omega] at h4;exact h4
def zrC (x:ExD):Bool:=decide (x.ev.length<=20)&&(ziV x.po&&(ziV x.rf&&(ziV x.co&&(ziV x.dt&&(ziV x.ct&&ziV x.rm)))))
theorem zp7 {X:Wd} {x:ExD} {q:OA} (h:zrC x=true) (he:SlR evE X q x.ev):ExV X x q:=by
 unfold zrC at h;simp only [bAT,dE] at h;obtain⟨h1,h2,h3,h4,h5,h6,h7⟩:=h;exact⟨he,h1,zc4 h2,zc4 h3,zc4 h4,zc4 h5,zc4 h6,zc4 h7⟩
def zaT (x:ExD):List Value:=seg 32 (fun i=>u8 (x.regs i))++seg 6 (fun i=>u8 (x.mem i))
theorem zaD (x:ExD):(zaT x).length=38:=by unfold zaT;rw [lap,zo,zo]
def zgB (x y:ExD):Bool:=(List.range 32).all (fun i=>decide (x.regs i=y.regs i))&&(List.range 6).all (fun i=>decide (x.mem i=y.mem i))
theorem zhj {m n:Nat} {f:Nat->UInt8} {i j:Nat} (hi:i<m) (h:m*n<=1000) (hj:j<n):zW (zW (seg (m*n) (fun i=>u8 (f i))) (i*n) n) (j*1) 1=[u8 (f (i*n+j))]:=by
 have hlt:i*n+j<m*n:=by
  have:(i+1)*n<=m*n:=Kd n hi;rw [UQ] at this;omega
 apply KR;intro k;unfold zW;rw [UX]
 cases k with
 | zero =>
  rw [List.getElem?_take_of_lt (by decide),Kx,UL,List.getElem?_take_of_lt hj,Kx,zax _ hlt];rfl
 | succ k =>
  rw [JK (by rw [Qv];omega),JK (by simp)]
theorem zqQ:∃ G,TyEq PG 53 true 38 4 G/\∀ x:ExD,G (zaT x):=by
 have r8:TyEq PG 49 true 8 2 _ := .array (m:=8) (by decide) Tryz.underlying49 (fun w=>Tryz.isAgg49 w) (qI (by kernel_rfl) (by kernel_rfl)).1 (by kernel_rfl) tU8;have r32:TyEq PG 50 true 32 3 _ := .array (m:=4) (by decide) Tryz.underlying50 (fun w=>Tryz.isAgg50 w) (qI (by kernel_rfl) (by kernel_rfl)).1 (by kernel_rfl) r8;have r6:TyEq PG 51 true 6 2 _ := .array (m:=6) (by decide) Tryz.underlying51 (fun w=>Tryz.isAgg51 w) (qI (by kernel_rfl) (by kernel_rfl)).1 (by kernel_rfl) tU8;refine⟨_,.struct (uf Tryz.underlying53).1 (by kernel_rfl) (fun w=>Tryz.isAgg53 w) (qI (by kernel_rfl) (by kernel_rfl)).1 (by kernel_rfl)
  (by rw [(uf Tryz.underlying53).2];exact .cons (by decide) rfl r32 (.cons (by decide) rfl (r6.up 1) .nil)),fun x=>?_⟩
 have e0:zW (zaT x) 0 32=seg (4*8) fun i=>u8 (x.regs i):=by
  unfold zaT zW;rw [Um,Jh (by rw [zo];decide),JH (by rw [zo];decide)]
 have e1:zW (zaT x) 32 6=seg (1*6) fun i=>u8 (x.mem i):=by
  unfold zaT zW;rw [Jf (by rw [zo];decide),JC (by rw [zo];decide),QU,JH (by rw [zo];decide)]
 refine⟨?_,?_,trivial⟩
 ·show ∀ i,i<4->∀ j,j<8->zr7 .u8 (zW (zW (zW (zaT x) 0 32) (i*8) 8) (j*1) 1);intro i hi j hj;rw [e0,zhj hi (by decide) hj];exact⟨_,rfl⟩
 ·show ∀ j,j<6->zr7 .u8 (zW (zW (zaT x) 32 6) (j*1) 1);intro j hj;rw [e1];have h:=zhj (m:=1) (n:=6) (f:=x.mem) (i:=0) (j:=j) (by decide) (by decide) hj;have h2:zW (seg (1*6) fun i=>u8 (x.mem i)) (0*6) 6=seg (1*6) fun i=>u8 (x.mem i):=by
   unfold zW;rw [US,Um,JH (by rw [zo];decide)]
  rw [h2] at h;rw [h];exact⟨_,rfl⟩
theorem zfz {n:Nat} {f g:Nat->UInt8}:seg n (fun i=>u8 (f i))=seg n (fun i=>u8 (g i))↔∀ i,i<n->f i=g i:=by
 constructor
 ·intro h i hi;have h1:=zax (n:=n) (fun i=>u8 (f i)) hi;rw [h,zax (n:=n) (fun i=>u8 (g i)) hi] at h1;have h2:=Uf h1;unfold u8 at h2;injection h2 with _ h3;exact (ji.1 h3).symm
 ·intro h;unfold seg;exact Kl fun i hi=>by rw [h i (Uo.1 hi)]
theorem zfI {x y:ExD}:zaT x=zaT y↔zgB x y=true:=by
 unfold zgB;rw [bAT,Qk,Qk];have hl:(seg 32 fun i=>u8 (x.regs i)).length=(seg 32 fun i=>u8 (y.regs i)).length:=by rw [zo,zo]
 constructor
 ·intro h;unfold zaT at h;obtain⟨h1,h2⟩:=List.append_inj h hl;exact⟨fun i hi=>Us (zfz.1 h1 i (Uo.1 hi)),fun i hi=>Us (zfz.1 h2 i (Uo.1 hi))⟩
 ·rintro⟨h1,h2⟩;unfold zaT;rw [zfz.2 fun i hi=>dT (h1 i (Uo.2 hi)),zfz.2 fun i hi=>dT (h2 i (Uo.2 hi))]
theorem zqg (u v:Operand) (x y:ExD) (w:Wd):(do eqGuard .eql 53 u v (.agg (zaT x).toArray) (.agg (zaT y).toArray);binOp .eql 53 (.agg (zaT x).toArray) (.agg (zaT y).toArray)).run PG w = .ok (.bool (zgB x y)) w:=by
 obtain⟨G,h1,h2⟩:=zqQ;have:=ziz h1 9996 rfl (by kernel_rfl) (zaD x) (zaD y) (h2 x) (h2 y) u v w;rw [this,zbx zfI,Kg]
theorem zpP (u v:Operand) (x y:ExD) (w:Wd):(do eqGuard .neq 53 u v (.agg (zaT x).toArray) (.agg (zaT y).toArray);binOp .neq 53 (.agg (zaT x).toArray) (.agg (zaT y).toArray)).run PG w = .ok (.bool (!zgB x y)) w:=by
 obtain⟨G,h1,h2⟩:=zqQ;have:=zkS h1 9996 rfl (by kernel_rfl) (zaD x) (zaD y) (h2 x) (h2 y) u v w;rw [this,zbx zfI,Kg]
theorem zgF {X:Wd} {b:Nat} {x:ExD} {q:OA} {c:Nat} (fx:ExH X b x q c):zx X ⟨b,0+295,none⟩ (zaT x):=by
 have h:=zG (n:=295) (m:=38) (za fx);have e:((exC x q c).toArray.toList.drop 295).take 38=zaT x:=by
  show ((exC x q c).drop 295).take 38=_;have e2:exC x q c=(.slice q x.ev.length c::(zj x.po++(zj x.rf++(zj x.co++(zj x.dt++(zj x.ct++zj x.rm))))))++zaT x:=by
   unfold exC zaT;simp only [KQ,Qm]
  have e3:(Value.slice q x.ev.length c::(zj x.po++(zj x.rf++(zj x.co++(zj x.dt++(zj x.ct++zj x.rm)))))).length=295:=by simp only [Qt,lap,zh]
  rw [e2,<- e3,Ul,JH (by rw [zaD];decide)]
 rw [e] at h;exact h
def zb2 (x y:ExD):Bool:=qM x.po y.po&&(qM x.rf y.rf&&(qM x.co y.co&&(qM x.dt y.dt&&(qM x.ct y.ct&&(qM x.rm y.rm&&zgB x y)))))
def zb1 (x y:ExD):Bool:=decide (x.ev.length=y.ev.length)&&((List.range x.ev.length).all (fun i=>decide (evA x i=evA y i))&&zb2 x y)
theorem jA (a:RelD):qM a a=true:=zeJ.1 rfl
theorem zmC (x:ExD):zb1 x x=true:=by
 unfold zb1 zb2;rw [jA,jA,jA,jA,jA,jA,zfI.1 rfl];simp
theorem zn1 {n i:Nat} {f:Nat->Bool} (hi:i<n) (h:f i=false):(List.range n).all f=false:=by
 rw [KN];exact⟨i,Uo.2 hi,by rw [h];decide⟩
theorem zmK {n:Nat} {f:Nat->Bool} (h:∀ i,i<n->f i=true):(List.range n).all f=true:=by
 rw [Qk];exact fun i hi=>h i (Uo.1 hi)
theorem zkL {k:Nat} {f:Nat->Bool} (h:∀ i,i<k->f i=true) (hk:f k=true):∀ i,i<k+1->f i=true:=fun i hi=>by
 by_cases e:i=k
 ·rw [e];exact hk
 ·exact h i (by omega)
section
variable {w:Wd} {c d:Nat} {x y:ExD} {q r:OA}
theorem ziO (hx0:SlR evE w q x.ev) (hy0:SlR evE w r y.ev) (hl:x.ev.length<4611686018427387904):CB 13 #[.agg (exC x q c).toArray,.agg (exC y r d).toArray] w (.bool (zb1 x y)):=by
 refine jf 78 [.agg (exC x q c).toArray,.agg (exC y r d).toArray] (.c .p (.c .p (.c .p .p))) Tryz.func13 ?_;obtain⟨L,hL⟩:=nm (w.heap.size);refine⟨Unit,fun _=>⟨[(2,At0 L),(3,At0 (L+1))],[]⟩,fun _ X=>ExH X L x q c/\ExH X (L+1) y r d/\Bw w X,?_,?_⟩
 ·have s1:=wz w (.cells (exC x q c).toArray 55);have h2:=zy (w.alloc (.cells (exC x q c).toArray 55)) (.cells (exC y r d).toArray 55);rw [s1] at h2;have b1:Bw w (w.alloc (.cells (exC x q c).toArray 55)):=zba w _;exact⟨(),⟨.cons (by rw [hL];rfl) (.cons (by rw [hL,<- s1];rfl) .nil),rfl⟩,by rw [hL];exact qF _ (zy w _),by rw [hL];exact h2,b1.alloc b1.size _⟩
 rintro _ X ⟨fX,fY,hbX⟩;refine⟨Unit,fun _=>⟨[(2,At0 L),(3,At0 (L+1))],[]⟩,fun _ Z=>x.ev.length=y.ev.length/\ExH Z L x q c/\ExH Z (L+1) y r d/\Bw w Z,?_,?_⟩
 ·refine⟨_,j3 (za fX),_,j3 (za fY),biE (fun h1=>?_) fun h1=>?_⟩
  ·have h1:=zsq h1;exact⟨rb (by unfold zb1;rw [Uh (fun e=>(dF h1) (by rw [e])),Uj]),hbX⟩
  ·have h1:=zsp h1;exact⟨(),(cvE rfl rfl),Uz (dT h1),fX,fY,hbX⟩
 clear fX fY hbX;rintro _ X ⟨hlen,fX,fY,hbX⟩;have hs:zb1 x y=((List.range x.ev.length).all (fun i=>decide (evA x i=evA y i))&&zb2 x y):=by unfold zb1;rw [Us hlen];rfl
 rw [hs];refine⟨Unit,fun _=>⟨[(2,At0 L),(3,At0 (L+1))],[]⟩,fun _ Z=>(List.range x.ev.length).all (fun i=>decide (evA x i=evA y i))=true/\ExH Z L x q c/\ExH Z (L+1) y r d/\Bw w Z,?_,?_⟩
 ·refine⟨_,j3 (za fX),Nat,fun i=>⟨[(2,At0 L),(3,At0 (L+1)),(15,i64 x.ev.length),(16,i64 (i:Nat))],[]⟩,fun i Z=>i<=x.ev.length/\(∀ j,j<i->decide (evA x j=evA y j)=true)/\ExH Z L x q c/\ExH Z (L+1) y r d/\Bw w Z,fun i=>x.ev.length-i,0,(cvE rfl rfl),⟨UZ _,fun j hj=>by omega,fX,fY,hbX⟩,?_⟩;clear fX fY hbX;rintro i X ⟨hi,hall,fX,fY,hbX⟩;dsimp only;refine biE (fun hc=>?_) fun hc=>?_
  ·have hc:(i:Int)<(x.ev.length:Int):=dT hc;have hin:i<x.ev.length:=by omega
   obtain⟨bx,ox,hqx,hbx,hatx⟩:=zdh hx0 (by omega);obtain⟨by_,oy,hqy,hby,haty⟩:=zdh hy0 (by omega);subst hqx hqy;have hx:bx<w.heap.size/\∀ i,i<x.ev.length->zx w ⟨bx,ox+i*7,none⟩ (evE.enc (evA x i)):=⟨hbx,hatx⟩;have hy:by_<w.heap.size/\∀ i,i<y.ev.length->zx w ⟨by_,oy+i*7,none⟩ (evE.enc (evA y i)):=⟨hby,haty⟩;have dX:Bw X X.drew:=(Gb _ _).drew;refine DrawE.ord [] [0,1,2,3,4,5,6,7,8,9,10] (by kernel_rfl) ?_;replace fX:=zb dX fX;replace fY:=zb dX fY;replace hbX:=zst hbX dX;refine⟨_,j3 (za fX),i,rfl,by omega,?_⟩;refine⟨_,rfl,zm hbX (hx.2 i (by omega)),nL hx.1 hbX.size,_,j3 (za fY),i,rfl,by omega,?_⟩;refine⟨_,rfl,zm hbX (hy.2 i (by omega)),nL hy.1 hbX.size,_,fun w=>zkT _ _ _ _ w,biE (fun h1=>?_) fun h1=>?_⟩
   ·have h1:=zsq h1;exact⟨rb (by rw [zn1 hin h1];rfl),hbX⟩
   ·have h1:=zsp h1;exact nxI (by omega) ⟨i+1,(cvE rfl rfl),⟨hin,zkL hall h1,fX,fY,hbX⟩,zdc (by omega)⟩
  ·have hc:¬ (i:Int)<(x.ev.length:Int):=dF hc;exact⟨(),(cvE rfl rfl),zmK fun j hj=>hall j (by omega),fX,fY,hbX⟩
 clear fX fY hbX;rintro _ X ⟨hev,fX,fY,hbX⟩;rw [hev,Uy];unfold zb2;refine⟨_,zh _,zpC fX,hlt fX,_,zh _,zpC fY,hlt fY,_,fun w=>zbg _ _ _ _ w,biE (fun h1=>?_) fun h1=>?_⟩
 ·refine⟨_,zh _,zpB fX,hlt fX,_,zh _,zpB fY,hlt fY,_,fun w=>zbg _ _ _ _ w,biE (fun h2=>?_) fun h2=>?_⟩
  ·refine⟨_,zh _,zmM fX,hlt fX,_,zh _,zmM fY,hlt fY,_,fun w=>zbg _ _ _ _ w,biE (fun h3=>?_) fun h3=>?_⟩
   ·refine⟨_,zh _,zpD fX,hlt fX,_,zh _,zpD fY,hlt fY,_,fun w=>zbg _ _ _ _ w,biE (fun h4=>?_) fun h4=>?_⟩
    ·refine⟨_,zh _,zpE fX,hlt fX,_,zh _,zpE fY,hlt fY,_,fun w=>zbg _ _ _ _ w,biE (fun h5=>?_) fun h5=>?_⟩
     ·refine⟨_,zh _,zpA fX,hlt fX,_,zh _,zpA fY,hlt fY,_,fun w=>zbg _ _ _ _ w,biE (fun h6=>?_) fun h6=>?_⟩
      ·exact⟨_,zaD _,zgF fX,hlt fX,_,zaD _,zgF fY,hlt fY,_,fun w=>zqg _ _ x y w,rb (by simp [h1,h2,h3,h4,h5,h6]),hbX⟩
      ·exact⟨rb (by simp [h1,h2,h3,h4,h5,h6]),hbX⟩
     ·exact brF ⟨rb (by simp [h1,h2,h3,h4,h5]),hbX⟩
    ·exact brF (brF ⟨rb (by simp [h1,h2,h3,h4]),hbX⟩)
   ·exact brF (brF (brF ⟨rb (by simp [h1,h2,h3]),hbX⟩))
  ·exact brF (brF (brF (brF ⟨rb (by simp [h1,h2]),hbX⟩)))
 ·exact brF (brF (brF (brF (brF ⟨rb (by simp [h1]),hbX⟩))))
end
theorem zhE (before:Nat->Nat):∀ (n left:Nat) (l:List Nat),left<2^64->(jV before n left l).Nodup
 | 0,left,l,hl=>by
  unfold jV
  split
  ·exact List.pairwise_singleton ..
  ·exact .nil
 | n+1,left,l,hl=>by
  unfold jV
  split
  ·exact List.pairwise_singleton ..
  ·show List.Pairwise _ _;rw [List.pairwise_flatMap];refine⟨fun a ha=>?_,List.Pairwise.imp_of_mem ?_ (zaU left)⟩
   ·split
    ·exact zhE before n _ _ (jM hl)
    ·exact .nil
   ·intro a b ha hb hab x hx y hy e
    split at hx
    ·split at hy
     ·obtain⟨s,hs,_⟩:=zem before n _ _ x (jM hl) hx;obtain⟨t,ht,_⟩:=zem before n _ _ y (jM hl) hy;rw [hs,ht,KQ,KQ] at e;have:=List.append_cancel_left e;simp only [List.singleton_append,QL] at this;exact hab this.1
     ·cases hy
    ·cases hx
theorem zot {w:List Nat} (hw:w.Nodup) {a b:Nat} (ha:a<w.length) (hb:b<w.length) (h:w.getD a 0=w.getD b 0):a=b:=by
 rw [gDe,gDe,gE ha,gE hb] at h;exact (List.getElem_inj hw).1 h
theorem ze9 {w:List Nat} (hw:w.Nodup):∀ {a b:List Nat},(∀ i∈a,i<w.length)->(∀ i∈b,i<w.length)->a.map (fun k=>w.getD k 0)=b.map (fun k=>w.getD k 0)->a=b
 | [],[],_,_,_=>rfl
 | [],y::b,_,_,h=>by cases h
 | x::a,[],_,_,h=>by cases h
 | x::a,y::b,ha,hb,h=>by
  rw [UB,UB,QL] at h;rw [zot hw (ha x KA) (hb y KA) h.1,ze9 hw (fun i hi=>ha i (JY _ hi)) (fun i hi=>hb i (JY _ hi)) h.2]
theorem zjk {w:List Nat} (hw:w.Nodup) (h1:1<=w.length) (hn:w.length<=48):(zF w).Nodup:=by
 unfold zF;dsimp only
 split
 ·refine List.pairwise_map.2 (List.Pairwise.imp_of_mem (R:=fun a b=>a≠b) ?_ ?_)
  ·intro a b ha hb hab e;have p1:=(zga h1 hn ha).1;have p2:=(zga h1 hn hb).1;exact hab (ze9 hw (fun i hi=>Uo.1 (p1.subset hi)) (fun i hi=>Uo.1 (p2.subset hi)) e)
  ·unfold za9
   split
   ·exact zhE _ _ _ _ (zdo _)
   ·exact .nil
 ·exact .nil
theorem zkJ (all:List Ev) (W:List (List Nat)):∀ (es:List Ev) (i:Nat),(zbs all W i es).Pairwise fun a b=>a.1<b.1
 | [],i => .nil
 | e::es,i=>by
  unfold zbs
  split
  ·refine List.pairwise_cons.2 ⟨fun r hr=>?_,zkJ all W es (i+1)⟩;obtain⟨j,d,_,_,h⟩:=zc5 all W es (i+1) r hr;rw [h];show i<i+1+j;omega
  ·exact zkJ all W es (i+1)
theorem zlR {α:Type} {key:α->Nat}:∀ {l:List α},l.Pairwise (fun a b=>key a<key b)->∀ {s t:Nat} {a b:α},l[s]?=some a->l[t]?=some b->key a=key b->s=t
 | [],_,s,t,a,b,h,_,_=>by simp at h
 | x::l,h,0,0,a,b,_,_,_=>rfl
 | x::l,h,0,t+1,a,b,ha,hb,e=>by
  have ha:=Uf ha;have:=(List.pairwise_cons.1 h).1 b (JZ hb);rw [ha] at this;omega
 | x::l,h,s+1,0,a,b,ha,hb,e=>by
  have hb:=Uf hb;have:=(List.pairwise_cons.1 h).1 a (JZ ha);rw [hb] at this;omega
 | x::l,h,s+1,t+1,a,b,ha,hb,e=>by rw [zlR (List.pairwise_cons.1 h).2 ha hb e]
theorem znY {a b:RelD} (h:qM a b=true) {i:Nat} (hi:i<48):a.to i=b.to i:=by
 unfold qM at h;rw [bAT,Qk] at h;exact dT (h.2 i (Uo.2 hi))
theorem zkz {x y:ExD} (h:zb1 x y=true):x.ev=y.ev/\qM x.rf y.rf=true/\qM x.co y.co=true:=by
 unfold zb1 zb2 at h;simp only [bAT] at h;obtain⟨h1,h2,_,h3,h4,_⟩:=h;refine⟨?_,h3,h4⟩;have h1:=dT h1;refine List.ext_getElem h1 fun i a b=>?_;have:=dT (Qk.1 h2 i (Uo.2 a));unfold evA at this;rw [gDe,gDe,gE a,gE b] at this;exact this
section
variable {init:List UInt8} {Ps:List PathD} {m:MixD} {ds es:List Nat}
theorem ChoiceW.dig_r (h:ChoiceW init Ps m) (hd:ds∈z7 (zM m)) {t:Nat} {r:Nat×List Nat} (hr:m.rs[t]?=some r):∃ d,ds[t]?=some d/\d<r.2.length:=by
 obtain⟨h1,h2⟩:=zaE hd;have ht:=(Js.1 hr).1;have hs:(zM m)[t]?=some r.2.length:=by
  unfold zM;rw [Jr (by rw [QN];exact ht),KV,hr];rfl
 have hlen:t<ds.length:=by rw [h1];exact (Js.1 hs).1
 exact⟨ds[t],gE hlen,h2 _ _ _ hs (gE hlen)⟩
theorem ChoiceW.wr_nodup (h:ChoiceW init Ps m) (l:Nat):(m.wr.getD l []).Nodup:=by
 by_cases hl:l<init.length
 ·rw [h.wr.2 l hl];exact List.nodup_range.filter _
 ·rw [gDe,JK (by rw [h.wr.1];omega)];exact .nil
theorem ChoiceW.rf_dig (h:ChoiceW init Ps m) (hd:ds∈z7 (zM m)) (he:es∈z7 (zM m)) (hs:qM (zT m ds).rf (zT m es).rf=true) {t:Nat} (ht:t<m.rs.length):ds[t]?=es[t]?:=by
 have hr:m.rs[t]?=some m.rs[t]:=gE ht;obtain⟨d,d1,d2⟩:=h.dig_r hd hr;obtain⟨e,e1,e2⟩:=h.dig_r he hr;have hn:m.rs[t].2.Nodup:=by
  obtain⟨_,_,_,hr2⟩:=h.rs (gM ht);rw [hr2];exact (h.wr_nodup _).filter _
 have hi:m.rs[t].2[d]?=some m.rs[t].2[d]:=gE d2;have b1:z3 (zT m ds).rf m.rs[t].2[d] m.rs[t].1=true:=(h.rfb hd).2 ⟨t,_,hr,gM d2,by rw [gDe,d1];exact hi,rfl⟩;have h48:m.rs[t].2[d]<48:=by
  have:=(h.src (gM ht)).2.2 _ (gM d2);have:=h.n;rw [<- h.len] at this;omega
 have b2:z3 (zT m es).rf m.rs[t].2[d] m.rs[t].1=true:=by
  unfold z3 at b1 ⊢;rw [<- znY hs h48];exact b1
 obtain⟨t',r',g1,_,g3,g4⟩:=(h.rfb he).1 b2;have hp:m.rs.Pairwise fun a b=>a.1<b.1:=by
  rw [h.m];exact zkJ _ _ _ _
 have htt:=zlR (key:=fun a:Nat×List Nat=>a.1) hp hr g1 g4;subst htt;have hrr:=Uf (hr.symm.trans g1);rw [<- hrr,gDe,e1] at g3;have g3:m.rs[t].2[e]?=some m.rs[t].2[d]:=g3;rw [gE e2] at g3;have:=(List.getElem_inj hn).1 (Uf g3);rw [d1,e1,this]
theorem ChoiceW.dig_w (h:ChoiceW init Ps m) (hd:ds∈z7 (zM m)) {l:Nat} (hl:l<init.length):∃ d,ds[m.rs.length+l]?=some d/\∃ hlt:d<(zF (z9 m.base l)).length,chR (m.wr.map zF) (ds.drop m.rs.length) l=(zF (z9 m.base l))[d]:=by
 obtain⟨h1,h2⟩:=zaE hd;obtain⟨w1,w2⟩:=h.wr;have hlw:l<m.wr.length:=by omega
 have hw:m.wr[l]=z9 m.base l:=by
  have:=w2 l hl;rw [gDe,gE hlw] at this;exact this
 have hs:(zM m)[m.rs.length+l]?=some (zF (z9 m.base l)).length:=by
  unfold zM;rw [Jn (by rw [QN];omega),QN,Jz,KV,gE hlw,hw];rfl
 have hlen:m.rs.length+l<ds.length:=by rw [h1];exact (Js.1 hs).1
 have hdl:=h2 _ _ _ hs (gE hlen);refine⟨ds[m.rs.length+l],gE hlen,hdl,?_⟩;have e1:(m.wr.map zF).getD l []=zF (z9 m.base l):=by
  rw [gDe,KV,gE hlw,hw];rfl
 have e2:(ds.drop m.rs.length).getD l 0=ds[m.rs.length+l]:=by
  rw [gDe,Kx,gE hlen];rfl
 unfold chR;rw [e1,e2,gDe,gE hdl];rfl
theorem ChoiceW.co_dig (h:ChoiceW init Ps m) (hd:ds∈z7 (zM m)) (he:es∈z7 (zM m)) (hs:qM (zT m ds).co (zT m es).co=true) {l:Nat} (hl:l<init.length):ds[m.rs.length+l]?=es[m.rs.length+l]?:=by
 obtain⟨d,d1,d2,d3⟩:=h.dig_w hd hl;obtain⟨e,e1,e2,e3⟩:=h.dig_w he hl;obtain⟨c1,c2⟩:=h.chx he;have hlw:l<(m.wr.map zF).length:=by rw [QN,h.wr.1];exact hl
 obtain⟨_,hb⟩:=zer m.base.ev (m.wr.map zF) 0 (es.drop m.rs.length) (m.base.co,m.base.mem) c1 c2;have hr:zQ (zT m ds) l=chR (m.wr.map zF) (es.drop m.rs.length) l:=by
  refine zfZ (zev h) (h.ch he l hl).1 fun i hi j=>?_;have hi48:i<48:=by
   have:=zeC ((h.ch he l hl).1.subset hi);have:=h.n;rw [<- h.len] at this;omega
  have e:z3 (zT m ds).co i j=z3 (coG m.base.ev 0 (m.wr.map zF) (es.drop m.rs.length) (m.base.co,m.base.mem)).1 i j:=by
   unfold z3;rw [znY hs hi48];rfl
  rw [e,Bool.eq_iff_iff,hb,dE];constructor
  ·rintro (⟨k,a1,a2,a3⟩ | ⟨a1,a2⟩)
   ·have:=c2 i k l a1 hlw a2 hi;rw [<- this];exact a3
   ·exact Gq hi (a1 l hlw)
  ·exact fun hj => .inl ⟨l,hlw,hi,hj⟩
 rw [h.rank hd hl,d3,e3] at hr;obtain⟨g1,_⟩:=h.head hl;have h48:(z9 m.base l).length<=48:=by
  have:=zfv m.base l;have:=h.n;have:=h.len;omega
 have:=(List.getElem_inj (zjk (List.nodup_range.filter _) g1 h48)).1 hr;rw [d1,e1,this]
theorem ChoiceW.same (h:ChoiceW init Ps m) (hd:ds∈z7 (zM m)) (he:es∈z7 (zM m)) (hs:zb1 (zT m ds) (zT m es)=true):ds=es:=by
 obtain⟨_,h2,h3⟩:=zkz hs;have l1:=(zaE hd).1;have l2:=(zaE he).1;have hl:(zM m).length=m.rs.length+init.length:=by
  unfold zM;rw [lap,QN,QN,h.wr.1]
 refine KR fun t=>?_;by_cases ht:t<m.rs.length
 ·exact h.rf_dig hd he h2 ht
 ·by_cases ht2:t<m.rs.length+init.length
  ·have:=h.co_dig hd he h3 (l:=t-m.rs.length) (by omega);rw [show m.rs.length+(t-m.rs.length)=t by omega] at this;exact this
  ·rw [JK (by omega),JK (by omega)]
end
section
variable {n:Nat}
theorem zjX (hn:n<=48) {a b:Nat} (ha:a<n) (h:((zN (crs n)).to a).testBit b=true):b=0/\a≠0:=by
 have h1:=zdn (ziF hn) (i:=a) (j:=b) (by omega);unfold z3 at h1;rw [h1,bAT] at h;obtain⟨hb,h⟩:=h;have hb:=dT hb;have h:(if b<n then (if Nat.testBit 1 b then zaA (jv n) 1&&&jv n else 0) else 0).testBit a=true:=h;rw [Gp hb] at h
 split at h
 ·rename_i h2;have hb0:b=0:=by
   refine Nat.eq_zero_of_not_pos fun hp=>?_;rw [JI (show 1<2^b from Nat.one_lt_two_pow (by omega))] at h2
   cases h2
  refine⟨hb0,fun ha0=>?_⟩;rw [Uc,zaz,bAT] at h;have e:qX (jv n) 1=qX (jv n) (2^0):=rfl;rw [e,zbk (by decide) (by omega),ha0] at h;simp at h
 ·rw [QE] at h;cases h
theorem zql (hn:n<=48):zg4 (crs n)=true:=by
 rw [zqI (ziF hn)];intro S hS he;have hS64:S<2^64:=by
  refine KF ?_ (zaG (n:Int));rw [<- he];exact Qy
 have hin:∀ i,S.testBit i=true->i<n:=fun i hi=>by
  have h1:i<64:=by
   refine QA fun h=>?_;rw [JI (nL hS64 (Ke (by decide) h))] at hi
   cases hi
  rw [<- he,Uc,bAT] at hi;rw [zbz (by omega) (by omega) h1] at hi;have:=dT hi.2;omega
 have free:∀ a,a<n->(∀ b,S.testBit b=true->b=0->a=0)->(zN (crs n)).to a&&&S=0:=fun a ha h=>by
  refine Kc fun i=>?_;rw [Uc,QE]
  cases h1:((zN (crs n)).to a).testBit i
  ·rfl
  ·obtain⟨h2,h3⟩:=zjX hn ha h1
   cases h4:S.testBit i
   ·rfl
   ·exact Gq (h i h4 h2) h3
 by_cases h0:S.testBit 0=true
 ·exact⟨0,zah.2 ⟨by decide,h0⟩,free 0 (hin 0 h0) fun _ _ _=>rfl⟩
 ·have hne:els S≠[]:=fun e=>hS (zcs hS64 (by rw [e];rfl));obtain⟨a,t,hat⟩:=List.exists_cons_of_ne_nil hne;have ha:a∈els S:=by rw [hat];exact KA
  exact⟨a,ha,free a (hin a (zah.1 ha).2) fun b hb hb0=>by rw [hb0] at hb;exact Gq hb h0⟩
end
theorem zpw {x y:ExD} (he:x.ev=y.ev) (hp:x.po=y.po) (hr:qM x.rf y.rf=true) (hc:qM x.co y.co=true) (hd:x.dt=y.dt) (hct:x.ct=y.ct) (hrm:x.rm=y.rm) (hf:zgB x y=true):zb1 x y=true:=by
 unfold zb1 zb2;rw [hp,hd,hct,hrm,jA,jA,jA,jA,hr,hc,hf];have e:∀ i,evA x i=evA y i:=fun i=>by unfold evA;rw [he]
 simp [he,e]
theorem zl2 {α β:Type} {f:α->List β} {b:Nat}:∀ {l:List α},(∀ a∈l,(f a).length=b)->(l.flatMap f).length=l.length*b
 | [],_=>by simp
 | a::l,h=>by
  rw [KT,lap,Qt,UQ,h a KA,zl2 (l:=l) fun x hx=>h x (JY _ hx),UK]
theorem zbM {a:Nat}:∀ {L:List Nat},L.Nodup->a∈L->(L.filter fun i => !decide (i=a)).length+1=L.length
 | [],_,h=>by cases h
 | y::L,hn,h=>by
  have hn2:=QV.1 hn;by_cases e:y=a
  ·subst e;rw [Qo,Gn (by simp),List.filter_eq_self.2 fun z hz=>by
    have:z≠y:=fun e=>hn2.1 (by rw [<- e];exact hz);simp [this]]
   rfl
  ·rw [Qo,Gp (by simp [e]),Qt,Qt,zbM hn2.2 ((UC.1 h).resolve_left fun e2=>e e2.symm)]
theorem zki {before left a:Nat} (hl:left<2^64) (h:∀ b∈els left,before.testBit b=false):before&&&left=0:=by
 refine Kc fun i=>?_;rw [Uc,QE];by_cases hi:left.testBit i=true
 ·have hi64:i<64:=by
   refine QA fun h=>?_;rw [JI (nL hl (Ke (by decide) h))] at hi
   cases hi
  rw [h i (zah.2 ⟨hi64,hi⟩),Uj]
 ·rw [Qj] at hi;rw [hi,Ui]
theorem zl6 (before:Nat->Nat):∀ (n left:Nat) (l:List Nat),left<2^64->(els left).length<=n->(∀ a∈els left,∀ b∈els left,(before a).testBit b=false)->(jV before n left l).length=fct (els left).length
 | 0,left,l,hl,hn,hb=>by
  have h0:left=0:=zcs hl (by rw [Qs];exact List.length_eq_zero_iff.1 (by omega));unfold jV;rw [Gp h0,h0,jW];rfl
 | n+1,left,l,hl,hn,hb=>by
  unfold jV;by_cases h0:left=0
  ·rw [Gp h0,h0,jW];rfl
  ·rw [Gn h0];have hne:els left≠[]:=fun e=>h0 (zcs hl (by rw [e];rfl));obtain⟨k,hk⟩:∃ k,(els left).length=k+1:=⟨(els left).length-1,by have:=List.length_pos_iff.2 hne;omega⟩;rw [zl2 (b:=fct k) fun a ha=>by
    have hfl:=zbM (zaU left) ha;rw [Gp (zki (a:=a) hl (hb a ha)),zaz,zl6 before n _ _ (jM hl) (by rw [zac hl ha];omega) fun c hc d hd=>by
     rw [zac hl ha] at hc hd;exact hb c (QT.1 hc).1 d (QT.1 hd).1,zac hl ha]
    congr 1;omega,hk]
   rfl
theorem zl3 {f:Nat->List (List Nat)}:∀ {l:List Nat},l.Nodup->0∈l->(∀ a∈l,a≠0->f a=[])->(l.flatMap f).length=(f 0).length
 | [],_,h,_=>by cases h
 | a::l,hn,h0,h=>by
  have hn2:=QV.1 hn;rw [KT,lap];by_cases e:a=0
  ·subst e;have:l.flatMap f=[]:=List.flatMap_eq_nil_iff.2 fun x hx=>h x (JY _ hx) fun e=>hn2.1 (by rw [<- e];exact hx);rw [this];rfl
  ·rw [h a KA e,zl3 hn2.2 ((UC.1 h0).resolve_left fun e2=>e e2.symm) fun x hx=>h x (JY _ hx)];exact UR _
theorem zju {n:Nat} (h1:1<=n) (hn:n<=48):(za9 (crs n)).length=fct (n-1):=by
 unfold za9;rw [Gp (zql hn)];have e:els (jv ((n:Nat):Int))=List.range n:=by rw [zaj];exact zdi (by omega)
 have hall:=zdo (n:Int);have e0:(0:Nat)∈els (jv ((n:Nat):Int)):=by rw [e];exact Uo.2 (by omega)
 have hne:jv ((n:Nat):Int)≠0:=fun h=>by rw [h,jW] at e0;cases e0
 show (jV (zN (crs n)).to 64 (jv ((n:Nat):Int)) []).length=_;unfold jV;have nb:∀ a b,a∈els (jv ((n:Nat):Int))->((zN (crs n)).to a).testBit b=true->b=0/\a≠0:=fun a b ha hb=>zjX hn (by rw [e] at ha;exact Uo.1 ha) hb;rw [Gn hne,zl3 (zaU _) e0 fun a ha h0=>?_]
 ·rw [Gp (zki (a:=0) hall fun b hb=>?_),zaz,zl6 _ _ _ _ (jM hall) ?_ fun a ha b hb=>?_]
  ·have:=zbM (zaU _) e0;rw [zac hall e0,e];rw [e,KW] at this;congr 1;omega
  ·have:=zbM (zaU _) e0;rw [zac hall e0,e];rw [e,KW] at this;show (List.filter (fun i => !decide (i=0)) (List.range n)).length<=63;omega
  ·rw [zac hall e0] at ha hb
   cases hc:((zN (crs n)).to a).testBit b
   ·rfl
   ·have h3:=(nb a b (QT.1 ha).1 hc).1;have h4:=(QT.1 hb).2;rw [h3] at h4;simp at h4
  ·cases hc:((zN (crs n)).to 0).testBit b
   ·rfl
   ·exact Gq rfl (nb 0 b e0 hc).2
 ·refine Gn fun h2=>?_;have ha2:a<n:=by rw [e] at ha;exact Uo.1 ha
  have h3:=zgM hn ha2 h0;have h4:(jv ((n:Nat):Int)).testBit 0=true:=(zah.1 e0).2;have h5:((zN (crs n)).to a&&&jv ((n:Nat):Int)).testBit 0=true:=by rw [Uc,h3,h4];rfl
  rw [h2] at h5;simp at h5
theorem zn0 {w:List Nat} (h1:1<=w.length) (hn:w.length<=48) (hf:fct (w.length-1)<=10000):(zF w).length=fct (w.length-1):=by
 unfold zF;dsimp only;rw [Gp (by rw [zju h1 hn];exact hf),QN,zju h1 hn]
theorem zjp:∀ ws:List (List Nat),(∀ w∈ws,(1<=w.length/\w.length<=48)/\fct (w.length-1)<=10000)->zS (ws.map fun w=>(zF w).length)=zap ws
 | [],_=>rfl
 | w::ws,h=>by
  have h1:=h w KA;show (zF w).length*zS (ws.map fun w=>(zF w).length)=fct (w.length-1)*zap ws;rw [zn0 h1.1.1 h1.1.2 h1.2,zjp ws fun v hv=>h v (JY _ hv)]
theorem zlg {m:MixD} (hw:∀ w∈m.wr,1<=w.length/\w.length<=48) (h:qG m 20001<=20000):(qc m).length=qG m 20001:=by
 unfold qc
 split
 ·rename_i h1;rw [zqu (fun w hm=>(hw w hm).1) (by decide) (by decide) h1];rfl
 ·rename_i h1;have hs:=(zcY fun w hm=>(hw w hm).1).1 h1;have e:=zcv (m:=m) (lim:=20001) (by decide) fun w hm=>(hw w hm).1;rw [Gp hs] at e;have hp:zaK (m.rs.map (·.2))*zap m.wr=qG m 20001:=by
   by_cases hb:zaK (m.rs.map (·.2))*zap m.wr<=20001
   ·rw [e,Ua hb]
   ·rw [Nat.min_eq_right (by omega)] at e;omega
  rw [zhN,<- hp];unfold zM;have e2:zS (m.rs.map (fun r=>r.2.length)++m.wr.map fun w=>(zF w).length).reverse=zS (m.rs.map (fun r=>r.2.length)++m.wr.map fun w=>(zF w).length):=by
   rw [zc6];unfold za3;rw [zdf,UY]
  have h8:∀ w∈m.wr,fct (w.length-1)<=10000:=fun w hm=>by
   have:=zl5 (zgC (fun w hm=>(hw w hm).1) (lim:=20001) (by decide) (by omega) h1 w hm);exact UM (zel (b:=7) (by omega)) (by decide)
  rw [e2,zbj,zif,zjp _ fun w hm=>⟨hw w hm,h8 w hm⟩]
section
variable {p:Prg} {V:List UInt8}
theorem zfj (hO:OkG p) {most:Nat} (hc:zaH p V most) (hm:most<=20000):(zR p V).length=((zL p V).map fun m=>qG m 20001).sum:=by
 rw [List.length_flatMap];congr 1;refine Kl fun m hmm=>?_;obtain⟨ds,_,hC⟩:=zcd hO hmm;refine zlg (fun w hw=>hC.w1 hw) ?_;have h2:=hc.2.2;have:=ziu (f:=fun m=>qG m 20001) hmm;omega
theorem zli (hO:OkG p) {most:Nat} (hc:zaH p V most) (hm:most<=20000):zaH p V (zR p V).length/\(0<(zR p V).length->∀ U,¬ zaH p U ((zR p V).length-1)):=by
 have h:=zfj hO hc hm;refine⟨⟨hc.1,hc.2.1,by rw [h];exact UW _⟩,fun h0 U hU=>?_⟩;have e:U=V:=by
  have:=hU.1;rw [hc.1] at this;exact (Uf this).symm
 subst e;have:=hU.2.2;omega
end
theorem zjO {α β:Type} {f g:α->Option β}:∀ {l:List α},(∀ a∈l,f a=g a)->l.filterMap f=l.filterMap g
 | [],_=>rfl
 | a::l,h=>by
  rw [List.filterMap_cons,List.filterMap_cons,h a KA,zjO fun b hb=>h b (JY _ hb)]
theorem zjQ {α β:Type} {f g:α->List β}:∀ {l:List α},(∀ a∈l,f a=g a)->l.flatMap f=l.flatMap g
 | [],_=>rfl
 | a::l,h=>by
  rw [KT,KT,h a KA,zjQ fun b hb=>h b (JY _ hb)]
def mvI:InsD:=⟨3,7,0,false,3,false,4,1,0,0⟩
def mvR:RunD:=goR [mvI] 1 zh7
def mvP:PathD:=zaa mvR
def zbK (p:Prg):Prg:={ p with threads:=p.threads++[[mvI]] }
theorem zio (V:List UInt8):qb [mvI] V=[mvR]:=rfl
theorem zpR:mvP=⟨[],[],[],[],upd (fun _=>0) 7 7⟩:=rfl
theorem zmW (V:List UInt8):jJ (qb [mvI] V)=[]:=by
 rw [zio];unfold jJ;rw [JD];intro v _;show ¬ ([mvR].any fun R=>(List.range R.many).any _)=true;have:mvR.many=0:=rfl;simp [this]
theorem zhK {n m locs:Nat} (h:n<=m):∀ (d:Nat) (c:Cnd),jE n locs d c=true->jE m locs d c=true
 | 0,c,h0=>by cases c;cases h0
 | d+1,.mk k t n' v kids,h0=>by
  unfold jE at h0 ⊢;dsimp only at h0 ⊢;have kid:kids.all (jE n locs d)=true->kids.all (jE m locs d)=true:=fun hk=>Qk.2 fun c hc=>zhK h d c (Qk.1 hk c hc)
  split
  ·rename_i e;rw [Gp e] at h0;exact h0
  ·rename_i e0;rw [Gn e0] at h0
   split
   ·rename_i e;rw [Gp e] at h0;rw [bAT,dE] at h0 ⊢;exact⟨by omega,h0.2⟩
   ·rename_i e1;rw [Gn e1] at h0
    split
    ·rename_i e;rw [Gp e] at h0;exact h0
    ·rename_i e2;rw [Gn e2] at h0
     split
     ·rename_i e;rw [Gp e] at h0;obtain⟨x,y⟩:=Bool.and_eq_true_iff.1 h0;obtain⟨y1,y2⟩:=Bool.and_eq_true_iff.1 y;exact Bool.and_eq_true_iff.2 ⟨x,Bool.and_eq_true_iff.2 ⟨y1,kid y2⟩⟩
     ·rename_i e3;rw [Gn e3] at h0
      split
      ·rename_i e;rw [Gp e] at h0;obtain⟨x,y⟩:=Bool.and_eq_true_iff.1 h0;obtain⟨y1,y2⟩:=Bool.and_eq_true_iff.1 y;exact Bool.and_eq_true_iff.2 ⟨x,Bool.and_eq_true_iff.2 ⟨y1,kid y2⟩⟩
      ·rename_i e4;rw [Gn e4] at h0;cases h0
theorem zmX {k:Nat}:z8 [mvI] k=true:=rfl
theorem zpN {p:Prg} (h:zbu p=true) (h3:p.threads.length<=3):zbu (zbK p)=true:=by
 unfold zbu at h ⊢;rw [bAT,bAT,bAT,bAT,bAT,bAT,bAT] at h ⊢;obtain⟨h1,h2,⟨h3a,h3b,h3c⟩,h4,h5,h6⟩:=h;have hl:(zbK p).threads.length=p.threads.length+1:=by show (p.threads++[[mvI]]).length=_;rw [lap];rfl
 refine⟨h1,h2,⟨?_,?_,?_⟩,?_,h5,?_⟩
 ·exact Us (by omega)
 ·exact Us (by omega)
 ·show (p.threads++[[mvI]]).all _=true;rw [QJ,h3c];rfl
 ·show (p.threads++[[mvI]]).all (fun l=>z8 l p.locs.length)=true;rw [QJ,h4];show (true&&(z8 [mvI] p.locs.length&&true))=true;rw [zmX];rfl
 ·exact zhK (by omega) 20 p.cond h6
theorem zm4 (ths:List (List InsD)) (vals:List UInt8):zaC (ths++[[mvI]]) vals=zaC ths vals:=by
 unfold zaC;rw [Kh];show qO (vals++(_++(jJ (qb [mvI] vals)++[])))=_;rw [zmW,QK,QK]
theorem zg7 (ths:List (List InsD)):∀ (n:Nat) (vals:List UInt8),zdW (ths++[[mvI]]) n vals=zdW ths n vals
 | 0,_=>rfl
 | n+1,vals=>by
  have e:((ths++[[mvI]]).any fun l=>decide (4096<(qb l vals).length))=ths.any fun l=>decide (4096<(qb l vals).length):=by
   rw [List.any_append];have:([[mvI]].any fun l=>decide (4096<(qb l vals).length))=false:=rfl;rw [this,Ux]
  unfold zdW;rw [e,zm4,zg7 ths n]
theorem ze4 (p:Prg):zbA (zbK p)=zbA p:=zg7 p.threads 18 _
theorem zhH (sizes:List Nat):z7 (sizes++[1])=(z7 sizes).map (· ++ [0]):=by
 unfold z7;rw [Kn];show (List.range (1*zS sizes.reverse)).map (fun j=>(j%1::j5 sizes.reverse (j/1)).reverse)=_;rw [UY,UH];refine Kl fun j _=>?_;show (j%1::j5 sizes.reverse (j/1)).reverse=(j5 sizes.reverse j).reverse++[0];rw [Nat.mod_one,Nat.div_one,KX]
def zfu (n:Nat) (x:ExD):ExD:={ x with regs:=fun i=>if i/8=n then mvP.regs (i%8) else x.regs i }
theorem zkh:∀ (Ps:List PathD) (k:Nat) (x:ExD) (P:PathD),asR k (Ps++[P]) x=jT (asR k Ps x) (k+Ps.length) P
 | [],k,x,P=>rfl
 | Q::Ps,k,x,P=>by
  show asR (k+1) (Ps++[P]) (jT x k Q)=jT (asR (k+1) Ps (jT x k Q)) (k+(Q::Ps).length) P;rw [zkh Ps (k+1),Qt,show k+1+Ps.length=k+(Ps.length+1) by omega]
theorem zpu (x:ExD) (n:Nat):jT x n mvP=zfu n x:=by
 unfold jT zfu;have e:mvP.ev=[]:=rfl;have e1:mvP.data=[]:=rfl;have e2:mvP.ctrl=[]:=rfl;have e3:mvP.rmw=[]:=rfl;rw [e,e1,e2,e3];show ({ x with ev:=x.ev++[],dt:=x.dt,ct:=x.ct,rm:=x.rm,regs:=_ }:ExD)=_;rw [QK]
theorem zhi (locs:Nat) (Ps:List PathD):zan locs (Ps++[mvP])=zan locs Ps:=by
 unfold zan;rw [KU];rfl
theorem znk (init:List UInt8) (Ps:List PathD):jF init (Ps++[mvP])=zfu Ps.length (jF init Ps):=by
 unfold jF;dsimp only;rw [zhi,zkh,zpu,UR];rfl
theorem zjD {init:List UInt8} {Ps:List PathD}:zcR init (Ps++[mvP])=(zcR init Ps).map fun m=>{ m with base:=zfu Ps.length m.base }:=by
 unfold zcR;rw [zhi,znk]
 split
 ·rfl
 ·rfl
theorem zoP (m:MixD) (n lim:Nat):qG { m with base:=zfu n m.base } lim=qG m lim:=rfl
theorem ziK (m:MixD) (n:Nat):qc { m with base:=zfu n m.base }=(qc m).map (zfu n):=by
 unfold qc;rw [zoP]
 split
 ·rfl
 ·unfold zcx;rw [UH];rfl
section
variable {p:Prg} {V:List UInt8}
theorem zjr:zu V [mvI]=[mvP]:=by
 show (qb [mvI] V).map zaa=_;rw [zio];rfl
theorem zck:(zbK p).threads.map (zu V)=p.threads.map (zu V)++[[mvP]]:=by
 show (p.threads++[[mvI]]).map (zu V)=_;rw [QR,List.map_singleton,zjr]
theorem zhq {ds:List Nat} (h:ds∈z7 ((p.threads.map (zu V)).map List.length)):qt (p.threads.map (zu V)++[[mvP]]) (ds++[0])=qt (p.threads.map (zu V)) ds++[mvP]/\(qt (p.threads.map (zu V)) ds).length=p.threads.length:=by
 obtain⟨h1,h2⟩:=zaE h;rw [QN] at h1;refine⟨zdD _ _ _ _ h1.symm,?_⟩;have:=(zih (p.threads.map (zu V)) ds h1 h2).1;rw [QN] at this;exact this
theorem zeu:zL (zbK p) V=(zL p V).map fun m=>{ m with base:=zfu p.threads.length m.base }:=by
 unfold zL zkU;rw [zck,QR,List.map_singleton];show (z7 ((p.threads.map (zu V)).map List.length++[1])).filterMap (fun ds=>zcR p.init (qt (p.threads.map (zu V)++[[mvP]]) ds))=_;rw [zhH,List.filterMap_map,List.map_filterMap];refine zjO fun ds hds=>?_;obtain⟨h1,h2⟩:=zhq hds;show zcR p.init (qt (p.threads.map (zu V)++[[mvP]]) (ds++[0]))=_;rw [h1,zjD,h2]
theorem zlf:zR (zbK p) V=(zR p V).map (zfu p.threads.length):=by
 show (zL (zbK p) V).flatMap qc=((zL p V).flatMap qc).map _;rw [zeu,Qp,List.map_flatMap];exact zjQ fun m _=>ziK m _
theorem zj7 {most:Nat} (h:zaH p V most):zaH (zbK p) V most:=by
 obtain⟨h1,⟨h2,h3,h4⟩,h5⟩:=h;have hl:(zbK p).threads=p.threads++[[mvI]]:=rfl;refine⟨by rw [ze4];exact h1,⟨fun l hl'=>?_,fun k hk=>?_,fun ds hds=>?_⟩,?_⟩
 ·rw [hl] at hl';rcases QS.1 hl' with h | h
  ·exact h2 l h
  ·rw [KB.1 h,zio];decide
 ·rw [hl];by_cases hk2:k<=p.threads.length
  ·rw [Jh hk2];exact h3 k hk2
  ·rw [JH (by rw [lap];show p.threads.length+1<=k;omega),QR,List.map_singleton];have e:(zu V [mvI]).length=1:=by rw [zjr];rfl
   rw [e,zf2,UX];have:=h3 p.threads.length (UW _);rw [Qx] at this;exact this
 ·rw [zck,QR,List.map_singleton] at hds;have hds:ds∈z7 ((p.threads.map (zu V)).map List.length++[1]):=hds;rw [zhH] at hds;obtain⟨es,hes,rfl⟩:=UJ.1 hds;obtain⟨g1,g2⟩:=zhq hes;rw [zck,g1];show (zcR p.init _).isSome=true;rw [zjD,Option.isSome_map];exact h4 es hes
 ·rw [zeu,UH];exact h5
end
def onP (ts:List (List InsD)):Prg:=⟨[116],[[120]],[0],ts,1,.mk 0 0 0 0 []⟩
section
variable {w:Wd}
theorem zd9 {ts:List (List InsD)} {pt:OA} {ct:Nat} (ht:ThrsW w.heap.size w pt ts) (hts:ts.length<=4) (hl:∀ l∈ts,l.length<=1000) :
  Calls PG 17 #[i64 1,.slice pt ts.length ct] w fun e w'=>(∃ vs:List Value,e = .returned (.agg vs.toArray)/\PrgX w'.heap.size w' vs (onP ts))/\Bw w w':=by
 refine jf 12 [i64 1,.slice pt ts.length ct] (.c .p .p) Tryz.func17 ?_;obtain⟨L,hL⟩:=nm (w.heap.size);refine⟨Unit,fun _=>⟨[(0,i64 1),(1,.slice pt ts.length ct),(4,At0 L)],[]⟩,fun _ X=>(∃ cs:Array Value,X.heap[L]?=some (.cells cs 29 (0,0))/\cs.size=10)/\X.heap.size=L+1/\Bw w X,⟨(),⟨.cons rfl (.cons rfl (.cons (by rw [hL];rfl) .nil)),rfl⟩,⟨_,by rw [hL];exact zy w _,rfl⟩,by rw [hL];exact wz _ _,(zba w _)⟩,?_⟩;rintro _ X ⟨⟨cs,fL,hcs⟩,sX,hbX⟩;have hba:∀ (A:Wd) (o:Obj),Bw A (A.alloc o):=fun A o=>(zba _ _);have dX:Bw X X.drew:=(Gb _ _).drew;have fin:∀ {W:Wd} {bs bi:Nat},Bw X W->W.heap[bs]?=some (.cells #[qk [120],qk [121],qk [122],qk [119]] 9 (0,0))->W.heap[bi]?=some (.cells #[u8 0] 5 (0,0))->X.heap.size<=bs->X.heap.size<=bi->∀ {K:Wd->Prop},
   (∀ Y,(zx Y ⟨L,0,none⟩ (qo (onP ts) (some ⟨bs,0,none⟩) 4 (some ⟨bi,0,none⟩) 1 pt ct none 0)/\PrgX Y.heap.size Y (qo (onP ts) (some ⟨bs,0,none⟩) 4 (some ⟨bi,0,none⟩) 1 pt ct none 0) (onP ts)/\Bw w Y)->K Y) ->
   SatR ((storeVar 29 ⟨L,0,none⟩ (.agg (qo (onP ts) (some ⟨bs,0,none⟩) 4 (some ⟨bi,0,none⟩) 1 pt ct none 0).toArray)).run PG W) fun _ w'=>K w':=by
  intro W bs bi hW gS gI hs hi K k;have gL:=zb hW fL;refine zI (v := .agg (qo (onP ts) (some ⟨bs,0,none⟩) 4 (some ⟨bi,0,none⟩) 1 pt ct none 0).toArray) k29 gL rfl hcs rfl ?_;obtain⟨Y,hY⟩:=nm (W.setRow L (Value.agg (qo (onP ts) (some ⟨bs,0,none⟩) 4 (some ⟨bi,0,none⟩) 1 pt ct none 0).toArray).cells);rw [<- hY];have fY:Y.heap[L]?=some (.cells (qo (onP ts) (some ⟨bs,0,none⟩) 4 (some ⟨bi,0,none⟩) 1 pt ct none 0).toArray 29 (0,0)):=by rw [hY];exact zz gL
  have oY:∀ k,k≠L->Y.heap[k]?=W.heap[k]?:=fun k hk=>by rw [hY];exact zr hk
  have bY:Bw w Y:=by rw [hY];exact zA ((zst hbX hW)) (by omega) _
  have g1:=(oY bs (by omega)).trans gS;have g2:=(oY bi (by omega)).trans gI;obtain⟨xs,hxs,hr,hx⟩:=ht;have sY:=bY.size;have rI:RowB zJ Y.heap.size Y (some ⟨bi,0,none⟩) [0] := .inr ⟨bi,0,rfl,hlt g2,za g2⟩;have rT:ThrsW Y.heap.size Y pt ts:=⟨xs,hxs,(hr.below bY).mono sY,fun x h=>⟨((hx x h).1.below bY).mono sY,fun hne a ha=>nL ((hx x h).2 hne a ha) sY⟩⟩;refine k Y ⟨za fY,⟨⟨⟨by show 1<=_;decide,by show 1<=_;decide,fun s hs=>?_,by show 1<=_;decide,by show ts.length<=_;omega,fun l h=>by have:=hl l h;omega⟩,some ⟨bs,0,none⟩,4,some ⟨bi,0,none⟩,1,pt,ct,none,0,rfl,?_,rI,?_,?_,?_⟩,⟨pt,ct,rfl,rT⟩,⟨some ⟨bi,0,none⟩,1,rfl,rI⟩⟩,bY⟩
  ·have hs:s=[120]:=by simpa [onP] using hs
   rw [hs];decide
  ·refine .inr ⟨bs,0,rfl,hlt g1,?_⟩;have h:=zG (n:=0) (m:=1) (za g1);exact h
  ·exact⟨xs,hxs,(hr.below bY).mono sY,fun x h=>((hx x h).1.below bY).mono sY⟩
  ·exact .mk none [] (by decide) 0 0 (.inl rfl) (fun _=>none) (fun _=>0) (fun i hi=>by simp at hi) (fun i hi=>by simp at hi)
  ·show 1<=4;decide
 refine DrawE.treeQ [7] (.op 1 (.op 3 (.op 5 (.alt (.op 0 (.op 2 (.op 4 (.op 6 (.op 7 .nil))))) (.op 4 (.op 0 (.op 2 (.op 6 (.op 7 .nil))))))))) (by kernel_rfl) (Gg ?_ ?_)
 ·refine⟨⟨by decide,by decide,rfl⟩,[qk [120],qk [121],qk [122],qk [119]],rfl,hba _ _,1,rfl,by decide,?_⟩;have b1:=dX.alloc (UW _) (.cells #[qk [120],qk [121],qk [122],qk [119]] 9);exact zda Tryz.underlying23 k5 rfl rfl (by decide) 1 (by decide) (by decide) fun Z fZ bZ sZ=>⟨bZ,qo (onP ts) (some ⟨X.drew.heap.size,0,none⟩) 4 _ 1 pt ct none 0,rfl,fin ((zst b1 bZ)) (zb bZ (zy X.drew _)) fZ dX.size b1.size fun Y h=>⟨_,rfl,h.1,⟨_,rfl,h.2.1⟩,h.2.2⟩⟩
 ·refine zda Tryz.underlying23 k5 rfl rfl (by decide) 1 (by decide) (by decide) fun Z fZ bZ sZ=>⟨bZ,?_⟩;have b1:=zst dX bZ;refine⟨⟨by decide,by decide,rfl⟩,[qk [120],qk [121],qk [122],qk [119]],rfl,hba _ _,1,rfl,by decide,?_⟩;exact⟨qo (onP ts) (some ⟨Z.heap.size,0,none⟩) 4 _ 1 pt ct none 0,rfl,fin (b1.alloc b1.size _) (zy Z _) (qF _ fZ) b1.size dX.size fun Y h=>⟨_,rfl,h.1,⟨_,rfl,h.2.1⟩,h.2.2⟩⟩
end
def zbO (p:Prg) (V:List UInt8) (most:Nat):Bool :=
 zbu p&&(decide (zbA p=some V)&&((p.threads.all fun l=>decide ((qb l V).length<=4096))&&(((List.range (p.threads.length+1)).all fun k=>decide (za3 ((p.threads.take k).map fun l=>(zu V l).length)<=4096)) &&
  (((z7 ((p.threads.map (zu V)).map List.length)).all fun ds=>(zcR p.init (qt (p.threads.map (zu V)) ds)).isSome)&&decide (((zL p V).map fun m=>qG m 20001).sum<=most)))))
theorem zhO {p:Prg} {V:List UInt8} {most:Nat} (h:zbO p V most=true):zbu p=true/\zaH p V most:=by
 unfold zbO at h;simp only [bAT,dE,Qk,Uo] at h;obtain⟨h1,h2,h3,h4,h5,h6⟩:=h;exact⟨h1,h2,⟨h3,fun k hk=>h4 k (by omega),h5⟩,h6⟩
section
variable {w:Wd} {B most:Nat} {pc:List Value} {p:Prg} {V:List UInt8}
theorem zeB (hB:B<=w.heap.size) (hP:PrgX B w pc p) (hG:GlobE w) (hm20:most<=20000) (hq:zbO p V most=true) :
  Calls PG 11 #[.agg pc.toArray,i64 most] w fun e w'=>(∃ (xs:List zbX) (q:OA) (c:Nat),e = .returned (.tuple #[.slice q xs.length c,i64 0])/\xs.map (·.1)=zR p V/\OwnS exE 55 w.heap.size w' q c xs/\∀ x∈xs,OwnS evE 60 w.heap.size w' x.2.1 x.2.2 x.1.ev)/\Bw w w':=by
 obtain⟨hok,hc⟩:=zhO hq;refine cmo (zcg hB hP hG hok hm20 fun V _=>zcZ (zcn hok)) ?_;rintro e X ⟨(⟨V',h1,h2⟩ | ⟨h1,_⟩),hb⟩
 ·have:V'=V:=by
   have e1:=h1.1;rw [hc.1] at e1;exact (Uf e1).symm
  subst this;exact⟨h2,hb⟩
 ·exact Gq hc (h1 V)
theorem zpn {M:Nat} (hB:B<=w.heap.size) (hP:PrgX B w pc p) (hG:GlobE w) (hm20:most<=20000) (hq:zbO p V M=true) (hn:decide (most<((zL p V).map fun m=>qG m 20001).sum)=true) :
  CB 11 #[.agg pc.toArray,i64 most] w (.tuple #[.slice none 0 0,i64 5]):=by
 obtain⟨hok,hc⟩:=zhO hq;refine cmo (zcg hB hP hG hok hm20 fun V _=>zcZ (zcn hok)) ?_;rintro e X ⟨(⟨V',h1,h2⟩ | ⟨h1,h2⟩),hb⟩
 ·have:V'=V:=by
   have e1:=h1.1;rw [hc.1] at e1;exact (Uf e1).symm
  subst this;have:=dT hn;have:=h1.2.2;omega
 ·exact⟨h2,hb⟩
end
def stI (l v m:UInt8):InsD:=⟨2,0,l,false,v,false,0,0,m,0⟩
def ldI (d l m:UInt8):InsD:=⟨1,d,l,false,0,false,0,0,m,0⟩
def feI:InsD:=⟨7,0,0,false,0,false,0,0,3,0⟩
def p1P:Prg:=onP [[stI 0 1 0],[ldI 0 0 0]]
def p2P:Prg:=onP [[stI 0 1 0],[stI 0 1 0],[ldI 0 0 0]]
def p3P:Prg:=onP [[ldI 0 0 0,stI 0 1 0]]
def p4P:Prg:=onP [[feI]]
theorem zsT:zbO p1P [0,1] 9=true:=by kernel_rfl
theorem zso:zbO p2P [0,1] 9=true:=by kernel_rfl
theorem zsS:zbO p3P [0,1] 9=true:=by kernel_rfl
theorem zsR:zbO p4P [0] 9=true:=by kernel_rfl
theorem zpK:decide (5<((zL p2P [0,1]).map fun m=>qG m 20001).sum)=true:=by kernel_rfl
theorem zrt:(zR p1P [0,1]).length=2:=by kernel_rfl
theorem zrs:(zR p2P [0,1]).length=6:=by kernel_rfl
theorem zrr:(zR p3P [0,1]).length=2:=by kernel_rfl
theorem zrq:(zR p4P [0]).length=1:=by kernel_rfl
abbrev xA:ExD:=(zR p1P [0,1]).getD 0 (ex0 0)
abbrev yA:ExD:=(zR p1P [0,1]).getD 1 (ex0 0)
theorem zse:(decide (xA.ev.length=3)&&(decide (yA.ev.length=3)&&(decide ((evA xA 2).v=0)&&(decide ((evA yA 2).v=1)&&(decide (xA.rf.to 0=4)&&(decide (yA.rf.to 1=4)&&(decide (xA.co.to 0=2)&&(qM yA.co xA.co&&(decide (xA.mem 0=1)&&(decide (yA.regs 8=1)&&(zbr xA&&(zrC xA&&(!zb1 xA yA)))))))))))))=true:=by kernel_rfl
end Go.Proofs.YtpalcnbhkigagaaGreatDoor
