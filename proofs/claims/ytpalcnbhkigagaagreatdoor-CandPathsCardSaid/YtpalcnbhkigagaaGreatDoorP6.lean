/- Contracts of functions, and plain facts, for the law that the last text of this claim proves. -/
import Derived.Test.YtpalcnbhkigagaaGreatDoorP5
import Derived.Test.YtpalcnbhkigagaaGreatDoorP3
import Derived.Test.YtpalcnbhkigagaaGreatDoorP2
import Derived.Test.YtpalcnbhkigagaaGreatDoorP4
set_option linter.unusedSimpArgs false
set_option linter.unusedVariables false
namespace Go.Proofs.YtpalcnbhkigagaaGreatDoor
open Go.Vc Go.RowKit Go.Sei
def okL (p:Prg):List Bool:=[zde p.name,zdw p,decide (1<=p.threads.length)&&(decide (p.threads.length<=4)&&p.threads.all fun l=>decide (l.length<=12)),p.threads.all (fun l=>qa l p.locs.length),
 decide (p.ask=1)||(decide (p.ask=2)||decide (p.ask=3)),j6 p.threads.length p.locs.length 20 p.cond]
theorem zlP {p:Prg}:zcA p=(okL p).all id:=by
 unfold zcA okL;simp only [UA,List.all_nil,Bool.and_true,id]
theorem ziZ {B:Nat} {p:Prg} {vs:List Value} {w:Wd} (hB:B<=w.heap.size) (hp:PrgV B w vs p) (hG:GlobC w) :
  Calls PG 16 #[.agg vs.toArray] w fun e w'=>∃ n:Int,e = .returned (i64 n)/\(n=0↔zcA p=true)/\Bw w w':=by
 obtain⟨hl,p1,c1,p2,c2,p3,c3,p4,c4,rfl,h1,h2,h3,h4,h5⟩:=hp;refine zI 18 [.agg (qB p p1 c1 p2 c2 p3 c3 p4 c4).toArray] Tryz.func16 ?_;obtain⟨L,hL⟩:=nm (w.heap.size);have hn:=zz w (.cells (Value.agg (qB p p1 c1 p2 c2 p3 c3 p4 c4).toArray).cells 29);have hs:=wz w (.cells (Value.agg (qB p p1 c1 p2 c2 p3 c3 p4 c4).toArray).cells 29);have hb:Bw w (w.alloc (.cells (Value.agg (qB p p1 c1 p2 c2 p3 c3 p4 c4).toArray).cells 29)):=zba w _;refine cmo zm4 ?_;rintro e V ⟨rfl,hbx,hev,hsl,hsz,hbV⟩;have hbw:Bw w V:=zst hb hbV;have p1':some (Value.slice (some ⟨(w.alloc (.cells (Value.agg (qB p p1 c1 p2 c2 p3 c3 p4 c4).toArray).cells 29)).heap.size+2,0,none⟩) 6 6)=some (Value.slice (some ⟨L+3,0,none⟩) 6 6):=by rw [hs,hL]
 have hD:DmV B V L (L+1) p:=by
  have hbB:=hbw.mono hB;rw [hs,<- hL] at hbx;refine⟨UM hB hbw.size,by omega,hl,⟨p1,c1,p2,c2,p3,c3,p4,c4,za (zc hbV (hL▸hn)),h1.below hbB,h2.below hbB,h3.below hbB,h4.kept hbB,h5⟩,hbx,hG.below hbw⟩
 rw [hs,<- hL] at hev hsl;clear hn hs hb hbx hbV hsz;refine⟨Nat,fun j=>⟨[(5,.slice (some ⟨L+3,0,none⟩) 6 6),(6,i64 6),(7,i64 (j:Nat))],[]⟩,
  fun j X=>j<=6/\(∀ i,i<j->(okL p)[i]?=some true)/\DmV B X L (L+1) p/\X.heap[L+2]?=some (.cells #[evV (L+1)] 138 (0,0))/\X.heap[L+3]?=some (.cells (zrM (L+1) (L+2)).toArray 105 (0,0))/\Bw w X,fun j=>6-j,0,
  ⟨.cons p1' (.cons rfl (.cons rfl .nil)),rfl⟩,⟨UZ _,fun i hi=>by omega,hD,hev,hsl,hbw⟩,?_⟩
 clear hD hev hsl hbw p1';rintro j X ⟨hj,hpre,hD,hev,hsl,hbw⟩;dsimp only at hj hpre ⊢;refine biE (fun hc=>?_) fun hc=>?_
 ·have hc:(j:Int)<6:=dT hc;have hno:∀ {i:Nat},(okL p)[i]?=some false->zcA p=false:=fun h=>by rw [zlP];exact zpf h
  have hcs:j=0\/j=1\/j=2\/j=3\/j=4\/j=5:=by omega
  rcases hcs with rfl | rfl | rfl | rfl | rfl | rfl
  ·refine⟨0,rfl,by decide,?_⟩;refine⟨[i64 70,.func (.func 59) #[] #[At0 (L+1)]],rfl,zF (n:=0) (m:=2) (za hsl),hlt hsl,zn (X:=X) (v := .agg [i64 70,.func (.func 59) #[] #[At0 (L+1)]].toArray) zmX rfl rfl rfl fun Y hbY fY sY=>?_⟩;have hY:=hD.below hbY;have hevY:=zc hbY hev;have hslY:=zc hbY hsl;refine⟨_,zb (za fY) (i:=1) rfl,cmo (zrS hY) ?_⟩;rintro e W ⟨rfl,hbW⟩;have hbX:Bw w W:=((zst hbw hbY)).trans (hbW.mono (UM hbw.size hbY.size));refine biE (fun hb=>?_) fun hb=>?_
   ·have hb:(!((okL p)[0]'(by show 0<6;decide)))=true:=hb;have hb:(okL p)[0]?=some false:=(by rw [gE (by show 0<6;decide)];exact Gj some (by rw [<- UG ((okL p)[0]'(by show 0<6;decide)),hb];rfl));exact⟨_,zb (za (zc hbW fY)) (i:=0) rfl,70,rfl,⟨fun h=>Gq h (by decide),fun h=>by rw [hno hb] at h;cases h⟩,hbX⟩
   ·have hb:(!((okL p)[0]'(by show 0<6;decide)))=false:=hb;have hb:(okL p)[0]?=some true:=(by rw [gE (by show 0<6;decide)];exact Gj some (by rw [<- UG ((okL p)[0]'(by show 0<6;decide)),hb];rfl));refine⟨_,(ze (by omega)).trans rfl,1,(cvE rfl rfl),⟨by omega,fun i hi=>?_,hY.below hbW,zc hbW hevY,zc hbW hslY,hbX⟩,by decide⟩;by_cases hik:i=0
    ·rw [hik];exact hb
    ·exact hpre i (by omega)
  ·refine⟨1,rfl,by decide,?_⟩;refine⟨[i64 71,.func (.func 61) #[] #[At0 (L+1)]],rfl,zF (n:=2) (m:=2) (za hsl),hlt hsl,zn (X:=X) (v := .agg [i64 71,.func (.func 61) #[] #[At0 (L+1)]].toArray) zmX rfl rfl rfl fun Y hbY fY sY=>?_⟩;have hY:=hD.below hbY;have hevY:=zc hbY hev;have hslY:=zc hbY hsl;refine⟨_,zb (za fY) (i:=1) rfl,cmo (zrR hY) ?_⟩;rintro e W ⟨rfl,hbW⟩;have hbX:Bw w W:=((zst hbw hbY)).trans (hbW.mono (UM hbw.size hbY.size));refine biE (fun hb=>?_) fun hb=>?_
   ·have hb:(!((okL p)[1]'(by show 1<6;decide)))=true:=hb;have hb:(okL p)[1]?=some false:=(by rw [gE (by show 1<6;decide)];exact Gj some (by rw [<- UG ((okL p)[1]'(by show 1<6;decide)),hb];rfl));exact⟨_,zb (za (zc hbW fY)) (i:=0) rfl,71,rfl,⟨fun h=>Gq h (by decide),fun h=>by rw [hno hb] at h;cases h⟩,hbX⟩
   ·have hb:(!((okL p)[1]'(by show 1<6;decide)))=false:=hb;have hb:(okL p)[1]?=some true:=(by rw [gE (by show 1<6;decide)];exact Gj some (by rw [<- UG ((okL p)[1]'(by show 1<6;decide)),hb];rfl));refine⟨_,(ze (by omega)).trans rfl,2,(cvE rfl rfl),⟨by omega,fun i hi=>?_,hY.below hbW,zc hbW hevY,zc hbW hslY,hbX⟩,by decide⟩;by_cases hik:i=1
    ·rw [hik];exact hb
    ·exact hpre i (by omega)
  ·refine⟨2,rfl,by decide,?_⟩;refine⟨[i64 72,.func (.func 63) #[] #[At0 (L+1),At0 (L+2)]],rfl,zF (n:=4) (m:=2) (za hsl),hlt hsl,zn (X:=X) (v := .agg [i64 72,.func (.func 63) #[] #[At0 (L+1),At0 (L+2)]].toArray) zmX rfl rfl rfl fun Y hbY fY sY=>?_⟩;have hY:=hD.below hbY;have hevY:=zc hbY hev;have hslY:=zc hbY hsl;refine⟨_,zb (za fY) (i:=1) rfl,cmo (zrQ hY hevY) ?_⟩;rintro e W ⟨rfl,hbW⟩;have hbX:Bw w W:=((zst hbw hbY)).trans (hbW.mono (UM hbw.size hbY.size));refine biE (fun hb=>?_) fun hb=>?_
   ·have hb:(!((okL p)[2]'(by show 2<6;decide)))=true:=hb;have hb:(okL p)[2]?=some false:=(by rw [gE (by show 2<6;decide)];exact Gj some (by rw [<- UG ((okL p)[2]'(by show 2<6;decide)),hb];rfl));exact⟨_,zb (za (zc hbW fY)) (i:=0) rfl,72,rfl,⟨fun h=>Gq h (by decide),fun h=>by rw [hno hb] at h;cases h⟩,hbX⟩
   ·have hb:(!((okL p)[2]'(by show 2<6;decide)))=false:=hb;have hb:(okL p)[2]?=some true:=(by rw [gE (by show 2<6;decide)];exact Gj some (by rw [<- UG ((okL p)[2]'(by show 2<6;decide)),hb];rfl));refine⟨_,(ze (by omega)).trans rfl,3,(cvE rfl rfl),⟨by omega,fun i hi=>?_,hY.below hbW,zc hbW hevY,zc hbW hslY,hbX⟩,by decide⟩;by_cases hik:i=2
    ·rw [hik];exact hb
    ·exact hpre i (by omega)
  ·refine⟨3,rfl,by decide,?_⟩;refine⟨[i64 73,.func (.func 65) #[] #[At0 (L+2),At0 (L+1)]],rfl,zF (n:=6) (m:=2) (za hsl),hlt hsl,zn (X:=X) (v := .agg [i64 73,.func (.func 65) #[] #[At0 (L+2),At0 (L+1)]].toArray) zmX rfl rfl rfl fun Y hbY fY sY=>?_⟩;have hY:=hD.below hbY;have hevY:=zc hbY hev;have hslY:=zc hbY hsl;refine⟨_,zb (za fY) (i:=1) rfl,cmo (zrP hY hevY) ?_⟩;rintro e W ⟨rfl,hbW⟩;have hbX:Bw w W:=((zst hbw hbY)).trans (hbW.mono (UM hbw.size hbY.size));refine biE (fun hb=>?_) fun hb=>?_
   ·have hb:(!((okL p)[3]'(by show 3<6;decide)))=true:=hb;have hb:(okL p)[3]?=some false:=(by rw [gE (by show 3<6;decide)];exact Gj some (by rw [<- UG ((okL p)[3]'(by show 3<6;decide)),hb];rfl));exact⟨_,zb (za (zc hbW fY)) (i:=0) rfl,73,rfl,⟨fun h=>Gq h (by decide),fun h=>by rw [hno hb] at h;cases h⟩,hbX⟩
   ·have hb:(!((okL p)[3]'(by show 3<6;decide)))=false:=hb;have hb:(okL p)[3]?=some true:=(by rw [gE (by show 3<6;decide)];exact Gj some (by rw [<- UG ((okL p)[3]'(by show 3<6;decide)),hb];rfl));refine⟨_,(ze (by omega)).trans rfl,4,(cvE rfl rfl),⟨by omega,fun i hi=>?_,hY.below hbW,zc hbW hevY,zc hbW hslY,hbX⟩,by decide⟩;by_cases hik:i=3
    ·rw [hik];exact hb
    ·exact hpre i (by omega)
  ·refine⟨4,rfl,by decide,?_⟩;refine⟨[i64 75,.func (.func 68) #[] #[At0 (L+1)]],rfl,zF (n:=8) (m:=2) (za hsl),hlt hsl,zn (X:=X) (v := .agg [i64 75,.func (.func 68) #[] #[At0 (L+1)]].toArray) zmX rfl rfl rfl fun Y hbY fY sY=>?_⟩;have hY:=hD.below hbY;have hevY:=zc hbY hev;have hslY:=zc hbY hsl;refine⟨_,zb (za fY) (i:=1) rfl,cmo (zrO hY) ?_⟩;rintro e W ⟨rfl,hbW⟩;have hbX:Bw w W:=((zst hbw hbY)).trans (hbW.mono (UM hbw.size hbY.size));refine biE (fun hb=>?_) fun hb=>?_
   ·have hb:(!((okL p)[4]'(by show 4<6;decide)))=true:=hb;have hb:(okL p)[4]?=some false:=(by rw [gE (by show 4<6;decide)];exact Gj some (by rw [<- UG ((okL p)[4]'(by show 4<6;decide)),hb];rfl));exact⟨_,zb (za (zc hbW fY)) (i:=0) rfl,75,rfl,⟨fun h=>Gq h (by decide),fun h=>by rw [hno hb] at h;cases h⟩,hbX⟩
   ·have hb:(!((okL p)[4]'(by show 4<6;decide)))=false:=hb;have hb:(okL p)[4]?=some true:=(by rw [gE (by show 4<6;decide)];exact Gj some (by rw [<- UG ((okL p)[4]'(by show 4<6;decide)),hb];rfl));refine⟨_,(ze (by omega)).trans rfl,5,(cvE rfl rfl),⟨by omega,fun i hi=>?_,hY.below hbW,zc hbW hevY,zc hbW hslY,hbX⟩,by decide⟩;by_cases hik:i=4
    ·rw [hik];exact hb
    ·exact hpre i (by omega)
  ·refine⟨5,rfl,by decide,?_⟩;refine⟨[i64 74,.func (.func 69) #[] #[At0 (L+1)]],rfl,zF (n:=10) (m:=2) (za hsl),hlt hsl,zn (X:=X) (v := .agg [i64 74,.func (.func 69) #[] #[At0 (L+1)]].toArray) zmX rfl rfl rfl fun Y hbY fY sY=>?_⟩;have hY:=hD.below hbY;have hevY:=zc hbY hev;have hslY:=zc hbY hsl;refine⟨_,zb (za fY) (i:=1) rfl,cmo (zrN hY) ?_⟩;rintro e W ⟨rfl,hbW⟩;have hbX:Bw w W:=((zst hbw hbY)).trans (hbW.mono (UM hbw.size hbY.size));refine biE (fun hb=>?_) fun hb=>?_
   ·have hb:(!((okL p)[5]'(by show 5<6;decide)))=true:=hb;have hb:(okL p)[5]?=some false:=(by rw [gE (by show 5<6;decide)];exact Gj some (by rw [<- UG ((okL p)[5]'(by show 5<6;decide)),hb];rfl));exact⟨_,zb (za (zc hbW fY)) (i:=0) rfl,74,rfl,⟨fun h=>Gq h (by decide),fun h=>by rw [hno hb] at h;cases h⟩,hbX⟩
   ·have hb:(!((okL p)[5]'(by show 5<6;decide)))=false:=hb;have hb:(okL p)[5]?=some true:=(by rw [gE (by show 5<6;decide)];exact Gj some (by rw [<- UG ((okL p)[5]'(by show 5<6;decide)),hb];rfl));refine⟨_,(ze (by omega)).trans rfl,6,(cvE rfl rfl),⟨by omega,fun i hi=>?_,hY.below hbW,zc hbW hevY,zc hbW hslY,hbX⟩,by decide⟩;by_cases hik:i=5
    ·rw [hik];exact hb
    ·exact hpre i (by omega)
 ·have hc:¬ (j:Int)<6:=dF hc;obtain rfl:j=6:=by omega
  exact⟨0,rfl,⟨fun _=>by rw [zlP];exact zkk hpre rfl,fun _=>rfl⟩,hbw⟩
def ThrsW (B:Nat) (w:Wd) (p:OA) (l:List (List InsD)):Prop:=∃ xs:List zlh,xs.map (·.1)=l/\RowB znB B w p xs/\∀ x∈xs,RowB zG B w x.2.1 x.1/\(x.1≠[]->∀ a,x.2.1=some a->a.block<B)
structure PrgX (B:Nat) (w:Wd) (vs:List Value) (p:Prg):Prop where
 v:PrgV B w vs p
 th:∃ p3 c3,vs[3]?=some (.slice p3 p.threads.length c3)/\ThrsW B w p3 p.threads
 init:∃ p2 c2,vs[2]?=some (.slice p2 p.init.length c2)/\RowB zC B w p2 p.init
theorem ThrsW.below {B:Nat} {w w2:Wd} {p:OA} {l:List (List InsD)} (h:ThrsW B w p l) (hb:Below B w w2):ThrsW B w2 p l:=by
 obtain⟨xs,h1,h2,h3⟩:=h;exact⟨xs,h1,h2.below hb,fun x hx=>⟨(h3 x hx).1.below hb,(h3 x hx).2⟩⟩
theorem PrgX.below {B:Nat} {w w2:Wd} {vs:List Value} {p:Prg} (h:PrgX B w vs p) (hb:Below B w w2):PrgX B w2 vs p:=by
 obtain⟨h1,⟨p3,c3,h2,h3⟩,⟨p2,c2,h4,h5⟩⟩:=h;exact⟨h1.below hb,⟨p3,c3,h2,h3.below hb⟩,⟨p2,c2,h4,h5.below hb⟩⟩
theorem zc7 {α:Type} {E:Enc α} {B:Nat} {w:Wd} {p:OA} {l:List α} (h:RowB E B w p l) {i:Nat} (hi:i<l.length):∃ b o,p=some ⟨b,o,none⟩/\b<B/\∀ i (h:i<l.length),zu w ⟨b,o+i*E.sz,none⟩ (E.enc l[i]):=by
 obtain⟨b,o,hp,hat⟩:=h.get;rcases hp with hp | hp
 ·omega
 ·exact⟨b,o,hp,(hat i hi).1,fun j hj=>(hat j hj).2⟩
section
variable {l:List InsD} {dom:List UInt8} {q p:OA} {cap cd:Nat} {w:Wd}
theorem zmo (hl:SlR zG w q l) (hp:SlR zC w p dom) (hok:qa l 6=true) (hqb:l≠[]->∀ a,q=some a->a.block<w.heap.size) (hpb:∀ a,p=some a->a.block<w.heap.size) (hdl:dom.length<=1000) :
  Calls PG 43 #[.slice q l.length cap,.slice p dom.length cd] w fun e w'=>((∃ (p':OA) (c':Nat),(z8 l dom).length<=4096/\e = .returned (.tuple #[.slice p' (zad (z8 l dom)).length c',.bool true])/\OwnS zC 5 w.heap.size w' p' c' (zad (z8 l dom)))\/(4096<(z8 l dom).length/\e = .returned (.tuple #[.slice none 0 0,.bool false])))/\Bw w w':=by
 have ht:=zeL hok;have h12:l.length<=12:=ht.1;have hR:∀ R∈z8 l dom,R.many<=24:=fun R h=>(zfP ht dom R h).1;refine je 55 [.slice q l.length cap,.slice p dom.length cd] (.c .p (.c .p (.c .p (.c .p (.s .p (.c .p .p)))))) Tryz.func43 ?_;obtain⟨L,hL⟩:=nm (w.heap.size);refine⟨Unit,fun _=>⟨[(0,.slice q l.length cap),(1,.slice p dom.length cd),(4,AtR L),(5,AtR (L+1))],[]⟩,fun _ X=>X.heap[L]?=some (.cells #[.slice none 0 0] 23 (0,0))/\X.heap[L+1]?=some (.cells #[.bool false] 4 (0,0))/\X.heap.size=L+2/\Bw w X,?_,?_⟩
 ·have s1:=wz w (.cells #[.slice none 0 0] 23);have h2:=zz (w.alloc (.cells #[.slice none 0 0] 23)) (.cells #[.bool false] 4);have s2:=wz (w.alloc (.cells #[.slice none 0 0] 23)) (.cells #[.bool false] 4);rw [s1] at h2 s2;refine⟨(),⟨.cons rfl (.cons rfl (.cons (by rw [hL];rfl) (.cons (by rw [hL,<- s1];rfl) .nil))),rfl⟩,?_,?_,?_,?_⟩
  ·rw [hL];exact qF _ (zz w _)
  ·rw [hL];exact h2
  ·rw [hL];exact s2
  ·exact ((zba w _)).alloc (by simp) _
 rintro _ X ⟨f0,f1,sX,hbX⟩;refine⟨Unit,fun _=>⟨[(0,.slice q l.length cap),(1,.slice p dom.length cd),(4,AtR L),(5,AtR (L+1)),(6,AtR (L+2))],[]⟩,fun _ Y=>Y.heap[L+2]?=some (.cells (wrC fun _=>false).toArray 150 (0,0))/\Y.heap.size=L+3/\Bw X Y,?_,?_⟩
 ·refine⟨(),⟨.cons rfl (.cons rfl (.cons rfl (.cons rfl (.cons (by rw [<- sX];rfl) .nil)))),rfl⟩,?_,?_,?_⟩
  ·rw [<- sX,<- zsN];exact zz X _
  ·have:=wz X (.cells (List.replicate 256 (Value.bool false)).toArray 150);rw [sX] at this;exact this
  ·exact (zba X _)
 rintro _ Y ⟨f2,sY,hbY⟩;refine⟨Unit,fun _=>⟨[(0,.slice q l.length cap),(1,.slice p dom.length cd),(4,AtR L),(5,AtR (L+1)),(6,AtR (L+2)),(7,AtR (L+3))],[]⟩,fun _ Z=>Z.heap[L+3]?=some (.cells [i64 (0:Nat)].toArray 3 (0,0))/\Z.heap.size=L+4/\Bw Y Z,?_,?_⟩
 ·refine zn (X:=Y) (v:=i64 0) k3 rfl rfl rfl fun Z hbZ fZ sZ=>?_;rw [sY] at fZ sZ;exact⟨(),⟨.cons rfl (.cons rfl (.cons rfl (.cons rfl (.cons rfl (.cons (by rw [<- sY];rfl) .nil))))),rfl⟩,fZ,sZ,hbZ⟩
 rintro _ V ⟨f3,sV,hbV⟩;have hXV:Bw X V:=zst hbY hbV;have hwV:=zst hbX hXV;have f0:=zc hXV f0;have f1:=zc hXV f1;have f2:=zc hbV f2;clear hbX hbY hbV hXV;obtain⟨xs,hxs⟩:=nm (z8 l dom);rw [<- hxs] at hR ⊢;refine⟨Nat,fun D1=>⟨[(4,AtR L),(5,AtR (L+1)),(6,AtR (L+2))],[{ target := .collected D1,args := #[] }]⟩,fun D1 U=>xs.length<=4096/\U.heap[L+2]?=some (.cells (wrC (wrL xs)).toArray 150 (0,0))/\U.heap[D1]?=some (.deferred (some []))/\L+2<D1/\Below (L+2) V U,?_,?_⟩
 ·refine cmo ziK ?_;rintro e W ⟨rfl,fi,fd,sW,hbW⟩;have hwW:=zst hwV hbW;have hI:=ziJ (q:=q) (p:=p) (hl.below hwW) (hp.below hwW) fi fd (fun hne a ha=>by have:=hqb hne a ha;have:=hwW.size;omega) (fun a ha=>by have:=hpb a ha;have:=hwW.size;omega) ht hdl;rw [<- hxs] at hI;obtain⟨J,hJ⟩:∃ J:List RunD->Wd->Prop,J=fun pre Y=>W.heap.size<=Y.heap.size/\pre.length<=4096/\Y.heap[L+2]?=some (.cells (wrC (wrL pre)).toArray 150 (0,0))/\Y.heap[L+3]?=some (.cells [i64 pre.length].toArray 3 (0,0))/\Below (L+2) W Y:=⟨_,rfl⟩;obtain⟨F0,hF0⟩:∃ F0:Nat->Prop,F0=fun k=>k=L+2\/k=L+3\/k=L\/k=L+1:=⟨_,rfl⟩;have f0W:=zc hbW f0;have f1W:=zc hbW f1;refine zcO (zbc _) rfl (lb := #[AtR V.heap.size,AtR (V.heap.size+1)]) rfl rfl hI (UW _) (fun k hk=>⟨?_,rfl⟩) (fun pre vs W ⟨R,b,_,h,_⟩=>by rw [h];rfl) (by decide)
   F0 (fun pre F Y=>F=F0/\J pre Y) (fun ex pre F Y=>F=F0/\W.heap.size<=Y.heap.size/\ex = .ret/\4096<xs.length/\Y.heap[L]?=some (.cells #[.slice none 0 0] 23 (0,0))/\Y.heap[L+1]?=some (.cells #[.bool false] 4 (0,0))/\Below L W Y) (fun k hk=>?_)
   (joG (F:=F0) (J:=J) (fun k h=>by rw [hF0] at h;omega) (fun s A h=>by rw [hJ] at h;exact h.1) (fun pre A B h hb=>by
    rw [hJ] at h ⊢;obtain⟨h1,h0,h2,h3,h4⟩:=h;exact⟨UM h1 hb.size,h0,ji hb (by omega) h2,ji hb (by omega) h3,h4.trans (hb.mono (by omega))⟩))
   (fun ex=>joG (F:=F0) (J:=fun (pre:List RunD) Y=>W.heap.size<=Y.heap.size/\ex = .ret/\4096<xs.length/\Y.heap[L]?=some (.cells #[.slice none 0 0] 23 (0,0))/\Y.heap[L+1]?=some (.cells #[.bool false] 4 (0,0))/\Below L W Y) (fun k h=>by rw [hF0] at h;omega) (fun s A h=>h.1) (fun pre A B ⟨h1,h2,h3,h4,h5,h6⟩ hb=>⟨UM h1 hb.size,h2,h3,ji hb (by omega) h4,ji hb (by omega) h5,h6.trans (hb.mono (by omega))⟩)) ⟨rfl,by rw [hJ];exact⟨UW _,UZ _,zc hbW f2,zc hbW f3,Gb _ _⟩⟩ ?_ ?_ ?_
  ·rcases hk with ((rfl | rfl) | ⟨hne,a,ha,rfl⟩ | ⟨a,ha,rfl⟩) | h
   ·omega
   ·omega
   ·have:=hqb hne a ha;have:=hwW.size;omega
   ·have:=hpb a ha;have:=hwW.size;omega
   ·exact h.elim
  ·rw [hF0];rcases hk with (rfl | rfl) | ⟨hne,a,ha,rfl⟩ | ⟨a,ha,rfl⟩
   ·omega
   ·omega
   ·have:=hqb hne a ha;omega
   ·have:=hpb a ha;omega
  ·rintro yl pre x vs F Y hyl hpre hJ0 ⟨R,b,hlast,rfl,fR⟩ hfy ⟨lo,hlo⟩;have hxR:x=R:=by simpa using hlast
   subst hxR;refine⟨rfl,F,KeepsG.refl _ _,hJ0,?_⟩;rintro o Y2 hY2 ⟨rfl,hJ2⟩;rw [hJ] at hJ2;obtain⟨h1,h0,h2,h3,h4⟩:=hJ2;have hbl:b≠yl:=fun e=>by
    rw [e] at fR;rw [fR] at hlo
    cases hlo
   have fR2:jq Y2 b x:=by rw [hY2];exact (zg hbl).trans fR
   have r1:=hR x (hpre.subset (by simp));have hpl:pre.length<xs.length:=by
    obtain⟨t,ht⟩:=hpre;rw [<- ht];simp only [lap,Qt];omega
   refine⟨_,zb (za h3) (i:=0) rfl,?_⟩;refine biE (fun hct=>?_) fun hct=>?_
   ·have hct:(pre.length:Int)=4096:=dT hct;have g0:Y2.heap[L]?=some (.cells #[.slice none 0 0] 23 (0,0)):=(h4.block L (by omega)).trans f0W;have g1:Y2.heap[L+1]?=some (.cells #[.bool false] 4 (0,0)):=(h4.block (L+1) (by omega)).trans f1W;refine zj k23 g0 (o:=0) (v := .slice none 0 0) rfl rfl (by show 0<1;decide) rfl fun Z1 fZ1 gZ1 sZ1=>?_;have g1':=(gZ1.block (L+1) (hlt g1) (by simp)).trans g1;refine zj k4 g1' (o:=0) (v := .bool false) rfl rfl (by show 0<1;decide) rfl fun Z2 fZ2 gZ2 sZ2=>?_;refine⟨F,⟨rfl,by omega,rfl,by omega,(gZ2.block L (hlt fZ1) (by simp)).trans fZ1,fZ2,?_⟩,(KeepsG.grown (F:=F) gZ1 (by rw [hF0];exact .inr (.inr (.inl rfl)))).trans (KeepsG.grown (F:=F) gZ2 (by rw [hF0];exact .inr (.inr (.inr rfl))))⟩;exact ((h4.mono (by omega)).trans (zh gZ1 (by omega) (UW _))).trans (zh gZ2 (by omega) (by omega))
   have hct:¬ (pre.length:Int)=4096:=dF hct;refine⟨_,zb (za h3) (i:=0) rfl,?_⟩;refine⟨((pre.length+1:Nat):Int),(ze (by omega)).trans (by omega),?_⟩;refine zj k3 h3 (o:=0) (v:=i64 (pre.length+1:Nat)) rfl rfl (by show 0<1;decide) rfl fun Z fZ gZ sZ=>?_;have fRZ:jq Z b x:=(gZ.block b (hlt fR2) (fun e=>by
    have e:b=L+3:=(by simpa using e);rw [e] at fR2;rw [fR2] at h3;simp at h3)).trans fR2
   have f2Z:=(gZ.block (L+2) (hlt h2) (by simp)).trans h2;have kZ:KeepsG F F Y2 Z:=KeepsG.grown gZ (by rw [hF0];exact .inr (.inl rfl));have bZ:Below (L+2) W Z:=h4.trans (zh gZ (by omega) (by omega));refine DrawE.ord [] [0,1,2,3,4,5,6,7,8,9] (by kernel_rfl) ?_;have hdZ:Bw Z Z.drew:=(Gb _ _).drew;refine⟨_,zb (za (hdr fRZ)) (i:=18) (zbp x),?_⟩;refine⟨x.many,rfl,r1,?_⟩;have ecut:jd (some ⟨b,0+19,none⟩) 24 0 7=some ⟨b,19,none⟩:=by rw [zct,UR]
   refine⟨Nat,fun i=>⟨[(6,AtR (L+2)),(7,AtR (L+3)),(29,.slice (some ⟨b,19,none⟩) (x.many-0) (24-0)),(30,i64 (x.many:Nat)),(31,i64 (i:Nat))],[]⟩,
    fun i T=>i<=x.many/\T.heap[L+2]?=some (.cells (wrC fun v=>wrL pre v||wrE x i v).toArray 150 (0,0))/\jq T b x/\T.heap[L+3]?=some (.cells [i64 (pre.length+1:Nat)].toArray 3 (0,0))/\KeepsG F F Y2 T/\Below (L+2) W T,fun i=>x.many-i,0,
    ⟨.cons rfl (.cons rfl (.cons (by rw [<- ecut];rfl) (.cons rfl (.cons rfl .nil)))),rfl⟩,⟨UZ _,?_,hdr fRZ,hdr fZ,kZ.trans (KeepsG.below hdZ fun k h => .inl h),bZ.drew⟩,?_⟩
   ·have e:(fun v=>wrL pre v||wrE x 0 v)=wrL pre:=by
     funext v;show (wrL pre v||false)=_;rw [Ux]
    rw [e];exact f2Z
   rintro i T ⟨hi,t2,tR,t3,kT,bT⟩;have hTs:=kT.size;refine biE (fun hc=>?_) fun hc=>?_
   ·have hc:(i:Int)<(x.many:Int):=dT hc;have him:i<x.many:=(by omega);refine⟨i,rfl,him,?_⟩;have hev:zu T ⟨b,19+i*7,none⟩ (evE.enc (x.ev i)):=by
     have:=zF (n:=i*7) (m:=7) (zlv tR);rw [zoH x.ev (show i<24 by omega)] at this;exact this
    refine⟨evE.enc (x.ev i),rfl,hev,hlt tR,?_⟩;refine zn (X:=T) (v := .agg (evE.enc (x.ev i)).toArray) k60 rfl rfl rfl fun T2 hb2 fT2 sT2=>?_;have k2:KeepsG F F Y2 T2:=kT.trans (KeepsG.below hb2 fun k h => .inl h);have b2:Below (L+2) W T2:=bT.trans (hb2.mono (by omega));have n1:=znr x i;refine⟨_,zb (za fT2) (i:=1) rfl,?_⟩;have u2:=zc hb2 t2;have uR:=zc hb2 tR;have u3:=zc hb2 t3;refine biE (fun hk=>?_) fun hk=>?_
    ·have hk:(x.ev i).k=2:=jj.1 (dT hk);refine⟨_,zb (za fT2) (i:=3) rfl,?_⟩;refine⟨((x.ev i).v).toNat,rfl,((x.ev i).v).toNat_lt,?_⟩;refine zj k4 u2 (o:=0+((x.ev i).v).toNat*1) (v := .bool true) rfl rfl (by rw [zln];have:=((x.ev i).v).toNat_lt;omega) rfl fun T3 fT3 gT3 sT3=>?_;rw [UR,UX,zpv] at fT3;have k3:KeepsG F F Y2 T3:=k2.trans (KeepsG.grown gT3 (by rw [hF0];exact .inl rfl));have hT2s:=k2.size;refine nxI (by omega) ?_;refine⟨i+1,(cvE rfl rfl),⟨him,?_,(gT3.block b (hlt uR) (fun e=>by
      have e:b=L+2:=(by simpa using e);rw [e] at uR;rw [uR] at u2;simp at u2)).trans uR,(gT3.block (L+3) (hlt u3) (by simp)).trans u3,k3,b2.trans (zh gT3 (by omega) (UW _))⟩,zdc (by omega)⟩
     have e:(fun v=>wrL pre v||wrE x (i+1) v)=fun v=>(wrL pre v||wrE x i v)||decide ((x.ev i).v=v):=by
      funext v;rw [n1,Us hk,Uy,Bool.or_assoc]
     rw [e];exact fT3
    ·have hk:¬ (x.ev i).k=2:=fun e=>(dF hk) (by rw [e];rfl);refine nxI (by omega) ?_;refine⟨i+1,(cvE rfl rfl),⟨him,?_,uR,u3,k2,b2⟩,zdc (by omega)⟩;have e:(fun v=>wrL pre v||wrE x (i+1) v)=fun v=>(wrL pre v||wrE x i v):=by
      funext v;rw [n1,Uh hk,Uj,Ux]
     rw [e];exact u2
   ·have hc:¬ (i:Int)<(x.many:Int):=dF hc;obtain rfl:i=x.many:=(by omega);refine⟨F,⟨rfl,?_⟩,kT⟩;rw [hJ];refine⟨by omega,by rw [lap];show pre.length+1<=4096;omega,?_,by rw [lap];exact t3,bT⟩;have e:wrL (pre++[x])=fun v=>wrL pre v||wrE x x.many v:=by
     funext v;exact znp pre x v
    rw [e];exact t2
  ·rintro D1 F Y hD hfD ⟨rfl,hj⟩ hdef;rw [hJ] at hj;obtain⟨h1,h0,h2,h3,h4⟩:=hj;exact⟨D1,(cvE rfl rfl),h0,h2,hdef,by omega,(hbW.mono (by omega)).trans h4⟩
  ·rintro D ex pre F Y hD hfD hpre ⟨rfl,h1,rfl,hlong,g0,g1,hbY⟩ hdef;refine⟨_,rfl,hdef,?_⟩;refine⟨.slice none 0 0,zb (za ((zg (by omega)).trans g0)) (i:=0) rfl,.bool false,zb (za ((zg (by omega)).trans g1)) (i:=0) rfl,.inr ⟨hlong,rfl⟩,?_⟩;have hwY:=hwW.trans (hbY.mono (by omega));exact qO hwY (by have:=hwV.size;omega) _
 clear f2 f3;rintro D1 U ⟨hm,f2,fD1,hLD,bU⟩;have f0:U.heap[L]?=some (.cells #[.slice none 0 0] 23 (0,0)):=(bU.block L (by omega)).trans f0;have f1:U.heap[L+1]?=some (.cells #[.bool false] 4 (0,0)):=(bU.block (L+1) (by omega)).trans f1;have hwU:Bw w U:=hwV.trans (bU.mono (by omega));have sU:=hlt f2;have sD:=hlt fD1;clear bU hwV;refine⟨List UInt8×OA×Nat,fun s=>⟨[(4,AtR L),(5,AtR (L+1)),(11,.slice s.2.1 s.1.length s.2.2)],[{ target := .collected D1,args := #[] }]⟩,fun s Z=>s.1=zad xs/\OwnS zC 5 U.heap.size Z s.2.1 s.2.2 s.1/\Bw U Z,?_,?_⟩
 ·refine⟨wrC (wrL xs),zln _,za f2,hlt f2,?_⟩;refine⟨Nat×OA×Nat,fun s=>⟨[(4,AtR L),(5,AtR (L+1)),(11,.slice s.2.1 ((zO.take s.1).filter (wrL xs)).length s.2.2),(42,.agg (wrC (wrL xs)).toArray),(43,i64 (s.1:Nat))],[{ target := .collected D1,args := #[] }]⟩,
   fun s Z=>s.1<=256/\OwnS zC 5 U.heap.size Z s.2.1 s.2.2 ((zO.take s.1).filter (wrL xs))/\Bw U Z,fun s=>256-s.1,(0,none,0),
   (cvE rfl rfl),⟨UZ _,OwnS.nil,Gb _ _⟩,?_⟩
  rintro⟨k,r,c⟩ Z ⟨hk,ho,hbZ⟩;dsimp only at hk ho ⊢;have hZs:=hbZ.size;refine biE (fun hc=>?_) fun hc=>?_
  ·have hc:(k:Int)<256:=dT hc;have hk2:k<256:=by omega
   have tk:zO.take (k+1)=zO.take k++[UInt8.ofNat k]:=by
    obtain⟨hlb,hbk⟩:=zo5 hk2;rw [tsg hlb,hbk]
   have fl:(zO.take (k+1)).filter (wrL xs)=(zO.take k).filter (wrL xs)++(if wrL xs (UInt8.ofNat k)=true then [UInt8.ofNat k] else []):=by
    rw [tk,Kw,zkY]
   have hfl:((zO.take k).filter (wrL xs)).length<=256:=by
    have h1:=JM (wrL xs) (zO.take k);rw [Qv] at h1;omega
   refine⟨k,rfl,hk2,?_⟩;refine zaa (by rw [UX];exact zkr _ hk2) ?_;refine biE (fun hv=>?_) fun hv=>?_
   ·rw [Gp hv] at fl;refine⟨_,w8N k,?_⟩;refine⟨⟨by decide,by decide,rfl⟩,zC.enc (UInt8.ofNat k),rfl,?_⟩;have hba:Bw Z (Z.alloc (.cells (zC.enc (UInt8.ofNat k)).toArray 5)):=zba _ _;refine js (E:=zC) (T:=5) (B:=U.heap.size) (l:=(zO.take k).filter (wrL xs)) (news:=[UInt8.ofNat k]) (cap:=c) (m:=1) Tryz.underlying23 k5 rfl rfl rfl (ho.below hba) rfl (qE zC (UInt8.ofNat k)) (by have:=hba.size;omega) (by omega) (by show (((zO.take k).filter (wrL xs)).length+1)*1<=_;omega) ?_;intro p2 c2 T oT gT hbT hat;refine nxI (by omega) ?_;refine⟨(k+1,p2,c2),⟨.cons rfl (.cons rfl (.cons (by rw [fl];rfl) (.cons rfl (.cons rfl .nil)))),rfl⟩,⟨hk2,by show OwnS zC _ _ _ _ _ ((zO.take (k+1)).filter (wrL xs));rw [fl];exact oT,(hbZ.trans (hba.mono hZs)).trans hbT⟩,zdc (by omega)⟩
   ·have hv:wrL xs (UInt8.ofNat k)=false:=hv;rw [hv,Gn Kv,QK] at fl;refine nxI (by omega) ?_;exact⟨(k+1,r,c),⟨.cons rfl (.cons rfl (.cons (by rw [fl];rfl) (.cons rfl (.cons rfl .nil)))),rfl⟩,⟨hk2,by show OwnS zC _ _ _ _ _ ((zO.take (k+1)).filter (wrL xs));rw [fl];exact ho,hbZ⟩,zdc (by omega)⟩
  ·have hc:¬ (k:Int)<256:=dF hc;obtain rfl:k=256:=by omega
   have e:(zO.take 256).filter (wrL xs)=zad xs:=by
    rw [zkq,JH (by unfold zO;rw [QN,KW];exact UW _)]
   rw [e] at ho;exact⟨(zad xs,r,c),⟨.cons rfl (.cons rfl (.cons (by rw [e];rfl) .nil)),rfl⟩,rfl,ho,hbZ⟩
 rintro⟨ys,r,c⟩ Z ⟨rfl,ho,hbZ⟩;dsimp only at ho ⊢;have hZs:=hbZ.size;have g0:=zc hbZ f0;have g1:=zc hbZ f1;have gD:=zc hbZ fD1;refine zj k23 g0 (o:=0) (v := .slice r (zad xs).length c) rfl rfl (by show 0<1;decide) rfl fun Z1 fZ1 gZ1 sZ1=>?_;have g1':=(gZ1.block (L+1) (hlt g1) (by simp)).trans g1;refine zj k4 g1' (o:=0) (v := .bool true) rfl rfl (by show 0<1;decide) rfl fun Z2 fZ2 gZ2 sZ2=>?_;have k2:∀ k,k<Z.heap.size->k≠L->k≠L+1->Z2.heap[k]?=Z.heap[k]?:=fun k hk n1 n2=>(gZ2.block k (by rw [sZ1];exact hk) (by simpa using n2)).trans (gZ1.block k hk (by simpa using n1));have fZ1':=(gZ2.block L (hlt fZ1) (by simp)).trans fZ1;refine⟨_,rfl,(k2 D1 (hlt gD) (by omega) (by omega)).trans gD,?_⟩;refine⟨.slice r (zad xs).length c,?_,.bool true,?_,.inl ⟨r,c,hm,rfl,?_⟩,?_⟩
 ·exact zb (za ((zg (by omega)).trans fZ1')) (i:=0) rfl
 ·exact zb (za ((zg (by omega)).trans fZ2)) (i:=0) rfl
 ·refine OwnS.lower (ho.same fun a ha=>?_) hwU.size;have h:=zak ho ha;exact (zg (by omega)).trans (k2 _ h.2.1 (by omega) (by omega))
 ·have hwZ:=zst hwU hbZ;exact qO ((hwZ.trans (zh gZ1 hwZ.size (by omega))).trans (zh gZ2 (by rw [sZ1];exact hwZ.size) (by omega))) (by omega) _
end
structure OkG (p:Prg):Prop where
 l1:1<=p.locs.length
 l6:p.locs.length<=6
 il:p.locs.length=p.init.length
 t1:1<=p.threads.length
 t4:p.threads.length<=4
 th:∀ l∈p.threads,qa l 6=true
 tl:∀ l∈p.threads,qa l p.locs.length=true
theorem OkG.i1 {p:Prg} (h:OkG p):1<=p.init.length:=by have:=h.l1;have:=h.il;omega
theorem OkG.i6 {p:Prg} (h:OkG p):p.init.length<=6:=by have:=h.l6;have:=h.il;omega
theorem zmY {x:InsD} {k k' n:Nat} (hk:k<=k') (h:zha x k n=true):zha x k' n=true:=by
 unfold zha qI at h ⊢;simp only [UA,List.all_nil,id_eq,Bool.and_true,bAT,dE,QH] at h ⊢;obtain⟨h1,h2,h3,h4,h5⟩:=h;exact⟨h1,h2,h3,h4.imp id (fun h=>nL h hk),h5⟩
theorem zie {l:List InsD} {k k':Nat} (hk:k<=k') (h:qa l k=true):qa l k'=true:=by
 unfold qa at h ⊢;rw [bAT,dE,Qk] at h ⊢;refine⟨h.1,fun i hi=>?_⟩;have:=h.2 i hi
 split at this
 ·exact zmY hk this
 ·rfl
theorem zda {p:Prg} (h:zcA p=true):OkG p:=by
 unfold zcA at h;simp only [bAT] at h;obtain⟨_,h2,⟨h4a,h4b,h5⟩,h6,_,h8⟩:=h;unfold zdw at h2;simp only [bAT,dE] at h2 h4a h4b;have h7:=Qk.1 h6;exact⟨h2.1,h2.2.1,h2.2.2.1.symm,h4a,h4b,fun l hl=>zie h2.2.1 (h7 l hl),h7⟩
def zhg (threads:List (List InsD)):Nat->List UInt8->Option (List UInt8)
 | 0,_=>none
 | n+1,vals=>if 16<vals.length then none else if (threads.any fun l=>decide (4096<(z8 l vals).length))=true then none else if (za8 threads vals).length=vals.length then some vals else zhg threads n (za8 threads vals)
def zc6 (p:Prg):Option (List UInt8):=zhg p.threads 18 (jg p.init)
theorem zcs (l:List UInt8):jg (jg l)=jg l:=ziL (zgS l)
theorem zhU {l:List UInt8} (h:1<=l.length):1<=(jg l).length:=by
 cases l with
 | nil=>simp at h
 | cons x r=>exact List.length_pos_of_mem (ze7.2 (KA ..))
theorem zi5 (rs:List RunD):(zad rs).length<=256:=by
 refine UM (JM ..) ?_;unfold zO;rw [QN,KW];exact UW _
theorem zlX {α β:Type} {g:α->List β} (hg:∀ a,(g a).length<=256):∀ l:List α,(l.flatMap g).length<=256*l.length
 | []=>UW _
 | a::l=>by
  rw [KT,lap,Qt];have:=hg a;have:=zlX hg l;omega
theorem zoP {a b:List UInt8} (h:∀ x,x∈a->x∈b):(jg a).length<=(jg b).length:=by
 unfold jg;rw [<- List.countP_eq_length_filter,<- List.countP_eq_length_filter];refine List.countP_mono_left fun x _ hx=>?_;obtain⟨y,hy,e⟩:=Ql.1 hx;exact Ql.2 ⟨y,h y hy,e⟩
theorem zhP (ths:List (List InsD)) {vals:List UInt8} (h:jg vals=vals):vals.length<=(za8 ths vals).length:=by
 unfold za8
 conv=>lhs;rw [<- h]
 exact zoP fun x hx=>JW _ hx
section
variable {B:Nat} {p:Prg} {pc:List Value} {w:Wd}
theorem zh3 (hB:B<=w.heap.size) (hP:PrgX B w pc p) (hG:GlobE w) (hok:zcA p=true) :
  Calls PG 22 #[.agg pc.toArray,i64 16] w fun e w'=>((∃ (V:List UInt8) (q:OA) (c:Nat),zc6 p=some V/\e = .returned (.tuple #[.slice q V.length c,i64 0])/\OwnS zC 5 w.heap.size w' q c V)\/(zc6 p=none/\e = .returned (.tuple #[.slice none 0 0,i64 5])))/\Bw w w':=by
 have hOP:=zda hok;have hi1:=hOP.i1;have hi6:=hOP.i6;refine je 60 [.agg pc.toArray,i64 16] (.c .p (.s .p (.c .p .p))) Tryz.func22 ?_;obtain⟨L,hL⟩:=nm (w.heap.size);have hpc:=hP.v.size;have hthr:=hP.v.len.threads;refine⟨Unit,fun _=>⟨[(1,i64 16),(2,AtR L)],[]⟩,fun _ X=>X.heap[L]?=some (.cells pc.toArray 29 (0,0))/\Bw w X,⟨(),⟨.cons rfl (.cons (by rw [hL];rfl) .nil),rfl⟩,by rw [hL];exact zz w _,(zba w _)⟩,?_⟩;rintro _ X ⟨f0,hbX⟩;refine brF (brF ⟨pc,hpc,za f0,hlt f0,cmo (ziZ (UM hB hbX.size) (hP.v.below (hbX.mono hB)) (hG.c.below hbX)) ?_⟩);rintro e Y ⟨m,rfl,hm,hbY⟩;have hm0:m=0:=hm.2 hok;subst hm0;refine brF ?_;have hwY:=zst hbX hbY;have f0:=zc hbY f0;obtain⟨_,⟨p3,c3,h3,xs,hxs,zdt,hxr⟩,⟨p2,c2,h2,hinit⟩⟩:=hP;refine⟨OA×Nat,fun s=>⟨[(1,i64 16),(2,AtR L),(6,.slice s.1 (jg p.init).length s.2)],[]⟩,fun s Z=>OwnS zC 5 w.heap.size Z s.1 s.2 (jg p.init)/\Z.heap[L]?=some (.cells pc.toArray 29 (0,0))/\Bw w Z,?_,?_⟩
 ·refine⟨_,zb (za f0) (i:=2) (by simpa using h2),cmo (zcZ ((hinit.below (hwY.mono hB)).slr (UM hB hwY.size)) hi1 (by omega)) ?_⟩;rintro e Z ⟨⟨q,c,rfl,ho⟩,hbZ⟩;exact⟨(q,c),(cvE rfl rfl),OwnS.lower ho hwY.size,zc hbZ f0,(zst hwY hbZ)⟩
 rintro⟨q,c⟩ X ⟨ho,f0,hbX⟩;obtain⟨R,hR⟩:=nm (zc6 p);rw [<- hR];refine⟨List UInt8×OA×Nat,fun s=>⟨[(1,i64 16),(2,AtR L),(6,.slice s.2.1 s.1.length s.2.2)],[]⟩,
  fun s Z=>((1<=s.1.length/\jg s.1=s.1)/\∃ n,18<=n+s.1.length/\zhg p.threads n s.1=R)/\OwnS zC 5 w.heap.size Z s.2.1 s.2.2 s.1/\Z.heap[L]?=some (.cells pc.toArray 29 (0,0))/\Bw w Z,fun s=>300-s.1.length,(jg p.init,q,c),
  (cvE rfl rfl),⟨⟨⟨zhU hi1,zcs _⟩,18,Qz _ _,hR.symm⟩,ho,f0,hbX⟩,?_⟩
 rintro⟨vals,q,c⟩ X ⟨⟨⟨hv1,hvd⟩,n,hn,hQ⟩,ho,f0,hbX⟩;dsimp only at hv1 hvd hn hQ ho ⊢;have hv256:vals.length<=256:=by rw [<- hvd];exact zdl _
 refine biE (fun h16=>?_) fun h16=>?_
 ·have h16:(16:Int)<(vals.length:Int):=dT h16;have e:R=none:=by
   rw [<- hQ]
   cases n with
   | zero=>rfl
   | succ n=>exact Gp (by omega)
  exact⟨.inr ⟨e,rfl⟩,hbX⟩
 have h16:¬ (16:Int)<(vals.length:Int):=dF h16;obtain⟨k,rfl⟩:∃ k,n=k+1:=⟨n-1,by omega⟩;have hQ:(if 16<vals.length then none else if (p.threads.any fun l=>decide (4096<(z8 l vals).length))=true then none else if (za8 p.threads vals).length=vals.length then some vals else zhg p.threads k (za8 p.threads vals))=R:=hQ;rw [Gn (by omega)] at hQ;have hq0:q=none->c=0:=fun e=>by
  rcases ho.inv with ⟨_,h,_⟩ | ⟨g,_,h,_⟩
  ·exact h
  ·rw [e] at h;cases h
 have hqb:∀ a,q=some a->a.block<X.heap.size:=fun a ha=>(zak ho ha).2.1;refine cmo (zkn ho.row (by omega) hq0) ?_;rintro e Y ⟨⟨q1,k1,rfl,o1⟩,hbY⟩;have hwY:=zst hbX hbY;have f0Y:=zc hbY f0;have hl3:xs.length=p.threads.length:=by rw [<- hxs,QN]
 refine⟨_,zb (za f0Y) (i:=3) (by simpa using h3),?_⟩;obtain⟨g,hg⟩:∃ g:List InsD->List UInt8,g=fun l=>zad (z8 l vals):=⟨_,rfl⟩;have hnx:za8 p.threads vals=jg (vals++p.threads.flatMap g):=by unfold za8;rw [hg]
 have hgl:∀ l,(g l).length<=256:=fun l=>by rw [hg];exact zi5 _
 have hth4:=hOP.t4;refine⟨Nat×OA×Nat,fun s=>⟨[(1,i64 16),(2,AtR L),(6,.slice q vals.length c),(7,.slice s.2.1 (vals++(p.threads.take s.1).flatMap g).length s.2.2),(33,.slice p3 p.threads.length c3),(34,i64 p.threads.length),(35,i64 (s.1:Nat))],[]⟩,
  fun s Z=>(s.1<=p.threads.length/\∀ l∈p.threads.take s.1,(z8 l vals).length<=4096)/\OwnS zC 5 X.heap.size Z s.2.1 s.2.2 (vals++(p.threads.take s.1).flatMap g)/\Bw X Z,fun s=>p.threads.length-s.1,(0,q1,k1),
  ⟨.cons rfl (.cons rfl (.cons rfl (.cons (by rw [Up,Qq,QK];rfl) (.cons rfl (.cons rfl (.cons rfl .nil)))))),rfl⟩,⟨⟨UZ _,fun l hl=>by cases hl⟩,by show OwnS zC _ _ _ _ _ (vals++(p.threads.take 0).flatMap g);rw [Up,Qq,QK];exact o1,hbY⟩,?_⟩
 rintro⟨m,q1,k1⟩ Y ⟨⟨hm,hsm⟩,o1,hbY⟩;dsimp only at hm hsm o1 ⊢;have hwY:=zst hbX hbY;have f0Y:=zc hbY f0;have hXY:=hbY.size;have lenTake:∀ j,(vals++(p.threads.take j).flatMap g).length<=1280:=fun j=>by
  have h1:=zlX hgl (p.threads.take j);rw [Qv] at h1;rw [lap];omega
 refine biE (fun hc=>?_) fun hc=>?_
 ·have hc:(m:Int)<(p.threads.length:Int):=dT hc;have hmt:m<p.threads.length:=by omega
  have hmx:m<xs.length:=by omega
  obtain⟨b3,o3,hp3,hb3,hat3⟩:=zc7 (zdt.below (hwY.mono hB)) hmx;have hB2:b3<Y.heap.size:=nL hb3 (UM hB hwY.size);have e3:some (Value.slice p3 p.threads.length c3)=some (Value.slice (some ⟨b3,o3,none⟩) p.threads.length c3):=by rw [hp3]
  subst hp3;refine⟨m,rfl,hmt,zg5 xs[m],by have:=zb (hat3 m hmx) (i:=0) (v:=zg5 xs[m]) rfl;exact this,?_⟩;obtain⟨hrm,hrb⟩:=hxr _ (gM hmx);have hxm:xs[m].1=p.threads[m]:=by
   have:=Gj (fun l=>l[m]?) hxs;simp only [KV,gE hmx,gE hmt,Ue,Qa] at this;exact this
  have hmem:=gM hmt;have hxl:xs[m].1.length=p.threads[m].length:=by rw [hxm]
  have hw:=zmo (w:=Y) (l:=p.threads[m]) (dom:=vals) (q:=xs[m].2.1) (p:=q) (cap:=xs[m].2.2) (cd:=c) (by rw [<- hxm];exact (hrm.below (hwY.mono hB)).slr (UM hB hwY.size)) (ho.row.below hbY) (hOP.th _ hmem) (fun hne a ha=>nL (hrb (by rw [hxm];exact hne) a ha) (UM hB hwY.size)) (fun a ha=>nL (hqb a ha) hXY) (by omega);rw [<- hxl] at hw;have eg:zad (z8 p.threads[m] vals)=g p.threads[m]:=by rw [hg]
  rw [eg] at hw;refine cmo hw ?_;rintro e Z ⟨(⟨q2,k2,hs,rfl,o2⟩ | ⟨hs,rfl⟩),hbZ⟩
  case inr =>
   refine brT ?_;have e:R=none:=by
    rw [<- hQ];exact Gp (Ql.2 ⟨_,hmem,Us hs⟩)
   exact⟨.inr ⟨e,rfl⟩,hbX.trans ((hbY.trans (hbZ.mono hXY)).mono hbX.size)⟩
  refine brF ?_;have tk:(p.threads.take (m+1)).flatMap g=(p.threads.take m).flatMap g++g p.threads[m]:=by
   rw [tsg hmt,Kh,KT,Qq,QK]
  have l1:=lenTake m;have l2:=lenTake (m+1);rw [tk,<- KQ,lap] at l2;have hXZ:=hbY.trans (hbZ.mono hXY);have hsZ:=hbZ.size;refine zfS (E:=zC) (T:=5) (B:=X.heap.size) (l:=vals++(p.threads.take m).flatMap g) (news:=g p.threads[m]) (cap:=k1) (m:=(g p.threads[m]).length) Tryz.underlying23 k5 rfl rfl rfl (o1.below hbZ) rfl o2.row (fun e=>by
   rcases o2.inv with ⟨_,h,_⟩ | ⟨g',_,h,_⟩
   ·exact h
   ·rw [e] at h;cases h) (by omega) (by omega) (by show ((vals++(p.threads.take m).flatMap g).length+(g p.threads[m]).length)*1<=_;omega) ?_
  intro q4 k4 U oU gU hbU;rw [KQ,<- tk] at oU ⊢;refine nxI (by omega) ⟨(m+1,q4,k4),(cvE rfl rfl),⟨⟨hmt,fun l hl=>?_⟩,oU,hXZ.trans hbU⟩,zdc (by omega)⟩;have hl:l∈p.threads.take (m+1):=hl;rw [tsg hmt] at hl;rcases QS.1 hl with hl | hl
  ·exact hsm l hl
  ·rw [KB.1 hl];exact hs
 ·have hc:¬ (m:Int)<(p.threads.length:Int):=dF hc;obtain rfl:m=p.threads.length:=by omega
  rw [Qx] at o1 hsm ⊢;have l3:=lenTake p.threads.length;rw [Qx] at l3;rw [Gn (fun h=>by
   obtain⟨l,hl,e⟩:=Ql.1 h;have:=hsm l hl;have:=dT e;omega)] at hQ
  refine cmo (zcZ o1.row (by rw [lap];omega) (by omega)) ?_;rintro e Z ⟨⟨q2,k2,rfl,o2⟩,hbZ⟩;rw [<- hnx] at o2 ⊢;have hXZ:=hbY.trans (hbZ.mono hXY);have hwZ:=zst hbX hXZ;refine biE (fun he=>?_) fun he=>?_
  ·have he:(za8 p.threads vals).length=vals.length:=by
    have:=dT he;omega
   rw [Gp he] at hQ;exact⟨.inl ⟨vals,q,c,hQ.symm,rfl,ho.below hXZ⟩,hwZ⟩
  ·have he:¬ (za8 p.threads vals).length=vals.length:=fun e=>(dF he) (by rw [e]);rw [Gn he] at hQ;have hge:=zhP p.threads hvd;have hle:(za8 p.threads vals).length<=256:=zdl _;exact⟨(za8 p.threads vals,q2,k2),(cvE rfl rfl),⟨⟨⟨by show 1<=(za8 p.threads vals).length;omega,zcs _⟩,k,by show 18<=k+(za8 p.threads vals).length;omega,hQ⟩,OwnS.lower o2 hwY.size,zc hXZ f0,hwZ⟩,by show 300-(za8 p.threads vals).length<300-vals.length;omega⟩
end
abbrev zA (V:List UInt8) (l:List InsD):List PathD:=(z8 l V).map jf
abbrev zY (p:Prg) (V:List UInt8):List MixD:=zoi p.init (p.threads.map (zA V))
def zcB (p:Prg) (V:List UInt8):Prop :=
 (∀ l∈p.threads,(z8 l V).length<=4096)/\(∀ k,k<=p.threads.length->za7 ((p.threads.take k).map fun l=>(zA V l).length)<=4096) /\
  ∀ ds∈qb ((p.threads.map (zA V)).map List.length),(zgv p.init (qK (p.threads.map (zA V)) ds)).isSome=true
section
variable {w:Wd} {bP cv B:Nat} {pc:List Value} {qv:OA} {V:List UInt8} {p:Prg}
theorem zoj (fP:w.heap[bP]?=some (.cells pc.toArray 29 (0,0))) (hB:B<=w.heap.size) (hP:PrgX B w pc p) (hO:OkG p) (hG:GlobE w) (hV:SlR zC w qv V) (hv1:1<=V.length) (hVd:jg V=V) (hpb:∀ l∈p.threads,∀ P∈zA V l,PathB p.init.length P) :
  Calls PG 24 #[At0 bP,.slice qv V.length cv] w fun e w'=>((zcB p V/\∃ (ms:List MixX) (q:OA) (c:Nat),e = .returned (.tuple #[.slice q ms.length c,.bool true])/\ms.map (·.m)=zY p V/\OwnS zg7 87 w.heap.size w' q c ms/\∀ x∈ms,NInM w.heap.size (fun k=>w.heap.size<=k) w' x)\/(¬ zcB p V/\e = .returned (.tuple #[.slice none 0 0,.bool false])))/\Bw w w':=by
 have hil:=hO.il;have hi6:=hO.i6;have ht4:=hO.t4;have hv256:V.length<=256:=by rw [<- hVd];exact zdl V
 refine je 89 [At0 bP,.slice qv V.length cv] (.c .p (.c .p (.s .p (.s .p (.c .p (.c .p (.s .p .p))))))) Tryz.func24 ?_;obtain⟨L,hL⟩:=nm (w.heap.size);have hbP:=hlt fP;refine⟨Unit,fun _=>⟨[(1,.slice qv V.length cv),(2,At0 L),(4,At0 (L+1)),(5,At0 (L+2))],[]⟩,fun _ X=>X.heap[L]?=some (.cells #[At0 bP] 84 (0,0))/\X.heap[L+1]?=some (.cells #[.slice none 0 0] 81 (0,0))/\X.heap[L+2]?=some (.cells #[.bool false] 4 (0,0))/\X.heap.size=L+3/\Bw w X,?_,?_⟩
 ·have s1:=wz w (.cells #[At0 bP] 84);have h2:=zz (w.alloc (.cells #[At0 bP] 84)) (.cells #[.slice none 0 0] 81);have s2:=wz (w.alloc (.cells #[At0 bP] 84)) (.cells #[.slice none 0 0] 81);have h3:=zz ((w.alloc (.cells #[At0 bP] 84)).alloc (.cells #[.slice none 0 0] 81)) (.cells #[.bool false] 4);have s3:=wz ((w.alloc (.cells #[At0 bP] 84)).alloc (.cells #[.slice none 0 0] 81)) (.cells #[.bool false] 4);rw [s1] at h2 s2;rw [s2] at h3 s3;refine⟨(),⟨.cons rfl (.cons (by rw [hL];rfl) (.cons (by rw [hL,<- s1];rfl) (.cons (by rw [hL,<- s2];rfl) .nil))),rfl⟩,?_,?_,?_,?_,?_⟩
  ·rw [hL];exact qF _ (qF _ (zz w _))
  ·rw [hL];exact qF _ h2
  ·rw [hL];exact h3
  ·rw [hL];exact s3
  ·exact (((zba w _)).alloc (by simp) _).alloc (by simp;omega) _
 rintro _ X ⟨f0,f1,f2,sX,hbX⟩;refine⟨Unit,fun _=>⟨[(1,.slice qv V.length cv),(2,At0 L),(4,At0 (L+1)),(5,At0 (L+2)),(6,At0 (L+3))],[]⟩,fun _ Y=>MxS w.heap.size Y L bP [] none 0 [] none 0/\Bw w Y,?_,?_⟩
 ·refine⟨(),⟨.cons rfl (.cons rfl (.cons rfl (.cons rfl (.cons (by rw [<- sX];rfl) .nil)))),rfl⟩,⟨qF _ f0,qF _ f1,qF _ f2,by rw [<- sX];exact zz X _,OwnS.nil,OwnS.nil,fun z hz=>(by cases hz),fun z hz=>(by cases hz)⟩,hbX.alloc hbX.size _⟩
 clear f0 f1 f2 sX hbX;rintro _ X ⟨hS,hbX⟩;have hP0:=hP;obtain⟨_,⟨p3,c3,h3,xs,hxs,zdt,hxr⟩,⟨p2,c2,h2,hinit⟩⟩:=hP;have hxl:xs.length=p.threads.length:=by rw [<- hxs,QN]
 refine⟨(List TpR×OA×Nat)×OA×Nat,fun s=>⟨[(2,At0 L),(4,At0 (L+1)),(5,At0 (L+2)),(6,At0 (L+3)),(7,.slice s.2.1 (p.threads.map fun l=>(zA V l).length).length s.2.2)],[]⟩,fun s Z=>((∀ l∈p.threads,(z8 l V).length<=4096)/\∀ k,k<=p.threads.length->za7 ((p.threads.take k).map fun l=>(zA V l).length)<=4096)/\MxS w.heap.size Z L bP (p.threads.map fun l=>(zA V l).length) s.2.1 s.2.2 s.1.1 s.1.2.1 s.1.2.2/\s.1.1.map (fun z=>z.1.map (·.1))=p.threads.map (zA V)/\Bw w Z,?_,?_⟩
 ·refine⟨_,zb (za hS.f0) (i:=0) rfl,?_⟩;refine⟨_,zb (za (zc hbX fP)) (i:=3) (by simpa using h3),?_⟩;refine⟨Nat×(List TpR×OA×Nat)×OA×Nat,fun s=>⟨[(1,.slice qv V.length cv),(2,At0 L),(4,At0 (L+1)),(5,At0 (L+2)),(6,At0 (L+3)),(7,.slice s.2.2.1 ((p.threads.take s.1).map fun l=>(zA V l).length).length s.2.2.2),(8,i64 (za7 ((p.threads.take s.1).map fun l=>(zA V l).length):Nat)),(23,.slice p3 p.threads.length c3),(24,i64 p.threads.length),(25,i64 (s.1:Nat))],[]⟩,
   fun s Z=>(s.1<=p.threads.length/\(∀ l∈p.threads.take s.1,(z8 l V).length<=4096)/\∀ k,k<=s.1->za7 ((p.threads.take k).map fun l=>(zA V l).length)<=4096)/\MxS w.heap.size Z L bP ((p.threads.take s.1).map fun l=>(zA V l).length) s.2.2.1 s.2.2.2 s.2.1.1 s.2.1.2.1 s.2.1.2.2/\s.2.1.1.map (fun z=>z.1.map (·.1))=(p.threads.take s.1).map (zA V)/\Bw w Z,fun s=>p.threads.length-s.1,(0,([],none,0),none,0),
   (cvE rfl rfl),⟨⟨UZ _,fun l hl=>Gq hl (by simp),fun k hk=>by rw [Nat.le_zero.1 hk];exact (by decide:(1:Nat)<=4096)⟩,hS,rfl,hbX⟩,?_⟩
  clear hS hbX;rintro⟨k,⟨ts,pT,cT⟩,ps,cs⟩ Z ⟨⟨hk,hle,hall⟩,hS,hz,hbZ⟩;dsimp only at hk hle hall hS hz ⊢;have hts:ts.length=k:=by
   have:=Gj List.length hz;rw [QN,QN,Qv] at this;omega
  refine biE (fun hc=>?_) fun hc=>?_
  ·have hc:(k:Int)<(p.threads.length:Int):=dT hc;have hkl:k<p.threads.length:=by omega
   have hkx:k<xs.length:=by omega
   have hZs:=hbZ.size;obtain⟨l,hlk⟩:∃ l,p.threads[k]=l:=⟨_,rfl⟩;have hlm:l∈p.threads:=by rw [<- hlk];exact gM hkl
   have hQ:=hO.th l hlm;obtain⟨b3,o3,hp3,hb3,hat3⟩:=zc7 (zdt.below (hbZ.mono hB)) hkx;have hB2:b3<Z.heap.size:=by omega
   have e3:some (Value.slice p3 p.threads.length c3)=some (Value.slice (some ⟨b3,o3,none⟩) p.threads.length c3):=by rw [hp3]
   subst hp3;refine⟨k,rfl,hkl,?_⟩;refine⟨zg5 xs[k],by have:=zb (hat3 k hkx) (i:=0) (v:=zg5 xs[k]) rfl;exact this,?_⟩;obtain⟨hrm,hrb⟩:=hxr _ (gM hkx);have hxm:xs[k].1=l:=by
    have:=Gj (fun l=>l[k]?) hxs;simp only [KV,gE hkx,gE hkl,Ue,Qa] at this;rw [this,hlk]
   have hpt:(p.threads.take (k+1))=p.threads.take k++[l]:=by rw [tsg hkl,hlk]
   refine cmo (zpk (l:=xs[k].1) (vals:=V) ((hrm.below (hbZ.mono hB)).slr (by omega)) (hV.below hbZ) hv1 (by omega) (by rw [hxm];exact hQ) (hG.below hbZ) (fun hne a ha=>by have:=hrb hne a ha;omega)) ?_;rw [hVd,hxm];obtain⟨A,hA⟩:=nm (za7 ((p.threads.take k).map fun l=>(zA V l).length));have hpr0:=hall k (UW _);rintro e Y ⟨(⟨rk,pk,ck,hmle,rfl,hrk,ork,onk⟩ | ⟨hlong,rfl⟩),hbY⟩
   case inr =>
    have hSY:=hS.below hbY;rw [<- hA] at hpr0 ⊢;refine⟨((A*0:Nat):Int),(ze (by omega)).trans (by omega),?_⟩;refine brT ?_;refine brT ?_;refine zj k81 hSY.f1 (o:=0) (v := .slice none 0 0) rfl rfl (by show 0<1;decide) rfl fun Z1 fZ1 gZ1 sZ1=>?_;refine zj k4 ((gZ1.block (L+2) (hlt hSY.f2) (by simp)).trans hSY.f2) (o:=0) (v := .bool false) rfl rfl (by show 0<1;decide) rfl fun Z2 fZ2 gZ2 sZ2=>?_;refine⟨.slice none 0 0,zb (za ((gZ2.block (L+1) (hlt fZ1) (by simp)).trans fZ1)) (i:=0) rfl,.bool false,zb (za fZ2) (i:=0) rfl,.inr ⟨fun h=>?_,rfl⟩,?_⟩
    ·have:=h.1 l hlm;omega
    ·have hwY:=hbZ.trans (hbY.mono hZs);exact (hwY.trans (zh gZ1 hwY.size (by omega))).trans (zh gZ2 (by rw [sZ1];exact hwY.size) (by omega))
   have hrk:rk.map (·.1)=zA V l:=hrk;have hrkl:rk.length=(zA V l).length:=by rw [<- hrk,QN]
   have hpl:(zA V l).length<=4096:=by rw [QN];exact hmle
   have hSY:=hS.below hbY;have hA2:za7 ((p.threads.take (k+1)).map fun l=>(zA V l).length)=A*rk.length:=by
    rw [hpt,QR];show za7 ((p.threads.take k).map (fun l=>(zA V l).length)++[(zA V l).length])=_;rw [zkM,<- hrkl,hA]
   rw [<- hA] at hpr0 ⊢;obtain⟨nz,hnz⟩:∃ nz:TpR,nz=(rk,pk,ck):=⟨_,rfl⟩;have hen:[Value.slice pk rk.length ck]=tpE.enc nz:=by rw [hnz];rfl
   have hAr:A*rk.length<=4096*4096:=Uq hpr0 (by omega);refine⟨((A*rk.length:Nat):Int),by rw [<- QI];exact ze (by omega),?_⟩;refine brF ?_;refine biE (fun hbig=>?_) fun hbig=>?_
   ·have hbig:(4096:Int)<((A*rk.length:Nat):Int):=dT hbig;refine zj k81 hSY.f1 (o:=0) (v := .slice none 0 0) rfl rfl (by show 0<1;decide) rfl fun Z1 fZ1 gZ1 sZ1=>?_;refine zj k4 ((gZ1.block (L+2) (hlt hSY.f2) (by simp)).trans hSY.f2) (o:=0) (v := .bool false) rfl rfl (by show 0<1;decide) rfl fun Z2 fZ2 gZ2 sZ2=>?_;refine⟨.slice none 0 0,zb (za ((gZ2.block (L+1) (hlt fZ1) (by simp)).trans fZ1)) (i:=0) rfl,.bool false,zb (za fZ2) (i:=0) rfl,.inr ⟨fun h=>?_,rfl⟩,?_⟩
    ·have:=h.2.1 (k+1) hkl;rw [hA2] at this;omega
    ·have hwY:=hbZ.trans (hbY.mono hZs);exact (hwY.trans (zh gZ1 hwY.size (by omega))).trans (zh gZ2 (by rw [sZ1];exact hwY.size) (by omega))
   have hbig:¬ (4096:Int)<((A*rk.length:Nat):Int):=dF hbig;have hpr:A*rk.length<=4096:=by omega
   refine⟨_,zb (za hSY.f3) (i:=0) rfl,?_⟩;refine⟨⟨by decide,by decide,rfl⟩,tpE.enc nz,by rw [<- hen];rfl,?_⟩;have hb1:Bw Y (Y.alloc (.cells (tpE.enc nz).toArray 78)):=zba _ _;have hS1:=hSY.below hb1;have ork1:=ork.below hb1;have onk1:=fun x hx=>(onk x hx).same (Z:=Y.alloc (.cells (tpE.enc nz).toArray 78)) fun {α E T c q l} _ ho=>ho.below hb1;unfold zeh zav;show SatR _ _;refine zs4 hS1.rk (qE tpE nz) (by have:=hb1.size;have:=hbY.size;omega) (by omega) fun p' c' U oU gU hat1=>?_;have f0U:=qh hS1.f0 hS1.rk (by decide) gU;have f1U:=qh hS1.f1 hS1.rk (by decide) gU;have f2U:=qh hS1.f2 hS1.rk (by decide) gU;have f3U:=qh hS1.f3 hS1.rk (by decide) gU;refine zj zs2 f3U (o:=0) (v := .slice p' (ts++[nz]).length c') rfl rfl (by show 0<1;decide) rfl fun S fS gS sS=>?_;have hbZY:=hbZ.trans (hbY.mono hZs);have sY:=hbY.size;have sb1:=hb1.size;have hbU:Bw w U:=(hbZY.trans (hb1.mono (by omega))).trans (jl hS1.rk (by omega) (UW _) gU);have hbS:Bw w S:=hbU.trans (zh gS hbU.size (by omega));have hSS:MxS w.heap.size S L bP ((p.threads.take k).map fun l=>(zA V l).length) ps cs (ts++[nz]) p' c':=by
    have kU:∀ {α:Type} {E:Enc α} {T cc:Nat} {r:OA} {ll:List α},T≠78->T≠118->OwnS E T w.heap.size (Y.alloc (.cells (tpE.enc nz).toArray 78)) r cc ll->OwnS E T w.heap.size S r cc ll:=fun {α E T cc r ll} h1 h2 h=>qi (jE h hS1.rk h1 gU) f3U h2 gS;have kB:∀ {b:Nat} {o:Obj},b≠L+3->U.heap[b]?=some o->S.heap[b]?=some o:=fun {b o} hb h=>(gS.block b (hlt h) (by simpa using hb)).trans h;have kP:∀ x:zbZ,PthO w.heap.size (Y.alloc (.cells (tpE.enc nz).toArray 78)) x->PthO w.heap.size S x:=fun x hx=>hx.same fun {α E T c q l} ht ho=>kU (by rcases ht with rfl | rfl <;> decide) (by rcases ht with rfl | rfl <;> decide) ho;refine⟨kB (by omega) f0U,kB (by omega) f1U,kB (by omega) f2U,fS,kU (by decide) (by decide) hS1.own,qi oU f3U (by decide) gS,fun z hz=>?_,fun z hz=>?_⟩
    ·rcases QS.1 hz with hz | hz
     ·exact kU (by decide) (by decide) (hS1.n1 z hz)
     ·rw [KB.1 hz,hnz];exact kU (by decide) (by decide) (ork1.lower hZs)
    ·rcases QS.1 hz with hz | hz
     ·exact fun x hx=>kP x (hS1.n2 z hz x hx)
     ·rw [KB.1 hz,hnz];exact fun x hx=>kP x ((onk1 x hx).mono hZs)
   clear hS1 ork1 onk1 hSY hS oU gU hat1 f0U f1U f2U f3U fS gS;refine⟨⟨by decide,by decide,rfl⟩,zw.enc rk.length,rfl,?_⟩;have hb2:Bw S (S.alloc (.cells (zw.enc rk.length).toArray 3)):=zba _ _;have hS2:=hSS.below hb2;have sbS:=hbS.size;have sb2:=hb2.size;unfold zeh zav;show SatR _ _;refine zpe hS2.own (qE zw rk.length) (by omega) (by rw [QN,Qv];omega) fun p2' c2' V' oV gV hat2=>?_;rw [zaf] at gV;have hSV:=hS2.size oV gV;have hzz:((p.threads.take k).map fun l=>(zA V l).length)++[rk.length]=(p.threads.take (k+1)).map fun l=>(zA V l).length:=by
    rw [hpt,QR,hrkl];rfl
   rw [hzz] at hSV ⊢;refine nxI (by omega) ?_;refine⟨(k+1,(ts++[nz],p',c'),p2',c2'),⟨.cons rfl (.cons rfl (.cons rfl (.cons rfl (.cons rfl (.cons rfl (.cons (by show _=some (i64 (za7 ((p.threads.take (k+1)).map fun l=>(zA V l).length):Nat));rw [hA2];rfl) (.cons rfl (.cons rfl (.cons rfl .nil))))))))),rfl⟩,⟨⟨hkl,fun l' hl'=>?_,fun k' hk'=>?_⟩,hSV,?_,hbS.trans ((hb2.mono sbS).trans (jl hS2.own (by omega) (UW _) gV))⟩,zdc (by omega)⟩
   ·have hl':l'∈p.threads.take (k+1):=hl';rw [hpt] at hl';rcases QS.1 hl' with h | h
    ·exact hle l' h
    ·rw [KB.1 h];exact hmle
   ·have hk':k'<=k+1:=hk';by_cases e:k'=k+1
    ·rw [e,hA2];exact hpr
    ·exact hall k' (by omega)
   rw [hpt,QR,QR,hz,hnz];show _++[rk.map (·.1)]=_++[zA V l];rw [hrk]
  ·have hc:¬ (k:Int)<(p.threads.length:Int):=dF hc;obtain rfl:k=p.threads.length:=by omega
   rw [Qx] at hz hS hle ⊢;exact⟨((ts,pT,cT),ps,cs),(cvE rfl rfl),⟨hle,hall⟩,hS,hz,hbZ⟩
 rintro⟨⟨ts,pT,cT⟩,ps,cs⟩ X ⟨⟨hle,hall⟩,hS,hz,hbX⟩;dsimp only at hS hz ⊢;obtain⟨Q,hQ⟩:=nm (X.heap.size);refine⟨Unit,fun _=>⟨[(2,At0 L),(4,At0 (L+1)),(5,At0 (L+2)),(6,At0 (L+3)),(7,.slice ps (p.threads.map fun l=>(zA V l).length).length cs),(13,At0 Q)],[]⟩,fun _ Z=>MxS w.heap.size Z L bP (p.threads.map fun l=>(zA V l).length) ps cs ts pT cT/\Z.heap[Q]?=some (.cells #[.slice none 0 0] 81 (0,0))/\Z.heap.size=Q+1/\Bw w Z,?_,?_⟩
 ·refine⟨(),⟨.cons rfl (.cons rfl (.cons rfl (.cons rfl (.cons rfl (.cons (by rw [hQ];rfl) .nil))))),rfl⟩,hS.below ((zba X _)),by rw [hQ];exact zz X _,by rw [hQ];exact wz _ _,hbX.alloc hbX.size _⟩
 have hQw:w.heap.size+4<=Q:=by have:=hlt hS.f3;omega
 clear hS hbX hQ;clear X;rintro _ X ⟨hS,fQ,sX,hbX⟩;obtain⟨Ts,hTs⟩:=nm (p.threads.map (zA V));have hTl:Ts.length=p.threads.length:=by rw [hTs,QN]
 have htl:ts.length=p.threads.length:=by have:=Gj List.length hz;simpa using this
 have hsz:(p.threads.map fun l=>(zA V l).length)=Ts.map List.length:=by rw [hTs,UH];rfl
 rw [hsz] at hS ⊢;rw [<- hTs] at hz;have hsl1:(Ts.map List.length).length<=1000:=by rw [QN];omega
 have hsl2:∀ n∈Ts.map List.length,n<=1000000:=fun n hn=>by
  rw [hTs,UH] at hn;obtain⟨l,hl,rfl⟩:=UJ.1 hn;have:=hle l hl;show ((z8 l V).map jf).length<=_;rw [QN];omega
 have hmemT:∀ z∈ts,∀ x∈z.1,PathB p.init.length x.1:=fun z hz' x hx=>by
  have h1:z.1.map (·.1)∈Ts:=by rw [<- hz];exact UJ.2 ⟨z,hz',rfl⟩
  rw [hTs] at h1;obtain⟨l,hl,he⟩:=UJ.1 h1;exact hpb l hl x.1 (by rw [he];exact UJ.2 ⟨x,hx,rfl⟩)
 refine cmo zoc ?_;rintro e V1 ⟨rfl,fo,sV1,hbV1⟩;have hI:=zqQ fo (hS.own.row.below hbV1) (fun a ha=>by have:=(zq hS.own ha).2.1;omega) hsl1 hsl2;have hS1:=hS.below hbV1;have hb1:Bw w V1:=zst hbX hbV1;have hG0:Gath zg7 87 81 Q V1.heap.size Q V1 (NInM w.heap.size) [] (fun k=>k=Q\/k=L+1\/k=L+2) V1 :=
  ⟨UW _,.inl rfl,fun k hk=>by have:=hlt hS1.f3;omega,⟨none,0,zc hbV1 fQ,OwnS.nil,fun a h=>by cases h⟩,fun x hx=>(by cases hx),Gb _ _⟩
 obtain⟨f,hf⟩:∃ f:List Nat->Option MixD,f=fun ds=>zgv p.init (qK Ts ds):=⟨_,rfl⟩;have hmix:zY p V=(qb (Ts.map List.length)).filterMap f:=by rw [hf,hTs];rfl
 have hIter:=Gath.iter (σ:=List (List Nat)) (E:=zg7) (T:=87) (TS:=81) (B:=Q) (n0:=V1.heap.size) (L:=Q) (W:=V1) (NIn:=NInM w.heap.size) (f:=fun pre (ms:List MixX)=>ms.map (·.m)=pre.filterMap f/\ms.length<=pre.length/\∀ ds∈pre,(f ds).isSome=true) (zhH _) (by omega);have hOkI:∀ h:(∀ ds∈qb (Ts.map List.length),(f ds).isSome=true),zcB p V:=fun h=>⟨hle,hall,by rw [hf,hTs] at h;exact h⟩;have hOkE:zcB p V->∀ ds∈qb (Ts.map List.length),(f ds).isSome=true:=fun h=>by rw [hf,hTs];exact h.2.2
 have hQL:L+2<Q:=by omega
 have h1Q:=hS1.f1;have h2Q:=hS1.f2;refine zcO (zbc _) rfl (lb := #[At0 X.heap.size]) rfl rfl hI (UW _) (fun k hk=>⟨?_,rfl⟩) (fun pre vs W ⟨l,q,_,h,_⟩=>by rw [h];rfl) (by decide)
  (fun k=>k=Q\/k=L+1\/k=L+2) (fun pre F Y=>(F (L+1)/\F (L+2))/\∃ ms,(ms.map (·.m)=pre.filterMap f/\ms.length<=pre.length/\∀ ds∈pre,(f ds).isSome=true)/\Gath zg7 87 81 Q V1.heap.size Q V1 (NInM w.heap.size) ms F Y)
  (fun ex pre F Y=>(∀ k,F k->k<Y.heap.size)/\V1.heap.size<=Y.heap.size/\ex = .ret/\¬ zcB p V/\Y.heap[L+1]?=some (.cells #[.slice none 0 0] 81 (0,0))/\Y.heap[L+2]?=some (.cells #[.bool false] 4 (0,0))/\Bw w Y) (fun k hk=>?_) ⟨fun s F A C ⟨h1,h2⟩ hs=>⟨h1,hIter.step s F A C h2 hs⟩,fun s F A k ⟨_,h2⟩ hk=>hIter.lt s F A k h2 hk⟩
  (fun ex=>⟨fun pre F A C ⟨g1,g2,g3,g4,g5,g6,g7⟩ hs=>⟨fun k hk=>nL (g1 k hk) hs.size,UM g2 hs.size,g3,g4,(hs.same _ (hlt g5) (.inl ⟨by omega,fun h=>h⟩)).trans g5,(hs.same _ (hlt g6) (.inl ⟨by omega,fun h=>h⟩)).trans g6,g7.trans ⟨hs.os,hs.tape,hs.output,hs.size,fun k hk=>hs.same k (by have:=g7.size;omega) (.inl ⟨by have:=hb1.size;omega,fun h=>h⟩)⟩⟩,fun pre F A k ⟨g1,_⟩ hk=>⟨g1 k hk,fun h=>h⟩⟩) ⟨⟨.inr (.inl rfl),.inr (.inr rfl)⟩,[],⟨rfl,UZ _,fun ds h=>by cases h⟩,hG0⟩ ?_ ?_ ?_
 ·rcases hk with (rfl | ⟨a,ha,rfl⟩) | h
  ·omega
  ·have:=(zq hS.own ha).2.1;omega
  ·exact h.elim
 ·rcases hk with rfl | ⟨a,ha,rfl⟩
  ·omega
  ·obtain⟨_,_,cur,hc⟩:=zq hS.own ha;rintro (e | e | e)
   ·rw [e,fQ] at hc;simp at hc
   ·rw [e,hS.f1] at hc;simp at hc
   ·rw [e,hS.f2] at hc;simp at hc
 ·rintro yl pre ds vs F Y hyl hpre hJ0 ⟨l,qd,hlast,rfl,hsl,hcel⟩ hfy ⟨lo,hlo⟩;have hdx:ds=l:=by simpa using hlast
  subst hdx;refine⟨rfl,F,KeepsG.refl _ _,hJ0,?_⟩;rintro O Y2 hY2 ⟨hFL,ms,⟨hms,hml,hsm⟩,hG2⟩;have hslY:SlR zw Y2 qd ds:=by
   rw [hY2];refine qS hsl fun a ha=>zg fun e=>?_;obtain⟨cur,hcur⟩:=hcel a ha;rw [e,hlo] at hcur
   cases hcur
  obtain⟨hdl,hdlt⟩:=zah (hpre.subset (JO _ (KB.2 rfl)));have hdm:ds∈qb (Ts.map List.length):=hpre.subset (JO _ (KB.2 rfl));rw [QN] at hdl;have hY2s:=hG2.size;have old:∀ {k:Nat} {ob:Obj},k<Q->V1.heap[k]?=some ob->Y2.heap[k]?=some ob:=fun {k ob} hk h=>(hG2.old.block k hk).trans h;have g0:=old (by omega) hS1.f0;have g3:=old (by omega) hS1.f3;have kR:∀ {α:Type} {E:Enc α} {T cc:Nat} {r:OA} {ll:List α},T≠81->OwnS E T w.heap.size X r cc ll->OwnS E T w.heap.size Y2 r cc ll:=fun {α E T cc r ll} hT h=>h.same fun a ha=>by
   have hq:a.block≠Q:=fun e=>by
    obtain⟨_,_,cur,hc⟩:=zq h ha;rw [e,fQ] at hc;simp at hc;exact hT hc.2.symm
   have:=(zq h ha).2.1;exact (hG2.old.block _ (by omega)).trans (hbV1.block _ this)
  have rkY:=kR (by decide) hS.rk;have n1Y:=fun z hz=>kR (by decide) (hS.n1 z hz);have n2Y:∀ z∈ts,∀ x∈z.1,PthO w.heap.size Y2 x:=fun z hz x hx=>(hS.n2 z hz x hx).same fun {α E T c q l} ht ho=>kR (by rcases ht with rfl | rfl <;> decide) ho;have fPY:Y2.heap[bP]?=some (.cells pc.toArray 29 (0,0)):=old (by omega) ((hb1.block bP hbP).trans fP);have hbwY:Bw w Y2:=hb1.trans (hG2.old.mono (by omega));refine⟨Nat×List zbZ×OA×Nat,fun s=>⟨[(2,At0 L),(4,At0 (L+1)),(5,At0 (L+2)),(6,At0 (L+3)),(13,At0 Q),(15,.slice s.2.2.1 s.2.1.length s.2.2.2),(58,.slice qd ds.length ds.length),(59,i64 ds.length),(60,i64 (s.1:Nat))],[]⟩,
   fun s Z=>s.1<=ds.length/\OwnS z6 73 Y2.heap.size Z s.2.2.1 s.2.2.2 s.2.1/\s.2.1.map (·.1)=qK (Ts.take s.1) (ds.take s.1)/\s.2.1.length=s.1/\(∀ x∈s.2.1,∃ z∈ts,x∈z.1)/\Bw Y2 Z,fun s=>ds.length-s.1,(0,[],none,0),
   (cvE rfl rfl),⟨UZ _,OwnS.nil,by simp [qK],rfl,fun x hx=>(by cases hx),Gb _ _⟩,?_⟩
  rintro⟨k,Cs,pC,cC⟩ Z ⟨hk,oC,hCs,hCl,hCm,hbZ⟩;dsimp only at hk oC hCs hCl hCm ⊢;have hZs:=hbZ.size;refine biE (fun hc=>?_) fun hc=>?_
  ·have hc:(k:Int)<(ds.length:Int):=dT hc;have hkl:k<ds.length:=by omega
   have hkt:k<ts.length:=by omega
   obtain⟨z,hzk⟩:∃ z,ts[k]=z:=⟨_,rfl⟩;have hzm:z∈ts:=by rw [<- hzk];exact gM hkt
   have hkT:k<Ts.length:=by omega
   have hzT:Ts[k]=z.1.map (·.1):=by
    have h1:Ts[k]?=some (z.1.map (·.1)):=(by rw [<- hz,KV,gE hkt,hzk];rfl);rw [gE hkT] at h1;exact Uf h1
   obtain⟨d,hd⟩:∃ d,ds[k]=d:=⟨_,rfl⟩;have hdz:d<z.1.length:=by
    have:=hdlt k (Ts[k].length) d (by rw [KV,gE hkT];rfl) (by rw [gE hkl,hd]);rw [hzT,QN] at this;exact this
   obtain⟨x,hx⟩:∃ x,z.1[d]=x:=⟨_,rfl⟩;have hxm:x∈z.1:=by rw [<- hx];exact gM hdz
   have hpick:qK (Ts.take (k+1)) (ds.take (k+1))=qK (Ts.take k) (ds.take k)++[x.1]:=by
    rw [tsg hkT,tsg hkl,hd,hzT,zgf _ _ _ _ (by rw [Qv,Qv];omega),KV,gE hdz,hx];rfl
   obtain⟨bD,oD,hpD,hlD,hatD⟩:=(hslY.below hbZ).at hkl;obtain⟨bT,oT,hpT,hlT,hatT⟩:=(rkY.below hbZ).row.at hkt;obtain⟨bz,oz,hpz,hlz,hatz⟩:=((n1Y z hzm).below hbZ).row.at hdz;subst hpD;subst hpT;refine⟨k,rfl,hkl,?_⟩;refine⟨i64 d,by have:=zb (hatD k hkl) (i:=0) (v:=i64 d) (by rw [hd];rfl);exact this,?_⟩;refine⟨_,zb (za (zc hbZ g3)) (i:=0) rfl,?_⟩;refine⟨k,rfl,hkt,?_⟩;refine⟨.slice z.2.1 z.1.length z.2.2,by have:=zb (hatT k hkt) (i:=0) (v := .slice z.2.1 z.1.length z.2.2) (by rw [hzk];rfl);exact this,?_⟩;rw [hpz];refine⟨d,rfl,hdz,?_⟩;refine⟨z6.enc x,z6.len x,by rw [<- hx];exact hatz d hdz,hlz,?_⟩;refine⟨⟨by decide,by decide,rfl⟩,z6.enc x,zaB (z6.len x) rfl,?_⟩;have hb2:Bw Z (Z.alloc (.cells (z6.enc x).toArray 73)):=zba _ _;have sb2:=hb2.size;unfold zeh zav;show SatR _ _;refine zs6 (oC.below hb2) (qE z6 x) (by omega) (by omega) fun p' c' U oU gU hat1=>?_;refine nxI (by omega) ?_;refine⟨(k+1,Cs++[x],p',c'),(cvE rfl rfl),⟨hkl,oU,by rw [QR,hCs,hpick];rfl,by rw [lap,hCl];rfl,fun y hy=>?_,hbZ.trans ((hb2.mono hZs).trans (jl (oC.below hb2) (by omega) (UW _) gU))⟩,zdc (by omega)⟩;rcases QS.1 hy with hy | hy
   ·exact hCm y hy
   ·rw [KB.1 hy];exact⟨z,hzm,hxm⟩
  have hc:¬ (k:Int)<(ds.length:Int):=dF hc;obtain rfl:k=ds.length:=by omega
  rw [Qx,JH (by omega)] at hCs;obtain⟨q1,y1,q2,y2,q3,y3,q4,y4,hvs,_⟩:=hP0.v.h;have hpc1:pc[1]?=some (.slice q1 p.init.length y1):=by rw [hvs,<- hil];rfl
  have hZw:w.heap.size<=Z.heap.size:=by have:=hbwY.size;omega
  refine⟨_,zb (za (zc hbZ g0)) (i:=0) rfl,?_⟩;refine cmo (zlf (zc hbZ fPY) hpc1 h2 ((hinit.below (((zst hbwY hbZ)).mono hB)).slr (by omega)) hi6 oC.row (fun x hx=>?_) (fun x hx=>?_) (by omega)) ?_
  ·obtain⟨z,hz1,hx1⟩:=hCm x hx;obtain⟨o1,o2,o3,o4⟩:=n2Y z hz1 x hx1;refine⟨fun a ha=>?_,(o1.below hbZ).row,(o2.below hbZ).row,(o3.below hbZ).row,(o4.below hbZ).row⟩;rcases ha with ha | ha | ha
   ·exact (zq (o2.below hbZ) ha).2.1
   ·exact (zq (o3.below hbZ) ha).2.1
   ·exact (zq (o4.below hbZ) ha).2.1
  ·obtain⟨z,hz1,hx1⟩:=hCm x hx;exact hmemT z hz1 x hx1
  rintro e U ⟨⟨vs,hres⟩,hbU⟩;have hfd0:f ds=zgv p.init (Cs.map (·.1)):=by rw [hf,hCs]
  cases hmx:zgv p.init (Cs.map (·.1)) with
  | none =>
   rw [hmx] at hres hfd0;obtain⟨rfl,hvz⟩:=hres;have hvl:vs.length=336:=by rw [hvz];exact jD
   have hv1:vs.all Value.oneCell'=true:=by rw [hvz];kernel_rfl
   have hUs:=hbU.size;refine zn (X:=U) (v := .agg vs.toArray) k87 hvl jD hv1 fun V' hbV fV sV=>?_;refine brT ?_;have hbY2V:Bw Y2 V':=(hbZ.trans (hbU.mono hZs)).trans (hbV.mono (by omega));have hV2:=hbY2V.size;have g1:V'.heap[L+1]?=_:=zc hbY2V (old (by omega) hS1.f1);have g2:V'.heap[L+2]?=_:=zc hbY2V (old (by omega) hS1.f2);refine zj k81 g1 (o:=0) (v := .slice none 0 0) rfl rfl (by show 0<1;decide) rfl fun Z1 fZ1 gZ1 sZ1=>?_;refine zj k4 ((gZ1.block (L+2) (hlt g2) (by simp)).trans g2) (o:=0) (v := .bool false) rfl rfl (by show 0<1;decide) rfl fun Z2 fZ2 gZ2 sZ2=>?_;have hFlt:=hG2.lt;have b2:Bw w Z2:=(((zst hbwY hbY2V)).trans (zh gZ1 (by have:=hbwY.size;omega) (by omega))).trans (zh gZ2 (by have:=hbwY.size;omega) (by omega));refine⟨F,⟨fun k hk=>by have:=hFlt k hk;omega,by omega,rfl,fun h=>?_,(gZ2.block (L+1) (hlt fZ1) (by simp)).trans fZ1,fZ2,b2⟩,(((KeepsG.below hbY2V fun k h => .inl h):KeepsG F F Y2 V').trans (KeepsG.grown (F:=F) gZ1 hFL.1)).trans (KeepsG.grown (F:=F) gZ2 hFL.2)⟩;have:=hOkE h ds hdm;rw [hfd0] at this
   cases this
  | some mx =>
  rw [hmx] at hres;have hfd:f ds=some mx:=by rw [hfd0,hmx]
  obtain⟨rfl,x1,x2,x3,x4,y1,y2,y3,y4,xs',ys',hvs',m1,m2,m3,m4,m5,m6,m7,m8⟩:=hres;obtain⟨nx,hnx⟩:∃ nx:MixX,nx=⟨mx,x1,y1,x2,y2,x3,y3,x4,y4,xs',ys'⟩:=⟨_,rfl⟩;have hen:vs=zg7.enc nx:=by rw [hvs',hnx];rfl
  have hvl:vs.length=336:=by rw [hen];exact zg7.len nx
  have hv1:vs.all Value.oneCell'=true:=by rw [hen];exact zjK nx
  have hUs:=hbU.size;refine zn (X:=U) (v := .agg vs.toArray) k87 hvl jD hv1 fun V' hbV fV sV=>?_;have fV:V'.heap[U.heap.size]?=some (.cells vs.toArray 87 (0,0)):=fV;refine brF ?_;have hbY2V:Bw Y2 V':=(hbZ.trans (hbU.mono hZs)).trans (hbV.mono (by omega));obtain⟨pr,cr,h4,h5,h6⟩:=hG2.row;refine⟨_,zb (za (zc hbY2V h4)) (i:=0) rfl,?_⟩;refine⟨vs,hvl,za fV,hlt fV,?_⟩;refine⟨⟨by decide,by decide,jD⟩,zg7.enc nx,by rw [<- hen];exact zaB hvl jD,?_⟩;have hpl:pre.length<1000000000:=by
   obtain⟨t,ht⟩:=hpre;have h7:(pre++[ds]++t).length=zR (Ts.map List.length).reverse:=by
    rw [ht];unfold qb;rw [QN,KW]
   have h8:zR (Ts.map List.length).reverse<=4096:=by
    have h9:=hall p.threads.length (UW _);rw [Qx,hsz] at h9;rw [zeT];exact h9
   simp only [lap,Qt] at h7;omega
  have hnw:∀ (G:Nat->Prop) (S:Wd),(∀ k,Y2.heap.size<=k->k<V'.heap.size->S.heap[k]?=V'.heap[k]?)->(∀ k,Y2.heap.size<=k->k<V'.heap.size->G k)->NInM w.heap.size G S nx:=by
   intro G S hs hg;have kp:∀ {α:Type} {E:Enc α} {T cc:Nat} {r:OA} {ll:List α},OwnS E T Z.heap.size U r cc ll->RowIn E T w.heap.size G S r cc ll:=fun {α E T cc r ll} h=>by
    have ol:∀ a,r=some a->Y2.heap.size<=a.block/\a.block<V'.heap.size:=fun a ha=>⟨by have:=(zq h ha).1;omega,by have:=(zq h ha).2.1;omega⟩;exact⟨OwnS.lower ((h.below hbV).same fun a ha=>hs _ (ol a ha).1 (ol a ha).2) hZw,fun a ha=>hg _ (ol a ha).1 (ol a ha).2⟩
   rw [hnx];exact⟨m3,m6,kp m1,kp m2,kp m4,fun y hy=>kp (m5 y hy),kp m7,fun y hy=>kp (m8 y hy)⟩
  obtain⟨v,Y5,hrun,S,hrun2,F',hG',hK',hFF'⟩:=hG2.step (P:=PG) (ty:=81) (cap1:=1) (zhH _) (by decide) Tryz.underlying81 k87 rfl rfl (by show _=336;exact jD) k81 rfl (by omega) (UW _) hbY2V nx (by omega) (by show (ms.length+1)*2488<=_;omega) hnw pr cr h4;unfold zeh zav;refine SatR.mk hrun ?_;refine SatR.mk hrun2 ?_;refine⟨F',⟨⟨hFF' _ hFL.1,hFF' _ hFL.2⟩,_,⟨?_,by rw [lap,lap];show ms.length+1<=pre.length+1;omega,fun d hd=>?_⟩,hG'⟩,hK'⟩
  case refine_2 =>
   rcases QS.1 hd with h | h
   ·exact hsm d h
   ·rw [KB.1 h,hfd];rfl
  rw [QR,List.filterMap_append,hms];show _++[nx.m]=_++List.filterMap f [ds];rw [show List.filterMap f [ds]=[mx] by rw [List.filterMap_cons,hfd];rfl,hnx]
 ·rintro D F Y hD hfD ⟨hFL,ms,⟨hms,hml,hsm⟩,hG⟩ hdef;obtain⟨pr,cr,h4,h5,h6⟩:=hG.row;have hYs:=hG.size;have old:∀ {k:Nat} {ob:Obj},k<Q->V1.heap[k]?=some ob->Y.heap[k]?=some ob:=fun {k ob} hk h=>(hG.old.block k hk).trans h;have g1:=old (by omega) hS1.f1;have g2:=old (by omega) hS1.f2;refine⟨_,zb (za h4) (i:=0) rfl,?_⟩;refine zj k81 g1 (o:=0) (v := .slice pr ms.length cr) rfl rfl (by show 0<1;decide) rfl fun Z1 fZ1 gZ1 sZ1=>?_;refine zj k4 ((gZ1.block (L+2) (hlt g2) (by simp)).trans g2) (o:=0) (v := .bool true) rfl rfl (by show 0<1;decide) rfl fun Z2 fZ2 gZ2 sZ2=>?_;have k2:∀ k,k<Y.heap.size->k≠L+1->k≠L+2->Z2.heap[k]?=Y.heap[k]?:=fun k hk n1 n2=>(gZ2.block k (by rw [sZ1];exact hk) (by simpa using n2)).trans (gZ1.block k hk (by simpa using n1));refine⟨_,rfl,(k2 D (hlt hdef) (by omega) (by omega)).trans hdef,?_⟩;have f2':=(gZ2.block (L+1) (hlt fZ1) (by simp)).trans fZ1;have kp:∀ a:Addr,a.block≠L+1->a.block≠L+2->F a.block->a.block<Y.heap.size->(Z2.putObj D (.deferred none)).heap[a.block]?=Y.heap[a.block]?:=fun a n1 n2 h2 h3=>(zg fun e=>by rw [<- e] at hfD;exact hfD h2).trans (k2 _ h3 n1 n2);have hwY:=hb1.trans (hG.old.mono (by omega));have b2:=(hwY.trans (zh gZ1 hwY.size (by omega))).trans (zh gZ2 (by have:=hwY.size;omega) (by omega));have ne:∀ {α:Type} {E:Enc α} {T B' cc:Nat} {r:OA} {ll:List α},T≠81->T≠4->OwnS E T B' Y r cc ll->∀ a,r=some a->a.block≠L+1/\a.block≠L+2:=fun {α E T B' cc r ll} t1 t2 h a ha=>by
   obtain⟨_,_,cur,hc⟩:=zq h ha;refine⟨fun e=>?_,fun e=>?_⟩
   ·rw [e,g1] at hc;simp at hc;exact t1 hc.2.symm
   ·rw [e,g2] at hc;simp at hc;exact t2 hc.2.symm
  refine⟨.slice pr ms.length cr,zb (za ((zg (by omega)).trans f2')) (i:=0) rfl,.bool true,zb (za ((zg (by omega)).trans fZ2)) (i:=0) rfl,.inl ⟨hOkI hsm,ms,pr,cr,rfl,by rw [hms,hmix],?_,fun x hx=>?_⟩,qO b2 (by omega) _⟩
  ·exact OwnS.lower (h5.same fun a ha=>kp a (ne (by decide) (by decide) h5 a ha).1 (ne (by decide) (by decide) h5 a ha).2 (h6 a ha) (zq h5 ha).2.1) (by omega)
  ·exact (hG.nest x hx).same fun {α E T c q l} t1 t2 t3 hr=>⟨hr.own.same fun a ha=>kp a (ne t2 t3 hr.own a ha).1 (ne t2 t3 hr.own a ha).2 (hr.inF a ha) (zq hr.own ha).2.1,fun a ha=>(zq hr.own ha).1⟩
 ·rintro D ex pre F Y hD hfD hpre ⟨g1,g2,rfl,g4,g5,g6,g7⟩ hdef;refine⟨_,rfl,hdef,?_⟩;refine⟨.slice none 0 0,zb (za ((zg (by have:=hlt hS1.f3;omega)).trans g5)) (i:=0) rfl,.bool false,zb (za ((zg (by have:=hlt hS1.f3;omega)).trans g6)) (i:=0) rfl,.inr ⟨g4,rfl⟩,qO g7 (by have:=hb1.size;omega) _⟩
end
def qN (m:MixD):List ExD:=if jh m 1=0 then [] else zc1 m
abbrev qg (p:Prg) (V:List UInt8):List ExD:=(zY p V).flatMap qN
def zcx (p:Prg) (V:List UInt8) (most:Nat):Prop:=zc6 p=some V/\zcB p V/\((zY p V).map fun m=>jh m 20001).sum<=most
structure MixC (m:MixD):Prop where
 rl:m.rs.length<=48
 wl:m.wr.length<=6
 rs:∀ r∈m.rs,r.1<48/\r.2.length<=1000/\∀ s∈r.2,s<48
 wr:∀ w∈m.wr,w.length<=48
structure CandB (p:Prg) (V:List UInt8):Prop where
 pb:∀ l∈p.threads,∀ P∈zA V l,PathB p.init.length P
 ml:zcB p V->(zY p V).length<=5000
 mc:zcB p V->∀ m∈zY p V,MixC m
 mb:zcB p V->((zY p V).map fun m=>jh m 20001).sum<=20000->∀ m∈zY p V,jh m 1≠0->MixB m
 len:zcB p V->((zY p V).map fun m=>jh m 20001).sum<=20000->(qg p V).length<=30000
theorem zkc {lim:Nat}:∀ (fs:List (List Nat)) (n:Nat),n<=lim->∀ k,zez lim fs n=some k->k<=lim
 | [],n,h,k,e=>by cases e;exact h
 | f::fs,n,h,k,e=>by
  unfold zez at e
  split at e
  ·cases e
  ·exact zkc fs _ (QC ..) k e
theorem zkd {lim len:Nat}:∀ (m k n:Nat),n<=lim->zfB lim len m k n<=lim
 | 0,k,n,h=>h
 | m+1,k,n,h=>by
  unfold zfB
  split
  ·exact zkd m _ _ (QC ..)
  ·exact h
theorem zkb {lim:Nat}:∀ (ws:List (List Nat)) (n:Nat),n<=lim->zfA lim ws n<=lim
 | [],n,h=>h
 | w::ws,n,h=>zkb ws _ (zkd _ _ _ h)
theorem zoZ {lim:Nat} (m:MixD) (h:1<=lim):jh m lim<=lim:=by
 unfold jh
 split
 ·exact UZ _
 ·rename_i n e;exact zkb _ _ (zkc _ _ h _ e)
theorem zi9 (ths:List (List InsD)):∀ (n:Nat) (vals V:List UInt8),1<=vals.length/\jg vals=vals->zhg ths n vals=some V->1<=V.length/\jg V=V
 | 0,vals,V,h,e=>by cases e
 | n+1,vals,V,h,e=>by
  unfold zhg at e
  split at e
  ·cases e
  ·split at e
   ·cases e
   ·split at e
    ·cases e;exact h
    ·refine zi9 ths n _ V ⟨?_,zcs _⟩ e;have:=zhP ths h.2;show 1<=(za8 ths vals).length;omega
theorem zfX {p:Prg} {V:List UInt8} (hO:OkG p) (h:zc6 p=some V):1<=V.length/\jg V=V :=
 zi9 _ _ _ _ ⟨zhU hO.i1,zcs _⟩ h
theorem znG {l:List Nat} (k:Nat):(l.take k).sum<=l.sum:=by
 have:l.sum=(l.take k).sum+(l.drop k).sum:=by rw [<- List.sum_append,JQ]
 omega
theorem zqu {m:MixD} {xs ys:List zap} {lim:Nat} (h1:xs.map (·.1)=m.rs.map (·.2)) (h2:ys.map (·.1)=m.wr):zo0 lim (xs.map (·.1)) (ys.map (·.1))=jh m lim:=by
 rw [h1,h2];rfl
section
variable {w:Wd} {B most:Nat} {pc:List Value} {p:Prg}
theorem zg3 (hB:B<=w.heap.size) (hP:PrgX B w pc p) (hG:GlobE w) (hok:zcA p=true) (hm20:most<=20000) (hCB:∀ V,jg V=V->CandB p V) :
  Calls PG 11 #[.agg pc.toArray,i64 most] w fun e w'=>((∃ V,zcx p V most/\∃ (xs:List zcD) (q:OA) (c:Nat),e = .returned (.tuple #[.slice q xs.length c,i64 0])/\xs.map (·.1)=qg p V/\OwnS exE 55 w.heap.size w' q c xs/\∀ x∈xs,OwnS evE 60 w.heap.size w' x.2.1 x.2.2 x.1.ev)\/((∀ V,¬ zcx p V most)/\e = .returned (.tuple #[.slice none 0 0,i64 5])))/\Bw w w':=by
 have hO:=zda hok;refine je 74 [.agg pc.toArray,i64 most] (.c .p (.s .p (.s .p (.s .p (.c .p (.s .p (.s .p (.c .p (.c .p (.c .p .p)))))))))) Tryz.func11 ?_;obtain⟨L,hL⟩:=nm (w.heap.size);have hpc:=hP.v.size;refine⟨Unit,fun _=>⟨[(1,i64 most),(2,At0 L)],[]⟩,fun _ X=>X.heap[L]?=some (.cells pc.toArray 29 (0,0))/\L<X.heap.size/\Bw w X,⟨(),⟨.cons rfl (.cons (by rw [hL];rfl) .nil),rfl⟩,by rw [hL];exact zz w _,by rw [hL];exact hlt (zz w _),(zba w _)⟩,?_⟩;rintro _ X ⟨f0,sX,hbX⟩;refine brN (Uh (by omega)) (brN (Uh (by omega)) ⟨pc,hpc,za f0,hlt f0,cmo (ziZ (UM hB hbX.size) (hP.v.below (hbX.mono hB)) (hG.c.below hbX)) ?_⟩);rintro e Y ⟨m,rfl,hm,hbY⟩;have hm0:m=0:=hm.2 hok;subst hm0;refine brF ?_;have hwY:=zst hbX hbY;have f0:=zc hbY f0;refine⟨pc,hpc,za f0,hlt f0,cmo (zh3 (UM hB hwY.size) (hP.below (hwY.mono hB)) (hG.below hwY) hok) ?_⟩;rintro e Z ⟨(⟨V,qv,cv,hval,rfl,oV⟩ | ⟨hval,rfl⟩),hbZ⟩
 case inr =>
  refine brT ⟨.inr ⟨fun V h=>?_,rfl⟩,(zst hwY hbZ)⟩;have:=h.1;rw [hval] at this
  cases this
 refine brF ?_;obtain⟨hv1,hVd⟩:=zfX hO hval;have hQ:=hCB V hVd;have uniq:∀ V',zcx p V' most->V'=V:=fun V' h=>by
  have:=h.1;rw [hval] at this;exact (Uf this).symm
 have hwZ:=zst hwY hbZ;have f0:=zc hbZ f0;clear hbX hbY hwY;obtain⟨V0,hV0⟩:=nm (V);refine⟨Bool×List MixX×OA×Nat,fun s=>⟨[(1,i64 most),(8,.slice s.2.2.1 s.2.1.length s.2.2.2),(9,.bool s.1)],[]⟩,fun s U=>((s.1=true/\zcB p V/\s.2.1.map (·.m)=zY p V/\OwnS zg7 87 w.heap.size U s.2.2.1 s.2.2.2 s.2.1/\∀ x∈s.2.1,NInM w.heap.size (fun k=>w.heap.size<=k) U x)\/(s.1=false/\¬ zcB p V))/\Bw w U,?_,?_⟩
 ·refine cmo (zoj f0 (UM hB hwZ.size) (hP.below (hwZ.mono hB)) hO (hG.below hwZ) oV.row hv1 hVd hQ.pb) ?_;rintro e U ⟨(⟨hmo,ms,q,c,rfl,hms,oM,nM⟩ | ⟨hmo,rfl⟩),hbU⟩
  case inr=>exact⟨(false,[],none,0),(cvE rfl rfl),.inr ⟨rfl,hmo⟩,(zst hwZ hbU)⟩
  exact⟨(true,ms,q,c),(cvE rfl rfl),.inl ⟨rfl,hmo,hms,oM.lower hwZ.size,fun x hx=>(nM x hx).lower hwZ.size⟩,(zst hwZ hbU)⟩
 clear oV hbZ hwZ f0;rintro⟨ok,ms,q,c⟩ X ⟨hor,hbX⟩;dsimp only at hor ⊢;rcases hor with ⟨rfl,hmo,hms,oM,nM⟩ | ⟨rfl,hmo⟩
 case inr =>
  exact brT ⟨.inr ⟨fun V' h=>hmo (by rw [<- uniq V' h];exact h.2.1),rfl⟩,hbX⟩
 refine brF ?_;have hml:ms.length<=5000:=by have:=hQ.ml hmo;rw [<- hms,QN] at this;exact this
 have hmc:∀ x∈ms,MixC x.m:=fun x hx=>hQ.mc hmo x.m (by rw [<- hms];exact UJ.2 ⟨x,hx,rfl⟩);have hsumE:((zY p V).map fun m=>jh m 20001).sum=(ms.map fun x=>jh x.m 20001).sum:=by
  rw [<- hms,UH];rfl
 have htake:∀ k,((ms.take k).map fun x=>jh x.m 20001).sum<=(ms.map fun x=>jh x.m 20001).sum:=fun k=>by
  have:=znG (l:=ms.map fun x=>jh x.m 20001) k;rw [<- List.map_take] at this;exact this
 obtain⟨tot,htot⟩:=nm ((ms.map fun x=>jh x.m 20001).sum);have cnt:∀ {Z:Wd} {k lim:Nat} (hk:k<ms.length),OwnS zg7 87 w.heap.size Z q c ms->(∀ x∈ms,NInM w.heap.size (fun k=>w.heap.size<=k) Z x)->1<=lim->lim<=100000->∃ b o,q=some ⟨b,o,none⟩/\Calls PG 25 #[.pointer (some ⟨b,o+k*336,none⟩),i64 lim] Z fun e w'=>e = .returned (i64 (jh ms[k].m lim:Nat))/\Z=w':=fun {Z k lim} hk oM nM h1 h2=>by
  obtain⟨b,o,hq,hb,hat⟩:=oM.row.at hk;have hx:=nM ms[k] (gM hk);have hb1:=hmc ms[k] (gM hk);have hxl:ms[k].xs.length=ms[k].m.rs.length:=by have:=Gj List.length hx.e2;simpa using this
  have hyl:ms[k].ys.length=ms[k].m.wr.length:=by have:=Gj List.length hx.e3;simpa using this
  refine⟨b,o,hq,?_⟩;have:=zqm (lim:=lim) (r := .slice ms[k].p1 ms[k].m.rs.length ms[k].c1) (hat k hk) hx.r2.own.row hx.r3.own.row (fun y hy=>?_) (fun y hy=>?_) (by have:=hb1.rl;omega) (by have:=hb1.wl;omega) h1 h2
  ·rw [zqu hx.e2 hx.e3] at this;exact this
  ·have h3:y.1∈ms[k].m.rs.map (·.2):=by rw [<- hx.e2];exact UJ.2 ⟨y,hy,rfl⟩
   obtain⟨r,hr,he⟩:=UJ.1 h3;rw [<- he];exact (hb1.rs r hr).2.1
  ·have h3:y.1∈ms[k].m.wr:=by rw [<- hx.e3];exact UJ.2 ⟨y,hy,rfl⟩
   have:=hb1.wr _ h3;omega
 refine⟨Unit,fun _=>⟨[(8,.slice q ms.length c),(10,i64 tot)],[]⟩,fun _ Z=>tot<=most/\X=Z,?_,?_⟩
 ·refine⟨Nat,fun k=>⟨[(1,i64 most),(8,.slice q ms.length c),(10,i64 (((ms.take k).map fun x=>jh x.m 20001).sum:Nat)),(40,i64 ms.length),(41,i64 (k:Nat))],[]⟩,
   fun k Z=>(k<=ms.length/\((ms.take k).map fun x=>jh x.m 20001).sum<=most)/\X=Z,fun k=>ms.length-k,0,(cvE rfl rfl),⟨⟨UZ _,UZ _⟩,rfl⟩,?_⟩
  rintro k _ ⟨⟨hk,hsk⟩,rfl⟩;dsimp only;refine biE (fun hc=>?_) fun hc=>?_
  ·have hc:(k:Int)<(ms.length:Int):=dT hc;have hkl:k<ms.length:=by omega
   obtain⟨b,o,hq,hcall⟩:=cnt (lim:=20001) hkl oM nM (by decide) (by decide);have htk:((ms.take (k+1)).map fun x=>jh x.m 20001).sum=((ms.take k).map fun x=>jh x.m 20001).sum+jh ms[k].m 20001:=by
    rw [tsg hkl,QR,List.sum_append];show _+(jh ms[k].m 20001+0)=_;rw [UL]
   have h1:jh ms[k].m 20001<=20001:=zoZ _ (by decide);subst hq;refine⟨k,rfl,hkl,cmo hcall ?_⟩;rintro e _ ⟨rfl,rfl⟩;refine⟨((((ms.take (k+1)).map fun x=>jh x.m 20001).sum:Nat):Int),?_,?_⟩
   ·rw [htk,Int.natCast_add];exact ze (by omega)
   refine biE (fun hbig=>?_) fun hbig=>?_
   ·have hbig:(most:Int)<((((ms.take (k+1)).map fun x=>jh x.m 20001).sum:Nat):Int):=dT hbig;refine⟨.inr ⟨fun V' h=>?_,rfl⟩,hbX⟩;have h2:=uniq V' h;subst h2;have h3:=h.2.2;rw [hsumE] at h3;have:=htake (k+1);omega
   have hbig:¬ (most:Int)<((((ms.take (k+1)).map fun x=>jh x.m 20001).sum:Nat):Int):=dF hbig;exact nxI (by omega) ⟨k+1,(cvE rfl rfl),⟨⟨hkl,by omega⟩,rfl⟩,zdc (by omega)⟩
  ·have hc:¬ (k:Int)<(ms.length:Int):=dF hc;obtain rfl:k=ms.length:=by omega
   rw [Qx,<- htot] at hsk ⊢;exact⟨(),(cvE rfl rfl),hsk,rfl⟩
 rintro _ _ ⟨htm,rfl⟩;have hCO:zcx p V most:=⟨hval,hmo,by rw [hsumE,<- htot];exact htm⟩;have hsm:((zY p V).map fun m=>jh m 20001).sum<=20000:=UM hCO.2.2 hm20;have hXs:=hbX.size;refine⟨OA×Nat,fun s=>⟨[(8,.slice q ms.length c),(12,.slice s.1 0 s.2)],[]⟩,fun s Z=>OwnS exE 55 X.heap.size Z s.1 s.2 []/\Bw X Z,?_,?_⟩
 ·exact zcT (E:=exE) Tryz.underlying30 k55 rfl (by show _=333;exact z4) rfl tot (by show 2416*tot<=_;omega) (by unfold maxLen;omega) fun Z oZ hbZ sZ=>⟨(some ⟨X.heap.size,0,none⟩,tot),(cvE rfl rfl),oZ,hbZ⟩
 rintro⟨p0,c0⟩ Y ⟨oY,hbY⟩;dsimp only at oY ⊢;refine⟨List zcD×OA×Nat,fun s=>⟨[(12,.slice s.2.1 s.1.length s.2.2)],[]⟩,fun s Z=>s.1.map (·.1)=qg p V/\OwnS exE 55 X.heap.size Z s.2.1 s.2.2 s.1/\(∀ x∈s.1,OwnS evE 60 X.heap.size Z x.2.1 x.2.2 x.1.ev)/\Bw X Z,?_,?_⟩
 ·refine⟨Nat×List zcD×OA×Nat,fun s=>⟨[(8,.slice q ms.length c),(12,.slice s.2.2.1 s.2.1.length s.2.2.2),(57,i64 ms.length),(58,i64 (s.1:Nat))],[]⟩,
   fun s Z=>s.1<=ms.length/\s.2.1.map (·.1)=(ms.take s.1).flatMap (fun x=>qN x.m)/\OwnS exE 55 X.heap.size Z s.2.2.1 s.2.2.2 s.2.1/\(∀ x∈s.2.1,OwnS evE 60 X.heap.size Z x.2.1 x.2.2 x.1.ev)/\Bw X Z,fun s=>ms.length-s.1,(0,[],p0,c0),
   (cvE rfl rfl),⟨UZ _,rfl,oY,fun x hx=>(by cases hx),hbY⟩,?_⟩
  clear oY hbY;rintro⟨k,outs,po,co⟩ Z ⟨hk,hou,oZ,nZ,hbZ⟩;dsimp only at hk hou oZ nZ ⊢;have hZs:=hbZ.size;have oMZ:OwnS zg7 87 w.heap.size Z q c ms:=oM.same fun a ha=>hbZ.block _ (zq oM ha).2.1;have nMZ:∀ x∈ms,NInM w.heap.size (fun k=>w.heap.size<=k) Z x:=fun x hx=>(nM x hx).same fun {α E T c q l} _ _ _ hr=>⟨hr.own.same fun a ha=>hbZ.block _ (zq hr.own ha).2.1,hr.inF⟩;refine biE (fun hc=>?_) fun hc=>?_
  ·have hc:(k:Int)<(ms.length:Int):=dT hc;have hkl:k<ms.length:=by omega
   obtain⟨b,o,hq,hcall⟩:=cnt (lim:=1) hkl oMZ nMZ (by decide) (by decide);obtain⟨x,hx⟩:∃ x,ms[k]=x:=⟨_,rfl⟩;have hxm:x∈ms:=by rw [<- hx];exact gM hkl
   have htk:(ms.take (k+1)).flatMap (fun x=>qN x.m)=(ms.take k).flatMap (fun x=>qN x.m)++qN x.m:=by
    rw [tsg hkl,Kh,hx,KT,Qq,QK]
   rw [hx] at hcall;have hat:zu Z ⟨b,o+k*336,none⟩ (zmV x):=by
    obtain⟨b',o',hq',_,hat⟩:=oMZ.row.at hkl;rw [hq] at hq';have:=hat k hkl;simp only [Qa,Uu,Gi] at hq';rw [<- hx,hq'.1,hq'.2];exact this
   have hbX2:b<X.heap.size:=(zq oM hq).2.1;subst hq;refine⟨k,rfl,hkl,cmo hcall ?_⟩;rintro e _ ⟨rfl,rfl⟩;refine biE (fun h=>?_) fun h=>?_
   ·have h:jh x.m 1=0:=Uz (dT h);have hc0:qN x.m=[]:=Gp h;rw [hc0,QK] at htk;exact nxI (by omega) ⟨(k+1,outs,po,co),(cvE rfl rfl),⟨hkl,by rw [hou,htk],oZ,nZ,hbZ⟩,zdc (by omega)⟩
   have h:jh x.m 1≠0:=fun e=>(dF h) (by rw [e];rfl);have hc1:qN x.m=zc1 x.m:=Gn h;rw [hc1] at htk;refine⟨k,rfl,hkl,cmo zqy ?_⟩;rintro e U ⟨rfl,fU,sU,hbU⟩;have hxM:=nMZ x hxm;have hxB:=hQ.mb hmo hsm x.m (by rw [<- hms];exact UJ.2 ⟨x,hxm,rfl⟩) h;obtain⟨Rd,hRd⟩:∃ Rd:Nat->Prop,Rd=fun k=>k<X.heap.size\/k=Z.heap.size:=⟨_,rfl⟩;have ltX:∀ {α:Type} {E:Enc α} {T cc:Nat} {r:OA} {ll:List α},RowIn E T w.heap.size (fun k=>w.heap.size<=k) X r cc ll->∀ a,r=some a->Rd a.block:=fun {α E T cc r ll} h a ha=>by rw [hRd];exact .inl (zq h.own ha).2.1
   have hX:=nM x hxm;have hM:MixM Rd U b (o+k*336) x.m x.q x.c x.p1 x.p2 x.p3 x.c1 x.c2 x.c3 x.xs x.ys:=by
    have r:∀ {α:Type} {E:Enc α} {T cc:Nat} {r:OA} {ll:List α},RowIn E T w.heap.size (fun k=>w.heap.size<=k) Z r cc ll->SlR E U r ll:=fun {α E T cc r ll} h=>(h.own.below hbU).row;refine⟨zm hbU hat,r hxM.ev,fun e=>?_,r hxM.r1,hxM.e2,r hxM.r2,fun y hy=>r (hxM.n2 y hy),hxM.e3,r hxM.r3,fun y hy=>r (hxM.n3 y hy),by rw [hRd];exact .inl hbX2,ltX hX.ev,ltX hX.r1,ltX hX.r2,ltX hX.r3,fun y hy=>ltX (hX.n2 y hy),fun y hy=>ltX (hX.n3 y hy)⟩;rcases hxM.ev.own.inv with ⟨_,h,_⟩ | ⟨g,cur,h,_⟩
    ·exact h
    ·rw [e] at h;cases h
   have hRl:∀ k,Rd k->k<U.heap.size:=fun k hk=>by
    rw [hRd] at hk;omega
   have hTU:Tz64M U:=hG.t64.below (hbX.trans ((hbZ.trans (hbU.mono hZs)).mono hXs));have htz:=zau hG.t64;have hI:=zqz hM fU (by rw [hRd];exact .inr rfl) hRl hTU (by rw [hRd];left;omega) hxB hxB.ev;have hln:outs.length+(zc1 x.m).length<=30000:=by
    have h2:=hQ.len hmo hsm;have h3:(qg p V)=ms.flatMap (fun x=>qN x.m):=by
     show (zY p V).flatMap qN=_;rw [<- hms,Qp]
    rw [h3] at h2;have h4:ms.flatMap (fun x=>qN x.m)=(ms.take (k+1)).flatMap (fun x=>qN x.m)++(ms.drop (k+1)).flatMap (fun x=>qN x.m):=(by rw [<- Kh,JQ]);rw [h4,htk,<- hou,lap,lap,QN] at h2;omega
   refine cmo (zko (oZ.below hbU) (fun y hy=>(nZ y hy).below hbU) (by omega) hI (UW _) (fun k hk=>⟨hRl k hk,rfl⟩) (fun k hk=>by rw [hRd] at hk;exact hk) fU (by omega) hln) ?_;rintro e T ⟨⟨new,pn,cn,rfl,zz,oT,nT⟩,hbT⟩;exact nxI (by omega) ⟨(k+1,outs++new,pn,cn),(cvE rfl rfl),⟨hkl,by rw [QR,hou,zz,htk],oT,nT,(hbZ.trans (hbU.mono hZs)).trans hbT⟩,zdc (by omega)⟩
  ·have hc:¬ (k:Int)<(ms.length:Int):=dF hc;obtain rfl:k=ms.length:=by omega
   rw [Qx] at hou;refine⟨(outs,po,co),(cvE rfl rfl),?_,oZ,nZ,hbZ⟩;rw [hou];show ms.flatMap _=(zY p V).flatMap qN;rw [<- hms,Qp]
 rintro⟨outs,po,co⟩ Z ⟨hou,oZ,nZ,hbZ⟩;exact⟨.inl ⟨V,hCO,outs,po,co,rfl,hou,oZ.lower hXs,fun x hx=>(nZ x hx).lower hXs⟩,hbX.trans (hbZ.mono hXs)⟩
end
def zbK:List (List Nat)->Nat
 | []=>1
 | f::fs=>f.length*zbK fs
theorem zfL {a b lim:Nat} (hb:1<=b):min (min a lim*b) lim=min (a*b) lim:=by
 by_cases ha:a<=lim
 ·rw [Ua ha]
 ·have e:min a lim=lim:=Nat.min_eq_right (by omega);have h2:lim<=lim*b:=Nat.le_mul_of_pos_right _ (by omega);have h3:lim<=a*b:=UM (by omega) (Nat.le_mul_of_pos_right a (by omega:0<b));rw [e,Nat.min_eq_right h2,Nat.min_eq_right h3]
theorem zeS:∀ fs:List (List Nat),(∀ f∈fs,f≠[])->1<=zbK fs
 | [],_=>UW _
 | f::fs,h=>Nat.mul_pos (List.length_pos_iff.2 (h f KA)) (zeS fs fun g hg=>h g (JY _ hg))
theorem ziQ {lim:Nat}:∀ (fs:List (List Nat)) (n:Nat),n<=lim->(∀ f∈fs,f≠[])->zez lim fs n=some (min (n*zbK fs) lim)
 | [],n,h,_=>by
  show some n=some (min (n*1) lim);rw [UX,Ua h]
 | f::fs,n,h,hf=>by
  have h1:f≠[]:=hf f KA;have hp:1<=f.length:=List.length_pos_iff.2 h1;unfold zez;rw [Gn h1,ziQ fs _ (QC ..) fun g hg=>hf g (JY _ hg)];congr 1;show min (min (n*f.length) lim*zbK fs) lim=min (n*(f.length*zbK fs)) lim;rw [<- UE,zfL (zeS fs fun g hg=>hf g (JY _ hg))]
theorem zhX {lim:Nat}:∀ (fs:List (List Nat)) (n:Nat),(∃ f∈fs,f=[])->zez lim fs n=none
 | [],n,⟨f,h,_⟩=>by cases h
 | f::fs,n,⟨g,hg,e⟩=>by
  unfold zez;by_cases h1:f=[]
  ·rw [Gp h1]
  ·rw [Gn h1];refine zhX fs _ ⟨g,?_,e⟩;rcases UC.1 hg with h | h
   ·rw [h] at e;exact Gq e h1
   ·exact h
def up (len:Nat):Nat->Nat->Nat
 | 0,_=>1
 | m+1,k=>if k<len then k*up len m (k+1) else 1
theorem znt (len:Nat):∀ m k,1<=k->1<=up len m k
 | 0,_,_=>UW _
 | m+1,k,h=>by
  unfold up
  split
  ·exact Nat.mul_pos h (znt len m (k+1) (by omega))
  ·exact UW _
theorem zmd {lim len:Nat}:∀ (m k n:Nat),1<=k->n<=lim->zfB lim len m k n=min (n*up len m k) lim
 | 0,k,n,_,h=>by
  show n=min (n*1) lim;rw [UX,Ua h]
 | m+1,k,n,hk,h=>by
  unfold zfB up
  split
  ·rw [zmd m (k+1) _ (by omega) (QC ..),zfL (znt len m (k+1) (by omega)),UE]
  ·rw [UX,Ua h]
theorem znu:∀ (m k:Nat),1<=k->∀ len,len<=k+m->k<=len->fct (k-1)*up len m k=fct (len-1)
 | 0,k,h1,len,h2,h3=>by
  show fct (k-1)*1=_;rw [UX,show len=k by omega]
 | m+1,k,h1,len,h2,h3=>by
  unfold up
  split
  ·rename_i hlt;rw [<- znu m (k+1) (by omega) len (by omega) (by omega),<- UE];congr 1;obtain⟨j,rfl⟩:∃ j,k=j+1:=⟨k-1,by omega⟩;show fct j*(j+1)=(j+1)*fct j;exact UN _ _
  ·rw [UX,show len=k by omega]
theorem zq5 {len:Nat} (h:1<=len):up len len 2=fct (len-1):=by
 by_cases h2:2<=len
 ·have:=znu len 2 (by decide) len (by omega) h2;have h3:fct (2-1)=1:=rfl;rw [h3,UY] at this;exact this
 ·have e:len=1:=by omega
  subst e;rfl
def zbJ:List (List Nat)->Nat
 | []=>1
 | w::ws=>fct (w.length-1)*zbJ ws
theorem zb9:∀ ws,1<=zbJ ws
 | []=>UW _
 | w::ws=>Nat.mul_pos (zdh _) (zb9 ws)
theorem zmc {lim:Nat}:∀ (ws:List (List Nat)) (n:Nat),n<=lim->(∀ w∈ws,1<=w.length)->zfA lim ws n=min (n*zbJ ws) lim
 | [],n,h,_=>by
  show n=min (n*1) lim;rw [UX,Ua h]
 | w::ws,n,h,hw=>by
  unfold zfA;rw [zmd _ _ _ (by decide) h,zq5 (hw w KA),zmc ws _ (QC ..) fun v hv=>hw v (JY _ hv),zfL (zb9 ws)];show _=min (n*(fct (w.length-1)*zbJ ws)) lim;rw [UE]
theorem zfQ {m:MixD} {lim:Nat} (h1:1<=lim) (hw:∀ w∈m.wr,1<=w.length):jh m lim=if ∀ r∈m.rs,r.2≠[] then min (zbK (m.rs.map (·.2))*zbJ m.wr) lim else 0:=by
 unfold jh
 split
 ·rename_i e;rw [Gn];intro h;rw [ziQ _ _ h1 fun f hf=>by
   obtain⟨r,hr,rfl⟩:=UJ.1 hf;exact h r hr] at e
  cases e
 ·rename_i n e;by_cases h:∀ r∈m.rs,r.2≠[]
  ·rw [Gp h];rw [ziQ _ _ h1 fun f hf=>by
    obtain⟨r,hr,rfl⟩:=UJ.1 hf;exact h r hr] at e
   have e:=Uf e;rw [zmc _ _ (by rw [<- e];exact QC ..) hw,<- e,UY,zfL (zb9 _)]
  ·rw [zhX] at e
   ·cases e
   ·refine Jp fun hn=>h fun r hr e2=>hn ⟨r.2,UJ.2 ⟨r,hr,rfl⟩,e2⟩
theorem zbP {m:MixD} (hw:∀ w∈m.wr,1<=w.length):jh m 1≠0↔∀ r∈m.rs,r.2≠[]:=by
 rw [zfQ (by decide) hw];constructor
 ·intro h;refine Jp fun hn=>h (Gn hn)
 ·intro h;rw [Gp h];have h1:1<=zbK (m.rs.map (·.2)):=zeS _ fun f hf=>by
   obtain⟨r,hr,rfl⟩:=UJ.1 hf;exact h r hr
  have h2:1<=zbK (m.rs.map (·.2))*zbJ m.wr:=Nat.mul_pos h1 (zb9 _);rw [Nat.min_eq_right h2];decide
theorem znc (m:MixD):(zc1 m).length=zR (zK m).reverse:=by
 unfold zc1 qb;rw [QN,QN,KW]
theorem zlF:∀ rs:List (Nat×List Nat),zR (rs.map fun r=>r.2.length)=zbK (rs.map (·.2))
 | []=>rfl
 | r::rs=>by
  show r.2.length*zR (rs.map fun r=>r.2.length)=r.2.length*zbK (rs.map (·.2));rw [zlF rs]
theorem zlE:∀ ws:List (List Nat),(∀ w∈ws,1<=w.length/\w.length<=48)->zR (ws.map fun w=>(zJ w).length)<=zbJ ws
 | [],_=>UW _
 | w::ws,h=>by
  show (zJ w).length*zR (ws.map fun w=>(zJ w).length)<=fct (w.length-1)*zbJ ws;have h1:=h w KA;exact Uq (zgc h1.1 h1.2).1 (zlE ws fun v hv=>h v (JY _ hv))
theorem zo2 {m:MixD} (hw:∀ w∈m.wr,1<=w.length/\w.length<=48) (h:jh m 20001<=20000):(qN m).length<=jh m 20001:=by
 unfold qN
 split
 ·exact UZ _
 ·rename_i h1;have hs:=(zbP fun w hm=>(hw w hm).1).1 h1;have e:=zfQ (m:=m) (lim:=20001) (by decide) fun w hm=>(hw w hm).1;rw [Gp hs] at e;have hp:zbK (m.rs.map (·.2))*zbJ m.wr=jh m 20001:=by
   by_cases hb:zbK (m.rs.map (·.2))*zbJ m.wr<=20001
   ·rw [e,Ua hb]
   ·rw [Nat.min_eq_right (by omega)] at e;omega
  rw [znc,<- hp];unfold zK;have e2:zR (m.rs.map (fun r=>r.2.length)++m.wr.map fun w=>(zJ w).length).reverse=zR (m.rs.map (fun r=>r.2.length)++m.wr.map fun w=>(zJ w).length):=by
   rw [zeT];unfold za7;rw [ze3,UY]
  rw [e2,zca,zlF];exact Nat.mul_le_mul_left _ (zlE _ hw)
theorem zgM {m:MixD} (hw:∀ w∈m.wr,1<=w.length) {lim:Nat} (hl:1<=lim) (h:jh m lim<lim) (h1:jh m 1≠0):∀ w∈m.wr,fct (w.length-1)<lim:=by
 have hs:=(zbP hw).1 h1;have e:=zfQ (m:=m) hl hw;rw [Gp hs] at e;have hp:zbK (m.rs.map (·.2))*zbJ m.wr<lim:=by
  refine QA fun hb=>?_;rw [Nat.min_eq_right hb] at e;omega
 have h2:1<=zbK (m.rs.map (·.2)):=by
  refine Nat.one_le_iff_ne_zero.2 fun h0=>?_;rw [h0,US,Nat.zero_min] at e;have e1:=zfQ (m:=m) (lim:=1) (by decide) hw;rw [Gp hs,h0,US,Nat.zero_min] at e1;exact h1 e1
 have h3:zbJ m.wr<lim:=KF (Nat.le_mul_of_pos_left _ (by omega)) hp;have:∀ ws:List (List Nat),∀ w∈ws,fct (w.length-1)<=zbJ ws:=by
  intro ws
  induction ws with
  | nil=>intro w h;cases h
  | cons v ws ih =>
   intro w h;show _<=fct (v.length-1)*zbJ ws;rcases UC.1 h with e | e
   ·rw [e];exact Nat.le_mul_of_pos_right _ (zb9 ws)
   ·exact UM (ih w e) (Nat.le_mul_of_pos_left _ (zdh _))
 exact fun w hm=>KF (this _ w hm) h3
def zcE:Nat->List PathD->List Ev
 | _,[]=>[]
 | k,P::Ps=>zaV k P.ev++zcE (k+1) Ps
theorem zgY:∀ (Ps:List PathD) (k:Nat) (x:ExD),(asR k Ps x).ev=x.ev++zcE k Ps/\(asR k Ps x).po=x.po/\(asR k Ps x).rf=x.rf/\(asR k Ps x).co=x.co/\(asR k Ps x).mem=x.mem/\(asR k Ps x).dt.n=x.dt.n/\(asR k Ps x).ct.n=x.ct.n/\(asR k Ps x).rm.n=x.rm.n
 | [],k,x=>⟨(QK _).symm,rfl,rfl,rfl,rfl,rfl,rfl,rfl⟩
 | P::Ps,k,x=>by
  obtain⟨h1,h2⟩:=zgY Ps (k+1) (za5 x k P);refine⟨?_,h2⟩;show (asR (k+1) Ps (za5 x k P)).ev=x.ev++(zaV k P.ev++zcE (k+1) Ps);rw [h1,<- KQ];rfl
theorem zjX:∀ (Ps:List PathD) (k n:Nat),Ps.foldl (fun n P=>n+P.ev.length) n=n+(zcE k Ps).length
 | [],k,n=>rfl
 | P::Ps,k,n=>by
  show Ps.foldl _ (n+P.ev.length)=n+(zaV k P.ev++zcE (k+1) Ps).length;rw [zjX Ps (k+1),lap];unfold zaV;rw [QN,UD]
theorem zgO:∀ (Ps:List PathD) (k:Nat) (e:Ev),e∈zcE k Ps->∃ P∈Ps,∃ a∈P.ev,∃ t:Nat,k<=t/\t<k+Ps.length/\e={ a with th:=t }
 | [],k,e,h=>by cases h
 | P::Ps,k,e,h=>by
  rcases QS.1 h with h | h
  ·obtain⟨a,ha,rfl⟩:=UJ.1 h;exact⟨P,KA,a,ha,k,UW _,by rw [Qt];omega,rfl⟩
  ·obtain⟨Q,hQ,a,ha,t,h1,h2,h3⟩:=zgO Ps (k+1) e h;exact⟨Q,JY _ hQ,a,ha,t,by omega,by rw [Qt];omega,h3⟩
section
variable {init:List UInt8} {Ps:List PathD}
theorem zaU:(jI init Ps).ev=jm 0 init++zcE 0 Ps:=(zgY Ps 0 _).1
theorem zo9:(jI init Ps).ev.length=za6 init.length Ps:=by
 rw [zaU,lap,zX];exact (zjX Ps 0 init.length).symm
theorem zdo:(jI init Ps).rf=zcC (za6 init.length Ps)/\(jI init Ps).co=zcC (za6 init.length Ps)/\(jI init Ps).mem=(fun _=>0)/\(jI init Ps).dt.n=za6 init.length Ps/\(jI init Ps).ct.n=za6 init.length Ps/\(jI init Ps).rm.n=za6 init.length Ps:=by
 obtain⟨_,_,h1,h2,h3,h4,h5,h6⟩:=zgY Ps 0 { ex0 (za6 init.length Ps) with ev:=jm 0 init };exact⟨h1,h2,h3,h4,h5,h6⟩
theorem znf {i:Nat} (h:i<init.length):(jI init Ps).ev[i]?=some ⟨-1,2,UInt8.ofNat i,init[i],0,0,0⟩:=by
 rw [zaU,Jr (by rw [zX];exact h),zao init 0 h,UR]
theorem zki {e:Ev} (h:e∈(jI init Ps).ev):(∃ i,∃ h:i<init.length,e=⟨-1,2,UInt8.ofNat i,init[i],0,0,0⟩)\/∃ P∈Ps,∃ a∈P.ev,∃ t:Nat,t<Ps.length/\e={ a with th:=t }:=by
 rw [zaU] at h;rcases QS.1 h with h | h
 ·obtain⟨i,hi,rfl⟩:=Kj h;rw [zX] at hi;have:=zao init 0 hi;rw [gE (by rw [zX];exact hi),UR] at this;exact .inl ⟨i,hi,Uf this⟩
 ·obtain⟨P,hP,a,ha,t,_,h2,h3⟩:=zgO Ps 0 e h;exact .inr ⟨P,hP,a,ha,t,by omega,h3⟩
theorem zeE (hi6:init.length<=6) (hP:∀ P∈Ps,PathW init.length P) {e:Ev} (h:e∈(jI init Ps).ev) (hk:e.k=1\/e.k=2):e.l.toNat<init.length:=by
 rcases zki h with ⟨i,hi,rfl⟩ | ⟨P,hPm,a,ha,t,_,rfl⟩
 ·show (UInt8.ofNat i).toNat<_;rw [KI];omega
 ·exact (hP P hPm).b.loc a ha hk
end
def wrF:Nat->List Ev->Nat->List Nat
 | _,[],_=>[]
 | i,e::es,l=>(if e.k=2/\e.l.toNat=l then [i] else [])++wrF (i+1) es l
theorem zia:∀ (es:List Ev) (i:Nat) (W:List (List Nat)),(∀ e∈es,e.k=2->e.l.toNat<W.length)->(zfU i es W).length=W.length/\∀ l,l<W.length->(zfU i es W).getD l []=W.getD l []++wrF i es l
 | [],i,W,h=>⟨rfl,fun l hl=>(QK _).symm⟩
 | e::es,i,W,h=>by
  unfold zfU;by_cases hk:e.k=2
  ·rw [Gp hk];obtain⟨V,hV⟩:=nm (W.set e.l.toNat (W.getD e.l.toNat []++[i]));have hVl:V.length=W.length:=by rw [hV,QQ]
   obtain⟨h1,h2⟩:=zia es (i+1) V fun d hd hd2=>by rw [hVl];exact h d (JY _ hd) hd2
   rw [<- hV];refine⟨h1.trans hVl,fun l hl=>?_⟩;rw [h2 l (by omega)];show _=W.getD l []++((if e.k=2/\e.l.toNat=l then [i] else [])++wrF (i+1) es l);rw [<- KQ];congr 1;rw [hV,gDe];by_cases hel:e.l.toNat=l
   ·rw [Gp ⟨hk,hel⟩,hel,JE hl];rfl
   ·rw [Gn fun h=>hel h.2,JV hel,QK,gDe]
  ·rw [Gn hk];obtain⟨h1,h2⟩:=zia es (i+1) W fun d hd=>h d (JY _ hd);refine⟨h1,fun l hl=>?_⟩;rw [h2 l hl];show _=W.getD l []++((if e.k=2/\e.l.toNat=l then [i] else [])++wrF (i+1) es l);rw [Gn fun h=>hk h.1,QU]
theorem znq:∀ (es:List Ev) (i l:Nat),wrF i es l=((List.range es.length).filter fun j=>decide ((es.getD j ev0).k=2)&&decide ((es.getD j ev0).l.toNat=l)).map (· + i)
 | [],i,l=>rfl
 | e::es,i,l=>by
  unfold wrF;rw [znq es (i+1) l,Qt,List.range_succ_eq_map,Qo,List.filter_map];have e0:(e::es).getD 0 ev0=e:=rfl;rw [e0];have ee:∀ j,(e::es).getD (Nat.succ j) ev0=es.getD j ev0:=fun j=>rfl;have hm:∀ L:List Nat,(L.map Nat.succ).map (· + i)=L.map (· + (i+1)):=fun L=>by
   rw [UH];exact Kl fun j _=>by show j.succ+i=j+(i+1);omega
  by_cases hk:e.k=2/\e.l.toNat=l
  ·rw [Gp hk,Us hk.1,Us hk.2,Gp (show (true&&true)=true from rfl),UB,hm,UR];rfl
  ·rw [Gn hk];have:(decide (e.k=2)&&decide (e.l.toNat=l))=false:=by
    rw [Bool.and_eq_false_iff];by_cases h1:e.k=2
    ·exact .inr (Uh fun h=>hk ⟨h1,h⟩)
    ·exact .inl (Uh h1)
   rw [this,Gn Kv,hm];rfl
theorem zc8 (all:List Ev) (W:List (List Nat)):∀ (es:List Ev) (i:Nat) (r:Nat×List Nat),r∈zbt all W i es->∃ j e,es[j]?=some e/\e.k=1/\r=(i+j,(W.getD e.l.toNat []).filter fun w=>decide ((all.getD w ev0).v=e.v))
 | [],i,r,h=>by cases h
 | e::es,i,r,h=>by
  unfold zbt at h
  split at h
  ·rename_i hk;rcases UC.1 h with h | h
   ·exact⟨0,e,rfl,hk,by rw [h];rfl⟩
   ·obtain⟨j,d,h1,h2,h3⟩:=zc8 all W es (i+1) r h;exact⟨j+1,d,h1,h2,by rw [h3,show i+1+j=i+(j+1) by omega]⟩
  ·obtain⟨j,d,h1,h2,h3⟩:=zc8 all W es (i+1) r h;exact⟨j+1,d,h1,h2,by rw [h3,show i+1+j=i+(j+1) by omega]⟩
theorem zjt (all:List Ev) (W:List (List Nat)):∀ (es:List Ev) (i:Nat),(zbt all W i es).length<=es.length
 | [],i=>UW _
 | e::es,i=>by
  have:=zjt all W es (i+1);unfold zbt
  split
  ·rw [Qt,Qt];omega
  ·rw [Qt];omega
structure ChoiceW (init:List UInt8) (Ps:List PathD) (m:MixD):Prop where
 i1:1<=init.length
 i6:init.length<=6
 p4:Ps.length<=4
 P:∀ P∈Ps,PathW init.length P
 n:za6 init.length Ps<=48
 m:m=jU (jI init Ps) init.length
section
variable {init:List UInt8} {Ps:List PathD} {m:MixD}
theorem ChoiceW.base (h:ChoiceW init Ps m):m.base=jI init Ps:=by rw [h.m];rfl
theorem ChoiceW.len (h:ChoiceW init Ps m):m.base.ev.length=za6 init.length Ps:=by rw [h.base,zo9]
theorem ChoiceW.wr (h:ChoiceW init Ps m):m.wr.length=init.length/\∀ l,l<init.length->m.wr.getD l []=z9 m.base l:=by
 obtain⟨h1,h2⟩:=zia (jI init Ps).ev 0 (List.replicate init.length []) fun e he hk=>by
  rw [JN];exact zeE h.i6 h.P he (.inr hk)
 rw [JN] at h1 h2;have e:m.wr=zfU 0 (jI init Ps).ev (List.replicate init.length []):=by rw [h.m];rfl
 rw [e];refine⟨h1,fun l hl=>?_⟩;rw [h2 l hl,znq,gDe,List.getElem?_replicate,Gp hl,h.base];show []++List.map (· + 0) _=_;rw [QU];show List.map (fun x=>x) _=_;rw [List.map_id'];rfl
theorem ChoiceW.wr_mem (h:ChoiceW init Ps m) {w:List Nat} (hw:w∈m.wr):∃ l,l<init.length/\w=z9 m.base l/\m.wr[l]?=some w:=by
 obtain⟨h1,h2⟩:=h.wr;obtain⟨l,hl,rfl⟩:=Kj hw;refine⟨l,by omega,?_,gE hl⟩;have:=h2 l (by omega);rw [gDe,gE hl] at this;exact this
theorem ChoiceW.ini (h:ChoiceW init Ps m) {i:Nat} (hi:i<init.length):evA m.base i=⟨-1,2,UInt8.ofNat i,init[i],0,0,0⟩:=by
 unfold evA;rw [h.base,gDe,znf hi];rfl
theorem zfC (x:ExD) (l:Nat):(z9 x l).length<=x.ev.length:=by
 refine UM (JM ..) ?_;rw [KW];exact UW _
theorem zeI {x:ExD} {l a:Nat} (h:a∈z9 x l):a<x.ev.length:=Uo.1 (QT.1 h).1
theorem ChoiceW.head (h:ChoiceW init Ps m) {l:Nat} (hl:l<init.length):1<=(z9 m.base l).length/\(z9 m.base l).headD 48=l:=by
 have h6:=h.i6;have hn:init.length<=m.base.ev.length:=by
  rw [h.len];exact zcJ _ _
 have e:=zfp (p:=fun i=>decide ((evA m.base i).k=2)&&decide ((evA m.base i).l.toNat=l)) (n:=m.base.ev.length) (k:=l) (by omega) (fun i hi=>by
  rw [h.ini (by omega)];have:¬ (UInt8.ofNat i).toNat=l:=by rw [KI];omega
  rw [Uh this,Ui]) (by
  rw [h.ini hl];have:(UInt8.ofNat l).toNat=l:=by rw [KI];omega
  rw [Us this];rfl)
 unfold z9;rw [e];exact⟨by simp,rfl⟩
theorem ChoiceW.rs (h:ChoiceW init Ps m) {r:Nat×List Nat} (hr:r∈m.rs):∃ e,m.base.ev[r.1]?=some e/\e.k=1/\r.2=(m.wr.getD e.l.toNat []).filter fun w=>decide ((m.base.ev.getD w ev0).v=e.v):=by
 rw [h.m] at hr ⊢;obtain⟨j,e,h1,h2,h3⟩:=zc8 _ _ _ _ _ hr;rw [UR] at h3;exact⟨e,by rw [h3];exact h1,h2,by rw [h3];rfl⟩
theorem ChoiceW.src (h:ChoiceW init Ps m) {r:Nat×List Nat} (hr:r∈m.rs):r.1<m.base.ev.length/\r.2.length<=48/\∀ s∈r.2,s<m.base.ev.length:=by
 have hn:=h.n;rw [<- h.len] at hn;obtain⟨e,h1,h2,h3⟩:=h.rs hr;have hlt:=(Js.1 h1).1;have hel:e.l.toNat<init.length:=by
  have:e∈(jI init Ps).ev:=by rw [<- h.base];exact JZ h1
  exact zeE h.i6 h.P this (.inl h2)
 rw [h.wr.2 _ hel] at h3;refine⟨hlt,?_,fun s hs=>?_⟩
 ·rw [h3];have h4:=zfC m.base e.l.toNat;have h5:=JM (fun w=>decide ((m.base.ev.getD w ev0).v=e.v)) (z9 m.base e.l.toNat);omega
 ·rw [h3] at hs;exact zeI (QT.1 hs).1
theorem ChoiceW.c (h:ChoiceW init Ps m):MixC m:=by
 have hn:=h.n;rw [<- h.len] at hn;refine⟨?_,?_,fun r hr=>?_,fun w hw=>?_⟩
 ·have:m.rs.length<=m.base.ev.length:=by
   rw [h.m];exact zjt _ _ _ _
  omega
 ·rw [h.wr.1];exact h.i6
 ·obtain⟨h1,h2,h3⟩:=h.src hr;exact⟨by omega,by omega,fun s hs=>by have:=h3 s hs;omega⟩
 ·obtain⟨l,hl,rfl,_⟩:=h.wr_mem hw;have:=zfC m.base l;omega
theorem ChoiceW.w1 (h:ChoiceW init Ps m) {w:List Nat} (hw:w∈m.wr):1<=w.length/\w.length<=48:=by
 refine⟨?_,h.c.wr w hw⟩;obtain⟨l,hl,rfl,_⟩:=h.wr_mem hw;exact (h.head hl).1
theorem ChoiceW.b (h:ChoiceW init Ps m):MixB m:=by
 have hn:=h.n;rw [<- h.len] at hn;obtain⟨b1,b2,b3,_⟩:=zdo (init:=init) (Ps:=Ps);have hc:=h.c;refine⟨hn,hc.rl,hc.wl,fun i _=>?_,fun i _=>?_,hc.rs,fun w hw=>?_⟩
 ·rw [h.base,b1];show 0<2^64;decide
 ·rw [h.base,b2];show 0<2^64;decide
 ·obtain⟨h1,h2⟩:=h.w1 hw;refine⟨h2,(zgc h1 h2).2,fun k hk=>?_⟩;have hp:=(zhw h1 h2 hk).1;have hl:=hp.length_eq;refine⟨fun e=>by rw [e] at hl;simp at hl;omega,by omega,fun a ha=>?_⟩;obtain⟨l,hl,rfl,_⟩:=h.wr_mem hw;exact zeI (hp.subset ha)
end
theorem zeU:∀ (Ts:List (List PathD)) (ds:List Nat) (P:PathD),P∈qK Ts ds->∃ T∈Ts,P∈T
 | Ts,[],P,h=>by cases Ts <;> cases h
 | [],d::ds,P,h=>by cases h
 | T::Ts,d::ds,P,h=>by
  unfold qK at h;rcases QS.1 h with h | h
  ·cases hd:T[d]? with
   | none=>rw [hd] at h;cases h
   | some Q =>
    rw [hd] at h;rw [KB.1 h];exact⟨T,KA,JZ hd⟩
  ·obtain⟨U,hU,h2⟩:=zeU Ts ds P h;exact⟨U,JY _ hU,h2⟩
theorem zhB:∀ (Ts:List (List PathD)) (ds:List Nat),(qK Ts ds).length<=Ts.length
 | Ts,[]=>by cases Ts <;> exact UZ _
 | [],d::ds=>UW _
 | T::Ts,d::ds=>by
  unfold qK;rw [lap,Qt];have:=zhB Ts ds
  cases T[d]? <;> simp <;> omega
section
variable {p:Prg} {V:List UInt8}
theorem zeg (hO:OkG p) {l:List InsD} (hl:l∈p.threads) {P:PathD} (hP:P∈zA V l):PathW p.init.length P:=by
 obtain⟨R,hR,rfl⟩:=UJ.1 hP;have h1:=hO.tl l hl;rw [hO.il] at h1;obtain⟨a,b⟩:=zrK h1 V R hR;exact zrm a b
theorem zdn (hO:OkG p) {m:MixD} (hm:m∈zY p V):∃ ds∈qb ((p.threads.map (zA V)).map List.length),ChoiceW p.init (qK (p.threads.map (zA V)) ds) m:=by
 unfold zY zoi at hm;obtain⟨ds,hds,he⟩:=List.mem_filterMap.1 hm;unfold zgv at he
 split at he
 ·rename_i h48;refine⟨ds,hds,hO.i1,hO.i6,?_,fun P hP=>?_,h48,(Uf he).symm⟩
  ·have:=zhB (p.threads.map (zA V)) ds;rw [QN] at this;have:=hO.t4;omega
  ·obtain⟨T,hT,h2⟩:=zeU _ _ _ hP;obtain⟨l,hl,rfl⟩:=UJ.1 hT;exact zeg hO hl h2
 ·cases he
theorem znH {α:Type} {f g:α->Nat}:∀ {l:List α},(∀ a∈l,f a<=g a)->(l.map f).sum<=(l.map g).sum
 | [],_=>UW _
 | a::l,h=>by
  rw [UB,UB,List.sum_cons,List.sum_cons];have:=h a KA;have:=znH (l:=l) fun b hb=>h b (JY _ hb);omega
theorem ziF {α:Type} {f:α->Nat}:∀ {l:List α} {a:α},a∈l->f a<=(l.map f).sum
 | b::l,a,h=>by
  rw [UB,List.sum_cons];rcases UC.1 h with e | e
  ·rw [e];omega
  ·have:=ziF (f:=f) e;omega
theorem zgW (hO:OkG p):CandB p V:=by
 refine⟨fun l hl P hP=>(zeg hO hl hP).b,fun hm=>?_,fun hm m hmm=>?_,fun hm hs m hmm h1=>?_,fun hm hs=>?_⟩
 ·have h1:(zY p V).length<=(qb ((p.threads.map (zA V)).map List.length)).length:=List.length_filterMap_le _ _;have h2:(qb ((p.threads.map (zA V)).map List.length)).length=zR ((p.threads.map (zA V)).map List.length).reverse:=by
   unfold qb;rw [QN,KW]
  have h3:=hm.2.1 p.threads.length (UW _);rw [Qx] at h3;rw [zeT] at h2;have h4:za7 ((p.threads.map (zA V)).map List.length)<=4096:=by rw [UH];exact h3
  omega
 ·obtain⟨_,_,h⟩:=zdn hO hmm;exact h.c
 ·obtain⟨_,_,h⟩:=zdn hO hmm;exact h.b
 ·show ((zY p V).flatMap qN).length<=30000;rw [List.length_flatMap];have:((zY p V).map fun m=>(qN m).length).sum<=((zY p V).map fun m=>jh m 20001).sum:=znH fun m hmm=>by
   obtain⟨_,_,h⟩:=zdn hO hmm;refine zo2 (fun w hw=>h.w1 hw) ?_;have:=ziF (f:=fun m=>jh m 20001) hmm;omega
  omega
end
def chR (Rs:List (List (List Nat))) (ds:List Nat) (j:Nat):List Nat:=(Rs.getD j []).getD (ds.getD j 0) []
theorem zqZ (R:List (List Nat)) (Rs:List (List (List Nat))) (ds:List Nat):chR (R::Rs) ds 0=R.getD (ds.headD 0) []:=by
 cases ds <;> rfl
theorem zfr (R:List (List Nat)) (Rs:List (List (List Nat))) (ds:List Nat) (j:Nat):chR (R::Rs) ds (j+1)=chR Rs ds.tail j:=by
 cases ds with
 | nil=>show (Rs.getD j []).getD (([]:List Nat).getD (j+1) 0) []=(Rs.getD j []).getD (([]:List Nat).getD j 0) [];rfl
 | cons d ds=>rfl
theorem zey (ev:List Ev):∀ (Rs:List (List (List Nat))) (l:Nat) (ds:List Nat) (p:RelD×(Nat->UInt8)),(∀ j,j<Rs.length->(chR Rs ds j).Nodup)->(∀ i j j',j<Rs.length->j'<Rs.length->i∈chR Rs ds j->i∈chR Rs ds j'->j=j') ->
  (coG ev l Rs ds p).1.n=p.1.n/\∀ i j,z5 (coG ev l Rs ds p).1 i j=true↔(∃ k,k<Rs.length/\i∈chR Rs ds k/\j∈twl (chR Rs ds k).reverse i)\/((∀ k,k<Rs.length->i ∉ chR Rs ds k)/\z5 p.1 i j=true)
 | [],l,ds,p,_,_=>⟨rfl,fun i j=>⟨fun h => .inr ⟨fun k hk=>Gq hk (Ub _),h⟩,fun h=>by
   rcases h with ⟨k,hk,_⟩ | h
   ·exact Gq hk (Ub _)
   ·exact h.2⟩⟩
 | R::Rs,l,ds,p,hn,hd=>by
  obtain⟨q,hq⟩:=nm ((j5 (R.getD (ds.headD 0) []) p.1,upd p.2 l (ev.getD ((R.getD (ds.headD 0) []).getLastD 0) ev0).v));have e:coG ev l (R::Rs) ds p=coG ev (l+1) Rs ds.tail q:=by rw [hq];rfl
  obtain⟨h1,h2⟩:=zey ev Rs (l+1) ds.tail q (fun j hj=>by rw [<- zfr R];exact hn (j+1) (by rw [Qt];omega)) (fun i j j' hj hj' a b=>by
   rw [<- zfr R] at a b;have:=hd i (j+1) (j'+1) (by rw [Qt];omega) (by rw [Qt];omega) a b;omega)
  have hn0:=hn 0 (by rw [Qt];omega);rw [e];refine⟨h1.trans (by rw [hq];rfl),fun i j=>?_⟩;have hb:z5 q.1 i j=if i∈chR (R::Rs) ds 0 then decide (j∈twl (chR (R::Rs) ds 0).reverse i) else z5 p.1 i j:=by
   rw [hq,<- zqZ R Rs ds];unfold z5 j5;show (zgA (chR (R::Rs) ds 0).reverse p.1.to 0 i).testBit j=_;rw [zgz _ _ _ ((List.reverse_perm _).nodup_iff.2 hn0),QE,Uv];by_cases h:i∈chR (R::Rs) ds 0
   ·rw [Gp h,Gp (List.mem_reverse.2 h)]
   ·rw [Gn h,Gn fun h2=>h (List.mem_reverse.1 h2)]
  rw [h2,hb];constructor
  ·rintro (⟨k,a1,a2,a3⟩ | ⟨a1,a2⟩)
   ·rw [<- zfr R] at a2 a3;exact .inl ⟨k+1,by rw [Qt];omega,a2,a3⟩
   ·by_cases h:i∈chR (R::Rs) ds 0
    ·rw [Gp h] at a2;exact .inl ⟨0,by rw [Qt];omega,h,dT a2⟩
    ·rw [Gn h] at a2;refine .inr ⟨fun k hk=>?_,a2⟩
     cases k with
     | zero=>exact h
     | succ k=>rw [zfr];exact a1 k (by rw [Qt] at hk;omega)
  ·rintro (⟨k,a1,a2,a3⟩ | ⟨a1,a2⟩)
   ·cases k with
    | zero =>
     refine .inr ⟨fun k hk h=>?_,by rw [Gp a2];exact Us a3⟩;rw [<- zfr R] at h;have:=hd i 0 (k+1) (by rw [Qt];omega) (by rw [Qt];omega) a2 h;omega
    | succ k =>
     rw [zfr] at a2 a3;exact .inl ⟨k,by rw [Qt] at a1;omega,a2,a3⟩
   ·refine .inr ⟨fun k hk h=>?_,?_⟩
    ·rw [<- zfr R] at h;exact a1 (k+1) (by rw [Qt];omega) h
    ·rw [Gn (a1 0 (by rw [Qt];omega))];exact a2
theorem zma (x:ExD):∀ (Rs:List (List (List Nat))) (l:Nat) (ds:List Nat) (p:RelD×(Nat->UInt8)),(∀ j,j<Rs.length->chR Rs ds j=zP x (l+j))->coG x.ev l Rs ds p=znU x Rs.length l p
 | [],l,ds,p,_=>rfl
 | R::Rs,l,ds,p,h=>by
  have h0:=h 0 (by rw [Qt];omega);rw [zqZ,UL] at h0;show coG x.ev (l+1) Rs ds.tail (j5 (R.getD (ds.headD 0) []) p.1,upd p.2 l (zdx x.ev (R.getD (ds.headD 0) [])))=znU x Rs.length (l+1) (j5 (zP x l) p.1,upd p.2 l (zdx x.ev (zP x l)));rw [h0];refine zma x Rs (l+1) ds.tail _ fun j hj=>?_;rw [<- zfr R,h (j+1) (by rw [Qt];omega)];congr 1;omega
theorem zja:∀ {s:List Nat},s.Nodup->s.Pairwise fun a b=>a∈twl s b
 | [],_ => .nil
 | y::s,h=>by
  have h2:=QV.1 h;refine List.pairwise_cons.2 ⟨fun b hb=>?_,?_⟩
  ·rw [zcH,Gn (fun e=>h2.1 (by rw [e];exact hb))];exact KA
  ·refine List.Pairwise.imp_of_mem ?_ (zja h2.2);intro a b ha hb hab;rw [zcH,Gn (fun e=>h2.1 (by rw [e];exact hb))];exact JY _ hab
theorem zlM {key:Nat->Nat}:∀ {s:List Nat},s.Pairwise (fun a b=>key a<key b)->∀ a b,a∈s->b∈s->a≠b->key a≠key b
 | [],_,a,b,ha,_,_=>by cases ha
 | y::s,h,a,b,ha,hb,hne=>by
  have h2:=List.pairwise_cons.1 h;rcases UC.1 ha with e | e
  ·rcases UC.1 hb with e2 | e2
   ·exact Gq (e.trans e2.symm) hne
   ·have:=h2.1 b e2;rw [e];omega
  ·rcases UC.1 hb with e2 | e2
   ·have:=h2.1 a e;rw [e2];omega
   ·exact zlM h2.2 a b e e2 hne
theorem zmj {key:Nat->Nat}:∀ {a b:List Nat},a.Pairwise (fun x y=>key x<key y)->b.Pairwise (fun x y=>key x<key y)->(∀ x,x∈a↔x∈b)->a=b
 | [],[],_,_,_=>rfl
 | [],y::b,_,_,h=>Gq ((h y).2 (KA ..)) (by simp)
 | x::a,[],_,_,h=>Gq ((h x).1 (KA ..)) (by simp)
 | x::a,y::b,ha,hb,h=>by
  rw [List.pairwise_cons] at ha hb;have e:x=y:=by
   rcases UC.1 ((h x).1 (KA ..)) with e | h1
   ·exact e
   ·rcases UC.1 ((h y).2 (KA ..)) with e | h2
    ·exact e.symm
    ·have:=hb.1 x h1;have:=ha.1 y h2;omega
  subst e;rw [zmj ha.2 hb.2 fun z=>?_];have hz:=h z;rw [UC,UC] at hz;constructor
  ·intro hza;rcases hz.1 (.inr hza) with e | h2
   ·subst e;have:=ha.1 z hza;omega
   ·exact h2
  ·intro hzb;rcases hz.2 (.inr hzb) with e | h2
   ·subst e;have:=hb.1 z hzb;omega
   ·exact h2
theorem zgb {x:ExD} {l:Nat} {rk:List Nat} (h48:x.ev.length<=48) (hp:rk.Perm (z9 x l)) (hb:∀ i,i∈rk->∀ j,z5 x.co i j=decide (j∈twl rk.reverse i)):zP x l=rk:=by
 have hwn:(z9 x l).Nodup:=List.nodup_range.filter _;have hn:rk.Nodup:=hp.nodup_iff.2 hwn;have hrn:rk.reverse.Nodup:=(List.reverse_perm _).nodup_iff.2 hn;have hlt:∀ i,i∈rk->i<64:=fun i hi=>by have:=zeI (hp.subset hi);omega
 have key:rk.reverse.Pairwise fun a b=>zbx x a<zbx x b:=by
  refine List.Pairwise.imp_of_mem ?_ (zja hrn);intro a b ha hb2 hab;have ha:=List.mem_reverse.1 ha;have hb2:=List.mem_reverse.1 hb2;show zbw (x.co.to a)<zbw (x.co.to b);rw [zjO,zjO];refine zk7 (j:=a) (fun i _ hi=>?_) (hlt a ha) ?_ ?_
  ·have h1:z5 x.co a i=true:=hi;rw [hb a ha] at h1;show z5 x.co b i=true;rw [hb b hb2];exact Us (zhj hab (dT h1))
  ·show z5 x.co a a=false;rw [hb a ha];exact Uh fun h=>(zfF h).2 rfl
  ·show z5 x.co b a=true;rw [hb b hb2];exact Us hab
 have mem:∀ a,a∈sG x l↔a∈rk.reverse:=fun a=>zmv.trans (hp.mem_iff.symm.trans List.mem_reverse.symm);have e:sG x l=rk.reverse:=by
  exact zmj (key:=zbx x) (zfg (zif _ _) (znN l) fun a b ha hb2 hne=>zlM key a b ((mem a).1 ha) ((mem b).1 hb2) hne) key mem
 rw [znY,e,Kb]
section
variable {init:List UInt8} {Ps:List PathD} {m:MixD} {ds:List Nat}
theorem zeC (h:ChoiceW init Ps m):(zN m ds).ev.length<=48:=by
 rw [zfR,h.len];exact h.n
theorem ChoiceW.ch (h:ChoiceW init Ps m) (hd:ds∈qb (zK m)):∀ l,l<init.length->(chR (m.wr.map zJ) (ds.drop m.rs.length) l).Perm (z9 m.base l)/\(chR (m.wr.map zJ) (ds.drop m.rs.length) l).headD 48=l:=by
 intro l hl;obtain⟨h1,h2⟩:=zah hd;obtain⟨w1,w2⟩:=h.wr;have hlw:l<m.wr.length:=by omega
 have hw:m.wr[l]=z9 m.base l:=by
  have:=w2 l hl;rw [gDe,gE hlw] at this;exact this
 have hs:(zK m)[m.rs.length+l]?=some (zJ (z9 m.base l)).length:=by
  unfold zK;rw [Jn (by rw [QN];omega),QN,Jz,KV,gE hlw,hw];rfl
 have hlen:m.rs.length+l<ds.length:=by rw [h1];exact (Js.1 hs).1
 have hdl:=h2 _ _ _ hs (gE hlen);have e1:(m.wr.map zJ).getD l []=zJ (z9 m.base l):=by
  rw [gDe,KV,gE hlw,hw];rfl
 have e2:(ds.drop m.rs.length).getD l 0=ds[m.rs.length+l]:=by
  rw [gDe,Kx,gE hlen];rfl
 have e3:chR (m.wr.map zJ) (ds.drop m.rs.length) l=(zJ (z9 m.base l))[ds[m.rs.length+l]]:=by
  unfold chR;rw [e1,e2,gDe,gE hdl];rfl
 have hm:chR (m.wr.map zJ) (ds.drop m.rs.length) l∈zJ (z9 m.base l):=by rw [e3];exact gM hdl
 obtain⟨g1,g2⟩:=h.head hl;have h48:(z9 m.base l).length<=48:=by
  have:=zfC m.base l;have:=h.n;have:=h.len;omega
 obtain⟨r1,r2⟩:=zhw g1 h48 hm;exact⟨r1,r2.trans g2⟩
theorem ChoiceW.chx (h:ChoiceW init Ps m) (hd:ds∈qb (zK m)):(∀ j,j<(m.wr.map zJ).length->(chR (m.wr.map zJ) (ds.drop m.rs.length) j).Nodup)/\∀ i j j',j<(m.wr.map zJ).length->j'<(m.wr.map zJ).length->i∈chR (m.wr.map zJ) (ds.drop m.rs.length) j->i∈chR (m.wr.map zJ) (ds.drop m.rs.length) j'->j=j':=by
 rw [QN,h.wr.1];refine⟨fun j hj=>(h.ch hd j hj).1.nodup_iff.2 (List.nodup_range.filter _),fun i j j' hj hj' a b=>?_⟩;have a:=(h.ch hd j hj).1.subset a;have b:=(h.ch hd j' hj').1.subset b;exact (zbe.1 a).2.2.symm.trans (zbe.1 b).2.2
theorem ChoiceW.rank (h:ChoiceW init Ps m) (hd:ds∈qb (zK m)) {l:Nat} (hl:l<init.length):zP (zN m ds) l=chR (m.wr.map zJ) (ds.drop m.rs.length) l:=by
 obtain⟨c1,c2⟩:=h.chx hd;obtain⟨_,hb⟩:=zey m.base.ev (m.wr.map zJ) 0 (ds.drop m.rs.length) (m.base.co,m.base.mem) c1 c2;refine zgb (zeC h) (h.ch hd l hl).1 fun i hi j=>?_;have e:z5 (zN m ds).co i j=z5 (coG m.base.ev 0 (m.wr.map zJ) (ds.drop m.rs.length) (m.base.co,m.base.mem)).1 i j:=rfl;rw [e,Bool.eq_iff_iff,hb,dE];have hlw:l<(m.wr.map zJ).length:=by rw [QN,h.wr.1];exact hl
 constructor
 ·rintro (⟨k,a1,a2,a3⟩ | ⟨a1,a2⟩)
  ·have:=c2 i k l a1 hlw a2 hi;rw [<- this];exact a3
  ·exact Gq hi (a1 l hlw)
 ·exact fun hj => .inl ⟨l,hlw,hi,hj⟩
theorem ChoiceW.res (h:ChoiceW init Ps m) (hd:ds∈qb (zK m)):((zN m ds).co,(zN m ds).mem)=znU (zN m ds) init.length 0 (⟨(zN m ds).ev.length,fun _=>0⟩,fun _=>0):=by
 have e:=zma (zN m ds) (m.wr.map zJ) 0 (ds.drop m.rs.length) (m.base.co,m.base.mem) fun j hj=>by
  rw [QN,h.wr.1] at hj;rw [UR,h.rank hd hj]
 obtain⟨_,b2,b3,_⟩:=zdo (init:=init) (Ps:=Ps);have e2:(m.base.co,m.base.mem)=((⟨(zN m ds).ev.length,fun _=>0⟩,fun _=>0):RelD×(Nat->UInt8)):=by
  rw [zfR,h.len,h.base,b2,b3];rfl
 rw [QN,h.wr.1] at e;show coG (zN m ds).ev 0 (m.wr.map zJ) (ds.drop m.rs.length) (m.base.co,m.base.mem)=_;rw [e,e2]
theorem zkG (a:RelD):jt a a=true:=by
 unfold jt;rw [Us rfl,Uy,Qk];exact fun i _=>Us rfl
theorem ChoiceW.co (h:ChoiceW init Ps m) (hd:ds∈qb (zK m)):zai (zN m ds) init.length=true:=by
 unfold zai;have e:=(zj8 (x:=zN m ds) init.length 0 (⟨(zN m ds).ev.length,fun _=>0⟩,fun _=>0) _).2 ⟨fun k _ hk=>by
  rw [h.rank hd (by omega)];exact (h.ch hd k (by omega)).2,h.res hd⟩
 rw [e];dsimp only;rw [zkG,Uy,Qk];exact fun l _=>Us rfl
end
theorem zb5 {r:RelD} {n:Nat} (hn:r.n=n) (h48:n<=48) (h:∀ i j,i<48->z5 r i j=true->i<n/\j<n):RelOk n r:=by
 refine .of hn h48 h fun i hi=>QA fun hge=>?_;obtain⟨j,hj1,hj2⟩:=Ja hge;have:=(h i j hi hj2).2;omega
theorem zpF (ev:List Ev) {i j:Nat}:z5 (poR ev) i j=true↔∃ e,ev[i]?=some e/\e.th ≠ -1/\i<j/\j<ev.length/\(ev.getD j ev0).th=e.th:=by
 unfold z5 poR;show (zbL ev i).testBit j=true↔_;unfold zbL
 cases he:ev[i]? with
 | none=>simp
 | some e =>
  have hi:i<ev.length:=(Js.1 he).1;dsimp only;by_cases h1:e.th = -1
  ·rw [Gp h1];simp [h1]
  ·rw [Gn h1,zmk];rw [Qu];constructor
   ·rintro (h | ⟨m,h2,h3,h4⟩)
    ·simp at h
    ·rw [zhQ] at h4;exact⟨e,rfl,h1,by omega,by omega,by rw [h3];exact h4⟩
   ·rintro⟨e',he',_,h2,h3,h4⟩
    cases he'
    refine .inr ⟨j-(i+1),by omega,by omega,?_⟩;rw [zhQ,show i+1+(j-(i+1))=j by omega];exact h4
theorem zlz:∀ (rs:List (Nat×List Nat)) (ds:List Nat) (f:Nat->Nat) (i j:Nat),(rfF rs ds f i).testBit j=true↔(f i).testBit j=true\/∃ (t:Nat) (r:Nat×List Nat),rs[t]?=some r/\i=r.2.getD (ds.getD t 0) 0/\j=r.1
 | [],ds,f,i,j=>⟨fun h => .inl h,fun h=>by
   rcases h with h | ⟨t,r,h,_⟩
   ·exact h
   ·simp at h⟩
 | (r,s)::rs,ds,f,i,j=>by
  show (rfF rs ds.tail (upd f (s.getD (ds.headD 0) 0) (f (s.getD (ds.headD 0) 0)|||2^r)) i).testBit j=true↔_;rw [zlz rs];have ht:∀ t,ds.tail.getD t 0=ds.getD (t+1) 0:=fun t=>by cases ds <;> rfl
  have h0:ds.headD 0=ds.getD 0 0:=by cases ds <;> rfl
  have hu:(upd f (s.getD (ds.headD 0) 0) (f (s.getD (ds.headD 0) 0)|||2^r) i).testBit j=true↔(f i).testBit j=true\/(i=s.getD (ds.getD 0 0) 0/\j=r):=by
   rw [h0];by_cases e:i=s.getD (ds.getD 0 0) 0
   ·rw [e,zL,Ur,zaT,QH,dE];simp
   ·rw [qr _ _ e];exact⟨.inl,fun h=>h.resolve_right fun h2=>e h2.1⟩
  rw [hu];constructor
  ·rintro ((h | ⟨h1,h2⟩) | ⟨t,q,h1,h2,h3⟩)
   ·exact .inl h
   ·exact .inr ⟨0,(r,s),rfl,h1,h2⟩
   ·exact .inr ⟨t+1,q,h1,by rw [<- ht];exact h2,h3⟩
  ·rintro (h | ⟨t,q,h1,h2,h3⟩)
   ·exact .inl (.inl h)
   ·cases t with
    | zero =>
     have h1:some (r,s)=some q:=h1
     cases h1
     exact .inl (.inr ⟨h2,h3⟩)
    | succ t=>exact .inr ⟨t,q,h1,by rw [ht];exact h2,h3⟩
theorem zee (b:Nat):∀ (ps:List (Nat×Nat)) (f:Nat->Nat) (i j:Nat),(zeR b ps f i).testBit j=true↔(f i).testBit j=true\/∃ p∈ps,i=b+p.1/\j=b+p.2
 | [],f,i,j=>⟨fun h => .inl h,fun h=>by
   rcases h with h | ⟨p,h,_⟩
   ·exact h
   ·cases h⟩
 | p::ps,f,i,j=>by
  show (zeR b ps (upd f (b+p.1) (f (b+p.1)|||2^(b+p.2))) i).testBit j=true↔_;rw [zee b ps];have hu:(upd f (b+p.1) (f (b+p.1)|||2^(b+p.2)) i).testBit j=true↔(f i).testBit j=true\/(i=b+p.1/\j=b+p.2):=by
   by_cases e:i=b+p.1
   ·rw [e,zL,Ur,zaT,QH,dE];simp
   ·rw [qr _ _ e];simp [e]
  rw [hu];constructor
  ·rintro ((h | h) | ⟨q,hq,h⟩)
   ·exact .inl h
   ·exact .inr ⟨p,KA,h⟩
   ·exact .inr ⟨q,JY _ hq,h⟩
  ·rintro (h | ⟨q,hq,h⟩)
   ·exact .inl (.inl h)
   ·rcases UC.1 hq with e | e
    ·rw [e] at h;exact .inl (.inr h)
    ·exact .inr ⟨q,e,h⟩
theorem getD_some {L:List Nat} {k:Nat} (h:k<L.length):L[k]?=some (L.getD k 0):=by
 rw [gDe,gE h];rfl
theorem zp5 {L:List Nat} {k v:Nat} (h:L[k]?=some v):L.getD k 0=v:=by
 rw [gDe,h];rfl
def zfv (sel:PathD->List (Nat×Nat)):Nat->List PathD->Nat->Nat->Prop
 | _,[],_,_=>False
 | b,P::Ps,i,j=>(∃ p∈sel P,i=b+p.1/\j=b+p.2)\/zfv sel (b+P.ev.length) Ps i j
theorem zfZ (x:ExD) (k:Nat) (P:PathD):(za5 x k P).ev.length=x.ev.length+P.ev.length:=by
 show (x.ev++zaV k P.ev).length=_;rw [lap];unfold zaV;rw [QN]
theorem zpb:∀ (Ps:List PathD) (k:Nat) (x:ExD) (i j:Nat),z5 (asR k Ps x).dt i j=true↔z5 x.dt i j=true\/zfv PathD.data x.ev.length Ps i j
 | [],k,x,i,j=>⟨fun h => .inl h,fun h=>h.elim id False.elim⟩
 | P::Ps,k,x,i,j=>by
  show z5 (asR (k+1) Ps (za5 x k P)).dt i j=true↔_;rw [zpb Ps,zfZ];show ((zeR x.ev.length P.data x.dt.to i).testBit j=true\/_)↔_;rw [zee,or_assoc];rfl
theorem zpc:∀ (Ps:List PathD) (k:Nat) (x:ExD) (i j:Nat),z5 (asR k Ps x).ct i j=true↔z5 x.ct i j=true\/zfv PathD.ctrl x.ev.length Ps i j
 | [],k,x,i,j=>⟨fun h => .inl h,fun h=>h.elim id False.elim⟩
 | P::Ps,k,x,i,j=>by
  show z5 (asR (k+1) Ps (za5 x k P)).ct i j=true↔_;rw [zpc Ps,zfZ];show ((zeR x.ev.length P.ctrl x.ct.to i).testBit j=true\/_)↔_;rw [zee,or_assoc];rfl
theorem zpa:∀ (Ps:List PathD) (k:Nat) (x:ExD) (i j:Nat),z5 (asR k Ps x).rm i j=true↔z5 x.rm i j=true\/zfv PathD.rmw x.ev.length Ps i j
 | [],k,x,i,j=>⟨fun h => .inl h,fun h=>h.elim id False.elim⟩
 | P::Ps,k,x,i,j=>by
  show z5 (asR (k+1) Ps (za5 x k P)).rm i j=true↔_;rw [zpa Ps,zfZ];show ((zeR x.ev.length P.rmw x.rm.to i).testBit j=true\/_)↔_;rw [zee,or_assoc];rfl
theorem ziM {sel:PathD->List (Nat×Nat)}:∀ (Ps:List PathD) (k b i j:Nat),(∀ P∈Ps,∀ p∈sel P,p.1<P.ev.length/\p.2<P.ev.length)->zfv sel b Ps i j->i<b+(zcE k Ps).length/\j<b+(zcE k Ps).length
 | [],k,b,i,j,h,hd=>hd.elim
 | P::Ps,k,b,i,j,h,hd=>by
  have e:(zcE k (P::Ps)).length=P.ev.length+(zcE (k+1) Ps).length:=by
   show (zaV k P.ev++zcE (k+1) Ps).length=_;rw [lap];unfold zaV;rw [QN]
  rw [e];rcases hd with ⟨p,hp,h1,h2⟩ | hd
  ·have:=h P KA p hp;omega
  ·have:=ziM Ps (k+1) _ i j (fun Q hQ=>h Q (JY _ hQ)) hd;omega
section
variable {init:List UInt8} {Ps:List PathD} {m:MixD} {ds:List Nat}
theorem zcG (n i j:Nat):¬ z5 (zcC n) i j=true:=fun h=>by
 have h:(0:Nat).testBit j=true:=h;simp at h
theorem zng (h:∀ P∈Ps,PathW init.length P):(∀ i j,z5 (jI init Ps).dt i j=true↔zfv PathD.data init.length Ps i j)/\(∀ i j,z5 (jI init Ps).ct i j=true↔zfv PathD.ctrl init.length Ps i j)/\∀ i j,z5 (jI init Ps).rm i j=true↔zfv PathD.rmw init.length Ps i j:=by
 obtain⟨x0,hx0⟩:∃ x0:ExD,x0={ ex0 (za6 init.length Ps) with ev:=jm 0 init }:=⟨_,rfl⟩;have hl:x0.ev.length=init.length:=by rw [hx0];exact zX init 0
 refine⟨fun i j=>?_,fun i j=>?_,fun i j=>?_⟩
 ·have:=zpb Ps 0 x0 i j;rw [hl] at this;show z5 (asR 0 Ps _).dt i j=true↔_;rw [<- hx0,this];exact⟨fun h=>h.resolve_left (by rw [hx0];exact zcG _ i j),.inr⟩
 ·have:=zpc Ps 0 x0 i j;rw [hl] at this;show z5 (asR 0 Ps _).ct i j=true↔_;rw [<- hx0,this];exact⟨fun h=>h.resolve_left (by rw [hx0];exact zcG _ i j),.inr⟩
 ·have:=zpa Ps 0 x0 i j;rw [hl] at this;show z5 (asR 0 Ps _).rm i j=true↔_;rw [<- hx0,this];exact⟨fun h=>h.resolve_left (by rw [hx0];exact zcG _ i j),.inr⟩
theorem ChoiceW.rfb (h:ChoiceW init Ps m) (hd:ds∈qb (zK m)) {i j:Nat}:z5 (zN m ds).rf i j=true↔∃ (t:Nat) (r:Nat×List Nat),m.rs[t]?=some r/\i∈r.2/\r.2[ds.getD t 0]?=some i/\j=r.1:=by
 obtain⟨h1,h2⟩:=zah hd;obtain⟨b1,_⟩:=zdo (init:=init) (Ps:=Ps);have e:z5 (zN m ds).rf i j=(rfF m.rs ds m.base.rf.to i).testBit j:=rfl;rw [e,zlz];have z:¬ (m.base.rf.to i).testBit j=true:=by
  rw [h.base,b1];exact zcG _ i j
 have dig:∀ {t r},m.rs[t]?=some r->ds.getD t 0<r.2.length:=fun {t r} hr=>by
  have ht:=(Js.1 hr).1;have hs:(zK m)[t]?=some r.2.length:=by
   unfold zK;rw [Jr (by rw [QN];exact ht),KV,hr];rfl
  have hlen:t<ds.length:=by rw [h1];exact (Js.1 hs).1
  rw [gDe,gE hlen];exact h2 _ _ _ hs (gE hlen)
 constructor
 ·rintro (h | ⟨t,r,g1,g2,g3⟩)
  ·exact Gq h z
  ·have hlt:=dig g1;have e2:r.2[ds.getD t 0]?=some i:=by
    rw [g2];exact getD_some hlt
   exact⟨t,r,g1,JZ e2,e2,g3⟩
 ·rintro⟨t,r,g1,_,g2,g3⟩;exact .inr ⟨t,r,g1,(zp5 g2).symm,g3⟩
structure Rels6 (n:Nat) (x:ExD):Prop where
 po:RelOk n x.po
 rf:RelOk n x.rf
 co:RelOk n x.co
 dt:RelOk n x.dt
 ct:RelOk n x.ct
 rm:RelOk n x.rm
theorem ChoiceW.rels (h:ChoiceW init Ps m) (hd:ds∈qb (zK m)):Rels6 (zN m ds).ev.length (zN m ds):=by
 have h48:=zeC (ds:=ds) h;obtain⟨b1,b2,b3,b4,b5,b6⟩:=zdo (init:=init) (Ps:=Ps);have hl:(zN m ds).ev.length=za6 init.length Ps:=by rw [zfR,h.len]
 have hn:((za6 init.length Ps:Nat):Int)=((zN m ds).ev.length:Nat):=by rw [hl]
 obtain⟨d1,d2,d3⟩:=zng h.P;have hb:init.length+(zcE 0 Ps).length=(zN m ds).ev.length:=by
  rw [zfR,h.base,zaU,lap,zX]
 refine⟨?_,?_,?_,?_,?_,?_⟩
 ·have e:(zN m ds).po=poR (zN m ds).ev:=by
   show m.base.po=poR m.base.ev;rw [h.base];rfl
  rw [e];refine zb5 rfl h48 fun i j _ hb=>?_;obtain⟨e,he,_,_,h3,_⟩:=(zpF _).1 hb;exact⟨(Js.1 he).1,h3⟩
 ·refine zb5 (by show m.base.rf.n=_;rw [h.base,b1];exact hn) h48 fun i j _ hb=>?_;obtain⟨t,r,g1,g2,_,g3⟩:=(h.rfb hd).1 hb;obtain⟨s1,_,s3⟩:=h.src (JZ g1);exact⟨s3 i g2,by rw [g3];exact s1⟩
 ·obtain⟨c1,c2⟩:=h.chx hd;obtain⟨c0,hbits⟩:=zey m.base.ev (m.wr.map zJ) 0 (ds.drop m.rs.length) (m.base.co,m.base.mem) c1 c2;refine zb5 (by show (coG m.base.ev 0 (m.wr.map zJ) (ds.drop m.rs.length) (m.base.co,m.base.mem)).1.n=_;rw [c0,h.base,b2];exact hn) h48 fun i j _ hb=>?_;have hb:z5 (coG m.base.ev 0 (m.wr.map zJ) (ds.drop m.rs.length) (m.base.co,m.base.mem)).1 i j=true:=hb;rcases (hbits i j).1 hb with ⟨k,a1,a2,a3⟩ | ⟨_,a2⟩
  ·rw [QN,h.wr.1] at a1;have hp:=(h.ch hd k a1).1;exact⟨zeI (hp.subset a2),zeI (hp.subset (List.mem_reverse.1 (zfF a3).1))⟩
  ·rw [h.base,b2] at a2;exact Gq a2 (zcG _ i j)
 ·refine zb5 (by show m.base.dt.n=_;rw [h.base,b4];exact hn) h48 fun i j _ hb=>?_;have hb:z5 m.base.dt i j=true:=hb;rw [h.base,d1] at hb;have:=ziM Ps 0 _ i j (fun P hP p hp=>(h.P P hP).b.dt p hp) hb;omega
 ·refine zb5 (by show m.base.ct.n=_;rw [h.base,b5];exact hn) h48 fun i j _ hb=>?_;have hb:z5 m.base.ct i j=true:=hb;rw [h.base,d2] at hb;have:=ziM Ps 0 _ i j (fun P hP p hp=>(h.P P hP).b.ct p hp) hb;omega
 ·refine zb5 (by show m.base.rm.n=_;rw [h.base,b6];exact hn) h48 fun i j _ hb=>?_;have hb:z5 m.base.rm i j=true:=hb;rw [h.base,d3] at hb;have:=ziM Ps 0 _ i j (fun P hP p hp=>(h.P P hP).b.rm p hp) hb;omega
end
theorem zqx {p:Prg} {V:List UInt8} (hO:OkG p) {x:ExD} (hx:x∈qg p V):∃ Ps m ds,ChoiceW p.init Ps m/\m∈zY p V/\jh m 1≠0/\ds∈qb (zK m)/\x=zN m ds:=by
 obtain⟨m,hm,hx⟩:=List.mem_flatMap.1 hx;unfold qN at hx
 split at hx
 ·cases hx
 ·rename_i h1;obtain⟨d,_,h⟩:=zdn hO hm;obtain⟨ds,hds,rfl⟩:=UJ.1 hx;exact⟨_,m,ds,h,hm,h1,hds,rfl⟩
structure GoodX (k:Nat) (x:ExD):Prop where
 n:x.ev.length<=48
 k1:1<=k
 k6:k<=6
 kn:k<=x.ev.length
 ini:ja x.ev=k
 po:x.po=poR x.ev
 rels:Rels6 x.ev.length x
 co:zai x k=true
 ev0:(evA x 0).k=2/\(evA x 0).l=0
 w8:∀ l,(z9 x l).length<=8
theorem zhO:∀ (a b:List Ev),(∀ e∈a,e.th = -1)->(∀ e∈b,e.th ≠ -1)->ja (a++b)=a.length
 | [],b,_,hb=>by
  unfold ja
  cases b with
  | nil=>rfl
  | cons e b=>rw [QU,Ko,Gn (by simpa using hb e KA)]
 | e::a,b,ha,hb=>by
  rw [Qm,zkW,Gp (ha e KA),zhO a b (fun d hd=>ha d (JY _ hd)) hb,Qt]
theorem zl0 {n:Nat} (h:fct (n-1)<20001):n<=8:=by
 refine Nat.le_of_not_lt fun h9=>?_;have h1:fct 8<=fct (n-1):=zet (by omega);have h2:fct 8=40320:=rfl;omega
section
variable {init:List UInt8} {Ps:List PathD} {m:MixD} {ds:List Nat}
theorem ChoiceW.inits (h:ChoiceW init Ps m):ja m.base.ev=init.length:=by
 rw [h.base,zaU,zhO,zX]
 ·intro e he;obtain⟨i,hi,rfl⟩:=Kj he;rw [zX] at hi;have:=zao init 0 hi;rw [gE (by rw [zX];exact hi)] at this;rw [Uf this]
 ·intro e he;obtain⟨P,hP,a,ha,t,_,_,rfl⟩:=zgO Ps 0 e he;show ((t:Nat):Int) ≠ -1;omega
theorem ChoiceW.good (h:ChoiceW init Ps m) (hd:ds∈qb (zK m)) (h1:jh m 1≠0) (hc:jh m 20001<=20000):GoodX init.length (zN m ds):=by
 have hin:init.length<=m.base.ev.length:=by rw [h.len];exact zcJ _ _
 have e0:=h.ini (i:=0) (by have:=h.i1;omega);refine⟨zeC h,h.i1,h.i6,hin,h.inits,?_,h.rels hd,h.co hd,?_,fun l=>?_⟩
 ·show m.base.po=poR m.base.ev;rw [h.base];rfl
 ·show (evA m.base 0).k=2/\(evA m.base 0).l=0;rw [e0];exact⟨rfl,rfl⟩
 ·show (z9 m.base l).length<=8;by_cases hl:l<init.length
  ·have hw:=h.wr.2 l hl;have hlw:l<m.wr.length:=by have:=h.wr.1;omega
   have hm:z9 m.base l∈m.wr:=by
    rw [<- hw,gDe,gE hlw];exact gM hlw
   exact zl0 (zgM (fun w hw=>(h.w1 hw).1) (lim:=20001) (by decide) (by omega) h1 _ hm)
  ·have:z9 m.base l=[]:=by
    refine Je.2 fun a ha=>?_;obtain⟨a1,a2,a3⟩:=zbe.1 ha;have hmem:evA m.base a∈(jI init Ps).ev:=by
     rw [<- h.base];unfold evA;rw [gDe,gE a1];exact gM a1
    have:=zeE h.i6 h.P hmem (.inr (dT a2));omega
   rw [this];exact UZ _
end
theorem zld {p:Prg} {V:List UInt8} {most:Nat} (hO:OkG p) (hc:zcx p V most) (hm:most<=20000) {x:ExD} (hx:x∈qg p V):GoodX p.init.length x:=by
 obtain⟨Ps,m,ds,h,hmm,h1,hd,rfl⟩:=zqx hO hx;refine h.good hd h1 ?_;have h2:=hc.2.2;have:=ziF (f:=fun m=>jh m 20001) hmm;omega
structure RightP (x:ExD):Prop where
 ev:jH x.ev (ja x.ev)=true
 rel:∀ r∈[x.po,x.rf,x.co,x.dt,x.ct,x.rm],r.n=x.ev.length/\okR r=true
 po:jt x.po (poR x.ev)=true
 rf:zae x=true
 co:zai x (ja x.ev)=true
section
variable {k:Nat} {x:ExD} {i:Nat}
structure SpW (y:ExD):Prop where
 w20:∀ l,(z9 y l).length<=20
 po:zZ y.po.to
 rf:zZ y.rf.to
 co:zZ y.co.to
 dt:zZ y.dt.to
 ct:zZ y.ct.to
 rm:zZ y.rm.to
end
section
variable {init:List UInt8} {Ps:List PathD} {m:MixD} {ds:List Nat}
theorem zga (all:List Ev) (W:List (List Nat)):∀ (es:List Ev) (i j:Nat) (e:Ev),es[j]?=some e->e.k=1->∃ (t:Nat) (s:List Nat),(zbt all W i es)[t]?=some (i+j,s)
 | [],i,j,e,h,_=>by simp at h
 | d::es,i,0,e,h,hk=>by
  have e1:d=e:=by simpa using h
  subst e1;unfold zbt;rw [Gp hk];exact⟨0,_,rfl⟩
 | d::es,i,j+1,e,h,hk=>by
  obtain⟨t,s,ht⟩:=zga all W es (i+1) j e (by simpa using h) hk;rw [show i+1+j=i+(j+1) by omega] at ht;unfold zbt
  split
  ·exact⟨t+1,s,ht⟩
  ·exact⟨t,s,ht⟩
theorem zlB (all:List Ev) (W:List (List Nat)):∀ (es:List Ev) (i:Nat),(zbt all W i es).Pairwise (fun a b=>a.1<b.1)/\∀ r∈zbt all W i es,i<=r.1
 | [],i=>⟨.nil,fun r h=>by cases h⟩
 | d::es,i=>by
  obtain⟨h1,h2⟩:=zlB all W es (i+1);unfold zbt
  split
  ·refine⟨List.pairwise_cons.2 ⟨fun r hr=>?_,h1⟩,fun r hr=>?_⟩
   ·have:=h2 r hr;show i<r.1;omega
   ·rcases UC.1 hr with e | e
    ·rw [e];exact UW _
    ·have:=h2 r e;omega
  ·exact⟨h1,fun r hr=>by have:=h2 r hr;omega⟩
theorem ChoiceW.rs_one (h:ChoiceW init Ps m) {t t':Nat} {r r':Nat×List Nat} (h1:m.rs[t]?=some r) (h2:m.rs[t']?=some r') (he:r.1=r'.1):t=t':=by
 have hp:m.rs.Pairwise (fun a b=>a.1<b.1):=by rw [h.m];exact (zlB _ _ _ _).1
 obtain⟨l1,e1⟩:=Js.1 h1;obtain⟨l2,e2⟩:=Js.1 h2;rcases Nat.lt_trichotomy t t' with g | g | g
 ·have:=List.pairwise_iff_getElem.1 hp t t' l1 l2 g;rw [e1,e2] at this;omega
 ·exact g
 ·have:=List.pairwise_iff_getElem.1 hp t' t l2 l1 g;rw [e1,e2] at this;omega
theorem ChoiceW.rf (h:ChoiceW init Ps m) (hd:ds∈qb (zK m)):zae (zN m ds)=true:=by
 have hr:=h.rels hd;have dig:∀ {t r},m.rs[t]?=some r->ds.getD t 0<r.2.length:=fun {t r} hr=>by
  obtain⟨h1,h2⟩:=zah hd;have ht:=(Js.1 hr).1;have hs:(zK m)[t]?=some r.2.length:=by
   unfold zK;rw [Jr (by rw [QN];exact ht),KV,hr];rfl
  have hlen:t<ds.length:=by rw [h1];exact (Js.1 hs).1
  rw [gDe,gE hlen];exact h2 _ _ _ hs (gE hlen)
 refine (zrf hr.rf).2 ⟨fun a b ha hb hab=>?_,fun b hb hrb=>⟨?_,fun i j hi hj h1 h2=>?_⟩⟩
 ·obtain⟨t,r,h1,h2,h3,h4⟩:=(h.rfb hd).1 hab;obtain⟨e,g1,g2,g3⟩:=h.rs (JZ h1);have hem:e∈(jI init Ps).ev:=by rw [<- h.base];exact JZ g1
  have hel:=zeE h.i6 h.P hem (.inl g2);rw [g3,h.wr.2 _ hel] at h2;obtain⟨m1,m2⟩:=QT.1 h2;obtain⟨a1,a2,a3⟩:=zbe.1 m1;have eb:evA (zN m ds) b=e:=by
   show m.base.ev.getD b ev0=e;rw [h4,gDe,g1];rfl
  have m2:(evA m.base a).v=e.v:=dT m2;refine⟨a2,?_,?_,?_⟩
  ·unfold isR;rw [eb];exact Us g2
  ·rw [eb];exact Ug.1 a3
  ·rw [eb];exact m2
 ·have hb:b<m.base.ev.length:=hb;have hev:m.base.ev[b]?=some (evA m.base b):=by
   unfold evA;rw [gDe,gE hb];rfl
  have hk:(evA m.base b).k=1:=dT hrb;obtain⟨t,s,ht⟩:=zga m.base.ev m.wr m.base.ev 0 b _ hev hk;have ht:m.rs[t]?=some (0+b,s):=by
   have e:m.rs=zbt m.base.ev m.wr 0 m.base.ev:=by rw [h.m];rfl
   rw [e];exact ht
  rw [UR] at ht;have hlt:=dig ht;have e2:s[ds.getD t 0]?=some (s[ds.getD t 0]'hlt):=gE hlt;have hab:z5 (zN m ds).rf (s[ds.getD t 0]'hlt) b=true:=(h.rfb hd).2 ⟨t,(b,s),ht,JZ e2,e2,rfl⟩;exact⟨_,(h.src (JZ ht)).2.2 _ (JZ e2),hab⟩
 ·obtain⟨t,r,g1,g2,g3,g4⟩:=(h.rfb hd).1 h1;obtain⟨t',r',k1,k2,k3,k4⟩:=(h.rfb hd).1 h2;have et:=h.rs_one g1 k1 (by omega);subst et;rw [g1] at k1;obtain rfl:=Uf k1;rw [g3] at k3;exact Uf k3
end
def jv (t:Nat) (l:List Ev):List Ev:=(l.filter fun e=>decide (e.th=(t:Int))).map fun e=>{ e with th:=0 }
theorem ziw (t:Nat) (a b:List Ev):jv t (a++b)=jv t a++jv t b:=by
 unfold jv;rw [Kw,QR]
theorem zjA {t:Nat} {l:List Ev} (h:∀ e∈l,e.th≠(t:Int)):jv t l=[]:=by
 unfold jv;rw [JD.2 fun e he=>by simpa using h e he];rfl
theorem zrt {t k:Nat} {l:List Ev} (h:∀ e∈l,e.th=0):jv t (zaV k l)=if k=t then l else []:=by
 by_cases e:k=t
 ·subst e;rw [Gp rfl];unfold jv zaV;rw [List.filter_eq_self.2 fun a ha=>by
   obtain⟨b,_,rfl⟩:=UJ.1 ha;exact Us rfl,UH]
  conv=>rhs;rw [<- List.map_id l]
  refine Kl fun a ha=>?_;have:=h a ha
  cases a
  simp_all
 ·rw [Gn e];refine zjA fun a ha=>?_;obtain⟨b,_,rfl⟩:=UJ.1 ha;show ((k:Nat):Int)≠(t:Nat);omega
theorem zjB (t:Nat):∀ (Ps:List PathD) (k:Nat),(∀ P∈Ps,∀ e∈P.ev,e.th=0)->jv t (zcE k Ps)=if k<=t then (match Ps[t-k]? with | some P=>P.ev | none=>[]) else []
 | [],k,_=>by
  have e:jv t (zcE k [])=[]:=rfl;rw [e]
  split <;> simp
 | P::Ps,k,h=>by
  show jv t (zaV k P.ev++zcE (k+1) Ps)=_;rw [ziw,zrt (h P KA),zjB t Ps (k+1) fun Q hQ=>h Q (JY _ hQ)];by_cases e:k=t
  ·subst e;rw [Gp rfl,Gn (by omega),Gp (UW _),UO,QK];rfl
  ·rw [Gn e,QU];by_cases h1:k<=t
   ·rw [Gp (by omega),Gp h1];obtain⟨d,hd⟩:∃ d,t-k=d+1:=⟨t-k-1,by omega⟩;rw [hd,show t-(k+1)=d by omega,Jw]
   ·rw [Gn (by omega),Gn h1]
theorem zjs:∀ (Ps:List PathD) (k:Nat) (x:ExD) (i:Nat),(asR k Ps x).regs i=if k<=i/8 then (match Ps[i/8-k]? with | some P=>P.regs (i%8) | none=>x.regs i) else x.regs i
 | [],k,x,i=>by
  show x.regs i=_
  split <;> simp
 | P::Ps,k,x,i=>by
  show (asR (k+1) Ps (za5 x k P)).regs i=_;rw [zjs Ps (k+1)];have e:(za5 x k P).regs i=if i/8=k then P.regs (i%8) else x.regs i:=rfl
  rw [e];by_cases h:i/8=k
  ·rw [Gn (by omega),Gp h,Gp (by omega),h,UO];rfl
  ·rw [Gn h];by_cases h1:k<=i/8
   ·rw [Gp (by omega),Gp h1];obtain⟨d,hd⟩:∃ d,i/8-k=d+1:=⟨i/8-k-1,by omega⟩;rw [hd,show i/8-(k+1)=d by omega,Jw]
   ·rw [Gn (by omega),Gn h1]
theorem zfI:∀ (Ts:List (List PathD)) (ds:List Nat),ds.length=Ts.length->(∀ (i n d:Nat),(Ts.map List.length)[i]?=some n->ds[i]?=some d->d<n) ->
  (qK Ts ds).length=Ts.length/\∀ (t:Nat) (T:List PathD) (d:Nat),Ts[t]?=some T->ds[t]?=some d->(qK Ts ds)[t]?=T[d]?
 | [],[],_,_=>⟨rfl,fun t T d h=>by simp at h⟩
 | [],d::ds,h,_=>by cases h
 | T::Ts,[],h,_=>by cases h
 | T::Ts,d::ds,h,hb=>by
  have hd:d<T.length:=hb 0 T.length d rfl rfl;obtain⟨h1,h2⟩:=zfI Ts ds (by simpa using h) fun i n d' a b=>hb (i+1) n d' a b;have e:qK (T::Ts) (d::ds)=T[d]::qK Ts ds:=by
   show (match T[d]? with | some P=>[P] | none=>[])++qK Ts ds=_;rw [gE hd];rfl
  rw [e];refine⟨by rw [Qt,Qt,h1],fun t U d' hU hd'=>?_⟩
  cases t with
  | zero =>
   have hU:=Uf hU;have hd':=Uf hd';subst hU hd';exact (gE hd).symm
  | succ t =>
   rw [Jw];exact h2 t U d' hU hd'
section
variable {p:Prg} {V:List UInt8}
theorem zhY (hO:OkG p) {m:MixD} {ds:List Nat} (hds:ds∈qb ((p.threads.map (zA V)).map List.length)) (hm:zgv p.init (qK (p.threads.map (zA V)) ds)=some m) :
  ChoiceW p.init (qK (p.threads.map (zA V)) ds) m/\ds.length=p.threads.length/\∀ (t:Nat) (l:List InsD),p.threads[t]?=some l->∃ d,ds[t]?=some d/\∃ R,(z8 l V)[d]?=some R/\(qK (p.threads.map (zA V)) ds)[t]?=some (jf R)/\jv t m.base.ev=zl4 R/\∀ j,j<8->m.base.regs (8*t+j)=R.regs j:=by
 obtain⟨h1,h2⟩:=zah hds;rw [QN,QN] at h1;obtain⟨g1,g2⟩:=zfI (p.threads.map (zA V)) ds (by rw [QN];exact h1) h2;unfold zgv at hm
 split at hm
 case isFalse=>cases hm
 rename_i h48;have hm:=Uf hm;have hw:∀ P∈qK (p.threads.map (zA V)) ds,PathW p.init.length P:=fun P hP=>by
  obtain⟨T,hT,h2⟩:=zeU _ _ _ hP;obtain⟨l,hl,rfl⟩:=UJ.1 hT;exact zeg hO hl h2
 have hC:ChoiceW p.init (qK (p.threads.map (zA V)) ds) m:=⟨hO.i1,hO.i6,by
  rw [g1,QN];have:=hO.t4;omega,hw,h48,hm.symm⟩
 refine⟨hC,h1,fun t l hl=>?_⟩;have ht:t<ds.length:=by rw [h1];exact (Js.1 hl).1
 have hT:(p.threads.map (zA V))[t]?=some (zA V l):=by rw [KV,hl];rfl
 have hd:ds[t]?=some ds[t]:=gE ht;have hlt:ds[t]<(z8 l V).length:=by
  have:=h2 t (zA V l).length ds[t] (by rw [KV,hT];rfl) hd;have e:(zA V l).length=(z8 l V).length:=QN ..;omega
 have hR:(z8 l V)[ds[t]]?=some (z8 l V)[ds[t]]:=gE hlt;have hP:(qK (p.threads.map (zA V)) ds)[t]?=some (jf (z8 l V)[ds[t]]):=by
  rw [g2 t _ _ hT hd];show ((z8 l V).map jf)[ds[t]]?=_;rw [KV,hR];rfl
 have hth:∀ P∈qK (p.threads.map (zA V)) ds,∀ e∈P.ev,e.th=0:=fun P hP e he=>by
  obtain⟨q,hq⟩:=List.mem_iff_getElem?.1 he;exact ((hw P hP).ev q e hq).1
 refine⟨ds[t],hd,(z8 l V)[ds[t]],hR,hP,?_,fun j hj=>?_⟩
 ·rw [hC.base,zaU,ziw,zjB t _ 0 hth,Gp (UZ _),UP,hP,zjA,QU]
  ·rfl
  ·intro e he;obtain⟨i,hi,rfl⟩:=Kj he;rw [zX] at hi;have:=zao p.init 0 hi;rw [gE (by rw [zX];exact hi)] at this;rw [Uf this];show (-1:Int)≠(t:Nat);omega
 ·have e:m.base.regs=(asR 0 (qK (p.threads.map (zA V)) ds) { ex0 (za6 p.init.length (qK (p.threads.map (zA V)) ds)) with ev:=jm 0 p.init }).regs:=by rw [hC.base];rfl
  have e1:(8*t+j)/8=t:=by omega
  have e2:(8*t+j)%8=j:=by omega
  rw [e,zjs,e1,e2,Gp (UZ _),UP,hP];rfl
end
section
variable {b c:Nat} {x:ExD} {q:OA}
theorem zbf {X:Wd} (fx:zu X ⟨b,0,none⟩ (exC x q c)):X.cell? ⟨b,0+0,none⟩=some (.slice q x.ev.length c):=zb fx (i:=0) rfl
end
section
variable {b c:Nat} {x:ExD} {q:OA}
theorem zaL {X:Wd} (fx:ExH X b x q c) {i:Nat} (hi:i<6) {o:Nat} (ho:o=1+49*i):zu X ⟨b,0+o,none⟩ (zi ((zcz x).getD i x.po)):=by
 rw [ho];exact zeP fx hi
end
theorem zc5 {r:RelD} (h:zi6 r=true):zZ r.to:=by
 unfold zi6 at h;rw [Qk] at h;exact fun i hi=>dT (h i (Uo.2 hi))
theorem zfO {x:ExD} {q:OA} {X:Wd} (hv:SlR evE X q x.ev) (h:0<x.ev.length):∃ bq oq,q=some ⟨bq,oq,none⟩/\bq<X.heap.size/\∀ i,i<x.ev.length->zu X ⟨bq,oq+i*7,none⟩ (evE.enc (evA x i)):=by
 obtain⟨b,o,hq,hb,hat⟩:=hv.at h;refine⟨b,o,hq,hb,fun i hi=>?_⟩;have:=hat i hi;unfold evA;rw [gDe,gE hi];exact this
theorem zss {X:Wd} {b:Nat} {x:ExD} {q:OA} {c:Nat} (fx:ExH X b x q c):zu X ⟨b,0+1,none⟩ (zi x.po):=zaL fx (i:=0) (by decide) rfl
theorem zsr {X:Wd} {b:Nat} {x:ExD} {q:OA} {c:Nat} (fx:ExH X b x q c):zu X ⟨b,0+50,none⟩ (zi x.rf):=zaL fx (i:=1) (by decide) rfl
theorem zpD {X:Wd} {b:Nat} {x:ExD} {q:OA} {c:Nat} (fx:ExH X b x q c):zu X ⟨b,0+99,none⟩ (zi x.co):=zaL fx (i:=2) (by decide) rfl
theorem zsu {X:Wd} {b:Nat} {x:ExD} {q:OA} {c:Nat} (fx:ExH X b x q c):zu X ⟨b,0+148,none⟩ (zi x.dt):=zaL fx (i:=3) (by decide) rfl
theorem zsv {X:Wd} {b:Nat} {x:ExD} {q:OA} {c:Nat} (fx:ExH X b x q c):zu X ⟨b,0+197,none⟩ (zi x.ct):=zaL fx (i:=4) (by decide) rfl
theorem zsq {X:Wd} {b:Nat} {x:ExD} {q:OA} {c:Nat} (fx:ExH X b x q c):zu X ⟨b,0+246,none⟩ (zi x.rm):=zaL fx (i:=5) (by decide) rfl
theorem zpO {p:Bool} (h:(!p)=true):p=false:=by simpa using h
theorem zpN {p:Bool} (h:(!p)=false):p=true:=by simpa using h
theorem zqb {X:Wd} {b:Nat} {x:ExD} {q:OA} {c l:Nat} (fx:zu X ⟨b,0,none⟩ (exC x q c)) (hl:l<6):X.cell? ⟨b,0+295+32+l*1,none⟩=some (u8 (x.mem l)):=by
 have h:=zl3 (x:=x) q c;have h2:(exC x q c)[327+l]?=some (u8 (x.mem l)):=by
  have h3:(((exC x q c).drop 327).take 6)[l]?=some (u8 (x.mem l)):=by
   rw [h];unfold seg;rw [KV,Ki hl];rfl
  rw [List.getElem?_take_of_lt hl,Kx] at h3;exact h3
 have h4:=zb fx h2;rw [show 0+(327+l)=0+295+32+l*1 by omega] at h4;exact h4
def zrD (x:ExD):Bool:=decide (x.ev.length<=20)&&(zi6 x.po&&(zi6 x.rf&&(zi6 x.co&&(zi6 x.dt&&(zi6 x.ct&&zi6 x.rm)))))
theorem zp7 {X:Wd} {x:ExD} {q:OA} (h:zrD x=true) (he:SlR evE X q x.ev):ExV X x q:=by
 unfold zrD at h;simp only [bAT,dE] at h;obtain⟨h1,h2,h3,h4,h5,h6,h7⟩:=h;exact⟨he,h1,zc5 h2,zc5 h3,zc5 h4,zc5 h5,zc5 h6,zc5 h7⟩
def zby (x:ExD):List Value:=seg 32 (fun i=>u8 (x.regs i))++seg 6 (fun i=>u8 (x.mem i))
theorem zcX (x:ExD):(zby x).length=38:=by unfold zby;rw [lap,zo,zo]
def zlZ (x y:ExD):Bool:=(List.range 32).all (fun i=>decide (x.regs i=y.regs i))&&(List.range 6).all (fun i=>decide (x.mem i=y.mem i))
theorem zeN {m n:Nat} {f:Nat->UInt8} {i j:Nat} (hi:i<m) (h:m*n<=1000) (hj:j<n):zV (zV (seg (m*n) (fun i=>u8 (f i))) (i*n) n) (j*1) 1=[u8 (f (i*n+j))]:=by
 have hlt:i*n+j<m*n:=by
  have:(i+1)*n<=m*n:=Kd n hi;rw [UQ] at this;omega
 apply KR;intro k;unfold zV;rw [UX]
 cases k with
 | zero =>
  rw [List.getElem?_take_of_lt (by decide),Kx,UL,List.getElem?_take_of_lt hj,Kx,zaJ _ hlt];rfl
 | succ k =>
  rw [JK (by rw [Qv];omega),JK (by simp)]
theorem zsn:∃ G,TyEq PG 53 true 38 4 G/\∀ x:ExD,G (zby x):=by
 have r8:TyEq PG 49 true 8 2 _ := .array (m:=8) (by decide) Tryz.underlying49 (fun w=>Tryz.isAgg49 w) (qC (by kernel_rfl) (by kernel_rfl)).1 (by kernel_rfl) tU8;have r32:TyEq PG 50 true 32 3 _ := .array (m:=4) (by decide) Tryz.underlying50 (fun w=>Tryz.isAgg50 w) (qC (by kernel_rfl) (by kernel_rfl)).1 (by kernel_rfl) r8;have r6:TyEq PG 51 true 6 2 _ := .array (m:=6) (by decide) Tryz.underlying51 (fun w=>Tryz.isAgg51 w) (qC (by kernel_rfl) (by kernel_rfl)).1 (by kernel_rfl) tU8;refine⟨_,.struct (uf Tryz.underlying53).1 (by kernel_rfl) (fun w=>Tryz.isAgg53 w) (qC (by kernel_rfl) (by kernel_rfl)).1 (by kernel_rfl)
  (by rw [(uf Tryz.underlying53).2];exact .cons (by decide) rfl r32 (.cons (by decide) rfl (r6.up 1) .nil)),fun x=>?_⟩
 have e0:zV (zby x) 0 32=seg (4*8) fun i=>u8 (x.regs i):=by
  unfold zby zV;rw [Um,Jh (by rw [zo];decide),JH (by rw [zo];decide)]
 have e1:zV (zby x) 32 6=seg (1*6) fun i=>u8 (x.mem i):=by
  unfold zby zV;rw [Jf (by rw [zo];decide),JC (by rw [zo];decide),QU,JH (by rw [zo];decide)]
 refine⟨?_,?_,trivial⟩
 ·show ∀ i,i<4->∀ j,j<8->zqM .u8 (zV (zV (zV (zby x) 0 32) (i*8) 8) (j*1) 1);intro i hi j hj;rw [e0,zeN hi (by decide) hj];exact⟨_,rfl⟩
 ·show ∀ j,j<6->zqM .u8 (zV (zV (zby x) 32 6) (j*1) 1);intro j hj;rw [e1];have h:=zeN (m:=1) (n:=6) (f:=x.mem) (i:=0) (j:=j) (by decide) (by decide) hj;have h2:zV (seg (1*6) fun i=>u8 (x.mem i)) (0*6) 6=seg (1*6) fun i=>u8 (x.mem i):=by
   unfold zV;rw [US,Um,JH (by rw [zo];decide)]
  rw [h2] at h;rw [h];exact⟨_,rfl⟩
theorem zd3 {n:Nat} {f g:Nat->UInt8}:seg n (fun i=>u8 (f i))=seg n (fun i=>u8 (g i))↔∀ i,i<n->f i=g i:=by
 constructor
 ·intro h i hi;have h1:=zaJ (n:=n) (fun i=>u8 (f i)) hi;rw [h,zaJ (n:=n) (fun i=>u8 (g i)) hi] at h1;have h2:=Uf h1;unfold u8 at h2;injection h2 with _ h3;exact (jj.1 h3).symm
 ·intro h;unfold seg;exact Kl fun i hi=>by rw [h i (Uo.1 hi)]
theorem zlY {x y:ExD}:zby x=zby y↔zlZ x y=true:=by
 unfold zlZ;rw [bAT,Qk,Qk];have hl:(seg 32 fun i=>u8 (x.regs i)).length=(seg 32 fun i=>u8 (y.regs i)).length:=by rw [zo,zo]
 constructor
 ·intro h;unfold zby at h;obtain⟨h1,h2⟩:=List.append_inj h hl;exact⟨fun i hi=>Us (zd3.1 h1 i (Uo.1 hi)),fun i hi=>Us (zd3.1 h2 i (Uo.1 hi))⟩
 ·rintro⟨h1,h2⟩;unfold zby;rw [zd3.2 fun i hi=>dT (h1 i (Uo.2 hi)),zd3.2 fun i hi=>dT (h2 i (Uo.2 hi))]
theorem zqg (u v:Operand) (x y:ExD) (w:Wd):(do eqGuard .eql 53 u v (.agg (zby x).toArray) (.agg (zby y).toArray);binOp .eql 53 (.agg (zby x).toArray) (.agg (zby y).toArray)).run PG w = .ok (.bool (zlZ x y)) w:=by
 obtain⟨G,h1,h2⟩:=zsn;have:=ze5 h1 9996 rfl (by kernel_rfl) (zcX x) (zcX y) (h2 x) (h2 y) u v w;rw [this,zbA zlY,Kg]
theorem zk1 {X:Wd} {b:Nat} {x:ExD} {q:OA} {c:Nat} (fx:ExH X b x q c):zu X ⟨b,0+295,none⟩ (zby x):=by
 have h:=zF (n:=295) (m:=38) (za fx);have e:((exC x q c).toArray.toList.drop 295).take 38=zby x:=by
  show ((exC x q c).drop 295).take 38=_;have e2:exC x q c=(.slice q x.ev.length c::(zi x.po++(zi x.rf++(zi x.co++(zi x.dt++(zi x.ct++zi x.rm))))))++zby x:=by
   unfold exC zby;simp only [KQ,Qm]
  have e3:(Value.slice q x.ev.length c::(zi x.po++(zi x.rf++(zi x.co++(zi x.dt++(zi x.ct++zi x.rm)))))).length=295:=by simp only [Qt,lap,zk]
  rw [e2,<- e3,Ul,JH (by rw [zcX];decide)]
 rw [e] at h;exact h
def zcL (x y:ExD):Bool:=jt x.po y.po&&(jt x.rf y.rf&&(jt x.co y.co&&(jt x.dt y.dt&&(jt x.ct y.ct&&(jt x.rm y.rm&&zlZ x y)))))
def zdu (x y:ExD):Bool:=decide (x.ev.length=y.ev.length)&&((List.range x.ev.length).all (fun i=>decide (evA x i=evA y i))&&zcL x y)
theorem zb4 (a:RelD):jt a a=true:=zhv.1 rfl
theorem zmA (x:ExD):zdu x x=true:=by
 unfold zdu zcL;rw [zb4,zb4,zb4,zb4,zb4,zb4,zlY.1 rfl];simp
theorem zn0 {n i:Nat} {f:Nat->Bool} (hi:i<n) (h:f i=false):(List.range n).all f=false:=by
 rw [KN];exact⟨i,Uo.2 hi,by rw [h];decide⟩
theorem zmL {n:Nat} {f:Nat->Bool} (h:∀ i,i<n->f i=true):(List.range n).all f=true:=by
 rw [Qk];exact fun i hi=>h i (Uo.1 hi)
theorem zkK {k:Nat} {f:Nat->Bool} (h:∀ i,i<k->f i=true) (hk:f k=true):∀ i,i<k+1->f i=true:=fun i hi=>by
 by_cases e:i=k
 ·rw [e];exact hk
 ·exact h i (by omega)
section
variable {w:Wd} {c d:Nat} {x y:ExD} {q r:OA}
theorem zml (hx0:SlR evE w q x.ev) (hy0:SlR evE w r y.ev) (hl:x.ev.length<4611686018427387904):CB 13 #[.agg (exC x q c).toArray,.agg (exC y r d).toArray] w (.bool (zdu x y)):=by
 refine je 78 [.agg (exC x q c).toArray,.agg (exC y r d).toArray] (.c .p (.c .p (.c .p .p))) Tryz.func13 ?_;obtain⟨L,hL⟩:=nm (w.heap.size);refine⟨Unit,fun _=>⟨[(2,At0 L),(3,At0 (L+1))],[]⟩,fun _ X=>ExH X L x q c/\ExH X (L+1) y r d/\Bw w X,?_,?_⟩
 ·have s1:=wz w (.cells (exC x q c).toArray 55);have h2:=zz (w.alloc (.cells (exC x q c).toArray 55)) (.cells (exC y r d).toArray 55);rw [s1] at h2;have b1:Bw w (w.alloc (.cells (exC x q c).toArray 55)):=zba w _;exact⟨(),⟨.cons (by rw [hL];rfl) (.cons (by rw [hL,<- s1];rfl) .nil),rfl⟩,by rw [hL];exact qF _ (zz w _),by rw [hL];exact h2,b1.alloc b1.size _⟩
 rintro _ X ⟨fX,fY,hbX⟩;refine⟨Unit,fun _=>⟨[(2,At0 L),(3,At0 (L+1))],[]⟩,fun _ Z=>x.ev.length=y.ev.length/\ExH Z L x q c/\ExH Z (L+1) y r d/\Bw w Z,?_,?_⟩
 ·refine⟨_,zbf (za fX),_,zbf (za fY),biE (fun h1=>?_) fun h1=>?_⟩
  ·have h1:=zpO h1;exact⟨rb (by unfold zdu;rw [Uh (fun e=>(dF h1) (by rw [e])),Uj]),hbX⟩
  ·have h1:=zpN h1;exact⟨(),(cvE rfl rfl),Uz (dT h1),fX,fY,hbX⟩
 clear fX fY hbX;rintro _ X ⟨hlen,fX,fY,hbX⟩;have hs:zdu x y=((List.range x.ev.length).all (fun i=>decide (evA x i=evA y i))&&zcL x y):=by unfold zdu;rw [Us hlen];rfl
 rw [hs];refine⟨Unit,fun _=>⟨[(2,At0 L),(3,At0 (L+1))],[]⟩,fun _ Z=>(List.range x.ev.length).all (fun i=>decide (evA x i=evA y i))=true/\ExH Z L x q c/\ExH Z (L+1) y r d/\Bw w Z,?_,?_⟩
 ·refine⟨_,zbf (za fX),Nat,fun i=>⟨[(2,At0 L),(3,At0 (L+1)),(15,i64 x.ev.length),(16,i64 (i:Nat))],[]⟩,fun i Z=>i<=x.ev.length/\(∀ j,j<i->decide (evA x j=evA y j)=true)/\ExH Z L x q c/\ExH Z (L+1) y r d/\Bw w Z,fun i=>x.ev.length-i,0,(cvE rfl rfl),⟨UZ _,fun j hj=>by omega,fX,fY,hbX⟩,?_⟩;clear fX fY hbX;rintro i X ⟨hi,hall,fX,fY,hbX⟩;dsimp only;refine biE (fun hc=>?_) fun hc=>?_
  ·have hc:(i:Int)<(x.ev.length:Int):=dT hc;have hin:i<x.ev.length:=by omega
   obtain⟨bx,ox,hqx,hbx,hatx⟩:=zfO hx0 (by omega);obtain⟨by_,oy,hqy,hby,haty⟩:=zfO hy0 (by omega);subst hqx hqy;have hx:bx<w.heap.size/\∀ i,i<x.ev.length->zu w ⟨bx,ox+i*7,none⟩ (evE.enc (evA x i)):=⟨hbx,hatx⟩;have hy:by_<w.heap.size/\∀ i,i<y.ev.length->zu w ⟨by_,oy+i*7,none⟩ (evE.enc (evA y i)):=⟨hby,haty⟩;have dX:Bw X X.drew:=(Gb _ _).drew;refine DrawE.ord [] [0,1,2,3,4,5,6,7,8,9,10] (by kernel_rfl) ?_;replace fX:=zc dX fX;replace fY:=zc dX fY;replace hbX:=zst hbX dX;refine⟨_,zbf (za fX),i,rfl,by omega,?_⟩;refine⟨_,rfl,zm hbX (hx.2 i (by omega)),nL hx.1 hbX.size,_,zbf (za fY),i,rfl,by omega,?_⟩;refine⟨_,rfl,zm hbX (hy.2 i (by omega)),nL hy.1 hbX.size,_,fun w=>zoe _ _ _ _ w,biE (fun h1=>?_) fun h1=>?_⟩
   ·have h1:=zpO h1;exact⟨rb (by rw [zn0 hin h1];rfl),hbX⟩
   ·have h1:=zpN h1;exact nxI (by omega) ⟨i+1,(cvE rfl rfl),⟨hin,zkK hall h1,fX,fY,hbX⟩,zdc (by omega)⟩
  ·have hc:¬ (i:Int)<(x.ev.length:Int):=dF hc;exact⟨(),(cvE rfl rfl),zmL fun j hj=>hall j (by omega),fX,fY,hbX⟩
 clear fX fY hbX;rintro _ X ⟨hev,fX,fY,hbX⟩;rw [hev,Uy];unfold zcL;refine⟨_,zk _,zss fX,hlt fX,_,zk _,zss fY,hlt fY,_,fun w=>zbh _ _ _ _ w,biE (fun h1=>?_) fun h1=>?_⟩
 ·refine⟨_,zk _,zsr fX,hlt fX,_,zk _,zsr fY,hlt fY,_,fun w=>zbh _ _ _ _ w,biE (fun h2=>?_) fun h2=>?_⟩
  ·refine⟨_,zk _,zpD fX,hlt fX,_,zk _,zpD fY,hlt fY,_,fun w=>zbh _ _ _ _ w,biE (fun h3=>?_) fun h3=>?_⟩
   ·refine⟨_,zk _,zsu fX,hlt fX,_,zk _,zsu fY,hlt fY,_,fun w=>zbh _ _ _ _ w,biE (fun h4=>?_) fun h4=>?_⟩
    ·refine⟨_,zk _,zsv fX,hlt fX,_,zk _,zsv fY,hlt fY,_,fun w=>zbh _ _ _ _ w,biE (fun h5=>?_) fun h5=>?_⟩
     ·refine⟨_,zk _,zsq fX,hlt fX,_,zk _,zsq fY,hlt fY,_,fun w=>zbh _ _ _ _ w,biE (fun h6=>?_) fun h6=>?_⟩
      ·exact⟨_,zcX _,zk1 fX,hlt fX,_,zcX _,zk1 fY,hlt fY,_,fun w=>zqg _ _ x y w,rb (by simp [h1,h2,h3,h4,h5,h6]),hbX⟩
      ·exact⟨rb (by simp [h1,h2,h3,h4,h5,h6]),hbX⟩
     ·exact brF ⟨rb (by simp [h1,h2,h3,h4,h5]),hbX⟩
    ·exact brF (brF ⟨rb (by simp [h1,h2,h3,h4]),hbX⟩)
   ·exact brF (brF (brF ⟨rb (by simp [h1,h2,h3]),hbX⟩))
  ·exact brF (brF (brF (brF ⟨rb (by simp [h1,h2]),hbX⟩)))
 ·exact brF (brF (brF (brF (brF ⟨rb (by simp [h1]),hbX⟩))))
end
theorem zhR (before:Nat->Nat):∀ (n left:Nat) (l:List Nat),left<2^64->(j0 before n left l).Nodup
 | 0,left,l,hl=>by
  unfold j0
  split
  ·exact List.pairwise_singleton ..
  ·exact .nil
 | n+1,left,l,hl=>by
  unfold j0
  split
  ·exact List.pairwise_singleton ..
  ·show List.Pairwise _ _;rw [List.pairwise_flatMap];refine⟨fun a ha=>?_,List.Pairwise.imp_of_mem ?_ (zdi left)⟩
   ·split
    ·exact zhR before n _ _ (jW hl)
    ·exact .nil
   ·intro a b ha hb hab x hx y hy e
    split at hx
    ·split at hy
     ·obtain⟨s,hs,_⟩:=zeu before n _ _ x (jW hl) hx;obtain⟨t,ht,_⟩:=zeu before n _ _ y (jW hl) hy;rw [hs,ht,KQ,KQ] at e;have:=List.append_cancel_left e;simp only [List.singleton_append,QL] at this;exact hab this.1
     ·cases hy
    ·cases hx
theorem zox {w:List Nat} (hw:w.Nodup) {a b:Nat} (ha:a<w.length) (hb:b<w.length) (h:w.getD a 0=w.getD b 0):a=b:=by
 rw [gDe,gDe,gE ha,gE hb] at h;exact (List.getElem_inj hw).1 h
theorem zfi {w:List Nat} (hw:w.Nodup):∀ {a b:List Nat},(∀ i∈a,i<w.length)->(∀ i∈b,i<w.length)->a.map (fun k=>w.getD k 0)=b.map (fun k=>w.getD k 0)->a=b
 | [],[],_,_,_=>rfl
 | [],y::b,_,_,h=>by cases h
 | x::a,[],_,_,h=>by cases h
 | x::a,y::b,ha,hb,h=>by
  rw [UB,UB,QL] at h;rw [zox hw (ha x KA) (hb y KA) h.1,zfi hw (fun i hi=>ha i (JY _ hi)) (fun i hi=>hb i (JY _ hi)) h.2]
theorem zjv {w:List Nat} (hw:w.Nodup) (h1:1<=w.length) (hn:w.length<=48):(zJ w).Nodup:=by
 unfold zJ;dsimp only
 split
 ·refine List.pairwise_map.2 (List.Pairwise.imp_of_mem (R:=fun a b=>a≠b) ?_ ?_)
  ·intro a b ha hb hab e;have p1:=(zgk h1 hn ha).1;have p2:=(zgk h1 hn hb).1;exact hab (zfi hw (fun i hi=>Uo.1 (p1.subset hi)) (fun i hi=>Uo.1 (p2.subset hi)) e)
  ·unfold za3
   split
   ·exact zhR _ _ _ _ (zdq _)
   ·exact .nil
 ·exact .nil
theorem zkI (all:List Ev) (W:List (List Nat)):∀ (es:List Ev) (i:Nat),(zbt all W i es).Pairwise fun a b=>a.1<b.1
 | [],i => .nil
 | e::es,i=>by
  unfold zbt
  split
  ·refine List.pairwise_cons.2 ⟨fun r hr=>?_,zkI all W es (i+1)⟩;obtain⟨j,d,_,_,h⟩:=zc8 all W es (i+1) r hr;rw [h];show i<i+1+j;omega
  ·exact zkI all W es (i+1)
theorem zlN {α:Type} {key:α->Nat}:∀ {l:List α},l.Pairwise (fun a b=>key a<key b)->∀ {s t:Nat} {a b:α},l[s]?=some a->l[t]?=some b->key a=key b->s=t
 | [],_,s,t,a,b,h,_,_=>by simp at h
 | x::l,h,0,0,a,b,_,_,_=>rfl
 | x::l,h,0,t+1,a,b,ha,hb,e=>by
  have ha:=Uf ha;have:=(List.pairwise_cons.1 h).1 b (JZ hb);rw [ha] at this;omega
 | x::l,h,s+1,0,a,b,ha,hb,e=>by
  have hb:=Uf hb;have:=(List.pairwise_cons.1 h).1 a (JZ ha);rw [hb] at this;omega
 | x::l,h,s+1,t+1,a,b,ha,hb,e=>by rw [zlN (List.pairwise_cons.1 h).2 ha hb e]
theorem znV {a b:RelD} (h:jt a b=true) {i:Nat} (hi:i<48):a.to i=b.to i:=by
 unfold jt at h;rw [bAT,Qk] at h;exact dT (h.2 i (Uo.2 hi))
theorem zkx {x y:ExD} (h:zdu x y=true):x.ev=y.ev/\jt x.rf y.rf=true/\jt x.co y.co=true:=by
 unfold zdu zcL at h;simp only [bAT] at h;obtain⟨h1,h2,_,h3,h4,_⟩:=h;refine⟨?_,h3,h4⟩;have h1:=dT h1;refine List.ext_getElem h1 fun i a b=>?_;have:=dT (Qk.1 h2 i (Uo.2 a));unfold evA at this;rw [gDe,gDe,gE a,gE b] at this;exact this
section
variable {init:List UInt8} {Ps:List PathD} {m:MixD} {ds es:List Nat}
theorem ChoiceW.dig_r (h:ChoiceW init Ps m) (hd:ds∈qb (zK m)) {t:Nat} {r:Nat×List Nat} (hr:m.rs[t]?=some r):∃ d,ds[t]?=some d/\d<r.2.length:=by
 obtain⟨h1,h2⟩:=zah hd;have ht:=(Js.1 hr).1;have hs:(zK m)[t]?=some r.2.length:=by
  unfold zK;rw [Jr (by rw [QN];exact ht),KV,hr];rfl
 have hlen:t<ds.length:=by rw [h1];exact (Js.1 hs).1
 exact⟨ds[t],gE hlen,h2 _ _ _ hs (gE hlen)⟩
theorem ChoiceW.wr_nodup (h:ChoiceW init Ps m) (l:Nat):(m.wr.getD l []).Nodup:=by
 by_cases hl:l<init.length
 ·rw [h.wr.2 l hl];exact List.nodup_range.filter _
 ·rw [gDe,JK (by rw [h.wr.1];omega)];exact .nil
theorem ChoiceW.rf_dig (h:ChoiceW init Ps m) (hd:ds∈qb (zK m)) (he:es∈qb (zK m)) (hs:jt (zN m ds).rf (zN m es).rf=true) {t:Nat} (ht:t<m.rs.length):ds[t]?=es[t]?:=by
 have hr:m.rs[t]?=some m.rs[t]:=gE ht;obtain⟨d,d1,d2⟩:=h.dig_r hd hr;obtain⟨e,e1,e2⟩:=h.dig_r he hr;have hn:m.rs[t].2.Nodup:=by
  obtain⟨_,_,_,hr2⟩:=h.rs (gM ht);rw [hr2];exact (h.wr_nodup _).filter _
 have hi:m.rs[t].2[d]?=some m.rs[t].2[d]:=gE d2;have b1:z5 (zN m ds).rf m.rs[t].2[d] m.rs[t].1=true:=(h.rfb hd).2 ⟨t,_,hr,gM d2,by rw [gDe,d1];exact hi,rfl⟩;have h48:m.rs[t].2[d]<48:=by
  have:=(h.src (gM ht)).2.2 _ (gM d2);have:=h.n;rw [<- h.len] at this;omega
 have b2:z5 (zN m es).rf m.rs[t].2[d] m.rs[t].1=true:=by
  unfold z5 at b1 ⊢;rw [<- znV hs h48];exact b1
 obtain⟨t',r',g1,_,g3,g4⟩:=(h.rfb he).1 b2;have hp:m.rs.Pairwise fun a b=>a.1<b.1:=by
  rw [h.m];exact zkI _ _ _ _
 have htt:=zlN (key:=fun a:Nat×List Nat=>a.1) hp hr g1 g4;subst htt;have hrr:=Uf (hr.symm.trans g1);rw [<- hrr,gDe,e1] at g3;have g3:m.rs[t].2[e]?=some m.rs[t].2[d]:=g3;rw [gE e2] at g3;have:=(List.getElem_inj hn).1 (Uf g3);rw [d1,e1,this]
theorem ChoiceW.dig_w (h:ChoiceW init Ps m) (hd:ds∈qb (zK m)) {l:Nat} (hl:l<init.length):∃ d,ds[m.rs.length+l]?=some d/\∃ hlt:d<(zJ (z9 m.base l)).length,chR (m.wr.map zJ) (ds.drop m.rs.length) l=(zJ (z9 m.base l))[d]:=by
 obtain⟨h1,h2⟩:=zah hd;obtain⟨w1,w2⟩:=h.wr;have hlw:l<m.wr.length:=by omega
 have hw:m.wr[l]=z9 m.base l:=by
  have:=w2 l hl;rw [gDe,gE hlw] at this;exact this
 have hs:(zK m)[m.rs.length+l]?=some (zJ (z9 m.base l)).length:=by
  unfold zK;rw [Jn (by rw [QN];omega),QN,Jz,KV,gE hlw,hw];rfl
 have hlen:m.rs.length+l<ds.length:=by rw [h1];exact (Js.1 hs).1
 have hdl:=h2 _ _ _ hs (gE hlen);refine⟨ds[m.rs.length+l],gE hlen,hdl,?_⟩;have e1:(m.wr.map zJ).getD l []=zJ (z9 m.base l):=by
  rw [gDe,KV,gE hlw,hw];rfl
 have e2:(ds.drop m.rs.length).getD l 0=ds[m.rs.length+l]:=by
  rw [gDe,Kx,gE hlen];rfl
 unfold chR;rw [e1,e2,gDe,gE hdl];rfl
theorem ChoiceW.co_dig (h:ChoiceW init Ps m) (hd:ds∈qb (zK m)) (he:es∈qb (zK m)) (hs:jt (zN m ds).co (zN m es).co=true) {l:Nat} (hl:l<init.length):ds[m.rs.length+l]?=es[m.rs.length+l]?:=by
 obtain⟨d,d1,d2,d3⟩:=h.dig_w hd hl;obtain⟨e,e1,e2,e3⟩:=h.dig_w he hl;obtain⟨c1,c2⟩:=h.chx he;have hlw:l<(m.wr.map zJ).length:=by rw [QN,h.wr.1];exact hl
 obtain⟨_,hb⟩:=zey m.base.ev (m.wr.map zJ) 0 (es.drop m.rs.length) (m.base.co,m.base.mem) c1 c2;have hr:zP (zN m ds) l=chR (m.wr.map zJ) (es.drop m.rs.length) l:=by
  refine zgb (zeC h) (h.ch he l hl).1 fun i hi j=>?_;have hi48:i<48:=by
   have:=zeI ((h.ch he l hl).1.subset hi);have:=h.n;rw [<- h.len] at this;omega
  have e:z5 (zN m ds).co i j=z5 (coG m.base.ev 0 (m.wr.map zJ) (es.drop m.rs.length) (m.base.co,m.base.mem)).1 i j:=by
   unfold z5;rw [znV hs hi48];rfl
  rw [e,Bool.eq_iff_iff,hb,dE];constructor
  ·rintro (⟨k,a1,a2,a3⟩ | ⟨a1,a2⟩)
   ·have:=c2 i k l a1 hlw a2 hi;rw [<- this];exact a3
   ·exact Gq hi (a1 l hlw)
  ·exact fun hj => .inl ⟨l,hlw,hi,hj⟩
 rw [h.rank hd hl,d3,e3] at hr;obtain⟨g1,_⟩:=h.head hl;have h48:(z9 m.base l).length<=48:=by
  have:=zfC m.base l;have:=h.n;have:=h.len;omega
 have:=(List.getElem_inj (zjv (List.nodup_range.filter _) g1 h48)).1 hr;rw [d1,e1,this]
theorem ChoiceW.same (h:ChoiceW init Ps m) (hd:ds∈qb (zK m)) (he:es∈qb (zK m)) (hs:zdu (zN m ds) (zN m es)=true):ds=es:=by
 obtain⟨_,h2,h3⟩:=zkx hs;have l1:=(zah hd).1;have l2:=(zah he).1;have hl:(zK m).length=m.rs.length+init.length:=by
  unfold zK;rw [lap,QN,QN,h.wr.1]
 refine KR fun t=>?_;by_cases ht:t<m.rs.length
 ·exact h.rf_dig hd he h2 ht
 ·by_cases ht2:t<m.rs.length+init.length
  ·have:=h.co_dig hd he h3 (l:=t-m.rs.length) (by omega);rw [show m.rs.length+(t-m.rs.length)=t by omega] at this;exact this
  ·rw [JK (by omega),JK (by omega)]
end
theorem zl1 (before:Nat->Nat):∀ (s:List Nat) (n left:Nat) (l:List Nat),left<2^64->s.length<=n->s.Perm (els left)->(∀ A a t,s=A++a::t->∀ b∈a::t,(before a).testBit b=false)->l++s∈j0 before n left l
 | [],n,left,l,hl,hn,hp,hb=>by
  have h0:left=0:=zdj hl (by rw [Qs];exact List.nil_perm.1 hp);rw [QK]
  cases n <;> (unfold j0;rw [Gp h0];exact KB.2 rfl)
 | a::t,0,left,l,hl,hn,hp,hb=>by simp at hn
 | a::t,n+1,left,l,hl,hn,hp,hb=>by
  have ha:a∈els left:=hp.subset KA;have h0:left≠0:=fun e=>by rw [e,zaC] at ha;cases ha
  unfold j0;rw [Gn h0];refine List.mem_flatMap.2 ⟨a,ha,?_⟩;have hbl:before a&&&left=0:=by
   refine Kc fun i=>?_;rw [Uc,QE];by_cases hi:left.testBit i=true
   ·have hi64:i<64:=by
     refine QA fun h=>?_;rw [JI (nL hl (Ke (by decide) h))] at hi
     cases hi
    rw [hb [] a t rfl i (hp.symm.subset (zay.2 ⟨hi64,hi⟩)),Uj]
   ·rw [Qj] at hi;rw [hi,Ui]
  rw [Gp hbl,zaX];have hna:a ∉ t:=(QV.1 (hp.nodup_iff.2 (zdi left))).1;have hpt:t.Perm (els (qH left (2^a))):=by
   rw [zcY hl ha];have h1:=hp.filter fun i => !decide (i=a);rw [Qo,Gn (by simp),List.filter_eq_self.2 fun z hz=>by
    have:z≠a:=fun e=>hna (by rw [<- e];exact hz);simp [this]] at h1
   exact h1
  have h2:=zl1 before t n (qH left (2^a)) (l++[a]) (jW hl) (by simpa using hn) hpt fun A c u e b hbm=>hb (a::A) c u (by rw [e];rfl) b hbm;rw [KQ] at h2;exact h2
section
variable {n:Nat}
theorem zj3 (hn:n<=48) {a b:Nat} (ha:a<n) (h:((zQ (crs n)).to a).testBit b=true):b=0/\a≠0:=by
 have h1:=zdp (ziO hn) (i:=a) (j:=b) (by omega);unfold z5 at h1;rw [h1,bAT] at h;obtain⟨hb,h⟩:=h;have hb:=dT hb;have h:(if b<n then (if Nat.testBit 1 b then zaz (jP n) 1&&&jP n else 0) else 0).testBit a=true:=h;rw [Gp hb] at h
 split at h
 ·rename_i h2;have hb0:b=0:=by
   refine Nat.eq_zero_of_not_pos fun hp=>?_;rw [JI (show 1<2^b from Nat.one_lt_two_pow (by omega))] at h2
   cases h2
  refine⟨hb0,fun ha0=>?_⟩;rw [Uc,zaX,bAT] at h;have e:qH (jP n) 1=qH (jP n) (2^0):=rfl;rw [e,zbk (by decide) (by omega),ha0] at h;simp at h
 ·rw [QE] at h;cases h
theorem zql (hn:n<=48):zhd (crs n)=true:=by
 rw [zqI (ziO hn)];intro S hS he;have hS64:S<2^64:=by
  refine KF ?_ (zaF (n:Int));rw [<- he];exact Qy
 have hin:∀ i,S.testBit i=true->i<n:=fun i hi=>by
  have h1:i<64:=by
   refine QA fun h=>?_;rw [JI (nL hS64 (Ke (by decide) h))] at hi
   cases hi
  rw [<- he,Uc,bAT] at hi;rw [zbC (by omega) (by omega) h1] at hi;have:=dT hi.2;omega
 have free:∀ a,a<n->(∀ b,S.testBit b=true->b=0->a=0)->(zQ (crs n)).to a&&&S=0:=fun a ha h=>by
  refine Kc fun i=>?_;rw [Uc,QE]
  cases h1:((zQ (crs n)).to a).testBit i
  ·rfl
  ·obtain⟨h2,h3⟩:=zj3 hn ha h1
   cases h4:S.testBit i
   ·rfl
   ·exact Gq (h i h4 h2) h3
 by_cases h0:S.testBit 0=true
 ·exact⟨0,zay.2 ⟨by decide,h0⟩,free 0 (hin 0 h0) fun _ _ _=>rfl⟩
 ·have hne:els S≠[]:=fun e=>hS (zdj hS64 (by rw [e];rfl));obtain⟨a,t,hat⟩:=List.exists_cons_of_ne_nil hne;have ha:a∈els S:=by rw [hat];exact KA
  exact⟨a,ha,free a (hin a (zay.1 ha).2) fun b hb hb0=>by rw [hb0] at hb;exact Gq hb h0⟩
theorem zpK (hn:n<=48) {o t:List Nat} (hp:o.Perm (List.range n)) (h0:o=0::t):o∈za3 (crs n):=by
 unfold za3;rw [Gp (zql hn)];have e:els (jP ((n:Nat):Int))=List.range n:=by rw [zaj];exact zdk (by omega)
 have hl:=hp.length_eq;rw [KW] at hl;have:=zl1 (zQ (crs n)).to o 64 (jP ((n:Nat):Int)) [] (zdq n) (by omega) (by rw [e];exact hp) fun A a u he b hb=>?_
 ·exact this
 have hao:a∈o:=by rw [he];exact JO _ KA
 cases h1:((zQ (crs n)).to a).testBit b
 ·rfl
 ·obtain⟨h2,h3⟩:=zj3 hn (Uo.1 (hp.subset hao)) h1;have hon:o.Nodup:=hp.nodup_iff.2 List.nodup_range
  cases A with
  | nil =>
   rw [h0,QU,QL] at he;exact Gq he.1.symm h3
  | cons c A =>
   rw [h0,Qm,QL] at he;rw [h0] at hon;have:(0:Nat)∈t:=by rw [he.2,<- h2];exact JO _ hb
   exact Gq this (QV.1 hon).1
end
theorem zoy {w:List Nat} {x:Nat} (h:x∈w):w.getD (w.idxOf x) 0=x:=by
 have hl:=List.idxOf_lt_length_iff.2 h;rw [gDe,gE hl];exact List.getElem_idxOf hl
theorem zpT {w:List Nat} (hw:w.Nodup):w.map (fun x=>w.idxOf x)=List.range w.length:=by
 refine List.ext_getElem (by simp) fun i h1 h2=>?_;rw [Qr,Kz];exact hw.idxOf_getElem i (by simpa using h1)
theorem znZ {w rk:List Nat} (hn:w.length<=48) (hw:w.Nodup) (hf:fct (w.length-1)<=10000) (h1:1<=w.length) (hp:rk.Perm w) (hh:rk.headD 48=w.headD 48):rk∈zJ w:=by
 unfold zJ;dsimp only;rw [Gp (UM (zhF h1 hn) hf)];refine UJ.2 ⟨rk.map (fun x=>w.idxOf x),?_,?_⟩
 ·cases w with
  | nil=>simp at h1
  | cons a w' =>
   cases rk with
   | nil=>simpa using hp.length_eq
   | cons b rk' =>
    have hh:b=a:=hh;subst hh;refine zpK hn (t:=rk'.map (fun x=>(b::w').idxOf x)) ?_ ?_
    ·rw [<- zpT hw];exact hp.map _
    ·rw [UB,List.idxOf_cons_self]
 ·rw [UH]
  conv=>rhs;rw [<- List.map_id rk]
  exact Kl fun x hx=>zoy (hp.subset hx)
theorem zoQ:∀ (rs es:List Nat),es.length=rs.length->(∀ (i n d:Nat),rs[i]?=some n->es[i]?=some d->d<n)->∃ j,j<zR rs/\j8 rs j=es
 | [],[],_,_=>⟨0,Nat.one_pos,rfl⟩
 | [],e::es,h,_=>by cases h
 | n::ns,[],h,_=>by cases h
 | n::ns,e::es,h,hb=>by
  obtain⟨j,h1,h2⟩:=zoQ ns es (by simpa using h) fun i n d a b=>hb (i+1) n d a b;have he:e<n:=hb 0 n e rfl rfl;refine⟨e+n*j,?_,?_⟩
  ·show e+n*j<n*zR ns;have:n*(j+1)<=n*zR ns:=Nat.mul_le_mul_left n h1;rw [Nat.mul_add] at this;omega
  ·show (e+n*j)%n::j8 ns ((e+n*j)/n)=e::es;rw [Nat.add_mul_mod_self_left,QD he,Nat.add_mul_div_left _ _ (by omega),Nat.div_eq_of_lt he,UR,h2]
theorem zj1 {sizes ds:List Nat} (hl:ds.length=sizes.length) (hb:∀ (i n d:Nat),sizes[i]?=some n->ds[i]?=some d->d<n):ds∈qb sizes:=by
 obtain⟨j,h1,h2⟩:=zoQ sizes.reverse ds.reverse (by simpa using hl) fun i n d a b=>by
  have hi:i<sizes.length:=by simpa using (Js.1 a).1
  rw [JL hi] at a;rw [JL (by omega)] at b;rw [hl] at b;exact hb _ n d a b
 exact UJ.2 ⟨j,Uo.2 h1,by rw [h2,Kb]⟩
def zh9 (took:List PathD) (e:Ev):Bool:=took.any fun Q=>Q.ev.any fun x=>decide (x.k=2)&&(decide (x.l=e.l)&&decide (x.v=e.v))
def zbU (init:List UInt8) (took:List PathD) (e:Ev):Bool := !decide (e.k=1)||(decide (init.getD e.l.toNat 0=e.v)||zh9 took e)
def zjM (init:List UInt8) (took:List PathD):Bool:=took.all fun P=>P.ev.all (zbU init took)
def IsX (took:List PathD) (x:ExD):Prop:=∀ (t:Nat) (P:PathD),took[t]?=some P->jv t x.ev=P.ev/\∀ j,j<8->x.regs (8*t+j)=P.regs j
theorem zev:∀ (Ps:List PathD) (k t:Nat) (P:PathD) (e:Ev),Ps[t]?=some P->e∈P.ev->{ e with th:=((k+t:Nat):Int) }∈zcE k Ps
 | [],k,t,P,e,h,_=>by simp at h
 | Q::Ps,k,0,P,e,h,he=>by
  have h:=Uf h;subst h;exact JW _ (Km he)
 | Q::Ps,k,t+1,P,e,h,he=>by
  have:=zev Ps (k+1) t P e h he;rw [show k+1+t=k+(t+1) by omega] at this;exact JO _ this
theorem zl5:∀ (Ps:List PathD) (k:Nat) (e:Ev),e∈zcE k Ps->∃ (t:Nat) (P:PathD),Ps[t]?=some P/\∃ a∈P.ev,e={ a with th:=((k+t:Nat):Int) }
 | [],k,e,h=>by cases h
 | P::Ps,k,e,h=>by
  rcases QS.1 h with h | h
  ·obtain⟨a,ha,rfl⟩:=UJ.1 h;exact⟨0,P,rfl,a,ha,rfl⟩
  ·obtain⟨t,Q,h1,a,ha,h2⟩:=zl5 Ps (k+1) e h;exact⟨t+1,Q,h1,a,ha,by rw [h2,show k+1+t=k+(t+1) by omega]⟩
section
variable {init:List UInt8} {Ps:List PathD} {m:MixD}
theorem ChoiceW.read_src (h:ChoiceW init Ps m) {P:PathD} (hP:P∈Ps) {e:Ev} (he:e∈P.ev) (hk:e.k=1):∃ r∈m.rs,(r.2≠[]↔(decide (init.getD e.l.toNat 0=e.v)||zh9 Ps e)=true):=by
 obtain⟨t,ht⟩:=List.mem_iff_getElem?.1 hP;have hb:{ e with th:=(t:Int) }∈m.base.ev:=by
  rw [h.base,zaU];have:=zev Ps 0 t P e ht he;rw [UR] at this;exact JO _ this
 obtain⟨i,hi⟩:=List.mem_iff_getElem?.1 hb;have h1:=zga (jI init Ps).ev (zfU 0 (jI init Ps).ev (List.replicate init.length [])) (jI init Ps).ev 0 i { e with th:=(t:Int) } (by rw [<- h.base];exact hi) hk;obtain⟨u,s,hu⟩:=h1;rw [UR] at hu;have hu:m.rs[u]?=some (i,s):=by rw [h.m];exact hu
 have hm:=JZ hu;obtain⟨d,d1,d2,d3⟩:=h.rs hm;have d1:m.base.ev[i]?=some d:=d1;rw [hi] at d1;have d1:=Uf d1;subst d1;have d3:s=(m.wr.getD e.l.toNat []).filter fun w=>decide ((m.base.ev.getD w ev0).v=e.v):=d3;have hloc:e.l.toNat<init.length:=(h.P P hP).b.loc e he (.inl hk);rw [h.wr.2 _ hloc] at d3;refine⟨(i,s),hm,?_⟩;show s≠[]↔_;have hin:init.getD e.l.toNat 0=init[e.l.toNat]:=by rw [gDe,gE hloc];rfl
 rw [QH,dE,hin];constructor
 ·intro hne;obtain⟨a,s',hs'⟩:=List.exists_cons_of_ne_nil hne;have ha:a∈s:=by rw [hs'];exact KA
  rw [d3] at ha;obtain⟨ha1,ha2⟩:=QT.1 ha;obtain⟨b1,b2,b3⟩:=zbe.1 ha1;have ha2:(evA m.base a).v=e.v:=dT ha2;have b2:(evA m.base a).k=2:=dT b2;have hmem:evA m.base a∈m.base.ev:=by
   unfold evA;rw [gDe,gE b1];exact gM b1
  rw [h.base,zaU] at hmem;rcases QS.1 hmem with hmem | hmem
  ·left;obtain⟨c,hc,hce⟩:=Kj hmem;rw [zX] at hc;have hat:=zao init 0 hc;rw [gE (by rw [zX];exact hc),UR,hce] at hat;have hat:=Uf hat;rw [<- h.base] at hat;rw [hat] at b3 ha2;have b3:(UInt8.ofNat c).toNat=e.l.toNat:=b3;have hi6:=h.i6;rw [KI] at b3;have hce2:c=e.l.toNat:=by omega
   subst hce2;exact ha2
  ·right;obtain⟨t',Q,hQ,y,hy,hye⟩:=zl5 Ps 0 _ hmem;rw [<- h.base] at hye;rw [hye] at b2 b3 ha2;refine Ql.2 ⟨Q,JZ hQ,Ql.2 ⟨y,hy,?_⟩⟩;have b2:y.k=2:=b2;have b3:y.l.toNat=e.l.toNat:=b3;have ha2:y.v=e.v:=ha2;rw [b2,ha2,Ug.1 b3];simp
 ·intro h0 hs;have hno:∀ a,a ∉ s:=fun a ha=>by rw [hs] at ha;cases ha
  rcases h0 with h0 | h0
  ·refine hno e.l.toNat ?_;rw [d3];have hev:=h.ini hloc;have hlt:e.l.toNat<m.base.ev.length:=by
    rw [h.len];exact nL hloc (zcJ _ _)
   refine QT.2 ⟨zbe.2 ⟨hlt,Us (by rw [hev]),by rw [hev];show (UInt8.ofNat e.l.toNat).toNat=_;rw [UInt8.ofNat_toNat]⟩,Us ?_⟩;show (evA m.base e.l.toNat).v=e.v;rw [hev];exact h0
  ·obtain⟨Q,hQ,h0⟩:=Ql.1 h0;obtain⟨y,hy,h0⟩:=Ql.1 h0;rw [bAT,bAT,dE,dE,dE] at h0;obtain⟨t',ht'⟩:=List.mem_iff_getElem?.1 hQ;have hb2:{ y with th:=(t':Int) }∈m.base.ev:=by
    rw [h.base,zaU];have:=zev Ps 0 t' Q y ht' hy;rw [UR] at this;exact JO _ this
   obtain⟨a,ha⟩:=List.mem_iff_getElem?.1 hb2;have hev:evA m.base a={ y with th:=(t':Int) }:=by
    unfold evA;rw [gDe,ha];rfl
   refine hno a ?_;rw [d3];refine QT.2 ⟨zbe.2 ⟨(Js.1 ha).1,Us (by rw [hev];exact h0.1),by rw [hev];show y.l.toNat=_;rw [h0.2.1]⟩,Us ?_⟩;show (evA m.base a).v=e.v;rw [hev];exact h0.2.2
theorem ChoiceW.read_of (h:ChoiceW init Ps m) {r:Nat×List Nat} (hr:r∈m.rs):∃ P∈Ps,∃ e∈P.ev,e.k=1/\r.2=(m.wr.getD e.l.toNat []).filter fun w=>decide ((m.base.ev.getD w ev0).v=e.v):=by
 obtain⟨d,d1,d2,d3⟩:=h.rs hr;have hmem:=JZ d1;rw [h.base] at hmem;rcases zki hmem with ⟨i,hi,rfl⟩ | ⟨P,hP,a,ha,t,_,rfl⟩
 ·cases d2
 ·exact⟨P,hP,a,ha,d2,d3⟩
theorem ChoiceW.may (h:ChoiceW init Ps m):jh m 1≠0↔zjM init Ps=true:=by
 rw [zbP fun w hw=>(h.w1 hw).1];unfold zjM;constructor
 ·intro hs;refine Qk.2 fun P hP=>Qk.2 fun e he=>?_;unfold zbU;by_cases hk:e.k=1
  ·obtain⟨r,hr,hi⟩:=h.read_src hP he hk;rw [hi.1 (hs r hr),Bool.or_true]
  ·rw [Uh hk];rfl
 ·intro hs r hr;obtain⟨P,hP,e,he,hk,hre⟩:=h.read_of hr;have h1:=Qk.1 (Qk.1 hs P hP) e he;unfold zbU at h1;rw [Us hk] at h1;obtain⟨r',hr',hi⟩:=h.read_src hP he hk;have h2:=hi.2 h1;obtain⟨P',hP',e',he',hk',hre'⟩:=h.read_of hr';obtain⟨r2,hr2,hi2⟩:=h.read_src hP he hk;rw [hre];intro h0;refine h2 ?_;have key:∀ a,a∈(m.wr.getD e.l.toNat []).filter (fun w=>decide ((m.base.ev.getD w ev0).v=e.v))->False:=fun a ha=>by rw [h0] at ha;cases ha
  refine Gq h1 ?_;intro h1;have hloc:e.l.toNat<init.length:=(h.P P hP).b.loc e he (.inl hk);rw [h.wr.2 _ hloc] at key;have h1:(decide (init.getD e.l.toNat 0=e.v)||zh9 Ps e)=true:=h1;have hin:init.getD e.l.toNat 0=init[e.l.toNat]:=by rw [gDe,gE hloc];rfl
  rw [QH,dE,hin] at h1;rcases h1 with h1 | h1
  ·refine key e.l.toNat ?_;have hev:=h.ini hloc;have hlt:e.l.toNat<m.base.ev.length:=by
    rw [h.len];exact nL hloc (zcJ _ _)
   refine QT.2 ⟨zbe.2 ⟨hlt,Us (by rw [hev]),by rw [hev];show (UInt8.ofNat e.l.toNat).toNat=_;rw [UInt8.ofNat_toNat]⟩,Us ?_⟩;show (evA m.base e.l.toNat).v=e.v;rw [hev];exact h1
  ·obtain⟨Q,hQ,h1⟩:=Ql.1 h1;obtain⟨y,hy,h1⟩:=Ql.1 h1;rw [bAT,bAT,dE,dE,dE] at h1;obtain⟨t',ht'⟩:=List.mem_iff_getElem?.1 hQ;have hb2:{ y with th:=(t':Int) }∈m.base.ev:=by
    rw [h.base,zaU];have:=zev Ps 0 t' Q y ht' hy;rw [UR] at this;exact JO _ this
   obtain⟨a,ha⟩:=List.mem_iff_getElem?.1 hb2;have hev:evA m.base a={ y with th:=(t':Int) }:=by
    unfold evA;rw [gDe,ha];rfl
   refine key a (QT.2 ⟨zbe.2 ⟨(Js.1 ha).1,Us (by rw [hev];exact h1.1),by rw [hev];show y.l.toNat=_;rw [h1.2.1]⟩,Us ?_⟩);show (evA m.base a).v=e.v;rw [hev];exact h1.2.2
end
section
variable {p:Prg} {V:List UInt8} {took:List PathD}
theorem zpR (hO:OkG p) (hc:zcx p V 300) (hl:took.length=p.threads.length) (hR:∀ (t:Nat) (l:List InsD),p.threads[t]?=some l->∃ R∈z8 l V,took[t]?=some (jf R)):(∃ x∈qg p V,IsX took x)↔zjM p.init took=true:=by
 have hf:∀ t:Nat,∃ d:Nat,∀ l,p.threads[t]?=some l->∃ R,(z8 l V)[d]?=some R/\took[t]?=some (jf R):=fun t=>by
  cases hg:p.threads[t]? with
  | none=>exact⟨0,fun l h=>by cases h⟩
  | some l =>
   obtain⟨R,h1,h2⟩:=hR t l hg;obtain⟨d,hd⟩:=List.mem_iff_getElem?.1 h1;exact⟨d,fun l' h=>by rw [<- Uf h];exact⟨R,hd,h2⟩⟩
 obtain⟨f,hf⟩:=Classical.axiomOfChoice hf;obtain⟨ds,hds⟩:=nm ((List.range p.threads.length).map f);have hdl:ds.length=p.threads.length:=by rw [hds,QN,KW]
 have hda:∀ t,t<p.threads.length->ds[t]?=some (f t):=fun t ht=>by rw [hds,KV,Ki ht];rfl
 have hdm:ds∈qb ((p.threads.map (zA V)).map List.length):=zj1 (by rw [hdl,QN,QN]) fun i n d hn hd=>by
  have hi:i<p.threads.length:=by rw [<- hdl];exact (Js.1 hd).1
  rw [hda i hi] at hd;have hg:p.threads[i]?=some p.threads[i]:=gE hi;rw [KV,KV,hg] at hn;have hn:(zA V p.threads[i]).length=n:=Uf hn;obtain⟨R,h1,_⟩:=hf i _ hg;have:=(Js.1 h1).1;have e:(zA V p.threads[i]).length=(z8 p.threads[i] V).length:=QN ..;rw [<- Uf hd];omega
 obtain⟨m,hm⟩:=Option.isSome_iff_exists.1 (hc.2.1.2.2 ds hdm);obtain⟨hC,_,hth⟩:=zhY hO hdm hm;have hmm:m∈zY p V:=List.mem_filterMap.2 ⟨ds,hdm,hm⟩;have hPs:qK (p.threads.map (zA V)) ds=took:=by
  have h1:=(zfI (p.threads.map (zA V)) ds (by rw [QN];exact hdl) (zah hdm).2).1;rw [QN] at h1;refine KR fun t=>?_;by_cases ht:t<p.threads.length
  ·obtain⟨d,d1,R,d2,d3,_⟩:=hth t _ (gE ht);rw [hda t ht] at d1;obtain⟨R',h3,h4⟩:=hf t _ (gE ht);rw [Uf d1,d2] at h3;rw [d3,h4,Uf h3]
  ·rw [JK (by omega),JK (by omega)]
 rw [hPs] at hC;have hown:∀ (t:Nat) (P:PathD),took[t]?=some P->jv t m.base.ev=P.ev/\∀ j,j<8->m.base.regs (8*t+j)=P.regs j:=fun t P hP=>by
  have ht:t<p.threads.length:=by rw [<- hl];exact (Js.1 hP).1
  obtain⟨d,d1,R,d2,d3,d4,d5⟩:=hth t _ (gE ht);rw [hPs,hP] at d3;have d3:=Uf d3;rw [d3];exact⟨d4,d5⟩
 rw [<- hC.may];constructor
 ·rintro⟨x,hx,hI⟩;obtain⟨m',hm',hx'⟩:=List.mem_flatMap.1 hx;obtain⟨ds',hds',he'⟩:=List.mem_filterMap.1 hm';obtain⟨hC',hl',hth'⟩:=zhY hO hds' he';unfold qN at hx'
  split at hx'
  ·cases hx'
  rename_i h1;obtain⟨c,_,rfl⟩:=UJ.1 hx';have hev:(qK (p.threads.map (zA V)) ds').map (·.ev)=took.map (·.ev):=by
   have h2:=(zfI (p.threads.map (zA V)) ds' (by rw [QN];exact hl') (zah hds').2).1;rw [QN] at h2;refine KR fun t=>?_;rw [KV,KV];by_cases ht:t<p.threads.length
   ·obtain⟨d,d1,R,d2,d3,d4,_⟩:=hth' t _ (gE ht);have htk:took[t]?=some took[t]:=gE (by omega);have h3:jv t m'.base.ev=(took[t]'(by omega)).ev:=(hI t _ htk).1;rw [d3,htk];show some (jf R).ev=some (took[t]'(by omega)).ev;rw [<- h3,d4];rfl
   ·rw [JK (by omega),JK (by omega)]
  have hw:∀ (A B:List PathD),A.map (·.ev)=B.map (·.ev)->∀ e,zh9 A e=zh9 B e:=fun A B h e=>by
   have g:∀ A:List PathD,zh9 A e=(A.map (·.ev)).any fun l=>l.any fun x=>decide (x.k=2)&&(decide (x.l=e.l)&&decide (x.v=e.v)):=fun A=>by
    unfold zh9;rw [List.any_map];rfl
   rw [g,g,h]
  have hmay:∀ (A B:List PathD),A.map (·.ev)=B.map (·.ev)->zjM p.init A=zjM p.init B:=fun A B h=>by
   have g:∀ A:List PathD,zjM p.init A=(A.map (·.ev)).all fun l=>l.all (zbU p.init A):=fun A=>by
    unfold zjM;rw [List.all_map];rfl
   have e:zbU p.init A=zbU p.init B:=funext fun e=>by unfold zbU;rw [hw A B h]
   rw [g,g,h,e]
  rw [hC.may,<- hmay _ _ hev,<- hC'.may];exact h1
 ·intro h1;have hs:=(zbP fun w hw=>(hC.w1 hw).1).1 h1;have hcm:jh m 20001<20001:=by
   have h2:=hc.2.2;have:=ziF (f:=fun m=>jh m 20001) hmm;omega
  have hnz:∀ n∈zK m,n≠0:=fun n hn=>by
   unfold zK at hn;rcases QS.1 hn with hn | hn
   ·obtain⟨r,hr,rfl⟩:=UJ.1 hn;exact fun e=>hs r hr (List.length_eq_zero_iff.1 e)
   ·obtain⟨w,hw,rfl⟩:=UJ.1 hn;obtain⟨w1,w2⟩:=hC.w1 hw;have h8:=zl0 (zgM (fun w hw=>(hC.w1 hw).1) (by decide) hcm h1 w hw);obtain⟨l,hl,hwl,_⟩:=hC.wr_mem hw;have hwn:w.Nodup:=(by rw [hwl];exact List.nodup_range.filter _);have:=znZ w2 hwn (UM (zet (b:=7) (by omega)) (by decide)) w1 (List.Perm.refl w) rfl;exact fun e=>by rw [List.length_eq_zero_iff.1 e] at this;cases this
  have hcd:(zK m).map (fun _=>0)∈qb (zK m):=zj1 (by rw [QN]) fun i n d hn hd=>by
   rw [KV,hn] at hd;have:=hnz n (JZ hn);have hd:some 0=some d:=hd;rw [<- Uf hd];omega
  refine⟨zN m ((zK m).map fun _=>0),List.mem_flatMap.2 ⟨m,hmm,?_⟩,fun t P hP=>hown t P hP⟩;unfold qN;rw [Gn h1];exact Km hcd
end
def onP (ts:List (List InsD)):Prg:=⟨[116],[[120]],[0],ts,1,.mk 0 0 0 0 []⟩
section
variable {w:Wd}
theorem zef {ts:List (List InsD)} {pt:OA} {ct:Nat} (ht:ThrsW w.heap.size w pt ts) (hts:ts.length<=4) (hl:∀ l∈ts,l.length<=1000) :
  Calls PG 17 #[i64 1,.slice pt ts.length ct] w fun e w'=>(∃ vs:List Value,e = .returned (.agg vs.toArray)/\PrgX w'.heap.size w' vs (onP ts))/\Bw w w':=by
 refine je 12 [i64 1,.slice pt ts.length ct] (.c .p .p) Tryz.func17 ?_;obtain⟨L,hL⟩:=nm (w.heap.size);refine⟨Unit,fun _=>⟨[(0,i64 1),(1,.slice pt ts.length ct),(4,At0 L)],[]⟩,fun _ X=>(∃ cs:Array Value,X.heap[L]?=some (.cells cs 29 (0,0))/\cs.size=10)/\X.heap.size=L+1/\Bw w X,⟨(),⟨.cons rfl (.cons rfl (.cons (by rw [hL];rfl) .nil)),rfl⟩,⟨_,by rw [hL];exact zz w _,rfl⟩,by rw [hL];exact wz _ _,(zba w _)⟩,?_⟩;rintro _ X ⟨⟨cs,fL,hcs⟩,sX,hbX⟩;have hba:∀ (A:Wd) (o:Obj),Bw A (A.alloc o):=fun A o=>(zba _ _);have dX:Bw X X.drew:=(Gb _ _).drew;have fin:∀ {W:Wd} {bs bi:Nat},Bw X W->W.heap[bs]?=some (.cells #[qk [120],qk [121],qk [122],qk [119]] 9 (0,0))->W.heap[bi]?=some (.cells #[u8 0] 5 (0,0))->X.heap.size<=bs->X.heap.size<=bi->∀ {K:Wd->Prop},
   (∀ Y,(zu Y ⟨L,0,none⟩ (qB (onP ts) (some ⟨bs,0,none⟩) 4 (some ⟨bi,0,none⟩) 1 pt ct none 0)/\PrgX Y.heap.size Y (qB (onP ts) (some ⟨bs,0,none⟩) 4 (some ⟨bi,0,none⟩) 1 pt ct none 0) (onP ts)/\Bw w Y)->K Y) ->
   SatR ((storeVar 29 ⟨L,0,none⟩ (.agg (qB (onP ts) (some ⟨bs,0,none⟩) 4 (some ⟨bi,0,none⟩) 1 pt ct none 0).toArray)).run PG W) fun _ w'=>K w':=by
  intro W bs bi hW gS gI hs hi K k;have gL:=zc hW fL;refine zE (v := .agg (qB (onP ts) (some ⟨bs,0,none⟩) 4 (some ⟨bi,0,none⟩) 1 pt ct none 0).toArray) k29 gL rfl hcs rfl ?_;obtain⟨Y,hY⟩:=nm (W.setRow L (Value.agg (qB (onP ts) (some ⟨bs,0,none⟩) 4 (some ⟨bi,0,none⟩) 1 pt ct none 0).toArray).cells);rw [<- hY];have fY:Y.heap[L]?=some (.cells (qB (onP ts) (some ⟨bs,0,none⟩) 4 (some ⟨bi,0,none⟩) 1 pt ct none 0).toArray 29 (0,0)):=by rw [hY];exact zx gL
  have oY:∀ k,k≠L->Y.heap[k]?=W.heap[k]?:=fun k hk=>by rw [hY];exact zr hk
  have bY:Bw w Y:=by rw [hY];exact zy ((zst hbX hW)) (by omega) _
  have g1:=(oY bs (by omega)).trans gS;have g2:=(oY bi (by omega)).trans gI;obtain⟨xs,hxs,hr,hx⟩:=ht;have sY:=bY.size;have rI:RowB zC Y.heap.size Y (some ⟨bi,0,none⟩) [0] := .inr ⟨bi,0,rfl,hlt g2,za g2⟩;have rT:ThrsW Y.heap.size Y pt ts:=⟨xs,hxs,(hr.below bY).mono sY,fun x h=>⟨((hx x h).1.below bY).mono sY,fun hne a ha=>nL ((hx x h).2 hne a ha) sY⟩⟩;refine k Y ⟨za fY,⟨⟨⟨by show 1<=_;decide,by show 1<=_;decide,fun s hs=>?_,by show 1<=_;decide,by show ts.length<=_;omega,fun l h=>by have:=hl l h;omega⟩,some ⟨bs,0,none⟩,4,some ⟨bi,0,none⟩,1,pt,ct,none,0,rfl,?_,rI,?_,?_,?_⟩,⟨pt,ct,rfl,rT⟩,⟨some ⟨bi,0,none⟩,1,rfl,rI⟩⟩,bY⟩
  ·have hs:s=[120]:=by simpa [onP] using hs
   rw [hs];decide
  ·refine .inr ⟨bs,0,rfl,hlt g1,?_⟩;have h:=zF (n:=0) (m:=1) (za g1);exact h
  ·exact⟨xs,hxs,(hr.below bY).mono sY,fun x h=>((hx x h).1.below bY).mono sY⟩
  ·exact .mk none [] (by decide) 0 0 (.inl rfl) (fun _=>none) (fun _=>0) (fun i hi=>by simp at hi) (fun i hi=>by simp at hi)
  ·show 1<=4;decide
 refine DrawE.treeQ [7] (.op 1 (.op 3 (.op 5 (.alt (.op 0 (.op 2 (.op 4 (.op 6 (.op 7 .nil))))) (.op 4 (.op 0 (.op 2 (.op 6 (.op 7 .nil))))))))) (by kernel_rfl) (Gg ?_ ?_)
 ·refine⟨⟨by decide,by decide,rfl⟩,[qk [120],qk [121],qk [122],qk [119]],rfl,hba _ _,1,rfl,by decide,?_⟩;have b1:=dX.alloc (UW _) (.cells #[qk [120],qk [121],qk [122],qk [119]] 9);exact zdd Tryz.underlying23 k5 rfl rfl (by decide) 1 (by decide) (by decide) fun Z fZ bZ sZ=>⟨bZ,qB (onP ts) (some ⟨X.drew.heap.size,0,none⟩) 4 _ 1 pt ct none 0,rfl,fin ((zst b1 bZ)) (zc bZ (zz X.drew _)) fZ dX.size b1.size fun Y h=>⟨_,rfl,h.1,⟨_,rfl,h.2.1⟩,h.2.2⟩⟩
 ·refine zdd Tryz.underlying23 k5 rfl rfl (by decide) 1 (by decide) (by decide) fun Z fZ bZ sZ=>⟨bZ,?_⟩;have b1:=zst dX bZ;refine⟨⟨by decide,by decide,rfl⟩,[qk [120],qk [121],qk [122],qk [119]],rfl,hba _ _,1,rfl,by decide,?_⟩;exact⟨qB (onP ts) (some ⟨Z.heap.size,0,none⟩) 4 _ 1 pt ct none 0,rfl,fin (b1.alloc b1.size _) (zz Z _) (qF _ fZ) b1.size dX.size fun Y h=>⟨_,rfl,h.1,⟨_,rfl,h.2.1⟩,h.2.2⟩⟩
end
def zbQ (p:Prg) (V:List UInt8) (most:Nat):Bool :=
 zcA p&&(decide (zc6 p=some V)&&((p.threads.all fun l=>decide ((z8 l V).length<=4096))&&(((List.range (p.threads.length+1)).all fun k=>decide (za7 ((p.threads.take k).map fun l=>(zA V l).length)<=4096)) &&
  (((qb ((p.threads.map (zA V)).map List.length)).all fun ds=>(zgv p.init (qK (p.threads.map (zA V)) ds)).isSome)&&decide (((zY p V).map fun m=>jh m 20001).sum<=most)))))
theorem zh0 {p:Prg} {V:List UInt8} {most:Nat} (h:zbQ p V most=true):zcA p=true/\zcx p V most:=by
 unfold zbQ at h;simp only [bAT,dE,Qk,Uo] at h;obtain⟨h1,h2,h3,h4,h5,h6⟩:=h;exact⟨h1,h2,⟨h3,fun k hk=>h4 k (by omega),h5⟩,h6⟩
section
variable {w:Wd} {B most:Nat} {pc:List Value} {p:Prg} {V:List UInt8}
theorem zeH (hB:B<=w.heap.size) (hP:PrgX B w pc p) (hG:GlobE w) (hm20:most<=20000) (hq:zbQ p V most=true) :
  Calls PG 11 #[.agg pc.toArray,i64 most] w fun e w'=>(∃ (xs:List zcD) (q:OA) (c:Nat),e = .returned (.tuple #[.slice q xs.length c,i64 0])/\xs.map (·.1)=qg p V/\OwnS exE 55 w.heap.size w' q c xs/\∀ x∈xs,OwnS evE 60 w.heap.size w' x.2.1 x.2.2 x.1.ev)/\Bw w w':=by
 obtain⟨hok,hc⟩:=zh0 hq;refine cmo (zg3 hB hP hG hok hm20 fun V _=>zgW (zda hok)) ?_;rintro e X ⟨(⟨V',h1,h2⟩ | ⟨h1,_⟩),hb⟩
 ·have:V'=V:=by
   have e1:=h1.1;rw [hc.1] at e1;exact (Uf e1).symm
  subst this;exact⟨h2,hb⟩
 ·exact Gq hc (h1 V)
theorem zpt {M:Nat} (hB:B<=w.heap.size) (hP:PrgX B w pc p) (hG:GlobE w) (hm20:most<=20000) (hq:zbQ p V M=true) (hn:decide (most<((zY p V).map fun m=>jh m 20001).sum)=true) :
  CB 11 #[.agg pc.toArray,i64 most] w (.tuple #[.slice none 0 0,i64 5]):=by
 obtain⟨hok,hc⟩:=zh0 hq;refine cmo (zg3 hB hP hG hok hm20 fun V _=>zgW (zda hok)) ?_;rintro e X ⟨(⟨V',h1,h2⟩ | ⟨h1,h2⟩),hb⟩
 ·have:V'=V:=by
   have e1:=h1.1;rw [hc.1] at e1;exact (Uf e1).symm
  subst this;have:=dT hn;have:=h1.2.2;omega
 ·exact⟨h2,hb⟩
end
def stI (l v m:UInt8):InsD:=⟨2,0,l,false,v,false,0,0,m,0⟩
def ldI (d l m:UInt8):InsD:=⟨1,d,l,false,0,false,0,0,m,0⟩
def feI:InsD:=⟨7,0,0,false,0,false,0,0,3,0⟩
def p1P:Prg:=onP [[stI 0 1 0],[ldI 0 0 0]]
def p2P:Prg:=onP [[stI 0 1 0],[stI 0 1 0],[ldI 0 0 0]]
def p3P:Prg:=onP [[ldI 0 0 0,stI 0 1 0]]
def p4P:Prg:=onP [[feI]]
theorem zsW:zbQ p1P [0,1] 9=true:=by kernel_rfl
theorem zsw:zbQ p2P [0,1] 9=true:=by kernel_rfl
theorem zsV:zbQ p3P [0,1] 9=true:=by kernel_rfl
theorem zsU:zbQ p4P [0] 9=true:=by kernel_rfl
theorem zpI:decide (5<((zY p2P [0,1]).map fun m=>jh m 20001).sum)=true:=by kernel_rfl
theorem zrs:(qg p1P [0,1]).length=2:=by kernel_rfl
theorem zrr:(qg p2P [0,1]).length=6:=by kernel_rfl
theorem zrq:(qg p3P [0,1]).length=2:=by kernel_rfl
theorem zrp:(qg p4P [0]).length=1:=by kernel_rfl
abbrev xA:ExD:=(qg p1P [0,1]).getD 0 (ex0 0)
abbrev yA:ExD:=(qg p1P [0,1]).getD 1 (ex0 0)
theorem zsd:(decide (xA.ev.length=3)&&(decide (yA.ev.length=3)&&(decide ((evA xA 2).v=0)&&(decide ((evA yA 2).v=1)&&(decide (xA.rf.to 0=4)&&(decide (yA.rf.to 1=4)&&(decide (xA.co.to 0=2)&&(jt yA.co xA.co&&(decide (xA.mem 0=1)&&(decide (yA.regs 8=1)&&(zbs xA&&(zrD xA&&(!zdu xA yA)))))))))))))=true:=by kernel_rfl
theorem znC {X W:Wd} (L:List (List InsD×Nat)) (hL:∀ p∈L,X.heap[p.2]?=some (.cells (p.1.flatMap zG.enc).toArray 41 (0,0))) (hW:W=X.alloc (.cells (L.map fun p=>Value.slice (some ⟨p.2,0,none⟩) p.1.length p.1.length).toArray 42)):ThrsW W.heap.size W (some ⟨X.heap.size,0,none⟩) (L.map (·.1)):=by
 have f:W.heap[X.heap.size]?=some (.cells (L.map fun p=>Value.slice (some ⟨p.2,0,none⟩) p.1.length p.1.length).toArray 42 (0,0)):=by rw [hW];exact zz X _
 refine⟨L.map fun p=>(p.1,some ⟨p.2,0,none⟩,p.1.length),by rw [UH];rfl,.inr ⟨X.heap.size,0,rfl,hlt f,?_⟩,fun x hx=>?_⟩
 ·have e:(L.map fun p=>((p.1,some ⟨p.2,0,none⟩,p.1.length):zlh)).flatMap znB.enc=L.map fun p=>Value.slice (some ⟨p.2,0,none⟩) p.1.length p.1.length:=by
   rw [Qp];clear hL hW f
   induction L with
   | nil=>rfl
   | cons a L ih=>rw [KT,ih];rfl
  rw [e];exact za f
 ·obtain⟨y,hy,rfl⟩:=UJ.1 hx;have g:W.heap[y.2]?=some (.cells (y.1.flatMap zG.enc).toArray 41 (0,0)):=by rw [hW];exact qF _ (hL y hy)
  exact⟨.inr ⟨y.2,0,rfl,hlt g,za g⟩,fun _ a ha=>by
   obtain rfl:(⟨y.2,0,none⟩:Addr)=a:=Uf ha;exact hlt g⟩
abbrev zdX (X:Wd) (O:Nat) (l:List InsD):Prop:=X.heap[O]?=some (.cells (l.flatMap zG.enc).toArray 41 (0,0))
structure CanB (X:Wd) (l:List ExD) (q:OA) (xs:List zcD):Prop where
 e:xs.map (·.1)=l
 r:SlR exE X q xs
 v:∀ x∈xs,SlR evE X x.2.1 x.1.ev
theorem CanB.below {X Y:Wd} {l:List ExD} {q:OA} {xs:List zcD} (h:CanB X l q xs) (hb:Bw X Y):CanB Y l q xs:=⟨h.e,h.r.below hb,fun x hx=>(h.v x hx).below hb⟩
theorem CanB.len {X:Wd} {l:List ExD} {q:OA} {xs:List zcD} (h:CanB X l q xs):xs.length=l.length:=by rw [<- h.e,QN]
theorem j7 {X W:Wd} {P Q:Nat} {x:ExD} {qx:OA} {cx:Nat} {cs:Array Value} (hb:Bw X W) (fP:W.heap[P]?=some (.cells cs 55 (0,0))) (hcs:cs.size=333) {o:Obj} (fQ:W.heap[Q]?=some o) (hPQ:P≠Q) (hP:X.heap.size<=P) {K:Wd->Prop} (k:∀ Y,ExH Y P x qx cx->Y.heap[Q]?=some o->Bw X Y->K Y) :
  SatR ((storeVar 55 ⟨P,0,none⟩ (.agg (exC x qx cx).toArray)).run PG W) fun _ w'=>K w' :=
 zE (v := .agg (exC x qx cx).toArray) k55 fP (zH _ _ _) hcs (zbg _ _ _) (k _ (zx fP) ((zr (fun h=>hPQ h.symm)).trans fQ) (zy hb hP _))
theorem znR {X:Wd} {b c:Nat} {x:ExD} {q:OA} (fx:ExH X b x q c) {i:Nat} (hi:i<48):X.cell? ⟨b,0+50+1+i*1,none⟩=some (s64 (x.rf.to i)):=by
 obtain⟨A,T,hA,hE⟩:=zk2 x q c;have hR:RelAt X b 50 55 A T x.rf:=⟨hA,by rw [<- hE];exact fx⟩;exact hR.cell hi
theorem zrd {X:Wd} {b c:Nat} {x:ExD} {q:OA} (fx:ExH X b x q c) {i:Nat} (hi:i<48):X.cell? ⟨b,0+99+1+i*1,none⟩=some (s64 (x.co.to i)):=by
 obtain⟨A,T,hA,hE⟩:=ziI x q c;have hR:RelAt X b 99 55 A T x.co:=⟨hA,by rw [<- hE];exact fx⟩;exact hR.cell hi
theorem zqa {X:Wd} {b:Nat} {x:ExD} {q:OA} {c i j:Nat} (fx:zu X ⟨b,0,none⟩ (exC x q c)) (hi:i*8+j<32):X.cell? ⟨b,0+295+i*8+j*1,none⟩=some (u8 (x.regs (i*8+j))):=by
 obtain⟨A,T,hA,hE⟩:=zl2 x q c [];have h2:(exC x q c)[295+(i*8+j)]?=some (u8 (x.regs (i*8+j))):=by
  have h:=hE x.regs;rw [QK] at h;rw [h,jr hA,Jr (by rw [zo];exact hi)];unfold seg;rw [KV,Ki hi];rfl
 have h4:=zb fx h2;rw [show 0+(295+(i*8+j))=0+295+i*8+j*1 by omega] at h4;exact h4
abbrev zEx:Obj := .cells zkp.toArray 55
theorem zsC {w:Wd} (hG:GlobE w):CB 10 #[] w (.bool true):=by
 refine je 183 [] (.s .p (.c .p (.c .p (.c .p (.c .p (.c .p (.c .p (.c .p (.c .p (.c .p .p)))))))))) Tryz.func10 ?_;refine⟨Nat,fun O=>⟨[(1,.slice (some ⟨O,0,none⟩) 1 1)],[]⟩,fun O X=>zdX X O [stI 0 1 0]/\Bw w X,?_,?_⟩
 ·refine⟨[.bool false,u8 1],by kernel_rfl,?_⟩;refine⟨zG.enc (stI 0 1 0),by kernel_rfl,?_⟩;exact⟨⟨by decide,by decide,rfl⟩,zG.enc (stI 0 1 0),rfl,w.heap.size,(cvE rfl rfl),zz w _,(zba w _)⟩
 rintro O X ⟨fO,hbX⟩;refine⟨Nat,fun D=>⟨[(1,.slice (some ⟨O,0,none⟩) 1 1),(2,.slice (some ⟨D,0,none⟩) 1 1)],[]⟩,fun D Y=>zdX Y O [stI 0 1 0]/\zdX Y D [ldI 0 0 0]/\Bw w Y,?_,?_⟩
 ·refine⟨zG.enc (ldI 0 0 0),by kernel_rfl,?_⟩;exact⟨⟨by decide,by decide,rfl⟩,zG.enc (ldI 0 0 0),rfl,X.heap.size,(cvE rfl rfl),qF _ fO,zz X _,hbX.alloc hbX.size _⟩
 clear fO hbX;clear X;rintro D X ⟨fO,fD,hbX⟩;refine⟨OA×List zcD×Nat,fun s=>⟨[(1,.slice (some ⟨O,0,none⟩) 1 1),(2,.slice (some ⟨D,0,none⟩) 1 1),(3,.slice s.1 s.2.1.length s.2.2),(4,i64 0)],[]⟩,fun s Z=>CanB Z (qg p1P [0,1]) s.1 s.2.1/\zdX Z O [stI 0 1 0]/\zdX Z D [ldI 0 0 0]/\Bw w Z,?_,?_⟩
 ·obtain⟨S,hS⟩:=nm (X);have dXS:Bw X S:=by rw [hS];exact Gb _ _
  have hbS:Bw w S:=by rw [hS];exact hbX
  rw [<- hS];obtain⟨W1,hW1⟩:=nm (S.alloc (.cells #[.slice (some ⟨O,0,none⟩) 1 1,.slice (some ⟨D,0,none⟩) 1 1] 42));have b1:Bw S W1:=by rw [hW1];exact (zba _ _)
  refine⟨⟨by decide,by decide,rfl⟩,[.slice (some ⟨O,0,none⟩) 1 1,.slice (some ⟨D,0,none⟩) 1 1],rfl,?_⟩;have hW1b:S.alloc (.cells [.slice (some ⟨O,0,none⟩) 1 1,.slice (some ⟨D,0,none⟩) 1 1].toArray 42)=W1:=hW1.symm;rw [hW1b];have hT:ThrsW W1.heap.size W1 (some ⟨S.heap.size,0,none⟩) [[stI 0 1 0],[ldI 0 0 0]]:=znC [([stI 0 1 0],O),([ldI 0 0 0],D)] (fun p hp=>by
   simp only [UC,Qw,Gl] at hp;rcases hp with rfl | rfl
   ·exact zc dXS fO
   ·exact zc dXS fD) hW1
  have h9:=zef (ct:=2) hT (by decide) (fun l hl=>by
   simp only [UC,Qw,Gl] at hl;rcases hl with rfl | rfl <;> decide)
  refine cmo h9 ?_;rintro e U ⟨⟨vs,rfl,hP⟩,hbU⟩;have b2:=zst b1 hbU;have bU:=zst hbS b2;refine cmo (zeH (UW _) hP (hG.below bU) (by decide) zsW) ?_;rintro e V ⟨⟨xs,qq,cc,rfl,h1,h2,h3⟩,hbV⟩;have bXV:=dXS.trans (((zst b2 hbV)).mono dXS.size);exact⟨(qq,xs,cc),(cvE rfl rfl),⟨h1,h2.row,fun x hx=>(h3 x hx).row⟩,zc (bXV) fO,zc (bXV) fD,(zst hbX bXV)⟩
 clear fO fD hbX;clear X;rintro⟨q3,xs3,c3⟩ X ⟨cb3,fO,fD,hbX⟩;dsimp only at cb3 ⊢;refine⟨OA×List zcD×Nat,fun s=>⟨[(1,.slice (some ⟨O,0,none⟩) 1 1),(2,.slice (some ⟨D,0,none⟩) 1 1),(3,.slice q3 xs3.length c3),(4,i64 0),(5,.slice s.1 s.2.1.length s.2.2),(6,i64 0)],[]⟩,fun s Z=>CanB Z (qg p2P [0,1]) s.1 s.2.1/\CanB Z (qg p1P [0,1]) q3 xs3/\zdX Z O [stI 0 1 0]/\zdX Z D [ldI 0 0 0]/\Bw w Z,?_,?_⟩
 ·obtain⟨S,hS⟩:=nm (X);have dXS:Bw X S:=by rw [hS];exact Gb _ _
  have hbS:Bw w S:=by rw [hS];exact hbX
  rw [<- hS];obtain⟨W1,hW1⟩:=nm (S.alloc (.cells #[.slice (some ⟨O,0,none⟩) 1 1,.slice (some ⟨O,0,none⟩) 1 1,.slice (some ⟨D,0,none⟩) 1 1] 42));have b1:Bw S W1:=by rw [hW1];exact (zba _ _)
  refine⟨⟨by decide,by decide,rfl⟩,[.slice (some ⟨O,0,none⟩) 1 1,.slice (some ⟨O,0,none⟩) 1 1,.slice (some ⟨D,0,none⟩) 1 1],rfl,?_⟩;have hW1b:S.alloc (.cells [.slice (some ⟨O,0,none⟩) 1 1,.slice (some ⟨O,0,none⟩) 1 1,.slice (some ⟨D,0,none⟩) 1 1].toArray 42)=W1:=hW1.symm;rw [hW1b];have hT:ThrsW W1.heap.size W1 (some ⟨S.heap.size,0,none⟩) [[stI 0 1 0],[stI 0 1 0],[ldI 0 0 0]]:=znC [([stI 0 1 0],O),([stI 0 1 0],O),([ldI 0 0 0],D)] (fun p hp=>by
   simp only [UC,Qw,Gl] at hp;rcases hp with rfl | rfl | rfl
   ·exact zc dXS fO
   ·exact zc dXS fO
   ·exact zc dXS fD) hW1
  have h9:=zef (ct:=3) hT (by decide) (fun l hl=>by
   simp only [UC,Qw,Gl] at hl;rcases hl with rfl | rfl | rfl <;> decide)
  refine cmo h9 ?_;rintro e U ⟨⟨vs,rfl,hP⟩,hbU⟩;have b2:=zst b1 hbU;have bU:=zst hbS b2;refine cmo (zeH (UW _) hP (hG.below bU) (by decide) zsw) ?_;rintro e V ⟨⟨xs,qq,cc,rfl,h1,h2,h3⟩,hbV⟩;have bXV:=dXS.trans (((zst b2 hbV)).mono dXS.size);exact⟨(qq,xs,cc),(cvE rfl rfl),⟨h1,h2.row,fun x hx=>(h3 x hx).row⟩,cb3.below (bXV),zc (bXV) fO,zc (bXV) fD,(zst hbX bXV)⟩
 clear cb3 fO fD hbX;clear X;rintro⟨q5,xs5,c5⟩ X ⟨cb5,cb3,fO,fD,hbX⟩;dsimp only at cb5 ⊢;refine⟨OA×List zcD×Nat,fun s=>⟨[(1,.slice (some ⟨O,0,none⟩) 1 1),(2,.slice (some ⟨D,0,none⟩) 1 1),(3,.slice q3 xs3.length c3),(4,i64 0),(5,.slice q5 xs5.length c5),(6,i64 0),(7,.slice s.1 s.2.1.length s.2.2),(8,i64 0)],[]⟩,fun s Z=>CanB Z (qg p3P [0,1]) s.1 s.2.1/\CanB Z (qg p2P [0,1]) q5 xs5/\CanB Z (qg p1P [0,1]) q3 xs3/\zdX Z O [stI 0 1 0]/\zdX Z D [ldI 0 0 0]/\Bw w Z,?_,?_⟩
 ·obtain⟨S0,hS0⟩:=nm (X.drew);have d0:Bw X S0:=by rw [hS0];exact (Gb _ _).drew
  refine DrawE.ord [] [0,1,2,3,4,5,6,7,8,9,10,11,12,13,14] (by kernel_rfl) ?_;rw [<- hS0];have gO:=zc d0 fO;have gD:=zc d0 fD;refine⟨0,rfl,by decide,?_⟩;refine⟨zG.enc (ldI 0 0 0),rfl,za gD,hlt gD,0,rfl,by decide,?_⟩;refine⟨zG.enc (stI 0 1 0),rfl,za gO,hlt gO,?_⟩;obtain⟨S,hS⟩:=nm (S0.alloc (.cells (zG.enc (ldI 0 0 0)++zG.enc (stI 0 1 0)).toArray 41));have d1:Bw S0 S:=by rw [hS];exact (zba _ _)
  refine⟨⟨by decide,by decide,rfl⟩,zG.enc (ldI 0 0 0)++zG.enc (stI 0 1 0),rfl,?_⟩;have hSb:S0.alloc (.cells (zG.enc (ldI 0 0 0)++zG.enc (stI 0 1 0)).toArray 41)=S:=hS.symm;rw [hSb];refine⟨d1,?_⟩;have fN:zdX S S0.heap.size [ldI 0 0 0,stI 0 1 0]:=by rw [hS];exact zz S0 _
  have dXS:Bw X S:=zst d0 d1;have hbS:Bw w S:=zst hbX dXS;obtain⟨W1,hW1⟩:=nm (S.alloc (.cells #[.slice (some ⟨S0.heap.size,0,none⟩) 2 2] 42));have b1:Bw S W1:=by rw [hW1];exact (zba _ _)
  refine⟨⟨by decide,by decide,rfl⟩,[.slice (some ⟨S0.heap.size,0,none⟩) 2 2],rfl,?_⟩;have hW1b:S.alloc (.cells [.slice (some ⟨S0.heap.size,0,none⟩) 2 2].toArray 42)=W1:=hW1.symm;rw [hW1b];refine⟨b1,?_⟩;have hT:ThrsW W1.heap.size W1 (some ⟨S.heap.size,0,none⟩) [[ldI 0 0 0,stI 0 1 0]]:=znC [([ldI 0 0 0,stI 0 1 0],S0.heap.size)] (fun p hp=>by
   simp only [UC,Qw,Gl] at hp;rcases hp with rfl
   ·exact fN) hW1
  have h9:=zef (ct:=1) hT (by decide) (fun l hl=>by
   simp only [UC,Qw,Gl] at hl;rcases hl with rfl <;> decide)
  refine cmo h9 ?_;rintro e U ⟨⟨vs,rfl,hP⟩,hbU⟩;refine⟨hbU,?_⟩;have b2:=zst b1 hbU;have bU:=zst hbS b2;refine cmo (zeH (UW _) hP (hG.below bU) (by decide) zsV) ?_;rintro e V ⟨⟨xs,qq,cc,rfl,h1,h2,h3⟩,hbV⟩;refine⟨hbV,?_⟩;have bXV:=dXS.trans (((zst b2 hbV)).mono dXS.size);exact⟨(qq,xs,cc),(cvE rfl rfl),⟨h1,h2.row,fun x hx=>(h3 x hx).row⟩,cb5.below (bXV),cb3.below (bXV),zc (bXV) fO,zc (bXV) fD,(zst hbX bXV)⟩
 clear cb5 cb3 fO fD hbX;clear X;rintro⟨q7,xs7,c7⟩ X ⟨cb7,cb5,cb3,fO,fD,hbX⟩;dsimp only at cb7 ⊢;refine⟨OA×List zcD×Nat,fun s=>⟨[(1,.slice (some ⟨O,0,none⟩) 1 1),(2,.slice (some ⟨D,0,none⟩) 1 1),(3,.slice q3 xs3.length c3),(4,i64 0),(5,.slice q5 xs5.length c5),(6,i64 0),(7,.slice q7 xs7.length c7),(8,i64 0),(9,.slice s.1 s.2.1.length s.2.2),(10,i64 0)],[]⟩,fun s Z=>CanB Z (qg p4P [0]) s.1 s.2.1/\CanB Z (qg p3P [0,1]) q7 xs7/\CanB Z (qg p2P [0,1]) q5 xs5/\CanB Z (qg p1P [0,1]) q3 xs3/\zdX Z O [stI 0 1 0]/\zdX Z D [ldI 0 0 0]/\Bw w Z,?_,?_⟩
 ·obtain⟨S,hS⟩:=nm (X);have fN0:=zz X (.cells (zG.enc feI).toArray 41);clear hS;clear S;obtain⟨S,hS⟩:=nm (X.alloc (.cells (zG.enc feI).toArray 41));refine⟨zG.enc feI,by kernel_rfl,?_⟩;refine⟨⟨by decide,by decide,rfl⟩,zG.enc feI,rfl,?_⟩;have hSb:X.alloc (.cells (zG.enc feI).toArray 41)=S:=hS.symm;rw [hSb];have fN:zdX S X.heap.size [feI]:=by rw [hS];exact fN0
  have dXS:Bw X S:=by rw [hS];exact (zba _ _)
  have hbS:Bw w S:=zst hbX dXS;obtain⟨W1,hW1⟩:=nm (S.alloc (.cells #[.slice (some ⟨X.heap.size,0,none⟩) 1 1] 42));have b1:Bw S W1:=by rw [hW1];exact (zba _ _)
  refine⟨⟨by decide,by decide,rfl⟩,[.slice (some ⟨X.heap.size,0,none⟩) 1 1],rfl,?_⟩;have hW1b:S.alloc (.cells [.slice (some ⟨X.heap.size,0,none⟩) 1 1].toArray 42)=W1:=hW1.symm;rw [hW1b];have hT:ThrsW W1.heap.size W1 (some ⟨S.heap.size,0,none⟩) [[feI]]:=znC [([feI],X.heap.size)] (fun p hp=>by
   simp only [UC,Qw,Gl] at hp;rcases hp with rfl
   ·exact fN) hW1
  have h9:=zef (ct:=1) hT (by decide) (fun l hl=>by
   simp only [UC,Qw,Gl] at hl;rcases hl with rfl <;> decide)
  refine cmo h9 ?_;rintro e U ⟨⟨vs,rfl,hP⟩,hbU⟩;have b2:=zst b1 hbU;have bU:=zst hbS b2;refine cmo (zeH (UW _) hP (hG.below bU) (by decide) zsU) ?_;rintro e V ⟨⟨xs,qq,cc,rfl,h1,h2,h3⟩,hbV⟩;have bXV:=dXS.trans (((zst b2 hbV)).mono dXS.size);exact⟨(qq,xs,cc),(cvE rfl rfl),⟨h1,h2.row,fun x hx=>(h3 x hx).row⟩,cb7.below (bXV),cb5.below (bXV),cb3.below (bXV),zc (bXV) fO,zc (bXV) fD,(zst hbX bXV)⟩
 clear cb7 cb5 cb3 fO fD hbX;clear X;rintro⟨q9,xs9,c9⟩ X ⟨cb9,cb7,cb5,cb3,fO,fD,hbX⟩;dsimp only at cb9 ⊢;refine⟨Unit,fun _=>⟨[(1,.slice (some ⟨O,0,none⟩) 1 1),(2,.slice (some ⟨D,0,none⟩) 1 1),(3,.slice q3 xs3.length c3),(4,i64 0),(5,.slice q5 xs5.length c5),(6,i64 0),(7,.slice q7 xs7.length c7),(8,i64 0),(9,.slice q9 xs9.length c9),(10,i64 0),(12,i64 5)],[]⟩,fun _ Z=>CanB Z (qg p4P [0]) q9 xs9/\CanB Z (qg p3P [0,1]) q7 xs7/\CanB Z (qg p2P [0,1]) q5 xs5/\CanB Z (qg p1P [0,1]) q3 xs3/\zdX Z O [stI 0 1 0]/\zdX Z D [ldI 0 0 0]/\Bw w Z,?_,?_⟩
 ·obtain⟨S,hS⟩:=nm (X);have dXS:Bw X S:=by rw [hS];exact Gb _ _
  have hbS:Bw w S:=by rw [hS];exact hbX
  rw [<- hS];obtain⟨W1,hW1⟩:=nm (S.alloc (.cells #[.slice (some ⟨O,0,none⟩) 1 1,.slice (some ⟨O,0,none⟩) 1 1,.slice (some ⟨D,0,none⟩) 1 1] 42));have b1:Bw S W1:=by rw [hW1];exact (zba _ _)
  refine⟨⟨by decide,by decide,rfl⟩,[.slice (some ⟨O,0,none⟩) 1 1,.slice (some ⟨O,0,none⟩) 1 1,.slice (some ⟨D,0,none⟩) 1 1],rfl,?_⟩;have hW1b:S.alloc (.cells [.slice (some ⟨O,0,none⟩) 1 1,.slice (some ⟨O,0,none⟩) 1 1,.slice (some ⟨D,0,none⟩) 1 1].toArray 42)=W1:=hW1.symm;rw [hW1b];have hT:ThrsW W1.heap.size W1 (some ⟨S.heap.size,0,none⟩) [[stI 0 1 0],[stI 0 1 0],[ldI 0 0 0]]:=znC [([stI 0 1 0],O),([stI 0 1 0],O),([ldI 0 0 0],D)] (fun p hp=>by
   simp only [UC,Qw,Gl] at hp;rcases hp with rfl | rfl | rfl
   ·exact zc dXS fO
   ·exact zc dXS fO
   ·exact zc dXS fD) hW1
  have h9:=zef (ct:=3) hT (by decide) (fun l hl=>by
   simp only [UC,Qw,Gl] at hl;rcases hl with rfl | rfl | rfl <;> decide)
  refine cmo h9 ?_;rintro e U ⟨⟨vs,rfl,hP⟩,hbU⟩;have b2:=zst b1 hbU;have bU:=zst hbS b2;refine cmo (zpt (UW _) hP (hG.below bU) (by decide) zsw zpI) ?_;rintro e V ⟨rfl,hbV⟩;have bXV:=dXS.trans (((zst b2 hbV)).mono dXS.size);exact⟨(),(cvE rfl rfl),cb9.below (bXV),cb7.below (bXV),cb5.below (bXV),cb3.below (bXV),zc (bXV) fO,zc (bXV) fD,(zst hbX bXV)⟩
 clear cb9 cb7 cb5 cb3 fO fD hbX;clear X;rintro _ X ⟨cb9,cb7,cb5,cb3,fO,fD,hbX⟩;have l3:xs3.length=2:=cb3.len.trans zrs;have l5:xs5.length=6:=cb5.len.trans zrr;have l7:xs7.length=2:=cb7.len.trans zrq;have l9:xs9.length=1:=cb9.len.trans zrp;refine⟨Unit,fun _=>⟨[(3,.slice q3 xs3.length c3)],[]⟩,fun _ Z=>X=Z,?_,?_⟩
 ·exact⟨0,rfl,0,rfl,0,rfl,brN (by decide) (brN (by decide) (brN (by rw [l3];rfl) (brN (by rw [l5];rfl) (brN (by rw [l7];rfl) (brN (by rw [l9];rfl) ⟨(),(cvE rfl rfl),rfl⟩)))))⟩
 rintro _ _ rfl;clear cb5 cb7 cb9 fO fD l5 l7 l9;have hxs:∀ i,i<2->∃ x,xs3[i]?=some x/\x.1=(qg p1P [0,1]).getD i (ex0 0):=fun i hi=>by
  have hl:i<xs3.length:=by omega
  refine⟨xs3[i],gE hl,?_⟩;rw [<- cb3.e,gDe,KV,gE hl];rfl
 obtain⟨x,hx0,hx1⟩:=hxs 0 (by decide);obtain⟨y,hy0,hy1⟩:=hxs 1 (by decide);obtain⟨bq,oq,hqq,hbq,hat⟩:=cb3.r.at (by omega:0<xs3.length);have hgx:xs3[0]'(by omega)=x:=Uf ((gE (by omega)).symm.trans hx0);have hgy:xs3[1]'(by omega)=y:=Uf ((gE (by omega)).symm.trans hy0);have atx:zu X ⟨bq,oq+0*333,none⟩ (exC x.1 x.2.1 x.2.2):=by have:=hat 0 (by omega);rw [hgx] at this;exact this
 have aty:zu X ⟨bq,oq+1*333,none⟩ (exC y.1 y.2.1 y.2.2):=by have:=hat 1 (by omega);rw [hgy] at this;exact this
 have vx:=cb3.v x (by rw [<- hgx];exact gM _);have vy:=cb3.v y (by rw [<- hgy];exact gM _);subst hqq;clear hat hgx hgy hx0 hy0 hxs;refine⟨Nat×Nat,fun s=>⟨[(13,At0 s.1),(14,At0 s.2)],[]⟩,fun s Z=>ExH Z s.1 x.1 x.2.1 x.2.2/\ExH Z s.2 y.1 y.2.1 y.2.2/\Bw X Z,?_,?_⟩
 ·have b0:Bw X X.drew:=(Gb _ _).drew;have y0:=b0.size;refine DrawE.treeQ [8,9] (.op 0 (.op 1 (.op 2 (.op 3 (.op 4 (.alt (.op 6 (.alt (.op 7 (.alt (.op 8 (.op 5 (.op 9 (.nil)))) (.op 5 (.op 8 (.op 9 (.nil)))))) (.op 5 (.op 7 (.op 8 (.op 9 (.nil))))))) (.alt (.op 7 (.alt (.op 6 (.alt (.op 8 (.op 5 (.op 9 (.nil)))) (.op 5 (.op 8 (.op 9 (.nil)))))) (.op 5 (.op 6 (.op 8 (.op 9 (.nil))))))) (.op 5 (.alt (.op 6 (.op 7 (.op 8 (.op 9 (.nil))))) (.op 7 (.op 6 (.op 8 (.op 9 (.nil)))))))))))))) (by kernel_rfl) ⟨0,rfl,by omega,?_⟩;refine⟨exC x.1 x.2.1 x.2.2,zH _ _ _,zm b0 atx,nL hbq b0.size,1,rfl,by omega,?_⟩;refine Gg ?_ (Gg ?_ ?_)
  ·refine⟨(zba _ _),?_⟩;have b1:=b0.alloc b0.size zEx;have z1:=wz X.drew zEx;refine Gg ?_ ?_
   ·refine⟨(zba _ _),?_⟩;have b2:=b1.alloc b1.size zEx;have z2:=wz (X.drew.alloc zEx) zEx;refine Gg ?_ ?_
    ·exact j7 (P:=X.drew.heap.size) (Q:=(X.drew.alloc zEx).heap.size) b2 (qF zEx (zz X.drew zEx)) z4 (zz (X.drew.alloc zEx) zEx) (by omega) (by omega) fun V3 p3 q3 b3=>⟨exC y.1 y.2.1 y.2.2,zH _ _ _,zm b3 aty,nL hbq b3.size,j7 (P:=(X.drew.alloc zEx).heap.size) (Q:=X.drew.heap.size) b3 (q3) z4 (p3) (by omega) (by omega) fun V5 p5 q5 b5=>⟨(X.drew.heap.size,(X.drew.alloc zEx).heap.size),(cvE rfl rfl),q5,p5,b5⟩⟩
    ·exact⟨exC y.1 y.2.1 y.2.2,zH _ _ _,zm b2 aty,nL hbq b2.size,j7 (P:=X.drew.heap.size) (Q:=(X.drew.alloc zEx).heap.size) b2 (qF zEx (zz X.drew zEx)) z4 (zz (X.drew.alloc zEx) zEx) (by omega) (by omega) fun V7 p7 q7 b7=>j7 (P:=(X.drew.alloc zEx).heap.size) (Q:=X.drew.heap.size) b7 (q7) z4 (p7) (by omega) (by omega) fun V8 p8 q8 b8=>⟨(X.drew.heap.size,(X.drew.alloc zEx).heap.size),(cvE rfl rfl),q8,p8,b8⟩⟩
   ·refine⟨exC y.1 y.2.1 y.2.2,zH _ _ _,zm b1 aty,nL hbq b1.size,(zba _ _),?_⟩;have b10:=b1.alloc b1.size zEx;have z10:=wz (X.drew.alloc zEx) zEx;exact j7 (P:=X.drew.heap.size) (Q:=(X.drew.alloc zEx).heap.size) b10 (qF zEx (zz X.drew zEx)) z4 (zz (X.drew.alloc zEx) zEx) (by omega) (by omega) fun V11 p11 q11 b11=>j7 (P:=(X.drew.alloc zEx).heap.size) (Q:=X.drew.heap.size) b11 (q11) z4 (p11) (by omega) (by omega) fun V12 p12 q12 b12=>⟨(X.drew.heap.size,(X.drew.alloc zEx).heap.size),(cvE rfl rfl),q12,p12,b12⟩
  ·refine⟨(zba _ _),?_⟩;have b13:=b0.alloc b0.size zEx;have z13:=wz X.drew zEx;refine Gg ?_ ?_
   ·refine⟨(zba _ _),?_⟩;have b14:=b13.alloc b13.size zEx;have z14:=wz (X.drew.alloc zEx) zEx;refine Gg ?_ ?_
    ·exact j7 (P:=(X.drew.alloc zEx).heap.size) (Q:=X.drew.heap.size) b14 (zz (X.drew.alloc zEx) zEx) z4 (qF zEx (zz X.drew zEx)) (by omega) (by omega) fun V15 p15 q15 b15=>⟨exC y.1 y.2.1 y.2.2,zH _ _ _,zm b15 aty,nL hbq b15.size,j7 (P:=X.drew.heap.size) (Q:=(X.drew.alloc zEx).heap.size) b15 (q15) z4 (p15) (by omega) (by omega) fun V17 p17 q17 b17=>⟨((X.drew.alloc zEx).heap.size,X.drew.heap.size),(cvE rfl rfl),q17,p17,b17⟩⟩
    ·exact⟨exC y.1 y.2.1 y.2.2,zH _ _ _,zm b14 aty,nL hbq b14.size,j7 (P:=(X.drew.alloc zEx).heap.size) (Q:=X.drew.heap.size) b14 (zz (X.drew.alloc zEx) zEx) z4 (qF zEx (zz X.drew zEx)) (by omega) (by omega) fun V19 p19 q19 b19=>j7 (P:=X.drew.heap.size) (Q:=(X.drew.alloc zEx).heap.size) b19 (q19) z4 (p19) (by omega) (by omega) fun V20 p20 q20 b20=>⟨((X.drew.alloc zEx).heap.size,X.drew.heap.size),(cvE rfl rfl),q20,p20,b20⟩⟩
   ·refine⟨exC y.1 y.2.1 y.2.2,zH _ _ _,zm b13 aty,nL hbq b13.size,(zba _ _),?_⟩;have b22:=b13.alloc b13.size zEx;have z22:=wz (X.drew.alloc zEx) zEx;exact j7 (P:=(X.drew.alloc zEx).heap.size) (Q:=X.drew.heap.size) b22 (zz (X.drew.alloc zEx) zEx) z4 (qF zEx (zz X.drew zEx)) (by omega) (by omega) fun V23 p23 q23 b23=>j7 (P:=X.drew.heap.size) (Q:=(X.drew.alloc zEx).heap.size) b23 (q23) z4 (p23) (by omega) (by omega) fun V24 p24 q24 b24=>⟨((X.drew.alloc zEx).heap.size,X.drew.heap.size),(cvE rfl rfl),q24,p24,b24⟩
  ·refine⟨exC y.1 y.2.1 y.2.2,zH _ _ _,zm b0 aty,nL hbq b0.size,Gg ?_ ?_⟩
   ·refine⟨(zba _ _),?_⟩;have b26:=b0.alloc b0.size zEx;have z26:=wz X.drew zEx;refine⟨(zba _ _),?_⟩;have b27:=b26.alloc b26.size zEx;have z27:=wz (X.drew.alloc zEx) zEx;exact j7 (P:=X.drew.heap.size) (Q:=(X.drew.alloc zEx).heap.size) b27 (qF zEx (zz X.drew zEx)) z4 (zz (X.drew.alloc zEx) zEx) (by omega) (by omega) fun V28 p28 q28 b28=>j7 (P:=(X.drew.alloc zEx).heap.size) (Q:=X.drew.heap.size) b28 (q28) z4 (p28) (by omega) (by omega) fun V29 p29 q29 b29=>⟨(X.drew.heap.size,(X.drew.alloc zEx).heap.size),(cvE rfl rfl),q29,p29,b29⟩
   ·refine⟨(zba _ _),?_⟩;have b30:=b0.alloc b0.size zEx;have z30:=wz X.drew zEx;refine⟨(zba _ _),?_⟩;have b31:=b30.alloc b30.size zEx;have z31:=wz (X.drew.alloc zEx) zEx;exact j7 (P:=(X.drew.alloc zEx).heap.size) (Q:=X.drew.heap.size) b31 (zz (X.drew.alloc zEx) zEx) z4 (qF zEx (zz X.drew zEx)) (by omega) (by omega) fun V32 p32 q32 b32=>j7 (P:=X.drew.heap.size) (Q:=(X.drew.alloc zEx).heap.size) b32 (q32) z4 (p32) (by omega) (by omega) fun V33 p33 q33 b33=>⟨((X.drew.alloc zEx).heap.size,X.drew.heap.size),(cvE rfl rfl),q33,p33,b33⟩
 rintro⟨P,Q⟩ Y ⟨fX,fY,hbY⟩;dsimp only at fX fY ⊢;replace vx:=vx.below hbY;replace vy:=vy.below hbY;replace hbX:=zst hbX hbY;clear hbY atx aty cb3 l3 hbq;clear X;obtain⟨x,qx,cx⟩:=x;obtain⟨y,qy,cy⟩:=y;dsimp only at hx1 hy1 vx vy fX fY;have hsay:=zsd;have e1:xA=x:=hx1.symm;have e2:yA=y:=hy1.symm;rw [e1,e2] at hsay;clear hx1 hy1 e1 e2;simp only [bAT,dE,KK] at hsay;obtain⟨s1,s2,s3,s4,s5,s6,s7,s8,s9,s10,s11,s12,s13⟩:=hsay
 rename Wd=>X
 have hvx:=zp7 s12 vx;have sxx:=zmA x;obtain⟨bx,ox,hqx,hbx,hatx⟩:=zfO vx (by omega);obtain⟨by_,oy,hqy,hby,haty⟩:=zfO vy (by omega);have atx:=hatx 2 (by omega);have aty:=haty 2 (by omega);subst hqx hqy;have hbL:Bw X X:=Gb _ _;refine⟨_,zbf (za fX),brE (Us (by rw [s1];rfl)) ⟨_,zbf (za fX),2,rfl,by omega,?_⟩⟩;refine⟨u8 (evA x 2).v,by have:=zb atx (i:=3) (v:=u8 (evA x 2).v) rfl;exact this,brE (Us (by rw [s3];rfl)) ⟨_,zbf (za fY),2,rfl,by omega,?_⟩⟩;refine⟨u8 (evA y 2).v,by have:=zb aty (i:=3) (v:=u8 (evA y 2).v) rfl;exact this,brE (Us (by rw [s4];rfl)) ⟨0,rfl,by decide,?_⟩⟩;refine⟨s64 (x.rf.to 0),znR fX (by decide),brE (Us (by rw [s5];rfl)) ⟨1,rfl,by decide,?_⟩⟩;refine⟨s64 (y.rf.to 1),znR fY (by decide),brE (Us (by rw [s6];rfl)) ⟨0,rfl,by decide,?_⟩⟩;refine⟨s64 (x.co.to 0),zrd fX (by decide),brE (Us (by rw [s7];rfl)) ⟨_,zk _,zpD fY,hlt fY,_,zk _,zpD fX,hlt fX,_,fun w=>zbh _ _ _ _ w,brE (s8) ⟨0,rfl,by decide,?_⟩⟩⟩;refine⟨u8 (x.mem 0),zqb (za fX) (by decide),brE (Us (by rw [s9];rfl)) ⟨1,rfl,by decide,?_⟩⟩;refine⟨0,rfl,by decide,?_⟩;refine⟨u8 (y.regs 8),zqa (za fY) (i:=1) (j:=0) (by decide),brE (Us (by rw [s10];rfl)) ⟨_,zH _ _ _,za fX,hlt fX,cmo (zpi (hvx.below hbL) (hG.t64.below hbX)) ?_⟩⟩;rintro e U ⟨rfl,hbU⟩;have fX:=zc hbU fX;have fY:=zc hbU fY;replace hbX:=zst hbX hbU;replace hbL:=zst hbL hbU;refine brE (s11) ⟨_,zH _ _ _,za fX,hlt fX,_,zH _ _ _,za fX,hlt fX,cmo (zml (vx.below hbL) (vx.below hbL) (by omega)) ?_⟩;rintro e U ⟨rfl,hbU⟩;have fX:=zc hbU fX;have fY:=zc hbU fY;replace hbX:=zst hbX hbU;replace hbL:=zst hbL hbU;refine brE (sxx) ⟨_,zH _ _ _,za fX,hlt fX,_,zH _ _ _,za fY,hlt fY,cmo (zml (vx.below hbL) (vy.below hbL) (by omega)) ?_⟩;rintro e U ⟨rfl,hbU⟩;have fX:=zc hbU fX;have fY:=zc hbU fY;replace hbX:=zst hbX hbU;replace hbL:=zst hbL hbU;exact⟨rb (by rw [s13];rfl),hbX⟩
end Go.Proofs.YtpalcnbhkigagaaGreatDoor
