/- Contracts of functions, and plain facts, for the law that the last text of this claim proves. -/
import Derived.Test.YtpalcnbhkigagaaGreatDoorA6
import Derived.Test.YtpalcnbhkigagaaGreatDoorA1
import Derived.Test.YtpalcnbhkigagaaGreatDoorRows
import Derived.ProofKit
import Derived.OpenShut
import Derived.LaidLaws
import Derived.Below
import Derived.HandedShaped
import Derived.KernelRfl
import Derived.WalkKit
import Derived.ChangeOld
import Derived.SevenTiedAt
import Derived.LaidHandle
import Derived.Stop.LaidErr
import Derived.Lib.LaidTab
import Derived.SizedLaws
import Derived.Test.YtpalcnbhkigagaaGreatDoorA2
import Derived.Test.YtpalcnbhkigagaaGreatDoorA3
import Derived.Test.YtpalcnbhkigagaaGreatDoorA4
import Derived.Test.YtpalcnbhkigagaaGreatDoorA5
set_option linter.unusedSimpArgs false
set_option linter.unusedVariables false
namespace Go.Proofs.YtpalcnbhkigagaaGreatDoor
open Go.Vc Go.RowKit Go.Sei
theorem zoK {a b:Nat} (ha:a<2^64) (hb:b<2^64):IntKind.u64.wrap ((BitVec.ofInt IntKind.u64.bits (a:Int) ^^^ BitVec.ofInt IntKind.u64.bits (b:Int)).toNat:Int)=((a ^^^ b:Nat):Int):=by
 show IntKind.u64.wrap ((BitVec.ofInt 64 (a:Int) ^^^ BitVec.ofInt 64 (b:Int)).toNat:Int)=_;rw [BitVec.toNat_xor,bvN ha,bvN hb];have:=Nat.xor_lt_two_pow ha hb;exact w64 (by omega)
section
variable {x:ExD} {q:OA} {c:Nat}
theorem zhv {l:List Ev} (h:l.length=x.ev.length):exC { x with ev:=l } q c=exC x q c:=by
 unfold exC;show (Value.slice q l.length c::_)=_;rw [h]
theorem znZ (v:UInt8):(exC x q c).set (0+295+32+0*1) (u8 v)=exC { x with mem:=upd x.mem 0 v } q c:=by
 obtain⟨A,Z,hA,hE⟩:=zkv x q c [];have h1:=hE x.mem;have h2:=hE (upd x.mem 0 v);rw [QL] at h1 h2;rw [h2];show (exC { x with mem:=x.mem } q c).set _ _=_;rw [h1,show 0+295+32+0*1=327+0 from rfl,qc hA];rfl
theorem RelAt.setN {X:Wd} {b o:Nat} {T:TypeId} {A Z:List Value} {r:RelD} (h:RelAt X b o T A Z r) (v:Int):(A++(zj r++Z)).set (o+0) (i64 v)=A++(zj ⟨v,r.to⟩++Z):=by
 rw [qc h.at_];rfl
theorem zql {a:Nat} (ha:a<2^64):IntKind.u64.wrap ((BitVec.ofInt IntKind.u64.bits (a:Int)|||BitVec.ofInt IntKind.u64.bits (1:Int)).toNat:Int)=((a|||1:Nat):Int):=zaj (b:=1) ha (by decide)
end
section
variable {B:Nat} {w:Wd} {pc:List Value} {p:Prg}
set_option maxRecDepth 20000
theorem zis {wh:Nat} {way at_:UInt8} (hP:PrgX w.heap.size w pc p) (hh:wh<65536) (hG:GlobE w) :
  CB 4 #[.agg pc.toArray,.int .u16 (wh:Nat),u8 way,u8 at_] w (.bool true):=by
 refine qV 163 [.agg pc.toArray,.int .u16 (wh:Nat),u8 way,u8 at_] (.c .p (.c .p (.c .p (.s .p (.s .p (.s .p (.c .p (.c .p .p)))))))) Tryz.func4 ?_;obtain⟨L,hL⟩:=nm (w.heap.size);have hpc:=hP.v.size;refine⟨Unit,fun _=>⟨[(1,.int .u16 (wh:Nat)),(2,u8 way),(3,u8 at_),(4,At0 L)],[]⟩,fun _ X=>X.heap[L]?=some (.cells pc.toArray 29 (0,0))/\Bw w X,⟨(),⟨.cons rfl (.cons rfl (.cons rfl (.cons (by rw [hL];rfl) .nil))),rfl⟩,by rw [hL];exact zy w _,(zba w _)⟩,?_⟩;rintro _ X ⟨f0,hbX⟩;refine⟨Bool×List zct×OA×Nat,fun s=>⟨[(1,.int .u16 (wh:Nat)),(2,u8 way),(3,u8 at_),(9,.slice s.2.2.1 s.2.1.length s.2.2.2),(10,.bool s.1)],[]⟩,fun s Y=>(s.1=true->∃ V,zbX p=true/\zcn p V 300/\s.2.1.map (·.1)=qa p V/\OwnS exE 55 w.heap.size Y s.2.2.1 s.2.2.2 s.2.1/\∀ x∈s.2.1,OwnS evE 60 w.heap.size Y x.2.1 x.2.2 x.1.ev)/\Bw w Y,?_,?_⟩
 ·refine⟨pc,hpc,za f0,hlt f0,cmo (zrh hbX.size (hP.below hbX) (hG.below hbX)) ?_⟩;rintro e Y ⟨hcase,hbY⟩;have hwY:=zst hbX hbY;obtain⟨V,hok,hco,xs,q,c,rfl,hxs,oX,oE⟩ | rfl:=hcase
  ·exact⟨(true,xs,q,c),(cvE rfl rfl),fun _=>⟨V,hok,hco,hxs,oX.lower hbX.size,fun x hx=>(oE x hx).lower hbX.size⟩,hwY⟩
  ·exact⟨(false,[],none,0),(cvE rfl rfl),(fun h=>by cases h),hwY⟩
 clear f0 hbX;clear X;rintro⟨ok,xs,q,c⟩ Y ⟨hcase,hwY⟩;dsimp only at hcase ⊢;refine⟨Unit,fun _=>⟨[(1,.int .u16 (wh:Nat)),(2,u8 way),(3,u8 at_),(9,.slice q xs.length c)],[]⟩,fun _ Y=>0<xs.length/\(∃ V,zbX p=true/\zcn p V 300/\xs.map (·.1)=qa p V/\OwnS exE 55 w.heap.size Y q c xs/\∀ x∈xs,OwnS evE 60 w.heap.size Y x.2.1 x.2.2 x.1.ev)/\Bw w Y,?_,?_⟩
 ·have aw:Calls PG 10 #[] Y fun e w'=>e = .returned (.bool true)/\Bw w w':=cmo (zqf (hG.below hwY)) fun e U h=>⟨h.1,hwY.trans (h.2.mono hwY.size)⟩
  cases ok with
  | false =>
   refine Gg (fun h=>brT (cmo aw ?_)) (fun h=>by cases h);rintro e U ⟨rfl,hbU⟩;exact⟨rfl,hbU⟩
  | true =>
   refine Gg (fun h=>by cases h) (fun h=>biE (fun h=>?_) fun h=>?_)
   ·refine cmo aw ?_;rintro e U ⟨rfl,hbU⟩;exact⟨rfl,hbU⟩
   ·have h0:¬ ((xs.length:Int)=0):=dF h;exact⟨(),(cvE rfl rfl),(by omega),hcase rfl,hwY⟩
 clear hcase hwY;clear Y;rintro _ Y ⟨hn0,⟨V,hok,hco,hxs,oX,oE⟩,hwY⟩;have h0:¬ ((xs.length:Int)=0):=by omega
 refine⟨(wh:Int),ze (by omega),h0,((wh%xs.length:Nat):Int),(Int.ofNat_tmod _ _).symm,?_⟩;obtain⟨k,hk⟩:=nm (wh%xs.length);have hkl:k<xs.length:=by rw [hk];exact Gf _ hn0
 rw [<- hk];obtain⟨b,o,rfl,hlb,hat⟩:=oX.row.at hkl;refine⟨k,rfl,hkl,?_⟩;obtain⟨x,hx⟩:∃ x,xs[k]=x:=⟨_,rfl⟩;have hat:=hat k hkl;rw [hx] at hat;refine⟨exC x.1 x.2.1 x.2.2,zB _ _ _,hat,hlb,zm (X:=Y) (v := .agg (exC x.1 x.2.1 x.2.2).toArray) k55 (zB _ _ _) zX (zaZ _ _ _) fun Z hbZ fZ sZ=>?_⟩;have fZ:Z.heap[Y.heap.size]?=some (.cells (exC x.1 x.2.1 x.2.2).toArray 55 (0,0)):=fZ;have hQw:w.heap.size<=Y.heap.size:=hwY.size;have hwZ:=zst hwY hbZ;have hxm:x∈xs:=by rw [<- hx];exact gM hkl
 have hev:=(oE x hxm).row.below hbZ;have hxc:x.1∈qa p V:=by rw [<- hxs];exact Kn hxm
 have hgood:=zkH (zcX hok) hco (by decide) hxc;obtain⟨hx48,hk1,hkn⟩:x.1.ev.length<=48/\1<=p.init.length/\p.init.length<=x.1.ev.length:=⟨hgood.n,hgood.k1,hgood.kn⟩;refine⟨⟨by decide,by decide,rfl⟩,[],rfl,?_⟩;have hb0:Bw Z (Z.alloc (.cells #[] 60)):=zba Z _;have fQ0:=zc hb0 fZ;refine⟨.slice x.2.1 x.1.ev.length x.2.2,zb (za fQ0) (i:=0) rfl,?_⟩;have evB:=hev.below hb0;have hq1:x.2.1=none->x.2.2=0:=fun h=>by
  rw [h] at hev;have:=Gj List.length hev.none;simp only [QQ] at this;omega
 have hsz:w.heap.size<=(Z.alloc (.cells #[] 60)).heap.size:=UN hwZ.size hb0.size;refine zeh (E:=evE) (T:=60) (B:=w.heap.size) (l:=[]) (news:=x.1.ev) (cap:=0) Tryz.underlying43 k60 rfl rfl rfl (zbV.lower hwZ.size) rfl evB hq1 hsz (by simp;omega) (by show (0+x.1.ev.length)*16<=_;omega) ?_;intro q1 c1 U oU gU hbU;rw [QV] at oU;have fQU:=z6 fQ0 (zbV (E:=evE) (T:=60) (w:=Z)) (by decide) gU;have hxl:0+0<(exC x.1 x.2.1 x.2.2).length:=by rw [zB];omega
 have hxl:0+0<(exC x.1 x.2.1 x.2.2).length:=by rw [zB];omega
 refine zi (cs:=exC x.1 x.2.1 x.2.2) k43 fQU (o:=0+0) (v := .slice q1 ([]++x.1.ev).length c1) rfl rfl hxl rfl ?_;intro S fS gS sS;have fS:S.heap[Y.heap.size]?=some (.cells (exC x.1 q1 c1).toArray 55 (0,0)):=fS;have oS:=zO oU fQU (by decide) gS;have hwU:Bw w U:=((zst hwZ hb0)).trans (qA (zbV (E:=evE) (T:=60) (w:=Z)) (UN hwZ.size hb0.size) hwZ.size gU);have hwS:Bw w S:=hwU.trans (zh gS hwU.size hQw);obtain⟨y,hy⟩:=nm (x.1);rw [<- hy] at fS oS hgood hx48 hkn;refine⟨.slice q1 y.ev.length c1,zb (za fS) (i:=0) rfl,?_⟩;obtain⟨n,hn⟩:=nm (y.ev.length);obtain⟨i,hi⟩:=nm (at_.toNat%n);have hiy:i<y.ev.length:=by rw [hi,hn];exact Gf _ (by omega)
 refine⟨Nat×OA×Nat,fun s=>⟨[(2,u8 way),(11,At0 s.1),(12,i64 n),(13,i64 i)],[]⟩,fun s X=>w.heap.size<=s.1/\X.heap[s.1]?=some (.cells (exC y s.2.1 s.2.2).toArray 55 (0,0))/\OwnS evE 60 w.heap.size X s.2.1 s.2.2 y.ev/\Bw w X,?_,?_⟩
 ·exact⟨(at_.toNat:Int),ze (by have:=at_.toNat_lt;omega),by rw [<- hn];omega,((at_.toNat%n:Nat):Int),by rw [<- hn];exact (Int.ofNat_tmod _ _).symm,(Y.heap.size,q1,c1),⟨.cons rfl (.cons rfl (.cons (by rw [hn];rfl) (.cons (by rw [hi];rfl) .nil))),rfl⟩,hQw,fS,oS,hwS⟩
 have hn':=hn;rintro⟨Q,q,c2⟩ X ⟨hQ,fX,oX,hwX⟩;dsimp only at hQ fX oX ⊢;obtain⟨wy,hwy⟩:=nm (way.toNat%8);have hwy8:wy<8:=by rw [hwy];exact Gf _ (by decide)
 refine⟨Nat×OA×Nat,fun s=>⟨[(11,At0 s.1)],[]⟩,fun s X=>w.heap.size<=s.1/\X.heap[s.1]?=some (.cells (exC (zJ y wy i) s.2.1 s.2.2).toArray 55 (0,0))/\SlR evE X s.2.1 (zJ y wy i).ev/\Bw w X,?_,?_⟩
 ·refine⟨by decide,(wy:Int),by rw [hwy];exact (Int.ofNat_tmod _ _).symm,?_⟩;clear hwy;subst hn';obtain⟨g,hqg⟩:∃ g,q=some ⟨g,0,none⟩:=by
   rcases oX.inv with ⟨_,_,h3⟩ | ⟨g,_,h2,_⟩
   ·rw [h3] at hiy;exact Gq hiy (Uc _)
   ·exact⟨g,h2⟩
  subst hqg;obtain⟨hgB,hgX,_⟩:=jU oX rfl;have hgB:w.heap.size<=g:=hgB;have hgX:g<X.heap.size:=hgX;obtain⟨bq,oq,hbq,hlq,hat⟩:=zd5 oX.row (KG (UZ _) hiy);obtain⟨rfl,rfl⟩:g=bq/\0=oq:=by cases hbq;exact⟨rfl,rfl⟩
  have hei:y.ev[i]?=some (evA y i):=by
   unfold evA;rw [gDe,gE hiy];rfl
  have hei2:y.ev[i]=evA y i:=by rw [gE hiy] at hei;exact Ug hei
  have hgQ:g≠Q:=fun e=>by
   obtain⟨_,_,cur,h⟩:=jU oX rfl;have h:X.heap[g]?=_:=h;rw [e,fX] at h;simp at h
  have fin:∀ {z:ExD} {X':Wd} {q':OA} {c':Nat},z=zJ y wy i->X'.heap[Q]?=some (.cells (exC z q' c').toArray 55 (0,0))->SlR evE X' q' z.ev->Bw w X' ->
    w.heap.size<=(Q,q',c').1/\X'.heap[(Q,q',c').1]?=some (.cells (exC (zJ y wy i) q' c').toArray 55 (0,0))/\SlR evE X' q' (zJ y wy i).ev/\Bw w X':=fun h1 h2 h3 h4=>by
   rw [h1] at h2 h3;exact⟨hQ,h2,h3,h4⟩
  have i48:i<48:=by omega
  have him:(i+1)%y.ev.length<64:=by
   have:=Gf (i+1) (show 0<y.ev.length by omega);omega
  have dX:Bw X X.drew:=(Gb _ _).drew;have h8:wy=0\/wy=1\/wy=2\/wy=3\/wy=4\/wy=5\/wy=6\/wy=7:=by omega
  rcases h8 with e | e | e | e | e | e | e | e <;> subst e
  ·refine brE (by decide) ⟨.slice (some ⟨g,0,none⟩) y.ev.length c2,zb (za fX) (i:=0) rfl,i,rfl,hiy,zja (Te:=5) k5 rfl oX (i:=i) (o:=1) hiy (by decide) (v:=u8 4) rfl rfl (by show 0+i*7+1=i*7+1;omega) (x:={ evA y i with k:=4 }) (by rw [hei2];rfl) ?_⟩;intro S oS gS sS;exact⟨(Q,some ⟨g,0,none⟩,c2),(cvE rfl rfl),fin (z:={ y with ev:=y.ev.set i { evA y i with k:=4 } }) rfl (by rw [zhv (by rw [QR])];exact (gS.block Q (hlt fX) (by simp;exact fun e=>hgQ e.symm)).trans fX) oS.row (hwX.trans (zh gS hwX.size hgB))⟩
  ·refine brN (by decide) (brE (by decide) ?_);obtain⟨A,Zc,hA,hE⟩:=znY y (some ⟨g,0,none⟩) c2 [];have hR:RelAt X Q 99 55 A Zc y.co:=⟨hA,by
    have e:=hE y.co;rw [QL] at e;rw [<- e];exact fX⟩
   refine DrawE.ord [11] [0,1,2,3,4,5,6,7,8,9,10,11] (by kernel_rfl) ?_;have hRd:=hR.same (Y:=X.drew) rfl;refine⟨i,rfl,i48,s64 (y.co.to i),hRd.cell i48,by omega,_,jP (e:=i) (by omega),_,zaj (hgood.rels.co.w i i48) (zbi (by omega)),i,rfl,i48,zi k45 hRd.cells (o:=99+1+i*1) (v:=s64 (y.co.to i|||2^i)) rfl rfl (by rw [hRd.len];omega) rfl ?_⟩;intro S fS gS sS;rw [hRd.set i48] at fS;have e2:=hE ⟨y.co.n,upd y.co.to i (y.co.to i|||2^i)⟩;rw [QL] at e2;rw [<- e2] at fS;exact⟨(Q,some ⟨g,0,none⟩,c2),(cvE rfl rfl),fin rfl fS (zO oX.drew (hdr fX) (by decide) gS).row (((zst hwX dX)).trans (zh gS hwX.size hQ))⟩
  ·refine brN (by decide) (brN (by decide) (brE (by decide) ?_));obtain⟨A,Zc,hA,hE⟩:=zlw y (some ⟨g,0,none⟩) c2 [];have hR:RelAt X Q 1 55 A Zc y.po:=⟨hA,by
    have e:=hE y.po;rw [QL] at e;rw [<- e];exact fX⟩
   refine DrawE.ord [14] [0,1,2,3,4,5,6,7,8,9,10,11,12,13,14] (by kernel_rfl) ?_;have hRd:=hR.same (Y:=X.drew) rfl;refine⟨i,rfl,i48,s64 (y.po.to i),hRd.cell i48,nxI (by omega) ⟨by omega,(((i+1)%y.ev.length:Nat):Int),(Int.ofNat_tmod _ _).symm,by omega,_,jP (e:=(i+1)%y.ev.length) him,_,zoK (hgood.rels.po.w i i48) (zbi him),i,rfl,i48,zi k45 hRd.cells (o:=1+1+i*1) (v:=s64 (y.po.to i ^^^ 2^((i+1)%y.ev.length))) rfl rfl (by rw [hRd.len];omega) rfl ?_⟩⟩;intro S fS gS sS;rw [hRd.set i48] at fS;have e2:=hE ⟨y.po.n,upd y.po.to i (y.po.to i ^^^ 2^((i+1)%y.ev.length))⟩;rw [QL] at e2;rw [<- e2] at fS;exact⟨(Q,some ⟨g,0,none⟩,c2),(cvE rfl rfl),fin rfl fS (zO oX.drew (hdr fX) (by decide) gS).row (((zst hwX dX)).trans (zh gS hwX.size hQ))⟩
  ·refine brN (by decide) (brN (by decide) (brN (by decide) (brE (by decide) ⟨.slice (some ⟨g,0,none⟩) y.ev.length c2,zb (za fX) (i:=0) rfl,0,rfl,by omega,?_⟩)));have h00:=zb (hat 0 (by omega)) (i:=2) (v:=u8 (evA y 0).l) rfl;rw [hgood.ev0.2] at h00;refine⟨u8 0,h00,0,rfl,by decide,?_⟩;refine⟨u8 (y.mem 0),zlx (za fX) (l:=0) (by decide),((y.mem 0+1:UInt8).toNat:Int),zmS (y.mem 0) 1,0,rfl,by decide,?_⟩;refine zi k5 fX (o:=0+295+32+0*1) (v:=u8 (y.mem 0+1)) rfl rfl (by rw [zB];omega) rfl ?_;intro S fS gS sS;rw [znZ] at fS;exact⟨(Q,some ⟨g,0,none⟩,c2),(cvE rfl rfl),fin rfl fS (zO oX fX (by decide) gS).row (hwX.trans (zh gS hwX.size hQ))⟩
  ·refine brN (by decide) (brN (by decide) (brN (by decide) (brN (by decide) (brE (by decide) ⟨.slice (some ⟨g,0,none⟩) y.ev.length c2,zb (za fX) (i:=0) rfl,?_⟩))));obtain⟨e,he⟩:∃ e:Ev,e=⟨4,0,0,0,0,0,0⟩:=⟨_,rfl⟩;refine⟨evE.enc e,by rw [he];rfl,?_⟩;refine⟨⟨by decide,by decide,rfl⟩,evE.enc e,zar rfl rfl,?_⟩;obtain⟨Y1,hY1⟩:=nm (X.alloc (.cells (evE.enc e).toArray 60));have hb1:Bw X Y1:=by rw [hY1];exact (zba _ _)
   have ho1:=oX.below hb1;unfold zdm zae;show SatR _ _;rw [<- hY1];refine zrf ho1 (by rw [hY1];exact qH evE e) (UN hwX.size hb1.size) (by omega) ?_;intro q1 c1 U oU gU hat1;have fQU:=z6 (zc hb1 fX) ho1 (by decide) gU;refine zi k43 fQU (o:=0+0) (v := .slice q1 (y.ev++[e]).length c1) rfl rfl (by rw [zB];omega) rfl ?_;intro S fS gS sS;have fS:S.heap[Q]?=some (.cells (exC { y with ev:=y.ev++[e] } q1 c1).toArray 55 (0,0)):=fS;have hwU:=((zst hwX hb1)).trans (qA ho1 (UN hwX.size hb1.size) (UW _) gU);exact⟨(Q,q1,c1),(cvE rfl rfl),fin (by rw [he];rfl) fS (zO oU fQU (by decide) gS).row (hwU.trans (zh gS hwU.size hQ))⟩
  ·refine brN (by decide) (brN (by decide) (brN (by decide) (brN (by decide) (brN (by decide) (brE (by decide) ?_)))));obtain⟨A,Zc,hA,hE⟩:=zlu y (some ⟨g,0,none⟩) c2 [];have hR:RelAt X Q 50 55 A Zc y.rf:=⟨hA,by
    have e:=hE y.rf;rw [QL] at e;rw [<- e];exact fX⟩
   have hN:y.rf.n=(y.ev.length:Int):=hgood.rels.rf.n;refine⟨i64 y.rf.n,zb (zqx fX) (i:=0) rfl,y.rf.n+1,ze (by rw [hN];omega),zi k3 hR.cells (o:=50+0) (v:=i64 (y.rf.n+1)) rfl rfl (by rw [hR.len];omega) rfl ?_⟩;intro S fS gS sS;rw [hR.setN] at fS;have e2:=hE ⟨y.rf.n+1,y.rf.to⟩;rw [QL] at e2;rw [<- e2] at fS;exact⟨(Q,some ⟨g,0,none⟩,c2),(cvE rfl rfl),fin rfl fS (zO oX fX (by decide) gS).row (hwX.trans (zh gS hwX.size hQ))⟩
  ·refine brN (by decide) (brN (by decide) (brN (by decide) (brN (by decide) (brN (by decide) (brN (by decide) (brE (by decide) ⟨.slice (some ⟨g,0,none⟩) y.ev.length c2,zb (za fX) (i:=0) rfl,i,rfl,hiy,zja (Te:=3) k3 rfl oX (i:=i) (o:=0) hiy (by decide) (v:=i64 (-2)) rfl rfl (by show 0+i*7+0=i*7+0;omega) (x:={ evA y i with th := -2 }) (by rw [hei2];rfl) ?_⟩))))));intro S oS gS sS;exact⟨(Q,some ⟨g,0,none⟩,c2),(cvE rfl rfl),fin (z:={ y with ev:=y.ev.set i { evA y i with th := -2 } }) rfl (by rw [zhv (by rw [QR])];exact (gS.block Q (hlt fX) (by simp;exact fun e=>hgQ e.symm)).trans fX) oS.row (hwX.trans (zh gS hwX.size hgB))⟩
  ·refine brN (by decide) (brN (by decide) (brN (by decide) (brN (by decide) (brN (by decide) (brN (by decide) (brN (by decide) (brE (by decide) ?_)))))));obtain⟨A,Zc,hA,hE⟩:=zlu y (some ⟨g,0,none⟩) c2 [];have hR:RelAt X Q 50 55 A Zc y.rf:=⟨hA,by
    have e:=hE y.rf;rw [QL] at e;rw [<- e];exact fX⟩
   refine⟨.slice (some ⟨g,0,none⟩) y.ev.length c2,zb (za fX) (i:=0) rfl,i,rfl,hiy,u8 (evA y i).k,zb (hat i hiy) (i:=1) rfl,?_⟩;by_cases hk:(evA y i).k=1
   ·refine brN (by rw [hk];rfl) ?_;have hsp:zJ y 7 i={ y with rf:=⟨y.rf.n,fun k=>if k<48 then jC (y.rf.to k) (2^i) else y.rf.to k⟩ }:=Gp hk;obtain⟨F,hF⟩:∃ F:Nat->Nat->Nat,F=fun k j=>if j<k then jC (y.rf.to j) (2^i) else y.rf.to j:=⟨_,rfl⟩
    refine⟨Nat,fun k=>⟨[(11,At0 Q),(13,i64 i),(142,i64 (k:Nat))],[]⟩,fun k Z=>k<=48/\RelAt Z Q 50 55 A Zc ⟨y.rf.n,F k⟩/\OwnS evE 60 w.heap.size Z (some ⟨g,0,none⟩) c2 y.ev/\Bw w Z,fun k=>48-k,0,(cvE rfl rfl),⟨UZ _,by rw [hF];exact hR,oX,hwX⟩,?_⟩;rintro k Z ⟨hk48,hRZ,oZ,hwZ⟩;refine biE (fun hc=>?_) fun hc=>?_
    ·have hc:(k:Int)<48:=dT hc;have hk8:k<48:=(by omega);have dZ:Bw Z Z.drew:=(Gb _ _).drew;refine DrawE.ord [11] [0,1,2,3,4,5,6,7,8,9,10,11] (by kernel_rfl) ?_;have hRd:=hRZ.same (Y:=Z.drew) rfl;have hFk:F k k=y.rf.to k:=(by rw [hF];exact Gn (Nat.lt_irrefl k));refine⟨k,rfl,hk8,s64 (F k k),hRd.cell hk8,by omega,_,jP (e:=i) (by omega),_,za6 (by rw [hFk];exact hgood.rels.rf.w k hk8) (zbi (by omega)),k,rfl,hk8,zi k45 hRd.cells (o:=50+1+k*1) (v:=s64 (jj (F k k) (2^i))) rfl rfl (by rw [hRd.len];omega) rfl ?_⟩;intro S fS gS sS;rw [hRd.set hk8] at fS;have eF:upd (F k) k (jj (F k k) (2^i))=F (k+1):=by
      funext j;by_cases hj:j=k
      ·rw [hj,zC,hFk,hF];show _=if k<k+1 then _ else _
       rw [Gp (QC k)];rfl
      ·rw [z8 _ _ hj,hF];show (if j<k then _ else _)=if j<k+1 then _ else _
       by_cases hjk:j<k
       ·rw [Gp hjk,Gp (by omega)]
       ·rw [Gn hjk,Gn (by omega)]
     rw [eF] at fS;exact nxI (by omega) ⟨k+1,(cvE rfl rfl),⟨hk8,⟨hRZ.at_,fS⟩,zO oZ.drew (hdr hRZ.cells) (by decide) gS,((zst hwZ dZ)).trans (zh gS hwZ.size hQ)⟩,zdc (by omega)⟩
    ·have hc:¬ (k:Int)<48:=dF hc;obtain rfl:k=48:=(by omega);have fS:=hRZ.cells;have e2:=hE ⟨y.rf.n,F 48⟩;rw [QL] at e2;rw [<- e2,hF] at fS;exact⟨(Q,some ⟨g,0,none⟩,c2),(cvE rfl rfl),fin hsp.symm fS oZ.row hwZ⟩
   ·refine brE (by have h1:decide (((evA y i).k.toNat:Int)=1)=false:=Ui (fun e=>hk (qW.1 e));rw [h1];rfl) ?_;have hsp:zJ y 7 i={ y with rf:=⟨y.rf.n,upd y.rf.to i (y.rf.to i|||1)⟩ }:=Gn hk;refine⟨i,rfl,i48,s64 (y.rf.to i),hR.cell i48,_,zql (hgood.rels.rf.w i i48),i,rfl,i48,zi k45 hR.cells (o:=50+1+i*1) (v:=s64 (y.rf.to i|||1)) rfl rfl (by rw [hR.len];omega) rfl ?_⟩;intro S fS gS sS;rw [hR.set i48] at fS;have e2:=hE ⟨y.rf.n,upd y.rf.to i (y.rf.to i|||1)⟩;rw [QL] at e2;rw [<- e2] at fS;exact⟨(Q,some ⟨g,0,none⟩,c2),(cvE rfl rfl),fin hsp.symm fS (zO oX fX (by decide) gS).row (hwX.trans (zh gS hwX.size hQ))⟩
 ·rintro⟨Q,q,c2⟩ X ⟨hQ,fX,hev,hwX⟩;dsimp only at hQ fX hev ⊢;refine⟨exC (zJ y wy i) q c2,zB _ _ _,za fX,hlt fX,?_⟩;have hr:CB 14 #[.agg (exC (zJ y wy i) q c2).toArray] X (.bool false):=by
   by_cases h48:48<(zJ y wy i).ev.length
   ·exact zkN h48
   ·have hsp:=zoO hgood hiy hwy8;have:=zjO (c:=c2) (⟨hev,by omega,hsp.w20,hsp.po,hsp.rf,hsp.co,hsp.dt,hsp.ct,hsp.rm⟩:ExW X (zJ y wy i) q) (hG.t64.below hwX);rw [ziL hgood hiy hwy8] at this;exact this
  refine cmo hr ?_;rintro e U ⟨rfl,hbU⟩;have hwU:=zst hwX hbU;refine Gg (fun h=>cmo (zqf (hG.below hwU)) ?_) (fun h=>by cases h);rintro e V ⟨rfl,hbV⟩;exact⟨rfl,(zst hwU hbV)⟩
end
end Go.Proofs.YtpalcnbhkigagaaGreatDoor
namespace Go.Proofs.YtpalcnbhkigagaaGreatDoor
open Go.Vc Go.RowKit Go.Sei
open Go.ChangeShapes Go.WideShapes Go.ChangeAt
section
variable {H:Type} {enc:TypeId×Value->H} {P:Program} {w:Wd} {base:Nat} {spare:Nat->Bool} {held:Bool} {fuel:Nat} {t:TypeId} {cs:List Value} {x:DataW H×List MemPlace}
theorem zlj (ht:P.underlying t=some (.int .u8)) (h:DataW.trod enc P w base spare held fuel t cs=some x):∃ b:UInt8,cs=[u8 b]/\x.1 = .lit (.int .u8 b.toNat):=by
 obtain⟨n,rfl,rfl,hw⟩:=DataW.trod_int ht h;have hb:=bounds_u8 hw;have e:((UInt8.ofNat n.toNat).toNat:Int)=n:=by
  rw [KJ];omega
 exact⟨UInt8.ofNat n.toNat,by rw [u8,e],by rw [e]⟩
theorem zfY {n:Nat} {e:TypeId} (ht:P.underlying t=some (.array n e)) (he:P.underlying e=some (.int .u8)) (hc:P.cellsOf e=1) (hn:P.cellsOf t=n)
  (h:DataW.trod enc P w base spare held fuel t cs=some x):∃ bs:List UInt8,bs.length=n/\cs=bs.map u8/\x.1 = .agg (bs.map fun b => .lit (.int .u8 b.toNat)):=by
 obtain⟨xs,m,rfl,rfl,hl,hx,hel⟩:=DataW.trod_array ht h;rw [hn] at hl;have each:∀ i (h:i<n),∃ b:UInt8,cs[i]?=some (u8 b)/\xs[i]?.map (·.1)=some (.lit (.int .u8 b.toNat)):=fun i hi=>by
  have h1:=hel i hi;rw [hc,gE (by omega)] at h1;obtain⟨b,h2,h3⟩:=zlj he h1;refine⟨b,?_,by rw [gE (by omega),Uf,h3]⟩;have:((cs.drop (i*1)).take 1)[0]?=some (u8 b):=by rw [h2];rfl
  simpa using this
 have:∀ k,k<=n->∃ bs:List UInt8,bs.length=k/\cs.take k=bs.map u8/\(xs.take k).map (·.1)=bs.map fun b => .lit (.int .u8 b.toNat):=by
  intro k
  induction k with
  | zero=>exact fun _=>⟨[],rfl,by simp,by simp⟩
  | succ k ih =>
   intro hk;obtain⟨bs,h1,h2,h3⟩:=ih (by omega);obtain⟨b,h4,h5⟩:=each k (by omega);have hk1:k<cs.length:=by omega
   have hk2:k<xs.length:=by omega
   rw [gE hk1] at h4;rw [gE hk2] at h5;refine⟨bs++[b],by simp [h1],?_,?_⟩
   ·rw [tsg hk1,h2,Ug h4];simp
   ·rw [tsg hk2,QS,h3];simp at h5;simp [h5]
 obtain⟨bs,h1,h2,h3⟩:=this n (UW _);rw [JI (by omega)] at h2 h3;exact⟨bs,h1,h2,by rw [<- h3]⟩
end
theorem zaG:Tryz.prog.cellsOf 5=1:=by kernel_rfl
theorem zra:Tryz.prog.cellsOf 4=1:=by kernel_rfl
theorem zjM (b o i:Nat):(⟨b,o,none⟩:Addr).add i=⟨b,o+i,none⟩:=by
 unfold Addr.add;by_cases h:i=0
 ·simp [h]
 ·simp [h]
section
variable {w:Wd} {base:Nat} {cs:List Value}
theorem zir {a:Addr} {n:Nat} (hn:0<n) (h:w.cells? base a n=some cs):a.spot=none/\a.block<w.heap.size/\zw w ⟨a.block,a.off,none⟩ cs:=by
 obtain⟨_,hl,hc⟩:=World.cells?_some h;have h0:=hc 0 hn;rw [gE (by omega)] at h0;have hs:a.spot=none:=by simpa [Addr.add] using World.cell?_spot h0
 obtain⟨b,o,s⟩:=a;dsimp only at hs;subst hs;refine⟨rfl,JB _ _ h0,j6 fun i v hv=>?_⟩;have hi:i<n:=by have:=(Jt.1 hv).1;omega
 have:=(hc i hi).trans hv;rw [zjM] at this;exact this
end
theorem zne:ownKnob Tryz.prog.godebug=none:=by kernel_rfl
theorem zaX:laidOutB PG=true:=by kernel_rfl
section
variable {H:Type} {enc:TypeId×Value->H} {P:Program} {w:Wd} {base:Nat} {spare:Nat->Bool} {held:Bool} {fuel:Nat} {t e:TypeId} {cs:List Value} {x:DataW H×List MemPlace}
def Opens (enc:TypeId×Value->H) (P:Program) (w:Wd) (base:Nat) (spare:Nat->Bool) (held:Bool) (t:TypeId) (R:List Value->Prop):Prop :=
 ∀ fuel cs x,DataW.trod enc P w base spare held fuel t cs=some x->R cs
theorem Opens.field {fs:Array Field} {R:List Value->Prop} {i:Nat} {f:Field} {n:Nat} {xs:List (DataW H×List MemPlace)} {m:Nat} (hel:∀ (i:Nat) (f:Field),fs[i]?=some f->DataW.trod enc P w base spare held m f.type ((cs.drop f.offset).take (P.cellsOf f.type))=xs[i]?)
  (hl:xs.length=fs.size) (hi:fs[i]?=some f) {o:Nat} (hoo:f.offset=o) (hn:P.cellsOf f.type=n) (ho:Opens enc P w base spare held f.type R):R ((cs.drop o).take n):=by
 subst hoo;have h1:=hel i f hi;have:i<fs.size:=(Jl.1 hi).1;rw [gE (by omega),hn] at h1;exact ho _ _ _ h1
theorem jA (ht:P.underlying t=some (.int .u8)):Opens enc P w base spare held t fun cs=>∃ b:UInt8,cs=[u8 b]:=fun fuel cs x h=>by
 obtain⟨b,h,_⟩:=zlj ht h;exact⟨b,h⟩
theorem zki (ht:P.underlying t=some .bool):Opens enc P w base spare held t fun cs=>∃ b:Bool,cs=[.bool b]:=fun fuel cs x h=>by
 obtain⟨b,h,_⟩:=DataW.trod_bool ht h;exact⟨b,h⟩
theorem zpe {β:Type} {n:Nat} (i0:β) {Q:Nat->β->Prop} (h:∀ i,i<n->∃ b,Q i b):∃ bs:List β,bs.length=n/\∀ i (hi:i<bs.length),Q i bs[i]:=by
 have h2:∀ i,∃ b,i<n->Q i b:=fun i=>by
  by_cases hi:i<n
  ·obtain⟨b,hb⟩:=h i hi;exact⟨b,fun _=>hb⟩
  ·exact⟨i0,fun h=>Gq h hi⟩
 obtain⟨g,hg⟩:=Classical.axiomOfChoice h2;refine⟨(List.range n).map g,by simp,fun i hi=>?_⟩;simp only [Qs,KA];exact hg i (by simpa using hi)
theorem cut (cs:List Value) (o n o':Nat) (h:o+n=o'):cs.drop o=(cs.drop o).take n++cs.drop o':=by
 rw [<- h,<- Ul,JR]
end
theorem cC (t n:Nat) (h:Tryz.prog.cellsOf t=n):Tryz.prog.cellsOf t=n:=h
theorem zdI {H:Type} {enc:TypeId×Value->H} {a:Assume} {C:Checked} {os:Os} {f:FuncId} {fn:Func} {s:ChangeSpec} {conds:List PathCond} {apart fresh handsOn again:Bool} {X:Wd->Array Value->Prop}
  (hX:∀ (w w':Wd) (args:Array Value),w.heap=w'.heap->X w args->X w' args)
  (own:ownKnob C.prog.godebug=none) (started:os.Started) (noInit:C.prog.inits.idxOf? f=none) (hfn:C.prog.funcs[f]?=some fn)
  (witness:∃ (w:Wd) (tape:Tape) (i:Input),w.os=os/\(w.forCall tape i).Shaped C.prog/\i.vars=[]/\Input.okWide C.prog (w.forCall tape i) .any w.heap.size f i /\
   ((s.pre enc C.prog fn conds apart (w.forCall tape i).memory i.args/\X (w.forCall tape i).memory i.args)/\sizedMet enc C.prog fn (OpenSpec.ofChange s) apart (w.forCall tape i).memory i.args)/\a.holds C.prog (lone (Frame.enter C.prog f i.args .normal) [] (w.forCall tape i)))
  (contract:∀ (W:Wd) (base:Nat) (args:Array Value) (ds gs:List (DataW H)) (before:List MemPlace),
   (∀ (j:Nat) t v,fn.params[j]?=some t->args[j]?=some v->Value.okWide C.prog W .any base t v) ->
   DataW.Whole enc C.prog fn.params.toList s.vars apart W args.toList ds gs before->X W args->W.ShapedOpen C.prog ->
   (∃ ds gs before,DataW.Whole enc C.prog fn.params.toList (OpenSpec.ofChange s).vars apart W args.toList ds gs before/\∀ n∈DataW.weightsEach C.prog (fn.params.toList++(OpenSpec.ofChange s).bare.plain.varTypes C.prog) (ds++gs),n<=reachBytes) ->
   Calls C.prog f args W fun e W'=>∃ v,e = .returned v/\s.post enc C.prog fn apart fresh handsOn again W args v W') :
  ReturnsInHanded a C os f .any (fun w args=>(s.pre enc C.prog fn conds apart w args/\X w args)/\sizedMet enc C.prog fn (OpenSpec.ofChange s) apart w args) (s.post enc C.prog fn apart fresh handsOn again):=by
 refine returnsInHanded_of_calls own started noInit witness ?_;intro w tape i _ hsh _ hok hpre hholds;obtain⟨_,_,_,fn',hfn',_,_,_,_,hval⟩:=hok;have e:fn'=fn:=Ug (hfn'.symm.trans hfn);subst e;obtain⟨⟨⟨ds,gs,before,hw,hc⟩,hx⟩,hz⟩:=hpre;have hw':=DataW.Whole.of_heap (w':=w.forCall tape i) (by rfl) hw;obtain⟨_,ds2,gs2,before2,hw2,hall⟩:=hz;refine (contract (w.forCall tape i) w.heap.size i.args ds gs before hval hw' (hX _ _ _ (by rfl) hx) hsh ⟨ds2,gs2,before2,DataW.Whole.of_heap (w':=w.forCall tape i) (by rfl) hw2,fun n hn=>dT (Ql.1 hall n hn)⟩).mono fun e W' ⟨v,he,hp⟩=>?_;subst he;exact ChangeSpec.post_blind hp
section
variable {H:Type} {enc:TypeId×Value->H} {P:Program} {w:Wd} {base:Nat} {spare:Nat->Bool} {held:Bool} {fuel:Nat} {t:TypeId} {cs:List Value} {x:DataW H×List MemPlace}
def Wgt (P:Program) (t:TypeId) (d:DataW H):Prop:=∀ n∈d.weights P t,n<=reachBytes
theorem zoJ {ds:List (DataW H)} {e:TypeId} (h:∀ n∈DataW.weightsAll P e ds,n<=reachBytes):∀ d∈ds,Wgt P e d:=by
 induction ds with
 | nil=>intro d hd;cases hd
 | cons a r ih =>
  intro d hd;simp only [DataW.weightsAll,QT] at h;rcases UD.1 hd with rfl | hd
  ·exact fun n hn=>h n (.inl hn)
  ·exact ih (fun n hn=>h n (.inr hn)) d hd
end
theorem zf4 {H:Type}:∀ {a b:List UInt8},a.map (fun b=>(DataW.lit (.int .u8 b.toNat):DataW H))=b.map (fun b=>DataW.lit (.int .u8 b.toNat))->a=b
 | [],[],_=>rfl
 | [],_::_,h=>by cases h
 | _::_,[],h=>by cases h
 | x::a,y::b,h=>by
  simp only [UC,QM,DataW.lit.injEq,Lit.int.injEq,true_and] at h;rw [zf4 h.2,Uh.1 (by omega:x.toNat=y.toNat)]
section
variable {H:Type} {enc:TypeId×Value->H} {P:Program} {w:Wd} {base:Nat} {spare:Nat->Bool} {held:Bool} {fuel F:Nat} {t e:TypeId} {cs:List Value} {x:DataW H×List MemPlace}
def OpensW (enc:TypeId×Value->H) (P:Program) (w:Wd) (base:Nat) (spare:Nat->Bool) (held:Bool) (F:Nat) (t:TypeId) (R:List Value->Prop):Prop :=
 ∀ n,n<F->∀ cs x,DataW.trod enc P w base spare held n t cs=some x->Wgt P t x.1->R cs
theorem zaD {R:List Value->Prop} (h:Opens enc P w base spare held t R):OpensW enc P w base spare held F t R:=fun n _ cs x h1 _=>h n cs x h1
theorem OpensW.field {fs:Array Field} {R:List Value->Prop} (ht:P.underlying t=some (.struct fs)) (h:DataW.trod enc P w base spare held fuel t cs=some x) (hw:Wgt P t x.1) (hF:fuel<=F) {i:Nat} {f:Field} (hf:fs[i]?=some f) {T o k:Nat} (hT:f.type=T) (hO:f.offset=o) (hk:P.cellsOf T=k)
  (ho:OpensW enc P w base spare held F T R):R ((cs.drop o).take k):=by
 subst hT hO hk;obtain⟨xs,n,rfl,rfl,hl,hx,hel⟩:=KM ht h;have h1:=hel i f hf;have hi:i<xs.length:=by rw [hx];exact (Jl.1 hf).1
 rw [gE hi] at h1;refine ho n (by omega) _ _ h1 fun m hm=>hw m ?_;simp only [DataW.weights,ht];refine DataW.weights_mem_each (j:=i) (t:=f.type) (d:=xs[i].1) ?_ ?_ m hm
 ·rw [KW];have:fs.toList[i]?=some f:=by simpa using hf
  rw [this];rfl
 ·rw [KW,gE hi];rfl
theorem zfW (ht:P.underlying t=some .string):OpensW enc P w base spare held F t fun cs=>∃ s:List UInt8,s.length<=140737488351232/\cs=[qi s]:=fun n _ cs x h hw=>by
 obtain⟨s,rfl,rfl,_⟩:=DataW.trod_string ht h;refine⟨s.data.toList,hw _ (by simp [DataW.weights]),?_⟩;unfold qi bs;rw [Array.toArray_toList]
theorem zbW {β:Type} (i0:β) {f:β->List Value} {Q:β->Prop} {sz:Nat} (hp:0<sz) (ht:P.underlying t=some (.slice e)) (hc:P.cellsOf e=sz) (hb:Nat.ble 1 (P.bytesOf e)=true) (ho:OpensW enc P w base spare held F e fun cs=>∃ b,Q b/\cs=f b) :
  OpensW enc P w base spare held (F+1) t fun cs=>∃ (p:OA) (cap:Nat) (l:List β),cs=[.slice p l.length cap]/\(l.length<=140737488351232/\l.length*P.bytesOf e<=140737488351232)/\l.length<=cap/\(∀ b∈l,Q b)/\∃ b o,(l.length=0\/p=some ⟨b,o,none⟩)/\∀ i (hi:i<l.length),b<w.heap.size/\zw w ⟨b,o+i*sz,none⟩ (f l[i]):=fun n hn cs x h hw=>by
 rcases DataW.trod_slice ht h with ⟨rfl,_⟩ | ⟨a,len,cap,elems,ja,n,rfl,rfl,hx,_,hlc,hcm,hlen,hel,_,_⟩
 ·exact⟨none,0,[],rfl,⟨by simp,by simp⟩,by simp,by simp,0,0,.inl rfl,fun i hi=>by simp at hi⟩
 ·subst hx;have hw':∀ m,m∈((elems.map (·.1)).length+(ja.map (·.1)).length)*P.bytesOf e::(DataW.weightsAll P e (elems.map (·.1))++DataW.weightsAll P e (ja.map (·.1)))->m<=reachBytes:=fun m hm=>by
   refine hw m ?_;simp only [DataW.weights,ht];exact hm
  have hb:=JT hb;have hlb:len<=140737488351232/\len*P.bytesOf e<=140737488351232:=by
   have h1:=hw' _ KB;simp only [QO] at h1;have:elems.length*1<=(elems.length+ja.length)*P.bytesOf e:=Ur (QA _ _) hb;have h2:elems.length*P.bytesOf e<=(elems.length+ja.length)*P.bytesOf e:=Ur (QA _ _) (UW _);have hr:reachBytes=140737488351232:=rfl;rw [<- hlen];omega
  have each:∀ i,i<len->∃ m:β,Q m/\(a.add (i*sz)).spot=none/\(a.add (i*sz)).block<w.heap.size/\zw w ⟨(a.add (i*sz)).block,(a.add (i*sz)).off,none⟩ (f m):=fun i hi=>by
   have h1:=hel i hi;rw [hc,gE (by omega),Option.bind_eq_some_iff] at h1;obtain⟨cs,h2,h3⟩:=h1;obtain⟨m,hq,rfl⟩:=ho n (by omega) _ _ h3 (zoJ (ds:=elems.map (·.1)) (fun m hm=>hw' m (JZ _ (JY _ hm))) _ (Kn (gM _)));exact⟨m,hq,zir hp h2⟩
  obtain⟨l,h1,h2⟩:=zpe i0 each;refine⟨some a,cap,l,by rw [h1],by rw [h1];exact hlb,by omega,fun b hb=>?_,a.block,a.off,?_,fun i hi=>?_⟩
  ·obtain⟨i,hi,rfl⟩:=Kk hb;exact (h2 i hi).1
  ·by_cases h00:l.length=0
   ·exact .inl h00
   ·right;have hsp:a.spot=none:=by
     have:=(h2 0 (by omega)).2.1;simpa [Addr.add] using this
    obtain⟨b,o,s⟩:=a;dsimp only at hsp;subst hsp;rfl
  ·have hsp:a.spot=none:=by
    have:=(h2 0 (by omega)).2.1;simpa [Addr.add] using this
   obtain⟨b,o,s⟩:=a;dsimp only at hsp;subst hsp;have:=(h2 i hi).2.2;rw [zjM] at this;exact this
end
section
variable {H:Type} {enc:TypeId×Value->H} {P:Program} {w:Wd} {base:Nat} {spare:Nat->Bool} {held:Bool} {fuel F:Nat} {t e:TypeId} {cs:List Value} {x:DataW H×List MemPlace}
theorem zeq {α:Type} {E:Enc α} {p:OA} {l:List α} (h:∃ b o,(l.length=0\/p=some ⟨b,o,none⟩)/\∀ i (hi:i<l.length),b<w.heap.size/\zw w ⟨b,o+i*E.sz,none⟩ (E.enc l[i])):RowB E w.heap.size w p l:=by
 obtain⟨b,o,hp,hc⟩:=h;by_cases h0:l=[]
 ·exact .inl h0
 ·have hl0:0<l.length:=List.length_pos_iff.2 h0;rcases hp with hp | rfl
  ·omega
  ·exact RowB.of_slr (.inr ⟨b,o,rfl,(hc 0 hl0).1,fun i hi=>(hc i hi).2⟩)
end
section
variable {H:Type} {enc:TypeId×Value->H} {w:Wd} {base:Nat} {spare:Nat->Bool} {held:Bool} {F:Nat}
theorem zhi:Opens enc PG w base spare held 39 fun cs=>∃ (r:Bool) (n:UInt8),cs=[.bool r,u8 n]:=fun fuel cs x h=>by
 obtain⟨xs,m,rfl,rfl,hl,hx,hel⟩:=KM Tryz.underlying39 h;rw [cC 39 2 (by kernel_rfl)] at hl;obtain⟨b0,e0⟩:=Opens.field (o:=0) (i:=0) hel hx rfl rfl zra (zki Tryz.underlying4);obtain⟨b1,e1⟩:=Opens.field (o:=1) (i:=1) hel hx rfl rfl zaG (jA Tryz.underlying5);refine⟨b0,b1,?_⟩;have h0:cs=cs.drop 0:=rfl;have h9:cs.drop 2=[]:=JD (by omega);rw [h0,cut cs 0 1 1 rfl,cut cs 1 1 2 rfl,e0,e1,h9];rfl
theorem zmi:Opens enc PG w base spare held 41 fun cs=>∃ x:InsD,True/\cs=zE.enc x:=fun fuel cs x h=>by
 obtain⟨xs,m,rfl,rfl,hl,hx,hel⟩:=KM Tryz.underlying41 h;rw [cC 41 10 (by kernel_rfl)] at hl;obtain⟨b0,e0⟩:=Opens.field (o:=0) (i:=0) hel hx rfl rfl zaG (jA Tryz.underlying5);obtain⟨b1,e1⟩:=Opens.field (o:=1) (i:=1) hel hx rfl rfl zaG (jA Tryz.underlying5);obtain⟨b2,e2⟩:=Opens.field (o:=2) (i:=2) hel hx rfl rfl zaG (jA Tryz.underlying5);obtain⟨r3,n3,e3⟩:=Opens.field (o:=3) (i:=3) hel hx rfl rfl (cC 39 2 (by kernel_rfl)) zhi;obtain⟨r4,n4,e4⟩:=Opens.field (o:=5) (i:=4) hel hx rfl rfl (cC 39 2 (by kernel_rfl)) zhi;obtain⟨b5,e5⟩:=Opens.field (o:=7) (i:=5) hel hx rfl rfl zaG (jA Tryz.underlying5);obtain⟨b6,e6⟩:=Opens.field (o:=8) (i:=6) hel hx rfl rfl zaG (jA Tryz.underlying5);obtain⟨b7,e7⟩:=Opens.field (o:=9) (i:=7) hel hx rfl rfl zaG (jA Tryz.underlying5);refine⟨⟨b0,b1,b2,r3,n3,r4,n4,b5,b6,b7⟩,trivial,?_⟩;have h0:cs=cs.drop 0:=rfl;have h9:cs.drop 10=[]:=JD (by omega);rw [h0,cut cs 0 1 1 rfl,cut cs 1 1 2 rfl,cut cs 2 1 3 rfl,cut cs 3 2 5 rfl,cut cs 5 2 7 rfl,cut cs 7 1 8 rfl,cut cs 8 1 9 rfl,cut cs 9 1 10 rfl,e0,e1,e2,e3,e4,e5,e6,e7,h9];rfl
theorem zkj:OpensW enc PG w base spare held F 42 fun cs=>∃ x:zkM,(x.1.length<=140737488351232/\RowB zE w.heap.size w x.2.1 x.1)/\cs=zm3.enc x:=fun n hn cs x h hw=>by
 obtain⟨p,cap,l,h1,h2,_,_,h3⟩:=zbW (F:=n) (⟨0,0,0,false,0,false,0,0,0,0⟩:InsD) (f:=zE.enc) (Q:=fun _=>True) (sz:=10) (by decide) Tryz.underlying42 (by kernel_rfl) (by kernel_rfl) (zaD zmi) n (QC n) cs x h hw;exact⟨(l,p,cap),⟨h2.1,zeq h3⟩,h1⟩
theorem zfX:∀ F,OpensW enc PG w base spare held F 27 fun cs=>∃ x:Cnd×OA×Nat,KidsV w.heap.size w x.2.1 x.1.kids/\cs=jL x.1 x.2.1 x.2.2
 | 0=>fun n hn=>Gq hn (Uc _)
 | F+1=>fun n hn cs x h hw=>by
  have ih:=zfX F;have hF:n<=F+1:=by omega
  have hl:cs.length=5:=by
   obtain⟨xs,m,_,_,hl,_,_⟩:=KM Tryz.underlying27 h;rw [cC 27 5 (by kernel_rfl)] at hl;exact hl
  obtain⟨b0,e0⟩:=OpensW.field (F:=F+1) (o:=0) (i:=0) Tryz.underlying27 h hw hF rfl rfl rfl zaG (zaD (jA Tryz.underlying5));obtain⟨b1,e1⟩:=OpensW.field (F:=F+1) (o:=1) (i:=1) Tryz.underlying27 h hw hF rfl rfl rfl zaG (zaD (jA Tryz.underlying5));obtain⟨b2,e2⟩:=OpensW.field (F:=F+1) (o:=2) (i:=2) Tryz.underlying27 h hw hF rfl rfl rfl zaG (zaD (jA Tryz.underlying5));obtain⟨b3,e3⟩:=OpensW.field (F:=F+1) (o:=3) (i:=3) Tryz.underlying27 h hw hF rfl rfl rfl zaG (zaD (jA Tryz.underlying5));obtain⟨p,cap,l,e4,hll,_,hQ,b,o,hp,hc⟩:=OpensW.field (F:=F+1) (o:=4) (i:=4) Tryz.underlying27 h hw hF rfl rfl rfl (cC 25 1 (by kernel_rfl))
   (zbW (F:=F) ((.mk 0 0 0 0 [],none,0):Cnd×OA×Nat) (f:=fun x=>jL x.1 x.2.1 x.2.2) (Q:=fun x=>KidsV w.heap.size w x.2.1 x.1.kids) (sz:=5) (by decide) Tryz.underlying25 (by kernel_rfl) (by kernel_rfl) ih)
  refine⟨(.mk b0 b1 b2 b3 (l.map (·.1)),p,cap),?_,?_⟩
  ·refine .mk p (l.map (·.1)) (by rw [QO];have:=hll.2;rw [show Tryz.prog.bytesOf 27=32 by kernel_rfl] at this;exact this) b o (by rw [QO];exact hp) (fun i=>(l.getD i (.mk 0 0 0 0 [],none,0)).2.1) (fun i=>(l.getD i (.mk 0 0 0 0 [],none,0)).2.2) (fun i hi=>?_) (fun i hi=>?_)
   ·have hi':i<l.length:=(by rw [QO] at hi;exact hi);have e:l.getD i (.mk 0 0 0 0 [],none,0)=l[i]:=(by rw [gDe,gE hi'];rfl);rw [e,Qs];exact hc i hi'
   ·have hi':i<l.length:=(by rw [QO] at hi;exact hi);have e:l.getD i (.mk 0 0 0 0 [],none,0)=l[i]:=(by rw [gDe,gE hi'];rfl);rw [e,Qs];exact hQ _ (gM hi')
  ·have h0:cs=cs.drop 0:=rfl;have h9:cs.drop 5=[]:=JD (by omega);rw [h0,cut cs 0 1 1 rfl,cut cs 1 1 2 rfl,cut cs 2 1 3 rfl,cut cs 3 1 4 rfl,cut cs 4 1 5 rfl,e0,e1,e2,e3,e4,h9];simp [jL,Cnd.kind,Cnd.thread,Cnd.n,Cnd.val,Cnd.kids]
end
section
variable {H:Type} {enc:TypeId×Value->H} {w:Wd} {base:Nat} {spare:Nat->Bool} {held:Bool} {F:Nat}
theorem zjc:OpensW enc PG w base spare held F 29 fun cs=>∃ p:Prg,PrgX w.heap.size w cs p:=fun n hn cs x h hw=>by
 have hF:n<=n+1:=Nat.le_succ n;have hl:cs.length=10:=by
  obtain⟨xs,m,_,_,hl,_,_⟩:=KM Tryz.underlying29 h;rw [cC 29 10 (by kernel_rfl)] at hl;exact hl
 obtain⟨nm,k0,e0⟩:=OpensW.field (F:=n+1) (o:=0) (i:=0) Tryz.underlying29 h hw hF rfl rfl rfl (cC 9 1 (by kernel_rfl)) (zfW Tryz.underlying9);obtain⟨p1,c1,l1,e1,k1,kc1,q1,r1⟩:=OpensW.field (F:=n+1) (o:=1) (i:=1) Tryz.underlying29 h hw hF rfl rfl rfl (cC 22 1 (by kernel_rfl))
  (zbW (F:=n) ([]:List UInt8) (f:=zjh.enc) (Q:=fun s=>s.length<=140737488351232) (sz:=1) (by decide) Tryz.underlying22 (by kernel_rfl) (by kernel_rfl) (zfW Tryz.underlying9))
 obtain⟨p2,c2,l2,e2,k2,kc2,q2,r2⟩:=OpensW.field (F:=n+1) (o:=2) (i:=2) Tryz.underlying29 h hw hF rfl rfl rfl (cC 23 1 (by kernel_rfl))
  (zbW (F:=n) (0:UInt8) (f:=zK.enc) (Q:=fun _=>True) (sz:=1) (by decide) Tryz.underlying23 zaG (by kernel_rfl) (zaD (fun fuel cs x h=>by
   obtain⟨b,hb⟩:=jA Tryz.underlying5 fuel cs x h;exact⟨b,trivial,hb⟩)))
 obtain⟨p3,c3,l3,e3,k3,kc3,q3,r3⟩:=OpensW.field (F:=n+1) (o:=3) (i:=3) Tryz.underlying29 h hw hF rfl rfl rfl (cC 24 1 (by kernel_rfl))
  (zbW (F:=n) (([],none,0):zkM) (f:=zm3.enc) (Q:=fun x=>x.1.length<=140737488351232/\RowB zE w.heap.size w x.2.1 x.1) (sz:=1) (by decide) Tryz.underlying24 (by kernel_rfl) (by kernel_rfl) zkj)
 obtain⟨b4,e4⟩:=OpensW.field (F:=n+1) (o:=4) (i:=4) Tryz.underlying29 h hw hF rfl rfl rfl zaG (zaD (jA Tryz.underlying5));obtain⟨⟨c,p4,c4⟩,hk,e5⟩:=OpensW.field (F:=n+1) (o:=5) (i:=5) Tryz.underlying29 h hw hF rfl rfl rfl (cC 27 5 (by kernel_rfl)) (zfX (n+1));refine⟨⟨nm,l1,l2,l3.map (·.1),b4,c⟩,⟨⟨k0,k1.1,q1,k2.1,by rw [QO];exact k3.1,fun l hl=>?_⟩,p1,c1,p2,c2,p3,c3,p4,c4,?_,zeq r1,zeq r2,⟨l3,rfl,zeq r3,fun x hx=>(q3 x hx).2⟩,hk,kc1⟩,⟨p3,c3,?_,l3,rfl,zeq r3,fun x hx=>⟨(q3 x hx).2,fun hne a ha=>?_⟩⟩,⟨p2,c2,?_,zeq r2⟩⟩
 ·obtain⟨x,hx,rfl⟩:=UK.1 hl;exact (q3 x hx).1
 ·have h0:cs=cs.drop 0:=rfl;have h9:cs.drop 10=[]:=JD (by omega);rw [h0,cut cs 0 1 1 rfl,cut cs 1 1 2 rfl,cut cs 2 1 3 rfl,cut cs 3 1 4 rfl,cut cs 4 1 5 rfl,cut cs 5 5 10 rfl,e0,e1,e2,e3,e4,e5,h9];simp [qt,jL]
 ·have:=Gj (fun l=>l[0]?) e3;simpa using this
 ·have hl:=List.length_pos_iff.2 hne;obtain⟨b,o,e,hb,_⟩:=zfk (q3 x hx).2 hl;rw [ha] at e;obtain rfl:=Ug e;exact hb
 ·have:=Gj (fun l=>l[0]?) e2;simpa using this
theorem zmj {a:Array Value} {d:DataW H} {p:List MemPlace} (h:DataW.Trod enc PG w base spare held 29 (.agg a) d p) (hw:Wgt PG 29 d):∃ p:Prg,PrgX w.heap.size w a.toList p:=by
 obtain⟨fuel,h⟩:=h;exact zjc (F:=fuel+1) fuel (QC _) _ _ h hw
end
section
variable {P:Program} {w:Wd} {base:Nat} {t:TypeId}
theorem znv {r:Reach} {v:Value} (ht:P.underlying t=some (.int .u16)) (h:Value.okWide P w r base t v):∃ a:Nat,a<65536/\v = .int .u16 (a:Nat):=by
 unfold Value.okWide at h;rw [ht] at h
 cases v with
 | int k n =>
  have h1:k = .u16/\IntKind.has .u16 n:=by
   simp only [Cell.okWide,Cell.ok,ht] at h;obtain⟨rfl,h⟩:=h;exact⟨rfl,h⟩
  obtain⟨rfl,h2⟩:=h1;have h3:0<=n/\n<=65535:=⟨by have:=h2.1;simpa [IntKind.min,IntKind.signed,IntKind.bits] using this,by have:=h2.2;simpa [IntKind.max,IntKind.signed,IntKind.bits] using this⟩;exact⟨n.toNat,by omega,by rw [Int.toNat_of_nonneg h3.1]⟩
 | _=>simp_all [Cell.okWide,Cell.ok]
end
theorem flatMap_map {α:Type} (f:α->Value):∀ l:List (List α),l.flatMap (fun x=>x.map f)=l.flatten.map f
 | []=>rfl
 | a::l=>by rw [KU,flatMap_map f l,List.flatten_cons,QS]
theorem zhj {P:Program} {w:Wd} {r:Reach} {base:Nat} {t:TypeId} {v:Value} (ht:P.underlying t=some (.int .u8)) (h:Value.okWide P w r base t v):∃ b:UInt8,v=u8 b:=by
 unfold Value.okWide at h;rw [ht] at h
 cases v with
 | int k n =>
  have h1:k = .u8/\IntKind.has .u8 n:=by
   simp only [Cell.okWide,Cell.ok,ht] at h;obtain⟨rfl,h⟩:=h;exact⟨rfl,h⟩
  obtain⟨rfl,h2⟩:=h1;have h3:0<=n/\n<=255:=⟨by have:=h2.1;simpa [IntKind.min,IntKind.signed,IntKind.bits] using this,by have:=h2.2;simpa [IntKind.max,IntKind.signed,IntKind.bits] using this⟩;have e:((UInt8.ofNat n.toNat).toNat:Int)=n:=by
   rw [KJ];omega
  exact⟨UInt8.ofNat n.toNat,by rw [u8,e]⟩
 | _=>simp_all [Cell.okWide,Cell.ok]
structure GlobP (W:Wd):Prop where
 t32:Tz32M W
 t64:Tz64M W
 needs:GlobC W
abbrev zaA : List (String × DataW Unit) := [("math/bits.deBruijn32tab", Rows.laid_math_bits_deBruijn32tab), ("math/bits.deBruijn64tab", Rows.laid_math_bits_deBruijn64tab), ("seisin/check.needs", Rows.laid_seisin_check_needs)]
theorem zbG {W:Wd} (h:laidMetH PG zaA W) (hsh:W.ShapedOpen PG):GlobP W:=by
 have h0:laidMet PG zaA W:=h;have h1:=h0.tail;have h2:=h1.tail;have t32:Tz32M W:=by
  obtain⟨ps,⟨g',t',cs,fuel,p,q,hg',ht',hv,hd,_,_⟩,_⟩:=h0
  obtain rfl := Ug ((show Tryz.prog.globalNamed "math/bits.deBruijn32tab" = some 0 by kernel_rfl).symm.trans hg')
  obtain rfl:=Ug ((show (Tryz.prog.globals[0]?).map (·.type)=some 217 by kernel_rfl).symm.trans ht');obtain⟨bs,h1,h2,h3⟩:=zfY Tryz.underlying217 Tryz.underlying5 (by kernel_rfl) (by kernel_rfl) hd;have hbs:bs=zgW:=by
   have e:(Rows.laid_math_bits_deBruijn32tab:DataW Unit) = .agg (zgW.map fun b => .lit (.int .u8 b.toNat)):=rfl;exact zf4 (DataW.agg.inj (h3.symm.trans e))
  subst hbs;refine j6 fun i v hvv=>?_;have hc:=World.var?_cell hg' hv i;rw [<- hvv,<- h2];simpa using hc
 have t64:Tz64M W:=by
  obtain⟨ps,⟨g',t',cs,fuel,p,q,hg',ht',hv,hd,_,_⟩,_⟩:=h1
  obtain rfl := Ug ((show Tryz.prog.globalNamed "math/bits.deBruijn64tab" = some 1 by kernel_rfl).symm.trans hg')
  obtain rfl:=Ug ((show (Tryz.prog.globals[1]?).map (·.type)=some 227 by kernel_rfl).symm.trans ht');obtain⟨bs,h1,h2,h3⟩:=zfY Tryz.underlying227 Tryz.underlying5 (by kernel_rfl) (by kernel_rfl) hd;have hbs:bs=zgV:=by
   have e:(Rows.laid_math_bits_deBruijn64tab:DataW Unit) = .agg (zgV.map fun b => .lit (.int .u8 b.toNat)):=rfl;exact zf4 (DataW.agg.inj (h3.symm.trans e))
  subst hbs;refine j6 fun i v hvv=>?_;have hc:=World.var?_cell hg' hv i;rw [<- hvv,<- h2];simpa using hc
 have needs:GlobC W:=by
  obtain⟨ps,⟨g',t',cs,fuel,p,q,hg',ht',hv,hd,_,_⟩,_⟩:=h2
  obtain rfl := Ug ((show Tryz.prog.globalNamed "seisin/check.needs" = some 2 by kernel_rfl).symm.trans hg')
  obtain rfl:=Ug ((show (Tryz.prog.globals[2]?).map (·.type)=some 233 by kernel_rfl).symm.trans ht');obtain⟨bs,h1,h2,h3⟩:=zfY Tryz.underlying233 Tryz.underlying5 (by kernel_rfl) (by kernel_rfl) hd;have hbs:bs=zdT:=by
   match bs,h1 with
   | [b0,b1,b2,b3,b4,b5,b6,b7,b8],_ =>
    simp only [Rows.laid_seisin_check_needs,UC,List.map_nil,DataW.agg.injEq,QM,DataW.lit.injEq,Lit.int.injEq,true_and,Gi] at h3;simp only [zdT,QM,Gi];obtain⟨a0,a1,a2,a3,a4,a5,a6,a7,a8⟩:=h3;refine⟨?_,?_,?_,?_,?_,?_,?_,?_,?_⟩ <;> (apply Uh.1;simp;omega)
  subst hbs;refine j6 fun i v hvv=>?_;have hc:=World.var?_cell hg' hv i;rw [<- hvv,<- h2];simpa using hc
 exact⟨t32,t64,needs⟩
def zp7:DataW Unit->List Value
 | .lit (.int k n)=>[.int k n]
 | .lit (.string s)=>[.string ⟨s.toArray⟩]
 | _=>[]
def zp6:DataW Unit->List Value
 | .agg ps=>ps.flatMap zp7
 | x=>zp7 x
def znI:DataW Unit->List Value
 | .agg ps=>ps.flatMap zp6
 | x=>zp6 x
def znc (h:Array Obj) (g:Nat) (cs:List Value):Array Obj:=h.modify g fun
 | .cells _ t frozen => .cells cs.toArray t frozen
 | o=>o
def zrO (h:Array Obj):Array Obj :=
 let h1:=znc h 0 (znI Rows.laid_math_bits_deBruijn32tab)
 let h2:=znc h1 1 (znI Rows.laid_math_bits_deBruijn64tab)
 znc h2 2 (znI Rows.laid_seisin_check_needs)
noncomputable def zf7 (os:Os):Wd :=
 { World.holding PG os ⟨#[],#[],[]⟩ with heap:=zrO (World.holding PG os ⟨#[],#[],[]⟩).heap }
theorem zf6 (os:Os) (args:Array Value):laidMetH PG zaA ((zf7 os).forCall (fun _ _=>0) ⟨#[],args,[]⟩).memory:=by
 show laidMet PG zaA _;exact laidMet_of_run' 8 (by kernel_rfl) (by kernel_rfl)
end Go.Proofs.YtpalcnbhkigagaaGreatDoor
