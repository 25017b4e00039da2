/- Contracts of functions, and plain facts, for the law that the last text of this claim proves. -/
import Derived.Test.YtkpaomeeknegpaaGreatDoorQ3
import Derived.Test.YtkpaomeeknegpaaGreatDoorQ5
import Derived.Test.YtkpaomeeknegpaaGreatDoorQ4
set_option linter.unusedSimpArgs false
set_option linter.unusedVariables false
namespace Go.Proofs.YtkpaomeeknegpaaGreatDoor
open Go.Vc Go.RowKit Go.Sei
theorem zdW {a b:Nat}:decide ((a:Int)<(b:Int))=decide (a<b):=by rw [QE];omega
def jM (c:Cnd):Bool:=decide (c.thread=0)&&(decide (c.n=0)&&decide (c.val=0))
theorem zaN {threads locs d:Nat} (c:Cnd):zay threads locs (d+1) c=(if c.kind=0 then jM c&&decide (c.kids.length=0) else
  if c.kind=1 then decide (c.thread.toNat<threads)&&(decide (c.n.toNat<8)&&decide (c.kids.length=0)) else
  if c.kind=2 then decide (c.n.toNat<locs)&&(decide (c.thread=0)&&decide (c.kids.length=0)) else
  if c.kind=3\/c.kind=4 then jM c&&(decide (2<=c.kids.length)&&c.kids.all (zay threads locs d)) else
  if c.kind=5 then jM c&&(decide (c.kids.length=1)&&c.kids.all (zay threads locs d)) else false):=by
 obtain⟨k,t,n,v,kids⟩:=c;rfl
def zsX (c:Cnd):Prop:=(c.kind=3\/c.kind=4)/\jM c=true/\2<=c.kids.length\/c.kind=5/\jM c=true/\c.kids.length=1
theorem zmn {threads locs d:Nat} {c:Cnd} (h:zsX c):zay threads locs (d+1) c=c.kids.all (zay threads locs d):=by
 rw [zaN];rcases h with ⟨h1,h2,h3⟩ | ⟨h1,h2,h3⟩
 ·rw [Gm (by rcases h1 with h | h <;> rw [h] <;> decide),Gm (by rcases h1 with h | h <;> rw [h] <;> decide),Gm (by rcases h1 with h | h <;> rw [h] <;> decide),Gn h1,h2,Uq h3];rfl
 ·rw [Gm (by rw [h1];decide),Gm (by rw [h1];decide),Gm (by rw [h1];decide),Gm (by rw [h1];decide),Gn h1,h2,Uq h3];rfl
theorem zlm {B threads locs:Nat} {w:Wd} (hB:B<=w.heap.size):∀ (d:Nat) (c:Cnd) (b o:Nat) (p:OA) (cap:Nat),d<=1000->b<B->zK w ⟨b,o,none⟩ (zbn c p cap)->KidsV B w p c.kids ->
  Calls PG 100 #[.pointer (some ⟨b,o,none⟩),i64 threads,i64 locs,i64 d] w fun e w'=>e = .returned (.bool (zay threads locs d c))/\w=w':=by
 intro d
 induction d with
 | zero =>
  intro c b o p cap _ hb hc hk;refine zI 141 [.pointer (some ⟨b,o,none⟩),i64 threads,i64 locs,i64 0] Tryz.func100 ?_;exact brT ⟨rfl,rfl⟩
 | succ d ih =>
  intro c b o p cap hd hb hc hk;refine qA 141 [.pointer (some ⟨b,o,none⟩),i64 threads,i64 locs,i64 (d+1:Nat)] (.s .p (.s .p (.c .p (.c .p .p)))) Tryz.func100 ?_;have hbl:b<w.heap.size:=nL hb hB;refine biE (fun h=>?_) fun h=>?_
  ·have h:((d+1:Nat):Int)=0:=dT h;omega
  clear h;refine⟨Unit,fun _=>⟨[(0,.pointer (some ⟨b,o,none⟩)),(1,i64 threads),(2,i64 locs),(3,i64 (d+1:Nat)),(9,.bool (jM c))],[]⟩,fun _ X=>w=X,?_,?_⟩
  ·have fin:∀ {v:Bool},v=jM c->some (Value.bool v)=some (.bool (jM c)):=fun h=>by rw [h]
   refine⟨_,zc hc (i:=1) rfl,biE (fun h1=>?_) fun h1=>?_⟩
   ·have h1:decide (c.thread=0)=true:=(u8d c.thread 0).symm.trans h1;refine⟨_,zc hc (i:=2) rfl,biE (fun h2=>?_) fun h2=>?_⟩
    ·have h2:decide (c.n=0)=true:=(u8d c.n 0).symm.trans h2;exact⟨_,zc hc (i:=3) rfl,(),⟨.cons rfl (.cons rfl (.cons rfl (.cons rfl (.cons (fin (by unfold jM;rw [h1,h2];exact u8d c.val 0)) .nil)))),rfl⟩,rfl⟩
    ·have h2:decide (c.n=0)=false:=(u8d c.n 0).symm.trans h2;exact⟨(),⟨.cons rfl (.cons rfl (.cons rfl (.cons rfl (.cons (fin (by unfold jM;rw [h1,h2];rfl)) .nil)))),rfl⟩,rfl⟩
   ·have h1:decide (c.thread=0)=false:=(u8d c.thread 0).symm.trans h1;exact brF ⟨(),⟨.cons rfl (.cons rfl (.cons rfl (.cons rfl (.cons (fin (by unfold jM;rw [h1];rfl)) .nil)))),rfl⟩,rfl⟩
  rintro _ _ rfl;refine⟨Unit,fun _=>⟨[(0,.pointer (some ⟨b,o,none⟩)),(1,i64 threads),(2,i64 locs),(3,i64 (d+1:Nat))],[]⟩,fun _ X=>zsX c/\w=X,?_,?_⟩
  ·have hkn:c.kids.length<=140737488351232:=by have:=hk.inv.1;omega
   refine⟨_,zc hc (i:=0) rfl,biE (fun h0=>?_) fun h0=>?_⟩
   ·have h0:c.kind=0:=dT ((u8d c.kind 0).symm.trans h0);have e:zay threads locs (d+1) c=(jM c&&decide (c.kids.length=0)):=(by rw [zaN,Gn h0]);rw [e];refine biE (fun h=>?_) fun h=>?_
    ·have h:jM c=true:=h;exact⟨_,zc hc (i:=4) rfl,rb (by rw [h,Uw];exact zca),rfl⟩
    ·have h:jM c=false:=h;exact⟨rb (by rw [h];rfl),rfl⟩
   have h0:¬ c.kind=0:=dF ((u8d c.kind 0).symm.trans h0);refine biE (fun h1=>?_) fun h1=>?_
   ·have h1:c.kind=1:=dT ((u8d c.kind 1).symm.trans h1);have e:zay threads locs (d+1) c=(decide (c.thread.toNat<threads)&&(decide (c.n.toNat<8)&&decide (c.kids.length=0))):=(by rw [zaN,Gm h0,Gn h1]);rw [e];refine⟨_,zc hc (i:=1) rfl,_,q8 _,biE (fun h=>?_) fun h=>?_⟩
    ·have h:decide (c.thread.toNat<threads)=true:=zdW.symm.trans h;refine⟨_,zc hc (i:=2) rfl,biE (fun h2=>?_) fun h2=>?_⟩
     ·have h2:decide (c.n.toNat<8)=true:=(zdW (b:=8)).symm.trans h2;exact⟨_,zc hc (i:=4) rfl,rb (by rw [h,h2];exact zca),rfl⟩
     ·have h2:decide (c.n.toNat<8)=false:=(zdW (b:=8)).symm.trans h2;exact⟨rb (by rw [h,h2];rfl),rfl⟩
    ·have h:decide (c.thread.toNat<threads)=false:=zdW.symm.trans h;exact brF ⟨rb (by rw [h];rfl),rfl⟩
   have h1:¬ c.kind=1:=dF ((u8d c.kind 1).symm.trans h1);refine biE (fun h2=>?_) fun h2=>?_
   ·have h2:c.kind=2:=dT ((u8d c.kind 2).symm.trans h2);have e:zay threads locs (d+1) c=(decide (c.n.toNat<locs)&&(decide (c.thread=0)&&decide (c.kids.length=0))):=(by rw [zaN,Gm h0,Gm h1,Gn h2]);rw [e];refine⟨_,zc hc (i:=2) rfl,_,q8 _,biE (fun h=>?_) fun h=>?_⟩
    ·have h:decide (c.n.toNat<locs)=true:=zdW.symm.trans h;refine⟨_,zc hc (i:=1) rfl,biE (fun h3=>?_) fun h3=>?_⟩
     ·have h3:decide (c.thread=0)=true:=(u8d c.thread 0).symm.trans h3;exact⟨_,zc hc (i:=4) rfl,rb (by rw [h,h3];exact zca),rfl⟩
     ·have h3:decide (c.thread=0)=false:=(u8d c.thread 0).symm.trans h3;exact⟨rb (by rw [h,h3];rfl),rfl⟩
    ·have h:decide (c.n.toNat<locs)=false:=zdW.symm.trans h;exact brF ⟨rb (by rw [h];rfl),rfl⟩
   have h2:¬ c.kind=2:=dF ((u8d c.kind 2).symm.trans h2);have g34:∀ (hk34:c.kind=3\/c.kind=4),zay threads locs (d+1) c=(jM c&&(decide (2<=c.kids.length)&&c.kids.all (zay threads locs d))):=fun hk34=>by
    rw [zaN,Gm h0,Gm h1,Gm h2,Gn hk34]
   refine biE (fun h3=>?_) fun h3=>?_
   ·have h3':decide ((c.kind.toNat:Int)=3)=true:=h3;have h3:c.kind=3\/c.kind=4 := .inl (dT ((u8d c.kind 3).symm.trans h3));refine brE h3' (biE (fun h=>?_) fun h=>?_)
    ·have h:(!jM c)=true:=h;have h:jM c=false:=(by simpa using h);exact brT ⟨rb (by rw [g34 h3,h];rfl),rfl⟩
    ·have h:(!jM c)=false:=h;have h:jM c=true:=(by simpa using h);refine⟨_,zc hc (i:=4) rfl,biE (fun h4=>?_) fun h4=>?_⟩
     ·have h4:(c.kids.length:Int)<2:=dT h4;exact⟨rb (by rw [g34 h3,Uf (by omega)];simp),rfl⟩
     ·have h4:¬ (c.kids.length:Int)<2:=dF h4;exact⟨(),(cvE rfl rfl),.inl ⟨h3,h,by omega⟩,rfl⟩
   have h3:¬ c.kind=3:=dF ((u8d c.kind 3).symm.trans h3);refine biE (fun h4=>?_) fun h4=>?_
   ·have h3:c.kind=3\/c.kind=4 := .inr (dT ((u8d c.kind 4).symm.trans h4));refine biE (fun h=>?_) fun h=>?_
    ·have h:(!jM c)=true:=h;have h:jM c=false:=(by simpa using h);exact brT ⟨rb (by rw [g34 h3,h];rfl),rfl⟩
    ·have h:(!jM c)=false:=h;have h:jM c=true:=(by simpa using h);refine⟨_,zc hc (i:=4) rfl,biE (fun h4=>?_) fun h4=>?_⟩
     ·have h4:(c.kids.length:Int)<2:=dT h4;exact⟨rb (by rw [g34 h3,Uf (by omega)];simp),rfl⟩
     ·have h4:¬ (c.kids.length:Int)<2:=dF h4;exact⟨(),(cvE rfl rfl),.inl ⟨h3,h,by omega⟩,rfl⟩
   have h4:¬ c.kind=4:=dF ((u8d c.kind 4).symm.trans h4);have h34:¬ (c.kind=3\/c.kind=4):=fun h=>h.elim h3 h4;refine biE (fun h5=>?_) fun h5=>?_
   ·have h5:c.kind=5:=dT ((u8d c.kind 5).symm.trans h5);have e:zay threads locs (d+1) c=(jM c&&(decide (c.kids.length=1)&&c.kids.all (zay threads locs d))):=(by rw [zaN,Gm h0,Gm h1,Gm h2,Gm h34,Gn h5]);refine biE (fun h=>?_) fun h=>?_
    ·have h:(!jM c)=true:=h;have h:jM c=false:=(by simpa using h);exact brT ⟨rb (by rw [e,h];rfl),rfl⟩
    ·have h:(!jM c)=false:=h;have h:jM c=true:=(by simpa using h);refine⟨_,zc hc (i:=4) rfl,biE (fun h4=>?_) fun h4=>?_⟩
     ·have h4:(!decide ((c.kids.length:Int)=1))=true:=h4;have h4:¬ (c.kids.length:Int)=1:=(by simpa using h4);exact⟨rb (by rw [e,Uf (by omega)];simp),rfl⟩
     ·have h4:(!decide ((c.kids.length:Int)=1))=false:=h4;have h4:(c.kids.length:Int)=1:=(by simpa using h4);exact⟨(),(cvE rfl rfl),.inr ⟨h5,h,by omega⟩,rfl⟩
   have h5:¬ c.kind=5:=dF ((u8d c.kind 5).symm.trans h5);exact⟨rb (by rw [zaN,Gm h0,Gm h1,Gm h2,Gm h34,Gm h5]),rfl⟩
  rintro _ _ ⟨ha,rfl⟩;rw [zmn ha];refine⟨_,zc hc (i:=4) rfl,?_⟩;obtain⟨hn,b1,o1,hp,hks⟩:=hk.inv;refine⟨Nat,fun k=>⟨[(0,.pointer (some ⟨b,o,none⟩)),(1,i64 threads),(2,i64 locs),(3,i64 (d+1:Nat)),(124,i64 c.kids.length),(125,i64 (k:Nat))],[]⟩,fun k X=>k<=c.kids.length/\(∀ x∈c.kids.take k,zay threads locs d x=true)/\w=X,fun k=>c.kids.length-k,0,
   (cvE rfl rfl),⟨UY _,by simp,rfl⟩,?_⟩
  rintro k _ ⟨hk,hall,rfl⟩;dsimp only at hk hall ⊢;refine biE (fun hc2=>?_) fun hc2=>?_
  ·have hc2:(k:Int)<(c.kids.length:Int):=dT hc2;have hkl:k<c.kids.length:=by omega
   rcases hp with hp | rfl
   ·omega
   obtain⟨q,cq,hb1,hq,hkq⟩:=hks k hkl;refine⟨_,zc hc (i:=4) rfl,k,rfl,hkl,(d:Int),(ze (by omega)).trans (by omega),cmo (ih c.kids[k] b1 (o1+k*5) q cq (by omega) hb1 hq hkq) ?_⟩;rintro e _ ⟨rfl,rfl⟩;refine biE (fun h=>?_) fun h=>?_
   ·have h:(!zay threads locs d c.kids[k])=true:=h;refine⟨rb ?_,rfl⟩;symm;rw [KL];exact⟨c.kids[k],gM _,by simpa using h⟩
   ·have h:(!zay threads locs d c.kids[k])=false:=h;refine⟨_,(ze (by omega)).trans rfl,k+1,(cvE rfl rfl),⟨hkl,?_,rfl⟩,zdc (by omega)⟩;rw [tsg hkl];intro x hx;rcases QQ.1 hx with hx | hx
    ·exact hall x hx
    ·simp only [KA] at hx;rw [hx];simpa using h
  ·have hc2:¬ (k:Int)<(c.kids.length:Int):=dF hc2;obtain rfl:k=c.kids.length:=by omega
   rw [Qv] at hall;exact⟨rb (Qi.2 hall).symm,rfl⟩
theorem zug {B threads locs cap:Nat} {p:OA} {c:Cnd} {w:Wd} (hB:B<=w.heap.size) (hk:KidsV B w p c.kids) :
  CB 70 #[.agg (zbn c p cap).toArray,i64 threads,i64 locs] w (.bool (zay threads locs 20 c)):=by
 refine zI 10 [.agg (zbn c p cap).toArray,i64 threads,i64 locs] Tryz.func70 ?_;have hb:Bw w (w.alloc (.cells (zbn c p cap).toArray 27)):=zba w _;have hn:=zw w (.cells (zbn c p cap).toArray 27);refine cmo (zlm (B:=w.heap.size+1) (by rw [wz];omega) 20 c w.heap.size 0 p cap (by omega) (by omega) (za hn) ((hk.kept (hb.mono hB)).wider (by omega))) ?_;rintro e _ ⟨rfl,rfl⟩;exact⟨rfl,hb⟩
theorem zkY {g:Nat} {p:Prg} {p1 p2 p3 p4:OA} {c1 c2 c3 c4 B:Nat} {w:Wd} (hc:zK w ⟨g,0,none⟩ (ju p p1 c1 p2 c2 p3 c3 p4 c4)) (hg:g<w.heap.size) (h1:RowB zl7 B w p1 p.locs) (hB:B<=w.heap.size) (hcap:p.locs.length<=c1) (hl:PrgLen p) :
  CB 62 #[At0 g] w (.bool (zdx p)):=by
 refine qA 56 [At0 g] (.s .p (.c .p .p)) Tryz.func62 ?_;have hbd:Bw w w.drew:=(Ga _ w).drew;have hcd:zK w.drew ⟨g,0,none⟩ (ju p p1 c1 p2 c2 p3 c3 p4 c4):=zr hbd hc;have h1d:SlR zl7 w.drew p1 p.locs:=(h1.below (hbd.mono hB)).slr (UL hB hbd.size);have hln:=hl.locs;refine⟨Unit,fun _=>⟨[(0,At0 g)],[]⟩,fun _ X=>(1<=p.locs.length/\p.locs.length<=6/\p.init.length=p.locs.length)/\X=w.drew,?_,?_⟩
 ·refine DrawE.ord [] [0,1,2,3,4,5,6,7,8,9,10,11,12,13,14,15,16,17,18,19,20,21,22,23,24,25,26] (by kernel_rfl) ⟨_,zc hcd (i:=1) rfl,biE (fun ha=>?_) fun ha=>?_⟩
  ·have ha:(p.locs.length:Int)<1:=dT ha;exact brT (brT ⟨rb (by unfold zdx;rw [Uf (by omega)];rfl),hbd⟩)
  ·have ha:¬ (p.locs.length:Int)<1:=dF ha;refine⟨_,zc hcd (i:=1) rfl,biE (fun hd=>?_) fun hd=>?_⟩
   ·have hd:(6:Int)<(p.locs.length:Int):=dT hd;exact brT ⟨rb (by unfold zdx;rw [Uf (p:=p.locs.length<=6) (by omega)];simp),hbd⟩
   ·have hd:¬ (6:Int)<(p.locs.length:Int):=dF hd;refine⟨_,zc hcd (i:=2) rfl,_,zc hcd (i:=1) rfl,biE (fun he=>?_) fun he=>?_⟩
    ·have he:(!decide ((p.init.length:Int)=(p.locs.length:Int)))=true:=he;have he:¬ (p.init.length:Int)=(p.locs.length:Int):=(by simpa using he);exact⟨rb (by unfold zdx;rw [Uf (p:=p.init.length=p.locs.length) (by omega)];simp),hbd⟩
    ·have he:(!decide ((p.init.length:Int)=(p.locs.length:Int)))=false:=he;have he:(p.init.length:Int)=(p.locs.length:Int):=(by simpa using he);exact⟨(),(cvE rfl rfl),⟨by omega,by omega,by omega⟩,rfl⟩
 rintro _ _ ⟨⟨l1,l6,li⟩,rfl⟩;have hdef:zdx p=zet [] p.locs:=by unfold zdx;rw [Uq l1,Uq l6,Uq li];rfl
 rw [hdef];refine⟨_,zc hcd (i:=1) rfl,?_⟩;refine⟨Nat,fun k=>⟨[(0,At0 g),(35,.slice p1 p.locs.length c1),(36,i64 p.locs.length),(37,i64 (k:Nat))],[]⟩,fun k X=>k<=p.locs.length/\zet (p.locs.take k) (p.locs.drop k)=zet [] p.locs/\X=w.drew,fun k=>p.locs.length-k,0,
  (cvE rfl rfl),⟨UY _,rfl,rfl⟩,?_⟩
 rintro k _ ⟨hk,hna,rfl⟩;dsimp only at hk hna ⊢;refine biE (fun hc2=>?_) fun hc2=>?_
 ·have hc2:(k:Int)<(p.locs.length:Int):=dT hc2;have hkl:k<p.locs.length:=by omega
  obtain⟨b,o,rfl,hb,hat⟩:=h1d.at hkl;have hbk:Bw w w.drew:=hbd;refine⟨k,rfl,hkl,_,zc (hat k hkl) (i:=0) rfl,?_⟩;have hs:p.locs[k].length<=140737488351232:=hl.loc _ (gM _);have hstep:zet [] p.locs=(ze6 p.locs[k]&&(!((p.locs.take k).any fun q=>decide (q=p.locs[k]))&&zet (p.locs.take (k+1)) (p.locs.drop (k+1)))):=by
   rw [<- hna,Jq hkl,tsg hkl];rfl
  refine cmo (zub p.locs[k] hs _) ?_;rintro e _ ⟨rfl,rfl⟩;refine biE (fun h=>?_) fun h=>?_
  ·have h:(!ze6 p.locs[k])=true:=h;have h:ze6 p.locs[k]=false:=by simpa using h
   exact brT ⟨rb (by rw [hstep,h];rfl),hbd⟩
  ·have h:(!ze6 p.locs[k])=false:=h;have h:ze6 p.locs[k]=true:=by simpa using h
   refine⟨_,zc hcd (i:=1) rfl,k,rfl,by omega,?_⟩;have hsub:SlR zl7 w.drew (jq (some ⟨b,o,none⟩) c1 0 1) (p.locs.take k):=SlR.sub h1d (lo:=0) (hi:=k) (UY _) (by omega) hcap;have htl:(p.locs.take k).length=k:=by rw [Qt];omega
   have hcn:=zmy (jq (some ⟨b,o,none⟩) c1 0 1) (c1-0) (p.locs.take k) p.locs[k] w.drew hsub (by omega);rw [htl] at hcn;refine cmo hcn ?_;rintro e _ ⟨rfl,rfl⟩;refine biE (fun h5=>?_) fun h5=>?_
   ·have h5:((p.locs.take k).any fun q=>decide (q=p.locs[k]))=true:=h5;exact⟨rb (by rw [hstep,h5];simp),hbd⟩
   ·have h5:((p.locs.take k).any fun q=>decide (q=p.locs[k]))=false:=h5;exact⟨_,(ze (by omega)).trans rfl,k+1,(cvE rfl rfl),⟨hkl,by rw [hstep,h,h5];rfl,rfl⟩,zdc (by omega)⟩
 ·have hc2:¬ (k:Int)<(p.locs.length:Int):=dF hc2;obtain rfl:k=p.locs.length:=by omega
  rw [Ql] at hna;exact⟨rb hna,hbd⟩
structure DmV (B:Nat) (X:Wd) (g bx:Nat) (p:Prg):Prop where
 hB:B<=X.heap.size
 hg:g<X.heap.size
 len:PrgLen p
 h:∃ p1 c1 p2 c2 p3 c3 p4 c4,zK X ⟨g,0,none⟩ (ju p p1 c1 p2 c2 p3 c3 p4 c4)/\RowB zl7 B X p1 p.locs/\RowB zW B X p2 p.init/\ThrsV B X p3 p.threads/\KidsV B X p4 p.cond.kids/\p.locs.length<=c1
 b:X.heap[bx]?=some (.cells #[At0 g] 85 (0,0))
 G:GlobC X
theorem DmV.below {B:Nat} {X Y:Wd} {g bx:Nat} {p:Prg} (h:DmV B X g bx p) (hb:Bw X Y):DmV B Y g bx p:=by
 obtain⟨p1,c1,p2,c2,p3,c3,p4,c4,h0,h1,h2,h3,h4,h5⟩:=h.h;have hb':=hb.mono h.hB;exact⟨UL h.hB hb.size,nL h.hg hb.size,h.len,⟨p1,c1,p2,c2,p3,c3,p4,c4,zr hb h0,h1.below hb',h2.below hb',h3.below hb',h4.kept hb',h5⟩,zb hb h.b,h.G.below hb⟩
def zlY (sel:Bool) (bx:Nat):Value:=match sel with
 | false => .func (.func 64) #[] #[]
 | true => .func (.func 66) #[] #[.pointer (some ⟨bx,0,none⟩)]
def zci (sel:Bool) (p:Prg) (l:List InsD):Bool:=match sel with
 | false=>decide (l.length<=12)
 | true=>qs l p.locs.length
section
variable {B g bx:Nat} {p:Prg} {w:Wd}
theorem zrb (q:OA) (cap:Nat) (l:List InsD):Calls PG 64 #[.slice q l.length cap] w fun e w'=>e = .returned (.bool (decide (l.length<=12)))/\w=w':=by
 refine zI 6 [.slice q l.length cap] Tryz.func64 ?_;refine⟨rb ?_,rfl⟩;rw [QE];show ((l.length:Int)<=12)↔_;omega
theorem zo7 (h:DmV B w g bx p) {q:OA} {cap:Nat} {l:List InsD} (hl:SlR zF w q l) (hn:l.length<=140737488351232) :
  CB 66 #[.slice q l.length cap,At0 bx] w (.bool (qs l p.locs.length)):=by
 refine zI 11 [.slice q l.length cap,At0 bx] Tryz.func66 ?_;obtain⟨p1,c1,p2,c2,p3,c3,p4,c4,h0,h1,h2,h3,h4,h5⟩:=h.h;refine⟨_,zc (za h.b) (i:=0) rfl,_,zc h0 (i:=1) rfl,cmo (zlB hl h.G hn) ?_⟩;rintro e V ⟨rfl,hb⟩;exact⟨rfl,hb⟩
theorem znr (sel:Bool) (h:DmV B w g bx p):CB 58 #[zlY sel bx,At0 bx] w (.bool (p.threads.all (zci sel p))):=by
 refine zI 20 [zlY sel bx,At0 bx] Tryz.func58 ?_;obtain⟨p1,c1,p2,c2,p3,c3,p4,c4,h0,h1,h2,h3,h4,h5⟩:=h.h;obtain⟨xs,hxs,hr,hx⟩:=h3;have hlen:p.threads.length=xs.length:=by rw [<- hxs,QL]
 have hln:=h.len.threads;refine⟨_,zc (za h.b) (i:=0) rfl,_,zc h0 (i:=3) rfl,?_⟩;refine⟨Nat,fun k=>⟨[(0,zlY sel bx),(1,At0 bx),(9,.slice p3 p.threads.length c3),(10,i64 p.threads.length),(11,i64 (k:Nat))],[]⟩,fun k X=>k<=p.threads.length/\(∀ l∈p.threads.take k,zci sel p l=true)/\Bw w X,fun k=>p.threads.length-k,0,
  (cvE rfl rfl),⟨UY _,by simp,Ga _ _⟩,?_⟩
 rintro k X ⟨hk,hall,hbX⟩;dsimp only at hk hall ⊢;have hX:=h.below hbX;refine biE (fun hc=>?_) fun hc=>?_
 ·have hc:(k:Int)<(p.threads.length:Int):=dT hc;have hkl:k<p.threads.length:=by omega
  have hkx:k<xs.length:=by omega
  have e1:p.threads[k]=xs[k].1:=by simp [<- hxs]
  obtain⟨b,o,hp3,hat⟩:=hr.get;rcases hp3 with hp3 | rfl
  ·omega
  refine⟨k,rfl,hkl,?_⟩;obtain⟨hb1,ha1⟩:=hat k hkx;refine⟨_,zc (zU (hbX.mono h.hB) hb1 ha1) (i:=0) rfl,?_⟩;have zfb:SlR zF X xs[k].2.1 xs[k].1:=((hx _ (gM hkx)).below (hbX.mono h.hB)).slr hX.hB;have hln1:xs[k].1.length<=140737488351232:=by rw [<- e1];exact h.len.thread _ (gM _)
  have hfin:zci sel p xs[k].1=false->p.threads.all (zci sel p)=false:=fun hf=>by
   rw [KL];exact⟨p.threads[k],gM _,by rw [e1,hf];simp⟩
  have hgo:zci sel p xs[k].1=true->∀ l∈p.threads.take (k+1),zci sel p l=true:=fun ht=>by
   rw [tsg hkl];intro x hx;rcases QQ.1 hx with hx | hx
   ·exact hall x hx
   ·simp only [KA] at hx;rw [hx,e1];exact ht
  cases sel with
  | false =>
   refine cmo (zrb xs[k].2.1 xs[k].2.2 xs[k].1) ?_;rintro e _ ⟨rfl,rfl⟩;refine biE (fun hb=>?_) fun hb=>?_
   ·have hb:(!zci false p xs[k].1)=true:=hb;exact⟨rb (hfin (by simpa using hb)).symm,hbX⟩
   ·have hb:(!zci false p xs[k].1)=false:=hb;exact⟨_,(ze (by omega)).trans rfl,k+1,(cvE rfl rfl),⟨hkl,hgo (by simpa using hb),hbX⟩,zdc (by omega)⟩
  | true =>
   refine cmo (zo7 hX (cap:=xs[k].2.2) zfb hln1) ?_;rintro e Y ⟨rfl,hbY⟩;refine biE (fun hb=>?_) fun hb=>?_
   ·have hb:(!zci true p xs[k].1)=true:=hb;exact⟨rb (hfin (by simpa using hb)).symm,(zst hbX hbY)⟩
   ·have hb:(!zci true p xs[k].1)=false:=hb;exact⟨_,(ze (by omega)).trans rfl,k+1,(cvE rfl rfl),⟨hkl,hgo (by simpa using hb),(zst hbX hbY)⟩,zdc (by omega)⟩
 ·have hc:¬ (k:Int)<(p.threads.length:Int):=dF hc;obtain rfl:k=p.threads.length:=by omega
  rw [Qv] at hall;exact⟨rb (Qi.2 hall).symm,hbX⟩
theorem ztS (h:DmV B w g bx p):CB 59 #[At0 bx] w (.bool (zc4 p.name)):=by
 refine zI 7 [At0 bx] Tryz.func59 ?_;obtain⟨p1,c1,p2,c2,p3,c3,p4,c4,h0,h1,h2,h3,h4,h5⟩:=h.h;refine⟨_,zc (za h.b) (i:=0) rfl,_,zc h0 (i:=0) rfl,cmo (zpU p.name h.len.name w) ?_⟩;rintro e V ⟨rfl,hb⟩;exact⟨rfl,hb⟩
theorem ztR (h:DmV B w g bx p):CB 61 #[At0 bx] w (.bool (zdx p)):=by
 refine zI 4 [At0 bx] Tryz.func61 ?_;obtain⟨p1,c1,p2,c2,p3,c3,p4,c4,h0,h1,h2,h3,h4,h5⟩:=h.h;refine⟨_,zc (za h.b) (i:=0) rfl,cmo (zkY h0 h.hg h1 h.hB h5 h.len) ?_⟩;rintro e V ⟨rfl,hb⟩;exact⟨rfl,hb⟩
def evV (bx:Nat):Value := .func (.func 58) #[] #[At0 bx]
theorem ztQ (h:DmV B w g bx p) {ev:Nat} (hev:w.heap[ev]?=some (.cells #[evV bx] 121 (0,0))):CB 63 #[At0 bx,At0 ev] w (.bool (decide (1<=p.threads.length)&&(decide (p.threads.length<=4)&&p.threads.all fun l=>decide (l.length<=12)))):=by
 refine zI 21 [At0 bx,At0 ev] Tryz.func63 ?_;obtain⟨p1,c1,p2,c2,p3,c3,p4,c4,h0,h1,h2,h3,h4,h5⟩:=h.h;refine⟨_,zc (za h.b) (i:=0) rfl,_,zc h0 (i:=3) rfl,biE (fun ha=>?_) fun ha=>?_⟩
 ·have ha:(1:Int)<=(p.threads.length:Int):=dT ha;refine⟨_,zc (za h.b) (i:=0) rfl,_,zc h0 (i:=3) rfl,biE (fun hb=>?_) fun hb=>?_⟩
  ·have hb:(p.threads.length:Int)<=4:=dT hb;refine⟨_,zc (za hev) (i:=0) rfl,cmo (znr false h) ?_⟩;rintro e V ⟨rfl,hbV⟩;refine⟨rb ?_,hbV⟩;rw [Uq (by omega),Uq (by omega),Uw,Uw];rfl
  ·have hb:¬ (p.threads.length:Int)<=4:=dF hb;exact⟨rb (by rw [Uf (p:=p.threads.length<=4) (by omega)];simp),Ga _ _⟩
 ·have ha:¬ (1:Int)<=(p.threads.length:Int):=dF ha;exact brF ⟨rb (by rw [Uf (p:=1<=p.threads.length) (by omega)];rfl),Ga _ _⟩
theorem ztP (h:DmV B w g bx p) {ev:Nat} (hev:w.heap[ev]?=some (.cells #[evV bx] 121 (0,0))):CB 65 #[At0 ev,At0 bx] w (.bool (p.threads.all fun l=>qs l p.locs.length)):=by
 refine zI 6 [At0 ev,At0 bx] Tryz.func65 ?_;refine⟨_,zc (za hev) (i:=0) rfl,cmo (znr true h) ?_⟩;rintro e V ⟨rfl,hbV⟩;exact⟨rfl,hbV⟩
theorem ztO (h:DmV B w g bx p):CB 68 #[At0 bx] w (.bool (decide (p.ask=1)||(decide (p.ask=2)||decide (p.ask=3)))):=by
 refine zI 21 [At0 bx] Tryz.func68 ?_;obtain⟨p1,c1,p2,c2,p3,c3,p4,c4,h0,h1,h2,h3,h4,h5⟩:=h.h;refine⟨_,zc (za h.b) (i:=0) rfl,_,zc h0 (i:=4) rfl,biE (fun ha=>?_) fun ha=>?_⟩
 ·have ha:decide (p.ask=1)=true:=(u8d p.ask 1).symm.trans ha;exact brT ⟨rb (by rw [ha];rfl),Ga _ _⟩
 ·have ha:decide (p.ask=1)=false:=(u8d p.ask 1).symm.trans ha;refine⟨_,zc (za h.b) (i:=0) rfl,_,zc h0 (i:=4) rfl,biE (fun hb=>?_) fun hb=>?_⟩
  ·have hb:decide (p.ask=2)=true:=(u8d p.ask 2).symm.trans hb;exact⟨rb (by rw [ha,hb];rfl),Ga _ _⟩
  ·have hb:decide (p.ask=2)=false:=(u8d p.ask 2).symm.trans hb;exact⟨_,zc (za h.b) (i:=0) rfl,_,zc h0 (i:=4) rfl,rb (by rw [ha,hb];exact u8d p.ask 3),Ga _ _⟩
theorem ztN (h:DmV B w g bx p):CB 69 #[At0 bx] w (.bool (zay p.threads.length p.locs.length 20 p.cond)):=by
 refine zI 17 [At0 bx] Tryz.func69 ?_;have hbd:Bw w w.drew:=(Ga _ w).drew;have hd:=h.below hbd;obtain⟨p1,c1,p2,c2,p3,c3,p4,c4,h0,h1,h2,h3,h4,h5⟩:=hd.h;refine DrawE.ord [] [0,1,2,3,4,5,6,7,8,9,10,11,12,13,14,15] (by kernel_rfl) ⟨_,zc (za hd.b) (i:=0) rfl,zbn p.cond p4 c4,rfl,zR (n:=5) (m:=5) h0,hd.hg,_,zc (za hd.b) (i:=0) rfl,_,zc h0 (i:=3) rfl,_,zc (za hd.b) (i:=0) rfl,_,zc h0 (i:=1) rfl,cmo (zug hd.hB h4) ?_⟩;rintro e V ⟨rfl,hbV⟩;exact⟨hbV,rfl,hbd.trans hbV⟩
def ztM (bx ev:Nat):List Value:=[i64 70,.func (.func 59) #[] #[At0 bx],i64 71,.func (.func 61) #[] #[At0 bx],
 i64 72,.func (.func 63) #[] #[At0 bx,At0 ev],i64 73,.func (.func 65) #[] #[At0 ev,At0 bx],
 i64 75,.func (.func 68) #[] #[At0 bx],i64 74,.func (.func 69) #[] #[At0 bx]]
theorem zoy {g:Nat} {w:Wd}:Calls PG 28 #[At0 g] w fun e w'=>e = .returned (.slice (some ⟨w.heap.size+2,0,none⟩) 6 6) /\
  w'.heap[w.heap.size]?=some (.cells #[At0 g] 85 (0,0))/\w'.heap[w.heap.size+1]?=some (.cells #[evV w.heap.size] 121 (0,0)) /\
  w'.heap[w.heap.size+2]?=some (.cells (ztM w.heap.size (w.heap.size+1)).toArray 87 (0,0))/\w'.heap.size=w.heap.size+3/\Bw w w':=by
 refine zI 18 [At0 g] Tryz.func28 ?_;have hs:=wz w (.cells (At0 g).cells 85);refine zq (X:=w.alloc (.cells (At0 g).cells 85)) (v:=evV w.heap.size) zu8 rfl rfl rfl fun V hbV fV sV=>?_;generalize hev:(w.alloc (.cells (At0 g).cells 85)).heap.size=ev at *;refine⟨[i64 70,.func (.func 59) #[] #[.pointer (some ⟨w.heap.size,0,none⟩)]],rfl,[i64 71,.func (.func 61) #[] #[.pointer (some ⟨w.heap.size,0,none⟩)]],rfl,[i64 72,.func (.func 63) #[] #[.pointer (some ⟨w.heap.size,0,none⟩),At0 ev]],rfl,[i64 73,.func (.func 65) #[] #[At0 ev,.pointer (some ⟨w.heap.size,0,none⟩)]],rfl,[i64 75,.func (.func 68) #[] #[.pointer (some ⟨w.heap.size,0,none⟩)]],rfl,[i64 74,.func (.func 69) #[] #[.pointer (some ⟨w.heap.size,0,none⟩)]],rfl,⟨by decide,by decide,rfl⟩,ztM w.heap.size ev,rfl,?_⟩;subst hs;refine⟨?_,?_,?_,?_,?_,?_⟩
 ·rw [sV];rfl
 ·exact qM _ (zb (show Below _ _ _ from hev▸hbV) (zw w _))
 ·exact qM _ fV
 ·rw [show w.heap.size+2=V.heap.size from sV.symm];exact zw _ _
 ·rw [wz,sV]
 ·exact (((zba w _)).trans (hbV.mono (by omega))).alloc (by omega) _
end
def okL (p:Prg):List Bool:=[zc4 p.name,zdx p,decide (1<=p.threads.length)&&(decide (p.threads.length<=4)&&p.threads.all fun l=>decide (l.length<=12)),p.threads.all (fun l=>qs l p.locs.length),
 decide (p.ask=1)||(decide (p.ask=2)||decide (p.ask=3)),zay p.threads.length p.locs.length 20 p.cond]
theorem znc {p:Prg}:zdu p=(okL p).all id:=by
 unfold zdu okL;simp only [Uy,List.all_nil,Bool.and_true,id]
theorem znN {B:Nat} {p:Prg} {vs:List Value} {w:Wd} (hB:B<=w.heap.size) (hp:PrgV B w vs p) (hG:GlobC w) :
  Calls PG 11 #[.agg vs.toArray] w fun e w'=>∃ n:Int,e = .returned (i64 n)/\(n=0↔zdu p=true)/\Bw w w':=by
 obtain⟨hl,p1,c1,p2,c2,p3,c3,p4,c4,rfl,h1,h2,h3,h4,h5⟩:=hp;refine zI 18 [.agg (ju p p1 c1 p2 c2 p3 c3 p4 c4).toArray] Tryz.func11 ?_;obtain⟨L,hL⟩:=nm (w.heap.size);have hn:=zw w (.cells (Value.agg (ju p p1 c1 p2 c2 p3 c3 p4 c4).toArray).cells 29);have hs:=wz w (.cells (Value.agg (ju p p1 c1 p2 c2 p3 c3 p4 c4).toArray).cells 29);have hb:Bw w (w.alloc (.cells (Value.agg (ju p p1 c1 p2 c2 p3 c3 p4 c4).toArray).cells 29)):=zba w _;refine cmo zoy ?_;rintro e V ⟨rfl,hbx,hev,hsl,hsz,hbV⟩;have hbw:Bw w V:=zst hb hbV;have p1':some (Value.slice (some ⟨(w.alloc (.cells (Value.agg (ju p p1 c1 p2 c2 p3 c3 p4 c4).toArray).cells 29)).heap.size+2,0,none⟩) 6 6)=some (Value.slice (some ⟨L+3,0,none⟩) 6 6):=by rw [hs,hL]
 have hD:DmV B V L (L+1) p:=by
  have hbB:=hbw.mono hB;rw [hs,<- hL] at hbx;refine⟨UL hB hbw.size,by omega,hl,⟨p1,c1,p2,c2,p3,c3,p4,c4,za (zb hbV (hL▸hn)),h1.below hbB,h2.below hbB,h3.below hbB,h4.kept hbB,h5⟩,hbx,hG.below hbw⟩
 rw [hs,<- hL] at hev hsl;clear hn hs hb hbx hbV hsz;refine⟨Nat,fun j=>⟨[(5,.slice (some ⟨L+3,0,none⟩) 6 6),(6,i64 6),(7,i64 (j:Nat))],[]⟩,
  fun j X=>j<=6/\(∀ i,i<j->(okL p)[i]?=some true)/\DmV B X L (L+1) p/\X.heap[L+2]?=some (.cells #[evV (L+1)] 121 (0,0))/\X.heap[L+3]?=some (.cells (ztM (L+1) (L+2)).toArray 87 (0,0))/\Bw w X,fun j=>6-j,0,
  ⟨.cons p1' (.cons rfl (.cons rfl .nil)),rfl⟩,⟨UY _,fun i hi=>by omega,hD,hev,hsl,hbw⟩,?_⟩
 clear hD hev hsl hbw p1';rintro j X ⟨hj,hpre,hD,hev,hsl,hbw⟩;dsimp only at hj hpre ⊢;refine biE (fun hc=>?_) fun hc=>?_
 ·have hc:(j:Int)<6:=dT hc;have hno:∀ {i:Nat},(okL p)[i]?=some false->zdu p=false:=fun h=>by rw [znc];exact zqO h
  have hcs:j=0\/j=1\/j=2\/j=3\/j=4\/j=5:=by omega
  rcases hcs with rfl | rfl | rfl | rfl | rfl | rfl
  ·refine⟨0,rfl,by decide,?_⟩;refine⟨[i64 70,.func (.func 59) #[] #[At0 (L+1)]],rfl,zR (n:=0) (m:=2) (za hsl),hlt hsl,zq (X:=X) (v := .agg [i64 70,.func (.func 59) #[] #[At0 (L+1)]].toArray) k87 rfl rfl rfl fun Y hbY fY sY=>?_⟩;have hY:=hD.below hbY;have hevY:=zb hbY hev;have hslY:=zb hbY hsl;refine⟨_,zc (za fY) (i:=1) rfl,cmo (ztS hY) ?_⟩;rintro e W ⟨rfl,hbW⟩;have hbX:Bw w W:=((zst hbw hbY)).trans (hbW.mono (UL hbw.size hbY.size));refine biE (fun hb=>?_) fun hb=>?_
   ·have hb:(!((okL p)[0]'(by show 0<6;decide)))=true:=hb;have hb:(okL p)[0]?=some false:=(by rw [gE (by show 0<6;decide)];exact Gi some (by rw [<- UF ((okL p)[0]'(by show 0<6;decide)),hb];rfl));exact⟨_,zc (za (zb hbW fY)) (i:=0) rfl,70,rfl,⟨fun h=>Gp h (by decide),fun h=>by rw [hno hb] at h;cases h⟩,hbX⟩
   ·have hb:(!((okL p)[0]'(by show 0<6;decide)))=false:=hb;have hb:(okL p)[0]?=some true:=(by rw [gE (by show 0<6;decide)];exact Gi some (by rw [<- UF ((okL p)[0]'(by show 0<6;decide)),hb];rfl));refine⟨_,(ze (by omega)).trans rfl,1,(cvE rfl rfl),⟨by omega,fun i hi=>?_,hY.below hbW,zb hbW hevY,zb hbW hslY,hbX⟩,by decide⟩;by_cases hik:i=0
    ·rw [hik];exact hb
    ·exact hpre i (by omega)
  ·refine⟨1,rfl,by decide,?_⟩;refine⟨[i64 71,.func (.func 61) #[] #[At0 (L+1)]],rfl,zR (n:=2) (m:=2) (za hsl),hlt hsl,zq (X:=X) (v := .agg [i64 71,.func (.func 61) #[] #[At0 (L+1)]].toArray) k87 rfl rfl rfl fun Y hbY fY sY=>?_⟩;have hY:=hD.below hbY;have hevY:=zb hbY hev;have hslY:=zb hbY hsl;refine⟨_,zc (za fY) (i:=1) rfl,cmo (ztR hY) ?_⟩;rintro e W ⟨rfl,hbW⟩;have hbX:Bw w W:=((zst hbw hbY)).trans (hbW.mono (UL hbw.size hbY.size));refine biE (fun hb=>?_) fun hb=>?_
   ·have hb:(!((okL p)[1]'(by show 1<6;decide)))=true:=hb;have hb:(okL p)[1]?=some false:=(by rw [gE (by show 1<6;decide)];exact Gi some (by rw [<- UF ((okL p)[1]'(by show 1<6;decide)),hb];rfl));exact⟨_,zc (za (zb hbW fY)) (i:=0) rfl,71,rfl,⟨fun h=>Gp h (by decide),fun h=>by rw [hno hb] at h;cases h⟩,hbX⟩
   ·have hb:(!((okL p)[1]'(by show 1<6;decide)))=false:=hb;have hb:(okL p)[1]?=some true:=(by rw [gE (by show 1<6;decide)];exact Gi some (by rw [<- UF ((okL p)[1]'(by show 1<6;decide)),hb];rfl));refine⟨_,(ze (by omega)).trans rfl,2,(cvE rfl rfl),⟨by omega,fun i hi=>?_,hY.below hbW,zb hbW hevY,zb hbW hslY,hbX⟩,by decide⟩;by_cases hik:i=1
    ·rw [hik];exact hb
    ·exact hpre i (by omega)
  ·refine⟨2,rfl,by decide,?_⟩;refine⟨[i64 72,.func (.func 63) #[] #[At0 (L+1),At0 (L+2)]],rfl,zR (n:=4) (m:=2) (za hsl),hlt hsl,zq (X:=X) (v := .agg [i64 72,.func (.func 63) #[] #[At0 (L+1),At0 (L+2)]].toArray) k87 rfl rfl rfl fun Y hbY fY sY=>?_⟩;have hY:=hD.below hbY;have hevY:=zb hbY hev;have hslY:=zb hbY hsl;refine⟨_,zc (za fY) (i:=1) rfl,cmo (ztQ hY hevY) ?_⟩;rintro e W ⟨rfl,hbW⟩;have hbX:Bw w W:=((zst hbw hbY)).trans (hbW.mono (UL hbw.size hbY.size));refine biE (fun hb=>?_) fun hb=>?_
   ·have hb:(!((okL p)[2]'(by show 2<6;decide)))=true:=hb;have hb:(okL p)[2]?=some false:=(by rw [gE (by show 2<6;decide)];exact Gi some (by rw [<- UF ((okL p)[2]'(by show 2<6;decide)),hb];rfl));exact⟨_,zc (za (zb hbW fY)) (i:=0) rfl,72,rfl,⟨fun h=>Gp h (by decide),fun h=>by rw [hno hb] at h;cases h⟩,hbX⟩
   ·have hb:(!((okL p)[2]'(by show 2<6;decide)))=false:=hb;have hb:(okL p)[2]?=some true:=(by rw [gE (by show 2<6;decide)];exact Gi some (by rw [<- UF ((okL p)[2]'(by show 2<6;decide)),hb];rfl));refine⟨_,(ze (by omega)).trans rfl,3,(cvE rfl rfl),⟨by omega,fun i hi=>?_,hY.below hbW,zb hbW hevY,zb hbW hslY,hbX⟩,by decide⟩;by_cases hik:i=2
    ·rw [hik];exact hb
    ·exact hpre i (by omega)
  ·refine⟨3,rfl,by decide,?_⟩;refine⟨[i64 73,.func (.func 65) #[] #[At0 (L+2),At0 (L+1)]],rfl,zR (n:=6) (m:=2) (za hsl),hlt hsl,zq (X:=X) (v := .agg [i64 73,.func (.func 65) #[] #[At0 (L+2),At0 (L+1)]].toArray) k87 rfl rfl rfl fun Y hbY fY sY=>?_⟩;have hY:=hD.below hbY;have hevY:=zb hbY hev;have hslY:=zb hbY hsl;refine⟨_,zc (za fY) (i:=1) rfl,cmo (ztP hY hevY) ?_⟩;rintro e W ⟨rfl,hbW⟩;have hbX:Bw w W:=((zst hbw hbY)).trans (hbW.mono (UL hbw.size hbY.size));refine biE (fun hb=>?_) fun hb=>?_
   ·have hb:(!((okL p)[3]'(by show 3<6;decide)))=true:=hb;have hb:(okL p)[3]?=some false:=(by rw [gE (by show 3<6;decide)];exact Gi some (by rw [<- UF ((okL p)[3]'(by show 3<6;decide)),hb];rfl));exact⟨_,zc (za (zb hbW fY)) (i:=0) rfl,73,rfl,⟨fun h=>Gp h (by decide),fun h=>by rw [hno hb] at h;cases h⟩,hbX⟩
   ·have hb:(!((okL p)[3]'(by show 3<6;decide)))=false:=hb;have hb:(okL p)[3]?=some true:=(by rw [gE (by show 3<6;decide)];exact Gi some (by rw [<- UF ((okL p)[3]'(by show 3<6;decide)),hb];rfl));refine⟨_,(ze (by omega)).trans rfl,4,(cvE rfl rfl),⟨by omega,fun i hi=>?_,hY.below hbW,zb hbW hevY,zb hbW hslY,hbX⟩,by decide⟩;by_cases hik:i=3
    ·rw [hik];exact hb
    ·exact hpre i (by omega)
  ·refine⟨4,rfl,by decide,?_⟩;refine⟨[i64 75,.func (.func 68) #[] #[At0 (L+1)]],rfl,zR (n:=8) (m:=2) (za hsl),hlt hsl,zq (X:=X) (v := .agg [i64 75,.func (.func 68) #[] #[At0 (L+1)]].toArray) k87 rfl rfl rfl fun Y hbY fY sY=>?_⟩;have hY:=hD.below hbY;have hevY:=zb hbY hev;have hslY:=zb hbY hsl;refine⟨_,zc (za fY) (i:=1) rfl,cmo (ztO hY) ?_⟩;rintro e W ⟨rfl,hbW⟩;have hbX:Bw w W:=((zst hbw hbY)).trans (hbW.mono (UL hbw.size hbY.size));refine biE (fun hb=>?_) fun hb=>?_
   ·have hb:(!((okL p)[4]'(by show 4<6;decide)))=true:=hb;have hb:(okL p)[4]?=some false:=(by rw [gE (by show 4<6;decide)];exact Gi some (by rw [<- UF ((okL p)[4]'(by show 4<6;decide)),hb];rfl));exact⟨_,zc (za (zb hbW fY)) (i:=0) rfl,75,rfl,⟨fun h=>Gp h (by decide),fun h=>by rw [hno hb] at h;cases h⟩,hbX⟩
   ·have hb:(!((okL p)[4]'(by show 4<6;decide)))=false:=hb;have hb:(okL p)[4]?=some true:=(by rw [gE (by show 4<6;decide)];exact Gi some (by rw [<- UF ((okL p)[4]'(by show 4<6;decide)),hb];rfl));refine⟨_,(ze (by omega)).trans rfl,5,(cvE rfl rfl),⟨by omega,fun i hi=>?_,hY.below hbW,zb hbW hevY,zb hbW hslY,hbX⟩,by decide⟩;by_cases hik:i=4
    ·rw [hik];exact hb
    ·exact hpre i (by omega)
  ·refine⟨5,rfl,by decide,?_⟩;refine⟨[i64 74,.func (.func 69) #[] #[At0 (L+1)]],rfl,zR (n:=10) (m:=2) (za hsl),hlt hsl,zq (X:=X) (v := .agg [i64 74,.func (.func 69) #[] #[At0 (L+1)]].toArray) k87 rfl rfl rfl fun Y hbY fY sY=>?_⟩;have hY:=hD.below hbY;have hevY:=zb hbY hev;have hslY:=zb hbY hsl;refine⟨_,zc (za fY) (i:=1) rfl,cmo (ztN hY) ?_⟩;rintro e W ⟨rfl,hbW⟩;have hbX:Bw w W:=((zst hbw hbY)).trans (hbW.mono (UL hbw.size hbY.size));refine biE (fun hb=>?_) fun hb=>?_
   ·have hb:(!((okL p)[5]'(by show 5<6;decide)))=true:=hb;have hb:(okL p)[5]?=some false:=(by rw [gE (by show 5<6;decide)];exact Gi some (by rw [<- UF ((okL p)[5]'(by show 5<6;decide)),hb];rfl));exact⟨_,zc (za (zb hbW fY)) (i:=0) rfl,74,rfl,⟨fun h=>Gp h (by decide),fun h=>by rw [hno hb] at h;cases h⟩,hbX⟩
   ·have hb:(!((okL p)[5]'(by show 5<6;decide)))=false:=hb;have hb:(okL p)[5]?=some true:=(by rw [gE (by show 5<6;decide)];exact Gi some (by rw [<- UF ((okL p)[5]'(by show 5<6;decide)),hb];rfl));refine⟨_,(ze (by omega)).trans rfl,6,(cvE rfl rfl),⟨by omega,fun i hi=>?_,hY.below hbW,zb hbW hevY,zb hbW hslY,hbX⟩,by decide⟩;by_cases hik:i=5
    ·rw [hik];exact hb
    ·exact hpre i (by omega)
 ·have hc:¬ (j:Int)<6:=dF hc;obtain rfl:j=6:=by omega
  exact⟨0,rfl,⟨fun _=>by rw [znc];exact zlA hpre rfl,fun _=>rfl⟩,hbw⟩
def ThrsW (B:Nat) (w:Wd) (p:OA) (l:List (List InsD)):Prop:=∃ xs:List zqS,xs.map (·.1)=l/\RowB zs3 B w p xs/\∀ x∈xs,RowB zF B w x.2.1 x.1/\(x.1≠[]->∀ a,x.2.1=some a->a.block<B)
structure PrgX (B:Nat) (w:Wd) (vs:List Value) (p:Prg):Prop where
 v:PrgV B w vs p
 th:∃ p3 c3,vs[3]?=some (.slice p3 p.threads.length c3)/\ThrsW B w p3 p.threads
 init:∃ p2 c2,vs[2]?=some (.slice p2 p.init.length c2)/\RowB zW B w p2 p.init
theorem ThrsW.below {B:Nat} {w w2:Wd} {p:OA} {l:List (List InsD)} (h:ThrsW B w p l) (hb:Below B w w2):ThrsW B w2 p l:=by
 obtain⟨xs,h1,h2,h3⟩:=h;exact⟨xs,h1,h2.below hb,fun x hx=>⟨(h3 x hx).1.below hb,(h3 x hx).2⟩⟩
theorem PrgX.below {B:Nat} {w w2:Wd} {vs:List Value} {p:Prg} (h:PrgX B w vs p) (hb:Below B w w2):PrgX B w2 vs p:=by
 obtain⟨h1,⟨p3,c3,h2,h3⟩,⟨p2,c2,h4,h5⟩⟩:=h;exact⟨h1.below hb,⟨p3,c3,h2,h3.below hb⟩,⟨p2,c2,h4,h5.below hb⟩⟩
theorem zmP {α:Type} {E:Enc α} {B:Nat} {w:Wd} {p:OA} {l:List α} (h:RowB E B w p l) {i:Nat} (hi:i<l.length):∃ b o,p=some ⟨b,o,none⟩/\b<B/\∀ i (h:i<l.length),zK w ⟨b,o+i*E.sz,none⟩ (E.enc l[i]):=by
 obtain⟨b,o,hp,hat⟩:=h.get;rcases hp with hp | hp
 ·omega
 ·exact⟨b,o,hp,(hat i hi).1,fun j hj=>(hat j hj).2⟩
section
variable {l:List InsD} {dom:List UInt8} {q p:OA} {cap cd:Nat} {w:Wd}
theorem znS (hl:SlR zF w q l) (hp:SlR zW w p dom) (hok:qs l 6=true) (hqb:l≠[]->∀ a,q=some a->a.block<w.heap.size) (hpb:∀ a,p=some a->a.block<w.heap.size) (hdl:dom.length<=1000) :
  Calls PG 73 #[.slice q l.length cap,.slice p dom.length cd] w fun e w'=>((∃ (p':OA) (c':Nat),(qq l dom).length<=4096/\e = .returned (.tuple #[.slice p' (zap (qq l dom)).length c',.bool true])/\OwnS zW 5 w.heap.size w' p' c' (zap (qq l dom)))\/(4096<(qq l dom).length/\e = .returned (.tuple #[.slice none 0 0,.bool false])))/\Bw w w':=by
 have ht:=zjj hok;have h12:l.length<=12:=ht.1;have hR:∀ R∈qq l dom,R.many<=24:=fun R h=>(zgJ ht dom R h).1;refine qA 55 [.slice q l.length cap,.slice p dom.length cd] (.c .p (.c .p (.c .p (.c .p (.s .p (.c .p .p)))))) Tryz.func73 ?_;obtain⟨L,hL⟩:=nm (w.heap.size);refine⟨Unit,fun _=>⟨[(0,.slice q l.length cap),(1,.slice p dom.length cd),(4,AtR L),(5,AtR (L+1))],[]⟩,fun _ X=>X.heap[L]?=some (.cells #[.slice none 0 0] 23 (0,0))/\X.heap[L+1]?=some (.cells #[.bool false] 4 (0,0))/\X.heap.size=L+2/\Bw w X,?_,?_⟩
 ·have s1:=wz w (.cells #[.slice none 0 0] 23);have h2:=zw (w.alloc (.cells #[.slice none 0 0] 23)) (.cells #[.bool false] 4);have s2:=wz (w.alloc (.cells #[.slice none 0 0] 23)) (.cells #[.bool false] 4);rw [s1] at h2 s2;refine⟨(),⟨.cons rfl (.cons rfl (.cons (by rw [hL];rfl) (.cons (by rw [hL,<- s1];rfl) .nil))),rfl⟩,?_,?_,?_,?_⟩
  ·rw [hL];exact qM _ (zw w _)
  ·rw [hL];exact h2
  ·rw [hL];exact s2
  ·exact ((zba w _)).alloc (by simp) _
 rintro _ X ⟨f0,f1,sX,hbX⟩;refine⟨Unit,fun _=>⟨[(0,.slice q l.length cap),(1,.slice p dom.length cd),(4,AtR L),(5,AtR (L+1)),(6,AtR (L+2))],[]⟩,fun _ Y=>Y.heap[L+2]?=some (.cells (wrC fun _=>false).toArray 178 (0,0))/\Y.heap.size=L+3/\Bw X Y,?_,?_⟩
 ·refine⟨(),⟨.cons rfl (.cons rfl (.cons rfl (.cons rfl (.cons (by rw [<- sX];rfl) .nil)))),rfl⟩,?_,?_,?_⟩
  ·rw [<- sX,<- zuP];exact zw X _
  ·have:=wz X (.cells (List.replicate 256 (Value.bool false)).toArray 178);rw [sX] at this;exact this
  ·exact (zba X _)
 rintro _ Y ⟨f2,sY,hbY⟩;refine⟨Unit,fun _=>⟨[(0,.slice q l.length cap),(1,.slice p dom.length cd),(4,AtR L),(5,AtR (L+1)),(6,AtR (L+2)),(7,AtR (L+3))],[]⟩,fun _ Z=>Z.heap[L+3]?=some (.cells [i64 (0:Nat)].toArray 3 (0,0))/\Z.heap.size=L+4/\Bw Y Z,?_,?_⟩
 ·refine zq (X:=Y) (v:=i64 0) k3 rfl rfl rfl fun Z hbZ fZ sZ=>?_;rw [sY] at fZ sZ;exact⟨(),⟨.cons rfl (.cons rfl (.cons rfl (.cons rfl (.cons rfl (.cons (by rw [<- sY];rfl) .nil))))),rfl⟩,fZ,sZ,hbZ⟩
 rintro _ V ⟨f3,sV,hbV⟩;have hXV:Bw X V:=zst hbY hbV;have hwV:=zst hbX hXV;have f0:=zb hXV f0;have f1:=zb hXV f1;have f2:=zb hbV f2;clear hbX hbY hbV hXV;obtain⟨xs,hxs⟩:=nm (qq l dom);rw [<- hxs] at hR ⊢;refine⟨Nat,fun D1=>⟨[(4,AtR L),(5,AtR (L+1)),(6,AtR (L+2))],[{ target := .collected D1,args := #[] }]⟩,fun D1 U=>xs.length<=4096/\U.heap[L+2]?=some (.cells (wrC (wrL xs)).toArray 178 (0,0))/\U.heap[D1]?=some (.deferred (some []))/\L+2<D1/\Below (L+2) V U,?_,?_⟩
 ·refine cmo zjN ?_;rintro e W ⟨rfl,fi,fd,sW,hbW⟩;have hwW:=zst hwV hbW;have hI:=zjM (q:=q) (p:=p) (hl.below hwW) (hp.below hwW) fi fd (fun hne a ha=>by have:=hqb hne a ha;have:=hwW.size;omega) (fun a ha=>by have:=hpb a ha;have:=hwW.size;omega) ht hdl;rw [<- hxs] at hI;obtain⟨J,hJ⟩:∃ J:List RunD->Wd->Prop,J=fun pre Y=>W.heap.size<=Y.heap.size/\pre.length<=4096/\Y.heap[L+2]?=some (.cells (wrC (wrL pre)).toArray 178 (0,0))/\Y.heap[L+3]?=some (.cells [i64 pre.length].toArray 3 (0,0))/\Below (L+2) W Y:=⟨_,rfl⟩;obtain⟨F0,hF0⟩:∃ F0:Nat->Prop,F0=fun k=>k=L+2\/k=L+3\/k=L\/k=L+1:=⟨_,rfl⟩;have f0W:=zb hbW f0;have f1W:=zb hbW f1;refine zdq (zbC _) rfl (lb := #[AtR V.heap.size,AtR (V.heap.size+1)]) rfl rfl hI (UV _) (fun k hk=>⟨?_,rfl⟩) (fun pre vs W ⟨R,b,_,h,_⟩=>by rw [h];rfl) (by decide)
   F0 (fun pre F Y=>F=F0/\J pre Y) (fun ex pre F Y=>F=F0/\W.heap.size<=Y.heap.size/\ex = .ret/\4096<xs.length/\Y.heap[L]?=some (.cells #[.slice none 0 0] 23 (0,0))/\Y.heap[L+1]?=some (.cells #[.bool false] 4 (0,0))/\Below L W Y) (fun k hk=>?_)
   (joG (F:=F0) (J:=J) (fun k h=>by rw [hF0] at h;omega) (fun s A h=>by rw [hJ] at h;exact h.1) (fun pre A B h hb=>by
    rw [hJ] at h ⊢;obtain⟨h1,h0,h2,h3,h4⟩:=h;exact⟨UL h1 hb.size,h0,jr hb (by omega) h2,jr hb (by omega) h3,h4.trans (hb.mono (by omega))⟩))
   (fun ex=>joG (F:=F0) (J:=fun (pre:List RunD) Y=>W.heap.size<=Y.heap.size/\ex = .ret/\4096<xs.length/\Y.heap[L]?=some (.cells #[.slice none 0 0] 23 (0,0))/\Y.heap[L+1]?=some (.cells #[.bool false] 4 (0,0))/\Below L W Y) (fun k h=>by rw [hF0] at h;omega) (fun s A h=>h.1) (fun pre A B ⟨h1,h2,h3,h4,h5,h6⟩ hb=>⟨UL h1 hb.size,h2,h3,jr hb (by omega) h4,jr hb (by omega) h5,h6.trans (hb.mono (by omega))⟩)) ⟨rfl,by rw [hJ];exact⟨UV _,UY _,zb hbW f2,zb hbW f3,Ga _ _⟩⟩ ?_ ?_ ?_
  ·rcases hk with ((rfl | rfl) | ⟨hne,a,ha,rfl⟩ | ⟨a,ha,rfl⟩) | h
   ·omega
   ·omega
   ·have:=hqb hne a ha;have:=hwW.size;omega
   ·have:=hpb a ha;have:=hwW.size;omega
   ·exact h.elim
  ·rw [hF0];rcases hk with (rfl | rfl) | ⟨hne,a,ha,rfl⟩ | ⟨a,ha,rfl⟩
   ·omega
   ·omega
   ·have:=hqb hne a ha;omega
   ·have:=hpb a ha;omega
  ·rintro yl pre x vs F Y hyl hpre hJ0 ⟨R,b,hlast,rfl,fR⟩ hfy ⟨lo,hlo⟩;have hxR:x=R:=by simpa using hlast
   subst hxR;refine⟨rfl,F,KeepsG.refl _ _,hJ0,?_⟩;rintro o Y2 hY2 ⟨rfl,hJ2⟩;rw [hJ] at hJ2;obtain⟨h1,h0,h2,h3,h4⟩:=hJ2;have hbl:b≠yl:=fun e=>by
    rw [e] at fR;rw [fR] at hlo
    cases hlo
   have fR2:jC Y2 b x:=by rw [hY2];exact (zj hbl).trans fR
   have r1:=hR x (hpre.subset (by simp));have hpl:pre.length<xs.length:=by
    obtain⟨t,ht⟩:=hpre;rw [<- ht];simp only [lap,Qr];omega
   refine⟨_,zc (za h3) (i:=0) rfl,?_⟩;refine biE (fun hct=>?_) fun hct=>?_
   ·have hct:(pre.length:Int)=4096:=dT hct;have g0:Y2.heap[L]?=some (.cells #[.slice none 0 0] 23 (0,0)):=(h4.block L (by omega)).trans f0W;have g1:Y2.heap[L+1]?=some (.cells #[.bool false] 4 (0,0)):=(h4.block (L+1) (by omega)).trans f1W;refine zm k23 g0 (o:=0) (v := .slice none 0 0) rfl rfl (by show 0<1;decide) rfl fun Z1 fZ1 gZ1 sZ1=>?_;have g1':=(gZ1.block (L+1) (hlt g1) (by simp)).trans g1;refine zm k4 g1' (o:=0) (v := .bool false) rfl rfl (by show 0<1;decide) rfl fun Z2 fZ2 gZ2 sZ2=>?_;refine⟨F,⟨rfl,by omega,rfl,by omega,(gZ2.block L (hlt fZ1) (by simp)).trans fZ1,fZ2,?_⟩,(KeepsG.grown (F:=F) gZ1 (by rw [hF0];exact .inr (.inr (.inl rfl)))).trans (KeepsG.grown (F:=F) gZ2 (by rw [hF0];exact .inr (.inr (.inr rfl))))⟩;exact ((h4.mono (by omega)).trans (zk gZ1 (by omega) (UV _))).trans (zk gZ2 (by omega) (by omega))
   have hct:¬ (pre.length:Int)=4096:=dF hct;refine⟨_,zc (za h3) (i:=0) rfl,?_⟩;refine⟨((pre.length+1:Nat):Int),(ze (by omega)).trans (by omega),?_⟩;refine zm k3 h3 (o:=0) (v:=i64 (pre.length+1:Nat)) rfl rfl (by show 0<1;decide) rfl fun Z fZ gZ sZ=>?_;have fRZ:jC Z b x:=(gZ.block b (hlt fR2) (fun e=>by
    have e:b=L+3:=(by simpa using e);rw [e] at fR2;rw [fR2] at h3;simp at h3)).trans fR2
   have f2Z:=(gZ.block (L+2) (hlt h2) (by simp)).trans h2;have kZ:KeepsG F F Y2 Z:=KeepsG.grown gZ (by rw [hF0];exact .inr (.inl rfl));have bZ:Below (L+2) W Z:=h4.trans (zk gZ (by omega) (by omega));refine DrawE.ord [] [0,1,2,3,4,5,6,7,8,9] (by kernel_rfl) ?_;have hdZ:Bw Z Z.drew:=(Ga _ _).drew;refine⟨_,zc (za (hdr fRZ)) (i:=18) (zbN x),?_⟩;refine⟨x.many,rfl,r1,?_⟩;have ecut:jq (some ⟨b,0+19,none⟩) 24 0 7=some ⟨b,19,none⟩:=by rw [zc9,UQ]
   refine⟨Nat,fun i=>⟨[(6,AtR (L+2)),(7,AtR (L+3)),(29,.slice (some ⟨b,19,none⟩) (x.many-0) (24-0)),(30,i64 (x.many:Nat)),(31,i64 (i:Nat))],[]⟩,
    fun i T=>i<=x.many/\T.heap[L+2]?=some (.cells (wrC fun v=>wrL pre v||wrE x i v).toArray 178 (0,0))/\jC T b x/\T.heap[L+3]?=some (.cells [i64 (pre.length+1:Nat)].toArray 3 (0,0))/\KeepsG F F Y2 T/\Below (L+2) W T,fun i=>x.many-i,0,
    ⟨.cons rfl (.cons rfl (.cons (by rw [<- ecut];rfl) (.cons rfl (.cons rfl .nil)))),rfl⟩,⟨UY _,?_,hdr fRZ,hdr fZ,kZ.trans (KeepsG.below hdZ fun k h => .inl h),bZ.drew⟩,?_⟩
   ·have e:(fun v=>wrL pre v||wrE x 0 v)=wrL pre:=by
     funext v;show (wrL pre v||false)=_;rw [Uv]
    rw [e];exact f2Z
   rintro i T ⟨hi,t2,tR,t3,kT,bT⟩;have hTs:=kT.size;refine biE (fun hc=>?_) fun hc=>?_
   ·have hc:(i:Int)<(x.many:Int):=dT hc;have him:i<x.many:=(by omega);refine⟨i,rfl,him,?_⟩;have hev:zK T ⟨b,19+i*7,none⟩ (evE.enc (x.ev i)):=by
     have:=zR (n:=i*7) (m:=7) (zmN tR);rw [zqb x.ev (show i<24 by omega)] at this;exact this
    refine⟨evE.enc (x.ev i),rfl,hev,hlt tR,?_⟩;refine zq (X:=T) (v := .agg (evE.enc (x.ev i)).toArray) k49 rfl rfl rfl fun T2 hb2 fT2 sT2=>?_;have k2:KeepsG F F Y2 T2:=kT.trans (KeepsG.below hb2 fun k h => .inl h);have b2:Below (L+2) W T2:=bT.trans (hb2.mono (by omega));have n1:=zoX x i;refine⟨_,zc (za fT2) (i:=1) rfl,?_⟩;have u2:=zb hb2 t2;have uR:=zb hb2 tR;have u3:=zb hb2 t3;refine biE (fun hk=>?_) fun hk=>?_
    ·have hk:(x.ev i).k=2:=qu.1 (dT hk);refine⟨_,zc (za fT2) (i:=3) rfl,?_⟩;refine⟨((x.ev i).v).toNat,rfl,((x.ev i).v).toNat_lt,?_⟩;refine zm k4 u2 (o:=0+((x.ev i).v).toNat*1) (v := .bool true) rfl rfl (by rw [zmD];have:=((x.ev i).v).toNat_lt;omega) rfl fun T3 fT3 gT3 sT3=>?_;rw [UQ,UW,zq7] at fT3;have k3:KeepsG F F Y2 T3:=k2.trans (KeepsG.grown gT3 (by rw [hF0];exact .inl rfl));have hT2s:=k2.size;refine nxI (by omega) ?_;refine⟨i+1,(cvE rfl rfl),⟨him,?_,(gT3.block b (hlt uR) (fun e=>by
      have e:b=L+2:=(by simpa using e);rw [e] at uR;rw [uR] at u2;simp at u2)).trans uR,(gT3.block (L+3) (hlt u3) (by simp)).trans u3,k3,b2.trans (zk gT3 (by omega) (UV _))⟩,zdc (by omega)⟩
     have e:(fun v=>wrL pre v||wrE x (i+1) v)=fun v=>(wrL pre v||wrE x i v)||decide ((x.ev i).v=v):=by
      funext v;rw [n1,Uq hk,Uw,Bool.or_assoc]
     rw [e];exact fT3
    ·have hk:¬ (x.ev i).k=2:=fun e=>(dF hk) (by rw [e];rfl);refine nxI (by omega) ?_;refine⟨i+1,(cvE rfl rfl),⟨him,?_,uR,u3,k2,b2⟩,zdc (by omega)⟩;have e:(fun v=>wrL pre v||wrE x (i+1) v)=fun v=>(wrL pre v||wrE x i v):=by
      funext v;rw [n1,Uf hk,Uh,Uv]
     rw [e];exact u2
   ·have hc:¬ (i:Int)<(x.many:Int):=dF hc;obtain rfl:i=x.many:=(by omega);refine⟨F,⟨rfl,?_⟩,kT⟩;rw [hJ];refine⟨by omega,by rw [lap];show pre.length+1<=4096;omega,?_,by rw [lap];exact t3,bT⟩;have e:wrL (pre++[x])=fun v=>wrL pre v||wrE x x.many v:=by
     funext v;exact zoV pre x v
    rw [e];exact t2
  ·rintro D1 F Y hD hfD ⟨rfl,hj⟩ hdef;rw [hJ] at hj;obtain⟨h1,h0,h2,h3,h4⟩:=hj;exact⟨D1,(cvE rfl rfl),h0,h2,hdef,by omega,(hbW.mono (by omega)).trans h4⟩
  ·rintro D ex pre F Y hD hfD hpre ⟨rfl,h1,rfl,hlong,g0,g1,hbY⟩ hdef;refine⟨_,rfl,hdef,?_⟩;refine⟨.slice none 0 0,zc (za ((zj (by omega)).trans g0)) (i:=0) rfl,.bool false,zc (za ((zj (by omega)).trans g1)) (i:=0) rfl,.inr ⟨hlong,rfl⟩,?_⟩;have hwY:=hwW.trans (hbY.mono (by omega));exact je hwY (by have:=hwV.size;omega) _
 clear f2 f3;rintro D1 U ⟨hm,f2,fD1,hLD,bU⟩;have f0:U.heap[L]?=some (.cells #[.slice none 0 0] 23 (0,0)):=(bU.block L (by omega)).trans f0;have f1:U.heap[L+1]?=some (.cells #[.bool false] 4 (0,0)):=(bU.block (L+1) (by omega)).trans f1;have hwU:Bw w U:=hwV.trans (bU.mono (by omega));have sU:=hlt f2;have sD:=hlt fD1;clear bU hwV;refine⟨List UInt8×OA×Nat,fun s=>⟨[(4,AtR L),(5,AtR (L+1)),(11,.slice s.2.1 s.1.length s.2.2)],[{ target := .collected D1,args := #[] }]⟩,fun s Z=>s.1=zap xs/\OwnS zW 5 U.heap.size Z s.2.1 s.2.2 s.1/\Bw U Z,?_,?_⟩
 ·refine⟨wrC (wrL xs),zmD _,za f2,hlt f2,?_⟩;refine⟨Nat×OA×Nat,fun s=>⟨[(4,AtR L),(5,AtR (L+1)),(11,.slice s.2.1 ((z9.take s.1).filter (wrL xs)).length s.2.2),(42,.agg (wrC (wrL xs)).toArray),(43,i64 (s.1:Nat))],[{ target := .collected D1,args := #[] }]⟩,
   fun s Z=>s.1<=256/\OwnS zW 5 U.heap.size Z s.2.1 s.2.2 ((z9.take s.1).filter (wrL xs))/\Bw U Z,fun s=>256-s.1,(0,none,0),
   (cvE rfl rfl),⟨UY _,OwnS.nil,Ga _ _⟩,?_⟩
  rintro⟨k,r,c⟩ Z ⟨hk,ho,hbZ⟩;dsimp only at hk ho ⊢;have hZs:=hbZ.size;refine biE (fun hc=>?_) fun hc=>?_
  ·have hc:(k:Int)<256:=dT hc;have hk2:k<256:=by omega
   have tk:z9.take (k+1)=z9.take k++[UInt8.ofNat k]:=by
    obtain⟨hlb,hbk⟩:=zqB hk2;rw [tsg hlb,hbk]
   have fl:(z9.take (k+1)).filter (wrL xs)=(z9.take k).filter (wrL xs)++(if wrL xs (UInt8.ofNat k)=true then [UInt8.ofNat k] else []):=by
    rw [tk,Kv,zme]
   have hfl:((z9.take k).filter (wrL xs)).length<=256:=by
    have h1:=JL (wrL xs) (z9.take k);rw [Qt] at h1;omega
   refine⟨k,rfl,hk2,?_⟩;refine zaC (by rw [UW];exact zlJ _ hk2) ?_;refine biE (fun hv=>?_) fun hv=>?_
   ·rw [Gn hv] at fl;refine⟨_,w8N k,?_⟩;refine⟨⟨by decide,by decide,rfl⟩,zW.enc (UInt8.ofNat k),rfl,?_⟩;have hba:Bw Z (Z.alloc (.cells (zW.enc (UInt8.ofNat k)).toArray 5)):=zba _ _;refine jJ (E:=zW) (T:=5) (B:=U.heap.size) (l:=(z9.take k).filter (wrL xs)) (news:=[UInt8.ofNat k]) (cap:=c) (m:=1) Tryz.underlying23 k5 rfl rfl rfl (ho.below hba) rfl (qN zW (UInt8.ofNat k)) (by have:=hba.size;omega) (by omega) (by show (((z9.take k).filter (wrL xs)).length+1)*1<=_;omega) ?_;intro p2 c2 T oT gT hbT hat;refine nxI (by omega) ?_;refine⟨(k+1,p2,c2),⟨.cons rfl (.cons rfl (.cons (by rw [fl];rfl) (.cons rfl (.cons rfl .nil)))),rfl⟩,⟨hk2,by show OwnS zW _ _ _ _ _ ((z9.take (k+1)).filter (wrL xs));rw [fl];exact oT,(hbZ.trans (hba.mono hZs)).trans hbT⟩,zdc (by omega)⟩
   ·have hv:wrL xs (UInt8.ofNat k)=false:=hv;rw [hv,Gm Ku,QI] at fl;refine nxI (by omega) ?_;exact⟨(k+1,r,c),⟨.cons rfl (.cons rfl (.cons (by rw [fl];rfl) (.cons rfl (.cons rfl .nil)))),rfl⟩,⟨hk2,by show OwnS zW _ _ _ _ _ ((z9.take (k+1)).filter (wrL xs));rw [fl];exact ho,hbZ⟩,zdc (by omega)⟩
  ·have hc:¬ (k:Int)<256:=dF hc;obtain rfl:k=256:=by omega
   have e:(z9.take 256).filter (wrL xs)=zap xs:=by
    rw [zlH,JF (by unfold z9;rw [QL,KU];exact UV _)]
   rw [e] at ho;exact⟨(zap xs,r,c),⟨.cons rfl (.cons rfl (.cons (by rw [e];rfl) .nil)),rfl⟩,rfl,ho,hbZ⟩
 rintro⟨ys,r,c⟩ Z ⟨rfl,ho,hbZ⟩;dsimp only at ho ⊢;have hZs:=hbZ.size;have g0:=zb hbZ f0;have g1:=zb hbZ f1;have gD:=zb hbZ fD1;refine zm k23 g0 (o:=0) (v := .slice r (zap xs).length c) rfl rfl (by show 0<1;decide) rfl fun Z1 fZ1 gZ1 sZ1=>?_;have g1':=(gZ1.block (L+1) (hlt g1) (by simp)).trans g1;refine zm k4 g1' (o:=0) (v := .bool true) rfl rfl (by show 0<1;decide) rfl fun Z2 fZ2 gZ2 sZ2=>?_;have k2:∀ k,k<Z.heap.size->k≠L->k≠L+1->Z2.heap[k]?=Z.heap[k]?:=fun k hk n1 n2=>(gZ2.block k (by rw [sZ1];exact hk) (by simpa using n2)).trans (gZ1.block k hk (by simpa using n1));have fZ1':=(gZ2.block L (hlt fZ1) (by simp)).trans fZ1;refine⟨_,rfl,(k2 D1 (hlt gD) (by omega) (by omega)).trans gD,?_⟩;refine⟨.slice r (zap xs).length c,?_,.bool true,?_,.inl ⟨r,c,hm,rfl,?_⟩,?_⟩
 ·exact zc (za ((zj (by omega)).trans fZ1')) (i:=0) rfl
 ·exact zc (za ((zj (by omega)).trans fZ2)) (i:=0) rfl
 ·refine OwnS.lower (ho.same fun a ha=>?_) hwU.size;have h:=zaM ho ha;exact (zj (by omega)).trans (k2 _ h.2.1 (by omega) (by omega))
 ·have hwZ:=zst hwU hbZ;exact je ((hwZ.trans (zk gZ1 hwZ.size (by omega))).trans (zk gZ2 (by rw [sZ1];exact hwZ.size) (by omega))) (by omega) _
end
structure OkG (p:Prg):Prop where
 l1:1<=p.locs.length
 l6:p.locs.length<=6
 il:p.locs.length=p.init.length
 t1:1<=p.threads.length
 t4:p.threads.length<=4
 th:∀ l∈p.threads,qs l 6=true
 tl:∀ l∈p.threads,qs l p.locs.length=true
theorem OkG.i1 {p:Prg} (h:OkG p):1<=p.init.length:=by have:=h.l1;have:=h.il;omega
theorem OkG.i6 {p:Prg} (h:OkG p):p.init.length<=6:=by have:=h.l6;have:=h.il;omega
theorem zos {x:InsD} {k k' n:Nat} (hk:k<=k') (h:zgq x k n=true):zgq x k' n=true:=by
 unfold zgq qX at h ⊢;simp only [Uy,List.all_nil,id_eq,Bool.and_true,bAT,dE,QF] at h ⊢;obtain⟨h1,h2,h3,h4,h5⟩:=h;exact⟨h1,h2,h3,h4.imp id (fun h=>nL h hk),h5⟩
theorem zji {l:List InsD} {k k':Nat} (hk:k<=k') (h:qs l k=true):qs l k'=true:=by
 unfold qs at h ⊢;rw [bAT,dE,Qi] at h ⊢;refine⟨h.1,fun i hi=>?_⟩;have:=h.2 i hi
 split at this
 ·exact zos hk this
 ·rfl
theorem zb9 {p:Prg} (h:zdu p=true):OkG p:=by
 unfold zdu at h;simp only [bAT] at h;obtain⟨_,h2,⟨h4a,h4b,h5⟩,h6,_,h8⟩:=h;unfold zdx at h2;simp only [bAT,dE] at h2 h4a h4b;have h7:=Qi.1 h6;exact⟨h2.1,h2.2.1,h2.2.2.1.symm,h4a,h4b,fun l hl=>zji h2.2.1 (h7 l hl),h7⟩
def zef (threads:List (List InsD)):Nat->List UInt8->Option (List UInt8)
 | 0,_=>none
 | n+1,vals=>if 16<vals.length then none else if (threads.any fun l=>decide (4096<(qq l vals).length))=true then none else if (zan threads vals).length=vals.length then some vals else zef threads n (zan threads vals)
def zdQ (p:Prg):Option (List UInt8):=zef p.threads 18 (jl p.init)
theorem zbh (l:List UInt8):jl (jl l)=jl l:=zjO (zcF l)
theorem zi1 {l:List UInt8} (h:1<=l.length):1<=(jl l).length:=by
 cases l with
 | nil=>simp at h
 | cons x r=>exact List.length_pos_of_mem (zbg.2 (Kz ..))
theorem zj7 (rs:List RunD):(zap rs).length<=256:=by
 refine UL (JL ..) ?_;unfold z9;rw [QL,KU];exact UV _
theorem znk {α β:Type} {g:α->List β} (hg:∀ a,(g a).length<=256):∀ l:List α,(l.flatMap g).length<=256*l.length
 | []=>UV _
 | a::l=>by
  rw [KR,lap,Qr];have:=hg a;have:=znk hg l;omega
theorem zqi {a b:List UInt8} (h:∀ x,x∈a->x∈b):(jl a).length<=(jl b).length:=by
 unfold jl;rw [<- List.countP_eq_length_filter,<- List.countP_eq_length_filter];refine List.countP_mono_left fun x _ hx=>?_;obtain⟨y,hy,e⟩:=Qj.1 hx;exact Qj.2 ⟨y,h y hy,e⟩
theorem ziU (ths:List (List InsD)) {vals:List UInt8} (h:jl vals=vals):vals.length<=(zan ths vals).length:=by
 unfold zan
 conv=>lhs;rw [<- h]
 exact zqi fun x hx=>JV _ hx
section
variable {B:Nat} {p:Prg} {pc:List Value} {w:Wd}
theorem zoP (hB:B<=w.heap.size) (hP:PrgX B w pc p) (hG:GlobE w) (hok:zdu p=true) :
  Calls PG 29 #[.agg pc.toArray,i64 16] w fun e w'=>((∃ (V:List UInt8) (q:OA) (c:Nat),zdQ p=some V/\e = .returned (.tuple #[.slice q V.length c,i64 0])/\OwnS zW 5 w.heap.size w' q c V)\/(zdQ p=none/\e = .returned (.tuple #[.slice none 0 0,i64 5])))/\Bw w w':=by
 have hOP:=zb9 hok;have hi1:=hOP.i1;have hi6:=hOP.i6;refine qA 60 [.agg pc.toArray,i64 16] (.c .p (.s .p (.c .p .p))) Tryz.func29 ?_;obtain⟨L,hL⟩:=nm (w.heap.size);have hpc:=hP.v.size;have hthr:=hP.v.len.threads;refine⟨Unit,fun _=>⟨[(1,i64 16),(2,AtR L)],[]⟩,fun _ X=>X.heap[L]?=some (.cells pc.toArray 29 (0,0))/\Bw w X,⟨(),⟨.cons rfl (.cons (by rw [hL];rfl) .nil),rfl⟩,by rw [hL];exact zw w _,(zba w _)⟩,?_⟩;rintro _ X ⟨f0,hbX⟩;refine brF (brF ⟨pc,hpc,za f0,hlt f0,cmo (znN (UL hB hbX.size) (hP.v.below (hbX.mono hB)) (hG.c.below hbX)) ?_⟩);rintro e Y ⟨m,rfl,hm,hbY⟩;have hm0:m=0:=hm.2 hok;subst hm0;refine brF ?_;have hwY:=zst hbX hbY;have f0:=zb hbY f0;obtain⟨_,⟨p3,c3,h3,xs,hxs,zfb,hxr⟩,⟨p2,c2,h2,hinit⟩⟩:=hP;refine⟨OA×Nat,fun s=>⟨[(1,i64 16),(2,AtR L),(6,.slice s.1 (jl p.init).length s.2)],[]⟩,fun s Z=>OwnS zW 5 w.heap.size Z s.1 s.2 (jl p.init)/\Z.heap[L]?=some (.cells pc.toArray 29 (0,0))/\Bw w Z,?_,?_⟩
 ·refine⟨_,zc (za f0) (i:=2) (by simpa using h2),cmo (zdE ((hinit.below (hwY.mono hB)).slr (UL hB hwY.size)) hi1 (by omega)) ?_⟩;rintro e Z ⟨⟨q,c,rfl,ho⟩,hbZ⟩;exact⟨(q,c),(cvE rfl rfl),OwnS.lower ho hwY.size,zb hbZ f0,(zst hwY hbZ)⟩
 rintro⟨q,c⟩ X ⟨ho,f0,hbX⟩;obtain⟨R,hR⟩:=nm (zdQ p);rw [<- hR];refine⟨List UInt8×OA×Nat,fun s=>⟨[(1,i64 16),(2,AtR L),(6,.slice s.2.1 s.1.length s.2.2)],[]⟩,
  fun s Z=>((1<=s.1.length/\jl s.1=s.1)/\∃ n,18<=n+s.1.length/\zef p.threads n s.1=R)/\OwnS zW 5 w.heap.size Z s.2.1 s.2.2 s.1/\Z.heap[L]?=some (.cells pc.toArray 29 (0,0))/\Bw w Z,fun s=>300-s.1.length,(jl p.init,q,c),
  (cvE rfl rfl),⟨⟨⟨zi1 hi1,zbh _⟩,18,Qx _ _,hR.symm⟩,ho,f0,hbX⟩,?_⟩
 rintro⟨vals,q,c⟩ X ⟨⟨⟨hv1,hvd⟩,n,hn,hQ⟩,ho,f0,hbX⟩;dsimp only at hv1 hvd hn hQ ho ⊢;have hv256:vals.length<=256:=by rw [<- hvd];exact zd4 _
 refine biE (fun h16=>?_) fun h16=>?_
 ·have h16:(16:Int)<(vals.length:Int):=dT h16;have e:R=none:=by
   rw [<- hQ]
   cases n with
   | zero=>rfl
   | succ n=>exact Gn (by omega)
  exact⟨.inr ⟨e,rfl⟩,hbX⟩
 have h16:¬ (16:Int)<(vals.length:Int):=dF h16;obtain⟨k,rfl⟩:∃ k,n=k+1:=⟨n-1,by omega⟩;have hQ:(if 16<vals.length then none else if (p.threads.any fun l=>decide (4096<(qq l vals).length))=true then none else if (zan p.threads vals).length=vals.length then some vals else zef p.threads k (zan p.threads vals))=R:=hQ;rw [Gm (by omega)] at hQ;have hq0:q=none->c=0:=fun e=>by
  rcases ho.inv with ⟨_,h,_⟩ | ⟨g,_,h,_⟩
  ·exact h
  ·rw [e] at h;cases h
 have hqb:∀ a,q=some a->a.block<X.heap.size:=fun a ha=>(zaM ho ha).2.1;refine cmo (zlE ho.row (by omega) hq0) ?_;rintro e Y ⟨⟨q1,k1,rfl,o1⟩,hbY⟩;have hwY:=zst hbX hbY;have f0Y:=zb hbY f0;have hl3:xs.length=p.threads.length:=by rw [<- hxs,QL]
 refine⟨_,zc (za f0Y) (i:=3) (by simpa using h3),?_⟩;obtain⟨g,hg⟩:∃ g:List InsD->List UInt8,g=fun l=>zap (qq l vals):=⟨_,rfl⟩;have hnx:zan p.threads vals=jl (vals++p.threads.flatMap g):=by unfold zan;rw [hg]
 have hgl:∀ l,(g l).length<=256:=fun l=>by rw [hg];exact zj7 _
 have hth4:=hOP.t4;refine⟨Nat×OA×Nat,fun s=>⟨[(1,i64 16),(2,AtR L),(6,.slice q vals.length c),(7,.slice s.2.1 (vals++(p.threads.take s.1).flatMap g).length s.2.2),(33,.slice p3 p.threads.length c3),(34,i64 p.threads.length),(35,i64 (s.1:Nat))],[]⟩,
  fun s Z=>(s.1<=p.threads.length/\∀ l∈p.threads.take s.1,(qq l vals).length<=4096)/\OwnS zW 5 X.heap.size Z s.2.1 s.2.2 (vals++(p.threads.take s.1).flatMap g)/\Bw X Z,fun s=>p.threads.length-s.1,(0,q1,k1),
  ⟨.cons rfl (.cons rfl (.cons rfl (.cons (by rw [Un,Qo,QI];rfl) (.cons rfl (.cons rfl (.cons rfl .nil)))))),rfl⟩,⟨⟨UY _,fun l hl=>by cases hl⟩,by show OwnS zW _ _ _ _ _ (vals++(p.threads.take 0).flatMap g);rw [Un,Qo,QI];exact o1,hbY⟩,?_⟩
 rintro⟨m,q1,k1⟩ Y ⟨⟨hm,hsm⟩,o1,hbY⟩;dsimp only at hm hsm o1 ⊢;have hwY:=zst hbX hbY;have f0Y:=zb hbY f0;have hXY:=hbY.size;have lenTake:∀ j,(vals++(p.threads.take j).flatMap g).length<=1280:=fun j=>by
  have h1:=znk hgl (p.threads.take j);rw [Qt] at h1;rw [lap];omega
 refine biE (fun hc=>?_) fun hc=>?_
 ·have hc:(m:Int)<(p.threads.length:Int):=dT hc;have hmt:m<p.threads.length:=by omega
  have hmx:m<xs.length:=by omega
  obtain⟨b3,o3,hp3,hb3,hat3⟩:=zmP (zfb.below (hwY.mono hB)) hmx;have hB2:b3<Y.heap.size:=nL hb3 (UL hB hwY.size);have e3:some (Value.slice p3 p.threads.length c3)=some (Value.slice (some ⟨b3,o3,none⟩) p.threads.length c3):=by rw [hp3]
  subst hp3;refine⟨m,rfl,hmt,zo8 xs[m],by have:=zc (hat3 m hmx) (i:=0) (v:=zo8 xs[m]) rfl;exact this,?_⟩;obtain⟨hrm,hrb⟩:=hxr _ (gM hmx);have hxm:xs[m].1=p.threads[m]:=by
   have:=Gi (fun l=>l[m]?) hxs;simp only [KT,gE hmx,gE hmt,Uc,KY] at this;exact this
  have hmem:=gM hmt;have hxl:xs[m].1.length=p.threads[m].length:=by rw [hxm]
  have hw:=znS (w:=Y) (l:=p.threads[m]) (dom:=vals) (q:=xs[m].2.1) (p:=q) (cap:=xs[m].2.2) (cd:=c) (by rw [<- hxm];exact (hrm.below (hwY.mono hB)).slr (UL hB hwY.size)) (ho.row.below hbY) (hOP.th _ hmem) (fun hne a ha=>nL (hrb (by rw [hxm];exact hne) a ha) (UL hB hwY.size)) (fun a ha=>nL (hqb a ha) hXY) (by omega);rw [<- hxl] at hw;have eg:zap (qq p.threads[m] vals)=g p.threads[m]:=by rw [hg]
  rw [eg] at hw;refine cmo hw ?_;rintro e Z ⟨(⟨q2,k2,hs,rfl,o2⟩ | ⟨hs,rfl⟩),hbZ⟩
  case inr =>
   refine brT ?_;have e:R=none:=by
    rw [<- hQ];exact Gn (Qj.2 ⟨_,hmem,Uq hs⟩)
   exact⟨.inr ⟨e,rfl⟩,hbX.trans ((hbY.trans (hbZ.mono hXY)).mono hbX.size)⟩
  refine brF ?_;have tk:(p.threads.take (m+1)).flatMap g=(p.threads.take m).flatMap g++g p.threads[m]:=by
   rw [tsg hmt,Kg,KR,Qo,QI]
  have l1:=lenTake m;have l2:=lenTake (m+1);rw [tk,<- KN,lap] at l2;have hXZ:=hbY.trans (hbZ.mono hXY);have hsZ:=hbZ.size;refine zgO (E:=zW) (T:=5) (B:=X.heap.size) (l:=vals++(p.threads.take m).flatMap g) (news:=g p.threads[m]) (cap:=k1) (m:=(g p.threads[m]).length) Tryz.underlying23 k5 rfl rfl rfl (o1.below hbZ) rfl o2.row (fun e=>by
   rcases o2.inv with ⟨_,h,_⟩ | ⟨g',_,h,_⟩
   ·exact h
   ·rw [e] at h;cases h) (by omega) (by omega) (by show ((vals++(p.threads.take m).flatMap g).length+(g p.threads[m]).length)*1<=_;omega) ?_
  intro q4 k4 U oU gU hbU;rw [KN,<- tk] at oU ⊢;refine nxI (by omega) ⟨(m+1,q4,k4),(cvE rfl rfl),⟨⟨hmt,fun l hl=>?_⟩,oU,hXZ.trans hbU⟩,zdc (by omega)⟩;have hl:l∈p.threads.take (m+1):=hl;rw [tsg hmt] at hl;rcases QQ.1 hl with hl | hl
  ·exact hsm l hl
  ·rw [KA.1 hl];exact hs
 ·have hc:¬ (m:Int)<(p.threads.length:Int):=dF hc;obtain rfl:m=p.threads.length:=by omega
  rw [Qv] at o1 hsm ⊢;have l3:=lenTake p.threads.length;rw [Qv] at l3;rw [Gm (fun h=>by
   obtain⟨l,hl,e⟩:=Qj.1 h;have:=hsm l hl;have:=dT e;omega)] at hQ
  refine cmo (zdE o1.row (by rw [lap];omega) (by omega)) ?_;rintro e Z ⟨⟨q2,k2,rfl,o2⟩,hbZ⟩;rw [<- hnx] at o2 ⊢;have hXZ:=hbY.trans (hbZ.mono hXY);have hwZ:=zst hbX hXZ;refine biE (fun he=>?_) fun he=>?_
  ·have he:(zan p.threads vals).length=vals.length:=by
    have:=dT he;omega
   rw [Gn he] at hQ;exact⟨.inl ⟨vals,q,c,hQ.symm,rfl,ho.below hXZ⟩,hwZ⟩
  ·have he:¬ (zan p.threads vals).length=vals.length:=fun e=>(dF he) (by rw [e]);rw [Gm he] at hQ;have hge:=ziU p.threads hvd;have hle:(zan p.threads vals).length<=256:=zd4 _;exact⟨(zan p.threads vals,q2,k2),(cvE rfl rfl),⟨⟨⟨by show 1<=(zan p.threads vals).length;omega,zbh _⟩,k,by show 18<=k+(zan p.threads vals).length;omega,hQ⟩,OwnS.lower o2 hwY.size,zb hXZ f0,hwZ⟩,by show 300-(zan p.threads vals).length<300-vals.length;omega⟩
end
abbrev zH (V:List UInt8) (l:List InsD):List PathD:=(qq l V).map ja
abbrev qk (p:Prg) (V:List UInt8):List MixD:=zpI p.init (p.threads.map (zH V))
def zcP (p:Prg) (V:List UInt8):Prop :=
 (∀ l∈p.threads,(qq l V).length<=4096)/\(∀ k,k<=p.threads.length->zby ((p.threads.take k).map fun l=>(zH V l).length)<=4096) /\
  ∀ ds∈qb ((p.threads.map (zH V)).map List.length),(zhx p.init (jj (p.threads.map (zH V)) ds)).isSome=true
section
variable {w:Wd} {bP cv B:Nat} {pc:List Value} {qv:OA} {V:List UInt8} {p:Prg}
theorem zpJ (fP:w.heap[bP]?=some (.cells pc.toArray 29 (0,0))) (hB:B<=w.heap.size) (hP:PrgX B w pc p) (hO:OkG p) (hG:GlobE w) (hV:SlR zW w qv V) (hv1:1<=V.length) (hVd:jl V=V) (hpb:∀ l∈p.threads,∀ P∈zH V l,PathB p.init.length P) :
  Calls PG 30 #[At0 bP,.slice qv V.length cv] w fun e w'=>((zcP p V/\∃ (ms:List MixX) (q:OA) (c:Nat),e = .returned (.tuple #[.slice q ms.length c,.bool true])/\ms.map (·.m)=qk p V/\OwnS zif 95 w.heap.size w' q c ms/\∀ x∈ms,NInM w.heap.size (fun k=>w.heap.size<=k) w' x)\/(¬ zcP p V/\e = .returned (.tuple #[.slice none 0 0,.bool false])))/\Bw w w':=by
 have hil:=hO.il;have hi6:=hO.i6;have ht4:=hO.t4;have hv256:V.length<=256:=by rw [<- hVd];exact zd4 V
 refine qA 89 [At0 bP,.slice qv V.length cv] (.c .p (.c .p (.s .p (.s .p (.c .p (.c .p (.s .p .p))))))) Tryz.func30 ?_;obtain⟨L,hL⟩:=nm (w.heap.size);have hbP:=hlt fP;refine⟨Unit,fun _=>⟨[(1,.slice qv V.length cv),(2,At0 L),(4,At0 (L+1)),(5,At0 (L+2))],[]⟩,fun _ X=>X.heap[L]?=some (.cells #[At0 bP] 85 (0,0))/\X.heap[L+1]?=some (.cells #[.slice none 0 0] 90 (0,0))/\X.heap[L+2]?=some (.cells #[.bool false] 4 (0,0))/\X.heap.size=L+3/\Bw w X,?_,?_⟩
 ·have s1:=wz w (.cells #[At0 bP] 85);have h2:=zw (w.alloc (.cells #[At0 bP] 85)) (.cells #[.slice none 0 0] 90);have s2:=wz (w.alloc (.cells #[At0 bP] 85)) (.cells #[.slice none 0 0] 90);have h3:=zw ((w.alloc (.cells #[At0 bP] 85)).alloc (.cells #[.slice none 0 0] 90)) (.cells #[.bool false] 4);have s3:=wz ((w.alloc (.cells #[At0 bP] 85)).alloc (.cells #[.slice none 0 0] 90)) (.cells #[.bool false] 4);rw [s1] at h2 s2;rw [s2] at h3 s3;refine⟨(),⟨.cons rfl (.cons (by rw [hL];rfl) (.cons (by rw [hL,<- s1];rfl) (.cons (by rw [hL,<- s2];rfl) .nil))),rfl⟩,?_,?_,?_,?_,?_⟩
  ·rw [hL];exact qM _ (qM _ (zw w _))
  ·rw [hL];exact qM _ h2
  ·rw [hL];exact h3
  ·rw [hL];exact s3
  ·exact (((zba w _)).alloc (by simp) _).alloc (by simp;omega) _
 rintro _ X ⟨f0,f1,f2,sX,hbX⟩;refine⟨Unit,fun _=>⟨[(1,.slice qv V.length cv),(2,At0 L),(4,At0 (L+1)),(5,At0 (L+2)),(6,At0 (L+3))],[]⟩,fun _ Y=>MxS w.heap.size Y L bP [] none 0 [] none 0/\Bw w Y,?_,?_⟩
 ·refine⟨(),⟨.cons rfl (.cons rfl (.cons rfl (.cons rfl (.cons (by rw [<- sX];rfl) .nil)))),rfl⟩,⟨qM _ f0,qM _ f1,qM _ f2,by rw [<- sX];exact zw X _,OwnS.nil,OwnS.nil,fun z hz=>(by cases hz),fun z hz=>(by cases hz)⟩,hbX.alloc hbX.size _⟩
 clear f0 f1 f2 sX hbX;rintro _ X ⟨hS,hbX⟩;have hP0:=hP;obtain⟨_,⟨p3,c3,h3,xs,hxs,zfb,hxr⟩,⟨p2,c2,h2,hinit⟩⟩:=hP;have hxl:xs.length=p.threads.length:=by rw [<- hxs,QL]
 refine⟨(List TpR×OA×Nat)×OA×Nat,fun s=>⟨[(2,At0 L),(4,At0 (L+1)),(5,At0 (L+2)),(6,At0 (L+3)),(7,.slice s.2.1 (p.threads.map fun l=>(zH V l).length).length s.2.2)],[]⟩,fun s Z=>((∀ l∈p.threads,(qq l V).length<=4096)/\∀ k,k<=p.threads.length->zby ((p.threads.take k).map fun l=>(zH V l).length)<=4096)/\MxS w.heap.size Z L bP (p.threads.map fun l=>(zH V l).length) s.2.1 s.2.2 s.1.1 s.1.2.1 s.1.2.2/\s.1.1.map (fun z=>z.1.map (·.1))=p.threads.map (zH V)/\Bw w Z,?_,?_⟩
 ·refine⟨_,zc (za hS.f0) (i:=0) rfl,?_⟩;refine⟨_,zc (za (zb hbX fP)) (i:=3) (by simpa using h3),?_⟩;refine⟨Nat×(List TpR×OA×Nat)×OA×Nat,fun s=>⟨[(1,.slice qv V.length cv),(2,At0 L),(4,At0 (L+1)),(5,At0 (L+2)),(6,At0 (L+3)),(7,.slice s.2.2.1 ((p.threads.take s.1).map fun l=>(zH V l).length).length s.2.2.2),(8,i64 (zby ((p.threads.take s.1).map fun l=>(zH V l).length):Nat)),(23,.slice p3 p.threads.length c3),(24,i64 p.threads.length),(25,i64 (s.1:Nat))],[]⟩,
   fun s Z=>(s.1<=p.threads.length/\(∀ l∈p.threads.take s.1,(qq l V).length<=4096)/\∀ k,k<=s.1->zby ((p.threads.take k).map fun l=>(zH V l).length)<=4096)/\MxS w.heap.size Z L bP ((p.threads.take s.1).map fun l=>(zH V l).length) s.2.2.1 s.2.2.2 s.2.1.1 s.2.1.2.1 s.2.1.2.2/\s.2.1.1.map (fun z=>z.1.map (·.1))=(p.threads.take s.1).map (zH V)/\Bw w Z,fun s=>p.threads.length-s.1,(0,([],none,0),none,0),
   (cvE rfl rfl),⟨⟨UY _,fun l hl=>Gp hl (by simp),fun k hk=>by rw [Nat.le_zero.1 hk];exact (by decide:(1:Nat)<=4096)⟩,hS,rfl,hbX⟩,?_⟩
  clear hS hbX;rintro⟨k,⟨ts,pT,cT⟩,ps,cs⟩ Z ⟨⟨hk,hle,hall⟩,hS,hz,hbZ⟩;dsimp only at hk hle hall hS hz ⊢;have hts:ts.length=k:=by
   have:=Gi List.length hz;rw [QL,QL,Qt] at this;omega
  refine biE (fun hc=>?_) fun hc=>?_
  ·have hc:(k:Int)<(p.threads.length:Int):=dT hc;have hkl:k<p.threads.length:=by omega
   have hkx:k<xs.length:=by omega
   have hZs:=hbZ.size;obtain⟨l,hlk⟩:∃ l,p.threads[k]=l:=⟨_,rfl⟩;have hlm:l∈p.threads:=by rw [<- hlk];exact gM hkl
   have hQ:=hO.th l hlm;obtain⟨b3,o3,hp3,hb3,hat3⟩:=zmP (zfb.below (hbZ.mono hB)) hkx;have hB2:b3<Z.heap.size:=by omega
   have e3:some (Value.slice p3 p.threads.length c3)=some (Value.slice (some ⟨b3,o3,none⟩) p.threads.length c3):=by rw [hp3]
   subst hp3;refine⟨k,rfl,hkl,?_⟩;refine⟨zo8 xs[k],by have:=zc (hat3 k hkx) (i:=0) (v:=zo8 xs[k]) rfl;exact this,?_⟩;obtain⟨hrm,hrb⟩:=hxr _ (gM hkx);have hxm:xs[k].1=l:=by
    have:=Gi (fun l=>l[k]?) hxs;simp only [KT,gE hkx,gE hkl,Uc,KY] at this;rw [this,hlk]
   have hpt:(p.threads.take (k+1))=p.threads.take k++[l]:=by rw [tsg hkl,hlk]
   refine cmo (zqT (l:=xs[k].1) (vals:=V) ((hrm.below (hbZ.mono hB)).slr (by omega)) (hV.below hbZ) hv1 (by omega) (by rw [hxm];exact hQ) (hG.below hbZ) (fun hne a ha=>by have:=hrb hne a ha;omega)) ?_;rw [hVd,hxm];obtain⟨A,hA⟩:=nm (zby ((p.threads.take k).map fun l=>(zH V l).length));have hpr0:=hall k (UV _);rintro e Y ⟨(⟨rk,pk,ck,hmle,rfl,hrk,ork,onk⟩ | ⟨hlong,rfl⟩),hbY⟩
   case inr =>
    have hSY:=hS.below hbY;rw [<- hA] at hpr0 ⊢;refine⟨((A*0:Nat):Int),(ze (by omega)).trans (by omega),?_⟩;refine brT ?_;refine brT ?_;refine zm k90 hSY.f1 (o:=0) (v := .slice none 0 0) rfl rfl (by show 0<1;decide) rfl fun Z1 fZ1 gZ1 sZ1=>?_;refine zm k4 ((gZ1.block (L+2) (hlt hSY.f2) (by simp)).trans hSY.f2) (o:=0) (v := .bool false) rfl rfl (by show 0<1;decide) rfl fun Z2 fZ2 gZ2 sZ2=>?_;refine⟨.slice none 0 0,zc (za ((gZ2.block (L+1) (hlt fZ1) (by simp)).trans fZ1)) (i:=0) rfl,.bool false,zc (za fZ2) (i:=0) rfl,.inr ⟨fun h=>?_,rfl⟩,?_⟩
    ·have:=h.1 l hlm;omega
    ·have hwY:=hbZ.trans (hbY.mono hZs);exact (hwY.trans (zk gZ1 hwY.size (by omega))).trans (zk gZ2 (by rw [sZ1];exact hwY.size) (by omega))
   have hrk:rk.map (·.1)=zH V l:=hrk;have hrkl:rk.length=(zH V l).length:=by rw [<- hrk,QL]
   have hpl:(zH V l).length<=4096:=by rw [QL];exact hmle
   have hSY:=hS.below hbY;have hA2:zby ((p.threads.take (k+1)).map fun l=>(zH V l).length)=A*rk.length:=by
    rw [hpt,QO];show zby ((p.threads.take k).map (fun l=>(zH V l).length)++[(zH V l).length])=_;rw [zl2,<- hrkl,hA]
   rw [<- hA] at hpr0 ⊢;obtain⟨nz,hnz⟩:∃ nz:TpR,nz=(rk,pk,ck):=⟨_,rfl⟩;have hen:[Value.slice pk rk.length ck]=tpE.enc nz:=by rw [hnz];rfl
   have hAr:A*rk.length<=4096*4096:=Uo hpr0 (by omega);refine⟨((A*rk.length:Nat):Int),by rw [<- QG];exact ze (by omega),?_⟩;refine brF ?_;refine biE (fun hbig=>?_) fun hbig=>?_
   ·have hbig:(4096:Int)<((A*rk.length:Nat):Int):=dT hbig;refine zm k90 hSY.f1 (o:=0) (v := .slice none 0 0) rfl rfl (by show 0<1;decide) rfl fun Z1 fZ1 gZ1 sZ1=>?_;refine zm k4 ((gZ1.block (L+2) (hlt hSY.f2) (by simp)).trans hSY.f2) (o:=0) (v := .bool false) rfl rfl (by show 0<1;decide) rfl fun Z2 fZ2 gZ2 sZ2=>?_;refine⟨.slice none 0 0,zc (za ((gZ2.block (L+1) (hlt fZ1) (by simp)).trans fZ1)) (i:=0) rfl,.bool false,zc (za fZ2) (i:=0) rfl,.inr ⟨fun h=>?_,rfl⟩,?_⟩
    ·have:=h.2.1 (k+1) hkl;rw [hA2] at this;omega
    ·have hwY:=hbZ.trans (hbY.mono hZs);exact (hwY.trans (zk gZ1 hwY.size (by omega))).trans (zk gZ2 (by rw [sZ1];exact hwY.size) (by omega))
   have hbig:¬ (4096:Int)<((A*rk.length:Nat):Int):=dF hbig;have hpr:A*rk.length<=4096:=by omega
   refine⟨_,zc (za hSY.f3) (i:=0) rfl,?_⟩;refine⟨⟨by decide,by decide,rfl⟩,tpE.enc nz,by rw [<- hen];rfl,?_⟩;have hb1:Bw Y (Y.alloc (.cells (tpE.enc nz).toArray 130)):=zba _ _;have hS1:=hSY.below hb1;have ork1:=ork.below hb1;have onk1:=fun x hx=>(onk x hx).same (Z:=Y.alloc (.cells (tpE.enc nz).toArray 130)) fun {α E T c q l} _ ho=>ho.below hb1;unfold zed zaB;show SatR _ _;refine zvb hS1.rk (qN tpE nz) (by have:=hb1.size;have:=hbY.size;omega) (by omega) fun p' c' U oU gU hat1=>?_;have f0U:=qy hS1.f0 hS1.rk (by decide) gU;have f1U:=qy hS1.f1 hS1.rk (by decide) gU;have f2U:=qy hS1.f2 hS1.rk (by decide) gU;have f3U:=qy hS1.f3 hS1.rk (by decide) gU;refine zm zu7 f3U (o:=0) (v := .slice p' (ts++[nz]).length c') rfl rfl (by show 0<1;decide) rfl fun S fS gS sS=>?_;have hbZY:=hbZ.trans (hbY.mono hZs);have sY:=hbY.size;have sb1:=hb1.size;have hbU:Bw w U:=(hbZY.trans (hb1.mono (by omega))).trans (qS hS1.rk (by omega) (UV _) gU);have hbS:Bw w S:=hbU.trans (zk gS hbU.size (by omega));have hSS:MxS w.heap.size S L bP ((p.threads.take k).map fun l=>(zH V l).length) ps cs (ts++[nz]) p' c':=by
    have kU:∀ {α:Type} {E:Enc α} {T cc:Nat} {r:OA} {ll:List α},T≠130->T≠129->OwnS E T w.heap.size (Y.alloc (.cells (tpE.enc nz).toArray 130)) r cc ll->OwnS E T w.heap.size S r cc ll:=fun {α E T cc r ll} h1 h2 h=>qz (zas h hS1.rk h1 gU) f3U h2 gS;have kB:∀ {b:Nat} {o:Obj},b≠L+3->U.heap[b]?=some o->S.heap[b]?=some o:=fun {b o} hb h=>(gS.block b (hlt h) (by simpa using hb)).trans h;have kP:∀ x:zdN,PthO w.heap.size (Y.alloc (.cells (tpE.enc nz).toArray 130)) x->PthO w.heap.size S x:=fun x hx=>hx.same fun {α E T c q l} ht ho=>kU (by rcases ht with rfl | rfl <;> decide) (by rcases ht with rfl | rfl <;> decide) ho;refine⟨kB (by omega) f0U,kB (by omega) f1U,kB (by omega) f2U,fS,kU (by decide) (by decide) hS1.own,qz oU f3U (by decide) gS,fun z hz=>?_,fun z hz=>?_⟩
    ·rcases QQ.1 hz with hz | hz
     ·exact kU (by decide) (by decide) (hS1.n1 z hz)
     ·rw [KA.1 hz,hnz];exact kU (by decide) (by decide) (ork1.lower hZs)
    ·rcases QQ.1 hz with hz | hz
     ·exact fun x hx=>kP x (hS1.n2 z hz x hx)
     ·rw [KA.1 hz,hnz];exact fun x hx=>kP x ((onk1 x hx).mono hZs)
   clear hS1 ork1 onk1 hSY hS oU gU hat1 f0U f1U f2U f3U fS gS;refine⟨⟨by decide,by decide,rfl⟩,zA.enc rk.length,rfl,?_⟩;have hb2:Bw S (S.alloc (.cells (zA.enc rk.length).toArray 3)):=zba _ _;have hS2:=hSS.below hb2;have sbS:=hbS.size;have sb2:=hb2.size;unfold zed zaB;show SatR _ _;refine zmx hS2.own (qN zA rk.length) (by omega) (by rw [QL,Qt];omega) fun p2' c2' V' oV gV hat2=>?_;rw [zat] at gV;have hSV:=hS2.size oV gV;have hzz:((p.threads.take k).map fun l=>(zH V l).length)++[rk.length]=(p.threads.take (k+1)).map fun l=>(zH V l).length:=by
    rw [hpt,QO,hrkl];rfl
   rw [hzz] at hSV ⊢;refine nxI (by omega) ?_;refine⟨(k+1,(ts++[nz],p',c'),p2',c2'),⟨.cons rfl (.cons rfl (.cons rfl (.cons rfl (.cons rfl (.cons rfl (.cons (by show _=some (i64 (zby ((p.threads.take (k+1)).map fun l=>(zH V l).length):Nat));rw [hA2];rfl) (.cons rfl (.cons rfl (.cons rfl .nil))))))))),rfl⟩,⟨⟨hkl,fun l' hl'=>?_,fun k' hk'=>?_⟩,hSV,?_,hbS.trans ((hb2.mono sbS).trans (qS hS2.own (by omega) (UV _) gV))⟩,zdc (by omega)⟩
   ·have hl':l'∈p.threads.take (k+1):=hl';rw [hpt] at hl';rcases QQ.1 hl' with h | h
    ·exact hle l' h
    ·rw [KA.1 h];exact hmle
   ·have hk':k'<=k+1:=hk';by_cases e:k'=k+1
    ·rw [e,hA2];exact hpr
    ·exact hall k' (by omega)
   rw [hpt,QO,QO,hz,hnz];show _++[rk.map (·.1)]=_++[zH V l];rw [hrk]
  ·have hc:¬ (k:Int)<(p.threads.length:Int):=dF hc;obtain rfl:k=p.threads.length:=by omega
   rw [Qv] at hz hS hle ⊢;exact⟨((ts,pT,cT),ps,cs),(cvE rfl rfl),⟨hle,hall⟩,hS,hz,hbZ⟩
 rintro⟨⟨ts,pT,cT⟩,ps,cs⟩ X ⟨⟨hle,hall⟩,hS,hz,hbX⟩;dsimp only at hS hz ⊢;obtain⟨Q,hQ⟩:=nm (X.heap.size);refine⟨Unit,fun _=>⟨[(2,At0 L),(4,At0 (L+1)),(5,At0 (L+2)),(6,At0 (L+3)),(7,.slice ps (p.threads.map fun l=>(zH V l).length).length cs),(13,At0 Q)],[]⟩,fun _ Z=>MxS w.heap.size Z L bP (p.threads.map fun l=>(zH V l).length) ps cs ts pT cT/\Z.heap[Q]?=some (.cells #[.slice none 0 0] 90 (0,0))/\Z.heap.size=Q+1/\Bw w Z,?_,?_⟩
 ·refine⟨(),⟨.cons rfl (.cons rfl (.cons rfl (.cons rfl (.cons rfl (.cons (by rw [hQ];rfl) .nil))))),rfl⟩,hS.below ((zba X _)),by rw [hQ];exact zw X _,by rw [hQ];exact wz _ _,hbX.alloc hbX.size _⟩
 have hQw:w.heap.size+4<=Q:=by have:=hlt hS.f3;omega
 clear hS hbX hQ;clear X;rintro _ X ⟨hS,fQ,sX,hbX⟩;obtain⟨Ts,hTs⟩:=nm (p.threads.map (zH V));have hTl:Ts.length=p.threads.length:=by rw [hTs,QL]
 have htl:ts.length=p.threads.length:=by have:=Gi List.length hz;simpa using this
 have hsz:(p.threads.map fun l=>(zH V l).length)=Ts.map List.length:=by rw [hTs,UG];rfl
 rw [hsz] at hS ⊢;rw [<- hTs] at hz;have hsl1:(Ts.map List.length).length<=1000:=by rw [QL];omega
 have hsl2:∀ n∈Ts.map List.length,n<=1000000:=fun n hn=>by
  rw [hTs,UG] at hn;obtain⟨l,hl,rfl⟩:=UI.1 hn;have:=hle l hl;show ((qq l V).map ja).length<=_;rw [QL];omega
 have hmemT:∀ z∈ts,∀ x∈z.1,PathB p.init.length x.1:=fun z hz' x hx=>by
  have h1:z.1.map (·.1)∈Ts:=by rw [<- hz];exact UI.2 ⟨z,hz',rfl⟩
  rw [hTs] at h1;obtain⟨l,hl,he⟩:=UI.1 h1;exact hpb l hl x.1 (by rw [he];exact UI.2 ⟨x,hx,rfl⟩)
 refine cmo zpC ?_;rintro e V1 ⟨rfl,fo,sV1,hbV1⟩;have hI:=zsK fo (hS.own.row.below hbV1) (fun a ha=>by have:=(zx hS.own ha).2.1;omega) hsl1 hsl2;have hS1:=hS.below hbV1;have hb1:Bw w V1:=zst hbX hbV1;have hG0:Gath zif 95 90 Q V1.heap.size Q V1 (NInM w.heap.size) [] (fun k=>k=Q\/k=L+1\/k=L+2) V1 :=
  ⟨UV _,.inl rfl,fun k hk=>by have:=hlt hS1.f3;omega,⟨none,0,zb hbV1 fQ,OwnS.nil,fun a h=>by cases h⟩,fun x hx=>(by cases hx),Ga _ _⟩
 obtain⟨f,hf⟩:∃ f:List Nat->Option MixD,f=fun ds=>zhx p.init (jj Ts ds):=⟨_,rfl⟩;have hmix:qk p V=(qb (Ts.map List.length)).filterMap f:=by rw [hf,hTs];rfl
 have hIter:=Gath.iter (σ:=List (List Nat)) (E:=zif) (T:=95) (TS:=90) (B:=Q) (n0:=V1.heap.size) (L:=Q) (W:=V1) (NIn:=NInM w.heap.size) (f:=fun pre (ms:List MixX)=>ms.map (·.m)=pre.filterMap f/\ms.length<=pre.length/\∀ ds∈pre,(f ds).isSome=true) (ziK _) (by omega);have hOkI:∀ h:(∀ ds∈qb (Ts.map List.length),(f ds).isSome=true),zcP p V:=fun h=>⟨hle,hall,by rw [hf,hTs] at h;exact h⟩;have hOkE:zcP p V->∀ ds∈qb (Ts.map List.length),(f ds).isSome=true:=fun h=>by rw [hf,hTs];exact h.2.2
 have hQL:L+2<Q:=by omega
 have h1Q:=hS1.f1;have h2Q:=hS1.f2;refine zdq (zbC _) rfl (lb := #[At0 X.heap.size]) rfl rfl hI (UV _) (fun k hk=>⟨?_,rfl⟩) (fun pre vs W ⟨l,q,_,h,_⟩=>by rw [h];rfl) (by decide)
  (fun k=>k=Q\/k=L+1\/k=L+2) (fun pre F Y=>(F (L+1)/\F (L+2))/\∃ ms,(ms.map (·.m)=pre.filterMap f/\ms.length<=pre.length/\∀ ds∈pre,(f ds).isSome=true)/\Gath zif 95 90 Q V1.heap.size Q V1 (NInM w.heap.size) ms F Y)
  (fun ex pre F Y=>(∀ k,F k->k<Y.heap.size)/\V1.heap.size<=Y.heap.size/\ex = .ret/\¬ zcP p V/\Y.heap[L+1]?=some (.cells #[.slice none 0 0] 90 (0,0))/\Y.heap[L+2]?=some (.cells #[.bool false] 4 (0,0))/\Bw w Y) (fun k hk=>?_) ⟨fun s F A C ⟨h1,h2⟩ hs=>⟨h1,hIter.step s F A C h2 hs⟩,fun s F A k ⟨_,h2⟩ hk=>hIter.lt s F A k h2 hk⟩
  (fun ex=>⟨fun pre F A C ⟨g1,g2,g3,g4,g5,g6,g7⟩ hs=>⟨fun k hk=>nL (g1 k hk) hs.size,UL g2 hs.size,g3,g4,(hs.same _ (hlt g5) (.inl ⟨by omega,fun h=>h⟩)).trans g5,(hs.same _ (hlt g6) (.inl ⟨by omega,fun h=>h⟩)).trans g6,g7.trans ⟨hs.os,hs.tape,hs.output,hs.size,fun k hk=>hs.same k (by have:=g7.size;omega) (.inl ⟨by have:=hb1.size;omega,fun h=>h⟩)⟩⟩,fun pre F A k ⟨g1,_⟩ hk=>⟨g1 k hk,fun h=>h⟩⟩) ⟨⟨.inr (.inl rfl),.inr (.inr rfl)⟩,[],⟨rfl,UY _,fun ds h=>by cases h⟩,hG0⟩ ?_ ?_ ?_
 ·rcases hk with (rfl | ⟨a,ha,rfl⟩) | h
  ·omega
  ·have:=(zx hS.own ha).2.1;omega
  ·exact h.elim
 ·rcases hk with rfl | ⟨a,ha,rfl⟩
  ·omega
  ·obtain⟨_,_,cur,hc⟩:=zx hS.own ha;rintro (e | e | e)
   ·rw [e,fQ] at hc;simp at hc
   ·rw [e,hS.f1] at hc;simp at hc
   ·rw [e,hS.f2] at hc;simp at hc
 ·rintro yl pre ds vs F Y hyl hpre hJ0 ⟨l,qd,hlast,rfl,hsl,hcel⟩ hfy ⟨lo,hlo⟩;have hdx:ds=l:=by simpa using hlast
  subst hdx;refine⟨rfl,F,KeepsG.refl _ _,hJ0,?_⟩;rintro O Y2 hY2 ⟨hFL,ms,⟨hms,hml,hsm⟩,hG2⟩;have hslY:SlR zA Y2 qd ds:=by
   rw [hY2];refine ji hsl fun a ha=>zj fun e=>?_;obtain⟨cur,hcur⟩:=hcel a ha;rw [e,hlo] at hcur
   cases hcur
  obtain⟨hdl,hdlt⟩:=zai (hpre.subset (JN _ (KA.2 rfl)));have hdm:ds∈qb (Ts.map List.length):=hpre.subset (JN _ (KA.2 rfl));rw [QL] at hdl;have hY2s:=hG2.size;have old:∀ {k:Nat} {ob:Obj},k<Q->V1.heap[k]?=some ob->Y2.heap[k]?=some ob:=fun {k ob} hk h=>(hG2.old.block k hk).trans h;have g0:=old (by omega) hS1.f0;have g3:=old (by omega) hS1.f3;have kR:∀ {α:Type} {E:Enc α} {T cc:Nat} {r:OA} {ll:List α},T≠90->OwnS E T w.heap.size X r cc ll->OwnS E T w.heap.size Y2 r cc ll:=fun {α E T cc r ll} hT h=>h.same fun a ha=>by
   have hq:a.block≠Q:=fun e=>by
    obtain⟨_,_,cur,hc⟩:=zx h ha;rw [e,fQ] at hc;simp at hc;exact hT hc.2.symm
   have:=(zx h ha).2.1;exact (hG2.old.block _ (by omega)).trans (hbV1.block _ this)
  have rkY:=kR (by decide) hS.rk;have n1Y:=fun z hz=>kR (by decide) (hS.n1 z hz);have n2Y:∀ z∈ts,∀ x∈z.1,PthO w.heap.size Y2 x:=fun z hz x hx=>(hS.n2 z hz x hx).same fun {α E T c q l} ht ho=>kR (by rcases ht with rfl | rfl <;> decide) ho;have fPY:Y2.heap[bP]?=some (.cells pc.toArray 29 (0,0)):=old (by omega) ((hb1.block bP hbP).trans fP);have hbwY:Bw w Y2:=hb1.trans (hG2.old.mono (by omega));refine⟨Nat×List zdN×OA×Nat,fun s=>⟨[(2,At0 L),(4,At0 (L+1)),(5,At0 (L+2)),(6,At0 (L+3)),(13,At0 Q),(15,.slice s.2.2.1 s.2.1.length s.2.2.2),(58,.slice qd ds.length ds.length),(59,i64 ds.length),(60,i64 (s.1:Nat))],[]⟩,
   fun s Z=>s.1<=ds.length/\OwnS j0 138 Y2.heap.size Z s.2.2.1 s.2.2.2 s.2.1/\s.2.1.map (·.1)=jj (Ts.take s.1) (ds.take s.1)/\s.2.1.length=s.1/\(∀ x∈s.2.1,∃ z∈ts,x∈z.1)/\Bw Y2 Z,fun s=>ds.length-s.1,(0,[],none,0),
   (cvE rfl rfl),⟨UY _,OwnS.nil,by simp [jj],rfl,fun x hx=>(by cases hx),Ga _ _⟩,?_⟩
  rintro⟨k,Cs,pC,cC⟩ Z ⟨hk,oC,hCs,hCl,hCm,hbZ⟩;dsimp only at hk oC hCs hCl hCm ⊢;have hZs:=hbZ.size;refine biE (fun hc=>?_) fun hc=>?_
  ·have hc:(k:Int)<(ds.length:Int):=dT hc;have hkl:k<ds.length:=by omega
   have hkt:k<ts.length:=by omega
   obtain⟨z,hzk⟩:∃ z,ts[k]=z:=⟨_,rfl⟩;have hzm:z∈ts:=by rw [<- hzk];exact gM hkt
   have hkT:k<Ts.length:=by omega
   have hzT:Ts[k]=z.1.map (·.1):=by
    have h1:Ts[k]?=some (z.1.map (·.1)):=(by rw [<- hz,KT,gE hkt,hzk];rfl);rw [gE hkT] at h1;exact Ud h1
   obtain⟨d,hd⟩:∃ d,ds[k]=d:=⟨_,rfl⟩;have hdz:d<z.1.length:=by
    have:=hdlt k (Ts[k].length) d (by rw [KT,gE hkT];rfl) (by rw [gE hkl,hd]);rw [hzT,QL] at this;exact this
   obtain⟨x,hx⟩:∃ x,z.1[d]=x:=⟨_,rfl⟩;have hxm:x∈z.1:=by rw [<- hx];exact gM hdz
   have hpick:jj (Ts.take (k+1)) (ds.take (k+1))=jj (Ts.take k) (ds.take k)++[x.1]:=by
    rw [tsg hkT,tsg hkl,hd,hzT,zhd _ _ _ _ (by rw [Qt,Qt];omega),KT,gE hdz,hx];rfl
   obtain⟨bD,oD,hpD,hlD,hatD⟩:=(hslY.below hbZ).at hkl;obtain⟨bT,oT,hpT,hlT,hatT⟩:=(rkY.below hbZ).row.at hkt;obtain⟨bz,oz,hpz,hlz,hatz⟩:=((n1Y z hzm).below hbZ).row.at hdz;subst hpD;subst hpT;refine⟨k,rfl,hkl,?_⟩;refine⟨i64 d,by have:=zc (hatD k hkl) (i:=0) (v:=i64 d) (by rw [hd];rfl);exact this,?_⟩;refine⟨_,zc (za (zb hbZ g3)) (i:=0) rfl,?_⟩;refine⟨k,rfl,hkt,?_⟩;refine⟨.slice z.2.1 z.1.length z.2.2,by have:=zc (hatT k hkt) (i:=0) (v := .slice z.2.1 z.1.length z.2.2) (by rw [hzk];rfl);exact this,?_⟩;rw [hpz];refine⟨d,rfl,hdz,?_⟩;refine⟨j0.enc x,j0.len x,by rw [<- hx];exact hatz d hdz,hlz,?_⟩;refine⟨⟨by decide,by decide,rfl⟩,j0.enc x,za2 (j0.len x) rfl,?_⟩;have hb2:Bw Z (Z.alloc (.cells (j0.enc x).toArray 138)):=zba _ _;have sb2:=hb2.size;unfold zed zaB;show SatR _ _;refine zvd (oC.below hb2) (qN j0 x) (by omega) (by omega) fun p' c' U oU gU hat1=>?_;refine nxI (by omega) ?_;refine⟨(k+1,Cs++[x],p',c'),(cvE rfl rfl),⟨hkl,oU,by rw [QO,hCs,hpick];rfl,by rw [lap,hCl];rfl,fun y hy=>?_,hbZ.trans ((hb2.mono hZs).trans (qS (oC.below hb2) (by omega) (UV _) gU))⟩,zdc (by omega)⟩;rcases QQ.1 hy with hy | hy
   ·exact hCm y hy
   ·rw [KA.1 hy];exact⟨z,hzm,hxm⟩
  have hc:¬ (k:Int)<(ds.length:Int):=dF hc;obtain rfl:k=ds.length:=by omega
  rw [Qv,JF (by omega)] at hCs;obtain⟨q1,y1,q2,y2,q3,y3,q4,y4,hvs,_⟩:=hP0.v.h;have hpc1:pc[1]?=some (.slice q1 p.init.length y1):=by rw [hvs,<- hil];rfl
  have hZw:w.heap.size<=Z.heap.size:=by have:=hbwY.size;omega
  refine⟨_,zc (za (zb hbZ g0)) (i:=0) rfl,?_⟩;refine cmo (zmv (zb hbZ fPY) hpc1 h2 ((hinit.below (((zst hbwY hbZ)).mono hB)).slr (by omega)) hi6 oC.row (fun x hx=>?_) (fun x hx=>?_) (by omega)) ?_
  ·obtain⟨z,hz1,hx1⟩:=hCm x hx;obtain⟨o1,o2,o3,o4⟩:=n2Y z hz1 x hx1;refine⟨fun a ha=>?_,(o1.below hbZ).row,(o2.below hbZ).row,(o3.below hbZ).row,(o4.below hbZ).row⟩;rcases ha with ha | ha | ha
   ·exact (zx (o2.below hbZ) ha).2.1
   ·exact (zx (o3.below hbZ) ha).2.1
   ·exact (zx (o4.below hbZ) ha).2.1
  ·obtain⟨z,hz1,hx1⟩:=hCm x hx;exact hmemT z hz1 x hx1
  rintro e U ⟨⟨vs,hres⟩,hbU⟩;have hfd0:f ds=zhx p.init (Cs.map (·.1)):=by rw [hf,hCs]
  cases hmx:zhx p.init (Cs.map (·.1)) with
  | none =>
   rw [hmx] at hres hfd0;obtain⟨rfl,hvz⟩:=hres;have hvl:vs.length=336:=by rw [hvz];exact jQ
   have hv1:vs.all Value.oneCell'=true:=by rw [hvz];kernel_rfl
   have hUs:=hbU.size;refine zq (X:=U) (v := .agg vs.toArray) k95 hvl jQ hv1 fun V' hbV fV sV=>?_;refine brT ?_;have hbY2V:Bw Y2 V':=(hbZ.trans (hbU.mono hZs)).trans (hbV.mono (by omega));have hV2:=hbY2V.size;have g1:V'.heap[L+1]?=_:=zb hbY2V (old (by omega) hS1.f1);have g2:V'.heap[L+2]?=_:=zb hbY2V (old (by omega) hS1.f2);refine zm k90 g1 (o:=0) (v := .slice none 0 0) rfl rfl (by show 0<1;decide) rfl fun Z1 fZ1 gZ1 sZ1=>?_;refine zm k4 ((gZ1.block (L+2) (hlt g2) (by simp)).trans g2) (o:=0) (v := .bool false) rfl rfl (by show 0<1;decide) rfl fun Z2 fZ2 gZ2 sZ2=>?_;have hFlt:=hG2.lt;have b2:Bw w Z2:=(((zst hbwY hbY2V)).trans (zk gZ1 (by have:=hbwY.size;omega) (by omega))).trans (zk gZ2 (by have:=hbwY.size;omega) (by omega));refine⟨F,⟨fun k hk=>by have:=hFlt k hk;omega,by omega,rfl,fun h=>?_,(gZ2.block (L+1) (hlt fZ1) (by simp)).trans fZ1,fZ2,b2⟩,(((KeepsG.below hbY2V fun k h => .inl h):KeepsG F F Y2 V').trans (KeepsG.grown (F:=F) gZ1 hFL.1)).trans (KeepsG.grown (F:=F) gZ2 hFL.2)⟩;have:=hOkE h ds hdm;rw [hfd0] at this
   cases this
  | some mx =>
  rw [hmx] at hres;have hfd:f ds=some mx:=by rw [hfd0,hmx]
  obtain⟨rfl,x1,x2,x3,x4,y1,y2,y3,y4,xs',ys',hvs',m1,m2,m3,m4,m5,m6,m7,m8⟩:=hres;obtain⟨nx,hnx⟩:∃ nx:MixX,nx=⟨mx,x1,y1,x2,y2,x3,y3,x4,y4,xs',ys'⟩:=⟨_,rfl⟩;have hen:vs=zif.enc nx:=by rw [hvs',hnx];rfl
  have hvl:vs.length=336:=by rw [hen];exact zif.len nx
  have hv1:vs.all Value.oneCell'=true:=by rw [hen];exact zkV nx
  have hUs:=hbU.size;refine zq (X:=U) (v := .agg vs.toArray) k95 hvl jQ hv1 fun V' hbV fV sV=>?_;have fV:V'.heap[U.heap.size]?=some (.cells vs.toArray 95 (0,0)):=fV;refine brF ?_;have hbY2V:Bw Y2 V':=(hbZ.trans (hbU.mono hZs)).trans (hbV.mono (by omega));obtain⟨pr,cr,h4,h5,h6⟩:=hG2.row;refine⟨_,zc (za (zb hbY2V h4)) (i:=0) rfl,?_⟩;refine⟨vs,hvl,za fV,hlt fV,?_⟩;refine⟨⟨by decide,by decide,jQ⟩,zif.enc nx,by rw [<- hen];exact za2 hvl jQ,?_⟩;have hpl:pre.length<1000000000:=by
   obtain⟨t,ht⟩:=hpre;have h7:(pre++[ds]++t).length=zZ (Ts.map List.length).reverse:=by
    rw [ht];unfold qb;rw [QL,KU]
   have h8:zZ (Ts.map List.length).reverse<=4096:=by
    have h9:=hall p.threads.length (UV _);rw [Qv,hsz] at h9;rw [zfH];exact h9
   simp only [lap,Qr] at h7;omega
  have hnw:∀ (G:Nat->Prop) (S:Wd),(∀ k,Y2.heap.size<=k->k<V'.heap.size->S.heap[k]?=V'.heap[k]?)->(∀ k,Y2.heap.size<=k->k<V'.heap.size->G k)->NInM w.heap.size G S nx:=by
   intro G S hs hg;have kp:∀ {α:Type} {E:Enc α} {T cc:Nat} {r:OA} {ll:List α},OwnS E T Z.heap.size U r cc ll->RowIn E T w.heap.size G S r cc ll:=fun {α E T cc r ll} h=>by
    have ol:∀ a,r=some a->Y2.heap.size<=a.block/\a.block<V'.heap.size:=fun a ha=>⟨by have:=(zx h ha).1;omega,by have:=(zx h ha).2.1;omega⟩;exact⟨OwnS.lower ((h.below hbV).same fun a ha=>hs _ (ol a ha).1 (ol a ha).2) hZw,fun a ha=>hg _ (ol a ha).1 (ol a ha).2⟩
   rw [hnx];exact⟨m3,m6,kp m1,kp m2,kp m4,fun y hy=>kp (m5 y hy),kp m7,fun y hy=>kp (m8 y hy)⟩
  obtain⟨v,Y5,hrun,S,hrun2,F',hG',hK',hFF'⟩:=hG2.step (P:=PG) (ty:=90) (cap1:=1) (ziK _) (by decide) Tryz.underlying90 k95 rfl rfl (by show _=336;exact jQ) k90 rfl (by omega) (UV _) hbY2V nx (by omega) (by show (ms.length+1)*2488<=_;omega) hnw pr cr h4;unfold zed zaB;refine SatR.mk hrun ?_;refine SatR.mk hrun2 ?_;refine⟨F',⟨⟨hFF' _ hFL.1,hFF' _ hFL.2⟩,_,⟨?_,by rw [lap,lap];show ms.length+1<=pre.length+1;omega,fun d hd=>?_⟩,hG'⟩,hK'⟩
  case refine_2 =>
   rcases QQ.1 hd with h | h
   ·exact hsm d h
   ·rw [KA.1 h,hfd];rfl
  rw [QO,List.filterMap_append,hms];show _++[nx.m]=_++List.filterMap f [ds];rw [show List.filterMap f [ds]=[mx] by rw [List.filterMap_cons,hfd];rfl,hnx]
 ·rintro D F Y hD hfD ⟨hFL,ms,⟨hms,hml,hsm⟩,hG⟩ hdef;obtain⟨pr,cr,h4,h5,h6⟩:=hG.row;have hYs:=hG.size;have old:∀ {k:Nat} {ob:Obj},k<Q->V1.heap[k]?=some ob->Y.heap[k]?=some ob:=fun {k ob} hk h=>(hG.old.block k hk).trans h;have g1:=old (by omega) hS1.f1;have g2:=old (by omega) hS1.f2;refine⟨_,zc (za h4) (i:=0) rfl,?_⟩;refine zm k90 g1 (o:=0) (v := .slice pr ms.length cr) rfl rfl (by show 0<1;decide) rfl fun Z1 fZ1 gZ1 sZ1=>?_;refine zm k4 ((gZ1.block (L+2) (hlt g2) (by simp)).trans g2) (o:=0) (v := .bool true) rfl rfl (by show 0<1;decide) rfl fun Z2 fZ2 gZ2 sZ2=>?_;have k2:∀ k,k<Y.heap.size->k≠L+1->k≠L+2->Z2.heap[k]?=Y.heap[k]?:=fun k hk n1 n2=>(gZ2.block k (by rw [sZ1];exact hk) (by simpa using n2)).trans (gZ1.block k hk (by simpa using n1));refine⟨_,rfl,(k2 D (hlt hdef) (by omega) (by omega)).trans hdef,?_⟩;have f2':=(gZ2.block (L+1) (hlt fZ1) (by simp)).trans fZ1;have kp:∀ a:Addr,a.block≠L+1->a.block≠L+2->F a.block->a.block<Y.heap.size->(Z2.putObj D (.deferred none)).heap[a.block]?=Y.heap[a.block]?:=fun a n1 n2 h2 h3=>(zj fun e=>by rw [<- e] at hfD;exact hfD h2).trans (k2 _ h3 n1 n2);have hwY:=hb1.trans (hG.old.mono (by omega));have b2:=(hwY.trans (zk gZ1 hwY.size (by omega))).trans (zk gZ2 (by have:=hwY.size;omega) (by omega));have ne:∀ {α:Type} {E:Enc α} {T B' cc:Nat} {r:OA} {ll:List α},T≠90->T≠4->OwnS E T B' Y r cc ll->∀ a,r=some a->a.block≠L+1/\a.block≠L+2:=fun {α E T B' cc r ll} t1 t2 h a ha=>by
   obtain⟨_,_,cur,hc⟩:=zx h ha;refine⟨fun e=>?_,fun e=>?_⟩
   ·rw [e,g1] at hc;simp at hc;exact t1 hc.2.symm
   ·rw [e,g2] at hc;simp at hc;exact t2 hc.2.symm
  refine⟨.slice pr ms.length cr,zc (za ((zj (by omega)).trans f2')) (i:=0) rfl,.bool true,zc (za ((zj (by omega)).trans fZ2)) (i:=0) rfl,.inl ⟨hOkI hsm,ms,pr,cr,rfl,by rw [hms,hmix],?_,fun x hx=>?_⟩,je b2 (by omega) _⟩
  ·exact OwnS.lower (h5.same fun a ha=>kp a (ne (by decide) (by decide) h5 a ha).1 (ne (by decide) (by decide) h5 a ha).2 (h6 a ha) (zx h5 ha).2.1) (by omega)
  ·exact (hG.nest x hx).same fun {α E T c q l} t1 t2 t3 hr=>⟨hr.own.same fun a ha=>kp a (ne t2 t3 hr.own a ha).1 (ne t2 t3 hr.own a ha).2 (hr.inF a ha) (zx hr.own ha).2.1,fun a ha=>(zx hr.own ha).1⟩
 ·rintro D ex pre F Y hD hfD hpre ⟨g1,g2,rfl,g4,g5,g6,g7⟩ hdef;refine⟨_,rfl,hdef,?_⟩;refine⟨.slice none 0 0,zc (za ((zj (by have:=hlt hS1.f3;omega)).trans g5)) (i:=0) rfl,.bool false,zc (za ((zj (by have:=hlt hS1.f3;omega)).trans g6)) (i:=0) rfl,.inr ⟨g4,rfl⟩,je g7 (by have:=hb1.size;omega) _⟩
end
def qt (m:MixD):List ExD:=if jB m 1=0 then [] else zdJ m
abbrev qi (p:Prg) (V:List UInt8):List ExD:=(qk p V).flatMap qt
def zcr (p:Prg) (V:List UInt8) (most:Nat):Prop:=zdQ p=some V/\zcP p V/\((qk p V).map fun m=>jB m 20001).sum<=most
structure MixC (m:MixD):Prop where
 rl:m.rs.length<=48
 wl:m.wr.length<=6
 rs:∀ r∈m.rs,r.1<48/\r.2.length<=1000/\∀ s∈r.2,s<48
 wr:∀ w∈m.wr,w.length<=48
structure CandB (p:Prg) (V:List UInt8):Prop where
 pb:∀ l∈p.threads,∀ P∈zH V l,PathB p.init.length P
 ml:zcP p V->(qk p V).length<=5000
 mc:zcP p V->∀ m∈qk p V,MixC m
 mb:zcP p V->((qk p V).map fun m=>jB m 20001).sum<=20000->∀ m∈qk p V,jB m 1≠0->MixB m
 len:zcP p V->((qk p V).map fun m=>jB m 20001).sum<=20000->(qi p V).length<=30000
theorem zlr {lim:Nat}:∀ (fs:List (List Nat)) (n:Nat),n<=lim->∀ k,zfn lim fs n=some k->k<=lim
 | [],n,h,k,e=>by cases e;exact h
 | f::fs,n,h,k,e=>by
  unfold zfn at e
  split at e
  ·cases e
  ·exact zlr fs _ (QA ..) k e
theorem zls {lim len:Nat}:∀ (m k n:Nat),n<=lim->zgt lim len m k n<=lim
 | 0,k,n,h=>h
 | m+1,k,n,h=>by
  unfold zgt
  split
  ·exact zls m _ _ (QA ..)
  ·exact h
theorem zlq {lim:Nat}:∀ (ws:List (List Nat)) (n:Nat),n<=lim->zgs lim ws n<=lim
 | [],n,h=>h
 | w::ws,n,h=>zlq ws _ (zls _ _ _ h)
theorem zqv {lim:Nat} (m:MixD) (h:1<=lim):jB m lim<=lim:=by
 unfold jB
 split
 ·exact UY _
 ·rename_i n e;exact zlq _ _ (zlr _ _ h _ e)
theorem zkc (ths:List (List InsD)):∀ (n:Nat) (vals V:List UInt8),1<=vals.length/\jl vals=vals->zef ths n vals=some V->1<=V.length/\jl V=V
 | 0,vals,V,h,e=>by cases e
 | n+1,vals,V,h,e=>by
  unfold zef at e
  split at e
  ·cases e
  ·split at e
   ·cases e
   ·split at e
    ·cases e;exact h
    ·refine zkc ths n _ V ⟨?_,zbh _⟩ e;have:=ziU ths h.2;show 1<=(zan ths vals).length;omega
theorem zgS {p:Prg} {V:List UInt8} (hO:OkG p) (h:zdQ p=some V):1<=V.length/\jl V=V :=
 zkc _ _ _ _ ⟨zi1 hO.i1,zbh _⟩ h
theorem zpc {l:List Nat} (k:Nat):(l.take k).sum<=l.sum:=by
 have:l.sum=(l.take k).sum+(l.drop k).sum:=by rw [<- List.sum_append,JP]
 omega
theorem zsk {m:MixD} {xs ys:List zaU} {lim:Nat} (h1:xs.map (·.1)=m.rs.map (·.2)) (h2:ys.map (·.1)=m.wr):zqw lim (xs.map (·.1)) (ys.map (·.1))=jB m lim:=by
 rw [h1,h2];rfl
section
variable {w:Wd} {B most:Nat} {pc:List Value} {p:Prg}
theorem zlF (hB:B<=w.heap.size) (hP:PrgX B w pc p) (hG:GlobE w) (hok:zdu p=true) (hm20:most<=20000) (hCB:∀ V,jl V=V->CandB p V) :
  Calls PG 12 #[.agg pc.toArray,i64 most] w fun e w'=>((∃ V,zcr p V most/\∃ (xs:List zb0) (q:OA) (c:Nat),e = .returned (.tuple #[.slice q xs.length c,i64 0])/\xs.map (·.1)=qi p V/\OwnS exE 46 w.heap.size w' q c xs/\∀ x∈xs,OwnS evE 49 w.heap.size w' x.2.1 x.2.2 x.1.ev)\/((∀ V,¬ zcr p V most)/\e = .returned (.tuple #[.slice none 0 0,i64 5])))/\Bw w w':=by
 have hO:=zb9 hok;refine qA 74 [.agg pc.toArray,i64 most] (.c .p (.s .p (.s .p (.s .p (.c .p (.s .p (.s .p (.c .p (.c .p (.c .p .p)))))))))) Tryz.func12 ?_;obtain⟨L,hL⟩:=nm (w.heap.size);have hpc:=hP.v.size;refine⟨Unit,fun _=>⟨[(1,i64 most),(2,At0 L)],[]⟩,fun _ X=>X.heap[L]?=some (.cells pc.toArray 29 (0,0))/\L<X.heap.size/\Bw w X,⟨(),⟨.cons rfl (.cons (by rw [hL];rfl) .nil),rfl⟩,by rw [hL];exact zw w _,by rw [hL];exact hlt (zw w _),(zba w _)⟩,?_⟩;rintro _ X ⟨f0,sX,hbX⟩;refine brN (Uf (by omega)) (brN (Uf (by omega)) ⟨pc,hpc,za f0,hlt f0,cmo (znN (UL hB hbX.size) (hP.v.below (hbX.mono hB)) (hG.c.below hbX)) ?_⟩);rintro e Y ⟨m,rfl,hm,hbY⟩;have hm0:m=0:=hm.2 hok;subst hm0;refine brF ?_;have hwY:=zst hbX hbY;have f0:=zb hbY f0;refine⟨pc,hpc,za f0,hlt f0,cmo (zoP (UL hB hwY.size) (hP.below (hwY.mono hB)) (hG.below hwY) hok) ?_⟩;rintro e Z ⟨(⟨V,qv,cv,hval,rfl,oV⟩ | ⟨hval,rfl⟩),hbZ⟩
 case inr =>
  refine brT ⟨.inr ⟨fun V h=>?_,rfl⟩,(zst hwY hbZ)⟩;have:=h.1;rw [hval] at this
  cases this
 refine brF ?_;obtain⟨hv1,hVd⟩:=zgS hO hval;have hQ:=hCB V hVd;have uniq:∀ V',zcr p V' most->V'=V:=fun V' h=>by
  have:=h.1;rw [hval] at this;exact (Ud this).symm
 have hwZ:=zst hwY hbZ;have f0:=zb hbZ f0;clear hbX hbY hwY;obtain⟨V0,hV0⟩:=nm (V);refine⟨Bool×List MixX×OA×Nat,fun s=>⟨[(1,i64 most),(8,.slice s.2.2.1 s.2.1.length s.2.2.2),(9,.bool s.1)],[]⟩,fun s U=>((s.1=true/\zcP p V/\s.2.1.map (·.m)=qk p V/\OwnS zif 95 w.heap.size U s.2.2.1 s.2.2.2 s.2.1/\∀ x∈s.2.1,NInM w.heap.size (fun k=>w.heap.size<=k) U x)\/(s.1=false/\¬ zcP p V))/\Bw w U,?_,?_⟩
 ·refine cmo (zpJ f0 (UL hB hwZ.size) (hP.below (hwZ.mono hB)) hO (hG.below hwZ) oV.row hv1 hVd hQ.pb) ?_;rintro e U ⟨(⟨hmo,ms,q,c,rfl,hms,oM,nM⟩ | ⟨hmo,rfl⟩),hbU⟩
  case inr=>exact⟨(false,[],none,0),(cvE rfl rfl),.inr ⟨rfl,hmo⟩,(zst hwZ hbU)⟩
  exact⟨(true,ms,q,c),(cvE rfl rfl),.inl ⟨rfl,hmo,hms,oM.lower hwZ.size,fun x hx=>(nM x hx).lower hwZ.size⟩,(zst hwZ hbU)⟩
 clear oV hbZ hwZ f0;rintro⟨ok,ms,q,c⟩ X ⟨hor,hbX⟩;dsimp only at hor ⊢;rcases hor with ⟨rfl,hmo,hms,oM,nM⟩ | ⟨rfl,hmo⟩
 case inr =>
  exact brT ⟨.inr ⟨fun V' h=>hmo (by rw [<- uniq V' h];exact h.2.1),rfl⟩,hbX⟩
 refine brF ?_;have hml:ms.length<=5000:=by have:=hQ.ml hmo;rw [<- hms,QL] at this;exact this
 have hmc:∀ x∈ms,MixC x.m:=fun x hx=>hQ.mc hmo x.m (by rw [<- hms];exact UI.2 ⟨x,hx,rfl⟩);have hsumE:((qk p V).map fun m=>jB m 20001).sum=(ms.map fun x=>jB x.m 20001).sum:=by
  rw [<- hms,UG];rfl
 have htake:∀ k,((ms.take k).map fun x=>jB x.m 20001).sum<=(ms.map fun x=>jB x.m 20001).sum:=fun k=>by
  have:=zpc (l:=ms.map fun x=>jB x.m 20001) k;rw [<- List.map_take] at this;exact this
 obtain⟨tot,htot⟩:=nm ((ms.map fun x=>jB x.m 20001).sum);have cnt:∀ {Z:Wd} {k lim:Nat} (hk:k<ms.length),OwnS zif 95 w.heap.size Z q c ms->(∀ x∈ms,NInM w.heap.size (fun k=>w.heap.size<=k) Z x)->1<=lim->lim<=100000->∃ b o,q=some ⟨b,o,none⟩/\Calls PG 31 #[.pointer (some ⟨b,o+k*336,none⟩),i64 lim] Z fun e w'=>e = .returned (i64 (jB ms[k].m lim:Nat))/\Z=w':=fun {Z k lim} hk oM nM h1 h2=>by
  obtain⟨b,o,hq,hb,hat⟩:=oM.row.at hk;have hx:=nM ms[k] (gM hk);have hb1:=hmc ms[k] (gM hk);have hxl:ms[k].xs.length=ms[k].m.rs.length:=by have:=Gi List.length hx.e2;simpa using this
  have hyl:ms[k].ys.length=ms[k].m.wr.length:=by have:=Gi List.length hx.e3;simpa using this
  refine⟨b,o,hq,?_⟩;have:=zsb (lim:=lim) (r := .slice ms[k].p1 ms[k].m.rs.length ms[k].c1) (hat k hk) hx.r2.own.row hx.r3.own.row (fun y hy=>?_) (fun y hy=>?_) (by have:=hb1.rl;omega) (by have:=hb1.wl;omega) h1 h2
  ·rw [zsk hx.e2 hx.e3] at this;exact this
  ·have h3:y.1∈ms[k].m.rs.map (·.2):=by rw [<- hx.e2];exact UI.2 ⟨y,hy,rfl⟩
   obtain⟨r,hr,he⟩:=UI.1 h3;rw [<- he];exact (hb1.rs r hr).2.1
  ·have h3:y.1∈ms[k].m.wr:=by rw [<- hx.e3];exact UI.2 ⟨y,hy,rfl⟩
   have:=hb1.wr _ h3;omega
 refine⟨Unit,fun _=>⟨[(8,.slice q ms.length c),(10,i64 tot)],[]⟩,fun _ Z=>tot<=most/\X=Z,?_,?_⟩
 ·refine⟨Nat,fun k=>⟨[(1,i64 most),(8,.slice q ms.length c),(10,i64 (((ms.take k).map fun x=>jB x.m 20001).sum:Nat)),(40,i64 ms.length),(41,i64 (k:Nat))],[]⟩,
   fun k Z=>(k<=ms.length/\((ms.take k).map fun x=>jB x.m 20001).sum<=most)/\X=Z,fun k=>ms.length-k,0,(cvE rfl rfl),⟨⟨UY _,UY _⟩,rfl⟩,?_⟩
  rintro k _ ⟨⟨hk,hsk⟩,rfl⟩;dsimp only;refine biE (fun hc=>?_) fun hc=>?_
  ·have hc:(k:Int)<(ms.length:Int):=dT hc;have hkl:k<ms.length:=by omega
   obtain⟨b,o,hq,hcall⟩:=cnt (lim:=20001) hkl oM nM (by decide) (by decide);have htk:((ms.take (k+1)).map fun x=>jB x.m 20001).sum=((ms.take k).map fun x=>jB x.m 20001).sum+jB ms[k].m 20001:=by
    rw [tsg hkl,QO,List.sum_append];show _+(jB ms[k].m 20001+0)=_;rw [UK]
   have h1:jB ms[k].m 20001<=20001:=zqv _ (by decide);subst hq;refine⟨k,rfl,hkl,cmo hcall ?_⟩;rintro e _ ⟨rfl,rfl⟩;refine⟨((((ms.take (k+1)).map fun x=>jB x.m 20001).sum:Nat):Int),?_,?_⟩
   ·rw [htk,Int.natCast_add];exact ze (by omega)
   refine biE (fun hbig=>?_) fun hbig=>?_
   ·have hbig:(most:Int)<((((ms.take (k+1)).map fun x=>jB x.m 20001).sum:Nat):Int):=dT hbig;refine⟨.inr ⟨fun V' h=>?_,rfl⟩,hbX⟩;have h2:=uniq V' h;subst h2;have h3:=h.2.2;rw [hsumE] at h3;have:=htake (k+1);omega
   have hbig:¬ (most:Int)<((((ms.take (k+1)).map fun x=>jB x.m 20001).sum:Nat):Int):=dF hbig;exact nxI (by omega) ⟨k+1,(cvE rfl rfl),⟨⟨hkl,by omega⟩,rfl⟩,zdc (by omega)⟩
  ·have hc:¬ (k:Int)<(ms.length:Int):=dF hc;obtain rfl:k=ms.length:=by omega
   rw [Qv,<- htot] at hsk ⊢;exact⟨(),(cvE rfl rfl),hsk,rfl⟩
 rintro _ _ ⟨htm,rfl⟩;have hCO:zcr p V most:=⟨hval,hmo,by rw [hsumE,<- htot];exact htm⟩;have hsm:((qk p V).map fun m=>jB m 20001).sum<=20000:=UL hCO.2.2 hm20;have hXs:=hbX.size;refine⟨OA×Nat,fun s=>⟨[(8,.slice q ms.length c),(12,.slice s.1 0 s.2)],[]⟩,fun s Z=>OwnS exE 46 X.heap.size Z s.1 s.2 []/\Bw X Z,?_,?_⟩
 ·exact zdw (E:=exE) Tryz.underlying30 k46 rfl (by show _=333;exact jD) rfl tot (by show 2416*tot<=_;omega) (by unfold maxLen;omega) fun Z oZ hbZ sZ=>⟨(some ⟨X.heap.size,0,none⟩,tot),(cvE rfl rfl),oZ,hbZ⟩
 rintro⟨p0,c0⟩ Y ⟨oY,hbY⟩;dsimp only at oY ⊢;refine⟨List zb0×OA×Nat,fun s=>⟨[(12,.slice s.2.1 s.1.length s.2.2)],[]⟩,fun s Z=>s.1.map (·.1)=qi p V/\OwnS exE 46 X.heap.size Z s.2.1 s.2.2 s.1/\(∀ x∈s.1,OwnS evE 49 X.heap.size Z x.2.1 x.2.2 x.1.ev)/\Bw X Z,?_,?_⟩
 ·refine⟨Nat×List zb0×OA×Nat,fun s=>⟨[(8,.slice q ms.length c),(12,.slice s.2.2.1 s.2.1.length s.2.2.2),(57,i64 ms.length),(58,i64 (s.1:Nat))],[]⟩,
   fun s Z=>s.1<=ms.length/\s.2.1.map (·.1)=(ms.take s.1).flatMap (fun x=>qt x.m)/\OwnS exE 46 X.heap.size Z s.2.2.1 s.2.2.2 s.2.1/\(∀ x∈s.2.1,OwnS evE 49 X.heap.size Z x.2.1 x.2.2 x.1.ev)/\Bw X Z,fun s=>ms.length-s.1,(0,[],p0,c0),
   (cvE rfl rfl),⟨UY _,rfl,oY,fun x hx=>(by cases hx),hbY⟩,?_⟩
  clear oY hbY;rintro⟨k,outs,po,co⟩ Z ⟨hk,hou,oZ,nZ,hbZ⟩;dsimp only at hk hou oZ nZ ⊢;have hZs:=hbZ.size;have oMZ:OwnS zif 95 w.heap.size Z q c ms:=oM.same fun a ha=>hbZ.block _ (zx oM ha).2.1;have nMZ:∀ x∈ms,NInM w.heap.size (fun k=>w.heap.size<=k) Z x:=fun x hx=>(nM x hx).same fun {α E T c q l} _ _ _ hr=>⟨hr.own.same fun a ha=>hbZ.block _ (zx hr.own ha).2.1,hr.inF⟩;refine biE (fun hc=>?_) fun hc=>?_
  ·have hc:(k:Int)<(ms.length:Int):=dT hc;have hkl:k<ms.length:=by omega
   obtain⟨b,o,hq,hcall⟩:=cnt (lim:=1) hkl oMZ nMZ (by decide) (by decide);obtain⟨x,hx⟩:∃ x,ms[k]=x:=⟨_,rfl⟩;have hxm:x∈ms:=by rw [<- hx];exact gM hkl
   have htk:(ms.take (k+1)).flatMap (fun x=>qt x.m)=(ms.take k).flatMap (fun x=>qt x.m)++qt x.m:=by
    rw [tsg hkl,Kg,hx,KR,Qo,QI]
   rw [hx] at hcall;have hat:zK Z ⟨b,o+k*336,none⟩ (zop x):=by
    obtain⟨b',o',hq',_,hat⟩:=oMZ.row.at hkl;rw [hq] at hq';have:=hat k hkl;simp only [KY,Us,Gh] at hq';rw [<- hx,hq'.1,hq'.2];exact this
   have hbX2:b<X.heap.size:=(zx oM hq).2.1;subst hq;refine⟨k,rfl,hkl,cmo hcall ?_⟩;rintro e _ ⟨rfl,rfl⟩;refine biE (fun h=>?_) fun h=>?_
   ·have h:jB x.m 1=0:=Ux (dT h);have hc0:qt x.m=[]:=Gn h;rw [hc0,QI] at htk;exact nxI (by omega) ⟨(k+1,outs,po,co),(cvE rfl rfl),⟨hkl,by rw [hou,htk],oZ,nZ,hbZ⟩,zdc (by omega)⟩
   have h:jB x.m 1≠0:=fun e=>(dF h) (by rw [e];rfl);have hc1:qt x.m=zdJ x.m:=Gm h;rw [hc1] at htk;refine⟨k,rfl,hkl,cmo zsq ?_⟩;rintro e U ⟨rfl,fU,sU,hbU⟩;have hxM:=nMZ x hxm;have hxB:=hQ.mb hmo hsm x.m (by rw [<- hms];exact UI.2 ⟨x,hxm,rfl⟩) h;obtain⟨Rd,hRd⟩:∃ Rd:Nat->Prop,Rd=fun k=>k<X.heap.size\/k=Z.heap.size:=⟨_,rfl⟩;have ltX:∀ {α:Type} {E:Enc α} {T cc:Nat} {r:OA} {ll:List α},RowIn E T w.heap.size (fun k=>w.heap.size<=k) X r cc ll->∀ a,r=some a->Rd a.block:=fun {α E T cc r ll} h a ha=>by rw [hRd];exact .inl (zx h.own ha).2.1
   have hX:=nM x hxm;have hM:MixM Rd U b (o+k*336) x.m x.q x.c x.p1 x.p2 x.p3 x.c1 x.c2 x.c3 x.xs x.ys:=by
    have r:∀ {α:Type} {E:Enc α} {T cc:Nat} {r:OA} {ll:List α},RowIn E T w.heap.size (fun k=>w.heap.size<=k) Z r cc ll->SlR E U r ll:=fun {α E T cc r ll} h=>(h.own.below hbU).row;refine⟨zr hbU hat,r hxM.ev,fun e=>?_,r hxM.r1,hxM.e2,r hxM.r2,fun y hy=>r (hxM.n2 y hy),hxM.e3,r hxM.r3,fun y hy=>r (hxM.n3 y hy),by rw [hRd];exact .inl hbX2,ltX hX.ev,ltX hX.r1,ltX hX.r2,ltX hX.r3,fun y hy=>ltX (hX.n2 y hy),fun y hy=>ltX (hX.n3 y hy)⟩;rcases hxM.ev.own.inv with ⟨_,h,_⟩ | ⟨g,cur,h,_⟩
    ·exact h
    ·rw [e] at h;cases h
   have hRl:∀ k,Rd k->k<U.heap.size:=fun k hk=>by
    rw [hRd] at hk;omega
   have hTU:Tz64M U:=hG.t64.below (hbX.trans ((hbZ.trans (hbU.mono hZs)).mono hXs));have htz:=zaX hG.t64;have hI:=zsr hM fU (by rw [hRd];exact .inr rfl) hRl hTU (by rw [hRd];left;omega) hxB hxB.ev;have hln:outs.length+(zdJ x.m).length<=30000:=by
    have h2:=hQ.len hmo hsm;have h3:(qi p V)=ms.flatMap (fun x=>qt x.m):=by
     show (qk p V).flatMap qt=_;rw [<- hms,Qn]
    rw [h3] at h2;have h4:ms.flatMap (fun x=>qt x.m)=(ms.take (k+1)).flatMap (fun x=>qt x.m)++(ms.drop (k+1)).flatMap (fun x=>qt x.m):=(by rw [<- Kg,JP]);rw [h4,htk,<- hou,lap,lap,QL] at h2;omega
   refine cmo (zlG (oZ.below hbU) (fun y hy=>(nZ y hy).below hbU) (by omega) hI (UV _) (fun k hk=>⟨hRl k hk,rfl⟩) (fun k hk=>by rw [hRd] at hk;exact hk) fU (by omega) hln) ?_;rintro e T ⟨⟨new,pn,cn,rfl,zw,oT,nT⟩,hbT⟩;exact nxI (by omega) ⟨(k+1,outs++new,pn,cn),(cvE rfl rfl),⟨hkl,by rw [QO,hou,zw,htk],oT,nT,(hbZ.trans (hbU.mono hZs)).trans hbT⟩,zdc (by omega)⟩
  ·have hc:¬ (k:Int)<(ms.length:Int):=dF hc;obtain rfl:k=ms.length:=by omega
   rw [Qv] at hou;refine⟨(outs,po,co),(cvE rfl rfl),?_,oZ,nZ,hbZ⟩;rw [hou];show ms.flatMap _=(qk p V).flatMap qt;rw [<- hms,Qn]
 rintro⟨outs,po,co⟩ Z ⟨hou,oZ,nZ,hbZ⟩;exact⟨.inl ⟨V,hCO,outs,po,co,rfl,hou,oZ.lower hXs,fun x hx=>(nZ x hx).lower hXs⟩,hbX.trans (hbZ.mono hXs)⟩
end
def zb8:List (List Nat)->Nat
 | []=>1
 | f::fs=>f.length*zb8 fs
theorem zgE {a b lim:Nat} (hb:1<=b):min (min a lim*b) lim=min (a*b) lim:=by
 by_cases ha:a<=lim
 ·rw [QY ha]
 ·have e:min a lim=lim:=Nat.min_eq_right (by omega);have h2:lim<=lim*b:=Nat.le_mul_of_pos_right _ (by omega);have h3:lim<=a*b:=UL (by omega) (Nat.le_mul_of_pos_right a (by omega:0<b));rw [e,Nat.min_eq_right h2,Nat.min_eq_right h3]
theorem zfG:∀ fs:List (List Nat),(∀ f∈fs,f≠[])->1<=zb8 fs
 | [],_=>UV _
 | f::fs,h=>Nat.mul_pos (List.length_pos_iff.2 (h f Kz)) (zfG fs fun g hg=>h g (JW _ hg))
theorem zjS {lim:Nat}:∀ (fs:List (List Nat)) (n:Nat),n<=lim->(∀ f∈fs,f≠[])->zfn lim fs n=some (min (n*zb8 fs) lim)
 | [],n,h,_=>by
  show some n=some (min (n*1) lim);rw [UW,QY h]
 | f::fs,n,h,hf=>by
  have h1:f≠[]:=hf f Kz;have hp:1<=f.length:=List.length_pos_iff.2 h1;unfold zfn;rw [Gm h1,zjS fs _ (QA ..) fun g hg=>hf g (JW _ hg)];congr 1;show min (min (n*f.length) lim*zb8 fs) lim=min (n*(f.length*zb8 fs)) lim;rw [<- UD,zgE (zfG fs fun g hg=>hf g (JW _ hg))]
theorem zi5 {lim:Nat}:∀ (fs:List (List Nat)) (n:Nat),(∃ f∈fs,f=[])->zfn lim fs n=none
 | [],n,⟨f,h,_⟩=>by cases h
 | f::fs,n,⟨g,hg,e⟩=>by
  unfold zfn;by_cases h1:f=[]
  ·rw [Gn h1]
  ·rw [Gm h1];refine zi5 fs _ ⟨g,?_,e⟩;rcases UB.1 hg with h | h
   ·rw [h] at e;exact Gp e h1
   ·exact h
def up (len:Nat):Nat->Nat->Nat
 | 0,_=>1
 | m+1,k=>if k<len then k*up len m (k+1) else 1
theorem zoZ (len:Nat):∀ m k,1<=k->1<=up len m k
 | 0,_,_=>UV _
 | m+1,k,h=>by
  unfold up
  split
  ·exact Nat.mul_pos h (zoZ len m (k+1) (by omega))
  ·exact UV _
theorem znC {lim len:Nat}:∀ (m k n:Nat),1<=k->n<=lim->zgt lim len m k n=min (n*up len m k) lim
 | 0,k,n,_,h=>by
  show n=min (n*1) lim;rw [UW,QY h]
 | m+1,k,n,hk,h=>by
  unfold zgt up
  split
  ·rw [znC m (k+1) _ (by omega) (QA ..),zgE (zoZ len m (k+1) (by omega)),UD]
  ·rw [UW,QY h]
theorem zo0:∀ (m k:Nat),1<=k->∀ len,len<=k+m->k<=len->fct (k-1)*up len m k=fct (len-1)
 | 0,k,h1,len,h2,h3=>by
  show fct (k-1)*1=_;rw [UW,show len=k by omega]
 | m+1,k,h1,len,h2,h3=>by
  unfold up
  split
  ·rename_i hlt;rw [<- zo0 m (k+1) (by omega) len (by omega) (by omega),<- UD];congr 1;obtain⟨j,rfl⟩:∃ j,k=j+1:=⟨k-1,by omega⟩;show fct j*(j+1)=(j+1)*fct j;exact UM _ _
  ·rw [UW,show len=k by omega]
theorem zs0 {len:Nat} (h:1<=len):up len len 2=fct (len-1):=by
 by_cases h2:2<=len
 ·have:=zo0 len 2 (by decide) len (by omega) h2;have h3:fct (2-1)=1:=rfl;rw [h3,UX] at this;exact this
 ·have e:len=1:=by omega
  subst e;rfl
def zb7:List (List Nat)->Nat
 | []=>1
 | w::ws=>fct (w.length-1)*zb7 ws
theorem zcA:∀ ws,1<=zb7 ws
 | []=>UV _
 | w::ws=>Nat.mul_pos (zd1 _) (zcA ws)
theorem znB {lim:Nat}:∀ (ws:List (List Nat)) (n:Nat),n<=lim->(∀ w∈ws,1<=w.length)->zgs lim ws n=min (n*zb7 ws) lim
 | [],n,h,_=>by
  show n=min (n*1) lim;rw [UW,QY h]
 | w::ws,n,h,hw=>by
  unfold zgs;rw [znC _ _ _ (by decide) h,zs0 (hw w Kz),znB ws _ (QA ..) fun v hv=>hw v (JW _ hv),zgE (zcA ws)];show _=min (n*(fct (w.length-1)*zb7 ws)) lim;rw [UD]
theorem zgM {m:MixD} {lim:Nat} (h1:1<=lim) (hw:∀ w∈m.wr,1<=w.length):jB m lim=if ∀ r∈m.rs,r.2≠[] then min (zb8 (m.rs.map (·.2))*zb7 m.wr) lim else 0:=by
 unfold jB
 split
 ·rename_i e;rw [Gm];intro h;rw [zjS _ _ h1 fun f hf=>by
   obtain⟨r,hr,rfl⟩:=UI.1 hf;exact h r hr] at e
  cases e
 ·rename_i n e;by_cases h:∀ r∈m.rs,r.2≠[]
  ·rw [Gn h];rw [zjS _ _ h1 fun f hf=>by
    obtain⟨r,hr,rfl⟩:=UI.1 hf;exact h r hr] at e
   have e:=Ud e;rw [znB _ _ (by rw [<- e];exact QA ..) hw,<- e,UX,zgE (zcA _)]
  ·rw [zi5] at e
   ·cases e
   ·refine Jp fun hn=>h fun r hr e2=>hn ⟨r.2,UI.2 ⟨r,hr,rfl⟩,e2⟩
theorem zdG {m:MixD} (hw:∀ w∈m.wr,1<=w.length):jB m 1≠0↔∀ r∈m.rs,r.2≠[]:=by
 rw [zgM (by decide) hw];constructor
 ·intro h;refine Jp fun hn=>h (Gm hn)
 ·intro h;rw [Gn h];have h1:1<=zb8 (m.rs.map (·.2)):=zfG _ fun f hf=>by
   obtain⟨r,hr,rfl⟩:=UI.1 hf;exact h r hr
  have h2:1<=zb8 (m.rs.map (·.2))*zb7 m.wr:=Nat.mul_pos h1 (zcA _);rw [Nat.min_eq_right h2];decide
theorem zoH (m:MixD):(zdJ m).length=zZ (zJ m).reverse:=by
 unfold zdJ qb;rw [QL,QL,KU]
theorem zmY:∀ rs:List (Nat×List Nat),zZ (rs.map fun r=>r.2.length)=zb8 (rs.map (·.2))
 | []=>rfl
 | r::rs=>by
  show r.2.length*zZ (rs.map fun r=>r.2.length)=r.2.length*zb8 (rs.map (·.2));rw [zmY rs]
theorem zmX:∀ ws:List (List Nat),(∀ w∈ws,1<=w.length/\w.length<=48)->zZ (ws.map fun w=>(zM w).length)<=zb7 ws
 | [],_=>UV _
 | w::ws,h=>by
  show (zM w).length*zZ (ws.map fun w=>(zM w).length)<=fct (w.length-1)*zb7 ws;have h1:=h w Kz;exact Uo (zg9 h1.1 h1.2).1 (zmX ws fun v hv=>h v (JW _ hv))
theorem zqz {m:MixD} (hw:∀ w∈m.wr,1<=w.length/\w.length<=48) (h:jB m 20001<=20000):(qt m).length<=jB m 20001:=by
 unfold qt
 split
 ·exact UY _
 ·rename_i h1;have hs:=(zdG fun w hm=>(hw w hm).1).1 h1;have e:=zgM (m:=m) (lim:=20001) (by decide) fun w hm=>(hw w hm).1;rw [Gn hs] at e;have hp:zb8 (m.rs.map (·.2))*zb7 m.wr=jB m 20001:=by
   by_cases hb:zb8 (m.rs.map (·.2))*zb7 m.wr<=20001
   ·rw [e,QY hb]
   ·rw [Nat.min_eq_right (by omega)] at e;omega
  rw [zoH,<- hp];unfold zJ;have e2:zZ (m.rs.map (fun r=>r.2.length)++m.wr.map fun w=>(zM w).length).reverse=zZ (m.rs.map (fun r=>r.2.length)++m.wr.map fun w=>(zM w).length):=by
   rw [zfH];unfold zby;rw [zfR,UX]
  rw [e2,zcB,zmY];exact Nat.mul_le_mul_left _ (zmX _ hw)
theorem zmf {m:MixD} (hw:∀ w∈m.wr,1<=w.length) {lim:Nat} (hl:1<=lim) (h:jB m lim<lim) (h1:jB m 1≠0):∀ w∈m.wr,fct (w.length-1)<lim:=by
 have hs:=(zdG hw).1 h1;have e:=zgM (m:=m) hl hw;rw [Gn hs] at e;have hp:zb8 (m.rs.map (·.2))*zb7 m.wr<lim:=by
  refine Qy fun hb=>?_;rw [Nat.min_eq_right hb] at e;omega
 have h2:1<=zb8 (m.rs.map (·.2)):=by
  refine Nat.one_le_iff_ne_zero.2 fun h0=>?_;rw [h0,UR,Nat.zero_min] at e;have e1:=zgM (m:=m) (lim:=1) (by decide) hw;rw [Gn hs,h0,UR,Nat.zero_min] at e1;exact h1 e1
 have h3:zb7 m.wr<lim:=KE (Nat.le_mul_of_pos_left _ (by omega)) hp;have:∀ ws:List (List Nat),∀ w∈ws,fct (w.length-1)<=zb7 ws:=by
  intro ws
  induction ws with
  | nil=>intro w h;cases h
  | cons v ws ih =>
   intro w h;show _<=fct (v.length-1)*zb7 ws;rcases UB.1 h with e | e
   ·rw [e];exact Nat.le_mul_of_pos_right _ (zcA ws)
   ·exact UL (ih w e) (Nat.le_mul_of_pos_left _ (zd1 _))
 exact fun w hm=>KE (this _ w hm) h3
def za6:Nat->List PathD->List Ev
 | _,[]=>[]
 | k,P::Ps=>jS k P.ev++za6 (k+1) Ps
theorem zh5:∀ (Ps:List PathD) (k:Nat) (x:ExD),(asR k Ps x).ev=x.ev++za6 k Ps/\(asR k Ps x).po=x.po/\(asR k Ps x).rf=x.rf/\(asR k Ps x).co=x.co/\(asR k Ps x).mem=x.mem/\(asR k Ps x).dt.n=x.dt.n/\(asR k Ps x).ct.n=x.ct.n/\(asR k Ps x).rm.n=x.rm.n
 | [],k,x=>⟨(QI _).symm,rfl,rfl,rfl,rfl,rfl,rfl,rfl⟩
 | P::Ps,k,x=>by
  obtain⟨h1,h2⟩:=zh5 Ps (k+1) (zbv x k P);refine⟨?_,h2⟩;show (asR (k+1) Ps (zbv x k P)).ev=x.ev++(jS k P.ev++za6 (k+1) Ps);rw [h1,<- KN];rfl
theorem zlc:∀ (Ps:List PathD) (k n:Nat),Ps.foldl (fun n P=>n+P.ev.length) n=n+(za6 k Ps).length
 | [],k,n=>rfl
 | P::Ps,k,n=>by
  show Ps.foldl _ (n+P.ev.length)=n+(jS k P.ev++za6 (k+1) Ps).length;rw [zlc Ps (k+1),lap];unfold jS;rw [QL,UC]
theorem zhS:∀ (Ps:List PathD) (k:Nat) (e:Ev),e∈za6 k Ps->∃ P∈Ps,∃ a∈P.ev,∃ t:Nat,k<=t/\t<k+Ps.length/\e={ a with th:=t }
 | [],k,e,h=>by cases h
 | P::Ps,k,e,h=>by
  rcases QQ.1 h with h | h
  ·obtain⟨a,ha,rfl⟩:=UI.1 h;exact⟨P,Kz,a,ha,k,UV _,by rw [Qr];omega,rfl⟩
  ·obtain⟨Q,hQ,a,ha,t,h1,h2,h3⟩:=zhS Ps (k+1) e h;exact⟨Q,JW _ hQ,a,ha,t,by omega,by rw [Qr];omega,h3⟩
section
variable {init:List UInt8} {Ps:List PathD}
theorem zaJ:(zaa init Ps).ev=qm 0 init++za6 0 Ps:=(zh5 Ps 0 _).1
theorem zqH:(zaa init Ps).ev.length=zbw init.length Ps:=by
 rw [zaJ,lap,qj];exact (zlc Ps 0 init.length).symm
theorem zcM:(zaa init Ps).rf=zdi (zbw init.length Ps)/\(zaa init Ps).co=zdi (zbw init.length Ps)/\(zaa init Ps).mem=(fun _=>0)/\(zaa init Ps).dt.n=zbw init.length Ps/\(zaa init Ps).ct.n=zbw init.length Ps/\(zaa init Ps).rm.n=zbw init.length Ps:=by
 obtain⟨_,_,h1,h2,h3,h4,h5,h6⟩:=zh5 Ps 0 { ex0 (zbw init.length Ps) with ev:=qm 0 init };exact⟨h1,h2,h3,h4,h5,h6⟩
theorem zoL {i:Nat} (h:i<init.length):(zaa init Ps).ev[i]?=some ⟨-1,2,UInt8.ofNat i,init[i],0,0,0⟩:=by
 rw [zaJ,Jr (by rw [qj];exact h),zbe init 0 h,UQ]
theorem zqG {e:Ev} (h:e∈(zaa init Ps).ev):(∃ i,∃ h:i<init.length,e=⟨-1,2,UInt8.ofNat i,init[i],0,0,0⟩)\/∃ P∈Ps,∃ a∈P.ev,∃ t:Nat,t<Ps.length/\e={ a with th:=t }:=by
 rw [zaJ] at h;rcases QQ.1 h with h | h
 ·obtain⟨i,hi,rfl⟩:=Ki h;rw [qj] at hi;have:=zbe init 0 hi;rw [gE (by rw [qj];exact hi),UQ] at this;exact .inl ⟨i,hi,Ud this⟩
 ·obtain⟨P,hP,a,ha,t,_,h2,h3⟩:=zhS Ps 0 e h;exact .inr ⟨P,hP,a,ha,t,by omega,h3⟩
theorem zcN (hi6:init.length<=6) (hP:∀ P∈Ps,PathW init.length P) {e:Ev} (h:e∈(zaa init Ps).ev) (hk:e.k=1\/e.k=2):e.l.toNat<init.length:=by
 rcases zqG h with ⟨i,hi,rfl⟩ | ⟨P,hPm,a,ha,t,_,rfl⟩
 ·show (UInt8.ofNat i).toNat<_;rw [KH];omega
 ·exact (hP P hPm).b.loc a ha hk
end
def wrF:Nat->List Ev->Nat->List Nat
 | _,[],_=>[]
 | i,e::es,l=>(if e.k=2/\e.l.toNat=l then [i] else [])++wrF (i+1) es l
theorem zje:∀ (es:List Ev) (i:Nat) (W:List (List Nat)),(∀ e∈es,e.k=2->e.l.toNat<W.length)->(zib i es W).length=W.length/\∀ l,l<W.length->(zib i es W).getD l []=W.getD l []++wrF i es l
 | [],i,W,h=>⟨rfl,fun l hl=>(QI _).symm⟩
 | e::es,i,W,h=>by
  unfold zib;by_cases hk:e.k=2
  ·rw [Gn hk];obtain⟨V,hV⟩:=nm (W.set e.l.toNat (W.getD e.l.toNat []++[i]));have hVl:V.length=W.length:=by rw [hV,QN]
   obtain⟨h1,h2⟩:=zje es (i+1) V fun d hd hd2=>by rw [hVl];exact h d (JW _ hd) hd2
   rw [<- hV];refine⟨h1.trans hVl,fun l hl=>?_⟩;rw [h2 l (by omega)];show _=W.getD l []++((if e.k=2/\e.l.toNat=l then [i] else [])++wrF (i+1) es l);rw [<- KN];congr 1;rw [hV,gDe];by_cases hel:e.l.toNat=l
   ·rw [Gn ⟨hk,hel⟩,hel,JD hl];rfl
   ·rw [Gm fun h=>hel h.2,JU hel,QI,gDe]
  ·rw [Gm hk];obtain⟨h1,h2⟩:=zje es (i+1) W fun d hd=>h d (JW _ hd);refine⟨h1,fun l hl=>?_⟩;rw [h2 l hl];show _=W.getD l []++((if e.k=2/\e.l.toNat=l then [i] else [])++wrF (i+1) es l);rw [Gm fun h=>hk h.1,QS]
theorem zoW:∀ (es:List Ev) (i l:Nat),wrF i es l=((List.range es.length).filter fun j=>decide ((es.getD j ev0).k=2)&&decide ((es.getD j ev0).l.toNat=l)).map (· + i)
 | [],i,l=>rfl
 | e::es,i,l=>by
  unfold wrF;rw [zoW es (i+1) l,Qr,List.range_succ_eq_map,Qm,List.filter_map];have e0:(e::es).getD 0 ev0=e:=rfl;rw [e0];have ee:∀ j,(e::es).getD (Nat.succ j) ev0=es.getD j ev0:=fun j=>rfl;have hm:∀ L:List Nat,(L.map Nat.succ).map (· + i)=L.map (· + (i+1)):=fun L=>by
   rw [UG];exact Kk fun j _=>by show j.succ+i=j+(i+1);omega
  by_cases hk:e.k=2/\e.l.toNat=l
  ·rw [Gn hk,Uq hk.1,Uq hk.2,Gn (show (true&&true)=true from rfl),UA,hm,UQ];rfl
  ·rw [Gm hk];have:(decide (e.k=2)&&decide (e.l.toNat=l))=false:=by
    rw [Bool.and_eq_false_iff];by_cases h1:e.k=2
    ·exact .inr (Uf fun h=>hk ⟨h1,h⟩)
    ·exact .inl (Uf h1)
   rw [this,Gm Ku,hm];rfl
theorem zdT (all:List Ev) (W:List (List Nat)):∀ (es:List Ev) (i:Nat) (r:Nat×List Nat),r∈zbQ all W i es->∃ j e,es[j]?=some e/\e.k=1/\r=(i+j,(W.getD e.l.toNat []).filter fun w=>decide ((all.getD w ev0).v=e.v))
 | [],i,r,h=>by cases h
 | e::es,i,r,h=>by
  unfold zbQ at h
  split at h
  ·rename_i hk;rcases UB.1 h with h | h
   ·exact⟨0,e,rfl,hk,by rw [h];rfl⟩
   ·obtain⟨j,d,h1,h2,h3⟩:=zdT all W es (i+1) r h;exact⟨j+1,d,h1,h2,by rw [h3,show i+1+j=i+(j+1) by omega]⟩
  ·obtain⟨j,d,h1,h2,h3⟩:=zdT all W es (i+1) r h;exact⟨j+1,d,h1,h2,by rw [h3,show i+1+j=i+(j+1) by omega]⟩
theorem zkB (all:List Ev) (W:List (List Nat)):∀ (es:List Ev) (i:Nat),(zbQ all W i es).length<=es.length
 | [],i=>UV _
 | e::es,i=>by
  have:=zkB all W es (i+1);unfold zbQ
  split
  ·rw [Qr,Qr];omega
  ·rw [Qr];omega
structure ChoiceW (init:List UInt8) (Ps:List PathD) (m:MixD):Prop where
 i1:1<=init.length
 i6:init.length<=6
 p4:Ps.length<=4
 P:∀ P∈Ps,PathW init.length P
 n:zbw init.length Ps<=48
 m:m=zaj (zaa init Ps) init.length
section
variable {init:List UInt8} {Ps:List PathD} {m:MixD}
theorem ChoiceW.base (h:ChoiceW init Ps m):m.base=zaa init Ps:=by rw [h.m];rfl
theorem ChoiceW.len (h:ChoiceW init Ps m):m.base.ev.length=zbw init.length Ps:=by rw [h.base,zqH]
theorem ChoiceW.wr (h:ChoiceW init Ps m):m.wr.length=init.length/\∀ l,l<init.length->m.wr.getD l []=zT m.base l:=by
 obtain⟨h1,h2⟩:=zje (zaa init Ps).ev 0 (List.replicate init.length []) fun e he hk=>by
  rw [JM];exact zcN h.i6 h.P he (.inr hk)
 rw [JM] at h1 h2;have e:m.wr=zib 0 (zaa init Ps).ev (List.replicate init.length []):=by rw [h.m];rfl
 rw [e];refine⟨h1,fun l hl=>?_⟩;rw [h2 l hl,zoW,gDe,List.getElem?_replicate,Gn hl,h.base];show []++List.map (· + 0) _=_;rw [QS];show List.map (fun x=>x) _=_;rw [List.map_id'];rfl
theorem ChoiceW.wr_mem (h:ChoiceW init Ps m) {w:List Nat} (hw:w∈m.wr):∃ l,l<init.length/\w=zT m.base l/\m.wr[l]?=some w:=by
 obtain⟨h1,h2⟩:=h.wr;obtain⟨l,hl,rfl⟩:=Ki hw;refine⟨l,by omega,?_,gE hl⟩;have:=h2 l (by omega);rw [gDe,gE hl] at this;exact this
theorem ChoiceW.ini (h:ChoiceW init Ps m) {i:Nat} (hi:i<init.length):evA m.base i=⟨-1,2,UInt8.ofNat i,init[i],0,0,0⟩:=by
 unfold evA;rw [h.base,gDe,zoL hi];rfl
theorem zgu (x:ExD) (l:Nat):(zT x l).length<=x.ev.length:=by
 refine UL (JL ..) ?_;rw [KU];exact UV _
theorem zfu {x:ExD} {l a:Nat} (h:a∈zT x l):a<x.ev.length:=Um.1 (QR.1 h).1
theorem ChoiceW.head (h:ChoiceW init Ps m) {l:Nat} (hl:l<init.length):1<=(zT m.base l).length/\(zT m.base l).headD 48=l:=by
 have h6:=h.i6;have hn:init.length<=m.base.ev.length:=by
  rw [h.len];exact zgV _ _
 have e:=zgg (p:=fun i=>decide ((evA m.base i).k=2)&&decide ((evA m.base i).l.toNat=l)) (n:=m.base.ev.length) (k:=l) (by omega) (fun i hi=>by
  rw [h.ini (by omega)];have:¬ (UInt8.ofNat i).toNat=l:=by rw [KH];omega
  rw [Uf this,Ug]) (by
  rw [h.ini hl];have:(UInt8.ofNat l).toNat=l:=by rw [KH];omega
  rw [Uq this];rfl)
 unfold zT;rw [e];exact⟨by simp,rfl⟩
theorem ChoiceW.rs (h:ChoiceW init Ps m) {r:Nat×List Nat} (hr:r∈m.rs):∃ e,m.base.ev[r.1]?=some e/\e.k=1/\r.2=(m.wr.getD e.l.toNat []).filter fun w=>decide ((m.base.ev.getD w ev0).v=e.v):=by
 rw [h.m] at hr ⊢;obtain⟨j,e,h1,h2,h3⟩:=zdT _ _ _ _ _ hr;rw [UQ] at h3;exact⟨e,by rw [h3];exact h1,h2,by rw [h3];rfl⟩
theorem ChoiceW.src (h:ChoiceW init Ps m) {r:Nat×List Nat} (hr:r∈m.rs):r.1<m.base.ev.length/\r.2.length<=48/\∀ s∈r.2,s<m.base.ev.length:=by
 have hn:=h.n;rw [<- h.len] at hn;obtain⟨e,h1,h2,h3⟩:=h.rs hr;have hlt:=(Js.1 h1).1;have hel:e.l.toNat<init.length:=by
  have:e∈(zaa init Ps).ev:=by rw [<- h.base];exact JY h1
  exact zcN h.i6 h.P this (.inl h2)
 rw [h.wr.2 _ hel] at h3;refine⟨hlt,?_,fun s hs=>?_⟩
 ·rw [h3];have h4:=zgu m.base e.l.toNat;have h5:=JL (fun w=>decide ((m.base.ev.getD w ev0).v=e.v)) (zT m.base e.l.toNat);omega
 ·rw [h3] at hs;exact zfu (QR.1 hs).1
theorem ChoiceW.c (h:ChoiceW init Ps m):MixC m:=by
 have hn:=h.n;rw [<- h.len] at hn;refine⟨?_,?_,fun r hr=>?_,fun w hw=>?_⟩
 ·have:m.rs.length<=m.base.ev.length:=by
   rw [h.m];exact zkB _ _ _ _
  omega
 ·rw [h.wr.1];exact h.i6
 ·obtain⟨h1,h2,h3⟩:=h.src hr;exact⟨by omega,by omega,fun s hs=>by have:=h3 s hs;omega⟩
 ·obtain⟨l,hl,rfl,_⟩:=h.wr_mem hw;have:=zgu m.base l;omega
theorem ChoiceW.w1 (h:ChoiceW init Ps m) {w:List Nat} (hw:w∈m.wr):1<=w.length/\w.length<=48:=by
 refine⟨?_,h.c.wr w hw⟩;obtain⟨l,hl,rfl,_⟩:=h.wr_mem hw;exact (h.head hl).1
theorem ChoiceW.b (h:ChoiceW init Ps m):MixB m:=by
 have hn:=h.n;rw [<- h.len] at hn;obtain⟨b1,b2,b3,_⟩:=zcM (init:=init) (Ps:=Ps);have hc:=h.c;refine⟨hn,hc.rl,hc.wl,fun i _=>?_,fun i _=>?_,hc.rs,fun w hw=>?_⟩
 ·rw [h.base,b1];show 0<2^64;decide
 ·rw [h.base,b2];show 0<2^64;decide
 ·obtain⟨h1,h2⟩:=h.w1 hw;refine⟨h2,(zg9 h1 h2).2,fun k hk=>?_⟩;have hp:=(ziD h1 h2 hk).1;have hl:=hp.length_eq;refine⟨fun e=>by rw [e] at hl;simp at hl;omega,by omega,fun a ha=>?_⟩;obtain⟨l,hl,rfl,_⟩:=h.wr_mem hw;exact zfu (hp.subset ha)
end
theorem zfI:∀ (Ts:List (List PathD)) (ds:List Nat) (P:PathD),P∈jj Ts ds->∃ T∈Ts,P∈T
 | Ts,[],P,h=>by cases Ts <;> cases h
 | [],d::ds,P,h=>by cases h
 | T::Ts,d::ds,P,h=>by
  unfold jj at h;rcases QQ.1 h with h | h
  ·cases hd:T[d]? with
   | none=>rw [hd] at h;cases h
   | some Q =>
    rw [hd] at h;rw [KA.1 h];exact⟨T,Kz,JY hd⟩
  ·obtain⟨U,hU,h2⟩:=zfI Ts ds P h;exact⟨U,JW _ hU,h2⟩
theorem ziG:∀ (Ts:List (List PathD)) (ds:List Nat),(jj Ts ds).length<=Ts.length
 | Ts,[]=>by cases Ts <;> exact UY _
 | [],d::ds=>UV _
 | T::Ts,d::ds=>by
  unfold jj;rw [lap,Qr];have:=ziG Ts ds
  cases T[d]? <;> simp <;> omega
section
variable {p:Prg} {V:List UInt8}
theorem zhe (hO:OkG p) {l:List InsD} (hl:l∈p.threads) {P:PathD} (hP:P∈zH V l):PathW p.init.length P:=by
 obtain⟨R,hR,rfl⟩:=UI.1 hP;have h1:=hO.tl l hl;rw [hO.il] at h1;obtain⟨a,b⟩:=zqf h1 V R hR;exact ztk a b
theorem zd6 (hO:OkG p) {m:MixD} (hm:m∈qk p V):∃ ds∈qb ((p.threads.map (zH V)).map List.length),ChoiceW p.init (jj (p.threads.map (zH V)) ds) m:=by
 unfold qk zpI at hm;obtain⟨ds,hds,he⟩:=List.mem_filterMap.1 hm;unfold zhx at he
 split at he
 ·rename_i h48;refine⟨ds,hds,hO.i1,hO.i6,?_,fun P hP=>?_,h48,(Ud he).symm⟩
  ·have:=ziG (p.threads.map (zH V)) ds;rw [QL] at this;have:=hO.t4;omega
  ·obtain⟨T,hT,h2⟩:=zfI _ _ _ hP;obtain⟨l,hl,rfl⟩:=UI.1 hT;exact zhe hO hl h2
 ·cases he
theorem zpd {α:Type} {f g:α->Nat}:∀ {l:List α},(∀ a∈l,f a<=g a)->(l.map f).sum<=(l.map g).sum
 | [],_=>UV _
 | a::l,h=>by
  rw [UA,UA,List.sum_cons,List.sum_cons];have:=h a Kz;have:=zpd (l:=l) fun b hb=>h b (JW _ hb);omega
theorem zl8 {α:Type} {f:α->Nat}:∀ {l:List α} {a:α},a∈l->f a<=(l.map f).sum
 | b::l,a,h=>by
  rw [UA,List.sum_cons];rcases UB.1 h with e | e
  ·rw [e];omega
  ·have:=zl8 (f:=f) e;omega
theorem zlt (hO:OkG p):CandB p V:=by
 refine⟨fun l hl P hP=>(zhe hO hl hP).b,fun hm=>?_,fun hm m hmm=>?_,fun hm hs m hmm h1=>?_,fun hm hs=>?_⟩
 ·have h1:(qk p V).length<=(qb ((p.threads.map (zH V)).map List.length)).length:=List.length_filterMap_le _ _;have h2:(qb ((p.threads.map (zH V)).map List.length)).length=zZ ((p.threads.map (zH V)).map List.length).reverse:=by
   unfold qb;rw [QL,KU]
  have h3:=hm.2.1 p.threads.length (UV _);rw [Qv] at h3;rw [zfH] at h2;have h4:zby ((p.threads.map (zH V)).map List.length)<=4096:=by rw [UG];exact h3
  omega
 ·obtain⟨_,_,h⟩:=zd6 hO hmm;exact h.c
 ·obtain⟨_,_,h⟩:=zd6 hO hmm;exact h.b
 ·show ((qk p V).flatMap qt).length<=30000;rw [List.length_flatMap];have:((qk p V).map fun m=>(qt m).length).sum<=((qk p V).map fun m=>jB m 20001).sum:=zpd fun m hmm=>by
   obtain⟨_,_,h⟩:=zd6 hO hmm;refine zqz (fun w hw=>h.w1 hw) ?_;have:=zl8 (f:=fun m=>jB m 20001) hmm;omega
  omega
end
def chR (Rs:List (List (List Nat))) (ds:List Nat) (j:Nat):List Nat:=(Rs.getD j []).getD (ds.getD j 0) []
theorem zsU (R:List (List Nat)) (Rs:List (List (List Nat))) (ds:List Nat):chR (R::Rs) ds 0=R.getD (ds.headD 0) []:=by
 cases ds <;> rfl
theorem zgi (R:List (List Nat)) (Rs:List (List (List Nat))) (ds:List Nat) (j:Nat):chR (R::Rs) ds (j+1)=chR Rs ds.tail j:=by
 cases ds with
 | nil=>show (Rs.getD j []).getD (([]:List Nat).getD (j+1) 0) []=(Rs.getD j []).getD (([]:List Nat).getD j 0) [];rfl
 | cons d ds=>rfl
theorem zdF (ev:List Ev):∀ (Rs:List (List (List Nat))) (l:Nat) (ds:List Nat) (p:RelD×(Nat->UInt8)),(∀ j,j<Rs.length->(chR Rs ds j).Nodup)->(∀ i j j',j<Rs.length->j'<Rs.length->i∈chR Rs ds j->i∈chR Rs ds j'->j=j') ->
  (coG ev l Rs ds p).1.n=p.1.n/\∀ i j,zg (coG ev l Rs ds p).1 i j=true↔(∃ k,k<Rs.length/\i∈chR Rs ds k/\j∈twl (chR Rs ds k).reverse i)\/((∀ k,k<Rs.length->i ∉ chR Rs ds k)/\zg p.1 i j=true)
 | [],l,ds,p,_,_=>⟨rfl,fun i j=>⟨fun h => .inr ⟨fun k hk=>Gp hk (QZ _),h⟩,fun h=>by
   rcases h with ⟨k,hk,_⟩ | h
   ·exact Gp hk (QZ _)
   ·exact h.2⟩⟩
 | R::Rs,l,ds,p,hn,hd=>by
  obtain⟨q,hq⟩:=nm ((j9 (R.getD (ds.headD 0) []) p.1,upd p.2 l (ev.getD ((R.getD (ds.headD 0) []).getLastD 0) ev0).v));have e:coG ev l (R::Rs) ds p=coG ev (l+1) Rs ds.tail q:=by rw [hq];rfl
  obtain⟨h1,h2⟩:=zdF ev Rs (l+1) ds.tail q (fun j hj=>by rw [<- zgi R];exact hn (j+1) (by rw [Qr];omega)) (fun i j j' hj hj' a b=>by
   rw [<- zgi R] at a b;have:=hd i (j+1) (j'+1) (by rw [Qr];omega) (by rw [Qr];omega) a b;omega)
  have hn0:=hn 0 (by rw [Qr];omega);rw [e];refine⟨h1.trans (by rw [hq];rfl),fun i j=>?_⟩;have hb:zg q.1 i j=if i∈chR (R::Rs) ds 0 then decide (j∈twl (chR (R::Rs) ds 0).reverse i) else zg p.1 i j:=by
   rw [hq,<- zsU R Rs ds];unfold zg j9;show (zeh (chR (R::Rs) ds 0).reverse p.1.to 0 i).testBit j=_;rw [zev _ _ _ ((List.reverse_perm _).nodup_iff.2 hn0),QC,Ut];by_cases h:i∈chR (R::Rs) ds 0
   ·rw [Gn h,Gn (List.mem_reverse.2 h)]
   ·rw [Gm h,Gm fun h2=>h (List.mem_reverse.1 h2)]
  rw [h2,hb];constructor
  ·rintro (⟨k,a1,a2,a3⟩ | ⟨a1,a2⟩)
   ·rw [<- zgi R] at a2 a3;exact .inl ⟨k+1,by rw [Qr];omega,a2,a3⟩
   ·by_cases h:i∈chR (R::Rs) ds 0
    ·rw [Gn h] at a2;exact .inl ⟨0,by rw [Qr];omega,h,dT a2⟩
    ·rw [Gm h] at a2;refine .inr ⟨fun k hk=>?_,a2⟩
     cases k with
     | zero=>exact h
     | succ k=>rw [zgi];exact a1 k (by rw [Qr] at hk;omega)
  ·rintro (⟨k,a1,a2,a3⟩ | ⟨a1,a2⟩)
   ·cases k with
    | zero =>
     refine .inr ⟨fun k hk h=>?_,by rw [Gn a2];exact Uq a3⟩;rw [<- zgi R] at h;have:=hd i 0 (k+1) (by rw [Qr];omega) (by rw [Qr];omega) a2 h;omega
    | succ k =>
     rw [zgi] at a2 a3;exact .inl ⟨k,by rw [Qr] at a1;omega,a2,a3⟩
   ·refine .inr ⟨fun k hk h=>?_,?_⟩
    ·rw [<- zgi R] at h;exact a1 (k+1) (by rw [Qr];omega) h
    ·rw [Gm (a1 0 (by rw [Qr];omega))];exact a2
theorem znz (x:ExD):∀ (Rs:List (List (List Nat))) (l:Nat) (ds:List Nat) (p:RelD×(Nat->UInt8)),(∀ j,j<Rs.length->chR Rs ds j=zO x (l+j))->coG x.ev l Rs ds p=zfB x Rs.length l p
 | [],l,ds,p,_=>rfl
 | R::Rs,l,ds,p,h=>by
  have h0:=h 0 (by rw [Qr];omega);rw [zsU,UK] at h0;show coG x.ev (l+1) Rs ds.tail (j9 (R.getD (ds.headD 0) []) p.1,upd p.2 l (zcb x.ev (R.getD (ds.headD 0) [])))=zfB x Rs.length (l+1) (j9 (zO x l) p.1,upd p.2 l (zcb x.ev (zO x l)));rw [h0];refine znz x Rs (l+1) ds.tail _ fun j hj=>?_;rw [<- zgi R,h (j+1) (by rw [Qr];omega)];congr 1;omega
theorem zkd:∀ {s:List Nat},s.Nodup->s.Pairwise fun a b=>a∈twl s b
 | [],_ => .nil
 | y::s,h=>by
  have h2:=QT.1 h;refine List.pairwise_cons.2 ⟨fun b hb=>?_,?_⟩
  ·rw [zbI,Gm (fun e=>h2.1 (by rw [e];exact hb))];exact Kz
  ·refine List.Pairwise.imp_of_mem ?_ (zkd h2.2);intro a b ha hb hab;rw [zbI,Gm (fun e=>h2.1 (by rw [e];exact hb))];exact JW _ hab
theorem zm6 {key:Nat->Nat}:∀ {s:List Nat},s.Pairwise (fun a b=>key a<key b)->∀ a b,a∈s->b∈s->a≠b->key a≠key b
 | [],_,a,b,ha,_,_=>by cases ha
 | y::s,h,a,b,ha,hb,hne=>by
  have h2:=List.pairwise_cons.1 h;rcases UB.1 ha with e | e
  ·rcases UB.1 hb with e2 | e2
   ·exact Gp (e.trans e2.symm) hne
   ·have:=h2.1 b e2;rw [e];omega
  ·rcases UB.1 hb with e2 | e2
   ·have:=h2.1 a e;rw [e2];omega
   ·exact zm6 h2.2 a b e e2 hne
theorem znL {key:Nat->Nat}:∀ {a b:List Nat},a.Pairwise (fun x y=>key x<key y)->b.Pairwise (fun x y=>key x<key y)->(∀ x,x∈a↔x∈b)->a=b
 | [],[],_,_,_=>rfl
 | [],y::b,_,_,h=>Gp ((h y).2 (Kz ..)) (by simp)
 | x::a,[],_,_,h=>Gp ((h x).1 (Kz ..)) (by simp)
 | x::a,y::b,ha,hb,h=>by
  rw [List.pairwise_cons] at ha hb;have e:x=y:=by
   rcases UB.1 ((h x).1 (Kz ..)) with e | h1
   ·exact e
   ·rcases UB.1 ((h y).2 (Kz ..)) with e | h2
    ·exact e.symm
    ·have:=hb.1 x h1;have:=ha.1 y h2;omega
  subst e;rw [znL ha.2 hb.2 fun z=>?_];have hz:=h z;rw [UB,UB] at hz;constructor
  ·intro hza;rcases hz.1 (.inr hza) with e | h2
   ·subst e;have:=ha.1 z hza;omega
   ·exact h2
  ·intro hzb;rcases hz.2 (.inr hzb) with e | h2
   ·subst e;have:=hb.1 z hzb;omega
   ·exact h2
theorem zg8 {x:ExD} {l:Nat} {rk:List Nat} (h48:x.ev.length<=48) (hp:rk.Perm (zT x l)) (hb:∀ i,i∈rk->∀ j,zg x.co i j=decide (j∈twl rk.reverse i)):zO x l=rk:=by
 have hwn:(zT x l).Nodup:=List.nodup_range.filter _;have hn:rk.Nodup:=hp.nodup_iff.2 hwn;have hrn:rk.reverse.Nodup:=(List.reverse_perm _).nodup_iff.2 hn;have hlt:∀ i,i∈rk->i<64:=fun i hi=>by have:=zfu (hp.subset hi);omega
 have key:rk.reverse.Pairwise fun a b=>zbU x a<zbU x b:=by
  refine List.Pairwise.imp_of_mem ?_ (zkd hrn);intro a b ha hb2 hab;have ha:=List.mem_reverse.1 ha;have hb2:=List.mem_reverse.1 hb2;show zbT (x.co.to a)<zbT (x.co.to b);rw [zkZ,zkZ];refine zh0 (j:=a) (fun i _ hi=>?_) (hlt a ha) ?_ ?_
  ·have h1:zg x.co a i=true:=hi;rw [hb a ha] at h1;show zg x.co b i=true;rw [hb b hb2];exact Uq (zio hab (dT h1))
  ·show zg x.co a a=false;rw [hb a ha];exact Uf fun h=>(zgx h).2 rfl
  ·show zg x.co b a=true;rw [hb b hb2];exact Uq hab
 have mem:∀ a,a∈sG x l↔a∈rk.reverse:=fun a=>zcv.trans (hp.mem_iff.symm.trans List.mem_reverse.symm);have e:sG x l=rk.reverse:=by
  exact znL (key:=zbU x) (zf5 (zjk _ _) (zkl l) fun a b ha hb2 hne=>zm6 key a b ((mem a).1 ha) ((mem b).1 hb2) hne) key mem
 rw [zkE,e,Kb]
section
variable {init:List UInt8} {Ps:List PathD} {m:MixD} {ds:List Nat}
theorem zcJ (h:ChoiceW init Ps m):(zz m ds).ev.length<=48:=by
 rw [zgN,h.len];exact h.n
theorem ChoiceW.ch (h:ChoiceW init Ps m) (hd:ds∈qb (zJ m)):∀ l,l<init.length->(chR (m.wr.map zM) (ds.drop m.rs.length) l).Perm (zT m.base l)/\(chR (m.wr.map zM) (ds.drop m.rs.length) l).headD 48=l:=by
 intro l hl;obtain⟨h1,h2⟩:=zai hd;obtain⟨w1,w2⟩:=h.wr;have hlw:l<m.wr.length:=by omega
 have hw:m.wr[l]=zT m.base l:=by
  have:=w2 l hl;rw [gDe,gE hlw] at this;exact this
 have hs:(zJ m)[m.rs.length+l]?=some (zM (zT m.base l)).length:=by
  unfold zJ;rw [Jn (by rw [QL];omega),QL,Jz,KT,gE hlw,hw];rfl
 have hlen:m.rs.length+l<ds.length:=by rw [h1];exact (Js.1 hs).1
 have hdl:=h2 _ _ _ hs (gE hlen);have e1:(m.wr.map zM).getD l []=zM (zT m.base l):=by
  rw [gDe,KT,gE hlw,hw];rfl
 have e2:(ds.drop m.rs.length).getD l 0=ds[m.rs.length+l]:=by
  rw [gDe,Kw,gE hlen];rfl
 have e3:chR (m.wr.map zM) (ds.drop m.rs.length) l=(zM (zT m.base l))[ds[m.rs.length+l]]:=by
  unfold chR;rw [e1,e2,gDe,gE hdl];rfl
 have hm:chR (m.wr.map zM) (ds.drop m.rs.length) l∈zM (zT m.base l):=by rw [e3];exact gM hdl
 obtain⟨g1,g2⟩:=h.head hl;have h48:(zT m.base l).length<=48:=by
  have:=zgu m.base l;have:=h.n;have:=h.len;omega
 obtain⟨r1,r2⟩:=ziD g1 h48 hm;exact⟨r1,r2.trans g2⟩
theorem ChoiceW.chx (h:ChoiceW init Ps m) (hd:ds∈qb (zJ m)):(∀ j,j<(m.wr.map zM).length->(chR (m.wr.map zM) (ds.drop m.rs.length) j).Nodup)/\∀ i j j',j<(m.wr.map zM).length->j'<(m.wr.map zM).length->i∈chR (m.wr.map zM) (ds.drop m.rs.length) j->i∈chR (m.wr.map zM) (ds.drop m.rs.length) j'->j=j':=by
 rw [QL,h.wr.1];refine⟨fun j hj=>(h.ch hd j hj).1.nodup_iff.2 (List.nodup_range.filter _),fun i j j' hj hj' a b=>?_⟩;have a:=(h.ch hd j hj).1.subset a;have b:=(h.ch hd j' hj').1.subset b;exact (zbF.1 a).2.2.symm.trans (zbF.1 b).2.2
theorem ChoiceW.rank (h:ChoiceW init Ps m) (hd:ds∈qb (zJ m)) {l:Nat} (hl:l<init.length):zO (zz m ds) l=chR (m.wr.map zM) (ds.drop m.rs.length) l:=by
 obtain⟨c1,c2⟩:=h.chx hd;obtain⟨_,hb⟩:=zdF m.base.ev (m.wr.map zM) 0 (ds.drop m.rs.length) (m.base.co,m.base.mem) c1 c2;refine zg8 (zcJ h) (h.ch hd l hl).1 fun i hi j=>?_;have e:zg (zz m ds).co i j=zg (coG m.base.ev 0 (m.wr.map zM) (ds.drop m.rs.length) (m.base.co,m.base.mem)).1 i j:=rfl;rw [e,Bool.eq_iff_iff,hb,dE];have hlw:l<(m.wr.map zM).length:=by rw [QL,h.wr.1];exact hl
 constructor
 ·rintro (⟨k,a1,a2,a3⟩ | ⟨a1,a2⟩)
  ·have:=c2 i k l a1 hlw a2 hi;rw [<- this];exact a3
  ·exact Gp hi (a1 l hlw)
 ·exact fun hj => .inl ⟨l,hlw,hi,hj⟩
theorem ChoiceW.res (h:ChoiceW init Ps m) (hd:ds∈qb (zJ m)):((zz m ds).co,(zz m ds).mem)=zfB (zz m ds) init.length 0 (⟨(zz m ds).ev.length,fun _=>0⟩,fun _=>0):=by
 have e:=znz (zz m ds) (m.wr.map zM) 0 (ds.drop m.rs.length) (m.base.co,m.base.mem) fun j hj=>by
  rw [QL,h.wr.1] at hj;rw [UQ,h.rank hd hj]
 obtain⟨_,b2,b3,_⟩:=zcM (init:=init) (Ps:=Ps);have e2:(m.base.co,m.base.mem)=((⟨(zz m ds).ev.length,fun _=>0⟩,fun _=>0):RelD×(Nat->UInt8)):=by
  rw [zgN,h.len,h.base,b2,b3];rfl
 rw [QL,h.wr.1] at e;show coG (zz m ds).ev 0 (m.wr.map zM) (ds.drop m.rs.length) (m.base.co,m.base.mem)=_;rw [e,e2]
theorem zg4 (a:RelD):qP a a=true:=by
 unfold qP;rw [Uq rfl,Uw,Qi];exact fun i _=>Uq rfl
theorem ChoiceW.co (h:ChoiceW init Ps m) (hd:ds∈qb (zJ m)):j8 (zz m ds) init.length=true:=by
 unfold j8;have e:=(zfl (x:=zz m ds) init.length 0 (⟨(zz m ds).ev.length,fun _=>0⟩,fun _=>0) _).2 ⟨fun k _ hk=>by
  rw [h.rank hd (by omega)];exact (h.ch hd k (by omega)).2,h.res hd⟩
 rw [e];dsimp only;rw [zg4,Uw,Qi];exact fun l _=>Uq rfl
end
theorem zcy {r:RelD} {n:Nat} (hn:r.n=n) (h48:n<=48) (h:∀ i j,i<48->zg r i j=true->i<n/\j<n):RelOk n r:=by
 refine .of hn h48 h fun i hi=>Qy fun hge=>?_;obtain⟨j,hj1,hj2⟩:=Ja hge;have:=(h i j hi hj2).2;omega
theorem zm2 (ev:List Ev) {i j:Nat}:zg (poR ev) i j=true↔∃ e,ev[i]?=some e/\e.th ≠ -1/\i<j/\j<ev.length/\(ev.getD j ev0).th=e.th:=by
 unfold zg poR;show (zbz ev i).testBit j=true↔_;unfold zbz
 cases he:ev[i]? with
 | none=>simp
 | some e =>
  have hi:i<ev.length:=(Js.1 he).1;dsimp only;by_cases h1:e.th = -1
  ·rw [Gn h1];simp [h1]
  ·rw [Gm h1,zj2];rw [Qs];constructor
   ·rintro (h | ⟨m,h2,h3,h4⟩)
    ·simp at h
    ·rw [ziV] at h4;exact⟨e,rfl,h1,by omega,by omega,by rw [h3];exact h4⟩
   ·rintro⟨e',he',_,h2,h3,h4⟩
    cases he'
    refine .inr ⟨j-(i+1),by omega,by omega,?_⟩;rw [ziV,show i+1+(j-(i+1))=j by omega];exact h4
theorem zmR:∀ (rs:List (Nat×List Nat)) (ds:List Nat) (f:Nat->Nat) (i j:Nat),(rfF rs ds f i).testBit j=true↔(f i).testBit j=true\/∃ (t:Nat) (r:Nat×List Nat),rs[t]?=some r/\i=r.2.getD (ds.getD t 0) 0/\j=r.1
 | [],ds,f,i,j=>⟨fun h => .inl h,fun h=>by
   rcases h with h | ⟨t,r,h,_⟩
   ·exact h
   ·simp at h⟩
 | (r,s)::rs,ds,f,i,j=>by
  show (rfF rs ds.tail (upd f (s.getD (ds.headD 0) 0) (f (s.getD (ds.headD 0) 0)|||2^r)) i).testBit j=true↔_;rw [zmR rs];have ht:∀ t,ds.tail.getD t 0=ds.getD (t+1) 0:=fun t=>by cases ds <;> rfl
  have h0:ds.headD 0=ds.getD 0 0:=by cases ds <;> rfl
  have hu:(upd f (s.getD (ds.headD 0) 0) (f (s.getD (ds.headD 0) 0)|||2^r) i).testBit j=true↔(f i).testBit j=true\/(i=s.getD (ds.getD 0 0) 0/\j=r):=by
   rw [h0];by_cases e:i=s.getD (ds.getD 0 0) 0
   ·rw [e,zP,Up,j7,QF,dE];simp
   ·rw [qr _ _ e];exact⟨.inl,fun h=>h.resolve_right fun h2=>e h2.1⟩
  rw [hu];constructor
  ·rintro ((h | ⟨h1,h2⟩) | ⟨t,q,h1,h2,h3⟩)
   ·exact .inl h
   ·exact .inr ⟨0,(r,s),rfl,h1,h2⟩
   ·exact .inr ⟨t+1,q,h1,by rw [<- ht];exact h2,h3⟩
  ·rintro (h | ⟨t,q,h1,h2,h3⟩)
   ·exact .inl (.inl h)
   ·cases t with
    | zero =>
     have h1:some (r,s)=some q:=h1
     cases h1
     exact .inl (.inr ⟨h2,h3⟩)
    | succ t=>exact .inr ⟨t,q,h1,by rw [ht];exact h2,h3⟩
theorem ze0 (b:Nat):∀ (ps:List (Nat×Nat)) (f:Nat->Nat) (i j:Nat),(zfF b ps f i).testBit j=true↔(f i).testBit j=true\/∃ p∈ps,i=b+p.1/\j=b+p.2
 | [],f,i,j=>⟨fun h => .inl h,fun h=>by
   rcases h with h | ⟨p,h,_⟩
   ·exact h
   ·cases h⟩
 | p::ps,f,i,j=>by
  show (zfF b ps (upd f (b+p.1) (f (b+p.1)|||2^(b+p.2))) i).testBit j=true↔_;rw [ze0 b ps];have hu:(upd f (b+p.1) (f (b+p.1)|||2^(b+p.2)) i).testBit j=true↔(f i).testBit j=true\/(i=b+p.1/\j=b+p.2):=by
   by_cases e:i=b+p.1
   ·rw [e,zP,Up,j7,QF,dE];simp
   ·rw [qr _ _ e];simp [e]
  rw [hu];constructor
  ·rintro ((h | h) | ⟨q,hq,h⟩)
   ·exact .inl h
   ·exact .inr ⟨p,Kz,h⟩
   ·exact .inr ⟨q,JW _ hq,h⟩
  ·rintro (h | ⟨q,hq,h⟩)
   ·exact .inl (.inl h)
   ·rcases UB.1 hq with e | e
    ·rw [e] at h;exact .inl (.inr h)
    ·exact .inr ⟨q,e,h⟩
theorem getD_some {L:List Nat} {k:Nat} (h:k<L.length):L[k]?=some (L.getD k 0):=by
 rw [gDe,gE h];rfl
theorem zrO {L:List Nat} {k v:Nat} (h:L[k]?=some v):L.getD k 0=v:=by
 rw [gDe,h];rfl
def zcQ (sel:PathD->List (Nat×Nat)):Nat->List PathD->Nat->Nat->Prop
 | _,[],_,_=>False
 | b,P::Ps,i,j=>(∃ p∈sel P,i=b+p.1/\j=b+p.2)\/zcQ sel (b+P.ev.length) Ps i j
theorem zgT (x:ExD) (k:Nat) (P:PathD):(zbv x k P).ev.length=x.ev.length+P.ev.length:=by
 show (x.ev++jS k P.ev).length=_;rw [lap];unfold jS;rw [QL]
theorem zqL:∀ (Ps:List PathD) (k:Nat) (x:ExD) (i j:Nat),zg (asR k Ps x).dt i j=true↔zg x.dt i j=true\/zcQ PathD.data x.ev.length Ps i j
 | [],k,x,i,j=>⟨fun h => .inl h,fun h=>h.elim id False.elim⟩
 | P::Ps,k,x,i,j=>by
  show zg (asR (k+1) Ps (zbv x k P)).dt i j=true↔_;rw [zqL Ps,zgT];show ((zfF x.ev.length P.data x.dt.to i).testBit j=true\/_)↔_;rw [ze0,or_assoc];rfl
theorem zqM:∀ (Ps:List PathD) (k:Nat) (x:ExD) (i j:Nat),zg (asR k Ps x).ct i j=true↔zg x.ct i j=true\/zcQ PathD.ctrl x.ev.length Ps i j
 | [],k,x,i,j=>⟨fun h => .inl h,fun h=>h.elim id False.elim⟩
 | P::Ps,k,x,i,j=>by
  show zg (asR (k+1) Ps (zbv x k P)).ct i j=true↔_;rw [zqM Ps,zgT];show ((zfF x.ev.length P.ctrl x.ct.to i).testBit j=true\/_)↔_;rw [ze0,or_assoc];rfl
theorem zqK:∀ (Ps:List PathD) (k:Nat) (x:ExD) (i j:Nat),zg (asR k Ps x).rm i j=true↔zg x.rm i j=true\/zcQ PathD.rmw x.ev.length Ps i j
 | [],k,x,i,j=>⟨fun h => .inl h,fun h=>h.elim id False.elim⟩
 | P::Ps,k,x,i,j=>by
  show zg (asR (k+1) Ps (zbv x k P)).rm i j=true↔_;rw [zqK Ps,zgT];show ((zfF x.ev.length P.rmw x.rm.to i).testBit j=true\/_)↔_;rw [ze0,or_assoc];rfl
theorem zjP {sel:PathD->List (Nat×Nat)}:∀ (Ps:List PathD) (k b i j:Nat),(∀ P∈Ps,∀ p∈sel P,p.1<P.ev.length/\p.2<P.ev.length)->zcQ sel b Ps i j->i<b+(za6 k Ps).length/\j<b+(za6 k Ps).length
 | [],k,b,i,j,h,hd=>hd.elim
 | P::Ps,k,b,i,j,h,hd=>by
  have e:(za6 k (P::Ps)).length=P.ev.length+(za6 (k+1) Ps).length:=by
   show (jS k P.ev++za6 (k+1) Ps).length=_;rw [lap];unfold jS;rw [QL]
  rw [e];rcases hd with ⟨p,hp,h1,h2⟩ | hd
  ·have:=h P Kz p hp;omega
  ·have:=zjP Ps (k+1) _ i j (fun Q hQ=>h Q (JW _ hQ)) hd;omega
section
variable {init:List UInt8} {Ps:List PathD} {m:MixD} {ds:List Nat}
theorem zcs (n i j:Nat):¬ zg (zdi n) i j=true:=fun h=>by
 have h:(0:Nat).testBit j=true:=h;simp at h
theorem zd8 (h:∀ P∈Ps,PathW init.length P):(∀ i j,zg (zaa init Ps).dt i j=true↔zcQ PathD.data init.length Ps i j)/\(∀ i j,zg (zaa init Ps).ct i j=true↔zcQ PathD.ctrl init.length Ps i j)/\∀ i j,zg (zaa init Ps).rm i j=true↔zcQ PathD.rmw init.length Ps i j:=by
 obtain⟨x0,hx0⟩:∃ x0:ExD,x0={ ex0 (zbw init.length Ps) with ev:=qm 0 init }:=⟨_,rfl⟩;have hl:x0.ev.length=init.length:=by rw [hx0];exact qj init 0
 refine⟨fun i j=>?_,fun i j=>?_,fun i j=>?_⟩
 ·have:=zqL Ps 0 x0 i j;rw [hl] at this;show zg (asR 0 Ps _).dt i j=true↔_;rw [<- hx0,this];exact⟨fun h=>h.resolve_left (by rw [hx0];exact zcs _ i j),.inr⟩
 ·have:=zqM Ps 0 x0 i j;rw [hl] at this;show zg (asR 0 Ps _).ct i j=true↔_;rw [<- hx0,this];exact⟨fun h=>h.resolve_left (by rw [hx0];exact zcs _ i j),.inr⟩
 ·have:=zqK Ps 0 x0 i j;rw [hl] at this;show zg (asR 0 Ps _).rm i j=true↔_;rw [<- hx0,this];exact⟨fun h=>h.resolve_left (by rw [hx0];exact zcs _ i j),.inr⟩
theorem ChoiceW.rfb (h:ChoiceW init Ps m) (hd:ds∈qb (zJ m)) {i j:Nat}:zg (zz m ds).rf i j=true↔∃ (t:Nat) (r:Nat×List Nat),m.rs[t]?=some r/\i∈r.2/\r.2[ds.getD t 0]?=some i/\j=r.1:=by
 obtain⟨h1,h2⟩:=zai hd;obtain⟨b1,_⟩:=zcM (init:=init) (Ps:=Ps);have e:zg (zz m ds).rf i j=(rfF m.rs ds m.base.rf.to i).testBit j:=rfl;rw [e,zmR];have z:¬ (m.base.rf.to i).testBit j=true:=by
  rw [h.base,b1];exact zcs _ i j
 have dig:∀ {t r},m.rs[t]?=some r->ds.getD t 0<r.2.length:=fun {t r} hr=>by
  have ht:=(Js.1 hr).1;have hs:(zJ m)[t]?=some r.2.length:=by
   unfold zJ;rw [Jr (by rw [QL];exact ht),KT,hr];rfl
  have hlen:t<ds.length:=by rw [h1];exact (Js.1 hs).1
  rw [gDe,gE hlen];exact h2 _ _ _ hs (gE hlen)
 constructor
 ·rintro (h | ⟨t,r,g1,g2,g3⟩)
  ·exact Gp h z
  ·have hlt:=dig g1;have e2:r.2[ds.getD t 0]?=some i:=by
    rw [g2];exact getD_some hlt
   exact⟨t,r,g1,JY e2,e2,g3⟩
 ·rintro⟨t,r,g1,_,g2,g3⟩;exact .inr ⟨t,r,g1,(zrO g2).symm,g3⟩
structure Rels6 (n:Nat) (x:ExD):Prop where
 po:RelOk n x.po
 rf:RelOk n x.rf
 co:RelOk n x.co
 dt:RelOk n x.dt
 ct:RelOk n x.ct
 rm:RelOk n x.rm
theorem ChoiceW.rels (h:ChoiceW init Ps m) (hd:ds∈qb (zJ m)):Rels6 (zz m ds).ev.length (zz m ds):=by
 have h48:=zcJ (ds:=ds) h;obtain⟨b1,b2,b3,b4,b5,b6⟩:=zcM (init:=init) (Ps:=Ps);have hl:(zz m ds).ev.length=zbw init.length Ps:=by rw [zgN,h.len]
 have hn:((zbw init.length Ps:Nat):Int)=((zz m ds).ev.length:Nat):=by rw [hl]
 obtain⟨d1,d2,d3⟩:=zd8 h.P;have hb:init.length+(za6 0 Ps).length=(zz m ds).ev.length:=by
  rw [zgN,h.base,zaJ,lap,qj]
 refine⟨?_,?_,?_,?_,?_,?_⟩
 ·have e:(zz m ds).po=poR (zz m ds).ev:=by
   show m.base.po=poR m.base.ev;rw [h.base];rfl
  rw [e];refine zcy rfl h48 fun i j _ hb=>?_;obtain⟨e,he,_,_,h3,_⟩:=(zm2 _).1 hb;exact⟨(Js.1 he).1,h3⟩
 ·refine zcy (by show m.base.rf.n=_;rw [h.base,b1];exact hn) h48 fun i j _ hb=>?_;obtain⟨t,r,g1,g2,_,g3⟩:=(h.rfb hd).1 hb;obtain⟨s1,_,s3⟩:=h.src (JY g1);exact⟨s3 i g2,by rw [g3];exact s1⟩
 ·obtain⟨c1,c2⟩:=h.chx hd;obtain⟨c0,hbits⟩:=zdF m.base.ev (m.wr.map zM) 0 (ds.drop m.rs.length) (m.base.co,m.base.mem) c1 c2;refine zcy (by show (coG m.base.ev 0 (m.wr.map zM) (ds.drop m.rs.length) (m.base.co,m.base.mem)).1.n=_;rw [c0,h.base,b2];exact hn) h48 fun i j _ hb=>?_;have hb:zg (coG m.base.ev 0 (m.wr.map zM) (ds.drop m.rs.length) (m.base.co,m.base.mem)).1 i j=true:=hb;rcases (hbits i j).1 hb with ⟨k,a1,a2,a3⟩ | ⟨_,a2⟩
  ·rw [QL,h.wr.1] at a1;have hp:=(h.ch hd k a1).1;exact⟨zfu (hp.subset a2),zfu (hp.subset (List.mem_reverse.1 (zgx a3).1))⟩
  ·rw [h.base,b2] at a2;exact Gp a2 (zcs _ i j)
 ·refine zcy (by show m.base.dt.n=_;rw [h.base,b4];exact hn) h48 fun i j _ hb=>?_;have hb:zg m.base.dt i j=true:=hb;rw [h.base,d1] at hb;have:=zjP Ps 0 _ i j (fun P hP p hp=>(h.P P hP).b.dt p hp) hb;omega
 ·refine zcy (by show m.base.ct.n=_;rw [h.base,b5];exact hn) h48 fun i j _ hb=>?_;have hb:zg m.base.ct i j=true:=hb;rw [h.base,d2] at hb;have:=zjP Ps 0 _ i j (fun P hP p hp=>(h.P P hP).b.ct p hp) hb;omega
 ·refine zcy (by show m.base.rm.n=_;rw [h.base,b6];exact hn) h48 fun i j _ hb=>?_;have hb:zg m.base.rm i j=true:=hb;rw [h.base,d3] at hb;have:=zjP Ps 0 _ i j (fun P hP p hp=>(h.P P hP).b.rm p hp) hb;omega
end
theorem zso {p:Prg} {V:List UInt8} (hO:OkG p) {x:ExD} (hx:x∈qi p V):∃ Ps m ds,ChoiceW p.init Ps m/\m∈qk p V/\jB m 1≠0/\ds∈qb (zJ m)/\x=zz m ds:=by
 obtain⟨m,hm,hx⟩:=List.mem_flatMap.1 hx;unfold qt at hx
 split at hx
 ·cases hx
 ·rename_i h1;obtain⟨d,_,h⟩:=zd6 hO hm;obtain⟨ds,hds,rfl⟩:=UI.1 hx;exact⟨_,m,ds,h,hm,h1,hds,rfl⟩
structure GoodX (k:Nat) (x:ExD):Prop where
 n:x.ev.length<=48
 k1:1<=k
 k6:k<=6
 kn:k<=x.ev.length
 ini:qF x.ev=k
 po:x.po=poR x.ev
 rels:Rels6 x.ev.length x
 co:j8 x k=true
 ev0:(evA x 0).k=2/\(evA x 0).l=0
 w8:∀ l,(zT x l).length<=8
theorem ziT:∀ (a b:List Ev),(∀ e∈a,e.th = -1)->(∀ e∈b,e.th ≠ -1)->qF (a++b)=a.length
 | [],b,_,hb=>by
  unfold qF
  cases b with
  | nil=>rfl
  | cons e b=>rw [QS,Kn,Gm (by simpa using hb e Kz)]
 | e::a,b,ha,hb=>by
  rw [Qk,zmc,Gn (ha e Kz),ziT a b (fun d hd=>ha d (JW _ hd)) hb,Qr]
theorem zrR {n:Nat} (h:fct (n-1)<20001):n<=8:=by
 refine Nat.le_of_not_lt fun h9=>?_;have h1:fct 8<=fct (n-1):=zhP (by omega);have h2:fct 8=40320:=rfl;omega
section
variable {init:List UInt8} {Ps:List PathD} {m:MixD} {ds:List Nat}
theorem ChoiceW.inits (h:ChoiceW init Ps m):qF m.base.ev=init.length:=by
 rw [h.base,zaJ,ziT,qj]
 ·intro e he;obtain⟨i,hi,rfl⟩:=Ki he;rw [qj] at hi;have:=zbe init 0 hi;rw [gE (by rw [qj];exact hi)] at this;rw [Ud this]
 ·intro e he;obtain⟨P,hP,a,ha,t,_,_,rfl⟩:=zhS Ps 0 e he;show ((t:Nat):Int) ≠ -1;omega
theorem ChoiceW.good (h:ChoiceW init Ps m) (hd:ds∈qb (zJ m)) (h1:jB m 1≠0) (hc:jB m 20001<=20000):GoodX init.length (zz m ds):=by
 have hin:init.length<=m.base.ev.length:=by rw [h.len];exact zgV _ _
 have e0:=h.ini (i:=0) (by have:=h.i1;omega);refine⟨zcJ h,h.i1,h.i6,hin,h.inits,?_,h.rels hd,h.co hd,?_,fun l=>?_⟩
 ·show m.base.po=poR m.base.ev;rw [h.base];rfl
 ·show (evA m.base 0).k=2/\(evA m.base 0).l=0;rw [e0];exact⟨rfl,rfl⟩
 ·show (zT m.base l).length<=8;by_cases hl:l<init.length
  ·have hw:=h.wr.2 l hl;have hlw:l<m.wr.length:=by have:=h.wr.1;omega
   have hm:zT m.base l∈m.wr:=by
    rw [<- hw,gDe,gE hlw];exact gM hlw
   exact zrR (zmf (fun w hw=>(h.w1 hw).1) (lim:=20001) (by decide) (by omega) h1 _ hm)
  ·have:zT m.base l=[]:=by
    refine Je.2 fun a ha=>?_;obtain⟨a1,a2,a3⟩:=zbF.1 ha;have hmem:evA m.base a∈(zaa init Ps).ev:=by
     rw [<- h.base];unfold evA;rw [gDe,gE a1];exact gM a1
    have:=zcN h.i6 h.P hmem (.inr (dT a2));omega
   rw [this];exact UY _
end
theorem zmt {p:Prg} {V:List UInt8} {most:Nat} (hO:OkG p) (hc:zcr p V most) (hm:most<=20000) {x:ExD} (hx:x∈qi p V):GoodX p.init.length x:=by
 obtain⟨Ps,m,ds,h,hmm,h1,hd,rfl⟩:=zso hO hx;refine h.good hd h1 ?_;have h2:=hc.2.2;have:=zl8 (f:=fun m=>jB m 20001) hmm;omega
structure RightP (x:ExD):Prop where
 ev:jx x.ev (qF x.ev)=true
 rel:∀ r∈[x.po,x.rf,x.co,x.dt,x.ct,x.rm],r.n=x.ev.length/\okR r=true
 po:qP x.po (poR x.ev)=true
 rf:zaH x=true
 co:j8 x (qF x.ev)=true
section
variable {k:Nat} {x:ExD} {i:Nat}
structure SpW (y:ExD):Prop where
 w20:∀ l,(zT y l).length<=20
 po:zG y.po.to
 rf:zG y.rf.to
 co:zG y.co.to
 dt:zG y.dt.to
 ct:zG y.ct.to
 rm:zG y.rm.to
end
theorem znt (L : Nat) (es : List Ev) (t : Int) (n : Nat) : ∀ (vs : List UInt8) (i : Nat), i + vs.length = L → zbY L i (qm i vs ++ es) t n = zbY L L es t n
  | [], i, h => by
    have : i = L := by simpa using h
    rw [this]; rfl
  | v :: vs, i, h => by
    rw [Qr] at h
    show zbY L i (⟨-1, 2, UInt8.ofNat i, v, 0, 0, 0⟩ :: (qm (i + 1) vs ++ es)) t n = _
    have step : zbY L i (⟨-1, 2, UInt8.ofNat i, v, 0, 0, 0⟩ :: (qm (i + 1) vs ++ es)) t n = zbY L (i + 1) (qm (i + 1) vs ++ es) t n := by
      conv => lhs; unfold zbY
      rw [Gn (by omega), Gn rfl]
    rw [step]
    exact znt L es t n vs (i + 1) (by omega)
theorem zns {L k : Nat} (hk : k < 4) (qI : List Ev) : ∀ (es : List Ev) (i j : Nat) (t : Int) (n : Nat), L ≤ i → (∀ q e, es[q]? = some e → zsF L (j + q) e) → j + es.length ≤ 24 → 0 ≤ t → ((t = k ∧ n = j) ∨ (j = 0 ∧ t < k)) →
    ∃ (t' : Int) (n' : Nat), zbY L i (jS k es ++ qI) t n = zbY L (i + es.length) qI t' n' ∧ 0 ≤ t' ∧ ((t' = k ∧ n' = j + es.length) ∨ (j = 0 ∧ es = [] ∧ t' < k))
  | [], i, j, t, n, hi, he, hj, h0, hs => ⟨t, n, rfl, h0, by
      rcases hs with ⟨a, b⟩ | ⟨a, b⟩
      · exact .inl ⟨a, b⟩
      · exact .inr ⟨a, rfl, b⟩⟩
  | e :: es, i, j, t, n, hi, he, hj, h0, hs => by
    rw [Qr] at hj
    obtain ⟨_, hp, hkd⟩ := he 0 e rfl
    rw [UK] at hp
    have hpn : e.p.toNat = j := by rw [hp, KH]; omega
    have htk : t ≤ k := by rcases hs with ⟨a, _⟩ | ⟨_, b⟩ <;> omega
    have ht' : (if t < (k : Int) then (k : Int) else t) = k := by split <;> omega
    have hn' : (if t < (k : Int) then 0 else n) = j := by
      rcases hs with ⟨a, b⟩ | ⟨a, b⟩
      · rw [Gm (by omega)]; exact b
      · rw [Gn b]; exact a.symm
    obtain ⟨t2, n2, h1, h2, h3⟩ := zns (L := L) hk qI es (i + 1) (j + 1) k (j + 1) (by omega) (fun q d hq => by
      have h5 := he (q + 1) d hq
      have e5 : j + (q + 1) = j + 1 + q := by omega
      rw [e5] at h5
      exact h5) (by omega) (by omega) (.inl ⟨rfl, rfl⟩)
    refine ⟨t2, n2, ?_, h2, ?_⟩
    · rw [Qr, show i + (es.length + 1) = i + 1 + es.length by omega, ← h1]
      show zbY L i ({ e with th := (k : Int) } :: (jS k es ++ qI)) t n = _
      have step : zbY L i ({ e with th := (k : Int) } :: (jS k es ++ qI)) t n = if i < L then (if ({ e with th := (k : Int) } : Ev) = ⟨-1, 2, UInt8.ofNat i, e.v, 0, 0, 0⟩ then zbY L (i + 1) (jS k es ++ qI) t n else false) else if (k : Int) < t ∨ 4 ≤ (k : Int) then false else
          (if e.p.toNat = (if t < (k : Int) then 0 else n) then
            (if e.k = 1 ∨ e.k = 2 then (if e.l.toNat < L then zbY L (i + 1) (jS k es ++ qI) (if t < (k : Int) then (k : Int) else t) ((if t < (k : Int) then 0 else n) + 1) else false)
             else if e.k = 3 then (if e.l = 0 ∧ e.v = 0 then zbY L (i + 1) (jS k es ++ qI) (if t < (k : Int) then (k : Int) else t) ((if t < (k : Int) then 0 else n) + 1) else false) else false)
            else false) := rfl
      rw [step, Gm (by omega), Gm (by omega), hn', Gn hpn, ht']
      rcases hkd with ⟨a, b⟩ | ⟨a, b⟩
      · rw [Gn a, Gn b]
      · rw [Gm (by rw [a]; decide), Gn a, Gn b]
    · rcases h3 with ⟨a, b⟩ | ⟨a, _⟩
      · exact .inl ⟨a, by rw [Qr, b]; omega⟩
      · omega
theorem zhT {L : Nat} : ∀ (Ps : List PathD) (k i : Nat) (t : Int) (n : Nat), L ≤ i → (∀ P ∈ Ps, PathW L P) → k + Ps.length ≤ 4 → 0 ≤ t → (t < k ∨ (t = k ∧ n = 0)) → zbY L i (za6 k Ps) t n = true
  | [], k, i, t, n, _, _, _, _, _ => rfl
  | P :: Ps, k, i, t, n, hi, hP, hk, h0, hs => by
    rw [Qr] at hk
    have hw := hP P Kz
    obtain ⟨t2, n2, h1, h2, h3⟩ := zns (L := L) (k := k) (by omega) (za6 (k + 1) Ps) P.ev i 0 t n hi (fun q e hq => by rw [UQ]; exact hw.ev q e hq) (by have := hw.n; omega) h0 (by
      rcases hs with a | ⟨a, b⟩
      · exact .inr ⟨rfl, a⟩
      · exact .inl ⟨a, b⟩)
    show zbY L i (jS k P.ev ++ za6 (k + 1) Ps) t n = true
    rw [h1]
    refine zhT Ps (k + 1) _ t2 n2 (by omega) (fun Q hQ => hP Q (JW _ hQ)) (by omega) h2 (.inl ?_)
    rcases h3 with ⟨a, _⟩ | ⟨_, _, a⟩ <;> omega
section
variable {init : List UInt8} {Ps : List PathD} {m : MixD} {ds : List Nat}
theorem ChoiceW.evs (h : ChoiceW init Ps m) : jx m.base.ev init.length = true := by
  unfold jx
  rw [h.base, zaJ, znt init.length _ 0 0 init 0 (UQ _)]
  exact zhT Ps 0 _ 0 0 (UV _) h.P (by have := h.p4; omega) (Int.le_refl _) (.inr ⟨rfl, rfl⟩)
theorem zkC (all : List Ev) (W : List (List Nat)) : ∀ (es : List Ev) (i j : Nat) (e : Ev), es[j]? = some e → e.k = 1 → ∃ (t : Nat) (s : List Nat), (zbQ all W i es)[t]? = some (i + j, s)
  | [], i, j, e, h, _ => by simp at h
  | d :: es, i, 0, e, h, hk => by
    have e1 : d = e := by simpa using h
    subst e1
    unfold zbQ
    rw [Gn hk]
    exact ⟨0, _, rfl⟩
  | d :: es, i, j + 1, e, h, hk => by
    obtain ⟨t, s, ht⟩ := zkC all W es (i + 1) j e (by simpa using h) hk
    rw [show i + 1 + j = i + (j + 1) by omega] at ht
    unfold zbQ
    split
    · exact ⟨t + 1, s, ht⟩
    · exact ⟨t, s, ht⟩
theorem zmU (all : List Ev) (W : List (List Nat)) : ∀ (es : List Ev) (i : Nat), (zbQ all W i es).Pairwise (fun a b => a.1 < b.1) ∧ ∀ r ∈ zbQ all W i es, i ≤ r.1
  | [], i => ⟨.nil, fun r h => by cases h⟩
  | d :: es, i => by
    obtain ⟨h1, h2⟩ := zmU all W es (i + 1)
    unfold zbQ
    split
    · refine ⟨List.pairwise_cons.2 ⟨fun r hr => ?_, h1⟩, fun r hr => ?_⟩
      · have := h2 r hr
        show i < r.1
        omega
      · rcases UB.1 hr with e | e
        · rw [e]; exact UV _
        · have := h2 r e; omega
    · exact ⟨h1, fun r hr => by have := h2 r hr; omega⟩
theorem ChoiceW.rs_one (h : ChoiceW init Ps m) {t t' : Nat} {r r' : Nat × List Nat} (h1 : m.rs[t]? = some r) (h2 : m.rs[t']? = some r') (he : r.1 = r'.1) : t = t' := by
  have hp : m.rs.Pairwise (fun a b => a.1 < b.1) := by rw [h.m]; exact (zmU _ _ _ _).1
  obtain ⟨l1, e1⟩ := Js.1 h1
  obtain ⟨l2, e2⟩ := Js.1 h2
  rcases Nat.lt_trichotomy t t' with g | g | g
  · have := List.pairwise_iff_getElem.1 hp t t' l1 l2 g
    rw [e1, e2] at this
    omega
  · exact g
  · have := List.pairwise_iff_getElem.1 hp t' t l2 l1 g
    rw [e1, e2] at this
    omega
theorem ChoiceW.rf (h : ChoiceW init Ps m) (hd : ds ∈ qb (zJ m)) : zaH (zz m ds) = true := by
  have hr := h.rels hd
  have dig : ∀ {t r}, m.rs[t]? = some r → ds.getD t 0 < r.2.length := fun {t r} hr => by
    obtain ⟨h1, h2⟩ := zai hd
    have ht := (Js.1 hr).1
    have hs : (zJ m)[t]? = some r.2.length := by
      unfold zJ
      rw [Jr (by rw [QL]; exact ht), KT, hr]; rfl
    have hlen : t < ds.length := by rw [h1]; exact (Js.1 hs).1
    rw [Jm, Jv hlen]
    exact h2 _ _ _ hs (Jv hlen)
  refine (zju hr.rf).2 ⟨fun a b ha hb hab => ?_, fun b hb hrb => ⟨?_, fun i j hi hj h1 h2 => ?_⟩⟩
  · obtain ⟨t, r, h1, h2, h3, h4⟩ := (h.rfb hd).1 hab
    obtain ⟨e, g1, g2, g3⟩ := h.rs (JY h1)
    have hem : e ∈ (zaa init Ps).ev := by rw [← h.base]; exact JY g1
    have hel := zcN h.i6 h.P hem (.inl g2)
    rw [g3, h.wr.2 _ hel] at h2
    obtain ⟨m1, m2⟩ := QR.1 h2
    obtain ⟨a1, a2, a3⟩ := zbF.1 m1
    have eb : evA (zz m ds) b = e := by
      show m.base.ev.getD b ev0 = e
      rw [h4, Jm, g1]; rfl
    have m2 : (evA m.base a).v = e.v := Qb m2
    refine ⟨a2, ?_, ?_, ?_⟩
    · unfold isR
      rw [eb]; exact Uq g2
    · rw [eb]
      exact Ue.1 a3
    · rw [eb]; exact m2
  · have hb : b < m.base.ev.length := hb
    have hev : m.base.ev[b]? = some (evA m.base b) := by
      unfold evA
      rw [Jm, Jv hb]; rfl
    have hk : (evA m.base b).k = 1 := Qb hrb
    obtain ⟨t, s, ht⟩ := zkC m.base.ev m.wr m.base.ev 0 b _ hev hk
    have ht : m.rs[t]? = some (0 + b, s) := by
      have e : m.rs = zbQ m.base.ev m.wr 0 m.base.ev := by rw [h.m]; rfl
      rw [e]; exact ht
    rw [UQ] at ht
    have hlt := dig ht
    have e2 : s[ds.getD t 0]? = some (s[ds.getD t 0]'hlt) := Jv hlt
    have hab : zg (zz m ds).rf (s[ds.getD t 0]'hlt) b = true := (h.rfb hd).2 ⟨t, (b, s), ht, JY e2, e2, rfl⟩
    exact ⟨_, (h.src (JY ht)).2.2 _ (JY e2), hab⟩
  · obtain ⟨t, r, g1, g2, g3, g4⟩ := (h.rfb hd).1 h1
    obtain ⟨t', r', k1, k2, k3, k4⟩ := (h.rfb hd).1 h2
    have et := h.rs_one g1 k1 (by omega)
    subst et
    rw [g1] at k1
    obtain rfl := Ud k1
    rw [g3] at k3
    exact Ud k3
theorem zql {sel : PathD → List (Nat × Nat)} : ∀ (Ps : List PathD) (k b i j : Nat), zcQ sel b Ps i j → ∃ P ∈ Ps, ∃ p ∈ sel P, ∃ (o t : Nat), i = b + o + p.1 ∧ j = b + o + p.2 ∧ ∀ q e, P.ev[q]? = some e → (za6 k Ps)[o + q]? = some { e with th := t }
  | [], _, _, _, _, h => h.elim
  | P :: Ps, k, b, i, j, h => by
    rcases h with ⟨p, hp, h1, h2⟩ | h
    · refine ⟨P, Kz, p, hp, 0, k, h1, h2, fun q e he => ?_⟩
      have hq := (Js.1 he).1
      show (jS k P.ev ++ za6 (k + 1) Ps)[0 + q]? = _
      rw [UQ, Jr (by unfold jS; rw [QL]; exact hq)]
      unfold jS
      rw [KT, he]; rfl
    · obtain ⟨Q, hQ, p, hp, o, t, h1, h2, h3⟩ := zql Ps (k + 1) _ _ _ h
      refine ⟨Q, JW _ hQ, p, hp, P.ev.length + o, t, by omega, by omega, fun q e he => ?_⟩
      show (jS k P.ev ++ za6 (k + 1) Ps)[P.ev.length + o + q]? = _
      have hl : (jS k P.ev).length = P.ev.length := by unfold jS; rw [QL]
      rw [Jn (by omega), hl, show P.ev.length + o + q - P.ev.length = o + q by omega]
      exact h3 q e he
theorem ChoiceW.dep (h : ChoiceW init Ps m) (hd : ds ∈ qb (zJ m)) : zaE (zz m ds) = true := by
  have hr := h.rels hd
  have h48 := zcJ h (ds := ds)
  obtain ⟨d1, d2, d3⟩ := zd8 (init := init) h.P
  have il : (qm 0 init).length = init.length := qj _ _
  have ends : ∀ {sel : PathD → List (Nat × Nat)} {i j : Nat}, zcQ sel init.length Ps i j → ∃ P ∈ Ps, ∃ p ∈ sel P, ∃ (o t : Nat), i = init.length + o + p.1 ∧ j = init.length + o + p.2 ∧ ∀ q e, P.ev[q]? = some e → evA (zz m ds) (init.length + o + q) = { e with th := t } ∧ (zz m ds).ev[init.length + o + q]? = some { e with th := t } := fun {sel i j} hD => by
    obtain ⟨P, hP, p, hp, o, t, h1, h2, h3⟩ := zql Ps 0 _ _ _ hD
    refine ⟨P, hP, p, hp, o, t, h1, h2, fun q e he => ?_⟩
    have e1 : (zz m ds).ev[init.length + o + q]? = some { e with th := t } := by
      show m.base.ev[_]? = _
      rw [h.base, zaJ, Jn (by omega), il, show init.length + o + q - init.length = o + q by omega]
      exact h3 q e he
    refine ⟨?_, e1⟩
    unfold evA
    rw [Jm, e1]; rfl
  have po : ∀ {i j t : Nat} {a b : Ev}, (zz m ds).ev[i]? = some { a with th := t } → (zz m ds).ev[j]? = some { b with th := t } → i < j → zg (zz m ds).po i j = true := fun {i j t a b} h1 h2 hij => by
    have e : (zz m ds).po = poR (zz m ds).ev := by
      show m.base.po = poR m.base.ev
      rw [h.base]; rfl
    rw [e]
    refine (zm2 _).2 ⟨_, h1, ?_, hij, (Js.1 h2).1, ?_⟩
    · show ((t : Nat) : Int) ≠ -1
      omega
    · rw [Jm, h2]; rfl
  have bdt : ∀ {i j}, zg (zz m ds).dt i j = true → isR (zz m ds) i = true ∧ isW (zz m ds) j = true ∧ zg (zz m ds).po i j = true := fun {i j} hb => by
    have hb : zg m.base.dt i j = true := hb
    rw [h.base] at hb
    obtain ⟨P, hP, p, hp, o, t, rfl, rfl, h3⟩ := ends ((d1 _ _).1 hb)
    obtain ⟨a, b, g1, g2, g3, g4, g5⟩ := (h.P P hP).dt p hp
    obtain ⟨a1, a2⟩ := h3 _ _ g1
    obtain ⟨b1, b2⟩ := h3 _ _ g2
    refine ⟨?_, ?_, po a2 b2 (by omega)⟩
    · unfold isR; rw [a1]; exact Uq g4
    · unfold isW; rw [b1]; exact Uq g5
  have bct : ∀ {i j}, zg (zz m ds).ct i j = true → isR (zz m ds) i = true ∧ zg (zz m ds).po i j = true := fun {i j} hb => by
    have hb : zg m.base.ct i j = true := hb
    rw [h.base] at hb
    obtain ⟨P, hP, p, hp, o, t, rfl, rfl, h3⟩ := ends ((d2 _ _).1 hb)
    obtain ⟨a, b, g1, g2, g3, g4⟩ := (h.P P hP).ct p hp
    obtain ⟨a1, a2⟩ := h3 _ _ g1
    obtain ⟨b1, b2⟩ := h3 _ _ g2
    refine ⟨?_, po a2 b2 (by omega)⟩
    unfold isR; rw [a1]; exact Uq g4
  have brm : ∀ {i j}, zg (zz m ds).rm i j = true → isR (zz m ds) i = true ∧ isW (zz m ds) j = true ∧ zg (zz m ds).po i j = true ∧ j = i + 1 ∧ (evA (zz m ds) j).l = (evA (zz m ds) i).l := fun {i j} hb => by
    have hb : zg m.base.rm i j = true := hb
    rw [h.base] at hb
    obtain ⟨P, hP, p, hp, o, t, rfl, rfl, h3⟩ := ends ((d3 _ _).1 hb)
    obtain ⟨a, b, g1, g2, g3, g4, g5, g6⟩ := (h.P P hP).rm p hp
    obtain ⟨a1, a2⟩ := h3 _ _ g1
    obtain ⟨b1, b2⟩ := h3 _ _ g2
    refine ⟨?_, ?_, po a2 b2 (by omega), by omega, ?_⟩
    · unfold isR; rw [a1]; exact Uq g4
    · unfold isW; rw [b1]; exact Uq g5
    · rw [a1, b1]; exact g6.symm
  unfold zaE
  have hs := zlg h48 hr.po hr.dt hr.ct hr.rm (zz m ds).ev.length 0 0 (UQ _)
  rw [Uk] at hs
  refine hs.2 ⟨fun k _ hk => ⟨fun j hj => ?_, fun j hj => ?_, fun i j hi hj => ?_, fun j hj => ?_⟩, fun k j _ _ _ => QC _, fun k k' j _ hkk _ h1 h2 => ?_⟩
  · rcases hj with hj | hj
    · exact (bdt hj).2.1
    · exact (brm hj).2.1
  · rcases hj with hj | hj | hj
    · exact ⟨(bdt hj).1, (bdt hj).2.2⟩
    · exact bct hj
    · exact ⟨(brm hj).1, (brm hj).2.2.1⟩
  · have := (brm hi).2.2.2.1
    have := (brm hj).2.2.2.1
    omega
  · exact (brm hj).2.2.2.2
  · have := (brm h1).2.2.2.1
    have := (brm h2).2.2.2.1
    omega
theorem ChoiceW.right (h : ChoiceW init Ps m) (hd : ds ∈ qb (zJ m)) : jm (zz m ds) = true := by
  have hin : qF (zz m ds).ev = init.length := h.inits
  have hr := h.rels hd
  unfold jm
  rw [hin]
  simp only [Qg]
  refine ⟨Uq (zcJ h), Uq h.i1, Uq h.i6, h.evs, ?_, ?_, h.rf hd, h.co hd, h.dep hd⟩
  · unfold zaQ
    rw [Qi]
    have one : ∀ {r : RelD}, RelOk (zz m ds).ev.length r → (decide (r.n = (zz m ds).ev.length) && okR r) = true := fun {r} h => by
      rw [Qg]
      exact ⟨Uq h.n, h.ok⟩
    intro r hr2
    simp only [UB, Qu, Gk] at hr2
    rcases hr2 with rfl | rfl | rfl | rfl | rfl | rfl
    · exact one hr.po
    · exact one hr.rf
    · exact one hr.co
    · exact one hr.dt
    · exact one hr.ct
    · exact one hr.rm
  · have e : (zz m ds).po = poR (zz m ds).ev := by
      show m.base.po = poR m.base.ev
      rw [h.base]; rfl
    rw [e]
    exact zg4 _
end
def zkA (l:List Ev):List UInt8:=(l.filter fun e=>decide (e.k=1)).map (·.v)
def zdh (R:RunD):List Ev:=(List.range R.many).map R.ev
def qp (R:RunD):List UInt8:=zkA (zdh R)
def zfe (l:List InsD):List UInt8->RunD->Option RunD
 | [],S=>match l[(goR l l.length S).pc]? with
  | none=>some (goR l l.length S)
  | some _=>none
 | v::vs,S=>match l[(goR l l.length S).pc]? with
  | none=>none
  | some x=>zfe l vs (zQ (goR l l.length S) x v)
theorem zps (a b:List Ev):zkA (a++b)=zkA a++zkA b:=by
 unfold zkA;rw [Kv,QO]
theorem zqa (R:RunD) (k l v m:UInt8) (d:Nat):zdh (j4 R k l v m d)=zdh R++[⟨0,k,l,v,m,UInt8.ofNat R.pc,UInt8.ofNat R.many⟩]:=by
 show (List.range (R.many+1)).map (upd R.ev R.many _)=_;rw [QU,QO,List.map_singleton,zP];congr 1;refine Kk fun i hi=>?_;have:=Um.1 hi;exact qr _ _ (by omega)
theorem zbd (R:RunD) (k l v m:UInt8) (d:Nat):qp (j4 R k l v m d)=qp R++if k=1 then [v] else []:=by
 unfold qp;rw [zqa,zps];congr 1;unfold zkA;by_cases h:k=1
 ·rw [Qm,Gn (Uq h),Gn h];rfl
 ·rw [Qm,Gm (by simpa using h),Gm h];rfl
theorem zep (R:RunD) (x:InsD) (o v:UInt8) (d:Nat):qp (zbX R x o v d)=qp R++[o]:=by
 show qp (j4 (j4 R 1 x.loc o 3 0) 2 x.loc v 3 d)=_;rw [zbd,zbd,Gn rfl,Gm (by decide),QI]
theorem zof {x:InsD} (hx:ExG x) (R:RunD) (v:UInt8):qp (zeE R x v)=qp R++if jn x=true then [v] else []:=by
 rcases hx with ⟨e,-⟩ | ⟨e,-⟩ | ⟨e,-⟩ | ⟨e,-⟩ | ⟨e,-⟩ | ⟨e,-⟩ | e | ⟨e,-⟩
 ·rw [qg.1 e,Gn (by unfold jn;rw [e];rfl)];show qp (j4 R 1 x.loc v x.mode 0)=_;rw [zbd,Gn rfl]
 ·rw [qg.2.1 e,Gm (by unfold jn;rw [e];decide)];show qp (j4 R 2 x.loc _ x.mode _)=_;rw [zbd,Gm (by decide)]
 ·rw [qg.2.2.1 e,Gm (by unfold jn;rw [e];decide),QI];rfl
 ·rw [qg.2.2.2.1 e,Gn (by unfold jn;rw [e];rfl)];exact zep ..
 ·rw [qg.2.2.2.2.1 e,Gn (by unfold jn;rw [e];rfl)];show qp (zbX R x v (v+(qC x.ar x.an R).1) (qC x.ar x.an R).2)=_;exact zep ..
 ·rw [qg.2.2.2.2.2.1 e,Gn (by unfold jn;rw [e];rfl)];unfold zdH
  split
  ·show qp (zbX R x v (qC x.br x.bn R).1 (qC x.br x.bn R).2)=_;exact zep ..
  ·show qp (j4 R 1 x.loc v 3 0)=_;rw [zbd,Gn rfl]
 ·rw [qg.2.2.2.2.2.2.1 e,Gm (by unfold jn;rw [e];decide)];show qp (j4 R 3 0 0 x.mode 0)=_;rw [zbd,Gm (by decide)]
 ·rw [qg.2.2.2.2.2.2.2 e,Gm (by unfold jn;rw [e];decide),QI];unfold zbJ;dsimp only
  split <;> rfl
theorem zc1 {x:InsD} (hx:ExG x) (R:RunD) (v:UInt8):qp (zQ R x v)=qp R++if jn x=true then [v] else []:=zof hx R v
section
variable {l:List InsD}
theorem zdp (ht:ThG l):∀ (n:Nat) (S:RunD),RunOk l S->qp (goR l n S)=qp S/\S.pc<=(goR l n S).pc
 | 0,S,_=>⟨rfl,UV _⟩
 | n+1,S,h=>by
  show qp (match l[S.pc]? with | none=>S | some x=>if jn x then S else goR l n (zQ S x 0))=_/\S.pc<=(match l[S.pc]? with | none=>S | some x=>if jn x then S else goR l n (zQ S x 0)).pc
  cases hg:l[S.pc]? with
  | none=>exact⟨rfl,UV _⟩
  | some x =>
   dsimp only
   split
   ·exact⟨rfl,UV _⟩
   ·rename_i hr;obtain⟨h1,h2⟩:=zaD (v:=0) ht h hg;obtain⟨h3,h4⟩:=zdp ht n _ h1;refine⟨?_,by omega⟩;rw [h3,zc1 (ht.2 _ _ hg).1,Gm hr,QI]
theorem zhK (ht:ThG l):∀ (n:Nat) (S:RunD),RunOk l S->l.length<=n+S.pc->∀ x,l[(goR l n S).pc]?=some x->jn x=true
 | 0,S,h,hn,x,hx=>by
  have:(goR l 0 S).pc<l.length:=(Js.1 hx).1;have:S.pc<l.length:=this;omega
 | n+1,S,h,hn,x,hx=>by
  have hx:l[(match l[S.pc]? with | none=>S | some x=>if jn x then S else goR l n (zQ S x 0)).pc]?=some x:=hx
  cases hg:l[S.pc]? with
  | none =>
   rw [hg] at hx;have hx:l[S.pc]?=some x:=hx;rw [hg] at hx;cases hx
  | some y =>
   rw [hg] at hx;dsimp only at hx
   split at hx
   ·rename_i hr;rw [hg] at hx;rw [<- Ud hx];exact hr
   ·obtain⟨h1,h2⟩:=zaD (v:=0) ht h hg;exact zhK ht n _ h1 (by omega) x hx
theorem zcl (ht:ThG l) (V:List UInt8):∀ (n:Nat) (S:RunD),RunOk l S->l.length<=n+S.pc->∀ R∈qa l V n S,∃ vs,zfe l vs S=some R/\qp R=qp S++vs/\∀ v∈vs,v∈V
 | 0,S,h,hn,R,hR=>by
  have hR:=KA.1 hR;have hp:=(zdp ht l.length S h).2;have hg:l[(goR l l.length S).pc]?=none:=JJ (by omega);refine⟨[],?_,by rw [hR,QI];exact (zdp ht _ S h).1,fun v hv=>by cases hv⟩;unfold zfe;rw [hg,hR]
 | n+1,S,h,hn,R,hR=>by
  have hT:=zhL ht l.length S h;obtain⟨hr,hp⟩:=zdp ht l.length S h;have hR:R∈(match l[(goR l l.length S).pc]? with | none=>[goR l l.length S] | some x=>V.flatMap fun v=>qa l V n (zQ (goR l l.length S) x v)):=hR
  cases hg:l[(goR l l.length S).pc]? with
  | none =>
   rw [hg] at hR;have hR:=KA.1 hR;refine⟨[],?_,by rw [hR,QI];exact hr,fun v hv=>by cases hv⟩;unfold zfe;rw [hg,hR]
  | some x =>
   rw [hg] at hR;obtain⟨v,hv,hR⟩:=List.mem_flatMap.1 hR;obtain⟨h1,h2⟩:=zaD (v:=v) ht hT hg;obtain⟨vs,k1,k2,k3⟩:=zcl ht V n _ h1 (by omega) R hR;have hrd:=zhK ht _ S h (by omega) x hg;refine⟨v::vs,?_,?_,fun u hu=>?_⟩
   ·unfold zfe;rw [hg];exact k1
   ·rw [k2,zc1 (ht.2 _ _ hg).1,Gn hrd,hr,KN];rfl
   ·rcases UB.1 hu with e | e
    ·rw [e];exact hv
    ·exact k3 u e
theorem ziv (ht:ThG l) {V:List UInt8} (hV:V.Nodup):∀ (n:Nat) (S:RunD),RunOk l S->l.length<=n+S.pc->(qa l V n S).Pairwise fun a b=>qp a≠qp b
 | 0,S,h,hn=>List.pairwise_singleton ..
 | n+1,S,h,hn=>by
  have hT:=zhL ht l.length S h;obtain⟨hr,hp⟩:=zdp ht l.length S h;show (match l[(goR l l.length S).pc]? with | none=>[goR l l.length S] | some x=>V.flatMap fun v=>qa l V n (zQ (goR l l.length S) x v)).Pairwise _
  cases hg:l[(goR l l.length S).pc]? with
  | none=>exact List.pairwise_singleton ..
  | some x =>
   have hrd:=zhK ht _ S h (by omega) x hg;dsimp only;rw [List.pairwise_flatMap];refine⟨fun v hv=>?_,?_⟩
   ·obtain⟨h1,h2⟩:=zaD (v:=v) ht hT hg;exact ziv ht hV n _ h1 (by omega)
   ·refine List.Pairwise.imp_of_mem ?_ hV;intro v v' _ _ hvv a ha b hb e;obtain⟨h1,h2⟩:=zaD (v:=v) ht hT hg;obtain⟨g1,g2⟩:=zaD (v:=v') ht hT hg;obtain⟨vs,_,k2,_⟩:=zcl ht V n _ h1 (by omega) a ha;obtain⟨us,_,j2,_⟩:=zcl ht V n _ g1 (by omega) b hb;rw [k2,j2,zc1 (ht.2 _ _ hg).1,zc1 (ht.2 _ _ hg).1,Gn hrd,Gn hrd,KN,KN] at e;have:=List.append_cancel_left e;simp only [List.singleton_append,QJ] at this;exact hvv this.1
theorem zr5 (ht:ThG l) {V:List UInt8} (hV:V.Nodup):(qq l V).Pairwise fun a b=>qp a≠qp b:=ziv ht hV _ _ (zjr l) (Qx _ _)
end
def zgo (t:Nat) (l:List Ev):List Ev:=(l.filter fun e=>decide (e.th=(t:Int))).map fun e=>{ e with th:=0 }
theorem zm9 (t:Nat) (a b:List Ev):zgo t (a++b)=zgo t a++zgo t b:=by
 unfold zgo;rw [Kv,QO]
theorem zkM {t:Nat} {l:List Ev} (h:∀ e∈l,e.th≠(t:Int)):zgo t l=[]:=by
 unfold zgo;rw [JC.2 fun e he=>by simpa using h e he];rfl
theorem zto {t k:Nat} {l:List Ev} (h:∀ e∈l,e.th=0):zgo t (jS k l)=if k=t then l else []:=by
 by_cases e:k=t
 ·subst e;rw [Gn rfl];unfold zgo jS;rw [List.filter_eq_self.2 fun a ha=>by
   obtain⟨b,_,rfl⟩:=UI.1 ha;exact Uq rfl,UG]
  conv=>rhs;rw [<- List.map_id l]
  refine Kk fun a ha=>?_;have:=h a ha
  cases a
  simp_all
 ·rw [Gm e];refine zkM fun a ha=>?_;obtain⟨b,_,rfl⟩:=UI.1 ha;show ((k:Nat):Int)≠(t:Nat);omega
theorem zkN (t:Nat):∀ (Ps:List PathD) (k:Nat),(∀ P∈Ps,∀ e∈P.ev,e.th=0)->zgo t (za6 k Ps)=if k<=t then (match Ps[t-k]? with | some P=>P.ev | none=>[]) else []
 | [],k,_=>by
  have e:zgo t (za6 k [])=[]:=rfl;rw [e]
  split <;> simp
 | P::Ps,k,h=>by
  show zgo t (jS k P.ev++za6 (k+1) Ps)=_;rw [zm9,zto (h P Kz),zkN t Ps (k+1) fun Q hQ=>h Q (JW _ hQ)];by_cases e:k=t
  ·subst e;rw [Gn rfl,Gm (by omega),Gn (UV _),UN,QI];rfl
  ·rw [Gm e,QS];by_cases h1:k<=t
   ·rw [Gn (by omega),Gn h1];obtain⟨d,hd⟩:∃ d,t-k=d+1:=⟨t-k-1,by omega⟩;rw [hd,show t-(k+1)=d by omega,Jw]
   ·rw [Gm (by omega),Gm h1]
theorem zkz:∀ (Ps:List PathD) (k:Nat) (x:ExD) (i:Nat),(asR k Ps x).regs i=if k<=i/8 then (match Ps[i/8-k]? with | some P=>P.regs (i%8) | none=>x.regs i) else x.regs i
 | [],k,x,i=>by
  show x.regs i=_
  split <;> simp
 | P::Ps,k,x,i=>by
  show (asR (k+1) Ps (zbv x k P)).regs i=_;rw [zkz Ps (k+1)];have e:(zbv x k P).regs i=if i/8=k then P.regs (i%8) else x.regs i:=rfl
  rw [e];by_cases h:i/8=k
  ·rw [Gm (by omega),Gn h,Gn (by omega),h,UN];rfl
  ·rw [Gm h];by_cases h1:k<=i/8
   ·rw [Gn (by omega),Gn h1];obtain⟨d,hd⟩:∃ d,i/8-k=d+1:=⟨i/8-k-1,by omega⟩;rw [hd,show i/8-(k+1)=d by omega,Jw]
   ·rw [Gm (by omega),Gm h1]
theorem zgC:∀ (Ts:List (List PathD)) (ds:List Nat),ds.length=Ts.length->(∀ (i n d:Nat),(Ts.map List.length)[i]?=some n->ds[i]?=some d->d<n) ->
  (jj Ts ds).length=Ts.length/\∀ (t:Nat) (T:List PathD) (d:Nat),Ts[t]?=some T->ds[t]?=some d->(jj Ts ds)[t]?=T[d]?
 | [],[],_,_=>⟨rfl,fun t T d h=>by simp at h⟩
 | [],d::ds,h,_=>by cases h
 | T::Ts,[],h,_=>by cases h
 | T::Ts,d::ds,h,hb=>by
  have hd:d<T.length:=hb 0 T.length d rfl rfl;obtain⟨h1,h2⟩:=zgC Ts ds (by simpa using h) fun i n d' a b=>hb (i+1) n d' a b;have e:jj (T::Ts) (d::ds)=T[d]::jj Ts ds:=by
   show (match T[d]? with | some P=>[P] | none=>[])++jj Ts ds=_;rw [gE hd];rfl
  rw [e];refine⟨by rw [Qr,Qr,h1],fun t U d' hU hd'=>?_⟩
  cases t with
  | zero =>
   have hU:=Ud hU;have hd':=Ud hd';subst hU hd';exact (gE hd).symm
  | succ t =>
   rw [Jw];exact h2 t U d' hU hd'
section
variable {p:Prg} {V:List UInt8}
theorem zcI (hO:OkG p) {m:MixD} {ds:List Nat} (hds:ds∈qb ((p.threads.map (zH V)).map List.length)) (hm:zhx p.init (jj (p.threads.map (zH V)) ds)=some m) :
  ChoiceW p.init (jj (p.threads.map (zH V)) ds) m/\ds.length=p.threads.length/\∀ (t:Nat) (l:List InsD),p.threads[t]?=some l->∃ d,ds[t]?=some d/\∃ R,(qq l V)[d]?=some R/\(jj (p.threads.map (zH V)) ds)[t]?=some (ja R)/\zgo t m.base.ev=zdh R/\∀ j,j<8->m.base.regs (8*t+j)=R.regs j:=by
 obtain⟨h1,h2⟩:=zai hds;rw [QL,QL] at h1;obtain⟨g1,g2⟩:=zgC (p.threads.map (zH V)) ds (by rw [QL];exact h1) h2;unfold zhx at hm
 split at hm
 case isFalse=>cases hm
 rename_i h48;have hm:=Ud hm;have hw:∀ P∈jj (p.threads.map (zH V)) ds,PathW p.init.length P:=fun P hP=>by
  obtain⟨T,hT,h2⟩:=zfI _ _ _ hP;obtain⟨l,hl,rfl⟩:=UI.1 hT;exact zhe hO hl h2
 have hC:ChoiceW p.init (jj (p.threads.map (zH V)) ds) m:=⟨hO.i1,hO.i6,by
  rw [g1,QL];have:=hO.t4;omega,hw,h48,hm.symm⟩
 refine⟨hC,h1,fun t l hl=>?_⟩;have ht:t<ds.length:=by rw [h1];exact (Js.1 hl).1
 have hT:(p.threads.map (zH V))[t]?=some (zH V l):=by rw [KT,hl];rfl
 have hd:ds[t]?=some ds[t]:=gE ht;have hlt:ds[t]<(qq l V).length:=by
  have:=h2 t (zH V l).length ds[t] (by rw [KT,hT];rfl) hd;have e:(zH V l).length=(qq l V).length:=QL ..;omega
 have hR:(qq l V)[ds[t]]?=some (qq l V)[ds[t]]:=gE hlt;have hP:(jj (p.threads.map (zH V)) ds)[t]?=some (ja (qq l V)[ds[t]]):=by
  rw [g2 t _ _ hT hd];show ((qq l V).map ja)[ds[t]]?=_;rw [KT,hR];rfl
 have hth:∀ P∈jj (p.threads.map (zH V)) ds,∀ e∈P.ev,e.th=0:=fun P hP e he=>by
  obtain⟨q,hq⟩:=List.mem_iff_getElem?.1 he;exact ((hw P hP).ev q e hq).1
 refine⟨ds[t],hd,(qq l V)[ds[t]],hR,hP,?_,fun j hj=>?_⟩
 ·rw [hC.base,zaJ,zm9,zkN t _ 0 hth,Gn (UY _),UO,hP,zkM,QS]
  ·rfl
  ·intro e he;obtain⟨i,hi,rfl⟩:=Ki he;rw [qj] at hi;have:=zbe p.init 0 hi;rw [gE (by rw [qj];exact hi)] at this;rw [Ud this];show (-1:Int)≠(t:Nat);omega
 ·have e:m.base.regs=(asR 0 (jj (p.threads.map (zH V)) ds) { ex0 (zbw p.init.length (jj (p.threads.map (zH V)) ds)) with ev:=qm 0 p.init }).regs:=by rw [hC.base];rfl
  have e1:(8*t+j)/8=t:=by omega
  have e2:(8*t+j)%8=j:=by omega
  rw [e,zkz,e1,e2,Gn (UY _),UO,hP];rfl
end
section
variable {b c:Nat} {x:ExD} {q:OA}
theorem zah {X:Wd} (fx:zK X ⟨b,0,none⟩ (exC x q c)):X.cell? ⟨b,0+0,none⟩=some (.slice q x.ev.length c):=zc fx (i:=0) rfl
end
section
variable {b c:Nat} {x:ExD} {q:OA}
theorem jt {X:Wd} (fx:ExH X b x q c) {i:Nat} (hi:i<6) {o:Nat} (ho:o=1+49*i):zK X ⟨b,0+o,none⟩ (zf ((zdg x).getD i x.po)):=by
 rw [ho];exact zfC fx hi
end
theorem zdP {r:RelD} (h:zj8 r=true):zG r.to:=by
 unfold zj8 at h;rw [Qi] at h;exact fun i hi=>dT (h i (Um.2 hi))
theorem zr3 {x:ExD} {q:OA} {X:Wd} (hv:SlR evE X q x.ev) (h:0<x.ev.length):∃ bq oq,q=some ⟨bq,oq,none⟩/\bq<X.heap.size/\∀ i,i<x.ev.length->zK X ⟨bq,oq+i*7,none⟩ (evE.enc (evA x i)):=by
 obtain⟨b,o,hq,hb,hat⟩:=hv.at h;refine⟨b,o,hq,hb,fun i hi=>?_⟩;have:=hat i hi;unfold evA;rw [gDe,gE hi];exact this
theorem zuX {X:Wd} {b:Nat} {x:ExD} {q:OA} {c:Nat} (fx:ExH X b x q c):zK X ⟨b,0+50,none⟩ (zf x.rf):=jt fx (i:=1) (by decide) rfl
theorem zuZ {p:Bool} (h:(!p)=true):p=false:=by simpa using h
theorem zuu {p:Bool} (h:(!p)=false):p=true:=by simpa using h
def ztC (x:ExD):Bool:=decide (x.ev.length<=20)&&(zj8 x.po&&(zj8 x.rf&&(zj8 x.co&&(zj8 x.dt&&(zj8 x.ct&&zj8 x.rm)))))
theorem zrT {X:Wd} {x:ExD} {q:OA} (h:ztC x=true) (he:SlR evE X q x.ev):ExV X x q:=by
 unfold ztC at h;simp only [bAT,dE] at h;obtain⟨h1,h2,h3,h4,h5,h6,h7⟩:=h;exact⟨he,h1,zdP h2,zdP h3,zdP h4,zdP h5,zdP h6,zdP h7⟩
def zrQ (x:ExD):List Value:=seg 32 (fun i=>u8 (x.regs i))++seg 6 (fun i=>u8 (x.mem i))
def zp3 (x y:ExD):Bool:=(List.range 32).all (fun i=>decide (x.regs i=y.regs i))&&(List.range 6).all (fun i=>decide (x.mem i=y.mem i))
theorem zgy {n:Nat} {f g:Nat->UInt8}:seg n (fun i=>u8 (f i))=seg n (fun i=>u8 (g i))↔∀ i,i<n->f i=g i:=by
 constructor
 ·intro h i hi;have h1:=zbK (n:=n) (fun i=>u8 (f i)) hi;rw [h,zbK (n:=n) (fun i=>u8 (g i)) hi] at h1;have h2:=Ud h1;unfold u8 at h2;injection h2 with _ h3;exact (qu.1 h3).symm
 ·intro h;unfold seg;exact Kk fun i hi=>by rw [h i (Um.1 hi)]
theorem zrP {x y:ExD}:zrQ x=zrQ y↔zp3 x y=true:=by
 unfold zp3;rw [bAT,Qi,Qi];have hl:(seg 32 fun i=>u8 (x.regs i)).length=(seg 32 fun i=>u8 (y.regs i)).length:=by rw [zE,zE]
 constructor
 ·intro h;unfold zrQ at h;obtain⟨h1,h2⟩:=List.append_inj h hl;exact⟨fun i hi=>Uq (zgy.1 h1 i (Um.1 hi)),fun i hi=>Uq (zgy.1 h2 i (Um.1 hi))⟩
 ·rintro⟨h1,h2⟩;unfold zrQ;rw [zgy.2 fun i hi=>dT (h1 i (Um.2 hi)),zgy.2 fun i hi=>dT (h2 i (Um.2 hi))]
def zg3 (x y:ExD):Bool:=qP x.po y.po&&(qP x.rf y.rf&&(qP x.co y.co&&(qP x.dt y.dt&&(qP x.ct y.ct&&(qP x.rm y.rm&&zp3 x y)))))
def zeQ (x y:ExD):Bool:=decide (x.ev.length=y.ev.length)&&((List.range x.ev.length).all (fun i=>decide (evA x i=evA y i))&&zg3 x y)
theorem zcx (a:RelD):qP a a=true:=ziC.1 rfl
theorem ziy (x:ExD):zeQ x x=true:=by
 unfold zeQ zg3;rw [zcx,zcx,zcx,zcx,zcx,zcx,zrP.1 rfl];simp
theorem znv:∀ (rs:List Nat) (j k:Nat),j<zZ rs->k<zZ rs->zaf rs j=zaf rs k->j=k
 | [],j,k,hj,hk,_=>by
  have hj:j<1:=hj;have hk:k<1:=hk;omega
 | n::ns,j,k,hj,hk,h=>by
  have hj:j<n*zZ ns:=hj;have hk:k<n*zZ ns:=hk;have h:j%n::zaf ns (j/n)=k%n::zaf ns (k/n):=h;rw [QJ] at h;have:=znv ns (j/n) (k/n) (Kc hj) (Kc hk) h.2;rw [<- QX j n,<- QX k n,this,h.1]
theorem zhW (sizes:List Nat):(qb sizes).Nodup:=by
 unfold qb;refine List.pairwise_map.2 (List.Pairwise.imp_of_mem ?_ (List.nodup_range (n:=zZ sizes.reverse)));intro a b ha hb hab e;exact hab (znv _ _ _ (Um.1 ha) (Um.1 hb) (List.reverse_inj.1 e))
theorem ziY (before:Nat->Nat):∀ (n left:Nat) (l:List Nat),left<2^64->(zav before n left l).Nodup
 | 0,left,l,hl=>by
  unfold zav
  split
  ·exact List.pairwise_singleton ..
  ·exact .nil
 | n+1,left,l,hl=>by
  unfold zav
  split
  ·exact List.pairwise_singleton ..
  ·show List.Pairwise _ _;rw [List.pairwise_flatMap];refine⟨fun a ha=>?_,List.Pairwise.imp_of_mem ?_ (zd2 left)⟩
   ·split
    ·exact ziY before n _ _ (zam hl)
    ·exact .nil
   ·intro a b ha hb hab x hx y hy e
    split at hx
    ·split at hy
     ·obtain⟨s,hs,_⟩:=zfh before n _ _ x (zam hl) hx;obtain⟨t,ht,_⟩:=zfh before n _ _ y (zam hl) hy;rw [hs,ht,KN,KN] at e;have:=List.append_cancel_left e;simp only [List.singleton_append,QJ] at this;exact hab this.1
     ·cases hy
    ·cases hx
theorem zpZ {w:List Nat} (hw:w.Nodup) {a b:Nat} (ha:a<w.length) (hb:b<w.length) (h:w.getD a 0=w.getD b 0):a=b:=by
 rw [gDe,gDe,gE ha,gE hb] at h;exact (List.getElem_inj hw).1 h
theorem zf7 {w:List Nat} (hw:w.Nodup):∀ {a b:List Nat},(∀ i∈a,i<w.length)->(∀ i∈b,i<w.length)->a.map (fun k=>w.getD k 0)=b.map (fun k=>w.getD k 0)->a=b
 | [],[],_,_,_=>rfl
 | [],y::b,_,_,h=>by cases h
 | x::a,[],_,_,h=>by cases h
 | x::a,y::b,ha,hb,h=>by
  rw [UA,UA,QJ] at h;rw [zpZ hw (ha x Kz) (hb y Kz) h.1,zf7 hw (fun i hi=>ha i (JW _ hi)) (fun i hi=>hb i (JW _ hi)) h.2]
theorem zkF {w:List Nat} (hw:w.Nodup) (h1:1<=w.length) (hn:w.length<=48):(zM w).Nodup:=by
 unfold zM;dsimp only
 split
 ·refine List.pairwise_map.2 (List.Pairwise.imp_of_mem (R:=fun a b=>a≠b) ?_ ?_)
  ·intro a b ha hb hab e;have p1:=(zhj h1 hn ha).1;have p2:=(zhj h1 hn hb).1;exact hab (zf7 hw (fun i hi=>Um.1 (p1.subset hi)) (fun i hi=>Um.1 (p2.subset hi)) e)
  ·unfold zbt
   split
   ·exact ziY _ _ _ _ (zd9 _)
   ·exact .nil
 ·exact .nil
theorem zl0 (all:List Ev) (W:List (List Nat)):∀ (es:List Ev) (i:Nat),(zbQ all W i es).Pairwise fun a b=>a.1<b.1
 | [],i => .nil
 | e::es,i=>by
  unfold zbQ
  split
  ·refine List.pairwise_cons.2 ⟨fun r hr=>?_,zl0 all W es (i+1)⟩;obtain⟨j,d,_,_,h⟩:=zdT all W es (i+1) r hr;rw [h];show i<i+1+j;omega
  ·exact zl0 all W es (i+1)
theorem zm8 {α:Type} {key:α->Nat}:∀ {l:List α},l.Pairwise (fun a b=>key a<key b)->∀ {s t:Nat} {a b:α},l[s]?=some a->l[t]?=some b->key a=key b->s=t
 | [],_,s,t,a,b,h,_,_=>by simp at h
 | x::l,h,0,0,a,b,_,_,_=>rfl
 | x::l,h,0,t+1,a,b,ha,hb,e=>by
  have ha:=Ud ha;have:=(List.pairwise_cons.1 h).1 b (JY hb);rw [ha] at this;omega
 | x::l,h,s+1,0,a,b,ha,hb,e=>by
  have hb:=Ud hb;have:=(List.pairwise_cons.1 h).1 a (JY ha);rw [hb] at this;omega
 | x::l,h,s+1,t+1,a,b,ha,hb,e=>by rw [zm8 (List.pairwise_cons.1 h).2 ha hb e]
theorem zpr {a b:RelD} (h:qP a b=true) {i:Nat} (hi:i<48):a.to i=b.to i:=by
 unfold qP at h;rw [bAT,Qi] at h;exact dT (h.2 i (Um.2 hi))
theorem zg0 {x y:ExD} (h:zeQ x y=true):x.ev=y.ev/\qP x.rf y.rf=true/\qP x.co y.co=true:=by
 unfold zeQ zg3 at h;simp only [bAT] at h;obtain⟨h1,h2,_,h3,h4,_⟩:=h;refine⟨?_,h3,h4⟩;have h1:=dT h1;refine List.ext_getElem h1 fun i a b=>?_;have:=dT (Qi.1 h2 i (Um.2 a));unfold evA at this;rw [gDe,gDe,gE a,gE b] at this;exact this
section
variable {init:List UInt8} {Ps:List PathD} {m:MixD} {ds es:List Nat}
theorem ChoiceW.dig_r (h:ChoiceW init Ps m) (hd:ds∈qb (zJ m)) {t:Nat} {r:Nat×List Nat} (hr:m.rs[t]?=some r):∃ d,ds[t]?=some d/\d<r.2.length:=by
 obtain⟨h1,h2⟩:=zai hd;have ht:=(Js.1 hr).1;have hs:(zJ m)[t]?=some r.2.length:=by
  unfold zJ;rw [Jr (by rw [QL];exact ht),KT,hr];rfl
 have hlen:t<ds.length:=by rw [h1];exact (Js.1 hs).1
 exact⟨ds[t],gE hlen,h2 _ _ _ hs (gE hlen)⟩
theorem ChoiceW.wr_nodup (h:ChoiceW init Ps m) (l:Nat):(m.wr.getD l []).Nodup:=by
 by_cases hl:l<init.length
 ·rw [h.wr.2 l hl];exact List.nodup_range.filter _
 ·rw [gDe,JJ (by rw [h.wr.1];omega)];exact .nil
theorem ChoiceW.rf_dig (h:ChoiceW init Ps m) (hd:ds∈qb (zJ m)) (he:es∈qb (zJ m)) (hs:qP (zz m ds).rf (zz m es).rf=true) {t:Nat} (ht:t<m.rs.length):ds[t]?=es[t]?:=by
 have hr:m.rs[t]?=some m.rs[t]:=gE ht;obtain⟨d,d1,d2⟩:=h.dig_r hd hr;obtain⟨e,e1,e2⟩:=h.dig_r he hr;have hn:m.rs[t].2.Nodup:=by
  obtain⟨_,_,_,hr2⟩:=h.rs (gM ht);rw [hr2];exact (h.wr_nodup _).filter _
 have hi:m.rs[t].2[d]?=some m.rs[t].2[d]:=gE d2;have b1:zg (zz m ds).rf m.rs[t].2[d] m.rs[t].1=true:=(h.rfb hd).2 ⟨t,_,hr,gM d2,by rw [gDe,d1];exact hi,rfl⟩;have h48:m.rs[t].2[d]<48:=by
  have:=(h.src (gM ht)).2.2 _ (gM d2);have:=h.n;rw [<- h.len] at this;omega
 have b2:zg (zz m es).rf m.rs[t].2[d] m.rs[t].1=true:=by
  unfold zg at b1 ⊢;rw [<- zpr hs h48];exact b1
 obtain⟨t',r',g1,_,g3,g4⟩:=(h.rfb he).1 b2;have hp:m.rs.Pairwise fun a b=>a.1<b.1:=by
  rw [h.m];exact zl0 _ _ _ _
 have htt:=zm8 (key:=fun a:Nat×List Nat=>a.1) hp hr g1 g4;subst htt;have hrr:=Ud (hr.symm.trans g1);rw [<- hrr,gDe,e1] at g3;have g3:m.rs[t].2[e]?=some m.rs[t].2[d]:=g3;rw [gE e2] at g3;have:=(List.getElem_inj hn).1 (Ud g3);rw [d1,e1,this]
theorem ChoiceW.dig_w (h:ChoiceW init Ps m) (hd:ds∈qb (zJ m)) {l:Nat} (hl:l<init.length):∃ d,ds[m.rs.length+l]?=some d/\∃ hlt:d<(zM (zT m.base l)).length,chR (m.wr.map zM) (ds.drop m.rs.length) l=(zM (zT m.base l))[d]:=by
 obtain⟨h1,h2⟩:=zai hd;obtain⟨w1,w2⟩:=h.wr;have hlw:l<m.wr.length:=by omega
 have hw:m.wr[l]=zT m.base l:=by
  have:=w2 l hl;rw [gDe,gE hlw] at this;exact this
 have hs:(zJ m)[m.rs.length+l]?=some (zM (zT m.base l)).length:=by
  unfold zJ;rw [Jn (by rw [QL];omega),QL,Jz,KT,gE hlw,hw];rfl
 have hlen:m.rs.length+l<ds.length:=by rw [h1];exact (Js.1 hs).1
 have hdl:=h2 _ _ _ hs (gE hlen);refine⟨ds[m.rs.length+l],gE hlen,hdl,?_⟩;have e1:(m.wr.map zM).getD l []=zM (zT m.base l):=by
  rw [gDe,KT,gE hlw,hw];rfl
 have e2:(ds.drop m.rs.length).getD l 0=ds[m.rs.length+l]:=by
  rw [gDe,Kw,gE hlen];rfl
 unfold chR;rw [e1,e2,gDe,gE hdl];rfl
theorem ChoiceW.co_dig (h:ChoiceW init Ps m) (hd:ds∈qb (zJ m)) (he:es∈qb (zJ m)) (hs:qP (zz m ds).co (zz m es).co=true) {l:Nat} (hl:l<init.length):ds[m.rs.length+l]?=es[m.rs.length+l]?:=by
 obtain⟨d,d1,d2,d3⟩:=h.dig_w hd hl;obtain⟨e,e1,e2,e3⟩:=h.dig_w he hl;obtain⟨c1,c2⟩:=h.chx he;have hlw:l<(m.wr.map zM).length:=by rw [QL,h.wr.1];exact hl
 obtain⟨_,hb⟩:=zdF m.base.ev (m.wr.map zM) 0 (es.drop m.rs.length) (m.base.co,m.base.mem) c1 c2;have hr:zO (zz m ds) l=chR (m.wr.map zM) (es.drop m.rs.length) l:=by
  refine zg8 (zcJ h) (h.ch he l hl).1 fun i hi j=>?_;have hi48:i<48:=by
   have:=zfu ((h.ch he l hl).1.subset hi);have:=h.n;rw [<- h.len] at this;omega
  have e:zg (zz m ds).co i j=zg (coG m.base.ev 0 (m.wr.map zM) (es.drop m.rs.length) (m.base.co,m.base.mem)).1 i j:=by
   unfold zg;rw [zpr hs hi48];rfl
  rw [e,Bool.eq_iff_iff,hb,dE];constructor
  ·rintro (⟨k,a1,a2,a3⟩ | ⟨a1,a2⟩)
   ·have:=c2 i k l a1 hlw a2 hi;rw [<- this];exact a3
   ·exact Gp hi (a1 l hlw)
  ·exact fun hj => .inl ⟨l,hlw,hi,hj⟩
 rw [h.rank hd hl,d3,e3] at hr;obtain⟨g1,_⟩:=h.head hl;have h48:(zT m.base l).length<=48:=by
  have:=zgu m.base l;have:=h.n;have:=h.len;omega
 have:=(List.getElem_inj (zkF (List.nodup_range.filter _) g1 h48)).1 hr;rw [d1,e1,this]
theorem ChoiceW.same (h:ChoiceW init Ps m) (hd:ds∈qb (zJ m)) (he:es∈qb (zJ m)) (hs:zeQ (zz m ds) (zz m es)=true):ds=es:=by
 obtain⟨_,h2,h3⟩:=zg0 hs;have l1:=(zai hd).1;have l2:=(zai he).1;have hl:(zJ m).length=m.rs.length+init.length:=by
  unfold zJ;rw [lap,QL,QL,h.wr.1]
 refine KO fun t=>?_;by_cases ht:t<m.rs.length
 ·exact h.rf_dig hd he h2 ht
 ·by_cases ht2:t<m.rs.length+init.length
  ·have:=h.co_dig hd he h3 (l:=t-m.rs.length) (by omega);rw [show m.rs.length+(t-m.rs.length)=t by omega] at this;exact this
  ·rw [JJ (by omega),JJ (by omega)]
theorem ChoiceW.cands_ne (h:ChoiceW init Ps m):(qt m).Pairwise fun a b=>zeQ b a=false:=by
 unfold qt
 split
 ·exact .nil
 ·refine List.pairwise_map.2 (List.Pairwise.imp_of_mem ?_ (zhW _));intro a b ha hb hab
  cases hs:zeQ (zz m b) (zz m a)
  ·rfl
  ·exact Gp (h.same hb ha hs).symm hab
end
theorem zm7 {α β γ:Type} {f:α->Option β} {g:β->List γ} {R:γ->γ->Prop}:∀ {l:List α},l.Nodup->(∀ a∈l,∀ b,f a=some b->(g b).Pairwise R)->(∀ a∈l,∀ a'∈l,a≠a'->∀ b b',f a=some b->f a'=some b'->∀ x∈g b,∀ y∈g b',R x y)->((l.filterMap f).flatMap g).Pairwise R
 | [],_,_,_ => .nil
 | a::l,hn,h1,h2=>by
  have hn2:=QT.1 hn;have ih:=zm7 hn2.2 (fun b hb=>h1 b (JW _ hb)) fun b hb c hc=>h2 b (JW _ hb) c (JW _ hc)
  cases hf:f a with
  | none=>rw [List.filterMap_cons_none hf];exact ih
  | some b =>
   rw [List.filterMap_cons_some hf,KR,Ka];refine⟨h1 a Kz b hf,ih,fun x hx y hy=>?_⟩;obtain⟨b',hb',hy⟩:=List.mem_flatMap.1 hy;obtain⟨a',ha',hf'⟩:=List.mem_filterMap.1 hb';exact h2 a Kz a' (JW _ ha') (fun e=>hn2.1 (by rw [e];exact ha')) b b' hf hf' x hx y hy
theorem zpy {α:Type} {R:α->α->Prop} {l:List α} (h:l.Pairwise fun a b=>¬ R a b) (hr:∀ a,R a a) (hs:∀ a b,R a b->R b a) {s t:Nat} {a b:α} (ha:l[s]?=some a) (hb:l[t]?=some b) (e:R a b):s=t:=by
 obtain⟨hs1,ha⟩:=Js.1 ha;obtain⟨ht1,hb⟩:=Js.1 hb;rw [List.pairwise_iff_getElem] at h;rcases Nat.lt_trichotomy s t with hlt | hlt | hlt
 ·have:=h s t hs1 ht1 hlt;rw [ha,hb] at this;exact Gp e this
 ·exact hlt
 ·have:=h t s ht1 hs1 hlt;rw [ha,hb] at this;exact Gp (hs _ _ e) this
theorem cands_ne {p:Prg} {V:List UInt8} (hO:OkG p) (hV:V.Nodup):(qi p V).Pairwise fun a b=>zeQ b a=false:=by
 refine zm7 (zhW _) (fun ds hds m hm=>(zcI hO hds hm).1.cands_ne) fun ds hds es hes hne m n hm hn x hx y hy=>?_
 cases hs:zeQ y x
 ·rfl
 ·refine Gp ?_ hne;have hev:=(zg0 hs).1;have ex:x.ev=m.base.ev:=by
   unfold qt at hx
   split at hx
   ·cases hx
   ·obtain⟨c,_,rfl⟩:=UI.1 hx;rfl
  have ey:y.ev=n.base.ev:=by
   unfold qt at hy
   split at hy
   ·cases hy
   ·obtain⟨c,_,rfl⟩:=UI.1 hy;rfl
  have hmn:m.base.ev=n.base.ev:=by rw [<- ex,<- ey];exact hev.symm
  obtain⟨_,l1,h1⟩:=zcI hO hds hm;obtain⟨_,l2,h2⟩:=zcI hO hes hn;refine KO fun t=>?_;by_cases ht:t<p.threads.length
  ·have hl:p.threads[t]?=some p.threads[t]:=gE ht;obtain⟨d,d1,R,d2,_,d3,_⟩:=h1 t _ hl;obtain⟨e,e1,S,e2,_,e3,_⟩:=h2 t _ hl;have hth:ThG p.threads[t]:=zjj (hO.th _ (gM ht));have:d=e:=zpy (R:=fun a b=>qp a=qp b) (zr5 hth hV) (fun _=>rfl) (fun _ _ h=>h.symm) d2 e2 (by
    show zkA (zdh R)=zkA (zdh S);rw [<- d3,<- e3,hmn])
   rw [d1,e1,this]
  ·rw [JJ (by omega),JJ (by omega)]
theorem znl (before:Nat->Nat):∀ (s:List Nat) (n left:Nat) (l:List Nat),left<2^64->s.length<=n->s.Perm (els left)->(∀ A a t,s=A++a::t->∀ b∈a::t,(before a).testBit b=false)->l++s∈zav before n left l
 | [],n,left,l,hl,hn,hp,hb=>by
  have h0:left=0:=zc8 hl (by rw [Qq];exact List.nil_perm.1 hp);rw [QI]
  cases n <;> (unfold zav;rw [Gn h0];exact KA.2 rfl)
 | a::t,0,left,l,hl,hn,hp,hb=>by simp at hn
 | a::t,n+1,left,l,hl,hn,hp,hb=>by
  have ha:a∈els left:=hp.subset Kz;have h0:left≠0:=fun e=>by rw [e,zao] at ha;cases ha
  unfold zav;rw [Gm h0];refine List.mem_flatMap.2 ⟨a,ha,?_⟩;have hbl:before a&&&left=0:=by
   refine Kd fun i=>?_;rw [Ua,QC];by_cases hi:left.testBit i=true
   ·have hi64:i<64:=by
     refine Qy fun h=>?_;rw [JH (nL hl (Ke (by decide) h))] at hi
     cases hi
    rw [hb [] a t rfl i (hp.symm.subset (qW.2 ⟨hi64,hi⟩)),Uh]
   ·rw [Qh] at hi;rw [hi,Ug]
  rw [Gn hbl,za0];have hna:a ∉ t:=(QT.1 (hp.nodup_iff.2 (zd2 left))).1;have hpt:t.Perm (els (qT left (2^a))):=by
   rw [zdD hl ha];have h1:=hp.filter fun i => !decide (i=a);rw [Qm,Gm (by simp),List.filter_eq_self.2 fun z hz=>by
    have:z≠a:=fun e=>hna (by rw [<- e];exact hz);simp [this]] at h1
   exact h1
  have h2:=znl before t n (qT left (2^a)) (l++[a]) (zam hl) (by simpa using hn) hpt fun A c u e b hbm=>hb (a::A) c u (by rw [e];rfl) b hbm;rw [KN] at h2;exact h2
section
variable {n:Nat}
theorem zli (hn:n<=48) {a b:Nat} (ha:a<n) (h:((zX (crs n)).to a).testBit b=true):b=0/\a≠0:=by
 have h1:=zbj (zjQ hn) (i:=a) (j:=b) (by omega);unfold zg at h1;rw [h1,bAT] at h;obtain⟨hb,h⟩:=h;have hb:=dT hb;have h:(if b<n then (if Nat.testBit 1 b then jL (zab n) 1&&&zab n else 0) else 0).testBit a=true:=h;rw [Gn hb] at h
 split at h
 ·rename_i h2;have hb0:b=0:=by
   refine Nat.eq_zero_of_not_pos fun hp=>?_;rw [JH (show 1<2^b from Nat.one_lt_two_pow (by omega))] at h2
   cases h2
  refine⟨hb0,fun ha0=>?_⟩;rw [Ua,za0,bAT] at h;have e:qT (zab n) 1=qT (zab n) (2^0):=rfl;rw [e,zaS (by decide) (by omega),ha0] at h;simp at h
 ·rw [QC] at h;cases h
theorem zsa (hn:n<=48):zaO (crs n)=true:=by
 rw [znM (zjQ hn)];intro S hS he;have hS64:S<2^64:=by
  refine KE ?_ (zaK (n:Int));rw [<- he];exact Qw
 have hin:∀ i,S.testBit i=true->i<n:=fun i hi=>by
  have h1:i<64:=by
   refine Qy fun h=>?_;rw [JH (nL hS64 (Ke (by decide) h))] at hi
   cases hi
  rw [<- he,Ua,bAT] at hi;rw [zbo (by omega) (by omega) h1] at hi;have:=dT hi.2;omega
 have free:∀ a,a<n->(∀ b,S.testBit b=true->b=0->a=0)->(zX (crs n)).to a&&&S=0:=fun a ha h=>by
  refine Kd fun i=>?_;rw [Ua,QC]
  cases h1:((zX (crs n)).to a).testBit i
  ·rfl
  ·obtain⟨h2,h3⟩:=zli hn ha h1
   cases h4:S.testBit i
   ·rfl
   ·exact Gp (h i h4 h2) h3
 by_cases h0:S.testBit 0=true
 ·exact⟨0,qW.2 ⟨by decide,h0⟩,free 0 (hin 0 h0) fun _ _ _=>rfl⟩
 ·have hne:els S≠[]:=fun e=>hS (zc8 hS64 (by rw [e];rfl));obtain⟨a,t,hat⟩:=List.exists_cons_of_ne_nil hne;have ha:a∈els S:=by rw [hat];exact Kz
  exact⟨a,ha,free a (hin a (qW.1 ha).2) fun b hb hb0=>by rw [hb0] at hb;exact Gp hb h0⟩
theorem zrt (hn:n<=48) {o t:List Nat} (hp:o.Perm (List.range n)) (h0:o=0::t):o∈zbt (crs n):=by
 unfold zbt;rw [Gn (zsa hn)];have e:els (zab ((n:Nat):Int))=List.range n:=by rw [zaL];exact zd3 (by omega)
 have hl:=hp.length_eq;rw [KU] at hl;have:=znl (zX (crs n)).to o 64 (zab ((n:Nat):Int)) [] (zd9 n) (by omega) (by rw [e];exact hp) fun A a u he b hb=>?_
 ·exact this
 have hao:a∈o:=by rw [he];exact JN _ Kz
 cases h1:((zX (crs n)).to a).testBit b
 ·rfl
 ·obtain⟨h2,h3⟩:=zli hn (Um.1 (hp.subset hao)) h1;have hon:o.Nodup:=hp.nodup_iff.2 List.nodup_range
  cases A with
  | nil =>
   rw [h0,QS,QJ] at he;exact Gp he.1.symm h3
  | cons c A =>
   rw [h0,Qk,QJ] at he;rw [h0] at hon;have:(0:Nat)∈t:=by rw [he.2,<- h2];exact JN _ hb
   exact Gp this (QT.1 hon).1
end
theorem zp0 {w:List Nat} {x:Nat} (h:x∈w):w.getD (w.idxOf x) 0=x:=by
 have hl:=List.idxOf_lt_length_iff.2 h;rw [gDe,gE hl];exact List.getElem_idxOf hl
theorem zrB {w:List Nat} (hw:w.Nodup):w.map (fun x=>w.idxOf x)=List.range w.length:=by
 refine List.ext_getElem (by simp) fun i h1 h2=>?_;rw [Qp,Ky];exact hw.idxOf_getElem i (by simpa using h1)
theorem zpt {w rk:List Nat} (hn:w.length<=48) (hw:w.Nodup) (hf:fct (w.length-1)<=10000) (h1:1<=w.length) (hp:rk.Perm w) (hh:rk.headD 48=w.headD 48):rk∈zM w:=by
 unfold zM;dsimp only;rw [Gn (UL (ziJ h1 hn) hf)];refine UI.2 ⟨rk.map (fun x=>w.idxOf x),?_,?_⟩
 ·cases w with
  | nil=>simp at h1
  | cons a w' =>
   cases rk with
   | nil=>simpa using hp.length_eq
   | cons b rk' =>
    have hh:b=a:=hh;subst hh;refine zrt hn (t:=rk'.map (fun x=>(b::w').idxOf x)) ?_ ?_
    ·rw [<- zrB hw];exact hp.map _
    ·rw [UA,List.idxOf_cons_self]
 ·rw [UG]
  conv=>rhs;rw [<- List.map_id rk]
  exact Kk fun x hx=>zp0 (hp.subset hx)
theorem zqj:∀ (rs es:List Nat),es.length=rs.length->(∀ (i n d:Nat),rs[i]?=some n->es[i]?=some d->d<n)->∃ j,j<zZ rs/\zaf rs j=es
 | [],[],_,_=>⟨0,Nat.one_pos,rfl⟩
 | [],e::es,h,_=>by cases h
 | n::ns,[],h,_=>by cases h
 | n::ns,e::es,h,hb=>by
  obtain⟨j,h1,h2⟩:=zqj ns es (by simpa using h) fun i n d a b=>hb (i+1) n d a b;have he:e<n:=hb 0 n e rfl rfl;refine⟨e+n*j,?_,?_⟩
  ·show e+n*j<n*zZ ns;have:n*(j+1)<=n*zZ ns:=Nat.mul_le_mul_left n h1;rw [Nat.mul_add] at this;omega
  ·show (e+n*j)%n::zaf ns ((e+n*j)/n)=e::es;rw [Nat.add_mul_mod_self_left,QB he,Nat.add_mul_div_left _ _ (by omega),Nat.div_eq_of_lt he,UQ,h2]
theorem zlf {sizes ds:List Nat} (hl:ds.length=sizes.length) (hb:∀ (i n d:Nat),sizes[i]?=some n->ds[i]?=some d->d<n):ds∈qb sizes:=by
 obtain⟨j,h1,h2⟩:=zqj sizes.reverse ds.reverse (by simpa using hl) fun i n d a b=>by
  have hi:i<sizes.length:=by simpa using (Js.1 a).1
  rw [JK hi] at a;rw [JK (by omega)] at b;rw [hl] at b;exact hb _ n d a b
 exact UI.2 ⟨j,Um.2 h1,by rw [h2,Kb]⟩
section
variable {init:List UInt8} {Ps:List PathD} {m:MixD}
theorem ChoiceW.pick (h:ChoiceW init Ps m) (hw8:∀ w∈m.wr,fct (w.length-1)<=10000) {S:Nat->Nat->Prop} {o:Nat->List Nat} (hsrc:∀ r,r<m.base.ev.length->(evA m.base r).k=1->∃ s,(s<m.base.ev.length/\(evA m.base s).k=2/\(evA m.base s).l=(evA m.base r).l/\(evA m.base s).v=(evA m.base r).v)/\S s r) (ho:∀ l,l<init.length->(o l).Perm (zT m.base l)/\(o l).headD 48=(zT m.base l).headD 48) :
  jB m 1≠0/\∃ ds∈qb (zJ m),(∀ s r,zg (zz m ds).rf s r=true->S s r)/\∀ a b,zg (zz m ds).co a b=true->∃ l,l<init.length/\a∈o l/\b∈twl (o l).reverse a:=by
 have hin:∀ (t:Nat) (r:Nat×List Nat),m.rs[t]?=some r->∃ (d s:Nat),r.2[d]?=some s/\S s r.1:=fun t r hr=>by
  obtain⟨e,e1,e2,e3⟩:=h.rs (JY hr);have hrl:=(Js.1 e1).1;have hev:evA m.base r.1=e:=by unfold evA;rw [gDe,e1];rfl
  obtain⟨s,hs⟩:=hsrc r.1 hrl (by rw [hev];exact e2);obtain⟨⟨s1,s2,s3,s4⟩,hs0⟩:=hs;have hloc:e.l.toNat<init.length:=by
   have:e∈(zaa init Ps).ev:=by rw [<- h.base];exact JY e1
   exact zcN h.i6 h.P this (.inl e2)
  rw [h.wr.2 _ hloc] at e3;have:s∈r.2:=by
   rw [e3];rw [hev] at s3 s4;exact QR.2 ⟨zbF.2 ⟨s1,Uq s2,by rw [s3]⟩,Uq s4⟩
  obtain⟨d,hd⟩:=List.mem_iff_getElem?.1 this;exact⟨d,s,hd,hs0⟩
 have hwl:∀ (l:Nat) (w:List Nat),m.wr[l]?=some w->l<init.length/\w=zT m.base l:=fun l w hw=>by
  have hl:=(Js.1 hw).1;rw [h.wr.1] at hl;have:=h.wr.2 l hl;rw [gDe,hw] at this;exact⟨hl,this⟩
 have hwr:∀ (l:Nat) (w:List Nat),m.wr[l]?=some w->∃ d,(zM w)[d]?=some (o l):=fun l w hw=>by
  have hwm:=JY hw;obtain⟨w1,w2⟩:=h.w1 hwm;obtain⟨hl,rfl⟩:=hwl l w hw;obtain⟨o1,o2⟩:=ho l hl;exact List.mem_iff_getElem?.1 (zpt w2 (List.nodup_range.filter _) (hw8 _ hwm) w1 o1 o2)
 have hch:∀ i:Nat,∃ d:Nat,(∀ r,m.rs[i]?=some r->∃ s,r.2[d]?=some s/\S s r.1)/\∀ (l:Nat) (w:List Nat),i=m.rs.length+l->m.wr[l]?=some w->(zM w)[d]?=some (o l):=fun i=>by
  by_cases hi:i<m.rs.length
  ·obtain⟨d,s,h1,h2⟩:=hin i _ (gE hi);exact⟨d,fun r hr=>(by rw [gE hi] at hr;rw [<- Ud hr];exact⟨s,h1,h2⟩),fun l w e _=>(by omega)⟩
  ·cases hg:m.wr[i-m.rs.length]? with
   | none =>
    refine⟨0,fun r hr=>?_,fun l w e hw=>?_⟩
    ·rw [JJ (by omega)] at hr
     cases hr
    ·rw [show i-m.rs.length=l by omega,hw] at hg
     cases hg
   | some w' =>
    obtain⟨d,hd⟩:=hwr _ _ hg;refine⟨d,fun r hr=>?_,fun l w e hw=>?_⟩
    ·rw [JJ (by omega)] at hr
     cases hr
    ·have el:i-m.rs.length=l:=(by omega);rw [el] at hg hd;rw [hw] at hg;rw [Ud hg];exact hd
 obtain⟨f,hf⟩:=Classical.axiomOfChoice hch;have hsl:(zJ m).length=m.rs.length+m.wr.length:=by
  unfold zJ;rw [lap,QL,QL]
 obtain⟨ds,hds⟩:=nm ((List.range (zJ m).length).map f);have hdl:ds.length=(zJ m).length:=by rw [hds,QL,KU]
 have hda:∀ i,i<(zJ m).length->ds[i]?=some (f i):=fun i hi=>by rw [hds,KT,Kh hi];rfl
 have hdm:ds∈qb (zJ m):=zlf hdl fun i n d hn hd=>by
  have hi:i<(zJ m).length:=(Js.1 hn).1;rw [hda i hi] at hd;rw [<- Ud hd];unfold zJ at hn;by_cases hir:i<m.rs.length
  ·rw [Jr (by rw [QL];exact hir),KT,gE hir] at hn;obtain⟨s,h1,_⟩:=(hf i).1 _ (gE hir);have:=(Js.1 h1).1;have hn:m.rs[i].2.length=n:=Ud hn;omega
  ·have hiw:i-m.rs.length<m.wr.length:=by omega
   rw [Jn (by rw [QL];omega),QL,KT,gE hiw] at hn;have h1:=(hf i).2 (i-m.rs.length) _ (by omega) (gE hiw);have:=(Js.1 h1).1;have hn:(zM m.wr[i-m.rs.length]).length=n:=Ud hn;omega
 refine⟨?_,ds,hdm,fun s r hb=>?_,fun a b hb=>?_⟩
 ·refine (zdG fun w hw=>(h.w1 hw).1).2 fun r hr e=>?_;obtain⟨t,ht⟩:=List.mem_iff_getElem?.1 hr;obtain⟨d,s,h1,_⟩:=hin t r ht;rw [e] at h1;simp at h1
 ·obtain⟨t,r',g1,g2,g3,g4⟩:=(h.rfb hdm).1 hb;have ht:=(Js.1 g1).1;rw [gDe,hda t (by omega)] at g3;have g3:r'.2[f t]?=some s:=g3;obtain⟨s',h1,h2⟩:=(hf t).1 r' g1;rw [h1] at g3;rw [<- Ud g3,g4];exact h2
 ·obtain⟨c1,c2⟩:=h.chx hdm;obtain⟨_,hbits⟩:=zdF m.base.ev (m.wr.map zM) 0 (ds.drop m.rs.length) (m.base.co,m.base.mem) c1 c2;have hb:zg (coG m.base.ev 0 (m.wr.map zM) (ds.drop m.rs.length) (m.base.co,m.base.mem)).1 a b=true:=hb;obtain⟨_,b2,_⟩:=zcM (init:=init) (Ps:=Ps);rcases (hbits a b).1 hb with ⟨l,l1,l2,l3⟩ | ⟨_,l2⟩
  ·rw [QL] at l1;have hwg:m.wr[l]?=some m.wr[l]:=gE l1;have e:chR (m.wr.map zM) (ds.drop m.rs.length) l=o l:=by
    unfold chR;have h1:=(hf (m.rs.length+l)).2 l _ rfl hwg;rw [gDe,gDe,KT,hwg,gDe,Kw,hda _ (by omega)];show ((zM m.wr[l])[f (m.rs.length+l)]?).getD []=_;rw [h1];rfl
   rw [e] at l2 l3;exact⟨l,(hwl l _ hwg).1,l2,l3⟩
  ·rw [h.base,b2] at l2;exact Gp l2 (zcs _ a b)
end
section
variable {x:ExD}
theorem zp2 (h:XOk x) (π:Nat->Nat) (hf:∀ i j,i<x.ev.length->zg (zt8 x) i j=true->π i<π j) (hrm:∀ a b,zg x.rm a b=true->π b=π a+1) (m:Nat):qO m x=0:=by
 have fwd:∀ {r:RelD},RelOk x.ev.length r->(∀ i j,i<x.ev.length->zg r i j=true->π i<π j)->zaO r=true:=fun {r} hr hlt=>by
  rw [acy_tc hr];intro i ht;have:∀ {a b},TC (zdn x.ev.length r) a b->π a<π b:=fun {a b} ht=>by
   induction ht with
   | one k=>exact hlt _ _ k.1 k.2
   | step _ k ih=>exact Nat.lt_trans ih (hlt _ _ k.1 k.2)
  exact Gp (this ht) (Nat.lt_irrefl _)
 have po_lt:∀ i j,i<x.ev.length->zg x.po i j=true->π i<π j:=fun i j hi hb=>hf i j hi (by rw [zdM h hi,hb];rfl);have rf_lt:∀ i j,i<x.ev.length->zg x.rf i j=true->π i<π j:=fun i j hi hb=>hf i j hi (by rw [zdM h hi,hb,Bool.or_true];rfl);have hco:∀ i j,i<x.ev.length->zg x.co i j=true->π i<π j:=fun i j hi hb=>hf i j hi (by rw [zdM h hi,hb,Bool.true_or,Bool.or_true]);have hfr:∀ i j,i<x.ev.length->zg (frM x) i j=true->π i<π j:=fun i j hi hb=>hf i j hi (by rw [zdM h hi,hb,Bool.or_true,Bool.or_true]);have hall:∀ o∈[x.rf,x.co,frM x],RelOk x.ev.length o:=fun o ho=>by
  simp only [UB,Qu,Gk] at ho;rcases ho with rfl | rfl | rfl
  ·exact h.rf
  ·exact h.co
  ·exact zck h
 have hlocal:RelOk x.ev.length (jv x) := .pick h.n _;rw [zdd];refine⟨?_,?_,?_⟩
 ·refine fwd (zcV hlocal hall) fun i j hi hb=>?_;rw [zcW hi hlocal hall,QF] at hb;rcases hb with hb | hb
  ·unfold jv at hb;rw [zds] at hb;simp only [bAT,dE] at hb;exact po_lt i j hi hb.2.2.1
  ·simp only [Uz,List.any_nil,Uv,QF] at hb;rcases hb with hb | hb | hb
   ·exact rf_lt i j hi hb
   ·exact hco i j hi hb
   ·exact hfr i j hi hb
 ·have hfc:=(zck h).then h.co;refine (zi0 (h.rm.both hfc)).2 fun i j hi hj=>?_;rw [zlx h.rm hfc hi]
  cases h1:zg x.rm i j
  ·rfl
  ·cases h2:zg (jh (frM x) x.co).1 i j
   ·rfl
   ·obtain⟨w,hw,g1,g2⟩:=(zeO (zck h) h.co hi).1 h2;have:=hrm i j h1;have:=hfr i w hi g1;have:=hco w j hw g2;omega
 ·by_cases h1:m=1
  ·exact .inl h1
  ·right;refine fwd (zcV (zk1 h) (zkO h)) fun i j hi hb=>?_;have hbit:zg (ztp m x) i j=(zg (zaT m x) i j||[if m=2 then x.rf else zc6 x x.rf,x.co,frM x].any fun o=>zg o i j):=zcW hi (zk1 h) (zkO h);rw [hbit,QF] at hb;rcases hb with hb | hb
   ·unfold zaT at hb;rw [zds] at hb;simp only [bAT,dE] at hb;exact po_lt i j hi hb.2.2.1
   ·simp only [Uz,List.any_nil,Uv,QF] at hb;rcases hb with hb | hb | hb
    ·split at hb
     ·exact rf_lt i j hi hb
     ·exact rf_lt i j hi (zrV hb)
    ·exact hco i j hi hb
    ·exact hfr i j hi hb
end
end Go.Proofs.YtkpaomeeknegpaaGreatDoor
