/- Contracts of functions, and plain facts, for the law that the last text of this claim proves. -/
import Derived.Test.YtmbghmhjjodgmaaGreatDoorV4
import Derived.Test.YtmbghmhjjodgmaaGreatDoorV7
import Derived.Test.YtmbghmhjjodgmaaGreatDoorV5
import Derived.Test.YtmbghmhjjodgmaaGreatDoorV6
import Derived.Test.YtmbghmhjjodgmaaGreatDoorV1
import Derived.Test.YtmbghmhjjodgmaaGreatDoorV2
import Derived.Test.YtmbghmhjjodgmaaGreatDoorRows
import Derived.ProofKit
import Derived.OpenShut
import Derived.LaidLaws
import Derived.Below
import Derived.HandedShaped
import Derived.KernelRfl
import Derived.WalkKit
import Derived.ChangeOld
import Derived.SevenTiedAt
import Derived.LaidHandle
import Derived.Stop.LaidErr
import Derived.Lib.LaidTab
import Derived.SizedLaws
set_option linter.unusedSimpArgs false
set_option linter.unusedVariables false
namespace Go.Proofs.YtmbghmhjjodgmaaGreatDoor
open Go.Vc Go.RowKit Go.Sei
theorem zfr {a b:Nat}:decide ((a:Int)<(b:Int))=decide (a<b):=by rw [decide_eq_decide];omega
def zcm (c:Cnd):Bool:=decide (c.thread=0)&&(decide (c.n=0)&&decide (c.val=0))
theorem zcA {threads locs d:Nat} (c:Cnd):zde threads locs (d+1) c=(if c.kind=0 then zcm c&&decide (c.kids.length=0) else
  if c.kind=1 then decide (c.thread.toNat<threads)&&(decide (c.n.toNat<8)&&decide (c.kids.length=0)) else
  if c.kind=2 then decide (c.n.toNat<locs)&&(decide (c.thread=0)&&decide (c.kids.length=0)) else
  if c.kind=3\/c.kind=4 then zcm c&&(decide (2<=c.kids.length)&&c.kids.all (zde threads locs d)) else
  if c.kind=5 then zcm c&&(decide (c.kids.length=1)&&c.kids.all (zde threads locs d)) else false):=by
 obtain⟨k,t,n,v,kids⟩:=c;rfl
def zsK (c:Cnd):Prop:=(c.kind=3\/c.kind=4)/\zcm c=true/\2<=c.kids.length\/c.kind=5/\zcm c=true/\c.kids.length=1
theorem zlO {threads locs d:Nat} {c:Cnd} (h:zsK c):zde threads locs (d+1) c=c.kids.all (zde threads locs d):=by
 rw [zcA];rcases h with ⟨h1,h2,h3⟩ | ⟨h1,h2,h3⟩
 ·rw [if_neg (by rcases h1 with h | h <;> rw [h] <;> decide),if_neg (by rcases h1 with h | h <;> rw [h] <;> decide),if_neg (by rcases h1 with h | h <;> rw [h] <;> decide),if_pos h1,h2,decide_eq_true h3];rfl
 ·rw [if_neg (by rw [h1];decide),if_neg (by rw [h1];decide),if_neg (by rw [h1];decide),if_neg (by rw [h1];decide),if_pos h1,h2,decide_eq_true h3];rfl
theorem zjY {B threads locs:Nat} {w:World} (hB:B<=w.heap.size):∀ (d:Nat) (c:Cnd) (b o:Nat) (p:Option Addr) (cap:Nat),d<=1000->b<B->zax w ⟨b,o,none⟩ (zdj c p cap)->KidsV B w p c.kids ->
  Calls Tryz.prog 176 #[.pointer (some ⟨b,o,none⟩),i64 threads,i64 locs,i64 d] w fun e w'=>e = .returned (.bool (zde threads locs d c))/\w=w':=by
 intro d
 induction d with
 | zero =>
  intro c b o p cap _ hb hc hk;refine cofE 141 [.pointer (some ⟨b,o,none⟩),i64 threads,i64 locs,i64 0] Tryz.func176 ?_;refine brT ?_;exact⟨rfl,rfl⟩
 | succ d ih =>
  intro c b o p cap hd hb hc hk;refine cofM 141 [.pointer (some ⟨b,o,none⟩),i64 threads,i64 locs,i64 (d+1:Nat)] (.s .p (.s .p (.c .p (.c .p .p)))) Tryz.func176 ?_;have hbl:b<w.heap.size:=nL hb hB;refine biE (fun h=>?_) fun h=>?_
  ·have h:((d+1:Nat):Int)=0:=dT h;omega
  clear h;refine⟨Unit,fun _=>⟨[(0,.pointer (some ⟨b,o,none⟩)),(1,i64 threads),(2,i64 locs),(3,i64 (d+1:Nat)),(9,.bool (zcm c))],[]⟩,fun _ X=>w=X,?_,?_⟩
  ·have fin:∀ {v:Bool},v=zcm c->some (Value.bool v)=some (.bool (zcm c)):=fun h=>by rw [h]
   refine⟨_,zac hc (i:=1) rfl,?_⟩;refine biE (fun h1=>?_) fun h1=>?_
   ·have h1:decide (c.thread=0)=true:=(u8d c.thread 0).symm.trans h1;refine⟨_,zac hc (i:=2) rfl,?_⟩;refine biE (fun h2=>?_) fun h2=>?_
    ·have h2:decide (c.n=0)=true:=(u8d c.n 0).symm.trans h2;refine⟨_,zac hc (i:=3) rfl,?_⟩;exact⟨(),⟨.cons rfl (.cons rfl (.cons rfl (.cons rfl (.cons (fin (by unfold zcm;rw [h1,h2];exact u8d c.val 0)) .nil)))),rfl⟩,rfl⟩
    ·have h2:decide (c.n=0)=false:=(u8d c.n 0).symm.trans h2;exact⟨(),⟨.cons rfl (.cons rfl (.cons rfl (.cons rfl (.cons (fin (by unfold zcm;rw [h1,h2];rfl)) .nil)))),rfl⟩,rfl⟩
   ·have h1:decide (c.thread=0)=false:=(u8d c.thread 0).symm.trans h1;refine brF ?_;exact⟨(),⟨.cons rfl (.cons rfl (.cons rfl (.cons rfl (.cons (fin (by unfold zcm;rw [h1];rfl)) .nil)))),rfl⟩,rfl⟩
  rintro _ _ rfl;refine⟨Unit,fun _=>⟨[(0,.pointer (some ⟨b,o,none⟩)),(1,i64 threads),(2,i64 locs),(3,i64 (d+1:Nat))],[]⟩,fun _ X=>zsK c/\w=X,?_,?_⟩
  ·have hkn:c.kids.length<=140737488351232:=by have:=hk.inv.1;omega
   refine⟨_,zac hc (i:=0) rfl,?_⟩;refine biE (fun h0=>?_) fun h0=>?_
   ·have h0:c.kind=0:=dT ((u8d c.kind 0).symm.trans h0);have e:zde threads locs (d+1) c=(zcm c&&decide (c.kids.length=0)):=(by rw [zcA,if_pos h0]);rw [e];refine biE (fun h=>?_) fun h=>?_
    ·have h:zcm c=true:=h;refine⟨_,zac hc (i:=4) rfl,?_⟩;exact⟨rb (by rw [h,Bool.true_and];exact zd4),rfl⟩
    ·have h:zcm c=false:=h;exact⟨rb (by rw [h];rfl),rfl⟩
   have h0:¬ c.kind=0:=dF ((u8d c.kind 0).symm.trans h0);refine biE (fun h1=>?_) fun h1=>?_
   ·have h1:c.kind=1:=dT ((u8d c.kind 1).symm.trans h1);have e:zde threads locs (d+1) c=(decide (c.thread.toNat<threads)&&(decide (c.n.toNat<8)&&decide (c.kids.length=0))):=(by rw [zcA,if_neg h0,if_pos h1]);rw [e];refine⟨_,zac hc (i:=1) rfl,?_⟩;refine⟨_,zaN _,?_⟩;refine biE (fun h=>?_) fun h=>?_
    ·have h:decide (c.thread.toNat<threads)=true:=zfr.symm.trans h;refine⟨_,zac hc (i:=2) rfl,?_⟩;refine biE (fun h2=>?_) fun h2=>?_
     ·have h2:decide (c.n.toNat<8)=true:=(zfr (b:=8)).symm.trans h2;refine⟨_,zac hc (i:=4) rfl,?_⟩;exact⟨rb (by rw [h,h2];exact zd4),rfl⟩
     ·have h2:decide (c.n.toNat<8)=false:=(zfr (b:=8)).symm.trans h2;exact⟨rb (by rw [h,h2];rfl),rfl⟩
    ·have h:decide (c.thread.toNat<threads)=false:=zfr.symm.trans h;refine brF ?_;exact⟨rb (by rw [h];rfl),rfl⟩
   have h1:¬ c.kind=1:=dF ((u8d c.kind 1).symm.trans h1);refine biE (fun h2=>?_) fun h2=>?_
   ·have h2:c.kind=2:=dT ((u8d c.kind 2).symm.trans h2);have e:zde threads locs (d+1) c=(decide (c.n.toNat<locs)&&(decide (c.thread=0)&&decide (c.kids.length=0))):=(by rw [zcA,if_neg h0,if_neg h1,if_pos h2]);rw [e];refine⟨_,zac hc (i:=2) rfl,?_⟩;refine⟨_,zaN _,?_⟩;refine biE (fun h=>?_) fun h=>?_
    ·have h:decide (c.n.toNat<locs)=true:=zfr.symm.trans h;refine⟨_,zac hc (i:=1) rfl,?_⟩;refine biE (fun h3=>?_) fun h3=>?_
     ·have h3:decide (c.thread=0)=true:=(u8d c.thread 0).symm.trans h3;refine⟨_,zac hc (i:=4) rfl,?_⟩;exact⟨rb (by rw [h,h3];exact zd4),rfl⟩
     ·have h3:decide (c.thread=0)=false:=(u8d c.thread 0).symm.trans h3;exact⟨rb (by rw [h,h3];rfl),rfl⟩
    ·have h:decide (c.n.toNat<locs)=false:=zfr.symm.trans h;refine brF ?_;exact⟨rb (by rw [h];rfl),rfl⟩
   have h2:¬ c.kind=2:=dF ((u8d c.kind 2).symm.trans h2);have g34:∀ (hk34:c.kind=3\/c.kind=4),zde threads locs (d+1) c=(zcm c&&(decide (2<=c.kids.length)&&c.kids.all (zde threads locs d))):=fun hk34=>by
    rw [zcA,if_neg h0,if_neg h1,if_neg h2,if_pos hk34]
   refine biE (fun h3=>?_) fun h3=>?_
   ·have h3':decide ((c.kind.toNat:Int)=3)=true:=h3;have h3:c.kind=3\/c.kind=4 := .inl (dT ((u8d c.kind 3).symm.trans h3));refine brE h3' ?_;refine biE (fun h=>?_) fun h=>?_
    ·have h:(!zcm c)=true:=h;have h:zcm c=false:=(by simpa using h);refine brT ?_;exact⟨rb (by rw [g34 h3,h];rfl),rfl⟩
    ·have h:(!zcm c)=false:=h;have h:zcm c=true:=(by simpa using h);refine⟨_,zac hc (i:=4) rfl,?_⟩;refine biE (fun h4=>?_) fun h4=>?_
     ·have h4:(c.kids.length:Int)<2:=dT h4;exact⟨rb (by rw [g34 h3,decide_eq_false (by omega)];simp),rfl⟩
     ·have h4:¬ (c.kids.length:Int)<2:=dF h4;exact⟨(),(cvE rfl rfl),.inl ⟨h3,h,by omega⟩,rfl⟩
   have h3:¬ c.kind=3:=dF ((u8d c.kind 3).symm.trans h3);refine biE (fun h4=>?_) fun h4=>?_
   ·have h3:c.kind=3\/c.kind=4 := .inr (dT ((u8d c.kind 4).symm.trans h4));refine biE (fun h=>?_) fun h=>?_
    ·have h:(!zcm c)=true:=h;have h:zcm c=false:=(by simpa using h);refine brT ?_;exact⟨rb (by rw [g34 h3,h];rfl),rfl⟩
    ·have h:(!zcm c)=false:=h;have h:zcm c=true:=(by simpa using h);refine⟨_,zac hc (i:=4) rfl,?_⟩;refine biE (fun h4=>?_) fun h4=>?_
     ·have h4:(c.kids.length:Int)<2:=dT h4;exact⟨rb (by rw [g34 h3,decide_eq_false (by omega)];simp),rfl⟩
     ·have h4:¬ (c.kids.length:Int)<2:=dF h4;exact⟨(),(cvE rfl rfl),.inl ⟨h3,h,by omega⟩,rfl⟩
   have h4:¬ c.kind=4:=dF ((u8d c.kind 4).symm.trans h4);have h34:¬ (c.kind=3\/c.kind=4):=fun h=>h.elim h3 h4;refine biE (fun h5=>?_) fun h5=>?_
   ·have h5:c.kind=5:=dT ((u8d c.kind 5).symm.trans h5);have e:zde threads locs (d+1) c=(zcm c&&(decide (c.kids.length=1)&&c.kids.all (zde threads locs d))):=(by rw [zcA,if_neg h0,if_neg h1,if_neg h2,if_neg h34,if_pos h5]);refine biE (fun h=>?_) fun h=>?_
    ·have h:(!zcm c)=true:=h;have h:zcm c=false:=(by simpa using h);refine brT ?_;exact⟨rb (by rw [e,h];rfl),rfl⟩
    ·have h:(!zcm c)=false:=h;have h:zcm c=true:=(by simpa using h);refine⟨_,zac hc (i:=4) rfl,?_⟩;refine biE (fun h4=>?_) fun h4=>?_
     ·have h4:(!decide ((c.kids.length:Int)=1))=true:=h4;have h4:¬ (c.kids.length:Int)=1:=(by simpa using h4);exact⟨rb (by rw [e,decide_eq_false (by omega)];simp),rfl⟩
     ·have h4:(!decide ((c.kids.length:Int)=1))=false:=h4;have h4:(c.kids.length:Int)=1:=(by simpa using h4);exact⟨(),(cvE rfl rfl),.inr ⟨h5,h,by omega⟩,rfl⟩
   have h5:¬ c.kind=5:=dF ((u8d c.kind 5).symm.trans h5);exact⟨rb (by rw [zcA,if_neg h0,if_neg h1,if_neg h2,if_neg h34,if_neg h5]),rfl⟩
  rintro _ _ ⟨ha,rfl⟩;rw [zlO ha];refine⟨_,zac hc (i:=4) rfl,?_⟩;obtain⟨hn,b1,o1,hp,hks⟩:=hk.inv;refine⟨Nat,fun k=>⟨[(0,.pointer (some ⟨b,o,none⟩)),(1,i64 threads),(2,i64 locs),(3,i64 (d+1:Nat)),(124,i64 c.kids.length),(125,i64 (k:Nat))],[]⟩,fun k X=>k<=c.kids.length/\(∀ x∈c.kids.take k,zde threads locs d x=true)/\w=X,fun k=>c.kids.length-k,0,
   (cvE rfl rfl),⟨Nat.zero_le _,by simp,rfl⟩,?_⟩
  rintro k _ ⟨hk,hall,rfl⟩;dsimp only at hk hall ⊢;refine biE (fun hc2=>?_) fun hc2=>?_
  ·have hc2:(k:Int)<(c.kids.length:Int):=dT hc2;have hkl:k<c.kids.length:=by omega
   rcases hp with hp | rfl
   ·omega
   obtain⟨q,cq,hb1,hq,hkq⟩:=hks k hkl;refine⟨_,zac hc (i:=4) rfl,?_⟩;refine⟨k,rfl,hkl,?_⟩;refine⟨(d:Int),(zaj (by omega)).trans (by omega),?_⟩;refine cmo (ih c.kids[k] b1 (o1+k*5) q cq (by omega) hb1 hq hkq) ?_;rintro e _ ⟨rfl,rfl⟩;refine biE (fun h=>?_) fun h=>?_
   ·have h:(!zde threads locs d c.kids[k])=true:=h;refine⟨rb ?_,rfl⟩;symm;rw [List.all_eq_false];exact⟨c.kids[k],gM _,by simpa using h⟩
   ·have h:(!zde threads locs d c.kids[k])=false:=h;refine⟨_,(zaj (by omega)).trans rfl,?_⟩;refine⟨k+1,(cvE rfl rfl),⟨hkl,?_,rfl⟩,zdc (by omega)⟩;rw [tsg hkl];intro x hx;rcases List.mem_append.1 hx with hx | hx
    ·exact hall x hx
    ·simp only [List.mem_singleton] at hx;rw [hx];simpa using h
  ·have hc2:¬ (k:Int)<(c.kids.length:Int):=dF hc2;obtain rfl:k=c.kids.length:=by omega
   rw [List.take_length] at hall;exact⟨rb (List.all_eq_true.2 hall).symm,rfl⟩
theorem zsV {B threads locs cap:Nat} {p:Option Addr} {c:Cnd} {w:World} (hB:B<=w.heap.size) (hk:KidsV B w p c.kids) :
  CB 155 #[.agg (zdj c p cap).toArray,i64 threads,i64 locs] w (.bool (zde threads locs 20 c)):=by
 refine cofE 10 [.agg (zdj c p cap).toArray,i64 threads,i64 locs] Tryz.func155 ?_;have hb:Bw w (w.alloc (.cells (zdj c p cap).toArray 69)):=zba w _;have hn:=hnew w (.cells (zdj c p cap).toArray 69);refine cmo (zjY (B:=w.heap.size+1) (by rw [wz];omega) 20 c w.heap.size 0 p cap (by omega) (by omega) (zab hn) ((hk.kept (hb.mono hB)).wider (by omega))) ?_;rintro e _ ⟨rfl,rfl⟩;exact⟨rfl,hb⟩
theorem zjI {g:Nat} {p:Prg} {p1 p2 p3 p4:Option Addr} {c1 c2 c3 c4 B:Nat} {w:World} (hc:zax w ⟨g,0,none⟩ (zcE p p1 c1 p2 c2 p3 c3 p4 c4)) (hg:g<w.heap.size) (h1:RowB namE B w p1 p.locs) (hB:B<=w.heap.size) (hcap:p.locs.length<=c1) (hl:PrgLen p) :
  CB 147 #[At0 g] w (.bool (zhX p)):=by
 refine cofM 56 [At0 g] (.s .p (.c .p .p)) Tryz.func147 ?_;have hbd:Bw w w.drew:=(Below.refl _ w).drew;have hcd:zax w.drew ⟨g,0,none⟩ (zcE p p1 c1 p2 c2 p3 c3 p4 c4):=zae hbd hc;have h1d:SlR namE w.drew p1 p.locs:=(h1.below (hbd.mono hB)).slr (Nat.le_trans hB hbd.size);have hln:=hl.locs;refine⟨Unit,fun _=>⟨[(0,At0 g)],[]⟩,fun _ X=>(1<=p.locs.length/\p.locs.length<=6/\p.init.length=p.locs.length)/\X=w.drew,?_,?_⟩
 ·refine DrawE.ord [] [0,1,2,3,4,5,6,7,8,9,10,11,12,13,14,15,16,17,18,19,20,21,22,23,24,25,26] (by kernel_rfl) ?_;refine⟨_,zac hcd (i:=1) rfl,?_⟩;refine biE (fun ha=>?_) fun ha=>?_
  ·have ha:(p.locs.length:Int)<1:=dT ha;refine brT ?_;refine brT ?_;exact⟨rb (by unfold zhX;rw [decide_eq_false (by omega)];rfl),hbd⟩
  ·have ha:¬ (p.locs.length:Int)<1:=dF ha;refine⟨_,zac hcd (i:=1) rfl,?_⟩;refine biE (fun hd=>?_) fun hd=>?_
   ·have hd:(6:Int)<(p.locs.length:Int):=dT hd;refine brT ?_;exact⟨rb (by unfold zhX;rw [decide_eq_false (p:=p.locs.length<=6) (by omega)];simp),hbd⟩
   ·have hd:¬ (6:Int)<(p.locs.length:Int):=dF hd;refine⟨_,zac hcd (i:=2) rfl,?_⟩;refine⟨_,zac hcd (i:=1) rfl,?_⟩;refine biE (fun he=>?_) fun he=>?_
    ·have he:(!decide ((p.init.length:Int)=(p.locs.length:Int)))=true:=he;have he:¬ (p.init.length:Int)=(p.locs.length:Int):=(by simpa using he);exact⟨rb (by unfold zhX;rw [decide_eq_false (p:=p.init.length=p.locs.length) (by omega)];simp),hbd⟩
    ·have he:(!decide ((p.init.length:Int)=(p.locs.length:Int)))=false:=he;have he:(p.init.length:Int)=(p.locs.length:Int):=(by simpa using he);exact⟨(),(cvE rfl rfl),⟨by omega,by omega,by omega⟩,rfl⟩
 rintro _ _ ⟨⟨l1,l6,li⟩,rfl⟩;have hdef:zhX p=zgz [] p.locs:=by unfold zhX;rw [decide_eq_true l1,decide_eq_true l6,decide_eq_true li];rfl
 rw [hdef];refine⟨_,zac hcd (i:=1) rfl,?_⟩;refine⟨Nat,fun k=>⟨[(0,At0 g),(35,.slice p1 p.locs.length c1),(36,i64 p.locs.length),(37,i64 (k:Nat))],[]⟩,fun k X=>k<=p.locs.length/\zgz (p.locs.take k) (p.locs.drop k)=zgz [] p.locs/\X=w.drew,fun k=>p.locs.length-k,0,
  (cvE rfl rfl),⟨Nat.zero_le _,rfl,rfl⟩,?_⟩
 rintro k _ ⟨hk,hna,rfl⟩;dsimp only at hk hna ⊢;refine biE (fun hc2=>?_) fun hc2=>?_
 ·have hc2:(k:Int)<(p.locs.length:Int):=dT hc2;have hkl:k<p.locs.length:=by omega
  obtain⟨b,o,rfl,hb,hat⟩:=h1d.at hkl;have hbk:Bw w w.drew:=hbd;refine⟨k,rfl,hkl,?_⟩;refine⟨_,zac (hat k hkl) (i:=0) rfl,?_⟩;have hs:p.locs[k].length<=140737488351232:=hl.loc _ (gM _);have hstep:zgz [] p.locs=(zhS p.locs[k]&&(!((p.locs.take k).any fun q=>decide (q=p.locs[k]))&&zgz (p.locs.take (k+1)) (p.locs.drop (k+1)))):=by
   rw [<- hna,List.drop_eq_getElem_cons hkl,tsg hkl];rfl
  refine cmo (zsO p.locs[k] hs _) ?_;rintro e _ ⟨rfl,rfl⟩;refine biE (fun h=>?_) fun h=>?_
  ·have h:(!zhS p.locs[k])=true:=h;have h:zhS p.locs[k]=false:=by simpa using h
   refine brT ?_;exact⟨rb (by rw [hstep,h];rfl),hbd⟩
  ·have h:(!zhS p.locs[k])=false:=h;have h:zhS p.locs[k]=true:=by simpa using h
   refine⟨_,zac hcd (i:=1) rfl,?_⟩;refine⟨k,rfl,by omega,?_⟩;have hsub:SlR namE w.drew (zbt (some ⟨b,o,none⟩) c1 0 1) (p.locs.take k):=SlR.sub h1d (lo:=0) (hi:=k) (Nat.zero_le _) (by omega) hcap;have htl:(p.locs.take k).length=k:=by rw [List.length_take];omega
   have hcn:=zlZ (zbt (some ⟨b,o,none⟩) c1 0 1) (c1-0) (p.locs.take k) p.locs[k] w.drew hsub (by omega);rw [htl] at hcn;refine cmo hcn ?_;rintro e _ ⟨rfl,rfl⟩;refine biE (fun h5=>?_) fun h5=>?_
   ·have h5:((p.locs.take k).any fun q=>decide (q=p.locs[k]))=true:=h5;exact⟨rb (by rw [hstep,h5];simp),hbd⟩
   ·have h5:((p.locs.take k).any fun q=>decide (q=p.locs[k]))=false:=h5;refine⟨_,(zaj (by omega)).trans rfl,?_⟩;exact⟨k+1,(cvE rfl rfl),⟨hkl,by rw [hstep,h,h5];rfl,rfl⟩,zdc (by omega)⟩
 ·have hc2:¬ (k:Int)<(p.locs.length:Int):=dF hc2;obtain rfl:k=p.locs.length:=by omega
  rw [List.drop_length] at hna;exact⟨rb hna,hbd⟩
structure DmV (B:Nat) (X:World) (g bx:Nat) (p:Prg):Prop where
 hB:B<=X.heap.size
 hg:g<X.heap.size
 len:PrgLen p
 h:∃ p1 c1 p2 c2 p3 c3 p4 c4,zax X ⟨g,0,none⟩ (zcE p p1 c1 p2 c2 p3 c3 p4 c4)/\RowB namE B X p1 p.locs/\RowB zaU B X p2 p.init/\ThrsV B X p3 p.threads/\KidsV B X p4 p.cond.kids/\p.locs.length<=c1
 b:X.heap[bx]?=some (.cells #[At0 g] 116 (0,0))
 G:GlobC X
theorem DmV.below {B:Nat} {X Y:World} {g bx:Nat} {p:Prg} (h:DmV B X g bx p) (hb:Bw X Y):DmV B Y g bx p:=by
 obtain⟨p1,c1,p2,c2,p3,c3,p4,c4,h0,h1,h2,h3,h4,h5⟩:=h.h;have hb':=hb.mono h.hB;exact⟨Nat.le_trans h.hB hb.size,nL h.hg hb.size,h.len,⟨p1,c1,p2,c2,p3,c3,p4,c4,zae hb h0,h1.below hb',h2.below hb',h3.below hb',h4.kept hb',h5⟩,zaa hb h.b,h.G.below hb⟩
def zmF (sel:Bool) (bx:Nat):Value:=match sel with
 | false => .func (.func 149) #[] #[]
 | true => .func (.func 151) #[] #[.pointer (some ⟨bx,0,none⟩)]
def zes (sel:Bool) (p:Prg) (l:List InsD):Bool:=match sel with
 | false=>decide (l.length<=12)
 | true=>zb0 l p.locs.length
section
variable {B g bx:Nat} {p:Prg} {w:World}
theorem zp5 (q:Option Addr) (cap:Nat) (l:List InsD):Calls Tryz.prog 149 #[.slice q l.length cap] w fun e w'=>e = .returned (.bool (decide (l.length<=12)))/\w=w':=by
 refine cofE 6 [.slice q l.length cap] Tryz.func149 ?_;refine⟨rb ?_,rfl⟩;rw [decide_eq_decide];show ((l.length:Int)<=12)↔_;omega
theorem zop (h:DmV B w g bx p) {q:Option Addr} {cap:Nat} {l:List InsD} (hl:SlR insE w q l) (hn:l.length<=140737488351232) :
  CB 151 #[.slice q l.length cap,At0 bx] w (.bool (zb0 l p.locs.length)):=by
 refine cofE 11 [.slice q l.length cap,At0 bx] Tryz.func151 ?_;obtain⟨p1,c1,p2,c2,p3,c3,p4,c4,h0,h1,h2,h3,h4,h5⟩:=h.h;refine⟨_,zac (zab h.b) (i:=0) rfl,?_⟩;refine⟨_,zac h0 (i:=1) rfl,?_⟩;refine cmo (zla hl h.G hn) ?_;rintro e V ⟨rfl,hb⟩;exact⟨rfl,hb⟩
theorem znu (sel:Bool) (h:DmV B w g bx p):CB 143 #[zmF sel bx,At0 bx] w (.bool (p.threads.all (zes sel p))):=by
 refine cofE 20 [zmF sel bx,At0 bx] Tryz.func143 ?_;obtain⟨p1,c1,p2,c2,p3,c3,p4,c4,h0,h1,h2,h3,h4,h5⟩:=h.h;obtain⟨xs,hxs,hr,hx⟩:=h3;have hlen:p.threads.length=xs.length:=by rw [<- hxs,List.length_map]
 have hln:=h.len.threads;refine⟨_,zac (zab h.b) (i:=0) rfl,?_⟩;refine⟨_,zac h0 (i:=3) rfl,?_⟩;refine⟨Nat,fun k=>⟨[(0,zmF sel bx),(1,At0 bx),(9,.slice p3 p.threads.length c3),(10,i64 p.threads.length),(11,i64 (k:Nat))],[]⟩,fun k X=>k<=p.threads.length/\(∀ l∈p.threads.take k,zes sel p l=true)/\Bw w X,fun k=>p.threads.length-k,0,
  (cvE rfl rfl),⟨Nat.zero_le _,by simp,Below.refl _ _⟩,?_⟩
 rintro k X ⟨hk,hall,hbX⟩;dsimp only at hk hall ⊢;have hX:=h.below hbX;refine biE (fun hc=>?_) fun hc=>?_
 ·have hc:(k:Int)<(p.threads.length:Int):=dT hc;have hkl:k<p.threads.length:=by omega
  have hkx:k<xs.length:=by omega
  have e1:p.threads[k]=xs[k].1:=by simp [<- hxs]
  obtain⟨b,o,hp3,hat⟩:=hr.get;rcases hp3 with hp3 | rfl
  ·omega
  refine⟨k,rfl,hkl,?_⟩;obtain⟨hb1,ha1⟩:=hat k hkx;refine⟨_,zac (zaA (hbX.mono h.hB) hb1 ha1) (i:=0) rfl,?_⟩;have hrow:SlR insE X xs[k].2.1 xs[k].1:=((hx _ (gM hkx)).below (hbX.mono h.hB)).slr hX.hB;have hln1:xs[k].1.length<=140737488351232:=by rw [<- e1];exact h.len.thread _ (gM _)
  have hfin:zes sel p xs[k].1=false->p.threads.all (zes sel p)=false:=fun hf=>by
   rw [List.all_eq_false];exact⟨p.threads[k],gM _,by rw [e1,hf];simp⟩
  have hgo:zes sel p xs[k].1=true->∀ l∈p.threads.take (k+1),zes sel p l=true:=fun ht=>by
   rw [tsg hkl];intro x hx;rcases List.mem_append.1 hx with hx | hx
   ·exact hall x hx
   ·simp only [List.mem_singleton] at hx;rw [hx,e1];exact ht
  cases sel with
  | false =>
   refine cmo (zp5 xs[k].2.1 xs[k].2.2 xs[k].1) ?_;rintro e _ ⟨rfl,rfl⟩;refine biE (fun hb=>?_) fun hb=>?_
   ·have hb:(!zes false p xs[k].1)=true:=hb;exact⟨rb (hfin (by simpa using hb)).symm,hbX⟩
   ·have hb:(!zes false p xs[k].1)=false:=hb;refine⟨_,(zaj (by omega)).trans rfl,?_⟩;exact⟨k+1,(cvE rfl rfl),⟨hkl,hgo (by simpa using hb),hbX⟩,zdc (by omega)⟩
  | true =>
   refine cmo (zop hX (cap:=xs[k].2.2) hrow hln1) ?_;rintro e Y ⟨rfl,hbY⟩;refine biE (fun hb=>?_) fun hb=>?_
   ·have hb:(!zes true p xs[k].1)=true:=hb;exact⟨rb (hfin (by simpa using hb)).symm,(zst hbX hbY)⟩
   ·have hb:(!zes true p xs[k].1)=false:=hb;refine⟨_,(zaj (by omega)).trans rfl,?_⟩;exact⟨k+1,(cvE rfl rfl),⟨hkl,hgo (by simpa using hb),(zst hbX hbY)⟩,zdc (by omega)⟩
 ·have hc:¬ (k:Int)<(p.threads.length:Int):=dF hc;obtain rfl:k=p.threads.length:=by omega
  rw [List.take_length] at hall;exact⟨rb (List.all_eq_true.2 hall).symm,hbX⟩
theorem zsA (h:DmV B w g bx p):CB 144 #[At0 bx] w (.bool (zfu p.name)):=by
 refine cofE 7 [At0 bx] Tryz.func144 ?_;obtain⟨p1,c1,p2,c2,p3,c3,p4,c4,h0,h1,h2,h3,h4,h5⟩:=h.h;refine⟨_,zac (zab h.b) (i:=0) rfl,?_⟩;refine⟨_,zac h0 (i:=0) rfl,?_⟩;refine cmo (zoV p.name h.len.name w) ?_;rintro e V ⟨rfl,hb⟩;exact⟨rfl,hb⟩
theorem zsz (h:DmV B w g bx p):CB 146 #[At0 bx] w (.bool (zhX p)):=by
 refine cofE 4 [At0 bx] Tryz.func146 ?_;obtain⟨p1,c1,p2,c2,p3,c3,p4,c4,h0,h1,h2,h3,h4,h5⟩:=h.h;refine⟨_,zac (zab h.b) (i:=0) rfl,?_⟩;refine cmo (zjI h0 h.hg h1 h.hB h5 h.len) ?_;rintro e V ⟨rfl,hb⟩;exact⟨rfl,hb⟩
def evV (bx:Nat):Value := .func (.func 143) #[] #[At0 bx]
theorem zsy (h:DmV B w g bx p) {ev:Nat} (hev:w.heap[ev]?=some (.cells #[evV bx] 187 (0,0))):CB 148 #[At0 bx,At0 ev] w (.bool (decide (1<=p.threads.length)&&(decide (p.threads.length<=4)&&p.threads.all fun l=>decide (l.length<=12)))):=by
 refine cofE 21 [At0 bx,At0 ev] Tryz.func148 ?_;obtain⟨p1,c1,p2,c2,p3,c3,p4,c4,h0,h1,h2,h3,h4,h5⟩:=h.h;refine⟨_,zac (zab h.b) (i:=0) rfl,?_⟩;refine⟨_,zac h0 (i:=3) rfl,?_⟩;refine biE (fun ha=>?_) fun ha=>?_
 ·have ha:(1:Int)<=(p.threads.length:Int):=dT ha;refine⟨_,zac (zab h.b) (i:=0) rfl,?_⟩;refine⟨_,zac h0 (i:=3) rfl,?_⟩;refine biE (fun hb=>?_) fun hb=>?_
  ·have hb:(p.threads.length:Int)<=4:=dT hb;refine⟨_,zac (zab hev) (i:=0) rfl,?_⟩;refine cmo (znu false h) ?_;rintro e V ⟨rfl,hbV⟩;refine⟨rb ?_,hbV⟩;rw [decide_eq_true (by omega),decide_eq_true (by omega),Bool.true_and,Bool.true_and];rfl
  ·have hb:¬ (p.threads.length:Int)<=4:=dF hb;exact⟨rb (by rw [decide_eq_false (p:=p.threads.length<=4) (by omega)];simp),Below.refl _ _⟩
 ·have ha:¬ (1:Int)<=(p.threads.length:Int):=dF ha;refine brF ?_;exact⟨rb (by rw [decide_eq_false (p:=1<=p.threads.length) (by omega)];rfl),Below.refl _ _⟩
theorem zsx (h:DmV B w g bx p) {ev:Nat} (hev:w.heap[ev]?=some (.cells #[evV bx] 187 (0,0))):CB 150 #[At0 ev,At0 bx] w (.bool (p.threads.all fun l=>zb0 l p.locs.length)):=by
 refine cofE 6 [At0 ev,At0 bx] Tryz.func150 ?_;refine⟨_,zac (zab hev) (i:=0) rfl,?_⟩;refine cmo (znu true h) ?_;rintro e V ⟨rfl,hbV⟩;exact⟨rfl,hbV⟩
theorem zsw (h:DmV B w g bx p):CB 153 #[At0 bx] w (.bool (decide (p.ask=1)||(decide (p.ask=2)||decide (p.ask=3)))):=by
 refine cofE 21 [At0 bx] Tryz.func153 ?_;obtain⟨p1,c1,p2,c2,p3,c3,p4,c4,h0,h1,h2,h3,h4,h5⟩:=h.h;refine⟨_,zac (zab h.b) (i:=0) rfl,?_⟩;refine⟨_,zac h0 (i:=4) rfl,?_⟩;refine biE (fun ha=>?_) fun ha=>?_
 ·have ha:decide (p.ask=1)=true:=(u8d p.ask 1).symm.trans ha;refine brT ?_;exact⟨rb (by rw [ha];rfl),Below.refl _ _⟩
 ·have ha:decide (p.ask=1)=false:=(u8d p.ask 1).symm.trans ha;refine⟨_,zac (zab h.b) (i:=0) rfl,?_⟩;refine⟨_,zac h0 (i:=4) rfl,?_⟩;refine biE (fun hb=>?_) fun hb=>?_
  ·have hb:decide (p.ask=2)=true:=(u8d p.ask 2).symm.trans hb;exact⟨rb (by rw [ha,hb];rfl),Below.refl _ _⟩
  ·have hb:decide (p.ask=2)=false:=(u8d p.ask 2).symm.trans hb;refine⟨_,zac (zab h.b) (i:=0) rfl,?_⟩;refine⟨_,zac h0 (i:=4) rfl,?_⟩;exact⟨rb (by rw [ha,hb];exact u8d p.ask 3),Below.refl _ _⟩
theorem zsv (h:DmV B w g bx p):CB 154 #[At0 bx] w (.bool (zde p.threads.length p.locs.length 20 p.cond)):=by
 refine cofE 17 [At0 bx] Tryz.func154 ?_;have hbd:Bw w w.drew:=(Below.refl _ w).drew;have hd:=h.below hbd;obtain⟨p1,c1,p2,c2,p3,c3,p4,c4,h0,h1,h2,h3,h4,h5⟩:=hd.h;refine DrawE.ord [] [0,1,2,3,4,5,6,7,8,9,10,11,12,13,14,15] (by kernel_rfl) ?_;refine⟨_,zac (zab hd.b) (i:=0) rfl,?_⟩;refine⟨zdj p.cond p4 c4,rfl,zaC (n:=5) (m:=5) h0,hd.hg,?_⟩;refine⟨_,zac (zab hd.b) (i:=0) rfl,?_⟩;refine⟨_,zac h0 (i:=3) rfl,?_⟩;refine⟨_,zac (zab hd.b) (i:=0) rfl,?_⟩;refine⟨_,zac h0 (i:=1) rfl,?_⟩;refine cmo (zsV hd.hB h4) ?_;rintro e V ⟨rfl,hbV⟩;exact⟨hbV,rfl,hbd.trans hbV⟩
def dmFs (bx ev:Nat):List Value:=[i64 70,.func (.func 144) #[] #[At0 bx],i64 71,.func (.func 146) #[] #[At0 bx],
 i64 72,.func (.func 148) #[] #[At0 bx,At0 ev],i64 73,.func (.func 150) #[] #[At0 ev,At0 bx],
 i64 75,.func (.func 153) #[] #[At0 bx],i64 74,.func (.func 154) #[] #[At0 bx]]
theorem znI {g:Nat} {w:World}:Calls Tryz.prog 110 #[At0 g] w fun e w'=>e = .returned (.slice (some ⟨w.heap.size+2,0,none⟩) 6 6) /\
  w'.heap[w.heap.size]?=some (.cells #[At0 g] 116 (0,0))/\w'.heap[w.heap.size+1]?=some (.cells #[evV w.heap.size] 187 (0,0)) /\
  w'.heap[w.heap.size+2]?=some (.cells (dmFs w.heap.size (w.heap.size+1)).toArray 155 (0,0))/\w'.heap.size=w.heap.size+3/\Bw w w':=by
 refine cofE 18 [At0 g] Tryz.func110 ?_;have hs:=wz w (.cells (At0 g).cells 116);refine zak (X:=w.alloc (.cells (At0 g).cells 116)) (v:=evV w.heap.size) k187 rfl rfl rfl fun V hbV fV sV=>?_;generalize hev:(w.alloc (.cells (At0 g).cells 116)).heap.size=ev at *;refine⟨[i64 70,.func (.func 144) #[] #[.pointer (some ⟨w.heap.size,0,none⟩)]],rfl,?_⟩;refine⟨[i64 71,.func (.func 146) #[] #[.pointer (some ⟨w.heap.size,0,none⟩)]],rfl,?_⟩;refine⟨[i64 72,.func (.func 148) #[] #[.pointer (some ⟨w.heap.size,0,none⟩),At0 ev]],rfl,?_⟩;refine⟨[i64 73,.func (.func 150) #[] #[At0 ev,.pointer (some ⟨w.heap.size,0,none⟩)]],rfl,?_⟩;refine⟨[i64 75,.func (.func 153) #[] #[.pointer (some ⟨w.heap.size,0,none⟩)]],rfl,?_⟩;refine⟨[i64 74,.func (.func 154) #[] #[.pointer (some ⟨w.heap.size,0,none⟩)]],rfl,?_⟩;refine⟨⟨by decide,by decide,rfl⟩,dmFs w.heap.size ev,rfl,?_⟩;subst hs;refine⟨?_,?_,?_,?_,?_,?_⟩
 ·rw [sV];rfl
 ·exact hold _ (zaa (show Below _ _ _ from hev▸hbV) (hnew w _))
 ·exact hold _ fV
 ·rw [show w.heap.size+2=V.heap.size from sV.symm];exact hnew _ _
 ·rw [wz,sV]
 ·exact (((zba w _)).trans (hbV.mono (by omega))).alloc (by omega) _
end
def okL (p:Prg):List Bool:=[zfu p.name,zhX p,decide (1<=p.threads.length)&&(decide (p.threads.length<=4)&&p.threads.all fun l=>decide (l.length<=12)),p.threads.all (fun l=>zb0 l p.locs.length),
 decide (p.ask=1)||(decide (p.ask=2)||decide (p.ask=3)),zde p.threads.length p.locs.length 20 p.cond]
theorem zm3 {p:Prg}:zjD p=(okL p).all id:=by
 unfold zjD okL;simp only [List.all_cons,List.all_nil,Bool.and_true,id]
theorem zob {B:Nat} {p:Prg} {vs:List Value} {w:World} (hB:B<=w.heap.size) (hp:PrgV B w vs p) (hG:GlobC w) :
  Calls Tryz.prog 80 #[.agg vs.toArray] w fun e w'=>∃ n:Int,e = .returned (i64 n)/\(n=0↔zjD p=true)/\Bw w w':=by
 obtain⟨hl,p1,c1,p2,c2,p3,c3,p4,c4,rfl,h1,h2,h3,h4,h5⟩:=hp;refine cofE 18 [.agg (zcE p p1 c1 p2 c2 p3 c3 p4 c4).toArray] Tryz.func80 ?_;obtain⟨L,hL⟩:=nm (w.heap.size);have hn:=hnew w (.cells (Value.agg (zcE p p1 c1 p2 c2 p3 c3 p4 c4).toArray).cells 71);have hs:=wz w (.cells (Value.agg (zcE p p1 c1 p2 c2 p3 c3 p4 c4).toArray).cells 71);have hb:Bw w (w.alloc (.cells (Value.agg (zcE p p1 c1 p2 c2 p3 c3 p4 c4).toArray).cells 71)):=zba w _;refine cmo znI ?_;rintro e V ⟨rfl,hbx,hev,hsl,hsz,hbV⟩;have hbw:Bw w V:=zst hb hbV;have p1':some (Value.slice (some ⟨(w.alloc (.cells (Value.agg (zcE p p1 c1 p2 c2 p3 c3 p4 c4).toArray).cells 71)).heap.size+2,0,none⟩) 6 6)=some (Value.slice (some ⟨L+3,0,none⟩) 6 6):=by rw [hs,hL]
 have hD:DmV B V L (L+1) p:=by
  have hbB:=hbw.mono hB;rw [hs,<- hL] at hbx;refine⟨Nat.le_trans hB hbw.size,by omega,hl,⟨p1,c1,p2,c2,p3,c3,p4,c4,zab (zaa hbV (hL▸hn)),h1.below hbB,h2.below hbB,h3.below hbB,h4.kept hbB,h5⟩,hbx,hG.below hbw⟩
 rw [hs,<- hL] at hev hsl;clear hn hs hb hbx hbV hsz;refine⟨Nat,fun j=>⟨[(5,.slice (some ⟨L+3,0,none⟩) 6 6),(6,i64 6),(7,i64 (j:Nat))],[]⟩,
  fun j X=>j<=6/\(∀ i,i<j->(okL p)[i]?=some true)/\DmV B X L (L+1) p/\X.heap[L+2]?=some (.cells #[evV (L+1)] 187 (0,0))/\X.heap[L+3]?=some (.cells (dmFs (L+1) (L+2)).toArray 155 (0,0))/\Bw w X,fun j=>6-j,0,
  ⟨.cons p1' (.cons rfl (.cons rfl .nil)),rfl⟩,⟨Nat.zero_le _,fun i hi=>by omega,hD,hev,hsl,hbw⟩,?_⟩
 clear hD hev hsl hbw p1';rintro j X ⟨hj,hpre,hD,hev,hsl,hbw⟩;dsimp only at hj hpre ⊢;refine biE (fun hc=>?_) fun hc=>?_
 ·have hc:(j:Int)<6:=dT hc;have hno:∀ {i:Nat},(okL p)[i]?=some false->zjD p=false:=fun h=>by rw [zm3];exact zpQ h
  have hcs:j=0\/j=1\/j=2\/j=3\/j=4\/j=5:=by omega
  rcases hcs with rfl | rfl | rfl | rfl | rfl | rfl
  ·refine⟨0,rfl,by decide,?_⟩;refine⟨[i64 70,.func (.func 144) #[] #[At0 (L+1)]],rfl,zaC (n:=0) (m:=2) (zab hsl),hlt hsl,?_⟩;refine zak (X:=X) (v := .agg [i64 70,.func (.func 144) #[] #[At0 (L+1)]].toArray) k155 rfl rfl rfl fun Y hbY fY sY=>?_;have hY:=hD.below hbY;have hevY:=zaa hbY hev;have hslY:=zaa hbY hsl;refine⟨_,zac (zab fY) (i:=1) rfl,?_⟩;refine cmo (zsA hY) ?_;rintro e W ⟨rfl,hbW⟩;have hbX:Bw w W:=((zst hbw hbY)).trans (hbW.mono (Nat.le_trans hbw.size hbY.size));refine biE (fun hb=>?_) fun hb=>?_
   ·have hb:(!((okL p)[0]'(by show 0<6;decide)))=true:=hb;have hb:(okL p)[0]?=some false:=(by rw [gE (by show 0<6;decide)];exact congrArg some (by rw [<- Bool.not_not ((okL p)[0]'(by show 0<6;decide)),hb];rfl));refine⟨_,zac (zab (zaa hbW fY)) (i:=0) rfl,?_⟩;exact⟨70,rfl,⟨fun h=>absurd h (by decide),fun h=>by rw [hno hb] at h;cases h⟩,hbX⟩
   ·have hb:(!((okL p)[0]'(by show 0<6;decide)))=false:=hb;have hb:(okL p)[0]?=some true:=(by rw [gE (by show 0<6;decide)];exact congrArg some (by rw [<- Bool.not_not ((okL p)[0]'(by show 0<6;decide)),hb];rfl));refine⟨_,(zaj (by omega)).trans rfl,?_⟩;refine⟨1,(cvE rfl rfl),⟨by omega,fun i hi=>?_,hY.below hbW,zaa hbW hevY,zaa hbW hslY,hbX⟩,by decide⟩;by_cases hik:i=0
    ·rw [hik];exact hb
    ·exact hpre i (by omega)
  ·refine⟨1,rfl,by decide,?_⟩;refine⟨[i64 71,.func (.func 146) #[] #[At0 (L+1)]],rfl,zaC (n:=2) (m:=2) (zab hsl),hlt hsl,?_⟩;refine zak (X:=X) (v := .agg [i64 71,.func (.func 146) #[] #[At0 (L+1)]].toArray) k155 rfl rfl rfl fun Y hbY fY sY=>?_;have hY:=hD.below hbY;have hevY:=zaa hbY hev;have hslY:=zaa hbY hsl;refine⟨_,zac (zab fY) (i:=1) rfl,?_⟩;refine cmo (zsz hY) ?_;rintro e W ⟨rfl,hbW⟩;have hbX:Bw w W:=((zst hbw hbY)).trans (hbW.mono (Nat.le_trans hbw.size hbY.size));refine biE (fun hb=>?_) fun hb=>?_
   ·have hb:(!((okL p)[1]'(by show 1<6;decide)))=true:=hb;have hb:(okL p)[1]?=some false:=(by rw [gE (by show 1<6;decide)];exact congrArg some (by rw [<- Bool.not_not ((okL p)[1]'(by show 1<6;decide)),hb];rfl));refine⟨_,zac (zab (zaa hbW fY)) (i:=0) rfl,?_⟩;exact⟨71,rfl,⟨fun h=>absurd h (by decide),fun h=>by rw [hno hb] at h;cases h⟩,hbX⟩
   ·have hb:(!((okL p)[1]'(by show 1<6;decide)))=false:=hb;have hb:(okL p)[1]?=some true:=(by rw [gE (by show 1<6;decide)];exact congrArg some (by rw [<- Bool.not_not ((okL p)[1]'(by show 1<6;decide)),hb];rfl));refine⟨_,(zaj (by omega)).trans rfl,?_⟩;refine⟨2,(cvE rfl rfl),⟨by omega,fun i hi=>?_,hY.below hbW,zaa hbW hevY,zaa hbW hslY,hbX⟩,by decide⟩;by_cases hik:i=1
    ·rw [hik];exact hb
    ·exact hpre i (by omega)
  ·refine⟨2,rfl,by decide,?_⟩;refine⟨[i64 72,.func (.func 148) #[] #[At0 (L+1),At0 (L+2)]],rfl,zaC (n:=4) (m:=2) (zab hsl),hlt hsl,?_⟩;refine zak (X:=X) (v := .agg [i64 72,.func (.func 148) #[] #[At0 (L+1),At0 (L+2)]].toArray) k155 rfl rfl rfl fun Y hbY fY sY=>?_;have hY:=hD.below hbY;have hevY:=zaa hbY hev;have hslY:=zaa hbY hsl;refine⟨_,zac (zab fY) (i:=1) rfl,?_⟩;refine cmo (zsy hY hevY) ?_;rintro e W ⟨rfl,hbW⟩;have hbX:Bw w W:=((zst hbw hbY)).trans (hbW.mono (Nat.le_trans hbw.size hbY.size));refine biE (fun hb=>?_) fun hb=>?_
   ·have hb:(!((okL p)[2]'(by show 2<6;decide)))=true:=hb;have hb:(okL p)[2]?=some false:=(by rw [gE (by show 2<6;decide)];exact congrArg some (by rw [<- Bool.not_not ((okL p)[2]'(by show 2<6;decide)),hb];rfl));refine⟨_,zac (zab (zaa hbW fY)) (i:=0) rfl,?_⟩;exact⟨72,rfl,⟨fun h=>absurd h (by decide),fun h=>by rw [hno hb] at h;cases h⟩,hbX⟩
   ·have hb:(!((okL p)[2]'(by show 2<6;decide)))=false:=hb;have hb:(okL p)[2]?=some true:=(by rw [gE (by show 2<6;decide)];exact congrArg some (by rw [<- Bool.not_not ((okL p)[2]'(by show 2<6;decide)),hb];rfl));refine⟨_,(zaj (by omega)).trans rfl,?_⟩;refine⟨3,(cvE rfl rfl),⟨by omega,fun i hi=>?_,hY.below hbW,zaa hbW hevY,zaa hbW hslY,hbX⟩,by decide⟩;by_cases hik:i=2
    ·rw [hik];exact hb
    ·exact hpre i (by omega)
  ·refine⟨3,rfl,by decide,?_⟩;refine⟨[i64 73,.func (.func 150) #[] #[At0 (L+2),At0 (L+1)]],rfl,zaC (n:=6) (m:=2) (zab hsl),hlt hsl,?_⟩;refine zak (X:=X) (v := .agg [i64 73,.func (.func 150) #[] #[At0 (L+2),At0 (L+1)]].toArray) k155 rfl rfl rfl fun Y hbY fY sY=>?_;have hY:=hD.below hbY;have hevY:=zaa hbY hev;have hslY:=zaa hbY hsl;refine⟨_,zac (zab fY) (i:=1) rfl,?_⟩;refine cmo (zsx hY hevY) ?_;rintro e W ⟨rfl,hbW⟩;have hbX:Bw w W:=((zst hbw hbY)).trans (hbW.mono (Nat.le_trans hbw.size hbY.size));refine biE (fun hb=>?_) fun hb=>?_
   ·have hb:(!((okL p)[3]'(by show 3<6;decide)))=true:=hb;have hb:(okL p)[3]?=some false:=(by rw [gE (by show 3<6;decide)];exact congrArg some (by rw [<- Bool.not_not ((okL p)[3]'(by show 3<6;decide)),hb];rfl));refine⟨_,zac (zab (zaa hbW fY)) (i:=0) rfl,?_⟩;exact⟨73,rfl,⟨fun h=>absurd h (by decide),fun h=>by rw [hno hb] at h;cases h⟩,hbX⟩
   ·have hb:(!((okL p)[3]'(by show 3<6;decide)))=false:=hb;have hb:(okL p)[3]?=some true:=(by rw [gE (by show 3<6;decide)];exact congrArg some (by rw [<- Bool.not_not ((okL p)[3]'(by show 3<6;decide)),hb];rfl));refine⟨_,(zaj (by omega)).trans rfl,?_⟩;refine⟨4,(cvE rfl rfl),⟨by omega,fun i hi=>?_,hY.below hbW,zaa hbW hevY,zaa hbW hslY,hbX⟩,by decide⟩;by_cases hik:i=3
    ·rw [hik];exact hb
    ·exact hpre i (by omega)
  ·refine⟨4,rfl,by decide,?_⟩;refine⟨[i64 75,.func (.func 153) #[] #[At0 (L+1)]],rfl,zaC (n:=8) (m:=2) (zab hsl),hlt hsl,?_⟩;refine zak (X:=X) (v := .agg [i64 75,.func (.func 153) #[] #[At0 (L+1)]].toArray) k155 rfl rfl rfl fun Y hbY fY sY=>?_;have hY:=hD.below hbY;have hevY:=zaa hbY hev;have hslY:=zaa hbY hsl;refine⟨_,zac (zab fY) (i:=1) rfl,?_⟩;refine cmo (zsw hY) ?_;rintro e W ⟨rfl,hbW⟩;have hbX:Bw w W:=((zst hbw hbY)).trans (hbW.mono (Nat.le_trans hbw.size hbY.size));refine biE (fun hb=>?_) fun hb=>?_
   ·have hb:(!((okL p)[4]'(by show 4<6;decide)))=true:=hb;have hb:(okL p)[4]?=some false:=(by rw [gE (by show 4<6;decide)];exact congrArg some (by rw [<- Bool.not_not ((okL p)[4]'(by show 4<6;decide)),hb];rfl));refine⟨_,zac (zab (zaa hbW fY)) (i:=0) rfl,?_⟩;exact⟨75,rfl,⟨fun h=>absurd h (by decide),fun h=>by rw [hno hb] at h;cases h⟩,hbX⟩
   ·have hb:(!((okL p)[4]'(by show 4<6;decide)))=false:=hb;have hb:(okL p)[4]?=some true:=(by rw [gE (by show 4<6;decide)];exact congrArg some (by rw [<- Bool.not_not ((okL p)[4]'(by show 4<6;decide)),hb];rfl));refine⟨_,(zaj (by omega)).trans rfl,?_⟩;refine⟨5,(cvE rfl rfl),⟨by omega,fun i hi=>?_,hY.below hbW,zaa hbW hevY,zaa hbW hslY,hbX⟩,by decide⟩;by_cases hik:i=4
    ·rw [hik];exact hb
    ·exact hpre i (by omega)
  ·refine⟨5,rfl,by decide,?_⟩;refine⟨[i64 74,.func (.func 154) #[] #[At0 (L+1)]],rfl,zaC (n:=10) (m:=2) (zab hsl),hlt hsl,?_⟩;refine zak (X:=X) (v := .agg [i64 74,.func (.func 154) #[] #[At0 (L+1)]].toArray) k155 rfl rfl rfl fun Y hbY fY sY=>?_;have hY:=hD.below hbY;have hevY:=zaa hbY hev;have hslY:=zaa hbY hsl;refine⟨_,zac (zab fY) (i:=1) rfl,?_⟩;refine cmo (zsv hY) ?_;rintro e W ⟨rfl,hbW⟩;have hbX:Bw w W:=((zst hbw hbY)).trans (hbW.mono (Nat.le_trans hbw.size hbY.size));refine biE (fun hb=>?_) fun hb=>?_
   ·have hb:(!((okL p)[5]'(by show 5<6;decide)))=true:=hb;have hb:(okL p)[5]?=some false:=(by rw [gE (by show 5<6;decide)];exact congrArg some (by rw [<- Bool.not_not ((okL p)[5]'(by show 5<6;decide)),hb];rfl));refine⟨_,zac (zab (zaa hbW fY)) (i:=0) rfl,?_⟩;exact⟨74,rfl,⟨fun h=>absurd h (by decide),fun h=>by rw [hno hb] at h;cases h⟩,hbX⟩
   ·have hb:(!((okL p)[5]'(by show 5<6;decide)))=false:=hb;have hb:(okL p)[5]?=some true:=(by rw [gE (by show 5<6;decide)];exact congrArg some (by rw [<- Bool.not_not ((okL p)[5]'(by show 5<6;decide)),hb];rfl));refine⟨_,(zaj (by omega)).trans rfl,?_⟩;refine⟨6,(cvE rfl rfl),⟨by omega,fun i hi=>?_,hY.below hbW,zaa hbW hevY,zaa hbW hslY,hbX⟩,by decide⟩;by_cases hik:i=5
    ·rw [hik];exact hb
    ·exact hpre i (by omega)
 ·have hc:¬ (j:Int)<6:=dF hc;obtain rfl:j=6:=by omega
  exact⟨0,rfl,⟨fun _=>by rw [zm3];exact zk6 hpre rfl,fun _=>rfl⟩,hbw⟩
def ThrsW (B:Nat) (w:World) (p:Option Addr) (l:List (List InsD)):Prop:=∃ xs:List ThrR,xs.map (·.1)=l/\RowB thrE B w p xs/\∀ x∈xs,RowB insE B w x.2.1 x.1/\∀ a,x.2.1=some a->a.block<B
structure PrgX (B:Nat) (w:World) (vs:List Value) (p:Prg):Prop where
 v:PrgV B w vs p
 th:∃ p3 c3,vs[3]?=some (.slice p3 p.threads.length c3)/\ThrsW B w p3 p.threads
 init:∃ p2 c2,vs[2]?=some (.slice p2 p.init.length c2)/\RowB zaU B w p2 p.init
theorem ThrsW.below {B:Nat} {w w2:World} {p:Option Addr} {l:List (List InsD)} (h:ThrsW B w p l) (hb:Below B w w2):ThrsW B w2 p l:=by
 obtain⟨xs,h1,h2,h3⟩:=h;exact⟨xs,h1,h2.below hb,fun x hx=>⟨(h3 x hx).1.below hb,(h3 x hx).2⟩⟩
theorem PrgX.below {B:Nat} {w w2:World} {vs:List Value} {p:Prg} (h:PrgX B w vs p) (hb:Below B w w2):PrgX B w2 vs p:=by
 obtain⟨h1,⟨p3,c3,h2,h3⟩,⟨p2,c2,h4,h5⟩⟩:=h;exact⟨h1.below hb,⟨p3,c3,h2,h3.below hb⟩,⟨p2,c2,h4,h5.below hb⟩⟩
def ziD (threads:List (List InsD)) (vals:List UInt8):Bool :=
 decide (1<=vals.length)&&(decide (vals.length<=12)&&((threads.all fun l=>decide ((zdd l vals).length<=4096))&&(decide ((vals++threads.flatMap fun l=>zcr (zdd l vals)).length<=12)&&srt8 (vals++threads.flatMap fun l=>zcr (zdd l vals)))))
def zhP (threads:List (List InsD)) (vals:List UInt8):List UInt8:=ded (vals++threads.flatMap fun l=>zcr (zdd l vals))
def zlf (threads:List (List InsD)):Nat->List UInt8->Option (List UInt8)
 | 0,_=>none
 | n+1,vals=>if ziD threads vals=true then (if (zhP threads vals).length=vals.length then some vals else zlf threads n (zhP threads vals)) else none
structure RunK (l:List InsD) (R:RunD):Prop where
 m:R.many<=R.pc
 p:R.pc<=l.length
 d:∀ i,R.deps i<2^32
 c:R.ctl<2^32
 s:∀ i,R.data i<2^32/\R.ctrl i<2^32/\R.att i<2^32
theorem zs8 {n:Nat} (h:n<32):2^n<2^32:=Nat.pow_lt_pow_right (by decide) h
theorem zmg {f:Nat->Nat} {b:Nat} (h:∀ i,f i<b) {k v:Nat} (hv:v<b):∀ i,upd f k v i<b:=fun i=>by
 by_cases e:i=k
 ·rw [e,za6];exact hv
 ·rw [zcn _ _ e];exact h i
theorem RunK.emit {l:List InsD} {R:RunD} (h:RunK l R) {k a v m:UInt8} {d:Nat} (hd:d<2^32):(∀ i,(zfa R k a v m d).deps i<2^32)/\(zfa R k a v m d).ctl<2^32/\∀ i,(zfa R k a v m d).data i<2^32/\(zfa R k a v m d).ctrl i<2^32/\(zfa R k a v m d).att i<2^32:=by
 unfold zfa;exact⟨h.d,h.c,fun i=>⟨zmg (fun i=>(h.s i).1) hd i,zmg (fun i=>(h.s i).2.1) h.c i,(h.s i).2.2⟩⟩
theorem RunK.exec {l:List InsD} {R:RunD} {x:InsD} {v:UInt8} (h:RunK l R) (hx:ExOk x) (hp:R.pc<l.length) (h12:l.length<=12):RunK l (zbq R x v):=by
 obtain⟨e1,e2⟩:=zjR (R:=R) (v:=v) hx;have hm:=h.m;have hb:=zs8 (n:=R.many) (by omega);have hs:(∀ i,(zbq R x v).deps i<2^32)/\(zbq R x v).ctl<2^32/\∀ i,(zbq R x v).data i<2^32/\(zbq R x v).ctrl i<2^32/\(zbq R x v).att i<2^32:=by
  unfold zbq effR;rcases hx with ⟨ho,_⟩ | ⟨ho,_⟩ | ho
  ·rw [if_pos ho];have:=h.emit (k:=1) (a:=x.loc) (v:=v) (m:=x.mode) (d:=0) (by decide);exact⟨zmg this.1 hb,this.2.1,this.2.2⟩
  ·rw [if_neg (by rw [ho];decide),if_pos ho];refine h.emit (k:=2) (a:=x.loc) (v:=(valR x.ar x.an R).1) (m:=x.mode) ?_;unfold valR
   split
   ·exact h.d _
   ·exact (by decide:0<2^32)
  ·rw [if_neg (by rw [ho];decide),if_neg (by rw [ho];decide),if_neg (by rw [ho];decide),if_neg (by rw [ho];decide),if_neg (by rw [ho];decide),if_neg (by rw [ho];decide),if_pos ho];exact h.emit (k:=3) (a:=0) (v:=0) (m:=x.mode) (d:=0) (by decide)
 exact⟨by rw [e1,e2];omega,by rw [e1];omega,hs.1,hs.2.1,hs.2.2⟩
theorem RunK.go {l:List InsD} (h12:l.length<=12) (hx:∀ x∈l,ExOk x):∀ (n:Nat) (R:RunD),RunK l R->RunK l (goR l n R)
 | 0,R,h=>h
 | n+1,R,h=>by
  unfold goR
  split
  ·exact h
  ·rename_i x he
   split
   ·exact h
   ·have hp:=(List.getElem?_eq_some_iff.1 he).1;have hm:x∈l:=List.mem_of_getElem? he;exact RunK.go h12 hx n _ (h.exec (hx x hm) hp h12)
theorem RunK.spread {l:List InsD} {dom:List UInt8} (h12:l.length<=12) (hx:∀ x∈l,ExOk x):∀ (n:Nat) (R:RunD),RunK l R->∀ S∈zaW l dom n R,RunK l S
 | 0,R,h,S,hS=>by
  have hS:S∈[goR l l.length R]:=hS;rw [List.mem_singleton] at hS;rw [hS];exact RunK.go h12 hx _ _ h
 | n+1,R,h,S,hS=>by
  have hg:=RunK.go h12 hx l.length R h;unfold zaW at hS
  split at hS
  ·rw [List.mem_singleton] at hS;rw [hS];exact hg
  ·rename_i x he;obtain⟨v,_,hS⟩:=List.mem_flatMap.1 hS;have hp:=(List.getElem?_eq_some_iff.1 he).1;have hm:x∈l:=List.mem_of_getElem? he;exact RunK.spread h12 hx n _ (hg.exec (hx x hm) hp h12) S hS
theorem zny {l:List InsD} {dom:List UInt8} (h12:l.length<=12) (hx:∀ x∈l,ExOk x):∀ R∈zdd l dom,R.many<=24/\RunB R:=fun R hR=>by
 have h0:RunK l run0:=⟨Nat.le_refl _,Nat.zero_le _,fun _=>(by decide:0<2^32),(by decide:0<2^32),fun _=>⟨(by decide:0<2^32),(by decide:0<2^32),(by decide:0<2^32)⟩⟩;have h:=RunK.spread h12 hx _ _ h0 R hR;have:=h.m;have:=h.p;exact⟨by omega,fun i _=>h.s i⟩
theorem zmD {α:Type} {E:Enc α} {B:Nat} {w:World} {p:Option Addr} {l:List α} (h:RowB E B w p l) {i:Nat} (hi:i<l.length):∃ b o,p=some ⟨b,o,none⟩/\b<B/\∀ i (h:i<l.length),zax w ⟨b,o+i*E.sz,none⟩ (E.enc l[i]):=by
 obtain⟨b,o,hp,hat⟩:=h.get;rcases hp with hp | hp
 ·omega
 ·exact⟨b,o,hp,(hat i hi).1,fun j hj=>(hat j hj).2⟩
section
variable {B n:Nat} {p:Prg} {pc:List Value} {V:List UInt8} {w:World}
theorem zpi (hB:B<=w.heap.size) (hP:PrgX B w pc p) (hG:GlobE w) (hok:zjD p=true) (hx:∀ l∈p.threads,∀ x∈l,ExOk x) (h12:∀ l∈p.threads,l.length<=12) (hi1:1<=p.init.length) (hi12:p.init.length<=12) (his:srt8 p.init=true) (hQ:zlf p.threads n (ded p.init)=some V) :
  Calls Tryz.prog 81 #[.agg pc.toArray,i64 16] w fun e w'=>(∃ (q:Option Addr) (c:Nat),e = .returned (.tuple #[.slice q V.length c,i64 0])/\OwnS zaU 5 w.heap.size w' q c V)/\Bw w w':=by
 refine cofM 60 [.agg pc.toArray,i64 16] (.c .p (.s .p (.c .p .p))) Tryz.func81 ?_;obtain⟨L,hL⟩:=nm (w.heap.size);have hpc:=hP.v.size;have hthr:=hP.v.len.threads;refine⟨Unit,fun _=>⟨[(1,i64 16),(2,AtR L)],[]⟩,fun _ X=>X.heap[L]?=some (.cells pc.toArray 71 (0,0))/\Bw w X,⟨(),⟨.cons rfl (.cons (by rw [hL];rfl) .nil),rfl⟩,by rw [hL];exact hnew w _,(zba w _)⟩,?_⟩;rintro _ X ⟨f0,hbX⟩;refine brF ?_;refine brF ?_;refine⟨pc,hpc,zab f0,hlt f0,?_⟩;refine cmo (zob (Nat.le_trans hB hbX.size) (hP.v.below (hbX.mono hB)) (hG.c.below hbX)) ?_;rintro e Y ⟨m,rfl,hm,hbY⟩;have hm0:m=0:=hm.2 hok;subst hm0;refine brF ?_;have hwY:=zst hbX hbY;have f0:=zaa hbY f0;obtain⟨_,⟨p3,c3,h3,xs,hxs,hrow,hxr⟩,⟨p2,c2,h2,hinit⟩⟩:=hP;refine⟨Option Addr×Nat,fun s=>⟨[(1,i64 16),(2,AtR L),(6,.slice s.1 (ded p.init).length s.2)],[]⟩,fun s Z=>OwnS zaU 5 w.heap.size Z s.1 s.2 (ded p.init)/\Z.heap[L]?=some (.cells pc.toArray 71 (0,0))/\Bw w Z,?_,?_⟩
 ·refine⟨_,zac (zab f0) (i:=2) (by simpa using h2),?_⟩;refine cmo (zfA ((hinit.below (hwY.mono hB)).slr (Nat.le_trans hB hwY.size)) hi1 hi12 his) ?_;rintro e Z ⟨⟨q,c,rfl,ho⟩,hbZ⟩;exact⟨(q,c),(cvE rfl rfl),OwnS.lower ho hwY.size,zaa hbZ f0,(zst hwY hbZ)⟩
 rintro⟨q,c⟩ X ⟨ho,f0,hbX⟩;refine⟨Nat×List UInt8×Option Addr×Nat,fun s=>⟨[(1,i64 16),(2,AtR L),(6,.slice s.2.2.1 s.2.1.length s.2.2.2)],[]⟩,
  fun s Z=>zlf p.threads s.1 s.2.1=some V/\OwnS zaU 5 w.heap.size Z s.2.2.1 s.2.2.2 s.2.1/\Z.heap[L]?=some (.cells pc.toArray 71 (0,0))/\Bw w Z,fun s=>s.1,(n,ded p.init,q,c),
  (cvE rfl rfl),⟨hQ,ho,f0,hbX⟩,?_⟩
 rintro⟨k,vals,q,c⟩ X ⟨hQ,ho,f0,hbX⟩;dsimp only at hQ ho ⊢
 cases k with
 | zero=>cases hQ
 | succ k =>
 have hQ:(if ziD p.threads vals=true then (if (zhP p.threads vals).length=vals.length then some vals else zlf p.threads k (zhP p.threads vals)) else none)=some V:=hQ;have hr:ziD p.threads vals=true:=by
  cases h:ziD p.threads vals with
  | true=>rfl
  | false=>rw [h] at hQ;cases hQ
 rw [if_pos hr] at hQ;unfold ziD at hr;simp only [bAT,dE,List.all_eq_true] at hr;obtain⟨r1,r2,r3,r4,r5⟩:=hr;refine brN (decide_eq_false (by omega)) ?_;have hq0:q=none->c=0:=fun e=>by
  rcases ho.inv with ⟨_,h,_⟩ | ⟨g,_,h,_⟩
  ·exact h
  ·rw [e] at h;cases h
 have hqb:∀ a,q=some a->a.block<X.heap.size:=fun a ha=>(zdh ho ha).2.1;refine cmo (zld ho.row (by omega) hq0) ?_;rintro e Y ⟨⟨q1,k1,rfl,o1⟩,hbY⟩;have hwY:=zst hbX hbY;have f0Y:=zaa hbY f0;have hl3:xs.length=p.threads.length:=by rw [<- hxs,List.length_map]
 refine⟨_,zac (zab f0Y) (i:=3) (by simpa using h3),?_⟩;obtain⟨g,hg⟩:∃ g:List InsD->List UInt8,g=fun l=>zcr (zdd l vals):=⟨_,rfl⟩;rw [<- hg] at r4 r5;have hnx:zhP p.threads vals=ded (vals++p.threads.flatMap g):=by unfold zhP;rw [hg]
 refine⟨Nat×Option Addr×Nat,fun s=>⟨[(1,i64 16),(2,AtR L),(6,.slice q vals.length c),(7,.slice s.2.1 (vals++(p.threads.take s.1).flatMap g).length s.2.2),(33,.slice p3 p.threads.length c3),(34,i64 p.threads.length),(35,i64 (s.1:Nat))],[]⟩,
  fun s Z=>s.1<=p.threads.length/\OwnS zaU 5 X.heap.size Z s.2.1 s.2.2 (vals++(p.threads.take s.1).flatMap g)/\Bw X Z,fun s=>p.threads.length-s.1,(0,q1,k1),
  ⟨.cons rfl (.cons rfl (.cons rfl (.cons (by rw [List.take_zero,List.flatMap_nil,List.append_nil];rfl) (.cons rfl (.cons rfl (.cons rfl .nil)))))),rfl⟩,⟨Nat.zero_le _,by show OwnS zaU _ _ _ _ _ (vals++(p.threads.take 0).flatMap g);rw [List.take_zero,List.flatMap_nil,List.append_nil];exact o1,hbY⟩,?_⟩
 rintro⟨m,q1,k1⟩ Y ⟨hm,o1,hbY⟩;dsimp only at hm o1 ⊢;have hwY:=zst hbX hbY;have f0Y:=zaa hbY f0;have hXY:=hbY.size;have lenTake:∀ j,(vals++(p.threads.take j).flatMap g).length<=12:=fun j=>by
  have e:p.threads.flatMap g=(p.threads.take j).flatMap g++(p.threads.drop j).flatMap g:=by rw [<- List.flatMap_append,List.take_append_drop]
  rw [e,<- List.append_assoc,lap] at r4;omega
 refine biE (fun hc=>?_) fun hc=>?_
 ·have hc:(m:Int)<(p.threads.length:Int):=dT hc;have hmt:m<p.threads.length:=by omega
  have hmx:m<xs.length:=by omega
  obtain⟨b3,o3,hp3,hb3,hat3⟩:=zmD (hrow.below (hwY.mono hB)) hmx;have hB2:b3<Y.heap.size:=nL hb3 (Nat.le_trans hB hwY.size);have e3:some (Value.slice p3 p.threads.length c3)=some (Value.slice (some ⟨b3,o3,none⟩) p.threads.length c3):=by rw [hp3]
  subst hp3;refine⟨m,rfl,hmt,?_⟩;refine⟨thrV xs[m],by have:=zac (hat3 m hmx) (i:=0) (v:=thrV xs[m]) rfl;exact this,?_⟩;obtain⟨hrm,hrb⟩:=hxr _ (gM hmx);have hxm:xs[m].1=p.threads[m]:=by
   have:=congrArg (fun l=>l[m]?) hxs;simp only [List.getElem?_map,gE hmx,gE hmt,Option.map_some,Option.some.injEq] at this;exact this
  have hmem:=gM hmt;have ex:=hx _ hmem;have e12:=h12 _ hmem;have hxl:xs[m].1.length=p.threads[m].length:=by rw [hxm]
  have hw:=zog (w:=Y) (l:=p.threads[m]) (dom:=vals) (q:=xs[m].2.1) (p:=q) (cap:=xs[m].2.2) (cd:=c) (by rw [<- hxm];exact (hrm.below (hwY.mono hB)).slr (Nat.le_trans hB hwY.size)) (ho.row.below hbY) e12 ex (fun R hR=>(zny e12 ex R hR).1) (r3 _ hmem) (fun a ha=>nL (hrb a ha) (Nat.le_trans hB hwY.size)) (fun a ha=>nL (hqb a ha) hXY) (by omega);rw [<- hxl] at hw;have eg:zcr (zdd p.threads[m] vals)=g p.threads[m]:=by rw [hg]
  rw [eg] at hw;refine cmo hw ?_;rintro e Z ⟨⟨q2,k2,rfl,o2⟩,hbZ⟩;refine brF ?_;have tk:(p.threads.take (m+1)).flatMap g=(p.threads.take m).flatMap g++g p.threads[m]:=by
   rw [tsg hmt,List.flatMap_append,List.flatMap_cons,List.flatMap_nil,List.append_nil]
  have l1:=lenTake m;have l2:=lenTake (m+1);rw [tk,<- List.append_assoc,lap] at l2;have hXZ:=hbY.trans (hbZ.mono hXY);have hsZ:=hbZ.size;refine zih (E:=zaU) (T:=5) (B:=X.heap.size) (l:=vals++(p.threads.take m).flatMap g) (news:=g p.threads[m]) (cap:=k1) (m:=(g p.threads[m]).length) Tryz.underlying65 k5 rfl rfl rfl (o1.below hbZ) rfl o2.row (fun e=>by
   rcases o2.inv with ⟨_,h,_⟩ | ⟨g',_,h,_⟩
   ·exact h
   ·rw [e] at h;cases h) (by omega) (by omega) (by show ((vals++(p.threads.take m).flatMap g).length+(g p.threads[m]).length)*1<=_;omega) ?_
  intro q4 k4 U oU gU hbU;rw [List.append_assoc,<- tk] at oU ⊢;refine nxI (by omega) ?_;exact⟨(m+1,q4,k4),(cvE rfl rfl),⟨hmt,oU,hXZ.trans hbU⟩,zdc (by omega)⟩
 ·have hc:¬ (m:Int)<(p.threads.length:Int):=dF hc;obtain rfl:m=p.threads.length:=by omega
  rw [List.take_length] at o1 ⊢;refine cmo (zfA o1.row (by rw [lap];omega) r4 r5) ?_;rintro e Z ⟨⟨q2,k2,rfl,o2⟩,hbZ⟩;rw [<- hnx] at o2 ⊢;have hXZ:=hbY.trans (hbZ.mono hXY);have hwZ:=zst hbX hXZ;refine biE (fun he=>?_) fun he=>?_
  ·have he:(zhP p.threads vals).length=vals.length:=by
    have:=dT he;omega
   rw [if_pos he] at hQ;simp only [Option.some.injEq] at hQ;subst hQ;exact⟨⟨q,c,rfl,ho.below hXZ⟩,hwZ⟩
  ·have he:¬ (zhP p.threads vals).length=vals.length:=fun e=>(dF he) (by rw [e]);rw [if_neg he] at hQ;exact⟨(k,zhP p.threads vals,q2,k2),(cvE rfl rfl),⟨hQ,OwnS.lower o2 hwY.size,zaa hXZ f0,hwZ⟩,Nat.lt_succ_self k⟩
end
section
variable {w:World} {bP cv B:Nat} {pc:List Value} {qv:Option Addr} {V:List UInt8} {p:Prg}
theorem zqw (fP:w.heap[bP]?=some (.cells pc.toArray 71 (0,0))) (hB:B<=w.heap.size) (hP:PrgX B w pc p) (hil:p.locs.length=p.init.length) (hi6:p.init.length<=6) (hG:GlobE w) (hV:SlR zaU w qv V) (hv1:1<=V.length) (hv12:V.length<=12) (hvs:srt8 V=true) (hd12:(ded V).length<=12)
  (ht4:p.threads.length<=4) (hT:∀ l∈p.threads,ThrQ V l) (hall:∀ k,k<=p.threads.length->zeU ((p.threads.take k).map fun l=>(zaE V l).length)<=4096) (hpb:∀ l∈p.threads,∀ P∈zaE V l,PathB p.init.length P)
  (hsome:∀ ds∈zeI ((p.threads.map (zaE V)).map List.length),(mixR p.init (zeX (p.threads.map (zaE V)) ds)).isSome=true) :
  Calls Tryz.prog 82 #[At0 bP,.slice qv V.length cv] w fun e w'=>(∃ (ms:List MixX) (q:Option Addr) (c:Nat),e = .returned (.tuple #[.slice q ms.length c,.bool true])/\ms.map (·.m)=zm8 p.init (p.threads.map (zaE V))/\OwnS mixE 119 w.heap.size w' q c ms/\∀ x∈ms,NInM w.heap.size (fun k=>w.heap.size<=k) w' x)/\Bw w w':=by
 refine cofM 89 [At0 bP,.slice qv V.length cv] (.c .p (.c .p (.s .p (.s .p (.c .p (.c .p (.s .p .p))))))) Tryz.func82 ?_;obtain⟨L,hL⟩:=nm (w.heap.size);have hbP:=hlt fP;refine⟨Unit,fun _=>⟨[(1,.slice qv V.length cv),(2,At0 L),(4,At0 (L+1)),(5,At0 (L+2))],[]⟩,fun _ X=>X.heap[L]?=some (.cells #[At0 bP] 116 (0,0))/\X.heap[L+1]?=some (.cells #[.slice none 0 0] 113 (0,0))/\X.heap[L+2]?=some (.cells #[.bool false] 4 (0,0))/\X.heap.size=L+3/\Bw w X,?_,?_⟩
 ·have s1:=wz w (.cells #[At0 bP] 116);have h2:=hnew (w.alloc (.cells #[At0 bP] 116)) (.cells #[.slice none 0 0] 113);have s2:=wz (w.alloc (.cells #[At0 bP] 116)) (.cells #[.slice none 0 0] 113);have h3:=hnew ((w.alloc (.cells #[At0 bP] 116)).alloc (.cells #[.slice none 0 0] 113)) (.cells #[.bool false] 4);have s3:=wz ((w.alloc (.cells #[At0 bP] 116)).alloc (.cells #[.slice none 0 0] 113)) (.cells #[.bool false] 4);rw [s1] at h2 s2;rw [s2] at h3 s3;refine⟨(),⟨.cons rfl (.cons (by rw [hL];rfl) (.cons (by rw [hL,<- s1];rfl) (.cons (by rw [hL,<- s2];rfl) .nil))),rfl⟩,?_,?_,?_,?_,?_⟩
  ·rw [hL];exact hold _ (hold _ (hnew w _))
  ·rw [hL];exact hold _ h2
  ·rw [hL];exact h3
  ·rw [hL];exact s3
  ·exact (((zba w _)).alloc (by simp) _).alloc (by simp;omega) _
 rintro _ X ⟨f0,f1,f2,sX,hbX⟩;refine⟨Unit,fun _=>⟨[(1,.slice qv V.length cv),(2,At0 L),(4,At0 (L+1)),(5,At0 (L+2)),(6,At0 (L+3))],[]⟩,fun _ Y=>MxS w.heap.size Y L bP [] none 0 [] none 0/\Bw w Y,?_,?_⟩
 ·refine⟨(),⟨.cons rfl (.cons rfl (.cons rfl (.cons rfl (.cons (by rw [<- sX];rfl) .nil)))),rfl⟩,⟨hold _ f0,hold _ f1,hold _ f2,by rw [<- sX];exact hnew X _,OwnS.nil,OwnS.nil,fun z hz=>(by cases hz),fun z hz=>(by cases hz)⟩,hbX.alloc hbX.size _⟩
 clear f0 f1 f2 sX hbX;rintro _ X ⟨hS,hbX⟩;have hP0:=hP;obtain⟨_,⟨p3,c3,h3,xs,hxs,hrow,hxr⟩,⟨p2,c2,h2,hinit⟩⟩:=hP;have hxl:xs.length=p.threads.length:=by rw [<- hxs,List.length_map]
 refine⟨(List TpR×Option Addr×Nat)×Option Addr×Nat,fun s=>⟨[(2,At0 L),(4,At0 (L+1)),(5,At0 (L+2)),(6,At0 (L+3)),(7,.slice s.2.1 (p.threads.map fun l=>(zaE V l).length).length s.2.2)],[]⟩,fun s Z=>MxS w.heap.size Z L bP (p.threads.map fun l=>(zaE V l).length) s.2.1 s.2.2 s.1.1 s.1.2.1 s.1.2.2/\s.1.1.map (fun z=>z.1.map (·.1))=p.threads.map (zaE V)/\Bw w Z,?_,?_⟩
 ·refine⟨_,zac (zab hS.f0) (i:=0) rfl,?_⟩;refine⟨_,zac (zab (zaa hbX fP)) (i:=3) (by simpa using h3),?_⟩;refine⟨Nat×(List TpR×Option Addr×Nat)×Option Addr×Nat,fun s=>⟨[(1,.slice qv V.length cv),(2,At0 L),(4,At0 (L+1)),(5,At0 (L+2)),(6,At0 (L+3)),(7,.slice s.2.2.1 ((p.threads.take s.1).map fun l=>(zaE V l).length).length s.2.2.2),(8,i64 (zeU ((p.threads.take s.1).map fun l=>(zaE V l).length):Nat)),(23,.slice p3 p.threads.length c3),(24,i64 p.threads.length),(25,i64 (s.1:Nat))],[]⟩,
   fun s Z=>s.1<=p.threads.length/\MxS w.heap.size Z L bP ((p.threads.take s.1).map fun l=>(zaE V l).length) s.2.2.1 s.2.2.2 s.2.1.1 s.2.1.2.1 s.2.1.2.2/\s.2.1.1.map (fun z=>z.1.map (·.1))=(p.threads.take s.1).map (zaE V)/\Bw w Z,fun s=>p.threads.length-s.1,(0,([],none,0),none,0),
   (cvE rfl rfl),⟨Nat.zero_le _,hS,rfl,hbX⟩,?_⟩
  clear hS hbX;rintro⟨k,⟨ts,pT,cT⟩,ps,cs⟩ Z ⟨hk,hS,hz,hbZ⟩;dsimp only at hk hS hz ⊢;have hts:ts.length=k:=by
   have:=congrArg List.length hz;rw [List.length_map,List.length_map,List.length_take] at this;omega
  refine biE (fun hc=>?_) fun hc=>?_
  ·have hc:(k:Int)<(p.threads.length:Int):=dT hc;have hkl:k<p.threads.length:=by omega
   have hkx:k<xs.length:=by omega
   have hZs:=hbZ.size;obtain⟨l,hlk⟩:∃ l,p.threads[k]=l:=⟨_,rfl⟩;have hlm:l∈p.threads:=by rw [<- hlk];exact gM hkl
   have hQ:=hT l hlm;obtain⟨b3,o3,hp3,hb3,hat3⟩:=zmD (hrow.below (hbZ.mono hB)) hkx;have hB2:b3<Z.heap.size:=by omega
   have e3:some (Value.slice p3 p.threads.length c3)=some (Value.slice (some ⟨b3,o3,none⟩) p.threads.length c3):=by rw [hp3]
   subst hp3;refine⟨k,rfl,hkl,?_⟩;refine⟨thrV xs[k],by have:=zac (hat3 k hkx) (i:=0) (v:=thrV xs[k]) rfl;exact this,?_⟩;obtain⟨hrm,hrb⟩:=hxr _ (gM hkx);have hxm:xs[k].1=l:=by
    have:=congrArg (fun l=>l[k]?) hxs;simp only [List.getElem?_map,gE hkx,gE hkl,Option.map_some,Option.some.injEq] at this;rw [this,hlk]
   have hpt:(p.threads.take (k+1))=p.threads.take k++[l]:=by rw [tsg hkl,hlk]
   refine cmo (zrx (l:=xs[k].1) (vals:=V) ((hrm.below (hbZ.mono hB)).slr (by omega)) (hV.below hbZ) hv1 hv12 hvs (by rw [hxm];exact hQ.ex) (by rw [hxm];exact hQ.ok) (hG.below hbZ) (by rw [hxm];exact zny hQ.l12 hQ.ex) (by rw [hxm];exact hQ.m) (fun a ha=>by have:=hrb a ha;omega) hd12) ?_;rintro e Y ⟨⟨rk,pk,ck,rfl,hrk,ork,onk⟩,hbY⟩;rw [hxm] at hrk;have hrk:rk.map (·.1)=zaE V l:=hrk;have hrkl:rk.length=(zaE V l).length:=by rw [<- hrk,List.length_map]
   have hpl:(zaE V l).length<=4096:=by rw [List.length_map];exact hQ.m
   have hSY:=hS.below hbY;have hpr:=hall (k+1) hkl;have hpr0:=hall k (by omega);rw [hpt,List.map_append] at hpr;have hpr:zeU ((p.threads.take k).map (fun l=>(zaE V l).length)++[(zaE V l).length])<=4096:=hpr;rw [zhh,<- hrkl] at hpr;obtain⟨A,hA⟩:=nm (zeU ((p.threads.take k).map fun l=>(zaE V l).length));have hA2:zeU ((p.threads.take (k+1)).map fun l=>(zaE V l).length)=A*rk.length:=by
    rw [hpt,List.map_append];show zeU ((p.threads.take k).map (fun l=>(zaE V l).length)++[(zaE V l).length])=_;rw [zhh,<- hrkl,hA]
   rw [<- hA] at hpr hpr0 ⊢;obtain⟨nz,hnz⟩:∃ nz:TpR,nz=(rk,pk,ck):=⟨_,rfl⟩;have hen:[Value.slice pk rk.length ck]=tpE.enc nz:=by rw [hnz];rfl
   refine⟨((A*rk.length:Nat):Int),by rw [<- Int.natCast_mul];exact zaj (by omega),?_⟩;refine brF ?_;refine brN (decide_eq_false (by omega)) ?_;refine⟨_,zac (zab hSY.f3) (i:=0) rfl,?_⟩;refine⟨⟨by decide,by decide,rfl⟩,tpE.enc nz,by rw [<- hen];rfl,?_⟩;have hb1:Bw Y (Y.alloc (.cells (tpE.enc nz).toArray 160)):=zba _ _;have hS1:=hSY.below hb1;have ork1:=ork.below hb1;have onk1:=fun x hx=>(onk x hx).same (Z:=Y.alloc (.cells (tpE.enc nz).toArray 160)) fun {α E T c q l} _ ho=>ho.below hb1;unfold opsE zdl;show SatR _ _;refine appT hS1.rk (zbi tpE nz) (by have:=hb1.size;have:=hbY.size;omega) (by omega) fun p' c' U oU gU hat1=>?_;have f0U:=za0 hS1.f0 hS1.rk (by decide) gU;have f1U:=za0 hS1.f1 hS1.rk (by decide) gU;have f2U:=za0 hS1.f2 hS1.rk (by decide) gU;have f3U:=za0 hS1.f3 hS1.rk (by decide) gU;refine zar k159 f3U (o:=0) (v := .slice p' (ts++[nz]).length c') rfl rfl (by show 0<1;decide) rfl fun S fS gS sS=>?_;have hbZY:=hbZ.trans (hbY.mono hZs);have sY:=hbY.size;have sb1:=hb1.size;have hbU:Bw w U:=(hbZY.trans (hb1.mono (by omega))).trans (zbc hS1.rk (by omega) (Nat.le_refl _) gU);have hbS:Bw w S:=hbU.trans (zao gS hbU.size (by omega));have hSS:MxS w.heap.size S L bP ((p.threads.take k).map fun l=>(zaE V l).length) ps cs (ts++[nz]) p' c':=by
    have kU:∀ {α:Type} {E:Enc α} {T cc:Nat} {r:Option Addr} {ll:List α},T≠160->T≠159->OwnS E T w.heap.size (Y.alloc (.cells (tpE.enc nz).toArray 160)) r cc ll->OwnS E T w.heap.size S r cc ll:=fun {α E T cc r ll} h1 h2 h=>za2 (zcg h hS1.rk h1 gU) f3U h2 gS;have kB:∀ {b:Nat} {o:Obj},b≠L+3->U.heap[b]?=some o->S.heap[b]?=some o:=fun {b o} hb h=>(gS.block b (hlt h) (by simpa using hb)).trans h;have kP:∀ x:PthR,PthO w.heap.size (Y.alloc (.cells (tpE.enc nz).toArray 160)) x->PthO w.heap.size S x:=fun x hx=>hx.same fun {α E T c q l} ht ho=>kU (by rcases ht with rfl | rfl <;> decide) (by rcases ht with rfl | rfl <;> decide) ho;refine⟨kB (by omega) f0U,kB (by omega) f1U,kB (by omega) f2U,fS,kU (by decide) (by decide) hS1.own,za2 oU f3U (by decide) gS,fun z hz=>?_,fun z hz=>?_⟩
    ·rcases List.mem_append.1 hz with hz | hz
     ·exact kU (by decide) (by decide) (hS1.n1 z hz)
     ·rw [List.mem_singleton.1 hz,hnz];exact kU (by decide) (by decide) (ork1.lower hZs)
    ·rcases List.mem_append.1 hz with hz | hz
     ·exact fun x hx=>kP x (hS1.n2 z hz x hx)
     ·rw [List.mem_singleton.1 hz,hnz];exact fun x hx=>kP x ((onk1 x hx).mono hZs)
   clear hS1 ork1 onk1 hSY hS oU gU hat1 f0U f1U f2U f3U fS gS;refine⟨⟨by decide,by decide,rfl⟩,natE.enc rk.length,rfl,?_⟩;have hb2:Bw S (S.alloc (.cells (natE.enc rk.length).toArray 3)):=zba _ _;have hS2:=hSS.below hb2;have sbS:=hbS.size;have sb2:=hb2.size;unfold opsE zdl;show SatR _ _;refine appI hS2.own (zbi natE rk.length) (by omega) (by rw [List.length_map,List.length_take];omega) fun p2' c2' V' oV gV hat2=>?_;rw [zcN] at gV;have hSV:=hS2.size oV gV;have hzz:((p.threads.take k).map fun l=>(zaE V l).length)++[rk.length]=(p.threads.take (k+1)).map fun l=>(zaE V l).length:=by
    rw [hpt,List.map_append,hrkl];rfl
   rw [hzz] at hSV ⊢;refine nxI (by omega) ?_;refine⟨(k+1,(ts++[nz],p',c'),p2',c2'),⟨.cons rfl (.cons rfl (.cons rfl (.cons rfl (.cons rfl (.cons rfl (.cons (by show _=some (i64 (zeU ((p.threads.take (k+1)).map fun l=>(zaE V l).length):Nat));rw [hA2];rfl) (.cons rfl (.cons rfl (.cons rfl .nil))))))))),rfl⟩,⟨hkl,hSV,?_,hbS.trans ((hb2.mono sbS).trans (zbc hS2.own (by omega) (Nat.le_refl _) gV))⟩,zdc (by omega)⟩;rw [hpt,List.map_append,List.map_append,hz,hnz];show _++[rk.map (·.1)]=_++[zaE V l];rw [hrk]
  ·have hc:¬ (k:Int)<(p.threads.length:Int):=dF hc;obtain rfl:k=p.threads.length:=by omega
   rw [List.take_length] at hz hS ⊢;exact⟨((ts,pT,cT),ps,cs),(cvE rfl rfl),hS,hz,hbZ⟩
 rintro⟨⟨ts,pT,cT⟩,ps,cs⟩ X ⟨hS,hz,hbX⟩;dsimp only at hS hz ⊢;obtain⟨Q,hQ⟩:=nm (X.heap.size);refine⟨Unit,fun _=>⟨[(2,At0 L),(4,At0 (L+1)),(5,At0 (L+2)),(6,At0 (L+3)),(7,.slice ps (p.threads.map fun l=>(zaE V l).length).length cs),(13,At0 Q)],[]⟩,fun _ Z=>MxS w.heap.size Z L bP (p.threads.map fun l=>(zaE V l).length) ps cs ts pT cT/\Z.heap[Q]?=some (.cells #[.slice none 0 0] 113 (0,0))/\Z.heap.size=Q+1/\Bw w Z,?_,?_⟩
 ·refine⟨(),⟨.cons rfl (.cons rfl (.cons rfl (.cons rfl (.cons rfl (.cons (by rw [hQ];rfl) .nil))))),rfl⟩,hS.below ((zba X _)),by rw [hQ];exact hnew X _,by rw [hQ];exact wz _ _,hbX.alloc hbX.size _⟩
 have hQw:w.heap.size+4<=Q:=by have:=hlt hS.f3;omega
 clear hS hbX hQ;clear X;rintro _ X ⟨hS,fQ,sX,hbX⟩;obtain⟨Ts,hTs⟩:=nm (p.threads.map (zaE V));have hTl:Ts.length=p.threads.length:=by rw [hTs,List.length_map]
 have htl:ts.length=p.threads.length:=by have:=congrArg List.length hz;simpa using this
 have hsz:(p.threads.map fun l=>(zaE V l).length)=Ts.map List.length:=by rw [hTs,List.map_map];rfl
 rw [hsz] at hS ⊢;rw [<- hTs] at hsome hz ⊢;have hsl1:(Ts.map List.length).length<=1000:=by rw [List.length_map];omega
 have hsl2:∀ n∈Ts.map List.length,n<=1000000:=fun n hn=>by
  rw [hTs,List.map_map] at hn;obtain⟨l,hl,rfl⟩:=List.mem_map.1 hn;have:=(hT l hl).m;show ((zdd l (ded V)).map zfq).length<=_;rw [List.length_map];omega
 have hmemT:∀ z∈ts,∀ x∈z.1,PathB p.init.length x.1:=fun z hz' x hx=>by
  have h1:z.1.map (·.1)∈Ts:=by rw [<- hz];exact List.mem_map.2 ⟨z,hz',rfl⟩
  rw [hTs] at h1;obtain⟨l,hl,he⟩:=List.mem_map.1 h1;exact hpb l hl x.1 (by rw [he];exact List.mem_map.2 ⟨x,hx,rfl⟩)
 refine cmo zpy ?_;rintro e V1 ⟨rfl,fo,sV1,hbV1⟩;have hI:=zr2 fo (hS.own.row.below hbV1) (fun a ha=>by have:=(zav hS.own ha).2.1;omega) hsl1 hsl2;have hS1:=hS.below hbV1;have hb1:Bw w V1:=zst hbX hbV1;have hG0:Gath mixE 119 113 Q V1.heap.size Q V1 (NInM w.heap.size) [] (fun k=>k=Q) V1 :=
  ⟨Nat.le_refl _,rfl,fun k hk=>by omega,⟨none,0,zaa hbV1 fQ,OwnS.nil,fun a h=>by cases h⟩,fun x hx=>(by cases hx),Below.refl _ _⟩
 obtain⟨f,hf⟩:∃ f:List Nat->Option MixD,f=fun ds=>mixR p.init (zeX Ts ds):=⟨_,rfl⟩;have hmix:zm8 p.init Ts=(zeI (Ts.map List.length)).filterMap f:=by rw [hf];rfl
 refine zfH (sgOk _) rfl (lb := #[At0 X.heap.size]) rfl rfl hI (Nat.le_refl _) (fun k hk=>⟨?_,rfl⟩) (fun pre vs W ⟨l,q,_,h,_⟩=>by rw [h];rfl) (by decide)
  (fun k=>k=Q) (fun pre F Y=>∃ ms,(ms.map (·.m)=pre.filterMap f/\ms.length<=pre.length)/\Gath mixE 119 113 Q V1.heap.size Q V1 (NInM w.heap.size) ms F Y) (fun _ _ _ _=>False) (fun k hk=>?_) (Gath.iter (ziP _) (by omega)) (fun ex=>⟨fun _ _ _ _ h=>h.elim,fun _ _ _ _ h=>h.elim⟩) ⟨[],⟨rfl,Nat.zero_le _⟩,hG0⟩ ?_ ?_ ?_
 ·rcases hk with (rfl | ⟨a,ha,rfl⟩) | h
  ·omega
  ·have:=(zav hS.own ha).2.1;omega
  ·exact h.elim
 ·rcases hk with rfl | ⟨a,ha,rfl⟩
  ·omega
  ·obtain⟨_,_,cur,hc⟩:=zav hS.own ha;intro e;rw [e,fQ] at hc;simp at hc
 ·rintro yl pre ds vs F Y hyl hpre hJ0 ⟨l,qd,hlast,rfl,hsl,hcel⟩ hfy ⟨lo,hlo⟩;have hdx:ds=l:=by simpa using hlast
  subst hdx;refine⟨rfl,F,KeepsG.refl _ _,hJ0,?_⟩;rintro O Y2 hY2 ⟨ms,⟨hms,hml⟩,hG2⟩;have hslY:SlR natE Y2 qd ds:=by
   rw [hY2];refine zbk hsl fun a ha=>zag fun e=>?_;obtain⟨cur,hcur⟩:=hcel a ha;rw [e,hlo] at hcur
   cases hcur
  obtain⟨hdl,hdlt⟩:=znG (hpre.subset (List.mem_append_right _ (List.mem_singleton.2 rfl)));have hsome1:=hsome ds (hpre.subset (List.mem_append_right _ (List.mem_singleton.2 rfl)));rw [List.length_map] at hdl;have hY2s:=hG2.size;have old:∀ {k:Nat} {ob:Obj},k<Q->V1.heap[k]?=some ob->Y2.heap[k]?=some ob:=fun {k ob} hk h=>(hG2.old.block k hk).trans h;have g0:=old (by omega) hS1.f0;have g3:=old (by omega) hS1.f3;have kR:∀ {α:Type} {E:Enc α} {T cc:Nat} {r:Option Addr} {ll:List α},T≠113->OwnS E T w.heap.size X r cc ll->OwnS E T w.heap.size Y2 r cc ll:=fun {α E T cc r ll} hT h=>h.same fun a ha=>by
   have hq:a.block≠Q:=fun e=>by
    obtain⟨_,_,cur,hc⟩:=zav h ha;rw [e,fQ] at hc;simp at hc;exact hT hc.2.symm
   have:=(zav h ha).2.1;exact (hG2.old.block _ (by omega)).trans (hbV1.block _ this)
  have rkY:=kR (by decide) hS.rk;have n1Y:=fun z hz=>kR (by decide) (hS.n1 z hz);have n2Y:∀ z∈ts,∀ x∈z.1,PthO w.heap.size Y2 x:=fun z hz x hx=>(hS.n2 z hz x hx).same fun {α E T c q l} ht ho=>kR (by rcases ht with rfl | rfl <;> decide) ho;have fPY:Y2.heap[bP]?=some (.cells pc.toArray 71 (0,0)):=old (by omega) ((hb1.block bP hbP).trans fP);have hbwY:Bw w Y2:=hb1.trans (hG2.old.mono (by omega));refine⟨Nat×List PthR×Option Addr×Nat,fun s=>⟨[(2,At0 L),(6,At0 (L+3)),(13,At0 Q),(15,.slice s.2.2.1 s.2.1.length s.2.2.2),(58,.slice qd ds.length ds.length),(59,i64 ds.length),(60,i64 (s.1:Nat))],[]⟩,
   fun s Z=>s.1<=ds.length/\OwnS pthE 168 Y2.heap.size Z s.2.2.1 s.2.2.2 s.2.1/\s.2.1.map (·.1)=zeX (Ts.take s.1) (ds.take s.1)/\s.2.1.length=s.1/\(∀ x∈s.2.1,∃ z∈ts,x∈z.1)/\Bw Y2 Z,fun s=>ds.length-s.1,(0,[],none,0),
   (cvE rfl rfl),⟨Nat.zero_le _,OwnS.nil,by simp [zeX],rfl,fun x hx=>(by cases hx),Below.refl _ _⟩,?_⟩
  rintro⟨k,Cs,pC,cC⟩ Z ⟨hk,oC,hCs,hCl,hCm,hbZ⟩;dsimp only at hk oC hCs hCl hCm ⊢;have hZs:=hbZ.size;refine biE (fun hc=>?_) fun hc=>?_
  ·have hc:(k:Int)<(ds.length:Int):=dT hc;have hkl:k<ds.length:=by omega
   have hkt:k<ts.length:=by omega
   obtain⟨z,hzk⟩:∃ z,ts[k]=z:=⟨_,rfl⟩;have hzm:z∈ts:=by rw [<- hzk];exact gM hkt
   have hkT:k<Ts.length:=by omega
   have hzT:Ts[k]=z.1.map (·.1):=by
    have h1:Ts[k]?=some (z.1.map (·.1)):=(by rw [<- hz,List.getElem?_map,gE hkt,hzk];rfl);rw [gE hkT] at h1;exact Option.some.inj h1
   obtain⟨d,hd⟩:∃ d,ds[k]=d:=⟨_,rfl⟩;have hdz:d<z.1.length:=by
    have:=hdlt k (Ts[k].length) d (by rw [List.getElem?_map,gE hkT];rfl) (by rw [gE hkl,hd]);rw [hzT,List.length_map] at this;exact this
   obtain⟨x,hx⟩:∃ x,z.1[d]=x:=⟨_,rfl⟩;have hxm:x∈z.1:=by rw [<- hx];exact gM hdz
   have hpick:zeX (Ts.take (k+1)) (ds.take (k+1))=zeX (Ts.take k) (ds.take k)++[x.1]:=by
    rw [tsg hkT,tsg hkl,hd,hzT,zhi _ _ _ _ (by rw [List.length_take,List.length_take];omega),List.getElem?_map,gE hdz,hx];rfl
   obtain⟨bD,oD,hpD,hlD,hatD⟩:=(hslY.below hbZ).at hkl;obtain⟨bT,oT,hpT,hlT,hatT⟩:=(rkY.below hbZ).row.at hkt;obtain⟨bz,oz,hpz,hlz,hatz⟩:=((n1Y z hzm).below hbZ).row.at hdz;subst hpD;subst hpT;refine⟨k,rfl,hkl,?_⟩;refine⟨i64 d,by have:=zac (hatD k hkl) (i:=0) (v:=i64 d) (by rw [hd];rfl);exact this,?_⟩;refine⟨_,zac (zab (zaa hbZ g3)) (i:=0) rfl,?_⟩;refine⟨k,rfl,hkt,?_⟩;refine⟨.slice z.2.1 z.1.length z.2.2,by have:=zac (hatT k hkt) (i:=0) (v := .slice z.2.1 z.1.length z.2.2) (by rw [hzk];rfl);exact this,?_⟩;rw [hpz];refine⟨d,rfl,hdz,?_⟩;refine⟨pthE.enc x,pthE.len x,by rw [<- hx];exact hatz d hdz,hlz,?_⟩;refine⟨⟨by decide,by decide,rfl⟩,pthE.enc x,zcV (pthE.len x) rfl,?_⟩;have hb2:Bw Z (Z.alloc (.cells (pthE.enc x).toArray 168)):=zba _ _;have sb2:=hb2.size;unfold opsE zdl;show SatR _ _;refine appP (oC.below hb2) (zbi pthE x) (by omega) (by omega) fun p' c' U oU gU hat1=>?_;refine nxI (by omega) ?_;refine⟨(k+1,Cs++[x],p',c'),(cvE rfl rfl),⟨hkl,oU,by rw [List.map_append,hCs,hpick];rfl,by rw [lap,hCl];rfl,fun y hy=>?_,hbZ.trans ((hb2.mono hZs).trans (zbc (oC.below hb2) (by omega) (Nat.le_refl _) gU))⟩,zdc (by omega)⟩;rcases List.mem_append.1 hy with hy | hy
   ·exact hCm y hy
   ·rw [List.mem_singleton.1 hy];exact⟨z,hzm,hxm⟩
  have hc:¬ (k:Int)<(ds.length:Int):=dF hc;obtain rfl:k=ds.length:=by omega
  rw [List.take_length,List.take_of_length_le (by omega)] at hCs;obtain⟨q1,k1,q2,k2,q3,k3,q4,k4,hvs,_⟩:=hP0.v.h;have hpc1:pc[1]?=some (.slice q1 p.init.length k1):=by rw [hvs,<- hil];rfl
  have hZw:w.heap.size<=Z.heap.size:=by have:=hbwY.size;omega
  refine⟨_,zac (zab (zaa hbZ g0)) (i:=0) rfl,?_⟩;obtain⟨mx,hmx⟩:∃ mx,mixR p.init (Cs.map (·.1))=some mx:=by
   rw [hCs];exact Option.isSome_iff_exists.1 hsome1
  have hfd:f ds=some mx:=by rw [hf,<- hmx,hCs]
  refine cmo (zlV (zaa hbZ fPY) hpc1 h2 ((hinit.below (((zst hbwY hbZ)).mono hB)).slr (by omega)) hi6 oC.row (fun x hx=>?_) (fun x hx=>?_) (by omega)) ?_
  ·obtain⟨z,hz1,hx1⟩:=hCm x hx;obtain⟨o1,o2,o3,o4⟩:=n2Y z hz1 x hx1;refine⟨fun a ha=>?_,(o1.below hbZ).row,(o2.below hbZ).row,(o3.below hbZ).row,(o4.below hbZ).row⟩;rcases ha with ha | ha | ha
   ·exact (zav (o2.below hbZ) ha).2.1
   ·exact (zav (o3.below hbZ) ha).2.1
   ·exact (zav (o4.below hbZ) ha).2.1
  ·obtain⟨z,hz1,hx1⟩:=hCm x hx;exact hmemT z hz1 x hx1
  rintro e U ⟨⟨vs,hres⟩,hbU⟩;rw [hmx] at hres;obtain⟨rfl,x1,x2,x3,x4,y1,y2,y3,y4,xs',ys',hvs',m1,m2,m3,m4,m5,m6,m7,m8⟩:=hres;obtain⟨nx,hnx⟩:∃ nx:MixX,nx=⟨mx,x1,y1,x2,y2,x3,y3,x4,y4,xs',ys'⟩:=⟨_,rfl⟩;have hen:vs=mixE.enc nx:=by rw [hvs',hnx];rfl
  have hvl:vs.length=336:=by rw [hen];exact mixE.len nx
  have hv1:vs.all Value.oneCell'=true:=by rw [hen];exact zkC nx
  have hUs:=hbU.size;refine zak (X:=U) (v := .agg vs.toArray) k119 hvl zb7 hv1 fun V' hbV fV sV=>?_;have fV:V'.heap[U.heap.size]?=some (.cells vs.toArray 119 (0,0)):=fV;refine brF ?_;have hbY2V:Bw Y2 V':=(hbZ.trans (hbU.mono hZs)).trans (hbV.mono (by omega));obtain⟨pr,cr,h4,h5,h6⟩:=hG2.row;refine⟨_,zac (zab (zaa hbY2V h4)) (i:=0) rfl,?_⟩;refine⟨vs,hvl,zab fV,hlt fV,?_⟩;refine⟨⟨by decide,by decide,zb7⟩,mixE.enc nx,by rw [<- hen];exact zcV hvl zb7,?_⟩;have hpl:pre.length<1000000000:=by
   obtain⟨t,ht⟩:=hpre;have h7:(pre++[ds]++t).length=zbh (Ts.map List.length).reverse:=by
    rw [ht];unfold zeI;rw [List.length_map,List.length_range]
   have h8:zbh (Ts.map List.length).reverse<=4096:=by
    have h9:=hall p.threads.length (Nat.le_refl _);rw [List.take_length,hsz] at h9;rw [zmP];exact h9
   simp only [lap,List.length_cons] at h7;omega
  have hnw:∀ (G:Nat->Prop) (S:World),(∀ k,Y2.heap.size<=k->k<V'.heap.size->S.heap[k]?=V'.heap[k]?)->(∀ k,Y2.heap.size<=k->k<V'.heap.size->G k)->NInM w.heap.size G S nx:=by
   intro G S hs hg;have kp:∀ {α:Type} {E:Enc α} {T cc:Nat} {r:Option Addr} {ll:List α},OwnS E T Z.heap.size U r cc ll->RowIn E T w.heap.size G S r cc ll:=fun {α E T cc r ll} h=>by
    have ol:∀ a,r=some a->Y2.heap.size<=a.block/\a.block<V'.heap.size:=fun a ha=>⟨by have:=(zav h ha).1;omega,by have:=(zav h ha).2.1;omega⟩;exact⟨OwnS.lower ((h.below hbV).same fun a ha=>hs _ (ol a ha).1 (ol a ha).2) hZw,fun a ha=>hg _ (ol a ha).1 (ol a ha).2⟩
   rw [hnx];exact⟨m3,m6,kp m1,kp m2,kp m4,fun y hy=>kp (m5 y hy),kp m7,fun y hy=>kp (m8 y hy)⟩
  obtain⟨v,Y5,hrun,S,hrun2,F',hG',hK',hFF'⟩:=hG2.step (P:=Tryz.prog) (ty:=113) (cap1:=1) (ziP _) (by decide) Tryz.underlying113 k119 rfl rfl (by show _=336;exact zb7) k113 rfl (by omega) (Nat.le_refl _) hbY2V nx (by omega) (by show (ms.length+1)*2488<=_;omega) hnw pr cr h4;unfold opsE zdl;refine SatR.mk hrun ?_;refine SatR.mk hrun2 ?_;refine⟨F',⟨_,⟨?_,by rw [lap,lap];show ms.length+1<=pre.length+1;omega⟩,hG'⟩,hK'⟩;rw [List.map_append,List.filterMap_append,hms];show _++[nx.m]=_++List.filterMap f [ds];rw [show List.filterMap f [ds]=[mx] by rw [List.filterMap_cons,hfd];rfl,hnx]
 ·rintro D F Y hD hfD ⟨ms,⟨hms,hml⟩,hG⟩ hdef;obtain⟨pr,cr,h4,h5,h6⟩:=hG.row;have hYs:=hG.size;have old:∀ {k:Nat} {ob:Obj},k<Q->V1.heap[k]?=some ob->Y.heap[k]?=some ob:=fun {k ob} hk h=>(hG.old.block k hk).trans h;have g1:=old (by omega) hS1.f1;have g2:=old (by omega) hS1.f2;refine⟨_,zac (zab h4) (i:=0) rfl,?_⟩;refine zar k113 g1 (o:=0) (v := .slice pr ms.length cr) rfl rfl (by show 0<1;decide) rfl fun Z1 fZ1 gZ1 sZ1=>?_;refine zar k4 ((gZ1.block (L+2) (hlt g2) (by simp)).trans g2) (o:=0) (v := .bool true) rfl rfl (by show 0<1;decide) rfl fun Z2 fZ2 gZ2 sZ2=>?_;have k2:∀ k,k<Y.heap.size->k≠L+1->k≠L+2->Z2.heap[k]?=Y.heap[k]?:=fun k hk n1 n2=>(gZ2.block k (by rw [sZ1];exact hk) (by simpa using n2)).trans (gZ1.block k hk (by simpa using n1));refine⟨_,rfl,(k2 D (hlt hdef) (by omega) (by omega)).trans hdef,?_⟩;have f2':=(gZ2.block (L+1) (hlt fZ1) (by simp)).trans fZ1;have kp:∀ a:Addr,a.block≠L+1->a.block≠L+2->F a.block->a.block<Y.heap.size->(Z2.putObj D (.deferred none)).heap[a.block]?=Y.heap[a.block]?:=fun a n1 n2 h2 h3=>(zag fun e=>by rw [<- e] at hfD;exact hfD h2).trans (k2 _ h3 n1 n2);have hwY:=hb1.trans (hG.old.mono (by omega));have b2:=(hwY.trans (zao gZ1 hwY.size (by omega))).trans (zao gZ2 (by have:=hwY.size;omega) (by omega));have ne:∀ {α:Type} {E:Enc α} {T B' cc:Nat} {r:Option Addr} {ll:List α},T≠113->T≠4->OwnS E T B' Y r cc ll->∀ a,r=some a->a.block≠L+1/\a.block≠L+2:=fun {α E T B' cc r ll} t1 t2 h a ha=>by
   obtain⟨_,_,cur,hc⟩:=zav h ha;refine⟨fun e=>?_,fun e=>?_⟩
   ·rw [e,g1] at hc;simp at hc;exact t1 hc.2.symm
   ·rw [e,g2] at hc;simp at hc;exact t2 hc.2.symm
  refine⟨.slice pr ms.length cr,zac (zab ((zag (by omega)).trans f2')) (i:=0) rfl,.bool true,zac (zab ((zag (by omega)).trans fZ2)) (i:=0) rfl,⟨ms,pr,cr,rfl,by rw [hms,hmix],?_,fun x hx=>?_⟩,zbI b2 (by omega) _⟩
  ·exact OwnS.lower (h5.same fun a ha=>kp a (ne (by decide) (by decide) h5 a ha).1 (ne (by decide) (by decide) h5 a ha).2 (h6 a ha) (zav h5 ha).2.1) (by omega)
  ·exact (hG.nest x hx).same fun {α E T c q l} t1 t2 t3 hr=>⟨hr.own.same fun a ha=>kp a (ne t2 t3 hr.own a ha).1 (ne t2 t3 hr.own a ha).2 (hr.inF a ha) (zav hr.own ha).2.1,fun a ha=>(zav hr.own ha).1⟩
 ·rintro D ex pre F Y hD hfD hpre h;exact h.elim
end
abbrev zbY (p:Prg) (V:List UInt8):List MixD:=zm8 p.init (p.threads.map (zaE V))
def zcC (m:MixD):List ExD:=if cntR m 1=0 then [] else zhz m
abbrev zdV (p:Prg) (V:List UInt8):List ExD:=(zbY p V).flatMap zcC
structure CandQ (p:Prg) (n:Nat) (V:List UInt8) (most:Nat):Prop where
 ok:zjD p=true
 il:p.locs.length=p.init.length
 i1:1<=p.init.length
 i6:p.init.length<=6
 is:srt8 p.init=true
 vals:zlf p.threads n (ded p.init)=some V
 v1:1<=V.length
 v12:V.length<=12
 vs:srt8 V=true
 d12:(ded V).length<=12
 t4:p.threads.length<=4
 th:∀ l∈p.threads,ThrQ V l
 all:∀ k,k<=p.threads.length->zeU ((p.threads.take k).map fun l=>(zaE V l).length)<=4096
 pb:∀ l∈p.threads,∀ P∈zaE V l,PathB p.init.length P
 some:∀ ds∈zeI ((p.threads.map (zaE V)).map List.length),(mixR p.init (zeX (p.threads.map (zaE V)) ds)).isSome=true
 ml:(zbY p V).length<=5000
 mb:∀ m∈zbY p V,MixB m
 m20:most<=20000
 cnt:((zbY p V).map fun m=>cntR m 20001).sum<=most
 len:(zdV p V).length<=30000
theorem zoq {l:List Nat} (k:Nat):(l.take k).sum<=l.sum:=by
 have:l.sum=(l.take k).sum+(l.drop k).sum:=by rw [<- List.sum_append,List.take_append_drop]
 omega
theorem zrh {m:MixD} {xs ys:List NatL} {lim:Nat} (h1:xs.map (·.1)=m.rs.map (·.2)) (h2:ys.map (·.1)=m.wr):cntF lim (xs.map (·.1)) (ys.map (·.1))=cntR m lim:=by
 rw [h1,h2];rfl
section
variable {w:World} {B n most:Nat} {pc:List Value} {p:Prg} {V:List UInt8}
theorem zrI (hB:B<=w.heap.size) (hP:PrgX B w pc p) (hG:GlobE w) (hQ:CandQ p n V most) :
  Calls Tryz.prog 37 #[.agg pc.toArray,i64 most] w fun e w'=>(∃ (xs:List exE3) (q:Option Addr) (c:Nat),e = .returned (.tuple #[.slice q xs.length c,i64 0])/\xs.map (·.1)=zdV p V/\OwnS exE 34 w.heap.size w' q c xs/\∀ x∈xs,OwnS evE 54 w.heap.size w' x.2.1 x.2.2 x.1.ev)/\Bw w w':=by
 refine cofM 74 [.agg pc.toArray,i64 most] (.c .p (.s .p (.s .p (.s .p (.c .p (.s .p (.s .p (.c .p (.c .p (.c .p .p)))))))))) Tryz.func37 ?_;obtain⟨L,hL⟩:=nm (w.heap.size);have hpc:=hP.v.size;have hm20:=hQ.m20;refine⟨Unit,fun _=>⟨[(1,i64 most),(2,At0 L)],[]⟩,fun _ X=>X.heap[L]?=some (.cells pc.toArray 71 (0,0))/\L<X.heap.size/\Bw w X,⟨(),⟨.cons rfl (.cons (by rw [hL];rfl) .nil),rfl⟩,by rw [hL];exact hnew w _,by rw [hL];exact hlt (hnew w _),(zba w _)⟩,?_⟩;rintro _ X ⟨f0,sX,hbX⟩;refine brN (decide_eq_false (by omega)) ?_;refine brN (decide_eq_false (by omega)) ?_;refine⟨pc,hpc,zab f0,hlt f0,?_⟩;refine cmo (zob (Nat.le_trans hB hbX.size) (hP.v.below (hbX.mono hB)) (hG.c.below hbX)) ?_;rintro e Y ⟨m,rfl,hm,hbY⟩;have hm0:m=0:=hm.2 hQ.ok;subst hm0;refine brF ?_;have hwY:=zst hbX hbY;have f0:=zaa hbY f0;refine⟨pc,hpc,zab f0,hlt f0,?_⟩;refine cmo (zpi (Nat.le_trans hB hwY.size) (hP.below (hwY.mono hB)) (hG.below hwY) hQ.ok (fun l hl=>(hQ.th l hl).ex) (fun l hl=>(hQ.th l hl).l12) hQ.i1 (by have:=hQ.i6;omega) hQ.is hQ.vals) ?_;rintro e Z ⟨⟨qv,cv,rfl,oV⟩,hbZ⟩;refine brF ?_;have hwZ:=zst hwY hbZ;have f0:=zaa hbZ f0;clear hbX hbY hwY;obtain⟨V0,hV0⟩:=nm (V);refine⟨List MixX×Option Addr×Nat,fun s=>⟨[(1,i64 most),(8,.slice s.2.1 s.1.length s.2.2),(9,.bool true)],[]⟩,fun s U=>s.1.map (·.m)=zbY p V/\OwnS mixE 119 w.heap.size U s.2.1 s.2.2 s.1/\(∀ x∈s.1,NInM w.heap.size (fun k=>w.heap.size<=k) U x)/\Bw w U,?_,?_⟩
 ·refine cmo (zqw f0 (Nat.le_trans hB hwZ.size) (hP.below (hwZ.mono hB)) hQ.il hQ.i6 (hG.below hwZ) oV.row hQ.v1 hQ.v12 hQ.vs hQ.d12 hQ.t4 hQ.th hQ.all hQ.pb hQ.some) ?_;rintro e U ⟨⟨ms,q,c,rfl,hms,oM,nM⟩,hbU⟩;exact⟨(ms,q,c),(cvE rfl rfl),hms,oM.lower hwZ.size,fun x hx=>(nM x hx).lower hwZ.size,(zst hwZ hbU)⟩
 clear oV hbZ hwZ f0;rintro⟨ms,q,c⟩ X ⟨hms,oM,nM,hbX⟩;dsimp only at hms oM nM ⊢;refine brF ?_;have hml:ms.length<=5000:=by have:=hQ.ml;rw [<- hms,List.length_map] at this;exact this
 have hmb:∀ x∈ms,MixB x.m:=fun x hx=>hQ.mb x.m (by rw [<- hms];exact List.mem_map.2 ⟨x,hx,rfl⟩);have hsum:(ms.map fun x=>cntR x.m 20001).sum<=most:=by
  have:=hQ.cnt;rw [<- hms,List.map_map] at this;exact this
 have htake:∀ k,((ms.take k).map fun x=>cntR x.m 20001).sum<=most:=fun k=>by
  have:=zoq (l:=ms.map fun x=>cntR x.m 20001) k;rw [<- List.map_take] at this;omega
 obtain⟨tot,htot⟩:=nm ((ms.map fun x=>cntR x.m 20001).sum);have cnt:∀ {Z:World} {k lim:Nat} (hk:k<ms.length),OwnS mixE 119 w.heap.size Z q c ms->(∀ x∈ms,NInM w.heap.size (fun k=>w.heap.size<=k) Z x)->1<=lim->lim<=100000->∃ b o,q=some ⟨b,o,none⟩/\Calls Tryz.prog 83 #[.pointer (some ⟨b,o+k*336,none⟩),i64 lim] Z fun e w'=>e = .returned (i64 (cntR ms[k].m lim:Nat))/\Z=w':=fun {Z k lim} hk oM nM h1 h2=>by
  obtain⟨b,o,hq,hb,hat⟩:=oM.row.at hk;have hx:=nM ms[k] (gM hk);have hb1:=hmb ms[k] (gM hk);have hxl:ms[k].xs.length=ms[k].m.rs.length:=by have:=congrArg List.length hx.e2;simpa using this
  have hyl:ms[k].ys.length=ms[k].m.wr.length:=by have:=congrArg List.length hx.e3;simpa using this
  refine⟨b,o,hq,?_⟩;have:=zq7 (lim:=lim) (r := .slice ms[k].p1 ms[k].m.rs.length ms[k].c1) (hat k hk) hx.r2.own.row hx.r3.own.row (fun y hy=>?_) (fun y hy=>?_) (by have:=hb1.rl;omega) (by have:=hb1.wl;omega) h1 h2
  ·rw [zrh hx.e2 hx.e3] at this;exact this
  ·have h3:y.1∈ms[k].m.rs.map (·.2):=by rw [<- hx.e2];exact List.mem_map.2 ⟨y,hy,rfl⟩
   obtain⟨r,hr,he⟩:=List.mem_map.1 h3;rw [<- he];exact (hb1.rs r hr).2.1
  ·have h3:y.1∈ms[k].m.wr:=by rw [<- hx.e3];exact List.mem_map.2 ⟨y,hy,rfl⟩
   have:=(hb1.wr _ h3).1;omega
 refine⟨Unit,fun _=>⟨[(8,.slice q ms.length c),(10,i64 tot)],[]⟩,fun _ Z=>X=Z,?_,?_⟩
 ·refine⟨Nat,fun k=>⟨[(1,i64 most),(8,.slice q ms.length c),(10,i64 (((ms.take k).map fun x=>cntR x.m 20001).sum:Nat)),(40,i64 ms.length),(41,i64 (k:Nat))],[]⟩,
   fun k Z=>k<=ms.length/\X=Z,fun k=>ms.length-k,0,(cvE rfl rfl),⟨Nat.zero_le _,rfl⟩,?_⟩
  rintro k _ ⟨hk,rfl⟩;dsimp only;refine biE (fun hc=>?_) fun hc=>?_
  ·have hc:(k:Int)<(ms.length:Int):=dT hc;have hkl:k<ms.length:=by omega
   obtain⟨b,o,hq,hcall⟩:=cnt (lim:=20001) hkl oM nM (by decide) (by decide);have htk:((ms.take (k+1)).map fun x=>cntR x.m 20001).sum=((ms.take k).map fun x=>cntR x.m 20001).sum+cntR ms[k].m 20001:=by
    rw [tsg hkl,List.map_append,List.sum_append];show _+(cntR ms[k].m 20001+0)=_;rw [Nat.add_zero]
   have h1:=htake (k+1);subst hq;refine⟨k,rfl,hkl,?_⟩;refine cmo hcall ?_;rintro e _ ⟨rfl,rfl⟩;refine⟨((((ms.take (k+1)).map fun x=>cntR x.m 20001).sum:Nat):Int),?_,?_⟩
   ·rw [htk,Int.natCast_add];exact zaj (by omega)
   refine brN (decide_eq_false (by omega)) ?_;refine nxI (by omega) ?_;exact⟨k+1,(cvE rfl rfl),⟨hkl,rfl⟩,zdc (by omega)⟩
  ·have hc:¬ (k:Int)<(ms.length:Int):=dF hc;obtain rfl:k=ms.length:=by omega
   rw [List.take_length,<- htot];exact⟨(),(cvE rfl rfl),rfl⟩
 rintro _ _ rfl;have hXs:=hbX.size;refine⟨Option Addr×Nat,fun s=>⟨[(8,.slice q ms.length c),(12,.slice s.1 0 s.2)],[]⟩,fun s Z=>OwnS exE 34 X.heap.size Z s.1 s.2 []/\Bw X Z,?_,?_⟩
 ·refine ze2 (E:=exE) Tryz.underlying61 k34 rfl (by show _=333;exact zbK) rfl tot (by show 2416*tot<=_;omega) (by unfold maxLen;omega) fun Z oZ hbZ sZ=>?_;exact⟨(some ⟨X.heap.size,0,none⟩,tot),(cvE rfl rfl),oZ,hbZ⟩
 rintro⟨p0,c0⟩ Y ⟨oY,hbY⟩;dsimp only at oY ⊢;refine⟨List exE3×Option Addr×Nat,fun s=>⟨[(12,.slice s.2.1 s.1.length s.2.2)],[]⟩,fun s Z=>s.1.map (·.1)=zdV p V/\OwnS exE 34 X.heap.size Z s.2.1 s.2.2 s.1/\(∀ x∈s.1,OwnS evE 54 X.heap.size Z x.2.1 x.2.2 x.1.ev)/\Bw X Z,?_,?_⟩
 ·refine⟨Nat×List exE3×Option Addr×Nat,fun s=>⟨[(8,.slice q ms.length c),(12,.slice s.2.2.1 s.2.1.length s.2.2.2),(57,i64 ms.length),(58,i64 (s.1:Nat))],[]⟩,
   fun s Z=>s.1<=ms.length/\s.2.1.map (·.1)=(ms.take s.1).flatMap (fun x=>zcC x.m)/\OwnS exE 34 X.heap.size Z s.2.2.1 s.2.2.2 s.2.1/\(∀ x∈s.2.1,OwnS evE 54 X.heap.size Z x.2.1 x.2.2 x.1.ev)/\Bw X Z,fun s=>ms.length-s.1,(0,[],p0,c0),
   (cvE rfl rfl),⟨Nat.zero_le _,rfl,oY,fun x hx=>(by cases hx),hbY⟩,?_⟩
  clear oY hbY;rintro⟨k,outs,po,co⟩ Z ⟨hk,hou,oZ,nZ,hbZ⟩;dsimp only at hk hou oZ nZ ⊢;have hZs:=hbZ.size;have oMZ:OwnS mixE 119 w.heap.size Z q c ms:=oM.same fun a ha=>hbZ.block _ (zav oM ha).2.1;have nMZ:∀ x∈ms,NInM w.heap.size (fun k=>w.heap.size<=k) Z x:=fun x hx=>(nM x hx).same fun {α E T c q l} _ _ _ hr=>⟨hr.own.same fun a ha=>hbZ.block _ (zav hr.own ha).2.1,hr.inF⟩;refine biE (fun hc=>?_) fun hc=>?_
  ·have hc:(k:Int)<(ms.length:Int):=dT hc;have hkl:k<ms.length:=by omega
   obtain⟨b,o,hq,hcall⟩:=cnt (lim:=1) hkl oMZ nMZ (by decide) (by decide);obtain⟨x,hx⟩:∃ x,ms[k]=x:=⟨_,rfl⟩;have hxm:x∈ms:=by rw [<- hx];exact gM hkl
   have htk:(ms.take (k+1)).flatMap (fun x=>zcC x.m)=(ms.take k).flatMap (fun x=>zcC x.m)++zcC x.m:=by
    rw [tsg hkl,List.flatMap_append,hx,List.flatMap_cons,List.flatMap_nil,List.append_nil]
   rw [hx] at hcall;have hat:zax Z ⟨b,o+k*336,none⟩ (mixC x):=by
    obtain⟨b',o',hq',_,hat⟩:=oMZ.row.at hkl;rw [hq] at hq';have:=hat k hkl;simp only [Option.some.injEq,Addr.mk.injEq,and_true] at hq';rw [<- hx,hq'.1,hq'.2];exact this
   have hbX2:b<X.heap.size:=(zav oM hq).2.1;subst hq;refine⟨k,rfl,hkl,?_⟩;refine cmo hcall ?_;rintro e _ ⟨rfl,rfl⟩;refine biE (fun h=>?_) fun h=>?_
   ·have h:cntR x.m 1=0:=Int.ofNat.inj (dT h);have hc0:zcC x.m=[]:=if_pos h;rw [hc0,List.append_nil] at htk;refine nxI (by omega) ?_;exact⟨(k+1,outs,po,co),(cvE rfl rfl),⟨hkl,by rw [hou,htk],oZ,nZ,hbZ⟩,zdc (by omega)⟩
   have h:cntR x.m 1≠0:=fun e=>(dF h) (by rw [e];rfl);have hc1:zcC x.m=zhz x.m:=if_neg h;rw [hc1] at htk;refine⟨k,rfl,hkl,?_⟩;refine cmo zrk ?_;rintro e U ⟨rfl,fU,sU,hbU⟩;have hxM:=nMZ x hxm;have hxB:=hmb x hxm;obtain⟨Rd,hRd⟩:∃ Rd:Nat->Prop,Rd=fun k=>k<X.heap.size\/k=Z.heap.size:=⟨_,rfl⟩;have ltX:∀ {α:Type} {E:Enc α} {T cc:Nat} {r:Option Addr} {ll:List α},RowIn E T w.heap.size (fun k=>w.heap.size<=k) X r cc ll->∀ a,r=some a->Rd a.block:=fun {α E T cc r ll} h a ha=>by rw [hRd];exact .inl (zav h.own ha).2.1
   have hX:=nM x hxm;have hM:MixM Rd U b (o+k*336) x.m x.q x.c x.p1 x.p2 x.p3 x.c1 x.c2 x.c3 x.xs x.ys:=by
    have r:∀ {α:Type} {E:Enc α} {T cc:Nat} {r:Option Addr} {ll:List α},RowIn E T w.heap.size (fun k=>w.heap.size<=k) Z r cc ll->SlR E U r ll:=fun {α E T cc r ll} h=>(h.own.below hbU).row;refine⟨zae hbU hat,r hxM.ev,fun e=>?_,r hxM.r1,hxM.e2,r hxM.r2,fun y hy=>r (hxM.n2 y hy),hxM.e3,r hxM.r3,fun y hy=>r (hxM.n3 y hy),by rw [hRd];exact .inl hbX2,ltX hX.ev,ltX hX.r1,ltX hX.r2,ltX hX.r3,fun y hy=>ltX (hX.n2 y hy),fun y hy=>ltX (hX.n3 y hy)⟩;rcases hxM.ev.own.inv with ⟨_,h,_⟩ | ⟨g,cur,h,_⟩
    ·exact h
    ·rw [e] at h;cases h
   have hRl:∀ k,Rd k->k<U.heap.size:=fun k hk=>by
    rw [hRd] at hk;omega
   have hTU:Tz64M U:=hG.t64.below (hbX.trans ((hbZ.trans (hbU.mono hZs)).mono hXs));have htz:=zc1 hG.t64;have hI:=zrl hM fU (by rw [hRd];exact .inr rfl) hRl hTU (by rw [hRd];left;omega) hxB hxB.ev;have hln:outs.length+(zhz x.m).length<=30000:=by
    have h2:=hQ.len;have h3:(zdV p V)=ms.flatMap (fun x=>zcC x.m):=by
     show (zbY p V).flatMap zcC=_;rw [<- hms,List.flatMap_map]
    rw [h3] at h2;have h4:ms.flatMap (fun x=>zcC x.m)=(ms.take (k+1)).flatMap (fun x=>zcC x.m)++(ms.drop (k+1)).flatMap (fun x=>zcC x.m):=(by rw [<- List.flatMap_append,List.take_append_drop]);rw [h4,htk,<- hou,lap,lap,List.length_map] at h2;omega
   refine cmo (zj7 (oZ.below hbU) (fun y hy=>(nZ y hy).below hbU) (by omega) hI (Nat.le_refl _) (fun k hk=>⟨hRl k hk,rfl⟩) (fun k hk=>by rw [hRd] at hk;exact hk) fU (by omega) hln) ?_;rintro e T ⟨⟨new,pn,cn,rfl,hnew,oT,nT⟩,hbT⟩;refine nxI (by omega) ?_;exact⟨(k+1,outs++new,pn,cn),(cvE rfl rfl),⟨hkl,by rw [List.map_append,hou,hnew,htk],oT,nT,(hbZ.trans (hbU.mono hZs)).trans hbT⟩,zdc (by omega)⟩
  ·have hc:¬ (k:Int)<(ms.length:Int):=dF hc;obtain rfl:k=ms.length:=by omega
   rw [List.take_length] at hou;refine⟨(outs,po,co),(cvE rfl rfl),?_,oZ,nZ,hbZ⟩;rw [hou];show ms.flatMap _=(zbY p V).flatMap zcC;rw [<- hms,List.flatMap_map]
 rintro⟨outs,po,co⟩ Z ⟨hou,oZ,nZ,hbZ⟩;exact⟨⟨outs,po,co,rfl,hou,oZ.lower hXs,fun x hx=>(nZ x hx).lower hXs⟩,hbX.trans (hbZ.mono hXs)⟩
end
def zqW (x:InsD):Bool:=(decide (x.op=1)&&decide (x.dst.toNat<8))||((decide (x.op=2)&&(!x.ar||decide (x.an.toNat<8)))||decide (x.op=7))
theorem zqV {x:InsD} (h:zqW x=true):ExOk x:=by
 unfold zqW at h;simp only [Bool.or_eq_true,bAT,dE,Bool.not_eq_true'] at h;rcases h with ⟨h1,h2⟩ | ⟨h1,h2⟩ | h1
 ·exact .inl ⟨h1,h2⟩
 ·refine .inr (.inl ⟨h1,fun h=>?_⟩);rcases h2 with h2 | h2
  ·rw [h] at h2;cases h2
  ·exact h2
 ·exact .inr (.inr h1)
def zqs (locs:Nat) (P:PathD):Bool :=
 decide (P.ev.length<=24)&&((P.ev.all fun e => !(decide (e.k=1)||decide (e.k=2))||decide (e.l.toNat<locs))&&((P.data.all fun p=>decide (p.1<P.ev.length)&&decide (p.2<P.ev.length))&&((P.ctrl.all fun p=>decide (p.1<P.ev.length)&&decide (p.2<P.ev.length))&&((P.rmw.all fun p=>decide (p.1<P.ev.length)&&decide (p.2<P.ev.length)) &&
  (decide (P.data.length<=100000)&&(decide (P.ctrl.length<=100000)&&decide (P.rmw.length<=100000)))))))
theorem zoG {locs:Nat} {P:PathD} (h:zqs locs P=true):PathB locs P:=by
 unfold zqs at h;simp only [bAT,Bool.or_eq_true,dE,List.all_eq_true,Bool.not_eq_true',Bool.or_eq_false_iff,decide_eq_false_iff_not] at h;obtain⟨h1,h2,h3,h4,h5,h6,h7,h8⟩:=h;refine⟨h1,fun e he hk=>?_,h3,h4,h5,h6,h7,h8⟩;rcases h2 e he with h | h
 ·rcases hk with hk | hk
  ·exact (h.1 hk).elim
  ·exact (h.2 hk).elim
 ·exact h
def zhA (p:Prg) (n:Nat) (V:List UInt8) (most:Nat):Bool :=
 zjD p&&(decide (p.locs.length=p.init.length)&&(decide (1<=p.init.length)&&(decide (p.init.length<=6)&&(srt8 p.init&&(decide (zlf p.threads n (ded p.init)=some V)&&(decide (1<=V.length)&&(decide (V.length<=12)&&(srt8 V&&(decide ((ded V).length<=12)&&(decide (p.threads.length<=4) &&
  ((p.threads.all fun l=>decide (l.length<=12)&&(l.all zqW&&(zb0 l 6&&decide ((zdd l (ded V)).length<=4096)))) &&
   (((List.range (p.threads.length+1)).all fun k=>decide (zeU ((p.threads.take k).map fun l=>(zaE V l).length)<=4096)) &&
    ((p.threads.all fun l=>(zaE V l).all (zqs p.init.length)) &&
     (((zeI ((p.threads.map (zaE V)).map List.length)).all fun ds=>(mixR p.init (zeX (p.threads.map (zaE V)) ds)).isSome) &&
      (decide ((zbY p V).length<=5000)&&((zbY p V).all zqx&&(decide (most<=20000)&&(decide (((zbY p V).map fun m=>cntR m 20001).sum<=most)&&decide ((zdV p V).length<=30000)))))))))))))))))))
theorem zf8 {p:Prg} {n:Nat} {V:List UInt8} {most:Nat} (h:zhA p n V most=true):CandQ p n V most:=by
 unfold zhA at h;simp only [bAT,dE,List.all_eq_true,List.mem_range] at h;obtain⟨h1,h2,h3,h4,h5,h6,h7,h8,h9,h10,h11,h12,h13,h14,h15,h16,h17,h18,h19,h20⟩:=h;exact⟨h1,h2,h3,h4,h5,h6,h7,h8,h9,h10,h11,fun l hl=>⟨(h12 l hl).1,fun x hx=>zqV ((h12 l hl).2.1 x hx),(h12 l hl).2.2.1,(h12 l hl).2.2.2⟩,fun k hk=>h13 k (by omega),fun l hl P hP=>zoG (h14 l hl P hP),h15,h16,fun m hm=>zqy (h17 m hm),h18,h19,h20⟩
def stI (l v m:UInt8):InsD:=⟨2,0,l,false,v,false,0,0,m,0⟩
def ldI (d l m:UInt8):InsD:=⟨1,d,l,false,0,false,0,0,m,0⟩
def twoP (a b:List InsD):Prg:=⟨[116],[[120],[121]],[0,0],[a,b],1,.mk 0 0 0 0 []⟩
def sbP:Prg:=twoP [stI 0 1 0,ldI 0 1 0] [stI 1 1 0,ldI 0 0 0]
def mpP:Prg:=twoP [stI 0 1 0,stI 1 1 0] [ldI 1 1 0,ldI 0 0 0]
def raP:Prg:=twoP [stI 0 1 0,stI 1 1 2] [ldI 1 1 1,ldI 0 0 0]
def coP:Prg:=twoP [stI 0 1 0,ldI 0 0 0] []
theorem sb_q:zhA sbP 5 [0,1] 50=true:=by kernel_rfl
def zd6 (l:List ExD) (a b:UInt8):List ExD:=l.filter fun x=>decide (x.regs 0=a)&&decide (x.regs 8=b)
def zmx (x:ExD) (want:List UInt8):Bool:=(List.range want.length).all fun i=>decide (zgZ (i+1) x=(want.getD i 0).toNat)&&(zd5 (i+1) x == decide (want.getD i 0=0))
def exvB (x:ExD):Bool:=decide (x.ev.length<=20)&&(wrdB x.po&&(wrdB x.rf&&(wrdB x.co&&(wrdB x.dt&&(wrdB x.ct&&wrdB x.rm)))))
abbrev sbF:List ExD:=zd6 (zdV sbP [0,1]) 0 0
abbrev mpF:List ExD:=zd6 (zdV mpP [0,1]) 0 0
abbrev raF:List ExD:=zd6 (zdV raP [0,1]) 0 0
abbrev coF:List ExD:=zd6 (zdV coP [0,1]) 0 0
def zhf (l:List ExD) (i n:Nat) (want:List UInt8):Bool:=decide (l.length=n)&&(l.all exvB&&zmx (l.getD i (ex0 0)) want)
theorem mp_q:zhA mpP 5 [0,1] 50=true:=by kernel_rfl
theorem ra_q:zhA raP 5 [0,1] 50=true:=by kernel_rfl
theorem co_q:zhA coP 5 [0,1] 50=true:=by kernel_rfl
theorem zp7:zhf sbF 0 1 [0,3,0,0,0,0]=true:=by kernel_rfl
theorem zqv:zhf mpF 1 2 [0,3,3,0,0,0]=true:=by kernel_rfl
theorem zqm:zhf raF 1 2 [0,3,3,0,3,0]=true:=by kernel_rfl
theorem zrf:zhf coF 0 1 [1,1,1,1,1,1]=true:=by kernel_rfl
theorem zr5:(mpF.getD 1 (ex0 0)).regs 9=1:=by kernel_rfl
theorem zrW:(raF.getD 1 (ex0 0)).regs 9=1:=by kernel_rfl
section
variable {w:World}
theorem st_c {l v m:UInt8}:CB 52 #[u8 l,u8 v,u8 m] w (.agg (insE.enc (stI l v m)).toArray):=by
 refine cofM 12 [u8 l,u8 v,u8 m] (.c .p .p) Tryz.func52 ?_;obtain⟨L,hL⟩:=nm (w.heap.size);refine⟨Unit,fun _=>⟨[(0,u8 l),(1,u8 v),(2,u8 m),(6,At0 L)],[]⟩,fun _ X=>(∃ cs:Array Value,X.heap[L]?=some (.cells cs 59 (0,0))/\cs.size=10)/\Bw w X,⟨(),⟨.cons rfl (.cons rfl (.cons rfl (.cons (by rw [hL];rfl) .nil))),rfl⟩,⟨_,by rw [hL];exact hnew w _,by kernel_rfl⟩,(zba w _)⟩,?_⟩;rintro _ X ⟨⟨cs,f0,hcs⟩,hbX⟩;refine⟨[.bool false,u8 v],by kernel_rfl,?_⟩;refine⟨insE.enc (stI l v m),by kernel_rfl,?_⟩;refine zaq (v := .agg (insE.enc (stI l v m)).toArray) k59 f0 rfl hcs rfl ?_;exact⟨insE.enc (stI l v m),rfl,zab (zal f0),rfl,zah hbX (by omega) _⟩
theorem ld_c {d l m:UInt8}:CB 53 #[u8 d,u8 l,u8 m] w (.agg (insE.enc (ldI d l m)).toArray):=by
 refine cofM 11 [u8 d,u8 l,u8 m] (.c .p .p) Tryz.func53 ?_;obtain⟨L,hL⟩:=nm (w.heap.size);refine⟨Unit,fun _=>⟨[(0,u8 d),(1,u8 l),(2,u8 m),(6,At0 L)],[]⟩,fun _ X=>(∃ cs:Array Value,X.heap[L]?=some (.cells cs 59 (0,0))/\cs.size=10)/\Bw w X,⟨(),⟨.cons rfl (.cons rfl (.cons rfl (.cons (by rw [hL];rfl) .nil))),rfl⟩,⟨_,by rw [hL];exact hnew w _,by kernel_rfl⟩,(zba w _)⟩,?_⟩;rintro _ X ⟨⟨cs,f0,hcs⟩,hbX⟩;refine⟨insE.enc (ldI d l m),by kernel_rfl,?_⟩;refine zaq (v := .agg (insE.enc (ldI d l m)).toArray) k59 f0 rfl hcs rfl ?_;exact⟨insE.enc (ldI d l m),rfl,zab (zal f0),rfl,zah hbX (by omega) _⟩
theorem zon {la lb:List InsD} {pa pb:Option Addr} {ca cb:Nat} (ha:RowB insE w.heap.size w pa la) (hb:RowB insE w.heap.size w pb lb) (hla:la.length<=1000) (hlb:lb.length<=1000) (hpa:∀ a,pa=some a->a.block<w.heap.size) (hpb:∀ a,pb=some a->a.block<w.heap.size) :
  Calls Tryz.prog 51 #[.slice pa la.length ca,.slice pb lb.length cb] w fun e w'=>(∃ vs:List Value,e = .returned (.agg vs.toArray)/\PrgX w'.heap.size w' vs (twoP la lb))/\Bw w w':=by
 refine cofM 11 [.slice pa la.length ca,.slice pb lb.length cb] (.c .p .p) Tryz.func51 ?_;obtain⟨L,hL⟩:=nm (w.heap.size);refine⟨Unit,fun _=>⟨[(0,.slice pa la.length ca),(1,.slice pb lb.length cb),(4,At0 L)],[]⟩,fun _ X=>(∃ cs:Array Value,X.heap[L]?=some (.cells cs 71 (0,0))/\cs.size=10)/\X.heap.size=L+1/\Bw w X,⟨(),⟨.cons rfl (.cons rfl (.cons (by rw [hL];rfl) .nil)),rfl⟩,⟨_,by rw [hL];exact hnew w _,by kernel_rfl⟩,by rw [wz,hL],(zba w _)⟩,?_⟩;rintro _ W ⟨⟨cs,fL,hcs⟩,sW,hbW⟩;obtain⟨W1,hW1⟩:=nm (W.alloc (.cells #[strV [120],strV [121]] 9));obtain⟨W2,hW2⟩:=nm (W1.alloc (.cells #[u8 0,u8 0] 5));obtain⟨W3,hW3⟩:=nm (W2.alloc (.cells #[.slice pa la.length ca,.slice pb lb.length cb] 60));have hb1:Bw W W1:=by rw [hW1];exact (zba W _)
 have hb2:Bw W1 W2:=by rw [hW2];exact (zba W1 _)
 have hb3:Bw W2 W3:=by rw [hW3];exact (zba W2 _)
 have f1:W1.heap[W.heap.size]?=some (.cells #[strV [120],strV [121]] 9 (0,0)):=by rw [hW1];exact hnew W _
 have f2:W2.heap[W1.heap.size]?=some (.cells #[u8 0,u8 0] 5 (0,0)):=by rw [hW2];exact hnew W1 _
 have f3:W3.heap[W2.heap.size]?=some (.cells #[.slice pa la.length ca,.slice pb lb.length cb] 60 (0,0)):=by rw [hW3];exact hnew W2 _
 have s1:W1.heap.size=L+2:=by rw [hW1,wz,sW]
 have s2:W2.heap.size=L+3:=by rw [hW2,wz,s1]
 have s3:W3.heap.size=L+4:=by rw [hW3,wz,s2]
 refine⟨⟨by decide,by decide,rfl⟩,[strV [120],strV [121]],rfl,?_⟩;have hW1':W.alloc (.cells [strV [120],strV [121]].toArray 9)=W1:=hW1.symm;rw [hW1'];refine⟨⟨by decide,by decide,rfl⟩,[u8 0,u8 0],rfl,?_⟩;have hW2':W1.alloc (.cells [u8 0,u8 0].toArray 5)=W2:=hW2.symm;rw [hW2'];refine⟨⟨by decide,by decide,rfl⟩,[.slice pa la.length ca,.slice pb lb.length cb],rfl,?_⟩;have hW3':W2.alloc (.cells [.slice pa la.length ca,.slice pb lb.length cb].toArray 60)=W3:=hW3.symm;rw [hW3'];obtain⟨vs,hvs⟩:=nm (zcE (twoP la lb) (some ⟨W.heap.size,0,none⟩) 2 (some ⟨W1.heap.size,0,none⟩) 2 (some ⟨W2.heap.size,0,none⟩) 2 none 0);refine⟨vs,by rw [hvs];rfl,?_⟩;have hb12:=zst hb1 hb2;have hbW3:Bw W W3:=hb12.trans (hb3.mono (Nat.le_trans hb1.size hb2.size));have fL3:W3.heap[L]?=some (.cells cs 71 (0,0)):=zaa hbW3 fL;have hlen:vs.length=10:=by rw [hvs];rfl
 have hone:vs.all Value.oneCell'=true:=by rw [hvs];rfl
 refine zaq (v := .agg vs.toArray) k71 fL3 hlen hcs hone ?_;obtain⟨Y,hY⟩:=nm (W3.setRow L (Value.agg vs.toArray).cells);rw [<- hY];have fY:Y.heap[L]?=some (.cells vs.toArray 71 (0,0)):=by rw [hY];exact zal fL3
 have oY:∀ k,k≠L->Y.heap[k]?=W3.heap[k]?:=fun k hk=>by rw [hY];exact zan hk
 have sY:Y.heap.size=W3.heap.size:=by rw [hY];simp
 have bY:Bw w Y:=by rw [hY];exact zah ((zst hbW hbW3)) (by omega) _
 refine⟨vs,hlen,zab fY,⟨vs,rfl,?_⟩,bY⟩;have g1:Y.heap[W.heap.size]?=some (.cells #[strV [120],strV [121]] 9 (0,0)):=(oY _ (by omega)).trans (zaa hb3 (zaa hb2 f1));have g2:Y.heap[W1.heap.size]?=some (.cells #[u8 0,u8 0] 5 (0,0)):=(oY _ (by omega)).trans (zaa hb3 f2);have g3:Y.heap[W2.heap.size]?=some (.cells #[.slice pa la.length ca,.slice pb lb.length cb] 60 (0,0)):=(oY _ (by omega)).trans f3;have sY4:w.heap.size<=Y.heap.size:=bY.size;have r3:RowB thrE Y.heap.size Y (some ⟨W2.heap.size,0,none⟩) [(la,pa,ca),(lb,pb,cb)] := .inr ⟨W2.heap.size,0,rfl,hlt g3,zab g3⟩;have rows:∀ x∈[((la,pa,ca):ThrR),(lb,pb,cb)],RowB insE Y.heap.size Y x.2.1 x.1/\∀ a,x.2.1=some a->a.block<Y.heap.size:=by
  simp only [List.mem_cons,List.not_mem_nil,or_false,forall_eq_or_imp,forall_eq];exact⟨⟨(ha.below bY).mono sY4,fun a h=>nL (hpa a h) sY4⟩,(hb.below bY).mono sY4,fun a h=>nL (hpb a h) sY4⟩
 refine⟨⟨⟨by show 1<=_;decide,by show 2<=_;decide,fun s hs=>?_,by show 2<=_;decide,by show 2<=_;decide,fun l hl=>?_⟩,some ⟨W.heap.size,0,none⟩,2,some ⟨W1.heap.size,0,none⟩,2,some ⟨W2.heap.size,0,none⟩,2,none,0,hvs,?_,?_,?_,?_,?_⟩,?_,?_⟩
 ·have hs:s=[120]\/s=[121]:=by simpa [twoP] using hs
  rcases hs with rfl | rfl <;> decide
 ·have hl:l=la\/l=lb:=by simpa [twoP] using hl
  rcases hl with rfl | rfl <;> omega
 ·exact .inr ⟨W.heap.size,0,rfl,hlt g1,zab g1⟩
 ·exact .inr ⟨W1.heap.size,0,rfl,hlt g2,zab g2⟩
 ·exact⟨[(la,pa,ca),(lb,pb,cb)],rfl,r3,fun x hx=>(rows x hx).1⟩
 ·exact .mk none [] (by decide) 0 0 (.inl rfl) (fun _=>none) (fun _=>0) (fun i hi=>by simp at hi) (fun i hi=>by simp at hi)
 ·exact Nat.le_refl 2
 ·exact⟨some ⟨W2.heap.size,0,none⟩,2,by rw [hvs];rfl,[(la,pa,ca),(lb,pb,cb)],rfl,r3,rows⟩
 ·exact⟨some ⟨W1.heap.size,0,none⟩,2,by rw [hvs];rfl,.inr ⟨W1.heap.size,0,rfl,hlt g2,zab g2⟩⟩
end
theorem zh6 (x:ExD) (q:Option Addr) (c:Nat) {i:Nat} (hi:i<32):(exC x q c)[295+i]?=some (u8 (x.regs i)):=by
 obtain⟨A,T,hA,hE⟩:=znr x q c [];have:=hE x.regs;rw [List.append_nil] at this;show (exC { x with regs:=x.regs } q c)[295+i]?=_;rw [this,zbm hA,List.getElem?_append_left (by rw [zay];exact hi),zeP (n:=32) (fun i=>u8 (x.regs i)) hi]
section
variable {w:World} {B n:Nat} {pc:List Value} {p:Prg} {V:List UInt8} {a b:UInt8}
theorem zgM (l:List ExD) (x:ExD):zd6 (l++[x]) a b=zd6 l a b++if (decide (x.regs 0=a)&&decide (x.regs 8=b))=true then [x] else []:=by
 unfold zd6;rw [List.filter_append,List.filter_cons,List.filter_nil]
theorem zh4 (hB:B<=w.heap.size) (hP:PrgX B w pc p) (hG:GlobE w) (hQ:CandQ p n V 50) :
  Calls Tryz.prog 50 #[.agg pc.toArray,u8 a,u8 b] w fun e w'=>(∃ (xs:List exE3) (q:Option Addr) (c:Nat),e = .returned (.slice q xs.length c)/\xs.map (·.1)=zd6 (zdV p V) a b/\SlR exE w' q xs/\∀ x∈xs,SlR evE w' x.2.1 x.1.ev)/\Bw w w':=by
 refine cofM 45 [.agg pc.toArray,u8 a,u8 b] (.c .p (.c .p (.c .p (.c .p .p)))) Tryz.func50 ?_;obtain⟨L,hL⟩:=nm (w.heap.size);have hpc:=hP.v.size;refine⟨Unit,fun _=>⟨[(1,u8 a),(2,u8 b),(3,At0 L)],[]⟩,fun _ X=>X.heap[L]?=some (.cells pc.toArray 71 (0,0))/\Bw w X,⟨(),⟨.cons rfl (.cons rfl (.cons (by rw [hL];rfl) .nil)),rfl⟩,by rw [hL];exact hnew w _,(zba w _)⟩,?_⟩;rintro _ X ⟨f0,hbX⟩;refine⟨Unit,fun _=>⟨[(1,u8 a),(2,u8 b),(3,At0 L),(7,.slice none 0 0)],[]⟩,fun _ Y=>X=Y,⟨(),(cvE rfl rfl),rfl⟩,?_⟩;rintro _ _ rfl;have hXs:=hbX.size;refine⟨List exE3×Option Addr×Nat,fun s=>⟨[(1,u8 a),(2,u8 b),(7,.slice none 0 0),(8,.slice s.2.1 s.1.length s.2.2)],[]⟩,fun s Y=>s.1.map (·.1)=zdV p V/\OwnS exE 34 X.heap.size Y s.2.1 s.2.2 s.1/\(∀ x∈s.1,OwnS evE 54 X.heap.size Y x.2.1 x.2.2 x.1.ev)/\Bw w Y,?_,?_⟩
 ·refine⟨pc,hpc,zab f0,hlt f0,?_⟩;refine cmo (zrI (Nat.le_trans hB hXs) (hP.below (hbX.mono hB)) (hG.below hbX) hQ) ?_;rintro e Y ⟨⟨xs,q,c,rfl,h1,h2,h3⟩,hbY⟩;exact⟨(xs,q,c),(cvE rfl rfl),h1,h2,h3,hbX.trans (hbY.mono hXs)⟩
 rintro⟨xs,q,c⟩ Y ⟨hxs,oX,hev,hbY⟩;dsimp only at hxs oX hev ⊢;obtain⟨D,hD⟩:=nm (Y.heap.size);have hxl:xs.length<=30000:=by
  have:=congrArg List.length hxs;rw [List.length_map] at this;have:=hQ.len;omega
 refine⟨List exE3×Option Addr×Nat,fun s=>⟨[(7,.slice s.2.1 s.1.length s.2.2)],[]⟩,fun s Z=>s.1.map (·.1)=zd6 (zdV p V) a b/\(∀ x∈s.1,x∈xs)/\OwnS exE 34 D Z s.2.1 s.2.2 s.1/\Below D Y Z,?_,?_⟩
 ·refine⟨Nat×List exE3×Option Addr×Nat,fun s=>⟨[(1,u8 a),(2,u8 b),(7,.slice s.2.2.1 s.2.1.length s.2.2.2),(17,.slice q xs.length c),(18,i64 xs.length),(19,i64 (s.1:Nat))],[]⟩,
   fun s Z=>s.1<=xs.length/\s.2.1.map (·.1)=zd6 ((xs.take s.1).map (·.1)) a b/\(∀ x∈s.2.1,x∈xs)/\s.2.1.length<=s.1/\OwnS exE 34 D Z s.2.2.1 s.2.2.2 s.2.1/\Below D Y Z,fun s=>xs.length-s.1,(0,[],none,0),
   (cvE rfl rfl),⟨Nat.zero_le _,rfl,fun x hx=>(by cases hx),Nat.le_refl _,OwnS.nil,by rw [hD];exact Below.refl _ _⟩,?_⟩
  rintro⟨k,out,po,co⟩ Z ⟨hk,hout,hmem,hlo,oZ,hbZ⟩;dsimp only at hk hout hmem hlo oZ ⊢;have hZs:D<=Z.heap.size:=by have:=hbZ.size;omega
  refine biE (fun hc=>?_) fun hc=>?_
  ·have hc:(k:Int)<(xs.length:Int):=dT hc;have hkl:k<xs.length:=by omega
   obtain⟨bx,ox,hq,hbx,hat⟩:=oX.row.at hkl;obtain⟨y,hy⟩:∃ y,xs[k]=y:=⟨_,rfl⟩;have hym:y∈xs:=by rw [<- hy];exact gM hkl
   have htk:(xs.take (k+1)).map (·.1)=(xs.take k).map (·.1)++[y.1]:=by rw [tsg hkl,hy,List.map_append];rfl
   have hatk:=hat k hkl;rw [hy] at hatk;have hatk:zax Y ⟨bx,ox+k*333,none⟩ (exC y.1 y.2.1 y.2.2):=hatk;subst hq;refine⟨k,rfl,hkl,?_⟩;refine⟨exC y.1 y.2.1 y.2.2,zat _ _ _,zaA hbZ (by show bx<D;omega) hatk,by show bx<_;omega,?_⟩;refine zak (X:=Z) (v := .agg (exC y.1 y.2.1 y.2.2).toArray) k34 (zat _ _ _) zbK (zdp _ _ _) fun U hbU fU sU=>?_;have fU:ExH U Z.heap.size y.1 y.2.1 y.2.2:=fU;have oU:=oZ.below hbU;have hbU2:=hbZ.trans (hbU.mono hZs);have hUs:D<=U.heap.size:=by omega
   have e0:(exC y.1 y.2.1 y.2.2)[295]?=some (u8 (y.1.regs 0)):=zh6 y.1 y.2.1 y.2.2 (i:=0) (by decide);have e8:(exC y.1 y.2.1 y.2.2)[303]?=some (u8 (y.1.regs 8)):=zh6 y.1 y.2.1 y.2.2 (i:=8) (by decide);have skip:(decide (y.1.regs 0=a)&&decide (y.1.regs 8=b))=false->(k+1<=xs.length/\out.map (·.1)=zd6 ((xs.take (k+1)).map (·.1)) a b/\(∀ x∈out,x∈xs)/\out.length<=k+1/\OwnS exE 34 D U po co out/\Below D Y U):=fun h =>
    ⟨hkl,by rw [htk,zgM,h,hout];simp,hmem,by omega,oU,hbU2⟩
   refine⟨0,rfl,by decide,?_⟩;refine⟨0,rfl,by decide,?_⟩;refine⟨u8 (y.1.regs 0),zac (zab fU) e0,?_⟩;refine biE (fun h1=>?_) fun h1=>?_
   ·have h1:y.1.regs 0=a:=zbj.1 (dT h1);refine⟨1,rfl,by decide,?_⟩;refine⟨0,rfl,by decide,?_⟩;refine⟨u8 (y.1.regs 8),zac (zab fU) e8,?_⟩;refine biE (fun h2=>?_) fun h2=>?_
    ·have h2:y.1.regs 8=b:=zbj.1 (dT h2);have hp:(decide (y.1.regs 0=a)&&decide (y.1.regs 8=b))=true:=(by rw [decide_eq_true h1,decide_eq_true h2];rfl);refine⟨exC y.1 y.2.1 y.2.2,zat _ _ _,zab fU,hlt fU,?_⟩;refine⟨⟨by decide,by decide,zbK⟩,exE.enc y,zcV (zat _ _ _) zbK,?_⟩;have hb2:Bw U (U.alloc (.cells (exE.enc y).toArray 34)):=zba _ _;have sb2:=hb2.size;unfold opsE zdl;show SatR _ _;refine zbJ Tryz.underlying61 k34 rfl rfl zbK (oU.below hb2) (news:=[y]) rfl (zbi exE y) (by omega) (by show out.length+1<=_;omega) (by show (out.length+1)*2416<=_;omega) fun p' c' S oS gS hbS hat2=>?_;refine nxI (by omega) ?_;exact⟨(k+1,out++[y],p',c'),(cvE rfl rfl),⟨hkl,by rw [htk,zgM,if_pos hp,List.map_append,hout];rfl,fun x hx=>(by
      rcases List.mem_append.1 hx with h | h
      ·exact hmem x h
      ·rw [List.mem_singleton.1 h];exact hym),by rw [lap];show _+1<=_;omega,oS,(hbU2.trans (hb2.mono hUs)).trans hbS⟩,zdc (by omega)⟩
    ·have h2:¬ y.1.regs 8=b:=fun e2=>(dF h2) (by rw [e2]);refine nxI (by omega) ?_;exact⟨(k+1,out,po,co),(cvE rfl rfl),skip (by rw [decide_eq_false h2,Bool.and_false]),zdc (by omega)⟩
   ·have h1:¬ y.1.regs 0=a:=fun e2=>(dF h1) (by rw [e2]);refine brF ?_;refine nxI (by omega) ?_;exact⟨(k+1,out,po,co),(cvE rfl rfl),skip (by rw [decide_eq_false h1];rfl),zdc (by omega)⟩
  ·have hc:¬ (k:Int)<(xs.length:Int):=dF hc;obtain rfl:k=xs.length:=by omega
   rw [List.take_length,hxs] at hout;exact⟨(out,po,co),(cvE rfl rfl),hout,hmem,oZ,hbZ⟩
 rintro⟨out,po,co⟩ Z ⟨hout,hmem,oZ,hbZ⟩;dsimp only at hout hmem oZ ⊢;have hwY:=hbY.size;exact⟨⟨out,po,co,rfl,hout,oZ.row,fun x hx=>((hev x (hmem x hx)).below (hbZ.mono (by omega))).row⟩,hbY.trans (hbZ.mono (by omega))⟩
end
theorem zpr (u:Nat):IntKind.u8.wrap (u:Int)=((UInt8.ofNat u).toNat:Int):=by
 have:=UInt8.toNat_ofNat' (n:=u);simp [IntKind.wrap,IntKind.bits,IntKind.signed] at this ⊢
 try omega
theorem zo9 (d:Nat) (a b:Bool) (w:World):(Op.equalIn (d+1) 4 (.bool a) (.bool b)).run Tryz.prog w = .ok (decide (a=b)) w:=by
 simp only [Op.equalIn,Sem.run_bind,run_underlying Tryz.underlying4,Result.andThen_ok,Sem.run_pure]
 cases a <;> cases b <;> rfl
theorem zm7 (x y:Operand) (a b:Bool) (w:World):(do eqGuard .neq 4 x y (.bool a) (.bool b);binOp .neq 4 (.bool a) (.bool b)).run Tryz.prog w = .ok (.bool (!decide (a=b))) w:=by
 have h:(Op.equal 4 (.bool a) (.bool b)).run Tryz.prog w = .ok (decide (a=b)) w:=zo9 9999 a b w;have h1:(eqGuard .neq 4 x y (.bool a) (.bool b)).run Tryz.prog w = .ok () w:=rfl;rw [Sem.run_bind,h1];simp only [Result.andThen_ok,binOp,Sem.run_bind,h,Sem.run_pure]
section
variable {w:World} {c cw:Nat} {x:ExD} {q pw:Option Addr} {ws:List UInt8}
theorem zov (h:zmx x ws=true) {i:Nat} (hi:i<ws.length):zgZ (i+1) x=ws[i].toNat/\zd5 (i+1) x=decide (ws[i]=0):=by
 unfold zmx at h;rw [List.all_eq_true] at h;have:=h i (List.mem_range.2 hi);rw [bAT,dE,beq_iff_eq,gDe,gE hi] at this;exact this
theorem zkg (hv:ExV w x q) (hT:Tz64M w) (hw:SlR zaU w pw ws) (hs:zmx x ws=true) (h6:ws.length<=6):CB 54 #[.agg (exC x q c).toArray,.slice pw ws.length cw] w (.bool true):=by
 refine cofM 32 [.agg (exC x q c).toArray,.slice pw ws.length cw] (.c .p (.c .p .p)) Tryz.func54 ?_;obtain⟨L,hL⟩:=nm (w.heap.size);refine⟨Unit,fun _=>⟨[(1,.slice pw ws.length cw),(2,At0 L)],[]⟩,fun _ X=>ExH X L x q c/\Bw w X,⟨(),⟨.cons rfl (.cons (by rw [hL];rfl) .nil),rfl⟩,by rw [hL];exact hnew w _,(zba w _)⟩,?_⟩;rintro _ X ⟨fX,hbX⟩;refine⟨Unit,fun _=>⟨[],[]⟩,fun _ Y=>Bw w Y,?_,?_⟩
 ·refine⟨Nat,fun k=>⟨[(2,At0 L),(7,.slice pw ws.length cw),(8,i64 ws.length),(9,i64 (k:Nat))],[]⟩,fun k Y=>k<=ws.length/\ExH Y L x q c/\Bw w Y,fun k=>ws.length-k,0,
   (cvE rfl rfl),⟨Nat.zero_le _,fX,hbX⟩,?_⟩
  clear fX hbX;rintro k Y ⟨hk,fY,hbY⟩;dsimp only;refine biE (fun hc=>?_) fun hc=>?_
  ·have hc:(k:Int)<(ws.length:Int):=dT hc;have hkl:k<ws.length:=by omega
   obtain⟨h1,h2⟩:=zov hs hkl;obtain⟨bw,ow,hq,hbw,hat⟩:=(hw.below hbY).at hkl;obtain⟨v,hv2⟩:∃ v,ws[k]=v:=⟨_,rfl⟩;have hatk:=hat k hkl;rw [hv2] at hatk h1 h2;have hm:(UInt8.ofNat (k+1)).toNat=k+1:=by
    rw [UInt8.toNat_ofNat'];exact Nat.mod_eq_of_lt (by omega)
   subst hq;refine⟨k,rfl,hkl,?_⟩;refine⟨u8 v,by have:=zac hatk (i:=0) (v:=u8 v) rfl;exact this,?_⟩;refine nxI (by omega) ?_;refine⟨((UInt8.ofNat (k+1)).toNat:Int),zpr _,?_⟩;refine⟨exC x q c,zat _ _ _,zab fY,hlt fY,?_⟩;refine cmo (zim (m:=UInt8.ofNat (k+1)) (hv.below hbY) (hT.below hbY)) ?_;rintro e Z ⟨rfl,hbZ⟩;rw [hm,h1];have bZ:=zst hbY hbZ;have fZ:=zaa hbZ fY;have hvv:UInt8.ofNat v.toNat=v:=UInt8.ofNat_toNat;rw [hvv];refine biE (fun h=>?_) fun _=>?_
   ·have h:(!decide ((v.toNat:Int)=(v.toNat:Int)))=true:=h;rw [decide_eq_true rfl] at h
    cases h
   refine nxI (by omega) ?_;refine⟨((UInt8.ofNat (k+1)).toNat:Int),zpr _,?_⟩;refine⟨exC x q c,zat _ _ _,zab fZ,hlt fZ,?_⟩;refine cmo (zj4 (m:=UInt8.ofNat (k+1)) (hv.below bZ) (hT.below bZ)) ?_;rintro e V ⟨rfl,hbV⟩;rw [hm,h2];have e0:decide (v=0)=decide ((v.toNat:Int)=0):=decide_eq_decide.2 (zbj (x:=v) (y:=0)).symm;rw [e0];refine⟨_,fun w=>zm7 _ _ _ _ w,?_⟩;refine biE (fun h=>?_) fun _=>?_
   ·have h:(!decide (decide ((v.toNat:Int)=0)=decide ((v.toNat:Int)=0)))=true:=h;rw [decide_eq_true rfl] at h
    cases h
   refine nxI (by omega) ?_;exact⟨k+1,(cvE rfl rfl),⟨hkl,zaa hbV fZ,(zst bZ hbV)⟩,zdc (by omega)⟩
  ·exact⟨(),⟨.nil,rfl⟩,hbY⟩
 rintro _ Y hbY;exact⟨rfl,hbY⟩
theorem ztd {n:Nat} {cs:List Value} (hcs:cs.length=333) (h0:cs[0]?=some (.slice q n c)):CB 12 #[.agg cs.toArray] w (.bool (decide (n<=16))):=by
 refine cofE 7 [.agg cs.toArray] Tryz.func12 ?_;have f:=hnew w (.cells cs.toArray 34);have hb:Bw w (w.alloc (.cells cs.toArray 34)):=zba w _;refine⟨.slice q n c,zac (zab f) (i:=0) h0,?_⟩;exact⟨rb (decide_eq_decide.2 (by show (n:Int)<=16↔_;omega)),hb⟩
end
structure FndV (X:World) (F:List ExD) (xs:List exE3) (q:Option Addr):Prop where
 e:xs.map (·.1)=F
 row:SlR exE X q xs
 ev:∀ x∈xs,SlR evE X x.2.1 x.1.ev
theorem FndV.below {X Y:World} {F:List ExD} {xs:List exE3} {q:Option Addr} (h:FndV X F xs q) (hb:Bw X Y):FndV Y F xs q:=⟨h.e,h.row.below hb,fun x hx=>(h.ev x hx).below hb⟩
theorem zfg {r:RelD} (h:wrdB r=true):WrdR r.to:=by
 unfold wrdB at h;rw [List.all_eq_true] at h;exact fun i hi=>dT (h i (List.mem_range.2 hi))
theorem zqO {X:World} {x:ExD} {q:Option Addr} (h:exvB x=true) (he:SlR evE X q x.ev):ExV X x q:=by
 unfold exvB at h;simp only [bAT,dE] at h;obtain⟨h1,h2,h3,h4,h5,h6,h7⟩:=h;exact⟨he,h1,zfg h2,zfg h3,zfg h4,zfg h5,zfg h6,zfg h7⟩
theorem FndV.at {X:World} {F:List ExD} {xs:List exE3} {q:Option Addr} {i n:Nat} {want:List UInt8} (h:FndV X F xs q) (hs:zhf F i n want=true) (hi:i<n):xs.length=n/\∃ (b o:Nat) (y:exE3),q=some ⟨b,o,none⟩/\b<X.heap.size/\zax X ⟨b,o+i*333,none⟩ (exC y.1 y.2.1 y.2.2)/\ExV X y.1 y.2.1/\zmx y.1 want=true/\y.1=F.getD i (ex0 0):=by
 unfold zhf at hs;rw [bAT,bAT,dE] at hs;have hl:xs.length=n:=by
  have:=congrArg List.length h.e;rw [List.length_map] at this;omega
 have hix:i<xs.length:=by omega
 obtain⟨b,o,hq,hb,hat⟩:=h.row.at hix;obtain⟨y,hy⟩:∃ y,xs[i]=y:=⟨_,rfl⟩;have hym:y∈xs:=by rw [<- hy];exact gM hix
 have hF:y.1=F.getD i (ex0 0):=by
  rw [<- h.e,gDe,List.getElem?_map,gE hix,hy];rfl
 have hF2:y.1∈F:=by
  rw [<- h.e];exact List.mem_map_of_mem hym
 have hatk:=hat i hix;rw [hy] at hatk;exact⟨hl,b,o,y,hq,hb,hatk,zqO (List.all_eq_true.1 hs.2.1 _ hF2) (h.ev y hym),by rw [hF];exact hs.2.2,hF⟩
theorem zeA {W:World} {g:Nat} {cs:List Value} {l:List InsD} (h:W.heap[g]?=some (.cells cs.toArray 59 (0,0))) (hc:cs=l.flatMap insE.enc):RowB insE W.heap.size W (some ⟨g,0,none⟩) l :=
 .inr ⟨g,0,rfl,hlt h,by rw [<- hc];exact zab h⟩
theorem zn2 {w:World} (hG:GlobE w):CB 13 #[] w (.bool true):=by
 refine cofM 98 [] (.s .p (.c .p (.c .p (.c .p (.c .p (.c .p (.c .p .p))))))) Tryz.func13 ?_;refine⟨List exE3×Option Addr×Nat,fun s=>⟨[(1,.slice s.2.1 s.1.length s.2.2)],[]⟩,fun s X=>FndV X sbF s.1 s.2.1/\Bw w X,?_,?_⟩
 ·have b0:=(Below.refl w.heap.size w);refine cmo (st_c (l:=0) (v:=1) (m:=0)) ?_;rintro e V1 ⟨rfl,hv1⟩;have b1:=zst b0 hv1;refine cmo (ld_c (d:=0) (l:=1) (m:=0)) ?_;rintro e V2 ⟨rfl,hv2⟩;have b2:=zst b1 hv2;refine⟨⟨by decide,by decide,rfl⟩,insE.enc (stI 0 1 0)++insE.enc (ldI 0 1 0),by kernel_rfl,?_⟩;obtain⟨V3,e3⟩:=nm (V2.alloc (.cells (insE.enc (stI 0 1 0)++insE.enc (ldI 0 1 0)).toArray 59));have hv3:Bw V2 V3:=by rw [e3];exact (zba _ _)
  have f3:V3.heap[V2.heap.size]?=some (.cells (insE.enc (stI 0 1 0)++insE.enc (ldI 0 1 0)).toArray 59 (0,0)):=by rw [e3];exact hnew _ _
  rw [<- e3];have b3:=zst b2 hv3;refine cmo (st_c (l:=1) (v:=1) (m:=0)) ?_;rintro e V4 ⟨rfl,hv4⟩;have b4:=zst b3 hv4;refine cmo (ld_c (d:=0) (l:=0) (m:=0)) ?_;rintro e V5 ⟨rfl,hv5⟩;have b5:=zst b4 hv5;refine⟨⟨by decide,by decide,rfl⟩,insE.enc (stI 1 1 0)++insE.enc (ldI 0 0 0),by kernel_rfl,?_⟩;obtain⟨V6,e6⟩:=nm (V5.alloc (.cells (insE.enc (stI 1 1 0)++insE.enc (ldI 0 0 0)).toArray 59));have hv6:Bw V5 V6:=by rw [e6];exact (zba _ _)
  have f6:V6.heap[V5.heap.size]?=some (.cells (insE.enc (stI 1 1 0)++insE.enc (ldI 0 0 0)).toArray 59 (0,0)):=by rw [e6];exact hnew _ _
  rw [<- e6];have b6:=zst b5 hv6;refine cmo (zon (la:=[stI 0 1 0,ldI 0 1 0]) (lb:=[stI 1 1 0,ldI 0 0 0]) (zeA (zaa hv6 (zaa hv5 (zaa hv4 (f3)))) (l:=[stI 0 1 0,ldI 0 1 0]) rfl) (zeA (f6) (l:=[stI 1 1 0,ldI 0 0 0]) rfl) (Nat.le_of_ble_eq_true rfl) (Nat.le_of_ble_eq_true rfl) (fun a h=>by cases h;exact hlt (zaa hv6 (zaa hv5 (zaa hv4 (f3))))) (fun a h=>by cases h;exact hlt (f6))) ?_;rintro e V7 ⟨⟨vs,rfl,hP⟩,hv7⟩;have b7:=zst b6 hv7;refine cmo (zh4 (p:=sbP) (n:=5) (V:=[0,1]) (a:=0) (b:=0) (Nat.le_refl _) hP (hG.below b7) (zf8 sb_q)) ?_;rintro e V8 ⟨⟨xs,q,c,rfl,h1,h2,h3⟩,hv8⟩;have b8:=zst b7 hv8;exact⟨(xs,q,c),(cvE rfl rfl),⟨h1,h2,h3⟩,b8⟩
 rintro s1 W1 ⟨g1,hb1⟩;refine⟨List exE3×Option Addr×Nat,fun s=>⟨[(1,.slice s1.2.1 s1.1.length s1.2.2),(2,.slice s.2.1 s.1.length s.2.2)],[]⟩,fun s X=>FndV X mpF s.1 s.2.1/\FndV X sbF s1.1 s1.2.1/\Bw w X,?_,?_⟩
 ·have b0:=hb1;refine cmo (st_c (l:=0) (v:=1) (m:=0)) ?_;rintro e V1 ⟨rfl,hv1⟩;have b1:=zst b0 hv1;refine cmo (st_c (l:=1) (v:=1) (m:=0)) ?_;rintro e V2 ⟨rfl,hv2⟩;have b2:=zst b1 hv2;refine⟨⟨by decide,by decide,rfl⟩,insE.enc (stI 0 1 0)++insE.enc (stI 1 1 0),by kernel_rfl,?_⟩;obtain⟨V3,e3⟩:=nm (V2.alloc (.cells (insE.enc (stI 0 1 0)++insE.enc (stI 1 1 0)).toArray 59));have hv3:Bw V2 V3:=by rw [e3];exact (zba _ _)
  have f3:V3.heap[V2.heap.size]?=some (.cells (insE.enc (stI 0 1 0)++insE.enc (stI 1 1 0)).toArray 59 (0,0)):=by rw [e3];exact hnew _ _
  rw [<- e3];have b3:=zst b2 hv3;refine cmo (ld_c (d:=1) (l:=1) (m:=0)) ?_;rintro e V4 ⟨rfl,hv4⟩;have b4:=zst b3 hv4;refine cmo (ld_c (d:=0) (l:=0) (m:=0)) ?_;rintro e V5 ⟨rfl,hv5⟩;have b5:=zst b4 hv5;refine⟨⟨by decide,by decide,rfl⟩,insE.enc (ldI 1 1 0)++insE.enc (ldI 0 0 0),by kernel_rfl,?_⟩;obtain⟨V6,e6⟩:=nm (V5.alloc (.cells (insE.enc (ldI 1 1 0)++insE.enc (ldI 0 0 0)).toArray 59));have hv6:Bw V5 V6:=by rw [e6];exact (zba _ _)
  have f6:V6.heap[V5.heap.size]?=some (.cells (insE.enc (ldI 1 1 0)++insE.enc (ldI 0 0 0)).toArray 59 (0,0)):=by rw [e6];exact hnew _ _
  rw [<- e6];have b6:=zst b5 hv6;refine cmo (zon (la:=[stI 0 1 0,stI 1 1 0]) (lb:=[ldI 1 1 0,ldI 0 0 0]) (zeA (zaa hv6 (zaa hv5 (zaa hv4 (f3)))) (l:=[stI 0 1 0,stI 1 1 0]) rfl) (zeA (f6) (l:=[ldI 1 1 0,ldI 0 0 0]) rfl) (Nat.le_of_ble_eq_true rfl) (Nat.le_of_ble_eq_true rfl) (fun a h=>by cases h;exact hlt (zaa hv6 (zaa hv5 (zaa hv4 (f3))))) (fun a h=>by cases h;exact hlt (f6))) ?_;rintro e V7 ⟨⟨vs,rfl,hP⟩,hv7⟩;have b7:=zst b6 hv7;refine cmo (zh4 (p:=mpP) (n:=5) (V:=[0,1]) (a:=0) (b:=0) (Nat.le_refl _) hP (hG.below b7) (zf8 mp_q)) ?_;rintro e V8 ⟨⟨xs,q,c,rfl,h1,h2,h3⟩,hv8⟩;have b8:=zst b7 hv8;have bt:Bw W1 V8:=by
   have c1:=hv1;have c2:=zst c1 hv2;have c3:=zst c2 hv3;have c4:=zst c3 hv4;have c5:=zst c4 hv5;have c6:=zst c5 hv6;have c7:=zst c6 hv7;have c8:=zst c7 hv8;exact c8
  exact⟨(xs,q,c),(cvE rfl rfl),⟨h1,h2,h3⟩,g1.below bt,b8⟩
 rintro s2 W2 ⟨g2,g1,hb2⟩;refine⟨List exE3×Option Addr×Nat,fun s=>⟨[(1,.slice s1.2.1 s1.1.length s1.2.2),(2,.slice s2.2.1 s2.1.length s2.2.2),(3,.slice s.2.1 s.1.length s.2.2)],[]⟩,fun s X=>FndV X raF s.1 s.2.1/\FndV X sbF s1.1 s1.2.1/\FndV X mpF s2.1 s2.2.1/\Bw w X,?_,?_⟩
 ·have b0:=hb2;refine cmo (st_c (l:=0) (v:=1) (m:=0)) ?_;rintro e V1 ⟨rfl,hv1⟩;have b1:=zst b0 hv1;refine cmo (st_c (l:=1) (v:=1) (m:=2)) ?_;rintro e V2 ⟨rfl,hv2⟩;have b2:=zst b1 hv2;refine⟨⟨by decide,by decide,rfl⟩,insE.enc (stI 0 1 0)++insE.enc (stI 1 1 2),by kernel_rfl,?_⟩;obtain⟨V3,e3⟩:=nm (V2.alloc (.cells (insE.enc (stI 0 1 0)++insE.enc (stI 1 1 2)).toArray 59));have hv3:Bw V2 V3:=by rw [e3];exact (zba _ _)
  have f3:V3.heap[V2.heap.size]?=some (.cells (insE.enc (stI 0 1 0)++insE.enc (stI 1 1 2)).toArray 59 (0,0)):=by rw [e3];exact hnew _ _
  rw [<- e3];have b3:=zst b2 hv3;refine cmo (ld_c (d:=1) (l:=1) (m:=1)) ?_;rintro e V4 ⟨rfl,hv4⟩;have b4:=zst b3 hv4;refine cmo (ld_c (d:=0) (l:=0) (m:=0)) ?_;rintro e V5 ⟨rfl,hv5⟩;have b5:=zst b4 hv5;refine⟨⟨by decide,by decide,rfl⟩,insE.enc (ldI 1 1 1)++insE.enc (ldI 0 0 0),by kernel_rfl,?_⟩;obtain⟨V6,e6⟩:=nm (V5.alloc (.cells (insE.enc (ldI 1 1 1)++insE.enc (ldI 0 0 0)).toArray 59));have hv6:Bw V5 V6:=by rw [e6];exact (zba _ _)
  have f6:V6.heap[V5.heap.size]?=some (.cells (insE.enc (ldI 1 1 1)++insE.enc (ldI 0 0 0)).toArray 59 (0,0)):=by rw [e6];exact hnew _ _
  rw [<- e6];have b6:=zst b5 hv6;refine cmo (zon (la:=[stI 0 1 0,stI 1 1 2]) (lb:=[ldI 1 1 1,ldI 0 0 0]) (zeA (zaa hv6 (zaa hv5 (zaa hv4 (f3)))) (l:=[stI 0 1 0,stI 1 1 2]) rfl) (zeA (f6) (l:=[ldI 1 1 1,ldI 0 0 0]) rfl) (Nat.le_of_ble_eq_true rfl) (Nat.le_of_ble_eq_true rfl) (fun a h=>by cases h;exact hlt (zaa hv6 (zaa hv5 (zaa hv4 (f3))))) (fun a h=>by cases h;exact hlt (f6))) ?_;rintro e V7 ⟨⟨vs,rfl,hP⟩,hv7⟩;have b7:=zst b6 hv7;refine cmo (zh4 (p:=raP) (n:=5) (V:=[0,1]) (a:=0) (b:=0) (Nat.le_refl _) hP (hG.below b7) (zf8 ra_q)) ?_;rintro e V8 ⟨⟨xs,q,c,rfl,h1,h2,h3⟩,hv8⟩;have b8:=zst b7 hv8;have bt:Bw W2 V8:=by
   have c1:=hv1;have c2:=zst c1 hv2;have c3:=zst c2 hv3;have c4:=zst c3 hv4;have c5:=zst c4 hv5;have c6:=zst c5 hv6;have c7:=zst c6 hv7;have c8:=zst c7 hv8;exact c8
  exact⟨(xs,q,c),(cvE rfl rfl),⟨h1,h2,h3⟩,g1.below bt,g2.below bt,b8⟩
 rintro s3 W3 ⟨g3,g1,g2,hb3⟩;refine⟨List exE3×Option Addr×Nat,fun s=>⟨[(1,.slice s1.2.1 s1.1.length s1.2.2),(2,.slice s2.2.1 s2.1.length s2.2.2),(3,.slice s3.2.1 s3.1.length s3.2.2),(4,.slice s.2.1 s.1.length s.2.2)],[]⟩,fun s X=>FndV X coF s.1 s.2.1/\FndV X sbF s1.1 s1.2.1/\FndV X mpF s2.1 s2.2.1/\FndV X raF s3.1 s3.2.1/\Bw w X,?_,?_⟩
 ·have b0:=hb3;refine cmo (st_c (l:=0) (v:=1) (m:=0)) ?_;rintro e V1 ⟨rfl,hv1⟩;have b1:=zst b0 hv1;refine cmo (ld_c (d:=0) (l:=0) (m:=0)) ?_;rintro e V2 ⟨rfl,hv2⟩;have b2:=zst b1 hv2;refine⟨⟨by decide,by decide,rfl⟩,insE.enc (stI 0 1 0)++insE.enc (ldI 0 0 0),by kernel_rfl,?_⟩;obtain⟨V3,e3⟩:=nm (V2.alloc (.cells (insE.enc (stI 0 1 0)++insE.enc (ldI 0 0 0)).toArray 59));have hv3:Bw V2 V3:=by rw [e3];exact (zba _ _)
  have f3:V3.heap[V2.heap.size]?=some (.cells (insE.enc (stI 0 1 0)++insE.enc (ldI 0 0 0)).toArray 59 (0,0)):=by rw [e3];exact hnew _ _
  rw [<- e3];have b3:=zst b2 hv3;refine cmo (zon (la:=[stI 0 1 0,ldI 0 0 0]) (lb:=[]) (zeA (f3) (l:=[stI 0 1 0,ldI 0 0 0]) rfl) (.inl rfl) (Nat.le_of_ble_eq_true rfl) (Nat.le_of_ble_eq_true rfl) (fun a h=>by cases h;exact hlt (f3)) (fun a h=>by cases h)) ?_;rintro e V4 ⟨⟨vs,rfl,hP⟩,hv4⟩;have b4:=zst b3 hv4;refine cmo (zh4 (p:=coP) (n:=5) (V:=[0,1]) (a:=0) (b:=0) (Nat.le_refl _) hP (hG.below b4) (zf8 co_q)) ?_;rintro e V5 ⟨⟨xs,q,c,rfl,h1,h2,h3⟩,hv5⟩;have b5:=zst b4 hv5;have bt:Bw W3 V5:=by
   have c1:=hv1;have c2:=zst c1 hv2;have c3:=zst c2 hv3;have c4:=zst c3 hv4;have c5:=zst c4 hv5;exact c5
  exact⟨(xs,q,c),(cvE rfl rfl),⟨h1,h2,h3⟩,g1.below bt,g2.below bt,g3.below bt,b5⟩
 rintro s4 W4 ⟨g4,g1,g2,g3,hb4⟩;obtain⟨l1,n1,o1,y1,q1,d1,at1,v1,say1,_⟩:=g1.at zp7 (by decide);obtain⟨l2,n2,o2,y2,q2,d2,at2,v2,say2,r2⟩:=g2.at zqv (by decide);obtain⟨l3,n3,o3,y3,q3,d3,at3,v3,say3,r3⟩:=g3.at zqm (by decide);obtain⟨l4,n4,o4,y4,q4,d4,at4,v4,say4,_⟩:=g4.at zrf (by decide);have hTW:=hG.t64.below hb4;have rg2:y2.1.regs 9=1:=by rw [r2];exact zr5
 have rg3:y3.1.regs 9=1:=by rw [r3];exact zrW
 have i2:1<s2.1.length:=by omega
 have i3:1<s3.1.length:=by omega
 have i1:0<s1.1.length:=by omega
 have i4:0<s4.1.length:=by omega
 obtain⟨xs1,p1,c1⟩:=s1;obtain⟨xs2,p2,c2⟩:=s2;obtain⟨xs3,p3,c3⟩:=s3;obtain⟨xs4,p4,c4⟩:=s4;dsimp only at l1 l2 l3 l4 i1 i2 i3 i4 q1 q2 q3 q4 ⊢;subst q1 q2 q3 q4;have no:∀ {n m:Nat},n=m->(!decide ((n:Int)=(m:Int)))=false:=fun {n m} h=>by rw [h,decide_eq_true rfl];rfl
 refine⟨Unit,fun _=>⟨[(1,.slice (some ⟨n1,o1,none⟩) xs1.length c1),(2,.slice (some ⟨n2,o2,none⟩) xs2.length c2),(3,.slice (some ⟨n3,o3,none⟩) xs3.length c3),(4,.slice (some ⟨n4,o4,none⟩) xs4.length c4)],[]⟩,fun _ X=>W4=X,?_,?_⟩
 ·refine brN (no (m:=1) l1) ?_;refine brN (no (m:=2) l2) ?_;refine brN (no (m:=2) l3) ?_;refine brN (no (m:=1) l4) ?_;exact⟨(),(cvE rfl rfl),rfl⟩
 rintro _ _ rfl;obtain⟨X0,hX0⟩:∃ X0:Value,X0 = .agg (zt34).toArray:=⟨_,rfl⟩;refine⟨Nat×Nat,fun s=>⟨[(1,.slice (some ⟨n1,o1,none⟩) xs1.length c1),(4,.slice (some ⟨n4,o4,none⟩) xs4.length c4),(5,At0 s.1),(6,At0 s.2)],[]⟩,fun s X=>ExH X s.1 y2.1 y2.2.1 y2.2.2/\ExH X s.2 y3.1 y3.2.1 y3.2.2/\Bw W4 X,?_,?_⟩
 ·have dW:Bw W4 W4.drew:=(Below.refl _ _).drew;have zex:Obj.cells (zt34).toArray 34=Obj.cells (zt34).toArray 34:=rfl;have two:∀ {W:World},Bw W4 W->Bw W4 ((W.alloc (.cells (zt34).toArray 34)).alloc (.cells (zt34).toArray 34))/\((W.alloc (.cells (zt34).toArray 34)).alloc (.cells (zt34).toArray 34)).heap[W.heap.size]?=some (.cells (zt34).toArray 34 (0,0))/\((W.alloc (.cells (zt34).toArray 34)).alloc (.cells (zt34).toArray 34)).heap[(W.alloc (.cells (zt34).toArray 34)).heap.size]?=some (.cells (zt34).toArray 34 (0,0))/\W.heap.size<(W.alloc (.cells (zt34).toArray 34)).heap.size:=fun {W} hW=>by
   have b1:=hW.alloc hW.size (.cells (zt34).toArray 34);exact⟨b1.alloc b1.size _,hold _ (hnew W _),hnew _ _,by rw [wz];omega⟩
  have s8:∀ {W:World} {bx bv:Nat},Bw W4 W->W.heap[bx]?=some (.cells (zt34).toArray 34 (0,0))->W.heap[bv]?=some (.cells (zt34).toArray 34 (0,0))->bx≠bv->W4.heap.size<=bx->∀ {K:World->Prop},(∀ D,(Bw W4 D/\ExH D bx y2.1 y2.2.1 y2.2.2/\D.heap[bv]?=some (.cells (zt34).toArray 34 (0,0)))->K D)->SatR ((storeVar 34 ⟨bx,0,none⟩ (.agg (exC y2.1 y2.2.1 y2.2.2).toArray)).run Tryz.prog W) fun _ w'=>K w':=fun {W bx bv} hW fx fy hne hx {K} k =>
   zaq (v := .agg (exC y2.1 y2.2.1 y2.2.2).toArray) k34 fx (zat _ _ _) zbK (zdp _ _ _) (k _ ⟨zah hW hx _,zal fx,(zan (fun e=>hne e.symm)).trans fy⟩)
  have s9:∀ {W:World} {bx bv:Nat},(Bw W4 W/\ExH W bx y2.1 y2.2.1 y2.2.2/\W.heap[bv]?=some (.cells (zt34).toArray 34 (0,0)))->bx≠bv->W4.heap.size<=bv->∀ {K:World->Prop},(∀ D,(ExH D bx y2.1 y2.2.1 y2.2.2/\ExH D bv y3.1 y3.2.1 y3.2.2/\Bw W4 D)->K D)->SatR ((storeVar 34 ⟨bv,0,none⟩ (.agg (exC y3.1 y3.2.1 y3.2.2).toArray)).run Tryz.prog W) fun _ w'=>K w':=fun {W bx bv} h hne hx {K} k =>
   zaq (v := .agg (exC y3.1 y3.2.1 y3.2.2).toArray) k34 h.2.2 (zat _ _ _) zbK (zdp _ _ _) (k _ ⟨(zan hne).trans h.2.1,zal h.2.2,zah h.1 hx _⟩)
  have hba:∀ (A:World) (o:Obj),Bw A (A.alloc o):=fun A o=>(zba _ _);refine DrawE.treeR [8,9] (.op 0 (.op 1 (.op 2 (.op 3 (.op 4 (.alt (.op 6 (.alt (.op 7 (.alt (.op 8 (.op 5 (.op 9 .nil))) (.op 5 (.op 8 (.op 9 .nil))))) (.op 5 (.op 7 (.op 8 (.op 9 .nil)))))) (.alt (.op 7 (.alt (.op 6 (.alt (.op 8 (.op 5 (.op 9 .nil))) (.op 5 (.op 8 (.op 9 .nil))))) (.op 5 (.op 6 (.op 8 (.op 9 .nil)))))) (.op 5 (.alt (.op 6 (.op 7 (.op 8 (.op 9 .nil)))) (.op 7 (.op 6 (.op 8 (.op 9 .nil))))))))))))) (by kernel_rfl) ?_;refine⟨1,rfl,i2,?_⟩;refine⟨exC y2.1 y2.2.1 y2.2.2,zat _ _ _,zaA dW d2 at2,d2,?_⟩;refine⟨1,rfl,i3,?_⟩;obtain⟨U,hU⟩:=nm (W4.drew);have bU:Bw W4 U:=by rw [hU];exact dW
  obtain⟨t1,t2,t3,t4⟩:=two bU;have sU:=bU.size;rw [<- hU];refine And.intro ?_ ?_
  ·refine⟨hba _ _,?_⟩;refine And.intro ?_ ?_
   ·refine⟨hba _ _,?_⟩;refine And.intro ?_ ?_
    ·refine s8 t1 t2 t3 (by omega) (by omega) fun D hD=>?_;refine⟨exC y3.1 y3.2.1 y3.2.2,zat _ _ _,zaA hD.1 d3 at3,nL d3 (Below.size hD.1),?_⟩;refine s9 hD (by omega) (by omega) fun F hF=>?_;exact⟨(_,_),(cvE rfl rfl),hF⟩
    ·refine⟨exC y3.1 y3.2.1 y3.2.2,zat _ _ _,zaA t1 d3 at3,nL d3 (Below.size t1),?_⟩;refine s8 t1 t2 t3 (by omega) (by omega) fun D hD=>?_;refine s9 hD (by omega) (by omega) fun F hF=>?_;exact⟨(_,_),(cvE rfl rfl),hF⟩
   ·refine⟨exC y3.1 y3.2.1 y3.2.2,zat _ _ _,zaA (bU.alloc sU _) d3 at3,nL d3 (Below.size (bU.alloc sU _)),?_⟩;refine⟨hba _ _,?_⟩;refine s8 t1 t2 t3 (by omega) (by omega) fun D hD=>?_;refine s9 hD (by omega) (by omega) fun F hF=>?_;exact⟨(_,_),(cvE rfl rfl),hF⟩
  ·refine And.intro ?_ ?_
   ·refine⟨hba _ _,?_⟩;refine And.intro ?_ ?_
    ·refine⟨hba _ _,?_⟩;refine And.intro ?_ ?_
     ·refine s8 t1 t3 t2 (by omega) (by omega) fun D hD=>?_;refine⟨exC y3.1 y3.2.1 y3.2.2,zat _ _ _,zaA hD.1 d3 at3,nL d3 (Below.size hD.1),?_⟩;refine s9 hD (by omega) (by omega) fun F hF=>?_;exact⟨(_,_),(cvE rfl rfl),hF⟩
     ·refine⟨exC y3.1 y3.2.1 y3.2.2,zat _ _ _,zaA t1 d3 at3,nL d3 (Below.size t1),?_⟩;refine s8 t1 t3 t2 (by omega) (by omega) fun D hD=>?_;refine s9 hD (by omega) (by omega) fun F hF=>?_;exact⟨(_,_),(cvE rfl rfl),hF⟩
    ·refine⟨exC y3.1 y3.2.1 y3.2.2,zat _ _ _,zaA (bU.alloc sU _) d3 at3,nL d3 (Below.size (bU.alloc sU _)),?_⟩;refine⟨hba _ _,?_⟩;refine s8 t1 t3 t2 (by omega) (by omega) fun D hD=>?_;refine s9 hD (by omega) (by omega) fun F hF=>?_;exact⟨(_,_),(cvE rfl rfl),hF⟩
   ·refine⟨exC y3.1 y3.2.1 y3.2.2,zat _ _ _,zaA bU d3 at3,nL d3 (Below.size bU),?_⟩;refine And.intro ?_ ?_
    ·refine⟨hba _ _,?_⟩;refine⟨hba _ _,?_⟩;refine s8 t1 t2 t3 (by omega) (by omega) fun D hD=>?_;refine s9 hD (by omega) (by omega) fun F hF=>?_;exact⟨(_,_),(cvE rfl rfl),hF⟩
    ·refine⟨hba _ _,?_⟩;refine⟨hba _ _,?_⟩;refine s8 t1 t3 t2 (by omega) (by omega) fun D hD=>?_;refine s9 hD (by omega) (by omega) fun F hF=>?_;exact⟨(_,_),(cvE rfl rfl),hF⟩
 rintro⟨bx,bv⟩ X ⟨fx,fv,hbX⟩;dsimp only at fx fv ⊢;have bw:=zst hb4 hbX;have ex9:(exC y2.1 y2.2.1 y2.2.2)[304]?=some (u8 (y2.1.regs 9)):=zh6 y2.1 y2.2.1 y2.2.2 (i:=9) (by decide);have ev9:(exC y3.1 y3.2.1 y3.2.2)[304]?=some (u8 (y3.1.regs 9)):=zh6 y3.1 y3.2.1 y3.2.2 (i:=9) (by decide);have one:∀ {r:UInt8},r=1->decide ((r.toNat:Int)=1)=true:=fun h=>by rw [h];rfl
 refine⟨1,rfl,by decide,?_⟩;refine⟨1,rfl,by decide,?_⟩;refine⟨u8 (y2.1.regs 9),zac (zab fx) ex9,?_⟩;refine brE (one rg2) ?_;refine⟨1,rfl,by decide,?_⟩;refine⟨1,rfl,by decide,?_⟩;refine⟨u8 (y3.1.regs 9),zac (zab fv) ev9,?_⟩;refine brE (one rg3) ?_;refine⟨0,rfl,i1,?_⟩;refine⟨exC y1.1 y1.2.1 y1.2.2,zat _ _ _,zaA hbX d1 at1,nL d1 (Below.size hbX),?_⟩;refine⟨⟨by decide,by decide,rfl⟩,[u8 0,u8 3,u8 0,u8 0,u8 0,u8 0],rfl,?_⟩;obtain⟨T0,eT0⟩:∃ T,T=X.alloc (.cells ([u8 0,u8 3,u8 0,u8 0,u8 0,u8 0]:List Value).toArray 5):=⟨_,rfl⟩;have ba0:Bw X T0:=by rw [eT0];exact (zba _ _)
 have fa0:T0.heap[X.heap.size]?=some (.cells ([u8 0,u8 3,u8 0,u8 0,u8 0,u8 0]:List Value).toArray 5 (0,0)):=by rw [eT0];exact hnew _ _
 rw [<- eT0];have bt0:=zst hbX ba0;refine cmo (zkg (ws:=[0,3,0,0,0,0]) (v1.below bt0) (hTW.below bt0) (SlR.of_cells (hlt fa0) (by exact zab fa0)) say1 (by decide)) ?_;rintro e Z1 ⟨rfl,hz1⟩;have bz1:=zst bt0 hz1;have k1:=zst ba0 hz1;refine brT ?_;refine⟨exC y2.1 y2.2.1 y2.2.2,zat _ _ _,zab (zaa k1 fx),hlt (zaa k1 fx),?_⟩;refine⟨⟨by decide,by decide,rfl⟩,[u8 0,u8 3,u8 3,u8 0,u8 0,u8 0],rfl,?_⟩;obtain⟨T1,eT1⟩:∃ T,T=Z1.alloc (.cells ([u8 0,u8 3,u8 3,u8 0,u8 0,u8 0]:List Value).toArray 5):=⟨_,rfl⟩;have ba1:Bw Z1 T1:=by rw [eT1];exact (zba _ _)
 have fa1:T1.heap[Z1.heap.size]?=some (.cells ([u8 0,u8 3,u8 3,u8 0,u8 0,u8 0]:List Value).toArray 5 (0,0)):=by rw [eT1];exact hnew _ _
 rw [<- eT1];have bt1:=zst bz1 ba1;refine cmo (zkg (ws:=[0,3,3,0,0,0]) (v2.below bt1) (hTW.below bt1) (SlR.of_cells (hlt fa1) (by exact zab fa1)) say2 (by decide)) ?_;rintro e Z2 ⟨rfl,hz2⟩;have bz2:=zst bt1 hz2;have k2:=((zst k1 ba1)).trans (hz2.mono (by have:=k1.size;have:=ba1.size;omega));refine brT ?_;refine⟨exC y3.1 y3.2.1 y3.2.2,zat _ _ _,zab (zaa k2 fv),hlt (zaa k2 fv),?_⟩;refine⟨⟨by decide,by decide,rfl⟩,[u8 0,u8 3,u8 3,u8 0,u8 3,u8 0],rfl,?_⟩;obtain⟨T2,eT2⟩:∃ T,T=Z2.alloc (.cells ([u8 0,u8 3,u8 3,u8 0,u8 3,u8 0]:List Value).toArray 5):=⟨_,rfl⟩;have ba2:Bw Z2 T2:=by rw [eT2];exact (zba _ _)
 have fa2:T2.heap[Z2.heap.size]?=some (.cells ([u8 0,u8 3,u8 3,u8 0,u8 3,u8 0]:List Value).toArray 5 (0,0)):=by rw [eT2];exact hnew _ _
 rw [<- eT2];have bt2:=zst bz2 ba2;refine cmo (zkg (ws:=[0,3,3,0,3,0]) (v3.below bt2) (hTW.below bt2) (SlR.of_cells (hlt fa2) (by exact zab fa2)) say3 (by decide)) ?_;rintro e Z3 ⟨rfl,hz3⟩;have bz3:=zst bt2 hz3;have k3:=((zst k2 ba2)).trans (hz3.mono (by have:=k2.size;have:=ba2.size;omega));refine brT ?_;refine⟨0,rfl,i4,?_⟩;refine⟨exC y4.1 y4.2.1 y4.2.2,zat _ _ _,zaA bz3 d4 at4,nL d4 (Below.size bz3),?_⟩;refine⟨⟨by decide,by decide,rfl⟩,[u8 1,u8 1,u8 1,u8 1,u8 1,u8 1],rfl,?_⟩;obtain⟨T3,eT3⟩:∃ T,T=Z3.alloc (.cells ([u8 1,u8 1,u8 1,u8 1,u8 1,u8 1]:List Value).toArray 5):=⟨_,rfl⟩;have ba3:Bw Z3 T3:=by rw [eT3];exact (zba _ _)
 have fa3:T3.heap[Z3.heap.size]?=some (.cells ([u8 1,u8 1,u8 1,u8 1,u8 1,u8 1]:List Value).toArray 5 (0,0)):=by rw [eT3];exact hnew _ _
 rw [<- eT3];have bt3:=zst bz3 ba3;refine cmo (zkg (ws:=[1,1,1,1,1,1]) (v4.below bt3) (hTW.below bt3) (SlR.of_cells (hlt fa3) (by exact zab fa3)) say4 (by decide)) ?_;rintro e Z4 ⟨rfl,hz4⟩;have bz4:=zst bt3 hz4;have k4:=((zst k3 ba3)).trans (hz4.mono (by have:=k3.size;have:=ba3.size;omega));exact⟨rfl,(zst hb4 bz4)⟩
section
variable {w:World} {x:ExD} {q:Option Addr} {c:Nat}
theorem zsh (h:SlR evE w q x.ev/\WX x) (h16:x.ev.length<=16):ExV w x q:=⟨h.1,by omega,h.2.po,h.2.rf,h.2.co,h.2.dt,h.2.ct,h.2.rm⟩
end
theorem zlU (m:Nat) (x:ExD):zcD m x<=3:=by
 have h:∀ (a b c:Bool),(if a=true then 1 else if b=true then 2 else if c=true then 3 else 0:Nat)<=3:=by decide
 exact h _ _ _
section
variable {w:World} {c:Nat} {x:ExD} {q:Option Addr} {m:UInt8}
theorem ziT (hv0:SlR evE w q x.ev/\WX x) (hG:GlobE w):CB 4 #[u8 m,.agg (exC x q c).toArray] w (.bool true):=by
 refine cofM 46 [u8 m,.agg (exC x q c).toArray] (.c .p (.c .p (.c .p (.c .p .p)))) Tryz.func4 ?_;obtain⟨L,hL⟩:=nm (w.heap.size);refine⟨Unit,fun _=>⟨[(0,u8 m),(3,At0 L)],[]⟩,fun _ X=>ExH X L x q c/\Bw w X,⟨(),⟨.cons rfl (.cons (by rw [hL];rfl) .nil),rfl⟩,by rw [hL];exact hnew w _,(zba w _)⟩,?_⟩;rintro _ X ⟨fX,hbX⟩;refine⟨Unit,fun _=>⟨[(0,u8 m),(3,At0 L)],[]⟩,fun _ Y=>x.ev.length<=16/\ExH Y L x q c/\Bw w Y,?_,?_⟩
 ·refine⟨exC x q c,zat _ _ _,zab fX,hlt fX,?_⟩;refine cmo (ztd (zat x q c) rfl) ?_;rintro e Y ⟨rfl,hbY⟩;have bY:=zst hbX hbY;refine biE (fun h=>?_) fun h=>?_
  ·refine cmo (zn2 (hG.below bY)) ?_;rintro e Z ⟨rfl,hbZ⟩;exact⟨rfl,(zst bY hbZ)⟩
  ·have h:decide (x.ev.length<=16)=true:=notF h;exact⟨(),(cvE rfl rfl),dT h,zaa hbY fX,bY⟩
 clear fX hbX;clear X;rintro _ X ⟨h16,fX,hbX⟩;have hv:=zsh hv0 h16;refine⟨Unit,fun _=>⟨[(0,u8 m),(3,At0 L)],[]⟩,fun _ Y=>(zbw m.toNat&&za5 x)=true/\ExH Y L x q c/\Bw w Y,?_,?_⟩
 ·refine⟨exC x q c,zat _ _ _,zab fX,hlt fX,?_⟩;refine cmo (zrz (m:=m) (hv.below hbX)) ?_;rintro e Y ⟨rfl,hbY⟩;have bY:=zst hbX hbY;refine biE (fun h=>?_) fun h=>?_
  ·have h:(zbw m.toNat&&za5 x)=false:=notB h;have hh:zd5 m.toNat x=false:=by
    unfold zd5
    cases hk:zbw m.toNat with
    | false=>rfl
    | true=>rw [hk,Bool.true_and] at h;rw [h];rfl
   have hb0:zgZ m.toNat x=0:=if_neg fun h2=>by
    rw [h2.1,h2.2] at h
    cases h
   replace fX:=zaa hbY fX;replace hbX:=bY;clear bY hbY;refine⟨_,zat _ _ _,zab fX,hlt fX,?_⟩;refine cmo (zj4 (m:=m) (hv.below hbX) (hG.t64.below hbX)) ?_;rintro e U ⟨rfl,hbU⟩;have fX:=zaa hbU fX;replace hbX:=zst hbX hbU;refine brE (congrArg (!·) (hh)) ?_;refine⟨_,zat _ _ _,zab fX,hlt fX,?_⟩;refine cmo (zim (m:=m) (hv.below hbX) (hG.t64.below hbX)) ?_;rintro e U ⟨rfl,hbU⟩;have fX:=zaa hbU fX;replace hbX:=zst hbX hbU;refine brE (by rw [hb0];rfl) ?_;refine cmo (zn2 (hG.below hbX)) ?_;rintro e U ⟨rfl,hbU⟩;have fX:=zaa hbU fX;replace hbX:=zst hbX hbU;exact⟨rfl,hbX⟩
  ·have h:(zbw m.toNat&&za5 x)=true:=notF h;exact⟨(),(cvE rfl rfl),h,zaa hbY fX,bY⟩
 clear fX hbX;clear X;rintro _ X ⟨hm,fX,hbX⟩;rw [bAT] at hm;obtain⟨hkn,hri⟩:=hm;have hk:=zr8 hv0.2 hri;have eb:zgZ m.toNat x=zcD m.toNat x:=by
  unfold zgZ;rw [if_pos ⟨hkn,hri⟩];exact zhC hk m.toNat
 have eb2:zcP m.toNat x=zcD m.toNat x:=zhC hk m.toNat;have hle:=zlU m.toNat x;have eh:zd5 m.toNat x=decide ((((UInt8.ofNat (zcD m.toNat x)).toNat:Nat):Int)=0):=by
  unfold zd5;rw [hkn,hri,eb2,Bool.true_and,Bool.true_and,UInt8.toNat_ofNat',Nat.mod_eq_of_lt (by omega)];exact decide_eq_decide.2 (by omega)
 refine⟨Unit,fun _=>⟨[(0,u8 m),(3,At0 L),(5,u8 (UInt8.ofNat (zcD m.toNat x)))],[]⟩,fun _ Y=>ExH Y L x q c/\Bw w Y,?_,?_⟩
 ·refine⟨exC x q c,zat _ _ _,zab fX,hlt fX,?_⟩;refine cmo (zl2 (m:=m) (hv.below hbX)) ?_;rintro e Y ⟨rfl,hbY⟩;exact⟨(),(cvE rfl rfl),zaa hbY fX,(zst hbX hbY)⟩
 clear fX hbX;clear X;rintro _ X ⟨fX,hbX⟩;refine⟨_,zat _ _ _,zab fX,hlt fX,?_⟩;refine cmo (zim (m:=m) (hv.below hbX) (hG.t64.below hbX)) ?_;rintro e U ⟨rfl,hbU⟩;have fX:=zaa hbU fX;replace hbX:=zst hbX hbU;refine brE (decide_eq_true (by rw [eb])) ?_;refine⟨_,zat _ _ _,zab fX,hlt fX,?_⟩;refine cmo (zj4 (m:=m) (hv.below hbX) (hG.t64.below hbX)) ?_;rintro e U ⟨rfl,hbU⟩;have fX:=zaa hbU fX;replace hbX:=zst hbX hbU;refine⟨_,fun w=>zgQ _ _ (zd5 m.toNat x) (decide ((((UInt8.ofNat (zcD m.toNat x)).toNat:Nat):Int)=0)) w,?_⟩;refine brE (decide_eq_true eh) ?_;refine cmo (zn2 (hG.below hbX)) ?_;rintro e U ⟨rfl,hbU⟩;have fX:=zaa hbU fX;replace hbX:=zst hbX hbU;exact⟨rfl,hbX⟩
end
end Go.Proofs.YtmbghmhjjodgmaaGreatDoor
namespace Go.Proofs.YtmbghmhjjodgmaaGreatDoor
open Go.Vc Go.RowKit Go.Sei
open Go.ChangeShapes Go.WideShapes Go.ChangeAt
section
variable {H:Type} {enc:TypeId×Value->H} {P:Program} {w:World} {base:Nat} {spare:Nat->Bool} {held:Bool} {fuel:Nat} {t:TypeId} {cs:List Value} {x:DataW H×List MemPlace}
theorem zm1 (ht:P.underlying t=some (.int .u8)) (h:DataW.trod enc P w base spare held fuel t cs=some x):∃ b:UInt8,cs=[u8 b]/\x.1 = .lit (.int .u8 b.toNat):=by
 obtain⟨n,rfl,rfl,hw⟩:=DataW.trod_int ht h;have hb:=bounds_u8 hw;have e:((UInt8.ofNat n.toNat).toNat:Int)=n:=by
  rw [UInt8.toNat_ofNat'];omega
 exact⟨UInt8.ofNat n.toNat,by rw [u8,e],by rw [e]⟩
theorem zfW {n:Nat} {e:TypeId} (ht:P.underlying t=some (.array n e)) (he:P.underlying e=some (.int .u8)) (hc:P.cellsOf e=1) (hn:P.cellsOf t=n)
  (h:DataW.trod enc P w base spare held fuel t cs=some x):∃ bs:List UInt8,bs.length=n/\cs=bs.map u8/\x.1 = .agg (bs.map fun b => .lit (.int .u8 b.toNat)):=by
 obtain⟨xs,m,rfl,rfl,hl,hx,hel⟩:=DataW.trod_array ht h;rw [hn] at hl;have each:∀ i (h:i<n),∃ b:UInt8,cs[i]?=some (u8 b)/\xs[i]?.map (·.1)=some (.lit (.int .u8 b.toNat)):=fun i hi=>by
  have h1:=hel i hi;rw [hc,gE (by omega)] at h1;obtain⟨b,h2,h3⟩:=zm1 he h1;refine⟨b,?_,by rw [gE (by omega),Option.map_some,h3]⟩;have:((cs.drop (i*1)).take 1)[0]?=some (u8 b):=by rw [h2];rfl
  simpa using this
 have:∀ k,k<=n->∃ bs:List UInt8,bs.length=k/\cs.take k=bs.map u8/\(xs.take k).map (·.1)=bs.map fun b => .lit (.int .u8 b.toNat):=by
  intro k
  induction k with
  | zero=>exact fun _=>⟨[],rfl,by simp,by simp⟩
  | succ k ih =>
   intro hk;obtain⟨bs,h1,h2,h3⟩:=ih (by omega);obtain⟨b,h4,h5⟩:=each k (by omega);have hk1:k<cs.length:=by omega
   have hk2:k<xs.length:=by omega
   rw [gE hk1] at h4;rw [gE hk2] at h5;refine⟨bs++[b],by simp [h1],?_,?_⟩
   ·rw [tsg hk1,h2,Option.some.inj h4];simp
   ·rw [tsg hk2,List.map_append,h3];simp at h5;simp [h5]
 obtain⟨bs,h1,h2,h3⟩:=this n (Nat.le_refl _);rw [List.take_of_length_le (by omega)] at h2 h3;exact⟨bs,h1,h2,by rw [<- h3]⟩
end
theorem zfL:Tryz.prog.cellsOf 5=1:=by kernel_rfl
theorem zk7 (b o i:Nat):(⟨b,o,none⟩:Addr).add i=⟨b,o+i,none⟩:=by
 unfold Addr.add;by_cases h:i=0
 ·simp [h]
 ·simp [h]
section
variable {w:World} {base:Nat} {cs:List Value}
theorem zjc {a:Addr} {n:Nat} (hn:0<n) (h:w.cells? base a n=some cs):a.spot=none/\a.block<w.heap.size/\zax w ⟨a.block,a.off,none⟩ cs:=by
 obtain⟨_,hl,hc⟩:=World.cells?_some h;have h0:=hc 0 hn;rw [gE (by omega)] at h0;have hs:a.spot=none:=by simpa [Addr.add] using World.cell?_spot h0
 obtain⟨b,o,s⟩:=a;dsimp only at hs;subst hs;refine⟨rfl,World.block_lt_of_cell? _ _ h0,zcG fun i v hv=>?_⟩;have hi:i<n:=by have:=(List.getElem?_eq_some_iff.1 hv).1;omega
 have:=(hc i hi).trans hv;rw [zk7] at this;exact this
end
theorem zou:ownKnob Tryz.prog.godebug=none:=by kernel_rfl
theorem zfG:laidOutB Tryz.prog=true:=by kernel_rfl
section
variable {H:Type} {enc:TypeId×Value->H} {P:Program} {w:World} {base:Nat} {spare:Nat->Bool} {held:Bool} {fuel:Nat} {t e:TypeId} {cs:List Value} {x:DataW H×List MemPlace}
def Opens (enc:TypeId×Value->H) (P:Program) (w:World) (base:Nat) (spare:Nat->Bool) (held:Bool) (t:TypeId) (R:List Value->Prop):Prop :=
 ∀ fuel cs x,DataW.trod enc P w base spare held fuel t cs=some x->R cs
theorem Opens.field {fs:Array Field} {R:List Value->Prop} {i:Nat} {f:Field} {n:Nat} {xs:List (DataW H×List MemPlace)} {m:Nat} (hel:∀ (i:Nat) (f:Field),fs[i]?=some f->DataW.trod enc P w base spare held m f.type ((cs.drop f.offset).take (P.cellsOf f.type))=xs[i]?)
  (hl:xs.length=fs.size) (hi:fs[i]?=some f) {o:Nat} (hoo:f.offset=o) (hn:P.cellsOf f.type=n) (ho:Opens enc P w base spare held f.type R):R ((cs.drop o).take n):=by
 subst hoo;have h1:=hel i f hi;have:i<fs.size:=(Array.getElem?_eq_some_iff.1 hi).1;rw [gE (by omega),hn] at h1;exact ho _ _ _ h1
theorem zeh (ht:P.underlying t=some (.int .u8)):Opens enc P w base spare held t fun cs=>∃ b:UInt8,cs=[u8 b]:=fun fuel cs x h=>by
 obtain⟨b,h,_⟩:=zm1 ht h;exact⟨b,h⟩
theorem ziN (ht:P.underlying t=some (.int .i64)):Opens enc P w base spare held t fun cs=>∃ b:Int,cs=[.int .i64 b]:=fun fuel cs x h=>by
 obtain⟨n,h,_,_⟩:=DataW.trod_int ht h;exact⟨n,h⟩
theorem zm0 (ht:P.underlying t=some (.int .u64)):Opens enc P w base spare held t fun cs=>∃ n:Nat,n<18446744073709551616/\cs=[.int .u64 (n:Int)]:=fun fuel cs x h=>by
 obtain⟨n,rfl,_,hw⟩:=DataW.trod_int ht h;have hb:0<=n/\n<=18446744073709551615:=by
  simp only [Lit.wf,dE,bAT] at hw
  first
   | exact⟨by simpa [IntKind.min,IntKind.signed,IntKind.bits] using hw.1,by simpa [IntKind.max,IntKind.signed,IntKind.bits] using hw.2⟩
   | (simp [IntKind.min,IntKind.max,IntKind.signed,IntKind.bits] at hw;omega)
 exact⟨n.toNat,by omega,by congr 2;omega⟩
theorem ziM {n:Nat} (ht:P.underlying t=some (.array n e)) (he:P.underlying e=some (.int .u8)) (hc:P.cellsOf e=1) (hn:P.cellsOf t=n):Opens enc P w base spare held t fun cs=>∃ bs:List UInt8,bs.length=n/\cs=bs.map u8:=fun fuel cs x h=>by
 obtain⟨bs,h1,h2,_⟩:=zfW ht he hc hn h;exact⟨bs,h1,h2⟩
theorem zna {β:Type} {n:Nat} (i0:β) {Q:Nat->β->Prop} (h:∀ i,i<n->∃ b,Q i b):∃ bs:List β,bs.length=n/\∀ i (hi:i<bs.length),Q i bs[i]:=by
 have h2:∀ i,∃ b,i<n->Q i b:=fun i=>by
  by_cases hi:i<n
  ·obtain⟨b,hb⟩:=h i hi;exact⟨b,fun _=>hb⟩
  ·exact⟨i0,fun h=>absurd h hi⟩
 obtain⟨g,hg⟩:=Classical.axiomOfChoice h2;refine⟨(List.range n).map g,by simp,fun i hi=>?_⟩;simp only [List.getElem_map,List.getElem_range];exact hg i (by simpa using hi)
theorem znn {β:Type} {f:β->List Value} {sz:Nat}:∀ (bs:List β) (cs:List Value),cs.length=bs.length*sz->(∀ i (h:i<bs.length),(cs.drop (i*sz)).take sz=f bs[i])->cs=bs.flatMap f
 | [],cs,hl,_=>by simpa using hl
 | b::r,cs,hl,h=>by
  have h0:=h 0 (by simp);simp only [Nat.zero_mul,List.drop_zero,List.getElem_cons_zero] at h0;rw [List.flatMap_cons,<- h0]
  conv=>lhs;rw [<- List.take_append_drop sz cs]
  congr 1;refine znn (sz:=sz) r (cs.drop sz) (by rw [List.length_drop,hl,List.length_cons,Nat.add_mul];omega) fun i hi=>?_;have h1:=h (i+1) (by simpa using hi);rw [List.drop_drop];simpa [Nat.add_mul,Nat.add_comm] using h1
theorem ziO {β:Type} (i0:β) {f:β->List Value} {Q:β->Prop} {n sz:Nat} (ht:P.underlying t=some (.array n e)) (hc:P.cellsOf e=sz) (hn:P.cellsOf t=n*sz) (ho:Opens enc P w base spare held e fun cs=>∃ b,Q b/\cs=f b) :
  Opens enc P w base spare held t fun cs=>∃ bs:List β,bs.length=n/\(∀ b∈bs,Q b)/\cs=bs.flatMap f:=fun fuel cs x h=>by
 obtain⟨xs,m,rfl,rfl,hl,hx,hel⟩:=DataW.trod_array ht h;rw [hn] at hl;have each:∀ i,i<n->∃ b:β,Q b/\(cs.drop (i*sz)).take sz=f b:=fun i hi=>by
  have h1:=hel i hi;rw [hc,gE (by omega)] at h1;exact ho _ _ _ h1
 obtain⟨bs,h1,h2⟩:=zna i0 each;refine⟨bs,h1,fun b hb=>?_,znn bs cs (by rw [hl,h1]) fun i hi=>(h2 i hi).2⟩;obtain⟨i,hi,rfl⟩:=List.getElem_of_mem hb;exact (h2 i hi).1
theorem zoK {β:Type} (i0:β) {f:β->List Value} {Q:β->Prop} {sz:Nat} (hp:0<sz) (ht:P.underlying t=some (.slice e)) (hc:P.cellsOf e=sz) (ho:Opens enc P w base spare held e fun cs=>∃ b,Q b/\cs=f b) :
  Opens enc P w base spare held t fun cs=>∃ (p:Option Addr) (cap:Nat) (l:List β),cs=[.slice p l.length cap]/\l.length<=9223372036854775807/\(p=none->cap=0)/\(∀ b∈l,Q b)/\∃ b o,(l.length=0\/p=some ⟨b,o,none⟩)/\∀ i (hi:i<l.length),b<w.heap.size/\zax w ⟨b,o+i*sz,none⟩ (f l[i]):=fun fuel cs x h=>by
 rcases DataW.trod_slice ht h with ⟨rfl,_⟩ | ⟨a,len,cap,elems,rest,n,_,rfl,_,_,hlc,hcm,hlen,hel,_,_⟩
 ·exact⟨none,0,[],rfl,by simp,fun _=>rfl,by simp,0,0,.inl rfl,fun i hi=>by simp at hi⟩
 ·have each:∀ i,i<len->∃ m:β,Q m/\(a.add (i*sz)).spot=none/\(a.add (i*sz)).block<w.heap.size/\zax w ⟨(a.add (i*sz)).block,(a.add (i*sz)).off,none⟩ (f m):=fun i hi=>by
   have h1:=hel i hi;rw [hc,gE (by omega),Option.bind_eq_some_iff] at h1;obtain⟨cs,h2,h3⟩:=h1;obtain⟨m,hq,rfl⟩:=ho _ _ _ h3;exact⟨m,hq,zjc hp h2⟩
  obtain⟨l,h1,h2⟩:=zna i0 each;have hm:maxLen=9223372036854775807:=rfl;refine⟨some a,cap,l,by rw [h1],by omega,(fun h=>by cases h),fun b hb=>?_,a.block,a.off,?_,fun i hi=>?_⟩
  ·obtain⟨i,hi,rfl⟩:=List.getElem_of_mem hb;exact (h2 i hi).1
  ·by_cases h00:l.length=0
   ·exact .inl h00
   ·right;have hsp:a.spot=none:=by
     have:=(h2 0 (by omega)).2.1;simpa [Addr.add] using this
    obtain⟨b,o,s⟩:=a;dsimp only at hsp;subst hsp;rfl
  ·have hsp:a.spot=none:=by
    have:=(h2 0 (by omega)).2.1;simpa [Addr.add] using this
   obtain⟨b,o,s⟩:=a;dsimp only at hsp;subst hsp;have:=(h2 i hi).2.2;rw [zk7] at this;exact this
theorem cut (cs:List Value) (o n o':Nat) (h:o+n=o'):cs.drop o=(cs.drop o).take n++cs.drop o':=by
 rw [<- h,<- List.drop_drop,List.take_append_drop]
end
theorem cC (t n:Nat) (h:Tryz.prog.cellsOf t=n):Tryz.prog.cellsOf t=n:=h
theorem zfn {H:Type} {enc:TypeId×Value->H} {a:Assume} {C:Checked} {os:Os} {f:FuncId} {fn:Func} {s:ChangeSpec} {conds:List PathCond} {apart fresh handsOn again:Bool} {X:World->Array Value->Prop}
  (hX:∀ (w w':World) (args:Array Value),w.heap=w'.heap->X w args->X w' args)
  (own:ownKnob C.prog.godebug=none) (started:os.Started) (noInit:C.prog.inits.idxOf? f=none) (hfn:C.prog.funcs[f]?=some fn)
  (witness:∃ (w:World) (tape:Tape) (i:Input),w.os=os/\(w.forCall tape i).Shaped C.prog/\i.vars=[]/\Input.okWide C.prog (w.forCall tape i) .any w.heap.size f i /\
   ((s.pre enc C.prog fn conds apart (w.forCall tape i).memory i.args/\X (w.forCall tape i).memory i.args)/\sizedMet enc C.prog fn (OpenSpec.ofChange s) apart (w.forCall tape i).memory i.args)/\a.holds C.prog (lone (Frame.enter C.prog f i.args .normal) [] (w.forCall tape i)))
  (contract:∀ (W:World) (base:Nat) (args:Array Value) (ds gs:List (DataW H)) (before:List MemPlace),
   (∀ (j:Nat) t v,fn.params[j]?=some t->args[j]?=some v->Value.okWide C.prog W .any base t v) ->
   DataW.Whole enc C.prog fn.params.toList s.vars apart W args.toList ds gs before->X W args->W.ShapedOpen C.prog ->
   (∃ ds gs before,DataW.Whole enc C.prog fn.params.toList (OpenSpec.ofChange s).vars apart W args.toList ds gs before/\∀ n∈DataW.weightsEach C.prog (fn.params.toList++(OpenSpec.ofChange s).bare.plain.varTypes C.prog) (ds++gs),n<=reachBytes) ->
   Calls C.prog f args W fun e W'=>∃ v,e = .returned v/\s.post enc C.prog fn apart fresh handsOn again W args v W') :
  ReturnsInHanded a C os f .any (fun w args=>(s.pre enc C.prog fn conds apart w args/\X w args)/\sizedMet enc C.prog fn (OpenSpec.ofChange s) apart w args) (s.post enc C.prog fn apart fresh handsOn again):=by
 refine returnsInHanded_of_calls own started noInit witness ?_;intro w tape i _ hsh _ hok hpre hholds;obtain⟨_,_,_,fn',hfn',_,_,_,_,hval⟩:=hok;have e:fn'=fn:=Option.some.inj (hfn'.symm.trans hfn);subst e;obtain⟨⟨⟨ds,gs,before,hw,hc⟩,hx⟩,hz⟩:=hpre;have hw':=DataW.Whole.of_heap (w':=w.forCall tape i) (by rfl) hw;obtain⟨_,ds2,gs2,before2,hw2,hall⟩:=hz;refine (contract (w.forCall tape i) w.heap.size i.args ds gs before hval hw' (hX _ _ _ (by rfl) hx) hsh ⟨ds2,gs2,before2,DataW.Whole.of_heap (w':=w.forCall tape i) (by rfl) hw2,fun n hn=>dT (List.all_eq_true.1 hall n hn)⟩).mono fun e W' ⟨v,he,hp⟩=>?_;subst he;exact ChangeSpec.post_blind hp
theorem zhY {H:Type}:∀ {a b:List UInt8},a.map (fun b=>(DataW.lit (.int .u8 b.toNat):DataW H))=b.map (fun b=>DataW.lit (.int .u8 b.toNat))->a=b
 | [],[],_=>rfl
 | [],_::_,h=>by cases h
 | _::_,[],h=>by cases h
 | x::a,y::b,h=>by
  simp only [List.map_cons,List.cons.injEq,DataW.lit.injEq,Lit.int.injEq,true_and] at h;rw [zhY h.2,UInt8.toNat_inj.1 (by omega:x.toNat=y.toNat)]
theorem zhW {α:Type} (d:α) (f:α->Value) (n:Nat) (l:List α) (h:l.length=n):l.map f=(List.range n).map fun i=>f (l.getD i d):=by
 apply List.ext_getElem?;intro i;rw [List.getElem?_map,List.getElem?_map];by_cases hi:i<n
 ·rw [List.getElem?_range hi,gE (by omega),Option.map_some,Option.map_some,gDe,gE (by omega)];rfl
 ·rw [List.getElem?_eq_none (by omega),List.getElem?_eq_none (by rw [List.length_range];omega)];rfl
theorem zgN {α:Type} (f:α->Value):∀ l:List α,l.flatMap (fun x=>[f x])=l.map f
 | []=>rfl
 | a::l=>by rw [List.flatMap_cons,zgN f l];rfl
theorem flatMap_map {α:Type} (f:α->Value):∀ l:List (List α),l.flatMap (fun x=>x.map f)=l.flatten.map f
 | []=>rfl
 | a::l=>by rw [List.flatMap_cons,flatMap_map f l,List.flatten_cons,List.map_append]
section
variable {H:Type} {enc:TypeId×Value->H} {w:World} {base:Nat} {spare:Nat->Bool} {held:Bool}
theorem zoL:Opens enc Tryz.prog w base spare held 54 fun cs=>∃ e:Ev,True/\cs=evE.enc e:=fun fuel cs x h=>by
 obtain⟨xs,m,rfl,rfl,hl,hx,hel⟩:=DataW.trod_struct Tryz.underlying54 h;rw [cC 54 7 (by kernel_rfl)] at hl;obtain⟨b0,e0⟩:=Opens.field (o:=0) (i:=0) hel hx rfl rfl (cC 3 1 (by kernel_rfl)) (ziN Tryz.underlying3);obtain⟨b1,e1⟩:=Opens.field (o:=1) (i:=1) hel hx rfl rfl zfL (zeh Tryz.underlying5);obtain⟨b2,e2⟩:=Opens.field (o:=2) (i:=2) hel hx rfl rfl zfL (zeh Tryz.underlying5);obtain⟨b3,e3⟩:=Opens.field (o:=3) (i:=3) hel hx rfl rfl zfL (zeh Tryz.underlying5);obtain⟨b4,e4⟩:=Opens.field (o:=4) (i:=4) hel hx rfl rfl zfL (zeh Tryz.underlying5);obtain⟨b5,e5⟩:=Opens.field (o:=5) (i:=5) hel hx rfl rfl zfL (zeh Tryz.underlying5);obtain⟨b6,e6⟩:=Opens.field (o:=6) (i:=6) hel hx rfl rfl zfL (zeh Tryz.underlying5);refine⟨⟨b0,b1,b2,b3,b4,b5,b6⟩,trivial,?_⟩;have h0:cs=cs.drop 0:=rfl;have h9:cs.drop 7=[]:=List.drop_of_length_le (by omega);rw [h0,cut cs 0 1 1 rfl,cut cs 1 1 2 rfl,cut cs 2 1 3 rfl,cut cs 3 1 4 rfl,cut cs 4 1 5 rfl,cut cs 5 1 6 rfl,cut cs 6 1 7 rfl,e0,e1,e2,e3,e4,e5,e6,h9];rfl
theorem zdv:Opens enc Tryz.prog w base spare held 27 fun cs=>∃ r:RelD,WrdR r.to/\cs=relC r:=fun fuel cs x h=>by
 obtain⟨xs,m,rfl,rfl,hl,hx,hel⟩:=DataW.trod_struct Tryz.underlying27 h;rw [cC 27 49 (by kernel_rfl)] at hl;obtain⟨n,e0⟩:=Opens.field (o:=0) (i:=0) hel hx rfl rfl (cC 3 1 (by kernel_rfl)) (ziN Tryz.underlying3);obtain⟨bs,h1,h2,e1⟩:=Opens.field (o:=1) (i:=1) hel hx rfl rfl (cC 25 48 (by kernel_rfl)) (ziO (β:=Nat) 0 (f:=fun n=>[s64 n]) (Q:=fun n=>n<18446744073709551616) (n:=48) (sz:=1) Tryz.underlying25 (by kernel_rfl) (by kernel_rfl) (zm0 Tryz.underlying24));refine⟨⟨n,fun i=>bs.getD i 0⟩,fun i hi=>?_,?_⟩
 ·show bs.getD i 0<2^64;rw [gDe,gE (by omega)];exact h2 _ (gM _)
 have h0:cs=cs.drop 0:=rfl;have h9:cs.drop 49=[]:=List.drop_of_length_le (by omega);rw [h0,cut cs 0 1 1 rfl,cut cs 1 48 49 rfl,e0,e1,h9,zgN,zhW 0 s64 48 bs h1,List.append_nil];rfl
theorem zjA:Opens enc Tryz.prog w base spare held 32 fun cs=>∃ (f g:Nat->UInt8),cs=seg 32 (fun i=>u8 (f i))++seg 6 (fun i=>u8 (g i)):=fun fuel cs x h=>by
 obtain⟨xs,m,rfl,rfl,hl,hx,hel⟩:=DataW.trod_struct Tryz.underlying32 h;rw [cC 32 38 (by kernel_rfl)] at hl;have row:Opens enc Tryz.prog w base spare held 28 fun cs=>∃ bs:List UInt8,bs.length=8/\cs=bs.map u8:=ziM Tryz.underlying28 Tryz.underlying5 zfL (cC 28 8 (by kernel_rfl));obtain⟨bss,h1,h2,e0⟩:=Opens.field (o:=0) (i:=0) hel hx rfl rfl (cC 29 32 (by kernel_rfl)) (ziO (β:=List UInt8) [] (f:=fun bs=>bs.map u8) (Q:=fun bs=>bs.length=8) (n:=4) (sz:=8) Tryz.underlying29 (by kernel_rfl) (by kernel_rfl) row);obtain⟨ms,h3,e1⟩:=Opens.field (o:=32) (i:=1) hel hx rfl rfl (cC 30 6 (by kernel_rfl)) (ziM Tryz.underlying30 Tryz.underlying5 zfL (cC 30 6 (by kernel_rfl)));have hfl:bss.flatten.length=32:=by
  match bss,h1 with
  | [a,b,c,d],_ =>
   have:=h2 a (by simp);have:=h2 b (by simp);have:=h2 c (by simp);have:=h2 d (by simp);simp only [List.flatten_cons,List.flatten_nil,lap,List.length_nil];omega
 refine⟨fun i=>bss.flatten.getD i 0,fun i=>ms.getD i 0,?_⟩;have h0:cs=cs.drop 0:=rfl;have h9:cs.drop 38=[]:=List.drop_of_length_le (by omega);rw [h0,cut cs 0 32 32 rfl,cut cs 32 6 38 rfl,e0,e1,h9,flatMap_map,zhW 0 u8 32 _ hfl,zhW 0 u8 6 ms h3,List.append_nil];rfl
theorem zrQ {α:Type} {E:Enc α} {p:Option Addr} {l:List α} {b o:Nat} (h1:l.length=0\/p=some ⟨b,o,none⟩) (h2:∀ i (hi:i<l.length),b<w.heap.size/\zax w ⟨b,o+i*E.sz,none⟩ (E.enc l[i])):SlR E w p l:=by
 rcases h1 with h | h
 ·exact .inl (List.eq_nil_of_length_eq_zero h)
 ·by_cases h0:l=[]
  ·exact .inl h0
  ·have hl:=List.length_pos_iff.2 h0;exact .inr ⟨b,o,h,(h2 0 hl).1,fun i hi=>(h2 i hi).2⟩
theorem zlz:Opens enc Tryz.prog w base spare held 34 fun cs=>∃ (x:ExD) (q:Option Addr) (c:Nat),(SlR evE w q x.ev/\WX x)/\cs=exC x q c:=fun fuel cs x h=>by
 obtain⟨xs,m,rfl,rfl,hl,hx,hel⟩:=DataW.trod_struct Tryz.underlying34 h;rw [cC 34 333 (by kernel_rfl)] at hl;obtain⟨q,c,l,e0,_,_,_,b,o,hp,hc⟩:=Opens.field (o:=0) (i:=0) hel hx rfl rfl (cC 22 1 (by kernel_rfl)) (zoK (β:=Ev) ev0 (f:=evE.enc) (Q:=fun _=>True) (sz:=7) (by decide) Tryz.underlying22 (by kernel_rfl) zoL);have c49:=cC 27 49 (by kernel_rfl);obtain⟨r1,w1,e1⟩:=Opens.field (o:=1) (i:=1) hel hx rfl rfl c49 zdv;obtain⟨r2,w2,e2⟩:=Opens.field (o:=50) (i:=2) hel hx rfl rfl c49 zdv;obtain⟨r3,w3,e3⟩:=Opens.field (o:=99) (i:=3) hel hx rfl rfl c49 zdv;obtain⟨r4,w4,e4⟩:=Opens.field (o:=148) (i:=4) hel hx rfl rfl c49 zdv;obtain⟨r5,w5,e5⟩:=Opens.field (o:=197) (i:=5) hel hx rfl rfl c49 zdv;obtain⟨r6,w6,e6⟩:=Opens.field (o:=246) (i:=6) hel hx rfl rfl c49 zdv;obtain⟨f,g,e7⟩:=Opens.field (o:=295) (i:=7) hel hx rfl rfl (cC 32 38 (by kernel_rfl)) zjA;refine⟨⟨l,r1,r2,r3,r4,r5,r6,f,g⟩,q,c,⟨zrQ hp hc,⟨w1,w2,w3,w4,w5,w6⟩⟩,?_⟩;have h0:cs=cs.drop 0:=rfl;have h9:cs.drop 333=[]:=List.drop_of_length_le (by omega);rw [h0,cut cs 0 1 1 rfl,cut cs 1 49 50 rfl,cut cs 50 49 99 rfl,cut cs 99 49 148 rfl,cut cs 148 49 197 rfl,cut cs 197 49 246 rfl,cut cs 246 49 295 rfl,cut cs 295 38 333 rfl,e0,e1,e2,e3,e4,e5,e6,e7,h9,List.append_nil];rfl
theorem zlA {a:Array Value} {d:DataW H} {p:List MemPlace} (h:DataW.Trod enc Tryz.prog w base spare held 34 (.agg a) d p):∃ (x:ExD) (q:Option Addr) (c:Nat),Value.agg a = .agg (exC x q c).toArray/\(SlR evE w q x.ev/\WX x):=by
 obtain⟨fuel,h⟩:=h;obtain⟨x,q,c,hr,hc⟩:=zlz _ _ _ h;have:a.toList=exC x q c:=hc;exact⟨x,q,c,by rw [<- this],hr⟩
end
theorem zm2 {P:Program} {w:World} {r:Reach} {base:Nat} {t:TypeId} {v:Value} (ht:P.underlying t=some (.int .u8)) (h:Value.okWide P w r base t v):∃ b:UInt8,v=u8 b:=by
 unfold Value.okWide at h;rw [ht] at h
 cases v with
 | int k n =>
  have h1:k = .u8/\IntKind.has .u8 n:=by
   simp only [Cell.okWide,Cell.ok,ht] at h;obtain⟨rfl,h⟩:=h;exact⟨rfl,h⟩
  obtain⟨rfl,h2⟩:=h1;have h3:0<=n/\n<=255:=⟨by have:=h2.1;simpa [IntKind.min,IntKind.signed,IntKind.bits] using this,by have:=h2.2;simpa [IntKind.max,IntKind.signed,IntKind.bits] using this⟩;have e:((UInt8.ofNat n.toNat).toNat:Int)=n:=by
   rw [UInt8.toNat_ofNat'];omega
  exact⟨UInt8.ofNat n.toNat,by rw [u8,e]⟩
 | _=>simp_all [Cell.okWide,Cell.ok]
structure GlobM (W:World):Prop where
 t32:Tz32M W
 t64:Tz64M W
 needs:GlobC W
abbrev zc4 : List (String × DataW Unit) := [("math/bits.deBruijn32tab", Rows.laid_math_bits_deBruijn32tab), ("math/bits.deBruijn64tab", Rows.laid_math_bits_deBruijn64tab), ("seisin/check.needs", Rows.laid_seisin_check_needs)]
theorem zdN {W:World} (h:laidMetH Tryz.prog zc4 W) (hsh:W.ShapedOpen Tryz.prog):GlobM W:=by
 have h0:laidMet Tryz.prog zc4 W:=h;have h1:=h0.tail;have h2:=h1.tail;have t32:Tz32M W:=by
  obtain⟨ps,⟨g',t',cs,fuel,p,q,hg',ht',hv,hd,_,_⟩,_⟩:=h0
  obtain rfl := Option.some.inj ((show Tryz.prog.globalNamed "math/bits.deBruijn32tab" = some 2 by kernel_rfl).symm.trans hg')
  obtain rfl:=Option.some.inj ((show (Tryz.prog.globals[2]?).map (·.type)=some 280 by kernel_rfl).symm.trans ht');obtain⟨bs,h1,h2,h3⟩:=zfW Tryz.underlying280 Tryz.underlying5 (by kernel_rfl) (by kernel_rfl) hd;have hbs:bs=zlh:=by
   have e:(Rows.laid_math_bits_deBruijn32tab:DataW Unit) = .agg (zlh.map fun b => .lit (.int .u8 b.toNat)):=rfl;exact zhY (DataW.agg.inj (h3.symm.trans e))
  subst hbs;refine zcG fun i v hvv=>?_;have hc:=World.var?_cell hg' hv i;rw [<- hvv,<- h2];simpa using hc
 have t64:Tz64M W:=by
  obtain⟨ps,⟨g',t',cs,fuel,p,q,hg',ht',hv,hd,_,_⟩,_⟩:=h1
  obtain rfl := Option.some.inj ((show Tryz.prog.globalNamed "math/bits.deBruijn64tab" = some 0 by kernel_rfl).symm.trans hg')
  obtain rfl:=Option.some.inj ((show (Tryz.prog.globals[0]?).map (·.type)=some 217 by kernel_rfl).symm.trans ht');obtain⟨bs,h1,h2,h3⟩:=zfW Tryz.underlying217 Tryz.underlying5 (by kernel_rfl) (by kernel_rfl) hd;have hbs:bs=zlg:=by
   have e:(Rows.laid_math_bits_deBruijn64tab:DataW Unit) = .agg (zlg.map fun b => .lit (.int .u8 b.toNat)):=rfl;exact zhY (DataW.agg.inj (h3.symm.trans e))
  subst hbs;refine zcG fun i v hvv=>?_;have hc:=World.var?_cell hg' hv i;rw [<- hvv,<- h2];simpa using hc
 have needs:GlobC W:=by
  obtain⟨ps,⟨g',t',cs,fuel,p,q,hg',ht',hv,hd,_,_⟩,_⟩:=h2
  obtain rfl := Option.some.inj ((show Tryz.prog.globalNamed "seisin/check.needs" = some 1 by kernel_rfl).symm.trans hg')
  obtain rfl:=Option.some.inj ((show (Tryz.prog.globals[1]?).map (·.type)=some 270 by kernel_rfl).symm.trans ht');obtain⟨bs,h1,h2,h3⟩:=zfW Tryz.underlying270 Tryz.underlying5 (by kernel_rfl) (by kernel_rfl) hd;have hbs:bs=zhR:=by
   match bs,h1 with
   | [b0,b1,b2,b3,b4,b5,b6,b7,b8],_ =>
    simp only [Rows.laid_seisin_check_needs,List.map_cons,List.map_nil,DataW.agg.injEq,List.cons.injEq,DataW.lit.injEq,Lit.int.injEq,true_and,and_true] at h3;simp only [zhR,List.cons.injEq,and_true];obtain⟨a0,a1,a2,a3,a4,a5,a6,a7,a8⟩:=h3;refine⟨?_,?_,?_,?_,?_,?_,?_,?_,?_⟩ <;> (apply UInt8.toNat_inj.1;simp;omega)
  subst hbs;refine zcG fun i v hvv=>?_;have hc:=World.var?_cell hg' hv i;rw [<- hvv,<- h2];simpa using hc
 exact⟨t32,t64,needs⟩
def zr7:DataW Unit->List Value
 | .lit (.int k n)=>[.int k n]
 | .lit (.string s)=>[.string ⟨s.toArray⟩]
 | _=>[]
def zqD:DataW Unit->List Value
 | .agg ps=>ps.flatMap zr7
 | x=>zr7 x
def zp6 (h:Array Obj) (g:Nat) (cs:List Value):Array Obj:=h.modify g fun
 | .cells _ t frozen => .cells cs.toArray t frozen
 | o=>o
def ztb (h:Array Obj):Array Obj :=
 let h1:=zp6 h 2 (zqD Rows.laid_math_bits_deBruijn32tab)
 let h2:=zp6 h1 0 (zqD Rows.laid_math_bits_deBruijn64tab)
 zp6 h2 1 (zqD Rows.laid_seisin_check_needs)
noncomputable def zho (os:Os):World :=
 { World.holding Tryz.prog os ⟨#[],#[],[]⟩ with heap:=ztb (World.holding Tryz.prog os ⟨#[],#[],[]⟩).heap }
theorem zg7 (os:Os) (args:Array Value):laidMetH Tryz.prog zc4 ((zho os).forCall (fun _ _=>0) ⟨#[],args,[]⟩).memory:=by
 show laidMet Tryz.prog zc4 _;exact laidMet_of_run' 8 (by kernel_rfl) (by kernel_rfl)
end Go.Proofs.YtmbghmhjjodgmaaGreatDoor
