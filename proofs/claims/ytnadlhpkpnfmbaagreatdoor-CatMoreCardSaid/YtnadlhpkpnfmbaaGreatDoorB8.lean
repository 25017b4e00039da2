/- Contracts of functions, and plain facts, for the law that the last text of this claim proves. -/
import Derived.Test.YtnadlhpkpnfmbaaGreatDoorB7
import Derived.Test.YtnadlhpkpnfmbaaGreatDoorB1
import Derived.Test.YtnadlhpkpnfmbaaGreatDoorB2
import Derived.Test.YtnadlhpkpnfmbaaGreatDoorRows
import Derived.ProofKit
import Derived.OpenShut
import Derived.LaidLaws
import Derived.Below
import Derived.HandedShaped
import Derived.KernelRfl
import Derived.WalkKit
import Derived.ChangeOld
import Derived.SevenTiedAt
import Derived.LaidHandle
import Derived.Stop.LaidErr
import Derived.Lib.LaidTab
import Derived.SizedLaws
import Derived.Test.YtnadlhpkpnfmbaaGreatDoorB5
import Derived.Test.YtnadlhpkpnfmbaaGreatDoorB6
import Derived.Test.YtnadlhpkpnfmbaaGreatDoorB4
set_option linter.unusedSimpArgs false
set_option linter.unusedVariables false
namespace Go.Proofs.YtnadlhpkpnfmbaaGreatDoor
open Go.Vc Go.RowKit Go.Sei
theorem jS {W:Wd} {p a:OA} {c ca m B ty:Nat} {l news:List zW} (ho:OwnS jb 49 B W p c l) (hm:news.length=m) (hn:SlR jb W a news) (hc:a=none->ca=0) (hB:B<=W.heap.size) (hl:l.length+m<=1000) {K:Value->Wd->Prop}
  (k:∀ p' c' W',OwnS jb 49 B W' p' c' (l++news)->Below B W W'->(∀ g cs t,W.heap[g]?=some (Obj.cells cs t (0,0))->(∀ a,p=some a->a.block≠g)->W'.heap[g]?=some (Obj.cells cs t (0,0)))->(∀ a,p'=some a->p=some a\/W.heap.size<=a.block)->K (.slice p' (l++news).length c') W') :
  SatR ((Builtin.append_ #[45,45] ty #[.slice p l.length c,.slice a m ca]).run PG W) K:=by
 have hn':∀ b,a=some b->zq W b (news.flatMap jb.enc):=fun b e=>by
  subst e;by_cases h0:news=[]
  ·subst h0;exact fun i v hv=>by simp at hv
  ·rcases hn with h | ⟨b,o,h,hb,hcs⟩
   ·exact GE h h0
   ·cases h
    exact SlR.cells (.inr ⟨b,o,rfl,hb,hcs⟩)
 cases a with
 | none =>
  have hn:=hn.none;have hc:=hc rfl;subst hn hc;simp at hm;subst hm;obtain⟨⟨inf,hi,hsz,hby,hzz⟩,_⟩:=jm.get 49 _ rfl;refine SatR.mk (JT (P:=PG) (w:=W) B _ ty 49 inf jb.sz Tryz.underlying45 hi _ _ _ ho) ?_;have:=k p c W (by rw [QQ];exact ho) (Gn _ _ |>.mono hB) (fun _ _ _ h _=>h) (fun a ha => .inl ha)
  rwa [QQ] at this
 | some b =>
  refine q9 Tryz.underlying45 k49 rfl rfl rfl ho hm (hn' b rfl) hB (by omega) (by show (l.length+m)*72<=_;omega) fun p' c' W' h1 h2 h3 h4=>k p' c' W' h1 h3 (fun g cs t hg hne=>?_) fun a ha=>?_
  ·refine (h2.block g (hlt hg) ?_).trans hg
   cases p with
   | none=>intro e;cases e
   | some pa=>intro e;exact hne pa rfl (Uj e).symm
  ·rcases h4 a ha with h | h
   ·exact .inl h
   ·exact .inr (by omega)
theorem zaZ {W:Wd} {p:OA} {c B g:Nat} {l:List zW} {cs:Array Value} {t:TypeId} {fr:Nat×Nat} (ho:OwnS jb 49 B W p c l) (hg:W.heap[g]?=some (.cells cs t fr)) (ht:t≠49):∀ a,p=some a->a.block≠g:=fun a ha e=>by
 obtain⟨_,_,cur,h1⟩:=zy ho ha;rw [e,hg] at h1;exact ht (Obj.cells.inj (Uj h1)).2.1
theorem zpi {X Y:Wd} {r:OA} {cr n cl:Nat} {ls:List LineD} {y:LineD} {q:OA} {rows:List zW} (hr:rows.map (·.1)=ls) (hk:LinK qy X rows) (hkq:KidsT qy X q y.term.kids) (hy:y.kind<=255/\y.name.length<=140737488351232/\y.term.name.length<=140737488351232) (hb:Bw X Y) (ho:OwnS jb 49 n Y r cr (rows++[(y,q,cl)])):LinsM qy Y r (ls++[y]):=by
 refine⟨rows++[(y,q,cl)],by rw [QW,hr];rfl,ho.row,fun z hz=>?_,fun _ _ _=>trivial⟩;rcases QX.1 hz with hz | hz
 ·obtain⟨h1,h2,h3,h4⟩:=hk z hz;exact⟨h1,h2,h3,h4.kept hb⟩
 ·obtain rfl:=KC.1 hz;exact⟨hy.1,hy.2.1,hy.2.2,hkq.kept hb⟩
section
variable {a b:Trm} {qa qb q p:OA} {ca cb c cap L:Nat} {x:ExD} {w X Y:Wd} {ls:List LineD}
structure MrB (w:Wd) (L:Nat) (ls:List LineD) (p:OA) (cap:Nat) (a b:Trm) (qa qb:OA) (ca cb:Nat) (x:ExD) (q:OA) (c:Nat) (X:Wd):Prop where
 C:X.heap[L]?=some (.cells #[.slice p ls.length cap] 47 (0,0))
 A:X.heap[L+1]?=some (.cells (zd a qa ca).toArray 24 (0,0))
 B:X.heap[L+2]?=some (.cells (zd b qb cb).toArray 24 (0,0))
 E:ExH X (L+3) x q c
 M:LinsM qy X p ls
 ka:KidsT qy X qa a.kids
 kb:KidsT qy X qb b.kids
 bl:Bw w X
theorem MrB.below (h:MrB w L ls p cap a b qa qb ca cb x q c X) (hb:Bw X Y):MrB w L ls p cap a b qa qb ca cb x q c Y :=
 ⟨zb hb h.C,zb hb h.A,zb hb h.B,zb hb h.E,h.M.below hb,h.ka.kept hb,h.kb.kept hb,zst h.bl hb⟩
theorem zn3 (hM:LinsM qy w p ls) (hlen:ls.length<=140737488351232) (hcap:p=none->cap=0) (ka:KidsT qy w qa a.kids) (la:a.name.length<=140737488351232) (kb:KidsT qy w qb b.kids) (lb:b.name.length<=140737488351232) (hv0:SlR evE w q x.ev/\WX x) (hG:GlobA w) :
  CB 6 #[.agg #[.slice p ls.length cap],.agg (zd a qa ca).toArray,.agg (zd b qb cb).toArray,.agg (exC x q c).toArray] w (.bool true):=by
 refine zV 196 [.agg #[.slice p ls.length cap],.agg (zd a qa ca).toArray,.agg (zd b qb cb).toArray,.agg (exC x q c).toArray] (.c .p (.c (.s .p .p) (.c (.s .p (.s .p .p)) (.c .p (.c (.s .p (.b (.l (.s .p (.s .p (.s (.b (.c .p (.s .p .p))) .p)))))) (.s (.s .p (.b (.l (.s .p (.s .p (.s (.b (.c .p (.c .p (.c .p (.c .p (.c (.s .p .p) (.c .p (.c .p (.s .p .p))))))))) .p)))))) .p)))))) Tryz.func6 ?_;have aw:∀ {X:Wd},Bw w X->Calls PG 11 #[] X fun e w'=>e = .returned (.bool true)/\Bw w w':=fun {X} b=>(ztQ (hG.below b)).mono fun e Y h=>⟨h.1,zst b h.2⟩;obtain⟨L,hL⟩:=nm (w.heap.size);refine⟨Unit,fun _=>⟨[(4,At0 L),(5,At0 (L+1)),(6,At0 (L+2)),(7,At0 (L+3))],[]⟩,fun _ X=>MrB w L ls p cap a b qa qb ca cb x q c X,?_,?_⟩
 ·obtain⟨W0,e0⟩:=nm (w.alloc (.cells #[.slice p ls.length cap] 47));have n0:W0.heap.size=L+1:=by rw [e0,hL];exact wz _ _
  have f0:W0.heap[L]?=some (.cells #[.slice p ls.length cap] 47 (0,0)):=by rw [e0,hL];exact zt w _
  have b0:Bw w W0:=by rw [e0];exact zba _ _
  obtain⟨h1,h2,h3⟩:=LtB.start (w:=W0) (ca:=ca) (cb:=cb) (x:=x) (q:=q) (c:=c) (ka.kept b0) (kb.kept b0);rw [n0] at h1 h2 h3;have key:=fun {V:Wd} (h:LtB W0 (L+1) a b qa qb ca cb x q c V)=>(show MrB w L ls p cap a b qa qb ca cb x q c V from ⟨zb h.bl f0,h.A,h.B,h.E,(hM.below b0).below h.bl,h.ka,h.kb,zst b0 h.bl⟩) ;have key1:=key h1;rw [e0] at key1 n0 h2 h3;exact⟨(),⟨.cons (by rw [hL];rfl) (.cons (Gx (fun n=>some (At0 n)) n0) (.cons (Gx (fun n=>some (At0 n)) h2) (.cons (Gx (fun n=>some (At0 n)) h3) .nil))),rfl⟩,key1⟩
 clear ka kb hM;rintro _ X hX;refine⟨Unit,fun _=>⟨[(4,At0 L),(5,At0 (L+1)),(6,At0 (L+2)),(7,At0 (L+3))],[]⟩,fun _ X=>MrB w L ls p cap a b qa qb ca cb x q c X/\ls.length<=20/\x.ev.length<=14/\qm x=true,?_,?_⟩
 ·refine DrawE.ord [] [0,1,2,3,4,5,6,7,8,9,10,11,12,13,14,15,16,17,18,19,20,22,21,23,24,25,26,27,28,29,30,31,32,33,34,35,36,37] (by kernel_rfl) ?_;replace hX:=hX.below (Gn X.heap.size X).drew;obtain⟨X1,hX1⟩:=nm (X.drew);rw [<- hX1] at hX ⊢;refine⟨_,zc (za hX.C) (i:=0) rfl,biE (fun h=>?_) fun h0=>?_⟩
  ·refine brT (brT (brT (brT (brT (brT (cmo (aw hX.bl) ?_))))));rintro e Z ⟨rfl,bZ⟩;exact⟨rfl,bZ⟩
  have h0:¬ (20:Int)<(ls.length:Int):=dF h0;refine⟨_,rfl,za hX.C,hlt hX.C,cmo (zvj (cap:=cap) hX.M hlen) ?_⟩;rintro e Y ⟨rfl,bY⟩;refine⟨bY,?_⟩;replace hX:=hX.below bY;clear bY;refine biE (fun h=>?_) fun _=>?_
  ·refine brT (brT (brT (brT (brT (cmo (aw hX.bl) ?_)))));rintro e Z ⟨rfl,bZ⟩;exact⟨rfl,bZ⟩
  refine⟨_,rfl,za hX.A,hlt hX.A,cmo (zjh 30 a qa ca Y (by decide) hX.ka) ?_⟩;rintro e Z ⟨rfl,bY⟩;refine⟨bY,?_⟩;replace hX:=hX.below bY;clear bY;refine biE (fun h=>?_) fun h1=>?_
  ·refine brT (brT (brT (brT (cmo (aw hX.bl) ?_))));rintro e Z ⟨rfl,bZ⟩;exact⟨rfl,bZ⟩
  have h1:zae 30 a=true:=zec h1;have h1d:=za3 _ _ h1;have h1n:=nodesA_le a;refine⟨_,rfl,za hX.B,hlt hX.B,cmo (zjh 30 b qb cb Z (by decide) hX.kb) ?_⟩;rintro e V ⟨rfl,bY⟩;refine⟨bY,?_⟩;replace hX:=hX.below bY;clear bY;refine biE (fun h=>?_) fun h2=>?_
  ·refine brT (brT (brT (cmo (aw hX.bl) ?_)));rintro e Z ⟨rfl,bZ⟩;exact⟨rfl,bZ⟩
  have h2:zae 30 b=true:=zec h2;have h2d:=za3 _ _ h2;have h2n:=nodesA_le b;refine⟨_,rfl,za hX.A,hlt hX.A,_,rfl,za hX.B,hlt hX.B,cmo (zeM a qa ca V (by omega) hX.ka) ?_⟩;rintro e U ⟨rfl,bY⟩;refine⟨bY,?_⟩;replace hX:=hX.below bY;clear bY;refine cmo (zeM b qb cb U (by omega) hX.kb) ?_;rintro e T ⟨rfl,bY⟩;refine⟨bY,?_⟩;replace hX:=hX.below bY;clear bY;refine⟨((nodesA a+nodesA b:Nat):Int),(zj (by omega)).trans (by omega),biE (fun h=>?_) fun _=>?_⟩
  ·refine brT (brT (cmo (aw hX.bl) ?_));rintro e Z ⟨rfl,bZ⟩;exact⟨rfl,bZ⟩
  refine⟨_,zaz (za hX.E),biE (fun h=>?_) fun h5=>?_⟩
  ·refine brT (cmo (aw hX.bl) ?_);rintro e Z ⟨rfl,bZ⟩;exact⟨rfl,bZ⟩
  have h5:¬ (14:Int)<(x.ev.length:Int):=dF h5;have hv:ExV w x q:=⟨hv0.1,by omega,hv0.2.po,hv0.2.rf,hv0.2.co,hv0.2.dt,hv0.2.ct,hv0.2.rm⟩;refine⟨exC x q c,zH _ _ _,za hX.E,hlt hX.E,cmo (zdD (hv.below hX.bl) (hG.e.t64.below hX.bl)) ?_⟩;rintro e S ⟨rfl,bY⟩;refine⟨bY,?_⟩;replace hX:=hX.below bY;clear bY;refine biE (fun h=>?_) fun h6=>?_
  ·refine cmo (aw hX.bl) ?_;rintro e Z ⟨rfl,bZ⟩;exact⟨rfl,bZ⟩
  exact⟨(),(cvE rfl rfl),hX,by omega,by omega,zec h6⟩
 clear hX X;rintro _ X ⟨hX,h20,h14,hr⟩;have hv:ExV w x q:=⟨hv0.1,by omega,hv0.2.po,hv0.2.rf,hv0.2.co,hv0.2.dt,hv0.2.ct,hv0.2.rm⟩;have hw:=hv0.2;clear hv0;have z6:∀ {m:List LineD} {r:OA} {cr:Nat} {V:Wd},Bw w V->LinsM qy V r m->m.length<=1000 ->
   CB 29 #[.agg #[.slice r m.length cr],.agg (exC x q c).toArray] V (.tuple #[.bool (qA m x).1,zr (qA m x).2.1,i64 (qA m x).2.2]):=fun {m r cr V} b hM hl =>
  zrm (hG.k.below b) hM (by omega) (hv.below b) (hG.e.t64.below b)
 refine⟨Unit,fun _=>⟨[(4,At0 L),(5,At0 (L+1)),(6,At0 (L+2)),(7,At0 (L+3))],[]⟩,fun _ X=>MrB w L ls p cap a b qa qb ca cb x q c X,?_,?_⟩
 ·refine⟨[.slice none 0 0],rfl,exC x q c,zH _ _ _,za hX.E,hlt hX.E,cmo (z6 (m:=[]) (cr:=0) hX.bl LinsM.none (by decide)) ?_⟩;rintro e Y ⟨rfl,bY⟩;rw [ztg hr];exact brF (brN (show (!decide ((0:Int)=0))=false from rfl) ⟨(),(cvE rfl rfl),hX.below bY⟩)
 clear hX X;rintro _ X hX;obtain⟨fr,hfr⟩:∃ fr:Bs,fr=List.replicate 16 122:=⟨_,rfl⟩;have frl:fr.length<=140737488351232:=by rw [hfr];decide
 refine⟨Unit,fun _=>⟨[(4,At0 L),(5,At0 (L+1)),(6,At0 (L+2)),(7,At0 (L+3)),(12,zr fr)],[]⟩,fun _ X=>MrB w L ls p cap a b qa qb ca cb x q c X,?_,?_⟩
 ·refine cmo (Tryz.strings_Repeat (bs [122]) 16 X (by decide) (by decide)) ?_;rintro e Y ⟨rfl,bY⟩;exact⟨(),⟨.cons rfl (.cons rfl (.cons rfl (.cons rfl (.cons (by rw [hfr];kernel_rfl) .nil)))),rfl⟩,hX.below bY⟩
 clear hX X;rintro _ X hX;refine⟨Unit,fun _=>⟨[(4,At0 L),(5,At0 (L+1)),(6,At0 (L+2)),(7,At0 (L+3)),(12,zr fr)],[]⟩,fun _ X=>MrB w L ls p cap a b qa qb ca cb x q c X,?_,?_⟩
 ·refine⟨_,zc (za hX.C) (i:=0) rfl,Nat,fun i=>⟨[(4,At0 L),(5,At0 (L+1)),(6,At0 (L+2)),(7,At0 (L+3)),(12,zr fr),(84,.slice p ls.length cap),(85,i64 (ls.length:Nat)),(86,.int .i64 (i:Nat))],[]⟩,fun i X=>MrB w L ls p cap a b qa qb ca cb x q c X/\i<=ls.length,fun i=>ls.length-i,0,(cvE rfl rfl),⟨hX,Gk _⟩,?_⟩;clear hX X;rintro i X ⟨hX,hi⟩;dsimp only at hi ⊢;refine biE (fun hc=>?_) fun hc=>?_
  ·have hc:(i:Int)<(ls.length:Int):=dT hc;have hil:i<ls.length:=by omega
   obtain⟨b1,o1,q1,c1,hp,e1,s1,_,_,m1,k1⟩:=hX.M.line hil;obtain⟨u,hu⟩:=nm (ls[i]);rw [<- hu] at e1;refine⟨Nat,fun b14=>⟨[(4,At0 L),(5,At0 (L+1)),(6,At0 (L+2)),(7,At0 (L+3)),(12,zr fr),(14,At0 b14),(84,.slice p ls.length cap),(85,i64 (ls.length:Nat)),(86,.int .i64 (i:Nat))],[]⟩,fun b14 Y=>MrB w L ls p cap a b qa qb ca cb x q c Y/\Y.heap[b14]?=some (.cells (zz u.kind u.name u.term q1 c1).toArray 49 (0,0)),?_,?_⟩
   ·subst hp;exact⟨i,rfl,hil,_,rfl,e1,s1,zn (X:=X) (v := .agg (zz u.kind u.name u.term q1 c1).toArray) k49 rfl rfl rfl fun Y hbY fY sY=>⟨X.heap.size,(cvE rfl rfl),hX.below hbY,fY⟩⟩
   clear hX e1 s1 k1 X;rintro b14 X ⟨hX,f14⟩;refine⟨_,zc (za f14) (i:=1) rfl,_,fun w=>zD _ _ u.name fr w,biE (fun h=>?_) fun h=>?_⟩
   ·refine cmo (aw hX.bl) ?_;rintro e Z ⟨rfl,bZ⟩;exact⟨rfl,bZ⟩
   ·exact nxI (by omega) ⟨i+1,(cvE rfl rfl),⟨hX,hil⟩,zdc (by omega)⟩
  ·exact⟨(),(cvE rfl rfl),hX⟩
 clear hX X;rintro _ X hX;refine⟨⟨by decide,by decide,rfl⟩,[u8 1,u8 2,u8 3],rfl,?_⟩;obtain⟨kb,hkb⟩:=nm (X.heap.size);rw [<- hkb];refine⟨Nat,fun i=>⟨[(4,At0 L),(5,At0 (L+1)),(6,At0 (L+2)),(7,At0 (L+3)),(12,zr fr),(96,.slice (some ⟨kb,0,none⟩) 3 3),(97,i64 3),(98,.int .i64 (i:Nat))],[]⟩,fun i X=>MrB w L ls p cap a b qa qb ca cb x q c X/\X.heap[kb]?=some (.cells #[u8 1,u8 2,u8 3] 5 (0,0))/\i<=3,fun i=>3-i,0,(cvE rfl rfl),⟨hX.below (zba _ _),by rw [hkb];exact zt _ _,Gk _⟩,?_⟩;clear hX hkb X;rintro i X ⟨hX,fk,hi⟩;dsimp only at hi ⊢;refine biE (fun hc=>?_) fun hc=>?_
 ·have hc:(i:Int)<3:=dT hc;refine⟨UInt8,fun k=>⟨[(4,At0 L),(5,At0 (L+1)),(6,At0 (L+2)),(7,At0 (L+3)),(12,zr fr),(16,u8 k),(96,.slice (some ⟨kb,0,none⟩) 3 3),(97,i64 3),(98,.int .i64 (i:Nat))],[]⟩,fun k Y=>X=Y/\k.toNat≠0,?_,?_⟩
  ·have hk:=hlt fk;rcases (by omega:i=0\/i=1\/i=2) with rfl | rfl | rfl
   ·refine⟨0,rfl,by decide,?_⟩;exact⟨_,zc (za fk) (i:=0) rfl,1,(cvE rfl rfl),rfl,by decide⟩
   ·refine⟨1,rfl,by decide,?_⟩;exact⟨_,zc (za fk) (i:=1) rfl,2,(cvE rfl rfl),rfl,by decide⟩
   ·refine⟨2,rfl,by decide,?_⟩;exact⟨_,zc (za fk) (i:=2) rfl,3,(cvE rfl rfl),rfl,by decide⟩
  rintro k _ ⟨rfl,hk0⟩;obtain⟨M,hMd⟩:∃ M:List LineD,M=ls++[⟨k.toNat,fr,a⟩]:=⟨_,rfl⟩;have hMl:M.length=ls.length+1:=by rw [hMd,lap];rfl
  refine⟨Nat×OA×Nat,fun y=>⟨[(4,At0 L),(5,At0 (L+1)),(6,At0 (L+2)),(7,At0 (L+3)),(12,zr fr),(16,u8 k),(17,At0 y.1),(96,.slice (some ⟨kb,0,none⟩) 3 3),(97,i64 3),(98,.int .i64 (i:Nat))],[]⟩,fun y Y=>MrB w L ls p cap a b qa qb ca cb x q c Y/\Y.heap[kb]?=some (.cells #[u8 1,u8 2,u8 3] 5 (0,0))/\Y.heap[y.1]?=some (.cells #[.slice y.2.1 M.length y.2.2] 47 (0,0))/\LinsM qy Y y.2.1 M,?_,?_⟩
  ·obtain⟨rows,hrm,zat,hlk,_⟩:=hX.M;have hrl:rows.length=ls.length:=by rw [<- hrm,QT]
   have bd:=(Gn X.heap.size X).drew;obtain⟨B,hB⟩:=nm (X.heap.size);obtain⟨Lc,hLc⟩:=nm (zz k.toNat fr a qa ca);have hkk:k.toNat<=255:=by have:=k.toNat_lt;omega
   have hLe:[((⟨k.toNat,fr,a⟩,qa,ca):zW)].flatMap jb.enc=Lc:=by rw [hLc,KU,Qs,QQ];rfl
   have fin:∀ {V:Wd} {g:Nat} {r:OA} {cr:Nat},X.heap.size<=g->V.heap[g]?=some (.cells #[.slice none 0 0] 47 (0,0))->Bw X V->OwnS jb 49 B V r cr (rows++[((⟨k.toNat,fr,a⟩,qa,ca):zW)]) ->
     MrB w L ls p cap a b qa qb ca cb x q c (V.setRow g #[.slice r (rows++[((⟨k.toNat,fr,a⟩,qa,ca):zW)]).length cr])/\(V.setRow g #[.slice r (rows++[((⟨k.toNat,fr,a⟩,qa,ca):zW)]).length cr]).heap[kb]?=some (.cells #[u8 1,u8 2,u8 3] 5 (0,0))/\(V.setRow g #[.slice r (rows++[((⟨k.toNat,fr,a⟩,qa,ca):zW)]).length cr]).heap[g]?=some (.cells #[.slice r M.length cr] 47 (0,0))/\LinsM qy (V.setRow g #[.slice r (rows++[((⟨k.toNat,fr,a⟩,qa,ca):zW)]).length cr]) r M:=fun {V g r cr} hg f hb ho=>by
    have hrn:(rows++[((⟨k.toNat,fr,a⟩,qa,ca):zW)]).length=M.length:=(by rw [hMl,lap,hrl];rfl);have bs:=zi (B:=X.heap.size) hb hg #[.slice r (rows++[((⟨k.toNat,fr,a⟩,qa,ca):zW)]).length cr];have fs:(V.setRow g #[.slice r (rows++[((⟨k.toNat,fr,a⟩,qa,ca):zW)]).length cr]).heap[g]?=some (.cells #[.slice r (rows++[((⟨k.toNat,fr,a⟩,qa,ca):zW)]).length cr] 47 (0,0)):=zm f;have os:OwnS jb 49 B (V.setRow g #[.slice r (rows++[((⟨k.toNat,fr,a⟩,qa,ca):zW)]).length cr]) r cr (rows++[((⟨k.toNat,fr,a⟩,qa,ca):zW)]):=ho.same fun a ha=>zo (zaZ ho f (by decide) a ha);have hl:LinsM qy (V.setRow g #[.slice r (rows++[((⟨k.toNat,fr,a⟩,qa,ca):zW)]).length cr]) r M:=hMd.symm▸zpi hrm hlk hX.ka ⟨hkk,frl,la⟩ bs os;rw [hrn] at fs hl bs ⊢;exact⟨hX.below bs,zb bs fk,fs,hl⟩
   refine DrawE.treeQ [9,12] (.op 1 (.op 2 (.op 4 (.op 5 (.op 6 (.op 7 (.alt (.op 0 (.alt (.op 3 (.alt (.op 8 (.alt (.op 9 (.op 10 (.op 11 (.op 12 (.nil))))) (.op 11 (.op 9 (.op 10 (.op 12 (.nil))))))) (.op 11 (.op 8 (.op 9 (.op 10 (.op 12 (.nil)))))))) (.alt (.op 8 (.alt (.op 3 (.alt (.op 9 (.op 10 (.op 11 (.op 12 (.nil))))) (.op 11 (.op 9 (.op 10 (.op 12 (.nil))))))) (.op 11 (.op 3 (.op 9 (.op 10 (.op 12 (.nil)))))))) (.op 11 (.alt (.op 3 (.op 8 (.op 9 (.op 10 (.op 12 (.nil)))))) (.op 8 (.op 3 (.op 9 (.op 10 (.op 12 (.nil))))))))))) (.alt (.op 8 (.alt (.op 0 (.alt (.op 3 (.alt (.op 9 (.op 10 (.op 11 (.op 12 (.nil))))) (.op 11 (.op 9 (.op 10 (.op 12 (.nil))))))) (.op 11 (.op 3 (.op 9 (.op 10 (.op 12 (.nil)))))))) (.op 11 (.op 0 (.op 3 (.op 9 (.op 10 (.op 12 (.nil))))))))) (.op 11 (.alt (.op 0 (.alt (.op 3 (.op 8 (.op 9 (.op 10 (.op 12 (.nil)))))) (.op 8 (.op 3 (.op 9 (.op 10 (.op 12 (.nil)))))))) (.op 8 (.op 0 (.op 3 (.op 9 (.op 10 (.op 12 (.nil))))))))))))))))) (by kernel_rfl) ?_;obtain⟨X1,hX1⟩:=nm (X.drew);rw [<- hX1] at bd ⊢;have hD:=hX.below bd;refine⟨_,zc (za hD.C) (i:=0) rfl,_,rfl,za hD.A,hlt hD.A,Lc,by rw [hLc];rfl,?_⟩;refine Gt ?_ (Gt ?_ ?_)
   ·refine⟨⟨by decide,by decide,rfl⟩,[],rfl,?_⟩;have v1:Bw X1 (X1.alloc (.cells #[] 49)):=zba _ _;refine⟨v1,?_⟩;have c1:=zst bd v1;have a1:(X1.alloc (.cells #[] 49)).heap[X1.heap.size]?=some (.cells #[] 49 (0,0)):=zt _ _;have l1:=bd.size;refine Gt ?_ (Gt ?_ ?_)
    ·refine zaf (g:=X1.heap.size) (B:=B) (m:=ls.length) (news:=rows) a1 (by rw [hB];exact l1) hrl (zat.below c1) hcap (by omega) fun q2 d2 W2 o2 w2 z2=>⟨w2,?_⟩;have c2:=zst c1 w2;refine Gt ?_ ?_
     ·refine⟨⟨by decide,by decide,rfl⟩,Lc,by rw [hLc];rfl,?_⟩;have v3:Bw W2 (W2.alloc (.cells Lc.toArray 49)):=zba _ _;refine⟨v3,?_⟩;have c3:=zst c2 v3;have o3:=o2.below v3;have f3:(W2.alloc (.cells Lc.toArray 49)).heap[W2.heap.size]?=some (.cells Lc.toArray 49 (0,0)):=zt _ _;have n3:∀ a,q2=some a->a.block≠W2.heap.size:=fun a ha=>by have:=(zy o2 ha).2.1;omega
      refine Gt ?_ ?_
      ·have r4:SlR jb (W2.alloc (.cells Lc.toArray 49)) (some ⟨W2.heap.size,0,none⟩) [((⟨k.toNat,fr,a⟩,qa,ca):zW)]:=SlR.of_cells (hlt f3) (by rw [hLe];exact za f3);refine jS (B:=B) (m:=1) (l:=rows) (news:=[((⟨k.toNat,fr,a⟩,qa,ca):zW)]) (c:=d2) o3 rfl r4 (fun h=>by cases h) (by rw [hB];exact c3.size) (by rw [hrl];omega) fun q4 d4 W4 o4 w4 y4 z4=>?_;have c4:Bw X W4:=c3.trans (by rw [hB] at w4;exact w4);refine⟨_,rfl,?_⟩;have v5:Bw W4 (W4.alloc (.cells #[.slice none 0 0] 47)):=zba _ _;refine⟨v5,?_⟩;have c5:=zst c4 v5;have o5:=o4.below v5;have g5:(W4.alloc (.cells #[.slice none 0 0] 47)).heap[W4.heap.size]?=some (.cells #[.slice none 0 0] 47 (0,0)):=zt _ _;have lzc5:=c4.size;exact zl (v := .agg #[.slice q4 (rows++[((⟨k.toNat,fr,a⟩,qa,ca):zW)]).length d4]) k47 (g5) rfl rfl rfl ⟨(W4.heap.size,q4,d4),(cvE rfl rfl),fin lzc5 g5 c5 o5⟩
      ·have v6:Below (W2.alloc (.cells Lc.toArray 49)).heap.size (W2.alloc (.cells Lc.toArray 49)) ((W2.alloc (.cells Lc.toArray 49)).alloc (.cells #[.slice none 0 0] 47)):=zba _ _;refine⟨v6,?_⟩;have c6:=zst c3 v6;have f6:=zb v6 f3;have o6:=o3.below v6;have g6:((W2.alloc (.cells Lc.toArray 49)).alloc (.cells #[.slice none 0 0] 47)).heap[(W2.alloc (.cells Lc.toArray 49)).heap.size]?=some (.cells #[.slice none 0 0] 47 (0,0)):=zt _ _;have lzc6:=c3.size;have r7:SlR jb ((W2.alloc (.cells Lc.toArray 49)).alloc (.cells #[.slice none 0 0] 47)) (some ⟨W2.heap.size,0,none⟩) [((⟨k.toNat,fr,a⟩,qa,ca):zW)]:=SlR.of_cells (hlt f6) (by rw [hLe];exact za f6);refine jS (B:=B) (m:=1) (l:=rows) (news:=[((⟨k.toNat,fr,a⟩,qa,ca):zW)]) (c:=d2) o6 rfl r7 (fun h=>by cases h) (by rw [hB];exact c6.size) (by rw [hrl];omega) fun q7 d7 W7 o7 w7 y7 z7=>?_;have c7:Bw X W7:=c6.trans (by rw [hB] at w7;exact w7);have g7:=y7 _ _ _ g6 (zaZ o6 g6 (by decide));exact⟨_,rfl,zl (v := .agg #[.slice q7 (rows++[((⟨k.toNat,fr,a⟩,qa,ca):zW)]).length d7]) k47 (g7) rfl rfl rfl ⟨((W2.alloc (.cells Lc.toArray 49)).heap.size,q7,d7),(cvE rfl rfl),fin lzc6 g7 c7 o7⟩⟩
     ·have v8:Bw W2 (W2.alloc (.cells #[.slice none 0 0] 47)):=zba _ _;refine⟨v8,?_⟩;have c8:=zst c2 v8;have o8:=o2.below v8;have g8:(W2.alloc (.cells #[.slice none 0 0] 47)).heap[W2.heap.size]?=some (.cells #[.slice none 0 0] 47 (0,0)):=zt _ _;have lzc8:=c2.size;refine⟨⟨by decide,by decide,rfl⟩,Lc,by rw [hLc];rfl,?_⟩;have v9:Below (W2.alloc (.cells #[.slice none 0 0] 47)).heap.size (W2.alloc (.cells #[.slice none 0 0] 47)) ((W2.alloc (.cells #[.slice none 0 0] 47)).alloc (.cells Lc.toArray 49)):=zba _ _;refine⟨v9,?_⟩;have c9:=zst c8 v9;have g9:=zb v9 g8;have o9:=o8.below v9;have f9:((W2.alloc (.cells #[.slice none 0 0] 47)).alloc (.cells Lc.toArray 49)).heap[(W2.alloc (.cells #[.slice none 0 0] 47)).heap.size]?=some (.cells Lc.toArray 49 (0,0)):=zt _ _;have n9:∀ a,q2=some a->a.block≠(W2.alloc (.cells #[.slice none 0 0] 47)).heap.size:=fun a ha=>by have:=(zy o8 ha).2.1;omega
      have r10:SlR jb ((W2.alloc (.cells #[.slice none 0 0] 47)).alloc (.cells Lc.toArray 49)) (some ⟨(W2.alloc (.cells #[.slice none 0 0] 47)).heap.size,0,none⟩) [((⟨k.toNat,fr,a⟩,qa,ca):zW)]:=SlR.of_cells (hlt f9) (by rw [hLe];exact za f9);refine jS (B:=B) (m:=1) (l:=rows) (news:=[((⟨k.toNat,fr,a⟩,qa,ca):zW)]) (c:=d2) o9 rfl r10 (fun h=>by cases h) (by rw [hB];exact c9.size) (by rw [hrl];omega) fun q10 d10 W10 o10 w10 y10 z10=>?_;have c10:Bw X W10:=c9.trans (by rw [hB] at w10;exact w10);have g10:=y10 _ _ _ g9 (zaZ o9 g9 (by decide));exact⟨_,rfl,zl (v := .agg #[.slice q10 (rows++[((⟨k.toNat,fr,a⟩,qa,ca):zW)]).length d10]) k47 (g10) rfl rfl rfl ⟨(W2.heap.size,q10,d10),(cvE rfl rfl),fin lzc8 g10 c10 o10⟩⟩
    ·refine⟨⟨by decide,by decide,rfl⟩,Lc,by rw [hLc];rfl,?_⟩;have v11:Below (X1.alloc (.cells #[] 49)).heap.size (X1.alloc (.cells #[] 49)) ((X1.alloc (.cells #[] 49)).alloc (.cells Lc.toArray 49)):=zba _ _;refine⟨v11,?_⟩;have c11:=zst c1 v11;have a11:=zb v11 a1;have f11:((X1.alloc (.cells #[] 49)).alloc (.cells Lc.toArray 49)).heap[(X1.alloc (.cells #[] 49)).heap.size]?=some (.cells Lc.toArray 49 (0,0)):=zt _ _;have n11:X1.heap.size≠(X1.alloc (.cells #[] 49)).heap.size:=(by have:=hlt a1;omega);refine Gt ?_ ?_
     ·refine zaf (g:=X1.heap.size) (B:=B) (m:=ls.length) (news:=rows) a11 (by rw [hB];exact l1) hrl (zat.below c11) hcap (by omega) fun q12 d12 W12 o12 w12 z12=>⟨w12,?_⟩;have c12:=zst c11 w12;have f12:=zb w12 f11;have n12:∀ a,q12=some a->a.block≠(X1.alloc (.cells #[] 49)).heap.size:=fun a ha=>by
       rcases z12 a ha with h | h
       ·rw [h];exact n11
       ·have:=hlt f11;omega
      refine Gt ?_ ?_
      ·have r13:SlR jb W12 (some ⟨(X1.alloc (.cells #[] 49)).heap.size,0,none⟩) [((⟨k.toNat,fr,a⟩,qa,ca):zW)]:=SlR.of_cells (hlt f12) (by rw [hLe];exact za f12);refine jS (B:=B) (m:=1) (l:=rows) (news:=[((⟨k.toNat,fr,a⟩,qa,ca):zW)]) (c:=d12) o12 rfl r13 (fun h=>by cases h) (by rw [hB];exact c12.size) (by rw [hrl];omega) fun q13 d13 W13 o13 w13 y13 z13=>?_;have c13:Bw X W13:=c12.trans (by rw [hB] at w13;exact w13);refine⟨_,rfl,?_⟩;have v14:Bw W13 (W13.alloc (.cells #[.slice none 0 0] 47)):=zba _ _;refine⟨v14,?_⟩;have c14:=zst c13 v14;have o14:=o13.below v14;have g14:(W13.alloc (.cells #[.slice none 0 0] 47)).heap[W13.heap.size]?=some (.cells #[.slice none 0 0] 47 (0,0)):=zt _ _;have lzc14:=c13.size;exact zl (v := .agg #[.slice q13 (rows++[((⟨k.toNat,fr,a⟩,qa,ca):zW)]).length d13]) k47 (g14) rfl rfl rfl ⟨(W13.heap.size,q13,d13),(cvE rfl rfl),fin lzc14 g14 c14 o14⟩
      ·have v15:Bw W12 (W12.alloc (.cells #[.slice none 0 0] 47)):=zba _ _;refine⟨v15,?_⟩;have c15:=zst c12 v15;have f15:=zb v15 f12;have o15:=o12.below v15;have g15:(W12.alloc (.cells #[.slice none 0 0] 47)).heap[W12.heap.size]?=some (.cells #[.slice none 0 0] 47 (0,0)):=zt _ _;have lzc15:=c12.size;have r16:SlR jb (W12.alloc (.cells #[.slice none 0 0] 47)) (some ⟨(X1.alloc (.cells #[] 49)).heap.size,0,none⟩) [((⟨k.toNat,fr,a⟩,qa,ca):zW)]:=SlR.of_cells (hlt f15) (by rw [hLe];exact za f15);refine jS (B:=B) (m:=1) (l:=rows) (news:=[((⟨k.toNat,fr,a⟩,qa,ca):zW)]) (c:=d12) o15 rfl r16 (fun h=>by cases h) (by rw [hB];exact c15.size) (by rw [hrl];omega) fun q16 d16 W16 o16 w16 y16 z16=>?_;have c16:Bw X W16:=c15.trans (by rw [hB] at w16;exact w16);have g16:=y16 _ _ _ g15 (zaZ o15 g15 (by decide));exact⟨_,rfl,zl (v := .agg #[.slice q16 (rows++[((⟨k.toNat,fr,a⟩,qa,ca):zW)]).length d16]) k47 (g16) rfl rfl rfl ⟨(W12.heap.size,q16,d16),(cvE rfl rfl),fin lzc15 g16 c16 o16⟩⟩
     ·have v17:Below ((X1.alloc (.cells #[] 49)).alloc (.cells Lc.toArray 49)).heap.size ((X1.alloc (.cells #[] 49)).alloc (.cells Lc.toArray 49)) (((X1.alloc (.cells #[] 49)).alloc (.cells Lc.toArray 49)).alloc (.cells #[.slice none 0 0] 47)):=zba _ _;refine⟨v17,?_⟩;have c17:=zst c11 v17;have f17:=zb v17 f11;have a17:=zb v17 a11;have g17:(((X1.alloc (.cells #[] 49)).alloc (.cells Lc.toArray 49)).alloc (.cells #[.slice none 0 0] 47)).heap[((X1.alloc (.cells #[] 49)).alloc (.cells Lc.toArray 49)).heap.size]?=some (.cells #[.slice none 0 0] 47 (0,0)):=zt _ _;have lzc17:=c11.size;refine zaf (g:=X1.heap.size) (B:=B) (m:=ls.length) (news:=rows) a17 (by rw [hB];exact l1) hrl (zat.below c17) hcap (by omega) fun q18 d18 W18 o18 w18 z18=>⟨w18,?_⟩;have c18:=zst c17 w18;have f18:=zb w18 f17;have n18:∀ a,q18=some a->a.block≠(X1.alloc (.cells #[] 49)).heap.size:=fun a ha=>by
       rcases z18 a ha with h | h
       ·rw [h];exact n11
       ·have:=hlt f17;omega
      have g18:=zb w18 g17;have r19:SlR jb W18 (some ⟨(X1.alloc (.cells #[] 49)).heap.size,0,none⟩) [((⟨k.toNat,fr,a⟩,qa,ca):zW)]:=SlR.of_cells (hlt f18) (by rw [hLe];exact za f18);refine jS (B:=B) (m:=1) (l:=rows) (news:=[((⟨k.toNat,fr,a⟩,qa,ca):zW)]) (c:=d18) o18 rfl r19 (fun h=>by cases h) (by rw [hB];exact c18.size) (by rw [hrl];omega) fun q19 d19 W19 o19 w19 y19 z19=>?_;have c19:Bw X W19:=c18.trans (by rw [hB] at w19;exact w19);have g19:=y19 _ _ _ g18 (zaZ o18 g18 (by decide));exact⟨_,rfl,zl (v := .agg #[.slice q19 (rows++[((⟨k.toNat,fr,a⟩,qa,ca):zW)]).length d19]) k47 (g19) rfl rfl rfl ⟨(((X1.alloc (.cells #[] 49)).alloc (.cells Lc.toArray 49)).heap.size,q19,d19),(cvE rfl rfl),fin lzc17 g19 c19 o19⟩⟩
    ·have v20:Below (X1.alloc (.cells #[] 49)).heap.size (X1.alloc (.cells #[] 49)) ((X1.alloc (.cells #[] 49)).alloc (.cells #[.slice none 0 0] 47)):=zba _ _;refine⟨v20,?_⟩;have c20:=zst c1 v20;have a20:=zb v20 a1;have g20:((X1.alloc (.cells #[] 49)).alloc (.cells #[.slice none 0 0] 47)).heap[(X1.alloc (.cells #[] 49)).heap.size]?=some (.cells #[.slice none 0 0] 47 (0,0)):=zt _ _;have lzc20:=c1.size;refine Gt ?_ ?_
     ·refine zaf (g:=X1.heap.size) (B:=B) (m:=ls.length) (news:=rows) a20 (by rw [hB];exact l1) hrl (zat.below c20) hcap (by omega) fun q21 d21 W21 o21 w21 z21=>⟨w21,?_⟩;have c21:=zst c20 w21;have g21:=zb w21 g20;refine⟨⟨by decide,by decide,rfl⟩,Lc,by rw [hLc];rfl,?_⟩;have v22:Bw W21 (W21.alloc (.cells Lc.toArray 49)):=zba _ _;refine⟨v22,?_⟩;have c22:=zst c21 v22;have g22:=zb v22 g21;have o22:=o21.below v22;have f22:(W21.alloc (.cells Lc.toArray 49)).heap[W21.heap.size]?=some (.cells Lc.toArray 49 (0,0)):=zt _ _;have n22:∀ a,q21=some a->a.block≠W21.heap.size:=fun a ha=>by have:=(zy o21 ha).2.1;omega
      have r23:SlR jb (W21.alloc (.cells Lc.toArray 49)) (some ⟨W21.heap.size,0,none⟩) [((⟨k.toNat,fr,a⟩,qa,ca):zW)]:=SlR.of_cells (hlt f22) (by rw [hLe];exact za f22);refine jS (B:=B) (m:=1) (l:=rows) (news:=[((⟨k.toNat,fr,a⟩,qa,ca):zW)]) (c:=d21) o22 rfl r23 (fun h=>by cases h) (by rw [hB];exact c22.size) (by rw [hrl];omega) fun q23 d23 W23 o23 w23 y23 z23=>?_;have c23:Bw X W23:=c22.trans (by rw [hB] at w23;exact w23);have g23:=y23 _ _ _ g22 (zaZ o22 g22 (by decide));exact⟨_,rfl,zl (v := .agg #[.slice q23 (rows++[((⟨k.toNat,fr,a⟩,qa,ca):zW)]).length d23]) k47 (g23) rfl rfl rfl ⟨((X1.alloc (.cells #[] 49)).heap.size,q23,d23),(cvE rfl rfl),fin lzc20 g23 c23 o23⟩⟩
     ·refine⟨⟨by decide,by decide,rfl⟩,Lc,by rw [hLc];rfl,?_⟩;have v24:Below ((X1.alloc (.cells #[] 49)).alloc (.cells #[.slice none 0 0] 47)).heap.size ((X1.alloc (.cells #[] 49)).alloc (.cells #[.slice none 0 0] 47)) (((X1.alloc (.cells #[] 49)).alloc (.cells #[.slice none 0 0] 47)).alloc (.cells Lc.toArray 49)):=zba _ _;refine⟨v24,?_⟩;have c24:=zst c20 v24;have g24:=zb v24 g20;have a24:=zb v24 a20;have f24:(((X1.alloc (.cells #[] 49)).alloc (.cells #[.slice none 0 0] 47)).alloc (.cells Lc.toArray 49)).heap[((X1.alloc (.cells #[] 49)).alloc (.cells #[.slice none 0 0] 47)).heap.size]?=some (.cells Lc.toArray 49 (0,0)):=zt _ _;have n24:X1.heap.size≠((X1.alloc (.cells #[] 49)).alloc (.cells #[.slice none 0 0] 47)).heap.size:=(by have:=hlt a20;omega);refine zaf (g:=X1.heap.size) (B:=B) (m:=ls.length) (news:=rows) a24 (by rw [hB];exact l1) hrl (zat.below c24) hcap (by omega) fun q25 d25 W25 o25 w25 z25=>⟨w25,?_⟩;have c25:=zst c24 w25;have f25:=zb w25 f24;have n25:∀ a,q25=some a->a.block≠((X1.alloc (.cells #[] 49)).alloc (.cells #[.slice none 0 0] 47)).heap.size:=fun a ha=>by
       rcases z25 a ha with h | h
       ·rw [h];exact n24
       ·have:=hlt f24;omega
      have g25:=zb w25 g24;have r26:SlR jb W25 (some ⟨((X1.alloc (.cells #[] 49)).alloc (.cells #[.slice none 0 0] 47)).heap.size,0,none⟩) [((⟨k.toNat,fr,a⟩,qa,ca):zW)]:=SlR.of_cells (hlt f25) (by rw [hLe];exact za f25);refine jS (B:=B) (m:=1) (l:=rows) (news:=[((⟨k.toNat,fr,a⟩,qa,ca):zW)]) (c:=d25) o25 rfl r26 (fun h=>by cases h) (by rw [hB];exact c25.size) (by rw [hrl];omega) fun q26 d26 W26 o26 w26 y26 z26=>?_;have c26:Bw X W26:=c25.trans (by rw [hB] at w26;exact w26);have g26:=y26 _ _ _ g25 (zaZ o25 g25 (by decide));exact⟨_,rfl,zl (v := .agg #[.slice q26 (rows++[((⟨k.toNat,fr,a⟩,qa,ca):zW)]).length d26]) k47 (g26) rfl rfl rfl ⟨((X1.alloc (.cells #[] 49)).heap.size,q26,d26),(cvE rfl rfl),fin lzc20 g26 c26 o26⟩⟩
   ·refine⟨⟨by decide,by decide,rfl⟩,Lc,by rw [hLc];rfl,?_⟩;have v27:Bw X1 (X1.alloc (.cells Lc.toArray 49)):=zba _ _;refine⟨v27,?_⟩;have c27:=zst bd v27;have f27:(X1.alloc (.cells Lc.toArray 49)).heap[X1.heap.size]?=some (.cells Lc.toArray 49 (0,0)):=zt _ _;refine Gt ?_ ?_
    ·refine⟨⟨by decide,by decide,rfl⟩,[],rfl,?_⟩;have v28:Below (X1.alloc (.cells Lc.toArray 49)).heap.size (X1.alloc (.cells Lc.toArray 49)) ((X1.alloc (.cells Lc.toArray 49)).alloc (.cells #[] 49)):=zba _ _;refine⟨v28,?_⟩;have c28:=zst c27 v28;have f28:=zb v28 f27;have a28:((X1.alloc (.cells Lc.toArray 49)).alloc (.cells #[] 49)).heap[(X1.alloc (.cells Lc.toArray 49)).heap.size]?=some (.cells #[] 49 (0,0)):=zt _ _;have l28:=c27.size;have n28:(X1.alloc (.cells Lc.toArray 49)).heap.size≠X1.heap.size:=(by have:=hlt f27;omega);refine Gt ?_ ?_
     ·refine zaf (g:=(X1.alloc (.cells Lc.toArray 49)).heap.size) (B:=B) (m:=ls.length) (news:=rows) a28 (by rw [hB];exact l28) hrl (zat.below c28) hcap (by omega) fun q29 d29 W29 o29 w29 z29=>⟨w29,?_⟩;have c29:=zst c28 w29;have f29:=zb w29 f28;have n29:∀ a,q29=some a->a.block≠X1.heap.size:=fun a ha=>by
       rcases z29 a ha with h | h
       ·rw [h];exact n28
       ·have:=hlt f28;omega
      refine Gt ?_ ?_
      ·have r30:SlR jb W29 (some ⟨X1.heap.size,0,none⟩) [((⟨k.toNat,fr,a⟩,qa,ca):zW)]:=SlR.of_cells (hlt f29) (by rw [hLe];exact za f29);refine jS (B:=B) (m:=1) (l:=rows) (news:=[((⟨k.toNat,fr,a⟩,qa,ca):zW)]) (c:=d29) o29 rfl r30 (fun h=>by cases h) (by rw [hB];exact c29.size) (by rw [hrl];omega) fun q30 d30 W30 o30 w30 y30 z30=>?_;have c30:Bw X W30:=c29.trans (by rw [hB] at w30;exact w30);refine⟨_,rfl,?_⟩;have v31:Bw W30 (W30.alloc (.cells #[.slice none 0 0] 47)):=zba _ _;refine⟨v31,?_⟩;have c31:=zst c30 v31;have o31:=o30.below v31;have g31:(W30.alloc (.cells #[.slice none 0 0] 47)).heap[W30.heap.size]?=some (.cells #[.slice none 0 0] 47 (0,0)):=zt _ _;have lzc31:=c30.size;exact zl (v := .agg #[.slice q30 (rows++[((⟨k.toNat,fr,a⟩,qa,ca):zW)]).length d30]) k47 (g31) rfl rfl rfl ⟨(W30.heap.size,q30,d30),(cvE rfl rfl),fin lzc31 g31 c31 o31⟩
      ·have v32:Bw W29 (W29.alloc (.cells #[.slice none 0 0] 47)):=zba _ _;refine⟨v32,?_⟩;have c32:=zst c29 v32;have f32:=zb v32 f29;have o32:=o29.below v32;have g32:(W29.alloc (.cells #[.slice none 0 0] 47)).heap[W29.heap.size]?=some (.cells #[.slice none 0 0] 47 (0,0)):=zt _ _;have lzc32:=c29.size;have r33:SlR jb (W29.alloc (.cells #[.slice none 0 0] 47)) (some ⟨X1.heap.size,0,none⟩) [((⟨k.toNat,fr,a⟩,qa,ca):zW)]:=SlR.of_cells (hlt f32) (by rw [hLe];exact za f32);refine jS (B:=B) (m:=1) (l:=rows) (news:=[((⟨k.toNat,fr,a⟩,qa,ca):zW)]) (c:=d29) o32 rfl r33 (fun h=>by cases h) (by rw [hB];exact c32.size) (by rw [hrl];omega) fun q33 d33 W33 o33 w33 y33 z33=>?_;have c33:Bw X W33:=c32.trans (by rw [hB] at w33;exact w33);have g33:=y33 _ _ _ g32 (zaZ o32 g32 (by decide));exact⟨_,rfl,zl (v := .agg #[.slice q33 (rows++[((⟨k.toNat,fr,a⟩,qa,ca):zW)]).length d33]) k47 (g33) rfl rfl rfl ⟨(W29.heap.size,q33,d33),(cvE rfl rfl),fin lzc32 g33 c33 o33⟩⟩
     ·have v34:Below ((X1.alloc (.cells Lc.toArray 49)).alloc (.cells #[] 49)).heap.size ((X1.alloc (.cells Lc.toArray 49)).alloc (.cells #[] 49)) (((X1.alloc (.cells Lc.toArray 49)).alloc (.cells #[] 49)).alloc (.cells #[.slice none 0 0] 47)):=zba _ _;refine⟨v34,?_⟩;have c34:=zst c28 v34;have f34:=zb v34 f28;have a34:=zb v34 a28;have g34:(((X1.alloc (.cells Lc.toArray 49)).alloc (.cells #[] 49)).alloc (.cells #[.slice none 0 0] 47)).heap[((X1.alloc (.cells Lc.toArray 49)).alloc (.cells #[] 49)).heap.size]?=some (.cells #[.slice none 0 0] 47 (0,0)):=zt _ _;have lzc34:=c28.size;refine zaf (g:=(X1.alloc (.cells Lc.toArray 49)).heap.size) (B:=B) (m:=ls.length) (news:=rows) a34 (by rw [hB];exact l28) hrl (zat.below c34) hcap (by omega) fun q35 d35 W35 o35 w35 z35=>⟨w35,?_⟩;have c35:=zst c34 w35;have f35:=zb w35 f34;have n35:∀ a,q35=some a->a.block≠X1.heap.size:=fun a ha=>by
       rcases z35 a ha with h | h
       ·rw [h];exact n28
       ·have:=hlt f34;omega
      have g35:=zb w35 g34;have r36:SlR jb W35 (some ⟨X1.heap.size,0,none⟩) [((⟨k.toNat,fr,a⟩,qa,ca):zW)]:=SlR.of_cells (hlt f35) (by rw [hLe];exact za f35);refine jS (B:=B) (m:=1) (l:=rows) (news:=[((⟨k.toNat,fr,a⟩,qa,ca):zW)]) (c:=d35) o35 rfl r36 (fun h=>by cases h) (by rw [hB];exact c35.size) (by rw [hrl];omega) fun q36 d36 W36 o36 w36 y36 z36=>?_;have c36:Bw X W36:=c35.trans (by rw [hB] at w36;exact w36);have g36:=y36 _ _ _ g35 (zaZ o35 g35 (by decide));exact⟨_,rfl,zl (v := .agg #[.slice q36 (rows++[((⟨k.toNat,fr,a⟩,qa,ca):zW)]).length d36]) k47 (g36) rfl rfl rfl ⟨(((X1.alloc (.cells Lc.toArray 49)).alloc (.cells #[] 49)).heap.size,q36,d36),(cvE rfl rfl),fin lzc34 g36 c36 o36⟩⟩
    ·have v37:Below (X1.alloc (.cells Lc.toArray 49)).heap.size (X1.alloc (.cells Lc.toArray 49)) ((X1.alloc (.cells Lc.toArray 49)).alloc (.cells #[.slice none 0 0] 47)):=zba _ _;refine⟨v37,?_⟩;have c37:=zst c27 v37;have f37:=zb v37 f27;have g37:((X1.alloc (.cells Lc.toArray 49)).alloc (.cells #[.slice none 0 0] 47)).heap[(X1.alloc (.cells Lc.toArray 49)).heap.size]?=some (.cells #[.slice none 0 0] 47 (0,0)):=zt _ _;have lzc37:=c27.size;refine⟨⟨by decide,by decide,rfl⟩,[],rfl,?_⟩;have v38:Below ((X1.alloc (.cells Lc.toArray 49)).alloc (.cells #[.slice none 0 0] 47)).heap.size ((X1.alloc (.cells Lc.toArray 49)).alloc (.cells #[.slice none 0 0] 47)) (((X1.alloc (.cells Lc.toArray 49)).alloc (.cells #[.slice none 0 0] 47)).alloc (.cells #[] 49)):=zba _ _;refine⟨v38,?_⟩;have c38:=zst c37 v38;have f38:=zb v38 f37;have g38:=zb v38 g37;have a38:(((X1.alloc (.cells Lc.toArray 49)).alloc (.cells #[.slice none 0 0] 47)).alloc (.cells #[] 49)).heap[((X1.alloc (.cells Lc.toArray 49)).alloc (.cells #[.slice none 0 0] 47)).heap.size]?=some (.cells #[] 49 (0,0)):=zt _ _;have l38:=c37.size;have n38:((X1.alloc (.cells Lc.toArray 49)).alloc (.cells #[.slice none 0 0] 47)).heap.size≠X1.heap.size:=(by have:=hlt f37;omega);refine zaf (g:=((X1.alloc (.cells Lc.toArray 49)).alloc (.cells #[.slice none 0 0] 47)).heap.size) (B:=B) (m:=ls.length) (news:=rows) a38 (by rw [hB];exact l38) hrl (zat.below c38) hcap (by omega) fun q39 d39 W39 o39 w39 z39=>⟨w39,?_⟩;have c39:=zst c38 w39;have f39:=zb w39 f38;have n39:∀ a,q39=some a->a.block≠X1.heap.size:=fun a ha=>by
      rcases z39 a ha with h | h
      ·rw [h];exact n38
      ·have:=hlt f38;omega
     have g39:=zb w39 g38;have r40:SlR jb W39 (some ⟨X1.heap.size,0,none⟩) [((⟨k.toNat,fr,a⟩,qa,ca):zW)]:=SlR.of_cells (hlt f39) (by rw [hLe];exact za f39);refine jS (B:=B) (m:=1) (l:=rows) (news:=[((⟨k.toNat,fr,a⟩,qa,ca):zW)]) (c:=d39) o39 rfl r40 (fun h=>by cases h) (by rw [hB];exact c39.size) (by rw [hrl];omega) fun q40 d40 W40 o40 w40 y40 z40=>?_;have c40:Bw X W40:=c39.trans (by rw [hB] at w40;exact w40);have g40:=y40 _ _ _ g39 (zaZ o39 g39 (by decide));exact⟨_,rfl,zl (v := .agg #[.slice q40 (rows++[((⟨k.toNat,fr,a⟩,qa,ca):zW)]).length d40]) k47 (g40) rfl rfl rfl ⟨((X1.alloc (.cells Lc.toArray 49)).heap.size,q40,d40),(cvE rfl rfl),fin lzc37 g40 c40 o40⟩⟩
   ·have v41:Bw X1 (X1.alloc (.cells #[.slice none 0 0] 47)):=zba _ _;refine⟨v41,?_⟩;have c41:=zst bd v41;have g41:(X1.alloc (.cells #[.slice none 0 0] 47)).heap[X1.heap.size]?=some (.cells #[.slice none 0 0] 47 (0,0)):=zt _ _;have lzc41:=bd.size;refine Gt ?_ ?_
    ·refine⟨⟨by decide,by decide,rfl⟩,[],rfl,?_⟩;have v42:Below (X1.alloc (.cells #[.slice none 0 0] 47)).heap.size (X1.alloc (.cells #[.slice none 0 0] 47)) ((X1.alloc (.cells #[.slice none 0 0] 47)).alloc (.cells #[] 49)):=zba _ _;refine⟨v42,?_⟩;have c42:=zst c41 v42;have g42:=zb v42 g41;have a42:((X1.alloc (.cells #[.slice none 0 0] 47)).alloc (.cells #[] 49)).heap[(X1.alloc (.cells #[.slice none 0 0] 47)).heap.size]?=some (.cells #[] 49 (0,0)):=zt _ _;have l42:=c41.size;refine Gt ?_ ?_
     ·refine zaf (g:=(X1.alloc (.cells #[.slice none 0 0] 47)).heap.size) (B:=B) (m:=ls.length) (news:=rows) a42 (by rw [hB];exact l42) hrl (zat.below c42) hcap (by omega) fun q43 d43 W43 o43 w43 z43=>⟨w43,?_⟩;have c43:=zst c42 w43;have g43:=zb w43 g42;refine⟨⟨by decide,by decide,rfl⟩,Lc,by rw [hLc];rfl,?_⟩;have v44:Bw W43 (W43.alloc (.cells Lc.toArray 49)):=zba _ _;refine⟨v44,?_⟩;have c44:=zst c43 v44;have g44:=zb v44 g43;have o44:=o43.below v44;have f44:(W43.alloc (.cells Lc.toArray 49)).heap[W43.heap.size]?=some (.cells Lc.toArray 49 (0,0)):=zt _ _;have n44:∀ a,q43=some a->a.block≠W43.heap.size:=fun a ha=>by have:=(zy o43 ha).2.1;omega
      have r45:SlR jb (W43.alloc (.cells Lc.toArray 49)) (some ⟨W43.heap.size,0,none⟩) [((⟨k.toNat,fr,a⟩,qa,ca):zW)]:=SlR.of_cells (hlt f44) (by rw [hLe];exact za f44);refine jS (B:=B) (m:=1) (l:=rows) (news:=[((⟨k.toNat,fr,a⟩,qa,ca):zW)]) (c:=d43) o44 rfl r45 (fun h=>by cases h) (by rw [hB];exact c44.size) (by rw [hrl];omega) fun q45 d45 W45 o45 w45 y45 z45=>?_;have c45:Bw X W45:=c44.trans (by rw [hB] at w45;exact w45);have g45:=y45 _ _ _ g44 (zaZ o44 g44 (by decide));exact⟨_,rfl,zl (v := .agg #[.slice q45 (rows++[((⟨k.toNat,fr,a⟩,qa,ca):zW)]).length d45]) k47 (g45) rfl rfl rfl ⟨(X1.heap.size,q45,d45),(cvE rfl rfl),fin lzc41 g45 c45 o45⟩⟩
     ·refine⟨⟨by decide,by decide,rfl⟩,Lc,by rw [hLc];rfl,?_⟩;have v46:Below ((X1.alloc (.cells #[.slice none 0 0] 47)).alloc (.cells #[] 49)).heap.size ((X1.alloc (.cells #[.slice none 0 0] 47)).alloc (.cells #[] 49)) (((X1.alloc (.cells #[.slice none 0 0] 47)).alloc (.cells #[] 49)).alloc (.cells Lc.toArray 49)):=zba _ _;refine⟨v46,?_⟩;have c46:=zst c42 v46;have g46:=zb v46 g42;have a46:=zb v46 a42;have f46:(((X1.alloc (.cells #[.slice none 0 0] 47)).alloc (.cells #[] 49)).alloc (.cells Lc.toArray 49)).heap[((X1.alloc (.cells #[.slice none 0 0] 47)).alloc (.cells #[] 49)).heap.size]?=some (.cells Lc.toArray 49 (0,0)):=zt _ _;have n46:(X1.alloc (.cells #[.slice none 0 0] 47)).heap.size≠((X1.alloc (.cells #[.slice none 0 0] 47)).alloc (.cells #[] 49)).heap.size:=(by have:=hlt a42;omega);refine zaf (g:=(X1.alloc (.cells #[.slice none 0 0] 47)).heap.size) (B:=B) (m:=ls.length) (news:=rows) a46 (by rw [hB];exact l42) hrl (zat.below c46) hcap (by omega) fun q47 d47 W47 o47 w47 z47=>⟨w47,?_⟩;have c47:=zst c46 w47;have f47:=zb w47 f46;have n47:∀ a,q47=some a->a.block≠((X1.alloc (.cells #[.slice none 0 0] 47)).alloc (.cells #[] 49)).heap.size:=fun a ha=>by
       rcases z47 a ha with h | h
       ·rw [h];exact n46
       ·have:=hlt f46;omega
      have g47:=zb w47 g46;have r48:SlR jb W47 (some ⟨((X1.alloc (.cells #[.slice none 0 0] 47)).alloc (.cells #[] 49)).heap.size,0,none⟩) [((⟨k.toNat,fr,a⟩,qa,ca):zW)]:=SlR.of_cells (hlt f47) (by rw [hLe];exact za f47);refine jS (B:=B) (m:=1) (l:=rows) (news:=[((⟨k.toNat,fr,a⟩,qa,ca):zW)]) (c:=d47) o47 rfl r48 (fun h=>by cases h) (by rw [hB];exact c47.size) (by rw [hrl];omega) fun q48 d48 W48 o48 w48 y48 z48=>?_;have c48:Bw X W48:=c47.trans (by rw [hB] at w48;exact w48);have g48:=y48 _ _ _ g47 (zaZ o47 g47 (by decide));exact⟨_,rfl,zl (v := .agg #[.slice q48 (rows++[((⟨k.toNat,fr,a⟩,qa,ca):zW)]).length d48]) k47 (g48) rfl rfl rfl ⟨(X1.heap.size,q48,d48),(cvE rfl rfl),fin lzc41 g48 c48 o48⟩⟩
    ·refine⟨⟨by decide,by decide,rfl⟩,Lc,by rw [hLc];rfl,?_⟩;have v49:Below (X1.alloc (.cells #[.slice none 0 0] 47)).heap.size (X1.alloc (.cells #[.slice none 0 0] 47)) ((X1.alloc (.cells #[.slice none 0 0] 47)).alloc (.cells Lc.toArray 49)):=zba _ _;refine⟨v49,?_⟩;have c49:=zst c41 v49;have g49:=zb v49 g41;have f49:((X1.alloc (.cells #[.slice none 0 0] 47)).alloc (.cells Lc.toArray 49)).heap[(X1.alloc (.cells #[.slice none 0 0] 47)).heap.size]?=some (.cells Lc.toArray 49 (0,0)):=zt _ _;refine⟨⟨by decide,by decide,rfl⟩,[],rfl,?_⟩;have v50:Below ((X1.alloc (.cells #[.slice none 0 0] 47)).alloc (.cells Lc.toArray 49)).heap.size ((X1.alloc (.cells #[.slice none 0 0] 47)).alloc (.cells Lc.toArray 49)) (((X1.alloc (.cells #[.slice none 0 0] 47)).alloc (.cells Lc.toArray 49)).alloc (.cells #[] 49)):=zba _ _;refine⟨v50,?_⟩;have c50:=zst c49 v50;have f50:=zb v50 f49;have g50:=zb v50 g49;have a50:(((X1.alloc (.cells #[.slice none 0 0] 47)).alloc (.cells Lc.toArray 49)).alloc (.cells #[] 49)).heap[((X1.alloc (.cells #[.slice none 0 0] 47)).alloc (.cells Lc.toArray 49)).heap.size]?=some (.cells #[] 49 (0,0)):=zt _ _;have l50:=c49.size;have n50:((X1.alloc (.cells #[.slice none 0 0] 47)).alloc (.cells Lc.toArray 49)).heap.size≠(X1.alloc (.cells #[.slice none 0 0] 47)).heap.size:=(by have:=hlt f49;omega);refine zaf (g:=((X1.alloc (.cells #[.slice none 0 0] 47)).alloc (.cells Lc.toArray 49)).heap.size) (B:=B) (m:=ls.length) (news:=rows) a50 (by rw [hB];exact l50) hrl (zat.below c50) hcap (by omega) fun q51 d51 W51 o51 w51 z51=>⟨w51,?_⟩;have c51:=zst c50 w51;have f51:=zb w51 f50;have n51:∀ a,q51=some a->a.block≠(X1.alloc (.cells #[.slice none 0 0] 47)).heap.size:=fun a ha=>by
      rcases z51 a ha with h | h
      ·rw [h];exact n50
      ·have:=hlt f50;omega
     have g51:=zb w51 g50;have r52:SlR jb W51 (some ⟨(X1.alloc (.cells #[.slice none 0 0] 47)).heap.size,0,none⟩) [((⟨k.toNat,fr,a⟩,qa,ca):zW)]:=SlR.of_cells (hlt f51) (by rw [hLe];exact za f51);refine jS (B:=B) (m:=1) (l:=rows) (news:=[((⟨k.toNat,fr,a⟩,qa,ca):zW)]) (c:=d51) o51 rfl r52 (fun h=>by cases h) (by rw [hB];exact c51.size) (by rw [hrl];omega) fun q52 d52 W52 o52 w52 y52 z52=>?_;have c52:Bw X W52:=c51.trans (by rw [hB] at w52;exact w52);have g52:=y52 _ _ _ g51 (zaZ o51 g51 (by decide));exact⟨_,rfl,zl (v := .agg #[.slice q52 (rows++[((⟨k.toNat,fr,a⟩,qa,ca):zW)]).length d52]) k47 (g52) rfl rfl rfl ⟨(X1.heap.size,q52,d52),(cvE rfl rfl),fin lzc41 g52 c52 o52⟩⟩
  clear hX fk X;rintro⟨b17,pm,cm⟩ X ⟨hX,fk,f17,hM⟩;dsimp only at f17 hM ⊢;obtain⟨H,hH⟩:=nm (qA ls x);refine⟨Unit,fun _=>⟨[(4,At0 L),(5,At0 (L+1)),(6,At0 (L+2)),(7,At0 (L+3)),(12,zr fr),(16,u8 k),(17,At0 b17),(96,.slice (some ⟨kb,0,none⟩) 3 3),(97,i64 3),(98,.int .i64 (i:Nat)),(18,.bool H.1),(19,zr H.2.1),(20,i64 H.2.2)],[]⟩,fun _ Y=>MrB w L ls p cap a b qa qb ca cb x q c Y/\Y.heap[kb]?=some (.cells #[u8 1,u8 2,u8 3] 5 (0,0))/\Y.heap[b17]?=some (.cells #[.slice pm M.length cm] 47 (0,0))/\LinsM qy Y pm M,?_,?_⟩
  ·refine⟨_,rfl,za hX.C,hlt hX.C,exC x q c,zH _ _ _,za hX.E,hlt hX.E,cmo (z6 (cr:=cap) hX.bl hX.M (by omega)) ?_⟩;rintro e Y ⟨rfl,bY⟩;rw [<- hH];exact⟨(),(cvE rfl rfl),hX.below bY,zb bY fk,zb bY f17,hM.below bY⟩
  clear hX fk f17 hM X;rintro _ X ⟨hX,fk,f17,hM⟩;obtain⟨N,hN⟩:=nm (qA M x);refine⟨Unit,fun _=>⟨[(4,At0 L),(5,At0 (L+1)),(6,At0 (L+2)),(7,At0 (L+3)),(12,zr fr),(16,u8 k),(96,.slice (some ⟨kb,0,none⟩) 3 3),(97,i64 3),(98,.int .i64 (i:Nat)),(18,.bool H.1),(19,zr H.2.1),(20,i64 H.2.2),(21,.bool N.1),(22,zr N.2.1),(23,i64 N.2.2)],[]⟩,fun _ Y=>MrB w L ls p cap a b qa qb ca cb x q c Y/\Y.heap[kb]?=some (.cells #[u8 1,u8 2,u8 3] 5 (0,0)),?_,?_⟩
  ·refine⟨_,rfl,za f17,hlt f17,exC x q c,zH _ _ _,za hX.E,hlt hX.E,cmo (z6 (cr:=cm) hX.bl hM (by omega)) ?_⟩;rintro e Y ⟨rfl,bY⟩;rw [<- hN];exact⟨(),(cvE rfl rfl),hX.below bY,zb bY fk⟩
  clear hX fk f17 hM X;rintro _ X ⟨hX,fk⟩;have law:=fun (h1:H.2.2=0) (h2:N.2.2=0)=>znB (l:=ls) (y:=⟨k.toNat,fr,a⟩) (x:=x) hk0 (by rw [<- hH];exact h1) (by rw [<- hMd,<- hN];exact h2);rw [<- hMd,<- hN,<- hH] at law;obtain⟨ok,who,e1⟩:=H;obtain⟨on,first,e2⟩:=N;dsimp only at law;refine⟨Unit,fun _=>⟨[(4,At0 L),(5,At0 (L+1)),(6,At0 (L+2)),(7,At0 (L+3)),(12,zr fr),(16,u8 k),(96,.slice (some ⟨kb,0,none⟩) 3 3),(97,i64 3),(98,.int .i64 (i:Nat))],[]⟩,fun _ Y=>X=Y,?_,?_⟩
  ·have go:∀ (Y:Wd),Y=X->X=Y:=fun _ h=>h.symm;refine biE (fun h1=>?_) fun h1=>?_
   ·have h1:e1=0:=dT h1;refine biE (fun h2=>?_) fun h2=>?_
    ·have h2:e2=0:=dT h2;obtain⟨l1,l2⟩:=law h1 h2
     cases ok with
     | false =>
      obtain⟨l3,l4⟩:=l1 rfl;subst l3;refine brF (brF (brT ⟨_,fun w=>zcJ _ _ first who w,biE (fun h=>?_) fun h=>?_⟩))
      ·have h:(!decide (first=who))=true:=h;rw [Uy l4] at h;exact GE h (by decide)
      ·exact brF (brF (brF ⟨(),(cvE rfl rfl),rfl⟩))
     | true =>
      cases on with
      | true =>
       exact brT (brF (brF (brF (brT (brF (brF ⟨(),(cvE rfl rfl),rfl⟩))))))
      | false =>
       have l3:first=fr:=l2 rfl rfl
       refine brF (brF (brF (brF (brT (brT ⟨_,fun w=>zcJ _ _ first fr w,biE (fun h=>?_) fun h=>?_⟩)))))
       ·have h:(!decide (first=fr))=true:=h;rw [Uy l3] at h;exact GE h (by decide)
       ·exact⟨(),(cvE rfl rfl),rfl⟩
    ·exact brF ⟨(),(cvE rfl rfl),rfl⟩
   ·exact brF (brF ⟨(),(cvE rfl rfl),rfl⟩)
  clear law hMd hMl hH hN;rintro _ _ rfl;have hk255:k.toNat<256:=k.toNat_lt;obtain⟨F,hF⟩:=nm (qA [⟨k.toNat,[120],a⟩] x);refine⟨Unit,fun _=>⟨[(4,At0 L),(5,At0 (L+1)),(6,At0 (L+2)),(7,At0 (L+3)),(12,zr fr),(16,u8 k),(96,.slice (some ⟨kb,0,none⟩) 3 3),(97,i64 3),(98,.int .i64 (i:Nat)),(24,.bool F.1),(26,i64 F.2.2)],[]⟩,fun _ Y=>MrB w L ls p cap a b qa qb ca cb x q c Y/\Y.heap[kb]?=some (.cells #[u8 1,u8 2,u8 3] 5 (0,0)),?_,?_⟩
  ·have bd:=(Gn X.heap.size X).drew;refine DrawE.ord [] [0,1,3,2,4,5,6,7,8,9,10,11] (by kernel_rfl) ⟨_,rfl,za (hdr hX.A),hlt (hdr hX.A),exC x q c,zH _ _ _,za (hdr hX.E),hlt (hdr hX.E),cmo (zj7 (hX.ka.kept bd) la) ?_⟩;rintro e Y ⟨b1,rfl,hM1,bY⟩;refine⟨bY,?_⟩;have c1:=zst bd bY;have z1:=z6 (cr:=1) (zst hX.bl c1) hM1 (by show 1<=1000;decide);refine cmo z1 ?_;rintro e Z ⟨rfl,bZ⟩;refine⟨bZ,?_⟩;have c2:=zst c1 bZ;rw [<- hF];exact⟨(),(cvE rfl rfl),hX.below c2,zb c2 fk⟩
  clear hX fk X;rintro _ X ⟨hX,fk⟩;obtain⟨G,hGd⟩:=nm (qA [⟨k.toNat,[120],.mk 2 [] [a,b]⟩] x);refine⟨Unit,fun _=>⟨[(4,At0 L),(5,At0 (L+1)),(6,At0 (L+2)),(7,At0 (L+3)),(12,zr fr),(16,u8 k),(96,.slice (some ⟨kb,0,none⟩) 3 3),(97,i64 3),(98,.int .i64 (i:Nat)),(24,.bool F.1),(26,i64 F.2.2),(27,.bool G.1),(29,i64 G.2.2)],[]⟩,fun _ Y=>MrB w L ls p cap a b qa qb ca cb x q c Y/\Y.heap[kb]?=some (.cells #[u8 1,u8 2,u8 3] 5 (0,0)),?_,?_⟩
  ·have bd:=(Gn X.heap.size X).drew;refine DrawE.ord [] [0,1,2,5,3,4,6,7,8,9,10,11,12,13] (by kernel_rfl) ⟨_,rfl,za (hdr hX.A),hlt (hdr hX.A),_,rfl,za (hdr hX.B),hlt (hdr hX.B),exC x q c,zH _ _ _,za (hdr hX.E),hlt (hdr hX.E),cmo (zjt (k:=2) (hX.ka.kept bd) (hX.kb.kept bd) la lb) ?_⟩;rintro e V ⟨r,rfl,kr,bV⟩;refine⟨bV,?_⟩;have c0:=zst bd bV;refine cmo (zj7 (t := .mk 2 [] [a,b]) kr (by show 0<=_;decide)) ?_;rintro e Y ⟨b1,rfl,hM1,bY⟩;refine⟨bY,?_⟩;have c1:=zst c0 bY;have z1:=z6 (cr:=1) (zst hX.bl c1) hM1 (by show 1<=1000;decide);refine cmo z1 ?_;rintro e Z ⟨rfl,bZ⟩;refine⟨bZ,?_⟩;have c2:=zst c1 bZ;rw [<- hGd];exact⟨(),(cvE rfl rfl),hX.below c2,zb c2 fk⟩
  clear hX fk X;rintro _ X ⟨hX,fk⟩;have law:=fun (h1:F.2.2=0) (h2:G.2.2=0) (h3:G.1=true)=>zmX (k:=k.toNat) (nq:=[120]) (a:=a) (b:=b) hw hk0 (by rw [<- hF];exact h1) (by rw [<- hGd];exact h2) (by rw [<- hGd];exact h3);rw [<- hF] at law;obtain⟨less,f1,e1⟩:=F;obtain⟨both,g1,e2⟩:=G;dsimp only at law;have step:∀ {K:Prop},K->K:=fun h=>h;have next:(i:Int)+1=((i+1:Nat):Int):=by omega
  refine biE (fun h1=>?_) fun h1=>?_
  ·have h1e:e1=0:=dT h1;refine biE (fun h2=>?_) fun h2=>?_
   ·have h2e:e2=0:=dT h2
    cases both with
    | true =>
     have l3:less=true:=law h1e h2e rfl;subst l3;exact brT (brF (nxI (by omega) ⟨i+1,(cvE rfl rfl),⟨hX,fk,by show i+1<=3;omega⟩,zdc (by omega)⟩))
    | false =>
     exact brF (brF (nxI (by omega) ⟨i+1,(cvE rfl rfl),⟨hX,fk,by show i+1<=3;omega⟩,zdc (by omega)⟩))
   ·exact brF (brF (nxI (by omega) ⟨i+1,(cvE rfl rfl),⟨hX,fk,by show i+1<=3;omega⟩,zdc (by omega)⟩))
  ·exact brF (brF (brF (nxI (by omega) ⟨i+1,(cvE rfl rfl),⟨hX,fk,by show i+1<=3;omega⟩,zdc (by omega)⟩)))
 ·refine cmo (aw hX.bl) ?_;rintro e Z ⟨rfl,bZ⟩;exact⟨rfl,bZ⟩
end
end Go.Proofs.YtnadlhpkpnfmbaaGreatDoor
namespace Go.Proofs.YtnadlhpkpnfmbaaGreatDoor
open Go.Vc Go.RowKit Go.Sei
open Go.ChangeShapes Go.WideShapes Go.ChangeAt
section
variable {H:Type} {enc:TypeId×Value->H} {P:Program} {w:Wd} {base:Nat} {spare:Nat->Bool} {held:Bool} {fuel:Nat} {t:TypeId} {cs:List Value} {x:DataW H×List MemPlace}
theorem zml (ht:P.underlying t=some (.int .u8)) (h:DataW.trod enc P w base spare held fuel t cs=some x):∃ b:UInt8,cs=[u8 b]/\x.1 = .lit (.int .u8 b.toNat):=by
 obtain⟨n,rfl,rfl,hw⟩:=Up ht h;have hb:=bounds_u8 hw;have e:((UInt8.ofNat n.toNat).toNat:Int)=n:=by
  rw [KJ];omega
 exact⟨UInt8.ofNat n.toNat,by rw [u8,e],by rw [e]⟩
theorem zeK {n:Nat} {e:TypeId} (ht:P.underlying t=some (.array n e)) (he:P.underlying e=some (.int .u8)) (hc:P.cellsOf e=1) (hn:P.cellsOf t=n)
  (h:DataW.trod enc P w base spare held fuel t cs=some x):∃ bs:List UInt8,bs.length=n/\cs=bs.map u8/\x.1 = .agg (bs.map fun b => .lit (.int .u8 b.toNat)):=by
 obtain⟨xs,m,rfl,rfl,hl,hx,hel⟩:=DataW.trod_array ht h;rw [hn] at hl;have each:∀ i (h:i<n),∃ b:UInt8,cs[i]?=some (u8 b)/\xs[i]?.map (·.1)=some (.lit (.int .u8 b.toNat)):=fun i hi=>by
  have h1:=hel i hi;rw [hc,gE (by omega)] at h1;obtain⟨b,h2,h3⟩:=zml he h1;refine⟨b,?_,by rw [gE (by omega),Ui,h3]⟩;have:((cs.drop (i*1)).take 1)[0]?=some (u8 b):=by rw [h2];rfl
  simpa using this
 have:∀ k,k<=n->∃ bs:List UInt8,bs.length=k/\cs.take k=bs.map u8/\(xs.take k).map (·.1)=bs.map fun b => .lit (.int .u8 b.toNat):=by
  intro k
  induction k with
  | zero=>exact fun _=>⟨[],rfl,by simp,by simp⟩
  | succ k ih =>
   intro hk;obtain⟨bs,h1,h2,h3⟩:=ih (by omega);obtain⟨b,h4,h5⟩:=each k (by omega);have hk1:k<cs.length:=by omega
   have hk2:k<xs.length:=by omega
   rw [gE hk1] at h4;rw [gE hk2] at h5;refine⟨bs++[b],by simp [h1],?_,?_⟩
   ·rw [tsg hk1,h2,Uj h4];simp
   ·rw [tsg hk2,QW,h3];simp at h5;simp [h5]
 obtain⟨bs,h1,h2,h3⟩:=this n (Gi _);rw [JE (by omega)] at h2 h3;exact⟨bs,h1,h2,by rw [<- h3]⟩
theorem zs2 (ht:P.underlying t=some (.int .i64)) (h:DataW.trod enc P w base spare held fuel t cs=some x):∃ b:Int,cs=[i64 b]/\x.1 = .lit (.int .i64 b):=by
 obtain⟨n,rfl,rfl,_⟩:=Up ht h;exact⟨n,rfl,rfl⟩
theorem zmm {n:Nat} {e:TypeId} (ht:P.underlying t=some (.array n e)) (he:P.underlying e=some (.int .i64)) (hc:P.cellsOf e=1) (hn:P.cellsOf t=n)
  (h:DataW.trod enc P w base spare held fuel t cs=some x):∃ bs:List Int,bs.length=n/\cs=bs.map i64/\x.1 = .agg (bs.map fun b => .lit (.int .i64 b)):=by
 obtain⟨xs,m,rfl,rfl,hl,hx,hel⟩:=DataW.trod_array ht h;rw [hn] at hl;have each:∀ i (h:i<n),∃ b:Int,cs[i]?=some (i64 b)/\xs[i]?.map (·.1)=some (.lit (.int .i64 b)):=fun i hi=>by
  have h1:=hel i hi;rw [hc,gE (by omega)] at h1;obtain⟨b,h2,h3⟩:=zs2 he h1;refine⟨b,?_,by rw [gE (by omega),Ui,h3]⟩;have:((cs.drop (i*1)).take 1)[0]?=some (i64 b):=by rw [h2];rfl
  simpa using this
 have:∀ k,k<=n->∃ bs:List Int,bs.length=k/\cs.take k=bs.map i64/\(xs.take k).map (·.1)=bs.map fun b => .lit (.int .i64 b):=by
  intro k
  induction k with
  | zero=>exact fun _=>⟨[],rfl,by simp,by simp⟩
  | succ k ih =>
   intro hk;obtain⟨bs,h1,h2,h3⟩:=ih (by omega);obtain⟨b,h4,h5⟩:=each k (by omega);have hk1:k<cs.length:=by omega
   have hk2:k<xs.length:=by omega
   rw [gE hk1] at h4;rw [gE hk2] at h5;refine⟨bs++[b],by simp [h1],?_,?_⟩
   ·rw [tsg hk1,h2,Uj h4];simp
   ·rw [tsg hk2,QW,h3];simp at h5;simp [h5]
 obtain⟨bs,h1,h2,h3⟩:=this n (Gi _);rw [JE (by omega)] at h2 h3;exact⟨bs,h1,h2,by rw [<- h3]⟩
end
theorem zco:Tryz.prog.cellsOf 5=1:=by kernel_rfl
theorem zhw (b o i:Nat):(⟨b,o,none⟩:Addr).add i=⟨b,o+i,none⟩:=by
 unfold Addr.add;by_cases h:i=0
 ·simp [h]
 ·simp [h]
section
variable {w:Wd} {base:Nat} {cs:List Value}
theorem zfc {a:Addr} {n:Nat} (hn:0<n) (h:w.cells? base a n=some cs):a.spot=none/\a.block<w.heap.size/\zq w ⟨a.block,a.off,none⟩ cs:=by
 obtain⟨_,hl,hc⟩:=World.cells?_some h;have h0:=hc 0 hn;rw [gE (by omega)] at h0;have hs:a.spot=none:=by simpa [Addr.add] using World.cell?_spot h0
 obtain⟨b,o,s⟩:=a;dsimp only at hs;subst hs;refine⟨rfl,Jy _ _ h0,qO fun i v hv=>?_⟩;have hi:i<n:=by have:=(Jq.1 hv).1;omega
 have:=(hc i hi).trans hv;rw [zhw] at this;exact this
end
theorem zoG:ownKnob Tryz.prog.godebug=none:=by kernel_rfl
theorem zbt:laidOutB PG=true:=by kernel_rfl
section
variable {H:Type} {enc:TypeId×Value->H} {P:Program} {w:Wd} {base:Nat} {spare:Nat->Bool} {held:Bool} {fuel:Nat} {t e:TypeId} {cs:List Value} {x:DataW H×List MemPlace}
def Opens (enc:TypeId×Value->H) (P:Program) (w:Wd) (base:Nat) (spare:Nat->Bool) (held:Bool) (t:TypeId) (R:List Value->Prop):Prop :=
 ∀ fuel cs x,DataW.trod enc P w base spare held fuel t cs=some x->R cs
theorem Opens.field {fs:Array Field} {R:List Value->Prop} {i:Nat} {f:Field} {n:Nat} {xs:List (DataW H×List MemPlace)} {m:Nat} (hel:∀ (i:Nat) (f:Field),fs[i]?=some f->DataW.trod enc P w base spare held m f.type ((cs.drop f.offset).take (P.cellsOf f.type))=xs[i]?)
  (hl:xs.length=fs.size) (hi:fs[i]?=some f) {o:Nat} (hoo:f.offset=o) (hn:P.cellsOf f.type=n) (ho:Opens enc P w base spare held f.type R):R ((cs.drop o).take n):=by
 subst hoo;have h1:=hel i f hi;have:i<fs.size:=(Jk.1 hi).1;rw [gE (by omega),hn] at h1;exact ho _ _ _ h1
theorem zbc (ht:P.underlying t=some (.int .u8)):Opens enc P w base spare held t fun cs=>∃ b:UInt8,cs=[u8 b]:=fun fuel cs x h=>by
 obtain⟨b,h,_⟩:=zml ht h;exact⟨b,h⟩
theorem zh6 (ht:P.underlying t=some (.int .i64)):Opens enc P w base spare held t fun cs=>∃ b:Int,cs=[.int .i64 b]:=fun fuel cs x h=>by
 obtain⟨n,h,_,_⟩:=Up ht h;exact⟨n,h⟩
theorem znt (ht:P.underlying t=some (.int .u64)):Opens enc P w base spare held t fun cs=>∃ n:Nat,n<18446744073709551616/\cs=[.int .u64 (n:Int)]:=fun fuel cs x h=>by
 obtain⟨n,rfl,_,hw⟩:=Up ht h;have hb:0<=n/\n<=18446744073709551615:=by
  simp only [Lit.wf,dE,bAT] at hw
  first
   | exact⟨by simpa [IntKind.min,IntKind.signed,IntKind.bits] using hw.1,by simpa [IntKind.max,IntKind.signed,IntKind.bits] using hw.2⟩
   | (simp [IntKind.min,IntKind.max,IntKind.signed,IntKind.bits] at hw;omega)
 exact⟨n.toNat,by omega,by congr 2;omega⟩
theorem zh5 {n:Nat} (ht:P.underlying t=some (.array n e)) (he:P.underlying e=some (.int .u8)) (hc:P.cellsOf e=1) (hn:P.cellsOf t=n):Opens enc P w base spare held t fun cs=>∃ bs:List UInt8,bs.length=n/\cs=bs.map u8:=fun fuel cs x h=>by
 obtain⟨bs,h1,h2,_⟩:=zeK ht he hc hn h;exact⟨bs,h1,h2⟩
theorem ziZ {β:Type} {n:Nat} (i0:β) {Q:Nat->β->Prop} (h:∀ i,i<n->∃ b,Q i b):∃ bs:List β,bs.length=n/\∀ i (hi:i<bs.length),Q i bs[i]:=by
 have h2:∀ i,∃ b,i<n->Q i b:=fun i=>by
  by_cases hi:i<n
  ·obtain⟨b,hb⟩:=h i hi;exact⟨b,fun _=>hb⟩
  ·exact⟨i0,fun h=>GE h hi⟩
 obtain⟨g,hg⟩:=Classical.axiomOfChoice h2;refine⟨(List.range n).map g,by simp,fun i hi=>?_⟩;simp only [Qt,KA];exact hg i (by simpa using hi)
theorem zmz {β:Type} {f:β->List Value} {sz:Nat}:∀ (bs:List β) (cs:List Value),cs.length=bs.length*sz->(∀ i (h:i<bs.length),(cs.drop (i*sz)).take sz=f bs[i])->cs=bs.flatMap f
 | [],cs,hl,_=>by simpa using hl
 | b::r,cs,hl,h=>by
  have h0:=h 0 (by simp);simp only [Gd,Us,List.getElem_cons_zero] at h0;rw [KU,<- h0]
  conv=>lhs;rw [<- JQ sz cs]
  congr 1;refine zmz (sz:=sz) r (cs.drop sz) (by rw [Qw,hl,Qv,Gh];omega) fun i hi=>?_;have h1:=h (i+1) (by simpa using hi);rw [Uq];simpa [Gh,UU] using h1
theorem zh7 {β:Type} (i0:β) {f:β->List Value} {Q:β->Prop} {n sz:Nat} (ht:P.underlying t=some (.array n e)) (hc:P.cellsOf e=sz) (hn:P.cellsOf t=n*sz) (ho:Opens enc P w base spare held e fun cs=>∃ b,Q b/\cs=f b) :
  Opens enc P w base spare held t fun cs=>∃ bs:List β,bs.length=n/\(∀ b∈bs,Q b)/\cs=bs.flatMap f:=fun fuel cs x h=>by
 obtain⟨xs,m,rfl,rfl,hl,hx,hel⟩:=DataW.trod_array ht h;rw [hn] at hl;have each:∀ i,i<n->∃ b:β,Q b/\(cs.drop (i*sz)).take sz=f b:=fun i hi=>by
  have h1:=hel i hi;rw [hc,gE (by omega)] at h1;exact ho _ _ _ h1
 obtain⟨bs,h1,h2⟩:=ziZ i0 each;refine⟨bs,h1,fun b hb=>?_,zmz bs cs (by rw [hl,h1]) fun i hi=>(h2 i hi).2⟩;obtain⟨i,hi,rfl⟩:=Ki hb;exact (h2 i hi).1
theorem zo4 {β:Type} (i0:β) {f:β->List Value} {Q:β->Prop} {sz:Nat} (hp:0<sz) (ht:P.underlying t=some (.slice e)) (hc:P.cellsOf e=sz) (ho:Opens enc P w base spare held e fun cs=>∃ b,Q b/\cs=f b) :
  Opens enc P w base spare held t fun cs=>∃ (p:OA) (cap:Nat) (l:List β),cs=[.slice p l.length cap]/\l.length<=9223372036854775807/\(p=none->cap=0)/\(∀ b∈l,Q b)/\∃ b o,(l.length=0\/p=some ⟨b,o,none⟩)/\∀ i (hi:i<l.length),b<w.heap.size/\zq w ⟨b,o+i*sz,none⟩ (f l[i]):=fun fuel cs x h=>by
 rcases DataW.trod_slice ht h with ⟨rfl,_⟩ | ⟨a,len,cap,elems,qF,n,_,rfl,_,_,hlc,hcm,hlen,hel,_,_⟩
 ·exact⟨none,0,[],rfl,by simp,fun _=>rfl,by simp,0,0,.inl rfl,fun i hi=>by simp at hi⟩
 ·have each:∀ i,i<len->∃ m:β,Q m/\(a.add (i*sz)).spot=none/\(a.add (i*sz)).block<w.heap.size/\zq w ⟨(a.add (i*sz)).block,(a.add (i*sz)).off,none⟩ (f m):=fun i hi=>by
   have h1:=hel i hi;rw [hc,gE (by omega),Option.bind_eq_some_iff] at h1;obtain⟨cs,h2,h3⟩:=h1;obtain⟨m,hq,rfl⟩:=ho _ _ _ h3;exact⟨m,hq,zfc hp h2⟩
  obtain⟨l,h1,h2⟩:=ziZ i0 each;have hm:maxLen=9223372036854775807:=rfl;refine⟨some a,cap,l,by rw [h1],by omega,(fun h=>by cases h),fun b hb=>?_,a.block,a.off,?_,fun i hi=>?_⟩
  ·obtain⟨i,hi,rfl⟩:=Ki hb;exact (h2 i hi).1
  ·by_cases h00:l.length=0
   ·exact .inl h00
   ·right;have hsp:a.spot=none:=by
     have:=(h2 0 (by omega)).2.1;simpa [Addr.add] using this
    obtain⟨b,o,s⟩:=a;dsimp only at hsp;subst hsp;rfl
  ·have hsp:a.spot=none:=by
    have:=(h2 0 (by omega)).2.1;simpa [Addr.add] using this
   obtain⟨b,o,s⟩:=a;dsimp only at hsp;subst hsp;have:=(h2 i hi).2.2;rw [zhw] at this;exact this
theorem cut (cs:List Value) (o n o':Nat) (h:o+n=o'):cs.drop o=(cs.drop o).take n++cs.drop o':=by
 rw [<- h,<- Uq,JQ]
end
theorem cC (t n:Nat) (h:Tryz.prog.cellsOf t=n):Tryz.prog.cellsOf t=n:=h
theorem zeD {H:Type} {enc:TypeId×Value->H} {a:Assume} {C:Checked} {os:Os} {f:FuncId} {fn:Func} {s:ChangeSpec} {conds:List PathCond} {apart fresh handsOn again:Bool} {X:Wd->Array Value->Prop}
  (hX:∀ (w w':Wd) (args:Array Value),w.heap=w'.heap->X w args->X w' args)
  (own:ownKnob C.prog.godebug=none) (started:os.Started) (noInit:C.prog.inits.idxOf? f=none) (hfn:C.prog.funcs[f]?=some fn)
  (witness:∃ (w:Wd) (tape:Tape) (i:Input),w.os=os/\(w.forCall tape i).Shaped C.prog/\i.vars=[]/\Input.okWide C.prog (w.forCall tape i) .any w.heap.size f i /\
   ((s.pre enc C.prog fn conds apart (w.forCall tape i).memory i.args/\X (w.forCall tape i).memory i.args)/\sizedMet enc C.prog fn (OpenSpec.ofChange s) apart (w.forCall tape i).memory i.args)/\a.holds C.prog (lone (Frame.enter C.prog f i.args .normal) [] (w.forCall tape i)))
  (contract:∀ (W:Wd) (base:Nat) (args:Array Value) (ds gs:List (DataW H)) (before:List MemPlace),
   (∀ (j:Nat) t v,fn.params[j]?=some t->args[j]?=some v->Value.okWide C.prog W .any base t v) ->
   DataW.Whole enc C.prog fn.params.toList s.vars apart W args.toList ds gs before->X W args->W.ShapedOpen C.prog ->
   (∃ ds gs before,DataW.Whole enc C.prog fn.params.toList (OpenSpec.ofChange s).vars apart W args.toList ds gs before/\∀ n∈DataW.weightsEach C.prog (fn.params.toList++(OpenSpec.ofChange s).bare.plain.varTypes C.prog) (ds++gs),n<=reachBytes) ->
   Calls C.prog f args W fun e W'=>∃ v,e = .returned v/\s.post enc C.prog fn apart fresh handsOn again W args v W') :
  ReturnsInHanded a C os f .any (fun w args=>(s.pre enc C.prog fn conds apart w args/\X w args)/\sizedMet enc C.prog fn (OpenSpec.ofChange s) apart w args) (s.post enc C.prog fn apart fresh handsOn again):=by
 refine returnsInHanded_of_calls own started noInit witness ?_;intro w tape i _ hsh _ hok hpre hholds;obtain⟨_,_,_,fn',hfn',_,_,_,_,hval⟩:=hok;have e:fn'=fn:=Uj (hfn'.symm.trans hfn);subst e;obtain⟨⟨⟨ds,gs,before,hw,hc⟩,hx⟩,hz⟩:=hpre;have hw':=DataW.Whole.of_heap (w':=w.forCall tape i) (by rfl) hw;obtain⟨_,ds2,gs2,before2,hw2,hall⟩:=hz;refine (contract (w.forCall tape i) w.heap.size i.args ds gs before hval hw' (hX _ _ _ (by rfl) hx) hsh ⟨ds2,gs2,before2,DataW.Whole.of_heap (w':=w.forCall tape i) (by rfl) hw2,fun n hn=>dT (Qm.1 hall n hn)⟩).mono fun e W' ⟨v,he,hp⟩=>?_;subst he;exact ChangeSpec.post_blind hp
section
variable {H:Type} {enc:TypeId×Value->H} {P:Program} {w:Wd} {base:Nat} {spare:Nat->Bool} {held:Bool} {fuel:Nat} {t:TypeId} {cs:List Value} {x:DataW H×List MemPlace}
def Wgt (P:Program) (t:TypeId) (d:DataW H):Prop:=∀ n∈d.weights P t,n<=reachBytes
theorem zqv {ds:List (DataW H)} {e:TypeId} (h:∀ n∈DataW.weightsAll P e ds,n<=reachBytes):∀ d∈ds,Wgt P e d:=by
 induction ds with
 | nil=>intro d hd;cases hd
 | cons a r ih =>
  intro d hd;simp only [DataW.weightsAll,QX] at h;rcases UK.1 hd with rfl | hd
  ·exact fun n hn=>h n (.inl hn)
  ·exact ih (fun n hn=>h n (.inr hn)) d hd
end
theorem zgX {H:Type}:∀ {a b:List UInt8},a.map (fun b=>(DataW.lit (.int .u8 b.toNat):DataW H))=b.map (fun b=>DataW.lit (.int .u8 b.toNat))->a=b
 | [],[],_=>rfl
 | [],_::_,h=>by cases h
 | _::_,[],h=>by cases h
 | x::a,y::b,h=>by
  simp only [UJ,QR,QM,UL,GA] at h;rw [zgX h.2,Uk.1 (by omega:x.toNat=y.toNat)]
set_option linter.unusedSectionVars false
section
variable {H:Type} {enc:TypeId×Value->H} {P:Program} {w:Wd} {base:Nat} {spare:Nat->Bool} {held:Bool} {fuel:Nat} {t:TypeId} {cs:List Value} {x:DataW H×List MemPlace}
theorem zgN {n:Nat} {e:TypeId} (ht:P.underlying t=some (.array n e)) (he:P.underlying e=some .string) (hc:P.cellsOf e=1) (hn:P.cellsOf t=n)
  (h:DataW.trod enc P w base spare held fuel t cs=some x):∃ ls:List (List UInt8),ls.length=n/\cs=ls.map zr/\x.1 = .agg (ls.map fun b => .lit (.string b)):=by
 obtain⟨xs,m,rfl,rfl,hl,hx,hel⟩:=DataW.trod_array ht h;rw [hn] at hl;have each:∀ i (h:i<n),∃ b:List UInt8,cs[i]?=some (zr b)/\xs[i]?.map (·.1)=some (.lit (.string b)):=fun i hi=>by
  have h1:=hel i hi;rw [hc,gE (by omega)] at h1;obtain⟨s,h2,h3,_⟩:=DataW.trod_string he h1;have es:Value.string s=zr s.data.toList:=by unfold zr bs;cases s;rfl
  refine⟨s.data.toList,?_,by rw [gE (by omega),Ui,h3]⟩;have:((cs.drop (i*1)).take 1)[0]?=some (zr s.data.toList):=by rw [h2,es];rfl
  simpa using this
 have:∀ k,k<=n->∃ ls:List (List UInt8),ls.length=k/\cs.take k=ls.map zr/\(xs.take k).map (·.1)=ls.map fun b => .lit (.string b):=by
  intro k
  induction k with
  | zero=>exact fun _=>⟨[],rfl,by simp,by simp⟩
  | succ k ih =>
   intro hk;obtain⟨ls,h1,h2,h3⟩:=ih (by omega);obtain⟨b,h4,h5⟩:=each k (by omega);have hk1:k<cs.length:=by omega
   have hk2:k<xs.length:=by omega
   rw [gE hk1] at h4;rw [gE hk2] at h5;refine⟨ls++[b],by simp [h1],?_,?_⟩
   ·rw [tsg hk1,h2,Uj h4];simp
   ·rw [tsg hk2,QW,h3];simp at h5;simp [h5]
 obtain⟨ls,h1,h2,h3⟩:=this n (Gi _);rw [JE (by omega)] at h2 h3;exact⟨ls,h1,h2,by rw [<- h3]⟩
theorem zgw:∀ {a b:List (List UInt8)},(a.map fun b=>(DataW.lit (.string b):DataW Unit))=(b.map fun b => .lit (.string b))->a=b
 | [],[],_=>rfl
 | [],_::_,h=>by cases h
 | _::_,[],h=>by cases h
 | x::r,y::t,h=>by
  simp only [UJ,QR,QM,Lit.string.injEq] at h;rw [h.1,zgw h.2]
def zou:List Int:=[0,0,1,2,3,4,0,0,0,0]
theorem zpA {W:Wd} (h1:zq W ⟨3,0,none⟩ (zY.map zr)) (h2:zq W ⟨1,0,none⟩ (zou.map i64)) (h3:zq W ⟨2,0,none⟩ (jM.map zr)) (h4:zq W ⟨0,0,none⟩ (zeO.map i64)) (h5:GlobC W) (h6:Tz64M W) (h7:Tz32M W):GlobA W:=by
 refine⟨⟨h1,h2,h3,h4,?_⟩,⟨h5,h6,h7⟩⟩;have h0:=h1 0 _ rfl;unfold World.cell? at h0
 split at h0
 ·rename_i hb;exact hlt hb
 ·cases h0
end
section
variable {H:Type} {enc:TypeId×Value->H} {P:Program} {w:Wd} {base:Nat} {spare:Nat->Bool} {held:Bool} {fuel F:Nat} {t e:TypeId} {cs:List Value} {x:DataW H×List MemPlace}
def OpensW (enc:TypeId×Value->H) (P:Program) (w:Wd) (base:Nat) (spare:Nat->Bool) (held:Bool) (F:Nat) (t:TypeId) (R:List Value->Prop):Prop :=
 ∀ n,n<F->∀ cs x,DataW.trod enc P w base spare held n t cs=some x->Wgt P t x.1->R cs
theorem zh9 {R:List Value->Prop} (h:Opens enc P w base spare held t R):OpensW enc P w base spare held F t R:=fun n _ cs x h1 _=>h n cs x h1
theorem OpensW.field {fs:Array Field} {R:List Value->Prop} (ht:P.underlying t=some (.struct fs)) (h:DataW.trod enc P w base spare held fuel t cs=some x) (hw:Wgt P t x.1) (hF:fuel<=F) {i:Nat} {f:Field} (hf:fs[i]?=some f) {T o k:Nat} (hT:f.type=T) (hO:f.offset=o) (hk:P.cellsOf T=k)
  (ho:OpensW enc P w base spare held F T R):R ((cs.drop o).take k):=by
 subst hT hO hk;obtain⟨xs,n,rfl,rfl,hl,hx,hel⟩:=KM ht h;have h1:=hel i f hf;have hi:i<xs.length:=by rw [hx];exact (Jk.1 hf).1
 rw [gE hi] at h1;refine ho n (by omega) _ _ h1 fun m hm=>hw m ?_;simp only [DataW.weights,ht];refine DataW.weights_mem_each (j:=i) (t:=f.type) (d:=xs[i].1) ?_ ?_ m hm
 ·rw [KW];have:fs.toList[i]?=some f:=by simpa using hf
  rw [this];rfl
 ·rw [KW,gE hi];rfl
theorem zgM (ht:P.underlying t=some .string):OpensW enc P w base spare held F t fun cs=>∃ s:List UInt8,s.length<=140737488351232/\cs=[zr s]:=fun n _ cs x h hw=>by
 obtain⟨s,rfl,rfl,_⟩:=DataW.trod_string ht h;refine⟨s.data.toList,hw _ (by simp [DataW.weights]),?_⟩;unfold zr bs;rw [Array.toArray_toList]
theorem zh8 {β:Type} (i0:β) {f:β->List Value} {Q:β->Prop} {sz:Nat} (hp:0<sz) (ht:P.underlying t=some (.slice e)) (hc:P.cellsOf e=sz) (hb:Nat.ble 1 (P.bytesOf e)=true) (ho:OpensW enc P w base spare held F e fun cs=>∃ b,Q b/\cs=f b) :
  OpensW enc P w base spare held (F+1) t fun cs=>∃ (p:OA) (cap:Nat) (l:List β),cs=[.slice p l.length cap]/\(l.length<=140737488351232/\l.length*P.bytesOf e<=140737488351232)/\l.length<=cap/\(∀ b∈l,Q b)/\∃ b o,(l.length=0\/p=some ⟨b,o,none⟩)/\∀ i (hi:i<l.length),b<w.heap.size/\zq w ⟨b,o+i*sz,none⟩ (f l[i]):=fun n hn cs x h hw=>by
 rcases DataW.trod_slice ht h with ⟨rfl,_⟩ | ⟨a,len,cap,elems,qF,n,rfl,rfl,hx,_,hlc,hcm,hlen,hel,_,_⟩
 ·exact⟨none,0,[],rfl,⟨by simp,by simp⟩,by simp,by simp,0,0,.inl rfl,fun i hi=>by simp at hi⟩
 ·subst hx;have hw':∀ m,m∈((elems.map (·.1)).length+(qF.map (·.1)).length)*P.bytesOf e::(DataW.weightsAll P e (elems.map (·.1))++DataW.weightsAll P e (qF.map (·.1)))->m<=reachBytes:=fun m hm=>by
   refine hw m ?_;simp only [DataW.weights,ht];exact hm
  have hb:=JS hb;have hlb:len<=140737488351232/\len*P.bytesOf e<=140737488351232:=by
   have h1:=hw' _ KB;simp only [QT] at h1;have:elems.length*1<=(elems.length+qF.length)*P.bytesOf e:=Uw (QB _ _) hb;have h2:elems.length*P.bytesOf e<=(elems.length+qF.length)*P.bytesOf e:=Uw (QB _ _) (Gi _);have hr:reachBytes=140737488351232:=rfl;rw [<- hlen];omega
  have each:∀ i,i<len->∃ m:β,Q m/\(a.add (i*sz)).spot=none/\(a.add (i*sz)).block<w.heap.size/\zq w ⟨(a.add (i*sz)).block,(a.add (i*sz)).off,none⟩ (f m):=fun i hi=>by
   have h1:=hel i hi;rw [hc,gE (by omega),Option.bind_eq_some_iff] at h1;obtain⟨cs,h2,h3⟩:=h1;obtain⟨m,hq,rfl⟩:=ho n (by omega) _ _ h3 (zqv (ds:=elems.map (·.1)) (fun m hm=>hw' m (JY _ (List.mem_append_left _ hm))) _ (Kl (gM _)));exact⟨m,hq,zfc hp h2⟩
  obtain⟨l,h1,h2⟩:=ziZ i0 each;refine⟨some a,cap,l,by rw [h1],by rw [h1];exact hlb,by omega,fun b hb=>?_,a.block,a.off,?_,fun i hi=>?_⟩
  ·obtain⟨i,hi,rfl⟩:=Ki hb;exact (h2 i hi).1
  ·by_cases h00:l.length=0
   ·exact .inl h00
   ·right;have hsp:a.spot=none:=by
     have:=(h2 0 (by omega)).2.1;simpa [Addr.add] using this
    obtain⟨b,o,s⟩:=a;dsimp only at hsp;subst hsp;rfl
  ·have hsp:a.spot=none:=by
    have:=(h2 0 (by omega)).2.1;simpa [Addr.add] using this
   obtain⟨b,o,s⟩:=a;dsimp only at hsp;subst hsp;have:=(h2 i hi).2.2;rw [zhw] at this;exact this
end
section
variable {H:Type} {enc:TypeId×Value->H} {w:Wd} {base:Nat} {spare:Nat->Bool} {held:Bool} {F:Nat}
theorem zea:∀ F,OpensW enc PG w base spare held F 24 fun cs=>∃ x:Trm×OA×Nat,(x.1.name.length<=140737488351232/\KidsT (fun _=>True) w x.2.1 x.1.kids)/\cs=zd x.1 x.2.1 x.2.2
 | 0=>fun n hn=>GE hn (Nat.not_lt_zero _)
 | F+1=>fun n hn cs x h hw=>by
  have ih:=zea F;have hF:n<=F+1:=by omega
  have hl:cs.length=3:=by
   obtain⟨xs,m,_,_,hl,_,_⟩:=KM Tryz.underlying24 h;rw [cC 24 3 (by kernel_rfl)] at hl;exact hl
  obtain⟨b0,e0⟩:=OpensW.field (F:=F+1) (o:=0) (i:=0) Tryz.underlying24 h hw hF rfl rfl rfl zco (zh9 (zbc Tryz.underlying5));obtain⟨nq,k1,e1⟩:=OpensW.field (F:=F+1) (o:=1) (i:=1) Tryz.underlying24 h hw hF rfl rfl rfl (cC 9 1 (by kernel_rfl)) (zgM Tryz.underlying9);obtain⟨p,cap,l,e2,hll,_,hQ,b,o,hp,hc⟩:=OpensW.field (F:=F+1) (o:=2) (i:=2) Tryz.underlying24 h hw hF rfl rfl rfl (cC 22 1 (by kernel_rfl))
   (zh8 (F:=F) ((.mk 0 [] [],none,0):Trm×OA×Nat) (f:=fun x=>zd x.1 x.2.1 x.2.2) (Q:=fun x=>x.1.name.length<=140737488351232/\KidsT (fun _=>True) w x.2.1 x.1.kids) (sz:=3) (by decide) Tryz.underlying22 (by kernel_rfl) (by kernel_rfl) ih)
  have at_:∀ i (hi:i<l.length),l.getD i (.mk 0 [] [],none,0)=l[i]:=fun i hi=>by rw [gDe,gE hi];rfl
  refine⟨(.mk b0 nq (l.map (·.1)),p,cap),⟨k1,?_⟩,?_⟩
  ·refine .mk p (l.map (·.1)) (by rw [QT];exact hll.1) b o (by rw [QT];exact hp) (fun i=>(l.getD i (.mk 0 [] [],none,0)).2.1) (fun i=>(l.getD i (.mk 0 [] [],none,0)).2.2) (fun i hi=>?_) (fun i hi=>?_)
   ·have hi':i<l.length:=(by rw [QT] at hi;exact hi);rw [at_ i hi',Qt];exact⟨(hQ _ (gM hi')).1,trivial,(hc i hi').2⟩
   ·have hi':i<l.length:=(by rw [QT] at hi;exact hi);rw [at_ i hi',Qt];exact (hQ _ (gM hi')).2
  ·have h0:cs=cs.drop 0:=rfl;have h9:cs.drop 3=[]:=JA (by omega);rw [h0,cut cs 0 1 1 rfl,cut cs 1 1 2 rfl,cut cs 2 1 3 rfl,e0,e1,e2,h9];simp [zd,Trm.kind,Trm.name,Trm.kids]
theorem zia {a:Array Value} {d:DataW H} {p:List MemPlace} (h:DataW.Trod enc PG w base spare held 24 (.agg a) d p) (hw:Wgt PG 24 d):∃ (t:Trm) (q:OA) (c:Nat),Value.agg a = .agg (zd t q c).toArray/\t.name.length<=140737488351232/\KidsT qy w q t.kids:=by
 obtain⟨fuel,h⟩:=h;obtain⟨x,hx,hc⟩:=zea (fuel+1) fuel (QD _) _ _ h hw;have:a.toList=zd x.1 x.2.1 x.2.2:=hc;exact⟨x.1,x.2.1,x.2.2,by rw [<- this],hx⟩
end
section
variable {H:Type} {enc:TypeId×Value->H} {w:Wd} {base:Nat} {spare:Nat->Bool} {held:Bool} {F:Nat}
theorem zlj:OpensW enc PG w base spare held F 49 fun cs=>∃ x:zW,(x.1.kind<=255/\x.1.name.length<=140737488351232/\x.1.term.name.length<=140737488351232/\KidsT qy w x.2.1 x.1.term.kids)/\cs=jb.enc x:=fun n hn cs x h hw=>by
 have hl:cs.length=5:=by
  obtain⟨xs,m,_,_,hl,_,_⟩:=KM Tryz.underlying49 h;rw [cC 49 5 (by kernel_rfl)] at hl;exact hl
 obtain⟨b0,e0⟩:=OpensW.field (F:=F) (o:=0) (i:=0) Tryz.underlying49 h hw (UX hn) rfl rfl rfl zco (zh9 (zbc Tryz.underlying5));obtain⟨nq,k1,e1⟩:=OpensW.field (F:=F) (o:=1) (i:=1) Tryz.underlying49 h hw (UX hn) rfl rfl rfl (cC 9 1 (by kernel_rfl)) (zgM Tryz.underlying9);obtain⟨y,hy,e2⟩:=OpensW.field (F:=F) (o:=2) (i:=2) Tryz.underlying49 h hw (UX hn) rfl rfl rfl (cC 24 3 (by kernel_rfl)) (zea F);refine⟨(⟨b0.toNat,nq,y.1⟩,y.2.1,y.2.2),⟨by have:=b0.toNat_lt;show b0.toNat<=255;omega,k1,hy.1,hy.2⟩,?_⟩;have h0:cs=cs.drop 0:=rfl;have h9:cs.drop 5=[]:=JA (by omega);rw [h0,cut cs 0 1 1 rfl,cut cs 1 1 2 rfl,cut cs 2 3 5 rfl,e0,e1,e2,h9];rfl
theorem znv {a:Array Value} {d:DataW H} {p:List MemPlace} (h:DataW.Trod enc PG w base spare held 47 (.agg a) d p) (hw:Wgt PG 47 d):∃ (ls:List LineD) (q:OA) (c:Nat),Value.agg a = .agg #[.slice q ls.length c]/\LinsM qy w q ls/\ls.length<=140737488351232/\(q=none->c=0):=by
 obtain⟨fuel,h⟩:=h;have h:DataW.trod enc PG w base spare held fuel 47 a.toList=some (d,p):=h;have hl:a.toList.length=1:=by
  obtain⟨xs,m,_,_,hl,_,_⟩:=KM Tryz.underlying47 h;rw [cC 47 1 (by kernel_rfl)] at hl;exact hl
 obtain⟨⟨q,cap,l,e2,hll,_,hQ,b,o,hp,hc⟩,hnone⟩:=OpensW.field (F:=fuel+1) (o:=0) (i:=0) (R:=fun cs=>(∃ (p:OA) (cap:Nat) (l:List zW),cs=[.slice p l.length cap]/\(l.length<=140737488351232/\l.length*Tryz.prog.bytesOf 49<=140737488351232)/\l.length<=cap/\(∀ b∈l,b.1.kind<=255/\b.1.name.length<=140737488351232/\b.1.term.name.length<=140737488351232/\KidsT qy w b.2.1 b.1.term.kids)/\∃ b o,(l.length=0\/p=some ⟨b,o,none⟩)/\∀ i (hi:i<l.length),b<w.heap.size/\zq w ⟨b,o+i*5,none⟩ (jb.enc l[i]))/\∀ n c,cs=[.slice none n c]->c=0)
  Tryz.underlying47 h hw (Nat.le_succ _) rfl rfl rfl (cC 45 1 (by kernel_rfl)) (fun n hn cs x h hw =>
   ⟨zh8 (F:=fuel) ((⟨0,[],.mk 0 [] []⟩,none,0):zW) (f:=jb.enc) (Q:=fun b=>b.1.kind<=255/\b.1.name.length<=140737488351232/\b.1.term.name.length<=140737488351232/\KidsT qy w b.2.1 b.1.term.kids) (sz:=5) (by decide) Tryz.underlying45 (by kernel_rfl) (by kernel_rfl) zlj n hn cs x h hw,fun m c e=>by
    rcases DataW.trod_slice Tryz.underlying45 h with ⟨e3,_⟩ | ⟨a,len,cap,elems,qF,n,_,e3,_⟩
    ·rw [e] at e3;simp only [QR,Qd,Gw,GA] at e3;exact e3.2
    ·rw [e] at e3;simp at e3⟩)
 have e0:a.toList=[.slice q l.length cap]:=by
  have:(a.toList.drop 0).take 1=a.toList:=by rw [Us,JE (by omega)]
  rw [<- this];exact e2
 refine⟨l.map (·.1),q,cap,?_,⟨l,rfl,?_,fun z hz=>hQ z hz,fun _ _ _=>trivial⟩,by rw [QT];exact hll.1,fun e=>hnone l.length cap (by rw [e2,e])⟩
 ·rw [QT];congr 1;rw [<- Qh,e0]
 ·by_cases h0:l=[]
  ·exact .inl h0
  ·have hl0:0<l.length:=List.length_pos_iff.2 h0;have hq:q=some ⟨b,o,none⟩:=by rcases hp with h | h;omega;exact h
   exact .inr ⟨b,o,hq,(hc 0 hl0).1,fun i hi=>(hc i hi).2⟩
end
theorem zgU {α:Type} (d:α) (f:α->Value) (n:Nat) (l:List α) (h:l.length=n):l.map f=(List.range n).map fun i=>f (l.getD i d):=by
 apply KS;intro i;rw [KW,KW];by_cases hi:i<n
 ·rw [Kh hi,gE (by omega),Ui,Ui,gDe,gE (by omega)];rfl
 ·rw [JJ (by omega),JJ (by rw [KX];omega)];rfl
theorem zfV {α:Type} (f:α->Value):∀ l:List α,l.flatMap (fun x=>[f x])=l.map f
 | []=>rfl
 | a::l=>by rw [KU,zfV f l];rfl
theorem flatMap_map {α:Type} (f:α->Value):∀ l:List (List α),l.flatMap (fun x=>x.map f)=l.flatten.map f
 | []=>rfl
 | a::l=>by rw [KU,flatMap_map f l,List.flatten_cons,QW]
section
variable {H:Type} {enc:TypeId×Value->H} {w:Wd} {base:Nat} {spare:Nat->Bool} {held:Bool}
theorem zo5:Opens enc PG w base spare held 158 fun cs=>∃ e:Ev,True/\cs=evE.enc e:=fun fuel cs x h=>by
 obtain⟨xs,m,rfl,rfl,hl,hx,hel⟩:=KM Tryz.underlying158 h;rw [cC 158 7 (by kernel_rfl)] at hl;obtain⟨b0,e0⟩:=Opens.field (o:=0) (i:=0) hel hx rfl rfl (cC 3 1 (by kernel_rfl)) (zh6 Tryz.underlying3);obtain⟨b1,e1⟩:=Opens.field (o:=1) (i:=1) hel hx rfl rfl zco (zbc Tryz.underlying5);obtain⟨b2,e2⟩:=Opens.field (o:=2) (i:=2) hel hx rfl rfl zco (zbc Tryz.underlying5);obtain⟨b3,e3⟩:=Opens.field (o:=3) (i:=3) hel hx rfl rfl zco (zbc Tryz.underlying5);obtain⟨b4,e4⟩:=Opens.field (o:=4) (i:=4) hel hx rfl rfl zco (zbc Tryz.underlying5);obtain⟨b5,e5⟩:=Opens.field (o:=5) (i:=5) hel hx rfl rfl zco (zbc Tryz.underlying5);obtain⟨b6,e6⟩:=Opens.field (o:=6) (i:=6) hel hx rfl rfl zco (zbc Tryz.underlying5);refine⟨⟨b0,b1,b2,b3,b4,b5,b6⟩,trivial,?_⟩;have h0:cs=cs.drop 0:=rfl;have h9:cs.drop 7=[]:=JA (by omega);rw [h0,cut cs 0 1 1 rfl,cut cs 1 1 2 rfl,cut cs 2 1 3 rfl,cut cs 3 1 4 rfl,cut cs 4 1 5 rfl,cut cs 5 1 6 rfl,cut cs 6 1 7 rfl,e0,e1,e2,e3,e4,e5,e6,h9];rfl
theorem zbA:Opens enc PG w base spare held 30 fun cs=>∃ r:RelD,zE r.to/\cs=zf r:=fun fuel cs x h=>by
 obtain⟨xs,m,rfl,rfl,hl,hx,hel⟩:=KM Tryz.underlying30 h;rw [cC 30 49 (by kernel_rfl)] at hl;obtain⟨n,e0⟩:=Opens.field (o:=0) (i:=0) hel hx rfl rfl (cC 3 1 (by kernel_rfl)) (zh6 Tryz.underlying3);obtain⟨bs,h1,h2,e1⟩:=Opens.field (o:=1) (i:=1) hel hx rfl rfl (cC 28 48 (by kernel_rfl)) (zh7 (β:=Nat) 0 (f:=fun n=>[s64 n]) (Q:=fun n=>n<18446744073709551616) (n:=48) (sz:=1) Tryz.underlying28 (by kernel_rfl) (by kernel_rfl) (znt Tryz.underlying27));refine⟨⟨n,fun i=>bs.getD i 0⟩,fun i hi=>?_,?_⟩
 ·show bs.getD i 0<2^64;rw [gDe,gE (by omega)];exact h2 _ (gM _)
 have h0:cs=cs.drop 0:=rfl;have h9:cs.drop 49=[]:=JA (by omega);rw [h0,cut cs 0 1 1 rfl,cut cs 1 48 49 rfl,e0,e1,h9,zfV,zgU 0 s64 48 bs h1,QQ];rfl
theorem zjZ:Opens enc PG w base spare held 35 fun cs=>∃ (f g:Nat->UInt8),cs=seg 32 (fun i=>u8 (f i))++seg 6 (fun i=>u8 (g i)):=fun fuel cs x h=>by
 obtain⟨xs,m,rfl,rfl,hl,hx,hel⟩:=KM Tryz.underlying35 h;rw [cC 35 38 (by kernel_rfl)] at hl;have row:Opens enc PG w base spare held 31 fun cs=>∃ bs:List UInt8,bs.length=8/\cs=bs.map u8:=zh5 Tryz.underlying31 Tryz.underlying5 zco (cC 31 8 (by kernel_rfl));obtain⟨bss,h1,h2,e0⟩:=Opens.field (o:=0) (i:=0) hel hx rfl rfl (cC 32 32 (by kernel_rfl)) (zh7 (β:=List UInt8) [] (f:=fun bs=>bs.map u8) (Q:=fun bs=>bs.length=8) (n:=4) (sz:=8) Tryz.underlying32 (by kernel_rfl) (by kernel_rfl) row);obtain⟨ms,h3,e1⟩:=Opens.field (o:=32) (i:=1) hel hx rfl rfl (cC 33 6 (by kernel_rfl)) (zh5 Tryz.underlying33 Tryz.underlying5 zco (cC 33 6 (by kernel_rfl)));have hfl:bss.flatten.length=32:=by
  match bss,h1 with
  | [a,b,c,d],_ =>
   have:=h2 a (by simp);have:=h2 b (by simp);have:=h2 c (by simp);have:=h2 d (by simp);simp only [List.flatten_cons,List.flatten_nil,lap,QU];omega
 refine⟨fun i=>bss.flatten.getD i 0,fun i=>ms.getD i 0,?_⟩;have h0:cs=cs.drop 0:=rfl;have h9:cs.drop 38=[]:=JA (by omega);rw [h0,cut cs 0 32 32 rfl,cut cs 32 6 38 rfl,e0,e1,h9,flatMap_map,zgU 0 u8 32 _ hfl,zgU 0 u8 6 ms h3,QQ];rfl
theorem zsN {α:Type} {E:Enc α} {p:OA} {l:List α} {b o:Nat} (h1:l.length=0\/p=some ⟨b,o,none⟩) (h2:∀ i (hi:i<l.length),b<w.heap.size/\zq w ⟨b,o+i*E.sz,none⟩ (E.enc l[i])):SlR E w p l:=by
 rcases h1 with h | h
 ·exact .inl (Jf h)
 ·by_cases h0:l=[]
  ·exact .inl h0
  ·have hl:=List.length_pos_iff.2 h0;exact .inr ⟨b,o,h,(h2 0 hl).1,fun i hi=>(h2 i hi).2⟩
theorem zli:Opens enc PG w base spare held 37 fun cs=>∃ (x:ExD) (q:OA) (c:Nat),(SlR evE w q x.ev/\WX x)/\cs=exC x q c:=fun fuel cs x h=>by
 obtain⟨xs,m,rfl,rfl,hl,hx,hel⟩:=KM Tryz.underlying37 h;rw [cC 37 333 (by kernel_rfl)] at hl;obtain⟨q,c,l,e0,_,_,_,b,o,hp,hc⟩:=Opens.field (o:=0) (i:=0) hel hx rfl rfl (cC 25 1 (by kernel_rfl)) (zo4 (β:=Ev) ev0 (f:=evE.enc) (Q:=fun _=>True) (sz:=7) (by decide) Tryz.underlying25 (by kernel_rfl) zo5);have c49:=cC 30 49 (by kernel_rfl);obtain⟨r1,w1,e1⟩:=Opens.field (o:=1) (i:=1) hel hx rfl rfl c49 zbA;obtain⟨r2,w2,e2⟩:=Opens.field (o:=50) (i:=2) hel hx rfl rfl c49 zbA;obtain⟨r3,w3,e3⟩:=Opens.field (o:=99) (i:=3) hel hx rfl rfl c49 zbA;obtain⟨r4,w4,e4⟩:=Opens.field (o:=148) (i:=4) hel hx rfl rfl c49 zbA;obtain⟨r5,w5,e5⟩:=Opens.field (o:=197) (i:=5) hel hx rfl rfl c49 zbA;obtain⟨r6,w6,e6⟩:=Opens.field (o:=246) (i:=6) hel hx rfl rfl c49 zbA;obtain⟨f,g,e7⟩:=Opens.field (o:=295) (i:=7) hel hx rfl rfl (cC 35 38 (by kernel_rfl)) zjZ;refine⟨⟨l,r1,r2,r3,r4,r5,r6,f,g⟩,q,c,⟨zsN hp hc,⟨w1,w2,w3,w4,w5,w6⟩⟩,?_⟩;have h0:cs=cs.drop 0:=rfl;have h9:cs.drop 333=[]:=JA (by omega);rw [h0,cut cs 0 1 1 rfl,cut cs 1 49 50 rfl,cut cs 50 49 99 rfl,cut cs 99 49 148 rfl,cut cs 148 49 197 rfl,cut cs 197 49 246 rfl,cut cs 246 49 295 rfl,cut cs 295 38 333 rfl,e0,e1,e2,e3,e4,e5,e6,e7,h9,QQ];rfl
theorem zlk {a:Array Value} {d:DataW H} {p:List MemPlace} (h:DataW.Trod enc PG w base spare held 37 (.agg a) d p):∃ (x:ExD) (q:OA) (c:Nat),Value.agg a = .agg (exC x q c).toArray/\(SlR evE w q x.ev/\WX x):=by
 obtain⟨fuel,h⟩:=h;obtain⟨x,q,c,hr,hc⟩:=zli _ _ _ h;have:a.toList=exC x q c:=hc;exact⟨x,q,c,by rw [<- this],hr⟩
end
structure GlobL11 (W:Wd):Prop where
 t32:Tz32M W
 t64:Tz64M W
 needs:GlobC W
 cnd:zq W ⟨0,0,none⟩ (zeO.map i64)
 cst:zq W ⟨1,0,none⟩ (zou.map i64)
 csg:zq W ⟨2,0,none⟩ (jM.map zr)
 cop:zq W ⟨3,0,none⟩ (zY.map zr)
abbrev j9 : List (String × DataW Unit) := [("math/bits.deBruijn32tab", Rows.laid_math_bits_deBruijn32tab), ("math/bits.deBruijn64tab", Rows.laid_math_bits_deBruijn64tab), ("seisin/check.needs", Rows.laid_seisin_check_needs), ("seisin/cat.needs", Rows.laid_seisin_cat_needs), ("seisin/cat.strength", Rows.laid_seisin_cat_strength), ("seisin/cat.signs", Rows.laid_seisin_cat_signs), ("seisin/cat.openers", Rows.laid_seisin_cat_openers)]
theorem qW {W:Wd} (h:laidMetH PG j9 W) (hsh:W.ShapedOpen PG):GlobL11 W:=by
 have h0:laidMet PG j9 W:=h;have h1:=h0.tail;have h2:=h1.tail;have h3:=h2.tail;have h4:=h3.tail;have h5:=h4.tail;have h6:=h5.tail;have t32:Tz32M W:=by
  obtain⟨ps,⟨g',t',cs,fuel,p,q,hg',ht',hv,hd,_,_⟩,_⟩:=h0
  obtain rfl := Uj ((show Tryz.prog.globalNamed "math/bits.deBruijn32tab" = some 9 by kernel_rfl).symm.trans hg')
  obtain rfl:=Uj ((show (Tryz.prog.globals[9]?).map (·.type)=some 369 by kernel_rfl).symm.trans ht');obtain⟨bs,h1,h2,h3⟩:=zeK Tryz.underlying369 Tryz.underlying5 (by kernel_rfl) (by kernel_rfl) hd;have hbs:bs=zhL:=by
   have e:(Rows.laid_math_bits_deBruijn32tab:DataW Unit) = .agg (zhL.map fun b => .lit (.int .u8 b.toNat)):=rfl;exact zgX (UF (h3.symm.trans e))
  subst hbs;refine qO fun i v hvv=>?_;have hc:=Ul hg' hv i;rw [<- hvv,<- h2];simpa using hc
 have t64:Tz64M W:=by
  obtain⟨ps,⟨g',t',cs,fuel,p,q,hg',ht',hv,hd,_,_⟩,_⟩:=h1
  obtain rfl := Uj ((show Tryz.prog.globalNamed "math/bits.deBruijn64tab" = some 4 by kernel_rfl).symm.trans hg')
  obtain rfl:=Uj ((show (Tryz.prog.globals[4]?).map (·.type)=some 299 by kernel_rfl).symm.trans ht');obtain⟨bs,h1,h2,h3⟩:=zeK Tryz.underlying299 Tryz.underlying5 (by kernel_rfl) (by kernel_rfl) hd;have hbs:bs=zhK:=by
   have e:(Rows.laid_math_bits_deBruijn64tab:DataW Unit) = .agg (zhK.map fun b => .lit (.int .u8 b.toNat)):=rfl;exact zgX (UF (h3.symm.trans e))
  subst hbs;refine qO fun i v hvv=>?_;have hc:=Ul hg' hv i;rw [<- hvv,<- h2];simpa using hc
 have needs:GlobC W:=by
  obtain⟨ps,⟨g',t',cs,fuel,p,q,hg',ht',hv,hd,_,_⟩,_⟩:=h2
  obtain rfl := Uj ((show Tryz.prog.globalNamed "seisin/check.needs" = some 8 by kernel_rfl).symm.trans hg')
  obtain rfl:=Uj ((show (Tryz.prog.globals[8]?).map (·.type)=some 359 by kernel_rfl).symm.trans ht');obtain⟨bs,h1,h2,h3⟩:=zeK Tryz.underlying359 Tryz.underlying5 (by kernel_rfl) (by kernel_rfl) hd;have hbs:bs=zeP:=by
   match bs,h1 with
   | [b0,b1,b2,b3,b4,b5,b6,b7,b8],_ =>
    simp only [Rows.laid_seisin_check_needs,UJ,UR,DataW.agg.injEq,QR,QM,UL,GA,Gw] at h3;simp only [zeP,QR,Gw];obtain⟨a0,a1,a2,a3,a4,a5,a6,a7,a8⟩:=h3;refine⟨?_,?_,?_,?_,?_,?_,?_,?_,?_⟩ <;> (apply Uk.1;simp;omega)
  subst hbs;refine qO fun i v hvv=>?_;have hc:=Ul hg' hv i;rw [<- hvv,<- h2];simpa using hc
 have cnd:zq W ⟨0,0,none⟩ (zeO.map i64):=by
  obtain⟨ps,⟨g',t',cs,fuel,p,q,hg',ht',hv,hd,_,_⟩,_⟩:=h3
  obtain rfl := Uj ((show Tryz.prog.globalNamed "seisin/cat.needs" = some 0 by kernel_rfl).symm.trans hg')
  obtain rfl:=Uj ((show (Tryz.prog.globals[0]?).map (·.type)=some 180 by kernel_rfl).symm.trans ht');obtain⟨bs,h1,h2,h3⟩:=zmm Tryz.underlying180 Tryz.underlying3 (by kernel_rfl) (by kernel_rfl) hd;have hbs:bs=zeO:=by
   match bs,h1 with
   | [b0,b1,b2,b3,b4,b5,b6,b7,b8,b9],_ =>
    simp only [Rows.laid_seisin_cat_needs,UJ,UR,DataW.agg.injEq,QR,QM,UL,GA,Gw] at h3;simp only [zeO,QR,Gw];obtain⟨a0,a1,a2,a3,a4,a5,a6,a7,a8,a9⟩:=h3;exact⟨a0.symm,a1.symm,a2.symm,a3.symm,a4.symm,a5.symm,a6.symm,a7.symm,a8.symm,a9.symm⟩
  subst hbs;refine qO fun i v hvv=>?_;have hc:=Ul hg' hv i;rw [<- hvv,<- h2];simpa using hc
 have cst:zq W ⟨1,0,none⟩ (zou.map i64):=by
  obtain⟨ps,⟨g',t',cs,fuel,p,q,hg',ht',hv,hd,_,_⟩,_⟩:=h4
  obtain rfl := Uj ((show Tryz.prog.globalNamed "seisin/cat.strength" = some 1 by kernel_rfl).symm.trans hg')
  obtain rfl:=Uj ((show (Tryz.prog.globals[1]?).map (·.type)=some 180 by kernel_rfl).symm.trans ht');obtain⟨bs,h1,h2,h3⟩:=zmm Tryz.underlying180 Tryz.underlying3 (by kernel_rfl) (by kernel_rfl) hd;have hbs:bs=zou:=by
   match bs,h1 with
   | [b0,b1,b2,b3,b4,b5,b6,b7,b8,b9],_ =>
    simp only [Rows.laid_seisin_cat_strength,UJ,UR,DataW.agg.injEq,QR,QM,UL,GA,Gw] at h3;simp only [zou,QR,Gw];obtain⟨a0,a1,a2,a3,a4,a5,a6,a7,a8,a9⟩:=h3;exact⟨a0.symm,a1.symm,a2.symm,a3.symm,a4.symm,a5.symm,a6.symm,a7.symm,a8.symm,a9.symm⟩
  subst hbs;refine qO fun i v hvv=>?_;have hc:=Ul hg' hv i;rw [<- hvv,<- h2];simpa using hc
 have csg:zq W ⟨2,0,none⟩ (jM.map zr):=by
  obtain⟨ps,⟨g',t',cs,fuel,p,q,hg',ht',hv,hd,_,_⟩,_⟩:=h5
  obtain rfl := Uj ((show Tryz.prog.globalNamed "seisin/cat.signs" = some 2 by kernel_rfl).symm.trans hg')
  obtain rfl:=Uj ((show (Tryz.prog.globals[2]?).map (·.type)=some 185 by kernel_rfl).symm.trans ht');obtain⟨bs,h1,h2,h3⟩:=zgN Tryz.underlying185 Tryz.underlying9 (by kernel_rfl) (by kernel_rfl) hd;have hbs:bs=jM:=zgw (UF ((show (DataW.agg (jM.map fun b => .lit (.string b)):DataW Unit)=_ from h3).symm.trans rfl).symm) |>.symm;subst hbs;refine qO fun i v hvv=>?_;have hc:=Ul hg' hv i;rw [<- hvv,<- h2];simpa using hc
 have cop:zq W ⟨3,0,none⟩ (zY.map zr):=by
  obtain⟨ps,⟨g',t',cs,fuel,p,q,hg',ht',hv,hd,_,_⟩,_⟩:=h6
  obtain rfl := Uj ((show Tryz.prog.globalNamed "seisin/cat.openers" = some 3 by kernel_rfl).symm.trans hg')
  obtain rfl:=Uj ((show (Tryz.prog.globals[3]?).map (·.type)=some 67 by kernel_rfl).symm.trans ht');obtain⟨bs,h1,h2,h3⟩:=zgN Tryz.underlying67 Tryz.underlying9 (by kernel_rfl) (by kernel_rfl) hd;have hbs:bs=zY:=zgw (UF ((show (DataW.agg (zY.map fun b => .lit (.string b)):DataW Unit)=_ from h3).symm.trans rfl).symm) |>.symm;subst hbs;refine qO fun i v hvv=>?_;have hc:=Ul hg' hv i;rw [<- hvv,<- h2];simpa using hc
 exact⟨t32,t64,needs,cnd,cst,csg,cop⟩
def zms:DataW Unit->List Value
 | .lit (.int k n)=>[.int k n]
 | .lit (.string s)=>[.string ⟨s.toArray⟩]
 | _=>[]
def zcN:DataW Unit->List Value
 | .agg ps=>ps.flatMap zms
 | x=>zms x
def zcF (h:Array Obj) (g:Nat) (cs:List Value):Array Obj:=h.modify g fun
 | .cells _ t frozen => .cells cs.toArray t frozen
 | o=>o
def zre (h:Array Obj):Array Obj :=
 let h1:=zcF h 9 (zcN Rows.laid_math_bits_deBruijn32tab)
 let h2:=zcF h1 4 (zcN Rows.laid_math_bits_deBruijn64tab)
 let h3:=zcF h2 8 (zcN Rows.laid_seisin_check_needs)
 let h4:=zcF h3 0 (zcN Rows.laid_seisin_cat_needs)
 let h5:=zcF h4 1 (zcN Rows.laid_seisin_cat_strength)
 let h6:=zcF h5 2 (zcN Rows.laid_seisin_cat_signs)
 zcF h6 3 (zcN Rows.laid_seisin_cat_openers)
noncomputable def zeY (os:Os):Wd :=
 { World.holding PG os ⟨#[],#[],[]⟩ with heap:=zre (World.holding PG os ⟨#[],#[],[]⟩).heap }
theorem zfx (os:Os) (args:Array Value):laidMetH PG j9 ((zeY os).forCall (fun _ _=>0) ⟨#[],args,[]⟩).memory:=by
 show laidMet PG j9 _;exact laidMet_of_run' 8 (by kernel_rfl) (by kernel_rfl)
end Go.Proofs.YtnadlhpkpnfmbaaGreatDoor
