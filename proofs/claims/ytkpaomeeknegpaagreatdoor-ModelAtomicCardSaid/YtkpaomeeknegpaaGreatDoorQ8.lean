/- Contracts of functions, and plain facts, for the law that the last text of this claim proves. -/
import Derived.Test.YtkpaomeeknegpaaGreatDoorQ7
import Derived.Test.YtkpaomeeknegpaaGreatDoorQ3
import Derived.Test.YtkpaomeeknegpaaGreatDoorQ1
import Derived.Test.YtkpaomeeknegpaaGreatDoorRows
import Derived.ProofKit
import Derived.OpenShut
import Derived.LaidLaws
import Derived.Below
import Derived.HandedShaped
import Derived.KernelRfl
import Derived.WalkKit
import Derived.ChangeOld
import Derived.SevenTiedAt
import Derived.LaidHandle
import Derived.Stop.LaidErr
import Derived.Lib.LaidTab
import Derived.SizedLaws
import Derived.Test.YtkpaomeeknegpaaGreatDoorQ4
import Derived.Test.YtkpaomeeknegpaaGreatDoorQ2
import Derived.Test.YtkpaomeeknegpaaGreatDoorQ6
set_option linter.unusedSimpArgs false
set_option linter.unusedVariables false
namespace Go.Proofs.YtkpaomeeknegpaaGreatDoor
open Go.Vc Go.RowKit Go.Sei
section
variable {w:Wd} {i0 a b op:UInt8}
theorem zut (op:UInt8):4+op%2=4\/4+op%2=5:=by
 have h:(op%2).toNat=op.toNat%2:=UInt8.toNat_mod op 2;have h2:op%2=0\/op%2=1:=by
  rcases Nat.mod_two_eq_zero_or_one op.toNat with e | e
  ·exact .inl (Ue.1 (h.trans e))
  ·exact .inr (Ue.1 (h.trans e))
 rcases h2 with e | e
 ·rw [e];exact .inl rfl
 ·rw [e];exact .inr rfl
theorem znI {L:Nat} {v:UInt8} (f:w.heap[L]?=some (.cells #[u8 op] 5 (0,0))):Calls PG 13 #[u8 v,At0 L] w fun e w'=>(∃ g,e = .returned (.slice (some ⟨g,0,none⟩) [atI (4+op%2) v].length 1)/\w'.heap[g]?=some (.cells (zF.enc (atI (4+op%2) v)).toArray 55 (0,0))/\w.heap.size<=g)/\Bw w w':=by
 refine zI 11 [u8 v,At0 L] Tryz.func13 ?_;refine⟨_,zc (za f) (i:=0) rfl,by decide,((op%2).toNat:Int),by show ((op.toNat:Int)).tmod 2=_;rw [Int.tmod_eq_emod_of_nonneg (by omega),UInt8.toNat_mod];exact (Int.natCast_emod ..).symm,((4+op%2).toNat:Int),zmE 4 (op%2),[.bool false,u8 v],by kernel_rfl,?_⟩;refine⟨zF.enc (atI (4+op%2) v),by kernel_rfl,?_⟩;exact⟨⟨by decide,by decide,rfl⟩,zF.enc (atI (4+op%2) v),rfl,⟨w.heap.size,rfl,zw w _,UV _⟩,(zba w _)⟩
theorem zhN (x:ExD) (k:Nat):jW x (k+1)=jW x k++(if isR x k=true then (List.range x.ev.length).filter fun w=>zg x.rf w k else []):=by
 unfold jW;rw [QU,Kg,KR,Qo,QI]
theorem zk7 (x:ExD):∀ k,(jW x k).length<=k*x.ev.length
 | 0=>UY _
 | k+1=>by
  rw [zhN,lap,UP];have h1:=zk7 x k;have h2:(if isR x k=true then (List.range x.ev.length).filter fun w=>zg x.rf w k else []).length<=x.ev.length:=by
   split
   ·have:=JL (fun w=>zg x.rf w k) (List.range x.ev.length);rw [KU] at this;exact this
   ·exact UY _
  omega
theorem zty {x:ExD} {r:RelD} (h:RelOk x.ev.length r) {i j:Nat} (hi:i<x.ev.length) (hj:j<x.ev.length):zge r i j=zg r i j:=by
 unfold zge;rw [h.ok,h.n,Uq (by omega:(i:Int)<(x.ev.length:Int)),Uq (by omega:(j:Int)<(x.ev.length:Int))];rfl
def zij (p q i:Nat):Nat:=(if p<i then 1 else 0)+if q<i then 1 else 0
theorem ztZ (p q:Nat):zij p q 0=0:=by
 unfold zij;rw [Gm (QZ _),Gm (QZ _)]
theorem ztY {p q n:Nat} (h0:p<n) (h1:q<n):zij p q n=2:=by
 unfold zij;rw [Gn h0,Gn h1]
theorem ztX {p q:Nat} (hne:p≠q) (i:Nat):zij p q (i+1)=zij p q i+if i=p\/i=q then 1 else 0:=by
 unfold zij
 split <;> split <;> split <;> split <;> split <;> omega
theorem zsl (p q i:Nat):zij p q i<=2:=by
 unfold zij
 split <;> split <;> omega
def cmN (p q:Nat) (m:UInt8):Nat:=if 2<m.toNat then q else p
theorem zmG {m:UInt8} (h:m.toNat<=6):(m+1).toNat=m.toNat+1:=by
 rw [UInt8.toNat_add];show (m.toNat+1)%256=_;omega
theorem zqx {p q:Nat} {m:UInt8} {hb:Bool} (hq:q=p+if hb=true then 1 else 0) (hm:m.toNat<=6):cmN p q (m+1)=cmN p q m+if m=2/\hb=true then 1 else 0:=by
 unfold cmN;rw [zmG hm];have h2:m=2↔m.toNat=2:=⟨fun h=>by rw [h];rfl,fun h=>Ue.1 h⟩
 cases hb with
 | false =>
  rw [Gm (c:=m=2/\false=true) (fun h=>by cases h.2)];rw [Gm Ku] at hq
  split <;> split <;> omega
 | true =>
  rw [Gn rfl] at hq;by_cases e:m=2
  ·rw [Gn (c:=m=2/\_) ⟨e,rfl⟩];have:=h2.1 e
   split <;> split <;> omega
  ·rw [Gm (c:=m=2/\_) fun h=>e h.1];have:m.toNat≠2:=fun h=>e (h2.2 h)
   split <;> split <;> omega
theorem zt1 {p q:Nat} (hp:p<=2) (hq:q<=2) (m:UInt8):cmN p q m<=2:=by
 unfold cmN
 split <;> assumption
theorem zie (hG:GlobE w) :
  CB 5 #[u8 i0,u8 a,u8 b,u8 op] w (.bool true):=by
 refine zeH (S:=sg 105) (zbC _) (args:=[u8 i0,u8 a,u8 b,u8 op])
  (.c .p (.s .p (.c .p (.c .p (.c .p (.c .p (.c .p (.c (.s .p (.b (.l (.s .p (.s .p (.c (.b (.c .p (.c .p (.c (.s .p (.b (.l (.s .p (.s .p (.c (.b (.c .p (.c .p (.s .p (.b (.l (.s .p (.s .p (.c (.b (.s .p .p)) .p))))))))) .p)))))) (.s .p (.b (.l (.s .p (.c (.b (.c .p (.c .p .p))) .p))))))))) .p)))))) .p)))))))) Tryz.func5 rfl rfl (JR rfl) rfl ?_
 obtain⟨L,hL⟩:=nm (w.heap.size);refine⟨Unit,fun _=>⟨[(0,u8 i0),(1,u8 a),(2,u8 b),(7,At0 L)],[]⟩,fun _ X=>X.heap[L]?=some (.cells #[u8 op] 5 (0,0))/\Bw w X,⟨(),⟨.cons rfl (.cons rfl (.cons rfl (.cons (by rw [hL];rfl) .nil))),rfl⟩,by rw [hL];exact zw w _,(zba w _)⟩,?_⟩;rintro _ X ⟨f0,hbX⟩;have aw:∀ Y,Bw w Y->Calls PG 8 #[] Y fun e w'=>e = .returned (.bool true)/\Bw w w':=fun Y hwY=>cmo (zt5 (hG.below hwY)) fun e U h=>⟨h.1,hwY.trans (h.2.mono hwY.size)⟩;obtain⟨k,hk⟩:=nm (4+op%2);have hop:k=4\/k=5:=by rw [hk];exact zut op
 refine⟨Nat×Nat×Nat×Nat×Nat×Nat,fun s=>⟨[(0,u8 i0),(10,At0 s.1)],[]⟩,fun s Y=>w.heap.size<=s.1/\w.heap.size<=s.2.2.1/\s.2.1≠s.2.2.1/\s.2.2.1≠s.2.2.2.1/\s.2.2.1≠s.2.2.2.2.1/\s.2.2.1≠s.2.2.2.2.2/\s.2.2.1≠s.1 /\
   Y.heap[s.1]?=some (.cells (ju (zeb [atI k a] [atI k b]) (some ⟨s.2.1,0,none⟩) 2 (some ⟨s.2.2.1,0,none⟩) 2 (some ⟨s.2.2.2.1,0,none⟩) 2 none 0).toArray 29 (0,0)) /\
   Y.heap[s.2.1]?=some (.cells #[qG [120],qG [121]] 9 (0,0))/\Y.heap[s.2.2.1]?=some (.cells #[u8 0,u8 0] 5 (0,0))/\Y.heap[s.2.2.2.1]?=some (.cells #[.slice (some ⟨s.2.2.2.2.1,0,none⟩) 1 1,.slice (some ⟨s.2.2.2.2.2,0,none⟩) 1 1] 51 (0,0)) /\
   Y.heap[s.2.2.2.2.1]?=some (.cells (zF.enc (atI k a)).toArray 55 (0,0))/\Y.heap[s.2.2.2.2.2]?=some (.cells (zF.enc (atI k b)).toArray 55 (0,0))/\Bw w Y,?_,?_⟩
 ·refine cmo (znI f0) ?_;rintro e Y ⟨⟨g1,rfl,h1,n1⟩,hbY⟩;have hwY:=zst hbX hbY;refine cmo (znI (zb hbY f0)) ?_;rintro e Z ⟨⟨g2,rfl,h2,n2⟩,hbZ⟩;have hwZ:=zst hwY hbZ;rw [<- hk] at h1 h2 ⊢;refine cmo zo5 ?_;rintro e U ⟨⟨b0,b1,b2,rfl,m1,m2,m3,u1,u2,u3⟩,hbU⟩;have hwU:=zst hwZ hbU;have l1:=hlt h1;have l2:=hlt h2;have l3:=hlt u2;have sY:=hbY.size;have sZ:=hbZ.size;have sX:=hbX.size;exact zq (X:=U) (v := .agg (ju (zeb [atI k a] [atI k b]) (some ⟨b0,0,none⟩) 2 (some ⟨b1,0,none⟩) 2 (some ⟨b2,0,none⟩) 2 none 0).toArray) k29 rfl (by kernel_rfl) rfl fun V hbV fV sV=>⟨(U.heap.size,b0,b1,b2,g1,g2),(cvE rfl rfl),hwU.size,by dsimp only;omega,m2,m3,by dsimp only;omega,by dsimp only;omega,by dsimp only;omega,fV,zb hbV u1,zb hbV u2,zb hbV u3,zb hbV (zb hbU (zb hbZ h1)),zb hbV (zb hbU h2),(zst hwU hbV)⟩
 clear f0 hbX;clear X;rintro⟨P,b0,b1,b2,g1,g2⟩ Y ⟨q1,q2,q3,q4,q5,q6,q7,fP,fb0,fb1,fb2,fg1,fg2,hwY⟩;dsimp only at q1 q2 q3 q4 q5 q6 q7 fP fb0 fb1 fb2 fg1 fg2 ⊢;obtain⟨pc,hpc⟩:=nm (ju (zeb [atI k a] [atI k b]) (some ⟨b0,0,none⟩) 2 (some ⟨b1,0,none⟩) 2 (some ⟨b2,0,none⟩) 2 none 0);rw [<- hpc] at fP;have hpl:pc.length=10:=by rw [hpc];rfl
 refine⟨Unit,fun _=>⟨[(10,At0 P)],[]⟩,fun _ Z=>Z.heap[P]?=some (.cells pc.toArray 29 (0,0))/\PrgX Z.heap.size Z pc (atP i0 a b k)/\Bw w Z,?_,?_⟩
 ·refine⟨.slice (some ⟨b1,0,none⟩) 2 2,zc (za fP) (i:=2) (by rw [hpc];rfl),0,rfl,by decide,?_⟩;refine zm (cs:=[u8 0,u8 0]) k5 fb1 (o:=0) (v:=u8 i0) rfl rfl (by decide) rfl ?_;intro Z fZ gZ sZ;have old:∀ {c:Nat} {o:Obj},c≠b1->Y.heap[c]?=some o->Z.heap[c]?=some o:=fun {c o} hne hc=>by
   rw [gZ.block c (Jk.1 hc).1 (by simpa using hne)];exact hc
  have z1:=old (Ne.symm q7) fP;have z2:=old q3 fb0;have z3:=old (Ne.symm q4) fb2;have z4:=old (Ne.symm q5) fg1;have z5:=old (Ne.symm q6) fg2;refine⟨(),(cvE rfl rfl),z1,?_,zk gZ hwY.size q2 |> hwY.trans⟩;rw [hpc];exact zmZ (.inr ⟨g1,0,rfl,hlt z4,za z4⟩) (.inr ⟨g2,0,rfl,hlt z5,za z5⟩) (show 1<=1000 by decide) (show 1<=1000 by decide) (fun c hc=>by cases hc;exact hlt z4) (fun c hc=>by cases hc;exact hlt z5) z2 fZ z3
 clear fP fb0 fb1 fb2 fg1 fg2 hwY;clear Y;rintro _ Y ⟨fP,hP,hwY⟩;have hok:=zjX (i0:=i0) (a:=a) (b:=b) hop;refine⟨Bool×List zb0×OA×Nat,fun s=>⟨[(11,.slice s.2.2.1 s.2.1.length s.2.2.2),(12,i64 (if s.1 then 0 else 5))],[]⟩,fun s Z=>(s.1=true->∃ V,zcr (atP i0 a b k) V 50/\s.2.1.map (·.1)=qi (atP i0 a b k) V/\OwnS exE 46 w.heap.size Z s.2.2.1 s.2.2.2 s.2.1/\∀ x∈s.2.1,OwnS evE 49 w.heap.size Z x.2.1 x.2.2 x.1.ev)/\Bw w Z,?_,?_⟩
 ·refine⟨pc,hpl,za fP,hlt fP,cmo (zlF (most:=50) (UV _) hP (hG.below hwY) hok (by decide) fun V _=>zlt (zb9 hok)) ?_⟩;rintro e U ⟨(⟨V,hco,xs,q,c,rfl,hxs,oX,oE⟩ | ⟨_,rfl⟩),hbU⟩
  ·exact⟨(true,xs,q,c),(cvE rfl rfl),fun _=>⟨V,hco,hxs,oX.lower hwY.size,fun x hx=>(oE x hx).lower hwY.size⟩,(zst hwY hbU)⟩
  ·exact⟨(false,[],none,0),(cvE rfl rfl),(fun h=>by cases h),(zst hwY hbU)⟩
 clear fP hP hwY hpl hpc;clear Y;rintro⟨ok,xs,q,c⟩ Y ⟨hcase,hwY⟩;dsimp only at hcase ⊢;refine⟨Unit,fun _=>⟨[(11,.slice q xs.length c)],[]⟩,fun _ X=>X=Y/\ok=true,?_,?_⟩
 ·cases ok with
  | false =>
   refine brT (cmo (aw Y hwY) ?_);rintro e U ⟨rfl,hbU⟩;exact⟨rfl,hbU⟩
  | true =>
   exact brF ⟨(),(cvE rfl rfl),rfl,rfl⟩
 rintro _ _ ⟨rfl,rfl⟩;obtain⟨V,hco,hxs,oX,oE⟩:=hcase rfl;clear hcase;rename_i Y;have hO:=zb9 hok;have sYw:=hwY.size;have hT:Tz64M Y:=hG.t64.below hwY;have hVn:V.Nodup:=by
  have:=(zgS hO hco.1).2;rw [<- this];exact (zcF V).imp fun h e=>by rw [e] at h;exact Nat.lt_irrefl _ h
 obtain⟨hlaw,k0,k1,hk0,hk1,hk01,hone⟩:=zt6 hop hco hVn;have hlen:xs.length=(qi (atP i0 a b k) V).length:=by rw [<- hxs,QL]
 have hn20:xs.length<=9223372036854775807:=by
  rcases oX.inv with ⟨_,h2,h⟩ | ⟨_,_,_,_,_,h,h2,_⟩
  ·rw [h];exact UY _
  ·unfold maxLen at h2;omega
 obtain⟨cnt,hcnt⟩:∃ cnt:Nat->Nat,cnt=zij k0 k1:=⟨_,rfl⟩;have c0:cnt 0=0:=by rw [hcnt];exact ztZ _ _
 have cN:cnt xs.length=2:=by rw [hcnt,hlen];exact ztY hk0 hk1
 have cs:∀ i,cnt (i+1)=cnt i+if i=k0\/i=k1 then 1 else 0:=by rw [hcnt];exact ztX hk01
 have cle:∀ i,cnt i<=2:=by rw [hcnt];exact zsl _ _
 refine⟨Unit,fun _=>⟨[(11,.slice q xs.length c),(13,i64 (cnt 0:Nat))],[]⟩,fun _ Z=>Z=Y,⟨(),⟨.cons rfl (.cons (by rw [c0];rfl) .nil),rfl⟩,rfl⟩,?_⟩;rintro _ _ rfl;rename_i Y;refine⟨Unit,fun _=>⟨[(13,i64 (cnt xs.length:Nat))],[]⟩,fun _ Z=>Bw Y Z,?_,?_⟩
 ·refine⟨Nat,fun i=>⟨[(13,i64 (cnt i:Nat)),(41,.slice q xs.length c),(42,i64 xs.length),(43,i64 (i:Nat))],[]⟩,fun i Z=>i<=xs.length/\Bw Y Z,fun i=>xs.length-i,0,(cvE rfl rfl),⟨UY _,Ga _ _⟩,?_⟩;rintro i Z ⟨hi,hbZ⟩;refine biE (fun hc=>?_) fun hc=>?_
  rotate_left
  ·have hc:¬ (i:Int)<(xs.length:Int):=dF hc;obtain rfl:i=xs.length:=by omega
   exact⟨(),(cvE rfl rfl),hbZ⟩
  have hc:(i:Int)<(xs.length:Int):=dT hc;have hil:i<xs.length:=by omega
  obtain⟨g,o,rfl,hlb,hat⟩:=oX.row.at hil;obtain⟨x,hx⟩:∃ x,xs[i]=x:=⟨_,rfl⟩;have hat:=hat i hil;rw [hx] at hat;have hxm:x∈xs:=by rw [<- hx];exact gM hil
  have hxc:x.1∈qi (atP i0 a b k) V:=by rw [<- hxs];exact Kl hxm
  have hxi:(qi (atP i0 a b k) V)[i]?=some x.1:=by rw [<- hxs,KT,gE hil,hx];rfl
  have hev:=(oE x hxm).row;obtain⟨xe,qx,cx⟩:=x;dsimp only at hat hxc hev hxi;obtain⟨hv,hright⟩:=zpX hO hco (by decide) hxc hev;obtain⟨hX,hl1,hl2⟩:=hlaw xe hxc;have h6:=hX.n;have h1i:=hone i xe hxi;have hho:∀ m:Nat,1<=m->m<=6->zdB m xe=decide (qO 1 xe=0):=fun m h1 h2=>by
   unfold zdB zae;rw [Uq h1,Uq h2,hright];show decide (qO m xe=0)=_;exact QE.2 (hl1 m)
  clear hx hxm;refine⟨Unit,fun _=>⟨[(13,i64 (cnt (i+1):Nat)),(41,.slice (some ⟨g,o,none⟩) xs.length c),(42,i64 xs.length),(43,i64 (i:Nat))],[]⟩,fun _ Z=>Bw Y Z,?_,?_⟩
  rotate_left
  ·rintro _ Z2 hbZ2;exact nxI (by omega) ⟨i+1,(cvE rfl rfl),⟨hil,hbZ2⟩,zdc (by omega)⟩
  refine⟨Nat,fun M=>⟨[(13,i64 (cnt i:Nat)),(15,At0 M),(41,.slice (some ⟨g,o,none⟩) xs.length c),(42,i64 xs.length),(43,i64 (i:Nat))],[]⟩,fun M U=>ExH U M xe qx cx/\Bw Y U,?_,?_⟩
  ·exact⟨i,rfl,hil,exC xe qx cx,zC _ _ _,zr hbZ hat,nL hlb hbZ.size,zq (X:=Z) (v := .agg (exC xe qx cx).toArray) k46 (zC _ _ _) jD (za3 _ _ _) fun U hbU fU sU=>⟨Z.heap.size,(cvE rfl rfl),fU,(zst hbZ hbU)⟩⟩
  clear hbZ;clear Z;rintro M Z ⟨fM,hbZ⟩;have sZ:=hbZ.size;refine⟨Unit,fun _=>⟨[(13,i64 (cnt i:Nat)),(15,At0 M),(16,.slice none (jW xe 0).length 0),(41,.slice (some ⟨g,o,none⟩) xs.length c),(42,i64 xs.length),(43,i64 (i:Nat))],[]⟩,fun _ U=>U=Z,⟨(),(cvE rfl rfl),rfl⟩,?_⟩;rintro _ _ rfl;rename_i Z;refine⟨OA×Nat,fun s=>⟨[(13,i64 (cnt i:Nat)),(15,At0 M),(16,.slice s.1 (jW xe xe.ev.length).length s.2),(41,.slice (some ⟨g,o,none⟩) xs.length c),(42,i64 xs.length),(43,i64 (i:Nat))],[]⟩,fun s U=>OwnS zA 3 Z.heap.size U s.1 s.2 (jW xe xe.ev.length)/\Bw Z U,?_,?_⟩
  ·refine⟨_,zah (za fM),?_⟩;refine⟨Nat×OA×Nat,fun s=>⟨[(13,i64 (cnt i:Nat)),(15,At0 M),(16,.slice s.2.1 (jW xe s.1).length s.2.2),(41,.slice (some ⟨g,o,none⟩) xs.length c),(42,i64 xs.length),(43,i64 (i:Nat)),(48,.slice qx xe.ev.length cx),(49,i64 xe.ev.length),(50,i64 (s.1:Nat))],[]⟩,fun s U=>s.1<=xe.ev.length/\OwnS zA 3 Z.heap.size U s.2.1 s.2.2 (jW xe s.1)/\Bw Z U,fun s=>xe.ev.length-s.1,(0,none,0),
    (cvE rfl rfl),⟨UY _,OwnS.nil,Ga _ _⟩,?_⟩
   rintro⟨j,q1,d1⟩ S ⟨hj,oS,hbS⟩;dsimp only at hj oS ⊢;have sS:=hbS.size;refine biE (fun hc=>?_) fun hc=>?_
   rotate_left
   ·have hc:¬ (j:Int)<(xe.ev.length:Int):=dF hc;obtain rfl:j=xe.ev.length:=(by omega);exact⟨(q1,d1),(cvE rfl rfl),oS,hbS⟩
   have hc:(j:Int)<(xe.ev.length:Int):=dT hc;have hjl:j<xe.ev.length:=by omega
   obtain⟨be,oe,rfl,hbe,hate⟩:=zr3 hev (by omega);obtain⟨e,he⟩:∃ e,evA xe j=e:=⟨_,rfl⟩;have hYS:=hbZ.trans (hbS.mono sZ);have hnext:=zhN xe j;refine⟨OA×Nat,fun s=>⟨[(13,i64 (cnt i:Nat)),(15,At0 M),(16,.slice s.1 (jW xe (j+1)).length s.2),(41,.slice (some ⟨g,o,none⟩) xs.length c),(42,i64 xs.length),(43,i64 (i:Nat)),(48,.slice (some ⟨be,oe,none⟩) xe.ev.length cx),(49,i64 xe.ev.length),(50,i64 (j:Nat))],[]⟩,fun s U=>OwnS zA 3 Z.heap.size U s.1 s.2 (jW xe (j+1))/\Bw Z U,?_,?_⟩
   rotate_left
   ·rintro⟨q2,d2⟩ S2 ⟨oS2,hbS2⟩;dsimp only at oS2 ⊢;exact nxI (by omega) ⟨(j+1,q2,d2),(cvE rfl rfl),⟨hjl,oS2,hbS2⟩,zdc (by omega)⟩
   have hcv:zK S ⟨be,oe+j*7,none⟩ (evE.enc e):=by rw [<- he];exact zr hYS (hate j hjl)
   refine⟨Nat,fun N=>⟨[(13,i64 (cnt i:Nat)),(15,At0 M),(16,.slice q1 (jW xe j).length d1),(17,i64 (j:Nat)),(18,At0 N),(41,.slice (some ⟨g,o,none⟩) xs.length c),(42,i64 xs.length),(43,i64 (i:Nat)),(48,.slice (some ⟨be,oe,none⟩) xe.ev.length cx),(49,i64 xe.ev.length),(50,i64 (j:Nat))],[]⟩,fun N U=>U.heap[N]?=some (.cells (evE.enc e).toArray 49 (0,0))/\OwnS zA 3 Z.heap.size U q1 d1 (jW xe j)/\Bw Z U,?_,?_⟩
   ·exact⟨j,rfl,hjl,evE.enc e,rfl,hcv,nL hbe hYS.size,zq (X:=S) (v := .agg (evE.enc e).toArray) k49 rfl rfl (Qi.2 fun u hu=>evE.one _ u hu) fun T hbT fN sT=>⟨S.heap.size,(cvE rfl rfl),fN,oS.below hbT,hbS.trans (hbT.mono sS)⟩⟩
   clear oS hbS hcv hYS sS;clear S;rintro N S ⟨fN,oS,hbS⟩;have sS:=hbS.size;refine⟨Unit,fun _=>⟨[(13,i64 (cnt i:Nat)),(15,At0 M),(16,.slice q1 (jW xe j).length d1),(17,i64 (j:Nat)),(41,.slice (some ⟨g,o,none⟩) xs.length c),(42,i64 xs.length),(43,i64 (i:Nat)),(48,.slice (some ⟨be,oe,none⟩) xe.ev.length cx),(49,i64 xe.ev.length),(50,i64 (j:Nat))],[]⟩,fun _ U=>U=S/\isR xe j=true,?_,?_⟩
   ·refine⟨_,zc (za fN) (i:=1) rfl,biE (fun h=>?_) fun h=>?_⟩
    ·have h:¬ e.k=1:=fun h2=>by
      rw [h2] at h;exact Gp h (by decide)
     have hr:isR xe j=false:=Uf (by rw [he];exact h);rw [hr,Gm Ku,QI] at hnext;rw [hnext];exact⟨(q1,d1),(cvE rfl rfl),oS,hbS⟩
    ·have h:e.k=1:=dT ((zb2 (x:=e.k) (y:=1)).symm.trans (zuu h));exact⟨(),(cvE rfl rfl),rfl,Uq (by rw [he];exact h)⟩
   rintro _ _ ⟨rfl,hr⟩;rename_i S;rw [Gn hr] at hnext;rw [hnext];have hYS:=hbZ.trans (hbS.mono sZ);have hfl:=zk7 xe j;have hfj:j*xe.ev.length<=36:=by rw [h6];omega
   refine⟨_,zah (za (zb hbS fM)),?_⟩;refine⟨Nat×OA×Nat,fun s=>⟨[(13,i64 (cnt i:Nat)),(15,At0 M),(16,.slice s.2.1 (jW xe j++(List.range s.1).filter fun w=>zg xe.rf w j).length s.2.2),(17,i64 (j:Nat)),(41,.slice (some ⟨g,o,none⟩) xs.length c),(42,i64 xs.length),(43,i64 (i:Nat)),(48,.slice (some ⟨be,oe,none⟩) xe.ev.length cx),(49,i64 xe.ev.length),(50,i64 (j:Nat)),(60,i64 xe.ev.length),(61,i64 (s.1:Nat))],[]⟩,fun s U=>s.1<=xe.ev.length/\OwnS zA 3 Z.heap.size U s.2.1 s.2.2 (jW xe j++(List.range s.1).filter fun w=>zg xe.rf w j)/\Bw Z U,fun s=>xe.ev.length-s.1,(0,q1,d1),
    ⟨.cons rfl (.cons rfl (.cons (by rw [List.range_zero,List.filter_nil,QI];rfl) (.cons rfl (.cons rfl (.cons rfl (.cons rfl (.cons rfl (.cons rfl (.cons rfl (.cons rfl (.cons rfl .nil))))))))))),rfl⟩,⟨UY _,by rw [List.range_zero,List.filter_nil,QI];exact oS,hbS⟩,?_⟩
   clear oS hbS hYS sS;rintro⟨u,q2,d2⟩ S2 ⟨hu,oS,hbS⟩;dsimp only at hu oS ⊢;have sS:=hbS.size;refine biE (fun hc=>?_) fun hc=>?_
   rotate_left
   ·have hc:¬ (u:Int)<(xe.ev.length:Int):=dF hc;obtain rfl:u=xe.ev.length:=(by omega);exact⟨(q2,d2),(cvE rfl rfl),oS,hbS⟩
   have hc:(u:Int)<(xe.ev.length:Int):=dT hc;have hul:u<xe.ev.length:=by omega
   have hfu:((List.range u).filter fun w=>zg xe.rf w j).length<=u:=by
    have:=JL (fun w=>zg xe.rf w j) (List.range u);rw [KU] at this;exact this
   refine⟨OA×Nat,fun s=>⟨[(13,i64 (cnt i:Nat)),(15,At0 M),(16,.slice s.1 (jW xe j++(List.range (u+1)).filter fun w=>zg xe.rf w j).length s.2),(17,i64 (j:Nat)),(41,.slice (some ⟨g,o,none⟩) xs.length c),(42,i64 xs.length),(43,i64 (i:Nat)),(48,.slice (some ⟨be,oe,none⟩) xe.ev.length cx),(49,i64 xe.ev.length),(50,i64 (j:Nat)),(60,i64 xe.ev.length),(61,i64 (u:Nat))],[]⟩,fun s U=>OwnS zA 3 Z.heap.size U s.1 s.2 (jW xe j++(List.range (u+1)).filter fun w=>zg xe.rf w j)/\Bw Z U,?_,?_⟩
   rotate_left
   ·rintro⟨q3,d3⟩ S3 ⟨oS3,hbS3⟩;dsimp only at oS3 ⊢;exact nxI (by omega) ⟨(u+1,q3,d3),(cvE rfl rfl),⟨hul,oS3,hbS3⟩,zdc (by omega)⟩
   have fM2:=zb hbS fM;refine⟨zf xe.rf,zh _,zuX fM2,hlt fM2,cmo (zuM (r:=xe.rf) (a:=u) (b:=j) hX.ok.rf.w) ?_⟩;rintro e2 T ⟨rfl,hbT⟩;rw [zty hX.ok.rf hul hjl];have oT:=oS.below hbT;have hZT:=hbS.trans (hbT.mono sS);have hrs:(List.range (u+1)).filter (fun w=>zg xe.rf w j)=(List.range u).filter (fun w=>zg xe.rf w j)++if zg xe.rf u j=true then [u] else []:=by
    rw [QU,Kv];congr 1;rw [Qm,List.filter_nil]
   cases hb:zg xe.rf u j with
   | false =>
    refine brF ?_;rw [hb,Gm Ku,QI] at hrs;rw [hrs];exact⟨(q2,d2),(cvE rfl rfl),oT,hZT⟩
   | true =>
    refine brT ?_;rw [hb,Gn rfl] at hrs;rw [hrs,<- KN];refine⟨⟨by decide,by decide,rfl⟩,zA.enc u,rfl,?_⟩;have hba:Bw T (T.alloc (.cells (zA.enc u).toArray 3)):=zba _ _;refine zmx (oT.below hba) (qN zA u) (by have:=hba.size;have:=hZT.size;omega) (by rw [lap];omega) fun q3 d3 W oW gW hatW=>?_;rw [zat] at gW;have hUb:=zst hZT hba;exact⟨(q3,d3),(cvE rfl rfl),oW,hUb.trans (qS (oT.below hba) hUb.size (UV _) gW)⟩
  rintro⟨q1,d1⟩ S ⟨oS,hbS⟩;dsimp only at oS ⊢;have sS:=hbS.size;have hYS:=hbZ.trans (hbS.mono sZ);replace fM:=zb hbS fM;obtain⟨hb,hhb⟩:=nm (decide (qO 1 xe=0));rw [<- hhb] at hho;have hci:cnt (i+1)=cnt i+if hb=true then 1 else 0:=by
   rw [cs i];by_cases hz:qO 1 xe=0
   ·rw [Gn (h1i.1 hz),Gn (hhb.trans (Uq hz))]
   ·rw [Gm fun h=>hz (h1i.2 h),Gm fun h=>hz (dT (hhb.symm.trans h))]
  obtain⟨cm,hcm⟩:∃ cm:UInt8->Nat,cm=cmN (cnt i) (cnt (i+1)):=⟨_,rfl⟩;have cm1:cm 1=cnt i:=by rw [hcm];exact Gm (by decide)
  refine⟨UInt8,fun m=>⟨[(13,i64 (cm m:Nat)),(15,At0 M),(16,.slice q1 (jW xe xe.ev.length).length d1),(20,u8 m),(41,.slice (some ⟨g,o,none⟩) xs.length c),(42,i64 xs.length),(43,i64 (i:Nat))],[]⟩,fun m U=>(1<=m.toNat/\m.toNat<=7)/\Bw S U,fun m=>7-m.toNat,1,⟨.cons (by rw [cm1];rfl) (.cons rfl (.cons rfl (.cons rfl (.cons rfl (.cons rfl (.cons rfl .nil)))))),rfl⟩,⟨⟨by decide,by decide⟩,Ga _ _⟩,?_⟩;rintro m U ⟨⟨hm1,hm7⟩,hbU⟩;have sU:=hbU.size;have hYU:=zst hYS hbU;have fU:=zb hbU fM;refine biE (fun hc=>?_) fun hc=>?_
  rotate_left
  ·have hc:¬ ((m.toNat:Nat):Int)<=6:=dF hc;have e:cm m=cnt (i+1):=by rw [hcm];exact Gn (by omega)
   exact⟨(),⟨.cons (by rw [<- e];rfl) (.cons rfl (.cons rfl (.cons rfl .nil))),rfl⟩,hYU⟩
  have hc:((m.toNat:Nat):Int)<=6:=dT hc;have hm6:m.toNat<=6:=by omega
  have hmn:=zmG hm6;have hcn:cm (m+1)=cm m+if m=2/\hb=true then 1 else 0:=by rw [hcm];exact zqx hci hm6
  have hcl:cm m<=2:=by rw [hcm];exact zt1 (cle _) (cle _) m
  refine⟨Unit,fun _=>⟨[(13,i64 (cm (m+1):Nat)),(15,At0 M),(16,.slice q1 (jW xe xe.ev.length).length d1),(20,u8 m),(41,.slice (some ⟨g,o,none⟩) xs.length c),(42,i64 xs.length),(43,i64 (i:Nat))],[]⟩,fun _ U=>Bw S U,?_,?_⟩
  rotate_left
  ·rintro _ U2 hbU2;exact⟨((m+1).toNat:Int),zmE m 1,m+1,(cvE rfl rfl),⟨⟨by omega,by omega⟩,hbU2⟩,by show 7-(m+1).toNat<7-m.toNat;omega⟩
  refine⟨Unit,fun _=>⟨[(13,i64 (cm m:Nat)),(15,At0 M),(16,.slice q1 (jW xe xe.ev.length).length d1),(20,u8 m),(41,.slice (some ⟨g,o,none⟩) xs.length c),(42,i64 xs.length),(43,i64 (i:Nat))],[]⟩,fun _ T=>hb=true/\Bw S T,?_,?_⟩
  ·refine⟨exC xe qx cx,zC _ _ _,za fU,hlt fU,cmo (znP (m:=m) (hv.below hYU) (hT.below hYU)) ?_⟩;rintro e T ⟨rfl,hbT⟩;rw [hho m.toNat hm1 hm6];have hST:=hbU.trans (hbT.mono sU)
   cases hb with
   | false =>
    refine brT ?_;rw [Gm (fun h=>by cases h.2),UK] at hcn;rw [hcn];exact⟨(),(cvE rfl rfl),hST⟩
   | true =>
    exact brF ⟨(),(cvE rfl rfl),rfl,hST⟩
  rintro _ T ⟨rfl,hST⟩;refine⟨Unit,fun _=>⟨[(13,i64 (cm (m+1):Nat)),(15,At0 M),(16,.slice q1 (jW xe xe.ev.length).length d1),(20,u8 m),(41,.slice (some ⟨g,o,none⟩) xs.length c),(42,i64 xs.length),(43,i64 (i:Nat))],[]⟩,fun _ R=>R=T,?_,?_⟩
  ·refine biE (fun h=>?_) fun h=>?_
   ·have h:m=2:=dT ((zb2 (x:=m) (y:=2)).symm.trans h);rw [Gn ⟨h,rfl⟩] at hcn;exact⟨((cm (m+1):Nat):Int),(ze (by omega)).trans (by omega),(),(cvE rfl rfl),rfl⟩
   ·have h:¬ m=2:=dF ((zb2 (x:=m) (y:=2)).symm.trans h);rw [Gm fun h2=>h h2.1,UK] at hcn;rw [hcn];exact⟨(),(cvE rfl rfl),rfl⟩
  rintro _ _ rfl;rename_i T;obtain⟨s0,s1,hs,hsn⟩:=hl2 (dT hhb.symm);have hs:jW xe xe.ev.length=[s0,s1]:=by rw [h6];exact hs
  rw [hs] at oS ⊢;have oT:=oS.row.below hST;obtain⟨bf,of_,rfl,hbf,hatf⟩:=oT.at (show 0<2 by decide);have hTd:Bw T T.drew:=(Ga _ _).drew;have a0:T.drew.cell? ⟨bf,of_+0*1,none⟩=some (i64 (s0:Nat)):=zc (zr hTd (hatf 0 (show 0<2 by decide))) (i:=0) rfl;have a1:T.drew.cell? ⟨bf,of_+1*1,none⟩=some (i64 (s1:Nat)):=zc (zr hTd (hatf 1 (show 1<2 by decide))) (i:=0) rfl;exact DrawE.ord [] [0,1,2,3,4,5,6,7,8,9,10,11] (by kernel_rfl) (brF ⟨0,rfl,(show 0<2 by decide),_,a0,1,rfl,(show 1<2 by decide),_,a1,brN (by rw [Uf (by omega)]) ⟨(),(cvE rfl rfl),(zst hST hTd)⟩⟩)
 rintro _ Z hbZ;refine brE (by rw [cN];rfl) (cmo (aw Z (hwY.trans (hbZ.mono sYw))) ?_);rintro e U ⟨rfl,hbU⟩;exact⟨rfl,hbU⟩
end
end Go.Proofs.YtkpaomeeknegpaaGreatDoor
namespace Go.Proofs.YtkpaomeeknegpaaGreatDoor
open Go.Vc Go.RowKit Go.Sei
open Go.ChangeShapes Go.WideShapes Go.ChangeAt
section
variable {H:Type} {enc:TypeId×Value->H} {P:Program} {w:Wd} {base:Nat} {spare:Nat->Bool} {held:Bool} {fuel:Nat} {t:TypeId} {cs:List Value} {x:DataW H×List MemPlace}
theorem zrv (ht:P.underlying t=some (.int .u8)) (h:DataW.trod enc P w base spare held fuel t cs=some x):∃ b:UInt8,cs=[u8 b]/\x.1 = .lit (.int .u8 b.toNat):=by
 obtain⟨n,rfl,rfl,hw⟩:=DataW.trod_int ht h;have hb:=bounds_u8 hw;have e:((UInt8.ofNat n.toNat).toNat:Int)=n:=by
  rw [KH];omega
 exact⟨UInt8.ofNat n.toNat,by rw [u8,e],by rw [e]⟩
theorem zhn {n:Nat} {e:TypeId} (ht:P.underlying t=some (.array n e)) (he:P.underlying e=some (.int .u8)) (hc:P.cellsOf e=1) (hn:P.cellsOf t=n)
  (h:DataW.trod enc P w base spare held fuel t cs=some x):∃ bs:List UInt8,bs.length=n/\cs=bs.map u8/\x.1 = .agg (bs.map fun b => .lit (.int .u8 b.toNat)):=by
 obtain⟨xs,m,rfl,rfl,hl,hx,hel⟩:=DataW.trod_array ht h;rw [hn] at hl;have each:∀ i (h:i<n),∃ b:UInt8,cs[i]?=some (u8 b)/\xs[i]?.map (·.1)=some (.lit (.int .u8 b.toNat)):=fun i hi=>by
  have h1:=hel i hi;rw [hc,gE (by omega)] at h1;obtain⟨b,h2,h3⟩:=zrv he h1;refine⟨b,?_,by rw [gE (by omega),Uc,h3]⟩;have:((cs.drop (i*1)).take 1)[0]?=some (u8 b):=by rw [h2];rfl
  simpa using this
 have:∀ k,k<=n->∃ bs:List UInt8,bs.length=k/\cs.take k=bs.map u8/\(xs.take k).map (·.1)=bs.map fun b => .lit (.int .u8 b.toNat):=by
  intro k
  induction k with
  | zero=>exact fun _=>⟨[],rfl,by simp,by simp⟩
  | succ k ih =>
   intro hk;obtain⟨bs,h1,h2,h3⟩:=ih (by omega);obtain⟨b,h4,h5⟩:=each k (by omega);have hk1:k<cs.length:=by omega
   have hk2:k<xs.length:=by omega
   rw [gE hk1] at h4;rw [gE hk2] at h5;refine⟨bs++[b],by simp [h1],?_,?_⟩
   ·rw [tsg hk1,h2,Ud h4];simp
   ·rw [tsg hk2,QO,h3];simp at h5;simp [h5]
 obtain⟨bs,h1,h2,h3⟩:=this n (UV _);rw [JF (by omega)] at h2 h3;exact⟨bs,h1,h2,by rw [<- h3]⟩
end
theorem zpi:ownKnob Tryz.prog.godebug=none:=by kernel_rfl
theorem zbE:laidOutB PG=true:=by kernel_rfl
section
variable {H:Type} {enc:TypeId×Value->H} {P:Program} {w:Wd} {base:Nat} {spare:Nat->Bool} {held:Bool} {fuel:Nat} {t e:TypeId} {cs:List Value} {x:DataW H×List MemPlace}
def Opens (enc:TypeId×Value->H) (P:Program) (w:Wd) (base:Nat) (spare:Nat->Bool) (held:Bool) (t:TypeId) (R:List Value->Prop):Prop :=
 ∀ fuel cs x,DataW.trod enc P w base spare held fuel t cs=some x->R cs
theorem Opens.field {fs:Array Field} {R:List Value->Prop} {i:Nat} {f:Field} {n:Nat} {xs:List (DataW H×List MemPlace)} {m:Nat} (hel:∀ (i:Nat) (f:Field),fs[i]?=some f->DataW.trod enc P w base spare held m f.type ((cs.drop f.offset).take (P.cellsOf f.type))=xs[i]?)
  (hl:xs.length=fs.size) (hi:fs[i]?=some f) {o:Nat} (hoo:f.offset=o) (hn:P.cellsOf f.type=n) (ho:Opens enc P w base spare held f.type R):R ((cs.drop o).take n):=by
 subst hoo;have h1:=hel i f hi;have:i<fs.size:=(Jk.1 hi).1;rw [gE (by omega),hn] at h1;exact ho _ _ _ h1
theorem cut (cs:List Value) (o n o':Nat) (h:o+n=o'):cs.drop o=(cs.drop o).take n++cs.drop o':=by
 rw [<- h,<- Ui,JP]
end
theorem cC (t n:Nat) (h:Tryz.prog.cellsOf t=n):Tryz.prog.cellsOf t=n:=h
theorem zeU {H:Type} {enc:TypeId×Value->H} {a:Assume} {C:Checked} {os:Os} {f:FuncId} {fn:Func} {s:ChangeSpec} {conds:List PathCond} {apart fresh handsOn again:Bool} {X:Wd->Array Value->Prop}
  (hX:∀ (w w':Wd) (args:Array Value),w.heap=w'.heap->X w args->X w' args)
  (own:ownKnob C.prog.godebug=none) (started:os.Started) (noInit:C.prog.inits.idxOf? f=none) (hfn:C.prog.funcs[f]?=some fn)
  (witness:∃ (w:Wd) (tape:Tape) (i:Input),w.os=os/\(w.forCall tape i).Shaped C.prog/\i.vars=[]/\Input.okWide C.prog (w.forCall tape i) .any w.heap.size f i /\
   ((s.pre enc C.prog fn conds apart (w.forCall tape i).memory i.args/\X (w.forCall tape i).memory i.args)/\sizedMet enc C.prog fn (OpenSpec.ofChange s) apart (w.forCall tape i).memory i.args)/\a.holds C.prog (lone (Frame.enter C.prog f i.args .normal) [] (w.forCall tape i)))
  (contract:∀ (W:Wd) (base:Nat) (args:Array Value) (ds gs:List (DataW H)) (before:List MemPlace),
   (∀ (j:Nat) t v,fn.params[j]?=some t->args[j]?=some v->Value.okWide C.prog W .any base t v) ->
   DataW.Whole enc C.prog fn.params.toList s.vars apart W args.toList ds gs before->X W args->W.ShapedOpen C.prog ->
   (∃ ds gs before,DataW.Whole enc C.prog fn.params.toList (OpenSpec.ofChange s).vars apart W args.toList ds gs before/\∀ n∈DataW.weightsEach C.prog (fn.params.toList++(OpenSpec.ofChange s).bare.plain.varTypes C.prog) (ds++gs),n<=reachBytes) ->
   Calls C.prog f args W fun e W'=>∃ v,e = .returned v/\s.post enc C.prog fn apart fresh handsOn again W args v W') :
  ReturnsInHanded a C os f .any (fun w args=>(s.pre enc C.prog fn conds apart w args/\X w args)/\sizedMet enc C.prog fn (OpenSpec.ofChange s) apart w args) (s.post enc C.prog fn apart fresh handsOn again):=by
 refine returnsInHanded_of_calls own started noInit witness ?_;intro w tape i _ hsh _ hok hpre hholds;obtain⟨_,_,_,fn',hfn',_,_,_,_,hval⟩:=hok;have e:fn'=fn:=Ud (hfn'.symm.trans hfn);subst e;obtain⟨⟨⟨ds,gs,before,hw,hc⟩,hx⟩,hz⟩:=hpre;have hw':=DataW.Whole.of_heap (w':=w.forCall tape i) (by rfl) hw;obtain⟨_,ds2,gs2,before2,hw2,hall⟩:=hz;refine (contract (w.forCall tape i) w.heap.size i.args ds gs before hval hw' (hX _ _ _ (by rfl) hx) hsh ⟨ds2,gs2,before2,DataW.Whole.of_heap (w':=w.forCall tape i) (by rfl) hw2,fun n hn=>dT (Qi.1 hall n hn)⟩).mono fun e W' ⟨v,he,hp⟩=>?_;subst he;exact ChangeSpec.post_blind hp
section
variable {H:Type} {enc:TypeId×Value->H} {P:Program} {w:Wd} {base:Nat} {spare:Nat->Bool} {held:Bool} {fuel:Nat} {t:TypeId} {cs:List Value} {x:DataW H×List MemPlace}
def Wgt (P:Program) (t:TypeId) (d:DataW H):Prop:=∀ n∈d.weights P t,n<=reachBytes
end
theorem zhz {H:Type}:∀ {a b:List UInt8},a.map (fun b=>(DataW.lit (.int .u8 b.toNat):DataW H))=b.map (fun b=>DataW.lit (.int .u8 b.toNat))->a=b
 | [],[],_=>rfl
 | [],_::_,h=>by cases h
 | _::_,[],h=>by cases h
 | x::a,y::b,h=>by
  simp only [UA,QJ,DataW.lit.injEq,Lit.int.injEq,true_and] at h;rw [zhz h.2,Ue.1 (by omega:x.toNat=y.toNat)]
theorem flatMap_map {α:Type} (f:α->Value):∀ l:List (List α),l.flatMap (fun x=>x.map f)=l.flatten.map f
 | []=>rfl
 | a::l=>by rw [KR,flatMap_map f l,List.flatten_cons,QO]
theorem zdV {P:Program} {w:Wd} {r:Reach} {base:Nat} {t:TypeId} {v:Value} (ht:P.underlying t=some (.int .u8)) (h:Value.okWide P w r base t v):∃ b:UInt8,v=u8 b:=by
 unfold Value.okWide at h;rw [ht] at h
 cases v with
 | int k n =>
  have h1:k = .u8/\IntKind.has .u8 n:=by
   simp only [Cell.okWide,Cell.ok,ht] at h;obtain⟨rfl,h⟩:=h;exact⟨rfl,h⟩
  obtain⟨rfl,h2⟩:=h1;have h3:0<=n/\n<=255:=⟨by have:=h2.1;simpa [IntKind.min,IntKind.signed,IntKind.bits] using this,by have:=h2.2;simpa [IntKind.max,IntKind.signed,IntKind.bits] using this⟩;have e:((UInt8.ofNat n.toNat).toNat:Int)=n:=by
   rw [KH];omega
  exact⟨UInt8.ofNat n.toNat,by rw [u8,e]⟩
 | _=>simp_all [Cell.okWide,Cell.ok]
section
variable {H:Type} {enc:TypeId×Value->H} {P:Program} {w:Wd} {base:Nat} {spare:Nat->Bool} {held:Bool} {fuel F:Nat} {t e:TypeId} {cs:List Value} {x:DataW H×List MemPlace}
def OpensW (enc:TypeId×Value->H) (P:Program) (w:Wd) (base:Nat) (spare:Nat->Bool) (held:Bool) (F:Nat) (t:TypeId) (R:List Value->Prop):Prop :=
 ∀ n,n<F->∀ cs x,DataW.trod enc P w base spare held n t cs=some x->Wgt P t x.1->R cs
theorem OpensW.field {fs:Array Field} {R:List Value->Prop} (ht:P.underlying t=some (.struct fs)) (h:DataW.trod enc P w base spare held fuel t cs=some x) (hw:Wgt P t x.1) (hF:fuel<=F) {i:Nat} {f:Field} (hf:fs[i]?=some f) {T o k:Nat} (hT:f.type=T) (hO:f.offset=o) (hk:P.cellsOf T=k)
  (ho:OpensW enc P w base spare held F T R):R ((cs.drop o).take k):=by
 subst hT hO hk;obtain⟨xs,n,rfl,rfl,hl,hx,hel⟩:=DataW.trod_struct ht h;have h1:=hel i f hf;have hi:i<xs.length:=by rw [hx];exact (Jk.1 hf).1
 rw [gE hi] at h1;refine ho n (by omega) _ _ h1 fun m hm=>hw m ?_;simp only [DataW.weights,ht];refine DataW.weights_mem_each (j:=i) (t:=f.type) (d:=xs[i].1) ?_ ?_ m hm
 ·rw [KT];have:fs.toList[i]?=some f:=by simpa using hf
  rw [this];rfl
 ·rw [KT,gE hi];rfl
end
structure GlobP (W:Wd):Prop where
 t32:Tz32M W
 t64:Tz64M W
 needs:GlobC W
abbrev zbb : List (String × DataW Unit) := [("math/bits.deBruijn32tab", Rows.laid_math_bits_deBruijn32tab), ("math/bits.deBruijn64tab", Rows.laid_math_bits_deBruijn64tab), ("seisin/check.needs", Rows.laid_seisin_check_needs)]
theorem zcj {W:Wd} (h:laidMetH PG zbb W) (hsh:W.ShapedOpen PG):GlobP W:=by
 have h0:laidMet PG zbb W:=h;have h1:=h0.tail;have h2:=h1.tail;have t32:Tz32M W:=by
  obtain⟨ps,⟨g',t',cs,fuel,p,q,hg',ht',hv,hd,_,_⟩,_⟩:=h0
  obtain rfl := Ud ((show Tryz.prog.globalNamed "math/bits.deBruijn32tab" = some 2 by kernel_rfl).symm.trans hg')
  obtain rfl:=Ud ((show (Tryz.prog.globals[2]?).map (·.type)=some 268 by kernel_rfl).symm.trans ht');obtain⟨bs,h1,h2,h3⟩:=zhn Tryz.underlying268 Tryz.underlying5 (by kernel_rfl) (by kernel_rfl) hd;have hbs:bs=zin:=by
   have e:(Rows.laid_math_bits_deBruijn32tab:DataW Unit) = .agg (zin.map fun b => .lit (.int .u8 b.toNat)):=rfl;exact zhz (DataW.agg.inj (h3.symm.trans e))
  subst hbs;refine za4 fun i v hvv=>?_;have hc:=World.var?_cell hg' hv i;rw [<- hvv,<- h2];simpa using hc
 have t64:Tz64M W:=by
  obtain⟨ps,⟨g',t',cs,fuel,p,q,hg',ht',hv,hd,_,_⟩,_⟩:=h1
  obtain rfl := Ud ((show Tryz.prog.globalNamed "math/bits.deBruijn64tab" = some 1 by kernel_rfl).symm.trans hg')
  obtain rfl:=Ud ((show (Tryz.prog.globals[1]?).map (·.type)=some 255 by kernel_rfl).symm.trans ht');obtain⟨bs,h1,h2,h3⟩:=zhn Tryz.underlying255 Tryz.underlying5 (by kernel_rfl) (by kernel_rfl) hd;have hbs:bs=zim:=by
   have e:(Rows.laid_math_bits_deBruijn64tab:DataW Unit) = .agg (zim.map fun b => .lit (.int .u8 b.toNat)):=rfl;exact zhz (DataW.agg.inj (h3.symm.trans e))
  subst hbs;refine za4 fun i v hvv=>?_;have hc:=World.var?_cell hg' hv i;rw [<- hvv,<- h2];simpa using hc
 have needs:GlobC W:=by
  obtain⟨ps,⟨g',t',cs,fuel,p,q,hg',ht',hv,hd,_,_⟩,_⟩:=h2
  obtain rfl := Ud ((show Tryz.prog.globalNamed "seisin/check.needs" = some 0 by kernel_rfl).symm.trans hg')
  obtain rfl:=Ud ((show (Tryz.prog.globals[0]?).map (·.type)=some 243 by kernel_rfl).symm.trans ht');obtain⟨bs,h1,h2,h3⟩:=zhn Tryz.underlying243 Tryz.underlying5 (by kernel_rfl) (by kernel_rfl) hd;have hbs:bs=ze4:=by
   match bs,h1 with
   | [b0,b1,b2,b3,b4,b5,b6,b7,b8],_ =>
    simp only [Rows.laid_seisin_check_needs,UA,List.map_nil,DataW.agg.injEq,QJ,DataW.lit.injEq,Lit.int.injEq,true_and,Gh] at h3;simp only [ze4,QJ,Gh];obtain⟨a0,a1,a2,a3,a4,a5,a6,a7,a8⟩:=h3;refine⟨?_,?_,?_,?_,?_,?_,?_,?_,?_⟩ <;> (apply Ue.1;simp;omega)
  subst hbs;refine za4 fun i v hvv=>?_;have hc:=World.var?_cell hg' hv i;rw [<- hvv,<- h2];simpa using hc
 exact⟨t32,t64,needs⟩
def zsM:DataW Unit->List Value
 | .lit (.int k n)=>[.int k n]
 | .lit (.string s)=>[.string ⟨s.toArray⟩]
 | _=>[]
def zsL:DataW Unit->List Value
 | .agg ps=>ps.flatMap zsM
 | x=>zsM x
def zpN:DataW Unit->List Value
 | .agg ps=>ps.flatMap zsL
 | x=>zsL x
def zpg (h:Array Obj) (g:Nat) (cs:List Value):Array Obj:=h.modify g fun
 | .cells _ t frozen => .cells cs.toArray t frozen
 | o=>o
def zuw (h:Array Obj):Array Obj :=
 let h1:=zpg h 2 (zpN Rows.laid_math_bits_deBruijn32tab)
 let h2:=zpg h1 1 (zpN Rows.laid_math_bits_deBruijn64tab)
 zpg h2 0 (zpN Rows.laid_seisin_check_needs)
noncomputable def zhC (os:Os):Wd :=
 { World.holding PG os ⟨#[],#[],[]⟩ with heap:=zuw (World.holding PG os ⟨#[],#[],[]⟩).heap }
theorem zhB (os:Os) (args:Array Value):laidMetH PG zbb ((zhC os).forCall (fun _ _=>0) ⟨#[],args,[]⟩).memory:=by
 show laidMet PG zbb _;exact laidMet_of_run' 8 (by kernel_rfl) (by kernel_rfl)
end Go.Proofs.YtkpaomeeknegpaaGreatDoor
