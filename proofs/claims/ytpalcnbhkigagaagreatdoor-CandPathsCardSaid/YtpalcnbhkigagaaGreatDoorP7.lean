/- Contracts of functions, and plain facts, for the law that the last text of this claim proves. -/
import Derived.Test.YtpalcnbhkigagaaGreatDoorP6
import Derived.Test.YtpalcnbhkigagaaGreatDoorP3
import Derived.Test.YtpalcnbhkigagaaGreatDoorP5
import Derived.Test.YtpalcnbhkigagaaGreatDoorP1
import Derived.Test.YtpalcnbhkigagaaGreatDoorRows
import Derived.ProofKit
import Derived.OpenShut
import Derived.LaidLaws
import Derived.Below
import Derived.HandedShaped
import Derived.KernelRfl
import Derived.WalkKit
import Derived.ChangeOld
import Derived.SevenTiedAt
import Derived.LaidHandle
import Derived.Stop.LaidErr
import Derived.Lib.LaidTab
import Derived.SizedLaws
import Derived.Test.YtpalcnbhkigagaaGreatDoorP2
import Derived.Test.YtpalcnbhkigagaaGreatDoorP4
set_option linter.unusedSimpArgs false
set_option linter.unusedVariables false
namespace Go.Proofs.YtpalcnbhkigagaaGreatDoor
open Go.Vc Go.RowKit Go.Sei
section
variable {w:Wd}
theorem zr8 {q:OA} {cap:Nat} {l:List InsD} (hl:SlR zG w q l) (hn:l.length<=1000000) :
  Calls PG 23 #[.slice q l.length cap] w fun e w'=>(∃ b:Bool,e = .returned (.bool b))/\Bw w w':=by
 refine je 35 [.slice q l.length cap] (.s .p (.s .p (.c .p .p))) Tryz.func23 ?_;refine⟨Nat,fun n=>⟨[(0,.slice q l.length cap),(3,i64 (n:Nat))],[]⟩,fun n X=>Bw w X,?_,?_⟩
 ·refine⟨Nat×Nat,fun s=>⟨[(0,.slice q l.length cap),(3,i64 (s.2:Nat)),(6,.slice q l.length cap),(7,i64 l.length),(8,i64 (s.1:Nat))],[]⟩,fun s X=>(s.1<=l.length/\s.2<=s.1)/\Bw w X,fun s=>l.length-s.1,(0,0),
   (cvE rfl rfl),⟨⟨UZ _,UW _⟩,Gb _ _⟩,?_⟩
  rintro⟨k,n⟩ X ⟨⟨hk,hnk⟩,hbX⟩;dsimp only at hk hnk ⊢;refine biE (fun hc=>?_) fun hc=>?_
  ·have hc:(k:Int)<(l.length:Int):=dT hc;have hkl:k<l.length:=by omega
   obtain⟨bp,op,rfl,hlp,hat⟩:=hl.at hkl;refine⟨k,rfl,hkl,zG.enc l[k],zG.len _,zm hbX (hat k hkl),nL hlp hbX.size,zn (X:=X) (v := .agg (zG.enc l[k]).toArray) k41 (zG.len _) rfl (Qk.2 fun u hu=>zG.one _ u hu) fun Y hbY fY sY=>?_⟩;have fY:Y.heap[X.heap.size]?=some (.cells (zG.enc l[k]).toArray 41 (0,0)):=fY;have c0:Y.cell? ⟨X.heap.size,0+0,none⟩=some (u8 l[k].op):=zb (za fY) (i:=0) rfl;have hwY:=zst hbX hbY;have fin1:(k+1<=l.length/\n+1<=k+1)/\Bw w Y:=⟨⟨hkl,by omega⟩,hwY⟩;have fin0:(k+1<=l.length/\n<=k+1)/\Bw w Y:=⟨⟨hkl,by omega⟩,hwY⟩;have lt:l.length-(k+1)<l.length-k:=by omega
   refine⟨_,c0,biE (fun h1=>?_) fun h1=>?_⟩
   ·exact brT (nxI (by omega) (nxI (by omega) ⟨(k+1,n+1),(cvE rfl rfl),fin1,lt⟩))
   ·refine⟨_,c0,biE (fun h2=>?_) fun h2=>?_⟩
    ·refine⟨_,c0,biE (fun h3=>?_) fun h3=>?_⟩
     ·exact nxI (by omega) (nxI (by omega) ⟨(k+1,n+1),(cvE rfl rfl),fin1,lt⟩)
     ·exact nxI (by omega) ⟨(k+1,n),(cvE rfl rfl),fin0,lt⟩
    ·exact brF (nxI (by omega) ⟨(k+1,n),(cvE rfl rfl),fin0,lt⟩)
  ·exact⟨n,(cvE rfl rfl),hbX⟩
 rintro n X hbX;refine biE (fun h1=>?_) fun h1=>?_
 ·exact⟨⟨_,rfl⟩,hbX⟩
 ·exact⟨⟨_,rfl⟩,hbX⟩
end
section
variable {w:Wd} {B:Nat} {pc:List Value} {p:Prg}
theorem zqN (hB:B<=w.heap.size) (hP:PrgX B w pc p) :
  Calls PG 15 #[.agg pc.toArray] w fun e w'=>(∃ b:Bool,e = .returned (.bool b)/\(b=true->∀ l∈p.threads,l.length<=5))/\Bw w w':=by
 refine je 63 [.agg pc.toArray] (.c .p (.s .p (.s .p (.c .p .p)))) Tryz.func15 ?_;obtain⟨L,hL⟩:=nm (w.heap.size);have hpc:=hP.v.size;have hPl:=hP.v.len;obtain⟨q1,k1,q2,k2,q3,k3,q4,k4,hvs,_⟩:=hP.v.h;have hpc1:pc[1]?=some (.slice q1 p.locs.length k1):=by rw [hvs];rfl
 obtain⟨_,⟨p3,c3,h3,xs,hxs,zdt,hxr⟩,_⟩:=hP;have hxl:xs.length=p.threads.length:=by rw [<- hxs,QN]
 have hthr:=hPl.threads;refine⟨Unit,fun _=>⟨[(1,At0 L)],[]⟩,fun _ X=>X.heap[L]?=some (.cells pc.toArray 29 (0,0))/\Bw w X,⟨(),⟨.cons (by rw [hL];rfl) .nil,rfl⟩,by rw [hL];exact zz w _,(zba w _)⟩,?_⟩;rintro _ X ⟨f0,hbX⟩;have c3':X.cell? ⟨L,0+3,none⟩=some (.slice p3 p.threads.length c3):=zb (za f0) (i:=3) (by simpa using h3);have c1':X.cell? ⟨L,0+1,none⟩=some (.slice q1 p.locs.length k1):=zb (za f0) (i:=1) (by simpa using hpc1);refine⟨_,c3',biE (fun h1=>?_) fun h1=>?_⟩
 ·exact brT ⟨⟨_,rfl,fun h=>by cases h⟩,hbX⟩
 have h1:¬ (3:Int)<(p.threads.length:Int):=dF h1;refine⟨_,c1',biE (fun h2=>?_) fun h2=>?_⟩
 ·exact⟨⟨_,rfl,fun h=>by cases h⟩,hbX⟩
 refine⟨Nat,fun n=>⟨[(3,i64 (n:Nat))],[]⟩,fun n X=>(∀ l∈p.threads,l.length<=5)/\Bw w X,?_,?_⟩
 ·refine⟨_,c3',?_⟩;refine⟨Nat×Nat,fun s=>⟨[(3,i64 (s.2:Nat)),(19,.slice p3 p.threads.length c3),(20,i64 p.threads.length),(21,i64 (s.1:Nat))],[]⟩,fun s Y=>((s.1<=p.threads.length/\s.2<=5*s.1)/\∀ l∈p.threads.take s.1,l.length<=5)/\Bw w Y,fun s=>p.threads.length-s.1,(0,0),
   (cvE rfl rfl),⟨⟨⟨UZ _,UW _⟩,fun l h=>by cases h⟩,hbX⟩,?_⟩
  clear c3' c1' f0 hbX;rintro⟨m,n⟩ Y ⟨⟨⟨hm,hnm⟩,h5m⟩,hbY⟩;dsimp only at hm hnm h5m ⊢;refine biE (fun hc=>?_) fun hc=>?_
  ·have hc:(m:Int)<(p.threads.length:Int):=dT hc;have hmt:m<p.threads.length:=by omega
   have hmx:m<xs.length:=by omega
   obtain⟨b3,o3,hp3,hb3,hat3⟩:=zc7 (zdt.below (hbY.mono hB)) hmx;have hB2:b3<Y.heap.size:=nL hb3 (UM hB hbY.size);have e3:some (Value.slice p3 p.threads.length c3)=some (Value.slice (some ⟨b3,o3,none⟩) p.threads.length c3):=by rw [hp3]
   subst hp3;refine⟨m,rfl,hmt,zg5 xs[m],by have:=zb (hat3 m hmx) (i:=0) (v:=zg5 xs[m]) rfl;exact this,?_⟩;obtain⟨hrm,hrb⟩:=hxr _ (gM hmx);have hsl:SlR zG Y xs[m].2.1 xs[m].1:=(hrm.below (hbY.mono hB)).slr (UM hB hbY.size);obtain⟨l,hl⟩:=nm (xs[m].1);obtain⟨ql,hql⟩:=nm (xs[m].2.1);obtain⟨cl,hcl⟩:=nm (xs[m].2.2);have hv:zg5 xs[m] = .slice ql l.length cl:=by rw [hl,hql,hcl];rfl
   rw [<- hl,<- hql] at hsl;rw [hv];refine biE (fun h5=>?_) fun h5=>?_
   ·exact brT ⟨⟨_,rfl,fun h=>by cases h⟩,hbY⟩
   have h5:¬ (5:Int)<(l.length:Int):=dF h5;have hl5:l.length<=5:=by omega
   have h5n:∀ l∈p.threads.take (m+1),l.length<=5:=fun l' h=>by
    rw [tsg hmt,QS,KB] at h;rcases h with h | h
    ·exact h5m l' h
    ·have e:p.threads[m]=xs[m].1:=by
      have:p.threads[m]?=some xs[m].1:=(by rw [<- hxs,KV,gE hmx];rfl);rw [gE hmt] at this;exact Uf this
     rw [h,e,<- hl];exact hl5
   refine cmo (zr8 hsl (by omega)) ?_;rintro e Z ⟨⟨b,rfl⟩,hbZ⟩;have hwZ:=zst hbY hbZ;have hslZ:=hsl.below hbZ;refine biE (fun h6=>?_) fun h6=>?_
   ·exact⟨⟨_,rfl,fun h=>by cases h⟩,hwZ⟩
   refine⟨Nat×Nat,fun s=>⟨[(3,i64 (s.2:Nat)),(19,.slice (some ⟨b3,o3,none⟩) p.threads.length c3),(20,i64 p.threads.length),(21,i64 (m:Nat)),(33,.slice ql l.length cl),(34,i64 l.length),(35,i64 (s.1:Nat))],[]⟩,fun s V=>(s.1<=l.length/\s.2<=5*m+s.1)/\Bw Z V,fun s=>l.length-s.1,(0,n),
    (cvE rfl rfl),⟨⟨UZ _,by show n<=5*m+0;omega⟩,Gb _ _⟩,?_⟩
   rintro⟨k,n2⟩ V ⟨⟨hk,hn2⟩,hbV⟩;dsimp only at hk hn2 ⊢;refine biE (fun hc=>?_) fun hc=>?_
   ·have hc:(k:Int)<(l.length:Int):=dT hc;have hkl:k<l.length:=(by omega);obtain⟨bp,op,hqe,hlp,hat⟩:=hslZ.at hkl;subst hqe;refine⟨k,rfl,hkl,zG.enc l[k],zG.len _,zm hbV (hat k hkl),nL hlp hbV.size,zn (X:=V) (v := .agg (zG.enc l[k]).toArray) k41 (zG.len _) rfl (Qk.2 fun u hu=>zG.one _ u hu) fun U hbU fU sU=>?_⟩;have fU:U.heap[V.heap.size]?=some (.cells (zG.enc l[k]).toArray 41 (0,0)):=fU;have c0:U.cell? ⟨V.heap.size,0+0,none⟩=some (u8 l[k].op):=zb (za fU) (i:=0) rfl;have hZU:=zst hbV hbU;have fin1:(k+1<=l.length/\n2+1<=5*m+(k+1))/\Bw Z U:=⟨⟨hkl,by omega⟩,hZU⟩;have fin0:(k+1<=l.length/\n2<=5*m+(k+1))/\Bw Z U:=⟨⟨hkl,by omega⟩,hZU⟩;have lt:l.length-(k+1)<l.length-k:=(by omega);refine⟨_,c0,biE (fun h7=>?_) fun h7=>?_⟩
    ·exact brT (brT (nxI (by omega) (nxI (by omega) ⟨(k+1,n2+1),(cvE rfl rfl),fin1,lt⟩)))
    ·refine⟨_,c0,biE (fun h8=>?_) fun h8=>?_⟩
     ·exact brT (nxI (by omega) (nxI (by omega) ⟨(k+1,n2+1),(cvE rfl rfl),fin1,lt⟩))
     ·refine⟨_,c0,biE (fun h9=>?_) fun h9=>?_⟩
      ·refine⟨_,c0,biE (fun h=>?_) fun h=>?_⟩
       ·exact nxI (by omega) (nxI (by omega) ⟨(k+1,n2+1),(cvE rfl rfl),fin1,lt⟩)
       ·exact nxI (by omega) ⟨(k+1,n2),(cvE rfl rfl),fin0,lt⟩
      ·exact brF (nxI (by omega) ⟨(k+1,n2),(cvE rfl rfl),fin0,lt⟩)
   ·exact nxI (by omega) ⟨(m+1,n2),(cvE rfl rfl),⟨⟨⟨hmt,by show n2<=5*(m+1);omega⟩,h5n⟩,(zst hwZ hbV)⟩,zdc (by omega)⟩
  ·have hc:¬ (m:Int)<(p.threads.length:Int):=dF hc;rw [JH (by omega)] at h5m;exact⟨n,(cvE rfl rfl),h5m,hbY⟩
 rintro n Y ⟨h5all,hbY⟩;exact⟨⟨_,rfl,fun _=>h5all⟩,hbY⟩
theorem zqG (hB:B<=w.heap.size) (hP:PrgX B w pc p) (hG:GlobE w) :
  Calls PG 9 #[.agg pc.toArray] w fun e w'=>((∃ V,zcA p=true/\(∀ l∈p.threads,l.length<=5)/\zcx p V 300/\∃ (xs:List zcD) (q:OA) (c:Nat),e = .returned (.tuple #[.slice q xs.length c,.bool true])/\xs.map (·.1)=qg p V/\OwnS exE 55 w.heap.size w' q c xs/\∀ x∈xs,OwnS evE 60 w.heap.size w' x.2.1 x.2.2 x.1.ev)\/e = .returned (.tuple #[.slice none 0 0,.bool false]))/\Bw w w':=by
 refine je 22 [.agg pc.toArray] (.c .p (.s .p (.s .p .p))) Tryz.func9 ?_;obtain⟨L,hL⟩:=nm (w.heap.size);have hpc:=hP.v.size;refine⟨Unit,fun _=>⟨[(1,At0 L)],[]⟩,fun _ X=>X.heap[L]?=some (.cells pc.toArray 29 (0,0))/\Bw w X,⟨(),⟨.cons (by rw [hL];rfl) .nil,rfl⟩,by rw [hL];exact zz w _,(zba w _)⟩,?_⟩;rintro _ X ⟨f0,hbX⟩;refine⟨pc,hpc,za f0,hlt f0,cmo (zqN (UM hB hbX.size) (hP.below (hbX.mono hB))) ?_⟩;rintro e Y ⟨⟨b,rfl,h5⟩,hbY⟩;have hwY:=zst hbX hbY;have f0Y:=zc hbY f0
 cases b with
 | false =>
  exact brT (brT ⟨.inr rfl,hwY⟩)
 | true =>
  refine brF ⟨pc,hpc,za f0Y,hlt f0Y,cmo (ziZ (UM hB hwY.size) (hP.v.below (hwY.mono hB)) (hG.c.below hwY)) ?_⟩;rintro e Z ⟨m,rfl,hm,hbZ⟩;have hwZ:=zst hwY hbZ;have f0Z:=zc hbZ f0Y;refine biE (fun h=>?_) fun h=>?_
  ·exact⟨.inr rfl,hwZ⟩
  have hm0:m=0:=by
   have h2:(!decide ((m:Int)=0))=false:=h;simpa using h2
  have hok:=hm.1 hm0;refine⟨pc,hpc,za f0Z,hlt f0Z,cmo (zg3 (most:=300) (UM hB hwZ.size) (hP.below (hwZ.mono hB)) (hG.below hwZ) hok (by decide) fun V _=>zgW (zda hok)) ?_⟩;rintro e U ⟨(⟨V,hco,xs,q,c,rfl,hxs,oX,oE⟩ | ⟨_,rfl⟩),hbU⟩
  ·exact⟨.inl ⟨V,hok,h5 rfl,hco,xs,q,c,rfl,hxs,oX.lower hwZ.size,fun x hx=>(oE x hx).lower hwZ.size⟩,(zst hwZ hbU)⟩
  ·exact⟨.inr rfl,(zst hwZ hbU)⟩
end
theorem zq6:∃ G,TyEq PG 49 true 8 2 G/\∀ f:Nat->UInt8,G (seg 8 fun i=>u8 (f i)):=by
 refine⟨_,.array (m:=8) (by decide) Tryz.underlying49 (fun w=>Tryz.isAgg49 w) (qC (by kernel_rfl) (by kernel_rfl)).1 (by kernel_rfl) tU8,fun f=>?_⟩;show ∀ j,j<8->zqM .u8 (zV (seg 8 fun i=>u8 (f i)) (j*1) 1);intro j hj;have h:=zeN (m:=1) (n:=8) (f:=f) (i:=0) (j:=j) (by decide) (by decide) hj;have h2:zV (seg (1*8) fun i=>u8 (f i)) (0*8) 8=seg (1*8) fun i=>u8 (f i):=by
  unfold zV;rw [US,Um,JH (by rw [zo];decide)]
 rw [h2] at h;exact⟨_,h⟩
theorem zkO {X:Wd} {b:Nat} {P:PathD} {q1 c1 q2 c2 q3 c3 q4 c4} (h:zu X ⟨b,0,none⟩ (zb8 P q1 c1 q2 c2 q3 c3 q4 c4)):zu X ⟨b,0+4,none⟩ (seg 8 fun i=>u8 (P.regs i)):=by
 have h2:=zF (n:=4) (m:=8) h;have e:((zb8 P q1 c1 q2 c2 q3 c3 q4 c4).drop 4).take 8=seg 8 (fun i=>u8 (P.regs i)):=by
  show (seg 8 (fun i=>u8 (P.regs i))).take 8=_;exact JH (by rw [zo];exact UW _)
 rw [e] at h2;exact h2
theorem zoz {X:Wd} {b:Nat} {x:ExD} {q:OA} {c t:Nat} (fx:ExH X b x q c) (ht:t<4):zu X ⟨b,0+295+0+t*8,none⟩ (seg 8 fun i=>u8 (x.regs (8*t+i))):=by
 have h2:=zF (n:=t*8) (m:=8) (zk1 fx);have e:((zby x).drop (t*8)).take 8=seg 8 (fun i=>u8 (x.regs (8*t+i))):=by
  apply KR;intro i;by_cases hi:i<8
  ·rw [List.getElem?_take_of_lt hi,Kx,zaJ _ hi];unfold zby;rw [Jr (by rw [zo];omega),zaJ _ (by omega),UN]
  ·rw [JK (by rw [Qv];omega),JK (by rw [zo];omega)]
 rw [e] at h2;exact h2
theorem zn9 (t:Nat) {l:List Ev} {j:Nat} (hj:j<l.length):jv t (l.take (j+1))=jv t (l.take j)++if l[j].th=(t:Int) then [{ l[j] with th:=0 }] else []:=by
 rw [tsg hj,ziw];congr 1;unfold jv;by_cases h:l[j].th=(t:Int)
 ·rw [Qo,Gp (Us h),Gp h];rfl
 ·rw [Qo,Gn (by simpa using h),Gn h];rfl
theorem zru (t:Nat) (l:List Ev):(jv t l).length<=l.length:=by
 unfold jv;rw [QN];exact JM ..
section
variable {w:Wd}
theorem znk:CB 23 #[.slice none 0 0] w (.bool true):=by
 refine je 35 [.slice none 0 0] (.s .p (.s .p (.c .p .p))) Tryz.func23 ?_;refine⟨Unit,fun _=>⟨[(0,.slice none 0 0),(3,i64 0)],[]⟩,fun _ X=>X=w,?_,?_⟩
 ·refine⟨Unit,fun _=>⟨[(0,.slice none 0 0),(3,i64 0),(6,.slice none 0 0),(7,i64 0),(8,i64 0)],[]⟩,fun _ X=>X=w,fun _=>0,(),(cvE rfl rfl),rfl,?_⟩;rintro _ X rfl;refine biE (fun hc=>?_) fun hc=>?_
  ·exact Gq (dT hc) (by decide)
  ·exact⟨(),(cvE rfl rfl),rfl⟩
 rintro _ _ rfl;exact brE (by decide) ⟨rfl,Gb _ _⟩
end
theorem zoJ (x y:Operand) (f g:Nat->UInt8) (w:Wd):(do eqGuard .eql 49 x y (.agg (seg 8 fun i=>u8 (f i)).toArray) (.agg (seg 8 fun i=>u8 (g i)).toArray);binOp .eql 49 (.agg (seg 8 fun i=>u8 (f i)).toArray) (.agg (seg 8 fun i=>u8 (g i)).toArray)).run PG w = .ok (.bool ((List.range 8).all fun i=>decide (f i=g i))) w:=by
 obtain⟨G,h1,h2⟩:=zq6;have:=ze5 h1 9998 rfl (by kernel_rfl) (a:=seg 8 fun i=>u8 (f i)) (b:=seg 8 fun i=>u8 (g i)) (zo _ _) (zo _ _) (h2 f) (h2 g) x y w;have e:(seg 8 (fun i=>u8 (f i))=seg 8 fun i=>u8 (g i))↔((List.range 8).all fun i=>decide (f i=g i))=true:=by
  rw [zd3,Qk];exact⟨fun h i hi=>Us (h i (Uo.1 hi)),fun h i hi=>dT (h i (Uo.2 hi))⟩
 rw [this,zbA e,Kg]
theorem zrI (x y:Operand) (a b:Ev) (w:Wd):(do eqGuard .eql 60 x y (.agg (evE.enc a).toArray) (.agg (evE.enc b).toArray);binOp .eql 60 (.agg (evE.enc a).toArray) (.agg (evE.enc b).toArray)).run PG w = .ok (.bool (decide (a=b))) w:=by
 obtain⟨G,h1,h2⟩:=zso;have:=ze5 h1 9998 rfl (by kernel_rfl) (a:=evE.enc a) (b:=evE.enc b) rfl rfl (h2 a) (h2 b) x y w;rw [this,zbA zhT]
def znW (x:ExD) (P:PathD) (t:Nat):Bool:=(List.range 8).all fun j=>decide (x.regs (8*t+j)=P.regs j)
def zfx (a b:List Ev):Bool:=decide (a=b.take a.length)
def pB (tk:List PathD) (x:ExD) (t:Nat):Bool:=match tk[t]? with | none=>true | some P=>znW x P t&&decide (jv t x.ev=P.ev)
def isB (tk:List PathD) (x:ExD):Bool:=(List.range tk.length).all (pB tk x)
theorem zlU {tk:List PathD} {x:ExD}:isB tk x=true↔IsX tk x:=by
 unfold isB;rw [Qk];constructor
 ·intro h t P hP;have:=h t (Uo.2 (Js.1 hP).1);unfold pB at this;rw [hP] at this;have this:(znW x P t&&decide (jv t x.ev=P.ev))=true:=this;rw [bAT,dE] at this;exact⟨this.2,fun j hj=>dT (Qk.1 this.1 j (Uo.2 hj))⟩
 ·intro h t ht;have ht:=Uo.1 ht;have hP:tk[t]?=some tk[t]:=gE ht;obtain⟨h1,h2⟩:=h t _ hP;unfold pB;rw [hP];show (znW x tk[t] t&&decide (jv t x.ev=tk[t].ev))=true;rw [h1,Us rfl,Bool.and_true];exact Qk.2 fun j hj=>Us (h2 j (Uo.1 hj))
theorem zhz {a b:List Ev} {y:Ev} (h:a.length<b.length):zfx (a++[y]) b=(zfx a b&&decide (y=b[a.length])):=by
 unfold zfx;rw [lap,List.length_singleton,tsg h,Bool.eq_iff_iff,bAT,dE,dE,dE];constructor
 ·intro e;obtain⟨h1,h2⟩:=List.append_inj e (by rw [Qv];omega);exact⟨h1,by simpa using h2⟩
 ·rintro⟨h1,h2⟩;rw [<- h2,<- h1]
theorem zhA {a b:List Ev} {y:Ev} (h:¬ a.length<b.length):zfx (a++[y]) b=false:=by
 unfold zfx;refine Uh fun e=>?_;have:=Gj List.length e;rw [Qv,lap,List.length_singleton] at this;omega
theorem zn4 {a b:List Ev}:(zfx a b&&decide (a.length=b.length))=decide (a=b):=by
 unfold zfx;rw [Bool.eq_iff_iff,bAT,dE,dE,dE];constructor
 ·rintro⟨h1,h2⟩;rw [h1,h2,Qx]
 ·rintro rfl;exact⟨(Qx).symm,rfl⟩
theorem zoL (d:Nat) (a b:Bool) (w:Wd):(Op.equalIn (d+1) 4 (.bool a) (.bool b)).run PG w = .ok (decide (a=b)) w:=by
 simp only [Op.equalIn,UT,Ut Tryz.underlying4,Qb,UU]
 cases a <;> cases b <;> rfl
theorem zm2 (x y:Operand) (a b:Bool) (w:Wd):(do eqGuard .eql 4 x y (.bool a) (.bool b);binOp .eql 4 (.bool a) (.bool b)).run PG w = .ok (.bool (decide (a=b))) w:=by
 have h:(Op.equal 4 (.bool a) (.bool b)).run PG w = .ok (decide (a=b)) w:=zoL 9999 a b w;have h1:(eqGuard .eql 4 x y (.bool a) (.bool b)).run PG w = .ok () w:=rfl;rw [UT,h1];simp only [Qb,binOp,UT,h,UU]
def wxB (e x:Ev):Bool:=decide (x.k=2)&&(decide (x.l=e.l)&&decide (x.v=e.v))
theorem zje {α:Type} {l:List α} {f:α->Bool} {k:Nat} (h:k<l.length):(l.take (k+1)).all f=((l.take k).all f&&f l[k]):=by
 rw [tsg h,QJ];simp
theorem zfY {α:Type} {l:List α} {f:α->Bool} {k:Nat} (h:k<l.length):(l.take (k+1)).any f=((l.take k).any f||f l[k]):=by
 rw [tsg h,List.any_append];simp
section
variable {w:Wd} {pc:List Value} {p:Prg} {by_:List UInt8} {pb:OA} {cb:Nat}
theorem zke (hP:PrgX w.heap.size w pc p) (hby:SlR zC w pb by_) (hG:GlobE w) :
  CB 8 #[.agg pc.toArray,.slice pb by_.length cb] w (.bool true):=by
 refine zdV (S:=sg 258) (zbc _) (args:=[.agg pc.toArray,.slice pb by_.length cb])
  (.c .p (.c .p (.c .p (.c .p (.c .p (.s .p (.s .p (.c (.s .p (.b (.l (.s .p (.s .p (.c (.b (.s .p (.s .p (.s .p (.b (.l (.s .p (.s .p (.c (.b (.c .p (.c .p (.c .p (.s .p (.c .p (.s .p .p))))))) .p))))))))) .p)))))) (.c .p (.s .p (.c (.s .p (.b (.l (.s .p (.s .p (.c (.b (.s .p (.s .p (.b (.l (.s .p (.s .p (.c (.b (.s .p (.c .p (.c .p (.c (.s .p (.b (.l (.s .p (.s .p (.c (.b (.s .p (.s .p (.b (.l (.s .p (.s .p (.c (.b (.s .p .p)) .p)))))))) .p)))))) .p))))) .p)))))))) .p)))))) (.s .p (.c (.s .p (.b (.l (.s .p (.s .p (.c (.b (.s .p (.s .p (.c (.s .p (.b (.l (.s .p (.s .p (.c (.b (.s .p (.c .p (.s .p (.c (.s .p (.b (.l (.s .p (.s .p (.c (.b (.s .p (.c .p (.s .p (.c .p .p))))) .p)))))) .p))))) .p)))))) .p)))) .p)))))) .p))))))))))))) Tryz.func8 rfl rfl (JS rfl) rfl ?_
 obtain⟨L,hL⟩:=nm (w.heap.size);have hpc:=hP.v.size;refine⟨Unit,fun _=>⟨[(1,.slice pb by_.length cb),(2,At0 L)],[]⟩,fun _ X=>X.heap[L]?=some (.cells pc.toArray 29 (0,0))/\Bw w X,⟨(),⟨.cons rfl (.cons (by rw [hL];rfl) .nil),rfl⟩,by rw [hL];exact zz w _,(zba w _)⟩,?_⟩;rintro _ X ⟨f0,hbX⟩;have aw:∀ Y,Bw w Y->Calls PG 10 #[] Y fun e w'=>e = .returned (.bool true)/\Bw w w':=fun Y hwY=>cmo (zsC (hG.below hwY)) fun e U h=>⟨h.1,hwY.trans (h.2.mono hwY.size)⟩;refine⟨Bool×List zcD×OA×Nat,fun s=>⟨[(1,.slice pb by_.length cb),(2,At0 L),(5,.slice s.2.2.1 s.2.1.length s.2.2.2),(6,.bool s.1)],[]⟩,fun s Y=>(s.1=true->∃ V,zcA p=true/\(∀ l∈p.threads,l.length<=5)/\zcx p V 300/\s.2.1.map (·.1)=qg p V/\OwnS exE 55 w.heap.size Y s.2.2.1 s.2.2.2 s.2.1/\∀ x∈s.2.1,OwnS evE 60 w.heap.size Y x.2.1 x.2.2 x.1.ev)/\Y.heap[L]?=some (.cells pc.toArray 29 (0,0))/\Bw w Y,?_,?_⟩
 ·refine⟨pc,hpc,za f0,hlt f0,cmo (zqG hbX.size (hP.below hbX) (hG.below hbX)) ?_⟩;rintro e Y ⟨hcase,hbY⟩;have hwY:=zst hbX hbY;have f0Y:=zc hbY f0;obtain⟨V,hok,h5,hco,xs,q,c,rfl,hxs,oX,oE⟩ | rfl:=hcase
  ·exact⟨(true,xs,q,c),(cvE rfl rfl),fun _=>⟨V,hok,h5,hco,hxs,oX.lower hbX.size,fun x hx=>(oE x hx).lower hbX.size⟩,f0Y,hwY⟩
  ·exact⟨(false,[],none,0),(cvE rfl rfl),(fun h=>by cases h),f0Y,hwY⟩
 clear f0 hbX;clear X;rintro⟨ok,xs,q,c⟩ X ⟨hcase,f0,hwX⟩;dsimp only at hcase ⊢;refine⟨Unit,fun _=>⟨[(1,.slice pb by_.length cb),(2,At0 L),(5,.slice q xs.length c)],[]⟩,fun _ Z=>Z=X/\ok=true,?_,?_⟩
 ·cases ok with
  | false =>
   refine brT (cmo (aw X hwX) ?_);rintro e U ⟨rfl,hbU⟩;exact⟨rfl,hbU⟩
  | true =>
   exact brF ⟨(),(cvE rfl rfl),rfl,rfl⟩
 rintro _ _ ⟨rfl,rfl⟩;obtain⟨V,hok,h5,hco,hxs,oX,oE⟩:=hcase rfl;clear hcase;rename_i X;have hO:=zda hok;have sXw:=hwX.size;obtain⟨hv1,hVd⟩:=zfX hO hco.1;refine⟨OA×Nat,fun s=>⟨[(1,.slice pb by_.length cb),(2,At0 L),(5,.slice q xs.length c),(7,.slice s.1 V.length s.2),(8,i64 0)],[]⟩,fun s Y=>OwnS zC 5 X.heap.size Y s.1 s.2 V/\Bw X Y,?_,?_⟩
 ·refine⟨pc,hpc,za f0,hlt f0,cmo (zh3 sXw (hP.below hwX) (hG.below hwX) hok) ?_⟩;rintro e Y ⟨(⟨V',qd,cd,hV',rfl,oV⟩ | ⟨hV',rfl⟩),hbY⟩
  ·rw [hco.1] at hV';have:=Uf hV';subst this;exact⟨(qd,cd),(cvE rfl rfl),oV,hbY⟩
  ·rw [hco.1] at hV';cases hV'
 rintro⟨qd,cd⟩ Y ⟨oV,hbY⟩;dsimp only at oV ⊢;have hwY:=hwX.trans (hbY.mono sXw);have sYw:=hwY.size;replace f0:=zc hbY f0;replace oX:=oX.below hbY;replace oE:=fun x hx=>(oE x hx).below hbY;refine⟨Unit,fun _=>⟨[(1,.slice pb by_.length cb),(2,At0 L),(5,.slice q xs.length c),(7,.slice qd V.length cd)],[]⟩,fun _ Z=>Z=Y,?_,?_⟩
 ·exact brF (brN (Uh (by omega)) ⟨(),(cvE rfl rfl),rfl⟩)
 rintro _ _ rfl;rename_i Y;clear hbY hwX sXw;obtain⟨_,⟨p3,c3,h3,ts,hts,zdt,htr⟩,p2,c2,h2,hini⟩:=hP;have htl:ts.length=p.threads.length:=by rw [<- hts,QN]
 have ht4:=hO.t4;have c3':Y.cell? ⟨L,0+3,none⟩=some (.slice p3 p.threads.length c3):=zb (za f0) (i:=3) (by simpa using h3);refine⟨List zbZ×OA×Nat,fun s=>⟨[(2,At0 L),(5,.slice q xs.length c),(9,.slice s.2.1 s.1.length s.2.2)],[]⟩,fun s S=>(s.1.length=p.threads.length/\∀ (i:Nat) (l:List InsD),p.threads[i]?=some l->∃ R∈z8 l V,(s.1.map (·.1))[i]?=some (jf R))/\OwnS z6 73 Y.heap.size S s.2.1 s.2.2 s.1/\(∀ y∈s.1,OwnS evE 60 Y.heap.size S y.2.1.1 y.2.1.2 y.1.ev)/\Bw Y S,?_,?_⟩
 ·refine⟨_,c3',?_⟩;refine⟨Nat×Nat×List zbZ×OA×Nat,fun s=>⟨[(1,.slice pb by_.length cb),(2,At0 L),(5,.slice q xs.length c),(7,.slice qd V.length cd),(9,.slice s.2.2.2.1 s.2.2.1.length s.2.2.2.2),(10,i64 (s.2.1:Nat)),(58,.slice p3 p.threads.length c3),(59,i64 p.threads.length),(60,i64 (s.1:Nat))],[]⟩,
   fun s S=>s.1<=p.threads.length/\s.2.1<=6*s.1/\(s.2.2.1.length=s.1/\∀ (i:Nat) (l:List InsD),i<s.1->p.threads[i]?=some l->∃ R∈z8 l V,(s.2.2.1.map (·.1))[i]?=some (jf R))/\OwnS z6 73 Y.heap.size S s.2.2.2.1 s.2.2.2.2 s.2.2.1/\(∀ y∈s.2.2.1,OwnS evE 60 Y.heap.size S y.2.1.1 y.2.1.2 y.1.ev)/\Bw Y S,fun s=>p.threads.length-s.1,(0,0,[],none,0),
   (cvE rfl rfl),⟨UZ _,UW _,⟨rfl,fun i l h=>Gq h (Ub _)⟩,OwnS.nil,(fun y h=>by cases h),Gb _ _⟩,?_⟩
  rintro⟨t,k10,ys,q9,c9⟩ S ⟨htn,hk10,⟨hyl,hyp⟩,oP,oPe,hbS⟩;dsimp only at htn hk10 hyl hyp oP oPe ⊢;refine biE (fun hc=>?_) fun hc=>?_
  ·have hc:(t:Int)<(p.threads.length:Int):=dT hc;have htn:t<p.threads.length:=by omega
   have hmx:t<ts.length:=by omega
   have hwS:=hwY.trans (hbS.mono sYw);have sS:=hwS.size;obtain⟨b3,o3,hp3,hb3,hat3⟩:=zc7 (zdt.below hwS) hmx;have hB2:b3<S.heap.size:=nL hb3 sS;subst hp3;obtain⟨hrm,hrb⟩:=htr _ (gM hmx);have hsl:SlR zG S ts[t].2.1 ts[t].1:=(hrm.below hwS).slr sS;obtain⟨l,hl⟩:=nm (ts[t].1);obtain⟨ql,hql⟩:=nm (ts[t].2.1);obtain⟨cl,hcl⟩:=nm (ts[t].2.2);have hv:zg5 ts[t] = .slice ql l.length cl:=by rw [hl,hql,hcl];rfl
   have hlt':p.threads[t]?=some l:=by rw [<- hts,KV,gE hmx,hl];rfl
   rw [<- hl,<- hql] at hsl hrb;have hth:qa l 6=true:=hO.th l (JZ hlt');have hl5:=h5 l (JZ hlt');refine⟨Nat×List zbZ×OA×Nat,fun s=>⟨[(1,.slice pb by_.length cb),(2,At0 L),(5,.slice q xs.length c),(7,.slice qd V.length cd),(9,.slice s.2.2.1 s.2.1.length s.2.2.2),(10,i64 (s.1:Nat)),(58,.slice (some ⟨b3,o3,none⟩) p.threads.length c3),(59,i64 p.threads.length),(60,i64 (t:Nat))],[]⟩,
    fun s S=>s.1<=6*(t+1)/\(s.2.1.length=t+1/\∀ (i:Nat) (l:List InsD),i<t+1->p.threads[i]?=some l->∃ R∈z8 l V,(s.2.1.map (·.1))[i]?=some (jf R))/\OwnS z6 73 Y.heap.size S s.2.2.1 s.2.2.2 s.2.1/\(∀ y∈s.2.1,OwnS evE 60 Y.heap.size S y.2.1.1 y.2.1.2 y.1.ev)/\Bw Y S,?_,?_⟩
   rotate_left
   ·rintro⟨k2,zs,q3,d3⟩ S2 ⟨m1,m2,m3,m4,m5⟩;dsimp only at m1 m2 m3 m4 ⊢;exact nxI (by omega) ⟨(t+1,k2,zs,q3,d3),(cvE rfl rfl),⟨htn,m1,m2,m3,m4,m5⟩,zdc (by omega)⟩
   refine⟨t,rfl,htn,.slice ql l.length cl,by rw [<- hv];have:=zb (hat3 t hmx) (i:=0) (v:=zg5 ts[t]) rfl;exact this,?_⟩;clear hv hcl hql hrm hat3;refine⟨List UInt8×Nat×OA×Nat,fun s=>⟨[(1,.slice pb by_.length cb),(2,At0 L),(5,.slice q xs.length c),(7,.slice qd V.length cd),(9,.slice q9 ys.length c9),(10,i64 (s.2.1:Nat)),(12,.slice ql l.length cl),(13,.slice s.2.2.1 s.1.length s.2.2.2),(58,.slice (some ⟨b3,o3,none⟩) p.threads.length c3),(59,i64 p.threads.length),(60,i64 (t:Nat)),(64,i64 (s.1.length:Nat))],[]⟩,
    fun s W=>s.1.length<=6/\(s.2.1<=6*t+s.1.length/\(∃ T,zcK l s.1 zdr=some T)/\(∀ v∈s.1,v∈V)/\OwnS zC 5 S.heap.size W s.2.2.1 s.2.2.2 s.1/\Bw S W),fun s=>6-s.1.length,([],k10,none,0),
    (cvE rfl rfl),⟨by show 0<=6;decide,by show k10<=6*t+0;omega,⟨_,rfl⟩,(fun v h=>by cases h),OwnS.nil,Gb _ _⟩,?_⟩
   rintro⟨vs,k,q13,c13⟩ W ⟨hvl,hkk,⟨T,hT⟩,hvV,oR,hbW⟩;dsimp only at hvl hkk hT hvV oR ⊢;obtain⟨hTo,hTp⟩:=zlx (zeL hth) (zd7 l) hT;have hTp:vs.length<=T.pc:=by
    have h0:zdr.pc=0:=rfl;omega
   refine biE (fun hc=>?_) fun hc=>?_
   ·have hc:(vs.length:Int)<6:=dT hc;have sW:=hbW.size;have hwW:=hwS.trans (hbW.mono sS);refine⟨List UInt8×Nat×OA×Nat,fun s=>⟨[(1,.slice pb by_.length cb),(2,At0 L),(5,.slice q xs.length c),(7,.slice qd V.length cd),(9,.slice q9 ys.length c9),(10,i64 (s.2.1:Nat)),(12,.slice ql l.length cl),(13,.slice s.2.2.1 s.1.length s.2.2.2),(58,.slice (some ⟨b3,o3,none⟩) p.threads.length c3),(59,i64 p.threads.length),(60,i64 (t:Nat)),(64,i64 (vs.length:Nat))],[]⟩,
     fun s W=>s.1.length=vs.length+1/\(s.2.1<=6*t+(vs.length+1)/\(∃ T,zcK l s.1 zdr=some T)/\(∀ v∈s.1,v∈V)/\OwnS zC 5 S.heap.size W s.2.2.1 s.2.2.2 s.1/\Bw S W),?_,?_⟩
    rotate_left
    ·rintro⟨us,k2,q3,d3⟩ W2 ⟨m1,m2,m3,m4,m5,m6⟩;dsimp only at m1 m2 m3 m4 m5 ⊢;exact⟨((vs.length+1:Nat):Int),(ze (by omega)).trans (by omega),(us,k2,q3,d3),⟨.cons rfl (.cons rfl (.cons rfl (.cons rfl (.cons rfl (.cons rfl (.cons rfl (.cons rfl (.cons rfl (.cons rfl (.cons rfl (.cons (by rw [m1];rfl) .nil))))))))))),rfl⟩,⟨by show us.length<=6;omega,by rw [m1];exact m2,m3,m4,m5,m6⟩,by show 6-us.length<6-vs.length;omega⟩
    refine⟨Bool×zbZ×Nat,fun s=>⟨[(1,.slice pb by_.length cb),(2,At0 L),(5,.slice q xs.length c),(7,.slice qd V.length cd),(9,.slice q9 ys.length c9),(10,i64 (k:Nat)),(12,.slice ql l.length cl),(13,.slice q13 vs.length c13),(14,At0 s.2.2),(15,.bool s.1),(16,i64 0),(58,.slice (some ⟨b3,o3,none⟩) p.threads.length c3),(59,i64 p.threads.length),(60,i64 (t:Nat)),(64,i64 (vs.length:Nat))],[]⟩,
     fun s X=>(s.1=false->l[T.pc]?=none/\s.2.1.1=jf T/\X.heap[s.2.2]?=some (.cells (z6.enc s.2.1).toArray 73 (0,0))/\OwnS evE 60 S.heap.size X s.2.1.2.1.1 s.2.1.2.1.2 s.2.1.1.ev)/\(s.1=true->∃ x,l[T.pc]?=some x)/\OwnS zC 5 S.heap.size X q13 c13 vs/\Bw S X,?_,?_⟩
    ·refine cmo (znj (hsl.below hbW) oR.row hth (hG.below hwW) (fun hne a ha=>nL (hrb hne a ha) (UM sS sW)) (fun hne a ha=>(zq oR ha).2.1) (by omega) hT) ?_;rintro e X ⟨(⟨hn,r1,d1,r2,d2,r3,d3,r4,d4,rfl,oF⟩ | ⟨hx,rfl⟩),hbX⟩
     ·exact zn (X:=X) (v := .agg (zb8 (jf T) r1 d1 r2 d2 r3 d3 r4 d4).toArray) k73 (zbu ..) rfl (zb7 ..) fun Z hbZ fZ sZ=>⟨(false,(jf T,(r1,d1),(r2,d2),(r3,d3),(r4,d4)),X.heap.size),(cvE rfl rfl),(fun _=>⟨hn,rfl,fZ,(oF.lower sW).below hbZ⟩),(fun h=>by cases h),(oR.below hbX).below hbZ,(hbW.trans (hbX.mono sW)).trans (hbZ.mono (UM sW hbX.size))⟩
     ·exact zn (X:=X) (v := .agg (zb8 zhC none 0 none 0 none 0 none 0).toArray) k73 (zbu ..) rfl (zb7 ..) fun Z hbZ fZ sZ=>⟨(true,(zhC,(none,0),(none,0),(none,0),(none,0)),X.heap.size),(cvE rfl rfl),(fun h=>by cases h),(fun _=>hx),(oR.below hbX).below hbZ,(hbW.trans (hbX.mono sW)).trans (hbZ.mono (UM sW hbX.size))⟩
    clear oR hbW sW hwW W;rintro⟨more,y,M⟩ W ⟨hdone,hmore,oR,hbW⟩;dsimp only at hdone hmore ⊢;have sW:=hbW.size;refine⟨Unit,fun _=>⟨[(1,.slice pb by_.length cb),(2,At0 L),(5,.slice q xs.length c),(7,.slice qd V.length cd),(9,.slice q9 ys.length c9),(10,i64 (k:Nat)),(12,.slice ql l.length cl),(13,.slice q13 vs.length c13),(14,At0 M),(15,.bool more),(58,.slice (some ⟨b3,o3,none⟩) p.threads.length c3),(59,i64 p.threads.length),(60,i64 (t:Nat)),(64,i64 (vs.length:Nat))],[]⟩,fun _ X=>X=W,?_,?_⟩
    ·exact brF ⟨(),(cvE rfl rfl),rfl⟩
    rintro _ _ rfl;rename_i W;refine⟨Unit,fun _=>⟨[(1,.slice pb by_.length cb),(2,At0 L),(5,.slice q xs.length c),(7,.slice qd V.length cd),(9,.slice q9 ys.length c9),(10,i64 (k:Nat)),(12,.slice ql l.length cl),(13,.slice q13 vs.length c13),(58,.slice (some ⟨b3,o3,none⟩) p.threads.length c3),(59,i64 p.threads.length),(60,i64 (t:Nat)),(64,i64 (vs.length:Nat))],[]⟩,fun _ X=>X=W/\more=true,?_,?_⟩
    ·cases more with
     | true =>
      exact brF ⟨(),(cvE rfl rfl),rfl,rfl⟩
     | false =>
      refine brT ?_;obtain⟨hn,hy1,fM,oF⟩:=hdone rfl;have sY:=hbS.size;refine⟨z6.enc y,z6.len y,za fM,hlt fM,⟨by decide,by decide,rfl⟩,z6.enc y,zaB (z6.len y) rfl,?_⟩;have hba:Bw W (W.alloc (.cells (z6.enc y).toArray 73)):=zba _ _;have hSa:=hbW.trans (hba.mono sW);have oPa:=(oP.below hbW).below hba;refine js (E:=z6) (T:=73) (B:=Y.heap.size) (l:=ys) (news:=[y]) (cap:=c9) (m:=1) Tryz.underlying78 k73 rfl rfl rfl oPa rfl (qE z6 y) (UM sY hSa.size) (by omega) (by show (ys.length+1)*104<=_;omega) ?_;intro q3 d3 X oX3 gX3 hbX3 hat3;rw [zaf] at gX3;have hYX:Bw Y X:=(hbS.trans (hSa.mono sY)).trans hbX3;refine⟨(k,ys++[y],q3,d3),(cvE rfl rfl),by show k<=6*(t+1);omega,⟨by show (ys++[y]).length=t+1;rw [lap,hyl];rfl,fun i l' hi hl'=>?_⟩,oX3,fun z hz=>?_,hYX⟩
      ·show ∃ R∈z8 l' V,((ys++[y]).map (·.1))[i]?=some (jf R);rw [QR];by_cases hit:i<t
       ·obtain⟨R,h1,h2⟩:=hyp i l' hit hl';exact⟨R,h1,by rw [Jr (by rw [QN];omega)];exact h2⟩
       ·have hit2:i=t:=(by omega);subst hit2;rw [hlt'] at hl';have:=Uf hl';subst this;refine⟨T,zoN (zeL hth) (zfe hT hn) hvV,?_⟩;rw [Jn (by rw [QN];omega),QN,hyl,UO,<- hy1];rfl
      ·rcases QS.1 hz with hz | hz
       ·exact jE (((oPe z hz).below hbW).below hba) oPa (by decide) gX3
       ·rw [KB.1 hz];exact jE ((oF.lower sY).below hba) oPa (by decide) gX3
    rintro _ _ ⟨rfl,rfl⟩;rename_i W;obtain⟨x,hx⟩:=hmore rfl;clear hdone hmore;have hYW:=zst hbS hbW;have oVW:=oV.row.below hYW;obtain⟨bd,od,rfl,hbd,hatd⟩:=oVW.at (by omega:0<V.length);have hwW:=hwS.trans (hbW.mono sS);refine⟨0,rfl,by omega,?_⟩;refine⟨u8 V[0],by have:=zb (hatd 0 (by omega)) (i:=0) (v:=u8 V[0]) rfl;exact this,UInt8,fun v=>⟨[(1,.slice pb by_.length cb),(2,At0 L),(5,.slice q xs.length c),(7,.slice (some ⟨bd,od,none⟩) V.length cd),(9,.slice q9 ys.length c9),(10,i64 (k:Nat)),(12,.slice ql l.length cl),(13,.slice q13 vs.length c13),(17,u8 v),(58,.slice (some ⟨b3,o3,none⟩) p.threads.length c3),(59,i64 p.threads.length),(60,i64 (t:Nat)),(64,i64 (vs.length:Nat))],[]⟩,fun v X=>X=W/\v∈V,?_,?_⟩
    ·refine biE (fun h=>?_) fun h=>?_
     ·have h:(k:Int)<(by_.length:Int):=dT h;have hkb:k<by_.length:=(by omega);obtain⟨bb,ob,rfl,hbb,hatb⟩:=(hby.below hwW).at hkb;refine⟨k,rfl,hkb,u8 by_[k],by have:=zb (hatb k hkb) (i:=0) (v:=u8 by_[k]) rfl;exact this,(by_[k].toNat:Int),ze (by have:=by_[k].toNat_lt;omega),?_⟩;have hml:by_[k].toNat%V.length<V.length:=Gf _ (by omega);exact⟨by omega,((by_[k].toNat%V.length:Nat):Int),(Int.ofNat_tmod _ _).symm,by_[k].toNat%V.length,rfl,hml,u8 V[by_[k].toNat%V.length],by have:=zb (hatd _ hml) (i:=0) (v:=u8 V[by_[k].toNat%V.length]) rfl;exact this,V[by_[k].toNat%V.length],(cvE rfl rfl),rfl,gM _⟩
     ·exact⟨V[0],(cvE rfl rfl),rfl,gM _⟩
    rintro v _ ⟨rfl,hvm⟩;rename_i W;refine nxI (by omega) ⟨⟨by decide,by decide,rfl⟩,zC.enc v,rfl,?_⟩;have hba:Bw W (W.alloc (.cells (zC.enc v).toArray 5)):=zba _ _;refine js (E:=zC) (T:=5) (B:=S.heap.size) (l:=vs) (news:=[v]) (cap:=c13) (m:=1) Tryz.underlying23 k5 rfl rfl rfl (oR.below hba) rfl (qE zC v) (by have:=hba.size;omega) (by omega) (by show (vs.length+1)*1<=_;omega) ?_;intro q3 d3 X oX3 gX3 hbX3 hat3;exact⟨(vs++[v],k+1,q3,d3),(cvE rfl rfl),by show (vs++[v]).length=vs.length+1;rw [lap];rfl,by show k+1<=6*t+(vs.length+1);omega,⟨_,zjo hT hx⟩,(fun u hu=>(QS.1 hu).elim (hvV u) fun h=>by rw [KB.1 h];exact hvm),oX3,(hbW.trans (hba.mono sW)).trans hbX3⟩
   ·have hc:¬ (vs.length:Int)<6:=dF hc;have hTl:=hTo.p;omega
  ·have hc:¬ (t:Int)<(p.threads.length:Int):=dF hc;obtain rfl:t=p.threads.length:=by omega
   exact⟨(ys,q9,c9),(cvE rfl rfl),⟨hyl,fun i l h=>hyp i l (Js.1 h).1 h⟩,oP,oPe,hbS⟩
 rintro⟨ys,q9,c9⟩ S ⟨⟨hyl,hyp⟩,oP,oPe,hbS⟩;dsimp only at hyl hyp oP oPe ⊢;obtain⟨tk,htk⟩:=nm (ys.map (·.1));rw [<- htk] at hyp;have htkl:tk.length=ys.length:=by rw [htk,QN]
 have hmm:=zpR hO hco (took:=tk) (by omega) hyp;have tkW:∀ P∈tk,PathW p.init.length P:=fun P hP=>by
  obtain⟨t,ht⟩:=List.mem_iff_getElem?.1 hP;have htl2:t<p.threads.length:=by have:=(Js.1 ht).1;omega
  obtain⟨R,hR,h⟩:=hyp t _ (gE htl2);rw [ht] at h;rw [Uf h];exact zeg hO (gM htl2) (Km hR)
 have tk_at:∀ (j:Nat) (h:j<ys.length),tk[j]'(by omega)=(ys[j]).1:=fun j h=>by
  have:tk[j]?=some (ys[j]).1:=by rw [htk,KV,gE h];rfl
  exact (Js.1 this).2
 have hwS:=hwY.trans (hbS.mono sYw);have sS:=hwS.size;replace f0:=zc hbS f0;have rP:=oP.row;have rPe:∀ y∈ys,SlR evE S y.2.1.1 y.1.ev:=fun y hy=>(oPe y hy).row;have c3'':S.cell? ⟨L,0+3,none⟩=some (.slice p3 p.threads.length c3):=zb (za f0) (i:=3) (by simpa using h3);refine⟨Unit,fun _=>⟨[(2,At0 L),(5,.slice q xs.length c),(9,.slice q9 ys.length c9)],[]⟩,fun _ X=>X=S,?_,?_⟩
 ·exact⟨_,c3'',brN (by rw [Us (by omega)];rfl) ⟨(),(cvE rfl rfl),rfl⟩⟩
 rintro _ _ rfl;rename_i S;clear c3'' c3' oP oPe;refine⟨Bool,fun may=>⟨[(5,.slice q xs.length c),(9,.slice q9 ys.length c9),(18,.bool may)],[]⟩,fun may X=>may=zjM p.init tk/\Bw S X,?_,?_⟩
 ·refine⟨Nat×Bool,fun s=>⟨[(2,At0 L),(5,.slice q xs.length c),(9,.slice q9 ys.length c9),(18,.bool s.2),(113,.slice q9 ys.length c9),(114,i64 ys.length),(115,i64 (s.1:Nat))],[]⟩,fun s X=>s.1<=ys.length/\s.2=((tk.take s.1).all fun P=>P.ev.all (zbU p.init tk))/\Bw S X,fun s=>ys.length-s.1,(0,true),(cvE rfl rfl),⟨UZ _,by rw [Up];rfl,Gb _ _⟩,?_⟩;rintro⟨j,may⟩ W ⟨hj,hmay,hbW⟩;dsimp only at hj hmay ⊢;refine biE (fun hc=>?_) fun hc=>?_
  ·have hc:(j:Int)<(ys.length:Int):=dT hc;have hjl:j<ys.length:=by omega
   obtain⟨bp,op,rfl,hbp,hatp⟩:=rP.at hjl;obtain⟨y,hy⟩:∃ y,ys[j]=y:=⟨_,rfl⟩;have hym:y∈ys:=by rw [<- hy];exact gM hjl
   have sW:=hbW.size;refine⟨Bool,fun m=>⟨[(2,At0 L),(5,.slice q xs.length c),(9,.slice (some ⟨bp,op,none⟩) ys.length c9),(18,.bool m),(113,.slice (some ⟨bp,op,none⟩) ys.length c9),(114,i64 ys.length),(115,i64 (j:Nat))],[]⟩,fun m X=>m=((tk.take (j+1)).all fun P=>P.ev.all (zbU p.init tk))/\Bw S X,?_,?_⟩
   rotate_left
   ·rintro m X ⟨hm,hbX⟩;exact⟨((j+1:Nat):Int),(ze (by have:=hyl;omega)).trans (by omega),(j+1,m),(cvE rfl rfl),⟨hjl,hm,hbX⟩,zdc (by omega)⟩
   refine⟨j,rfl,hjl,z6.enc y,z6.len y,by rw [<- hy];exact zm hbW (hatp j hjl),nL hbp sW,zn (X:=W) (v := .agg (z6.enc y).toArray) k73 (z6.len y) rfl (Qk.2 fun u hu=>z6.one _ u hu) fun T hbT fN sT=>?_⟩;obtain⟨P,hP⟩:=nm (y.1);obtain⟨qe,hqe⟩:=nm (y.2.1.1);obtain⟨ce,hce⟩:=nm (y.2.1.2);have hPm:P∈tk:=by rw [hP,htk];exact Km hym
   have hPW:=tkW P hPm;have hPn:=hPW.n;have rE:=rPe y hym;rw [<- hP,<- hqe] at rE;have hj1:((tk.take (j+1)).all fun P=>P.ev.all (zbU p.init tk))=(may&&P.ev.all (zbU p.init tk)):=by rw [zje (by omega:j<tk.length),tk_at j hjl,hy,<- hP,<- hmay]
   have hST:=hbW.trans (hbT.mono sW);refine⟨.slice qe P.ev.length ce,by rw [hqe,hP,hce];exact zb (za fN) (i:=0) rfl,Nat×Bool,fun s=>⟨[(2,At0 L),(5,.slice q xs.length c),(9,.slice (some ⟨bp,op,none⟩) ys.length c9),(18,.bool s.2),(113,.slice (some ⟨bp,op,none⟩) ys.length c9),(114,i64 ys.length),(115,i64 (j:Nat)),(120,.slice qe P.ev.length ce),(121,i64 P.ev.length),(122,i64 (s.1:Nat))],[]⟩,fun s X=>s.1<=P.ev.length/\s.2=(may&&(P.ev.take s.1).all (zbU p.init tk))/\Bw S X,fun s=>P.ev.length-s.1,(0,may),(cvE rfl rfl),⟨UZ _,by rw [Up];show may=(may&&true);rw [Bool.and_true],hST⟩,?_⟩;clear hST fN sT hbT T;rintro⟨k,may2⟩ T ⟨hk,hmay2,hbT⟩;dsimp only at hk hmay2 ⊢;refine biE (fun hc=>?_) fun hc=>?_
   ·have hc:(k:Int)<(P.ev.length:Int):=dT hc;have hkl:k<P.ev.length:=(by omega);obtain⟨be,oe,hqe2,hbe,hate⟩:=rE.at hkl;subst hqe2;obtain⟨e,he⟩:∃ e,P.ev[k]=e:=⟨_,rfl⟩;have hem:e∈P.ev:=(by rw [<- he];exact gM hkl);have hk1:(P.ev.take (k+1)).all (zbU p.init tk)=((P.ev.take k).all (zbU p.init tk)&&zbU p.init tk e):=(by rw [zje hkl,he]);have sT:=hbT.size;refine⟨Bool,fun m=>⟨[(2,At0 L),(5,.slice q xs.length c),(9,.slice (some ⟨bp,op,none⟩) ys.length c9),(18,.bool m),(113,.slice (some ⟨bp,op,none⟩) ys.length c9),(114,i64 ys.length),(115,i64 (j:Nat)),(120,.slice (some ⟨be,oe,none⟩) P.ev.length ce),(121,i64 P.ev.length),(122,i64 (k:Nat))],[]⟩,fun m X=>m=(may2&&zbU p.init tk e)/\Bw S X,?_,?_⟩
    rotate_left
    ·rintro m X ⟨hm,hbX⟩;exact nxI (by omega) ⟨(k+1,m),(cvE rfl rfl),⟨hkl,by show m=(may&&(P.ev.take (k+1)).all (zbU p.init tk));rw [hm,hk1,hmay2,Bool.and_assoc],hbX⟩,zdc (by omega)⟩
    refine⟨k,rfl,hkl,evE.enc e,rfl,by rw [<- he];exact zm hbT (hate k hkl),nL hbe sT,zn (X:=T) (v := .agg (evE.enc e).toArray) k60 rfl rfl (Qk.2 fun u hu=>evE.one _ u hu) fun U hbU fE sU=>?_⟩;have hSU:=hbT.trans (hbU.mono sT);have hN2:S.heap.size<=T.heap.size:=sT;obtain⟨N2,hN⟩:=nm (T.heap.size);rw [<- hN] at fE hN2 ⊢;clear hbU sU hbT sT hN;clear T;refine⟨Unit,fun _=>⟨[(2,At0 L),(5,.slice q xs.length c),(9,.slice (some ⟨bp,op,none⟩) ys.length c9),(18,.bool may2),(22,At0 N2),(113,.slice (some ⟨bp,op,none⟩) ys.length c9),(114,i64 ys.length),(115,i64 (j:Nat)),(120,.slice (some ⟨be,oe,none⟩) P.ev.length ce),(121,i64 P.ev.length),(122,i64 (k:Nat))],[]⟩,fun _ X=>X=U/\e.k=1,?_,?_⟩
    ·refine⟨_,zb (za fE) (i:=1) rfl,biE (fun h=>?_) fun h=>?_⟩
     ·have h:¬ e.k=1:=dF ((zat (x:=e.k) (y:=1)).symm.trans (zpO h));exact⟨may2,(cvE rfl rfl),by unfold zbU;rw [Uh h];simp,hSU⟩
     ·have h:e.k=1:=dT ((zat (x:=e.k) (y:=1)).symm.trans (zpN h));exact⟨(),(cvE rfl rfl),rfl,h⟩
    rintro _ _ ⟨rfl,hek⟩;rename_i U;have hsrc:zbU p.init tk e=(decide (p.init.getD e.l.toNat 0=e.v)||zh9 tk e):=(by unfold zbU;rw [Us hek];rfl);have hloc:e.l.toNat<p.init.length:=hPW.b.loc e hem (.inl hek);refine⟨Bool,fun s=>⟨[(2,At0 L),(5,.slice q xs.length c),(9,.slice (some ⟨bp,op,none⟩) ys.length c9),(18,.bool may2),(22,At0 N2),(23,.bool s),(113,.slice (some ⟨bp,op,none⟩) ys.length c9),(114,i64 ys.length),(115,i64 (j:Nat)),(120,.slice (some ⟨be,oe,none⟩) P.ev.length ce),(121,i64 P.ev.length),(122,i64 (k:Nat))],[]⟩,fun s X=>s=decide (p.init.getD e.l.toNat 0=e.v)/\X.heap[N2]?=some (.cells (evE.enc e).toArray 60 (0,0))/\Bw S X,?_,?_⟩
    ·have hSd:=hSU.drew;have hwd:=hwS.trans (hSd.mono sS);obtain⟨bi,oi,rfl,hbi,hati⟩:=zc7 (hini.below hwd) hloc;have hin:p.init.getD e.l.toNat 0=p.init[e.l.toNat]:=(by rw [gDe,gE hloc];rfl);exact DrawE.ord [] [0,1,2,3,4,5,6,7,8,9] (by kernel_rfl) ⟨.slice (some ⟨bi,oi,none⟩) p.init.length c2,zb (za (zc hSd f0)) (i:=2) (by simpa using h2),_,zb (za (hdr fE)) (i:=2) rfl,e.l.toNat,rfl,hloc,u8 p.init[e.l.toNat],by have:=zb (hati _ hloc) (i:=0) (v:=u8 p.init[e.l.toNat]) rfl;exact this,_,zb (za (hdr fE)) (i:=3) rfl,_,(cvE rfl rfl),by rw [hin];exact zat,hdr fE,hSd⟩
    clear fE hSU U;rintro s0 U ⟨hs0,fE,hbU⟩;refine⟨Bool,fun s=>⟨[(2,At0 L),(5,.slice q xs.length c),(9,.slice (some ⟨bp,op,none⟩) ys.length c9),(18,.bool may2),(23,.bool s),(113,.slice (some ⟨bp,op,none⟩) ys.length c9),(114,i64 ys.length),(115,i64 (j:Nat)),(120,.slice (some ⟨be,oe,none⟩) P.ev.length ce),(121,i64 P.ev.length),(122,i64 (k:Nat))],[]⟩,fun s X=>s=(s0||zh9 tk e)/\Bw S X,?_,?_⟩
    ·refine⟨Nat×Bool,fun s=>⟨[(2,At0 L),(5,.slice q xs.length c),(9,.slice (some ⟨bp,op,none⟩) ys.length c9),(18,.bool may2),(22,At0 N2),(23,.bool s.2),(113,.slice (some ⟨bp,op,none⟩) ys.length c9),(114,i64 ys.length),(115,i64 (j:Nat)),(120,.slice (some ⟨be,oe,none⟩) P.ev.length ce),(121,i64 P.ev.length),(122,i64 (k:Nat)),(138,.slice (some ⟨bp,op,none⟩) ys.length c9),(139,i64 ys.length),(140,i64 (s.1:Nat))],[]⟩,fun s X=>s.1<=ys.length/\s.2=(s0||((tk.take s.1).any fun Q=>Q.ev.any (wxB e)))/\X.heap[N2]?=some (.cells (evE.enc e).toArray 60 (0,0))/\Bw S X,fun s=>ys.length-s.1,(0,s0),(cvE rfl rfl),⟨UZ _,by rw [Up];show s0=(s0||false);rw [Ux],fE,hbU⟩,?_⟩;clear fE hbU U;rintro⟨j2,s2⟩ U ⟨hj2,hs2,fE,hbU⟩;dsimp only at hj2 hs2 ⊢;refine biE (fun hc=>?_) fun hc=>?_
     ·have hc:(j2:Int)<(ys.length:Int):=dT hc;have hj2l:j2<ys.length:=(by omega);obtain⟨z,hz⟩:∃ z,ys[j2]=z:=⟨_,rfl⟩;have hzm:z∈ys:=(by rw [<- hz];exact gM hj2l);have sU:=hbU.size;refine⟨Bool,fun s=>⟨[(2,At0 L),(5,.slice q xs.length c),(9,.slice (some ⟨bp,op,none⟩) ys.length c9),(18,.bool may2),(22,At0 N2),(23,.bool s),(113,.slice (some ⟨bp,op,none⟩) ys.length c9),(114,i64 ys.length),(115,i64 (j:Nat)),(120,.slice (some ⟨be,oe,none⟩) P.ev.length ce),(121,i64 P.ev.length),(122,i64 (k:Nat)),(138,.slice (some ⟨bp,op,none⟩) ys.length c9),(139,i64 ys.length),(140,i64 (j2:Nat))],[]⟩,fun s X=>s=(s2||z.1.ev.any (wxB e))/\X.heap[N2]?=some (.cells (evE.enc e).toArray 60 (0,0))/\Bw S X,?_,?_⟩
      rotate_left
      ·rintro s X ⟨hs,fX,hbX⟩;exact⟨((j2+1:Nat):Int),(ze (by have:=hyl;omega)).trans (by omega),(j2+1,s),(cvE rfl rfl),⟨hj2l,by show s=(s0||((tk.take (j2+1)).any fun Q=>Q.ev.any (wxB e)));rw [hs,zfY (by omega:j2<tk.length),tk_at j2 hj2l,hz,hs2,Bool.or_assoc],fX,hbX⟩,zdc (by omega)⟩
      refine⟨j2,rfl,hj2l,z6.enc z,z6.len z,by rw [<- hz];exact zm hbU (hatp j2 hj2l),nL hbp sU,zn (X:=U) (v := .agg (z6.enc z).toArray) k73 (z6.len z) rfl (Qk.2 fun u hu=>z6.one _ u hu) fun T hbT fZ sT=>?_⟩;obtain⟨Q,hQ⟩:=nm (z.1);obtain⟨qz,hqz⟩:=nm (z.2.1.1);obtain⟨cz,hcz⟩:=nm (z.2.1.2);have hQW:=tkW Q (by rw [hQ,htk];exact Km hzm);have hQn:=hQW.n;have rZ:=rPe z hzm;rw [<- hQ,<- hqz] at rZ;rw [<- hQ];have hST:=hbU.trans (hbT.mono sU);refine⟨.slice qz Q.ev.length cz,by rw [hqz,hQ,hcz];exact zb (za fZ) (i:=0) rfl,Nat×Bool,fun s=>⟨[(2,At0 L),(5,.slice q xs.length c),(9,.slice (some ⟨bp,op,none⟩) ys.length c9),(18,.bool may2),(22,At0 N2),(23,.bool s.2),(113,.slice (some ⟨bp,op,none⟩) ys.length c9),(114,i64 ys.length),(115,i64 (j:Nat)),(120,.slice (some ⟨be,oe,none⟩) P.ev.length ce),(121,i64 P.ev.length),(122,i64 (k:Nat)),(138,.slice (some ⟨bp,op,none⟩) ys.length c9),(139,i64 ys.length),(140,i64 (j2:Nat)),(145,.slice qz Q.ev.length cz),(146,i64 Q.ev.length),(147,i64 (s.1:Nat))],[]⟩,fun s X=>s.1<=Q.ev.length/\s.2=(s2||(Q.ev.take s.1).any (wxB e))/\X.heap[N2]?=some (.cells (evE.enc e).toArray 60 (0,0))/\Bw S X,fun s=>Q.ev.length-s.1,(0,s2),(cvE rfl rfl),⟨UZ _,by rw [Up];show s2=(s2||false);rw [Ux],zc hbT fE,hST⟩,?_⟩;clear hST fZ sT hbT T;clear fE hbU sU U;rintro⟨k2,s3⟩ U ⟨hk2,hs3,fE,hbU⟩;dsimp only at hk2 hs3 ⊢;refine biE (fun hc=>?_) fun hc=>?_
      ·have hc:(k2:Int)<(Q.ev.length:Int):=dT hc;have hk2l:k2<Q.ev.length:=(by omega);obtain⟨bz,oz,hqz2,hbz,hatz⟩:=rZ.at hk2l;subst hqz2;obtain⟨x,hx⟩:∃ x,Q.ev[k2]=x:=⟨_,rfl⟩;have sU:=hbU.size;refine⟨Bool,fun s=>⟨[(2,At0 L),(5,.slice q xs.length c),(9,.slice (some ⟨bp,op,none⟩) ys.length c9),(18,.bool may2),(22,At0 N2),(23,.bool s),(113,.slice (some ⟨bp,op,none⟩) ys.length c9),(114,i64 ys.length),(115,i64 (j:Nat)),(120,.slice (some ⟨be,oe,none⟩) P.ev.length ce),(121,i64 P.ev.length),(122,i64 (k:Nat)),(138,.slice (some ⟨bp,op,none⟩) ys.length c9),(139,i64 ys.length),(140,i64 (j2:Nat)),(145,.slice (some ⟨bz,oz,none⟩) Q.ev.length cz),(146,i64 Q.ev.length),(147,i64 (k2:Nat))],[]⟩,fun s X=>s=(s3||wxB e x)/\X.heap[N2]?=some (.cells (evE.enc e).toArray 60 (0,0))/\Bw S X,?_,?_⟩
       rotate_left
       ·rintro s X ⟨hs,fX,hbX⟩;exact nxI (by omega) ⟨(k2+1,s),(cvE rfl rfl),⟨hk2l,by show s=(s2||(Q.ev.take (k2+1)).any (wxB e));rw [hs,zfY hk2l,hx,hs3,Bool.or_assoc],fX,hbX⟩,zdc (by omega)⟩
       refine⟨k2,rfl,hk2l,evE.enc x,rfl,by rw [<- hx];exact zm hbU (hatz k2 hk2l),nL hbz sU,zn (X:=U) (v := .agg (evE.enc x).toArray) k60 rfl rfl (Qk.2 fun u hu=>evE.one _ u hu) fun T hbT fX sT=>?_⟩;have hST:=hbU.trans (hbT.mono sU);have fET:=zc hbT fE;refine biE (fun h=>?_) fun h=>?_
       ·have h:s3=true:=h;exact⟨true,(cvE rfl rfl),by rw [h];rfl,fET,hST⟩
       ·have h:s3=false:=h;refine⟨_,zb (za fX) (i:=1) rfl,biE (fun h1=>?_) fun h1=>?_⟩
        ·have h1:x.k=2:=dT ((zat (x:=x.k) (y:=2)).symm.trans h1);refine⟨_,zb (za fX) (i:=2) rfl,_,zb (za fET) (i:=2) rfl,biE (fun h2=>?_) fun h2=>?_⟩
         ·have h2:x.l=e.l:=dT ((zat (x:=x.l) (y:=e.l)).symm.trans h2);exact⟨_,zb (za fX) (i:=3) rfl,_,zb (za fET) (i:=3) rfl,_,(cvE rfl rfl),by unfold wxB;rw [h,h1,h2,Us rfl,Us rfl,Uv,Uy,Uy];exact zat,fET,hST⟩
         ·have h2:¬ x.l=e.l:=dF ((zat (x:=x.l) (y:=e.l)).symm.trans h2);exact⟨false,(cvE rfl rfl),by unfold wxB;rw [h,Uh h2];simp,fET,hST⟩
        ·have h1:¬ x.k=2:=dF ((zat (x:=x.k) (y:=2)).symm.trans h1);exact brF ⟨false,(cvE rfl rfl),by unfold wxB;rw [h,Uh h1];rfl,fET,hST⟩
      ·have hc:¬ (k2:Int)<(Q.ev.length:Int):=dF hc;obtain rfl:k2=Q.ev.length:=(by omega);rw [Qx] at hs3;exact⟨s3,(cvE rfl rfl),hs3,fE,hbU⟩
     ·have hc:¬ (j2:Int)<(ys.length:Int):=dF hc;obtain rfl:j2=ys.length:=(by omega);rw [<- htkl,Qx] at hs2;exact⟨s2,(cvE rfl rfl),hs2,hbU⟩
    clear fE hbU U;rintro s U ⟨hs,hbU⟩;have hfin:s=zbU p.init tk e:=(by rw [hs,hsrc,hs0]);refine biE (fun h=>?_) fun h=>?_
    ·have h:may2=true:=h;exact⟨s,(cvE rfl rfl),by rw [h,hfin];rfl,hbU⟩
    ·have h:may2=false:=h;exact⟨false,(cvE rfl rfl),by rw [h];rfl,hbU⟩
   ·have hc:¬ (k:Int)<(P.ev.length:Int):=dF hc;obtain rfl:k=P.ev.length:=(by omega);rw [Qx] at hmay2;exact⟨may2,(cvE rfl rfl),by rw [hj1];exact hmay2,hbT⟩
  ·have hc:¬ (j:Int)<(ys.length:Int):=dF hc;obtain rfl:j=ys.length:=by omega
   rw [<- htkl,Qx] at hmay;exact⟨may,(cvE rfl rfl),hmay,hbW⟩
 rintro may S2 ⟨hmay,hbS2⟩;have sS2:=hbS2.size;refine⟨Bool,fun met=>⟨[(18,.bool may),(28,.bool met)],[]⟩,fun met X=>met=((xs.map (·.1)).any (isB tk))/\Bw S X,?_,?_⟩
 ·refine⟨Nat×Bool,fun s=>⟨[(9,.slice q9 ys.length c9),(18,.bool may),(28,.bool s.2),(179,.slice q xs.length c),(180,i64 xs.length),(181,i64 (s.1:Nat))],[]⟩,fun s X=>s.1<=xs.length/\s.2=((xs.take s.1).any fun x=>isB tk x.1)/\Bw S X,fun s=>xs.length-s.1,(0,false),(cvE rfl rfl),⟨UZ _,by rw [Up];rfl,hbS2⟩,?_⟩;clear hbS2 sS2 S2;rintro⟨i,met⟩ W ⟨hi,hmet,hbW⟩;dsimp only at hi hmet ⊢;have hxl:xs.length<=9223372036854775807:=by
   rcases oX.inv with ⟨_,h2,h⟩ | ⟨_,_,_,_,_,h,h2,_⟩
   ·rw [h];exact UZ _
   ·unfold maxLen at h2;omega
  refine biE (fun hc=>?_) fun hc=>?_
  ·have hc:(i:Int)<(xs.length:Int):=dT hc;have hil:i<xs.length:=by omega
   obtain⟨b,o,rfl,hlb,hat⟩:=oX.row.at hil;obtain⟨x,hx⟩:∃ x,xs[i]=x:=⟨_,rfl⟩;have hxm:x∈xs:=by rw [<- hx];exact gM hil
   have hxc:x.1∈qg p V:=by rw [<- hxs];exact Km hxm
   have hev:=(oE x hxm).row;have hx48:=(zld hO hco (by decide) hxc).n;have sW:=hbW.size;have hYW:=zst hbS hbW;refine⟨Bool,fun m=>⟨[(9,.slice q9 ys.length c9),(18,.bool may),(28,.bool m),(179,.slice (some ⟨b,o,none⟩) xs.length c),(180,i64 xs.length),(181,i64 (i:Nat))],[]⟩,fun m X=>m=(met||isB tk x.1)/\Bw S X,?_,?_⟩
   rotate_left
   ·rintro m X ⟨hm,hbX⟩;exact nxI (by omega) ⟨(i+1,m),(cvE rfl rfl),⟨hil,by show m=((xs.take (i+1)).any fun x=>isB tk x.1);rw [hm,zfY hil,hx,hmet],hbX⟩,zdc (by omega)⟩
   refine⟨i,rfl,hil,exC x.1 x.2.1 x.2.2,zH _ _ _,by rw [<- hx];exact zm hYW (hat i hil),nL hlb hYW.size,zn (X:=W) (v := .agg (exC x.1 x.2.1 x.2.2).toArray) k55 (zH _ _ _) z4 (zbg _ _ _) fun U hbU fM0 sU=>?_⟩;have hSU:=hbW.trans (hbU.mono sW);obtain⟨M,hM⟩:=nm (W.heap.size);have fM:ExH U M x.1 x.2.1 x.2.2:=by rw [hM];exact fM0
   rw [<- hM];clear fM0 hM hbU sU hbW sW hYW W hmet;obtain⟨xe,qx,cx⟩:=x;dsimp only at fM hev hx48 ⊢;refine⟨Bool,fun s=>⟨[(9,.slice q9 ys.length c9),(18,.bool may),(28,.bool met),(31,.bool s),(179,.slice (some ⟨b,o,none⟩) xs.length c),(180,i64 xs.length),(181,i64 (i:Nat))],[]⟩,fun s X=>s=isB tk xe/\Bw S X,?_,?_⟩
   ·refine⟨Nat×Bool,fun s=>⟨[(9,.slice q9 ys.length c9),(18,.bool may),(28,.bool met),(30,At0 M),(31,.bool s.2),(179,.slice (some ⟨b,o,none⟩) xs.length c),(180,i64 xs.length),(181,i64 (i:Nat)),(185,.slice q9 ys.length c9),(186,i64 ys.length),(187,i64 (s.1:Nat))],[]⟩,fun s X=>s.1<=ys.length/\s.2=((List.range s.1).all (pB tk xe))/\ExH X M xe qx cx/\Bw S X,fun s=>ys.length-s.1,(0,true),(cvE rfl rfl),⟨UZ _,rfl,fM,hSU⟩,?_⟩;clear fM hSU U;rintro⟨t,s⟩ U ⟨ht,hs,fM,hbU⟩;dsimp only at ht hs ⊢;refine biE (fun hc=>?_) fun hc=>?_
    ·have hc:(t:Int)<(ys.length:Int):=dT hc;have htl2:t<ys.length:=(by omega);obtain⟨bp,op,rfl,hbp,hatp⟩:=rP.at htl2;obtain⟨y,hy⟩:∃ y,ys[t]=y:=⟨_,rfl⟩;have hym:y∈ys:=(by rw [<- hy];exact gM htl2);have sU:=hbU.size;have htk2:tk[t]?=some y.1:=(by rw [<- hy,<- tk_at t htl2];exact gE (by omega));have hpb:pB tk xe t=(znW xe y.1 t&&decide (jv t xe.ev=y.1.ev)):=(by unfold pB;rw [htk2]);have hPW:=tkW y.1 (JZ htk2);have hPn:=hPW.n;have rE:=rPe y hym;refine⟨Bool,fun m=>⟨[(9,.slice (some ⟨bp,op,none⟩) ys.length c9),(18,.bool may),(28,.bool met),(30,At0 M),(31,.bool m),(179,.slice (some ⟨b,o,none⟩) xs.length c),(180,i64 xs.length),(181,i64 (i:Nat)),(185,.slice (some ⟨bp,op,none⟩) ys.length c9),(186,i64 ys.length),(187,i64 (t:Nat))],[]⟩,fun m X=>m=(s&&pB tk xe t)/\ExH X M xe qx cx/\Bw S X,?_,?_⟩
     rotate_left
     ·rintro m X ⟨hm,fX,hbX⟩;exact⟨((t+1:Nat):Int),(ze (by have:=hyl;omega)).trans (by omega),(t+1,m),(cvE rfl rfl),⟨htl2,by show m=((List.range (t+1)).all (pB tk xe));rw [hm,QW,QJ,hs];simp,fX,hbX⟩,zdc (by omega)⟩
     refine⟨t,rfl,htl2,z6.enc y,z6.len y,by rw [<- hy];exact zm hbU (hatp t htl2),nL hbp sU,zn (X:=U) (v := .agg (z6.enc y).toArray) k73 (z6.len y) rfl (Qk.2 fun u hu=>z6.one _ u hu) fun T hbT fN0 sT=>?_⟩;have hST:=hbU.trans (hbT.mono sU);have fMT:=zc hbT fM;obtain⟨N,hN⟩:=nm (U.heap.size);have fN:T.heap[N]?=some (.cells (z6.enc y).toArray 73 (0,0)):=(by rw [hN];exact fN0);rw [<- hN];clear fN0 hN hbT sT fM hbU sU U;refine⟨Bool,fun m=>⟨[(9,.slice (some ⟨bp,op,none⟩) ys.length c9),(18,.bool may),(28,.bool met),(30,At0 M),(31,.bool m),(32,i64 (t:Nat)),(33,At0 N),(179,.slice (some ⟨b,o,none⟩) xs.length c),(180,i64 xs.length),(181,i64 (i:Nat)),(185,.slice (some ⟨bp,op,none⟩) ys.length c9),(186,i64 ys.length),(187,i64 (t:Nat))],[]⟩,fun m X=>m=(s&&znW xe y.1 t)/\ExH X M xe qx cx/\X.heap[N]?=some (.cells (z6.enc y).toArray 73 (0,0))/\Bw S X,?_,?_⟩
     ·refine DrawE.ord [] [0,1,2,3,4,5,6,7,8,9,10,11] (by kernel_rfl) (biE (fun h=>?_) fun h=>?_)
      ·have h:s=true:=h;refine⟨t,rfl,by have:=hyl;omega,?_⟩;exact⟨seg 8 (fun i=>u8 (xe.regs (8*t+i))),zo _ _,zoz (hdr fMT) (by have:=hyl;omega),hlt (hdr fMT),seg 8 (fun i=>u8 (y.1.regs i)),zo _ _,zkO (za (hdr fN)),hlt (hdr fN),_,fun w=>zoJ _ _ _ _ w,_,(cvE rfl rfl),by rw [h];rfl,hdr fMT,hdr fN,hST.drew⟩
      ·have h:s=false:=h;exact⟨false,(cvE rfl rfl),by rw [h];rfl,hdr fMT,hdr fN,hST.drew⟩
     clear fMT fN hST T;rintro s1 T ⟨hs1,fM,fN,hbT⟩;refine⟨Bool,fun m=>⟨[(9,.slice (some ⟨bp,op,none⟩) ys.length c9),(18,.bool may),(28,.bool met),(30,At0 M),(31,.bool m),(33,At0 N),(34,i64 (jv t xe.ev).length),(179,.slice (some ⟨b,o,none⟩) xs.length c),(180,i64 xs.length),(181,i64 (i:Nat)),(185,.slice (some ⟨bp,op,none⟩) ys.length c9),(186,i64 ys.length),(187,i64 (t:Nat))],[]⟩,fun m X=>m=(s1&&zfx (jv t xe.ev) y.1.ev)/\ExH X M xe qx cx/\X.heap[N]?=some (.cells (z6.enc y).toArray 73 (0,0))/\Bw S X,?_,?_⟩
     ·refine⟨_,zbf (za fM),Nat×Bool,fun s=>⟨[(9,.slice (some ⟨bp,op,none⟩) ys.length c9),(18,.bool may),(28,.bool met),(30,At0 M),(31,.bool s.2),(32,i64 (t:Nat)),(33,At0 N),(34,i64 (jv t (xe.ev.take s.1)).length),(179,.slice (some ⟨b,o,none⟩) xs.length c),(180,i64 xs.length),(181,i64 (i:Nat)),(185,.slice (some ⟨bp,op,none⟩) ys.length c9),(186,i64 ys.length),(187,i64 (t:Nat)),(204,.slice qx xe.ev.length cx),(205,i64 xe.ev.length),(206,i64 (s.1:Nat))],[]⟩,fun s X=>s.1<=xe.ev.length/\s.2=(s1&&zfx (jv t (xe.ev.take s.1)) y.1.ev)/\ExH X M xe qx cx/\X.heap[N]?=some (.cells (z6.enc y).toArray 73 (0,0))/\Bw S X,fun s=>xe.ev.length-s.1,(0,s1),(cvE rfl rfl),⟨UZ _,by show s1=(s1&&true);rw [Bool.and_true],fM,fN,hbT⟩,?_⟩;clear fM fN hbT T;rintro⟨j,s3⟩ T ⟨hj,hs3,fM,fN,hbT⟩;dsimp only at hj hs3 ⊢;refine biE (fun hc=>?_) fun hc=>?_
      ·have hc:(j:Int)<(xe.ev.length:Int):=dT hc;have hjl:j<xe.ev.length:=(by omega);obtain⟨bx,ox,hqx,hbx,hatx⟩:=hev.at hjl;subst hqx;obtain⟨e,he⟩:∃ e,xe.ev[j]=e:=⟨_,rfl⟩;have hnx:=zn9 t hjl;rw [he] at hnx;have sT:=hbT.size;have hYT:=zst hbS hbT;have hol:=zru t (xe.ev.take j);have htl3:(xe.ev.take j).length=j:=(by rw [Qv];omega);refine⟨Bool,fun m=>⟨[(9,.slice (some ⟨bp,op,none⟩) ys.length c9),(18,.bool may),(28,.bool met),(30,At0 M),(31,.bool m),(32,i64 (t:Nat)),(33,At0 N),(34,i64 (jv t (xe.ev.take (j+1))).length),(179,.slice (some ⟨b,o,none⟩) xs.length c),(180,i64 xs.length),(181,i64 (i:Nat)),(185,.slice (some ⟨bp,op,none⟩) ys.length c9),(186,i64 ys.length),(187,i64 (t:Nat)),(204,.slice (some ⟨bx,ox,none⟩) xe.ev.length cx),(205,i64 xe.ev.length),(206,i64 (j:Nat))],[]⟩,fun m X=>m=(s1&&zfx (jv t (xe.ev.take (j+1))) y.1.ev)/\ExH X M xe (some ⟨bx,ox,none⟩) cx/\X.heap[N]?=some (.cells (z6.enc y).toArray 73 (0,0))/\Bw S X,?_,?_⟩
       rotate_left
       ·rintro m X ⟨hm,fX1,fX2,hbX⟩;exact nxI (by omega) ⟨(j+1,m),(cvE rfl rfl),⟨hjl,hm,fX1,fX2,hbX⟩,zdc (by omega)⟩
       refine⟨j,rfl,hjl,evE.enc e,rfl,by rw [<- he];exact zm hYT (hatx j hjl),nL hbx hYT.size,zn (X:=T) (v := .agg (evE.enc e).toArray) k60 rfl rfl (Qk.2 fun u hu=>evE.one _ u hu) fun U hbU fE0 sU=>?_⟩;have hSU:=hbT.trans (hbU.mono sT);have fMU:=zc hbU fM;have fNU:=zc hbU fN;obtain⟨K,hK⟩:=nm (T.heap.size);have fE:U.heap[K]?=some (.cells (evE.enc e).toArray 60 (0,0)):=(by rw [hK];exact fE0);have hKS:S.heap.size<=K:=(by omega);have hMK:M≠K:=fun e2=>by have:=hlt fM;omega
       have hNK:N≠K:=fun e2=>by have:=hlt fN;omega
       rw [<- hK];clear fE0 hK hbU sU fM fN hbT hYT sT T;refine⟨Unit,fun _=>⟨[(9,.slice (some ⟨bp,op,none⟩) ys.length c9),(18,.bool may),(28,.bool met),(30,At0 M),(31,.bool s3),(32,i64 (t:Nat)),(33,At0 N),(34,i64 (jv t (xe.ev.take j)).length),(36,At0 K),(179,.slice (some ⟨b,o,none⟩) xs.length c),(180,i64 xs.length),(181,i64 (i:Nat)),(185,.slice (some ⟨bp,op,none⟩) ys.length c9),(186,i64 ys.length),(187,i64 (t:Nat)),(204,.slice (some ⟨bx,ox,none⟩) xe.ev.length cx),(205,i64 xe.ev.length),(206,i64 (j:Nat))],[]⟩,fun _ X=>X=U/\e.th=(t:Int),?_,?_⟩
       ·refine⟨_,zb (za fE) (i:=0) rfl,biE (fun h=>?_) fun h=>?_⟩
        ·have h:¬ e.th=(t:Int):=dF (zpO h);rw [Gn h,QK] at hnx;exact⟨s3,⟨.cons rfl (.cons rfl (.cons rfl (.cons rfl (.cons rfl (.cons rfl (.cons rfl (.cons (by rw [hnx];rfl) (.cons rfl (.cons rfl (.cons rfl (.cons rfl (.cons rfl (.cons rfl (.cons rfl (.cons rfl (.cons rfl .nil)))))))))))))))),rfl⟩,by rw [hnx];exact hs3,fMU,fNU,hSU⟩
        ·exact⟨(),(cvE rfl rfl),rfl,dT (zpN h)⟩
       rintro _ _ ⟨rfl,hth2⟩;rename_i U;rw [Gp hth2] at hnx;refine zj (cs:=evE.enc e) k3 fE (o:=0+0) (v:=i64 0) rfl rfl (by show 0<7;decide) rfl fun Z fZ0 gZ sZ=>?_;have fZ:Z.heap[K]?=some (.cells (evE.enc { e with th:=0 }).toArray 60 (0,0)):=fZ0;have hSZ:=hSU.trans (zh gZ hSU.size hKS);have fMZ:=(gZ.block M (hlt fMU) (fun e2=>by simp only [Qa] at e2;exact hMK e2)).trans fMU;have fNZ:=(gZ.block N (hlt fNU) (fun e2=>by simp only [Qa] at e2;exact hNK e2)).trans fNU;clear fZ0 fE fMU fNU hSU gZ sZ U;refine⟨Bool,fun m=>⟨[(9,.slice (some ⟨bp,op,none⟩) ys.length c9),(18,.bool may),(28,.bool met),(30,At0 M),(31,.bool m),(32,i64 (t:Nat)),(33,At0 N),(34,i64 (jv t (xe.ev.take j)).length),(179,.slice (some ⟨b,o,none⟩) xs.length c),(180,i64 xs.length),(181,i64 (i:Nat)),(185,.slice (some ⟨bp,op,none⟩) ys.length c9),(186,i64 ys.length),(187,i64 (t:Nat)),(204,.slice (some ⟨bx,ox,none⟩) xe.ev.length cx),(205,i64 xe.ev.length),(206,i64 (j:Nat))],[]⟩,fun m X=>m=(s1&&zfx (jv t (xe.ev.take (j+1))) y.1.ev)/\ExH X M xe (some ⟨bx,ox,none⟩) cx/\X.heap[N]?=some (.cells (z6.enc y).toArray 73 (0,0))/\Bw S X,?_,?_⟩
       ·have fZd:=hdr fZ;have hSd:=hSZ.drew;refine DrawE.ord [] [0,1,2,3,4,5,6,7,8,9,10,11,12,13,14,15,16,17] (by kernel_rfl) (biE (fun h=>?_) fun h=>?_)
        ·have h:s3=true:=h;rw [h] at hs3;have ldE:Z.drew.cell? ⟨N,0+0,none⟩=some (.slice y.2.1.1 y.1.ev.length y.2.1.2):=zb (za (hdr fNZ)) (i:=0) rfl;refine⟨_,ldE,biE (fun h2=>?_) fun h2=>?_⟩
         ·have h2:(((jv t (xe.ev.take j)).length:Nat):Int)<((y.1.ev.length:Nat):Int):=dT h2;have h2:(jv t (xe.ev.take j)).length<y.1.ev.length:=(by omega);obtain⟨be,oe,hqe,hbe,hate⟩:=rE.at h2;refine⟨evE.enc { e with th:=0 },rfl,za fZd,hlt fZd,?_⟩;rw [hqe] at ldE;exact⟨_,ldE,(jv t (xe.ev.take j)).length,rfl,h2,evE.enc y.1.ev[(jv t (xe.ev.take j)).length],rfl,zm hSd (hate _ h2),nL hbe hSd.size,_,fun w=>zrI _ _ _ _ w,_,(cvE rfl rfl),by rw [hnx,zhz h2,<- Bool.and_assoc,<- hs3,Uy],hdr fMZ,hdr fNZ,hSd⟩
         ·have h2:¬ (((jv t (xe.ev.take j)).length:Nat):Int)<((y.1.ev.length:Nat):Int):=dF h2;exact⟨false,(cvE rfl rfl),by rw [hnx,zhA (by omega),Ui],hdr fMZ,hdr fNZ,hSd⟩
        ·have h:s3=false:=h;rw [h] at hs3;refine brF ?_;have hfl:(s1&&zfx (jv t (xe.ev.take (j+1))) y.1.ev)=false:=by
          rw [hnx];by_cases h2:(jv t (xe.ev.take j)).length<y.1.ev.length
          ·rw [zhz h2,<- Bool.and_assoc,<- hs3,Uj]
          ·rw [zhA h2,Ui]
         exact⟨false,(cvE rfl rfl),hfl.symm,hdr fMZ,hdr fNZ,hSd⟩
       clear fZ fMZ fNZ hSZ Z;rintro m X ⟨hm,fX1,fX2,hbX⟩;have hln:(jv t (xe.ev.take (j+1))).length=(jv t (xe.ev.take j)).length+1:=(by rw [hnx,lap];rfl);exact⟨(((jv t (xe.ev.take (j+1))).length:Nat):Int),(ze (by omega)).trans (by omega),m,(cvE rfl rfl),hm,fX1,fX2,hbX⟩
      ·have hc:¬ (j:Int)<(xe.ev.length:Int):=dF hc;obtain rfl:j=xe.ev.length:=(by omega);rw [Qx] at hs3;exact⟨s3,⟨.cons rfl (.cons rfl (.cons rfl (.cons rfl (.cons rfl (.cons rfl (.cons (by rw [Qx];rfl) (.cons rfl (.cons rfl (.cons rfl (.cons rfl (.cons rfl (.cons rfl .nil)))))))))))),rfl⟩,hs3,fM,fN,hbT⟩
     clear fM fN hbT T;rintro s2 T ⟨hs2,fM,fN,hbT⟩;have hfin:(s&&pB tk xe t)=(s2&&decide ((jv t xe.ev).length=y.1.ev.length)):=by
      rw [hs2,hs1,hpb,<- zn4 (a:=jv t xe.ev)];simp only [Bool.and_assoc]
     refine biE (fun h=>?_) fun h=>?_
     ·have h:s2=true:=h;exact⟨.slice y.2.1.1 y.1.ev.length y.2.1.2,zb (za fN) (i:=0) rfl,_,(cvE rfl rfl),by rw [hfin,h,Uy];exact QG.2 (by omega),fM,hbT⟩
     ·have h:s2=false:=h;exact⟨false,(cvE rfl rfl),by rw [hfin,h];rfl,fM,hbT⟩
    ·have hc:¬ (t:Int)<(ys.length:Int):=dF hc;obtain rfl:t=ys.length:=(by omega);exact⟨s,(cvE rfl rfl),by rw [hs,<- htkl];rfl,hbU⟩
   rintro s U2 ⟨hs,hbU2⟩;refine biE (fun h=>?_) fun h=>?_
   ·have h:met=true:=h;exact⟨true,(cvE rfl rfl),by rw [h];rfl,hbU2⟩
   ·have h:met=false:=h;exact⟨s,(cvE rfl rfl),by rw [h,hs];rfl,hbU2⟩
  ·have hc:¬ (i:Int)<(xs.length:Int):=dF hc;obtain rfl:i=xs.length:=by omega
   rw [Qx] at hmet;exact⟨met,(cvE rfl rfl),by rw [hmet,List.any_map];rfl,hbW⟩
 rintro met W ⟨hmet,hbW⟩;have hwW:=hwS.trans (hbW.mono sS);have hmm2:met=may:=by
  rw [hmet,hmay,hxs,Bool.eq_iff_iff,<- hmm,Ql];exact⟨fun ⟨x,h1,h2⟩=>⟨x,h1,zlU.1 h2⟩,fun ⟨x,h1,h2⟩=>⟨x,h1,zlU.2 h2⟩⟩
 refine⟨_,fun w=>zm2 _ _ met may w,brE (Us hmm2) (cmo znk ?_)⟩;rintro e Z ⟨rfl,hbZ⟩;refine brT (cmo (aw Z ((zst hwW hbZ))) ?_);rintro e U ⟨rfl,hbU⟩;exact⟨rfl,hbU⟩
end
end Go.Proofs.YtpalcnbhkigagaaGreatDoor
namespace Go.Proofs.YtpalcnbhkigagaaGreatDoor
open Go.Vc Go.RowKit Go.Sei
open Go.ChangeShapes Go.WideShapes Go.ChangeAt
section
variable {H:Type} {enc:TypeId×Value->H} {P:Program} {w:Wd} {base:Nat} {spare:Nat->Bool} {held:Bool} {fuel:Nat} {t:TypeId} {cs:List Value} {x:DataW H×List MemPlace}
theorem ziy (ht:P.underlying t=some (.int .u8)) (h:DataW.trod enc P w base spare held fuel t cs=some x):∃ b:UInt8,cs=[u8 b]/\x.1 = .lit (.int .u8 b.toNat):=by
 obtain⟨n,rfl,rfl,hw⟩:=DataW.trod_int ht h;have hb:=bounds_u8 hw;have e:((UInt8.ofNat n.toNat).toNat:Int)=n:=by
  rw [KI];omega
 exact⟨UInt8.ofNat n.toNat,by rw [u8,e],by rw [e]⟩
theorem zgq {n:Nat} {e:TypeId} (ht:P.underlying t=some (.array n e)) (he:P.underlying e=some (.int .u8)) (hc:P.cellsOf e=1) (hn:P.cellsOf t=n)
  (h:DataW.trod enc P w base spare held fuel t cs=some x):∃ bs:List UInt8,bs.length=n/\cs=bs.map u8/\x.1 = .agg (bs.map fun b => .lit (.int .u8 b.toNat)):=by
 obtain⟨xs,m,rfl,rfl,hl,hx,hel⟩:=DataW.trod_array ht h;rw [hn] at hl;have each:∀ i (h:i<n),∃ b:UInt8,cs[i]?=some (u8 b)/\xs[i]?.map (·.1)=some (.lit (.int .u8 b.toNat)):=fun i hi=>by
  have h1:=hel i hi;rw [hc,gE (by omega)] at h1;obtain⟨b,h2,h3⟩:=ziy he h1;refine⟨b,?_,by rw [gE (by omega),Ue,h3]⟩;have:((cs.drop (i*1)).take 1)[0]?=some (u8 b):=by rw [h2];rfl
  simpa using this
 have:∀ k,k<=n->∃ bs:List UInt8,bs.length=k/\cs.take k=bs.map u8/\(xs.take k).map (·.1)=bs.map fun b => .lit (.int .u8 b.toNat):=by
  intro k
  induction k with
  | zero=>exact fun _=>⟨[],rfl,by simp,by simp⟩
  | succ k ih =>
   intro hk;obtain⟨bs,h1,h2,h3⟩:=ih (by omega);obtain⟨b,h4,h5⟩:=each k (by omega);have hk1:k<cs.length:=by omega
   have hk2:k<xs.length:=by omega
   rw [gE hk1] at h4;rw [gE hk2] at h5;refine⟨bs++[b],by simp [h1],?_,?_⟩
   ·rw [tsg hk1,h2,Uf h4];simp
   ·rw [tsg hk2,QR,h3];simp at h5;simp [h5]
 obtain⟨bs,h1,h2,h3⟩:=this n (UW _);rw [JH (by omega)] at h2 h3;exact⟨bs,h1,h2,by rw [<- h3]⟩
end
theorem zaD:Tryz.prog.cellsOf 5=1:=by kernel_rfl
theorem zrX:Tryz.prog.cellsOf 4=1:=by kernel_rfl
theorem zg0 (b o i:Nat):(⟨b,o,none⟩:Addr).add i=⟨b,o+i,none⟩:=by
 unfold Addr.add;by_cases h:i=0
 ·simp [h]
 ·simp [h]
section
variable {w:Wd} {base:Nat} {cs:List Value}
theorem zeB {a:Addr} {n:Nat} (hn:0<n) (h:w.cells? base a n=some cs):a.spot=none/\a.block<w.heap.size/\zu w ⟨a.block,a.off,none⟩ cs:=by
 obtain⟨_,hl,hc⟩:=World.cells?_some h;have h0:=hc 0 hn;rw [gE (by omega)] at h0;have hs:a.spot=none:=by simpa [Addr.add] using World.cell?_spot h0
 obtain⟨b,o,s⟩:=a;dsimp only at hs;subst hs;refine⟨rfl,JA _ _ h0,zab fun i v hv=>?_⟩;have hi:i<n:=by have:=(Js.1 hv).1;omega
 have:=(hc i hi).trans hv;rw [zg0] at this;exact this
end
theorem zob {P:Program} {w:Wd} {r:Reach} {base:Nat} {t e:TypeId} {v:Value} (ht:P.underlying t=some (.slice e)) (h:Value.okWide P w r base t v) :
  ∃ a len cap,v = .slice a len cap/\len<=cap/\(a=none->cap=0):=by
 simp only [Value.okWide,ht,Cell.okWide] at h
 cases v with
 | slice a len cap =>
  cases a with
  | none =>
   refine⟨none,len,cap,rfl,?_⟩;unfold Cell.ok at h;rw [ht] at h
   split at h <;> simp_all
  | some a =>
   refine⟨some a,len,cap,rfl,?_,fun h=>by cases h⟩;unfold Cell.ok at h;rw [ht] at h
   split at h <;> simp_all
 | _=>simp_all [Cell.ok]
theorem znM:ownKnob Tryz.prog.godebug=none:=by kernel_rfl
theorem zd4:laidOutB PG=true:=by kernel_rfl
section
variable {H:Type} {enc:TypeId×Value->H} {P:Program} {w:Wd} {base:Nat} {spare:Nat->Bool} {held:Bool} {fuel:Nat} {t e:TypeId} {cs:List Value} {x:DataW H×List MemPlace}
def Opens (enc:TypeId×Value->H) (P:Program) (w:Wd) (base:Nat) (spare:Nat->Bool) (held:Bool) (t:TypeId) (R:List Value->Prop):Prop :=
 ∀ fuel cs x,DataW.trod enc P w base spare held fuel t cs=some x->R cs
theorem Opens.field {fs:Array Field} {R:List Value->Prop} {i:Nat} {f:Field} {n:Nat} {xs:List (DataW H×List MemPlace)} {m:Nat} (hel:∀ (i:Nat) (f:Field),fs[i]?=some f->DataW.trod enc P w base spare held m f.type ((cs.drop f.offset).take (P.cellsOf f.type))=xs[i]?)
  (hl:xs.length=fs.size) (hi:fs[i]?=some f) {o:Nat} (hoo:f.offset=o) (hn:P.cellsOf f.type=n) (ho:Opens enc P w base spare held f.type R):R ((cs.drop o).take n):=by
 subst hoo;have h1:=hel i f hi;have:i<fs.size:=(Jl.1 hi).1;rw [gE (by omega),hn] at h1;exact ho _ _ _ h1
theorem jF (ht:P.underlying t=some (.int .u8)):Opens enc P w base spare held t fun cs=>∃ b:UInt8,cs=[u8 b]:=fun fuel cs x h=>by
 obtain⟨b,h,_⟩:=ziy ht h;exact⟨b,h⟩
theorem zkQ (ht:P.underlying t=some .bool):Opens enc P w base spare held t fun cs=>∃ b:Bool,cs=[.bool b]:=fun fuel cs x h=>by
 obtain⟨b,h,_⟩:=DataW.trod_bool ht h;exact⟨b,h⟩
theorem zpU {β:Type} {n:Nat} (i0:β) {Q:Nat->β->Prop} (h:∀ i,i<n->∃ b,Q i b):∃ bs:List β,bs.length=n/\∀ i (hi:i<bs.length),Q i bs[i]:=by
 have h2:∀ i,∃ b,i<n->Q i b:=fun i=>by
  by_cases hi:i<n
  ·obtain⟨b,hb⟩:=h i hi;exact⟨b,fun _=>hb⟩
  ·exact⟨i0,fun h=>Gq h hi⟩
 obtain⟨g,hg⟩:=Classical.axiomOfChoice h2;refine⟨(List.range n).map g,by simp,fun i hi=>?_⟩;simp only [Qr,Kz];exact hg i (by simpa using hi)
theorem cut (cs:List Value) (o n o':Nat) (h:o+n=o'):cs.drop o=(cs.drop o).take n++cs.drop o':=by
 rw [<- h,<- Uk,JQ]
end
theorem cC (t n:Nat) (h:Tryz.prog.cellsOf t=n):Tryz.prog.cellsOf t=n:=h
theorem zd8 {H:Type} {enc:TypeId×Value->H} {a:Assume} {C:Checked} {os:Os} {f:FuncId} {fn:Func} {s:ChangeSpec} {conds:List PathCond} {apart fresh handsOn again:Bool} {X:Wd->Array Value->Prop}
  (hX:∀ (w w':Wd) (args:Array Value),w.heap=w'.heap->X w args->X w' args)
  (own:ownKnob C.prog.godebug=none) (started:os.Started) (noInit:C.prog.inits.idxOf? f=none) (hfn:C.prog.funcs[f]?=some fn)
  (witness:∃ (w:Wd) (tape:Tape) (i:Input),w.os=os/\(w.forCall tape i).Shaped C.prog/\i.vars=[]/\Input.okWide C.prog (w.forCall tape i) .any w.heap.size f i /\
   ((s.pre enc C.prog fn conds apart (w.forCall tape i).memory i.args/\X (w.forCall tape i).memory i.args)/\sizedMet enc C.prog fn (OpenSpec.ofChange s) apart (w.forCall tape i).memory i.args)/\a.holds C.prog (lone (Frame.enter C.prog f i.args .normal) [] (w.forCall tape i)))
  (contract:∀ (W:Wd) (base:Nat) (args:Array Value) (ds gs:List (DataW H)) (before:List MemPlace),
   (∀ (j:Nat) t v,fn.params[j]?=some t->args[j]?=some v->Value.okWide C.prog W .any base t v) ->
   DataW.Whole enc C.prog fn.params.toList s.vars apart W args.toList ds gs before->X W args->W.ShapedOpen C.prog ->
   (∃ ds gs before,DataW.Whole enc C.prog fn.params.toList (OpenSpec.ofChange s).vars apart W args.toList ds gs before/\∀ n∈DataW.weightsEach C.prog (fn.params.toList++(OpenSpec.ofChange s).bare.plain.varTypes C.prog) (ds++gs),n<=reachBytes) ->
   Calls C.prog f args W fun e W'=>∃ v,e = .returned v/\s.post enc C.prog fn apart fresh handsOn again W args v W') :
  ReturnsInHanded a C os f .any (fun w args=>(s.pre enc C.prog fn conds apart w args/\X w args)/\sizedMet enc C.prog fn (OpenSpec.ofChange s) apart w args) (s.post enc C.prog fn apart fresh handsOn again):=by
 refine returnsInHanded_of_calls own started noInit witness ?_;intro w tape i _ hsh _ hok hpre hholds;obtain⟨_,_,_,fn',hfn',_,_,_,_,hval⟩:=hok;have e:fn'=fn:=Uf (hfn'.symm.trans hfn);subst e;obtain⟨⟨⟨ds,gs,before,hw,hc⟩,hx⟩,hz⟩:=hpre;have hw':=DataW.Whole.of_heap (w':=w.forCall tape i) (by rfl) hw;obtain⟨_,ds2,gs2,before2,hw2,hall⟩:=hz;refine (contract (w.forCall tape i) w.heap.size i.args ds gs before hval hw' (hX _ _ _ (by rfl) hx) hsh ⟨ds2,gs2,before2,DataW.Whole.of_heap (w':=w.forCall tape i) (by rfl) hw2,fun n hn=>dT (Qk.1 hall n hn)⟩).mono fun e W' ⟨v,he,hp⟩=>?_;subst he;exact ChangeSpec.post_blind hp
section
variable {H:Type} {enc:TypeId×Value->H} {P:Program} {w:Wd} {base:Nat} {spare:Nat->Bool} {held:Bool} {fuel:Nat} {t:TypeId} {cs:List Value} {x:DataW H×List MemPlace}
def Wgt (P:Program) (t:TypeId) (d:DataW H):Prop:=∀ n∈d.weights P t,n<=reachBytes
theorem zpw {ds:List (DataW H)} {e:TypeId} (h:∀ n∈DataW.weightsAll P e ds,n<=reachBytes):∀ d∈ds,Wgt P e d:=by
 induction ds with
 | nil=>intro d hd;cases hd
 | cons a r ih =>
  intro d hd;simp only [DataW.weightsAll,QS] at h;rcases UC.1 hd with rfl | hd
  ·exact fun n hn=>h n (.inl hn)
  ·exact ih (fun n hn=>h n (.inr hn)) d hd
end
theorem zgx {H:Type}:∀ {a b:List UInt8},a.map (fun b=>(DataW.lit (.int .u8 b.toNat):DataW H))=b.map (fun b=>DataW.lit (.int .u8 b.toNat))->a=b
 | [],[],_=>rfl
 | [],_::_,h=>by cases h
 | _::_,[],h=>by cases h
 | x::a,y::b,h=>by
  simp only [UB,QL,DataW.lit.injEq,Lit.int.injEq,true_and] at h;rw [zgx h.2,Ug.1 (by omega:x.toNat=y.toNat)]
section
variable {H:Type} {enc:TypeId×Value->H} {P:Program} {w:Wd} {base:Nat} {spare:Nat->Bool} {held:Bool} {fuel F:Nat} {t e:TypeId} {cs:List Value} {x:DataW H×List MemPlace}
def OpensW (enc:TypeId×Value->H) (P:Program) (w:Wd) (base:Nat) (spare:Nat->Bool) (held:Bool) (F:Nat) (t:TypeId) (R:List Value->Prop):Prop :=
 ∀ n,n<F->∀ cs x,DataW.trod enc P w base spare held n t cs=some x->Wgt P t x.1->R cs
theorem zaO {R:List Value->Prop} (h:Opens enc P w base spare held t R):OpensW enc P w base spare held F t R:=fun n _ cs x h1 _=>h n cs x h1
theorem OpensW.field {fs:Array Field} {R:List Value->Prop} (ht:P.underlying t=some (.struct fs)) (h:DataW.trod enc P w base spare held fuel t cs=some x) (hw:Wgt P t x.1) (hF:fuel<=F) {i:Nat} {f:Field} (hf:fs[i]?=some f) {T o k:Nat} (hT:f.type=T) (hO:f.offset=o) (hk:P.cellsOf T=k)
  (ho:OpensW enc P w base spare held F T R):R ((cs.drop o).take k):=by
 subst hT hO hk;obtain⟨xs,n,rfl,rfl,hl,hx,hel⟩:=KL ht h;have h1:=hel i f hf;have hi:i<xs.length:=by rw [hx];exact (Jl.1 hf).1
 rw [gE hi] at h1;refine ho n (by omega) _ _ h1 fun m hm=>hw m ?_;simp only [DataW.weights,ht];refine DataW.weights_mem_each (j:=i) (t:=f.type) (d:=xs[i].1) ?_ ?_ m hm
 ·rw [KV];have:fs.toList[i]?=some f:=by simpa using hf
  rw [this];rfl
 ·rw [KV,gE hi];rfl
theorem zgo (ht:P.underlying t=some .string):OpensW enc P w base spare held F t fun cs=>∃ s:List UInt8,s.length<=140737488351232/\cs=[qk s]:=fun n _ cs x h hw=>by
 obtain⟨s,rfl,rfl,_⟩:=DataW.trod_string ht h;refine⟨s.data.toList,hw _ (by simp [DataW.weights]),?_⟩;unfold qk bs;rw [Array.toArray_toList]
theorem zcb {β:Type} (i0:β) {f:β->List Value} {Q:β->Prop} {sz:Nat} (hp:0<sz) (ht:P.underlying t=some (.slice e)) (hc:P.cellsOf e=sz) (hb:Nat.ble 1 (P.bytesOf e)=true) (ho:OpensW enc P w base spare held F e fun cs=>∃ b,Q b/\cs=f b) :
  OpensW enc P w base spare held (F+1) t fun cs=>∃ (p:OA) (cap:Nat) (l:List β),cs=[.slice p l.length cap]/\(l.length<=140737488351232/\l.length*P.bytesOf e<=140737488351232)/\l.length<=cap/\(∀ b∈l,Q b)/\∃ b o,(l.length=0\/p=some ⟨b,o,none⟩)/\∀ i (hi:i<l.length),b<w.heap.size/\zu w ⟨b,o+i*sz,none⟩ (f l[i]):=fun n hn cs x h hw=>by
 rcases DataW.trod_slice ht h with ⟨rfl,_⟩ | ⟨a,len,cap,elems,qV,n,rfl,rfl,hx,_,hlc,hcm,hlen,hel,_,_⟩
 ·exact⟨none,0,[],rfl,⟨by simp,by simp⟩,by simp,by simp,0,0,.inl rfl,fun i hi=>by simp at hi⟩
 ·subst hx;have hw':∀ m,m∈((elems.map (·.1)).length+(qV.map (·.1)).length)*P.bytesOf e::(DataW.weightsAll P e (elems.map (·.1))++DataW.weightsAll P e (qV.map (·.1)))->m<=reachBytes:=fun m hm=>by
   refine hw m ?_;simp only [DataW.weights,ht];exact hm
  have hb:=JS hb;have hlb:len<=140737488351232/\len*P.bytesOf e<=140737488351232:=by
   have h1:=hw' _ KA;simp only [QN] at h1;have:elems.length*1<=(elems.length+qV.length)*P.bytesOf e:=Uq (Qz _ _) hb;have h2:elems.length*P.bytesOf e<=(elems.length+qV.length)*P.bytesOf e:=Uq (Qz _ _) (UW _);have hr:reachBytes=140737488351232:=rfl;rw [<- hlen];omega
  have each:∀ i,i<len->∃ m:β,Q m/\(a.add (i*sz)).spot=none/\(a.add (i*sz)).block<w.heap.size/\zu w ⟨(a.add (i*sz)).block,(a.add (i*sz)).off,none⟩ (f m):=fun i hi=>by
   have h1:=hel i hi;rw [hc,gE (by omega),Option.bind_eq_some_iff] at h1;obtain⟨cs,h2,h3⟩:=h1;obtain⟨m,hq,rfl⟩:=ho n (by omega) _ _ h3 (zpw (ds:=elems.map (·.1)) (fun m hm=>hw' m (JY _ (JW _ hm))) _ (Km (gM _)));exact⟨m,hq,zeB hp h2⟩
  obtain⟨l,h1,h2⟩:=zpU i0 each;refine⟨some a,cap,l,by rw [h1],by rw [h1];exact hlb,by omega,fun b hb=>?_,a.block,a.off,?_,fun i hi=>?_⟩
  ·obtain⟨i,hi,rfl⟩:=Kj hb;exact (h2 i hi).1
  ·by_cases h00:l.length=0
   ·exact .inl h00
   ·right;have hsp:a.spot=none:=by
     have:=(h2 0 (by omega)).2.1;simpa [Addr.add] using this
    obtain⟨b,o,s⟩:=a;dsimp only at hsp;subst hsp;rfl
  ·have hsp:a.spot=none:=by
    have:=(h2 0 (by omega)).2.1;simpa [Addr.add] using this
   obtain⟨b,o,s⟩:=a;dsimp only at hsp;subst hsp;have:=(h2 i hi).2.2;rw [zg0] at this;exact this
end
section
variable {H:Type} {enc:TypeId×Value->H} {P:Program} {w:Wd} {base:Nat} {spare:Nat->Bool} {held:Bool} {fuel F:Nat} {t e:TypeId} {cs:List Value} {x:DataW H×List MemPlace}
theorem zeO {α:Type} {E:Enc α} {p:OA} {l:List α} (h:∃ b o,(l.length=0\/p=some ⟨b,o,none⟩)/\∀ i (hi:i<l.length),b<w.heap.size/\zu w ⟨b,o+i*E.sz,none⟩ (E.enc l[i])):RowB E w.heap.size w p l:=by
 obtain⟨b,o,hp,hc⟩:=h;by_cases h0:l=[]
 ·exact .inl h0
 ·have hl0:0<l.length:=List.length_pos_iff.2 h0;rcases hp with hp | rfl
  ·omega
  ·exact RowB.of_slr (.inr ⟨b,o,rfl,(hc 0 hl0).1,fun i hi=>(hc i hi).2⟩)
end
section
variable {H:Type} {enc:TypeId×Value->H} {w:Wd} {base:Nat} {spare:Nat->Bool} {held:Bool} {F:Nat}
theorem zhG:Opens enc PG w base spare held 39 fun cs=>∃ (r:Bool) (n:UInt8),cs=[.bool r,u8 n]:=fun fuel cs x h=>by
 obtain⟨xs,m,rfl,rfl,hl,hx,hel⟩:=KL Tryz.underlying39 h;rw [cC 39 2 (by kernel_rfl)] at hl;obtain⟨b0,e0⟩:=Opens.field (o:=0) (i:=0) hel hx rfl rfl zrX (zkQ Tryz.underlying4);obtain⟨b1,e1⟩:=Opens.field (o:=1) (i:=1) hel hx rfl rfl zaD (jF Tryz.underlying5);refine⟨b0,b1,?_⟩;have h0:cs=cs.drop 0:=rfl;have h9:cs.drop 2=[]:=JC (by omega);rw [h0,cut cs 0 1 1 rfl,cut cs 1 1 2 rfl,e0,e1,h9];rfl
theorem zmR:Opens enc PG w base spare held 41 fun cs=>∃ x:InsD,True/\cs=zG.enc x:=fun fuel cs x h=>by
 obtain⟨xs,m,rfl,rfl,hl,hx,hel⟩:=KL Tryz.underlying41 h;rw [cC 41 10 (by kernel_rfl)] at hl;obtain⟨b0,e0⟩:=Opens.field (o:=0) (i:=0) hel hx rfl rfl zaD (jF Tryz.underlying5);obtain⟨b1,e1⟩:=Opens.field (o:=1) (i:=1) hel hx rfl rfl zaD (jF Tryz.underlying5);obtain⟨b2,e2⟩:=Opens.field (o:=2) (i:=2) hel hx rfl rfl zaD (jF Tryz.underlying5);obtain⟨r3,n3,e3⟩:=Opens.field (o:=3) (i:=3) hel hx rfl rfl (cC 39 2 (by kernel_rfl)) zhG;obtain⟨r4,n4,e4⟩:=Opens.field (o:=5) (i:=4) hel hx rfl rfl (cC 39 2 (by kernel_rfl)) zhG;obtain⟨b5,e5⟩:=Opens.field (o:=7) (i:=5) hel hx rfl rfl zaD (jF Tryz.underlying5);obtain⟨b6,e6⟩:=Opens.field (o:=8) (i:=6) hel hx rfl rfl zaD (jF Tryz.underlying5);obtain⟨b7,e7⟩:=Opens.field (o:=9) (i:=7) hel hx rfl rfl zaD (jF Tryz.underlying5);refine⟨⟨b0,b1,b2,r3,n3,r4,n4,b5,b6,b7⟩,trivial,?_⟩;have h0:cs=cs.drop 0:=rfl;have h9:cs.drop 10=[]:=JC (by omega);rw [h0,cut cs 0 1 1 rfl,cut cs 1 1 2 rfl,cut cs 2 1 3 rfl,cut cs 3 2 5 rfl,cut cs 5 2 7 rfl,cut cs 7 1 8 rfl,cut cs 8 1 9 rfl,cut cs 9 1 10 rfl,e0,e1,e2,e3,e4,e5,e6,e7,h9];rfl
theorem zkR:OpensW enc PG w base spare held F 42 fun cs=>∃ x:zlh,(x.1.length<=140737488351232/\RowB zG w.heap.size w x.2.1 x.1)/\cs=znB.enc x:=fun n hn cs x h hw=>by
 obtain⟨p,cap,l,h1,h2,_,_,h3⟩:=zcb (F:=n) (⟨0,0,0,false,0,false,0,0,0,0⟩:InsD) (f:=zG.enc) (Q:=fun _=>True) (sz:=10) (by decide) Tryz.underlying42 (by kernel_rfl) (by kernel_rfl) (zaO zmR) n (QB n) cs x h hw;exact⟨(l,p,cap),⟨h2.1,zeO h3⟩,h1⟩
theorem zgp:∀ F,OpensW enc PG w base spare held F 27 fun cs=>∃ x:Cnd×OA×Nat,KidsV w.heap.size w x.2.1 x.1.kids/\cs=jO x.1 x.2.1 x.2.2
 | 0=>fun n hn=>Gq hn (Ub _)
 | F+1=>fun n hn cs x h hw=>by
  have ih:=zgp F;have hF:n<=F+1:=by omega
  have hl:cs.length=5:=by
   obtain⟨xs,m,_,_,hl,_,_⟩:=KL Tryz.underlying27 h;rw [cC 27 5 (by kernel_rfl)] at hl;exact hl
  obtain⟨b0,e0⟩:=OpensW.field (F:=F+1) (o:=0) (i:=0) Tryz.underlying27 h hw hF rfl rfl rfl zaD (zaO (jF Tryz.underlying5));obtain⟨b1,e1⟩:=OpensW.field (F:=F+1) (o:=1) (i:=1) Tryz.underlying27 h hw hF rfl rfl rfl zaD (zaO (jF Tryz.underlying5));obtain⟨b2,e2⟩:=OpensW.field (F:=F+1) (o:=2) (i:=2) Tryz.underlying27 h hw hF rfl rfl rfl zaD (zaO (jF Tryz.underlying5));obtain⟨b3,e3⟩:=OpensW.field (F:=F+1) (o:=3) (i:=3) Tryz.underlying27 h hw hF rfl rfl rfl zaD (zaO (jF Tryz.underlying5));obtain⟨p,cap,l,e4,hll,_,hQ,b,o,hp,hc⟩:=OpensW.field (F:=F+1) (o:=4) (i:=4) Tryz.underlying27 h hw hF rfl rfl rfl (cC 25 1 (by kernel_rfl))
   (zcb (F:=F) ((.mk 0 0 0 0 [],none,0):Cnd×OA×Nat) (f:=fun x=>jO x.1 x.2.1 x.2.2) (Q:=fun x=>KidsV w.heap.size w x.2.1 x.1.kids) (sz:=5) (by decide) Tryz.underlying25 (by kernel_rfl) (by kernel_rfl) ih)
  refine⟨(.mk b0 b1 b2 b3 (l.map (·.1)),p,cap),?_,?_⟩
  ·refine .mk p (l.map (·.1)) (by rw [QN];have:=hll.2;rw [show Tryz.prog.bytesOf 27=32 by kernel_rfl] at this;exact this) b o (by rw [QN];exact hp) (fun i=>(l.getD i (.mk 0 0 0 0 [],none,0)).2.1) (fun i=>(l.getD i (.mk 0 0 0 0 [],none,0)).2.2) (fun i hi=>?_) (fun i hi=>?_)
   ·have hi':i<l.length:=(by rw [QN] at hi;exact hi);have e:l.getD i (.mk 0 0 0 0 [],none,0)=l[i]:=(by rw [gDe,gE hi'];rfl);rw [e,Qr];exact hc i hi'
   ·have hi':i<l.length:=(by rw [QN] at hi;exact hi);have e:l.getD i (.mk 0 0 0 0 [],none,0)=l[i]:=(by rw [gDe,gE hi'];rfl);rw [e,Qr];exact hQ _ (gM hi')
  ·have h0:cs=cs.drop 0:=rfl;have h9:cs.drop 5=[]:=JC (by omega);rw [h0,cut cs 0 1 1 rfl,cut cs 1 1 2 rfl,cut cs 2 1 3 rfl,cut cs 3 1 4 rfl,cut cs 4 1 5 rfl,e0,e1,e2,e3,e4,h9];simp [jO,Cnd.kind,Cnd.thread,Cnd.n,Cnd.val,Cnd.kids]
end
section
variable {H:Type} {enc:TypeId×Value->H} {w:Wd} {base:Nat} {spare:Nat->Bool} {held:Bool} {F:Nat}
theorem zjD:OpensW enc PG w base spare held F 29 fun cs=>∃ p:Prg,PrgX w.heap.size w cs p:=fun n hn cs x h hw=>by
 have hF:n<=n+1:=Nat.le_succ n;have hl:cs.length=10:=by
  obtain⟨xs,m,_,_,hl,_,_⟩:=KL Tryz.underlying29 h;rw [cC 29 10 (by kernel_rfl)] at hl;exact hl
 obtain⟨nm,k0,e0⟩:=OpensW.field (F:=n+1) (o:=0) (i:=0) Tryz.underlying29 h hw hF rfl rfl rfl (cC 9 1 (by kernel_rfl)) (zgo Tryz.underlying9);obtain⟨p1,c1,l1,e1,k1,kc1,q1,r1⟩:=OpensW.field (F:=n+1) (o:=1) (i:=1) Tryz.underlying29 h hw hF rfl rfl rfl (cC 22 1 (by kernel_rfl))
  (zcb (F:=n) ([]:List UInt8) (f:=zjI.enc) (Q:=fun s=>s.length<=140737488351232) (sz:=1) (by decide) Tryz.underlying22 (by kernel_rfl) (by kernel_rfl) (zgo Tryz.underlying9))
 obtain⟨p2,c2,l2,e2,k2,kc2,q2,r2⟩:=OpensW.field (F:=n+1) (o:=2) (i:=2) Tryz.underlying29 h hw hF rfl rfl rfl (cC 23 1 (by kernel_rfl))
  (zcb (F:=n) (0:UInt8) (f:=zC.enc) (Q:=fun _=>True) (sz:=1) (by decide) Tryz.underlying23 zaD (by kernel_rfl) (zaO (fun fuel cs x h=>by
   obtain⟨b,hb⟩:=jF Tryz.underlying5 fuel cs x h;exact⟨b,trivial,hb⟩)))
 obtain⟨p3,c3,l3,e3,k3,kc3,q3,r3⟩:=OpensW.field (F:=n+1) (o:=3) (i:=3) Tryz.underlying29 h hw hF rfl rfl rfl (cC 24 1 (by kernel_rfl))
  (zcb (F:=n) (([],none,0):zlh) (f:=znB.enc) (Q:=fun x=>x.1.length<=140737488351232/\RowB zG w.heap.size w x.2.1 x.1) (sz:=1) (by decide) Tryz.underlying24 (by kernel_rfl) (by kernel_rfl) zkR)
 obtain⟨b4,e4⟩:=OpensW.field (F:=n+1) (o:=4) (i:=4) Tryz.underlying29 h hw hF rfl rfl rfl zaD (zaO (jF Tryz.underlying5));obtain⟨⟨c,p4,c4⟩,hk,e5⟩:=OpensW.field (F:=n+1) (o:=5) (i:=5) Tryz.underlying29 h hw hF rfl rfl rfl (cC 27 5 (by kernel_rfl)) (zgp (n+1));refine⟨⟨nm,l1,l2,l3.map (·.1),b4,c⟩,⟨⟨k0,k1.1,q1,k2.1,by rw [QN];exact k3.1,fun l hl=>?_⟩,p1,c1,p2,c2,p3,c3,p4,c4,?_,zeO r1,zeO r2,⟨l3,rfl,zeO r3,fun x hx=>(q3 x hx).2⟩,hk,kc1⟩,⟨p3,c3,?_,l3,rfl,zeO r3,fun x hx=>⟨(q3 x hx).2,fun hne a ha=>?_⟩⟩,⟨p2,c2,?_,zeO r2⟩⟩
 ·obtain⟨x,hx,rfl⟩:=UJ.1 hl;exact (q3 x hx).1
 ·have h0:cs=cs.drop 0:=rfl;have h9:cs.drop 10=[]:=JC (by omega);rw [h0,cut cs 0 1 1 rfl,cut cs 1 1 2 rfl,cut cs 2 1 3 rfl,cut cs 3 1 4 rfl,cut cs 4 1 5 rfl,cut cs 5 5 10 rfl,e0,e1,e2,e3,e4,e5,h9];simp [qB,jO]
 ·have:=Gj (fun l=>l[0]?) e3;simpa using this
 ·have hl:=List.length_pos_iff.2 hne;obtain⟨b,o,e,hb,_⟩:=zc7 (q3 x hx).2 hl;rw [ha] at e;obtain rfl:=Uf e;exact hb
 ·have:=Gj (fun l=>l[0]?) e2;simpa using this
theorem zmS {a:Array Value} {d:DataW H} {p:List MemPlace} (h:DataW.Trod enc PG w base spare held 29 (.agg a) d p) (hw:Wgt PG 29 d):∃ p:Prg,PrgX w.heap.size w a.toList p:=by
 obtain⟨fuel,h⟩:=h;exact zjD (F:=fuel+1) fuel (QB _) _ _ h hw
end
section
variable {H:Type} {enc:TypeId×Value->H} {w:Wd} {base:Nat} {spare:Nat->Bool} {held:Bool} {F:Nat}
theorem zkS {v:Value} {p:List MemPlace} {d:DataW H} {a0:OA} {len0 cap0:Nat} (hv:v = .slice a0 len0 cap0)
  (h:DataW.Trod enc PG w base spare held 23 v d p):∃ l:List UInt8,l.length=len0/\SlR zC w a0 l:=by
 subst hv;obtain⟨fuel,h⟩:=h;rcases DataW.trod_slice Tryz.underlying23 h with ⟨hcs,_⟩ | ⟨a,len,cap,elems,qV,n,_,hcs,_,_,_,_,hlen,hel,_,_⟩
 ·simp [Value.cells] at hcs;obtain⟨rfl,rfl,rfl⟩:=hcs;exact⟨[],rfl,.nil⟩
 ·simp [Value.cells] at hcs;obtain⟨rfl,rfl,rfl⟩:=hcs;have each:∀ i,i<len0->∃ m:UInt8,(a.add (i*1)).spot=none/\(a.add (i*1)).block<w.heap.size/\zu w ⟨(a.add (i*1)).block,(a.add (i*1)).off,none⟩ (zC.enc m):=fun i hi=>by
   have h1:=hel i hi;rw [zaD,gE (by omega),Option.bind_eq_some_iff] at h1;obtain⟨cs,h2,h3⟩:=h1;obtain⟨m,rfl,_⟩:=ziy Tryz.underlying5 h3;exact⟨m,zeB (by decide) h2⟩
  by_cases h00:len0=0
  ·exact⟨[],h00.symm,.nil⟩
  have hsp:a.spot=none:=by
   obtain⟨m,h3,_⟩:=each 0 (by omega);simpa [Addr.add] using h3
  obtain⟨b,o,s⟩:=a;dsimp only at hsp;subst hsp;have each:∀ i,i<len0->∃ m:UInt8,b<w.heap.size/\zu w ⟨b,o+i*1,none⟩ (zC.enc m):=fun i hi=>by
   obtain⟨m,_,h4,h5⟩:=each i hi;rw [zg0] at h4 h5;exact⟨m,h4,h5⟩
  have all:∀ k,k<=len0->∃ l:List UInt8,l.length=k/\∀ i (h:i<l.length),zu w ⟨b,o+i*1,none⟩ (zC.enc l[i]):=by
   intro k
   induction k with
   | zero=>exact fun _=>⟨[],rfl,fun i h=>Gq h (by simp)⟩
   | succ k ih =>
    intro hk;obtain⟨l,h1,h2⟩:=ih (by omega);obtain⟨m,_,h3⟩:=each k (by omega);refine⟨l++[m],by simp [h1],fun i hi=>?_⟩;by_cases hik:i<l.length
    ·rw [List.getElem_append_left hik];exact h2 i hik
    ·have:i=k:=(by simp [h1] at hi;omega);subst this;rw [List.getElem_append_right (by omega)];simpa [h1] using h3
  obtain⟨l,h1,h2⟩:=all len0 (UW _);refine⟨l,h1,?_⟩;obtain⟨m,h4,_⟩:=each 0 (by omega);exact .inr ⟨b,o,rfl,h4,h2⟩
end
theorem flatMap_map {α:Type} (f:α->Value):∀ l:List (List α),l.flatMap (fun x=>x.map f)=l.flatten.map f
 | []=>rfl
 | a::l=>by rw [KT,flatMap_map f l,List.flatten_cons,QR]
end Go.Proofs.YtpalcnbhkigagaaGreatDoor
namespace Go.Proofs.YtpalcnbhkigagaaGreatDoor
open Go.Vc Go.RowKit Go.Sei
end Go.Proofs.YtpalcnbhkigagaaGreatDoor
namespace Go.Proofs.YtpalcnbhkigagaaGreatDoor
open Go.Vc Go.RowKit Go.Sei
open Go.ChangeShapes Go.WideShapes Go.ChangeAt
structure GlobP (W:Wd):Prop where
 t32:Tz32M W
 t64:Tz64M W
 needs:GlobC W
abbrev zaK : List (String × DataW Unit) := [("math/bits.deBruijn32tab", Rows.laid_math_bits_deBruijn32tab), ("math/bits.deBruijn64tab", Rows.laid_math_bits_deBruijn64tab), ("seisin/check.needs", Rows.laid_seisin_check_needs)]
theorem zbW {W:Wd} (h:laidMetH PG zaK W) (hsh:W.ShapedOpen PG):GlobP W:=by
 have h0:laidMet PG zaK W:=h;have h1:=h0.tail;have h2:=h1.tail;have t32:Tz32M W:=by
  obtain⟨ps,⟨g',t',cs,fuel,p,q,hg',ht',hv,hd,_,_⟩,_⟩:=h0
  obtain rfl := Uf ((show Tryz.prog.globalNamed "math/bits.deBruijn32tab" = some 0 by kernel_rfl).symm.trans hg')
  obtain rfl:=Uf ((show (Tryz.prog.globals[0]?).map (·.type)=some 217 by kernel_rfl).symm.trans ht');obtain⟨bs,h1,h2,h3⟩:=zgq Tryz.underlying217 Tryz.underlying5 (by kernel_rfl) (by kernel_rfl) hd;have hbs:bs=zhi:=by
   have e:(Rows.laid_math_bits_deBruijn32tab:DataW Unit) = .agg (zhi.map fun b => .lit (.int .u8 b.toNat)):=rfl;exact zgx (DataW.agg.inj (h3.symm.trans e))
  subst hbs;refine zab fun i v hvv=>?_;have hc:=World.var?_cell hg' hv i;rw [<- hvv,<- h2];simpa using hc
 have t64:Tz64M W:=by
  obtain⟨ps,⟨g',t',cs,fuel,p,q,hg',ht',hv,hd,_,_⟩,_⟩:=h1
  obtain rfl := Uf ((show Tryz.prog.globalNamed "math/bits.deBruijn64tab" = some 1 by kernel_rfl).symm.trans hg')
  obtain rfl:=Uf ((show (Tryz.prog.globals[1]?).map (·.type)=some 227 by kernel_rfl).symm.trans ht');obtain⟨bs,h1,h2,h3⟩:=zgq Tryz.underlying227 Tryz.underlying5 (by kernel_rfl) (by kernel_rfl) hd;have hbs:bs=zhh:=by
   have e:(Rows.laid_math_bits_deBruijn64tab:DataW Unit) = .agg (zhh.map fun b => .lit (.int .u8 b.toNat)):=rfl;exact zgx (DataW.agg.inj (h3.symm.trans e))
  subst hbs;refine zab fun i v hvv=>?_;have hc:=World.var?_cell hg' hv i;rw [<- hvv,<- h2];simpa using hc
 have needs:GlobC W:=by
  obtain⟨ps,⟨g',t',cs,fuel,p,q,hg',ht',hv,hd,_,_⟩,_⟩:=h2
  obtain rfl := Uf ((show Tryz.prog.globalNamed "seisin/check.needs" = some 2 by kernel_rfl).symm.trans hg')
  obtain rfl:=Uf ((show (Tryz.prog.globals[2]?).map (·.type)=some 233 by kernel_rfl).symm.trans ht');obtain⟨bs,h1,h2,h3⟩:=zgq Tryz.underlying233 Tryz.underlying5 (by kernel_rfl) (by kernel_rfl) hd;have hbs:bs=zej:=by
   match bs,h1 with
   | [b0,b1,b2,b3,b4,b5,b6,b7,b8],_ =>
    simp only [Rows.laid_seisin_check_needs,UB,List.map_nil,DataW.agg.injEq,QL,DataW.lit.injEq,Lit.int.injEq,true_and,Gi] at h3;simp only [zej,QL,Gi];obtain⟨a0,a1,a2,a3,a4,a5,a6,a7,a8⟩:=h3;refine⟨?_,?_,?_,?_,?_,?_,?_,?_,?_⟩ <;> (apply Ug.1;simp;omega)
  subst hbs;refine zab fun i v hvv=>?_;have hc:=World.var?_cell hg' hv i;rw [<- hvv,<- h2];simpa using hc
 exact⟨t32,t64,needs⟩
def zqS:DataW Unit->List Value
 | .lit (.int k n)=>[.int k n]
 | .lit (.string s)=>[.string ⟨s.toArray⟩]
 | _=>[]
def zqR:DataW Unit->List Value
 | .agg ps=>ps.flatMap zqS
 | x=>zqS x
def zoo:DataW Unit->List Value
 | .agg ps=>ps.flatMap zqR
 | x=>zqR x
def znK (h:Array Obj) (g:Nat) (cs:List Value):Array Obj:=h.modify g fun
 | .cells _ t frozen => .cells cs.toArray t frozen
 | o=>o
def zsy (h:Array Obj):Array Obj :=
 let h1:=znK h 0 (zoo Rows.laid_math_bits_deBruijn32tab)
 let h2:=znK h1 1 (zoo Rows.laid_math_bits_deBruijn64tab)
 znK h2 2 (zoo Rows.laid_seisin_check_needs)
noncomputable def zgC (os:Os):Wd :=
 { World.holding PG os ⟨#[],#[],[]⟩ with heap:=zsy (World.holding PG os ⟨#[],#[],[]⟩).heap }
theorem zgB (os:Os) (args:Array Value):laidMetH PG zaK ((zgC os).forCall (fun _ _=>0) ⟨#[],args,[]⟩).memory:=by
 show laidMet PG zaK _;exact laidMet_of_run' 8 (by kernel_rfl) (by kernel_rfl)
end Go.Proofs.YtpalcnbhkigagaaGreatDoor
