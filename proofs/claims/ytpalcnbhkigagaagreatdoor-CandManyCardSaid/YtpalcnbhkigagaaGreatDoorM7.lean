/- Contracts of functions, and plain facts, for the law that the last text of this claim proves. -/
import Derived.Test.YtpalcnbhkigagaaGreatDoorM6
import Derived.Test.YtpalcnbhkigagaaGreatDoorM3
import Derived.Test.YtpalcnbhkigagaaGreatDoorM5
import Derived.Test.YtpalcnbhkigagaaGreatDoorM1
import Derived.Test.YtpalcnbhkigagaaGreatDoorRows
import Derived.ProofKit
import Derived.OpenShut
import Derived.LaidLaws
import Derived.Below
import Derived.HandedShaped
import Derived.KernelRfl
import Derived.WalkKit
import Derived.ChangeOld
import Derived.SevenTiedAt
import Derived.LaidHandle
import Derived.Stop.LaidErr
import Derived.Lib.LaidTab
import Derived.SizedLaws
import Derived.Test.YtpalcnbhkigagaaGreatDoorM2
import Derived.Test.YtpalcnbhkigagaaGreatDoorM4
set_option linter.unusedSimpArgs false
set_option linter.unusedVariables false
namespace Go.Proofs.YtpalcnbhkigagaaGreatDoor
open Go.Vc Go.RowKit Go.Sei
theorem znG {X W:Wd} (L:List (List InsD×Nat)) (hL:∀ p∈L,X.heap[p.2]?=some (.cells (p.1.flatMap zD.enc).toArray 41 (0,0))) (hW:W=X.alloc (.cells (L.map fun p=>Value.slice (some ⟨p.2,0,none⟩) p.1.length p.1.length).toArray 42)):ThrsW W.heap.size W (some ⟨X.heap.size,0,none⟩) (L.map (·.1)):=by
 have f:W.heap[X.heap.size]?=some (.cells (L.map fun p=>Value.slice (some ⟨p.2,0,none⟩) p.1.length p.1.length).toArray 42 (0,0)):=by rw [hW];exact zy X _
 refine⟨L.map fun p=>(p.1,some ⟨p.2,0,none⟩,p.1.length),by rw [UH];rfl,.inr ⟨X.heap.size,0,rfl,hlt f,?_⟩,fun x hx=>?_⟩
 ·have e:(L.map fun p=>((p.1,some ⟨p.2,0,none⟩,p.1.length):ziN)).flatMap zeF.enc=L.map fun p=>Value.slice (some ⟨p.2,0,none⟩) p.1.length p.1.length:=by
   rw [Qp];clear hL hW f
   induction L with
   | nil=>rfl
   | cons a L ih=>rw [KT,ih];rfl
  rw [e];exact za f
 ·obtain⟨y,hy,rfl⟩:=UJ.1 hx;have g:W.heap[y.2]?=some (.cells (y.1.flatMap zD.enc).toArray 41 (0,0)):=by rw [hW];exact qF _ (hL y hy)
  exact⟨.inr ⟨y.2,0,rfl,hlt g,za g⟩,fun _ a ha=>by
   obtain rfl:(⟨y.2,0,none⟩:Addr)=a:=Uf ha;exact hlt g⟩
abbrev zdS (X:Wd) (O:Nat) (l:List InsD):Prop:=X.heap[O]?=some (.cells (l.flatMap zD.enc).toArray 41 (0,0))
structure CanB (X:Wd) (l:List ExD) (q:OA) (xs:List zbX):Prop where
 e:xs.map (·.1)=l
 r:SlR exE X q xs
 v:∀ x∈xs,SlR evE X x.2.1 x.1.ev
theorem CanB.below {X Y:Wd} {l:List ExD} {q:OA} {xs:List zbX} (h:CanB X l q xs) (hb:Bw X Y):CanB Y l q xs:=⟨h.e,h.r.below hb,fun x hx=>(h.v x hx).below hb⟩
theorem CanB.len {X:Wd} {l:List ExD} {q:OA} {xs:List zbX} (h:CanB X l q xs):xs.length=l.length:=by rw [<- h.e,QN]
theorem j8 {X W:Wd} {P Q:Nat} {x:ExD} {qx:OA} {cx:Nat} {cs:Array Value} (hb:Bw X W) (fP:W.heap[P]?=some (.cells cs 55 (0,0))) (hcs:cs.size=333) {o:Obj} (fQ:W.heap[Q]?=some o) (hPQ:P≠Q) (hP:X.heap.size<=P) {K:Wd->Prop} (k:∀ Y,ExH Y P x qx cx->Y.heap[Q]?=some o->Bw X Y->K Y) :
  SatR ((storeVar 55 ⟨P,0,none⟩ (.agg (exC x qx cx).toArray)).run PG W) fun _ w'=>K w' :=
 zI (v := .agg (exC x qx cx).toArray) k55 fP (zC _ _ _) hcs (zbf _ _ _) (k _ (zz fP) ((zr (fun h=>hPQ h.symm)).trans fQ) (zA hb hP _))
theorem znU {X:Wd} {b c:Nat} {x:ExD} {q:OA} (fx:ExH X b x q c) {i:Nat} (hi:i<48):X.cell? ⟨b,0+50+1+i*1,none⟩=some (s64 (x.rf.to i)):=by
 obtain⟨A,T,hA,hE⟩:=zk3 x q c;have hR:RelAt X b 50 55 A T x.rf:=⟨hA,by rw [<- hE];exact fx⟩;exact hR.cell hi
theorem zrd {X:Wd} {b c:Nat} {x:ExD} {q:OA} (fx:ExH X b x q c) {i:Nat} (hi:i<48):X.cell? ⟨b,0+99+1+i*1,none⟩=some (s64 (x.co.to i)):=by
 obtain⟨A,T,hA,hE⟩:=ziy x q c;have hR:RelAt X b 99 55 A T x.co:=⟨hA,by rw [<- hE];exact fx⟩;exact hR.cell hi
theorem zqa {X:Wd} {b:Nat} {x:ExD} {q:OA} {c i j:Nat} (fx:zx X ⟨b,0,none⟩ (exC x q c)) (hi:i*8+j<32):X.cell? ⟨b,0+295+i*8+j*1,none⟩=some (u8 (x.regs (i*8+j))):=by
 obtain⟨A,T,hA,hE⟩:=zix x q c [];have h2:(exC x q c)[295+(i*8+j)]?=some (u8 (x.regs (i*8+j))):=by
  have h:=hE x.regs;rw [QK] at h;rw [h,jo hA,Jr (by rw [zo];exact hi)];unfold seg;rw [KV,Ki hi];rfl
 have h4:=zc fx h2;rw [show 0+(295+(i*8+j))=0+295+i*8+j*1 by omega] at h4;exact h4
abbrev zEx:Obj := .cells zkp.toArray 55
theorem zsy {w:Wd} (hG:GlobE w):CB 10 #[] w (.bool true):=by
 refine jf 183 [] (.s .p (.c .p (.c .p (.c .p (.c .p (.c .p (.c .p (.c .p (.c .p (.c .p .p)))))))))) Tryz.func10 ?_;refine⟨Nat,fun O=>⟨[(1,.slice (some ⟨O,0,none⟩) 1 1)],[]⟩,fun O X=>zdS X O [stI 0 1 0]/\Bw w X,?_,?_⟩
 ·refine⟨[.bool false,u8 1],by kernel_rfl,?_⟩;refine⟨zD.enc (stI 0 1 0),by kernel_rfl,?_⟩;exact⟨⟨by decide,by decide,rfl⟩,zD.enc (stI 0 1 0),rfl,w.heap.size,(cvE rfl rfl),zy w _,(zba w _)⟩
 rintro O X ⟨fO,hbX⟩;refine⟨Nat,fun D=>⟨[(1,.slice (some ⟨O,0,none⟩) 1 1),(2,.slice (some ⟨D,0,none⟩) 1 1)],[]⟩,fun D Y=>zdS Y O [stI 0 1 0]/\zdS Y D [ldI 0 0 0]/\Bw w Y,?_,?_⟩
 ·refine⟨zD.enc (ldI 0 0 0),by kernel_rfl,?_⟩;exact⟨⟨by decide,by decide,rfl⟩,zD.enc (ldI 0 0 0),rfl,X.heap.size,(cvE rfl rfl),qF _ fO,zy X _,hbX.alloc hbX.size _⟩
 clear fO hbX;clear X;rintro D X ⟨fO,fD,hbX⟩;refine⟨OA×List zbX×Nat,fun s=>⟨[(1,.slice (some ⟨O,0,none⟩) 1 1),(2,.slice (some ⟨D,0,none⟩) 1 1),(3,.slice s.1 s.2.1.length s.2.2),(4,i64 0)],[]⟩,fun s Z=>CanB Z (zR p1P [0,1]) s.1 s.2.1/\zdS Z O [stI 0 1 0]/\zdS Z D [ldI 0 0 0]/\Bw w Z,?_,?_⟩
 ·obtain⟨S,hS⟩:=nm (X);have dXS:Bw X S:=by rw [hS];exact Gb _ _
  have hbS:Bw w S:=by rw [hS];exact hbX
  rw [<- hS];obtain⟨W1,hW1⟩:=nm (S.alloc (.cells #[.slice (some ⟨O,0,none⟩) 1 1,.slice (some ⟨D,0,none⟩) 1 1] 42));have b1:Bw S W1:=by rw [hW1];exact (zba _ _)
  refine⟨⟨by decide,by decide,rfl⟩,[.slice (some ⟨O,0,none⟩) 1 1,.slice (some ⟨D,0,none⟩) 1 1],rfl,?_⟩;have hW1b:S.alloc (.cells [.slice (some ⟨O,0,none⟩) 1 1,.slice (some ⟨D,0,none⟩) 1 1].toArray 42)=W1:=hW1.symm;rw [hW1b];have hT:ThrsW W1.heap.size W1 (some ⟨S.heap.size,0,none⟩) [[stI 0 1 0],[ldI 0 0 0]]:=znG [([stI 0 1 0],O),([ldI 0 0 0],D)] (fun p hp=>by
   simp only [UC,Qw,Gl] at hp;rcases hp with rfl | rfl
   ·exact zb dXS fO
   ·exact zb dXS fD) hW1
  have h9:=zd9 (ct:=2) hT (by decide) (fun l hl=>by
   simp only [UC,Qw,Gl] at hl;rcases hl with rfl | rfl <;> decide)
  refine cmo h9 ?_;rintro e U ⟨⟨vs,rfl,hP⟩,hbU⟩;have b2:=zst b1 hbU;have bU:=zst hbS b2;refine cmo (zeB (UW _) hP (hG.below bU) (by decide) zsT) ?_;rintro e V ⟨⟨xs,qq,cc,rfl,h1,h2,h3⟩,hbV⟩;have bXV:=dXS.trans (((zst b2 hbV)).mono dXS.size);exact⟨(qq,xs,cc),(cvE rfl rfl),⟨h1,h2.row,fun x hx=>(h3 x hx).row⟩,zb (bXV) fO,zb (bXV) fD,(zst hbX bXV)⟩
 clear fO fD hbX;clear X;rintro⟨q3,xs3,c3⟩ X ⟨cb3,fO,fD,hbX⟩;dsimp only at cb3 ⊢;refine⟨OA×List zbX×Nat,fun s=>⟨[(1,.slice (some ⟨O,0,none⟩) 1 1),(2,.slice (some ⟨D,0,none⟩) 1 1),(3,.slice q3 xs3.length c3),(4,i64 0),(5,.slice s.1 s.2.1.length s.2.2),(6,i64 0)],[]⟩,fun s Z=>CanB Z (zR p2P [0,1]) s.1 s.2.1/\CanB Z (zR p1P [0,1]) q3 xs3/\zdS Z O [stI 0 1 0]/\zdS Z D [ldI 0 0 0]/\Bw w Z,?_,?_⟩
 ·obtain⟨S,hS⟩:=nm (X);have dXS:Bw X S:=by rw [hS];exact Gb _ _
  have hbS:Bw w S:=by rw [hS];exact hbX
  rw [<- hS];obtain⟨W1,hW1⟩:=nm (S.alloc (.cells #[.slice (some ⟨O,0,none⟩) 1 1,.slice (some ⟨O,0,none⟩) 1 1,.slice (some ⟨D,0,none⟩) 1 1] 42));have b1:Bw S W1:=by rw [hW1];exact (zba _ _)
  refine⟨⟨by decide,by decide,rfl⟩,[.slice (some ⟨O,0,none⟩) 1 1,.slice (some ⟨O,0,none⟩) 1 1,.slice (some ⟨D,0,none⟩) 1 1],rfl,?_⟩;have hW1b:S.alloc (.cells [.slice (some ⟨O,0,none⟩) 1 1,.slice (some ⟨O,0,none⟩) 1 1,.slice (some ⟨D,0,none⟩) 1 1].toArray 42)=W1:=hW1.symm;rw [hW1b];have hT:ThrsW W1.heap.size W1 (some ⟨S.heap.size,0,none⟩) [[stI 0 1 0],[stI 0 1 0],[ldI 0 0 0]]:=znG [([stI 0 1 0],O),([stI 0 1 0],O),([ldI 0 0 0],D)] (fun p hp=>by
   simp only [UC,Qw,Gl] at hp;rcases hp with rfl | rfl | rfl
   ·exact zb dXS fO
   ·exact zb dXS fO
   ·exact zb dXS fD) hW1
  have h9:=zd9 (ct:=3) hT (by decide) (fun l hl=>by
   simp only [UC,Qw,Gl] at hl;rcases hl with rfl | rfl | rfl <;> decide)
  refine cmo h9 ?_;rintro e U ⟨⟨vs,rfl,hP⟩,hbU⟩;have b2:=zst b1 hbU;have bU:=zst hbS b2;refine cmo (zeB (UW _) hP (hG.below bU) (by decide) zso) ?_;rintro e V ⟨⟨xs,qq,cc,rfl,h1,h2,h3⟩,hbV⟩;have bXV:=dXS.trans (((zst b2 hbV)).mono dXS.size);exact⟨(qq,xs,cc),(cvE rfl rfl),⟨h1,h2.row,fun x hx=>(h3 x hx).row⟩,cb3.below (bXV),zb (bXV) fO,zb (bXV) fD,(zst hbX bXV)⟩
 clear cb3 fO fD hbX;clear X;rintro⟨q5,xs5,c5⟩ X ⟨cb5,cb3,fO,fD,hbX⟩;dsimp only at cb5 ⊢;refine⟨OA×List zbX×Nat,fun s=>⟨[(1,.slice (some ⟨O,0,none⟩) 1 1),(2,.slice (some ⟨D,0,none⟩) 1 1),(3,.slice q3 xs3.length c3),(4,i64 0),(5,.slice q5 xs5.length c5),(6,i64 0),(7,.slice s.1 s.2.1.length s.2.2),(8,i64 0)],[]⟩,fun s Z=>CanB Z (zR p3P [0,1]) s.1 s.2.1/\CanB Z (zR p2P [0,1]) q5 xs5/\CanB Z (zR p1P [0,1]) q3 xs3/\zdS Z O [stI 0 1 0]/\zdS Z D [ldI 0 0 0]/\Bw w Z,?_,?_⟩
 ·obtain⟨S0,hS0⟩:=nm (X.drew);have d0:Bw X S0:=by rw [hS0];exact (Gb _ _).drew
  refine DrawE.ord [] [0,1,2,3,4,5,6,7,8,9,10,11,12,13,14] (by kernel_rfl) ?_;rw [<- hS0];have gO:=zb d0 fO;have gD:=zb d0 fD;refine⟨0,rfl,by decide,?_⟩;refine⟨zD.enc (ldI 0 0 0),rfl,za gD,hlt gD,0,rfl,by decide,?_⟩;refine⟨zD.enc (stI 0 1 0),rfl,za gO,hlt gO,?_⟩;obtain⟨S,hS⟩:=nm (S0.alloc (.cells (zD.enc (ldI 0 0 0)++zD.enc (stI 0 1 0)).toArray 41));have d1:Bw S0 S:=by rw [hS];exact (zba _ _)
  refine⟨⟨by decide,by decide,rfl⟩,zD.enc (ldI 0 0 0)++zD.enc (stI 0 1 0),rfl,?_⟩;have hSb:S0.alloc (.cells (zD.enc (ldI 0 0 0)++zD.enc (stI 0 1 0)).toArray 41)=S:=hS.symm;rw [hSb];refine⟨d1,?_⟩;have fN:zdS S S0.heap.size [ldI 0 0 0,stI 0 1 0]:=by rw [hS];exact zy S0 _
  have dXS:Bw X S:=zst d0 d1;have hbS:Bw w S:=zst hbX dXS;obtain⟨W1,hW1⟩:=nm (S.alloc (.cells #[.slice (some ⟨S0.heap.size,0,none⟩) 2 2] 42));have b1:Bw S W1:=by rw [hW1];exact (zba _ _)
  refine⟨⟨by decide,by decide,rfl⟩,[.slice (some ⟨S0.heap.size,0,none⟩) 2 2],rfl,?_⟩;have hW1b:S.alloc (.cells [.slice (some ⟨S0.heap.size,0,none⟩) 2 2].toArray 42)=W1:=hW1.symm;rw [hW1b];refine⟨b1,?_⟩;have hT:ThrsW W1.heap.size W1 (some ⟨S.heap.size,0,none⟩) [[ldI 0 0 0,stI 0 1 0]]:=znG [([ldI 0 0 0,stI 0 1 0],S0.heap.size)] (fun p hp=>by
   simp only [UC,Qw,Gl] at hp;rcases hp with rfl
   ·exact fN) hW1
  have h9:=zd9 (ct:=1) hT (by decide) (fun l hl=>by
   simp only [UC,Qw,Gl] at hl;rcases hl with rfl <;> decide)
  refine cmo h9 ?_;rintro e U ⟨⟨vs,rfl,hP⟩,hbU⟩;refine⟨hbU,?_⟩;have b2:=zst b1 hbU;have bU:=zst hbS b2;refine cmo (zeB (UW _) hP (hG.below bU) (by decide) zsS) ?_;rintro e V ⟨⟨xs,qq,cc,rfl,h1,h2,h3⟩,hbV⟩;refine⟨hbV,?_⟩;have bXV:=dXS.trans (((zst b2 hbV)).mono dXS.size);exact⟨(qq,xs,cc),(cvE rfl rfl),⟨h1,h2.row,fun x hx=>(h3 x hx).row⟩,cb5.below (bXV),cb3.below (bXV),zb (bXV) fO,zb (bXV) fD,(zst hbX bXV)⟩
 clear cb5 cb3 fO fD hbX;clear X;rintro⟨q7,xs7,c7⟩ X ⟨cb7,cb5,cb3,fO,fD,hbX⟩;dsimp only at cb7 ⊢;refine⟨OA×List zbX×Nat,fun s=>⟨[(1,.slice (some ⟨O,0,none⟩) 1 1),(2,.slice (some ⟨D,0,none⟩) 1 1),(3,.slice q3 xs3.length c3),(4,i64 0),(5,.slice q5 xs5.length c5),(6,i64 0),(7,.slice q7 xs7.length c7),(8,i64 0),(9,.slice s.1 s.2.1.length s.2.2),(10,i64 0)],[]⟩,fun s Z=>CanB Z (zR p4P [0]) s.1 s.2.1/\CanB Z (zR p3P [0,1]) q7 xs7/\CanB Z (zR p2P [0,1]) q5 xs5/\CanB Z (zR p1P [0,1]) q3 xs3/\zdS Z O [stI 0 1 0]/\zdS Z D [ldI 0 0 0]/\Bw w Z,?_,?_⟩
 ·obtain⟨S,hS⟩:=nm (X);have fN0:=zy X (.cells (zD.enc feI).toArray 41);clear hS;clear S;obtain⟨S,hS⟩:=nm (X.alloc (.cells (zD.enc feI).toArray 41));refine⟨zD.enc feI,by kernel_rfl,?_⟩;refine⟨⟨by decide,by decide,rfl⟩,zD.enc feI,rfl,?_⟩;have hSb:X.alloc (.cells (zD.enc feI).toArray 41)=S:=hS.symm;rw [hSb];have fN:zdS S X.heap.size [feI]:=by rw [hS];exact fN0
  have dXS:Bw X S:=by rw [hS];exact (zba _ _)
  have hbS:Bw w S:=zst hbX dXS;obtain⟨W1,hW1⟩:=nm (S.alloc (.cells #[.slice (some ⟨X.heap.size,0,none⟩) 1 1] 42));have b1:Bw S W1:=by rw [hW1];exact (zba _ _)
  refine⟨⟨by decide,by decide,rfl⟩,[.slice (some ⟨X.heap.size,0,none⟩) 1 1],rfl,?_⟩;have hW1b:S.alloc (.cells [.slice (some ⟨X.heap.size,0,none⟩) 1 1].toArray 42)=W1:=hW1.symm;rw [hW1b];have hT:ThrsW W1.heap.size W1 (some ⟨S.heap.size,0,none⟩) [[feI]]:=znG [([feI],X.heap.size)] (fun p hp=>by
   simp only [UC,Qw,Gl] at hp;rcases hp with rfl
   ·exact fN) hW1
  have h9:=zd9 (ct:=1) hT (by decide) (fun l hl=>by
   simp only [UC,Qw,Gl] at hl;rcases hl with rfl <;> decide)
  refine cmo h9 ?_;rintro e U ⟨⟨vs,rfl,hP⟩,hbU⟩;have b2:=zst b1 hbU;have bU:=zst hbS b2;refine cmo (zeB (UW _) hP (hG.below bU) (by decide) zsR) ?_;rintro e V ⟨⟨xs,qq,cc,rfl,h1,h2,h3⟩,hbV⟩;have bXV:=dXS.trans (((zst b2 hbV)).mono dXS.size);exact⟨(qq,xs,cc),(cvE rfl rfl),⟨h1,h2.row,fun x hx=>(h3 x hx).row⟩,cb7.below (bXV),cb5.below (bXV),cb3.below (bXV),zb (bXV) fO,zb (bXV) fD,(zst hbX bXV)⟩
 clear cb7 cb5 cb3 fO fD hbX;clear X;rintro⟨q9,xs9,c9⟩ X ⟨cb9,cb7,cb5,cb3,fO,fD,hbX⟩;dsimp only at cb9 ⊢;refine⟨Unit,fun _=>⟨[(1,.slice (some ⟨O,0,none⟩) 1 1),(2,.slice (some ⟨D,0,none⟩) 1 1),(3,.slice q3 xs3.length c3),(4,i64 0),(5,.slice q5 xs5.length c5),(6,i64 0),(7,.slice q7 xs7.length c7),(8,i64 0),(9,.slice q9 xs9.length c9),(10,i64 0),(12,i64 5)],[]⟩,fun _ Z=>CanB Z (zR p4P [0]) q9 xs9/\CanB Z (zR p3P [0,1]) q7 xs7/\CanB Z (zR p2P [0,1]) q5 xs5/\CanB Z (zR p1P [0,1]) q3 xs3/\zdS Z O [stI 0 1 0]/\zdS Z D [ldI 0 0 0]/\Bw w Z,?_,?_⟩
 ·obtain⟨S,hS⟩:=nm (X);have dXS:Bw X S:=by rw [hS];exact Gb _ _
  have hbS:Bw w S:=by rw [hS];exact hbX
  rw [<- hS];obtain⟨W1,hW1⟩:=nm (S.alloc (.cells #[.slice (some ⟨O,0,none⟩) 1 1,.slice (some ⟨O,0,none⟩) 1 1,.slice (some ⟨D,0,none⟩) 1 1] 42));have b1:Bw S W1:=by rw [hW1];exact (zba _ _)
  refine⟨⟨by decide,by decide,rfl⟩,[.slice (some ⟨O,0,none⟩) 1 1,.slice (some ⟨O,0,none⟩) 1 1,.slice (some ⟨D,0,none⟩) 1 1],rfl,?_⟩;have hW1b:S.alloc (.cells [.slice (some ⟨O,0,none⟩) 1 1,.slice (some ⟨O,0,none⟩) 1 1,.slice (some ⟨D,0,none⟩) 1 1].toArray 42)=W1:=hW1.symm;rw [hW1b];have hT:ThrsW W1.heap.size W1 (some ⟨S.heap.size,0,none⟩) [[stI 0 1 0],[stI 0 1 0],[ldI 0 0 0]]:=znG [([stI 0 1 0],O),([stI 0 1 0],O),([ldI 0 0 0],D)] (fun p hp=>by
   simp only [UC,Qw,Gl] at hp;rcases hp with rfl | rfl | rfl
   ·exact zb dXS fO
   ·exact zb dXS fO
   ·exact zb dXS fD) hW1
  have h9:=zd9 (ct:=3) hT (by decide) (fun l hl=>by
   simp only [UC,Qw,Gl] at hl;rcases hl with rfl | rfl | rfl <;> decide)
  refine cmo h9 ?_;rintro e U ⟨⟨vs,rfl,hP⟩,hbU⟩;have b2:=zst b1 hbU;have bU:=zst hbS b2;refine cmo (zpn (UW _) hP (hG.below bU) (by decide) zso zpK) ?_;rintro e V ⟨rfl,hbV⟩;have bXV:=dXS.trans (((zst b2 hbV)).mono dXS.size);exact⟨(),(cvE rfl rfl),cb9.below (bXV),cb7.below (bXV),cb5.below (bXV),cb3.below (bXV),zb (bXV) fO,zb (bXV) fD,(zst hbX bXV)⟩
 clear cb9 cb7 cb5 cb3 fO fD hbX;clear X;rintro _ X ⟨cb9,cb7,cb5,cb3,fO,fD,hbX⟩;have l3:xs3.length=2:=cb3.len.trans zrt;have l5:xs5.length=6:=cb5.len.trans zrs;have l7:xs7.length=2:=cb7.len.trans zrr;have l9:xs9.length=1:=cb9.len.trans zrq;refine⟨Unit,fun _=>⟨[(3,.slice q3 xs3.length c3)],[]⟩,fun _ Z=>X=Z,?_,?_⟩
 ·exact⟨0,rfl,0,rfl,0,rfl,brN (by decide) (brN (by decide) (brN (by rw [l3];rfl) (brN (by rw [l5];rfl) (brN (by rw [l7];rfl) (brN (by rw [l9];rfl) ⟨(),(cvE rfl rfl),rfl⟩)))))⟩
 rintro _ _ rfl;clear cb5 cb7 cb9 fO fD l5 l7 l9;have hxs:∀ i,i<2->∃ x,xs3[i]?=some x/\x.1=(zR p1P [0,1]).getD i (ex0 0):=fun i hi=>by
  have hl:i<xs3.length:=by omega
  refine⟨xs3[i],gE hl,?_⟩;rw [<- cb3.e,gDe,KV,gE hl];rfl
 obtain⟨x,hx0,hx1⟩:=hxs 0 (by decide);obtain⟨y,hy0,hy1⟩:=hxs 1 (by decide);obtain⟨bq,oq,hqq,hbq,hat⟩:=cb3.r.at (by omega:0<xs3.length);have hgx:xs3[0]'(by omega)=x:=Uf ((gE (by omega)).symm.trans hx0);have hgy:xs3[1]'(by omega)=y:=Uf ((gE (by omega)).symm.trans hy0);have atx:zx X ⟨bq,oq+0*333,none⟩ (exC x.1 x.2.1 x.2.2):=by have:=hat 0 (by omega);rw [hgx] at this;exact this
 have aty:zx X ⟨bq,oq+1*333,none⟩ (exC y.1 y.2.1 y.2.2):=by have:=hat 1 (by omega);rw [hgy] at this;exact this
 have vx:=cb3.v x (by rw [<- hgx];exact gM _);have vy:=cb3.v y (by rw [<- hgy];exact gM _);subst hqq;clear hat hgx hgy hx0 hy0 hxs;refine⟨Nat×Nat,fun s=>⟨[(13,At0 s.1),(14,At0 s.2)],[]⟩,fun s Z=>ExH Z s.1 x.1 x.2.1 x.2.2/\ExH Z s.2 y.1 y.2.1 y.2.2/\Bw X Z,?_,?_⟩
 ·have b0:Bw X X.drew:=(Gb _ _).drew;have y0:=b0.size;refine DrawE.treeQ [8,9] (.op 0 (.op 1 (.op 2 (.op 3 (.op 4 (.alt (.op 6 (.alt (.op 7 (.alt (.op 8 (.op 5 (.op 9 (.nil)))) (.op 5 (.op 8 (.op 9 (.nil)))))) (.op 5 (.op 7 (.op 8 (.op 9 (.nil))))))) (.alt (.op 7 (.alt (.op 6 (.alt (.op 8 (.op 5 (.op 9 (.nil)))) (.op 5 (.op 8 (.op 9 (.nil)))))) (.op 5 (.op 6 (.op 8 (.op 9 (.nil))))))) (.op 5 (.alt (.op 6 (.op 7 (.op 8 (.op 9 (.nil))))) (.op 7 (.op 6 (.op 8 (.op 9 (.nil)))))))))))))) (by kernel_rfl) ⟨0,rfl,by omega,?_⟩;refine⟨exC x.1 x.2.1 x.2.2,zC _ _ _,zm b0 atx,nL hbq b0.size,1,rfl,by omega,?_⟩;refine Gg ?_ (Gg ?_ ?_)
  ·refine⟨(zba _ _),?_⟩;have b1:=b0.alloc b0.size zEx;have z1:=wz X.drew zEx;refine Gg ?_ ?_
   ·refine⟨(zba _ _),?_⟩;have b2:=b1.alloc b1.size zEx;have z2:=wz (X.drew.alloc zEx) zEx;refine Gg ?_ ?_
    ·exact j8 (P:=X.drew.heap.size) (Q:=(X.drew.alloc zEx).heap.size) b2 (qF zEx (zy X.drew zEx)) zX (zy (X.drew.alloc zEx) zEx) (by omega) (by omega) fun V3 p3 q3 b3=>⟨exC y.1 y.2.1 y.2.2,zC _ _ _,zm b3 aty,nL hbq b3.size,j8 (P:=(X.drew.alloc zEx).heap.size) (Q:=X.drew.heap.size) b3 (q3) zX (p3) (by omega) (by omega) fun V5 p5 q5 b5=>⟨(X.drew.heap.size,(X.drew.alloc zEx).heap.size),(cvE rfl rfl),q5,p5,b5⟩⟩
    ·exact⟨exC y.1 y.2.1 y.2.2,zC _ _ _,zm b2 aty,nL hbq b2.size,j8 (P:=X.drew.heap.size) (Q:=(X.drew.alloc zEx).heap.size) b2 (qF zEx (zy X.drew zEx)) zX (zy (X.drew.alloc zEx) zEx) (by omega) (by omega) fun V7 p7 q7 b7=>j8 (P:=(X.drew.alloc zEx).heap.size) (Q:=X.drew.heap.size) b7 (q7) zX (p7) (by omega) (by omega) fun V8 p8 q8 b8=>⟨(X.drew.heap.size,(X.drew.alloc zEx).heap.size),(cvE rfl rfl),q8,p8,b8⟩⟩
   ·refine⟨exC y.1 y.2.1 y.2.2,zC _ _ _,zm b1 aty,nL hbq b1.size,(zba _ _),?_⟩;have b10:=b1.alloc b1.size zEx;have z10:=wz (X.drew.alloc zEx) zEx;exact j8 (P:=X.drew.heap.size) (Q:=(X.drew.alloc zEx).heap.size) b10 (qF zEx (zy X.drew zEx)) zX (zy (X.drew.alloc zEx) zEx) (by omega) (by omega) fun V11 p11 q11 b11=>j8 (P:=(X.drew.alloc zEx).heap.size) (Q:=X.drew.heap.size) b11 (q11) zX (p11) (by omega) (by omega) fun V12 p12 q12 b12=>⟨(X.drew.heap.size,(X.drew.alloc zEx).heap.size),(cvE rfl rfl),q12,p12,b12⟩
  ·refine⟨(zba _ _),?_⟩;have b13:=b0.alloc b0.size zEx;have z13:=wz X.drew zEx;refine Gg ?_ ?_
   ·refine⟨(zba _ _),?_⟩;have b14:=b13.alloc b13.size zEx;have z14:=wz (X.drew.alloc zEx) zEx;refine Gg ?_ ?_
    ·exact j8 (P:=(X.drew.alloc zEx).heap.size) (Q:=X.drew.heap.size) b14 (zy (X.drew.alloc zEx) zEx) zX (qF zEx (zy X.drew zEx)) (by omega) (by omega) fun V15 p15 q15 b15=>⟨exC y.1 y.2.1 y.2.2,zC _ _ _,zm b15 aty,nL hbq b15.size,j8 (P:=X.drew.heap.size) (Q:=(X.drew.alloc zEx).heap.size) b15 (q15) zX (p15) (by omega) (by omega) fun V17 p17 q17 b17=>⟨((X.drew.alloc zEx).heap.size,X.drew.heap.size),(cvE rfl rfl),q17,p17,b17⟩⟩
    ·exact⟨exC y.1 y.2.1 y.2.2,zC _ _ _,zm b14 aty,nL hbq b14.size,j8 (P:=(X.drew.alloc zEx).heap.size) (Q:=X.drew.heap.size) b14 (zy (X.drew.alloc zEx) zEx) zX (qF zEx (zy X.drew zEx)) (by omega) (by omega) fun V19 p19 q19 b19=>j8 (P:=X.drew.heap.size) (Q:=(X.drew.alloc zEx).heap.size) b19 (q19) zX (p19) (by omega) (by omega) fun V20 p20 q20 b20=>⟨((X.drew.alloc zEx).heap.size,X.drew.heap.size),(cvE rfl rfl),q20,p20,b20⟩⟩
   ·refine⟨exC y.1 y.2.1 y.2.2,zC _ _ _,zm b13 aty,nL hbq b13.size,(zba _ _),?_⟩;have b22:=b13.alloc b13.size zEx;have z22:=wz (X.drew.alloc zEx) zEx;exact j8 (P:=(X.drew.alloc zEx).heap.size) (Q:=X.drew.heap.size) b22 (zy (X.drew.alloc zEx) zEx) zX (qF zEx (zy X.drew zEx)) (by omega) (by omega) fun V23 p23 q23 b23=>j8 (P:=X.drew.heap.size) (Q:=(X.drew.alloc zEx).heap.size) b23 (q23) zX (p23) (by omega) (by omega) fun V24 p24 q24 b24=>⟨((X.drew.alloc zEx).heap.size,X.drew.heap.size),(cvE rfl rfl),q24,p24,b24⟩
  ·refine⟨exC y.1 y.2.1 y.2.2,zC _ _ _,zm b0 aty,nL hbq b0.size,Gg ?_ ?_⟩
   ·refine⟨(zba _ _),?_⟩;have b26:=b0.alloc b0.size zEx;have z26:=wz X.drew zEx;refine⟨(zba _ _),?_⟩;have b27:=b26.alloc b26.size zEx;have z27:=wz (X.drew.alloc zEx) zEx;exact j8 (P:=X.drew.heap.size) (Q:=(X.drew.alloc zEx).heap.size) b27 (qF zEx (zy X.drew zEx)) zX (zy (X.drew.alloc zEx) zEx) (by omega) (by omega) fun V28 p28 q28 b28=>j8 (P:=(X.drew.alloc zEx).heap.size) (Q:=X.drew.heap.size) b28 (q28) zX (p28) (by omega) (by omega) fun V29 p29 q29 b29=>⟨(X.drew.heap.size,(X.drew.alloc zEx).heap.size),(cvE rfl rfl),q29,p29,b29⟩
   ·refine⟨(zba _ _),?_⟩;have b30:=b0.alloc b0.size zEx;have z30:=wz X.drew zEx;refine⟨(zba _ _),?_⟩;have b31:=b30.alloc b30.size zEx;have z31:=wz (X.drew.alloc zEx) zEx;exact j8 (P:=(X.drew.alloc zEx).heap.size) (Q:=X.drew.heap.size) b31 (zy (X.drew.alloc zEx) zEx) zX (qF zEx (zy X.drew zEx)) (by omega) (by omega) fun V32 p32 q32 b32=>j8 (P:=X.drew.heap.size) (Q:=(X.drew.alloc zEx).heap.size) b32 (q32) zX (p32) (by omega) (by omega) fun V33 p33 q33 b33=>⟨((X.drew.alloc zEx).heap.size,X.drew.heap.size),(cvE rfl rfl),q33,p33,b33⟩
 rintro⟨P,Q⟩ Y ⟨fX,fY,hbY⟩;dsimp only at fX fY ⊢;replace vx:=vx.below hbY;replace vy:=vy.below hbY;replace hbX:=zst hbX hbY;clear hbY atx aty cb3 l3 hbq;clear X;obtain⟨x,qx,cx⟩:=x;obtain⟨y,qy,cy⟩:=y;dsimp only at hx1 hy1 vx vy fX fY;have hsay:=zse;have e1:xA=x:=hx1.symm;have e2:yA=y:=hy1.symm;rw [e1,e2] at hsay;clear hx1 hy1 e1 e2;simp only [bAT,dE,KK] at hsay;obtain⟨s1,s2,s3,s4,s5,s6,s7,s8,s9,s10,s11,s12,s13⟩:=hsay
 rename Wd=>X
 have hvx:=zp7 s12 vx;have sxx:=zmC x;obtain⟨bx,ox,hqx,hbx,hatx⟩:=zdh vx (by omega);obtain⟨by_,oy,hqy,hby,haty⟩:=zdh vy (by omega);have atx:=hatx 2 (by omega);have aty:=haty 2 (by omega);subst hqx hqy;have hbL:Bw X X:=Gb _ _;refine⟨_,j3 (za fX),brE (Us (by rw [s1];rfl)) ⟨_,j3 (za fX),2,rfl,by omega,?_⟩⟩;refine⟨u8 (evA x 2).v,by have:=zc atx (i:=3) (v:=u8 (evA x 2).v) rfl;exact this,brE (Us (by rw [s3];rfl)) ⟨_,j3 (za fY),2,rfl,by omega,?_⟩⟩;refine⟨u8 (evA y 2).v,by have:=zc aty (i:=3) (v:=u8 (evA y 2).v) rfl;exact this,brE (Us (by rw [s4];rfl)) ⟨0,rfl,by decide,?_⟩⟩;refine⟨s64 (x.rf.to 0),znU fX (by decide),brE (Us (by rw [s5];rfl)) ⟨1,rfl,by decide,?_⟩⟩;refine⟨s64 (y.rf.to 1),znU fY (by decide),brE (Us (by rw [s6];rfl)) ⟨0,rfl,by decide,?_⟩⟩;refine⟨s64 (x.co.to 0),zrd fX (by decide),brE (Us (by rw [s7];rfl)) ⟨_,zh _,zmM fY,hlt fY,_,zh _,zmM fX,hlt fX,_,fun w=>zbg _ _ _ _ w,brE (s8) ⟨0,rfl,by decide,?_⟩⟩⟩;refine⟨u8 (x.mem 0),zqb (za fX) (by decide),brE (Us (by rw [s9];rfl)) ⟨1,rfl,by decide,?_⟩⟩;refine⟨0,rfl,by decide,?_⟩;refine⟨u8 (y.regs 8),zqa (za fY) (i:=1) (j:=0) (by decide),brE (Us (by rw [s10];rfl)) ⟨_,zC _ _ _,za fX,hlt fX,cmo (zpc (hvx.below hbL) (hG.t64.below hbX)) ?_⟩⟩;rintro e U ⟨rfl,hbU⟩;have fX:=zb hbU fX;have fY:=zb hbU fY;replace hbX:=zst hbX hbU;replace hbL:=zst hbL hbU;refine brE (s11) ⟨_,zC _ _ _,za fX,hlt fX,_,zC _ _ _,za fX,hlt fX,cmo (ziO (vx.below hbL) (vx.below hbL) (by omega)) ?_⟩;rintro e U ⟨rfl,hbU⟩;have fX:=zb hbU fX;have fY:=zb hbU fY;replace hbX:=zst hbX hbU;replace hbL:=zst hbL hbU;refine brE (sxx) ⟨_,zC _ _ _,za fX,hlt fX,_,zC _ _ _,za fY,hlt fY,cmo (ziO (vx.below hbL) (vy.below hbL) (by omega)) ?_⟩;rintro e U ⟨rfl,hbU⟩;have fX:=zb hbU fX;have fY:=zb hbU fY;replace hbX:=zst hbX hbU;replace hbL:=zst hbL hbU;exact⟨rb (by rw [s13];rfl),hbX⟩
section
variable {w:Wd}
theorem zr9 {q:OA} {cap:Nat} {l:List InsD} (hl:SlR zD w q l) (hn:l.length<=1000000) :
  Calls PG 23 #[.slice q l.length cap] w fun e w'=>(∃ b:Bool,e = .returned (.bool b))/\Bw w w':=by
 refine jf 35 [.slice q l.length cap] (.s .p (.s .p (.c .p .p))) Tryz.func23 ?_;refine⟨Nat,fun n=>⟨[(0,.slice q l.length cap),(3,i64 (n:Nat))],[]⟩,fun n X=>Bw w X,?_,?_⟩
 ·refine⟨Nat×Nat,fun s=>⟨[(0,.slice q l.length cap),(3,i64 (s.2:Nat)),(6,.slice q l.length cap),(7,i64 l.length),(8,i64 (s.1:Nat))],[]⟩,fun s X=>(s.1<=l.length/\s.2<=s.1)/\Bw w X,fun s=>l.length-s.1,(0,0),
   (cvE rfl rfl),⟨⟨UZ _,UW _⟩,Gb _ _⟩,?_⟩
  rintro⟨k,n⟩ X ⟨⟨hk,hnk⟩,hbX⟩;dsimp only at hk hnk ⊢;refine biE (fun hc=>?_) fun hc=>?_
  ·have hc:(k:Int)<(l.length:Int):=dT hc;have hkl:k<l.length:=by omega
   obtain⟨bp,op,rfl,hlp,hat⟩:=hl.at hkl;refine⟨k,rfl,hkl,zD.enc l[k],zD.len _,zm hbX (hat k hkl),nL hlp hbX.size,zn (X:=X) (v := .agg (zD.enc l[k]).toArray) k41 (zD.len _) rfl (Qk.2 fun u hu=>zD.one _ u hu) fun Y hbY fY sY=>?_⟩;have fY:Y.heap[X.heap.size]?=some (.cells (zD.enc l[k]).toArray 41 (0,0)):=fY;have c0:Y.cell? ⟨X.heap.size,0+0,none⟩=some (u8 l[k].op):=zc (za fY) (i:=0) rfl;have hwY:=zst hbX hbY;have fin1:(k+1<=l.length/\n+1<=k+1)/\Bw w Y:=⟨⟨hkl,by omega⟩,hwY⟩;have fin0:(k+1<=l.length/\n<=k+1)/\Bw w Y:=⟨⟨hkl,by omega⟩,hwY⟩;have lt:l.length-(k+1)<l.length-k:=by omega
   refine⟨_,c0,biE (fun h1=>?_) fun h1=>?_⟩
   ·exact brT (nxI (by omega) (nxI (by omega) ⟨(k+1,n+1),(cvE rfl rfl),fin1,lt⟩))
   ·refine⟨_,c0,biE (fun h2=>?_) fun h2=>?_⟩
    ·refine⟨_,c0,biE (fun h3=>?_) fun h3=>?_⟩
     ·exact nxI (by omega) (nxI (by omega) ⟨(k+1,n+1),(cvE rfl rfl),fin1,lt⟩)
     ·exact nxI (by omega) ⟨(k+1,n),(cvE rfl rfl),fin0,lt⟩
    ·exact brF (nxI (by omega) ⟨(k+1,n),(cvE rfl rfl),fin0,lt⟩)
  ·exact⟨n,(cvE rfl rfl),hbX⟩
 rintro n X hbX;refine biE (fun h1=>?_) fun h1=>?_
 ·exact⟨⟨_,rfl⟩,hbX⟩
 ·exact⟨⟨_,rfl⟩,hbX⟩
end
section
variable {w:Wd} {B:Nat} {pc:List Value} {p:Prg}
theorem zr8 (hB:B<=w.heap.size) (hP:PrgX B w pc p) :
  Calls PG 15 #[.agg pc.toArray] w fun e w'=>(∃ b:Bool,e = .returned (.bool b))/\Bw w w':=by
 refine jf 63 [.agg pc.toArray] (.c .p (.s .p (.s .p (.c .p .p)))) Tryz.func15 ?_;obtain⟨L,hL⟩:=nm (w.heap.size);have hpc:=hP.v.size;have hPl:=hP.v.len;obtain⟨q1,k1,q2,k2,q3,k3,q4,k4,hvs,_⟩:=hP.v.h;have hpc1:pc[1]?=some (.slice q1 p.locs.length k1):=by rw [hvs];rfl
 obtain⟨_,⟨p3,c3,h3,xs,hxs,zcV,hxr⟩,_⟩:=hP;have hxl:xs.length=p.threads.length:=by rw [<- hxs,QN]
 have hthr:=hPl.threads;refine⟨Unit,fun _=>⟨[(1,At0 L)],[]⟩,fun _ X=>X.heap[L]?=some (.cells pc.toArray 29 (0,0))/\Bw w X,⟨(),⟨.cons (by rw [hL];rfl) .nil,rfl⟩,by rw [hL];exact zy w _,(zba w _)⟩,?_⟩;rintro _ X ⟨f0,hbX⟩;have c3':X.cell? ⟨L,0+3,none⟩=some (.slice p3 p.threads.length c3):=zc (za f0) (i:=3) (by simpa using h3);have c1':X.cell? ⟨L,0+1,none⟩=some (.slice q1 p.locs.length k1):=zc (za f0) (i:=1) (by simpa using hpc1);refine⟨_,c3',biE (fun h1=>?_) fun h1=>?_⟩
 ·exact brT ⟨⟨_,rfl⟩,hbX⟩
 have h1:¬ (3:Int)<(p.threads.length:Int):=dF h1;refine⟨_,c1',biE (fun h2=>?_) fun h2=>?_⟩
 ·exact⟨⟨_,rfl⟩,hbX⟩
 refine⟨Nat,fun n=>⟨[(3,i64 (n:Nat))],[]⟩,fun n X=>Bw w X,?_,?_⟩
 ·refine⟨_,c3',?_⟩;refine⟨Nat×Nat,fun s=>⟨[(3,i64 (s.2:Nat)),(19,.slice p3 p.threads.length c3),(20,i64 p.threads.length),(21,i64 (s.1:Nat))],[]⟩,fun s Y=>(s.1<=p.threads.length/\s.2<=5*s.1)/\Bw w Y,fun s=>p.threads.length-s.1,(0,0),
   (cvE rfl rfl),⟨⟨UZ _,UW _⟩,hbX⟩,?_⟩
  clear c3' c1' f0 hbX;rintro⟨m,n⟩ Y ⟨⟨hm,hnm⟩,hbY⟩;dsimp only at hm hnm ⊢;refine biE (fun hc=>?_) fun hc=>?_
  ·have hc:(m:Int)<(p.threads.length:Int):=dT hc;have hmt:m<p.threads.length:=by omega
   have hmx:m<xs.length:=by omega
   obtain⟨b3,o3,hp3,hb3,hat3⟩:=zd1 (zcV.below (hbY.mono hB)) hmx;have hB2:b3<Y.heap.size:=nL hb3 (UM hB hbY.size);have e3:some (Value.slice p3 p.threads.length c3)=some (Value.slice (some ⟨b3,o3,none⟩) p.threads.length c3):=by rw [hp3]
   subst hp3;refine⟨m,rfl,hmt,zi2 xs[m],by have:=zc (hat3 m hmx) (i:=0) (v:=zi2 xs[m]) rfl;exact this,?_⟩;obtain⟨hrm,hrb⟩:=hxr _ (gM hmx);have hsl:SlR zD Y xs[m].2.1 xs[m].1:=(hrm.below (hbY.mono hB)).slr (UM hB hbY.size);obtain⟨l,hl⟩:=nm (xs[m].1);obtain⟨ql,hql⟩:=nm (xs[m].2.1);obtain⟨cl,hcl⟩:=nm (xs[m].2.2);have hv:zi2 xs[m] = .slice ql l.length cl:=by rw [hl,hql,hcl];rfl
   rw [<- hl,<- hql] at hsl;rw [hv];refine biE (fun h5=>?_) fun h5=>?_
   ·exact brT ⟨⟨_,rfl⟩,hbY⟩
   have h5:¬ (5:Int)<(l.length:Int):=dF h5;have hl5:l.length<=5:=by omega
   refine cmo (zr9 hsl (by omega)) ?_;rintro e Z ⟨⟨b,rfl⟩,hbZ⟩;have hwZ:=zst hbY hbZ;have hslZ:=hsl.below hbZ;refine biE (fun h6=>?_) fun h6=>?_
   ·exact⟨⟨_,rfl⟩,hwZ⟩
   refine⟨Nat×Nat,fun s=>⟨[(3,i64 (s.2:Nat)),(19,.slice (some ⟨b3,o3,none⟩) p.threads.length c3),(20,i64 p.threads.length),(21,i64 (m:Nat)),(33,.slice ql l.length cl),(34,i64 l.length),(35,i64 (s.1:Nat))],[]⟩,fun s V=>(s.1<=l.length/\s.2<=5*m+s.1)/\Bw Z V,fun s=>l.length-s.1,(0,n),
    (cvE rfl rfl),⟨⟨UZ _,by show n<=5*m+0;omega⟩,Gb _ _⟩,?_⟩
   rintro⟨k,n2⟩ V ⟨⟨hk,hn2⟩,hbV⟩;dsimp only at hk hn2 ⊢;refine biE (fun hc=>?_) fun hc=>?_
   ·have hc:(k:Int)<(l.length:Int):=dT hc;have hkl:k<l.length:=(by omega);obtain⟨bp,op,hqe,hlp,hat⟩:=hslZ.at hkl;subst hqe;refine⟨k,rfl,hkl,zD.enc l[k],zD.len _,zm hbV (hat k hkl),nL hlp hbV.size,zn (X:=V) (v := .agg (zD.enc l[k]).toArray) k41 (zD.len _) rfl (Qk.2 fun u hu=>zD.one _ u hu) fun U hbU fU sU=>?_⟩;have fU:U.heap[V.heap.size]?=some (.cells (zD.enc l[k]).toArray 41 (0,0)):=fU;have c0:U.cell? ⟨V.heap.size,0+0,none⟩=some (u8 l[k].op):=zc (za fU) (i:=0) rfl;have hZU:=zst hbV hbU;have fin1:(k+1<=l.length/\n2+1<=5*m+(k+1))/\Bw Z U:=⟨⟨hkl,by omega⟩,hZU⟩;have fin0:(k+1<=l.length/\n2<=5*m+(k+1))/\Bw Z U:=⟨⟨hkl,by omega⟩,hZU⟩;have lt:l.length-(k+1)<l.length-k:=(by omega);refine⟨_,c0,biE (fun h7=>?_) fun h7=>?_⟩
    ·exact brT (brT (nxI (by omega) (nxI (by omega) ⟨(k+1,n2+1),(cvE rfl rfl),fin1,lt⟩)))
    ·refine⟨_,c0,biE (fun h8=>?_) fun h8=>?_⟩
     ·exact brT (nxI (by omega) (nxI (by omega) ⟨(k+1,n2+1),(cvE rfl rfl),fin1,lt⟩))
     ·refine⟨_,c0,biE (fun h9=>?_) fun h9=>?_⟩
      ·refine⟨_,c0,biE (fun h=>?_) fun h=>?_⟩
       ·exact nxI (by omega) (nxI (by omega) ⟨(k+1,n2+1),(cvE rfl rfl),fin1,lt⟩)
       ·exact nxI (by omega) ⟨(k+1,n2),(cvE rfl rfl),fin0,lt⟩
      ·exact brF (nxI (by omega) ⟨(k+1,n2),(cvE rfl rfl),fin0,lt⟩)
   ·exact nxI (by omega) ⟨(m+1,n2),(cvE rfl rfl),⟨⟨hmt,by show n2<=5*(m+1);omega⟩,(zst hwZ hbV)⟩,zdc (by omega)⟩
  ·exact⟨n,(cvE rfl rfl),hbY⟩
 rintro n Y hbY;exact⟨⟨_,rfl⟩,hbY⟩
theorem zr1 (hB:B<=w.heap.size) (hP:PrgX B w pc p) (hG:GlobE w) :
  Calls PG 9 #[.agg pc.toArray] w fun e w'=>((∃ V,zbu p=true/\zaH p V 300/\∃ (xs:List zbX) (q:OA) (c:Nat),e = .returned (.tuple #[.slice q xs.length c,.bool true])/\xs.map (·.1)=zR p V/\OwnS exE 55 w.heap.size w' q c xs/\∀ x∈xs,OwnS evE 60 w.heap.size w' x.2.1 x.2.2 x.1.ev)\/e = .returned (.tuple #[.slice none 0 0,.bool false]))/\Bw w w':=by
 refine jf 22 [.agg pc.toArray] (.c .p (.s .p (.s .p .p))) Tryz.func9 ?_;obtain⟨L,hL⟩:=nm (w.heap.size);have hpc:=hP.v.size;refine⟨Unit,fun _=>⟨[(1,At0 L)],[]⟩,fun _ X=>X.heap[L]?=some (.cells pc.toArray 29 (0,0))/\Bw w X,⟨(),⟨.cons (by rw [hL];rfl) .nil,rfl⟩,by rw [hL];exact zy w _,(zba w _)⟩,?_⟩;rintro _ X ⟨f0,hbX⟩;refine⟨pc,hpc,za f0,hlt f0,cmo (zr8 (UM hB hbX.size) (hP.below (hbX.mono hB))) ?_⟩;rintro e Y ⟨⟨b,rfl⟩,hbY⟩;have hwY:=zst hbX hbY;have f0Y:=zb hbY f0
 cases b with
 | false =>
  exact brT (brT ⟨.inr rfl,hwY⟩)
 | true =>
  refine brF ⟨pc,hpc,za f0Y,hlt f0Y,cmo (ziP (UM hB hwY.size) (hP.v.below (hwY.mono hB)) (hG.c.below hwY)) ?_⟩;rintro e Z ⟨m,rfl,hm,hbZ⟩;have hwZ:=zst hwY hbZ;have f0Z:=zb hbZ f0Y;refine biE (fun h=>?_) fun h=>?_
  ·exact⟨.inr rfl,hwZ⟩
  have hm0:m=0:=by
   have h2:(!decide ((m:Int)=0))=false:=h;simpa using h2
  have hok:=hm.1 hm0;refine⟨pc,hpc,za f0Z,hlt f0Z,cmo (zcg (most:=300) (UM hB hwZ.size) (hP.below (hwZ.mono hB)) (hG.below hwZ) hok (by decide) fun V _=>zcZ (zcn hok)) ?_⟩;rintro e U ⟨(⟨V,hco,xs,q,c,rfl,hxs,oX,oE⟩ | ⟨_,rfl⟩),hbU⟩
  ·exact⟨.inl ⟨V,hok,hco,xs,q,c,rfl,hxs,oX.lower hwZ.size,fun x hx=>(oE x hx).lower hwZ.size⟩,(zst hwZ hbU)⟩
  ·exact⟨.inr rfl,(zst hwZ hbU)⟩
end
theorem zou {X:Wd} {b:Nat} {x:ExD} {q:OA} {c t:Nat} (fx:ExH X b x q c) (ht:t<4):zx X ⟨b,0+295+0+t*8,none⟩ (seg 8 fun i=>u8 (x.regs (8*t+i))):=by
 have h2:=zG (n:=t*8) (m:=8) (zgF fx);have e:((zaT x).drop (t*8)).take 8=seg 8 (fun i=>u8 (x.regs (8*t+i))):=by
  apply KR;intro i;by_cases hi:i<8
  ·rw [List.getElem?_take_of_lt hi,Kx,zax _ hi];unfold zaT;rw [Jr (by rw [zo];omega),zax _ (by omega),UN]
  ·rw [JK (by rw [Qv];omega),JK (by rw [zo];omega)]
 rw [e] at h2;exact h2
section
variable {w:Wd} {q r:OA} {c d:Nat} {x:ExD}
theorem zpb (hx0:SlR evE w q x.ev) (hy0:SlR evE w r x.ev) (hl:x.ev.length<=48):CB 28 #[.agg (exC x q c).toArray,.agg (exC x r d).toArray] w (.bool true):=by
 refine jf 80 [.agg (exC x q c).toArray,.agg (exC x r d).toArray] (.c .p (.c .p (.s .p .p))) Tryz.func28 ?_;obtain⟨L,hL⟩:=nm (w.heap.size);refine⟨Unit,fun _=>⟨[(2,At0 L),(3,At0 (L+1))],[]⟩,fun _ X=>ExH X L x q c/\ExH X (L+1) x r d/\Bw w X,?_,?_⟩
 ·have s1:=wz w (.cells (exC x q c).toArray 55);have h2:=zy (w.alloc (.cells (exC x q c).toArray 55)) (.cells (exC x r d).toArray 55);rw [s1] at h2;have b1:Bw w (w.alloc (.cells (exC x q c).toArray 55)):=zba w _;exact⟨(),⟨.cons (by rw [hL];rfl) (.cons (by rw [hL,<- s1];rfl) .nil),rfl⟩,by rw [hL];exact qF _ (zy w _),by rw [hL];exact h2,b1.alloc b1.size _⟩
 rintro _ X ⟨fX,fY,hbX⟩;have nr:∀ a:RelD,(!qM a a)=false:=fun a=>by rw [jA];rfl
 refine⟨Unit,fun _=>⟨[(2,At0 L),(3,At0 (L+1))],[]⟩,fun _ Z=>Z=X,?_,?_⟩
 ·exact⟨_,j3 (za fX),_,j3 (za fY),brN (by rw [Us rfl];rfl) ⟨_,zh _,zpC fX,hlt fX,_,zh _,zpC fY,hlt fY,_,fun w=>zc8 _ _ _ _ w,brN (nr _) ⟨_,zh _,zpB fX,hlt fX,_,zh _,zpB fY,hlt fY,_,fun w=>zc8 _ _ _ _ w,brN (nr _) ⟨_,zh _,zmM fX,hlt fX,_,zh _,zmM fY,hlt fY,_,fun w=>zc8 _ _ _ _ w,brN (nr _) ⟨_,zh _,zpD fX,hlt fX,_,zh _,zpD fY,hlt fY,_,fun w=>zc8 _ _ _ _ w,brN (nr _) ⟨_,zh _,zpE fX,hlt fX,_,zh _,zpE fY,hlt fY,_,fun w=>zc8 _ _ _ _ w,brN (nr _) ⟨_,zh _,zpA fX,hlt fX,_,zh _,zpA fY,hlt fY,_,fun w=>zc8 _ _ _ _ w,brN (nr _) ⟨_,zaD _,zgF fX,hlt fX,_,zaD _,zgF fY,hlt fY,_,fun w=>zpP _ _ x x w,brN (by rw [zfI.1 rfl];rfl) ⟨(),(cvE rfl rfl),rfl⟩⟩⟩⟩⟩⟩⟩⟩⟩
 rintro _ _ rfl;rename_i X;refine⟨Nat,fun i=>⟨[(2,At0 L),(3,At0 (L+1)),(5,i64 (i:Nat))],[]⟩,fun i Z=>i<=x.ev.length/\ExH Z L x q c/\ExH Z (L+1) x r d/\Bw w Z,fun i=>x.ev.length-i,0,(cvE rfl rfl),⟨UZ _,fX,fY,hbX⟩,?_⟩;clear fX fY hbX X;rintro i X ⟨hi,fX,fY,hbX⟩;refine⟨_,j3 (za fX),biE (fun hc=>?_) fun hc=>?_⟩
 ·have hc:(i:Int)<(x.ev.length:Int):=dT hc;have hin:i<x.ev.length:=by omega
  obtain⟨bx,ox,hqx,hbx,hatx⟩:=zdh hx0 (by omega);obtain⟨by_,oy,hqy,hby,haty⟩:=zdh hy0 (by omega);subst hqx hqy;have dX:Bw X X.drew:=(Gb _ _).drew;refine DrawE.ord [] [0,1,2,3,4,5,6,7,8,9,10] (by kernel_rfl) ?_;replace fX:=zb dX fX;replace fY:=zb dX fY;replace hbX:=zst hbX dX;exact⟨_,j3 (za fX),i,rfl,hin,_,rfl,zm hbX (hatx i hin),nL hbx hbX.size,_,j3 (za fY),i,rfl,hin,_,rfl,zm hbX (haty i hin),nL hby hbX.size,_,fun w=>zkT _ _ _ _ w,brN (by rw [Us rfl];rfl) (nxI (by omega) ⟨i+1,(cvE rfl rfl),⟨hin,fX,fY,hbX⟩,zdc (by omega)⟩)⟩
 ·exact⟨rfl,hbX⟩
end
section
variable {w:Wd} {q r:OA} {c d:Nat} {xs ys:List zbX}
theorem zqL (hq:SlR exE w q xs) (hr:SlR exE w r ys) (hqe:∀ x∈xs,SlR evE w x.2.1 x.1.ev) (hre:∀ x∈ys,SlR evE w x.2.1 x.1.ev) (he:xs.map (·.1)=ys.map (·.1)) (h48:∀ x∈xs,x.1.ev.length<=48) (hxl:xs.length<=9223372036854775807) :
  CB 12 #[.slice q xs.length c,.slice r ys.length d] w (.bool true):=by
 refine jf 27 [.slice q xs.length c,.slice r ys.length d] (.s .p (.c .p (.s .p .p))) Tryz.func12 ?_;have hlen:xs.length=ys.length:=by have:=Gj List.length he;simpa using this
 refine⟨Unit,fun _=>⟨[(0,.slice q xs.length c),(1,.slice r ys.length d)],[]⟩,fun _ Z=>Z=w,?_,?_⟩
 ·exact brN (by rw [Us (by omega)];rfl) ⟨(),(cvE rfl rfl),rfl⟩
 rintro _ _ rfl;rename_i w;refine⟨Nat,fun i=>⟨[(0,.slice q xs.length c),(1,.slice r ys.length d),(12,i64 xs.length),(13,i64 (i:Nat))],[]⟩,fun i Z=>i<=xs.length/\Bw w Z,fun i=>xs.length-i,0,(cvE rfl rfl),⟨UZ _,Gb _ _⟩,?_⟩;rintro i X ⟨hi,hbX⟩;refine biE (fun hc=>?_) fun hc=>?_
 ·have hc:(i:Int)<(xs.length:Int):=dT hc;have hin:i<xs.length:=by omega
  have hin2:i<ys.length:=by omega
  obtain⟨bx,ox,hqx,hbx,hatx⟩:=hq.at hin;obtain⟨by_,oy,hqy,hby,haty⟩:=hr.at hin2;subst hqx hqy;have e1:(xs[i]).1=(ys[i]).1:=by
   have h1:(xs.map (·.1))[i]?=some (xs[i]).1:=by rw [KV,gE hin];rfl
   have h2:(ys.map (·.1))[i]?=some (ys[i]).1:=by rw [KV,gE hin2];rfl
   rw [he,h2] at h1;exact (Uf h1).symm
  obtain⟨x,hx⟩:∃ x,xs[i]=x:=⟨_,rfl⟩;obtain⟨y,hy⟩:∃ y,ys[i]=y:=⟨_,rfl⟩;have hxm:x∈xs:=by rw [<- hx];exact gM hin
  have hym:y∈ys:=by rw [<- hy];exact gM hin2
  rw [hx,hy] at e1;have hbd:=hbX.drew;refine DrawE.ord [8] [0,1,2,3,4,5,6,7,8,9] (by kernel_rfl) ⟨i,rfl,hin,exC x.1 x.2.1 x.2.2,zC _ _ _,by rw [<- hx];exact zm hbd (hatx i hin),nL hbx hbd.size,i,rfl,hin2,exC x.1 y.2.1 y.2.2,zC _ _ _,by rw [e1,<- hy];exact zm hbd (haty i hin2),nL hby hbd.size,cmo (zpb (x:=x.1) ((hqe x hxm).below hbd) (by rw [e1];exact (hre y hym).below hbd) (h48 x hxm)) ?_⟩;rintro e T ⟨rfl,hbT⟩;exact brF (nxI (by omega) ⟨i+1,(cvE rfl rfl),⟨hin,(zst hbd hbT)⟩,zdc (by omega)⟩)
 ·exact⟨rfl,hbX⟩
end
theorem zle {p:Prg} {V:List UInt8} (hO:OkG p) {x:ExD} (hx:x∈zR p V) {i:Nat} (hi:p.threads.length<=i/8):x.regs i=0:=by
 obtain⟨m,hm,hx⟩:=List.mem_flatMap.1 hx;unfold qc at hx
 split at hx
 ·cases hx
 ·obtain⟨ds,hds,he⟩:=List.mem_filterMap.1 hm;obtain⟨c,hc,rfl⟩:=UJ.1 hx;obtain⟨hC,_,_⟩:=znf hO hds he;have hl:=zeO (p.threads.map (zu V)) ds;rw [QN] at hl;have e:m.base.regs=(asR 0 (qt (p.threads.map (zu V)) ds) { ex0 (zan p.init.length (qt (p.threads.map (zu V)) ds)) with ev:=jc 0 p.init }).regs:=by rw [hC.base];rfl
  show m.base.regs i=0;rw [e,zfX,Gp (UZ _),JK (by omega)];rfl
def qC (n:Nat) (x:ExD):ExD:={ x with regs:=fun i=>if i/8=n then 0 else x.regs i }
theorem zoB {x:ExD} {q:OA} {c n:Nat} (hn:n<4):(exC x q c).take (0+295+0+n*8)++seg 8 (fun _=>u8 0)++(exC x q c).drop (0+295+0+n*8+8)=exC (qC n x) q c:=by
 obtain⟨A,Z,hA,hE⟩:=zix x q c [];have h1:=hE x.regs;have h2:=hE (qC n x).regs;rw [QK] at h1 h2;have h1:exC x q c=_:=h1;have h2:exC (qC n x) q c=_:=h2;have e1:=zf6 (A:=A) (Z:=Z) (l:=seg 32 (fun i=>u8 (x.regs i))) (r:=seg 8 (fun _=>u8 0)) (o:=n*8) (m:=8) hA (by rw [zo];omega) (zo _ _);have e2:=zi6 (f:=x.regs) (g:=fun _=>0) hn;rw [e2] at e1;rw [h1,h2,show 0+295+0+n*8=295+n*8 by omega,e1];rfl
theorem zmY {p:Prg} {V:List UInt8} (hO:OkG p) {x:ExD} (hx:x∈zR p V):zb1 (qC p.threads.length (zfu p.threads.length x)) x=true:=by
 refine zpw rfl rfl (jA _) (jA _) rfl rfl rfl ?_;unfold zgB;rw [bAT,Qk,Qk];refine⟨fun i hi=>Us ?_,fun i _=>Us rfl⟩;show (if i/8=p.threads.length then 0 else if i/8=p.threads.length then mvP.regs (i%8) else x.regs i)=x.regs i;by_cases h:i/8=p.threads.length
 ·rw [Gp h,zle hO hx (by omega)]
 ·rw [Gn h,Gn h]
theorem zpG {B:Nat} {w:Wd} {vs:List Value} {p:Prg} (h:PrgX B w vs p):vs.all Value.oneCell'=true:=by
 obtain⟨p1,c1,p2,c2,p3,c3,p4,c4,rfl,_⟩:=h.v.h;rfl
def mvT (N:Nat):ziN:=([mvI],some ⟨N,0,none⟩,1)
theorem zoe {B N:Nat} {w W:Wd} {pc:List Value} {p:Prg} {ts:List ziN} {p3 q:OA} {c3 cq:Nat} (hP:PrgX B w pc p) (hb:Below B w W) (hB:B<=W.heap.size) (h3l:p.threads.length<=3)
  (hts:ts.map (·.1)=p.threads) (htr:∀ x∈ts,RowB zD B w x.2.1 x.1/\(x.1≠[]->∀ a,x.2.1=some a->a.block<B))
  (hq:SlR zeF W q (ts++[mvT N])) (fN:W.heap[N]?=some (.cells (zD.enc mvI).toArray 41 (0,0))) :
  PrgX W.heap.size W (pc.set 3 (.slice q (ts++[mvT N]).length cq)) (zbK p):=by
 have hl:(zbK p).threads=p.threads++[[mvI]]:=rfl;have htl:ts.length=p.threads.length:=by rw [<- hts,QN]
 have hxs:(ts++[mvT N]).map (·.1)=(zbK p).threads:=by rw [QR,hts];rfl
 have hlen:(ts++[mvT N]).length=(zbK p).threads.length:=by rw [<- hxs,QN]
 have rows:∀ x∈ts++[mvT N],RowB zD W.heap.size W x.2.1 x.1/\(x.1≠[]->∀ a,x.2.1=some a->a.block<W.heap.size):=fun x hx=>by
  rcases QS.1 hx with hx | hx
  ·obtain⟨h1,h2⟩:=htr x hx;exact⟨(h1.below hb).mono hB,fun hne a ha=>nL (h2 hne a ha) hB⟩
  ·rw [KB.1 hx];refine⟨.inr ⟨N,0,rfl,hlt fN,?_⟩,fun _ a ha=>by cases ha;exact hlt fN⟩;show zx W ⟨N,0,none⟩ ([mvI].flatMap zD.enc);rw [List.flatMap_singleton];exact za fN
 have hrowq:=RowB.of_slr hq;obtain⟨⟨hPl,p1,c1,p2,c2,p3',c3',p4,c4,hvs,h1,h2,h3,h4,h5⟩,_,q2,d2,hi1,hi2⟩:=hP;subst hvs;have hset:(qo p p1 c1 p2 c2 p3' c3' p4 c4).set 3 (.slice q (ts++[mvT N]).length cq)=qo (zbK p) p1 c1 p2 c2 q cq p4 c4:=by
  rw [hlen];rfl
 rw [hset];refine⟨⟨⟨hPl.name,hPl.locs,hPl.loc,hPl.init,?_,fun l h=>?_⟩,p1,c1,p2,c2,q,cq,p4,c4,rfl,(h1.below hb).mono hB,(h2.below hb).mono hB,⟨_,hxs,hrowq,fun x hx=>(rows x hx).1⟩,(h4.kept hb).wider hB,h5⟩,⟨q,cq,rfl,_,hxs,hrowq,rows⟩,q2,d2,hi1,(hi2.below hb).mono hB⟩
 ·show (p.threads++[[mvI]]).length<=_;rw [lap];show p.threads.length+1<=_;omega
 ·rw [hl] at h;rcases QS.1 h with h | h
  ·exact hPl.thread l h
  ·rw [KB.1 h];show 1<=_;decide
section
variable {w:Wd} {pc:List Value} {p:Prg}
theorem zlj (hP:PrgX w.heap.size w pc p) (hG:GlobE w) :
  CB 3 #[.agg pc.toArray] w (.bool true):=by
 refine zdQ (S:=sg 119) (zbe _) (args:=[.agg pc.toArray])
  (.c .p (.c .p (.c .p (.c .p (.c .p (.c .p (.c .p (.c .p (.c .p (.c .p (.s (.s .p (.b (.l (.s .p (.s .p (.c (.b (.s .p (.c .p (.c .p .p)))) .p)))))) .p))))))))))) Tryz.func3 rfl rfl (JS rfl) rfl ?_
 obtain⟨L,hL⟩:=nm (w.heap.size);have hpc:=hP.v.size;refine⟨Unit,fun _=>⟨[(1,At0 L)],[]⟩,fun _ X=>X.heap[L]?=some (.cells pc.toArray 29 (0,0))/\Bw w X,⟨(),⟨.cons (by rw [hL];rfl) .nil,rfl⟩,by rw [hL];exact zy w _,(zba w _)⟩,?_⟩;rintro _ X ⟨f0,hbX⟩;have aw:∀ Y,Bw w Y->Calls PG 10 #[] Y fun e w'=>e = .returned (.bool true)/\Bw w w':=fun Y hwY=>cmo (zsy (hG.below hwY)) fun e U h=>⟨h.1,hwY.trans (h.2.mono hwY.size)⟩;refine⟨Bool×List zbX×OA×Nat,fun s=>⟨[(1,At0 L),(3,.slice s.2.2.1 s.2.1.length s.2.2.2),(4,.bool s.1)],[]⟩,fun s Y=>(s.1=true->∃ V,zbu p=true/\zaH p V 300/\s.2.1.map (·.1)=zR p V/\OwnS exE 55 w.heap.size Y s.2.2.1 s.2.2.2 s.2.1/\∀ x∈s.2.1,OwnS evE 60 w.heap.size Y x.2.1 x.2.2 x.1.ev)/\Y.heap[L]?=some (.cells pc.toArray 29 (0,0))/\Bw w Y,?_,?_⟩
 ·refine⟨pc,hpc,za f0,hlt f0,cmo (zr1 hbX.size (hP.below hbX) (hG.below hbX)) ?_⟩;rintro e Y ⟨hcase,hbY⟩;have hwY:=zst hbX hbY;have f0Y:=zb hbY f0;obtain⟨V,hok,hco,xs,q,c,rfl,hxs,oX,oE⟩ | rfl:=hcase
  ·exact⟨(true,xs,q,c),(cvE rfl rfl),fun _=>⟨V,hok,hco,hxs,oX.lower hbX.size,fun x hx=>(oE x hx).lower hbX.size⟩,f0Y,hwY⟩
  ·exact⟨(false,[],none,0),(cvE rfl rfl),(fun h=>by cases h),f0Y,hwY⟩
 clear f0 hbX;clear X;rintro⟨ok,xs,q,c⟩ Y ⟨hcase,f0,hwY⟩;dsimp only at hcase ⊢;have hP2:=hP;obtain⟨_,⟨p3,c3,h3,ts,hts,zcV,htr⟩,_⟩:=hP2;have htl:ts.length=p.threads.length:=by rw [<- hts,QN]
 have ld3:∀ {Z:Wd},Bw Y Z->Z.cell? ⟨L,0+3,none⟩=some (.slice p3 p.threads.length c3):=fun {Z} hb=>zc (za (zb hb f0)) (i:=3) (by simpa using h3);refine⟨Unit,fun _=>⟨[(1,At0 L),(3,.slice q xs.length c)],[]⟩,fun _ X=>X=Y/\ok=true/\p.threads.length<=2,?_,?_⟩
 ·cases ok with
  | false =>
   refine brT (brT (cmo (aw Y hwY) ?_));rintro e U ⟨rfl,hbU⟩;exact⟨rfl,hbU⟩
  | true =>
   refine brF ⟨_,ld3 (Gb _ _),biE (fun h=>?_) fun h=>?_⟩
   ·refine cmo (aw Y hwY) ?_;rintro e U ⟨rfl,hbU⟩;exact⟨rfl,hbU⟩
   ·have h:¬ (2:Int)<(p.threads.length:Nat):=dF h;exact⟨(),(cvE rfl rfl),rfl,rfl,by omega⟩
 rintro _ _ ⟨rfl,rfl,ht2⟩;obtain⟨V,hok,hco,hxs,oX,oE⟩:=hcase rfl;clear hcase;rename_i Y;have hO:=zcn hok;have sYw:=hwY.size;have hxl:xs.length=(zR p V).length:=by rw [<- hxs,QN]
 have hx300:xs.length<=300:=by
  rw [hxl,zfj hO hco (by decide)];exact hco.2.2
 obtain⟨hk1,hk2⟩:=zli hO hco (by decide);rw [<- hxl] at hk1 hk2;have hCB:∀ V,qO V=V->CandB p V:=fun V _=>zcZ hO;have hx48:∀ x∈xs,x.1.ev.length<=48:=fun x hx=>(zlh hO hco (by decide) (by rw [<- hxs];exact Km hx)).n;have rX:=oX.row;have rE:=fun x hx=>(oE x hx).row;refine⟨List zbX×OA×Nat,fun s=>⟨[(1,At0 L),(3,.slice q xs.length c),(5,.slice s.2.1 s.1.length s.2.2),(6,i64 0)],[]⟩,fun s Z=>s.1.map (·.1)=zR p V/\SlR exE Z s.2.1 s.1/\(∀ x∈s.1,SlR evE Z x.2.1 x.1.ev)/\Bw Y Z,?_,?_⟩
 ·refine⟨pc,hpc,za f0,hlt f0,cmo (zcg (most:=xs.length) sYw (hP.below hwY) (hG.below hwY) hok (by omega) hCB) ?_⟩;rintro e Z ⟨(⟨V',hc',zs,qz,cz,rfl,hzs,oZ,oZe⟩ | ⟨hno,rfl⟩),hbZ⟩
  ·have e:V'=V:=by
    have:=hc'.1;rw [hco.1] at this;exact (Uf this).symm
   subst e;exact⟨(zs,qz,cz),(cvE rfl rfl),hzs,oZ.row,(fun x hx=>(oZe x hx).row),hbZ⟩
  ·exact Gq hk1 (hno V)
 rintro⟨zs,qz,cz⟩ Z ⟨hzs,rZ,rZe,hbZ⟩;dsimp only at hzs rZ rZe ⊢;refine⟨Unit,fun _=>⟨[(1,At0 L),(3,.slice q xs.length c)],[]⟩,fun _ X=>Bw Y X,?_,?_⟩
 ·refine brF ?_;have hzl:zs.map (·.1)=xs.map (·.1):=by rw [hzs,hxs]
  refine cmo (zqL (d:=c) rZ (rX.below hbZ) rZe (fun x hx=>(rE x hx).below hbZ) hzl (fun x hx=>by
   have:x.1∈xs.map (·.1):=by rw [<- hzl];exact Km hx
   obtain⟨y,hy,he⟩:=UJ.1 this;rw [<- he];exact hx48 y hy) (by
   have:=Gj List.length hzl;rw [QN,QN] at this;omega)) ?_
  rintro e T ⟨rfl,hbT⟩;exact brF ⟨(),(cvE rfl rfl),(zst hbZ hbT)⟩
 clear rZ rZe hzs hbZ Z;rintro _ Z hbZ;refine⟨Unit,fun _=>⟨[(1,At0 L),(3,.slice q xs.length c)],[]⟩,fun _ X=>Bw Y X,?_,?_⟩
 ·refine biE (fun h=>?_) fun h=>?_
  ·have h:(0:Int)<(xs.length:Nat):=dT h;have h:0<xs.length:=by omega
   have hwZ:=hwY.trans (hbZ.mono sYw);have f0Z:=zb hbZ f0;refine⟨pc,hpc,za f0Z,hlt f0Z,((xs.length-1:Nat):Int),(ze (by omega)).trans (by omega),cmo (zcg (most:=xs.length-1) hwZ.size (hP.below hwZ) (hG.below hwZ) hok (by omega) hCB) ?_⟩;rintro e T ⟨(⟨V',hc',_⟩ | ⟨_,rfl⟩),hbT⟩
   ·exact Gq hc' (hk2 h V')
   ·exact brF (brF ⟨(),(cvE rfl rfl),(zst hbZ hbT)⟩)
  ·exact⟨(),(cvE rfl rfl),hbZ⟩
 clear hbZ Z;rintro _ Z hbZ;refine⟨Nat,fun M=>⟨[(1,At0 L),(3,.slice q xs.length c),(9,At0 M)],[]⟩,fun M X=>X.heap[M]?=some (.cells pc.toArray 29 (0,0))/\Y.heap.size<=M/\Bw Y X,?_,?_⟩
 ·have f0Z:=zb hbZ f0;exact⟨pc,hpc,za f0Z,hlt f0Z,zn (X:=Z) (v := .agg pc.toArray) k29 (by show pc.length=_;rw [hpc]) rfl (zpG hP) fun T hbT fT sT=>⟨Z.heap.size,(cvE rfl rfl),fT,hbZ.size,(zst hbZ hbT)⟩⟩
 clear hbZ Z;rintro M Z ⟨fM,hYM,hbZ⟩;refine⟨OA×Nat×Nat,fun s=>⟨[(1,At0 L),(3,.slice q xs.length c),(9,At0 M)],[]⟩,fun s X=>X.heap[M]?=some (.cells (pc.set 3 (.slice s.1 (ts++[mvT s.2.2]).length s.2.1)).toArray 29 (0,0))/\SlR zeF X s.1 (ts++[mvT s.2.2])/\X.heap[s.2.2]?=some (.cells (zD.enc mvI).toArray 41 (0,0))/\Bw Y X,?_,?_⟩
 ·have hwZ:=hwY.trans (hbZ.mono sYw);have sZ:=hbZ.size;obtain⟨b3,o3,hp3,_,_⟩:=zd1 zcV (show 0<ts.length by have:=hO.t1;omega);have hcn:p3=none->c3=0:=fun h=>by rw [hp3] at h;cases h
  refine⟨⟨by decide,by decide,rfl⟩,[],rfl,?_⟩;have hb0:Bw Z (Z.alloc (.cells #[] 42)):=zba Z _;have hY0:=hbZ.trans (hb0.mono sZ);have hw0:=zst hwZ hb0;refine⟨.slice p3 p.threads.length c3,ld3 hY0,?_⟩;have fM0:=zb hb0 fM;refine zey (E:=zeF) (T:=42) (B:=Y.heap.size) (l:=[]) (news:=ts) (cap:=0) Tryz.underlying24 k42 rfl rfl rfl (zcP.lower sZ) htl ((zcV.below hw0).slr hw0.size) hcn hY0.size (by simp;omega) (by show (0+p.threads.length)*24<=_;omega) ?_;intro q1 k1 U oU gU hbU;rw [QU] at oU ⊢;have oM:OwnS zeF 42 Y.heap.size (Z.alloc (.cells #[] 42)) (some ⟨Z.heap.size,0,none⟩) 0 []:=zcP.lower sZ;have gU:(Z.alloc (.cells #[] 42)).grownBy U ((some (⟨Z.heap.size,0,none⟩:Addr)).map Addr.block):=gU;have fMU:=zZ fM0 oM (by decide) gU;have hYU:=hY0.trans hbU;refine⟨[.bool false,u8 3],rfl,[.bool false,u8 4],rfl,zD.enc mvI,by kernel_rfl,?_⟩;refine⟨⟨by decide,by decide,rfl⟩,zD.enc mvI,rfl,?_⟩;obtain⟨U1,hU1⟩:=nm (U.alloc (.cells (zD.enc mvI).toArray 41));have hb1:Bw U U1:=by rw [hU1];exact (zba _ _)
  obtain⟨N,hN⟩:=nm (U.heap.size);have fN1:U1.heap[N]?=some (.cells (zD.enc mvI).toArray 41 (0,0)):=by rw [hU1,hN];exact zy U _
  have hU1':U.alloc (.cells (zD.enc mvI).toArray 41)=U1:=hU1.symm;have hY1:=zst hYU hb1;refine⟨⟨by decide,by decide,rfl⟩,zeF.enc (mvT N),by rw [hN];rfl,?_⟩;have hb2:Bw U1 (U1.alloc (.cells (zeF.enc (mvT N)).toArray 42)):=zba _ _;have hY2:=zst hY1 hb2;have o2:=(oU.below hb1).below hb2;have f2:=zb hb2 (zb hb1 fMU);have n2:=zb hb2 fN1;unfold zdE zam;show SatR _ _;rw [hU1'];refine ju (E:=zeF) (T:=42) (B:=Y.heap.size) (l:=ts) (news:=[mvT N]) (cap:=k1) (m:=1) Tryz.underlying24 k42 rfl rfl rfl o2 rfl (qN zeF (mvT N)) hY2.size (by omega) (by show (ts.length+1)*24<=_;omega) ?_;intro q2 k2 W oW gW hbW hatW;rw [zag] at gW;have fW:=zZ f2 o2 (by decide) gW;have nW:=zZ n2 o2 (by decide) gW;have hYW:=hY2.trans hbW;refine zk (cs:=pc) k24 fW (o:=0+3) (v := .slice q2 (ts++[mvT N]).length k2) rfl rfl (by rw [hpc];decide) rfl ?_;intro S fS gS sS;have hNM:N≠M:=fun e=>by
   rw [e,fW] at nW;simp at nW
  exact⟨(q2,k2,N),(cvE rfl rfl),fS,(qa oW fW (by decide) gS).row,(gS.block N (hlt nW) (fun e=>by simp only [Qa] at e;exact hNM e)).trans nW,hYW.trans (zi gS hYW.size hYM)⟩
 clear fM hbZ Z;rintro⟨q9,c9,N⟩ Z ⟨fM,rT,fN,hbZ⟩;dsimp only at fM rT fN ⊢;have hwZ:=hwY.trans (hbZ.mono sYw);have hP':=zoe (cq:=c9) (p3:=p3) (c3:=c3) hP hwZ hwZ.size (by omega) hts htr rT fN;have hok':=zpN hok (by omega);have hO':=zcn hok';refine⟨List zbX×OA×Nat,fun s=>⟨[(1,At0 L),(3,.slice q xs.length c),(10,.slice s.2.1 s.1.length s.2.2),(11,i64 0)],[]⟩,fun s X=>s.1.map (·.1)=(zR p V).map (zfu p.threads.length)/\SlR exE X s.2.1 s.1/\(∀ x∈s.1,SlR evE X x.2.1 x.1.ev)/\Bw Y X,?_,?_⟩
 ·refine⟨_,hP'.v.size,za fM,hlt fM,cmo (zcg (most:=300) (UW _) hP' (hG.below hwZ) hok' (by decide) fun V _=>zcZ hO') ?_⟩;rintro e T ⟨(⟨V',hc',zs,qz,cz,rfl,hzs,oZ,oZe⟩ | ⟨hno,rfl⟩),hbT⟩
  ·have e:V'=V:=by
    have:=hc'.1;rw [ze4,hco.1] at this;exact (Uf this).symm
   subst e;rw [zlf] at hzs;exact⟨(zs,qz,cz),(cvE rfl rfl),hzs,oZ.row,(fun x hx=>(oZe x hx).row),(zst hbZ hbT)⟩
  ·exact Gq (zj7 hco) (hno V)
 clear fM rT fN hwZ hP' hbZ Z;rintro⟨zs,qz,cz⟩ Z ⟨hzs,rZ,rZe,hbZ⟩;dsimp only at hzs rZ rZe ⊢;have hzl:zs.length=xs.length:=by
  have:=Gj List.length hzs;rw [QN,QN] at this;omega
 refine⟨Unit,fun _=>⟨[(1,At0 L),(3,.slice q xs.length c),(10,.slice qz zs.length cz)],[]⟩,fun _ X=>X=Z,?_,?_⟩
 ·exact brF (brN (by rw [hzl,Us rfl];rfl) ⟨(),(cvE rfl rfl),rfl⟩)
 rintro _ _ rfl;rename_i Z;have sZ:=hbZ.size;refine⟨Nat,fun i=>⟨[(1,At0 L),(3,.slice q xs.length c),(87,.slice qz zs.length cz),(88,i64 zs.length),(89,i64 (i:Nat))],[]⟩,fun i X=>i<=zs.length/\Bw Z X,fun i=>zs.length-i,0,(cvE rfl rfl),⟨UZ _,Gb _ _⟩,?_⟩;rintro i X ⟨hi,hbX⟩;refine biE (fun hc=>?_) fun hc=>?_
 ·have hc:(i:Int)<(zs.length:Int):=dT hc;have hil:i<zs.length:=by omega
  have hix:i<xs.length:=by omega
  obtain⟨bz,oz,hqz,hbz,hatz⟩:=rZ.at hil;obtain⟨b,o,hq,hlb,hat⟩:=rX.at hix;subst hqz hq;obtain⟨z,hz⟩:∃ z,zs[i]=z:=⟨_,rfl⟩;obtain⟨x,hx⟩:∃ x,xs[i]=x:=⟨_,rfl⟩;have hzm:z∈zs:=by rw [<- hz];exact gM hil
  have hxm:x∈xs:=by rw [<- hx];exact gM hix
  have hzx:z.1=zfu p.threads.length x.1:=by
   have h1:(zs.map (·.1))[i]?=some z.1:=by rw [KV,gE hil,hz];rfl
   have h2:(xs.map (·.1))[i]?=some x.1:=by rw [KV,gE hix,hx];rfl
   rw [hzs,<- hxs,KV,h2] at h1;exact (Uf h1).symm
  have hxc:x.1∈zR p V:=by rw [<- hxs];exact Km hxm
  have sX:=hbX.size;have hYX:=hbZ.trans (hbX.mono sZ);refine⟨Unit,fun _=>⟨[(1,At0 L),(3,.slice (some ⟨b,o,none⟩) xs.length c),(87,.slice (some ⟨bz,oz,none⟩) zs.length cz),(88,i64 zs.length),(89,i64 (i:Nat))],[]⟩,fun _ X=>Bw Z X,?_,?_⟩
  rotate_left
  ·rintro _ X2 hbX2;exact nxI (by omega) ⟨i+1,(cvE rfl rfl),⟨hil,hbX2⟩,zdc (by omega)⟩
  refine⟨i,rfl,hil,exC z.1 z.2.1 z.2.2,zC _ _ _,by rw [<- hz];exact zm hbX (hatz i hil),nL hbz sX,zn (X:=X) (v := .agg (exC z.1 z.2.1 z.2.2).toArray) k55 (zC _ _ _) zX (zbf _ _ _) fun T hbT fK0 sT=>?_⟩;obtain⟨K,hK⟩:=nm (X.heap.size);have fK:ExH T K z.1 z.2.1 z.2.2:=by rw [hK];exact fK0
  have hKZ:Z.heap.size<=K:=by omega
  have hZT:=hbX.trans (hbT.mono sX);have hYT:=hbZ.trans (hZT.mono sZ);rw [<- hK];clear fK0 hK hbT sT;have hn4:p.threads.length<4:=by omega
  refine⟨Unit,fun _=>⟨[(1,At0 L),(3,.slice (some ⟨b,o,none⟩) xs.length c),(12,i64 (i:Nat)),(13,At0 K),(87,.slice (some ⟨bz,oz,none⟩) zs.length cz),(88,i64 zs.length),(89,i64 (i:Nat))],[]⟩,fun _ X=>X=T,?_,?_⟩
  ·refine⟨_,ld3 hYT,p.threads.length,rfl,hn4,7,rfl,by decide,?_⟩;have h7:=zc (zou fK hn4) (i:=7) (v:=u8 (z.1.regs (8*p.threads.length+7))) (zax _ (by decide));have e7:z.1.regs (8*p.threads.length+7)=7:=by
    rw [hzx];show (if (8*p.threads.length+7)/8=p.threads.length then mvP.regs ((8*p.threads.length+7)%8) else _)=7;rw [Gp (by omega),show (8*p.threads.length+7)%8=7 by omega,zpR];rfl
   rw [e7] at h7;exact⟨u8 7,h7,brF ⟨(),(cvE rfl rfl),rfl⟩⟩
  rintro _ _ rfl;rename_i T;refine⟨Unit,fun _=>⟨[(1,At0 L),(3,.slice (some ⟨b,o,none⟩) xs.length c),(12,i64 (i:Nat)),(13,At0 K),(87,.slice (some ⟨bz,oz,none⟩) zs.length cz),(88,i64 zs.length),(89,i64 (i:Nat))],[]⟩,fun _ X=>ExH X K (qC p.threads.length z.1) z.2.1 z.2.2/\Bw Z X,?_,?_⟩
  ·refine⟨_,ld3 hYT,seg 8 (fun _=>u8 0),rfl,p.threads.length,rfl,hn4,jK k49 fK (o:=0+295+0+p.threads.length*8) (v := .agg (seg 8 (fun _=>u8 0)).toArray) (zo _ _) (by show _+(seg 8 _).length<=(exC _ _ _).length;rw [zC,zo];omega) (zaZ fun _=>rfl) fun U fU gU sU=>?_⟩;have fU:U.heap[K]?=some (.cells (exC (qC p.threads.length z.1) z.2.1 z.2.2).toArray 55 (0,0)):=by
    rw [<- zoB hn4];refine fU.trans ?_;show some (Obj.cells ((exC z.1 z.2.1 z.2.2).take _++seg 8 (fun _=>u8 0)++(exC z.1 z.2.1 z.2.2).drop (0+295+0+p.threads.length*8+(seg 8 (fun _=>u8 0)).length)).toArray _ _)=_;rw [zo]
   exact⟨(),(cvE rfl rfl),fU,hZT.trans (zi gU hZT.size hKZ)⟩
  clear fK hZT hYT T;rintro _ T ⟨fK,hZT⟩;have hZd:=hZT.drew;have hYd:=hbZ.trans (hZd.mono sZ);refine DrawE.ord [5] [0,1,2,3,4,5,6] (by kernel_rfl) ⟨exC (qC p.threads.length z.1) z.2.1 z.2.2,zC _ _ _,za (hdr fK),hlt (hdr fK),i,rfl,hix,exC x.1 x.2.1 x.2.2,zC _ _ _,by rw [<- hx];exact zm hYd (hat i hix),nL hlb hYd.size,?_⟩;have hS:=ziO (x:=qC p.threads.length z.1) (y:=x.1) (c:=z.2.2) (d:=x.2.2) (w:=T.drew) (q:=z.2.1) (r:=x.2.1) ((rZe z hzm).below hZd) ((rE x hxm).below hYd) (by
   have:=hx48 x hxm;show z.1.ev.length<_;rw [hzx];show x.1.ev.length<_;omega)
  rw [hzx,zmY hO hxc] at hS;rw [hzx];refine cmo hS ?_;rintro e U ⟨rfl,hbU⟩;exact brF ⟨(),(cvE rfl rfl),(zst hZd hbU)⟩
 ·refine cmo (aw X ((hwY.trans (hbZ.mono sYw)).trans (hbX.mono (by omega)))) ?_;rintro e U ⟨rfl,hbU⟩;exact⟨rfl,hbU⟩
end
end Go.Proofs.YtpalcnbhkigagaaGreatDoor
namespace Go.Proofs.YtpalcnbhkigagaaGreatDoor
open Go.Vc Go.RowKit Go.Sei
open Go.ChangeShapes Go.WideShapes Go.ChangeAt
section
variable {H:Type} {enc:TypeId×Value->H} {P:Program} {w:Wd} {base:Nat} {spare:Nat->Bool} {held:Bool} {fuel:Nat} {t:TypeId} {cs:List Value} {x:DataW H×List MemPlace}
theorem zlU (ht:P.underlying t=some (.int .u8)) (h:DataW.trod enc P w base spare held fuel t cs=some x):∃ b:UInt8,cs=[u8 b]/\x.1 = .lit (.int .u8 b.toNat):=by
 obtain⟨n,rfl,rfl,hw⟩:=DataW.trod_int ht h;have hb:=bounds_u8 hw;have e:((UInt8.ofNat n.toNat).toNat:Int)=n:=by
  rw [KI];omega
 exact⟨UInt8.ofNat n.toNat,by rw [u8,e],by rw [e]⟩
theorem zgg {n:Nat} {e:TypeId} (ht:P.underlying t=some (.array n e)) (he:P.underlying e=some (.int .u8)) (hc:P.cellsOf e=1) (hn:P.cellsOf t=n)
  (h:DataW.trod enc P w base spare held fuel t cs=some x):∃ bs:List UInt8,bs.length=n/\cs=bs.map u8/\x.1 = .agg (bs.map fun b => .lit (.int .u8 b.toNat)):=by
 obtain⟨xs,m,rfl,rfl,hl,hx,hel⟩:=DataW.trod_array ht h;rw [hn] at hl;have each:∀ i (h:i<n),∃ b:UInt8,cs[i]?=some (u8 b)/\xs[i]?.map (·.1)=some (.lit (.int .u8 b.toNat)):=fun i hi=>by
  have h1:=hel i hi;rw [hc,gE (by omega)] at h1;obtain⟨b,h2,h3⟩:=zlU he h1;refine⟨b,?_,by rw [gE (by omega),Ue,h3]⟩;have:((cs.drop (i*1)).take 1)[0]?=some (u8 b):=by rw [h2];rfl
  simpa using this
 have:∀ k,k<=n->∃ bs:List UInt8,bs.length=k/\cs.take k=bs.map u8/\(xs.take k).map (·.1)=bs.map fun b => .lit (.int .u8 b.toNat):=by
  intro k
  induction k with
  | zero=>exact fun _=>⟨[],rfl,by simp,by simp⟩
  | succ k ih =>
   intro hk;obtain⟨bs,h1,h2,h3⟩:=ih (by omega);obtain⟨b,h4,h5⟩:=each k (by omega);have hk1:k<cs.length:=by omega
   have hk2:k<xs.length:=by omega
   rw [gE hk1] at h4;rw [gE hk2] at h5;refine⟨bs++[b],by simp [h1],?_,?_⟩
   ·rw [tsg hk1,h2,Uf h4];simp
   ·rw [tsg hk2,QR,h3];simp at h5;simp [h5]
 obtain⟨bs,h1,h2,h3⟩:=this n (UW _);rw [JH (by omega)] at h2 h3;exact⟨bs,h1,h2,by rw [<- h3]⟩
end
theorem zaW:Tryz.prog.cellsOf 5=1:=by kernel_rfl
theorem zrV:Tryz.prog.cellsOf 4=1:=by kernel_rfl
theorem zkk (b o i:Nat):(⟨b,o,none⟩:Addr).add i=⟨b,o+i,none⟩:=by
 unfold Addr.add;by_cases h:i=0
 ·simp [h]
 ·simp [h]
section
variable {w:Wd} {base:Nat} {cs:List Value}
theorem ziJ {a:Addr} {n:Nat} (hn:0<n) (h:w.cells? base a n=some cs):a.spot=none/\a.block<w.heap.size/\zx w ⟨a.block,a.off,none⟩ cs:=by
 obtain⟨_,hl,hc⟩:=World.cells?_some h;have h0:=hc 0 hn;rw [gE (by omega)] at h0;have hs:a.spot=none:=by simpa [Addr.add] using World.cell?_spot h0
 obtain⟨b,o,s⟩:=a;dsimp only at hs;subst hs;refine⟨rfl,JA _ _ h0,zad fun i v hv=>?_⟩;have hi:i<n:=by have:=(Js.1 hv).1;omega
 have:=(hc i hi).trans hv;rw [zkk] at this;exact this
end
theorem znP:ownKnob Tryz.prog.godebug=none:=by kernel_rfl
theorem zh4:laidOutB PG=true:=by kernel_rfl
section
variable {H:Type} {enc:TypeId×Value->H} {P:Program} {w:Wd} {base:Nat} {spare:Nat->Bool} {held:Bool} {fuel:Nat} {t e:TypeId} {cs:List Value} {x:DataW H×List MemPlace}
def Opens (enc:TypeId×Value->H) (P:Program) (w:Wd) (base:Nat) (spare:Nat->Bool) (held:Bool) (t:TypeId) (R:List Value->Prop):Prop :=
 ∀ fuel cs x,DataW.trod enc P w base spare held fuel t cs=some x->R cs
theorem Opens.field {fs:Array Field} {R:List Value->Prop} {i:Nat} {f:Field} {n:Nat} {xs:List (DataW H×List MemPlace)} {m:Nat} (hel:∀ (i:Nat) (f:Field),fs[i]?=some f->DataW.trod enc P w base spare held m f.type ((cs.drop f.offset).take (P.cellsOf f.type))=xs[i]?)
  (hl:xs.length=fs.size) (hi:fs[i]?=some f) {o:Nat} (hoo:f.offset=o) (hn:P.cellsOf f.type=n) (ho:Opens enc P w base spare held f.type R):R ((cs.drop o).take n):=by
 subst hoo;have h1:=hel i f hi;have:i<fs.size:=(Jl.1 hi).1;rw [gE (by omega),hn] at h1;exact ho _ _ _ h1
theorem jB (ht:P.underlying t=some (.int .u8)):Opens enc P w base spare held t fun cs=>∃ b:UInt8,cs=[u8 b]:=fun fuel cs x h=>by
 obtain⟨b,h,_⟩:=zlU ht h;exact⟨b,h⟩
theorem zkP (ht:P.underlying t=some .bool):Opens enc P w base spare held t fun cs=>∃ b:Bool,cs=[.bool b]:=fun fuel cs x h=>by
 obtain⟨b,h,_⟩:=DataW.trod_bool ht h;exact⟨b,h⟩
theorem zpU {β:Type} {n:Nat} (i0:β) {Q:Nat->β->Prop} (h:∀ i,i<n->∃ b,Q i b):∃ bs:List β,bs.length=n/\∀ i (hi:i<bs.length),Q i bs[i]:=by
 have h2:∀ i,∃ b,i<n->Q i b:=fun i=>by
  by_cases hi:i<n
  ·obtain⟨b,hb⟩:=h i hi;exact⟨b,fun _=>hb⟩
  ·exact⟨i0,fun h=>Gq h hi⟩
 obtain⟨g,hg⟩:=Classical.axiomOfChoice h2;refine⟨(List.range n).map g,by simp,fun i hi=>?_⟩;simp only [Qr,Kz];exact hg i (by simpa using hi)
theorem cut (cs:List Value) (o n o':Nat) (h:o+n=o'):cs.drop o=(cs.drop o).take n++cs.drop o':=by
 rw [<- h,<- Uk,JQ]
end
theorem cC (t n:Nat) (h:Tryz.prog.cellsOf t=n):Tryz.prog.cellsOf t=n:=h
theorem zd2 {H:Type} {enc:TypeId×Value->H} {a:Assume} {C:Checked} {os:Os} {f:FuncId} {fn:Func} {s:ChangeSpec} {conds:List PathCond} {apart fresh handsOn again:Bool} {X:Wd->Array Value->Prop}
  (hX:∀ (w w':Wd) (args:Array Value),w.heap=w'.heap->X w args->X w' args)
  (own:ownKnob C.prog.godebug=none) (started:os.Started) (noInit:C.prog.inits.idxOf? f=none) (hfn:C.prog.funcs[f]?=some fn)
  (witness:∃ (w:Wd) (tape:Tape) (i:Input),w.os=os/\(w.forCall tape i).Shaped C.prog/\i.vars=[]/\Input.okWide C.prog (w.forCall tape i) .any w.heap.size f i /\
   ((s.pre enc C.prog fn conds apart (w.forCall tape i).memory i.args/\X (w.forCall tape i).memory i.args)/\sizedMet enc C.prog fn (OpenSpec.ofChange s) apart (w.forCall tape i).memory i.args)/\a.holds C.prog (lone (Frame.enter C.prog f i.args .normal) [] (w.forCall tape i)))
  (contract:∀ (W:Wd) (base:Nat) (args:Array Value) (ds gs:List (DataW H)) (before:List MemPlace),
   (∀ (j:Nat) t v,fn.params[j]?=some t->args[j]?=some v->Value.okWide C.prog W .any base t v) ->
   DataW.Whole enc C.prog fn.params.toList s.vars apart W args.toList ds gs before->X W args->W.ShapedOpen C.prog ->
   (∃ ds gs before,DataW.Whole enc C.prog fn.params.toList (OpenSpec.ofChange s).vars apart W args.toList ds gs before/\∀ n∈DataW.weightsEach C.prog (fn.params.toList++(OpenSpec.ofChange s).bare.plain.varTypes C.prog) (ds++gs),n<=reachBytes) ->
   Calls C.prog f args W fun e W'=>∃ v,e = .returned v/\s.post enc C.prog fn apart fresh handsOn again W args v W') :
  ReturnsInHanded a C os f .any (fun w args=>(s.pre enc C.prog fn conds apart w args/\X w args)/\sizedMet enc C.prog fn (OpenSpec.ofChange s) apart w args) (s.post enc C.prog fn apart fresh handsOn again):=by
 refine returnsInHanded_of_calls own started noInit witness ?_;intro w tape i _ hsh _ hok hpre hholds;obtain⟨_,_,_,fn',hfn',_,_,_,_,hval⟩:=hok;have e:fn'=fn:=Uf (hfn'.symm.trans hfn);subst e;obtain⟨⟨⟨ds,gs,before,hw,hc⟩,hx⟩,hz⟩:=hpre;have hw':=DataW.Whole.of_heap (w':=w.forCall tape i) (by rfl) hw;obtain⟨_,ds2,gs2,before2,hw2,hall⟩:=hz;refine (contract (w.forCall tape i) w.heap.size i.args ds gs before hval hw' (hX _ _ _ (by rfl) hx) hsh ⟨ds2,gs2,before2,DataW.Whole.of_heap (w':=w.forCall tape i) (by rfl) hw2,fun n hn=>dT (Qk.1 hall n hn)⟩).mono fun e W' ⟨v,he,hp⟩=>?_;subst he;exact ChangeSpec.post_blind hp
section
variable {H:Type} {enc:TypeId×Value->H} {P:Program} {w:Wd} {base:Nat} {spare:Nat->Bool} {held:Bool} {fuel:Nat} {t:TypeId} {cs:List Value} {x:DataW H×List MemPlace}
def Wgt (P:Program) (t:TypeId) (d:DataW H):Prop:=∀ n∈d.weights P t,n<=reachBytes
theorem zpq {ds:List (DataW H)} {e:TypeId} (h:∀ n∈DataW.weightsAll P e ds,n<=reachBytes):∀ d∈ds,Wgt P e d:=by
 induction ds with
 | nil=>intro d hd;cases hd
 | cons a r ih =>
  intro d hd;simp only [DataW.weightsAll,QS] at h;rcases UC.1 hd with rfl | hd
  ·exact fun n hn=>h n (.inl hn)
  ·exact ih (fun n hn=>h n (.inr hn)) d hd
end
theorem zgm {H:Type}:∀ {a b:List UInt8},a.map (fun b=>(DataW.lit (.int .u8 b.toNat):DataW H))=b.map (fun b=>DataW.lit (.int .u8 b.toNat))->a=b
 | [],[],_=>rfl
 | [],_::_,h=>by cases h
 | _::_,[],h=>by cases h
 | x::a,y::b,h=>by
  simp only [UB,QL,DataW.lit.injEq,Lit.int.injEq,true_and] at h;rw [zgm h.2,Ug.1 (by omega:x.toNat=y.toNat)]
section
variable {H:Type} {enc:TypeId×Value->H} {P:Program} {w:Wd} {base:Nat} {spare:Nat->Bool} {held:Bool} {fuel F:Nat} {t e:TypeId} {cs:List Value} {x:DataW H×List MemPlace}
def OpensW (enc:TypeId×Value->H) (P:Program) (w:Wd) (base:Nat) (spare:Nat->Bool) (held:Bool) (F:Nat) (t:TypeId) (R:List Value->Prop):Prop :=
 ∀ n,n<F->∀ cs x,DataW.trod enc P w base spare held n t cs=some x->Wgt P t x.1->R cs
theorem zaQ {R:List Value->Prop} (h:Opens enc P w base spare held t R):OpensW enc P w base spare held F t R:=fun n _ cs x h1 _=>h n cs x h1
theorem OpensW.field {fs:Array Field} {R:List Value->Prop} (ht:P.underlying t=some (.struct fs)) (h:DataW.trod enc P w base spare held fuel t cs=some x) (hw:Wgt P t x.1) (hF:fuel<=F) {i:Nat} {f:Field} (hf:fs[i]?=some f) {T o k:Nat} (hT:f.type=T) (hO:f.offset=o) (hk:P.cellsOf T=k)
  (ho:OpensW enc P w base spare held F T R):R ((cs.drop o).take k):=by
 subst hT hO hk;obtain⟨xs,n,rfl,rfl,hl,hx,hel⟩:=KL ht h;have h1:=hel i f hf;have hi:i<xs.length:=by rw [hx];exact (Jl.1 hf).1
 rw [gE hi] at h1;refine ho n (by omega) _ _ h1 fun m hm=>hw m ?_;simp only [DataW.weights,ht];refine DataW.weights_mem_each (j:=i) (t:=f.type) (d:=xs[i].1) ?_ ?_ m hm
 ·rw [KV];have:fs.toList[i]?=some f:=by simpa using hf
  rw [this];rfl
 ·rw [KV,gE hi];rfl
theorem zge (ht:P.underlying t=some .string):OpensW enc P w base spare held F t fun cs=>∃ s:List UInt8,s.length<=140737488351232/\cs=[qk s]:=fun n _ cs x h hw=>by
 obtain⟨s,rfl,rfl,_⟩:=DataW.trod_string ht h;refine⟨s.data.toList,hw _ (by simp [DataW.weights]),?_⟩;unfold qk bs;rw [Array.toArray_toList]
theorem zb7 {β:Type} (i0:β) {f:β->List Value} {Q:β->Prop} {sz:Nat} (hp:0<sz) (ht:P.underlying t=some (.slice e)) (hc:P.cellsOf e=sz) (hb:Nat.ble 1 (P.bytesOf e)=true) (ho:OpensW enc P w base spare held F e fun cs=>∃ b,Q b/\cs=f b) :
  OpensW enc P w base spare held (F+1) t fun cs=>∃ (p:OA) (cap:Nat) (l:List β),cs=[.slice p l.length cap]/\(l.length<=140737488351232/\l.length*P.bytesOf e<=140737488351232)/\l.length<=cap/\(∀ b∈l,Q b)/\∃ b o,(l.length=0\/p=some ⟨b,o,none⟩)/\∀ i (hi:i<l.length),b<w.heap.size/\zx w ⟨b,o+i*sz,none⟩ (f l[i]):=fun n hn cs x h hw=>by
 rcases DataW.trod_slice ht h with ⟨rfl,_⟩ | ⟨a,len,cap,elems,jg,n,rfl,rfl,hx,_,hlc,hcm,hlen,hel,_,_⟩
 ·exact⟨none,0,[],rfl,⟨by simp,by simp⟩,by simp,by simp,0,0,.inl rfl,fun i hi=>by simp at hi⟩
 ·subst hx;have hw':∀ m,m∈((elems.map (·.1)).length+(jg.map (·.1)).length)*P.bytesOf e::(DataW.weightsAll P e (elems.map (·.1))++DataW.weightsAll P e (jg.map (·.1)))->m<=reachBytes:=fun m hm=>by
   refine hw m ?_;simp only [DataW.weights,ht];exact hm
  have hb:=JS hb;have hlb:len<=140737488351232/\len*P.bytesOf e<=140737488351232:=by
   have h1:=hw' _ KA;simp only [QN] at h1;have:elems.length*1<=(elems.length+jg.length)*P.bytesOf e:=Uq (Qz _ _) hb;have h2:elems.length*P.bytesOf e<=(elems.length+jg.length)*P.bytesOf e:=Uq (Qz _ _) (UW _);have hr:reachBytes=140737488351232:=rfl;rw [<- hlen];omega
  have each:∀ i,i<len->∃ m:β,Q m/\(a.add (i*sz)).spot=none/\(a.add (i*sz)).block<w.heap.size/\zx w ⟨(a.add (i*sz)).block,(a.add (i*sz)).off,none⟩ (f m):=fun i hi=>by
   have h1:=hel i hi;rw [hc,gE (by omega),Option.bind_eq_some_iff] at h1;obtain⟨cs,h2,h3⟩:=h1;obtain⟨m,hq,rfl⟩:=ho n (by omega) _ _ h3 (zpq (ds:=elems.map (·.1)) (fun m hm=>hw' m (JY _ (JW _ hm))) _ (Km (gM _)));exact⟨m,hq,ziJ hp h2⟩
  obtain⟨l,h1,h2⟩:=zpU i0 each;refine⟨some a,cap,l,by rw [h1],by rw [h1];exact hlb,by omega,fun b hb=>?_,a.block,a.off,?_,fun i hi=>?_⟩
  ·obtain⟨i,hi,rfl⟩:=Kj hb;exact (h2 i hi).1
  ·by_cases h00:l.length=0
   ·exact .inl h00
   ·right;have hsp:a.spot=none:=by
     have:=(h2 0 (by omega)).2.1;simpa [Addr.add] using this
    obtain⟨b,o,s⟩:=a;dsimp only at hsp;subst hsp;rfl
  ·have hsp:a.spot=none:=by
    have:=(h2 0 (by omega)).2.1;simpa [Addr.add] using this
   obtain⟨b,o,s⟩:=a;dsimp only at hsp;subst hsp;have:=(h2 i hi).2.2;rw [zkk] at this;exact this
end
section
variable {H:Type} {enc:TypeId×Value->H} {P:Program} {w:Wd} {base:Nat} {spare:Nat->Bool} {held:Bool} {fuel F:Nat} {t e:TypeId} {cs:List Value} {x:DataW H×List MemPlace}
theorem zeH {α:Type} {E:Enc α} {p:OA} {l:List α} (h:∃ b o,(l.length=0\/p=some ⟨b,o,none⟩)/\∀ i (hi:i<l.length),b<w.heap.size/\zx w ⟨b,o+i*E.sz,none⟩ (E.enc l[i])):RowB E w.heap.size w p l:=by
 obtain⟨b,o,hp,hc⟩:=h;by_cases h0:l=[]
 ·exact .inl h0
 ·have hl0:0<l.length:=List.length_pos_iff.2 h0;rcases hp with hp | rfl
  ·omega
  ·exact RowB.of_slr (.inr ⟨b,o,rfl,(hc 0 hl0).1,fun i hi=>(hc i hi).2⟩)
end
section
variable {H:Type} {enc:TypeId×Value->H} {w:Wd} {base:Nat} {spare:Nat->Bool} {held:Bool} {F:Nat}
theorem zht:Opens enc PG w base spare held 39 fun cs=>∃ (r:Bool) (n:UInt8),cs=[.bool r,u8 n]:=fun fuel cs x h=>by
 obtain⟨xs,m,rfl,rfl,hl,hx,hel⟩:=KL Tryz.underlying39 h;rw [cC 39 2 (by kernel_rfl)] at hl;obtain⟨b0,e0⟩:=Opens.field (o:=0) (i:=0) hel hx rfl rfl zrV (zkP Tryz.underlying4);obtain⟨b1,e1⟩:=Opens.field (o:=1) (i:=1) hel hx rfl rfl zaW (jB Tryz.underlying5);refine⟨b0,b1,?_⟩;have h0:cs=cs.drop 0:=rfl;have h9:cs.drop 2=[]:=JC (by omega);rw [h0,cut cs 0 1 1 rfl,cut cs 1 1 2 rfl,e0,e1,h9];rfl
theorem zmS:Opens enc PG w base spare held 41 fun cs=>∃ x:InsD,True/\cs=zD.enc x:=fun fuel cs x h=>by
 obtain⟨xs,m,rfl,rfl,hl,hx,hel⟩:=KL Tryz.underlying41 h;rw [cC 41 10 (by kernel_rfl)] at hl;obtain⟨b0,e0⟩:=Opens.field (o:=0) (i:=0) hel hx rfl rfl zaW (jB Tryz.underlying5);obtain⟨b1,e1⟩:=Opens.field (o:=1) (i:=1) hel hx rfl rfl zaW (jB Tryz.underlying5);obtain⟨b2,e2⟩:=Opens.field (o:=2) (i:=2) hel hx rfl rfl zaW (jB Tryz.underlying5);obtain⟨r3,n3,e3⟩:=Opens.field (o:=3) (i:=3) hel hx rfl rfl (cC 39 2 (by kernel_rfl)) zht;obtain⟨r4,n4,e4⟩:=Opens.field (o:=5) (i:=4) hel hx rfl rfl (cC 39 2 (by kernel_rfl)) zht;obtain⟨b5,e5⟩:=Opens.field (o:=7) (i:=5) hel hx rfl rfl zaW (jB Tryz.underlying5);obtain⟨b6,e6⟩:=Opens.field (o:=8) (i:=6) hel hx rfl rfl zaW (jB Tryz.underlying5);obtain⟨b7,e7⟩:=Opens.field (o:=9) (i:=7) hel hx rfl rfl zaW (jB Tryz.underlying5);refine⟨⟨b0,b1,b2,r3,n3,r4,n4,b5,b6,b7⟩,trivial,?_⟩;have h0:cs=cs.drop 0:=rfl;have h9:cs.drop 10=[]:=JC (by omega);rw [h0,cut cs 0 1 1 rfl,cut cs 1 1 2 rfl,cut cs 2 1 3 rfl,cut cs 3 2 5 rfl,cut cs 5 2 7 rfl,cut cs 7 1 8 rfl,cut cs 8 1 9 rfl,cut cs 9 1 10 rfl,e0,e1,e2,e3,e4,e5,e6,e7,h9];rfl
theorem zkQ:OpensW enc PG w base spare held F 42 fun cs=>∃ x:ziN,(x.1.length<=140737488351232/\RowB zD w.heap.size w x.2.1 x.1)/\cs=zeF.enc x:=fun n hn cs x h hw=>by
 obtain⟨p,cap,l,h1,h2,_,_,h3⟩:=zb7 (F:=n) (⟨0,0,0,false,0,false,0,0,0,0⟩:InsD) (f:=zD.enc) (Q:=fun _=>True) (sz:=10) (by decide) Tryz.underlying42 (by kernel_rfl) (by kernel_rfl) (zaQ zmS) n (QB n) cs x h hw;exact⟨(l,p,cap),⟨h2.1,zeH h3⟩,h1⟩
theorem zgf:∀ F,OpensW enc PG w base spare held F 27 fun cs=>∃ x:Cnd×OA×Nat,KidsV w.heap.size w x.2.1 x.1.kids/\cs=jO x.1 x.2.1 x.2.2
 | 0=>fun n hn=>Gq hn (Ub _)
 | F+1=>fun n hn cs x h hw=>by
  have ih:=zgf F;have hF:n<=F+1:=by omega
  have hl:cs.length=5:=by
   obtain⟨xs,m,_,_,hl,_,_⟩:=KL Tryz.underlying27 h;rw [cC 27 5 (by kernel_rfl)] at hl;exact hl
  obtain⟨b0,e0⟩:=OpensW.field (F:=F+1) (o:=0) (i:=0) Tryz.underlying27 h hw hF rfl rfl rfl zaW (zaQ (jB Tryz.underlying5));obtain⟨b1,e1⟩:=OpensW.field (F:=F+1) (o:=1) (i:=1) Tryz.underlying27 h hw hF rfl rfl rfl zaW (zaQ (jB Tryz.underlying5));obtain⟨b2,e2⟩:=OpensW.field (F:=F+1) (o:=2) (i:=2) Tryz.underlying27 h hw hF rfl rfl rfl zaW (zaQ (jB Tryz.underlying5));obtain⟨b3,e3⟩:=OpensW.field (F:=F+1) (o:=3) (i:=3) Tryz.underlying27 h hw hF rfl rfl rfl zaW (zaQ (jB Tryz.underlying5));obtain⟨p,cap,l,e4,hll,_,hQ,b,o,hp,hc⟩:=OpensW.field (F:=F+1) (o:=4) (i:=4) Tryz.underlying27 h hw hF rfl rfl rfl (cC 25 1 (by kernel_rfl))
   (zb7 (F:=F) ((.mk 0 0 0 0 [],none,0):Cnd×OA×Nat) (f:=fun x=>jO x.1 x.2.1 x.2.2) (Q:=fun x=>KidsV w.heap.size w x.2.1 x.1.kids) (sz:=5) (by decide) Tryz.underlying25 (by kernel_rfl) (by kernel_rfl) ih)
  refine⟨(.mk b0 b1 b2 b3 (l.map (·.1)),p,cap),?_,?_⟩
  ·refine .mk p (l.map (·.1)) (by rw [QN];have:=hll.2;rw [show Tryz.prog.bytesOf 27=32 by kernel_rfl] at this;exact this) b o (by rw [QN];exact hp) (fun i=>(l.getD i (.mk 0 0 0 0 [],none,0)).2.1) (fun i=>(l.getD i (.mk 0 0 0 0 [],none,0)).2.2) (fun i hi=>?_) (fun i hi=>?_)
   ·have hi':i<l.length:=(by rw [QN] at hi;exact hi);have e:l.getD i (.mk 0 0 0 0 [],none,0)=l[i]:=(by rw [gDe,gE hi'];rfl);rw [e,Qr];exact hc i hi'
   ·have hi':i<l.length:=(by rw [QN] at hi;exact hi);have e:l.getD i (.mk 0 0 0 0 [],none,0)=l[i]:=(by rw [gDe,gE hi'];rfl);rw [e,Qr];exact hQ _ (gM hi')
  ·have h0:cs=cs.drop 0:=rfl;have h9:cs.drop 5=[]:=JC (by omega);rw [h0,cut cs 0 1 1 rfl,cut cs 1 1 2 rfl,cut cs 2 1 3 rfl,cut cs 3 1 4 rfl,cut cs 4 1 5 rfl,e0,e1,e2,e3,e4,h9];simp [jO,Cnd.kind,Cnd.thread,Cnd.n,Cnd.val,Cnd.kids]
end
section
variable {H:Type} {enc:TypeId×Value->H} {w:Wd} {base:Nat} {spare:Nat->Bool} {held:Bool} {F:Nat}
theorem zjw:OpensW enc PG w base spare held F 29 fun cs=>∃ p:Prg,PrgX w.heap.size w cs p:=fun n hn cs x h hw=>by
 have hF:n<=n+1:=Nat.le_succ n;have hl:cs.length=10:=by
  obtain⟨xs,m,_,_,hl,_,_⟩:=KL Tryz.underlying29 h;rw [cC 29 10 (by kernel_rfl)] at hl;exact hl
 obtain⟨nm,k0,e0⟩:=OpensW.field (F:=n+1) (o:=0) (i:=0) Tryz.underlying29 h hw hF rfl rfl rfl (cC 9 1 (by kernel_rfl)) (zge Tryz.underlying9);obtain⟨p1,c1,l1,e1,k1,kc1,q1,r1⟩:=OpensW.field (F:=n+1) (o:=1) (i:=1) Tryz.underlying29 h hw hF rfl rfl rfl (cC 22 1 (by kernel_rfl))
  (zb7 (F:=n) ([]:List UInt8) (f:=zjB.enc) (Q:=fun s=>s.length<=140737488351232) (sz:=1) (by decide) Tryz.underlying22 (by kernel_rfl) (by kernel_rfl) (zge Tryz.underlying9))
 obtain⟨p2,c2,l2,e2,k2,kc2,q2,r2⟩:=OpensW.field (F:=n+1) (o:=2) (i:=2) Tryz.underlying29 h hw hF rfl rfl rfl (cC 23 1 (by kernel_rfl))
  (zb7 (F:=n) (0:UInt8) (f:=zJ.enc) (Q:=fun _=>True) (sz:=1) (by decide) Tryz.underlying23 zaW (by kernel_rfl) (zaQ (fun fuel cs x h=>by
   obtain⟨b,hb⟩:=jB Tryz.underlying5 fuel cs x h;exact⟨b,trivial,hb⟩)))
 obtain⟨p3,c3,l3,e3,k3,kc3,q3,r3⟩:=OpensW.field (F:=n+1) (o:=3) (i:=3) Tryz.underlying29 h hw hF rfl rfl rfl (cC 24 1 (by kernel_rfl))
  (zb7 (F:=n) (([],none,0):ziN) (f:=zeF.enc) (Q:=fun x=>x.1.length<=140737488351232/\RowB zD w.heap.size w x.2.1 x.1) (sz:=1) (by decide) Tryz.underlying24 (by kernel_rfl) (by kernel_rfl) zkQ)
 obtain⟨b4,e4⟩:=OpensW.field (F:=n+1) (o:=4) (i:=4) Tryz.underlying29 h hw hF rfl rfl rfl zaW (zaQ (jB Tryz.underlying5));obtain⟨⟨c,p4,c4⟩,hk,e5⟩:=OpensW.field (F:=n+1) (o:=5) (i:=5) Tryz.underlying29 h hw hF rfl rfl rfl (cC 27 5 (by kernel_rfl)) (zgf (n+1));refine⟨⟨nm,l1,l2,l3.map (·.1),b4,c⟩,⟨⟨k0,k1.1,q1,k2.1,by rw [QN];exact k3.1,fun l hl=>?_⟩,p1,c1,p2,c2,p3,c3,p4,c4,?_,zeH r1,zeH r2,⟨l3,rfl,zeH r3,fun x hx=>(q3 x hx).2⟩,hk,kc1⟩,⟨p3,c3,?_,l3,rfl,zeH r3,fun x hx=>⟨(q3 x hx).2,fun hne a ha=>?_⟩⟩,⟨p2,c2,?_,zeH r2⟩⟩
 ·obtain⟨x,hx,rfl⟩:=UJ.1 hl;exact (q3 x hx).1
 ·have h0:cs=cs.drop 0:=rfl;have h9:cs.drop 10=[]:=JC (by omega);rw [h0,cut cs 0 1 1 rfl,cut cs 1 1 2 rfl,cut cs 2 1 3 rfl,cut cs 3 1 4 rfl,cut cs 4 1 5 rfl,cut cs 5 5 10 rfl,e0,e1,e2,e3,e4,e5,h9];simp [qo,jO]
 ·have:=Gj (fun l=>l[0]?) e3;simpa using this
 ·have hl:=List.length_pos_iff.2 hne;obtain⟨b,o,e,hb,_⟩:=zd1 (q3 x hx).2 hl;rw [ha] at e;obtain rfl:=Uf e;exact hb
 ·have:=Gj (fun l=>l[0]?) e2;simpa using this
theorem zmT {a:Array Value} {d:DataW H} {p:List MemPlace} (h:DataW.Trod enc PG w base spare held 29 (.agg a) d p) (hw:Wgt PG 29 d):∃ p:Prg,PrgX w.heap.size w a.toList p:=by
 obtain⟨fuel,h⟩:=h;exact zjw (F:=fuel+1) fuel (QB _) _ _ h hw
end
theorem flatMap_map {α:Type} (f:α->Value):∀ l:List (List α),l.flatMap (fun x=>x.map f)=l.flatten.map f
 | []=>rfl
 | a::l=>by rw [KT,flatMap_map f l,List.flatten_cons,QR]
end Go.Proofs.YtpalcnbhkigagaaGreatDoor
namespace Go.Proofs.YtpalcnbhkigagaaGreatDoor
open Go.Vc Go.RowKit Go.Sei
end Go.Proofs.YtpalcnbhkigagaaGreatDoor
namespace Go.Proofs.YtpalcnbhkigagaaGreatDoor
open Go.Vc Go.RowKit Go.Sei
open Go.ChangeShapes Go.WideShapes Go.ChangeAt
structure GlobP (W:Wd):Prop where
 t32:Tz32M W
 t64:Tz64M W
 needs:GlobC W
abbrev zaN : List (String × DataW Unit) := [("math/bits.deBruijn32tab", Rows.laid_math_bits_deBruijn32tab), ("math/bits.deBruijn64tab", Rows.laid_math_bits_deBruijn64tab), ("seisin/check.needs", Rows.laid_seisin_check_needs)]
theorem zbU {W:Wd} (h:laidMetH PG zaN W) (hsh:W.ShapedOpen PG):GlobP W:=by
 have h0:laidMet PG zaN W:=h;have h1:=h0.tail;have h2:=h1.tail;have t32:Tz32M W:=by
  obtain⟨ps,⟨g',t',cs,fuel,p,q,hg',ht',hv,hd,_,_⟩,_⟩:=h0
  obtain rfl := Uf ((show Tryz.prog.globalNamed "math/bits.deBruijn32tab" = some 0 by kernel_rfl).symm.trans hg')
  obtain rfl:=Uf ((show (Tryz.prog.globals[0]?).map (·.type)=some 217 by kernel_rfl).symm.trans ht');obtain⟨bs,h1,h2,h3⟩:=zgg Tryz.underlying217 Tryz.underlying5 (by kernel_rfl) (by kernel_rfl) hd;have hbs:bs=zg9:=by
   have e:(Rows.laid_math_bits_deBruijn32tab:DataW Unit) = .agg (zg9.map fun b => .lit (.int .u8 b.toNat)):=rfl;exact zgm (DataW.agg.inj (h3.symm.trans e))
  subst hbs;refine zad fun i v hvv=>?_;have hc:=World.var?_cell hg' hv i;rw [<- hvv,<- h2];simpa using hc
 have t64:Tz64M W:=by
  obtain⟨ps,⟨g',t',cs,fuel,p,q,hg',ht',hv,hd,_,_⟩,_⟩:=h1
  obtain rfl := Uf ((show Tryz.prog.globalNamed "math/bits.deBruijn64tab" = some 1 by kernel_rfl).symm.trans hg')
  obtain rfl:=Uf ((show (Tryz.prog.globals[1]?).map (·.type)=some 227 by kernel_rfl).symm.trans ht');obtain⟨bs,h1,h2,h3⟩:=zgg Tryz.underlying227 Tryz.underlying5 (by kernel_rfl) (by kernel_rfl) hd;have hbs:bs=zg8:=by
   have e:(Rows.laid_math_bits_deBruijn64tab:DataW Unit) = .agg (zg8.map fun b => .lit (.int .u8 b.toNat)):=rfl;exact zgm (DataW.agg.inj (h3.symm.trans e))
  subst hbs;refine zad fun i v hvv=>?_;have hc:=World.var?_cell hg' hv i;rw [<- hvv,<- h2];simpa using hc
 have needs:GlobC W:=by
  obtain⟨ps,⟨g',t',cs,fuel,p,q,hg',ht',hv,hd,_,_⟩,_⟩:=h2
  obtain rfl := Uf ((show Tryz.prog.globalNamed "seisin/check.needs" = some 2 by kernel_rfl).symm.trans hg')
  obtain rfl:=Uf ((show (Tryz.prog.globals[2]?).map (·.type)=some 233 by kernel_rfl).symm.trans ht');obtain⟨bs,h1,h2,h3⟩:=zgg Tryz.underlying233 Tryz.underlying5 (by kernel_rfl) (by kernel_rfl) hd;have hbs:bs=zeb:=by
   match bs,h1 with
   | [b0,b1,b2,b3,b4,b5,b6,b7,b8],_ =>
    simp only [Rows.laid_seisin_check_needs,UB,List.map_nil,DataW.agg.injEq,QL,DataW.lit.injEq,Lit.int.injEq,true_and,Gi] at h3;simp only [zeb,QL,Gi];obtain⟨a0,a1,a2,a3,a4,a5,a6,a7,a8⟩:=h3;refine⟨?_,?_,?_,?_,?_,?_,?_,?_,?_⟩ <;> (apply Ug.1;simp;omega)
  subst hbs;refine zad fun i v hvv=>?_;have hc:=World.var?_cell hg' hv i;rw [<- hvv,<- h2];simpa using hc
 exact⟨t32,t64,needs⟩
def zqT:DataW Unit->List Value
 | .lit (.int k n)=>[.int k n]
 | .lit (.string s)=>[.string ⟨s.toArray⟩]
 | _=>[]
def zqS:DataW Unit->List Value
 | .agg ps=>ps.flatMap zqT
 | x=>zqT x
def zok:DataW Unit->List Value
 | .agg ps=>ps.flatMap zqS
 | x=>zqS x
def znO (h:Array Obj) (g:Nat) (cs:List Value):Array Obj:=h.modify g fun
 | .cells _ t frozen => .cells cs.toArray t frozen
 | o=>o
def zss (h:Array Obj):Array Obj :=
 let h1:=znO h 0 (zok Rows.laid_math_bits_deBruijn32tab)
 let h2:=znO h1 1 (zok Rows.laid_math_bits_deBruijn64tab)
 znO h2 2 (zok Rows.laid_seisin_check_needs)
noncomputable def zgr (os:Os):Wd :=
 { World.holding PG os ⟨#[],#[],[]⟩ with heap:=zss (World.holding PG os ⟨#[],#[],[]⟩).heap }
theorem zgq (os:Os) (args:Array Value):laidMetH PG zaN ((zgr os).forCall (fun _ _=>0) ⟨#[],args,[]⟩).memory:=by
 show laidMet PG zaN _;exact laidMet_of_run' 8 (by kernel_rfl) (by kernel_rfl)
end Go.Proofs.YtpalcnbhkigagaaGreatDoor
