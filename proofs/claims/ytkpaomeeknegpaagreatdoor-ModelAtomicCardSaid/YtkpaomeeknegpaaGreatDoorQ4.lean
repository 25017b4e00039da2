/- Contracts of functions, and plain facts, for the law that the last text of this claim proves. -/
import Derived.Test.YtkpaomeeknegpaaGreatDoorQ3
import Derived.Test.YtkpaomeeknegpaaGreatDoorQ2
set_option linter.unusedSimpArgs false
set_option linter.unusedVariables false
namespace Go.Proofs.YtkpaomeeknegpaaGreatDoor
open Go.Vc Go.RowKit Go.Sei
structure PathB (locs:Nat) (P:PathD):Prop where
 ev:P.ev.length<=24
 loc:∀ e∈P.ev,e.k=1\/e.k=2->e.l.toNat<locs
 dt:∀ p∈P.data,p.1<P.ev.length/\p.2<P.ev.length
 ct:∀ p∈P.ctrl,p.1<P.ev.length/\p.2<P.ev.length
 rm:∀ p∈P.rmw,p.1<P.ev.length/\p.2<P.ev.length
 dtl:P.data.length<=100000
 ctl:P.ctrl.length<=100000
 rml:P.rmw.length<=100000
structure PthS (B:Nat) (w:Wd) (x:zdN):Prop where
 lt:∀ a,x.2.2.1.1=some a\/x.2.2.2.1.1=some a\/x.2.2.2.2.1=some a->a.block<B
 ev:SlR evE w x.2.1.1 x.1.ev
 dt:SlR prE w x.2.2.1.1 x.1.data
 ct:SlR prE w x.2.2.2.1.1 x.1.ctrl
 rm:SlR prE w x.2.2.2.2.1 x.1.rmw
theorem PthS.below {B:Nat} {w X:Wd} {x:zdN} (h:PthS B w x) (hb:Bw w X):PthS B X x:=⟨h.lt,h.ev.below hb,h.dt.below hb,h.ct.below hb,h.rm.below hb⟩
theorem qj:∀ (vs:List UInt8) (l:Nat),(qm l vs).length=vs.length
 | [],_=>rfl
 | v::vs,l=>by
  show (qm (l+1) vs).length+1=vs.length+1;rw [qj vs]
theorem zbe:∀ (vs:List UInt8) (l:Nat) {k:Nat} (h:k<vs.length),(qm l vs)[k]?=some ⟨-1,2,UInt8.ofNat (l+k),vs[k],0,0,0⟩
 | [],_,_,h=>by cases h
 | v::vs,l,0,_=>rfl
 | v::vs,l,k+1,h=>by
  show (qm (l+1) vs)[k]?=_;rw [zbe vs (l+1) (Nat.lt_of_succ_lt_succ h),UC,UJ 1 k];rfl
theorem zk3 {vs:List UInt8} {k:Nat} (h:k<vs.length):(qm 0 vs).take (k+1)=(qm 0 vs).take k++[⟨-1,2,UInt8.ofNat k,vs[k],0,0,0⟩]:=by
 have hl:k<(qm 0 vs).length:=by rw [qj];exact h
 have:=zbe vs 0 h;rw [gE hl,UQ] at this;rw [tsg hl,Ud this]
theorem zgV (n:Nat) (Ps:List PathD):n<=Ps.foldl (fun n P=>n+P.ev.length) n:=by
 induction Ps generalizing n with
 | nil=>exact UV _
 | cons P Ps ih=>exact UL (Qx _ _) (ih (n+P.ev.length))
theorem zuC {B c:Nat} {V1:Wd} {p:OA} {l:List Ev} {y:Ev} {a:Addr} (ho:OwnS evE 49 B V1 p c l) (ha:zK V1 a ([y].flatMap evE.enc)) (hB:B<=V1.heap.size) (hl:l.length<=100000) {K:Value->Wd->Prop}
  (h:∀ p' c' w',OwnS evE 49 B w' p' c' (l++[y])->V1.grownBy w' (p.map Addr.block)->(∀ a,p'=some a->p=some a\/a.block=V1.heap.size)->K (.slice p' (l++[y]).length c') w') :
  SatR ((Builtin.append_ #[34,34] 34 #[.slice p l.length c,.slice (some a) 1 1]).run PG V1) K :=
 jJ (E:=evE) (T:=49) (B:=B) (l:=l) (news:=[y]) (cap:=c) (m:=1) Tryz.underlying34 k49 rfl rfl rfl ho rfl ha hB (by omega) (by show (l.length+1)*16<=_;omega) fun p' c' w' a1 a2 _ a4=>h p' c' w' a1 (by rw [zat] at a2;exact a2) a4
theorem zph {f g:Nat->UInt8}:∀ {k:Nat},k<4->(seg 32 (fun i=>u8 (f i))).take (k*8)++seg 8 (fun i=>u8 (g i))++(seg 32 (fun i=>u8 (f i))).drop (k*8+8)=seg 32 (fun i=>u8 (if i/8=k then g (i%8) else f i))
 | 0,_=>by kernel_rfl
 | 1,_=>by kernel_rfl
 | 2,_=>by kernel_rfl
 | 3,_=>by kernel_rfl
 | k+4,h=>by omega
theorem zkL {A Z l r:List Value} {n o m:Nat} (hA:A.length=n) (hl:o+m<=l.length) (hr:r.length=m):(A++(l++Z)).take (n+o)++r++(A++(l++Z)).drop (n+o+m)=A++((l.take o++r++l.drop (o+m))++Z):=by
 subst hA;rw [List.take_length_add_append,Jg (by omega),UC,Jj,List.drop_append_of_le_length hl];simp only [KN]
theorem zqN (k:Nat) (P:PathD) (Ps:List PathD) (x:ExD):asR k (P::Ps) x=asR (k+1) Ps (zbv x k P):=rfl
theorem znW {k:Nat} {l:List Ev} {j:Nat} (h:j<l.length):jS k (l.take (j+1))=jS k (l.take j)++[{ l[j] with th:=k }]:=by
 rw [tsg h];unfold jS;rw [QO];rfl
theorem zcz {n f:Nat} {ps:List (Nat×Nat)} (h:∀ p∈ps,p.1<n/\p.2<n) (hf:f+n<=48):zpv f ps:=fun p hp=>⟨by have:=(h p hp).1;omega,by have:=(h p hp).2;omega⟩
def zuI (B:Nat) (w:Wd) (vs:List Value) (m:MixD):Prop :=
 ∃ (q p1 p2 p3:OA) (c c1 c2 c3:Nat) (xs ys:List zaU),vs=exC m.base q c++[.slice p1 m.rs.length c1,.slice p2 xs.length c2,.slice p3 ys.length c3]/\OwnS evE 49 B w q c m.base.ev /\
  OwnS zA 3 B w p1 c1 (m.rs.map (·.1))/\xs.map (·.1)=m.rs.map (·.2)/\OwnS jk 62 B w p2 c2 xs/\(∀ y∈xs,OwnS zA 3 B w y.2.1 y.2.2 y.1) /\
   ys.map (·.1)=m.wr/\OwnS jk 62 B w p3 c3 ys/\∀ y∈ys,OwnS zA 3 B w y.2.1 y.2.2 y.1
section
variable {w:Wd} {bP cl cp ci:Nat} {pc:List Value} {pl pp pi:OA} {init:List UInt8} {Ps:List zdN}
theorem zmv (fP:w.heap[bP]?=some (.cells pc.toArray 29 (0,0))) (h1:pc[1]?=some (.slice pl init.length cl)) (h2:pc[2]?=some (.slice pi init.length ci)) (hi:SlR zW w pi init) (hi6:init.length<=6)
  (hP:SlR j0 w pp Ps) (hPs:∀ x∈Ps,PthS w.heap.size w x) (hPb:∀ x∈Ps,PathB init.length x.1) (hP4:Ps.length<=4) :
  Calls PG 76 #[At0 bP,.slice pp Ps.length cp] w fun e w'=>(∃ vs,match zhx init (Ps.map (·.1)) with
   | some m=>e = .returned (.tuple #[.agg vs.toArray,.bool true])/\zuI w.heap.size w' vs m
   | none=>e = .returned (.tuple #[.agg vs.toArray,.bool false])/\vs=zdj)/\Bw w w':=by
 refine qA 143 [At0 bP,.slice pp Ps.length cp] (.c .p (.s .p (.c .p (.s .p (.s .p (.c .p (.c .p (.c .p (.c .p (.c .p .p)))))))))) Tryz.func76 ?_;obtain⟨L,hL⟩:=nm (w.heap.size);obtain⟨N,hN⟩:=nm (zbw init.length (Ps.map (·.1)));have hbP:=hlt fP;refine⟨Unit,fun _=>⟨[(0,At0 bP),(1,.slice pp Ps.length cp),(4,At0 L)],[]⟩,fun _ X=>X.heap[L]?=some (.cells (zdj).toArray 95 (0,0))/\Bw w X,?_,?_⟩
 ·exact⟨(),⟨.cons rfl (.cons rfl (.cons (by rw [hL];rfl) .nil)),rfl⟩,by rw [hL];exact zw w _,(zba w _)⟩
 rintro _ X ⟨f0,hbX⟩;have ldP:∀ {X:Wd},Bw w X->∀ {i:Nat} {v:Value},pc[i]?=some v->X.cell? ⟨bP,0+i,none⟩=some v:=fun {X} hb {i v} h=>zc (za ((hb.block bP hbP).trans fP)) (by simpa using h);refine⟨_,ldP hbX h1,Unit,fun _=>⟨[(0,At0 bP),(1,.slice pp Ps.length cp),(4,At0 L),(6,i64 N)],[]⟩,fun _ X=>X.heap[L]?=some (.cells (zdj).toArray 95 (0,0))/\Bw w X,?_,?_⟩
 ·refine⟨Nat×Nat,fun s=>⟨[(0,At0 bP),(1,.slice pp Ps.length cp),(4,At0 L),(6,i64 (s.2:Nat)),(23,.slice pp Ps.length cp),(24,i64 Ps.length),(25,i64 (s.1:Nat))],[]⟩,
   fun s Y=>s.1<=Ps.length/\s.2<=init.length+24*s.1/\((Ps.map (·.1)).drop s.1).foldl (fun n P=>n+P.ev.length) s.2=N/\Y.heap[L]?=some (.cells (zdj).toArray 95 (0,0))/\Bw w Y,fun s=>Ps.length-s.1,(0,init.length),
   (cvE rfl rfl),⟨UY _,UV _,hN.symm,f0,hbX⟩,?_⟩
  clear f0 hbX;rintro⟨k,n⟩ Y ⟨hk,hn,hacc,f0,hbY⟩;dsimp only at hk hn hacc ⊢;refine biE (fun hc=>?_) fun hc=>?_
  ·have hc:(k:Int)<(Ps.length:Int):=dT hc;have hkl:k<Ps.length:=by omega
   obtain⟨x,hx⟩:∃ x,Ps[k]=x:=⟨_,rfl⟩;have hxm:x∈Ps:=by rw [<- hx];exact gM hkl
   have hdp:(Ps.map (·.1)).drop k=x.1::(Ps.map (·.1)).drop (k+1):=by
    rw [<- JE (show k<(Ps.map (·.1)).length by simpa using hkl)];simp [hx]
   rw [hdp] at hacc;have hev:=(hPb x hxm).ev;obtain⟨bp,op,rfl,hlp,hat⟩:=hP.at hkl;refine⟨k,rfl,hkl,j0.enc x,j0.len x,by rw [<- hx];exact zr hbY (hat k hkl),nL hlp hbY.size,zq (X:=Y) (v := .agg (j0.enc x).toArray) zor (j0.len x) rfl (Qi.2 fun u hu=>j0.one x u hu) fun Z hbZ fZ sZ=>?_⟩;have fZ:Z.heap[Y.heap.size]?=some (.cells (j0.enc x).toArray 138 (0,0)):=fZ;exact⟨.slice x.2.1.1 x.1.ev.length x.2.1.2,zc (za fZ) (i:=0) rfl,((n+x.1.ev.length:Nat):Int),(ze (by omega)).trans (by omega),nxI (by omega) ⟨(k+1,n+x.1.ev.length),(cvE rfl rfl),⟨hkl,by show n+x.1.ev.length<=init.length+24*(k+1);omega,hacc,zb hbZ f0,(zst hbY hbZ)⟩,zdc (by omega)⟩⟩
  ·have hc:¬ (k:Int)<(Ps.length:Int):=dF hc;rw [JA (by rw [QL];omega)] at hacc;have hacc:n=N:=hacc;subst hacc;exact⟨(),(cvE rfl rfl),f0,hbY⟩
 clear f0 hbX;rintro _ X ⟨f0,hbX⟩;have hmr:zhx init (Ps.map (·.1))=if N<=48 then some (zaj (zaa init (Ps.map (·.1))) init.length) else none:=by rw [hN];rfl
 have hLX:=hlt f0;refine biE (fun h=>?_) fun h=>?_
 ·have h:(48:Int)<(N:Nat):=dT h;rw [hmr,Gm (by omega)];refine⟨zdj,by kernel_rfl,?_⟩;exact zt (v := .agg (zdj).toArray) k95 f0 jQ jQ (by kernel_rfl) ⟨zdj,jQ,za (zn f0),⟨_,rfl,rfl⟩,zl hbX (by omega) _⟩
 have h:¬ (48:Int)<(N:Nat):=dF h;have hN48:N<=48:=by omega
 rw [hmr,Gn hN48];refine cmo zr6 ?_;rintro e Y ⟨rfl,hbY⟩;refine⟨exC (ex0 N) none 0++[z8,z8,z8],by kernel_rfl,?_⟩;refine zq (X:=Y) (v := .agg (exC (ex0 N) none 0++[z8,z8,z8]).toArray) k95 (by show (exC (ex0 N) none 0++[z8,z8,z8]).length=_;rw [lap,zC];rfl) jQ (by show (exC (ex0 N) none 0++[z8,z8,z8]).all _=true;rw [QH,za3];rfl) fun V hbV fV sV=>⟨Nat,fun M=>⟨[(0,At0 bP),(1,.slice pp Ps.length cp),(4,At0 L),(9,At0 M),(10,At0 M)],[]⟩,fun M X=>L<M/\zbk X M (ex0 N) none 0 [z8,z8,z8]/\X.heap[L]?=some (.cells (zdj).toArray 95 (0,0))/\Bw w X,?_,?_⟩
 ·exact⟨Y.heap.size,(cvE rfl rfl),by have:=hbY.size;omega,fV,zb hbV (zb hbY f0),((zst hbX hbY)).trans (hbV.mono (by have:=hbX.size;have:=hbY.size;omega))⟩
 clear fV sV hbV V hbY Y;clear f0 hbX hLX;rintro M X ⟨hLM,fM,f0,hbX⟩;dsimp only at fM ⊢;refine⟨OA×Nat,fun _=>⟨[(0,At0 bP),(1,.slice pp Ps.length cp),(4,At0 L),(9,At0 M),(10,At0 M)],[]⟩,fun s X=>zbk X M { ex0 N with ev:=qm 0 init } s.1 s.2 [z8,z8,z8]/\OwnS evE 49 w.heap.size X s.1 s.2 (qm 0 init)/\X.heap[L]?=some (.cells (zdj).toArray 95 (0,0))/\Bw w X,?_,?_⟩
 ·refine⟨_,ldP hbX h2,?_⟩;refine⟨Nat×OA×Nat,fun s=>⟨[(0,At0 bP),(1,.slice pp Ps.length cp),(4,At0 L),(9,At0 M),(10,At0 M),(45,.slice pi init.length ci),(46,i64 init.length),(47,i64 (s.1:Nat))],[]⟩,
   fun s Y=>s.1<=init.length/\zbk Y M { ex0 N with ev:=(qm 0 init).take s.1 } s.2.1 s.2.2 [z8,z8,z8]/\OwnS evE 49 w.heap.size Y s.2.1 s.2.2 ((qm 0 init).take s.1)/\Y.heap[L]?=some (.cells (zdj).toArray 95 (0,0))/\Bw w Y,fun s=>init.length-s.1,(0,none,0),
   (cvE rfl rfl),⟨UY _,fM,OwnS.nil,f0,hbX⟩,?_⟩
  clear fM f0 hbX;rintro⟨k,q,c⟩ Y ⟨hk,fM,ho,f0,hbY⟩;dsimp only at hk fM ho ⊢;refine biE (fun hc=>?_) fun hc=>?_
  ·have hc:(k:Int)<(init.length:Int):=dT hc;have hkl:k<init.length:=by omega
   obtain⟨bi,oi,rfl,hli,hat⟩:=hi.at hkl;have htk:=zk3 hkl;have htl:((qm 0 init).take k).length=k:=by rw [Qt,qj];omega
   refine⟨k,rfl,hkl,u8 init[k],zc (zr hbY (hat k hkl)) (i:=0) rfl,_,zc3 fM,_,w8N k,?_⟩;obtain⟨e,he⟩:∃ e:Ev,e=⟨-1,2,UInt8.ofNat k,init[k],0,0,0⟩:=⟨_,rfl⟩;refine⟨evE.enc e,by rw [he];rfl,?_⟩;refine⟨⟨by decide,by decide,rfl⟩,evE.enc e,za2 rfl rfl,?_⟩;obtain⟨Y1,hY1⟩:=nm (Y.alloc (.cells (evE.enc e).toArray 49));have hb1:Bw Y Y1:=by rw [hY1];exact (zba _ _)
   have sY:=hbY.size;have ho1:=ho.below hb1;unfold zed zaB;show SatR _ _;rw [<- hY1];refine zuC ho1 (by rw [hY1];exact qN evE e) (by have:=hb1.size;omega) (by omega) fun q1 c1 U oU gU hat1=>?_;have fMU:=qy (zb hb1 fM) ho1 (by decide) gU;have f0U:=qy (zb hb1 f0) ho1 (by decide) gU;refine zm k34 fMU (o:=0+0) (v := .slice q1 ((qm 0 init).take k++[e]).length c1) rfl rfl (by rw [lap,zC];decide) rfl fun S fS gS sS=>?_;rw [show 0+0=0 from rfl,zsR,he,<- htk] at fS;refine nxI (by omega) ⟨(k+1,q1,c1),(cvE rfl rfl),⟨hkl,fS,by rw [he,<- htk] at oU;exact qz oU fMU (by decide) gS,(gS.block L (hlt f0U) (by simp;omega)).trans f0U,?_⟩,zdc (by omega)⟩;have sU:=gU.size;have s1:=hb1.size;exact ((hbY.trans (hb1.mono sY)).trans (qS ho1 (by omega) (UV _) gU)).trans (zk gS (by omega) (by omega))
  ·have hc:¬ (k:Int)<(init.length:Int):=dF hc;obtain rfl:k=init.length:=by omega
   have e:(qm 0 init).take init.length=qm 0 init:=JF (by rw [qj];exact UV _);rw [e] at fM ho;exact⟨(q,c),(cvE rfl rfl),fM,ho,f0,hbY⟩
 clear fM f0 hbX;rintro⟨q,c⟩ X ⟨fM,ho,f0,hbX⟩;dsimp only at fM ho ⊢;obtain⟨x0,hx0⟩:∃ x0:ExD,x0={ ex0 N with ev:=qm 0 init }:=⟨_,rfl⟩;have hx0e:x0.ev=qm 0 init:=by rw [hx0]
 rw [<- hx0] at fM;rw [<- hx0e] at ho;refine⟨OA×Nat,fun _=>⟨[(0,At0 bP),(1,.slice pp Ps.length cp),(4,At0 L),(9,At0 M),(10,At0 M)],[]⟩,fun s X=>zbk X M (asR 0 (Ps.map (·.1)) x0) s.1 s.2 [z8,z8,z8]/\OwnS evE 49 w.heap.size X s.1 s.2 (asR 0 (Ps.map (·.1)) x0).ev/\(asR 0 (Ps.map (·.1)) x0).ev.length=N/\(∀ e∈(asR 0 (Ps.map (·.1)) x0).ev,e.k=1\/e.k=2->e.l.toNat<init.length)/\X.heap[L]?=some (.cells (zdj).toArray 95 (0,0))/\Bw w X,?_,?_⟩
 ·refine⟨Nat×ExD×OA×Nat,fun s=>⟨[(0,At0 bP),(1,.slice pp Ps.length cp),(4,At0 L),(9,At0 M),(10,At0 M),(66,.slice pp Ps.length cp),(67,i64 Ps.length),(68,i64 (s.1:Nat))],[]⟩,
   fun s Y=>s.1<=Ps.length/\asR s.1 ((Ps.map (·.1)).drop s.1) s.2.1=asR 0 (Ps.map (·.1)) x0/\((Ps.map (·.1)).drop s.1).foldl (fun n P=>n+P.ev.length) s.2.1.ev.length=N/\(zG s.2.1.dt.to/\zG s.2.1.ct.to/\zG s.2.1.rm.to)/\(∀ e∈s.2.1.ev,e.k=1\/e.k=2->e.l.toNat<init.length) /\
    zbk Y M s.2.1 s.2.2.1 s.2.2.2 [z8,z8,z8]/\OwnS evE 49 w.heap.size Y s.2.2.1 s.2.2.2 s.2.1.ev/\Y.heap[L]?=some (.cells (zdj).toArray 95 (0,0))/\Bw w Y,fun s=>Ps.length-s.1,(0,x0,q,c),
   (cvE rfl rfl),⟨UY _,rfl,by rw [hN,hx0e,qj];rfl,?_,?_,fM,ho,f0,hbX⟩,?_⟩
  ·rw [hx0];exact⟨fun i _=>(by decide:0<2^64),fun i _=>(by decide:0<2^64),fun i _=>(by decide:0<2^64)⟩
  ·intro e he _;rw [hx0e] at he;obtain⟨j,hj⟩:=List.mem_iff_getElem?.1 he;have hjl:j<init.length:=by
    have:=(Js.1 hj).1
    rwa [qj] at this
   rw [zbe init 0 hjl] at hj;rw [<- Ud hj];show (UInt8.ofNat (0+j)).toNat<init.length;have:=zlK (n:=0+j) (by omega);omega
  clear fM ho f0 hbX;rintro⟨k,x,q,c⟩ Y ⟨hk,hacc,hfold,⟨hw1,hw2,hw3⟩,hloc,fM,ho,f0,hbY⟩;dsimp only at hk hacc hfold hw1 hw2 hw3 hloc fM ho ⊢;refine biE (fun hc=>?_) fun hc=>?_
  ·have hc:(k:Int)<(Ps.length:Int):=dT hc;have hkl:k<Ps.length:=by omega
   obtain⟨y,hy⟩:∃ y,Ps[k]=y:=⟨_,rfl⟩;have hym:y∈Ps:=by rw [<- hy];exact gM hkl
   have hdp:(Ps.map (·.1)).drop k=y.1::(Ps.map (·.1)).drop (k+1):=by
    rw [<- JE (show k<(Ps.map (·.1)).length by simpa using hkl)];simp [hy]
   rw [hdp] at hacc hfold;rw [zqN] at hacc;have hfold:((Ps.map (·.1)).drop (k+1)).foldl (fun n P=>n+P.ev.length) (x.ev.length+y.1.ev.length)=N:=hfold;have hsz:=zgV (x.ev.length+y.1.ev.length) ((Ps.map (·.1)).drop (k+1));rw [hfold] at hsz;obtain⟨b24,bloc,bdt,bct,brm,ldt,lct,lrm⟩:=hPb y hym;obtain⟨bp,op,rfl,hlp,hat⟩:=hP.at hkl;refine⟨k,rfl,hkl,j0.enc y,j0.len y,by rw [<- hy];exact zr hbY (hat k hkl),nL hlp hbY.size,zq (X:=Y) (v := .agg (j0.enc y).toArray) zor (j0.len y) rfl (Qi.2 fun u hu=>j0.one y u hu) fun Z hbZ fZ sZ=>?_⟩;obtain⟨D,hD⟩:=nm (Y.heap.size);have fD:Z.heap[D]?=some (.cells (j0.enc y).toArray 138 (0,0)):=by rw [hD];exact fZ
   have hMD:M<D:=by rw [hD];exact hlt fM
   have eD:At0 Y.heap.size=At0 D:=by rw [hD]
   have fMZ:=zb hbZ fM;have f0Z:=zb hbZ f0;have hoZ:=ho.below hbZ;have hwZ:=zst hbY hbZ;refine⟨_,zc3 fMZ,.slice y.2.1.1 y.1.ev.length y.2.1.2,by rw [<- hD];exact zc (za fD) (i:=0) rfl,?_⟩;refine⟨Nat×OA×Nat,fun s=>⟨[(0,At0 bP),(1,.slice (some ⟨bp,op,none⟩) Ps.length cp),(4,At0 L),(9,At0 M),(10,At0 M),(13,i64 (k:Nat)),(14,At0 D),(15,i64 x.ev.length),(66,.slice (some ⟨bp,op,none⟩) Ps.length cp),(67,i64 Ps.length),(68,i64 (k:Nat)),(79,.slice y.2.1.1 y.1.ev.length y.2.1.2),(80,i64 y.1.ev.length),(81,i64 (s.1:Nat))],[]⟩,
    fun s V=>s.1<=y.1.ev.length/\zbk V M { x with ev:=x.ev++jS k (y.1.ev.take s.1) } s.2.1 s.2.2 [z8,z8,z8]/\OwnS evE 49 w.heap.size V s.2.1 s.2.2 (x.ev++jS k (y.1.ev.take s.1))/\V.heap[L]?=some (.cells (zdj).toArray 95 (0,0))/\V.heap[D]?=some (.cells (j0.enc y).toArray 138 (0,0))/\Bw w V,fun s=>y.1.ev.length-s.1,(0,q,c),
    ⟨.cons rfl (.cons rfl (.cons rfl (.cons rfl (.cons rfl (.cons rfl (.cons (Gi some eD) (.cons rfl (.cons rfl (.cons rfl (.cons rfl (.cons rfl (.cons rfl (.cons rfl .nil))))))))))))),rfl⟩,⟨UY _,by show zbk Z M { x with ev:=x.ev++[] } q c _;rw [QI];exact fMZ,by show OwnS _ _ _ Z q c (x.ev++[]);rw [QI];exact hoZ,f0Z,fD,hwZ⟩,?_⟩
   clear fMZ f0Z hoZ hwZ fZ sZ hbZ fM ho f0 hbY;rintro⟨j,q,c⟩ V ⟨hj,fM,ho,f0,fD,hbV⟩;dsimp only at hj fM ho ⊢;have sV:=hbV.size;have hS:=(hPs y hym).below hbV;refine biE (fun hc=>?_) fun hc=>?_
   ·have hc:(j:Int)<(y.1.ev.length:Int):=dT hc;have hjl:j<y.1.ev.length:=(by omega);obtain⟨e,he⟩:∃ e,y.1.ev[j]=e:=⟨_,rfl⟩;have htk:=znW (k:=k) hjl;rw [he] at htk;obtain⟨be,oe,hbe,hle,hate⟩:=hS.ev.at hjl;rw [hbe];refine⟨j,rfl,hjl,evE.enc e,rfl,by rw [<- he];exact hate j hjl,hle,?_⟩;refine zq (X:=V) (v := .agg (evE.enc e).toArray) k49 rfl rfl (Qi.2 fun u hu=>evE.one e u hu) fun T hbT fT sT=>?_;have fT:T.heap[V.heap.size]?=some (.cells (evE.enc e).toArray 49 (0,0)):=fT;refine zm k3 fT (o:=0+0) (v:=i64 (k:Nat)) rfl rfl (by show 0<7;decide) rfl fun T2 fT2 gT2 sT2=>?_;obtain⟨e2,he2⟩:∃ e2:Ev,e2={ e with th:=k }:=⟨_,rfl⟩;have fT2:T2.heap[V.heap.size]?=some (.cells (evE.enc e2).toArray 49 (0,0)):=(by rw [he2];exact fT2);have hVT:Bw V T2:=hbT.trans (zk gT2 (by omega) (UV _));have fM2:=zb hVT fM;have fT3:=hdr fT2;have hd:Bw T2 T2.drew:=(Ga _ T2).drew;have hlenx:(x.ev++jS k (y.1.ev.take j)).length<=48:=by
     unfold jS;rw [lap,QL,Qt];omega
    have ho2:=ho.below hVT;refine DrawE.ord [7,10] [0,1,2,3,4,5,6,7,8,9,10] (by kernel_rfl) ⟨_,zc3 (hdr fM2),evE.enc e2,rfl,za fT3,hlt fT3,⟨by decide,by decide,rfl⟩,evE.enc e2,za2 rfl rfl,?_⟩;obtain⟨Y1,hY1⟩:=nm (T2.drew.alloc (.cells (evE.enc e2).toArray 49));have hb1:Bw T2 Y1:=(by rw [hY1];exact hd.trans ((Ga T2.drew.heap.size _).alloc (UV _) _));refine⟨(zba _ _),?_⟩;have sT:=hVT.size;have s1:=hb1.size;have ho3:=ho2.below hb1;unfold zok zaB;show SatR _ _;rw [<- hY1];refine zuC ho3 (by rw [hY1];exact qN evE e2) (by omega) (by omega) fun q1 c1 U oU gU hat1=>?_;have fMU:=qy (zb hb1 fM2) ho3 (by decide) gU;have f0U:=qy (zb (hVT.trans (hb1.mono sT)) f0) ho3 (by decide) gU;have fDU:=qy (zb (hVT.trans (hb1.mono sT)) fD) ho3 (by decide) gU;refine zm k34 fMU (o:=0+0) (v := .slice q1 ((x.ev++jS k (y.1.ev.take j))++[e2]).length c1) rfl rfl (by rw [lap,zC];decide) rfl fun S fS gS sS=>?_;have hev2:(x.ev++jS k (y.1.ev.take j))++[e2]=x.ev++jS k (y.1.ev.take (j+1)):=(by rw [htk,he2,KN]);rw [show 0+0=0 from rfl,zsR,hev2] at fS;refine nxI (by omega) ⟨(j+1,q1,c1),(cvE rfl rfl),⟨hjl,fS,by rw [hev2] at oU;exact qz oU fMU (by decide) gS,(gS.block L (hlt f0U) (by simp;omega)).trans f0U,(gS.block D (hlt fDU) (by simp;omega)).trans fDU,?_⟩,zdc (by omega)⟩;have sU:=gU.size;exact ((hbV.trans ((hVT.trans (hb1.mono sT)).mono sV)).trans (qS ho3 (by omega) (UV _) gU)).trans (zk gS (by omega) (by omega))
   ·have hc:¬ (j:Int)<(y.1.ev.length:Int):=dF hc;obtain rfl:j=y.1.ev.length:=(by omega);rw [Qv] at fM ho;obtain⟨x1,hx1⟩:∃ x1:ExD,x1={ x with ev:=x.ev++jS k y.1.ev }:=⟨_,rfl⟩;rw [<- hx1] at fM;have fM0:=fM;have ho0:=ho;have f00:=f0;have fD0:=fD;have hb0:=hbV;have hS0:=hS;obtain⟨x2,hx2⟩:∃ z:ExD,z={ x1 with dt:=zl1 x.ev.length y.1.data x.dt }:=⟨_,rfl⟩;obtain⟨A1,Z1,hA1,hE1⟩:=znp x1 q c [z8,z8,z8];have hx1dt:x1.dt=x.dt:=(by rw [hx1]);have hR1:RelAt V M 148 95 A1 Z1 x.dt:=⟨hA1,by
     have h:=hE1 x1.dt;rw [hx1dt] at h;rw [<- h,<- hx1dt];exact fM0⟩
    have dw1:Bw V V.drew:=(Ga _ _).drew;refine DrawE.ord [6] [0,1,2,3,4,5,6] (by kernel_rfl) ⟨.slice y.2.2.1.1 y.1.data.length y.2.2.1.2,zc (za (hdr fD0)) (i:=1) rfl,cmo (zpu (f:=x.ev.length) (hR1.same (Y:=V.drew) rfl) hw1 ((hS0.dt).below dw1) (fun a ha=>by have:=hS0.lt a (.inl ha);omega) ldt (zcz bdt (by omega))) ?_⟩;rintro e V1 ⟨rfl,hRn1,gn1⟩;have g1:V.grownBy V1 (some M):=zd (zi dw1) gn1;have sg1:=g1.size;have fM1:zbk V1 M x2 q c [z8,z8,z8]:=by
     have h:=hRn1.cells;rw [<- hE1] at h;rw [hx2];exact h
    have ho1:=qz ho0 fM0 (by decide) g1;have f01:=(g1.block L (hlt f00) (by simp;omega)).trans f00;have fD1:=(g1.block D (hlt fD0) (by simp;omega)).trans fD0;have hb1:Bw w V1:=hb0.trans (zk g1 hb0.size (by omega));have hS1:=(hPs y hym).below hb1;obtain⟨x3,hx3⟩:∃ z:ExD,z={ x2 with ct:=zl1 x.ev.length y.1.ctrl x.ct }:=⟨_,rfl⟩;obtain⟨A2,Z2,hA2,hE2⟩:=znq x2 q c [z8,z8,z8];have hx2ct:x2.ct=x.ct:=(by rw [hx2];rw [hx1]);have hR2:RelAt V1 M 197 95 A2 Z2 x.ct:=⟨hA2,by
     have h:=hE2 x2.ct;rw [hx2ct] at h;rw [<- h,<- hx2ct];exact fM1⟩
    have dw2:Bw V1 V1.drew:=(Ga _ _).drew;refine DrawE.ord [6] [0,1,2,3,4,5,6] (by kernel_rfl) ⟨.slice y.2.2.2.1.1 y.1.ctrl.length y.2.2.2.1.2,zc (za (hdr fD1)) (i:=2) rfl,cmo (zpu (f:=x.ev.length) (hR2.same (Y:=V1.drew) rfl) hw2 ((hS1.ct).below dw2) (fun a ha=>by have:=hS1.lt a (.inr (.inl ha));omega) lct (zcz bct (by omega))) ?_⟩;rintro e V2 ⟨rfl,hRn2,gn2⟩;have g2:V1.grownBy V2 (some M):=zd (zi dw2) gn2;have sg2:=g2.size;have fM2:zbk V2 M x3 q c [z8,z8,z8]:=by
     have h:=hRn2.cells;rw [<- hE2] at h;rw [hx3];exact h
    have ho2:=qz ho1 fM1 (by decide) g2;have f02:=(g2.block L (hlt f01) (by simp;omega)).trans f01;have fD2:=(g2.block D (hlt fD1) (by simp;omega)).trans fD1;have hb2:Bw w V2:=hb1.trans (zk g2 hb1.size (by omega));have hS2:=(hPs y hym).below hb2;obtain⟨x4,hx4⟩:∃ z:ExD,z={ x3 with rm:=zl1 x.ev.length y.1.rmw x.rm }:=⟨_,rfl⟩;obtain⟨A3,Z3,hA3,hE3⟩:=znm x3 q c [z8,z8,z8];have hx3rm:x3.rm=x.rm:=(by rw [hx3];rw [hx2];rw [hx1]);have hR3:RelAt V2 M 246 95 A3 Z3 x.rm:=⟨hA3,by
     have h:=hE3 x3.rm;rw [hx3rm] at h;rw [<- h,<- hx3rm];exact fM2⟩
    have dw3:Bw V2 V2.drew:=(Ga _ _).drew;refine DrawE.ord [6] [0,1,2,3,4,5,6] (by kernel_rfl) ⟨.slice y.2.2.2.2.1 y.1.rmw.length y.2.2.2.2.2,zc (za (hdr fD2)) (i:=3) rfl,cmo (zpu (f:=x.ev.length) (hR3.same (Y:=V2.drew) rfl) hw3 ((hS2.rm).below dw3) (fun a ha=>by have:=hS2.lt a (.inr (.inr ha));omega) lrm (zcz brm (by omega))) ?_⟩;rintro e V3 ⟨rfl,hRn3,gn3⟩;have g3:V2.grownBy V3 (some M):=zd (zi dw3) gn3;have sg3:=g3.size;have fM3:zbk V3 M x4 q c [z8,z8,z8]:=by
     have h:=hRn3.cells;rw [<- hE3] at h;rw [hx4];exact h
    have ho3:=qz ho2 fM2 (by decide) g3;have f03:=(g3.block L (hlt f02) (by simp;omega)).trans f02;have fD3:=(g3.block D (hlt fD2) (by simp;omega)).trans fD2;have hb3:Bw w V3:=hb2.trans (zk g3 hb2.size (by omega));have hS3:=(hPs y hym).below hb3;have hx5:zbv x k y.1={ x4 with regs:=fun i=>if i/8=k then y.1.regs (i%8) else x4.regs i }:=(by rw [hx4,hx3,hx2,hx1];rfl);obtain⟨A5,Z5,hA5,hE5⟩:=znn x4 q c [z8,z8,z8];have hM5:exC x4 q c++[z8,z8,z8]=A5++(seg 32 (fun i=>u8 (x4.regs i))++Z5):=hE5 x4.regs;have fM5:V3.heap[M]?=some (.cells (A5++(seg 32 (fun i=>u8 (x4.regs i))++Z5)).toArray 95 (0,0)):=(by rw [<- hM5];exact fM3);have hsub:((j0.enc y).drop 4).take 8=seg 8 (fun i=>u8 (y.1.regs i)):=JF (by rw [Qs,j0.len];decide);refine DrawE.ord [8] [0,1,2,3,4,5,6,7,8] (by kernel_rfl) ⟨seg 8 (fun i=>u8 (y.1.regs i)),zE _ _,by rw [<- hsub];have:=zR (n:=4) (m:=8) (za (hdr fD3));exact this,hlt (hdr fD3),k,rfl,by omega,?_⟩;refine j6 k40 (hdr fM5) (o:=295+k*8) (v := .agg (seg 8 (fun i=>u8 (y.1.regs i))).toArray) (zE _ _) (by show 295+k*8+(seg 8 _).length<=(A5++(seg 32 _++Z5)).length;rw [<- hM5,lap,zC,zE];show _<=336;omega) (zbD fun _=>rfl) fun S fS gS sS=>?_;obtain⟨x5,hx5e⟩:=nm (zbv x k y.1);have fS:zbk S M x5 q c [z8,z8,z8]:=by
     refine fS.trans ?_;have e1:=zkL (A:=A5) (Z:=Z5) (l:=seg 32 (fun i=>u8 (x4.regs i))) (r:=seg 8 (fun i=>u8 (y.1.regs i))) (o:=k*8) (m:=8) hA5 (by rw [zE];omega) (zE _ _);rw [zph (by omega)] at e1;rw [hx5e,hx5,hE5,<- e1];show some (Obj.cells ((A5++(seg 32 (fun i=>u8 (x4.regs i))++Z5)).take (295+k*8)++seg 8 (fun i=>u8 (y.1.regs i))++(A5++(seg 32 (fun i=>u8 (x4.regs i))++Z5)).drop (295+k*8+(seg 8 (fun i=>u8 (y.1.regs i))).length)).toArray _ _)=_;rw [zE]
    have dw4:Bw V3 V3.drew:=(Ga _ _).drew;have g4:V3.grownBy S (some M):=zd (zi dw4) gS;have hev5:x5.ev=x.ev++jS k y.1.ev:=(by rw [hx5e];rfl);have hx1e:x1.ev=x5.ev:=(by rw [hx1,hev5]);have hlen5:x5.ev.length=x.ev.length+y.1.ev.length:=(by rw [hev5,lap];unfold jS;rw [QL]);refine nxI (by omega) ⟨(k+1,x5,q,c),(cvE rfl rfl),⟨hkl,by rw [hx5e];exact hacc,by rw [hlen5];exact hfold,?_,fun e he hk=>?_,fS,?_,(g4.block L (hlt f03) (by simp;omega)).trans f03,hb3.trans (zk g4 hb3.size (by omega))⟩,zdc (by omega)⟩
    ·rw [hx5e];exact⟨zeZ hw1 (zcz bdt (by omega)),zeZ hw2 (zcz bct (by omega)),zeZ hw3 (zcz brm (by omega))⟩
    ·have he:e∈x5.ev:=he;rw [hev5] at he;rcases QQ.1 he with he | he
     ·exact hloc e he hk
     ·unfold jS at he;obtain⟨e',he',rfl⟩:=UI.1 he;exact bloc e' he' hk
    ·show OwnS evE 49 w.heap.size S q c x5.ev;rw [hev5];exact qz ho3 fM3 (by decide) g4
  ·have hc:¬ (k:Int)<(Ps.length:Int):=dF hc;rw [JA (by rw [QL];omega)] at hacc hfold;have hacc:x=asR 0 (Ps.map (·.1)) x0:=hacc;have hfold:x.ev.length=N:=hfold;rw [<- hacc];exact⟨(q,c),(cvE rfl rfl),fM,ho,hfold,hloc,f0,hbY⟩
 clear fM ho f0 hbX;rintro⟨q,c⟩ X ⟨fM,ho,hxl,hloc,f0,hbX⟩;dsimp only at fM ho ⊢;obtain⟨AX,hAX⟩:=nm (asR 0 (Ps.map (·.1)) x0);rw [<- hAX] at fM ho hxl hloc;obtain⟨BX,hBX⟩:∃ BX:ExD,BX={ AX with po:=poR AX.ev }:=⟨_,rfl⟩;have hbase:zaa init (Ps.map (·.1))=BX:=by
  rw [hBX,hAX,hx0,hN];rfl
 rw [hbase];refine⟨Unit,fun _=>⟨[(0,At0 bP),(1,.slice pp Ps.length cp),(4,At0 L),(9,At0 M),(10,At0 M)],[]⟩,fun _ X=>zbk X M BX q c [z8,z8,z8]/\OwnS evE 49 w.heap.size X q c BX.ev/\X.heap[L]?=some (.cells (zdj).toArray 95 (0,0))/\Bw w X,?_,?_⟩
 ·refine⟨_,zc3 fM,cmo (zdr ho.row (by omega)) ?_⟩;rintro e Y ⟨rfl,hbY⟩;have fMY:=zb hbY fM;obtain⟨A5,Z5,hA5,hE5⟩:=zno AX q c [z8,z8,z8];have hM5:exC AX q c++[z8,z8,z8]=A5++(zf AX.po++Z5):=hE5 AX.po;have fM5:Y.heap[M]?=some (.cells (A5++(zf AX.po++Z5)).toArray 95 (0,0)):=by rw [<- hM5];exact fMY
  refine j6 k39 fM5 (o:=0+1) (v := .agg (zf (poR AX.ev)).toArray) (zh _) (by show 0+1+(zf _).length<=(A5++(zf AX.po++Z5)).length;rw [<- hM5,lap,zC,zh];decide) (zD _) fun S fS gS sS=>?_;have fS:zbk S M BX q c [z8,z8,z8]:=by
   refine fS.trans ?_;have e1:=zkL (A:=A5) (Z:=Z5) (l:=zf AX.po) (r:=zf (poR AX.ev)) (o:=0) (m:=49) hA5 (by rw [zh];omega) (zh _);rw [hBX,hE5];have e2:(zf AX.po).take 0++zf (poR AX.ev)++(zf AX.po).drop (0+49)=zf (poR AX.ev):=by
    rw [Un,QS,JA (by rw [zh];omega),QI]
   rw [e2] at e1;rw [<- e1];show some (Obj.cells ((A5++(zf AX.po++Z5)).take (0+1)++zf (poR AX.ev)++(A5++(zf AX.po++Z5)).drop (0+1+(zf (poR AX.ev)).length)).toArray _ _)=_;rw [zh]
  have hLX:=hlt f0;have hbwY:=zst hbX hbY;exact⟨(),(cvE rfl rfl),fS,by rw [hBX];exact qz (ho.below hbY) fMY (by decide) gS,(gS.block L (hlt (zb hbY f0)) (by simp;omega)).trans (zb hbY f0),hbwY.trans (zk gS hbwY.size (by omega))⟩
 have hBe:BX.ev=AX.ev:=by rw [hBX]
 clear fM ho f0 hbX;rintro _ X ⟨fM,ho,f0,hbX⟩;refine⟨List Value,fun _=>⟨[(0,At0 bP),(1,.slice pp Ps.length cp),(4,At0 L),(9,At0 M),(10,At0 M)],[]⟩,fun vs X=>X.heap[M]?=some (.cells vs.toArray 95 (0,0))/\zuI w.heap.size X vs (zaj BX init.length)/\X.heap[L]?=some (.cells (zdj).toArray 95 (0,0))/\Bw w X,?_,?_⟩
 ·refine⟨_,ldP hbX h1,?_⟩;have hqM:∀ a,q=some a->a.block≠M:=fun a ha e=>by
   obtain⟨_,_,cur,h'⟩:=zx ho ha;rw [e,fM] at h';simp at h'
  refine cmo (zoE fM ho.row hqM (by rw [hBe];omega) (by omega) (by rw [hBe];exact hloc)) ?_;rintro e Y ⟨rfl,⟨p1,p2,p3,c1,c2,c3,xs,ys,fY,h1',h2',h3',h4',h5',h6',h7'⟩,gY⟩;have hwX:=hbX.size;refine⟨_,(cvE rfl rfl),fY,⟨q,p1,p2,p3,c,c1,c2,c3,xs,ys,rfl,qz ho fM (by decide) gY,h1'.lower hwX,h2',h3'.lower hwX,fun y hy=>(h4' y hy).lower hwX,h5',h6'.lower hwX,fun y hy=>(h7' y hy).lower hwX⟩,(gY.block L (hlt f0) (by simp;omega)).trans f0,hbX.trans (zk gY hbX.size (by omega))⟩
 clear fM ho f0 hbX;rintro vs X ⟨fM,hv,f0,hbX⟩;have hvl:vs.length=336:=by
  obtain⟨q,p1,p2,p3,c,c1,c2,c3,xs,ys,e,_⟩:=hv;rw [e,lap,zC];rfl
 have hv1:vs.all Value.oneCell'=true:=by
  obtain⟨q,p1,p2,p3,c,c1,c2,c3,xs,ys,e,_⟩:=hv;rw [e,QH,za3];rfl
 refine⟨vs,hvl,za fM,hlt fM,zt (v := .agg vs.toArray) k95 f0 hvl jQ hv1 ⟨vs,hvl,za (zn f0),⟨vs,rfl,?_⟩,zl hbX (by omega) _⟩⟩;obtain⟨q,p1,p2,p3,c,c1,c2,c3,xs,ys,e,k1,k2,k3,k4,k5,k6,k7,k8⟩:=hv;have kp:∀ {α:Type} {E:Enc α} {T cc:Nat} {r:OA} {ll:List α},T≠95->OwnS E T w.heap.size X r cc ll->OwnS E T w.heap.size (X.setRow L vs.toArray) r cc ll:=fun {α E T cc r ll} hT h=>qz h f0 hT (jI X L _);exact⟨q,p1,p2,p3,c,c1,c2,c3,xs,ys,e,kp (by decide) k1,kp (by decide) k2,k3,kp (by decide) k4,fun y hy=>kp (by decide) (k5 y hy),k6,kp (by decide) k7,fun y hy=>kp (by decide) (k8 y hy)⟩
end
structure ExV (w:Wd) (x:ExD) (q:OA):Prop where
 ev:SlR evE w q x.ev
 n:x.ev.length<=20
 po:zG x.po.to
 rf:zG x.rf.to
 co:zG x.co.to
 dt:zG x.dt.to
 ct:zG x.ct.to
 rm:zG x.rm.to
structure ExW (w:Wd) (x:ExD) (q:OA):Prop where
 ev:SlR evE w q x.ev
 n:x.ev.length<=48
 w20:∀ l,(zT x l).length<=20
 po:zG x.po.to
 rf:zG x.rf.to
 co:zG x.co.to
 dt:zG x.dt.to
 ct:zG x.ct.to
 rm:zG x.rm.to
theorem ExV.w {w:Wd} {x:ExD} {q:OA} (h:ExV w x q):ExW w x q:=by
 refine⟨h.ev,by have:=h.n;omega,fun l=>?_,h.po,h.rf,h.co,h.dt,h.ct,h.rm⟩;have h1:(zT x l).length<=x.ev.length:=by
  refine UL (JL ..) ?_;rw [KU];exact UV _
 have:=h.n;omega
theorem ExW.below {w w2:Wd} {x:ExD} {q:OA} (h:ExW w x q) (hb:Bw w w2):ExW w2 x q:=⟨h.ev.below hb,h.n,h.w20,h.po,h.rf,h.co,h.dt,h.ct,h.rm⟩
theorem ExV.below {w w2:Wd} {x:ExD} {q:OA} (h:ExV w x q) (hb:Bw w w2):ExV w2 x q:=⟨h.ev.below hb,h.n,h.po,h.rf,h.co,h.dt,h.ct,h.rm⟩
theorem zcp {w:Wd} {q:OA} {l:List Ev} (h:SlR evE w q l) {i:Nat} (hi:i<l.length):∃ b o,q=some ⟨b,o,none⟩/\b<w.heap.size/\zK w ⟨b,o+i*7,none⟩ (evE.enc (l.getD i ev0)):=by
 obtain⟨b,o,hq,hb,hat⟩:=h.at hi;refine⟨b,o,hq,hb,?_⟩;rw [gDe,gE hi];exact hat i hi
theorem zuR:TyEq PG 36 false 1 1 (fun cs=>∃ x,cs=[.int .u64 x]) := .int Tryz.underlying36 (fun w=>Tryz.isAgg36 w) (jV (by kernel_rfl) (by kernel_rfl)).1 (by kernel_rfl)
theorem zur:TyEq PG 3 false 1 1 (fun cs=>∃ x,cs=[.int .i64 x]) := .int Tryz.underlying3 (fun w=>Tryz.isAgg3 w) (jV (by kernel_rfl) (by kernel_rfl)).1 (by kernel_rfl)
theorem zuo:∃ G,TyEq PG 37 true 48 2 G/\∀ f:Nat->Nat,G (zaZ f):=by
 refine⟨_,.array (m:=48) (by decide) Tryz.underlying37 (fun w=>Tryz.isAgg37 w) (jV (by kernel_rfl) (by kernel_rfl)).1 (by kernel_rfl) zuR,fun f i hi=>⟨(f i:Nat),?_⟩⟩;unfold qV;have h:=zcZ f hi;rw [UW];have hl:i<(zaZ f).length:=by rw [zbm];exact hi
 rw [<- JE hl,List.take_succ_cons,Un];rw [gE hl] at h;rw [Ud h];rfl
theorem zup:∃ G,TyEq PG 39 true 49 3 G/\∀ r:RelD,G (zf r):=by
 obtain⟨G,h1,h2⟩:=zuo;refine⟨_,.struct (uf Tryz.underlying39).1 (by kernel_rfl) (fun w=>Tryz.isAgg39 w) (jV (by kernel_rfl) (by kernel_rfl)).1 (by kernel_rfl)
  (by rw [(uf Tryz.underlying39).2];exact .cons (by decide) rfl (zur.up 1) (.cons (by decide) rfl h1 .nil)),fun r=>?_⟩
 exact⟨⟨_,rfl⟩,by have:=h2 r.to;have e:((zf r).drop 1).take 48=zaZ r.to:=JF (by rw [show (zf r).drop 1=zaZ r.to from rfl,zbm];decide);rw [e];exact this,trivial⟩
theorem ziC {a b:RelD}:zf a=zf b↔qP a b=true:=by
 unfold qP;rw [bAT,dE,Qi];constructor
 ·intro h;have h1:i64 a.n=i64 b.n:=Jy h;have h2:zaZ a.to=zaZ b.to:=List.tail_eq_of_cons_eq h;refine⟨by injection h1,fun i hi=>Uq ?_⟩;have hi:=Um.1 hi;have h3:=zcZ a.to hi;rw [h2,zcZ b.to hi] at h3;have h4:=Ud h3;unfold s64 at h4;injection h4 with _ h5;omega
 ·rintro⟨h1,h2⟩;unfold zf zaZ;rw [h1];congr 1;refine Kk fun i hi=>?_;rw [dT (h2 i hi)]
theorem znu (x y:Operand) (a b:RelD) (w:Wd):(do eqGuard .eql 39 x y (.agg (zf a).toArray) (.agg (zf b).toArray);binOp .eql 39 (.agg (zf a).toArray) (.agg (zf b).toArray)).run PG w = .ok (.bool (qP a b)) w:=by
 obtain⟨G,h1,h2⟩:=zup;have:=zmj h1 9997 rfl (by kernel_rfl) (zh a) (zh b) (h2 a) (h2 b) x y w;rw [this,zfo ziC,Bool.decide_eq_true]
theorem zuT:∃ G,TyEq PG 49 true 7 2 G/\∀ e:Ev,G (evE.enc e):=by
 refine⟨_,.struct (uf Tryz.underlying49).1 (by kernel_rfl) (fun w=>Tryz.isAgg49 w) (jV (by kernel_rfl) (by kernel_rfl)).1 (by kernel_rfl)
  (by rw [(uf Tryz.underlying49).2];exact .cons (by decide) rfl zur (.cons (by decide) rfl tU8 (.cons (by decide) rfl tU8 (.cons (by decide) rfl tU8 (.cons (by decide) rfl tU8 (.cons (by decide) rfl tU8 (.cons (by decide) rfl tU8 .nil))))))),fun e=>?_⟩
 exact⟨⟨_,rfl⟩,⟨_,rfl⟩,⟨_,rfl⟩,⟨_,rfl⟩,⟨_,rfl⟩,⟨_,rfl⟩,⟨_,rfl⟩,trivial⟩
theorem zow {a b:Ev}:evE.enc a=evE.enc b↔a=b:=by
 constructor
 ·intro h;obtain⟨a1,a2,a3,a4,a5,a6,a7⟩:=a;obtain⟨b1,b2,b3,b4,b5,b6,b7⟩:=b;have h:[i64 a1,u8 a2,u8 a3,u8 a4,u8 a5,u8 a6,u8 a7]=[i64 b1,u8 b2,u8 b3,u8 b4,u8 b5,u8 b6,u8 b7]:=h;simp only [QJ,Gh,u8,Value.int.injEq,true_and,qu] at h;obtain⟨h1,rfl,rfl,rfl,rfl,rfl,rfl⟩:=h;have h1:a1=b1:=by injection h1
  rw [h1]
 ·rintro rfl;rfl
theorem zts (x y:Operand) (a b:Ev) (w:Wd):(do eqGuard .neq 49 x y (.agg (evE.enc a).toArray) (.agg (evE.enc b).toArray);binOp .neq 49 (.agg (evE.enc a).toArray) (.agg (evE.enc b).toArray)).run PG w = .ok (.bool (!decide (a=b))) w:=by
 obtain⟨G,h1,h2⟩:=zuT;have:=ztr h1 9998 rfl (by kernel_rfl) (a:=evE.enc a) (b:=evE.enc b) rfl rfl (h2 a) (h2 b) x y w;rw [this,zfo zow]
theorem zeA:∀ (ev:List Ev) (k:Nat),(∀ j,j<k->(ev.getD j ev0).th = -1)->k<=ev.length->qF ev=k+qF (ev.drop k)
 | ev,0,_,_=>by rw [Uk,UQ]
 | [],k+1,_,h=>by simp at h
 | e::ev,k+1,hj,h=>by
  have h0:e.th = -1:=hj 0 (by omega);have ih:=zeA ev k (fun j hjk=>hj (j+1) (by omega)) (by simpa using h);unfold qF at ih ⊢;rw [Kn,Gn (Uq h0),Qr,ih,List.drop_succ_cons];omega
section
variable {q:OA} {c:Nat} {ev:List Ev} {w:Wd}
theorem zmd (hl:SlR evE w q ev) (hn:ev.length<=1000):CB 41 #[.slice q ev.length c] w (i64 (qF ev:Nat)):=by
 refine zI 19 [.slice q ev.length c] Tryz.func41 ?_;refine⟨Nat,fun k=>⟨[(0,.slice q ev.length c),(5,.slice q ev.length c),(6,i64 ev.length),(7,i64 (k:Nat))],[]⟩,fun k X=>k<=ev.length/\(∀ j,j<k->(ev.getD j ev0).th = -1)/\Bw w X,fun k=>ev.length-k,0,(cvE rfl rfl),⟨UY _,fun j h=>by omega,Ga _ _⟩,?_⟩;rintro k X ⟨hk,hj,hbX⟩;dsimp only;have hXs:=hbX.size;refine biE (fun hc=>?_) fun hc=>?_
 ·have hc:(k:Int)<(ev.length:Int):=dT hc;have hkl:k<ev.length:=by omega
  obtain⟨b,o,rfl,hb,hat⟩:=zcp (hl.below hbX) hkl;obtain⟨e,he⟩:=nm (ev.getD k ev0);rw [<- he] at hat;refine⟨k,rfl,hkl,evE.enc e,rfl,hat,hb,zq (X:=X) (v := .agg (evE.enc e).toArray) k49 rfl rfl (Qi.2 fun u hu=>evE.one e u hu) fun Y hbY fY sY=>?_⟩;have fY:Y.heap[X.heap.size]?=some (.cells (evE.enc e).toArray 49 (0,0)):=fY;refine⟨i64 e.th,zc (za fY) (i:=0) rfl,?_⟩;have hbY2:=hbX.trans (hbY.mono hXs);refine biE (fun h=>?_) fun h=>?_
  ·have h:(!decide (e.th = -1))=true:=h;have h:¬ e.th = -1:=by simpa using h
   refine⟨?_,hbY2⟩;have h2:=zeA ev k hj hk;have h3:qF (ev.drop k)=0:=by
    unfold qF;have h4:ev[k]=e:=(by rw [he,gDe,gE hkl];rfl);rw [<- JE hkl,Kn,h4,Gm (by simpa using h)];rfl
   rw [h3] at h2;exact ri (by omega)
  ·have h:(!decide (e.th = -1))=false:=h;have h:e.th = -1:=by simpa using h
   refine nxI (by omega) ⟨k+1,(cvE rfl rfl),⟨hkl,fun j hjk=>?_,hbY2⟩,zdc (by omega)⟩;by_cases e2:j=k
   ·rw [e2,<- he];exact h
   ·exact hj j (by omega)
 ·have hc:¬ (k:Int)<(ev.length:Int):=dF hc;obtain rfl:k=ev.length:=by omega
  refine⟨?_,hbX⟩;have h2:=zeA ev ev.length hj (UV _);rw [Ql] at h2;exact ri (by rw [h2];show ((ev.length:Nat):Int)=((ev.length+0:Nat):Int);rfl)
theorem zqC {i:Nat} {v:UInt8}:zei (zjy [(0,1,false),(1,1,false),(2,1,false),(3,1,false),(4,1,false),(5,1,false),(6,1,false)]) (evE.enc ev0) [(0,i64 (-1)),(1,u8 2),(2,u8 (UInt8.ofNat i)),(3,u8 v)]=some (evE.enc ⟨-1,2,UInt8.ofNat i,v,0,0,0⟩):=rfl
theorem zii {locs:Nat} (hl:SlR evE w q ev) (hn:ev.length<=1000) (hlo:locs<=1000):CB 42 #[.slice q ev.length c,i64 locs] w (.bool (jx ev locs)):=by
 refine zI 69 [.slice q ev.length c,i64 locs] Tryz.func42 ?_;refine⟨Nat×Int×Nat,fun s=>⟨[(1,i64 locs),(5,i64 s.2.1),(6,i64 (s.2.2:Nat)),(9,.slice q ev.length c),(10,i64 ev.length),(11,i64 (s.1:Nat))],[]⟩,fun s X=>s.1<=ev.length/\s.2.2<=s.1/\zbY locs s.1 (ev.drop s.1) s.2.1 s.2.2=jx ev locs/\Bw w X,fun s=>ev.length-s.1,(0,0,0),(cvE rfl rfl),⟨UY _,UV _,rfl,Ga _ _⟩,?_⟩;rintro⟨k,t,m⟩ X ⟨hk,hm,hgo,hbX⟩;dsimp only at hk hm hgo ⊢;have hXs:=hbX.size;refine biE (fun hc=>?_) fun hc=>?_
 ·have hc:(k:Int)<(ev.length:Int):=dT hc;have hkl:k<ev.length:=by omega
  obtain⟨b,o,rfl,hb,hat⟩:=zcp (hl.below hbX) hkl;obtain⟨e,he⟩:=nm (ev.getD k ev0);rw [<- he] at hat;have hdr:ev.drop k=e::ev.drop (k+1):=by
   rw [<- JE hkl,he,gDe,gE hkl];rfl
  rw [hdr] at hgo;unfold zbY at hgo;refine⟨k,rfl,hkl,evE.enc e,rfl,hat,hb,zq (X:=X) (v := .agg (evE.enc e).toArray) k49 rfl rfl (Qi.2 fun u hu=>evE.one e u hu) fun Y hbY fY sY=>?_⟩;have fY:Y.heap[X.heap.size]?=some (.cells (evE.enc e).toArray 49 (0,0)):=fY;have hbY2:=hbX.trans (hbY.mono hXs);have ld:∀ {i:Nat} {v:Value},(evE.enc e)[i]?=some v->Y.cell? ⟨X.heap.size,0+i,none⟩=some v:=fun h=>zc (za fY) h;have no:jx ev locs=false->(Ending.returned (.bool false)=Ending.returned (.bool (jx ev locs))/\Bw w Y):=fun h=>⟨rb h.symm,hbY2⟩;refine biE (fun h=>?_) fun h=>?_
  ·have h:(k:Int)<(locs:Int):=dT h;rw [Gn (by omega:k<locs)] at hgo;refine⟨evE.enc e,rfl,za fY,hlt fY,_,w8N k,u8 e.v,ld (i:=3) rfl,evE.enc ⟨-1,2,UInt8.ofNat k,e.v,0,0,0⟩,zqC,_,fun w=>zts _ _ e _ w,biE (fun h2=>?_) fun h2=>?_⟩
   ·have h2:¬ e=⟨-1,2,UInt8.ofNat k,e.v,0,0,0⟩:=(by simpa using h2);rw [Gm h2] at hgo;exact no hgo.symm
   ·have h2:e=⟨-1,2,UInt8.ofNat k,e.v,0,0,0⟩:=(by simpa using h2);rw [Gn h2] at hgo;exact nxI (by omega) ⟨(k+1,t,m),(cvE rfl rfl),⟨hkl,by show m<=k+1;omega,hgo,hbY2⟩,zdc (by omega)⟩
  ·have h:¬ (k:Int)<(locs:Int):=dF h;rw [Gm (by omega:¬ k<locs)] at hgo;refine⟨i64 e.th,ld (i:=0) rfl,biE (fun h1=>?_) fun h1=>?_⟩
   ·have h1:e.th<t:=dT h1;refine brT ?_;rw [Gn (.inl h1)] at hgo;exact no hgo.symm
   have h1:¬ e.th<t:=dF h1;refine⟨i64 e.th,ld (i:=0) rfl,biE (fun h2=>?_) fun h2=>?_⟩
   ·have h2:4<=e.th:=dT h2;rw [Gn (.inr h2)] at hgo;exact no hgo.symm
   have h2:¬ 4<=e.th:=dF h2;rw [Gm (by rintro (h | h);exact h1 h;exact h2 h)] at hgo;refine⟨i64 e.th,ld (i:=0) rfl,biE (fun h9=>?_) fun h9=>?_⟩
   ·have h9:t<e.th:=dT h9;dsimp only at hgo;rw [Gn h9,Gn h9] at hgo;refine⟨i64 e.th,ld (i:=0) rfl,u8 e.p,ld (i:=6) rfl,(e.p.toNat:Int),q8 _,biE (fun h3=>?_) fun h3=>?_⟩
    ·have h3:¬ e.p.toNat=0:=by
      have h3:(!decide ((e.p.toNat:Int)=(0:Nat)))=true:=h3;simpa using h3
     rw [Gm h3] at hgo;exact no hgo.symm
    have h3:e.p.toNat=0:=by
     have h3:(!decide ((e.p.toNat:Int)=(0:Nat)))=false:=h3;simpa using h3
    rw [Gn h3] at hgo;refine⟨((0+1:Nat):Int),(ze (by omega)).trans (by omega),u8 e.k,ld (i:=1) rfl,biE (fun h4=>?_) fun h4=>?_⟩
    ·refine brE h4 ?_;have h4:e.k=1:=qu.1 (dT h4);rw [Gn (.inl h4)] at hgo;refine⟨u8 e.l,ld (i:=2) rfl,(e.l.toNat:Int),q8 _,biE (fun h5=>?_) fun h5=>?_⟩
     ·have h5:(locs:Int)<=(e.l.toNat:Int):=dT h5;rw [Gm (by omega)] at hgo;exact no hgo.symm
     ·have h5:¬ (locs:Int)<=(e.l.toNat:Int):=dF h5;rw [Gn (by omega)] at hgo;exact nxI (by omega) ⟨(k+1,e.th,0+1),(cvE rfl rfl),⟨hkl,by show 0+1<=k+1;omega,hgo,hbY2⟩,zdc (by omega)⟩
    have h4:¬ e.k=1:=fun e2=>(dF h4) (by rw [e2];rfl);refine biE (fun h5=>?_) fun h5=>?_
    ·have h5:e.k=2:=qu.1 (dT h5);rw [Gn (.inr h5)] at hgo;refine⟨u8 e.l,ld (i:=2) rfl,(e.l.toNat:Int),q8 _,biE (fun h5=>?_) fun h5=>?_⟩
     ·have h5:(locs:Int)<=(e.l.toNat:Int):=dT h5;rw [Gm (by omega)] at hgo;exact no hgo.symm
     ·have h5:¬ (locs:Int)<=(e.l.toNat:Int):=dF h5;rw [Gn (by omega)] at hgo;exact nxI (by omega) ⟨(k+1,e.th,0+1),(cvE rfl rfl),⟨hkl,by show 0+1<=k+1;omega,hgo,hbY2⟩,zdc (by omega)⟩
    have h5:¬ e.k=2:=fun e2=>(dF h5) (by rw [e2];rfl);rw [Gm (by rintro (h | h);exact h4 h;exact h5 h)] at hgo;refine biE (fun h6=>?_) fun h6=>?_
    ·have h6:e.k=3:=qu.1 (dT h6);rw [Gn h6] at hgo;refine⟨u8 e.l,ld (i:=2) rfl,biE (fun h7=>?_) fun h7=>?_⟩
     ·have h7:¬ e.l=0:=by
       have h7:(!decide ((e.l.toNat:Int)=0))=true:=h7;intro e2;rw [e2] at h7
       cases h7
      refine brT ?_;rw [Gm fun h=>h7 h.1] at hgo;exact no hgo.symm
     ·have h7:e.l=0:=by
       have h7:(!decide ((e.l.toNat:Int)=((0:UInt8).toNat:Int)))=false:=h7;exact qu.1 (by simpa using h7)
      refine⟨u8 e.v,ld (i:=3) rfl,biE (fun h8=>?_) fun h8=>?_⟩
      ·have h8:¬ e.v=0:=by
        have h8:(!decide ((e.v.toNat:Int)=0))=true:=h8;intro e2;rw [e2] at h8
        cases h8
       rw [Gm fun h=>h8 h.2] at hgo;exact no hgo.symm
      ·have h8:e.v=0:=by
        have h8:(!decide ((e.v.toNat:Int)=((0:UInt8).toNat:Int)))=false:=h8;exact qu.1 (by simpa using h8)
       rw [Gn ⟨h7,h8⟩] at hgo;exact nxI (by omega) ⟨(k+1,e.th,0+1),(cvE rfl rfl),⟨hkl,by show 0+1<=k+1;omega,hgo,hbY2⟩,zdc (by omega)⟩
    ·have h6:¬ e.k=3:=fun e2=>(dF h6) (by rw [e2];rfl);rw [Gm h6] at hgo;exact no hgo.symm
   ·have h9:¬ t<e.th:=dF h9;dsimp only at hgo;rw [Gm h9,Gm h9] at hgo;refine⟨u8 e.p,ld (i:=6) rfl,(e.p.toNat:Int),q8 _,biE (fun h3=>?_) fun h3=>?_⟩
    ·have h3:¬ e.p.toNat=m:=by
      have h3:(!decide ((e.p.toNat:Int)=(m:Nat)))=true:=h3;intro e2;rw [e2] at h3;simp at h3
     rw [Gm h3] at hgo;exact no hgo.symm
    have h3:e.p.toNat=m:=by
     have h3:(!decide ((e.p.toNat:Int)=(m:Nat)))=false:=h3;have h3:(e.p.toNat:Int)=(m:Nat):=(by simpa using h3);omega
    rw [Gn h3] at hgo;refine nxI (by omega) ⟨u8 e.k,ld (i:=1) rfl,biE (fun h4=>?_) fun h4=>?_⟩
    ·refine brE h4 ?_;have h4:e.k=1:=qu.1 (dT h4);rw [Gn (.inl h4)] at hgo;refine⟨u8 e.l,ld (i:=2) rfl,(e.l.toNat:Int),q8 _,biE (fun h5=>?_) fun h5=>?_⟩
     ·have h5:(locs:Int)<=(e.l.toNat:Int):=dT h5;rw [Gm (by omega)] at hgo;exact no hgo.symm
     ·have h5:¬ (locs:Int)<=(e.l.toNat:Int):=dF h5;rw [Gn (by omega)] at hgo;exact nxI (by omega) ⟨(k+1,t,m+1),(cvE rfl rfl),⟨hkl,by show m+1<=k+1;omega,hgo,hbY2⟩,zdc (by omega)⟩
    have h4:¬ e.k=1:=fun e2=>(dF h4) (by rw [e2];rfl);refine biE (fun h5=>?_) fun h5=>?_
    ·have h5:e.k=2:=qu.1 (dT h5);rw [Gn (.inr h5)] at hgo;refine⟨u8 e.l,ld (i:=2) rfl,(e.l.toNat:Int),q8 _,biE (fun h5=>?_) fun h5=>?_⟩
     ·have h5:(locs:Int)<=(e.l.toNat:Int):=dT h5;rw [Gm (by omega)] at hgo;exact no hgo.symm
     ·have h5:¬ (locs:Int)<=(e.l.toNat:Int):=dF h5;rw [Gn (by omega)] at hgo;exact nxI (by omega) ⟨(k+1,t,m+1),(cvE rfl rfl),⟨hkl,by show m+1<=k+1;omega,hgo,hbY2⟩,zdc (by omega)⟩
    have h5:¬ e.k=2:=fun e2=>(dF h5) (by rw [e2];rfl);rw [Gm (by rintro (h | h);exact h4 h;exact h5 h)] at hgo;refine biE (fun h6=>?_) fun h6=>?_
    ·have h6:e.k=3:=qu.1 (dT h6);rw [Gn h6] at hgo;refine⟨u8 e.l,ld (i:=2) rfl,biE (fun h7=>?_) fun h7=>?_⟩
     ·have h7:¬ e.l=0:=by
       have h7:(!decide ((e.l.toNat:Int)=0))=true:=h7;intro e2;rw [e2] at h7
       cases h7
      refine brT ?_;rw [Gm fun h=>h7 h.1] at hgo;exact no hgo.symm
     ·have h7:e.l=0:=by
       have h7:(!decide ((e.l.toNat:Int)=((0:UInt8).toNat:Int)))=false:=h7;exact qu.1 (by simpa using h7)
      refine⟨u8 e.v,ld (i:=3) rfl,biE (fun h8=>?_) fun h8=>?_⟩
      ·have h8:¬ e.v=0:=by
        have h8:(!decide ((e.v.toNat:Int)=0))=true:=h8;intro e2;rw [e2] at h8
        cases h8
       rw [Gm fun h=>h8 h.2] at hgo;exact no hgo.symm
      ·have h8:e.v=0:=by
        have h8:(!decide ((e.v.toNat:Int)=((0:UInt8).toNat:Int)))=false:=h8;exact qu.1 (by simpa using h8)
       rw [Gn ⟨h7,h8⟩] at hgo;exact nxI (by omega) ⟨(k+1,t,m+1),(cvE rfl rfl),⟨hkl,by show m+1<=k+1;omega,hgo,hbY2⟩,zdc (by omega)⟩
    ·have h6:¬ e.k=3:=fun e2=>(dF h6) (by rw [e2];rfl);rw [Gm h6] at hgo;exact no hgo.symm
 ·have hc:¬ (k:Int)<(ev.length:Int):=dF hc;obtain rfl:k=ev.length:=by omega
  rw [Ql] at hgo;exact⟨rb hgo,hbX⟩
end
end Go.Proofs.YtkpaomeeknegpaaGreatDoor
namespace Go.Vc
open Go.RowKit
def zqX {α:Type} (P:Program) (g:Nat) (lb:List Value) (xs:List α) (W0:Wd) (Rd:Nat->Prop) (St:List α->List Value->Wd->Prop) (Gv:List Value->Nat->Prop):Prop :=
 ∀ (l:Nat) (F0:Nat->Prop) (J:List α->(Nat->Prop)->Wd->Prop) (W:Wd),W0.heap.size<=W.heap.size->(∀ k,Rd k->W.heap[k]?=W0.heap[k]?)->(∀ k,Rd k->¬ F0 k) ->
  JG W.heap.size (fun _=>False) J ->
  (∀ pre x vs F W1,J pre F W1->St (pre++[x]) vs W1->(∀ k,Gv vs k->W.heap.size<=k)->(pre++[x]) <+: xs->YieldR P l vs.toArray W1 fun v W2 =>
   v = .bool true/\∃ F',J (pre++[x]) F' W2/\KeepsG (fun k=>F k\/Gv vs k) F' W1 W2) ->
  J [] F0 W ->
  Calls P g (.func (.yield l) #[] #[]::lb).toArray W fun e W'=>(∃ v,e = .returned v)/\∃ F',J xs F' W'
theorem zte {α:Type} {S:Sig} (hS:SigOk S) (hr:S.r=none) {f:Operand} {ps:Array Tmp} {assign body:Code} {E:Env} {w:Wd} {Q:Exit->Env->Wd->Prop}
  {gf:Nat} {lb:Array Value} (hg:opd E f=some (.func (.func gf) #[] lb)) (hok:jY S gf=true)
  {xs:List α} {W0:Wd} {Rd:Nat->Prop} {St:List α->List Value->Wd->Prop} {Gv:List Value->Nat->Prop} (hI:zqX S.P gf lb.toList xs W0 Rd St Gv) (hGv:∀ pre vs W k,St pre vs W->Gv vs k->∃ cs t fr,W.heap[k]?=some (.cells cs t fr)) (hW0:W0.heap.size<=w.heap.size) (hRd:∀ k,Rd k->k<W0.heap.size/\w.heap[k]?=W0.heap[k]?)
  (hps:∀ pre vs W,St pre vs W->vs.length=ps.size) (hpn:∀ p∈ps.toList,p<S.n)
  (F0:Nat->Prop) (J:List α->(Nat->Prop)->Wd->Prop) (hRF:∀ k,Rd k->¬ F0 k)
  (hJ:JG w.heap.size (fun _=>False) J) (h0:J [] F0 w)
  (hround:∀ (l:Nat) (pre:List α) (x:α) (vs:List Value) (F:Nat->Prop) (W:Wd),w.heap.size<=l->(pre++[x]) <+: xs->J pre F W->St (pre++[x]) vs W->(∀ k,Gv vs k->w.heap.size<=k)->¬ F l->(∃ lo,W.heap[l]?=some (.loop lo)) ->
   wpE (sr S l) assign ⟨zgY ps.toList vs E.vs,[]⟩ W fun ex E1 W1=>ex = .normal/\∃ F1,KeepsG (fun k=>F k\/Gv vs k) F1 W W1/\J pre F1 W1 /\
    ∀ o W2,W2=W1.putObj l o->J pre F1 W2->wpE (sr S l) body E1 W2 (zsV F1 J (fun _ _ _ _=>False) (pre++[x]) W2))
  (hdone:∀ D F W,w.heap.size<=D->¬ F D->J xs F W->W.heap[D]?=some (.deferred (some []))->Q .normal ⟨E.vs,{ target := .collected D,args := #[] }::E.ds⟩ W) :
  zj3 S f ps assign body E w Q:=by
 intro a ha;have hcall:∀ args w,(callFunc gf args).run S.P w = .ok (.enter gf args) w:=by
  simp only [jY,bAT,Gc,Gd] at hok;exact fun args w=>hS.call gf hok.1.1 hok.1.2 hok.2 args w
 refine wpIn_rangeFunc ?_;intro fn hfn;have hro:(FR S.r).round=none:=hr;rw [hro];obtain⟨rec,hrec⟩:∃ rec:LoopState->Option Code->Loop,rec=fun st pe=>{ state:=st,pending:=pe,fn,tmps:=a.tmps,params:=ps,assign,body,defers:=w.heap.size }:=⟨_,rfl⟩;obtain⟨W1,hW1⟩:∃ W1,(w.alloc (.deferred (some []))).alloc (.loop (rec .ready none))=W1:=⟨_,rfl⟩;have hK0:=zw w (.deferred (some []));have hK1:W1.heap[w.heap.size]?=some (.deferred (some [])):=by rw [<- hW1];exact qM _ hK0
 have hL1:W1.heap[w.heap.size+1]?=some (.loop (rec .ready none)):=by
  rw [<- hW1];have:=zw (w.alloc (.deferred (some []))) (.loop (rec .ready none));rwa [wz] at this
 have hs1:W1.heap.size=w.heap.size+2:=by rw [<- hW1];simp
 have hst1:Bw w W1:=by
  rw [<- hW1];exact ((zba w _)).alloc (by simp) _
 have hJ1:=hJ.step _ _ _ _ h0 (.below hst1);have hFl:∀ k,F0 k->k<w.heap.size:=fun k hk=>(hJ.lt _ _ _ k h0 hk).1;refine⟨w.heap.size+1,[{ target := .collected w.heap.size,args := #[] }],W1,{ target := .fn (.func gf) lb,args := #[.func (.yield (w.heap.size+1)) #[] #[]] },W1,gf,
  #[.func (.yield (w.heap.size+1)) #[] #[]]++lb,W1,?_,?_,fun _ _=>trivial,?_,fun h=>by simp [FR] at h,?_⟩
 ·rw [<- hW1,hrec];exact Kq _ _ _ _ _
 ·have hg':=ha.eval hg;simp only [resolve,hg'];simp [go_sem]
 ·simp [invoke,go_sem,hcall]
 ·have hargs : #[Value.func (.yield (w.heap.size+1)) #[] #[]]++lb=(Value.func (.yield (w.heap.size+1)) #[] #[]::lb.toList).toArray:=by rw [<- Qd];simp
  rw [hargs];have book:∀ {σ:Type} {K:σ->(Nat->Prop)->Wd->Prop} (lo:Loop),JG w.heap.size (fun _=>False) K->JG W1.heap.size (fun _=>False) (fun s F W=>K s F W/\W.heap[w.heap.size+1]?=some (.loop lo)/\W.heap[w.heap.size]?=some (.deferred (some []))/\¬ F (w.heap.size+1)/\¬ F w.heap.size):=by
   intro σ K lo hK;exact⟨fun s F A B ⟨hk,hl,hd,hf1,hf2⟩ hs=>⟨hK.step s F A B hk (hs.mono (by omega)),(hs.same _ (hlt hl) (.inl ⟨by omega,fun h=>h⟩)).trans hl,(hs.same _ (hlt hd) (.inl ⟨by omega,fun h=>h⟩)).trans hd,hf1,hf2⟩,fun s F A k ⟨hk,_⟩ hf=>hK.lt s F A k hk hf⟩
  have hcalls:=hI (w.heap.size+1) F0 (fun pre F W=>J pre F W/\W.heap[w.heap.size+1]?=some (.loop (rec .ready none))/\W.heap[w.heap.size]?=some (.deferred (some []))/\¬ F (w.heap.size+1)/\¬ F w.heap.size)
   W1 (by omega) (fun k hk=>by
    obtain⟨h1,h2⟩:=hRd k hk;rw [<- h2];exact hst1.block k (by omega)) hRF (book _ hJ) ?_ ⟨hJ1,hL1,hK1,fun h=>by have:=hFl _ h;omega,fun h=>by have:=hFl _ h;omega⟩
  ·refine zdb (hcalls.mono ?_);rintro e W2 ⟨⟨v,rfl⟩,F,hj,hl,hk,hf1,hf2⟩;have hj2:=hJ.step _ _ _ _ hj (StepG.put (Ow:=fun _=>False) (o := .loop (rec .exhausted none)) (n0:=w.heap.size) (l:=w.heap.size+1) (by omega) hf1);refine⟨none,_,by have:=UZ (P:=S.P) hl (by rw [hrec];simp);rw [hrec] at this;exact this,?_⟩;rw [hrec] at hj2;exact⟨⟨E.vs,{ target := .collected w.heap.size,args := #[] }::E.ds⟩,⟨ha.size,by simp [ha.defers],ha.val⟩,hdone w.heap.size F _ (UV _) hf2 hj2 ((zj (by omega)).trans hk)⟩
  ·rintro pre x vs F W ⟨hj,hl,hk,hf1,hf2⟩ hst0 hgv0 hpre;have hg1:¬ (F (w.heap.size+1)\/Gv vs (w.heap.size+1)):=fun h=>h.elim hf1 fun h=>by
    obtain⟨_,_,_,h2⟩:=hGv _ _ _ _ hst0 h;rw [hl] at h2;cases h2
   have hg2:¬ (F w.heap.size\/Gv vs w.heap.size):=fun h=>h.elim hf2 fun h=>by
    obtain⟨_,_,_,h2⟩:=hGv _ _ _ _ hst0 h;rw [hk] at h2;cases h2
   have hy:=run_yield (P:=S.P) (args:=vs.toArray) hl (by rw [hrec];simpa using hps _ _ _ hst0);rw [hrec] at hy;refine⟨fn,_,assign,body,hy,zb5 (r:=none) (n:=NN) (roundIn_of_wpIn (F:=FR none) trivial ?_)⟩;have hag:Agrees (sr S (w.heap.size+1)) { tmps:=(ps.zip vs.toArray).foldl (fun t (p,v)=>t.setIfInBounds p v) a.tmps,defers:=[] } ⟨zgY ps.toList vs E.vs,[]⟩:=by
    have h1:Agrees (sr S (w.heap.size+1)) { a with defers:=[] } ⟨E.vs,[]⟩:=⟨ha.size,rfl,ha.val⟩;have h2:=zb4 ps.toList vs _ _ h1 hpn;have e:(ps.zip vs.toArray).foldl (fun t (p,v)=>t.setIfInBounds p v) a.tmps=(ps.toList.zip vs).foldl (fun t (p,v)=>t.setIfInBounds p v) a.tmps:=by
     rw [<- Kr];simp
    rw [e];exact h2
   have hw:=q9 (ziu hS _) assign _ _ W _ hag (hround (w.heap.size+1) pre x vs F W (by omega) hpre hj hst0 (fun k hk=>by have:=hgv0 k hk;omega) hf1 ⟨_,hl⟩);refine Gg hw ?_;rintro ex a1 Wa ⟨E1,hag1,rfl,F1,hk1,hj1,hbody⟩;have hla:=(hk1.same _ (hlt hl) hg1).trans hl;have hka:=(hk1.same _ (hlt hk) hg2).trans hk;have hfa1:¬ F1 (w.heap.size+1):=fun h=>by rcases hk1.fp _ h with h | h;exact hg1 h;have:=hlt hl;omega
   have hfa2:¬ F1 w.heap.size:=fun h=>by rcases hk1.fp _ h with h | h;exact hg2 h;have:=hlt hk;omega
   refine⟨_,run_beginRound hla (by rw [hrec]),?_⟩;have hst:StepG w.heap.size (fun _=>False) F1 Wa (Wa.putObj (w.heap.size+1) (.loop { rec .ready none with state := .busy })) := .put (by omega) hfa1 _;have hj2:=hJ.step _ _ _ _ hj1 hst;have hw2:=q9 (ziu hS _) body _ _ _ _ hag1 (hbody _ _ rfl hj2);refine Gg hw2 ?_;have hl2:(Wa.putObj (w.heap.size+1) (.loop { rec .ready none with state := .busy })).heap[w.heap.size+1]?=some (.loop { rec .ready none with state := .busy }):=zcD hla;have hk2:(Wa.putObj (w.heap.size+1) (.loop { rec .ready none with state := .busy })).heap[w.heap.size]?=some (.deferred (some [])):=(zj (by omega)).trans hka;rintro e a3 W3 ⟨E3,_,hq⟩
   cases e with
   | normal =>
    obtain⟨F3,hj3,hk3⟩:=hq;have hl3:=(hk3.same _ (hlt hl2) hfa1).trans hl2;have hd3:=(hk3.same _ (hlt hk2) hfa2).trans hk2;have hf31:¬ F3 (w.heap.size+1):=fun h=>by rcases hk3.fp _ h with h | h;exact hfa1 h;have:=hlt hl2;omega
    have hf32:¬ F3 w.heap.size:=fun h=>by rcases hk3.fp _ h with h | h;exact hfa2 h;have:=hlt hk2;omega
    have hr3:=run_endRound (P:=S.P) none hl3;have hl4:=zcD (o' := .loop (rec .ready none)) hl3;have hk4:(W3.putObj (w.heap.size+1) (.loop (rec .ready none))).heap[w.heap.size]?=some (.deferred (some [])):=(zj (by omega)).trans hd3;have hs3:StepG w.heap.size (fun _=>False) F3 W3 (W3.putObj (w.heap.size+1) (.loop (rec .ready none))) := .put (by omega) hf31 _;have hj4:=hJ.step _ _ _ _ hj3 hs3;rw [hrec] at hr3 hl4 hk4 hs3 hj4;refine⟨_,_,hr3,rfl,F3,⟨hj4,by rw [hrec];exact hl4,hk4,hf31,hf32⟩,hs3.os.trans (hk3.os.trans hk1.os),hs3.tape.trans (hk3.tape.trans hk1.tape),hs3.output.trans (hk3.output.trans hk1.output),?_,fun k hk5 hf5=>?_,fun k hk5=>?_⟩
    ·have h1:=hk1.size;have h2:=hst.size;have h3:=hk3.size;have h4:=hs3.size;exact UL (UL (UL h1 h2) h3) h4
    ·by_cases hkl:k=w.heap.size+1
     ·subst hkl;rw [hl,hrec];exact hl4
     ·have h1:¬ F1 k:=fun h=>by rcases hk1.fp _ h with h | h;exact hf5 h;omega
      have h2:=hk1.size;have h3:=hst.size;rw [zj hkl,hk3.same k (by omega) h1,zj hkl];exact hk1.same k hk5 hf5
    ·rcases hk3.fp _ hk5 with h2 | h2
     ·exact hk1.fp _ h2
     ·have h3:=hk1.size;have h4:=hst.size;exact .inr (by omega)
   | ret=>exact (show False from (by obtain⟨_,h,_⟩:=hq;exact h)).elim
   | exit id=>exact (show False from (by obtain⟨_,h,_⟩:=hq;exact h)).elim
   | goto t=>exact hq.elim
   | panic ch=>exact hq.elim
   | outgrown=>exact hq.elim
end Go.Vc
namespace Go.Proofs.YtkpaomeeknegpaaGreatDoor
open Go.Vc Go.RowKit Go.Sei
abbrev zdO:=List zaU×OA×Nat
def zic:Enc zdO where
 sz:=1
 enc x:=[.slice x.2.1 x.1.length x.2.2]
 len x:=rfl
 one x v hv:=by
  simp at hv;subst hv;rfl
 pos:=by decide
structure MixM (Rd:Nat->Prop) (w:Wd) (b o:Nat) (m:MixD) (q:OA) (c:Nat) (p1 p2 p3:OA) (c1 c2 c3:Nat) (xs ys:List zaU):Prop where
 cells:zK w ⟨b,o,none⟩ (exC m.base q c++[.slice p1 m.rs.length c1,.slice p2 xs.length c2,.slice p3 ys.length c3])
 ev:SlR evE w q m.base.ev
 qn:q=none->c=0
 r1:SlR zA w p1 (m.rs.map (·.1))
 e2:xs.map (·.1)=m.rs.map (·.2)
 r2:SlR jk w p2 xs
 n2:∀ y∈xs,SlR zA w y.2.1 y.1
 e3:ys.map (·.1)=m.wr
 r3:SlR jk w p3 ys
 n3:∀ y∈ys,SlR zA w y.2.1 y.1
 db:Rd b
 dq:∀ a,q=some a->Rd a.block
 d1:∀ a,p1=some a->Rd a.block
 d2:∀ a,p2=some a->Rd a.block
 d3:∀ a,p3=some a->Rd a.block
 m2:∀ y∈xs,∀ a,y.2.1=some a->Rd a.block
 m3:∀ y∈ys,∀ a,y.2.1=some a->Rd a.block
theorem MixM.same {Rd:Nat->Prop} {w X:Wd} {b o:Nat} {m:MixD} {q:OA} {c:Nat} {p1 p2 p3:OA} {c1 c2 c3:Nat} {xs ys:List zaU} (h:MixM Rd w b o m q c p1 p2 p3 c1 c2 c3 xs ys) (hs:∀ k,Rd k->X.heap[k]?=w.heap[k]?):MixM Rd X b o m q c p1 p2 p3 c1 c2 c3 xs ys :=
 ⟨jy (hs _ h.db) h.cells,ji h.ev fun a ha=>hs _ (h.dq a ha),h.qn,ji h.r1 fun a ha=>hs _ (h.d1 a ha),h.e2,ji h.r2 fun a ha=>hs _ (h.d2 a ha),fun y hy=>ji (h.n2 y hy) fun a ha=>hs _ (h.m2 y hy a ha),
  h.e3,ji h.r3 fun a ha=>hs _ (h.d3 a ha),fun y hy=>ji (h.n3 y hy) fun a ha=>hs _ (h.m3 y hy a ha),h.db,h.dq,h.d1,h.d2,h.d3,h.m2,h.m3⟩
theorem ze8 {w:Wd} {b o:Nat} {x:ExD} {q:OA} {c:Nat} {S:List Value} (h:zK w ⟨b,o,none⟩ (exC x q c++S)) {i:Nat} {v:Value} (hi:S[i]?=some v):w.cell? ⟨b,o+(333+i),none⟩=some v:=zc h (zgD hi)
theorem zvc {B c:Nat} {V1:Wd} {p:OA} {l:List zdO} {y:zdO} {a:Addr} (ho:OwnS zic 93 B V1 p c l) (ha:zK V1 a ([y].flatMap zic.enc)) (hB:B<=V1.heap.size) (hl:l.length<=100000) {K:Value->Wd->Prop}
  (h:∀ p' c' w',OwnS zic 93 B w' p' c' (l++[y])->V1.grownBy w' (p.map Addr.block)->(∀ a,p'=some a->p=some a\/a.block=V1.heap.size)->K (.slice p' (l++[y]).length c') w') :
  SatR ((Builtin.append_ #[142,142] 142 #[.slice p l.length c,.slice (some a) 1 1]).run PG V1) K :=
 jJ (E:=zic) (T:=93) (B:=B) (l:=l) (news:=[y]) (cap:=c) (m:=1) Tryz.underlying142 k93 rfl rfl rfl ho rfl ha hB (by omega) (by show (l.length+1)*24<=_;omega) fun p' c' w' a1 a2 _ a4=>h p' c' w' a1 (by rw [zat] at a2;exact a2) a4
structure CanS (B:Nat) (Z:Wd) (yl L R:Nat) (ss:List Nat) (ps:OA) (cs:Nat) (zs:List zdO) (pr:OA) (cr:Nat):Prop where
 fL:Z.heap[L]?=some (.cells #[.func (.yield yl) #[] #[]] 79 (0,0))
 fR:Z.heap[R]?=some (.cells #[.slice pr zs.length cr] 142 (0,0))
 own:OwnS zA 3 B Z ps cs ss
 rk:OwnS zic 93 B Z pr cr zs
 n1:∀ z∈zs,OwnS jk 62 B Z z.2.1 z.2.2 z.1
 n2:∀ z∈zs,∀ y∈z.1,OwnS zA 3 B Z y.2.1 y.2.2 y.1
 dis:∀ z∈zs,∀ y∈z.1,∀ a b,ps=some a->y.2.1=some b->a.block≠b.block
theorem CanS.below {B:Nat} {Z Y:Wd} {yl L R:Nat} {ss:List Nat} {ps:OA} {cs:Nat} {zs:List zdO} {pr:OA} {cr:Nat} (h:CanS B Z yl L R ss ps cs zs pr cr) (hb:Bw Z Y):CanS B Y yl L R ss ps cs zs pr cr :=
 ⟨zb hb h.fL,zb hb h.fR,h.own.below hb,h.rk.below hb,fun z hz=>(h.n1 z hz).below hb,fun z hz y hy=>(h.n2 z hz y hy).below hb,h.dis⟩
theorem CanS.size {B:Nat} {Z Y:Wd} {yl L R:Nat} {ss:List Nat} {ps:OA} {cs:Nat} {zs:List zdO} {pr:OA} {cr:Nat} (h:CanS B Z yl L R ss ps cs zs pr cr) {ps':OA} {cs' n:Nat} (ho:OwnS zA 3 B Y ps' cs' (ss++[n])) (g:Z.grownBy Y (ps.map Addr.block)) (hat:∀ a,ps'=some a->ps=some a\/a.block=Z.heap.size):CanS B Y yl L R (ss++[n]) ps' cs' zs pr cr :=
 ⟨qy h.fL h.own (by decide) g,qy h.fR h.own (by decide) g,ho,zas h.rk h.own (by decide) g,fun z hz=>zas (h.n1 z hz) h.own (by decide) g,fun z hz y hy=>zdt (h.n2 z hz y hy) g fun a b ha hb=>h.dis z hz y hy a b ha hb,fun z hz y hy a b ha hb=>by
  rcases hat a ha with h1 | h1
  ·exact h.dis z hz y hy a b h1 hb
  ·have:=(zx (h.n2 z hz y hy) hb).2.1;omega⟩
theorem zmQ {ds:List Nat}:∀ {rs:List (Nat×List Nat)} {ds:List Nat} {f:Nat->Nat},zG f->(∀ r∈rs,r.1<48)->zG (rfF rs ds f)
 | [],_,_,h,_=>h
 | (r,s)::rs,ds,f,h,hr=>by
  have h1:=hr (r,s) Kz;refine zmQ (rs:=rs) (ds:=ds.tail) (f:=upd f (s.getD (ds.headD 0) 0) (f (s.getD (ds.headD 0) 0)|||2^r)) ?_ fun x hx=>hr x (JW _ hx);intro j hj;by_cases e:j=s.getD (ds.headD 0) 0
  ·rw [e,zP];exact KX (by rw [<- e];exact h j hj) (z7 (by have:r<48:=h1;omega))
  ·rw [qr _ _ e];exact h j hj
theorem zny {ev:List Ev}:∀ {Rs:List (List (List Nat))} {l:Nat} {ds:List Nat} {p:RelD×(Nat->UInt8)},zG p.1.to->(∀ R∈Rs,∀ k∈R,∀ a∈k,a<48)->zG (coG ev l Rs ds p).1.to
 | [],_,_,_,h,_=>h
 | R::Rs,l,ds,p,h,hr=>by
  refine zny (Rs:=Rs) (l:=l+1) (ds:=ds.tail) (p:=(j9 (R.getD (ds.headD 0) []) p.1,_)) (ziQ h fun a ha=>?_) fun x hx=>hr x (JW _ hx);rw [gDe] at ha
  cases hg:R[ds.headD 0]? with
  | none=>rw [hg] at ha;cases ha
  | some k =>
   rw [hg] at ha;exact hr R Kz k (JY hg) a ha
section
variable (x:ExD) (q:OA) (c:Nat)
theorem zp9:∃ A Z,A.length=50/\∀ r,exC { x with rf:=r } q c=A++(zf r++Z):=by
 obtain⟨A,Z,h1,h2⟩:=zsQ x q c [];exact⟨A,Z,h1,fun r=>by rw [<- h2,QI]⟩
theorem zmi:∃ A Z,A.length=99/\∀ r,exC { x with co:=r } q c=A++(zf r++Z):=by
 obtain⟨A,Z,h1,h2⟩:=zsS x q c [];exact⟨A,Z,h1,fun r=>by rw [<- h2,QI]⟩
theorem zr1 {l:Nat} (hl:l<6) (v:UInt8):(exC x q c).set (327+l) (u8 v)=exC { x with mem:=upd x.mem l v } q c:=by
 obtain⟨A,Z,h1,h2⟩:=zp8 x q c [];have e1:=h2 x.mem;have e2:=h2 (upd x.mem l v);rw [QI] at e1 e2;rw [e2];show (exC { x with mem:=x.mem } q c).set _ _=_;rw [e1,qH h1];have e3:=zeP (B:=Z) (f:=fun i=>u8 (x.mem i)) (fun i=>u8 (upd x.mem l v i)) hl (fun j hj=>by rw [qr _ _ hj]);rw [<- e3,zP]
theorem ztI (l:List Ev) (q':OA) (c':Nat):(exC x q c).set 0 (.slice q' l.length c')=exC { x with ev:=l } q' c':=rfl
end
abbrev zb0:=ExD×OA×Nat
def exE:Enc zb0:=⟨fun x=>exC x.1 x.2.1 x.2.2,333,fun _=>zC ..,by decide,fun a u hu=>Qi.1 (za3 ..) u hu⟩
abbrev ExH (X:Wd) (b:Nat) (x:ExD) (q:OA) (c:Nat):Prop:=X.heap[b]?=some (.cells (exC x q c).toArray 46 (0,0))
def StX (B:Nat) (pre:List ExD) (vs:List Value) (W:Wd):Prop:=∃ x q c,pre.getLast?=some x/\vs=[.agg (exC x q c).toArray]/\OwnS evE 49 B W q c x.ev
def GvX (vs:List Value) (k:Nat):Prop:=∃ (x:ExD) (a:Addr) (c:Nat),vs=[.agg (exC x (some a) c).toArray]/\k=a.block
theorem zlU {xs:List zaU} {rs:List (Nat×List Nat)} (h:xs.map (·.1)=rs.map (·.2)):xs.map (·.1.length)=rs.map fun r=>r.2.length:=by
 have:=Gi (List.map List.length) h;rw [UG,UG] at this;exact this
theorem zkD {zs:List zdO} {ws:List (List Nat)} (h:zs.map (fun z=>z.1.map (·.1))=ws.map zM):zs.map (·.1.length)=ws.map fun w=>(zM w).length:=by
 have:=Gi (List.map List.length) h;rw [UG,UG] at this;rw [<- show zs.map (List.length ∘ fun z:zdO=>z.1.map (·.1))=zs.map (·.1.length) from Kk fun z _=>QL _];exact this
section
variable {Rd:Nat->Prop} {W0:Wd} {bx b o:Nat} {m:MixD} {q:OA} {c:Nat} {p1 p2 p3:OA} {c1 c2 c3:Nat} {xs ys:List zaU}
theorem zsr (hM:MixM Rd W0 b o m q c p1 p2 p3 c1 c2 c3 xs ys) (fx:W0.heap[bx]?=some (.cells #[.pointer (some ⟨b,o,none⟩)] 141 (0,0))) (hbx:Rd bx) (hRd:∀ k,Rd k->k<W0.heap.size) (hT:Tz64M W0) (hRt:Rd 1) (hB:MixB m) (hev:m.base.ev.length<=48) :
  zqX PG 77 [At0 bx] (zdJ m) W0 Rd (StX W0.heap.size) GvX:=by
 intro yl F0 J W hsz hrd hrf hJ hy h0;refine qA 141 [.func (.yield yl) #[] #[],At0 bx] (.c .p (.s .p (.c .p (.c .p (.c .p (.s .p .p)))))) Tryz.func77 ?_;have hMW:=hM.same hrd;have fxW:=(hrd bx hbx).trans fx;have hTW:Tz64M W:=zar hT (hrd _ hRt);have hRW:∀ k,Rd k->k<W.heap.size:=fun k hk=>by have:=hRd k hk;omega
 obtain⟨L,hL⟩:=nm (W.heap.size);have hxl:xs.length=m.rs.length:=by have:=Gi List.length hM.e2;simpa using this
 have hyl:ys.length=m.wr.length:=by have:=Gi List.length hM.e3;simpa using this
 have hrl48:=hB.rl;have hwl6:=hB.wl;have hx1:∀ y∈xs,y.1.length<=1000:=fun y hy=>by
  have:y.1∈m.rs.map (·.2):=by rw [<- hM.e2];exact UI.2 ⟨y,hy,rfl⟩
  obtain⟨r,hr,he⟩:=UI.1 this;rw [<- he];exact (hB.rs r hr).2.1
 refine⟨Unit,fun _=>⟨[(1,At0 bx),(2,At0 L)],[]⟩,fun _ X=>X.heap[L]?=some (.cells #[.func (.yield yl) #[] #[]] 79 (0,0))/\X.heap.size=L+1/\Bw W X,?_,?_⟩
 ·exact⟨(),⟨.cons rfl (.cons (by rw [hL];rfl) .nil),rfl⟩,by rw [hL];exact zw W _,by rw [hL];exact wz _ _,(zba W _)⟩
 rintro _ X ⟨fL,sX,hbX⟩;refine⟨OA×Nat,fun s=>⟨[(1,At0 bx),(2,At0 L),(3,.slice s.1 (xs.map (·.1.length)).length s.2)],[]⟩,fun s Z=>OwnS zA 3 W.heap.size Z s.1 s.2 (xs.map (·.1.length))/\Z.heap[L]?=some (.cells #[.func (.yield yl) #[] #[]] 79 (0,0))/\Bw W Z,?_,?_⟩
 ·refine⟨_,zc (za (zb hbX fxW)) (i:=0) rfl,_,ze8 (hMW.same fun k hk=>hbX.block k (hRW k hk)).cells (i:=1) rfl,?_⟩;refine⟨Nat×OA×Nat,fun s=>⟨[(1,At0 bx),(2,At0 L),(3,.slice s.2.1 ((xs.take s.1).map (·.1.length)).length s.2.2),(20,.slice p2 xs.length c2),(21,i64 xs.length),(22,i64 (s.1:Nat))],[]⟩,
   fun s Z=>s.1<=xs.length/\OwnS zA 3 W.heap.size Z s.2.1 s.2.2 ((xs.take s.1).map (·.1.length))/\Z.heap[L]?=some (.cells #[.func (.yield yl) #[] #[]] 79 (0,0))/\Bw W Z,fun s=>xs.length-s.1,(0,none,0),
   (cvE rfl rfl),⟨UY _,OwnS.nil,fL,hbX⟩,?_⟩
  rintro⟨k,ps,cs⟩ Z ⟨hk,ho,fL,hbZ⟩;dsimp only at hk ho ⊢;refine biE (fun hc=>?_) fun hc=>?_
  ·have hc:(k:Int)<(xs.length:Int):=dT hc;have hkl:k<xs.length:=by omega
   have hZM:=hMW.same fun k hk=>hbZ.block k (hRW k hk);obtain⟨x,hx⟩:∃ x,xs[k]=x:=⟨_,rfl⟩;obtain⟨bp,op,hpe,hlp,hat⟩:=hZM.r2.at hkl;subst hpe;refine⟨k,rfl,hkl,slV x,by rw [<- hx];exact zc (hat k hkl) (i:=0) rfl,⟨by decide,by decide,rfl⟩,zA.enc x.1.length,rfl,?_⟩;have hb1:Bw Z (Z.alloc (.cells (zA.enc x.1.length).toArray 3)):=zba _ _;have hZs:=hbZ.size;have htl:((xs.take k).map (·.1.length)).length=k:=by rw [QL,Qt];omega
   have htk:(xs.take (k+1)).map (·.1.length)=(xs.take k).map (·.1.length)++[x.1.length]:=by
    rw [tsg hkl,QO,hx];rfl
   unfold zed zaB;show SatR _ _;refine zmx (ho.below hb1) (qN zA x.1.length) (by have:=hb1.size;omega) (by have:=hB.rl;omega) fun p' c' U oU gU hat1=>?_;rw [zat] at gU;rw [<- htk] at oU ⊢;have fU:=qy (zb hb1 fL) (ho.below hb1) (by decide) gU;exact nxI (by omega) ⟨(k+1,p',c'),(cvE rfl rfl),⟨hkl,oU,fU,hbZ.trans ((hb1.mono hZs).trans (qS (ho.below hb1) (by have:=hb1.size;omega) (UV _) gU))⟩,zdc (by omega)⟩
  ·have hc:¬ (k:Int)<(xs.length:Int):=dF hc;obtain rfl:k=xs.length:=by omega
   rw [Qv] at ho ⊢;exact⟨(ps,cs),(cvE rfl rfl),ho,fL,hbZ⟩
 clear fL sX hbX;rintro⟨ps,cs⟩ X ⟨ho,fL,hbX⟩;dsimp only at ho ⊢;refine⟨Nat,fun R=>⟨[(1,At0 bx),(2,At0 L),(3,.slice ps (xs.map (·.1.length)).length cs),(6,At0 R)],[]⟩,fun R Z=>CanS W.heap.size Z yl L R (xs.map (·.1.length)) ps cs [] none 0/\L<R/\Bw W Z,?_,?_⟩
 ·refine⟨X.heap.size,(cvE rfl rfl),⟨qM _ fL,zw X _,ho.alloc _,OwnS.nil,fun z hz=>(by cases hz),fun z hz=>(by cases hz),fun z hz=>(by cases hz)⟩,hlt fL,hbX.alloc hbX.size _⟩
 clear ho fL hbX;rintro R X ⟨hS,hLR,hbX⟩;refine⟨(List zdO×OA×Nat)×OA×Nat,fun s=>⟨[(1,At0 bx),(2,At0 L),(3,.slice s.2.1 (zJ m).length s.2.2),(6,At0 R)],[]⟩,fun s Z=>CanS W.heap.size Z yl L R (zJ m) s.2.1 s.2.2 s.1.1 s.1.2.1 s.1.2.2/\s.1.1.map (fun z=>z.1.map (·.1))=m.wr.map zM/\Bw W Z,?_,?_⟩
 ·refine⟨_,zc (za (zb hbX fxW)) (i:=0) rfl,_,ze8 (hMW.same fun k hk=>hbX.block k (hRW k hk)).cells (i:=2) rfl,?_⟩;refine⟨Nat×(List zdO×OA×Nat)×OA×Nat,fun s=>⟨[(1,At0 bx),(2,At0 L),(3,.slice s.2.2.1 (xs.map (·.1.length)++s.2.1.1.map (·.1.length)).length s.2.2.2),(6,At0 R),(35,.slice p3 ys.length c3),(36,i64 ys.length),(37,i64 (s.1:Nat))],[]⟩,
   fun s Z=>s.1<=ys.length/\CanS W.heap.size Z yl L R (xs.map (·.1.length)++s.2.1.1.map (·.1.length)) s.2.2.1 s.2.2.2 s.2.1.1 s.2.1.2.1 s.2.1.2.2/\s.2.1.1.map (fun z=>z.1.map (·.1))=(ys.take s.1).map (fun y=>zM y.1)/\Bw W Z,fun s=>ys.length-s.1,(0,([],none,0),ps,cs),
   ⟨.cons rfl (.cons rfl (.cons (by simp;rfl) (.cons rfl (.cons rfl (.cons rfl (.cons rfl .nil)))))),rfl⟩,⟨UY _,by simpa using hS,rfl,hbX⟩,?_⟩
  clear hS hbX;rintro⟨k,⟨zs,pr,cr⟩,ps,cs⟩ Z ⟨hk,hS,hz,hbZ⟩;dsimp only at hk hS hz ⊢;have hzl:zs.length=k:=by
   have:=Gi List.length hz;rw [QL,QL,Qt] at this;omega
  refine biE (fun hc=>?_) fun hc=>?_
  ·have hc:(k:Int)<(ys.length:Int):=dT hc;have hkl:k<ys.length:=by omega
   have hZM:=hMW.same fun k hk=>hbZ.block k (hRW k hk);obtain⟨y,hyk⟩:∃ y,ys[k]=y:=⟨_,rfl⟩;have hym:y∈ys:=by rw [<- hyk];exact gM hkl
   have hyw:y.1∈m.wr:=by rw [<- hM.e3];exact UI.2 ⟨y,hym,rfl⟩
   obtain⟨bw1,bw2,bw3⟩:=hB.wr _ hyw;obtain⟨bp,op,hpe,hlp,hat⟩:=hZM.r3.at hkl;subst hpe;refine⟨k,rfl,hkl,slV y,by rw [<- hyk];exact zc (hat k hkl) (i:=0) rfl,cmo (zpz (hZM.n3 y hym) bw1 (zar hTW (hbZ.block _ (hRW _ hRt)))) ?_⟩;rintro e Y ⟨⟨rk,pk,ck,rfl,hrk,ork,onk⟩,hbY⟩;have hZs:=hbZ.size;have hSY:=hS.below hbY;have hrkl:rk.length<=10000:=by rw [<- hrk,QL] at bw2;exact bw2
   obtain⟨nz,hnz⟩:∃ nz:zdO,nz=(rk,pk,ck):=⟨_,rfl⟩;have hen:[Value.slice pk rk.length ck]=zic.enc nz:=by rw [hnz];rfl
   refine⟨_,zc (za hSY.fR) (i:=0) rfl,⟨by decide,by decide,rfl⟩,zic.enc nz,by rw [<- hen];rfl,?_⟩;have hb1:Bw Y (Y.alloc (.cells (zic.enc nz).toArray 93)):=zba _ _;have hS1:=hSY.below hb1;have ork1:=ork.below hb1;have onk1:=fun x hx=>(onk x hx).below hb1;unfold zed zaB;show SatR _ _;refine zvc hS1.rk (qN zic nz) (by have:=hb1.size;have:=hbY.size;omega) (by have:=hB.wl;omega) fun p' c' U oU gU hat1=>?_;have fLU:=qy hS1.fL hS1.rk (by decide) gU;have fRU:=qy hS1.fR hS1.rk (by decide) gU;refine zm zu6 fRU (o:=0) (v := .slice p' (zs++[nz]).length c') rfl rfl (by show 0<1;decide) rfl fun S fS gS sS=>?_;have hbZY:=hbZ.trans (hbY.mono hZs);have sY:=hbY.size;have sb1:=hb1.size;have hbU:Bw W U:=(hbZY.trans (hb1.mono (by omega))).trans (qS hS1.rk (by omega) (UV _) gU);have hRn:W.heap.size<=R:=by omega
   have hbS:Bw W S:=hbU.trans (zk gS hbU.size hRn);have hSS:CanS W.heap.size S yl L R (xs.map (·.1.length)++zs.map (·.1.length)) ps cs (zs++[nz]) p' c':=by
    have kU:∀ {α:Type} {E:Enc α} {T cc:Nat} {r:OA} {ll:List α},T≠93->T≠142->OwnS E T W.heap.size (Y.alloc (.cells (zic.enc nz).toArray 93)) r cc ll->OwnS E T W.heap.size S r cc ll:=fun {α E T cc r ll} h1 h2 h=>qz (zas h hS1.rk h1 gU) fRU h2 gS;refine⟨(gS.block L (hlt fLU) (by simp;omega)).trans fLU,fS,kU (by decide) (by decide) hS1.own,qz oU fRU (by decide) gS,fun z hz=>?_,fun z hz=>?_,fun z hz=>?_⟩
    ·rcases QQ.1 hz with hz | hz
     ·exact kU (by decide) (by decide) (hS1.n1 z hz)
     ·rw [KA.1 hz,hnz];exact kU (by decide) (by decide) (ork1.lower hZs)
    ·rcases QQ.1 hz with hz | hz
     ·exact fun x hx=>kU (by decide) (by decide) (hS1.n2 z hz x hx)
     ·rw [KA.1 hz,hnz];exact fun x hx=>kU (by decide) (by decide) ((onk1 x hx).lower hZs)
    ·rcases QQ.1 hz with hz | hz
     ·exact hS1.dis z hz
     ·rw [KA.1 hz,hnz];intro x hx a b ha hb;have:=(zx (onk x hx) hb).1;have:=(zx hS.own ha).2.1;omega
   clear hS1 ork1 onk1 hSY hS oU gU hat1 fLU fRU fS gS;refine⟨⟨by decide,by decide,rfl⟩,zA.enc rk.length,rfl,?_⟩;have hb2:Bw S (S.alloc (.cells (zA.enc rk.length).toArray 3)):=zba _ _;have hS2:=hSS.below hb2;have sbS:=hbS.size;have sb2:=hb2.size;unfold zed zaB;show SatR _ _;refine zmx hS2.own (qN zA rk.length) (by omega) (by rw [lap,QL,QL];have:=hB.rl;have:=hB.wl;omega) fun p2' c2' V oV gV hat2=>?_;rw [zat] at gV;have hSV:=hS2.size oV gV hat2;have hzz:(xs.map (·.1.length)++zs.map (·.1.length))++[rk.length]=xs.map (·.1.length)++(zs++[nz]).map (·.1.length):=by
    rw [QO,KN,hnz];rfl
   rw [hzz] at hSV ⊢;refine nxI (by omega) ⟨(k+1,(zs++[nz],p',c'),p2',c2'),(cvE rfl rfl),⟨hkl,hSV,?_,hbS.trans ((hb2.mono sbS).trans (qS hS2.own (by omega) (UV _) gV))⟩,zdc (by omega)⟩;rw [tsg hkl,hyk,QO,QO,hz,hnz];show _++[rk.map (·.1)]=_++[zM y.1];rw [hrk]
  ·have hc:¬ (k:Int)<(ys.length:Int):=dF hc;obtain rfl:k=ys.length:=by omega
   have hz2:zs.map (fun z=>z.1.map (·.1))=m.wr.map zM:=by
    rw [Qv] at hz;rw [hz,<- hM.e3,UG];rfl
   have hsz2:xs.map (·.1.length)++zs.map (·.1.length)=zJ m:=by
    rw [zlU hM.e2,zkD hz2];rfl
   rw [hsz2] at hS ⊢;exact⟨((zs,pr,cr),ps,cs),(cvE rfl rfl),hS,hz2,hbZ⟩
 clear hS hbX;rintro⟨⟨zs,pr,cr⟩,ps,cs⟩ V ⟨hS,hz,hbV⟩;dsimp only at hS hz ⊢;have hVs:=hbV.size;have hMV:=hMW.same fun k hk=>hbV.block k (hRW k hk);have fxV:=zb hbV fxW;have hsl1:(zJ m).length<=1000:=by
  unfold zJ;rw [lap,QL,QL];omega
 have hsl2:∀ n∈zJ m,n<=1000000:=fun n hn=>by
  unfold zJ at hn;rcases QQ.1 hn with hn | hn
  ·obtain⟨r,hr,rfl⟩:=UI.1 hn;have:=(hB.rs r hr).2.1;omega
  ·obtain⟨w,hw,rfl⟩:=UI.1 hn;have:=(hB.wr w hw).2.1;omega
 refine cmo zpC ?_;rintro e V1 ⟨rfl,fo,sV1,hbV1⟩;have hI:=zsK fo (hS.own.row.below hbV1) (fun a ha=>by have:=(zx hS.own ha).2.1;omega) hsl1 hsl2;obtain⟨Kp,hKp⟩:∃ Kp:(Nat->Prop)->Wd->Prop,Kp=fun F Y=>V1.heap.size<=Y.heap.size/\∀ k,k<V.heap.size->(Rd k\/W.heap.size<=k)->Y.heap[k]?=V.heap[k]?/\¬ F k:=⟨_,rfl⟩;have hF0:∀ k,F0 k->k<W.heap.size:=fun k hk=>(hJ.lt _ _ _ _ h0 hk).1;have hLV:=hlt hS.fL;have hRV:=hlt hS.fR;have hb1:Bw W V1:=hbV.trans (hbV1.mono hVs);refine zdq (zbC _) rfl (lb := #[At0 V.heap.size]) rfl rfl hI (UV _) (fun k hk=>⟨?_,rfl⟩) (fun pre vs W ⟨l,q,_,h,_⟩=>by rw [h];rfl) (by decide)
  F0 (fun pre F Y=>J (pre.map (zz m)) F Y/\Kp F Y) (fun _ _ _ _=>False) (fun k hk=>?_) ⟨?_,?_⟩ (fun ex=>⟨fun _ _ _ _ h=>h.elim,fun _ _ _ _ h=>h.elim⟩) ⟨hJ.step _ _ _ _ h0 (.below hb1),?_⟩ ?_ ?_ ?_
 ·rcases hk with (rfl | ⟨a,ha,rfl⟩) | h
  ·omega
  ·have:=(zx hS.own ha).2.1;omega
  ·exact h.elim
 ·rcases hk with rfl | ⟨a,ha,rfl⟩
  ·intro h;have:=hF0 _ h;omega
  ·intro h;have:=hF0 _ h;have:=(zx hS.own ha).1;omega
 ·rintro pre F A C ⟨hj,hk⟩ hs;rw [hKp] at hk ⊢;have hss:=hs.size;exact⟨hJ.step _ _ _ _ hj (hs.mono (by omega)),UL hk.1 hss,fun k h1 h2=>⟨(hs.same k (by have:=hk.1;omega) (.inl ⟨by omega,fun h=>h⟩)).trans (hk.2 k h1 h2).1,(hk.2 k h1 h2).2⟩⟩
 ·rintro pre F A k ⟨hj,_⟩ hk;exact hJ.lt _ _ _ _ hj hk
 ·rw [hKp];refine⟨UV _,fun k h1 h2=>⟨hbV1.block k h1,fun h=>?_⟩⟩;rcases h2 with h2 | h2
  ·exact hrf k h2 h
  ·have:=hF0 k h;omega
 ·rintro yl2 pre ds vs F Y hyl hpre hJ0 ⟨l,qd,hlast,rfl,hsl,hcel⟩ hfy ⟨lo,hlo⟩;have hdx:ds=l:=by simpa using hlast
  subst hdx;refine⟨rfl,F,KeepsG.refl _ _,hJ0,?_⟩;rintro O Y2 hY2 ⟨hj,hkp⟩;rw [hKp] at hkp;obtain⟨hY2s,hkp⟩:=hkp;have hkq:=hkp;have hslY:SlR zA Y2 qd ds:=by
   rw [hY2];refine ji hsl fun a ha=>zj fun e=>?_;obtain⟨cur,hcur⟩:=hcel a ha;rw [e,hlo] at hcur
   cases hcur
  obtain⟨hdl,hdlt⟩:=zai (hpre.subset (JN _ (KA.2 rfl)));have hdl2:ds.length=m.rs.length+m.wr.length:=by
   rw [hdl];unfold zJ;rw [lap,QL,QL]
  have hMY:MixM Rd Y2 b o m q c p1 p2 p3 c1 c2 c3 xs ys:=hMV.same fun k hk=>(hkp k (by have:=hRW k hk;omega) (.inl hk)).1;have fxY:=(hkp bx (by have:=hRW bx hbx;omega) (.inl hbx)).1.trans fxV;have fLY:=(hkp L hLV (.inr (by omega))).1.trans hS.fL;have fRY:=(hkp R hRV (.inr (by omega))).1.trans hS.fR;have kR:∀ {α:Type} {E:Enc α} {T cc:Nat} {r:OA} {ll:List α},OwnS E T W.heap.size V r cc ll->OwnS E T W.heap.size Y2 r cc ll:=fun {α E T cc r ll} h=>h.same fun a ha=>(hkp _ (zx h ha).2.1 (.inr (zx h ha).1)).1;have rkY:=kR hS.rk;have n1Y:=fun z hz=>kR (hS.n1 z hz);have n2Y:=fun z hz y hy=>kR (hS.n2 z hz y hy);clear hkp hlo hcel hsl;have hbY:b<Y2.heap.size:=by have:=hRW b hM.db;omega
  refine⟨_,zc (za fxY) (i:=0) rfl,?_⟩;have hbase:zK Y2 ⟨b,o,none⟩ (exC m.base q c):=by
   have:=zR (n:=0) (m:=333) hMY.cells;rw [Uk,Jg (by rw [zC];decide),JF (by rw [zC];decide)] at this;exact this
  refine⟨exC m.base q c,zC _ _ _,hbase,hbY,?_⟩;obtain⟨M,hMM⟩:=nm (Y2.heap.size);refine zq (X:=Y2) (v := .agg (exC m.base q c).toArray) k46 (zC _ _ _) jD (za3 _ _ _) fun Z hbZ fZ sZ=>?_;have fZ:ExH Z Y2.heap.size m.base q c:=fZ;rw [<- hMM] at fZ ⊢;refine⟨_,zc (za fZ) (i:=0) rfl,cmo (zjc (hMY.ev.below hbZ) (by omega) hMY.qn) ?_⟩;rintro e Z2 ⟨⟨q1,k1,rfl,oE⟩,hbZ2⟩;refine zm k34 (zb hbZ2 fZ) (o:=0+0) (v := .slice q1 m.base.ev.length k1) rfl rfl (by rw [zC];decide) rfl fun S fS gS sS=>?_;rw [show 0+0=0 from rfl,ztI] at fS;have hMZ2:M<Z2.heap.size:=by have:=hbZ2.size;omega
  have hbS:Bw Y2 S:=((zst hbZ hbZ2)).trans (zk gS (by omega) (by omega));have oES:OwnS evE 49 Y2.heap.size S q1 k1 m.base.ev:=qz (oE.lower hbZ.size) (zb hbZ2 fZ) (by decide) gS;clear oE gS sS fZ hbZ hbZ2;have tMY:∀ {S:Wd},Bw Y2 S->MixM Rd S b o m q c p1 p2 p3 c1 c2 c3 xs ys:=fun {S} hb=>hMY.same fun k hk=>hb.block k (by have:=hRW k hk;omega);have hxlen:=hxl;refine⟨_,zc (za (zb hbS fxY)) (i:=0) rfl,_,ze8 (tMY hbS).cells (i:=0) rfl,?_⟩;refine⟨Nat,fun k=>⟨[(1,At0 bx),(2,At0 L),(6,At0 R),(10,.slice qd ds.length ds.length),(11,At0 M),(67,.slice p1 m.rs.length c1),(68,i64 m.rs.length),(69,i64 (k:Nat))],[]⟩,
   fun k Z=>k<=m.rs.length/\ExH Z M { m.base with rf:=⟨m.base.rf.n,rfF (m.rs.take k) ds m.base.rf.to⟩ } q1 k1/\OwnS evE 49 Y2.heap.size Z q1 k1 m.base.ev/\Bw Y2 Z,fun k=>m.rs.length-k,0,
   (cvE rfl rfl),⟨UY _,fS,oES,hbS⟩,?_⟩
  clear fS oES hbS;rintro k Z ⟨hk,fZ,oE,hbZ⟩;refine biE (fun hc=>?_) fun hc=>?_
  ·have hc:(k:Int)<(m.rs.length:Int):=dT hc;have hkl:k<m.rs.length:=by omega
   have hZM:=tMY hbZ;have hZs:=hbZ.size;obtain⟨⟨r,s⟩,hrs⟩:∃ x,m.rs[k]=x:=⟨_,rfl⟩;obtain⟨hr48,hs1,hs48⟩:=hB.rs (r,s) (by rw [<- hrs];exact gM hkl);dsimp only at hr48 hs1 hs48;have hkx:k<xs.length:=by omega
   obtain⟨y,hyk⟩:∃ y,xs[k]=y:=⟨_,rfl⟩;have hym:y∈xs:=by rw [<- hyk];exact gM hkx
   have hys:y.1=s:=by
    have h1:(xs.map (·.1))[k]?=some y.1:=(by rw [KT,gE hkx,hyk];rfl);rw [hM.e2,KT,gE hkl,hrs] at h1;exact (Ud h1).symm
   obtain⟨d,hd⟩:∃ d,ds[k]?=some d:=⟨_,gE (by omega)⟩;have hkd:k<ds.length:=by omega
   have hde:ds[k]=d:=by rw [gE hkd] at hd;exact Ud hd
   have hdlt2:d<y.1.length:=by
    refine hdlt k _ d ?_ hd;unfold zJ;rw [Jr (by rw [QL];exact hkl),KT,gE hkl,hrs,hys];rfl
   have hdlt3:d<s.length:=by rw [<- hys];exact hdlt2
   obtain⟨t,ht⟩:∃ t,y.1[d]=t:=⟨_,rfl⟩;have hts:s[d]=t:=by
    have h1:y.1[d]?=some t:=(by rw [gE hdlt2,ht]);rw [hys,gE hdlt3] at h1;exact Ud h1
   have ht48:t<48:=hs48 t (by rw [<- hts];exact gM hdlt3);have hgt:s.getD (ds.getD k 0) 0=t:=by
    rw [gDe,gDe,hd];show (s[d]?).getD 0=t;rw [gE hdlt3,hts];rfl
   have htk:rfF (m.rs.take (k+1)) ds m.base.rf.to=upd (rfF (m.rs.take k) ds m.base.rf.to) t (rfF (m.rs.take k) ds m.base.rf.to t|||2^r):=by
    rw [tsg hkl,hrs,zku,Qt,QY hk,hgt]
   obtain⟨G,hG⟩:=nm (rfF (m.rs.take k) ds m.base.rf.to);have hGw:zG G:=by
    rw [hG];exact zmQ (ds:=[]) hB.rf fun r hr=>(hB.rs r (JZ hr)).1
   rw [<- hG] at fZ htk;obtain⟨A,T,hA,hE⟩:=zp9 { m.base with rf:=⟨m.base.rf.n,G⟩ } q1 k1;have hRel:RelAt Z M 50 46 A T ⟨m.base.rf.n,G⟩:=⟨hA,by rw [<- hE];exact fZ⟩;have hr1:k<(m.rs.map (·.1)).length:=by rw [QL];exact hkl
   obtain⟨b1,o1,hp1,hl1,hat1⟩:=hZM.r1.at hr1;obtain⟨b2,o2,hp2,hl2,hat2⟩:=hZM.r2.at hkx;obtain⟨b3,o3,hp3,hl3,hat3⟩:=(hZM.n2 y hym).at hdlt2;have hslZ:=hslY.below hbZ;obtain⟨b4,o4,hp4,hl4,hat4⟩:=hslZ.at hkd;have e1:some (Value.slice p1 m.rs.length c1)=some (Value.slice (some ⟨b1,o1,none⟩) m.rs.length c1):=by rw [hp1]
   subst hp1;subst hp2;subst hp4;refine⟨k,rfl,hkl,i64 r,by have:=zc (hat1 k hr1) (i:=0) (v:=i64 r) (by rw [Qp,hrs];rfl);exact this,?_⟩;have dZ:Bw Z Z.drew:=(Ga _ _).drew;refine DrawE.ord [23] [0,1,2,3,4,5,6,7,8,9,10,11,12,13,14,15,16,17,18,19,20,21,22,23] (by kernel_rfl) ⟨_,zc (za (hdr (zb hbZ fxY))) (i:=0) rfl,_,ze8 (hZM.same (X:=Z.drew) fun _ _=>rfl).cells (i:=1) rfl,k,rfl,hkx,slV y,by have:=zc (zr dZ (hat2 k hkx)) (i:=0) (v:=slV y) (by rw [hyk];rfl);exact this,k,rfl,hkd,i64 d,by have:=zc (zr dZ (hat4 k hkd)) (i:=0) (v:=i64 d) (by rw [hde];rfl);exact this,?_⟩;unfold slV;rw [hp3];refine⟨d,rfl,hdlt2,i64 t,by have:=zc (zr dZ (hat3 d hdlt2)) (i:=0) (v:=i64 t) (by rw [ht];rfl);exact this,t,rfl,ht48,s64 (G t),(hRel.same (Y:=Z.drew) rfl).cell ht48,by omega,_,j5 (e:=r) (by omega),_,zak (hGw t ht48) (z7 (by omega)),t,rfl,ht48,zm k36 (hRel.same (Y:=Z.drew) rfl).cells (o:=50+1+t*1) (v:=s64 (G t|||2^r)) rfl rfl (by rw [hRel.len];omega) rfl fun S fS gS sS=>?_⟩;rw [hRel.set ht48] at fS;have gS2:Z.grownBy S (some M):=zd (zi dZ) gS;refine nxI (by omega) ⟨k+1,(cvE rfl rfl),⟨hkl,?_,qz oE fZ (by decide) gS2,hbZ.trans (zk gS2 hZs (by omega))⟩,zdc (by omega)⟩;rw [htk];have e5:=hE ⟨m.base.rf.n,upd G t (G t|||2^r)⟩;show S.heap[M]?=some (.cells (exC { m.base with rf:=⟨m.base.rf.n,upd G t (G t|||2^r)⟩ } q1 k1).toArray _ _);exact fS.trans (by rw [<- e5])
  have hc:¬ (k:Int)<(m.rs.length:Int):=dF hc;obtain rfl:k=m.rs.length:=by omega
  rw [Qv] at fZ;obtain⟨RF,hRF⟩:∃ RF:ExD,RF={ m.base with rf:=⟨m.base.rf.n,rfF m.rs ds m.base.rf.to⟩ }:=⟨_,rfl⟩;rw [<- hRF] at fZ;have hRFe:RF.ev=m.base.ev:=by rw [hRF]
  have hRFc:RF.co=m.base.co:=by rw [hRF]
  have hRFm:RF.mem=m.base.mem:=by rw [hRF]
  obtain⟨dl,hdle⟩:=nm (ds.drop m.rs.length);have hdll:dl.length=m.wr.length:=by rw [hdle,Qs];omega
  have hslD:SlR zA Y2 (jq qd ds.length m.rs.length 1) dl:=by
   have:=hslY.sub (cap:=ds.length) (lo:=m.rs.length) (hi:=ds.length) (by omega) (UV _) (UV _);rw [JF (by rw [Qs];exact UV _),<- hdle] at this;exact this
  refine⟨_,zc (za (zb hbZ fxY)) (i:=0) rfl,_,ze8 (tMY hbZ).cells (i:=0) rfl,m.rs.length,rfl,by omega,?_⟩;obtain⟨qD,hqD⟩:=nm (jq qd ds.length m.rs.length 1);rw [<- hqD] at hslD ⊢;have hdn:ds.length-m.rs.length=dl.length:=by omega
  rw [hdn];obtain⟨Rs,hRs⟩:=nm (m.wr.map zM);have hRsl:Rs.length=m.wr.length:=by rw [hRs,QL]
  have hzl:zs.length=m.wr.length:=by have:=Gi List.length hz;simpa using this
  have hRsb:∀ R∈Rs,∀ k∈R,k≠[]/\k.length<=48/\∀ a∈k,a<m.base.ev.length:=fun R hR k hk=>by
   rw [hRs] at hR;obtain⟨w,hw,rfl⟩:=UI.1 hR;exact (hB.wr w hw).2.2 k hk
  refine⟨Nat,fun l=>⟨[(1,At0 bx),(2,At0 L),(6,At0 R),(11,At0 M),(104,.slice qD dl.length dl.length),(105,i64 dl.length),(106,i64 (l:Nat))],[]⟩,
   fun l Z=>l<=dl.length/\ExH Z M { RF with co:=(coG m.base.ev 0 (Rs.take l) dl (RF.co,RF.mem)).1,mem:=(coG m.base.ev 0 (Rs.take l) dl (RF.co,RF.mem)).2 } q1 k1/\OwnS evE 49 Y2.heap.size Z q1 k1 m.base.ev/\Bw Y2 Z,fun l=>dl.length-l,0,
   (cvE rfl rfl),⟨UY _,fZ,oE,hbZ⟩,?_⟩
  clear fZ oE hbZ;rintro l Z ⟨hl,fZ,oE,hbZ⟩;obtain⟨P,hP⟩:=nm (coG m.base.ev 0 (Rs.take l) dl (RF.co,RF.mem));rw [<- hP] at fZ;have hZs:=hbZ.size;have hPw:zG P.1.to:=by
   rw [hP];refine zny (by rw [hRFc];exact hB.co) fun R hR k hk a ha=>?_;have:=(hRsb R (JZ hR) k hk).2.2 a ha;omega
  refine biE (fun hc=>?_) fun hc=>?_
  ·have hc:(l:Int)<(dl.length:Int):=dT hc;have hll:l<dl.length:=by omega
   have hlz:l<zs.length:=by omega
   have hlR:l<Rs.length:=by omega
   obtain⟨z,hzk⟩:∃ z,zs[l]=z:=⟨_,rfl⟩;have hzm:z∈zs:=by rw [<- hzk];exact gM hlz
   have hzR:Rs[l]?=some (z.1.map (·.1)):=by
    rw [hRs,<- hz,KT,gE hlz,hzk];rfl
   have hzRm:z.1.map (·.1)∈Rs:=JY hzR;obtain⟨d,hd⟩:∃ d,dl[l]=d:=⟨_,rfl⟩;have hdd:dl[l]?=some d:=by rw [gE hll,hd]
   have hdz:d<z.1.length:=by
    refine hdlt (m.rs.length+l) _ d ?_ (by rw [hdle,Kw] at hdd;exact hdd);unfold zJ;rw [Jn (by rw [QL];omega),QL,Jz];have:=hzR;rw [hRs,KT] at this;rw [KT]
    cases hw:m.wr[l]? with
    | none=>rw [hw] at this;cases this
    | some w =>
     rw [hw] at this;have h2:zM w=z.1.map (·.1):=Ud this;show some (zM w).length=_;rw [h2,QL]
   obtain⟨y,hyk⟩:∃ y,z.1[d]=y:=⟨_,rfl⟩;have hym:y∈z.1:=by rw [<- hyk];exact gM hdz
   obtain⟨hy0,hy48,hyev⟩:=hRsb _ hzRm y.1 (UI.2 ⟨y,hym,rfl⟩);have hgy:(z.1.map (·.1)).getD d []=y.1:=by
    rw [gDe,KT,gE hdz,hyk];rfl
   obtain⟨hlR2,hzR2⟩:=Js.1 hzR;have htk:coG m.base.ev 0 (Rs.take (l+1)) dl (RF.co,RF.mem)=(j9 y.1 P.1,upd P.2 l (zcb m.base.ev y.1)):=by
    rw [tsg hlR,hzR2,zlo,<- hP,Qt,QY (by omega),UQ];rw [show dl.getD l 0=d by rw [gDe,hdd];rfl,hgy]
   obtain⟨bD,oD,hpD,hlD,hatD⟩:=(hslD.below hbZ).at hll;obtain⟨bR,oR,hpR,hlR0,hatR⟩:=(rkY.below hbZ).row.at hlz;obtain⟨bz,oz,hpz,hlz0,hatz⟩:=((n1Y z hzm).below hbZ).row.at hdz;have hyrow:=((n2Y z hzm y hym).below hbZ).row;have hylt:=fun a ha=>(zx (n2Y z hzm y hym) (a:=a) ha).2.1;subst hpD;subst hpR;refine⟨l,rfl,hll,i64 d,by have:=zc (hatD l hll) (i:=0) (v:=i64 d) (by rw [hd];rfl);exact this,_,zc (za (zb hbZ fRY)) (i:=0) rfl,l,rfl,hlz,.slice z.2.1 z.1.length z.2.2,by have:=zc (hatR l hlz) (i:=0) (v := .slice z.2.1 z.1.length z.2.2) (by rw [hzk];rfl);exact this,?_⟩;rw [hpz];refine⟨d,rfl,hdz,slV y,by have:=zc (hatz d hdz) (i:=0) (v:=slV y) (by rw [hyk];rfl);exact this,?_⟩;obtain⟨A,T,hA,hE⟩:=zmi { RF with co:=P.1,mem:=P.2 } q1 k1;have hRel:RelAt Z M 99 46 A T P.1:=⟨hA,by rw [<- hE];exact fZ⟩;refine cmo (zpO hRel hPw hyrow (fun a ha=>by have:=hylt a ha;omega) (by omega) (fun a ha=>by have:=hyev a ha;omega)) ?_;rintro e V2 ⟨rfl,hRel2,gV2⟩;have fV2:ExH V2 M { RF with co:=j9 y.1 P.1,mem:=P.2 } q1 k1:=by
    have e5:=hE (j9 y.1 P.1);show V2.heap[M]?=some (.cells (exC { RF with co:=j9 y.1 P.1,mem:=P.2 } q1 k1).toArray _ _);exact hRel2.cells.trans (by rw [<- e5])
   have hbV2:Bw Y2 V2:=hbZ.trans (zk gV2 hZs (by omega));have oE2:=qz oE fZ (by decide) gV2;have hyr2:=((n2Y z hzm y hym).below hbV2).row;obtain⟨j,hj2⟩:∃ j,j+1=y.1.length:=⟨y.1.length-1,by have:=List.length_pos_iff.2 hy0;omega⟩;have hjl:j<y.1.length:=by omega
   obtain⟨b6,o6,hp6,hl6,hat6⟩:=hyr2.at hjl;obtain⟨t,ht⟩:∃ t,y.1[j]=t:=⟨_,rfl⟩;have htev:t<m.base.ev.length:=hyev t (by rw [<- ht];exact gM hjl);have hlast:y.1.getLastD 0=t:=by
    rw [List.getLastD_eq_getLast?,List.getLast?_eq_getElem?,show y.1.length-1=j by omega,gE hjl,ht];rfl
   obtain⟨b7,o7,hp7,hl7,hat7⟩:=oE2.row.at htev;have hlV:zcb m.base.ev y.1=(m.base.ev[t]).v:=by
    show (m.base.ev.getD (y.1.getLastD 0) ev0).v=_;rw [hlast,gDe,gE htev];rfl
   have dV:Bw V2 V2.drew:=(Ga _ _).drew;have hl6':l<6:=by omega
   unfold slV;rw [hp6];refine DrawE.ord [15] [0,1,2,3,4,5,6,7,8,9,10,11,12,13,14,15] (by kernel_rfl) ⟨.slice q1 m.base.ev.length k1,by have:=zc (za (hdr fV2)) (i:=0) (v := .slice q1 RF.ev.length k1) rfl;rw [hRFe] at this;exact this,(j:Nat),(ze (by omega)).trans (by omega),j,rfl,hjl,i64 t,by have:=zc (zr dV (hat6 j hjl)) (i:=0) (v:=i64 t) (by rw [ht];rfl);exact this,?_⟩;rw [hp7];refine⟨t,rfl,htev,u8 (m.base.ev[t]).v,by have:=zc (zr dV (hat7 t htev)) (i:=3) (v:=u8 (m.base.ev[t]).v) rfl;exact this,l,rfl,hl6',zm k5 (hdr fV2) (o:=327+l*1) (v:=u8 (m.base.ev[t]).v) rfl rfl (by rw [zC];omega) rfl fun S fS gS sS=>?_⟩;rw [UW,zr1 _ _ _ hl6'] at fS;have gS2:V2.grownBy S (some M):=zd (zi dV) gS;refine nxI (by omega) ⟨l+1,(cvE rfl rfl),⟨hll,?_,by rw [<- hp7];exact qz oE2 fV2 (by decide) gS2,hbV2.trans (zk gS2 hbV2.size (by omega))⟩,zdc (by omega)⟩;rw [htk,hlV,<- hp7];exact fS
  have hc:¬ (l:Int)<(dl.length:Int):=dF hc;obtain rfl:l=dl.length:=by omega
  rw [JF (by omega)] at hP;have hcand:zz m ds={ RF with co:=P.1,mem:=P.2 }:=by
   rw [hP,hRF,hdle,hRs];rfl
  rw [<- hcand] at fZ;have oE:OwnS evE 49 Y2.heap.size Z q1 k1 (zz m ds).ev:=oE;refine⟨_,zc (za (zb hbZ fLY)) (i:=0) rfl,exC (zz m ds) q1 k1,zC _ _ _,za fZ,hlt fZ,?_⟩;have hjZ:=hJ.step _ _ _ _ hj (StepG.below hbZ);have hGv:∀ k,GvX [.agg (exC (zz m ds) q1 k1).toArray] k->Y2.heap.size<=k/\∃ a,q1=some a/\k=a.block:=by
   rintro k ⟨x,a,cc,he,rfl⟩;have h1:(exC (zz m ds) q1 k1).toArray=(exC x (some a) cc).toArray:=by
    have:=Jy he;exact Value.agg.inj this
   have h2:exC (zz m ds) q1 k1=exC x (some a) cc:=by simpa using h1
   have h3:Value.slice q1 (zz m ds).ev.length k1=Value.slice (some a) x.ev.length cc:=Jy h2;have h4:q1=some a:=by injection h3
   exact⟨(zx oE h4).1,a,h4,rfl⟩
  have hmp:(pre++[ds]).map (zz m)=pre.map (zz m)++[zz m ds]:=by rw [QO];rfl
  have hpm:(pre.map (zz m)++[zz m ds]) <+: zdJ m:=by
   obtain⟨t,ht⟩:=hpre;refine⟨t.map (zz m),?_⟩;unfold zdJ;rw [<- ht,QO,hmp]
  refine YieldR.mono (hy _ (zz m ds) [.agg (exC (zz m ds) q1 k1).toArray] F Z hjZ ⟨_,q1,k1,by simp,rfl,oE.lower (by omega)⟩ (fun k hk=>by have:=(hGv k hk).1;omega) hpm) ?_;rintro v U ⟨rfl,F',hjU,kU⟩;refine brF ?_;have kF:KeepsG F F' Y2 U:=⟨kU.os.trans hbZ.os,kU.tape.trans hbZ.tape,kU.output.trans hbZ.output,UL hbZ.size kU.size,fun k hk hf=>(kU.same k (by omega) (fun h=>h.elim hf fun h=>by have:=(hGv k h).1;omega)).trans (hbZ.block k hk),fun k hk=>by
   rcases kU.fp k hk with (h | h) | h
   ·exact .inl h
   ·exact .inr (hGv k h).1
   ·exact .inr (by omega)⟩
  refine⟨F',⟨by rw [hmp];exact hjU,?_⟩,kF⟩;rw [hKp];refine⟨UL hY2s kF.size,fun k h1 h2=>?_⟩;obtain⟨h3,h4⟩:=hkq k h1 h2;refine⟨(kF.same k (by omega) h4).trans h3,fun h=>?_⟩;rcases kF.fp k h with h | h
  ·exact h4 h
  ·omega
 ·rintro D F Y hD hfD ⟨hj,hk⟩ hdef;refine⟨_,rfl,hdef,⟨_,rfl⟩,F,?_⟩;show J ((qb (zJ m)).map (zz m)) F _;exact hJ.step _ _ _ _ hj (.put (by omega) hfD _)
 ·rintro D ex pre F Y hD hfD hpre h;exact h.elim
end
end Go.Proofs.YtkpaomeeknegpaaGreatDoor
namespace Go.Sei
def isR (x : ExD) (i : Nat) : Bool := decide ((evA x i).k = 1)
def isW (x : ExD) (i : Nat) : Bool := decide ((evA x i).k = 2)
def zbZ (x : ExD) (i : Nat) : Bool := isR x i || isW x i
def zg (r : RelD) (a b : Nat) : Bool := (r.to a).testBit b
def zfA (n : Nat) (p : Nat → Bool) : Nat := (List.range n).foldl (fun s b => if p b = true then s ||| 2 ^ b else s) 0
def zbR (n : Nat) (p : Nat → Nat → Bool) : RelD := jK n fun a => zfA n (p a)
def qc (r : RelD) (l : List RelD) : RelD := l.foldl (fun r o => (zal r o).1) r
def frM (x : ExD) : RelD := (jh (zX x.rf) x.co).1
def zbx (x : ExD) (a b : Nat) : Bool := zbZ x a && (zbZ x b && decide ((evA x a).l = (evA x b).l))
def zc6 (x : ExD) (r : RelD) : RelD := zbR r.n.toNat fun a b => zg r a b && !decide ((evA x a).th = (evA x b).th)
def zbl (x : ExD) (md : UInt8) : Nat := ((List.range x.ev.length).filter fun i => decide ((evA x i).k = 3) && decide ((evA x i).m = md)).foldl (fun s i => s ||| 2 ^ i) 0
def zS (x : ExD) (md : UInt8) : RelD := (jh (jh x.po (idR x.ev.length (zbl x md))).1 x.po).1
def zY (x : ExD) (a : Nat) (md : UInt8) : Bool := decide ((evA x a).m = md) || decide ((evA x a).m = 3)
def zaz (x : ExD) (f : RelD) (a b : Nat) : Bool := zg f a b || (zY x a 3 || zY x b 3)
def ze9 (m : Nat) (x : ExD) (f l s : RelD) (a b : Nat) : Bool :=
  match m with
  | 1 => false
  | 2 => true
  | 3 => isR x a || (isW x b || zaz x f a b)
  | 4 => isR x a || (zaz x f a b || (isW x b && (zbx x a b || zg s a b)))
  | 5 => (isR x a && (zY x a 1 || zg l a b)) || ((isW x b && (zY x b 2 || zg s a b)) || zg f a b)
  | 6 => zg x.dt a b || ((zg x.ct a b && isW x b) || (zg x.rm a b || (zg f a b || ((zg l a b && (isR x a && isR x b)) || (zg s a b && (isW x a && isW x b))))))
  | _ => false
def zaT (m : Nat) (x : ExD) : RelD := zbR x.ev.length fun a b => zg x.po a b && (zbZ x a && (zbZ x b && ze9 m x (zS x 3) (zS x 4) (zS x 5) a b))
def jv (x : ExD) : RelD := zbR x.ev.length fun a b => zg x.po a b && zbx x a b
def qO (m : Nat) (x : ExD) : Nat :=
  if zaO (qc (jv x) [x.rf, x.co, frM x]) = true then
    (if zbf (zaF x.rm (jh (frM x) x.co).1).1 = true then
      (if m = 1 then 0 else if zaO (qc (zaT m x) [if m = 2 then x.rf else zc6 x x.rf, x.co, frM x]) = true then 0 else 3)
     else 2)
  else 1
def zae (m : Nat) : Bool := decide (1 ≤ m) && decide (m ≤ 6)
def zdB (m : Nat) (x : ExD) : Bool := zae m && (jm x && decide (qO m x = 0))
def zgj (m : Nat) (x : ExD) : Nat := if zae m = true ∧ jm x = true then qO m x else 0
theorem zoN {p:Nat->Bool} {n k:Nat} (hk:k<n) (h:p k=false):(List.range n).all p=false:=by
 rw [KL];exact⟨k,Um.2 hk,by rw [h];decide⟩
theorem zqP {p:Nat->Bool} {k:Nat} (h:(List.range k).all p=true) (hp:p k=true):(List.range (k+1)).all p=true:=by
 rw [QU,QH,h];simp [hp]
theorem j7 {a j:Nat}:(2^a).testBit j=decide (j=a):=by
 rw [Ko];exact QE.2 ⟨fun e=>e.symm,fun e=>e.symm⟩
theorem zmW {a:Nat}:∀ (l:List Nat) (f:Nat->Nat) (b j:Nat),((l.foldl (fun f b=>upd f b (f b|||2^a)) f) b).testBit j=((f b).testBit j||(decide (b∈l)&&decide (j=a)))
 | [],f,b,j=>by simp
 | x::l,f,b,j=>by
  rw [QK,zmW l];by_cases hx:b=x
  ·subst hx;rw [zP,Up,j7];by_cases hl:b∈l <;> by_cases hj:j=a <;> simp [hl,hj]
  ·rw [qr _ _ hx];simp [hx]
theorem zf1 (tf:Nat->Nat):∀ (n b j:Nat),(zaG tf n b).testBit j=(decide (j<n)&&decide (b∈els (tf j)))
 | 0,b,j=>by
  show (0:Nat).testBit j=_;simp
 | n+1,b,j=>by
  have ih:=zf1 tf n b j;unfold zaG at ih ⊢;rw [QU,KS,QK,List.foldl_nil,zmW,ih];by_cases hj:j=n
  ·subst hj;simp
  ·by_cases h2:j<n
   ·rw [Uq h2,Uq (by omega:j<n+1),Uf hj];simp
   ·rw [Uf h2,Uf (by omega:¬ j<n+1),Uf hj];simp
theorem zlz {r:RelD} (h:okR r=true) {b j:Nat}:((zX r).to b).testBit j=(decide ((j:Int)<r.n)&&decide (b∈els (r.to j))):=by
 have hn:0<=r.n:=by
  unfold okR at h;rw [bAT,dE] at h;exact h.1
 have e:zX r=⟨r.n,zaG r.to r.n.toNat⟩:=Gn h;rw [e];show (zaG r.to r.n.toNat b).testBit j=_;rw [zf1];congr 1;exact QE.2 (by omega)
theorem zgK {s:Nat} (h0:s≠0) (h:s<2^64):ctz s∈els s:=by
 rw [(jX h0 h).1];exact Kz
end Go.Sei
namespace Go.Proofs.YtkpaomeeknegpaaGreatDoor
open Go.Vc Go.RowKit Go.Sei
section
variable {b c:Nat} {x:ExD} {q:OA} {w:Wd}
theorem zeD {k:Nat}:x.ev.getD k ev0=evA x k:=rfl
theorem zod (fx:ExH w b x q c) (hv:ExW w x q) (hn:x.rf.n=x.ev.length) (hok:okR x.rf=true) (hT:Tz64M w):CB 44 #[At0 b] w (.bool (zaH x)):=by
 refine qA 72 [At0 b] (.s .p (.c .p .p)) Tryz.func44 ?_;obtain⟨from_,hfr⟩:∃ f,f=zX x.rf:=⟨_,rfl⟩;have hn20:=hv.n;refine⟨Nat,fun F=>⟨[(0,At0 b),(3,At0 F)],[]⟩,fun F X=>z6 X F from_/\zG from_.to/\w.heap.size<=F/\Bw w X,?_,?_⟩
 ·refine⟨zf x.rf,zh _,?_,hlt fx,?_⟩
  ·have h:=zR (n:=50) (m:=49) (za fx);obtain⟨A,T,hA,hE⟩:=zp9 x q c;have e:=hE x.rf;have e2:(exC x q c).drop 50=zf x.rf++T:=by
    show (exC { x with rf:=x.rf } q c).drop 50=_;rw [e,<- hA,Uj]
   have e3:((exC x q c).toArray.toList.drop 50).take 49=zf x.rf:=by
    show ((exC x q c).drop 50).take 49=_;rw [e2,Jg (by rw [zh];decide),JF (by rw [zh];decide)]
   rw [e3] at h;exact h
  refine cmo (zh9 hv.rf hT) ?_;rintro e Y ⟨rfl,hbY,hwr⟩;refine zq (X:=Y) (v := .agg (zf (zX x.rf)).toArray) k39 (zh _) (by kernel_rfl) (zD _) fun Z hbZ fZ sZ=>?_;rw [<- hfr] at fZ hwr;exact⟨Y.heap.size,(cvE rfl rfl),fZ,hwr,hbY.size,(zst hbY hbZ)⟩
 rintro F X ⟨fF,hwr,hF,hbX⟩;have bits:∀ i j,(from_.to i).testBit j=true->j<x.ev.length:=fun i j h=>by
  rw [hfr,zlz hok,bAT,dE,hn] at h;omega
 refine⟨_,zc (za (zb hbX fx)) (i:=0) rfl,Nat,fun k=>⟨[(0,At0 b),(3,At0 F),(18,.slice q x.ev.length c),(19,i64 x.ev.length),(20,i64 (k:Nat))],[]⟩,fun k X=>k<=x.ev.length/\(List.range k).all (fun i=>zb6 x (from_.to i) (evA x i))=true/\z6 X F from_/\Bw w X,fun k=>x.ev.length-k,0,(cvE rfl rfl),⟨UY _,rfl,fF,hbX⟩,?_⟩;have hall:zaH x=(List.range x.ev.length).all fun i=>zb6 x (from_.to i) (evA x i):=by rw [hfr];rfl
 clear fF hbX;rintro k X ⟨hk,hgo,fF,hbX⟩;dsimp only;have hXs:=hbX.size;refine biE (fun hc=>?_) fun hc=>?_
 ·have hc:(k:Int)<(x.ev.length:Int):=dT hc;have hkl:k<x.ev.length:=by omega
  obtain⟨bq,oq,hqe,hb,hat⟩:=zcp (hv.ev.below hbX) hkl;rw [zeD] at hat;obtain⟨e,he⟩:=nm (evA x k);obtain⟨s,hs⟩:=nm (from_.to k);rw [<- he] at hat;have hs64:s<2^64:=by rw [hs];exact hwr k (by omega)
  have eq0:some (Value.slice q x.ev.length c)=some (Value.slice (some ⟨bq,oq,none⟩) x.ev.length c):=by rw [hqe]
  subst hqe;refine⟨k,rfl,hkl,evE.enc e,rfl,hat,hb,zq (X:=X) (v := .agg (evE.enc e).toArray) k49 rfl rfl (Qi.2 fun u hu=>evE.one e u hu) fun Y hbY fY sY=>?_⟩;have fY:Y.heap[X.heap.size]?=some (.cells (evE.enc e).toArray 49 (0,0)):=fY;have hbY2:=hbX.trans (hbY.mono hXs);have no:∀ {Z:Wd},Bw w Z->zb6 x s e=false->(Ending.returned (.bool false)=Ending.returned (.bool (zaH x))/\Bw w Z):=fun {Z} hb h=>⟨rb (by
   rw [hall];symm;exact zoN hkl (by rw [<- hs,<- he];exact h)),hb⟩
  have yes:∀ {Z:Wd},z6 Z F from_->Bw w Z->zb6 x s e=true->(k+1<=x.ev.length/\(List.range (k+1)).all (fun i=>zb6 x (from_.to i) (evA x i))=true/\z6 Z F from_/\Bw w Z):=fun {Z} f hb h=>⟨hkl,zqP hgo (by rw [<- hs,<- he];exact h),f,hb⟩;refine⟨k,rfl,by omega,?_⟩;refine⟨s64 s,by rw [hs];exact zaI (zb hbY fF) (by omega),u8 e.k,zc (za fY) (i:=1) rfl,biE (fun h=>?_) fun h=>?_⟩
  ·have h:¬ e.k=1:=by
    have h:(!decide ((e.k.toNat:Int)=((1:UInt8).toNat:Int)))=true:=h;intro e2;rw [e2] at h;simp at h
   have hone:zb6 x s e=decide (s=0):=Gm h;refine biE (fun h2=>?_) fun h2=>?_
   ·have h2:¬ s=0:=by
     have h2:(!decide ((s:Int)=0))=true:=h2;intro e2;rw [e2] at h2
     cases h2
    exact no hbY2 (by rw [hone];exact Uf h2)
   ·have h2:s=0:=by
     have h2:(!decide ((s:Int)=0))=false:=h2;have h2:(s:Int)=0:=(by simpa using h2);omega
    exact nxI (by omega) ⟨k+1,(cvE rfl rfl),yes (zb hbY fF) hbY2 (by rw [hone];exact Uq h2),zdc (by omega)⟩
  have h:e.k=1:=by
   have h:(!decide ((e.k.toNat:Int)=((1:UInt8).toNat:Int)))=false:=h;exact qu.1 (by simpa using h)
  refine cmo (za5 hs64 (hT.below hbY2)) ?_;rintro e2 Z ⟨rfl,hbZ⟩;have hYs:=hbY2.size;have hbZ2:=hbY2.trans (hbZ.mono hYs);have fZ:=zb hbZ fY;have fFZ:=zb hbZ (zb hbY fF);by_cases hs0:s=0
  ·have e1:(els s).isEmpty=true:=by rw [hs0];rfl
   rw [e1];refine brT (brT (no hbZ2 ?_));unfold zb6;rw [Gn h,Gn hs0]
  obtain⟨hd,hem⟩:=zbV hs0 hs64;rw [hd,hem];have hmem:=zgK hs0 hs64;have hbit:s.testBit (ctz s)=true:=(qW.1 hmem).2;have hwl:ctz s<x.ev.length:=bits k _ (by rw [<- hs];exact hbit);refine brF ⟨by omega,((2^ctz s:Nat):Int),j5 (e:=ctz s) (by omega),biE (fun h2=>?_) fun h2=>?_⟩
  ·have h2:¬ s=2^ctz s:=by
    have h2:(!decide ((s:Int)=((2^ctz s:Nat):Int)))=true:=h2;intro e2;rw [<- e2] at h2;simp at h2
   refine no hbZ2 ?_;unfold zb6;rw [Gn h,Gm hs0,Gm h2]
  have h2:s=2^ctz s:=by
   have h2:(!decide ((s:Int)=((2^ctz s:Nat):Int)))=false:=h2;have h2:(s:Int)=((2^ctz s:Nat):Int):=by simpa using h2
   exact Ux h2
  obtain⟨t,ht⟩:=nm (ctz s);rw [<- ht] at hwl h2 ⊢;obtain⟨bq2,oq2,hqe2,hb2,hat2⟩:=zcp (hv.ev.below hbZ2) hwl;rw [zeD] at hat2;obtain⟨f,hf⟩:=nm (evA x t);rw [<- hf] at hat2;have hone:zb6 x s e=(decide (f.k=2)&&(decide (f.l=e.l)&&decide (f.v=e.v))):=by
   unfold zb6;rw [Gn h,Gm hs0,<- ht,Gn h2,<- hf]
  refine⟨_,zc (za (zb hbZ2 fx)) (i:=0) rfl,t,rfl,hwl,?_⟩;refine⟨evE.enc f,rfl,by
   simp only [KY,Us,Gh] at hqe2;rw [hqe2.1,hqe2.2];exact hat2,by
   simp only [KY,Us,Gh] at hqe2;rw [hqe2.1];exact hb2,?_⟩
  refine zq (X:=Z) (v := .agg (evE.enc f).toArray) k49 rfl rfl (Qi.2 fun u hu=>evE.one f u hu) fun V hbV fV sV=>?_;have fV:V.heap[Z.heap.size]?=some (.cells (evE.enc f).toArray 49 (0,0)):=fV;have hbV2:=zst hbZ2 hbV;have fe:=zb hbV fZ;have fFV:=zb hbV fFZ;have n8:∀ {a d:UInt8},(!decide ((a.toNat:Int)=(d.toNat:Int)))=true->¬ a=d:=fun {a d} h e2=>by
   rw [e2] at h;simp at h
  have y8:∀ {a d:UInt8},(!decide ((a.toNat:Int)=(d.toNat:Int)))=false->a=d:=fun {a d} h=>qu.1 (by simpa using h);refine⟨u8 f.k,zc (za fV) (i:=1) rfl,biE (fun h3=>?_) fun h3=>?_⟩
  ·have h3:¬ f.k=2:=n8 (d:=2) h3;exact brT (brT (no hbV2 (by rw [hone,Uf h3];rfl)))
  have h3:f.k=2:=y8 (d:=2) h3;refine⟨u8 f.l,zc (za fV) (i:=2) rfl,u8 e.l,zc (za fe) (i:=2) rfl,biE (fun h4=>?_) fun h4=>?_⟩
  ·have h4:¬ f.l=e.l:=n8 h4;exact brT (no hbV2 (by rw [hone,Uf h4,Uh,Ug]))
  have h4:f.l=e.l:=y8 h4;refine⟨u8 f.v,zc (za fV) (i:=3) rfl,u8 e.v,zc (za fe) (i:=3) rfl,biE (fun h5=>?_) fun h5=>?_⟩
  ·have h5:¬ f.v=e.v:=n8 h5;exact no hbV2 (by rw [hone,Uf h5,Ug,Ug])
  have h5:f.v=e.v:=y8 h5;exact nxI (by omega) ⟨k+1,(cvE rfl rfl),yes fFV hbV2 (by rw [hone,Uq h3,Uq h4,Uq h5];rfl),zdc (by omega)⟩
 ·have hc:¬ (k:Int)<(x.ev.length:Int):=dF hc;obtain rfl:k=x.ev.length:=by omega
  exact⟨rb (by rw [hall];exact hgo.symm),hbX⟩
end
theorem zud {bx n:Nat} {w:Wd} {i:Nat} (f:w.heap[bx]?=some (.cells #[i64 (n:Nat)] 3 (0,0))) (hn:n<=1000):Calls PG 117 #[i64 (i:Nat),At0 bx] w fun e w'=>e = .returned (.bool true)/\w'.heap[bx]?=some (.cells #[i64 (n+1:Nat)] 3 (0,0))/\w.grownBy w' (some bx):=by
 refine zI 6 [i64 (i:Nat),At0 bx] Tryz.func117 ?_;exact⟨_,zc (za f) (i:=0) rfl,nxI (by omega) (zm k3 f (o:=0) (v:=i64 (n+1:Nat)) rfl rfl (by show 0<1;decide) rfl fun w' f' g' s'=>⟨rfl,f',g'⟩)⟩
theorem zld {bs bx s:Nat} {w:Wd} (fs:w.heap[bs]?=some (.cells #[s64 s] 36 (0,0))) (fx:w.heap[bx]?=some (.cells #[i64 (0:Nat)] 3 (0,0))) (hs:s<2^64) (hT:Tz64M w) (hbx:1≠bx) :
  Calls PG 157 #[.func (.func 117) #[] #[At0 bx],At0 bs] w fun e w'=>(∃ v,e = .returned v)/\w'.heap[bx]?=some (.cells #[i64 (zbT s:Nat)] 3 (0,0))/\w.grownBy w' (some bx):=by
 refine zI 16 [.func (.func 117) #[] #[At0 bx],At0 bs] Tryz.func157 ?_;refine⟨_,zc (za fs) (i:=0) rfl,Nat×Nat,fun q=>⟨[(0,.func (.func 117) #[] #[At0 bx]),(3,s64 q.2)],[]⟩,fun q X=>X.heap[bx]?=some (.cells #[i64 (q.1:Nat)] 3 (0,0))/\q.1+zbT q.2=zbT s/\q.2<2^64/\w.grownBy X (some bx),fun q=>q.2,(0,s),(cvE rfl rfl),⟨fx,UQ _,hs,qo _ _⟩,?_⟩;rintro⟨n,r⟩ X ⟨f,hn,hr,gX⟩;dsimp only at f hn hr ⊢;have hls:=zfi s;refine biE (fun hc=>?_) fun hc=>?_
 ·have hc:(!decide ((r:Int)=0))=true:=hc;have hc:¬ (r:Int)=0:=by simpa using hc
  have hr0:r≠0:=by omega
  obtain⟨e1,e2,_,_⟩:=jX hr0 hr;have hl:zbT r=zbT (qI r)+1:=by unfold zbT;rw [e1];rfl
  have hTX:Tz64M X:=zar hT (gX.block _ (zaX hT) (by simpa using hbx));refine cmo (zo2 hTX hr0 hr) ?_;rintro e _ ⟨rfl,rfl⟩;have hn64:n<=1000:=by unfold zbT at hn;omega
  refine cmo (zud f hn64) ?_;rintro e V ⟨rfl,fV,gV⟩;exact brF ⟨((r-1:Nat):Int),(zaV (a:=(r:Int)-1) (by omega)).trans (by omega),((qI r:Nat):Int),jO (a:=r) (b:=r-1) hr (by omega),(n+1,qI r),(cvE rfl rfl),⟨fV,by show n+1+zbT (qI r)=_;omega,by show qI r<_;omega,zd gX gV⟩,e2⟩
 ·have hc:(!decide ((r:Int)=0))=false:=hc;have hc:(r:Int)=0:=by simpa using hc
  obtain rfl:r=0:=by omega
  have h0:zbT 0=0:=rfl;rw [h0,UK] at hn;exact⟨⟨_,rfl⟩,by rw [<- hn];exact f,gX⟩
theorem zsY {s:Nat} {w:Wd} (hs:s<2^64) (hT:Tz64M w):CB 86 #[s64 s] w (i64 (zbT s:Nat)):=by
 refine qA 11 [s64 s] (.s .p (.c .p .p)) Tryz.func86 ?_;obtain⟨L,hL⟩:=nm (w.heap.size);refine⟨Unit,fun _=>⟨[(0,s64 s),(3,At0 L)],[]⟩,fun _ Y=>Y.heap[L]?=some (.cells #[i64 (0:Nat)] 3 (0,0))/\Y.heap.size=L+1/\Bw w Y,?_,?_⟩
 ·refine zq (X:=w) (v:=i64 0) k3 rfl rfl rfl fun Y hbY fY sY=>?_;have fY:Y.heap[w.heap.size]?=some (.cells #[i64 (0:Nat)] 3 (0,0)):=fY;exact⟨(),⟨.cons rfl (.cons (by rw [hL];rfl) .nil),rfl⟩,by rw [hL];exact fY,by rw [hL];exact sY,hbY⟩
 rintro _ Y ⟨fY,sY,hbY⟩;refine cmo zhV ?_;rintro e _ ⟨rfl,rfl⟩;have hb2:Bw Y (Y.alloc (.cells #[s64 s] 36)):=zba _ _;have htl:=zaX hT;refine cmo (zld (zw Y _) (zb hb2 fY) hs ((hT.below hbY).below hb2) (by omega)) ?_;rintro e Z ⟨⟨v,rfl⟩,fZ,gZ⟩;exact⟨_,zc (za fZ) (i:=0) rfl,rfl,((zst hbY hb2)).trans (zk gZ (by have:=hbY.size;have:=hb2.size;omega) (by omega))⟩
def zjT (x y:Nat):Int:=if x<y then -1 else if y<x then 1 else 0
theorem zpG {x:Nat} {w:Wd}:Calls PG 116 #[i64 (x:Nat)] w fun e w'=>e = .returned (.bool false)/\w=w':=by
 refine zI 6 [i64 (x:Nat)] Tryz.func116 ?_;exact⟨rb (by simp),rfl⟩
theorem zmz {x y:Nat} {w:Wd}:Calls PG 85 #[i64 (x:Nat),i64 (y:Nat)] w fun e w'=>e = .returned (i64 (zjT x y))/\w=w':=by
 refine zI 20 [i64 (x:Nat),i64 (y:Nat)] Tryz.func85 ?_;refine cmo zpG ?_;rintro e _ ⟨rfl,rfl⟩;refine cmo zpG ?_;rintro e _ ⟨rfl,rfl⟩;refine brF (brF (biE (fun h=>?_) fun h=>?_))
 ·have h:(x:Int)<y:=dT h;exact⟨ri (by unfold zjT;rw [Gn (by omega)]),rfl⟩
 have h:¬ (x:Int)<y:=dF h;refine biE (fun h2=>?_) fun h2=>?_
 ·have h2:(y:Int)<x:=dT h2;exact⟨ri (by unfold zjT;rw [Gm (by omega),Gn (by omega)]),rfl⟩
 ·have h2:¬ (y:Int)<x:=dF h2;exact⟨ri (by unfold zjT;rw [Gm (by omega),Gm (by omega)]),rfl⟩
section
variable {b c L:Nat} {x:ExD} {q:OA} {w:Wd}
theorem zqr {X:Wd} (fx:ExH X b x q c) {i:Nat} (hi:i<48):X.cell? ⟨b,0+99+1+i*1,none⟩=some (s64 (x.co.to i)):=by
 obtain⟨A,T,hA,hE⟩:=zmi x q c;have hR:RelAt X b 99 46 A T x.co:=⟨hA,by rw [<- hE];exact fx⟩;exact hR.cell hi
theorem zt0 {u v:Nat} (fx:ExH w b x q c) (fL:w.heap[L]?=some (.cells #[At0 b] 81 (0,0))) (hco:zG x.co.to) (hu:u<48) (hv:v<48) (hT:Tz64M w) :
  CB 84 #[i64 (u:Nat),i64 (v:Nat),At0 L] w (i64 (zjT (zbT (x.co.to v)) (zbT (x.co.to u)))):=by
 refine zI 23 [i64 (u:Nat),i64 (v:Nat),At0 L] Tryz.func84 ?_;refine DrawE.ord [] [0,1,2,3,4,5,6,8,9,10,11,12,13,14,7,15,16,17] (by kernel_rfl) ?_;have hd:Bw w w.drew:=(Ga _ _).drew;refine⟨_,zc (za (hdr fL)) (i:=0) rfl,v,rfl,hv,_,zqr (hdr fx) hv,_,zc (za (hdr fL)) (i:=0) rfl,u,rfl,hu,_,zqr (hdr fx) hu,cmo (zsY (hco v hv) (hT.below hd)) ?_⟩;rintro e X ⟨rfl,hbX⟩;refine⟨hbX,cmo (zsY (hco u hu) ((hT.below hd).below hbX)) ?_⟩;rintro e Y ⟨rfl,hbY⟩;refine⟨hbY,cmo zmz ?_⟩;rintro e _ ⟨rfl,rfl⟩;exact⟨Ga _ _,rfl,(hd.trans hbX).trans (hbY.mono hbX.size)⟩
end
theorem zhI {key:Nat->Nat} {x:Nat}:∀ (B A:List Nat),(∀ y∈B,key y<key x)->jo key (B++A) x=B++jo key A x
 | [],A,_=>rfl
 | y::B,A,h=>by
  show (if key y<key x then y::jo key (B++A) x else x::y::(B++A))=_;rw [Gn (h y Kz),zhI B A fun z hz=>h z (JW _ hz)];rfl
theorem zhH {key:Nat->Nat} {x:Nat}:∀ r:List Nat,(jo key r x).length=r.length+1
 | []=>rfl
 | y::r=>by
  unfold jo
  split
  ·show (jo key r x).length+1=_;rw [zhH r];rfl
  ·rfl
theorem zez {key:Nat->Nat} {x a:Nat}:∀ r:List Nat,a∈jo key r x↔a=x\/a∈r
 | []=>by simp [jo]
 | y::r=>by
  unfold jo
  split
  ·rw [UB,zez r,UB];constructor
   ·rintro (h | h | h) <;> simp [h]
   ·rintro (h | h | h) <;> simp [h]
  ·simp
def zcw (key:Nat->Nat) (l:List Nat):List Nat:=l.foldl (fun acc x=>jo key acc x) []
theorem zlN (key:Nat->Nat) (l:List Nat) (x:Nat):zcw key (l++[x])=jo key (zcw key l) x:=by
 unfold zcw;rw [KS];rfl
theorem zcm {key:Nat->Nat} {a:Nat}:∀ (l acc:List Nat),a∈l.foldl (fun acc x=>jo key acc x) acc↔a∈l\/a∈acc
 | [],acc=>by simp
 | x::l,acc=>by
  rw [QK,zcm l,zez,UB];constructor
  ·rintro (h | h | h) <;> simp [h]
  ·rintro ((h | h) | h) <;> simp [h]
theorem zcn {key:Nat->Nat}:∀ (l acc:List Nat),(l.foldl (fun acc x=>jo key acc x) acc).length=l.length+acc.length
 | [],acc=>by simp
 | x::l,acc=>by
  rw [QK,zcn l,zhH,Qr];omega
theorem zfx {key:Nat->Nat} {l:List Nat} {a:Nat}:a∈zdm key l↔a∈l:=by
 unfold zdm;rw [List.mem_reverse,zcm];simp
theorem zn0 {key:Nat->Nat} (l:List Nat):(zdm key l).length=l.length:=by
 unfold zdm;rw [Kj,zcn];rfl
section
variable {b c L g cap:Nat} {x:ExD} {q:OA} {w:Wd} {l:List Nat}
abbrev zbU (x:ExD):Nat->Nat:=fun i=>zbT (x.co.to i)
theorem zhG {B:Nat} (ho:OwnS zA 3 B w (some ⟨g,0,none⟩) cap l) (fx:ExH w b x q c) (fL:w.heap[L]?=some (.cells #[At0 b] 81 (0,0))) (hT:Tz64M w) (htg:1≠g) (hco:zG x.co.to) (h48:∀ a∈l,a<48) (hn:l.length<=20) (hn1:1<=l.length) :
  Calls PG 159 #[.slice (some ⟨g,0,none⟩) l.length cap,i64 0,i64 l.length,.func (.func 84) #[] #[At0 L]] w fun e w'=>e = .returned (.tuple #[])/\OwnS zA 3 B w' (some ⟨g,0,none⟩) cap (zdm (zbU x) l)/\w.grownBy w' (some g):=by
 refine qA 53 [.slice (some ⟨g,0,none⟩) l.length cap,i64 0,i64 l.length,.func (.func 84) #[] #[At0 L]] (.c .p .p) Tryz.func159 ?_;obtain⟨E0,hE0⟩:∃ E0:List (Nat×Value),E0=[(0,.slice (some ⟨g,0,none⟩) l.length cap),(1,i64 0),(2,i64 l.length),(3,.func (.func 84) #[] #[At0 L])]:=⟨_,rfl⟩;have hbg:b≠g:=fun e=>by
  obtain⟨_,_,cur,hc⟩:=zx ho rfl;have hc:w.heap[g]?=_:=hc;rw [<- e,fx] at hc;simp at hc
 have hLg:L≠g:=fun e=>by
  obtain⟨_,_,cur,hc⟩:=zx ho rfl;have hc:w.heap[g]?=_:=hc;rw [<- e,fL] at hc;simp at hc
 refine⟨Unit,fun _=>⟨[(0,.slice (some ⟨g,0,none⟩) l.length cap),(1,i64 0),(2,i64 l.length),(3,.func (.func 84) #[] #[At0 L]),(8,i64 1)],[]⟩,fun _ X=>w=X,?_,?_⟩
 ·exact⟨1,ze (by omega),(),(cvE rfl rfl),rfl⟩
 rintro _ _ rfl;have hl0:l.take 1=(zcw (zbU x) (l.take 1)).reverse:=by
  cases l with
  | nil=>simp at hn1
  | cons a l=>rfl
 refine⟨Nat,fun i=>⟨[(0,.slice (some ⟨g,0,none⟩) l.length cap),(1,i64 0),(2,i64 l.length),(3,.func (.func 84) #[] #[At0 L]),(8,i64 (i:Nat))],[]⟩,fun i X=>(1<=i/\i<=l.length)/\OwnS zA 3 B X (some ⟨g,0,none⟩) cap ((zcw (zbU x) (l.take i)).reverse++l.drop i)/\w.grownBy X (some g),fun i=>l.length-i,1,
  (cvE rfl rfl),⟨⟨UV _,hn1⟩,by rw [<- hl0,JP];exact ho,qo _ _⟩,?_⟩
 rintro i X ⟨⟨hi1,hi⟩,oX,gX⟩;dsimp only;refine biE (fun hc=>?_) fun hc=>?_
 ·have hc:(i:Int)<(l.length:Int):=dT hc;have hil:i<l.length:=by omega
  obtain⟨u,hu⟩:∃ u,l[i]=u:=⟨_,rfl⟩;have hum:u∈l:=by rw [<- hu];exact gM hil
  obtain⟨S,hS⟩:=nm (zcw (zbU x) (l.take i));have hSm:∀ a∈S,a<48:=fun a ha=>by
   rw [hS] at ha;have:=(zcm (key:=zbU x) (l.take i) []).1 ha;rcases this with h | h
   ·exact h48 a (JZ h)
   ·cases h
  have hSl:S.length=i:=by
   rw [hS];unfold zcw;rw [zcn,Qt];simp;omega
  have htk:zcw (zbU x) (l.take (i+1))=jo (zbU x) S u:=by
   rw [tsg hil,hu,zlN,<- hS]
  rw [<- hS,<- JE hil,hu] at oX;refine⟨List Nat×List Nat,fun s=>⟨[(0,.slice (some ⟨g,0,none⟩) l.length cap),(1,i64 0),(2,i64 l.length),(3,.func (.func 84) #[] #[At0 L]),(8,i64 (i:Nat)),(9,i64 s.1.length)],[]⟩,fun s Y=>S.reverse=s.1++s.2/\(∀ y∈s.2,zbU x y<zbU x u)/\OwnS zA 3 B Y (some ⟨g,0,none⟩) cap (s.1++u::(s.2++l.drop (i+1)))/\w.grownBy Y (some g),fun s=>s.1.length,(S.reverse,[]),
   ⟨.cons rfl (.cons rfl (.cons rfl (.cons rfl (.cons rfl (.cons (by show _=some (i64 (S.reverse.length:Nat));rw [Kj,hSl];rfl) .nil))))),rfl⟩,⟨by rw [QI],fun y hy=>(by cases hy),oX,gX⟩,?_⟩
  clear oX gX;rintro⟨A,Bs⟩ Y ⟨hsp,hkB,oY,gY⟩;dsimp only at hsp hkB oY ⊢;have hAl:A.length<=i:=by
   have:=Gi List.length hsp;rw [Kj,hSl,lap] at this;omega
  have hdY:Bw Y Y.drew:=(Ga _ _).drew;have fin:∀ {Z:Wd},Bw Y Z->jo (zbU x) A.reverse u=u::A.reverse->((1<=i+1/\i+1<=l.length)/\OwnS zA 3 B Z (some ⟨g,0,none⟩) cap ((zcw (zbU x) (l.take (i+1))).reverse++l.drop (i+1))/\w.grownBy Z (some g)):=fun {Z} hb hins=>by
   refine⟨⟨by omega,hil⟩,?_,jw gY (hb.mono gY.size)⟩;have h1:S=Bs.reverse++A.reverse:=by rw [<- Km,<- hsp,Kb]
   rw [htk,h1,zhI _ _ (fun y hy=>hkB y (by simpa using hy)),hins];have h2:(Bs.reverse++u::A.reverse).reverse++l.drop (i+1)=A++u::(Bs++l.drop (i+1)):=by simp
   rw [h2];exact oY.below hb
  refine DrawE.ord [] [0,1,2,3,4,5,6,7,8,9,10,11,12,13,14,15,16] (by kernel_rfl) (biE (fun h=>?_) fun h=>?_)
  ·have h:(0:Int)<(A.length:Int):=dT h;obtain⟨A',y,hA⟩:∃ A' y,A=A'++[y]:=by
    refine⟨A.dropLast,A.getLast (fun e=>by rw [e] at h;simp at h),(List.dropLast_concat_getLast _).symm⟩
   subst hA;have hA'l:(A'++[y]).length=A'.length+1:=by simp
   rw [hA'l] at hAl h ⊢;have hrl:((A'++[y])++u::(Bs++l.drop (i+1))).length=l.length:=by
    have:=Gi List.length hsp;rw [Kj,hSl] at this;simp only [lap,Qr,QM,Qs] at this ⊢;omega
   have hyS:y<48:=hSm y (by
    have:y∈S.reverse:=(by rw [hsp];simp);simpa using this)
   obtain⟨b',o',hq',hb',hat'⟩:=oY.row.at (i:=A'.length) (by rw [hrl];omega);have hbo:b'=g/\o'=0:=by simpa using hq'.symm
   obtain⟨rfl,rfl⟩:=hbo;have c1:Y.cell? ⟨b',0+(A'.length+1)*1,none⟩=some (i64 u):=by
    have:=zc (hat' (A'.length+1) (by rw [hrl];omega)) (i:=0) (v:=i64 u) (by
     have e:((A'++[y])++u::(Bs++l.drop (i+1)))[A'.length+1]?=some u:=by
      rw [Jn (by simp),hA'l,UN];rfl
     rw [gE (by rw [hrl];omega)] at e;rw [Ud e];rfl)
    exact this
   have c2:Y.cell? ⟨b',0+A'.length*1,none⟩=some (i64 y):=by
    have:=zc (hat' A'.length (by rw [hrl];omega)) (i:=0) (v:=i64 y) (by
     have e:((A'++[y])++u::(Bs++l.drop (i+1)))[A'.length]?=some y:=by
      rw [KN,Jn (UV _),UN];rfl
     rw [gE (by rw [hrl];omega)] at e;rw [Ud e];rfl)
    exact this
   refine⟨A'.length+1,rfl,by omega,?_⟩;refine⟨_,c1,(A'.length:Nat),(ze (by omega)).trans (by omega),A'.length,rfl,by omega,?_⟩;refine⟨_,c2,?_⟩;have fxY:ExH Y b x q c:=(gY.block b (hlt fx) (by simpa using hbg)).trans fx;have fLY:Y.heap[L]?=some (.cells #[At0 b] 81 (0,0)):=(gY.block L (hlt fL) (by simpa using hLg)).trans fL;have hTY:Tz64M Y:=zar hT (gY.block _ (zaX hT) (by simpa using htg));refine cmo (zt0 (hdr fxY) (hdr fLY) hco (h48 u hum) hyS (hTY.below hdY)) ?_;rintro e Z ⟨rfl,hbZ⟩;refine⟨hbZ,?_⟩;have hYZ:=hdY.trans hbZ;refine biE (fun hm=>?_) fun hm=>?_
   ·have hm:zjT (zbT (x.co.to y)) (zbT (x.co.to u))<0:=dT hm;have hk:zbU x y<zbU x u:=by
     unfold zjT at hm;by_cases h1:zbT (x.co.to y)<zbT (x.co.to u)
     ·exact h1
     ·rw [Gm h1] at hm
      split at hm <;> omega
    have oZ:=oY.below hYZ;have gZ:=jw gY (hYZ.mono gY.size);obtain⟨b2,o2,hq2,hb2,hat2⟩:=oZ.row.at (i:=A'.length) (by rw [hrl];omega);have hbo2:b2=b'/\o2=0:=(by simpa using hq2.symm);obtain⟨rfl,rfl⟩:=hbo2;have dZ:Bw Z Z.drew:=(Ga _ _).drew;have d1:=zde hYZ c1;have d2:=zde hYZ c2;refine DrawE.ord [15,17] [0,1,2,3,4,5,6,7,8,9,10,11,12,13,14,15,16,17] (by kernel_rfl) ⟨(A'.length:Nat),(ze (by omega)).trans (by omega),(A'.length:Nat),(ze (by omega)).trans (by omega),A'.length,rfl,by omega,?_⟩;refine⟨_,d2,A'.length+1,rfl,by omega,?_⟩;refine⟨_,d1,A'.length+1,rfl,by omega,?_⟩;refine zjB (i:=A'.length+1) (v:=y) k3 rfl (oZ.below dZ) (by rw [hrl];omega) fun V oV gV=>⟨A'.length,rfl,by omega,?_⟩;refine zjB (i:=A'.length) (v:=u) k3 rfl oV (by rw [QN,hrl];omega) fun U oU gU=>?_;have e1:(((A'++[y])++u::(Bs++l.drop (i+1))).set (A'.length+1) y).set A'.length u=A'++u::((y::Bs)++l.drop (i+1)):=by
     rw [KN,JO _ _ (by omega),Jz,JO _ _ (by omega),UN];rfl
    rw [e1] at oU;refine⟨(A'.length:Nat),(ze (by omega)).trans (by omega),(A',y::Bs),(cvE rfl rfl),⟨by rw [hsp];simp,fun z hz=>?_,oU,zd (zd (jw gZ (dZ.mono gZ.size)) gV) gU⟩,by show A'.length<_;omega⟩;rcases UB.1 hz with hz | hz
    ·rw [hz];exact hk
    ·exact hkB z hz
   ·have hm:¬ zjT (zbT (x.co.to y)) (zbT (x.co.to u))<0:=dF hm;have hk:¬ zbU x y<zbU x u:=fun h=>hm (by unfold zjT;rw [Gn h];decide);refine nxI (by omega) ⟨i+1,(cvE rfl rfl),fin hYZ ?_,zdc (by omega)⟩;rw [Km];exact Gm hk
  ·have h:¬ (0:Int)<(A.length:Int):=dF h;have hA0:A=[]:=List.length_eq_zero_iff.1 (by omega);subst hA0;exact brF (nxI (by omega) ⟨i+1,(cvE rfl rfl),fin hdY rfl,zdc (by omega)⟩)
 ·have hc:¬ (i:Int)<(l.length:Int):=dF hc;obtain rfl:i=l.length:=by omega
  rw [Qv,Ql,QI] at oX;exact⟨rfl,oX,gX⟩
end
theorem zuq:∃ G,TyEq PG 42 true 6 2 G/\∀ f:Nat->UInt8,G (seg 6 fun i=>u8 (f i)):=by
 refine⟨_,.array (m:=6) (by decide) Tryz.underlying42 (fun w=>Tryz.isAgg42 w) (jV (by kernel_rfl) (by kernel_rfl)).1 (by kernel_rfl) tU8,fun f i hi=>⟨((f i).toNat:Int),?_⟩⟩;unfold qV;have h:=zbK (n:=6) (fun i=>u8 (f i)) hi;rw [UW];have hl:i<(seg 6 fun i=>u8 (f i)).length:=by rw [zE];exact hi
 rw [<- JE hl,List.take_succ_cons,Un];rw [gE hl] at h;rw [Ud h];rfl
theorem zpL {f g:Nat->UInt8}:seg 6 (fun i=>u8 (f i))=seg 6 (fun i=>u8 (g i))↔((List.range 6).all fun l=>decide (f l=g l))=true:=by
 rw [Qi];constructor
 ·intro h i hi;have hi:=Um.1 hi;have h3:=zbK (n:=6) (fun i=>u8 (f i)) hi;rw [h,zbK (n:=6) (fun i=>u8 (g i)) hi] at h3;have h4:=Ud h3;unfold u8 at h4;injection h4 with _ h5;exact Uq (qu.1 h5).symm
 ·intro h;unfold seg;refine Kk fun i hi=>?_;rw [dT (h i hi)]
theorem zqd (x y:Operand) (f g:Nat->UInt8) (w:Wd):(do eqGuard .eql 42 x y (.agg (seg 6 fun i=>u8 (f i)).toArray) (.agg (seg 6 fun i=>u8 (g i)).toArray);binOp .eql 42 (.agg (seg 6 fun i=>u8 (f i)).toArray) (.agg (seg 6 fun i=>u8 (g i)).toArray)).run PG w = .ok (.bool ((List.range 6).all fun l=>decide (f l=g l))) w:=by
 obtain⟨G,h1,h2⟩:=zuq;have:=zmj h1 9998 rfl (by kernel_rfl) (zE 6 _) (zE 6 _) (h2 f) (h2 g) x y w;rw [this,zfo zpL,Bool.decide_eq_true]
section
variable {b c L g cap:Nat} {x:ExD} {q:OA} {w:Wd} {l:List Nat}
theorem zkh {B:Nat} (ho:OwnS zA 3 B w (some ⟨g,0,none⟩) cap l) (fx:ExH w b x q c) (fL:w.heap[L]?=some (.cells #[At0 b] 81 (0,0))) (hT:Tz64M w) (htg:1≠g) (hco:zG x.co.to) (h48:∀ a∈l,a<48) (hn:l.length<=19) (hn1:1<=l.length) :
  Calls PG 115 #[.slice (some ⟨g,0,none⟩) l.length cap,i64 l.length,.func (.func 84) #[] #[At0 L]] w fun e w'=>e = .returned (.tuple #[])/\OwnS zA 3 B w' (some ⟨g,0,none⟩) cap (zdm (zbU x) l)/\w.grownBy w' (some g):=by
 refine zI 63 [.slice (some ⟨g,0,none⟩) l.length cap,i64 l.length,.func (.func 84) #[] #[At0 L]] Tryz.func115 ?_;refine⟨Unit,fun _=>⟨[(0,.slice (some ⟨g,0,none⟩) l.length cap),(1,i64 l.length),(2,.func (.func 84) #[] #[At0 L]),(6,i64 20),(7,i64 0),(8,i64 20)],[]⟩,fun _ X=>w=X,fun _=>0,(),(cvE rfl rfl),rfl,?_⟩;rintro _ _ rfl;refine brN (Uf (by omega)) (cmo (zhG ho fx fL hT htg hco h48 (by omega) hn1) ?_);rintro e X ⟨rfl,oX,gX⟩;refine⟨Unit,fun _=>⟨[(1,i64 l.length),(6,i64 20)],[]⟩,fun _ Y=>X=Y,fun _=>0,(),(cvE rfl rfl),rfl,?_⟩;rintro _ _ rfl;exact brN (Uf (by omega)) ⟨rfl,oX,gX⟩
theorem zmb {q:OA} {n m:Nat} (hm:m<=1000):Calls PG 159 #[.slice q n cap,i64 (m:Nat),i64 (m:Nat),.func (.func 84) #[] #[At0 L]] w fun e w'=>e = .returned (.tuple #[])/\w=w':=by
 refine zI 53 [.slice q n cap,i64 (m:Nat),i64 (m:Nat),.func (.func 84) #[] #[At0 L]] Tryz.func159 ?_;refine nxI (by omega) ⟨Unit,fun _=>⟨[(2,i64 (m:Nat)),(8,i64 ((m+1:Nat):Int))],[]⟩,fun _ X=>w=X,fun _=>0,(),(cvE rfl rfl),rfl,?_⟩;rintro _ _ rfl;exact brN (Uf (by omega)) ⟨rfl,rfl⟩
theorem znY {B:Nat} (ho:OwnS zA 3 B w (some ⟨g,0,none⟩) cap l) (fx:ExH w b x q c) (fL:w.heap[L]?=some (.cells #[At0 b] 81 (0,0))) (hT:Tz64M w) (htg:1≠g) (hco:zG x.co.to) (h48:∀ a∈l,a<48) (hn:l.length<=20) (hn1:1<=l.length) :
  Calls PG 115 #[.slice (some ⟨g,0,none⟩) l.length cap,i64 l.length,.func (.func 84) #[] #[At0 L]] w fun e w'=>e = .returned (.tuple #[])/\OwnS zA 3 B w' (some ⟨g,0,none⟩) cap (zdm (zbU x) l)/\w.grownBy w' (some g):=by
 by_cases h19:l.length<=19
 ·exact zkh ho fx fL hT htg hco h48 h19 hn1
 have hn20:l.length=20:=by omega
 refine zI 63 [.slice (some ⟨g,0,none⟩) l.length cap,i64 l.length,.func (.func 84) #[] #[At0 L]] Tryz.func115 ?_;refine⟨Bool,fun k=>⟨[(0,.slice (some ⟨g,0,none⟩) l.length cap),(1,i64 l.length),(2,.func (.func 84) #[] #[At0 L]),(6,i64 20),(7,i64 (if k=true then (0:Nat) else l.length:Nat)),(8,i64 (if k=true then l.length else 40:Nat))],[]⟩,fun k X=>(k=true/\w=X)\/(k=false/\OwnS zA 3 B X (some ⟨g,0,none⟩) cap (zdm (zbU x) l)/\w.grownBy X (some g)),fun k=>if k=true then 1 else 0,true,⟨.cons rfl (.cons rfl (.cons rfl (.cons rfl (.cons rfl (.cons (by rw [hn20];rfl) .nil))))),rfl⟩,.inl ⟨rfl,rfl⟩,?_⟩;rintro k X (⟨rfl,rfl⟩ | ⟨rfl,oX,gX⟩)
 ·refine brE (Uq (by show ((l.length:Nat):Int)<=(l.length:Int);omega)) (cmo (zhG ho fx fL hT htg hco h48 hn hn1) ?_);rintro e X ⟨rfl,oX,gX⟩;refine⟨40,by rw [hn20];rfl,?_⟩;exact⟨false,(cvE rfl rfl),.inr ⟨rfl,oX,gX⟩,by decide⟩
 ·refine brN (Uf (by show ¬ ((40:Nat):Int)<=(l.length:Int);omega)) (cmo (zmb (m:=l.length) (by omega)) ?_);rintro e _ ⟨rfl,rfl⟩;refine⟨Unit,fun _=>⟨[(1,i64 l.length),(6,i64 20)],[]⟩,fun _ Y=>X=Y,fun _=>0,(),(cvE rfl rfl),rfl,?_⟩;rintro _ _ rfl;exact brN (Uf (by omega)) ⟨rfl,oX,gX⟩
theorem zil {B:Nat} (ho:OwnS zA 3 B w (some ⟨g,0,none⟩) cap l) (fx:ExH w b x q c) (fL:w.heap[L]?=some (.cells #[At0 b] 81 (0,0))) (hT:Tz64M w) (htg:1≠g) (hco:zG x.co.to) (h48:∀ a∈l,a<48) (hn:l.length<=20) (hn1:1<=l.length) :
  Calls PG 83 #[.slice (some ⟨g,0,none⟩) l.length cap,.func (.func 84) #[] #[At0 L]] w fun e w'=>e = .returned (.tuple #[])/\OwnS zA 3 B w' (some ⟨g,0,none⟩) cap (zdm (zbU x) l)/\w.grownBy w' (some g):=by
 refine zI 9 [.slice (some ⟨g,0,none⟩) l.length cap,.func (.func 84) #[] #[At0 L]] Tryz.func83 ?_;refine cmo (znY ho fx fL hT htg hco h48 hn hn1) ?_;rintro e X ⟨rfl,h1,h2⟩;exact⟨rfl,h1,h2⟩
theorem zot {l:List Nat} (h:0<l.length):l.headD 48=l[0]:=by
 cases l with
 | nil=>simp at h
 | cons a r=>rfl
theorem zoS {k a:Nat} (h:a∈zT x k):a<x.ev.length:=by
 unfold zT at h;exact Um.1 (QR.1 h).1
theorem zmV {k a:Nat} (h:a∈zO x k):a<x.ev.length:=zoS (zfx.1 h)
theorem ztH (q:OA) (c:Nat):((exC x q c).drop 99).take 49=zf x.co:=by
 obtain⟨A,T,hA,hE⟩:=zmi x q c;show ((exC { x with co:=x.co } q c).drop 99).take 49=_;rw [hE,<- hA,Uj,Jg (by rw [zh];decide),JF (by rw [zh];decide)]
theorem zr0 (q:OA) (c:Nat):((exC x q c).drop 327).take 6=seg 6 fun i=>u8 (x.mem i):=by
 obtain⟨A,T,hA,hE⟩:=zp8 x q c [];have:=hE x.mem;rw [QI] at this;show ((exC { x with mem:=x.mem } q c).drop 327).take 6=_;rw [this,<- hA,Uj,Jg (by rw [zE];decide),JF (by rw [zE];decide)]
abbrev zqV (X:Wd) (b:Nat) (f:Nat->UInt8):Prop:=X.heap[b]?=some (.cells (seg 6 fun i=>u8 (f i)).toArray 42 (0,0))
theorem zoB {locs:Nat} (fx:ExH w b x q c) (hv:ExW w x q) (hlo:locs<=6) (hne:∀ l,l<locs->zT x l≠[]) (hT:Tz64M w) :
  CB 45 #[At0 b,i64 locs] w (.bool (j8 x locs)):=by
 refine qA 87 [At0 b,i64 locs] (.c .p (.c .p (.c .p (.c .p .p)))) Tryz.func45 ?_;obtain⟨L,hL⟩:=nm (w.heap.size);have hbw:=hlt fx;have hn:=hv.n;have htl:=zaX hT;refine⟨Unit,fun _=>⟨[(1,i64 locs),(2,At0 L)],[]⟩,fun _ X=>X.heap[L]?=some (.cells #[At0 b] 81 (0,0))/\X.heap.size=L+1/\Bw w X,⟨(),⟨.cons rfl (.cons (by rw [hL];rfl) .nil),rfl⟩,by rw [hL];exact zw w _,by rw [hL];exact wz _ _,(zba w _)⟩,?_⟩;rintro _ X ⟨fL,sX,hbX⟩;refine⟨Unit,fun _=>⟨[(1,i64 locs),(2,At0 L),(5,At0 (L+1))],[]⟩,fun _ Y=>z6 Y (L+1) ⟨x.ev.length,fun _=>0⟩/\Y.heap.size=L+2/\Bw X Y,?_,?_⟩
 ·refine⟨_,zc (za fL) (i:=0) rfl,_,zc (za (zb hbX fx)) (i:=0) rfl,zf ⟨x.ev.length,fun _=>0⟩,by kernel_rfl,?_⟩;refine zq (X:=X) (v := .agg (zf ⟨x.ev.length,fun _=>0⟩).toArray) k39 (zh _) (by kernel_rfl) (zD _) fun Z hbZ fZ sZ=>?_;rw [sX] at fZ sZ;exact⟨(),⟨.cons rfl (.cons rfl (.cons (by rw [<- sX];rfl) .nil)),rfl⟩,fZ,sZ,hbZ⟩
 rintro _ Y ⟨fT,sY,hbY⟩;refine⟨Unit,fun _=>⟨[(1,i64 locs),(2,At0 L),(5,At0 (L+1)),(6,At0 (L+2))],[]⟩,fun _ Z=>zqV Z (L+2) (fun _=>0)/\z6 Z (L+1) ⟨x.ev.length,fun _=>0⟩/\Z.heap[L]?=some (.cells #[At0 b] 81 (0,0))/\Z.heap.size=L+3/\Bw w Z,?_,?_⟩
 ·exact⟨(),⟨.cons rfl (.cons rfl (.cons rfl (.cons (by rw [<- sY];rfl) .nil))),rfl⟩,by rw [<- sY];exact zw Y _,qM _ fT,qM _ (zb hbY fL),by rw [wz,sY],((zst hbX hbY)).alloc (by have:=hbX.size;have:=hbY.size;omega) _⟩
 clear fL sX hbX fT sY hbY;clear X Y;rintro _ X ⟨fM,fT,fL,sX,hbX⟩;obtain⟨P0,hP0⟩:∃ P0:RelD×(Nat->UInt8),P0=(⟨x.ev.length,fun _=>0⟩,fun _=>0):=⟨_,rfl⟩;have hco:j8 x locs=match zfm x locs 0 P0 with
  | none=>false
  | some p=>qP p.1 x.co&&(List.range 6).all fun l=>decide (p.2 l=x.mem l):=by rw [hP0];rfl
 refine⟨RelD×(Nat->UInt8),fun P=>⟨[(2,At0 L),(5,At0 (L+1)),(6,At0 (L+2))],[]⟩,fun P Z=>zfm x locs 0 P0=some P/\zqV Z (L+2) P.2/\z6 Z (L+1) P.1/\Z.heap[L]?=some (.cells #[At0 b] 81 (0,0))/\Bw w Z,?_,?_⟩
 ·refine⟨Nat×(RelD×(Nat->UInt8)),fun s=>⟨[(2,At0 L),(5,At0 (L+1)),(6,At0 (L+2)),(17,i64 locs),(18,i64 (s.1:Nat))],[]⟩,fun s Z=>s.1<=locs/\zfm x (locs-s.1) s.1 s.2=zfm x locs 0 P0/\zG s.2.1.to/\zqV Z (L+2) s.2.2/\z6 Z (L+1) s.2.1/\Z.heap[L]?=some (.cells #[At0 b] 81 (0,0))/\Bw w Z/\L+3<=Z.heap.size,fun s=>locs-s.1,(0,P0),
   (cvE rfl rfl),⟨UY _,rfl,by rw [hP0];exact fun i _=>(by show 0<_;decide),by rw [hP0];exact fM,by rw [hP0];exact fT,fL,hbX,by omega⟩,?_⟩
  clear fM fT fL sX hbX;rintro⟨l,P⟩ Z ⟨hl,hgo,hPw,fM,fT,fL,hbZ,sZ⟩;dsimp only at hl hgo hPw fM fT sZ ⊢;refine biE (fun hc=>?_) fun hc=>?_
  ·have hc:(l:Int)<(locs:Int):=dT hc;have hll:l<locs:=by omega
   have hstep:zfm x (locs-l) l P=if (zO x l).headD 48=l then zfm x (locs-(l+1)) (l+1) (j9 (zO x l) P.1,upd P.2 l (zcb x.ev (zO x l))) else none:=by
    rw [show locs-l=(locs-(l+1))+1 by omega];rfl
   refine⟨_,zc (za fL) (i:=0) rfl,_,zc (za (zb hbZ fx)) (i:=0) rfl,?_⟩;obtain⟨pr,hpr⟩:∃ pr:Nat->Bool,pr=fun i=>decide ((evA x i).k=2)&&decide ((evA x i).l.toNat=l):=⟨_,rfl⟩;refine⟨Nat×OA×Nat,fun s=>⟨[(2,At0 L),(5,At0 (L+1)),(6,At0 (L+2)),(7,i64 (l:Nat)),(8,.slice s.2.1 ((List.range s.1).filter pr).length s.2.2),(17,i64 locs),(18,i64 (l:Nat)),(24,.slice q x.ev.length c),(25,i64 x.ev.length),(26,i64 (s.1:Nat))],[]⟩,fun s V=>s.1<=x.ev.length/\OwnS zA 3 Z.heap.size V s.2.1 s.2.2 ((List.range s.1).filter pr)/\Bw Z V,fun s=>x.ev.length-s.1,(0,none,0),
    (cvE rfl rfl),⟨UY _,OwnS.nil,Ga _ _⟩,?_⟩
   rintro⟨k,ps,cs⟩ V ⟨hk,oV,hbV⟩;dsimp only at hk oV ⊢;have hVs:=hbV.size;refine biE (fun hc=>?_) fun hc=>?_
   ·have hc:(k:Int)<(x.ev.length:Int):=dT hc;have hkl:k<x.ev.length:=(by omega);have hbwV:=zst hbZ hbV;obtain⟨bq,oq,hqe,hb,hat⟩:=zcp (hv.ev.below hbwV) hkl;rw [zeD] at hat;have hfl:(List.range (k+1)).filter pr=(List.range k).filter pr++if pr k=true then [k] else []:=by
     rw [QU,Kv,Qm,List.filter_nil]
    have hprk:pr k=(decide ((evA x k).k=2)&&decide ((evA x k).l.toNat=l)):=(by rw [hpr]);have hll2:((List.range k).filter pr).length<=k:=by
     have:=JL pr (List.range k);rw [KU] at this;exact this
    obtain⟨e,he⟩:=nm (evA x k);rw [<- he] at hat hprk;have eq0:some (Value.slice q x.ev.length c)=some (Value.slice (some ⟨bq,oq,none⟩) x.ev.length c):=(by rw [hqe]);subst hqe;refine⟨k,rfl,hkl,evE.enc e,rfl,hat,hb,zq (X:=V) (v := .agg (evE.enc e).toArray) k49 rfl rfl (Qi.2 fun u hu=>evE.one e u hu) fun U hbU fU sU=>?_⟩;have fU:U.heap[V.heap.size]?=some (.cells (evE.enc e).toArray 49 (0,0)):=fU;have oU:=oV.below hbU;have hbU2:=hbV.trans (hbU.mono hVs);have hUs:=hbU2.size;have skip:pr k=false->(k+1<=x.ev.length/\OwnS zA 3 Z.heap.size U ps cs ((List.range (k+1)).filter pr)/\Bw Z U):=fun h=>⟨hkl,by rw [hfl,h];simpa using oU,hbU2⟩;have skipE:pr k=false->((List.range (k+1)).filter pr).length=((List.range k).filter pr).length:=fun h=>by rw [hfl,h];simp
    refine⟨u8 e.k,zc (za fU) (i:=1) rfl,biE (fun h1=>?_) fun h1=>?_⟩
    ·have h1:e.k=2:=qu.1 (dT h1);refine⟨u8 e.l,zc (za fU) (i:=2) rfl,(e.l.toNat:Int),q8 _,biE (fun h2=>?_) fun h2=>?_⟩
     ·have h2:(e.l.toNat:Int)=(l:Int):=dT h2;have hp1:pr k=true:=(by rw [hprk,Uq h1,Uq (by omega:e.l.toNat=l)];rfl);rw [Gn hp1] at hfl;refine⟨⟨by decide,by decide,rfl⟩,zA.enc k,rfl,?_⟩;have hb2:Bw U (U.alloc (.cells (zA.enc k).toArray 3)):=zba _ _;have sb2:=hb2.size;unfold zed zaB;show SatR _ _;refine zmx (oU.below hb2) (qN zA k) (by omega) (by omega) fun p' c' S oS gS hat2=>?_;rw [zat] at gS;rw [<- hfl] at oS ⊢;exact nxI (by omega) ⟨(k+1,p',c'),(cvE rfl rfl),⟨hkl,oS,hbU2.trans ((hb2.mono hUs).trans (qS (oU.below hb2) (by omega) (UV _) gS))⟩,zdc (by omega)⟩
     ·have h2:¬ (e.l.toNat:Int)=(l:Int):=dF h2;have hp0:pr k=false:=(by rw [hprk,Uf (by omega:¬ e.l.toNat=l),Ug]);exact nxI (by omega) ⟨(k+1,ps,cs),⟨.cons rfl (.cons rfl (.cons rfl (.cons rfl (.cons (by show _=some (Value.slice ps ((List.range (k+1)).filter pr).length cs);rw [skipE hp0];rfl) (.cons rfl (.cons rfl (.cons rfl (.cons rfl (.cons rfl .nil))))))))),rfl⟩,skip hp0,zdc (by omega)⟩
    ·have h1:¬ e.k=2:=fun e2=>(dF h1) (by rw [e2];rfl);have hp0:pr k=false:=(by rw [hprk,Uf h1];rfl);exact brF (nxI (by omega) ⟨(k+1,ps,cs),⟨.cons rfl (.cons rfl (.cons rfl (.cons rfl (.cons (by show _=some (Value.slice ps ((List.range (k+1)).filter pr).length cs);rw [skipE hp0];rfl) (.cons rfl (.cons rfl (.cons rfl (.cons rfl (.cons rfl .nil))))))))),rfl⟩,skip hp0,zdc (by omega)⟩)
   have hc:¬ (k:Int)<(x.ev.length:Int):=dF hc;obtain rfl:k=x.ev.length:=by omega
   have hwr:(List.range x.ev.length).filter pr=zT x l:=by rw [hpr];rfl
   rw [hwr] at oV ⊢;have hwn:=hne l hll;have hw1:1<=(zT x l).length:=List.length_pos_iff.2 hwn;have hw19:(zT x l).length<=20:=hv.w20 l;have hps:∃ g,ps=some ⟨g,0,none⟩:=by
    rcases oV.inv with ⟨_,_,h⟩ | ⟨g,cur,h,_⟩
    ·exact (hwn h).elim
    ·exact⟨g,h⟩
   obtain⟨g,rfl⟩:=hps;have hg:=(zx oV rfl).1;have hg:Z.heap.size<=g:=hg;have hbwV:=zst hbZ hbV;have hZw:=hbZ.size;refine cmo (zil oV (zb hbwV fx) (zb hbV fL) (hT.below hbwV) (by omega) hv.co (fun a ha=>by have:=zoS ha;omega) hw19 hw1) ?_;rintro e U ⟨rfl,oU,gU⟩;have oU:OwnS zA 3 Z.heap.size U (some ⟨g,0,none⟩) cs (zO x l):=oU;have hrl:(zO x l).length=(zT x l).length:=zn0 _;have hbU:Bw Z U:=hbV.trans (zk gU hVs hg);have hbwU:=hbZ.trans (hbU.mono hZw);have hU0:0<(zO x l).length:=by omega
   obtain⟨bq,oq,hqe,hbq,hatq⟩:=oU.row.at hU0;have hbo:bq=g/\oq=0:=by simpa using hqe.symm
   obtain⟨rfl,rfl⟩:=hbo;rw [<- hrl];have hh:(zO x l).headD 48=(zO x l)[0]:=zot hU0;refine⟨0,rfl,hU0,i64 (zO x l)[0],by have:=zc (hatq 0 hU0) (i:=0) (v:=i64 (zO x l)[0]) rfl;exact this,biE (fun h=>?_) fun h=>?_⟩
   ·have h:(!decide (((zO x l)[0]:Int)=(l:Int)))=true:=h;have h:¬ ((zO x l)[0]:Int)=(l:Int):=(by simpa using h);rw [hstep,Gm (by rw [hh];omega)] at hgo;refine⟨rb ?_,hbwU⟩;rw [hco,<- hgo]
   have h:(!decide (((zO x l)[0]:Int)=(l:Int)))=false:=h;have h:((zO x l)[0]:Int)=(l:Int):=by simpa using h
   rw [hstep,Gn (by rw [hh];omega)] at hgo;have fTU:=zb hbU fT;have hRT:RelAt U (L+1) 0 39 [] [] P.1:=⟨rfl,by simpa using fTU⟩;have hrk48:∀ a∈zO x l,a<48:=fun a ha=>by have:=zmV ha;omega
   have hLZ:=hlt fT;have hL2Z:=hlt fM;refine cmo (zpO hRT hPw oU.row (fun a ha=>by cases ha;exact⟨hbq,by show bq≠L+1;omega⟩) (by omega) hrk48) ?_;rintro e S ⟨rfl,hRS,gS⟩;have fTS:z6 S (L+1) (j9 (zO x l) P.1):=by simpa using hRS.cells
   have hbS:Bw w S:=hbwU.trans (zk gS hbwU.size (by omega));have fMS:=(gS.block (L+2) (hlt (zb hbU fM)) (by simp)).trans (zb hbU fM);have fLS:=(gS.block L (hlt (zb hbU fL)) (by simp)).trans (zb hbU fL);have oS:=qz oU fTU (by decide) gS;obtain⟨j,hj⟩:∃ j,j+1=(zO x l).length:=⟨(zO x l).length-1,by omega⟩;have hjl:j<(zO x l).length:=by omega
   obtain⟨b6,o6,hp6,hl6,hat6⟩:=oS.row.at hjl;have hbo6:b6=bq/\o6=0:=by simpa using hp6.symm
   obtain⟨rfl,rfl⟩:=hbo6;obtain⟨t,ht⟩:∃ t,(zO x l)[j]=t:=⟨_,rfl⟩;have htev:t<x.ev.length:=zmV (by rw [<- ht];exact gM hjl);have hlast:(zO x l).getLastD 0=t:=by
    rw [List.getLastD_eq_getLast?,List.getLast?_eq_getElem?,show (zO x l).length-1=j by omega,gE hjl,ht];rfl
   obtain⟨b7,o7,hp7,hl7,hat7⟩:=zcp (hv.ev.below hbS) htev;rw [zeD] at hat7;have hlV:zcb x.ev (zO x l)=(evA x t).v:=by
    show (x.ev.getD ((zO x l).getLastD 0) ev0).v=_;rw [hlast];rfl
   have dS:Bw S S.drew:=(Ga _ _).drew;refine DrawE.ord [15] [0,1,2,3,4,5,6,7,8,9,10,11,12,13,14,15] (by kernel_rfl) ⟨_,zc (za (hdr fLS)) (i:=0) rfl,_,zc (za (hdr (zb hbS fx))) (i:=0) rfl,(j:Nat),(ze (by omega)).trans (by omega),j,rfl,hjl,i64 t,by have:=zc (zr dS (hat6 j hjl)) (i:=0) (v:=i64 t) (by rw [ht];rfl);exact this,?_⟩;rw [hp7];refine⟨t,rfl,htev,u8 (evA x t).v,by have:=zc (zr dS hat7) (i:=3) (v:=u8 (evA x t).v) rfl;exact this,l,rfl,by omega,?_⟩;refine zm k5 (hdr fMS) (o:=0+l*1) (v:=u8 (evA x t).v) rfl rfl (by rw [zE];omega) rfl fun T fT2 gT sT=>?_;have gT2:S.grownBy T (some (L+2)):=zd (zi dS) gT;have e8:=zjn (n:=6) (fun i=>u8 (P.2 i)) (fun i=>u8 (upd P.2 l (evA x t).v i)) (i:=l) (by omega) rfl (fun j hj=>by rw [qr _ _ hj]);rw [zP] at e8;rw [UW,UQ,e8] at fT2;exact nxI (by omega) ⟨(l+1,(j9 (zO x l) P.1,upd P.2 l (evA x t).v)),(cvE rfl rfl),⟨hll,by rw [<- hlV];exact hgo,ziQ hPw hrk48,fT2,(gT2.block (L+1) (hlt fTS) (by simp)).trans fTS,(gT2.block L (hlt fLS) (by simp)).trans fLS,hbS.trans (zk gT2 hbS.size (by omega)),by have:=gT2.size;have:=gS.size;have:=hbU.size;omega⟩,zdc (by omega)⟩
  ·have hc:¬ (l:Int)<(locs:Int):=dF hc;obtain rfl:l=locs:=by omega
   rw [UN] at hgo;exact⟨P,(cvE rfl rfl),hgo.symm,fM,fT,fL,hbZ⟩
 rintro P Z ⟨hgo,fM,fT,fL,hbZ⟩;have hco2:j8 x locs=(qP P.1 x.co&&(List.range 6).all fun l=>decide (P.2 l=x.mem l)):=by rw [hco,hgo]
 refine DrawE.ord [] [0,1,2,3,4,5,6,7,8,9,10,11,12,13,14,15] (by kernel_rfl) ?_;have dZ:Bw Z Z.drew:=(Ga _ _).drew;refine⟨zf P.1,zh _,za (hdr fT),hlt (hdr fT),_,zc (za (hdr fL)) (i:=0) rfl,?_⟩;have fxZ:=hdr (zb hbZ fx);refine⟨zf x.co,zh _,by have h:=zR (n:=99) (m:=49) (za fxZ);rw [show (exC x q c).toArray.toList=exC x q c from rfl,ztH] at h;exact h,hlt fxZ,_,fun w=>znu _ _ P.1 x.co w,?_⟩;have fin:Bw w Z.drew:=zst hbZ dZ;refine biE (fun h=>?_) fun h=>?_
 ·have h:qP P.1 x.co=true:=h;exact⟨seg 6 (fun i=>u8 (P.2 i)),zE _ _,za (hdr fM),hlt (hdr fM),_,zc (za (hdr fL)) (i:=0) rfl,seg 6 (fun i=>u8 (x.mem i)),zE _ _,by have h:=zR (n:=327) (m:=6) (za fxZ);rw [show (exC x q c).toArray.toList=exC x q c from rfl,zr0] at h;exact h,hlt fxZ,_,fun w=>zqd _ _ P.2 x.mem w,rb (by rw [hco2,h,Uw]),fin⟩
 ·have h:qP P.1 x.co=false:=h;exact⟨rb (by rw [hco2,h,Uh]),fin⟩
end
section
variable {b c:Nat} {x:ExD} {q:OA} {w:Wd}
theorem zjs {X:Wd} {o:Nat} {A T:List Value} {r:RelD} (fx:ExH X b x q c) (hA:A.length=o) (hE:exC x q c=A++(zf r++T)) {i:Nat} (hi:i<48):X.cell? ⟨b,o+1+i*1,none⟩=some (s64 (r.to i)):=by
 have hR:RelAt X b o 46 A T r:=⟨hA,by rw [<- hE];exact fx⟩;exact hR.cell hi
theorem zth {X:Wd} (fx:ExH X b x q c) {i:Nat} (hi:i<48):X.cell? ⟨b,0+1+1+i*1,none⟩=some (s64 (x.po.to i)):=by
 obtain⟨A,T,hA,hE⟩:=zno x q c [];exact zjs fx hA (by rw [<- hE,QI]) hi
theorem ztL {X:Wd} (fx:ExH X b x q c) {i:Nat} (hi:i<48):X.cell? ⟨b,0+148+1+i*1,none⟩=some (s64 (x.dt.to i)):=by
 obtain⟨A,T,hA,hE⟩:=znp x q c [];exact zjs fx hA (by rw [<- hE,QI]) hi
theorem ztV {X:Wd} (fx:ExH X b x q c) {i:Nat} (hi:i<48):X.cell? ⟨b,0+197+1+i*1,none⟩=some (s64 (x.ct.to i)):=by
 obtain⟨A,T,hA,hE⟩:=znq x q c [];exact zjs fx hA (by rw [<- hE,QI]) hi
theorem zs9 {X:Wd} (fx:ExH X b x q c) {i:Nat} (hi:i<48):X.cell? ⟨b,0+246+1+i*1,none⟩=some (s64 (x.rm.to i)):=by
 obtain⟨A,T,hA,hE⟩:=znm x q c [];exact zjs fx hA (by rw [<- hE,QI]) hi
theorem n64 {a b:Nat} (h:(!decide ((a:Int)=(b:Int)))=true):¬ a=b:=fun e=>by
 rw [e] at h;simp at h
theorem y64 {a b:Nat} (h:(!decide ((a:Int)=(b:Int)))=false):a=b:=by
 have h:(a:Int)=(b:Int):=by simpa using h
 exact Ux h
theorem n8 {a d:UInt8} (h:(!decide ((a.toNat:Int)=(d.toNat:Int)))=true):¬ a=d:=fun e2=>by
 rw [e2] at h;simp at h
theorem y8 {a d:UInt8} (h:(!decide ((a.toNat:Int)=(d.toNat:Int)))=false):a=d:=qu.1 (by simpa using h)
def wrG (x:ExD) (k:Nat):Nat:=(List.range k).foldl (fun s i=>if (evA x i).k=2 then s|||2^i else s) 0
theorem zj9 (x:ExD) (k:Nat):wrG x (k+1)=if (evA x k).k=2 then wrG x k|||2^k else wrG x k:=by
 unfold wrG;rw [QU,KS];rfl
theorem zjf (x:ExD):∀ k,k<=64->wrG x k<2^64
 | 0,_=>by show 0<_;decide
 | k+1,h=>by
  rw [zj9]
  split
  ·exact KX (zjf x k (by omega)) (z7 (by omega))
  ·exact zjf x k (by omega)
theorem zml (fx:ExH w b x q c) (hv:ExW w x q) (hrn:x.rm.n=x.ev.length) (hok:okR x.rm=true) (hT:Tz64M w) :
  CB 46 #[At0 b] w (.bool (zaE x)):=by
 refine qA 130 [At0 b] (.s .p (.s .p (.c .p .p))) Tryz.func46 ?_;have hn:=hv.n;obtain⟨W,hW⟩:=nm (zaW x);have hWG:W=wrG x x.ev.length:=by rw [hW];rfl
 have hW64:W<2^64:=by rw [hWG];exact zjf x _ (by omega)
 refine⟨Unit,fun _=>⟨[(0,At0 b),(3,s64 W),(4,s64 0)],[]⟩,fun _ X=>Bw w X,?_,?_⟩
 ·refine⟨_,zc (za fx) (i:=0) rfl,?_⟩;refine⟨Nat,fun k=>⟨[(0,At0 b),(3,s64 (wrG x k)),(4,s64 0),(17,.slice q x.ev.length c),(18,i64 x.ev.length),(19,i64 (k:Nat))],[]⟩,fun k X=>k<=x.ev.length/\Bw w X,fun k=>x.ev.length-k,0,
   (cvE rfl rfl),⟨UY _,Ga _ _⟩,?_⟩
  rintro k X ⟨hk,hbX⟩;dsimp only;refine biE (fun hc=>?_) fun hc=>?_
  ·have hc:(k:Int)<(x.ev.length:Int):=dT hc;have hkl:k<x.ev.length:=by omega
   obtain⟨bq,oq,hqe,hb,hat⟩:=zcp (hv.ev.below hbX) hkl;rw [zeD] at hat;obtain⟨e,he⟩:=nm (evA x k);have hs:=zj9 x k;rw [<- he] at hat hs;subst hqe;refine⟨k,rfl,hkl,evE.enc e,rfl,hat,hb,zq (X:=X) (v := .agg (evE.enc e).toArray) k49 rfl rfl (Qi.2 fun u hu=>evE.one e u hu) fun Y hbY fY sY=>?_⟩;have fY:Y.heap[X.heap.size]?=some (.cells (evE.enc e).toArray 49 (0,0)):=fY;have hbY2:=zst hbX hbY;refine⟨u8 e.k,zc (za fY) (i:=1) rfl,biE (fun h=>?_) fun h=>?_⟩
   ·have h:e.k=2:=qu.1 (dT h);rw [Gn h] at hs;exact⟨by omega,((2^k:Nat):Int),j5 (e:=k) (by omega),((wrG x k|||2^k:Nat):Int),zak (zjf x k (by omega)) (z7 (by omega)),nxI (by omega) ⟨k+1,⟨.cons rfl (.cons (by show _=some (s64 (wrG x (k+1)));rw [hs];rfl) (.cons rfl (.cons rfl (.cons rfl (.cons rfl .nil))))),rfl⟩,⟨hkl,hbY2⟩,zdc (by omega)⟩⟩
   ·have h:¬ e.k=2:=fun e2=>(dF h) (by rw [e2];rfl);rw [Gm h] at hs;exact nxI (by omega) ⟨k+1,⟨.cons rfl (.cons (by show _=some (s64 (wrG x (k+1)));rw [hs];rfl) (.cons rfl (.cons rfl (.cons rfl (.cons rfl .nil))))),rfl⟩,⟨hkl,hbY2⟩,zdc (by omega)⟩
  ·have hc:¬ (k:Int)<(x.ev.length:Int):=dF hc;obtain rfl:k=x.ev.length:=by omega
   exact⟨(),⟨.cons rfl (.cons (by show _=some (s64 W);rw [hWG];rfl) (.cons rfl .nil)),rfl⟩,hbX⟩
 rintro _ X hbX;refine⟨_,zc (za (zb hbX fx)) (i:=0) rfl,?_⟩;have hdep:zaE x=zcG x W 0 x.ev 0:=by rw [hW];rfl
 refine⟨Nat×Nat,fun s=>⟨[(0,At0 b),(3,s64 W),(4,s64 s.2),(35,.slice q x.ev.length c),(36,i64 x.ev.length),(37,i64 (s.1:Nat))],[]⟩,fun s X=>s.1<=x.ev.length/\zcG x W s.1 (x.ev.drop s.1) s.2=zaE x/\s.2<2^64/\Bw w X,fun s=>x.ev.length-s.1,(0,0),
  (cvE rfl rfl),⟨UY _,hdep.symm,by decide,hbX⟩,?_⟩
 clear hbX;rintro⟨k,h⟩ X ⟨hk,hgo,hh,hbX⟩;dsimp only at hk hgo hh ⊢;refine biE (fun hc=>?_) fun hc=>?_
 ·have hc:(k:Int)<(x.ev.length:Int):=dT hc;have hkl:k<x.ev.length:=by omega
  have hk48:k<48:=by omega
  obtain⟨bq,oq,hqe,hb,hat⟩:=zcp (hv.ev.below hbX) hkl;rw [zeD] at hat;obtain⟨e,he⟩:=nm (evA x k);rw [<- he] at hat;have hdrp:x.ev.drop k=e::x.ev.drop (k+1):=by
   rw [<- JE hkl,he];unfold evA;rw [gDe,gE hkl];rfl
  rw [hdrp] at hgo;unfold zcG at hgo;obtain⟨d,hd⟩:=nm (x.dt.to k);obtain⟨t,ht⟩:=nm (x.ct.to k);obtain⟨r,hr⟩:=nm (x.rm.to k);obtain⟨po,hpo⟩:=nm (x.po.to k);dsimp only at hgo;rw [<- hd,<- ht,<- hr,<- hpo] at hgo;have d64:d<2^64:=by rw [hd];exact hv.dt k hk48
  have t64:t<2^64:=by rw [ht];exact hv.ct k hk48
  have r64:r<2^64:=by rw [hr];exact hv.rm k hk48
  have p64:po<2^64:=by rw [hpo];exact hv.po k hk48
  have dt64:=KX d64 t64;have dtr64:=KX dt64 r64;have dr64:=KX d64 r64;subst hqe;refine⟨k,rfl,hkl,evE.enc e,rfl,hat,hb,zq (X:=X) (v := .agg (evE.enc e).toArray) k49 rfl rfl (Qi.2 fun u hu=>evE.one e u hu) fun Y hbY fY sY=>?_⟩;have fY:Y.heap[X.heap.size]?=some (.cells (evE.enc e).toArray 49 (0,0)):=fY;have hbY2:=zst hbX hbY;have dY:Bw Y Y.drew:=(Ga _ _).drew;have fxY:=hdr (zb hbY2 fx);have fYd:=hdr fY;have hbD:=zst hbY2 dY;have no:∀ {Z:Wd},Bw w Z->zaE x=false->(Ending.returned (.bool false)=Ending.returned (.bool (zaE x))/\Bw w Z):=fun {Z} hb h=>⟨rb h.symm,hb⟩;refine DrawE.ord [] [0,1,2,3,4,5,6,7,8,9,10,11,12,13,14,15,16,17,18,19,20,21,22,23] (by kernel_rfl) ⟨k,rfl,hk48,s64 d,by rw [hd];exact ztL fxY hk48,?_⟩;refine⟨k,rfl,hk48,s64 t,by rw [ht];exact ztV fxY hk48,?_⟩;refine⟨k,rfl,hk48,s64 r,by rw [hr];exact zs9 fxY hk48,?_⟩;refine⟨_,zak d64 t64,_,zak dt64 r64,biE (fun h1=>?_) fun h1=>?_⟩
  ·have h1:d|||t|||r=0:=Ux (dT h1);rw [Gn h1] at hgo;exact nxI (by omega) ⟨(k+1,h),(cvE rfl rfl),⟨hkl,hgo,hh,hbD⟩,zdc (by omega)⟩
  have h1:¬ d|||t|||r=0:=fun e2=>(dF h1) (by rw [e2];rfl);rw [Gm h1] at hgo;refine⟨u8 e.k,zc (za fYd) (i:=1) rfl,biE (fun h2=>?_) fun h2=>?_⟩
  ·have h2:¬ e.k=1:=n8 (d:=1) h2;rw [Gm fun h=>h2 h.1] at hgo;exact brT (brT (no hbD hgo.symm))
  have h2:e.k=1:=y8 (d:=1) h2;refine⟨_,zak d64 r64,_,zct dr64 hW64,biE (fun h3=>?_) fun h3=>?_⟩
  ·have h3:¬ qT (d|||r) W=0:=n64 (b:=0) h3;rw [Gm fun h=>h3 h.2.1] at hgo;exact brT (no hbD hgo.symm)
  have h3:qT (d|||r) W=0:=y64 (b:=0) h3;refine⟨_,zak d64 t64,_,zak dt64 r64,k,rfl,hk48,s64 po,by rw [hpo];exact zth fxY hk48,?_⟩;refine⟨_,zct dtr64 p64,biE (fun h4=>?_) fun h4=>?_⟩
  ·have h4:¬ qT (d|||t|||r) po=0:=n64 (b:=0) h4;rw [Gm fun h=>h4 h.2.2] at hgo;exact no hbD hgo.symm
  have h4:qT (d|||t|||r) po=0:=y64 (b:=0) h4;rw [Gn ⟨h2,h3,h4⟩] at hgo;refine cmo (za5 r64 (hT.below hbD)) ?_;rintro e2 Z ⟨rfl,hbZ⟩;have hbZ2:=zst hbD hbZ;by_cases hr0:r=0
  ·have e1:(els r).isEmpty=true:=by rw [hr0];rfl
   rw [e1];rw [Gn hr0] at hgo;exact brF (nxI (by omega) ⟨(k+1,h),(cvE rfl rfl),⟨hkl,hgo,hh,hbZ2⟩,zdc (by omega)⟩)
  rw [Gm hr0] at hgo;obtain⟨hhd,hem⟩:=zbV hr0 r64;rw [hhd,hem];have hmem:=zgK hr0 r64;have hbit:r.testBit (ctz r)=true:=(qW.1 hmem).2;have hvl:ctz r<x.ev.length:=by
   have:=(zjE hok hv.rm hk48 (by rw [<- hr];exact hbit)).1;rw [hrn] at this;omega
  obtain⟨v,hvd⟩:=nm (ctz r);rw [<- hvd] at hvl hgo ⊢;refine brT ?_;have fZ:=zb hbZ fYd;have dZ:Bw Z Z.drew:=(Ga _ _).drew;have hbZ3:=zst hbZ2 dZ;refine DrawE.ord [] [0,1,2,3,4,5,6,7,8,9,10,11,12,13,14,15,16,17,18,19,20,21,22,23] (by kernel_rfl) ⟨by omega,((2^v:Nat):Int),j5 (e:=v) (by omega),biE (fun h5=>?_) fun h5=>?_⟩
  ·have h5:¬ r=2^v:=n64 h5;rw [Gm fun h=>h5 h.1] at hgo;exact brT (brT (no hbZ3 hgo.symm))
  have h5:r=2^v:=y64 h5;refine⟨by omega,_,zeM (a:=h) (k:=v) (by omega),_,jO (a:=h/2^v) (b:=1) (KE (Nat.div_le_self _ _) hh) (by decide),?_⟩;rw [zjW]
  cases hb5:h.testBit v with
  | true =>
   rw [Gm fun h=>(by rw [hb5] at h;cases h.2.1)] at hgo;exact brT (brT (no hbZ3 hgo.symm))
  | false =>
   refine brF ?_;obtain⟨bq2,oq2,hqe2,hb2,hat2⟩:=zcp (hv.ev.below hbZ3) hvl;rw [zeD] at hat2;obtain⟨f,hf⟩:=nm (evA x v);rw [<- hf] at hat2 hgo;refine⟨_,zc (za (zb hbZ3 fx)) (i:=0) rfl,v,rfl,hvl,?_⟩;simp only [KY,Us,Gh] at hqe2;rw [<- hqe2.1,<- hqe2.2] at hat2;refine⟨u8 f.l,by have:=zc hat2 (i:=2) (v:=u8 f.l) rfl;exact this,u8 e.l,zc (za (hdr fZ)) (i:=2) rfl,biE (fun h6=>?_) fun h6=>?_⟩
   ·have h6:¬ f.l=e.l:=n8 h6;rw [Gm fun h=>h6 h.2.2] at hgo;exact no hbZ3 hgo.symm
   have h6:f.l=e.l:=y8 h6;rw [Gn ⟨h5,hb5,h6⟩] at hgo;exact⟨_,zak hh r64,nxI (by omega) ⟨(k+1,h|||r),(cvE rfl rfl),⟨hkl,hgo,KX hh r64,hbZ3⟩,zdc (by omega)⟩⟩
 ·have hc:¬ (k:Int)<(x.ev.length:Int):=dF hc;obtain rfl:k=x.ev.length:=by omega
  rw [Ql] at hgo;exact⟨rb hgo,hbX⟩
end
theorem zlb {locs:Nat}:∀ (ev:List Ev) (i:Nat) (t:Int) (n:Nat),zbY locs i ev t n=true->∀ j,i+j<locs->j<ev.length->∃ v,ev.getD j ev0=⟨-1,2,UInt8.ofNat (i+j),v,0,0,0⟩
 | [],_,_,_,_,_,_,h=>by simp at h
 | e::ev,i,t,n,h,j,hj,hl=>by
  unfold zbY at h;rw [Gn (by omega:i<locs)] at h;by_cases he:e=⟨-1,2,UInt8.ofNat i,e.v,0,0,0⟩
  ·rw [Gn he] at h
   cases j with
   | zero=>exact⟨e.v,by rw [UK];exact he⟩
   | succ j =>
    obtain⟨v,hv⟩:=zlb ev (i+1) t n h j (by omega) (by simpa using hl);exact⟨v,by rw [show i+(j+1)=i+1+j by omega];exact hv⟩
  ·rw [Gm he] at h;cases h
theorem zpW (ev:List Ev):qF ev<=ev.length:=by
 unfold qF
 induction ev with
 | nil=>exact UV _
 | cons e ev ih =>
  rw [Kn]
  split
  ·rw [Qr,Qr];omega
  ·exact UY _
theorem zoR {x:ExD} {locs:Nat} (h:jx x.ev locs=true) (hl:locs<=x.ev.length) (h6:locs<=6):∀ l,l<locs->zT x l≠[]:=by
 intro l hll he;obtain⟨v,hv⟩:=zlb x.ev 0 0 0 h l (by omega) (by omega);have:l∈zT x l:=by
  unfold zT;rw [QR,Um];refine⟨by omega,?_⟩;have h2:evA x l=⟨-1,2,UInt8.ofNat (0+l),v,0,0,0⟩:=hv;rw [h2,bAT,dE,dE];refine⟨rfl,?_⟩;show (UInt8.ofNat (0+l)).toNat=l;rw [UQ,KH];exact QB (by omega)
 rw [he] at this
 cases this
abbrev zdg (x:ExD):List RelD:=[x.po,x.rf,x.co,x.dt,x.ct,x.rm]
theorem zrZ (x:ExD) (q:OA) (c:Nat) {i:Nat} (hi:i<6):((exC x q c).drop (1+49*i)).take 49=zf ((zdg x).getD i x.po):=by
 have g:∀ {A T:List Value} {o:Nat} {r:RelD},A.length=o->exC x q c=A++(zf r++T)->((exC x q c).drop o).take 49=zf r:=fun {A T o r} hA hE=>by
  rw [hE,<- hA,Uj,Jg (by rw [zh];decide),JF (by rw [zh];decide)]
 match i,hi with
 | 0,_=>obtain⟨A,T,hA,hE⟩:=zno x q c [];exact g hA (by rw [<- hE,QI];rfl)
 | 1,_=>obtain⟨A,T,hA,hE⟩:=zsQ x q c [];exact g hA (by rw [<- hE,QI];rfl)
 | 2,_=>obtain⟨A,T,hA,hE⟩:=zsS x q c [];exact g hA (by rw [<- hE,QI];rfl)
 | 3,_=>obtain⟨A,T,hA,hE⟩:=znp x q c [];exact g hA (by rw [<- hE,QI];rfl)
 | 4,_=>obtain⟨A,T,hA,hE⟩:=znq x q c [];exact g hA (by rw [<- hE,QI];rfl)
 | 5,_=>obtain⟨A,T,hA,hE⟩:=znm x q c [];exact g hA (by rw [<- hE,QI];rfl)
theorem zrp (L:Nat) {k:Nat} (hk:k<6):((List.range 6).map (fun i=>Value.pointer (some ⟨L,0+(1+49*i),none⟩)))[k]?=some (.pointer (some ⟨L,0+(1+49*k),none⟩)):=by
 rw [KT,Kh hk];rfl
def okX (x:ExD) (r:RelD):Bool:=decide (r.n=x.ev.length)&&okR r
section
variable {c:Nat} {x:ExD} {q:OA} {w:Wd}
theorem zfC {X:Wd} {b:Nat} (fx:ExH X b x q c) {i:Nat} (hi:i<6):zK X ⟨b,0+(1+49*i),none⟩ (zf ((zdg x).getD i x.po)):=by
 have h:=zR (n:=1+49*i) (m:=49) (za fx);rw [show (exC x q c).toArray.toList=exC x q c from rfl,zrZ x q c hi] at h;exact h
theorem ExW.rel (hv:ExW w x q) {i:Nat} (hi:i<6):zG ((zdg x).getD i x.po).to:=by
 match i,hi with
 | 0,_=>exact hv.po
 | 1,_=>exact hv.rf
 | 2,_=>exact hv.co
 | 3,_=>exact hv.dt
 | 4,_=>exact hv.ct
 | 5,_=>exact hv.rm
theorem zlC (hv:ExW w x q) (hT:Tz64M w):CB 25 #[.agg (exC x q c).toArray] w (.bool (jm x)):=by
 refine qA 70 [.agg (exC x q c).toArray] (.c .p (.c .p (.c .p (.c .p (.c .p .p))))) Tryz.func25 ?_;obtain⟨L,hL⟩:=nm (w.heap.size);have hn:=hv.n;refine⟨Unit,fun _=>⟨[(1,At0 L)],[]⟩,fun _ X=>ExH X L x q c/\Bw w X,⟨(),⟨.cons (by rw [hL];rfl) .nil,rfl⟩,by rw [hL];exact zw w _,(zba w _)⟩,?_⟩;rintro _ X ⟨fx,hbX⟩;obtain⟨n,hnn⟩:=nm (qF x.ev);refine⟨Unit,fun _=>⟨[(1,At0 L)],[]⟩,fun _ Y=>X=Y,?_,?_⟩
 ·refine⟨_,zc (za fx) (i:=0) rfl,biE (fun h=>?_) fun _=>?_⟩
  ·have h:(48:Int)<(x.ev.length:Nat):=dT h;omega
  exact⟨(),(cvE rfl rfl),rfl⟩
 rintro _ _ rfl;refine⟨Unit,fun _=>⟨[(1,At0 L),(3,i64 (n:Nat))],[]⟩,fun _ Y=>Bw X Y,?_,?_⟩
 ·refine⟨_,zc (za fx) (i:=0) rfl,cmo (zmd (hv.below hbX).ev (by omega)) ?_⟩;rintro e Y ⟨rfl,hbY⟩;rw [<- hnn];exact⟨(),(cvE rfl rfl),hbY⟩
 rintro _ Y hbY;have hvX:=hv.below hbX;have hnl:n<=x.ev.length:=by rw [hnn];exact zpW _
 have hbwY:=zst hbX hbY;have hr0:decide (x.ev.length<=48)=true:=Uq (by omega);have no:∀ {Z:Wd},Bw w Z->jm x=false->(Ending.returned (.bool false)=Ending.returned (.bool (jm x))/\Bw w Z):=fun {Z} hb h=>⟨rb h.symm,hb⟩;refine⟨Unit,fun _=>⟨[(1,At0 L),(3,i64 (n:Nat))],[]⟩,fun _ Z=>jx x.ev n=true/\(1<=n/\n<=6)/\ExH Z L x q c/\Bw w Z,?_,?_⟩
 ·refine biE (fun h1=>?_) fun h1=>?_
  ·have h1:(n:Int)<1:=dT h1;refine brT (brT (no hbwY ?_));unfold jm;rw [<- hnn,Uf (by omega:¬ 1<=n),Uh,Ug]
  have h1:¬ (n:Int)<1:=dF h1;refine biE (fun h2=>?_) fun h2=>?_
  ·have h2:(6:Int)<(n:Int):=dT h2;refine brT (no hbwY ?_);unfold jm;rw [<- hnn,Uf (by omega:¬ n<=6),Uh,Ug,Ug]
  have h2:¬ (6:Int)<(n:Int):=dF h2;have hn1:decide (1<=n)=true:=Uq (by omega);have hn6:decide (n<=6)=true:=Uq (by omega);have fY:=zb hbY fx;refine⟨_,zc (za fY) (i:=0) rfl,cmo (zii (locs:=n) (hvX.below hbY).ev (by omega) (by omega)) ?_⟩;rintro e Z ⟨rfl,hbZ⟩;have hbwZ:=zst hbwY hbZ;refine biE (fun h3=>?_) fun h3=>?_
  ·have h3:jx x.ev n=false:=by
    have h3:(!jx x.ev n)=true:=h3;simpa using h3
   refine no hbwZ ?_;unfold jm;rw [<- hnn,h3,Uh,Ug,Ug,Ug]
  have h3:jx x.ev n=true:=by
   have h3:(!jx x.ev n)=false:=h3;simpa using h3
  exact⟨(),(cvE rfl rfl),h3,by omega,zb hbZ fY,hbwZ⟩
 rintro _ Z ⟨h3,⟨h1,h2⟩,fZ,hbwZ⟩;clear fx hbX hbY hbwY hvX;have hn1:decide (1<=n)=true:=Uq h1;have hn6:decide (n<=6)=true:=Uq h2;have hright:jm x=(zaQ x&&(qP x.po (poR x.ev)&&(zaH x&&(j8 x n&&zaE x)))):=by
  unfold jm;rw [<- hnn,hr0,hn1,hn6,h3];rfl
 have hrels:zaQ x=(zdg x).all (okX x):=rfl;refine⟨Unit,fun _=>⟨[(1,At0 L),(3,i64 (n:Nat))],[]⟩,fun _ U=>zaQ x=true/\ExH U L x q c/\Bw w U,?_,?_⟩
 ·refine⟨⟨by decide,by decide,rfl⟩,(List.range 6).map (fun i=>Value.pointer (some ⟨L,0+(1+49*i),none⟩)),rfl,?_⟩;obtain⟨g,hg⟩:=nm (Z.heap.size);refine⟨Nat,fun k=>⟨[(1,At0 L),(3,i64 (n:Nat)),(32,.slice (some ⟨g,0,none⟩) 6 6),(33,i64 6),(34,i64 (k:Nat))],[]⟩,fun k U=>k<=6/\((zdg x).take k).all (okX x)=true/\U.heap[g]?=some (.cells ((List.range 6).map (fun i=>Value.pointer (some ⟨L,0+(1+49*i),none⟩))).toArray 103 (0,0))/\ExH U L x q c/\Bw w U,fun k=>6-k,0,
   ⟨.cons rfl (.cons rfl (.cons (by rw [hg];rfl) (.cons rfl (.cons rfl .nil)))),rfl⟩,⟨UY _,rfl,by rw [hg];exact zw Z _,qM _ fZ,hbwZ.alloc hbwZ.size _⟩,?_⟩
  clear hg fZ hbwZ;rintro k U ⟨hk,hall,fg,fU,hbU⟩;dsimp only;refine biE (fun hc=>?_) fun hc=>?_
  ·have hc:(k:Int)<6:=dT hc;have hk6:k<6:=by omega
   obtain⟨r,hr⟩:=nm ((zdg x).getD k x.po);have hkl:k<(zdg x).length:=hk6;have htk:(zdg x).take (k+1)=(zdg x).take k++[r]:=by
    rw [tsg hkl,hr,gDe,gE hkl];rfl
   have hrw:zG r.to:=by rw [hr];exact hv.rel hk6
   have hcel:zK U ⟨L,0+(1+49*k),none⟩ (zf r):=by rw [hr];exact zfC fU hk6
   have dU:Bw U U.drew:=(Ga _ _).drew;have hrm:r∈zdg x:=by
    rw [hr,gDe,gE hkl];exact gM hkl
   have bad:∀ {Z:Wd},Bw w Z->okX x r=false->(Ending.returned (.bool false)=Ending.returned (.bool (jm x))/\Bw w Z):=fun {Z} hb h=>no hb (by
    have:zaQ x=false:=by
     rw [hrels,KL];exact⟨r,hrm,by rw [h];decide⟩
    rw [hright,this];rfl)
   refine⟨k,rfl,hk6,?_⟩;refine⟨.pointer (some ⟨L,0+(1+49*k),none⟩),by
    have:=zc (za fg) (i:=k*1) (v := .pointer (some ⟨L,0+(1+49*k),none⟩)) (by
     rw [UW];exact zrp L hk6)
    exact this,?_⟩
   refine DrawE.ord [] [0,1,2,3,4,5,6,7,8,9,10,11,12,13,14] (by kernel_rfl) ⟨i64 r.n,zc (zr dU hcel) (i:=0) rfl,_,zc (za (hdr fU)) (i:=0) rfl,biE (fun h4=>?_) fun h4=>?_⟩
   ·have h4:(!decide (r.n=(x.ev.length:Int)))=true:=h4;have h4:¬ r.n=(x.ev.length:Int):=(by simpa using h4);exact brT (bad ((zst hbU dU)) (by unfold okX;rw [Uf h4];rfl))
   have h4:(!decide (r.n=(x.ev.length:Int)))=false:=h4;have h4:r.n=(x.ev.length:Int):=by simpa using h4
   refine⟨zf r,zh _,zr dU hcel,hlt (hdr fU),cmo (jH hrw) ?_⟩;rintro e V ⟨rfl,hbV⟩;refine⟨hbV,?_⟩;have hbV2:=hbU.trans ((dU.trans hbV).mono hbU.size);refine biE (fun h5=>?_) fun h5=>?_
   ·have h5:okR r=false:=by
     have h5:(!okR r)=true:=h5;simpa using h5
    exact bad hbV2 (by unfold okX;rw [h5,Ug])
   have h5:okR r=true:=by
    have h5:(!okR r)=false:=h5;simpa using h5
   refine nxI (by omega) ⟨k+1,(cvE rfl rfl),⟨hk6,?_,zb (dU.trans hbV) fg,zb (dU.trans hbV) fU,hbV2⟩,zdc (by omega)⟩;rw [htk,QH,hall];show (true&&(okX x r&&true))=true;unfold okX;rw [Uq h4,h5];rfl
  ·have hc:¬ (k:Int)<6:=dF hc;obtain rfl:k=6:=by omega
   exact⟨(),(cvE rfl rfl),hall,fU,hbU⟩
 rintro _ U ⟨hrr,fU,hbU⟩;rw [hrr,Uw] at hright;have hall:∀ r∈zdg x,r.n=x.ev.length/\okR r=true:=fun r hr=>by
  rw [hrels,Qi] at hrr;have:=hrr r hr;unfold okX at this;rw [bAT,dE] at this;exact this
 have hrf:=hall x.rf (by simp);have hrm:=hall x.rm (by simp);have hvU:=hv.below hbU;have dU:Bw U U.drew:=(Ga _ _).drew;have hvD:=hvU.below dU;have hbD:=zst hbU dU;refine DrawE.ord [] [0,1,2,3,4,5,6,7,8,9,10,11,12,13,14,15,16] (by kernel_rfl) ⟨zf x.po,zh _,zfC (hdr fU) (i:=0) (by decide),hlt (hdr fU),_,zc (za (hdr fU)) (i:=0) rfl,cmo (zdr hvD.ev (by omega)) ?_⟩;rintro e V ⟨rfl,hbV⟩;refine⟨hbV,?_⟩;have hbV2:=zst hbD hbV;have fV:=zb hbV (hdr fU);have hvV:=hvD.below hbV;refine⟨_,fun w=>znu _ _ x.po (poR x.ev) w,biE (fun h4=>?_) fun h4=>?_⟩
 ·have h4:qP x.po (poR x.ev)=true:=h4;rw [h4,Uw] at hright;refine cmo (zod fV hvV hrf.1 hrf.2 (hT.below hbV2)) ?_;rintro e T ⟨rfl,hbT⟩;refine⟨hbT,?_⟩;have hbT2:=zst hbV2 hbT;refine biE (fun h5=>?_) fun h5=>?_
  ·have h5:zaH x=true:=h5;rw [h5,Uw] at hright;refine cmo (zoB (locs:=n) (zb hbT fV) (hvV.below hbT) (by omega) (zoR h3 hnl (by omega)) (hT.below hbT2)) ?_;rintro e R ⟨rfl,hbR⟩;refine⟨hbR,?_⟩;have hbR2:=zst hbT2 hbR;refine biE (fun h6=>?_) fun h6=>?_
   ·have h6:j8 x n=true:=h6;rw [h6,Uw] at hright;refine cmo (zml (zb hbR (zb hbT fV)) ((hvV.below hbT).below hbR) hrm.1 hrm.2 (hT.below hbR2)) ?_;rintro e Q ⟨rfl,hbQ⟩;exact⟨hbQ,rb hright.symm,(zst hbR2 hbQ)⟩
   ·have h6:j8 x n=false:=h6;rw [h6,Uh] at hright;exact⟨rb hright.symm,hbR2⟩
  ·have h5:zaH x=false:=h5;rw [h5,Uh] at hright;exact brF ⟨rb hright.symm,hbT2⟩
 ·have h4:qP x.po (poR x.ev)=false:=h4;rw [h4,Uh] at hright;exact brF (brF ⟨rb hright.symm,hbV2⟩)
end
theorem zhZ {a b:RelD} {f:Nat->Nat} (h:a.n=b.n->okR a=true->okR b=true->∀ i,i<48->f i<2^64):zG (comb a b f).1.to:=by
 unfold comb
 split
 ·rename_i hc;rw [bAT,bAT,dE] at hc;exact zd7 fun i _ hi=>h hc.1 hc.2.1 hc.2.2 i hi
 ·exact fun i _=>(by show 0<2^64;decide)
theorem znU {a b:RelD} (ha:zG a.to) (hb:zG b.to):zG (zal a b).1.to:=zhZ fun _ _ _ i hi=>KX (ha i hi) (hb i hi)
theorem zqE {a b:RelD} (ha:zG a.to):zG (zaF a b).1.to:=zhZ fun _ _ _ i hi=>KE QW (ha i hi)
theorem zdk {a b:RelD} (ha:zG a.to) (hb:zG b.to):zG (jh a b).1.to:=zhZ fun _ h _ i hi=>by
 unfold zdA;exact zk6 hb _ _ (by decide) fun j hj=>(zjD h ha hi j hj).2
theorem zdS (k:Nat) (p:Nat->Bool):zfA (k+1) p=if p k=true then zfA k p|||2^k else zfA k p:=by
 unfold zfA;rw [QU,KS];rfl
theorem zeT (p:Nat->Bool):∀ k,k<=64->zfA k p<2^64
 | 0,_=>by show 0<_;decide
 | k+1,h=>by
  rw [zdS]
  split
  ·exact KX (zeT p k (by omega)) (z7 (by omega))
  ·exact zeT p k (by omega)
theorem ze1 {n:Nat} {p:Nat->Nat->Bool} (hn:n<=64):zG (zbR n p).to:=zd7 fun i _ _=>zeT _ n hn
structure RelOk (n:Nat) (r:RelD):Prop where
 n:r.n=n
 ok:okR r=true
 w:zG r.to
section
variable {n:Nat} {r a b:RelD}
theorem RelOk.le (h:RelOk n r):n<=48:=by
 have:=(jb h.ok).2.1;have:=h.n;omega
theorem RelOk.bit (h:RelOk n r) {i j:Nat} (hi:i<48) (hb:zg r i j=true):i<n/\j<n:=by
 have:=zjE h.ok h.w hi hb;have:=h.n;omega
theorem ztq (hn:r.n=n) (h48:n<=48) (h:∀ i j,i<48->zg r i j=true->i<n/\j<n):okR r=true:=by
 unfold okR;rw [bAT,bAT,dE,dE,Qi];refine⟨by omega,by omega,fun i hi=>?_⟩;have hi:=Um.1 hi;unfold zbO;rw [bAT,QF,dE,dE,dE];refine⟨?_,?_⟩
 ·rw [za0,zaL];apply Kd;intro j;rw [QC];by_cases hj:j<64
  ·rw [zaS (zaK _) hj,zbo (by omega) (by omega) hj]
   cases hb:(r.to i).testBit j with
   | false=>rfl
   | true =>
    have:=(h i j hi hb).2;rw [Uq (by omega)];rfl
  ·have:=JH (nL (KE (show qT (r.to i) (zaA r.n)<=_ from Qw) (show 18446744073709551615-zaA r.n<2^64 by omega)) (Ke (show 0<2 by decide) (show 64<=j by omega)));exact this
 ·by_cases hin:i<n
  ·exact .inl (by omega)
  ·refine .inr (Kd fun j=>?_);rw [QC]
   cases hb:(r.to i).testBit j with
   | false=>rfl
   | true=>exact Gp (h i j hi hb).1 hin
theorem RelOk.of (hn:r.n=n) (h48:n<=48) (h:∀ i j,i<48->zg r i j=true->i<n/\j<n) (hw:zG r.to):RelOk n r:=⟨hn,ztq hn h48 h,hw⟩
theorem zgA (p:Nat->Bool):∀ k j,(zfA k p).testBit j=(decide (j<k)&&p j)
 | 0,j=>by
  show (0:Nat).testBit j=_;simp
 | k+1,j=>by
  rw [zdS]
  split
  ·rename_i h;rw [Up,zgA p k j,j7];by_cases e:j=k
   ·subst e;simp [h]
   ·rw [Uf e,Uv];congr 1;exact QE.2 (by omega)
  ·rename_i h;rw [zgA p k j];by_cases e:j=k
   ·subst e;have:p j=false:=(by simpa using h);rw [this,Ug,Ug]
   ·congr 1;exact QE.2 (by omega)
theorem zcK {f:Nat->Nat} {i j:Nat}:zg (jK n f) i j=(decide (i<n)&&(f i).testBit j):=by
 unfold zg jK;dsimp only
 split
 ·rename_i h;rw [Uq h];rfl
 ·rename_i h;rw [Uf h,QC];rfl
theorem zds {p:Nat->Nat->Bool} {i j:Nat}:zg (zbR n p) i j=(decide (i<n)&&(decide (j<n)&&p i j)):=by
 unfold zbR;rw [zcK,zgA]
theorem RelOk.pick (h:n<=48) (p:Nat->Nat->Bool):RelOk n (zbR n p):=by
 refine .of rfl h (fun i j _ hb=>?_) (ze1 (by omega));rw [zds] at hb;simp only [bAT,dE] at hb;exact⟨hb.1,hb.2.1⟩
theorem zgL {f:Nat->Nat} (ha:RelOk n a) (hb:RelOk n b):comb a b f=(jK n f,0):=by
 unfold comb;have e:a.n.toNat=n:=by have:=ha.n;omega
 rw [Uq (ha.n.trans hb.n.symm),ha.ok,hb.ok,Gn (show (true&&(true&&true))=true from rfl),e]
theorem RelOk.comb {f:Nat->Nat} (ha:RelOk n a) (hb:RelOk n b) (hf:∀ i j,i<n->(f i).testBit j=true->j<n):RelOk n (comb a b f).1:=by
 rw [zgL ha hb];have h48:=ha.le;have hbit:∀ i j,zg (jK n f) i j=true->i<n/\j<n:=fun i j h=>by
  rw [zcK,bAT,dE] at h;exact⟨h.1,hf i j h.1 h.2⟩
 refine .of rfl h48 (fun i j _ h=>hbit i j h) fun i hi=>?_;apply Qy;intro hge;obtain⟨j,hj1,hj2⟩:=Ja hge;have:=(hbit i j hj2).2;omega
theorem zdR (ha:RelOk n a) (hb:RelOk n b) {i j:Nat} (hi:i<n):zg (zal a b).1 i j=(zg a i j||zg b i j):=by
 unfold zal;rw [zgL ha hb];show zg (jK n _) i j=_;rw [zcK,Uq hi,Up];rfl
theorem RelOk.union (ha:RelOk n a) (hb:RelOk n b):RelOk n (zal a b).1:=ha.comb hb fun i j hi h=>by
 rw [Up,QF] at h;have h48:=ha.le;rcases h with h | h
 ·exact (ha.bit (by omega) h).2
 ·exact (hb.bit (by omega) h).2
theorem zlx (ha:RelOk n a) (hb:RelOk n b) {i j:Nat} (hi:i<n):zg (zaF a b).1 i j=(zg a i j&&zg b i j):=by
 unfold zaF;rw [zgL ha hb];show zg (jK n _) i j=_;rw [zcK,Uq hi,Ua];rfl
theorem RelOk.both (ha:RelOk n a) (hb:RelOk n b):RelOk n (zaF a b).1:=ha.comb hb fun i j hi h=>by
 rw [Ua,bAT] at h;have h48:=ha.le;exact (ha.bit (by omega) h.1).2
theorem zbj (ha:RelOk n a) {i j:Nat} (hi:i<64):zg (zX a) i j=(decide (j<n)&&zg a j i):=by
 unfold zg;rw [zlz ha.ok];have e1:decide ((j:Int)<a.n)=decide (j<n):=QE.2 (by have:=ha.n;omega);have e2:decide (i∈els (a.to j))=(a.to j).testBit i:=by
  cases h:(a.to j).testBit i with
  | true=>exact Uq (qW.2 ⟨hi,h⟩)
  | false=>exact Uf fun hm=>by rw [(qW.1 hm).2] at h;cases h
 rw [e1,e2]
theorem RelOk.back (ha:RelOk n a):RelOk n (zX a):=by
 have h48:=ha.le;have hbit:∀ i j,i<48->zg (zX a) i j=true->i<n/\j<n:=fun i j hi h=>by
  rw [zbj ha (by omega),bAT,dE] at h;exact⟨(ha.bit (by omega) h.2).2,h.1⟩
 refine .of ?_ h48 hbit fun i hi=>?_
 ·unfold zX;rw [Gn ha.ok];exact ha.n
 ·apply Qy;intro hge;obtain⟨j,hj1,hj2⟩:=Ja hge;have:=(hbit i j hi hj2).2;omega
theorem zfP {tq:Nat->Nat} {j:Nat}:∀ (l:List Nat) (t:Nat),(l.foldl (fun t a=>t|||tq a) t).testBit j=(t.testBit j||l.any fun a=>(tq a).testBit j)
 | [],t=>by simp
 | a::l,t=>by rw [QK,zfP l,Up,Uz,Bool.or_assoc]
theorem zeO (ha:RelOk n a) (hb:RelOk n b) {i j:Nat} (hi:i<n):zg (jh a b).1 i j=true↔∃ k,k<n/\zg a i k=true/\zg b k j=true:=by
 unfold jh;rw [zgL ha hb];show zg (jK n _) i j=true↔_;have h48:=ha.le;rw [zcK,Uq hi,Uw];unfold zdA;rw [zfP,QC,Ut,Qj];constructor
 ·rintro⟨k,hk,h⟩;exact⟨k,(ha.bit (by omega) (qW.1 hk).2).2,(qW.1 hk).2,h⟩
 ·rintro⟨k,hk,h1,h2⟩;exact⟨k,qW.2 ⟨by omega,h1⟩,h2⟩
theorem RelOk.then (ha:RelOk n a) (hb:RelOk n b):RelOk n (jh a b).1:=ha.comb hb fun i j hi h=>by
 have h48:=ha.le;unfold zdA at h;rw [zfP,QC,Ut,Qj] at h;obtain⟨k,hk,h⟩:=h;have:=(ha.bit (by omega) (qW.1 hk).2).2;exact (hb.bit (by omega) h).2
theorem ziW {tq:Nat->Nat}:∀ (l:List Nat) (s:Nat),l.foldl (fun s a=>if tq a=0 then s else s|||2^a) s=0↔s=0/\∀ i∈l,tq i=0
 | [],s=>by simp
 | a::l,s=>by
  rw [QK,ziW l];by_cases h:tq a=0
  ·rw [Gn h];simp [h]
  ·rw [Gm h];have:s|||2^a≠0:=fun e=>by
    have h2:=Gi (fun s=>s.testBit a) e;simp only [Up,j7,QC,decide_true,Bool.or_true] at h2
    cases h2
   simp [h,this]
theorem zi0 (ha:RelOk n a):zbf a=true↔∀ i j,i<n->j<n->zg a i j=false:=by
 have h48:=ha.le;have e:a.n.toNat=n:=by have:=ha.n;omega
 unfold zbf ziX;rw [ha.ok,Uw,dE,Gn rfl,e,ziW];constructor
 ·rintro⟨_,h⟩ i j hi _;unfold zg;rw [h i (Um.2 hi),QC]
 ·intro h;refine⟨rfl,fun i hi=>Kd fun j=>?_⟩;have hi:=Um.1 hi;rw [QC]
  cases hb:(a.to i).testBit j with
  | false=>rfl
  | true =>
   have:=h i j hi (ha.bit (by omega) hb).2;unfold zg at this;rw [hb] at this;cases this
def zqZ (before:Nat->Nat) (left:Nat):Prop:=∀ S,S≠0->S&&&left=S->∃ i∈els S,before i&&&S=0
theorem zmI {before:Nat->Nat}:∀ (m left:Nat) (l:List Nat),left<2^64->(els left).length<=m->((zjh before m left l).isSome=true↔zqZ before left)
 | 0,left,l,h64,hm=>by
  have h0:left=0:=zc8 h64 (by rw [Qq];exact List.length_eq_zero_iff.1 (by omega));subst h0;exact⟨fun _ S hS he=>Gp he.symm (by rw [Nat.and_zero];exact hS),fun _=>rfl⟩
 | m+1,left,l,h64,hm=>by
  by_cases h0:left=0
  ·subst h0;have e:zjh before (m+1) 0 l=some l:=Gn rfl;rw [e];exact⟨fun _ S hS he=>Gp he.symm (by rw [Nat.and_zero];exact hS),fun _=>rfl⟩
  have e:zjh before (m+1) left l=match zcc before left with | none=>none | some a=>zjh before m (jL left (2^a)) (l++[a]):=Gm h0
  rw [e]
  cases hf:zcc before left with
  | none =>
   refine⟨fun h=>(by cases h),fun h=>?_⟩;obtain⟨i,hi,hb⟩:=h left h0 (Nat.and_self _);unfold zcc at hf;rw [List.find?_eq_none] at hf;exact Gp (Uq hb) (hf i hi)
  | some k =>
   have hk:=zk8 hf;have hk2:before k&&&left=0:=by
    unfold zcc at hf;have:=List.find?_some hf;exact dT this
   have hk64:=zqh hk;have hlen:=zaw h64 hk;have hsub:∀ S,S&&&qT left (2^k)=S->S&&&left=S:=fun S h=>by
    rw [<- h];unfold qT;apply Kd;intro j;simp only [Ua]
    cases S.testBit j <;> cases left.testBit j <;> simp
   dsimp only;rw [za0,zmI m (qT left (2^k)) (l++[k]) (zam h64) (by omega)];constructor
   ·intro h S hS he;by_cases hm2:k∈els S
    ·refine⟨k,hm2,?_⟩;rw [<- he,Nat.and_comm S left,<- Nat.and_assoc,hk2,Nat.zero_and]
    ·refine h S hS (Kd fun j=>?_);rw [Ua]
     cases hb:S.testBit j with
     | false=>rfl
     | true =>
      have hl:left.testBit j=true:=by
       have h2:=hb;rw [<- he,Ua,bAT] at h2;exact h2.2
      have hj:j<64:=by
       apply Qy;intro hj;have:=JH (nL h64 (Ke (by decide) hj));rw [this] at hl;cases hl
      have hjk:¬ j=k:=fun e=>hm2 (qW.2 ⟨hk64,by rw [<- e];exact hb⟩);rw [zaS (z7 hk64) hj,hl,j7,Uf hjk];rfl
   ·exact fun h S hS he=>h S hS (hsub S he)
theorem znM (ha:RelOk n a):zaO a=true↔zqZ (zX a).to (zaA n):=by
 have h48:=ha.le;unfold zaO zeN;rw [Gn ha.ok,zaL,ha.n];refine zmI 64 _ _ (zaK _) ?_;unfold els;have:=JL (fun i=>(zaA n).testBit i) (List.range 64);rw [KU] at this;exact this
end
structure WX (x:ExD):Prop where
 po:zG x.po.to
 rf:zG x.rf.to
 co:zG x.co.to
 dt:zG x.dt.to
 ct:zG x.ct.to
 rm:zG x.rm.to
structure XOk (x:ExD):Prop where
 n:x.ev.length<=48
 po:RelOk x.ev.length x.po
 rf:RelOk x.ev.length x.rf
 co:RelOk x.ev.length x.co
 dt:RelOk x.ev.length x.dt
 ct:RelOk x.ev.length x.ct
 rm:RelOk x.ev.length x.rm
 ev:jx x.ev (qF x.ev)=true
 poE:qP x.po (poR x.ev)=true
 rfR:zaH x=true
 coR:j8 x (qF x.ev)=true
 dep:zaE x=true
section
variable {x:ExD}
theorem zoQ (hw:WX x) (h:jm x=true):XOk x:=by
 unfold jm zaQ at h;simp only [Uy,List.all_nil,Bool.and_true,bAT,dE] at h;obtain⟨h1,_,_,h4,⟨h5,h6,h7,h8,h9,h10⟩,h11,h12,h13,h14⟩:=h;exact⟨h1,⟨h5.1,h5.2,hw.po⟩,⟨h6.1,h6.2,hw.rf⟩,⟨h7.1,h7.2,hw.co⟩,⟨h8.1,h8.2,hw.dt⟩,⟨h9.1,h9.2,hw.ct⟩,⟨h10.1,h10.2,hw.rm⟩,h4,h11,h12,h13,h14⟩
theorem zck (h:XOk x):RelOk x.ev.length (frM x):=h.rf.back.then h.co
theorem zcV {n:Nat}:∀ {l:List RelD} {r:RelD},RelOk n r->(∀ o∈l,RelOk n o)->RelOk n (qc r l)
 | [],_,h,_=>h
 | o::l,r,h,hl=>zcV (l:=l) (r:=(zal r o).1) (h.union (hl o Kz)) fun y hy=>hl y (JW _ hy)
theorem zcW {n i j:Nat} (hi:i<n):∀ {l:List RelD} {r:RelD},RelOk n r->(∀ o∈l,RelOk n o)->zg (qc r l) i j=(zg r i j||l.any fun o=>zg o i j)
 | [],_,_,_=>by rw [List.any_nil,Uv];rfl
 | o::l,r,h,hl=>by
  have ho:=hl o Kz;have:=zcW (j:=j) hi (l:=l) (r:=(zal r o).1) (h.union ho) fun y hy=>hl y (JW _ hy);show zg (qc (zal r o).1 l) i j=_;rw [this,zdR h ho hi,Uz,Bool.or_assoc]
theorem zrW (h:XOk x) {r:RelD} (hr:RelOk x.ev.length r):RelOk x.ev.length (zc6 x r):=by
 have e:r.n.toNat=x.ev.length:=by have:=hr.n;omega
 unfold zc6;rw [e];exact .pick h.n _
theorem zrV {r:RelD} {i j:Nat} (hk:zg (zc6 x r) i j=true):zg r i j=true:=by
 unfold zc6 at hk;rw [zds] at hk;simp only [bAT] at hk;exact hk.2.2.1
def ztp (m:Nat) (x:ExD):RelD:=qc (zaT m x) [if m=2 then x.rf else zc6 x x.rf,x.co,frM x]
theorem zon {A B C:Bool} {m:Nat}:(if A=true then (if B=true then (if m=1 then 0 else if C=true then 0 else 3) else 2) else 1)=0↔A=true/\B=true/\(m=1\/C=true):=by
 by_cases h:m=1 <;> cases A <;> cases B <;> cases C <;> simp [h]
theorem zdd {m:Nat}:qO m x=0↔zaO (qc (jv x) [x.rf,x.co,frM x])=true/\zbf (zaF x.rm (jh (frM x) x.co).1).1=true/\(m=1\/zaO (ztp m x)=true):=by
 unfold qO ztp;exact zon
theorem zrn (h:XOk x) {m:Nat}:RelOk x.ev.length (if m=2 then x.rf else zc6 x x.rf):=by
 split
 ·exact h.rf
 ·exact zrW h h.rf
theorem zkO (h:XOk x) {m:Nat}:∀ o∈[if m=2 then x.rf else zc6 x x.rf,x.co,frM x],RelOk x.ev.length o:=by
 simp only [UB,Qu,Gk,forall_eq_or_imp,forall_eq];exact⟨zrn h,h.co,zck h⟩
theorem zk1 (h:XOk x) {m:Nat}:RelOk x.ev.length (zaT m x) := .pick h.n _
end
section
variable {n:Nat} {a b:RelD} {x:ExD}
theorem zky (ha:RelOk n a) (hb:RelOk n b) (h:∀ i j,i<n->j<n->zg a i j=zg b i j):qP a b=true:=by
 have h48:=ha.le;unfold qP;rw [bAT,dE,Qi];refine⟨ha.n.trans hb.n.symm,fun i hi=>Uq (Kd fun j=>?_)⟩;have hi:=Um.1 hi;by_cases hij:i<n/\j<n
 ·exact h i j hij.1 hij.2
 ·have e1:zg a i j=false:=by
   cases hc:zg a i j with
   | false=>rfl
   | true=>exact (hij (ha.bit hi hc)).elim
  have e2:zg b i j=false:=by
   cases hc:zg b i j with
   | false=>rfl
   | true=>exact (hij (hb.bit hi hc)).elim
  exact e1.trans e2.symm
theorem zfD (h:qP a b=true) {i j:Nat} (hi:i<48):zg a i j=zg b i j:=by
 unfold qP at h;rw [bAT,Qi] at h;have:=dT (h.2 i (Um.2 hi));unfold zg;rw [this]
theorem zj2 {t:Int}:∀ (es:List Ev) (j s k:Nat),(zhc t j es s).testBit k=true↔s.testBit k=true\/∃ m,m<es.length/\k=j+m/\(es.getD m ev0).th=t
 | [],j,s,k=>by
  show s.testBit k=true↔_;simp
 | e::es,j,s,k=>by
  show (zhc t (j+1) es (if e.th=t then s|||2^j else s)).testBit k=true↔_;rw [zj2 es];have hs:(if e.th=t then s|||2^j else s).testBit k=true↔s.testBit k=true\/(k=j/\e.th=t):=by
   split
   ·rename_i h;rw [Up,j7,QF,dE];simp [h]
   ·rename_i h;simp [h]
  rw [hs];constructor
  ·rintro ((h | ⟨h1,h2⟩) | ⟨m,h1,h2,h3⟩)
   ·exact .inl h
   ·exact .inr ⟨0,by simp,h1,h2⟩
   ·exact .inr ⟨m+1,by simpa using h1,by omega,by simpa using h3⟩
  ·rintro (h | ⟨m,h1,h2,h3⟩)
   ·exact .inl (.inl h)
   ·cases m with
    | zero=>exact .inl (.inr ⟨h2,h3⟩)
    | succ m=>exact .inr ⟨m,by simpa using h1,by omega,by simpa using h3⟩
theorem zti (h:XOk x) {i j:Nat} (hi:i<x.ev.length):zg x.po i j=true↔(evA x i).th ≠ -1/\i<j/\j<x.ev.length/\(evA x j).th=(evA x i).th:=by
 have h48:=h.n;rw [zfD h.poE (by omega)];have hg:x.ev[i]?=some (evA x i):=by
  rw [gE hi];unfold evA;rw [gDe,gE hi];rfl
 show (zbz x.ev i).testBit j=true↔_;unfold zbz;rw [hg];dsimp only;by_cases ht:(evA x i).th = -1
 ·rw [Gn ht];simp [ht]
 ·rw [Gm ht,zj2,QC];have hd:∀ m,(x.ev.drop (i+1)).getD m ev0=evA x (i+1+m):=fun m=>by
   unfold evA;rw [gDe,gDe,Kw]
  constructor
  ·rintro (h | ⟨m,h1,h2,h3⟩)
   ·cases h
   ·rw [hd] at h3;rw [Qs] at h1;subst h2;exact⟨ht,by omega,by omega,h3⟩
  ·rintro⟨_,h1,h2,h3⟩;refine .inr ⟨j-(i+1),by rw [Qs];omega,by omega,?_⟩;rw [hd,show i+1+(j-(i+1))=j by omega];exact h3
theorem zgd {key:Nat->Nat} {y:Nat}:∀ r:List Nat,(jo key r y).Perm (y::r)
 | [] => .refl _
 | z::r=>by
  unfold jo
  split
  ·exact ((zgd r).cons z).trans (.swap y z r)
  ·exact .refl _
theorem ziS {key:Nat->Nat}:∀ (l acc:List Nat),(l++acc).Nodup->(l.foldl (fun acc x=>jo key acc x) acc).Nodup
 | [],acc,h=>h
 | y::l,acc,h=>ziS l _ (by
   have p:(l++jo key acc y).Perm (y::l++acc):=((zgd acc).append_left l).trans List.perm_middle;exact p.nodup_iff.2 h)
theorem zg7 (l:Nat):(zO x l).Nodup:=by
 unfold zO zdm;refine (List.reverse_perm _).nodup_iff.2 (ziS _ _ ?_);rw [QI];exact List.nodup_range.filter _
theorem ziR:∀ (l:List Nat) (f:Nat->Nat) (b:Nat) (P:List Nat),(P++l).Nodup->(∀ j,b.testBit j=true->j∈P)->∀ i j,(zeh l f b i).testBit j=true->(f i).testBit j=true\/(i∈l/\j∈P++l/\i≠j)
 | [],f,b,P,_,_,i,j,h => .inl h
 | y::l,f,b,P,hn,hb,i,j,h=>by
  have hn2:((P++[y])++l).Nodup:=by rw [KN];exact hn
  have hy:y ∉ P:=fun hy=>by
   rw [List.nodup_append] at hn;exact hn.2.2 y hy y Kz rfl
  have:=ziR l (upd f y b) (b|||2^y) (P++[y]) hn2 (fun j hj=>by
   rw [Up,j7,QF,dE] at hj;rcases hj with hj | hj
   ·exact JV _ (hb j hj)
   ·rw [hj];simp) i j h
  rcases this with h1 | ⟨h1,h2,h3⟩
  ·by_cases hi:i=y
   ·subst hi;rw [zP] at h1;have hj:=hb j h1;exact .inr ⟨by simp,JV _ hj,fun e=>hy (e▸hj)⟩
   ·rw [qr _ _ hi] at h1;exact .inl h1
  ·refine .inr ⟨JW _ h1,?_,h3⟩;rw [KN] at h2;exact h2
theorem zsT:∀ (m l:Nat) (p q:RelD×(Nat->UInt8)),zfm x m l p=some q->∀ i j,zg q.1 i j=true->zg p.1 i j=true\/∃ l,i∈zO x l/\j∈zO x l/\i≠j
 | 0,l,p,q,h,i,j,hb=>by
  have h:some p=some q:=h;rw [Ud h];exact .inl hb
 | m+1,l,p,q,h,i,j,hb=>by
  unfold zfm at h
  split at h
  ·rcases zsT m (l+1) _ q h i j hb with h1 | h1
   ·have h1:(zeh (zO x l).reverse p.1.to 0 i).testBit j=true:=h1;rcases ziR _ _ 0 [] (by rw [QS];exact (List.reverse_perm _).nodup_iff.2 (zg7 l)) (fun j hj=>by rw [QC] at hj;cases hj) i j h1 with h2 | ⟨h2,h3,h4⟩
    ·exact .inl h2
    ·rw [QS] at h3;exact .inr ⟨l,List.mem_reverse.1 h2,List.mem_reverse.1 h3,h4⟩
   ·exact .inr h1
  ·cases h
theorem zg6 {l i:Nat} (h:i∈zO x l):isW x i=true/\(evA x i).l.toNat=l:=by
 have h:=zfx.1 h;unfold zT at h;have:=(QR.1 h).2;rw [bAT,dE,dE] at this;exact⟨Uq this.1,this.2⟩
theorem zqs (h:XOk x) {i j:Nat} (hi:i<x.ev.length) (hb:zg x.co i j=true):isW x i=true/\isW x j=true/\(evA x i).l=(evA x j).l/\i≠j:=by
 have h48:=h.n;have hc:=h.coR;unfold j8 at hc
 split at hc
 ·cases hc
 ·rename_i p hp;rw [bAT] at hc;rw [<- zfD hc.1 (by omega)] at hb;rcases zsT _ _ _ _ hp i j hb with h1 | ⟨l,h1,h2,h3⟩
  ·have h1:(0:Nat).testBit j=true:=h1;rw [QC] at h1;cases h1
  ·have r1:=zg6 h1;have r2:=zg6 h2;exact⟨r1.1,r2.1,Ue.1 (r1.2.trans r2.2.symm),h3⟩
end
end Go.Proofs.YtkpaomeeknegpaaGreatDoor
namespace Go.Sei
def zee (f:Nat->Bool) (n:Nat):Nat:=((List.range n).filter f).length
theorem zmc (e:Ev) (es:List Ev):qF (e::es)=if e.th = -1 then qF es+1 else 0:=by
 unfold qF;rw [Kn];by_cases h:e.th = -1
 ·rw [Gn (Uq h),Gn h,Qr]
 ·rw [Gm (by simp [h]),Gm h];rfl
section
variable {L:List Ev} {locs:Nat}
theorem zcH (f:Nat->Bool) (n:Nat):zee f (n+1)=zee f n+if f n=true then 1 else 0:=by
 unfold zee;rw [QU,Kv,lap,Qm,List.filter_nil]
 split <;> rfl
theorem zqt {f:Nat->Bool} {n:Nat} (h:∀ k,k<n->f k=false):zee f n=0:=by
 unfold zee;rw [List.length_eq_zero_iff,JC];intro k hk;rw [h k (Um.1 hk)];decide
end
theorem ziV (ev:List Ev) (a k:Nat):(ev.drop a).getD k ev0=ev.getD (a+k) ev0:=by
 rw [gDe,gDe,Kw]
end Go.Sei
namespace Go.Proofs.YtkpaomeeknegpaaGreatDoor
open Go.Vc Go.RowKit Go.Sei
section
variable {n:Nat} {r:RelD} {x:ExD}
theorem zr9 {j:Nat} (h:j<64):ctz (2^j)=j:=by
 have h2:(2:Nat)^j<2^64:=Kf (by decide) h;have:=(qW.1 (zgK (Nat.ne_of_gt (Nat.pow_pos (by decide))) h2)).2;rw [j7] at this;exact dT this
theorem zh2 {s:Nat} (h:s≠0):∃ j,s.testBit j=true:=by
 refine Jp fun hn=>h (Kd fun j=>?_);rw [QC]
 cases hb:s.testBit j with
 | false=>rfl
 | true=>exact (hn ⟨j,hb⟩).elim
theorem zju (hrf:RelOk x.ev.length x.rf):zaH x=true↔(∀ a b,a<x.ev.length->b<x.ev.length->zg x.rf a b=true->isW x a=true/\isR x b=true/\(evA x a).l=(evA x b).l/\(evA x a).v=(evA x b).v) /\
  ∀ b,b<x.ev.length->isR x b=true->(∃ j,j<x.ev.length/\zg x.rf j b=true)/\∀ i j,i<x.ev.length->j<x.ev.length->zg x.rf i b=true->zg x.rf j b=true->i=j:=by
 have h48:=hrf.le;have bk:∀ i,i<x.ev.length->∀ j,((zX x.rf).to i).testBit j=(decide (j<x.ev.length)&&zg x.rf j i):=fun i hi j=>zbj hrf (by omega);have w64:∀ i,i<x.ev.length->(zX x.rf).to i<2^64:=fun i hi=>hrf.back.w i (by omega);unfold zaH;rw [Qi];constructor
 ·intro h;have one:∀ b,b<x.ev.length->∀ a,zg x.rf a b=true->a<x.ev.length->(evA x b).k=1/\a=ctz ((zX x.rf).to b)/\(evA x a).k=2/\(evA x a).l=(evA x b).l/\(evA x a).v=(evA x b).v:=fun b hb a hab ha=>by
   have h1:=h b (Um.2 hb);have hbit:((zX x.rf).to b).testBit a=true:=by rw [bk b hb,hab,Uq ha];rfl
   have h0:¬ (zX x.rf).to b=0:=fun e=>by rw [e,QC] at hbit;cases hbit
   unfold zb6 at h1;by_cases hk:(evA x b).k=1
   ·rw [Gn hk,Gm h0] at h1;by_cases hs:(zX x.rf).to b=2^ctz ((zX x.rf).to b)
    ·rw [Gn hs] at h1;have hz:a=ctz ((zX x.rf).to b):=by
      rw [hs,j7] at hbit;exact dT hbit
     rw [<- hz] at h1;simp only [bAT,dE] at h1;exact⟨hk,hz,h1⟩
    ·rw [Gm hs] at h1;cases h1
   ·rw [Gm hk] at h1;exact (h0 (dT h1)).elim
  refine⟨fun a b ha hb hab=>?_,fun b hb hr=>⟨?_,fun i j hi hj h1 h2=>?_⟩⟩
  ·obtain⟨h1,_,h3,h4⟩:=one b hb a hab ha;exact⟨Uq h3,Uq h1,h4⟩
  ·have h1:=h b (Um.2 hb);unfold zb6 at h1;rw [Gn (dT hr:(evA x b).k=1)] at h1;by_cases h0:(zX x.rf).to b=0
   ·rw [Gn h0] at h1;cases h1
   ·obtain⟨j,hj⟩:=zh2 h0;rw [bk b hb,bAT,dE] at hj;exact⟨j,hj⟩
  ·exact (one b hb i h1 hi).2.1.trans (one b hb j h2 hj).2.1.symm
 ·rintro⟨h1,h2⟩ b hb;have hb:=Um.1 hb;unfold zb6;by_cases hk:(evA x b).k=1
  ·rw [Gn hk];obtain⟨⟨j,hj,hj1⟩,hu⟩:=h2 b hb (Uq hk);have hs:(zX x.rf).to b=2^j:=Kd fun i=>by
    rw [bk b hb,j7];by_cases hij:i=j
    ·rw [hij,hj1,Uq hj,Uq rfl];rfl
    ·rw [Uf hij]
     cases hi:zg x.rf i b with
     | false=>rw [Ug]
     | true =>
      by_cases hin:i<x.ev.length
      ·exact (hij (hu i j hin hj hi hj1)).elim
      ·rw [Uf hin];rfl
   have hz:ctz ((zX x.rf).to b)=j:=by rw [hs];exact zr9 (by omega)
   have h0:¬ (zX x.rf).to b=0:=by rw [hs];exact Nat.ne_of_gt (Nat.pow_pos (by decide))
   rw [Gm h0,hz,Gn hs];obtain⟨a1,_,a3,a4⟩:=h1 j b hj hb hj1;rw [Uq (dT a1:(evA x j).k=2),Uq a3,Uq a4];rfl
  ·rw [Gm hk];refine Uq (Kd fun j=>?_);rw [bk b hb,QC];by_cases hj:j<x.ev.length
   ·cases hjb:zg x.rf j b with
    | false=>rw [Ug]
    | true=>exact (hk (dT (h1 j b hj hb hjb).2.1)).elim
   ·rw [Uf hj];rfl
end
section
variable {x : ExD}
theorem zdX {a b : Nat} (ha : a < 2 ^ 64) (hb : b < 2 ^ 64) : jL a b = 0 ↔ ∀ j, a.testBit j = true → b.testBit j = true := by
  rw [za0]
  constructor
  · intro h j hj
    have hj64 : j < 64 := by
      refine Qy fun hge => ?_
      rw [JH (KF ha (Ke (by decide) hge))] at hj
      cases hj
    have := zaS (a := a) hb hj64
    rw [h, QC, hj, Uw] at this
    cases hc : b.testBit j with
    | true => rfl
    | false => rw [hc] at this; cases this
  · intro h
    refine Kd fun j => ?_
    rw [QC]
    by_cases hj : j < 64
    · rw [zaS (a := a) hb hj]
      cases hc : a.testBit j with
      | false => rfl
      | true => rw [h j hc]; rfl
    · exact JH (KF (KE (show qT a b ≤ a from QW) ha) (Ke (by decide) (by omega)))
theorem zoU (x : ExD) : ∀ k j, ((List.range k).foldl (fun s i => if (evA x i).k = 2 then s ||| 2 ^ i else s) 0).testBit j = (decide (j < k) && isW x j)
  | 0, j => by show (0 : Nat).testBit j = _; simp
  | k + 1, j => by
    rw [QU, KS, QK, List.foldl_nil]
    unfold isW at *
    split
    · rename_i h
      rw [Up, zoU x k j, j7]
      by_cases e : j = k
      · subst e
        simp [h, isW]
      · rw [Uf e, Uv]
        unfold isW
        congr 1
        exact QE.2 (by omega)
    · rename_i h
      rw [zoU x k j]
      unfold isW
      by_cases e : j = k
      · subst e
        rw [Uf h, Ug, Ug]
      · congr 1
        exact QE.2 (by omega)
theorem zlI (x : ExD) (j : Nat) : (zaW x).testBit j = (decide (j < x.ev.length) && isW x j) := zoU x _ j
theorem zsJ (h : x.ev.length ≤ 48) : zaW x < 2 ^ 64 := by
  refine Qy fun hge => ?_
  obtain ⟨j, hj1, hj2⟩ := Ja hge
  rw [zlI, Qg, decide_eq_true_eq] at hj2
  omega
structure DepOne (x : ExD) (k : Nat) : Prop where
  w : ∀ j, zg x.dt k j = true ∨ zg x.rm k j = true → isW x j = true
  p : ∀ j, zg x.dt k j = true ∨ zg x.ct k j = true ∨ zg x.rm k j = true → isR x k = true ∧ zg x.po k j = true
  u : ∀ i j, zg x.rm k i = true → zg x.rm k j = true → i = j
  l : ∀ j, zg x.rm k j = true → (evA x j).l = (evA x k).l
theorem zlg (h48 : x.ev.length ≤ 48) (hpo : RelOk x.ev.length x.po) (hdt : RelOk x.ev.length x.dt) (hct : RelOk x.ev.length x.ct) (hrm : RelOk x.ev.length x.rm) : ∀ (m i h : Nat), i + m = x.ev.length →
    (zcG x (zaW x) i (x.ev.drop i) h = true ↔ (∀ k, i ≤ k → k < x.ev.length → DepOne x k) ∧ (∀ k j, i ≤ k → k < x.ev.length → zg x.rm k j = true → h.testBit j = false) ∧ ∀ k k' j, i ≤ k → k < k' → k' < x.ev.length → zg x.rm k j = true → zg x.rm k' j = true → False)
  | 0, i, h, hi => by
    rw [JB (by omega)]
    exact ⟨fun _ => ⟨fun k h1 h2 => by omega, fun k j h1 h2 => by omega, fun k k' j h1 h2 h3 => by omega⟩, fun _ => rfl⟩
  | m + 1, i, h, hi => by
    have hil : i < x.ev.length := by omega
    have hd : x.ev.drop i = evA x i :: x.ev.drop (i + 1) := by
      unfold evA
      rw [Jm, Jv hil, ← JE hil]; rfl
    rw [hd]
    obtain ⟨d, hdd⟩ : ∃ d, d = x.dt.to i := ⟨_, rfl⟩
    obtain ⟨c, hcc⟩ : ∃ c, c = x.ct.to i := ⟨_, rfl⟩
    obtain ⟨r, hrr⟩ : ∃ r, r = x.rm.to i := ⟨_, rfl⟩
    have bd : ∀ j, d.testBit j = zg x.dt i j := fun j => by rw [hdd]; rfl
    have bc : ∀ j, c.testBit j = zg x.ct i j := fun j => by rw [hcc]; rfl
    have br : ∀ j, r.testBit j = zg x.rm i j := fun j => by rw [hrr]; rfl
    have d64 : d < 2 ^ 64 := by rw [hdd]; exact hdt.w i (by omega)
    have c64 : c < 2 ^ 64 := by rw [hcc]; exact hct.w i (by omega)
    have r64 : r < 2 ^ 64 := by rw [hrr]; exact hrm.w i (by omega)
    have hstep : zcG x (zaW x) i (evA x i :: x.ev.drop (i + 1)) h = if d ||| c ||| r = 0 then zcG x (zaW x) (i + 1) (x.ev.drop (i + 1)) h
        else if (evA x i).k = 1 ∧ jL (d ||| r) (zaW x) = 0 ∧ jL (d ||| c ||| r) (x.po.to i) = 0 then
          (if r = 0 then zcG x (zaW x) (i + 1) (x.ev.drop (i + 1)) h
           else if r = 2 ^ ctz r ∧ h.testBit (ctz r) = false ∧ (evA x (ctz r)).l = (evA x i).l then zcG x (zaW x) (i + 1) (x.ev.drop (i + 1)) (h ||| r) else false)
        else false := by rw [hdd, hcc, hrr]; rfl
    rw [hstep]
    have sp : ∀ (P : Nat → Prop), (∀ k, i ≤ k → k < x.ev.length → P k) ↔ P i ∧ ∀ k, i + 1 ≤ k → k < x.ev.length → P k := fun P =>
      ⟨fun h => ⟨h i (UV _) hil, fun k h1 h2 => h k (by omega) h2⟩, fun h k h1 h2 => by
        by_cases hk : k = i
        · rw [hk]; exact h.1
        · exact h.2 k (by omega) h2⟩
    have one : DepOne x i ↔ (d ||| c ||| r = 0 ∨ ((evA x i).k = 1 ∧ jL (d ||| r) (zaW x) = 0 ∧ jL (d ||| c ||| r) (x.po.to i) = 0)) ∧ (∀ a b, r.testBit a = true → r.testBit b = true → a = b) ∧ (∀ j, r.testBit j = true → (evA x j).l = (evA x i).l) := by
      have inl : ∀ j, zg x.dt i j = true ∨ zg x.rm i j = true → j < x.ev.length := fun j hj => by
        rcases hj with hj | hj
        · exact (hdt.bit (by omega) hj).2
        · exact (hrm.bit (by omega) hj).2
      constructor
      · rintro ⟨w, p, u, l⟩
        refine ⟨?_, fun a b ha hb => u a b (by rw [← br]; exact ha) (by rw [← br]; exact hb), fun j hj => l j (by rw [← br]; exact hj)⟩
        by_cases h0 : d ||| c ||| r = 0
        · exact .inl h0
        · obtain ⟨j, hj⟩ := zh2 h0
          have hor : ∀ j, (d ||| c ||| r).testBit j = true → zg x.dt i j = true ∨ zg x.ct i j = true ∨ zg x.rm i j = true := fun j hj => by
            rw [Up, Up, bd, bc, br, QF, QF] at hj
            rcases hj with (hj | hj) | hj
            · exact .inl hj
            · exact .inr (.inl hj)
            · exact .inr (.inr hj)
          refine .inr ⟨Qb (p j (hor j hj)).1, (zdX (KX d64 r64) (zsJ h48)).2 fun j hj => ?_, (zdX (KX (KX d64 c64) r64) (hpo.w i (by omega))).2 fun j hj => (p j (hor j hj)).2⟩
          rw [Up, bd, br, QF] at hj
          rw [zlI, w j hj, Uq (inl j hj)]; rfl
      · rintro ⟨h1, u, l⟩
        have bits : ∀ j, zg x.dt i j = true ∨ zg x.ct i j = true ∨ zg x.rm i j = true → (d ||| c ||| r).testBit j = true := fun j hj => by
          rw [Up, Up, bd, bc, br]
          rcases hj with hj | hj | hj <;> rw [hj] <;> simp
        have nz : ∀ j, zg x.dt i j = true ∨ zg x.ct i j = true ∨ zg x.rm i j = true → (evA x i).k = 1 ∧ jL (d ||| r) (zaW x) = 0 ∧ jL (d ||| c ||| r) (x.po.to i) = 0 := fun j hj => by
          rcases h1 with h1 | h1
          · have := bits j hj
            rw [h1, QC] at this
            cases this
          · exact h1
        refine ⟨fun j hj => ?_, fun j hj => ?_, fun a b ha hb => u a b (by rw [br]; exact ha) (by rw [br]; exact hb), fun j hj => l j (by rw [br]; exact hj)⟩
        · have h2 := (nz j (by rcases hj with hj | hj; exact .inl hj; exact .inr (.inr hj))).2.1
          have h3 := (zdX (KX d64 r64) (zsJ h48)).1 h2 j (by
            rw [Up, bd, br]
            rcases hj with hj | hj <;> rw [hj] <;> simp)
          rw [zlI, Qg] at h3
          exact h3.2
        · have h2 := nz j hj
          exact ⟨Uq h2.1, (zdX (KX (KX d64 c64) r64) (hpo.w i (by omega))).1 h2.2.2 j (bits j hj)⟩
    have hr0 : d ||| c ||| r = 0 → r = 0 := fun h0 => Kd fun j => by
      have := Gi (fun s => s.testBit j) h0
      simp only [Up, QC, Bool.or_eq_false_iff] at this
      rw [QC]; exact this.2
    have qI : ∀ h2, (∀ k j, i + 1 ≤ k → k < x.ev.length → zg x.rm k j = true → (h2.testBit j = false ↔ h.testBit j = false ∧ r.testBit j = false)) → (∀ j, r.testBit j = true → h.testBit j = false) → DepOne x i →
        ((zcG x (zaW x) (i + 1) (x.ev.drop (i + 1)) h2 = true) ↔ (∀ k, i ≤ k → k < x.ev.length → DepOne x k) ∧ (∀ k j, i ≤ k → k < x.ev.length → zg x.rm k j = true → h.testBit j = false) ∧ ∀ k k' j, i ≤ k → k < k' → k' < x.ev.length → zg x.rm k j = true → zg x.rm k' j = true → False) := fun h2 hh hf hi1 => by
      rw [zlg h48 hpo hdt hct hrm m (i + 1) h2 (by omega), sp (DepOne x)]
      constructor
      · rintro ⟨a1, a2, a3⟩
        refine ⟨⟨hi1, a1⟩, fun k j k1 k2 k3 => ?_, fun k k' j k1 k2 k3 k4 k5 => ?_⟩
        · by_cases hk : k = i
          · subst hk
            exact hf j (by rw [br]; exact k3)
          · exact ((hh k j (by omega) k2 k3).1 (a2 k j (by omega) k2 k3)).1
        · by_cases hk : k = i
          · subst hk
            have := ((hh k' j (by omega) k3 k5).1 (a2 k' j (by omega) k3 k5)).2
            rw [br, k4] at this
            cases this
          · exact a3 k k' j (by omega) k2 k3 k4 k5
      · rintro ⟨a1, a2, a3⟩
        refine ⟨a1.2, fun k j k1 k2 k3 => (hh k j k1 k2 k3).2 ⟨a2 k j (by omega) k2 k3, ?_⟩, fun k k' j k1 k2 k3 k4 k5 => a3 k k' j (by omega) k2 k3 k4 k5⟩
        cases hb : r.testBit j with
        | false => rfl
        | true => exact (a3 i k j (UV _) (by omega) k2 (by rw [← br]; exact hb) k3).elim
    by_cases h0 : d ||| c ||| r = 0
    · rw [Gn h0]
      have r0 := hr0 h0
      refine qI h (fun k j _ _ _ => ?_) (fun j hj => ?_) (one.2 ⟨.inl h0, fun a b ha => ?_, fun j hj => ?_⟩)
      · rw [r0, QC]; simp
      · rw [r0, QC] at hj; cases hj
      · rw [r0, QC] at ha; cases ha
      · rw [r0, QC] at hj; cases hj
    rw [Gm h0]
    by_cases hc2 : (evA x i).k = 1 ∧ jL (d ||| r) (zaW x) = 0 ∧ jL (d ||| c ||| r) (x.po.to i) = 0
    · rw [Gn hc2]
      by_cases r0 : r = 0
      · rw [Gn r0]
        refine qI h (fun k j _ _ _ => ?_) (fun j hj => ?_) (one.2 ⟨.inr hc2, fun a b ha => ?_, fun j hj => ?_⟩)
        · rw [r0, QC]; simp
        · rw [r0, QC] at hj; cases hj
        · rw [r0, QC] at ha; cases ha
        · rw [r0, QC] at hj; cases hj
      · rw [Gm r0]
        by_cases hc3 : r = 2 ^ ctz r ∧ h.testBit (ctz r) = false ∧ (evA x (ctz r)).l = (evA x i).l
        · rw [Gn hc3]
          have bz : ∀ j, r.testBit j = true → j = ctz r := fun j hj => by
            rw [hc3.1, j7] at hj
            exact Qb hj
          refine qI (h ||| r) (fun k j _ _ _ => ?_) (fun j hj => ?_) (one.2 ⟨.inr hc2, fun a b ha hb => (bz a ha).trans (bz b hb).symm, fun j hj => ?_⟩)
          · rw [Up, Bool.or_eq_false_iff]
          · rw [bz j hj]; exact hc3.2.1
          · rw [bz j hj]; exact hc3.2.2
        · rw [Gm hc3]
          refine ⟨fun h => (by cases h), fun hall => ?_⟩
          have ho := one.1 (hall.1 i (UV _) hil)
          obtain ⟨j, hj⟩ := zh2 r0
          have hz := (qW.1 (zgK r0 r64)).2
          refine (hc3 ⟨Kd fun a => ?_, hall.2.1 i _ (UV _) hil (by rw [← br]; exact hz), ho.2.2 _ hz⟩).elim
          rw [j7]
          by_cases ha : a = ctz r
          · rw [ha, hz, Uq rfl]
          · rw [Uf ha]
            cases hb : r.testBit a with
            | false => rfl
            | true => exact (ha (ho.2.1 a _ hb hz)).elim
    · rw [Gm hc2]
      refine ⟨fun h => (by cases h), fun hall => ?_⟩
      rcases (one.1 (hall.1 i (UV _) hil)).1 with h1 | h1
      · exact (h0 h1).elim
      · exact (hc2 h1).elim
end
def twl (s:List Nat) (i:Nat):List Nat:=s.takeWhile fun y => !decide (y=i)
theorem zbI (a:Nat) (s:List Nat) (i:Nat):twl (a::s) i=if a=i then [] else a::twl s i:=by
 unfold twl;rw [Kn];by_cases h:a=i
 ·rw [Gn h,Gm (by simp [h])]
 ·rw [Gm h,Gn (by simp [h])]
theorem zgx:∀ {s:List Nat} {i j:Nat},j∈twl s i->j∈s/\j≠i
 | [],i,j,h=>by cases h
 | a::s,i,j,h=>by
  rw [zbI] at h;by_cases ha:a=i
  ·rw [Gn ha] at h;cases h
  ·rw [Gm ha] at h;rcases UB.1 h with rfl | h
   ·exact⟨Kz,ha⟩
   ·exact⟨JW _ (zgx h).1,(zgx h).2⟩
theorem ziq:∀ {s:List Nat} {i j:Nat},i∈s->j∈s->i≠j->(j∈twl s i↔¬ i∈twl s j)
 | [],i,j,h,_,_=>by cases h
 | a::s,i,j,hi,hj,hij=>by
  rw [zbI,zbI];by_cases h1:a=i
  ·rw [Gn h1,Gm (fun h=>hij (h1.symm.trans h))];exact⟨fun h=>(by cases h),fun h=>(h (by rw [h1];exact Kz)).elim⟩
  ·by_cases h2:a=j
   ·rw [Gm h1,Gn h2];exact⟨fun _ h=>(by cases h),fun _=>by rw [h2];exact Kz⟩
   ·rw [Gm h1,Gm h2,UB,UB];have hi2:i∈s:=(by rcases UB.1 hi with h | h;exact (h1 h.symm).elim;exact h);have hj2:j∈s:=(by rcases UB.1 hj with h | h;exact (h2 h.symm).elim;exact h);have:=ziq hi2 hj2 hij;constructor
    ·rintro (h | h) (h' | h')
     ·exact h2 h.symm
     ·exact h2 h.symm
     ·exact h1 h'.symm
     ·exact this.1 h h'
    ·intro h;exact .inr (this.2 fun h'=>h (.inr h'))
theorem zio:∀ {s:List Nat} {i j k:Nat},j∈twl s i->k∈twl s j->k∈twl s i
 | [],i,j,k,h,_=>by cases h
 | a::s,i,j,k,h1,h2=>by
  rw [zbI] at h1 h2 ⊢;by_cases ha:a=i
  ·rw [Gn ha] at h1;cases h1
  ·rw [Gm ha] at h1 ⊢;by_cases hb:a=j
   ·rw [Gn hb] at h2;cases h2
   ·rw [Gm hb] at h2;rcases UB.1 h2 with rfl | h2
    ·exact Kz
    ·rcases UB.1 h1 with h1 | h1
     ·exact (hb h1.symm).elim
     ·exact JW _ (zio h1 h2)
theorem zev:∀ (l:List Nat) (f:Nat->Nat) (b:Nat),l.Nodup->∀ i j,(zeh l f b i).testBit j=if i∈l then (b.testBit j||decide (j∈twl l i)) else (f i).testBit j
 | [],f,b,_,i,j=>by rw [Gm Qu];rfl
 | a::l,f,b,hn,i,j=>by
  have hn2:=QT.1 hn;show (zeh l (upd f a b) (b|||2^a) i).testBit j=_;rw [zev l _ _ hn2.2,zbI];by_cases hia:i=a
  ·subst hia;rw [Gm hn2.1,Gn Kz,zP,Gn rfl];simp
  ·rw [Gm (show ¬ a=i from fun e=>hia e.symm)];by_cases hi:i∈l
   ·rw [Gn hi,Gn (JW _ hi),Up,j7,Bool.or_assoc];congr 1;rw [Bool.eq_iff_iff,QF,dE,dE,dE,UB]
   ·rw [Gm hi,Gm (fun h=>by rcases UB.1 h with h | h;exact hia h;exact hi h),qr _ _ hia]
theorem zhF {key:Nat->Nat} {y:Nat}:∀ {r:List Nat},r.Pairwise (fun a b=>key a<=key b)->(jo key r y).Pairwise (fun a b=>key a<=key b)
 | [],_=>List.pairwise_singleton _ _
 | z::r,h=>by
  have h2:=List.pairwise_cons.1 h;unfold jo
  split
  ·rename_i hlt;refine List.pairwise_cons.2 ⟨fun a ha=>?_,zhF h2.2⟩;rcases (zez r).1 ha with rfl | ha
   ·omega
   ·exact h2.1 a ha
  ·rename_i hlt;refine List.pairwise_cons.2 ⟨fun a ha=>?_,h⟩;rcases UB.1 ha with rfl | ha
   ·omega
   ·have:=h2.1 a ha;omega
theorem zmJ {key:Nat->Nat}:∀ (l acc:List Nat),acc.Pairwise (fun a b=>key a<=key b)->(l.foldl (fun acc x=>jo key acc x) acc).Pairwise (fun a b=>key a<=key b)
 | [],_,h=>h
 | y::l,acc,h=>zmJ l _ (zhF h)
theorem zjk (key:Nat->Nat) (l:List Nat):(zcw key l).Pairwise (fun a b=>key a<=key b):=zmJ l [] .nil
theorem zcv {key:Nat->Nat} {l:List Nat} {a:Nat}:a∈zcw key l↔a∈l:=by
 have:a∈(zcw key l).reverse↔a∈l:=zfx
 rwa [List.mem_reverse] at this
theorem zf5 {key:Nat->Nat}:∀ {s:List Nat},s.Pairwise (fun a b=>key a<=key b)->s.Nodup->(∀ a b,a∈s->b∈s->a≠b->key a≠key b)->s.Pairwise (fun a b=>key a<key b)
 | [],_,_,_ => .nil
 | a::s,h,hn,hi=>by
  have h2:=List.pairwise_cons.1 h;have hn2:=QT.1 hn;refine List.pairwise_cons.2 ⟨fun b hb=>?_,zf5 h2.2 hn2.2 fun c d hc hd=>hi c d (JW _ hc) (JW _ hd)⟩;have h3:=h2.1 b hb;have h4:=hi a b Kz (JW _ hb) (fun e=>hn2.1 (by rw [e];exact hb));omega
theorem znA {f g:Nat->Bool}:∀ {n:Nat},(∀ i,i<n->f i=true->g i=true->False)->zee f n+zee g n=zee (fun i=>f i||g i) n
 | 0,_=>rfl
 | n+1,h=>by
  have ih:=znA (f:=f) (g:=g) (n:=n) fun i hi=>h i (by omega);have:=h n (Qz _);rw [zcH,zcH,zcH,<- ih]
  cases hf:f n <;> cases hg:g n <;> simp [hf,hg] at this ⊢ <;> omega
theorem zqu {a:Nat}:∀ {n:Nat},a<n->zee (fun b=>decide (b=a)) n=1
 | 0,h=>Gp h (QZ _)
 | n+1,h=>by
  rw [zcH];by_cases e:n=a
  ·subst e;rw [Gn (Uq rfl),zqt fun k hk=>Uf (by omega)]
  ·rw [Gm (by simp [e]),zqu (by omega)]
theorem zlp {f g:Nat->Bool}:∀ {n:Nat},(∀ i,i<n->f i=true->g i=true)->zee f n<=zee g n
 | 0,_=>UV _
 | n+1,h=>by
  have ih:=zlp (f:=f) (g:=g) (n:=n) fun i hi=>h i (by omega);have:=h n (Qz _);rw [zcH,zcH]
  cases hf:f n <;> cases hg:g n <;> simp [hf,hg] at this ⊢ <;> omega
theorem zh0 {f g:Nat->Bool} {n j:Nat} (h:∀ i,i<n->f i=true->g i=true) (hj:j<n) (h1:f j=false) (h2:g j=true):zee f n<zee g n:=by
 have e:=znA (f:=f) (g:=fun b=>decide (b=j)) (n:=n) fun i hi hf hd=>by
  have:i=j:=dT hd;rw [this,h1] at hf;cases hf
 rw [zqu hj] at e;have:=zlp (f:=fun i=>f i||decide (i=j)) (g:=g) (n:=n) fun i hi hor=>by
  rw [QF,dE] at hor;rcases hor with h3 | h3
  ·exact h i hi h3
  ·rw [h3];exact h2
 omega
theorem zkZ (s:Nat):zbT s=zee (fun j=>s.testBit j) 64:=rfl
section
variable {x:ExD}
abbrev sG (x:ExD) (l:Nat):List Nat:=zcw (zbU x) (zT x l)
theorem zkl (l:Nat):(sG x l).Nodup:=by
 have:=zg7 (x:=x) l;exact (List.reverse_perm _).nodup_iff.1 this
theorem zkE (l:Nat):zO x l=(sG x l).reverse:=rfl
theorem zbF {l a:Nat}:a∈zT x l↔a<x.ev.length/\isW x a=true/\(evA x a).l.toNat=l:=by
 unfold zT isW;rw [QR,Um,bAT,dE,dE]
def zfB (x:ExD):Nat->Nat->RelD×(Nat->UInt8)->RelD×(Nat->UInt8)
 | 0,_,p=>p
 | m+1,l,p=>zfB x m (l+1) (j9 (zO x l) p.1,upd p.2 l (zcb x.ev (zO x l)))
theorem zfl:∀ (m l:Nat) (p q:RelD×(Nat->UInt8)),zfm x m l p=some q↔(∀ k,l<=k->k<l+m->(zO x k).headD 48=k)/\q=zfB x m l p
 | 0,l,p,q=>⟨fun h=>⟨fun k h1 h2=>by omega,(Ud h).symm⟩,fun h=>by rw [h.2];rfl⟩
 | m+1,l,p,q=>by
  unfold zfm;by_cases hd:(zO x l).headD 48=l
  ·rw [Gn hd,zfl m (l+1)];refine⟨fun h=>⟨fun k h1 h2=>?_,h.2⟩,fun h=>⟨fun k h1 h2=>h.1 k (by omega) (by omega),h.2⟩⟩;by_cases hk:k=l
   ·rw [hk];exact hd
   ·exact h.1 k (by omega) (by omega)
  ·rw [Gm hd];exact⟨fun h=>(by cases h),fun h=>(hd (h.1 l (UV _) (by omega))).elim⟩
theorem zpP {l:Nat} {r:RelD} {i j:Nat}:zg (j9 (zO x l) r) i j=if i∈zT x l then decide (j∈twl (sG x l) i) else zg r i j:=by
 unfold zg j9;rw [zkE,Kb];show (zeh (sG x l) r.to 0 i).testBit j=_;rw [zev _ _ _ (zkl l),QC,Ut];by_cases h:i∈zT x l
 ·rw [Gn h,Gn (zcv.2 h)]
 ·rw [Gm h,Gm (fun h2=>h (zcv.1 h2))]
theorem zkw:∀ (m l:Nat) (p:RelD×(Nat->UInt8)),(zfB x m l p).1.n=p.1.n/\(∀ i j,zg (zfB x m l p).1 i j=true↔(∃ k,l<=k/\k<l+m/\i∈zT x k/\j∈twl (sG x k) i)\/((∀ k,l<=k->k<l+m->i ∉ zT x k)/\zg p.1 i j=true)) /\
  ∀ k,(zfB x m l p).2 k=if l<=k/\k<l+m then zcb x.ev (zO x k) else p.2 k
 | 0,l,p=>⟨rfl,fun i j=>⟨fun h => .inr ⟨fun k h1 h2=>by omega,h⟩,fun h=>by
   rcases h with ⟨k,h1,h2,_⟩ | h
   ·omega
   ·exact h.2⟩,fun k=>(Gm (by omega)).symm⟩
 | m+1,l,p=>by
  obtain⟨h1,h2,h3⟩:=zkw m (l+1) (j9 (zO x l) p.1,upd p.2 l (zcb x.ev (zO x l)));refine⟨h1,fun i j=>?_,fun k=>?_⟩
  ·show zg (zfB x m (l+1) _).1 i j=true↔_;rw [h2,zpP];have uniq:∀ {k k'},i∈zT x k->i∈zT x k'->k=k':=fun a b=>(zbF.1 a).2.2.symm.trans (zbF.1 b).2.2;constructor
   ·rintro (⟨k,a1,a2,a3,a4⟩ | ⟨a1,a2⟩)
    ·exact .inl ⟨k,by omega,by omega,a3,a4⟩
    ·by_cases hi:i∈zT x l
     ·rw [Gn hi] at a2;exact .inl ⟨l,UV _,by omega,hi,dT a2⟩
     ·rw [Gm hi] at a2;refine .inr ⟨fun k b1 b2=>?_,a2⟩;by_cases hk:k=l
      ·rw [hk];exact hi
      ·exact a1 k (by omega) (by omega)
   ·rintro (⟨k,a1,a2,a3,a4⟩ | ⟨a1,a2⟩)
    ·by_cases hk:k=l
     ·subst hk;refine .inr ⟨fun k' b1 b2 b3=>?_,by rw [Gn a3];exact Uq a4⟩;have:=uniq a3 b3;omega
     ·exact .inl ⟨k,by omega,by omega,a3,a4⟩
    ·exact .inr ⟨fun k b1 b2=>a1 k (by omega) (by omega),by rw [Gm (a1 l (UV _) (by omega))];exact a2⟩
  ·show (zfB x m (l+1) _).2 k=_;rw [h3];by_cases hk:l+1<=k/\k<l+1+m
   ·rw [Gn hk,Gn (by omega)]
   ·rw [Gm hk];by_cases hkl:k=l
    ·subst hkl;rw [Gn (by omega)];show upd p.2 k _ k=_;exact zP _ _ _
    ·rw [Gm (by omega)];exact qr _ _ hkl
theorem zln (hco:RelOk x.ev.length x.co) {locs:Nat}:j8 x locs=true↔(∀ k,k<locs->(zO x k).headD 48=k)/\(∀ i j,i<48->(zg x.co i j=true↔∃ k,k<locs/\i∈zT x k/\j∈twl (sG x k) i))/\∀ k,k<6->x.mem k=if k<locs then zcb x.ev (zO x k) else 0:=by
 obtain⟨p0,hp0⟩:∃ p0:RelD×(Nat->UInt8),p0=(⟨x.ev.length,fun _=>0⟩,fun _=>0):=⟨_,rfl⟩;obtain⟨r1,r2,r3⟩:=zkw (x:=x) locs 0 p0;have z:∀ i j,zg p0.1 i j=false:=fun i j=>by rw [hp0];exact QC _
 have r2':∀ i j,zg (zfB x locs 0 p0).1 i j=true↔∃ k,k<locs/\i∈zT x k/\j∈twl (sG x k) i:=fun i j=>by
  rw [r2];constructor
  ·rintro (⟨k,_,h2,h3⟩ | ⟨_,h⟩)
   ·exact⟨k,by omega,h3⟩
   ·rw [z] at h;cases h
  ·rintro⟨k,h2,h3⟩;exact .inl ⟨k,UY _,by omega,h3⟩
 have r3':∀ k,(zfB x locs 0 p0).2 k=if k<locs then zcb x.ev (zO x k) else 0:=fun k=>by
  rw [r3];by_cases hk:k<locs
  ·rw [Gn (by omega),Gn hk]
  ·rw [Gm (by omega),Gm hk,hp0]
 have e:j8 x locs=match zfm x locs 0 p0 with
  | none=>false
  | some p=>qP p.1 x.co&&(List.range 6).all fun l=>decide (p.2 l=x.mem l):=by rw [hp0];rfl
 rw [e];by_cases hd:∀ k,k<locs->(zO x k).headD 48=k
 ·rw [(zfl locs 0 p0 (zfB x locs 0 p0)).2 ⟨fun k _ h=>hd k (by omega),rfl⟩];dsimp only;rw [bAT,Qi];constructor
  ·rintro⟨h1,h2⟩;refine⟨hd,fun i j hi=>?_,fun k hk=>?_⟩
   ·rw [<- zfD h1 hi];exact r2' i j
   ·rw [<- r3'];exact (dT (h2 k (Um.2 hk))).symm
  ·rintro⟨_,h2,h3⟩;refine⟨?_,fun k hk=>Uq (by rw [r3'];exact (h3 k (Um.1 hk)).symm)⟩;unfold qP;rw [bAT,dE,Qi];refine⟨by rw [r1,hp0];exact hco.n.symm,fun i hi=>Uq (Kd fun j=>?_)⟩;have:=(r2' i j).trans (h2 i j (Um.1 hi)).symm;exact Bool.eq_iff_iff.2 this
 ·cases hg:zfm x locs 0 p0 with
  | none=>exact⟨fun h=>(by cases h),fun h=>(hd h.1).elim⟩
  | some q=>exact (hd fun k hk=>((zfl locs 0 p0 q).1 hg).1 k (UY _) (by omega)).elim
end
inductive TC (R:Nat->Nat->Prop):Nat->Nat->Prop
 | one {a b:Nat} (h:R a b):TC R a b
 | step {a b c:Nat} (h:TC R a b) (k:R b c):TC R a c
theorem TC.first {R:Nat->Nat->Prop} {a b c:Nat} (h:R a b) (k:TC R b c):TC R a c:=by
 induction k with
 | one k=>exact .step (.one h) k
 | step _ k2 ih=>exact .step ih k2
theorem TC.trans {R:Nat->Nat->Prop} {a b c:Nat} (h:TC R a b) (k:TC R b c):TC R a c:=by
 induction k with
 | one k=>exact .step h k
 | step _ k2 ih=>exact .step ih k2
section
variable {n:Nat} {a:RelD}
def zdn (n:Nat) (r:RelD) (i j:Nat):Prop:=i<n/\zg r i j=true
theorem zmT (h:RelOk n a):∀ i j,zdn n a i j->i<n/\j<n:=fun i j hij=>⟨hij.1,(h.bit (by have:=h.le;have:=hij.1;omega) hij.2).2⟩
open Classical in
theorem acy_tc (h:RelOk n a):zaO a=true↔∀ i,¬ TC (zdn n a) i i:=by
 have h48:=h.le;rw [znM h];have bk:∀ i,i<64->∀ j,((zX a).to i).testBit j=(decide (j<n)&&zg a j i):=fun i hi j=>zbj h hi;have dom:∀ {i j},TC (zdn n a) i j->i<n/\j<n:=fun {i j} ht=>by
  induction ht with
  | one k=>exact zmT h _ _ k
  | step _ k ih=>exact⟨ih.1,(zmT h _ _ k).2⟩
 constructor
 ·intro hf i hi;obtain⟨S,hS⟩:=nm (zfA n fun v=>decide (TC (zdn n a) i v/\TC (zdn n a) v i));have sb:∀ v,S.testBit v=true↔v<n/\TC (zdn n a) i v/\TC (zdn n a) v i:=fun v=>by
   rw [hS,zgA,bAT,dE,dE]
  have hii:=(sb i).2 ⟨(dom hi).1,hi,hi⟩;obtain⟨v,hv,h0⟩:=hf S (fun e=>by rw [e,QC] at hii;cases hii) (Kd fun j=>by
   rw [Ua]
   cases hb:S.testBit j with
   | false=>rfl
   | true =>
    have:=((sb j).1 hb).1;rw [zbo (by omega) (by omega) (by omega)];rw [Uw];exact Uq (by omega))
  have hv2:=qW.1 hv;obtain⟨hvn,t1,t2⟩:=(sb v).1 hv2.2;have no:∀ u,zdn n a u v->S.testBit u=true->False:=fun u hu hS2=>by
   have:=Gi (fun s=>s.testBit u) h0;simp only [Ua,QC] at this;rw [hS2,bk v hv2.1,Uq hu.1,hu.2] at this
   cases this
  cases t1 with
  | one k=>exact no i k hii
  | step t k =>
   rename_i u;exact no u k ((sb u).2 ⟨k.1,t,.first k t2⟩)
 ·intro hno S hS he;refine Jp fun hn=>?_;have every:∀ v,v∈els S->∃ u,u∈els S/\zdn n a u v:=fun v hv=>by
   have h1:¬ (zX a).to v&&&S=0:=fun e=>hn ⟨v,hv,e⟩;obtain⟨u,hu⟩:=zh2 h1;rw [Ua,bAT,bk v (qW.1 hv).1,bAT,dE] at hu;exact⟨u,qW.2 ⟨by omega,hu.2⟩,hu.1.1,hu.1.2⟩
  have desc:∀ m v,v∈els S->zee (fun u=>decide (TC (zdn n a) u v)) n=m->False:=fun m=>by
   induction m using Nat.strongRecOn with
   | _ m ih =>
    intro v hv hm;obtain⟨u,hu,huv⟩:=every v hv;refine ih (zee (fun w=>decide (TC (zdn n a) w u)) n) ?_ u hu rfl;rw [<- hm];exact zh0 (j:=u) (fun w _ hw=>Uq (.step (dT hw) huv)) huv.1 (Uf (hno u)) (Uq (.one huv))
  obtain⟨v,hv⟩:=zh2 hS;have hv64:v<64:=by
   have h2:=hv;rw [<- he,Ua,bAT] at h2;refine Qy fun hge=>?_;rw [JH (nL (zaK n) (Ke (by decide) hge))] at h2
   cases h2.2
  exact desc _ v (qW.2 ⟨hv64,hv⟩) rfl
end
section
variable {x:ExD}
def zt8 (x:ExD):RelD:=(zal (zal x.po x.rf).1 (zal x.co (frM x)).1).1
theorem zdM (h:XOk x) {i j:Nat} (hi:i<x.ev.length):zg (zt8 x) i j=(zg x.po i j||zg x.rf i j||(zg x.co i j||zg (frM x) i j)):=by
 unfold zt8;rw [zdR (h.po.union h.rf) (h.co.union (zck h)) hi,zdR h.po h.rf hi,zdR h.co (zck h) hi]
theorem zqq (h:XOk x) {i j:Nat} (hi:i<x.ev.length) (hj:j<x.ev.length) (wi:isW x i=true) (wj:isW x j=true) (hl:(evA x i).l=(evA x j).l) (hne:i≠j) (hlt:(evA x i).l.toNat<qF x.ev):zg x.co i j=true\/zg x.co j i=true:=by
 have h48:=h.n;obtain⟨_,hco,_⟩:=(zln h.co).1 h.coR;have mi:i∈zT x (evA x i).l.toNat:=zbF.2 ⟨hi,wi,rfl⟩;have mj:j∈zT x (evA x i).l.toNat:=zbF.2 ⟨hj,wj,by rw [hl]⟩;have si:i∈sG x (evA x i).l.toNat:=zcv.2 mi;have sj:j∈sG x (evA x i).l.toNat:=zcv.2 mj;by_cases ht:j∈twl (sG x (evA x i).l.toNat) i
 ·exact .inl ((hco i j (by omega)).2 ⟨_,hlt,mi,ht⟩)
 ·have ht2:i∈twl (sG x (evA x i).l.toNat) j:=Jp fun hn=>ht ((ziq si sj hne).2 hn);exact .inr ((hco j i (by omega)).2 ⟨_,hlt,mj,ht2⟩)
end
end Go.Proofs.YtkpaomeeknegpaaGreatDoor
