/- Contracts of functions, and plain facts, for the law that the last text of this claim proves. -/
import Derived.Test.YtkpaomeeknegpaaGreatDoorR3
import Derived.Test.YtkpaomeeknegpaaGreatDoorR2
import Derived.Test.YtkpaomeeknegpaaGreatDoorR1
import Derived.Sort.AssemblyPlain
set_option linter.unusedSimpArgs false
set_option linter.unusedVariables false
namespace Go.Proofs.YtkpaomeeknegpaaGreatDoor
open Go.Vc Go.RowKit Go.Sei
structure PathB (locs:Nat) (P:PathD):Prop where
 ev:P.ev.length<=24
 loc:∀ e∈P.ev,e.k=1\/e.k=2->e.l.toNat<locs
 dt:∀ p∈P.data,p.1<P.ev.length/\p.2<P.ev.length
 ct:∀ p∈P.ctrl,p.1<P.ev.length/\p.2<P.ev.length
 rm:∀ p∈P.rmw,p.1<P.ev.length/\p.2<P.ev.length
 dtl:P.data.length<=100000
 ctl:P.ctrl.length<=100000
 rml:P.rmw.length<=100000
structure PthS (B:Nat) (w:Wd) (x:zdz):Prop where
 lt:∀ a,x.2.2.1.1=some a\/x.2.2.2.1.1=some a\/x.2.2.2.2.1=some a->a.block<B
 ev:SlR evE w x.2.1.1 x.1.ev
 dt:SlR prE w x.2.2.1.1 x.1.data
 ct:SlR prE w x.2.2.2.1.1 x.1.ctrl
 rm:SlR prE w x.2.2.2.2.1 x.1.rmw
theorem PthS.below {B:Nat} {w X:Wd} {x:zdz} (h:PthS B w x) (hb:Bw w X):PthS B X x:=⟨h.lt,h.ev.below hb,h.dt.below hb,h.ct.below hb,h.rm.below hb⟩
theorem z8:∀ (vs:List UInt8) (l:Nat),(qI l vs).length=vs.length
 | [],_=>rfl
 | v::vs,l=>by
  show (qI (l+1) vs).length+1=vs.length+1;rw [z8 vs]
theorem zbd:∀ (vs:List UInt8) (l:Nat) {k:Nat} (h:k<vs.length),(qI l vs)[k]?=some ⟨-1,2,UInt8.ofNat (l+k),vs[k],0,0,0⟩
 | [],_,_,h=>by cases h
 | v::vs,l,0,_=>rfl
 | v::vs,l,k+1,h=>by
  show (qI (l+1) vs)[k]?=_;rw [zbd vs (l+1) (Nat.lt_of_succ_lt_succ h),UE,UM 1 k];rfl
theorem zk8 {vs:List UInt8} {k:Nat} (h:k<vs.length):(qI 0 vs).take (k+1)=(qI 0 vs).take k++[⟨-1,2,UInt8.ofNat k,vs[k],0,0,0⟩]:=by
 have hl:k<(qI 0 vs).length:=by rw [z8];exact h
 have:=zbd vs 0 h;rw [gE hl,US] at this;rw [tsg hl,Uf this]
theorem zgQ (n:Nat) (Ps:List PathD):n<=Ps.foldl (fun n P=>n+P.ev.length) n:=by
 induction Ps generalizing n with
 | nil=>exact UY _
 | cons P Ps ih=>exact UO (Qy _ _) (ih (n+P.ev.length))
theorem zuS {B c:Nat} {V1:Wd} {p:OA} {l:List Ev} {y:Ev} {a:Addr} (ho:OwnS evE 49 B V1 p c l) (ha:zF V1 a ([y].flatMap evE.enc)) (hB:B<=V1.heap.size) (hl:l.length<=100000) {K:Value->Wd->Prop}
  (h:∀ p' c' w',OwnS evE 49 B w' p' c' (l++[y])->V1.grownBy w' (p.map Addr.block)->(∀ a,p'=some a->p=some a\/a.block=V1.heap.size)->K (.slice p' (l++[y]).length c') w') :
  SatR ((Builtin.append_ #[34,34] 34 #[.slice p l.length c,.slice (some a) 1 1]).run PG V1) K :=
 jF (E:=evE) (T:=49) (B:=B) (l:=l) (news:=[y]) (cap:=c) (m:=1) Tryz.underlying34 k49 rfl rfl rfl ho rfl ha hB (by omega) (by show (l.length+1)*16<=_;omega) fun p' c' w' a1 a2 _ a4=>h p' c' w' a1 (by rw [zaH] at a2;exact a2) a4
theorem zpB {f g:Nat->UInt8}:∀ {k:Nat},k<4->(seg 32 (fun i=>u8 (f i))).take (k*8)++seg 8 (fun i=>u8 (g i))++(seg 32 (fun i=>u8 (f i))).drop (k*8+8)=seg 32 (fun i=>u8 (if i/8=k then g (i%8) else f i))
 | 0,_=>by kernel_rfl
 | 1,_=>by kernel_rfl
 | 2,_=>by kernel_rfl
 | 3,_=>by kernel_rfl
 | k+4,h=>by omega
theorem zkM {A Z l r:List Value} {n o m:Nat} (hA:A.length=n) (hl:o+m<=l.length) (hr:r.length=m):(A++(l++Z)).take (n+o)++r++(A++(l++Z)).drop (n+o+m)=A++((l.take o++r++l.drop (o+m))++Z):=by
 subst hA;rw [List.take_length_add_append,Jg (by omega),UE,Jj,List.drop_append_of_le_length hl];simp only [KO]
theorem zq3 (k:Nat) (P:PathD) (Ps:List PathD) (x:ExD):asR k (P::Ps) x=asR (k+1) Ps (zbu x k P):=rfl
theorem zob {k:Nat} {l:List Ev} {j:Nat} (h:j<l.length):j0 k (l.take (j+1))=j0 k (l.take j)++[{ l[j] with th:=k }]:=by
 rw [tsg h];unfold j0;rw [QR];rfl
theorem zct {n f:Nat} {ps:List (Nat×Nat)} (h:∀ p∈ps,p.1<n/\p.2<n) (hf:f+n<=48):zpQ f ps:=fun p hp=>⟨by have:=(h p hp).1;omega,by have:=(h p hp).2;omega⟩
def zuX (B:Nat) (w:Wd) (vs:List Value) (m:MixD):Prop :=
 ∃ (q p1 p2 p3:OA) (c c1 c2 c3:Nat) (xs ys:List zaQ),vs=exC m.base q c++[.slice p1 m.rs.length c1,.slice p2 xs.length c2,.slice p3 ys.length c3]/\OwnS evE 49 B w q c m.base.ev /\
  OwnS zB 3 B w p1 c1 (m.rs.map (·.1))/\xs.map (·.1)=m.rs.map (·.2)/\OwnS jg 62 B w p2 c2 xs/\(∀ y∈xs,OwnS zB 3 B w y.2.1 y.2.2 y.1) /\
   ys.map (·.1)=m.wr/\OwnS jg 62 B w p3 c3 ys/\∀ y∈ys,OwnS zB 3 B w y.2.1 y.2.2 y.1
section
variable {w:Wd} {bP cl cp ci:Nat} {pc:List Value} {pl pp pi:OA} {init:List UInt8} {Ps:List zdz}
theorem zmN (fP:w.heap[bP]?=some (.cells pc.toArray 29 (0,0))) (h1:pc[1]?=some (.slice pl init.length cl)) (h2:pc[2]?=some (.slice pi init.length ci)) (hi:SlR zV w pi init) (hi6:init.length<=6)
  (hP:SlR jX w pp Ps) (hPs:∀ x∈Ps,PthS w.heap.size w x) (hPb:∀ x∈Ps,PathB init.length x.1) (hP4:Ps.length<=4) :
  Calls PG 76 #[At0 bP,.slice pp Ps.length cp] w fun e w'=>(∃ vs,match zhr init (Ps.map (·.1)) with
   | some m=>e = .returned (.tuple #[.agg vs.toArray,.bool true])/\zuX w.heap.size w' vs m
   | none=>e = .returned (.tuple #[.agg vs.toArray,.bool false])/\vs=zda)/\Bw w w':=by
 refine qj 143 [At0 bP,.slice pp Ps.length cp] (.c .p (.s .p (.c .p (.s .p (.s .p (.c .p (.c .p (.c .p (.c .p (.c .p .p)))))))))) Tryz.func76 ?_;obtain⟨L,hL⟩:=nm (w.heap.size);obtain⟨N,hN⟩:=nm (zbv init.length (Ps.map (·.1)));have hbP:=hlt fP;refine⟨Unit,fun _=>⟨[(0,At0 bP),(1,.slice pp Ps.length cp),(4,At0 L)],[]⟩,fun _ X=>X.heap[L]?=some (.cells (zda).toArray 95 (0,0))/\Bw w X,?_,?_⟩
 ·exact⟨(),⟨.cons rfl (.cons rfl (.cons (by rw [hL];rfl) .nil)),rfl⟩,by rw [hL];exact zu w _,(zba w _)⟩
 rintro _ X ⟨f0,hbX⟩;have ldP:∀ {X:Wd},Bw w X->∀ {i:Nat} {v:Value},pc[i]?=some v->X.cell? ⟨bP,0+i,none⟩=some v:=fun {X} hb {i v} h=>zc (za ((hb.block bP hbP).trans fP)) (by simpa using h);refine⟨_,ldP hbX h1,Unit,fun _=>⟨[(0,At0 bP),(1,.slice pp Ps.length cp),(4,At0 L),(6,i64 N)],[]⟩,fun _ X=>X.heap[L]?=some (.cells (zda).toArray 95 (0,0))/\Bw w X,?_,?_⟩
 ·refine⟨Nat×Nat,fun s=>⟨[(0,At0 bP),(1,.slice pp Ps.length cp),(4,At0 L),(6,i64 (s.2:Nat)),(23,.slice pp Ps.length cp),(24,i64 Ps.length),(25,i64 (s.1:Nat))],[]⟩,
   fun s Y=>s.1<=Ps.length/\s.2<=init.length+24*s.1/\((Ps.map (·.1)).drop s.1).foldl (fun n P=>n+P.ev.length) s.2=N/\Y.heap[L]?=some (.cells (zda).toArray 95 (0,0))/\Bw w Y,fun s=>Ps.length-s.1,(0,init.length),
   (cvE rfl rfl),⟨Gb _,UY _,hN.symm,f0,hbX⟩,?_⟩
  clear f0 hbX;rintro⟨k,n⟩ Y ⟨hk,hn,hacc,f0,hbY⟩;dsimp only at hk hn hacc ⊢;refine biE (fun hc=>?_) fun hc=>?_
  ·have hc:(k:Int)<(Ps.length:Int):=dT hc;have hkl:k<Ps.length:=by omega
   obtain⟨x,hx⟩:∃ x,Ps[k]=x:=⟨_,rfl⟩;have hxm:x∈Ps:=by rw [<- hx];exact gM hkl
   have hdp:(Ps.map (·.1)).drop k=x.1::(Ps.map (·.1)).drop (k+1):=by
    rw [<- JF (show k<(Ps.map (·.1)).length by simpa using hkl)];simp [hx]
   rw [hdp] at hacc;have hev:=(hPb x hxm).ev;obtain⟨bp,op,rfl,hlp,hat⟩:=hP.at hkl;refine⟨k,rfl,hkl,jX.enc x,jX.len x,by rw [<- hx];exact zq hbY (hat k hkl),nL hlp hbY.size,zo (X:=Y) (v := .agg (jX.enc x).toArray) zoK (jX.len x) rfl (Qj.2 fun u hu=>jX.one x u hu) fun Z hbZ fZ sZ=>?_⟩;have fZ:Z.heap[Y.heap.size]?=some (.cells (jX.enc x).toArray 138 (0,0)):=fZ;exact⟨.slice x.2.1.1 x.1.ev.length x.2.1.2,zc (za fZ) (i:=0) rfl,((n+x.1.ev.length:Nat):Int),(ze (by omega)).trans (by omega),nxI (by omega) ⟨(k+1,n+x.1.ev.length),(cvE rfl rfl),⟨hkl,by show n+x.1.ev.length<=init.length+24*(k+1);omega,hacc,zb hbZ f0,(zst hbY hbZ)⟩,zdc (by omega)⟩⟩
  ·have hc:¬ (k:Int)<(Ps.length:Int):=dF hc;rw [JB (by rw [QN];omega)] at hacc;have hacc:n=N:=hacc;subst hacc;exact⟨(),(cvE rfl rfl),f0,hbY⟩
 clear f0 hbX;rintro _ X ⟨f0,hbX⟩;have hmr:zhr init (Ps.map (·.1))=if N<=48 then some (zad (j9 init (Ps.map (·.1))) init.length) else none:=by rw [hN];rfl
 have hLX:=hlt f0;refine biE (fun h=>?_) fun h=>?_
 ·have h:(48:Int)<(N:Nat):=dT h;rw [hmr,Gq (by omega)];refine⟨zda,by kernel_rfl,?_⟩;exact zt (v := .agg (zda).toArray) k95 f0 jK jK (by kernel_rfl) ⟨zda,jK,za (zm f0),⟨_,rfl,rfl⟩,zl hbX (by omega) _⟩
 have h:¬ (48:Int)<(N:Nat):=dF h;have hN48:N<=48:=by omega
 rw [hmr,Gr hN48];refine cmo zsj ?_;rintro e Y ⟨rfl,hbY⟩;refine⟨exC (ex0 N) none 0++[z4,z4,z4],by kernel_rfl,?_⟩;refine zo (X:=Y) (v := .agg (exC (ex0 N) none 0++[z4,z4,z4]).toArray) k95 (by show (exC (ex0 N) none 0++[z4,z4,z4]).length=_;rw [lap,zA];rfl) jK (by show (exC (ex0 N) none 0++[z4,z4,z4]).all _=true;rw [QJ,za0];rfl) fun V hbV fV sV=>⟨Nat,fun M=>⟨[(0,At0 bP),(1,.slice pp Ps.length cp),(4,At0 L),(9,At0 M),(10,At0 M)],[]⟩,fun M X=>L<M/\zbg X M (ex0 N) none 0 [z4,z4,z4]/\X.heap[L]?=some (.cells (zda).toArray 95 (0,0))/\Bw w X,?_,?_⟩
 ·exact⟨Y.heap.size,(cvE rfl rfl),by have:=hbY.size;omega,fV,zb hbV (zb hbY f0),((zst hbX hbY)).trans (hbV.mono (by have:=hbX.size;have:=hbY.size;omega))⟩
 clear fV sV hbV V hbY Y;clear f0 hbX hLX;rintro M X ⟨hLM,fM,f0,hbX⟩;dsimp only at fM ⊢;refine⟨OA×Nat,fun _=>⟨[(0,At0 bP),(1,.slice pp Ps.length cp),(4,At0 L),(9,At0 M),(10,At0 M)],[]⟩,fun s X=>zbg X M { ex0 N with ev:=qI 0 init } s.1 s.2 [z4,z4,z4]/\OwnS evE 49 w.heap.size X s.1 s.2 (qI 0 init)/\X.heap[L]?=some (.cells (zda).toArray 95 (0,0))/\Bw w X,?_,?_⟩
 ·refine⟨_,ldP hbX h2,?_⟩;refine⟨Nat×OA×Nat,fun s=>⟨[(0,At0 bP),(1,.slice pp Ps.length cp),(4,At0 L),(9,At0 M),(10,At0 M),(45,.slice pi init.length ci),(46,i64 init.length),(47,i64 (s.1:Nat))],[]⟩,
   fun s Y=>s.1<=init.length/\zbg Y M { ex0 N with ev:=(qI 0 init).take s.1 } s.2.1 s.2.2 [z4,z4,z4]/\OwnS evE 49 w.heap.size Y s.2.1 s.2.2 ((qI 0 init).take s.1)/\Y.heap[L]?=some (.cells (zda).toArray 95 (0,0))/\Bw w Y,fun s=>init.length-s.1,(0,none,0),
   (cvE rfl rfl),⟨Gb _,fM,OwnS.nil,f0,hbX⟩,?_⟩
  clear fM f0 hbX;rintro⟨k,q,c⟩ Y ⟨hk,fM,ho,f0,hbY⟩;dsimp only at hk fM ho ⊢;refine biE (fun hc=>?_) fun hc=>?_
  ·have hc:(k:Int)<(init.length:Int):=dT hc;have hkl:k<init.length:=by omega
   obtain⟨bi,oi,rfl,hli,hat⟩:=hi.at hkl;have htk:=zk8 hkl;have htl:((qI 0 init).take k).length=k:=by rw [Qu,z8];omega
   refine⟨k,rfl,hkl,u8 init[k],zc (zq hbY (hat k hkl)) (i:=0) rfl,_,zcS fM,_,w8N k,?_⟩;obtain⟨e,he⟩:∃ e:Ev,e=⟨-1,2,UInt8.ofNat k,init[k],0,0,0⟩:=⟨_,rfl⟩;refine⟨evE.enc e,by rw [he];rfl,?_⟩;refine⟨⟨by decide,by decide,rfl⟩,evE.enc e,zaZ rfl rfl,?_⟩;obtain⟨Y1,hY1⟩:=nm (Y.alloc (.cells (evE.enc e).toArray 49));have hb1:Bw Y Y1:=by rw [hY1];exact (zba _ _)
   have sY:=hbY.size;have ho1:=ho.below hb1;unfold zdY zax;show SatR _ _;rw [<- hY1];refine zuS ho1 (by rw [hY1];exact qS evE e) (by have:=hb1.size;omega) (by omega) fun q1 c1 U oU gU hat1=>?_;have fMU:=qo (zb hb1 fM) ho1 (by decide) gU;have f0U:=qo (zb hb1 f0) ho1 (by decide) gU;refine zn k34 fMU (o:=0+0) (v := .slice q1 ((qI 0 init).take k++[e]).length c1) rfl rfl (by rw [lap,zA];decide) rfl fun S fS gS sS=>?_;rw [show 0+0=0 from rfl,zs6,he,<- htk] at fS;refine nxI (by omega) ⟨(k+1,q1,c1),(cvE rfl rfl),⟨hkl,fS,by rw [he,<- htk] at oU;exact qq oU fMU (by decide) gS,(gS.block L (hlt f0U) (by simp;omega)).trans f0U,?_⟩,zdc (by omega)⟩;have sU:=gU.size;have s1:=hb1.size;exact ((hbY.trans (hb1.mono sY)).trans (jd ho1 (by omega) (UY _) gU)).trans (zk gS (by omega) (by omega))
  ·have hc:¬ (k:Int)<(init.length:Int):=dF hc;obtain rfl:k=init.length:=by omega
   have e:(qI 0 init).take init.length=qI 0 init:=JH (by rw [z8];exact UY _);rw [e] at fM ho;exact⟨(q,c),(cvE rfl rfl),fM,ho,f0,hbY⟩
 clear fM f0 hbX;rintro⟨q,c⟩ X ⟨fM,ho,f0,hbX⟩;dsimp only at fM ho ⊢;obtain⟨x0,hx0⟩:∃ x0:ExD,x0={ ex0 N with ev:=qI 0 init }:=⟨_,rfl⟩;have hx0e:x0.ev=qI 0 init:=by rw [hx0]
 rw [<- hx0] at fM;rw [<- hx0e] at ho;refine⟨OA×Nat,fun _=>⟨[(0,At0 bP),(1,.slice pp Ps.length cp),(4,At0 L),(9,At0 M),(10,At0 M)],[]⟩,fun s X=>zbg X M (asR 0 (Ps.map (·.1)) x0) s.1 s.2 [z4,z4,z4]/\OwnS evE 49 w.heap.size X s.1 s.2 (asR 0 (Ps.map (·.1)) x0).ev/\(asR 0 (Ps.map (·.1)) x0).ev.length=N/\(∀ e∈(asR 0 (Ps.map (·.1)) x0).ev,e.k=1\/e.k=2->e.l.toNat<init.length)/\X.heap[L]?=some (.cells (zda).toArray 95 (0,0))/\Bw w X,?_,?_⟩
 ·refine⟨Nat×ExD×OA×Nat,fun s=>⟨[(0,At0 bP),(1,.slice pp Ps.length cp),(4,At0 L),(9,At0 M),(10,At0 M),(66,.slice pp Ps.length cp),(67,i64 Ps.length),(68,i64 (s.1:Nat))],[]⟩,
   fun s Y=>s.1<=Ps.length/\asR s.1 ((Ps.map (·.1)).drop s.1) s.2.1=asR 0 (Ps.map (·.1)) x0/\((Ps.map (·.1)).drop s.1).foldl (fun n P=>n+P.ev.length) s.2.1.ev.length=N/\(zH s.2.1.dt.to/\zH s.2.1.ct.to/\zH s.2.1.rm.to)/\(∀ e∈s.2.1.ev,e.k=1\/e.k=2->e.l.toNat<init.length) /\
    zbg Y M s.2.1 s.2.2.1 s.2.2.2 [z4,z4,z4]/\OwnS evE 49 w.heap.size Y s.2.2.1 s.2.2.2 s.2.1.ev/\Y.heap[L]?=some (.cells (zda).toArray 95 (0,0))/\Bw w Y,fun s=>Ps.length-s.1,(0,x0,q,c),
   (cvE rfl rfl),⟨Gb _,rfl,by rw [hN,hx0e,z8];rfl,?_,?_,fM,ho,f0,hbX⟩,?_⟩
  ·rw [hx0];exact⟨fun i _=>(by decide:0<2^64),fun i _=>(by decide:0<2^64),fun i _=>(by decide:0<2^64)⟩
  ·intro e he _;rw [hx0e] at he;obtain⟨j,hj⟩:=List.mem_iff_getElem?.1 he;have hjl:j<init.length:=by
    have:=(Js.1 hj).1
    rwa [z8] at this
   rw [zbd init 0 hjl] at hj;rw [<- Uf hj];show (UInt8.ofNat (0+j)).toNat<init.length;have:=zlS (n:=0+j) (by omega);omega
  clear fM ho f0 hbX;rintro⟨k,x,q,c⟩ Y ⟨hk,hacc,hfold,⟨hw1,hw2,hw3⟩,hloc,fM,ho,f0,hbY⟩;dsimp only at hk hacc hfold hw1 hw2 hw3 hloc fM ho ⊢;refine biE (fun hc=>?_) fun hc=>?_
  ·have hc:(k:Int)<(Ps.length:Int):=dT hc;have hkl:k<Ps.length:=by omega
   obtain⟨y,hy⟩:∃ y,Ps[k]=y:=⟨_,rfl⟩;have hym:y∈Ps:=by rw [<- hy];exact gM hkl
   have hdp:(Ps.map (·.1)).drop k=y.1::(Ps.map (·.1)).drop (k+1):=by
    rw [<- JF (show k<(Ps.map (·.1)).length by simpa using hkl)];simp [hy]
   rw [hdp] at hacc hfold;rw [zq3] at hacc;have hfold:((Ps.map (·.1)).drop (k+1)).foldl (fun n P=>n+P.ev.length) (x.ev.length+y.1.ev.length)=N:=hfold;have hsz:=zgQ (x.ev.length+y.1.ev.length) ((Ps.map (·.1)).drop (k+1));rw [hfold] at hsz;obtain⟨b24,bloc,bdt,bct,brm,ldt,lct,lrm⟩:=hPb y hym;obtain⟨bp,op,rfl,hlp,hat⟩:=hP.at hkl;refine⟨k,rfl,hkl,jX.enc y,jX.len y,by rw [<- hy];exact zq hbY (hat k hkl),nL hlp hbY.size,zo (X:=Y) (v := .agg (jX.enc y).toArray) zoK (jX.len y) rfl (Qj.2 fun u hu=>jX.one y u hu) fun Z hbZ fZ sZ=>?_⟩;obtain⟨D,hD⟩:=nm (Y.heap.size);have fD:Z.heap[D]?=some (.cells (jX.enc y).toArray 138 (0,0)):=by rw [hD];exact fZ
   have hMD:M<D:=by rw [hD];exact hlt fM
   have eD:At0 Y.heap.size=At0 D:=by rw [hD]
   have fMZ:=zb hbZ fM;have f0Z:=zb hbZ f0;have hoZ:=ho.below hbZ;have hwZ:=zst hbY hbZ;refine⟨_,zcS fMZ,.slice y.2.1.1 y.1.ev.length y.2.1.2,by rw [<- hD];exact zc (za fD) (i:=0) rfl,?_⟩;refine⟨Nat×OA×Nat,fun s=>⟨[(0,At0 bP),(1,.slice (some ⟨bp,op,none⟩) Ps.length cp),(4,At0 L),(9,At0 M),(10,At0 M),(13,i64 (k:Nat)),(14,At0 D),(15,i64 x.ev.length),(66,.slice (some ⟨bp,op,none⟩) Ps.length cp),(67,i64 Ps.length),(68,i64 (k:Nat)),(79,.slice y.2.1.1 y.1.ev.length y.2.1.2),(80,i64 y.1.ev.length),(81,i64 (s.1:Nat))],[]⟩,
    fun s V=>s.1<=y.1.ev.length/\zbg V M { x with ev:=x.ev++j0 k (y.1.ev.take s.1) } s.2.1 s.2.2 [z4,z4,z4]/\OwnS evE 49 w.heap.size V s.2.1 s.2.2 (x.ev++j0 k (y.1.ev.take s.1))/\V.heap[L]?=some (.cells (zda).toArray 95 (0,0))/\V.heap[D]?=some (.cells (jX.enc y).toArray 138 (0,0))/\Bw w V,fun s=>y.1.ev.length-s.1,(0,q,c),
    ⟨.cons rfl (.cons rfl (.cons rfl (.cons rfl (.cons rfl (.cons rfl (.cons (Gl some eD) (.cons rfl (.cons rfl (.cons rfl (.cons rfl (.cons rfl (.cons rfl (.cons rfl .nil))))))))))))),rfl⟩,⟨Gb _,by show zbg Z M { x with ev:=x.ev++[] } q c _;rw [QK];exact fMZ,by show OwnS _ _ _ Z q c (x.ev++[]);rw [QK];exact hoZ,f0Z,fD,hwZ⟩,?_⟩
   clear fMZ f0Z hoZ hwZ fZ sZ hbZ fM ho f0 hbY;rintro⟨j,q,c⟩ V ⟨hj,fM,ho,f0,fD,hbV⟩;dsimp only at hj fM ho ⊢;have sV:=hbV.size;have hS:=(hPs y hym).below hbV;refine biE (fun hc=>?_) fun hc=>?_
   ·have hc:(j:Int)<(y.1.ev.length:Int):=dT hc;have hjl:j<y.1.ev.length:=(by omega);obtain⟨e,he⟩:∃ e,y.1.ev[j]=e:=⟨_,rfl⟩;have htk:=zob (k:=k) hjl;rw [he] at htk;obtain⟨be,oe,hbe,hle,hate⟩:=hS.ev.at hjl;rw [hbe];refine⟨j,rfl,hjl,evE.enc e,rfl,by rw [<- he];exact hate j hjl,hle,?_⟩;refine zo (X:=V) (v := .agg (evE.enc e).toArray) k49 rfl rfl (Qj.2 fun u hu=>evE.one e u hu) fun T hbT fT sT=>?_;have fT:T.heap[V.heap.size]?=some (.cells (evE.enc e).toArray 49 (0,0)):=fT;refine zn k3 fT (o:=0+0) (v:=i64 (k:Nat)) rfl rfl (by show 0<7;decide) rfl fun T2 fT2 gT2 sT2=>?_;obtain⟨e2,he2⟩:∃ e2:Ev,e2={ e with th:=k }:=⟨_,rfl⟩;have fT2:T2.heap[V.heap.size]?=some (.cells (evE.enc e2).toArray 49 (0,0)):=(by rw [he2];exact fT2);have hVT:Bw V T2:=hbT.trans (zk gT2 (by omega) (UY _));have fM2:=zb hVT fM;have fT3:=hdr fT2;have hd:Bw T2 T2.drew:=(Gd _ T2).drew;have hlenx:(x.ev++j0 k (y.1.ev.take j)).length<=48:=by
     unfold j0;rw [lap,QN,Qu];omega
    have ho2:=ho.below hVT;refine DrawE.ord [7,10] [0,1,2,3,4,5,6,7,8,9,10] (by kernel_rfl) ⟨_,zcS (hdr fM2),evE.enc e2,rfl,za fT3,hlt fT3,⟨by decide,by decide,rfl⟩,evE.enc e2,zaZ rfl rfl,?_⟩;obtain⟨Y1,hY1⟩:=nm (T2.drew.alloc (.cells (evE.enc e2).toArray 49));have hb1:Bw T2 Y1:=(by rw [hY1];exact hd.trans ((Gd T2.drew.heap.size _).alloc (UY _) _));refine⟨(zba _ _),?_⟩;have sT:=hVT.size;have s1:=hb1.size;have ho3:=ho2.below hb1;unfold zoA zax;show SatR _ _;rw [<- hY1];refine zuS ho3 (by rw [hY1];exact qS evE e2) (by omega) (by omega) fun q1 c1 U oU gU hat1=>?_;have fMU:=qo (zb hb1 fM2) ho3 (by decide) gU;have f0U:=qo (zb (hVT.trans (hb1.mono sT)) f0) ho3 (by decide) gU;have fDU:=qo (zb (hVT.trans (hb1.mono sT)) fD) ho3 (by decide) gU;refine zn k34 fMU (o:=0+0) (v := .slice q1 ((x.ev++j0 k (y.1.ev.take j))++[e2]).length c1) rfl rfl (by rw [lap,zA];decide) rfl fun S fS gS sS=>?_;have hev2:(x.ev++j0 k (y.1.ev.take j))++[e2]=x.ev++j0 k (y.1.ev.take (j+1)):=(by rw [htk,he2,KO]);rw [show 0+0=0 from rfl,zs6,hev2] at fS;refine nxI (by omega) ⟨(j+1,q1,c1),(cvE rfl rfl),⟨hjl,fS,by rw [hev2] at oU;exact qq oU fMU (by decide) gS,(gS.block L (hlt f0U) (by simp;omega)).trans f0U,(gS.block D (hlt fDU) (by simp;omega)).trans fDU,?_⟩,zdc (by omega)⟩;have sU:=gU.size;exact ((hbV.trans ((hVT.trans (hb1.mono sT)).mono sV)).trans (jd ho3 (by omega) (UY _) gU)).trans (zk gS (by omega) (by omega))
   ·have hc:¬ (j:Int)<(y.1.ev.length:Int):=dF hc;obtain rfl:j=y.1.ev.length:=(by omega);rw [Qw] at fM ho;obtain⟨x1,hx1⟩:∃ x1:ExD,x1={ x with ev:=x.ev++j0 k y.1.ev }:=⟨_,rfl⟩;rw [<- hx1] at fM;have fM0:=fM;have ho0:=ho;have f00:=f0;have fD0:=fD;have hb0:=hbV;have hS0:=hS;obtain⟨x2,hx2⟩:∃ z:ExD,z={ x1 with dt:=zmc x.ev.length y.1.data x.dt }:=⟨_,rfl⟩;obtain⟨A1,Z1,hA1,hE1⟩:=znF x1 q c [z4,z4,z4];have hx1dt:x1.dt=x.dt:=(by rw [hx1]);have hR1:RelAt V M 148 95 A1 Z1 x.dt:=⟨hA1,by
     have h:=hE1 x1.dt;rw [hx1dt] at h;rw [<- h,<- hx1dt];exact fM0⟩
    have dw1:Bw V V.drew:=(Gd _ _).drew;refine DrawE.ord [6] [0,1,2,3,4,5,6] (by kernel_rfl) ⟨.slice y.2.2.1.1 y.1.data.length y.2.2.1.2,zc (za (hdr fD0)) (i:=1) rfl,cmo (zpP (f:=x.ev.length) (hR1.same (Y:=V.drew) rfl) hw1 ((hS0.dt).below dw1) (fun a ha=>by have:=hS0.lt a (.inl ha);omega) ldt (zct bdt (by omega))) ?_⟩;rintro e V1 ⟨rfl,hRn1,gn1⟩;have g1:V.grownBy V1 (some M):=zd (zi dw1) gn1;have sg1:=g1.size;have fM1:zbg V1 M x2 q c [z4,z4,z4]:=by
     have h:=hRn1.cells;rw [<- hE1] at h;rw [hx2];exact h
    have ho1:=qq ho0 fM0 (by decide) g1;have f01:=(g1.block L (hlt f00) (by simp;omega)).trans f00;have fD1:=(g1.block D (hlt fD0) (by simp;omega)).trans fD0;have hb1:Bw w V1:=hb0.trans (zk g1 hb0.size (by omega));have hS1:=(hPs y hym).below hb1;obtain⟨x3,hx3⟩:∃ z:ExD,z={ x2 with ct:=zmc x.ev.length y.1.ctrl x.ct }:=⟨_,rfl⟩;obtain⟨A2,Z2,hA2,hE2⟩:=znG x2 q c [z4,z4,z4];have hx2ct:x2.ct=x.ct:=(by rw [hx2];rw [hx1]);have hR2:RelAt V1 M 197 95 A2 Z2 x.ct:=⟨hA2,by
     have h:=hE2 x2.ct;rw [hx2ct] at h;rw [<- h,<- hx2ct];exact fM1⟩
    have dw2:Bw V1 V1.drew:=(Gd _ _).drew;refine DrawE.ord [6] [0,1,2,3,4,5,6] (by kernel_rfl) ⟨.slice y.2.2.2.1.1 y.1.ctrl.length y.2.2.2.1.2,zc (za (hdr fD1)) (i:=2) rfl,cmo (zpP (f:=x.ev.length) (hR2.same (Y:=V1.drew) rfl) hw2 ((hS1.ct).below dw2) (fun a ha=>by have:=hS1.lt a (.inr (.inl ha));omega) lct (zct bct (by omega))) ?_⟩;rintro e V2 ⟨rfl,hRn2,gn2⟩;have g2:V1.grownBy V2 (some M):=zd (zi dw2) gn2;have sg2:=g2.size;have fM2:zbg V2 M x3 q c [z4,z4,z4]:=by
     have h:=hRn2.cells;rw [<- hE2] at h;rw [hx3];exact h
    have ho2:=qq ho1 fM1 (by decide) g2;have f02:=(g2.block L (hlt f01) (by simp;omega)).trans f01;have fD2:=(g2.block D (hlt fD1) (by simp;omega)).trans fD1;have hb2:Bw w V2:=hb1.trans (zk g2 hb1.size (by omega));have hS2:=(hPs y hym).below hb2;obtain⟨x4,hx4⟩:∃ z:ExD,z={ x3 with rm:=zmc x.ev.length y.1.rmw x.rm }:=⟨_,rfl⟩;obtain⟨A3,Z3,hA3,hE3⟩:=znC x3 q c [z4,z4,z4];have hx3rm:x3.rm=x.rm:=(by rw [hx3];rw [hx2];rw [hx1]);have hR3:RelAt V2 M 246 95 A3 Z3 x.rm:=⟨hA3,by
     have h:=hE3 x3.rm;rw [hx3rm] at h;rw [<- h,<- hx3rm];exact fM2⟩
    have dw3:Bw V2 V2.drew:=(Gd _ _).drew;refine DrawE.ord [6] [0,1,2,3,4,5,6] (by kernel_rfl) ⟨.slice y.2.2.2.2.1 y.1.rmw.length y.2.2.2.2.2,zc (za (hdr fD2)) (i:=3) rfl,cmo (zpP (f:=x.ev.length) (hR3.same (Y:=V2.drew) rfl) hw3 ((hS2.rm).below dw3) (fun a ha=>by have:=hS2.lt a (.inr (.inr ha));omega) lrm (zct brm (by omega))) ?_⟩;rintro e V3 ⟨rfl,hRn3,gn3⟩;have g3:V2.grownBy V3 (some M):=zd (zi dw3) gn3;have sg3:=g3.size;have fM3:zbg V3 M x4 q c [z4,z4,z4]:=by
     have h:=hRn3.cells;rw [<- hE3] at h;rw [hx4];exact h
    have ho3:=qq ho2 fM2 (by decide) g3;have f03:=(g3.block L (hlt f02) (by simp;omega)).trans f02;have fD3:=(g3.block D (hlt fD2) (by simp;omega)).trans fD2;have hb3:Bw w V3:=hb2.trans (zk g3 hb2.size (by omega));have hS3:=(hPs y hym).below hb3;have hx5:zbu x k y.1={ x4 with regs:=fun i=>if i/8=k then y.1.regs (i%8) else x4.regs i }:=(by rw [hx4,hx3,hx2,hx1];rfl);obtain⟨A5,Z5,hA5,hE5⟩:=znD x4 q c [z4,z4,z4];have hM5:exC x4 q c++[z4,z4,z4]=A5++(seg 32 (fun i=>u8 (x4.regs i))++Z5):=hE5 x4.regs;have fM5:V3.heap[M]?=some (.cells (A5++(seg 32 (fun i=>u8 (x4.regs i))++Z5)).toArray 95 (0,0)):=(by rw [<- hM5];exact fM3);have hsub:((jX.enc y).drop 4).take 8=seg 8 (fun i=>u8 (y.1.regs i)):=JH (by rw [Qt,jX.len];decide);refine DrawE.ord [8] [0,1,2,3,4,5,6,7,8] (by kernel_rfl) ⟨seg 8 (fun i=>u8 (y.1.regs i)),zG _ _,by rw [<- hsub];have:=zT (n:=4) (m:=8) (za (hdr fD3));exact this,hlt (hdr fD3),k,rfl,by omega,?_⟩;refine j3 k40 (hdr fM5) (o:=295+k*8) (v := .agg (seg 8 (fun i=>u8 (y.1.regs i))).toArray) (zG _ _) (by show 295+k*8+(seg 8 _).length<=(A5++(seg 32 _++Z5)).length;rw [<- hM5,lap,zA,zG];show _<=336;omega) (zbC fun _=>rfl) fun S fS gS sS=>?_;obtain⟨x5,hx5e⟩:=nm (zbu x k y.1);have fS:zbg S M x5 q c [z4,z4,z4]:=by
     refine fS.trans ?_;have e1:=zkM (A:=A5) (Z:=Z5) (l:=seg 32 (fun i=>u8 (x4.regs i))) (r:=seg 8 (fun i=>u8 (y.1.regs i))) (o:=k*8) (m:=8) hA5 (by rw [zG];omega) (zG _ _);rw [zpB (by omega)] at e1;rw [hx5e,hx5,hE5,<- e1];show some (Obj.cells ((A5++(seg 32 (fun i=>u8 (x4.regs i))++Z5)).take (295+k*8)++seg 8 (fun i=>u8 (y.1.regs i))++(A5++(seg 32 (fun i=>u8 (x4.regs i))++Z5)).drop (295+k*8+(seg 8 (fun i=>u8 (y.1.regs i))).length)).toArray _ _)=_;rw [zG]
    have dw4:Bw V3 V3.drew:=(Gd _ _).drew;have g4:V3.grownBy S (some M):=zd (zi dw4) gS;have hev5:x5.ev=x.ev++j0 k y.1.ev:=(by rw [hx5e];rfl);have hx1e:x1.ev=x5.ev:=(by rw [hx1,hev5]);have hlen5:x5.ev.length=x.ev.length+y.1.ev.length:=(by rw [hev5,lap];unfold j0;rw [QN]);refine nxI (by omega) ⟨(k+1,x5,q,c),(cvE rfl rfl),⟨hkl,by rw [hx5e];exact hacc,by rw [hlen5];exact hfold,?_,fun e he hk=>?_,fS,?_,(g4.block L (hlt f03) (by simp;omega)).trans f03,hb3.trans (zk g4 hb3.size (by omega))⟩,zdc (by omega)⟩
    ·rw [hx5e];exact⟨zeK hw1 (zct bdt (by omega)),zeK hw2 (zct bct (by omega)),zeK hw3 (zct brm (by omega))⟩
    ·have he:e∈x5.ev:=he;rw [hev5] at he;rcases QS.1 he with he | he
     ·exact hloc e he hk
     ·unfold j0 at he;obtain⟨e',he',rfl⟩:=UL.1 he;exact bloc e' he' hk
    ·show OwnS evE 49 w.heap.size S q c x5.ev;rw [hev5];exact qq ho3 fM3 (by decide) g4
  ·have hc:¬ (k:Int)<(Ps.length:Int):=dF hc;rw [JB (by rw [QN];omega)] at hacc hfold;have hacc:x=asR 0 (Ps.map (·.1)) x0:=hacc;have hfold:x.ev.length=N:=hfold;rw [<- hacc];exact⟨(q,c),(cvE rfl rfl),fM,ho,hfold,hloc,f0,hbY⟩
 clear fM ho f0 hbX;rintro⟨q,c⟩ X ⟨fM,ho,hxl,hloc,f0,hbX⟩;dsimp only at fM ho ⊢;obtain⟨AX,hAX⟩:=nm (asR 0 (Ps.map (·.1)) x0);rw [<- hAX] at fM ho hxl hloc;obtain⟨BX,hBX⟩:∃ BX:ExD,BX={ AX with po:=poR AX.ev }:=⟨_,rfl⟩;have hbase:j9 init (Ps.map (·.1))=BX:=by
  rw [hBX,hAX,hx0,hN];rfl
 rw [hbase];refine⟨Unit,fun _=>⟨[(0,At0 bP),(1,.slice pp Ps.length cp),(4,At0 L),(9,At0 M),(10,At0 M)],[]⟩,fun _ X=>zbg X M BX q c [z4,z4,z4]/\OwnS evE 49 w.heap.size X q c BX.ev/\X.heap[L]?=some (.cells (zda).toArray 95 (0,0))/\Bw w X,?_,?_⟩
 ·refine⟨_,zcS fM,cmo (zdh ho.row (by omega)) ?_⟩;rintro e Y ⟨rfl,hbY⟩;have fMY:=zb hbY fM;obtain⟨A5,Z5,hA5,hE5⟩:=znE AX q c [z4,z4,z4];have hM5:exC AX q c++[z4,z4,z4]=A5++(zf AX.po++Z5):=hE5 AX.po;have fM5:Y.heap[M]?=some (.cells (A5++(zf AX.po++Z5)).toArray 95 (0,0)):=by rw [<- hM5];exact fMY
  refine j3 k39 fM5 (o:=0+1) (v := .agg (zf (poR AX.ev)).toArray) (zg _) (by show 0+1+(zf _).length<=(A5++(zf AX.po++Z5)).length;rw [<- hM5,lap,zA,zg];decide) (zC _) fun S fS gS sS=>?_;have fS:zbg S M BX q c [z4,z4,z4]:=by
   refine fS.trans ?_;have e1:=zkM (A:=A5) (Z:=Z5) (l:=zf AX.po) (r:=zf (poR AX.ev)) (o:=0) (m:=49) hA5 (by rw [zg];omega) (zg _);rw [hBX,hE5];have e2:(zf AX.po).take 0++zf (poR AX.ev)++(zf AX.po).drop (0+49)=zf (poR AX.ev):=by
    rw [Up,QU,JB (by rw [zg];omega),QK]
   rw [e2] at e1;rw [<- e1];show some (Obj.cells ((A5++(zf AX.po++Z5)).take (0+1)++zf (poR AX.ev)++(A5++(zf AX.po++Z5)).drop (0+1+(zf (poR AX.ev)).length)).toArray _ _)=_;rw [zg]
  have hLX:=hlt f0;have hbwY:=zst hbX hbY;exact⟨(),(cvE rfl rfl),fS,by rw [hBX];exact qq (ho.below hbY) fMY (by decide) gS,(gS.block L (hlt (zb hbY f0)) (by simp;omega)).trans (zb hbY f0),hbwY.trans (zk gS hbwY.size (by omega))⟩
 have hBe:BX.ev=AX.ev:=by rw [hBX]
 clear fM ho f0 hbX;rintro _ X ⟨fM,ho,f0,hbX⟩;refine⟨List Value,fun _=>⟨[(0,At0 bP),(1,.slice pp Ps.length cp),(4,At0 L),(9,At0 M),(10,At0 M)],[]⟩,fun vs X=>X.heap[M]?=some (.cells vs.toArray 95 (0,0))/\zuX w.heap.size X vs (zad BX init.length)/\X.heap[L]?=some (.cells (zda).toArray 95 (0,0))/\Bw w X,?_,?_⟩
 ·refine⟨_,ldP hbX h1,?_⟩;have hqM:∀ a,q=some a->a.block≠M:=fun a ha e=>by
   obtain⟨_,_,cur,h'⟩:=zy ho ha;rw [e,fM] at h';simp at h'
  refine cmo (zo0 fM ho.row hqM (by rw [hBe];omega) (by omega) (by rw [hBe];exact hloc)) ?_;rintro e Y ⟨rfl,⟨p1,p2,p3,c1,c2,c3,xs,ys,fY,h1',h2',h3',h4',h5',h6',h7'⟩,gY⟩;have hwX:=hbX.size;refine⟨_,(cvE rfl rfl),fY,⟨q,p1,p2,p3,c,c1,c2,c3,xs,ys,rfl,qq ho fM (by decide) gY,h1'.lower hwX,h2',h3'.lower hwX,fun y hy=>(h4' y hy).lower hwX,h5',h6'.lower hwX,fun y hy=>(h7' y hy).lower hwX⟩,(gY.block L (hlt f0) (by simp;omega)).trans f0,hbX.trans (zk gY hbX.size (by omega))⟩
 clear fM ho f0 hbX;rintro vs X ⟨fM,hv,f0,hbX⟩;have hvl:vs.length=336:=by
  obtain⟨q,p1,p2,p3,c,c1,c2,c3,xs,ys,e,_⟩:=hv;rw [e,lap,zA];rfl
 have hv1:vs.all Value.oneCell'=true:=by
  obtain⟨q,p1,p2,p3,c,c1,c2,c3,xs,ys,e,_⟩:=hv;rw [e,QJ,za0];rfl
 refine⟨vs,hvl,za fM,hlt fM,zt (v := .agg vs.toArray) k95 f0 hvl jK hv1 ⟨vs,hvl,za (zm f0),⟨vs,rfl,?_⟩,zl hbX (by omega) _⟩⟩;obtain⟨q,p1,p2,p3,c,c1,c2,c3,xs,ys,e,k1,k2,k3,k4,k5,k6,k7,k8⟩:=hv;have kp:∀ {α:Type} {E:Enc α} {T cc:Nat} {r:OA} {ll:List α},T≠95->OwnS E T w.heap.size X r cc ll->OwnS E T w.heap.size (X.setRow L vs.toArray) r cc ll:=fun {α E T cc r ll} hT h=>qq h f0 hT (jE X L _);exact⟨q,p1,p2,p3,c,c1,c2,c3,xs,ys,e,kp (by decide) k1,kp (by decide) k2,k3,kp (by decide) k4,fun y hy=>kp (by decide) (k5 y hy),k6,kp (by decide) k7,fun y hy=>kp (by decide) (k8 y hy)⟩
end
end Go.Proofs.YtkpaomeeknegpaaGreatDoor
namespace Go.Vc
open Go.RowKit
def zrd {α:Type} (P:Program) (g:Nat) (lb:List Value) (xs:List α) (W0:Wd) (Rd:Nat->Prop) (St:List α->List Value->Wd->Prop) (Gv:List Value->Nat->Prop):Prop :=
 ∀ (l:Nat) (F0:Nat->Prop) (J:List α->(Nat->Prop)->Wd->Prop) (W:Wd),W0.heap.size<=W.heap.size->(∀ k,Rd k->W.heap[k]?=W0.heap[k]?)->(∀ k,Rd k->¬ F0 k) ->
  JG W.heap.size (fun _=>False) J ->
  (∀ pre x vs F W1,J pre F W1->St (pre++[x]) vs W1->(∀ k,Gv vs k->W.heap.size<=k)->(pre++[x]) <+: xs->YieldR P l vs.toArray W1 fun v W2 =>
   v = .bool true/\∃ F',J (pre++[x]) F' W2/\KeepsG (fun k=>F k\/Gv vs k) F' W1 W2) ->
  J [] F0 W ->
  Calls P g (.func (.yield l) #[] #[]::lb).toArray W fun e W'=>(∃ v,e = .returned v)/\∃ F',J xs F' W'
theorem ztw {α:Type} {S:Sig} (hS:SigOk S) (hr:S.r=none) {f:Operand} {ps:Array Tmp} {assign body:Code} {E:Env} {w:Wd} {Q:Exit->Env->Wd->Prop}
  {gf:Nat} {lb:Array Value} (hg:opd E f=some (.func (.func gf) #[] lb)) (hok:jS S gf=true)
  {xs:List α} {W0:Wd} {Rd:Nat->Prop} {St:List α->List Value->Wd->Prop} {Gv:List Value->Nat->Prop} (hI:zrd S.P gf lb.toList xs W0 Rd St Gv) (hGv:∀ pre vs W k,St pre vs W->Gv vs k->∃ cs t fr,W.heap[k]?=some (.cells cs t fr)) (hW0:W0.heap.size<=w.heap.size) (hRd:∀ k,Rd k->k<W0.heap.size/\w.heap[k]?=W0.heap[k]?)
  (hps:∀ pre vs W,St pre vs W->vs.length=ps.size) (hpn:∀ p∈ps.toList,p<S.n)
  (F0:Nat->Prop) (J:List α->(Nat->Prop)->Wd->Prop) (hRF:∀ k,Rd k->¬ F0 k)
  (hJ:JG w.heap.size (fun _=>False) J) (h0:J [] F0 w)
  (hround:∀ (l:Nat) (pre:List α) (x:α) (vs:List Value) (F:Nat->Prop) (W:Wd),w.heap.size<=l->(pre++[x]) <+: xs->J pre F W->St (pre++[x]) vs W->(∀ k,Gv vs k->w.heap.size<=k)->¬ F l->(∃ lo,W.heap[l]?=some (.loop lo)) ->
   wpE (sr S l) assign ⟨zgT ps.toList vs E.vs,[]⟩ W fun ex E1 W1=>ex = .normal/\∃ F1,KeepsG (fun k=>F k\/Gv vs k) F1 W W1/\J pre F1 W1 /\
    ∀ o W2,W2=W1.putObj l o->J pre F1 W2->wpE (sr S l) body E1 W2 (zta F1 J (fun _ _ _ _=>False) (pre++[x]) W2))
  (hdone:∀ D F W,w.heap.size<=D->¬ F D->J xs F W->W.heap[D]?=some (.deferred (some []))->Q .normal ⟨E.vs,{ target := .collected D,args := #[] }::E.ds⟩ W) :
  zj1 S f ps assign body E w Q:=by
 intro a ha;have hcall:∀ args w,(callFunc gf args).run S.P w = .ok (.enter gf args) w:=by
  simp only [jS,bAT,Gf,Gg] at hok;exact fun args w=>hS.call gf hok.1.1 hok.1.2 hok.2 args w
 refine wpIn_rangeFunc ?_;intro fn hfn;have hro:(FR S.r).round=none:=hr;rw [hro];obtain⟨rec,hrec⟩:∃ rec:LoopState->Option Code->Loop,rec=fun st pe=>{ state:=st,pending:=pe,fn,tmps:=a.tmps,params:=ps,assign,body,defers:=w.heap.size }:=⟨_,rfl⟩;obtain⟨W1,hW1⟩:∃ W1,(w.alloc (.deferred (some []))).alloc (.loop (rec .ready none))=W1:=⟨_,rfl⟩;have hK0:=zu w (.deferred (some []));have hK1:W1.heap[w.heap.size]?=some (.deferred (some [])):=by rw [<- hW1];exact qB _ hK0
 have hL1:W1.heap[w.heap.size+1]?=some (.loop (rec .ready none)):=by
  rw [<- hW1];have:=zu (w.alloc (.deferred (some []))) (.loop (rec .ready none));rwa [wz] at this
 have hs1:W1.heap.size=w.heap.size+2:=by rw [<- hW1];simp
 have hst1:Bw w W1:=by
  rw [<- hW1];exact ((zba w _)).alloc (by simp) _
 have hJ1:=hJ.step _ _ _ _ h0 (.below hst1);have hFl:∀ k,F0 k->k<w.heap.size:=fun k hk=>(hJ.lt _ _ _ k h0 hk).1;refine⟨w.heap.size+1,[{ target := .collected w.heap.size,args := #[] }],W1,{ target := .fn (.func gf) lb,args := #[.func (.yield (w.heap.size+1)) #[] #[]] },W1,gf,
  #[.func (.yield (w.heap.size+1)) #[] #[]]++lb,W1,?_,?_,fun _ _=>trivial,?_,fun h=>by simp [FR] at h,?_⟩
 ·rw [<- hW1,hrec];exact Kq _ _ _ _ _
 ·have hg':=ha.eval hg;simp only [resolve,hg'];simp [go_sem]
 ·simp [invoke,go_sem,hcall]
 ·have hargs : #[Value.func (.yield (w.heap.size+1)) #[] #[]]++lb=(Value.func (.yield (w.heap.size+1)) #[] #[]::lb.toList).toArray:=by rw [<- Qe];simp
  rw [hargs];have book:∀ {σ:Type} {K:σ->(Nat->Prop)->Wd->Prop} (lo:Loop),JG w.heap.size (fun _=>False) K->JG W1.heap.size (fun _=>False) (fun s F W=>K s F W/\W.heap[w.heap.size+1]?=some (.loop lo)/\W.heap[w.heap.size]?=some (.deferred (some []))/\¬ F (w.heap.size+1)/\¬ F w.heap.size):=by
   intro σ K lo hK;exact⟨fun s F A B ⟨hk,hl,hd,hf1,hf2⟩ hs=>⟨hK.step s F A B hk (hs.mono (by omega)),(hs.same _ (hlt hl) (.inl ⟨by omega,fun h=>h⟩)).trans hl,(hs.same _ (hlt hd) (.inl ⟨by omega,fun h=>h⟩)).trans hd,hf1,hf2⟩,fun s F A k ⟨hk,_⟩ hf=>hK.lt s F A k hk hf⟩
  have hcalls:=hI (w.heap.size+1) F0 (fun pre F W=>J pre F W/\W.heap[w.heap.size+1]?=some (.loop (rec .ready none))/\W.heap[w.heap.size]?=some (.deferred (some []))/\¬ F (w.heap.size+1)/\¬ F w.heap.size)
   W1 (by omega) (fun k hk=>by
    obtain⟨h1,h2⟩:=hRd k hk;rw [<- h2];exact hst1.block k (by omega)) hRF (book _ hJ) ?_ ⟨hJ1,hL1,hK1,fun h=>by have:=hFl _ h;omega,fun h=>by have:=hFl _ h;omega⟩
  ·refine zc1 (hcalls.mono ?_);rintro e W2 ⟨⟨v,rfl⟩,F,hj,hl,hk,hf1,hf2⟩;have hj2:=hJ.step _ _ _ _ hj (StepG.put (Ow:=fun _=>False) (o := .loop (rec .exhausted none)) (n0:=w.heap.size) (l:=w.heap.size+1) (by omega) hf1);refine⟨none,_,by have:=Gc (P:=S.P) hl (by rw [hrec];simp);rw [hrec] at this;exact this,?_⟩;rw [hrec] at hj2;exact⟨⟨E.vs,{ target := .collected w.heap.size,args := #[] }::E.ds⟩,⟨ha.size,by simp [ha.defers],ha.val⟩,hdone w.heap.size F _ (UY _) hf2 hj2 ((zj (by omega)).trans hk)⟩
  ·rintro pre x vs F W ⟨hj,hl,hk,hf1,hf2⟩ hst0 hgv0 hpre;have hg1:¬ (F (w.heap.size+1)\/Gv vs (w.heap.size+1)):=fun h=>h.elim hf1 fun h=>by
    obtain⟨_,_,_,h2⟩:=hGv _ _ _ _ hst0 h;rw [hl] at h2;cases h2
   have hg2:¬ (F w.heap.size\/Gv vs w.heap.size):=fun h=>h.elim hf2 fun h=>by
    obtain⟨_,_,_,h2⟩:=hGv _ _ _ _ hst0 h;rw [hk] at h2;cases h2
   have hy:=run_yield (P:=S.P) (args:=vs.toArray) hl (by rw [hrec];simpa using hps _ _ _ hst0);rw [hrec] at hy;refine⟨fn,_,assign,body,hy,zb4 (r:=none) (n:=NN) (roundIn_of_wpIn (F:=FR none) trivial ?_)⟩;have hag:Agrees (sr S (w.heap.size+1)) { tmps:=(ps.zip vs.toArray).foldl (fun t (p,v)=>t.setIfInBounds p v) a.tmps,defers:=[] } ⟨zgT ps.toList vs E.vs,[]⟩:=by
    have h1:Agrees (sr S (w.heap.size+1)) { a with defers:=[] } ⟨E.vs,[]⟩:=⟨ha.size,rfl,ha.val⟩;have h2:=zb3 ps.toList vs _ _ h1 hpn;have e:(ps.zip vs.toArray).foldl (fun t (p,v)=>t.setIfInBounds p v) a.tmps=(ps.toList.zip vs).foldl (fun t (p,v)=>t.setIfInBounds p v) a.tmps:=by
     rw [<- Kr];simp
    rw [e];exact h2
   have hw:=q8 (zis hS _) assign _ _ W _ hag (hround (w.heap.size+1) pre x vs F W (by omega) hpre hj hst0 (fun k hk=>by have:=hgv0 k hk;omega) hf1 ⟨_,hl⟩);refine Gj hw ?_;rintro ex a1 Wa ⟨E1,hag1,rfl,F1,hk1,hj1,hbody⟩;have hla:=(hk1.same _ (hlt hl) hg1).trans hl;have hka:=(hk1.same _ (hlt hk) hg2).trans hk;have hfa1:¬ F1 (w.heap.size+1):=fun h=>by rcases hk1.fp _ h with h | h;exact hg1 h;have:=hlt hl;omega
   have hfa2:¬ F1 w.heap.size:=fun h=>by rcases hk1.fp _ h with h | h;exact hg2 h;have:=hlt hk;omega
   refine⟨_,run_beginRound hla (by rw [hrec]),?_⟩;have hst:StepG w.heap.size (fun _=>False) F1 Wa (Wa.putObj (w.heap.size+1) (.loop { rec .ready none with state := .busy })) := .put (by omega) hfa1 _;have hj2:=hJ.step _ _ _ _ hj1 hst;have hw2:=q8 (zis hS _) body _ _ _ _ hag1 (hbody _ _ rfl hj2);refine Gj hw2 ?_;have hl2:(Wa.putObj (w.heap.size+1) (.loop { rec .ready none with state := .busy })).heap[w.heap.size+1]?=some (.loop { rec .ready none with state := .busy }):=zbk hla;have hk2:(Wa.putObj (w.heap.size+1) (.loop { rec .ready none with state := .busy })).heap[w.heap.size]?=some (.deferred (some [])):=(zj (by omega)).trans hka;rintro e a3 W3 ⟨E3,_,hq⟩
   cases e with
   | normal =>
    obtain⟨F3,hj3,hk3⟩:=hq;have hl3:=(hk3.same _ (hlt hl2) hfa1).trans hl2;have hd3:=(hk3.same _ (hlt hk2) hfa2).trans hk2;have hf31:¬ F3 (w.heap.size+1):=fun h=>by rcases hk3.fp _ h with h | h;exact hfa1 h;have:=hlt hl2;omega
    have hf32:¬ F3 w.heap.size:=fun h=>by rcases hk3.fp _ h with h | h;exact hfa2 h;have:=hlt hk2;omega
    have hr3:=run_endRound (P:=S.P) none hl3;have hl4:=zbk (o' := .loop (rec .ready none)) hl3;have hk4:(W3.putObj (w.heap.size+1) (.loop (rec .ready none))).heap[w.heap.size]?=some (.deferred (some [])):=(zj (by omega)).trans hd3;have hs3:StepG w.heap.size (fun _=>False) F3 W3 (W3.putObj (w.heap.size+1) (.loop (rec .ready none))) := .put (by omega) hf31 _;have hj4:=hJ.step _ _ _ _ hj3 hs3;rw [hrec] at hr3 hl4 hk4 hs3 hj4;refine⟨_,_,hr3,rfl,F3,⟨hj4,by rw [hrec];exact hl4,hk4,hf31,hf32⟩,hs3.os.trans (hk3.os.trans hk1.os),hs3.tape.trans (hk3.tape.trans hk1.tape),hs3.output.trans (hk3.output.trans hk1.output),?_,fun k hk5 hf5=>?_,fun k hk5=>?_⟩
    ·have h1:=hk1.size;have h2:=hst.size;have h3:=hk3.size;have h4:=hs3.size;exact UO (UO (UO h1 h2) h3) h4
    ·by_cases hkl:k=w.heap.size+1
     ·subst hkl;rw [hl,hrec];exact hl4
     ·have h1:¬ F1 k:=fun h=>by rcases hk1.fp _ h with h | h;exact hf5 h;omega
      have h2:=hk1.size;have h3:=hst.size;rw [zj hkl,hk3.same k (by omega) h1,zj hkl];exact hk1.same k hk5 hf5
    ·rcases hk3.fp _ hk5 with h2 | h2
     ·exact hk1.fp _ h2
     ·have h3:=hk1.size;have h4:=hst.size;exact .inr (by omega)
   | ret=>exact (show False from (by obtain⟨_,h,_⟩:=hq;exact h)).elim
   | exit id=>exact (show False from (by obtain⟨_,h,_⟩:=hq;exact h)).elim
   | goto t=>exact hq.elim
   | panic ch=>exact hq.elim
   | outgrown=>exact hq.elim
end Go.Vc
namespace Go.Proofs.YtkpaomeeknegpaaGreatDoor
open Go.Vc Go.RowKit Go.Sei
abbrev zdA:=List zaQ×OA×Nat
def zia:Enc zdA where
 sz:=1
 enc x:=[.slice x.2.1 x.1.length x.2.2]
 len x:=rfl
 one x v hv:=by
  simp at hv;subst hv;rfl
 pos:=by decide
structure MixM (Rd:Nat->Prop) (w:Wd) (b o:Nat) (m:MixD) (q:OA) (c:Nat) (p1 p2 p3:OA) (c1 c2 c3:Nat) (xs ys:List zaQ):Prop where
 cells:zF w ⟨b,o,none⟩ (exC m.base q c++[.slice p1 m.rs.length c1,.slice p2 xs.length c2,.slice p3 ys.length c3])
 ev:SlR evE w q m.base.ev
 qn:q=none->c=0
 r1:SlR zB w p1 (m.rs.map (·.1))
 e2:xs.map (·.1)=m.rs.map (·.2)
 r2:SlR jg w p2 xs
 n2:∀ y∈xs,SlR zB w y.2.1 y.1
 e3:ys.map (·.1)=m.wr
 r3:SlR jg w p3 ys
 n3:∀ y∈ys,SlR zB w y.2.1 y.1
 db:Rd b
 dq:∀ a,q=some a->Rd a.block
 d1:∀ a,p1=some a->Rd a.block
 d2:∀ a,p2=some a->Rd a.block
 d3:∀ a,p3=some a->Rd a.block
 m2:∀ y∈xs,∀ a,y.2.1=some a->Rd a.block
 m3:∀ y∈ys,∀ a,y.2.1=some a->Rd a.block
theorem MixM.same {Rd:Nat->Prop} {w X:Wd} {b o:Nat} {m:MixD} {q:OA} {c:Nat} {p1 p2 p3:OA} {c1 c2 c3:Nat} {xs ys:List zaQ} (h:MixM Rd w b o m q c p1 p2 p3 c1 c2 c3 xs ys) (hs:∀ k,Rd k->X.heap[k]?=w.heap[k]?):MixM Rd X b o m q c p1 p2 p3 c1 c2 c3 xs ys :=
 ⟨js (hs _ h.db) h.cells,jf h.ev fun a ha=>hs _ (h.dq a ha),h.qn,jf h.r1 fun a ha=>hs _ (h.d1 a ha),h.e2,jf h.r2 fun a ha=>hs _ (h.d2 a ha),fun y hy=>jf (h.n2 y hy) fun a ha=>hs _ (h.m2 y hy a ha),
  h.e3,jf h.r3 fun a ha=>hs _ (h.d3 a ha),fun y hy=>jf (h.n3 y hy) fun a ha=>hs _ (h.m3 y hy a ha),h.db,h.dq,h.d1,h.d2,h.d3,h.m2,h.m3⟩
theorem zeU {w:Wd} {b o:Nat} {x:ExD} {q:OA} {c:Nat} {S:List Value} (h:zF w ⟨b,o,none⟩ (exC x q c++S)) {i:Nat} {v:Value} (hi:S[i]?=some v):w.cell? ⟨b,o+(333+i),none⟩=some v:=zc h (zgv hi)
theorem zvs {B c:Nat} {V1:Wd} {p:OA} {l:List zdA} {y:zdA} {a:Addr} (ho:OwnS zia 93 B V1 p c l) (ha:zF V1 a ([y].flatMap zia.enc)) (hB:B<=V1.heap.size) (hl:l.length<=100000) {K:Value->Wd->Prop}
  (h:∀ p' c' w',OwnS zia 93 B w' p' c' (l++[y])->V1.grownBy w' (p.map Addr.block)->(∀ a,p'=some a->p=some a\/a.block=V1.heap.size)->K (.slice p' (l++[y]).length c') w') :
  SatR ((Builtin.append_ #[142,142] 142 #[.slice p l.length c,.slice (some a) 1 1]).run PG V1) K :=
 jF (E:=zia) (T:=93) (B:=B) (l:=l) (news:=[y]) (cap:=c) (m:=1) Tryz.underlying142 k93 rfl rfl rfl ho rfl ha hB (by omega) (by show (l.length+1)*24<=_;omega) fun p' c' w' a1 a2 _ a4=>h p' c' w' a1 (by rw [zaH] at a2;exact a2) a4
structure CanS (B:Nat) (Z:Wd) (yl L R:Nat) (ss:List Nat) (ps:OA) (cs:Nat) (zs:List zdA) (pr:OA) (cr:Nat):Prop where
 fL:Z.heap[L]?=some (.cells #[.func (.yield yl) #[] #[]] 79 (0,0))
 fR:Z.heap[R]?=some (.cells #[.slice pr zs.length cr] 142 (0,0))
 own:OwnS zB 3 B Z ps cs ss
 rk:OwnS zia 93 B Z pr cr zs
 n1:∀ z∈zs,OwnS jg 62 B Z z.2.1 z.2.2 z.1
 n2:∀ z∈zs,∀ y∈z.1,OwnS zB 3 B Z y.2.1 y.2.2 y.1
 dis:∀ z∈zs,∀ y∈z.1,∀ a b,ps=some a->y.2.1=some b->a.block≠b.block
theorem CanS.below {B:Nat} {Z Y:Wd} {yl L R:Nat} {ss:List Nat} {ps:OA} {cs:Nat} {zs:List zdA} {pr:OA} {cr:Nat} (h:CanS B Z yl L R ss ps cs zs pr cr) (hb:Bw Z Y):CanS B Y yl L R ss ps cs zs pr cr :=
 ⟨zb hb h.fL,zb hb h.fR,h.own.below hb,h.rk.below hb,fun z hz=>(h.n1 z hz).below hb,fun z hz y hy=>(h.n2 z hz y hy).below hb,h.dis⟩
theorem CanS.size {B:Nat} {Z Y:Wd} {yl L R:Nat} {ss:List Nat} {ps:OA} {cs:Nat} {zs:List zdA} {pr:OA} {cr:Nat} (h:CanS B Z yl L R ss ps cs zs pr cr) {ps':OA} {cs' n:Nat} (ho:OwnS zB 3 B Y ps' cs' (ss++[n])) (g:Z.grownBy Y (ps.map Addr.block)) (hat:∀ a,ps'=some a->ps=some a\/a.block=Z.heap.size):CanS B Y yl L R (ss++[n]) ps' cs' zs pr cr :=
 ⟨qo h.fL h.own (by decide) g,qo h.fR h.own (by decide) g,ho,zam h.rk h.own (by decide) g,fun z hz=>zam (h.n1 z hz) h.own (by decide) g,fun z hz y hy=>zdi (h.n2 z hz y hy) g fun a b ha hb=>h.dis z hz y hy a b ha hb,fun z hz y hy a b ha hb=>by
  rcases hat a ha with h1 | h1
  ·exact h.dis z hz y hy a b h1 hb
  ·have:=(zy (h.n2 z hz y hy) hb).2.1;omega⟩
theorem zm6 {ds:List Nat}:∀ {rs:List (Nat×List Nat)} {ds:List Nat} {f:Nat->Nat},zH f->(∀ r∈rs,r.1<48)->zH (rfF rs ds f)
 | [],_,_,h,_=>h
 | (r,s)::rs,ds,f,h,hr=>by
  have h1:=hr (r,s) Kz;refine zm6 (rs:=rs) (ds:=ds.tail) (f:=upd f (s.getD (ds.headD 0) 0) (f (s.getD (ds.headD 0) 0)|||2^r)) ?_ fun x hx=>hr x (JY _ hx);intro j hj;by_cases e:j=s.getD (ds.headD 0) 0
  ·rw [e,zP];exact KY (by rw [<- e];exact h j hj) (z3 (by have:r<48:=h1;omega))
  ·rw [qk _ _ e];exact h j hj
theorem znP {ev:List Ev}:∀ {Rs:List (List (List Nat))} {l:Nat} {ds:List Nat} {p:RelD×(Nat->UInt8)},zH p.1.to->(∀ R∈Rs,∀ k∈R,∀ a∈k,a<48)->zH (coG ev l Rs ds p).1.to
 | [],_,_,_,h,_=>h
 | R::Rs,l,ds,p,h,hr=>by
  refine znP (Rs:=Rs) (l:=l+1) (ds:=ds.tail) (p:=(j7 (R.getD (ds.headD 0) []) p.1,_)) (ziM h fun a ha=>?_) fun x hx=>hr x (JY _ hx);rw [gDe] at ha
  cases hg:R[ds.headD 0]? with
  | none=>rw [hg] at ha;cases ha
  | some k =>
   rw [hg] at ha;exact hr R Kz k (JZ hg) a ha
section
variable (x:ExD) (q:OA) (c:Nat)
theorem zqu:∃ A Z,A.length=50/\∀ r,exC { x with rf:=r } q c=A++(zf r++Z):=by
 obtain⟨A,Z,h1,h2⟩:=zs5 x q c [];exact⟨A,Z,h1,fun r=>by rw [<- h2,QK]⟩
theorem zmy:∃ A Z,A.length=99/\∀ r,exC { x with co:=r } q c=A++(zf r++Z):=by
 obtain⟨A,Z,h1,h2⟩:=zs7 x q c [];exact⟨A,Z,h1,fun r=>by rw [<- h2,QK]⟩
theorem zsg {l:Nat} (hl:l<6) (v:UInt8):(exC x q c).set (327+l) (u8 v)=exC { x with mem:=upd x.mem l v } q c:=by
 obtain⟨A,Z,h1,h2⟩:=zmx x q c [];have e1:=h2 x.mem;have e2:=h2 (upd x.mem l v);rw [QK] at e1 e2;rw [e2];show (exC { x with mem:=x.mem } q c).set _ _=_;rw [e1,qz h1];have e3:=zez (B:=Z) (f:=fun i=>u8 (x.mem i)) (fun i=>u8 (upd x.mem l v i)) hl (fun j hj=>by rw [qk _ _ hj]);rw [<- e3,zP]
theorem ztX (l:List Ev) (q':OA) (c':Nat):(exC x q c).set 0 (.slice q' l.length c')=exC { x with ev:=l } q' c':=rfl
end
abbrev zbV:=ExD×OA×Nat
def exE:Enc zbV:=⟨fun x=>exC x.1 x.2.1 x.2.2,333,fun _=>zA ..,by decide,fun a u hu=>Qj.1 (za0 ..) u hu⟩
abbrev ExH (X:Wd) (b:Nat) (x:ExD) (q:OA) (c:Nat):Prop:=X.heap[b]?=some (.cells (exC x q c).toArray 46 (0,0))
def StX (B:Nat) (pre:List ExD) (vs:List Value) (W:Wd):Prop:=∃ x q c,pre.getLast?=some x/\vs=[.agg (exC x q c).toArray]/\OwnS evE 49 B W q c x.ev
def GvX (vs:List Value) (k:Nat):Prop:=∃ (x:ExD) (a:Addr) (c:Nat),vs=[.agg (exC x (some a) c).toArray]/\k=a.block
theorem zl4 {xs:List zaQ} {rs:List (Nat×List Nat)} (h:xs.map (·.1)=rs.map (·.2)):xs.map (·.1.length)=rs.map fun r=>r.2.length:=by
 have:=Gl (List.map List.length) h;rw [UI,UI] at this;exact this
theorem zkF {zs:List zdA} {ws:List (List Nat)} (h:zs.map (fun z=>z.1.map (·.1))=ws.map zM):zs.map (·.1.length)=ws.map fun w=>(zM w).length:=by
 have:=Gl (List.map List.length) h;rw [UI,UI] at this;rw [<- show zs.map (List.length ∘ fun z:zdA=>z.1.map (·.1))=zs.map (·.1.length) from Kk fun z _=>QN _];exact this
section
variable {Rd:Nat->Prop} {W0:Wd} {bx b o:Nat} {m:MixD} {q:OA} {c:Nat} {p1 p2 p3:OA} {c1 c2 c3:Nat} {xs ys:List zaQ}
theorem zsD (hM:MixM Rd W0 b o m q c p1 p2 p3 c1 c2 c3 xs ys) (fx:W0.heap[bx]?=some (.cells #[.pointer (some ⟨b,o,none⟩)] 141 (0,0))) (hbx:Rd bx) (hRd:∀ k,Rd k->k<W0.heap.size) (hT:Tz64M W0) (hRt:Rd 1) (hB:MixB m) (hev:m.base.ev.length<=48) :
  zrd PG 77 [At0 bx] (zdv m) W0 Rd (StX W0.heap.size) GvX:=by
 intro yl F0 J W hsz hrd hrf hJ hy h0;refine qj 141 [.func (.yield yl) #[] #[],At0 bx] (.c .p (.s .p (.c .p (.c .p (.c .p (.s .p .p)))))) Tryz.func77 ?_;have hMW:=hM.same hrd;have fxW:=(hrd bx hbx).trans fx;have hTW:Tz64M W:=zak hT (hrd _ hRt);have hRW:∀ k,Rd k->k<W.heap.size:=fun k hk=>by have:=hRd k hk;omega
 obtain⟨L,hL⟩:=nm (W.heap.size);have hxl:xs.length=m.rs.length:=by have:=Gl List.length hM.e2;simpa using this
 have hyl:ys.length=m.wr.length:=by have:=Gl List.length hM.e3;simpa using this
 have hrl48:=hB.rl;have hwl6:=hB.wl;have hx1:∀ y∈xs,y.1.length<=1000:=fun y hy=>by
  have:y.1∈m.rs.map (·.2):=by rw [<- hM.e2];exact UL.2 ⟨y,hy,rfl⟩
  obtain⟨r,hr,he⟩:=UL.1 this;rw [<- he];exact (hB.rs r hr).2.1
 refine⟨Unit,fun _=>⟨[(1,At0 bx),(2,At0 L)],[]⟩,fun _ X=>X.heap[L]?=some (.cells #[.func (.yield yl) #[] #[]] 79 (0,0))/\X.heap.size=L+1/\Bw W X,?_,?_⟩
 ·exact⟨(),⟨.cons rfl (.cons (by rw [hL];rfl) .nil),rfl⟩,by rw [hL];exact zu W _,by rw [hL];exact wz _ _,(zba W _)⟩
 rintro _ X ⟨fL,sX,hbX⟩;refine⟨OA×Nat,fun s=>⟨[(1,At0 bx),(2,At0 L),(3,.slice s.1 (xs.map (·.1.length)).length s.2)],[]⟩,fun s Z=>OwnS zB 3 W.heap.size Z s.1 s.2 (xs.map (·.1.length))/\Z.heap[L]?=some (.cells #[.func (.yield yl) #[] #[]] 79 (0,0))/\Bw W Z,?_,?_⟩
 ·refine⟨_,zc (za (zb hbX fxW)) (i:=0) rfl,_,zeU (hMW.same fun k hk=>hbX.block k (hRW k hk)).cells (i:=1) rfl,?_⟩;refine⟨Nat×OA×Nat,fun s=>⟨[(1,At0 bx),(2,At0 L),(3,.slice s.2.1 ((xs.take s.1).map (·.1.length)).length s.2.2),(20,.slice p2 xs.length c2),(21,i64 xs.length),(22,i64 (s.1:Nat))],[]⟩,
   fun s Z=>s.1<=xs.length/\OwnS zB 3 W.heap.size Z s.2.1 s.2.2 ((xs.take s.1).map (·.1.length))/\Z.heap[L]?=some (.cells #[.func (.yield yl) #[] #[]] 79 (0,0))/\Bw W Z,fun s=>xs.length-s.1,(0,none,0),
   (cvE rfl rfl),⟨Gb _,OwnS.nil,fL,hbX⟩,?_⟩
  rintro⟨k,ps,cs⟩ Z ⟨hk,ho,fL,hbZ⟩;dsimp only at hk ho ⊢;refine biE (fun hc=>?_) fun hc=>?_
  ·have hc:(k:Int)<(xs.length:Int):=dT hc;have hkl:k<xs.length:=by omega
   have hZM:=hMW.same fun k hk=>hbZ.block k (hRW k hk);obtain⟨x,hx⟩:∃ x,xs[k]=x:=⟨_,rfl⟩;obtain⟨bp,op,hpe,hlp,hat⟩:=hZM.r2.at hkl;subst hpe;refine⟨k,rfl,hkl,slV x,by rw [<- hx];exact zc (hat k hkl) (i:=0) rfl,⟨by decide,by decide,rfl⟩,zB.enc x.1.length,rfl,?_⟩;have hb1:Bw Z (Z.alloc (.cells (zB.enc x.1.length).toArray 3)):=zba _ _;have hZs:=hbZ.size;have htl:((xs.take k).map (·.1.length)).length=k:=by rw [QN,Qu];omega
   have htk:(xs.take (k+1)).map (·.1.length)=(xs.take k).map (·.1.length)++[x.1.length]:=by
    rw [tsg hkl,QR,hx];rfl
   unfold zdY zax;show SatR _ _;refine zo7 (ho.below hb1) (qS zB x.1.length) (by have:=hb1.size;omega) (by have:=hB.rl;omega) fun p' c' U oU gU hat1=>?_;rw [zaH] at gU;rw [<- htk] at oU ⊢;have fU:=qo (zb hb1 fL) (ho.below hb1) (by decide) gU;exact nxI (by omega) ⟨(k+1,p',c'),(cvE rfl rfl),⟨hkl,oU,fU,hbZ.trans ((hb1.mono hZs).trans (jd (ho.below hb1) (by have:=hb1.size;omega) (UY _) gU))⟩,zdc (by omega)⟩
  ·have hc:¬ (k:Int)<(xs.length:Int):=dF hc;obtain rfl:k=xs.length:=by omega
   rw [Qw] at ho ⊢;exact⟨(ps,cs),(cvE rfl rfl),ho,fL,hbZ⟩
 clear fL sX hbX;rintro⟨ps,cs⟩ X ⟨ho,fL,hbX⟩;dsimp only at ho ⊢;refine⟨Nat,fun R=>⟨[(1,At0 bx),(2,At0 L),(3,.slice ps (xs.map (·.1.length)).length cs),(6,At0 R)],[]⟩,fun R Z=>CanS W.heap.size Z yl L R (xs.map (·.1.length)) ps cs [] none 0/\L<R/\Bw W Z,?_,?_⟩
 ·refine⟨X.heap.size,(cvE rfl rfl),⟨qB _ fL,zu X _,ho.alloc _,OwnS.nil,fun z hz=>(by cases hz),fun z hz=>(by cases hz),fun z hz=>(by cases hz)⟩,hlt fL,hbX.alloc hbX.size _⟩
 clear ho fL hbX;rintro R X ⟨hS,hLR,hbX⟩;refine⟨(List zdA×OA×Nat)×OA×Nat,fun s=>⟨[(1,At0 bx),(2,At0 L),(3,.slice s.2.1 (zL m).length s.2.2),(6,At0 R)],[]⟩,fun s Z=>CanS W.heap.size Z yl L R (zL m) s.2.1 s.2.2 s.1.1 s.1.2.1 s.1.2.2/\s.1.1.map (fun z=>z.1.map (·.1))=m.wr.map zM/\Bw W Z,?_,?_⟩
 ·refine⟨_,zc (za (zb hbX fxW)) (i:=0) rfl,_,zeU (hMW.same fun k hk=>hbX.block k (hRW k hk)).cells (i:=2) rfl,?_⟩;refine⟨Nat×(List zdA×OA×Nat)×OA×Nat,fun s=>⟨[(1,At0 bx),(2,At0 L),(3,.slice s.2.2.1 (xs.map (·.1.length)++s.2.1.1.map (·.1.length)).length s.2.2.2),(6,At0 R),(35,.slice p3 ys.length c3),(36,i64 ys.length),(37,i64 (s.1:Nat))],[]⟩,
   fun s Z=>s.1<=ys.length/\CanS W.heap.size Z yl L R (xs.map (·.1.length)++s.2.1.1.map (·.1.length)) s.2.2.1 s.2.2.2 s.2.1.1 s.2.1.2.1 s.2.1.2.2/\s.2.1.1.map (fun z=>z.1.map (·.1))=(ys.take s.1).map (fun y=>zM y.1)/\Bw W Z,fun s=>ys.length-s.1,(0,([],none,0),ps,cs),
   ⟨.cons rfl (.cons rfl (.cons (by simp;rfl) (.cons rfl (.cons rfl (.cons rfl (.cons rfl .nil)))))),rfl⟩,⟨Gb _,by simpa using hS,rfl,hbX⟩,?_⟩
  clear hS hbX;rintro⟨k,⟨zs,pr,cr⟩,ps,cs⟩ Z ⟨hk,hS,hz,hbZ⟩;dsimp only at hk hS hz ⊢;have hzl:zs.length=k:=by
   have:=Gl List.length hz;rw [QN,QN,Qu] at this;omega
  refine biE (fun hc=>?_) fun hc=>?_
  ·have hc:(k:Int)<(ys.length:Int):=dT hc;have hkl:k<ys.length:=by omega
   have hZM:=hMW.same fun k hk=>hbZ.block k (hRW k hk);obtain⟨y,hyk⟩:∃ y,ys[k]=y:=⟨_,rfl⟩;have hym:y∈ys:=by rw [<- hyk];exact gM hkl
   have hyw:y.1∈m.wr:=by rw [<- hM.e3];exact UL.2 ⟨y,hym,rfl⟩
   obtain⟨bw1,bw2,bw3⟩:=hB.wr _ hyw;obtain⟨bp,op,hpe,hlp,hat⟩:=hZM.r3.at hkl;subst hpe;refine⟨k,rfl,hkl,slV y,by rw [<- hyk];exact zc (hat k hkl) (i:=0) rfl,cmo (zpT (hZM.n3 y hym) bw1 (zak hTW (hbZ.block _ (hRW _ hRt)))) ?_⟩;rintro e Y ⟨⟨rk,pk,ck,rfl,hrk,ork,onk⟩,hbY⟩;have hZs:=hbZ.size;have hSY:=hS.below hbY;have hrkl:rk.length<=10000:=by rw [<- hrk,QN] at bw2;exact bw2
   obtain⟨nz,hnz⟩:∃ nz:zdA,nz=(rk,pk,ck):=⟨_,rfl⟩;have hen:[Value.slice pk rk.length ck]=zia.enc nz:=by rw [hnz];rfl
   refine⟨_,zc (za hSY.fR) (i:=0) rfl,⟨by decide,by decide,rfl⟩,zia.enc nz,by rw [<- hen];rfl,?_⟩;have hb1:Bw Y (Y.alloc (.cells (zia.enc nz).toArray 93)):=zba _ _;have hS1:=hSY.below hb1;have ork1:=ork.below hb1;have onk1:=fun x hx=>(onk x hx).below hb1;unfold zdY zax;show SatR _ _;refine zvs hS1.rk (qS zia nz) (by have:=hb1.size;have:=hbY.size;omega) (by have:=hB.wl;omega) fun p' c' U oU gU hat1=>?_;have fLU:=qo hS1.fL hS1.rk (by decide) gU;have fRU:=qo hS1.fR hS1.rk (by decide) gU;refine zn zvm fRU (o:=0) (v := .slice p' (zs++[nz]).length c') rfl rfl (by show 0<1;decide) rfl fun S fS gS sS=>?_;have hbZY:=hbZ.trans (hbY.mono hZs);have sY:=hbY.size;have sb1:=hb1.size;have hbU:Bw W U:=(hbZY.trans (hb1.mono (by omega))).trans (jd hS1.rk (by omega) (UY _) gU);have hRn:W.heap.size<=R:=by omega
   have hbS:Bw W S:=hbU.trans (zk gS hbU.size hRn);have hSS:CanS W.heap.size S yl L R (xs.map (·.1.length)++zs.map (·.1.length)) ps cs (zs++[nz]) p' c':=by
    have kU:∀ {α:Type} {E:Enc α} {T cc:Nat} {r:OA} {ll:List α},T≠93->T≠142->OwnS E T W.heap.size (Y.alloc (.cells (zia.enc nz).toArray 93)) r cc ll->OwnS E T W.heap.size S r cc ll:=fun {α E T cc r ll} h1 h2 h=>qq (zam h hS1.rk h1 gU) fRU h2 gS;refine⟨(gS.block L (hlt fLU) (by simp;omega)).trans fLU,fS,kU (by decide) (by decide) hS1.own,qq oU fRU (by decide) gS,fun z hz=>?_,fun z hz=>?_,fun z hz=>?_⟩
    ·rcases QS.1 hz with hz | hz
     ·exact kU (by decide) (by decide) (hS1.n1 z hz)
     ·rw [KA.1 hz,hnz];exact kU (by decide) (by decide) (ork1.lower hZs)
    ·rcases QS.1 hz with hz | hz
     ·exact fun x hx=>kU (by decide) (by decide) (hS1.n2 z hz x hx)
     ·rw [KA.1 hz,hnz];exact fun x hx=>kU (by decide) (by decide) ((onk1 x hx).lower hZs)
    ·rcases QS.1 hz with hz | hz
     ·exact hS1.dis z hz
     ·rw [KA.1 hz,hnz];intro x hx a b ha hb;have:=(zy (onk x hx) hb).1;have:=(zy hS.own ha).2.1;omega
   clear hS1 ork1 onk1 hSY hS oU gU hat1 fLU fRU fS gS;refine⟨⟨by decide,by decide,rfl⟩,zB.enc rk.length,rfl,?_⟩;have hb2:Bw S (S.alloc (.cells (zB.enc rk.length).toArray 3)):=zba _ _;have hS2:=hSS.below hb2;have sbS:=hbS.size;have sb2:=hb2.size;unfold zdY zax;show SatR _ _;refine zo7 hS2.own (qS zB rk.length) (by omega) (by rw [lap,QN,QN];have:=hB.rl;have:=hB.wl;omega) fun p2' c2' V oV gV hat2=>?_;rw [zaH] at gV;have hSV:=hS2.size oV gV hat2;have hzz:(xs.map (·.1.length)++zs.map (·.1.length))++[rk.length]=xs.map (·.1.length)++(zs++[nz]).map (·.1.length):=by
    rw [QR,KO,hnz];rfl
   rw [hzz] at hSV ⊢;refine nxI (by omega) ⟨(k+1,(zs++[nz],p',c'),p2',c2'),(cvE rfl rfl),⟨hkl,hSV,?_,hbS.trans ((hb2.mono sbS).trans (jd hS2.own (by omega) (UY _) gV))⟩,zdc (by omega)⟩;rw [tsg hkl,hyk,QR,QR,hz,hnz];show _++[rk.map (·.1)]=_++[zM y.1];rw [hrk]
  ·have hc:¬ (k:Int)<(ys.length:Int):=dF hc;obtain rfl:k=ys.length:=by omega
   have hz2:zs.map (fun z=>z.1.map (·.1))=m.wr.map zM:=by
    rw [Qw] at hz;rw [hz,<- hM.e3,UI];rfl
   have hsz2:xs.map (·.1.length)++zs.map (·.1.length)=zL m:=by
    rw [zl4 hM.e2,zkF hz2];rfl
   rw [hsz2] at hS ⊢;exact⟨((zs,pr,cr),ps,cs),(cvE rfl rfl),hS,hz2,hbZ⟩
 clear hS hbX;rintro⟨⟨zs,pr,cr⟩,ps,cs⟩ V ⟨hS,hz,hbV⟩;dsimp only at hS hz ⊢;have hVs:=hbV.size;have hMV:=hMW.same fun k hk=>hbV.block k (hRW k hk);have fxV:=zb hbV fxW;have hsl1:(zL m).length<=1000:=by
  unfold zL;rw [lap,QN,QN];omega
 have hsl2:∀ n∈zL m,n<=1000000:=fun n hn=>by
  unfold zL at hn;rcases QS.1 hn with hn | hn
  ·obtain⟨r,hr,rfl⟩:=UL.1 hn;have:=(hB.rs r hr).2.1;omega
  ·obtain⟨w,hw,rfl⟩:=UL.1 hn;have:=(hB.wr w hw).2.1;omega
 refine cmo zpX ?_;rintro e V1 ⟨rfl,fo,sV1,hbV1⟩;have hI:=zsZ fo (hS.own.row.below hbV1) (fun a ha=>by have:=(zy hS.own ha).2.1;omega) hsl1 hsl2;obtain⟨Kp,hKp⟩:∃ Kp:(Nat->Prop)->Wd->Prop,Kp=fun F Y=>V1.heap.size<=Y.heap.size/\∀ k,k<V.heap.size->(Rd k\/W.heap.size<=k)->Y.heap[k]?=V.heap[k]?/\¬ F k:=⟨_,rfl⟩;have hF0:∀ k,F0 k->k<W.heap.size:=fun k hk=>(hJ.lt _ _ _ _ h0 hk).1;have hLV:=hlt hS.fL;have hRV:=hlt hS.fR;have hb1:Bw W V1:=hbV.trans (hbV1.mono hVs);refine zdg (zbB _) rfl (lb := #[At0 V.heap.size]) rfl rfl hI (UY _) (fun k hk=>⟨?_,rfl⟩) (fun pre vs W ⟨l,q,_,h,_⟩=>by rw [h];rfl) (by decide)
  F0 (fun pre F Y=>J (pre.map (zE m)) F Y/\Kp F Y) (fun _ _ _ _=>False) (fun k hk=>?_) ⟨?_,?_⟩ (fun ex=>⟨fun _ _ _ _ h=>h.elim,fun _ _ _ _ h=>h.elim⟩) ⟨hJ.step _ _ _ _ h0 (.below hb1),?_⟩ ?_ ?_ ?_
 ·rcases hk with (rfl | ⟨a,ha,rfl⟩) | h
  ·omega
  ·have:=(zy hS.own ha).2.1;omega
  ·exact h.elim
 ·rcases hk with rfl | ⟨a,ha,rfl⟩
  ·intro h;have:=hF0 _ h;omega
  ·intro h;have:=hF0 _ h;have:=(zy hS.own ha).1;omega
 ·rintro pre F A C ⟨hj,hk⟩ hs;rw [hKp] at hk ⊢;have hss:=hs.size;exact⟨hJ.step _ _ _ _ hj (hs.mono (by omega)),UO hk.1 hss,fun k h1 h2=>⟨(hs.same k (by have:=hk.1;omega) (.inl ⟨by omega,fun h=>h⟩)).trans (hk.2 k h1 h2).1,(hk.2 k h1 h2).2⟩⟩
 ·rintro pre F A k ⟨hj,_⟩ hk;exact hJ.lt _ _ _ _ hj hk
 ·rw [hKp];refine⟨UY _,fun k h1 h2=>⟨hbV1.block k h1,fun h=>?_⟩⟩;rcases h2 with h2 | h2
  ·exact hrf k h2 h
  ·have:=hF0 k h;omega
 ·rintro yl2 pre ds vs F Y hyl hpre hJ0 ⟨l,qd,hlast,rfl,hsl,hcel⟩ hfy ⟨lo,hlo⟩;have hdx:ds=l:=by simpa using hlast
  subst hdx;refine⟨rfl,F,KeepsG.refl _ _,hJ0,?_⟩;rintro O Y2 hY2 ⟨hj,hkp⟩;rw [hKp] at hkp;obtain⟨hY2s,hkp⟩:=hkp;have hkq:=hkp;have hslY:SlR zB Y2 qd ds:=by
   rw [hY2];refine jf hsl fun a ha=>zj fun e=>?_;obtain⟨cur,hcur⟩:=hcel a ha;rw [e,hlo] at hcur
   cases hcur
  obtain⟨hdl,hdlt⟩:=za1 (hpre.subset (JO _ (KA.2 rfl)));have hdl2:ds.length=m.rs.length+m.wr.length:=by
   rw [hdl];unfold zL;rw [lap,QN,QN]
  have hMY:MixM Rd Y2 b o m q c p1 p2 p3 c1 c2 c3 xs ys:=hMV.same fun k hk=>(hkp k (by have:=hRW k hk;omega) (.inl hk)).1;have fxY:=(hkp bx (by have:=hRW bx hbx;omega) (.inl hbx)).1.trans fxV;have fLY:=(hkp L hLV (.inr (by omega))).1.trans hS.fL;have fRY:=(hkp R hRV (.inr (by omega))).1.trans hS.fR;have kR:∀ {α:Type} {E:Enc α} {T cc:Nat} {r:OA} {ll:List α},OwnS E T W.heap.size V r cc ll->OwnS E T W.heap.size Y2 r cc ll:=fun {α E T cc r ll} h=>h.same fun a ha=>(hkp _ (zy h ha).2.1 (.inr (zy h ha).1)).1;have rkY:=kR hS.rk;have n1Y:=fun z hz=>kR (hS.n1 z hz);have n2Y:=fun z hz y hy=>kR (hS.n2 z hz y hy);clear hkp hlo hcel hsl;have hbY:b<Y2.heap.size:=by have:=hRW b hM.db;omega
  refine⟨_,zc (za fxY) (i:=0) rfl,?_⟩;have hbase:zF Y2 ⟨b,o,none⟩ (exC m.base q c):=by
   have:=zT (n:=0) (m:=333) hMY.cells;rw [Um,Jg (by rw [zA];decide),JH (by rw [zA];decide)] at this;exact this
  refine⟨exC m.base q c,zA _ _ _,hbase,hbY,?_⟩;obtain⟨M,hMM⟩:=nm (Y2.heap.size);refine zo (X:=Y2) (v := .agg (exC m.base q c).toArray) k46 (zA _ _ _) jy (za0 _ _ _) fun Z hbZ fZ sZ=>?_;have fZ:ExH Z Y2.heap.size m.base q c:=fZ;rw [<- hMM] at fZ ⊢;refine⟨_,zc (za fZ) (i:=0) rfl,cmo (zi5 (hMY.ev.below hbZ) (by omega) hMY.qn) ?_⟩;rintro e Z2 ⟨⟨q1,k1,rfl,oE⟩,hbZ2⟩;refine zn k34 (zb hbZ2 fZ) (o:=0+0) (v := .slice q1 m.base.ev.length k1) rfl rfl (by rw [zA];decide) rfl fun S fS gS sS=>?_;rw [show 0+0=0 from rfl,ztX] at fS;have hMZ2:M<Z2.heap.size:=by have:=hbZ2.size;omega
  have hbS:Bw Y2 S:=((zst hbZ hbZ2)).trans (zk gS (by omega) (by omega));have oES:OwnS evE 49 Y2.heap.size S q1 k1 m.base.ev:=qq (oE.lower hbZ.size) (zb hbZ2 fZ) (by decide) gS;clear oE gS sS fZ hbZ hbZ2;have tMY:∀ {S:Wd},Bw Y2 S->MixM Rd S b o m q c p1 p2 p3 c1 c2 c3 xs ys:=fun {S} hb=>hMY.same fun k hk=>hb.block k (by have:=hRW k hk;omega);have hxlen:=hxl;refine⟨_,zc (za (zb hbS fxY)) (i:=0) rfl,_,zeU (tMY hbS).cells (i:=0) rfl,?_⟩;refine⟨Nat,fun k=>⟨[(1,At0 bx),(2,At0 L),(6,At0 R),(10,.slice qd ds.length ds.length),(11,At0 M),(67,.slice p1 m.rs.length c1),(68,i64 m.rs.length),(69,i64 (k:Nat))],[]⟩,
   fun k Z=>k<=m.rs.length/\ExH Z M { m.base with rf:=⟨m.base.rf.n,rfF (m.rs.take k) ds m.base.rf.to⟩ } q1 k1/\OwnS evE 49 Y2.heap.size Z q1 k1 m.base.ev/\Bw Y2 Z,fun k=>m.rs.length-k,0,
   (cvE rfl rfl),⟨Gb _,fS,oES,hbS⟩,?_⟩
  clear fS oES hbS;rintro k Z ⟨hk,fZ,oE,hbZ⟩;refine biE (fun hc=>?_) fun hc=>?_
  ·have hc:(k:Int)<(m.rs.length:Int):=dT hc;have hkl:k<m.rs.length:=by omega
   have hZM:=tMY hbZ;have hZs:=hbZ.size;obtain⟨⟨r,s⟩,hrs⟩:∃ x,m.rs[k]=x:=⟨_,rfl⟩;obtain⟨hr48,hs1,hs48⟩:=hB.rs (r,s) (by rw [<- hrs];exact gM hkl);dsimp only at hr48 hs1 hs48;have hkx:k<xs.length:=by omega
   obtain⟨y,hyk⟩:∃ y,xs[k]=y:=⟨_,rfl⟩;have hym:y∈xs:=by rw [<- hyk];exact gM hkx
   have hys:y.1=s:=by
    have h1:(xs.map (·.1))[k]?=some y.1:=(by rw [KU,gE hkx,hyk];rfl);rw [hM.e2,KU,gE hkl,hrs] at h1;exact (Uf h1).symm
   obtain⟨d,hd⟩:∃ d,ds[k]?=some d:=⟨_,gE (by omega)⟩;have hkd:k<ds.length:=by omega
   have hde:ds[k]=d:=by rw [gE hkd] at hd;exact Uf hd
   have hdlt2:d<y.1.length:=by
    refine hdlt k _ d ?_ hd;unfold zL;rw [Jr (by rw [QN];exact hkl),KU,gE hkl,hrs,hys];rfl
   have hdlt3:d<s.length:=by rw [<- hys];exact hdlt2
   obtain⟨t,ht⟩:∃ t,y.1[d]=t:=⟨_,rfl⟩;have hts:s[d]=t:=by
    have h1:y.1[d]?=some t:=(by rw [gE hdlt2,ht]);rw [hys,gE hdlt3] at h1;exact Uf h1
   have ht48:t<48:=hs48 t (by rw [<- hts];exact gM hdlt3);have hgt:s.getD (ds.getD k 0) 0=t:=by
    rw [gDe,gDe,hd];show (s[d]?).getD 0=t;rw [gE hdlt3,hts];rfl
   have htk:rfF (m.rs.take (k+1)) ds m.base.rf.to=upd (rfF (m.rs.take k) ds m.base.rf.to) t (rfF (m.rs.take k) ds m.base.rf.to t|||2^r):=by
    rw [tsg hkl,hrs,zkx,Qu,Ua hk,hgt]
   obtain⟨G,hG⟩:=nm (rfF (m.rs.take k) ds m.base.rf.to);have hGw:zH G:=by
    rw [hG];exact zm6 (ds:=[]) hB.rf fun r hr=>(hB.rs r (Ka hr)).1
   rw [<- hG] at fZ htk;obtain⟨A,T,hA,hE⟩:=zqu { m.base with rf:=⟨m.base.rf.n,G⟩ } q1 k1;have hRel:RelAt Z M 50 46 A T ⟨m.base.rf.n,G⟩:=⟨hA,by rw [<- hE];exact fZ⟩;have hr1:k<(m.rs.map (·.1)).length:=by rw [QN];exact hkl
   obtain⟨b1,o1,hp1,hl1,hat1⟩:=hZM.r1.at hr1;obtain⟨b2,o2,hp2,hl2,hat2⟩:=hZM.r2.at hkx;obtain⟨b3,o3,hp3,hl3,hat3⟩:=(hZM.n2 y hym).at hdlt2;have hslZ:=hslY.below hbZ;obtain⟨b4,o4,hp4,hl4,hat4⟩:=hslZ.at hkd;have e1:some (Value.slice p1 m.rs.length c1)=some (Value.slice (some ⟨b1,o1,none⟩) m.rs.length c1):=by rw [hp1]
   subst hp1;subst hp2;subst hp4;refine⟨k,rfl,hkl,i64 r,by have:=zc (hat1 k hr1) (i:=0) (v:=i64 r) (by rw [Qq,hrs];rfl);exact this,?_⟩;have dZ:Bw Z Z.drew:=(Gd _ _).drew;refine DrawE.ord [23] [0,1,2,3,4,5,6,7,8,9,10,11,12,13,14,15,16,17,18,19,20,21,22,23] (by kernel_rfl) ⟨_,zc (za (hdr (zb hbZ fxY))) (i:=0) rfl,_,zeU (hZM.same (X:=Z.drew) fun _ _=>rfl).cells (i:=1) rfl,k,rfl,hkx,slV y,by have:=zc (zq dZ (hat2 k hkx)) (i:=0) (v:=slV y) (by rw [hyk];rfl);exact this,k,rfl,hkd,i64 d,by have:=zc (zq dZ (hat4 k hkd)) (i:=0) (v:=i64 d) (by rw [hde];rfl);exact this,?_⟩;unfold slV;rw [hp3];refine⟨d,rfl,hdlt2,i64 t,by have:=zc (zq dZ (hat3 d hdlt2)) (i:=0) (v:=i64 t) (by rw [ht];rfl);exact this,t,rfl,ht48,s64 (G t),(hRel.same (Y:=Z.drew) rfl).cell ht48,by omega,_,jZ (e:=r) (by omega),_,zaf (hGw t ht48) (z3 (by omega)),t,rfl,ht48,zn k36 (hRel.same (Y:=Z.drew) rfl).cells (o:=50+1+t*1) (v:=s64 (G t|||2^r)) rfl rfl (by rw [hRel.len];omega) rfl fun S fS gS sS=>?_⟩;rw [hRel.set ht48] at fS;have gS2:Z.grownBy S (some M):=zd (zi dZ) gS;refine nxI (by omega) ⟨k+1,(cvE rfl rfl),⟨hkl,?_,qq oE fZ (by decide) gS2,hbZ.trans (zk gS2 hZs (by omega))⟩,zdc (by omega)⟩;rw [htk];have e5:=hE ⟨m.base.rf.n,upd G t (G t|||2^r)⟩;show S.heap[M]?=some (.cells (exC { m.base with rf:=⟨m.base.rf.n,upd G t (G t|||2^r)⟩ } q1 k1).toArray _ _);exact fS.trans (by rw [<- e5])
  have hc:¬ (k:Int)<(m.rs.length:Int):=dF hc;obtain rfl:k=m.rs.length:=by omega
  rw [Qw] at fZ;obtain⟨RF,hRF⟩:∃ RF:ExD,RF={ m.base with rf:=⟨m.base.rf.n,rfF m.rs ds m.base.rf.to⟩ }:=⟨_,rfl⟩;rw [<- hRF] at fZ;have hRFe:RF.ev=m.base.ev:=by rw [hRF]
  have hRFc:RF.co=m.base.co:=by rw [hRF]
  have hRFm:RF.mem=m.base.mem:=by rw [hRF]
  obtain⟨dl,hdle⟩:=nm (ds.drop m.rs.length);have hdll:dl.length=m.wr.length:=by rw [hdle,Qt];omega
  have hslD:SlR zB Y2 (jj qd ds.length m.rs.length 1) dl:=by
   have:=hslY.sub (cap:=ds.length) (lo:=m.rs.length) (hi:=ds.length) (by omega) (UY _) (UY _);rw [JH (by rw [Qt];exact UY _),<- hdle] at this;exact this
  refine⟨_,zc (za (zb hbZ fxY)) (i:=0) rfl,_,zeU (tMY hbZ).cells (i:=0) rfl,m.rs.length,rfl,by omega,?_⟩;obtain⟨qD,hqD⟩:=nm (jj qd ds.length m.rs.length 1);rw [<- hqD] at hslD ⊢;have hdn:ds.length-m.rs.length=dl.length:=by omega
  rw [hdn];obtain⟨Rs,hRs⟩:=nm (m.wr.map zM);have hRsl:Rs.length=m.wr.length:=by rw [hRs,QN]
  have hzl:zs.length=m.wr.length:=by have:=Gl List.length hz;simpa using this
  have hRsb:∀ R∈Rs,∀ k∈R,k≠[]/\k.length<=48/\∀ a∈k,a<m.base.ev.length:=fun R hR k hk=>by
   rw [hRs] at hR;obtain⟨w,hw,rfl⟩:=UL.1 hR;exact (hB.wr w hw).2.2 k hk
  refine⟨Nat,fun l=>⟨[(1,At0 bx),(2,At0 L),(6,At0 R),(11,At0 M),(104,.slice qD dl.length dl.length),(105,i64 dl.length),(106,i64 (l:Nat))],[]⟩,
   fun l Z=>l<=dl.length/\ExH Z M { RF with co:=(coG m.base.ev 0 (Rs.take l) dl (RF.co,RF.mem)).1,mem:=(coG m.base.ev 0 (Rs.take l) dl (RF.co,RF.mem)).2 } q1 k1/\OwnS evE 49 Y2.heap.size Z q1 k1 m.base.ev/\Bw Y2 Z,fun l=>dl.length-l,0,
   (cvE rfl rfl),⟨Gb _,fZ,oE,hbZ⟩,?_⟩
  clear fZ oE hbZ;rintro l Z ⟨hl,fZ,oE,hbZ⟩;obtain⟨P,hP⟩:=nm (coG m.base.ev 0 (Rs.take l) dl (RF.co,RF.mem));rw [<- hP] at fZ;have hZs:=hbZ.size;have hPw:zH P.1.to:=by
   rw [hP];refine znP (by rw [hRFc];exact hB.co) fun R hR k hk a ha=>?_;have:=(hRsb R (Ka hR) k hk).2.2 a ha;omega
  refine biE (fun hc=>?_) fun hc=>?_
  ·have hc:(l:Int)<(dl.length:Int):=dT hc;have hll:l<dl.length:=by omega
   have hlz:l<zs.length:=by omega
   have hlR:l<Rs.length:=by omega
   obtain⟨z,hzk⟩:∃ z,zs[l]=z:=⟨_,rfl⟩;have hzm:z∈zs:=by rw [<- hzk];exact gM hlz
   have hzR:Rs[l]?=some (z.1.map (·.1)):=by
    rw [hRs,<- hz,KU,gE hlz,hzk];rfl
   have hzRm:z.1.map (·.1)∈Rs:=JZ hzR;obtain⟨d,hd⟩:∃ d,dl[l]=d:=⟨_,rfl⟩;have hdd:dl[l]?=some d:=by rw [gE hll,hd]
   have hdz:d<z.1.length:=by
    refine hdlt (m.rs.length+l) _ d ?_ (by rw [hdle,Kw] at hdd;exact hdd);unfold zL;rw [Jn (by rw [QN];omega),QN,Jz];have:=hzR;rw [hRs,KU] at this;rw [KU]
    cases hw:m.wr[l]? with
    | none=>rw [hw] at this;cases this
    | some w =>
     rw [hw] at this;have h2:zM w=z.1.map (·.1):=Uf this;show some (zM w).length=_;rw [h2,QN]
   obtain⟨y,hyk⟩:∃ y,z.1[d]=y:=⟨_,rfl⟩;have hym:y∈z.1:=by rw [<- hyk];exact gM hdz
   obtain⟨hy0,hy48,hyev⟩:=hRsb _ hzRm y.1 (UL.2 ⟨y,hym,rfl⟩);have hgy:(z.1.map (·.1)).getD d []=y.1:=by
    rw [gDe,KU,gE hdz,hyk];rfl
   obtain⟨hlR2,hzR2⟩:=Js.1 hzR;have htk:coG m.base.ev 0 (Rs.take (l+1)) dl (RF.co,RF.mem)=(j7 y.1 P.1,upd P.2 l (zbQ m.base.ev y.1)):=by
    rw [tsg hlR,hzR2,zlu,<- hP,Qu,Ua (by omega),US];rw [show dl.getD l 0=d by rw [gDe,hdd];rfl,hgy]
   obtain⟨bD,oD,hpD,hlD,hatD⟩:=(hslD.below hbZ).at hll;obtain⟨bR,oR,hpR,hlR0,hatR⟩:=(rkY.below hbZ).row.at hlz;obtain⟨bz,oz,hpz,hlz0,hatz⟩:=((n1Y z hzm).below hbZ).row.at hdz;have hyrow:=((n2Y z hzm y hym).below hbZ).row;have hylt:=fun a ha=>(zy (n2Y z hzm y hym) (a:=a) ha).2.1;subst hpD;subst hpR;refine⟨l,rfl,hll,i64 d,by have:=zc (hatD l hll) (i:=0) (v:=i64 d) (by rw [hd];rfl);exact this,_,zc (za (zb hbZ fRY)) (i:=0) rfl,l,rfl,hlz,.slice z.2.1 z.1.length z.2.2,by have:=zc (hatR l hlz) (i:=0) (v := .slice z.2.1 z.1.length z.2.2) (by rw [hzk];rfl);exact this,?_⟩;rw [hpz];refine⟨d,rfl,hdz,slV y,by have:=zc (hatz d hdz) (i:=0) (v:=slV y) (by rw [hyk];rfl);exact this,?_⟩;obtain⟨A,T,hA,hE⟩:=zmy { RF with co:=P.1,mem:=P.2 } q1 k1;have hRel:RelAt Z M 99 46 A T P.1:=⟨hA,by rw [<- hE];exact fZ⟩;refine cmo (zqb hRel hPw hyrow (fun a ha=>by have:=hylt a ha;omega) (by omega) (fun a ha=>by have:=hyev a ha;omega)) ?_;rintro e V2 ⟨rfl,hRel2,gV2⟩;have fV2:ExH V2 M { RF with co:=j7 y.1 P.1,mem:=P.2 } q1 k1:=by
    have e5:=hE (j7 y.1 P.1);show V2.heap[M]?=some (.cells (exC { RF with co:=j7 y.1 P.1,mem:=P.2 } q1 k1).toArray _ _);exact hRel2.cells.trans (by rw [<- e5])
   have hbV2:Bw Y2 V2:=hbZ.trans (zk gV2 hZs (by omega));have oE2:=qq oE fZ (by decide) gV2;have hyr2:=((n2Y z hzm y hym).below hbV2).row;obtain⟨j,hj2⟩:∃ j,j+1=y.1.length:=⟨y.1.length-1,by have:=List.length_pos_iff.2 hy0;omega⟩;have hjl:j<y.1.length:=by omega
   obtain⟨b6,o6,hp6,hl6,hat6⟩:=hyr2.at hjl;obtain⟨t,ht⟩:∃ t,y.1[j]=t:=⟨_,rfl⟩;have htev:t<m.base.ev.length:=hyev t (by rw [<- ht];exact gM hjl);have hlast:y.1.getLastD 0=t:=by
    rw [List.getLastD_eq_getLast?,List.getLast?_eq_getElem?,show y.1.length-1=j by omega,gE hjl,ht];rfl
   obtain⟨b7,o7,hp7,hl7,hat7⟩:=oE2.row.at htev;have hlV:zbQ m.base.ev y.1=(m.base.ev[t]).v:=by
    show (m.base.ev.getD (y.1.getLastD 0) ev0).v=_;rw [hlast,gDe,gE htev];rfl
   have dV:Bw V2 V2.drew:=(Gd _ _).drew;have hl6':l<6:=by omega
   unfold slV;rw [hp6];refine DrawE.ord [15] [0,1,2,3,4,5,6,7,8,9,10,11,12,13,14,15] (by kernel_rfl) ⟨.slice q1 m.base.ev.length k1,by have:=zc (za (hdr fV2)) (i:=0) (v := .slice q1 RF.ev.length k1) rfl;rw [hRFe] at this;exact this,(j:Nat),(ze (by omega)).trans (by omega),j,rfl,hjl,i64 t,by have:=zc (zq dV (hat6 j hjl)) (i:=0) (v:=i64 t) (by rw [ht];rfl);exact this,?_⟩;rw [hp7];refine⟨t,rfl,htev,u8 (m.base.ev[t]).v,by have:=zc (zq dV (hat7 t htev)) (i:=3) (v:=u8 (m.base.ev[t]).v) rfl;exact this,l,rfl,hl6',zn k5 (hdr fV2) (o:=327+l*1) (v:=u8 (m.base.ev[t]).v) rfl rfl (by rw [zA];omega) rfl fun S fS gS sS=>?_⟩;rw [UZ,zsg _ _ _ hl6'] at fS;have gS2:V2.grownBy S (some M):=zd (zi dV) gS;refine nxI (by omega) ⟨l+1,(cvE rfl rfl),⟨hll,?_,by rw [<- hp7];exact qq oE2 fV2 (by decide) gS2,hbV2.trans (zk gS2 hbV2.size (by omega))⟩,zdc (by omega)⟩;rw [htk,hlV,<- hp7];exact fS
  have hc:¬ (l:Int)<(dl.length:Int):=dF hc;obtain rfl:l=dl.length:=by omega
  rw [JH (by omega)] at hP;have hcand:zE m ds={ RF with co:=P.1,mem:=P.2 }:=by
   rw [hP,hRF,hdle,hRs];rfl
  rw [<- hcand] at fZ;have oE:OwnS evE 49 Y2.heap.size Z q1 k1 (zE m ds).ev:=oE;refine⟨_,zc (za (zb hbZ fLY)) (i:=0) rfl,exC (zE m ds) q1 k1,zA _ _ _,za fZ,hlt fZ,?_⟩;have hjZ:=hJ.step _ _ _ _ hj (StepG.below hbZ);have hGv:∀ k,GvX [.agg (exC (zE m ds) q1 k1).toArray] k->Y2.heap.size<=k/\∃ a,q1=some a/\k=a.block:=by
   rintro k ⟨x,a,cc,he,rfl⟩;have h1:(exC (zE m ds) q1 k1).toArray=(exC x (some a) cc).toArray:=by
    have:=Jy he;exact Value.agg.inj this
   have h2:exC (zE m ds) q1 k1=exC x (some a) cc:=by simpa using h1
   have h3:Value.slice q1 (zE m ds).ev.length k1=Value.slice (some a) x.ev.length cc:=Jy h2;have h4:q1=some a:=by injection h3
   exact⟨(zy oE h4).1,a,h4,rfl⟩
  have hmp:(pre++[ds]).map (zE m)=pre.map (zE m)++[zE m ds]:=by rw [QR];rfl
  have hpm:(pre.map (zE m)++[zE m ds]) <+: zdv m:=by
   obtain⟨t,ht⟩:=hpre;refine⟨t.map (zE m),?_⟩;unfold zdv;rw [<- ht,QR,hmp]
  refine YieldR.mono (hy _ (zE m ds) [.agg (exC (zE m ds) q1 k1).toArray] F Z hjZ ⟨_,q1,k1,by simp,rfl,oE.lower (by omega)⟩ (fun k hk=>by have:=(hGv k hk).1;omega) hpm) ?_;rintro v U ⟨rfl,F',hjU,kU⟩;refine brF ?_;have kF:KeepsG F F' Y2 U:=⟨kU.os.trans hbZ.os,kU.tape.trans hbZ.tape,kU.output.trans hbZ.output,UO hbZ.size kU.size,fun k hk hf=>(kU.same k (by omega) (fun h=>h.elim hf fun h=>by have:=(hGv k h).1;omega)).trans (hbZ.block k hk),fun k hk=>by
   rcases kU.fp k hk with (h | h) | h
   ·exact .inl h
   ·exact .inr (hGv k h).1
   ·exact .inr (by omega)⟩
  refine⟨F',⟨by rw [hmp];exact hjU,?_⟩,kF⟩;rw [hKp];refine⟨UO hY2s kF.size,fun k h1 h2=>?_⟩;obtain⟨h3,h4⟩:=hkq k h1 h2;refine⟨(kF.same k (by omega) h4).trans h3,fun h=>?_⟩;rcases kF.fp k h with h | h
  ·exact h4 h
  ·omega
 ·rintro D F Y hD hfD ⟨hj,hk⟩ hdef;refine⟨_,rfl,hdef,⟨_,rfl⟩,F,?_⟩;show J ((qg (zL m)).map (zE m)) F _;exact hJ.step _ _ _ _ hj (.put (by omega) hfD _)
 ·rintro D ex pre F Y hD hfD hpre h;exact h.elim
end
theorem zsC {b o:Nat} {w:Wd}:Calls PG 33 #[.pointer (some ⟨b,o,none⟩)] w fun e w'=>e = .returned (.func (.func 77) #[] #[At0 w.heap.size])/\w'.heap[w.heap.size]?=some (.cells #[.pointer (some ⟨b,o,none⟩)] 141 (0,0))/\w'.heap.size=w.heap.size+1/\Bw w w':=by
 refine zI 4 [.pointer (some ⟨b,o,none⟩)] Tryz.func33 ?_;exact⟨rfl,zu w _,wz _ _,(zba w _)⟩
def zsP (B:Nat) (F:Nat->Prop) (Y:Wd) (x:zbV):Prop:=OwnS evE 49 B Y x.2.1 x.2.2 x.1.ev/\∀ a,x.2.1=some a->F a.block
theorem zfB (B:Nat):zi3 46 30 (zsP B):=by
 rintro F G Y Z x ⟨h1,h2⟩ hs hg;refine⟨h1.same fun a ha=>?_,fun a ha=>hg _ (h2 a ha)⟩;obtain⟨_,_,cur,hc⟩:=zy h1 ha;exact hs _ cur _ (h2 a ha) hc (by decide) (by decide)
theorem zlM {B B1 bx c0:Nat} {p0:OA} {l0:List zbV} {xs:List ExD} {w W0:Wd} {Rd:Nat->Prop} {pm:Value} (ho:OwnS exE 46 B w p0 c0 l0) (hn:∀ x∈l0,OwnS evE 49 B w x.2.1 x.2.2 x.1.ev) (hB:B<=w.heap.size)
  (hI:zrd PG 77 [At0 bx] xs W0 Rd (StX B1) GvX) (hW0:W0.heap.size<=w.heap.size) (hRd:∀ k,Rd k->k<W0.heap.size/\w.heap[k]?=W0.heap[k]?) (hRB:∀ k,Rd k->k<B\/k=bx) (fb:w.heap[bx]?=some (.cells #[pm] 141 (0,0))) (hB1:B<=B1) (hlen:l0.length+xs.length<=30000) :
  Calls PG 32 #[.slice p0 l0.length c0,.func (.func 77) #[] #[At0 bx]] w fun e w'=>(∃ (new:List zbV) (p:OA) (c:Nat),e = .returned (.slice p (l0++new).length c)/\new.map (·.1)=xs/\OwnS exE 46 B w' p c (l0++new)/\∀ x∈l0++new,OwnS evE 49 B w' x.2.1 x.2.2 x.1.ev)/\Below B w w':=by
 refine qj 13 [.slice p0 l0.length c0,.func (.func 77) #[] #[At0 bx]] (.c .p .p) Tryz.func32 ?_;obtain⟨L,hL⟩:=nm (w.heap.size);refine⟨Unit,fun _=>⟨[(1,.func (.func 77) #[] #[At0 bx]),(2,At0 L)],[]⟩,fun _ X=>X.heap[L]?=some (.cells [.slice p0 l0.length c0].toArray 30 (0,0))/\X.heap.size=L+1/\Bw w X,?_,?_⟩
 ·exact⟨(),⟨.cons rfl (.cons (by rw [hL];rfl) .nil),rfl⟩,by rw [hL];exact zu w _,by rw [hL];exact wz _ _,(zba w _)⟩
 rintro _ W ⟨fL,sW,hbW⟩;have hbxw:=hlt fb;obtain⟨F0,hF0⟩:∃ F0:Nat->Prop,F0=fun k=>k=L\/(∃ a,p0=some a/\k=a.block)\/∃ x∈l0,∃ a,x.2.1=some a/\k=a.block:=⟨_,rfl⟩;have hF0B:∀ k,F0 k->B<=k/\k<W.heap.size/\(k≠L->k≠bx):=by
  intro k hk;rw [hF0] at hk;rcases hk with rfl | ⟨a,ha,rfl⟩ | ⟨x,hx,a,ha,rfl⟩
  ·exact⟨by omega,by omega,fun h=>(h rfl).elim⟩
  ·obtain⟨h1,h2,cur,h3⟩:=zy ho ha;exact⟨h1,by omega,fun _ e=>by rw [e,fb] at h3;simp at h3⟩
  ·obtain⟨h1,h2,cur,h3⟩:=zy (hn x hx) ha;exact⟨h1,by omega,fun _ e=>by rw [e,fb] at h3;simp at h3⟩
 have hG0:Gath exE 46 30 B W.heap.size L W (zsP B) l0 F0 W:=by
  refine⟨UY _,by rw [hF0];exact .inl rfl,fun k hk=>(hF0B k hk).2.1,⟨p0,c0,fL,ho.below hbW,fun a ha=>by rw [hF0];exact .inr (.inl ⟨a,ha,rfl⟩)⟩,fun x hx=>⟨(hn x hx).below hbW,fun a ha=>by rw [hF0];exact .inr (.inr ⟨x,hx,a,ha,rfl⟩)⟩,Gd _ _⟩
 refine ztw (zbB _) rfl (lb := #[At0 bx]) rfl rfl hI (fun pre vs W k ⟨x,q,c,h1,h2,h3⟩ ⟨x',a,c',h4,h5⟩=>?_) (by have:=hbW.size;omega) (fun k hk=>⟨(hRd k hk).1,?_⟩) (fun pre vs W ⟨x,q,c,_,h,_⟩=>by rw [h];rfl) (by decide)
  F0 (fun pre F Y=>∃ xs',(∃ new,xs'=l0++new/\new.map (·.1)=pre/\new.length<=xs.length)/\Gath exE 46 30 B W.heap.size L W (zsP B) xs' F Y) (fun k hk=>?_) (Gath.iter (zfB B) (by omega)) ⟨l0,⟨[],by simp,rfl,Gb _⟩,hG0⟩ ?_ ?_
 ·rw [h2] at h4;have h6:exC x q c=exC x' (some a) c':=by
   have h7:=Value.agg.inj (Jy h4);simpa using h7
  have h8:Value.slice q x.ev.length c=Value.slice (some a) x'.ev.length c':=Jy h6;have h9:q=some a:=by injection h8
  obtain⟨_,_,cur,hc⟩:=zy h3 h9;rw [h5];exact⟨_,_,_,hc⟩
 ·rw [<- (hRd k hk).2];exact hbW.block k (by have:=(hRd k hk).1;omega)
 ·intro h;obtain⟨h1,h2,h3⟩:=hF0B k h;have h4:=(hRd k hk).1;rcases hRB k hk with h5 | h5
  ·omega
  ·exact h3 (by omega) h5
 ·rintro yl pre x vs F Y hyl hpre ⟨xs',⟨new,rfl,hnew',hnl⟩,hG⟩ ⟨x',q,c,hlast,rfl,oq⟩ hgv hfy ⟨lo,hlo⟩;have hxx:x=x':=by simpa using hlast
  subst hxx;have hYs:=hG.size;refine zo (X:=Y) (v := .agg (exC x q c).toArray) k46 (zA _ _ _) jy (za0 _ _ _) fun Z hbZ fZ sZ=>?_;have fZ:ExH Z Y.heap.size x q c:=fZ;obtain⟨F1,hF1⟩:∃ F1:Nat->Prop,F1=fun k=>F k\/GvX [.agg (exC x q c).toArray] k:=⟨_,rfl⟩;rw [<- hF1];have hq1:∀ a,q=some a->F1 a.block:=fun a ha=>by
   rw [hF1];exact .inr ⟨x,a,c,by rw [ha],rfl⟩
  have hgq:∀ k,GvX [.agg (exC x q c).toArray] k->∃ a,q=some a/\k=a.block:=by
   rintro k ⟨x',a,c',h4,h5⟩;have h6:exC x q c=exC x' (some a) c':=by
    have h7:=Value.agg.inj (Jy h4);simpa using h7
   have h8:Value.slice q x.ev.length c=Value.slice (some a) x'.ev.length c':=Jy h6;have h9:q=some a:=by injection h8
   exact⟨a,h9,h5⟩
  have hlt1:∀ k,F1 k->k<Y.heap.size:=fun k hk=>by
   rw [hF1] at hk;rcases hk with hk | hk
   ·exact hG.lt k hk
   ·obtain⟨a,ha,rfl⟩:=hgq k hk;exact (zy oq ha).2.1
  have hFF:∀ k,F k->F1 k:=fun k hk=>by rw [hF1];exact .inl hk
  have hG1:Gath exE 46 30 B W.heap.size L W (zsP B) (l0++new) F1 Z:=by
   obtain⟨p,c',h1,h2,h3⟩:=hG.row;have sZ:=hbZ.size;exact⟨by omega,hFF _ hG.inL,fun k hk=>by have:=hlt1 k hk;omega,⟨p,c',zb hbZ h1,h2.below hbZ,fun a ha=>hFF _ (h3 a ha)⟩,fun y hy=>⟨(hG.nest y hy).1.below hbZ,fun a ha=>hFF _ ((hG.nest y hy).2 a ha)⟩,hG.old.trans (hbZ.mono (by omega))⟩
  refine⟨rfl,F1,KeepsG.below hbZ fun k hk => .inl hk,⟨_,⟨new,rfl,hnew',hnl⟩,hG1⟩,?_⟩;rintro O Y2 hY2 ⟨xs2,⟨new2,rfl,hnew2,hnl2⟩,hG2⟩;clear hG1 hnew' hnl hG;have hYl:=hlt hlo;have fY:ExH Y2 Y.heap.size x q c:=by rw [hY2];exact (zj (by omega)).trans fZ
  have oq2:OwnS evE 49 B1 Y2 q c x.ev:=by
   rw [hY2];refine (oq.below hbZ).same fun a ha=>zj fun e=>?_;obtain⟨_,_,cur,hc⟩:=zy oq ha;rw [e,hlo] at hc
   cases hc
  obtain⟨p,c',h4,h5,h6⟩:=hG2.row;refine⟨_,zc (za h4) (i:=0) rfl,exC x q c,zA _ _ _,za fY,hlt fY,?_⟩;obtain⟨nx,hnx⟩:∃ nx:zbV,nx=(x,q,c):=⟨_,rfl⟩;have hen:exC x q c=exE.enc nx:=by rw [hnx];rfl
  have hpl:pre.length<xs.length:=by
   obtain⟨t,ht⟩:=hpre;rw [<- ht];simp only [lap,Qs];omega
  have hn2:new2.length=pre.length:=by rw [<- hnew2,QN]
  refine⟨⟨by decide,by decide,jy⟩,exE.enc nx,by rw [<- hen];exact zaZ (zA _ _ _) jy,?_⟩;have hw2:W.heap.size<=Y2.heap.size:=hG2.size;obtain⟨v,Y5,hrun,S,hrun2,F',hG',hK',hFF'⟩:=hG2.stepX (P:=PG) (ty:=30) (cap1:=1) (zfB B) (by decide) Tryz.underlying30 k46 rfl rfl (by show _=333;exact jy) k30 rfl (by omega) (by omega) (Gd _ _) nx (by rw [lap];omega) (by rw [lap];show (_+1)*2416<=_;omega)
   (fun G Z _ _ h3 h4=>zfB B F1 G Y2 Z nx ⟨by rw [hnx];exact oq2.lower hB1,fun a ha=>by rw [hnx] at ha;exact hq1 a ha⟩ h3 h4) p c' h4
  unfold zdY zax;exact SatR.mk hrun (SatR.mk hrun2 ⟨F',⟨_,⟨new2++[nx],by rw [KO],by rw [QR,hnew2,hnx];rfl,by rw [lap];show _+1<=_;omega⟩,hG'⟩,hK'⟩)
 ·rintro D F Y hD hfD ⟨xs',⟨new,rfl,hnew',hnl⟩,hG⟩ hdef;obtain⟨p,c',h4,h5,h6⟩:=hG.row;refine⟨_,zc (za h4) (i:=0) rfl,_,rfl,hdef,?_⟩;have kp:∀ a:Addr,F a.block->(Y.putObj D (.deferred none)).heap[a.block]?=Y.heap[a.block]?:=fun a h2=>zj fun e=>by rw [<- e] at hfD;exact hfD h2
  exact⟨⟨new,p,c',rfl,hnew',h5.same fun a ha=>kp a (h6 a ha),fun x hx=>(hG.nest x hx).1.same fun a ha=>kp a ((hG.nest x hx).2 a ha)⟩,qP ((hbW.mono hB).trans hG.old) (by omega) _⟩
end Go.Proofs.YtkpaomeeknegpaaGreatDoor
namespace Go.Sei
def zbw (ns:List Nat):Nat:=ns.foldl (· * ·) 1
theorem zmd (ns:List Nat) (n:Nat):zbw (ns++[n])=zbw ns*n:=by
 unfold zbw;rw [KT];rfl
def zp3 (init:List UInt8) (Ts:List (List PathD)):List MixD:=(qg (Ts.map List.length)).filterMap fun ds=>zhr init (jm Ts ds)
theorem zg9:∀ (Ts:List (List PathD)) (ds:List Nat) (T:List PathD) (d:Nat),Ts.length=ds.length->jm (Ts++[T]) (ds++[d])=jm Ts ds++(match T[d]? with | some P=>[P] | none=>[])
 | [],[],T,d,_=>by
  show (match T[d]? with | some P=>[P] | none=>[])++[]=_;rw [QK];rfl
 | [],_::_,_,_,h=>by simp at h
 | _::_,[],_,_,h=>by simp at h
 | A::Ts,e::ds,T,d,h=>by
  show (match A[e]? with | some P=>[P] | none=>[])++jm (Ts++[T]) (ds++[d])=((match A[e]? with | some P=>[P] | none=>[])++jm Ts ds)++_;rw [zg9 Ts ds T d (by simpa using h),KO]
theorem zme (ns:List Nat) (n:Nat):z6 (ns++[n])=z6 ns*n:=by
 rw [zcv];show _*(n*1)=_;rw [UZ]
theorem zfG:∀ (ns:List Nat) (a:Nat),ns.foldl (· * ·) a=a*z6 ns
 | [],a=>(UZ a).symm
 | n::ns,a=>by
  show ns.foldl (· * ·) (a*n)=a*(n*z6 ns);rw [zfG ns,UF]
theorem zfw:∀ ns:List Nat,z6 ns.reverse=zbw ns:=fun ns=>by
 have h:∀ l:List Nat,z6 l.reverse=z6 l:=fun l=>by
  induction l with
  | nil=>rfl
  | cons n l ih =>
   rw [KW,zme,ih];exact UP _ _
 rw [h];unfold zbw;rw [zfG,Ga]
end Go.Sei
namespace Go.Proofs.YtkpaomeeknegpaaGreatDoor
open Go.Vc Go.RowKit Go.Sei
structure MixX where
 m:MixD
 q:OA
 c:Nat
 p1:OA
 c1:Nat
 p2:OA
 c2:Nat
 p3:OA
 c3:Nat
 xs:List zaQ
 ys:List zaQ
def zoH (x:MixX):List Value:=exC x.m.base x.q x.c++[.slice x.p1 x.m.rs.length x.c1,.slice x.p2 x.xs.length x.c2,.slice x.p3 x.ys.length x.c3]
theorem zp5 (x:MixX):(zoH x).length=336:=by
 unfold zoH;rw [lap,zA];rfl
theorem zk0 (x:MixX):(zoH x).all Value.oneCell'=true:=by
 unfold zoH;rw [QJ,za0];rfl
def zic:Enc MixX:=⟨zoH,336,zp5,by decide,fun a u hu=>Qj.1 (zk0 a) u hu⟩
structure NInM (B:Nat) (F:Nat->Prop) (Y:Wd) (x:MixX):Prop where
 e2:x.xs.map (·.1)=x.m.rs.map (·.2)
 e3:x.ys.map (·.1)=x.m.wr
 ev:RowIn evE 49 B F Y x.q x.c x.m.base.ev
 r1:RowIn zB 3 B F Y x.p1 x.c1 (x.m.rs.map (·.1))
 r2:RowIn jg 62 B F Y x.p2 x.c2 x.xs
 n2:∀ y∈x.xs,RowIn zB 3 B F Y y.2.1 y.2.2 y.1
 r3:RowIn jg 62 B F Y x.p3 x.c3 x.ys
 n3:∀ y∈x.ys,RowIn zB 3 B F Y y.2.1 y.2.2 y.1
theorem NInM.same {B:Nat} {F G:Nat->Prop} {Y Z:Wd} {x:MixX} (h:NInM B F Y x) (k:∀ {α:Type} {E:Enc α} {T c:Nat} {q:OA} {l:List α},T≠95->T≠90->T≠4->RowIn E T B F Y q c l->RowIn E T B G Z q c l):NInM B G Z x :=
 ⟨h.e2,h.e3,k (by decide) (by decide) (by decide) h.ev,k (by decide) (by decide) (by decide) h.r1,k (by decide) (by decide) (by decide) h.r2,fun y hy=>k (by decide) (by decide) (by decide) (h.n2 y hy),k (by decide) (by decide) (by decide) h.r3,fun y hy=>k (by decide) (by decide) (by decide) (h.n3 y hy)⟩
theorem NInM.lower {B B':Nat} {F:Nat->Prop} {Y:Wd} {x:MixX} (h:NInM B F Y x) (hB:B'<=B):NInM B' (fun k=>B'<=k) Y x:=by
 have k:∀ {α:Type} {E:Enc α} {T c:Nat} {q:OA} {l:List α},RowIn E T B F Y q c l->RowIn E T B' (fun k=>B'<=k) Y q c l:=fun {α E T c q l} hr=>⟨hr.own.lower hB,fun a ha=>(zy (hr.own.lower hB) ha).1⟩;exact⟨h.e2,h.e3,k h.ev,k h.r1,k h.r2,fun y hy=>k (h.n2 y hy),k h.r3,fun y hy=>k (h.n3 y hy)⟩
theorem ziG (B:Nat):zi3 95 90 (NInM B):=by
 rintro F G Y Z x h hs hg;refine h.same fun {α E T c q l} t1 t2 _ hr=>⟨hr.own.same fun a ha=>?_,fun a ha=>hg _ (hr.inF a ha)⟩;obtain⟨_,_,cur,hc⟩:=zy hr.own ha;exact hs _ cur _ (hr.inF a ha) hc t1 t2
abbrev TpR:=List zdz×OA×Nat
def tpE:Enc TpR where
 sz:=1
 enc x:=[.slice x.2.1 x.1.length x.2.2]
 len x:=rfl
 one x v hv:=by
  simp at hv;subst hv;rfl
 pos:=by decide
structure MxS (B:Nat) (Z:Wd) (L bP:Nat) (ss:List Nat) (ps:OA) (cs:Nat) (ts:List TpR) (pT:OA) (cT:Nat):Prop where
 f0:Z.heap[L]?=some (.cells #[At0 bP] 85 (0,0))
 f1:Z.heap[L+1]?=some (.cells #[.slice none 0 0] 90 (0,0))
 f2:Z.heap[L+2]?=some (.cells #[.bool false] 4 (0,0))
 f3:Z.heap[L+3]?=some (.cells #[.slice pT ts.length cT] 129 (0,0))
 own:OwnS zB 3 B Z ps cs ss
 rk:OwnS tpE 130 B Z pT cT ts
 n1:∀ z∈ts,OwnS jX 138 B Z z.2.1 z.2.2 z.1
 n2:∀ z∈ts,∀ x∈z.1,PthO B Z x
theorem PthO.same {B:Nat} {Y Z:Wd} {x:zdz} (h:PthO B Y x) (k:∀ {α:Type} {E:Enc α} {T c:Nat} {q:OA} {l:List α},T=49\/T=231->OwnS E T B Y q c l->OwnS E T B Z q c l):PthO B Z x :=
 ⟨k (.inl rfl) h.1,k (.inr rfl) h.2.1,k (.inr rfl) h.2.2.1,k (.inr rfl) h.2.2.2⟩
theorem MxS.below {B:Nat} {Z Y:Wd} {L bP:Nat} {ss:List Nat} {ps:OA} {cs:Nat} {ts:List TpR} {pT:OA} {cT:Nat} (h:MxS B Z L bP ss ps cs ts pT cT) (hb:Bw Z Y):MxS B Y L bP ss ps cs ts pT cT :=
 ⟨zb hb h.f0,zb hb h.f1,zb hb h.f2,zb hb h.f3,h.own.below hb,h.rk.below hb,fun z hz=>(h.n1 z hz).below hb,fun z hz x hx=>(h.n2 z hz x hx).same fun {α E T c q l} _ ho=>ho.below hb⟩
theorem MxS.size {B:Nat} {Z Y:Wd} {L bP n:Nat} {ss:List Nat} {ps ps':OA} {cs cs':Nat} {ts:List TpR} {pT:OA} {cT:Nat} (h:MxS B Z L bP ss ps cs ts pT cT) (ho:OwnS zB 3 B Y ps' cs' (ss++[n])) (g:Z.grownBy Y (ps.map Addr.block)):MxS B Y L bP (ss++[n]) ps' cs' ts pT cT :=
 ⟨qo h.f0 h.own (by decide) g,qo h.f1 h.own (by decide) g,qo h.f2 h.own (by decide) g,qo h.f3 h.own (by decide) g,ho,zam h.rk h.own (by decide) g,fun z hz=>zam (h.n1 z hz) h.own (by decide) g,fun z hz x hx=>(h.n2 z hz x hx).same fun {α E T c q l} ht hoo=>zam hoo h.own (by rcases ht with rfl | rfl <;> decide) g⟩
theorem zvr {B c:Nat} {V1:Wd} {p:OA} {l:List TpR} {y:TpR} {a:Addr} (ho:OwnS tpE 130 B V1 p c l) (ha:zF V1 a ([y].flatMap tpE.enc)) (hB:B<=V1.heap.size) (hl:l.length<=100000) {K:Value->Wd->Prop}
  (h:∀ p' c' w',OwnS tpE 130 B w' p' c' (l++[y])->V1.grownBy w' (p.map Addr.block)->(∀ a,p'=some a->p=some a\/a.block=V1.heap.size)->K (.slice p' (l++[y]).length c') w') :
  SatR ((Builtin.append_ #[129,129] 129 #[.slice p l.length c,.slice (some a) 1 1]).run PG V1) K :=
 jF (E:=tpE) (T:=130) (B:=B) (l:=l) (news:=[y]) (cap:=c) (m:=1) Tryz.underlying129 zqg rfl rfl rfl ho rfl ha hB (by omega) (by show (l.length+1)*24<=_;omega) fun p' c' w' a1 a2 _ a4=>h p' c' w' a1 (by rw [zaH] at a2;exact a2) a4
theorem zvt {B c:Nat} {V1:Wd} {p:OA} {l:List zdz} {y:zdz} {a:Addr} (ho:OwnS jX 138 B V1 p c l) (ha:zF V1 a ([y].flatMap jX.enc)) (hB:B<=V1.heap.size) (hl:l.length<=100000) {K:Value->Wd->Prop}
  (h:∀ p' c' w',OwnS jX 138 B w' p' c' (l++[y])->V1.grownBy w' (p.map Addr.block)->(∀ a,p'=some a->p=some a\/a.block=V1.heap.size)->K (.slice p' (l++[y]).length c') w') :
  SatR ((Builtin.append_ #[130,130] 130 #[.slice p l.length c,.slice (some a) 1 1]).run PG V1) K :=
 jF (E:=jX) (T:=138) (B:=B) (l:=l) (news:=[y]) (cap:=c) (m:=1) Tryz.underlying130 zoK rfl rfl rfl ho rfl ha hB (by omega) (by show (l.length+1)*104<=_;omega) fun p' c' w' a1 a2 _ a4=>h p' c' w' a1 (by rw [zaH] at a2;exact a2) a4
structure ThrQ (V:List UInt8) (l:List InsD):Prop where
 l12:l.length<=12
 ex:∀ x∈l,zvy x
 ok:qy l 6=true
 m:(qC l (ded V)).length<=4096
end Go.Proofs.YtkpaomeeknegpaaGreatDoor
namespace Go.Proofs.YtkpaomeeknegpaaGreatDoor
open Go.Vc Go.RowKit Go.Sei
open Go.Sort (swp)
abbrev RB (w:Wd) (g:Nat) (sp:List Value) (d:Array UInt8):Prop:=RowS zV 5 w g sp d.toList
def lt8 (x y:UInt8):Bool:=decide ((x.toNat:Int)<(y.toNat:Int))
theorem zpu:Go.Sort.SWO lt8 where
 irrefl:=fun x=>Uh (by omega)
 trans:=fun x y z h1 h2=>by
  have h1:=dT h1;have h2:=dT h2;exact Us (by omega)
 ntrans:=fun x y z h1 h2=>by
  have h1:=dF h1;have h2:=dF h2;exact Uh (by omega)
section
variable {w:Wd} {g i j:Nat} {sp:List Value} {d:Array UInt8}
theorem zx (h:RB w g sp d) (hi:i<d.size):w.cell? ⟨g,0+i*1,none⟩=some (u8 d[i]!):=by
 have h1:i<d.toList.length:=by simpa using hi
 have:=zdw h h1;rw [this,getElem!_pos d i hi];simp
theorem zO {P:Program} {iT:TI} (hT:TIok P 5 iT) (hs:iT.size=1) (hr:RB w g sp d) (hi:i<d.size) (x:UInt8) {K:Wd->Prop}
  (k:∀ w',RB w' g sp (d.setIfInBounds i x)->w.grownBy w' (some g)->K w') :
  SatR ((storeVar 5 ⟨g,0+i*1,none⟩ (.agg (zV.enc x).toArray)).run P w) fun _ w'=>K w':=by
 refine zir hT hs hr (i:=i) (by simpa using hi) x fun Z hRZ gZ sZ=>k Z ?_ gZ;show RowS zV 5 Z g sp (d.setIfInBounds i x).toList;rw [Array.toList_setIfInBounds];exact hRZ
theorem zz (w:Wd) (g:Nat):w.grownBy w.drew (some g):=⟨rfl,rfl,rfl,UY _,fun _ _ _=>rfl⟩
end
section
variable {w:Wd} {g cap L a b:Nat} {sp:List Value} {d:Array UInt8}
theorem ztN (hr:RB w g sp d) (hL:d.size=L) (hab:a<=b) (hb:b<=L) (hl:L<=1000000) :
  Calls PG 165 #[.slice (some ⟨g,0,none⟩) L cap,i64 a,i64 b] w fun e w'=>e = .returned (.tuple #[])/\RB w' g sp (Go.Sort.insertionSort lt8 d a b)/\w.grownBy w' (some g):=by
 refine zI 49 [.slice (some ⟨g,0,none⟩) L cap,i64 a,i64 b] Tryz.func165 ?_;obtain⟨R,hR⟩:=nm (Go.Sort.insertionSort lt8 d a b);rw [<- hR];refine⟨((a+1:Nat):Int),(ze (by first | omega | (dsimp only;omega))).trans (by first | omega | (dsimp only;omega)),Nat×Array UInt8,fun s=>⟨[(0,.slice (some ⟨g,0,none⟩) L cap),(1,i64 a),(2,i64 b),(6,i64 (s.1:Nat))],[]⟩,fun s X=>a+1<=s.1/\s.2.size=L/\Go.Sort.insOuter lt8 a b s.1 s.2=R/\RB X g sp s.2/\w.grownBy X (some g),fun s=>b-s.1,(a+1,d),(cvE rfl rfl),⟨UY _,hL,by rw [hR];rfl,hr,qc _ _⟩,?_⟩;rintro⟨i,d1⟩ X ⟨hi,hs1,hR1,hrX,gX⟩;dsimp only at hi hs1 hR1 hrX;rw [Go.Sort.insOuter] at hR1;refine biE (fun hc=>?_) fun hc=>?_
 ·have hc:(i:Int)<(b:Int):=dT hc;have hib:i<b:=by omega
  rw [Gr hib] at hR1;refine⟨Nat×Array UInt8,fun s=>⟨[(0,.slice (some ⟨g,0,none⟩) L cap),(1,i64 a),(2,i64 b),(6,i64 (i:Nat)),(7,i64 (s.1:Nat))],[]⟩,fun s Y=>a<=s.1/\s.1<=i/\s.2.size=L/\Go.Sort.insInner lt8 a s.1 s.2=Go.Sort.insInner lt8 a i d1/\RB Y g sp s.2/\w.grownBy Y (some g),fun s=>s.1,(i,d1),(cvE rfl rfl),⟨by show a<=i;omega,UY _,hs1,rfl,hrX,gX⟩,?_⟩;rintro⟨j,d2⟩ Y ⟨hj,hji,hs2,hR2,hrY,gY⟩;dsimp only at hj hji hs2 hR2 hrY;have hout:∀ Z d3,Go.Sort.insInner lt8 a i d1=d3->d3.size=L->RB Z g sp d3->w.grownBy Z (some g)->a+1<=i+1/\d3.size=L/\Go.Sort.insOuter lt8 a b (i+1) d3=R/\RB Z g sp d3/\w.grownBy Z (some g):=fun Z d3 e z q gz=>⟨by omega,z,by rw [<- e];exact hR1,q,gz⟩;have gYd:=zd gY (zz Y g);have qd:RB Y.drew g sp d2:=hrY;refine DrawE.ord [] [0,1,2,3,4,5,6,7,8,9,10,11,12,13,14] (by kernel_rfl) (biE (fun h2=>?_) fun h2=>?_)
  ·have h2:(a:Int)<(j:Int):=dT h2;obtain⟨k,rfl⟩:∃ k,j=k+1:=⟨j-1,by omega⟩;have hk1:k+1<d2.size:=by omega
   have hk:k<d2.size:=by omega
   have e2:Go.Sort.insInner lt8 a (k+1) d2=if (decide (k+1 > a)&&lt8 d2[k+1]! d2[k]!)=true then Go.Sort.insInner lt8 a k (swp d2 (k+1) k) else d2:=rfl
   have e3:decide (k+1 > a)=true:=Us (by omega);rw [e2,e3,Uy] at hR2;refine⟨k+1,rfl,by omega,?_⟩;refine⟨_,zx qd hk1,((k:Nat):Int),(ze (by first | omega | (dsimp only;omega))).trans (by first | omega | (dsimp only;omega)),k,rfl,by omega,?_⟩;refine⟨_,zx qd hk,cmo jJ ?_⟩;rintro e _ ⟨rfl,rfl⟩;refine⟨Gd _ _,biE (fun h3=>?_) fun h3=>?_⟩
   ·have h3:lt8 d2[k+1]! d2[k]! = true:=h3;rw [Gr h3] at hR2;have qe:RB Y.drew.drew g sp d2:=qd;refine DrawE.ord [15,17] [0,1,2,3,4,5,6,7,8,9,10,11,12,13,14,15,16,17] (by kernel_rfl) ⟨((k:Nat):Int),(ze (by first | omega | (dsimp only;omega))).trans (by first | omega | (dsimp only;omega)),((k:Nat):Int),(ze (by first | omega | (dsimp only;omega))).trans (by first | omega | (dsimp only;omega)),k,rfl,by omega,?_⟩;refine⟨_,zx qe hk,k+1,rfl,by omega,?_⟩;refine⟨_,zx qe hk1,k+1,rfl,by omega,?_⟩;refine zO k5 rfl qe hk1 d2[k]! fun V1 q1 g1=>⟨k,rfl,by omega,?_⟩;refine zO k5 rfl q1 (by rw [Array.size_setIfInBounds];exact hk) d2[k+1]! fun V2 q2 g2=>?_;have q2:RB V2 g sp (swp d2 (k+1) (k)):=q2;have z2:(swp d2 (k+1) (k)).size=d2.size:=Go.Sort.size_swp d2 (k+1) (k);exact⟨((k:Nat):Int),(ze (by first | omega | (dsimp only;omega))).trans (by first | omega | (dsimp only;omega)),(k,swp d2 (k+1) k),(cvE rfl rfl),⟨by show a<=k;omega,by show k<=i;omega,by rw [z2];exact hs2,hR2,q2,zd gYd (zd (zz _ g) (zd g1 g2))⟩,QA k⟩
   ·have h3:lt8 d2[k+1]! d2[k]! = false:=h3;rw [Gq (by rw [h3];exact Ku)] at hR2;exact⟨((i+1:Nat):Int),(ze (by first | omega | (dsimp only;omega))).trans (by first | omega | (dsimp only;omega)),(i+1,d2),(cvE rfl rfl),hout _ _ hR2.symm hs2 qd gYd,zdc (by omega)⟩
  ·have h2:¬ (a:Int)<(j:Int):=dF h2;have hja:j=a:=by omega
   subst hja;have e2:Go.Sort.insInner lt8 j j d2=d2:=by
    cases j with
    | zero=>rfl
    | succ k =>
     show (if (decide (k+1 > k+1)&&lt8 d2[k+1]! d2[k]!)=true then _ else d2)=d2;rw [Uh (by omega),Uj];rfl
   rw [e2] at hR2;exact Gi (fun h=>by cases h) (fun _=>⟨((i+1:Nat):Int),(ze (by first | omega | (dsimp only;omega))).trans (by first | omega | (dsimp only;omega)),(i+1,d2),(cvE rfl rfl),hout _ _ hR2.symm hs2 qd gYd,zdc (by omega)⟩)
 ·have hc:¬ (i:Int)<(b:Int):=dF hc;rw [Gq (by omega)] at hR1;exact⟨rfl,hR1▸hrX,gX⟩
end
def zbG (hi first root:Nat) (d:Array UInt8):Nat:=if (decide (2*root+1+1<hi)&&lt8 d[first+(2*root+1)]! d[first+(2*root+1)+1]!)=true then 2*root+2 else 2*root+1
theorem zgS {hi first root:Nat} {d:Array UInt8} (h:¬ 2*root+1<hi):Go.Sort.siftDown lt8 hi first root d=d:=by
 rw [Go.Sort.siftDown,dif_pos (by omega)]
theorem zm1 {hi first root:Nat} {d:Array UInt8} (h:2*root+1<hi):Go.Sort.siftDown lt8 hi first root d =
  if (!lt8 d[first+root]! d[first+zbG hi first root d]!)=true then d else Go.Sort.siftDown lt8 hi first (zbG hi first root d) (swp d (first+root) (first+zbG hi first root d)):=by
 rw [Go.Sort.siftDown,dif_neg (by omega)];unfold zbG;by_cases h2:(decide (2*root+1+1<hi)&&lt8 d[first+(2*root+1)]! d[first+(2*root+1)+1]!)=true
 ·have h3:2*root+2<hi:=by
   rw [bAT,dE] at h2;omega
  rw [Gr h2,Gr h2,dif_pos h3]
 ·rw [Gq h2,Gq h2]
theorem ziv {hi first root:Nat} {d:Array UInt8} (h:2*root+1<hi):zbG hi first root d<hi/\root<zbG hi first root d:=by
 unfold zbG
 split
 ·rename_i h2;rw [bAT,dE] at h2;omega
 ·omega
section
variable {w:Wd} {g cap L a b:Nat} {sp:List Value} {d:Array UInt8}
theorem zpz {lo hi first:Nat} (hr:RB w g sp d) (hL:d.size=L) (hb:first+hi<=L) (hl:L<=1000000) (hlo:lo<=1000000) :
  Calls PG 187 #[.slice (some ⟨g,0,none⟩) L cap,i64 lo,i64 hi,i64 first] w fun e w'=>e = .returned (.tuple #[])/\RB w' g sp (Go.Sort.siftDown lt8 hi first lo d)/\w.grownBy w' (some g):=by
 refine zI 76 [.slice (some ⟨g,0,none⟩) L cap,i64 lo,i64 hi,i64 first] Tryz.func187 ?_;obtain⟨R,hR⟩:=nm (Go.Sort.siftDown lt8 hi first lo d);rw [<- hR];refine⟨Nat×Array UInt8,fun s=>⟨[(0,.slice (some ⟨g,0,none⟩) L cap),(1,i64 lo),(2,i64 hi),(3,i64 first),(8,i64 (s.1:Nat))],[]⟩,fun s X=>s.1<=1000000/\s.2.size=L/\Go.Sort.siftDown lt8 hi first s.1 s.2=R/\RB X g sp s.2/\w.grownBy X (some g),fun s=>hi-s.1,(lo,d),(cvE rfl rfl),⟨hlo,hL,hR.symm,hr,qc _ _⟩,?_⟩;rintro⟨root,d1⟩ X ⟨hro,hs1,hR1,hrX,gX⟩;dsimp only at hro hs1 hR1 hrX;refine⟨((2*root:Nat):Int),(ze (by first | omega | (dsimp only;omega))).trans (by first | omega | (dsimp only;omega)),((2*root+1:Nat):Int),(ze (by first | omega | (dsimp only;omega))).trans (by first | omega | (dsimp only;omega)),biE (fun hc=>?_) fun hc=>?_⟩
 ·have hc:(hi:Int)<=((2*root+1:Nat):Int):=dT hc;rw [zgS (by omega)] at hR1;exact⟨rfl,hR1▸hrX,gX⟩
 ·have hc:¬ (hi:Int)<=((2*root+1:Nat):Int):=dF hc;have hch:2*root+1<hi:=by omega
  rw [zm1 hch] at hR1;obtain⟨hclt,hcr⟩:=ziv (d:=d1) (first:=first) hch;obtain⟨c,hcd⟩:=nm (zbG hi first root d1);rw [<- hcd] at hR1 hclt hcr;have qd:RB X.drew g sp d1:=hrX;have gXd:=zd gX (zz X g);refine DrawE.ord [] [0,1,2,3,4,5,6,7,8,9,10,11,12,13,14,15,16,17,18,19] (by kernel_rfl) ⟨((2*root+1+1:Nat):Int),(ze (by first | omega | (dsimp only;omega))).trans (by first | omega | (dsimp only;omega)),biE (fun h2=>?_) fun h2=>?_⟩
  ·have h2:((2*root+1+1:Nat):Int)<(hi:Int):=dT h2;have h2:2*root+1+1<hi:=by omega
   have hx1:first+(2*root+1)<d1.size:=by omega
   have hx2:first+(2*root+1)+1<d1.size:=by omega
   refine⟨((first+(2*root+1):Nat):Int),(ze (by first | omega | (dsimp only;omega))).trans (by first | omega | (dsimp only;omega)),first+(2*root+1),rfl,by omega,?_⟩;refine⟨_,zx qd hx1,((first+(2*root+1):Nat):Int),(ze (by first | omega | (dsimp only;omega))).trans (by first | omega | (dsimp only;omega)),((first+(2*root+1)+1:Nat):Int),(ze (by first | omega | (dsimp only;omega))).trans (by first | omega | (dsimp only;omega)),first+(2*root+1)+1,rfl,by omega,?_⟩;refine⟨_,zx qd hx2,cmo jJ ?_⟩;rintro e _ ⟨rfl,rfl⟩;refine⟨Gd _ _,biE (fun h3=>?_) fun h3=>?_⟩
   ·have h3:lt8 d1[first+(2*root+1)]! d1[first+(2*root+1)+1]! = true:=h3;have hce:c=2*root+2:=(by rw [hcd];unfold zbG;rw [h3,Us h2];rfl);subst hce;clear hcd;refine⟨((2*root+2:Nat):Int),(ze (by first | omega | (dsimp only;omega))).trans (by first | omega | (dsimp only;omega)),?_⟩;have hi1:first+root<d1.size:=by omega
    have hi2:first+(2*root+2)<d1.size:=by omega
    have q5:RB X.drew.drew g sp d1:=hrX;refine DrawE.ord [] [0,1,2,3,4,5,6,7,8,9,10,11,12,13] (by kernel_rfl) ⟨((first+root:Nat):Int),(ze (by first | omega | (dsimp only;omega))).trans (by first | omega | (dsimp only;omega)),first+root,rfl,by omega,?_⟩;refine⟨_,zx q5 hi1,((first+(2*root+2):Nat):Int),(ze (by first | omega | (dsimp only;omega))).trans (by first | omega | (dsimp only;omega)),first+(2*root+2),rfl,by omega,?_⟩;refine⟨_,zx q5 hi2,cmo jJ ?_⟩;rintro e _ ⟨rfl,rfl⟩;refine⟨Gd _ _,biE (fun h4=>?_) fun h4=>?_⟩
    ·have h4:(!lt8 d1[first+root]! d1[first+(2*root+2)]!)=true:=h4;rw [Gr h4] at hR1;exact⟨rfl,hR1▸hrX,zd gXd (zz _ g)⟩
    ·have h4:(!lt8 d1[first+root]! d1[first+(2*root+2)]!)=false:=h4;rw [Gq (by rw [h4];exact Ku)] at hR1;have q6:RB X.drew.drew.drew g sp d1:=hrX;refine DrawE.ord [21,23] [0,1,2,3,4,5,6,7,8,9,10,11,12,13,14,15,16,17,18,19,20,21,22,23] (by kernel_rfl) ⟨((first+root:Nat):Int),(ze (by first | omega | (dsimp only;omega))).trans (by first | omega | (dsimp only;omega)),((first+(2*root+2):Nat):Int),(ze (by first | omega | (dsimp only;omega))).trans (by first | omega | (dsimp only;omega)),((first+(2*root+2):Nat):Int),(ze (by first | omega | (dsimp only;omega))).trans (by first | omega | (dsimp only;omega)),first+(2*root+2),rfl,by omega,?_⟩;refine⟨_,zx q6 hi2,((first+root:Nat):Int),(ze (by first | omega | (dsimp only;omega))).trans (by first | omega | (dsimp only;omega)),first+root,rfl,by omega,?_⟩;refine⟨_,zx q6 hi1,first+root,rfl,by omega,?_⟩;refine zO k5 rfl q6 hi1 d1[first+(2*root+2)]! fun V1 q1 g1=>⟨first+(2*root+2),rfl,by omega,?_⟩;refine zO k5 rfl q1 (by rw [Array.size_setIfInBounds];exact hi2) d1[first+root]! fun V2 q2 g2=>?_;have q2:RB V2 g sp (swp d1 (first+root) (first+(2*root+2))):=q2;have z2:(swp d1 (first+root) (first+(2*root+2))).size=d1.size:=Go.Sort.size_swp d1 (first+root) (first+(2*root+2));exact⟨(2*root+2,swp d1 (first+root) (first+(2*root+2))),(cvE rfl rfl),⟨by show 2*root+2<=1000000;omega,by rw [z2];exact hs1,hR1,q2,zd gXd (zd (zz _ g) (zd (zz _ g) (zd g1 g2)))⟩,by show hi-(2*root+2)<hi-root;omega⟩
   ·have h3:lt8 d1[first+(2*root+1)]! d1[first+(2*root+1)+1]! = false:=h3;have hce:c=2*root+1:=(by rw [hcd];unfold zbG;rw [h3,Ui];rfl);subst hce;clear hcd;have hi1:first+root<d1.size:=by omega
    have hi2:first+(2*root+1)<d1.size:=by omega
    have q5:RB X.drew.drew g sp d1:=hrX;refine DrawE.ord [] [0,1,2,3,4,5,6,7,8,9,10,11,12,13] (by kernel_rfl) ⟨((first+root:Nat):Int),(ze (by first | omega | (dsimp only;omega))).trans (by first | omega | (dsimp only;omega)),first+root,rfl,by omega,?_⟩;refine⟨_,zx q5 hi1,((first+(2*root+1):Nat):Int),(ze (by first | omega | (dsimp only;omega))).trans (by first | omega | (dsimp only;omega)),first+(2*root+1),rfl,by omega,?_⟩;refine⟨_,zx q5 hi2,cmo jJ ?_⟩;rintro e _ ⟨rfl,rfl⟩;refine⟨Gd _ _,biE (fun h4=>?_) fun h4=>?_⟩
    ·have h4:(!lt8 d1[first+root]! d1[first+(2*root+1)]!)=true:=h4;rw [Gr h4] at hR1;exact⟨rfl,hR1▸hrX,zd gXd (zz _ g)⟩
    ·have h4:(!lt8 d1[first+root]! d1[first+(2*root+1)]!)=false:=h4;rw [Gq (by rw [h4];exact Ku)] at hR1;have q6:RB X.drew.drew.drew g sp d1:=hrX;refine DrawE.ord [21,23] [0,1,2,3,4,5,6,7,8,9,10,11,12,13,14,15,16,17,18,19,20,21,22,23] (by kernel_rfl) ⟨((first+root:Nat):Int),(ze (by first | omega | (dsimp only;omega))).trans (by first | omega | (dsimp only;omega)),((first+(2*root+1):Nat):Int),(ze (by first | omega | (dsimp only;omega))).trans (by first | omega | (dsimp only;omega)),((first+(2*root+1):Nat):Int),(ze (by first | omega | (dsimp only;omega))).trans (by first | omega | (dsimp only;omega)),first+(2*root+1),rfl,by omega,?_⟩;refine⟨_,zx q6 hi2,((first+root:Nat):Int),(ze (by first | omega | (dsimp only;omega))).trans (by first | omega | (dsimp only;omega)),first+root,rfl,by omega,?_⟩;refine⟨_,zx q6 hi1,first+root,rfl,by omega,?_⟩;refine zO k5 rfl q6 hi1 d1[first+(2*root+1)]! fun V1 q1 g1=>⟨first+(2*root+1),rfl,by omega,?_⟩;refine zO k5 rfl q1 (by rw [Array.size_setIfInBounds];exact hi2) d1[first+root]! fun V2 q2 g2=>?_;have q2:RB V2 g sp (swp d1 (first+root) (first+(2*root+1))):=q2;have z2:(swp d1 (first+root) (first+(2*root+1))).size=d1.size:=Go.Sort.size_swp d1 (first+root) (first+(2*root+1));exact⟨(2*root+1,swp d1 (first+root) (first+(2*root+1))),(cvE rfl rfl),⟨by show 2*root+1<=1000000;omega,by rw [z2];exact hs1,hR1,q2,zd gXd (zd (zz _ g) (zd (zz _ g) (zd g1 g2)))⟩,by show hi-(2*root+1)<hi-root;omega⟩
  ·have h2:¬ ((2*root+1+1:Nat):Int)<(hi:Int):=dF h2;refine Gi (fun h=>by cases h) (fun _=>?_);have hce:c=2*root+1:=by rw [hcd];unfold zbG;rw [Uh (by omega),Uj];rfl
   subst hce;clear hcd;have hi1:first+root<d1.size:=by omega
   have hi2:first+(2*root+1)<d1.size:=by omega
   have q5:RB X.drew.drew g sp d1:=hrX;refine DrawE.ord [] [0,1,2,3,4,5,6,7,8,9,10,11,12,13] (by kernel_rfl) ⟨((first+root:Nat):Int),(ze (by first | omega | (dsimp only;omega))).trans (by first | omega | (dsimp only;omega)),first+root,rfl,by omega,?_⟩;refine⟨_,zx q5 hi1,((first+(2*root+1):Nat):Int),(ze (by first | omega | (dsimp only;omega))).trans (by first | omega | (dsimp only;omega)),first+(2*root+1),rfl,by omega,?_⟩;refine⟨_,zx q5 hi2,cmo jJ ?_⟩;rintro e _ ⟨rfl,rfl⟩;refine⟨Gd _ _,biE (fun h4=>?_) fun h4=>?_⟩
   ·have h4:(!lt8 d1[first+root]! d1[first+(2*root+1)]!)=true:=h4;rw [Gr h4] at hR1;exact⟨rfl,hR1▸hrX,zd gXd (zz _ g)⟩
   ·have h4:(!lt8 d1[first+root]! d1[first+(2*root+1)]!)=false:=h4;rw [Gq (by rw [h4];exact Ku)] at hR1;have q6:RB X.drew.drew.drew g sp d1:=hrX;refine DrawE.ord [21,23] [0,1,2,3,4,5,6,7,8,9,10,11,12,13,14,15,16,17,18,19,20,21,22,23] (by kernel_rfl) ⟨((first+root:Nat):Int),(ze (by first | omega | (dsimp only;omega))).trans (by first | omega | (dsimp only;omega)),((first+(2*root+1):Nat):Int),(ze (by first | omega | (dsimp only;omega))).trans (by first | omega | (dsimp only;omega)),((first+(2*root+1):Nat):Int),(ze (by first | omega | (dsimp only;omega))).trans (by first | omega | (dsimp only;omega)),first+(2*root+1),rfl,by omega,?_⟩;refine⟨_,zx q6 hi2,((first+root:Nat):Int),(ze (by first | omega | (dsimp only;omega))).trans (by first | omega | (dsimp only;omega)),first+root,rfl,by omega,?_⟩;refine⟨_,zx q6 hi1,first+root,rfl,by omega,?_⟩;refine zO k5 rfl q6 hi1 d1[first+(2*root+1)]! fun V1 q1 g1=>⟨first+(2*root+1),rfl,by omega,?_⟩;refine zO k5 rfl q1 (by rw [Array.size_setIfInBounds];exact hi2) d1[first+root]! fun V2 q2 g2=>?_;have q2:RB V2 g sp (swp d1 (first+root) (first+(2*root+1))):=q2;have z2:(swp d1 (first+root) (first+(2*root+1))).size=d1.size:=Go.Sort.size_swp d1 (first+root) (first+(2*root+1));exact⟨(2*root+1,swp d1 (first+root) (first+(2*root+1))),(cvE rfl rfl),⟨by show 2*root+1<=1000000;omega,by rw [z2];exact hs1,hR1,q2,zd gXd (zd (zz _ g) (zd (zz _ g) (zd g1 g2)))⟩,by show hi-(2*root+1)<hi-root;omega⟩
theorem zfm (hi first:Nat):∀ (n root:Nat) (d:Array UInt8),hi-root<=n->(Go.Sort.siftDown lt8 hi first root d).size=d.size
 | 0,root,d,h=>by rw [zgS (by omega)]
 | n+1,root,d,h=>by
  by_cases hc:2*root+1<hi
  ·have:=ziv (d:=d) (first:=first) hc;rw [zm1 hc]
   split
   ·rfl
   ·rw [zfm hi first n _ _ (by omega)];exact Go.Sort.size_swp ..
  ·rw [zgS hc]
theorem zr2 (hr:RB w g sp d) (hL:d.size=L) (hab:a<b) (hb:b<=L) (hl:L<=1000000) :
  Calls PG 166 #[.slice (some ⟨g,0,none⟩) L cap,i64 a,i64 b] w fun e w'=>e = .returned (.tuple #[])/\RB w' g sp (Go.Sort.heapSort lt8 d a b)/\w.grownBy w' (some g):=by
 refine zI 56 [.slice (some ⟨g,0,none⟩) L cap,i64 a,i64 b] Tryz.func166 ?_;obtain⟨R,hR⟩:=nm (Go.Sort.heapSort lt8 d a b);rw [<- hR];refine⟨((b-a:Nat):Int),(ze (by first | omega | (dsimp only;omega))).trans (by first | omega | (dsimp only;omega)),((b-a-1:Nat):Int),(ze (by first | omega | (dsimp only;omega))).trans (by first | omega | (dsimp only;omega)),by decide,(((b-a-1)/2:Nat):Int),(Gl _ (show ((b-a-1:Nat):Int).tdiv 2=(((b-a-1)/2:Nat):Int) from rfl)).trans (ze (by omega)),Nat×Array UInt8,fun s=>⟨[(0,.slice (some ⟨g,0,none⟩) L cap),(1,i64 a),(2,i64 b),(6,i64 a),(7,i64 0),(8,i64 (b-a:Nat)),(9,i64 ((s.1:Int)-1))],[]⟩,fun s X=>s.1<=(b-a-1)/2+1/\s.2.size=L/\Go.Sort.heapPop lt8 a (b-a) (Go.Sort.heapBuild lt8 (b-a) a s.1 s.2)=R/\RB X g sp s.2/\w.grownBy X (some g),fun s=>s.1,((b-a-1)/2+1,d),⟨.cons rfl (.cons rfl (.cons rfl (.cons rfl (.cons rfl (.cons rfl (.cons (by dsimp only;rw [show ((((b-a-1)/2+1:Nat):Int)-1)=(((b-a-1)/2:Nat):Int) by omega];rfl) .nil)))))),rfl⟩,⟨UY _,hL,hR.symm,hr,qc _ _⟩,?_⟩;rintro⟨k,d1⟩ X ⟨hk,hs1,hR1,hrX,gX⟩;dsimp only at hk hs1 hR1 hrX;refine biE (fun hc=>?_) fun hc=>?_
 ·have hc:(0:Int)<=(k:Int)-1:=dT hc;obtain⟨m,rfl⟩:∃ m,k=m+1:=⟨k-1,by omega⟩;have hm:(((m+1:Nat):Int)-1)=(m:Int):=by omega
  have c1:=zpz (cap:=cap) (lo:=m) (hi:=b-a) (first:=a) hrX hs1 (by omega) hl (by omega);rw [<- hm] at c1;refine cmo c1 ?_;rintro e Y ⟨rfl,qY,gY⟩;exact⟨(m:Int)-1,(ze (by omega)).trans (by omega),(m,Go.Sort.siftDown lt8 (b-a) a m d1),(cvE rfl rfl),⟨by show m<=_;omega,by show (Go.Sort.siftDown ..).size=L;rw [zfm _ _ _ _ _ (UY _)];exact hs1,hR1,qY,zd gX gY⟩,QA m⟩
 ·have hc:¬ (0:Int)<=(k:Int)-1:=dF hc;obtain rfl:k=0:=by omega
  have hR1:Go.Sort.heapPop lt8 a (b-a) d1=R:=hR1;refine⟨((b-a-1:Nat):Int),(ze (by first | omega | (dsimp only;omega))).trans (by first | omega | (dsimp only;omega)),Nat×Array UInt8,fun s=>⟨[(0,.slice (some ⟨g,0,none⟩) L cap),(1,i64 a),(2,i64 b),(6,i64 a),(7,i64 0),(8,i64 (b-a:Nat)),(10,i64 ((s.1:Int)-1))],[]⟩,fun s Y=>s.1<=b-a/\s.2.size=L/\Go.Sort.heapPop lt8 a s.1 s.2=R/\RB Y g sp s.2/\w.grownBy Y (some g),fun s=>s.1,(b-a,d1),⟨.cons rfl (.cons rfl (.cons rfl (.cons rfl (.cons rfl (.cons rfl (.cons (by dsimp only;rw [show (((b-a:Nat):Int)-1)=((b-a-1:Nat):Int) by omega];rfl) .nil)))))),rfl⟩,⟨UY _,hs1,hR1,hrX,gX⟩,?_⟩;rintro⟨k,d2⟩ Y ⟨hk,hs2,hR2,hrY,gY⟩;dsimp only at hk hs2 hR2 hrY;refine biE (fun hc=>?_) fun hc=>?_
  ·have hc:(0:Int)<=(k:Int)-1:=dT hc;obtain⟨m,rfl⟩:∃ m,k=m+1:=⟨k-1,by omega⟩;have hm:(((m+1:Nat):Int)-1)=(m:Int):=by omega
   have hi1:a<d2.size:=by omega
   have hi2:a+m<d2.size:=by omega
   have qd:RB Y.drew g sp d2:=hrY;refine DrawE.ord [17,19] [0,1,2,3,4,5,6,7,8,9,10,11,12,13,14,15,16,17,18,19] (by kernel_rfl) ⟨((a+m:Nat):Int),(ze (by first | omega | (dsimp only;omega))).trans (by first | omega | (dsimp only;omega)),((a+m:Nat):Int),(ze (by first | omega | (dsimp only;omega))).trans (by first | omega | (dsimp only;omega)),a+m,rfl,by omega,?_⟩;refine⟨_,zx qd hi2,a,rfl,by omega,?_⟩;refine⟨_,zx qd hi1,a,rfl,by omega,?_⟩;refine zO k5 rfl qd hi1 d2[a+m]! fun V1 q1 g1=>⟨a+m,rfl,by omega,?_⟩;refine zO k5 rfl q1 (by rw [Array.size_setIfInBounds];exact hi2) d2[a]! fun V2 q2 g2=>?_;have q2:RB V2 g sp (swp d2 (a) (a+m)):=q2;have z2:(swp d2 (a) (a+m)).size=d2.size:=Go.Sort.size_swp d2 (a) (a+m);have c1:=zpz (cap:=cap) (lo:=0) (hi:=m) (first:=a) q2 (by rw [z2];exact hs2) (by omega) hl (by omega);rw [<- hm] at c1;refine cmo c1 ?_;rintro e Z ⟨rfl,qZ,gZ⟩;exact⟨(m:Int)-1,(ze (by omega)).trans (by omega),(m,Go.Sort.siftDown lt8 m a 0 (swp d2 a (a+m))),(cvE rfl rfl),⟨by show m<=_;omega,by show (Go.Sort.siftDown ..).size=L;rw [zfm _ _ _ _ _ (UY _),z2];exact hs2,hR2,qZ,zd gY (zd (zz _ g) (zd g1 (zd g2 gZ)))⟩,QA m⟩
  ·have hc:¬ (0:Int)<=(k:Int)-1:=dF hc;obtain rfl:k=0:=by omega
   have hR2:d2=R:=hR2;exact⟨rfl,hR2▸hrY,gY⟩
end
theorem zec {p:UInt8->Bool} {d:Array UInt8} {i j:Nat} (h:i<=j) (hp:p d[i]! = true):Go.Sort.scanUp p d j i=Go.Sort.scanUp p d j (i+1):=by
 rw [Go.Sort.scanUp,Gr (by rw [Us h,hp];rfl)]
theorem zbD {p:UInt8->Bool} {d:Array UInt8} {i j:Nat} (h:i<=j->p d[i]! = false):Go.Sort.scanUp p d j i=i:=by
 rw [Go.Sort.scanUp];by_cases e:i<=j
 ·rw [Gq (by rw [h e,Ui];exact Ku)]
 ·rw [Gq (by rw [Uh e];exact Ku)]
theorem zcN {p:UInt8->Bool} {d:Array UInt8} {i j:Nat} (h:i<=j+1) (hp:p d[j+1]! = true):Go.Sort.scanDown p d i (j+1)=Go.Sort.scanDown p d i j:=by
 show (if (decide (i<=j+1)&&p d[j+1]!)=true then _ else _)=_;rw [Us h,hp];rfl
theorem zaM {p:UInt8->Bool} {d:Array UInt8} {i:Nat}:∀ {j:Nat},(i<=j->p d[j]! = false)->Go.Sort.scanDown p d i j=j
 | 0,_=>rfl
 | j+1,h=>by
  show (if (decide (i<=j+1)&&p d[j+1]!)=true then _ else _)=_;by_cases e:i<=j+1
  ·rw [h e,Ui];rfl
  ·rw [Uh e];rfl
section
variable {w:Wd} {g cap L a b pivot:Nat} {sp:List Value} {d:Array UInt8}
theorem ztE (hr:RB w g sp d) (hL:d.size=L) (hap:a<=pivot) (hpb:pivot<b) (hb:b<=L) (hl:L<=1000000) :
  Calls PG 173 #[.slice (some ⟨g,0,none⟩) L cap,i64 a,i64 b,i64 pivot] w fun e w'=>∃ m ap d',Go.Sort.partition lt8 d a b pivot=(m,ap,d')/\e = .returned (.tuple #[i64 (m:Nat),.bool ap])/\RB w' g sp d'/\w.grownBy w' (some g):=by
 refine qj 168 [.slice (some ⟨g,0,none⟩) L cap,i64 a,i64 b,i64 pivot] (.s .p (.s .p (.s .p (.c .p (.c .p (.s .p (.s .p (.s .p (.s .p (.c (.b (.l (.b (.c .p (.c .p .p))))) .p)))))))))) Tryz.func173 ?_;have ha1:a<d.size:=by omega
 have ha2:pivot<d.size:=by omega
 have q0:RB w.drew g sp d:=hr;refine DrawE.ord [13,15] [0,1,2,3,4,5,6,7,8,9,10,11,12,13,14,15] (by kernel_rfl) ⟨pivot,rfl,by omega,?_⟩;refine⟨_,zx q0 ha2,a,rfl,by omega,?_⟩;refine⟨_,zx q0 ha1,a,rfl,by omega,?_⟩;refine zO k5 rfl q0 ha1 d[pivot]! fun V1s q1s g1s=>⟨pivot,rfl,by omega,?_⟩;refine zO k5 rfl q1s (by rw [Array.size_setIfInBounds];exact ha2) d[a]! fun V2s q2s g2s=>?_;have q2s:RB V2s g sp (swp d (a) (pivot)):=q2s;have z2s:(swp d (a) (pivot)).size=d.size:=Go.Sort.size_swp d (a) (pivot);obtain⟨d1,hd1⟩:=nm (swp d a pivot);rw [<- hd1] at q2s z2s;have g0:=zd (zz w g) (zd g1s g2s);have hz1:d1.size=L:=by rw [z2s];exact hL
 refine⟨((a+1:Nat):Int),(ze (by first | omega | (dsimp only;omega))).trans (by first | omega | (dsimp only;omega)),?_⟩;obtain⟨J0,hJ0⟩:=nm (b-1);refine⟨((J0:Nat):Int),(ze (by first | omega | (dsimp only;omega))).trans (by first | omega | (dsimp only;omega)),?_⟩;obtain⟨I0,hI0⟩:=nm (Go.Sort.scanUp (fun x=>lt8 x d1[a]!) d1 J0 (a+1));obtain⟨K0,hK0⟩:=nm (Go.Sort.scanDown (fun x => !lt8 x d1[a]!) d1 I0 J0);have hPE:Go.Sort.partition lt8 d a b pivot=if I0 > K0 then (K0,true,swp d1 K0 a) else ((Go.Sort.partLoop lt8 a (I0+1) (K0-1) (swp d1 I0 K0)).1,false,swp (Go.Sort.partLoop lt8 a (I0+1) (K0-1) (swp d1 I0 K0)).2 (Go.Sort.partLoop lt8 a (I0+1) (K0-1) (swp d1 I0 K0)).1 a):=by rw [hK0,hI0,hJ0,hd1];rfl
 refine⟨Unit,fun _=>⟨[(0,.slice (some ⟨g,0,none⟩) L cap),(1,i64 a),(2,i64 b),(3,i64 pivot),(10,i64 (I0:Nat)),(11,i64 (J0:Nat))],[]⟩,fun _ X=>(a+1<=I0/\I0<=J0+1/\(I0<=J0->lt8 d1[I0]! d1[a]! = false))/\RB X g sp d1/\w.grownBy X (some g),?_,?_⟩
 ·refine⟨Nat,fun u=>⟨[(0,.slice (some ⟨g,0,none⟩) L cap),(1,i64 a),(2,i64 b),(3,i64 pivot),(10,i64 (u:Nat)),(11,i64 (J0:Nat))],[]⟩,fun u X=>a+1<=u/\u<=J0+1/\Go.Sort.scanUp (fun x=>lt8 x d1[a]!) d1 J0 u=I0/\RB X g sp d1/\w.grownBy X (some g),fun u=>J0+1-u,(a+1),(cvE rfl rfl),⟨by omega,by omega,hI0.symm,q2s,g0⟩,?_⟩;rintro u Y ⟨hi,hij,hRs,hrY,gY⟩;have gYd:=zd gY (zz Y g);have qd:RB Y.drew g sp d1:=hrY;refine DrawE.ord [] [0,1,2,3,4,5,6,7,8,9,10,11,12,13] (by kernel_rfl) (biE (fun h2=>?_) fun h2=>?_)
  ·have h2:(u:Int)<=(J0:Int):=dT h2;have h2:u<=J0:=by omega
   have hx1:u<d1.size:=by omega
   have hx2:a<d1.size:=by omega
   refine⟨u,rfl,by omega,?_⟩;refine⟨_,zx qd hx1,a,rfl,by omega,?_⟩;refine⟨_,zx qd hx2,cmo jJ ?_⟩;rintro e _ ⟨rfl,rfl⟩;refine⟨Gd _ _,biE (fun h3=>?_) fun h3=>?_⟩
   ·have h3:lt8 d1[u]! d1[a]! = true:=h3;rw [zec (p:=fun x=>lt8 x d1[a]!) h2 h3] at hRs;exact⟨((u+1:Nat):Int),(ze (by first | omega | (dsimp only;omega))).trans (by first | omega | (dsimp only;omega)),u+1,(cvE rfl rfl),⟨by omega,by omega,hRs,qd,gYd⟩,zdc (by omega)⟩
   ·have h3:lt8 d1[u]! d1[a]! = false:=h3;rw [zbD (p:=fun x=>lt8 x d1[a]!) fun _=>h3] at hRs;subst hRs;exact⟨(),(cvE rfl rfl),⟨hi,hij,fun _=>h3⟩,qd,gYd⟩
  ·have h2:¬ (u:Int)<=(J0:Int):=dF h2;refine Gi (fun h=>by cases h) (fun _=>?_);rw [zbD (p:=fun x=>lt8 x d1[a]!) fun h=>Gs h (by omega)] at hRs;subst hRs;exact⟨(),(cvE rfl rfl),⟨hi,hij,fun h=>Gs h (by omega)⟩,qd,gYd⟩
 rintro _ X ⟨⟨hI1,hI2,hI3⟩,hrX,gX⟩;refine⟨Unit,fun _=>⟨[(0,.slice (some ⟨g,0,none⟩) L cap),(1,i64 a),(2,i64 b),(3,i64 pivot),(10,i64 (I0:Nat)),(11,i64 (K0:Nat))],[]⟩,fun _ X=>(K0<=J0/\I0<=K0+1/\(I0<=K0->(!lt8 d1[K0]! d1[a]!)=false))/\RB X g sp d1/\w.grownBy X (some g),?_,?_⟩
 ·refine⟨Nat,fun k=>⟨[(0,.slice (some ⟨g,0,none⟩) L cap),(1,i64 a),(2,i64 b),(3,i64 pivot),(10,i64 (I0:Nat)),(11,i64 (k:Nat))],[]⟩,fun k X=>k<=J0/\I0<=k+1/\Go.Sort.scanDown (fun x => !lt8 x d1[a]!) d1 I0 k=K0/\RB X g sp d1/\w.grownBy X (some g),fun k=>k,J0,(cvE rfl rfl),⟨UY _,by omega,hK0.symm,hrX,gX⟩,?_⟩;rintro k Y ⟨hi,hij,hRs,hrY,gY⟩;have gYd:=zd gY (zz Y g);have qd:RB Y.drew g sp d1:=hrY;refine DrawE.ord [] [0,1,2,3,4,5,6,7,8,9,10,11,12,13,14] (by kernel_rfl) (biE (fun h2=>?_) fun h2=>?_)
  ·have h2:(I0:Int)<=(k:Int):=dT h2;have h2:I0<=k:=by omega
   have hx1:k<d1.size:=by omega
   have hx2:a<d1.size:=by omega
   refine⟨k,rfl,by omega,?_⟩;refine⟨_,zx qd hx1,a,rfl,by omega,?_⟩;refine⟨_,zx qd hx2,cmo jJ ?_⟩;rintro e _ ⟨rfl,rfl⟩;refine⟨Gd _ _,biE (fun h3=>?_) fun h3=>?_⟩
   ·have h3:(!lt8 d1[k]! d1[a]!)=true:=h3;obtain⟨m,rfl⟩:∃ m,k=m+1:=⟨k-1,by omega⟩;rw [zcN (p:=fun x => !lt8 x d1[a]!) h2 h3] at hRs;exact⟨((m:Nat):Int),(ze (by first | omega | (dsimp only;omega))).trans (by first | omega | (dsimp only;omega)),m,(cvE rfl rfl),⟨by omega,by omega,hRs,qd,gYd⟩,QA m⟩
   ·have h3:(!lt8 d1[k]! d1[a]!)=false:=h3;rw [zaM (p:=fun x => !lt8 x d1[a]!) fun _=>h3] at hRs;subst hRs;exact⟨(),(cvE rfl rfl),⟨hi,hij,fun _=>h3⟩,qd,gYd⟩
  ·have h2:¬ (I0:Int)<=(k:Int):=dF h2;refine Gi (fun h=>by cases h) (fun _=>?_);rw [zaM (p:=fun x => !lt8 x d1[a]!) fun h=>Gs h (by omega)] at hRs;subst hRs;exact⟨(),(cvE rfl rfl),⟨hi,hij,fun h=>Gs h (by omega)⟩,qd,gYd⟩
 rintro _ Y ⟨⟨hK1,hK2,hK3⟩,hrY,gY⟩;refine biE (fun hc=>?_) fun hc=>?_
 ·have hc:(K0:Int)<(I0:Int):=dT hc;rw [Gr (by omega)] at hPE;have hx1:K0<d1.size:=by omega
  have hx2:a<d1.size:=by omega
  have qd:RB Y.drew g sp d1:=hrY;refine DrawE.ord [13,15] [0,1,2,3,4,5,6,7,8,9,10,11,12,13,14,15] (by kernel_rfl) ⟨a,rfl,by omega,?_⟩;refine⟨_,zx qd hx2,K0,rfl,by omega,?_⟩;refine⟨_,zx qd hx1,K0,rfl,by omega,?_⟩;refine zO k5 rfl qd hx1 d1[a]! fun V1 q1 g1=>⟨a,rfl,by omega,?_⟩;refine zO k5 rfl q1 (by rw [Array.size_setIfInBounds];exact hx2) d1[K0]! fun V2 q2 g2=>?_;have q2:RB V2 g sp (swp d1 (K0) (a)):=q2;have z2:(swp d1 (K0) (a)).size=d1.size:=Go.Sort.size_swp d1 (K0) (a);exact⟨K0,true,_,hPE,rfl,q2,zd gY (zd (zz _ g) (zd g1 g2))⟩
 ·have hc:¬ (K0:Int)<(I0:Int):=dF hc;rw [Gq (by omega)] at hPE;have hne0:I0≠K0:=fun h=>by
   have e1:=hI3 (by omega);have e2:=hK3 (by omega);rw [h] at e1;rw [e1] at e2
   cases e2
  have hx1:I0<d1.size:=by omega
  have hx2:K0<d1.size:=by omega
  have qd:RB Y.drew g sp d1:=hrY;refine DrawE.ord [13,15] [0,1,2,3,4,5,6,7,8,9,10,11,12,13,14,15] (by kernel_rfl) ⟨K0,rfl,by omega,?_⟩;refine⟨_,zx qd hx2,I0,rfl,by omega,?_⟩;refine⟨_,zx qd hx1,I0,rfl,by omega,?_⟩;refine zO k5 rfl qd hx1 d1[K0]! fun V1t q1t g1t=>⟨K0,rfl,by omega,?_⟩;refine zO k5 rfl q1t (by rw [Array.size_setIfInBounds];exact hx2) d1[I0]! fun V2t q2t g2t=>?_;have q2t:RB V2t g sp (swp d1 (I0) (K0)):=q2t;have z2t:(swp d1 (I0) (K0)).size=d1.size:=Go.Sort.size_swp d1 (I0) (K0);refine⟨((I0+1:Nat):Int),(ze (by first | omega | (dsimp only;omega))).trans (by first | omega | (dsimp only;omega)),((K0-1:Nat):Int),(ze (by first | omega | (dsimp only;omega))).trans (by first | omega | (dsimp only;omega)),?_⟩;obtain⟨d2,hd2⟩:=nm (swp d1 I0 K0);rw [<- hd2] at hPE q2t z2t;have gt0:=zd gY (zd (zz _ g) (zd g1t g2t));have hz2:d2.size=L:=by rw [z2t];exact hz1
  obtain⟨R2,hR2⟩:=nm (Go.Sort.partLoop lt8 a (I0+1) (K0-1) d2);refine⟨Unit,fun _=>⟨[(0,.slice (some ⟨g,0,none⟩) L cap),(1,i64 a),(2,i64 b),(3,i64 pivot),(11,i64 (R2.1:Nat))],[]⟩,fun _ X=>(a<=R2.1/\R2.1<b)/\R2.2.size=L/\RB X g sp R2.2/\w.grownBy X (some g),?_,?_⟩
  ·refine⟨Nat×Nat×Array UInt8,fun s=>⟨[(0,.slice (some ⟨g,0,none⟩) L cap),(1,i64 a),(2,i64 b),(3,i64 pivot),(10,i64 (s.1:Nat)),(11,i64 (s.2.1:Nat))],[]⟩,fun s X=>(a+1<=s.1/\s.1<=s.2.1+1/\s.2.1<b)/\s.2.2.size=L/\Go.Sort.partLoop lt8 a s.1 s.2.1 s.2.2=R2/\RB X g sp s.2.2/\w.grownBy X (some g),fun s=>s.2.1+1-s.1,((I0+1),(K0-1),d2),(cvE rfl rfl),⟨⟨by show a+1<=(I0+1);omega,by show (I0+1)<=(K0-1)+1;omega,by show (K0-1)<b;omega⟩,hz2,hR2.symm,q2t,gt0⟩,?_⟩;rintro⟨i,j,e⟩ X ⟨⟨hi,hij,hjb⟩,hze,hR,hrX,gX⟩;dsimp only at hi hij hjb hze hR hrX;rw [Go.Sort.partLoop_eq] at hR;obtain⟨I,hI⟩:=nm (Go.Sort.scanUp (fun x=>lt8 x e[a]!) e j i);rw [<- hI] at hR;obtain⟨J,hJ⟩:=nm (Go.Sort.scanDown (fun x => !lt8 x e[a]!) e I j);rw [<- hJ] at hR;refine⟨Unit,fun _=>⟨[(0,.slice (some ⟨g,0,none⟩) L cap),(1,i64 a),(2,i64 b),(3,i64 pivot),(10,i64 (I:Nat)),(11,i64 (j:Nat))],[]⟩,fun _ X=>(i<=I/\I<=j+1/\(I<=j->lt8 e[I]! e[a]! = false))/\RB X g sp e/\w.grownBy X (some g),?_,?_⟩
   ·refine⟨Nat,fun u=>⟨[(0,.slice (some ⟨g,0,none⟩) L cap),(1,i64 a),(2,i64 b),(3,i64 pivot),(10,i64 (u:Nat)),(11,i64 (j:Nat))],[]⟩,fun u X=>i<=u/\u<=j+1/\Go.Sort.scanUp (fun x=>lt8 x e[a]!) e j u=I/\RB X g sp e/\w.grownBy X (some g),fun u=>j+1-u,i,(cvE rfl rfl),⟨by omega,by omega,hI.symm,hrX,gX⟩,?_⟩;rintro u Y ⟨hi,hij,hRs,hrY,gY⟩;have gYd:=zd gY (zz Y g);have qd:RB Y.drew g sp e:=hrY;refine DrawE.ord [] [0,1,2,3,4,5,6,7,8,9,10,11,12,13] (by kernel_rfl) (biE (fun h2=>?_) fun h2=>?_)
    ·have h2:(u:Int)<=(j:Int):=dT h2;have h2:u<=j:=(by omega);have hx1:u<e.size:=(by omega);have hx2:a<e.size:=(by omega);refine⟨u,rfl,by omega,?_⟩;refine⟨_,zx qd hx1,a,rfl,by omega,?_⟩;refine⟨_,zx qd hx2,cmo jJ ?_⟩;rintro e _ ⟨rfl,rfl⟩;refine⟨Gd _ _,biE (fun h3=>?_) fun h3=>?_⟩
     ·have h3:lt8 e[u]! e[a]! = true:=h3;rw [zec (p:=fun x=>lt8 x e[a]!) h2 h3] at hRs;exact⟨((u+1:Nat):Int),(ze (by first | omega | (dsimp only;omega))).trans (by first | omega | (dsimp only;omega)),u+1,(cvE rfl rfl),⟨by omega,by omega,hRs,qd,gYd⟩,zdc (by omega)⟩
     ·have h3:lt8 e[u]! e[a]! = false:=h3;rw [zbD (p:=fun x=>lt8 x e[a]!) fun _=>h3] at hRs;subst hRs;exact⟨(),(cvE rfl rfl),⟨hi,hij,fun _=>h3⟩,qd,gYd⟩
    ·have h2:¬ (u:Int)<=(j:Int):=dF h2;refine Gi (fun h=>by cases h) (fun _=>?_);rw [zbD (p:=fun x=>lt8 x e[a]!) fun h=>Gs h (by omega)] at hRs;subst hRs;exact⟨(),(cvE rfl rfl),⟨hi,hij,fun h=>Gs h (by omega)⟩,qd,gYd⟩
   rintro _ Y ⟨⟨hI1,hI2,hI3⟩,hrY,gY⟩;refine⟨Unit,fun _=>⟨[(0,.slice (some ⟨g,0,none⟩) L cap),(1,i64 a),(2,i64 b),(3,i64 pivot),(10,i64 (I:Nat)),(11,i64 (J:Nat))],[]⟩,fun _ X=>(J<=j/\I<=J+1/\(I<=J->(!lt8 e[J]! e[a]!)=false))/\RB X g sp e/\w.grownBy X (some g),?_,?_⟩
   ·refine⟨Nat,fun k=>⟨[(0,.slice (some ⟨g,0,none⟩) L cap),(1,i64 a),(2,i64 b),(3,i64 pivot),(10,i64 (I:Nat)),(11,i64 (k:Nat))],[]⟩,fun k X=>k<=j/\I<=k+1/\Go.Sort.scanDown (fun x => !lt8 x e[a]!) e I k=J/\RB X g sp e/\w.grownBy X (some g),fun k=>k,j,(cvE rfl rfl),⟨UY _,by omega,hJ.symm,hrY,gY⟩,?_⟩;rintro k Y ⟨hi,hij,hRs,hrY,gY⟩;have gYd:=zd gY (zz Y g);have qd:RB Y.drew g sp e:=hrY;refine DrawE.ord [] [0,1,2,3,4,5,6,7,8,9,10,11,12,13,14] (by kernel_rfl) (biE (fun h2=>?_) fun h2=>?_)
    ·have h2:(I:Int)<=(k:Int):=dT h2;have h2:I<=k:=(by omega);have hx1:k<e.size:=(by omega);have hx2:a<e.size:=(by omega);refine⟨k,rfl,by omega,?_⟩;refine⟨_,zx qd hx1,a,rfl,by omega,?_⟩;refine⟨_,zx qd hx2,cmo jJ ?_⟩;rintro e _ ⟨rfl,rfl⟩;refine⟨Gd _ _,biE (fun h3=>?_) fun h3=>?_⟩
     ·have h3:(!lt8 e[k]! e[a]!)=true:=h3;obtain⟨m,rfl⟩:∃ m,k=m+1:=⟨k-1,by omega⟩;rw [zcN (p:=fun x => !lt8 x e[a]!) h2 h3] at hRs;exact⟨((m:Nat):Int),(ze (by first | omega | (dsimp only;omega))).trans (by first | omega | (dsimp only;omega)),m,(cvE rfl rfl),⟨by omega,by omega,hRs,qd,gYd⟩,QA m⟩
     ·have h3:(!lt8 e[k]! e[a]!)=false:=h3;rw [zaM (p:=fun x => !lt8 x e[a]!) fun _=>h3] at hRs;subst hRs;exact⟨(),(cvE rfl rfl),⟨hi,hij,fun _=>h3⟩,qd,gYd⟩
    ·have h2:¬ (I:Int)<=(k:Int):=dF h2;refine Gi (fun h=>by cases h) (fun _=>?_);rw [zaM (p:=fun x => !lt8 x e[a]!) fun h=>Gs h (by omega)] at hRs;subst hRs;exact⟨(),(cvE rfl rfl),⟨hi,hij,fun h=>Gs h (by omega)⟩,qd,gYd⟩
   rintro _ Z ⟨⟨hJ1,hJ2,hJ3⟩,hrZ,gZ⟩;refine biE (fun hc=>?_) fun hc=>?_
   ·have hc:(J:Int)<(I:Int):=dT hc;rw [Gr (by omega)] at hR;subst hR;exact⟨(),(cvE rfl rfl),⟨by show a<=J;omega,by show J<b;omega⟩,hze,hrZ,gZ⟩
   ·have hc:¬ (J:Int)<(I:Int):=dF hc;rw [Gq (by omega)] at hR;have hne:I≠J:=fun h=>by
     have e1:=hI3 (by omega);have e2:=hJ3 (by omega);rw [h] at e1;rw [e1] at e2
     cases e2
    have hx1:I<e.size:=(by omega);have hx2:J<e.size:=(by omega);have qe:RB Z.drew g sp e:=hrZ;refine DrawE.ord [13,15] [0,1,2,3,4,5,6,7,8,9,10,11,12,13,14,15] (by kernel_rfl) ⟨J,rfl,by omega,?_⟩;refine⟨_,zx qe hx2,I,rfl,by omega,?_⟩;refine⟨_,zx qe hx1,I,rfl,by omega,?_⟩;refine zO k5 rfl qe hx1 e[J]! fun V1 q1 g1=>⟨J,rfl,by omega,?_⟩;refine zO k5 rfl q1 (by rw [Array.size_setIfInBounds];exact hx2) e[I]! fun V2 q2 g2=>?_;have q2:RB V2 g sp (swp e (I) (J)):=q2;have z2:(swp e (I) (J)).size=e.size:=Go.Sort.size_swp e (I) (J);exact⟨((I+1:Nat):Int),(ze (by first | omega | (dsimp only;omega))).trans (by first | omega | (dsimp only;omega)),((J-1:Nat):Int),(ze (by first | omega | (dsimp only;omega))).trans (by first | omega | (dsimp only;omega)),(I+1,J-1,swp e I J),(cvE rfl rfl),⟨⟨by show a+1<=I+1;omega,by show I+1<=J-1+1;omega,by show J-1<b;omega⟩,by show (swp e I J).size=L;rw [z2];exact hze,hR,q2,zd gZ (zd (zz _ g) (zd g1 g2))⟩,by show J-1+1-(I+1)<j+1-i;omega⟩
  rintro _ X2 ⟨⟨hm1,hm2⟩,hzR,hrX2,gX2⟩;rw [<- hR2] at hPE;have hy1:R2.1<R2.2.size:=by omega
  have hy2:a<R2.2.size:=by omega
  have qf:RB X2.drew g sp R2.2:=hrX2;refine DrawE.ord [13,15] [0,1,2,3,4,5,6,7,8,9,10,11,12,13,14,15] (by kernel_rfl) ⟨a,rfl,by omega,?_⟩;refine⟨_,zx qf hy2,R2.1,rfl,by omega,?_⟩;refine⟨_,zx qf hy1,R2.1,rfl,by omega,?_⟩;refine zO k5 rfl qf hy1 R2.2[a]! fun V1u q1u g1u=>⟨a,rfl,by omega,?_⟩;refine zO k5 rfl q1u (by rw [Array.size_setIfInBounds];exact hy2) R2.2[R2.1]! fun V2u q2u g2u=>?_;have q2u:RB V2u g sp (swp R2.2 (R2.1) (a)):=q2u;have z2u:(swp R2.2 (R2.1) (a)).size=R2.2.size:=Go.Sort.size_swp R2.2 (R2.1) (a);exact⟨R2.1,false,_,hPE,rfl,q2u,zd gX2 (zd (zz _ g) (zd g1u g2u))⟩
theorem zpS (hr:RB w g sp d) (hL:d.size=L) (hap:a<=pivot) (hpb:pivot<b) (hb:b<=L) (hl:L<=1000000) :
  Calls PG 172 #[.slice (some ⟨g,0,none⟩) L cap,i64 a,i64 b,i64 pivot] w fun e w'=>∃ m d',Go.Sort.partitionEqual lt8 d a b pivot=(m,d')/\e = .returned (i64 (m:Nat))/\RB w' g sp d'/\w.grownBy w' (some g):=by
 refine qj 84 [.slice (some ⟨g,0,none⟩) L cap,i64 a,i64 b,i64 pivot] (.s .p (.s .p (.s .p (.c (.b (.l (.b (.c .p (.c .p .p))))) .p)))) Tryz.func172 ?_;have ha1:a<d.size:=by omega
 have ha2:pivot<d.size:=by omega
 have q0:RB w.drew g sp d:=hr;refine DrawE.ord [13,15] [0,1,2,3,4,5,6,7,8,9,10,11,12,13,14,15] (by kernel_rfl) ⟨pivot,rfl,by omega,?_⟩;refine⟨_,zx q0 ha2,a,rfl,by omega,?_⟩;refine⟨_,zx q0 ha1,a,rfl,by omega,?_⟩;refine zO k5 rfl q0 ha1 d[pivot]! fun V1s q1s g1s=>⟨pivot,rfl,by omega,?_⟩;refine zO k5 rfl q1s (by rw [Array.size_setIfInBounds];exact ha2) d[a]! fun V2s q2s g2s=>?_;have q2s:RB V2s g sp (swp d (a) (pivot)):=q2s;have z2s:(swp d (a) (pivot)).size=d.size:=Go.Sort.size_swp d (a) (pivot);obtain⟨d1,hd1⟩:=nm (swp d a pivot);rw [<- hd1] at q2s z2s;have g0:=zd (zz w g) (zd g1s g2s);have hz1:d1.size=L:=by rw [z2s];exact hL
 refine⟨((a+1:Nat):Int),(ze (by first | omega | (dsimp only;omega))).trans (by first | omega | (dsimp only;omega)),?_⟩;obtain⟨J0,hJ0⟩:=nm (b-1);refine⟨((J0:Nat):Int),(ze (by first | omega | (dsimp only;omega))).trans (by first | omega | (dsimp only;omega)),?_⟩;have hPE:Go.Sort.partitionEqual lt8 d a b pivot=Go.Sort.partEqLoop lt8 a (a+1) J0 d1:=by rw [hJ0,hd1];rfl
 obtain⟨R2,hR2⟩:=nm (Go.Sort.partEqLoop lt8 a (a+1) J0 d1);refine⟨Unit,fun _=>⟨[(0,.slice (some ⟨g,0,none⟩) L cap),(1,i64 a),(2,i64 b),(3,i64 pivot),(9,i64 (R2.1:Nat))],[]⟩,fun _ X=>(a<=R2.1/\R2.1<=b)/\R2.2.size=L/\RB X g sp R2.2/\w.grownBy X (some g),?_,?_⟩
 ·refine⟨Nat×Nat×Array UInt8,fun s=>⟨[(0,.slice (some ⟨g,0,none⟩) L cap),(1,i64 a),(2,i64 b),(3,i64 pivot),(9,i64 (s.1:Nat)),(10,i64 (s.2.1:Nat))],[]⟩,fun s X=>(a+1<=s.1/\s.1<=s.2.1+1/\s.2.1<b)/\s.2.2.size=L/\Go.Sort.partEqLoop lt8 a s.1 s.2.1 s.2.2=R2/\RB X g sp s.2.2/\w.grownBy X (some g),fun s=>s.2.1+1-s.1,((a+1),J0,d1),(cvE rfl rfl),⟨⟨by show a+1<=(a+1);omega,by show (a+1)<=J0+1;omega,by show J0<b;omega⟩,hz1,hR2.symm,q2s,g0⟩,?_⟩;rintro⟨i,j,e⟩ X ⟨⟨hi,hij,hjb⟩,hze,hR,hrX,gX⟩;dsimp only at hi hij hjb hze hR hrX;rw [Go.Sort.partEqLoop_eq] at hR;obtain⟨I,hI⟩:=nm (Go.Sort.scanUp (fun x => !lt8 e[a]! x) e j i);rw [<- hI] at hR;obtain⟨J,hJ⟩:=nm (Go.Sort.scanDown (fun x=>lt8 e[a]! x) e I j);rw [<- hJ] at hR;refine⟨Unit,fun _=>⟨[(0,.slice (some ⟨g,0,none⟩) L cap),(1,i64 a),(2,i64 b),(3,i64 pivot),(9,i64 (I:Nat)),(10,i64 (j:Nat))],[]⟩,fun _ X=>(i<=I/\I<=j+1/\(I<=j->(!lt8 e[a]! e[I]!)=false))/\RB X g sp e/\w.grownBy X (some g),?_,?_⟩
  ·refine⟨Nat,fun u=>⟨[(0,.slice (some ⟨g,0,none⟩) L cap),(1,i64 a),(2,i64 b),(3,i64 pivot),(9,i64 (u:Nat)),(10,i64 (j:Nat))],[]⟩,fun u X=>i<=u/\u<=j+1/\Go.Sort.scanUp (fun x => !lt8 e[a]! x) e j u=I/\RB X g sp e/\w.grownBy X (some g),fun u=>j+1-u,i,(cvE rfl rfl),⟨by omega,by omega,hI.symm,hrX,gX⟩,?_⟩;rintro u Y ⟨hi,hij,hRs,hrY,gY⟩;have gYd:=zd gY (zz Y g);have qd:RB Y.drew g sp e:=hrY;refine DrawE.ord [] [0,1,2,3,4,5,6,7,8,9,10,11,12,13,14] (by kernel_rfl) (biE (fun h2=>?_) fun h2=>?_)
   ·have h2:(u:Int)<=(j:Int):=dT h2;have h2:u<=j:=(by omega);have hx1:u<e.size:=(by omega);have hx2:a<e.size:=(by omega);refine⟨a,rfl,by omega,?_⟩;refine⟨_,zx qd hx2,u,rfl,by omega,?_⟩;refine⟨_,zx qd hx1,cmo jJ ?_⟩;rintro e _ ⟨rfl,rfl⟩;refine⟨Gd _ _,biE (fun h3=>?_) fun h3=>?_⟩
    ·have h3:(!lt8 e[a]! e[u]!)=true:=h3;rw [zec (p:=fun x => !lt8 e[a]! x) h2 h3] at hRs;exact⟨((u+1:Nat):Int),(ze (by first | omega | (dsimp only;omega))).trans (by first | omega | (dsimp only;omega)),u+1,(cvE rfl rfl),⟨by omega,by omega,hRs,qd,gYd⟩,zdc (by omega)⟩
    ·have h3:(!lt8 e[a]! e[u]!)=false:=h3;rw [zbD (p:=fun x => !lt8 e[a]! x) fun _=>h3] at hRs;subst hRs;exact⟨(),(cvE rfl rfl),⟨hi,hij,fun _=>h3⟩,qd,gYd⟩
   ·have h2:¬ (u:Int)<=(j:Int):=dF h2;refine Gi (fun h=>by cases h) (fun _=>?_);rw [zbD (p:=fun x => !lt8 e[a]! x) fun h=>Gs h (by omega)] at hRs;subst hRs;exact⟨(),(cvE rfl rfl),⟨hi,hij,fun h=>Gs h (by omega)⟩,qd,gYd⟩
  rintro _ Y ⟨⟨hI1,hI2,hI3⟩,hrY,gY⟩;refine⟨Unit,fun _=>⟨[(0,.slice (some ⟨g,0,none⟩) L cap),(1,i64 a),(2,i64 b),(3,i64 pivot),(9,i64 (I:Nat)),(10,i64 (J:Nat))],[]⟩,fun _ X=>(J<=j/\I<=J+1/\(I<=J->lt8 e[a]! e[J]! = false))/\RB X g sp e/\w.grownBy X (some g),?_,?_⟩
  ·refine⟨Nat,fun k=>⟨[(0,.slice (some ⟨g,0,none⟩) L cap),(1,i64 a),(2,i64 b),(3,i64 pivot),(9,i64 (I:Nat)),(10,i64 (k:Nat))],[]⟩,fun k X=>k<=j/\I<=k+1/\Go.Sort.scanDown (fun x=>lt8 e[a]! x) e I k=J/\RB X g sp e/\w.grownBy X (some g),fun k=>k,j,(cvE rfl rfl),⟨UY _,by omega,hJ.symm,hrY,gY⟩,?_⟩;rintro k Y ⟨hi,hij,hRs,hrY,gY⟩;have gYd:=zd gY (zz Y g);have qd:RB Y.drew g sp e:=hrY;refine DrawE.ord [] [0,1,2,3,4,5,6,7,8,9,10,11,12,13] (by kernel_rfl) (biE (fun h2=>?_) fun h2=>?_)
   ·have h2:(I:Int)<=(k:Int):=dT h2;have h2:I<=k:=(by omega);have hx1:k<e.size:=(by omega);have hx2:a<e.size:=(by omega);refine⟨a,rfl,by omega,?_⟩;refine⟨_,zx qd hx2,k,rfl,by omega,?_⟩;refine⟨_,zx qd hx1,cmo jJ ?_⟩;rintro e _ ⟨rfl,rfl⟩;refine⟨Gd _ _,biE (fun h3=>?_) fun h3=>?_⟩
    ·have h3:lt8 e[a]! e[k]! = true:=h3;obtain⟨m,rfl⟩:∃ m,k=m+1:=⟨k-1,by omega⟩;rw [zcN (p:=fun x=>lt8 e[a]! x) h2 h3] at hRs;exact⟨((m:Nat):Int),(ze (by first | omega | (dsimp only;omega))).trans (by first | omega | (dsimp only;omega)),m,(cvE rfl rfl),⟨by omega,by omega,hRs,qd,gYd⟩,QA m⟩
    ·have h3:lt8 e[a]! e[k]! = false:=h3;rw [zaM (p:=fun x=>lt8 e[a]! x) fun _=>h3] at hRs;subst hRs;exact⟨(),(cvE rfl rfl),⟨hi,hij,fun _=>h3⟩,qd,gYd⟩
   ·have h2:¬ (I:Int)<=(k:Int):=dF h2;refine Gi (fun h=>by cases h) (fun _=>?_);rw [zaM (p:=fun x=>lt8 e[a]! x) fun h=>Gs h (by omega)] at hRs;subst hRs;exact⟨(),(cvE rfl rfl),⟨hi,hij,fun h=>Gs h (by omega)⟩,qd,gYd⟩
  rintro _ Z ⟨⟨hJ1,hJ2,hJ3⟩,hrZ,gZ⟩;refine biE (fun hc=>?_) fun hc=>?_
  ·have hc:(J:Int)<(I:Int):=dT hc;rw [Gr (by omega)] at hR;subst hR;exact⟨(),(cvE rfl rfl),⟨by show a<=I;omega,by show I<=b;omega⟩,hze,hrZ,gZ⟩
  ·have hc:¬ (J:Int)<(I:Int):=dF hc;rw [Gq (by omega)] at hR;have hne:I≠J:=fun h=>by
    have e1:=hI3 (by omega);have e2:=hJ3 (by omega);rw [h] at e1;rw [e2] at e1
    cases e1
   have hx1:I<e.size:=by omega
   have hx2:J<e.size:=by omega
   have qe:RB Z.drew g sp e:=hrZ;refine DrawE.ord [13,15] [0,1,2,3,4,5,6,7,8,9,10,11,12,13,14,15] (by kernel_rfl) ⟨J,rfl,by omega,?_⟩;refine⟨_,zx qe hx2,I,rfl,by omega,?_⟩;refine⟨_,zx qe hx1,I,rfl,by omega,?_⟩;refine zO k5 rfl qe hx1 e[J]! fun V1 q1 g1=>⟨J,rfl,by omega,?_⟩;refine zO k5 rfl q1 (by rw [Array.size_setIfInBounds];exact hx2) e[I]! fun V2 q2 g2=>?_;have q2:RB V2 g sp (swp e (I) (J)):=q2;have z2:(swp e (I) (J)).size=e.size:=Go.Sort.size_swp e (I) (J);exact⟨((I+1:Nat):Int),(ze (by first | omega | (dsimp only;omega))).trans (by first | omega | (dsimp only;omega)),((J-1:Nat):Int),(ze (by first | omega | (dsimp only;omega))).trans (by first | omega | (dsimp only;omega)),(I+1,J-1,swp e I J),(cvE rfl rfl),⟨⟨by show a+1<=I+1;omega,by show I+1<=J-1+1;omega,by show J-1<b;omega⟩,by show (swp e I J).size=L;rw [z2];exact hze,hR,q2,zd gZ (zd (zz _ g) (zd g1 g2))⟩,by show J-1+1-(I+1)<j+1-i;omega⟩
 rintro _ X ⟨⟨hm1,hm2⟩,hzR,hrX,gX⟩;exact⟨R2.1,R2.2,hPE.trans hR2.symm,rfl,hrX,gX⟩
end
theorem zoj {d:Array UInt8} {b i:Nat} (h:i<b) (hp:lt8 d[i]! d[i-1]! = false):Go.Sort.scanSorted lt8 d b i=Go.Sort.scanSorted lt8 d b (i+1):=by
 rw [Go.Sort.scanSorted,Gr (by rw [Us h,hp];rfl)]
theorem zkl {d:Array UInt8} {b i:Nat} (h:i<b->lt8 d[i]! d[i-1]! = true):Go.Sort.scanSorted lt8 d b i=i:=by
 rw [Go.Sort.scanSorted];by_cases e:i<b
 ·rw [Gq (by rw [h e,Uw,Ui];exact Ku)]
 ·rw [Gq (by rw [Uh e];exact Ku)]
section
variable {w:Wd} {g cap L a b:Nat} {sp:List Value} {d:Array UInt8}
theorem ztt (hr:RB w g sp d) (hL:d.size=L) (hab:a<b) (hb:b<=L) (hl:L<=1000000) :
  Calls PG 169 #[.slice (some ⟨g,0,none⟩) L cap,i64 a,i64 b] w fun e w'=>e = .returned (.tuple #[])/\RB w' g sp (Go.Sort.reverseRange d a b)/\w.grownBy w' (some g):=by
 refine zI 32 [.slice (some ⟨g,0,none⟩) L cap,i64 a,i64 b] Tryz.func169 ?_;obtain⟨R,hR⟩:=nm (Go.Sort.reverseRange d a b);rw [<- hR];refine⟨((b-1:Nat):Int),(ze (by first | omega | (dsimp only;omega))).trans (by first | omega | (dsimp only;omega)),Nat×Nat×Array UInt8,fun s=>⟨[(0,.slice (some ⟨g,0,none⟩) L cap),(1,i64 a),(2,i64 b),(6,i64 (s.1:Nat)),(7,i64 (s.2.1:Nat))],[]⟩,fun s X=>s.2.1<b/\s.2.2.size=L/\Go.Sort.reverseLoop s.1 s.2.1 s.2.2=R/\RB X g sp s.2.2/\w.grownBy X (some g),fun s=>s.2.1-s.1,(a,b-1,d),(cvE rfl rfl),⟨by show b-1<b;omega,hL,hR.symm,hr,qc _ _⟩,?_⟩;rintro⟨i,j,e⟩ X ⟨hj,hze,hR1,hrX,gX⟩;dsimp only at hj hze hR1 hrX;rw [Go.Sort.reverseLoop] at hR1;refine biE (fun hc=>?_) fun hc=>?_
 ·have hc:(i:Int)<(j:Int):=dT hc;rw [Gr (by omega)] at hR1;have hx1:i<e.size:=by omega
  have hx2:j<e.size:=by omega
  have qd:RB X.drew g sp e:=hrX;refine DrawE.ord [13,15] [0,1,2,3,4,5,6,7,8,9,10,11,12,13,14,15] (by kernel_rfl) ⟨j,rfl,by omega,?_⟩;refine⟨_,zx qd hx2,i,rfl,by omega,?_⟩;refine⟨_,zx qd hx1,i,rfl,by omega,?_⟩;refine zO k5 rfl qd hx1 e[j]! fun V1 q1 g1=>⟨j,rfl,by omega,?_⟩;refine zO k5 rfl q1 (by rw [Array.size_setIfInBounds];exact hx2) e[i]! fun V2 q2 g2=>?_;have q2:RB V2 g sp (swp e (i) (j)):=q2;have z2:(swp e (i) (j)).size=e.size:=Go.Sort.size_swp e (i) (j);exact⟨((i+1:Nat):Int),(ze (by first | omega | (dsimp only;omega))).trans (by first | omega | (dsimp only;omega)),((j-1:Nat):Int),(ze (by first | omega | (dsimp only;omega))).trans (by first | omega | (dsimp only;omega)),(i+1,j-1,swp e i j),(cvE rfl rfl),⟨by show j-1<b;omega,by show (swp e i j).size=L;rw [z2];exact hze,hR1,q2,zd gX (zd (zz _ g) (zd g1 g2))⟩,by show j-1-(i+1)<j-i;omega⟩
 ·have hc:¬ (i:Int)<(j:Int):=dF hc;rw [Gq (by omega)] at hR1;exact⟨rfl,hR1▸hrX,gX⟩
theorem zoy (hr:RB w g sp d) (hL:d.size=L) (hab:a<b) (hb:b<=L) (hl:L<=1000000) :
  Calls PG 170 #[.slice (some ⟨g,0,none⟩) L cap,i64 a,i64 b] w fun e w'=>∃ d' ok,Go.Sort.partialInsertionSort lt8 d a b=(d',ok)/\e = .returned (.bool ok)/\RB w' g sp d'/\w.grownBy w' (some g):=by
 refine qj 133 [.slice (some ⟨g,0,none⟩) L cap,i64 a,i64 b] (.s .p (.s .p (.s (.s .p (.b (.l (.s .p (.c (.b (.c .p (.s .p (.s .p (.s .p (.c .p .p)))))) .p))))) .p))) Tryz.func170 ?_;obtain⟨R,hR⟩:=nm (Go.Sort.partialInsertionSort lt8 d a b);have fin:∀ Z d' ok,(d',ok)=R->RB Z g sp d'->w.grownBy Z (some g)->∃ d'' ok',Go.Sort.partialInsertionSort lt8 d a b=(d'',ok')/\Ending.returned (.bool ok) = .returned (.bool ok')/\RB Z g sp d''/\w.grownBy Z (some g):=fun Z d' ok e q gz=>⟨d',ok,by rw [<- hR,<- e],rfl,q,gz⟩;refine⟨((a+1:Nat):Int),(ze (by first | omega | (dsimp only;omega))).trans (by first | omega | (dsimp only;omega)),Nat×Nat×Array UInt8,fun s=>⟨[(0,.slice (some ⟨g,0,none⟩) L cap),(1,i64 a),(2,i64 b),(7,i64 (s.2.1:Nat)),(8,i64 (s.1:Nat))],[]⟩,fun s X=>(s.1<=5/\a+1<=s.2.1/\s.2.1<=b)/\s.2.2.size=L/\Go.Sort.partialIns lt8 a b (5-s.1) s.2.1 s.2.2=R/\RB X g sp s.2.2/\w.grownBy X (some g),fun s=>5-s.1,(0,a+1,d),(cvE rfl rfl),⟨⟨by show 0<=5;decide,UY _,by show a+1<=b;omega⟩,hL,hR.symm,hr,qc _ _⟩,?_⟩;rintro⟨n,i,e⟩ X ⟨⟨hn,hi,hib⟩,hze,hR1,hrX,gX⟩;dsimp only at hn hi hib hze hR1 hrX;refine biE (fun hc=>?_) fun hc=>?_
 ·have hc:(n:Int)<5:=dT hc;have hn5:5-n=(5-(n+1))+1:=by omega
  rw [hn5] at hR1;obtain⟨I,hI⟩:=nm (Go.Sort.scanSorted lt8 e b i);have hR1:(if I=b then (e,true) else if b-a<50 then (e,false) else Go.Sort.partialIns lt8 a b (5-(n+1)) I (if b-I ≥ 2 then Go.Sort.shiftUp lt8 b (I+1) (if I-a ≥ 2 then Go.Sort.shiftDown lt8 (I-1) (swp e I (I-1)) else swp e I (I-1)) else (if I-a ≥ 2 then Go.Sort.shiftDown lt8 (I-1) (swp e I (I-1)) else swp e I (I-1))))=R:=by rw [hI];exact hR1
  obtain⟨D1,hD1⟩:=nm (swp e I (I-1));obtain⟨D2,hD2⟩:=nm ((if I-a ≥ 2 then Go.Sort.shiftDown lt8 (I-1) D1 else D1));obtain⟨D3,hD3⟩:=nm ((if b-I ≥ 2 then Go.Sort.shiftUp lt8 b (I+1) D2 else D2));rw [<- hD1,<- hD2,<- hD3] at hR1;refine⟨Unit,fun _=>⟨[(0,.slice (some ⟨g,0,none⟩) L cap),(1,i64 a),(2,i64 b),(7,i64 (I:Nat)),(8,i64 (n:Nat))],[]⟩,fun _ Y=>(a+1<=I/\I<=b)/\D3.size=L/\Go.Sort.partialIns lt8 a b (5-(n+1)) I D3=R/\RB Y g sp D3/\w.grownBy Y (some g),?_,?_⟩
  ·refine⟨Unit,fun _=>⟨[(0,.slice (some ⟨g,0,none⟩) L cap),(1,i64 a),(2,i64 b),(7,i64 (I:Nat)),(8,i64 (n:Nat))],[]⟩,fun _ Y=>(a+1<=I/\I<=b)/\RB Y g sp e/\w.grownBy Y (some g),?_,?_⟩
   ·refine⟨Nat,fun k=>⟨[(0,.slice (some ⟨g,0,none⟩) L cap),(1,i64 a),(2,i64 b),(7,i64 (k:Nat)),(8,i64 (n:Nat))],[]⟩,fun k Y=>(a+1<=k/\k<=b)/\Go.Sort.scanSorted lt8 e b k=I/\RB Y g sp e/\w.grownBy Y (some g),fun k=>b-k,i,(cvE rfl rfl),⟨⟨hi,hib⟩,hI.symm,hrX,gX⟩,?_⟩;rintro k Y ⟨⟨hk1,hk2⟩,hRs,hrY,gY⟩;have gYd:=zd gY (zz Y g);have qd:RB Y.drew g sp e:=hrY;refine DrawE.ord [] [0,1,2,3,4,5,6,7,8,9,10,11,12,13,14,15] (by kernel_rfl) (biE (fun h2=>?_) fun h2=>?_)
    ·have h2:(k:Int)<(b:Int):=dT h2;have h2:k<b:=(by omega);have hx1:k<e.size:=(by omega);have hx2:k-1<e.size:=(by omega);refine⟨k,rfl,by omega,?_⟩;refine⟨_,zx qd hx1,((k-1:Nat):Int),(ze (by first | omega | (dsimp only;omega))).trans (by first | omega | (dsimp only;omega)),k-1,rfl,by omega,?_⟩;refine⟨_,zx qd hx2,cmo jJ ?_⟩;rintro e _ ⟨rfl,rfl⟩;refine⟨Gd _ _,biE (fun h3=>?_) fun h3=>?_⟩
     ·have h3:(!lt8 e[k]! e[k-1]!)=true:=h3;have h3:lt8 e[k]! e[k-1]! = false:=(by simpa using h3);rw [zoj h2 h3] at hRs;exact⟨((k+1:Nat):Int),(ze (by first | omega | (dsimp only;omega))).trans (by first | omega | (dsimp only;omega)),k+1,(cvE rfl rfl),⟨⟨by omega,by omega⟩,hRs,qd,gYd⟩,zdc (by omega)⟩
     ·have h3:(!lt8 e[k]! e[k-1]!)=false:=h3;have h3:lt8 e[k]! e[k-1]! = true:=(by simpa using h3);rw [zkl fun _=>h3] at hRs;subst hRs;exact⟨(),(cvE rfl rfl),⟨hk1,hk2⟩,qd,gYd⟩
    ·have h2:¬ (k:Int)<(b:Int):=dF h2;refine Gi (fun h=>by cases h) (fun _=>?_);rw [zkl fun h=>Gs h (by omega)] at hRs;subst hRs;exact⟨(),(cvE rfl rfl),⟨hk1,hk2⟩,qd,gYd⟩
   rintro _ Y ⟨⟨hI1,hI2⟩,hrY,gY⟩;refine biE (fun h=>?_) fun h=>?_
   ·have h:(I:Int)=(b:Int):=dT h;rw [Gr (by omega)] at hR1;exact fin _ _ _ hR1 hrY gY
   ·have h:¬ (I:Int)=(b:Int):=dF h;have hIb:I<b:=(by omega);rw [Gq (by omega)] at hR1;refine⟨((b-a:Nat):Int),(ze (by first | omega | (dsimp only;omega))).trans (by first | omega | (dsimp only;omega)),biE (fun h5=>?_) fun h5=>?_⟩
    ·have h5:((b-a:Nat):Int)<50:=dT h5;rw [Gr (by omega)] at hR1;exact fin _ _ _ hR1 hrY gY
    ·have h5:¬ ((b-a:Nat):Int)<50:=dF h5;rw [Gq (by omega)] at hR1;have hx1:I<e.size:=(by omega);have hx2:I-1<e.size:=(by omega);have qd:RB Y.drew g sp e:=hrY;refine DrawE.ord [15,17] [0,1,2,3,4,5,6,7,8,9,10,11,12,13,14,15,16,17] (by kernel_rfl) ⟨((I-1:Nat):Int),(ze (by first | omega | (dsimp only;omega))).trans (by first | omega | (dsimp only;omega)),((I-1:Nat):Int),(ze (by first | omega | (dsimp only;omega))).trans (by first | omega | (dsimp only;omega)),I-1,rfl,by omega,?_⟩;refine⟨_,zx qd hx2,I,rfl,by omega,?_⟩;refine⟨_,zx qd hx1,I,rfl,by omega,?_⟩;refine zO k5 rfl qd hx1 e[I-1]! fun V1s q1s g1s=>⟨I-1,rfl,by omega,?_⟩;refine zO k5 rfl q1s (by rw [Array.size_setIfInBounds];exact hx2) e[I]! fun V2s q2s g2s=>?_;have q2s:RB V2s g sp (swp e (I) (I-1)):=q2s;have z2s:(swp e (I) (I-1)).size=e.size:=Go.Sort.size_swp e (I) (I-1);rw [<- hD1] at q2s z2s;have gs:=zd gY (zd (zz _ g) (zd g1s g2s));have hz1:D1.size=L:=(by rw [z2s];exact hze);refine⟨Unit,fun _=>⟨[(0,.slice (some ⟨g,0,none⟩) L cap),(1,i64 a),(2,i64 b),(7,i64 (I:Nat)),(8,i64 (n:Nat))],[]⟩,fun _ Z=>D2.size=L/\RB Z g sp D2/\w.grownBy Z (some g),?_,?_⟩
     ·refine⟨((I-a:Nat):Int),(ze (by first | omega | (dsimp only;omega))).trans (by first | omega | (dsimp only;omega)),biE (fun h6=>?_) fun h6=>?_⟩
      ·have h6:(2:Int)<=((I-a:Nat):Int):=dT h6;rw [Gr (by omega)] at hD2;refine⟨((I-1:Nat):Int),(ze (by first | omega | (dsimp only;omega))).trans (by first | omega | (dsimp only;omega)),Nat×Array UInt8,fun s=>⟨[(0,.slice (some ⟨g,0,none⟩) L cap),(1,i64 a),(2,i64 b),(7,i64 (I:Nat)),(8,i64 (n:Nat)),(9,i64 (s.1:Nat))],[]⟩,fun s V=>(s.1<=I-1)/\s.2.size=L/\Go.Sort.shiftDown lt8 s.1 s.2=D2/\RB V g sp s.2/\w.grownBy V (some g),fun s=>s.1,(I-1,D1),(cvE rfl rfl),⟨UY _,hz1,hD2.symm,q2s,gs⟩,?_⟩;rintro⟨k,f⟩ V ⟨hk,hzf,hRf,hrV,gV⟩;dsimp only at hk hzf hRf hrV;refine biE (fun h7=>?_) fun h7=>?_
       ·have h7:(1:Int)<=(k:Int):=dT h7;obtain⟨m,rfl⟩:∃ m,k=m+1:=⟨k-1,by omega⟩;have hRf:(if (!lt8 f[m+1]! f[m]!)=true then f else Go.Sort.shiftDown lt8 m (swp f (m+1) m))=D2:=hRf;have hx3:m+1<f.size:=(by omega);have hx4:m<f.size:=(by omega);have qv:RB V.drew g sp f:=hrV;have gVd:=zd gV (zz V g);refine DrawE.ord [] [0,1,2,3,4,5,6,7,8,9,10] (by kernel_rfl) ⟨m+1,rfl,by omega,?_⟩;refine⟨_,zx qv hx3,((m:Nat):Int),(ze (by first | omega | (dsimp only;omega))).trans (by first | omega | (dsimp only;omega)),m,rfl,by omega,?_⟩;refine⟨_,zx qv hx4,cmo jJ ?_⟩;rintro e _ ⟨rfl,rfl⟩;refine⟨Gd _ _,biE (fun h8=>?_) fun h8=>?_⟩
        ·have h8:(!lt8 f[m+1]! f[m]!)=true:=h8;rw [Gr h8] at hRf;subst hRf;exact⟨(),(cvE rfl rfl),hzf,qv,gVd⟩
        ·have h8:(!lt8 f[m+1]! f[m]!)=false:=h8;rw [Gq (by rw [h8];exact Ku)] at hRf;have qw:RB V.drew.drew g sp f:=hrV;refine DrawE.ord [15,17] [0,1,2,3,4,5,6,7,8,9,10,11,12,13,14,15,16,17] (by kernel_rfl) ⟨((m:Nat):Int),(ze (by first | omega | (dsimp only;omega))).trans (by first | omega | (dsimp only;omega)),((m:Nat):Int),(ze (by first | omega | (dsimp only;omega))).trans (by first | omega | (dsimp only;omega)),m,rfl,by omega,?_⟩;refine⟨_,zx qw hx4,m+1,rfl,by omega,?_⟩;refine⟨_,zx qw hx3,m+1,rfl,by omega,?_⟩;refine zO k5 rfl qw hx3 f[m]! fun V1 q1 g1=>⟨m,rfl,by omega,?_⟩;refine zO k5 rfl q1 (by rw [Array.size_setIfInBounds];exact hx4) f[m+1]! fun V2 q2 g2=>?_;have q2:RB V2 g sp (swp f (m+1) (m)):=q2;have z2:(swp f (m+1) (m)).size=f.size:=Go.Sort.size_swp f (m+1) (m);exact⟨((m:Nat):Int),(ze (by first | omega | (dsimp only;omega))).trans (by first | omega | (dsimp only;omega)),(m,swp f (m+1) m),(cvE rfl rfl),⟨by show m<=I-1;omega,by show (swp f _ _).size=L;rw [z2];exact hzf,hRf,q2,zd gVd (zd (zz _ g) (zd g1 g2))⟩,QA m⟩
       ·have h7:¬ (1:Int)<=(k:Int):=dF h7;obtain rfl:k=0:=(by omega);have hRf:f=D2:=hRf;subst hRf;exact⟨(),(cvE rfl rfl),hzf,hrV,gV⟩
      ·have h6:¬ (2:Int)<=((I-a:Nat):Int):=dF h6;rw [Gq (by omega)] at hD2;subst hD2;exact⟨(),(cvE rfl rfl),hz1,q2s,gs⟩
     rintro _ Z ⟨hzZ,hrZ,gZ⟩;refine⟨((b-I:Nat):Int),(ze (by first | omega | (dsimp only;omega))).trans (by first | omega | (dsimp only;omega)),biE (fun h6=>?_) fun h6=>?_⟩
     ·have h6:(2:Int)<=((b-I:Nat):Int):=dT h6;rw [Gr (by omega)] at hD3;refine⟨((I+1:Nat):Int),(ze (by first | omega | (dsimp only;omega))).trans (by first | omega | (dsimp only;omega)),Nat×Array UInt8,fun s=>⟨[(0,.slice (some ⟨g,0,none⟩) L cap),(1,i64 a),(2,i64 b),(7,i64 (I:Nat)),(8,i64 (n:Nat)),(10,i64 (s.1:Nat))],[]⟩,fun s V=>(I+1<=s.1/\s.1<=b)/\s.2.size=L/\Go.Sort.shiftUp lt8 b s.1 s.2=D3/\RB V g sp s.2/\w.grownBy V (some g),fun s=>b-s.1,(I+1,D2),(cvE rfl rfl),⟨⟨UY _,by show I+1<=b;omega⟩,hzZ,hD3.symm,hrZ,gZ⟩,?_⟩;rintro⟨k,f⟩ V ⟨hk,hzf,hRf,hrV,gV⟩;dsimp only at hk hzf hRf hrV;refine biE (fun h7=>?_) fun h7=>?_
      ·have h7:(k:Int)<(b:Int):=dT h7;rw [Go.Sort.shiftUp,Gr (by omega)] at hRf;have hx3:k<f.size:=(by omega);have hx4:k-1<f.size:=(by omega);have qv:RB V.drew g sp f:=hrV;have gVd:=zd gV (zz V g);refine DrawE.ord [] [0,1,2,3,4,5,6,7,8,9,10] (by kernel_rfl) ⟨k,rfl,by omega,?_⟩;refine⟨_,zx qv hx3,((k-1:Nat):Int),(ze (by first | omega | (dsimp only;omega))).trans (by first | omega | (dsimp only;omega)),k-1,rfl,by omega,?_⟩;refine⟨_,zx qv hx4,cmo jJ ?_⟩;rintro e _ ⟨rfl,rfl⟩;refine⟨Gd _ _,biE (fun h8=>?_) fun h8=>?_⟩
       ·have h8:(!lt8 f[k]! f[k-1]!)=true:=h8;rw [Gr h8] at hRf;subst hRf;exact⟨(),(cvE rfl rfl),⟨hI1,hI2⟩,hzf,hR1,qv,gVd⟩
       ·have h8:(!lt8 f[k]! f[k-1]!)=false:=h8;rw [Gq (by rw [h8];exact Ku)] at hRf;have qw:RB V.drew.drew g sp f:=hrV;refine DrawE.ord [15,17] [0,1,2,3,4,5,6,7,8,9,10,11,12,13,14,15,16,17] (by kernel_rfl) ⟨((k-1:Nat):Int),(ze (by first | omega | (dsimp only;omega))).trans (by first | omega | (dsimp only;omega)),((k-1:Nat):Int),(ze (by first | omega | (dsimp only;omega))).trans (by first | omega | (dsimp only;omega)),k-1,rfl,by omega,?_⟩;refine⟨_,zx qw hx4,k,rfl,by omega,?_⟩;refine⟨_,zx qw hx3,k,rfl,by omega,?_⟩;refine zO k5 rfl qw hx3 f[k-1]! fun V1 q1 g1=>⟨k-1,rfl,by omega,?_⟩;refine zO k5 rfl q1 (by rw [Array.size_setIfInBounds];exact hx4) f[k]! fun V2 q2 g2=>?_;have q2:RB V2 g sp (swp f (k) (k-1)):=q2;have z2:(swp f (k) (k-1)).size=f.size:=Go.Sort.size_swp f (k) (k-1);exact⟨((k+1:Nat):Int),(ze (by first | omega | (dsimp only;omega))).trans (by first | omega | (dsimp only;omega)),(k+1,swp f k (k-1)),(cvE rfl rfl),⟨⟨by show I+1<=k+1;omega,by show k+1<=b;omega⟩,by show (swp f _ _).size=L;rw [z2];exact hzf,hRf,q2,zd gVd (zd (zz _ g) (zd g1 g2))⟩,zdc (by omega)⟩
      ·have h7:¬ (k:Int)<(b:Int):=dF h7;rw [Go.Sort.shiftUp,Gq (by omega)] at hRf;subst hRf;exact⟨(),(cvE rfl rfl),⟨hI1,hI2⟩,hzf,hR1,hrV,gV⟩
     ·have h6:¬ (2:Int)<=((b-I:Nat):Int):=dF h6;rw [Gq (by omega)] at hD3;subst hD3;exact⟨(),(cvE rfl rfl),⟨hI1,hI2⟩,hzZ,hR1,hrZ,gZ⟩
  rintro _ Y ⟨⟨hI1,hI2⟩,hz3,hR3,hrY,gY⟩;exact⟨((n+1:Nat):Int),(ze (by first | omega | (dsimp only;omega))).trans (by first | omega | (dsimp only;omega)),(n+1,I,D3),(cvE rfl rfl),⟨⟨by show n+1<=5;omega,hI1,hI2⟩,hz3,hR3,hrY,gY⟩,zdc (by omega)⟩
 ·have hc:¬ (n:Int)<5:=dF hc;obtain rfl:n=5:=by omega
  have hR1:(e,false)=R:=hR1;exact fin _ _ _ hR1 hrX gX
end
abbrev zh5 (w:Wd) (s:Nat) (v:Int):Prop:=w.heap[s]?=some (.cells #[.int .i64 v] 3 (0,0))
theorem zny {w:Wd} {s:Nat} {v:Int} (h:zh5 w s v):w.cell? ⟨s,0,none⟩=some (.int .i64 v):=zc (za h) (i:=0) rfl
section
variable {w:Wd} {g cap L a b s:Nat} {v:Int} {sp:List Value} {d:Array UInt8}
theorem zeI {w2:Wd} (h:RB w g sp d) (hg:w.grownBy w2 (some s)) (hs:s≠g):RB w2 g sp d:=by
 refine RowS.same h (hg.block g (RowS.lt h) fun e=>hs ?_)
 cases e;rfl
theorem zhe (hr:RB w g sp d) (hL:d.size=L) (hb:zh5 w s v) (hs:s≠g) (ha:a<L) (hbL:b<L) (hl:L<=1000000) :
  Calls PG 198 #[.slice (some ⟨g,0,none⟩) L cap,i64 a,i64 b,At0 s] w fun e w'=>(∃ x y:Nat,e = .returned (.tuple #[i64 x,i64 y])/\((x=a/\y=b)\/(x=b/\y=a)))/\(∃ u,zh5 w' s u)/\w.grownBy w' (some s):=by
 refine zI 28 [.slice (some ⟨g,0,none⟩) L cap,i64 a,i64 b,At0 s] Tryz.func198 ?_;have qd:RB w.drew g sp d:=hr;have hx1:a<d.size:=by omega
 have hx2:b<d.size:=by omega
 have hbd:zh5 w.drew s v:=hb;refine DrawE.ord [] [0,1,2,3,4,5,6,7,8] (by kernel_rfl) ⟨b,rfl,by omega,?_⟩;refine⟨_,zx qd hx2,a,rfl,by omega,?_⟩;refine⟨_,zx qd hx1,cmo jJ ?_⟩;rintro e _ ⟨rfl,rfl⟩;refine⟨Gd _ _,biE (fun h=>?_) fun h=>?_⟩
 ·exact⟨_,zny hbd,_,rfl,jc k3 rfl hbd (o:=0) (by show 0<1;decide) (v := .int .i64 (IntKind.i64.wrap (v+1))) rfl rfl fun Y fY gY sY=>⟨⟨b,a,rfl,.inr ⟨rfl,rfl⟩⟩,⟨_,fY⟩,zd (zz w s) gY⟩⟩
 ·exact⟨⟨a,b,rfl,.inl ⟨rfl,rfl⟩⟩,⟨_,hbd⟩,zz w s⟩
theorem zk1 {c:Nat} (hr:RB w g sp d) (hL:d.size=L) (hb:zh5 w s v) (hs:s≠g) (ha:a<L) (hbL:b<L) (hcL:c<L) (hl:L<=1000000) :
  Calls PG 191 #[.slice (some ⟨g,0,none⟩) L cap,i64 a,i64 b,i64 c,At0 s] w fun e w'=>(∃ x:Nat,e = .returned (i64 x)/\(x=a\/x=b\/x=c))/\(∃ u,zh5 w' s u)/\w.grownBy w' (some s):=by
 refine zI 36 [.slice (some ⟨g,0,none⟩) L cap,i64 a,i64 b,i64 c,At0 s] Tryz.func191 ?_;refine cmo (zhe hr hL hb hs ha hbL hl) ?_;rintro e X ⟨⟨x,y,rfl,hxy⟩,⟨u,bX⟩,gX⟩;have rX:=zeI hr gX hs;refine cmo (zhe rX hL bX hs (a:=y) (b:=c) (by omega) hcL hl) ?_;rintro e Y ⟨⟨x2,y2,rfl,hxy2⟩,⟨u2,bY⟩,gY⟩;have rY:=zeI rX gY hs;refine cmo (zhe rY hL bY hs (a:=x) (b:=x2) (by omega) (by omega) hl) ?_;rintro e Z ⟨⟨x3,y3,rfl,hxy3⟩,bZ,gZ⟩;exact⟨⟨y3,rfl,by omega⟩,bZ,zd gX (zd gY gZ)⟩
theorem zhs (hr:RB w g sp d) (hL:d.size=L) (hb:zh5 w s v) (hs:s≠g) (ha:1<=a) (haL:a+1<L) (hl:L<=1000000) :
  Calls PG 190 #[.slice (some ⟨g,0,none⟩) L cap,i64 a,At0 s] w fun e w'=>(∃ x:Nat,e = .returned (i64 x)/\(x=a-1\/x=a\/x=a+1))/\(∃ u,zh5 w' s u)/\w.grownBy w' (some s):=by
 refine zI 15 [.slice (some ⟨g,0,none⟩) L cap,i64 a,At0 s] Tryz.func190 ?_;refine⟨((a-1:Nat):Int),(ze (by omega)).trans (by omega),nxI (by omega) (cmo (zk1 hr hL hb hs (a:=a-1) (b:=a) (c:=a+1) (by omega) (by omega) haL hl) ?_)⟩;rintro e X ⟨⟨x,rfl,hx⟩,hb,hg⟩;exact⟨⟨x,rfl,hx⟩,hb,hg⟩
theorem zjo (n k:Nat) (h:n<=1000000):IntKind.i64.wrap ((n:Int).tdiv (k:Int))=((n/k:Nat):Int):=by
 have e:(n:Int).tdiv (k:Int)=((n/k:Nat):Int):=rfl;have:n/k<=n:=Nat.div_le_self n k;rw [e];generalize n/k=q at this ⊢;exact ze (by omega)
theorem zvf {a b n q L:Nat} (hn:n=b-a) (hq:4*q<=n) (h2:2<=q) (hb:b<=L):(1<=a+q*1/\a+q*1+1<L)/\(1<=a+q*2/\a+q*2+1<L)/\(1<=a+q*3/\a+q*3+1<L):=by omega
theorem zox {a b n q x:Nat} (hn:n=b-a) (hq:4*q<=n) (h2:2<=q) (k:Nat) (hk:k=1\/k=2\/k=3) (hx:x=a+q*k-1\/x=a+q*k\/x=a+q*k+1):a<=x/\x<b:=by
 rcases hk with rfl | rfl | rfl <;> omega
theorem zrH (hr:RB w g sp d) (hL:d.size=L) (hab:a<b) (hbL:b<=L) (hl:L<=1000000) :
  Calls PG 168 #[.slice (some ⟨g,0,none⟩) L cap,i64 a,i64 b] w fun e w'=>(∃ (p:Nat) (h:Int),e = .returned (.tuple #[i64 p,.int .i64 h])/\a<=p/\p<b)/\RB w' g sp d/\w.grownBy w' (some g):=by
 refine qj 57 [.slice (some ⟨g,0,none⟩) L cap,i64 a,i64 b] (.s .p (.s .p (.s .p (.s .p (.s .p (.c .p (.c (.s .p (.d (.c .p .p) .p)) .p))))))) Tryz.func168 ?_;obtain⟨n,hn⟩:=nm (b-a);obtain⟨q,hq⟩:=nm (n/4);have hn1:IntKind.i64.wrap (((b:Nat):Int)-((a:Nat):Int))=(n:Int):=(ze (by omega)).trans (by omega);have hq4:IntKind.i64.wrap ((n:Int).tdiv 4)=(q:Int):=by rw [hq];exact zjo n 4 (by omega)
 have hqn:4*q<=n:=by omega
 refine⟨(n:Int),hn1,?_⟩;obtain⟨s,hsz⟩:=nm (w.heap.size);have bS:zh5 (w.alloc (.cells #[.int .i64 0] 3)) s 0:=by rw [hsz];exact zu w _
 have hbw:Bw w (w.alloc (.cells #[.int .i64 0] 3)):=zba w _;have hgs:s≠g:=fun e=>by have:=RowS.lt hr;omega
 have rS:RB (w.alloc (.cells #[.int .i64 0] 3)) g sp d:=RowS.below hr hbw;subst hsz;refine⟨by decide,(q:Int),hq4,((q*1:Nat):Int),(ze (by omega)).trans (by omega),((a+q*1:Nat):Int),(ze (by omega)).trans (by omega),by decide,(q:Int),hq4,((q*2:Nat):Int),(ze (by omega)).trans (by omega),((a+q*2:Nat):Int),(ze (by omega)).trans (by omega),Unit,fun _=>⟨[(0,.slice (some ⟨g,0,none⟩) L cap),(1,i64 a),(2,i64 b),(8,i64 n),(9,At0 w.heap.size),(10,i64 (a+q*1:Nat)),(11,i64 (a+q*2:Nat)),(12,i64 (a+q*3:Nat))],[]⟩,fun _ X=>w.alloc (.cells #[.int .i64 0] 3)=X,?_,?_⟩
 ·exact⟨by decide,(q:Int),hq4,((q*3:Nat):Int),(ze (by omega)).trans (by omega),((a+q*3:Nat):Int),(ze (by omega)).trans (by omega),(),(cvE rfl rfl),rfl⟩
 rintro _ _ rfl;have keep:∀ Y,(w.alloc (.cells #[.int .i64 0] 3)).grownBy Y (some w.heap.size)->RB Y g sp d/\w.grownBy Y (some g):=fun Y gY =>
  ⟨zeI rS gY hgs,zi (hbw.trans (zk gY hbw.size (by omega)))⟩
 refine⟨Nat×Int,fun t=>⟨[(0,.slice (some ⟨g,0,none⟩) L cap),(1,i64 a),(2,i64 b),(9,At0 w.heap.size),(11,i64 (t.1:Nat))],[]⟩,fun t X=>(a<=t.1/\t.1<b)/\zh5 X w.heap.size t.2/\(w.alloc (.cells #[.int .i64 0] 3)).grownBy X (some w.heap.size),?_,?_⟩
 ·refine biE (fun hc=>?_) fun hc=>?_
  ·have hc:(8:Int)<=(n:Int):=dT hc;refine⟨(Nat×Nat×Nat)×Int,fun t=>⟨[(0,.slice (some ⟨g,0,none⟩) L cap),(1,i64 a),(2,i64 b),(9,At0 w.heap.size),(10,i64 (t.1.1:Nat)),(11,i64 (t.1.2.1:Nat)),(12,i64 (t.1.2.2:Nat))],[]⟩,fun t X=>((a<=t.1.1/\t.1.1<b)/\(a<=t.1.2.1/\t.1.2.1<b)/\(a<=t.1.2.2/\t.1.2.2<b))/\zh5 X w.heap.size t.2/\(w.alloc (.cells #[.int .i64 0] 3)).grownBy X (some w.heap.size),?_,?_⟩
   ·refine biE (fun h5=>?_) fun h5=>?_
    ·have h2q:2<=q:=(by omega);obtain⟨⟨m1,m2⟩,⟨m3,m4⟩,m5,m6⟩:=zvf hn hqn h2q hbL;have c1:=zhs (cap:=cap) rS hL bS hgs (a:=a+q*1) m1 m2 hl;refine cmo c1 ?_;rintro e X ⟨⟨x,rfl,hx⟩,⟨u,bX⟩,gX⟩;have c2:=zhs (cap:=cap) (keep X gX).1 hL bX hgs (a:=a+q*2) m3 m4 hl;refine cmo c2 ?_;rintro e Y ⟨⟨y,rfl,hy⟩,⟨u2,bY⟩,gY⟩;have gY':=zd gX gY;have c3:=zhs (cap:=cap) (keep Y gY').1 hL bY hgs (a:=a+q*3) m5 m6 hl;refine cmo c3 ?_;rintro e Z ⟨⟨z,rfl,hz⟩,⟨u3,bZ⟩,gZ⟩;exact⟨((x,y,z),u3),(cvE rfl rfl),⟨zox hn hqn h2q 1 (.inl rfl) hx,zox hn hqn h2q 2 (.inr (.inl rfl)) hy,zox hn hqn h2q 3 (.inr (.inr rfl)) hz⟩,bZ,zd gY' gZ⟩
    ·have h2q:2<=q:=(by omega);exact⟨((a+q*1,a+q*2,a+q*3),0),(cvE rfl rfl),⟨zox hn hqn h2q 1 (.inl rfl) (.inr (.inl rfl)),zox hn hqn h2q 2 (.inr (.inl rfl)) (.inr (.inl rfl)),zox hn hqn h2q 3 (.inr (.inr rfl)) (.inr (.inl rfl))⟩,bS,qc _ _⟩
   ·rintro⟨⟨x,y,z⟩,u⟩ X ⟨⟨hx,hy,hz⟩,bX,gX⟩;dsimp only at hx hy hz bX gX;refine cmo (zk1 (keep X gX).1 hL bX hgs (a:=x) (b:=y) (c:=z) (by omega) (by omega) (by omega) hl) ?_;rintro e Y ⟨⟨m,rfl,hm⟩,⟨u2,bY⟩,gY⟩;refine⟨(m,u2),(cvE rfl rfl),⟨?_,?_⟩,bY,zd gX gY⟩ <;> dsimp only <;> omega
  ·refine⟨(a+q*2,0),(cvE rfl rfl),⟨?_,?_⟩,bS,qc _ _⟩ <;> dsimp only <;> omega
 rintro⟨p,u⟩ X ⟨hp,bX,gX⟩;dsimp only at hp bX gX;obtain⟨k1,k2⟩:=keep X gX;refine⟨_,zny bX,biE (fun h=>?_) fun h=>?_⟩
 ·exact⟨⟨p,1,rfl,hp⟩,k1,k2⟩
 ·refine biE (fun h=>?_) fun h=>?_
  ·exact⟨⟨p,2,rfl,hp⟩,k1,k2⟩
  ·exact⟨⟨p,0,rfl,hp⟩,k1,k2⟩
end
theorem znu {a:Nat} (h:a<2^64):(BitVec.ofInt 64 (a:Int)).toNat=a:=by
 rw [BitVec.ofInt_natCast,BitVec.toNat_ofNat,QC h]
theorem zuT {a b:Nat} (ha:a<2^64) (hb:b<2^64):IntKind.u64.wrap ((BitVec.ofInt IntKind.u64.bits (a:Int)&&&BitVec.ofInt IntKind.u64.bits (b:Int)).toNat:Int)=((a&&&b:Nat):Int):=by
 show IntKind.u64.wrap ((BitVec.ofInt 64 (a:Int)&&&BitVec.ofInt 64 (b:Int)).toNat:Int)=_;rw [Qg,znu ha,znu hb];have:a&&&b<=a:=QY;exact zaR (by omega)
theorem exU {x:Int} {K:Int->Prop} (k:∀ r:Nat,r<2^64->K (r:Int)):∃ r,IntKind.u64.wrap x=r/\K r:=by
 have h:0<=IntKind.u64.wrap x/\IntKind.u64.wrap x<18446744073709551616:=by
  unfold IntKind.wrap;simp only [IntKind.bits,IntKind.signed,Uj,Kt,Gm];omega
 obtain⟨r,hr⟩:=Int.eq_ofNat_of_zero_le h.1;refine⟨_,rfl,?_⟩;rw [hr];exact k r (by rw [hr] at h;omega)
def zuy (l:List UInt8):Bool:=(List.range l.length).all fun m=>match l[m]? with
 | some u=>decide (u.toNat<=8)&&(decide (m=0)||decide (2^u.toNat<=2*m))
 | none=>false
theorem zpt {l:List UInt8} (hs:zuy l=true) {n:Nat} {u:UInt8} (h:l[n]?=some u):u.toNat<=8/\(1<=n->2^u.toNat<=2*n):=by
 have:=Qj.1 hs n (Uo.2 (Js.1 h).1);rw [h] at this;simp only [bAT,QH,dE] at this;exact⟨this.1,fun h1=>this.2.resolve_left (by omega)⟩
theorem zpy {s:ByteArray} {n:Nat} {K:UInt8->Prop} (h:n<s.size) (k:∀ u,s.data.toList[n]?=some u->K u):∃ u,s.data.toList[n]?=some u/\K u:=by
 have h:n<s.data.toList.length:=by simpa using h
 exact⟨_,gE h,k _ (gE h)⟩
section
variable {w:Wd} {g cap L a b s:Nat} {v:Int} {sp:List Value} {d:Array UInt8}
theorem zqf {n:Nat} (h:n<65536):Calls PG 175 #[.int .u64 (n:Nat)] w fun e w'=>(∃ m:Nat,e = .returned (i64 m)/\m<=16/\(1<=n->2^m<=2*n))/\w=w':=by
 refine zI 25 [.int .u64 (n:Nat)] Tryz.func175 ?_;refine brN (Uh (by omega)) (brN (Uh (by omega)) (biE (fun hc=>?_) fun hc=>?_))
 ·have hc:(256:Int)<=(n:Int):=dT hc;obtain⟨q,hq⟩:=nm (n/256);have hq1:1<=q/\q<256/\q*256<=n:=by omega
  refine⟨by decide,(q:Int),by
   show (n:Int).fdiv (2^(min (Int.toNat (8:Int)) IntKind.u64.bits))=_;rw [show min (Int.toNat (8:Int)) IntKind.u64.bits=8 from rfl,Jl _ (by decide)];omega,?_⟩
  refine⟨(8:Int),by decide,?_⟩;refine⟨(q:Int),zev (by omega),q,rfl,zjF hq1.2.1 (by kernel_rfl),zpy (zjF hq1.2.1 (by kernel_rfl)) fun u hu=>?_⟩;obtain⟨t1,t2⟩:=zpt (by kernel_rfl) hu;refine⟨(u.toNat:Int),ze (by omega),((8+u.toNat:Nat):Int),(ze (by omega)).trans (by omega),⟨8+u.toNat,rfl,by omega,fun _=>?_⟩,rfl⟩;have:=t2 hq1.1;rw [Nat.pow_add];omega
 ·have hc:¬ (256:Int)<=(n:Int):=dF hc;have hn:n<256:=by omega
  refine⟨(n:Nat),zev (by omega),n,rfl,zjF hn (by kernel_rfl),zpy (zjF hn (by kernel_rfl)) fun u hu=>?_⟩;obtain⟨t1,t2⟩:=zpt (by kernel_rfl) hu;exact⟨(u.toNat:Int),ze (by omega),((0+u.toNat:Nat):Int),(ze (by omega)).trans (by omega),⟨0+u.toNat,rfl,by omega,fun h1=>by rw [US];exact t2 h1⟩,rfl⟩
theorem zqe {n:Nat} (h:n<65536):Calls PG 147 #[.int .u64 (n:Nat)] w fun e w'=>(∃ m:Nat,e = .returned (i64 m)/\m<=16/\(1<=n->2^m<=2*n))/\w=w':=by
 refine zI 8 [.int .u64 (n:Nat)] Tryz.func147 ?_;refine brF (cmo (zqf h) ?_);rintro e _ ⟨⟨m,rfl,h1,h2⟩,rfl⟩;exact⟨⟨m,rfl,h1,h2⟩,rfl⟩
theorem zoE {n:Nat} (h:n<65536) (h1:1<=n):Calls PG 188 #[i64 n] w fun e w'=>(∃ m:Nat,e = .returned (.int .u64 (m:Nat))/\1<=m/\m<=2*n)/\w=w':=by
 refine zI 7 [i64 n] Tryz.func188 ?_;refine⟨(n:Nat),zaR (by omega),cmo (zqe h) ?_⟩;rintro e _ ⟨⟨m,rfl,h2,h3⟩,rfl⟩;have hp:1<=2^m:=Nat.one_le_two_pow;have:=h3 h1;refine⟨by omega,((2^m:Nat):Int),?_,?_⟩
 ·rw [KL,show min m IntKind.u64.bits=m from Ua (by show m<=64;omega),Int.one_mul];have e:((2:Int)^m)=((2^m:Nat):Int):=by rw [Int.natCast_pow];rfl
  rw [e];exact zaR (by omega)
 ·exact⟨⟨2^m,rfl,hp,this⟩,rfl⟩
abbrev zii (w:Wd) (s:Nat) (v:Nat):Prop:=w.heap[s]?=some (.cells #[.int .u64 (v:Nat)] 259 (0,0))
theorem zcK {w:Wd} {s v:Nat} (h:zii w s v):w.cell? ⟨s,0,none⟩=some (.int .u64 (v:Nat)):=zc (za h) (i:=0) rfl
theorem zuu {v:Nat} (hb:zii w s v):Calls PG 189 #[At0 s] w fun e w'=>(∃ r:Nat,e = .returned (.int .u64 (r:Nat))/\r<2^64/\zii w' s r)/\w.grownBy w' (some s):=by
 refine zI 33 [At0 s] Tryz.func189 ?_;have b0:zii w.drew s v:=hb;refine DrawE.ord [9] [0,1,2,3,4,5,6,7,8,9] (by kernel_rfl) ⟨_,zcK b0,_,zcK b0,by decide,?_⟩;refine exU fun r1 _=>exU fun r2 _=>jc zrV rfl b0 (o:=0) (by show 0<1;decide) (v := .int .u64 (r2:Nat)) rfl rfl fun Y fY gY sY=>?_;have b1:zii Y.drew s r2:=fY;refine DrawE.ord [9] [0,1,2,3,4,5,6,7,8,9] (by kernel_rfl) ⟨_,zcK b1,_,zcK b1,by decide,_,rfl,?_⟩;refine exU fun r4 _=>jc zrV rfl b1 (o:=0) (by show 0<1;decide) (v := .int .u64 (r4:Nat)) rfl rfl fun Z fZ gZ sZ=>?_;have b2:zii Z.drew s r4:=fZ;refine DrawE.ord [9] [0,1,2,3,4,5,6,7,8,9] (by kernel_rfl) ⟨_,zcK b2,_,zcK b2,by decide,?_⟩;refine exU fun r5 _=>exU fun r6 h6=>jc zrV rfl b2 (o:=0) (by show 0<1;decide) (v := .int .u64 (r6:Nat)) rfl rfl fun V fV gV sV=>?_;have b3:zii V s r6:=fV;exact⟨_,zcK b3,⟨r6,rfl,h6,b3⟩,zd (zz w s) (zd gY (zd (zz _ s) (zd gZ (zd (zz _ s) gV))))⟩
theorem zsF (hr:RB w g sp d) (hL:d.size=L) (hab:a+8<=b) (hbL:b<=L) (hl:L<=60000) :
  Calls PG 167 #[.slice (some ⟨g,0,none⟩) L cap,i64 a,i64 b] w fun e w'=>e = .returned (.tuple #[])/\(∃ d',Go.Sort.PermIn a b d d'/\RB w' g sp d')/\w.grownBy w' (some g):=by
 refine zI 65 [.slice (some ⟨g,0,none⟩) L cap,i64 a,i64 b] Tryz.func167 ?_;obtain⟨n,hn⟩:=nm (b-a);obtain⟨q,hq⟩:=nm (n/4);have hn1:IntKind.i64.wrap (((b:Nat):Int)-((a:Nat):Int))=(n:Int):=(ze (by omega)).trans (by omega);have hq4:IntKind.i64.wrap ((n:Int).tdiv 4)=(q:Int):=by rw [hq];exact zjo n 4 (by omega)
 have hq2:2<=q/\4*q<=n:=by omega
 refine⟨(n:Int),hn1,brE (Us (by omega)) ⟨(n:Nat),zaR (by omega),?_⟩⟩;obtain⟨s,hsz⟩:=nm (w.heap.size);have hgs:s≠g:=fun e=>by have:=RowS.lt hr;omega
 have hbw:Bw w (w.alloc (.cells #[.int .u64 0] 259)):=zba w _;refine jc zrV rfl (zu w (.cells #[.int .u64 0] 259)) (o:=0) (by show 0<1;decide) (v := .int .u64 (n:Nat)) rfl rfl fun X fX gX sX=>?_;rw [<- hsz] at fX gX;have bX:zii X s n:=fX;have hwX:Bw w X:=hbw.trans (zk gX hbw.size (by omega));have rX:RB X g sp d:=RowS.below hr hwX;refine cmo (zoE (n:=n) (by omega) (by omega)) ?_;rintro e _ ⟨⟨md,rfl,hm1,hm2⟩,rfl⟩;refine⟨by decide,(q:Int),hq4,((q*2:Nat):Int),(ze (by omega)).trans (by omega),((a+q*2:Nat):Int),(ze (by omega)).trans (by omega),((a+q*2-1:Nat):Int),(ze (by omega)).trans (by omega),?_⟩;refine⟨Nat×Nat×Array UInt8,fun t=>⟨[(0,.slice (some ⟨g,0,none⟩) L cap),(1,i64 a),(2,i64 b),(6,i64 n),(7,At0 s),(8,.int .u64 (md:Nat)),(9,i64 (t.1:Nat))],[]⟩,
  fun t Y=>(a<=t.1/\t.1<=a+q*2+2)/\(Go.Sort.PermIn a b d t.2.2/\t.2.2.size=L)/\zii Y s t.2.1/\RB Y g sp t.2.2/\w.grownBy Y (some g)/\w.heap.size<=s,fun t=>a+q*2+2-t.1,(a+q*2-1,n,d),
  ⟨.cons rfl (.cons rfl (.cons rfl (.cons rfl (.cons (by rw [hsz];rfl) (.cons rfl (.cons rfl .nil)))))),rfl⟩,⟨⟨by dsimp only;omega,by dsimp only;omega⟩,⟨Go.Sort.permIn_refl _ _ _,hL⟩,bX,rX,zi hwX,by omega⟩,?_⟩
 rintro⟨i,v,e⟩ Y ⟨⟨hi1,hi2⟩,⟨hP,hze⟩,bY,rY,gY,hws⟩;dsimp only at hi1 hi2 hP hze bY rY gY;refine⟨by decide,(q:Int),hq4,((q*2:Nat):Int),(ze (by omega)).trans (by omega),((a+q*2:Nat):Int),(ze (by omega)).trans (by omega),((a+q*2+1:Nat):Int),(ze (by omega)).trans (by omega),biE (fun hc=>?_) fun hc=>?_⟩
 ·have hc:(i:Int)<=((a+q*2+1:Nat):Int):=dT hc;refine cmo (zuu bY) ?_;rintro e' Z ⟨⟨r,rfl,hr64,bZ⟩,gZ⟩;have rZ:RB Z g sp e:=zeI rY gZ hgs;have gwZ:w.grownBy Z (some g):=⟨gZ.os.trans gY.os,gZ.tape.trans gY.tape,gZ.output.trans gY.output,UO gY.size gZ.size,fun k hk hn=>(gZ.block k (nL hk gY.size) (fun h=>by cases h;omega)).trans (gY.block k hk hn)⟩;refine⟨((md-1:Nat):Int),(zaR (by omega)).trans (by omega),?_⟩;have hand:r&&&(md-1)<=md-1:=Qx;refine⟨((r&&&(md-1):Nat):Int),zuT hr64 (by omega),?_⟩;obtain⟨o,ho⟩:=nm (r&&&(md-1));rw [<- ho] at hand ⊢;refine⟨(o:Int),ze (by omega),?_⟩;have fin:∀ o':Nat,o'<n->∀ V2,RB V2 g sp (swp e i (a+o'))->Z.grownBy V2 (some g)->(a<=i+1/\i+1<=a+q*2+2)/\(Go.Sort.PermIn a b d (swp e i (a+o'))/\(swp e i (a+o')).size=L)/\zii V2 s r/\RB V2 g sp (swp e i (a+o'))/\w.grownBy V2 (some g)/\w.heap.size<=s:=fun o' ho' V2 q2 g2=>by
   have hp:=Go.Sort.swp_permIn e a b i (a+o') hi1 (by omega) (by omega) (by omega) (by omega);exact⟨⟨by omega,by omega⟩,⟨Go.Sort.permIn_trans _ _ _ a b hP hp,by rw [Go.Sort.size_swp];exact hze⟩,(g2.block s (hlt bZ) (fun h=>by cases h;exact hgs rfl)).trans bZ,q2,zd gwZ g2,hws⟩
  have hx1:i<e.size:=by omega
  refine biE (fun h8=>?_) fun h8=>?_
  ·have h8:(n:Int)<=(o:Int):=dT h8;refine⟨((o-n:Nat):Int),(ze (by omega)).trans (by omega),?_⟩;have hx2:a+(o-n)<e.size:=by omega
   have qd:RB Z.drew g sp e:=rZ;refine DrawE.ord [17,19] [0,1,2,3,4,5,6,7,8,9,10,11,12,13,14,15,16,17,18,19] (by kernel_rfl) ⟨((a+(o-n):Nat):Int),(ze (by omega)).trans (by omega),((a+(o-n):Nat):Int),(ze (by omega)).trans (by omega),a+(o-n),rfl,by omega,?_⟩;refine⟨_,zx qd hx2,i,rfl,by omega,?_⟩;refine⟨_,zx qd hx1,i,rfl,by omega,?_⟩;refine zO k5 rfl qd hx1 e[a+(o-n)]! fun V1 q1 g1=>⟨a+(o-n),rfl,by omega,?_⟩;exact zO k5 rfl q1 (by rw [Array.size_setIfInBounds];exact hx2) e[i]! fun V2 q2 g2=>nxI (by omega) ⟨(i+1,r,swp e i (a+(o-n))),(cvE rfl rfl),fin _ (by omega) V2 q2 (zd (zz _ g) (zd g1 g2)),by dsimp only;omega⟩
  ·have h8:¬ (n:Int)<=(o:Int):=dF h8;have hx2:a+o<e.size:=by omega
   have qd:RB Z.drew g sp e:=rZ;refine DrawE.ord [17,19] [0,1,2,3,4,5,6,7,8,9,10,11,12,13,14,15,16,17,18,19] (by kernel_rfl) ⟨((a+o:Nat):Int),(ze (by omega)).trans (by omega),((a+o:Nat):Int),(ze (by omega)).trans (by omega),a+o,rfl,by omega,?_⟩;refine⟨_,zx qd hx2,i,rfl,by omega,?_⟩;refine⟨_,zx qd hx1,i,rfl,by omega,?_⟩;refine zO k5 rfl qd hx1 e[a+o]! fun V1 q1 g1=>⟨a+o,rfl,by omega,?_⟩;exact zO k5 rfl q1 (by rw [Array.size_setIfInBounds];exact hx2) e[i]! fun V2 q2 g2=>nxI (by omega) ⟨(i+1,r,swp e i (a+o)),(cvE rfl rfl),fin _ (by omega) V2 q2 (zd (zz _ g) (zd g1 g2)),by dsimp only;omega⟩
 ·exact⟨rfl,⟨e,hP,rY⟩,gY⟩
end
end Go.Proofs.YtkpaomeeknegpaaGreatDoor
namespace Go.Proofs.YtkpaomeeknegpaaGreatDoor
open Go.Vc Go.RowKit Go.Sei
open Go.Sort (swp PermIn SortedIn permIn_refl permIn_trans)
section
variable {g cap L:Nat} {sp:List Value}
theorem ztA (hl:L<=60000):∀ (m a0 b0:Nat) (lim0:Int) (d0:Array UInt8) (w:Wd),b0-a0<=m->RB w g sp d0->d0.size=L->a0<=b0->b0<=L->Go.Sort.Below lt8 a0 b0 d0 ->
  Calls PG 146 #[.slice (some ⟨g,0,none⟩) L cap,i64 a0,i64 b0,.int .i64 lim0] w fun e w'=>e = .returned (.tuple #[])/\∃ d',PermIn a0 b0 d0 d'/\SortedIn lt8 a0 b0 d'/\RB w' g sp d'/\w.grownBy w' (some g):=by
 intro m
 induction m using Nat.strongRecOn with
 | _ m ih =>
 intro a0 b0 lim0 d0 w hm hr hL hab0 hb0 hB0;refine qj 134 [.slice (some ⟨g,0,none⟩) L cap,i64 a0,i64 b0,.int .i64 lim0] (.s .p (.s .p (.b (.l (.b (.c .p (.s .p (.s .p (.c .p (.s .p (.c .p (.c .p (.c .p .p))))))))))))) Tryz.func146 ?_;refine⟨Nat×Nat×Int×Bool×Bool×Array UInt8,fun t=>⟨[(0,.slice (some ⟨g,0,none⟩) L cap),(1,i64 (t.1:Nat)),(2,i64 (t.2.1:Nat)),(3,.int .i64 t.2.2.1),(8,.bool t.2.2.2.1),(9,.bool t.2.2.2.2.1)],[]⟩,
  fun t X=>(t.1<=t.2.1/\t.2.1<=L/\t.2.1-t.1<=m)/\t.2.2.2.2.2.size=L/\Go.Sort.Below lt8 t.1 t.2.1 t.2.2.2.2.2/\(∀ R,PermIn t.1 t.2.1 t.2.2.2.2.2 R->SortedIn lt8 t.1 t.2.1 R->PermIn a0 b0 d0 R/\SortedIn lt8 a0 b0 R)/\RB X g sp t.2.2.2.2.2/\w.grownBy X (some g),fun t=>t.2.1-t.1,(a0,b0,lim0,true,true,d0),
  (cvE rfl rfl),⟨⟨hab0,hb0,hm⟩,hL,hB0,fun R h1 h2=>⟨h1,h2⟩,hr,qc _ _⟩,?_⟩
 rintro⟨a,b,lim,wb,wp,d⟩ X ⟨⟨hab,hb,hbm⟩,hz,hB,hC,rX,gX⟩;dsimp only at hab hb hbm hz hB hC rX gX;have fin:∀ Z R,PermIn a b d R->SortedIn lt8 a b R->RB Z g sp R->w.grownBy Z (some g)->∃ d',PermIn a0 b0 d0 d'/\SortedIn lt8 a0 b0 d'/\RB Z g sp d'/\w.grownBy Z (some g):=fun Z R h1 h2 q gz=>⟨R,(hC R h1 h2).1,(hC R h1 h2).2,q,gz⟩;refine⟨Unit,fun _=>⟨[(0,.slice (some ⟨g,0,none⟩) L cap),(1,i64 (a:Nat)),(2,i64 (b:Nat)),(3,.int .i64 lim),(8,.bool wb),(9,.bool wp),(10,i64 (b-a:Nat))],[]⟩,fun _ Y=>X=Y,?_,?_⟩
 ·exact⟨((b-a:Nat):Int),(ze (by first | omega | (dsimp only;omega))).trans (by first | omega | (dsimp only;omega)),(),(cvE rfl rfl),rfl⟩
 rintro _ _ rfl;refine biE (fun h12=>?_) fun h12=>?_
 ·have h12:((b-a:Nat):Int)<=12:=dT h12;refine cmo (ztN rX hz hab hb (by omega)) ?_;rintro e Y ⟨rfl,rY,gY⟩;obtain⟨p1,p2⟩:=Go.Sort.insertionSort_holds zpu d a b hab (by omega);exact⟨rfl,fin Y _ p1 p2 rY (zd gX gY)⟩
 have h12:¬ ((b-a:Nat):Int)<=12:=dF h12;have hlen:12<b-a:=by omega
 refine biE (fun h0=>?_) fun h0=>?_
 ·refine cmo (zr2 rX hz (by omega) hb (by omega)) ?_;rintro e Y ⟨rfl,rY,gY⟩;obtain⟨p1,p2⟩:=Go.Sort.heapSort_holds zpu d a b hab (by omega);exact⟨rfl,fin Y _ p1 p2 rY (zd gX gY)⟩
 clear h0;refine⟨Int×Array UInt8,fun t=>⟨[(0,.slice (some ⟨g,0,none⟩) L cap),(1,i64 (a:Nat)),(2,i64 (b:Nat)),(3,.int .i64 t.1),(8,.bool wb),(9,.bool wp),(10,i64 (b-a:Nat))],[]⟩,fun t Y=>PermIn a b d t.2/\RB Y g sp t.2/\w.grownBy Y (some g),?_,?_⟩
 ·refine biE (fun h=>?_) fun h=>?_
  ·refine cmo (zsF rX hz (by omega) hb hl) ?_;rintro e Y ⟨rfl,⟨d1,p1,rY⟩,gY⟩;exact⟨_,rfl,(IntKind.i64.wrap (lim-1),d1),(cvE rfl rfl),p1,rY,zd gX gY⟩
  ·exact⟨(lim,d),(cvE rfl rfl),permIn_refl _ _ _,rX,gX⟩
 rintro⟨lim1,d1⟩ Y ⟨p1,rY,gY⟩;dsimp only at p1 rY gY;have hz1:d1.size=L:=by rw [p1.1];exact hz
 refine cmo (zrH rY hz1 (by omega) hb (by omega)) ?_;rintro e Z ⟨⟨pv,hint,rfl,hp1,hp2⟩,rZ,gZ⟩;have gwZ:=zd gY gZ;refine⟨Nat×Int×Array UInt8,fun t=>⟨[(0,.slice (some ⟨g,0,none⟩) L cap),(1,i64 (a:Nat)),(2,i64 (b:Nat)),(3,.int .i64 lim1),(8,.bool wb),(9,.bool wp),(10,i64 (b-a:Nat)),(11,i64 (t.1:Nat)),(12,.int .i64 t.2.1)],[]⟩,fun t V=>(a<=t.1/\t.1<b)/\PermIn a b d t.2.2/\RB V g sp t.2.2/\w.grownBy V (some g),?_,?_⟩
 ·refine biE (fun h=>?_) fun h=>?_
  ·refine cmo (ztt rZ hz1 (by omega) hb (by omega)) ?_;rintro e V ⟨rfl,rV,gV⟩;exact⟨((b-1:Nat):Int),(ze (by omega)).trans (by omega),((pv-a:Nat):Int),(ze (by omega)).trans (by omega),((b-1-(pv-a):Nat):Int),(ze (by omega)).trans (by omega),(b-1-(pv-a),1,Go.Sort.reverseRange d1 a b),(cvE rfl rfl),⟨by dsimp only;omega,by dsimp only;omega⟩,permIn_trans _ _ _ a b p1 (Go.Sort.reverseRange_holds d1 a b hab (by omega)),rV,zd gwZ gV⟩
  ·exact⟨(pv,hint,d1),(cvE rfl rfl),⟨hp1,hp2⟩,p1,rZ,gwZ⟩
 clear hp1 hp2 rZ gZ rY gY p1 hz1 gwZ;rintro⟨pv,hint,d2⟩ V ⟨⟨hp1,hp2⟩,p2,rV,gV⟩;dsimp only at hp1 hp2 p2 rV gV;have hz2:d2.size=L:=by rw [p2.1];exact hz
 have hB2:Go.Sort.Below lt8 a b d2:=hB.perm (by omega) p2;refine⟨Array UInt8,fun t=>⟨[(0,.slice (some ⟨g,0,none⟩) L cap),(1,i64 (a:Nat)),(2,i64 (b:Nat)),(3,.int .i64 lim1),(8,.bool wb),(9,.bool wp),(10,i64 (b-a:Nat)),(11,i64 (pv:Nat))],[]⟩,fun t U=>PermIn a b d t/\RB U g sp t/\w.grownBy U (some g),?_,?_⟩
 ·have skipped:∀ (E:Env),Cov E ⟨[(0,.slice (some ⟨g,0,none⟩) L cap),(1,i64 (a:Nat)),(2,i64 (b:Nat)),(3,.int .i64 lim1),(8,.bool wb),(9,.bool wp),(10,i64 (b-a:Nat)),(11,i64 (pv:Nat))],[]⟩->∃ s:Array UInt8,Cov E ⟨[(0,.slice (some ⟨g,0,none⟩) L cap),(1,i64 (a:Nat)),(2,i64 (b:Nat)),(3,.int .i64 lim1),(8,.bool wb),(9,.bool wp),(10,i64 (b-a:Nat)),(11,i64 (pv:Nat))],[]⟩/\PermIn a b d s/\RB V g sp s/\w.grownBy V (some g):=fun E hE=>⟨d2,hE,p2,rV,gV⟩
  cases wb with
  | false =>
   exact Gi (fun h=>by cases h) (fun _=>Gi (fun h=>by cases h) (fun _=>Gi (fun h=>by cases h) (fun _=>skipped _ (cvE rfl rfl))))
  | true =>
   refine Gi (fun _=>?_) (fun h=>by cases h)
   cases wp with
   | false =>
    exact Gi (fun h=>by cases h) (fun _=>Gi (fun h=>by cases h) (fun _=>skipped _ (cvE rfl rfl)))
   | true =>
    refine Gi (fun _=>biE (fun h=>?_) fun h=>?_) (fun h=>by cases h)
    ·refine cmo (zoy rV hz2 (by omega) hb (by omega)) ?_;rintro e U ⟨d3,ok,hpi,rfl,rU,gU⟩;have hpl:=Go.Sort.partialInsertionSort_holds zpu d2 a b (by omega) (by omega) hB2;rw [hpi] at hpl;have p3:=permIn_trans _ _ _ a b p2 hpl.1;refine biE (fun hok=>?_) fun hok=>?_
     ·have hok:ok=true:=hok;exact⟨rfl,fin U d3 p3 (hpl.2 hok) rU (zd gV gU)⟩
     ·exact⟨d3,(cvE rfl rfl),p3,rU,zd gV gU⟩
    ·exact skipped _ (cvE rfl rfl)
 clear p2 rV gV hz2 hB2;rintro d3 U ⟨p3,rU,gU⟩;have hz3:d3.size=L:=by rw [p3.1];exact hz
 have hB3:Go.Sort.Below lt8 a b d3:=hB.perm (by omega) p3;have rUd:RB U.drew g sp d3:=rU;have gUd:=zd gU (zz U g);have hxp:pv<d3.size:=by omega
 refine⟨Unit,fun _=>⟨[(0,.slice (some ⟨g,0,none⟩) L cap),(1,i64 (a:Nat)),(2,i64 (b:Nat)),(3,.int .i64 lim1),(8,.bool wb),(9,.bool wp),(10,i64 (b-a:Nat)),(11,i64 (pv:Nat))],[]⟩,fun _ T=>RB T g sp d3/\w.grownBy T (some g),?_,?_⟩
 ·refine DrawE.ord [] [0,1,2,3,4,5,6,7,8,9,10,11,12,13,14] (by kernel_rfl) (biE (fun h1=>?_) fun h1=>?_)
  ·have h1:(0:Int)<(a:Int):=dT h1;have hxa:a-1<d3.size:=by omega
   refine⟨((a-1:Nat):Int),(ze (by omega)).trans (by omega),a-1,rfl,by omega,?_⟩;refine⟨_,zx rUd hxa,pv,rfl,by omega,?_⟩;refine⟨_,zx rUd hxp,cmo jJ ?_⟩;rintro e _ ⟨rfl,rfl⟩;refine⟨Gd _ _,biE (fun h2=>?_) fun h2=>?_⟩
   ·have h2:(!lt8 d3[a-1]! d3[pv]!)=true:=h2;have h2:lt8 d3[a-1]! d3[pv]! = false:=(by simpa using h2);refine cmo (zpS rUd hz3 hp1 hp2 hb (by omega)) ?_;rintro e T ⟨mid,d4,hpe,rfl,rT,gT⟩;obtain⟨q1,q2,q3,q4,q5⟩:=Go.Sort.round_eq zpu (Go.Sort.partitionEqual_holds lt8) (by omega) hp1 hp2 (by omega) hB3 h2 hpe;refine⟨(mid,b,lim1,wb,wp,d4),(cvE rfl rfl),⟨⟨q2,hb,by dsimp only;omega⟩,by dsimp only;omega,q4,fun R r1 r2=>?_,rT,zd gUd gT⟩,by dsimp only;omega⟩;obtain⟨s1,s2⟩:=q5 R r1 r2;exact hC R (permIn_trans _ _ _ a b p3 s1) s2
   ·exact⟨(),(cvE rfl rfl),rUd,gUd⟩
  ·exact Gi (fun h=>by cases h) (fun _=>⟨(),(cvE rfl rfl),rUd,gUd⟩)
 rintro _ T ⟨rT,gT⟩;refine cmo (ztE rT hz3 hp1 hp2 hb (by omega)) ?_;rintro e S ⟨mid,ap,d4,hpt,rfl,rS,gS⟩;have gwS:=zd gT gS;obtain⟨q1,q2,q3,q4,q5,q6,q7⟩:=Go.Sort.round_part zpu (Go.Sort.partition_holds lt8) hp1 hp2 (by omega) hB3 hpt;have hz4:d4.size=L:=by omega
 refine⟨((mid-a:Nat):Int),(ze (by omega)).trans (by omega),((b-mid:Nat):Int),(ze (by omega)).trans (by omega),by decide,(((b-a)/8:Nat):Int),zjo (b-a) 8 (by omega),biE (fun hc=>?_) fun hc=>?_⟩
 ·refine cmo (ih (mid-a) (by omega) a mid lim1 d4 S (UY _) rS hz4 q1 (by omega) q4) ?_;rintro e' Q ⟨rfl,d5,r1,r2,rQ,gQ⟩;obtain⟨hB5,hfin⟩:=q6 d5 r1 r2;refine nxI (by omega) ⟨(mid+1,b,lim1,decide ((((b-a)/8:Nat):Int)<=((mid-a:Nat):Int)),ap,d5),(cvE rfl rfl),⟨⟨by dsimp only;omega,hb,by dsimp only;omega⟩,by show d5.size=L;rw [r1.1];exact hz4,hB5,fun R s1 s2=>?_,rQ,zd gwS gQ⟩,by dsimp only;omega⟩;obtain⟨t1,t2⟩:=hfin R s1 s2;exact hC R (permIn_trans _ _ _ a b p3 t1) t2
 ·refine nxI (by omega) (cmo (ih (b-(mid+1)) (by omega) (mid+1) b lim1 d4 S (UY _) rS hz4 (by omega) hb q5) ?_);rintro e' Q ⟨rfl,d5,r1,r2,rQ,gQ⟩;obtain⟨hB5,hfin⟩:=q7 d5 r1 r2;refine⟨(a,mid,lim1,decide ((((b-a)/8:Nat):Int)<=((b-mid:Nat):Int)),ap,d5),(cvE rfl rfl),⟨⟨q1,by dsimp only;omega,by dsimp only;omega⟩,by show d5.size=L;rw [r1.1];exact hz4,hB5,fun R s1 s2=>?_,rQ,zd gwS gQ⟩,by dsimp only;omega⟩;obtain⟨t1,t2⟩:=hfin R s1 s2;exact hC R (permIn_trans _ _ _ a b p3 t1) t2
end
end Go.Proofs.YtkpaomeeknegpaaGreatDoor
namespace Go.Proofs.YtkpaomeeknegpaaGreatDoor
open Go.Vc Go.RowKit Go.Sei
section
variable {g cap:Nat} {l:List UInt8} {w:Wd}
theorem zsO {sp:List Value} (hr:RowS zV 5 w g sp l) (hl:l.length<=60000) :
  Calls PG 101 #[.slice (some ⟨g,0,none⟩) l.length cap] w fun e w'=>e = .returned (.tuple #[])/\∃ l',l'.Perm l/\l'.Pairwise (fun x y=>x.toNat<=y.toNat)/\RowS zV 5 w' g sp l'/\w.grownBy w' (some g):=by
 refine zI 11 [.slice (some ⟨g,0,none⟩) l.length cap] Tryz.func101 ?_;refine⟨(l.length:Nat),zaR (by omega),cmo (zqe (n:=l.length) (by omega)) ?_⟩;rintro e _ ⟨⟨m,rfl,h1,h2⟩,rfl⟩;have hs:l.toArray.size=l.length:=rfl;refine cmo (ztA (sp:=sp) (L:=l.length) (cap:=cap) hl l.length 0 l.length m l.toArray w (UY _) hr hs (Gb _) (UY _) (.inl rfl)) ?_;rintro e X ⟨rfl,d',hp,hso,rX,gX⟩;refine⟨rfl,d'.toList,?_,?_,rX,gX⟩
 ·have:=hp.2.2;rw [<- hs] at this;have h3:(d'.extract 0 l.toArray.size)=d':=by rw [<- hp.1];simp
  rw [h3] at this;simpa using this
 ·refine List.pairwise_iff_getElem.2 fun i j hi hj hij=>?_;have hi':i<d'.size:=by simpa using hi
  have hj':j<d'.size:=by simpa using hj
  have hz:d'.size=l.length:=hp.1;have h4:=hso i j (Gb _) hij (by omega);rw [getElem!_pos d' i hi',getElem!_pos d' j hj'] at h4;have h4:=dF h4;rw [Array.getElem_toList,Array.getElem_toList];omega
end
theorem zp7 (v:UInt8):v∈z5:=by
 unfold z5;exact UL.2 ⟨v.toNat,Uo.2 v.toNat_lt,UInt8.ofNat_toNat⟩
theorem zfK {l:List UInt8} {v:UInt8}:v∈jn l↔v∈l:=by
 unfold jn;rw [QT];constructor
 ·rintro⟨_,h⟩;obtain⟨x,hx,e⟩:=Qk.1 h;rw [<- dT e];exact hx
 ·exact fun h=>⟨zp7 v,Qk.2 ⟨v,h,Us rfl⟩⟩
theorem zsL:z5.Pairwise (fun x y=>x.toNat<y.toNat):=by
 unfold z5;rw [List.pairwise_map];refine List.Pairwise.imp_of_mem ?_ (List.pairwise_lt_range (n:=256));intro a b ha hb h;rw [KH,KH,QC (Uo.1 ha),QC (Uo.1 hb)];exact h
theorem zhR (l:List UInt8):(jn l).Pairwise (fun x y=>x.toNat<y.toNat):=List.Pairwise.filter _ zsL
theorem zfM:∀ (l:List UInt8) (p:UInt8),(∀ x∈l,p.toNat<=x.toNat)->l.Pairwise (fun x y=>x.toNat<=y.toNat)->(za4 p l).Pairwise (fun x y=>x.toNat<y.toNat)/\(∀ x,x∈za4 p l↔x∈l/\x≠p)/\∀ x∈za4 p l,p.toNat<x.toNat
 | [],p,_,_=>⟨.nil,fun x=>by simp [za4],fun x h=>by cases h⟩
 | y::r,p,hp,hs=>by
  rw [List.pairwise_cons] at hs;by_cases h:y=p
  ·subst h;obtain⟨a,b,c⟩:=zfM r y hs.1 hs.2;have e:za4 y (y::r)=za4 y r:=by show (if y=y then za4 y r else y::za4 y r)=_;rw [Gr rfl]
   rw [e];refine⟨a,fun x=>(b x).trans ⟨fun h=>⟨JY _ h.1,h.2⟩,fun h=>⟨(UD.1 h.1).resolve_left h.2,h.2⟩⟩,c⟩
  ·obtain⟨a,b,c⟩:=zfM r y hs.1 hs.2;have e:za4 p (y::r)=y::za4 y r:=by show (if y=p then za4 p r else y::za4 y r)=_;rw [Gq h]
   rw [e];have hpy:p.toNat<y.toNat:=by
    have h1:=hp y (Kz ..);have h2:y.toNat≠p.toNat:=fun e=>h (Ug.1 e);omega
   refine⟨List.pairwise_cons.2 ⟨c,a⟩,fun x=>?_,fun x hx=>?_⟩
   ·rw [UD,b x,UD];constructor
    ·rintro (rfl | ⟨h1,h2⟩)
     ·exact⟨.inl rfl,h⟩
     ·refine⟨.inr h1,fun e=>?_⟩;subst e;have:=hs.1 x h1;omega
    ·rintro⟨rfl | h1,h2⟩
     ·exact .inl rfl
     ·by_cases e:x=y
      ·exact .inl e
      ·exact .inr ⟨h1,e⟩
   ·rcases UD.1 hx with rfl | hx
    ·exact hpy
    ·have:=c x hx;omega
theorem zqF {l:List UInt8} (hs:l.Pairwise (fun x y=>x.toNat<=y.toNat)):(ded l).Pairwise (fun x y=>x.toNat<y.toNat)/\∀ x,x∈ded l↔x∈l:=by
 cases l with
 | nil=>exact⟨.nil,fun x=>Iff.rfl⟩
 | cons y r =>
  rw [List.pairwise_cons] at hs;obtain⟨a,b,c⟩:=zfM r y hs.1 hs.2;refine⟨List.pairwise_cons.2 ⟨c,a⟩,fun x=>?_⟩;show x∈y::za4 y r↔_;rw [UD,b x,UD];constructor
  ·rintro (h | h)
   ·exact .inl h
   ·exact .inr h.1
  ·rintro (h | h)
   ·exact .inl h
   ·by_cases e:x=y
    ·exact .inl e
    ·exact .inr ⟨h,e⟩
theorem zmO:∀ {a b:List UInt8},a.Pairwise (fun x y=>x.toNat<y.toNat)->b.Pairwise (fun x y=>x.toNat<y.toNat)->(∀ x,x∈a↔x∈b)->a=b
 | [],[],_,_,_=>rfl
 | [],y::b,_,_,h=>Gs ((h y).2 (Kz ..)) (by simp)
 | x::a,[],_,_,h=>Gs ((h x).1 (Kz ..)) (by simp)
 | x::a,y::b,ha,hb,h=>by
  rw [List.pairwise_cons] at ha hb;have e:x=y:=by
   rcases UD.1 ((h x).1 (Kz ..)) with e | h1
   ·exact e
   ·rcases UD.1 ((h y).2 (Kz ..)) with e | h2
    ·exact e.symm
    ·have:=hb.1 x h1;have:=ha.1 y h2;omega
  subst e;rw [zmO ha.2 hb.2 fun z=>?_];have hz:=h z;rw [UD,UD] at hz;constructor
  ·intro hza;rcases hz.1 (.inr hza) with e | h2
   ·subst e;have:=ha.1 z hza;omega
   ·exact h2
  ·intro hzb;rcases hz.2 (.inr hzb) with e | h2
   ·subst e;have:=hb.1 z hzb;omega
   ·exact h2
theorem zjM {l:List UInt8} (h:l.Pairwise (fun x y=>x.toNat<y.toNat)):jn l=l:=zmO (zhR l) h fun _=>zfK
theorem zdQ (l:List UInt8):(jn l).length<=256:=by
 refine UO (JM ..) ?_;unfold z5;rw [QN,KV];exact UY _
theorem zds {p:OA} {cap:Nat} {l:List UInt8} {w:Wd} (hl:SlR zV w p l) (h1:1<=l.length) (hm:l.length<=60000) :
  Calls PG 71 #[.slice p l.length cap] w fun e w'=>(∃ q c,e = .returned (.slice q (jn l).length c)/\OwnS zV 5 w.heap.size w' q c (jn l))/\Bw w w':=by
 refine zI 9 [.slice p l.length cap] Tryz.func71 ?_;refine cmo (zlJ hl (by omega) (fun e=>by subst e;have:=hl.none;subst this;simp at h1)) ?_;rintro e X ⟨⟨q,c,rfl,ho⟩,hbX⟩;rcases ho.inv with ⟨_,_,h0⟩ | ⟨g,cur,rfl,hB,hcur,hlc,hcm,hcs,hct⟩
 ·rw [h0] at h1;simp at h1
 have hcs:cur.size=c:=by rw [hcs];exact UZ _
 obtain⟨sp,hsp⟩:=nm (cur.toList.drop l.length);have hct:cur.toList.take l.length=l.flatMap zV.enc:=by rw [<- hct];congr 1;exact (UZ _).symm
 have hR:RowS zV 5 X g sp l:=by
  unfold RowS;rw [hcur,<- hct,hsp,JQ]
 have hspl:l.length+sp.length=c:=by
  have h1:cur.toList.length=c:=by rw [Array.length_toList];exact hcs
  rw [hsp,Qt,h1];omega
 refine cmo (zsO hR hm) ?_;rintro e Y ⟨rfl,l',hp,hso,rY,gY⟩;have hlen:l'.length=l.length:=hp.length_eq;have oY:OwnS zV 5 w.heap.size Y (some ⟨g,0,none⟩) c l':=by
  unfold OwnS World.ownsRow;refine⟨by rw [qu],.inr ⟨g,c,_,rfl,hB,rY,by omega,hcm,?_,?_⟩⟩
  ·show (l'.flatMap zV.enc++sp).length=c*1;rw [lap,qu];show l'.length*1+_=_;omega
  ·exact QX (qu l')
 have c3:=zmS oY (by omega);rw [hlen] at c3;refine cmo c3 ?_;rintro e Z ⟨rfl,oZ,gZ⟩;have hwX:=hbX.size;obtain⟨d1,d2⟩:=zqF hso;have hd:ded l'=jn l:=zmO d1 (zhR l) fun x=>(d2 x).trans ((hp.mem_iff).trans zfK.symm);rw [hd] at oZ ⊢;exact⟨⟨_,_,rfl,oZ⟩,(hbX.trans (zk gY hwX hB)).trans (zk gZ (UO hwX gY.size) hB)⟩
theorem zb0 {x y:UInt8}:decide (((x.toNat:Nat):Int)=((y.toNat:Nat):Int))=decide (x=y):=QG.2 qr
theorem zrM {x y:UInt8}:decide (((x.toNat:Nat):Int)<((y.toNat:Nat):Int))=decide (x.toNat<y.toNat):=QG.2 Int.ofNat_lt
theorem zsX (a b:UInt8):IntKind.u8.wrap ((a.toNat:Int)+(b.toNat:Int))=((a+b).toNat:Int):=by
 rw [UInt8.toNat_add];unfold IntKind.wrap;simp only [IntKind.bits,IntKind.signed,Uj,Kt,Gm];omega
theorem zuw (a b:UInt8):IntKind.u8.wrap ((a.toNat:Int)-(b.toNat:Int))=((a-b).toNat:Int):=by
 rw [UInt8.toNat_sub];have:=a.toNat_lt;have:=b.toNat_lt;unfold IntKind.wrap;simp only [IntKind.bits,IntKind.signed,Uj,Kt,Gm];omega
theorem zuv (a b:UInt8):IntKind.u8.wrap ((BitVec.ofInt IntKind.u8.bits (a.toNat:Int) ^^^ BitVec.ofInt IntKind.u8.bits (b.toNat:Int)).toNat:Int)=((a ^^^ b).toNat:Int):=by
 have e:∀ x:UInt8,(BitVec.ofInt IntKind.u8.bits (x.toNat:Int)).toNat=x.toNat:=fun x=>by
  have:=x.toNat_lt;rw [Ks];simp only [IntKind.bits];omega
 rw [BitVec.toNat_xor,e,e,<- UInt8.toNat_xor];have:=(a ^^^ b).toNat_lt;unfold IntKind.wrap;simp only [IntKind.bits,IntKind.signed,Uj,Kt,Gm];omega
structure RunS (R:RunD):Prop where
 d:∀ i,R.deps i<2^32
 c:R.ctl<2^32
 s:∀ i,R.data i<2^32/\R.ctrl i<2^32/\R.att i<2^32
theorem zkR {a b:Nat} (ha:a<2^32) (hb:b<2^32):a|||b<2^32:=KY ha hb
theorem zng {n:Nat} (h:n<32):2^n<2^32:=Ke (by decide) h
theorem zfi {f:Nat->Nat} {b:Nat} (h:∀ i,f i<b) {k v:Nat} (hv:v<b):∀ i,upd f k v i<b:=fun i=>by
 by_cases e:i=k
 ·rw [e,zP];exact hv
 ·rw [qk _ _ e];exact h i
theorem RunS.val {R:RunD} (h:RunS R) (r:Bool) (n:UInt8):(qF r n R).2<2^32:=by
 unfold qF
 split
 ·exact h.d _
 ·exact (by decide:0<2^32)
theorem RunS.emit {R:RunD} (h:RunS R) {k a v m:UInt8} {d:Nat} (hd:d<2^32):RunS (za5 R k a v m d) :=
 ⟨h.d,h.c,fun i=>⟨zfi (fun i=>(h.s i).1) hd i,zfi (fun i=>(h.s i).2.1) h.c i,(h.s i).2.2⟩⟩
theorem RunS.set {R:RunD} (h:RunS R) {d v:UInt8} {s:Nat} (hs:s<2^32):RunS (zjf R d v s):=⟨zfi h.d hs,h.c,h.s⟩
theorem RunS.exch {R:RunD} (h:RunS R) (hm:R.many<32) {x:InsD} {o v:UInt8} {d:Nat} (hd:d<2^32):RunS (zc7 R x o v d):=by
 have h2:=(h.emit (k:=1) (a:=x.loc) (v:=o) (m:=3) (d:=0) (by decide)).emit (k:=2) (a:=x.loc) (v:=v) (m:=3) hd;exact RunS.set (R:={ za5 (za5 R 1 x.loc o 3 0) 2 x.loc v 3 d with att:=upd (za5 (za5 R 1 x.loc o 3 0) 2 x.loc v 3 d).att (R.many+1) (2^R.many) })
  ⟨h2.d,h2.c,fun i=>⟨(h2.s i).1,(h2.s i).2.1,zfi (fun i=>(h2.s i).2.2) (zng hm) i⟩⟩ (zng hm)
section
variable {R:RunD} {b:Nat} {w:Wd} {x:InsD} {v:UInt8}
theorem zmw {o v:UInt8} {d:Nat} (f:jx w b R) (hm:R.many<23) (hd:x.dst.toNat<8):Calls PG 210 #[AtR b,zcx x,u8 o,u8 v,s32 d] w fun e w' =>
  e = .returned (i64 (R.many+1:Nat))/\jx w' b (zc7 R x o v d)/\w.grownBy w' (some b):=by
 refine zI 39 [AtR b,zcx x,u8 o,u8 v,s32 d] Tryz.func210 ?_;have f0:=zu w (.cells (zD.enc x).toArray 55);have hb:Bw w (w.alloc (.cells (zD.enc x).toArray 55)):=zba w _;have fr:=zb hb f;have hne:w.heap.size≠b:=fun e=>by have:=hlt f;omega
 refine⟨_,zc (za f0) (i:=2) rfl,?_⟩;refine cmo (zfJ (k:=1) (l:=x.loc) (v:=o) (m:=3) (d:=0) fr (by omega)) ?_;rintro e Y ⟨rfl,fY,gY,sY⟩;have f0Y:=(gY.block w.heap.size (hlt f0) (by simpa using hne)).trans f0;refine⟨_,zc (za f0Y) (i:=2) rfl,?_⟩;refine cmo (zfJ (k:=2) (l:=x.loc) (v:=v) (m:=3) (d:=d) fY (by show R.many+1<24;omega)) ?_;rintro e Z ⟨rfl,fZ,gZ,sZ⟩;have f0Z:=(gZ.block w.heap.size (hlt f0Y) (by simpa using hne)).trans f0Y;have gd:∀ Z:Wd,Z.grownBy Z.drew (some b):=fun Z=>⟨rfl,rfl,rfl,UY _,fun _ _ _=>rfl⟩;refine DrawE.ord [7] [0,1,2,3,4,5,6,7] (by kernel_rfl) ?_;refine⟨by omega,_,zgn (e:=R.many) (by omega),?_⟩;refine⟨R.many+1,rfl,by omega,?_⟩;refine zn zmn (hdr fZ) (o:=0+235+(R.many+1)*1) (v:=s32 (2^R.many)) rfl rfl (by rw [jB];omega) rfl fun V fV gV sV=>?_;rw [US,UZ,zkr _ (by omega)] at fV;have f0V:=(gV.block w.heap.size (hlt f0Z) (by simpa using hne)).trans (hdr f0Z);refine DrawE.ord [6] [0,1,2,3,4,5,6] (by kernel_rfl) ?_;refine⟨_,zc (za (hdr f0V)) (i:=1) rfl,?_⟩;refine⟨by omega,_,zgn (e:=R.many) (by omega),?_⟩;refine cmo (zm2 (d:=x.dst) (v:=o) (s:=2^R.many) (hdr fV) hd) ?_;rintro e U ⟨rfl,fU,gU,sU⟩;exact⟨rfl,fU,zd (zi hb) (zd gY (zd gZ (zd (gd Z) (zd gV (zd (gd V) gU)))))⟩
theorem zok (f:jx w b R) (hm:R.many<23) (hd:x.dst.toNat<8) (ha:x.ar=true->x.an.toNat<8):Calls PG 202 #[AtR b,zcx x,u8 v] w fun e w' =>
  e = .returned (.tuple #[])/\jx w' b (zpv R x v)/\w.grownBy w' (some b):=by
 refine zI 21 [AtR b,zcx x,u8 v] Tryz.func202 ?_;have f0:=zu w (.cells (zD.enc x).toArray 55);have hb:Bw w (w.alloc (.cells (zD.enc x).toArray 55)):=zba w _;have fr:=zb hb f;refine⟨[.bool x.ar,u8 x.an],rfl,qE (o:=3) (n:=2) f0,hlt f0,?_⟩;refine cmo (zbz fr ha) ?_;rintro e Y ⟨rfl,hbY⟩;have f0Y:=zb hbY f0;have fY:=zb hbY fr;refine⟨zD.enc x,rfl,za f0Y,hlt f0Y,?_⟩;refine cmo (zmw (x:=x) (o:=v) (v:=(qF x.ar x.an R).1) (d:=(qF x.ar x.an R).2) fY hm hd) ?_;rintro e Z ⟨rfl,fZ,gZ⟩;exact⟨rfl,fZ,zd (zi hb) (zd (zi hbY) gZ)⟩
theorem zl2 (f:jx w b R) (hs:RunS R) (hm:R.many<23) (hd:x.dst.toNat<8) (ha:x.ar=true->x.an.toNat<8):Calls PG 203 #[AtR b,zcx x,u8 v] w fun e w' =>
  e = .returned (.tuple #[])/\jx w' b (zfH R x v)/\w.grownBy w' (some b):=by
 refine zI 40 [AtR b,zcx x,u8 v] Tryz.func203 ?_;have f0:=zu w (.cells (zD.enc x).toArray 55);have hb:Bw w (w.alloc (.cells (zD.enc x).toArray 55)):=zba w _;have fr:=zb hb f;refine⟨[.bool x.ar,u8 x.an],rfl,qE (o:=3) (n:=2) f0,hlt f0,?_⟩;refine cmo (zbz fr ha) ?_;rintro e Y ⟨rfl,hbY⟩;have f0Y:=zb hbY f0;have fY:=zb hbY fr;refine⟨zD.enc x,rfl,za f0Y,hlt f0Y,?_⟩;refine⟨_,zsX _ _,?_⟩;refine cmo (zmw (x:=x) (o:=v) (v:=v+(qF x.ar x.an R).1) (d:=(qF x.ar x.an R).2) fY hm hd) ?_;rintro e Z ⟨rfl,fZ,gZ⟩;obtain⟨S,hS⟩:=nm (zc7 R x v (v+(qF x.ar x.an R).1) (qF x.ar x.an R).2);have sS:RunS S:=by rw [hS];exact hs.exch (by omega) (hs.val _ _)
 rw [<- hS] at fZ;have gd:∀ Z:Wd,Z.grownBy Z.drew (some b):=fun Z=>⟨rfl,rfl,rfl,UY _,fun _ _ _=>rfl⟩;refine DrawE.ord [16] [0,1,2,3,4,5,6,7,8,9,10,11,12,13,14,15,16] (by kernel_rfl) ?_;refine⟨R.many+1,rfl,by omega,?_⟩;refine⟨_,by rw [UZ,UE];exact zc (za (hdr fZ)) (zks S (i:=R.many+1) (by omega)),?_⟩;refine⟨R.many+1,rfl,by omega,?_⟩;refine⟨_,by rw [UZ,UE];exact zc (za (hdr fZ)) (zjj S (i:=R.many+1) (by omega)),?_⟩;refine⟨_,zfh (sS.s _).1 (sS.s _).2.2,?_⟩;refine⟨R.many+1,rfl,by omega,?_⟩;refine zn zmn (hdr fZ) (o:=0+187+(R.many+1)*1) (v:=s32 (S.data (R.many+1)|||S.att (R.many+1))) rfl rfl (by rw [jB];omega) rfl fun V fV gV sV=>?_;rw [US,UZ,zeB _ (by omega)] at fV;refine⟨rfl,?_,zd (zi hb) (zd (zi hbY) (zd gZ (zd (gd Z) gV)))⟩;rw [hS] at fV;exact fV
theorem zon (f:jx w b R) (hs:RunS R) (hd:x.dst.toNat<8) (ha:x.ar=true->x.an.toNat<8) (hc:x.br=true->x.bn.toNat<8):Calls PG 201 #[AtR b,zcx x,u8 v] w fun e w' =>
  e = .returned (.tuple #[])/\jx w' b (zp2 R x)/\w.grownBy w' (some b):=by
 refine qj 47 [AtR b,zcx x,u8 v] (.s .p (.s .p (.s .p (.c .p .p)))) Tryz.func201 ?_;have f0:=zu w (.cells (zD.enc x).toArray 55);have hb:Bw w (w.alloc (.cells (zD.enc x).toArray 55)):=zba w _;have fr:=zb hb f;refine⟨[.bool x.ar,u8 x.an],rfl,qE (o:=3) (n:=2) f0,hlt f0,?_⟩;refine cmo (zbz fr ha) ?_;rintro e Y ⟨rfl,hbY⟩;have f0Y:=zb hbY f0;have fY:=zb hbY fr;refine⟨[.bool x.br,u8 x.bn],rfl,qE (o:=5) (n:=2) f0Y,hlt f0Y,?_⟩;refine cmo (zbz fY hc) ?_;rintro e Z ⟨rfl,hbZ⟩;have f0Z:=zb hbZ f0Y;have fZ:=zb hbZ fY;obtain⟨A,hA⟩:=nm (qF x.ar x.an R);obtain⟨C,hC⟩:=nm (qF x.br x.bn R);rw [<- hA,<- hC];refine⟨Unit,fun _=>⟨[(0,AtR b),(4,At0 w.heap.size),(6,u8 (zi1 x.fn A.1 C.1)),(7,s32 A.2),(9,s32 C.2)],[]⟩,fun _ X=>X=Z,?_,?_⟩
 ·refine⟨_,zc (za f0Z) (i:=7) rfl,?_⟩;refine biE (fun h=>?_) fun h=>?_
  ·have h:x.fn=1:=dT ((zb0 (x:=x.fn) (y:=1)).symm.trans h);refine⟨_,zsX _ _,?_⟩;exact⟨(),⟨.cons rfl (.cons rfl (.cons (by unfold zi1;rw [Gr h];rfl) (.cons rfl (.cons rfl .nil)))),rfl⟩,rfl⟩
  ·have h:¬ x.fn=1:=dF ((zb0 (x:=x.fn) (y:=1)).symm.trans h);refine biE (fun k=>?_) fun k=>?_
   ·have k:x.fn=2:=dT ((zb0 (x:=x.fn) (y:=2)).symm.trans k);refine⟨_,zuw _ _,?_⟩;exact⟨(),⟨.cons rfl (.cons rfl (.cons (by unfold zi1;rw [Gq h,Gr k];rfl) (.cons rfl (.cons rfl .nil)))),rfl⟩,rfl⟩
   ·have k:¬ x.fn=2:=dF ((zb0 (x:=x.fn) (y:=2)).symm.trans k);refine⟨_,zuv _ _,?_⟩;exact⟨(),⟨.cons rfl (.cons rfl (.cons (by unfold zi1;rw [Gq h,Gq k];rfl) (.cons rfl (.cons rfl .nil)))),rfl⟩,rfl⟩
 rintro _ _ rfl;refine⟨_,zc (za f0Z) (i:=1) rfl,?_⟩;refine⟨_,zfh (by rw [hA];exact hs.val _ _) (by rw [hC];exact hs.val _ _),?_⟩;refine cmo (zm2 (d:=x.dst) (v:=zi1 x.fn A.1 C.1) (s:=A.2|||C.2) fZ hd) ?_;rintro e U ⟨rfl,fU,gU,sU⟩;refine⟨rfl,?_,zd (zi hb) (zd (zi hbY) (zd (zi hbZ) gU))⟩;rw [hA,hC] at fU;exact fU
theorem zpG (f:jx w b R) (hs:RunS R) (hm:R.many<23) (hd:x.dst.toNat<8) (ha:x.ar=true->x.an.toNat<8) (hc:x.br=true->x.bn.toNat<8):Calls PG 204 #[AtR b,zcx x,u8 v] w fun e w' =>
  e = .returned (.tuple #[])/\jx w' b (zd2 R x v)/\w.grownBy w' (some b):=by
 refine zI 65 [AtR b,zcx x,u8 v] Tryz.func204 ?_;have f0:=zu w (.cells (zD.enc x).toArray 55);have hb:Bw w (w.alloc (.cells (zD.enc x).toArray 55)):=zba w _;have fr:=zb hb f;refine⟨[.bool x.ar,u8 x.an],rfl,qE (o:=3) (n:=2) f0,hlt f0,?_⟩;refine cmo (zbz fr ha) ?_;rintro e Y ⟨rfl,hbY⟩;have f0Y:=zb hbY f0;have fY:=zb hbY fr;refine⟨[.bool x.br,u8 x.bn],rfl,qE (o:=5) (n:=2) f0Y,hlt f0Y,?_⟩;refine cmo (zbz fY hc) ?_;rintro e Z ⟨rfl,hbZ⟩;have f0Z:=zb hbZ f0Y;have fZ:=zb hbZ fY;have gd:∀ Z:Wd,Z.grownBy Z.drew (some b):=fun Z=>⟨rfl,rfl,rfl,UY _,fun _ _ _=>rfl⟩;have gZ:w.grownBy Z (some b):=zd (zi hb) (zd (zi hbY) (zi hbZ));have hne:w.heap.size≠b:=fun e=>by have:=hlt f;omega
 obtain⟨A,hA⟩:=nm (qF x.ar x.an R);obtain⟨C,hC⟩:=nm (qF x.br x.bn R);have hA2:A.2<2^32:=by rw [hA];exact hs.val _ _
 have hC2:C.2<2^32:=by rw [hC];exact hs.val _ _
 rw [<- hA,<- hC];refine biE (fun h=>?_) fun h=>?_
 ·have h:¬ v=A.1:=fun e=>by rw [e] at h;have h:(!decide (((A.1.toNat:Nat):Int)=((A.1.toNat:Nat):Int)))=true:=h;simp at h
  refine⟨_,zc (za f0Z) (i:=2) rfl,?_⟩;refine cmo (zfJ (k:=1) (l:=x.loc) (v:=v) (m:=3) (d:=0) fZ (by omega)) ?_;rintro e U ⟨rfl,fU,gU,sU⟩;have f0U:=(gU.block w.heap.size (hlt f0Z) (by simpa using hne)).trans f0Z;refine DrawE.ord [6] [0,1,2,3,4,5,6] (by kernel_rfl) ?_;refine⟨_,zc (za (hdr f0U)) (i:=1) rfl,?_⟩;refine⟨by omega,_,zgn (e:=R.many) (by omega),?_⟩;refine cmo (zm2 (d:=x.dst) (v:=v) (s:=2^R.many) (hdr fU) hd) ?_;rintro e V ⟨rfl,fV,gV,sV⟩;refine⟨rfl,?_,zd gZ (zd gU (zd (gd U) gV))⟩;unfold zd2;rw [Gq (by rw [<- hA];exact h)];exact fV
 ·have h:v=A.1:=by
   have h:(!decide (((v.toNat:Nat):Int)=((A.1.toNat:Nat):Int)))=false:=h;rw [zb0,Bool.not_eq_false',dE] at h;exact h
  refine⟨zD.enc x,rfl,za f0Z,hlt f0Z,?_⟩;refine cmo (zmw (x:=x) (o:=v) (v:=C.1) (d:=C.2) fZ hm hd) ?_;rintro e U ⟨rfl,fU,gU⟩;obtain⟨S,hS⟩:=nm (zc7 R x v C.1 C.2);have sS:RunS S:=by rw [hS];exact hs.exch (by omega) hC2
  rw [<- hS] at fU;refine DrawE.ord [18] [0,1,2,3,4,5,6,7,8,9,10,11,12,13,14,15,16,17,18] (by kernel_rfl) ?_;refine⟨R.many+1,rfl,by omega,?_⟩;refine⟨_,by rw [UZ,UE];exact zc (za (hdr fU)) (zkt S (i:=R.many+1) (by omega)),?_⟩;refine⟨R.many+1,rfl,by omega,?_⟩;refine⟨_,by rw [UZ,UE];exact zc (za (hdr fU)) (zjj S (i:=R.many+1) (by omega)),?_⟩;refine⟨_,zfh (sS.s _).2.2 hA2,?_⟩;refine⟨_,zfh (sS.s _).2.1 (zkR (sS.s _).2.2 hA2),?_⟩;refine⟨R.many+1,rfl,by omega,?_⟩;refine zn zmn (hdr fU) (o:=0+211+(R.many+1)*1) (v:=s32 (S.ctrl (R.many+1)|||(S.att (R.many+1)|||A.2))) rfl rfl (by rw [jB];omega) rfl fun V fV gV sV=>?_;rw [US,UZ,zeC _ (by omega)] at fV;refine⟨rfl,?_,zd gZ (zd gU (zd (gd U) gV))⟩;unfold zd2;rw [Gr (by rw [<- hA];exact h),<- hA,<- hC,<- hS];exact fV
theorem zol (f:jx w b R) (hs:RunS R) (hp:R.pc<=1000) (ha:x.ar=true->x.an.toNat<8) (hc:x.br=true->x.bn.toNat<8):Calls PG 206 #[AtR b,zcx x,u8 v] w fun e w' =>
  e = .returned (.tuple #[])/\jx w' b (zb2 R x)/\w.grownBy w' (some b):=by
 refine qj 61 [AtR b,zcx x,u8 v] (.s .p (.s .p (.c .p (.c .p (.s .p (.c .p .p)))))) Tryz.func206 ?_;have f0:=zu w (.cells (zD.enc x).toArray 55);have hb:Bw w (w.alloc (.cells (zD.enc x).toArray 55)):=zba w _;have fr:=zb hb f;have hne:w.heap.size≠b:=fun e=>by have:=hlt f;omega
 refine⟨[.bool x.ar,u8 x.an],rfl,qE (o:=3) (n:=2) f0,hlt f0,?_⟩;refine cmo (zbz fr ha) ?_;rintro e Y ⟨rfl,hbY⟩;have f0Y:=zb hbY f0;have fY:=zb hbY fr;have gd:∀ Z:Wd,Z.grownBy Z.drew (some b):=fun Z=>⟨rfl,rfl,rfl,UY _,fun _ _ _=>rfl⟩;obtain⟨A,hA⟩:=nm (qF x.ar x.an R);obtain⟨C,hC⟩:=nm (qF x.br x.bn R);have hA2:A.2<2^32:=by rw [hA];exact hs.val _ _
 have hC2:C.2<2^32:=by rw [hC];exact hs.val _ _
 refine⟨Unit,fun _=>⟨[(0,AtR b),(4,At0 w.heap.size),(6,u8 A.1),(7,s32 A.2),(8,u8 C.1),(9,s32 C.2)],[]⟩,fun _ X=>Bw Y X,?_,?_⟩
 ·refine⟨[.bool x.br,u8 x.bn],rfl,qE (o:=5) (n:=2) f0Y,hlt f0Y,?_⟩;refine cmo (zbz fY hc) ?_;rintro e Z ⟨rfl,hbZ⟩;rw [<- hA,<- hC];exact⟨(),(cvE rfl rfl),hbZ⟩
 rintro _ Z hbZ;have f0Z:=zb hbZ f0Y;have fZ:=zb hbZ fY;obtain⟨S,hS⟩:∃ S:RunD,S={ R with ctl:=R.ctl|||(A.2|||C.2) }:=⟨_,rfl⟩;have hpc:S.pc=R.pc:=by rw [hS]
 refine⟨Unit,fun _=>⟨[(0,AtR b),(4,At0 w.heap.size),(6,u8 A.1),(8,u8 C.1)],[]⟩,fun _ X=>jx X b S/\X.heap[w.heap.size]?=some (.cells (zD.enc x).toArray 55 (0,0))/\w.grownBy X (some b),?_,?_⟩
 ·refine⟨_,zc (za fZ) (i:=17) (zm4 R),?_⟩;refine⟨_,zfh hA2 hC2,?_⟩;refine⟨_,zfh hs.c (zkR hA2 hC2),?_⟩;refine zn zmn fZ (o:=0+17) (v:=s32 (R.ctl|||(A.2|||C.2))) rfl rfl (by rw [jB];decide) rfl fun V fV gV sV=>?_;rw [US,zkq] at fV;exact⟨(),(cvE rfl rfl),by rw [hS];exact fV,(gV.block w.heap.size (hlt f0Z) (by simpa using hne)).trans f0Z,zd (zi hb) (zd (zi hbY) (zd (zi hbZ) gV))⟩
 clear f0 fr f0Y fY f0Z fZ hb hbY hbZ;rintro _ V ⟨fV,f0V,gV'⟩;refine⟨Unit,fun _=>⟨[(0,AtR b),(4,At0 w.heap.size),(10,.bool (zki x.fn A.1 C.1))],[]⟩,fun _ X=>X=V,?_,?_⟩
 ·refine⟨_,zc (za f0V) (i:=7) rfl,?_⟩;refine biE (fun h=>?_) fun h=>?_
  ·have h:x.fn=4:=dT ((zb0 (x:=x.fn) (y:=4)).symm.trans h);exact⟨(),⟨.cons rfl (.cons rfl (.cons (by unfold zki;rw [Gr h,<- zb0];rfl) .nil)),rfl⟩,rfl⟩
  ·have h:¬ x.fn=4:=dF ((zb0 (x:=x.fn) (y:=4)).symm.trans h);refine biE (fun k=>?_) fun k=>?_
   ·have k:x.fn=5:=dT ((zb0 (x:=x.fn) (y:=5)).symm.trans k);exact⟨(),⟨.cons rfl (.cons rfl (.cons (by unfold zki;rw [Gq h,Gr k,<- zb0];rfl) .nil)),rfl⟩,rfl⟩
   ·have k:¬ x.fn=5:=dF ((zb0 (x:=x.fn) (y:=5)).symm.trans k);exact⟨(),⟨.cons rfl (.cons rfl (.cons (by unfold zki;rw [Gq h,Gq k,<- zrM];rfl) .nil)),rfl⟩,rfl⟩
 rintro _ _ rfl;refine biE (fun h=>?_) fun h=>?_
 ·refine DrawE.ord [10] [0,1,2,3,4,5,6,7,8,9,10] (by kernel_rfl) ?_;refine⟨_,zc (za (hdr fV)) (i:=0) rfl,?_⟩;refine⟨_,zc (za (hdr f0V)) (i:=9) rfl,?_⟩;have hk:=x.skip.toNat_lt;refine⟨_,ze (by omega),?_⟩;refine⟨((S.pc+x.skip.toNat:Nat):Int),(ze (by omega)).trans rfl,?_⟩;refine zn k3 (hdr fV) (o:=0+0) (v:=i64 (S.pc+x.skip.toNat:Nat)) rfl rfl (by rw [jB];decide) rfl fun U fU gU sU=>?_;rw [US,zgW] at fU;refine⟨rfl,?_,zd gV' (zd (gd _) gU)⟩;unfold zb2;rw [<- hA,<- hC,Gr h];rw [hS] at fU;exact fU
 ·refine⟨rfl,?_,gV'⟩;unfold zb2;rw [<- hA,<- hC,Gq (by rw [h];decide)];rw [hS] at fV;exact fV
end
def ExG (x:InsD):Prop :=
 (x.op=1/\x.dst.toNat<8)\/(x.op=2/\(x.ar=true->x.an.toNat<8))\/(x.op=3/\x.dst.toNat<8/\(x.ar=true->x.an.toNat<8)/\(x.br=true->x.bn.toNat<8))\/(x.op=4/\x.dst.toNat<8/\(x.ar=true->x.an.toNat<8))\/(x.op=5/\x.dst.toNat<8/\(x.ar=true->x.an.toNat<8))\/(x.op=6/\x.dst.toNat<8/\(x.ar=true->x.an.toNat<8)/\(x.br=true->x.bn.toNat<8))\/x.op=7\/(x.op=8/\(x.ar=true->x.an.toNat<8)/\(x.br=true->x.bn.toNat<8))
theorem qm {x:InsD} {R:RunD} {v:UInt8}:(x.op=1->ze5 R x v=zp9 R x v)/\(x.op=2->ze5 R x v=zlU R x)/\(x.op=3->ze5 R x v=zp2 R x)/\(x.op=4->ze5 R x v=zpv R x v)/\(x.op=5->ze5 R x v=zfH R x v)/\(x.op=6->ze5 R x v=zd2 R x v)/\(x.op=7->ze5 R x v=zmv R x)/\(x.op=8->ze5 R x v=zb2 R x):=by
 unfold ze5;refine⟨fun h=>?_,fun h=>?_,fun h=>?_,fun h=>?_,fun h=>?_,fun h=>?_,fun h=>?_,fun h=>?_⟩ <;> rw [h] <;> rfl
theorem zm0 {R:RunD} {x:InsD}:(zb2 R x).pc<=R.pc+255/\(zb2 R x).many=R.many/\(zb2 R x).pc<=R.pc+x.skip.toNat:=by
 have:=x.skip.toNat_lt;unfold zb2;dsimp only
 split
 ·exact⟨by dsimp only;omega,rfl,UY _⟩
 ·exact⟨by dsimp only;omega,rfl,by dsimp only;omega⟩
theorem zqP {R:RunD} {x:InsD} {v:UInt8}:(zd2 R x v).pc=R.pc/\R.many+1<=(zd2 R x v).many/\(zd2 R x v).many<=R.many+2:=by
 unfold zd2
 split
 ·exact⟨rfl,Nat.le_succ _,UY _⟩
 ·exact⟨rfl,UY _,Nat.le_succ _⟩
section
variable {R:RunD} {b:Nat} {w:Wd}
theorem zhL {x:InsD} {v:UInt8} (f:jx w b R) (hs:RunS R) (hm:R.many<23) (hp:R.pc<=1000) (hx:ExG x):Calls PG 177 #[AtR b,zcx x,u8 v] w fun e w' =>
  e = .returned (.tuple #[])/\jx w' b (qs R x v)/\w.grownBy w' (some b):=by
 refine zI 21 [AtR b,zcx x,u8 v] Tryz.func177 ?_;have f0:=zu w (.cells (zD.enc x).toArray 55);obtain⟨W1,hW1⟩:=nm ((w.alloc (.cells (zD.enc x).toArray 55)).drew);have hb:Bw w W1:=by rw [hW1];exact ((zba w _)).drew
 have fr:jx W1 b R:=zb hb f;have f0:W1.heap[w.heap.size]?=some (.cells (zD.enc x).toArray 55 (0,0)):=by rw [hW1];exact f0
 have hW1':(w.alloc (.cells (Value.agg (zD.enc x).toArray).cells 55)).drew=W1:=hW1.symm;refine DrawE.ord [7] [1,2,4,5,6,0,3,7] (by kernel_rfl) ?_;rw [hW1'];refine⟨_,zc (za f0) (i:=0) rfl,zD.enc x,rfl,za f0,hlt f0,cmo zoS ?_⟩;rintro e Y ⟨rfl,hbY⟩;refine⟨hbY,?_⟩;have fY:=zb hbY fr;have gY:w.grownBy Y (some b):=zd (zi hb) (zi hbY);have fin:∀ {S:RunD} {Z:Wd},jx Z b S->Y.grownBy Z (some b)->S.pc<=2000->ze5 R x v=S->∃ u,Z.cell? ⟨b,0+0,none⟩=some u/\zsG PG .add 3 (.tmp 17) (.const (i64 1)) u (i64 1) (fun v18=>SatR ((storeVar 3 ⟨b,0+0,none⟩ v18).run PG Z) fun _ w'=>(Ending.returned (.tuple #[])=Ending.returned (.tuple #[]))/\jx w' b (qs R x v)/\w.grownBy w' (some b)):=by
  intro S Z fZ gZ hpc he;have he:qs R x v={ S with pc:=S.pc+1 }:=by unfold qs;rw [he]
  refine⟨_,zc (za fZ) (i:=0) rfl,((S.pc+1:Nat):Int),(ze (by show _<=((S.pc:Nat):Int)+1/\((S.pc:Nat):Int)+1<=_;omega)).trans rfl,zn k3 fZ (o:=0+0) (v:=i64 (S.pc+1:Nat)) rfl rfl (by rw [jB];decide) rfl fun V fV gV sV=>?_⟩;rw [US,zgW] at fV;rw [he];exact⟨rfl,fV,zd gY (zd gZ gV)⟩
 rcases hx with ⟨h1,h2⟩ | ⟨h1,h2⟩ | ⟨h1,h2,h3,h4⟩ | ⟨h1,h2,h3⟩ | ⟨h1,h2,h3⟩ | ⟨h1,h2,h3,h4⟩ | h1 | ⟨h1,h2,h3⟩
 ·refine⟨1,by rw [h1];rfl,by decide,?_⟩;refine zay (v:=fnV 199) rfl (cmo (zoo fY (by omega) h2) ?_);rintro e Z ⟨rfl,fZ,gZ⟩;exact fin fZ gZ (show R.pc<=2000 by omega) (qm.1 h1)
 ·refine⟨2,by rw [h1];rfl,by decide,?_⟩;refine zay (v:=fnV 200) rfl (cmo (zl1 fY (by omega) h2) ?_);rintro e Z ⟨rfl,fZ,gZ⟩;exact fin fZ gZ (show R.pc<=2000 by omega) (qm.2.1 h1)
 ·refine⟨3,by rw [h1];rfl,by decide,?_⟩;refine zay (v:=fnV 201) rfl (cmo (zon fY hs h2 h3 h4) ?_);rintro e Z ⟨rfl,fZ,gZ⟩;exact fin fZ gZ (show R.pc<=2000 by omega) (qm.2.2.1 h1)
 ·refine⟨4,by rw [h1];rfl,by decide,?_⟩;refine zay (v:=fnV 202) rfl (cmo (zok fY hm h2 h3) ?_);rintro e Z ⟨rfl,fZ,gZ⟩;exact fin fZ gZ (show R.pc<=2000 by omega) (qm.2.2.2.1 h1)
 ·refine⟨5,by rw [h1];rfl,by decide,?_⟩;refine zay (v:=fnV 203) rfl (cmo (zl2 fY hs hm h2 h3) ?_);rintro e Z ⟨rfl,fZ,gZ⟩;exact fin fZ gZ (show R.pc<=2000 by omega) (qm.2.2.2.2.1 h1)
 ·refine⟨6,by rw [h1];rfl,by decide,?_⟩;refine zay (v:=fnV 204) rfl (cmo (zpG fY hs hm h2 h3 h4) ?_);rintro e Z ⟨rfl,fZ,gZ⟩;exact fin fZ gZ (by rw [zqP.1];omega) (qm.2.2.2.2.2.1 h1)
 ·refine⟨7,by rw [h1];rfl,by decide,?_⟩;refine zay (v:=fnV 205) rfl (cmo (zl3 fY (by omega)) ?_);rintro e Z ⟨rfl,fZ,gZ⟩;exact fin fZ gZ (show R.pc<=2000 by omega) (qm.2.2.2.2.2.2.1 h1)
 ·refine⟨8,by rw [h1];rfl,by decide,?_⟩;refine zay (v:=fnV 206) rfl (cmo (zol fY hs hp h2 h3) ?_);rintro e Z ⟨rfl,fZ,gZ⟩;exact fin fZ gZ (by have:=(zm0 (R:=R) (x:=x)).1;omega) (qm.2.2.2.2.2.2.2 h1)
end
theorem zom {R:RunD} {x:InsD} {v:UInt8} (hs:RunS R) (hm:R.many<31) (hx:ExG x):RunS (qs R x v):=by
 have fin:∀ S:RunD,RunS S->ze5 R x v=S->RunS (qs R x v):=fun S h e=>by
  unfold qs;rw [e];exact⟨h.d,h.c,h.s⟩
 have ex:∀ {o a:UInt8} {d:Nat},d<2^32->RunS (zc7 R x o a d):=fun hd=>hs.exch (by omega) hd;rcases hx with ⟨h1,-⟩ | ⟨h1,-⟩ | ⟨h1,-⟩ | ⟨h1,-⟩ | ⟨h1,-⟩ | ⟨h1,-⟩ | h1 | ⟨h1,-⟩
 ·exact fin _ ((hs.emit (by decide)).set (zng (by omega))) (qm.1 h1)
 ·exact fin _ (hs.emit (hs.val _ _)) (qm.2.1 h1)
 ·exact fin _ (hs.set (zkR (hs.val _ _) (hs.val _ _))) (qm.2.2.1 h1)
 ·exact fin _ (ex (hs.val _ _)) (qm.2.2.2.1 h1)
 ·refine fin (zfH R x v) ?_ (qm.2.2.2.2.1 h1);have h:=ex (o:=v) (a:=v+(qF x.ar x.an R).1) (hs.val x.ar x.an);exact⟨h.d,h.c,fun i=>⟨zfi (fun i=>(h.s i).1) (zkR (h.s _).1 (h.s _).2.2) i,(h.s i).2⟩⟩
 ·refine fin (zd2 R x v) ?_ (qm.2.2.2.2.2.1 h1);unfold zd2
  split
  ·have h:=ex (o:=v) (a:=(qF x.br x.bn R).1) (hs.val x.br x.bn);exact⟨h.d,h.c,fun i=>⟨(h.s i).1,zfi (fun i=>(h.s i).2.1) (zkR (h.s _).2.1 (zkR (h.s _).2.2 (hs.val _ _))) i,(h.s i).2.2⟩⟩
  ·exact (hs.emit (by decide)).set (zng (by omega))
 ·exact fin _ (hs.emit (by decide)) (qm.2.2.2.2.2.2.1 h1)
 ·refine fin (zb2 R x) ?_ (qm.2.2.2.2.2.2.2 h1);have h:RunS { R with ctl:=R.ctl|||((qF x.ar x.an R).2|||(qF x.br x.bn R).2) }:=⟨hs.d,zkR hs.c (zkR (hs.val _ _) (hs.val _ _)),hs.s⟩;unfold zb2;dsimp only
  split
  ·exact⟨h.d,h.c,h.s⟩
  ·exact h
theorem ztq:RunS zkv:=⟨fun _=>(by decide:0<2^32),by decide,fun _=>⟨(by decide:0<2^32),(by decide:0<2^32),(by decide:0<2^32)⟩⟩
end Go.Proofs.YtkpaomeeknegpaaGreatDoor
