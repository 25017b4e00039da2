/- Contracts of functions, and plain facts, for the law that the last text of this claim proves. -/
import Derived.Test.YtlkofpbdpplfkaaGreatDoorB4
import Derived.Test.YtlkofpbdpplfkaaGreatDoorB3
import Derived.Test.YtlkofpbdpplfkaaGreatDoorB2
import Derived.Test.YtlkofpbdpplfkaaGreatDoorB1
set_option linter.unusedSimpArgs false
set_option linter.unusedVariables false
namespace Go.Proofs.YtlkofpbdpplfkaaGreatDoor
open Go.Vc Go.RowKit Go.Sei
structure PathB (locs:Nat) (P:PathD):Prop where
 ev:P.ev.length<=24
 loc:∀ e∈P.ev,e.k=1\/e.k=2->e.l.toNat<locs
 dt:∀ p∈P.data,p.1<P.ev.length/\p.2<P.ev.length
 ct:∀ p∈P.ctrl,p.1<P.ev.length/\p.2<P.ev.length
 rm:∀ p∈P.rmw,p.1<P.ev.length/\p.2<P.ev.length
 dtl:P.data.length<=100000
 ctl:P.ctrl.length<=100000
 rml:P.rmw.length<=100000
structure PthS (B:Nat) (w:World) (x:PthR):Prop where
 lt:∀ a,x.2.2.1.1=some a\/x.2.2.2.1.1=some a\/x.2.2.2.2.1=some a->a.block<B
 ev:SlR evE w x.2.1.1 x.1.ev
 dt:SlR prE w x.2.2.1.1 x.1.data
 ct:SlR prE w x.2.2.2.1.1 x.1.ctrl
 rm:SlR prE w x.2.2.2.2.1 x.1.rmw
theorem PthS.below {B:Nat} {w X:World} {x:PthR} (h:PthS B w x) (hb:Bw w X):PthS B X x:=⟨h.lt,h.ev.below hb,h.dt.below hb,h.ct.below hb,h.rm.below hb⟩
theorem zci:∀ (vs:List UInt8) (l:Nat),(zbG l vs).length=vs.length
 | [],_=>rfl
 | v::vs,l=>by
  show (zbG (l+1) vs).length+1=vs.length+1;rw [zci vs]
theorem zfN:∀ (vs:List UInt8) (l:Nat) {k:Nat} (h:k<vs.length),(zbG l vs)[k]?=some ⟨-1,2,UInt8.ofNat (l+k),vs[k],0,0,0⟩
 | [],_,_,h=>by cases h
 | v::vs,l,0,_=>rfl
 | v::vs,l,k+1,h=>by
  show (zbG (l+1) vs)[k]?=_;rw [zfN vs (l+1) (Nat.lt_of_succ_lt_succ h),Nat.add_assoc,Nat.add_comm 1 k];rfl
theorem ziQ {vs:List UInt8} {k:Nat} (h:k<vs.length):(zbG 0 vs).take (k+1)=(zbG 0 vs).take k++[⟨-1,2,UInt8.ofNat k,vs[k],0,0,0⟩]:=by
 have hl:k<(zbG 0 vs).length:=by rw [zci];exact h
 have:=zfN vs 0 h;rw [gE hl,Nat.zero_add] at this;rw [tsg hl,Option.some.inj this]
theorem znj (n:Nat) (Ps:List PathD):n<=Ps.foldl (fun n P=>n+P.ev.length) n:=by
 induction Ps generalizing n with
 | nil=>exact Nat.le_refl _
 | cons P Ps ih=>exact Nat.le_trans (Nat.le_add_right _ _) (ih (n+P.ev.length))
theorem appE {B c:Nat} {V1:World} {p:Option Addr} {l:List Ev} {y:Ev} {a:Addr} (ho:OwnS evE 225 B V1 p c l) (ha:zax V1 a ([y].flatMap evE.enc)) (hB:B<=V1.heap.size) (hl:l.length<=100000) {K:Value->World->Prop}
  (h:∀ p' c' w',OwnS evE 225 B w' p' c' (l++[y])->V1.grownBy w' (p.map Addr.block)->(∀ a,p'=some a->p=some a\/a.block=V1.heap.size)->K (.slice p' (l++[y]).length c') w') :
  SatR ((Builtin.append_ #[98,98] 98 #[.slice p l.length c,.slice (some a) 1 1]).run Tryz.prog V1) K :=
 zbi (E:=evE) (T:=225) (B:=B) (l:=l) (news:=[y]) (cap:=c) (m:=1) Tryz.underlying98 k225 rfl rfl rfl ho rfl ha hB (by omega) (by show (l.length+1)*16<=_;omega) fun p' c' w' a1 a2 _ a4=>h p' c' w' a1 (by rw [zb9] at a2;exact a2) a4
theorem znm {f g:Nat->UInt8}:∀ {k:Nat},k<4->(seg 32 (fun i=>u8 (f i))).take (k*8)++seg 8 (fun i=>u8 (g i))++(seg 32 (fun i=>u8 (f i))).drop (k*8+8)=seg 32 (fun i=>u8 (if i/8=k then g (i%8) else f i))
 | 0,_=>by kernel_rfl
 | 1,_=>by kernel_rfl
 | 2,_=>by kernel_rfl
 | 3,_=>by kernel_rfl
 | k+4,h=>by omega
theorem zjy {A Z l r:List Value} {n o m:Nat} (hA:A.length=n) (hl:o+m<=l.length) (hr:r.length=m):(A++(l++Z)).take (n+o)++r++(A++(l++Z)).drop (n+o+m)=A++((l.take o++r++l.drop (o+m))++Z):=by
 subst hA;rw [List.take_length_add_append,List.take_append_of_le_length (by omega),Nat.add_assoc,List.drop_length_add_append,List.drop_append_of_le_length hl];simp only [List.append_assoc]
theorem zoh (k:Nat) (P:PathD) (Ps:List PathD) (x:ExD):asR k (P::Ps) x=asR (k+1) Ps (zj5 x k P):=rfl
theorem zld {k:Nat} {l:List Ev} {j:Nat} (h:j<l.length):thEv k (l.take (j+1))=thEv k (l.take j)++[{ l[j] with th:=k }]:=by
 rw [tsg h];unfold thEv;rw [List.map_append];rfl
theorem zdp {n f:Nat} {ps:List (Nat×Nat)} (h:∀ p∈ps,p.1<n/\p.2<n) (hf:f+n<=48):zpj f ps:=fun p hp=>⟨by have:=(h p hp).1;omega,by have:=(h p hp).2;omega⟩
def MixV (B:Nat) (w:World) (vs:List Value) (m:MixD):Prop :=
 ∃ (q p1 p2 p3:Option Addr) (c c1 c2 c3:Nat) (xs ys:List NatL),vs=exC m.base q c++[.slice p1 m.rs.length c1,.slice p2 xs.length c2,.slice p3 ys.length c3]/\OwnS evE 225 B w q c m.base.ev /\
  OwnS natE 3 B w p1 c1 (m.rs.map (·.1))/\xs.map (·.1)=m.rs.map (·.2)/\OwnS zbt 150 B w p2 c2 xs/\(∀ y∈xs,OwnS natE 3 B w y.2.1 y.2.2 y.1) /\
   ys.map (·.1)=m.wr/\OwnS zbt 150 B w p3 c3 ys/\∀ y∈ys,OwnS natE 3 B w y.2.1 y.2.2 y.1
section
variable {w:World} {bP cl cp ci:Nat} {pc:List Value} {pl pp pi:Option Addr} {init:List UInt8} {Ps:List PthR}
theorem zkR (fP:w.heap[bP]?=some (.cells pc.toArray 45 (0,0))) (h1:pc[1]?=some (.slice pl init.length cl)) (h2:pc[2]?=some (.slice pi init.length ci)) (hi:SlR zaH w pi init) (hi6:init.length<=6)
  (hP:SlR pthE w pp Ps) (hPs:∀ x∈Ps,PthS w.heap.size w x) (hPb:∀ x∈Ps,PathB init.length x.1) (hP4:Ps.length<=4) :
  Calls Tryz.prog 144 #[At0 bP,.slice pp Ps.length cp] w fun e w'=>(∃ vs,match mixR init (Ps.map (·.1)) with
   | some m=>e = .returned (.tuple #[.agg vs.toArray,.bool true])/\MixV w.heap.size w' vs m
   | none=>e = .returned (.tuple #[.agg vs.toArray,.bool false]))/\Bw w w':=by
 refine cofM 143 [At0 bP,.slice pp Ps.length cp] (.c .p (.s .p (.c .p (.s .p (.s .p (.c .p (.c .p (.c .p (.c .p (.c .p .p)))))))))) Tryz.func144 ?_;obtain⟨L,hL⟩:=nm (w.heap.size);obtain⟨N,hN⟩:=nm (zo1 init.length (Ps.map (·.1)));have hbP:=hlt fP;refine⟨Unit,fun _=>⟨[(0,At0 bP),(1,.slice pp Ps.length cp),(4,At0 L)],[]⟩,fun _ X=>X.heap[L]?=some (.cells (zdz).toArray 153 (0,0))/\Bw w X,?_,?_⟩
 ·exact⟨(),⟨.cons rfl (.cons rfl (.cons (by rw [hL];rfl) .nil)),rfl⟩,by rw [hL];exact hnew w _,(zba w _)⟩
 rintro _ X ⟨f0,hbX⟩;have ldP:∀ {X:World},Bw w X->∀ {i:Nat} {v:Value},pc[i]?=some v->X.cell? ⟨bP,0+i,none⟩=some v:=fun {X} hb {i v} h=>zac (zaa ((hb.block bP hbP).trans fP)) (by simpa using h);refine⟨_,ldP hbX h1,?_⟩;refine⟨Unit,fun _=>⟨[(0,At0 bP),(1,.slice pp Ps.length cp),(4,At0 L),(6,i64 N)],[]⟩,fun _ X=>X.heap[L]?=some (.cells (zdz).toArray 153 (0,0))/\Bw w X,?_,?_⟩
 ·refine⟨Nat×Nat,fun s=>⟨[(0,At0 bP),(1,.slice pp Ps.length cp),(4,At0 L),(6,i64 (s.2:Nat)),(23,.slice pp Ps.length cp),(24,i64 Ps.length),(25,i64 (s.1:Nat))],[]⟩,
   fun s Y=>s.1<=Ps.length/\s.2<=init.length+24*s.1/\((Ps.map (·.1)).drop s.1).foldl (fun n P=>n+P.ev.length) s.2=N/\Y.heap[L]?=some (.cells (zdz).toArray 153 (0,0))/\Bw w Y,fun s=>Ps.length-s.1,(0,init.length),
   (cvE rfl rfl),⟨Nat.zero_le _,Nat.le_refl _,hN.symm,f0,hbX⟩,?_⟩
  clear f0 hbX;rintro⟨k,n⟩ Y ⟨hk,hn,hacc,f0,hbY⟩;dsimp only at hk hn hacc ⊢;refine biE (fun hc=>?_) fun hc=>?_
  ·have hc:(k:Int)<(Ps.length:Int):=dT hc;have hkl:k<Ps.length:=by omega
   obtain⟨x,hx⟩:∃ x,Ps[k]=x:=⟨_,rfl⟩;have hxm:x∈Ps:=by rw [<- hx];exact gM hkl
   have hdp:(Ps.map (·.1)).drop k=x.1::(Ps.map (·.1)).drop (k+1):=by
    rw [<- List.getElem_cons_drop (show k<(Ps.map (·.1)).length by simpa using hkl)];simp [hx]
   rw [hdp] at hacc;have hev:=(hPb x hxm).ev;obtain⟨bp,op,rfl,hlp,hat⟩:=hP.at hkl;refine⟨k,rfl,hkl,?_⟩;refine⟨pthE.enc x,pthE.len x,by rw [<- hx];exact zaq hbY (hat k hkl),nL hlp hbY.size,?_⟩;refine zap (X:=Y) (v := .agg (pthE.enc x).toArray) k217 (pthE.len x) rfl (List.all_eq_true.2 fun u hu=>pthE.one x u hu) fun Z hbZ fZ sZ=>?_;have fZ:Z.heap[Y.heap.size]?=some (.cells (pthE.enc x).toArray 217 (0,0)):=fZ;refine⟨.slice x.2.1.1 x.1.ev.length x.2.1.2,zac (zaa fZ) (i:=0) rfl,?_⟩;refine⟨((n+x.1.ev.length:Nat):Int),(zaf (by omega)).trans (by omega),?_⟩;refine nxI (by omega) ?_;exact⟨(k+1,n+x.1.ev.length),(cvE rfl rfl),⟨hkl,by show n+x.1.ev.length<=init.length+24*(k+1);omega,hacc,zab hbZ f0,(zst hbY hbZ)⟩,zdc (by omega)⟩
  ·have hc:¬ (k:Int)<(Ps.length:Int):=dF hc;rw [List.drop_eq_nil_of_le (by rw [List.length_map];omega)] at hacc;have hacc:n=N:=hacc;subst hacc;exact⟨(),(cvE rfl rfl),f0,hbY⟩
 clear f0 hbX;rintro _ X ⟨f0,hbX⟩;have hmr:mixR init (Ps.map (·.1))=if N<=48 then some (zbV (zql init (Ps.map (·.1))) init.length) else none:=by rw [hN];rfl
 have hLX:=hlt f0;refine biE (fun h=>?_) fun h=>?_
 ·have h:(48:Int)<(N:Nat):=dT h;rw [hmr,if_neg (by omega)];refine⟨zdz,by kernel_rfl,?_⟩;refine zam (v := .agg (zdz).toArray) k153 f0 zbB zbB (by kernel_rfl) ?_;exact⟨zdz,zbB,zaa (zaj f0),⟨_,rfl⟩,zag hbX (by omega) _⟩
 have h:¬ (48:Int)<(N:Nat):=dF h;have hN48:N<=48:=by omega
 rw [hmr,if_pos hN48];refine cmo zpZ ?_;rintro e Y ⟨rfl,hbY⟩;refine⟨exC (ex0 N) none 0++[nilV,nilV,nilV],by kernel_rfl,?_⟩;refine zap (X:=Y) (v := .agg (exC (ex0 N) none 0++[nilV,nilV,nilV]).toArray) k153 (by show (exC (ex0 N) none 0++[nilV,nilV,nilV]).length=_;rw [lap,zaC];rfl) zbB (by show (exC (ex0 N) none 0++[nilV,nilV,nilV]).all _=true;rw [List.all_append,zde];rfl) fun V hbV fV sV=>?_;refine⟨Nat,fun M=>⟨[(0,At0 bP),(1,.slice pp Ps.length cp),(4,At0 L),(9,At0 M),(10,At0 M)],[]⟩,fun M X=>L<M/\MixH X M (ex0 N) none 0 [nilV,nilV,nilV]/\X.heap[L]?=some (.cells (zdz).toArray 153 (0,0))/\Bw w X,?_,?_⟩
 ·exact⟨Y.heap.size,(cvE rfl rfl),by have:=hbY.size;omega,fV,zab hbV (zab hbY f0),((zst hbX hbY)).trans (hbV.mono (by have:=hbX.size;have:=hbY.size;omega))⟩
 clear fV sV hbV V hbY Y;clear f0 hbX hLX;rintro M X ⟨hLM,fM,f0,hbX⟩;dsimp only at fM ⊢;refine⟨Option Addr×Nat,fun _=>⟨[(0,At0 bP),(1,.slice pp Ps.length cp),(4,At0 L),(9,At0 M),(10,At0 M)],[]⟩,fun s X=>MixH X M { ex0 N with ev:=zbG 0 init } s.1 s.2 [nilV,nilV,nilV]/\OwnS evE 225 w.heap.size X s.1 s.2 (zbG 0 init)/\X.heap[L]?=some (.cells (zdz).toArray 153 (0,0))/\Bw w X,?_,?_⟩
 ·refine⟨_,ldP hbX h2,?_⟩;refine⟨Nat×Option Addr×Nat,fun s=>⟨[(0,At0 bP),(1,.slice pp Ps.length cp),(4,At0 L),(9,At0 M),(10,At0 M),(45,.slice pi init.length ci),(46,i64 init.length),(47,i64 (s.1:Nat))],[]⟩,
   fun s Y=>s.1<=init.length/\MixH Y M { ex0 N with ev:=(zbG 0 init).take s.1 } s.2.1 s.2.2 [nilV,nilV,nilV]/\OwnS evE 225 w.heap.size Y s.2.1 s.2.2 ((zbG 0 init).take s.1)/\Y.heap[L]?=some (.cells (zdz).toArray 153 (0,0))/\Bw w Y,fun s=>init.length-s.1,(0,none,0),
   (cvE rfl rfl),⟨Nat.zero_le _,fM,OwnS.nil,f0,hbX⟩,?_⟩
  clear fM f0 hbX;rintro⟨k,q,c⟩ Y ⟨hk,fM,ho,f0,hbY⟩;dsimp only at hk fM ho ⊢;refine biE (fun hc=>?_) fun hc=>?_
  ·have hc:(k:Int)<(init.length:Int):=dT hc;have hkl:k<init.length:=by omega
   obtain⟨bi,oi,rfl,hli,hat⟩:=hi.at hkl;have htk:=ziQ hkl;have htl:((zbG 0 init).take k).length=k:=by rw [List.length_take,zci];omega
   refine⟨k,rfl,hkl,?_⟩;refine⟨u8 init[k],zac (zaq hbY (hat k hkl)) (i:=0) rfl,?_⟩;refine⟨_,zdR fM,?_⟩;refine⟨_,w8N k,?_⟩;obtain⟨e,he⟩:∃ e:Ev,e=⟨-1,2,UInt8.ofNat k,init[k],0,0,0⟩:=⟨_,rfl⟩;refine⟨evE.enc e,by rw [he];rfl,?_⟩;refine⟨⟨by decide,by decide,rfl⟩,evE.enc e,zce rfl rfl,?_⟩;obtain⟨Y1,hY1⟩:=nm (Y.alloc (.cells (evE.enc e).toArray 225));have hb1:Bw Y Y1:=by rw [hY1];exact (zba _ _)
   have sY:=hbY.size;have ho1:=ho.below hb1;unfold opsE zcr;show SatR _ _;rw [<- hY1];refine appE ho1 (by rw [hY1];exact zaW evE e) (by have:=hb1.size;omega) (by omega) fun q1 c1 U oU gU hat1=>?_;have fMU:=zaM (zab hb1 fM) ho1 (by decide) gU;have f0U:=zaM (zab hb1 f0) ho1 (by decide) gU;refine zal k98 fMU (o:=0+0) (v := .slice q1 ((zbG 0 init).take k++[e]).length c1) rfl rfl (by rw [lap,zaC];decide) rfl fun S fS gS sS=>?_;rw [show 0+0=0 from rfl,zrc,he,<- htk] at fS;refine nxI (by omega) ?_;refine⟨(k+1,q1,c1),(cvE rfl rfl),⟨hkl,fS,by rw [he,<- htk] at oU;exact zaQ oU fMU (by decide) gS,(gS.block L (hlt f0U) (by simp;omega)).trans f0U,?_⟩,zdc (by omega)⟩;have sU:=gU.size;have s1:=hb1.size;exact ((hbY.trans (hb1.mono sY)).trans (zaX ho1 (by omega) (Nat.le_refl _) gU)).trans (zak gS (by omega) (by omega))
  ·have hc:¬ (k:Int)<(init.length:Int):=dF hc;obtain rfl:k=init.length:=by omega
   have e:(zbG 0 init).take init.length=zbG 0 init:=List.take_of_length_le (by rw [zci];exact Nat.le_refl _);rw [e] at fM ho;exact⟨(q,c),(cvE rfl rfl),fM,ho,f0,hbY⟩
 clear fM f0 hbX;rintro⟨q,c⟩ X ⟨fM,ho,f0,hbX⟩;dsimp only at fM ho ⊢;obtain⟨x0,hx0⟩:∃ x0:ExD,x0={ ex0 N with ev:=zbG 0 init }:=⟨_,rfl⟩;have hx0e:x0.ev=zbG 0 init:=by rw [hx0]
 rw [<- hx0] at fM;rw [<- hx0e] at ho;refine⟨Option Addr×Nat,fun _=>⟨[(0,At0 bP),(1,.slice pp Ps.length cp),(4,At0 L),(9,At0 M),(10,At0 M)],[]⟩,fun s X=>MixH X M (asR 0 (Ps.map (·.1)) x0) s.1 s.2 [nilV,nilV,nilV]/\OwnS evE 225 w.heap.size X s.1 s.2 (asR 0 (Ps.map (·.1)) x0).ev/\(asR 0 (Ps.map (·.1)) x0).ev.length=N/\(∀ e∈(asR 0 (Ps.map (·.1)) x0).ev,e.k=1\/e.k=2->e.l.toNat<init.length)/\X.heap[L]?=some (.cells (zdz).toArray 153 (0,0))/\Bw w X,?_,?_⟩
 ·refine⟨Nat×ExD×Option Addr×Nat,fun s=>⟨[(0,At0 bP),(1,.slice pp Ps.length cp),(4,At0 L),(9,At0 M),(10,At0 M),(66,.slice pp Ps.length cp),(67,i64 Ps.length),(68,i64 (s.1:Nat))],[]⟩,
   fun s Y=>s.1<=Ps.length/\asR s.1 ((Ps.map (·.1)).drop s.1) s.2.1=asR 0 (Ps.map (·.1)) x0/\((Ps.map (·.1)).drop s.1).foldl (fun n P=>n+P.ev.length) s.2.1.ev.length=N/\(WrdR s.2.1.dt.to/\WrdR s.2.1.ct.to/\WrdR s.2.1.rm.to)/\(∀ e∈s.2.1.ev,e.k=1\/e.k=2->e.l.toNat<init.length) /\
    MixH Y M s.2.1 s.2.2.1 s.2.2.2 [nilV,nilV,nilV]/\OwnS evE 225 w.heap.size Y s.2.2.1 s.2.2.2 s.2.1.ev/\Y.heap[L]?=some (.cells (zdz).toArray 153 (0,0))/\Bw w Y,fun s=>Ps.length-s.1,(0,x0,q,c),
   (cvE rfl rfl),⟨Nat.zero_le _,rfl,by rw [hN,hx0e,zci];rfl,?_,?_,fM,ho,f0,hbX⟩,?_⟩
  ·rw [hx0];exact⟨fun i _=>(by decide:0<2^64),fun i _=>(by decide:0<2^64),fun i _=>(by decide:0<2^64)⟩
  ·intro e he _;rw [hx0e] at he;obtain⟨j,hj⟩:=List.mem_iff_getElem?.1 he;have hjl:j<init.length:=by
    have:=(List.getElem?_eq_some_iff.1 hj).1
    rwa [zci] at this
   rw [zfN init 0 hjl] at hj;rw [<- Option.some.inj hj];show (UInt8.ofNat (0+j)).toNat<init.length;have:=zlb (n:=0+j) (by omega);omega
  clear fM ho f0 hbX;rintro⟨k,x,q,c⟩ Y ⟨hk,hacc,hfold,⟨hw1,hw2,hw3⟩,hloc,fM,ho,f0,hbY⟩;dsimp only at hk hacc hfold hw1 hw2 hw3 hloc fM ho ⊢;refine biE (fun hc=>?_) fun hc=>?_
  ·have hc:(k:Int)<(Ps.length:Int):=dT hc;have hkl:k<Ps.length:=by omega
   obtain⟨y,hy⟩:∃ y,Ps[k]=y:=⟨_,rfl⟩;have hym:y∈Ps:=by rw [<- hy];exact gM hkl
   have hdp:(Ps.map (·.1)).drop k=y.1::(Ps.map (·.1)).drop (k+1):=by
    rw [<- List.getElem_cons_drop (show k<(Ps.map (·.1)).length by simpa using hkl)];simp [hy]
   rw [hdp] at hacc hfold;rw [zoh] at hacc;have hfold:((Ps.map (·.1)).drop (k+1)).foldl (fun n P=>n+P.ev.length) (x.ev.length+y.1.ev.length)=N:=hfold;have hsz:=znj (x.ev.length+y.1.ev.length) ((Ps.map (·.1)).drop (k+1));rw [hfold] at hsz;obtain⟨b24,bloc,bdt,bct,brm,ldt,lct,lrm⟩:=hPb y hym;obtain⟨bp,op,rfl,hlp,hat⟩:=hP.at hkl;refine⟨k,rfl,hkl,?_⟩;refine⟨pthE.enc y,pthE.len y,by rw [<- hy];exact zaq hbY (hat k hkl),nL hlp hbY.size,?_⟩;refine zap (X:=Y) (v := .agg (pthE.enc y).toArray) k217 (pthE.len y) rfl (List.all_eq_true.2 fun u hu=>pthE.one y u hu) fun Z hbZ fZ sZ=>?_;obtain⟨D,hD⟩:=nm (Y.heap.size);have fD:Z.heap[D]?=some (.cells (pthE.enc y).toArray 217 (0,0)):=by rw [hD];exact fZ
   have hMD:M<D:=by rw [hD];exact hlt fM
   have eD:At0 Y.heap.size=At0 D:=by rw [hD]
   have fMZ:=zab hbZ fM;have f0Z:=zab hbZ f0;have hoZ:=ho.below hbZ;have hwZ:=zst hbY hbZ;refine⟨_,zdR fMZ,?_⟩;refine⟨.slice y.2.1.1 y.1.ev.length y.2.1.2,by rw [<- hD];exact zac (zaa fD) (i:=0) rfl,?_⟩;refine⟨Nat×Option Addr×Nat,fun s=>⟨[(0,At0 bP),(1,.slice (some ⟨bp,op,none⟩) Ps.length cp),(4,At0 L),(9,At0 M),(10,At0 M),(13,i64 (k:Nat)),(14,At0 D),(15,i64 x.ev.length),(66,.slice (some ⟨bp,op,none⟩) Ps.length cp),(67,i64 Ps.length),(68,i64 (k:Nat)),(79,.slice y.2.1.1 y.1.ev.length y.2.1.2),(80,i64 y.1.ev.length),(81,i64 (s.1:Nat))],[]⟩,
    fun s V=>s.1<=y.1.ev.length/\MixH V M { x with ev:=x.ev++thEv k (y.1.ev.take s.1) } s.2.1 s.2.2 [nilV,nilV,nilV]/\OwnS evE 225 w.heap.size V s.2.1 s.2.2 (x.ev++thEv k (y.1.ev.take s.1))/\V.heap[L]?=some (.cells (zdz).toArray 153 (0,0))/\V.heap[D]?=some (.cells (pthE.enc y).toArray 217 (0,0))/\Bw w V,fun s=>y.1.ev.length-s.1,(0,q,c),
    ⟨.cons rfl (.cons rfl (.cons rfl (.cons rfl (.cons rfl (.cons rfl (.cons (congrArg some eD) (.cons rfl (.cons rfl (.cons rfl (.cons rfl (.cons rfl (.cons rfl (.cons rfl .nil))))))))))))),rfl⟩,⟨Nat.zero_le _,by show MixH Z M { x with ev:=x.ev++[] } q c _;rw [List.append_nil];exact fMZ,by show OwnS _ _ _ Z q c (x.ev++[]);rw [List.append_nil];exact hoZ,f0Z,fD,hwZ⟩,?_⟩
   clear fMZ f0Z hoZ hwZ fZ sZ hbZ fM ho f0 hbY;rintro⟨j,q,c⟩ V ⟨hj,fM,ho,f0,fD,hbV⟩;dsimp only at hj fM ho ⊢;have sV:=hbV.size;have hS:=(hPs y hym).below hbV;refine biE (fun hc=>?_) fun hc=>?_
   ·have hc:(j:Int)<(y.1.ev.length:Int):=dT hc;have hjl:j<y.1.ev.length:=(by omega);obtain⟨e,he⟩:∃ e,y.1.ev[j]=e:=⟨_,rfl⟩;have htk:=zld (k:=k) hjl;rw [he] at htk;obtain⟨be,oe,hbe,hle,hate⟩:=hS.ev.at hjl;rw [hbe];refine⟨j,rfl,hjl,?_⟩;refine⟨evE.enc e,rfl,by rw [<- he];exact hate j hjl,hle,?_⟩;refine zap (X:=V) (v := .agg (evE.enc e).toArray) k225 rfl rfl (List.all_eq_true.2 fun u hu=>evE.one e u hu) fun T hbT fT sT=>?_;have fT:T.heap[V.heap.size]?=some (.cells (evE.enc e).toArray 225 (0,0)):=fT;refine zal k3 fT (o:=0+0) (v:=i64 (k:Nat)) rfl rfl (by show 0<7;decide) rfl fun T2 fT2 gT2 sT2=>?_;obtain⟨e2,he2⟩:∃ e2:Ev,e2={ e with th:=k }:=⟨_,rfl⟩;have fT2:T2.heap[V.heap.size]?=some (.cells (evE.enc e2).toArray 225 (0,0)):=(by rw [he2];exact fT2);have hVT:Bw V T2:=hbT.trans (zak gT2 (by omega) (Nat.le_refl _));have fM2:=zab hVT fM;have fT3:=hdr fT2;have hd:Bw T2 T2.drew:=(Below.refl _ T2).drew;have hlenx:(x.ev++thEv k (y.1.ev.take j)).length<=48:=by
     unfold thEv;rw [lap,List.length_map,List.length_take];omega
    have ho2:=ho.below hVT;refine DrawE.ord [7,10] [0,1,2,3,4,5,6,7,8,9,10] (by kernel_rfl) ?_;refine⟨_,zdR (hdr fM2),?_⟩;refine⟨evE.enc e2,rfl,zaa fT3,hlt fT3,?_⟩;refine⟨⟨by decide,by decide,rfl⟩,evE.enc e2,zce rfl rfl,?_⟩;obtain⟨Y1,hY1⟩:=nm (T2.drew.alloc (.cells (evE.enc e2).toArray 225));have hb1:Bw T2 Y1:=(by rw [hY1];exact hd.trans ((Below.refl T2.drew.heap.size _).alloc (Nat.le_refl _) _));refine⟨(zba _ _),?_⟩;have sT:=hVT.size;have s1:=hb1.size;have ho3:=ho2.below hb1;unfold opsO zcr;show SatR _ _;rw [<- hY1];refine appE ho3 (by rw [hY1];exact zaW evE e2) (by omega) (by omega) fun q1 c1 U oU gU hat1=>?_;have fMU:=zaM (zab hb1 fM2) ho3 (by decide) gU;have f0U:=zaM (zab (hVT.trans (hb1.mono sT)) f0) ho3 (by decide) gU;have fDU:=zaM (zab (hVT.trans (hb1.mono sT)) fD) ho3 (by decide) gU;refine zal k98 fMU (o:=0+0) (v := .slice q1 ((x.ev++thEv k (y.1.ev.take j))++[e2]).length c1) rfl rfl (by rw [lap,zaC];decide) rfl fun S fS gS sS=>?_;have hev2:(x.ev++thEv k (y.1.ev.take j))++[e2]=x.ev++thEv k (y.1.ev.take (j+1)):=(by rw [htk,he2,List.append_assoc]);rw [show 0+0=0 from rfl,zrc,hev2] at fS;refine nxI (by omega) ?_;refine⟨(j+1,q1,c1),(cvE rfl rfl),⟨hjl,fS,by rw [hev2] at oU;exact zaQ oU fMU (by decide) gS,(gS.block L (hlt f0U) (by simp;omega)).trans f0U,(gS.block D (hlt fDU) (by simp;omega)).trans fDU,?_⟩,zdc (by omega)⟩;have sU:=gU.size;exact ((hbV.trans ((hVT.trans (hb1.mono sT)).mono sV)).trans (zaX ho3 (by omega) (Nat.le_refl _) gU)).trans (zak gS (by omega) (by omega))
   ·have hc:¬ (j:Int)<(y.1.ev.length:Int):=dF hc;obtain rfl:j=y.1.ev.length:=(by omega);rw [List.take_length] at fM ho;obtain⟨x1,hx1⟩:∃ x1:ExD,x1={ x with ev:=x.ev++thEv k y.1.ev }:=⟨_,rfl⟩;rw [<- hx1] at fM;have fM0:=fM;have ho0:=ho;have f00:=f0;have fD0:=fD;have hb0:=hbV;have hS0:=hS;obtain⟨x2,hx2⟩:∃ z:ExD,z={ x1 with dt:=putR x.ev.length y.1.data x.dt }:=⟨_,rfl⟩;obtain⟨A1,Z1,hA1,hE1⟩:=zn4 x1 q c [nilV,nilV,nilV];have hx1dt:x1.dt=x.dt:=(by rw [hx1]);have hR1:RelAt V M 148 153 A1 Z1 x.dt:=⟨hA1,by
     have h:=hE1 x1.dt;rw [hx1dt] at h;rw [<- h,<- hx1dt];exact fM0⟩
    have dw1:Bw V V.drew:=(Below.refl _ _).drew;refine DrawE.ord [6] [0,1,2,3,4,5,6] (by kernel_rfl) ?_;refine⟨.slice y.2.2.1.1 y.1.data.length y.2.2.1.2,zac (zaa (hdr fD0)) (i:=1) rfl,?_⟩;refine cmo (zpi (f:=x.ev.length) (hR1.same (Y:=V.drew) rfl) hw1 ((hS0.dt).below dw1) (fun a ha=>by have:=hS0.lt a (.inl ha);omega) ldt (zdp bdt (by omega))) ?_;rintro e V1 ⟨rfl,hRn1,gn1⟩;have g1:V.grownBy V1 (some M):=zae (zah dw1) gn1;have sg1:=g1.size;have fM1:MixH V1 M x2 q c [nilV,nilV,nilV]:=by
     have h:=hRn1.cells;rw [<- hE1] at h;rw [hx2];exact h
    have ho1:=zaQ ho0 fM0 (by decide) g1;have f01:=(g1.block L (hlt f00) (by simp;omega)).trans f00;have fD1:=(g1.block D (hlt fD0) (by simp;omega)).trans fD0;have hb1:Bw w V1:=hb0.trans (zak g1 hb0.size (by omega));have hS1:=(hPs y hym).below hb1;obtain⟨x3,hx3⟩:∃ z:ExD,z={ x2 with ct:=putR x.ev.length y.1.ctrl x.ct }:=⟨_,rfl⟩;obtain⟨A2,Z2,hA2,hE2⟩:=zn5 x2 q c [nilV,nilV,nilV];have hx2ct:x2.ct=x.ct:=(by rw [hx2];rw [hx1]);have hR2:RelAt V1 M 197 153 A2 Z2 x.ct:=⟨hA2,by
     have h:=hE2 x2.ct;rw [hx2ct] at h;rw [<- h,<- hx2ct];exact fM1⟩
    have dw2:Bw V1 V1.drew:=(Below.refl _ _).drew;refine DrawE.ord [6] [0,1,2,3,4,5,6] (by kernel_rfl) ?_;refine⟨.slice y.2.2.2.1.1 y.1.ctrl.length y.2.2.2.1.2,zac (zaa (hdr fD1)) (i:=2) rfl,?_⟩;refine cmo (zpi (f:=x.ev.length) (hR2.same (Y:=V1.drew) rfl) hw2 ((hS1.ct).below dw2) (fun a ha=>by have:=hS1.lt a (.inr (.inl ha));omega) lct (zdp bct (by omega))) ?_;rintro e V2 ⟨rfl,hRn2,gn2⟩;have g2:V1.grownBy V2 (some M):=zae (zah dw2) gn2;have sg2:=g2.size;have fM2:MixH V2 M x3 q c [nilV,nilV,nilV]:=by
     have h:=hRn2.cells;rw [<- hE2] at h;rw [hx3];exact h
    have ho2:=zaQ ho1 fM1 (by decide) g2;have f02:=(g2.block L (hlt f01) (by simp;omega)).trans f01;have fD2:=(g2.block D (hlt fD1) (by simp;omega)).trans fD1;have hb2:Bw w V2:=hb1.trans (zak g2 hb1.size (by omega));have hS2:=(hPs y hym).below hb2;obtain⟨x4,hx4⟩:∃ z:ExD,z={ x3 with rm:=putR x.ev.length y.1.rmw x.rm }:=⟨_,rfl⟩;obtain⟨A3,Z3,hA3,hE3⟩:=zn2 x3 q c [nilV,nilV,nilV];have hx3rm:x3.rm=x.rm:=(by rw [hx3];rw [hx2];rw [hx1]);have hR3:RelAt V2 M 246 153 A3 Z3 x.rm:=⟨hA3,by
     have h:=hE3 x3.rm;rw [hx3rm] at h;rw [<- h,<- hx3rm];exact fM2⟩
    have dw3:Bw V2 V2.drew:=(Below.refl _ _).drew;refine DrawE.ord [6] [0,1,2,3,4,5,6] (by kernel_rfl) ?_;refine⟨.slice y.2.2.2.2.1 y.1.rmw.length y.2.2.2.2.2,zac (zaa (hdr fD2)) (i:=3) rfl,?_⟩;refine cmo (zpi (f:=x.ev.length) (hR3.same (Y:=V2.drew) rfl) hw3 ((hS2.rm).below dw3) (fun a ha=>by have:=hS2.lt a (.inr (.inr ha));omega) lrm (zdp brm (by omega))) ?_;rintro e V3 ⟨rfl,hRn3,gn3⟩;have g3:V2.grownBy V3 (some M):=zae (zah dw3) gn3;have sg3:=g3.size;have fM3:MixH V3 M x4 q c [nilV,nilV,nilV]:=by
     have h:=hRn3.cells;rw [<- hE3] at h;rw [hx4];exact h
    have ho3:=zaQ ho2 fM2 (by decide) g3;have f03:=(g3.block L (hlt f02) (by simp;omega)).trans f02;have fD3:=(g3.block D (hlt fD2) (by simp;omega)).trans fD2;have hb3:Bw w V3:=hb2.trans (zak g3 hb2.size (by omega));have hS3:=(hPs y hym).below hb3;have hx5:zj5 x k y.1={ x4 with regs:=fun i=>if i/8=k then y.1.regs (i%8) else x4.regs i }:=(by rw [hx4,hx3,hx2,hx1];rfl);obtain⟨A5,Z5,hA5,hE5⟩:=zpP x4 q c [nilV,nilV,nilV];have hM5:exC x4 q c++[nilV,nilV,nilV]=A5++(seg 32 (fun i=>u8 (x4.regs i))++Z5):=hE5 x4.regs;have fM5:V3.heap[M]?=some (.cells (A5++(seg 32 (fun i=>u8 (x4.regs i))++Z5)).toArray 153 (0,0)):=(by rw [<- hM5];exact fM3);have hsub:((pthE.enc y).drop 4).take 8=seg 8 (fun i=>u8 (y.1.regs i)):=List.take_of_length_le (by rw [List.length_drop,pthE.len];decide);refine DrawE.ord [8] [0,1,2,3,4,5,6,7,8] (by kernel_rfl) ?_;refine⟨seg 8 (fun i=>u8 (y.1.regs i)),zat _ _,by rw [<- hsub];have:=zaw (n:=4) (m:=8) (zaa (hdr fD3));exact this,hlt (hdr fD3),?_⟩;refine⟨k,rfl,by omega,?_⟩;refine zbo k23 (hdr fM5) (o:=295+k*8) (v := .agg (seg 8 (fun i=>u8 (y.1.regs i))).toArray) (zat _ _) (by show 295+k*8+(seg 8 _).length<=(A5++(seg 32 _++Z5)).length;rw [<- hM5,lap,zaC,zat];show _<=336;omega) (zcP fun _=>rfl) fun S fS gS sS=>?_;obtain⟨x5,hx5e⟩:=nm (zj5 x k y.1);have fS:MixH S M x5 q c [nilV,nilV,nilV]:=by
     refine fS.trans ?_;have e1:=zjy (A:=A5) (Z:=Z5) (l:=seg 32 (fun i=>u8 (x4.regs i))) (r:=seg 8 (fun i=>u8 (y.1.regs i))) (o:=k*8) (m:=8) hA5 (by rw [zat];omega) (zat _ _);rw [znm (by omega)] at e1;rw [hx5e,hx5,hE5,<- e1];show some (Obj.cells ((A5++(seg 32 (fun i=>u8 (x4.regs i))++Z5)).take (295+k*8)++seg 8 (fun i=>u8 (y.1.regs i))++(A5++(seg 32 (fun i=>u8 (x4.regs i))++Z5)).drop (295+k*8+(seg 8 (fun i=>u8 (y.1.regs i))).length)).toArray _ _)=_;rw [zat]
    have dw4:Bw V3 V3.drew:=(Below.refl _ _).drew;have g4:V3.grownBy S (some M):=zae (zah dw4) gS;have hev5:x5.ev=x.ev++thEv k y.1.ev:=(by rw [hx5e];rfl);have hx1e:x1.ev=x5.ev:=(by rw [hx1,hev5]);have hlen5:x5.ev.length=x.ev.length+y.1.ev.length:=(by rw [hev5,lap];unfold thEv;rw [List.length_map]);refine nxI (by omega) ?_;refine⟨(k+1,x5,q,c),(cvE rfl rfl),⟨hkl,by rw [hx5e];exact hacc,by rw [hlen5];exact hfold,?_,fun e he hk=>?_,fS,?_,(g4.block L (hlt f03) (by simp;omega)).trans f03,hb3.trans (zak g4 hb3.size (by omega))⟩,zdc (by omega)⟩
    ·rw [hx5e];exact⟨ze5 hw1 (zdp bdt (by omega)),ze5 hw2 (zdp bct (by omega)),ze5 hw3 (zdp brm (by omega))⟩
    ·have he:e∈x5.ev:=he;rw [hev5] at he;rcases List.mem_append.1 he with he | he
     ·exact hloc e he hk
     ·unfold thEv at he;obtain⟨e',he',rfl⟩:=List.mem_map.1 he;exact bloc e' he' hk
    ·show OwnS evE 225 w.heap.size S q c x5.ev;rw [hev5];exact zaQ ho3 fM3 (by decide) g4
  ·have hc:¬ (k:Int)<(Ps.length:Int):=dF hc;rw [List.drop_eq_nil_of_le (by rw [List.length_map];omega)] at hacc hfold;have hacc:x=asR 0 (Ps.map (·.1)) x0:=hacc;have hfold:x.ev.length=N:=hfold;rw [<- hacc];exact⟨(q,c),(cvE rfl rfl),fM,ho,hfold,hloc,f0,hbY⟩
 clear fM ho f0 hbX;rintro⟨q,c⟩ X ⟨fM,ho,hxl,hloc,f0,hbX⟩;dsimp only at fM ho ⊢;obtain⟨AX,hAX⟩:=nm (asR 0 (Ps.map (·.1)) x0);rw [<- hAX] at fM ho hxl hloc;obtain⟨BX,hBX⟩:∃ BX:ExD,BX={ AX with po:=poR AX.ev }:=⟨_,rfl⟩;have hbase:zql init (Ps.map (·.1))=BX:=by
  rw [hBX,hAX,hx0,hN];rfl
 rw [hbase];refine⟨Unit,fun _=>⟨[(0,At0 bP),(1,.slice pp Ps.length cp),(4,At0 L),(9,At0 M),(10,At0 M)],[]⟩,fun _ X=>MixH X M BX q c [nilV,nilV,nilV]/\OwnS evE 225 w.heap.size X q c BX.ev/\X.heap[L]?=some (.cells (zdz).toArray 153 (0,0))/\Bw w X,?_,?_⟩
 ·refine⟨_,zdR fM,?_⟩;refine cmo (zdF ho.row (by omega)) ?_;rintro e Y ⟨rfl,hbY⟩;have fMY:=zab hbY fM;obtain⟨A5,Z5,hA5,hE5⟩:=zn3 AX q c [nilV,nilV,nilV];have hM5:exC AX q c++[nilV,nilV,nilV]=A5++(relC AX.po++Z5):=hE5 AX.po;have fM5:Y.heap[M]?=some (.cells (A5++(relC AX.po++Z5)).toArray 153 (0,0)):=by rw [<- hM5];exact fMY
  refine zbo k102 fM5 (o:=0+1) (v := .agg (relC (poR AX.ev)).toArray) (zad _) (by show 0+1+(relC _).length<=(A5++(relC AX.po++Z5)).length;rw [<- hM5,lap,zaC,zad];decide) (zau _) fun S fS gS sS=>?_;have fS:MixH S M BX q c [nilV,nilV,nilV]:=by
   refine fS.trans ?_;have e1:=zjy (A:=A5) (Z:=Z5) (l:=relC AX.po) (r:=relC (poR AX.ev)) (o:=0) (m:=49) hA5 (by rw [zad];omega) (zad _);rw [hBX,hE5];have e2:(relC AX.po).take 0++relC (poR AX.ev)++(relC AX.po).drop (0+49)=relC (poR AX.ev):=by
    rw [List.take_zero,List.nil_append,List.drop_eq_nil_of_le (by rw [zad];omega),List.append_nil]
   rw [e2] at e1;rw [<- e1];show some (Obj.cells ((A5++(relC AX.po++Z5)).take (0+1)++relC (poR AX.ev)++(A5++(relC AX.po++Z5)).drop (0+1+(relC (poR AX.ev)).length)).toArray _ _)=_;rw [zad]
  have hLX:=hlt f0;have hbwY:=zst hbX hbY;exact⟨(),(cvE rfl rfl),fS,by rw [hBX];exact zaQ (ho.below hbY) fMY (by decide) gS,(gS.block L (hlt (zab hbY f0)) (by simp;omega)).trans (zab hbY f0),hbwY.trans (zak gS hbwY.size (by omega))⟩
 have hBe:BX.ev=AX.ev:=by rw [hBX]
 clear fM ho f0 hbX;rintro _ X ⟨fM,ho,f0,hbX⟩;refine⟨List Value,fun _=>⟨[(0,At0 bP),(1,.slice pp Ps.length cp),(4,At0 L),(9,At0 M),(10,At0 M)],[]⟩,fun vs X=>X.heap[M]?=some (.cells vs.toArray 153 (0,0))/\MixV w.heap.size X vs (zbV BX init.length)/\X.heap[L]?=some (.cells (zdz).toArray 153 (0,0))/\Bw w X,?_,?_⟩
 ·refine⟨_,ldP hbX h1,?_⟩;have hqM:∀ a,q=some a->a.block≠M:=fun a ha e=>by
   obtain⟨_,_,cur,h'⟩:=zas ho ha;rw [e,fM] at h';simp at h'
  refine cmo (zmH fM ho.row hqM (by rw [hBe];omega) (by omega) (by rw [hBe];exact hloc)) ?_;rintro e Y ⟨rfl,⟨p1,p2,p3,c1,c2,c3,xs,ys,fY,h1',h2',h3',h4',h5',h6',h7'⟩,gY⟩;have hwX:=hbX.size;refine⟨_,(cvE rfl rfl),fY,⟨q,p1,p2,p3,c,c1,c2,c3,xs,ys,rfl,zaQ ho fM (by decide) gY,h1'.lower hwX,h2',h3'.lower hwX,fun y hy=>(h4' y hy).lower hwX,h5',h6'.lower hwX,fun y hy=>(h7' y hy).lower hwX⟩,(gY.block L (hlt f0) (by simp;omega)).trans f0,hbX.trans (zak gY hbX.size (by omega))⟩
 clear fM ho f0 hbX;rintro vs X ⟨fM,hv,f0,hbX⟩;have hvl:vs.length=336:=by
  obtain⟨q,p1,p2,p3,c,c1,c2,c3,xs,ys,e,_⟩:=hv;rw [e,lap,zaC];rfl
 have hv1:vs.all Value.oneCell'=true:=by
  obtain⟨q,p1,p2,p3,c,c1,c2,c3,xs,ys,e,_⟩:=hv;rw [e,List.all_append,zde];rfl
 refine⟨vs,hvl,zaa fM,hlt fM,?_⟩;refine zam (v := .agg vs.toArray) k153 f0 hvl zbB hv1 ?_;refine⟨vs,hvl,zaa (zaj f0),⟨vs,rfl,?_⟩,zag hbX (by omega) _⟩;obtain⟨q,p1,p2,p3,c,c1,c2,c3,xs,ys,e,k1,k2,k3,k4,k5,k6,k7,k8⟩:=hv;have kp:∀ {α:Type} {E:Enc α} {T cc:Nat} {r:Option Addr} {ll:List α},T≠153->OwnS E T w.heap.size X r cc ll->OwnS E T w.heap.size (X.setRow L vs.toArray) r cc ll:=fun {α E T cc r ll} hT h=>zaQ h f0 hT (zaO X L _);exact⟨q,p1,p2,p3,c,c1,c2,c3,xs,ys,e,kp (by decide) k1,kp (by decide) k2,k3,kp (by decide) k4,fun y hy=>kp (by decide) (k5 y hy),k6,kp (by decide) k7,fun y hy=>kp (by decide) (k8 y hy)⟩
end
end Go.Proofs.YtlkofpbdpplfkaaGreatDoor
namespace Go.Vc
open Go.RowKit
def zqx {α:Type} (P:Program) (g:Nat) (lb:List Value) (xs:List α) (W0:World) (Rd:Nat->Prop) (St:List α->List Value->World->Prop) (Gv:List Value->Nat->Prop):Prop :=
 ∀ (l:Nat) (F0:Nat->Prop) (J:List α->(Nat->Prop)->World->Prop) (W:World),W0.heap.size<=W.heap.size->(∀ k,Rd k->W.heap[k]?=W0.heap[k]?)->(∀ k,Rd k->¬ F0 k) ->
  JG W.heap.size (fun _=>False) J ->
  (∀ pre x vs F W1,J pre F W1->St (pre++[x]) vs W1->(∀ k,Gv vs k->W.heap.size<=k)->(pre++[x]) <+: xs->YieldR P l vs.toArray W1 fun v W2 =>
   v = .bool true/\∃ F',J (pre++[x]) F' W2/\KeepsG (fun k=>F k\/Gv vs k) F' W1 W2) ->
  J [] F0 W ->
  Calls P g (.func (.yield l) #[] #[]::lb).toArray W fun e W'=>(∃ v,e = .returned v)/\∃ F',J xs F' W'
theorem zqN {α:Type} {S:Sig} (hS:SigOk S) (hr:S.r=none) {f:Operand} {ps:Array Tmp} {assign body:Code} {E:Env} {w:World} {Q:Exit->Env->World->Prop}
  {gf:Nat} {lb:Array Value} (hg:opd E f=some (.func (.func gf) #[] lb)) (hok:zbr S gf=true)
  {xs:List α} {W0:World} {Rd:Nat->Prop} {St:List α->List Value->World->Prop} {Gv:List Value->Nat->Prop} (hI:zqx S.P gf lb.toList xs W0 Rd St Gv) (hGv:∀ pre vs W k,St pre vs W->Gv vs k->∃ cs t fr,W.heap[k]?=some (.cells cs t fr)) (hW0:W0.heap.size<=w.heap.size) (hRd:∀ k,Rd k->k<W0.heap.size/\w.heap[k]?=W0.heap[k]?)
  (hps:∀ pre vs W,St pre vs W->vs.length=ps.size) (hpn:∀ p∈ps.toList,p<S.n)
  (F0:Nat->Prop) (J:List α->(Nat->Prop)->World->Prop) (hRF:∀ k,Rd k->¬ F0 k)
  (hJ:JG w.heap.size (fun _=>False) J) (h0:J [] F0 w)
  (hround:∀ (l:Nat) (pre:List α) (x:α) (vs:List Value) (F:Nat->Prop) (W:World),w.heap.size<=l->(pre++[x]) <+: xs->J pre F W->St (pre++[x]) vs W->(∀ k,Gv vs k->w.heap.size<=k)->¬ F l->(∃ lo,W.heap[l]?=some (.loop lo)) ->
   wpE (sr S l) assign ⟨setL ps.toList vs E.vs,[]⟩ W fun ex E1 W1=>ex = .normal/\∃ F1,KeepsG (fun k=>F k\/Gv vs k) F1 W W1/\J pre F1 W1 /\
    ∀ o W2,W2=W1.putObj l o->J pre F1 W2->wpE (sr S l) body E1 W2 (zrx F1 J (fun _ _ _ _=>False) (pre++[x]) W2))
  (hdone:∀ D F W,w.heap.size<=D->¬ F D->J xs F W->W.heap[D]?=some (.deferred (some []))->Q .normal ⟨E.vs,{ target := .collected D,args := #[] }::E.ds⟩ W) :
  zkb S f ps assign body E w Q:=by
 intro a ha;have hcall:∀ args w,(callFunc gf args).run S.P w = .ok (.enter gf args) w:=by
  simp only [zbr,bAT,Nat.ble_eq,Nat.blt_eq] at hok;exact fun args w=>hS.call gf hok.1.1 hok.1.2 hok.2 args w
 refine wpIn_rangeFunc ?_;intro fn hfn;have hro:(FR S.r).round=none:=hr;rw [hro];obtain⟨rec,hrec⟩:∃ rec:LoopState->Option Code->Loop,rec=fun st pe=>{ state:=st,pending:=pe,fn,tmps:=a.tmps,params:=ps,assign,body,defers:=w.heap.size }:=⟨_,rfl⟩;obtain⟨W1,hW1⟩:∃ W1,(w.alloc (.deferred (some []))).alloc (.loop (rec .ready none))=W1:=⟨_,rfl⟩;have hK0:=hnew w (.deferred (some []));have hK1:W1.heap[w.heap.size]?=some (.deferred (some [])):=by rw [<- hW1];exact hold _ hK0
 have hL1:W1.heap[w.heap.size+1]?=some (.loop (rec .ready none)):=by
  rw [<- hW1];have:=hnew (w.alloc (.deferred (some []))) (.loop (rec .ready none));rwa [wz] at this
 have hs1:W1.heap.size=w.heap.size+2:=by rw [<- hW1];simp
 have hst1:Bw w W1:=by
  rw [<- hW1];exact ((zba w _)).alloc (by simp) _
 have hJ1:=hJ.step _ _ _ _ h0 (.below hst1);have hFl:∀ k,F0 k->k<w.heap.size:=fun k hk=>(hJ.lt _ _ _ k h0 hk).1;refine⟨w.heap.size+1,[{ target := .collected w.heap.size,args := #[] }],W1,{ target := .fn (.func gf) lb,args := #[.func (.yield (w.heap.size+1)) #[] #[]] },W1,gf,
  #[.func (.yield (w.heap.size+1)) #[] #[]]++lb,W1,?_,?_,fun _ _=>trivial,?_,fun h=>by simp [FR] at h,?_⟩
 ·rw [<- hW1,hrec];exact run_enterLoop_outer _ _ _ _ _
 ·have hg':=ha.eval hg;simp only [resolve,hg'];simp [go_sem]
 ·simp [invoke,go_sem,hcall]
 ·have hargs : #[Value.func (.yield (w.heap.size+1)) #[] #[]]++lb=(Value.func (.yield (w.heap.size+1)) #[] #[]::lb.toList).toArray:=by rw [<- Array.toList_inj];simp
  rw [hargs];have book:∀ {σ:Type} {K:σ->(Nat->Prop)->World->Prop} (lo:Loop),JG w.heap.size (fun _=>False) K->JG W1.heap.size (fun _=>False) (fun s F W=>K s F W/\W.heap[w.heap.size+1]?=some (.loop lo)/\W.heap[w.heap.size]?=some (.deferred (some []))/\¬ F (w.heap.size+1)/\¬ F w.heap.size):=by
   intro σ K lo hK;refine⟨fun s F A B ⟨hk,hl,hd,hf1,hf2⟩ hs=>?_,fun s F A k ⟨hk,_⟩ hf=>hK.lt s F A k hk hf⟩;exact⟨hK.step s F A B hk (hs.mono (by omega)),(hs.same _ (hlt hl) (.inl ⟨by omega,fun h=>h⟩)).trans hl,(hs.same _ (hlt hd) (.inl ⟨by omega,fun h=>h⟩)).trans hd,hf1,hf2⟩
  have hcalls:=hI (w.heap.size+1) F0 (fun pre F W=>J pre F W/\W.heap[w.heap.size+1]?=some (.loop (rec .ready none))/\W.heap[w.heap.size]?=some (.deferred (some []))/\¬ F (w.heap.size+1)/\¬ F w.heap.size)
   W1 (by omega) (fun k hk=>by
    obtain⟨h1,h2⟩:=hRd k hk;rw [<- h2];exact hst1.block k (by omega)) hRF (book _ hJ) ?_ ⟨hJ1,hL1,hK1,fun h=>by have:=hFl _ h;omega,fun h=>by have:=hFl _ h;omega⟩
  ·refine zdu (hcalls.mono ?_);rintro e W2 ⟨⟨v,rfl⟩,F,hj,hl,hk,hf1,hf2⟩;have hj2:=hJ.step _ _ _ _ hj (StepG.put (Ow:=fun _=>False) (o := .loop (rec .exhausted none)) (n0:=w.heap.size) (l:=w.heap.size+1) (by omega) hf1);refine⟨none,_,by have:=run_endLoop (P:=S.P) hl (by rw [hrec];simp);rw [hrec] at this;exact this,?_⟩;rw [hrec] at hj2;exact⟨⟨E.vs,{ target := .collected w.heap.size,args := #[] }::E.ds⟩,⟨ha.size,by simp [ha.defers],ha.val⟩,hdone w.heap.size F _ (Nat.le_refl _) hf2 hj2 ((zai (by omega)).trans hk)⟩
  ·rintro pre x vs F W ⟨hj,hl,hk,hf1,hf2⟩ hst0 hgv0 hpre;have hg1:¬ (F (w.heap.size+1)\/Gv vs (w.heap.size+1)):=fun h=>h.elim hf1 fun h=>by
    obtain⟨_,_,_,h2⟩:=hGv _ _ _ _ hst0 h;rw [hl] at h2;cases h2
   have hg2:¬ (F w.heap.size\/Gv vs w.heap.size):=fun h=>h.elim hf2 fun h=>by
    obtain⟨_,_,_,h2⟩:=hGv _ _ _ _ hst0 h;rw [hk] at h2;cases h2
   have hy:=run_yield (P:=S.P) (args:=vs.toArray) hl (by rw [hrec];simpa using hps _ _ _ hst0);rw [hrec] at hy;refine⟨fn,_,assign,body,hy,zcT (r:=none) (n:=NN) (roundIn_of_wpIn (F:=FR none) trivial ?_)⟩;have hag:Agrees (sr S (w.heap.size+1)) { tmps:=(ps.zip vs.toArray).foldl (fun t (p,v)=>t.setIfInBounds p v) a.tmps,defers:=[] } ⟨setL ps.toList vs E.vs,[]⟩:=by
    have h1:Agrees (sr S (w.heap.size+1)) { a with defers:=[] } ⟨E.vs,[]⟩:=⟨ha.size,rfl,ha.val⟩;have h2:=zcO ps.toList vs _ _ h1 hpn;have e:(ps.zip vs.toArray).foldl (fun t (p,v)=>t.setIfInBounds p v) a.tmps=(ps.toList.zip vs).foldl (fun t (p,v)=>t.setIfInBounds p v) a.tmps:=by
     rw [<- Array.foldl_toList];simp
    rw [e];exact h2
   have hw:=za0 (zki hS _) assign _ _ W _ hag (hround (w.heap.size+1) pre x vs F W (by omega) hpre hj hst0 (fun k hk=>by have:=hgv0 k hk;omega) hf1 ⟨_,hl⟩);refine wpIn_mono hw ?_;rintro ex a1 Wa ⟨E1,hag1,rfl,F1,hk1,hj1,hbody⟩;have hla:=(hk1.same _ (hlt hl) hg1).trans hl;have hka:=(hk1.same _ (hlt hk) hg2).trans hk;have hfa1:¬ F1 (w.heap.size+1):=fun h=>by rcases hk1.fp _ h with h | h;exact hg1 h;have:=hlt hl;omega
   have hfa2:¬ F1 w.heap.size:=fun h=>by rcases hk1.fp _ h with h | h;exact hg2 h;have:=hlt hk;omega
   refine⟨_,run_beginRound hla (by rw [hrec]),?_⟩;have hst:StepG w.heap.size (fun _=>False) F1 Wa (Wa.putObj (w.heap.size+1) (.loop { rec .ready none with state := .busy })) := .put (by omega) hfa1 _;have hj2:=hJ.step _ _ _ _ hj1 hst;have hw2:=za0 (zki hS _) body _ _ _ _ hag1 (hbody _ _ rfl hj2);refine wpIn_mono hw2 ?_;have hl2:(Wa.putObj (w.heap.size+1) (.loop { rec .ready none with state := .busy })).heap[w.heap.size+1]?=some (.loop { rec .ready none with state := .busy }):=zb0 hla;have hk2:(Wa.putObj (w.heap.size+1) (.loop { rec .ready none with state := .busy })).heap[w.heap.size]?=some (.deferred (some [])):=(zai (by omega)).trans hka;rintro e a3 W3 ⟨E3,_,hq⟩
   cases e with
   | normal =>
    obtain⟨F3,hj3,hk3⟩:=hq;have hl3:=(hk3.same _ (hlt hl2) hfa1).trans hl2;have hd3:=(hk3.same _ (hlt hk2) hfa2).trans hk2;have hf31:¬ F3 (w.heap.size+1):=fun h=>by rcases hk3.fp _ h with h | h;exact hfa1 h;have:=hlt hl2;omega
    have hf32:¬ F3 w.heap.size:=fun h=>by rcases hk3.fp _ h with h | h;exact hfa2 h;have:=hlt hk2;omega
    have hr3:=run_endRound (P:=S.P) none hl3;have hl4:=zb0 (o' := .loop (rec .ready none)) hl3;have hk4:(W3.putObj (w.heap.size+1) (.loop (rec .ready none))).heap[w.heap.size]?=some (.deferred (some [])):=(zai (by omega)).trans hd3;have hs3:StepG w.heap.size (fun _=>False) F3 W3 (W3.putObj (w.heap.size+1) (.loop (rec .ready none))) := .put (by omega) hf31 _;have hj4:=hJ.step _ _ _ _ hj3 hs3;rw [hrec] at hr3 hl4 hk4 hs3 hj4;refine⟨_,_,hr3,rfl,F3,⟨hj4,by rw [hrec];exact hl4,hk4,hf31,hf32⟩,?_⟩;refine⟨hs3.os.trans (hk3.os.trans hk1.os),hs3.tape.trans (hk3.tape.trans hk1.tape),hs3.output.trans (hk3.output.trans hk1.output),?_,fun k hk5 hf5=>?_,fun k hk5=>?_⟩
    ·have h1:=hk1.size;have h2:=hst.size;have h3:=hk3.size;have h4:=hs3.size;exact Nat.le_trans (Nat.le_trans (Nat.le_trans h1 h2) h3) h4
    ·by_cases hkl:k=w.heap.size+1
     ·subst hkl;rw [hl,hrec];exact hl4
     ·have h1:¬ F1 k:=fun h=>by rcases hk1.fp _ h with h | h;exact hf5 h;omega
      have h2:=hk1.size;have h3:=hst.size;rw [zai hkl,hk3.same k (by omega) h1,zai hkl];exact hk1.same k hk5 hf5
    ·rcases hk3.fp _ hk5 with h2 | h2
     ·exact hk1.fp _ h2
     ·have h3:=hk1.size;have h4:=hst.size;exact .inr (by omega)
   | ret=>exact (show False from (by obtain⟨_,h,_⟩:=hq;exact h)).elim
   | exit id=>exact (show False from (by obtain⟨_,h,_⟩:=hq;exact h)).elim
   | goto t=>exact hq.elim
   | panic ch=>exact hq.elim
   | outgrown=>exact hq.elim
end Go.Vc
namespace Go.Proofs.YtlkofpbdpplfkaaGreatDoor
open Go.Vc Go.RowKit Go.Sei
abbrev zf5:=List NatL×Option Addr×Nat
def rnkE:Enc zf5 where
 sz:=1
 enc x:=[.slice x.2.1 x.1.length x.2.2]
 len x:=rfl
 one x v hv:=by
  simp at hv;subst hv;rfl
 pos:=by decide
structure MixM (Rd:Nat->Prop) (w:World) (b o:Nat) (m:MixD) (q:Option Addr) (c:Nat) (p1 p2 p3:Option Addr) (c1 c2 c3:Nat) (xs ys:List NatL):Prop where
 cells:zax w ⟨b,o,none⟩ (exC m.base q c++[.slice p1 m.rs.length c1,.slice p2 xs.length c2,.slice p3 ys.length c3])
 ev:SlR evE w q m.base.ev
 qn:q=none->c=0
 r1:SlR natE w p1 (m.rs.map (·.1))
 e2:xs.map (·.1)=m.rs.map (·.2)
 r2:SlR zbt w p2 xs
 n2:∀ y∈xs,SlR natE w y.2.1 y.1
 e3:ys.map (·.1)=m.wr
 r3:SlR zbt w p3 ys
 n3:∀ y∈ys,SlR natE w y.2.1 y.1
 db:Rd b
 dq:∀ a,q=some a->Rd a.block
 d1:∀ a,p1=some a->Rd a.block
 d2:∀ a,p2=some a->Rd a.block
 d3:∀ a,p3=some a->Rd a.block
 m2:∀ y∈xs,∀ a,y.2.1=some a->Rd a.block
 m3:∀ y∈ys,∀ a,y.2.1=some a->Rd a.block
theorem MixM.same {Rd:Nat->Prop} {w X:World} {b o:Nat} {m:MixD} {q:Option Addr} {c:Nat} {p1 p2 p3:Option Addr} {c1 c2 c3:Nat} {xs ys:List NatL} (h:MixM Rd w b o m q c p1 p2 p3 c1 c2 c3 xs ys) (hs:∀ k,Rd k->X.heap[k]?=w.heap[k]?):MixM Rd X b o m q c p1 p2 p3 c1 c2 c3 xs ys :=
 ⟨zaY (hs _ h.db) h.cells,za4 h.ev fun a ha=>hs _ (h.dq a ha),h.qn,za4 h.r1 fun a ha=>hs _ (h.d1 a ha),h.e2,za4 h.r2 fun a ha=>hs _ (h.d2 a ha),fun y hy=>za4 (h.n2 y hy) fun a ha=>hs _ (h.m2 y hy a ha),
  h.e3,za4 h.r3 fun a ha=>hs _ (h.d3 a ha),fun y hy=>za4 (h.n3 y hy) fun a ha=>hs _ (h.m3 y hy a ha),h.db,h.dq,h.d1,h.d2,h.d3,h.m2,h.m3⟩
theorem zfE {w:World} {b o:Nat} {x:ExD} {q:Option Addr} {c:Nat} {S:List Value} (h:zax w ⟨b,o,none⟩ (exC x q c++S)) {i:Nat} {v:Value} (hi:S[i]?=some v):w.cell? ⟨b,o+(333+i),none⟩=some v:=zac h (zg0 hi)
theorem appR {B c:Nat} {V1:World} {p:Option Addr} {l:List zf5} {y:zf5} {a:Addr} (ho:OwnS rnkE 151 B V1 p c l) (ha:zax V1 a ([y].flatMap rnkE.enc)) (hB:B<=V1.heap.size) (hl:l.length<=100000) {K:Value->World->Prop}
  (h:∀ p' c' w',OwnS rnkE 151 B w' p' c' (l++[y])->V1.grownBy w' (p.map Addr.block)->(∀ a,p'=some a->p=some a\/a.block=V1.heap.size)->K (.slice p' (l++[y]).length c') w') :
  SatR ((Builtin.append_ #[221,221] 221 #[.slice p l.length c,.slice (some a) 1 1]).run Tryz.prog V1) K :=
 zbi (E:=rnkE) (T:=151) (B:=B) (l:=l) (news:=[y]) (cap:=c) (m:=1) Tryz.underlying221 k151 rfl rfl rfl ho rfl ha hB (by omega) (by show (l.length+1)*24<=_;omega) fun p' c' w' a1 a2 _ a4=>h p' c' w' a1 (by rw [zb9] at a2;exact a2) a4
structure CanS (B:Nat) (Z:World) (yl L R:Nat) (ss:List Nat) (ps:Option Addr) (cs:Nat) (zs:List zf5) (pr:Option Addr) (cr:Nat):Prop where
 fL:Z.heap[L]?=some (.cells #[.func (.yield yl) #[] #[]] 160 (0,0))
 fR:Z.heap[R]?=some (.cells #[.slice pr zs.length cr] 221 (0,0))
 own:OwnS natE 3 B Z ps cs ss
 rk:OwnS rnkE 151 B Z pr cr zs
 n1:∀ z∈zs,OwnS zbt 150 B Z z.2.1 z.2.2 z.1
 n2:∀ z∈zs,∀ y∈z.1,OwnS natE 3 B Z y.2.1 y.2.2 y.1
 dis:∀ z∈zs,∀ y∈z.1,∀ a b,ps=some a->y.2.1=some b->a.block≠b.block
theorem CanS.below {B:Nat} {Z Y:World} {yl L R:Nat} {ss:List Nat} {ps:Option Addr} {cs:Nat} {zs:List zf5} {pr:Option Addr} {cr:Nat} (h:CanS B Z yl L R ss ps cs zs pr cr) (hb:Bw Z Y):CanS B Y yl L R ss ps cs zs pr cr :=
 ⟨zab hb h.fL,zab hb h.fR,h.own.below hb,h.rk.below hb,fun z hz=>(h.n1 z hz).below hb,fun z hz y hy=>(h.n2 z hz y hy).below hb,h.dis⟩
theorem CanS.size {B:Nat} {Z Y:World} {yl L R:Nat} {ss:List Nat} {ps:Option Addr} {cs:Nat} {zs:List zf5} {pr:Option Addr} {cr:Nat} (h:CanS B Z yl L R ss ps cs zs pr cr) {ps':Option Addr} {cs' n:Nat} (ho:OwnS natE 3 B Y ps' cs' (ss++[n])) (g:Z.grownBy Y (ps.map Addr.block)) (hat:∀ a,ps'=some a->ps=some a\/a.block=Z.heap.size):CanS B Y yl L R (ss++[n]) ps' cs' zs pr cr :=
 ⟨zaM h.fL h.own (by decide) g,zaM h.fR h.own (by decide) g,ho,zbF h.rk h.own (by decide) g,fun z hz=>zbF (h.n1 z hz) h.own (by decide) g,fun z hz y hy=>zd7 (h.n2 z hz y hy) g fun a b ha hb=>h.dis z hz y hy a b ha hb,fun z hz y hy a b ha hb=>by
  rcases hat a ha with h1 | h1
  ·exact h.dis z hz y hy a b h1 hb
  ·have:=(zas (h.n2 z hz y hy) hb).2.1;omega⟩
theorem zlx {ds:List Nat}:∀ {rs:List (Nat×List Nat)} {ds:List Nat} {f:Nat->Nat},WrdR f->(∀ r∈rs,r.1<48)->WrdR (rfF rs ds f)
 | [],_,_,h,_=>h
 | (r,s)::rs,ds,f,h,hr=>by
  have h1:=hr (r,s) List.mem_cons_self;refine zlx (rs:=rs) (ds:=ds.tail) (f:=upd f (s.getD (ds.headD 0) 0) (f (s.getD (ds.headD 0) 0)|||2^r)) ?_ fun x hx=>hr x (List.mem_cons_of_mem _ hx);intro j hj;by_cases e:j=s.getD (ds.headD 0) 0
  ·rw [e,zbd];exact Nat.or_lt_two_pow (by rw [<- e];exact h j hj) (zaF (by have:r<48:=h1;omega))
  ·rw [zcx _ _ e];exact h j hj
theorem zmC {ev:List Ev}:∀ {Rs:List (List (List Nat))} {l:Nat} {ds:List Nat} {p:RelD×(Nat->UInt8)},WrdR p.1.to->(∀ R∈Rs,∀ k∈R,∀ a∈k,a<48)->WrdR (coG ev l Rs ds p).1.to
 | [],_,_,_,h,_=>h
 | R::Rs,l,ds,p,h,hr=>by
  refine zmC (Rs:=Rs) (l:=l+1) (ds:=ds.tail) (p:=(zdd (R.getD (ds.headD 0) []) p.1,_)) ?_ fun x hx=>hr x (List.mem_cons_of_mem _ hx);refine zhS h fun a ha=>?_;rw [gDe] at ha
  cases hg:R[ds.headD 0]? with
  | none=>rw [hg] at ha;cases ha
  | some k =>
   rw [hg] at ha;exact hr R List.mem_cons_self k (List.mem_of_getElem? hg) a ha
section
variable (x:ExD) (q:Option Addr) (c:Nat)
theorem zoK:∃ A Z,A.length=50/\∀ r,exC { x with rf:=r } q c=A++(relC r++Z):=by
 obtain⟨A,Z,h1,h2⟩:=zra x q c [];exact⟨A,Z,h1,fun r=>by rw [<- h2,List.append_nil]⟩
theorem zmg:∃ A Z,A.length=99/\∀ r,exC { x with co:=r } q c=A++(relC r++Z):=by
 obtain⟨A,Z,h1,h2⟩:=zrd x q c [];exact⟨A,Z,h1,fun r=>by rw [<- h2,List.append_nil]⟩
theorem zpV {l:Nat} (hl:l<6) (v:UInt8):(exC x q c).set (327+l) (u8 v)=exC { x with mem:=upd x.mem l v } q c:=by
 obtain⟨A,Z,h1,h2⟩:=zoJ x q c [];have e1:=h2 x.mem;have e2:=h2 (upd x.mem l v);rw [List.append_nil] at e1 e2;rw [e2];show (exC { x with mem:=x.mem } q c).set _ _=_;rw [e1,zbA h1];have e3:=zfm (B:=Z) (f:=fun i=>u8 (x.mem i)) (fun i=>u8 (upd x.mem l v i)) hl (fun j hj=>by rw [zcx _ _ hj]);rw [<- e3,zbd]
theorem zrf (l:List Ev) (q':Option Addr) (c':Nat):(exC x q c).set 0 (.slice q' l.length c')=exC { x with ev:=l } q' c':=rfl
end
abbrev exE3:=ExD×Option Addr×Nat
def exE:Enc exE3:=⟨fun x=>exC x.1 x.2.1 x.2.2,333,fun _=>zaC ..,by decide,fun a u hu=>List.all_eq_true.1 (zde ..) u hu⟩
abbrev ExH (X:World) (b:Nat) (x:ExD) (q:Option Addr) (c:Nat):Prop:=X.heap[b]?=some (.cells (exC x q c).toArray 104 (0,0))
def StX (B:Nat) (pre:List ExD) (vs:List Value) (W:World):Prop:=∃ x q c,pre.getLast?=some x/\vs=[.agg (exC x q c).toArray]/\OwnS evE 225 B W q c x.ev
def GvX (vs:List Value) (k:Nat):Prop:=∃ (x:ExD) (a:Addr) (c:Nat),vs=[.agg (exC x (some a) c).toArray]/\k=a.block
theorem zkq {xs:List NatL} {rs:List (Nat×List Nat)} (h:xs.map (·.1)=rs.map (·.2)):xs.map (·.1.length)=rs.map fun r=>r.2.length:=by
 have:=congrArg (List.map List.length) h;rw [List.map_map,List.map_map] at this;exact this
theorem ziw {zs:List zf5} {ws:List (List Nat)} (h:zs.map (fun z=>z.1.map (·.1))=ws.map zcF):zs.map (·.1.length)=ws.map fun w=>(zcF w).length:=by
 have:=congrArg (List.map List.length) h;rw [List.map_map,List.map_map] at this;rw [<- show zs.map (List.length ∘ fun z:zf5=>z.1.map (·.1))=zs.map (·.1.length) from List.map_congr_left fun z _=>List.length_map _];exact this
section
variable {Rd:Nat->Prop} {W0:World} {bx b o:Nat} {m:MixD} {q:Option Addr} {c:Nat} {p1 p2 p3:Option Addr} {c1 c2 c3:Nat} {xs ys:List NatL}
theorem zqg (hM:MixM Rd W0 b o m q c p1 p2 p3 c1 c2 c3 xs ys) (fx:W0.heap[bx]?=some (.cells #[.pointer (some ⟨b,o,none⟩)] 220 (0,0))) (hbx:Rd bx) (hRd:∀ k,Rd k->k<W0.heap.size) (hT:Tz64M W0) (hRt:Rd 8) (hB:MixB m) (hev:m.base.ev.length<=48) :
  zqx Tryz.prog 145 [At0 bx] (zgF m) W0 Rd (StX W0.heap.size) GvX:=by
 intro yl F0 J W hsz hrd hrf hJ hy h0;refine cofM 141 [.func (.yield yl) #[] #[],At0 bx] (.c .p (.s .p (.c .p (.c .p (.c .p (.s .p .p)))))) Tryz.func145 ?_;have hMW:=hM.same hrd;have fxW:=(hrd bx hbx).trans fx;have hTW:Tz64M W:=zbD hT (hrd _ hRt);have hRW:∀ k,Rd k->k<W.heap.size:=fun k hk=>by have:=hRd k hk;omega
 obtain⟨L,hL⟩:=nm (W.heap.size);have hxl:xs.length=m.rs.length:=by have:=congrArg List.length hM.e2;simpa using this
 have hyl:ys.length=m.wr.length:=by have:=congrArg List.length hM.e3;simpa using this
 have hrl48:=hB.rl;have hwl6:=hB.wl;have hx1:∀ y∈xs,y.1.length<=1000:=fun y hy=>by
  have:y.1∈m.rs.map (·.2):=by rw [<- hM.e2];exact List.mem_map.2 ⟨y,hy,rfl⟩
  obtain⟨r,hr,he⟩:=List.mem_map.1 this;rw [<- he];exact (hB.rs r hr).2.1
 refine⟨Unit,fun _=>⟨[(1,At0 bx),(2,At0 L)],[]⟩,fun _ X=>X.heap[L]?=some (.cells #[.func (.yield yl) #[] #[]] 160 (0,0))/\X.heap.size=L+1/\Bw W X,?_,?_⟩
 ·exact⟨(),⟨.cons rfl (.cons (by rw [hL];rfl) .nil),rfl⟩,by rw [hL];exact hnew W _,by rw [hL];exact wz _ _,(zba W _)⟩
 rintro _ X ⟨fL,sX,hbX⟩;refine⟨Option Addr×Nat,fun s=>⟨[(1,At0 bx),(2,At0 L),(3,.slice s.1 (xs.map (·.1.length)).length s.2)],[]⟩,fun s Z=>OwnS natE 3 W.heap.size Z s.1 s.2 (xs.map (·.1.length))/\Z.heap[L]?=some (.cells #[.func (.yield yl) #[] #[]] 160 (0,0))/\Bw W Z,?_,?_⟩
 ·refine⟨_,zac (zaa (zab hbX fxW)) (i:=0) rfl,?_⟩;refine⟨_,zfE (hMW.same fun k hk=>hbX.block k (hRW k hk)).cells (i:=1) rfl,?_⟩;refine⟨Nat×Option Addr×Nat,fun s=>⟨[(1,At0 bx),(2,At0 L),(3,.slice s.2.1 ((xs.take s.1).map (·.1.length)).length s.2.2),(20,.slice p2 xs.length c2),(21,i64 xs.length),(22,i64 (s.1:Nat))],[]⟩,
   fun s Z=>s.1<=xs.length/\OwnS natE 3 W.heap.size Z s.2.1 s.2.2 ((xs.take s.1).map (·.1.length))/\Z.heap[L]?=some (.cells #[.func (.yield yl) #[] #[]] 160 (0,0))/\Bw W Z,fun s=>xs.length-s.1,(0,none,0),
   (cvE rfl rfl),⟨Nat.zero_le _,OwnS.nil,fL,hbX⟩,?_⟩
  rintro⟨k,ps,cs⟩ Z ⟨hk,ho,fL,hbZ⟩;dsimp only at hk ho ⊢;refine biE (fun hc=>?_) fun hc=>?_
  ·have hc:(k:Int)<(xs.length:Int):=dT hc;have hkl:k<xs.length:=by omega
   have hZM:=hMW.same fun k hk=>hbZ.block k (hRW k hk);obtain⟨x,hx⟩:∃ x,xs[k]=x:=⟨_,rfl⟩;obtain⟨bp,op,hpe,hlp,hat⟩:=hZM.r2.at hkl;subst hpe;refine⟨k,rfl,hkl,?_⟩;refine⟨slV x,by rw [<- hx];exact zac (hat k hkl) (i:=0) rfl,?_⟩;refine⟨⟨by decide,by decide,rfl⟩,natE.enc x.1.length,rfl,?_⟩;have hb1:Bw Z (Z.alloc (.cells (natE.enc x.1.length).toArray 3)):=zba _ _;have hZs:=hbZ.size;have htl:((xs.take k).map (·.1.length)).length=k:=by rw [List.length_map,List.length_take];omega
   have htk:(xs.take (k+1)).map (·.1.length)=(xs.take k).map (·.1.length)++[x.1.length]:=by
    rw [tsg hkl,List.map_append,hx];rfl
   unfold opsE zcr;show SatR _ _;refine appI (ho.below hb1) (zaW natE x.1.length) (by have:=hb1.size;omega) (by have:=hB.rl;omega) fun p' c' U oU gU hat1=>?_;rw [zb9] at gU;rw [<- htk] at oU ⊢;have fU:=zaM (zab hb1 fL) (ho.below hb1) (by decide) gU;refine nxI (by omega) ?_;exact⟨(k+1,p',c'),(cvE rfl rfl),⟨hkl,oU,fU,hbZ.trans ((hb1.mono hZs).trans (zaX (ho.below hb1) (by have:=hb1.size;omega) (Nat.le_refl _) gU))⟩,zdc (by omega)⟩
  ·have hc:¬ (k:Int)<(xs.length:Int):=dF hc;obtain rfl:k=xs.length:=by omega
   rw [List.take_length] at ho ⊢;exact⟨(ps,cs),(cvE rfl rfl),ho,fL,hbZ⟩
 clear fL sX hbX;rintro⟨ps,cs⟩ X ⟨ho,fL,hbX⟩;dsimp only at ho ⊢;refine⟨Nat,fun R=>⟨[(1,At0 bx),(2,At0 L),(3,.slice ps (xs.map (·.1.length)).length cs),(6,At0 R)],[]⟩,fun R Z=>CanS W.heap.size Z yl L R (xs.map (·.1.length)) ps cs [] none 0/\L<R/\Bw W Z,?_,?_⟩
 ·refine⟨X.heap.size,(cvE rfl rfl),⟨hold _ fL,hnew X _,ho.alloc _,OwnS.nil,fun z hz=>(by cases hz),fun z hz=>(by cases hz),fun z hz=>(by cases hz)⟩,hlt fL,hbX.alloc hbX.size _⟩
 clear ho fL hbX;rintro R X ⟨hS,hLR,hbX⟩;refine⟨(List zf5×Option Addr×Nat)×Option Addr×Nat,fun s=>⟨[(1,At0 bx),(2,At0 L),(3,.slice s.2.1 (zc2 m).length s.2.2),(6,At0 R)],[]⟩,fun s Z=>CanS W.heap.size Z yl L R (zc2 m) s.2.1 s.2.2 s.1.1 s.1.2.1 s.1.2.2/\s.1.1.map (fun z=>z.1.map (·.1))=m.wr.map zcF/\Bw W Z,?_,?_⟩
 ·refine⟨_,zac (zaa (zab hbX fxW)) (i:=0) rfl,?_⟩;refine⟨_,zfE (hMW.same fun k hk=>hbX.block k (hRW k hk)).cells (i:=2) rfl,?_⟩;refine⟨Nat×(List zf5×Option Addr×Nat)×Option Addr×Nat,fun s=>⟨[(1,At0 bx),(2,At0 L),(3,.slice s.2.2.1 (xs.map (·.1.length)++s.2.1.1.map (·.1.length)).length s.2.2.2),(6,At0 R),(35,.slice p3 ys.length c3),(36,i64 ys.length),(37,i64 (s.1:Nat))],[]⟩,
   fun s Z=>s.1<=ys.length/\CanS W.heap.size Z yl L R (xs.map (·.1.length)++s.2.1.1.map (·.1.length)) s.2.2.1 s.2.2.2 s.2.1.1 s.2.1.2.1 s.2.1.2.2/\s.2.1.1.map (fun z=>z.1.map (·.1))=(ys.take s.1).map (fun y=>zcF y.1)/\Bw W Z,fun s=>ys.length-s.1,(0,([],none,0),ps,cs),
   ⟨.cons rfl (.cons rfl (.cons (by simp;rfl) (.cons rfl (.cons rfl (.cons rfl (.cons rfl .nil)))))),rfl⟩,⟨Nat.zero_le _,by simpa using hS,rfl,hbX⟩,?_⟩
  clear hS hbX;rintro⟨k,⟨zs,pr,cr⟩,ps,cs⟩ Z ⟨hk,hS,hz,hbZ⟩;dsimp only at hk hS hz ⊢;have hzl:zs.length=k:=by
   have:=congrArg List.length hz;rw [List.length_map,List.length_map,List.length_take] at this;omega
  refine biE (fun hc=>?_) fun hc=>?_
  ·have hc:(k:Int)<(ys.length:Int):=dT hc;have hkl:k<ys.length:=by omega
   have hZM:=hMW.same fun k hk=>hbZ.block k (hRW k hk);obtain⟨y,hyk⟩:∃ y,ys[k]=y:=⟨_,rfl⟩;have hym:y∈ys:=by rw [<- hyk];exact gM hkl
   have hyw:y.1∈m.wr:=by rw [<- hM.e3];exact List.mem_map.2 ⟨y,hym,rfl⟩
   obtain⟨bw1,bw2,bw3⟩:=hB.wr _ hyw;obtain⟨bp,op,hpe,hlp,hat⟩:=hZM.r3.at hkl;subst hpe;refine⟨k,rfl,hkl,?_⟩;refine⟨slV y,by rw [<- hyk];exact zac (hat k hkl) (i:=0) rfl,?_⟩;refine cmo (znC (hZM.n3 y hym) bw1 (zbD hTW (hbZ.block _ (hRW _ hRt)))) ?_;rintro e Y ⟨⟨rk,pk,ck,rfl,hrk,ork,onk⟩,hbY⟩;have hZs:=hbZ.size;have hSY:=hS.below hbY;have hrkl:rk.length<=10000:=by rw [<- hrk,List.length_map] at bw2;exact bw2
   obtain⟨nz,hnz⟩:∃ nz:zf5,nz=(rk,pk,ck):=⟨_,rfl⟩;have hen:[Value.slice pk rk.length ck]=rnkE.enc nz:=by rw [hnz];rfl
   refine⟨_,zac (zaa hSY.fR) (i:=0) rfl,?_⟩;refine⟨⟨by decide,by decide,rfl⟩,rnkE.enc nz,by rw [<- hen];rfl,?_⟩;have hb1:Bw Y (Y.alloc (.cells (rnkE.enc nz).toArray 151)):=zba _ _;have hS1:=hSY.below hb1;have ork1:=ork.below hb1;have onk1:=fun x hx=>(onk x hx).below hb1;unfold opsE zcr;show SatR _ _;refine appR hS1.rk (zaW rnkE nz) (by have:=hb1.size;have:=hbY.size;omega) (by have:=hB.wl;omega) fun p' c' U oU gU hat1=>?_;have fLU:=zaM hS1.fL hS1.rk (by decide) gU;have fRU:=zaM hS1.fR hS1.rk (by decide) gU;refine zal k221 fRU (o:=0) (v := .slice p' (zs++[nz]).length c') rfl rfl (by show 0<1;decide) rfl fun S fS gS sS=>?_;have hbZY:=hbZ.trans (hbY.mono hZs);have sY:=hbY.size;have sb1:=hb1.size;have hbU:Bw W U:=(hbZY.trans (hb1.mono (by omega))).trans (zaX hS1.rk (by omega) (Nat.le_refl _) gU);have hRn:W.heap.size<=R:=by omega
   have hbS:Bw W S:=hbU.trans (zak gS hbU.size hRn);have hSS:CanS W.heap.size S yl L R (xs.map (·.1.length)++zs.map (·.1.length)) ps cs (zs++[nz]) p' c':=by
    have kU:∀ {α:Type} {E:Enc α} {T cc:Nat} {r:Option Addr} {ll:List α},T≠151->T≠221->OwnS E T W.heap.size (Y.alloc (.cells (rnkE.enc nz).toArray 151)) r cc ll->OwnS E T W.heap.size S r cc ll:=fun {α E T cc r ll} h1 h2 h=>zaQ (zbF h hS1.rk h1 gU) fRU h2 gS;refine⟨(gS.block L (hlt fLU) (by simp;omega)).trans fLU,fS,kU (by decide) (by decide) hS1.own,zaQ oU fRU (by decide) gS,fun z hz=>?_,fun z hz=>?_,fun z hz=>?_⟩
    ·rcases List.mem_append.1 hz with hz | hz
     ·exact kU (by decide) (by decide) (hS1.n1 z hz)
     ·rw [List.mem_singleton.1 hz,hnz];exact kU (by decide) (by decide) (ork1.lower hZs)
    ·rcases List.mem_append.1 hz with hz | hz
     ·exact fun x hx=>kU (by decide) (by decide) (hS1.n2 z hz x hx)
     ·rw [List.mem_singleton.1 hz,hnz];exact fun x hx=>kU (by decide) (by decide) ((onk1 x hx).lower hZs)
    ·rcases List.mem_append.1 hz with hz | hz
     ·exact hS1.dis z hz
     ·rw [List.mem_singleton.1 hz,hnz];intro x hx a b ha hb;have:=(zas (onk x hx) hb).1;have:=(zas hS.own ha).2.1;omega
   clear hS1 ork1 onk1 hSY hS oU gU hat1 fLU fRU fS gS;refine⟨⟨by decide,by decide,rfl⟩,natE.enc rk.length,rfl,?_⟩;have hb2:Bw S (S.alloc (.cells (natE.enc rk.length).toArray 3)):=zba _ _;have hS2:=hSS.below hb2;have sbS:=hbS.size;have sb2:=hb2.size;unfold opsE zcr;show SatR _ _;refine appI hS2.own (zaW natE rk.length) (by omega) (by rw [lap,List.length_map,List.length_map];have:=hB.rl;have:=hB.wl;omega) fun p2' c2' V oV gV hat2=>?_;rw [zb9] at gV;have hSV:=hS2.size oV gV hat2;have hzz:(xs.map (·.1.length)++zs.map (·.1.length))++[rk.length]=xs.map (·.1.length)++(zs++[nz]).map (·.1.length):=by
    rw [List.map_append,List.append_assoc,hnz];rfl
   rw [hzz] at hSV ⊢;refine nxI (by omega) ?_;refine⟨(k+1,(zs++[nz],p',c'),p2',c2'),(cvE rfl rfl),⟨hkl,hSV,?_,hbS.trans ((hb2.mono sbS).trans (zaX hS2.own (by omega) (Nat.le_refl _) gV))⟩,zdc (by omega)⟩;rw [tsg hkl,hyk,List.map_append,List.map_append,hz,hnz];show _++[rk.map (·.1)]=_++[zcF y.1];rw [hrk]
  ·have hc:¬ (k:Int)<(ys.length:Int):=dF hc;obtain rfl:k=ys.length:=by omega
   have hz2:zs.map (fun z=>z.1.map (·.1))=m.wr.map zcF:=by
    rw [List.take_length] at hz;rw [hz,<- hM.e3,List.map_map];rfl
   have hsz2:xs.map (·.1.length)++zs.map (·.1.length)=zc2 m:=by
    rw [zkq hM.e2,ziw hz2];rfl
   rw [hsz2] at hS ⊢;exact⟨((zs,pr,cr),ps,cs),(cvE rfl rfl),hS,hz2,hbZ⟩
 clear hS hbX;rintro⟨⟨zs,pr,cr⟩,ps,cs⟩ V ⟨hS,hz,hbV⟩;dsimp only at hS hz ⊢;have hVs:=hbV.size;have hMV:=hMW.same fun k hk=>hbV.block k (hRW k hk);have fxV:=zab hbV fxW;have hsl1:(zc2 m).length<=1000:=by
  unfold zc2;rw [lap,List.length_map,List.length_map];omega
 have hsl2:∀ n∈zc2 m,n<=1000000:=fun n hn=>by
  unfold zc2 at hn;rcases List.mem_append.1 hn with hn | hn
  ·obtain⟨r,hr,rfl⟩:=List.mem_map.1 hn;have:=(hB.rs r hr).2.1;omega
  ·obtain⟨w,hw,rfl⟩:=List.mem_map.1 hn;have:=(hB.wr w hw).2.1;omega
 refine cmo zoy ?_;rintro e V1 ⟨rfl,fo,sV1,hbV1⟩;have hI:=zqU fo (hS.own.row.below hbV1) (fun a ha=>by have:=(zas hS.own ha).2.1;omega) hsl1 hsl2;obtain⟨Kp,hKp⟩:∃ Kp:(Nat->Prop)->World->Prop,Kp=fun F Y=>V1.heap.size<=Y.heap.size/\∀ k,k<V.heap.size->(Rd k\/W.heap.size<=k)->Y.heap[k]?=V.heap[k]?/\¬ F k:=⟨_,rfl⟩;have hF0:∀ k,F0 k->k<W.heap.size:=fun k hk=>(hJ.lt _ _ _ _ h0 hk).1;have hLV:=hlt hS.fL;have hRV:=hlt hS.fR;have hb1:Bw W V1:=hbV.trans (hbV1.mono hVs);refine zeQ (sgOk _) rfl (lb := #[At0 V.heap.size]) rfl rfl hI (Nat.le_refl _) (fun k hk=>⟨?_,rfl⟩) (fun pre vs W ⟨l,q,_,h,_⟩=>by rw [h];rfl) (by decide)
  F0 (fun pre F Y=>J (pre.map (zc5 m)) F Y/\Kp F Y) (fun _ _ _ _=>False) (fun k hk=>?_) ⟨?_,?_⟩ (fun ex=>⟨fun _ _ _ _ h=>h.elim,fun _ _ _ _ h=>h.elim⟩) ⟨hJ.step _ _ _ _ h0 (.below hb1),?_⟩ ?_ ?_ ?_
 ·rcases hk with (rfl | ⟨a,ha,rfl⟩) | h
  ·omega
  ·have:=(zas hS.own ha).2.1;omega
  ·exact h.elim
 ·rcases hk with rfl | ⟨a,ha,rfl⟩
  ·intro h;have:=hF0 _ h;omega
  ·intro h;have:=hF0 _ h;have:=(zas hS.own ha).1;omega
 ·rintro pre F A C ⟨hj,hk⟩ hs;rw [hKp] at hk ⊢;have hss:=hs.size;exact⟨hJ.step _ _ _ _ hj (hs.mono (by omega)),Nat.le_trans hk.1 hss,fun k h1 h2=>⟨(hs.same k (by have:=hk.1;omega) (.inl ⟨by omega,fun h=>h⟩)).trans (hk.2 k h1 h2).1,(hk.2 k h1 h2).2⟩⟩
 ·rintro pre F A k ⟨hj,_⟩ hk;exact hJ.lt _ _ _ _ hj hk
 ·rw [hKp];refine⟨Nat.le_refl _,fun k h1 h2=>⟨hbV1.block k h1,fun h=>?_⟩⟩;rcases h2 with h2 | h2
  ·exact hrf k h2 h
  ·have:=hF0 k h;omega
 ·rintro yl2 pre ds vs F Y hyl hpre hJ0 ⟨l,qd,hlast,rfl,hsl,hcel⟩ hfy ⟨lo,hlo⟩;have hdx:ds=l:=by simpa using hlast
  subst hdx;refine⟨rfl,F,KeepsG.refl _ _,hJ0,?_⟩;rintro O Y2 hY2 ⟨hj,hkp⟩;rw [hKp] at hkp;obtain⟨hY2s,hkp⟩:=hkp;have hkq:=hkp;have hslY:SlR natE Y2 qd ds:=by
   rw [hY2];refine za4 hsl fun a ha=>zai fun e=>?_;obtain⟨cur,hcur⟩:=hcel a ha;rw [e,hlo] at hcur
   cases hcur
  obtain⟨hdl,hdlt⟩:=zmr (hpre.subset (List.mem_append_right _ (List.mem_singleton.2 rfl)));have hdl2:ds.length=m.rs.length+m.wr.length:=by
   rw [hdl];unfold zc2;rw [lap,List.length_map,List.length_map]
  have hMY:MixM Rd Y2 b o m q c p1 p2 p3 c1 c2 c3 xs ys:=hMV.same fun k hk=>(hkp k (by have:=hRW k hk;omega) (.inl hk)).1;have fxY:=(hkp bx (by have:=hRW bx hbx;omega) (.inl hbx)).1.trans fxV;have fLY:=(hkp L hLV (.inr (by omega))).1.trans hS.fL;have fRY:=(hkp R hRV (.inr (by omega))).1.trans hS.fR;have kR:∀ {α:Type} {E:Enc α} {T cc:Nat} {r:Option Addr} {ll:List α},OwnS E T W.heap.size V r cc ll->OwnS E T W.heap.size Y2 r cc ll:=fun {α E T cc r ll} h=>h.same fun a ha=>(hkp _ (zas h ha).2.1 (.inr (zas h ha).1)).1;have rkY:=kR hS.rk;have n1Y:=fun z hz=>kR (hS.n1 z hz);have n2Y:=fun z hz y hy=>kR (hS.n2 z hz y hy);clear hkp hlo hcel hsl;have hbY:b<Y2.heap.size:=by have:=hRW b hM.db;omega
  refine⟨_,zac (zaa fxY) (i:=0) rfl,?_⟩;have hbase:zax Y2 ⟨b,o,none⟩ (exC m.base q c):=by
   have:=zaw (n:=0) (m:=333) hMY.cells;rw [List.drop_zero,List.take_append_of_le_length (by rw [zaC];decide),List.take_of_length_le (by rw [zaC];decide)] at this;exact this
  refine⟨exC m.base q c,zaC _ _ _,hbase,hbY,?_⟩;obtain⟨M,hMM⟩:=nm (Y2.heap.size);refine zap (X:=Y2) (v := .agg (exC m.base q c).toArray) k104 (zaC _ _ _) zcw (zde _ _ _) fun Z hbZ fZ sZ=>?_;have fZ:ExH Z Y2.heap.size m.base q c:=fZ;rw [<- hMM] at fZ ⊢;refine⟨_,zac (zaa fZ) (i:=0) rfl,?_⟩;refine cmo (zie (hMY.ev.below hbZ) (by omega) hMY.qn) ?_;rintro e Z2 ⟨⟨q1,k1,rfl,oE⟩,hbZ2⟩;refine zal k98 (zab hbZ2 fZ) (o:=0+0) (v := .slice q1 m.base.ev.length k1) rfl rfl (by rw [zaC];decide) rfl fun S fS gS sS=>?_;rw [show 0+0=0 from rfl,zrf] at fS;have hMZ2:M<Z2.heap.size:=by have:=hbZ2.size;omega
  have hbS:Bw Y2 S:=((zst hbZ hbZ2)).trans (zak gS (by omega) (by omega));have oES:OwnS evE 225 Y2.heap.size S q1 k1 m.base.ev:=zaQ (oE.lower hbZ.size) (zab hbZ2 fZ) (by decide) gS;clear oE gS sS fZ hbZ hbZ2;have tMY:∀ {S:World},Bw Y2 S->MixM Rd S b o m q c p1 p2 p3 c1 c2 c3 xs ys:=fun {S} hb=>hMY.same fun k hk=>hb.block k (by have:=hRW k hk;omega);have hxlen:=hxl;refine⟨_,zac (zaa (zab hbS fxY)) (i:=0) rfl,?_⟩;refine⟨_,zfE (tMY hbS).cells (i:=0) rfl,?_⟩;refine⟨Nat,fun k=>⟨[(1,At0 bx),(2,At0 L),(6,At0 R),(10,.slice qd ds.length ds.length),(11,At0 M),(67,.slice p1 m.rs.length c1),(68,i64 m.rs.length),(69,i64 (k:Nat))],[]⟩,
   fun k Z=>k<=m.rs.length/\ExH Z M { m.base with rf:=⟨m.base.rf.n,rfF (m.rs.take k) ds m.base.rf.to⟩ } q1 k1/\OwnS evE 225 Y2.heap.size Z q1 k1 m.base.ev/\Bw Y2 Z,fun k=>m.rs.length-k,0,
   (cvE rfl rfl),⟨Nat.zero_le _,fS,oES,hbS⟩,?_⟩
  clear fS oES hbS;rintro k Z ⟨hk,fZ,oE,hbZ⟩;refine biE (fun hc=>?_) fun hc=>?_
  ·have hc:(k:Int)<(m.rs.length:Int):=dT hc;have hkl:k<m.rs.length:=by omega
   have hZM:=tMY hbZ;have hZs:=hbZ.size;obtain⟨⟨r,s⟩,hrs⟩:∃ x,m.rs[k]=x:=⟨_,rfl⟩;obtain⟨hr48,hs1,hs48⟩:=hB.rs (r,s) (by rw [<- hrs];exact gM hkl);dsimp only at hr48 hs1 hs48;have hkx:k<xs.length:=by omega
   obtain⟨y,hyk⟩:∃ y,xs[k]=y:=⟨_,rfl⟩;have hym:y∈xs:=by rw [<- hyk];exact gM hkx
   have hys:y.1=s:=by
    have h1:(xs.map (·.1))[k]?=some y.1:=(by rw [List.getElem?_map,gE hkx,hyk];rfl);rw [hM.e2,List.getElem?_map,gE hkl,hrs] at h1;exact (Option.some.inj h1).symm
   obtain⟨d,hd⟩:∃ d,ds[k]?=some d:=⟨_,gE (by omega)⟩;have hkd:k<ds.length:=by omega
   have hde:ds[k]=d:=by rw [gE hkd] at hd;exact Option.some.inj hd
   have hdlt2:d<y.1.length:=by
    refine hdlt k _ d ?_ hd;unfold zc2;rw [List.getElem?_append_left (by rw [List.length_map];exact hkl),List.getElem?_map,gE hkl,hrs,hys];rfl
   have hdlt3:d<s.length:=by rw [<- hys];exact hdlt2
   obtain⟨t,ht⟩:∃ t,y.1[d]=t:=⟨_,rfl⟩;have hts:s[d]=t:=by
    have h1:y.1[d]?=some t:=(by rw [gE hdlt2,ht]);rw [hys,gE hdlt3] at h1;exact Option.some.inj h1
   have ht48:t<48:=hs48 t (by rw [<- hts];exact gM hdlt3);have hgt:s.getD (ds.getD k 0) 0=t:=by
    rw [gDe,gDe,hd];show (s[d]?).getD 0=t;rw [gE hdlt3,hts];rfl
   have htk:rfF (m.rs.take (k+1)) ds m.base.rf.to=upd (rfF (m.rs.take k) ds m.base.rf.to) t (rfF (m.rs.take k) ds m.base.rf.to t|||2^r):=by
    rw [tsg hkl,hrs,zjr,List.length_take,Nat.min_eq_left hk,hgt]
   obtain⟨G,hG⟩:=nm (rfF (m.rs.take k) ds m.base.rf.to);have hGw:WrdR G:=by
    rw [hG];exact zlx (ds:=[]) hB.rf fun r hr=>(hB.rs r (List.mem_of_mem_take hr)).1
   rw [<- hG] at fZ htk;obtain⟨A,T,hA,hE⟩:=zoK { m.base with rf:=⟨m.base.rf.n,G⟩ } q1 k1;have hRel:RelAt Z M 50 104 A T ⟨m.base.rf.n,G⟩:=⟨hA,by rw [<- hE];exact fZ⟩;have hr1:k<(m.rs.map (·.1)).length:=by rw [List.length_map];exact hkl
   obtain⟨b1,o1,hp1,hl1,hat1⟩:=hZM.r1.at hr1;obtain⟨b2,o2,hp2,hl2,hat2⟩:=hZM.r2.at hkx;obtain⟨b3,o3,hp3,hl3,hat3⟩:=(hZM.n2 y hym).at hdlt2;have hslZ:=hslY.below hbZ;obtain⟨b4,o4,hp4,hl4,hat4⟩:=hslZ.at hkd;have e1:some (Value.slice p1 m.rs.length c1)=some (Value.slice (some ⟨b1,o1,none⟩) m.rs.length c1):=by rw [hp1]
   subst hp1;subst hp2;subst hp4;refine⟨k,rfl,hkl,?_⟩;refine⟨i64 r,by have:=zac (hat1 k hr1) (i:=0) (v:=i64 r) (by rw [List.getElem_map,hrs];rfl);exact this,?_⟩;have dZ:Bw Z Z.drew:=(Below.refl _ _).drew;refine DrawE.ord [23] [0,1,2,3,4,5,6,7,8,9,10,11,12,13,14,15,16,17,18,19,20,21,22,23] (by kernel_rfl) ?_;refine⟨_,zac (zaa (hdr (zab hbZ fxY))) (i:=0) rfl,?_⟩;refine⟨_,zfE (hZM.same (X:=Z.drew) fun _ _=>rfl).cells (i:=1) rfl,?_⟩;refine⟨k,rfl,hkx,?_⟩;refine⟨slV y,by have:=zac (zaq dZ (hat2 k hkx)) (i:=0) (v:=slV y) (by rw [hyk];rfl);exact this,?_⟩;refine⟨k,rfl,hkd,?_⟩;refine⟨i64 d,by have:=zac (zaq dZ (hat4 k hkd)) (i:=0) (v:=i64 d) (by rw [hde];rfl);exact this,?_⟩;unfold slV;rw [hp3];refine⟨d,rfl,hdlt2,?_⟩;refine⟨i64 t,by have:=zac (zaq dZ (hat3 d hdlt2)) (i:=0) (v:=i64 t) (by rw [ht];rfl);exact this,?_⟩;refine⟨t,rfl,ht48,?_⟩;refine⟨s64 (G t),(hRel.same (Y:=Z.drew) rfl).cell ht48,?_⟩;refine⟨by omega,_,zby (e:=r) (by omega),?_⟩;refine⟨_,zb2 (hGw t ht48) (zaF (by omega)),?_⟩;refine⟨t,rfl,ht48,?_⟩;refine zal k99 (hRel.same (Y:=Z.drew) rfl).cells (o:=50+1+t*1) (v:=s64 (G t|||2^r)) rfl rfl (by rw [hRel.len];omega) rfl fun S fS gS sS=>?_;rw [hRel.set ht48] at fS;have gS2:Z.grownBy S (some M):=zae (zah dZ) gS;refine nxI (by omega) ?_;refine⟨k+1,(cvE rfl rfl),⟨hkl,?_,zaQ oE fZ (by decide) gS2,hbZ.trans (zak gS2 hZs (by omega))⟩,zdc (by omega)⟩;rw [htk];have e5:=hE ⟨m.base.rf.n,upd G t (G t|||2^r)⟩;show S.heap[M]?=some (.cells (exC { m.base with rf:=⟨m.base.rf.n,upd G t (G t|||2^r)⟩ } q1 k1).toArray _ _);exact fS.trans (by rw [<- e5])
  have hc:¬ (k:Int)<(m.rs.length:Int):=dF hc;obtain rfl:k=m.rs.length:=by omega
  rw [List.take_length] at fZ;obtain⟨RF,hRF⟩:∃ RF:ExD,RF={ m.base with rf:=⟨m.base.rf.n,rfF m.rs ds m.base.rf.to⟩ }:=⟨_,rfl⟩;rw [<- hRF] at fZ;have hRFe:RF.ev=m.base.ev:=by rw [hRF]
  have hRFc:RF.co=m.base.co:=by rw [hRF]
  have hRFm:RF.mem=m.base.mem:=by rw [hRF]
  obtain⟨dl,hdle⟩:=nm (ds.drop m.rs.length);have hdll:dl.length=m.wr.length:=by rw [hdle,List.length_drop];omega
  have hslD:SlR natE Y2 (zaI qd ds.length m.rs.length 1) dl:=by
   have:=hslY.sub (cap:=ds.length) (lo:=m.rs.length) (hi:=ds.length) (by omega) (Nat.le_refl _) (Nat.le_refl _);rw [List.take_of_length_le (by rw [List.length_drop];exact Nat.le_refl _),<- hdle] at this;exact this
  refine⟨_,zac (zaa (zab hbZ fxY)) (i:=0) rfl,?_⟩;refine⟨_,zfE (tMY hbZ).cells (i:=0) rfl,?_⟩;refine⟨m.rs.length,rfl,by omega,?_⟩;obtain⟨qD,hqD⟩:=nm (zaI qd ds.length m.rs.length 1);rw [<- hqD] at hslD ⊢;have hdn:ds.length-m.rs.length=dl.length:=by omega
  rw [hdn];obtain⟨Rs,hRs⟩:=nm (m.wr.map zcF);have hRsl:Rs.length=m.wr.length:=by rw [hRs,List.length_map]
  have hzl:zs.length=m.wr.length:=by have:=congrArg List.length hz;simpa using this
  have hRsb:∀ R∈Rs,∀ k∈R,k≠[]/\k.length<=48/\∀ a∈k,a<m.base.ev.length:=fun R hR k hk=>by
   rw [hRs] at hR;obtain⟨w,hw,rfl⟩:=List.mem_map.1 hR;exact (hB.wr w hw).2.2 k hk
  refine⟨Nat,fun l=>⟨[(1,At0 bx),(2,At0 L),(6,At0 R),(11,At0 M),(104,.slice qD dl.length dl.length),(105,i64 dl.length),(106,i64 (l:Nat))],[]⟩,
   fun l Z=>l<=dl.length/\ExH Z M { RF with co:=(coG m.base.ev 0 (Rs.take l) dl (RF.co,RF.mem)).1,mem:=(coG m.base.ev 0 (Rs.take l) dl (RF.co,RF.mem)).2 } q1 k1/\OwnS evE 225 Y2.heap.size Z q1 k1 m.base.ev/\Bw Y2 Z,fun l=>dl.length-l,0,
   (cvE rfl rfl),⟨Nat.zero_le _,fZ,oE,hbZ⟩,?_⟩
  clear fZ oE hbZ;rintro l Z ⟨hl,fZ,oE,hbZ⟩;obtain⟨P,hP⟩:=nm (coG m.base.ev 0 (Rs.take l) dl (RF.co,RF.mem));rw [<- hP] at fZ;have hZs:=hbZ.size;have hPw:WrdR P.1.to:=by
   rw [hP];refine zmC (by rw [hRFc];exact hB.co) fun R hR k hk a ha=>?_;have:=(hRsb R (List.mem_of_mem_take hR) k hk).2.2 a ha;omega
  refine biE (fun hc=>?_) fun hc=>?_
  ·have hc:(l:Int)<(dl.length:Int):=dT hc;have hll:l<dl.length:=by omega
   have hlz:l<zs.length:=by omega
   have hlR:l<Rs.length:=by omega
   obtain⟨z,hzk⟩:∃ z,zs[l]=z:=⟨_,rfl⟩;have hzm:z∈zs:=by rw [<- hzk];exact gM hlz
   have hzR:Rs[l]?=some (z.1.map (·.1)):=by
    rw [hRs,<- hz,List.getElem?_map,gE hlz,hzk];rfl
   have hzRm:z.1.map (·.1)∈Rs:=List.mem_of_getElem? hzR;obtain⟨d,hd⟩:∃ d,dl[l]=d:=⟨_,rfl⟩;have hdd:dl[l]?=some d:=by rw [gE hll,hd]
   have hdz:d<z.1.length:=by
    refine hdlt (m.rs.length+l) _ d ?_ (by rw [hdle,List.getElem?_drop] at hdd;exact hdd);unfold zc2;rw [List.getElem?_append_right (by rw [List.length_map];omega),List.length_map,Nat.add_sub_cancel_left];have:=hzR;rw [hRs,List.getElem?_map] at this;rw [List.getElem?_map]
    cases hw:m.wr[l]? with
    | none=>rw [hw] at this;cases this
    | some w =>
     rw [hw] at this;have h2:zcF w=z.1.map (·.1):=Option.some.inj this;show some (zcF w).length=_;rw [h2,List.length_map]
   obtain⟨y,hyk⟩:∃ y,z.1[d]=y:=⟨_,rfl⟩;have hym:y∈z.1:=by rw [<- hyk];exact gM hdz
   obtain⟨hy0,hy48,hyev⟩:=hRsb _ hzRm y.1 (List.mem_map.2 ⟨y,hym,rfl⟩);have hgy:(z.1.map (·.1)).getD d []=y.1:=by
    rw [gDe,List.getElem?_map,gE hdz,hyk];rfl
   obtain⟨hlR2,hzR2⟩:=List.getElem?_eq_some_iff.1 hzR;have htk:coG m.base.ev 0 (Rs.take (l+1)) dl (RF.co,RF.mem)=(zdd y.1 P.1,upd P.2 l (ziM m.base.ev y.1)):=by
    rw [tsg hlR,hzR2,zjW,<- hP,List.length_take,Nat.min_eq_left (by omega),Nat.zero_add];rw [show dl.getD l 0=d by rw [gDe,hdd];rfl,hgy]
   obtain⟨bD,oD,hpD,hlD,hatD⟩:=(hslD.below hbZ).at hll;obtain⟨bR,oR,hpR,hlR0,hatR⟩:=(rkY.below hbZ).row.at hlz;obtain⟨bz,oz,hpz,hlz0,hatz⟩:=((n1Y z hzm).below hbZ).row.at hdz;have hyrow:=((n2Y z hzm y hym).below hbZ).row;have hylt:=fun a ha=>(zas (n2Y z hzm y hym) (a:=a) ha).2.1;subst hpD;subst hpR;refine⟨l,rfl,hll,?_⟩;refine⟨i64 d,by have:=zac (hatD l hll) (i:=0) (v:=i64 d) (by rw [hd];rfl);exact this,?_⟩;refine⟨_,zac (zaa (zab hbZ fRY)) (i:=0) rfl,?_⟩;refine⟨l,rfl,hlz,?_⟩;refine⟨.slice z.2.1 z.1.length z.2.2,by have:=zac (hatR l hlz) (i:=0) (v := .slice z.2.1 z.1.length z.2.2) (by rw [hzk];rfl);exact this,?_⟩;rw [hpz];refine⟨d,rfl,hdz,?_⟩;refine⟨slV y,by have:=zac (hatz d hdz) (i:=0) (v:=slV y) (by rw [hyk];rfl);exact this,?_⟩;obtain⟨A,T,hA,hE⟩:=zmg { RF with co:=P.1,mem:=P.2 } q1 k1;have hRel:RelAt Z M 99 104 A T P.1:=⟨hA,by rw [<- hE];exact fZ⟩;refine cmo (zoD hRel hPw hyrow (fun a ha=>by have:=hylt a ha;omega) (by omega) (fun a ha=>by have:=hyev a ha;omega)) ?_;rintro e V2 ⟨rfl,hRel2,gV2⟩;have fV2:ExH V2 M { RF with co:=zdd y.1 P.1,mem:=P.2 } q1 k1:=by
    have e5:=hE (zdd y.1 P.1);show V2.heap[M]?=some (.cells (exC { RF with co:=zdd y.1 P.1,mem:=P.2 } q1 k1).toArray _ _);exact hRel2.cells.trans (by rw [<- e5])
   have hbV2:Bw Y2 V2:=hbZ.trans (zak gV2 hZs (by omega));have oE2:=zaQ oE fZ (by decide) gV2;have hyr2:=((n2Y z hzm y hym).below hbV2).row;obtain⟨j,hj2⟩:∃ j,j+1=y.1.length:=⟨y.1.length-1,by have:=List.length_pos_iff.2 hy0;omega⟩;have hjl:j<y.1.length:=by omega
   obtain⟨b6,o6,hp6,hl6,hat6⟩:=hyr2.at hjl;obtain⟨t,ht⟩:∃ t,y.1[j]=t:=⟨_,rfl⟩;have htev:t<m.base.ev.length:=hyev t (by rw [<- ht];exact gM hjl);have hlast:y.1.getLastD 0=t:=by
    rw [List.getLastD_eq_getLast?,List.getLast?_eq_getElem?,show y.1.length-1=j by omega,gE hjl,ht];rfl
   obtain⟨b7,o7,hp7,hl7,hat7⟩:=oE2.row.at htev;have hlV:ziM m.base.ev y.1=(m.base.ev[t]).v:=by
    show (m.base.ev.getD (y.1.getLastD 0) ev0).v=_;rw [hlast,gDe,gE htev];rfl
   have dV:Bw V2 V2.drew:=(Below.refl _ _).drew;have hl6':l<6:=by omega
   unfold slV;rw [hp6];refine DrawE.ord [15] [0,1,2,3,4,5,6,7,8,9,10,11,12,13,14,15] (by kernel_rfl) ?_;refine⟨.slice q1 m.base.ev.length k1,by have:=zac (zaa (hdr fV2)) (i:=0) (v := .slice q1 RF.ev.length k1) rfl;rw [hRFe] at this;exact this,?_⟩;refine⟨(j:Nat),(zaf (by omega)).trans (by omega),?_⟩;refine⟨j,rfl,hjl,?_⟩;refine⟨i64 t,by have:=zac (zaq dV (hat6 j hjl)) (i:=0) (v:=i64 t) (by rw [ht];rfl);exact this,?_⟩;rw [hp7];refine⟨t,rfl,htev,?_⟩;refine⟨u8 (m.base.ev[t]).v,by have:=zac (zaq dV (hat7 t htev)) (i:=3) (v:=u8 (m.base.ev[t]).v) rfl;exact this,?_⟩;refine⟨l,rfl,hl6',?_⟩;refine zal k5 (hdr fV2) (o:=327+l*1) (v:=u8 (m.base.ev[t]).v) rfl rfl (by rw [zaC];omega) rfl fun S fS gS sS=>?_;rw [Nat.mul_one,zpV _ _ _ hl6'] at fS;have gS2:V2.grownBy S (some M):=zae (zah dV) gS;refine nxI (by omega) ?_;refine⟨l+1,(cvE rfl rfl),⟨hll,?_,by rw [<- hp7];exact zaQ oE2 fV2 (by decide) gS2,hbV2.trans (zak gS2 hbV2.size (by omega))⟩,zdc (by omega)⟩;rw [htk,hlV,<- hp7];exact fS
  have hc:¬ (l:Int)<(dl.length:Int):=dF hc;obtain rfl:l=dl.length:=by omega
  rw [List.take_of_length_le (by omega)] at hP;have hcand:zc5 m ds={ RF with co:=P.1,mem:=P.2 }:=by
   rw [hP,hRF,hdle,hRs];rfl
  rw [<- hcand] at fZ;have oE:OwnS evE 225 Y2.heap.size Z q1 k1 (zc5 m ds).ev:=oE;refine⟨_,zac (zaa (zab hbZ fLY)) (i:=0) rfl,?_⟩;refine⟨exC (zc5 m ds) q1 k1,zaC _ _ _,zaa fZ,hlt fZ,?_⟩;have hjZ:=hJ.step _ _ _ _ hj (StepG.below hbZ);have hGv:∀ k,GvX [.agg (exC (zc5 m ds) q1 k1).toArray] k->Y2.heap.size<=k/\∃ a,q1=some a/\k=a.block:=by
   rintro k ⟨x,a,cc,he,rfl⟩;have h1:(exC (zc5 m ds) q1 k1).toArray=(exC x (some a) cc).toArray:=by
    have:=List.head_eq_of_cons_eq he;exact Value.agg.inj this
   have h2:exC (zc5 m ds) q1 k1=exC x (some a) cc:=by simpa using h1
   have h3:Value.slice q1 (zc5 m ds).ev.length k1=Value.slice (some a) x.ev.length cc:=List.head_eq_of_cons_eq h2;have h4:q1=some a:=by injection h3
   exact⟨(zas oE h4).1,a,h4,rfl⟩
  have hmp:(pre++[ds]).map (zc5 m)=pre.map (zc5 m)++[zc5 m ds]:=by rw [List.map_append];rfl
  have hpm:(pre.map (zc5 m)++[zc5 m ds]) <+: zgF m:=by
   obtain⟨t,ht⟩:=hpre;refine⟨t.map (zc5 m),?_⟩;unfold zgF;rw [<- ht,List.map_append,hmp]
  refine YieldR.mono (hy _ (zc5 m ds) [.agg (exC (zc5 m ds) q1 k1).toArray] F Z hjZ ⟨_,q1,k1,by simp,rfl,oE.lower (by omega)⟩ (fun k hk=>by have:=(hGv k hk).1;omega) hpm) ?_;rintro v U ⟨rfl,F',hjU,kU⟩;refine brF ?_;have kF:KeepsG F F' Y2 U:=⟨kU.os.trans hbZ.os,kU.tape.trans hbZ.tape,kU.output.trans hbZ.output,Nat.le_trans hbZ.size kU.size,fun k hk hf=>(kU.same k (by omega) (fun h=>h.elim hf fun h=>by have:=(hGv k h).1;omega)).trans (hbZ.block k hk),fun k hk=>by
   rcases kU.fp k hk with (h | h) | h
   ·exact .inl h
   ·exact .inr (hGv k h).1
   ·exact .inr (by omega)⟩
  refine⟨F',⟨by rw [hmp];exact hjU,?_⟩,kF⟩;rw [hKp];refine⟨Nat.le_trans hY2s kF.size,fun k h1 h2=>?_⟩;obtain⟨h3,h4⟩:=hkq k h1 h2;refine⟨(kF.same k (by omega) h4).trans h3,fun h=>?_⟩;rcases kF.fp k h with h | h
  ·exact h4 h
  ·omega
 ·rintro D F Y hD hfD ⟨hj,hk⟩ hdef;refine⟨_,rfl,hdef,⟨_,rfl⟩,F,?_⟩;show J ((zdV (zc2 m)).map (zc5 m)) F _;exact hJ.step _ _ _ _ hj (.put (by omega) hfD _)
 ·rintro D ex pre F Y hD hfD hpre h;exact h.elim
end
theorem zqf {b o:Nat} {w:World}:Calls Tryz.prog 98 #[.pointer (some ⟨b,o,none⟩)] w fun e w'=>e = .returned (.func (.func 145) #[] #[At0 w.heap.size])/\w'.heap[w.heap.size]?=some (.cells #[.pointer (some ⟨b,o,none⟩)] 220 (0,0))/\w'.heap.size=w.heap.size+1/\Bw w w':=by
 refine cofE 4 [.pointer (some ⟨b,o,none⟩)] Tryz.func98 ?_;exact⟨rfl,hnew w _,wz _ _,(zba w _)⟩
def NInX (B:Nat) (F:Nat->Prop) (Y:World) (x:exE3):Prop:=OwnS evE 225 B Y x.2.1 x.2.2 x.1.ev/\∀ a,x.2.1=some a->F a.block
theorem zfA (B:Nat):zkS 104 95 (NInX B):=by
 rintro F G Y Z x ⟨h1,h2⟩ hs hg;refine⟨h1.same fun a ha=>?_,fun a ha=>hg _ (h2 a ha)⟩;obtain⟨_,_,cur,hc⟩:=zas h1 ha;exact hs _ cur _ (h2 a ha) hc (by decide) (by decide)
theorem zjc {B B1 bx c0:Nat} {p0:Option Addr} {l0:List exE3} {xs:List ExD} {w W0:World} {Rd:Nat->Prop} {pm:Value} (ho:OwnS exE 104 B w p0 c0 l0) (hn:∀ x∈l0,OwnS evE 225 B w x.2.1 x.2.2 x.1.ev) (hB:B<=w.heap.size)
  (hI:zqx Tryz.prog 145 [At0 bx] xs W0 Rd (StX B1) GvX) (hW0:W0.heap.size<=w.heap.size) (hRd:∀ k,Rd k->k<W0.heap.size/\w.heap[k]?=W0.heap[k]?) (hRB:∀ k,Rd k->k<B\/k=bx) (fb:w.heap[bx]?=some (.cells #[pm] 220 (0,0))) (hB1:B<=B1) (hlen:l0.length+xs.length<=30000) :
  Calls Tryz.prog 97 #[.slice p0 l0.length c0,.func (.func 145) #[] #[At0 bx]] w fun e w'=>(∃ (new:List exE3) (p:Option Addr) (c:Nat),e = .returned (.slice p (l0++new).length c)/\new.map (·.1)=xs/\OwnS exE 104 B w' p c (l0++new)/\∀ x∈l0++new,OwnS evE 225 B w' x.2.1 x.2.2 x.1.ev)/\Below B w w':=by
 refine cofM 13 [.slice p0 l0.length c0,.func (.func 145) #[] #[At0 bx]] (.c .p .p) Tryz.func97 ?_;obtain⟨L,hL⟩:=nm (w.heap.size);refine⟨Unit,fun _=>⟨[(1,.func (.func 145) #[] #[At0 bx]),(2,At0 L)],[]⟩,fun _ X=>X.heap[L]?=some (.cells [.slice p0 l0.length c0].toArray 95 (0,0))/\X.heap.size=L+1/\Bw w X,?_,?_⟩
 ·exact⟨(),⟨.cons rfl (.cons (by rw [hL];rfl) .nil),rfl⟩,by rw [hL];exact hnew w _,by rw [hL];exact wz _ _,(zba w _)⟩
 rintro _ W ⟨fL,sW,hbW⟩;have hbxw:=hlt fb;obtain⟨F0,hF0⟩:∃ F0:Nat->Prop,F0=fun k=>k=L\/(∃ a,p0=some a/\k=a.block)\/∃ x∈l0,∃ a,x.2.1=some a/\k=a.block:=⟨_,rfl⟩;have hF0B:∀ k,F0 k->B<=k/\k<W.heap.size/\(k≠L->k≠bx):=by
  intro k hk;rw [hF0] at hk;rcases hk with rfl | ⟨a,ha,rfl⟩ | ⟨x,hx,a,ha,rfl⟩
  ·exact⟨by omega,by omega,fun h=>(h rfl).elim⟩
  ·obtain⟨h1,h2,cur,h3⟩:=zas ho ha;exact⟨h1,by omega,fun _ e=>by rw [e,fb] at h3;simp at h3⟩
  ·obtain⟨h1,h2,cur,h3⟩:=zas (hn x hx) ha;exact⟨h1,by omega,fun _ e=>by rw [e,fb] at h3;simp at h3⟩
 have hG0:Gath exE 104 95 B W.heap.size L W (NInX B) l0 F0 W:=by
  refine⟨Nat.le_refl _,by rw [hF0];exact .inl rfl,fun k hk=>(hF0B k hk).2.1,⟨p0,c0,fL,ho.below hbW,fun a ha=>by rw [hF0];exact .inr (.inl ⟨a,ha,rfl⟩)⟩,fun x hx=>⟨(hn x hx).below hbW,fun a ha=>by rw [hF0];exact .inr (.inr ⟨x,hx,a,ha,rfl⟩)⟩,Below.refl _ _⟩
 refine zqN (sgOk _) rfl (lb := #[At0 bx]) rfl rfl hI (fun pre vs W k ⟨x,q,c,h1,h2,h3⟩ ⟨x',a,c',h4,h5⟩=>?_) (by have:=hbW.size;omega) (fun k hk=>⟨(hRd k hk).1,?_⟩) (fun pre vs W ⟨x,q,c,_,h,_⟩=>by rw [h];rfl) (by decide)
  F0 (fun pre F Y=>∃ xs',(∃ new,xs'=l0++new/\new.map (·.1)=pre/\new.length<=xs.length)/\Gath exE 104 95 B W.heap.size L W (NInX B) xs' F Y) (fun k hk=>?_) (Gath.iter (zfA B) (by omega)) ⟨l0,⟨[],by simp,rfl,Nat.zero_le _⟩,hG0⟩ ?_ ?_
 ·rw [h2] at h4;have h6:exC x q c=exC x' (some a) c':=by
   have h7:=Value.agg.inj (List.head_eq_of_cons_eq h4);simpa using h7
  have h8:Value.slice q x.ev.length c=Value.slice (some a) x'.ev.length c':=List.head_eq_of_cons_eq h6;have h9:q=some a:=by injection h8
  obtain⟨_,_,cur,hc⟩:=zas h3 h9;rw [h5];exact⟨_,_,_,hc⟩
 ·rw [<- (hRd k hk).2];exact hbW.block k (by have:=(hRd k hk).1;omega)
 ·intro h;obtain⟨h1,h2,h3⟩:=hF0B k h;have h4:=(hRd k hk).1;rcases hRB k hk with h5 | h5
  ·omega
  ·exact h3 (by omega) h5
 ·rintro yl pre x vs F Y hyl hpre ⟨xs',⟨new,rfl,hnew',hnl⟩,hG⟩ ⟨x',q,c,hlast,rfl,oq⟩ hgv hfy ⟨lo,hlo⟩;have hxx:x=x':=by simpa using hlast
  subst hxx;have hYs:=hG.size;refine zap (X:=Y) (v := .agg (exC x q c).toArray) k104 (zaC _ _ _) zcw (zde _ _ _) fun Z hbZ fZ sZ=>?_;have fZ:ExH Z Y.heap.size x q c:=fZ;obtain⟨F1,hF1⟩:∃ F1:Nat->Prop,F1=fun k=>F k\/GvX [.agg (exC x q c).toArray] k:=⟨_,rfl⟩;rw [<- hF1];have hq1:∀ a,q=some a->F1 a.block:=fun a ha=>by
   rw [hF1];exact .inr ⟨x,a,c,by rw [ha],rfl⟩
  have hgq:∀ k,GvX [.agg (exC x q c).toArray] k->∃ a,q=some a/\k=a.block:=by
   rintro k ⟨x',a,c',h4,h5⟩;have h6:exC x q c=exC x' (some a) c':=by
    have h7:=Value.agg.inj (List.head_eq_of_cons_eq h4);simpa using h7
   have h8:Value.slice q x.ev.length c=Value.slice (some a) x'.ev.length c':=List.head_eq_of_cons_eq h6;have h9:q=some a:=by injection h8
   exact⟨a,h9,h5⟩
  have hlt1:∀ k,F1 k->k<Y.heap.size:=fun k hk=>by
   rw [hF1] at hk;rcases hk with hk | hk
   ·exact hG.lt k hk
   ·obtain⟨a,ha,rfl⟩:=hgq k hk;exact (zas oq ha).2.1
  have hFF:∀ k,F k->F1 k:=fun k hk=>by rw [hF1];exact .inl hk
  have hG1:Gath exE 104 95 B W.heap.size L W (NInX B) (l0++new) F1 Z:=by
   obtain⟨p,c',h1,h2,h3⟩:=hG.row;have sZ:=hbZ.size;exact⟨by omega,hFF _ hG.inL,fun k hk=>by have:=hlt1 k hk;omega,⟨p,c',zab hbZ h1,h2.below hbZ,fun a ha=>hFF _ (h3 a ha)⟩,fun y hy=>⟨(hG.nest y hy).1.below hbZ,fun a ha=>hFF _ ((hG.nest y hy).2 a ha)⟩,hG.old.trans (hbZ.mono (by omega))⟩
  refine⟨rfl,F1,KeepsG.below hbZ fun k hk => .inl hk,⟨_,⟨new,rfl,hnew',hnl⟩,hG1⟩,?_⟩;rintro O Y2 hY2 ⟨xs2,⟨new2,rfl,hnew2,hnl2⟩,hG2⟩;clear hG1 hnew' hnl hG;have hYl:=hlt hlo;have fY:ExH Y2 Y.heap.size x q c:=by rw [hY2];exact (zai (by omega)).trans fZ
  have oq2:OwnS evE 225 B1 Y2 q c x.ev:=by
   rw [hY2];refine (oq.below hbZ).same fun a ha=>zai fun e=>?_;obtain⟨_,_,cur,hc⟩:=zas oq ha;rw [e,hlo] at hc
   cases hc
  obtain⟨p,c',h4,h5,h6⟩:=hG2.row;refine⟨_,zac (zaa h4) (i:=0) rfl,?_⟩;refine⟨exC x q c,zaC _ _ _,zaa fY,hlt fY,?_⟩;obtain⟨nx,hnx⟩:∃ nx:exE3,nx=(x,q,c):=⟨_,rfl⟩;have hen:exC x q c=exE.enc nx:=by rw [hnx];rfl
  have hpl:pre.length<xs.length:=by
   obtain⟨t,ht⟩:=hpre;rw [<- ht];simp only [lap,List.length_cons];omega
  have hn2:new2.length=pre.length:=by rw [<- hnew2,List.length_map]
  refine⟨⟨by decide,by decide,zcw⟩,exE.enc nx,by rw [<- hen];exact zce (zaC _ _ _) zcw,?_⟩;have hw2:W.heap.size<=Y2.heap.size:=hG2.size;obtain⟨v,Y5,hrun,S,hrun2,F',hG',hK',hFF'⟩:=hG2.stepX (P:=Tryz.prog) (ty:=95) (cap1:=1) (zfA B) (by decide) Tryz.underlying95 k104 rfl rfl (by show _=333;exact zcw) k95 rfl (by omega) (by omega) (Below.refl _ _) nx (by rw [lap];omega) (by rw [lap];show (_+1)*2416<=_;omega)
   (fun G Z _ _ h3 h4=>zfA B F1 G Y2 Z nx ⟨by rw [hnx];exact oq2.lower hB1,fun a ha=>by rw [hnx] at ha;exact hq1 a ha⟩ h3 h4) p c' h4
  unfold opsE zcr;refine SatR.mk hrun ?_;refine SatR.mk hrun2 ?_;exact⟨F',⟨_,⟨new2++[nx],by rw [List.append_assoc],by rw [List.map_append,hnew2,hnx];rfl,by rw [lap];show _+1<=_;omega⟩,hG'⟩,hK'⟩
 ·rintro D F Y hD hfD ⟨xs',⟨new,rfl,hnew',hnl⟩,hG⟩ hdef;obtain⟨p,c',h4,h5,h6⟩:=hG.row;refine⟨_,zac (zaa h4) (i:=0) rfl,?_⟩;refine⟨_,rfl,hdef,?_⟩;have kp:∀ a:Addr,F a.block->(Y.putObj D (.deferred none)).heap[a.block]?=Y.heap[a.block]?:=fun a h2=>zai fun e=>by rw [<- e] at hfD;exact hfD h2
  exact⟨⟨new,p,c',rfl,hnew',h5.same fun a ha=>kp a (h6 a ha),fun x hx=>(hG.nest x hx).1.same fun a ha=>kp a ((hG.nest x hx).2 a ha)⟩,zaP ((hbW.mono hB).trans hG.old) (by omega) _⟩
structure MixX where
 m:MixD
 q:Option Addr
 c:Nat
 p1:Option Addr
 c1:Nat
 p2:Option Addr
 c2:Nat
 p3:Option Addr
 c3:Nat
 xs:List NatL
 ys:List NatL
def mixC (x:MixX):List Value:=exC x.m.base x.q x.c++[.slice x.p1 x.m.rs.length x.c1,.slice x.p2 x.xs.length x.c2,.slice x.p3 x.ys.length x.c3]
theorem znI (x:MixX):(mixC x).length=336:=by
 unfold mixC;rw [lap,zaC];rfl
theorem zjD (x:MixX):(mixC x).all Value.oneCell'=true:=by
 unfold mixC;rw [List.all_append,zde];rfl
def mixE:Enc MixX:=⟨mixC,336,znI,by decide,fun a u hu=>List.all_eq_true.1 (zjD a) u hu⟩
structure NInM (B:Nat) (F:Nat->Prop) (Y:World) (x:MixX):Prop where
 e2:x.xs.map (·.1)=x.m.rs.map (·.2)
 e3:x.ys.map (·.1)=x.m.wr
 ev:RowIn evE 225 B F Y x.q x.c x.m.base.ev
 r1:RowIn natE 3 B F Y x.p1 x.c1 (x.m.rs.map (·.1))
 r2:RowIn zbt 150 B F Y x.p2 x.c2 x.xs
 n2:∀ y∈x.xs,RowIn natE 3 B F Y y.2.1 y.2.2 y.1
 r3:RowIn zbt 150 B F Y x.p3 x.c3 x.ys
 n3:∀ y∈x.ys,RowIn natE 3 B F Y y.2.1 y.2.2 y.1
theorem NInM.same {B:Nat} {F G:Nat->Prop} {Y Z:World} {x:MixX} (h:NInM B F Y x) (k:∀ {α:Type} {E:Enc α} {T c:Nat} {q:Option Addr} {l:List α},T≠153->T≠147->T≠4->RowIn E T B F Y q c l->RowIn E T B G Z q c l):NInM B G Z x :=
 ⟨h.e2,h.e3,k (by decide) (by decide) (by decide) h.ev,k (by decide) (by decide) (by decide) h.r1,k (by decide) (by decide) (by decide) h.r2,fun y hy=>k (by decide) (by decide) (by decide) (h.n2 y hy),k (by decide) (by decide) (by decide) h.r3,fun y hy=>k (by decide) (by decide) (by decide) (h.n3 y hy)⟩
theorem NInM.lower {B B':Nat} {F:Nat->Prop} {Y:World} {x:MixX} (h:NInM B F Y x) (hB:B'<=B):NInM B' (fun k=>B'<=k) Y x:=by
 have k:∀ {α:Type} {E:Enc α} {T c:Nat} {q:Option Addr} {l:List α},RowIn E T B F Y q c l->RowIn E T B' (fun k=>B'<=k) Y q c l:=fun {α E T c q l} hr=>⟨hr.own.lower hB,fun a ha=>(zas (hr.own.lower hB) ha).1⟩;exact⟨h.e2,h.e3,k h.ev,k h.r1,k h.r2,fun y hy=>k (h.n2 y hy),k h.r3,fun y hy=>k (h.n3 y hy)⟩
theorem zhL (B:Nat):zkS 153 147 (NInM B):=by
 rintro F G Y Z x h hs hg;refine h.same fun {α E T c q l} t1 t2 _ hr=>⟨hr.own.same fun a ha=>?_,fun a ha=>hg _ (hr.inF a ha)⟩;obtain⟨_,_,cur,hc⟩:=zas hr.own ha;exact hs _ cur _ (hr.inF a ha) hc t1 t2
abbrev TpR:=List PthR×Option Addr×Nat
def tpE:Enc TpR where
 sz:=1
 enc x:=[.slice x.2.1 x.1.length x.2.2]
 len x:=rfl
 one x v hv:=by
  simp at hv;subst hv;rfl
 pos:=by decide
structure MxS (B:Nat) (Z:World) (L bP:Nat) (ss:List Nat) (ps:Option Addr) (cs:Nat) (ts:List TpR) (pT:Option Addr) (cT:Nat):Prop where
 f0:Z.heap[L]?=some (.cells #[At0 bP] 90 (0,0))
 f1:Z.heap[L+1]?=some (.cells #[.slice none 0 0] 147 (0,0))
 f2:Z.heap[L+2]?=some (.cells #[.bool false] 4 (0,0))
 f3:Z.heap[L+3]?=some (.cells #[.slice pT ts.length cT] 208 (0,0))
 own:OwnS natE 3 B Z ps cs ss
 rk:OwnS tpE 209 B Z pT cT ts
 n1:∀ z∈ts,OwnS pthE 217 B Z z.2.1 z.2.2 z.1
 n2:∀ z∈ts,∀ x∈z.1,PthO B Z x
theorem PthO.same {B:Nat} {Y Z:World} {x:PthR} (h:PthO B Y x) (k:∀ {α:Type} {E:Enc α} {T c:Nat} {q:Option Addr} {l:List α},T=225\/T=343->OwnS E T B Y q c l->OwnS E T B Z q c l):PthO B Z x :=
 ⟨k (.inl rfl) h.1,k (.inr rfl) h.2.1,k (.inr rfl) h.2.2.1,k (.inr rfl) h.2.2.2⟩
theorem MxS.below {B:Nat} {Z Y:World} {L bP:Nat} {ss:List Nat} {ps:Option Addr} {cs:Nat} {ts:List TpR} {pT:Option Addr} {cT:Nat} (h:MxS B Z L bP ss ps cs ts pT cT) (hb:Bw Z Y):MxS B Y L bP ss ps cs ts pT cT :=
 ⟨zab hb h.f0,zab hb h.f1,zab hb h.f2,zab hb h.f3,h.own.below hb,h.rk.below hb,fun z hz=>(h.n1 z hz).below hb,fun z hz x hx=>(h.n2 z hz x hx).same fun {α E T c q l} _ ho=>ho.below hb⟩
theorem MxS.size {B:Nat} {Z Y:World} {L bP n:Nat} {ss:List Nat} {ps ps':Option Addr} {cs cs':Nat} {ts:List TpR} {pT:Option Addr} {cT:Nat} (h:MxS B Z L bP ss ps cs ts pT cT) (ho:OwnS natE 3 B Y ps' cs' (ss++[n])) (g:Z.grownBy Y (ps.map Addr.block)):MxS B Y L bP (ss++[n]) ps' cs' ts pT cT :=
 ⟨zaM h.f0 h.own (by decide) g,zaM h.f1 h.own (by decide) g,zaM h.f2 h.own (by decide) g,zaM h.f3 h.own (by decide) g,ho,zbF h.rk h.own (by decide) g,fun z hz=>zbF (h.n1 z hz) h.own (by decide) g,fun z hz x hx=>(h.n2 z hz x hx).same fun {α E T c q l} ht hoo=>zbF hoo h.own (by rcases ht with rfl | rfl <;> decide) g⟩
theorem appT {B c:Nat} {V1:World} {p:Option Addr} {l:List TpR} {y:TpR} {a:Addr} (ho:OwnS tpE 209 B V1 p c l) (ha:zax V1 a ([y].flatMap tpE.enc)) (hB:B<=V1.heap.size) (hl:l.length<=100000) {K:Value->World->Prop}
  (h:∀ p' c' w',OwnS tpE 209 B w' p' c' (l++[y])->V1.grownBy w' (p.map Addr.block)->(∀ a,p'=some a->p=some a\/a.block=V1.heap.size)->K (.slice p' (l++[y]).length c') w') :
  SatR ((Builtin.append_ #[208,208] 208 #[.slice p l.length c,.slice (some a) 1 1]).run Tryz.prog V1) K :=
 zbi (E:=tpE) (T:=209) (B:=B) (l:=l) (news:=[y]) (cap:=c) (m:=1) Tryz.underlying208 k209 rfl rfl rfl ho rfl ha hB (by omega) (by show (l.length+1)*24<=_;omega) fun p' c' w' a1 a2 _ a4=>h p' c' w' a1 (by rw [zb9] at a2;exact a2) a4
theorem appP {B c:Nat} {V1:World} {p:Option Addr} {l:List PthR} {y:PthR} {a:Addr} (ho:OwnS pthE 217 B V1 p c l) (ha:zax V1 a ([y].flatMap pthE.enc)) (hB:B<=V1.heap.size) (hl:l.length<=100000) {K:Value->World->Prop}
  (h:∀ p' c' w',OwnS pthE 217 B w' p' c' (l++[y])->V1.grownBy w' (p.map Addr.block)->(∀ a,p'=some a->p=some a\/a.block=V1.heap.size)->K (.slice p' (l++[y]).length c') w') :
  SatR ((Builtin.append_ #[209,209] 209 #[.slice p l.length c,.slice (some a) 1 1]).run Tryz.prog V1) K :=
 zbi (E:=pthE) (T:=217) (B:=B) (l:=l) (news:=[y]) (cap:=c) (m:=1) Tryz.underlying209 k217 rfl rfl rfl ho rfl ha hB (by omega) (by show (l.length+1)*104<=_;omega) fun p' c' w' a1 a2 _ a4=>h p' c' w' a1 (by rw [zb9] at a2;exact a2) a4
structure ThrQ (V:List UInt8) (l:List InsD):Prop where
 l12:l.length<=12
 ex:∀ x∈l,ExOk x
 ok:zbk l 6=true
 m:(zcu l (ded V)).length<=4096
abbrev zaz (V:List UInt8) (l:List InsD):List PathD:=(zcu l (ded V)).map zev
def wrE (R:RunD) (i:Nat) (v:UInt8):Bool:=(List.range i).any fun j=>decide ((R.ev j).k=2)&&decide ((R.ev j).v=v)
def wrL (rs:List RunD) (v:UInt8):Bool:=rs.any fun R=>wrE R R.many v
theorem zkd (rs:List RunD):zbO rs=zaL.filter (wrL rs):=rfl
def wrC (f:UInt8->Bool):List Value:=seg 256 fun i => .bool (f (UInt8.ofNat i))
theorem zk5 (f:UInt8->Bool) {i:Nat} (h:i<256):(wrC f)[i]?=some (.bool (f (UInt8.ofNat i))):=zdC _ h
theorem zoT (f:UInt8->Bool) (x:UInt8):(wrC f).set x.toNat (.bool true)=wrC fun v=>f v||decide (x=v):=by
 have hx:=x.toNat_lt;apply List.ext_getElem?;intro j;by_cases hj:j<256
 ·rw [zk5 _ hj];by_cases e:x.toNat=j
  ·subst e;rw [List.getElem?_set_self (by unfold wrC;rw [zat];exact hx),UInt8.ofNat_toNat,decide_eq_true rfl,Bool.or_true]
  ·rw [List.getElem?_set_ne e,zk5 _ hj];have:x≠UInt8.ofNat j:=fun h=>e (by rw [h,UInt8.toNat_ofNat'];omega);rw [decide_eq_false this,Bool.or_false]
 ·rw [List.getElem?_eq_none (by unfold wrC;rw [List.length_set,zat];omega),List.getElem?_eq_none (by unfold wrC;rw [zat];omega)]
theorem zk4 (f:UInt8->Bool):(wrC f).length=256:=zat _ _
theorem zm6 (rs:List RunD) (R:RunD) (v:UInt8):wrL (rs++[R]) v=(wrL rs v||wrE R R.many v):=by
 unfold wrL;rw [List.any_append];simp
theorem zm7 (R:RunD) (i:Nat) (v:UInt8):wrE R (i+1) v=(wrE R i v||(decide ((R.ev i).k=2)&&decide ((R.ev i).v=v))):=by
 unfold wrE;rw [List.range_succ,List.any_append];simp
theorem zkI (p:UInt8->Bool) (x:UInt8):[x].filter p=if p x=true then [x] else []:=by
 rw [List.filter_cons,List.filter_nil]
theorem zob {k:Nat} (h:k<256):∃ hl:k<zaL.length,zaL[k]=UInt8.ofNat k:=by
 have hl:zaL.length=256:=by unfold zaL;rw [List.length_map,List.length_range]
 refine⟨by rw [hl];exact h,?_⟩;simp [zaL]
theorem ztwr:List.replicate 256 (Value.bool false)=wrC fun _=>false:=by kernel_rfl
section
variable {l:List InsD} {dom:List UInt8} {q p:Option Addr} {cap cd:Nat} {w:World}
theorem zm5 (hl:SlR insE w q l) (hp:SlR zaH w p dom) (h12:l.length<=12) (hx:∀ x∈l,ExOk x) (hR:∀ R∈zcu l dom,R.many<=24) (hm:(zcu l dom).length<=4096) (hqb:∀ a,q=some a->a.block<w.heap.size) (hpb:∀ a,p=some a->a.block<w.heap.size) (hdl:dom.length<=1000) :
  Calls Tryz.prog 141 #[.slice q l.length cap,.slice p dom.length cd] w fun e w'=>(∃ (p':Option Addr) (c':Nat),e = .returned (.tuple #[.slice p' (zbO (zcu l dom)).length c',.bool true])/\OwnS zaH 5 w.heap.size w' p' c' (zbO (zcu l dom)))/\Bw w w':=by
 refine cofM 55 [.slice q l.length cap,.slice p dom.length cd] (.c .p (.c .p (.c .p (.c .p (.s .p (.c .p .p)))))) Tryz.func141 ?_;obtain⟨L,hL⟩:=nm (w.heap.size);refine⟨Unit,fun _=>⟨[(0,.slice q l.length cap),(1,.slice p dom.length cd),(4,AtR L),(5,AtR (L+1))],[]⟩,fun _ X=>X.heap[L]?=some (.cells #[.slice none 0 0] 42 (0,0))/\X.heap[L+1]?=some (.cells #[.bool false] 4 (0,0))/\X.heap.size=L+2/\Bw w X,?_,?_⟩
 ·have s1:=wz w (.cells #[.slice none 0 0] 42);have h2:=hnew (w.alloc (.cells #[.slice none 0 0] 42)) (.cells #[.bool false] 4);have s2:=wz (w.alloc (.cells #[.slice none 0 0] 42)) (.cells #[.bool false] 4);rw [s1] at h2 s2;refine⟨(),⟨.cons rfl (.cons rfl (.cons (by rw [hL];rfl) (.cons (by rw [hL,<- s1];rfl) .nil))),rfl⟩,?_,?_,?_,?_⟩
  ·rw [hL];exact hold _ (hnew w _)
  ·rw [hL];exact h2
  ·rw [hL];exact s2
  ·exact ((zba w _)).alloc (by simp) _
 rintro _ X ⟨f0,f1,sX,hbX⟩;refine⟨Unit,fun _=>⟨[(0,.slice q l.length cap),(1,.slice p dom.length cd),(4,AtR L),(5,AtR (L+1)),(6,AtR (L+2))],[]⟩,fun _ Y=>Y.heap[L+2]?=some (.cells (wrC fun _=>false).toArray 276 (0,0))/\Y.heap.size=L+3/\Bw X Y,?_,?_⟩
 ·refine⟨(),⟨.cons rfl (.cons rfl (.cons rfl (.cons rfl (.cons (by rw [<- sX];rfl) .nil)))),rfl⟩,?_,?_,?_⟩
  ·rw [<- sX,<- ztwr];exact hnew X _
  ·have:=wz X (.cells (List.replicate 256 (Value.bool false)).toArray 276);rw [sX] at this;exact this
  ·exact (zba X _)
 rintro _ Y ⟨f2,sY,hbY⟩;refine⟨Unit,fun _=>⟨[(0,.slice q l.length cap),(1,.slice p dom.length cd),(4,AtR L),(5,AtR (L+1)),(6,AtR (L+2)),(7,AtR (L+3))],[]⟩,fun _ Z=>Z.heap[L+3]?=some (.cells [i64 (0:Nat)].toArray 3 (0,0))/\Z.heap.size=L+4/\Bw Y Z,?_,?_⟩
 ·refine zap (X:=Y) (v:=i64 0) k3 rfl rfl rfl fun Z hbZ fZ sZ=>?_;rw [sY] at fZ sZ;exact⟨(),⟨.cons rfl (.cons rfl (.cons rfl (.cons rfl (.cons rfl (.cons (by rw [<- sY];rfl) .nil))))),rfl⟩,fZ,sZ,hbZ⟩
 rintro _ V ⟨f3,sV,hbV⟩;have hXV:Bw X V:=zst hbY hbV;have hwV:=zst hbX hXV;have f0:=zab hXV f0;have f1:=zab hXV f1;have f2:=zab hbV f2;clear hbX hbY hbV hXV;obtain⟨xs,hxs⟩:=nm (zcu l dom);rw [<- hxs] at hR hm ⊢;refine⟨Nat,fun D1=>⟨[(4,AtR L),(5,AtR (L+1)),(6,AtR (L+2))],[{ target := .collected D1,args := #[] }]⟩,fun D1 U=>U.heap[L+2]?=some (.cells (wrC (wrL xs)).toArray 276 (0,0))/\U.heap[D1]?=some (.deferred (some []))/\L+2<D1/\Below (L+2) V U,?_,?_⟩
 ·refine cmo ziW ?_;rintro e W ⟨rfl,fi,fd,sW,hbW⟩;have hwW:=zst hwV hbW;have hI:=zmn (q:=q) (p:=p) (hl.below hwW) (hp.below hwW) fi fd (fun a ha=>by have:=hqb a ha;have:=hwW.size;omega) (fun a ha=>by have:=hpb a ha;have:=hwW.size;omega) h12 hx hdl;rw [<- hxs] at hI;obtain⟨J,hJ⟩:∃ J:List RunD->World->Prop,J=fun pre Y=>W.heap.size<=Y.heap.size/\Y.heap[L+2]?=some (.cells (wrC (wrL pre)).toArray 276 (0,0))/\Y.heap[L+3]?=some (.cells [i64 pre.length].toArray 3 (0,0))/\Below (L+2) W Y:=⟨_,rfl⟩;obtain⟨F0,hF0⟩:∃ F0:Nat->Prop,F0=fun k=>k=L+2\/k=L+3:=⟨_,rfl⟩;refine zeQ (sgOk _) rfl (lb := #[AtR V.heap.size,AtR (V.heap.size+1)]) rfl rfl hI (Nat.le_refl _) (fun k hk=>⟨?_,rfl⟩) (fun pre vs W ⟨R,b,_,h,_⟩=>by rw [h];rfl) (by decide)
   F0 (fun pre F Y=>F=F0/\J pre Y) (fun _ _ _ _=>False) (fun k hk=>?_)
   (joG (F:=F0) (J:=J) (fun k h=>by rw [hF0] at h;omega) (fun s A h=>by rw [hJ] at h;exact h.1) (fun pre A B h hb=>by
    rw [hJ] at h ⊢;obtain⟨h1,h2,h3,h4⟩:=h;exact⟨Nat.le_trans h1 hb.size,zbI hb (by omega) h2,zbI hb (by omega) h3,h4.trans (hb.mono (by omega))⟩))
   (fun ex=>⟨fun _ _ _ _ h=>h.elim,fun _ _ _ _ h=>h.elim⟩) ⟨rfl,by rw [hJ];exact⟨Nat.le_refl _,zab hbW f2,zab hbW f3,Below.refl _ _⟩⟩ ?_ ?_ ?_
  ·rcases hk with ((rfl | rfl) | ⟨a,ha,rfl⟩ | ⟨a,ha,rfl⟩) | h
   ·omega
   ·omega
   ·have:=hqb a ha;have:=hwW.size;omega
   ·have:=hpb a ha;have:=hwW.size;omega
   ·exact h.elim
  ·rw [hF0];rcases hk with (rfl | rfl) | ⟨a,ha,rfl⟩ | ⟨a,ha,rfl⟩
   ·omega
   ·omega
   ·have:=hqb a ha;omega
   ·have:=hpb a ha;omega
  ·rintro yl pre x vs F Y hyl hpre hJ0 ⟨R,b,hlast,rfl,fR⟩ hfy ⟨lo,hlo⟩;have hxR:x=R:=by simpa using hlast
   subst hxR;refine⟨rfl,F,KeepsG.refl _ _,hJ0,?_⟩;rintro o Y2 hY2 ⟨rfl,hJ2⟩;rw [hJ] at hJ2;obtain⟨h1,h2,h3,h4⟩:=hJ2;have hbl:b≠yl:=fun e=>by
    rw [e] at fR;rw [fR] at hlo
    cases hlo
   have fR2:RunH Y2 b x:=by rw [hY2];exact (zai hbl).trans fR
   have r1:=hR x (hpre.subset (by simp));have hpl:pre.length<xs.length:=by
    obtain⟨t,ht⟩:=hpre;rw [<- ht];simp only [lap,List.length_cons];omega
   refine⟨_,zac (zaa h3) (i:=0) rfl,?_⟩;refine brN (decide_eq_false (by omega)) ?_;refine⟨_,zac (zaa h3) (i:=0) rfl,?_⟩;refine⟨((pre.length+1:Nat):Int),(zaf (by omega)).trans (by omega),?_⟩;refine zal k3 h3 (o:=0) (v:=i64 (pre.length+1:Nat)) rfl rfl (by show 0<1;decide) rfl fun Z fZ gZ sZ=>?_;have fRZ:RunH Z b x:=(gZ.block b (hlt fR2) (fun e=>by
    have e:b=L+3:=(by simpa using e);rw [e] at fR2;rw [fR2] at h3;simp at h3)).trans fR2
   have f2Z:=(gZ.block (L+2) (hlt h2) (by simp)).trans h2;have kZ:KeepsG F F Y2 Z:=KeepsG.grown gZ (by rw [hF0];exact .inr rfl);have bZ:Below (L+2) W Z:=h4.trans (zak gZ (by omega) (by omega));refine DrawE.ord [] [0,1,2,3,4,5,6,7,8,9] (by kernel_rfl) ?_;have hdZ:Bw Z Z.drew:=(Below.refl _ _).drew;refine⟨_,zac (zaa (hdr fRZ)) (i:=18) (zcR x),?_⟩;refine⟨x.many,rfl,r1,?_⟩;have ecut:zaI (some ⟨b,0+19,none⟩) 24 0 7=some ⟨b,19,none⟩:=by rw [zbn,Nat.zero_add]
   refine⟨Nat,fun i=>⟨[(6,AtR (L+2)),(7,AtR (L+3)),(29,.slice (some ⟨b,19,none⟩) (x.many-0) (24-0)),(30,i64 (x.many:Nat)),(31,i64 (i:Nat))],[]⟩,
    fun i T=>i<=x.many/\T.heap[L+2]?=some (.cells (wrC fun v=>wrL pre v||wrE x i v).toArray 276 (0,0))/\RunH T b x/\T.heap[L+3]?=some (.cells [i64 (pre.length+1:Nat)].toArray 3 (0,0))/\KeepsG F F Y2 T/\Below (L+2) W T,fun i=>x.many-i,0,
    ⟨.cons rfl (.cons rfl (.cons (by rw [<- ecut];rfl) (.cons rfl (.cons rfl .nil)))),rfl⟩,⟨Nat.zero_le _,?_,hdr fRZ,hdr fZ,kZ.trans (KeepsG.below hdZ fun k h => .inl h),bZ.drew⟩,?_⟩
   ·have e:(fun v=>wrL pre v||wrE x 0 v)=wrL pre:=by
     funext v;show (wrL pre v||false)=_;rw [Bool.or_false]
    rw [e];exact f2Z
   rintro i T ⟨hi,t2,tR,t3,kT,bT⟩;have hTs:=kT.size;refine biE (fun hc=>?_) fun hc=>?_
   ·have hc:(i:Int)<(x.many:Int):=dT hc;have him:i<x.many:=(by omega);refine⟨i,rfl,him,?_⟩;have hev:zax T ⟨b,19+i*7,none⟩ (evE.enc (x.ev i)):=by
     have:=zaw (n:=i*7) (m:=7) (zlp tR);rw [zoL x.ev (show i<24 by omega)] at this;exact this
    refine⟨evE.enc (x.ev i),rfl,hev,hlt tR,?_⟩;refine zap (X:=T) (v := .agg (evE.enc (x.ev i)).toArray) k225 rfl rfl rfl fun T2 hb2 fT2 sT2=>?_;have k2:KeepsG F F Y2 T2:=kT.trans (KeepsG.below hb2 fun k h => .inl h);have b2:Below (L+2) W T2:=bT.trans (hb2.mono (by omega));have n1:=zm7 x i;refine⟨_,zac (zaa fT2) (i:=1) rfl,?_⟩;have u2:=zab hb2 t2;have uR:=zab hb2 tR;have u3:=zab hb2 t3;refine biE (fun hk=>?_) fun hk=>?_
    ·have hk:(x.ev i).k=2:=zbe.1 (dT hk);refine⟨_,zac (zaa fT2) (i:=3) rfl,?_⟩;refine⟨((x.ev i).v).toNat,rfl,((x.ev i).v).toNat_lt,?_⟩;refine zal k4 u2 (o:=0+((x.ev i).v).toNat*1) (v := .bool true) rfl rfl (by rw [zk4];have:=((x.ev i).v).toNat_lt;omega) rfl fun T3 fT3 gT3 sT3=>?_;rw [Nat.zero_add,Nat.mul_one,zoT] at fT3;have k3:KeepsG F F Y2 T3:=k2.trans (KeepsG.grown gT3 (by rw [hF0];exact .inl rfl));have hT2s:=k2.size;refine nxI (by omega) ?_;refine⟨i+1,(cvE rfl rfl),⟨him,?_,(gT3.block b (hlt uR) (fun e=>by
      have e:b=L+2:=(by simpa using e);rw [e] at uR;rw [uR] at u2;simp at u2)).trans uR,(gT3.block (L+3) (hlt u3) (by simp)).trans u3,k3,b2.trans (zak gT3 (by omega) (Nat.le_refl _))⟩,zdc (by omega)⟩
     have e:(fun v=>wrL pre v||wrE x (i+1) v)=fun v=>(wrL pre v||wrE x i v)||decide ((x.ev i).v=v):=by
      funext v;rw [n1,decide_eq_true hk,Bool.true_and,Bool.or_assoc]
     rw [e];exact fT3
    ·have hk:¬ (x.ev i).k=2:=fun e=>(dF hk) (by rw [e];rfl);refine nxI (by omega) ?_;refine⟨i+1,(cvE rfl rfl),⟨him,?_,uR,u3,k2,b2⟩,zdc (by omega)⟩;have e:(fun v=>wrL pre v||wrE x (i+1) v)=fun v=>(wrL pre v||wrE x i v):=by
      funext v;rw [n1,decide_eq_false hk,Bool.false_and,Bool.or_false]
     rw [e];exact u2
   ·have hc:¬ (i:Int)<(x.many:Int):=dF hc;obtain rfl:i=x.many:=(by omega);refine⟨F,⟨rfl,?_⟩,kT⟩;rw [hJ];refine⟨by omega,?_,by rw [lap];exact t3,bT⟩;have e:wrL (pre++[x])=fun v=>wrL pre v||wrE x x.many v:=by
     funext v;exact zm6 pre x v
    rw [e];exact t2
  ·rintro D1 F Y hD hfD ⟨rfl,hj⟩ hdef;rw [hJ] at hj;obtain⟨h1,h2,h3,h4⟩:=hj;exact⟨D1,(cvE rfl rfl),h2,hdef,by omega,(hbW.mono (by omega)).trans h4⟩
  ·rintro D ex pre F Y hD hfD hpre h;exact h.elim
 clear f2 f3;rintro D1 U ⟨f2,fD1,hLD,bU⟩;have f0:U.heap[L]?=some (.cells #[.slice none 0 0] 42 (0,0)):=(bU.block L (by omega)).trans f0;have f1:U.heap[L+1]?=some (.cells #[.bool false] 4 (0,0)):=(bU.block (L+1) (by omega)).trans f1;have hwU:Bw w U:=hwV.trans (bU.mono (by omega));have sU:=hlt f2;have sD:=hlt fD1;clear bU hwV;refine⟨List UInt8×Option Addr×Nat,fun s=>⟨[(4,AtR L),(5,AtR (L+1)),(11,.slice s.2.1 s.1.length s.2.2)],[{ target := .collected D1,args := #[] }]⟩,fun s Z=>s.1=zbO xs/\OwnS zaH 5 U.heap.size Z s.2.1 s.2.2 s.1/\Bw U Z,?_,?_⟩
 ·refine⟨wrC (wrL xs),zk4 _,zaa f2,hlt f2,?_⟩;refine⟨Nat×Option Addr×Nat,fun s=>⟨[(4,AtR L),(5,AtR (L+1)),(11,.slice s.2.1 ((zaL.take s.1).filter (wrL xs)).length s.2.2),(42,.agg (wrC (wrL xs)).toArray),(43,i64 (s.1:Nat))],[{ target := .collected D1,args := #[] }]⟩,
   fun s Z=>s.1<=256/\OwnS zaH 5 U.heap.size Z s.2.1 s.2.2 ((zaL.take s.1).filter (wrL xs))/\Bw U Z,fun s=>256-s.1,(0,none,0),
   (cvE rfl rfl),⟨Nat.zero_le _,OwnS.nil,Below.refl _ _⟩,?_⟩
  rintro⟨k,r,c⟩ Z ⟨hk,ho,hbZ⟩;dsimp only at hk ho ⊢;have hZs:=hbZ.size;refine biE (fun hc=>?_) fun hc=>?_
  ·have hc:(k:Int)<256:=dT hc;have hk2:k<256:=by omega
   have tk:zaL.take (k+1)=zaL.take k++[UInt8.ofNat k]:=by
    obtain⟨hlb,hbk⟩:=zob hk2;rw [tsg hlb,hbk]
   have fl:(zaL.take (k+1)).filter (wrL xs)=(zaL.take k).filter (wrL xs)++(if wrL xs (UInt8.ofNat k)=true then [UInt8.ofNat k] else []):=by
    rw [tk,List.filter_append,zkI]
   have hfl:((zaL.take k).filter (wrL xs)).length<=256:=by
    have h1:=List.length_filter_le (wrL xs) (zaL.take k);rw [List.length_take] at h1;omega
   refine⟨k,rfl,hk2,?_⟩;refine zdq (by rw [Nat.mul_one];exact zk5 _ hk2) ?_;refine biE (fun hv=>?_) fun hv=>?_
   ·rw [if_pos hv] at fl;refine⟨_,w8N k,?_⟩;refine⟨⟨by decide,by decide,rfl⟩,zaH.enc (UInt8.ofNat k),rfl,?_⟩;have hba:Bw Z (Z.alloc (.cells (zaH.enc (UInt8.ofNat k)).toArray 5)):=zba _ _;refine zbi (E:=zaH) (T:=5) (B:=U.heap.size) (l:=(zaL.take k).filter (wrL xs)) (news:=[UInt8.ofNat k]) (cap:=c) (m:=1) Tryz.underlying42 k5 rfl rfl rfl (ho.below hba) rfl (zaW zaH (UInt8.ofNat k)) (by have:=hba.size;omega) (by omega) (by show (((zaL.take k).filter (wrL xs)).length+1)*1<=_;omega) ?_;intro p2 c2 T oT gT hbT hat;refine nxI (by omega) ?_;refine⟨(k+1,p2,c2),⟨.cons rfl (.cons rfl (.cons (by rw [fl];rfl) (.cons rfl (.cons rfl .nil)))),rfl⟩,⟨hk2,by show OwnS zaH _ _ _ _ _ ((zaL.take (k+1)).filter (wrL xs));rw [fl];exact oT,(hbZ.trans (hba.mono hZs)).trans hbT⟩,zdc (by omega)⟩
   ·have hv:wrL xs (UInt8.ofNat k)=false:=hv;rw [hv,if_neg Bool.false_ne_true,List.append_nil] at fl;refine nxI (by omega) ?_;exact⟨(k+1,r,c),⟨.cons rfl (.cons rfl (.cons (by rw [fl];rfl) (.cons rfl (.cons rfl .nil)))),rfl⟩,⟨hk2,by show OwnS zaH _ _ _ _ _ ((zaL.take (k+1)).filter (wrL xs));rw [fl];exact ho,hbZ⟩,zdc (by omega)⟩
  ·have hc:¬ (k:Int)<256:=dF hc;obtain rfl:k=256:=by omega
   have e:(zaL.take 256).filter (wrL xs)=zbO xs:=by
    rw [zkd,List.take_of_length_le (by unfold zaL;rw [List.length_map,List.length_range];exact Nat.le_refl _)]
   rw [e] at ho;exact⟨(zbO xs,r,c),⟨.cons rfl (.cons rfl (.cons (by rw [e];rfl) .nil)),rfl⟩,rfl,ho,hbZ⟩
 rintro⟨ys,r,c⟩ Z ⟨rfl,ho,hbZ⟩;dsimp only at ho ⊢;have hZs:=hbZ.size;have g0:=zab hbZ f0;have g1:=zab hbZ f1;have gD:=zab hbZ fD1;refine zal k42 g0 (o:=0) (v := .slice r (zbO xs).length c) rfl rfl (by show 0<1;decide) rfl fun Z1 fZ1 gZ1 sZ1=>?_;have g1':=(gZ1.block (L+1) (hlt g1) (by simp)).trans g1;refine zal k4 g1' (o:=0) (v := .bool true) rfl rfl (by show 0<1;decide) rfl fun Z2 fZ2 gZ2 sZ2=>?_;have k2:∀ k,k<Z.heap.size->k≠L->k≠L+1->Z2.heap[k]?=Z.heap[k]?:=fun k hk n1 n2=>(gZ2.block k (by rw [sZ1];exact hk) (by simpa using n2)).trans (gZ1.block k hk (by simpa using n1));have fZ1':=(gZ2.block L (hlt fZ1) (by simp)).trans fZ1;refine⟨_,rfl,(k2 D1 (hlt gD) (by omega) (by omega)).trans gD,?_⟩;refine⟨.slice r (zbO xs).length c,?_,.bool true,?_,⟨r,c,rfl,?_⟩,?_⟩
 ·exact zac (zaa ((zai (by omega)).trans fZ1')) (i:=0) rfl
 ·exact zac (zaa ((zai (by omega)).trans fZ2)) (i:=0) rfl
 ·refine OwnS.lower (ho.same fun a ha=>?_) hwU.size;have h:=zcB ho ha;exact (zai (by omega)).trans (k2 _ h.2.1 (by omega) (by omega))
 ·have hwZ:=zst hwU hbZ;exact zaP ((hwZ.trans (zak gZ1 hwZ.size (by omega))).trans (zak gZ2 (by rw [sZ1];exact hwZ.size) (by omega))) (by omega) _
end
theorem zew {a b:Nat}:decide ((a:Int)<(b:Int))=decide (a<b):=by rw [decide_eq_decide];omega
def zbK (c:Cnd):Bool:=decide (c.thread=0)&&(decide (c.n=0)&&decide (c.val=0))
theorem zbU {threads locs d:Nat} (c:Cnd):zcv threads locs (d+1) c=(if c.kind=0 then zbK c&&decide (c.kids.length=0) else
  if c.kind=1 then decide (c.thread.toNat<threads)&&(decide (c.n.toNat<8)&&decide (c.kids.length=0)) else
  if c.kind=2 then decide (c.n.toNat<locs)&&(decide (c.thread=0)&&decide (c.kids.length=0)) else
  if c.kind=3\/c.kind=4 then zbK c&&(decide (2<=c.kids.length)&&c.kids.all (zcv threads locs d)) else
  if c.kind=5 then zbK c&&(decide (c.kids.length=1)&&c.kids.all (zcv threads locs d)) else false):=by
 obtain⟨k,t,n,v,kids⟩:=c;rfl
def zrA (c:Cnd):Prop:=(c.kind=3\/c.kind=4)/\zbK c=true/\2<=c.kids.length\/c.kind=5/\zbK c=true/\c.kids.length=1
theorem zkK {threads locs d:Nat} {c:Cnd} (h:zrA c):zcv threads locs (d+1) c=c.kids.all (zcv threads locs d):=by
 rw [zbU];rcases h with ⟨h1,h2,h3⟩ | ⟨h1,h2,h3⟩
 ·rw [if_neg (by rcases h1 with h | h <;> rw [h] <;> decide),if_neg (by rcases h1 with h | h <;> rw [h] <;> decide),if_neg (by rcases h1 with h | h <;> rw [h] <;> decide),if_pos h1,h2,decide_eq_true h3];rfl
 ·rw [if_neg (by rw [h1];decide),if_neg (by rw [h1];decide),if_neg (by rw [h1];decide),if_neg (by rw [h1];decide),if_pos h1,h2,decide_eq_true h3];rfl
theorem zi1 {B threads locs:Nat} {w:World} (hB:B<=w.heap.size):∀ (d:Nat) (c:Cnd) (b o:Nat) (p:Option Addr) (cap:Nat),d<=1000->b<B->zax w ⟨b,o,none⟩ (zar c p cap)->KidsV B w p c.kids ->
  Calls Tryz.prog 129 #[.pointer (some ⟨b,o,none⟩),i64 threads,i64 locs,i64 d] w fun e w'=>e = .returned (.bool (zcv threads locs d c))/\w=w':=by
 intro d
 induction d with
 | zero =>
  intro c b o p cap _ hb hc hk;refine cofE 141 [.pointer (some ⟨b,o,none⟩),i64 threads,i64 locs,i64 0] Tryz.func129 ?_;refine brT ?_;exact⟨rfl,rfl⟩
 | succ d ih =>
  intro c b o p cap hd hb hc hk;refine cofM 141 [.pointer (some ⟨b,o,none⟩),i64 threads,i64 locs,i64 (d+1:Nat)] (.s .p (.s .p (.c .p (.c .p .p)))) Tryz.func129 ?_;have hbl:b<w.heap.size:=nL hb hB;refine biE (fun h=>?_) fun h=>?_
  ·have h:((d+1:Nat):Int)=0:=dT h;omega
  clear h;refine⟨Unit,fun _=>⟨[(0,.pointer (some ⟨b,o,none⟩)),(1,i64 threads),(2,i64 locs),(3,i64 (d+1:Nat)),(9,.bool (zbK c))],[]⟩,fun _ X=>w=X,?_,?_⟩
  ·have fin:∀ {v:Bool},v=zbK c->some (Value.bool v)=some (.bool (zbK c)):=fun h=>by rw [h]
   refine⟨_,zac hc (i:=1) rfl,?_⟩;refine biE (fun h1=>?_) fun h1=>?_
   ·have h1:decide (c.thread=0)=true:=(u8d c.thread 0).symm.trans h1;refine⟨_,zac hc (i:=2) rfl,?_⟩;refine biE (fun h2=>?_) fun h2=>?_
    ·have h2:decide (c.n=0)=true:=(u8d c.n 0).symm.trans h2;refine⟨_,zac hc (i:=3) rfl,?_⟩;exact⟨(),⟨.cons rfl (.cons rfl (.cons rfl (.cons rfl (.cons (fin (by unfold zbK;rw [h1,h2];exact u8d c.val 0)) .nil)))),rfl⟩,rfl⟩
    ·have h2:decide (c.n=0)=false:=(u8d c.n 0).symm.trans h2;exact⟨(),⟨.cons rfl (.cons rfl (.cons rfl (.cons rfl (.cons (fin (by unfold zbK;rw [h1,h2];rfl)) .nil)))),rfl⟩,rfl⟩
   ·have h1:decide (c.thread=0)=false:=(u8d c.thread 0).symm.trans h1;refine brF ?_;exact⟨(),⟨.cons rfl (.cons rfl (.cons rfl (.cons rfl (.cons (fin (by unfold zbK;rw [h1];rfl)) .nil)))),rfl⟩,rfl⟩
  rintro _ _ rfl;refine⟨Unit,fun _=>⟨[(0,.pointer (some ⟨b,o,none⟩)),(1,i64 threads),(2,i64 locs),(3,i64 (d+1:Nat))],[]⟩,fun _ X=>zrA c/\w=X,?_,?_⟩
  ·have hkn:c.kids.length<=140737488351232:=by have:=hk.inv.1;omega
   refine⟨_,zac hc (i:=0) rfl,?_⟩;refine biE (fun h0=>?_) fun h0=>?_
   ·have h0:c.kind=0:=dT ((u8d c.kind 0).symm.trans h0);have e:zcv threads locs (d+1) c=(zbK c&&decide (c.kids.length=0)):=(by rw [zbU,if_pos h0]);rw [e];refine biE (fun h=>?_) fun h=>?_
    ·have h:zbK c=true:=h;refine⟨_,zac hc (i:=4) rfl,?_⟩;exact⟨rb (by rw [h,Bool.true_and];exact zc9),rfl⟩
    ·have h:zbK c=false:=h;exact⟨rb (by rw [h];rfl),rfl⟩
   have h0:¬ c.kind=0:=dF ((u8d c.kind 0).symm.trans h0);refine biE (fun h1=>?_) fun h1=>?_
   ·have h1:c.kind=1:=dT ((u8d c.kind 1).symm.trans h1);have e:zcv threads locs (d+1) c=(decide (c.thread.toNat<threads)&&(decide (c.n.toNat<8)&&decide (c.kids.length=0))):=(by rw [zbU,if_neg h0,if_pos h1]);rw [e];refine⟨_,zac hc (i:=1) rfl,?_⟩;refine⟨_,zaS _,?_⟩;refine biE (fun h=>?_) fun h=>?_
    ·have h:decide (c.thread.toNat<threads)=true:=zew.symm.trans h;refine⟨_,zac hc (i:=2) rfl,?_⟩;refine biE (fun h2=>?_) fun h2=>?_
     ·have h2:decide (c.n.toNat<8)=true:=(zew (b:=8)).symm.trans h2;refine⟨_,zac hc (i:=4) rfl,?_⟩;exact⟨rb (by rw [h,h2];exact zc9),rfl⟩
     ·have h2:decide (c.n.toNat<8)=false:=(zew (b:=8)).symm.trans h2;exact⟨rb (by rw [h,h2];rfl),rfl⟩
    ·have h:decide (c.thread.toNat<threads)=false:=zew.symm.trans h;refine brF ?_;exact⟨rb (by rw [h];rfl),rfl⟩
   have h1:¬ c.kind=1:=dF ((u8d c.kind 1).symm.trans h1);refine biE (fun h2=>?_) fun h2=>?_
   ·have h2:c.kind=2:=dT ((u8d c.kind 2).symm.trans h2);have e:zcv threads locs (d+1) c=(decide (c.n.toNat<locs)&&(decide (c.thread=0)&&decide (c.kids.length=0))):=(by rw [zbU,if_neg h0,if_neg h1,if_pos h2]);rw [e];refine⟨_,zac hc (i:=2) rfl,?_⟩;refine⟨_,zaS _,?_⟩;refine biE (fun h=>?_) fun h=>?_
    ·have h:decide (c.n.toNat<locs)=true:=zew.symm.trans h;refine⟨_,zac hc (i:=1) rfl,?_⟩;refine biE (fun h3=>?_) fun h3=>?_
     ·have h3:decide (c.thread=0)=true:=(u8d c.thread 0).symm.trans h3;refine⟨_,zac hc (i:=4) rfl,?_⟩;exact⟨rb (by rw [h,h3];exact zc9),rfl⟩
     ·have h3:decide (c.thread=0)=false:=(u8d c.thread 0).symm.trans h3;exact⟨rb (by rw [h,h3];rfl),rfl⟩
    ·have h:decide (c.n.toNat<locs)=false:=zew.symm.trans h;refine brF ?_;exact⟨rb (by rw [h];rfl),rfl⟩
   have h2:¬ c.kind=2:=dF ((u8d c.kind 2).symm.trans h2);have g34:∀ (hk34:c.kind=3\/c.kind=4),zcv threads locs (d+1) c=(zbK c&&(decide (2<=c.kids.length)&&c.kids.all (zcv threads locs d))):=fun hk34=>by
    rw [zbU,if_neg h0,if_neg h1,if_neg h2,if_pos hk34]
   refine biE (fun h3=>?_) fun h3=>?_
   ·have h3':decide ((c.kind.toNat:Int)=3)=true:=h3;have h3:c.kind=3\/c.kind=4 := .inl (dT ((u8d c.kind 3).symm.trans h3));refine brE h3' ?_;refine biE (fun h=>?_) fun h=>?_
    ·have h:(!zbK c)=true:=h;have h:zbK c=false:=(by simpa using h);refine brT ?_;exact⟨rb (by rw [g34 h3,h];rfl),rfl⟩
    ·have h:(!zbK c)=false:=h;have h:zbK c=true:=(by simpa using h);refine⟨_,zac hc (i:=4) rfl,?_⟩;refine biE (fun h4=>?_) fun h4=>?_
     ·have h4:(c.kids.length:Int)<2:=dT h4;exact⟨rb (by rw [g34 h3,decide_eq_false (by omega)];simp),rfl⟩
     ·have h4:¬ (c.kids.length:Int)<2:=dF h4;exact⟨(),(cvE rfl rfl),.inl ⟨h3,h,by omega⟩,rfl⟩
   have h3:¬ c.kind=3:=dF ((u8d c.kind 3).symm.trans h3);refine biE (fun h4=>?_) fun h4=>?_
   ·have h3:c.kind=3\/c.kind=4 := .inr (dT ((u8d c.kind 4).symm.trans h4));refine biE (fun h=>?_) fun h=>?_
    ·have h:(!zbK c)=true:=h;have h:zbK c=false:=(by simpa using h);refine brT ?_;exact⟨rb (by rw [g34 h3,h];rfl),rfl⟩
    ·have h:(!zbK c)=false:=h;have h:zbK c=true:=(by simpa using h);refine⟨_,zac hc (i:=4) rfl,?_⟩;refine biE (fun h4=>?_) fun h4=>?_
     ·have h4:(c.kids.length:Int)<2:=dT h4;exact⟨rb (by rw [g34 h3,decide_eq_false (by omega)];simp),rfl⟩
     ·have h4:¬ (c.kids.length:Int)<2:=dF h4;exact⟨(),(cvE rfl rfl),.inl ⟨h3,h,by omega⟩,rfl⟩
   have h4:¬ c.kind=4:=dF ((u8d c.kind 4).symm.trans h4);have h34:¬ (c.kind=3\/c.kind=4):=fun h=>h.elim h3 h4;refine biE (fun h5=>?_) fun h5=>?_
   ·have h5:c.kind=5:=dT ((u8d c.kind 5).symm.trans h5);have e:zcv threads locs (d+1) c=(zbK c&&(decide (c.kids.length=1)&&c.kids.all (zcv threads locs d))):=(by rw [zbU,if_neg h0,if_neg h1,if_neg h2,if_neg h34,if_pos h5]);refine biE (fun h=>?_) fun h=>?_
    ·have h:(!zbK c)=true:=h;have h:zbK c=false:=(by simpa using h);refine brT ?_;exact⟨rb (by rw [e,h];rfl),rfl⟩
    ·have h:(!zbK c)=false:=h;have h:zbK c=true:=(by simpa using h);refine⟨_,zac hc (i:=4) rfl,?_⟩;refine biE (fun h4=>?_) fun h4=>?_
     ·have h4:(!decide ((c.kids.length:Int)=1))=true:=h4;have h4:¬ (c.kids.length:Int)=1:=(by simpa using h4);exact⟨rb (by rw [e,decide_eq_false (by omega)];simp),rfl⟩
     ·have h4:(!decide ((c.kids.length:Int)=1))=false:=h4;have h4:(c.kids.length:Int)=1:=(by simpa using h4);exact⟨(),(cvE rfl rfl),.inr ⟨h5,h,by omega⟩,rfl⟩
   have h5:¬ c.kind=5:=dF ((u8d c.kind 5).symm.trans h5);exact⟨rb (by rw [zbU,if_neg h0,if_neg h1,if_neg h2,if_neg h34,if_neg h5]),rfl⟩
  rintro _ _ ⟨ha,rfl⟩;rw [zkK ha];refine⟨_,zac hc (i:=4) rfl,?_⟩;obtain⟨hn,b1,o1,hp,hks⟩:=hk.inv;refine⟨Nat,fun k=>⟨[(0,.pointer (some ⟨b,o,none⟩)),(1,i64 threads),(2,i64 locs),(3,i64 (d+1:Nat)),(124,i64 c.kids.length),(125,i64 (k:Nat))],[]⟩,fun k X=>k<=c.kids.length/\(∀ x∈c.kids.take k,zcv threads locs d x=true)/\w=X,fun k=>c.kids.length-k,0,
   (cvE rfl rfl),⟨Nat.zero_le _,by simp,rfl⟩,?_⟩
  rintro k _ ⟨hk,hall,rfl⟩;dsimp only at hk hall ⊢;refine biE (fun hc2=>?_) fun hc2=>?_
  ·have hc2:(k:Int)<(c.kids.length:Int):=dT hc2;have hkl:k<c.kids.length:=by omega
   rcases hp with hp | rfl
   ·omega
   obtain⟨q,cq,hb1,hq,hkq⟩:=hks k hkl;refine⟨_,zac hc (i:=4) rfl,?_⟩;refine⟨k,rfl,hkl,?_⟩;refine⟨(d:Int),(zaf (by omega)).trans (by omega),?_⟩;refine cmo (ih c.kids[k] b1 (o1+k*5) q cq (by omega) hb1 hq hkq) ?_;rintro e _ ⟨rfl,rfl⟩;refine biE (fun h=>?_) fun h=>?_
   ·have h:(!zcv threads locs d c.kids[k])=true:=h;refine⟨rb ?_,rfl⟩;symm;rw [List.all_eq_false];exact⟨c.kids[k],gM _,by simpa using h⟩
   ·have h:(!zcv threads locs d c.kids[k])=false:=h;refine⟨_,(zaf (by omega)).trans rfl,?_⟩;refine⟨k+1,(cvE rfl rfl),⟨hkl,?_,rfl⟩,zdc (by omega)⟩;rw [tsg hkl];intro x hx;rcases List.mem_append.1 hx with hx | hx
    ·exact hall x hx
    ·simp only [List.mem_singleton] at hx;rw [hx];simpa using h
  ·have hc2:¬ (k:Int)<(c.kids.length:Int):=dF hc2;obtain rfl:k=c.kids.length:=by omega
   rw [List.take_length] at hall;exact⟨rb (List.all_eq_true.2 hall).symm,rfl⟩
theorem zrL {B threads locs cap:Nat} {p:Option Addr} {c:Cnd} {w:World} (hB:B<=w.heap.size) (hk:KidsV B w p c.kids) :
  CB 83 #[.agg (zar c p cap).toArray,i64 threads,i64 locs] w (.bool (zcv threads locs 20 c)):=by
 refine cofE 10 [.agg (zar c p cap).toArray,i64 threads,i64 locs] Tryz.func83 ?_;have hb:Bw w (w.alloc (.cells (zar c p cap).toArray 29)):=zba w _;have hn:=hnew w (.cells (zar c p cap).toArray 29);refine cmo (zi1 (B:=w.heap.size+1) (by rw [wz];omega) 20 c w.heap.size 0 p cap (by omega) (by omega) (zaa hn) ((hk.kept (hb.mono hB)).wider (by omega))) ?_;rintro e _ ⟨rfl,rfl⟩;exact⟨rfl,hb⟩
theorem ziJ {g:Nat} {p:Prg} {p1 p2 p3 p4:Option Addr} {c1 c2 c3 c4 B:Nat} {w:World} (hc:zax w ⟨g,0,none⟩ (zbZ p p1 c1 p2 c2 p3 c3 p4 c4)) (hg:g<w.heap.size) (h1:RowB namE B w p1 p.locs) (hB:B<=w.heap.size) (hcap:p.locs.length<=c1) (hl:PrgLen p) :
  CB 75 #[At0 g] w (.bool (zgb p)):=by
 refine cofM 56 [At0 g] (.s .p (.c .p .p)) Tryz.func75 ?_;have hbd:Bw w w.drew:=(Below.refl _ w).drew;have hcd:zax w.drew ⟨g,0,none⟩ (zbZ p p1 c1 p2 c2 p3 c3 p4 c4):=zaq hbd hc;have h1d:SlR namE w.drew p1 p.locs:=(h1.below (hbd.mono hB)).slr (Nat.le_trans hB hbd.size);have hln:=hl.locs;refine⟨Unit,fun _=>⟨[(0,At0 g)],[]⟩,fun _ X=>(1<=p.locs.length/\p.locs.length<=6/\p.init.length=p.locs.length)/\X=w.drew,?_,?_⟩
 ·refine DrawE.ord [] [0,1,2,3,4,5,6,7,8,9,10,11,12,13,14,15,16,17,18,19,20,21,22,23,24,25,26] (by kernel_rfl) ?_;refine⟨_,zac hcd (i:=1) rfl,?_⟩;refine biE (fun ha=>?_) fun ha=>?_
  ·have ha:(p.locs.length:Int)<1:=dT ha;refine brT ?_;refine brT ?_;exact⟨rb (by unfold zgb;rw [decide_eq_false (by omega)];rfl),hbd⟩
  ·have ha:¬ (p.locs.length:Int)<1:=dF ha;refine⟨_,zac hcd (i:=1) rfl,?_⟩;refine biE (fun hd=>?_) fun hd=>?_
   ·have hd:(6:Int)<(p.locs.length:Int):=dT hd;refine brT ?_;exact⟨rb (by unfold zgb;rw [decide_eq_false (p:=p.locs.length<=6) (by omega)];simp),hbd⟩
   ·have hd:¬ (6:Int)<(p.locs.length:Int):=dF hd;refine⟨_,zac hcd (i:=2) rfl,?_⟩;refine⟨_,zac hcd (i:=1) rfl,?_⟩;refine biE (fun he=>?_) fun he=>?_
    ·have he:(!decide ((p.init.length:Int)=(p.locs.length:Int)))=true:=he;have he:¬ (p.init.length:Int)=(p.locs.length:Int):=(by simpa using he);exact⟨rb (by unfold zgb;rw [decide_eq_false (p:=p.init.length=p.locs.length) (by omega)];simp),hbd⟩
    ·have he:(!decide ((p.init.length:Int)=(p.locs.length:Int)))=false:=he;have he:(p.init.length:Int)=(p.locs.length:Int):=(by simpa using he);exact⟨(),(cvE rfl rfl),⟨by omega,by omega,by omega⟩,rfl⟩
 rintro _ _ ⟨⟨l1,l6,li⟩,rfl⟩;have hdef:zgb p=zd9 [] p.locs:=by unfold zgb;rw [decide_eq_true l1,decide_eq_true l6,decide_eq_true li];rfl
 rw [hdef];refine⟨_,zac hcd (i:=1) rfl,?_⟩;refine⟨Nat,fun k=>⟨[(0,At0 g),(35,.slice p1 p.locs.length c1),(36,i64 p.locs.length),(37,i64 (k:Nat))],[]⟩,fun k X=>k<=p.locs.length/\zd9 (p.locs.take k) (p.locs.drop k)=zd9 [] p.locs/\X=w.drew,fun k=>p.locs.length-k,0,
  (cvE rfl rfl),⟨Nat.zero_le _,rfl,rfl⟩,?_⟩
 rintro k _ ⟨hk,hna,rfl⟩;dsimp only at hk hna ⊢;refine biE (fun hc2=>?_) fun hc2=>?_
 ·have hc2:(k:Int)<(p.locs.length:Int):=dT hc2;have hkl:k<p.locs.length:=by omega
  obtain⟨b,o,rfl,hb,hat⟩:=h1d.at hkl;have hbk:Bw w w.drew:=hbd;refine⟨k,rfl,hkl,?_⟩;refine⟨_,zac (hat k hkl) (i:=0) rfl,?_⟩;have hs:p.locs[k].length<=140737488351232:=hl.loc _ (gM _);have hstep:zd9 [] p.locs=(zfD p.locs[k]&&(!((p.locs.take k).any fun q=>decide (q=p.locs[k]))&&zd9 (p.locs.take (k+1)) (p.locs.drop (k+1)))):=by
   rw [<- hna,List.drop_eq_getElem_cons hkl,tsg hkl];rfl
  refine cmo (zrE p.locs[k] hs _) ?_;rintro e _ ⟨rfl,rfl⟩;refine biE (fun h=>?_) fun h=>?_
  ·have h:(!zfD p.locs[k])=true:=h;have h:zfD p.locs[k]=false:=by simpa using h
   refine brT ?_;exact⟨rb (by rw [hstep,h];rfl),hbd⟩
  ·have h:(!zfD p.locs[k])=false:=h;have h:zfD p.locs[k]=true:=by simpa using h
   refine⟨_,zac hcd (i:=1) rfl,?_⟩;refine⟨k,rfl,by omega,?_⟩;have hsub:SlR namE w.drew (zaI (some ⟨b,o,none⟩) c1 0 1) (p.locs.take k):=SlR.sub h1d (lo:=0) (hi:=k) (Nat.zero_le _) (by omega) hcap;have htl:(p.locs.take k).length=k:=by rw [List.length_take];omega
   have hcn:=zkU (zaI (some ⟨b,o,none⟩) c1 0 1) (c1-0) (p.locs.take k) p.locs[k] w.drew hsub (by omega);rw [htl] at hcn;refine cmo hcn ?_;rintro e _ ⟨rfl,rfl⟩;refine biE (fun h5=>?_) fun h5=>?_
   ·have h5:((p.locs.take k).any fun q=>decide (q=p.locs[k]))=true:=h5;exact⟨rb (by rw [hstep,h5];simp),hbd⟩
   ·have h5:((p.locs.take k).any fun q=>decide (q=p.locs[k]))=false:=h5;refine⟨_,(zaf (by omega)).trans rfl,?_⟩;exact⟨k+1,(cvE rfl rfl),⟨hkl,by rw [hstep,h,h5];rfl,rfl⟩,zdc (by omega)⟩
 ·have hc2:¬ (k:Int)<(p.locs.length:Int):=dF hc2;obtain rfl:k=p.locs.length:=by omega
  rw [List.drop_length] at hna;exact⟨rb hna,hbd⟩
structure DmV (B:Nat) (X:World) (g bx:Nat) (p:Prg):Prop where
 hB:B<=X.heap.size
 hg:g<X.heap.size
 len:PrgLen p
 h:∃ p1 c1 p2 c2 p3 c3 p4 c4,zax X ⟨g,0,none⟩ (zbZ p p1 c1 p2 c2 p3 c3 p4 c4)/\RowB namE B X p1 p.locs/\RowB zaH B X p2 p.init/\ThrsV B X p3 p.threads/\KidsV B X p4 p.cond.kids/\p.locs.length<=c1
 b:X.heap[bx]?=some (.cells #[At0 g] 90 (0,0))
 G:GlobC X
theorem DmV.below {B:Nat} {X Y:World} {g bx:Nat} {p:Prg} (h:DmV B X g bx p) (hb:Bw X Y):DmV B Y g bx p:=by
 obtain⟨p1,c1,p2,c2,p3,c3,p4,c4,h0,h1,h2,h3,h4,h5⟩:=h.h;have hb':=hb.mono h.hB;exact⟨Nat.le_trans h.hB hb.size,nL h.hg hb.size,h.len,⟨p1,c1,p2,c2,p3,c3,p4,c4,zaq hb h0,h1.below hb',h2.below hb',h3.below hb',h4.kept hb',h5⟩,zab hb h.b,h.G.below hb⟩
def zlv (sel:Bool) (bx:Nat):Value:=match sel with
 | false => .func (.func 77) #[] #[]
 | true => .func (.func 79) #[] #[.pointer (some ⟨bx,0,none⟩)]
def zdD (sel:Bool) (p:Prg) (l:List InsD):Bool:=match sel with
 | false=>decide (l.length<=12)
 | true=>zbk l p.locs.length
section
variable {B g bx:Nat} {p:Prg} {w:World}
theorem zo3 (q:Option Addr) (cap:Nat) (l:List InsD):Calls Tryz.prog 77 #[.slice q l.length cap] w fun e w'=>e = .returned (.bool (decide (l.length<=12)))/\w=w':=by
 refine cofE 6 [.slice q l.length cap] Tryz.func77 ?_;refine⟨rb ?_,rfl⟩;rw [decide_eq_decide];show ((l.length:Int)<=12)↔_;omega
theorem znf (h:DmV B w g bx p) {q:Option Addr} {cap:Nat} {l:List InsD} (hl:SlR insE w q l) (hn:l.length<=140737488351232) :
  CB 79 #[.slice q l.length cap,At0 bx] w (.bool (zbk l p.locs.length)):=by
 refine cofE 11 [.slice q l.length cap,At0 bx] Tryz.func79 ?_;obtain⟨p1,c1,p2,c2,p3,c3,p4,c4,h0,h1,h2,h3,h4,h5⟩:=h.h;refine⟨_,zac (zaa h.b) (i:=0) rfl,?_⟩;refine⟨_,zac h0 (i:=1) rfl,?_⟩;refine cmo (zka hl h.G hn) ?_;rintro e V ⟨rfl,hb⟩;exact⟨rfl,hb⟩
theorem zmh (sel:Bool) (h:DmV B w g bx p):CB 71 #[zlv sel bx,At0 bx] w (.bool (p.threads.all (zdD sel p))):=by
 refine cofE 20 [zlv sel bx,At0 bx] Tryz.func71 ?_;obtain⟨p1,c1,p2,c2,p3,c3,p4,c4,h0,h1,h2,h3,h4,h5⟩:=h.h;obtain⟨xs,hxs,hr,hx⟩:=h3;have hlen:p.threads.length=xs.length:=by rw [<- hxs,List.length_map]
 have hln:=h.len.threads;refine⟨_,zac (zaa h.b) (i:=0) rfl,?_⟩;refine⟨_,zac h0 (i:=3) rfl,?_⟩;refine⟨Nat,fun k=>⟨[(0,zlv sel bx),(1,At0 bx),(9,.slice p3 p.threads.length c3),(10,i64 p.threads.length),(11,i64 (k:Nat))],[]⟩,fun k X=>k<=p.threads.length/\(∀ l∈p.threads.take k,zdD sel p l=true)/\Bw w X,fun k=>p.threads.length-k,0,
  (cvE rfl rfl),⟨Nat.zero_le _,by simp,Below.refl _ _⟩,?_⟩
 rintro k X ⟨hk,hall,hbX⟩;dsimp only at hk hall ⊢;have hX:=h.below hbX;refine biE (fun hc=>?_) fun hc=>?_
 ·have hc:(k:Int)<(p.threads.length:Int):=dT hc;have hkl:k<p.threads.length:=by omega
  have hkx:k<xs.length:=by omega
  have e1:p.threads[k]=xs[k].1:=by simp [<- hxs]
  obtain⟨b,o,hp3,hat⟩:=hr.get;rcases hp3 with hp3 | rfl
  ·omega
  refine⟨k,rfl,hkl,?_⟩;obtain⟨hb1,ha1⟩:=hat k hkx;refine⟨_,zac (zbc (hbX.mono h.hB) hb1 ha1) (i:=0) rfl,?_⟩;have hrow:SlR insE X xs[k].2.1 xs[k].1:=((hx _ (gM hkx)).below (hbX.mono h.hB)).slr hX.hB;have hln1:xs[k].1.length<=140737488351232:=by rw [<- e1];exact h.len.thread _ (gM _)
  have hfin:zdD sel p xs[k].1=false->p.threads.all (zdD sel p)=false:=fun hf=>by
   rw [List.all_eq_false];exact⟨p.threads[k],gM _,by rw [e1,hf];simp⟩
  have hgo:zdD sel p xs[k].1=true->∀ l∈p.threads.take (k+1),zdD sel p l=true:=fun ht=>by
   rw [tsg hkl];intro x hx;rcases List.mem_append.1 hx with hx | hx
   ·exact hall x hx
   ·simp only [List.mem_singleton] at hx;rw [hx,e1];exact ht
  cases sel with
  | false =>
   refine cmo (zo3 xs[k].2.1 xs[k].2.2 xs[k].1) ?_;rintro e _ ⟨rfl,rfl⟩;refine biE (fun hb=>?_) fun hb=>?_
   ·have hb:(!zdD false p xs[k].1)=true:=hb;exact⟨rb (hfin (by simpa using hb)).symm,hbX⟩
   ·have hb:(!zdD false p xs[k].1)=false:=hb;refine⟨_,(zaf (by omega)).trans rfl,?_⟩;exact⟨k+1,(cvE rfl rfl),⟨hkl,hgo (by simpa using hb),hbX⟩,zdc (by omega)⟩
  | true =>
   refine cmo (znf hX (cap:=xs[k].2.2) hrow hln1) ?_;rintro e Y ⟨rfl,hbY⟩;refine biE (fun hb=>?_) fun hb=>?_
   ·have hb:(!zdD true p xs[k].1)=true:=hb;exact⟨rb (hfin (by simpa using hb)).symm,(zst hbX hbY)⟩
   ·have hb:(!zdD true p xs[k].1)=false:=hb;refine⟨_,(zaf (by omega)).trans rfl,?_⟩;exact⟨k+1,(cvE rfl rfl),⟨hkl,hgo (by simpa using hb),(zst hbX hbY)⟩,zdc (by omega)⟩
 ·have hc:¬ (k:Int)<(p.threads.length:Int):=dF hc;obtain rfl:k=p.threads.length:=by omega
  rw [List.take_length] at hall;exact⟨rb (List.all_eq_true.2 hall).symm,hbX⟩
theorem zro (h:DmV B w g bx p):CB 72 #[At0 bx] w (.bool (zeB p.name)):=by
 refine cofE 7 [At0 bx] Tryz.func72 ?_;obtain⟨p1,c1,p2,c2,p3,c3,p4,c4,h0,h1,h2,h3,h4,h5⟩:=h.h;refine⟨_,zac (zaa h.b) (i:=0) rfl,?_⟩;refine⟨_,zac h0 (i:=0) rfl,?_⟩;refine cmo (znU p.name h.len.name w) ?_;rintro e V ⟨rfl,hb⟩;exact⟨rfl,hb⟩
theorem zrn (h:DmV B w g bx p):CB 74 #[At0 bx] w (.bool (zgb p)):=by
 refine cofE 4 [At0 bx] Tryz.func74 ?_;obtain⟨p1,c1,p2,c2,p3,c3,p4,c4,h0,h1,h2,h3,h4,h5⟩:=h.h;refine⟨_,zac (zaa h.b) (i:=0) rfl,?_⟩;refine cmo (ziJ h0 h.hg h1 h.hB h5 h.len) ?_;rintro e V ⟨rfl,hb⟩;exact⟨rfl,hb⟩
def evV (bx:Nat):Value := .func (.func 71) #[] #[At0 bx]
theorem zrm (h:DmV B w g bx p) {ev:Nat} (hev:w.heap[ev]?=some (.cells #[evV bx] 136 (0,0))):CB 76 #[At0 bx,At0 ev] w (.bool (decide (1<=p.threads.length)&&(decide (p.threads.length<=4)&&p.threads.all fun l=>decide (l.length<=12)))):=by
 refine cofE 21 [At0 bx,At0 ev] Tryz.func76 ?_;obtain⟨p1,c1,p2,c2,p3,c3,p4,c4,h0,h1,h2,h3,h4,h5⟩:=h.h;refine⟨_,zac (zaa h.b) (i:=0) rfl,?_⟩;refine⟨_,zac h0 (i:=3) rfl,?_⟩;refine biE (fun ha=>?_) fun ha=>?_
 ·have ha:(1:Int)<=(p.threads.length:Int):=dT ha;refine⟨_,zac (zaa h.b) (i:=0) rfl,?_⟩;refine⟨_,zac h0 (i:=3) rfl,?_⟩;refine biE (fun hb=>?_) fun hb=>?_
  ·have hb:(p.threads.length:Int)<=4:=dT hb;refine⟨_,zac (zaa hev) (i:=0) rfl,?_⟩;refine cmo (zmh false h) ?_;rintro e V ⟨rfl,hbV⟩;refine⟨rb ?_,hbV⟩;rw [decide_eq_true (by omega),decide_eq_true (by omega),Bool.true_and,Bool.true_and];rfl
  ·have hb:¬ (p.threads.length:Int)<=4:=dF hb;exact⟨rb (by rw [decide_eq_false (p:=p.threads.length<=4) (by omega)];simp),Below.refl _ _⟩
 ·have ha:¬ (1:Int)<=(p.threads.length:Int):=dF ha;refine brF ?_;exact⟨rb (by rw [decide_eq_false (p:=1<=p.threads.length) (by omega)];rfl),Below.refl _ _⟩
theorem zrl (h:DmV B w g bx p) {ev:Nat} (hev:w.heap[ev]?=some (.cells #[evV bx] 136 (0,0))):CB 78 #[At0 ev,At0 bx] w (.bool (p.threads.all fun l=>zbk l p.locs.length)):=by
 refine cofE 6 [At0 ev,At0 bx] Tryz.func78 ?_;refine⟨_,zac (zaa hev) (i:=0) rfl,?_⟩;refine cmo (zmh true h) ?_;rintro e V ⟨rfl,hbV⟩;exact⟨rfl,hbV⟩
theorem zrk (h:DmV B w g bx p):CB 81 #[At0 bx] w (.bool (decide (p.ask=1)||(decide (p.ask=2)||decide (p.ask=3)))):=by
 refine cofE 21 [At0 bx] Tryz.func81 ?_;obtain⟨p1,c1,p2,c2,p3,c3,p4,c4,h0,h1,h2,h3,h4,h5⟩:=h.h;refine⟨_,zac (zaa h.b) (i:=0) rfl,?_⟩;refine⟨_,zac h0 (i:=4) rfl,?_⟩;refine biE (fun ha=>?_) fun ha=>?_
 ·have ha:decide (p.ask=1)=true:=(u8d p.ask 1).symm.trans ha;refine brT ?_;exact⟨rb (by rw [ha];rfl),Below.refl _ _⟩
 ·have ha:decide (p.ask=1)=false:=(u8d p.ask 1).symm.trans ha;refine⟨_,zac (zaa h.b) (i:=0) rfl,?_⟩;refine⟨_,zac h0 (i:=4) rfl,?_⟩;refine biE (fun hb=>?_) fun hb=>?_
  ·have hb:decide (p.ask=2)=true:=(u8d p.ask 2).symm.trans hb;exact⟨rb (by rw [ha,hb];rfl),Below.refl _ _⟩
  ·have hb:decide (p.ask=2)=false:=(u8d p.ask 2).symm.trans hb;refine⟨_,zac (zaa h.b) (i:=0) rfl,?_⟩;refine⟨_,zac h0 (i:=4) rfl,?_⟩;exact⟨rb (by rw [ha,hb];exact u8d p.ask 3),Below.refl _ _⟩
theorem zrj (h:DmV B w g bx p):CB 82 #[At0 bx] w (.bool (zcv p.threads.length p.locs.length 20 p.cond)):=by
 refine cofE 17 [At0 bx] Tryz.func82 ?_;have hbd:Bw w w.drew:=(Below.refl _ w).drew;have hd:=h.below hbd;obtain⟨p1,c1,p2,c2,p3,c3,p4,c4,h0,h1,h2,h3,h4,h5⟩:=hd.h;refine DrawE.ord [] [0,1,2,3,4,5,6,7,8,9,10,11,12,13,14,15] (by kernel_rfl) ?_;refine⟨_,zac (zaa hd.b) (i:=0) rfl,?_⟩;refine⟨zar p.cond p4 c4,rfl,zaw (n:=5) (m:=5) h0,hd.hg,?_⟩;refine⟨_,zac (zaa hd.b) (i:=0) rfl,?_⟩;refine⟨_,zac h0 (i:=3) rfl,?_⟩;refine⟨_,zac (zaa hd.b) (i:=0) rfl,?_⟩;refine⟨_,zac h0 (i:=1) rfl,?_⟩;refine cmo (zrL hd.hB h4) ?_;rintro e V ⟨rfl,hbV⟩;exact⟨hbV,rfl,hbd.trans hbV⟩
def dmFs (bx ev:Nat):List Value:=[i64 70,.func (.func 72) #[] #[At0 bx],i64 71,.func (.func 74) #[] #[At0 bx],
 i64 72,.func (.func 76) #[] #[At0 bx,At0 ev],i64 73,.func (.func 78) #[] #[At0 ev,At0 bx],
 i64 75,.func (.func 81) #[] #[At0 bx],i64 74,.func (.func 82) #[] #[At0 bx]]
theorem zmt {g:Nat} {w:World}:Calls Tryz.prog 45 #[At0 g] w fun e w'=>e = .returned (.slice (some ⟨w.heap.size+2,0,none⟩) 6 6) /\
  w'.heap[w.heap.size]?=some (.cells #[At0 g] 90 (0,0))/\w'.heap[w.heap.size+1]?=some (.cells #[evV w.heap.size] 136 (0,0)) /\
  w'.heap[w.heap.size+2]?=some (.cells (dmFs w.heap.size (w.heap.size+1)).toArray 92 (0,0))/\w'.heap.size=w.heap.size+3/\Bw w w':=by
 refine cofE 18 [At0 g] Tryz.func45 ?_;have hs:=wz w (.cells (At0 g).cells 90);refine zap (X:=w.alloc (.cells (At0 g).cells 90)) (v:=evV w.heap.size) k136 rfl rfl rfl fun V hbV fV sV=>?_;generalize hev:(w.alloc (.cells (At0 g).cells 90)).heap.size=ev at *;refine⟨[i64 70,.func (.func 72) #[] #[.pointer (some ⟨w.heap.size,0,none⟩)]],rfl,?_⟩;refine⟨[i64 71,.func (.func 74) #[] #[.pointer (some ⟨w.heap.size,0,none⟩)]],rfl,?_⟩;refine⟨[i64 72,.func (.func 76) #[] #[.pointer (some ⟨w.heap.size,0,none⟩),At0 ev]],rfl,?_⟩;refine⟨[i64 73,.func (.func 78) #[] #[At0 ev,.pointer (some ⟨w.heap.size,0,none⟩)]],rfl,?_⟩;refine⟨[i64 75,.func (.func 81) #[] #[.pointer (some ⟨w.heap.size,0,none⟩)]],rfl,?_⟩;refine⟨[i64 74,.func (.func 82) #[] #[.pointer (some ⟨w.heap.size,0,none⟩)]],rfl,?_⟩;refine⟨⟨by decide,by decide,rfl⟩,dmFs w.heap.size ev,rfl,?_⟩;subst hs;refine⟨?_,?_,?_,?_,?_,?_⟩
 ·rw [sV];rfl
 ·exact hold _ (zab (show Below _ _ _ from hev▸hbV) (hnew w _))
 ·exact hold _ fV
 ·rw [show w.heap.size+2=V.heap.size from sV.symm];exact hnew _ _
 ·rw [wz,sV]
 ·exact (((zba w _)).trans (hbV.mono (by omega))).alloc (by omega) _
end
def okL (p:Prg):List Bool:=[zeB p.name,zgb p,decide (1<=p.threads.length)&&(decide (p.threads.length<=4)&&p.threads.all fun l=>decide (l.length<=12)),p.threads.all (fun l=>zbk l p.locs.length),
 decide (p.ask=1)||(decide (p.ask=2)||decide (p.ask=3)),zcv p.threads.length p.locs.length 20 p.cond]
theorem zlT {p:Prg}:zf9 p=(okL p).all id:=by
 unfold zf9 okL;simp only [List.all_cons,List.all_nil,Bool.and_true,id]
theorem zi7 {B:Nat} {p:Prg} {vs:List Value} {w:World} (hB:B<=w.heap.size) (hp:PrgV B w vs p) (hG:GlobC w) :
  Calls Tryz.prog 24 #[.agg vs.toArray] w fun e w'=>∃ n:Int,e = .returned (i64 n)/\(n=0↔zf9 p=true)/\Bw w w':=by
 obtain⟨hl,p1,c1,p2,c2,p3,c3,p4,c4,rfl,h1,h2,h3,h4,h5⟩:=hp;refine cofE 18 [.agg (zbZ p p1 c1 p2 c2 p3 c3 p4 c4).toArray] Tryz.func24 ?_;obtain⟨L,hL⟩:=nm (w.heap.size);have hn:=hnew w (.cells (Value.agg (zbZ p p1 c1 p2 c2 p3 c3 p4 c4).toArray).cells 45);have hs:=wz w (.cells (Value.agg (zbZ p p1 c1 p2 c2 p3 c3 p4 c4).toArray).cells 45);have hb:Bw w (w.alloc (.cells (Value.agg (zbZ p p1 c1 p2 c2 p3 c3 p4 c4).toArray).cells 45)):=zba w _;refine cmo zmt ?_;rintro e V ⟨rfl,hbx,hev,hsl,hsz,hbV⟩;have hbw:Bw w V:=zst hb hbV;have p1':some (Value.slice (some ⟨(w.alloc (.cells (Value.agg (zbZ p p1 c1 p2 c2 p3 c3 p4 c4).toArray).cells 45)).heap.size+2,0,none⟩) 6 6)=some (Value.slice (some ⟨L+3,0,none⟩) 6 6):=by rw [hs,hL]
 have hD:DmV B V L (L+1) p:=by
  have hbB:=hbw.mono hB;rw [hs,<- hL] at hbx;refine⟨Nat.le_trans hB hbw.size,by omega,hl,⟨p1,c1,p2,c2,p3,c3,p4,c4,zaa (zab hbV (hL▸hn)),h1.below hbB,h2.below hbB,h3.below hbB,h4.kept hbB,h5⟩,hbx,hG.below hbw⟩
 rw [hs,<- hL] at hev hsl;clear hn hs hb hbx hbV hsz;refine⟨Nat,fun j=>⟨[(5,.slice (some ⟨L+3,0,none⟩) 6 6),(6,i64 6),(7,i64 (j:Nat))],[]⟩,
  fun j X=>j<=6/\(∀ i,i<j->(okL p)[i]?=some true)/\DmV B X L (L+1) p/\X.heap[L+2]?=some (.cells #[evV (L+1)] 136 (0,0))/\X.heap[L+3]?=some (.cells (dmFs (L+1) (L+2)).toArray 92 (0,0))/\Bw w X,fun j=>6-j,0,
  ⟨.cons p1' (.cons rfl (.cons rfl .nil)),rfl⟩,⟨Nat.zero_le _,fun i hi=>by omega,hD,hev,hsl,hbw⟩,?_⟩
 clear hD hev hsl hbw p1';rintro j X ⟨hj,hpre,hD,hev,hsl,hbw⟩;dsimp only at hj hpre ⊢;refine biE (fun hc=>?_) fun hc=>?_
 ·have hc:(j:Int)<6:=dT hc;have hno:∀ {i:Nat},(okL p)[i]?=some false->zf9 p=false:=fun h=>by rw [zlT];exact zoQ h
  have hcs:j=0\/j=1\/j=2\/j=3\/j=4\/j=5:=by omega
  rcases hcs with rfl | rfl | rfl | rfl | rfl | rfl
  ·refine⟨0,rfl,by decide,?_⟩;refine⟨[i64 70,.func (.func 72) #[] #[At0 (L+1)]],rfl,zaw (n:=0) (m:=2) (zaa hsl),hlt hsl,?_⟩;refine zap (X:=X) (v := .agg [i64 70,.func (.func 72) #[] #[At0 (L+1)]].toArray) k92 rfl rfl rfl fun Y hbY fY sY=>?_;have hY:=hD.below hbY;have hevY:=zab hbY hev;have hslY:=zab hbY hsl;refine⟨_,zac (zaa fY) (i:=1) rfl,?_⟩;refine cmo (zro hY) ?_;rintro e W ⟨rfl,hbW⟩;have hbX:Bw w W:=((zst hbw hbY)).trans (hbW.mono (Nat.le_trans hbw.size hbY.size));refine biE (fun hb=>?_) fun hb=>?_
   ·have hb:(!((okL p)[0]'(by show 0<6;decide)))=true:=hb;have hb:(okL p)[0]?=some false:=(by rw [gE (by show 0<6;decide)];exact congrArg some (by rw [<- Bool.not_not ((okL p)[0]'(by show 0<6;decide)),hb];rfl));refine⟨_,zac (zaa (zab hbW fY)) (i:=0) rfl,?_⟩;exact⟨70,rfl,⟨fun h=>absurd h (by decide),fun h=>by rw [hno hb] at h;cases h⟩,hbX⟩
   ·have hb:(!((okL p)[0]'(by show 0<6;decide)))=false:=hb;have hb:(okL p)[0]?=some true:=(by rw [gE (by show 0<6;decide)];exact congrArg some (by rw [<- Bool.not_not ((okL p)[0]'(by show 0<6;decide)),hb];rfl));refine⟨_,(zaf (by omega)).trans rfl,?_⟩;refine⟨1,(cvE rfl rfl),⟨by omega,fun i hi=>?_,hY.below hbW,zab hbW hevY,zab hbW hslY,hbX⟩,by decide⟩;by_cases hik:i=0
    ·rw [hik];exact hb
    ·exact hpre i (by omega)
  ·refine⟨1,rfl,by decide,?_⟩;refine⟨[i64 71,.func (.func 74) #[] #[At0 (L+1)]],rfl,zaw (n:=2) (m:=2) (zaa hsl),hlt hsl,?_⟩;refine zap (X:=X) (v := .agg [i64 71,.func (.func 74) #[] #[At0 (L+1)]].toArray) k92 rfl rfl rfl fun Y hbY fY sY=>?_;have hY:=hD.below hbY;have hevY:=zab hbY hev;have hslY:=zab hbY hsl;refine⟨_,zac (zaa fY) (i:=1) rfl,?_⟩;refine cmo (zrn hY) ?_;rintro e W ⟨rfl,hbW⟩;have hbX:Bw w W:=((zst hbw hbY)).trans (hbW.mono (Nat.le_trans hbw.size hbY.size));refine biE (fun hb=>?_) fun hb=>?_
   ·have hb:(!((okL p)[1]'(by show 1<6;decide)))=true:=hb;have hb:(okL p)[1]?=some false:=(by rw [gE (by show 1<6;decide)];exact congrArg some (by rw [<- Bool.not_not ((okL p)[1]'(by show 1<6;decide)),hb];rfl));refine⟨_,zac (zaa (zab hbW fY)) (i:=0) rfl,?_⟩;exact⟨71,rfl,⟨fun h=>absurd h (by decide),fun h=>by rw [hno hb] at h;cases h⟩,hbX⟩
   ·have hb:(!((okL p)[1]'(by show 1<6;decide)))=false:=hb;have hb:(okL p)[1]?=some true:=(by rw [gE (by show 1<6;decide)];exact congrArg some (by rw [<- Bool.not_not ((okL p)[1]'(by show 1<6;decide)),hb];rfl));refine⟨_,(zaf (by omega)).trans rfl,?_⟩;refine⟨2,(cvE rfl rfl),⟨by omega,fun i hi=>?_,hY.below hbW,zab hbW hevY,zab hbW hslY,hbX⟩,by decide⟩;by_cases hik:i=1
    ·rw [hik];exact hb
    ·exact hpre i (by omega)
  ·refine⟨2,rfl,by decide,?_⟩;refine⟨[i64 72,.func (.func 76) #[] #[At0 (L+1),At0 (L+2)]],rfl,zaw (n:=4) (m:=2) (zaa hsl),hlt hsl,?_⟩;refine zap (X:=X) (v := .agg [i64 72,.func (.func 76) #[] #[At0 (L+1),At0 (L+2)]].toArray) k92 rfl rfl rfl fun Y hbY fY sY=>?_;have hY:=hD.below hbY;have hevY:=zab hbY hev;have hslY:=zab hbY hsl;refine⟨_,zac (zaa fY) (i:=1) rfl,?_⟩;refine cmo (zrm hY hevY) ?_;rintro e W ⟨rfl,hbW⟩;have hbX:Bw w W:=((zst hbw hbY)).trans (hbW.mono (Nat.le_trans hbw.size hbY.size));refine biE (fun hb=>?_) fun hb=>?_
   ·have hb:(!((okL p)[2]'(by show 2<6;decide)))=true:=hb;have hb:(okL p)[2]?=some false:=(by rw [gE (by show 2<6;decide)];exact congrArg some (by rw [<- Bool.not_not ((okL p)[2]'(by show 2<6;decide)),hb];rfl));refine⟨_,zac (zaa (zab hbW fY)) (i:=0) rfl,?_⟩;exact⟨72,rfl,⟨fun h=>absurd h (by decide),fun h=>by rw [hno hb] at h;cases h⟩,hbX⟩
   ·have hb:(!((okL p)[2]'(by show 2<6;decide)))=false:=hb;have hb:(okL p)[2]?=some true:=(by rw [gE (by show 2<6;decide)];exact congrArg some (by rw [<- Bool.not_not ((okL p)[2]'(by show 2<6;decide)),hb];rfl));refine⟨_,(zaf (by omega)).trans rfl,?_⟩;refine⟨3,(cvE rfl rfl),⟨by omega,fun i hi=>?_,hY.below hbW,zab hbW hevY,zab hbW hslY,hbX⟩,by decide⟩;by_cases hik:i=2
    ·rw [hik];exact hb
    ·exact hpre i (by omega)
  ·refine⟨3,rfl,by decide,?_⟩;refine⟨[i64 73,.func (.func 78) #[] #[At0 (L+2),At0 (L+1)]],rfl,zaw (n:=6) (m:=2) (zaa hsl),hlt hsl,?_⟩;refine zap (X:=X) (v := .agg [i64 73,.func (.func 78) #[] #[At0 (L+2),At0 (L+1)]].toArray) k92 rfl rfl rfl fun Y hbY fY sY=>?_;have hY:=hD.below hbY;have hevY:=zab hbY hev;have hslY:=zab hbY hsl;refine⟨_,zac (zaa fY) (i:=1) rfl,?_⟩;refine cmo (zrl hY hevY) ?_;rintro e W ⟨rfl,hbW⟩;have hbX:Bw w W:=((zst hbw hbY)).trans (hbW.mono (Nat.le_trans hbw.size hbY.size));refine biE (fun hb=>?_) fun hb=>?_
   ·have hb:(!((okL p)[3]'(by show 3<6;decide)))=true:=hb;have hb:(okL p)[3]?=some false:=(by rw [gE (by show 3<6;decide)];exact congrArg some (by rw [<- Bool.not_not ((okL p)[3]'(by show 3<6;decide)),hb];rfl));refine⟨_,zac (zaa (zab hbW fY)) (i:=0) rfl,?_⟩;exact⟨73,rfl,⟨fun h=>absurd h (by decide),fun h=>by rw [hno hb] at h;cases h⟩,hbX⟩
   ·have hb:(!((okL p)[3]'(by show 3<6;decide)))=false:=hb;have hb:(okL p)[3]?=some true:=(by rw [gE (by show 3<6;decide)];exact congrArg some (by rw [<- Bool.not_not ((okL p)[3]'(by show 3<6;decide)),hb];rfl));refine⟨_,(zaf (by omega)).trans rfl,?_⟩;refine⟨4,(cvE rfl rfl),⟨by omega,fun i hi=>?_,hY.below hbW,zab hbW hevY,zab hbW hslY,hbX⟩,by decide⟩;by_cases hik:i=3
    ·rw [hik];exact hb
    ·exact hpre i (by omega)
  ·refine⟨4,rfl,by decide,?_⟩;refine⟨[i64 75,.func (.func 81) #[] #[At0 (L+1)]],rfl,zaw (n:=8) (m:=2) (zaa hsl),hlt hsl,?_⟩;refine zap (X:=X) (v := .agg [i64 75,.func (.func 81) #[] #[At0 (L+1)]].toArray) k92 rfl rfl rfl fun Y hbY fY sY=>?_;have hY:=hD.below hbY;have hevY:=zab hbY hev;have hslY:=zab hbY hsl;refine⟨_,zac (zaa fY) (i:=1) rfl,?_⟩;refine cmo (zrk hY) ?_;rintro e W ⟨rfl,hbW⟩;have hbX:Bw w W:=((zst hbw hbY)).trans (hbW.mono (Nat.le_trans hbw.size hbY.size));refine biE (fun hb=>?_) fun hb=>?_
   ·have hb:(!((okL p)[4]'(by show 4<6;decide)))=true:=hb;have hb:(okL p)[4]?=some false:=(by rw [gE (by show 4<6;decide)];exact congrArg some (by rw [<- Bool.not_not ((okL p)[4]'(by show 4<6;decide)),hb];rfl));refine⟨_,zac (zaa (zab hbW fY)) (i:=0) rfl,?_⟩;exact⟨75,rfl,⟨fun h=>absurd h (by decide),fun h=>by rw [hno hb] at h;cases h⟩,hbX⟩
   ·have hb:(!((okL p)[4]'(by show 4<6;decide)))=false:=hb;have hb:(okL p)[4]?=some true:=(by rw [gE (by show 4<6;decide)];exact congrArg some (by rw [<- Bool.not_not ((okL p)[4]'(by show 4<6;decide)),hb];rfl));refine⟨_,(zaf (by omega)).trans rfl,?_⟩;refine⟨5,(cvE rfl rfl),⟨by omega,fun i hi=>?_,hY.below hbW,zab hbW hevY,zab hbW hslY,hbX⟩,by decide⟩;by_cases hik:i=4
    ·rw [hik];exact hb
    ·exact hpre i (by omega)
  ·refine⟨5,rfl,by decide,?_⟩;refine⟨[i64 74,.func (.func 82) #[] #[At0 (L+1)]],rfl,zaw (n:=10) (m:=2) (zaa hsl),hlt hsl,?_⟩;refine zap (X:=X) (v := .agg [i64 74,.func (.func 82) #[] #[At0 (L+1)]].toArray) k92 rfl rfl rfl fun Y hbY fY sY=>?_;have hY:=hD.below hbY;have hevY:=zab hbY hev;have hslY:=zab hbY hsl;refine⟨_,zac (zaa fY) (i:=1) rfl,?_⟩;refine cmo (zrj hY) ?_;rintro e W ⟨rfl,hbW⟩;have hbX:Bw w W:=((zst hbw hbY)).trans (hbW.mono (Nat.le_trans hbw.size hbY.size));refine biE (fun hb=>?_) fun hb=>?_
   ·have hb:(!((okL p)[5]'(by show 5<6;decide)))=true:=hb;have hb:(okL p)[5]?=some false:=(by rw [gE (by show 5<6;decide)];exact congrArg some (by rw [<- Bool.not_not ((okL p)[5]'(by show 5<6;decide)),hb];rfl));refine⟨_,zac (zaa (zab hbW fY)) (i:=0) rfl,?_⟩;exact⟨74,rfl,⟨fun h=>absurd h (by decide),fun h=>by rw [hno hb] at h;cases h⟩,hbX⟩
   ·have hb:(!((okL p)[5]'(by show 5<6;decide)))=false:=hb;have hb:(okL p)[5]?=some true:=(by rw [gE (by show 5<6;decide)];exact congrArg some (by rw [<- Bool.not_not ((okL p)[5]'(by show 5<6;decide)),hb];rfl));refine⟨_,(zaf (by omega)).trans rfl,?_⟩;refine⟨6,(cvE rfl rfl),⟨by omega,fun i hi=>?_,hY.below hbW,zab hbW hevY,zab hbW hslY,hbX⟩,by decide⟩;by_cases hik:i=5
    ·rw [hik];exact hb
    ·exact hpre i (by omega)
 ·have hc:¬ (j:Int)<6:=dF hc;obtain rfl:j=6:=by omega
  exact⟨0,rfl,⟨fun _=>by rw [zlT];exact zj7 hpre rfl,fun _=>rfl⟩,hbw⟩
def ThrsW (B:Nat) (w:World) (p:Option Addr) (l:List (List InsD)):Prop:=∃ xs:List ThrR,xs.map (·.1)=l/\RowB thrE B w p xs/\∀ x∈xs,RowB insE B w x.2.1 x.1/\∀ a,x.2.1=some a->a.block<B
structure PrgX (B:Nat) (w:World) (vs:List Value) (p:Prg):Prop where
 v:PrgV B w vs p
 th:∃ p3 c3,vs[3]?=some (.slice p3 p.threads.length c3)/\ThrsW B w p3 p.threads
 init:∃ p2 c2,vs[2]?=some (.slice p2 p.init.length c2)/\RowB zaH B w p2 p.init
theorem ThrsW.below {B:Nat} {w w2:World} {p:Option Addr} {l:List (List InsD)} (h:ThrsW B w p l) (hb:Below B w w2):ThrsW B w2 p l:=by
 obtain⟨xs,h1,h2,h3⟩:=h;exact⟨xs,h1,h2.below hb,fun x hx=>⟨(h3 x hx).1.below hb,(h3 x hx).2⟩⟩
theorem PrgX.below {B:Nat} {w w2:World} {vs:List Value} {p:Prg} (h:PrgX B w vs p) (hb:Below B w w2):PrgX B w2 vs p:=by
 obtain⟨h1,⟨p3,c3,h2,h3⟩,⟨p2,c2,h4,h5⟩⟩:=h;exact⟨h1.below hb,⟨p3,c3,h2,h3.below hb⟩,⟨p2,c2,h4,h5.below hb⟩⟩
def zhB (threads:List (List InsD)) (vals:List UInt8):Bool :=
 decide (1<=vals.length)&&(decide (vals.length<=12)&&((threads.all fun l=>decide ((zcu l vals).length<=4096))&&(decide ((vals++threads.flatMap fun l=>zbO (zcu l vals)).length<=12)&&srt8 (vals++threads.flatMap fun l=>zbO (zcu l vals)))))
def zgV (threads:List (List InsD)) (vals:List UInt8):List UInt8:=ded (vals++threads.flatMap fun l=>zbO (zcu l vals))
def zke (threads:List (List InsD)):Nat->List UInt8->Option (List UInt8)
 | 0,_=>none
 | n+1,vals=>if zhB threads vals=true then (if (zgV threads vals).length=vals.length then some vals else zke threads n (zgV threads vals)) else none
structure RunK (l:List InsD) (R:RunD):Prop where
 m:R.many<=R.pc
 p:R.pc<=l.length
 d:∀ i,R.deps i<2^32
 c:R.ctl<2^32
 s:∀ i,R.data i<2^32/\R.ctrl i<2^32/\R.att i<2^32
theorem zrZ {n:Nat} (h:n<32):2^n<2^32:=Nat.pow_lt_pow_right (by decide) h
theorem zk9 {f:Nat->Nat} {b:Nat} (h:∀ i,f i<b) {k v:Nat} (hv:v<b):∀ i,upd f k v i<b:=fun i=>by
 by_cases e:i=k
 ·rw [e,zbd];exact hv
 ·rw [zcx _ _ e];exact h i
theorem RunK.emit {l:List InsD} {R:RunD} (h:RunK l R) {k a v m:UInt8} {d:Nat} (hd:d<2^32):(∀ i,(zeh R k a v m d).deps i<2^32)/\(zeh R k a v m d).ctl<2^32/\∀ i,(zeh R k a v m d).data i<2^32/\(zeh R k a v m d).ctrl i<2^32/\(zeh R k a v m d).att i<2^32:=by
 unfold zeh;exact⟨h.d,h.c,fun i=>⟨zk9 (fun i=>(h.s i).1) hd i,zk9 (fun i=>(h.s i).2.1) h.c i,(h.s i).2.2⟩⟩
theorem RunK.exec {l:List InsD} {R:RunD} {x:InsD} {v:UInt8} (h:RunK l R) (hx:ExOk x) (hp:R.pc<l.length) (h12:l.length<=12):RunK l (zbb R x v):=by
 obtain⟨e1,e2⟩:=ziU (R:=R) (v:=v) hx;have hm:=h.m;have hb:=zrZ (n:=R.many) (by omega);have hs:(∀ i,(zbb R x v).deps i<2^32)/\(zbb R x v).ctl<2^32/\∀ i,(zbb R x v).data i<2^32/\(zbb R x v).ctrl i<2^32/\(zbb R x v).att i<2^32:=by
  unfold zbb effR;rcases hx with ⟨ho,_⟩ | ⟨ho,_⟩ | ho
  ·rw [if_pos ho];have:=h.emit (k:=1) (a:=x.loc) (v:=v) (m:=x.mode) (d:=0) (by decide);exact⟨zk9 this.1 hb,this.2.1,this.2.2⟩
  ·rw [if_neg (by rw [ho];decide),if_pos ho];refine h.emit (k:=2) (a:=x.loc) (v:=(valR x.ar x.an R).1) (m:=x.mode) ?_;unfold valR
   split
   ·exact h.d _
   ·exact (by decide:0<2^32)
  ·rw [if_neg (by rw [ho];decide),if_neg (by rw [ho];decide),if_neg (by rw [ho];decide),if_neg (by rw [ho];decide),if_neg (by rw [ho];decide),if_neg (by rw [ho];decide),if_pos ho];exact h.emit (k:=3) (a:=0) (v:=0) (m:=x.mode) (d:=0) (by decide)
 exact⟨by rw [e1,e2];omega,by rw [e1];omega,hs.1,hs.2.1,hs.2.2⟩
theorem RunK.go {l:List InsD} (h12:l.length<=12) (hx:∀ x∈l,ExOk x):∀ (n:Nat) (R:RunD),RunK l R->RunK l (goR l n R)
 | 0,R,h=>h
 | n+1,R,h=>by
  unfold goR
  split
  ·exact h
  ·rename_i x he
   split
   ·exact h
   ·have hp:=(List.getElem?_eq_some_iff.1 he).1;have hm:x∈l:=List.mem_of_getElem? he;exact RunK.go h12 hx n _ (h.exec (hx x hm) hp h12)
theorem RunK.spread {l:List InsD} {dom:List UInt8} (h12:l.length<=12) (hx:∀ x∈l,ExOk x):∀ (n:Nat) (R:RunD),RunK l R->∀ S∈zaK l dom n R,RunK l S
 | 0,R,h,S,hS=>by
  have hS:S∈[goR l l.length R]:=hS;rw [List.mem_singleton] at hS;rw [hS];exact RunK.go h12 hx _ _ h
 | n+1,R,h,S,hS=>by
  have hg:=RunK.go h12 hx l.length R h;unfold zaK at hS
  split at hS
  ·rw [List.mem_singleton] at hS;rw [hS];exact hg
  ·rename_i x he;obtain⟨v,_,hS⟩:=List.mem_flatMap.1 hS;have hp:=(List.getElem?_eq_some_iff.1 he).1;have hm:x∈l:=List.mem_of_getElem? he;exact RunK.spread h12 hx n _ (hg.exec (hx x hm) hp h12) S hS
theorem zmm {l:List InsD} {dom:List UInt8} (h12:l.length<=12) (hx:∀ x∈l,ExOk x):∀ R∈zcu l dom,R.many<=24/\RunB R:=fun R hR=>by
 have h0:RunK l run0:=⟨Nat.le_refl _,Nat.zero_le _,fun _=>(by decide:0<2^32),(by decide:0<2^32),fun _=>⟨(by decide:0<2^32),(by decide:0<2^32),(by decide:0<2^32)⟩⟩;have h:=RunK.spread h12 hx _ _ h0 R hR;have:=h.m;have:=h.p;exact⟨by omega,fun i _=>h.s i⟩
theorem zlu {α:Type} {E:Enc α} {B:Nat} {w:World} {p:Option Addr} {l:List α} (h:RowB E B w p l) {i:Nat} (hi:i<l.length):∃ b o,p=some ⟨b,o,none⟩/\b<B/\∀ i (h:i<l.length),zax w ⟨b,o+i*E.sz,none⟩ (E.enc l[i]):=by
 obtain⟨b,o,hp,hat⟩:=h.get;rcases hp with hp | hp
 ·omega
 ·exact⟨b,o,hp,(hat i hi).1,fun j hj=>(hat j hj).2⟩
section
variable {B n:Nat} {p:Prg} {pc:List Value} {V:List UInt8} {w:World}
theorem zoj (hB:B<=w.heap.size) (hP:PrgX B w pc p) (hG:GlobE w) (hok:zf9 p=true) (hx:∀ l∈p.threads,∀ x∈l,ExOk x) (h12:∀ l∈p.threads,l.length<=12) (hi1:1<=p.init.length) (hi12:p.init.length<=12) (his:srt8 p.init=true) (hQ:zke p.threads n (ded p.init)=some V) :
  Calls Tryz.prog 94 #[.agg pc.toArray,i64 16] w fun e w'=>(∃ (q:Option Addr) (c:Nat),e = .returned (.tuple #[.slice q V.length c,i64 0])/\OwnS zaH 5 w.heap.size w' q c V)/\Bw w w':=by
 refine cofM 60 [.agg pc.toArray,i64 16] (.c .p (.s .p (.c .p .p))) Tryz.func94 ?_;obtain⟨L,hL⟩:=nm (w.heap.size);have hpc:=hP.v.size;have hthr:=hP.v.len.threads;refine⟨Unit,fun _=>⟨[(1,i64 16),(2,AtR L)],[]⟩,fun _ X=>X.heap[L]?=some (.cells pc.toArray 45 (0,0))/\Bw w X,⟨(),⟨.cons rfl (.cons (by rw [hL];rfl) .nil),rfl⟩,by rw [hL];exact hnew w _,(zba w _)⟩,?_⟩;rintro _ X ⟨f0,hbX⟩;refine brF ?_;refine brF ?_;refine⟨pc,hpc,zaa f0,hlt f0,?_⟩;refine cmo (zi7 (Nat.le_trans hB hbX.size) (hP.v.below (hbX.mono hB)) (hG.c.below hbX)) ?_;rintro e Y ⟨m,rfl,hm,hbY⟩;have hm0:m=0:=hm.2 hok;subst hm0;refine brF ?_;have hwY:=zst hbX hbY;have f0:=zab hbY f0;obtain⟨_,⟨p3,c3,h3,xs,hxs,hrow,hxr⟩,⟨p2,c2,h2,hinit⟩⟩:=hP;refine⟨Option Addr×Nat,fun s=>⟨[(1,i64 16),(2,AtR L),(6,.slice s.1 (ded p.init).length s.2)],[]⟩,fun s Z=>OwnS zaH 5 w.heap.size Z s.1 s.2 (ded p.init)/\Z.heap[L]?=some (.cells pc.toArray 45 (0,0))/\Bw w Z,?_,?_⟩
 ·refine⟨_,zac (zaa f0) (i:=2) (by simpa using h2),?_⟩;refine cmo (zeI ((hinit.below (hwY.mono hB)).slr (Nat.le_trans hB hwY.size)) hi1 hi12 his) ?_;rintro e Z ⟨⟨q,c,rfl,ho⟩,hbZ⟩;exact⟨(q,c),(cvE rfl rfl),OwnS.lower ho hwY.size,zab hbZ f0,(zst hwY hbZ)⟩
 rintro⟨q,c⟩ X ⟨ho,f0,hbX⟩;refine⟨Nat×List UInt8×Option Addr×Nat,fun s=>⟨[(1,i64 16),(2,AtR L),(6,.slice s.2.2.1 s.2.1.length s.2.2.2)],[]⟩,
  fun s Z=>zke p.threads s.1 s.2.1=some V/\OwnS zaH 5 w.heap.size Z s.2.2.1 s.2.2.2 s.2.1/\Z.heap[L]?=some (.cells pc.toArray 45 (0,0))/\Bw w Z,fun s=>s.1,(n,ded p.init,q,c),
  (cvE rfl rfl),⟨hQ,ho,f0,hbX⟩,?_⟩
 rintro⟨k,vals,q,c⟩ X ⟨hQ,ho,f0,hbX⟩;dsimp only at hQ ho ⊢
 cases k with
 | zero=>cases hQ
 | succ k =>
 have hQ:(if zhB p.threads vals=true then (if (zgV p.threads vals).length=vals.length then some vals else zke p.threads k (zgV p.threads vals)) else none)=some V:=hQ;have hr:zhB p.threads vals=true:=by
  cases h:zhB p.threads vals with
  | true=>rfl
  | false=>rw [h] at hQ;cases hQ
 rw [if_pos hr] at hQ;unfold zhB at hr;simp only [bAT,dE,List.all_eq_true] at hr;obtain⟨r1,r2,r3,r4,r5⟩:=hr;refine brN (decide_eq_false (by omega)) ?_;have hq0:q=none->c=0:=fun e=>by
  rcases ho.inv with ⟨_,h,_⟩ | ⟨g,_,h,_⟩
  ·exact h
  ·rw [e] at h;cases h
 have hqb:∀ a,q=some a->a.block<X.heap.size:=fun a ha=>(zcB ho ha).2.1;refine cmo (zkc ho.row (by omega) hq0) ?_;rintro e Y ⟨⟨q1,k1,rfl,o1⟩,hbY⟩;have hwY:=zst hbX hbY;have f0Y:=zab hbY f0;have hl3:xs.length=p.threads.length:=by rw [<- hxs,List.length_map]
 refine⟨_,zac (zaa f0Y) (i:=3) (by simpa using h3),?_⟩;obtain⟨g,hg⟩:∃ g:List InsD->List UInt8,g=fun l=>zbO (zcu l vals):=⟨_,rfl⟩;rw [<- hg] at r4 r5;have hnx:zgV p.threads vals=ded (vals++p.threads.flatMap g):=by unfold zgV;rw [hg]
 refine⟨Nat×Option Addr×Nat,fun s=>⟨[(1,i64 16),(2,AtR L),(6,.slice q vals.length c),(7,.slice s.2.1 (vals++(p.threads.take s.1).flatMap g).length s.2.2),(33,.slice p3 p.threads.length c3),(34,i64 p.threads.length),(35,i64 (s.1:Nat))],[]⟩,
  fun s Z=>s.1<=p.threads.length/\OwnS zaH 5 X.heap.size Z s.2.1 s.2.2 (vals++(p.threads.take s.1).flatMap g)/\Bw X Z,fun s=>p.threads.length-s.1,(0,q1,k1),
  ⟨.cons rfl (.cons rfl (.cons rfl (.cons (by rw [List.take_zero,List.flatMap_nil,List.append_nil];rfl) (.cons rfl (.cons rfl (.cons rfl .nil)))))),rfl⟩,⟨Nat.zero_le _,by show OwnS zaH _ _ _ _ _ (vals++(p.threads.take 0).flatMap g);rw [List.take_zero,List.flatMap_nil,List.append_nil];exact o1,hbY⟩,?_⟩
 rintro⟨m,q1,k1⟩ Y ⟨hm,o1,hbY⟩;dsimp only at hm o1 ⊢;have hwY:=zst hbX hbY;have f0Y:=zab hbY f0;have hXY:=hbY.size;have lenTake:∀ j,(vals++(p.threads.take j).flatMap g).length<=12:=fun j=>by
  have e:p.threads.flatMap g=(p.threads.take j).flatMap g++(p.threads.drop j).flatMap g:=by rw [<- List.flatMap_append,List.take_append_drop]
  rw [e,<- List.append_assoc,lap] at r4;omega
 refine biE (fun hc=>?_) fun hc=>?_
 ·have hc:(m:Int)<(p.threads.length:Int):=dT hc;have hmt:m<p.threads.length:=by omega
  have hmx:m<xs.length:=by omega
  obtain⟨b3,o3,hp3,hb3,hat3⟩:=zlu (hrow.below (hwY.mono hB)) hmx;have hB2:b3<Y.heap.size:=nL hb3 (Nat.le_trans hB hwY.size);have e3:some (Value.slice p3 p.threads.length c3)=some (Value.slice (some ⟨b3,o3,none⟩) p.threads.length c3):=by rw [hp3]
  subst hp3;refine⟨m,rfl,hmt,?_⟩;refine⟨thrV xs[m],by have:=zac (hat3 m hmx) (i:=0) (v:=thrV xs[m]) rfl;exact this,?_⟩;obtain⟨hrm,hrb⟩:=hxr _ (gM hmx);have hxm:xs[m].1=p.threads[m]:=by
   have:=congrArg (fun l=>l[m]?) hxs;simp only [List.getElem?_map,gE hmx,gE hmt,Option.map_some,Option.some.injEq] at this;exact this
  have hmem:=gM hmt;have ex:=hx _ hmem;have e12:=h12 _ hmem;have hxl:xs[m].1.length=p.threads[m].length:=by rw [hxm]
  have hw:=zm5 (w:=Y) (l:=p.threads[m]) (dom:=vals) (q:=xs[m].2.1) (p:=q) (cap:=xs[m].2.2) (cd:=c) (by rw [<- hxm];exact (hrm.below (hwY.mono hB)).slr (Nat.le_trans hB hwY.size)) (ho.row.below hbY) e12 ex (fun R hR=>(zmm e12 ex R hR).1) (r3 _ hmem) (fun a ha=>nL (hrb a ha) (Nat.le_trans hB hwY.size)) (fun a ha=>nL (hqb a ha) hXY) (by omega);rw [<- hxl] at hw;have eg:zbO (zcu p.threads[m] vals)=g p.threads[m]:=by rw [hg]
  rw [eg] at hw;refine cmo hw ?_;rintro e Z ⟨⟨q2,k2,rfl,o2⟩,hbZ⟩;refine brF ?_;have tk:(p.threads.take (m+1)).flatMap g=(p.threads.take m).flatMap g++g p.threads[m]:=by
   rw [tsg hmt,List.flatMap_append,List.flatMap_cons,List.flatMap_nil,List.append_nil]
  have l1:=lenTake m;have l2:=lenTake (m+1);rw [tk,<- List.append_assoc,lap] at l2;have hXZ:=hbY.trans (hbZ.mono hXY);have hsZ:=hbZ.size;refine zdY (E:=zaH) (T:=5) (B:=X.heap.size) (l:=vals++(p.threads.take m).flatMap g) (news:=g p.threads[m]) (cap:=k1) (m:=(g p.threads[m]).length) Tryz.underlying42 k5 rfl rfl rfl (o1.below hbZ) rfl o2.row (fun e=>by
   rcases o2.inv with ⟨_,h,_⟩ | ⟨g',_,h,_⟩
   ·exact h
   ·rw [e] at h;cases h) (by omega) (by omega) (by show ((vals++(p.threads.take m).flatMap g).length+(g p.threads[m]).length)*1<=_;omega) ?_
  intro q4 k4 U oU gU hbU;rw [List.append_assoc,<- tk] at oU ⊢;refine nxI (by omega) ?_;exact⟨(m+1,q4,k4),(cvE rfl rfl),⟨hmt,oU,hXZ.trans hbU⟩,zdc (by omega)⟩
 ·have hc:¬ (m:Int)<(p.threads.length:Int):=dF hc;obtain rfl:m=p.threads.length:=by omega
  rw [List.take_length] at o1 ⊢;refine cmo (zeI o1.row (by rw [lap];omega) r4 r5) ?_;rintro e Z ⟨⟨q2,k2,rfl,o2⟩,hbZ⟩;rw [<- hnx] at o2 ⊢;have hXZ:=hbY.trans (hbZ.mono hXY);have hwZ:=zst hbX hXZ;refine biE (fun he=>?_) fun he=>?_
  ·have he:(zgV p.threads vals).length=vals.length:=by
    have:=dT he;omega
   rw [if_pos he] at hQ;simp only [Option.some.injEq] at hQ;subst hQ;exact⟨⟨q,c,rfl,ho.below hXZ⟩,hwZ⟩
  ·have he:¬ (zgV p.threads vals).length=vals.length:=fun e=>(dF he) (by rw [e]);rw [if_neg he] at hQ;exact⟨(k,zgV p.threads vals,q2,k2),(cvE rfl rfl),⟨hQ,OwnS.lower o2 hwY.size,zab hXZ f0,hwZ⟩,Nat.lt_succ_self k⟩
end
section
variable {w:World} {bP cv B:Nat} {pc:List Value} {qv:Option Addr} {V:List UInt8} {p:Prg}
theorem zps (fP:w.heap[bP]?=some (.cells pc.toArray 45 (0,0))) (hB:B<=w.heap.size) (hP:PrgX B w pc p) (hil:p.locs.length=p.init.length) (hi6:p.init.length<=6) (hG:GlobE w) (hV:SlR zaH w qv V) (hv1:1<=V.length) (hv12:V.length<=12) (hvs:srt8 V=true) (hd12:(ded V).length<=12)
  (ht4:p.threads.length<=4) (hT:∀ l∈p.threads,ThrQ V l) (hall:∀ k,k<=p.threads.length->zd4 ((p.threads.take k).map fun l=>(zaz V l).length)<=4096) (hpb:∀ l∈p.threads,∀ P∈zaz V l,PathB p.init.length P)
  (hsome:∀ ds∈zdV ((p.threads.map (zaz V)).map List.length),(mixR p.init (zd6 (p.threads.map (zaz V)) ds)).isSome=true) :
  Calls Tryz.prog 95 #[At0 bP,.slice qv V.length cv] w fun e w'=>(∃ (ms:List MixX) (q:Option Addr) (c:Nat),e = .returned (.tuple #[.slice q ms.length c,.bool true])/\ms.map (·.m)=zlW p.init (p.threads.map (zaz V))/\OwnS mixE 153 w.heap.size w' q c ms/\∀ x∈ms,NInM w.heap.size (fun k=>w.heap.size<=k) w' x)/\Bw w w':=by
 refine cofM 89 [At0 bP,.slice qv V.length cv] (.c .p (.c .p (.s .p (.s .p (.c .p (.c .p (.s .p .p))))))) Tryz.func95 ?_;obtain⟨L,hL⟩:=nm (w.heap.size);have hbP:=hlt fP;refine⟨Unit,fun _=>⟨[(1,.slice qv V.length cv),(2,At0 L),(4,At0 (L+1)),(5,At0 (L+2))],[]⟩,fun _ X=>X.heap[L]?=some (.cells #[At0 bP] 90 (0,0))/\X.heap[L+1]?=some (.cells #[.slice none 0 0] 147 (0,0))/\X.heap[L+2]?=some (.cells #[.bool false] 4 (0,0))/\X.heap.size=L+3/\Bw w X,?_,?_⟩
 ·have s1:=wz w (.cells #[At0 bP] 90);have h2:=hnew (w.alloc (.cells #[At0 bP] 90)) (.cells #[.slice none 0 0] 147);have s2:=wz (w.alloc (.cells #[At0 bP] 90)) (.cells #[.slice none 0 0] 147);have h3:=hnew ((w.alloc (.cells #[At0 bP] 90)).alloc (.cells #[.slice none 0 0] 147)) (.cells #[.bool false] 4);have s3:=wz ((w.alloc (.cells #[At0 bP] 90)).alloc (.cells #[.slice none 0 0] 147)) (.cells #[.bool false] 4);rw [s1] at h2 s2;rw [s2] at h3 s3;refine⟨(),⟨.cons rfl (.cons (by rw [hL];rfl) (.cons (by rw [hL,<- s1];rfl) (.cons (by rw [hL,<- s2];rfl) .nil))),rfl⟩,?_,?_,?_,?_,?_⟩
  ·rw [hL];exact hold _ (hold _ (hnew w _))
  ·rw [hL];exact hold _ h2
  ·rw [hL];exact h3
  ·rw [hL];exact s3
  ·exact (((zba w _)).alloc (by simp) _).alloc (by simp;omega) _
 rintro _ X ⟨f0,f1,f2,sX,hbX⟩;refine⟨Unit,fun _=>⟨[(1,.slice qv V.length cv),(2,At0 L),(4,At0 (L+1)),(5,At0 (L+2)),(6,At0 (L+3))],[]⟩,fun _ Y=>MxS w.heap.size Y L bP [] none 0 [] none 0/\Bw w Y,?_,?_⟩
 ·refine⟨(),⟨.cons rfl (.cons rfl (.cons rfl (.cons rfl (.cons (by rw [<- sX];rfl) .nil)))),rfl⟩,⟨hold _ f0,hold _ f1,hold _ f2,by rw [<- sX];exact hnew X _,OwnS.nil,OwnS.nil,fun z hz=>(by cases hz),fun z hz=>(by cases hz)⟩,hbX.alloc hbX.size _⟩
 clear f0 f1 f2 sX hbX;rintro _ X ⟨hS,hbX⟩;have hP0:=hP;obtain⟨_,⟨p3,c3,h3,xs,hxs,hrow,hxr⟩,⟨p2,c2,h2,hinit⟩⟩:=hP;have hxl:xs.length=p.threads.length:=by rw [<- hxs,List.length_map]
 refine⟨(List TpR×Option Addr×Nat)×Option Addr×Nat,fun s=>⟨[(2,At0 L),(4,At0 (L+1)),(5,At0 (L+2)),(6,At0 (L+3)),(7,.slice s.2.1 (p.threads.map fun l=>(zaz V l).length).length s.2.2)],[]⟩,fun s Z=>MxS w.heap.size Z L bP (p.threads.map fun l=>(zaz V l).length) s.2.1 s.2.2 s.1.1 s.1.2.1 s.1.2.2/\s.1.1.map (fun z=>z.1.map (·.1))=p.threads.map (zaz V)/\Bw w Z,?_,?_⟩
 ·refine⟨_,zac (zaa hS.f0) (i:=0) rfl,?_⟩;refine⟨_,zac (zaa (zab hbX fP)) (i:=3) (by simpa using h3),?_⟩;refine⟨Nat×(List TpR×Option Addr×Nat)×Option Addr×Nat,fun s=>⟨[(1,.slice qv V.length cv),(2,At0 L),(4,At0 (L+1)),(5,At0 (L+2)),(6,At0 (L+3)),(7,.slice s.2.2.1 ((p.threads.take s.1).map fun l=>(zaz V l).length).length s.2.2.2),(8,i64 (zd4 ((p.threads.take s.1).map fun l=>(zaz V l).length):Nat)),(23,.slice p3 p.threads.length c3),(24,i64 p.threads.length),(25,i64 (s.1:Nat))],[]⟩,
   fun s Z=>s.1<=p.threads.length/\MxS w.heap.size Z L bP ((p.threads.take s.1).map fun l=>(zaz V l).length) s.2.2.1 s.2.2.2 s.2.1.1 s.2.1.2.1 s.2.1.2.2/\s.2.1.1.map (fun z=>z.1.map (·.1))=(p.threads.take s.1).map (zaz V)/\Bw w Z,fun s=>p.threads.length-s.1,(0,([],none,0),none,0),
   (cvE rfl rfl),⟨Nat.zero_le _,hS,rfl,hbX⟩,?_⟩
  clear hS hbX;rintro⟨k,⟨ts,pT,cT⟩,ps,cs⟩ Z ⟨hk,hS,hz,hbZ⟩;dsimp only at hk hS hz ⊢;have hts:ts.length=k:=by
   have:=congrArg List.length hz;rw [List.length_map,List.length_map,List.length_take] at this;omega
  refine biE (fun hc=>?_) fun hc=>?_
  ·have hc:(k:Int)<(p.threads.length:Int):=dT hc;have hkl:k<p.threads.length:=by omega
   have hkx:k<xs.length:=by omega
   have hZs:=hbZ.size;obtain⟨l,hlk⟩:∃ l,p.threads[k]=l:=⟨_,rfl⟩;have hlm:l∈p.threads:=by rw [<- hlk];exact gM hkl
   have hQ:=hT l hlm;obtain⟨b3,o3,hp3,hb3,hat3⟩:=zlu (hrow.below (hbZ.mono hB)) hkx;have hB2:b3<Z.heap.size:=by omega
   have e3:some (Value.slice p3 p.threads.length c3)=some (Value.slice (some ⟨b3,o3,none⟩) p.threads.length c3):=by rw [hp3]
   subst hp3;refine⟨k,rfl,hkl,?_⟩;refine⟨thrV xs[k],by have:=zac (hat3 k hkx) (i:=0) (v:=thrV xs[k]) rfl;exact this,?_⟩;obtain⟨hrm,hrb⟩:=hxr _ (gM hkx);have hxm:xs[k].1=l:=by
    have:=congrArg (fun l=>l[k]?) hxs;simp only [List.getElem?_map,gE hkx,gE hkl,Option.map_some,Option.some.injEq] at this;rw [this,hlk]
   have hpt:(p.threads.take (k+1))=p.threads.take k++[l]:=by rw [tsg hkl,hlk]
   refine cmo (zqt (l:=xs[k].1) (vals:=V) ((hrm.below (hbZ.mono hB)).slr (by omega)) (hV.below hbZ) hv1 hv12 hvs (by rw [hxm];exact hQ.ex) (by rw [hxm];exact hQ.ok) (hG.below hbZ) (by rw [hxm];exact zmm hQ.l12 hQ.ex) (by rw [hxm];exact hQ.m) (fun a ha=>by have:=hrb a ha;omega) hd12) ?_;rintro e Y ⟨⟨rk,pk,ck,rfl,hrk,ork,onk⟩,hbY⟩;rw [hxm] at hrk;have hrk:rk.map (·.1)=zaz V l:=hrk;have hrkl:rk.length=(zaz V l).length:=by rw [<- hrk,List.length_map]
   have hpl:(zaz V l).length<=4096:=by rw [List.length_map];exact hQ.m
   have hSY:=hS.below hbY;have hpr:=hall (k+1) hkl;have hpr0:=hall k (by omega);rw [hpt,List.map_append] at hpr;have hpr:zd4 ((p.threads.take k).map (fun l=>(zaz V l).length)++[(zaz V l).length])<=4096:=hpr;rw [zgl,<- hrkl] at hpr;obtain⟨A,hA⟩:=nm (zd4 ((p.threads.take k).map fun l=>(zaz V l).length));have hA2:zd4 ((p.threads.take (k+1)).map fun l=>(zaz V l).length)=A*rk.length:=by
    rw [hpt,List.map_append];show zd4 ((p.threads.take k).map (fun l=>(zaz V l).length)++[(zaz V l).length])=_;rw [zgl,<- hrkl,hA]
   rw [<- hA] at hpr hpr0 ⊢;obtain⟨nz,hnz⟩:∃ nz:TpR,nz=(rk,pk,ck):=⟨_,rfl⟩;have hen:[Value.slice pk rk.length ck]=tpE.enc nz:=by rw [hnz];rfl
   refine⟨((A*rk.length:Nat):Int),by rw [<- Int.natCast_mul];exact zaf (by omega),?_⟩;refine brF ?_;refine brN (decide_eq_false (by omega)) ?_;refine⟨_,zac (zaa hSY.f3) (i:=0) rfl,?_⟩;refine⟨⟨by decide,by decide,rfl⟩,tpE.enc nz,by rw [<- hen];rfl,?_⟩;have hb1:Bw Y (Y.alloc (.cells (tpE.enc nz).toArray 209)):=zba _ _;have hS1:=hSY.below hb1;have ork1:=ork.below hb1;have onk1:=fun x hx=>(onk x hx).same (Z:=Y.alloc (.cells (tpE.enc nz).toArray 209)) fun {α E T c q l} _ ho=>ho.below hb1;unfold opsE zcr;show SatR _ _;refine appT hS1.rk (zaW tpE nz) (by have:=hb1.size;have:=hbY.size;omega) (by omega) fun p' c' U oU gU hat1=>?_;have f0U:=zaM hS1.f0 hS1.rk (by decide) gU;have f1U:=zaM hS1.f1 hS1.rk (by decide) gU;have f2U:=zaM hS1.f2 hS1.rk (by decide) gU;have f3U:=zaM hS1.f3 hS1.rk (by decide) gU;refine zal k208 f3U (o:=0) (v := .slice p' (ts++[nz]).length c') rfl rfl (by show 0<1;decide) rfl fun S fS gS sS=>?_;have hbZY:=hbZ.trans (hbY.mono hZs);have sY:=hbY.size;have sb1:=hb1.size;have hbU:Bw w U:=(hbZY.trans (hb1.mono (by omega))).trans (zaX hS1.rk (by omega) (Nat.le_refl _) gU);have hbS:Bw w S:=hbU.trans (zak gS hbU.size (by omega));have hSS:MxS w.heap.size S L bP ((p.threads.take k).map fun l=>(zaz V l).length) ps cs (ts++[nz]) p' c':=by
    have kU:∀ {α:Type} {E:Enc α} {T cc:Nat} {r:Option Addr} {ll:List α},T≠209->T≠208->OwnS E T w.heap.size (Y.alloc (.cells (tpE.enc nz).toArray 209)) r cc ll->OwnS E T w.heap.size S r cc ll:=fun {α E T cc r ll} h1 h2 h=>zaQ (zbF h hS1.rk h1 gU) f3U h2 gS;have kB:∀ {b:Nat} {o:Obj},b≠L+3->U.heap[b]?=some o->S.heap[b]?=some o:=fun {b o} hb h=>(gS.block b (hlt h) (by simpa using hb)).trans h;have kP:∀ x:PthR,PthO w.heap.size (Y.alloc (.cells (tpE.enc nz).toArray 209)) x->PthO w.heap.size S x:=fun x hx=>hx.same fun {α E T c q l} ht ho=>kU (by rcases ht with rfl | rfl <;> decide) (by rcases ht with rfl | rfl <;> decide) ho;refine⟨kB (by omega) f0U,kB (by omega) f1U,kB (by omega) f2U,fS,kU (by decide) (by decide) hS1.own,zaQ oU f3U (by decide) gS,fun z hz=>?_,fun z hz=>?_⟩
    ·rcases List.mem_append.1 hz with hz | hz
     ·exact kU (by decide) (by decide) (hS1.n1 z hz)
     ·rw [List.mem_singleton.1 hz,hnz];exact kU (by decide) (by decide) (ork1.lower hZs)
    ·rcases List.mem_append.1 hz with hz | hz
     ·exact fun x hx=>kP x (hS1.n2 z hz x hx)
     ·rw [List.mem_singleton.1 hz,hnz];exact fun x hx=>kP x ((onk1 x hx).mono hZs)
   clear hS1 ork1 onk1 hSY hS oU gU hat1 f0U f1U f2U f3U fS gS;refine⟨⟨by decide,by decide,rfl⟩,natE.enc rk.length,rfl,?_⟩;have hb2:Bw S (S.alloc (.cells (natE.enc rk.length).toArray 3)):=zba _ _;have hS2:=hSS.below hb2;have sbS:=hbS.size;have sb2:=hb2.size;unfold opsE zcr;show SatR _ _;refine appI hS2.own (zaW natE rk.length) (by omega) (by rw [List.length_map,List.length_take];omega) fun p2' c2' V' oV gV hat2=>?_;rw [zb9] at gV;have hSV:=hS2.size oV gV;have hzz:((p.threads.take k).map fun l=>(zaz V l).length)++[rk.length]=(p.threads.take (k+1)).map fun l=>(zaz V l).length:=by
    rw [hpt,List.map_append,hrkl];rfl
   rw [hzz] at hSV ⊢;refine nxI (by omega) ?_;refine⟨(k+1,(ts++[nz],p',c'),p2',c2'),⟨.cons rfl (.cons rfl (.cons rfl (.cons rfl (.cons rfl (.cons rfl (.cons (by show _=some (i64 (zd4 ((p.threads.take (k+1)).map fun l=>(zaz V l).length):Nat));rw [hA2];rfl) (.cons rfl (.cons rfl (.cons rfl .nil))))))))),rfl⟩,⟨hkl,hSV,?_,hbS.trans ((hb2.mono sbS).trans (zaX hS2.own (by omega) (Nat.le_refl _) gV))⟩,zdc (by omega)⟩;rw [hpt,List.map_append,List.map_append,hz,hnz];show _++[rk.map (·.1)]=_++[zaz V l];rw [hrk]
  ·have hc:¬ (k:Int)<(p.threads.length:Int):=dF hc;obtain rfl:k=p.threads.length:=by omega
   rw [List.take_length] at hz hS ⊢;exact⟨((ts,pT,cT),ps,cs),(cvE rfl rfl),hS,hz,hbZ⟩
 rintro⟨⟨ts,pT,cT⟩,ps,cs⟩ X ⟨hS,hz,hbX⟩;dsimp only at hS hz ⊢;obtain⟨Q,hQ⟩:=nm (X.heap.size);refine⟨Unit,fun _=>⟨[(2,At0 L),(4,At0 (L+1)),(5,At0 (L+2)),(6,At0 (L+3)),(7,.slice ps (p.threads.map fun l=>(zaz V l).length).length cs),(13,At0 Q)],[]⟩,fun _ Z=>MxS w.heap.size Z L bP (p.threads.map fun l=>(zaz V l).length) ps cs ts pT cT/\Z.heap[Q]?=some (.cells #[.slice none 0 0] 147 (0,0))/\Z.heap.size=Q+1/\Bw w Z,?_,?_⟩
 ·refine⟨(),⟨.cons rfl (.cons rfl (.cons rfl (.cons rfl (.cons rfl (.cons (by rw [hQ];rfl) .nil))))),rfl⟩,hS.below ((zba X _)),by rw [hQ];exact hnew X _,by rw [hQ];exact wz _ _,hbX.alloc hbX.size _⟩
 have hQw:w.heap.size+4<=Q:=by have:=hlt hS.f3;omega
 clear hS hbX hQ;clear X;rintro _ X ⟨hS,fQ,sX,hbX⟩;obtain⟨Ts,hTs⟩:=nm (p.threads.map (zaz V));have hTl:Ts.length=p.threads.length:=by rw [hTs,List.length_map]
 have htl:ts.length=p.threads.length:=by have:=congrArg List.length hz;simpa using this
 have hsz:(p.threads.map fun l=>(zaz V l).length)=Ts.map List.length:=by rw [hTs,List.map_map];rfl
 rw [hsz] at hS ⊢;rw [<- hTs] at hsome hz ⊢;have hsl1:(Ts.map List.length).length<=1000:=by rw [List.length_map];omega
 have hsl2:∀ n∈Ts.map List.length,n<=1000000:=fun n hn=>by
  rw [hTs,List.map_map] at hn;obtain⟨l,hl,rfl⟩:=List.mem_map.1 hn;have:=(hT l hl).m;show ((zcu l (ded V)).map zev).length<=_;rw [List.length_map];omega
 have hmemT:∀ z∈ts,∀ x∈z.1,PathB p.init.length x.1:=fun z hz' x hx=>by
  have h1:z.1.map (·.1)∈Ts:=by rw [<- hz];exact List.mem_map.2 ⟨z,hz',rfl⟩
  rw [hTs] at h1;obtain⟨l,hl,he⟩:=List.mem_map.1 h1;exact hpb l hl x.1 (by rw [he];exact List.mem_map.2 ⟨x,hx,rfl⟩)
 refine cmo zoy ?_;rintro e V1 ⟨rfl,fo,sV1,hbV1⟩;have hI:=zqU fo (hS.own.row.below hbV1) (fun a ha=>by have:=(zas hS.own ha).2.1;omega) hsl1 hsl2;have hS1:=hS.below hbV1;have hb1:Bw w V1:=zst hbX hbV1;have hG0:Gath mixE 153 147 Q V1.heap.size Q V1 (NInM w.heap.size) [] (fun k=>k=Q) V1 :=
  ⟨Nat.le_refl _,rfl,fun k hk=>by omega,⟨none,0,zab hbV1 fQ,OwnS.nil,fun a h=>by cases h⟩,fun x hx=>(by cases hx),Below.refl _ _⟩
 obtain⟨f,hf⟩:∃ f:List Nat->Option MixD,f=fun ds=>mixR p.init (zd6 Ts ds):=⟨_,rfl⟩;have hmix:zlW p.init Ts=(zdV (Ts.map List.length)).filterMap f:=by rw [hf];rfl
 refine zeQ (sgOk _) rfl (lb := #[At0 X.heap.size]) rfl rfl hI (Nat.le_refl _) (fun k hk=>⟨?_,rfl⟩) (fun pre vs W ⟨l,q,_,h,_⟩=>by rw [h];rfl) (by decide)
  (fun k=>k=Q) (fun pre F Y=>∃ ms,(ms.map (·.m)=pre.filterMap f/\ms.length<=pre.length)/\Gath mixE 153 147 Q V1.heap.size Q V1 (NInM w.heap.size) ms F Y) (fun _ _ _ _=>False) (fun k hk=>?_) (Gath.iter (zhL _) (by omega)) (fun ex=>⟨fun _ _ _ _ h=>h.elim,fun _ _ _ _ h=>h.elim⟩) ⟨[],⟨rfl,Nat.zero_le _⟩,hG0⟩ ?_ ?_ ?_
 ·rcases hk with (rfl | ⟨a,ha,rfl⟩) | h
  ·omega
  ·have:=(zas hS.own ha).2.1;omega
  ·exact h.elim
 ·rcases hk with rfl | ⟨a,ha,rfl⟩
  ·omega
  ·obtain⟨_,_,cur,hc⟩:=zas hS.own ha;intro e;rw [e,fQ] at hc;simp at hc
 ·rintro yl pre ds vs F Y hyl hpre hJ0 ⟨l,qd,hlast,rfl,hsl,hcel⟩ hfy ⟨lo,hlo⟩;have hdx:ds=l:=by simpa using hlast
  subst hdx;refine⟨rfl,F,KeepsG.refl _ _,hJ0,?_⟩;rintro O Y2 hY2 ⟨ms,⟨hms,hml⟩,hG2⟩;have hslY:SlR natE Y2 qd ds:=by
   rw [hY2];refine za4 hsl fun a ha=>zai fun e=>?_;obtain⟨cur,hcur⟩:=hcel a ha;rw [e,hlo] at hcur
   cases hcur
  obtain⟨hdl,hdlt⟩:=zmr (hpre.subset (List.mem_append_right _ (List.mem_singleton.2 rfl)));have hsome1:=hsome ds (hpre.subset (List.mem_append_right _ (List.mem_singleton.2 rfl)));rw [List.length_map] at hdl;have hY2s:=hG2.size;have old:∀ {k:Nat} {ob:Obj},k<Q->V1.heap[k]?=some ob->Y2.heap[k]?=some ob:=fun {k ob} hk h=>(hG2.old.block k hk).trans h;have g0:=old (by omega) hS1.f0;have g3:=old (by omega) hS1.f3;have kR:∀ {α:Type} {E:Enc α} {T cc:Nat} {r:Option Addr} {ll:List α},T≠147->OwnS E T w.heap.size X r cc ll->OwnS E T w.heap.size Y2 r cc ll:=fun {α E T cc r ll} hT h=>h.same fun a ha=>by
   have hq:a.block≠Q:=fun e=>by
    obtain⟨_,_,cur,hc⟩:=zas h ha;rw [e,fQ] at hc;simp at hc;exact hT hc.2.symm
   have:=(zas h ha).2.1;exact (hG2.old.block _ (by omega)).trans (hbV1.block _ this)
  have rkY:=kR (by decide) hS.rk;have n1Y:=fun z hz=>kR (by decide) (hS.n1 z hz);have n2Y:∀ z∈ts,∀ x∈z.1,PthO w.heap.size Y2 x:=fun z hz x hx=>(hS.n2 z hz x hx).same fun {α E T c q l} ht ho=>kR (by rcases ht with rfl | rfl <;> decide) ho;have fPY:Y2.heap[bP]?=some (.cells pc.toArray 45 (0,0)):=old (by omega) ((hb1.block bP hbP).trans fP);have hbwY:Bw w Y2:=hb1.trans (hG2.old.mono (by omega));refine⟨Nat×List PthR×Option Addr×Nat,fun s=>⟨[(2,At0 L),(6,At0 (L+3)),(13,At0 Q),(15,.slice s.2.2.1 s.2.1.length s.2.2.2),(58,.slice qd ds.length ds.length),(59,i64 ds.length),(60,i64 (s.1:Nat))],[]⟩,
   fun s Z=>s.1<=ds.length/\OwnS pthE 217 Y2.heap.size Z s.2.2.1 s.2.2.2 s.2.1/\s.2.1.map (·.1)=zd6 (Ts.take s.1) (ds.take s.1)/\s.2.1.length=s.1/\(∀ x∈s.2.1,∃ z∈ts,x∈z.1)/\Bw Y2 Z,fun s=>ds.length-s.1,(0,[],none,0),
   (cvE rfl rfl),⟨Nat.zero_le _,OwnS.nil,by simp [zd6],rfl,fun x hx=>(by cases hx),Below.refl _ _⟩,?_⟩
  rintro⟨k,Cs,pC,cC⟩ Z ⟨hk,oC,hCs,hCl,hCm,hbZ⟩;dsimp only at hk oC hCs hCl hCm ⊢;have hZs:=hbZ.size;refine biE (fun hc=>?_) fun hc=>?_
  ·have hc:(k:Int)<(ds.length:Int):=dT hc;have hkl:k<ds.length:=by omega
   have hkt:k<ts.length:=by omega
   obtain⟨z,hzk⟩:∃ z,ts[k]=z:=⟨_,rfl⟩;have hzm:z∈ts:=by rw [<- hzk];exact gM hkt
   have hkT:k<Ts.length:=by omega
   have hzT:Ts[k]=z.1.map (·.1):=by
    have h1:Ts[k]?=some (z.1.map (·.1)):=(by rw [<- hz,List.getElem?_map,gE hkt,hzk];rfl);rw [gE hkT] at h1;exact Option.some.inj h1
   obtain⟨d,hd⟩:∃ d,ds[k]=d:=⟨_,rfl⟩;have hdz:d<z.1.length:=by
    have:=hdlt k (Ts[k].length) d (by rw [List.getElem?_map,gE hkT];rfl) (by rw [gE hkl,hd]);rw [hzT,List.length_map] at this;exact this
   obtain⟨x,hx⟩:∃ x,z.1[d]=x:=⟨_,rfl⟩;have hxm:x∈z.1:=by rw [<- hx];exact gM hdz
   have hpick:zd6 (Ts.take (k+1)) (ds.take (k+1))=zd6 (Ts.take k) (ds.take k)++[x.1]:=by
    rw [tsg hkT,tsg hkl,hd,hzT,zgm _ _ _ _ (by rw [List.length_take,List.length_take];omega),List.getElem?_map,gE hdz,hx];rfl
   obtain⟨bD,oD,hpD,hlD,hatD⟩:=(hslY.below hbZ).at hkl;obtain⟨bT,oT,hpT,hlT,hatT⟩:=(rkY.below hbZ).row.at hkt;obtain⟨bz,oz,hpz,hlz,hatz⟩:=((n1Y z hzm).below hbZ).row.at hdz;subst hpD;subst hpT;refine⟨k,rfl,hkl,?_⟩;refine⟨i64 d,by have:=zac (hatD k hkl) (i:=0) (v:=i64 d) (by rw [hd];rfl);exact this,?_⟩;refine⟨_,zac (zaa (zab hbZ g3)) (i:=0) rfl,?_⟩;refine⟨k,rfl,hkt,?_⟩;refine⟨.slice z.2.1 z.1.length z.2.2,by have:=zac (hatT k hkt) (i:=0) (v := .slice z.2.1 z.1.length z.2.2) (by rw [hzk];rfl);exact this,?_⟩;rw [hpz];refine⟨d,rfl,hdz,?_⟩;refine⟨pthE.enc x,pthE.len x,by rw [<- hx];exact hatz d hdz,hlz,?_⟩;refine⟨⟨by decide,by decide,rfl⟩,pthE.enc x,zce (pthE.len x) rfl,?_⟩;have hb2:Bw Z (Z.alloc (.cells (pthE.enc x).toArray 217)):=zba _ _;have sb2:=hb2.size;unfold opsE zcr;show SatR _ _;refine appP (oC.below hb2) (zaW pthE x) (by omega) (by omega) fun p' c' U oU gU hat1=>?_;refine nxI (by omega) ?_;refine⟨(k+1,Cs++[x],p',c'),(cvE rfl rfl),⟨hkl,oU,by rw [List.map_append,hCs,hpick];rfl,by rw [lap,hCl];rfl,fun y hy=>?_,hbZ.trans ((hb2.mono hZs).trans (zaX (oC.below hb2) (by omega) (Nat.le_refl _) gU))⟩,zdc (by omega)⟩;rcases List.mem_append.1 hy with hy | hy
   ·exact hCm y hy
   ·rw [List.mem_singleton.1 hy];exact⟨z,hzm,hxm⟩
  have hc:¬ (k:Int)<(ds.length:Int):=dF hc;obtain rfl:k=ds.length:=by omega
  rw [List.take_length,List.take_of_length_le (by omega)] at hCs;obtain⟨q1,k1,q2,k2,q3,k3,q4,k4,hvs,_⟩:=hP0.v.h;have hpc1:pc[1]?=some (.slice q1 p.init.length k1):=by rw [hvs,<- hil];rfl
  have hZw:w.heap.size<=Z.heap.size:=by have:=hbwY.size;omega
  refine⟨_,zac (zaa (zab hbZ g0)) (i:=0) rfl,?_⟩;obtain⟨mx,hmx⟩:∃ mx,mixR p.init (Cs.map (·.1))=some mx:=by
   rw [hCs];exact Option.isSome_iff_exists.1 hsome1
  have hfd:f ds=some mx:=by rw [hf,<- hmx,hCs]
  refine cmo (zkR (zab hbZ fPY) hpc1 h2 ((hinit.below (((zst hbwY hbZ)).mono hB)).slr (by omega)) hi6 oC.row (fun x hx=>?_) (fun x hx=>?_) (by omega)) ?_
  ·obtain⟨z,hz1,hx1⟩:=hCm x hx;obtain⟨o1,o2,o3,o4⟩:=n2Y z hz1 x hx1;refine⟨fun a ha=>?_,(o1.below hbZ).row,(o2.below hbZ).row,(o3.below hbZ).row,(o4.below hbZ).row⟩;rcases ha with ha | ha | ha
   ·exact (zas (o2.below hbZ) ha).2.1
   ·exact (zas (o3.below hbZ) ha).2.1
   ·exact (zas (o4.below hbZ) ha).2.1
  ·obtain⟨z,hz1,hx1⟩:=hCm x hx;exact hmemT z hz1 x hx1
  rintro e U ⟨⟨vs,hres⟩,hbU⟩;rw [hmx] at hres;obtain⟨rfl,x1,x2,x3,x4,y1,y2,y3,y4,xs',ys',hvs',m1,m2,m3,m4,m5,m6,m7,m8⟩:=hres;obtain⟨nx,hnx⟩:∃ nx:MixX,nx=⟨mx,x1,y1,x2,y2,x3,y3,x4,y4,xs',ys'⟩:=⟨_,rfl⟩;have hen:vs=mixE.enc nx:=by rw [hvs',hnx];rfl
  have hvl:vs.length=336:=by rw [hen];exact mixE.len nx
  have hv1:vs.all Value.oneCell'=true:=by rw [hen];exact zjD nx
  have hUs:=hbU.size;refine zap (X:=U) (v := .agg vs.toArray) k153 hvl zbB hv1 fun V' hbV fV sV=>?_;have fV:V'.heap[U.heap.size]?=some (.cells vs.toArray 153 (0,0)):=fV;refine brF ?_;have hbY2V:Bw Y2 V':=(hbZ.trans (hbU.mono hZs)).trans (hbV.mono (by omega));obtain⟨pr,cr,h4,h5,h6⟩:=hG2.row;refine⟨_,zac (zaa (zab hbY2V h4)) (i:=0) rfl,?_⟩;refine⟨vs,hvl,zaa fV,hlt fV,?_⟩;refine⟨⟨by decide,by decide,zbB⟩,mixE.enc nx,by rw [<- hen];exact zce hvl zbB,?_⟩;have hpl:pre.length<1000000000:=by
   obtain⟨t,ht⟩:=hpre;have h7:(pre++[ds]++t).length=za2 (Ts.map List.length).reverse:=by
    rw [ht];unfold zdV;rw [List.length_map,List.length_range]
   have h8:za2 (Ts.map List.length).reverse<=4096:=by
    have h9:=hall p.threads.length (Nat.le_refl _);rw [List.take_length,hsz] at h9;rw [zlE];exact h9
   simp only [lap,List.length_cons] at h7;omega
  have hnw:∀ (G:Nat->Prop) (S:World),(∀ k,Y2.heap.size<=k->k<V'.heap.size->S.heap[k]?=V'.heap[k]?)->(∀ k,Y2.heap.size<=k->k<V'.heap.size->G k)->NInM w.heap.size G S nx:=by
   intro G S hs hg;have kp:∀ {α:Type} {E:Enc α} {T cc:Nat} {r:Option Addr} {ll:List α},OwnS E T Z.heap.size U r cc ll->RowIn E T w.heap.size G S r cc ll:=fun {α E T cc r ll} h=>by
    have ol:∀ a,r=some a->Y2.heap.size<=a.block/\a.block<V'.heap.size:=fun a ha=>⟨by have:=(zas h ha).1;omega,by have:=(zas h ha).2.1;omega⟩;exact⟨OwnS.lower ((h.below hbV).same fun a ha=>hs _ (ol a ha).1 (ol a ha).2) hZw,fun a ha=>hg _ (ol a ha).1 (ol a ha).2⟩
   rw [hnx];exact⟨m3,m6,kp m1,kp m2,kp m4,fun y hy=>kp (m5 y hy),kp m7,fun y hy=>kp (m8 y hy)⟩
  obtain⟨v,Y5,hrun,S,hrun2,F',hG',hK',hFF'⟩:=hG2.step (P:=Tryz.prog) (ty:=147) (cap1:=1) (zhL _) (by decide) Tryz.underlying147 k153 rfl rfl (by show _=336;exact zbB) k147 rfl (by omega) (Nat.le_refl _) hbY2V nx (by omega) (by show (ms.length+1)*2488<=_;omega) hnw pr cr h4;unfold opsE zcr;refine SatR.mk hrun ?_;refine SatR.mk hrun2 ?_;refine⟨F',⟨_,⟨?_,by rw [lap,lap];show ms.length+1<=pre.length+1;omega⟩,hG'⟩,hK'⟩;rw [List.map_append,List.filterMap_append,hms];show _++[nx.m]=_++List.filterMap f [ds];rw [show List.filterMap f [ds]=[mx] by rw [List.filterMap_cons,hfd];rfl,hnx]
 ·rintro D F Y hD hfD ⟨ms,⟨hms,hml⟩,hG⟩ hdef;obtain⟨pr,cr,h4,h5,h6⟩:=hG.row;have hYs:=hG.size;have old:∀ {k:Nat} {ob:Obj},k<Q->V1.heap[k]?=some ob->Y.heap[k]?=some ob:=fun {k ob} hk h=>(hG.old.block k hk).trans h;have g1:=old (by omega) hS1.f1;have g2:=old (by omega) hS1.f2;refine⟨_,zac (zaa h4) (i:=0) rfl,?_⟩;refine zal k147 g1 (o:=0) (v := .slice pr ms.length cr) rfl rfl (by show 0<1;decide) rfl fun Z1 fZ1 gZ1 sZ1=>?_;refine zal k4 ((gZ1.block (L+2) (hlt g2) (by simp)).trans g2) (o:=0) (v := .bool true) rfl rfl (by show 0<1;decide) rfl fun Z2 fZ2 gZ2 sZ2=>?_;have k2:∀ k,k<Y.heap.size->k≠L+1->k≠L+2->Z2.heap[k]?=Y.heap[k]?:=fun k hk n1 n2=>(gZ2.block k (by rw [sZ1];exact hk) (by simpa using n2)).trans (gZ1.block k hk (by simpa using n1));refine⟨_,rfl,(k2 D (hlt hdef) (by omega) (by omega)).trans hdef,?_⟩;have f2':=(gZ2.block (L+1) (hlt fZ1) (by simp)).trans fZ1;have kp:∀ a:Addr,a.block≠L+1->a.block≠L+2->F a.block->a.block<Y.heap.size->(Z2.putObj D (.deferred none)).heap[a.block]?=Y.heap[a.block]?:=fun a n1 n2 h2 h3=>(zai fun e=>by rw [<- e] at hfD;exact hfD h2).trans (k2 _ h3 n1 n2);have hwY:=hb1.trans (hG.old.mono (by omega));have b2:=(hwY.trans (zak gZ1 hwY.size (by omega))).trans (zak gZ2 (by have:=hwY.size;omega) (by omega));have ne:∀ {α:Type} {E:Enc α} {T B' cc:Nat} {r:Option Addr} {ll:List α},T≠147->T≠4->OwnS E T B' Y r cc ll->∀ a,r=some a->a.block≠L+1/\a.block≠L+2:=fun {α E T B' cc r ll} t1 t2 h a ha=>by
   obtain⟨_,_,cur,hc⟩:=zas h ha;refine⟨fun e=>?_,fun e=>?_⟩
   ·rw [e,g1] at hc;simp at hc;exact t1 hc.2.symm
   ·rw [e,g2] at hc;simp at hc;exact t2 hc.2.symm
  refine⟨.slice pr ms.length cr,zac (zaa ((zai (by omega)).trans f2')) (i:=0) rfl,.bool true,zac (zaa ((zai (by omega)).trans fZ2)) (i:=0) rfl,⟨ms,pr,cr,rfl,by rw [hms,hmix],?_,fun x hx=>?_⟩,zaP b2 (by omega) _⟩
  ·exact OwnS.lower (h5.same fun a ha=>kp a (ne (by decide) (by decide) h5 a ha).1 (ne (by decide) (by decide) h5 a ha).2 (h6 a ha) (zas h5 ha).2.1) (by omega)
  ·exact (hG.nest x hx).same fun {α E T c q l} t1 t2 t3 hr=>⟨hr.own.same fun a ha=>kp a (ne t2 t3 hr.own a ha).1 (ne t2 t3 hr.own a ha).2 (hr.inF a ha) (zas hr.own ha).2.1,fun a ha=>(zas hr.own ha).1⟩
 ·rintro D ex pre F Y hD hfD hpre h;exact h.elim
end
abbrev zbv (p:Prg) (V:List UInt8):List MixD:=zlW p.init (p.threads.map (zaz V))
def zbX (m:MixD):List ExD:=if cntR m 1=0 then [] else zgF m
abbrev zbM (p:Prg) (V:List UInt8):List ExD:=(zbv p V).flatMap zbX
structure CandQ (p:Prg) (n:Nat) (V:List UInt8) (most:Nat):Prop where
 ok:zf9 p=true
 il:p.locs.length=p.init.length
 i1:1<=p.init.length
 i6:p.init.length<=6
 is:srt8 p.init=true
 vals:zke p.threads n (ded p.init)=some V
 v1:1<=V.length
 v12:V.length<=12
 vs:srt8 V=true
 d12:(ded V).length<=12
 t4:p.threads.length<=4
 th:∀ l∈p.threads,ThrQ V l
 all:∀ k,k<=p.threads.length->zd4 ((p.threads.take k).map fun l=>(zaz V l).length)<=4096
 pb:∀ l∈p.threads,∀ P∈zaz V l,PathB p.init.length P
 some:∀ ds∈zdV ((p.threads.map (zaz V)).map List.length),(mixR p.init (zd6 (p.threads.map (zaz V)) ds)).isSome=true
 ml:(zbv p V).length<=5000
 mb:∀ m∈zbv p V,MixB m
 m20:most<=20000
 cnt:((zbv p V).map fun m=>cntR m 20001).sum<=most
 len:(zbM p V).length<=30000
theorem zng {l:List Nat} (k:Nat):(l.take k).sum<=l.sum:=by
 have:l.sum=(l.take k).sum+(l.drop k).sum:=by rw [<- List.sum_append,List.take_append_drop]
 omega
theorem zqb {m:MixD} {xs ys:List NatL} {lim:Nat} (h1:xs.map (·.1)=m.rs.map (·.2)) (h2:ys.map (·.1)=m.wr):cntF lim (xs.map (·.1)) (ys.map (·.1))=cntR m lim:=by
 rw [h1,h2];rfl
section
variable {w:World} {B n most:Nat} {pc:List Value} {p:Prg} {V:List UInt8}
theorem zqC (hB:B<=w.heap.size) (hP:PrgX B w pc p) (hG:GlobE w) (hQ:CandQ p n V most) :
  Calls Tryz.prog 50 #[.agg pc.toArray,i64 most] w fun e w'=>(∃ (xs:List exE3) (q:Option Addr) (c:Nat),e = .returned (.tuple #[.slice q xs.length c,i64 0])/\xs.map (·.1)=zbM p V/\OwnS exE 104 w.heap.size w' q c xs/\∀ x∈xs,OwnS evE 225 w.heap.size w' x.2.1 x.2.2 x.1.ev)/\Bw w w':=by
 refine cofM 74 [.agg pc.toArray,i64 most] (.c .p (.s .p (.s .p (.s .p (.c .p (.s .p (.s .p (.c .p (.c .p (.c .p .p)))))))))) Tryz.func50 ?_;obtain⟨L,hL⟩:=nm (w.heap.size);have hpc:=hP.v.size;have hm20:=hQ.m20;refine⟨Unit,fun _=>⟨[(1,i64 most),(2,At0 L)],[]⟩,fun _ X=>X.heap[L]?=some (.cells pc.toArray 45 (0,0))/\L<X.heap.size/\Bw w X,⟨(),⟨.cons rfl (.cons (by rw [hL];rfl) .nil),rfl⟩,by rw [hL];exact hnew w _,by rw [hL];exact hlt (hnew w _),(zba w _)⟩,?_⟩;rintro _ X ⟨f0,sX,hbX⟩;refine brN (decide_eq_false (by omega)) ?_;refine brN (decide_eq_false (by omega)) ?_;refine⟨pc,hpc,zaa f0,hlt f0,?_⟩;refine cmo (zi7 (Nat.le_trans hB hbX.size) (hP.v.below (hbX.mono hB)) (hG.c.below hbX)) ?_;rintro e Y ⟨m,rfl,hm,hbY⟩;have hm0:m=0:=hm.2 hQ.ok;subst hm0;refine brF ?_;have hwY:=zst hbX hbY;have f0:=zab hbY f0;refine⟨pc,hpc,zaa f0,hlt f0,?_⟩;refine cmo (zoj (Nat.le_trans hB hwY.size) (hP.below (hwY.mono hB)) (hG.below hwY) hQ.ok (fun l hl=>(hQ.th l hl).ex) (fun l hl=>(hQ.th l hl).l12) hQ.i1 (by have:=hQ.i6;omega) hQ.is hQ.vals) ?_;rintro e Z ⟨⟨qv,cv,rfl,oV⟩,hbZ⟩;refine brF ?_;have hwZ:=zst hwY hbZ;have f0:=zab hbZ f0;clear hbX hbY hwY;obtain⟨V0,hV0⟩:=nm (V);refine⟨List MixX×Option Addr×Nat,fun s=>⟨[(1,i64 most),(8,.slice s.2.1 s.1.length s.2.2),(9,.bool true)],[]⟩,fun s U=>s.1.map (·.m)=zbv p V/\OwnS mixE 153 w.heap.size U s.2.1 s.2.2 s.1/\(∀ x∈s.1,NInM w.heap.size (fun k=>w.heap.size<=k) U x)/\Bw w U,?_,?_⟩
 ·refine cmo (zps f0 (Nat.le_trans hB hwZ.size) (hP.below (hwZ.mono hB)) hQ.il hQ.i6 (hG.below hwZ) oV.row hQ.v1 hQ.v12 hQ.vs hQ.d12 hQ.t4 hQ.th hQ.all hQ.pb hQ.some) ?_;rintro e U ⟨⟨ms,q,c,rfl,hms,oM,nM⟩,hbU⟩;exact⟨(ms,q,c),(cvE rfl rfl),hms,oM.lower hwZ.size,fun x hx=>(nM x hx).lower hwZ.size,(zst hwZ hbU)⟩
 clear oV hbZ hwZ f0;rintro⟨ms,q,c⟩ X ⟨hms,oM,nM,hbX⟩;dsimp only at hms oM nM ⊢;refine brF ?_;have hml:ms.length<=5000:=by have:=hQ.ml;rw [<- hms,List.length_map] at this;exact this
 have hmb:∀ x∈ms,MixB x.m:=fun x hx=>hQ.mb x.m (by rw [<- hms];exact List.mem_map.2 ⟨x,hx,rfl⟩);have hsum:(ms.map fun x=>cntR x.m 20001).sum<=most:=by
  have:=hQ.cnt;rw [<- hms,List.map_map] at this;exact this
 have htake:∀ k,((ms.take k).map fun x=>cntR x.m 20001).sum<=most:=fun k=>by
  have:=zng (l:=ms.map fun x=>cntR x.m 20001) k;rw [<- List.map_take] at this;omega
 obtain⟨tot,htot⟩:=nm ((ms.map fun x=>cntR x.m 20001).sum);have cnt:∀ {Z:World} {k lim:Nat} (hk:k<ms.length),OwnS mixE 153 w.heap.size Z q c ms->(∀ x∈ms,NInM w.heap.size (fun k=>w.heap.size<=k) Z x)->1<=lim->lim<=100000->∃ b o,q=some ⟨b,o,none⟩/\Calls Tryz.prog 96 #[.pointer (some ⟨b,o+k*336,none⟩),i64 lim] Z fun e w'=>e = .returned (i64 (cntR ms[k].m lim:Nat))/\Z=w':=fun {Z k lim} hk oM nM h1 h2=>by
  obtain⟨b,o,hq,hb,hat⟩:=oM.row.at hk;have hx:=nM ms[k] (gM hk);have hb1:=hmb ms[k] (gM hk);have hxl:ms[k].xs.length=ms[k].m.rs.length:=by have:=congrArg List.length hx.e2;simpa using this
  have hyl:ms[k].ys.length=ms[k].m.wr.length:=by have:=congrArg List.length hx.e3;simpa using this
  refine⟨b,o,hq,?_⟩;have:=zp3 (lim:=lim) (r := .slice ms[k].p1 ms[k].m.rs.length ms[k].c1) (hat k hk) hx.r2.own.row hx.r3.own.row (fun y hy=>?_) (fun y hy=>?_) (by have:=hb1.rl;omega) (by have:=hb1.wl;omega) h1 h2
  ·rw [zqb hx.e2 hx.e3] at this;exact this
  ·have h3:y.1∈ms[k].m.rs.map (·.2):=by rw [<- hx.e2];exact List.mem_map.2 ⟨y,hy,rfl⟩
   obtain⟨r,hr,he⟩:=List.mem_map.1 h3;rw [<- he];exact (hb1.rs r hr).2.1
  ·have h3:y.1∈ms[k].m.wr:=by rw [<- hx.e3];exact List.mem_map.2 ⟨y,hy,rfl⟩
   have:=(hb1.wr _ h3).1;omega
 refine⟨Unit,fun _=>⟨[(8,.slice q ms.length c),(10,i64 tot)],[]⟩,fun _ Z=>X=Z,?_,?_⟩
 ·refine⟨Nat,fun k=>⟨[(1,i64 most),(8,.slice q ms.length c),(10,i64 (((ms.take k).map fun x=>cntR x.m 20001).sum:Nat)),(40,i64 ms.length),(41,i64 (k:Nat))],[]⟩,
   fun k Z=>k<=ms.length/\X=Z,fun k=>ms.length-k,0,(cvE rfl rfl),⟨Nat.zero_le _,rfl⟩,?_⟩
  rintro k _ ⟨hk,rfl⟩;dsimp only;refine biE (fun hc=>?_) fun hc=>?_
  ·have hc:(k:Int)<(ms.length:Int):=dT hc;have hkl:k<ms.length:=by omega
   obtain⟨b,o,hq,hcall⟩:=cnt (lim:=20001) hkl oM nM (by decide) (by decide);have htk:((ms.take (k+1)).map fun x=>cntR x.m 20001).sum=((ms.take k).map fun x=>cntR x.m 20001).sum+cntR ms[k].m 20001:=by
    rw [tsg hkl,List.map_append,List.sum_append];show _+(cntR ms[k].m 20001+0)=_;rw [Nat.add_zero]
   have h1:=htake (k+1);subst hq;refine⟨k,rfl,hkl,?_⟩;refine cmo hcall ?_;rintro e _ ⟨rfl,rfl⟩;refine⟨((((ms.take (k+1)).map fun x=>cntR x.m 20001).sum:Nat):Int),?_,?_⟩
   ·rw [htk,Int.natCast_add];exact zaf (by omega)
   refine brN (decide_eq_false (by omega)) ?_;refine nxI (by omega) ?_;exact⟨k+1,(cvE rfl rfl),⟨hkl,rfl⟩,zdc (by omega)⟩
  ·have hc:¬ (k:Int)<(ms.length:Int):=dF hc;obtain rfl:k=ms.length:=by omega
   rw [List.take_length,<- htot];exact⟨(),(cvE rfl rfl),rfl⟩
 rintro _ _ rfl;have hXs:=hbX.size;refine⟨Option Addr×Nat,fun s=>⟨[(8,.slice q ms.length c),(12,.slice s.1 0 s.2)],[]⟩,fun s Z=>OwnS exE 104 X.heap.size Z s.1 s.2 []/\Bw X Z,?_,?_⟩
 ·refine zea (E:=exE) Tryz.underlying95 k104 rfl (by show _=333;exact zcw) rfl tot (by show 2416*tot<=_;omega) (by unfold maxLen;omega) fun Z oZ hbZ sZ=>?_;exact⟨(some ⟨X.heap.size,0,none⟩,tot),(cvE rfl rfl),oZ,hbZ⟩
 rintro⟨p0,c0⟩ Y ⟨oY,hbY⟩;dsimp only at oY ⊢;refine⟨List exE3×Option Addr×Nat,fun s=>⟨[(12,.slice s.2.1 s.1.length s.2.2)],[]⟩,fun s Z=>s.1.map (·.1)=zbM p V/\OwnS exE 104 X.heap.size Z s.2.1 s.2.2 s.1/\(∀ x∈s.1,OwnS evE 225 X.heap.size Z x.2.1 x.2.2 x.1.ev)/\Bw X Z,?_,?_⟩
 ·refine⟨Nat×List exE3×Option Addr×Nat,fun s=>⟨[(8,.slice q ms.length c),(12,.slice s.2.2.1 s.2.1.length s.2.2.2),(57,i64 ms.length),(58,i64 (s.1:Nat))],[]⟩,
   fun s Z=>s.1<=ms.length/\s.2.1.map (·.1)=(ms.take s.1).flatMap (fun x=>zbX x.m)/\OwnS exE 104 X.heap.size Z s.2.2.1 s.2.2.2 s.2.1/\(∀ x∈s.2.1,OwnS evE 225 X.heap.size Z x.2.1 x.2.2 x.1.ev)/\Bw X Z,fun s=>ms.length-s.1,(0,[],p0,c0),
   (cvE rfl rfl),⟨Nat.zero_le _,rfl,oY,fun x hx=>(by cases hx),hbY⟩,?_⟩
  clear oY hbY;rintro⟨k,outs,po,co⟩ Z ⟨hk,hou,oZ,nZ,hbZ⟩;dsimp only at hk hou oZ nZ ⊢;have hZs:=hbZ.size;have oMZ:OwnS mixE 153 w.heap.size Z q c ms:=oM.same fun a ha=>hbZ.block _ (zas oM ha).2.1;have nMZ:∀ x∈ms,NInM w.heap.size (fun k=>w.heap.size<=k) Z x:=fun x hx=>(nM x hx).same fun {α E T c q l} _ _ _ hr=>⟨hr.own.same fun a ha=>hbZ.block _ (zas hr.own ha).2.1,hr.inF⟩;refine biE (fun hc=>?_) fun hc=>?_
  ·have hc:(k:Int)<(ms.length:Int):=dT hc;have hkl:k<ms.length:=by omega
   obtain⟨b,o,hq,hcall⟩:=cnt (lim:=1) hkl oMZ nMZ (by decide) (by decide);obtain⟨x,hx⟩:∃ x,ms[k]=x:=⟨_,rfl⟩;have hxm:x∈ms:=by rw [<- hx];exact gM hkl
   have htk:(ms.take (k+1)).flatMap (fun x=>zbX x.m)=(ms.take k).flatMap (fun x=>zbX x.m)++zbX x.m:=by
    rw [tsg hkl,List.flatMap_append,hx,List.flatMap_cons,List.flatMap_nil,List.append_nil]
   rw [hx] at hcall;have hat:zax Z ⟨b,o+k*336,none⟩ (mixC x):=by
    obtain⟨b',o',hq',_,hat⟩:=oMZ.row.at hkl;rw [hq] at hq';have:=hat k hkl;simp only [Option.some.injEq,Addr.mk.injEq,and_true] at hq';rw [<- hx,hq'.1,hq'.2];exact this
   have hbX2:b<X.heap.size:=(zas oM hq).2.1;subst hq;refine⟨k,rfl,hkl,?_⟩;refine cmo hcall ?_;rintro e _ ⟨rfl,rfl⟩;refine biE (fun h=>?_) fun h=>?_
   ·have h:cntR x.m 1=0:=Int.ofNat.inj (dT h);have hc0:zbX x.m=[]:=if_pos h;rw [hc0,List.append_nil] at htk;refine nxI (by omega) ?_;exact⟨(k+1,outs,po,co),(cvE rfl rfl),⟨hkl,by rw [hou,htk],oZ,nZ,hbZ⟩,zdc (by omega)⟩
   have h:cntR x.m 1≠0:=fun e=>(dF h) (by rw [e];rfl);have hc1:zbX x.m=zgF x.m:=if_neg h;rw [hc1] at htk;refine⟨k,rfl,hkl,?_⟩;refine cmo zqf ?_;rintro e U ⟨rfl,fU,sU,hbU⟩;have hxM:=nMZ x hxm;have hxB:=hmb x hxm;obtain⟨Rd,hRd⟩:∃ Rd:Nat->Prop,Rd=fun k=>k<X.heap.size\/k=Z.heap.size:=⟨_,rfl⟩;have ltX:∀ {α:Type} {E:Enc α} {T cc:Nat} {r:Option Addr} {ll:List α},RowIn E T w.heap.size (fun k=>w.heap.size<=k) X r cc ll->∀ a,r=some a->Rd a.block:=fun {α E T cc r ll} h a ha=>by rw [hRd];exact .inl (zas h.own ha).2.1
   have hX:=nM x hxm;have hM:MixM Rd U b (o+k*336) x.m x.q x.c x.p1 x.p2 x.p3 x.c1 x.c2 x.c3 x.xs x.ys:=by
    have r:∀ {α:Type} {E:Enc α} {T cc:Nat} {r:Option Addr} {ll:List α},RowIn E T w.heap.size (fun k=>w.heap.size<=k) Z r cc ll->SlR E U r ll:=fun {α E T cc r ll} h=>(h.own.below hbU).row;refine⟨zaq hbU hat,r hxM.ev,fun e=>?_,r hxM.r1,hxM.e2,r hxM.r2,fun y hy=>r (hxM.n2 y hy),hxM.e3,r hxM.r3,fun y hy=>r (hxM.n3 y hy),by rw [hRd];exact .inl hbX2,ltX hX.ev,ltX hX.r1,ltX hX.r2,ltX hX.r3,fun y hy=>ltX (hX.n2 y hy),fun y hy=>ltX (hX.n3 y hy)⟩;rcases hxM.ev.own.inv with ⟨_,h,_⟩ | ⟨g,cur,h,_⟩
    ·exact h
    ·rw [e] at h;cases h
   have hRl:∀ k,Rd k->k<U.heap.size:=fun k hk=>by
    rw [hRd] at hk;omega
   have hTU:Tz64M U:=hG.t64.below (hbX.trans ((hbZ.trans (hbU.mono hZs)).mono hXs));have htz:=zck hG.t64;have hI:=zqg hM fU (by rw [hRd];exact .inr rfl) hRl hTU (by rw [hRd];left;omega) hxB hxB.ev;have hln:outs.length+(zgF x.m).length<=30000:=by
    have h2:=hQ.len;have h3:(zbM p V)=ms.flatMap (fun x=>zbX x.m):=by
     show (zbv p V).flatMap zbX=_;rw [<- hms,List.flatMap_map]
    rw [h3] at h2;have h4:ms.flatMap (fun x=>zbX x.m)=(ms.take (k+1)).flatMap (fun x=>zbX x.m)++(ms.drop (k+1)).flatMap (fun x=>zbX x.m):=(by rw [<- List.flatMap_append,List.take_append_drop]);rw [h4,htk,<- hou,lap,lap,List.length_map] at h2;omega
   refine cmo (zjc (oZ.below hbU) (fun y hy=>(nZ y hy).below hbU) (by omega) hI (Nat.le_refl _) (fun k hk=>⟨hRl k hk,rfl⟩) (fun k hk=>by rw [hRd] at hk;exact hk) fU (by omega) hln) ?_;rintro e T ⟨⟨new,pn,cn,rfl,hnew,oT,nT⟩,hbT⟩;refine nxI (by omega) ?_;exact⟨(k+1,outs++new,pn,cn),(cvE rfl rfl),⟨hkl,by rw [List.map_append,hou,hnew,htk],oT,nT,(hbZ.trans (hbU.mono hZs)).trans hbT⟩,zdc (by omega)⟩
  ·have hc:¬ (k:Int)<(ms.length:Int):=dF hc;obtain rfl:k=ms.length:=by omega
   rw [List.take_length] at hou;refine⟨(outs,po,co),(cvE rfl rfl),?_,oZ,nZ,hbZ⟩;rw [hou];show ms.flatMap _=(zbv p V).flatMap zbX;rw [<- hms,List.flatMap_map]
 rintro⟨outs,po,co⟩ Z ⟨hou,oZ,nZ,hbZ⟩;exact⟨⟨outs,po,co,rfl,hou,oZ.lower hXs,fun x hx=>(nZ x hx).lower hXs⟩,hbX.trans (hbZ.mono hXs)⟩
end
def zpS (x:InsD):Bool:=(decide (x.op=1)&&decide (x.dst.toNat<8))||((decide (x.op=2)&&(!x.ar||decide (x.an.toNat<8)))||decide (x.op=7))
theorem zpR {x:InsD} (h:zpS x=true):ExOk x:=by
 unfold zpS at h;simp only [Bool.or_eq_true,bAT,dE,Bool.not_eq_true'] at h;rcases h with ⟨h1,h2⟩ | ⟨h1,h2⟩ | h1
 ·exact .inl ⟨h1,h2⟩
 ·refine .inr (.inl ⟨h1,fun h=>?_⟩);rcases h2 with h2 | h2
  ·rw [h] at h2;cases h2
  ·exact h2
 ·exact .inr (.inr h1)
def zpn (locs:Nat) (P:PathD):Bool :=
 decide (P.ev.length<=24)&&((P.ev.all fun e => !(decide (e.k=1)||decide (e.k=2))||decide (e.l.toNat<locs))&&((P.data.all fun p=>decide (p.1<P.ev.length)&&decide (p.2<P.ev.length))&&((P.ctrl.all fun p=>decide (p.1<P.ev.length)&&decide (p.2<P.ev.length))&&((P.rmw.all fun p=>decide (p.1<P.ev.length)&&decide (p.2<P.ev.length)) &&
  (decide (P.data.length<=100000)&&(decide (P.ctrl.length<=100000)&&decide (P.rmw.length<=100000)))))))
theorem znA {locs:Nat} {P:PathD} (h:zpn locs P=true):PathB locs P:=by
 unfold zpn at h;simp only [bAT,Bool.or_eq_true,dE,List.all_eq_true,Bool.not_eq_true',Bool.or_eq_false_iff,decide_eq_false_iff_not] at h;obtain⟨h1,h2,h3,h4,h5,h6,h7,h8⟩:=h;refine⟨h1,fun e he hk=>?_,h3,h4,h5,h6,h7,h8⟩;rcases h2 e he with h | h
 ·rcases hk with hk | hk
  ·exact (h.1 hk).elim
  ·exact (h.2 hk).elim
 ·exact h
def zmJ (p:Prg) (n:Nat) (V:List UInt8) (most:Nat):Bool :=
 zf9 p&&(decide (p.locs.length=p.init.length)&&(decide (1<=p.init.length)&&(decide (p.init.length<=6)&&(srt8 p.init&&(decide (zke p.threads n (ded p.init)=some V)&&(decide (1<=V.length)&&(decide (V.length<=12)&&(srt8 V&&(decide ((ded V).length<=12)&&(decide (p.threads.length<=4) &&
  ((p.threads.all fun l=>decide (l.length<=12)&&(l.all zpS&&(zbk l 6&&decide ((zcu l (ded V)).length<=4096)))) &&
   (((List.range (p.threads.length+1)).all fun k=>decide (zd4 ((p.threads.take k).map fun l=>(zaz V l).length)<=4096)) &&
    ((p.threads.all fun l=>(zaz V l).all (zpn p.init.length)) &&
     (((zdV ((p.threads.map (zaz V)).map List.length)).all fun ds=>(mixR p.init (zd6 (p.threads.map (zaz V)) ds)).isSome) &&
      (decide ((zbv p V).length<=5000)&&((zbv p V).all zpt&&(decide (most<=20000)&&(decide (((zbv p V).map fun m=>cntR m 20001).sum<=most)&&decide ((zbM p V).length<=30000)))))))))))))))))))
theorem zn9 {p:Prg} {n:Nat} {V:List UInt8} {most:Nat} (h:zmJ p n V most=true):CandQ p n V most:=by
 unfold zmJ at h;simp only [bAT,dE,List.all_eq_true,List.mem_range] at h;obtain⟨h1,h2,h3,h4,h5,h6,h7,h8,h9,h10,h11,h12,h13,h14,h15,h16,h17,h18,h19,h20⟩:=h;exact⟨h1,h2,h3,h4,h5,h6,h7,h8,h9,h10,h11,fun l hl=>⟨(h12 l hl).1,fun x hx=>zpR ((h12 l hl).2.1 x hx),(h12 l hl).2.2.1,(h12 l hl).2.2.2⟩,fun k hk=>h13 k (by omega),fun l hl P hP=>znA (h14 l hl P hP),h15,h16,fun m hm=>zpu (h17 m hm),h18,h19,h20⟩
def stI (l v m:UInt8):InsD:=⟨2,0,l,false,v,false,0,0,m,0⟩
def ldI (d l m:UInt8):InsD:=⟨1,d,l,false,0,false,0,0,m,0⟩
def exvB (x:ExD):Bool:=decide (x.ev.length<=20)&&(wrdB x.po&&(wrdB x.rf&&(wrdB x.co&&(wrdB x.dt&&(wrdB x.ct&&wrdB x.rm)))))
def finS (r m:Nat->UInt8):List Value:=seg 32 (fun i=>u8 (r i))++seg 6 (fun i=>u8 (m i))
theorem znY (r m:Nat->UInt8):(finS r m).length=38:=by unfold finS;rw [lap,zat,zat]
def finV (r m:Nat->UInt8):FinV:=⟨(List.range 32).map r++(List.range 6).map m,by simp⟩
theorem zeg (r m:Nat->UInt8):finE.enc (finV r m)=finS r m:=by
 show ((List.range 32).map r++(List.range 6).map m).map u8=_;unfold finS seg;rw [List.map_append,List.map_map,List.map_map];rfl
theorem zhZ (f:FinV):finV (fun i=>f.l.getD i 0) (fun i=>f.l.getD (32+i) 0)=f:=by
 apply FinV.ext';show (List.range 32).map _++(List.range 6).map _=f.l;have hl:=f.len;apply List.ext_getElem?;intro i;by_cases h1:i<32
 ·rw [List.getElem?_append_left (by simpa using h1),List.getElem?_map,List.getElem?_range h1,gE (by omega),Option.map_some,gDe,gE (by omega)];rfl
 ·rw [List.getElem?_append_right (by simpa using h1),List.length_map,List.length_range,List.getElem?_map];by_cases h2:i<38
  ·rw [List.getElem?_range (by omega),Option.map_some,gDe,show 32+(i-32)=i by omega,gE (by omega)];rfl
  ·rw [List.getElem?_eq_none (by rw [List.length_range];omega),List.getElem?_eq_none (by omega)];rfl
theorem zgj {m n:Nat} {f:Nat->UInt8} {i j:Nat} (hi:i<m) (hj:j<n):zaR (zaR (seg (m*n) (fun i=>u8 (f i))) (i*n) n) (j*1) 1=[u8 (f (i*n+j))]:=by
 have hlt:i*n+j<m*n:=by
  have:(i+1)*n<=m*n:=Nat.mul_le_mul_right n hi;rw [Nat.succ_mul] at this;omega
 apply List.ext_getElem?;intro k;unfold zaR;rw [Nat.mul_one]
 cases k with
 | zero =>
  rw [List.getElem?_take_of_lt (by decide),List.getElem?_drop,Nat.add_zero,List.getElem?_take_of_lt hj,List.getElem?_drop,zdC _ hlt];rfl
 | succ k =>
  rw [List.getElem?_eq_none (by rw [List.length_take];omega),List.getElem?_eq_none (by simp)]
theorem zqH:∃ G,TyEq Tryz.prog 27 true 38 4 G/\∀ r m:Nat->UInt8,G (finS r m):=by
 have r8:TyEq Tryz.prog 23 true 8 2 _ := .array (m:=8) (by decide) Tryz.underlying23 (fun w=>Tryz.isAgg23 w) (zaU (by kernel_rfl) (by kernel_rfl)).1 (by kernel_rfl) tU8;have r32:TyEq Tryz.prog 24 true 32 3 _ := .array (m:=4) (by decide) Tryz.underlying24 (fun w=>Tryz.isAgg24 w) (zaU (by kernel_rfl) (by kernel_rfl)).1 (by kernel_rfl) r8;have r6:TyEq Tryz.prog 25 true 6 2 _ := .array (m:=6) (by decide) Tryz.underlying25 (fun w=>Tryz.isAgg25 w) (zaU (by kernel_rfl) (by kernel_rfl)).1 (by kernel_rfl) tU8;refine⟨_,.struct (uf Tryz.underlying27).1 (by kernel_rfl) (fun w=>Tryz.isAgg27 w) (zaU (by kernel_rfl) (by kernel_rfl)).1 (by kernel_rfl)
  (by rw [(uf Tryz.underlying27).2];exact .cons (by decide) rfl r32 (.cons (by decide) rfl (r6.up 1) .nil)),fun r m=>?_⟩
 have e0:zaR (finS r m) 0 32=seg (4*8) fun i=>u8 (r i):=by
  unfold finS zaR;rw [List.drop_zero,List.take_append_of_le_length (by rw [zat];decide),List.take_of_length_le (by rw [zat];decide)]
 have e1:zaR (finS r m) 32 6=seg (1*6) fun i=>u8 (m i):=by
  unfold finS zaR;rw [List.drop_append_of_le_length (by rw [zat];decide),List.drop_of_length_le (by rw [zat];decide),List.nil_append,List.take_of_length_le (by rw [zat];decide)]
 refine⟨?_,?_,trivial⟩
 ·show ∀ i,i<4->∀ j,j<8->GInt .u8 (zaR (zaR (zaR (finS r m) 0 32) (i*8) 8) (j*1) 1);intro i hi j hj;rw [e0,zgj hi hj];exact⟨_,rfl⟩
 ·show ∀ j,j<6->GInt .u8 (zaR (zaR (finS r m) 32 6) (j*1) 1);intro j hj;rw [e1];have h:=zgj (m:=1) (n:=6) (f:=m) (i:=0) (j:=j) (by decide) hj;have h2:zaR (seg (1*6) fun i=>u8 (m i)) (0*6) 6=seg (1*6) fun i=>u8 (m i):=by
   unfold zaR;rw [Nat.zero_mul,List.drop_zero,List.take_of_length_le (by rw [zat];decide)]
  rw [h2] at h;rw [h];exact⟨_,rfl⟩
theorem zoY {a b:UInt8} (h:u8 a=u8 b):a=b:=by
 unfold u8 at h;injection h with _ h;exact UInt8.toNat_inj.1 (by omega)
theorem zjQ {a b:FinV}:finE.enc a=finE.enc b↔a=b:=by
 constructor
 ·intro h;apply FinV.ext';have h:a.l.map u8=b.l.map u8:=h;apply List.ext_getElem (by rw [a.len,b.len]);intro i h1 h2;have h3:(a.l.map u8)[i]?=(b.l.map u8)[i]?:=by rw [h]
  rw [List.getElem?_map,List.getElem?_map,gE h1,gE h2] at h3;exact zoY (Option.some.inj h3)
 ·rintro rfl;rfl
theorem zjP (u v:Operand) (x y:FinV) (w:World):(do eqGuard .eql 27 u v (.agg (finE.enc x).toArray) (.agg (finE.enc y).toArray);binOp .eql 27 (.agg (finE.enc x).toArray) (.agg (finE.enc y).toArray)).run Tryz.prog w = .ok (.bool (decide (x=y))) w:=by
 obtain⟨G,h1,h2⟩:=zqH;have g:∀ z:FinV,G (finE.enc z):=fun z=>by rw [<- zhZ z,zeg];exact h2 _ _
 have:=zjO h1 9996 rfl (by kernel_rfl) (finE.len x) (finE.len y) (g x) (g y) u v w;rw [this,zdt zjQ]
theorem zgW (u v:Operand) (x y:FinV) (w:World):(do eqGuard .neq 27 u v (.agg (finE.enc x).toArray) (.agg (finE.enc y).toArray);binOp .neq 27 (.agg (finE.enc x).toArray) (.agg (finE.enc y).toArray)).run Tryz.prog w = .ok (.bool (!decide (x=y))) w:=by
 obtain⟨G,h1,h2⟩:=zqH;have g:∀ z:FinV,G (finE.enc z):=fun z=>by rw [<- zhZ z,zeg];exact h2 _ _
 have:=zoA h1 9996 rfl (by kernel_rfl) (finE.len x) (finE.len y) (g x) (g y) u v w;rw [this,zdt zjQ]
def bufP:Prg:=⟨[115,98],[[120],[121]],[0,0],[[stI 0 1 0,ldI 0 1 0],[stI 1 1 0,ldI 0 0 0]],1,.mk 0 0 0 0 []⟩
def finX (x:ExD):FinV:=finV x.regs x.mem
def byL (m:Nat) (l:List ExD):List FinV:=(l.filter (zgx m)).map finX
theorem zr8:zmJ bufP 5 [0,1] 100=true:=by kernel_rfl
theorem zrw:((zbM bufP [0,1]).all exvB&&decide ((zbM bufP [0,1]).length<=100))=true:=by kernel_rfl
def scL:List FinV:=[outF 0 1,outF 1 0,outF 1 1]
def tsoL:List FinV:=[outF 0 0,outF 0 1,outF 1 0,outF 1 1]
def zq3 (l t:List FinV):Bool:=incB t&&(l.all (fun x=>decide (x∈t))&&t.all (fun x=>decide (x∈l)))
theorem zrv:zq3 (byL 2 (zbM bufP [0,1])) scL=true:=by kernel_rfl
theorem zqi:zq3 (byL 3 (zbM bufP [0,1])) tsoL=true:=by kernel_rfl
theorem zrY:zcE (byL 2 (zbM bufP [0,1]))=scL:=zjl zrv
theorem zqG:zcE (byL 3 (zbM bufP [0,1]))=tsoL:=zjl zqi
end Go.Proofs.YtlkofpbdpplfkaaGreatDoor
