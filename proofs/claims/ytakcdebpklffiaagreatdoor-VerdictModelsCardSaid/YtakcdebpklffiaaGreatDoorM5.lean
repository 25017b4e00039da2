/- Contracts of functions, and plain facts, for the law that the last text of this claim proves. -/
import Derived.Test.YtakcdebpklffiaaGreatDoorM4
import Derived.Test.YtakcdebpklffiaaGreatDoorM2
set_option linter.unusedSimpArgs false
set_option linter.unusedVariables false
namespace Go.Vc
open Go.RowKit
def zub {α:Type} (P:Program) (g:Nat) (lb:List Value) (xs:List α) (W0:Wd) (Rd:Nat->Prop) (St:List α->List Value->Wd->Prop) (Gv:List Value->Nat->Prop):Prop :=
 ∀(l:Nat) (F0:Nat->Prop) (J:List α->(Nat->Prop)->Wd->Prop) (W:Wd),W0.heap.size<=W.heap.size->(∀k,Rd k->W.heap[k]?=W0.heap[k]?)->(∀k,Rd k->¬F0 k) ->
  JG W.heap.size (fun _=>False) J ->
  (∀pre x vs F W1,J pre F W1->St (pre++[x]) vs W1->(∀k,Gv vs k->W.heap.size<=k)->(pre++[x]) <+: xs->YieldR P l vs.toArray W1 fun v W2 =>
   v = .bool true/\∃F',J (pre++[x]) F' W2/\KeepsG (fun k=>F k\/Gv vs k) F' W1 W2) ->
  J [] F0 W ->
  Calls P g (.func (.yield l) #[] #[]::lb).toArray W fun e W'=>(∃v,e = .returned v)/\∃F',J xs F' W'
theorem zwM{α:Type}{S:Sig}(hS:SigOk S)(hr:S.r=none){f:Operand}{ps:Array Tmp}{assign body:Code}{E:Env}{w:Wd}{Q:Exit->Env->Wd->Prop}
  {gf:Nat} {lb:Array Value} (hg:opd E f=some (.func (.func gf) #[] lb)) (hok:j6 S gf=true)
  {xs:List α} {W0:Wd} {Rd:Nat->Prop} {St:List α->List Value->Wd->Prop} {Gv:List Value->Nat->Prop} (hI:zub S.P gf lb.toList xs W0 Rd St Gv) (hGv:∀pre vs W k,St pre vs W->Gv vs k->∃cs t fr,W.heap[k]?=some (.cells cs t fr)) (hW0:W0.heap.size<=w.heap.size) (hRd:∀k,Rd k->k<W0.heap.size/\w.heap[k]?=W0.heap[k]?)
  (hps:∀pre vs W,St pre vs W->vs.length=ps.size) (hpn:∀p∈ps.toList,p<S.n)
  (F0:Nat->Prop) (J:List α->(Nat->Prop)->Wd->Prop) (hRF:∀k,Rd k->¬F0 k)
  (hJ:JG w.heap.size (fun _=>False) J) (h0:J [] F0 w)
  (hround:∀(l:Nat) (pre:List α) (x:α) (vs:List Value) (F:Nat->Prop) (W:Wd),w.heap.size<=l->(pre++[x]) <+: xs->J pre F W->St (pre++[x]) vs W->(∀k,Gv vs k->w.heap.size<=k)->¬F l->(∃lo,W.heap[l]?=some (.loop lo)) ->
   wpE (sr S l) assign ⟨zh9 ps.toList vs E.vs,[]⟩ W fun ex E1 W1=>ex = .normal/\∃F1,KeepsG (fun k=>F k\/Gv vs k) F1 W W1/\J pre F1 W1 /\
    ∀o W2,W2=W1.putObj l o->J pre F1 W2->wpE (sr S l) body E1 W2 (zwt F1 J (fun _ _ _ _=>False) (pre++[x]) W2))
  (hdone:∀D F W,w.heap.size<=D->¬F D->J xs F W->W.heap[D]?=some (.deferred (some []))->Q .normal ⟨E.vs,{ target := .collected D,args := #[] }::E.ds⟩ W) :
  zlK S f ps assign body E w Q:=by
 intro a ha;have ap:∀args w,(callFunc gf args).run S.P w = .ok (.enter gf args) w:=by
  simp only[j6,bAT,Gc,Gd] at hok;exact fun args w=>hS.call gf hok.1.1 hok.1.2 hok.2 args w
 refine wpIn_rangeFunc ?_;intro fn bk;have bh:(FR S.r).round=none:=hr;rw[bh];obtain⟨c,b⟩:∃c:LoopState->Option Code->Loop,c=fun st pe=>{ state:=st,pending:=pe,fn,tmps:=a.tmps,params:=ps,assign,body,defers:=w.heap.size }:=⟨_,rfl⟩;obtain⟨W1,z⟩:∃W1,(w.alloc (.deferred (some []))).alloc (.loop (c .ready none))=W1:=⟨_,rfl⟩;have be:=zt w (.deferred (some []));have ba:W1.heap[w.heap.size]?=some (.deferred (some [])):=by rw[<- z];exact qO _ be
 have bj:W1.heap[w.heap.size+1]?=some (.loop (c .ready none)):=by
  rw[<- z];have:=zt (w.alloc (.deferred (some []))) (.loop (c .ready none));rwa [wz] at this
 have bl:W1.heap.size=w.heap.size+2:=by rw[<- z];simp
 have af:Bw w W1:=by
  rw[<- z];exact((zba w _)).alloc (by simp) _
 have bb:=hJ.step _ _ _ _ h0 (.below af);have a4:∀k,F0 k->k<w.heap.size:=fun k i=>(hJ.lt _ _ _ k h0 i).1;refine⟨w.heap.size+1,[{ target := .collected w.heap.size,args := #[] }],W1,{ target := .fn (.func gf) lb,args := #[.func (.yield (w.heap.size+1)) #[] #[]] },W1,gf,
  #[.func (.yield (w.heap.size+1)) #[] #[]]++lb,W1,?_,?_,fun _ _=>trivial,?_,fun h=>by simp[FR] at h,?_⟩
 ·rw[<- z,b];exact Kr _ _ _ _ _
 ·have bg:=ha.eval hg;simp only[resolve,bg];simp[go_sem]
 ·simp[invoke,go_sem,ap]
 ·have aj : #[Value.func (.yield (w.heap.size+1)) #[] #[]]++lb=(Value.func (.yield (w.heap.size+1)) #[] #[]::lb.toList).toArray:=by rw[<- Qc];simp
  rw[aj];have a7:∀{σ:Type} {K:σ->(Nat->Prop)->Wd->Prop} (lo:Loop),JG w.heap.size (fun _=>False) K->JG W1.heap.size (fun _=>False) (fun s F W=>K s F W/\W.heap[w.heap.size+1]?=some (.loop lo)/\W.heap[w.heap.size]?=some (.deferred (some []))/\¬F (w.heap.size+1)/\¬F w.heap.size):=by
   intro σ K lo hK;exact⟨fun s F A B ⟨i,y,hd,q,ab⟩ hs=>⟨hK.step s F A B i (hs.mono (by omega)),(hs.same _ (hlt y) (.inl ⟨by omega,fun h=>h⟩)).trans y,(hs.same _ (hlt hd) (.inl ⟨by omega,fun h=>h⟩)).trans hd,q,ab⟩,fun s F A k ⟨i,_⟩ hf=>hK.lt s F A k i hf⟩
  have ad:=hI (w.heap.size+1) F0 (fun pre F W=>J pre F W/\W.heap[w.heap.size+1]?=some (.loop (c .ready none))/\W.heap[w.heap.size]?=some (.deferred (some []))/\¬F (w.heap.size+1)/\¬F w.heap.size)
   W1 (by omega) (fun k i=>by
    obtain⟨h1,j⟩:=hRd k i;rw[<- j];exact af.block k (by omega)) hRF (a7 _ hJ) ?_ ⟨bb,bj,ba,fun h=>by have:=a4 _ h;omega,fun h=>by have:=a4 _ h;omega⟩
  ·refine zdJ (ad.mono ?_);rintro e W2 ⟨⟨v,rfl⟩,F,hj,y,i,q,ab⟩;have ac:=hJ.step _ _ _ _ hj (StepG.put (Ow:=fun _=>False) (o := .loop (c .exhausted none)) (n0:=w.heap.size) (l:=w.heap.size+1) (by omega) q);refine⟨none,_,by have:=Ga (P:=S.P) y (by rw[b];simp);rw[b] at this;exact this,?_⟩;rw[b] at ac;exact⟨⟨E.vs,{ target := .collected w.heap.size,args := #[] }::E.ds⟩,⟨ha.size,by simp[ha.defers],ha.val⟩,hdone w.heap.size F _ (UW _) ab ac ((zj (by omega)).trans i)⟩
  ·rintro pre x vs F W ⟨hj,y,i,q,ab⟩ m az aw;have au:¬(F (w.heap.size+1)\/Gv vs (w.heap.size+1)):=fun h=>h.elim q fun h=>by
    obtain⟨_,_,_,j⟩:=hGv _ _ _ _ m h;rw[y] at j;cases j
   have ar:¬(F w.heap.size\/Gv vs w.heap.size):=fun h=>h.elim ab fun h=>by
    obtain⟨_,_,_,j⟩:=hGv _ _ _ _ m h;rw[i] at j;cases j
   have hy:=run_yield (P:=S.P) (args:=vs.toArray) y (by rw[b];simpa using hps _ _ _ m);rw[b] at hy;refine⟨fn,_,assign,body,hy,zcB (r:=none) (n:=NN) (roundIn_of_wpIn (F:=FR none) trivial ?_)⟩;have bd:Agrees (sr S (w.heap.size+1)) { tmps:=(ps.zip vs.toArray).foldl (fun t (p,v)=>t.setIfInBounds p v) a.tmps,defers:=[] } ⟨zh9 ps.toList vs E.vs,[]⟩:=by
    have h1:Agrees (sr S (w.heap.size+1)) { a with defers:=[] } ⟨E.vs,[]⟩:=⟨ha.size,rfl,ha.val⟩;have j:=zcA ps.toList vs _ _ h1 hpn;have e:(ps.zip vs.toArray).foldl (fun t (p,v)=>t.setIfInBounds p v) a.tmps=(ps.toList.zip vs).foldl (fun t (p,v)=>t.setIfInBounds p v) a.tmps:=by
     rw[<- Ks];simp
    rw[e];exact j
   have hw:=ji (zjN hS _) assign _ _ W _ bd (hround (w.heap.size+1) pre x vs F W (by omega) aw hj m (fun k i=>by have:=az k i;omega) q ⟨_,y⟩);refine Gg hw ?_;rintro ex a1 Wa ⟨E1,av,rfl,F1,d,bf,an⟩;have ay:=(d.same _ (hlt y) au).trans y;have bc:=(d.same _ (hlt i) ar).trans i;have aa:¬F1 (w.heap.size+1):=fun h=>by rcases d.fp _ h with h | h;exact au h;have:=hlt y;omega
   have ah:¬F1 w.heap.size:=fun h=>by rcases d.fp _ h with h | h;exact ar h;have:=hlt i;omega
   refine⟨_,run_beginRound ay (by rw[b]),?_⟩;have ae:StepG w.heap.size (fun _=>False) F1 Wa (Wa.putObj (w.heap.size+1) (.loop { c .ready none with state := .busy })) := .put (by omega) aa _;have ac:=hJ.step _ _ _ _ bf ae;have a8:=ji (zjN hS _) body _ _ _ _ av (an _ _ rfl ac);refine Gg a8 ?_;have ai:(Wa.putObj (w.heap.size+1) (.loop { c .ready none with state := .busy })).heap[w.heap.size+1]?=some (.loop { c .ready none with state := .busy }):=zaW ay;have ak:(Wa.putObj (w.heap.size+1) (.loop { c .ready none with state := .busy })).heap[w.heap.size]?=some (.deferred (some [])):=(zj (by omega)).trans bc;rintro e a3 W3 ⟨E3,_,hq⟩
   cases e with
   | normal =>
    obtain⟨F3,a9,g⟩:=hq;have aq:=(g.same _ (hlt ai) aa).trans ai;have bi:=(g.same _ (hlt ak) ah).trans ak;have ag:¬F3 (w.heap.size+1):=fun h=>by rcases g.fp _ h with h | h;exact aa h;have:=hlt ai;omega
    have a2:¬F3 w.heap.size:=fun h=>by rcases g.fp _ h with h | h;exact ah h;have:=hlt ak;omega
    have a0:=run_endRound (P:=S.P) none aq;have ao:=zaW (o' := .loop (c .ready none)) aq;have a5:(W3.putObj (w.heap.size+1) (.loop (c .ready none))).heap[w.heap.size]?=some (.deferred (some [])):=(zj (by omega)).trans bi;have u:StepG w.heap.size (fun _=>False) F3 W3 (W3.putObj (w.heap.size+1) (.loop (c .ready none))) := .put (by omega) ag _;have ax:=hJ.step _ _ _ _ a9 u;rw[b] at a0 ao a5 u ax;refine⟨_,_,a0,rfl,F3,⟨ax,by rw[b];exact ao,a5,ag,a2⟩,u.os.trans (g.os.trans d.os),u.tape.trans (g.tape.trans d.tape),u.output.trans (g.output.trans d.output),?_,fun k am a6=>?_,fun k am=>?_⟩
    ·have h1:=d.size;have j:=ae.size;have h3:=g.size;have h4:=u.size;exact UL (UL (UL h1 j) h3) h4
    ·by_cases al:k=w.heap.size+1
     ·subst al;rw[y,b];exact ao
     ·have h1:¬F1 k:=fun h=>by rcases d.fp _ h with h | h;exact a6 h;omega
      have j:=d.size;have h3:=ae.size;rw[zj al,g.same k (by omega) h1,zj al];exact d.same k am a6
    ·rcases g.fp _ am with j | j
     ·exact d.fp _ j
     ·have h3:=d.size;have h4:=ae.size;exact .inr (by omega)
   | ret=>exact (show False from (by obtain⟨_,h,_⟩:=hq;exact h)).elim
   | exit id=>exact (show False from (by obtain⟨_,h,_⟩:=hq;exact h)).elim
   | goto t=>exact hq.elim
   | panic ch=>exact hq.elim
   | outgrown=>exact hq.elim
end Go.Vc
namespace Go.Proofs.YtakcdebpklffiaaGreatDoor
open Go.Vc Go.RowKit Go.Sei
abbrev zeq:=List zbk×OA×Nat
def zjy:Enc zeq where
 sz:=1
 enc x:=[.slice x.2.1 x.1.length x.2.2]
 len x:=rfl
 one x v hv:=by
  simp at hv;subst hv;rfl
 pos:=by decide
structure MixM (Rd:Nat->Prop) (w:Wd) (b o:Nat) (m:MixD) (q:OA) (c:Nat) (p1 p2 p3:OA) (c1 c2 c3:Nat) (xs ys:List zbk):Prop where
 cells:zI w ⟨b,o,none⟩ (exC m.base q c++[.slice p1 m.rs.length c1,.slice p2 xs.length c2,.slice p3 ys.length c3])
 ev:SlR evE w q m.base.ev
 qn:q=none->c=0
 r1:SlR zF w p1 (m.rs.map (·.1))
 e2:xs.map (·.1)=m.rs.map (·.2)
 r2:SlR jt w p2 xs
 n2:∀y∈xs,SlR zF w y.2.1 y.1
 e3:ys.map (·.1)=m.wr
 r3:SlR jt w p3 ys
 n3:∀y∈ys,SlR zF w y.2.1 y.1
 db:Rd b
 dq:∀a,q=some a->Rd a.block
 d1:∀a,p1=some a->Rd a.block
 d2:∀a,p2=some a->Rd a.block
 d3:∀a,p3=some a->Rd a.block
 m2:∀y∈xs,∀a,y.2.1=some a->Rd a.block
 m3:∀y∈ys,∀a,y.2.1=some a->Rd a.block
theorem MixM.same{Rd:Nat->Prop}{w X:Wd}{b o:Nat}{m:MixD}{q:OA}{c:Nat}{p1 p2 p3:OA}{c1 c2 c3:Nat}{xs ys:List zbk}(h:MixM Rd w b o m q c p1 p2 p3 c1 c2 c3 xs ys)(hs:∀k,Rd k->X.heap[k]?=w.heap[k]?):MixM Rd X b o m q c p1 p2 p3 c1 c2 c3 xs ys :=
 ⟨jp (hs _ h.db) h.cells,jr h.ev fun a d=>hs _ (h.dq a d),h.qn,jr h.r1 fun a d=>hs _ (h.d1 a d),h.e2,jr h.r2 fun a d=>hs _ (h.d2 a d),fun y e=>jr (h.n2 y e) fun a d=>hs _ (h.m2 y e a d),
  h.e3,jr h.r3 fun a d=>hs _ (h.d3 a d),fun y e=>jr (h.n3 y e) fun a d=>hs _ (h.m3 y e a d),h.db,h.dq,h.d1,h.d2,h.d3,h.m2,h.m3⟩
theorem zfL{w:Wd}{b o:Nat}{x:ExD}{q:OA}{c:Nat}{S:List Value}(h:zI w ⟨b,o,none⟩ (exC x q c++S)){i:Nat}{v:Value}(hi:S[i]?=some v):w.cell? ⟨b,o+(333+i),none⟩=some v:=zc h (zhI hi)
theorem zyL{B c:Nat}{V1:Wd}{p:OA}{l:List zeq}{y:zeq}{a:Addr}(ho:OwnS zjy 90 B V1 p c l)(ha:zI V1 a ([y].flatMap zjy.enc))(hB:B<=V1.heap.size)(hl:l.length<=100000){K:Value->Wd->Prop}
  (h:∀p' c' w',OwnS zjy 90 B w' p' c' (l++[y])->V1.grownBy w' (p.map Addr.block)->(∀a,p'=some a->p=some a\/a.block=V1.heap.size)->K (.slice p' (l++[y]).length c') w') :
  SatR ((Builtin.append_ #[149,149] 149 #[.slice p l.length c,.slice (some a) 1 1]).run PG V1) K :=
 jG (E:=zjy) (T:=90) (B:=B) (l:=l) (news:=[y]) (cap:=c) (m:=1) Tryz.underlying149 k90 rfl rfl rfl ho rfl ha hB (by omega) (by show(l.length+1)*24<=_;omega) fun p' c' w' d b _ e=>h p' c' w' d (by rw[za4] at b;exact b) e
structure CanS (B:Nat) (Z:Wd) (yl L R:Nat) (ss:List Nat) (ps:OA) (cs:Nat) (zs:List zeq) (pr:OA) (cr:Nat):Prop where
 fL:Z.heap[L]?=some (.cells #[.func (.yield yl) #[] #[]] 81 (0,0))
 fR:Z.heap[R]?=some (.cells #[.slice pr zs.length cr] 149 (0,0))
 own:OwnS zF 3 B Z ps cs ss
 rk:OwnS zjy 90 B Z pr cr zs
 n1:∀z∈zs,OwnS jt 89 B Z z.2.1 z.2.2 z.1
 n2:∀z∈zs,∀y∈z.1,OwnS zF 3 B Z y.2.1 y.2.2 y.1
 dis:∀z∈zs,∀y∈z.1,∀a b,ps=some a->y.2.1=some b->a.block≠b.block
theorem CanS.below{B:Nat}{Z Y:Wd}{yl L R:Nat}{ss:List Nat}{ps:OA}{cs:Nat}{zs:List zeq}{pr:OA}{cr:Nat}(h:CanS B Z yl L R ss ps cs zs pr cr)(hb:Bw Z Y):CanS B Y yl L R ss ps cs zs pr cr :=
 ⟨zb hb h.fL,zb hb h.fR,h.own.below hb,h.rk.below hb,fun z a=>(h.n1 z a).below hb,fun z a y b=>(h.n2 z a y b).below hb,h.dis⟩
theorem CanS.size{B:Nat}{Z Y:Wd}{yl L R:Nat}{ss:List Nat}{ps:OA}{cs:Nat}{zs:List zeq}{pr:OA}{cr:Nat}(h:CanS B Z yl L R ss ps cs zs pr cr){ps':OA}{cs' n:Nat}(ho:OwnS zF 3 B Y ps' cs' (ss++[n]))(g:Z.grownBy Y (ps.map Addr.block))(hat:∀a,ps'=some a->ps=some a\/a.block=Z.heap.size):CanS B Y yl L R (ss++[n]) ps' cs' zs pr cr :=
 ⟨qK h.fL h.own (by decide) g,qK h.fR h.own (by decide) g,ho,zaI h.rk h.own (by decide) g,fun z d=>zaI (h.n1 z d) h.own (by decide) g,fun z d y e=>zdY (h.n2 z d y e) g fun a b i f=>h.dis z d y e a b i f,fun z d y e a b i f=>by
  rcases hat a i with j | j
  ·exact h.dis z d y e a b j f
  ·have:=(zz (h.n2 z d y e) f).2.1;omega⟩
theorem zpa{ds:List Nat}:∀{rs:List (Nat×List Nat)} {ds:List Nat} {f:Nat->Nat},zK f->(∀r∈rs,r.1<48)->zK (rfF rs ds f)
 | [],_,_,h,_=>h
 | (r,s)::rs,ds,f,h,hr=>by
  have d:=hr (r,s) KA;refine zpa (rs:=rs) (ds:=ds.tail) (f:=upd f (s.getD (ds.headD 0) 0) (f (s.getD (ds.headD 0) 0)|||2^r)) ?_ fun x b=>hr x (JV _ b);intro j a;by_cases e:j=s.getD (ds.headD 0) 0
  ·rw[e,zN];exact KX (by rw[<- e];exact h j a) (qc (by have:r<48:=d;omega))
  ·rw[qx _ _ e];exact h j a
theorem zp2{ev:List Ev}:∀{Rs:List (List (List Nat))} {l:Nat} {ds:List Nat} {p:RelD×(Nat->UInt8)},zK p.1.to->(∀R∈Rs,∀k∈R,∀a∈k,a<48)->zK (coG ev l Rs ds p).1.to
 | [],_,_,_,h,_=>h
 | R::Rs,l,ds,p,h,hr=>by
  refine zp2 (Rs:=Rs) (l:=l+1) (ds:=ds.tail) (p:=(zaj (R.getD (ds.headD 0) []) p.1,_)) (zj8 h fun a b=>?_) fun x d=>hr x (JV _ d);rw[gDe] at b
  cases hg:R[ds.headD 0]? with
  | none=>rw [hg] at b;cases b
  | some k =>
   rw[hg] at b;exact hr R KA k (JW hg) a b
section
variable(x:ExD)(q:OA)(c:Nat)
theorem ztn:∃A Z,A.length=50/\∀r,exC { x with rf:=r } q c=A++(zf r++Z):=by
 obtain⟨A,Z,a,b⟩:=zwo x q c [];exact⟨A,Z,a,fun r=>by rw[<- b,QG]⟩
theorem zov:∃A Z,A.length=99/\∀r,exC { x with co:=r } q c=A++(zf r++Z):=by
 obtain⟨A,Z,a,b⟩:=zwq x q c [];exact⟨A,Z,a,fun r=>by rw[<- b,QG]⟩
theorem zvv{l:Nat}(hl:l<6)(v:UInt8):(exC x q c).set (327+l) (u8 v)=exC { x with mem:=upd x.mem l v } q c:=by
 obtain⟨A,Z,g,a⟩:=ztm x q c [];have d:=a x.mem;have b:=a (upd x.mem l v);rw[QG] at d b;rw[b];show(exC { x with mem:=x.mem } q c).set _ _=_;rw[d,qT g];have h:=zft (B:=Z) (f:=fun i=>u8 (x.mem i)) (fun i=>u8 (upd x.mem l v i)) hl (fun j e=>by rw[qx _ _ e]);rw[<- h,zN]
theorem zxd(l:List Ev)(q':OA)(c':Nat):(exC x q c).set 0 (.slice q' l.length c')=exC { x with ev:=l } q' c':=rfl
end
abbrev zlp:=ExD×OA×Nat
def exE:Enc zlp:=⟨fun x=>exC x.1 x.2.1 x.2.2,333,fun _=>zW ..,by decide,fun a u hu=>Qg.1 (zcI ..) u hu⟩
abbrev ExH (X:Wd) (b:Nat) (x:ExD) (q:OA) (c:Nat):Prop:=X.heap[b]?=some (.cells (exC x q c).toArray 78 (0,0))
def StX (B:Nat) (pre:List ExD) (vs:List Value) (W:Wd):Prop:=∃x q c,pre.getLast?=some x/\vs=[.agg (exC x q c).toArray]/\OwnS evE 80 B W q c x.ev
def GvX (vs:List Value) (k:Nat):Prop:=∃(x:ExD) (a:Addr) (c:Nat),vs=[.agg (exC x (some a) c).toArray]/\k=a.block
theorem znW{xs:List zbk}{rs:List (Nat×List Nat)}(h:xs.map (·.1)=rs.map (·.2)):xs.map (·.1.length)=rs.map fun r=>r.2.length:=by
 have:=Gi (List.map List.length) h;rw[UF,UF] at this;exact this
theorem zmi{zs:List zeq}{ws:List (List Nat)}(h:zs.map (fun z=>z.1.map (·.1))=ws.map zO):zs.map (·.1.length)=ws.map fun w=>(zO w).length:=by
 have:=Gi (List.map List.length) h;rw[UF,UF] at this;rw[<- show zs.map (List.length ∘ fun z:zeq=>z.1.map (·.1))=zs.map (·.1.length) from Kl fun z _=>QJ _];exact this
section
variable{Rd:Nat->Prop}{W0:Wd}{bx b o:Nat}{m:MixD}{q:OA}{c:Nat}{p1 p2 p3:OA}{c1 c2 c3:Nat}{xs ys:List zbk}
theorem zvV(hM:MixM Rd W0 b o m q c p1 p2 p3 c1 c2 c3 xs ys)(fx:W0.heap[bx]?=some (.cells #[.pointer (some ⟨b,o,none⟩)] 148 (0,0)))(hbx:Rd bx)(hRd:∀k,Rd k->k<W0.heap.size)(hT:Tz64M W0)(hRt:Rd 7)(hB:MixB m)(hev:m.base.ev.length<=48) :
  zub PG 67 [At0 bx] (zem m) W0 Rd (StX W0.heap.size) GvX:=by
 intro yl F0 J W gd cm fq hJ hy h0;refine qA 141 [.func (.yield yl) #[] #[],At0 bx] (.c .p (.s .p (.c .p (.c .p (.c .p (.s .p .p)))))) Tryz.func67 ?_;have a6:=hM.same cm;have ct:=(cm bx hbx).trans fx;have em:Tz64M W:=zaH hT (cm _ hRt);have ag:∀k,Rd k->k<W.heap.size:=fun k g=>by have:=hRd k g;omega
 obtain⟨L,hL⟩:=nm (W.heap.size);have ep:xs.length=m.rs.length:=by have:=Gi List.length hM.e2;simpa using this
 have el:ys.length=m.wr.length:=by have:=Gi List.length hM.e3;simpa using this
 have er:=hB.rl;have fz:=hB.wl;have gj:∀y∈xs,y.1.length<=1000:=fun y hy=>by
  have:y.1∈m.rs.map (·.2):=by rw[<- hM.e2];exact UI.2 ⟨y,hy,rfl⟩
  obtain⟨r,hr,he⟩:=UI.1 this;rw[<- he];exact(hB.rs r hr).2.1
 refine⟨Unit,fun _=>⟨[(1,At0 bx),(2,At0 L)],[]⟩,fun _ X=>X.heap[L]?=some (.cells #[.func (.yield yl) #[] #[]] 81 (0,0))/\X.heap.size=L+1/\Bw W X,?_,?_⟩
 ·exact⟨(),⟨.cons rfl (.cons (by rw[hL];rfl) .nil),rfl⟩,by rw[hL];exact zt W _,by rw[hL];exact wz _ _,(zba W _)⟩
 rintro _ X ⟨fL,sX,ab⟩;refine⟨OA×Nat,fun s=>⟨[(1,At0 bx),(2,At0 L),(3,.slice s.1 (xs.map (·.1.length)).length s.2)],[]⟩,fun s Z=>OwnS zF 3 W.heap.size Z s.1 s.2 (xs.map (·.1.length))/\Z.heap[L]?=some (.cells #[.func (.yield yl) #[] #[]] 81 (0,0))/\Bw W Z,?_,?_⟩
 ·refine⟨_,zc (za (zb ab ct)) (i:=0) rfl,_,zfL (a6.same fun k g=>ab.block k (ag k g)).cells (i:=1) rfl,?_⟩;refine⟨Nat×OA×Nat,fun s=>⟨[(1,At0 bx),(2,At0 L),(3,.slice s.2.1 ((xs.take s.1).map (·.1.length)).length s.2.2),(20,.slice p2 xs.length c2),(21,i64 xs.length),(22,i64 (s.1:Nat))],[]⟩,
   fun s Z=>s.1<=xs.length/\OwnS zF 3 W.heap.size Z s.2.1 s.2.2 ((xs.take s.1).map (·.1.length))/\Z.heap[L]?=some (.cells #[.func (.yield yl) #[] #[]] 81 (0,0))/\Bw W Z,fun s=>xs.length-s.1,(0,none,0),
   (cvE rfl rfl),⟨UZ _,OwnS.nil,fL,ab⟩,?_⟩
  rintro⟨k,ps,cs⟩ Z ⟨g,ho,fL,f⟩;dsimp only at g ho ⊢;refine biE (fun hc=>?_) fun hc=>?_
  ·have hc:(k:Int)<(xs.length:Int):=dT hc;have u:k<xs.length:=by omega
   have ak:=a6.same fun k g=>f.block k (ag k g);obtain⟨x,hx⟩:∃x,xs[k]=x:=⟨_,rfl⟩;obtain⟨bp,op,cj,eh,cv⟩:=ak.r2.at u;subst cj;refine⟨k,rfl,u,slV x,by rw[<- hx];exact zc (cv k u) (i:=0) rfl,⟨by decide,by decide,rfl⟩,zF.enc x.1.length,rfl,?_⟩;have aa:Bw Z (Z.alloc (.cells (zF.enc x.1.length).toArray 3)):=zba _ _;have ai:=f.size;have gi:((xs.take k).map (·.1.length)).length=k:=by rw[QJ,Qr];omega
   have ay:(xs.take (k+1)).map (·.1.length)=(xs.take k).map (·.1.length)++[x.1.length]:=by
    rw[tsg u,QM,hx];rfl
   unfold zd1 zaN;show SatR _ _;refine zrE (ho.below aa) (q9 zF x.1.length) (by have:=aa.size;omega) (by have:=hB.rl;omega) fun p' c' U oU gU ar=>?_;rw[za4] at gU;rw[<- ay] at oU ⊢;have fU:=qK (zb aa fL) (ho.below aa) (by decide) gU;exact nxI (by omega) ⟨(k+1,p',c'),(cvE rfl rfl),⟨u,oU,fU,f.trans ((aa.mono ai).trans (jo (ho.below aa) (by have:=aa.size;omega) (UW _) gU))⟩,zdc (by omega)⟩
  ·have hc:¬(k:Int)<(xs.length:Int):=dF hc;obtain rfl:k=xs.length:=by omega
   rw[Qt] at ho ⊢;exact⟨(ps,cs),(cvE rfl rfl),ho,fL,f⟩
 clear fL sX ab;rintro⟨ps,cs⟩ X ⟨ho,fL,ab⟩;dsimp only at ho ⊢;refine⟨Nat,fun R=>⟨[(1,At0 bx),(2,At0 L),(3,.slice ps (xs.map (·.1.length)).length cs),(6,At0 R)],[]⟩,fun R Z=>CanS W.heap.size Z yl L R (xs.map (·.1.length)) ps cs [] none 0/\L<R/\Bw W Z,?_,?_⟩
 ·refine⟨X.heap.size,(cvE rfl rfl),⟨qO _ fL,zt X _,ho.alloc _,OwnS.nil,fun z hz=>(by cases hz),fun z hz=>(by cases hz),fun z hz=>(by cases hz)⟩,hlt fL,ab.alloc ab.size _⟩
 clear ho fL ab;rintro R X ⟨hS,gf,ab⟩;refine⟨(List zeq×OA×Nat)×OA×Nat,fun s=>⟨[(1,At0 bx),(2,At0 L),(3,.slice s.2.1 (zM m).length s.2.2),(6,At0 R)],[]⟩,fun s Z=>CanS W.heap.size Z yl L R (zM m) s.2.1 s.2.2 s.1.1 s.1.2.1 s.1.2.2/\s.1.1.map (fun z=>z.1.map (·.1))=m.wr.map zO/\Bw W Z,?_,?_⟩
 ·refine⟨_,zc (za (zb ab ct)) (i:=0) rfl,_,zfL (a6.same fun k g=>ab.block k (ag k g)).cells (i:=2) rfl,?_⟩;refine⟨Nat×(List zeq×OA×Nat)×OA×Nat,fun s=>⟨[(1,At0 bx),(2,At0 L),(3,.slice s.2.2.1 (xs.map (·.1.length)++s.2.1.1.map (·.1.length)).length s.2.2.2),(6,At0 R),(35,.slice p3 ys.length c3),(36,i64 ys.length),(37,i64 (s.1:Nat))],[]⟩,
   fun s Z=>s.1<=ys.length/\CanS W.heap.size Z yl L R (xs.map (·.1.length)++s.2.1.1.map (·.1.length)) s.2.2.1 s.2.2.2 s.2.1.1 s.2.1.2.1 s.2.1.2.2/\s.2.1.1.map (fun z=>z.1.map (·.1))=(ys.take s.1).map (fun y=>zO y.1)/\Bw W Z,fun s=>ys.length-s.1,(0,([],none,0),ps,cs),
   ⟨.cons rfl (.cons rfl (.cons (by simp;rfl) (.cons rfl (.cons rfl (.cons rfl (.cons rfl .nil)))))),rfl⟩,⟨UZ _,by simpa using hS,rfl,ab⟩,?_⟩
  clear hS ab;rintro⟨k,⟨zs,pr,cr⟩,ps,cs⟩ Z ⟨g,hS,hz,f⟩;dsimp only at g hS hz ⊢;have e7:zs.length=k:=by
   have:=Gi List.length hz;rw[QJ,QJ,Qr] at this;omega
  refine biE (fun hc=>?_) fun hc=>?_
  ·have hc:(k:Int)<(ys.length:Int):=dT hc;have u:k<ys.length:=by omega
   have ak:=a6.same fun k g=>f.block k (ag k g);obtain⟨y,ae⟩:∃y,ys[k]=y:=⟨_,rfl⟩;have al:y∈ys:=by rw[<- ae];exact gM u
   have fj:y.1∈m.wr:=by rw[<- hM.e3];exact UI.2 ⟨y,al,rfl⟩
   obtain⟨fg,d4,gs⟩:=hB.wr _ fj;obtain⟨bp,op,cj,eh,cv⟩:=ak.r3.at u;subst cj;refine⟨k,rfl,u,slV y,by rw[<- ae];exact zc (cv k u) (i:=0) rfl,cmo (zsF (ak.n3 y al) fg (zaH em (f.block _ (ag _ hRt)))) ?_⟩;rintro e Y ⟨⟨rk,pk,ck,rfl,dd,fa,dj⟩,ax⟩;have ai:=f.size;have b9:=hS.below ax;have f5:rk.length<=10000:=by rw[<- dd,QJ] at d4;exact d4
   obtain⟨nz,aw⟩:∃nz:zeq,nz=(rk,pk,ck):=⟨_,rfl⟩;have d9:[Value.slice pk rk.length ck]=zjy.enc nz:=by rw[aw];rfl
   refine⟨_,zc (za b9.fR) (i:=0) rfl,⟨by decide,by decide,rfl⟩,zjy.enc nz,by rw[<- d9];rfl,?_⟩;have aa:Bw Y (Y.alloc (.cells (zjy.enc nz).toArray 90)):=zba _ _;have ac:=b9.below aa;have bu:=fa.below aa;have bw:=fun x hx=>(dj x hx).below aa;unfold zd1 zaN;show SatR _ _;refine zyL ac.rk (q9 zjy nz) (by have:=aa.size;have:=ax.size;omega) (by have:=hB.wl;omega) fun p' c' U oU gU ar=>?_;have cp:=qK ac.fL ac.rk (by decide) gU;have bf:=qK ac.fR ac.rk (by decide) gU;refine zm zyE bf (o:=0) (v := .slice p' (zs++[nz]).length c') rfl rfl (by show 0<1;decide) rfl fun S fS gS sS=>?_;have c4:=f.trans (ax.mono ai);have sY:=ax.size;have gr:=aa.size;have dx:Bw W U:=(c4.trans (aa.mono (by omega))).trans (jo ac.rk (by omega) (UW _) gU);have fy:W.heap.size<=R:=by omega
   have ap:Bw W S:=dx.trans (zl gS dx.size fy);have ey:CanS W.heap.size S yl L R (xs.map (·.1.length)++zs.map (·.1.length)) ps cs (zs++[nz]) p' c':=by
    have kU:∀{α:Type} {E:Enc α} {T cc:Nat} {r:OA} {ll:List α},T≠90->T≠149->OwnS E T W.heap.size (Y.alloc (.cells (zjy.enc nz).toArray 90)) r cc ll->OwnS E T W.heap.size S r cc ll:=fun{α E T cc r ll} h1 h2 h=>qN (zaI h ac.rk h1 gU) bf h2 gS;refine⟨(gS.block L (hlt cp) (by simp;omega)).trans cp,fS,kU (by decide) (by decide) ac.own,qN oU bf (by decide) gS,fun z hz=>?_,fun z hz=>?_,fun z hz=>?_⟩
    ·rcases QN.1 hz with hz | hz
     ·exact kU (by decide) (by decide) (ac.n1 z hz)
     ·rw[KB.1 hz,aw];exact kU (by decide) (by decide) (bu.lower ai)
    ·rcases QN.1 hz with hz | hz
     ·exact fun x hx=>kU (by decide) (by decide) (ac.n2 z hz x hx)
     ·rw[KB.1 hz,aw];exact fun x hx=>kU (by decide) (by decide) ((bw x hx).lower ai)
    ·rcases QN.1 hz with hz | hz
     ·exact ac.dis z hz
     ·rw[KB.1 hz,aw];intro x hx a b ha hb;have:=(zz (dj x hx) hb).1;have:=(zz hS.own ha).2.1;omega
   clear ac bu bw b9 hS oU gU ar cp bf fS gS;refine⟨⟨by decide,by decide,rfl⟩,zF.enc rk.length,rfl,?_⟩;have cx:Bw S (S.alloc (.cells (zF.enc rk.length).toArray 3)):=zba _ _;have cb:=ey.below cx;have d8:=ap.size;have gm:=cx.size;unfold zd1 zaN;show SatR _ _;refine zrE cb.own (q9 zF rk.length) (by omega) (by rw[lap,QJ,QJ];have:=hB.rl;have:=hB.wl;omega) fun ff ed V oV gV bc=>?_;rw[za4] at gV;have dt:=cb.size oV gV bc;have fw:(xs.map (·.1.length)++zs.map (·.1.length))++[rk.length]=xs.map (·.1.length)++(zs++[nz]).map (·.1.length):=by
    rw[QM,KN,aw];rfl
   rw[fw] at dt ⊢;refine nxI (by omega) ⟨(k+1,(zs++[nz],p',c'),ff,ed),(cvE rfl rfl),⟨u,dt,?_,ap.trans ((cx.mono d8).trans (jo cb.own (by omega) (UW _) gV))⟩,zdc (by omega)⟩;rw[tsg u,ae,QM,QM,hz,aw];show _++[rk.map (·.1)]=_++[zO y.1];rw[dd]
  ·have hc:¬(k:Int)<(ys.length:Int):=dF hc;obtain rfl:k=ys.length:=by omega
   have dn:zs.map (fun z=>z.1.map (·.1))=m.wr.map zO:=by
    rw[Qt] at hz;rw[hz,<- hM.e3,UF];rfl
   have cz:xs.map (·.1.length)++zs.map (·.1.length)=zM m:=by
    rw[znW hM.e2,zmi dn];rfl
   rw[cz] at hS ⊢;exact⟨((zs,pr,cr),ps,cs),(cvE rfl rfl),hS,dn,f⟩
 clear hS ab;rintro⟨⟨zs,pr,cr⟩,ps,cs⟩ V ⟨hS,hz,bh⟩;dsimp only at hS hz ⊢;have e8:=bh.size;have ei:=a6.same fun k g=>bh.block k (ag k g);have e0:=zb bh ct;have dv:(zM m).length<=1000:=by
  unfold zM;rw[lap,QJ,QJ];omega
 have d2:∀n∈zM m,n<=1000000:=fun n hn=>by
  unfold zM at hn;rcases QN.1 hn with hn | hn
  ·obtain⟨r,hr,rfl⟩:=UI.1 hn;have:=(hB.rs r hr).2.1;omega
  ·obtain⟨w,hw,rfl⟩:=UI.1 hn;have:=(hB.wr w hw).2.1;omega
 refine cmo zsI ?_;rintro e V1 ⟨rfl,fo,gk,a5⟩;have hI:=zwi fo (hS.own.row.below a5) (fun a ha=>by have:=(zz hS.own ha).2.1;omega) dv d2;obtain⟨Kp,bi⟩:∃Kp:(Nat->Prop)->Wd->Prop,Kp=fun F Y=>V1.heap.size<=Y.heap.size/\∀k,k<V.heap.size->(Rd k\/W.heap.size<=k)->Y.heap[k]?=V.heap[k]?/\¬F k:=⟨_,rfl⟩;have ce:∀k,F0 k->k<W.heap.size:=fun k g=>(hJ.lt _ _ _ _ h0 g).1;have eb:=hlt hS.fL;have e6:=hlt hS.fR;have aa:Bw W V1:=bh.trans (a5.mono e8);refine zdW (zgn _) rfl (lb := #[At0 V.heap.size]) rfl rfl hI (UW _) (fun k g=>⟨?_,rfl⟩) (fun aj vs W ⟨l,q,_,h,_⟩=>by rw[h];rfl) (by decide)
  F0 (fun aj F Y=>J (aj.map (zG m)) F Y/\Kp F Y) (fun _ _ _ _=>False) (fun k g=>?_) ⟨?_,?_⟩ (fun ex=>⟨fun _ _ _ _ h=>h.elim,fun _ _ _ _ h=>h.elim⟩) ⟨hJ.step _ _ _ _ h0 (.below aa),?_⟩ ?_ ?_ ?_
 ·rcases g with(rfl | ⟨a,ha,rfl⟩) | h
  ·omega
  ·have:=(zz hS.own ha).2.1;omega
  ·exact h.elim
 ·rcases g with rfl | ⟨a,ha,rfl⟩
  ·intro h;have:=ce _ h;omega
  ·intro h;have:=ce _ h;have:=(zz hS.own ha).1;omega
 ·rintro aj F A C ⟨hj,g⟩ hs;rw[bi] at g ⊢;have ef:=hs.size;exact⟨hJ.step _ _ _ _ hj (hs.mono (by omega)),UL g.1 ef,fun k h1 h2=>⟨(hs.same k (by have:=g.1;omega) (.inl ⟨by omega,fun h=>h⟩)).trans (g.2 k h1 h2).1,(g.2 k h1 h2).2⟩⟩
 ·rintro aj F A k ⟨hj,_⟩ g;exact hJ.lt _ _ _ _ hj g
 ·rw[bi];refine⟨UW _,fun k h1 h2=>⟨a5.block k h1,fun h=>?_⟩⟩;rcases h2 with h2 | h2
  ·exact fq k h2 h
  ·have:=ce k h;omega
 ·rintro ga aj ds vs F Y el a1 fh ⟨l,qd,ao,rfl,dw,bq⟩ gl ⟨lo,da⟩;have es:ds=l:=by simpa using ao
  subst es;refine⟨rfl,F,KeepsG.refl _ _,fh,?_⟩;rintro O Y2 fi ⟨hj,af⟩;rw[bi] at af;obtain⟨df,af⟩:=af;have e4:=af;have bm:SlR zF Y2 qd ds:=by
   rw[fi];refine jr dw fun a ha=>zj fun e=>?_;obtain⟨gb,bl⟩:=bq a ha;rw[e,da] at bl
   cases bl
  obtain⟨fc,bn⟩:=za6 (a1.subset (JM _ (KB.2 rfl)));have f9:ds.length=m.rs.length+m.wr.length:=by
   rw[fc];unfold zM;rw[lap,QJ,QJ]
  have be:MixM Rd Y2 b o m q c p1 p2 p3 c1 c2 c3 xs ys:=ei.same fun k g=>(af k (by have:=ag k g;omega) (.inl g)).1;have bg:=(af bx (by have:=ag bx hbx;omega) (.inl hbx)).1.trans e0;have fs:=(af L eb (.inr (by omega))).1.trans hS.fL;have e9:=(af R e6 (.inr (by omega))).1.trans hS.fR;have kR:∀{α:Type} {E:Enc α} {T cc:Nat} {r:OA} {ll:List α},OwnS E T W.heap.size V r cc ll->OwnS E T W.heap.size Y2 r cc ll:=fun{α E T cc r ll} h=>h.same fun a ha=>(af _ (zz h ha).2.1 (.inr (zz h ha).1)).1;have en:=kR hS.rk;have fv:=fun z hz=>kR (hS.n1 z hz);have ca:=fun z hz y hy=>kR (hS.n2 z hz y hy);clear af da bq dw;have ax:b<Y2.heap.size:=by have:=ag b hM.db;omega
  refine⟨_,zc (za bg) (i:=0) rfl,?_⟩;have b8:zI Y2 ⟨b,o,none⟩ (exC m.base q c):=by
   have:=zP (n:=0) (m:=333) be.cells;rw[Uj,Jg (by rw[zW];decide),JE (by rw[zW];decide)] at this;exact this
  refine⟨exC m.base q c,zW _ _ _,b8,ax,?_⟩;obtain⟨M,ec⟩:=nm (Y2.heap.size);refine zo (X:=Y2) (v := .agg (exC m.base q c).toArray) k78 (zW _ _ _) zbP (zcI _ _ _) fun Z f fZ sZ=>?_;have fZ:ExH Z Y2.heap.size m.base q c:=fZ;rw[<- ec] at fZ ⊢;refine⟨_,zc (za fZ) (i:=0) rfl,cmo (zkD (be.ev.below f) (by omega) be.qn) ?_⟩;rintro e Z2 ⟨⟨q1,k1,rfl,oE⟩,am⟩;refine zm k72 (zb am fZ) (o:=0+0) (v := .slice q1 m.base.ev.length k1) rfl rfl (by rw[zW];decide) rfl fun S fS gS sS=>?_;rw[show 0+0=0 from rfl,zxd] at fS;have f8:M<Z2.heap.size:=by have:=am.size;omega
  have ap:Bw Y2 S:=((zst f am)).trans (zl gS (by omega) (by omega));have c8:OwnS evE 80 Y2.heap.size S q1 k1 m.base.ev:=qN (oE.lower f.size) (zb am fZ) (by decide) gS;clear oE gS sS fZ f am;have cw:∀{S:Wd},Bw Y2 S->MixM Rd S b o m q c p1 p2 p3 c1 c2 c3 xs ys:=fun{S} hb=>be.same fun k g=>hb.block k (by have:=ag k g;omega);have d6:=ep;refine⟨_,zc (za (zb ap bg)) (i:=0) rfl,_,zfL (cw ap).cells (i:=0) rfl,?_⟩;refine⟨Nat,fun k=>⟨[(1,At0 bx),(2,At0 L),(6,At0 R),(10,.slice qd ds.length ds.length),(11,At0 M),(67,.slice p1 m.rs.length c1),(68,i64 m.rs.length),(69,i64 (k:Nat))],[]⟩,
   fun k Z=>k<=m.rs.length/\ExH Z M { m.base with rf:=⟨m.base.rf.n,rfF (m.rs.take k) ds m.base.rf.to⟩ } q1 k1/\OwnS evE 80 Y2.heap.size Z q1 k1 m.base.ev/\Bw Y2 Z,fun k=>m.rs.length-k,0,
   (cvE rfl rfl),⟨UZ _,fS,c8,ap⟩,?_⟩
  clear fS c8 ap;rintro k Z ⟨g,fZ,oE,f⟩;refine biE (fun hc=>?_) fun hc=>?_
  ·have hc:(k:Int)<(m.rs.length:Int):=dT hc;have u:k<m.rs.length:=by omega
   have ak:=cw f;have ai:=f.size;obtain⟨⟨r,s⟩,ba⟩:∃x,m.rs[k]=x:=⟨_,rfl⟩;obtain⟨d5,ea,bk⟩:=hB.rs (r,s) (by rw[<- ba];exact gM u);dsimp only at d5 ea bk;have a2:k<xs.length:=by omega
   obtain⟨y,ae⟩:∃y,xs[k]=y:=⟨_,rfl⟩;have al:y∈xs:=by rw[<- ae];exact gM a2
   have cn:y.1=s:=by
    have h1:(xs.map (·.1))[k]?=some y.1:=(by rw[KT,gE a2,ae];rfl);rw[hM.e2,KT,gE u,ba] at h1;exact(Uc h1).symm
   obtain⟨d,hd⟩:∃d,ds[k]?=some d:=⟨_,gE (by omega)⟩;have bj:k<ds.length:=by omega
   have ee:ds[k]=d:=by rw[gE bj] at hd;exact Uc hd
   have ad:d<y.1.length:=by
    refine bn k _ d ?_ hd;unfold zM;rw[Jq (by rw[QJ];exact u),KT,gE u,ba,cn];rfl
   have aq:d<s.length:=by rw[<- cn];exact ad
   obtain⟨t,ht⟩:∃t,y.1[d]=t:=⟨_,rfl⟩;have d0:s[d]=t:=by
    have h1:y.1[d]?=some t:=(by rw[gE ad,ht]);rw[cn,gE aq] at h1;exact Uc h1
   have an:t<48:=bk t (by rw[<- d0];exact gM aq);have fk:s.getD (ds.getD k 0) 0=t:=by
    rw[gDe,gDe,hd];show(s[d]?).getD 0=t;rw[gE aq,d0];rfl
   have ay:rfF (m.rs.take (k+1)) ds m.base.rf.to=upd (rfF (m.rs.take k) ds m.base.rf.to) t (rfF (m.rs.take k) ds m.base.rf.to t|||2^r):=by
    rw[tsg u,ba,zmb,Qr,QW g,fk]
   obtain⟨G,hG⟩:=nm (rfF (m.rs.take k) ds m.base.rf.to);have fb:zK G:=by
    rw[hG];exact zpa (ds:=[]) hB.rf fun r hr=>(hB.rs r (JY hr)).1
   rw[<- hG] at fZ ay;obtain⟨A,T,hA,hE⟩:=ztn { m.base with rf:=⟨m.base.rf.n,G⟩ } q1 k1;have ah:RelAt Z M 50 78 A T ⟨m.base.rf.n,G⟩:=⟨hA,by rw[<- hE];exact fZ⟩;have d1:k<(m.rs.map (·.1)).length:=by rw[QJ];exact u
   obtain⟨b1,o1,c6,gc,ar⟩:=ak.r1.at d1;obtain⟨b2,o2,eu,gh,bc⟩:=ak.r2.at a2;obtain⟨b3,o3,fn,gg,di⟩:=(ak.n2 y al).at ad;have dg:=bm.below f;obtain⟨b4,o4,fr,ge,du⟩:=dg.at bj;have e1:some (Value.slice p1 m.rs.length c1)=some (Value.slice (some ⟨b1,o1,none⟩) m.rs.length c1):=by rw[c6]
   subst c6;subst eu;subst fr;refine⟨k,rfl,u,i64 r,by have:=zc (ar k d1) (i:=0) (v:=i64 r) (by rw[Qn,ba];rfl);exact this,?_⟩;have dZ:Bw Z Z.drew:=(Gb _ _).drew;refine DrawE.ord [23] [0,1,2,3,4,5,6,7,8,9,10,11,12,13,14,15,16,17,18,19,20,21,22,23] (by kernel_rfl) ⟨_,zc (za (hdr (zb f bg))) (i:=0) rfl,_,zfL (ak.same (X:=Z.drew) fun _ _=>rfl).cells (i:=1) rfl,k,rfl,a2,slV y,by have:=zc (zw dZ (bc k a2)) (i:=0) (v:=slV y) (by rw[ae];rfl);exact this,k,rfl,bj,i64 d,by have:=zc (zw dZ (du k bj)) (i:=0) (v:=i64 d) (by rw[ee];rfl);exact this,?_⟩;unfold slV;rw[fn];refine⟨d,rfl,ad,i64 t,by have:=zc (zw dZ (di d ad)) (i:=0) (v:=i64 t) (by rw[ht];rfl);exact this,t,rfl,an,s64 (G t),(ah.same (Y:=Z.drew) rfl).cell an,by omega,_,zab (e:=r) (by omega),_,zau (fb t an) (qc (by omega)),t,rfl,an,zm k73 (ah.same (Y:=Z.drew) rfl).cells (o:=50+1+t*1) (v:=s64 (G t|||2^r)) rfl rfl (by rw[ah.len];omega) rfl fun S fS gS sS=>?_⟩;rw[ah.set an] at fS;have az:Z.grownBy S (some M):=zd (zi dZ) gS;refine nxI (by omega) ⟨k+1,(cvE rfl rfl),⟨u,?_,qN oE fZ (by decide) az,f.trans (zl az ai (by omega))⟩,zdc (by omega)⟩;rw[ay];have e5:=hE ⟨m.base.rf.n,upd G t (G t|||2^r)⟩;show S.heap[M]?=some (.cells (exC { m.base with rf:=⟨m.base.rf.n,upd G t (G t|||2^r)⟩ } q1 k1).toArray _ _);exact fS.trans (by rw[<- e5])
  have hc:¬(k:Int)<(m.rs.length:Int):=dF hc;obtain rfl:k=m.rs.length:=by omega
  rw[Qt] at fZ;obtain⟨RF,bb⟩:∃RF:ExD,RF={ m.base with rf:=⟨m.base.rf.n,rfF m.rs ds m.base.rf.to⟩ }:=⟨_,rfl⟩;rw[<- bb] at fZ;have dq:RF.ev=m.base.ev:=by rw[bb]
  have dp:RF.co=m.base.co:=by rw[bb]
  have f6:RF.mem=m.base.mem:=by rw[bb]
  obtain⟨dl,av⟩:=nm (ds.drop m.rs.length);have f4:dl.length=m.wr.length:=by rw[av,Qq];omega
  have br:SlR zF Y2 (qJ qd ds.length m.rs.length 1) dl:=by
   have:=bm.sub (cap:=ds.length) (lo:=m.rs.length) (hi:=ds.length) (by omega) (UW _) (UW _);rw[JE (by rw[Qq];exact UW _),<- av] at this;exact this
  refine⟨_,zc (za (zb f bg)) (i:=0) rfl,_,zfL (cw f).cells (i:=0) rfl,m.rs.length,rfl,by omega,?_⟩;obtain⟨qD,eo⟩:=nm (qJ qd ds.length m.rs.length 1);rw[<- eo] at br ⊢;have ez:ds.length-m.rs.length=dl.length:=by omega
  rw[ez];obtain⟨Rs,a4⟩:=nm (m.wr.map zO);have f0:Rs.length=m.wr.length:=by rw[a4,QJ]
  have e7:zs.length=m.wr.length:=by have:=Gi List.length hz;simpa using this
  have bo:∀R∈Rs,∀k∈R,k≠[]/\k.length<=48/\∀a∈k,a<m.base.ev.length:=fun R hR k g=>by
   rw[a4] at hR;obtain⟨w,hw,rfl⟩:=UI.1 hR;exact(hB.wr w hw).2.2 k g
  refine⟨Nat,fun l=>⟨[(1,At0 bx),(2,At0 L),(6,At0 R),(11,At0 M),(104,.slice qD dl.length dl.length),(105,i64 dl.length),(106,i64 (l:Nat))],[]⟩,
   fun l Z=>l<=dl.length/\ExH Z M { RF with co:=(coG m.base.ev 0 (Rs.take l) dl (RF.co,RF.mem)).1,mem:=(coG m.base.ev 0 (Rs.take l) dl (RF.co,RF.mem)).2 } q1 k1/\OwnS evE 80 Y2.heap.size Z q1 k1 m.base.ev/\Bw Y2 Z,fun l=>dl.length-l,0,
   (cvE rfl rfl),⟨UZ _,fZ,oE,f⟩,?_⟩
  clear fZ oE f;rintro l Z ⟨hl,fZ,oE,f⟩;obtain⟨P,hP⟩:=nm (coG m.base.ev 0 (Rs.take l) dl (RF.co,RF.mem));rw[<- hP] at fZ;have ai:=f.size;have ej:zK P.1.to:=by
   rw[hP];refine zp2 (by rw[dp];exact hB.co) fun R hR k g a ha=>?_;have:=(bo R (JY hR) k g).2.2 a ha;omega
  refine biE (fun hc=>?_) fun hc=>?_
  ·have hc:(l:Int)<(dl.length:Int):=dT hc;have a8:l<dl.length:=by omega
   have a7:l<zs.length:=by omega
   have ew:l<Rs.length:=by omega
   obtain⟨z,ci⟩:∃z,zs[l]=z:=⟨_,rfl⟩;have bd:z∈zs:=by rw[<- ci];exact gM a7
   have cf:Rs[l]?=some (z.1.map (·.1)):=by
    rw[a4,<- hz,KT,gE a7,ci];rfl
   have dz:z.1.map (·.1)∈Rs:=JW cf;obtain⟨d,hd⟩:∃d,dl[l]=d:=⟨_,rfl⟩;have cq:dl[l]?=some d:=by rw[gE a8,hd]
   have a0:d<z.1.length:=by
    refine bn (m.rs.length+l) _ d ?_ (by rw[av,Kx] at cq;exact cq);unfold zM;rw[Jm (by rw[QJ];omega),QJ,Jw];have:=cf;rw[a4,KT] at this;rw[KT]
    cases hw:m.wr[l]? with
    | none=>rw [hw] at this;cases this
    | some w =>
     rw[hw] at this;have h2:zO w=z.1.map (·.1):=Uc this;show some (zO w).length=_;rw[h2,QJ]
   obtain⟨y,ae⟩:∃y,z.1[d]=y:=⟨_,rfl⟩;have al:y∈z.1:=by rw[<- ae];exact gM a0
   obtain⟨fu,f2,bv⟩:=bo _ dz y.1 (UI.2 ⟨y,al,rfl⟩);have fl:(z.1.map (·.1)).getD d []=y.1:=by
    rw[gDe,KT,gE a0,ae];rfl
   obtain⟨f7,dy⟩:=Jr.1 cf;have ay:coG m.base.ev 0 (Rs.take (l+1)) dl (RF.co,RF.mem)=(zaj y.1 P.1,upd P.2 l (zcG m.base.ev y.1)):=by
    rw[tsg ew,dy,znh,<- hP,Qr,QW (by omega),UQ];rw[show dl.getD l 0=d by rw[gDe,cq];rfl,fl]
   obtain⟨bD,oD,et,gn,c5⟩:=(br.below f).at a8;obtain⟨bR,oR,ek,f1,c9⟩:=(en.below f).row.at a7;obtain⟨bz,oz,fd,f3,dr⟩:=((fv z bd).below f).row.at a0;have cd:=((ca z bd y al).below f).row;have c7:=fun a ha=>(zz (ca z bd y al) (a:=a) ha).2.1;subst et;subst ek;refine⟨l,rfl,a8,i64 d,by have:=zc (c5 l a8) (i:=0) (v:=i64 d) (by rw[hd];rfl);exact this,_,zc (za (zb f e9)) (i:=0) rfl,l,rfl,a7,.slice z.2.1 z.1.length z.2.2,by have:=zc (c9 l a7) (i:=0) (v := .slice z.2.1 z.1.length z.2.2) (by rw[ci];rfl);exact this,?_⟩;rw[fd];refine⟨d,rfl,a0,slV y,by have:=zc (dr d a0) (i:=0) (v:=slV y) (by rw[ae];rfl);exact this,?_⟩;obtain⟨A,T,hA,hE⟩:=zov { RF with co:=P.1,mem:=P.2 } q1 k1;have ah:RelAt Z M 99 78 A T P.1:=⟨hA,by rw[<- hE];exact fZ⟩;refine cmo (zsV ah ej cd (fun a ha=>by have:=c7 a ha;omega) (by omega) (fun a ha=>by have:=bv a ha;omega)) ?_;rintro e V2 ⟨rfl,cg,cy⟩;have cl:ExH V2 M { RF with co:=zaj y.1 P.1,mem:=P.2 } q1 k1:=by
    have e5:=hE (zaj y.1 P.1);show V2.heap[M]?=some (.cells (exC { RF with co:=zaj y.1 P.1,mem:=P.2 } q1 k1).toArray _ _);exact cg.cells.trans (by rw[<- e5])
   have a9:Bw Y2 V2:=f.trans (zl cy ai (by omega));have dm:=qN oE fZ (by decide) cy;have dh:=((ca z bd y al).below a9).row;obtain⟨j,gt⟩:∃j,j+1=y.1.length:=⟨y.1.length-1,by have:=List.length_pos_iff.2 fu;omega⟩;have a3:j<y.1.length:=by omega
   obtain⟨b6,o6,eg,gq,c0⟩:=dh.at a3;obtain⟨t,ht⟩:∃t,y.1[j]=t:=⟨_,rfl⟩;have au:t<m.base.ev.length:=bv t (by rw[<- ht];exact gM a3);have ao:y.1.getLastD 0=t:=by
    rw[List.getLastD_eq_getLast?,List.getLast?_eq_getElem?,show y.1.length-1=j by omega,gE a3,ht];rfl
   obtain⟨b7,o7,b5,gp,d3⟩:=dm.row.at au;have d7:zcG m.base.ev y.1=(m.base.ev[t]).v:=by
    show(m.base.ev.getD (y.1.getLastD 0) ev0).v=_;rw[ao,gDe,gE au];rfl
   have dV:Bw V2 V2.drew:=(Gb _ _).drew;have bt:l<6:=by omega
   unfold slV;rw[eg];refine DrawE.ord [15] [0,1,2,3,4,5,6,7,8,9,10,11,12,13,14,15] (by kernel_rfl) ⟨.slice q1 m.base.ev.length k1,by have:=zc (za (hdr cl)) (i:=0) (v := .slice q1 RF.ev.length k1) rfl;rw[dq] at this;exact this,(j:Nat),(ze (by omega)).trans (by omega),j,rfl,a3,i64 t,by have:=zc (zw dV (c0 j a3)) (i:=0) (v:=i64 t) (by rw[ht];rfl);exact this,?_⟩;rw[b5];refine⟨t,rfl,au,u8 (m.base.ev[t]).v,by have:=zc (zw dV (d3 t au)) (i:=3) (v:=u8 (m.base.ev[t]).v) rfl;exact this,l,rfl,bt,zm k5 (hdr cl) (o:=327+l*1) (v:=u8 (m.base.ev[t]).v) rfl rfl (by rw[zW];omega) rfl fun S fS gS sS=>?_⟩;rw[UX,zvv _ _ _ bt] at fS;have az:V2.grownBy S (some M):=zd (zi dV) gS;refine nxI (by omega) ⟨l+1,(cvE rfl rfl),⟨a8,?_,by rw[<- b5];exact qN dm cl (by decide) az,a9.trans (zl az a9.size (by omega))⟩,zdc (by omega)⟩;rw[ay,d7,<- b5];exact fS
  have hc:¬(l:Int)<(dl.length:Int):=dF hc;obtain rfl:l=dl.length:=by omega
  rw[JE (by omega)] at hP;have cu:zG m ds={ RF with co:=P.1,mem:=P.2 }:=by
   rw[hP,bb,av,a4];rfl
  rw[<- cu] at fZ;have oE:OwnS evE 80 Y2.heap.size Z q1 k1 (zG m ds).ev:=oE;refine⟨_,zc (za (zb f fs)) (i:=0) rfl,exC (zG m ds) q1 k1,zW _ _ _,za fZ,hlt fZ,?_⟩;have fm:=hJ.step _ _ _ _ hj (StepG.below f);have b0:∀k,GvX [.agg (exC (zG m ds) q1 k1).toArray] k->Y2.heap.size<=k/\∃a,q1=some a/\k=a.block:=by
   rintro k ⟨x,a,cc,he,rfl⟩;have h1:(exC (zG m ds) q1 k1).toArray=(exC x (some a) cc).toArray:=by
    have:=Jv he;exact Value.agg.inj this
   have h2:exC (zG m ds) q1 k1=exC x (some a) cc:=by simpa using h1
   have h3:Value.slice q1 (zG m ds).ev.length k1=Value.slice (some a) x.ev.length cc:=Jv h2;have h4:q1=some a:=by injection h3
   exact⟨(zz oE h4).1,a,h4,rfl⟩
  have de:(aj++[ds]).map (zG m)=aj.map (zG m)++[zG m ds]:=by rw[QM];rfl
  have fe:(aj.map (zG m)++[zG m ds]) <+: zem m:=by
   obtain⟨t,ht⟩:=a1;refine⟨t.map (zG m),?_⟩;unfold zem;rw[<- ht,QM,de]
  refine YieldR.mono (hy _ (zG m ds) [.agg (exC (zG m ds) q1 k1).toArray] F Z fm ⟨_,q1,k1,by simp,rfl,oE.lower (by omega)⟩ (fun k g=>by have:=(b0 k g).1;omega) fe) ?_;rintro v U ⟨rfl,F',ft,kU⟩;refine brF ?_;have kF:KeepsG F F' Y2 U:=⟨kU.os.trans f.os,kU.tape.trans f.tape,kU.output.trans f.output,UL f.size kU.size,fun k g hf=>(kU.same k (by omega) (fun h=>h.elim hf fun h=>by have:=(b0 k h).1;omega)).trans (f.block k g),fun k g=>by
   rcases kU.fp k g with(h | h) | h
   ·exact .inl h
   ·exact .inr (b0 k h).1
   ·exact .inr (by omega)⟩
  refine⟨F',⟨by rw[de];exact ft,?_⟩,kF⟩;rw[bi];refine⟨UL df kF.size,fun k h1 h2=>?_⟩;obtain⟨h3,h4⟩:=e4 k h1 h2;refine⟨(kF.same k (by omega) h4).trans h3,fun h=>?_⟩;rcases kF.fp k h with h | h
  ·exact h4 h
  ·omega
 ·rintro D F Y hD dk ⟨hj,g⟩ dc;refine⟨_,rfl,dc,⟨_,rfl⟩,F,?_⟩;show J ((qt (zM m)).map (zG m)) F _;exact hJ.step _ _ _ _ hj (.put (by omega) dk _)
 ·rintro D ex aj F Y hD dk a1 h;exact h.elim
end
end Go.Proofs.YtakcdebpklffiaaGreatDoor
namespace Go.Sei
theorem zrG{p:Nat->Bool}{n k:Nat}(hk:k<n)(h:p k=false):(List.range n).all p=false:=by
 rw[KL];exact⟨k,Ul.2 hk,by rw[h];decide⟩
theorem ztZ{p:Nat->Bool}{k:Nat}(h:(List.range k).all p=true)(hp:p k=true):(List.range (k+1)).all p=true:=by
 rw[QS,QF,h];simp[hp]
theorem zaf{a j:Nat}:(2^a).testBit j=decide (j=a):=by
 rw[Kq];exact QC.2 ⟨fun e=>e.symm,fun e=>e.symm⟩
theorem zpg{a:Nat}:∀(l:List Nat) (f:Nat->Nat) (b j:Nat),((l.foldl (fun f b=>upd f b (f b|||2^a)) f) b).testBit j=((f b).testBit j||(decide (b∈l)&&decide (j=a)))
 | [],f,b,j=>by simp
 | x::l,f,b,j=>by
  rw[QI,zpg l];by_cases c:b=x
  ·subst c;rw[zN,Uo,zaf];by_cases d:b∈l <;> by_cases e:j=a <;> simp[d,e]
  ·rw[qx _ _ c];simp[c]
theorem zgY(tf:Nat->Nat):∀(n b j:Nat),(za0 tf n b).testBit j=(decide (j<n)&&decide (b∈els (tf j)))
 | 0,b,j=>by
  show(0:Nat).testBit j=_;simp
 | n+1,b,j=>by
  have c:=zgY tf n b j;unfold za0 at c ⊢;rw[QS,KS,QI,List.foldl_nil,zpg,c];by_cases a:j=n
  ·subst a;simp
  ·by_cases d:j<n
   ·rw[Up d,Up (by omega:j<n+1),Ue a];simp
   ·rw[Ue d,Ue (by omega:¬j<n+1),Ue a];simp
theorem zns{r:RelD}(h:okR r=true){b j:Nat}:((z6 r).to b).testBit j=(decide ((j:Int)<r.n)&&decide (b∈els (r.to j))):=by
 have a:0<=r.n:=by
  unfold okR at h;rw[bAT,dE] at h;exact h.1
 have e:z6 r=⟨r.n,za0 r.to r.n.toNat⟩:=Gn h;rw[e];show(za0 r.to r.n.toNat b).testBit j=_;rw[zgY];congr 1;exact QC.2 (by omega)
theorem zhO{s:Nat}(h0:s≠0)(h:s<2^64):ctz s∈els s:=by
 rw[(j5 h0 h).1];exact KA
end Go.Sei
namespace Go.Proofs.YtakcdebpklffiaaGreatDoor
open Go.Vc Go.RowKit Go.Sei
section
variable{b c:Nat}{x:ExD}{q:OA}{w:Wd}
theorem zfj{k:Nat}:x.ev.getD k ev0=evA x k:=rfl
theorem zqH(fx:ExH w b x q c)(hv:ExW w x q)(hn:x.rf.n=x.ev.length)(hok:okR x.rf=true)(hT:Tz64M w):CB 58 #[At0 b] w (.bool (za2 x)):=by
 refine qA 72 [At0 b] (.s .p (.c .p .p)) Tryz.func58 ?_;obtain⟨g,ao⟩:∃f,f=z6 x.rf:=⟨_,rfl⟩;have a3:=hv.n;refine⟨Nat,fun F=>⟨[(0,At0 b),(3,At0 F)],[]⟩,fun F X=>qb X F g/\zK g.to/\w.heap.size<=F/\Bw w X,?_,?_⟩
 ·refine⟨zf x.rf,zg _,?_,hlt fx,?_⟩
  ·have h:=zP (n:=50) (m:=49) (za fx);obtain⟨A,T,hA,hE⟩:=ztn x q c;have e:=hE x.rf;have e2:(exC x q c).drop 50=zf x.rf++T:=by
    show(exC { x with rf:=x.rf } q c).drop 50=_;rw[e,<- hA,Ui]
   have e3:((exC x q c).toArray.toList.drop 50).take 49=zf x.rf:=by
    show((exC x q c).drop 50).take 49=_;rw[e2,Jg (by rw[zg];decide),JE (by rw[zg];decide)]
   rw[e3] at h;exact h
  refine cmo (zjt hv.rf hT) ?_;rintro e Y ⟨rfl,ac,aj⟩;refine zo (X:=Y) (v := .agg (zf (z6 x.rf)).toArray) k76 (zg _) (by kernel_rfl) (zH _) fun Z ah fZ sZ=>?_;rw[<- ao] at fZ aj;exact⟨Y.heap.size,(cvE rfl rfl),fZ,aj,ac.size,(zst ac ah)⟩
 rintro F X ⟨fF,aj,hF,z⟩;have ar:∀i j,(g.to i).testBit j=true->j<x.ev.length:=fun i j h=>by
  rw[ao,zns hok,bAT,dE,hn] at h;omega
 refine⟨_,zc (za (zb z fx)) (i:=0) rfl,Nat,fun k=>⟨[(0,At0 b),(3,At0 F),(18,.slice q x.ev.length c),(19,i64 x.ev.length),(20,i64 (k:Nat))],[]⟩,fun k X=>k<=x.ev.length/\(List.range k).all (fun i=>zcC x (g.to i) (evA x i))=true/\qb X F g/\Bw w X,fun k=>x.ev.length-k,0,(cvE rfl rfl),⟨UZ _,rfl,fF,z⟩,?_⟩;have ak:za2 x=(List.range x.ev.length).all fun i=>zcC x (g.to i) (evA x i):=by rw[ao];rfl
 clear fF z;rintro k X ⟨hk,aw,fF,z⟩;dsimp only;have az:=z.size;refine biE (fun hc=>?_) fun hc=>?_
 ·have hc:(k:Int)<(x.ev.length:Int):=dT hc;have ai:k<x.ev.length:=by omega
  obtain⟨bq,oq,ap,hb,al⟩:=zcX (hv.ev.below z) ai;rw[zfj] at al;obtain⟨e,he⟩:=nm (evA x k);obtain⟨s,hs⟩:=nm (g.to k);rw[<- he] at al;have af:s<2^64:=by rw[hs];exact aj k (by omega)
  have a6:some (Value.slice q x.ev.length c)=some (Value.slice (some ⟨bq,oq,none⟩) x.ev.length c):=by rw[ap]
  subst ap;refine⟨k,rfl,ai,evE.enc e,rfl,al,hb,zo (X:=X) (v := .agg (evE.enc e).toArray) k80 rfl rfl (Qg.2 fun u hu=>evE.one e u hu) fun Y ac fY sY=>?_⟩;have fY:Y.heap[X.heap.size]?=some (.cells (evE.enc e).toArray 80 (0,0)):=fY;have y:=z.trans (ac.mono az);have no:∀{Z:Wd},Bw w Z->zcC x s e=false->(Ending.returned (.bool false)=Ending.returned (.bool (za2 x))/\Bw w Z):=fun{Z} hb h=>⟨rb (by
   rw[ak];symm;exact zrG ai (by rw[<- hs,<- he];exact h)),hb⟩
  have au:∀{Z:Wd},qb Z F g->Bw w Z->zcC x s e=true->(k+1<=x.ev.length/\(List.range (k+1)).all (fun i=>zcC x (g.to i) (evA x i))=true/\qb Z F g/\Bw w Z):=fun{Z} f hb h=>⟨ai,ztZ aw (by rw[<- hs,<- he];exact h),f,hb⟩;refine⟨k,rfl,by omega,?_⟩;refine⟨s64 s,by rw[hs];exact za3 (zb ac fF) (by omega),u8 e.k,zc (za fY) (i:=1) rfl,biE (fun h=>?_) fun h=>?_⟩
  ·have h:¬e.k=1:=by
    have h:(!decide ((e.k.toNat:Int)=((1:UInt8).toNat:Int)))=true:=h;intro e2;rw[e2] at h;simp at h
   have r:zcC x s e=decide (s=0):=Gm h;refine biE (fun o=>?_) fun o=>?_
   ·have o:¬s=0:=by
     have o:(!decide ((s:Int)=0))=true:=o;intro e2;rw[e2] at o
     cases o
    exact no y (by rw[r];exact Ue o)
   ·have o:s=0:=by
     have o:(!decide ((s:Int)=0))=false:=o;have o:(s:Int)=0:=(by simpa using o);omega
    exact nxI (by omega) ⟨k+1,(cvE rfl rfl),au (zb ac fF) y (by rw[r];exact Up o),zdc (by omega)⟩
  have h:e.k=1:=by
   have h:(!decide ((e.k.toNat:Int)=((1:UInt8).toNat:Int)))=false:=h;exact qS.1 (by simpa using h)
  refine cmo (zbu af (hT.below y)) ?_;rintro e2 Z ⟨rfl,ah⟩;have a0:=y.size;have ab:=y.trans (ah.mono a0);have fZ:=zb ah fY;have a1:=zb ah (zb ac fF);by_cases ae:s=0
  ·have e1:(els s).isEmpty=true:=by rw[ae];rfl
   rw[e1];refine brT (brT (no ab ?_));unfold zcC;rw[Gn h,Gn ae]
  obtain⟨hd,ax⟩:=zcr ae af;rw[hd,ax];have aq:=zhO ae af;have av:s.testBit (ctz s)=true:=(jf.1 aq).2;have am:ctz s<x.ev.length:=ar k _ (by rw[<- hs];exact av);refine brF ⟨by omega,((2^ctz s:Nat):Int),zab (e:=ctz s) (by omega),biE (fun o=>?_) fun o=>?_⟩
  ·have o:¬s=2^ctz s:=by
    have o:(!decide ((s:Int)=((2^ctz s:Nat):Int)))=true:=o;intro e2;rw[<- e2] at o;simp at o
   refine no ab ?_;unfold zcC;rw[Gn h,Gm ae,Gm o]
  have o:s=2^ctz s:=by
   have o:(!decide ((s:Int)=((2^ctz s:Nat):Int)))=false:=o;have o:(s:Int)=((2^ctz s:Nat):Int):=by simpa using o
   exact Uw o
  obtain⟨t,ht⟩:=nm (ctz s);rw[<- ht] at am o ⊢;obtain⟨a4,a5,aa,a2,ag⟩:=zcX (hv.ev.below ab) am;rw[zfj] at ag;obtain⟨f,hf⟩:=nm (evA x t);rw[<- hf] at ag;have r:zcC x s e=(decide (f.k=2)&&(decide (f.l=e.l)&&decide (f.v=e.v))):=by
   unfold zcC;rw[Gn h,Gm ae,<- ht,Gn o,<- hf]
  refine⟨_,zc (za (zb ab fx)) (i:=0) rfl,t,rfl,am,?_⟩;refine⟨evE.enc f,rfl,by
   simp only[KY,Ur,Gh] at aa;rw[aa.1,aa.2];exact ag,by
   simp only[KY,Ur,Gh] at aa;rw[aa.1];exact a2,?_⟩
  refine zo (X:=Z) (v := .agg (evE.enc f).toArray) k80 rfl rfl (Qg.2 fun u hu=>evE.one f u hu) fun V an fV sV=>?_;have fV:V.heap[Z.heap.size]?=some (.cells (evE.enc f).toArray 80 (0,0)):=fV;have ad:=zst ab an;have fe:=zb an fZ;have ay:=zb an a1;have n8:∀{a d:UInt8},(!decide ((a.toNat:Int)=(d.toNat:Int)))=true->¬a=d:=fun{a d} h e2=>by
   rw[e2] at h;simp at h
  have y8:∀{a d:UInt8},(!decide ((a.toNat:Int)=(d.toNat:Int)))=false->a=d:=fun{a d} h=>qS.1 (by simpa using h);refine⟨u8 f.k,zc (za fV) (i:=1) rfl,biE (fun h3=>?_) fun h3=>?_⟩
  ·have h3:¬f.k=2:=n8 (d:=2) h3;exact brT (brT (no ad (by rw[r,Ue h3];rfl)))
  have h3:f.k=2:=y8 (d:=2) h3;refine⟨u8 f.l,zc (za fV) (i:=2) rfl,u8 e.l,zc (za fe) (i:=2) rfl,biE (fun h4=>?_) fun h4=>?_⟩
  ·have h4:¬f.l=e.l:=n8 h4;exact brT (no ad (by rw[r,Ue h4,Ug,Uf]))
  have h4:f.l=e.l:=y8 h4;refine⟨u8 f.v,zc (za fV) (i:=3) rfl,u8 e.v,zc (za fe) (i:=3) rfl,biE (fun h5=>?_) fun h5=>?_⟩
  ·have h5:¬f.v=e.v:=n8 h5;exact no ad (by rw[r,Ue h5,Uf,Uf])
  have h5:f.v=e.v:=y8 h5;exact nxI (by omega) ⟨k+1,(cvE rfl rfl),au ay ad (by rw[r,Up h3,Up h4,Up h5];rfl),zdc (by omega)⟩
 ·have hc:¬(k:Int)<(x.ev.length:Int):=dF hc;obtain rfl:k=x.ev.length:=by omega
  exact⟨rb (by rw[ak];exact aw.symm),z⟩
end
theorem zxD{bx n:Nat}{w:Wd}{i:Nat}(f:w.heap[bx]?=some (.cells #[i64 (n:Nat)] 3 (0,0)))(hn:n<=1000):Calls PG 190 #[i64 (i:Nat),At0 bx] w fun e w'=>e = .returned (.bool true)/\w'.heap[bx]?=some (.cells #[i64 (n+1:Nat)] 3 (0,0))/\w.grownBy w' (some bx):=by
 refine zD 6 [i64 (i:Nat),At0 bx] Tryz.func190 ?_;exact⟨_,zc (za f) (i:=0) rfl,nxI (by omega) (zm k3 f (o:=0) (v:=i64 (n+1:Nat)) rfl rfl (by show 0<1;decide) rfl fun w' a d g=>⟨rfl,a,d⟩)⟩
theorem zm0{bs bx s:Nat}{w:Wd}(fs:w.heap[bs]?=some (.cells #[s64 s] 73 (0,0)))(fx:w.heap[bx]?=some (.cells #[i64 (0:Nat)] 3 (0,0)))(hs:s<2^64)(hT:Tz64M w)(hbx:7≠bx) :
  Calls PG 254 #[.func (.func 190) #[] #[At0 bx],At0 bs] w fun e w'=>(∃v,e = .returned v)/\w'.heap[bx]?=some (.cells #[i64 (zcp s:Nat)] 3 (0,0))/\w.grownBy w' (some bx):=by
 refine zD 16 [.func (.func 190) #[] #[At0 bx],At0 bs] Tryz.func254 ?_;refine⟨_,zc (za fs) (i:=0) rfl,Nat×Nat,fun q=>⟨[(0,.func (.func 190) #[] #[At0 bx]),(3,s64 q.2)],[]⟩,fun q X=>X.heap[bx]?=some (.cells #[i64 (q.1:Nat)] 3 (0,0))/\q.1+zcp q.2=zcp s/\q.2<2^64/\w.grownBy X (some bx),fun q=>q.2,(0,s),(cvE rfl rfl),⟨fx,UQ _,hs,qo _ _⟩,?_⟩;rintro⟨n,r⟩ X ⟨f,k,j,m⟩;dsimp only at f k j ⊢;have o:=zfV s;refine biE (fun d=>?_) fun d=>?_
 ·have d:(!decide ((r:Int)=0))=true:=d;have d:¬(r:Int)=0:=by simpa using d
  have h:r≠0:=by omega
  obtain⟨y,t,_,_⟩:=j5 h j;have hl:zcp r=zcp (qM r)+1:=by unfold zcp;rw[y];rfl
  have l:Tz64M X:=zaH hT (m.block _ (zbn hT) (by simpa using hbx));refine cmo (zrZ l h j) ?_;rintro e _ ⟨rfl,rfl⟩;have g:n<=1000:=by unfold zcp at k;omega
  refine cmo (zxD f g) ?_;rintro e V ⟨rfl,z,u⟩;exact brF ⟨((r-1:Nat):Int),(zbl (a:=(r:Int)-1) (by omega)).trans (by omega),((qM r:Nat):Int),zac (a:=r) (b:=r-1) j (by omega),(n+1,qM r),(cvE rfl rfl),⟨z,by show n+1+zcp (qM r)=_;omega,by show qM r<_;omega,zd m u⟩,t⟩
 ·have d:(!decide ((r:Int)=0))=false:=d;have d:(r:Int)=0:=by simpa using d
  obtain rfl:r=0:=by omega
  have p:zcp 0=0:=rfl;rw[p,UK] at k;exact⟨⟨_,rfl⟩,by rw[<- k];exact f,m⟩
theorem zww{s:Nat}{w:Wd}(hs:s<2^64)(hT:Tz64M w):CB 121 #[s64 s] w (i64 (zcp s:Nat)):=by
 refine qA 11 [s64 s] (.s .p (.c .p .p)) Tryz.func121 ?_;obtain⟨L,g⟩:=nm (w.heap.size);refine⟨Unit,fun _=>⟨[(0,s64 s),(3,At0 L)],[]⟩,fun _ Y=>Y.heap[L]?=some (.cells #[i64 (0:Nat)] 3 (0,0))/\Y.heap.size=L+1/\Bw w Y,?_,?_⟩
 ·refine zo (X:=w) (v:=i64 0) k3 rfl rfl rfl fun Y a f h=>?_;have f:Y.heap[w.heap.size]?=some (.cells #[i64 (0:Nat)] 3 (0,0)):=f;exact⟨(),⟨.cons rfl (.cons (by rw[g];rfl) .nil),rfl⟩,by rw[g];exact f,by rw[g];exact h,a⟩
 rintro _ Y ⟨f,h,a⟩;refine cmo zja ?_;rintro e _ ⟨rfl,rfl⟩;have d:Bw Y (Y.alloc (.cells #[s64 s] 73)):=zba _ _;have l:=zbn hT;refine cmo (zm0 (zt Y _) (zb d f) hs ((hT.below a).below d) (by omega)) ?_;rintro e Z ⟨⟨v,rfl⟩,j,k⟩;refine⟨_,zc (za j) (i:=0) rfl,rfl,?_⟩;exact((zst a d)).trans (zl k (by have:=a.size;have:=d.size;omega) (by omega))
def zly (x y:Nat):Int:=if x<y then -1 else if y<x then 1 else 0
theorem zsN{x:Nat}{w:Wd}:Calls PG 189 #[i64 (x:Nat)] w fun e w'=>e = .returned (.bool false)/\w=w':=by
 refine zD 6 [i64 (x:Nat)] Tryz.func189 ?_;exact⟨rb (by simp),rfl⟩
theorem zoQ{x y:Nat}{w:Wd}:Calls PG 120 #[i64 (x:Nat),i64 (y:Nat)] w fun e w'=>e = .returned (i64 (zly x y))/\w=w':=by
 refine zD 20 [i64 (x:Nat),i64 (y:Nat)] Tryz.func120 ?_;refine cmo zsN ?_;rintro e _ ⟨rfl,rfl⟩;refine cmo zsN ?_;rintro e _ ⟨rfl,rfl⟩;refine brF (brF (biE (fun h=>?_) fun h=>?_))
 ·have h:(x:Int)<y:=dT h;exact⟨ri (by unfold zly;rw[Gn (by omega)]),rfl⟩
 have h:¬(x:Int)<y:=dF h;refine biE (fun a=>?_) fun a=>?_
 ·have a:(y:Int)<x:=dT a;exact⟨ri (by unfold zly;rw[Gm (by omega),Gn (by omega)]),rfl⟩
 ·have a:¬(y:Int)<x:=dF a;exact⟨ri (by unfold zly;rw[Gm (by omega),Gm (by omega)]),rfl⟩
section
variable{b c L:Nat}{x:ExD}{q:OA}{w:Wd}
theorem ztC{X:Wd}(fx:ExH X b x q c){i:Nat}(hi:i<48):X.cell? ⟨b,0+99+1+i*1,none⟩=some (s64 (x.co.to i)):=by
 obtain⟨A,T,d,a⟩:=zov x q c;have e:RelAt X b 99 78 A T x.co:=⟨d,by rw[<- a];exact fx⟩;exact e.cell hi
theorem zxr{u v:Nat}(fx:ExH w b x q c)(fL:w.heap[L]?=some (.cells #[At0 b] 134 (0,0)))(hco:zK x.co.to)(hu:u<48)(hv:v<48)(hT:Tz64M w) :
  CB 119 #[i64 (u:Nat),i64 (v:Nat),At0 L] w (i64 (zly (zcp (x.co.to v)) (zcp (x.co.to u)))):=by
 refine zD 23 [i64 (u:Nat),i64 (v:Nat),At0 L] Tryz.func119 ?_;refine DrawE.ord [] [0,1,2,3,4,5,6,8,9,10,11,12,13,14,7,15,16,17] (by kernel_rfl) ?_;have f:Bw w w.drew:=(Gb _ _).drew;refine⟨_,zc (za (hdr fL)) (i:=0) rfl,v,rfl,hv,_,ztC (hdr fx) hv,_,zc (za (hdr fL)) (i:=0) rfl,u,rfl,hu,_,ztC (hdr fx) hu,cmo (zww (hco v hv) (hT.below f)) ?_⟩;rintro e X ⟨rfl,a⟩;refine⟨a,cmo (zww (hco u hu) ((hT.below f).below a)) ?_⟩;rintro e Y ⟨rfl,d⟩;refine⟨d,cmo zoQ ?_⟩;rintro e _ ⟨rfl,rfl⟩;exact⟨Gb _ _,rfl,(f.trans a).trans (d.mono a.size)⟩
end
theorem ziV{key:Nat->Nat}{x:Nat}:∀(B A:List Nat),(∀y∈B,key y<key x)->jv key (B++A) x=B++jv key A x
 | [],A,_=>rfl
 | y::B,A,h=>by
  show(if key y<key x then y::jv key (B++A) x else x::y::(B++A))=_;rw[Gn (h y KA),ziV B A fun z a=>h z (JV _ a)];rfl
theorem ziU{key:Nat->Nat}{x:Nat}:∀r:List Nat,(jv key r x).length=r.length+1
 | []=>rfl
 | y::r=>by
  unfold jv
  split
  ·show(jv key r x).length+1=_;rw[ziU r];rfl
  ·rfl
theorem zfa{key:Nat->Nat}{x a:Nat}:∀r:List Nat,a∈jv key r x↔a=x\/a∈r
 | []=>by simp [jv]
 | y::r=>by
  unfold jv
  split
  ·rw[UA,zfa r,UA];constructor
   ·rintro(h | h | h) <;> simp[h]
   ·rintro(h | h | h) <;> simp[h]
  ·simp
def zc4 (key:Nat->Nat) (l:List Nat):List Nat:=l.foldl (fun acc x=>jv key acc x) []
theorem znN(key:Nat->Nat)(l:List Nat)(x:Nat):zc4 key (l++[x])=jv key (zc4 key l) x:=by
 unfold zc4;rw[KS];rfl
theorem zcU{key:Nat->Nat}{a:Nat}:∀(l acc:List Nat),a∈l.foldl (fun acc x=>jv key acc x) acc↔a∈l\/a∈acc
 | [],acc=>by simp
 | x::l,acc=>by
  rw[QI,zcU l,zfa,UA];constructor
  ·rintro(h | h | h) <;> simp[h]
  ·rintro((h | h) | h) <;> simp[h]
theorem zcV{key:Nat->Nat}:∀(l acc:List Nat),(l.foldl (fun acc x=>jv key acc x) acc).length=l.length+acc.length
 | [],acc=>by simp
 | x::l,acc=>by
  rw[QI,zcV l,ziU,Qp];omega
theorem zgl{key:Nat->Nat}{l:List Nat}{a:Nat}:a∈zdT key l↔a∈l:=by
 unfold zdT;rw[List.mem_reverse,zcU];simp
theorem zqt{key:Nat->Nat}(l:List Nat):(zdT key l).length=l.length:=by
 unfold zdT;rw[Kk,zcV];rfl
section
variable{b c L g cap:Nat}{x:ExD}{q:OA}{w:Wd}{l:List Nat}
abbrev zcq (x:ExD):Nat->Nat:=fun i=>zcp (x.co.to i)
theorem ziT{B:Nat}(ho:OwnS zF 3 B w (some ⟨g,0,none⟩) cap l)(fx:ExH w b x q c)(fL:w.heap[L]?=some (.cells #[At0 b] 134 (0,0)))(hT:Tz64M w)(htg:7≠g)(hco:zK x.co.to)(h48:∀a∈l,a<48)(hn:l.length<=20)(hn1:1<=l.length) :
  Calls PG 256 #[.slice (some ⟨g,0,none⟩) l.length cap,i64 0,i64 l.length,.func (.func 119) #[] #[At0 L]] w fun e w'=>e = .returned (.tuple #[])/\OwnS zF 3 B w' (some ⟨g,0,none⟩) cap (zdT (zcq x) l)/\w.grownBy w' (some g):=by
 refine qA 53 [.slice (some ⟨g,0,none⟩) l.length cap,i64 0,i64 l.length,.func (.func 119) #[] #[At0 L]] (.c .p .p) Tryz.func256 ?_;obtain⟨E0,a1⟩:∃E0:List (Nat×Value),E0=[(0,.slice (some ⟨g,0,none⟩) l.length cap),(1,i64 0),(2,i64 l.length),(3,.func (.func 119) #[] #[At0 L])]:=⟨_,rfl⟩;have ak:b≠g:=fun e=>by
  obtain⟨_,_,ah,f⟩:=zz ho rfl;have f:w.heap[g]?=_:=f;rw[<- e,fx] at f;simp at f
 have ao:L≠g:=fun e=>by
  obtain⟨_,_,ah,f⟩:=zz ho rfl;have f:w.heap[g]?=_:=f;rw[<- e,fL] at f;simp at f
 refine⟨Unit,fun _=>⟨[(0,.slice (some ⟨g,0,none⟩) l.length cap),(1,i64 0),(2,i64 l.length),(3,.func (.func 119) #[] #[At0 L]),(8,i64 1)],[]⟩,fun _ X=>w=X,?_,?_⟩
 ·exact⟨1,ze (by omega),(),(cvE rfl rfl),rfl⟩
 rintro _ _ rfl;have ai:l.take 1=(zc4 (zcq x) (l.take 1)).reverse:=by
  cases l with
  | nil=>simp at hn1
  | cons a l=>rfl
 refine⟨Nat,fun i=>⟨[(0,.slice (some ⟨g,0,none⟩) l.length cap),(1,i64 0),(2,i64 l.length),(3,.func (.func 119) #[] #[At0 L]),(8,i64 (i:Nat))],[]⟩,fun i X=>(1<=i/\i<=l.length)/\OwnS zF 3 B X (some ⟨g,0,none⟩) cap ((zc4 (zcq x) (l.take i)).reverse++l.drop i)/\w.grownBy X (some g),fun i=>l.length-i,1,
  (cvE rfl rfl),⟨⟨UW _,hn1⟩,by rw[<- ai,JO];exact ho,qo _ _⟩,?_⟩
 rintro i X ⟨⟨a2,hi⟩,oX,gX⟩;dsimp only;refine biE (fun f=>?_) fun f=>?_
 ·have f:(i:Int)<(l.length:Int):=dT f;have m:i<l.length:=by omega
  obtain⟨u,hu⟩:∃u,l[i]=u:=⟨_,rfl⟩;have ap:u∈l:=by rw[<- hu];exact gM m
  obtain⟨S,hS⟩:=nm (zc4 (zcq x) (l.take i));have aq:∀a∈S,a<48:=fun a ha=>by
   rw[hS] at ha;have:=(zcU (key:=zcq x) (l.take i) []).1 ha;rcases this with h | h
   ·exact h48 a (JY h)
   ·cases h
  have ac:S.length=i:=by
   rw[hS];unfold zc4;rw[zcV,Qr];simp;omega
  have aw:zc4 (zcq x) (l.take (i+1))=jv (zcq x) S u:=by
   rw[tsg m,hu,znN,<- hS]
  rw[<- hS,<- JD m,hu] at oX;refine⟨List Nat×List Nat,fun s=>⟨[(0,.slice (some ⟨g,0,none⟩) l.length cap),(1,i64 0),(2,i64 l.length),(3,.func (.func 119) #[] #[At0 L]),(8,i64 (i:Nat)),(9,i64 s.1.length)],[]⟩,fun s Y=>S.reverse=s.1++s.2/\(∀y∈s.2,zcq x y<zcq x u)/\OwnS zF 3 B Y (some ⟨g,0,none⟩) cap (s.1++u::(s.2++l.drop (i+1)))/\w.grownBy Y (some g),fun s=>s.1.length,(S.reverse,[]),
   ⟨.cons rfl (.cons rfl (.cons rfl (.cons rfl (.cons rfl (.cons (by show _=some (i64 (S.reverse.length:Nat));rw[Kk,ac];rfl) .nil))))),rfl⟩,⟨by rw[QG],fun y hy=>(by cases hy),oX,gX⟩,?_⟩
  clear oX gX;rintro⟨A,Bs⟩ Y ⟨j,ab,oY,t⟩;dsimp only at j ab oY ⊢;have al:A.length<=i:=by
   have:=Gi List.length j;rw[Kk,ac,lap] at this;omega
  have aa:Bw Y Y.drew:=(Gb _ _).drew;have ag:∀{Z:Wd},Bw Y Z->jv (zcq x) A.reverse u=u::A.reverse->((1<=i+1/\i+1<=l.length)/\OwnS zF 3 B Z (some ⟨g,0,none⟩) cap ((zc4 (zcq x) (l.take (i+1))).reverse++l.drop (i+1))/\w.grownBy Z (some g)):=fun{Z} hb ae=>by
   refine⟨⟨by omega,m⟩,?_,jD t (hb.mono t.size)⟩;have h1:S=Bs.reverse++A.reverse:=by rw[<- Kn,<- j,Ka]
   rw[aw,h1,ziV _ _ (fun y hy=>ab y (by simpa using hy)),ae];have h2:(Bs.reverse++u::A.reverse).reverse++l.drop (i+1)=A++u::(Bs++l.drop (i+1)):=by simp
   rw[h2];exact oY.below hb
  refine DrawE.ord [] [0,1,2,3,4,5,6,7,8,9,10,11,12,13,14,15,16] (by kernel_rfl) (biE (fun h=>?_) fun h=>?_)
  ·have h:(0:Int)<(A.length:Int):=dT h;obtain⟨A',y,hA⟩:∃A' y,A=A'++[y]:=by
    refine⟨A.dropLast,A.getLast (fun e=>by rw[e] at h;simp at h),(List.dropLast_concat_getLast _).symm⟩
   subst hA;have o:(A'++[y]).length=A'.length+1:=by simp
   rw[o] at al h ⊢;have d:((A'++[y])++u::(Bs++l.drop (i+1))).length=l.length:=by
    have:=Gi List.length j;rw[Kk,ac] at this;simp only[lap,Qp,QK,Qq] at this ⊢;omega
   have ay:y<48:=aq y (by
    have:y∈S.reverse:=(by rw[j];simp);simpa using this)
   obtain⟨b',o',ax,a0,r⟩:=oY.row.at (i:=A'.length) (by rw[d];omega);have aj:b'=g/\o'=0:=by simpa using ax.symm
   obtain⟨rfl,rfl⟩:=aj;have c1:Y.cell? ⟨b',0+(A'.length+1)*1,none⟩=some (i64 u):=by
    have:=zc (r (A'.length+1) (by rw[d];omega)) (i:=0) (v:=i64 u) (by
     have e:((A'++[y])++u::(Bs++l.drop (i+1)))[A'.length+1]?=some u:=by
      rw[Jm (by simp),o,UN];rfl
     rw[gE (by rw[d];omega)] at e;rw[Uc e];rfl)
    exact this
   have c2:Y.cell? ⟨b',0+A'.length*1,none⟩=some (i64 y):=by
    have:=zc (r A'.length (by rw[d];omega)) (i:=0) (v:=i64 y) (by
     have e:((A'++[y])++u::(Bs++l.drop (i+1)))[A'.length]?=some y:=by
      rw[KN,Jm (UW _),UN];rfl
     rw[gE (by rw[d];omega)] at e;rw[Uc e];rfl)
    exact this
   refine⟨A'.length+1,rfl,by omega,?_⟩;refine⟨_,c1,(A'.length:Nat),(ze (by omega)).trans (by omega),A'.length,rfl,by omega,?_⟩;refine⟨_,c2,?_⟩;have an:ExH Y b x q c:=(t.block b (hlt fx) (by simpa using ak)).trans fx;have av:Y.heap[L]?=some (.cells #[At0 b] 134 (0,0)):=(t.block L (hlt fL) (by simpa using ao)).trans fL;have ar:Tz64M Y:=zaH hT (t.block _ (zbn hT) (by simpa using htg));refine cmo (zxr (hdr an) (hdr av) hco (h48 u ap) ay (ar.below aa)) ?_;rintro e Z ⟨rfl,ad⟩;refine⟨ad,?_⟩;have k:=aa.trans ad;refine biE (fun n=>?_) fun n=>?_
   ·have n:zly (zcp (x.co.to y)) (zcp (x.co.to u))<0:=dT n;have hk:zcq x y<zcq x u:=by
     unfold zly at n;by_cases h1:zcp (x.co.to y)<zcp (x.co.to u)
     ·exact h1
     ·rw[Gm h1] at n
      split at n <;> omega
    have oZ:=oY.below k;have gZ:=jD t (k.mono t.size);obtain⟨b2,o2,au,a3,az⟩:=oZ.row.at (i:=A'.length) (by rw[d];omega);have af:b2=b'/\o2=0:=(by simpa using au.symm);obtain⟨rfl,rfl⟩:=af;have dZ:Bw Z Z.drew:=(Gb _ _).drew;have d1:=zdK k c1;have d2:=zdK k c2;refine DrawE.ord [15,17] [0,1,2,3,4,5,6,7,8,9,10,11,12,13,14,15,16,17] (by kernel_rfl) ⟨(A'.length:Nat),(ze (by omega)).trans (by omega),(A'.length:Nat),(ze (by omega)).trans (by omega),A'.length,rfl,by omega,?_⟩;refine⟨_,d2,A'.length+1,rfl,by omega,?_⟩;refine⟨_,d1,A'.length+1,rfl,by omega,?_⟩;refine zk6 (i:=A'.length+1) (v:=y) k3 rfl (oZ.below dZ) (by rw[d];omega) fun V oV gV=>⟨A'.length,rfl,by omega,?_⟩;refine zk6 (i:=A'.length) (v:=u) k3 rfl oV (by rw[QL,d];omega) fun U oU gU=>?_;have e1:(((A'++[y])++u::(Bs++l.drop (i+1))).set (A'.length+1) y).set A'.length u=A'++u::((y::Bs)++l.drop (i+1)):=by
     rw[KN,JN _ _ (by omega),Jw,JN _ _ (by omega),UN];rfl
    rw[e1] at oU;refine⟨(A'.length:Nat),(ze (by omega)).trans (by omega),(A',y::Bs),(cvE rfl rfl),⟨by rw[j];simp,fun z hz=>?_,oU,zd (zd (jD gZ (dZ.mono gZ.size)) gV) gU⟩,by show A'.length<_;omega⟩;rcases UA.1 hz with hz | hz
    ·rw[hz];exact hk
    ·exact ab z hz
   ·have n:¬zly (zcp (x.co.to y)) (zcp (x.co.to u))<0:=dF n;have hk:¬zcq x y<zcq x u:=fun h=>n (by unfold zly;rw[Gn h];decide);refine nxI (by omega) ⟨i+1,(cvE rfl rfl),ag k ?_,zdc (by omega)⟩;rw[Kn];exact Gm hk
  ·have h:¬(0:Int)<(A.length:Int):=dF h;have am:A=[]:=List.length_eq_zero_iff.1 (by omega);subst am;exact brF (nxI (by omega) ⟨i+1,(cvE rfl rfl),ag aa rfl,zdc (by omega)⟩)
 ·have f:¬(i:Int)<(l.length:Int):=dF f;obtain rfl:i=l.length:=by omega
  rw[Qt,Qj,QG] at oX;exact⟨rfl,oX,gX⟩
end
theorem zxT:∃G,TyEq PG 50 true 6 2 G/\∀f:Nat->UInt8,G (seg 6 fun i=>u8 (f i)):=by
 refine⟨_,.array (m:=6) (by decide) Tryz.underlying50 (fun w=>Tryz.isAgg50 w) (jc (by kernel_rfl) (by kernel_rfl)).1 (by kernel_rfl) tU8,fun f i d=>⟨((f i).toNat:Int),?_⟩⟩;unfold qr;have h:=zcR (n:=6) (fun i=>u8 (f i)) d;rw[UX];have a:i<(seg 6 fun i=>u8 (f i)).length:=by rw[zB];exact d
 rw[<- JD a,List.take_succ_cons,Um];rw[gE a] at h;rw[Uc h];rfl
theorem zsT{f g:Nat->UInt8}:seg 6 (fun i=>u8 (f i))=seg 6 (fun i=>u8 (g i))↔((List.range 6).all fun l=>decide (f l=g l))=true:=by
 rw[Qg];constructor
 ·intro h i a;have a:=Ul.1 a;have e:=zcR (n:=6) (fun i=>u8 (f i)) a;rw[h,zcR (n:=6) (fun i=>u8 (g i)) a] at e;have d:=Uc e;unfold u8 at d;injection d with _ h5;exact Up (qS.1 h5).symm
 ·intro h;unfold seg;refine Kl fun i a=>?_;rw[dT (h i a)]
theorem ztq(x y:Operand)(f g:Nat->UInt8)(w:Wd):(do eqGuard .eql 50 x y (.agg (seg 6 fun i=>u8 (f i)).toArray) (.agg (seg 6 fun i=>u8 (g i)).toArray);binOp .eql 50 (.agg (seg 6 fun i=>u8 (f i)).toArray) (.agg (seg 6 fun i=>u8 (g i)).toArray)).run PG w = .ok (.bool ((List.range 6).all fun l=>decide (f l=g l))) w:=by
 obtain⟨G,d,a⟩:=zxT;have:=zlq d 9998 rfl (by kernel_rfl) (zB 6 _) (zB 6 _) (a f) (a g) x y w;rw[this,zdi zsT,Bool.decide_eq_true]
section
variable{b c L g cap:Nat}{x:ExD}{q:OA}{w:Wd}{l:List Nat}
theorem zlY{B:Nat}(ho:OwnS zF 3 B w (some ⟨g,0,none⟩) cap l)(fx:ExH w b x q c)(fL:w.heap[L]?=some (.cells #[At0 b] 134 (0,0)))(hT:Tz64M w)(htg:7≠g)(hco:zK x.co.to)(h48:∀a∈l,a<48)(hn:l.length<=19)(hn1:1<=l.length) :
  Calls PG 188 #[.slice (some ⟨g,0,none⟩) l.length cap,i64 l.length,.func (.func 119) #[] #[At0 L]] w fun e w'=>e = .returned (.tuple #[])/\OwnS zF 3 B w' (some ⟨g,0,none⟩) cap (zdT (zcq x) l)/\w.grownBy w' (some g):=by
 refine zD 63 [.slice (some ⟨g,0,none⟩) l.length cap,i64 l.length,.func (.func 119) #[] #[At0 L]] Tryz.func188 ?_;refine⟨Unit,fun _=>⟨[(0,.slice (some ⟨g,0,none⟩) l.length cap),(1,i64 l.length),(2,.func (.func 119) #[] #[At0 L]),(6,i64 20),(7,i64 0),(8,i64 20)],[]⟩,fun _ X=>w=X,fun _=>0,(),(cvE rfl rfl),rfl,?_⟩;rintro _ _ rfl;refine brN (Ue (by omega)) (cmo (ziT ho fx fL hT htg hco h48 (by omega) hn1) ?_);rintro e X ⟨rfl,f,d⟩;refine⟨Unit,fun _=>⟨[(1,i64 l.length),(6,i64 20)],[]⟩,fun _ Y=>X=Y,fun _=>0,(),(cvE rfl rfl),rfl,?_⟩;rintro _ _ rfl;exact brN (Ue (by omega)) ⟨rfl,f,d⟩
theorem zoo{q:OA}{n m:Nat}(hm:m<=1000):Calls PG 256 #[.slice q n cap,i64 (m:Nat),i64 (m:Nat),.func (.func 119) #[] #[At0 L]] w fun e w'=>e = .returned (.tuple #[])/\w=w':=by
 refine zD 53 [.slice q n cap,i64 (m:Nat),i64 (m:Nat),.func (.func 119) #[] #[At0 L]] Tryz.func256 ?_;refine nxI (by omega) ⟨Unit,fun _=>⟨[(2,i64 (m:Nat)),(8,i64 ((m+1:Nat):Int))],[]⟩,fun _ X=>w=X,fun _=>0,(),(cvE rfl rfl),rfl,?_⟩;rintro _ _ rfl;exact brN (Ue (by omega)) ⟨rfl,rfl⟩
theorem zqq{B:Nat}(ho:OwnS zF 3 B w (some ⟨g,0,none⟩) cap l)(fx:ExH w b x q c)(fL:w.heap[L]?=some (.cells #[At0 b] 134 (0,0)))(hT:Tz64M w)(htg:7≠g)(hco:zK x.co.to)(h48:∀a∈l,a<48)(hn:l.length<=20)(hn1:1<=l.length) :
  Calls PG 188 #[.slice (some ⟨g,0,none⟩) l.length cap,i64 l.length,.func (.func 119) #[] #[At0 L]] w fun e w'=>e = .returned (.tuple #[])/\OwnS zF 3 B w' (some ⟨g,0,none⟩) cap (zdT (zcq x) l)/\w.grownBy w' (some g):=by
 by_cases i:l.length<=19
 ·exact zlY ho fx fL hT htg hco h48 i hn1
 have d:l.length=20:=by omega
 refine zD 63 [.slice (some ⟨g,0,none⟩) l.length cap,i64 l.length,.func (.func 119) #[] #[At0 L]] Tryz.func188 ?_;refine⟨Bool,fun k=>⟨[(0,.slice (some ⟨g,0,none⟩) l.length cap),(1,i64 l.length),(2,.func (.func 119) #[] #[At0 L]),(6,i64 20),(7,i64 (if k=true then(0:Nat) else l.length:Nat)),(8,i64 (if k=true then l.length else 40:Nat))],[]⟩,fun k X=>(k=true/\w=X)\/(k=false/\OwnS zF 3 B X (some ⟨g,0,none⟩) cap (zdT (zcq x) l)/\w.grownBy X (some g)),fun k=>if k=true then 1 else 0,true,⟨.cons rfl (.cons rfl (.cons rfl (.cons rfl (.cons rfl (.cons (by rw[d];rfl) .nil))))),rfl⟩,.inl ⟨rfl,rfl⟩,?_⟩;rintro k X (⟨rfl,rfl⟩ | ⟨rfl,h,f⟩)
 ·refine brE (Up (by show((l.length:Nat):Int)<=(l.length:Int);omega)) (cmo (ziT ho fx fL hT htg hco h48 hn hn1) ?_);rintro e X ⟨rfl,h,f⟩;refine⟨40,by rw[d];rfl,?_⟩;exact⟨false,(cvE rfl rfl),.inr ⟨rfl,h,f⟩,by decide⟩
 ·refine brN (Ue (by show ¬((40:Nat):Int)<=(l.length:Int);omega)) (cmo (zoo (m:=l.length) (by omega)) ?_);rintro e _ ⟨rfl,rfl⟩;refine⟨Unit,fun _=>⟨[(1,i64 l.length),(6,i64 20)],[]⟩,fun _ Y=>X=Y,fun _=>0,(),(cvE rfl rfl),rfl,?_⟩;rintro _ _ rfl;exact brN (Ue (by omega)) ⟨rfl,h,f⟩
theorem zjG{B:Nat}(ho:OwnS zF 3 B w (some ⟨g,0,none⟩) cap l)(fx:ExH w b x q c)(fL:w.heap[L]?=some (.cells #[At0 b] 134 (0,0)))(hT:Tz64M w)(htg:7≠g)(hco:zK x.co.to)(h48:∀a∈l,a<48)(hn:l.length<=20)(hn1:1<=l.length) :
  Calls PG 118 #[.slice (some ⟨g,0,none⟩) l.length cap,.func (.func 119) #[] #[At0 L]] w fun e w'=>e = .returned (.tuple #[])/\OwnS zF 3 B w' (some ⟨g,0,none⟩) cap (zdT (zcq x) l)/\w.grownBy w' (some g):=by
 refine zD 9 [.slice (some ⟨g,0,none⟩) l.length cap,.func (.func 119) #[] #[At0 L]] Tryz.func118 ?_;refine cmo (zqq ho fx fL hT htg hco h48 hn hn1) ?_;rintro e X ⟨rfl,d,f⟩;exact⟨rfl,d,f⟩
theorem zrb{l:List Nat}(h:0<l.length):l.headD 48=l[0]:=by
 cases l with
 | nil=>simp at h
 | cons a r=>rfl
theorem zrM{k a:Nat}(h:a∈qa x k):a<x.ev.length:=by
 unfold qa at h;exact Ul.1 (QO.1 h).1
theorem zpf{k a:Nat}(h:a∈zR x k):a<x.ev.length:=zrM (zgl.1 h)
theorem zxc(q:OA)(c:Nat):((exC x q c).drop 99).take 49=zf x.co:=by
 obtain⟨A,T,d,a⟩:=zov x q c;show((exC { x with co:=x.co } q c).drop 99).take 49=_;rw[a,<- d,Ui,Jg (by rw[zg];decide),JE (by rw[zg];decide)]
theorem zvu(q:OA)(c:Nat):((exC x q c).drop 327).take 6=seg 6 fun i=>u8 (x.mem i):=by
 obtain⟨A,T,d,a⟩:=ztm x q c [];have:=a x.mem;rw[QG] at this;show((exC { x with mem:=x.mem } q c).drop 327).take 6=_;rw[this,<- d,Ui,Jg (by rw[zB];decide),JE (by rw[zB];decide)]
abbrev zt9 (X:Wd) (b:Nat) (f:Nat->UInt8):Prop:=X.heap[b]?=some (.cells (seg 6 fun i=>u8 (f i)).toArray 50 (0,0))
theorem zrp{locs:Nat}(fx:ExH w b x q c)(hv:ExW w x q)(hlo:locs<=6)(hne:∀l,l<locs->qa x l≠[])(hT:Tz64M w) :
  CB 59 #[At0 b,i64 locs] w (.bool (zai x locs)):=by
 refine qA 87 [At0 b,i64 locs] (.c .p (.c .p (.c .p (.c .p .p)))) Tryz.func59 ?_;obtain⟨L,hL⟩:=nm (w.heap.size);have b9:=hlt fx;have hn:=hv.n;have b4:=zbn hT;refine⟨Unit,fun _=>⟨[(1,i64 locs),(2,At0 L)],[]⟩,fun _ X=>X.heap[L]?=some (.cells #[At0 b] 134 (0,0))/\X.heap.size=L+1/\Bw w X,⟨(),⟨.cons rfl (.cons (by rw[hL];rfl) .nil),rfl⟩,by rw[hL];exact zt w _,by rw[hL];exact wz _ _,(zba w _)⟩,?_⟩;rintro _ X ⟨fL,sX,z⟩;refine⟨Unit,fun _=>⟨[(1,i64 locs),(2,At0 L),(5,At0 (L+1))],[]⟩,fun _ Y=>qb Y (L+1) ⟨x.ev.length,fun _=>0⟩/\Y.heap.size=L+2/\Bw X Y,?_,?_⟩
 ·refine⟨_,zc (za fL) (i:=0) rfl,_,zc (za (zb z fx)) (i:=0) rfl,zf ⟨x.ev.length,fun _=>0⟩,by kernel_rfl,?_⟩;refine zo (X:=X) (v := .agg (zf ⟨x.ev.length,fun _=>0⟩).toArray) k76 (zg _) (by kernel_rfl) (zH _) fun Z d fZ sZ=>?_;rw[sX] at fZ sZ;exact⟨(),⟨.cons rfl (.cons rfl (.cons (by rw[<- sX];rfl) .nil)),rfl⟩,fZ,sZ,d⟩
 rintro _ Y ⟨fT,sY,am⟩;refine⟨Unit,fun _=>⟨[(1,i64 locs),(2,At0 L),(5,At0 (L+1)),(6,At0 (L+2))],[]⟩,fun _ Z=>zt9 Z (L+2) (fun _=>0)/\qb Z (L+1) ⟨x.ev.length,fun _=>0⟩/\Z.heap[L]?=some (.cells #[At0 b] 134 (0,0))/\Z.heap.size=L+3/\Bw w Z,?_,?_⟩
 ·exact⟨(),⟨.cons rfl (.cons rfl (.cons rfl (.cons (by rw[<- sY];rfl) .nil))),rfl⟩,by rw[<- sY];exact zt Y _,qO _ fT,qO _ (zb am fL),by rw[wz,sY],((zst z am)).alloc (by have:=z.size;have:=am.size;omega) _⟩
 clear fL sX z fT sY am;clear X Y;rintro _ X ⟨fM,fT,fL,sX,z⟩;obtain⟨P0,au⟩:∃P0:RelD×(Nat->UInt8),P0=(⟨x.ev.length,fun _=>0⟩,fun _=>0):=⟨_,rfl⟩;have bf:zai x locs=match zf1 x locs 0 P0 with
  | none=>false
  | some p=>jy p.1 x.co&&(List.range 6).all fun l=>decide (p.2 l=x.mem l):=by rw [au];rfl
 refine⟨RelD×(Nat->UInt8),fun P=>⟨[(2,At0 L),(5,At0 (L+1)),(6,At0 (L+2))],[]⟩,fun P Z=>zf1 x locs 0 P0=some P/\zt9 Z (L+2) P.2/\qb Z (L+1) P.1/\Z.heap[L]?=some (.cells #[At0 b] 134 (0,0))/\Bw w Z,?_,?_⟩
 ·refine⟨Nat×(RelD×(Nat->UInt8)),fun s=>⟨[(2,At0 L),(5,At0 (L+1)),(6,At0 (L+2)),(17,i64 locs),(18,i64 (s.1:Nat))],[]⟩,fun s Z=>s.1<=locs/\zf1 x (locs-s.1) s.1 s.2=zf1 x locs 0 P0/\zK s.2.1.to/\zt9 Z (L+2) s.2.2/\qb Z (L+1) s.2.1/\Z.heap[L]?=some (.cells #[At0 b] 134 (0,0))/\Bw w Z/\L+3<=Z.heap.size,fun s=>locs-s.1,(0,P0),
   (cvE rfl rfl),⟨UZ _,rfl,by rw[au];exact fun i _=>(by show 0<_;decide),by rw[au];exact fM,by rw[au];exact fT,fL,z,by omega⟩,?_⟩
  clear fM fT fL sX z;rintro⟨l,P⟩ Z ⟨hl,y,a1,fM,fT,fL,d,sZ⟩;dsimp only at hl y a1 fM fT sZ ⊢;refine biE (fun hc=>?_) fun hc=>?_
  ·have hc:(l:Int)<(locs:Int):=dT hc;have a9:l<locs:=by omega
   have aj:zf1 x (locs-l) l P=if(zR x l).headD 48=l then zf1 x (locs-(l+1)) (l+1) (zaj (zR x l) P.1,upd P.2 l (zcG x.ev (zR x l))) else none:=by
    rw[show locs-l=(locs-(l+1))+1 by omega];rfl
   refine⟨_,zc (za fL) (i:=0) rfl,_,zc (za (zb d fx)) (i:=0) rfl,?_⟩;obtain⟨f,a8⟩:∃f:Nat->Bool,f=fun i=>decide ((evA x i).k=2)&&decide ((evA x i).l.toNat=l):=⟨_,rfl⟩;refine⟨Nat×OA×Nat,fun s=>⟨[(2,At0 L),(5,At0 (L+1)),(6,At0 (L+2)),(7,i64 (l:Nat)),(8,.slice s.2.1 ((List.range s.1).filter f).length s.2.2),(17,i64 locs),(18,i64 (l:Nat)),(24,.slice q x.ev.length c),(25,i64 x.ev.length),(26,i64 (s.1:Nat))],[]⟩,fun s V=>s.1<=x.ev.length/\OwnS zF 3 Z.heap.size V s.2.1 s.2.2 ((List.range s.1).filter f)/\Bw Z V,fun s=>x.ev.length-s.1,(0,none,0),
    (cvE rfl rfl),⟨UZ _,OwnS.nil,Gb _ _⟩,?_⟩
   rintro⟨k,ps,cs⟩ V ⟨hk,oV,ac⟩;dsimp only at hk oV ⊢;have bb:=ac.size;refine biE (fun hc=>?_) fun hc=>?_
   ·have hc:(k:Int)<(x.ev.length:Int):=dT hc;have aq:k<x.ev.length:=(by omega);have aa:=zst d ac;obtain⟨bq,oq,al,hb,a3⟩:=zcX (hv.ev.below aa) aq;rw[zfj] at a3;have ap:(List.range (k+1)).filter f=(List.range k).filter f++if f k=true then[k] else[]:=by
     rw[QS,Kw,Qk,List.filter_nil]
    have ab:f k=(decide ((evA x k).k=2)&&decide ((evA x k).l.toNat=l)):=(by rw[a8]);have b0:((List.range k).filter f).length<=k:=by
     have:=JK f (List.range k);rw[KU] at this;exact this
    obtain⟨e,he⟩:=nm (evA x k);rw[<- he] at a3 ab;have b3:some (Value.slice q x.ev.length c)=some (Value.slice (some ⟨bq,oq,none⟩) x.ev.length c):=(by rw[al]);subst al;refine⟨k,rfl,aq,evE.enc e,rfl,a3,hb,zo (X:=V) (v := .agg (evE.enc e).toArray) k80 rfl rfl (Qg.2 fun u hu=>evE.one e u hu) fun U r fU sU=>?_⟩;have fU:U.heap[V.heap.size]?=some (.cells (evE.enc e).toArray 80 (0,0)):=fU;have oU:=oV.below r;have ad:=ac.trans (r.mono bb);have bk:=ad.size;have ay:f k=false->(k+1<=x.ev.length/\OwnS zF 3 Z.heap.size U ps cs ((List.range (k+1)).filter f)/\Bw Z U):=fun h=>⟨aq,by rw[ap,h];simpa using oU,ad⟩;have ai:f k=false->((List.range (k+1)).filter f).length=((List.range k).filter f).length:=fun h=>by rw[ap,h];simp
    refine⟨u8 e.k,zc (za fU) (i:=1) rfl,biE (fun h1=>?_) fun h1=>?_⟩
    ·have h1:e.k=2:=qS.1 (dT h1);refine⟨u8 e.l,zc (za fU) (i:=2) rfl,(e.l.toNat:Int),jh _,biE (fun h2=>?_) fun h2=>?_⟩
     ·have h2:(e.l.toNat:Int)=(l:Int):=dT h2;have bl:f k=true:=(by rw[ab,Up h1,Up (by omega:e.l.toNat=l)];rfl);rw[Gn bl] at ap;refine⟨⟨by decide,by decide,rfl⟩,zF.enc k,rfl,?_⟩;have ar:Bw U (U.alloc (.cells (zF.enc k).toArray 3)):=zba _ _;have b5:=ar.size;unfold zd1 zaN;show SatR _ _;refine zrE (oU.below ar) (q9 zF k) (by omega) (by omega) fun p' c' S oS gS b1=>?_;rw[za4] at gS;rw[<- ap] at oS ⊢;exact nxI (by omega) ⟨(k+1,p',c'),(cvE rfl rfl),⟨aq,oS,ad.trans ((ar.mono bk).trans (jo (oU.below ar) (by omega) (UW _) gS))⟩,zdc (by omega)⟩
     ·have h2:¬(e.l.toNat:Int)=(l:Int):=dF h2;have ae:f k=false:=(by rw[ab,Ue (by omega:¬e.l.toNat=l),Uf]);exact nxI (by omega) ⟨(k+1,ps,cs),⟨.cons rfl (.cons rfl (.cons rfl (.cons rfl (.cons (by show _=some (Value.slice ps ((List.range (k+1)).filter f).length cs);rw[ai ae];rfl) (.cons rfl (.cons rfl (.cons rfl (.cons rfl (.cons rfl .nil))))))))),rfl⟩,ay ae,zdc (by omega)⟩
    ·have h1:¬e.k=2:=fun e2=>(dF h1) (by rw[e2];rfl);have ae:f k=false:=(by rw[ab,Ue h1];rfl);exact brF (nxI (by omega) ⟨(k+1,ps,cs),⟨.cons rfl (.cons rfl (.cons rfl (.cons rfl (.cons (by show _=some (Value.slice ps ((List.range (k+1)).filter f).length cs);rw[ai ae];rfl) (.cons rfl (.cons rfl (.cons rfl (.cons rfl (.cons rfl .nil))))))))),rfl⟩,ay ae,zdc (by omega)⟩)
   have hc:¬(k:Int)<(x.ev.length:Int):=dF hc;obtain rfl:k=x.ev.length:=by omega
   have bw:(List.range x.ev.length).filter f=qa x l:=by rw[a8];rfl
   rw[bw] at oV ⊢;have a4:=hne l a9;have bv:1<=(qa x l).length:=List.length_pos_iff.2 a4;have be:(qa x l).length<=20:=hv.w20 l;have bx:∃g,ps=some ⟨g,0,none⟩:=by
    rcases oV.inv with⟨_,_,h⟩ | ⟨g,b2,h,_⟩
    ·exact(a4 h).elim
    ·exact⟨g,h⟩
   obtain⟨g,rfl⟩:=bx;have hg:=(zz oV rfl).1;have hg:Z.heap.size<=g:=hg;have aa:=zst d ac;have bi:=d.size;refine cmo (zjG oV (zb aa fx) (zb ac fL) (hT.below aa) (by omega) hv.co (fun a ha=>by have:=zrM ha;omega) be bv) ?_;rintro e U ⟨rfl,oU,gU⟩;have oU:OwnS zF 3 Z.heap.size U (some ⟨g,0,none⟩) cs (zR x l):=oU;have bn:(zR x l).length=(qa x l).length:=zqt _;have r:Bw Z U:=ac.trans (zl gU bb hg);have ag:=d.trans (r.mono bi);have ak:0<(zR x l).length:=by omega
   obtain⟨bq,oq,al,bp,bc⟩:=oU.row.at ak;have bt:bq=g/\oq=0:=by simpa using al.symm
   obtain⟨rfl,rfl⟩:=bt;rw[<- bn];have hh:(zR x l).headD 48=(zR x l)[0]:=zrb ak;refine⟨0,rfl,ak,i64 (zR x l)[0],by have:=zc (bc 0 ak) (i:=0) (v:=i64 (zR x l)[0]) rfl;exact this,biE (fun h=>?_) fun h=>?_⟩
   ·have h:(!decide (((zR x l)[0]:Int)=(l:Int)))=true:=h;have h:¬((zR x l)[0]:Int)=(l:Int):=(by simpa using h);rw[aj,Gm (by rw[hh];omega)] at y;refine⟨rb ?_,ag⟩;rw[bf,<- y]
   have h:(!decide (((zR x l)[0]:Int)=(l:Int)))=false:=h;have h:((zR x l)[0]:Int)=(l:Int):=by simpa using h
   rw[aj,Gn (by rw[hh];omega)] at y;have ba:=zb r fT;have bu:RelAt U (L+1) 0 76 [] [] P.1:=⟨rfl,by simpa using ba⟩;have ah:∀a∈zR x l,a<48:=fun a ha=>by have:=zpf ha;omega
   have cb:=hlt fT;have bz:=hlt fM;refine cmo (zsV bu a1 oU.row (fun a ha=>by cases ha;exact⟨bp,by show bq≠L+1;omega⟩) (by omega) ah) ?_;rintro e S ⟨rfl,br,gS⟩;have a6:qb S (L+1) (zaj (zR x l) P.1):=by simpa using br.cells
   have an:Bw w S:=ag.trans (zl gS ag.size (by omega));have bo:=(gS.block (L+2) (hlt (zb r fM)) (by simp)).trans (zb r fM);have a2:=(gS.block L (hlt (zb r fL)) (by simp)).trans (zb r fL);have oS:=qN oU ba (by decide) gS;obtain⟨j,hj⟩:∃j,j+1=(zR x l).length:=⟨(zR x l).length-1,by omega⟩;have af:j<(zR x l).length:=by omega
   obtain⟨b6,o6,bm,ca,a7⟩:=oS.row.at af;have a5:b6=bq/\o6=0:=by simpa using bm.symm
   obtain⟨rfl,rfl⟩:=a5;obtain⟨t,ht⟩:∃t,(zR x l)[j]=t:=⟨_,rfl⟩;have aw:t<x.ev.length:=zpf (by rw[<- ht];exact gM af);have a0:(zR x l).getLastD 0=t:=by
    rw[List.getLastD_eq_getLast?,List.getLast?_eq_getElem?,show(zR x l).length-1=j by omega,gE af,ht];rfl
   obtain⟨b7,o7,bj,b8,az⟩:=zcX (hv.ev.below an) aw;rw[zfj] at az;have bh:zcG x.ev (zR x l)=(evA x t).v:=by
    show(x.ev.getD ((zR x l).getLastD 0) ev0).v=_;rw[a0];rfl
   have dS:Bw S S.drew:=(Gb _ _).drew;refine DrawE.ord [15] [0,1,2,3,4,5,6,7,8,9,10,11,12,13,14,15] (by kernel_rfl) ⟨_,zc (za (hdr a2)) (i:=0) rfl,_,zc (za (hdr (zb an fx))) (i:=0) rfl,(j:Nat),(ze (by omega)).trans (by omega),j,rfl,af,i64 t,by have:=zc (zw dS (a7 j af)) (i:=0) (v:=i64 t) (by rw[ht];rfl);exact this,?_⟩;rw[bj];refine⟨t,rfl,aw,u8 (evA x t).v,by have:=zc (zw dS az) (i:=3) (v:=u8 (evA x t).v) rfl;exact this,l,rfl,by omega,?_⟩;refine zm k5 (hdr bo) (o:=0+l*1) (v:=u8 (evA x t).v) rfl rfl (by rw[zB];omega) rfl fun T bd gT sT=>?_;have ao:S.grownBy T (some (L+2)):=zd (zi dS) gT;have e8:=zhA (n:=6) (fun i=>u8 (P.2 i)) (fun i=>u8 (upd P.2 l (evA x t).v i)) (i:=l) (by omega) rfl (fun j hj=>by rw[qx _ _ hj]);rw[zN] at e8;rw[UX,UQ,e8] at bd;exact nxI (by omega) ⟨(l+1,(zaj (zR x l) P.1,upd P.2 l (evA x t).v)),(cvE rfl rfl),⟨a9,by rw[<- bh];exact y,zj8 a1 ah,bd,(ao.block (L+1) (hlt a6) (by simp)).trans a6,(ao.block L (hlt a2) (by simp)).trans a2,an.trans (zl ao an.size (by omega)),by have:=ao.size;have:=gS.size;have:=r.size;omega⟩,zdc (by omega)⟩
  ·have hc:¬(l:Int)<(locs:Int):=dF hc;obtain rfl:l=locs:=by omega
   rw[UN] at y;exact⟨P,(cvE rfl rfl),y.symm,fM,fT,fL,d⟩
 rintro P Z ⟨y,fM,fT,fL,d⟩;have ax:zai x locs=(jy P.1 x.co&&(List.range 6).all fun l=>decide (P.2 l=x.mem l)):=by rw[bf,y]
 refine DrawE.ord [] [0,1,2,3,4,5,6,7,8,9,10,11,12,13,14,15] (by kernel_rfl) ?_;have dZ:Bw Z Z.drew:=(Gb _ _).drew;refine⟨zf P.1,zg _,za (hdr fT),hlt (hdr fT),_,zc (za (hdr fL)) (i:=0) rfl,?_⟩;have av:=hdr (zb d fx);refine⟨zf x.co,zg _,by have h:=zP (n:=99) (m:=49) (za av);rw[show(exC x q c).toArray.toList=exC x q c from rfl,zxc] at h;exact h,hlt av,_,fun w=>zpW _ _ P.1 x.co w,?_⟩;have bg:Bw w Z.drew:=zst d dZ;refine biE (fun h=>?_) fun h=>?_
 ·have h:jy P.1 x.co=true:=h;exact⟨seg 6 (fun i=>u8 (P.2 i)),zB _ _,za (hdr fM),hlt (hdr fM),_,zc (za (hdr fL)) (i:=0) rfl,seg 6 (fun i=>u8 (x.mem i)),zB _ _,by have h:=zP (n:=327) (m:=6) (za av);rw[show(exC x q c).toArray.toList=exC x q c from rfl,zvu] at h;exact h,hlt av,_,fun w=>ztq _ _ P.2 x.mem w,rb (by rw[ax,h,Uv]),bg⟩
 ·have h:jy P.1 x.co=false:=h;exact⟨rb (by rw[ax,h,Ug]),bg⟩
end
section
variable{b c:Nat}{x:ExD}{q:OA}{w:Wd}
theorem zkY{X:Wd}{o:Nat}{A T:List Value}{r:RelD}(fx:ExH X b x q c)(hA:A.length=o)(hE:exC x q c=A++(zf r++T)){i:Nat}(hi:i<48):X.cell? ⟨b,o+1+i*1,none⟩=some (s64 (r.to i)):=by
 have a:RelAt X b o 78 A T r:=⟨hA,by rw[<- hE];exact fx⟩;exact a.cell hi
theorem zwP{X:Wd}(fx:ExH X b x q c){i:Nat}(hi:i<48):X.cell? ⟨b,0+1+1+i*1,none⟩=some (s64 (x.po.to i)):=by
 obtain⟨A,T,d,a⟩:=zpQ x q c [];exact zkY fx d (by rw[<- a,QG]) hi
theorem zxg{X:Wd}(fx:ExH X b x q c){i:Nat}(hi:i<48):X.cell? ⟨b,0+148+1+i*1,none⟩=some (s64 (x.dt.to i)):=by
 obtain⟨A,T,d,a⟩:=zpR x q c [];exact zkY fx d (by rw[<- a,QG]) hi
theorem zxq{X:Wd}(fx:ExH X b x q c){i:Nat}(hi:i<48):X.cell? ⟨b,0+197+1+i*1,none⟩=some (s64 (x.ct.to i)):=by
 obtain⟨A,T,d,a⟩:=zpS x q c [];exact zkY fx d (by rw[<- a,QG]) hi
theorem zwH{X:Wd}(fx:ExH X b x q c){i:Nat}(hi:i<48):X.cell? ⟨b,0+246+1+i*1,none⟩=some (s64 (x.rm.to i)):=by
 obtain⟨A,T,d,a⟩:=zpP x q c [];exact zkY fx d (by rw[<- a,QG]) hi
theorem n64{a b:Nat}(h:(!decide ((a:Int)=(b:Int)))=true):¬a=b:=fun e=>by
 rw[e] at h;simp at h
theorem y64{a b:Nat}(h:(!decide ((a:Int)=(b:Int)))=false):a=b:=by
 have h:(a:Int)=(b:Int):=by simpa using h
 exact Uw h
theorem n8{a d:UInt8}(h:(!decide ((a.toNat:Int)=(d.toNat:Int)))=true):¬a=d:=fun e=>by
 rw[e] at h;simp at h
theorem y8{a d:UInt8}(h:(!decide ((a.toNat:Int)=(d.toNat:Int)))=false):a=d:=qS.1 (by simpa using h)
def wrG (x:ExD) (k:Nat):Nat:=(List.range k).foldl (fun s i=>if(evA x i).k=2 then s|||2^i else s) 0
theorem zlP(x:ExD)(k:Nat):wrG x (k+1)=if(evA x k).k=2 then wrG x k|||2^k else wrG x k:=by
 unfold wrG;rw[QS,KS];rfl
theorem zkG(x:ExD):∀k,k<=64->wrG x k<2^64
 | 0,_=>by show 0<_;decide
 | k+1,h=>by
  rw[zlP]
  split
  ·exact KX (zkG x k (by omega)) (qc (by omega))
  ·exact zkG x k (by omega)
theorem zoy(fx:ExH w b x q c)(hv:ExW w x q)(hrn:x.rm.n=x.ev.length)(hok:okR x.rm=true)(hT:Tz64M w) :
  CB 60 #[At0 b] w (.bool (zaY x)):=by
 refine qA 130 [At0 b] (.s .p (.s .p (.c .p .p))) Tryz.func60 ?_;have hn:=hv.n;obtain⟨W,hW⟩:=nm (zbm x);have ar:W=wrG x x.ev.length:=by rw[hW];rfl
 have a0:W<2^64:=by rw[ar];exact zkG x _ (by omega)
 refine⟨Unit,fun _=>⟨[(0,At0 b),(3,s64 W),(4,s64 0)],[]⟩,fun _ X=>Bw w X,?_,?_⟩
 ·refine⟨_,zc (za fx) (i:=0) rfl,?_⟩;refine⟨Nat,fun k=>⟨[(0,At0 b),(3,s64 (wrG x k)),(4,s64 0),(17,.slice q x.ev.length c),(18,i64 x.ev.length),(19,i64 (k:Nat))],[]⟩,fun k X=>k<=x.ev.length/\Bw w X,fun k=>x.ev.length-k,0,
   (cvE rfl rfl),⟨UZ _,Gb _ _⟩,?_⟩
  rintro k X ⟨hk,o⟩;dsimp only;refine biE (fun hc=>?_) fun hc=>?_
  ·have hc:(k:Int)<(x.ev.length:Int):=dT hc;have m:k<x.ev.length:=by omega
   obtain⟨bq,oq,al,hb,ab⟩:=zcX (hv.ev.below o) m;rw[zfj] at ab;obtain⟨e,he⟩:=nm (evA x k);have hs:=zlP x k;rw[<- he] at ab hs;subst al;refine⟨k,rfl,m,evE.enc e,rfl,ab,hb,zo (X:=X) (v := .agg (evE.enc e).toArray) k80 rfl rfl (Qg.2 fun u hu=>evE.one e u hu) fun Y ap fY sY=>?_⟩;have fY:Y.heap[X.heap.size]?=some (.cells (evE.enc e).toArray 80 (0,0)):=fY;have aa:=zst o ap;refine⟨u8 e.k,zc (za fY) (i:=1) rfl,biE (fun h=>?_) fun h=>?_⟩
   ·have h:e.k=2:=qS.1 (dT h);rw[Gn h] at hs;exact⟨by omega,((2^k:Nat):Int),zab (e:=k) (by omega),((wrG x k|||2^k:Nat):Int),zau (zkG x k (by omega)) (qc (by omega)),nxI (by omega) ⟨k+1,⟨.cons rfl (.cons (by show _=some (s64 (wrG x (k+1)));rw[hs];rfl) (.cons rfl (.cons rfl (.cons rfl (.cons rfl .nil))))),rfl⟩,⟨m,aa⟩,zdc (by omega)⟩⟩
   ·have h:¬e.k=2:=fun e2=>(dF h) (by rw[e2];rfl);rw[Gm h] at hs;exact nxI (by omega) ⟨k+1,⟨.cons rfl (.cons (by show _=some (s64 (wrG x (k+1)));rw[hs];rfl) (.cons rfl (.cons rfl (.cons rfl (.cons rfl .nil))))),rfl⟩,⟨m,aa⟩,zdc (by omega)⟩
  ·have hc:¬(k:Int)<(x.ev.length:Int):=dF hc;obtain rfl:k=x.ev.length:=by omega
   exact⟨(),⟨.cons rfl (.cons (by show _=some (s64 W);rw[ar];rfl) (.cons rfl .nil)),rfl⟩,o⟩
 rintro _ X o;refine⟨_,zc (za (zb o fx)) (i:=0) rfl,?_⟩;have aq:zaY x=zbS x W 0 x.ev 0:=by rw[hW];rfl
 refine⟨Nat×Nat,fun s=>⟨[(0,At0 b),(3,s64 W),(4,s64 s.2),(35,.slice q x.ev.length c),(36,i64 x.ev.length),(37,i64 (s.1:Nat))],[]⟩,fun s X=>s.1<=x.ev.length/\zbS x W s.1 (x.ev.drop s.1) s.2=zaY x/\s.2<2^64/\Bw w X,fun s=>x.ev.length-s.1,(0,0),
  (cvE rfl rfl),⟨UZ _,aq.symm,by decide,o⟩,?_⟩
 clear o;rintro⟨k,h⟩ X ⟨hk,g,hh,o⟩;dsimp only at hk g hh ⊢;refine biE (fun hc=>?_) fun hc=>?_
 ·have hc:(k:Int)<(x.ev.length:Int):=dT hc;have m:k<x.ev.length:=by omega
  have j:k<48:=by omega
  obtain⟨bq,oq,al,hb,ab⟩:=zcX (hv.ev.below o) m;rw[zfj] at ab;obtain⟨e,he⟩:=nm (evA x k);rw[<- he] at ab;have ay:x.ev.drop k=e::x.ev.drop (k+1):=by
   rw[<- JD m,he];unfold evA;rw[gDe,gE m];rfl
  rw[ay] at g;unfold zbS at g;obtain⟨d,hd⟩:=nm (x.dt.to k);obtain⟨t,ht⟩:=nm (x.ct.to k);obtain⟨r,hr⟩:=nm (x.rm.to k);obtain⟨po,ao⟩:=nm (x.po.to k);dsimp only at g;rw[<- hd,<- ht,<- hr,<- ao] at g;have ae:d<2^64:=by rw[hd];exact hv.dt k j
  have an:t<2^64:=by rw[ht];exact hv.ct k j
  have y:r<2^64:=by rw[hr];exact hv.rm k j
  have a2:po<2^64:=by rw[ao];exact hv.po k j
  have ah:=KX ae an;have ak:=KX ah y;have az:=KX ae y;subst al;refine⟨k,rfl,m,evE.enc e,rfl,ab,hb,zo (X:=X) (v := .agg (evE.enc e).toArray) k80 rfl rfl (Qg.2 fun u hu=>evE.one e u hu) fun Y ap fY sY=>?_⟩;have fY:Y.heap[X.heap.size]?=some (.cells (evE.enc e).toArray 80 (0,0)):=fY;have aa:=zst o ap;have dY:Bw Y Y.drew:=(Gb _ _).drew;have ai:=hdr (zb aa fx);have aw:=hdr fY;have ad:=zst aa dY;have no:∀{Z:Wd},Bw w Z->zaY x=false->(Ending.returned (.bool false)=Ending.returned (.bool (zaY x))/\Bw w Z):=fun{Z} hb h=>⟨rb h.symm,hb⟩;refine DrawE.ord [] [0,1,2,3,4,5,6,7,8,9,10,11,12,13,14,15,16,17,18,19,20,21,22,23] (by kernel_rfl) ⟨k,rfl,j,s64 d,by rw[hd];exact zxg ai j,?_⟩;refine⟨k,rfl,j,s64 t,by rw[ht];exact zxq ai j,?_⟩;refine⟨k,rfl,j,s64 r,by rw[hr];exact zwH ai j,?_⟩;refine⟨_,zau ae an,_,zau ah y,biE (fun h1=>?_) fun h1=>?_⟩
  ·have h1:d|||t|||r=0:=Uw (dT h1);rw[Gn h1] at g;exact nxI (by omega) ⟨(k+1,h),(cvE rfl rfl),⟨m,g,hh,ad⟩,zdc (by omega)⟩
  have h1:¬d|||t|||r=0:=fun e2=>(dF h1) (by rw[e2];rfl);rw[Gm h1] at g;refine⟨u8 e.k,zc (za aw) (i:=1) rfl,biE (fun h2=>?_) fun h2=>?_⟩
  ·have h2:¬e.k=1:=n8 (d:=1) h2;rw[Gm fun h=>h2 h.1] at g;exact brT (brT (no ad g.symm))
  have h2:e.k=1:=y8 (d:=1) h2;refine⟨_,zau ae y,_,zc0 az a0,biE (fun h3=>?_) fun h3=>?_⟩
  ·have h3:¬je (d|||r) W=0:=n64 (b:=0) h3;rw[Gm fun h=>h3 h.2.1] at g;exact brT (no ad g.symm)
  have h3:je (d|||r) W=0:=y64 (b:=0) h3;refine⟨_,zau ae an,_,zau ah y,k,rfl,j,s64 po,by rw[ao];exact zwP ai j,?_⟩;refine⟨_,zc0 ak a2,biE (fun h4=>?_) fun h4=>?_⟩
  ·have h4:¬je (d|||t|||r) po=0:=n64 (b:=0) h4;rw[Gm fun h=>h4 h.2.2] at g;exact no ad g.symm
  have h4:je (d|||t|||r) po=0:=y64 (b:=0) h4;rw[Gn ⟨h2,h3,h4⟩] at g;refine cmo (zbu y (hT.below ad)) ?_;rintro e2 Z ⟨rfl,av⟩;have aj:=zst ad av;by_cases af:r=0
  ·have e1:(els r).isEmpty=true:=by rw[af];rfl
   rw[e1];rw[Gn af] at g;exact brF (nxI (by omega) ⟨(k+1,h),(cvE rfl rfl),⟨m,g,hh,aj⟩,zdc (by omega)⟩)
  rw[Gm af] at g;obtain⟨a4,a1⟩:=zcr af y;rw[a4,a1];have au:=zhO af y;have ax:r.testBit (ctz r)=true:=(jf.1 au).2;have am:ctz r<x.ev.length:=by
   have:=(zla hok hv.rm j (by rw[<- hr];exact ax)).1;rw[hrn] at this;omega
  obtain⟨v,a3⟩:=nm (ctz r);rw[<- a3] at am g ⊢;refine brT ?_;have fZ:=zb av aw;have dZ:Bw Z Z.drew:=(Gb _ _).drew;have z:=zst aj dZ;refine DrawE.ord [] [0,1,2,3,4,5,6,7,8,9,10,11,12,13,14,15,16,17,18,19,20,21,22,23] (by kernel_rfl) ⟨by omega,((2^v:Nat):Int),zab (e:=v) (by omega),biE (fun h5=>?_) fun h5=>?_⟩
  ·have h5:¬r=2^v:=n64 h5;rw[Gm fun h=>h5 h.1] at g;exact brT (brT (no z g.symm))
  have h5:r=2^v:=y64 h5;refine⟨by omega,_,zhw (a:=h) (k:=v) (by omega),_,zac (a:=h/2^v) (b:=1) (KF (Nat.div_le_self _ _) hh) (by decide),?_⟩;rw[zlE]
  cases hb5:h.testBit v with
  | true =>
   rw[Gm fun h=>(by rw[hb5] at h;cases h.2.1)] at g;exact brT (brT (no z g.symm))
  | false =>
   refine brF ?_;obtain⟨a5,a6,ag,a7,ac⟩:=zcX (hv.ev.below z) am;rw[zfj] at ac;obtain⟨f,hf⟩:=nm (evA x v);rw[<- hf] at ac g;refine⟨_,zc (za (zb z fx)) (i:=0) rfl,v,rfl,am,?_⟩;simp only[KY,Ur,Gh] at ag;rw[<- ag.1,<- ag.2] at ac;refine⟨u8 f.l,by have:=zc ac (i:=2) (v:=u8 f.l) rfl;exact this,u8 e.l,zc (za (hdr fZ)) (i:=2) rfl,biE (fun h6=>?_) fun h6=>?_⟩
   ·have h6:¬f.l=e.l:=n8 h6;rw[Gm fun h=>h6 h.2.2] at g;exact no z g.symm
   have h6:f.l=e.l:=y8 h6;rw[Gn ⟨h5,hb5,h6⟩] at g;exact⟨_,zau hh y,nxI (by omega) ⟨(k+1,h|||r),(cvE rfl rfl),⟨m,g,KX hh y,z⟩,zdc (by omega)⟩⟩
 ·have hc:¬(k:Int)<(x.ev.length:Int):=dF hc;obtain rfl:k=x.ev.length:=by omega
  rw[Qj] at g;exact⟨rb g,o⟩
end
theorem zmW{locs:Nat}:∀(ev:List Ev) (i:Nat) (t:Int) (n:Nat),zct locs i ev t n=true->∀j,i+j<locs->j<ev.length->∃v,ev.getD j ev0=⟨-1,2,UInt8.ofNat (i+j),v,0,0,0⟩
 | [],_,_,_,_,_,_,h=>by simp at h
 | e::ev,i,t,n,h,j,hj,hl=>by
  unfold zct at h;rw[Gn (by omega:i<locs)] at h;by_cases a:e=⟨-1,2,UInt8.ofNat i,e.v,0,0,0⟩
  ·rw[Gn a] at h
   cases j with
   | zero=>exact⟨e.v,by rw [UK];exact a⟩
   | succ j =>
    obtain⟨v,b⟩:=zmW ev (i+1) t n h j (by omega) (by simpa using hl);exact⟨v,by rw[show i+(j+1)=i+1+j by omega];exact b⟩
  ·rw[Gm a] at h;cases h
theorem zmK(ev:List Ev):qz ev<=ev.length:=by
 unfold qz
 induction ev with
 | nil=>exact UW _
 | cons e ev ih =>
  rw[Ko]
  split
  ·rw[Qp,Qp];omega
  ·exact UZ _
theorem zrL{x:ExD}{locs:Nat}(h:jE x.ev locs=true)(hl:locs<=x.ev.length)(h6:locs<=6):∀l,l<locs->qa x l≠[]:=by
 intro l e b;obtain⟨v,a⟩:=zmW x.ev 0 0 0 h l (by omega) (by omega);have:l∈qa x l:=by
  unfold qa;rw[QO,Ul];refine⟨by omega,?_⟩;have d:evA x l=⟨-1,2,UInt8.ofNat (0+l),v,0,0,0⟩:=a;rw[d,bAT,dE,dE];refine⟨rfl,?_⟩;show(UInt8.ofNat (0+l)).toNat=l;rw[UQ,KH];exact Qz (by omega)
 rw[b] at this
 cases this
abbrev zdM (x:ExD):List RelD:=[x.po,x.rf,x.co,x.dt,x.ct,x.rm]
theorem zvt(x:ExD)(q:OA)(c:Nat){i:Nat}(hi:i<6):((exC x q c).drop (1+49*i)).take 49=zf ((zdM x).getD i x.po):=by
 have g:∀{A T:List Value} {o:Nat} {r:RelD},A.length=o->exC x q c=A++(zf r++T)->((exC x q c).drop o).take 49=zf r:=fun{A T o r} b a=>by
  rw[a,<- b,Ui,Jg (by rw[zg];decide),JE (by rw[zg];decide)]
 match i,hi with
 | 0,_=>obtain⟨A,T,b,a⟩:=zpQ x q c [];exact g b (by rw [<- a,QG];rfl)
 | 1,_=>obtain⟨A,T,b,a⟩:=zwo x q c [];exact g b (by rw [<- a,QG];rfl)
 | 2,_=>obtain⟨A,T,b,a⟩:=zwq x q c [];exact g b (by rw [<- a,QG];rfl)
 | 3,_=>obtain⟨A,T,b,a⟩:=zpR x q c [];exact g b (by rw [<- a,QG];rfl)
 | 4,_=>obtain⟨A,T,b,a⟩:=zpS x q c [];exact g b (by rw [<- a,QG];rfl)
 | 5,_=>obtain⟨A,T,b,a⟩:=zpP x q c [];exact g b (by rw [<- a,QG];rfl)
theorem zuL(L:Nat){k:Nat}(hk:k<6):((List.range 6).map (fun i=>Value.pointer (some ⟨L,0+(1+49*i),none⟩)))[k]?=some (.pointer (some ⟨L,0+(1+49*k),none⟩)):=by
 rw[KT,Ki hk];rfl
def okX (x:ExD) (r:RelD):Bool:=decide (r.n=x.ev.length)&&okR r
section
variable{c:Nat}{x:ExD}{q:OA}{w:Wd}
theorem zgr{X:Wd}{b:Nat}(fx:ExH X b x q c){i:Nat}(hi:i<6):zI X ⟨b,0+(1+49*i),none⟩ (zf ((zdM x).getD i x.po)):=by
 have h:=zP (n:=1+49*i) (m:=49) (za fx);rw[show(exC x q c).toArray.toList=exC x q c from rfl,zvt x q c hi] at h;exact h
theorem ExW.rel(hv:ExW w x q){i:Nat}(hi:i<6):zK ((zdM x).getD i x.po).to:=by
 match i,hi with
 | 0,_=>exact hv.po
 | 1,_=>exact hv.rf
 | 2,_=>exact hv.co
 | 3,_=>exact hv.dt
 | 4,_=>exact hv.ct
 | 5,_=>exact hv.rm
theorem zt6(hv:ExW w x q)(hT:Tz64M w):CB 23 #[.agg (exC x q c).toArray] w (.bool (j0 x)):=by
 refine qA 70 [.agg (exC x q c).toArray] (.c .p (.c .p (.c .p (.c .p (.c .p .p))))) Tryz.func23 ?_;obtain⟨L,hL⟩:=nm (w.heap.size);have hn:=hv.n;refine⟨Unit,fun _=>⟨[(1,At0 L)],[]⟩,fun _ X=>ExH X L x q c/\Bw w X,⟨(),⟨.cons (by rw[hL];rfl) .nil,rfl⟩,by rw[hL];exact zt w _,(zba w _)⟩,?_⟩;rintro _ X ⟨fx,af⟩;obtain⟨n,aa⟩:=nm (qz x.ev);refine⟨Unit,fun _=>⟨[(1,At0 L)],[]⟩,fun _ Y=>X=Y,?_,?_⟩
 ·refine⟨_,zc (za fx) (i:=0) rfl,biE (fun h=>?_) fun _=>?_⟩
  ·have h:(48:Int)<(x.ev.length:Nat):=dT h;omega
  exact⟨(),(cvE rfl rfl),rfl⟩
 rintro _ _ rfl;refine⟨Unit,fun _=>⟨[(1,At0 L),(3,i64 (n:Nat))],[]⟩,fun _ Y=>Bw X Y,?_,?_⟩
 ·refine⟨_,zc (za fx) (i:=0) rfl,cmo (zoq (hv.below af).ev (by omega)) ?_⟩;rintro e Y ⟨rfl,u⟩;rw[<- aa];exact⟨(),(cvE rfl rfl),u⟩
 rintro _ Y u;have am:=hv.below af;have az:n<=x.ev.length:=by rw[aa];exact zmK _
 have s:=zst af u;have ay:decide (x.ev.length<=48)=true:=Up (by omega);have no:∀{Z:Wd},Bw w Z->j0 x=false->(Ending.returned (.bool false)=Ending.returned (.bool (j0 x))/\Bw w Z):=fun{Z} hb h=>⟨rb h.symm,hb⟩;refine⟨Unit,fun _=>⟨[(1,At0 L),(3,i64 (n:Nat))],[]⟩,fun _ Z=>jE x.ev n=true/\(1<=n/\n<=6)/\ExH Z L x q c/\Bw w Z,?_,?_⟩
 ·refine biE (fun h1=>?_) fun h1=>?_
  ·have h1:(n:Int)<1:=dT h1;refine brT (brT (no s ?_));unfold j0;rw[<- aa,Ue (by omega:¬1<=n),Ug,Uf]
  have h1:¬(n:Int)<1:=dF h1;refine biE (fun h2=>?_) fun h2=>?_
  ·have h2:(6:Int)<(n:Int):=dT h2;refine brT (no s ?_);unfold j0;rw[<- aa,Ue (by omega:¬n<=6),Ug,Uf,Uf]
  have h2:¬(6:Int)<(n:Int):=dF h2;have ar:decide (1<=n)=true:=Up (by omega);have au:decide (n<=6)=true:=Up (by omega);have fY:=zb u fx;refine⟨_,zc (za fY) (i:=0) rfl,cmo (zjE (locs:=n) (am.below u).ev (by omega) (by omega)) ?_⟩;rintro e Z ⟨rfl,ap⟩;have b:=zst s ap;refine biE (fun t=>?_) fun t=>?_
  ·have t:jE x.ev n=false:=by
    have t:(!jE x.ev n)=true:=t;simpa using t
   refine no b ?_;unfold j0;rw[<- aa,t,Ug,Uf,Uf,Uf]
  have t:jE x.ev n=true:=by
   have t:(!jE x.ev n)=false:=t;simpa using t
  exact⟨(),(cvE rfl rfl),t,by omega,zb ap fY,b⟩
 rintro _ Z ⟨t,⟨h1,h2⟩,fZ,b⟩;clear fx af u s am;have ar:decide (1<=n)=true:=Up h1;have au:decide (n<=6)=true:=Up h2;have a:j0 x=(zbg x&&(jy x.po (poR x.ev)&&(za2 x&&(zai x n&&zaY x)))):=by
  unfold j0;rw[<- aa,ay,ar,au,t];rfl
 have ab:zbg x=(zdM x).all (okX x):=rfl;refine⟨Unit,fun _=>⟨[(1,At0 L),(3,i64 (n:Nat))],[]⟩,fun _ U=>zbg x=true/\ExH U L x q c/\Bw w U,?_,?_⟩
 ·refine⟨⟨by decide,by decide,rfl⟩,(List.range 6).map (fun i=>Value.pointer (some ⟨L,0+(1+49*i),none⟩)),rfl,?_⟩;obtain⟨g,hg⟩:=nm (Z.heap.size);refine⟨Nat,fun k=>⟨[(1,At0 L),(3,i64 (n:Nat)),(32,.slice (some ⟨g,0,none⟩) 6 6),(33,i64 6),(34,i64 (k:Nat))],[]⟩,fun k U=>k<=6/\((zdM x).take k).all (okX x)=true/\U.heap[g]?=some (.cells ((List.range 6).map (fun i=>Value.pointer (some ⟨L,0+(1+49*i),none⟩))).toArray 129 (0,0))/\ExH U L x q c/\Bw w U,fun k=>6-k,0,
   ⟨.cons rfl (.cons rfl (.cons (by rw[hg];rfl) (.cons rfl (.cons rfl .nil)))),rfl⟩,⟨UZ _,rfl,by rw[hg];exact zt Z _,qO _ fZ,b.alloc b.size _⟩,?_⟩
  clear hg fZ b;rintro k U ⟨hk,m,fg,fU,o⟩;dsimp only;refine biE (fun hc=>?_) fun hc=>?_
  ·have hc:(k:Int)<6:=dT hc;have y:k<6:=by omega
   obtain⟨r,hr⟩:=nm ((zdM x).getD k x.po);have ag:k<(zdM x).length:=y;have a0:(zdM x).take (k+1)=(zdM x).take k++[r]:=by
    rw[tsg ag,hr,gDe,gE ag];rfl
   have av:zK r.to:=by rw[hr];exact hv.rel y
   have ai:zI U ⟨L,0+(1+49*k),none⟩ (zf r):=by rw[hr];exact zgr fU y
   have dU:Bw U U.drew:=(Gb _ _).drew;have ae:r∈zdM x:=by
    rw[hr,gDe,gE ag];exact gM ag
   have aq:∀{Z:Wd},Bw w Z->okX x r=false->(Ending.returned (.bool false)=Ending.returned (.bool (j0 x))/\Bw w Z):=fun{Z} hb h=>no hb (by
    have:zbg x=false:=by
     rw[ab,KL];exact⟨r,ae,by rw[h];decide⟩
    rw[a,this];rfl)
   refine⟨k,rfl,y,?_⟩;refine⟨.pointer (some ⟨L,0+(1+49*k),none⟩),by
    have:=zc (za fg) (i:=k*1) (v := .pointer (some ⟨L,0+(1+49*k),none⟩)) (by
     rw[UX];exact zuL L y)
    exact this,?_⟩
   refine DrawE.ord [] [0,1,2,3,4,5,6,7,8,9,10,11,12,13,14] (by kernel_rfl) ⟨i64 r.n,zc (zw dU ai) (i:=0) rfl,_,zc (za (hdr fU)) (i:=0) rfl,biE (fun f=>?_) fun f=>?_⟩
   ·have f:(!decide (r.n=(x.ev.length:Int)))=true:=f;have f:¬r.n=(x.ev.length:Int):=(by simpa using f);exact brT (aq ((zst o dU)) (by unfold okX;rw[Ue f];rfl))
   have f:(!decide (r.n=(x.ev.length:Int)))=false:=f;have f:r.n=(x.ev.length:Int):=by simpa using f
   refine⟨zf r,zg _,zw dU ai,hlt (hdr fU),cmo (j9 av) ?_⟩;rintro e V ⟨rfl,l⟩;refine⟨l,?_⟩;have d:=o.trans ((dU.trans l).mono o.size);refine biE (fun j=>?_) fun j=>?_
   ·have j:okR r=false:=by
     have j:(!okR r)=true:=j;simpa using j
    exact aq d (by unfold okX;rw[j,Uf])
   have j:okR r=true:=by
    have j:(!okR r)=false:=j;simpa using j
   refine nxI (by omega) ⟨k+1,(cvE rfl rfl),⟨y,?_,zb (dU.trans l) fg,zb (dU.trans l) fU,d⟩,zdc (by omega)⟩;rw[a0,QF,m];show(true&&(okX x r&&true))=true;unfold okX;rw[Up f,j];rfl
  ·have hc:¬(k:Int)<6:=dF hc;obtain rfl:k=6:=by omega
   exact⟨(),(cvE rfl rfl),m,fU,o⟩
 rintro _ U ⟨ak,fU,o⟩;rw[ak,Uv] at a;have m:∀r∈zdM x,r.n=x.ev.length/\okR r=true:=fun r hr=>by
  rw[ab,Qg] at ak;have:=ak r hr;unfold okX at this;rw[bAT,dE] at this;exact this
 have ao:=m x.rf (by simp);have ae:=m x.rm (by simp);have aw:=hv.below o;have dU:Bw U U.drew:=(Gb _ _).drew;have al:=aw.below dU;have ax:=zst o dU;refine DrawE.ord [] [0,1,2,3,4,5,6,7,8,9,10,11,12,13,14,15,16] (by kernel_rfl) ⟨zf x.po,zg _,zgr (hdr fU) (i:=0) (by decide),hlt (hdr fU),_,zc (za (hdr fU)) (i:=0) rfl,cmo (zdX al.ev (by omega)) ?_⟩;rintro e V ⟨rfl,l⟩;refine⟨l,?_⟩;have d:=zst ax l;have fV:=zb l (hdr fU);have aj:=al.below l;refine⟨_,fun w=>zpW _ _ x.po (poR x.ev) w,biE (fun f=>?_) fun f=>?_⟩
 ·have f:jy x.po (poR x.ev)=true:=f;rw[f,Uv] at a;refine cmo (zqH fV aj ao.1 ao.2 (hT.below d)) ?_;rintro e T ⟨rfl,z⟩;refine⟨z,?_⟩;have ac:=zst d z;refine biE (fun j=>?_) fun j=>?_
  ·have j:za2 x=true:=j;rw[j,Uv] at a;refine cmo (zrp (locs:=n) (zb z fV) (aj.below z) (by omega) (zrL t az (by omega)) (hT.below ac)) ?_;rintro e R ⟨rfl,ah⟩;refine⟨ah,?_⟩;have ad:=zst ac ah;refine biE (fun h6=>?_) fun h6=>?_
   ·have h6:zai x n=true:=h6;rw[h6,Uv] at a;refine cmo (zoy (zb ah (zb z fV)) ((aj.below z).below ah) ae.1 ae.2 (hT.below ad)) ?_;rintro e Q ⟨rfl,an⟩;exact⟨an,rb a.symm,(zst ad an)⟩
   ·have h6:zai x n=false:=h6;rw[h6,Ug] at a;exact⟨rb a.symm,ad⟩
  ·have j:za2 x=false:=j;rw[j,Ug] at a;exact brF ⟨rb a.symm,ac⟩
 ·have f:jy x.po (poR x.ev)=false:=f;rw[f,Ug] at a;exact brF (brF ⟨rb a.symm,d⟩)
end
section
variable{b c:Nat}{x:ExD}{q:OA}
theorem za5{X:Wd}(fx:zI X ⟨b,0,none⟩ (exC x q c)):X.cell? ⟨b,0+0,none⟩=some (.slice q x.ev.length c):=zc fx (i:=0) rfl
end
section
variable{b c:Nat}{x:ExD}{q:OA}
theorem jQ{X:Wd}(fx:ExH X b x q c){i:Nat}(hi:i<6){o:Nat}(ho:o=1+49*i):zI X ⟨b,0+o,none⟩ (zf ((zdM x).getD i x.po)):=by
 rw[ho];exact zgr fx hi
end
section
variable{r:RelD}{w:Wd}
theorem zve{b s:Nat}(f:w.heap[b]?=some (.cells (zf r).toArray 76 (0,0)))(hr:zK r.to)(hs:s<2^64)(h48:∀i∈els s,i<48)(hT:Tz64M w) :
  CB 211 #[At0 b,s64 s] w (s64 (zea r.to s)):=by
 refine zD 32 [At0 b,s64 s] Tryz.func211 ?_;refine cmo (zbu hs hT) ?_;rintro e X ⟨rfl,c⟩;refine⟨Nat×Nat,fun q=>⟨[(0,At0 b),(1,s64 q.2),(5,s64 q.1),(6,i64 ((els q.2).headD 0:Nat)),(7,.bool (!(els q.2).isEmpty))],[]⟩,
  fun q Y=>zea r.to s=(els q.2).foldl (fun t a=>t|||r.to a) q.1/\(q.1<2^64/\q.2<2^64/\∀i∈els q.2,i<48)/\Bw w Y,fun q=>q.2,(0,s),
  (cvE rfl rfl),⟨rfl,⟨(by decide:0<2^64),hs,h48⟩,c⟩,?_⟩
 clear c X;rintro⟨t,q⟩ X ⟨k,⟨l,g,h48⟩,c⟩;dsimp only at k l g h48 ⊢;refine biE (fun h=>?_) fun h=>?_
 ·have n:=zfW g h;obtain⟨m,v,_,x⟩:=j5 n g;have u:=(zcr n g).1;have d:ctz q<48:=h48 _ (by rw[m];exact KA);rw[u];have p:=zb c f;refine⟨ctz q,rfl,d,_,za3 p d,_,zau l (hr _ d),((q-1:Nat):Int),(w64 (a:=(q:Int)-1) (by omega)).trans (by omega),((qM q:Nat):Int),zac (a:=q) (b:=q-1) g (by omega),cmo (zbu (s:=qM q) (by omega) (hT.below c)) ?_⟩;rintro e Y ⟨rfl,j⟩;refine⟨(t|||r.to (ctz q),qM q),(cvE rfl rfl),⟨?_,⟨KX l (hr _ d),by omega,fun i o=>h48 i (by rw[m];exact JV _ o)⟩,(zst c j)⟩,v⟩;rw[k,m];rfl
 ·have h:(els q).isEmpty=true:=by simpa using h
  have:=zdG g h;subst this;refine⟨?_,c⟩;rw[k,zaC];rfl
theorem zgS{ra rb:RelD}{ba bb g:Nat}{caps:Array Value}{row:Nat->Nat}(fa:w.heap[ba]?=some (.cells (zf ra).toArray 76 (0,0)))(fb:w.heap[bb]?=some (.cells (zf rb).toArray 76 (0,0)))
  (ha:zK ra.to) (hb:zK rb.to) (hok:j6 (sg 0) g=true)
  (jO:ra.n=rb.n->okR ra=true->okR rb=true->∀i X,i<ra.n.toNat->Bw w X->Calls PG g (i64 (i:Nat)::caps.toList).toArray X fun e Y=>e = .returned (s64 (row i))/\Bw X Y) :
  CB 209 #[At0 ba,At0 bb,.func (.func g) #[] caps] w (.tuple #[.agg (zf (comb ra rb row).1).toArray,i64 (comb ra rb row).2]):=by
 refine qA 38 [At0 ba,At0 bb,.func (.func g) #[] caps] (.c .p (.s .p .p)) Tryz.func209 ?_;obtain⟨L,hL⟩:=nm (w.heap.size);refine⟨Unit,fun _=>⟨[(0,At0 ba),(1,At0 bb),(2,.func (.func g) #[] caps),(6,At0 L)],[]⟩,fun _ X=>X.heap[L]?=some (.cells (zf zC).toArray 76 (0,0))/\Bw w X,⟨(),⟨.cons rfl (.cons rfl (.cons rfl (.cons (by rw[hL];rfl) .nil))),rfl⟩,by rw[hL];exact zt w _,(zba w _)⟩,?_⟩;rintro _ X ⟨f0,ac⟩;have hd:Bw X X.drew:=(Gb _ X).drew;have j:=zst ac hd;have no:∀{Y:Wd},Y.heap[L]?=some (.cells (zf zC).toArray 76 (0,0))->Bw w Y->(ra.n=rb.n&&(okR ra&&okR rb))=false->∀{K:Wd->Prop},(∀Z,Z.heap[L]?=some (.cells (zf (comb ra rb row).1).toArray 76 (0,0))->(comb ra rb row).2=2->Bw w Z->K Z)->SatR ((storeVar 76 ⟨L,0,none⟩ (.agg (zf zC).toArray)).run PG Y) fun _ w'=>K w' :=
  fun{Y} f b h {K} k=>by
   have e:comb ra rb row=(zC,2):=by unfold comb;rw[h];rfl
   exact zp (v := .agg (zf zC).toArray) k76 f rfl rfl (zH _) (k _ (by rw[e];exact zn f) (by rw[e]) (zk b (by omega) _))
 refine DrawE.ord [] [0,1,2,3,4,5,6,7,8,9,10,11,12,13,14,15,16,17,18,19,20,21,22] (by kernel_rfl) ?_;have hz:∀{Y:Wd},Bw w Y->∀{K:Value->Prop},K (.agg (zf zC).toArray)->K (.agg (zf zC).toArray):=fun _ _ h=>h;refine⟨_,zc (za (zb j fa)) (i:=0) rfl,_,zc (za (zb j fb)) (i:=0) rfl,biE (fun h=>?_) fun h=>?_⟩
 ·have h:ra.n≠rb.n:=fun e=>by
   have h:(!decide (ra.n=rb.n))=true:=h;rw[Up e] at h;cases h
  refine brT (brT ⟨zf zC,rfl,no (hdr f0) j (by rw[Ue h];rfl) fun Z u z x=>⟨zf (comb ra rb row).1,zg _,za u,?_,x⟩⟩);rw[z];rfl
 have h:ra.n=rb.n:=by
  have h:(!decide (ra.n=rb.n))=false:=h;simpa using h
 refine⟨zf ra,zg _,za (zb j fa),hlt (zb j fa),cmo (j9 ha) ?_⟩;rintro e Y ⟨rfl,t⟩;refine⟨t,?_⟩;have d:=zst j t;have aa:=zb t (hdr f0);refine biE (fun l=>?_) fun l=>?_
 ·have l:okR ra=false:=by
   have l:(!okR ra)=true:=l;simpa using l
  refine brT ⟨zf zC,rfl,no aa d (by rw[l,Ug,Uf]) fun Z u z x=>⟨zf (comb ra rb row).1,zg _,za u,?_,x⟩⟩;rw[z];rfl
 have l:okR ra=true:=by
  have l:(!okR ra)=false:=l;simpa using l
 refine⟨zf rb,zg _,za (zb d fb),hlt (zb d fb),cmo (j9 hb) ?_⟩;rintro e V ⟨rfl,q⟩;refine⟨q,?_⟩;have a:=zst d q;have ab:=zb q aa;refine biE (fun m=>?_) fun m=>?_
 ·have m:okR rb=false:=by
   have m:(!okR rb)=true:=m;simpa using m
  refine⟨zf zC,rfl,no ab a (by rw[m,Uf,Uf]) fun Z u z x=>⟨zf (comb ra rb row).1,zg _,za u,?_,x⟩⟩;rw[z];rfl
 have m:okR rb=true:=by
  have m:(!okR rb)=false:=m;simpa using m
 obtain⟨p0,ad,_⟩:=jz l;have e:comb ra rb row=(jT ra.n.toNat row,0):=by unfold comb;rw[l,m,Up h];rfl
 rw[e];have hn:ra.n=(ra.n.toNat:Int):=by omega
 refine⟨i64 (ra.n.toNat:Nat),by rw[<- hn];exact zc (za (zb a fa)) (i:=0) rfl,cmo (zlC (w:=V) (n:=ra.n.toNat) (by omega) hok (fun i Z hi o=>jO h l m i Z hi ((zst a o)))) ?_⟩;rintro e Z ⟨rfl,o⟩;have y:=zb o ab;exact zp (v := .agg (zf (jT ra.n.toNat row)).toArray) k76 y rfl rfl (zH _) ⟨zf (jT ra.n.toNat row),zg _,za (zn y),rfl,zk ((zst a o)) (by omega) _⟩
end
section
variable{ra rb:RelD}{w:Wd}
theorem zt4{ba bb i:Nat}(fa:w.heap[ba]?=some (.cells (zf ra).toArray 76 (0,0)))(fb:w.heap[bb]?=some (.cells (zf rb).toArray 76 (0,0)))(ha:zK ra.to)(hb:zK rb.to)(hi:i<48) :
  CB 279 (i64 (i:Nat)::[At0 ba,At0 bb]).toArray w (s64 (ra.to i|||rb.to i)):=by
 refine zD 14 (i64 (i:Nat)::[At0 ba,At0 bb]) Tryz.func279 ?_;refine DrawE.ord [] [0,1,2,3,4,5,6,7,8,9] (by kernel_rfl) ?_;have a:Bw w w.drew:=(Gb _ w).drew;exact⟨i,rfl,hi,_,za3 (hdr fa) hi,i,rfl,hi,_,za3 (hdr fb) hi,_,zau (ha i hi) (hb i hi),rfl,a⟩
theorem zv5(ha:zK ra.to)(hb:zK rb.to):CB 208 #[.agg (zf ra).toArray,.agg (zf rb).toArray] w (.tuple #[.agg (zf (zav ra rb).1).toArray,i64 (zav ra rb).2]):=by
 refine qA 10 [.agg (zf ra).toArray,.agg (zf rb).toArray] (.c .p .p) Tryz.func208 ?_;obtain⟨L,b⟩:=nm (w.heap.size);refine⟨Unit,fun _=>⟨[(2,At0 L),(3,At0 (L+1)),(4,At0 (L+2)),(5,i64 0)],[]⟩,fun _ X=>X.heap[L]?=some (.cells (zf ra).toArray 76 (0,0))/\X.heap[L+1]?=some (.cells (zf rb).toArray 76 (0,0))/\X.heap[L+2]?=some (.cells (zf zC).toArray 76 (0,0))/\Bw w X,?_,?_⟩
 ·have l:=wz w (.cells (zf ra).toArray 76);have g:=wz (w.alloc (.cells (zf ra).toArray 76)) (.cells (zf rb).toArray 76);have d:=zt (w.alloc (.cells (zf ra).toArray 76)) (.cells (zf rb).toArray 76);have m:=zt ((w.alloc (.cells (zf ra).toArray 76)).alloc (.cells (zf rb).toArray 76)) (.cells (zf zC).toArray 76);rw[l] at g d;rw[g] at m;refine⟨(),⟨.cons (by rw[b];rfl) (.cons (by rw[b,<- l];rfl) (.cons (by rw[b,<- g];rfl) (.cons rfl .nil))),rfl⟩,?_,?_,?_,?_⟩
  ·rw[b];exact qO _ (qO _ (zt w _))
  ·rw[b];exact qO _ d
  ·rw[b];exact m
  ·exact(((zba w _)).alloc (by simp) _).alloc (by simp;omega) _
 rintro _ X ⟨k,h,j,f⟩;refine cmo (zgS (row:=fun i=>ra.to i|||rb.to i) k h ha hb (by kernel_rfl) (fun e o d i Y q a=>?_)) ?_
 ·have n:=(jz o).2.1;exact zt4 (zb a k) (zb a h) ha hb (by omega)
 rintro e Y ⟨rfl,a⟩;exact zp (v := .agg (zf (zav ra rb).1).toArray) k76 (zb a j) rfl rfl (zH _) ⟨zf (zav ra rb).1,zg _,za (zn (zb a j)),rfl,zk ((zst f a)) (by omega) _⟩
theorem zwe{ba bb i:Nat}(fa:w.heap[ba]?=some (.cells (zf ra).toArray 76 (0,0)))(fb:w.heap[bb]?=some (.cells (zf rb).toArray 76 (0,0)))(ha:zK ra.to)(hb:zK rb.to)(hi:i<48) :
  CB 212 (i64 (i:Nat)::[At0 ba,At0 bb]).toArray w (s64 (ra.to i&&&rb.to i)):=by
 refine zD 14 (i64 (i:Nat)::[At0 ba,At0 bb]) Tryz.func212 ?_;refine DrawE.ord [] [0,1,2,3,4,5,6,7,8,9] (by kernel_rfl) ?_;have a:Bw w w.drew:=(Gb _ w).drew;exact⟨i,rfl,hi,_,za3 (hdr fa) hi,i,rfl,hi,_,za3 (hdr fb) hi,_,zac (ha i hi) (hb i hi),rfl,a⟩
theorem zul(ha:zK ra.to)(hb:zK rb.to):CB 162 #[.agg (zf ra).toArray,.agg (zf rb).toArray] w (.tuple #[.agg (zf (zaZ ra rb).1).toArray,i64 (zaZ ra rb).2]):=by
 refine qA 10 [.agg (zf ra).toArray,.agg (zf rb).toArray] (.c .p .p) Tryz.func162 ?_;obtain⟨L,b⟩:=nm (w.heap.size);refine⟨Unit,fun _=>⟨[(2,At0 L),(3,At0 (L+1)),(4,At0 (L+2)),(5,i64 0)],[]⟩,fun _ X=>X.heap[L]?=some (.cells (zf ra).toArray 76 (0,0))/\X.heap[L+1]?=some (.cells (zf rb).toArray 76 (0,0))/\X.heap[L+2]?=some (.cells (zf zC).toArray 76 (0,0))/\Bw w X,?_,?_⟩
 ·have l:=wz w (.cells (zf ra).toArray 76);have g:=wz (w.alloc (.cells (zf ra).toArray 76)) (.cells (zf rb).toArray 76);have d:=zt (w.alloc (.cells (zf ra).toArray 76)) (.cells (zf rb).toArray 76);have m:=zt ((w.alloc (.cells (zf ra).toArray 76)).alloc (.cells (zf rb).toArray 76)) (.cells (zf zC).toArray 76);rw[l] at g d;rw[g] at m;refine⟨(),⟨.cons (by rw[b];rfl) (.cons (by rw[b,<- l];rfl) (.cons (by rw[b,<- g];rfl) (.cons rfl .nil))),rfl⟩,?_,?_,?_,?_⟩
  ·rw[b];exact qO _ (qO _ (zt w _))
  ·rw[b];exact qO _ d
  ·rw[b];exact m
  ·exact(((zba w _)).alloc (by simp) _).alloc (by simp;omega) _
 rintro _ X ⟨k,h,j,f⟩;refine cmo (zgS (row:=fun i=>ra.to i&&&rb.to i) k h ha hb (by kernel_rfl) (fun e o d i Y q a=>?_)) ?_
 ·have n:=(jz o).2.1;exact zwe (zb a k) (zb a h) ha hb (by omega)
 rintro e Y ⟨rfl,a⟩;exact zp (v := .agg (zf (zaZ ra rb).1).toArray) k76 (zb a j) rfl rfl (zH _) ⟨zf (zaZ ra rb).1,zg _,za (zn (zb a j)),rfl,zk ((zst f a)) (by omega) _⟩
theorem zv6{ba bb i:Nat}(fa:w.heap[ba]?=some (.cells (zf ra).toArray 76 (0,0)))(fb:w.heap[bb]?=some (.cells (zf rb).toArray 76 (0,0)))(ha:zK ra.to)(hb:zK rb.to)(hi:i<48)(h48:∀j∈els (ra.to i),j<48)(hT:Tz64M w) :
  CB 210 (i64 (i:Nat)::[At0 bb,At0 ba]).toArray w (s64 (zea rb.to (ra.to i))):=by
 refine zD 10 (i64 (i:Nat)::[At0 bb,At0 ba]) Tryz.func210 ?_;refine⟨i,rfl,hi,_,za3 fa hi,cmo (zve fb hb (ha i hi) h48 hT) ?_⟩;rintro e Y ⟨rfl,a⟩;exact⟨rfl,a⟩
theorem zcY(ha:zK ra.to)(hb:zK rb.to)(hT:Tz64M w):CB 161 #[.agg (zf ra).toArray,.agg (zf rb).toArray] w (.tuple #[.agg (zf (jq ra rb).1).toArray,i64 (jq ra rb).2]):=by
 refine qA 10 [.agg (zf ra).toArray,.agg (zf rb).toArray] (.c .p .p) Tryz.func161 ?_;obtain⟨L,b⟩:=nm (w.heap.size);refine⟨Unit,fun _=>⟨[(2,At0 L),(3,At0 (L+1)),(4,At0 (L+2)),(5,i64 0)],[]⟩,fun _ X=>X.heap[L]?=some (.cells (zf ra).toArray 76 (0,0))/\X.heap[L+1]?=some (.cells (zf rb).toArray 76 (0,0))/\X.heap[L+2]?=some (.cells (zf zC).toArray 76 (0,0))/\Bw w X,?_,?_⟩
 ·have n:=wz w (.cells (zf ra).toArray 76);have g:=wz (w.alloc (.cells (zf ra).toArray 76)) (.cells (zf rb).toArray 76);have f:=zt (w.alloc (.cells (zf ra).toArray 76)) (.cells (zf rb).toArray 76);have o:=zt ((w.alloc (.cells (zf ra).toArray 76)).alloc (.cells (zf rb).toArray 76)) (.cells (zf zC).toArray 76);rw[n] at g f;rw[g] at o;refine⟨(),⟨.cons (by rw[b];rfl) (.cons (by rw[b,<- n];rfl) (.cons (by rw[b,<- g];rfl) (.cons rfl .nil))),rfl⟩,?_,?_,?_,?_⟩
  ·rw[b];exact qO _ (qO _ (zt w _))
  ·rw[b];exact qO _ f
  ·rw[b];exact o
  ·exact(((zba w _)).alloc (by simp) _).alloc (by simp;omega) _
 rintro _ X ⟨l,h,k,d⟩;refine cmo (zgS (row:=fun i=>zea rb.to (ra.to i)) l h ha hb (by kernel_rfl) (fun e m f i Y s a=>?_)) ?_
 ·have r:=(jz m).2.1;exact zv6 (zb a l) (zb a h) ha hb (by omega) (fun j q=>(zk9 m ha (by omega) j q).2) ((hT.below d).below a)
 rintro e Y ⟨rfl,a⟩;exact zp (v := .agg (zf (jq ra rb).1).toArray) k76 (zb a k) rfl rfl (zH _) ⟨zf (jq ra rb).1,zg _,za (zn (zb a k)),rfl,zk ((zst d a)) (by omega) _⟩
theorem zyk{ba i s:Nat}(fa:w.heap[ba]?=some (.cells #[s64 s] 73 (0,0)))(hs:s<2^64)(hi:i<48) :
  CB 310 (i64 (i:Nat)::[At0 ba]).toArray w (s64 (s&&&2^i)):=by
 refine zD 8 (i64 (i:Nat)::[At0 ba]) Tryz.func310 ?_;exact DrawE.ord [] [0,1,2,3,4] (by kernel_rfl) ⟨_,zc (za (hdr fa)) (i:=0) rfl,by omega,_,zab (e:=i) (by omega),_,zac hs (qc (by omega)),rfl,(Gb _ w).drew⟩
theorem zyj{n s:Nat}(hn:n<=48)(hs:s<2^64):CB 281 #[i64 n,s64 s] w (.agg (zf (idR n s)).toArray):=by
 refine qA 15 [i64 n,s64 s] (.c .p (.s .p .p)) Tryz.func281 ?_;obtain⟨L,f⟩:=nm (w.heap.size);refine⟨Unit,fun _=>⟨[(0,i64 n),(3,At0 L),(4,At0 (L+1))],[]⟩,fun _ X=>X.heap[L]?=some (.cells #[s64 s] 73 (0,0))/\X.heap[L+1]?=some (.cells (zf zC).toArray 76 (0,0))/\Bw w X,?_,?_⟩
 ·have j:=wz w (.cells #[s64 s] 73);have h:=zt (w.alloc (.cells #[s64 s] 73)) (.cells (zf zC).toArray 76);rw[j] at h;refine⟨(),⟨.cons rfl (.cons (by rw[f];rfl) (.cons (by rw[f,<- j];rfl) .nil)),rfl⟩,?_,?_,?_⟩
  ·rw[f];exact qO _ (zt w _)
  ·rw[f];exact h
  ·exact((zba w _)).alloc (by simp) _
 rintro _ X ⟨l,k,g⟩;refine brN (Ue (by omega)) (brN (Ue (by omega)) (cmo (zlC (w:=X) (n:=n) (row:=fun a=>s&&&2^a) hn (by kernel_rfl) (fun i Z m b=>zyk (zb b l) hs (by omega))) ?_));rintro e Z ⟨rfl,b⟩;have d:=zb b k;exact zp (v := .agg (zf (idR n s)).toArray) k76 d rfl rfl (zH _) ⟨zf (idR n s),zg _,za (zn d),rfl,zk ((zst g b)) (by omega) _⟩
theorem zxH(ha:zK ra.to):CB 213 #[.agg (zf ra).toArray] w (s64 (zkh ra)):=by
 refine zD 24 [.agg (zf ra).toArray] Tryz.func213 ?_;have l:=zt w (.cells (zf ra).toArray 76);have t:Bw w (w.alloc (.cells (zf ra).toArray 76)):=zba w _;refine⟨zf ra,zg _,za l,hlt l,cmo (j9 ha) ?_⟩;rintro e X ⟨rfl,f⟩;have g:=zst t f;have m:=zb f l;refine biE (fun h=>?_) fun h=>?_
 ·have h:okR ra=false:=by
   have h:(!okR ra)=true:=h;simpa using h
  exact⟨by unfold zkh;rw[h];rfl,g⟩
 have h:okR ra=true:=by
  have h:(!okR ra)=false:=h;simpa using h
 obtain⟨u,q,_⟩:=jz h;obtain⟨n,o⟩:∃n:Nat,ra.n=n:=⟨ra.n.toNat,by omega⟩;refine⟨i64 n,by rw[<- o];exact zc (za m) (i:=0) rfl,?_⟩;have p:zkh ra=(List.range n).foldl (fun s a=>if ra.to a=0 then s else s|||2^a) 0:=by unfold zkh;rw[Gn h,o];rfl
 refine⟨Nat,fun k=>⟨[(1,.pointer (some ⟨w.heap.size,0,none⟩)),(3,s64 ((List.range k).foldl (fun s a=>if ra.to a=0 then s else s|||2^a) 0)),(9,i64 n),(10,i64 (k:Nat))],[]⟩,fun k Y=>X=Y/\k<=n/\(List.range k).foldl (fun s a=>if ra.to a=0 then s else s|||2^a) 0<2^64,fun k=>n-k,0,
  (cvE rfl rfl),⟨rfl,UZ _,(by decide:0<2^64)⟩,?_⟩
 rintro k _ ⟨rfl,v,b⟩;refine biE (fun j=>?_) fun j=>?_
 ·have j:(k:Int)<(n:Int):=dT j;have d:k<n:=by omega
  have step:(List.range (k+1)).foldl (fun s a=>if ra.to a=0 then s else s|||2^a) 0=if ra.to k=0 then(List.range k).foldl (fun s a=>if ra.to a=0 then s else s|||2^a) 0 else(List.range k).foldl (fun s a=>if ra.to a=0 then s else s|||2^a) 0|||2^k:=by
   rw[QS,KS];rfl
  refine⟨k,rfl,by omega,?_⟩;refine⟨_,za3 m (by omega),biE (fun c=>?_) fun c=>?_⟩
  ·have c:¬ra.to k=0:=fun e=>by
    have c:(!decide (((ra.to k:Nat):Int)=0))=true:=c;rw[e] at c;exact Gp c (by decide)
   rw[Gm c] at step;exact⟨by omega,_,zab (e:=k) (by omega),_,zau b (qc (by omega)),nxI (by omega) ⟨k+1,⟨.cons rfl (.cons (by rw[step];rfl) (.cons rfl (.cons rfl .nil))),rfl⟩,⟨rfl,d,by rw[step];exact KX b (qc (by omega))⟩,zdc (by omega)⟩⟩
  ·have c:ra.to k=0:=by
    have c:(!decide (((ra.to k:Nat):Int)=0))=false:=c;have r:decide (((ra.to k:Nat):Int)=0)=true:=(by simpa using c);exact Uw (dT r)
   rw[Gn c] at step;exact nxI (by omega) ⟨k+1,⟨.cons rfl (.cons (by rw[step];rfl) (.cons rfl (.cons rfl .nil))),rfl⟩,⟨rfl,d,by rw[step];exact b⟩,zdc (by omega)⟩
 ·have j:¬(k:Int)<(n:Int):=dF j;obtain rfl:k=n:=by omega
  exact⟨by rw[p];rfl,g⟩
theorem zwc(ha:zK ra.to):CB 163 #[.agg (zf ra).toArray] w (.bool (zbG ra)):=by
 refine zD 10 [.agg (zf ra).toArray] Tryz.func163 ?_;have d:=zt w (.cells (zf ra).toArray 76);have g:Bw w (w.alloc (.cells (zf ra).toArray 76)):=zba w _;refine⟨zf ra,zg _,za d,hlt d,cmo (j9 ha) ?_⟩;rintro e X ⟨rfl,a⟩;have b:=zst g a;have f:=zb a d;refine biE (fun h=>?_) fun h=>?_
 ·have h:okR ra=true:=h;refine⟨zf ra,zg _,za f,hlt f,cmo (zxH ha) ?_⟩;rintro e Y ⟨rfl,c⟩;refine⟨rb ?_,(zst b c)⟩;unfold zbG;rw[h,Uv];exact QC.2 Int.ofNat_inj
 ·have h:okR ra=false:=h;exact⟨rb (by unfold zbG;rw[h];rfl),b⟩
end
theorem zje{a b:RelD}{f:Nat->Nat}(h:a.n=b.n->okR a=true->okR b=true->∀i,i<48->f i<2^64):zK (comb a b f).1.to:=by
 unfold comb
 split
 ·rename_i c;rw[bAT,bAT,dE] at c;exact zeL fun i _ d=>h c.1 c.2.1 c.2.2 i d
 ·exact fun i _=>(by show 0<2^64;decide)
theorem zqm{a b:RelD}(ha:zK a.to)(hb:zK b.to):zK (zav a b).1.to:=zje fun _ _ _ i c=>KX (ha i c) (hb i c)
theorem ztP{a b:RelD}(ha:zK a.to):zK (zaZ a b).1.to:=zje fun _ _ _ i c=>KF QU (ha i c)
theorem zdR{a b:RelD}(ha:zK a.to)(hb:zK b.to):zK (jq a b).1.to:=zje fun _ h _ i c=>by
 unfold zea;exact zmO hb _ _ (by decide) fun j d=>(zk9 h ha c j d).2
theorem zev(k:Nat)(p:Nat->Bool):zgp (k+1) p=if p k=true then zgp k p|||2^k else zgp k p:=by
 unfold zgp;rw[QS,KS];rfl
theorem zfw(p:Nat->Bool):∀k,k<=64->zgp k p<2^64
 | 0,_=>by show 0<_;decide
 | k+1,h=>by
  rw[zev]
  split
  ·exact KX (zfw p k (by omega)) (qc (by omega))
  ·exact zfw p k (by omega)
theorem zfF{n:Nat}{p:Nat->Nat->Bool}(hn:n<=64):zK (zcm n p).to:=zeL fun i _ _=>zfw _ n hn
theorem zqI{X:Wd}{L:Nat}{r:RelD}(h:qb X L r):∀i,i<48->X.cell? ⟨L,0+1+i*1,none⟩=some (s64 (r.to i)):=by
 have b:RelAt X L 0 76 [] [] r:=⟨rfl,by simpa using h⟩;exact fun i a=>b.cell a
theorem zvZ{s b:Nat}:decide ((((s/2^b&&&1:Nat):Nat):Int)=1)=s.testBit b:=by
 rw[zlE]
 cases s.testBit b <;> rfl
def jZ (n:Nat) (p:Nat->Nat->Bool) (a k:Nat):Nat->Nat:=fun i=>if i<a then zgp n (p i) else if i=a then zgp k (p a) else 0
theorem zma(n:Nat)(p:Nat->Nat->Bool)(a k:Nat):jZ n p a k a=zgp k (p a):=by
 unfold jZ;rw[Gm (by omega),Gn rfl]
theorem zqF{n:Nat}{p:Nat->Nat->Bool}{a k:Nat}(h:p a k=true):upd (jZ n p a k) a (jZ n p a k a|||2^k)=jZ n p a (k+1):=by
 funext i;by_cases b:i=a
 ·subst b;rw[zN,zma,zma,zev,Gn h]
 ·rw[qx _ _ b];unfold jZ;rw[Gm b,Gm b]
theorem znY{n:Nat}{p:Nat->Nat->Bool}{a k:Nat}(h:p a k=false):jZ n p a k=jZ n p a (k+1):=by
 have e:zgp (k+1) (p a)=zgp k (p a):=by rw[zev,Gm (by rw[h];decide)]
 funext i;unfold jZ;rw[e]
theorem znZ(n:Nat)(p:Nat->Nat->Bool)(a:Nat):jZ n p a n=jZ n p (a+1) 0:=by
 funext i;unfold jZ;by_cases b:i<a
 ·rw[Gn b,Gn (by omega)]
 ·by_cases c:i=a
  ·subst c;rw[Gm b,Gn rfl,Gn (by omega)]
  ·rw[Gm b,Gm c,Gm (by omega)]
   split
   ·rfl
   ·rfl
theorem znX(n:Nat)(p:Nat->Nat->Bool):jZ n p 0 0=fun _=>0:=by
 funext i;unfold jZ;rw[Gm (by omega)]
 split <;> rfl
theorem zqG(n:Nat)(p:Nat->Nat->Bool):jZ n p n 0=(zcm n p).to:=by
 funext i;unfold jZ zcm jT;show _=if i<n then _ else 0
 by_cases h:i<n
 ·rw[Gn h,Gn h]
 ·rw[Gm h,Gm h]
  split <;> rfl
theorem zqE{n:Nat}{p:Nat->Nat->Bool}{a k:Nat}(hn:n<=64)(hk:k<=64):zK (jZ n p a k):=fun i _=>by
 unfold jZ
 split
 ·exact zfw _ n hn
 ·split
  ·exact zfw _ k hk
  ·decide
section
variable{w:Wd}
theorem zX{b o a d:Nat}{r:RelD}(hc:∀i,i<48->w.cell? ⟨b,o+1+i*1,none⟩=some (s64 (r.to i)))(hr:zK r.to)(ha:a<48)(hd:d<48) :
  Calls PG 157 #[.pointer (some ⟨b,o,none⟩),i64 (a:Nat),i64 (d:Nat)] w fun e w'=>e = .returned (.bool (zh r a d))/\w=w':=by
 refine zD 17 [.pointer (some ⟨b,o,none⟩),i64 (a:Nat),i64 (d:Nat)] Tryz.func157 ?_;exact⟨a,rfl,ha,_,hc a ha,by omega,_,zhw (a:=r.to a) (k:=d) (by omega),_,zac (a:=r.to a/2^d) (b:=1) (KF (Nat.div_le_self _ _) (hr a ha)) (by decide),rb zvZ,rfl⟩
theorem zf8{e:Ev}:Calls PG 206 #[.agg (evE.enc e).toArray] w fun r w'=>r = .returned (.bool (decide (e.k=1)||decide (e.k=2)))/\Bw w w':=by
 refine zD 11 [.agg (evE.enc e).toArray] Tryz.func206 ?_;have f:=zt w (.cells (evE.enc e).toArray 80);have a:Bw w (w.alloc (.cells (evE.enc e).toArray 80)):=zba w _;refine⟨u8 e.k,zc (za f) (i:=1) rfl,biE (fun h=>?_) fun h=>?_⟩
 ·have h:e.k=1:=qS.1 (dT h);exact⟨rb (by rw[Up h];rfl),a⟩
 ·have h:¬e.k=1:=fun b=>(dF h) (by rw[b];rfl);refine⟨u8 e.k,zc (za f) (i:=1) rfl,rb ?_,a⟩;rw[Ue h,Us];exact QC.2 (qS (x:=e.k) (y:=2))
theorem zob{n g:Nat}{caps:Array Value}{p:Nat->Nat->Bool}(hn:n<=48)(hok:j6 (sg 0) g=true)
  (hp:∀a d X,a<n->d<n->Bw w X->Calls PG g (i64 (a:Nat)::i64 (d:Nat)::caps.toList).toArray X fun e Y=>e = .returned (.bool (p a d))/\Bw X Y) :
  CB 155 #[i64 n,.func (.func g) #[] caps] w (.agg (zf (zcm n p)).toArray):=by
 refine qA 34 [i64 n,.func (.func g) #[] caps] (.c .p (.c .p (.c .p .p))) Tryz.func155 ?_;obtain⟨L,hL⟩:=nm (w.heap.size);refine⟨Unit,fun _=>⟨[(0,i64 n),(1,.func (.func g) #[] caps),(4,At0 L)],[]⟩,fun _ X=>qb X L zC/\X.heap.size=L+1/\Bw w X,?_,?_⟩
 ·exact⟨(),⟨.cons rfl (.cons rfl (.cons (by rw[hL];rfl) .nil)),rfl⟩,by rw[hL];exact zt w _,by rw[hL];exact wz _ _,(zba w _)⟩
 rintro _ X ⟨i,sX,aa⟩;refine⟨Unit,fun _=>⟨[(0,i64 n),(1,.func (.func g) #[] caps),(4,At0 L),(5,At0 (L+1))],[]⟩,fun _ Y=>qb Y (L+1) ⟨n,jZ n p 0 0⟩/\Y.heap.size=L+2/\Bw X Y,?_,?_⟩
 ·refine⟨zf ⟨n,fun _=>0⟩,by kernel_rfl,?_⟩;refine zo (X:=X) (v := .agg (zf ⟨n,fun _=>0⟩).toArray) k76 (zg _) (by kernel_rfl) (zH _) fun Z j fZ sZ=>?_;rw[sX] at fZ sZ;exact⟨(),⟨.cons rfl (.cons rfl (.cons rfl (.cons (by rw[<- sX];rfl) .nil))),rfl⟩,by rw[znX];exact fZ,sZ,j⟩
 rintro _ Y ⟨f,sY,u⟩;have t:=zst aa u;have i:=zb u i;refine⟨Unit,fun _=>⟨[(4,At0 L),(5,At0 (L+1))],[]⟩,fun _ Z=>qb Z (L+1) (zcm n p)/\qb Z L zC/\Bw w Z,?_,?_⟩
 ·refine⟨Nat,fun a=>⟨[(0,i64 n),(1,.func (.func g) #[] caps),(4,At0 L),(5,At0 (L+1)),(10,i64 n),(11,i64 (a:Nat))],[]⟩,fun a Z=>a<=n/\qb Z (L+1) ⟨n,jZ n p a 0⟩/\qb Z L zC/\Bw w Z,fun a=>n-a,0,
   (cvE rfl rfl),⟨UZ _,f,i,t⟩,?_⟩
  rintro a Z ⟨ha,f,i,j⟩;dsimp only at f ⊢;refine biE (fun l=>?_) fun l=>?_
  ·have l:(a:Int)<(n:Int):=dT l;have x:a<n:=by omega
   refine⟨Nat,fun d=>⟨[(0,i64 n),(1,.func (.func g) #[] caps),(4,At0 L),(5,At0 (L+1)),(6,i64 (a:Nat)),(10,i64 n),(11,i64 (a:Nat)),(14,i64 n),(15,i64 (d:Nat))],[]⟩,fun d V=>d<=n/\qb V (L+1) ⟨n,jZ n p a d⟩/\qb V L zC/\Bw w V,fun d=>n-d,0,
    (cvE rfl rfl),⟨UZ _,f,i,j⟩,?_⟩
   clear f i j;rintro d V ⟨hd,f,i,r⟩;dsimp only at f ⊢;refine biE (fun l=>?_) fun l=>?_
   ·have l:(d:Int)<(n:Int):=dT l;have m:d<n:=(by omega);refine zji hok (hp a d V x m r) ?_;rintro e U ⟨rfl,q⟩;refine⟨_,rfl,?_⟩;have f:=zb q f;have i:=zb q i;have k:=zst r q;have sU:=k.size;refine biE (fun h=>?_) fun h=>?_
    ·have h:p a d=true:=h;have y:RelAt U (L+1) 0 76 [] [] ⟨n,jZ n p a d⟩:=⟨rfl,by simpa using f⟩;have dU:Bw U U.drew:=(Gb _ _).drew;have b:a<48:=(by omega);refine DrawE.ord [9] [0,1,2,3,4,5,6,7,8,9] (by kernel_rfl) ⟨a,rfl,b,s64 (jZ n p a d a),(y.same (Y:=U.drew) rfl).cell b,by omega,_,zab (e:=d) (by omega),_,zau (zqE (by omega) (by omega) a b) (qc (by omega)),a,rfl,b,zm k73 (y.same (Y:=U.drew) rfl).cells (o:=0+1+a*1) (v:=s64 (jZ n p a d a|||2^d)) rfl rfl (by rw[y.len];omega) rfl fun S z gS sS=>?_⟩;rw[y.set b] at z;have e5:upd (jZ n p a d) a (jZ n p a d a|||2^d)=jZ n p a (d+1):=zqF h;dsimp only at z;rw[e5] at z;have s:U.grownBy S (some (L+1)):=zd (zi dU) gS;exact nxI (by omega) ⟨d+1,(cvE rfl rfl),⟨m,by simpa using z,(s.block L (hlt i) (by simp)).trans i,k.trans (zl s sU (by omega))⟩,zdc (by omega)⟩
    ·have h:p a d=false:=h;exact nxI (by omega) ⟨d+1,(cvE rfl rfl),⟨m,by rw[<- znY h];exact f,i,k⟩,zdc (by omega)⟩
   ·have l:¬(d:Int)<(n:Int):=dF l;obtain rfl:d=n:=(by omega);exact nxI (by omega) ⟨a+1,(cvE rfl rfl),⟨x,by rw[<- znZ];exact f,i,r⟩,zdc (by omega)⟩
  ·have l:¬(a:Int)<(n:Int):=dF l;obtain rfl:a=n:=by omega
   rw[zqG] at f;exact⟨(),(cvE rfl rfl),f,i,j⟩
 rintro _ Z ⟨f,i,j⟩;exact⟨zf (zcm n p),zg _,za f,hlt f,zp (v := .agg (zf (zcm n p)).toArray) k76 i (zg _) (zg _) (zH _) ⟨zf (zcm n p),zg _,za (zn i),rfl,zk j (by omega) _⟩⟩
def zwK:Enc RelD:=⟨zf,49,zg,by decide,fun a u hu=>Qg.1 (zH a) u hu⟩
theorem zdv{l:List RelD}:∀{r:RelD},zK r.to->(∀o∈l,zK o.to)->zK (qy r l).to:=by
 induction l with
 | nil=>exact fun h _=>h
 | cons o l ih=>exact fun h a=>ih (zqm h (a o KA)) fun x b=>a x (JV _ b)
theorem zkJ{r:RelD}{l:List RelD}{pm:OA}{cm:Nat}(hr:zK r.to)(hl:SlR zwK w pm l)(hw:∀o∈l,zK o.to)(hn:l.length<=1000) :
  CB 160 #[.agg (zf r).toArray,.slice pm l.length cm] w (.agg (zf (qy r l)).toArray):=by
 refine qA 21 [.agg (zf r).toArray,.slice pm l.length cm] (.c .p (.c .p .p)) Tryz.func160 ?_;obtain⟨L,u⟩:=nm (w.heap.size);refine⟨Unit,fun _=>⟨[(1,.slice pm l.length cm),(2,At0 L),(4,At0 (L+1))],[]⟩,fun _ X=>qb X L r/\qb X (L+1) zC/\Bw w X,?_,?_⟩
 ·have s1:=wz w (.cells (zf r).toArray 76);have h2:=zt (w.alloc (.cells (zf r).toArray 76)) (.cells (zf zC).toArray 76);rw[s1] at h2;refine⟨(),⟨.cons rfl (.cons (by rw[u];rfl) (.cons (by rw[u,<- s1];rfl) .nil)),rfl⟩,by rw[u];exact qO _ (zt w _),by rw[u];exact h2,((zba w _)).alloc (by simp) _⟩
 rintro _ X ⟨a,g,m⟩;refine⟨Unit,fun _=>⟨[(2,At0 L),(4,At0 (L+1))],[]⟩,fun _ Z=>qb Z L (qy r l)/\qb Z (L+1) zC/\Bw w Z,?_,?_⟩
 ·refine⟨Nat,fun k=>⟨[(2,At0 L),(4,At0 (L+1)),(7,.slice pm l.length cm),(8,i64 l.length),(9,i64 (k:Nat))],[]⟩,fun k Z=>k<=l.length/\qb Z L (qy r (l.take k))/\qb Z (L+1) zC/\Bw w Z,fun k=>l.length-k,0,
   (cvE rfl rfl),⟨UZ _,a,g,m⟩,?_⟩
  clear a g m;rintro k Z ⟨hk,a,g,d⟩;dsimp only;have j:=d.size;refine biE (fun q=>?_) fun q=>?_
  ·have q:(k:Int)<(l.length:Int):=dT q;have f:k<l.length:=by omega
   obtain⟨b,o,rfl,hb,y⟩:=hl.at f;obtain⟨t,x⟩:∃t,l[k]=t:=⟨_,rfl⟩;have z:t∈l:=by rw[<- x];exact gM f
   have aa:qy r (l.take (k+1))=(zav (qy r (l.take k)) t).1:=by
    unfold qy;rw[tsg f,x,KS];rfl
   have ab:zK (qy r (l.take k)).to:=zdv hr fun o ho=>hw o (JY ho);refine⟨k,rfl,f,zf t,zg _,by rw[<- x];exact zw d (y k f),nL hb j,zo (X:=Z) (v := .agg (zf t).toArray) k76 (zg _) (by kernel_rfl) (zH _) fun Y h s sY=>?_⟩;have s:qb Y Z.heap.size t:=s;have a:=zb h a;have g:=zb h g;refine⟨zf (qy r (l.take k)),zg _,za a,hlt a,zf t,zg _,za s,hlt s,cmo (zv5 ab (hw t z)) ?_⟩;rintro e V ⟨rfl,i⟩;have a:=zb i a;have g:=zb i g;refine zp (v := .agg (zf (zav (qy r (l.take k)) t).1).toArray) k76 a (zg _) (zg _) (zH _) (nxI (by omega) ?_);have n:=(d.trans (h.mono j)).trans (i.mono (by have:=h.size;omega));exact⟨k+1,(cvE rfl rfl),⟨f,by rw[aa];exact zn a,(zr (by omega)).trans g,zk n (by omega) _⟩,zdc (by omega)⟩
  ·have q:¬(k:Int)<(l.length:Int):=dF q;obtain rfl:k=l.length:=by omega
   rw[Qt] at a;exact⟨(),(cvE rfl rfl),a,g,d⟩
 rintro _ Z ⟨a,g,d⟩;exact⟨zf (qy r l),zg _,za a,hlt a,zp (v := .agg (zf (qy r l)).toArray) k76 g (zg _) (zg _) (zH _) ⟨zf (qy r l),zg _,za (zn g),rfl,zk d (by omega) _⟩⟩
end
section
variable{w:Wd}{b c:Nat}{x:ExD}{q:OA}
theorem zgM{X:Wd}{o:Nat}{r:RelD}(fx:zI X ⟨b,0,none⟩ (exC x q c))(h:∃A T,A.length=o/\exC x q c=A++(zf r++T)):∀i,i<48->X.cell? ⟨b,o+1+i*1,none⟩=some (s64 (r.to i)):=by
 intro i d;obtain⟨A,T,g,e⟩:=h;have:(exC x q c)[o+1+i*1]?=some (s64 (r.to i)):=by
  rw[e,UX,UB,jw g,Jq (by rw[zg];omega),zfB r d]
 have a:=zc fx this;rw[UQ] at a;exact a
theorem ztl(x:ExD)(q:OA)(c:Nat):∃A T,A.length=1/\exC x q c=A++(zf x.po++T):=by
 obtain⟨A,T,d,a⟩:=zpQ x q c [];exact⟨A,T,d,by rw[<- a,QG]⟩
theorem zw9(x:ExD)(q:OA)(c:Nat):∃A T,A.length=148/\exC x q c=A++(zf x.dt++T):=by
 obtain⟨A,T,d,a⟩:=zpR x q c [];exact⟨A,T,d,by rw[<- a,QG]⟩
theorem zxa(x:ExD)(q:OA)(c:Nat):∃A T,A.length=197/\exC x q c=A++(zf x.ct++T):=by
 obtain⟨A,T,d,a⟩:=zpS x q c [];exact⟨A,T,d,by rw[<- a,QG]⟩
theorem ztk(x:ExD)(q:OA)(c:Nat):∃A T,A.length=246/\exC x q c=A++(zf x.rm++T):=by
 obtain⟨A,T,d,a⟩:=zpP x q c [];exact⟨A,T,d,by rw[<- a,QG]⟩
theorem zlI(x:ExD)(i:Nat):(decide ((evA x i).k=1)||decide ((evA x i).k=2))=zbZ x i:=rfl
theorem zcW{X:Wd}(hv:SlR evE X q x.ev){a:Nat}(ha:a<x.ev.length):∃bq oq,q=some ⟨bq,oq,none⟩/\bq<X.heap.size/\zI X ⟨bq,oq+a*7,none⟩ (evE.enc (evA x a)):=zcX hv ha
theorem zsi{a d:Nat}(fx:zI w ⟨b,0,none⟩ (exC x q c))(hv:SlR evE w q x.ev)(ha:a<x.ev.length)(hd:d<x.ev.length) :
  CB 158 #[At0 b,i64 (a:Nat),i64 (d:Nat)] w (.bool (zby x a d)):=by
 refine qA 44 [At0 b,i64 (a:Nat),i64 (d:Nat)] (.c .p .p) Tryz.func158 ?_;refine⟨Unit,fun _=>⟨[(0,At0 b),(1,i64 (a:Nat)),(2,i64 (d:Nat))],[]⟩,fun _ X=>w=X,⟨(),(cvE rfl rfl),rfl⟩,?_⟩;rintro _ _ rfl;obtain⟨bq,oq,o,z,u⟩:=zcW hv ha;obtain⟨ac,aa,g,ab,h⟩:=zcW hv hd;rw[o] at g;simp only[KY,Ur,Gh] at g;rw[<- g.1,<- g.2] at h;subst o;have y:Bw w w.drew:=(Gb _ _).drew;refine DrawE.ord [] [0,1,2,3,4,5,6,7,8,9,10,11,12,13,14,15,16,17,18,19,20,21,22,23,24,25,26,27,28,29,30,31,32,33,34,35,36,37] (by kernel_rfl) ⟨_,za5 (zw y fx),a,rfl,ha,evE.enc (evA x a),rfl,zw y u,nL z y.size,cmo zf8 ?_⟩;rintro e X ⟨rfl,t⟩;refine⟨t,?_⟩;have r:=y.trans t;rw[zlI];refine biE (fun j=>?_) fun j=>?_
 ·have j:zbZ x a=true:=j;refine⟨_,za5 (zw r fx),d,rfl,hd,evE.enc (evA x d),rfl,zw r h,nL z r.size,cmo zf8 ?_⟩;rintro e Y ⟨rfl,n⟩;refine⟨n,?_⟩;have m:=zst r n;rw[zlI];refine biE (fun k=>?_) fun k=>?_
  ·have k:zbZ x d=true:=k;refine⟨_,za5 (zw m fx),a,rfl,ha,u8 (evA x a).l,by have:=zc (zw m u) (i:=2) (v:=u8 (evA x a).l) rfl;exact this,_,za5 (zw m fx),d,rfl,hd,u8 (evA x d).l,by have:=zc (zw m h) (i:=2) (v:=u8 (evA x d).l) rfl;exact this,rb ?_,m⟩;unfold zby;rw[j,k,Uv,Uv];exact QC.2 qS
  ·have k:zbZ x d=false:=k;refine⟨rb ?_,m⟩;unfold zby;rw[j,k];rfl
 ·have j:zbZ x a=false:=j;refine brF ⟨rb ?_,r⟩;unfold zby;rw[j];rfl
end
structure ScnV (X:Wd) (b:Nat) (x:ExD) (q:OA) (c:Nat) (f l s:RelD):Prop where
 h:X.heap[b]?=some (.cells (exC x q c++(zf f++(zf l++zf s))).toArray 311 (0,0))
 v:ExW X x q
 wf:zK f.to
 wl:zK l.to
 ws:zK s.to
section
variable{w:Wd}{b c:Nat}{x:ExD}{q:OA}{f l s:RelD}
theorem ScnV.below{X Y:Wd}(h:ScnV X b x q c f l s)(hb:Bw X Y):ScnV Y b x q c f l s:=⟨zb hb h.h,h.v.below hb,h.wf,h.wl,h.ws⟩
theorem ScnV.cells{X:Wd}(h:ScnV X b x q c f l s):zI X ⟨b,0,none⟩ (exC x q c):=by
 have:=zP (n:=0) (m:=333) (za h.h);have e:((exC x q c++(zf f++(zf l++zf s))).toArray.toList.drop 0).take 333=exC x q c:=by
  show(exC x q c++_).take 333=_;rw[Jg (by rw[zW];decide),JE (by rw[zW];decide)]
 rw[e] at this;exact this
theorem ScnV.at{X:Wd}{o:Nat}{r:RelD}(h:ScnV X b x q c f l s)(hr:∃A T,A.length=o/\exC x q c++(zf f++(zf l++zf s))=A++(zf r++T)):∀i,i<48->X.cell? ⟨b,o+1+i*1,none⟩=some (s64 (r.to i)):=by
 intro i d;obtain⟨A,T,g,e⟩:=hr;have:(exC x q c++(zf f++(zf l++zf s)))[o+1+i*1]?=some (s64 (r.to i)):=by
  rw[e,UX,UB,jw g,Jq (by rw[zg];omega),zfB r d]
 have a:=zc (za h.h) this;rw[UQ] at a;exact a
theorem ScnV.full{X:Wd}(h:ScnV X b x q c f l s):∀i,i<48->X.cell? ⟨b,0+333+1+i*1,none⟩=some (s64 (f.to i)):=h.at ⟨exC x q c,zf l++zf s,zW _ _ _,rfl⟩
theorem ScnV.loads{X:Wd}(h:ScnV X b x q c f l s):∀i,i<48->X.cell? ⟨b,0+382+1+i*1,none⟩=some (s64 (l.to i)):=h.at ⟨exC x q c++zf f,zf s,by rw[lap,zW,zg],by rw[KN]⟩
theorem ScnV.stores{X:Wd}(h:ScnV X b x q c f l s):∀i,i<48->X.cell? ⟨b,0+431+1+i*1,none⟩=some (s64 (s.to i)):=h.at ⟨exC x q c++(zf f++zf l),[],by rw[lap,lap,zW,zg,zg],by simp only[KN,QG]⟩
theorem ze1{a:Nat}(h:ScnV w b x q c f l s)(ha:a<x.ev.length):Calls PG 285 #[At0 b,i64 (a:Nat)] w fun e w'=>e = .returned (.bool (isR x a))/\w=w':=by
 refine zD 15 [At0 b,i64 (a:Nat)] Tryz.func285 ?_;obtain⟨m,o,d,n,g⟩:=zcW h.v.ev ha;have j:=h.cells;subst d;exact⟨_,za5 j,a,rfl,ha,u8 (evA x a).k,by have:=zc g (i:=1) (v:=u8 (evA x a).k) rfl;exact this,rb (QC.2 (qS (x:=(evA x a).k) (y:=1))),rfl⟩
theorem jK{a:Nat}(h:ScnV w b x q c f l s)(ha:a<x.ev.length):Calls PG 286 #[At0 b,i64 (a:Nat)] w fun e w'=>e = .returned (.bool (isW x a))/\w=w':=by
 refine zD 15 [At0 b,i64 (a:Nat)] Tryz.func286 ?_;obtain⟨m,o,d,n,g⟩:=zcW h.v.ev ha;have j:=h.cells;subst d;exact⟨_,za5 j,a,rfl,ha,u8 (evA x a).k,by have:=zc g (i:=1) (v:=u8 (evA x a).k) rfl;exact this,rb (QC.2 (qS (x:=(evA x a).k) (y:=2))),rfl⟩
theorem zdS{a:Nat}{md:UInt8}(h:ScnV w b x q c f l s)(ha:a<x.ev.length):Calls PG 290 #[At0 b,i64 (a:Nat),u8 md] w fun e w'=>e = .returned (.bool (z8 x a md))/\w=w':=by
 refine zD 30 [At0 b,i64 (a:Nat),u8 md] Tryz.func290 ?_;obtain⟨n,p,j,o,g⟩:=zcW h.v.ev ha;have k:=h.cells;subst j;refine⟨_,za5 k,a,rfl,ha,u8 (evA x a).m,by have:=zc g (i:=4) (v:=u8 (evA x a).m) rfl;exact this,biE (fun d=>?_) fun d=>?_⟩
 ·have d:(evA x a).m=md:=qS.1 (dT d);exact⟨rb (by unfold z8;rw[Up d];rfl),rfl⟩
 ·have d:¬(evA x a).m=md:=fun e=>(dF d) (by rw[e]);exact⟨_,za5 k,a,rfl,ha,u8 (evA x a).m,by have:=zc g (i:=4) (v:=u8 (evA x a).m) rfl;exact this,rb (by unfold z8;rw[Ue d,Us];exact QC.2 (qS (x:=(evA x a).m) (y:=3))),rfl⟩
theorem zqb{a d:Nat}(h:ScnV w b x q c f l s)(ha:a<x.ev.length)(hd:d<x.ev.length):Calls PG 287 #[At0 b,i64 (a:Nat),i64 (d:Nat)] w fun e w'=>e = .returned (.bool (zaE x f a d))/\w=w':=by
 refine zD 23 [At0 b,i64 (a:Nat),i64 (d:Nat)] Tryz.func287 ?_;have j:=h.v.n;refine cmo (zX h.full h.wf (by omega) (by omega)) ?_;rintro e _ ⟨rfl,rfl⟩;refine biE (fun g=>?_) fun g=>?_
 ·have g:zh f a d=true:=g;exact brT ⟨rb (by unfold zaE;rw[g];rfl),rfl⟩
 have g:zh f a d=false:=g;refine cmo (zdS (md:=3) h ha) ?_;rintro e _ ⟨rfl,rfl⟩;refine biE (fun i=>?_) fun i=>?_
 ·have i:z8 x a 3=true:=i;exact⟨rb (by unfold zaE;rw[g,i];rfl),rfl⟩
 have i:z8 x a 3=false:=i;refine cmo (zdS (md:=3) h hd) ?_;rintro e _ ⟨rfl,rfl⟩;exact⟨rb (by unfold zaE;rw[g,i];rfl),rfl⟩
end
abbrev orG (l:List Nat):Nat:=l.foldl (fun s i=>s|||2^i) 0
theorem zsG(l:List Nat)(i:Nat):orG (l++[i])=orG l|||2^i:=by
 unfold orG;rw[KS];rfl
theorem zpu:∀(l:List Nat) (s:Nat),s<2^64->(∀i∈l,i<64)->l.foldl (fun s i=>s|||2^i) s<2^64
 | [],s,h,_=>h
 | i::l,s,h,hl=>zpu l (s|||2^i) (KX h (qc (hl i KA))) fun j a=>hl j (JV _ a)
theorem zsH{l:List Nat}(hl:∀i∈l,i<64):orG l<2^64:=zpu l 0 (by decide) hl
section
variable{w:Wd}
theorem zyP{p:OA}{cp:Nat}{l:List Nat}(hl:SlR zF w p l)(h64:∀i∈l,i<64)(hn:l.length<=1000):Calls PG 280 #[.slice p l.length cp] w fun e w'=>e = .returned (.tuple #[s64 (orG l),i64 0])/\w=w':=by
 refine zD 25 [.slice p l.length cp] Tryz.func280 ?_;refine⟨Nat,fun k=>⟨[(4,s64 (orG (l.take k))),(7,.slice p l.length cp),(8,i64 l.length),(9,i64 (k:Nat))],[]⟩,fun k X=>k<=l.length/\w=X,fun k=>l.length-k,0,(cvE rfl rfl),⟨UZ _,rfl⟩,?_⟩;rintro k _ ⟨r,rfl⟩;dsimp only;refine biE (fun f=>?_) fun f=>?_
 ·have f:(k:Int)<(l.length:Int):=dT f;have a:k<l.length:=by omega
  obtain⟨b,o,rfl,s,m⟩:=hl.at a;obtain⟨t,g⟩:∃t,l[k]=t:=⟨_,rfl⟩;have d:=h64 t (by rw[<- g];exact gM a);have j:orG (l.take (k+1))=orG (l.take k)|||2^t:=by rw[tsg a,g,zsG]
  refine⟨k,rfl,a,i64 t,by have:=zc (m k a) (i:=0) (v:=i64 t) (by rw[g];rfl);exact this,biE (fun h=>?_) fun _=>?_⟩
  ·have h:(t:Int)<0:=dT h;omega
  refine biE (fun h=>?_) fun _=>?_
  ·have h:(64:Int)<=(t:Nat):=dT h;omega
  exact⟨by omega,_,zab (e:=t) (by omega),_,zau (zsH fun i n=>h64 i (JY n)) (qc d),nxI (by omega) ⟨k+1,⟨.cons (by show _=some (s64 (orG (l.take (k+1))));rw[j];rfl) (.cons rfl (.cons rfl (.cons rfl .nil))),rfl⟩,⟨a,rfl⟩,zdc (by omega)⟩⟩
 ·have f:¬(k:Int)<(l.length:Int):=dF f;obtain rfl:k=l.length:=by omega
  rw[Qt];exact⟨rfl,rfl⟩
end
section
variable{b c:Nat}{x:ExD}{q:OA}{w:Wd}
theorem ztg(hv:ExW w x q)(hT:Tz64M w):zK (z6 x.rf).to/\zK (frM x).to:=by
 have e:zK (z6 x.rf).to:=by
  unfold z6
  split
  ·rename_i h;intro i k;refine Qw fun a=>?_;obtain⟨j,g,d⟩:=Ja a;rw[show((⟨x.rf.n,za0 x.rf.to x.rf.n.toNat⟩:RelD).to i)=za0 x.rf.to x.rf.n.toNat i from rfl,zgY,bAT,dE] at d;have f:=(jz h).2.1;omega
  ·exact fun i _=>(by show 0<2^64;decide)
 exact⟨e,zdR e hv.co⟩
theorem zyH(fx:ExH w b x q c)(hv:ExW w x q)(hT:Tz64M w):CB 154 #[At0 b] w (.agg (zf (frM x)).toArray):=by
 refine qA 19 [At0 b] (.c .p (.c .p .p)) Tryz.func154 ?_;obtain⟨L,hL⟩:=nm (w.heap.size);obtain⟨wb,wf⟩:=ztg hv hT;refine⟨Unit,fun _=>⟨[(0,At0 b),(2,At0 L)],[]⟩,fun _ X=>qb X L zC/\Bw w X,⟨(),⟨.cons rfl (.cons (by rw[hL];rfl) .nil),rfl⟩,by rw[hL];exact zt w _,(zba w _)⟩,?_⟩;rintro _ X ⟨f0,hbX⟩;refine⟨Nat,fun F=>⟨[(2,At0 L),(3,At0 F)],[]⟩,fun F Z=>qb Z F (frM x)/\qb Z L zC/\Bw w Z,?_,?_⟩
 ·have dX:Bw X X.drew:=(Gb _ _).drew;have fX:=hdr (zb hbX fx);have hba:∀(A:Wd) (o:Obj),Bw A (A.alloc o):=fun A o=>(zba _ _);have put:∀(W:Wd) (b3:Nat),Bw X W->qb W b3 zC->X.heap.size<=b3->∀{K:Wd->Prop},(∀V,(qb V b3 (frM x)/\qb V L zC/\Bw w V)->K V) ->
    SatR ((storeVar 76 ⟨b3,0,none⟩ (.agg (zf (frM x)).toArray)).run PG W) fun _ w'=>K w':=by
   intro W b3 hW f3 g3 K k;refine zp (v := .agg (zf (frM x)).toArray) k76 f3 (zg _) (zg _) (zH _) ?_;have hL2:=hlt f0;exact k _ ⟨zn f3,(zr (by omega)).trans (zb hW f0),zk ((zst hbX hW)) (by have:=hbX.size;omega) _⟩
  refine DrawE.treeQ [14] (.op 0 (.op 1 (.op 2 (.op 3 (.op 5 (.op 6 (.op 7 (.op 8 (.alt (.op 13 (.op 4 (.op 9 (.op 10 (.op 11 (.op 12 (.op 14 (.op 15 (.nil))))))))) (.op 4 (.alt (.op 13 (.op 9 (.op 10 (.op 11 (.op 12 (.op 14 (.op 15 (.nil)))))))) (.op 9 (.op 10 (.op 11 (.op 12 (.op 13 (.op 14 (.op 15 (.nil))))))))))))))))))) (by kernel_rfl) ⟨zf x.rf,zg _,jQ fX (i:=1) (by decide) rfl,hlt fX,zf x.co,zg _,jQ fX (i:=2) (by decide) rfl,hlt fX,Gf ?_ ?_⟩
  ·refine⟨hba _ _,?_⟩;have b1:=dX.alloc (UW _) (.cells (zf zC).toArray 76);refine cmo (zjt hv.rf (hT.below ((zst hbX b1)))) ?_;rintro e Y ⟨rfl,hbY,_⟩;refine⟨hbY,?_⟩;have b2:=zst b1 hbY;refine cmo (zcY wb hv.co (hT.below ((zst hbX b2)))) ?_;rintro e Z ⟨rfl,hbZ⟩;exact⟨hbZ,put Z X.heap.size ((zst b2 hbZ)) (zb hbZ (zb hbY (zt X.drew _))) (UW _) (fun V hV=>⟨X.heap.size,(cvE rfl rfl),hV⟩)⟩
  refine cmo (zjt hv.rf (hT.below ((zst hbX dX)))) ?_;rintro e Y ⟨rfl,hbY,_⟩;refine⟨hbY,?_⟩;have b1:=zst dX hbY;refine Gf ?_ ?_
  ·refine⟨hba _ _,?_⟩;have b2:=b1.alloc b1.size (.cells (zf zC).toArray 76);refine cmo (zcY wb hv.co (hT.below ((zst hbX b2)))) ?_;rintro e Z ⟨rfl,hbZ⟩;exact⟨hbZ,put Z Y.heap.size ((zst b2 hbZ)) (zb hbZ (zt Y _)) b1.size (fun V hV=>⟨Y.heap.size,(cvE rfl rfl),hV⟩)⟩
  ·refine cmo (zcY wb hv.co (hT.below ((zst hbX b1)))) ?_;rintro e Z ⟨rfl,hbZ⟩;refine⟨hbZ,?_⟩;have b2:=zst b1 hbZ;exact⟨hba _ _,put _ Z.heap.size (b2.alloc b2.size _) (zt Z _) b2.size (fun V hV=>⟨Z.heap.size,(cvE rfl rfl),hV⟩)⟩
 rintro F Z ⟨f1,f0,hbZ⟩;exact⟨zf (frM x),zg _,za f1,hlt f1,zp (v := .agg (zf (frM x)).toArray) k76 f0 (zg _) (zg _) (zH _) ⟨zf (frM x),zg _,za (zn f0),rfl,zk hbZ (by omega) _⟩⟩
end
structure RelOk (n:Nat) (r:RelD):Prop where
 n:r.n=n
 ok:okR r=true
 w:zK r.to
section
variable{n:Nat}{r a b:RelD}
theorem RelOk.le(h:RelOk n r):n<=48:=by
 have:=(jz h.ok).2.1;have:=h.n;omega
theorem RelOk.bit(h:RelOk n r){i j:Nat}(hi:i<48)(hb:zh r i j=true):i<n/\j<n:=by
 have:=zla h.ok h.w hi hb;have:=h.n;omega
theorem zwX(hn:r.n=n)(h48:n<=48)(h:∀i j,i<48->zh r i j=true->i<n/\j<n):okR r=true:=by
 unfold okR;rw[bAT,bAT,dE,dE,Qg];refine⟨by omega,by omega,fun i c=>?_⟩;have c:=Ul.1 c;unfold zcj;rw[bAT,QD,dE,dE,dE];refine⟨?_,?_⟩
 ·rw[zbq,za8];apply Kc;intro j;rw[QA];by_cases e:j<64
  ·rw[zbi (za7 _) e,zbU (by omega) (by omega) e]
   cases hb:(r.to i).testBit j with
   | false=>rfl
   | true =>
    have:=(h i j c hb).2;rw[Up (by omega)];rfl
  ·have:=JF (nL (KF (show je (r.to i) (zaT r.n)<=_ from Qu) (show 18446744073709551615-zaT r.n<2^64 by omega)) (Ke (show 0<2 by decide) (show 64<=j by omega)));exact this
 ·by_cases d:i<n
  ·exact .inl (by omega)
  ·refine .inr (Kc fun j=>?_);rw[QA]
   cases hb:(r.to i).testBit j with
   | false=>rfl
   | true=>exact Gp (h i j c hb).1 d
theorem RelOk.of(hn:r.n=n)(h48:n<=48)(h:∀i j,i<48->zh r i j=true->i<n/\j<n)(hw:zK r.to):RelOk n r:=⟨hn,zwX hn h48 h,hw⟩
theorem zhC(p:Nat->Bool):∀k j,(zgp k p).testBit j=(decide (j<k)&&p j)
 | 0,j=>by
  show(0:Nat).testBit j=_;simp
 | k+1,j=>by
  rw[zev]
  split
  ·rename_i h;rw[Uo,zhC p k j,zaf];by_cases e:j=k
   ·subst e;simp[h]
   ·rw[Ue e,Uu];congr 1;exact QC.2 (by omega)
  ·rename_i h;rw[zhC p k j];by_cases e:j=k
   ·subst e;have:p j=false:=(by simpa using h);rw[this,Uf,Uf]
   ·congr 1;exact QC.2 (by omega)
theorem zdk{f:Nat->Nat}{i j:Nat}:zh (jT n f) i j=(decide (i<n)&&(f i).testBit j):=by
 unfold zh jT;dsimp only
 split
 ·rename_i h;rw[Up h];rfl
 ·rename_i h;rw[Ue h,QA];rfl
theorem zc9{p:Nat->Nat->Bool}{i j:Nat}:zh (zcm n p) i j=(decide (i<n)&&(decide (j<n)&&p i j)):=by
 unfold zcm;rw[zdk,zhC]
theorem RelOk.pick(h:n<=48)(p:Nat->Nat->Bool):RelOk n (zcm n p):=by
 refine .of rfl h (fun i j _ c=>?_) (zfF (by omega));rw[zc9] at c;simp only[bAT,dE] at c;exact⟨c.1,c.2.1⟩
theorem zhP{f:Nat->Nat}(ha:RelOk n a)(hb:RelOk n b):comb a b f=(jT n f,0):=by
 unfold comb;have e:a.n.toNat=n:=by have:=ha.n;omega
 rw[Up (ha.n.trans hb.n.symm),ha.ok,hb.ok,Gn (show(true&&(true&&true))=true from rfl),e]
theorem RelOk.comb{f:Nat->Nat}(ha:RelOk n a)(hb:RelOk n b)(hf:∀i j,i<n->(f i).testBit j=true->j<n):RelOk n (comb a b f).1:=by
 rw[zhP ha hb];have e:=ha.le;have c:∀i j,zh (jT n f) i j=true->i<n/\j<n:=fun i j h=>by
  rw[zdk,bAT,dE] at h;exact⟨h.1,hf i j h.1 h.2⟩
 refine .of rfl e (fun i j _ h=>c i j h) fun i l=>?_;apply Qw;intro d;obtain⟨j,k,g⟩:=Ja d;have:=(c i j g).2;omega
theorem zet(ha:RelOk n a)(hb:RelOk n b){i j:Nat}(hi:i<n):zh (zav a b).1 i j=(zh a i j||zh b i j):=by
 unfold zav;rw[zhP ha hb];show zh (jT n _) i j=_;rw[zdk,Up hi,Uo];rfl
theorem RelOk.union(ha:RelOk n a)(hb:RelOk n b):RelOk n (zav a b).1:=ha.comb hb fun i j d h=>by
 rw[Uo,QD] at h;have c:=ha.le;rcases h with h | h
 ·exact(ha.bit (by omega) h).2
 ·exact(hb.bit (by omega) h).2
theorem ztQ(ha:RelOk n a)(hb:RelOk n b){i j:Nat}(hi:i<n):zh (zaZ a b).1 i j=(zh a i j&&zh b i j):=by
 unfold zaZ;rw[zhP ha hb];show zh (jT n _) i j=_;rw[zdk,Up hi,QY];rfl
theorem RelOk.both(ha:RelOk n a)(hb:RelOk n b):RelOk n (zaZ a b).1:=ha.comb hb fun i j d h=>by
 rw[QY,bAT] at h;have c:=ha.le;exact(ha.bit (by omega) h.1).2
theorem zaM(ha:RelOk n a){i j:Nat}(hi:i<64):zh (z6 a) i j=(decide (j<n)&&zh a j i):=by
 unfold zh;rw[zns ha.ok];have d:decide ((j:Int)<a.n)=decide (j<n):=QC.2 (by have:=ha.n;omega);have e:decide (i∈els (a.to j))=(a.to j).testBit i:=by
  cases h:(a.to j).testBit i with
  | true=>exact Up (jf.2 ⟨hi,h⟩)
  | false=>exact Ue fun c=>by rw [(jf.1 c).2] at h;cases h
 rw[d,e]
theorem RelOk.back(ha:RelOk n a):RelOk n (z6 a):=by
 have e:=ha.le;have c:∀i j,i<48->zh (z6 a) i j=true->i<n/\j<n:=fun i j g h=>by
  rw[zaM ha (by omega),bAT,dE] at h;exact⟨(ha.bit (by omega) h.2).2,h.1⟩
 refine .of ?_ e c fun i g=>?_
 ·unfold z6;rw[Gn ha.ok];exact ha.n
 ·apply Qw;intro d;obtain⟨j,k,f⟩:=Ja d;have:=(c i j g f).2;omega
theorem zgH{tq:Nat->Nat}{j:Nat}:∀(l:List Nat) (t:Nat),(l.foldl (fun t a=>t|||tq a) t).testBit j=(t.testBit j||l.any fun a=>(tq a).testBit j)
 | [],t=>by simp
 | a::l,t=>by rw [QI,zgH l,Uo,Uy,Bool.or_assoc]
theorem zhZ(ha:RelOk n a)(hb:RelOk n b){i j:Nat}(hi:i<n):zh (jq a b).1 i j=true↔∃k,k<n/\zh a i k=true/\zh b k j=true:=by
 unfold jq;rw[zhP ha hb];show zh (jT n _) i j=true↔_;have f:=ha.le;rw[zdk,Up hi,Uv];unfold zea;rw[zgH,QA,Us,Qh];constructor
 ·rintro⟨k,c,h⟩;exact⟨k,(ha.bit (by omega) (jf.1 c).2).2,(jf.1 c).2,h⟩
 ·rintro⟨k,c,d,e⟩;exact⟨k,jf.2 ⟨by omega,d⟩,e⟩
theorem RelOk.then(ha:RelOk n a)(hb:RelOk n b):RelOk n (jq a b).1:=ha.comb hb fun i j e h=>by
 have d:=ha.le;unfold zea at h;rw[zgH,QA,Us,Qh] at h;obtain⟨k,c,h⟩:=h;have:=(ha.bit (by omega) (jf.1 c).2).2;exact(hb.bit (by omega) h).2
theorem zkg{tq:Nat->Nat}:∀(l:List Nat) (s:Nat),l.foldl (fun s a=>if tq a=0 then s else s|||2^a) s=0↔s=0/\∀i∈l,tq i=0
 | [],s=>by simp
 | a::l,s=>by
  rw[QI,zkg l];by_cases h:tq a=0
  ·rw[Gn h];simp[h]
  ·rw[Gm h];have:s|||2^a≠0:=fun e=>by
    have c:=Gi (fun s=>s.testBit a) e;simp only[Uo,zaf,QA,decide_true,Bool.or_true] at c
    cases c
   simp[h,this]
theorem zrh(ha:RelOk n a):zbG a=true↔∀i j,i<n->j<n->zh a i j=false:=by
 have d:=ha.le;have e:a.n.toNat=n:=by have:=ha.n;omega
 unfold zbG zkh;rw[ha.ok,Uv,dE,Gn rfl,e,zkg];constructor
 ·rintro⟨_,h⟩ i j c _;unfold zh;rw[h i (Ul.2 c),QA]
 ·intro h;refine⟨rfl,fun i c=>Kc fun j=>?_⟩;have c:=Ul.1 c;rw[QA]
  cases hb:(a.to i).testBit j with
  | false=>rfl
  | true =>
   have:=h i j c (ha.bit (by omega) hb).2;unfold zh at this;rw[hb] at this;cases this
def zud (before:Nat->Nat) (left:Nat):Prop:=∀S,S≠0->S&&&left=S->∃i∈els S,before i&&&S=0
theorem zoZ{before:Nat->Nat}:∀(m left:Nat) (l:List Nat),left<2^64->(els left).length<=m->((zkM before m left l).isSome=true↔zud before left)
 | 0,left,l,h64,hm=>by
  have o:left=0:=zdG h64 (by rw[Qo];exact List.length_eq_zero_iff.1 (by omega));subst o;exact⟨fun _ S f c=>Gp c.symm (by rw[Nat.and_zero];exact f),fun _=>rfl⟩
 | m+1,left,l,h64,hm=>by
  by_cases o:left=0
  ·subst o;have e:zkM before (m+1) 0 l=some l:=Gn rfl;rw[e];exact⟨fun _ S f c=>Gp c.symm (by rw[Nat.and_zero];exact f),fun _=>rfl⟩
  have e:zkM before (m+1) left l=match zcH before left with | none=>none | some a=>zkM before m (jU left (2^a)) (l++[a]):=Gm o
  rw[e]
  cases hf:zcH before left with
  | none =>
   refine⟨fun h=>(by cases h),fun h=>?_⟩;obtain⟨i,z,q⟩:=h left o (Nat.and_self _);unfold zcH at hf;rw[List.find?_eq_none] at hf;exact Gp (Up q) (hf i z)
  | some k =>
   have x:=zmQ hf;have s:before k&&&left=0:=by
    unfold zcH at hf;have:=List.find?_some hf;exact dT this
   have d:=zox x;have y:=zaL h64 x;have p:∀S,S&&&je left (2^k)=S->S&&&left=S:=fun S h=>by
    rw[<- h];unfold je;apply Kc;intro j;simp only[QY]
    cases S.testBit j <;> cases left.testBit j <;> simp
   dsimp only;rw[zbq,zoZ m (je left (2^k)) (l++[k]) (zay h64) (by omega)];constructor
   ·intro h S f c;by_cases g:k∈els S
    ·refine⟨k,g,?_⟩;rw[<- c,Nat.and_comm S left,<- Nat.and_assoc,s,Nat.zero_and]
    ·refine h S f (Kc fun j=>?_);rw[QY]
     cases q:S.testBit j with
     | false=>rfl
     | true =>
      have u:left.testBit j=true:=by
       have w:=q;rw[<- c,QY,bAT] at w;exact w.2
      have t:j<64:=by
       apply Qw;intro t;have:=JF (nL h64 (Ke (by decide) t));rw[this] at u;cases u
      have v:¬j=k:=fun e=>g (jf.2 ⟨d,by rw[<- e];exact q⟩);rw[zbi (qc d) t,u,zaf,Ue v];rfl
   ·exact fun h S f c=>h S f (p S c)
theorem zhS(ha:RelOk n a):zaU a=true↔zud (z6 a).to (zaT n):=by
 have c:=ha.le;unfold zaU zfs;rw[Gn ha.ok,za8,ha.n];refine zoZ 64 _ _ (za7 _) ?_;unfold els;have:=JK (fun i=>(zaT n).testBit i) (List.range 64);rw[KU] at this;exact this
theorem zt3(ha:RelOk n a)(hb:RelOk n b)(hs:∀i j,i<n->j<n->zh b i j=true->zh a i j=true)(h:zaU a=true):zaU b=true:=by
 have p:=ha.le;rw[zhS ha] at h;rw[zhS hb];intro S q m;obtain⟨i,g,o⟩:=h S q m;refine⟨i,g,Kc fun j=>?_⟩;have e:=Gi (fun s=>s.testBit j) o;simp only[QY,QA] at e ⊢
 cases hj:S.testBit j with
 | false=>rw [Uf]
 | true =>
  rw[hj,Bool.and_true] at e;rw[Bool.and_true];have c:=zox g;have l:=zaM ha (i:=i) (j:=j) c;have k:=zaM hb (i:=i) (j:=j) c;unfold zh at l k hs;rw[l] at e;rw[k];by_cases d:j<n
  ·rw[Up d,Uv] at e ⊢
   cases hbj:(b.to j).testBit i with
   | false=>rfl
   | true =>
    have f:=(hb.bit (i:=j) (j:=i) (by omega) hbj).2;rw[hs j i d f hbj] at e;cases e
  ·rw[Ue d];rfl
end
structure WX (x:ExD):Prop where
 po:zK x.po.to
 rf:zK x.rf.to
 co:zK x.co.to
 dt:zK x.dt.to
 ct:zK x.ct.to
 rm:zK x.rm.to
structure XOk (x:ExD):Prop where
 n:x.ev.length<=48
 po:RelOk x.ev.length x.po
 rf:RelOk x.ev.length x.rf
 co:RelOk x.ev.length x.co
 dt:RelOk x.ev.length x.dt
 ct:RelOk x.ev.length x.ct
 rm:RelOk x.ev.length x.rm
 ev:jE x.ev (qz x.ev)=true
 poE:jy x.po (poR x.ev)=true
 rfR:za2 x=true
 coR:zai x (qz x.ev)=true
 dep:zaY x=true
section
variable{x:ExD}
theorem znD(hw:WX x)(h:j0 x=true):XOk x:=by
 unfold j0 zbg at h;simp only[Ux,List.all_nil,Bool.and_true,bAT,dE] at h;obtain⟨m,_,_,l,⟨g,i,k,j,f,a⟩,c,e,d,b⟩:=h;exact⟨m,⟨g.1,g.2,hw.po⟩,⟨i.1,i.2,hw.rf⟩,⟨k.1,k.2,hw.co⟩,⟨j.1,j.2,hw.dt⟩,⟨f.1,f.2,hw.ct⟩,⟨a.1,a.2,hw.rm⟩,l,c,e,d,b⟩
theorem zm6{W:Nat}{e:Ev}{es:List Ev}{i h:Nat}(hd:zbS x W i (e::es) h=true):(¬(x.dt.to i|||x.ct.to i|||x.rm.to i=0)->e.k=1)/\∃h',zbS x W (i+1) es h'=true:=by
 unfold zbS at hd;dsimp only at hd
 split at hd
 ·rename_i c;exact⟨fun a=>(a c).elim,h,hd⟩
 ·split at hd
  ·rename_i b;refine⟨fun _=>b.1,?_⟩
   split at hd
   ·exact⟨h,hd⟩
   ·split at hd
    ·exact⟨_,hd⟩
    ·cases hd
  ·cases hd
theorem zm5{W:Nat}:∀(es:List Ev) (i h:Nat),zbS x W i es h=true->∀k,k<es.length->¬(x.dt.to (i+k)|||x.ct.to (i+k)|||x.rm.to (i+k)=0)->(es.getD k ev0).k=1
 | [],_,_,_,k,hk,_=>by simp at hk
 | e::es,i,h,hd,0,_,hne=>(zm6 hd).1 hne
 | e::es,i,h,hd,k+1,hk,hne=>by
  obtain⟨b,a⟩:=(zm6 hd).2;have:=zm5 es (i+1) b a k (by simpa using hk) (by rw[show i+1+k=i+(k+1) by omega];exact hne);simpa using this
theorem zvC(h:XOk x){a b:Nat}(ha:a<x.ev.length)(hb:zh x.dt a b=true\/zh x.ct a b=true\/zh x.rm a b=true):isR x a=true:=by
 refine Up (zm5 x.ev 0 0 h.dep a ha fun d=>?_);rw[UQ] at d;have c:=Gi (fun s=>s.testBit b) d;simp only[Uo,QA,Bool.or_eq_false_iff] at c;unfold zh at hb;rw[c.1.1,c.1.2,c.2] at hb;rcases hb with h | h | h <;> cases h
def zaR:List (Nat×Nat):=[(2,3),(3,4),(4,6),(2,5),(6,1),(5,1)]
theorem zs1(h:XOk x){f l s:RelD}{a b:Nat}(ha:a<x.ev.length){p:Nat×Nat}(hp:p∈zaR)(hk:zdd p.2 x f l s a b=true):zdd p.1 x f l s a b=true:=by
 have c:=zvC h (b:=b) ha;simp only[zaR,UA,Qs,Gk] at hp;rcases hp with rfl | rfl | rfl | rfl | rfl | rfl
 ·rfl
 ·simp only[zdd,QD,bAT] at hk ⊢;rcases hk with h | h | h
  ·exact .inl h
  ·exact .inr (.inr h)
  ·exact .inr (.inl h.1)
 ·simp only[zdd,zaE,QD,bAT] at hk ⊢;rcases hk with h | h | h | h | h | h
  ·exact .inl (c (.inl h))
  ·exact .inl (c (.inr (.inl h.1)))
  ·exact .inl (c (.inr (.inr h)))
  ·exact .inr (.inl (.inl h))
  ·exact .inl h.2.1
  ·exact .inr (.inr ⟨h.2.2,.inr h.1⟩)
 ·rfl
 ·exact(Kv hk).elim
 ·exact(Kv hk).elim
theorem zeb(h:XOk x):RelOk x.ev.length (frM x):=h.rf.back.then h.co
theorem zs0(h:XOk x){p:Nat×Nat}(hp:p∈zaR){i j:Nat}(hk:zh (zaz p.2 x) i j=true):zh (zaz p.1 x) i j=true:=by
 unfold zaz at hk ⊢;rw[zc9] at hk ⊢;simp only[bAT,dE] at hk ⊢;exact⟨hk.1,hk.2.1,hk.2.2.1,hk.2.2.2.1,hk.2.2.2.2.1,zs1 h hk.1 hp hk.2.2.2.2.2⟩
theorem zbB{n:Nat}:∀{l:List RelD} {r:RelD},RelOk n r->(∀o∈l,RelOk n o)->RelOk n (qy r l)
 | [],_,h,_=>h
 | o::l,r,h,hl=>zbB (l:=l) (r:=(zav r o).1) (h.union (hl o KA)) fun y a=>hl y (JV _ a)
theorem zce{n i j:Nat}(hi:i<n):∀{l:List RelD} {r:RelD},RelOk n r->(∀o∈l,RelOk n o)->zh (qy r l) i j=(zh r i j||l.any fun o=>zh o i j)
 | [],_,_,_=>by rw [List.any_nil,Uu];rfl
 | o::l,r,h,hl=>by
  have a:=hl o KA;have:=zce (j:=j) hi (l:=l) (r:=(zav r o).1) (h.union a) fun y b=>hl y (JV _ b);show zh (qy (zav r o).1 l) i j=_;rw[this,zet h a hi,Uy,Bool.or_assoc]
theorem zvn(h:XOk x){r:RelD}(hr:RelOk x.ev.length r):RelOk x.ev.length (zdE x r):=by
 have e:r.n.toNat=x.ev.length:=by have:=hr.n;omega
 unfold zdE;rw[e];exact .pick h.n _
theorem zpN{r:RelD}{i j:Nat}(hk:zh (zdE x r) i j=true):zh r i j=true:=by
 unfold zdE at hk;rw[zc9] at hk;simp only[bAT] at hk;exact hk.2.2.1
def zqP (m:Nat) (x:ExD):RelD:=qy (zaz m x) [if m=2 then x.rf else zdE x x.rf,x.co,frM x]
theorem zqX{A B C:Bool}{m:Nat}:(if A=true then(if B=true then(if m=1 then 0 else if C=true then 0 else 3) else 2) else 1)=0↔A=true/\B=true/\(m=1\/C=true):=by
 by_cases h:m=1 <;> cases A <;> cases B <;> cases C <;> simp[h]
theorem zcv{m:Nat}:jl m x=0↔zaU (qy (zag x) [x.rf,x.co,frM x])=true/\zbG (zaZ x.rm (jq (frM x) x.co).1).1=true/\(m=1\/zaU (zqP m x)=true):=by
 unfold jl zqP;exact zqX
theorem zuK(h:XOk x){m:Nat}:RelOk x.ev.length (if m=2 then x.rf else zdE x x.rf):=by
 split
 ·exact h.rf
 ·exact zvn h h.rf
theorem zd0(h:XOk x){m:Nat}:∀o∈[if m=2 then x.rf else zdE x x.rf,x.co,frM x],RelOk x.ev.length o:=by
 simp only[UA,Qs,Gk,forall_eq_or_imp,forall_eq];exact⟨zuK h,h.co,zeb h⟩
theorem zd8(h:XOk x){m:Nat}:RelOk x.ev.length (zaz m x) := .pick h.n _
theorem zuP(h:XOk x){p:Nat×Nat}(hp:p∈zaR)(h1:p.2≠1){i j:Nat}(hi:i<x.ev.length)(hk:zh (zqP p.2 x) i j=true):zh (zqP p.1 x) i j=true:=by
 unfold zqP at hk ⊢;rw[zce hi (zd8 h) (zd0 h)] at hk ⊢;simp only[Uy,List.any_nil,Uu,QD] at hk ⊢;rcases hk with hk | hk | hk
 ·exact .inl (zs0 h hp hk)
 ·refine .inr (.inl ?_);have a:p.2≠2:=by
   simp only[zaR,UA,Qs,Gk] at hp;rcases hp with rfl | rfl | rfl | rfl | rfl | rfl <;> decide
  rw[Gm a] at hk
  split
  ·exact zpN hk
  ·exact hk
 ·exact .inr (.inr hk)
theorem zjw(h:XOk x){p:Nat×Nat}(hp:p∈zaR)(hb:jl p.1 x=0):jl p.2 x=0:=by
 rw[zcv] at hb ⊢;refine⟨hb.1,hb.2.1,?_⟩;by_cases a:p.2=1
 ·exact .inl a
 ·have d:p.1≠1:=by
   simp only[zaR,UA,Qs,Gk] at hp;rcases hp with rfl | rfl | rfl | rfl | rfl | rfl <;> decide
  refine .inr (zt3 (zbB (zd8 h) (zd0 h)) (zbB (zd8 h) (zd0 h)) (fun i j b _ c=>zuP h hp a b c) (hb.2.2.resolve_left d))
theorem zg4{p:Nat×Nat}(hp:p∈zaR):zbb p.1=true/\zbb p.2=true:=by
 simp only[zaR,UA,Qs,Gk] at hp;rcases hp with rfl | rfl | rfl | rfl | rfl | rfl <;> exact⟨rfl,rfl⟩
theorem zkH(hw:WX x){p:Nat×Nat}(hp:p∈zaR)(h:zaA p.1 x=true):zaA p.2 x=true:=by
 unfold zaA at h ⊢;rw[(zg4 hp).1,Uv,bAT,dE] at h;rw[(zg4 hp).2,Uv,bAT,dE];exact⟨h.1,zjw (znD hw h.1) hp h.2⟩
end
section
variable{n:Nat}{a b:RelD}{x:ExD}
theorem zgs(h:jy a b=true){i j:Nat}(hi:i<48):zh a i j=zh b i j:=by
 unfold jy at h;rw[bAT,Qg] at h;have:=dT (h.2 i (Ul.2 hi));unfold zh;rw[this]
theorem zlJ{t:Int}:∀(es:List Ev) (j s k:Nat),(ziq t j es s).testBit k=true↔s.testBit k=true\/∃m,m<es.length/\k=j+m/\(es.getD m ev0).th=t
 | [],j,s,k=>by
  show s.testBit k=true↔_;simp
 | e::es,j,s,k=>by
  show(ziq t (j+1) es (if e.th=t then s|||2^j else s)).testBit k=true↔_;rw[zlJ es];have g:(if e.th=t then s|||2^j else s).testBit k=true↔s.testBit k=true\/(k=j/\e.th=t):=by
   split
   ·rename_i h;rw[Uo,zaf,QD,dE];simp[h]
   ·rename_i h;simp[h]
  rw[g];constructor
  ·rintro((h | ⟨c,f⟩) | ⟨m,c,f,d⟩)
   ·exact .inl h
   ·exact .inr ⟨0,by simp,c,f⟩
   ·exact .inr ⟨m+1,by simpa using c,by omega,by simpa using d⟩
  ·rintro(h | ⟨m,c,f,d⟩)
   ·exact .inl (.inl h)
   ·cases m with
    | zero=>exact .inl (.inr ⟨f,d⟩)
    | succ m=>exact .inr ⟨m,by simpa using c,by omega,by simpa using d⟩
theorem zoa(h:XOk x){i j:Nat}(hi:i<x.ev.length):zh x.po i j=true↔(evA x i).th ≠ -1/\i<j/\j<x.ev.length/\(evA x j).th=(evA x i).th:=by
 have l:=h.n;rw[zgs h.poE (by omega)];have k:x.ev[i]?=some (evA x i):=by
  rw[gE hi];unfold evA;rw[gDe,gE hi];rfl
 show(zb3 x.ev i).testBit j=true↔_;unfold zb3;rw[k];dsimp only;by_cases c:(evA x i).th = -1
 ·rw[Gn c];simp[c]
 ·rw[Gm c,zlJ,QA];have e:∀m,(x.ev.drop (i+1)).getD m ev0=evA x (i+1+m):=fun m=>by
   unfold evA;rw[gDe,gDe,Kx]
  constructor
  ·rintro(h | ⟨m,g,f,d⟩)
   ·cases h
   ·rw[e] at d;rw[Qq] at g;subst f;exact⟨c,by omega,by omega,d⟩
  ·rintro⟨_,g,f,d⟩;refine .inr ⟨j-(i+1),by rw[Qq];omega,by omega,?_⟩;rw[e,show i+1+(j-(i+1))=j by omega];exact d
theorem zhc{key:Nat->Nat}{y:Nat}:∀r:List Nat,(jv key r y).Perm (y::r)
 | [] => .refl _
 | z::r=>by
  unfold jv
  split
  ·exact((zhc r).cons z).trans (.swap y z r)
  ·exact .refl _
theorem zkc{key:Nat->Nat}:∀(l acc:List Nat),(l++acc).Nodup->(l.foldl (fun acc x=>jv key acc x) acc).Nodup
 | [],acc,h=>h
 | y::l,acc,h=>zkc l _ (by
   have p:(l++jv key acc y).Perm (y::l++acc):=((zhc acc).append_left l).trans List.perm_middle;exact p.nodup_iff.2 h)
theorem zik(l:Nat):(zR x l).Nodup:=by
 unfold zR zdT;refine(List.reverse_perm _).nodup_iff.2 (zkc _ _ ?_);rw[QG];exact List.nodup_range.filter _
theorem zj9:∀(l:List Nat) (f:Nat->Nat) (b:Nat) (P:List Nat),(P++l).Nodup->(∀j,b.testBit j=true->j∈P)->∀i j,(zeT l f b i).testBit j=true->(f i).testBit j=true\/(i∈l/\j∈P++l/\i≠j)
 | [],f,b,P,_,_,i,j,h => .inl h
 | y::l,f,b,P,hn,hb,i,j,h=>by
  have k:((P++[y])++l).Nodup:=by rw[KN];exact hn
  have g:y ∉ P:=fun g=>by
   rw[List.nodup_append] at hn;exact hn.2.2 y g y KA rfl
  have:=zj9 l (upd f y b) (b|||2^y) (P++[y]) k (fun j c=>by
   rw[Uo,zaf,QD,dE] at c;rcases c with c | c
   ·exact JU _ (hb j c)
   ·rw[c];simp) i j h
  rcases this with d | ⟨d,o,p⟩
  ·by_cases m:i=y
   ·subst m;rw[zN] at d;have c:=hb j d;exact .inr ⟨by simp,JU _ c,fun e=>g (e▸c)⟩
   ·rw[qx _ _ m] at d;exact .inl d
  ·refine .inr ⟨JV _ d,?_,p⟩;rw[KN] at o;exact o
theorem zwr:∀(m l:Nat) (p q:RelD×(Nat->UInt8)),zf1 x m l p=some q->∀i j,zh q.1 i j=true->zh p.1 i j=true\/∃l,i∈zR x l/\j∈zR x l/\i≠j
 | 0,l,p,q,h,i,j,hb=>by
  have h:some p=some q:=h;rw[Uc h];exact .inl hb
 | m+1,l,p,q,h,i,j,hb=>by
  unfold zf1 at h
  split at h
  ·rcases zwr m (l+1) _ q h i j hb with c | c
   ·have c:(zeT (zR x l).reverse p.1.to 0 i).testBit j=true:=c;rcases zj9 _ _ 0 [] (by rw[QQ];exact(List.reverse_perm _).nodup_iff.2 (zik l)) (fun j d=>by rw[QA] at d;cases d) i j c with h2 | ⟨h2,h3,h4⟩
    ·exact .inl h2
    ·rw[QQ] at h3;exact .inr ⟨l,List.mem_reverse.1 h2,List.mem_reverse.1 h3,h4⟩
   ·exact .inr c
  ·cases h
theorem zii{l i:Nat}(h:i∈zR x l):isW x i=true/\(evA x i).l.toNat=l:=by
 have h:=zgl.1 h;unfold qa at h;have:=(QO.1 h).2;rw[bAT,dE,dE] at this;exact⟨Up this.1,this.2⟩
theorem zfZ(h:XOk x){i j:Nat}(hi:i<x.ev.length)(hb:zh x.co i j=true):isW x i=true/\isW x j=true/\(evA x i).l=(evA x j).l/\i≠j:=by
 have m:=h.n;have d:=h.coR;unfold zai at d
 split at d
 ·cases d
 ·rename_i p g;rw[bAT] at d;rw[<- zgs d.1 (by omega)] at hb;rcases zwr _ _ _ _ g i j hb with c | ⟨l,c,k,o⟩
  ·have c:(0:Nat).testBit j=true:=c;rw[QA] at c;cases c
  ·have f:=zii c;have e:=zii k;exact⟨f.1,e.1,Ud.1 (f.2.trans e.2.symm),o⟩
end
section
variable{b c:Nat}{x:ExD}{q:OA}{w:Wd}
theorem zw8{r:RelD}{a d R B:Nat}(fR:qb w R r)(hr:zK r.to)(fB:w.heap[B]?=some (.cells #[At0 b] 134 (0,0)))(fx:ExH w b x q c)(hv:ExW w x q)(ha:a<x.ev.length)(hd:d<x.ev.length) :
  CB 214 #[i64 (a:Nat),i64 (d:Nat),At0 R,At0 B] w (.bool (zh r a d && !decide ((evA x a).th=(evA x d).th))):=by
 refine zD 29 [i64 (a:Nat),i64 (d:Nat),At0 R,At0 B] Tryz.func214 ?_;have t:=hv.n;obtain⟨s,u,j,y,l⟩:=zcW hv.ev ha;obtain⟨p,o,f,m,g⟩:=zcW hv.ev hd;rw[j] at f;simp only[KY,Ur,Gh] at f;rw[<- f.1,<- f.2] at g;subst j;have k:Bw w w.drew:=(Gb _ _).drew;refine DrawE.ord [] [0,1,2,3,4,5,6,7,8,9,10,11,12,13,14,15,16,17,18,19,20,21,22] (by kernel_rfl) (cmo (zX (zqI (hdr fR)) hr (by omega) (by omega)) ?_);rintro e _ ⟨rfl,rfl⟩;refine⟨Gb _ _,biE (fun h=>?_) fun h=>?_⟩
 ·have h:zh r a d=true:=h;exact⟨At0 b,zc (za (hdr fB)) (i:=0) rfl,_,za5 (za (hdr fx)),a,rfl,ha,i64 (evA x a).th,by have:=zc (zw k l) (i:=0) (v:=i64 (evA x a).th) rfl;exact this,At0 b,zc (za (hdr fB)) (i:=0) rfl,_,za5 (za (hdr fx)),d,rfl,hd,i64 (evA x d).th,by have:=zc (zw k g) (i:=0) (v:=i64 (evA x d).th) rfl;exact this,rb (by rw[h,Uv]),k⟩
 ·have h:zh r a d=false:=h;exact⟨rb (by rw[h,Ug]),k⟩
theorem zrz{a d B:Nat}(fB:w.heap[B]?=some (.cells #[At0 b] 134 (0,0)))(fx:ExH w b x q c)(hv:ExW w x q)(ha:a<x.ev.length)(hd:d<x.ev.length) :
  CB 156 #[i64 (a:Nat),i64 (d:Nat),At0 B] w (.bool (zh x.po a d&&zby x a d)):=by
 refine zD 18 [i64 (a:Nat),i64 (d:Nat),At0 B] Tryz.func156 ?_;have h:=hv.n;refine⟨At0 b,zc (za fB) (i:=0) rfl,cmo (zX (zgM (za fx) (ztl x q c)) hv.po (by omega) (by omega)) ?_⟩;rintro e _ ⟨rfl,rfl⟩;refine biE (fun f=>?_) fun f=>?_
 ·have f:zh x.po a d=true:=f;refine⟨At0 b,zc (za fB) (i:=0) rfl,cmo (zsi (za fx) hv.ev ha hd) ?_⟩;rintro e X ⟨rfl,g⟩;exact⟨rb (by rw[f,Uv]),g⟩
 ·have f:zh x.po a d=false:=f;exact⟨rb (by rw[f,Ug]),Gb _ _⟩
theorem zx3{r:RelD}(fx:ExH w b x q c)(hv:ExW w x q)(hr:zK r.to)(hn:r.n=x.ev.length) :
  CB 164 #[At0 b,.agg (zf r).toArray] w (.agg (zf (zdE x r)).toArray):=by
 refine qA 9 [At0 b,.agg (zf r).toArray] (.c .p (.c .p .p)) Tryz.func164 ?_;obtain⟨L,k⟩:=nm (w.heap.size);have aa:=hv.n;refine⟨Unit,fun _=>⟨[(2,At0 L),(3,At0 (L+1)),(4,At0 (L+2))],[]⟩,fun _ X=>X.heap[L]?=some (.cells #[At0 b] 134 (0,0))/\qb X (L+1) r/\qb X (L+2) zC/\Bw w X,?_,?_⟩
 ·have z:=wz w (.cells #[At0 b] 134);have o:=wz (w.alloc (.cells #[At0 b] 134)) (.cells (zf r).toArray 76);have y:Bw w (w.alloc (.cells #[At0 b] 134)):=zba w _;have t:=y.alloc y.size (.cells (zf r).toArray 76);have h1:=zt w (.cells #[At0 b] 134);have u:=zt (w.alloc (.cells #[At0 b] 134)) (.cells (zf r).toArray 76);have h3:=zt ((w.alloc (.cells #[At0 b] 134)).alloc (.cells (zf r).toArray 76)) (.cells (zf zC).toArray 76);rw[z] at u o;rw[o] at h3;refine⟨(),⟨.cons (by rw[k];rfl) (.cons (by rw[k,<- z];rfl) (.cons (by rw[k,<- o];rfl) .nil)),rfl⟩,by rw[k];exact qO _ (qO _ h1),by rw[k];exact qO _ u,by rw[k];exact h3,t.alloc t.size _⟩
 rintro _ X ⟨fB,s,j,h⟩;have fX:=zb h fx;have m:=hv.below h;refine⟨Unit,fun _=>⟨[(4,At0 (L+2))],[]⟩,fun _ Y=>qb Y (L+2) (zdE x r)/\Bw w Y,?_,?_⟩
 ·refine⟨i64 r.n,by have:=zc (za s) (i:=0) (v:=i64 r.n) rfl;exact this,?_⟩;have en:zdE x r=zcm x.ev.length fun a d=>zh r a d && !decide ((evA x a).th=(evA x d).th):=by
   unfold zdE;rw[hn];rfl
  rw[hn];refine cmo (zob (n:=x.ev.length) (caps := #[At0 (L+1),At0 L]) (g:=214) (p:=fun a d=>zh r a d && !decide ((evA x a).th=(evA x d).th)) (by omega) (by kernel_rfl) fun a d Z ha hd l=>zw8 (zb l s) hr (zb l fB) (zb l fX) (m.below l) ha hd) ?_;rintro e Y ⟨rfl,f⟩;rw[<- en];have j:=zb f j;exact zp (v := .agg (zf (zdE x r)).toArray) k76 j (zg _) (zg _) (zH _) ⟨(),(cvE rfl rfl),zn j,zk ((zst h f)) (by omega) _⟩
 rintro _ Y ⟨j,f⟩;exact⟨zf (zdE x r),zg _,za j,rfl,f⟩
end
section
variable{b c:Nat}{x:ExD}{q:OA}{w:Wd}
theorem zti{md:UInt8}(fx:ExH w b x q c)(hv:ExW w x q)(hT:Tz64M w):CB 215 #[At0 b,u8 md] w (.agg (zf (zV x md)).toArray):=by
 refine qA 70 [At0 b,u8 md] (.c .p (.c .p (.c .p (.c .p (.c .p (.c .p (.c .p .p))))))) Tryz.func215 ?_;obtain⟨L,hL⟩:=nm (w.heap.size);have hn:=hv.n;obtain⟨n,hnn⟩:=nm (x.ev.length);refine⟨Unit,fun _=>⟨[(0,At0 b),(1,u8 md),(4,At0 L)],[]⟩,fun _ X=>qb X L zC/\Bw w X,⟨(),⟨.cons rfl (.cons rfl (.cons (by rw[hL];rfl) .nil)),rfl⟩,by rw[hL];exact zt w _,(zba w _)⟩,?_⟩;rintro _ X ⟨f0,hbX⟩;refine⟨Unit,fun _=>⟨[(0,At0 b),(1,u8 md),(4,At0 L),(5,i64 n)],[]⟩,fun _ Y=>X=Y,?_,?_⟩
 ·exact⟨_,zc (za (zb hbX fx)) (i:=0) rfl,(),⟨.cons rfl (.cons rfl (.cons rfl (.cons (by rw[hnn];rfl) .nil))),rfl⟩,rfl⟩
 rintro _ _ rfl;refine⟨Unit,fun _=>⟨[(0,At0 b),(1,u8 md),(4,At0 L),(5,i64 n),(6,.slice none 0 0)],[]⟩,fun _ Y=>X=Y,⟨(),(cvE rfl rfl),rfl⟩,?_⟩;rintro _ _ rfl;obtain⟨pr,hpr⟩:∃pr:Nat->Bool,pr=fun i=>decide ((evA x i).k=3)&&decide ((evA x i).m=md):=⟨_,rfl⟩;obtain⟨B,hB⟩:=nm (X.heap.size);refine⟨OA×Nat,fun s=>⟨[(0,At0 b),(4,At0 L),(5,i64 n),(6,.slice s.1 ((List.range n).filter pr).length s.2)],[]⟩,fun s V=>OwnS zF 3 B V s.1 s.2 ((List.range n).filter pr)/\Below B X V,?_,?_⟩
 ·refine⟨_,zc (za (zb hbX fx)) (i:=0) rfl,?_⟩;refine⟨Nat×OA×Nat,fun s=>⟨[(0,At0 b),(1,u8 md),(4,At0 L),(5,i64 n),(6,.slice s.2.1 ((List.range s.1).filter pr).length s.2.2),(23,.slice q x.ev.length c),(24,i64 x.ev.length),(25,i64 (s.1:Nat))],[]⟩,fun s V=>s.1<=x.ev.length/\OwnS zF 3 B V s.2.1 s.2.2 ((List.range s.1).filter pr)/\Below B X V,fun s=>x.ev.length-s.1,(0,none,0),
   (cvE rfl rfl),⟨UZ _,OwnS.nil,by rw[hB];exact Gb _ _⟩,?_⟩
  rintro⟨k,ps,cs⟩ V ⟨hk,oV,hbV⟩;dsimp only at hk oV ⊢;have hVs:B<=V.heap.size:=by have:=hbV.size;omega
  refine biE (fun hc=>?_) fun hc=>?_
  ·have hc:(k:Int)<(x.ev.length:Int):=dT hc;have hkl:k<x.ev.length:=by omega
   have hbwV:=hbX.trans (hbV.mono (by rw[hB];exact hbX.size));obtain⟨bq,oq,hqe,hb,hat⟩:=zcW (hv.ev.below hbwV) hkl;have hfl:(List.range (k+1)).filter pr=(List.range k).filter pr++if pr k=true then[k] else[]:=by
    rw[QS,Kw,Qk,List.filter_nil]
   have hprk:pr k=(decide ((evA x k).k=3)&&decide ((evA x k).m=md)):=by rw[hpr]
   have hll2:((List.range k).filter pr).length<=k:=by
    have:=JK pr (List.range k);rw[KU] at this;exact this
   obtain⟨e,he⟩:=nm (evA x k);rw[<- he] at hat hprk;have eq0:some (Value.slice q x.ev.length c)=some (Value.slice (some ⟨bq,oq,none⟩) x.ev.length c):=by rw[hqe]
   subst hqe;refine⟨k,rfl,hkl,evE.enc e,rfl,hat,hb,zo (X:=V) (v := .agg (evE.enc e).toArray) k80 rfl rfl (Qg.2 fun u hu=>evE.one e u hu) fun U hbU fU sU=>?_⟩;have fU:U.heap[V.heap.size]?=some (.cells (evE.enc e).toArray 80 (0,0)):=fU;have oU:=oV.below hbU;have hbU2:=hbV.trans (hbU.mono hVs);have hUs:B<=U.heap.size:=by have:=hbU.size;omega
   have skip:pr k=false->(k+1<=x.ev.length/\OwnS zF 3 B U ps cs ((List.range (k+1)).filter pr)/\Below B X U):=fun h=>⟨hkl,by rw[hfl,h];simpa using oU,hbU2⟩;have skipE:pr k=false->((List.range (k+1)).filter pr).length=((List.range k).filter pr).length:=fun h=>by rw[hfl,h];simp
   refine⟨u8 e.k,zc (za fU) (i:=1) rfl,biE (fun h1=>?_) fun h1=>?_⟩
   ·have h1:e.k=3:=qS.1 (dT h1);refine⟨u8 e.m,zc (za fU) (i:=4) rfl,biE (fun h2=>?_) fun h2=>?_⟩
    ·have h2:e.m=md:=qS.1 (dT h2);have hp1:pr k=true:=(by rw[hprk,Up h1,Up h2];rfl);rw[Gn hp1] at hfl;refine⟨⟨by decide,by decide,rfl⟩,zF.enc k,rfl,?_⟩;have hb2:Bw U (U.alloc (.cells (zF.enc k).toArray 3)):=zba _ _;have sb2:=hb2.size;unfold zd1 zaN;show SatR _ _;refine zrE (oU.below hb2) (q9 zF k) (by omega) (by omega) fun p' c' S oS gS hat2=>?_;rw[za4] at gS;rw[<- hfl] at oS ⊢;exact nxI (by omega) ⟨(k+1,p',c'),(cvE rfl rfl),⟨hkl,oS,hbU2.trans ((hb2.mono hUs).trans (jo (oU.below hb2) (by omega) (UW _) gS))⟩,zdc (by omega)⟩
    ·have h2:¬e.m=md:=fun e2=>(dF h2) (by rw[e2]);have hp0:pr k=false:=(by rw[hprk,Ue h2,Uf]);exact nxI (by omega) ⟨(k+1,ps,cs),⟨.cons rfl (.cons rfl (.cons rfl (.cons rfl (.cons (by show _=some (Value.slice ps ((List.range (k+1)).filter pr).length cs);rw[skipE hp0];rfl) (.cons rfl (.cons rfl (.cons rfl .nil))))))),rfl⟩,skip hp0,zdc (by omega)⟩
   ·have h1:¬e.k=3:=fun e2=>(dF h1) (by rw[e2];rfl);have hp0:pr k=false:=(by rw[hprk,Ue h1];rfl);exact brF (nxI (by omega) ⟨(k+1,ps,cs),⟨.cons rfl (.cons rfl (.cons rfl (.cons rfl (.cons (by show _=some (Value.slice ps ((List.range (k+1)).filter pr).length cs);rw[skipE hp0];rfl) (.cons rfl (.cons rfl (.cons rfl .nil))))))),rfl⟩,skip hp0,zdc (by omega)⟩)
  ·have hc:¬(k:Int)<(x.ev.length:Int):=dF hc;obtain rfl:k=x.ev.length:=by omega
   rw[<- hnn] at oV ⊢;exact⟨(ps,cs),(cvE rfl rfl),oV,hbV⟩
 rintro⟨ps,cs⟩ V ⟨oV,hbV⟩;dsimp only at oV ⊢;have hVs:B<=V.heap.size:=by have:=hbV.size;omega
 have hbwV:=hbX.trans (hbV.mono (by rw[hB];exact hbX.size));have hmask:orG ((List.range n).filter pr)=zbN x md:=by rw[hpr,hnn];rfl
 have hlt64:∀i∈(List.range n).filter pr,i<64:=fun i hi=>by
  have:=Ul.1 (QO.1 hi).1;omega
 have hlen:((List.range n).filter pr).length<=n:=by
  have:=JK pr (List.range n);rw[KU] at this;exact this
 refine⟨Unit,fun _=>⟨[(0,At0 b),(4,At0 L),(5,i64 n),(9,s64 (zbN x md))],[]⟩,fun _ Y=>V=Y,?_,?_⟩
 ·refine cmo (zyP oV.row hlt64 (by omega)) ?_;rintro e Y ⟨rfl,rfl⟩;rw[hmask];exact⟨(),(cvE rfl rfl),rfl⟩
 rintro _ _ rfl;have hm64:zbN x md<2^64:=by rw[<- hmask];exact zsH hlt64
 replace f0:=zb (by subst hB;exact hbV) f0;have fV:=zb hbwV fx;have hvV:=hv.below hbwV;have hTV:=hT.below hbwV;clear oV hbX hbV hlen hlt64 hmask hpr hB hVs;clear B ps cs pr X;have idw:zK (idR n (zbN x md)).to:=fun i hi=>by
  unfold idR;exact zeL (fun i _ _=>KF QU hm64) i hi
 have hba:∀(A:Wd) (o:Obj),Bw A (A.alloc o):=fun A o=>(zba _ _);refine⟨Nat,fun F=>⟨[(0,At0 b),(4,At0 L),(11,At0 F)],[]⟩,fun F Z=>qb Z F (jq x.po (idR n (zbN x md))).1/\qb Z L zC/\Bw w Z,?_,?_⟩
 ·have dV:Bw V V.drew:=(Gb _ _).drew;have put:∀(W:Wd) (b3:Nat),Bw V W->qb W b3 zC->V.heap.size<=b3->∀{K:Wd->Prop},(∀Y,(qb Y b3 (jq x.po (idR n (zbN x md))).1/\qb Y L zC/\Bw w Y)->K Y) ->
    SatR ((storeVar 76 ⟨b3,0,none⟩ (.agg (zf (jq x.po (idR n (zbN x md))).1).toArray)).run PG W) fun _ w'=>K w':=by
   intro W b3 hW f3 g3 K k;refine zp (v := .agg (zf (jq x.po (idR n (zbN x md))).1).toArray) k76 f3 (zg _) (zg _) (zH _) ?_;have hL2:=hlt f0;exact k _ ⟨zn f3,(zr (by omega)).trans (zb hW f0),zk ((zst hbwV hW)) (by have:=hbwV.size;omega) _⟩
  refine DrawE.treeQ [12] (.op 0 (.op 1 (.op 2 (.op 3 (.op 4 (.op 5 (.alt (.op 11 (.op 6 (.op 7 (.op 8 (.op 9 (.op 10 (.op 12 (.op 13 (.nil))))))))) (.op 6 (.alt (.op 11 (.op 7 (.op 8 (.op 9 (.op 10 (.op 12 (.op 13 (.nil)))))))) (.op 7 (.op 8 (.op 9 (.op 10 (.op 11 (.op 12 (.op 13 (.nil))))))))))))))))) (by kernel_rfl) ⟨zf x.po,zg _,jQ (hdr fV) (i:=0) (by decide) rfl,hlt (hdr fV),Gf ?_ ?_⟩
  ·refine⟨hba _ _,?_⟩;have b1:=dV.alloc (UW _) (.cells (zf zC).toArray 76);refine cmo (zyj (n:=n) (by omega) hm64) ?_;rintro e Y ⟨rfl,hbY⟩;refine⟨hbY,?_⟩;have b2:=zst b1 hbY;refine cmo (zcY hvV.po idw (hTV.below b2)) ?_;rintro e Z ⟨rfl,hbZ⟩;exact⟨hbZ,put Z V.heap.size ((zst b2 hbZ)) (zb hbZ (zb hbY (zt V.drew _))) (UW _) (fun Y hY=>⟨V.heap.size,(cvE rfl rfl),hY⟩)⟩
  refine cmo (zyj (n:=n) (by omega) hm64) ?_;rintro e Y ⟨rfl,hbY⟩;refine⟨hbY,?_⟩;have b1:=zst dV hbY;refine Gf ?_ ?_
  ·refine⟨hba _ _,?_⟩;have b2:=b1.alloc b1.size (.cells (zf zC).toArray 76);refine cmo (zcY hvV.po idw (hTV.below b2)) ?_;rintro e Z ⟨rfl,hbZ⟩;exact⟨hbZ,put Z Y.heap.size ((zst b2 hbZ)) (zb hbZ (zt Y _)) b1.size (fun V2 hV=>⟨Y.heap.size,(cvE rfl rfl),hV⟩)⟩
  ·refine cmo (zcY hvV.po idw (hTV.below b1)) ?_;rintro e Z ⟨rfl,hbZ⟩;refine⟨hbZ,?_⟩;have b2:=zst b1 hbZ;exact⟨hba _ _,put _ Z.heap.size (b2.alloc b2.size _) (zt Z _) b2.size (fun V2 hV=>⟨Z.heap.size,(cvE rfl rfl),hV⟩)⟩
 clear f0 fV hvV hTV hbwV;clear V;rintro F V ⟨f1,f0,hbV⟩;have fV:=zb hbV fx;have hTV:=hT.below hbV;have hFw:=zdR hv.po idw;have efen:(jq (jq x.po (idR n (zbN x md))).1 x.po).1=zV x md:=by rw[hnn];rfl
 refine⟨Nat,fun G=>⟨[(4,At0 L),(13,At0 G)],[]⟩,fun G Z=>qb Z G (zV x md)/\qb Z L zC/\Bw w Z,?_,?_⟩
 ·have dV:Bw V V.drew:=(Gb _ _).drew;have put:∀(W:Wd) (b3:Nat),Bw V W->qb W b3 zC->V.heap.size<=b3->∀{K:Wd->Prop},(∀Y,(qb Y b3 (zV x md)/\qb Y L zC/\Bw w Y)->K Y) ->
    SatR ((storeVar 76 ⟨b3,0,none⟩ (.agg (zf (zV x md)).toArray)).run PG W) fun _ w'=>K w':=by
   intro W b3 hW f3 g3 K k;refine zp (v := .agg (zf (zV x md)).toArray) k76 f3 (zg _) (zg _) (zH _) ?_;have hL2:=hlt f0;exact k _ ⟨zn f3,(zr (by omega)).trans (zb hW f0),zk ((zst hbV hW)) (by have:=hbV.size;omega) _⟩
  refine DrawE.treeQ [10] (.op 0 (.op 1 (.op 2 (.op 3 (.op 4 (.alt (.op 9 (.op 5 (.op 6 (.op 7 (.op 8 (.op 10 (.op 11 .nil))))))) (.op 5 (.op 6 (.op 7 (.op 8 (.op 9 (.op 10 (.op 11 .nil))))))))))))) (by kernel_rfl) ⟨zf _,zg _,za (hdr f1),hlt (hdr f1),zf x.po,zg _,jQ (hdr fV) (i:=0) (by decide) rfl,hlt (hdr fV),Gf ?_ ?_⟩
  ·refine⟨hba _ _,?_⟩;have b1:=dV.alloc (UW _) (.cells (zf zC).toArray 76);refine cmo (zcY hFw hv.po (hTV.below b1)) ?_;rintro e Y ⟨rfl,hbY⟩;refine⟨hbY,?_⟩;rw[efen];exact put Y V.heap.size ((zst b1 hbY)) (zb hbY (zt V.drew _)) (UW _) (fun Y hY=>⟨V.heap.size,(cvE rfl rfl),hY⟩)
  ·refine cmo (zcY hFw hv.po (hTV.below dV)) ?_;rintro e Y ⟨rfl,hbY⟩;refine⟨hbY,?_⟩;have b1:=zst dV hbY;refine⟨hba _ _,?_⟩;rw[efen];exact put _ Y.heap.size (b1.alloc b1.size _) (zt Y _) b1.size (fun V2 hV=>⟨Y.heap.size,(cvE rfl rfl),hV⟩)
 rintro G Z ⟨f1,f0,hbZ⟩;exact⟨zf (zV x md),zg _,za f1,hlt f1,zp (v := .agg (zf (zV x md)).toArray) k76 f0 (zg _) (zg _) (zH _) ⟨zf (zV x md),zg _,za (zn f0),rfl,zk hbZ (by omega) _⟩⟩
end
section
variable{w:Wd}{b c:Nat}{x:ExD}{q:OA}{f l s:RelD}
theorem zuI{a d:Nat}:CB 282 #[At0 b,i64 (a:Nat),i64 (d:Nat)] w (.bool (zdd 1 x f l s a d)):=by
 refine zD 7 [At0 b,i64 (a:Nat),i64 (d:Nat)] Tryz.func282 ?_;exact⟨rfl,Gb _ _⟩
theorem zuH{a d:Nat}:CB 283 #[At0 b,i64 (a:Nat),i64 (d:Nat)] w (.bool (zdd 2 x f l s a d)):=by
 refine zD 7 [At0 b,i64 (a:Nat),i64 (d:Nat)] Tryz.func283 ?_;exact⟨rfl,Gb _ _⟩
theorem zuG{a d:Nat}(h:ScnV w b x q c f l s)(ha:a<x.ev.length)(hd:d<x.ev.length):CB 284 #[At0 b,i64 (a:Nat),i64 (d:Nat)] w (.bool (zdd 3 x f l s a d)):=by
 refine zD 21 [At0 b,i64 (a:Nat),i64 (d:Nat)] Tryz.func284 ?_;have m:=h.v.n;have o:a<48:=by omega
 have k:d<48:=by omega
 have j:=Gb w.heap.size w;refine cmo (ze1 h ha) ?_;rintro e _ ⟨rfl,rfl⟩;refine biE (fun g=>?_) fun g=>?_
 ·have g:isR x a=true:=g;exact brT ⟨rb (by show _=(isR x a||(isW x d||zaE x f a d));rw[g];rfl),j⟩
 ·have g:isR x a=false:=g;refine cmo (jK h hd) ?_;rintro e _ ⟨rfl,rfl⟩;refine biE (fun i=>?_) fun i=>?_
  ·have i:isW x d=true:=i;exact⟨rb (by show _=(isR x a||(isW x d||zaE x f a d));rw[g,i];rfl),j⟩
  ·have i:isW x d=false:=i;refine cmo (zqb h ha hd) ?_;rintro e _ ⟨rfl,rfl⟩;exact⟨rb (by show _=(isR x a||(isW x d||zaE x f a d));rw[g,i];rfl),j⟩
theorem zuF{a d:Nat}(h:ScnV w b x q c f l s)(ha:a<x.ev.length)(hd:d<x.ev.length):CB 288 #[At0 b,i64 (a:Nat),i64 (d:Nat)] w (.bool (zdd 4 x f l s a d)):=by
 refine zD 37 [At0 b,i64 (a:Nat),i64 (d:Nat)] Tryz.func288 ?_;have t:=h.v.n;have r:a<48:=by omega
 have p:d<48:=by omega
 have g:=Gb w.heap.size w;refine cmo (ze1 h ha) ?_;rintro e _ ⟨rfl,rfl⟩;refine biE (fun i=>?_) fun i=>?_
 ·have i:isR x a=true:=i;exact brT ⟨rb (by show _=(isR x a||(zaE x f a d||(isW x d&&(zby x a d||zh s a d))));rw[i];rfl),g⟩
 ·have i:isR x a=false:=i;refine cmo (zqb h ha hd) ?_;rintro e _ ⟨rfl,rfl⟩;refine biE (fun j=>?_) fun j=>?_
  ·have j:zaE x f a d=true:=j;exact⟨rb (by show _=(isR x a||(zaE x f a d||(isW x d&&(zby x a d||zh s a d))));rw[i,j];rfl),g⟩
  ·have j:zaE x f a d=false:=j;refine cmo (jK h hd) ?_;rintro e _ ⟨rfl,rfl⟩;refine biE (fun m=>?_) fun m=>?_
   ·have m:isW x d=true:=m;refine cmo (zsi h.cells h.v.ev ha hd) ?_;rintro e Z4 ⟨rfl,k⟩;have h:=h.below k;have g:=zst g k;refine biE (fun o=>?_) fun o=>?_
    ·have o:zby x a d=true:=o;exact⟨rb (by show _=(isR x a||(zaE x f a d||(isW x d&&(zby x a d||zh s a d))));rw[i,j,m,o];rfl),g⟩
    ·have o:zby x a d=false:=o;refine cmo (zX h.stores h.ws r p) ?_;rintro e _ ⟨rfl,rfl⟩;exact⟨rb (by show _=(isR x a||(zaE x f a d||(isW x d&&(zby x a d||zh s a d))));rw[i,j,m,o];rfl),g⟩
   ·have m:isW x d=false:=m;exact⟨rb (by show _=(isR x a||(zaE x f a d||(isW x d&&(zby x a d||zh s a d))));rw[i,j,m];rfl),g⟩
theorem zuE{a d:Nat}(h:ScnV w b x q c f l s)(ha:a<x.ev.length)(hd:d<x.ev.length):CB 289 #[At0 b,i64 (a:Nat),i64 (d:Nat)] w (.bool (zdd 5 x f l s a d)):=by
 refine zD 49 [At0 b,i64 (a:Nat),i64 (d:Nat)] Tryz.func289 ?_;have hn:=h.v.n;have z:a<48:=by omega
 have u:d<48:=by omega
 have g:=Gb w.heap.size w;refine cmo (ze1 h ha) ?_;rintro e _ ⟨rfl,rfl⟩;refine biE (fun k=>?_) fun k=>?_
 ·have k:isR x a=true:=k;refine cmo (zdS (md:=1) h ha) ?_;rintro e _ ⟨rfl,rfl⟩;refine biE (fun m=>?_) fun m=>?_
  ·have m:z8 x a 1=true:=m;exact brT (brT ⟨rb (by show _=((isR x a&&(z8 x a 1||zh l a d))||((isW x d&&(z8 x d 2||zh s a d))||zh f a d));rw[k,m];rfl),g⟩)
  ·have m:z8 x a 1=false:=m;refine cmo (zX h.loads h.wl z u) ?_;rintro e _ ⟨rfl,rfl⟩;refine biE (fun o=>?_) fun o=>?_
   ·have o:zh l a d=true:=o;exact brT ⟨rb (by show _=((isR x a&&(z8 x a 1||zh l a d))||((isW x d&&(z8 x d 2||zh s a d))||zh f a d));rw[k,m,o];rfl),g⟩
   ·have o:zh l a d=false:=o;refine cmo (jK h hd) ?_;rintro e _ ⟨rfl,rfl⟩;refine biE (fun p=>?_) fun p=>?_
    ·have p:isW x d=true:=p;refine cmo (zdS (md:=2) h hd) ?_;rintro e _ ⟨rfl,rfl⟩;refine biE (fun t=>?_) fun t=>?_
     ·have t:z8 x d 2=true:=t;exact brT ⟨rb (by show _=((isR x a&&(z8 x a 1||zh l a d))||((isW x d&&(z8 x d 2||zh s a d))||zh f a d));rw[k,m,o,p,t];rfl),g⟩
     ·have t:z8 x d 2=false:=t;refine cmo (zX h.stores h.ws z u) ?_;rintro e _ ⟨rfl,rfl⟩;refine biE (fun y=>?_) fun y=>?_
      ·have y:zh s a d=true:=y;exact⟨rb (by show _=((isR x a&&(z8 x a 1||zh l a d))||((isW x d&&(z8 x d 2||zh s a d))||zh f a d));rw[k,m,o,p,t,y];rfl),g⟩
      ·have y:zh s a d=false:=y;refine cmo (zX h.full h.wf z u) ?_;rintro e _ ⟨rfl,rfl⟩;exact⟨rb (by show _=((isR x a&&(z8 x a 1||zh l a d))||((isW x d&&(z8 x d 2||zh s a d))||zh f a d));rw[k,m,o,p,t,y];rfl),g⟩
    ·have p:isW x d=false:=p;refine brF (cmo (zX h.full h.wf z u) ?_);rintro e _ ⟨rfl,rfl⟩;exact⟨rb (by show _=((isR x a&&(z8 x a 1||zh l a d))||((isW x d&&(z8 x d 2||zh s a d))||zh f a d));rw[k,m,o,p];rfl),g⟩
 ·have k:isR x a=false:=k;refine brF (cmo (jK h hd) ?_);rintro e _ ⟨rfl,rfl⟩;refine biE (fun r=>?_) fun r=>?_
  ·have r:isW x d=true:=r;refine cmo (zdS (md:=2) h hd) ?_;rintro e _ ⟨rfl,rfl⟩;refine biE (fun i=>?_) fun i=>?_
   ·have i:z8 x d 2=true:=i;exact brT ⟨rb (by show _=((isR x a&&(z8 x a 1||zh l a d))||((isW x d&&(z8 x d 2||zh s a d))||zh f a d));rw[k,r,i];rfl),g⟩
   ·have i:z8 x d 2=false:=i;refine cmo (zX h.stores h.ws z u) ?_;rintro e _ ⟨rfl,rfl⟩;refine biE (fun j=>?_) fun j=>?_
    ·have j:zh s a d=true:=j;exact⟨rb (by show _=((isR x a&&(z8 x a 1||zh l a d))||((isW x d&&(z8 x d 2||zh s a d))||zh f a d));rw[k,r,i,j];rfl),g⟩
    ·have j:zh s a d=false:=j;refine cmo (zX h.full h.wf z u) ?_;rintro e _ ⟨rfl,rfl⟩;exact⟨rb (by show _=((isR x a&&(z8 x a 1||zh l a d))||((isW x d&&(z8 x d 2||zh s a d))||zh f a d));rw[k,r,i,j];rfl),g⟩
  ·have r:isW x d=false:=r;refine brF (cmo (zX h.full h.wf z u) ?_);rintro e _ ⟨rfl,rfl⟩;exact⟨rb (by show _=((isR x a&&(z8 x a 1||zh l a d))||((isW x d&&(z8 x d 2||zh s a d))||zh f a d));rw[k,r];rfl),g⟩
theorem zuD{a d:Nat}(h:ScnV w b x q c f l s)(ha:a<x.ev.length)(hd:d<x.ev.length):CB 291 #[At0 b,i64 (a:Nat),i64 (d:Nat)] w (.bool (zdd 6 x f l s a d)):=by
 refine zD 81 [At0 b,i64 (a:Nat),i64 (d:Nat)] Tryz.func291 ?_;have hn:=h.v.n;have hA:a<48:=by omega
 have hD:d<48:=by omega
 have g:=Gb w.heap.size w;refine cmo (zX (zgM h.cells (zw9 x q c)) h.v.dt hA hD) ?_;rintro e _ ⟨rfl,rfl⟩;refine biE (fun m=>?_) fun m=>?_
 ·have m:zh x.dt a d=true:=m;exact brT (brT (brT (brT ⟨rb (by show _=(zh x.dt a d||((zh x.ct a d&&isW x d)||(zh x.rm a d||(zh f a d||((zh l a d&&(isR x a&&isR x d))||(zh s a d&&(isW x a&&isW x d)))))));rw[m];rfl),g⟩)))
 ·have m:zh x.dt a d=false:=m;refine cmo (zX (zgM h.cells (zxa x q c)) h.v.ct hA hD) ?_;rintro e _ ⟨rfl,rfl⟩;refine biE (fun o=>?_) fun o=>?_
  ·have o:zh x.ct a d=true:=o;refine cmo (jK h hd) ?_;rintro e _ ⟨rfl,rfl⟩;refine biE (fun t=>?_) fun t=>?_
   ·have t:isW x d=true:=t;exact brT (brT (brT ⟨rb (by show _=(zh x.dt a d||((zh x.ct a d&&isW x d)||(zh x.rm a d||(zh f a d||((zh l a d&&(isR x a&&isR x d))||(zh s a d&&(isW x a&&isW x d)))))));rw[m,o,t];rfl),g⟩))
   ·have t:isW x d=false:=t;refine cmo (zX (zgM h.cells (ztk x q c)) h.v.rm hA hD) ?_;rintro e _ ⟨rfl,rfl⟩;refine biE (fun u=>?_) fun u=>?_
    ·have u:zh x.rm a d=true:=u;exact brT (brT ⟨rb (by show _=(zh x.dt a d||((zh x.ct a d&&isW x d)||(zh x.rm a d||(zh f a d||((zh l a d&&(isR x a&&isR x d))||(zh s a d&&(isW x a&&isW x d)))))));rw[m,o,t,u];rfl),g⟩)
    ·have u:zh x.rm a d=false:=u;refine cmo (zX h.full h.wf hA hD) ?_;rintro e _ ⟨rfl,rfl⟩;refine biE (fun h5=>?_) fun h5=>?_
     ·have h5:zh f a d=true:=h5;exact brT ⟨rb (by show _=(zh x.dt a d||((zh x.ct a d&&isW x d)||(zh x.rm a d||(zh f a d||((zh l a d&&(isR x a&&isR x d))||(zh s a d&&(isW x a&&isW x d)))))));rw[m,o,t,u,h5];rfl),g⟩
     ·have h5:zh f a d=false:=h5;refine cmo (zX h.loads h.wl hA hD) ?_;rintro e _ ⟨rfl,rfl⟩;refine biE (fun h6=>?_) fun h6=>?_
      ·have h6:zh l a d=true:=h6;refine cmo (ze1 h ha) ?_;rintro e _ ⟨rfl,rfl⟩;refine biE (fun h7=>?_) fun h7=>?_
       ·have h7:isR x a=true:=h7;refine cmo (ze1 h hd) ?_;rintro e _ ⟨rfl,rfl⟩;refine biE (fun h8=>?_) fun h8=>?_
        ·have h8:isR x d=true:=h8;exact⟨rb (by show _=(zh x.dt a d||((zh x.ct a d&&isW x d)||(zh x.rm a d||(zh f a d||((zh l a d&&(isR x a&&isR x d))||(zh s a d&&(isW x a&&isW x d)))))));rw[m,o,t,u,h5,h6,h7,h8];rfl),g⟩
        ·have h8:isR x d=false:=h8;refine cmo (zX h.stores h.ws hA hD) ?_;rintro e _ ⟨rfl,rfl⟩;refine biE (fun h9=>?_) fun h9=>?_
         ·have h9:zh s a d=true:=h9;refine cmo (jK h ha) ?_;rintro e _ ⟨rfl,rfl⟩;refine biE (fun af=>?_) fun af=>?_
          ·have af:isW x a=true:=af;refine cmo (jK h hd) ?_;rintro e _ ⟨rfl,rfl⟩;exact⟨rb (by show _=(zh x.dt a d||((zh x.ct a d&&isW x d)||(zh x.rm a d||(zh f a d||((zh l a d&&(isR x a&&isR x d))||(zh s a d&&(isW x a&&isW x d)))))));rw[m,o,t,u,h5,h6,h7,h8,h9,af];rfl),g⟩
          ·have af:isW x a=false:=af;exact⟨rb (by show _=(zh x.dt a d||((zh x.ct a d&&isW x d)||(zh x.rm a d||(zh f a d||((zh l a d&&(isR x a&&isR x d))||(zh s a d&&(isW x a&&isW x d)))))));rw[m,o,t,u,h5,h6,h7,h8,h9,af];rfl),g⟩
         ·have h9:zh s a d=false:=h9;exact brF ⟨rb (by show _=(zh x.dt a d||((zh x.ct a d&&isW x d)||(zh x.rm a d||(zh f a d||((zh l a d&&(isR x a&&isR x d))||(zh s a d&&(isW x a&&isW x d)))))));rw[m,o,t,u,h5,h6,h7,h8,h9];rfl),g⟩
       ·have h7:isR x a=false:=h7;refine brF (cmo (zX h.stores h.ws hA hD) ?_);rintro e _ ⟨rfl,rfl⟩;refine biE (fun ab=>?_) fun ab=>?_
        ·have ab:zh s a d=true:=ab;refine cmo (jK h ha) ?_;rintro e _ ⟨rfl,rfl⟩;refine biE (fun ae=>?_) fun ae=>?_
         ·have ae:isW x a=true:=ae;refine cmo (jK h hd) ?_;rintro e _ ⟨rfl,rfl⟩;exact⟨rb (by show _=(zh x.dt a d||((zh x.ct a d&&isW x d)||(zh x.rm a d||(zh f a d||((zh l a d&&(isR x a&&isR x d))||(zh s a d&&(isW x a&&isW x d)))))));rw[m,o,t,u,h5,h6,h7,ab,ae];rfl),g⟩
         ·have ae:isW x a=false:=ae;exact⟨rb (by show _=(zh x.dt a d||((zh x.ct a d&&isW x d)||(zh x.rm a d||(zh f a d||((zh l a d&&(isR x a&&isR x d))||(zh s a d&&(isW x a&&isW x d)))))));rw[m,o,t,u,h5,h6,h7,ab,ae];rfl),g⟩
        ·have ab:zh s a d=false:=ab;exact brF ⟨rb (by show _=(zh x.dt a d||((zh x.ct a d&&isW x d)||(zh x.rm a d||(zh f a d||((zh l a d&&(isR x a&&isR x d))||(zh s a d&&(isW x a&&isW x d)))))));rw[m,o,t,u,h5,h6,h7,ab];rfl),g⟩
      ·have h6:zh l a d=false:=h6;refine brF (brF (cmo (zX h.stores h.ws hA hD) ?_));rintro e _ ⟨rfl,rfl⟩;refine biE (fun y=>?_) fun y=>?_
       ·have y:zh s a d=true:=y;refine cmo (jK h ha) ?_;rintro e _ ⟨rfl,rfl⟩;refine biE (fun ai=>?_) fun ai=>?_
        ·have ai:isW x a=true:=ai;refine cmo (jK h hd) ?_;rintro e _ ⟨rfl,rfl⟩;exact⟨rb (by show _=(zh x.dt a d||((zh x.ct a d&&isW x d)||(zh x.rm a d||(zh f a d||((zh l a d&&(isR x a&&isR x d))||(zh s a d&&(isW x a&&isW x d)))))));rw[m,o,t,u,h5,h6,y,ai];rfl),g⟩
        ·have ai:isW x a=false:=ai;exact⟨rb (by show _=(zh x.dt a d||((zh x.ct a d&&isW x d)||(zh x.rm a d||(zh f a d||((zh l a d&&(isR x a&&isR x d))||(zh s a d&&(isW x a&&isW x d)))))));rw[m,o,t,u,h5,h6,y,ai];rfl),g⟩
       ·have y:zh s a d=false:=y;exact brF ⟨rb (by show _=(zh x.dt a d||((zh x.ct a d&&isW x d)||(zh x.rm a d||(zh f a d||((zh l a d&&(isR x a&&isR x d))||(zh s a d&&(isW x a&&isW x d)))))));rw[m,o,t,u,h5,h6,y];rfl),g⟩
  ·have o:zh x.ct a d=false:=o;refine brF (cmo (zX (zgM h.cells (ztk x q c)) h.v.rm hA hD) ?_);rintro e _ ⟨rfl,rfl⟩;refine biE (fun i=>?_) fun i=>?_
   ·have i:zh x.rm a d=true:=i;exact brT (brT ⟨rb (by show _=(zh x.dt a d||((zh x.ct a d&&isW x d)||(zh x.rm a d||(zh f a d||((zh l a d&&(isR x a&&isR x d))||(zh s a d&&(isW x a&&isW x d)))))));rw[m,o,i];rfl),g⟩)
   ·have i:zh x.rm a d=false:=i;refine cmo (zX h.full h.wf hA hD) ?_;rintro e _ ⟨rfl,rfl⟩;refine biE (fun j=>?_) fun j=>?_
    ·have j:zh f a d=true:=j;exact brT ⟨rb (by show _=(zh x.dt a d||((zh x.ct a d&&isW x d)||(zh x.rm a d||(zh f a d||((zh l a d&&(isR x a&&isR x d))||(zh s a d&&(isW x a&&isW x d)))))));rw[m,o,i,j];rfl),g⟩
    ·have j:zh f a d=false:=j;refine cmo (zX h.loads h.wl hA hD) ?_;rintro e _ ⟨rfl,rfl⟩;refine biE (fun k=>?_) fun k=>?_
     ·have k:zh l a d=true:=k;refine cmo (ze1 h ha) ?_;rintro e _ ⟨rfl,rfl⟩;refine biE (fun p=>?_) fun p=>?_
      ·have p:isR x a=true:=p;refine cmo (ze1 h hd) ?_;rintro e _ ⟨rfl,rfl⟩;refine biE (fun r=>?_) fun r=>?_
       ·have r:isR x d=true:=r;exact⟨rb (by show _=(zh x.dt a d||((zh x.ct a d&&isW x d)||(zh x.rm a d||(zh f a d||((zh l a d&&(isR x a&&isR x d))||(zh s a d&&(isW x a&&isW x d)))))));rw[m,o,i,j,k,p,r];rfl),g⟩
       ·have r:isR x d=false:=r;refine cmo (zX h.stores h.ws hA hD) ?_;rintro e _ ⟨rfl,rfl⟩;refine biE (fun aa=>?_) fun aa=>?_
        ·have aa:zh s a d=true:=aa;refine cmo (jK h ha) ?_;rintro e _ ⟨rfl,rfl⟩;refine biE (fun ad=>?_) fun ad=>?_
         ·have ad:isW x a=true:=ad;refine cmo (jK h hd) ?_;rintro e _ ⟨rfl,rfl⟩;exact⟨rb (by show _=(zh x.dt a d||((zh x.ct a d&&isW x d)||(zh x.rm a d||(zh f a d||((zh l a d&&(isR x a&&isR x d))||(zh s a d&&(isW x a&&isW x d)))))));rw[m,o,i,j,k,p,r,aa,ad];rfl),g⟩
         ·have ad:isW x a=false:=ad;exact⟨rb (by show _=(zh x.dt a d||((zh x.ct a d&&isW x d)||(zh x.rm a d||(zh f a d||((zh l a d&&(isR x a&&isR x d))||(zh s a d&&(isW x a&&isW x d)))))));rw[m,o,i,j,k,p,r,aa,ad];rfl),g⟩
        ·have aa:zh s a d=false:=aa;exact brF ⟨rb (by show _=(zh x.dt a d||((zh x.ct a d&&isW x d)||(zh x.rm a d||(zh f a d||((zh l a d&&(isR x a&&isR x d))||(zh s a d&&(isW x a&&isW x d)))))));rw[m,o,i,j,k,p,r,aa];rfl),g⟩
      ·have p:isR x a=false:=p;refine brF (cmo (zX h.stores h.ws hA hD) ?_);rintro e _ ⟨rfl,rfl⟩;refine biE (fun z=>?_) fun z=>?_
       ·have z:zh s a d=true:=z;refine cmo (jK h ha) ?_;rintro e _ ⟨rfl,rfl⟩;refine biE (fun ah=>?_) fun ah=>?_
        ·have ah:isW x a=true:=ah;refine cmo (jK h hd) ?_;rintro e _ ⟨rfl,rfl⟩;exact⟨rb (by show _=(zh x.dt a d||((zh x.ct a d&&isW x d)||(zh x.rm a d||(zh f a d||((zh l a d&&(isR x a&&isR x d))||(zh s a d&&(isW x a&&isW x d)))))));rw[m,o,i,j,k,p,z,ah];rfl),g⟩
        ·have ah:isW x a=false:=ah;exact⟨rb (by show _=(zh x.dt a d||((zh x.ct a d&&isW x d)||(zh x.rm a d||(zh f a d||((zh l a d&&(isR x a&&isR x d))||(zh s a d&&(isW x a&&isW x d)))))));rw[m,o,i,j,k,p,z,ah];rfl),g⟩
       ·have z:zh s a d=false:=z;exact brF ⟨rb (by show _=(zh x.dt a d||((zh x.ct a d&&isW x d)||(zh x.rm a d||(zh f a d||((zh l a d&&(isR x a&&isR x d))||(zh s a d&&(isW x a&&isW x d)))))));rw[m,o,i,j,k,p,z];rfl),g⟩
     ·have k:zh l a d=false:=k;refine brF (brF (cmo (zX h.stores h.ws hA hD) ?_));rintro e _ ⟨rfl,rfl⟩;refine biE (fun ac=>?_) fun ac=>?_
      ·have ac:zh s a d=true:=ac;refine cmo (jK h ha) ?_;rintro e _ ⟨rfl,rfl⟩;refine biE (fun ag=>?_) fun ag=>?_
       ·have ag:isW x a=true:=ag;refine cmo (jK h hd) ?_;rintro e _ ⟨rfl,rfl⟩;exact⟨rb (by show _=(zh x.dt a d||((zh x.ct a d&&isW x d)||(zh x.rm a d||(zh f a d||((zh l a d&&(isR x a&&isR x d))||(zh s a d&&(isW x a&&isW x d)))))));rw[m,o,i,j,k,ac,ag];rfl),g⟩
       ·have ag:isW x a=false:=ag;exact⟨rb (by show _=(zh x.dt a d||((zh x.ct a d&&isW x d)||(zh x.rm a d||(zh f a d||((zh l a d&&(isR x a&&isR x d))||(zh s a d&&(isW x a&&isW x d)))))));rw[m,o,i,j,k,ac,ag];rfl),g⟩
      ·have ac:zh s a d=false:=ac;exact brF ⟨rb (by show _=(zh x.dt a d||((zh x.ct a d&&isW x d)||(zh x.rm a d||(zh f a d||((zh l a d&&(isR x a&&isR x d))||(zh s a d&&(isW x a&&isW x d)))))));rw[m,o,i,j,k,ac];rfl),g⟩
end
end Go.Proofs.YtakcdebpklffiaaGreatDoor
