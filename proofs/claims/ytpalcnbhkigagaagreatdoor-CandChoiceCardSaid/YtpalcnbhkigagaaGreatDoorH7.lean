/- Contracts of functions, and plain facts, for the law that the last text of this claim proves. -/
import Derived.Test.YtpalcnbhkigagaaGreatDoorH6
import Derived.Test.YtpalcnbhkigagaaGreatDoorH2
import Derived.Test.YtpalcnbhkigagaaGreatDoorH3
import Derived.Test.YtpalcnbhkigagaaGreatDoorH5
import Derived.Test.YtpalcnbhkigagaaGreatDoorH4
import Derived.Test.YtpalcnbhkigagaaGreatDoorH1
import Derived.Test.YtpalcnbhkigagaaGreatDoorRows
import Derived.ProofKit
import Derived.OpenShut
import Derived.LaidLaws
import Derived.Below
import Derived.HandedShaped
import Derived.KernelRfl
import Derived.WalkKit
import Derived.ChangeOld
import Derived.SevenTiedAt
import Derived.LaidHandle
import Derived.Stop.LaidErr
import Derived.Lib.LaidTab
import Derived.SizedLaws
set_option linter.unusedSimpArgs false
set_option linter.unusedVariables false
namespace Go.Proofs.YtpalcnbhkigagaaGreatDoor
open Go.Vc Go.RowKit Go.Sei
theorem zoA:∀ (rs es:List Nat),es.length=rs.length->(∀ (i n d:Nat),rs[i]?=some n->es[i]?=some d->d<n)->∃ j,j<zT rs/\zab rs j=es
 | [],[],_,_=>⟨0,Nat.one_pos,rfl⟩
 | [],e::es,h,_=>by cases h
 | n::ns,[],h,_=>by cases h
 | n::ns,e::es,h,hb=>by
  obtain⟨j,h1,h2⟩:=zoA ns es (by simpa using h) fun i n d a b=>hb (i+1) n d a b;have he:e<n:=hb 0 n e rfl rfl;refine⟨e+n*j,?_,?_⟩
  ·show e+n*j<n*zT ns;have:n*(j+1)<=n*zT ns:=Nat.mul_le_mul_left n h1;rw [Nat.mul_add] at this;omega
  ·show (e+n*j)%n::zab ns ((e+n*j)/n)=e::es;rw [Nat.add_mul_mod_self_left,QF he,Nat.add_mul_div_left _ _ (by omega),Nat.div_eq_of_lt he,UT,h2]
theorem zoz {sizes ds:List Nat} (hl:ds.length=sizes.length) (hb:∀ (i n d:Nat),sizes[i]?=some n->ds[i]?=some d->d<n):ds∈z6 sizes:=by
 obtain⟨j,h1,h2⟩:=zoA sizes.reverse ds.reverse (by simpa using hl) fun i n d a b=>by
  have hi:i<sizes.length:=by simpa using (Js.1 a).1
  rw [JN hi] at a;rw [JN (by omega)] at b;rw [hl] at b;exact hb _ n d a b
 exact UL.2 ⟨j,Uq.2 h1,by rw [h2,Kd]⟩
theorem zjP {sizes ds:List Nat} (hd:ds∈z6 sizes) {t n d:Nat} (hn:sizes[t]?=some n) (h:d<n):ds.set t d∈z6 sizes:=by
 obtain⟨h1,h2⟩:=zal hd;refine zoz (by rw [QS];exact h1) fun i m e hm he=>?_;rw [List.getElem?_set] at he
 split at he
 ·rename_i hti;subst hti
  split at he
  ·rw [<- Uh he];rw [hn] at hm;rw [<- Uh hm];exact h
  ·cases he
 ·exact h2 i m e hm he
theorem ziI {a b:Nat} (ha:a<2^64) (hb:b<2^64) (h:∀ j,j<64->a.testBit j=b.testBit j):a=b:=by
 refine Ke fun j=>?_;by_cases hj:j<64
 ·exact h j hj
 ·rw [JK (nL ha (Kg (by decide) (by omega))),JK (nL hb (Kg (by decide) (by omega)))]
theorem zkw {a b:RelD} (hn:a.n=b.n) (h:∀ i,i<48->a.to i=b.to i):qM a b=true:=by
 unfold qM;rw [bAT,Qm];exact⟨Uu hn,fun i hi=>Uu (h i (Uq.1 hi))⟩
theorem zlo {x y:ExD} (he:x.ev=y.ev) (hp:x.po=y.po) (hr:qM x.rf y.rf=true) (hc:qM x.co y.co=true) (hd:x.dt=y.dt) (hct:x.ct=y.ct) (hrm:x.rm=y.rm) (hf:zgv x y=true):jV x y=true:=by
 unfold jV zb3;rw [hp,hd,hct,hrm,jW,jW,jW,jW,hr,hc,hf];have e:∀ i,evA x i=evA y i:=fun i=>by unfold evA;rw [he]
 simp [he,e]
def zcF (x:ExD) (r:Nat) (k:Nat):Nat:=if k<48 then jE (x.rf.to k) (2^r) else x.rf.to k
def zmi (x:ExD) (r i:Nat):ExD:={ x with rf:=⟨x.rf.n,upd (zcF x r) i (zcF x r i|||2^r)⟩ }
section
variable {init:List UInt8} {Ps:List PathD} {m:MixD} {ds:List Nat}
theorem ChoiceW.other_rf (h:ChoiceW init Ps m) (hd:ds∈z6 (zG m)) {t r i d:Nat} {src:List Nat} (hr:m.rs[t]?=some (r,src)) (hi:src[d]?=some i) :
  ds.set t d∈z6 (zG m)/\jV (zmi (zq m ds) r i) (zq m (ds.set t d))=true:=by
 have ht:=(Js.1 hr).1;have hdl:=(Js.1 hi).1;have hs:(zG m)[t]?=some src.length:=by
  unfold zG;rw [Jr (by rw [QQ];exact ht),KX,hr];rfl
 have hd2:=zjP hd hs hdl;refine⟨hd2,?_⟩;have hrl:=h.rels hd;have hrl2:=h.rels hd2;have hdrop:(ds.set t d).drop m.rs.length=ds.drop m.rs.length:=List.drop_set_of_lt ht;have e1:(zq m (ds.set t d)).co=(zq m ds).co:=by
  show (coG m.base.ev 0 (m.wr.map zB) ((ds.set t d).drop m.rs.length) (m.base.co,m.base.mem)).1=_;rw [hdrop];rfl
 have e2:(zq m (ds.set t d)).mem=(zq m ds).mem:=by
  show (coG m.base.ev 0 (m.wr.map zB) ((ds.set t d).drop m.rs.length) (m.base.co,m.base.mem)).2=_;rw [hdrop];rfl
 refine zlo rfl rfl (zkw rfl fun k hk=>?_) (by rw [e1];exact jW _) rfl rfl rfl ?_
 ·obtain⟨hr1,_,hr3⟩:=h.src (Kb hr);have h48:=h.n;rw [<- h.len] at h48;have hr1:r<m.base.ev.length:=hr1;have hw:(zq m ds).rf.to k<2^64:=hrl.rf.w k hk;have hp:2^r<2^64:=Kh (by decide) (by omega);have hF:zcF (zq m ds) r k=qa ((zq m ds).rf.to k) (2^r):=Gr hk;have hpw:m.rs.Pairwise fun a b=>a.1<b.1:=by
   rw [h.m];exact zib _ _ _ _
  have hlen:t<ds.length:=by
   rw [(zal hd).1];exact (Js.1 hs).1
  have key:∀ j,zL (zq m (ds.set t d)).rf k j=true↔(j≠r/\zL (zq m ds).rf k j=true)\/(j=r/\k=i):=fun j=>by
   rw [h.rfb hd2,h.rfb hd];constructor
   ·rintro⟨t',s',g1,g2,g3,g4⟩;by_cases htt:t'=t
    ·subst htt;rw [hr] at g1;have g1:=Uh g1;subst g1;refine .inr ⟨g4,?_⟩;rw [gDe,JH hlen] at g3;have g3:src[d]?=some k:=g3;rw [hi] at g3;exact (Uh g3).symm
    ·refine .inl ⟨fun e=>htt (zig (key:=fun a:Nat×List Nat=>a.1) hpw g1 hr (g4.symm.trans e)),t',s',g1,g2,?_,g4⟩;rw [gDe,JY (fun e=>htt e.symm),<- gDe] at g3;exact g3
   ·rintro (⟨hj,t',s',g1,g2,g3,g4⟩ | ⟨hj,hk⟩)
    ·have htt:t'≠t:=fun e=>by
      subst e;rw [hr] at g1;have g1:=Uh g1;subst g1;exact hj g4
     refine⟨t',s',g1,g2,?_,g4⟩;rw [gDe,JY (fun e=>htt e.symm),<- gDe];exact g3
    ·refine⟨t,(r,src),hr,?_,?_,hj⟩
     ·rw [hk];exact Kb hi
     ·rw [gDe,JH hlen,hk];exact hi
  have up:∀ v,v=upd (zcF (zq m ds) r) i (zcF (zq m ds) r i|||2^r) k->v=if k=i then zcF (zq m ds) r k|||2^r else zcF (zq m ds) r k:=fun v hv=>by
   rw [hv];by_cases e:k=i
   ·rw [Gr e,e,zE]
   ·rw [Gq e,zV _ _ e]
  show upd (zcF (zq m ds) r) i (zcF (zq m ds) r i|||2^r) k=_;rw [up _ rfl,hF];refine ziI ?_ (hrl2.rf.w k hk) fun j hj=>?_
  ·split
   ·exact Qb (qW hw) hp
   ·exact qW hw
  ·have kj:=key j;unfold zL at kj;rw [Bool.eq_iff_iff,kj];have lb:(qa ((zq m ds).rf.to k) (2^r)).testBit j=true↔j≠r/\((zq m ds).rf.to k).testBit j=true:=by
    rw [zat hp hj,Ks,bAT,KM,JC];exact⟨fun ⟨a,b⟩=>⟨fun e=>b e.symm,a⟩,fun ⟨a,b⟩=>⟨b,fun e=>a e.symm⟩⟩
   split
   ·rename_i hki;rw [Ut,QJ,lb,Ks,dE];exact⟨fun h=>h.imp id fun h=>⟨h.symm,hki⟩,fun h=>h.imp id fun h=>h.1.symm⟩
   ·rename_i hki;rw [lb];exact⟨fun h => .inl h,fun h=>h.elim id fun h=>Gs h.2 hki⟩
 ·unfold zgv;rw [bAT,Qm,Qm];exact⟨fun i _=>Uu rfl,fun i _=>Uu (by rw [e2];rfl)⟩
end
theorem zm0 {p:Prg} {V:List UInt8} (hO:OkG p) {x:ExD} (hx:x∈zZ p V) {r i:Nat} (hr:r<x.ev.length) (hk:(evA x r).k=1) (hi:i<x.ev.length) (hw:(evA x i).k=2) (hl:(evA x i).l=(evA x r).l) (hv:(evA x i).v=(evA x r).v):∃ y∈zZ p V,jV (zmi x r i) y=true:=by
 obtain⟨Ps,m,ds,h,hm,h1,hd,rfl⟩:=zeq hO hx;have hr:r<m.base.ev.length:=hr;have hi:i<m.base.ev.length:=hi;have her:m.base.ev[r]?=some (evA m.base r):=by
  unfold evA;rw [gDe,gE hr];rfl
 have hkr:(evA m.base r).k=1:=hk;obtain⟨t,src,ht⟩:∃ t src,m.rs[t]?=some (r,src):=by
  have:=zfR (jw p.init Ps).ev (zfD 0 (jw p.init Ps).ev (List.replicate p.init.length [])) (jw p.init Ps).ev 0 r (evA m.base r) (by rw [<- h.base];exact her) hkr;rw [UT] at this;obtain⟨t,s,ht⟩:=this;exact⟨t,s,by rw [h.m];exact ht⟩
 obtain⟨e,he1,he2,he3⟩:=h.rs (Kb ht);have he1:m.base.ev[r]?=some e:=he1;rw [her] at he1;have he1:=Uh he1;subst he1;have hloc:(evA m.base r).l.toNat<p.init.length:=by
  refine zch h.i6 h.P ?_ (.inl hkr);rw [<- h.base];exact Kb her
 have hmem:i∈src:=by
  have he3:src=_:=he3;rw [he3,h.wr.2 _ hloc];refine QV.2 ⟨zbM.2 ⟨hi,Uu hw,?_⟩,Uu hv⟩;have hl:(evA m.base i).l=(evA m.base r).l:=hl;rw [hl]
 obtain⟨d,hd'⟩:=List.mem_iff_getElem?.1 hmem;obtain⟨g1,g2⟩:=h.other_rf hd ht hd';refine⟨_,List.mem_flatMap.2 ⟨m,hm,?_⟩,g2⟩;unfold qO;rw [Gq h1];exact Ko g1
theorem zaV {i:Nat}:∀ {C s:List Nat},i ∉ C->twl (C++s) i=C++twl s i
 | [],s,_=>rfl
 | c::C,s,h=>by
  rw [Qo,z9,Gq (fun e=>h (by rw [e];exact KC)),zaV fun h2=>h (Ka _ h2)];rfl
theorem zkh {i:Nat}:∀ {C s:List Nat},i∈C->twl (C++s) i=twl C i
 | [],s,h=>by cases h
 | c::C,s,h=>by
  rw [Qo,z9,z9];by_cases e:c=i
  ·rw [Gr e,Gr e]
  ·rw [Gq e,Gq e,zkh ((UE.1 h).resolve_left fun e2=>e e2.symm)]
theorem zno {a b:Nat} {C D:List Nat} (hn:(C++b::a::D).Nodup) {i j:Nat} (hi:i∈C++b::a::D) :
  j∈twl (C++a::b::D) i↔if i=a then j∈twl (C++b::a::D) a/\j≠b else if i=b then j∈twl (C++b::a::D) b\/j=a else j∈twl (C++b::a::D) i:=by
 obtain⟨_,h2,h3⟩:=List.nodup_append.1 hn;obtain⟨h4,h5⟩:=QX.1 h2;obtain⟨h6,_⟩:=QX.1 h5;have hba:b≠a:=fun e=>h4 (by rw [e];exact KC);have hCa:a ∉ C:=fun h=>h3 a h a (Ka _ KC) rfl;have hCb:b ∉ C:=fun h=>h3 b h b KC rfl;by_cases ia:i=a
 ·subst ia;rw [Gr rfl,zaV hCa,zaV hCa,z9,Gr rfl,z9,Gq hba,z9,Gr rfl,QM,QU,KD];exact⟨fun h=>⟨.inl h,fun e=>hCb (by rw [<- e];exact h)⟩,fun ⟨h,e⟩=>h.resolve_right e⟩
 ·rw [Gq ia];by_cases ib:i=b
  ·subst ib;rw [Gr rfl,zaV hCb,zaV hCb,z9,Gq (fun e=>hba e.symm),z9,Gr rfl,z9,Gr rfl,QM,QU,KD]
  ·rw [Gq ib];by_cases iC:i∈C
   ·rw [zkh iC,zkh iC]
   ·rw [zaV iC,zaV iC,z9,Gq (fun e=>ia e.symm),z9,Gq (fun e=>ib e.symm),z9,Gq (fun e=>ib e.symm),z9,Gq (fun e=>ia e.symm)];simp only [QU,UE];constructor
    ·rintro (h | h | h | h)
     ·exact .inl h
     ·exact .inr (.inr (.inl h))
     ·exact .inr (.inl h)
     ·exact .inr (.inr (.inr h))
    ·rintro (h | h | h | h)
     ·exact .inl h
     ·exact .inr (.inr (.inl h))
     ·exact .inr (.inl h)
     ·exact .inr (.inr (.inr h))
theorem znp {a b:Nat} {s:List Nat} (hn:s.Nodup) (ha:a∈s) (hb:b∈twl s a) (hc:∀ c∈s,c∈twl s a->¬ b∈twl s c):∃ C D,s=C++b::a::D:=by
 obtain⟨P,D,rfl,hP⟩:=List.append_of_mem ha |>.elim fun P h=>h.elim fun D h=>(⟨P,D,h,by
  rw [h] at hn;exact fun h2=>(List.nodup_append.1 hn).2.2 a h2 a KC rfl⟩:∃ P D,s=P++a::D/\a ∉ P)
 rw [zaV hP,z9,Gr rfl,QM] at hb hc;obtain⟨C,M,rfl⟩:=List.append_of_mem hb
 cases M with
 | nil=>exact⟨C,D,by rw [KS];rfl⟩
 | cons c M =>
  have hn2:=(List.nodup_append.1 hn).1;obtain⟨_,h2,h3⟩:=List.nodup_append.1 hn2;have hcb:b≠c:=fun e=>(QX.1 h2).1 (by rw [e];exact KC);have hcC:c ∉ C:=fun h=>h3 c h c (Ka _ KC) rfl;have hcP:c∈C++b::c::M:=JQ _ (Ka _ KC);refine Gs ?_ (hc c (JZ _ hcP) hcP);rw [KS,zaV hcC];refine JQ _ ?_;rw [Qo,z9,Gq hcb];exact KC
theorem zhj:∀ (rs:List (Nat×List Nat)) (ds es:List Nat) (f:Nat->Nat),(∀ t,t<rs.length->ds.getD t 0=es.getD t 0)->rfF rs ds f=rfF rs es f
 | [],ds,es,f,_=>rfl
 | (r,s)::rs,ds,es,f,h=>by
  have h0:ds.headD 0=es.headD 0:=by
   have:=h 0 (by rw [Qv];omega)
   cases ds <;> cases es <;> exact this
  show rfF rs ds.tail (upd f (s.getD (ds.headD 0) 0) (f (s.getD (ds.headD 0) 0)|||2^r))=rfF rs es.tail (upd f (s.getD (es.headD 0) 0) (f (s.getD (es.headD 0) 0)|||2^r));rw [h0];refine zhj rs _ _ _ fun t ht=>?_;have:=h (t+1) (by rw [Qv];omega)
  cases ds <;> cases es <;> exact this
theorem ziC (ev:List Ev):∀ (Rs:List (List (List Nat))) (l:Nat) (ds:List Nat) (p:RelD×(Nat->UInt8)) (j:Nat),(coG ev l Rs ds p).2 j=if l<=j/\j<l+Rs.length then za9 ev (chR Rs ds (j-l)) else p.2 j
 | [],l,ds,p,j=>by
  rw [Gq (by rw [QR];omega)];rfl
 | R::Rs,l,ds,p,j=>by
  show (coG ev (l+1) Rs ds.tail (jX (R.getD (ds.headD 0) []) p.1,upd p.2 l (za9 ev (R.getD (ds.headD 0) [])))).2 j=_;rw [ziC ev Rs (l+1),Qv];by_cases h:j=l
  ·rw [Gq (by omega),Gr (by omega),h,UQ,zoL];exact zE ..
  ·by_cases h2:l+1<=j/\j<l+1+Rs.length
   ·rw [Gr h2,Gr (by omega),show j-l=(j-(l+1))+1 by omega,zep]
   ·rw [Gq h2,Gq (by omega)];exact zV _ _ h
def zad (x:ExD) (a b:Nat):Nat->Nat:=upd (upd x.co.to a (jE (x.co.to a) (2^b))) b (upd x.co.to a (jE (x.co.to a) (2^b)) b|||2^a)
def zeX (x:ExD) (a b:Nat):ExD:={ x with co:=⟨x.co.n,zad x a b⟩,mem:=if zad x a b a=0 then upd x.mem (evA x a).l.toNat (evA x a).v else x.mem }
section
variable {init:List UInt8} {Ps:List PathD} {m:MixD} {ds:List Nat}
theorem ChoiceW.co_bit (h:ChoiceW init Ps m) (hd:ds∈z6 (zG m)) {i j:Nat}:zL (zq m ds).co i j=true↔∃ l,l<init.length/\i∈chR (m.wr.map zB) (ds.drop m.rs.length) l/\j∈twl (chR (m.wr.map zB) (ds.drop m.rs.length) l).reverse i:=by
 obtain⟨c1,c2⟩:=h.chx hd;obtain⟨_,hb⟩:=zcV m.base.ev (m.wr.map zB) 0 (ds.drop m.rs.length) (m.base.co,m.base.mem) c1 c2;have e:zL (zq m ds).co i j=zL (coG m.base.ev 0 (m.wr.map zB) (ds.drop m.rs.length) (m.base.co,m.base.mem)).1 i j:=rfl;obtain⟨_,b2,_⟩:=zcg (init:=init) (Ps:=Ps);rw [e,hb,QQ,h.wr.1];constructor
 ·rintro (h | ⟨_,h2⟩)
  ·exact h
  ·rw [h.base,b2] at h2;exact Gs h2 (zb0 _ i j)
 ·exact .inl
theorem ChoiceW.other_co (h:ChoiceW init Ps m) (hd:ds∈z6 (zG m)) (h8:∀ l,(zW m.base l).length<=8) {a b:Nat} (ha:(evA m.base a).th ≠ -1) (hab:zL (zq m ds).co a b=true) (hno:∀ c,c<m.base.ev.length->¬ (zL (zq m ds).co a c=true/\zL (zq m ds).co c b=true)) :
  ∃ es,es∈z6 (zG m)/\jV (zeX (zq m ds) a b) (zq m es)=true:=by
 obtain⟨l,hl,hal,hbl⟩:=(h.co_bit hd).1 hab;obtain⟨rk,hrk⟩:=nm (chR (m.wr.map zB) (ds.drop m.rs.length) l);rw [<- hrk] at hal hbl;obtain⟨hp,hh⟩:=h.ch hd l hl;rw [<- hrk] at hp hh;have hwn:(zW m.base l).Nodup:=List.nodup_range.filter _;have hrn:rk.Nodup:=hp.nodup_iff.2 hwn;have hsn:rk.reverse.Nodup:=(List.reverse_perm _).nodup_iff.2 hrn;have inrk:∀ c,c∈rk->c<m.base.ev.length:=fun c hc=>zdt (hp.subset hc);obtain⟨C,D,hs⟩:=znp hsn (List.mem_reverse.2 hal) hbl fun c hc h1 h2=>by
  have hc:=List.mem_reverse.1 hc;exact hno c (inrk c hc) ⟨(h.co_bit hd).2 ⟨l,hl,by rw [<- hrk];exact hal,by rw [<- hrk];exact h1⟩,(h.co_bit hd).2 ⟨l,hl,by rw [<- hrk];exact hc,by rw [<- hrk];exact h2⟩⟩
 have erk:rk=D.reverse++a::b::C.reverse:=by
  rw [<- Kd rk,hs];simp
 obtain⟨rk2,hrk2⟩:=nm (D.reverse++b::a::C.reverse);have hrev2:rk2.reverse=C++a::b::D:=by rw [hrk2];simp
 have hD:D≠[]:=fun e=>by
  rw [e] at erk;have e2:rk=a::b::C.reverse:=erk;obtain⟨_,g2⟩:=h.head hl;rw [e2] at hh;have hal:a=l:=hh;have h0:=h.ini hl;rw [hal,h0] at ha;exact ha rfl
 have hp2:rk2.Perm (zW m.base l):=by
  refine List.Perm.trans ?_ hp;rw [hrk2,erk];exact (List.Perm.swap a b _).append_left _
 have hh2:rk2.headD 48=(zW m.base l).headD 48:=by
  rw [(h.head hl).2];rw [erk] at hh;rw [hrk2];obtain⟨d,D',hD'⟩:=List.exists_cons_of_ne_nil (fun e=>hD (by simpa using e):D.reverse≠[]);rw [hD'] at hh ⊢;exact hh
 have hf:fct ((zW m.base l).length-1)<=10000:=UO (zeh (b:=7) (by have:=h8 l;omega)) (by decide);have h1:=(h.head hl).1;have hmem:=znO (by have:=h8 l;omega) hwn hf h1 hp2 hh2;obtain⟨d,hd'⟩:=List.mem_iff_getElem?.1 hmem;have hdl:=(Js.1 hd').1;have hlw:l<m.wr.length:=by rw [h.wr.1];exact hl
 have hw:m.wr[l]=zW m.base l:=by
  have:=h.wr.2 l hl;rw [gDe,gE hlw] at this;exact this
 have hsz:(zG m)[m.rs.length+l]?=some (zB (zW m.base l)).length:=by
  unfold zG;rw [Jn (by rw [QQ];omega),QQ,JA,KX,gE hlw,hw];rfl
 have hd2:=zjP hd hsz hdl;obtain⟨es,hes⟩:=nm (ds.set (m.rs.length+l) d);have hlen:m.rs.length+l<ds.length:=by rw [(zal hd).1];exact (Js.1 hsz).1
 rw [<- hes] at hd2;have hrD:∀ j,(es.drop m.rs.length).getD j 0=if j=l then d else (ds.drop m.rs.length).getD j 0:=fun j=>by
  rw [hes,gDe,Kz,gDe,Kz];by_cases e:j=l
  ·rw [Gr e,e,JH hlen];rfl
  ·rw [Gq e,JY (by omega)]
 have ch2:chR (m.wr.map zB) (es.drop m.rs.length) l=rk2:=by
  unfold chR;rw [hrD,Gr rfl];have e1:(m.wr.map zB).getD l []=zB (zW m.base l):=by
   rw [gDe,KX,gE hlw,hw];rfl
  rw [e1,gDe,hd'];rfl
 have chx:∀ j,j≠l->chR (m.wr.map zB) (es.drop m.rs.length) j=chR (m.wr.map zB) (ds.drop m.rs.length) j:=fun j hj=>by
  unfold chR;rw [hrD,Gq hj]
 have hrl:=h.rels hd;have hrl2:=h.rels hd2;have hbk:b∈rk:=by rw [erk];exact JQ _ (Ka _ KC)
 have h48:=h.n;rw [<- h.len] at h48;have ha48:a<48:=by have:=inrk a hal;omega
 have hb48:b<48:=by have:=inrk b hbk;omega
 have hab2:a≠b:=fun e=>by
  rw [erk,e] at hrn;exact (QX.1 (List.nodup_append.1 hrn).2.1).1 KC
 have uniq:∀ i j,i∈rk->j<init.length->i∈chR (m.wr.map zB) (ds.drop m.rs.length) j->j=l:=fun i j hi hj hij=>by
  have h1:=(h.ch hd j hj).1.subset hij;have h2:=hp.subset hi;exact (zbM.1 h1).2.2.symm.trans (zbM.1 h2).2.2
 have mem2:∀ i,i∈rk2↔i∈rk:=fun i=>(hp2.trans hp.symm).mem_iff;have key:∀ i j,zL (zq m es).co i j=true↔if i=a then zL (zq m ds).co a j=true/\j≠b else if i=b then zL (zq m ds).co b j=true\/j=a else zL (zq m ds).co i j=true:=fun i j=>by
  have inl:∀ i,i∈rk->(zL (zq m ds).co i j=true↔j∈twl rk.reverse i):=fun i hi=>by
   rw [h.co_bit hd];constructor
   ·rintro⟨k,a1,a2,a3⟩;have:=uniq i k hi a1 a2;subst this;rw [<- hrk] at a3;exact a3
   ·exact fun hj=>⟨l,hl,by rw [<- hrk];exact hi,by rw [<- hrk];exact hj⟩
  rw [h.co_bit hd2];by_cases hi:i∈rk
  ·have e1:(∃ k,k<init.length/\i∈chR (m.wr.map zB) (es.drop m.rs.length) k/\j∈twl (chR (m.wr.map zB) (es.drop m.rs.length) k).reverse i)↔j∈twl rk2.reverse i:=by
    constructor
    ·rintro⟨k,a1,a2,a3⟩;by_cases e:k=l
     ·rw [e,ch2] at a3;exact a3
     ·rw [chx k e] at a2;exact Gs (uniq i k hi a1 a2) e
    ·exact fun hj=>⟨l,hl,by rw [ch2];exact (mem2 i).2 hi,by rw [ch2];exact hj⟩
   rw [e1,hrev2,zno (by rw [<- hs];exact hsn) (by rw [<- hs];exact List.mem_reverse.2 hi),<- hs,inl a hal,inl b hbk,inl i hi]
  ·rw [Gq (fun e=>hi (by rw [e];exact hal)),Gq (fun e=>hi (by rw [e];exact hbk)),h.co_bit hd];constructor
   ·rintro⟨k,a1,a2,a3⟩;by_cases e:k=l
    ·rw [e,ch2] at a2;exact Gs ((mem2 i).1 a2) hi
    ·rw [chx k e] at a2 a3;exact⟨k,a1,a2,a3⟩
   ·rintro⟨k,a1,a2,a3⟩;by_cases e:k=l
    ·rw [e,<- hrk] at a2;exact Gs a2 hi
    ·exact⟨k,a1,by rw [chx k e];exact a2,by rw [chx k e];exact a3⟩
 have fa:zad (zq m ds) a b a=qa ((zq m ds).co.to a) (2^b):=by
  unfold zad;rw [zV _ _ hab2,zE];rfl
 have fb:zad (zq m ds) a b b=(zq m ds).co.to b|||2^a:=by
  unfold zad;rw [zE,zV _ _ (fun e=>hab2 e.symm)]
 have fo:∀ k,k≠a->k≠b->zad (zq m ds) a b k=(zq m ds).co.to k:=fun k h1 h2=>by
  unfold zad;rw [zV _ _ h2,zV _ _ h1]
 have pa:2^a<2^64:=Kh (by decide) (by omega);have pb:2^b<2^64:=Kh (by decide) (by omega);have lessb:∀ j,j<64->((qa ((zq m ds).co.to a) (2^b)).testBit j=true↔((zq m ds).co.to a).testBit j=true/\j≠b):=fun j hj=>by
  rw [zat pb hj,Ks,bAT,KM,JC];exact⟨fun ⟨u,v⟩=>⟨u,fun e=>v e.symm⟩,fun ⟨u,v⟩=>⟨u,fun e=>v e.symm⟩⟩
 refine⟨es,hd2,zlo rfl rfl ?_ (zkw (hrl.co.n.trans hrl2.co.n.symm) fun k hk=>?_) rfl rfl rfl ?_⟩
 ·have e:rfF m.rs ds m.base.rf.to=rfF m.rs es m.base.rf.to:=zhj _ _ _ _ fun t ht=>by
   rw [hes,gDe,gDe,JY (by omega)]
  refine zkw rfl fun k _=>?_;show rfF m.rs ds m.base.rf.to k=rfF m.rs es m.base.rf.to k;rw [e]
 ·show zad (zq m ds) a b k=_;refine ziI ?_ (hrl2.co.w k hk) fun j hj=>?_
  ·by_cases ka:k=a
   ·rw [ka,fa];exact qW (hrl.co.w a ha48)
   ·by_cases kb:k=b
    ·rw [kb,fb];exact Qb (hrl.co.w b hb48) pa
    ·rw [fo k ka kb];exact hrl.co.w k hk
  ·have kj:=key k j;unfold zL at kj;rw [Bool.eq_iff_iff,kj];by_cases ka:k=a
   ·rw [Gr ka,ka,fa,lessb j hj]
   ·rw [Gq ka];by_cases kb:k=b
    ·rw [Gr kb,kb,fb,Ut,QJ,Ks,dE];exact or_congr_right eq_comm
    ·rw [Gq kb,fo k ka kb]
 ·unfold zgv;rw [bAT,Qm,Qm];refine⟨fun i _=>Uu rfl,fun i hi=>Uu ?_⟩;have hlc:(evA (zq m ds) a).l.toNat=l:=(zbM.1 (hp.subset hal)).2.2;have m1:(zq m ds).mem i=if i<init.length then za9 m.base.ev (chR (m.wr.map zB) (ds.drop m.rs.length) i) else m.base.mem i:=by
   show (coG m.base.ev 0 (m.wr.map zB) (ds.drop m.rs.length) (m.base.co,m.base.mem)).2 i=_;rw [ziC,QQ,h.wr.1,UT,UR];simp
  have m2:(zq m es).mem i=if i<init.length then za9 m.base.ev (chR (m.wr.map zB) (es.drop m.rs.length) i) else m.base.mem i:=by
   show (coG m.base.ev 0 (m.wr.map zB) (es.drop m.rs.length) (m.base.co,m.base.mem)).2 i=_;rw [ziC,QQ,h.wr.1,UT,UR];simp
  have hz:zad (zq m ds) a b a=0↔C=[]:=by
   rw [fa];have inC:∀ j,j<64->((qa ((zq m ds).co.to a) (2^b)).testBit j=true↔j∈C):=fun j hj=>by
    rw [lessb j hj];have e2:((zq m ds).co.to a).testBit j=true↔j∈twl rk.reverse a:=by
     have:=h.co_bit hd (i:=a) (j:=j);unfold zL at this;rw [this];constructor
     ·rintro⟨k,a1,a2,a3⟩;have:=uniq a k hal a1 a2;subst this;rw [<- hrk] at a3;exact a3
     ·exact fun hj=>⟨l,hl,by rw [<- hrk];exact hal,by rw [<- hrk];exact hj⟩
    rw [e2,hs];rw [hs] at hsn;obtain⟨_,g2,g3⟩:=List.nodup_append.1 hsn;have hCa:a ∉ C:=fun h=>g3 a h a (Ka _ KC) rfl;have hCb:b ∉ C:=fun h=>g3 b h b KC rfl;rw [zaV hCa,z9,Gq (fun e=>hab2 e.symm),z9,Gr rfl,QU,KD];exact⟨fun ⟨h,e⟩=>h.resolve_right e,fun h=>⟨.inl h,fun e=>hCb (by rw [<- e];exact h)⟩⟩
   constructor
   ·intro h0;refine Je.2 fun j hj=>?_;have hj64:j<64:=by
     have:j∈rk:=(by rw [erk];exact JQ _ (Ka _ (Ka _ (List.mem_reverse.2 hj))));have:=inrk j this;omega
    have:=(inC j hj64).2 hj;rw [h0,QG] at this
    cases this
   ·intro hC;refine ziI (qW (hrl.co.w a ha48)) (by decide) fun j hj=>?_;rw [QG]
    cases hb2:(qa ((zq m ds).co.to a) (2^b)).testBit j
    ·rfl
    ·have:=(inC j hj).1 hb2;rw [hC] at this
     cases this
  show (if zad (zq m ds) a b a=0 then upd (zq m ds).mem (evA (zq m ds) a).l.toNat (evA (zq m ds) a).v else (zq m ds).mem) i=(zq m es).mem i;rw [m2,hlc];by_cases hil:i=l
  ·subst hil;rw [Gr hl,ch2];by_cases hC:C=[]
   ·rw [Gr (hz.2 hC),zE,hrk2,hC];unfold za9;rw [List.reverse_nil,Jt,List.getLast?_append];rfl
   ·rw [Gq (fun e=>hC (hz.1 e)),m1,Gr hl,<- hrk,erk,hrk2];obtain⟨c,C',hC'⟩:=List.exists_cons_of_ne_nil hC;unfold za9;have g:∀ L:List Nat,(L++[c]).getLastD 0=c:=fun L=>by simp
    rw [hC',KZ];have e:∀ (u v:Nat),D.reverse++u::v::(C'.reverse++[c])=(D.reverse++u::v::C'.reverse)++[c]:=fun u v=>by simp
    rw [e,e,g,g]
  ·have e1:(if zad (zq m ds) a b a=0 then upd (zq m ds).mem l (evA (zq m ds) a).v else (zq m ds).mem) i=(zq m ds).mem i:=by
    split
    ·exact zV _ _ hil
    ·rfl
   rw [e1,m1,chx i hil]
end
theorem zk5 {p:Prg} {V:List UInt8} {most:Nat} (hO:OkG p) (hc:zcz p V most) (hm20:most<=20000) {x:ExD} (hx:x∈zZ p V) {a b:Nat} (ha:(evA x a).th ≠ -1) (hab:zL x.co a b=true) (hno:∀ c,c<x.ev.length->¬ (zL x.co a c=true/\zL x.co c b=true)):∃ y∈zZ p V,jV (zeX x a b) y=true:=by
 have h8:=(zgG hO hc hm20 hx).w8;obtain⟨Ps,m,ds,h,hm,h1,hd,rfl⟩:=zeq hO hx;obtain⟨es,g1,g2⟩:=h.other_co hd h8 ha hab hno;refine⟨_,List.mem_flatMap.2 ⟨m,hm,?_⟩,g2⟩;unfold qO;rw [Gq h1];exact Ko g1
theorem zmx {X:Wd} {L:Nat} {r:RelD} (h:zaH X L r):∀ i,i<48->X.cell? ⟨L,0+1+i*1,none⟩=some (s64 (r.to i)):=by
 have hR:RelAt X L 0 48 [] [] r:=⟨rfl,by simpa using h⟩;exact fun i hi=>hR.cell hi
theorem zqo {s b:Nat}:decide ((((s/2^b&&&1:Nat):Nat):Int)=1)=s.testBit b:=by
 rw [ziJ]
 cases s.testBit b <;> rfl
def jY (r:RelD) (a b:Nat):Bool:=okR r&&(decide ((a:Int)<r.n)&&(decide ((b:Int)<r.n)&&zL r a b))
section
variable {w:Wd} {r:RelD}
theorem zpc {a b:Nat} (hr:zX r.to):CB 19 #[.agg (zj r).toArray,i64 a,i64 b] w (.bool (jY r a b)):=by
 refine qX 38 [.agg (zj r).toArray,i64 a,i64 b] (.c .p .p) Tryz.func19 ?_;obtain⟨L,hL⟩:=nm (w.heap.size);refine⟨Unit,fun _=>⟨[(1,i64 a),(2,i64 b),(3,At0 L)],[]⟩,fun _ X=>zaH X L r/\Bw w X,⟨(),⟨.cons rfl (.cons rfl (.cons (by rw [hL];rfl) .nil)),rfl⟩,by rw [hL];exact zz w _,(zba w _)⟩,?_⟩;rintro _ X ⟨fX,hbX⟩;refine⟨zj r,zk _,za fX,hlt fX,cmo (zaZ hr) ?_⟩;rintro e Y ⟨rfl,hbY⟩;have bY:=zst hbX hbY;have fY:=zb hbY fX;have ld:Y.cell? ⟨L,0+0,none⟩=some (i64 r.n):=zc (za fY) (i:=0) rfl;refine biE (fun h1=>?_) fun h1=>?_
 ·have h1:okR r=false:=zpA h1;exact brT (brT (brT (brT ⟨rb (by unfold jY;rw [h1];rfl),bY⟩)))
 have h1:okR r=true:=zju h1;have h48:=(zar h1).2.1;refine brN (Uj (by omega)) ⟨_,ld,biE (fun h2=>?_) fun h2=>?_⟩
 ·have h2:r.n<=(a:Int):=dT h2;exact brT (brT ⟨rb (by unfold jY;rw [Uj (by omega:¬ (a:Int)<r.n),Ul,Uk]),bY⟩)
 have h2:¬ r.n<=(a:Int):=dF h2;refine brN (Uj (by omega)) ⟨_,ld,biE (fun h3=>?_) fun h3=>?_⟩
 ·have h3:r.n<=(b:Int):=dT h3;exact⟨rb (by unfold jY;rw [Uj (by omega:¬ (b:Int)<r.n),Ul,Uk,Uk]),bY⟩
 have h3:¬ r.n<=(b:Int):=dF h3;have ha48:a<48:=by omega
 have hb48:b<48:=by omega
 have e0:jY r a b=zL r a b:=by unfold jY;rw [h1,Uu (by omega:(a:Int)<r.n),Uu (by omega:(b:Int)<r.n)];rfl
 rw [e0];exact⟨a,rfl,ha48,s64 (r.to a),zmx fY a ha48,by omega,_,zfm (a:=r.to a) (k:=b) (by omega),_,zai (a:=r.to a/2^b) (b:=1) (KH (Nat.div_le_self _ _) (hr a ha48)) (by decide),rb zqo,bY⟩
end
theorem zo0 {α:Type} {l:List α} {f:α->Bool} {k:Nat} (h:∀ j (hj:j<l.length),j<k->f l[j]=false) (hk:l.length<=k):l.any f=false:=by
 rw [KR];intro x hx;obtain⟨i,hi,rfl⟩:=Kl hx;rw [h i hi (by omega)];decide
theorem zl8 {α:Type} {l:List α} {f:α->Bool} {k:Nat} (hk:k<l.length) (h:f l[k]=true):l.any f=true:=by
 rw [Qn];exact⟨_,gM hk,h⟩
section
variable {w:Wd} {q r:OA} {c d:Nat} {xs:List zcq} {y:ExD}
theorem zsP (hr:SlR exE w q xs) (he:∀ x∈xs,SlR evE w x.2.1 x.1.ev) (hy:SlR evE w r y.ev) (hyl:y.ev.length<4611686018427387904) (hxl:xs.length<=9223372036854775807) :
  CB 18 #[.slice q xs.length c,.agg (exC y r d).toArray] w (.bool (xs.any fun x=>jV y x.1)):=by
 refine qX 17 [.slice q xs.length c,.agg (exC y r d).toArray] (.c .p .p) Tryz.func18 ?_;obtain⟨L,hL⟩:=nm (w.heap.size);refine⟨Unit,fun _=>⟨[(0,.slice q xs.length c),(3,At0 L)],[]⟩,fun _ X=>ExH X L y r d/\Bw w X,⟨(),⟨.cons rfl (.cons (by rw [hL];rfl) .nil),rfl⟩,by rw [hL];exact zz w _,(zba w _)⟩,?_⟩;rintro _ X ⟨fX,hbX⟩;refine⟨Nat,fun k=>⟨[(3,At0 L),(7,.slice q xs.length c),(8,i64 xs.length),(9,i64 (k:Nat))],[]⟩,fun k Z=>(k<=xs.length/\∀ j (hj:j<xs.length),j<k->jV y xs[j].1=false)/\ExH Z L y r d/\Bw w Z,fun k=>xs.length-k,0,(cvE rfl rfl),⟨⟨Gb _,fun j _ h=>Gs h (Ud _)⟩,fX,hbX⟩,?_⟩;clear fX hbX X;rintro k Z ⟨⟨hk,hno⟩,fZ,hbZ⟩;refine biE (fun hc=>?_) fun hc=>?_
 ·have hc:(k:Int)<(xs.length:Int):=dT hc;have hkl:k<xs.length:=by omega
  obtain⟨b,o,hqe,hlb,hat⟩:=hr.at hkl;subst hqe;obtain⟨x,hx⟩:∃ x,xs[k]=x:=⟨_,rfl⟩;have hxm:x∈xs:=by rw [<- hx];exact gM hkl
  refine⟨k,rfl,hkl,exC x.1 x.2.1 x.2.2,zy _ _ _,by rw [<- hx];exact zm hbZ (hat k hkl),nL hlb hbZ.size,zn (X:=Z) (v := .agg (exC x.1 x.2.1 x.2.2).toArray) k55 (zy _ _ _) zS (zak _ _ _) fun S hbS fS sS=>?_⟩;have hwS:=zst hbZ hbS;have fZS:=zb hbS fZ;refine⟨exC y r d,zy _ _ _,za fZS,hlt fZS,exC x.1 x.2.1 x.2.2,zy _ _ _,za fS,hlt fS,cmo (ziL (x:=y) (y:=x.1) (c:=d) (d:=x.2.2) (hy.below hwS) ((he x hxm).below hwS) hyl) ?_⟩;rintro e T ⟨rfl,hbT⟩;have hwT:=zst hwS hbT;refine biE (fun h=>?_) fun h=>?_
  ·exact⟨rb (zl8 (f:=fun x=>jV y x.1) hkl (by rw [hx];exact h)).symm,hwT⟩
  ·refine nxI (by omega) ⟨k+1,(cvE rfl rfl),⟨⟨hkl,fun j hj hjk=>?_⟩,zb hbT fZS,hwT⟩,zdc (by omega)⟩;by_cases e:j=k
   ·subst e;rw [hx];exact h
   ·exact hno j hj (by omega)
 ·have hc:¬ (k:Int)<(xs.length:Int):=dF hc;exact⟨rb (zo0 (f:=fun x=>jV y x.1) (k:=k) (fun j hj h=>hno j hj h) (by omega)).symm,hbZ⟩
theorem zm9 {a b:Nat} (hw:zX y.co.to) (hyl:y.ev.length<=48) :
  CB 20 #[.agg (exC y r d).toArray,i64 a,i64 b] w (.bool ((List.range y.ev.length).any fun c=>jY y.co a c&&jY y.co c b)):=by
 refine qX 27 [.agg (exC y r d).toArray,i64 a,i64 b] (.c .p .p) Tryz.func20 ?_;obtain⟨L,hL⟩:=nm (w.heap.size);refine⟨Unit,fun _=>⟨[(1,i64 a),(2,i64 b),(3,At0 L)],[]⟩,fun _ X=>ExH X L y r d/\Bw w X,⟨(),⟨.cons rfl (.cons rfl (.cons (by rw [hL];rfl) .nil)),rfl⟩,by rw [hL];exact zz w _,(zba w _)⟩,?_⟩;rintro _ X ⟨fX,hbX⟩;have hrl:(List.range y.ev.length).length=y.ev.length:=KY;refine⟨_,jJ (za fX),Nat,fun k=>⟨[(1,i64 a),(2,i64 b),(3,At0 L),(10,i64 y.ev.length),(11,i64 (k:Nat))],[]⟩,fun k Z=>(k<=y.ev.length/\∀ j,j<k->(jY y.co a j&&jY y.co j b)=false)/\ExH Z L y r d/\Bw w Z,fun k=>y.ev.length-k,0,(cvE rfl rfl),⟨⟨Gb _,fun j h=>Gs h (Ud _)⟩,fX,hbX⟩,?_⟩;clear fX hbX X;rintro k Z ⟨⟨hk,hno⟩,fZ,hbZ⟩;refine biE (fun hc=>?_) fun hc=>?_
 ·have hc:(k:Int)<(y.ev.length:Int):=dT hc;have hkl:k<y.ev.length:=by omega
  have nxt:∀ {T:Wd},(jY y.co a k&&jY y.co k b)=false->ExH T L y r d->Bw w T->((k+1<=y.ev.length/\∀ j,j<k+1->(jY y.co a j&&jY y.co j b)=false)/\ExH T L y r d/\Bw w T):=fun {T} h1 h2 h3=>⟨⟨hkl,fun j hj=>by
   by_cases e:j=k
   ·rw [e];exact h1
   ·exact hno j (by omega)⟩,h2,h3⟩
  refine⟨zj y.co,zk _,zkB fZ,hlt fZ,cmo (zpc (r:=y.co) hw) ?_⟩;rintro e S ⟨rfl,hbS⟩;have hwS:=zst hbZ hbS;have fS:=zb hbS fZ;refine biE (fun h=>?_) fun h=>?_
  ·refine⟨zj y.co,zk _,zkB fS,hlt fS,cmo (zpc (r:=y.co) hw) ?_⟩;rintro e T ⟨rfl,hbT⟩;have hwT:=zst hwS hbT;have fT:=zb hbT fS;refine biE (fun h2=>?_) fun h2=>?_
   ·exact⟨rb (zl8 (l:=List.range y.ev.length) (f:=fun c=>jY y.co a c&&jY y.co c b) (k:=k) (by omega) (by rw [KB,h,h2];rfl)).symm,hwT⟩
   ·exact nxI (by omega) ⟨k+1,(cvE rfl rfl),nxt (by rw [h2,Uk]) fT hwT,zdc (by omega)⟩
  ·exact brF (nxI (by omega) ⟨k+1,(cvE rfl rfl),nxt (by rw [h,Ul]) fS hwS,zdc (by omega)⟩)
 ·have hc:¬ (k:Int)<(y.ev.length:Int):=dF hc;exact⟨rb (zo0 (l:=List.range y.ev.length) (f:=fun c=>jY y.co a c&&jY y.co c b) (k:=k) (fun j hj h=>by rw [KB];exact hno j h) (by omega)).symm,hbZ⟩
end
def zaB (x:ExD) (n:Nat):List Nat:=(List.range n).filter fun i=>decide ((evA x i).k=1)
def qE (x:ExD) (n:Nat):List Nat:=(List.range n).filter fun i=>decide ((evA x i).k=2) && !decide ((evA x i).th = -1)
theorem zjf (x:ExD) (n:Nat):zaB x (n+1)=zaB x n++if (evA x n).k=1 then [n] else []:=by
 unfold zaB;rw [QY,Ky];congr 1;by_cases h:(evA x n).k=1
 ·rw [Qq,Gr (Uu h),Gr h];rfl
 ·rw [Qq,Gq (by simpa using h),Gq h];rfl
theorem zhW (x:ExD) (n:Nat):qE x (n+1)=qE x n++if (evA x n).k=2/\(evA x n).th ≠ -1 then [n] else []:=by
 unfold qE;rw [QY,Ky];congr 1;by_cases h:(evA x n).k=2/\(evA x n).th ≠ -1
 ·rw [Qq,Gr (by rw [Uu h.1,Uj h.2];rfl),Gr h];rfl
 ·rw [Qq,Gq (fun e=>h (by
   rw [bAT,dE,KM,JC] at e;exact e)),Gq h];rfl
theorem zhm (x:ExD) (n:Nat):(zaB x n).length<=n:=by
 have:=JO (fun i=>decide ((evA x i).k=1)) (List.range n);rw [KY] at this;exact this
theorem zfE (x:ExD) (n:Nat):(qE x n).length<=n:=by
 have:=JO (fun i=>decide ((evA x i).k=2) && !decide ((evA x i).th = -1)) (List.range n);rw [KY] at this;exact this
theorem zky {x:ExD} {n i:Nat} (h:i∈zaB x n):i<n/\(evA x i).k=1:=by
 obtain⟨h1,h2⟩:=QV.1 h;exact⟨Uq.1 h1,dT h2⟩
theorem ziS {x:ExD} {n i:Nat} (h:i∈qE x n):i<n/\(evA x i).k=2/\(evA x i).th ≠ -1:=by
 obtain⟨h1,h2⟩:=QV.1 h;rw [bAT,dE,KM,JC] at h2;exact⟨Uq.1 h1,h2⟩
theorem zos {x:ExD} {q:OA} {c l:Nat} (hl:l<6) (v:UInt8):(exC x q c).set (0+295+32+l*1) (u8 v)=exC { x with mem:=upd x.mem l v } q c:=by
 obtain⟨A,Z,hA,hE⟩:=zkT x q c [];have h1:=hE x.mem;have h2:=hE (upd x.mem l v);rw [QM] at h1 h2;have h1:exC x q c=_:=h1;rw [h2,h1,show 0+295+32+l*1=327+l by omega,qs hA];have e:u8 v=(fun i=>u8 (upd x.mem l v i)) l:=by
  show u8 v=u8 (upd x.mem l v l);rw [zE]
 rw [e,zc4 (f:=fun i=>u8 (x.mem i)) (fun i=>u8 (upd x.mem l v i)) hl fun j hj=>by
  show u8 (upd x.mem l v j)=u8 (x.mem j);rw [zV _ _ hj]]
theorem zgs {n:Nat} {r:RelD} (h:RelOk n r) {a b:Nat} (ha:a<n) (hb:b<n):jY r a b=zL r a b:=by
 unfold jY;rw [h.ok,h.n,Uu (by omega:(a:Int)<(n:Int)),Uu (by omega:(b:Int)<(n:Int))];rfl
section
variable {B:Nat} {w:Wd} {pc:List Value} {p:Prg}
theorem ziG {wh rd wr:Nat} (hP:PrgX w.heap.size w pc p) (hh:wh<65536) (hrd:rd<65536) (hwr:wr<65536) (hG:GlobE w) :
  CB 6 #[.agg pc.toArray,.int .u16 (wh:Nat),.int .u16 (rd:Nat),.int .u16 (wr:Nat)] w (.bool true):=by
 refine zdL (S:=sg 232) (zbe _) (args:=[.agg pc.toArray,.int .u16 (wh:Nat),.int .u16 (rd:Nat),.int .u16 (wr:Nat)])
  (.c .p (.c .p (.c .p (.c .p (.s .p (.c (.s .p (.b (.l (.s .p (.s .p (.c (.b (.s .p .p)) .p)))))) (.c (.s .p (.d (.s .p (.s .p (.b (.l (.s .p (.s .p (.c (.b (.s .p (.c .p (.c .p (.c .p (.s .p .p)))))) .p))))))) .p)) (.c .p (.s .p (.s (.s .p (.b (.l (.s .p (.s .p (.c (.b (.s .p (.c .p (.c .p (.s .p (.s .p (.c .p .p))))))) .p)))))) .p)))))))))) Tryz.func6 rfl rfl (JU rfl) rfl ?_
 obtain⟨L,hL⟩:=nm (w.heap.size);have hpc:=hP.v.size;refine⟨Unit,fun _=>⟨[(1,.int .u16 (wh:Nat)),(2,.int .u16 (rd:Nat)),(3,.int .u16 (wr:Nat)),(4,At0 L)],[]⟩,fun _ X=>X.heap[L]?=some (.cells pc.toArray 29 (0,0))/\Bw w X,⟨(),⟨.cons rfl (.cons rfl (.cons rfl (.cons (by rw [hL];rfl) .nil))),rfl⟩,by rw [hL];exact zz w _,(zba w _)⟩,?_⟩;rintro _ X ⟨f0,hbX⟩;have aw:∀ Y,Bw w Y->Calls PG 10 #[] Y fun e w'=>e = .returned (.bool true)/\Bw w w':=fun Y hwY=>cmo (zsg (hG.below hwY)) fun e U h=>⟨h.1,hwY.trans (h.2.mono hwY.size)⟩;refine⟨Bool×List zcq×OA×Nat,fun s=>⟨[(1,.int .u16 (wh:Nat)),(2,.int .u16 (rd:Nat)),(3,.int .u16 (wr:Nat)),(9,.slice s.2.2.1 s.2.1.length s.2.2.2),(10,.bool s.1)],[]⟩,fun s Y=>(s.1=true->∃ V,zcC p=true/\zcz p V 300/\s.2.1.map (·.1)=zZ p V/\OwnS exE 55 w.heap.size Y s.2.2.1 s.2.2.2 s.2.1/\∀ x∈s.2.1,OwnS evE 60 w.heap.size Y x.2.1 x.2.2 x.1.ev)/\Bw w Y,?_,?_⟩
 ·refine⟨pc,hpc,za f0,hlt f0,?_⟩;refine cmo (zrG hbX.size (hP.below hbX) (hG.below hbX)) ?_;rintro e Y ⟨hcase,hbY⟩;have hwY:=zst hbX hbY;obtain⟨V,hok,hco,xs,q,c,rfl,hxs,oX,oE⟩ | rfl:=hcase
  ·exact⟨(true,xs,q,c),(cvE rfl rfl),fun _=>⟨V,hok,hco,hxs,oX.lower hbX.size,fun x hx=>(oE x hx).lower hbX.size⟩,hwY⟩
  ·exact⟨(false,[],none,0),(cvE rfl rfl),(fun h=>by cases h),hwY⟩
 clear f0 hbX;clear X;rintro⟨ok,xs,q,c⟩ Y ⟨hcase,hwY⟩;dsimp only at hcase ⊢;refine⟨Unit,fun _=>⟨[(1,.int .u16 (wh:Nat)),(2,.int .u16 (rd:Nat)),(3,.int .u16 (wr:Nat)),(9,.slice q xs.length c)],[]⟩,fun _ X=>X=Y/\0<xs.length/\ok=true,?_,?_⟩
 ·cases ok with
  | false =>
   refine Gi (fun h=>?_) (fun h=>by cases h);refine brT ?_;refine cmo (aw Y hwY) ?_;rintro e U ⟨rfl,hbU⟩;exact⟨rfl,hbU⟩
  | true =>
   refine Gi (fun h=>by cases h) (fun h=>?_);refine biE (fun h=>?_) fun h=>?_
   ·refine cmo (aw Y hwY) ?_;rintro e U ⟨rfl,hbU⟩;exact⟨rfl,hbU⟩
   ·have h0:¬ ((xs.length:Int)=0):=dF h;exact⟨(),(cvE rfl rfl),rfl,(by omega),rfl⟩
 rintro _ _ ⟨rfl,hn0,rfl⟩;obtain⟨V,hok,hco,hxs,oX,oE⟩:=hcase rfl;clear hcase;rename_i Y;have hO:=zc7 hok;have sYw:=hwY.size;obtain⟨k,hk⟩:=nm (wh%xs.length);have hkl:k<xs.length:=by rw [hk];exact Gh _ hn0
 have hxl:xs.length<=9223372036854775807:=by
  rcases oX.inv with ⟨_,h2,h⟩ | ⟨_,_,_,_,_,h,h2,_⟩
  ·rw [h];exact Gb _
  ·unfold maxLen at h2;omega
 obtain⟨b,o,rfl,hlb,hat⟩:=oX.row.at hkl;obtain⟨x,hx⟩:∃ x,xs[k]=x:=⟨_,rfl⟩;have hat:=hat k hkl;rw [hx] at hat;have hxm:x∈xs:=by rw [<- hx];exact gM hkl
 have hxc:x.1∈zZ p V:=by rw [<- hxs];exact Ko hxm
 have hev:=(oE x hxm).row;obtain⟨xe,qx,cx⟩:=x;dsimp only at hat hxc hev;have hgood:=zgG hO hco (by decide) hxc;have hx48:=hgood.n;have hin:∀ {y:ExD} {z:ExD},z∈zZ p V->jV y z=true->(xs.any fun x=>jV y x.1)=true:=fun {y z} hz hs=>by
  rw [<- hxs] at hz;obtain⟨x,hx,rfl⟩:=UL.1 hz;exact Qn.2 ⟨x,hx,hs⟩
 clear hx hxm;refine⟨Nat,fun M=>⟨[(2,.int .u16 (rd:Nat)),(3,.int .u16 (wr:Nat)),(9,.slice (some ⟨b,o,none⟩) xs.length c),(11,At0 M)],[]⟩,fun M U=>ExH U M xe qx cx/\Y.heap.size<=M/\Bw Y U,?_,?_⟩
 ·refine⟨(wh:Int),ze (by omega),?_⟩;refine⟨by omega,((wh%xs.length:Nat):Int),(Int.ofNat_tmod _ _).symm,?_⟩;refine⟨wh%xs.length,rfl,by omega,?_⟩;refine⟨exC xe qx cx,zy _ _ _,by rw [<- hk];exact hat,hlb,?_⟩;refine zn (X:=Y) (v := .agg (exC xe qx cx).toArray) k55 (zy _ _ _) zS (zak _ _ _) fun Z hbZ fZ sZ=>?_;exact⟨Y.heap.size,(cvE rfl rfl),fZ,UY _,hbZ⟩
 rintro M U ⟨fM,hYM,hbU⟩;have hin_c:∀ {y:ExD} {W:Wd},Bw Y W->y.ev=xe.ev->(∃ z∈zZ p V,jV y z=true)->CB 18 #[.slice (some ⟨b,o,none⟩) xs.length c,.agg (exC y qx cx).toArray] W (.bool true):=fun {y W} hbW hye ⟨z,hz,hs⟩=>by
  have:=zsP (q:=some ⟨b,o,none⟩) (c:=c) (r:=qx) (d:=cx) (y:=y) (xs:=xs) (oX.row.below hbW) (fun x hx=>(oE x hx).row.below hbW) (by rw [hye];exact hev.below hbW) (by rw [hye];omega) hxl;rw [hin hz hs] at this;exact this
 clear hk hkl hat hin hn0 hlb;refine⟨(OA×Nat)×OA×Nat,fun s=>⟨[(2,.int .u16 (rd:Nat)),(3,.int .u16 (wr:Nat)),(9,.slice (some ⟨b,o,none⟩) xs.length c),(11,At0 M),(12,.slice s.1.1 (zaB xe xe.ev.length).length s.1.2),(13,.slice s.2.1 (qE xe xe.ev.length).length s.2.2)],[]⟩,fun s S=>OwnS zu 3 U.heap.size S s.1.1 s.1.2 (zaB xe xe.ev.length)/\OwnS zu 3 U.heap.size S s.2.1 s.2.2 (qE xe xe.ev.length)/\Bw U S,?_,?_⟩
 ·refine⟨_,jJ (za fM),?_⟩;refine⟨Nat×(OA×Nat)×OA×Nat,fun s=>⟨[(2,.int .u16 (rd:Nat)),(3,.int .u16 (wr:Nat)),(9,.slice (some ⟨b,o,none⟩) xs.length c),(11,At0 M),(12,.slice s.2.1.1 (zaB xe s.1).length s.2.1.2),(13,.slice s.2.2.1 (qE xe s.1).length s.2.2.2),(47,.slice qx xe.ev.length cx),(48,i64 xe.ev.length),(49,i64 (s.1:Nat))],[]⟩,
   fun s S=>s.1<=xe.ev.length/\OwnS zu 3 U.heap.size S s.2.1.1 s.2.1.2 (zaB xe s.1)/\OwnS zu 3 U.heap.size S s.2.2.1 s.2.2.2 (qE xe s.1)/\(∀ a d,s.2.1.1=some a->s.2.2.1=some d->a.block≠d.block)/\Bw U S,fun s=>xe.ev.length-s.1,(0,(none,0),none,0),
   (cvE rfl rfl),⟨Gb _,OwnS.nil,OwnS.nil,(fun a d h=>by cases h),Gd _ _⟩,?_⟩
  rintro⟨j,⟨q1,c1⟩,q2,c2⟩ S ⟨hj,o1,o2,hne,hbS⟩;dsimp only at hj o1 o2 hne ⊢;refine biE (fun hc=>?_) fun hc=>?_
  ·have hc:(j:Int)<(xe.ev.length:Int):=dT hc;have hjl:j<xe.ev.length:=by omega
   obtain⟨bx,ox,rfl,hbx,hatx⟩:=zcr hev (by omega);have sS:=hbS.size;obtain⟨e,he⟩:∃ e,evA xe j=e:=⟨_,rfl⟩;have n1:=zjf xe j;have n2:=zhW xe j;rw [he] at n1 n2;have l1:=zhm xe j;have l2:=zfE xe j;have hcv:zx S ⟨bx,ox+j*7,none⟩ (evE.enc e):=by rw [<- he];exact zm ((zst hbU hbS)) (hatx j hjl)
   refine⟨(OA×Nat)×OA×Nat,fun s=>⟨[(2,.int .u16 (rd:Nat)),(3,.int .u16 (wr:Nat)),(9,.slice (some ⟨b,o,none⟩) xs.length c),(11,At0 M),(12,.slice s.1.1 (zaB xe (j+1)).length s.1.2),(13,.slice s.2.1 (qE xe (j+1)).length s.2.2),(47,.slice (some ⟨bx,ox,none⟩) xe.ev.length cx),(48,i64 xe.ev.length),(49,i64 (j:Nat))],[]⟩,
    fun s S=>OwnS zu 3 U.heap.size S s.1.1 s.1.2 (zaB xe (j+1))/\OwnS zu 3 U.heap.size S s.2.1 s.2.2 (qE xe (j+1))/\(∀ a d,s.1.1=some a->s.2.1=some d->a.block≠d.block)/\Bw U S,?_,?_⟩
   rotate_left
   ·rintro⟨⟨q3,d3⟩,q4,d4⟩ S2 ⟨m1,m2,m3,hbS2⟩;dsimp only at m1 m2 m3 ⊢;refine nxI (by omega) ?_;exact⟨(j+1,(q3,d3),q4,d4),(cvE rfl rfl),⟨hjl,m1,m2,m3,hbS2⟩,zdc (by omega)⟩
   refine⟨j,rfl,hjl,?_⟩;refine⟨evE.enc e,rfl,hcv,nL hbx (UO hbU.size sS),?_⟩;refine zn (X:=S) (v := .agg (evE.enc e).toArray) k60 rfl rfl (Qm.2 fun u hu=>evE.one _ u hu) fun T hbT fN sT=>?_;have p1:=o1.below hbT;have p2:=o2.below hbT;have hUT:=hbS.trans (hbT.mono sS);refine⟨_,zc (za fN) (i:=1) rfl,?_⟩;refine biE (fun h=>?_) fun h=>?_
   ·have h:e.k=1:=dT ((zaK (x:=e.k) (y:=1)).symm.trans h);rw [Gr h] at n1;rw [Gq (fun h2=>by rw [h] at h2;exact Gs h2.1 (by decide)),QM] at n2;refine⟨⟨by decide,by decide,rfl⟩,zu.enc j,rfl,?_⟩;have hba:Bw T (T.alloc (.cells (zu.enc j).toArray 3)):=zba _ _;refine zk9 (p1.below hba) (qF zu j) (by have:=hba.size;have:=hUT.size;omega) (by omega) fun q3 d3 W oW gW hatW=>?_;rw [j4] at gW;refine⟨((q3,d3),q2,c2),⟨.cons rfl (.cons rfl (.cons rfl (.cons rfl (.cons (by rw [n1];rfl) (.cons (by rw [n2];rfl) (.cons rfl (.cons rfl (.cons rfl .nil)))))))),rfl⟩,by rw [n1];exact oW,by rw [n2];exact zbw (p2.below hba) gW (fun a d ha hd=>hne a d ha hd),fun a d ha hd=>?_,?_⟩
    ·rcases hatW a ha with h3 | h3
     ·exact hne a d h3 hd
     ·have:=(zo p2 hd).2.1;have:=hba.size;omega
    ·have hUb:=zst hUT hba;exact hUb.trans (qC (p1.below hba) hUb.size (UY _) gW)
   ·have h:¬ e.k=1:=dF ((zaK (x:=e.k) (y:=1)).symm.trans h);rw [Gq h,QM] at n1;have skip:¬ ((e.k=2)/\e.th ≠ -1)->(fun s S=>OwnS zu 3 U.heap.size S s.1.1 s.1.2 (zaB xe (j+1))/\OwnS zu 3 U.heap.size S s.2.1 s.2.2 (qE xe (j+1))/\(∀ a d,s.1.1=some a->s.2.1=some d->a.block≠d.block)/\Bw U S) (((q1,c1),q2,c2):(OA×Nat)×OA×Nat) T/\(qE xe (j+1))=(qE xe j):=fun h2=>by
     rw [Gq h2,QM] at n2;exact⟨⟨by rw [n1];exact p1,by rw [n2];exact p2,hne,hUT⟩,n2⟩
    refine⟨_,zc (za fN) (i:=1) rfl,?_⟩;refine biE (fun h2=>?_) fun h2=>?_
    ·have h2:e.k=2:=dT ((zaK (x:=e.k) (y:=2)).symm.trans h2);refine⟨_,zc (za fN) (i:=0) rfl,?_⟩;refine biE (fun h3=>?_) fun h3=>?_
     ·have h3:¬ e.th = -1:=dF (zpA h3);rw [Gr ⟨h2,h3⟩] at n2;refine⟨⟨by decide,by decide,rfl⟩,zu.enc j,rfl,?_⟩;have hba:Bw T (T.alloc (.cells (zu.enc j).toArray 3)):=zba _ _;refine zk9 (p2.below hba) (qF zu j) (by have:=hba.size;have:=hUT.size;omega) (by omega) fun q3 d3 W oW gW hatW=>?_;rw [j4] at gW;refine⟨((q1,c1),q3,d3),⟨.cons rfl (.cons rfl (.cons rfl (.cons rfl (.cons (by rw [n1];rfl) (.cons (by rw [n2];rfl) (.cons rfl (.cons rfl (.cons rfl .nil)))))))),rfl⟩,by rw [n1];exact zbw (p1.below hba) gW (fun a d ha hd e2=>hne d a hd ha e2.symm),by rw [n2];exact oW,fun a d ha hd=>?_,?_⟩
      ·rcases hatW d hd with h4 | h4
       ·exact hne a d ha h4
       ·have:=(zo p1 ha).2.1;have:=hba.size;omega
      ·have hUb:=zst hUT hba;exact hUb.trans (qC (p2.below hba) hUb.size (UY _) gW)
     ·have h3:e.th = -1:=dT (zju h3);obtain⟨s1,s2⟩:=skip fun h4=>h4.2 h3;exact⟨((q1,c1),q2,c2),⟨.cons rfl (.cons rfl (.cons rfl (.cons rfl (.cons (by rw [n1];rfl) (.cons (by rw [s2];rfl) (.cons rfl (.cons rfl (.cons rfl .nil)))))))),rfl⟩,s1⟩
    ·have h2:¬ e.k=2:=dF ((zaK (x:=e.k) (y:=2)).symm.trans h2);refine brF ?_;obtain⟨s1,s2⟩:=skip fun h4=>h2 h4.1;exact⟨((q1,c1),q2,c2),⟨.cons rfl (.cons rfl (.cons rfl (.cons rfl (.cons (by rw [n1];rfl) (.cons (by rw [s2];rfl) (.cons rfl (.cons rfl (.cons rfl .nil)))))))),rfl⟩,s1⟩
  ·have hc:¬ (j:Int)<(xe.ev.length:Int):=dF hc;obtain rfl:j=xe.ev.length:=by omega
   exact⟨((q1,c1),q2,c2),(cvE rfl rfl),o1,o2,hbS⟩
 rintro⟨⟨q1,c1⟩,q2,c2⟩ S ⟨o1,o2,hbS⟩;dsimp only at o1 o2 ⊢;have hYS:=zst hbU hbS;replace fM:=zb hbS fM;have sYS:=hYS.size;have hMS:M<S.heap.size:=hlt fM;clear hbS;obtain⟨rl,hrl⟩:=nm ((zaB xe xe.ev.length));obtain⟨wl,hwl⟩:=nm ((qE xe xe.ev.length));rw [<- hrl] at o1;rw [<- hwl] at o2;have hll:=zfE xe xe.ev.length;have hll2:=zhm xe xe.ev.length;rw [<- hwl] at hll;rw [<- hrl] at hll2;refine⟨Unit,fun _=>⟨[(3,.int .u16 (wr:Nat)),(9,.slice (some ⟨b,o,none⟩) xs.length c),(11,At0 M),(13,.slice q2 wl.length c2)],[]⟩,fun _ Z=>Bw S Z,?_,?_⟩
 ·refine biE (fun h0=>?_) fun h0=>?_
  ·have h0:(0:Int)<((zaB xe xe.ev.length).length:Nat):=dT h0;have h0:0<rl.length:=by rw [hrl];omega
   obtain⟨tr,htr⟩:=nm (rd%rl.length);have htl:tr<rl.length:=by rw [htr];exact Gh _ h0
   obtain⟨r,hr⟩:∃ r,rl[tr]=r:=⟨_,rfl⟩;obtain⟨hr1,hr2⟩:r<xe.ev.length/\(evA xe r).k=1:=zky (x:=xe) (n:=xe.ev.length) (by rw [<- hr,<- hrl];exact gM htl);rw [<- hrl];obtain⟨br,or_,rfl,hbr,hatr⟩:=o1.row.at htl;refine⟨(rd:Int),ze (by omega),?_⟩;refine⟨by omega,((rd%rl.length:Nat):Int),(Int.ofNat_tmod _ _).symm,?_⟩;refine⟨rd%rl.length,rfl,by omega,?_⟩;refine⟨i64 (r:Nat),by rw [<- htr,<- hr];exact zc (hatr tr htl) (i:=0) rfl,?_⟩;refine⟨_,jJ (za fM),?_⟩;refine⟨Nat,fun j=>⟨[(3,.int .u16 (wr:Nat)),(9,.slice (some ⟨b,o,none⟩) xs.length c),(11,At0 M),(13,.slice q2 (qE xe xe.ev.length).length c2),(16,i64 (r:Nat)),(88,.slice qx xe.ev.length cx),(89,i64 xe.ev.length),(90,i64 (j:Nat))],[]⟩,fun j Z=>j<=xe.ev.length/\Bw S Z,fun j=>xe.ev.length-j,0,(cvE rfl rfl),⟨Gb _,Gd _ _⟩,?_⟩;rintro j Z ⟨hj,hbZ⟩;refine biE (fun hc=>?_) fun hc=>?_
   ·have hc:(j:Int)<(xe.ev.length:Int):=dT hc;have hjl:j<xe.ev.length:=(by omega);obtain⟨bx,ox,rfl,hbx,hatx⟩:=zcr hev (by omega);have sZ:=hbZ.size;refine⟨Unit,fun _=>⟨[(3,.int .u16 (wr:Nat)),(9,.slice (some ⟨b,o,none⟩) xs.length c),(11,At0 M),(13,.slice q2 (qE xe xe.ev.length).length c2),(16,i64 (r:Nat)),(88,.slice (some ⟨bx,ox,none⟩) xe.ev.length cx),(89,i64 xe.ev.length),(90,i64 (j:Nat))],[]⟩,fun _ Z=>Bw S Z,?_,?_⟩
    rotate_left
    ·rintro _ Z2 hbZ2;refine nxI (by omega) ?_;exact⟨j+1,(cvE rfl rfl),⟨hjl,hbZ2⟩,zdc (by omega)⟩
    have hYZ:=hYS.trans (hbZ.mono sYS);refine⟨j,rfl,hjl,?_⟩;refine⟨evE.enc (evA xe j),rfl,zm hYZ (hatx j hjl),nL hbx hYZ.size,?_⟩;refine zn (X:=Z) (v := .agg (evE.enc (evA xe j)).toArray) k60 rfl rfl (Qm.2 fun u hu=>evE.one _ u hu) fun T hbT fN sT=>?_;have hST:=hbZ.trans (hbT.mono sZ);have hYT:=hYS.trans (hST.mono sYS);clear hbZ hbT;refine⟨Unit,fun _=>⟨[(3,.int .u16 (wr:Nat)),(9,.slice (some ⟨b,o,none⟩) xs.length c),(11,At0 M),(13,.slice q2 (qE xe xe.ev.length).length c2),(16,i64 (r:Nat)),(17,i64 (j:Nat)),(88,.slice (some ⟨bx,ox,none⟩) xe.ev.length cx),(89,i64 xe.ev.length),(90,i64 (j:Nat))],[]⟩,fun _ W=>((evA xe j).k=2/\(evA xe j).l=(evA xe r).l/\(evA xe j).v=(evA xe r).v)/\Bw S W,?_,?_⟩
    ·have hbd:=hST.drew;have fMd:=zb hbd fM;have hYd:=hYT.drew;refine DrawE.ord [] [0,1,2,3,4,5,6,7,8,9,10,11,12,13,14,15,16,17,18,19,20,21,22,23,24] (by kernel_rfl) ?_;refine⟨_,zc (za (hdr fN)) (i:=1) rfl,?_⟩;refine biE (fun h=>?_) fun h=>?_
     ·refine brT ?_;refine brT ?_;exact⟨(),(cvE rfl rfl),hbd⟩
     ·have h1:(evA xe j).k=2:=dT ((zaK (x:=(evA xe j).k) (y:=2)).symm.trans (zju h));refine⟨_,zc (za (hdr fN)) (i:=2) rfl,?_⟩;refine⟨_,jJ (za fMd),?_⟩;refine⟨r,rfl,hr1,?_⟩;refine⟨_,zc (zm hYd (hatx r hr1)) (i:=2) rfl,?_⟩;refine biE (fun h=>?_) fun h=>?_
      ·refine brT ?_;exact⟨(),(cvE rfl rfl),hbd⟩
      ·have h2:(evA xe j).l=(evA xe r).l:=dT ((zaK (x:=(evA xe j).l) (y:=(evA xe r).l)).symm.trans (zju h));refine⟨_,zc (za (hdr fN)) (i:=3) rfl,?_⟩;refine⟨_,jJ (za fMd),?_⟩;refine⟨r,rfl,hr1,?_⟩;refine⟨_,zc (zm hYd (hatx r hr1)) (i:=3) rfl,?_⟩;refine biE (fun h=>?_) fun h=>?_
       ·exact⟨(),(cvE rfl rfl),hbd⟩
       ·have h3:(evA xe j).v=(evA xe r).v:=dT ((zaK (x:=(evA xe j).v) (y:=(evA xe r).v)).symm.trans (zju h));exact⟨(),(cvE rfl rfl),⟨h1,h2,h3⟩,hbd⟩
    clear fN hST hYT sT;clear T;rintro _ W ⟨⟨hw2,hwl2,hwv2⟩,hbW⟩;have sW:=hbW.size;have hj48:j<48:=(by omega);have hr48:r<48:=(by omega);refine⟨Nat,fun N=>⟨[(3,.int .u16 (wr:Nat)),(9,.slice (some ⟨b,o,none⟩) xs.length c),(11,At0 M),(13,.slice q2 (qE xe xe.ev.length).length c2),(16,i64 (r:Nat)),(17,i64 (j:Nat)),(19,At0 N),(88,.slice (some ⟨bx,ox,none⟩) xe.ev.length cx),(89,i64 xe.ev.length),(90,i64 (j:Nat))],[]⟩,fun N X=>ExH X N xe (some ⟨bx,ox,none⟩) cx/\S.heap.size<=N/\Bw S X,?_,?_⟩
    ·have fMW:=zb hbW fM;refine⟨exC xe (some ⟨bx,ox,none⟩) cx,zy _ _ _,za fMW,hlt fMW,?_⟩;refine zn (X:=W) (v := .agg (exC xe (some ⟨bx,ox,none⟩) cx).toArray) k55 (zy _ _ _) zS (zak _ _ _) fun X hbX fX sX=>?_;exact⟨W.heap.size,(cvE rfl rfl),fX,sW,hbW.trans (hbX.mono sW)⟩
    clear hbW sW;clear W;rintro N W ⟨fN,hSN,hbW⟩;obtain⟨A,Zc,hA,hE⟩:=zom xe (some ⟨bx,ox,none⟩) cx [];obtain⟨F,hF⟩:∃ F:Nat->Nat->Nat,F=fun k j=>if j<k then jE (xe.rf.to j) (2^r) else xe.rf.to j:=⟨_,rfl⟩
    have hR0:RelAt W N 50 55 A Zc ⟨xe.rf.n,F 0⟩:=⟨hA,by
     have e:=hE ⟨xe.rf.n,F 0⟩;rw [QM] at e;rw [<- e];have e2:F 0=xe.rf.to:=(by rw [hF];funext j;exact Gq (Ud j));rw [e2];exact fN⟩
    refine⟨Unit,fun _=>⟨[(3,.int .u16 (wr:Nat)),(9,.slice (some ⟨b,o,none⟩) xs.length c),(11,At0 M),(13,.slice q2 (qE xe xe.ev.length).length c2),(16,i64 (r:Nat)),(17,i64 (j:Nat)),(19,At0 N),(88,.slice (some ⟨bx,ox,none⟩) xe.ev.length cx),(89,i64 xe.ev.length),(90,i64 (j:Nat))],[]⟩,fun _ X=>RelAt X N 50 55 A Zc ⟨xe.rf.n,F 48⟩/\Bw S X,?_,?_⟩
    ·refine⟨Nat,fun k=>⟨[(3,.int .u16 (wr:Nat)),(9,.slice (some ⟨b,o,none⟩) xs.length c),(11,At0 M),(13,.slice q2 (qE xe xe.ev.length).length c2),(16,i64 (r:Nat)),(17,i64 (j:Nat)),(19,At0 N),(88,.slice (some ⟨bx,ox,none⟩) xe.ev.length cx),(89,i64 xe.ev.length),(90,i64 (j:Nat)),(121,i64 (k:Nat))],[]⟩,fun k Z=>k<=48/\RelAt Z N 50 55 A Zc ⟨xe.rf.n,F k⟩/\Bw S Z,fun k=>48-k,0,(cvE rfl rfl),⟨by decide,hR0,hbW⟩,?_⟩;clear hR0 hbW fN;rintro k Z ⟨hk48,hRZ,hbZ⟩;refine biE (fun hc=>?_) fun hc=>?_
     ·have hc:(k:Int)<48:=dT hc;have hk8:k<48:=(by omega);refine DrawE.ord [11] [0,1,2,3,4,5,6,7,8,9,10,11] (by kernel_rfl) ?_;have hRd:=hRZ.same (Y:=Z.drew) rfl;have hFk:F k k=xe.rf.to k:=(by rw [hF];exact Gq (Nat.lt_irrefl k));refine⟨k,rfl,hk8,?_⟩;refine⟨s64 (F k k),hRd.cell hk8,?_⟩;refine⟨by omega,_,jI (e:=r) (by omega),?_⟩;refine⟨_,zaX (by rw [hFk];exact hgood.rels.rf.w k hk8) (zea (by omega)),?_⟩;refine⟨k,rfl,hk8,?_⟩;refine zi k45 hRd.cells (o:=50+1+k*1) (v:=s64 (qa (F k k) (2^r))) rfl rfl (by rw [hRd.len];omega) rfl ?_;intro T fT gT sT;rw [hRd.set hk8] at fT;have eF:upd (F k) k (qa (F k k) (2^r))=F (k+1):=by
       funext j;by_cases hj:j=k
       ·rw [hj,zE,hFk,hF];show _=if k<k+1 then _ else _
        rw [Gr (QD k)];rfl
       ·rw [zV _ _ hj,hF];show (if j<k then _ else _)=if j<k+1 then _ else _
        by_cases hjk:j<k
        ·rw [Gr hjk,Gr (by omega)]
        ·rw [Gq hjk,Gq (by omega)]
      have eF2:upd (RelD.mk xe.rf.n (F k)).to k (qa (F k k) (2^r))=F (k+1):=eF;rw [eF2] at fT;refine nxI (by omega) ?_;exact⟨k+1,(cvE rfl rfl),⟨hk8,⟨hRZ.at_,fT⟩,hbZ.drew.trans (zh gT hbZ.drew.size hSN)⟩,zdc (by omega)⟩
     ·have hc:¬ (k:Int)<48:=dF hc;obtain rfl:k=48:=(by omega);exact⟨(),(cvE rfl rfl),hRZ,hbZ⟩
    clear fN hbW hR0;clear W;rintro _ W ⟨hRW,hbW⟩;have hFs:F 48=zcF xe r:=(by rw [hF];rfl);rw [hFs] at hRW;refine DrawE.ord [11] [0,1,2,3,4,5,6,7,8,9,10,11] (by kernel_rfl) ?_;have hRd:=hRW.same (Y:=W.drew) rfl;have hsw:zcF xe r j<2^64:=by
     unfold zcF;rw [Gr hj48];exact qW (hgood.rels.rf.w j hj48)
    refine⟨j,rfl,hj48,?_⟩;refine⟨s64 (zcF xe r j),hRd.cell hj48,?_⟩;refine⟨by omega,_,jI (e:=r) (by omega),?_⟩;refine⟨_,zaw hsw (zea (by omega)),?_⟩;refine⟨j,rfl,hj48,?_⟩;refine zi k45 hRd.cells (o:=50+1+j*1) (v:=s64 (zcF xe r j|||2^r)) rfl rfl (by rw [hRd.len];omega) rfl ?_;intro T fT gT sT;rw [hRd.set hj48] at fT;have e2:=hE ⟨xe.rf.n,upd (zcF xe r) j (zcF xe r j|||2^r)⟩;rw [QM] at e2;have fT:ExH T N (zmi xe r j) (some ⟨bx,ox,none⟩) cx:=by
     show T.heap[N]?=some (.cells (exC (zmi xe r j) (some ⟨bx,ox,none⟩) cx).toArray _ (0,0));have e3:exC (zmi xe r j) (some ⟨bx,ox,none⟩) cx=A++(zj ⟨xe.rf.n,upd (zcF xe r) j (zcF xe r j|||2^r)⟩++Zc):=e2;rw [e3];exact fT
    have hST:=hbW.drew.trans (zh gT hbW.drew.size hSN);refine⟨exC (zmi xe r j) (some ⟨bx,ox,none⟩) cx,zy _ _ _,za fT,hlt fT,?_⟩;refine cmo (hin_c (hYS.trans (hST.mono sYS)) rfl (zm0 hO hxc hr1 hr2 hjl hw2 hwl2 hwv2)) ?_;rintro e V2 ⟨rfl,hbV⟩;refine brF ?_;exact⟨(),(cvE rfl rfl),(zst hST hbV)⟩
   ·exact⟨(),⟨.cons rfl (.cons rfl (.cons rfl (.cons (by rw [hwl];rfl) .nil))),rfl⟩,hbZ⟩
  ·exact⟨(),⟨.cons rfl (.cons rfl (.cons rfl (.cons (by rw [hwl];rfl) .nil))),rfl⟩,Gd _ _⟩
 rintro _ Z hbZ;refine⟨Unit,fun _=>⟨[(3,.int .u16 (wr:Nat)),(9,.slice (some ⟨b,o,none⟩) xs.length c),(11,At0 M),(13,.slice q2 wl.length c2)],[]⟩,fun _ X=>X=Z/\2<=wl.length,?_,?_⟩
 ·refine biE (fun h=>?_) fun h=>?_
  ·refine cmo (aw Z ((hwY.trans (hYS.mono sYw)).trans (hbZ.mono (by omega)))) ?_;rintro e U ⟨rfl,hbU⟩;exact⟨rfl,hbU⟩
  ·have h:¬ ((wl.length:Nat):Int)<2:=dF h;exact⟨(),(cvE rfl rfl),rfl,by omega⟩
 rintro _ _ ⟨rfl,h2⟩;rename_i Z;obtain⟨ta,hta⟩:=nm (wr%wl.length);have htal:ta<wl.length:=by rw [hta];exact Gh _ (by omega)
 obtain⟨a,ha⟩:∃ a,wl[ta]=a:=⟨_,rfl⟩;have wmem:∀ i∈wl,i<xe.ev.length/\(evA xe i).k=2/\(evA xe i).th ≠ -1:=fun i hi=>ziS (x:=xe) (n:=xe.ev.length) (by rw [<- hwl];exact hi);obtain⟨ha1,ha2,ha3⟩:=wmem a (by rw [<- ha];exact gM htal);have o2Z:=o2.row.below hbZ;obtain⟨bw,ow,rfl,hbw,hatw⟩:=o2Z.at htal;refine⟨(wr:Int),ze (by omega),?_⟩;refine⟨by omega,((wr%wl.length:Nat):Int),(Int.ofNat_tmod _ _).symm,?_⟩;refine⟨wr%wl.length,rfl,by omega,?_⟩;refine⟨i64 (a:Nat),by rw [<- hta,<- ha];exact zc (hatw ta htal) (i:=0) rfl,?_⟩;have a48:a<48:=by omega
 have hYZ:=hYS.trans (hbZ.mono sYS);have fMZ:=zb hbZ fM;have sZ:=hYZ.size;refine⟨Nat,fun j=>⟨[(9,.slice (some ⟨b,o,none⟩) xs.length c),(11,At0 M),(21,i64 (a:Nat)),(164,.slice (some ⟨bw,ow,none⟩) wl.length c2),(165,i64 wl.length),(166,i64 (j:Nat))],[]⟩,fun j W=>j<=wl.length/\Bw Z W,fun j=>wl.length-j,0,(cvE rfl rfl),⟨Gb _,Gd _ _⟩,?_⟩;rintro j W ⟨hj,hbW⟩;refine biE (fun hc=>?_) fun hc=>?_
 ·have hc:(j:Int)<(wl.length:Int):=dT hc;have hjl:j<wl.length:=by omega
  obtain⟨d,hd⟩:∃ d,wl[j]=d:=⟨_,rfl⟩;obtain⟨hd1,hd2,hd3⟩:=wmem d (by rw [<- hd];exact gM hjl);have d48:d<48:=by omega
  refine⟨Unit,fun _=>⟨[(9,.slice (some ⟨b,o,none⟩) xs.length c),(11,At0 M),(21,i64 (a:Nat)),(164,.slice (some ⟨bw,ow,none⟩) wl.length c2),(165,i64 wl.length),(166,i64 (j:Nat))],[]⟩,fun _ X=>Bw Z X,?_,?_⟩
  rotate_left
  ·rintro _ X hbX;refine nxI (by omega) ?_;exact⟨j+1,(cvE rfl rfl),⟨hjl,hbX⟩,zdc (by omega)⟩
  refine⟨j,rfl,hjl,?_⟩;refine⟨i64 (d:Nat),by rw [<- hd];exact zc (zm hbW (hatw j hjl)) (i:=0) rfl,?_⟩;have fMW:=zb hbW fMZ;refine⟨Unit,fun _=>⟨[(9,.slice (some ⟨b,o,none⟩) xs.length c),(11,At0 M),(21,i64 (a:Nat)),(23,i64 (d:Nat)),(164,.slice (some ⟨bw,ow,none⟩) wl.length c2),(165,i64 wl.length),(166,i64 (j:Nat))],[]⟩,fun _ X=>(zL xe.co a d=true/\∀ c,c<xe.ev.length->¬ (zL xe.co a c=true/\zL xe.co c d=true))/\Bw Z X,?_,?_⟩
  ·refine⟨zj xe.co,zk _,zkB fMW,hlt fMW,?_⟩;refine cmo (zpc (r:=xe.co) hgood.rels.co.w) ?_;rintro e X ⟨rfl,hbX⟩;have hZX:=zst hbW hbX;have fMX:=zb hbX fMW;refine biE (fun h=>?_) fun h=>?_
   ·refine brT ?_;exact⟨(),(cvE rfl rfl),hZX⟩
   ·have h:jY xe.co a d=true:=zju h;rw [zgs hgood.rels.co ha1 hd1] at h;refine⟨exC xe qx cx,zy _ _ _,za fMX,hlt fMX,?_⟩;refine cmo (zm9 (y:=xe) (r:=qx) (d:=cx) (a:=a) (b:=d) hgood.rels.co.w hx48) ?_;rintro e T ⟨rfl,hbT⟩;have hZT:=zst hZX hbT;refine biE (fun h4=>?_) fun h4=>?_
    ·exact⟨(),(cvE rfl rfl),hZT⟩
    ·have h4:((List.range xe.ev.length).any fun c=>jY xe.co a c&&jY xe.co c d)=false:=h4;refine⟨(),(cvE rfl rfl),⟨h,fun c hc ⟨g1,g2⟩=>?_⟩,hZT⟩;rw [KR] at h4;have:=h4 c (Uq.2 hc);rw [zgs hgood.rels.co ha1 hc,zgs hgood.rels.co hc hd1,g1,g2] at this;exact this rfl
  clear fMW hbW;clear W;rintro _ W ⟨⟨hab,hno⟩,hbW⟩;have sW:=hbW.size;have had:a≠d:=fun e=>by
   obtain⟨Ps,m,ds,h,_,_,hdg,he⟩:=zeq hO hxc;rw [e,he] at hab;obtain⟨l,_,g1,g2⟩:=(h.co_bit hdg).1 hab;exact (zdR g2).2 rfl
  refine⟨Nat,fun N=>⟨[(9,.slice (some ⟨b,o,none⟩) xs.length c),(11,At0 M),(21,i64 (a:Nat)),(23,i64 (d:Nat)),(24,At0 N),(164,.slice (some ⟨bw,ow,none⟩) wl.length c2),(165,i64 wl.length),(166,i64 (j:Nat))],[]⟩,fun N X=>ExH X N xe qx cx/\Z.heap.size<=N/\Bw Z X,?_,?_⟩
  ·have fMW:=zb hbW fMZ;refine⟨exC xe qx cx,zy _ _ _,za fMW,hlt fMW,?_⟩;refine zn (X:=W) (v := .agg (exC xe qx cx).toArray) k55 (zy _ _ _) zS (zak _ _ _) fun X hbX fX sX=>?_;exact⟨W.heap.size,(cvE rfl rfl),fX,sW,hbW.trans (hbX.mono sW)⟩
  clear hbW sW;clear W;rintro N W ⟨fN,hZN,hbW⟩;obtain⟨A,Zc,hA,hE⟩:=zor xe qx cx [];have hR0:RelAt W N 99 55 A Zc xe.co:=⟨hA,by
   have e:=hE xe.co;rw [QM] at e;rw [<- e];exact fN⟩
  refine DrawE.ord [11] [0,1,2,3,4,5,6,7,8,9,10,11] (by kernel_rfl) ?_;have hRd:=hR0.same (Y:=W.drew) rfl;refine⟨a,rfl,a48,?_⟩;refine⟨s64 (xe.co.to a),hRd.cell a48,?_⟩;refine⟨by omega,_,jI (e:=d) (by omega),?_⟩;refine⟨_,zaX (hgood.rels.co.w a a48) (zea (by omega)),?_⟩;refine⟨a,rfl,a48,?_⟩;refine zi k45 hRd.cells (o:=99+1+a*1) (v:=s64 (qa (xe.co.to a) (2^d))) rfl rfl (by rw [hRd.len];omega) rfl ?_;intro T fT gT sT;rw [hRd.set a48] at fT;have hR1:RelAt T N 99 55 A Zc ⟨xe.co.n,upd xe.co.to a (jE (xe.co.to a) (2^d))⟩:=⟨hA,fT⟩;have hZT:=hbW.drew.trans (zh gT hbW.drew.size hZN);refine DrawE.ord [11] [0,1,2,3,4,5,6,7,8,9,10,11] (by kernel_rfl) ?_;have hRe:=hR1.same (Y:=T.drew) rfl;have hdv:upd xe.co.to a (jE (xe.co.to a) (2^d)) d=xe.co.to d:=zV _ _ (fun e=>had e.symm);refine⟨d,rfl,d48,?_⟩;refine⟨s64 (upd xe.co.to a (jE (xe.co.to a) (2^d)) d),hRe.cell d48,?_⟩;refine⟨by omega,_,jI (e:=a) (by omega),?_⟩;refine⟨_,zaw (by rw [hdv];exact hgood.rels.co.w d d48) (zea (by omega)),?_⟩;refine⟨d,rfl,d48,?_⟩;refine zi k45 hRe.cells (o:=99+1+d*1) (v:=s64 (upd xe.co.to a (jE (xe.co.to a) (2^d)) d|||2^a)) rfl rfl (by rw [hRe.len];omega) rfl ?_;intro T2 fT2 gT2 sT2;rw [hRe.set d48] at fT2;have hR2:RelAt T2 N 99 55 A Zc ⟨xe.co.n,zad xe a d⟩:=⟨hA,fT2⟩;have hZ2:=hZT.drew.trans (zh gT2 hZT.drew.size hZN);have fN2:ExH T2 N { xe with co:=⟨xe.co.n,zad xe a d⟩ } qx cx:=by
   have e2:=hE ⟨xe.co.n,zad xe a d⟩;rw [QM] at e2;show T2.heap[N]?=some (.cells (exC _ qx cx).toArray _ (0,0));rw [e2];exact hR2.cells
  clear fT2 gT2 sT2 hR1 hRe fT gT sT hRd hR0 hZT hbW fN;refine⟨Unit,fun _=>⟨[(9,.slice (some ⟨b,o,none⟩) xs.length c),(11,At0 M),(21,i64 (a:Nat)),(23,i64 (d:Nat)),(24,At0 N),(164,.slice (some ⟨bw,ow,none⟩) wl.length c2),(165,i64 wl.length),(166,i64 (j:Nat))],[]⟩,fun _ X=>ExH X N (zeX xe a d) qx cx/\Bw Z X,?_,?_⟩
  ·refine⟨a,rfl,a48,?_⟩;refine⟨s64 (zad xe a d a),hR2.cell a48,?_⟩;refine biE (fun h=>?_) fun h=>?_
   ·have h:((zad xe a d a:Nat):Int)=0:=dT h;have h:zad xe a d a=0:=(by omega);obtain⟨bx,ox,rfl,hbx,hatx⟩:=zcr hev (by omega);have hbd:=hZ2.drew;have fMd:=zb hbd fMZ;have hYd:=hYZ.trans (hbd.mono sZ);have hloc:(evA xe a).l.toNat<6:=by
     obtain⟨Ps,m,ds,hC,_,_,_,he⟩:=zeq hO hxc;have h1:(evA xe a).l.toNat<p.init.length:=by
      refine zch hC.i6 hC.P ?_ (.inr ha2);have h3:xe.ev=(jw p.init Ps).ev:=(by rw [he,<- hC.base];rfl);rw [<- h3];unfold evA;rw [gDe,gE ha1];exact gM ha1
     have:=hC.i6;omega
    refine DrawE.ord [15] [0,1,2,3,4,5,6,7,8,9,10,11,12,13,14,15] (by kernel_rfl) ?_;refine⟨_,jJ (za fMd),?_⟩;refine⟨a,rfl,ha1,?_⟩;refine⟨_,zc (zm hYd (hatx a ha1)) (i:=2) rfl,?_⟩;refine⟨_,jJ (za fMd),?_⟩;refine⟨a,rfl,ha1,?_⟩;refine⟨_,zc (zm hYd (hatx a ha1)) (i:=3) rfl,?_⟩;refine⟨(evA xe a).l.toNat,rfl,hloc,?_⟩;refine zi k5 (hdr fN2) (o:=0+295+32+(evA xe a).l.toNat*1) (v:=u8 (evA xe a).v) rfl rfl (by rw [zy];omega) rfl ?_;intro X fX gX sX;rw [zos hloc] at fX;have e3:zeX xe a d={ xe with co:=⟨xe.co.n,zad xe a d⟩,mem:=upd xe.mem (evA xe a).l.toNat (evA xe a).v }:=by
     unfold zeX;rw [Gr h]
    exact⟨(),(cvE rfl rfl),by rw [e3];exact fX,hbd.trans (zh gX hbd.size hZN)⟩
   ·have h:¬ ((zad xe a d a:Nat):Int)=0:=dF h;have e3:zeX xe a d={ xe with co:=⟨xe.co.n,zad xe a d⟩ }:=by
     unfold zeX;rw [Gq (by omega)]
    exact⟨(),(cvE rfl rfl),by rw [e3];exact fN2,hZ2⟩
  clear fN2 hR2 hZ2;rintro _ X ⟨fX,hbX⟩;refine⟨exC (zeX xe a d) qx cx,zy _ _ _,za fX,hlt fX,?_⟩;refine cmo (hin_c (hYZ.trans (hbX.mono sZ)) rfl (zk5 hO hco (by decide) hxc ha3 hab hno)) ?_;rintro e V2 ⟨rfl,hbV⟩;refine brF ?_;exact⟨(),(cvE rfl rfl),(zst hbX hbV)⟩
 ·refine cmo (aw W ((hwY.trans (hYZ.mono sYw)).trans (hbW.mono (by omega)))) ?_;rintro e U ⟨rfl,hbU⟩;exact⟨rfl,hbU⟩
end
end Go.Proofs.YtpalcnbhkigagaaGreatDoor
namespace Go.Proofs.YtpalcnbhkigagaaGreatDoor
open Go.Vc Go.RowKit Go.Sei
open Go.ChangeShapes Go.WideShapes Go.ChangeAt
section
variable {H:Type} {enc:TypeId×Value->H} {P:Program} {w:Wd} {base:Nat} {spare:Nat->Bool} {held:Bool} {fuel:Nat} {t:TypeId} {cs:List Value} {x:DataW H×List MemPlace}
theorem zlI (ht:P.underlying t=some (.int .u8)) (h:DataW.trod enc P w base spare held fuel t cs=some x):∃ b:UInt8,cs=[u8 b]/\x.1 = .lit (.int .u8 b.toNat):=by
 obtain⟨n,rfl,rfl,hw⟩:=DataW.trod_int ht h;have hb:=bounds_u8 hw;have e:((UInt8.ofNat n.toNat).toNat:Int)=n:=by
  rw [KK];omega
 exact⟨UInt8.ofNat n.toNat,by rw [u8,e],by rw [e]⟩
theorem zf8 {n:Nat} {e:TypeId} (ht:P.underlying t=some (.array n e)) (he:P.underlying e=some (.int .u8)) (hc:P.cellsOf e=1) (hn:P.cellsOf t=n)
  (h:DataW.trod enc P w base spare held fuel t cs=some x):∃ bs:List UInt8,bs.length=n/\cs=bs.map u8/\x.1 = .agg (bs.map fun b => .lit (.int .u8 b.toNat)):=by
 obtain⟨xs,m,rfl,rfl,hl,hx,hel⟩:=DataW.trod_array ht h;rw [hn] at hl;have each:∀ i (h:i<n),∃ b:UInt8,cs[i]?=some (u8 b)/\xs[i]?.map (·.1)=some (.lit (.int .u8 b.toNat)):=fun i hi=>by
  have h1:=hel i hi;rw [hc,gE (by omega)] at h1;obtain⟨b,h2,h3⟩:=zlI he h1;refine⟨b,?_,by rw [gE (by omega),Ug,h3]⟩;have:((cs.drop (i*1)).take 1)[0]?=some (u8 b):=by rw [h2];rfl
  simpa using this
 have:∀ k,k<=n->∃ bs:List UInt8,bs.length=k/\cs.take k=bs.map u8/\(xs.take k).map (·.1)=bs.map fun b => .lit (.int .u8 b.toNat):=by
  intro k
  induction k with
  | zero=>exact fun _=>⟨[],rfl,by simp,by simp⟩
  | succ k ih =>
   intro hk;obtain⟨bs,h1,h2,h3⟩:=ih (by omega);obtain⟨b,h4,h5⟩:=each k (by omega);have hk1:k<cs.length:=by omega
   have hk2:k<xs.length:=by omega
   rw [gE hk1] at h4;rw [gE hk2] at h5;refine⟨bs++[b],by simp [h1],?_,?_⟩
   ·rw [tsg hk1,h2,Uh h4];simp
   ·rw [tsg hk2,QT,h3];simp at h5;simp [h5]
 obtain⟨bs,h1,h2,h3⟩:=this n (UY _);rw [JJ (by omega)] at h2 h3;exact⟨bs,h1,h2,by rw [<- h3]⟩
end
theorem zaT:Tryz.prog.cellsOf 5=1:=by kernel_rfl
theorem zrA:Tryz.prog.cellsOf 4=1:=by kernel_rfl
theorem zj7 (b o i:Nat):(⟨b,o,none⟩:Addr).add i=⟨b,o+i,none⟩:=by
 unfold Addr.add;by_cases h:i=0
 ·simp [h]
 ·simp [h]
section
variable {w:Wd} {base:Nat} {cs:List Value}
theorem ziF {a:Addr} {n:Nat} (hn:0<n) (h:w.cells? base a n=some cs):a.spot=none/\a.block<w.heap.size/\zx w ⟨a.block,a.off,none⟩ cs:=by
 obtain⟨_,hl,hc⟩:=World.cells?_some h;have h0:=hc 0 hn;rw [gE (by omega)] at h0;have hs:a.spot=none:=by simpa [Addr.add] using World.cell?_spot h0
 obtain⟨b,o,s⟩:=a;dsimp only at hs;subst hs;refine⟨rfl,JB _ _ h0,zaf fun i v hv=>?_⟩;have hi:i<n:=by have:=(Js.1 hv).1;omega
 have:=(hc i hi).trans hv;rw [zj7] at this;exact this
end
theorem znD:ownKnob Tryz.prog.godebug=none:=by kernel_rfl
theorem zbg:laidOutB PG=true:=by kernel_rfl
section
variable {H:Type} {enc:TypeId×Value->H} {P:Program} {w:Wd} {base:Nat} {spare:Nat->Bool} {held:Bool} {fuel:Nat} {t e:TypeId} {cs:List Value} {x:DataW H×List MemPlace}
def Opens (enc:TypeId×Value->H) (P:Program) (w:Wd) (base:Nat) (spare:Nat->Bool) (held:Bool) (t:TypeId) (R:List Value->Prop):Prop :=
 ∀ fuel cs x,DataW.trod enc P w base spare held fuel t cs=some x->R cs
theorem Opens.field {fs:Array Field} {R:List Value->Prop} {i:Nat} {f:Field} {n:Nat} {xs:List (DataW H×List MemPlace)} {m:Nat} (hel:∀ (i:Nat) (f:Field),fs[i]?=some f->DataW.trod enc P w base spare held m f.type ((cs.drop f.offset).take (P.cellsOf f.type))=xs[i]?)
  (hl:xs.length=fs.size) (hi:fs[i]?=some f) {o:Nat} (hoo:f.offset=o) (hn:P.cellsOf f.type=n) (ho:Opens enc P w base spare held f.type R):R ((cs.drop o).take n):=by
 subst hoo;have h1:=hel i f hi;have:i<fs.size:=(Jl.1 hi).1;rw [gE (by omega),hn] at h1;exact ho _ _ _ h1
theorem jC (ht:P.underlying t=some (.int .u8)):Opens enc P w base spare held t fun cs=>∃ b:UInt8,cs=[u8 b]:=fun fuel cs x h=>by
 obtain⟨b,h,_⟩:=zlI ht h;exact⟨b,h⟩
theorem zkG (ht:P.underlying t=some .bool):Opens enc P w base spare held t fun cs=>∃ b:Bool,cs=[.bool b]:=fun fuel cs x h=>by
 obtain⟨b,h,_⟩:=DataW.trod_bool ht h;exact⟨b,h⟩
theorem zpF {β:Type} {n:Nat} (i0:β) {Q:Nat->β->Prop} (h:∀ i,i<n->∃ b,Q i b):∃ bs:List β,bs.length=n/\∀ i (hi:i<bs.length),Q i bs[i]:=by
 have h2:∀ i,∃ b,i<n->Q i b:=fun i=>by
  by_cases hi:i<n
  ·obtain⟨b,hb⟩:=h i hi;exact⟨b,fun _=>hb⟩
  ·exact⟨i0,fun h=>Gs h hi⟩
 obtain⟨g,hg⟩:=Classical.axiomOfChoice h2;refine⟨(List.range n).map g,by simp,fun i hi=>?_⟩;simp only [Qt,KB];exact hg i (by simpa using hi)
theorem cut (cs:List Value) (o n o':Nat) (h:o+n=o'):cs.drop o=(cs.drop o).take n++cs.drop o':=by
 rw [<- h,<- Um,JS]
end
theorem cC (t n:Nat) (h:Tryz.prog.cellsOf t=n):Tryz.prog.cellsOf t=n:=h
theorem zdV {H:Type} {enc:TypeId×Value->H} {a:Assume} {C:Checked} {os:Os} {f:FuncId} {fn:Func} {s:ChangeSpec} {conds:List PathCond} {apart fresh handsOn again:Bool} {X:Wd->Array Value->Prop}
  (hX:∀ (w w':Wd) (args:Array Value),w.heap=w'.heap->X w args->X w' args)
  (own:ownKnob C.prog.godebug=none) (started:os.Started) (noInit:C.prog.inits.idxOf? f=none) (hfn:C.prog.funcs[f]?=some fn)
  (witness:∃ (w:Wd) (tape:Tape) (i:Input),w.os=os/\(w.forCall tape i).Shaped C.prog/\i.vars=[]/\Input.okWide C.prog (w.forCall tape i) .any w.heap.size f i /\
   ((s.pre enc C.prog fn conds apart (w.forCall tape i).memory i.args/\X (w.forCall tape i).memory i.args)/\sizedMet enc C.prog fn (OpenSpec.ofChange s) apart (w.forCall tape i).memory i.args)/\a.holds C.prog (lone (Frame.enter C.prog f i.args .normal) [] (w.forCall tape i)))
  (contract:∀ (W:Wd) (base:Nat) (args:Array Value) (ds gs:List (DataW H)) (before:List MemPlace),
   (∀ (j:Nat) t v,fn.params[j]?=some t->args[j]?=some v->Value.okWide C.prog W .any base t v) ->
   DataW.Whole enc C.prog fn.params.toList s.vars apart W args.toList ds gs before->X W args->W.ShapedOpen C.prog ->
   (∃ ds gs before,DataW.Whole enc C.prog fn.params.toList (OpenSpec.ofChange s).vars apart W args.toList ds gs before/\∀ n∈DataW.weightsEach C.prog (fn.params.toList++(OpenSpec.ofChange s).bare.plain.varTypes C.prog) (ds++gs),n<=reachBytes) ->
   Calls C.prog f args W fun e W'=>∃ v,e = .returned v/\s.post enc C.prog fn apart fresh handsOn again W args v W') :
  ReturnsInHanded a C os f .any (fun w args=>(s.pre enc C.prog fn conds apart w args/\X w args)/\sizedMet enc C.prog fn (OpenSpec.ofChange s) apart w args) (s.post enc C.prog fn apart fresh handsOn again):=by
 refine returnsInHanded_of_calls own started noInit witness ?_;intro w tape i _ hsh _ hok hpre hholds;obtain⟨_,_,_,fn',hfn',_,_,_,_,hval⟩:=hok;have e:fn'=fn:=Uh (hfn'.symm.trans hfn);subst e;obtain⟨⟨⟨ds,gs,before,hw,hc⟩,hx⟩,hz⟩:=hpre;have hw':=DataW.Whole.of_heap (w':=w.forCall tape i) (by rfl) hw;obtain⟨_,ds2,gs2,before2,hw2,hall⟩:=hz;refine (contract (w.forCall tape i) w.heap.size i.args ds gs before hval hw' (hX _ _ _ (by rfl) hx) hsh ⟨ds2,gs2,before2,DataW.Whole.of_heap (w':=w.forCall tape i) (by rfl) hw2,fun n hn=>dT (Qm.1 hall n hn)⟩).mono fun e W' ⟨v,he,hp⟩=>?_;subst he;exact ChangeSpec.post_blind hp
section
variable {H:Type} {enc:TypeId×Value->H} {P:Program} {w:Wd} {base:Nat} {spare:Nat->Bool} {held:Bool} {fuel:Nat} {t:TypeId} {cs:List Value} {x:DataW H×List MemPlace}
def Wgt (P:Program) (t:TypeId) (d:DataW H):Prop:=∀ n∈d.weights P t,n<=reachBytes
theorem zpj {ds:List (DataW H)} {e:TypeId} (h:∀ n∈DataW.weightsAll P e ds,n<=reachBytes):∀ d∈ds,Wgt P e d:=by
 induction ds with
 | nil=>intro d hd;cases hd
 | cons a r ih =>
  intro d hd;simp only [DataW.weightsAll,QU] at h;rcases UE.1 hd with rfl | hd
  ·exact fun n hn=>h n (.inl hn)
  ·exact ih (fun n hn=>h n (.inr hn)) d hd
end
theorem zgf {H:Type}:∀ {a b:List UInt8},a.map (fun b=>(DataW.lit (.int .u8 b.toNat):DataW H))=b.map (fun b=>DataW.lit (.int .u8 b.toNat))->a=b
 | [],[],_=>rfl
 | [],_::_,h=>by cases h
 | _::_,[],h=>by cases h
 | x::a,y::b,h=>by
  simp only [UD,QN,DataW.lit.injEq,Lit.int.injEq,true_and] at h;rw [zgf h.2,Ui.1 (by omega:x.toNat=y.toNat)]
section
variable {H:Type} {enc:TypeId×Value->H} {P:Program} {w:Wd} {base:Nat} {spare:Nat->Bool} {held:Bool} {fuel F:Nat} {t e:TypeId} {cs:List Value} {x:DataW H×List MemPlace}
def OpensW (enc:TypeId×Value->H) (P:Program) (w:Wd) (base:Nat) (spare:Nat->Bool) (held:Bool) (F:Nat) (t:TypeId) (R:List Value->Prop):Prop :=
 ∀ n,n<F->∀ cs x,DataW.trod enc P w base spare held n t cs=some x->Wgt P t x.1->R cs
theorem zaR {R:List Value->Prop} (h:Opens enc P w base spare held t R):OpensW enc P w base spare held F t R:=fun n _ cs x h1 _=>h n cs x h1
theorem OpensW.field {fs:Array Field} {R:List Value->Prop} (ht:P.underlying t=some (.struct fs)) (h:DataW.trod enc P w base spare held fuel t cs=some x) (hw:Wgt P t x.1) (hF:fuel<=F) {i:Nat} {f:Field} (hf:fs[i]?=some f) {T o k:Nat} (hT:f.type=T) (hO:f.offset=o) (hk:P.cellsOf T=k)
  (ho:OpensW enc P w base spare held F T R):R ((cs.drop o).take k):=by
 subst hT hO hk;obtain⟨xs,n,rfl,rfl,hl,hx,hel⟩:=KN ht h;have h1:=hel i f hf;have hi:i<xs.length:=by rw [hx];exact (Jl.1 hf).1
 rw [gE hi] at h1;refine ho n (by omega) _ _ h1 fun m hm=>hw m ?_;simp only [DataW.weights,ht];refine DataW.weights_mem_each (j:=i) (t:=f.type) (d:=xs[i].1) ?_ ?_ m hm
 ·rw [KX];have:fs.toList[i]?=some f:=by simpa using hf
  rw [this];rfl
 ·rw [KX,gE hi];rfl
theorem zf6 (ht:P.underlying t=some .string):OpensW enc P w base spare held F t fun cs=>∃ s:List UInt8,s.length<=140737488351232/\cs=[qk s]:=fun n _ cs x h hw=>by
 obtain⟨s,rfl,rfl,_⟩:=DataW.trod_string ht h;refine⟨s.data.toList,hw _ (by simp [DataW.weights]),?_⟩;unfold qk bs;rw [Array.toArray_toList]
theorem zb9 {β:Type} (i0:β) {f:β->List Value} {Q:β->Prop} {sz:Nat} (hp:0<sz) (ht:P.underlying t=some (.slice e)) (hc:P.cellsOf e=sz) (hb:Nat.ble 1 (P.bytesOf e)=true) (ho:OpensW enc P w base spare held F e fun cs=>∃ b,Q b/\cs=f b) :
  OpensW enc P w base spare held (F+1) t fun cs=>∃ (p:OA) (cap:Nat) (l:List β),cs=[.slice p l.length cap]/\(l.length<=140737488351232/\l.length*P.bytesOf e<=140737488351232)/\l.length<=cap/\(∀ b∈l,Q b)/\∃ b o,(l.length=0\/p=some ⟨b,o,none⟩)/\∀ i (hi:i<l.length),b<w.heap.size/\zx w ⟨b,o+i*sz,none⟩ (f l[i]):=fun n hn cs x h hw=>by
 rcases DataW.trod_slice ht h with ⟨rfl,_⟩ | ⟨a,len,cap,elems,jf,n,rfl,rfl,hx,_,hlc,hcm,hlen,hel,_,_⟩
 ·exact⟨none,0,[],rfl,⟨by simp,by simp⟩,by simp,by simp,0,0,.inl rfl,fun i hi=>by simp at hi⟩
 ·subst hx;have hw':∀ m,m∈((elems.map (·.1)).length+(jf.map (·.1)).length)*P.bytesOf e::(DataW.weightsAll P e (elems.map (·.1))++DataW.weightsAll P e (jf.map (·.1)))->m<=reachBytes:=fun m hm=>by
   refine hw m ?_;simp only [DataW.weights,ht];exact hm
  have hb:=JU hb;have hlb:len<=140737488351232/\len*P.bytesOf e<=140737488351232:=by
   have h1:=hw' _ KC;simp only [QQ] at h1;have:elems.length*1<=(elems.length+jf.length)*P.bytesOf e:=Us (QB _ _) hb;have h2:elems.length*P.bytesOf e<=(elems.length+jf.length)*P.bytesOf e:=Us (QB _ _) (UY _);have hr:reachBytes=140737488351232:=rfl;rw [<- hlen];omega
  have each:∀ i,i<len->∃ m:β,Q m/\(a.add (i*sz)).spot=none/\(a.add (i*sz)).block<w.heap.size/\zx w ⟨(a.add (i*sz)).block,(a.add (i*sz)).off,none⟩ (f m):=fun i hi=>by
   have h1:=hel i hi;rw [hc,gE (by omega),Option.bind_eq_some_iff] at h1;obtain⟨cs,h2,h3⟩:=h1;obtain⟨m,hq,rfl⟩:=ho n (by omega) _ _ h3 (zpj (ds:=elems.map (·.1)) (fun m hm=>hw' m (Ka _ (JZ _ hm))) _ (Ko (gM _)));exact⟨m,hq,ziF hp h2⟩
  obtain⟨l,h1,h2⟩:=zpF i0 each;refine⟨some a,cap,l,by rw [h1],by rw [h1];exact hlb,by omega,fun b hb=>?_,a.block,a.off,?_,fun i hi=>?_⟩
  ·obtain⟨i,hi,rfl⟩:=Kl hb;exact (h2 i hi).1
  ·by_cases h00:l.length=0
   ·exact .inl h00
   ·right;have hsp:a.spot=none:=by
     have:=(h2 0 (by omega)).2.1;simpa [Addr.add] using this
    obtain⟨b,o,s⟩:=a;dsimp only at hsp;subst hsp;rfl
  ·have hsp:a.spot=none:=by
    have:=(h2 0 (by omega)).2.1;simpa [Addr.add] using this
   obtain⟨b,o,s⟩:=a;dsimp only at hsp;subst hsp;have:=(h2 i hi).2.2;rw [zj7] at this;exact this
end
section
variable {H:Type} {enc:TypeId×Value->H} {P:Program} {w:Wd} {base:Nat} {spare:Nat->Bool} {held:Bool} {fuel F:Nat} {t e:TypeId} {cs:List Value} {x:DataW H×List MemPlace}
theorem zeA {α:Type} {E:Enc α} {p:OA} {l:List α} (h:∃ b o,(l.length=0\/p=some ⟨b,o,none⟩)/\∀ i (hi:i<l.length),b<w.heap.size/\zx w ⟨b,o+i*E.sz,none⟩ (E.enc l[i])):RowB E w.heap.size w p l:=by
 obtain⟨b,o,hp,hc⟩:=h;by_cases h0:l=[]
 ·exact .inl h0
 ·have hl0:0<l.length:=List.length_pos_iff.2 h0;rcases hp with hp | rfl
  ·omega
  ·exact RowB.of_slr (.inr ⟨b,o,rfl,(hc 0 hl0).1,fun i hi=>(hc i hi).2⟩)
end
section
variable {H:Type} {enc:TypeId×Value->H} {w:Wd} {base:Nat} {spare:Nat->Bool} {held:Bool} {F:Nat}
theorem zhv:Opens enc PG w base spare held 39 fun cs=>∃ (r:Bool) (n:UInt8),cs=[.bool r,u8 n]:=fun fuel cs x h=>by
 obtain⟨xs,m,rfl,rfl,hl,hx,hel⟩:=KN Tryz.underlying39 h;rw [cC 39 2 (by kernel_rfl)] at hl;obtain⟨b0,e0⟩:=Opens.field (o:=0) (i:=0) hel hx rfl rfl zrA (zkG Tryz.underlying4);obtain⟨b1,e1⟩:=Opens.field (o:=1) (i:=1) hel hx rfl rfl zaT (jC Tryz.underlying5);refine⟨b0,b1,?_⟩;have h0:cs=cs.drop 0:=rfl;have h9:cs.drop 2=[]:=JE (by omega);rw [h0,cut cs 0 1 1 rfl,cut cs 1 1 2 rfl,e0,e1,h9];rfl
theorem zmF:Opens enc PG w base spare held 41 fun cs=>∃ x:InsD,True/\cs=zH.enc x:=fun fuel cs x h=>by
 obtain⟨xs,m,rfl,rfl,hl,hx,hel⟩:=KN Tryz.underlying41 h;rw [cC 41 10 (by kernel_rfl)] at hl;obtain⟨b0,e0⟩:=Opens.field (o:=0) (i:=0) hel hx rfl rfl zaT (jC Tryz.underlying5);obtain⟨b1,e1⟩:=Opens.field (o:=1) (i:=1) hel hx rfl rfl zaT (jC Tryz.underlying5);obtain⟨b2,e2⟩:=Opens.field (o:=2) (i:=2) hel hx rfl rfl zaT (jC Tryz.underlying5);obtain⟨r3,n3,e3⟩:=Opens.field (o:=3) (i:=3) hel hx rfl rfl (cC 39 2 (by kernel_rfl)) zhv;obtain⟨r4,n4,e4⟩:=Opens.field (o:=5) (i:=4) hel hx rfl rfl (cC 39 2 (by kernel_rfl)) zhv;obtain⟨b5,e5⟩:=Opens.field (o:=7) (i:=5) hel hx rfl rfl zaT (jC Tryz.underlying5);obtain⟨b6,e6⟩:=Opens.field (o:=8) (i:=6) hel hx rfl rfl zaT (jC Tryz.underlying5);obtain⟨b7,e7⟩:=Opens.field (o:=9) (i:=7) hel hx rfl rfl zaT (jC Tryz.underlying5);refine⟨⟨b0,b1,b2,r3,n3,r4,n4,b5,b6,b7⟩,trivial,?_⟩;have h0:cs=cs.drop 0:=rfl;have h9:cs.drop 10=[]:=JE (by omega);rw [h0,cut cs 0 1 1 rfl,cut cs 1 1 2 rfl,cut cs 2 1 3 rfl,cut cs 3 2 5 rfl,cut cs 5 2 7 rfl,cut cs 7 1 8 rfl,cut cs 8 1 9 rfl,cut cs 9 1 10 rfl,e0,e1,e2,e3,e4,e5,e6,e7,h9];rfl
theorem zkH:OpensW enc PG w base spare held F 42 fun cs=>∃ x:zla,(x.1.length<=140737488351232/\RowB zH w.heap.size w x.2.1 x.1)/\cs=zns.enc x:=fun n hn cs x h hw=>by
 obtain⟨p,cap,l,h1,h2,_,_,h3⟩:=zb9 (F:=n) (⟨0,0,0,false,0,false,0,0,0,0⟩:InsD) (f:=zH.enc) (Q:=fun _=>True) (sz:=10) (by decide) Tryz.underlying42 (by kernel_rfl) (by kernel_rfl) (zaR zmF) n (QD n) cs x h hw;exact⟨(l,p,cap),⟨h2.1,zeA h3⟩,h1⟩
theorem zf7:∀ F,OpensW enc PG w base spare held F 27 fun cs=>∃ x:Cnd×OA×Nat,KidsV w.heap.size w x.2.1 x.1.kids/\cs=jN x.1 x.2.1 x.2.2
 | 0=>fun n hn=>Gs hn (Ud _)
 | F+1=>fun n hn cs x h hw=>by
  have ih:=zf7 F;have hF:n<=F+1:=by omega
  have hl:cs.length=5:=by
   obtain⟨xs,m,_,_,hl,_,_⟩:=KN Tryz.underlying27 h;rw [cC 27 5 (by kernel_rfl)] at hl;exact hl
  obtain⟨b0,e0⟩:=OpensW.field (F:=F+1) (o:=0) (i:=0) Tryz.underlying27 h hw hF rfl rfl rfl zaT (zaR (jC Tryz.underlying5));obtain⟨b1,e1⟩:=OpensW.field (F:=F+1) (o:=1) (i:=1) Tryz.underlying27 h hw hF rfl rfl rfl zaT (zaR (jC Tryz.underlying5));obtain⟨b2,e2⟩:=OpensW.field (F:=F+1) (o:=2) (i:=2) Tryz.underlying27 h hw hF rfl rfl rfl zaT (zaR (jC Tryz.underlying5));obtain⟨b3,e3⟩:=OpensW.field (F:=F+1) (o:=3) (i:=3) Tryz.underlying27 h hw hF rfl rfl rfl zaT (zaR (jC Tryz.underlying5));obtain⟨p,cap,l,e4,hll,_,hQ,b,o,hp,hc⟩:=OpensW.field (F:=F+1) (o:=4) (i:=4) Tryz.underlying27 h hw hF rfl rfl rfl (cC 25 1 (by kernel_rfl))
   (zb9 (F:=F) ((.mk 0 0 0 0 [],none,0):Cnd×OA×Nat) (f:=fun x=>jN x.1 x.2.1 x.2.2) (Q:=fun x=>KidsV w.heap.size w x.2.1 x.1.kids) (sz:=5) (by decide) Tryz.underlying25 (by kernel_rfl) (by kernel_rfl) ih)
  refine⟨(.mk b0 b1 b2 b3 (l.map (·.1)),p,cap),?_,?_⟩
  ·refine .mk p (l.map (·.1)) (by rw [QQ];have:=hll.2;rw [show Tryz.prog.bytesOf 27=32 by kernel_rfl] at this;exact this) b o (by rw [QQ];exact hp) (fun i=>(l.getD i (.mk 0 0 0 0 [],none,0)).2.1) (fun i=>(l.getD i (.mk 0 0 0 0 [],none,0)).2.2) (fun i hi=>?_) (fun i hi=>?_)
   ·have hi':i<l.length:=(by rw [QQ] at hi;exact hi);have e:l.getD i (.mk 0 0 0 0 [],none,0)=l[i]:=(by rw [gDe,gE hi'];rfl);rw [e,Qt];exact hc i hi'
   ·have hi':i<l.length:=(by rw [QQ] at hi;exact hi);have e:l.getD i (.mk 0 0 0 0 [],none,0)=l[i]:=(by rw [gDe,gE hi'];rfl);rw [e,Qt];exact hQ _ (gM hi')
  ·have h0:cs=cs.drop 0:=rfl;have h9:cs.drop 5=[]:=JE (by omega);rw [h0,cut cs 0 1 1 rfl,cut cs 1 1 2 rfl,cut cs 2 1 3 rfl,cut cs 3 1 4 rfl,cut cs 4 1 5 rfl,e0,e1,e2,e3,e4,h9];simp [jN,Cnd.kind,Cnd.thread,Cnd.n,Cnd.val,Cnd.kids]
end
section
variable {H:Type} {enc:TypeId×Value->H} {w:Wd} {base:Nat} {spare:Nat->Bool} {held:Bool} {F:Nat}
theorem zjr:OpensW enc PG w base spare held F 29 fun cs=>∃ p:Prg,PrgX w.heap.size w cs p:=fun n hn cs x h hw=>by
 have hF:n<=n+1:=Nat.le_succ n;have hl:cs.length=10:=by
  obtain⟨xs,m,_,_,hl,_,_⟩:=KN Tryz.underlying29 h;rw [cC 29 10 (by kernel_rfl)] at hl;exact hl
 obtain⟨nm,k0,e0⟩:=OpensW.field (F:=n+1) (o:=0) (i:=0) Tryz.underlying29 h hw hF rfl rfl rfl (cC 9 1 (by kernel_rfl)) (zf6 Tryz.underlying9);obtain⟨p1,c1,l1,e1,k1,kc1,q1,r1⟩:=OpensW.field (F:=n+1) (o:=1) (i:=1) Tryz.underlying29 h hw hF rfl rfl rfl (cC 22 1 (by kernel_rfl))
  (zb9 (F:=n) ([]:List UInt8) (f:=zjx.enc) (Q:=fun s=>s.length<=140737488351232) (sz:=1) (by decide) Tryz.underlying22 (by kernel_rfl) (by kernel_rfl) (zf6 Tryz.underlying9))
 obtain⟨p2,c2,l2,e2,k2,kc2,q2,r2⟩:=OpensW.field (F:=n+1) (o:=2) (i:=2) Tryz.underlying29 h hw hF rfl rfl rfl (cC 23 1 (by kernel_rfl))
  (zb9 (F:=n) (0:UInt8) (f:=zM.enc) (Q:=fun _=>True) (sz:=1) (by decide) Tryz.underlying23 zaT (by kernel_rfl) (zaR (fun fuel cs x h=>by
   obtain⟨b,hb⟩:=jC Tryz.underlying5 fuel cs x h;exact⟨b,trivial,hb⟩)))
 obtain⟨p3,c3,l3,e3,k3,kc3,q3,r3⟩:=OpensW.field (F:=n+1) (o:=3) (i:=3) Tryz.underlying29 h hw hF rfl rfl rfl (cC 24 1 (by kernel_rfl))
  (zb9 (F:=n) (([],none,0):zla) (f:=zns.enc) (Q:=fun x=>x.1.length<=140737488351232/\RowB zH w.heap.size w x.2.1 x.1) (sz:=1) (by decide) Tryz.underlying24 (by kernel_rfl) (by kernel_rfl) zkH)
 obtain⟨b4,e4⟩:=OpensW.field (F:=n+1) (o:=4) (i:=4) Tryz.underlying29 h hw hF rfl rfl rfl zaT (zaR (jC Tryz.underlying5));obtain⟨⟨c,p4,c4⟩,hk,e5⟩:=OpensW.field (F:=n+1) (o:=5) (i:=5) Tryz.underlying29 h hw hF rfl rfl rfl (cC 27 5 (by kernel_rfl)) (zf7 (n+1));refine⟨⟨nm,l1,l2,l3.map (·.1),b4,c⟩,⟨⟨k0,k1.1,q1,k2.1,by rw [QQ];exact k3.1,fun l hl=>?_⟩,p1,c1,p2,c2,p3,c3,p4,c4,?_,zeA r1,zeA r2,⟨l3,rfl,zeA r3,fun x hx=>(q3 x hx).2⟩,hk,kc1⟩,⟨p3,c3,?_,l3,rfl,zeA r3,fun x hx=>⟨(q3 x hx).2,fun hne a ha=>?_⟩⟩,⟨p2,c2,?_,zeA r2⟩⟩
 ·obtain⟨x,hx,rfl⟩:=UL.1 hl;exact (q3 x hx).1
 ·have h0:cs=cs.drop 0:=rfl;have h9:cs.drop 10=[]:=JE (by omega);rw [h0,cut cs 0 1 1 rfl,cut cs 1 1 2 rfl,cut cs 2 1 3 rfl,cut cs 3 1 4 rfl,cut cs 4 1 5 rfl,cut cs 5 5 10 rfl,e0,e1,e2,e3,e4,e5,h9];simp [qA,jN]
 ·have:=Gl (fun l=>l[0]?) e3;simpa using this
 ·have hl:=List.length_pos_iff.2 hne;obtain⟨b,o,e,hb,_⟩:=zfr (q3 x hx).2 hl;rw [ha] at e;obtain rfl:=Uh e;exact hb
 ·have:=Gl (fun l=>l[0]?) e2;simpa using this
theorem zmG {a:Array Value} {d:DataW H} {p:List MemPlace} (h:DataW.Trod enc PG w base spare held 29 (.agg a) d p) (hw:Wgt PG 29 d):∃ p:Prg,PrgX w.heap.size w a.toList p:=by
 obtain⟨fuel,h⟩:=h;exact zjr (F:=fuel+1) fuel (QD _) _ _ h hw
end
section
variable {P:Program} {w:Wd} {base:Nat} {t:TypeId}
theorem zf9 {r:Reach} {v:Value} (ht:P.underlying t=some (.int .u16)) (h:Value.okWide P w r base t v):∃ a:Nat,a<65536/\v = .int .u16 (a:Nat):=by
 unfold Value.okWide at h;rw [ht] at h
 cases v with
 | int k n =>
  have h1:k = .u16/\IntKind.has .u16 n:=by
   simp only [Cell.okWide,Cell.ok,ht] at h;obtain⟨rfl,h⟩:=h;exact⟨rfl,h⟩
  obtain⟨rfl,h2⟩:=h1;have h3:0<=n/\n<=65535:=⟨by have:=h2.1;simpa [IntKind.min,IntKind.signed,IntKind.bits] using this,by have:=h2.2;simpa [IntKind.max,IntKind.signed,IntKind.bits] using this⟩;exact⟨n.toNat,by omega,by rw [Int.toNat_of_nonneg h3.1]⟩
 | _=>simp_all [Cell.okWide,Cell.ok]
end
theorem flatMap_map {α:Type} (f:α->Value):∀ l:List (List α),l.flatMap (fun x=>x.map f)=l.flatten.map f
 | []=>rfl
 | a::l=>by rw [KV,flatMap_map f l,List.flatten_cons,QT]
end Go.Proofs.YtpalcnbhkigagaaGreatDoor
namespace Go.Proofs.YtpalcnbhkigagaaGreatDoor
open Go.Vc Go.RowKit Go.Sei
end Go.Proofs.YtpalcnbhkigagaaGreatDoor
namespace Go.Proofs.YtpalcnbhkigagaaGreatDoor
open Go.Vc Go.RowKit Go.Sei
open Go.ChangeShapes Go.WideShapes Go.ChangeAt
structure GlobP (W:Wd):Prop where
 t32:Tz32M W
 t64:Tz64M W
 needs:GlobC W
abbrev zaO : List (String × DataW Unit) := [("math/bits.deBruijn32tab", Rows.laid_math_bits_deBruijn32tab), ("math/bits.deBruijn64tab", Rows.laid_math_bits_deBruijn64tab), ("seisin/check.needs", Rows.laid_seisin_check_needs)]
theorem zbV {W:Wd} (h:laidMetH PG zaO W) (hsh:W.ShapedOpen PG):GlobP W:=by
 have h0:laidMet PG zaO W:=h;have h1:=h0.tail;have h2:=h1.tail;have t32:Tz32M W:=by
  obtain⟨ps,⟨g',t',cs,fuel,p,q,hg',ht',hv,hd,_,_⟩,_⟩:=h0
  obtain rfl := Uh ((show Tryz.prog.globalNamed "math/bits.deBruijn32tab" = some 0 by kernel_rfl).symm.trans hg')
  obtain rfl:=Uh ((show (Tryz.prog.globals[0]?).map (·.type)=some 217 by kernel_rfl).symm.trans ht');obtain⟨bs,h1,h2,h3⟩:=zf8 Tryz.underlying217 Tryz.underlying5 (by kernel_rfl) (by kernel_rfl) hd;have hbs:bs=zg7:=by
   have e:(Rows.laid_math_bits_deBruijn32tab:DataW Unit) = .agg (zg7.map fun b => .lit (.int .u8 b.toNat)):=rfl;exact zgf (DataW.agg.inj (h3.symm.trans e))
  subst hbs;refine zaf fun i v hvv=>?_;have hc:=World.var?_cell hg' hv i;rw [<- hvv,<- h2];simpa using hc
 have t64:Tz64M W:=by
  obtain⟨ps,⟨g',t',cs,fuel,p,q,hg',ht',hv,hd,_,_⟩,_⟩:=h1
  obtain rfl := Uh ((show Tryz.prog.globalNamed "math/bits.deBruijn64tab" = some 1 by kernel_rfl).symm.trans hg')
  obtain rfl:=Uh ((show (Tryz.prog.globals[1]?).map (·.type)=some 227 by kernel_rfl).symm.trans ht');obtain⟨bs,h1,h2,h3⟩:=zf8 Tryz.underlying227 Tryz.underlying5 (by kernel_rfl) (by kernel_rfl) hd;have hbs:bs=zg6:=by
   have e:(Rows.laid_math_bits_deBruijn64tab:DataW Unit) = .agg (zg6.map fun b => .lit (.int .u8 b.toNat)):=rfl;exact zgf (DataW.agg.inj (h3.symm.trans e))
  subst hbs;refine zaf fun i v hvv=>?_;have hc:=World.var?_cell hg' hv i;rw [<- hvv,<- h2];simpa using hc
 have needs:GlobC W:=by
  obtain⟨ps,⟨g',t',cs,fuel,p,q,hg',ht',hv,hd,_,_⟩,_⟩:=h2
  obtain rfl := Uh ((show Tryz.prog.globalNamed "seisin/check.needs" = some 2 by kernel_rfl).symm.trans hg')
  obtain rfl:=Uh ((show (Tryz.prog.globals[2]?).map (·.type)=some 233 by kernel_rfl).symm.trans ht');obtain⟨bs,h1,h2,h3⟩:=zf8 Tryz.underlying233 Tryz.underlying5 (by kernel_rfl) (by kernel_rfl) hd;have hbs:bs=zd5:=by
   match bs,h1 with
   | [b0,b1,b2,b3,b4,b5,b6,b7,b8],_ =>
    simp only [Rows.laid_seisin_check_needs,UD,List.map_nil,DataW.agg.injEq,QN,DataW.lit.injEq,Lit.int.injEq,true_and,Gk] at h3;simp only [zd5,QN,Gk];obtain⟨a0,a1,a2,a3,a4,a5,a6,a7,a8⟩:=h3;refine⟨?_,?_,?_,?_,?_,?_,?_,?_,?_⟩ <;> (apply Ui.1;simp;omega)
  subst hbs;refine zaf fun i v hvv=>?_;have hc:=World.var?_cell hg' hv i;rw [<- hvv,<- h2];simpa using hc
 exact⟨t32,t64,needs⟩
def zqB:DataW Unit->List Value
 | .lit (.int k n)=>[.int k n]
 | .lit (.string s)=>[.string ⟨s.toArray⟩]
 | _=>[]
def zqA:DataW Unit->List Value
 | .agg ps=>ps.flatMap zqB
 | x=>zqB x
def zn9:DataW Unit->List Value
 | .agg ps=>ps.flatMap zqA
 | x=>zqA x
def znB (h:Array Obj) (g:Nat) (cs:List Value):Array Obj:=h.modify g fun
 | .cells _ t frozen => .cells cs.toArray t frozen
 | o=>o
def zsc (h:Array Obj):Array Obj :=
 let h1:=znB h 0 (zn9 Rows.laid_math_bits_deBruijn32tab)
 let h2:=znB h1 1 (zn9 Rows.laid_math_bits_deBruijn64tab)
 znB h2 2 (zn9 Rows.laid_seisin_check_needs)
noncomputable def zgk (os:Os):Wd :=
 { World.holding PG os ⟨#[],#[],[]⟩ with heap:=zsc (World.holding PG os ⟨#[],#[],[]⟩).heap }
theorem zgj (os:Os) (args:Array Value):laidMetH PG zaO ((zgk os).forCall (fun _ _=>0) ⟨#[],args,[]⟩).memory:=by
 show laidMet PG zaO _;exact laidMet_of_run' 8 (by kernel_rfl) (by kernel_rfl)
end Go.Proofs.YtpalcnbhkigagaaGreatDoor
