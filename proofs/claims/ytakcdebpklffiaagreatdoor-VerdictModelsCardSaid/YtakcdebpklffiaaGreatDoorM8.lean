/- Contracts of functions, and plain facts, for the law that the last text of this claim proves. -/
import Derived.Test.YtakcdebpklffiaaGreatDoorM7
import Derived.Test.YtakcdebpklffiaaGreatDoorM4
import Derived.Test.YtakcdebpklffiaaGreatDoorM6
import Derived.Test.YtakcdebpklffiaaGreatDoorM2
import Derived.Test.YtakcdebpklffiaaGreatDoorM5
import Derived.Test.YtakcdebpklffiaaGreatDoorM1
import Derived.Test.YtakcdebpklffiaaGreatDoorRows
import Derived.ProofKit
import Derived.OpenShut
import Derived.LaidLaws
import Derived.Below
import Derived.HandedShaped
import Derived.KernelRfl
import Derived.WalkKit
import Derived.ChangeOld
import Derived.SevenTiedAt
import Derived.LaidHandle
import Derived.Stop.LaidErr
import Derived.Lib.LaidTab
import Derived.SizedLaws
import Derived.Test.YtakcdebpklffiaaGreatDoorM3
set_option linter.unusedSimpArgs false
set_option linter.unusedVariables false
namespace Go.Proofs.YtakcdebpklffiaaGreatDoor
open Go.Vc Go.RowKit Go.Sei
theorem zpO(before:Nat->Nat):∀(s:List Nat) (n left:Nat) (l:List Nat),left<2^64->s.length<=n->s.Perm (els left)->(∀A a t,s=A++a::t->∀b∈a::t,(before a).testBit b=false)->l++s∈zaK before n left l
 | [],n,left,l,hl,hn,hp,hb=>by
  have m:left=0:=zdG hl (by rw[Qo];exact List.nil_perm.1 hp);rw[QG]
  cases n <;> (unfold zaK;rw[Gn m];exact KB.2 rfl)
 | a::t,0,left,l,hl,hn,hp,hb=>by simp at hn
 | a::t,n+1,left,l,hl,hn,hp,hb=>by
  have g:a∈els left:=hp.subset KA;have m:left≠0:=fun e=>by rw[e,zaC] at g;cases g
  unfold zaK;rw[Gm m];refine List.mem_flatMap.2 ⟨a,g,?_⟩;have o:before a&&&left=0:=by
   refine Kc fun i=>?_;rw[QY,QA];by_cases d:left.testBit i=true
   ·have f:i<64:=by
     refine Qw fun h=>?_;rw[JF (nL hl (Ke (by decide) h))] at d
     cases d
    rw[hb [] a t rfl i (hp.symm.subset (jf.2 ⟨f,d⟩)),Ug]
   ·rw[Qf] at d;rw[d,Uf]
  rw[Gn o,zbq];have k:a ∉ t:=(QR.1 (hp.nodup_iff.2 (zeG left))).1;have p:t.Perm (els (je left (2^a))):=by
   rw[zeg hl g];have r:=hp.filter fun i => !decide (i=a);rw[Qk,Gm (by simp),List.filter_eq_self.2 fun z v=>by
    have:z≠a:=fun e=>k (by rw[<- e];exact v);simp[this]] at r
   exact r
  have q:=zpO before t n (je left (2^a)) (l++[a]) (zay hl) (by simpa using hn) p fun A c u e b j=>hb (a::A) c u (by rw[e];rfl) b j;rw[KN] at q;exact q
section
variable{n:Nat}
theorem zm9(hn:n<=48){a b:Nat}(ha:a<n)(h:((z6 (crs n)).to a).testBit b=true):b=0/\a≠0:=by
 have k:=zaM (zlv hn) (i:=a) (j:=b) (by omega);unfold zh at k;rw[k,bAT] at h;obtain⟨d,h⟩:=h;have d:=dT d;have h:(if b<n then(if Nat.testBit 1 b then jU (zal n) 1&&&zal n else 0) else 0).testBit a=true:=h;rw[Gn d] at h
 split at h
 ·rename_i g;have f:b=0:=by
   refine Nat.eq_zero_of_not_pos fun l=>?_;rw[JF (show 1<2^b from Nat.one_lt_two_pow (by omega))] at g
   cases g
  refine⟨f,fun c=>?_⟩;rw[QY,zbq,bAT] at h;have e:je (zal n) 1=je (zal n) (2^0):=rfl;rw[e,zbi (by decide) (by omega),c] at h;simp at h
 ·rw[QA] at h;cases h
theorem zvF(hn:n<=48):zaU (crs n)=true:=by
 rw[zhS (zlv hn)];intro S s q;have c:S<2^64:=by
  refine KF ?_ (za7 (n:Int));rw[<- q];exact Qu
 have g:∀i,S.testBit i=true->i<n:=fun i f=>by
  have l:i<64:=by
   refine Qw fun h=>?_;rw[JF (nL c (Ke (by decide) h))] at f
   cases f
  rw[<- q,QY,bAT] at f;rw[zbU (by omega) (by omega) l] at f;have:=dT f.2;omega
 have d:∀a,a<n->(∀b,S.testBit b=true->b=0->a=0)->(z6 (crs n)).to a&&&S=0:=fun a j h=>by
  refine Kc fun i=>?_;rw[QY,QA]
  cases l:((z6 (crs n)).to a).testBit i
  ·rfl
  ·obtain⟨u,v⟩:=zm9 hn j l
   cases h4:S.testBit i
   ·rfl
   ·exact Gp (h i h4 u) v
 by_cases k:S.testBit 0=true
 ·exact⟨0,jf.2 ⟨by decide,k⟩,d 0 (g 0 k) fun _ _ _=>rfl⟩
 ·have m:els S≠[]:=fun e=>s (zdG c (by rw[e];rfl));obtain⟨a,t,o⟩:=List.exists_cons_of_ne_nil m;have j:a∈els S:=by rw[o];exact KA
  exact⟨a,j,d a (g a (jf.1 j).2) fun b r p=>by rw[p] at r;exact Gp r k⟩
theorem zuS(hn:n<=48){o t:List Nat}(hp:o.Perm (List.range n))(h0:o=0::t):o∈zbW (crs n):=by
 unfold zbW;rw[Gn (zvF hn)];have e:els (zal ((n:Nat):Int))=List.range n:=by rw[za8];exact zeH (by omega)
 have i:=hp.length_eq;rw[KU] at i;have:=zpO (z6 (crs n)).to o 64 (zal ((n:Nat):Int)) [] (zeM n) (by omega) (by rw[e];exact hp) fun A a u d b k=>?_
 ·exact this
 have g:a∈o:=by rw[d];exact JM _ KA
 cases h1:((z6 (crs n)).to a).testBit b
 ·rfl
 ·obtain⟨h,j⟩:=zm9 hn (Ul.1 (hp.subset g)) h1;have f:o.Nodup:=hp.nodup_iff.2 List.nodup_range
  cases A with
  | nil =>
   rw[h0,QQ,QH] at d;exact Gp d.1.symm j
  | cons c A =>
   rw[h0,Qi,QH] at d;rw[h0] at f;have:(0:Nat)∈t:=by rw[d.2,<- h];exact JM _ k
   exact Gp this (QR.1 f).1
end
theorem ztf{w:List Nat}{x:Nat}(h:x∈w):w.getD (w.idxOf x) 0=x:=by
 have a:=List.idxOf_lt_length_iff.2 h;rw[gDe,gE a];exact List.getElem_idxOf a
theorem zu0{w:List Nat}(hw:w.Nodup):w.map (fun x=>w.idxOf x)=List.range w.length:=by
 refine List.ext_getElem (by simp) fun i a b=>?_;rw[Qn,Kz];exact hw.idxOf_getElem i (by simpa using a)
theorem zsu{w rk:List Nat}(hn:w.length<=48)(hw:w.Nodup)(hf:fct (w.length-1)<=10000)(h1:1<=w.length)(hp:rk.Perm w)(hh:rk.headD 48=w.headD 48):rk∈zO w:=by
 unfold zO;dsimp only;rw[Gn (UL (zjX h1 hn) hf)];refine UI.2 ⟨rk.map (fun x=>w.idxOf x),?_,?_⟩
 ·cases w with
  | nil=>simp at h1
  | cons a w' =>
   cases rk with
   | nil=>simpa using hp.length_eq
   | cons b rk' =>
    have hh:b=a:=hh;subst hh;refine zuS hn (t:=rk'.map (fun x=>(b::w').idxOf x)) ?_ ?_
    ·rw[<- zu0 hw];exact hp.map _
    ·rw[Uz,List.idxOf_cons_self]
 ·rw[UF]
  conv=>rhs;rw[<- List.map_id rk]
  exact Kl fun x c=>ztf (hp.subset c)
theorem ztv:∀(rs es:List Nat),es.length=rs.length->(∀(i n d:Nat),rs[i]?=some n->es[i]?=some d->d<n)->∃j,j<qi rs/\zaS rs j=es
 | [],[],_,_=>⟨0,Nat.one_pos,rfl⟩
 | [],e::es,h,_=>by cases h
 | n::ns,[],h,_=>by cases h
 | n::ns,e::es,h,hb=>by
  obtain⟨j,f,g⟩:=ztv ns es (by simpa using h) fun i n d a b=>hb (i+1) n d a b;have c:e<n:=hb 0 n e rfl rfl;refine⟨e+n*j,?_,?_⟩
  ·show e+n*j<n*qi ns;have:n*(j+1)<=n*qi ns:=Nat.mul_le_mul_left n f;rw[Nat.mul_add] at this;omega
  ·show(e+n*j)%n::zaS ns ((e+n*j)/n)=e::es;rw[Nat.add_mul_mod_self_left,Qz c,Nat.add_mul_div_left _ _ (by omega),Nat.div_eq_of_lt c,UQ,g]
theorem zm3{sizes ds:List Nat}(hl:ds.length=sizes.length)(hb:∀(i n d:Nat),sizes[i]?=some n->ds[i]?=some d->d<n):ds∈qt sizes:=by
 obtain⟨j,e,f⟩:=ztv sizes.reverse ds.reverse (by simpa using hl) fun i n d a b=>by
  have c:i<sizes.length:=by simpa using (Jr.1 a).1
  rw[JJ c] at a;rw[JJ (by omega)] at b;rw[hl] at b;exact hb _ n d a b
 exact UI.2 ⟨j,Ul.2 e,by rw[f,Ka]⟩
def zrJ (x:ExD) (s r:Nat):Prop:=s<r/\(evA x s).k=2/\(evA x s).l=(evA x r).l/\(evA x s).v=(evA x r).v/\∀w,s<w->w<r->(evA x w).k=2->(evA x w).l≠(evA x r).l
section
variable{init:List UInt8}{Ps:List PathD}{m:MixD}
theorem zut{w:List Nat}(h:w.Pairwise (· < ·)){i j:Nat}(hi:i∈w)(hj:j∈twl w.reverse i):i<j:=by
 have c:w.reverse.Pairwise (fun a b=>b<a):=List.pairwise_reverse.2 h;exact zkL (R:=fun a b=>b<a) c (List.mem_reverse.2 hi) hj
theorem ChoiceW.pick(h:ChoiceW init Ps m)(hw8:∀w∈m.wr,fct (w.length-1)<=10000){S:Nat->Nat->Prop}{o:Nat->List Nat}(hsrc:∀r,r<m.base.ev.length->(evA m.base r).k=1->∃s,(s<m.base.ev.length/\(evA m.base s).k=2/\(evA m.base s).l=(evA m.base r).l/\(evA m.base s).v=(evA m.base r).v)/\S s r)(ho:∀l,l<init.length->(o l).Perm (qa m.base l)/\(o l).headD 48=(qa m.base l).headD 48) :
  jx m 1≠0/\∃ds∈qt (zM m),(∀s r,zh (zG m ds).rf s r=true->S s r)/\∀a b,zh (zG m ds).co a b=true->∃l,l<init.length/\a∈o l/\b∈twl (o l).reverse a:=by
 have ah:∀(t:Nat) (r:Nat×List Nat),m.rs[t]?=some r->∃(d s:Nat),r.2[d]?=some s/\S s r.1:=fun t r c=>by
  obtain⟨e,e1,e2,e3⟩:=h.rs (JW c);have ak:=(Jr.1 e1).1;have ad:evA m.base r.1=e:=by unfold evA;rw[gDe,e1];rfl
  obtain⟨s,hs⟩:=hsrc r.1 ak (by rw[ad];exact e2);obtain⟨⟨s1,s2,s3,s4⟩,aj⟩:=hs;have ac:e.l.toNat<init.length:=by
   have:e∈(zak init Ps).ev:=by rw[<- h.base];exact JW e1
   exact zbT h.i6 h.P this (.inl e2)
  rw[h.wr.2 _ ac] at e3;have:s∈r.2:=by
   rw[e3];rw[ad] at s3 s4;exact QO.2 ⟨zb8.2 ⟨s1,Up s2,by rw[s3]⟩,Up s4⟩
  obtain⟨d,y⟩:=List.mem_iff_getElem?.1 this;exact⟨d,s,y,aj⟩
 have af:∀(l:Nat) (w:List Nat),m.wr[l]?=some w->l<init.length/\w=qa m.base l:=fun l w j=>by
  have hl:=(Jr.1 j).1;rw[h.wr.1] at hl;have:=h.wr.2 l hl;rw[gDe,j] at this;exact⟨hl,this⟩
 have am:∀(l:Nat) (w:List Nat),m.wr[l]?=some w->∃d,(zO w)[d]?=some (o l):=fun l w j=>by
  have ai:=JW j;obtain⟨w1,w2⟩:=h.w1 ai;obtain⟨hl,rfl⟩:=af l w j;obtain⟨o1,o2⟩:=ho l hl;exact List.mem_iff_getElem?.1 (zsu w2 (List.nodup_range.filter _) (hw8 _ ai) w1 o1 o2)
 have al:∀i:Nat,∃d:Nat,(∀r,m.rs[i]?=some r->∃s,r.2[d]?=some s/\S s r.1)/\∀(l:Nat) (w:List Nat),i=m.rs.length+l->m.wr[l]?=some w->(zO w)[d]?=some (o l):=fun i=>by
  by_cases hi:i<m.rs.length
  ·obtain⟨d,s,g,h2⟩:=ah i _ (gE hi);exact⟨d,fun r c=>(by rw[gE hi] at c;rw[<- Uc c];exact⟨s,g,h2⟩),fun l w e _=>(by omega)⟩
  ·cases hg:m.wr[i-m.rs.length]? with
   | none =>
    refine⟨0,fun r c=>?_,fun l w e j=>?_⟩
    ·rw[JI (by omega)] at c
     cases c
    ·rw[show i-m.rs.length=l by omega,j] at hg
     cases hg
   | some w' =>
    obtain⟨d,y⟩:=am _ _ hg;refine⟨d,fun r c=>?_,fun l w e j=>?_⟩
    ·rw[JI (by omega)] at c
     cases c
    ·have el:i-m.rs.length=l:=(by omega);rw[el] at hg y;rw[j] at hg;rw[Uc hg];exact y
 obtain⟨f,hf⟩:=Classical.axiomOfChoice al;have ao:(zM m).length=m.rs.length+m.wr.length:=by
  unfold zM;rw[lap,QJ,QJ]
 obtain⟨ds,ag⟩:=nm ((List.range (zM m).length).map f);have an:ds.length=(zM m).length:=by rw[ag,QJ,KU]
 have ab:∀i,i<(zM m).length->ds[i]?=some (f i):=fun i hi=>by rw[ag,KT,Ki hi];rfl
 have aa:ds∈qt (zM m):=zm3 an fun i n d p y=>by
  have hi:i<(zM m).length:=(Jr.1 p).1;rw[ab i hi] at y;rw[<- Uc y];unfold zM at p;by_cases z:i<m.rs.length
  ·rw[Jq (by rw[QJ];exact z),KT,gE z] at p;obtain⟨s,g,_⟩:=(hf i).1 _ (gE z);have:=(Jr.1 g).1;have p:m.rs[i].2.length=n:=Uc p;omega
  ·have ae:i-m.rs.length<m.wr.length:=by omega
   rw[Jm (by rw[QJ];omega),QJ,KT,gE ae] at p;have g:=(hf i).2 (i-m.rs.length) _ (by omega) (gE ae);have:=(Jr.1 g).1;have p:(zO m.wr[i-m.rs.length]).length=n:=Uc p;omega
 refine⟨?_,ds,aa,fun s r hb=>?_,fun a b hb=>?_⟩
 ·refine(zcK fun w j=>(h.w1 j).1).2 fun r c e=>?_;obtain⟨t,ht⟩:=List.mem_iff_getElem?.1 c;obtain⟨d,s,g,_⟩:=ah t r ht;rw[e] at g;simp at g
 ·obtain⟨t,r',g1,g2,g3,g4⟩:=(h.rfb aa).1 hb;have ht:=(Jr.1 g1).1;rw[gDe,ab t (by omega)] at g3;have g3:r'.2[f t]?=some s:=g3;obtain⟨s',g,h2⟩:=(hf t).1 r' g1;rw[g] at g3;rw[<- Uc g3,g4];exact h2
 ·obtain⟨c1,c2⟩:=h.chx aa;obtain⟨_,u⟩:=zek m.base.ev (m.wr.map zO) 0 (ds.drop m.rs.length) (m.base.co,m.base.mem) c1 c2;have hb:zh (coG m.base.ev 0 (m.wr.map zO) (ds.drop m.rs.length) (m.base.co,m.base.mem)).1 a b=true:=hb;obtain⟨_,b2,_⟩:=zdm (init:=init) (Ps:=Ps);rcases(u a b).1 hb with⟨l,l1,l2,l3⟩ | ⟨_,l2⟩
  ·rw[QJ] at l1;have q:m.wr[l]?=some m.wr[l]:=gE l1;have e:chR (m.wr.map zO) (ds.drop m.rs.length) l=o l:=by
    unfold chR;have g:=(hf (m.rs.length+l)).2 l _ rfl q;rw[gDe,gDe,KT,q,gDe,Kx,ab _ (by omega)];show((zO m.wr[l])[f (m.rs.length+l)]?).getD []=_;rw[g];rfl
   rw[e] at l2 l3;exact⟨l,(af l _ q).1,l2,l3⟩
  ·rw[h.base,b2] at l2;exact Gp l2 (zcZ _ a b)
theorem ChoiceW.fwd(h:ChoiceW init Ps m)(hw8:∀w∈m.wr,fct (w.length-1)<=10000)(hsrc:∀r,r<m.base.ev.length->(evA m.base r).k=1->∃s,zrJ m.base s r) :
  jx m 1≠0/\∃ds∈qt (zM m),(∀s r,zh (zG m ds).rf s r=true->zrJ m.base s r)/\∀a b,zh (zG m ds).co a b=true->a<b:=by
 obtain⟨u,ds,i,j,t⟩:=h.pick hw8 (S:=zrJ m.base) (o:=qa m.base) (fun r g p=>by
  obtain⟨s,d⟩:=hsrc r g p;have c:=d;obtain⟨z,y,n,e,_⟩:=d;exact⟨s,⟨by omega,y,n,e⟩,c⟩) fun l _=>⟨List.Perm.refl _,rfl⟩
 refine⟨u,ds,i,j,fun a b v=>?_⟩;obtain⟨l,_,q,f⟩:=t a b v;exact zut (List.Pairwise.filter _ List.pairwise_lt_range) q f
end
section
variable{x:ExD}
theorem zmS(h:XOk x)(π:Nat->Nat)(hf:∀i j,i<x.ev.length->zh (zt2 x) i j=true->π i<π j)(hrm:∀a b,zh x.rm a b=true->π b=π a+1)(m:Nat):jl m x=0:=by
 have fwd:∀{r:RelD},RelOk x.ev.length r->(∀i j,i<x.ev.length->zh r i j=true->π i<π j)->zaU r=true:=fun{r} hr hlt=>by
  rw[acy_tc hr];intro i u;have:∀{a b},TC (zhn x.ev.length r) a b->π a<π b:=fun{a b} u=>by
   induction u with
   | one k=>exact hlt _ _ k.1 k.2
   | step _ k ih=>exact Nat.lt_trans ih (hlt _ _ k.1 k.2)
  exact Gp (this u) (Nat.lt_irrefl _)
 have g:∀i j,i<x.ev.length->zh x.po i j=true->π i<π j:=fun i j d c=>hf i j d (by rw[zdp h d,c];rfl);have e:∀i j,i<x.ev.length->zh x.rf i j=true->π i<π j:=fun i j d c=>hf i j d (by rw[zdp h d,c,Bool.or_true];rfl);have p:∀i j,i<x.ev.length->zh x.co i j=true->π i<π j:=fun i j d c=>hf i j d (by rw[zdp h d,c,Bool.true_or,Bool.or_true]);have q:∀i j,i<x.ev.length->zh (frM x) i j=true->π i<π j:=fun i j d c=>hf i j d (by rw[zdp h d,c,Bool.or_true,Bool.or_true]);have l:∀o∈[x.rf,x.co,frM x],RelOk x.ev.length o:=fun o y=>by
  simp only[UA,Qs,Gk] at y;rcases y with rfl | rfl | rfl
  ·exact h.rf
  ·exact h.co
  ·exact zeb h
 have f:RelOk x.ev.length (zag x) := .pick h.n _;rw[zcv];refine⟨?_,?_,?_⟩
 ·refine fwd (zbB f l) fun i j d c=>?_;rw[zce d f l,QD] at c;rcases c with c | c
  ·unfold zag at c;rw[zc9] at c;simp only[bAT,dE] at c;exact g i j d c.2.2.1
  ·simp only[Uy,List.any_nil,Uu,QD] at c;rcases c with c | c | c
   ·exact e i j d c
   ·exact p i j d c
   ·exact q i j d c
 ·have t:=(zeb h).then h.co;refine(zrh (h.rm.both t)).2 fun i j d hj=>?_;rw[ztQ h.rm t d]
  cases v:zh x.rm i j
  ·rfl
  ·cases h2:zh (jq (frM x) x.co).1 i j
   ·rfl
   ·obtain⟨w,z,g1,g2⟩:=(zhZ (zeb h) h.co d).1 h2;have:=hrm i j v;have:=q i w d g1;have:=p w j z g2;omega
 ·by_cases v:m=1
  ·exact .inl v
  ·right;refine fwd (zbB (zd8 h) (zd0 h)) fun i j d c=>?_;have s:zh (zqP m x) i j=(zh (zaz m x) i j||[if m=2 then x.rf else zdE x x.rf,x.co,frM x].any fun o=>zh o i j):=zce d (zd8 h) (zd0 h);rw[s,QD] at c;rcases c with c | c
   ·unfold zaz at c;rw[zc9] at c;simp only[bAT,dE] at c;exact g i j d c.2.2.1
   ·simp only[Uy,List.any_nil,Uu,QD] at c;rcases c with c | c | c
    ·split at c
     ·exact e i j d c
     ·exact e i j d (zpN c)
    ·exact p i j d c
    ·exact q i j d c
theorem zrd(h:XOk x)(hrf:∀s r,zh x.rf s r=true->zrJ x s r)(hco:∀a b,zh x.co a b=true->a<b)(hrm:∀a b,zh x.rm a b=true->b=a+1)(m:Nat):jl m x=0:=by
 refine zmS h (fun i=>i) (fun i j f c=>?_) hrm m;rw[zdp h f,QD,QD,QD] at c;rcases c with(c | c) | c | c
 ·exact((zoa h f).1 c).2.1
 ·exact(hrf i j c).1
 ·exact hco i j c
 ·obtain⟨s,p,o,q⟩:=(zhZ h.rf.back h.co f).1 c;rw[zaM h.rf (by have:=h.n;omega),bAT] at o;obtain⟨g1,g2,u,g4,v⟩:=hrf s i o.2;obtain⟨w1,t,y,_⟩:=zfZ h p q;have g:=hco s j q;refine Qw fun l=>?_;have d:(evA x j).k=2:=dT t;by_cases e:j=i
  ·subst e;obtain⟨w,_⟩:=(zn1 h.rf).1 h.rfR;obtain⟨_,z,_⟩:=w s j p f o.2;have:(evA x j).k=1:=dT z;rw[d] at this;exact Gp this (by decide)
  ·exact v j g (Nat.lt_of_le_of_ne l e) d (y.symm.trans u)
end
def zco (μ:Nat->UInt8) (es:List Ev):Nat->UInt8:=es.foldl (fun μ e=>if e.k=2 then upd μ e.l.toNat e.v else μ) μ
def qp (μ:Nat->UInt8) (es:List Ev):Prop:=∀A e B,es=A++e::B->e.k=1->e.v=zco μ A e.l.toNat
theorem zmD(μ:Nat->UInt8)(a b:List Ev):zco μ (a++b)=zco (zco μ a) b:=KS
theorem zfY(μ:Nat->UInt8):qp μ []:=fun A e B h=>by cases A <;> cases h
theorem zan{μ:Nat->UInt8}{es:List Ev}{e:Ev}(h:qp μ es)(he:e.k=1->e.v=zco μ es e.l.toNat):qp μ (es++[e]):=fun A d B a f=>by
 rcases List.eq_nil_or_concat B with rfl | ⟨B',b,rfl⟩
 ·obtain⟨c,g⟩:=List.append_inj' a rfl;simp only[QH,Gh] at g;subst c g;exact he f
 ·have a:es++[e]=(A++d::B')++[b]:=by rw[a];simp
  obtain⟨c,_⟩:=List.append_inj' a rfl;exact h A d B' c f
theorem znd{μ:Nat->UInt8}{a:List Ev}(h:qp μ a):∀{b:List Ev},qp (zco μ a) b->qp μ (a++b):=fun{b} i A d B j g=>by
 rcases List.append_eq_append_iff.1 j with⟨c,f,e⟩ | ⟨c,f,e⟩
 ·rw[f,zmD];exact i c d B e g
 ·cases c with
  | nil =>
   rw[QG] at f;rw[<- f];exact i [] d B (by rw[QQ] at e;exact e.symm) g
  | cons x c =>
   rw[Qi,QH] at e;obtain⟨rfl,e⟩:=e;exact h A d c f g
theorem zld{V:List UInt8}{es:List Ev}(he:∀e∈es,e.k=2->e.v∈V):∀{μ:Nat->UInt8},(∀a,μ a∈V)->∀a,zco μ es a∈V:=by
 induction es with
 | nil=>exact fun h a=>h a
 | cons e es ih =>
  intro μ c a;show zco (if e.k=2 then upd μ e.l.toNat e.v else μ) es a∈V;refine ih (fun d i=>he d (JV _ i)) (fun b=>?_) a
  split
  ·rename_i g;by_cases f:b=e.l.toNat
   ·rw[f,zN];exact he e KA g
   ·rw[qx _ _ f];exact c b
  ·exact c b
section
variable{R:RunD}{x:InsD}{v:UInt8}{μ:Nat->UInt8}
theorem zdg(R:RunD)(x:InsD)(o v:UInt8)(d:Nat):qq (zbt R x o v d)=(qq R++[⟨0,1,x.loc,o,3,UInt8.ofNat R.pc,UInt8.ofNat R.many⟩])++[⟨0,2,x.loc,v,3,UInt8.ofNat R.pc,UInt8.ofNat (R.many+1)⟩]:=by
 show qq (jF (jF R 1 x.loc o 3 0) 2 x.loc v 3 d)=_;rw[zaX,zaX];rfl
theorem zvz(hx:ExG x):∃more,qq (zdO R x v)=qq R++more/\(qp μ (qq R)->(zae x=true->v=zco μ (qq R) x.loc.toNat)->qp μ (qq (zdO R x v))):=by
 rcases hx with⟨e,-⟩ | ⟨e,-⟩ | ⟨e,-⟩ | ⟨e,-⟩ | ⟨e,-⟩ | ⟨e,-⟩ | e | ⟨e,-⟩
 ·rw[ql.1 e];refine⟨_,zaX R 1 x.loc v x.mode 0,fun h a=>?_⟩;show qp μ (qq (jF R 1 x.loc v x.mode 0));rw[zaX];exact zan h fun _=>a (by unfold zae;rw[e];rfl)
 ·rw[ql.2.1 e];refine⟨_,zaX R 2 x.loc _ x.mode _,fun h a=>?_⟩;show qp μ (qq (jF R 2 x.loc _ x.mode _));rw[zaX];exact zan h fun b=>Gp (show(2:UInt8)=1 from b) (by decide)
 ·rw[ql.2.2.1 e];exact⟨[],(QG _).symm,fun h _=>h⟩
 ·rw[ql.2.2.2.1 e];refine⟨_,by show qq (zbt R x v (qE x.ar x.an R).1 (qE x.ar x.an R).2)=_;rw[zdg,KN],fun h a=>?_⟩;show qp μ (qq (zbt R x v (qE x.ar x.an R).1 (qE x.ar x.an R).2));rw[zdg];exact zan (zan h fun _=>a (by unfold zae;rw[e];rfl)) fun b=>Gp (show(2:UInt8)=1 from b) (by decide)
 ·rw[ql.2.2.2.2.1 e];refine⟨_,by show qq (zbt R x v (v+(qE x.ar x.an R).1) (qE x.ar x.an R).2)=_;rw[zdg,KN],fun h a=>?_⟩;show qp μ (qq (zbt R x v (v+(qE x.ar x.an R).1) (qE x.ar x.an R).2));rw[zdg];exact zan (zan h fun _=>a (by unfold zae;rw[e];rfl)) fun b=>Gp (show(2:UInt8)=1 from b) (by decide)
 ·rw[ql.2.2.2.2.2.1 e];unfold zel
  split
  ·refine⟨_,by show qq (zbt R x v (qE x.br x.bn R).1 (qE x.br x.bn R).2)=_;rw[zdg,KN],fun h a=>?_⟩;show qp μ (qq (zbt R x v (qE x.br x.bn R).1 (qE x.br x.bn R).2));rw[zdg];exact zan (zan h fun _=>a (by unfold zae;rw[e];rfl)) fun b=>Gp (show(2:UInt8)=1 from b) (by decide)
  ·refine⟨_,zaX R 1 x.loc v 3 0,fun h a=>?_⟩;show qp μ (qq (jF R 1 x.loc v 3 0));rw[zaX];exact zan h fun _=>a (by unfold zae;rw[e];rfl)
 ·rw[ql.2.2.2.2.2.2.1 e];refine⟨_,zaX R 3 0 0 x.mode 0,fun h a=>?_⟩;show qp μ (qq (jF R 3 0 0 x.mode 0));rw[zaX];exact zan h fun b=>Gp (show(3:UInt8)=1 from b) (by decide)
 ·rw[ql.2.2.2.2.2.2.2 e];have:qq (zb0 R x)=qq R:=by
   unfold zb0;dsimp only
   split <;> rfl
  exact⟨[],by rw[this,QG],fun h _=>by rw[this];exact h⟩
theorem zi5(hx:ExG x):∃more,qq (zY R x v)=qq R++more/\(qp μ (qq R)->(zae x=true->v=zco μ (qq R) x.loc.toNat)->qp μ (qq (zY R x v))):=zvz hx
variable{l:List InsD}
theorem zlm(ht:ThG l):∀(n:Nat) (S:RunD),RunOk l S->∃more,qq (goR l n S)=qq S++more/\(qp μ (qq S)->qp μ (qq (goR l n S)))
 | 0,S,_=>⟨[],(QG _).symm,fun h=>h⟩
 | n+1,S,h=>by
  show ∃more,qq (match l[S.pc]? with | none=>S | some x=>if zae x then S else goR l n (zY S x 0))=qq S++more/\(_->qp μ (qq (match l[S.pc]? with | none=>S | some x=>if zae x then S else goR l n (zY S x 0))))
  cases hg:l[S.pc]? with
  | none=>exact⟨[],(QG _).symm,fun h=>h⟩
  | some x =>
   dsimp only
   split
   ·exact⟨[],(QG _).symm,fun h=>h⟩
   ·rename_i c;obtain⟨i,m⟩:=zcs (v:=0) ht h hg;obtain⟨e,k,d⟩:=zi5 (R:=S) (v:=0) (μ:=μ) (ht.2 _ _ hg).1;obtain⟨b,f,j⟩:=zlm ht n _ i;exact⟨e++b,by rw[f,k,KN],fun g=>j (d g fun a=>Gp a c)⟩
theorem zh3(ht:ThG l)(V:List UInt8):∀(n:Nat) (S:RunD),RunOk l S->∀R∈zT l V n S,∃more,qq R=qq (goR l l.length S)++more
 | 0,S,h,R,a=>by
  have a:=KB.1 a;exact⟨[],by rw[a,QG]⟩
 | n+1,S,h,R,a=>by
  have d:=ziX ht l.length S h;have a:R∈(match l[(goR l l.length S).pc]? with | none=>[goR l l.length S] | some x=>V.flatMap fun v=>zT l V n (zY (goR l l.length S) x v)):=a
  cases hg:l[(goR l l.length S).pc]? with
  | none =>
   rw[hg] at a;exact⟨[],by rw[KB.1 a,QG]⟩
  | some x =>
   rw[hg] at a;obtain⟨v,k,a⟩:=List.mem_flatMap.1 a;obtain⟨b,m⟩:=zcs (v:=v) ht d hg;obtain⟨i,j⟩:=zh3 ht V n _ b R a;obtain⟨c,f,_⟩:=zlm (μ:=fun _=>0) ht l.length _ b;obtain⟨e,g,_⟩:=zi5 (R:=goR l l.length S) (v:=v) (μ:=fun _=>0) (ht.2 _ _ hg).1;exact⟨e++(c++i),by rw[j,f,g];simp only[KN]⟩
theorem zg1{V:List UInt8}(hV:V≠[]):∀(n:Nat) (S:RunD),zT l V n S≠[]
 | 0,S=>by
  show[goR l l.length S]≠[];exact List.cons_ne_nil _ _
 | n+1,S=>by
  show(match l[(goR l l.length S).pc]? with | none=>[goR l l.length S] | some x=>V.flatMap fun v=>zT l V n (zY (goR l l.length S) x v))≠[]
  cases l[(goR l l.length S).pc]? with
  | none=>exact List.cons_ne_nil _ _
  | some x =>
   obtain⟨v,V',rfl⟩:=List.exists_cons_of_ne_nil hV;intro h;exact zg1 hV n (zY (goR l l.length S) x v) (List.flatMap_eq_nil_iff.1 h v KA)
def zqw (l:List InsD) (μ:Nat->UInt8):Nat->RunD->RunD
 | 0,S=>goR l l.length S
 | n+1,S=>match l[(goR l l.length S).pc]? with
  | none=>goR l l.length S
  | some x=>zqw l μ n (zY (goR l l.length S) x (zco μ (qq (goR l l.length S)) x.loc.toNat))
theorem zib(ht:ThG l){V:List UInt8}(hV:V≠[])(hμ:∀a,μ a∈V):∀(n:Nat) (S:RunD),RunOk l S->qp μ (qq S)->(∀R∈zT l V n S,∀e∈qq R,e.k=2->e.v∈V)->zqw l μ n S∈zT l V n S/\qp μ (qq (zqw l μ n S))
 | 0,S,h,hc,_=>by
  obtain⟨_,_,c⟩:=zlm (μ:=μ) ht l.length S h;exact⟨KB.2 rfl,c hc⟩
 | n+1,S,h,hc,hw=>by
  have q:=ziX ht l.length S h;obtain⟨_,_,c⟩:=zlm (μ:=μ) ht l.length S h;have d:=c hc;have g:∀e∈qq (goR l l.length S),e.k=2->e.v∈V:=fun e o u=>by
   obtain⟨R,t,j⟩:=List.exists_cons_of_ne_nil (zg1 hV (n+1) S:zT l V (n+1) S≠[]);have f:R∈zT l V (n+1) S:=by rw[j];exact KA
   obtain⟨z,y⟩:=zh3 ht V (n+1) S h R f;exact hw R f e (by rw[y];exact JU _ o) u
  have b:zT l V (n+1) S=(match l[(goR l l.length S).pc]? with | none=>[goR l l.length S] | some x=>V.flatMap fun v=>zT l V n (zY (goR l l.length S) x v)):=rfl;have i:zqw l μ (n+1) S=(match l[(goR l l.length S).pc]? with | none=>goR l l.length S | some x=>zqw l μ n (zY (goR l l.length S) x (zco μ (qq (goR l l.length S)) x.loc.toNat))):=rfl;rw[b] at hw;rw[b,i]
  cases hg:l[(goR l l.length S).pc]? with
  | none=>exact⟨KB.2 rfl,d⟩
  | some x =>
   rw[hg] at hw;have m:=zld g hμ x.loc.toNat;obtain⟨w,_⟩:=zcs (v:=zco μ (qq (goR l l.length S)) x.loc.toNat) ht q hg;obtain⟨_,_,r⟩:=zi5 (R:=goR l l.length S) (v:=zco μ (qq (goR l l.length S)) x.loc.toNat) (μ:=μ) (ht.2 _ _ hg).1;obtain⟨p,s⟩:=zib ht hV hμ n _ w (r d fun _=>rfl) fun R j=>hw R (List.mem_flatMap.2 ⟨_,m,j⟩);exact⟨List.mem_flatMap.2 ⟨_,m,p⟩,s⟩
end
theorem zsM{α:Type}:∀{a b:List α},a.Nodup->(∀x∈a,x∈b)->a.length<=b.length
 | [],b,_,_=>UZ _
 | x::a,b,hn,h=>by
  obtain⟨g,f⟩:=QR.1 hn;obtain⟨s,t,rfl⟩:=List.append_of_mem (h x KA);have:=zsM (a:=a) (b:=s++t) f fun y e=>by
   have:=h y (JV _ e);rcases QN.1 this with d | d
   ·exact JU _ d
   ·rcases UA.1 d with c | c
    ·subst c;exact Gp e g
    ·exact JM _ c
  rw[lap] at this;rw[Qp,lap,Qp];omega
theorem zgZ{ths:List (List InsD)}:∀{n:Nat} {vals V:List UInt8},zeQ ths n vals=some V->ju vals=vals->∀l∈ths,∀R∈qB l V,∀e∈qq R,e.k=2->e.v∈V
 | 0,vals,V,h,_=>by cases h
 | n+1,vals,V,h,hd=>by
  unfold zeQ at h
  split at h
  ·cases h
  ·split at h
   ·cases h
   ·split at h
    ·rename_i j;have:=Uc h;subst this;intro l o R r e g p;have b:e.v∈zaB ths vals:=by
      unfold zaB;refine zbH.2 (JM _ (List.mem_flatMap.2 ⟨l,o,?_⟩));unfold zaF;refine QO.2 ⟨zmB _,Qh.2 ⟨R,r,?_⟩⟩;unfold qq at g;obtain⟨i,m,rfl⟩:=UI.1 g;exact Qh.2 ⟨i,m,by rw[Up p,Up rfl];rfl⟩
     have a:∀u∈vals,u∈zaB ths vals:=fun u d=>by
      unfold zaB;exact zbH.2 (JU _ d)
     have f:vals.Nodup:=by
      rw[<- hd];exact(zei vals).imp fun h e=>by rw[e] at h;exact Nat.lt_irrefl _ h
     have s:(zaB ths vals).Nodup:=(zei _).imp fun h e=>by rw[e] at h;exact Nat.lt_irrefl _ h
     refine Jo fun c=>?_;have q:(e.v::vals).length<=(zaB ths vals).length:=zsM (QR.2 ⟨c,f⟩) fun u d=>by
      rcases UA.1 d with h | h
      ·rw[h];exact b
      ·exact a u h
     rw[Qp] at q;omega
    ·exact zgZ h (zbI _)
theorem zpA(k:Nat):∀(es:List Ev) (μ:Nat->UInt8),zco μ (jH k es)=zco μ es
 | [],μ=>rfl
 | e::es,μ=>zpA k es (if e.k=2 then upd μ e.l.toNat e.v else μ)
theorem cons_cons{μ:Nat->UInt8}{e:Ev}{es:List Ev}:qp μ (e::es)↔(e.k=1->e.v=μ e.l.toNat)/\qp (if e.k=2 then upd μ e.l.toNat e.v else μ) es:=by
 constructor
 ·intro h;exact⟨fun c=>h [] e es rfl c,fun A d B b c=>h (e::A) d B (by rw[b];rfl) c⟩
 ·rintro⟨f,g⟩ A d B b c
  cases A with
  | nil =>
   rw[QQ,QH] at b;obtain⟨rfl,rfl⟩:=b;exact f c
  | cons a A =>
   rw[Qi,QH] at b;obtain⟨rfl,b⟩:=b;exact g A d B b c
theorem zp0(k:Nat):∀{es:List Ev} {μ:Nat->UInt8},qp μ es->qp μ (jH k es)
 | [],μ,_=>zfY μ
 | e::es,μ,h=>by
  obtain⟨a,b⟩:=cons_cons.1 h;show qp μ ({ e with th:=(k:Int) }::jH k es);exact cons_cons.2 ⟨a,zp0 k b⟩
theorem zkq:∀(vs:List UInt8) (i:Nat) (μ:Nat->UInt8),qp μ (qG i vs)
 | [],i,μ=>zfY μ
 | v::vs,i,μ=>cons_cons.2 ⟨fun h=>Gp (show (2:UInt8)=1 from h) (by decide),zkq vs (i+1) _⟩
theorem ziN(ν:Nat->UInt8)(a:Nat):∀(n:Nat) (es:List Ev),es.length=n->(∃(i:Nat) (e:Ev),es[i]?=some e/\e.k=2/\e.l.toNat=a)->∃(s:Nat) (e:Ev),es[s]?=some e/\e.k=2/\e.l.toNat=a/\e.v=zco ν es a/\∀(w:Nat) (d:Ev),s<w->es[w]?=some d->d.k=2->d.l.toNat≠a
 | 0,es,hn,⟨i,e,h,_⟩=>by
  rw[List.length_eq_zero_iff.1 hn] at h;simp at h
 | n+1,es,hn,⟨i,e,h,hk,hl⟩=>by
  rcases List.eq_nil_or_concat es with r | ⟨b,d,r⟩
  ·subst r;simp at h
  ·have r:es=b++[d]:=by rw[r];simp
   subst r;have aa:b.length=n:=by simpa using hn
   have j:zco ν (b++[d]) a=(if d.k=2 then upd (zco ν b) d.l.toNat d.v else zco ν b) a:=by rw[zmD];rfl
   have g:(b++[d])[b.length]?=some d:=by rw[Jm (UW _),UN];rfl
   by_cases o:d.k=2/\d.l.toNat=a
   ·refine⟨b.length,d,g,o.1,o.2,?_,fun w c hw hc=>?_⟩
    ·rw[j,Gn o.1,o.2,zN]
    ·have:=(Jr.1 hc).1;rw[lap,List.length_singleton] at this;omega
   ·have hi:i<b.length:=by
     have z:=(Jr.1 h).1;rw[lap,List.length_singleton] at z;refine Nat.lt_of_le_of_ne (by omega) fun y=>o ?_;rw[y,g] at h;rw[Uc h];exact⟨hk,hl⟩
    rw[Jq hi] at h;obtain⟨s,c,h1,h2,h3,h4,h5⟩:=ziN ν a n b aa ⟨i,e,h,hk,hl⟩;have hs:=(Jr.1 h1).1;refine⟨s,c,by rw[Jq hs];exact h1,h2,h3,?_,fun w f hw q p m=>?_⟩
    ·rw[h4,j]
     split
     ·rename_i t;rw[qx _ _ (fun y=>o ⟨t,y.symm⟩)]
     ·rfl
    ·by_cases x:w<b.length
     ·rw[Jq x] at q;exact h5 w f hw q p m
     ·have u:=(Jr.1 q).1;rw[lap,List.length_singleton] at u;have:w=b.length:=(by omega);rw[this,g] at q;rw[<- Uc q] at p m;exact o ⟨p,m⟩
theorem zlR{ths:List (List InsD)}:∀{n:Nat} {vals V:List UInt8},zeQ ths n vals=some V->∀u∈vals,u∈V
 | 0,vals,V,h=>by cases h
 | n+1,vals,V,h=>by
  unfold zeQ at h
  split at h
  ·cases h
  ·split at h
   ·cases h
   ·split at h
    ·rw[<- Uc h];exact fun u a=>a
    ·intro u a;refine zlR h u ?_;unfold zaB;exact zbH.2 (JU _ a)
theorem zo6{V:List UInt8}(hV:V≠[]):∀(ths:List (List InsD)) (k:Nat) (μ:Nat->UInt8),(∀l∈ths,ThG l)->(∀l∈ths,∀R∈qB l V,∀e∈qq R,e.k=2->e.v∈V)->(∀a,μ a∈V) ->
  ∃took:List PathD,took.length=ths.length/\(∀(t:Nat) (l:List InsD),ths[t]?=some l->∃R∈qB l V,took[t]?=some (jN R))/\qp μ (zbR k took)
 | [],k,μ,_,_,_=>⟨[],rfl,fun t l h=>by simp at h,zfY μ⟩
 | l::ths,k,μ,ht,hw,hμ=>by
  have m:=ht l KA;have c:=hw l KA;obtain⟨g,f⟩:=zib m hV hμ l.length zjx (zkW l) (zfY μ) c;obtain⟨R,o⟩:=nm (zqw l μ l.length zjx);rw[<- o] at g f;have d:R∈qB l V:=g;obtain⟨took,i,n,j⟩:=zo6 hV ths (k+1) (zco μ (qq R)) (fun b h=>ht b (JV _ h)) (fun b h=>hw b (JV _ h)) (zld (c R d) hμ);refine⟨jN R::took,by rw[Qp,Qp,i],fun t b h=>?_,?_⟩
  ·cases t with
   | zero=>rw [<- Uc h];exact⟨R,d,rfl⟩
   | succ t=>exact n t b h
  ·show qp μ (jH k (qq R)++zbR (k+1) took);refine znd (zp0 k f) ?_;rw[zpA];exact j
theorem zru{p:Prg}{V:List UInt8}{took:List PathD}(hO:OkG p)(hc:zdr p V)(hl:took.length=p.threads.length)(hR:∀(t:Nat) (l:List InsD),p.threads[t]?=some l->∃R∈qB l V,took[t]?=some (jN R)):∃m∈qu p V,ChoiceW p.init took m:=by
 have r:∀t:Nat,∃d:Nat,∀l,p.threads[t]?=some l->∃R,(qB l V)[d]?=some R/\took[t]?=some (jN R):=fun t=>by
  cases s:p.threads[t]? with
  | none=>exact⟨0,fun l h=>by cases h⟩
  | some l =>
   obtain⟨R,k,h2⟩:=hR t l s;obtain⟨d,j⟩:=List.mem_iff_getElem?.1 k;exact⟨d,fun l' h=>by rw[<- Uc h];exact⟨R,j,h2⟩⟩
 obtain⟨f,r⟩:=Classical.axiomOfChoice r;obtain⟨b,o⟩:=nm ((List.range p.threads.length).map f);have c:b.length=p.threads.length:=by rw[o,QJ,KU]
 have q:∀t,t<p.threads.length->b[t]?=some (f t):=fun t g=>by rw[o,KT,Ki g];rfl
 have a:b∈qt ((p.threads.map (zJ V)).map List.length):=zm3 (by rw[c,QJ,QJ]) fun i n d u j=>by
  have z:i<p.threads.length:=by rw[<- c];exact(Jr.1 j).1
  rw[q i z] at j;have s:p.threads[i]?=some p.threads[i]:=gE z;rw[KT,KT,s] at u;have u:(zJ V p.threads[i]).length=n:=Uc u;obtain⟨R,k,_⟩:=r i _ s;have:=(Jr.1 k).1;have e:(zJ V p.threads[i]).length=(qB p.threads[i] V).length:=QJ ..;rw[<- Uc j];omega
 obtain⟨m,hm⟩:=Option.isSome_iff_exists.1 (hc.2.2 b a);obtain⟨x,_,v⟩:=zkv hO a hm;refine⟨m,List.mem_filterMap.2 ⟨b,a,hm⟩,?_⟩;have w:js (p.threads.map (zJ V)) b=took:=by
  have k:=(zhF (p.threads.map (zJ V)) b (by rw[QJ];exact c) (za6 a).2).1;rw[QJ] at k;refine KO fun t=>?_;by_cases g:t<p.threads.length
  ·obtain⟨d,y,R,d2,d3,_⟩:=v t _ (gE g);rw[q t g] at y;obtain⟨R',h3,h4⟩:=r t _ (gE g);rw[Uc y,d2] at h3;rw[d3,h4,Uc h3]
  ·rw[JI (by omega),JI (by omega)]
 rw[w] at x;exact x
theorem zso{k:Nat}{R:RunD}(h:RunW k R)(hm:R.many<=24){a b:Nat}(hp:(a,b)∈(jN R).rmw):b=a+1:=by
 obtain⟨i,m,n⟩:=List.mem_flatMap.1 (show(a,b)∈zdz R.att R.many from hp);obtain⟨c,e,j⟩:=UI.1 n
 cases j
 rcases h.att b (Ul.1 m) with g | ⟨d,g,l,_⟩
 ·rw[g,zaC] at e;cases e
 ·rw[l] at e;have f:=(jf.1 e).2;rw[Kq] at f;have:=dT f;omega
theorem zkn:∀(Ps:List PathD) (b i j:Nat),(∀P∈Ps,∀q∈P.rmw,q.2=q.1+1)->zer PathD.rmw b Ps i j->j=i+1
 | [],b,i,j,_,h=>h.elim
 | P::Ps,b,i,j,hP,h=>by
  rcases h with⟨q,a,d,e⟩ | h
  ·have:=hP P KA q a;omega
  ·exact zkn Ps _ i j (fun Q c=>hP Q (JV _ c)) h
theorem zqd{p:Prg}{V:List UInt8}{took:List PathD}{m:MixD}(hO:OkG p)(hC:ChoiceW p.init took m)(t1:took.length=p.threads.length)(t2:∀(t:Nat) (l:List InsD),p.threads[t]?=some l->∃R∈qB l V,took[t]?=some (jN R)){a b:Nat}(hb:zh m.base.rm a b=true):b=a+1:=by
 obtain⟨_,_,j⟩:=zgX hC.P;rw[hC.base,j] at hb;refine zkn took _ a b (fun P i q f=>?_) hb;obtain⟨t,e⟩:=List.mem_iff_getElem?.1 i;have c:t<p.threads.length:=by rw[<- t1];exact(Jr.1 e).1
 obtain⟨R,k,h⟩:=t2 t _ (gE c);rw[e] at h;rw[Uc h] at f;have d:=hO.tl _ (gM c);obtain⟨w1,g⟩:=zts d V R k;exact zso w1 g f
theorem zrw{p:Prg}{V:List UInt8}{most:Nat}(hO:OkG p)(hc:zas p V most)(hm20:most<=20000):∃x∈q8 p V,j0 x=true/\(∀m,jl m x=0)/\(∀s r,zh x.rf s r=true->zrJ x s r)/\∀a b,zh x.co a b=true->a<b:=by
 obtain⟨ac,ao⟩:=zhW hO hc.1;have hV:V≠[]:=fun e=>by rw[e] at ac;cases ac
 have aq:=hO.i1;have ad:=zlR hc.1;have j:∀u∈p.init,u∈V:=fun u hu=>ad u (zbH.2 hu);have al:=zgZ hc.1 (zbI _);obtain⟨ν,hν⟩:∃ν:Nat->UInt8,ν=fun _=>p.init[0]:=⟨_,rfl⟩;have ak:∀a,ν a∈V:=fun a=>by rw[hν];exact j _ (gM _)
 have hμ:∀a,zco ν (qG 0 p.init) a∈V:=zld (fun e he _=>by
  obtain⟨i,hi,rfl⟩:=Kj he;rw[z7] at hi;have:=zbj p.init 0 hi;rw[gE (by rw[z7];exact hi)] at this;rw[Uc this];exact j _ (gM _)) ak
 have ai:∀l∈p.threads,ThG l:=fun l hl=>zkO (hO.th l hl);obtain⟨ag,t1,t2,t3⟩:=zo6 hV p.threads 0 (zco ν (qG 0 p.init)) ai al hμ;obtain⟨m,hm,c⟩:=zru hO hc.2.1 t1 t2;have ah:m.base.ev=qG 0 p.init++zbR 0 ag:=by rw[c.base,zbO]
 have y:qp ν m.base.ev:=by rw[ah];exact znd (zkq _ _ _) t3
 have t:∀r,r<m.base.ev.length->(evA m.base r).k=1->∃s,zrJ m.base s r:=fun r q hk=>by
  have hg:m.base.ev[r]?=some (evA m.base r):=by
   unfold evA;rw[gDe,gE q];rfl
  have o:m.base.ev=m.base.ev.take r++evA m.base r::m.base.ev.drop (r+1):=by
   have h1:m.base.ev[r]=evA m.base r:=by rw[gE q] at hg;exact Uc hg
   conv=>lhs;rw[<- JO r m.base.ev]
   rw[Jp q,h1]
  have ab:=y _ _ _ o hk;have h:(evA m.base r).l.toNat<p.init.length:=by
   refine zbT c.i6 c.P ?_ (.inl hk);rw[<- c.base];exact JW hg
  have ap:p.init.length<=r:=Nat.le_of_not_lt fun hlt=>by
   rw[c.ini hlt] at hk
   cases hk
  have aa:=c.ini h;have aj:(evA m.base r).l.toNat<r:=by omega
  have ge:∀w,w<r->(m.base.ev.take r)[w]?=some (evA m.base w):=fun w v=>by
   rw[List.getElem?_take_of_lt v];unfold evA;rw[gDe,gE (show w<m.base.ev.length by omega)];rfl
  have n:=ge _ aj;obtain⟨s,e,s1,s2,s3,s4,s5⟩:=ziN ν (evA m.base r).l.toNat _ (m.base.ev.take r) rfl ⟨_,_,n,by rw[aa],by rw[aa];show(UInt8.ofNat (evA m.base r).l.toNat).toNat=_;rw[UInt8.ofNat_toNat]⟩;have z:s<r:=by
   have:=(Jr.1 s1).1;rw[Qr] at this;omega
  rw[ge s z] at s1;have s1:=Uc s1;subst s1;exact⟨s,z,s2,Ud.1 s3,s4.trans ab.symm,fun w h1 h2 h3 h4=>s5 w _ h1 (ge w h2) h3 (by rw[h4])⟩
 have an:jx m 20001<20001:=by
  have h2:=hc.2.2;have:=zlj (f:=fun m=>jx m 20001) hm;omega
 have af:jx m 1≠0:=by
  refine(zcK fun w v=>(c.w1 v).1).2 fun r q e=>?_;obtain⟨d,d1,d2,d3⟩:=c.rs q;have g:=(Jr.1 d1).1;have ae:evA m.base r.1=d:=by unfold evA;rw[gDe,d1];rfl
  obtain⟨s,g1,g2,g3,g4,_⟩:=t r.1 g (by rw[ae];exact d2);have h:d.l.toNat<p.init.length:=by
   refine zbT c.i6 c.P ?_ (.inl d2);rw[<- c.base];exact JW d1
  rw[c.wr.2 _ h] at d3;rw[ae] at g3 g4;have:s∈r.2:=by
   rw[d3];exact QO.2 ⟨zb8.2 ⟨by omega,Up g2,by rw[g3]⟩,Up g4⟩
  rw[e] at this;cases this
 have am:∀w∈m.wr,fct (w.length-1)<=10000:=fun w v=>by
  have h8:=zpM (zi3 (fun w v=>(c.w1 v).1) (lim:=20001) (by decide) an af w v);exact UL (zfT (b:=7) (by omega)) (by decide)
 obtain⟨_,ds,hd,f1,f2⟩:=c.fwd am t;have q:=c.right hd;have g:=c.rels hd;have hX:XOk (zG m ds):=znD ⟨g.po.w,g.rf.w,g.co.w,g.dt.w,g.ct.w,g.rm.w⟩ q;refine⟨zG m ds,List.mem_flatMap.2 ⟨m,hm,?_⟩,q,fun k=>?_,f1,f2⟩
 ·unfold ja;rw[Gm af];exact Km hd
 ·exact zrd hX f1 f2 (fun a b hb=>zqd hO c t1 t2 hb) k
def Fwd (x:ExD):Prop:=∀i j,i<x.ev.length->zh (zt2 x) i j=true->i<j
section
variable{x:ExD}
theorem zp1(h:XOk x)(hl0:∀i,i<qz x.ev->(evA x i).l.toNat=i){a b:Nat}(ha:a<x.ev.length)(hb:zh x.co a b=true):qz x.ev<=b:=by
 refine Nat.le_of_not_lt fun hlt=>?_;obtain⟨w1,w2,w3,w4⟩:=zfZ h ha hb;have w:=h.n;obtain⟨v,c2,_⟩:=(zng h.co).1 h.coR;obtain⟨l,y,j,o⟩:=(c2 a b (by omega)).1 hb;have m:b=l:=by
  have u:=(zb8.1 j).2.2;rw[w3,hl0 b hlt] at u;exact u
 subst m;have g:=v b y;rw[zij] at g;have aa:qz x.ev<=x.ev.length:=zmK x.ev;have r:(sG x b).reverse≠[]:=fun e=>by rw[e] at g;have:(48:Nat)=b:=g;omega
 obtain⟨z,t,f⟩:=List.exists_cons_of_ne_nil r;rw[f] at g;have s:z=b:=g;have hs:sG x b=t.reverse++[z]:=by rw[<- Ka (sG x b),f,KV]
 have d:(sG x b).Nodup:=zid b;have k:(sG x b).Pairwise (fun a c=>a≠b):=by
  rw[hs] at d ⊢;rw[JZ];refine⟨?_,List.pairwise_singleton ..,?_⟩
  ·refine List.Pairwise.imp_of_mem (R:=fun _ _=>True) (fun{p q} k _ _ e=>?_) (List.pairwise_of_forall fun _ _=>trivial);have:=(List.nodup_append.1 d).2.2 p k z (KB.2 rfl);exact this (e.trans s.symm)
  ·intro p k q hq e;have:=(List.nodup_append.1 d).2.2 p k z (KB.2 rfl);exact this (e.trans s.symm)
 exact zkL k (zeu.2 j) o rfl
theorem zvO(h:XOk x)(hl0:∀i,i<qz x.ev->(evA x i).k=2/\(evA x i).l.toNat=i)(hth:∀i,qz x.ev<=i->i<x.ev.length->(evA x i).th=0)(hb:jl 1 x=0):Fwd x:=by
 obtain⟨hA,_,_⟩:=zcv.1 hb;have t:∀o∈[x.rf,x.co,frM x],RelOk x.ev.length o:=fun o ho=>by
  simp only[UA,Qs,Gk] at ho;rcases ho with rfl | rfl | rfl
  ·exact h.rf
  ·exact h.co
  ·exact zeb h
 have c:RelOk x.ev.length (zag x) := .pick h.n _;obtain⟨U,hU⟩:=nm (qy (zag x) [x.rf,x.co,frM x]);rw[<- hU] at hA;have ab:RelOk x.ev.length U:=by rw[hU];exact zbB c t
 have d:∀i j,i<x.ev.length->zh U i j=(zh (zag x) i j||[x.rf,x.co,frM x].any fun o=>zh o i j):=fun i j a=>by rw[hU];exact zce a c t
 rw[acy_tc ab] at hA;have v:∀i j,i<x.ev.length->j<x.ev.length->zh U i j=true->zh U j i=true->False:=fun i j a q f p=>hA i (.step (.one ⟨a,f⟩) ⟨q,p⟩);have y:∀i j,i<j->j<x.ev.length->qz x.ev<=i->zby x i j=true->zh U i j=true:=fun i j af q a hs=>by
  rw[d i j (by omega)];have:zh (zag x) i j=true:=by
   unfold zag;rw[zc9,(zoa h (by omega)).2 ⟨by rw[hth i a (by omega)];decide,af,q,by rw[hth i a (by omega),hth j (by omega) q]⟩,hs];simp only[bAT,dE,Bool.and_self,Gh];omega
  rw[this];rfl
 obtain⟨aa,_⟩:=(zn1 h.rf).1 h.rfR;have ae:∀i j,i<x.ev.length->zh x.rf i j=true->zh U i j=true:=fun i j a hb=>by rw[d i j a];simp[hb]
 have ad:∀i j,i<x.ev.length->zh x.co i j=true->zh U i j=true:=fun i j a hb=>by rw[d i j a];simp[hb]
 have ag:∀i j,i<x.ev.length->zh (frM x) i j=true->zh U i j=true:=fun i j a hb=>by rw[d i j a];simp[hb]
 have sm:∀i j,zbZ x i=true->zbZ x j=true->(evA x i).l=(evA x j).l->zby x i j=true:=fun i j f p h3=>by
  unfold zby;rw[f,p,h3];simp
 have b:∀i,isW x i=true->zbZ x i=true:=fun i hw=>by
  unfold zbZ;rw[hw,Bool.or_true]
 have u:∀i,isR x i=true->zbZ x i=true:=fun i hw=>by
  unfold zbZ;rw[hw,Bool.true_or]
 have ac:∀i,isR x i=true->qz x.ev<=i:=fun i hr=>Nat.le_of_not_lt fun hlt=>by
  have f:(evA x i).k=1:=dT hr;rw[(hl0 i hlt).1] at f;exact Gp f (by decide)
 have m:∀i,isR x i=true->isW x i=true->False:=fun i f p=>by
  have f:(evA x i).k=1:=dT f;have p:(evA x i).k=2:=dT p;rw[f] at p;exact Gp p (by decide)
 intro i j a hb;have q:j<x.ev.length:=by
  exact((zt1 h).bit (by have:=h.n;omega) hb).2
 rw[zdp h a,QD,QD,QD] at hb;rcases hb with(hb | hb) | hb | hb
 ·exact((zoa h a).1 hb).2.1
 ·obtain⟨z,r,g3,_⟩:=aa i j a q hb;refine Qw fun g=>?_;rcases Nat.eq_or_lt_of_le g with e | hlt
  ·exact m j r (by rw[e];exact z)
  ·exact v i j a q (ae i j a hb) (y j i hlt a (ac j r) (sm j i (u j r) (b i z) g3.symm))
 ·obtain⟨z,r,g3,g4⟩:=zfZ h a hb;have w:=zp1 h (fun i a=>(hl0 i a).2) a hb;exact Qw fun g=>v i j a q (ad i j a hb) (y j i (Nat.lt_of_le_of_ne g (Ne.symm g4)) a w (sm j i (b j r) (b i z) g3.symm))
 ·obtain⟨s,hs,f,p⟩:=(zhZ h.rf.back h.co a).1 hb;rw[zaM h.rf (by have:=h.n;omega),bAT] at f;obtain⟨z,r,g3,_⟩:=aa s i hs a f.2;obtain⟨w1,w2,w3,w4⟩:=zfZ h hs p;have w:=zp1 h (fun i a=>(hl0 i a).2) hs p;refine Qw fun g=>?_;rcases Nat.eq_or_lt_of_le g with e | hlt
  ·exact m i r (by rw[<- e];exact w2)
  ·exact v i j a q (ag i j a hb) (y j i hlt a w (sm j i (b j w2) (u i r) (w3.symm.trans g3)))
end
theorem zdI{p:Prg}{V:List UInt8}(hO:OkG p){x:ExD}(hx:x∈q8 p V):∃(took:List PathD) (m:MixD),ChoiceW p.init took m/\m∈qu p V/\x∈ja m/\took.length=p.threads.length/\∀(t:Nat) (l:List InsD),p.threads[t]?=some l->∃R∈qB l V,took[t]?=some (jN R):=by
 obtain⟨m,f,hx⟩:=List.mem_flatMap.1 hx;obtain⟨k,a,b⟩:=List.mem_filterMap.1 f;obtain⟨h,c,e⟩:=zkv hO a b;refine⟨_,m,h,f,hx,?_,fun t l g=>?_⟩
 ·rw[(zhF (p.threads.map (zJ V)) k (by rw[QJ];exact c) (za6 a).2).1,QJ]
 ·obtain⟨d,_,R,i,j,_⟩:=e t l g;exact⟨R,JW i,j⟩
theorem zcL{m:MixD}{x:ExD}(h:x∈ja m):jx m 1≠0/\∃ds∈qt (zM m),x=zG m ds:=by
 unfold ja at h
 split at h
 ·cases h
 ·rename_i a;obtain⟨ds,b,rfl⟩:=UI.1 h;exact⟨a,ds,b,rfl⟩
structure CandI (p:Prg) (x:ExD):Prop where
 ok:XOk x
 ini:qz x.ev=p.init.length
 l0:∀i,i<qz x.ev->(evA x i).k=2/\(evA x i).l.toNat=i
 loc:∀i,i<x.ev.length->isW x i=true->(evA x i).l.toNat<qz x.ev
 rm:∀a b,zh x.rm a b=true->b=a+1
theorem zf3{p:Prg}{V:List UInt8}(hO:OkG p){x:ExD}(hx:x∈q8 p V):CandI p x:=by
 obtain⟨k,m,d,t,hx,o,q⟩:=zdI hO hx;obtain⟨v,h,j,rfl⟩:=zcL hx;have n:=d.right j;have c:=d.rels j;have s:XOk (zG m h):=znD ⟨c.po.w,c.rf.w,c.co.w,c.dt.w,c.ct.w,c.rm.w⟩ n;have f:qz (zG m h).ev=p.init.length:=d.inits;refine⟨s,f,fun i g=>?_,fun i g l=>?_,fun a b r=>zqd hO d o q r⟩
 ·rw[f] at g;have u:=d.i6;have e:evA (zG m h) i=⟨-1,2,UInt8.ofNat i,p.init[i],0,0,0⟩:=d.ini g;rw[e];exact⟨rfl,by show(UInt8.ofNat i).toNat=i;rw[KH];omega⟩
 ·rw[f];refine zbT d.i6 d.P ?_ (.inr (dT l));have:evA (zG m h) i∈m.base.ev:=by
   unfold evA;rw[gDe,gE g];exact gM g
  rw[<- d.base];exact this
theorem zwW{p:Prg}{V:List UInt8}(hO:OkG p)(h1:p.threads.length<=1){took:List PathD}{m:MixD}(hC:ChoiceW p.init took m)(t1:took.length=p.threads.length)(t2:∀(t:Nat) (l:List InsD),p.threads[t]?=some l->∃R∈qB l V,took[t]?=some (jN R)) :
  (p.threads=[]/\took=[]/\m.base.ev=qG 0 p.init)\/∃l R,p.threads=[l]/\R∈qB l V/\took=[jN R]/\m.base.ev=qG 0 p.init++jH 0 (qq R):=by
 have b:m.base.ev=qG 0 p.init++zbR 0 took:=by rw[hC.base,zbO]
 match hp:p.threads,h1 with
 | [],_ =>
  rw[hp] at t1;have a:=List.length_eq_zero_iff.1 t1;refine .inl ⟨rfl,a,?_⟩;rw[b,a];exact QG _
 | [l],_ =>
  obtain⟨R,c,a⟩:=t2 0 l (by rw[hp];rfl);rw[hp] at t1
  match took,t1 with
  | [P],_ =>
   have:P=jN R:=Uc a;refine .inr ⟨l,R,rfl,c,by rw[this],?_⟩;rw[b,this];show _++(jH 0 (qq R)++[])=_;rw[QG]
theorem zuU{p:Prg}{V:List UInt8}(hO:OkG p)(h1:p.threads.length<=1){x:ExD}(hx:x∈q8 p V)(hb:jl 1 x=0):Fwd x:=by
 have c:=zf3 hO hx;obtain⟨h,m,n,r,hx,j,o⟩:=zdI hO hx;obtain⟨_,g,f,rfl⟩:=zcL hx;refine zvO c.ok c.l0 (fun i k b=>?_) hb;rw[c.ini] at k;have q:(zG m g).ev=m.base.ev:=rfl;have a:evA (zG m g) i∈m.base.ev.drop p.init.length:=by
  unfold evA;rw[gDe,gE b];have:m.base.ev[i]?=(m.base.ev.drop p.init.length)[i-p.init.length]?:=by
   rw[Kx,show p.init.length+(i-p.init.length)=i by omega]
  refine JW (i:=i-p.init.length) ?_;rw[<- this];exact gE b
 rcases zwW hO h1 n j o with⟨_,_,e⟩ | ⟨l,R,_,_,_,e⟩
 ·rw[e,Jz (by rw[z7];exact UW _)] at a
  cases a
 ·rw[e,List.drop_left' (z7 ..)] at a;obtain⟨d,_,f⟩:=UI.1 a;rw[<- f];rfl
theorem ztc{p:Prg}{V:List UInt8}{most:Nat}(hO:OkG p)(hc:zas p V most)(hm:most<=20000){x:ExD}(hx:x∈q8 p V){w:Wd}{q:OA}(he:SlR evE w q x.ev):ExW w x q/\j0 x=true:=by
 have c:=zoG hO hc hm hx;have a:=(zf3 hO hx).ok;obtain⟨d,m,e,_,b,_⟩:=zdI hO hx;obtain⟨_,g,f,rfl⟩:=zcL b;exact⟨⟨he,c.n,fun l=>by have:=c.w8 l;omega,a.po.w,a.rf.w,a.co.w,a.dt.w,a.ct.w,a.rm.w⟩,e.right f⟩
section
variable{w:Wd}{B most:Nat}{pc:List Value}{p:Prg}
theorem zui(hB:B<=w.heap.size)(hP:PrgX B w pc p)(hG:GlobE w)(hok:zbp p=false)(hm20:most<=20000) :
  CB 8 #[.agg pc.toArray,i64 most] w (.tuple #[.slice none 0 0,i64 2]):=by
 refine qA 74 [.agg pc.toArray,i64 most] (.c .p (.c .p .p)) Tryz.func8 ?_;obtain⟨L,d⟩:=nm (w.heap.size);have f:=hP.v.size;refine⟨Unit,fun _=>⟨[(1,i64 most),(2,At0 L)],[]⟩,fun _ X=>X.heap[L]?=some (.cells pc.toArray 29 (0,0))/\L<X.heap.size/\Bw w X,⟨(),⟨.cons rfl (.cons (by rw[d];rfl) .nil),rfl⟩,by rw[d];exact zt w _,by rw[d];exact hlt (zt w _),(zba w _)⟩,?_⟩;rintro _ X ⟨i,l,a⟩;refine⟨Unit,fun _=>⟨[],[]⟩,fun _ X=>False,brN (Ue (by omega)) (brN (Ue (by omega)) ⟨pc,f,za i,hlt i,cmo (zga (UL hB a.size) (hP.v.below (a.mono hB)) (hG.c.below a)) ?_⟩),fun _ X h=>h.elim⟩;rintro e Y ⟨m,rfl,j,b⟩;have g:¬((m:Int)=0):=fun e=>by
  have k:m=0:=by omega
  have:=j.1 k;rw[hok] at this
  cases this
 exact brE (by rw[Ue g];rfl) ⟨rfl,(zst a b)⟩
end
section
variable{w:Wd}{B most:Nat}{pc:List Value}{p:Prg}{m:UInt8}
theorem zuk(hB:B<=w.heap.size)(hP:PrgX B w pc p)(hG:GlobE w)(hok:zbp p=true)(hm:1<=m.toNat/\m.toNat<=6)(hm20:most<=20000) :
  Calls PG 13 #[.agg pc.toArray,u8 m,i64 most] w fun e w'=>((∃V,zas p V most/\∃q c,e = .returned (.tuple #[.slice q (zbx (byL m.toNat (q8 p V))).length c,i64 0])/\OwnS zx 52 w.heap.size w' q c (zbx (byL m.toNat (q8 p V))))\/((∀V,¬zas p V most)/\e = .returned (.tuple #[.slice none 0 0,i64 5])))/\Bw w w':=by
 have hO:=zhG hok;refine qA 45 [.agg pc.toArray,u8 m,i64 most] (.c .p (.s .p (.c .p (.c .p (.s .p (.c (.s .p (.b (.l (.s .p (.s .p (.s (.b (.c .p .p)) .p)))))) .p)))))) Tryz.func13 ?_;obtain⟨L,hL⟩:=nm (w.heap.size);have ap:=hP.v.size;obtain⟨M,hM⟩:=nm (m.toNat);rw[<- hM] at hm ⊢;refine⟨Unit,fun _=>⟨[(1,u8 m),(2,i64 most),(3,At0 L)],[]⟩,fun _ X=>X.heap[L]?=some (.cells pc.toArray 29 (0,0))/\Bw w X,⟨(),⟨.cons rfl (.cons rfl (.cons (by rw[hL];rfl) .nil)),rfl⟩,by rw[hL];exact zt w _,(zba w _)⟩,?_⟩;rintro _ X ⟨f0,ab⟩;refine brN (Ue (by omega)) (brN (Ue (by omega)) ?_);have ad:=ab.size;refine⟨Bool×List zlp×OA×Nat,fun s=>⟨[(1,u8 m),(8,.slice s.2.2.1 s.2.1.length s.2.2.2),(9,i64 (if s.1 then 0 else 5))],[]⟩,fun s Y=>((s.1=true/\∃V,zas p V most/\s.2.1.map (·.1)=q8 p V/\OwnS exE 78 X.heap.size Y s.2.2.1 s.2.2.2 s.2.1/\∀x∈s.2.1,OwnS evE 80 X.heap.size Y x.2.1 x.2.2 x.1.ev)\/(s.1=false/\∀V,¬zas p V most))/\Bw w Y,?_,?_⟩
 ·refine⟨pc,ap,za f0,hlt f0,cmo (zuj (UL hB ad) (hP.below (ab.mono hB)) (hG.below ab) hok hm20 fun V _=>zjh hO) ?_⟩;rintro e Y ⟨(⟨V,t,d,q,c,rfl,h1,h2,h3⟩ | ⟨ac,rfl⟩),j⟩
  ·exact⟨(true,d,q,c),(cvE rfl rfl),.inl ⟨rfl,V,t,h1,h2,h3⟩,ab.trans (j.mono ad)⟩
  ·exact⟨(false,[],none,0),(cvE rfl rfl),.inr ⟨rfl,ac⟩,ab.trans (j.mono ad)⟩
 rintro⟨ok,d,q,c⟩ Y ⟨f,j⟩;dsimp only at f ⊢;refine⟨Unit,fun _=>⟨[(1,u8 m),(8,.slice q d.length c)],[]⟩,fun _ Z=>Z=Y/\ok=true,?_,?_⟩
 ·rcases f with⟨e,_⟩ | ⟨e,ac⟩
  ·subst e;exact brF ⟨(),(cvE rfl rfl),rfl,rfl⟩
  ·subst e;exact brT ⟨.inr ⟨ac,rfl⟩,j⟩
 rintro _ _ ⟨rfl,rfl⟩;rename_i Y;obtain⟨_,V,t,ae,oX,al⟩:=f.resolve_right fun h=>by cases h.1
 clear f;obtain⟨D,hD⟩:=nm (Y.heap.size);have az:d.length<=30000:=by
  have:=Gi List.length ae;rw[QJ] at this;have:=(zjh (V:=V) hO).len t.2.1 (UL t.2.2 hm20);omega
 refine⟨List FinV×OA×Nat,fun s=>⟨[(10,.slice s.2.1 s.1.length s.2.2)],[]⟩,fun s Z=>s.1=byL M (q8 p V)/\s.1.length<=30000/\OwnS zx 52 D Z s.2.1 s.2.2 s.1/\Below D Y Z,?_,?_⟩
 ·refine⟨Nat×List FinV×OA×Nat,fun s=>⟨[(1,u8 m),(10,.slice s.2.2.1 s.2.1.length s.2.2.2),(28,.slice q d.length c),(29,i64 d.length),(30,i64 (s.1:Nat))],[]⟩,
   fun s Z=>s.1<=d.length/\s.2.1=byL M ((d.take s.1).map (·.1))/\s.2.1.length<=s.1/\OwnS zx 52 D Z s.2.2.1 s.2.2.2 s.2.1/\Below D Y Z,fun s=>d.length-s.1,(0,[],none,0),
   (cvE rfl rfl),⟨UZ _,rfl,UW _,OwnS.nil,by rw[hD];exact Gb _ _⟩,?_⟩
  rintro⟨k,a,po,co⟩ Z ⟨hk,i,ah,oZ,z⟩;dsimp only at hk i ah oZ ⊢;have an:D<=Z.heap.size:=by have:=z.size;omega
  refine biE (fun hc=>?_) fun hc=>?_
  ·have hc:(k:Int)<(d.length:Int):=dT hc;have n:k<d.length:=by omega
   obtain⟨bx,ox,hq,ay,ao⟩:=oX.row.at n;obtain⟨y,hy⟩:∃y,d[k]=y:=⟨_,rfl⟩;have aj:y∈d:=by rw[<- hy];exact gM n
   have ak:(d.take (k+1)).map (·.1)=(d.take k).map (·.1)++[y.1]:=by rw[tsg n,hy,QM];rfl
   have r:=ao k n;rw[hy] at r;have r:zI Y ⟨bx,ox+k*333,none⟩ (exC y.1 y.2.1 y.2.2):=r;have aq:y.1∈q8 p V:=by rw[<- ae];exact Km aj
   subst hq;refine⟨Nat,fun s=>⟨[(1,u8 m),(10,.slice po a.length co),(12,At0 s),(28,.slice (some ⟨bx,ox,none⟩) d.length c),(29,i64 d.length),(30,i64 (k:Nat))],[]⟩,
    fun s U=>ExH U s y.1 y.2.1 y.2.2/\Bw Z U,?_,?_⟩
   ·refine⟨k,rfl,n,exC y.1 y.2.1 y.2.2,zW _ _ _,jP z (by show bx<D;omega) r,by show bx<_;omega,?_⟩;exact zo (X:=Z) (v := .agg (exC y.1 y.2.1 y.2.2).toArray) k78 (zW _ _ _) zbP (zcI _ _ _) fun U u fU sU=>⟨Z.heap.size,(cvE rfl rfl),fU,u⟩
   rintro bu U ⟨fU,u⟩;have o:=z.trans (u.mono an);have ai:Bw w U:=j.trans (o.mono (by have:=j.size;omega));refine⟨exC y.1 y.2.1 y.2.2,zW _ _ _,za fU,hlt fU,cmo (zwa (ztc hO t hm20 aq ((al y aj).row.below (by show Below _ _ _;rw[<- hD];exact o))).1 (hG.below ai).t64) ?_⟩;rw[<- hM];rintro e T ⟨rfl,ag⟩;have fT:=zb ag fU;have oT:=(oZ.below u).below ag;have aa:=o.trans (ag.mono (by have:=o.size;omega));have am:D<=T.heap.size:=by have:=aa.size;omega
   refine biE (fun h=>?_) fun h=>?_
   ·refine⟨zx.enc (zhq y.1),zx.len _,zvs fT,hlt fT,⟨by decide,by decide,rfl⟩,zx.enc (zhq y.1),zbs (zx.len _) rfl,?_⟩;have af:Bw T (T.alloc (.cells (zx.enc (zhq y.1)).toArray 52)):=zba _ _;have ax:=af.size;unfold zd1 zaN;show SatR _ _;exact jG Tryz.underlying40 k52 rfl rfl rfl (oT.below af) (news:=[zhq y.1]) rfl (q9 zx (zhq y.1)) (by omega) (by show a.length+1<=_;omega) (by show(a.length+1)*38<=_;omega) fun p' c' S oS gS ar au=>nxI (by omega) ⟨(k+1,a++[zhq y.1],p',c'),(cvE rfl rfl),⟨n,by rw[ak,zno,Gn h,i],by rw[lap];show _+1<=_;omega,oS,(aa.trans (af.mono am)).trans ar⟩,zdc (by omega)⟩
   ·exact nxI (by omega) ⟨(k+1,a,po,co),(cvE rfl rfl),⟨n,by rw[ak,zno,Gm (by rw[h];decide),i];simp,by show a.length<=k+1;omega,oT,aa⟩,zdc (by omega)⟩
  ·have hc:¬(k:Int)<(d.length:Int):=dF hc;obtain rfl:k=d.length:=by omega
   rw[Qt,ae] at i;exact⟨(a,po,co),(cvE rfl rfl),i,by show a.length<=30000;omega,oZ,z⟩
 rintro⟨a,po,co⟩ Z ⟨rfl,ah,oZ,z⟩;dsimp only at ah oZ ⊢;have aw:=j.size;have hb:=j.trans (z.mono (by omega));refine cmo (zt5 oZ.row (by omega) (fun h=>by
  rcases oZ.inv with⟨_,h2,_⟩ | ⟨g,av,h2,_⟩
  ·exact h2
  ·rw[h] at h2;cases h2)) ?_
 rintro e U ⟨q2,c2,rfl,oU,u⟩;exact⟨.inl ⟨V,t,q2,c2,rfl,oU.lower hb.size⟩,(zst hb u)⟩
theorem zyn(hB:B<=w.heap.size)(hP:PrgX B w pc p)(hG:GlobE w)(hok:zbp p=false)(hm:1<=m.toNat/\m.toNat<=6)(hm20:most<=20000) :
  CB 13 #[.agg pc.toArray,u8 m,i64 most] w (.tuple #[.slice none 0 0,i64 2]):=by
 refine qA 45 [.agg pc.toArray,u8 m,i64 most] (.c .p (.s .p .p)) Tryz.func13 ?_;obtain⟨L,g⟩:=nm (w.heap.size);have d:=hP.v.size;refine⟨Unit,fun _=>⟨[(1,u8 m),(2,i64 most),(3,At0 L)],[]⟩,fun _ X=>X.heap[L]?=some (.cells pc.toArray 29 (0,0))/\Bw w X,⟨(),⟨.cons rfl (.cons rfl (.cons (by rw[g];rfl) .nil)),rfl⟩,by rw[g];exact zt w _,(zba w _)⟩,?_⟩;rintro _ X ⟨f,a⟩;refine brN (Ue (by omega)) (brN (Ue (by omega)) ⟨pc,d,za f,hlt f,cmo (zui (UL hB a.size) (hP.below (a.mono hB)) (hG.below a) hok hm20) ?_⟩);rintro e Y ⟨rfl,b⟩;exact brT ⟨rfl,(zst a b)⟩
end
def zlA (p:Prg) (V:List UInt8) (most:Nat):Bool :=
 zbp p&&(decide (zes p=some V)&&((p.threads.all fun l=>decide ((qB l V).length<=4096))&&(((List.range (p.threads.length+1)).all fun k=>decide (zb2 ((p.threads.take k).map fun l=>(zJ V l).length)<=4096)) &&
  (((qt ((p.threads.map (zJ V)).map List.length)).all fun ds=>(ziI p.init (js (p.threads.map (zJ V)) ds)).isSome)&&decide (((qu p V).map fun m=>jx m 20001).sum<=most)))))
theorem zry{p:Prg}{V:List UInt8}{most:Nat}(h:zlA p V most=true):zbp p=true/\zas p V most:=by
 unfold zlA at h;simp only[bAT,dE,Qg,Ul] at h;obtain⟨f,c,e,a,b,d⟩:=h;exact⟨f,c,⟨e,fun k g=>a k (by omega),b⟩,d⟩
theorem zx9:zlA zgW [0,1] 100=true:=by kernel_rfl
theorem zxv:zwn (byL 2 (q8 zgW [0,1])) scL=true:=by kernel_rfl
theorem zvW:zwn (byL 3 (q8 zgW [0,1])) zcQ=true:=by kernel_rfl
theorem zxW:zbx (byL 2 (q8 zgW [0,1]))=scL:=zl0 zxv
theorem zwC:zbx (byL 3 (q8 zgW [0,1]))=zcQ:=zl0 zvW
section
variable{w:Wd}
theorem ztL{X:Wd}{m:UInt8}{vs:List Value}{l:List FinV}(hG:GlobE X)(hP:PrgX X.heap.size X vs zgW)(hm:1<=m.toNat/\m.toNat<=6)(hl:zbx (byL m.toNat (q8 zgW [0,1]))=l):Calls PG 13 #[.agg vs.toArray,u8 m,i64 (100:Nat)] X fun e Y =>
  ∃s:OA×Nat,e = .returned (.tuple #[.slice s.1 l.length s.2,i64 0])/\FsV Y l s/\Bw X Y:=by
 obtain⟨f,g⟩:=zry zx9;refine(zuk (most:=100) (m:=m) (UW _) hP hG f hm (by decide)).mono ?_;rintro e Y ⟨(⟨V,a,q,c,rfl,b⟩ | ⟨d,_⟩),h⟩
 ·have e:V=[0,1]:=by
   have:=a.1;rw[g.1] at this;exact(Uc this).symm
  subst e;rw[hl] at b ⊢;exact⟨(q,c),rfl,⟨b.row,zsA b⟩,h⟩
 ·exact Gp g (d _)
end
section
variable{w:Wd}
theorem zxx(hG:GlobE w):CB 12 #[] w (.bool true):=by
 refine qA 125 [] (.s .p (.c .p (.c .p (.c .p (.c .p (.c .p (.c .p (.c .p (.c .p .p))))))))) Tryz.func12 ?_;refine⟨OA×Nat,fun s=>⟨[(1,.slice s.1 scL.length s.2),(2,i64 0)],[]⟩,fun s X=>FsV X scL s/\Bw w X,?_,?_⟩
 ·refine cmo zcM ?_;rintro e X ⟨⟨vs,rfl,hP⟩,o⟩;refine cmo (ztL (m:=2) (hG.below o) hP (by decide) zxW) ?_;rintro e Y ⟨s,rfl,hs,h⟩;exact⟨s,(cvE rfl rfl),hs,(zst o h)⟩
 rintro i X1 ⟨d,o⟩;refine⟨OA×Nat,fun s=>⟨[(1,.slice i.1 scL.length i.2),(2,i64 0),(3,.slice s.1 zcQ.length s.2),(4,i64 0)],[]⟩,fun s X=>FsV X scL i/\FsV X zcQ s/\Bw w X,?_,?_⟩
 ·refine cmo zcM ?_;rintro e X ⟨⟨vs,rfl,hP⟩,h⟩;have l:=zst o h;refine cmo (ztL (m:=3) (hG.below l) hP (by decide) zwC) ?_;rintro e Y ⟨s,rfl,hs,x⟩;exact⟨s,(cvE rfl rfl),(d.below h).below x,hs,(zst l x)⟩
 clear d o X1;rintro u X ⟨d,f,j⟩;refine⟨Unit,fun _=>⟨[(1,.slice i.1 scL.length i.2),(2,i64 0),(3,.slice u.1 zcQ.length u.2),(4,i64 0),(6,i64 2)],[]⟩,fun _ X=>FsV X scL i/\FsV X zcQ u/\Bw w X,?_,?_⟩
 ·refine cmo zcM ?_;rintro e Y ⟨⟨vs,rfl,hP⟩,h⟩;refine cmo (zxJ (most:=100) hP.v.size) ?_;rintro e Z ⟨rfl,x⟩;have ab:=zst h x;exact⟨(),(cvE rfl rfl),d.below ab,f.below ab,(zst j ab)⟩
 clear d f j X;rintro _ X ⟨d,f,j⟩;refine⟨Nat×Nat,fun s=>⟨[(1,.slice i.1 scL.length i.2),(2,i64 0),(3,.slice u.1 zcQ.length u.2),(4,i64 0),(6,i64 2),(7,At0 s.2)],[]⟩,fun s X=>FsV X scL i/\FsV X zcQ u/\Bw w X/\X.heap[s.2]?=some (.cells (zu zcw (some ⟨s.1,0,none⟩) 2).toArray 27 (0,0))/\KidsG X.heap.size X (some ⟨s.1,0,none⟩) zky,?_,?_⟩
 ·refine cmo (zwh (t:=0) (n:=0) (v:=0)) ?_;rintro e Y1 ⟨rfl,o⟩;refine cmo (zwh (t:=1) (n:=0) (v:=0)) ?_;rintro e Y2 ⟨rfl,h⟩;refine⟨⟨by decide,by decide,rfl⟩,zu (.mk 1 0 0 0 []) none 0++zu (.mk 1 1 0 0 []) none 0,by kernel_rfl,?_⟩;have f3:=zt Y2 (.cells (zu (.mk 1 0 0 0 []) none 0++zu (.mk 1 1 0 0 []) none 0).toArray 27);have x:Bw Y2 (Y2.alloc (.cells (zu (.mk 1 0 0 0 []) none 0++zu (.mk 1 1 0 0 []) none 0).toArray 27)):=zba _ _;refine cmo (zuV (k:=3) (kids:=zky) (q:=some ⟨Y2.heap.size,0,none⟩) (cap:=2)) ?_;rintro e Y4 ⟨rfl,b4⟩;have f4:=zb b4 f3;refine zo (X:=Y4) (v:=zbK zcw (some ⟨Y2.heap.size,0,none⟩) 2) k27 rfl rfl rfl fun U ae fU sU=>?_;have b:=(((zst o h)).trans (x.mono ((zst o h)).size));have bb:=zst b b4;have bU:=zst bb ae;exact⟨(Y2.heap.size,Y4.heap.size),(cvE rfl rfl),d.below bU,f.below bU,(zst j bU),fU,zq6 (zb ae f4)⟩
 clear d f j X;rintro⟨g,b7⟩ X ⟨d,f,j,y,hk⟩;dsimp only at y hk;obtain⟨q7,af⟩:=nm ((some ⟨g,0,none⟩:OA));rw[<- af] at y hk;refine⟨Unit,fun _=>⟨[(1,.slice i.1 scL.length i.2),(2,i64 0),(3,.slice u.1 zcQ.length u.2),(4,i64 0),(6,i64 2),(7,At0 b7),(8,.bool false),(9,i64 0)],[]⟩,fun _ X=>FsV X scL i/\FsV X zcQ u/\Bw w X/\X.heap[b7]?=some (.cells (zu zcw q7 2).toArray 27 (0,0))/\KidsG X.heap.size X q7 zky,?_,?_⟩
 ·refine⟨zu zcw q7 2,rfl,za y,hlt y,cmo (zjn (ask:=1) (c:=zcw) hk d.1 (by decide) d.2) ?_⟩;rw[zuz,zo7 1 (by decide)];rintro e Y ⟨rfl,b⟩;exact⟨(),(cvE rfl rfl),d.below b,f.below b,(zst j b),zb b y,(hk.kept b).wider b.size⟩
 clear d f j y hk X;rintro _ X ⟨d,f,j,y,hk⟩;refine⟨Unit,fun _=>⟨[(1,.slice i.1 scL.length i.2),(2,i64 0),(3,.slice u.1 zcQ.length u.2),(4,i64 0),(6,i64 2),(7,At0 b7),(8,.bool false),(9,i64 0),(10,.bool true),(11,i64 0)],[]⟩,fun _ X=>FsV X scL i/\FsV X zcQ u/\Bw w X/\X.heap[b7]?=some (.cells (zu zcw q7 2).toArray 27 (0,0))/\KidsG X.heap.size X q7 zky,?_,?_⟩
 ·refine⟨zu zcw q7 2,rfl,za y,hlt y,cmo (zjn (ask:=2) (c:=zcw) hk d.1 (by decide) d.2) ?_⟩;rw[zuy,zo7 2 (by decide)];rintro e Y ⟨rfl,b⟩;exact⟨(),(cvE rfl rfl),d.below b,f.below b,(zst j b),zb b y,(hk.kept b).wider b.size⟩
 clear d f j y hk X;rintro _ X ⟨d,f,j,y,hk⟩;refine⟨Unit,fun _=>⟨[(1,.slice i.1 scL.length i.2),(2,i64 0),(3,.slice u.1 zcQ.length u.2),(4,i64 0),(6,i64 2),(8,.bool false),(9,i64 0),(10,.bool true),(11,i64 0),(12,.bool true),(13,i64 1)],[]⟩,fun _ X=>FsV X scL i/\FsV X zcQ u/\Bw w X,?_,?_⟩
 ·refine⟨zu zcw q7 2,rfl,za y,hlt y,cmo (zjn (ask:=1) (c:=zcw) hk f.1 (by decide) f.2) ?_⟩;rw[zr4,zr3];rintro e Y ⟨rfl,b⟩;exact⟨(),(cvE rfl rfl),d.below b,f.below b,(zst j b)⟩
 clear d f j y hk X;rintro _ X ⟨d,f,j⟩;refine⟨Unit,fun _=>⟨[(1,.slice i.1 scL.length i.2),(2,i64 0),(3,.slice u.1 zcQ.length u.2),(4,i64 0),(6,i64 2),(8,.bool false),(9,i64 0),(10,.bool true),(11,i64 0),(12,.bool true),(13,i64 1),(14,.bool false)],[]⟩,fun _ X=>FsV X scL i/\FsV X zcQ u/\Bw w X,?_,?_⟩
 ·refine cmo (zuV (k:=5) (kids:=[]) (q:=none) (cap:=0)) ?_;rintro e Y1 ⟨rfl,o⟩;refine cmo (zdZ (a:=0) (b:=0)) ?_;rintro e Y2 ⟨rfl,h⟩;refine cmo (zf9 (F:=qj 0 0) (c := .mk 5 0 0 0 []) (q:=none) (cap:=0) .empty) ?_;rintro e Y3 ⟨rfl,x⟩;have aa:=((zst o h)).trans (x.mono ((zst o h)).size);refine brF (cmo (zuV (k:=3) (kids:=[]) (q:=none) (cap:=0)) ?_);rintro e Y4 ⟨rfl,b4⟩;refine cmo (zdZ (a:=0) (b:=0)) ?_;rintro e Y5 ⟨rfl,b5⟩;refine cmo (zf9 (F:=qj 0 0) (c := .mk 3 0 0 0 []) (q:=none) (cap:=0) .empty) ?_;rintro e Y6 ⟨rfl,b6⟩;have ai:=((zst b4 b5)).trans (b6.mono ((zst b4 b5)).size);refine brF (cmo (zuV (k:=4) (kids:=[]) (q:=none) (cap:=0)) ?_);rintro e Y7 ⟨rfl,b7⟩;refine cmo (zdZ (a:=0) (b:=0)) ?_;rintro e Y8 ⟨rfl,b8⟩;refine cmo (zf9 (F:=qj 0 0) (c := .mk 4 0 0 0 []) (q:=none) (cap:=0) .empty) ?_;rintro e Y9 ⟨rfl,b9⟩;have ag:=((zst b7 b8)).trans (b9.mono ((zst b7 b8)).size);have ah:=zst aa ai;have ad:=zst ah ag;exact⟨(),(cvE rfl rfl),d.below ad,f.below ad,(zst j ad)⟩
 clear d f j X;rintro _ X ⟨d,f,j⟩;refine brT (brT (brT (cmo (zdZ (a:=0) (b:=1)) ?_)));rintro e Y1 ⟨rfl,o⟩;refine cmo (zdZ (a:=1) (b:=0)) ?_;rintro e Y2 ⟨rfl,h⟩;refine cmo (zdZ (a:=1) (b:=1)) ?_;rintro e Y3 ⟨rfl,x⟩;refine⟨⟨by decide,by decide,rfl⟩,zx.enc (qj 0 1)++(zx.enc (qj 1 0)++zx.enc (qj 1 1)),by kernel_rfl,?_⟩;have f4:=zt Y3 (.cells (zx.enc (qj 0 1)++(zx.enc (qj 1 0)++zx.enc (qj 1 1))).toArray 52);have b4:Bw Y3 (Y3.alloc (.cells (zx.enc (qj 0 1)++(zx.enc (qj 1 0)++zx.enc (qj 1 1))).toArray 52)):=zba _ _;have r4:SlR zx (Y3.alloc (.cells (zx.enc (qj 0 1)++(zx.enc (qj 1 0)++zx.enc (qj 1 1))).toArray 52)) (some ⟨Y3.heap.size,0,none⟩) [qj 0 1,qj 1 0,qj 1 1]:=(RowB.slr (.inr ⟨_,0,rfl,hlt f4,by
  have e:[qj 0 1,qj 1 0,qj 1 1].flatMap zx.enc=zx.enc (qj 0 1)++(zx.enc (qj 1 0)++zx.enc (qj 1 1)):=by simp[KR]
  rw[e];exact za f4⟩) (UW _))
 have l:=zst o h;have aa:=zst l x;have z:=zst aa b4;refine cmo (zjq (la:=scL) (lb:=[qj 0 1,qj 1 0,qj 1 1]) (ca:=i.2) (cb:=3) (d.1.below z) r4 (by decide)) ?_;rw[Up (show scL=[qj 0 1,qj 1 0,qj 1 1] from rfl)];rintro e Y5 ⟨rfl,b5⟩;have f:=(f.below z).below b5;have bY:=j.trans (((zst z b5)).mono j.size);clear l aa z o h x b4 b5 r4 f4 d j;refine brT (cmo (zdZ (a:=0) (b:=0)) ?_);rintro e Z1 ⟨rfl,o⟩;refine cmo (zdZ (a:=0) (b:=1)) ?_;rintro e Z2 ⟨rfl,h⟩;refine cmo (zdZ (a:=1) (b:=0)) ?_;rintro e Z3 ⟨rfl,x⟩;refine cmo (zdZ (a:=1) (b:=1)) ?_;rintro e Z4 ⟨rfl,b4⟩;refine⟨⟨by decide,by decide,rfl⟩,zx.enc (qj 0 0)++(zx.enc (qj 0 1)++(zx.enc (qj 1 0)++zx.enc (qj 1 1))),by kernel_rfl,?_⟩;have f5:=zt Z4 (.cells (zx.enc (qj 0 0)++(zx.enc (qj 0 1)++(zx.enc (qj 1 0)++zx.enc (qj 1 1)))).toArray 52);have b5:Bw Z4 (Z4.alloc (.cells (zx.enc (qj 0 0)++(zx.enc (qj 0 1)++(zx.enc (qj 1 0)++zx.enc (qj 1 1)))).toArray 52)):=zba _ _;have r5:SlR zx (Z4.alloc (.cells (zx.enc (qj 0 0)++(zx.enc (qj 0 1)++(zx.enc (qj 1 0)++zx.enc (qj 1 1)))).toArray 52)) (some ⟨Z4.heap.size,0,none⟩) [qj 0 0,qj 0 1,qj 1 0,qj 1 1]:=(RowB.slr (.inr ⟨_,0,rfl,hlt f5,by
  have e:[qj 0 0,qj 0 1,qj 1 0,qj 1 1].flatMap zx.enc=zx.enc (qj 0 0)++(zx.enc (qj 0 1)++(zx.enc (qj 1 0)++zx.enc (qj 1 1))):=by simp[KR]
  rw[e];exact za f5⟩) (UW _))
 have l:=zst o h;have aa:=zst l x;have z:=zst aa b4;have ac:=zst z b5;refine cmo (zjq (la:=zcQ) (lb:=[qj 0 0,qj 0 1,qj 1 0,qj 1 1]) (ca:=u.2) (cb:=4) (f.1.below ac) r5 (by decide)) ?_;rw[Up (show zcQ=[qj 0 0,qj 0 1,qj 1 0,qj 1 1] from rfl)];rintro e Z6 ⟨rfl,b6⟩;have bZ:=bY.trans (((zst ac b6)).mono bY.size);clear l aa z ac o h x b4 b5 b6 r5 f5 f bY;refine brT (brT (brT (brT (brT (brT (brT (brT (cmo zcM ?_))))))));rintro e V1 ⟨⟨vs,rfl,hP⟩,o⟩;refine cmo (zdZ (a:=1) (b:=1)) ?_;rintro e V2 ⟨rfl,h⟩;have l:=zst o h;have bV:=zst bZ l;refine cmo (zxz (N:=100) (p:=zgW) (F:=qj 1 1) h.size (hP.v.below h) (hG.below bV).c (zon _) (by decide) (fun t r ht hr=>(by decide:∀t,t<4->∀r,r<8->((qj 1 1).reg t r).toNat<100) t ht r hr) (by decide)) ?_;rw[zuw];rintro e V3 ⟨rfl,x⟩;exact⟨_,fun w=>jj _ _ okT okT w,by rw[Up rfl];rfl,(zst bV x)⟩
end
section
variable{w:Wd}{pa pb:OA}{ca cb:Nat}{la lb:List FinV}
theorem zrS(ha:SlR zx w pa la)(hb:SlR zx w pb lb)(hna:la.length<=1000000)(hnb:lb.length<=1000000)(hs:∀x∈la,x∈lb):CB 16 #[.slice pa la.length ca,.slice pb lb.length cb] w (.bool true):=by
 refine qA 32 [.slice pa la.length ca,.slice pb lb.length cb] (.s .p (.s (.s .p (.b (.l (.s .p (.s .p (.s (.b (.c .p (.s .p (.c (.s .p (.b (.l (.s .p (.s .p (.s (.b (.c .p .p)) .p)))))) .p)))) .p)))))) .p)) Tryz.func16 ?_;refine⟨Nat,fun k=>⟨[(1,.slice pb lb.length cb),(10,.slice pa la.length ca),(11,i64 la.length),(12,i64 k)],[]⟩,fun k X=>k<=la.length/\Bw w X,fun k=>la.length-k,0,(cvE rfl rfl),⟨UZ _,Gb _ _⟩,?_⟩;rintro k X ⟨hk,bX⟩;refine biE (fun h=>?_) fun h=>?_
 ·have f:k<la.length:=by have:=dT h;omega
  clear h;obtain⟨u,r,rfl,z,m⟩:=(ha.below bX).at f;obtain⟨x,hx⟩:=nm (la[k]);have c1:=m k f;rw[<- hx] at c1;have ab:x∈lb:=hs x (by rw[hx];exact gM f);refine⟨Nat,fun s=>⟨[(1,.slice pb lb.length cb),(6,At0 s),(10,.slice (some ⟨u,r,none⟩) la.length ca),(11,i64 la.length),(12,i64 k)],[]⟩,fun s Y=>Y.heap[s]?=some (.cells (zx.enc x).toArray 52 (0,0))/\Bw X Y,?_,?_⟩
  ·exact⟨k,rfl,f,zx.enc x,zx.len x,c1,z,zo (X:=X) (v:=zaq x) k52 (zx.len x) rfl (Qg.2 fun v hv=>zx.one x v hv) fun U i fU sU=>⟨X.heap.size,(cvE rfl rfl),fU,i⟩⟩
  rintro s Y ⟨g,bY⟩;have ac:=zst bX bY;refine⟨Unit,fun _=>⟨[(1,.slice pb lb.length cb),(7,.bool true),(10,.slice (some ⟨u,r,none⟩) la.length ca),(11,i64 la.length),(12,i64 k)],[]⟩,fun _ Z=>Bw w Z,?_,?_⟩
  ·refine⟨Nat,fun j=>⟨[(1,.slice pb lb.length cb),(6,At0 s),(7,.bool ((lb.take j).any fun y=>decide (x=y))),(10,.slice (some ⟨u,r,none⟩) la.length ca),(11,i64 la.length),(12,i64 k),(16,.slice pb lb.length cb),(17,i64 lb.length),(18,i64 j)],[]⟩,fun j Z=>j<=lb.length/\Z.heap[s]?=some (.cells (zx.enc x).toArray 52 (0,0))/\Bw w Z,fun j=>lb.length-j,0,(cvE rfl rfl),⟨UZ _,g,ac⟩,?_⟩;rintro j Z ⟨hj,g,q⟩;refine biE (fun h=>?_) fun h=>?_
   ·have a:j<lb.length:=(by have:=dT h;omega);clear h;obtain⟨b2,o2,rfl,aa,o⟩:=(hb.below q).at a;obtain⟨y,hy⟩:=nm (lb[j]);have c2:=o j a;rw[<- hy] at c2;have d:((lb.take (j+1)).any fun y=>decide (x=y))=(((lb.take j).any fun y=>decide (x=y))||decide (x=y)):=(by rw[zkz a,hy]);obtain⟨V,hV⟩:=nm ((lb.take j).any fun y=>decide (x=y));rw[<- hV] at d;refine⟨Nat,fun t=>⟨[(1,.slice (some ⟨b2,o2,none⟩) lb.length cb),(6,At0 s),(7,.bool V),(9,At0 t),(10,.slice (some ⟨u,r,none⟩) la.length ca),(11,i64 la.length),(12,i64 k),(16,.slice (some ⟨b2,o2,none⟩) lb.length cb),(17,i64 lb.length),(18,i64 j)],[]⟩,fun t U=>U.heap[t]?=some (.cells (zx.enc y).toArray 52 (0,0))/\Bw Z U,?_,?_⟩
    ·exact⟨j,rfl,a,zx.enc y,zx.len y,c2,aa,zo (X:=Z) (v:=zaq y) k52 (zx.len y) rfl (Qg.2 fun v hv=>zx.one y v hv) fun U i fU sU=>⟨Z.heap.size,⟨.cons rfl (.cons rfl (.cons (by rw[hV];rfl) (.cons rfl (.cons rfl (.cons rfl (.cons rfl (.cons rfl (.cons rfl (.cons rfl .nil))))))))),rfl⟩,fU,i⟩⟩
    rintro t U ⟨f9,n⟩;have g:=zb n g;have n:=zst q n;refine biE (fun h=>?_) fun h=>?_
    ·rw[h,Bool.true_or] at d;exact⟨_,ze (by omega),j+1,⟨.cons rfl (.cons rfl (.cons (by rw[d];rfl) (.cons rfl (.cons rfl (.cons rfl (.cons rfl (.cons rfl (.cons rfl .nil)))))))),rfl⟩,⟨a,g,n⟩,by dsimp only;omega⟩
    ·rw[h,Us] at d;exact⟨zx.enc x,zx.len x,za g,hlt g,zx.enc y,zx.len y,za f9,hlt f9,_,fun w=>zmY _ _ x y w,_,ze (by omega),j+1,⟨.cons rfl (.cons rfl (.cons (by rw[d];rfl) (.cons rfl (.cons rfl (.cons rfl (.cons rfl (.cons rfl (.cons rfl .nil)))))))),rfl⟩,⟨a,g,n⟩,by dsimp only;omega⟩
   ·have ad:j=lb.length:=(by have:=dF h;omega);subst ad;have e:((lb.take lb.length).any fun y=>decide (x=y))=true:=by
     rw[Qt,Qh];exact⟨x,ab,Up rfl⟩
    exact⟨(),⟨.cons rfl (.cons (by rw[<- e];rfl) (.cons rfl (.cons rfl (.cons rfl .nil)))),rfl⟩,q⟩
  rintro _ Z q;exact brF ⟨_,ze (by omega),k+1,(cvE rfl rfl),⟨f,q⟩,by dsimp only;omega⟩
 ·exact⟨rfl,bX⟩
end
section
variable{p:Prg}{V:List UInt8}{most:Nat}
theorem zfe(hO:OkG p){x:ExD}(hx:x∈q8 p V){m:Nat}(h1:1<=m)(h6:m<=6):zaA m x=decide (jl m x=0):=by
 obtain⟨b,e,c,_,a,_⟩:=zdI hO hx;obtain⟨_,f,d,rfl⟩:=zcL a;unfold zaA zbb;rw[Up h1,Up h6,c.right d];rfl
theorem znO(hO:OkG p)(hc:zas p V most)(hm20:most<=20000):∃x∈q8 p V,∀m,1<=m->m<=6->zaA m x=true:=by
 obtain⟨x,a,_,d,_⟩:=zrw hO hc hm20;exact⟨x,a,fun m c b=>by rw[zfe hO a c b];exact Up (d m)⟩
theorem znH(hO:OkG p){x:ExD}(hx:x∈q8 p V){q:Nat×Nat}(hq:q∈zaR)(h:zaA q.1 x=true):zaA q.2 x=true:=by
 have a:=(zf3 hO hx).ok;exact zkH ⟨a.po.w,a.rf.w,a.co.w,a.dt.w,a.ct.w,a.rm.w⟩ hq h
theorem zqU(hO:OkG p)(hc:zas p V most)(hm20:most<=20000)(h1:p.threads.length<=1){x:ExD}(hx:x∈q8 p V){m:Nat}(hm1:1<=m)(hm6:m<=6):zaA m x=zaA 1 x:=by
 have this:jl m x=0↔jl 1 x=0:=by
  by_cases b:jl 1 x=0
  ·have a:=zf3 hO hx;have e:=zuU hO h1 hx b;exact⟨fun _=>b,fun _=>zmS a.ok (fun i=>i) e a.rm m⟩
  ·refine⟨fun h=>?_,fun h=>Gp h b⟩;have a:=zf3 hO hx;obtain⟨c,d,_⟩:=zcv.1 h;exact zcv.2 ⟨c,d,.inl rfl⟩
 rw[zfe hO hx hm1 hm6,zfe hO hx (UW 1) (by decide)];exact QC.2 this
end
theorem zkr:∀l:List FinV,(zb4 l).length<=l.length
 | []=>UW _
 | a::r=>by
  have c:=zkr r;unfold zb4
  cases e:zb4 r with
  | nil=>exact Nat.succ_le_succ (UZ _)
  | cons b s =>
   rw[e] at c;dsimp only
   split
   ·exact Nat.le_succ_of_le c
   ·exact Nat.succ_le_succ c
theorem zqs(l:List FinV):(zbx l).length<=l.length:=UL (zkr _) (Nat.le_of_eq (List.mergeSort_perm l leF).length_eq)
section
variable{p:Prg}{V:List UInt8}{most:Nat}
def zk8 (p:Prg) (V:List UInt8) (m:Nat):List FinV:=zbx (byL m (q8 p V))
theorem zlB{m:Nat}{l:List ExD}{f:FinV}:f∈byL m l↔∃x∈l,zaA m x=true/\zhq x=f:=by
 unfold byL;rw[UI];constructor
 ·rintro⟨x,a,e⟩;exact⟨x,(QO.1 a).1,(QO.1 a).2,e⟩
 ·rintro⟨x,a,h,e⟩;exact⟨x,QO.2 ⟨a,h⟩,e⟩
theorem zsC(hO:OkG p)(hc:zas p V most)(hm20:most<=20000){m:Nat}(h1:1<=m)(h6:m<=6):1<=(zk8 p V m).length:=by
 obtain⟨x,a,h⟩:=znO hO hc hm20;exact List.length_pos_iff.2 (KC (zca.2 (zlB.2 ⟨x,a,h m h1 h6,rfl⟩)))
theorem zsB(hO:OkG p){q:Nat×Nat}(hq:q∈zaR):∀f∈zk8 p V q.1,f∈zk8 p V q.2:=fun f b=>by
 obtain⟨x,a,h,e⟩:=zlB.1 (zca.1 b);exact zca.2 (zlB.2 ⟨x,a,znH hO a hq h,e⟩)
theorem zsD(hO:OkG p)(hc:zas p V most)(hm20:most<=20000)(h1:p.threads.length<=1){m:Nat}(hm1:1<=m)(hm6:m<=6):zk8 p V m=zk8 p V 1:=by
 unfold zk8 byL;rw[KQ fun x a=>zqU hO hc hm20 h1 a hm1 hm6]
theorem zsE(hO:OkG p)(hc:zas p V most)(hm20:most<=20000)(m:Nat):(zk8 p V m).length<=1000000:=by
 have c:(zk8 p V m).length<=(byL m (q8 p V)).length:=zqs _;have b:(byL m (q8 p V)).length<=(q8 p V).length:=by
  unfold byL;rw[QJ];exact JK _ _
 have a:=(zjh (V:=V) hO).len hc.2.1 (UL hc.2.2 hm20);omega
end
section
variable{w:Wd}{B:Nat}{pc:List Value}{p:Prg}
theorem zvk(hB:B<=w.heap.size)(hP:PrgX B w pc p) :
  Calls PG 11 #[.agg pc.toArray] w fun e w'=>(∃b:Bool,e = .returned (.bool b))/\Bw w w':=by
 refine qA 20 [.agg pc.toArray] (.c .p (.s .p (.s .p .p))) Tryz.func11 ?_;obtain⟨L,z⟩:=nm (w.heap.size);have ab:=hP.v.size;have o:=hP.v.len;obtain⟨_,⟨x,t,h3,k,q,jO,ad⟩,_⟩:=hP;have ac:k.length=p.threads.length:=by rw[<- q,QJ]
 have u:=o.threads;refine⟨Unit,fun _=>⟨[(1,At0 L)],[]⟩,fun _ X=>X.heap[L]?=some (.cells pc.toArray 29 (0,0))/\Bw w X,⟨(),⟨.cons (by rw[z];rfl) .nil,rfl⟩,by rw[z];exact zt w _,(zba w _)⟩,?_⟩;rintro _ X ⟨y,f⟩;have d:X.cell? ⟨L,0+3,none⟩=some (.slice x p.threads.length t):=zc (za y) (i:=3) (by simpa using h3);refine⟨_,d,biE (fun n=>?_) fun n=>?_⟩
 ·exact⟨⟨_,rfl⟩,f⟩
 have n:¬(3:Int)<(p.threads.length:Int):=dF n;refine⟨_,d,?_⟩;refine⟨Nat,fun m=>⟨[(10,.slice x p.threads.length t),(11,i64 p.threads.length),(12,i64 (m:Nat))],[]⟩,fun m Y=>m<=p.threads.length/\Bw w Y,fun m=>p.threads.length-m,0,
   (cvE rfl rfl),⟨UZ _,f⟩,?_⟩
 clear d y f;rintro m Y ⟨hm,a⟩;dsimp only at hm ⊢;refine biE (fun r=>?_) fun r=>?_
 ·have r:(m:Int)<(p.threads.length:Int):=dT r;have g:m<p.threads.length:=by omega
  have j:m<k.length:=by omega
  obtain⟨b3,o3,l,aa,h⟩:=zhD (jO.below (a.mono hB)) j;subst l;refine⟨m,rfl,g,znK k[m],by have:=zc (h m j) (i:=0) (v:=znK k[m]) rfl;exact this,biE (fun h5=>?_) fun h5=>?_⟩
  ·exact⟨⟨_,rfl⟩,a⟩
  exact nxI (by omega) ⟨m+1,(cvE rfl rfl),⟨g,a⟩,zdc (by omega)⟩
 ·exact⟨⟨_,rfl⟩,a⟩
end
def lsC (s:Nat->OA×Nat) (L:Nat->List FinV) (k:Nat):List Value:=(List.range 7).map fun i=>if 1<=i/\i<k then .slice (s i).1 (L i).length (s i).2 else .slice none 0 0
theorem zlg(s:Nat->OA×Nat)(L:Nat->List FinV)(k:Nat):(lsC s L k).length=7:=by unfold lsC;rw[QJ,KU]
theorem zoj{s:Nat->OA×Nat}{L:Nat->List FinV}{k i:Nat}(hi:1<=i)(hk:i<k)(h7:i<7):(lsC s L k)[i]?=some (.slice (s i).1 (L i).length (s i).2):=by
 unfold lsC;rw[KT,Ki h7];show some (if 1<=i/\i<k then _ else _)=_;rw[Gn ⟨hi,hk⟩]
theorem zu2{s:Nat->OA×Nat}{L:Nat->List FinV}{k:Nat}{q:OA}{c:Nat}(h1:1<=k)(h7:k<7):(lsC s L k).set k (.slice q (L k).length c)=lsC (fun i=>if i=k then(q,c) else s i) L (k+1):=by
 refine KO fun i=>?_;rw[List.getElem?_set];by_cases a:i<7
 ·unfold lsC;rw[KT,KT,Ki a,QJ,KU];by_cases e:k=i
  ·subst e;rw[Gn rfl,Gn h7];show _=some (if 1<=k/\k<k+1 then Value.slice (if k=k then(q,c) else s k).1 (L k).length (if k=k then(q,c) else s k).2 else .slice none 0 0);rw[Gn ⟨h1,Qx k⟩,Gn rfl]
  ·rw[Gm e];show some (if 1<=i/\i<k then(.slice (s i).1 (L i).length (s i).2:Value) else .slice none 0 0)=some (if 1<=i/\i<k+1 then Value.slice (if i=k then(q,c) else s i).1 (L i).length (if i=k then(q,c) else s i).2 else Value.slice none 0 0);rw[Gm (c:=i=k) fun h=>e h.symm];by_cases h:1<=i/\i<k
   ·rw[Gn h,Gn ⟨h.1,by omega⟩]
   ·rw[Gm h,Gm fun b=>h ⟨b.1,by omega⟩]
 ·rw[JI (by rw[zlg];omega),JI (by rw[zlg];omega),Gm (by omega)]
theorem zxZ(s:Nat->OA×Nat)(L:Nat->List FinV):lsC s L 1=[.slice none 0 0,.slice none 0 0,.slice none 0 0,.slice none 0 0,.slice none 0 0,.slice none 0 0,.slice none 0 0]:=by
 unfold lsC;show(List.range 7).map (fun i=>if 1<=i/\i<1 then(.slice (s i).1 (L i).length (s i).2:Value) else .slice none 0 0)=_;have e:(fun i=>if 1<=i/\i<1 then(.slice (s i).1 (L i).length (s i).2:Value) else .slice none 0 0)=fun _ => .slice none 0 0:=funext fun i=>Gm (by omega);rw[e];rfl
theorem ztr(d:Nat)(a b:Bool)(w:Wd):(Op.equalIn (d+1) 4 (.bool a) (.bool b)).run PG w = .ok (decide (a=b)) w:=by
 simp only[Op.equalIn,US,Uq Tryz.underlying4,KZ,UT]
 cases a <;> cases b <;> rfl
theorem zj3(x y:Operand)(a b:Bool)(w:Wd):(do eqGuard .neq 4 x y (.bool a) (.bool b);binOp .neq 4 (.bool a) (.bool b)).run PG w = .ok (.bool (!decide (a=b))) w:=by
 have h:(Op.equal 4 (.bool a) (.bool b)).run PG w = .ok (decide (a=b)) w:=ztr 9999 a b w;have c:(eqGuard .neq 4 x y (.bool a) (.bool b)).run PG w = .ok () w:=rfl;rw[US,c];simp only[KZ,binOp,US,h,UT]
theorem zrX{m:UInt8}(h:m.toNat<=6):(m+1).toNat=m.toNat+1:=by
 rw[UInt8.toNat_add];show(m.toNat+1)%256=_;omega
def zn7:List Value:=[u8 2,u8 3,u8 3,u8 4,u8 4,u8 6,u8 6,u8 1,u8 2,u8 5,u8 5,u8 1]
theorem zwN{X:Wd}{b k:Nat}(f:zI X ⟨b,0,none⟩ zn7)(hk:k<6):∃q:UInt8×UInt8,(q.1.toNat,q.2.toNat)∈zaR/\zI X ⟨b,0+k*2,none⟩ [u8 q.1,u8 q.2]:=by
 have h:=fun n=>zP (n:=n) (m:=2) f
 match k,hk with
 | 0,_=>exact⟨(2,3),by decide,h 0⟩
 | 1,_=>exact⟨(3,4),by decide,h 2⟩
 | 2,_=>exact⟨(4,6),by decide,h 4⟩
 | 3,_=>exact⟨(6,1),by decide,h 6⟩
 | 4,_=>exact⟨(2,5),by decide,h 8⟩
 | 5,_=>exact⟨(5,1),by decide,h 10⟩
theorem zqO{q:Nat×Nat}(h:q∈zaR):(1<=q.1/\q.1<7)/\1<=q.2/\q.2<7:=by
 simp only[zaR,UA,Qs,Gk] at h;rcases h with h | h | h | h | h | h <;> subst h <;> decide
section
variable{w:Wd}{B:Nat}{pc:List Value}{p:Prg}{Lf:Nat->List FinV}{E:Nat}
structure OutsW (p:Prg) (Lf:Nat->List FinV) (E:Nat):Prop where
 e:E=0\/E=2\/E=5
 ok:zbp p=true↔E≠2
 pos:E=0->∀m,1<=m->m<=6->1<=(Lf m).length
 nil:E=2->∀m,(Lf m).length=0
 one:E=0->p.threads.length<=1->∀m,1<=m->m<=6->Lf m=Lf 1
 sub:∀q∈zaR,∀f∈Lf q.1,f∈Lf q.2
 len:∀m,(Lf m).length<=1000000
theorem zd4(hB:B<=w.heap.size)(hP:PrgX B w pc p)(hG:GlobE w)(hO:OutsW p Lf E)
  (hBy:∀(m:UInt8),1<=m.toNat->m.toNat<=6->∀X,Bw w X->Calls PG 13 #[.agg pc.toArray,u8 m,i64 (150:Nat)] X fun e Y=>(∃q c,e = .returned (.tuple #[.slice q (Lf m.toNat).length c,i64 E])/\OwnS zx 52 X.heap.size Y q c (Lf m.toNat))/\Bw X Y) :
  CB 4 #[.agg pc.toArray] w (.bool true):=by
 refine qA 101 [.agg pc.toArray] (.c .p (.s .p (.c .p (.c (.s .p (.b (.l (.s .p (.c (.b (.s .p (.c .p (.c .p .p)))) .p))))) (.c (.s .p (.b (.l (.s .p (.s .p (.c (.b (.c .p .p)) .p)))))) .p))))) Tryz.func4 ?_;obtain⟨L,hL⟩:=nm (w.heap.size);have ae:=hP.v.size;have aw:∀Y,Bw w Y->Calls PG 12 #[] Y fun e w'=>e = .returned (.bool true)/\Bw w w':=fun Y z=>cmo (zxx (hG.below z)) fun e U h=>⟨h.1,z.trans (h.2.mono z.size)⟩;refine⟨Unit,fun _=>⟨[(1,At0 L)],[]⟩,fun _ X=>X.heap[L]?=some (.cells pc.toArray 29 (0,0))/\Bw w X,⟨(),⟨.cons (by rw[hL];rfl) .nil,rfl⟩,by rw[hL];exact zt w _,(zba w _)⟩,?_⟩;rintro _ X ⟨r,ad⟩;refine⟨pc,ae,za r,hlt r,cmo (zvk (UL hB ad.size) (hP.below (ad.mono hB))) ?_⟩;rintro e Y ⟨⟨b,rfl⟩,j⟩;have z:=zst ad j;replace r:=zb j r;clear ad j;clear X
 cases b with
 | false =>
  refine brT (cmo (aw Y z) ?_);rintro e U ⟨rfl,ab⟩;exact⟨rfl,ab⟩
 | true =>
 refine brF ⟨Nat,fun M=>⟨[(1,At0 L),(3,At0 M)],[]⟩,fun M Z=>L<M/\w.heap.size<=M/\Z.heap[L]?=some (.cells pc.toArray 29 (0,0))/\Z.heap[M]?=some (.cells (lsC (fun _=>(none,0)) Lf 1).toArray 41 (0,0))/\Bw w Z,?_,?_⟩
 ·rw[zxZ];exact⟨Y.heap.size,(cvE rfl rfl),hlt r,z.size,qO _ r,zt Y _,z.alloc z.size _⟩
 clear r z;clear Y;rintro M Y ⟨a1,ay,r,t,j⟩;refine⟨Nat->OA×Nat,fun _=>⟨[(3,At0 M)],[]⟩,fun s Z=>Z.heap[M]?=some (.cells (lsC s Lf 7).toArray 41 (0,0))/\(∀i,1<=i->i<7->OwnS zx 52 (M+1) Z (s i).1 (s i).2 (Lf i))/\Bw w Z,?_,?_⟩
 ·refine⟨UInt8×(Nat->OA×Nat),fun s=>⟨[(1,At0 L),(3,At0 M),(4,u8 s.1)],[]⟩,fun s Z=>(1<=s.1.toNat/\s.1.toNat<=7)/\Z.heap[L]?=some (.cells pc.toArray 29 (0,0))/\Z.heap[M]?=some (.cells (lsC s.2 Lf s.1.toNat).toArray 41 (0,0))/\(∀i,1<=i->i<s.1.toNat->OwnS zx 52 (M+1) Z (s.2 i).1 (s.2 i).2 (Lf i))/\Bw w Z,fun s=>7-s.1.toNat,(1,fun _=>(none,0)),
   (cvE rfl rfl),⟨⟨UW _,by decide⟩,r,t,fun i y h2=>Gp (show i<1 from h2) (by omega),j⟩,?_⟩
  clear r t j;clear Y;rintro⟨m,s⟩ Y ⟨⟨aa,a0⟩,r,t,jO,j⟩;dsimp only at aa a0 r t jO ⊢;refine biE (fun hc=>?_) fun hc=>?_
  rotate_left
  ·have hc:¬((m.toNat:Nat):Int)<=6:=dF hc;have e:m.toNat=7:=by omega
   rw[e] at t jO;exact⟨s,(cvE rfl rfl),t,jO,j⟩
  have hc:((m.toNat:Nat):Int)<=6:=dT hc;have af:m.toNat<=6:=by omega
  have ao:=zrX af;refine⟨Nat->OA×Nat,fun _=>⟨[(1,At0 L),(3,At0 M),(4,u8 m)],[]⟩,fun s Z=>Z.heap[L]?=some (.cells pc.toArray 29 (0,0))/\Z.heap[M]?=some (.cells (lsC s Lf (m.toNat+1)).toArray 41 (0,0))/\(∀i,1<=i->i<m.toNat+1->OwnS zx 52 (M+1) Z (s i).1 (s i).2 (Lf i))/\Bw w Z,?_,?_⟩
  rotate_left
  ·rintro s2 Z ⟨r,t,jO,f⟩;exact⟨((m+1).toNat:Int),zrT m 1,(m+1,s2),(cvE rfl rfl),⟨⟨by show 1<=(m+1).toNat;omega,by show(m+1).toNat<=7;omega⟩,r,by show Z.heap[M]?=some (.cells (lsC s2 Lf (m+1).toNat).toArray _ (0,0));rw[ao];exact t,by show ∀i,1<=i->i<(m+1).toNat->_;rw[ao];exact jO,f⟩,by show 7-(m+1).toNat<7-m.toNat;omega⟩
  refine⟨Nat->OA×Nat,fun _=>⟨[(1,At0 L),(3,At0 M),(4,u8 m),(5,i64 E)],[]⟩,fun s Z=>Z.heap[L]?=some (.cells pc.toArray 29 (0,0))/\Z.heap[M]?=some (.cells (lsC s Lf (m.toNat+1)).toArray 41 (0,0))/\(∀i,1<=i->i<m.toNat+1->OwnS zx 52 (M+1) Z (s i).1 (s i).2 (Lf i))/\Bw w Z,?_,?_⟩
  ·refine⟨pc,ae,za r,hlt r,cmo (hBy m aa af Y j) ?_⟩;rintro e Z ⟨⟨q,c,rfl,hq⟩,f⟩;replace r:=zb f r;have lM:=hlt t;replace t:=zb f t;refine⟨m.toNat,rfl,by omega,?_⟩;refine zm k40 t (o:=0+m.toNat*1) (v := .slice q (Lf m.toNat).length c) rfl rfl (by rw[zlg];omega) rfl fun U fU gU sU=>?_;have eo:0+m.toNat*1=m.toNat:=by omega
   rw[eo,zu2 aa (by omega)] at fU;have aq:=zst j f;have ne:∀{o:OA} {d:Nat} {l:List FinV},OwnS zx 52 (M+1) Z o d l->OwnS zx 52 (M+1) U o d l:=fun{o d l} h=>h.kept gU fun g hg he=>by
    rcases h.inv with⟨y,_⟩ | ⟨g2,_,y,h2,_⟩
    ·rw[y] at hg;cases hg
    ·rw[y] at hg;simp only[KY,Ur,Gh] at hg he;omega
   refine⟨fun i=>if i=m.toNat then(q,c) else s i,(cvE rfl rfl),(gU.block L (hlt r) (by simp;omega)).trans r,fU,fun i y h2=>?_,aq.trans (zl gU aq.size ay)⟩;dsimp only;by_cases e:i=m.toNat
   ·rw[Gn e,e];exact ne (hq.lower (by omega))
   ·rw[Gm e];exact ne ((jO i y (by omega)).below f)
  clear r t jO j;clear Y;clear s;rintro s Y ⟨r,t,jO,j⟩;refine⟨Unit,fun _=>⟨[(1,At0 L),(3,At0 M),(4,u8 m)],[]⟩,fun _ Z=>E=0/\Z.heap[L]?=some (.cells pc.toArray 29 (0,0))/\Z.heap[M]?=some (.cells (lsC s Lf (m.toNat+1)).toArray 41 (0,0))/\(∀i,1<=i->i<m.toNat+1->OwnS zx 52 (M+1) Z (s i).1 (s i).2 (Lf i))/\Bw w Z,?_,?_⟩
  ·have az:=hO.e;have ap:=hO.ok;have an:=hO.nil;have right:Calls PG 14 #[.agg pc.toArray] Y fun e w'=>∃n:Int,e = .returned (i64 n)/\(n=0↔zbp p=true)/\Bw Y w':=zga (UL hB j.size) (hP.v.below (j.mono hB)) (hG.c.below j);rcases az with rfl | rfl | rfl
   ·
    refine brF ⟨pc,ae,za r,hlt r,cmo right ?_⟩;rintro e Z ⟨n,rfl,hn,f⟩;have ai:n=0:=hn.2 (ap.2 (by decide));subst ai;exact⟨_,fun w=>zj3 _ _ true true w,brF (brF (brF (brF ⟨(),(cvE rfl rfl),rfl,zb f r,zb f t,fun i y h2=>(jO i y h2).below f,(zst j f)⟩)))⟩
   ·
    refine brF ⟨pc,ae,za r,hlt r,cmo right ?_⟩;rintro e Z ⟨n,rfl,hn,f⟩;have ai:¬n=0:=fun h=>ap.1 (hn.1 h) rfl;replace t:=zb f t;refine⟨_,fun w=>zj3 _ _ false (decide (n=0)) w,?_⟩;rw[Ue ai];refine brF (brT (brF ⟨m.toNat,rfl,by omega,?_⟩));refine⟨.slice (s m.toNat).1 (Lf m.toNat).length (s m.toNat).2,by
     have:=zc (za t) (zoj (s:=s) (L:=Lf) aa (Qx m.toNat) (by omega));rw[UX];exact this,?_⟩
    rw[an rfl];exact brF (brT ⟨s,(cvE rfl rfl),zb f r,t,fun i y h2=>(jO i y h2).below f,(zst j f)⟩)
   ·
    refine brT (cmo (aw Y j) ?_);rintro e U ⟨rfl,ab⟩;exact⟨rfl,ab⟩
  clear r t jO j;clear Y;rintro _ Y ⟨ax,r,t,jO,j⟩;subst ax;have bd:Bw Y Y.drew:=(Gb _ Y).drew;replace r:=zb bd r;replace t:=zb bd t;replace jO:=fun i y h2=>(jO i y h2).below bd;replace j:=zst j bd;have hl:=hO.pos rfl m.toNat aa af;have u:∀i,1<=i->i<m.toNat+1->Y.drew.cell? ⟨M,0+i*1,none⟩=some (.slice (s i).1 (Lf i).length (s i).2):=fun i y h2=>by
   have:=zc (za t) (zoj (s:=s) (L:=Lf) y h2 (by omega));rw[UX];exact this
  obtain⟨p3,c3,h3,_⟩:=(hP.below (j.mono hB)).th;have av:Y.drew.cell? ⟨L,0+3,none⟩=some (.slice p3 p.threads.length c3):=zc (za r) (i:=3) (by simpa using h3);refine DrawE.ord [] [0,1,2,3,4,5,6,7,8,9,10,11,12,13,14,15,16,17,18,19,20,21,22,23] (by kernel_rfl) ⟨m.toNat,rfl,by omega,?_⟩;refine⟨_,u m.toNat aa (Qx _),brN (Ue (by omega)) ⟨_,av,biE (fun y=>?_) fun y=>?_⟩⟩
  ·have y:(p.threads.length:Int)=1:=dT y;refine biE (fun h2=>?_) fun h2=>?_
   ·refine⟨m.toNat,rfl,by omega,?_⟩;refine⟨_,u m.toNat aa (Qx _),1,rfl,by decide,?_⟩;refine⟨_,u 1 (UW _) (by omega),cmo (zjq (jO m.toNat aa (Qx _)).row (jO 1 (UW _) (by omega)).row (hO.len _)) ?_⟩;rintro e Z ⟨rfl,f⟩;refine⟨f,?_⟩;rw[Up (hO.one rfl (by omega) m.toNat aa af)];exact brF ⟨s,(cvE rfl rfl),zb f r,zb f t,fun i y h2=>(jO i y h2).below f,(zst j f)⟩
   ·exact brF ⟨s,(cvE rfl rfl),r,t,jO,j⟩
  ·exact brF (brF ⟨s,(cvE rfl rfl),r,t,jO,j⟩)
 clear r t j;clear Y;rintro s Y ⟨t,jO,j⟩;refine⟨Unit,fun _=>⟨[],[]⟩,fun _ Z=>Bw w Z,?_,?_⟩
 ·refine⟨[u8 2,u8 3],by kernel_rfl,?_⟩;refine⟨[u8 3,u8 4],by kernel_rfl,?_⟩;refine⟨[u8 4,u8 6],by kernel_rfl,?_⟩;refine⟨[u8 6,u8 1],by kernel_rfl,?_⟩;refine⟨[u8 2,u8 5],by kernel_rfl,?_⟩;refine⟨[u8 5,u8 1],by kernel_rfl,?_⟩;refine⟨⟨by decide,by decide,rfl⟩,zn7,by kernel_rfl,?_⟩;have fP:=zt Y (.cells zn7.toArray 46);have b1:Bw Y (Y.alloc (.cells zn7.toArray 46)):=zba _ _;refine⟨Nat,fun k=>⟨[(3,At0 M),(83,.slice (some ⟨Y.heap.size,0,none⟩) 6 6),(84,i64 6),(85,i64 (k:Nat))],[]⟩,fun k Z=>k<=6/\Z.heap[Y.heap.size]?=some (.cells zn7.toArray 46 (0,0))/\Bw Y Z,fun k=>6-k,0,
   (cvE rfl rfl),⟨UZ _,fP,b1⟩,?_⟩
  clear fP b1;rintro k Z ⟨hk,fP,f⟩;have ar:=zst j f;refine biE (fun hc=>?_) fun hc=>?_
  rotate_left
  ·exact⟨(),⟨.nil,rfl⟩,ar⟩
  have ak:k<6:=by have:=dT hc;omega
  refine⟨Unit,fun _=>⟨[(3,At0 M),(83,.slice (some ⟨Y.heap.size,0,none⟩) 6 6),(84,i64 6),(85,i64 (k:Nat))],[]⟩,fun _ T=>T.heap[Y.heap.size]?=some (.cells zn7.toArray 46 (0,0))/\Bw Y T,?_,?_⟩
  rotate_left
  ·rintro _ T ⟨fP,ac⟩;exact nxI (by omega) ⟨k+1,(cvE rfl rfl),⟨ak,fP,ac⟩,zdc (by omega)⟩
  obtain⟨⟨a,b⟩,hq,ag⟩:=zwN (za fP) ak;dsimp only at hq ag;obtain⟨⟨am,ah⟩,al,aj⟩:=zqO hq;refine⟨Nat,fun x=>⟨[(3,At0 M),(7,At0 x),(83,.slice (some ⟨Y.heap.size,0,none⟩) 6 6),(84,i64 6),(85,i64 (k:Nat))],[]⟩,fun x T=>T.heap[x]?=some (.cells #[u8 a,u8 b] 46 (0,0))/\T.heap[Y.heap.size]?=some (.cells zn7.toArray 46 (0,0))/\Bw Y T,?_,?_⟩
  ·exact⟨k,rfl,ak,[u8 a,u8 b],rfl,ag,hlt fP,zo (X:=Z) (v := .agg #[u8 a,u8 b]) k46 rfl rfl rfl fun U ab fU sU=>⟨Z.heap.size,(cvE rfl rfl),fU,zb ab fP,(zst f ab)⟩⟩
  clear ag fP f ar;clear Z;rintro x Z ⟨fx,fP,f⟩;have bd:Bw Z Z.drew:=(Gb _ Z).drew;replace fx:=zb bd fx;replace fP:=zb bd fP;replace f:=zst f bd;have au:=zb f t;have u:∀i,1<=i->i<7->Z.drew.cell? ⟨M,0+i*1,none⟩=some (.slice (s i).1 (Lf i).length (s i).2):=fun i y h2=>by
   have:=zc (za au) (zoj (s:=s) (L:=Lf) y h2 h2);rw[UX];exact this
  refine DrawE.ord [] [0,1,2,3,4,5,6,7,8,9] (by kernel_rfl) ⟨0,rfl,by decide,?_⟩;refine⟨_,zc (za fx) (i:=0) rfl,a.toNat,rfl,ah,_,u a.toNat am ah,1,rfl,by decide,?_⟩;refine⟨_,zc (za fx) (i:=1) rfl,b.toNat,rfl,aj,_,u b.toNat al aj,cmo (zrS ((jO a.toNat am ah).below f).row ((jO b.toNat al aj).below f).row (hO.len _) (hO.len _) (hO.sub _ hq)) ?_⟩;rintro e T ⟨rfl,ac⟩;exact⟨ac,brF ⟨(),(cvE rfl rfl),zb ac fP,(zst f ac)⟩⟩
 clear t jO j;clear Y;rintro _ Y j;refine cmo (aw Y j) ?_;rintro e U ⟨rfl,ab⟩;exact⟨rfl,ab⟩
theorem zhl(hB:B<=w.heap.size)(hP:PrgX B w pc p)(hG:GlobE w) :
  CB 4 #[.agg pc.toArray] w (.bool true):=by
 have i:∀{X:Wd},Bw w X->B<=X.heap.size/\PrgX B X pc p/\GlobE X:=fun{X} h=>⟨UL hB h.size,hP.below (h.mono hB),hG.below h⟩
 cases hok:zbp p with
 | false =>
  refine zd4 (Lf:=fun _=>[]) (E:=2) hB hP hG ⟨.inr (.inl rfl),(by rw[hok];decide),fun h=>(by cases h),fun _ _=>rfl,fun h=>(by cases h),fun q _ f s=>s,fun _=>UZ _⟩ fun m d b X n=>?_;obtain⟨l,j,k3⟩:=i n;refine cmo (zyn (most:=150) (m:=m) l j k3 hok ⟨d,b⟩ (by decide)) ?_;rintro e Y ⟨rfl,a⟩;exact⟨⟨none,0,rfl,OwnS.nil⟩,a⟩
 | true =>
  have o:=zhG hok;by_cases t:∃V,zas p V 150
  ·obtain⟨V,k⟩:=t;refine zd4 (Lf:=zk8 p V) (E:=0) hB hP hG ⟨.inl rfl,(by rw[hok];decide),fun _ m d b=>zsC o k (by decide) d b,fun h=>(by cases h),fun _ v m d b=>zsD o k (by decide) v d b,fun q x=>zsB o x,zsE o k (by decide)⟩ fun m d b X n=>?_;obtain⟨l,j,k3⟩:=i n;refine cmo (zuk (most:=150) (m:=m) l j k3 hok ⟨d,b⟩ (by decide)) ?_;rintro e Y ⟨(⟨V2,g,q,c,rfl,u⟩ | ⟨r,_⟩),a⟩
   ·have e:V2=V:=by
     have:=g.1;rw[k.1] at this;exact(Uc this).symm
    subst e;exact⟨⟨q,c,rfl,u⟩,a⟩
   ·exact Gp k (r _)
  ·refine zd4 (Lf:=fun _=>[]) (E:=5) hB hP hG ⟨.inr (.inr rfl),(by rw[hok];decide),fun h=>(by cases h),fun h=>(by cases h),fun h=>(by cases h),fun q _ f s=>s,fun _=>UZ _⟩ fun m d b X n=>?_;obtain⟨l,j,k3⟩:=i n;refine cmo (zuk (most:=150) (m:=m) l j k3 hok ⟨d,b⟩ (by decide)) ?_;rintro e Y ⟨(⟨V2,g,_⟩ | ⟨_,rfl⟩),a⟩
   ·exact Gp ⟨V2,g⟩ t
   ·exact⟨⟨none,0,rfl,OwnS.nil⟩,a⟩
end
end Go.Proofs.YtakcdebpklffiaaGreatDoor
namespace Go.Proofs.YtakcdebpklffiaaGreatDoor
open Go.Vc Go.RowKit Go.Sei
open Go.ChangeShapes Go.WideShapes Go.ChangeAt
section
variable{H:Type}{enc:TypeId×Value->H}{P:Program}{w:Wd}{base:Nat}{spare:Nat->Bool}{held:Bool}{fuel:Nat}{t:TypeId}{cs:List Value}{x:DataW H×List MemPlace}
theorem zpv(ht:P.underlying t=some (.int .u8))(h:DataW.trod enc P w base spare held fuel t cs=some x):∃b:UInt8,cs=[u8 b]/\x.1 = .lit (.int .u8 b.toNat):=by
 obtain⟨n,rfl,rfl,a⟩:=DataW.trod_int ht h;have c:=bounds_u8 a;have e:((UInt8.ofNat n.toNat).toNat:Int)=n:=by
  rw[KH];omega
 exact⟨UInt8.ofNat n.toNat,by rw[u8,e],by rw[e]⟩
theorem ziD{n:Nat}{e:TypeId}(ht:P.underlying t=some (.array n e))(he:P.underlying e=some (.int .u8))(hc:P.cellsOf e=1)(hn:P.cellsOf t=n)
  (h:DataW.trod enc P w base spare held fuel t cs=some x):∃bs:List UInt8,bs.length=n/\cs=bs.map u8/\x.1 = .agg (bs.map fun b => .lit (.int .u8 b.toNat)):=by
 obtain⟨o,m,rfl,rfl,s,v,p⟩:=DataW.trod_array ht h;rw[hn] at s;have g:∀i (h:i<n),∃b:UInt8,cs[i]?=some (u8 b)/\o[i]?.map (·.1)=some (.lit (.int .u8 b.toNat)):=fun i r=>by
  have c:=p i r;rw[hc,gE (by omega)] at c;obtain⟨b,a,d⟩:=zpv he c;refine⟨b,?_,by rw[gE (by omega),Ub,d]⟩;have:((cs.drop (i*1)).take 1)[0]?=some (u8 b):=by rw[a];rfl
  simpa using this
 have:∀k,k<=n->∃bs:List UInt8,bs.length=k/\cs.take k=bs.map u8/\(o.take k).map (·.1)=bs.map fun b => .lit (.int .u8 b.toNat):=by
  intro k
  induction k with
  | zero=>exact fun _=>⟨[],rfl,by simp,by simp⟩
  | succ k ih =>
   intro u;obtain⟨bs,c,a,d⟩:=ih (by omega);obtain⟨b,q,l⟩:=g k (by omega);have j:k<cs.length:=by omega
   have f:k<o.length:=by omega
   rw[gE j] at q;rw[gE f] at l;refine⟨bs++[b],by simp[c],?_,?_⟩
   ·rw[tsg j,a,Uc q];simp
   ·rw[tsg f,QM,d];simp at l;simp[l]
 obtain⟨bs,c,a,d⟩:=this n (UW _);rw[JE (by omega)] at a d;exact⟨bs,c,a,by rw[<- d]⟩
end
theorem zbL:Tryz.prog.cellsOf 5=1:=by kernel_rfl
theorem zxs:Tryz.prog.cellsOf 4=1:=by kernel_rfl
theorem znw(b o i:Nat):(⟨b,o,none⟩:Addr).add i=⟨b,o+i,none⟩:=by
 unfold Addr.add;by_cases h:i=0
 ·simp[h]
 ·simp[h]
section
variable{w:Wd}{base:Nat}{cs:List Value}
theorem zlz{a:Addr}{n:Nat}(hn:0<n)(h:w.cells? base a n=some cs):a.spot=none/\a.block<w.heap.size/\zI w ⟨a.block,a.off,none⟩ cs:=by
 obtain⟨_,k,g⟩:=World.cells?_some h;have c:=g 0 hn;rw[gE (by omega)] at c;have f:a.spot=none:=by simpa [Addr.add] using World.cell?_spot c
 obtain⟨b,o,s⟩:=a;dsimp only at f;subst f;refine⟨rfl,Jy _ _ c,zaD fun i v d=>?_⟩;have j:i<n:=by have:=(Jr.1 d).1;omega
 have:=(g i j).trans d;rw[znw] at this;exact this
end
theorem zsh:ownKnob Tryz.prog.godebug=none:=by kernel_rfl
theorem zkS:laidOutB PG=true:=by kernel_rfl
section
variable{H:Type}{enc:TypeId×Value->H}{P:Program}{w:Wd}{base:Nat}{spare:Nat->Bool}{held:Bool}{fuel:Nat}{t e:TypeId}{cs:List Value}{x:DataW H×List MemPlace}
def Opens (enc:TypeId×Value->H) (P:Program) (w:Wd) (base:Nat) (spare:Nat->Bool) (held:Bool) (t:TypeId) (R:List Value->Prop):Prop :=
 ∀fuel cs x,DataW.trod enc P w base spare held fuel t cs=some x->R cs
theorem Opens.field{fs:Array Field}{R:List Value->Prop}{i:Nat}{f:Field}{n:Nat}{xs:List (DataW H×List MemPlace)}{m:Nat}(hel:∀(i:Nat) (f:Field),fs[i]?=some f->DataW.trod enc P w base spare held m f.type ((cs.drop f.offset).take (P.cellsOf f.type))=xs[i]?)
  (hl:xs.length=fs.size) (hi:fs[i]?=some f) {o:Nat} (hoo:f.offset=o) (hn:P.cellsOf f.type=n) (ho:Opens enc P w base spare held f.type R):R ((cs.drop o).take n):=by
 subst hoo;have a:=hel i f hi;have:i<fs.size:=(Jk.1 hi).1;rw[gE (by omega),hn] at a;exact ho _ _ _ a
theorem j3(ht:P.underlying t=some (.int .u8)):Opens enc P w base spare held t fun cs=>∃b:UInt8,cs=[u8 b]:=fun fuel cs x h=>by
 obtain⟨b,h,_⟩:=zpv ht h;exact⟨b,h⟩
theorem zoe(ht:P.underlying t=some .bool):Opens enc P w base spare held t fun cs=>∃b:Bool,cs=[.bool b]:=fun fuel cs x h=>by
 obtain⟨b,h,_⟩:=DataW.trod_bool ht h;exact⟨b,h⟩
theorem zu4{β:Type}{n:Nat}(i0:β){Q:Nat->β->Prop}(h:∀i,i<n->∃b,Q i b):∃bs:List β,bs.length=n/\∀i (hi:i<bs.length),Q i bs[i]:=by
 have d:∀i,∃b,i<n->Q i b:=fun i=>by
  by_cases hi:i<n
  ·obtain⟨b,a⟩:=h i hi;exact⟨b,fun _=>a⟩
  ·exact⟨i0,fun h=>Gp h hi⟩
 obtain⟨g,c⟩:=Classical.axiomOfChoice d;refine⟨(List.range n).map g,by simp,fun i hi=>?_⟩;simp only[Qn,Kz];exact c i (by simpa using hi)
theorem cut(cs:List Value)(o n o':Nat)(h:o+n=o'):cs.drop o=(cs.drop o).take n++cs.drop o':=by
 rw[<- h,<- Uh,JO]
end
theorem cC(t n:Nat)(h:Tryz.prog.cellsOf t=n):Tryz.prog.cellsOf t=n:=h
theorem zfy{H:Type}{enc:TypeId×Value->H}{a:Assume}{C:Checked}{os:Os}{f:FuncId}{fn:Func}{s:ChangeSpec}{conds:List PathCond}{apart fresh handsOn again:Bool}{X:Wd->Array Value->Prop}
  (hX:∀(w w':Wd) (args:Array Value),w.heap=w'.heap->X w args->X w' args)
  (own:ownKnob C.prog.godebug=none) (started:os.Started) (noInit:C.prog.inits.idxOf? f=none) (hfn:C.prog.funcs[f]?=some fn)
  (witness:∃(w:Wd) (tape:Tape) (i:Input),w.os=os/\(w.forCall tape i).Shaped C.prog/\i.vars=[]/\Input.okWide C.prog (w.forCall tape i) .any w.heap.size f i /\
   ((s.pre enc C.prog fn conds apart (w.forCall tape i).memory i.args/\X (w.forCall tape i).memory i.args)/\sizedMet enc C.prog fn (OpenSpec.ofChange s) apart (w.forCall tape i).memory i.args)/\a.holds C.prog (lone (Frame.enter C.prog f i.args .normal) [] (w.forCall tape i)))
  (contract:∀(W:Wd) (base:Nat) (args:Array Value) (ds gs:List (DataW H)) (before:List MemPlace),
   (∀(j:Nat) t v,fn.params[j]?=some t->args[j]?=some v->Value.okWide C.prog W .any base t v) ->
   DataW.Whole enc C.prog fn.params.toList s.vars apart W args.toList ds gs before->X W args->W.ShapedOpen C.prog ->
   (∃ds gs before,DataW.Whole enc C.prog fn.params.toList (OpenSpec.ofChange s).vars apart W args.toList ds gs before/\∀n∈DataW.weightsEach C.prog (fn.params.toList++(OpenSpec.ofChange s).bare.plain.varTypes C.prog) (ds++gs),n<=reachBytes) ->
   Calls C.prog f args W fun e W'=>∃v,e = .returned v/\s.post enc C.prog fn apart fresh handsOn again W args v W') :
  ReturnsInHanded a C os f .any (fun w args=>(s.pre enc C.prog fn conds apart w args/\X w args)/\sizedMet enc C.prog fn (OpenSpec.ofChange s) apart w args) (s.post enc C.prog fn apart fresh handsOn again):=by
 refine returnsInHanded_of_calls own started noInit witness ?_;intro w tape i _ m _ r c k;obtain⟨_,_,_,q,g,_,_,_,_,d⟩:=r;have e:q=fn:=Uc (g.symm.trans hfn);subst e;obtain⟨⟨⟨ds,gs,before,hw,hc⟩,hx⟩,hz⟩:=c;have u:=DataW.Whole.of_heap (w':=w.forCall tape i) (by rfl) hw;obtain⟨_,p,o,b,l,h⟩:=hz;refine(contract (w.forCall tape i) w.heap.size i.args ds gs before d u (hX _ _ _ (by rfl) hx) m ⟨p,o,b,DataW.Whole.of_heap (w':=w.forCall tape i) (by rfl) l,fun n z=>dT (Qg.1 h n z)⟩).mono fun e W' ⟨v,y,hp⟩=>?_;subst y;exact ChangeSpec.post_blind hp
section
variable{H:Type}{enc:TypeId×Value->H}{P:Program}{w:Wd}{base:Nat}{spare:Nat->Bool}{held:Bool}{fuel:Nat}{t:TypeId}{cs:List Value}{x:DataW H×List MemPlace}
def Wgt (P:Program) (t:TypeId) (d:DataW H):Prop:=∀n∈d.weights P t,n<=reachBytes
theorem zup{ds:List (DataW H)}{e:TypeId}(h:∀n∈DataW.weightsAll P e ds,n<=reachBytes):∀d∈ds,Wgt P e d:=by
 induction ds with
 | nil=>intro d b;cases b
 | cons a r ih =>
  intro d b;simp only[DataW.weightsAll,QN] at h;rcases UA.1 b with rfl | b
  ·exact fun n c=>h n (.inl c)
  ·exact ih (fun n c=>h n (.inr c)) d b
end
theorem ziL{H:Type}:∀{a b:List UInt8},a.map (fun b=>(DataW.lit (.int .u8 b.toNat):DataW H))=b.map (fun b=>DataW.lit (.int .u8 b.toNat))->a=b
 | [],[],_=>rfl
 | [],_::_,h=>by cases h
 | _::_,[],h=>by cases h
 | x::a,y::b,h=>by
  simp only[Uz,QH,DataW.lit.injEq,Lit.int.injEq,true_and] at h;rw[ziL h.2,Ud.1 (by omega:x.toNat=y.toNat)]
section
variable{H:Type}{enc:TypeId×Value->H}{P:Program}{w:Wd}{base:Nat}{spare:Nat->Bool}{held:Bool}{fuel F:Nat}{t e:TypeId}{cs:List Value}{x:DataW H×List MemPlace}
def OpensW (enc:TypeId×Value->H) (P:Program) (w:Wd) (base:Nat) (spare:Nat->Bool) (held:Bool) (F:Nat) (t:TypeId) (R:List Value->Prop):Prop :=
 ∀n,n<F->∀cs x,DataW.trod enc P w base spare held n t cs=some x->Wgt P t x.1->R cs
theorem zbE{R:List Value->Prop}(h:Opens enc P w base spare held t R):OpensW enc P w base spare held F t R:=fun n _ cs x a _=>h n cs x a
theorem OpensW.field{fs:Array Field}{R:List Value->Prop}(ht:P.underlying t=some (.struct fs))(h:DataW.trod enc P w base spare held fuel t cs=some x)(hw:Wgt P t x.1)(hF:fuel<=F){i:Nat}{f:Field}(hf:fs[i]?=some f){T o k:Nat}(hT:f.type=T)(hO:f.offset=o)(hk:P.cellsOf T=k)
  (ho:OpensW enc P w base spare held F T R):R ((cs.drop o).take k):=by
 subst hT hO hk;obtain⟨c,n,rfl,rfl,q,l,a⟩:=KJ ht h;have g:=a i f hf;have b:i<c.length:=by rw[l];exact(Jk.1 hf).1
 rw[gE b] at g;refine ho n (by omega) _ _ g fun m p=>hw m ?_;simp only[DataW.weights,ht];refine DataW.weights_mem_each (j:=i) (t:=f.type) (d:=c[i].1) ?_ ?_ m p
 ·rw[KT];have:fs.toList[i]?=some f:=by simpa using hf
  rw[this];rfl
 ·rw[KT,gE b];rfl
theorem ziB(ht:P.underlying t=some .string):OpensW enc P w base spare held F t fun cs=>∃s:List UInt8,s.length<=140737488351232/\cs=[qH s]:=fun n _ cs x h a=>by
 obtain⟨s,rfl,rfl,_⟩:=DataW.trod_string ht h;refine⟨s.data.toList,a _ (by simp[DataW.weights]),?_⟩;unfold qH bs;rw[Array.toArray_toList]
theorem zda{β:Type}(i0:β){f:β->List Value}{Q:β->Prop}{sz:Nat}(hp:0<sz)(ht:P.underlying t=some (.slice e))(hc:P.cellsOf e=sz)(hb:Nat.ble 1 (P.bytesOf e)=true)(ho:OpensW enc P w base spare held F e fun cs=>∃b,Q b/\cs=f b) :
  OpensW enc P w base spare held (F+1) t fun cs=>∃(p:OA) (cap:Nat) (l:List β),cs=[.slice p l.length cap]/\(l.length<=140737488351232/\l.length*P.bytesOf e<=140737488351232)/\l.length<=cap/\(∀b∈l,Q b)/\∃b o,(l.length=0\/p=some ⟨b,o,none⟩)/\∀i (hi:i<l.length),b<w.heap.size/\zI w ⟨b,o+i*sz,none⟩ (f l[i]):=fun n hn cs x h hw=>by
 rcases DataW.trod_slice ht h with⟨rfl,_⟩ | ⟨a,len,cap,c,qM,n,rfl,rfl,hx,_,aa,ab,k,u,_,_⟩
 ·exact⟨none,0,[],rfl,⟨by simp,by simp⟩,by simp,by simp,0,0,.inl rfl,fun i hi=>by simp at hi⟩
 ·subst hx;have r:∀m,m∈((c.map (·.1)).length+(qM.map (·.1)).length)*P.bytesOf e::(DataW.weightsAll P e (c.map (·.1))++DataW.weightsAll P e (qM.map (·.1)))->m<=reachBytes:=fun m y=>by
   refine hw m ?_;simp only[DataW.weights,ht];exact y
  have hb:=JQ hb;have v:len<=140737488351232/\len*P.bytesOf e<=140737488351232:=by
   have g:=r _ KA;simp only[QJ] at g;have:c.length*1<=(c.length+qM.length)*P.bytesOf e:=Un (Qv _ _) hb;have j:c.length*P.bytesOf e<=(c.length+qM.length)*P.bytesOf e:=Un (Qv _ _) (UW _);have hr:reachBytes=140737488351232:=rfl;rw[<- k];omega
  have q:∀i,i<len->∃m:β,Q m/\(a.add (i*sz)).spot=none/\(a.add (i*sz)).block<w.heap.size/\zI w ⟨(a.add (i*sz)).block,(a.add (i*sz)).off,none⟩ (f m):=fun i hi=>by
   have g:=u i hi;rw[hc,gE (by omega),Option.bind_eq_some_iff] at g;obtain⟨cs,j,h3⟩:=g;obtain⟨m,hq,rfl⟩:=ho n (by omega) _ _ h3 (zup (ds:=c.map (·.1)) (fun m y=>r m (JV _ (JU _ y))) _ (Km (gM _)));exact⟨m,hq,zlz hp j⟩
  obtain⟨l,g,j⟩:=zu4 i0 q;refine⟨some a,cap,l,by rw[g],by rw[g];exact v,by omega,fun b hb=>?_,a.block,a.off,?_,fun i hi=>?_⟩
  ·obtain⟨i,hi,rfl⟩:=Kj hb;exact(j i hi).1
  ·by_cases z:l.length=0
   ·exact .inl z
   ·right;have d:a.spot=none:=by
     have:=(j 0 (by omega)).2.1;simpa [Addr.add] using this
    obtain⟨b,o,s⟩:=a;dsimp only at d;subst d;rfl
  ·have d:a.spot=none:=by
    have:=(j 0 (by omega)).2.1;simpa [Addr.add] using this
   obtain⟨b,o,s⟩:=a;dsimp only at d;subst d;have:=(j i hi).2.2;rw[znw] at this;exact this
end
section
variable{H:Type}{enc:TypeId×Value->H}{P:Program}{w:Wd}{base:Nat}{spare:Nat->Bool}{held:Bool}{fuel F:Nat}{t e:TypeId}{cs:List Value}{x:DataW H×List MemPlace}
theorem zgo{α:Type}{E:Enc α}{p:OA}{l:List α}(h:∃b o,(l.length=0\/p=some ⟨b,o,none⟩)/\∀i (hi:i<l.length),b<w.heap.size/\zI w ⟨b,o+i*E.sz,none⟩ (E.enc l[i])):RowB E w.heap.size w p l:=by
 obtain⟨b,o,c,d⟩:=h;by_cases f:l=[]
 ·exact .inl f
 ·have a:0<l.length:=List.length_pos_iff.2 f;rcases c with c | rfl
  ·omega
  ·exact RowB.of_slr (.inr ⟨b,o,rfl,(d 0 a).1,fun i hi=>(d i hi).2⟩)
end
section
variable{H:Type}{enc:TypeId×Value->H}{w:Wd}{base:Nat}{spare:Nat->Bool}{held:Bool}{F:Nat}
theorem zjY:Opens enc PG w base spare held 66 fun cs=>∃(r:Bool) (n:UInt8),cs=[.bool r,u8 n]:=fun fuel cs x h=>by
 obtain⟨p,m,rfl,rfl,j,b,a⟩:=KJ Tryz.underlying66 h;rw[cC 66 2 (by kernel_rfl)] at j;obtain⟨g,f⟩:=Opens.field (o:=0) (i:=0) a b rfl rfl zxs (zoe Tryz.underlying4);obtain⟨k,l⟩:=Opens.field (o:=1) (i:=1) a b rfl rfl zbL (j3 Tryz.underlying5);refine⟨g,k,?_⟩;have c:cs=cs.drop 0:=rfl;have d:cs.drop 2=[]:=JA (by omega);rw[c,cut cs 0 1 1 rfl,cut cs 1 1 2 rfl,f,l,d];rfl
theorem zqR:Opens enc PG w base spare held 68 fun cs=>∃x:InsD,True/\cs=zU.enc x:=fun fuel cs x h=>by
 obtain⟨xs,m,rfl,rfl,y,b,a⟩:=KJ Tryz.underlying68 h;rw[cC 68 10 (by kernel_rfl)] at y;obtain⟨b0,v⟩:=Opens.field (o:=0) (i:=0) a b rfl rfl zbL (j3 Tryz.underlying5);obtain⟨b1,e1⟩:=Opens.field (o:=1) (i:=1) a b rfl rfl zbL (j3 Tryz.underlying5);obtain⟨f,z⟩:=Opens.field (o:=2) (i:=2) a b rfl rfl zbL (j3 Tryz.underlying5);obtain⟨c,n3,n⟩:=Opens.field (o:=3) (i:=3) a b rfl rfl (cC 66 2 (by kernel_rfl)) zjY;obtain⟨j,r,k⟩:=Opens.field (o:=5) (i:=4) a b rfl rfl (cC 66 2 (by kernel_rfl)) zjY;obtain⟨g,l⟩:=Opens.field (o:=7) (i:=5) a b rfl rfl zbL (j3 Tryz.underlying5);obtain⟨q,p⟩:=Opens.field (o:=8) (i:=6) a b rfl rfl zbL (j3 Tryz.underlying5);obtain⟨s,e7⟩:=Opens.field (o:=9) (i:=7) a b rfl rfl zbL (j3 Tryz.underlying5);refine⟨⟨b0,b1,f,c,n3,j,r,g,q,s⟩,trivial,?_⟩;have u:cs=cs.drop 0:=rfl;have d:cs.drop 10=[]:=JA (by omega);rw[u,cut cs 0 1 1 rfl,cut cs 1 1 2 rfl,cut cs 2 1 3 rfl,cut cs 3 2 5 rfl,cut cs 5 2 7 rfl,cut cs 7 1 8 rfl,cut cs 8 1 9 rfl,cut cs 9 1 10 rfl,v,e1,z,n,k,l,p,e7,d];rfl
theorem zof:OpensW enc PG w base spare held F 64 fun cs=>∃x:zoO,(x.1.length<=140737488351232/\RowB zU w.heap.size w x.2.1 x.1)/\cs=zr7.enc x:=fun n i cs x h b=>by
 obtain⟨p,a,l,d,c,_,_,g⟩:=zda (F:=n) (⟨0,0,0,false,0,false,0,0,0,0⟩:InsD) (f:=zU.enc) (Q:=fun _=>True) (sz:=10) (by decide) Tryz.underlying64 (by kernel_rfl) (by kernel_rfl) (zbE zqR) n (Qx n) cs x h b;exact⟨(l,p,a),⟨c.1,zgo g⟩,d⟩
theorem ziC:∀F,OpensW enc PG w base spare held F 27 fun cs=>∃x:Cnd×OA×Nat,KidsV w.heap.size w x.2.1 x.1.kids/\cs=zu x.1 x.2.1 x.2.2
 | 0=>fun n r=>Gp r (QX _)
 | F+1=>fun n r cs x h g=>by
  have ih:=ziC F;have c:n<=F+1:=by omega
  have k:cs.length=5:=by
   obtain⟨xs,m,_,_,k,_,_⟩:=KJ Tryz.underlying27 h;rw[cC 27 5 (by kernel_rfl)] at k;exact k
  obtain⟨b0,e0⟩:=OpensW.field (F:=F+1) (o:=0) (i:=0) Tryz.underlying27 h g c rfl rfl rfl zbL (zbE (j3 Tryz.underlying5));obtain⟨b1,e1⟩:=OpensW.field (F:=F+1) (o:=1) (i:=1) Tryz.underlying27 h g c rfl rfl rfl zbL (zbE (j3 Tryz.underlying5));obtain⟨u,e2⟩:=OpensW.field (F:=F+1) (o:=2) (i:=2) Tryz.underlying27 h g c rfl rfl rfl zbL (zbE (j3 Tryz.underlying5));obtain⟨b3,y⟩:=OpensW.field (F:=F+1) (o:=3) (i:=3) Tryz.underlying27 h g c rfl rfl rfl zbL (zbE (j3 Tryz.underlying5));obtain⟨p,q,l,v,j,_,z,b,o,hp,hc⟩:=OpensW.field (F:=F+1) (o:=4) (i:=4) Tryz.underlying27 h g c rfl rfl rfl (cC 25 1 (by kernel_rfl))
   (zda (F:=F) ((.mk 0 0 0 0 [],none,0):Cnd×OA×Nat) (f:=fun x=>zu x.1 x.2.1 x.2.2) (Q:=fun x=>KidsV w.heap.size w x.2.1 x.1.kids) (sz:=5) (by decide) Tryz.underlying25 (by kernel_rfl) (by kernel_rfl) ih)
  refine⟨(.mk b0 b1 u b3 (l.map (·.1)),p,q),?_,?_⟩
  ·refine .mk p (l.map (·.1)) (by rw[QJ];have:=j.2;rw[show Tryz.prog.bytesOf 27=32 by kernel_rfl] at this;exact this) b o (by rw[QJ];exact hp) (fun i=>(l.getD i (.mk 0 0 0 0 [],none,0)).2.1) (fun i=>(l.getD i (.mk 0 0 0 0 [],none,0)).2.2) (fun i d=>?_) (fun i d=>?_)
   ·have a:i<l.length:=(by rw[QJ] at d;exact d);have e:l.getD i (.mk 0 0 0 0 [],none,0)=l[i]:=(by rw[gDe,gE a];rfl);rw[e,Qn];exact hc i a
   ·have a:i<l.length:=(by rw[QJ] at d;exact d);have e:l.getD i (.mk 0 0 0 0 [],none,0)=l[i]:=(by rw[gDe,gE a];rfl);rw[e,Qn];exact z _ (gM a)
  ·have h0:cs=cs.drop 0:=rfl;have s:cs.drop 5=[]:=JA (by omega);rw[h0,cut cs 0 1 1 rfl,cut cs 1 1 2 rfl,cut cs 2 1 3 rfl,cut cs 3 1 4 rfl,cut cs 4 1 5 rfl,e0,e1,e2,y,v,s];simp[zu,Cnd.kind,Cnd.thread,Cnd.n,Cnd.val,Cnd.kids]
end
section
variable{H:Type}{enc:TypeId×Value->H}{w:Wd}{base:Nat}{spare:Nat->Bool}{held:Bool}{F:Nat}
theorem zmt:OpensW enc PG w base spare held F 29 fun cs=>∃p:Prg,PrgX w.heap.size w cs p/\∃p3 c3,cs[3]?=some (.slice p3 p.threads.length c3)/\p.threads.length<=c3:=fun n hn cs x h k=>by
 have j:n<=n+1:=Nat.le_succ n;have d:cs.length=10:=by
  obtain⟨xs,m,_,_,d,_,_⟩:=KJ Tryz.underlying29 h;rw[cC 29 10 (by kernel_rfl)] at d;exact d
 obtain⟨nm,k0,e0⟩:=OpensW.field (F:=n+1) (o:=0) (i:=0) Tryz.underlying29 h k j rfl rfl rfl (cC 9 1 (by kernel_rfl)) (ziB Tryz.underlying9);obtain⟨p1,c1,l1,e1,k1,v,q1,r1⟩:=OpensW.field (F:=n+1) (o:=1) (i:=1) Tryz.underlying29 h k j rfl rfl rfl (cC 22 1 (by kernel_rfl))
  (zda (F:=n) ([]:List UInt8) (f:=zgF.enc) (Q:=fun s=>s.length<=140737488351232) (sz:=1) (by decide) Tryz.underlying22 (by kernel_rfl) (by kernel_rfl) (ziB Tryz.underlying9))
 obtain⟨p2,c2,l2,e2,k2,ab,q2,r2⟩:=OpensW.field (F:=n+1) (o:=2) (i:=2) Tryz.underlying29 h k j rfl rfl rfl (cC 23 1 (by kernel_rfl))
  (zda (F:=n) (0:UInt8) (f:=zS.enc) (Q:=fun _=>True) (sz:=1) (by decide) Tryz.underlying23 zbL (by kernel_rfl) (zbE (fun r cs x h=>by
   obtain⟨b,y⟩:=j3 Tryz.underlying5 r cs x h;exact⟨b,trivial,y⟩)))
 obtain⟨p3,c3,t,e3,k3,aa,u,r3⟩:=OpensW.field (F:=n+1) (o:=3) (i:=3) Tryz.underlying29 h k j rfl rfl rfl (cC 24 1 (by kernel_rfl))
  (zda (F:=n) (([],none,0):zoO) (f:=zr7.enc) (Q:=fun x=>x.1.length<=140737488351232/\RowB zU w.heap.size w x.2.1 x.1) (sz:=1) (by decide) Tryz.underlying24 (by kernel_rfl) (by kernel_rfl) zof)
 obtain⟨b4,e4⟩:=OpensW.field (F:=n+1) (o:=4) (i:=4) Tryz.underlying29 h k j rfl rfl rfl zbL (zbE (j3 Tryz.underlying5));obtain⟨⟨c,p4,c4⟩,hk,e5⟩:=OpensW.field (F:=n+1) (o:=5) (i:=5) Tryz.underlying29 h k j rfl rfl rfl (cC 27 5 (by kernel_rfl)) (ziC (n+1));have q:cs[3]?=some (.slice p3 (t.map (·.1)).length c3):=by
  have:=Gi (fun l=>l[0]?) e3;simpa using this
 refine⟨⟨nm,l1,l2,t.map (·.1),b4,c⟩,⟨⟨⟨k0,k1.1,q1,k2.1,by rw[QJ];exact k3.1,fun l d=>?_⟩,p1,c1,p2,c2,p3,c3,p4,c4,?_,zgo r1,zgo r2,⟨t,rfl,zgo r3,fun x g=>(u x g).2⟩,hk,v⟩,⟨p3,c3,q,t,rfl,zgo r3,fun x g=>⟨(u x g).2,fun z a ha=>?_⟩⟩,⟨p2,c2,?_,zgo r2⟩⟩,p3,c3,q,by rw[QJ];exact aa⟩
 ·obtain⟨x,g,rfl⟩:=UI.1 d;exact(u x g).1
 ·have h0:cs=cs.drop 0:=rfl;have h9:cs.drop 10=[]:=JA (by omega);rw[h0,cut cs 0 1 1 rfl,cut cs 1 1 2 rfl,cut cs 2 1 3 rfl,cut cs 3 1 4 rfl,cut cs 4 1 5 rfl,cut cs 5 5 10 rfl,e0,e1,e2,e3,e4,e5,h9];simp[zaw,zu]
 ·have d:=List.length_pos_iff.2 z;obtain⟨b,o,e,y,_⟩:=zhD (u x g).2 d;rw[ha] at e;obtain rfl:=Uc e;exact y
 ·have:=Gi (fun l=>l[0]?) e2;simpa using this
theorem zqS{a:Array Value}{d:DataW H}{p:List MemPlace}(h:DataW.Trod enc PG w base spare held 29 (.agg a) d p)(hw:Wgt PG 29 d):∃p:Prg,PrgX w.heap.size w a.toList p/\∃p3 c3,a.toList[3]?=some (.slice p3 p.threads.length c3)/\p.threads.length<=c3:=by
 obtain⟨b,h⟩:=h;exact zmt (F:=b+1) b (Qx _) _ _ h hw
theorem zqT{a:Array Value}{d:DataW H}{p:List MemPlace}(h:DataW.Trod enc PG w base spare held 29 (.agg a) d p)(hw:Wgt PG 29 d):∃p:Prg,PrgX w.heap.size w a.toList p:=by
 obtain⟨p,h,_⟩:=zqS h hw;exact⟨p,h⟩
end
structure GlobV (W:Wd):Prop where
 t32:Tz32M W
 t64:Tz64M W
 pow:True
 needs:GlobC W
abbrev zbC : List (String × DataW Unit) := [("math/bits.deBruijn32tab", Rows.laid_math_bits_deBruijn32tab), ("math/bits.deBruijn64tab", Rows.laid_math_bits_deBruijn64tab), ("internal/strconv.uint64pow10", Rows.laid_internal_strconv_uint64pow10), ("seisin/check.needs", Rows.laid_seisin_check_needs)]
theorem zcT{W:Wd}(h:laidMetH PG zbC W)(hsh:W.ShapedOpen PG):GlobV W:=by
 have h0:laidMet PG zbC W:=h;have h1:=h0.tail;have h2:=h1.tail;have h3:=h2.tail;have t32:Tz32M W:=by
  obtain⟨ps,⟨g',t',cs,fuel,p,q,hg',ht',hv,hd,_,_⟩,_⟩:=h0
  obtain rfl := Uc ((show Tryz.prog.globalNamed "math/bits.deBruijn32tab" = some 8 by kernel_rfl).symm.trans hg')
  obtain rfl:=Uc ((show(Tryz.prog.globals[8]?).map (·.type)=some 399 by kernel_rfl).symm.trans ht');obtain⟨bs,h1,h2,h3⟩:=ziD Tryz.underlying399 Tryz.underlying5 (by kernel_rfl) (by kernel_rfl) hd;have hbs:bs=zjI:=by
   have e:(Rows.laid_math_bits_deBruijn32tab:DataW Unit) = .agg (zjI.map fun b => .lit (.int .u8 b.toNat)):=rfl;exact ziL (DataW.agg.inj (h3.symm.trans e))
  subst hbs;refine zaD fun i v hvv=>?_;have hc:=World.var?_cell hg' hv i;rw[<- hvv,<- h2];simpa using hc
 have t64:Tz64M W:=by
  obtain⟨ps,⟨g',t',cs,fuel,p,q,hg',ht',hv,hd,_,_⟩,_⟩:=h1
  obtain rfl := Uc ((show Tryz.prog.globalNamed "math/bits.deBruijn64tab" = some 7 by kernel_rfl).symm.trans hg')
  obtain rfl:=Uc ((show(Tryz.prog.globals[7]?).map (·.type)=some 393 by kernel_rfl).symm.trans ht');obtain⟨bs,h1,h2,h3⟩:=ziD Tryz.underlying393 Tryz.underlying5 (by kernel_rfl) (by kernel_rfl) hd;have hbs:bs=zjH:=by
   have e:(Rows.laid_math_bits_deBruijn64tab:DataW Unit) = .agg (zjH.map fun b => .lit (.int .u8 b.toNat)):=rfl;exact ziL (DataW.agg.inj (h3.symm.trans e))
  subst hbs;refine zaD fun i v hvv=>?_;have hc:=World.var?_cell hg' hv i;rw[<- hvv,<- h2];simpa using hc
 have pow:True:=trivial;have needs:GlobC W:=by
  obtain⟨ps,⟨g',t',cs,fuel,p,q,hg',ht',hv,hd,_,_⟩,_⟩:=h3
  obtain rfl := Uc ((show Tryz.prog.globalNamed "seisin/check.needs" = some 3 by kernel_rfl).symm.trans hg')
  obtain rfl:=Uc ((show(Tryz.prog.globals[3]?).map (·.type)=some 385 by kernel_rfl).symm.trans ht');obtain⟨bs,h1,h2,h3⟩:=ziD Tryz.underlying385 Tryz.underlying5 (by kernel_rfl) (by kernel_rfl) hd;have hbs:bs=zfI:=by
   match bs,h1 with
   | [b0,b1,b2,b3,b4,b5,b6,b7,b8],_ =>
    simp only[Rows.laid_seisin_check_needs,Uz,UG,DataW.agg.injEq,QH,DataW.lit.injEq,Lit.int.injEq,true_and,Gh] at h3;simp only[zfI,QH,Gh];obtain⟨a0,a1,a2,a3,a4,a5,a6,a7,a8⟩:=h3;refine⟨?_,?_,?_,?_,?_,?_,?_,?_,?_⟩ <;> (apply Ud.1;simp;omega)
  subst hbs;refine zaD fun i v hvv=>?_;have hc:=World.var?_cell hg' hv i;rw[<- hvv,<- h2];simpa using hc
 exact⟨t32,t64,pow,needs⟩
def zwk:DataW Unit->List Value
 | .lit (.int k n)=>[.int k n]
 | .lit (.string s)=>[.string ⟨s.toArray⟩]
 | _=>[]
def zwj:DataW Unit->List Value
 | .agg ps=>ps.flatMap zwk
 | x=>zwk x
def zpC:DataW Unit->List Value
 | .agg ps=>ps.flatMap zwj
 | x=>zwj x
def zo5 (h:Array Obj) (g:Nat) (cs:List Value):Array Obj:=h.modify g fun
 | .cells _ t frozen => .cells cs.toArray t frozen
 | o=>o
def zx0 (h:Array Obj):Array Obj :=
 let h1:=zo5 h 8 (zpC Rows.laid_math_bits_deBruijn32tab)
 let h2:=zo5 h1 7 (zpC Rows.laid_math_bits_deBruijn64tab)
 let h3:=zo5 h2 4 (zpC Rows.laid_internal_strconv_uint64pow10)
 zo5 h3 3 (zpC Rows.laid_seisin_check_needs)
noncomputable def ziP (os:Os):Wd :=
 { World.holding PG os ⟨#[],#[],[]⟩ with heap:=zx0 (World.holding PG os ⟨#[],#[],[]⟩).heap }
theorem ziO(os:Os)(args:Array Value):laidMetH PG zbC ((ziP os).forCall (fun _ _=>0) ⟨#[],args,[]⟩).memory:=by
 show laidMet PG zbC _;exact laidMet_of_run' 8 (by kernel_rfl) (by kernel_rfl)
end Go.Proofs.YtakcdebpklffiaaGreatDoor
