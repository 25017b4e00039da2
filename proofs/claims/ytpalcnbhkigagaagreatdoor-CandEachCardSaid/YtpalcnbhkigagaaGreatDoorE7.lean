/- Contracts of functions, and plain facts, for the law that the last text of this claim proves. -/
import Derived.Test.YtpalcnbhkigagaaGreatDoorE6
import Derived.Test.YtpalcnbhkigagaaGreatDoorE5
import Derived.Test.YtpalcnbhkigagaaGreatDoorE3
import Derived.Test.YtpalcnbhkigagaaGreatDoorE1
import Derived.Test.YtpalcnbhkigagaaGreatDoorRows
import Derived.ProofKit
import Derived.OpenShut
import Derived.LaidLaws
import Derived.Below
import Derived.HandedShaped
import Derived.KernelRfl
import Derived.WalkKit
import Derived.ChangeOld
import Derived.SevenTiedAt
import Derived.LaidHandle
import Derived.Stop.LaidErr
import Derived.Lib.LaidTab
import Derived.SizedLaws
import Derived.Test.YtpalcnbhkigagaaGreatDoorE2
import Derived.Test.YtpalcnbhkigagaaGreatDoorE4
set_option linter.unusedSimpArgs false
set_option linter.unusedVariables false
namespace Go.Proofs.YtpalcnbhkigagaaGreatDoor
open Go.Vc Go.RowKit Go.Sei
def jq (t:Nat) (l:List Ev):List Ev:=(l.filter fun e=>decide (e.th=(t:Int))).map fun e=>{ e with th:=0 }
theorem zim (t:Nat) (a b:List Ev):jq t (a++b)=jq t a++jq t b:=by
 unfold jq;rw [Kz,QU]
theorem zjm {t:Nat} {l:List Ev} (h:∀ e∈l,e.th≠(t:Int)):jq t l=[]:=by
 unfold jq;rw [JE.2 fun e he=>by simpa using h e he];rfl
theorem zrb {t k:Nat} {l:List Ev} (h:∀ e∈l,e.th=0):jq t (jK k l)=if k=t then l else []:=by
 by_cases e:k=t
 ·subst e;rw [Gs rfl];unfold jq jK;rw [List.filter_eq_self.2 fun a ha=>by
   obtain⟨b,_,rfl⟩:=UM.1 ha;exact Uv rfl,UK]
  conv=>rhs;rw [<- List.map_id l]
  refine Ko fun a ha=>?_;have:=h a ha
  cases a
  simp_all
 ·rw [Gr e];refine zjm fun a ha=>?_;obtain⟨b,_,rfl⟩:=UM.1 ha;show ((k:Nat):Int)≠(t:Nat);omega
theorem zjn (t:Nat):∀ (Ps:List PathD) (k:Nat),(∀ P∈Ps,∀ e∈P.ev,e.th=0)->jq t (zbB k Ps)=if k<=t then (match Ps[t-k]? with | some P=>P.ev | none=>[]) else []
 | [],k,_=>by
  have e:jq t (zbB k [])=[]:=rfl;rw [e]
  split <;> simp
 | P::Ps,k,h=>by
  show jq t (jK k P.ev++zbB (k+1) Ps)=_;rw [zim,zrb (h P KD),zjn t Ps (k+1) fun Q hQ=>h Q (JZ _ hQ)];by_cases e:k=t
  ·subst e;rw [Gs rfl,Gr (by omega),Gs (UZ _),UR,QN];rfl
  ·rw [Gr e,QX];by_cases h1:k<=t
   ·rw [Gs (by omega),Gs h1];obtain⟨d,hd⟩:∃ d,t-k=d+1:=⟨t-k-1,by omega⟩;rw [hd,show t-(k+1)=d by omega,Jy]
   ·rw [Gr (by omega),Gr h1]
theorem zjc:∀ (Ps:List PathD) (k:Nat) (x:ExD) (i:Nat),(asR k Ps x).regs i=if k<=i/8 then (match Ps[i/8-k]? with | some P=>P.regs (i%8) | none=>x.regs i) else x.regs i
 | [],k,x,i=>by
  show x.regs i=_
  split <;> simp
 | P::Ps,k,x,i=>by
  show (asR (k+1) Ps (za3 x k P)).regs i=_;rw [zjc Ps (k+1)];have e:(za3 x k P).regs i=if i/8=k then P.regs (i%8) else x.regs i:=rfl
  rw [e];by_cases h:i/8=k
  ·rw [Gr (by omega),Gs h,Gs (by omega),h,UR];rfl
  ·rw [Gr h];by_cases h1:k<=i/8
   ·rw [Gs (by omega),Gs h1];obtain⟨d,hd⟩:∃ d,i/8-k=d+1:=⟨i/8-k-1,by omega⟩;rw [hd,show i/8-(k+1)=d by omega,Jy]
   ·rw [Gr (by omega),Gr h1]
theorem zlB:∀ (Ts:List (List PathD)) (ds:List Nat),ds.length=Ts.length->(∀ (i n d:Nat),(Ts.map List.length)[i]?=some n->ds[i]?=some d->d<n) ->
  (jd Ts ds).length=Ts.length/\∀ (t:Nat) (T:List PathD) (d:Nat),Ts[t]?=some T->ds[t]?=some d->(jd Ts ds)[t]?=T[d]?
 | [],[],_,_=>⟨rfl,fun t T d h=>by simp at h⟩
 | [],d::ds,h,_=>by cases h
 | T::Ts,[],h,_=>by cases h
 | T::Ts,d::ds,h,hb=>by
  have hd:d<T.length:=hb 0 T.length d rfl rfl;obtain⟨h1,h2⟩:=zlB Ts ds (by simpa using h) fun i n d' a b=>hb (i+1) n d' a b;have e:jd (T::Ts) (d::ds)=T[d]::jd Ts ds:=by
   show (match T[d]? with | some P=>[P] | none=>[])++jd Ts ds=_;rw [gE hd];rfl
  rw [e];refine⟨by rw [Qw,Qw,h1],fun t U d' hU hd'=>?_⟩
  cases t with
  | zero =>
   have hU:=Ui hU;have hd':=Ui hd';subst hU hd';exact (gE hd).symm
  | succ t =>
   rw [Jy];exact h2 t U d' hU hd'
def zss (p:Prg) (V:List UInt8) (x:ExD):Prop:=∀ (t:Nat) (l:List InsD),p.threads[t]?=some l->∃ R∈qs l V,jq t x.ev=zgL R/\∀ j,j<8->x.regs (8*t+j)=R.regs j
section
variable {p:Prg} {V:List UInt8}
theorem zdj (hO:OkG p) {m:MixD} {ds:List Nat} (hds:ds∈z8 ((p.threads.map (zD V)).map List.length)) (hm:zgq p.init (jd (p.threads.map (zD V)) ds)=some m) :
  ChoiceW p.init (jd (p.threads.map (zD V)) ds) m/\ds.length=p.threads.length/\∀ (t:Nat) (l:List InsD),p.threads[t]?=some l->∃ d,ds[t]?=some d/\∃ R,(qs l V)[d]?=some R/\(jd (p.threads.map (zD V)) ds)[t]?=some (jC R)/\jq t m.base.ev=zgL R/\∀ j,j<8->m.base.regs (8*t+j)=R.regs j:=by
 obtain⟨h1,h2⟩:=zaV hds;rw [QR,QR] at h1;obtain⟨g1,g2⟩:=zlB (p.threads.map (zD V)) ds (by rw [QR];exact h1) h2;unfold zgq at hm
 split at hm
 case isFalse=>cases hm
 rename_i h48;have hm:=Ui hm;have hw:∀ P∈jd (p.threads.map (zD V)) ds,PathW p.init.length P:=fun P hP=>by
  obtain⟨T,hT,h2⟩:=zeQ _ _ _ hP;obtain⟨l,hl,rfl⟩:=UM.1 hT;exact zga hO hl h2
 have hC:ChoiceW p.init (jd (p.threads.map (zD V)) ds) m:=⟨hO.i1,hO.i6,by
  rw [g1,QR];have:=hO.t4;omega,hw,h48,hm.symm⟩
 refine⟨hC,h1,fun t l hl=>?_⟩;have ht:t<ds.length:=by rw [h1];exact (Jt.1 hl).1
 have hT:(p.threads.map (zD V))[t]?=some (zD V l):=by rw [KY,hl];rfl
 have hd:ds[t]?=some ds[t]:=gE ht;have hlt:ds[t]<(qs l V).length:=by
  have:=h2 t (zD V l).length ds[t] (by rw [KY,hT];rfl) hd;have e:(zD V l).length=(qs l V).length:=QR ..;omega
 have hR:(qs l V)[ds[t]]?=some (qs l V)[ds[t]]:=gE hlt;have hP:(jd (p.threads.map (zD V)) ds)[t]?=some (jC (qs l V)[ds[t]]):=by
  rw [g2 t _ _ hT hd];show ((qs l V).map jC)[ds[t]]?=_;rw [KY,hR];rfl
 have hth:∀ P∈jd (p.threads.map (zD V)) ds,∀ e∈P.ev,e.th=0:=fun P hP e he=>by
  obtain⟨q,hq⟩:=List.mem_iff_getElem?.1 he;exact ((hw P hP).ev q e hq).1
 refine⟨ds[t],hd,(qs l V)[ds[t]],hR,hP,?_,fun j hj=>?_⟩
 ·rw [hC.base,zbQ,zim,zjn t _ 0 hth,Gs (Gc _),US,hP,zjm,QX]
  ·rfl
  ·intro e he;obtain⟨i,hi,rfl⟩:=Km he;rw [z4] at hi;have:=zaO p.init 0 hi;rw [gE (by rw [z4];exact hi)] at this;rw [Ui this];show (-1:Int)≠(t:Nat);omega
 ·have e:m.base.regs=(asR 0 (jd (p.threads.map (zD V)) ds) { ex0 (za4 p.init.length (jd (p.threads.map (zD V)) ds)) with ev:=qB 0 p.init }).regs:=by rw [hC.base];rfl
  have e1:(8*t+j)/8=t:=by omega
  have e2:(8*t+j)%8=j:=by omega
  rw [e,zjc,e1,e2,Gs (Gc _),US,hP];rfl
theorem zk3 (hO:OkG p) {x:ExD} (hx:x∈qa p V):zss p V x:=by
 obtain⟨m,hm,hx⟩:=List.mem_flatMap.1 hx;unfold qA at hx
 split at hx
 ·cases hx
 ·obtain⟨ds,hds,he⟩:=List.mem_filterMap.1 hm;obtain⟨c,hc,rfl⟩:=UM.1 hx;obtain⟨_,_,h⟩:=zdj hO hds he;intro t l hl;obtain⟨d,_,R,h1,_,h2,h3⟩:=h t l hl;exact⟨R,Ka h1,h2,h3⟩
end
theorem zlZ:∀ (rs:List Nat) (j k:Nat),j<zR rs->k<zR rs->jX rs j=jX rs k->j=k
 | [],j,k,hj,hk,_=>by
  have hj:j<1:=hj;have hk:k<1:=hk;omega
 | n::ns,j,k,hj,hk,h=>by
  have hj:j<n*zR ns:=hj;have hk:k<n*zR ns:=hk;have h:j%n::jX ns (j/n)=k%n::jX ns (k/n):=h;rw [QO] at h;have:=zlZ ns (j/n) (k/n) (Ke hj) (Ke hk) h.2;rw [<- Uc j n,<- Uc k n,this,h.1]
theorem zgR (sizes:List Nat):(z8 sizes).Nodup:=by
 unfold z8;refine List.pairwise_map.2 (List.Pairwise.imp_of_mem ?_ (List.nodup_range (n:=zR sizes.reverse)));intro a b ha hb hab e;exact hab (zlZ _ _ _ (Ur.1 ha) (Ur.1 hb) (List.reverse_inj.1 e))
theorem zhL (before:Nat->Nat):∀ (n left:Nat) (l:List Nat),left<2^64->(zaj before n left l).Nodup
 | 0,left,l,hl=>by
  unfold zaj
  split
  ·exact List.pairwise_singleton ..
  ·exact .nil
 | n+1,left,l,hl=>by
  unfold zaj
  split
  ·exact List.pairwise_singleton ..
  ·show List.Pairwise _ _;rw [List.pairwise_flatMap];refine⟨fun a ha=>?_,List.Pairwise.imp_of_mem ?_ (ze1 left)⟩
   ·split
    ·exact zhL before n _ _ (zay hl)
    ·exact .nil
   ·intro a b ha hb hab x hx y hy e
    split at hx
    ·split at hy
     ·obtain⟨s,hs,_⟩:=zeo before n _ _ x (zay hl) hx;obtain⟨t,ht,_⟩:=zeo before n _ _ y (zay hl) hy;rw [hs,ht,KT,KT] at e;have:=List.append_cancel_left e;simp only [List.singleton_append,QO] at this;exact hab this.1
     ·cases hy
    ·cases hx
theorem zon {w:List Nat} (hw:w.Nodup) {a b:Nat} (ha:a<w.length) (hb:b<w.length) (h:w.getD a 0=w.getD b 0):a=b:=by
 rw [gDe,gDe,gE ha,gE hb] at h;exact (List.getElem_inj hw).1 h
theorem zfd {w:List Nat} (hw:w.Nodup):∀ {a b:List Nat},(∀ i∈a,i<w.length)->(∀ i∈b,i<w.length)->a.map (fun k=>w.getD k 0)=b.map (fun k=>w.getD k 0)->a=b
 | [],[],_,_,_=>rfl
 | [],y::b,_,_,h=>by cases h
 | x::a,[],_,_,h=>by cases h
 | x::a,y::b,ha,hb,h=>by
  rw [UE,UE,QO] at h;rw [zon hw (ha x KD) (hb y KD) h.1,zfd hw (fun i hi=>ha i (JZ _ hi)) (fun i hi=>hb i (JZ _ hi)) h.2]
theorem zjh {w:List Nat} (hw:w.Nodup) (h1:1<=w.length) (hn:w.length<=48):(zL w).Nodup:=by
 unfold zL;dsimp only
 split
 ·refine List.pairwise_map.2 (List.Pairwise.imp_of_mem (R:=fun a b=>a≠b) ?_ ?_)
  ·intro a b ha hb hab e;have p1:=(zgf h1 hn ha).1;have p2:=(zgf h1 hn hb).1;exact hab (zfd hw (fun i hi=>Ur.1 (p1.subset hi)) (fun i hi=>Ur.1 (p2.subset hi)) e)
  ·unfold zbt
   split
   ·exact zhL _ _ _ _ (zeA _)
   ·exact .nil
 ·exact .nil
theorem zkv (all:List Ev) (W:List (List Nat)):∀ (es:List Ev) (i:Nat),(zbs all W i es).Pairwise fun a b=>a.1<b.1
 | [],i => .nil
 | e::es,i=>by
  unfold zbs
  split
  ·refine List.pairwise_cons.2 ⟨fun r hr=>?_,zkv all W es (i+1)⟩;obtain⟨j,d,_,_,h⟩:=zc5 all W es (i+1) r hr;rw [h];show i<i+1+j;omega
  ·exact zkv all W es (i+1)
theorem zlH {α:Type} {key:α->Nat}:∀ {l:List α},l.Pairwise (fun a b=>key a<key b)->∀ {s t:Nat} {a b:α},l[s]?=some a->l[t]?=some b->key a=key b->s=t
 | [],_,s,t,a,b,h,_,_=>by simp at h
 | x::l,h,0,0,a,b,_,_,_=>rfl
 | x::l,h,0,t+1,a,b,ha,hb,e=>by
  have ha:=Ui ha;have:=(List.pairwise_cons.1 h).1 b (Ka hb);rw [ha] at this;omega
 | x::l,h,s+1,0,a,b,ha,hb,e=>by
  have hb:=Ui hb;have:=(List.pairwise_cons.1 h).1 a (Ka ha);rw [hb] at this;omega
 | x::l,h,s+1,t+1,a,b,ha,hb,e=>by rw [zlH (List.pairwise_cons.1 h).2 ha hb e]
theorem znM {a b:RelD} (h:jp a b=true) {i:Nat} (hi:i<48):a.to i=b.to i:=by
 unfold jp at h;rw [bAT,Qn] at h;exact dT (h.2 i (Ur.2 hi))
theorem zfZ {x y:ExD} (h:zbm x y=true):x.ev=y.ev/\jp x.rf y.rf=true/\jp x.co y.co=true:=by
 unfold zbm zcH at h;simp only [bAT] at h;obtain⟨h1,h2,_,h3,h4,_⟩:=h;refine⟨?_,h3,h4⟩;have h1:=dT h1;refine List.ext_getElem h1 fun i a b=>?_;have:=dT (Qn.1 h2 i (Ur.2 a));unfold evA at this;rw [gDe,gDe,gE a,gE b] at this;exact this
section
variable {init:List UInt8} {Ps:List PathD} {m:MixD} {ds es:List Nat}
theorem ChoiceW.dig_r (h:ChoiceW init Ps m) (hd:ds∈z8 (zN m)) {t:Nat} {r:Nat×List Nat} (hr:m.rs[t]?=some r):∃ d,ds[t]?=some d/\d<r.2.length:=by
 obtain⟨h1,h2⟩:=zaV hd;have ht:=(Jt.1 hr).1;have hs:(zN m)[t]?=some r.2.length:=by
  unfold zN;rw [Js (by rw [QR];exact ht),KY,hr];rfl
 have hlen:t<ds.length:=by rw [h1];exact (Jt.1 hs).1
 exact⟨ds[t],gE hlen,h2 _ _ _ hs (gE hlen)⟩
theorem ChoiceW.wr_nodup (h:ChoiceW init Ps m) (l:Nat):(m.wr.getD l []).Nodup:=by
 by_cases hl:l<init.length
 ·rw [h.wr.2 l hl];exact List.nodup_range.filter _
 ·rw [gDe,JL (by rw [h.wr.1];omega)];exact .nil
theorem ChoiceW.rf_dig (h:ChoiceW init Ps m) (hd:ds∈z8 (zN m)) (he:es∈z8 (zN m)) (hs:jp (zA m ds).rf (zA m es).rf=true) {t:Nat} (ht:t<m.rs.length):ds[t]?=es[t]?:=by
 have hr:m.rs[t]?=some m.rs[t]:=gE ht;obtain⟨d,d1,d2⟩:=h.dig_r hd hr;obtain⟨e,e1,e2⟩:=h.dig_r he hr;have hn:m.rs[t].2.Nodup:=by
  obtain⟨_,_,_,hr2⟩:=h.rs (gM ht);rw [hr2];exact (h.wr_nodup _).filter _
 have hi:m.rs[t].2[d]?=some m.rs[t].2[d]:=gE d2;have b1:zJ (zA m ds).rf m.rs[t].2[d] m.rs[t].1=true:=(h.rfb hd).2 ⟨t,_,hr,gM d2,by rw [gDe,d1];exact hi,rfl⟩;have h48:m.rs[t].2[d]<48:=by
  have:=(h.src (gM ht)).2.2 _ (gM d2);have:=h.n;rw [<- h.len] at this;omega
 have b2:zJ (zA m es).rf m.rs[t].2[d] m.rs[t].1=true:=by
  unfold zJ at b1 ⊢;rw [<- znM hs h48];exact b1
 obtain⟨t',r',g1,_,g3,g4⟩:=(h.rfb he).1 b2;have hp:m.rs.Pairwise fun a b=>a.1<b.1:=by
  rw [h.m];exact zkv _ _ _ _
 have htt:=zlH (key:=fun a:Nat×List Nat=>a.1) hp hr g1 g4;subst htt;have hrr:=Ui (hr.symm.trans g1);rw [<- hrr,gDe,e1] at g3;have g3:m.rs[t].2[e]?=some m.rs[t].2[d]:=g3;rw [gE e2] at g3;have:=(List.getElem_inj hn).1 (Ui g3);rw [d1,e1,this]
theorem ChoiceW.dig_w (h:ChoiceW init Ps m) (hd:ds∈z8 (zN m)) {l:Nat} (hl:l<init.length):∃ d,ds[m.rs.length+l]?=some d/\∃ hlt:d<(zL (qb m.base l)).length,chR (m.wr.map zL) (ds.drop m.rs.length) l=(zL (qb m.base l))[d]:=by
 obtain⟨h1,h2⟩:=zaV hd;obtain⟨w1,w2⟩:=h.wr;have hlw:l<m.wr.length:=by omega
 have hw:m.wr[l]=qb m.base l:=by
  have:=w2 l hl;rw [gDe,gE hlw] at this;exact this
 have hs:(zN m)[m.rs.length+l]?=some (zL (qb m.base l)).length:=by
  unfold zN;rw [Jo (by rw [QR];omega),QR,JA,KY,gE hlw,hw];rfl
 have hlen:m.rs.length+l<ds.length:=by rw [h1];exact (Jt.1 hs).1
 have hdl:=h2 _ _ _ hs (gE hlen);refine⟨ds[m.rs.length+l],gE hlen,hdl,?_⟩;have e1:(m.wr.map zL).getD l []=zL (qb m.base l):=by
  rw [gDe,KY,gE hlw,hw];rfl
 have e2:(ds.drop m.rs.length).getD l 0=ds[m.rs.length+l]:=by
  rw [gDe,KA,gE hlen];rfl
 unfold chR;rw [e1,e2,gDe,gE hdl];rfl
theorem ChoiceW.co_dig (h:ChoiceW init Ps m) (hd:ds∈z8 (zN m)) (he:es∈z8 (zN m)) (hs:jp (zA m ds).co (zA m es).co=true) {l:Nat} (hl:l<init.length):ds[m.rs.length+l]?=es[m.rs.length+l]?:=by
 obtain⟨d,d1,d2,d3⟩:=h.dig_w hd hl;obtain⟨e,e1,e2,e3⟩:=h.dig_w he hl;obtain⟨c1,c2⟩:=h.chx he;have hlw:l<(m.wr.map zL).length:=by rw [QR,h.wr.1];exact hl
 obtain⟨_,hb⟩:=zeu m.base.ev (m.wr.map zL) 0 (es.drop m.rs.length) (m.base.co,m.base.mem) c1 c2;have hr:zQ (zA m ds) l=chR (m.wr.map zL) (es.drop m.rs.length) l:=by
  refine zf5 (zcf h) (h.ch he l hl).1 fun i hi j=>?_;have hi48:i<48:=by
   have:=zeD ((h.ch he l hl).1.subset hi);have:=h.n;rw [<- h.len] at this;omega
  have e:zJ (zA m ds).co i j=zJ (coG m.base.ev 0 (m.wr.map zL) (es.drop m.rs.length) (m.base.co,m.base.mem)).1 i j:=by
   unfold zJ;rw [znM hs hi48];rfl
  rw [e,Bool.eq_iff_iff,hb,dE];constructor
  ·rintro (⟨k,a1,a2,a3⟩ | ⟨a1,a2⟩)
   ·have:=c2 i k l a1 hlw a2 hi;rw [<- this];exact a3
   ·exact Gt hi (a1 l hlw)
  ·exact fun hj => .inl ⟨l,hlw,hi,hj⟩
 rw [h.rank hd hl,d3,e3] at hr;obtain⟨g1,_⟩:=h.head hl;have h48:(qb m.base l).length<=48:=by
  have:=zfw m.base l;have:=h.n;have:=h.len;omega
 have:=(List.getElem_inj (zjh (List.nodup_range.filter _) g1 h48)).1 hr;rw [d1,e1,this]
theorem ChoiceW.same (h:ChoiceW init Ps m) (hd:ds∈z8 (zN m)) (he:es∈z8 (zN m)) (hs:zbm (zA m ds) (zA m es)=true):ds=es:=by
 obtain⟨_,h2,h3⟩:=zfZ hs;have l1:=(zaV hd).1;have l2:=(zaV he).1;have hl:(zN m).length=m.rs.length+init.length:=by
  unfold zN;rw [lap,QR,QR,h.wr.1]
 refine KU fun t=>?_;by_cases ht:t<m.rs.length
 ·exact h.rf_dig hd he h2 ht
 ·by_cases ht2:t<m.rs.length+init.length
  ·have:=h.co_dig hd he h3 (l:=t-m.rs.length) (by omega);rw [show m.rs.length+(t-m.rs.length)=t by omega] at this;exact this
  ·rw [JL (by omega),JL (by omega)]
theorem ChoiceW.cands_ne (h:ChoiceW init Ps m):(qA m).Pairwise fun a b=>zbm b a=false:=by
 unfold qA
 split
 ·exact .nil
 ·refine List.pairwise_map.2 (List.Pairwise.imp_of_mem ?_ (zgR _));intro a b ha hb hab
  cases hs:zbm (zA m b) (zA m a)
  ·rfl
  ·exact Gt (h.same hb ha hs).symm hab
end
theorem zlG {α β γ:Type} {f:α->Option β} {g:β->List γ} {R:γ->γ->Prop}:∀ {l:List α},l.Nodup->(∀ a∈l,∀ b,f a=some b->(g b).Pairwise R)->(∀ a∈l,∀ a'∈l,a≠a'->∀ b b',f a=some b->f a'=some b'->∀ x∈g b,∀ y∈g b',R x y)->((l.filterMap f).flatMap g).Pairwise R
 | [],_,_,_ => .nil
 | a::l,hn,h1,h2=>by
  have hn2:=QY.1 hn;have ih:=zlG hn2.2 (fun b hb=>h1 b (JZ _ hb)) fun b hb c hc=>h2 b (JZ _ hb) c (JZ _ hc)
  cases hf:f a with
  | none=>rw [List.filterMap_cons_none hf];exact ih
  | some b =>
   rw [List.filterMap_cons_some hf,KW,Kc];refine⟨h1 a KD b hf,ih,fun x hx y hy=>?_⟩;obtain⟨b',hb',hy⟩:=List.mem_flatMap.1 hy;obtain⟨a',ha',hf'⟩:=List.mem_filterMap.1 hb';exact h2 a KD a' (JZ _ ha') (fun e=>hn2.1 (by rw [e];exact ha')) b b' hf hf' x hx y hy
theorem znX {α:Type} {R:α->α->Prop} {l:List α} (h:l.Pairwise fun a b=>¬ R a b) (hr:∀ a,R a a) (hs:∀ a b,R a b->R b a) {s t:Nat} {a b:α} (ha:l[s]?=some a) (hb:l[t]?=some b) (e:R a b):s=t:=by
 obtain⟨hs1,ha⟩:=Jt.1 ha;obtain⟨ht1,hb⟩:=Jt.1 hb;rw [List.pairwise_iff_getElem] at h;rcases Nat.lt_trichotomy s t with hlt | hlt | hlt
 ·have:=h s t hs1 ht1 hlt;rw [ha,hb] at this;exact Gt e this
 ·exact hlt
 ·have:=h t s ht1 hs1 hlt;rw [ha,hb] at this;exact Gt (hs _ _ e) this
theorem cands_ne {p:Prg} {V:List UInt8} (hO:OkG p) (hV:V.Nodup):(qa p V).Pairwise fun a b=>zbm b a=false:=by
 refine zlG (zgR _) (fun ds hds m hm=>(zdj hO hds hm).1.cands_ne) fun ds hds es hes hne m n hm hn x hx y hy=>?_
 cases hs:zbm y x
 ·rfl
 ·refine Gt ?_ hne;have hev:=(zfZ hs).1;have ex:x.ev=m.base.ev:=by
   unfold qA at hx
   split at hx
   ·cases hx
   ·obtain⟨c,_,rfl⟩:=UM.1 hx;rfl
  have ey:y.ev=n.base.ev:=by
   unfold qA at hy
   split at hy
   ·cases hy
   ·obtain⟨c,_,rfl⟩:=UM.1 hy;rfl
  have hmn:m.base.ev=n.base.ev:=by rw [<- ex,<- ey];exact hev.symm
  obtain⟨_,l1,h1⟩:=zdj hO hds hm;obtain⟨_,l2,h2⟩:=zdj hO hes hn;refine KU fun t=>?_;by_cases ht:t<p.threads.length
  ·have hl:p.threads[t]?=some p.threads[t]:=gE ht;obtain⟨d,d1,R,d2,_,d3,_⟩:=h1 t _ hl;obtain⟨e,e1,S,e2,_,e3,_⟩:=h2 t _ hl;have hth:ThG p.threads[t]:=zeH (hO.th _ (gM ht));have:d=e:=znX (R:=fun a b=>zY a=zY b) (zp0 hth hV) (fun _=>rfl) (fun _ _ h=>h.symm) d2 e2 (by
    show zaL (zgL R)=zaL (zgL S);rw [<- d3,<- e3,hmn])
   rw [d1,e1,this]
  ·rw [JL (by omega),JL (by omega)]
theorem zjF {l:List InsD} {vs:List UInt8} {k:Nat} {S R:RunD} (hk:k<=vs.length) (h:zag l (vs.drop k) S=some R) :
  (k=vs.length/\l[(goR l l.length S).pc]?=none/\R=goR l l.length S)\/∃ hlt:k<vs.length,∃ x,l[(goR l l.length S).pc]?=some x/\zag l (vs.drop (k+1)) (zX (goR l l.length S) x vs[k])=some R:=by
 by_cases hlt:k<vs.length
 ·rw [Jr hlt] at h;unfold zag at h
  cases hg:l[(goR l l.length S).pc]? with
  | none=>rw [hg] at h;cases h
  | some x=>rw [hg] at h;exact .inr ⟨hlt,x,rfl,h⟩
 ·rw [JC (by omega)] at h;unfold zag at h
  cases hg:l[(goR l l.length S).pc]? with
  | none=>rw [hg] at h;exact .inl ⟨by omega,rfl,(Ui h).symm⟩
  | some x=>rw [hg] at h;cases h
section
variable {l:List InsD} {vs:List UInt8} {q p:OA} {cap cd:Nat} {w:Wd} {R:RunD}
theorem zf2 {α:Type} {E:Enc α} {X Y:Wd} {q:OA} {l:List α} {N:Nat} (h:SlR E X q l) (hq:l≠[]->∀ a,q=some a->a.block≠N) (g:X.grownBy Y (some N)):SlR E Y q l:=by
 by_cases hne:l=[]
 ·exact .inl hne
 ·exact zhp h (hq hne) g
theorem zpc (hl:SlR zH w q l) (hp:SlR zF w p vs) (hok:qc l 6=true) (hG:GlobE w) (hqb:l≠[]->∀ a,q=some a->a.block<w.heap.size) (hpb:vs≠[]->∀ a,p=some a->a.block<w.heap.size) (hv:vs.length<=1000) (hf:zag l vs zdz=some R) :
  Calls PG 21 #[.slice q l.length cap,.slice p vs.length cd] w fun e w'=>(∃ q1 c1 q2 c2 q3 c3 q4 c4,e = .returned (.tuple #[.agg (zcL (jC R) q1 c1 q2 c2 q3 c3 q4 c4).toArray,.bool false,i64 0])/\OwnS evE 60 w.heap.size w' q1 c1 (jC R).ev)/\Bw w w':=by
 have ht:=zeH hok;have h12:l.length<=12:=ht.1;refine jf 38 [.slice q l.length cap,.slice p vs.length cd] (.s .p (.s .p (.c .p .p))) Tryz.func21 ?_;have hbX:Bw w (w.alloc (.cells #[.slice none 0 0,.slice none 0 0,.slice none 0 0,.slice none 0 0,.int .u8 0,.int .u8 0,.int .u8 0,.int .u8 0,.int .u8 0,.int .u8 0,.int .u8 0,.int .u8 0] 73)):=zba w _;have f0:=zz w (.cells #[.slice none 0 0,.slice none 0 0,.slice none 0 0,.slice none 0 0,.int .u8 0,.int .u8 0,.int .u8 0,.int .u8 0,.int .u8 0,.int .u8 0,.int .u8 0,.int .u8 0] 73);have sX:=wz w (.cells #[.slice none 0 0,.slice none 0 0,.slice none 0 0,.slice none 0 0,.int .u8 0,.int .u8 0,.int .u8 0,.int .u8 0,.int .u8 0,.int .u8 0,.int .u8 0,.int .u8 0] 73);refine cmo (zli (hl.below hbX) (hG.c.below hbX) (by omega)) ?_;rintro e Y ⟨rfl,hbY⟩;rw [hok];refine brF ?_;have hwY:=zst hbX hbY;have f0:=zb hbY f0;have sY:=hbY.size;obtain⟨N,hN⟩:=nm (Y.heap.size);have ez:ziN=qC zdz:=by kernel_rfl
 refine⟨Unit,fun _=>⟨[(0,.slice q l.length cap),(1,.slice p vs.length cd),(4,AtR w.heap.size),(7,AtR N)],[]⟩,fun _ V=>jn V N zdz/\Bw Y V/\V.heap.size=N+1,?_,?_⟩
 ·exact⟨(),⟨.cons rfl (.cons rfl (.cons rfl (.cons (by rw [hN];rfl) .nil))),rfl⟩,by rw [hN,ez];exact zz Y _,(zba Y _),by rw [hN];exact wz ..⟩
 rintro _ V ⟨fV,hbV,sV⟩;have hwV:=zst hwY hbV;have f0:=zb hbV f0;have hNw:w.heap.size+1<=N:=by omega
 refine⟨Nat×RunD,fun s=>⟨[(0,.slice q l.length cap),(1,.slice p vs.length cd),(4,AtR w.heap.size),(7,AtR N),(8,i64 (s.1:Nat))],[]⟩,
  fun s Z=>(s.1<=vs.length/\zag l (vs.drop s.1) s.2=some R/\RunOk l s.2)/\jn Z N s.2/\V.grownBy Z (some N),fun s=>vs.length-s.1,(0,zdz),
  (cvE rfl rfl),⟨⟨Gc _,hf,zd0 l⟩,fV,z5 _ _⟩,?_⟩
 rintro⟨k,S⟩ Z ⟨⟨hk,hfk,hS⟩,fZ,gZ⟩;dsimp only at hk hfk hS fZ ⊢;obtain⟨T,hT⟩:=nm (goR l l.length S);have hqN:l≠[]->∀ a,q=some a->a.block≠N:=fun hne a ha=>by have:=hqb hne a ha;omega
 have hpN:vs≠[]->∀ a,p=some a->a.block≠N:=fun hne a ha=>by have:=hpb hne a ha;omega
 have hlV:=hl.below hwV;have hpV:=hp.below hwV;refine cmo (zdC fZ (zf2 hlV hqN gZ) hqN ht hS) ?_;rintro e U ⟨rfl,fU,gU,tO,tpp⟩;have gVU:=zd gZ gU;have hwU:=hwV.trans (zh gVU hwV.size (by omega));have f0U:=(gVU.block w.heap.size (hlt f0) (fun e=>by cases e;omega)).trans f0;rw [<- hT] at fU tO tpp ⊢;rcases zjF hk hfk with ⟨hke,hg,hR⟩ | ⟨hlt,x,hg,hfx⟩
 ·rw [<- hT] at hg hR;rw [hg];refine brF (brN (Uk (by omega)) ?_);have hm:T.many<=24:=by have h1:=tO.m;have h2:=tO.p;omega
  refine cmo (znV fU hm (fun i _=>tO.s.s i) (hG.t32.below hwU)) ?_;rintro e Y2 ⟨⟨q1,c1,q2,c2,q3,c3,q4,c4,rfl,o1,_⟩,hb2⟩;have f02:=zb hb2 f0U;obtain⟨cs,hcs⟩:=nm (zcL (jC T) q1 c1 q2 c2 q3 c3 q4 c4);have hone:cs.all Value.oneCell'=true:=by rw [hcs];exact zd9 ..
  have hlen:cs.length=12:=by rw [hcs];exact zea ..
  rw [<- hcs];refine zI (v := .agg cs.toArray) k73 f02 hlen rfl hone ?_;have f5:=zx (cs':=(Value.agg cs.toArray).cells) f02;have hw2:=zst hwU hb2;have sU:=hwU.size;refine⟨cs,hlen,za f5,⟨q1,c1,q2,c2,q3,c3,q4,c4,by rw [hcs,hR];rfl,?_⟩,zy hw2 (UZ _) _⟩;rw [hR];refine OwnS.lower (o1.kept (jb Y2 w.heap.size _) fun g hg e=>?_) sU;rcases o1.inv with ⟨h,_⟩ | ⟨g',cur,h,h2,_⟩
  ·rw [h] at hg;cases hg
  ·rw [h] at hg;simp only [Qd,Ux,Gl] at hg e;have:=hlt f0U;omega
 ·rw [<- hT] at hg hfx;have hi:T.pc<l.length:=(Jt.1 hg).1;have hxe:l[T.pc]=x:=by rw [gE hi] at hg;exact Ui hg
  have hxi:=(ht.2 _ _ hg).1;rw [hg];refine brT (brN (Uk (by omega)) ?_);have hlU:=zf2 hlV hqN gVU;have hpU:=zf2 hpV hpN gVU;obtain⟨bq,oq,rfl,hlq,hatq⟩:=hlU.at hi;obtain⟨bp,op,rfl,hlp,hatp⟩:=hpU.at hlt;refine DrawE.ord [9] [0,1,2,3,4,5,6,7,8,9] (by kernel_rfl) ⟨_,zc (za (hdr fU)) (i:=0) rfl,T.pc,rfl,hi,zH.enc x,rfl,by rw [<- hxe];exact hatq T.pc hi,hlq,?_⟩;refine⟨k,rfl,hlt,u8 vs[k],by have:=zc (hatp k hlt) (i:=0) (v:=u8 vs[k]) rfl;exact this,cmo (zdL (v:=vs[k]) (hdr fU) tO.s (by have:=tO.m;omega) (by omega) hxi) ?_⟩;rintro e Y2 ⟨rfl,f2,g2⟩;obtain⟨x1,x2⟩:=jW (v:=vs[k]) ht tO hg;refine nxI (by omega) ?_;have gd:U.grownBy U.drew (some N):=⟨rfl,rfl,rfl,UZ _,fun _ _ _=>rfl⟩;exact⟨(k+1,zX T x vs[k]),(cvE rfl rfl),⟨⟨hlt,hfx,x1⟩,f2,zd gVU (zd gd g2)⟩,zdc (by omega)⟩
end
theorem zqO:∃ G,TyEq PG 49 true 8 2 G/\∀ f:Nat->UInt8,G (seg 8 fun i=>u8 (f i)):=by
 refine⟨_,.array (m:=8) (by decide) Tryz.underlying49 (fun w=>Tryz.isAgg49 w) (qF (by kernel_rfl) (by kernel_rfl)).1 (by kernel_rfl) tU8,fun f=>?_⟩;show ∀ j,j<8->zqt .u8 (zV (seg 8 fun i=>u8 (f i)) (j*1) 1);intro j hj;have h:=zeJ (m:=1) (n:=8) (f:=f) (i:=0) (j:=j) (by decide) (by decide) hj;have h2:zV (seg (1*8) fun i=>u8 (f i)) (0*8) 8=seg (1*8) fun i=>u8 (f i):=by
  unfold zV;rw [UV,Up,JI (by rw [zo];decide)]
 rw [h2] at h;exact⟨_,h⟩
theorem zn4 (x y:Operand) (f g:Nat->UInt8) (h:∀ i,i<8->f i=g i) (w:Wd):(do eqGuard .neq 49 x y (.agg (seg 8 fun i=>u8 (f i)).toArray) (.agg (seg 8 fun i=>u8 (g i)).toArray);binOp .neq 49 (.agg (seg 8 fun i=>u8 (f i)).toArray) (.agg (seg 8 fun i=>u8 (g i)).toArray)).run PG w = .ok (.bool false) w:=by
 obtain⟨G,h1,h2⟩:=zqO;have:=zn3 h1 9998 rfl (by kernel_rfl) (a:=seg 8 fun i=>u8 (f i)) (b:=seg 8 fun i=>u8 (g i)) (zo _ _) (zo _ _) (h2 f) (h2 g) x y w;rw [this,zce (iff_true_intro (zdX.2 h))];rfl
theorem zkB {X:Wd} {b:Nat} {P:PathD} {q1 c1 q2 c2 q3 c3 q4 c4} (h:zw X ⟨b,0,none⟩ (zcL P q1 c1 q2 c2 q3 c3 q4 c4)):zw X ⟨b,0+4,none⟩ (seg 8 fun i=>u8 (P.regs i)):=by
 have h2:=zG (n:=4) (m:=8) h;have e:((zcL P q1 c1 q2 c2 q3 c3 q4 c4).drop 4).take 8=seg 8 (fun i=>u8 (P.regs i)):=by
  show (seg 8 (fun i=>u8 (P.regs i))).take 8=_;exact JI (by rw [zo];exact UZ _)
 rw [e] at h2;exact h2
theorem zop {X:Wd} {b:Nat} {x:ExD} {q:OA} {c t:Nat} (fx:ExH X b x q c) (ht:t<4):zw X ⟨b,0+295+0+t*8,none⟩ (seg 8 fun i=>u8 (x.regs (8*t+i))):=by
 have h2:=zG (n:=t*8) (m:=8) (zkQ fx);have e:((zbx x).drop (t*8)).take 8=seg 8 (fun i=>u8 (x.regs (8*t+i))):=by
  apply KU;intro i;by_cases hi:i<8
  ·rw [List.getElem?_take_of_lt hi,KA,zaG _ hi];unfold zbx;rw [Js (by rw [zo];omega),zaG _ (by omega),UQ]
  ·rw [JL (by rw [Qy];omega),JL (by rw [zo];omega)]
 rw [e] at h2;exact h2
theorem znY (t:Nat) {l:List Ev} {j:Nat} (hj:j<l.length):jq t (l.take (j+1))=jq t (l.take j)++if l[j].th=(t:Int) then [{ l[j] with th:=0 }] else []:=by
 rw [tsg hj,zim];congr 1;unfold jq;by_cases h:l[j].th=(t:Int)
 ·rw [Qr,Gs (Uv h),Gs h];rfl
 ·rw [Qr,Gr (by simpa using h),Gr h];rfl
theorem zpq (a:List Ev) (e:Ev):zaL (a++[e])=zaL a++if e.k=1 then [e.v] else []:=by
 rw [zjd];congr 1;unfold zaL;by_cases h:e.k=1
 ·rw [Qr,Gs (Uv h),Gs h];rfl
 ·rw [Qr,Gr (by simpa using h),Gr h];rfl
theorem znZ (t:Nat) (l:List Ev):(jq t l).length<=l.length:=by
 unfold jq;rw [QR];exact JN ..
theorem znN (l:List Ev):(zaL l).length<=l.length:=by
 unfold zaL;rw [QR];exact JN ..
section
variable {B:Nat} {w:Wd} {pc:List Value} {p:Prg}
theorem zk4 (hP:PrgX w.heap.size w pc p) (hG:GlobE w) :
  CB 7 #[.agg pc.toArray] w (.bool true):=by
 refine zdQ (S:=sg 131) (za9 _) (args:=[.agg pc.toArray])
  (.c .p (.c .p (.c .p (.s (.s .p (.b (.l (.s .p (.s .p (.c (.b (.c .p (.c .p (.c .p (.s .p (.b (.l (.s .p (.s .p (.c (.b (.s .p (.s .p (.s .p (.c (.s .p (.b (.l (.s .p (.s .p (.c (.b (.s .p (.c .p (.c .p .p)))) .p)))))) (.c .p (.c .p .p))))))) .p)))))))))) .p)))))) .p)))) Tryz.func7 rfl rfl (JT rfl) rfl ?_
 obtain⟨L,hL⟩:=nm (w.heap.size);have hpc:=hP.v.size;refine⟨Unit,fun _=>⟨[(1,At0 L)],[]⟩,fun _ X=>X.heap[L]?=some (.cells pc.toArray 29 (0,0))/\Bw w X,⟨(),⟨.cons (by rw [hL];rfl) .nil,rfl⟩,by rw [hL];exact zz w _,(zba w _)⟩,?_⟩;rintro _ X ⟨f0,hbX⟩;have aw:∀ Y,Bw w Y->Calls PG 10 #[] Y fun e w'=>e = .returned (.bool true)/\Bw w w':=fun Y hwY=>cmo (zsj (hG.below hwY)) fun e U h=>⟨h.1,hwY.trans (h.2.mono hwY.size)⟩;refine⟨Bool×List zcC×OA×Nat,fun s=>⟨[(1,At0 L),(3,.slice s.2.2.1 s.2.1.length s.2.2.2),(4,.bool s.1)],[]⟩,fun s Y=>(s.1=true->∃ V,zcz p=true/\zc2 p V 300/\s.2.1.map (·.1)=qa p V/\OwnS exE 55 w.heap.size Y s.2.2.1 s.2.2.2 s.2.1/\∀ x∈s.2.1,OwnS evE 60 w.heap.size Y x.2.1 x.2.2 x.1.ev)/\Y.heap[L]?=some (.cells pc.toArray 29 (0,0))/\Bw w Y,?_,?_⟩
 ·refine⟨pc,hpc,za f0,hlt f0,cmo (zrL hbX.size (hP.below hbX) (hG.below hbX)) ?_⟩;rintro e Y ⟨hcase,hbY⟩;have hwY:=zst hbX hbY;have f0Y:=zb hbY f0;obtain⟨V,hok,hco,xs,q,c,rfl,hxs,oX,oE⟩ | rfl:=hcase
  ·exact⟨(true,xs,q,c),(cvE rfl rfl),fun _=>⟨V,hok,hco,hxs,oX.lower hbX.size,fun x hx=>(oE x hx).lower hbX.size⟩,f0Y,hwY⟩
  ·exact⟨(false,[],none,0),(cvE rfl rfl),(fun h=>by cases h),f0Y,hwY⟩
 clear f0 hbX;clear X;rintro⟨ok,xs,q,c⟩ Y ⟨hcase,f0,hwY⟩;dsimp only at hcase ⊢;refine⟨Unit,fun _=>⟨[(1,At0 L),(3,.slice q xs.length c)],[]⟩,fun _ X=>X=Y/\ok=true,?_,?_⟩
 ·cases ok with
  | false =>
   refine brT (cmo (aw Y hwY) ?_);rintro e U ⟨rfl,hbU⟩;exact⟨rfl,hbU⟩
  | true =>
   exact brF ⟨(),(cvE rfl rfl),rfl,rfl⟩
 rintro _ _ ⟨rfl,rfl⟩;obtain⟨V,hok,hco,hxs,oX,oE⟩:=hcase rfl;clear hcase;rename_i Y;have hO:=zc7 hok;obtain⟨_,hVd⟩:=zfR hO hco.1;have hVn:V.Nodup:=by
  rw [<- hVd];exact (zes V).imp fun h e=>by rw [e] at h;exact Nat.lt_irrefl _ h
 have hne:=cands_ne hO hVn;rw [<- hxs] at hne;have hLw:L<Y.heap.size:=hlt f0;have sYw:=hwY.size;have hlen2:xs.length<=c/\c<=maxLen:=by
  rcases oX.inv with ⟨_,h2,h⟩ | ⟨_,_,_,_,_,h,h2,_⟩
  ·rw [h,h2];exact⟨Gc _,Gc _⟩
  ·exact⟨h,h2⟩
 have hxl:xs.length<=9223372036854775807:=by
  have h2:=hlen2.2;unfold maxLen at h2;omega
 have hlen2:=hlen2.1;refine⟨Nat,fun k=>⟨[(1,At0 L),(3,.slice q xs.length c),(27,.slice q xs.length c),(28,i64 xs.length),(29,i64 (k:Nat))],[]⟩,fun k Z=>k<=xs.length/\Bw Y Z,fun k=>xs.length-k,0,(cvE rfl rfl),⟨Gc _,Ge _ _⟩,?_⟩;rintro k Z ⟨hk,hbZ⟩;refine biE (fun hc=>?_) fun hc=>?_
 ·have hc:(k:Int)<(xs.length:Int):=dT hc;have hkl:k<xs.length:=by omega
  obtain⟨x,hx⟩:∃ x,xs[k]=x:=⟨_,rfl⟩;have hxm:x∈xs:=by rw [<- hx];exact gM hkl
  have hxc:x.1∈qa p V:=by rw [<- hxs];exact Kq hxm
  have hgood:=zk2 hO hco (by decide) hxc;have hright:zax x.1=true:=by
   obtain⟨Ps,m,ds,hC,_,_,hd,he⟩:=zl7 hO hxc;rw [he];exact hC.right hd
  have heach:=zk3 hO hxc;have hnx:∀ (j:Nat) (hj:j<k),zbm x.1 (xs[j]'(by omega)).1=false:=fun j hj=>by
   rw [List.pairwise_iff_getElem] at hne;have:=hne j k (by rw [QR];omega) (by rw [QR];omega) hj;rw [Qu,Qu,hx] at this;exact this
  obtain⟨b,o,hqe,hlb,hat⟩:=oX.row.at hkl;subst hqe;have hev:=(oE x hxm).row;refine⟨Unit,fun _=>⟨[(1,At0 L),(3,.slice (some ⟨b,o,none⟩) xs.length c),(27,.slice (some ⟨b,o,none⟩) xs.length c),(28,i64 xs.length),(29,i64 (k:Nat))],[]⟩,fun _ U=>Bw Y U,?_,?_⟩
  rotate_left
  ·rintro _ U hbU;exact nxI (by omega) ⟨k+1,(cvE rfl rfl),⟨hkl,hbU⟩,zdc (by omega)⟩
  refine⟨Nat,fun M=>⟨[(1,At0 L),(3,.slice (some ⟨b,o,none⟩) xs.length c),(5,i64 (k:Nat)),(6,At0 M),(27,.slice (some ⟨b,o,none⟩) xs.length c),(28,i64 xs.length),(29,i64 (k:Nat))],[]⟩,fun M U=>ExH U M x.1 x.2.1 x.2.2/\Y.heap.size<=M/\Bw Y U,?_,?_⟩
  ·exact⟨k,rfl,hkl,exC x.1 x.2.1 x.2.2,zC _ _ _,by rw [<- hx];exact zm hbZ (hat k hkl),nL hlb hbZ.size,zn (X:=Z) (v := .agg (exC x.1 x.2.1 x.2.2).toArray) k55 (zC _ _ _) zW (zaU _ _ _) fun U hbU fU sU=>⟨Z.heap.size,(cvE rfl rfl),fU,hbZ.size,(zst hbZ hbU)⟩⟩
  clear hbZ Z;rintro M U ⟨fM,hYM,hbU⟩;refine⟨Unit,fun _=>⟨[(1,At0 L),(3,.slice (some ⟨b,o,none⟩) xs.length c),(5,i64 (k:Nat)),(6,At0 M),(27,.slice (some ⟨b,o,none⟩) xs.length c),(28,i64 xs.length),(29,i64 (k:Nat))],[]⟩,fun _ U=>ExH U M x.1 x.2.1 x.2.2/\Bw Y U,?_,?_⟩
  ·refine⟨exC x.1 x.2.1 x.2.2,zC _ _ _,za fM,hlt fM,?_⟩;have hR:=zka (c:=x.2.2) (⟨hev.below hbU,hgood.n,fun l=>UP (hgood.w8 l) (by decide),hgood.rels.po.w,hgood.rels.rf.w,hgood.rels.co.w,hgood.rels.dt.w,hgood.rels.ct.w,hgood.rels.rm.w⟩:ExW U x.1 x.2.1) (hG.t64.below (hwY.trans (hbU.mono sYw)));rw [hright] at hR;refine cmo hR ?_;rintro e S ⟨rfl,hbS⟩;exact brF ⟨(),(cvE rfl rfl),zb hbS fM,(zst hbU hbS)⟩
  clear fM hbU U;rintro _ U ⟨fM,hbU⟩;refine⟨Unit,fun _=>⟨[(1,At0 L),(3,.slice (some ⟨b,o,none⟩) xs.length c),(6,At0 M),(27,.slice (some ⟨b,o,none⟩) xs.length c),(28,i64 xs.length),(29,i64 (k:Nat))],[]⟩,fun _ U=>ExH U M x.1 x.2.1 x.2.2/\Bw Y U,?_,?_⟩
  ·have cutv:Value.slice (qN (some ⟨b,o,none⟩) c 0 333) (k-0) (c-0) = .slice (some ⟨b,o,none⟩) k c:=by rw [zbe];rfl
   refine⟨k,rfl,by omega,?_⟩;refine⟨Nat,fun j=>⟨[(1,At0 L),(3,.slice (some ⟨b,o,none⟩) xs.length c),(6,At0 M),(27,.slice (some ⟨b,o,none⟩) xs.length c),(28,i64 xs.length),(29,i64 (k:Nat)),(39,.slice (some ⟨b,o,none⟩) k c),(40,i64 (k:Nat)),(41,i64 (j:Nat))],[]⟩,fun j U=>j<=k/\ExH U M x.1 x.2.1 x.2.2/\Bw Y U,fun j=>k-j,0,⟨.cons rfl (.cons rfl (.cons rfl (.cons rfl (.cons rfl (.cons rfl (.cons (by rw [<- cutv];rfl) (.cons rfl (.cons rfl .nil)))))))),rfl⟩,⟨Gc _,fM,hbU⟩,?_⟩;clear fM hbU U;rintro j U ⟨hj,fM,hbU⟩;refine biE (fun hc=>?_) fun hc=>?_
   ·have hc:(j:Int)<(k:Int):=dT hc;have hjk:j<k:=(by omega);have hjl:j<xs.length:=(by omega);obtain⟨y,hy⟩:∃ y,xs[j]=y:=⟨_,rfl⟩;have hym:y∈xs:=(by rw [<- hy];exact gM hjl);have hns:=hnx j hjk;rw [hy] at hns;refine⟨j,rfl,hjk,exC y.1 y.2.1 y.2.2,zC _ _ _,by rw [<- hy];exact zm hbU (hat j hjl),nL hlb hbU.size,zn (X:=U) (v := .agg (exC y.1 y.2.1 y.2.2).toArray) k55 (zC _ _ _) zW (zaU _ _ _) fun S hbS fS sS=>?_⟩;have hYS:=zst hbU hbS;have fMS:=zb hbS fM;refine⟨exC x.1 x.2.1 x.2.2,zC _ _ _,za fMS,hlt fMS,exC y.1 y.2.1 y.2.2,zC _ _ _,za fS,hlt fS,?_⟩;have hS:=ziK (x:=x.1) (y:=y.1) (c:=x.2.2) (d:=y.2.2) (hev.below hYS) ((oE y hym).row.below hYS) (by have:=hgood.n;omega);rw [hns] at hS;refine cmo hS ?_;rintro e T ⟨rfl,hbT⟩;exact brF (nxI (by omega) ⟨j+1,(cvE rfl rfl),⟨hjk,zb hbT fMS,(zst hYS hbT)⟩,zdc (by omega)⟩)
   ·exact⟨(),(cvE rfl rfl),fM,hbU⟩
  clear fM hbU U;rintro _ U ⟨fM,hbU⟩;clear hnx hright hxc hat hlen2;obtain⟨xe,qx,cx⟩:=x;dsimp only at fM hev hgood heach;clear hx hxm;have hx48:=hgood.n;obtain⟨_,⟨p3,c3,h3,ts,hts,zdm,htr⟩,_⟩:=hP;have htl:ts.length=p.threads.length:=by rw [<- hts,QR]
  have ht4:=hO.t4;have c3':U.cell? ⟨L,0+3,none⟩=some (.slice p3 p.threads.length c3):=zc (za (zb hbU f0)) (i:=3) (by simpa using h3);refine⟨_,c3',Nat,fun t=>⟨[(1,At0 L),(3,.slice (some ⟨b,o,none⟩) xs.length c),(6,At0 M),(27,.slice (some ⟨b,o,none⟩) xs.length c),(28,i64 xs.length),(29,i64 (k:Nat)),(50,.slice p3 p.threads.length c3),(51,i64 p.threads.length),(52,i64 (t:Nat))],[]⟩,fun t U=>t<=p.threads.length/\ExH U M xe qx cx/\Bw Y U,fun t=>p.threads.length-t,0,(cvE rfl rfl),⟨Gc _,fM,hbU⟩,?_⟩;clear c3' fM hbU U;rintro t U ⟨htn,fM,hbU⟩;refine biE (fun hc=>?_) fun hc=>?_
  ·have hc:(t:Int)<(p.threads.length:Int):=dT hc;have htn:t<p.threads.length:=by omega
   have hmx:t<ts.length:=by omega
   have hwU:=hwY.trans (hbU.mono sYw);have sU:=hwU.size;obtain⟨b3,o3,hp3,hb3,hat3⟩:=zd1 (zdm.below hwU) hmx;have hB2:b3<U.heap.size:=nL hb3 sU;subst hp3;obtain⟨hrm,hrb⟩:=htr _ (gM hmx);have hsl:SlR zH U ts[t].2.1 ts[t].1:=(hrm.below hwU).slr sU;obtain⟨l,hl⟩:=nm (ts[t].1);obtain⟨ql,hql⟩:=nm (ts[t].2.1);obtain⟨cl,hcl⟩:=nm (ts[t].2.2);have hv:zg3 ts[t] = .slice ql l.length cl:=by rw [hl,hql,hcl];rfl
   refine⟨Unit,fun _=>⟨[(1,At0 L),(3,.slice (some ⟨b,o,none⟩) xs.length c),(6,At0 M),(27,.slice (some ⟨b,o,none⟩) xs.length c),(28,i64 xs.length),(29,i64 (k:Nat)),(50,.slice (some ⟨b3,o3,none⟩) p.threads.length c3),(51,i64 p.threads.length),(52,i64 (t:Nat))],[]⟩,fun _ S=>Bw U S,?_,?_⟩
   rotate_left
   ·rintro _ S hbS;exact nxI (by omega) ⟨t+1,(cvE rfl rfl),⟨htn,zb hbS fM,(zst hbU hbS)⟩,zdc (by omega)⟩
   refine⟨t,rfl,htn,.slice ql l.length cl,by rw [<- hv];have:=zc (hat3 t hmx) (i:=0) (v:=zg3 ts[t]) rfl;exact this,?_⟩;have hlt':p.threads[t]?=some l:=by rw [<- hts,KY,gE hmx,hl];rfl
   rw [<- hl,<- hql] at hsl hrb;clear hv hcl hql hrm hat3;obtain⟨R,hR,hown,hregs⟩:=heach t l hlt';have hth:qc l 6=true:=hO.th l (Ka hlt');have hfol:=zjG (zeH hth) V hR;have hrd:zY R=zaL (jq t xe.ev):=by rw [hown];rfl
   rw [hrd] at hfol;refine⟨OA×Nat×OA×Nat,fun s=>⟨[(1,At0 L),(3,.slice (some ⟨b,o,none⟩) xs.length c),(6,At0 M),(9,i64 (t:Nat)),(10,.slice ql l.length cl),(11,.slice s.1 (jq t xe.ev).length s.2.1),(12,.slice s.2.2.1 (zaL (jq t xe.ev)).length s.2.2.2),(27,.slice (some ⟨b,o,none⟩) xs.length c),(28,i64 xs.length),(29,i64 (k:Nat)),(50,.slice (some ⟨b3,o3,none⟩) p.threads.length c3),(51,i64 p.threads.length),(52,i64 (t:Nat))],[]⟩,
    fun s S=>OwnS evE 60 U.heap.size S s.1 s.2.1 (jq t xe.ev)/\OwnS zF 5 U.heap.size S s.2.2.1 s.2.2.2 (zaL (jq t xe.ev))/\Bw U S,?_,?_⟩
   ·refine⟨_,zbc (za fM),?_⟩;refine⟨Nat×OA×Nat×OA×Nat,fun s=>⟨[(1,At0 L),(3,.slice (some ⟨b,o,none⟩) xs.length c),(6,At0 M),(9,i64 (t:Nat)),(10,.slice ql l.length cl),(11,.slice s.2.1 (jq t (xe.ev.take s.1)).length s.2.2.1),(12,.slice s.2.2.2.1 (zaL (jq t (xe.ev.take s.1))).length s.2.2.2.2),(27,.slice (some ⟨b,o,none⟩) xs.length c),(28,i64 xs.length),(29,i64 (k:Nat)),(50,.slice (some ⟨b3,o3,none⟩) p.threads.length c3),(51,i64 p.threads.length),(52,i64 (t:Nat)),(58,.slice qx xe.ev.length cx),(59,i64 xe.ev.length),(60,i64 (s.1:Nat))],[]⟩,
     fun s S=>s.1<=xe.ev.length/\OwnS evE 60 U.heap.size S s.2.1 s.2.2.1 (jq t (xe.ev.take s.1))/\OwnS zF 5 U.heap.size S s.2.2.2.1 s.2.2.2.2 (zaL (jq t (xe.ev.take s.1)))/\Bw U S,fun s=>xe.ev.length-s.1,(0,none,0,none,0),
     (cvE rfl rfl),⟨Gc _,OwnS.nil,OwnS.nil,Ge _ _⟩,?_⟩
    rintro⟨j,q1,c1,q2,c2⟩ S ⟨hj,o1,o2,hbS⟩;dsimp only at hj o1 o2 ⊢;refine biE (fun hc=>?_) fun hc=>?_
    ·have hc:(j:Int)<(xe.ev.length:Int):=dT hc;have hjl:j<xe.ev.length:=(by omega);obtain⟨bx,ox,hqx,hbx,hatx⟩:=hev.at hjl;have ev0:=hqx;have sS:=hbS.size;obtain⟨e,he⟩:∃ e,xe.ev[j]=e:=⟨_,rfl⟩;have hnx:=znY t hjl;rw [he] at hnx;have hcv:zw S ⟨bx,ox+j*7,none⟩ (evE.enc e):=(by rw [<- he];exact zm (((zst hbU hbS))) (hatx j hjl));have l1:=znZ t (xe.ev.take j);have l2:=znN (jq t (xe.ev.take j));have l3:(xe.ev.take j).length=j:=(by rw [Qy];omega);subst ev0;refine⟨OA×Nat×OA×Nat,fun s=>⟨[(1,At0 L),(3,.slice (some ⟨b,o,none⟩) xs.length c),(6,At0 M),(9,i64 (t:Nat)),(10,.slice ql l.length cl),(11,.slice s.1 (jq t (xe.ev.take (j+1))).length s.2.1),(12,.slice s.2.2.1 (zaL (jq t (xe.ev.take (j+1)))).length s.2.2.2),(27,.slice (some ⟨b,o,none⟩) xs.length c),(28,i64 xs.length),(29,i64 (k:Nat)),(50,.slice (some ⟨b3,o3,none⟩) p.threads.length c3),(51,i64 p.threads.length),(52,i64 (t:Nat)),(58,.slice (some ⟨bx,ox,none⟩) xe.ev.length cx),(59,i64 xe.ev.length),(60,i64 (j:Nat))],[]⟩,
      fun s S=>OwnS evE 60 U.heap.size S s.1 s.2.1 (jq t (xe.ev.take (j+1)))/\OwnS zF 5 U.heap.size S s.2.2.1 s.2.2.2 (zaL (jq t (xe.ev.take (j+1))))/\Bw U S,?_,?_⟩
     rotate_left
     ·rintro⟨q3,d3,q4,d4⟩ S2 ⟨n1,n2,hbS2⟩;dsimp only at n1 n2 ⊢;exact nxI (by omega) ⟨(j+1,q3,d3,q4,d4),(cvE rfl rfl),⟨hjl,n1,n2,hbS2⟩,zdc (by omega)⟩
     refine⟨j,rfl,hjl,evE.enc e,rfl,hcv,nL hbx (UP hbU.size sS),zn (X:=S) (v := .agg (evE.enc e).toArray) k60 rfl rfl (Qn.2 fun u hu=>evE.one _ u hu) fun T hbT fN sT=>?_⟩;have q1N:∀ a,q1=some a->a.block<S.heap.size:=fun a ha=>(zp o1 ha).2.1;replace o1:=o1.below hbT;replace o2:=o2.below hbT;have hUT:=hbS.trans (hbT.mono sS);have sT1:=hbT.size;clear hbS hbT;refine⟨Unit,fun _=>⟨[(1,At0 L),(3,.slice (some ⟨b,o,none⟩) xs.length c),(6,At0 M),(9,i64 (t:Nat)),(10,.slice ql l.length cl),(11,.slice q1 (jq t (xe.ev.take j)).length c1),(12,.slice q2 (zaL (jq t (xe.ev.take j))).length c2),(14,At0 S.heap.size),(27,.slice (some ⟨b,o,none⟩) xs.length c),(28,i64 xs.length),(29,i64 (k:Nat)),(50,.slice (some ⟨b3,o3,none⟩) p.threads.length c3),(51,i64 p.threads.length),(52,i64 (t:Nat)),(58,.slice (some ⟨bx,ox,none⟩) xe.ev.length cx),(59,i64 xe.ev.length),(60,i64 (j:Nat))],[]⟩,fun _ T2=>T2=T/\e.th=(t:Int),?_,?_⟩
     ·refine⟨_,zc (za fN) (i:=0) rfl,biE (fun h=>?_) fun h=>?_⟩
      ·have h:¬ e.th=(t:Int):=dF (zre h);rw [Gr h,QN] at hnx;exact⟨(q1,c1,q2,c2),⟨.cons rfl (.cons rfl (.cons rfl (.cons rfl (.cons rfl (.cons (by rw [hnx];rfl) (.cons (by rw [hnx];rfl) (.cons rfl (.cons rfl (.cons rfl (.cons rfl (.cons rfl (.cons rfl (.cons rfl (.cons rfl (.cons rfl .nil))))))))))))))),rfl⟩,by rw [hnx];exact o1,by rw [hnx];exact o2,hUT⟩
      ·exact⟨(),(cvE rfl rfl),rfl,dT (zrd h)⟩
     rintro _ T2 ⟨rfl,hth2⟩;rw [Gs hth2] at hnx;have hr2:zaL (jq t (xe.ev.take (j+1)))=zaL (jq t (xe.ev.take j))++if e.k=1 then [e.v] else []:=by rw [hnx,zpq]
     refine⟨OA×Nat,fun s=>⟨[(1,At0 L),(3,.slice (some ⟨b,o,none⟩) xs.length c),(6,At0 M),(9,i64 (t:Nat)),(10,.slice ql l.length cl),(11,.slice q1 (jq t (xe.ev.take j)).length c1),(12,.slice s.1 (zaL (jq t (xe.ev.take (j+1)))).length s.2),(14,At0 S.heap.size),(27,.slice (some ⟨b,o,none⟩) xs.length c),(28,i64 xs.length),(29,i64 (k:Nat)),(50,.slice (some ⟨b3,o3,none⟩) p.threads.length c3),(51,i64 p.threads.length),(52,i64 (t:Nat)),(58,.slice (some ⟨bx,ox,none⟩) xe.ev.length cx),(59,i64 xe.ev.length),(60,i64 (j:Nat))],[]⟩,fun s W=>OwnS evE 60 U.heap.size W q1 c1 (jq t (xe.ev.take j))/\OwnS zF 5 U.heap.size W s.1 s.2 (zaL (jq t (xe.ev.take (j+1))))/\W.heap[S.heap.size]?=some (.cells (evE.enc e).toArray 60 (0,0))/\Bw U W,?_,?_⟩
     ·refine⟨_,zc (za fN) (i:=1) rfl,biE (fun h=>?_) fun h=>?_⟩
      ·have h:e.k=1:=dT ((zbY (x:=e.k) (y:=1)).symm.trans h);rw [Gs h] at hr2;refine⟨_,zc (za fN) (i:=3) rfl,⟨by decide,by decide,rfl⟩,zF.enc e.v,rfl,?_⟩;have hba:Bw T2 (T2.alloc (.cells (zF.enc e.v).toArray 5)):=zba _ _;refine jx (E:=zF) (T:=5) (B:=U.heap.size) (l:=zaL (jq t (xe.ev.take j))) (news:=[e.v]) (cap:=c2) (m:=1) Tryz.underlying23 k5 rfl rfl rfl (o2.below hba) rfl (qG zF e.v) (by have:=hba.size;omega) (by omega) (by show ((zaL (jq t (xe.ev.take j))).length+1)*1<=_;omega) ?_;intro q4 d4 W oW gW hbW hatW;rw [zaf] at gW;exact⟨(q4,d4),⟨.cons rfl (.cons rfl (.cons rfl (.cons rfl (.cons rfl (.cons rfl (.cons (by rw [hr2];rfl) (.cons rfl (.cons rfl (.cons rfl (.cons rfl (.cons rfl (.cons rfl (.cons rfl (.cons rfl (.cons rfl (.cons rfl .nil)))))))))))))))),rfl⟩,jD (o1.below hba) (o2.below hba) (by decide) gW,by rw [hr2];exact oW,z9 (zb hba fN) (o2.below hba) (by decide) gW,((zst hUT hba)).trans hbW⟩
      ·have h:¬ e.k=1:=dF ((zbY (x:=e.k) (y:=1)).symm.trans h);rw [Gr h,QN] at hr2;exact⟨(q2,c2),⟨.cons rfl (.cons rfl (.cons rfl (.cons rfl (.cons rfl (.cons rfl (.cons (by rw [hr2];rfl) (.cons rfl (.cons rfl (.cons rfl (.cons rfl (.cons rfl (.cons rfl (.cons rfl (.cons rfl (.cons rfl (.cons rfl .nil)))))))))))))))),rfl⟩,o1,by rw [hr2];exact o2,fN,hUT⟩
     clear o2 o1 fN hUT;rintro⟨q4,d4⟩ W ⟨o1,o2,fN,hUW⟩;dsimp only at o2 ⊢;refine zj (cs:=evE.enc e) k3 fN (o:=0+0) (v:=i64 0) rfl rfl (by show 0<7;decide) rfl fun Z fZ gZ sZ=>?_;have fZ:Z.heap[S.heap.size]?=some (.cells (evE.enc { e with th:=0 }).toArray 60 (0,0)):=fZ;have o1Z:OwnS evE 60 U.heap.size Z q1 c1 (jq t (xe.ev.take j)):=o1.same fun a ha=>gZ.block _ (zp o1 ha).2.1 (fun e2=>by have:=q1N a ha;simp only [Qd] at e2;omega);have o2Z:=qg o2 fN (by decide) gZ;have hUZ:=hUW.trans (zh gZ hUW.size (by omega));refine⟨evE.enc { e with th:=0 },rfl,za fZ,hlt fZ,⟨by decide,by decide,rfl⟩,evE.enc { e with th:=0 },zaA rfl rfl,?_⟩;have hb1:Bw Z (Z.alloc (.cells (evE.enc { e with th:=0 }).toArray 60)):=zba _ _;refine zrJ (o1Z.below hb1) (qG evE { e with th:=0 }) (by have:=hb1.size;have:=hUZ.size;omega) (by omega) fun q3 d3 W2 oW gW hat1=>?_;have hUb:=zst hUZ hb1;exact⟨(q3,d3,q4,d4),⟨.cons rfl (.cons rfl (.cons rfl (.cons rfl (.cons rfl (.cons (by rw [hnx];rfl) (.cons rfl (.cons rfl (.cons rfl (.cons rfl (.cons rfl (.cons rfl (.cons rfl (.cons rfl (.cons rfl (.cons rfl .nil))))))))))))))),rfl⟩,by rw [hnx];exact oW,jD (o2Z.below hb1) (o1Z.below hb1) (by decide) gW,hUb.trans (qS (o1Z.below hb1) hUb.size (UZ _) gW)⟩
    ·have hc:¬ (j:Int)<(xe.ev.length:Int):=dF hc;obtain rfl:j=xe.ev.length:=(by omega);rw [QA] at o1 o2;exact⟨(q1,c1,q2,c2),⟨.cons rfl (.cons rfl (.cons rfl (.cons rfl (.cons rfl (.cons (by rw [QA];rfl) (.cons (by rw [QA];rfl) (.cons rfl (.cons rfl (.cons rfl (.cons rfl (.cons rfl (.cons rfl .nil)))))))))))),rfl⟩,o1,o2,hbS⟩
   rintro⟨q1,c1,q2,c2⟩ S ⟨o1,o2,hbS⟩;dsimp only at o1 o2 ⊢;have sS:=hbS.size;have hwS:=hwU.trans (hbS.mono sU);obtain⟨mine,hmine⟩:=nm (jq t xe.ev);have hml:mine.length<=48:=by rw [hmine];have:=znZ t xe.ev;omega
   have hrl:=znN (jq t xe.ev);rw [<- hmine] at o1 hrl;have hPev:(jC R).ev=mine:=by rw [hmine,hown];rfl
   refine⟨Nat×(OA×Nat)×(OA×Nat)×(OA×Nat)×OA×Nat,fun s=>⟨[(1,At0 L),(3,.slice (some ⟨b,o,none⟩) xs.length c),(6,At0 M),(9,i64 (t:Nat)),(11,.slice q1 mine.length c1),(15,At0 s.1),(16,.bool false),(17,i64 0),(27,.slice (some ⟨b,o,none⟩) xs.length c),(28,i64 xs.length),(29,i64 (k:Nat)),(50,.slice (some ⟨b3,o3,none⟩) p.threads.length c3),(51,i64 p.threads.length),(52,i64 (t:Nat))],[]⟩,
    fun s W=>W.heap[s.1]?=some (.cells (zcL (jC R) s.2.1.1 s.2.1.2 s.2.2.1.1 s.2.2.1.2 s.2.2.2.1.1 s.2.2.2.1.2 s.2.2.2.2.1 s.2.2.2.2.2).toArray 73 (0,0))/\OwnS evE 60 U.heap.size W s.2.1.1 s.2.1.2 mine/\OwnS evE 60 U.heap.size W q1 c1 mine/\Bw U W,?_,?_⟩
   ·refine cmo (zpc (hsl.below hbS) o2.row hth (hG.below hwS) (fun hne a ha=>nL (hrb hne a ha) (UP sU sS)) (fun hne a ha=>(zp o2 ha).2.1) (by rw [<- hmine];omega) hfol) ?_;rintro e T ⟨⟨r1,d1,r2,d2,r3,d3,r4,d4,rfl,oP⟩,hbT⟩;rw [hPev] at oP;exact zn (X:=T) (v := .agg (zcL (jC R) r1 d1 r2 d2 r3 d3 r4 d4).toArray) k73 (zea ..) rfl (zd9 ..) fun W hbW fW sW=>⟨(T.heap.size,(r1,d1),(r2,d2),(r3,d3),r4,d4),⟨.cons rfl (.cons rfl (.cons rfl (.cons rfl (.cons (by rw [hmine];rfl) (.cons rfl (.cons rfl (.cons rfl (.cons rfl (.cons rfl (.cons rfl (.cons rfl (.cons rfl (.cons rfl .nil))))))))))))),rfl⟩,fW,(oP.lower sS).below hbW,(o1.below hbT).below hbW,(hbS.trans (hbT.mono sS)).trans (hbW.mono (UP sS hbT.size))⟩
   clear o1 o2 hwS hbS sS S;rintro⟨N,⟨r1,d1⟩,⟨r2,d2⟩,⟨r3,d3⟩,r4,d4⟩ W ⟨fN,oP,o1,hbW⟩;dsimp only at fN oP ⊢;have fMW:=zb hbW fM;refine⟨Unit,fun _=>⟨[(1,At0 L),(3,.slice (some ⟨b,o,none⟩) xs.length c),(6,At0 M),(11,.slice q1 mine.length c1),(15,At0 N),(27,.slice (some ⟨b,o,none⟩) xs.length c),(28,i64 xs.length),(29,i64 (k:Nat)),(50,.slice (some ⟨b3,o3,none⟩) p.threads.length c3),(51,i64 p.threads.length),(52,i64 (t:Nat))],[]⟩,fun _ W2=>W2=W.drew,?_,?_⟩
   ·refine DrawE.ord [] [0,1,2,3,4,5,6,7,8,9,10,11,12,13,14,15,16,17,18,19,20,21,22] (by kernel_rfl) (brF (brF ⟨_,zc (za (hdr fN)) (i:=0) rfl,brN (by rw [hPev,Uv rfl];rfl) ⟨seg 8 (fun i=>u8 (R.regs i)),zo _ _,zkB (za (hdr fN)),hlt (hdr fN),t,rfl,by omega,?_⟩⟩));exact⟨seg 8 (fun i=>u8 (xe.regs (8*t+i))),zo _ _,zop (hdr fMW) (by omega),hlt (hdr fMW),_,fun w=>zn4 _ _ _ _ (fun i hi=>(hregs i hi).symm) w,brF ⟨(),(cvE rfl rfl),rfl⟩⟩
   rintro _ W2 hW2;replace fN:W2.heap[N]?=some (.cells (zcL (jC R) r1 d1 r2 d2 r3 d3 r4 d4).toArray 73 (0,0)):=by rw [hW2];exact hdr fN
   replace oP:OwnS evE 60 U.heap.size W2 r1 d1 mine:=by rw [hW2];exact oP.drew
   replace o1:OwnS evE 60 U.heap.size W2 q1 c1 mine:=by rw [hW2];exact o1.drew
   replace hbW:Bw U W2:=by rw [hW2];exact hbW.drew
   clear hW2 fMW;refine⟨Nat,fun j=>⟨[(1,At0 L),(3,.slice (some ⟨b,o,none⟩) xs.length c),(6,At0 M),(11,.slice q1 mine.length c1),(15,At0 N),(27,.slice (some ⟨b,o,none⟩) xs.length c),(28,i64 xs.length),(29,i64 (k:Nat)),(50,.slice (some ⟨b3,o3,none⟩) p.threads.length c3),(51,i64 p.threads.length),(52,i64 (t:Nat)),(112,.slice q1 mine.length c1),(113,i64 mine.length),(114,i64 (j:Nat))],[]⟩,fun j Z=>j<=mine.length/\Bw W2 Z,fun j=>mine.length-j,0,(cvE rfl rfl),⟨Gc _,Ge _ _⟩,?_⟩;rintro j Z ⟨hj,hbZ⟩;refine biE (fun hc=>?_) fun hc=>?_
   ·have hc:(j:Int)<(mine.length:Int):=dT hc;have hjl:j<mine.length:=(by omega);obtain⟨ba,oa,rfl,hla,hata⟩:=o1.row.at hjl;obtain⟨bd,od,rfl,hld,hatd⟩:=oP.row.at hjl;have hZd:=hbZ.size;have dZ:Bw Z Z.drew:=(Ge _ _).drew;have hbD:=hbZ.trans (dZ.mono hZd);refine DrawE.ord [] [0,1,2,3,4,5,6,7,8,9] (by kernel_rfl) ⟨j,rfl,hjl,evE.enc mine[j],rfl,zm hbD (hata j hjl),nL hla hbD.size,.slice (some ⟨bd,od,none⟩) (jC R).ev.length d1,zc (za (zb hbD fN)) (i:=0) rfl,j,rfl,by rw [hPev];exact hjl,?_⟩;exact⟨evE.enc mine[j],rfl,zm hbD (hatd j hjl),nL hld hbD.size,_,fun w=>zkG _ _ _ _ w,brN (by rw [Uv rfl];rfl) (nxI (by omega) ⟨j+1,(cvE rfl rfl),⟨hjl,hbD⟩,zdc (by omega)⟩)⟩
   ·exact⟨(),(cvE rfl rfl),(zst hbW hbZ)⟩
  ·exact⟨(),(cvE rfl rfl),hbU⟩
 ·have hwZ:=hwY.trans (hbZ.mono sYw);refine cmo (aw Z hwZ) ?_;rintro e U ⟨rfl,hbU⟩;exact⟨rfl,hbU⟩
end
end Go.Proofs.YtpalcnbhkigagaaGreatDoor
namespace Go.Proofs.YtpalcnbhkigagaaGreatDoor
open Go.Vc Go.RowKit Go.Sei
open Go.ChangeShapes Go.WideShapes Go.ChangeAt
section
variable {H:Type} {enc:TypeId×Value->H} {P:Program} {w:Wd} {base:Nat} {spare:Nat->Bool} {held:Bool} {fuel:Nat} {t:TypeId} {cs:List Value} {x:DataW H×List MemPlace}
theorem zlJ (ht:P.underlying t=some (.int .u8)) (h:DataW.trod enc P w base spare held fuel t cs=some x):∃ b:UInt8,cs=[u8 b]/\x.1 = .lit (.int .u8 b.toNat):=by
 obtain⟨n,rfl,rfl,hw⟩:=DataW.trod_int ht h;have hb:=bounds_u8 hw;have e:((UInt8.ofNat n.toNat).toNat:Int)=n:=by
  rw [KL];omega
 exact⟨UInt8.ofNat n.toNat,by rw [u8,e],by rw [e]⟩
theorem zgl {n:Nat} {e:TypeId} (ht:P.underlying t=some (.array n e)) (he:P.underlying e=some (.int .u8)) (hc:P.cellsOf e=1) (hn:P.cellsOf t=n)
  (h:DataW.trod enc P w base spare held fuel t cs=some x):∃ bs:List UInt8,bs.length=n/\cs=bs.map u8/\x.1 = .agg (bs.map fun b => .lit (.int .u8 b.toNat)):=by
 obtain⟨xs,m,rfl,rfl,hl,hx,hel⟩:=DataW.trod_array ht h;rw [hn] at hl;have each:∀ i (h:i<n),∃ b:UInt8,cs[i]?=some (u8 b)/\xs[i]?.map (·.1)=some (.lit (.int .u8 b.toNat)):=fun i hi=>by
  have h1:=hel i hi;rw [hc,gE (by omega)] at h1;obtain⟨b,h2,h3⟩:=zlJ he h1;refine⟨b,?_,by rw [gE (by omega),Uh,h3]⟩;have:((cs.drop (i*1)).take 1)[0]?=some (u8 b):=by rw [h2];rfl
  simpa using this
 have:∀ k,k<=n->∃ bs:List UInt8,bs.length=k/\cs.take k=bs.map u8/\(xs.take k).map (·.1)=bs.map fun b => .lit (.int .u8 b.toNat):=by
  intro k
  induction k with
  | zero=>exact fun _=>⟨[],rfl,by simp,by simp⟩
  | succ k ih =>
   intro hk;obtain⟨bs,h1,h2,h3⟩:=ih (by omega);obtain⟨b,h4,h5⟩:=each k (by omega);have hk1:k<cs.length:=by omega
   have hk2:k<xs.length:=by omega
   rw [gE hk1] at h4;rw [gE hk2] at h5;refine⟨bs++[b],by simp [h1],?_,?_⟩
   ·rw [tsg hk1,h2,Ui h4];simp
   ·rw [tsg hk2,QU,h3];simp at h5;simp [h5]
 obtain⟨bs,h1,h2,h3⟩:=this n (UZ _);rw [JI (by omega)] at h2 h3;exact⟨bs,h1,h2,by rw [<- h3]⟩
end
theorem zaQ:Tryz.prog.cellsOf 5=1:=by kernel_rfl
theorem zrF:Tryz.prog.cellsOf 4=1:=by kernel_rfl
theorem zj8 (b o i:Nat):(⟨b,o,none⟩:Addr).add i=⟨b,o+i,none⟩:=by
 unfold Addr.add;by_cases h:i=0
 ·simp [h]
 ·simp [h]
section
variable {w:Wd} {base:Nat} {cs:List Value}
theorem ziH {a:Addr} {n:Nat} (hn:0<n) (h:w.cells? base a n=some cs):a.spot=none/\a.block<w.heap.size/\zw w ⟨a.block,a.off,none⟩ cs:=by
 obtain⟨_,hl,hc⟩:=World.cells?_some h;have h0:=hc 0 hn;rw [gE (by omega)] at h0;have hs:a.spot=none:=by simpa [Addr.add] using World.cell?_spot h0
 obtain⟨b,o,s⟩:=a;dsimp only at hs;subst hs;refine⟨rfl,JB _ _ h0,j9 fun i v hv=>?_⟩;have hi:i<n:=by have:=(Jt.1 hv).1;omega
 have:=(hc i hi).trans hv;rw [zj8] at this;exact this
end
theorem znD:ownKnob Tryz.prog.godebug=none:=by kernel_rfl
theorem zh8:laidOutB PG=true:=by kernel_rfl
section
variable {H:Type} {enc:TypeId×Value->H} {P:Program} {w:Wd} {base:Nat} {spare:Nat->Bool} {held:Bool} {fuel:Nat} {t e:TypeId} {cs:List Value} {x:DataW H×List MemPlace}
def Opens (enc:TypeId×Value->H) (P:Program) (w:Wd) (base:Nat) (spare:Nat->Bool) (held:Bool) (t:TypeId) (R:List Value->Prop):Prop :=
 ∀ fuel cs x,DataW.trod enc P w base spare held fuel t cs=some x->R cs
theorem Opens.field {fs:Array Field} {R:List Value->Prop} {i:Nat} {f:Field} {n:Nat} {xs:List (DataW H×List MemPlace)} {m:Nat} (hel:∀ (i:Nat) (f:Field),fs[i]?=some f->DataW.trod enc P w base spare held m f.type ((cs.drop f.offset).take (P.cellsOf f.type))=xs[i]?)
  (hl:xs.length=fs.size) (hi:fs[i]?=some f) {o:Nat} (hoo:f.offset=o) (hn:P.cellsOf f.type=n) (ho:Opens enc P w base spare held f.type R):R ((cs.drop o).take n):=by
 subst hoo;have h1:=hel i f hi;have:i<fs.size:=(Jl.1 hi).1;rw [gE (by omega),hn] at h1;exact ho _ _ _ h1
theorem jE (ht:P.underlying t=some (.int .u8)):Opens enc P w base spare held t fun cs=>∃ b:UInt8,cs=[u8 b]:=fun fuel cs x h=>by
 obtain⟨b,h,_⟩:=zlJ ht h;exact⟨b,h⟩
theorem zkD (ht:P.underlying t=some .bool):Opens enc P w base spare held t fun cs=>∃ b:Bool,cs=[.bool b]:=fun fuel cs x h=>by
 obtain⟨b,h,_⟩:=DataW.trod_bool ht h;exact⟨b,h⟩
theorem zpC {β:Type} {n:Nat} (i0:β) {Q:Nat->β->Prop} (h:∀ i,i<n->∃ b,Q i b):∃ bs:List β,bs.length=n/\∀ i (hi:i<bs.length),Q i bs[i]:=by
 have h2:∀ i,∃ b,i<n->Q i b:=fun i=>by
  by_cases hi:i<n
  ·obtain⟨b,hb⟩:=h i hi;exact⟨b,fun _=>hb⟩
  ·exact⟨i0,fun h=>Gt h hi⟩
 obtain⟨g,hg⟩:=Classical.axiomOfChoice h2;refine⟨(List.range n).map g,by simp,fun i hi=>?_⟩;simp only [Qu,KC];exact hg i (by simpa using hi)
theorem cut (cs:List Value) (o n o':Nat) (h:o+n=o'):cs.drop o=(cs.drop o).take n++cs.drop o':=by
 rw [<- h,<- Un,JR]
end
theorem cC (t n:Nat) (h:Tryz.prog.cellsOf t=n):Tryz.prog.cellsOf t=n:=h
theorem zd2 {H:Type} {enc:TypeId×Value->H} {a:Assume} {C:Checked} {os:Os} {f:FuncId} {fn:Func} {s:ChangeSpec} {conds:List PathCond} {apart fresh handsOn again:Bool} {X:Wd->Array Value->Prop}
  (hX:∀ (w w':Wd) (args:Array Value),w.heap=w'.heap->X w args->X w' args)
  (own:ownKnob C.prog.godebug=none) (started:os.Started) (noInit:C.prog.inits.idxOf? f=none) (hfn:C.prog.funcs[f]?=some fn)
  (witness:∃ (w:Wd) (tape:Tape) (i:Input),w.os=os/\(w.forCall tape i).Shaped C.prog/\i.vars=[]/\Input.okWide C.prog (w.forCall tape i) .any w.heap.size f i /\
   ((s.pre enc C.prog fn conds apart (w.forCall tape i).memory i.args/\X (w.forCall tape i).memory i.args)/\sizedMet enc C.prog fn (OpenSpec.ofChange s) apart (w.forCall tape i).memory i.args)/\a.holds C.prog (lone (Frame.enter C.prog f i.args .normal) [] (w.forCall tape i)))
  (contract:∀ (W:Wd) (base:Nat) (args:Array Value) (ds gs:List (DataW H)) (before:List MemPlace),
   (∀ (j:Nat) t v,fn.params[j]?=some t->args[j]?=some v->Value.okWide C.prog W .any base t v) ->
   DataW.Whole enc C.prog fn.params.toList s.vars apart W args.toList ds gs before->X W args->W.ShapedOpen C.prog ->
   (∃ ds gs before,DataW.Whole enc C.prog fn.params.toList (OpenSpec.ofChange s).vars apart W args.toList ds gs before/\∀ n∈DataW.weightsEach C.prog (fn.params.toList++(OpenSpec.ofChange s).bare.plain.varTypes C.prog) (ds++gs),n<=reachBytes) ->
   Calls C.prog f args W fun e W'=>∃ v,e = .returned v/\s.post enc C.prog fn apart fresh handsOn again W args v W') :
  ReturnsInHanded a C os f .any (fun w args=>(s.pre enc C.prog fn conds apart w args/\X w args)/\sizedMet enc C.prog fn (OpenSpec.ofChange s) apart w args) (s.post enc C.prog fn apart fresh handsOn again):=by
 refine returnsInHanded_of_calls own started noInit witness ?_;intro w tape i _ hsh _ hok hpre hholds;obtain⟨_,_,_,fn',hfn',_,_,_,_,hval⟩:=hok;have e:fn'=fn:=Ui (hfn'.symm.trans hfn);subst e;obtain⟨⟨⟨ds,gs,before,hw,hc⟩,hx⟩,hz⟩:=hpre;have hw':=DataW.Whole.of_heap (w':=w.forCall tape i) (by rfl) hw;obtain⟨_,ds2,gs2,before2,hw2,hall⟩:=hz;refine (contract (w.forCall tape i) w.heap.size i.args ds gs before hval hw' (hX _ _ _ (by rfl) hx) hsh ⟨ds2,gs2,before2,DataW.Whole.of_heap (w':=w.forCall tape i) (by rfl) hw2,fun n hn=>dT (Qn.1 hall n hn)⟩).mono fun e W' ⟨v,he,hp⟩=>?_;subst he;exact ChangeSpec.post_blind hp
section
variable {H:Type} {enc:TypeId×Value->H} {P:Program} {w:Wd} {base:Nat} {spare:Nat->Bool} {held:Bool} {fuel:Nat} {t:TypeId} {cs:List Value} {x:DataW H×List MemPlace}
def Wgt (P:Program) (t:TypeId) (d:DataW H):Prop:=∀ n∈d.weights P t,n<=reachBytes
theorem zpi {ds:List (DataW H)} {e:TypeId} (h:∀ n∈DataW.weightsAll P e ds,n<=reachBytes):∀ d∈ds,Wgt P e d:=by
 induction ds with
 | nil=>intro d hd;cases hd
 | cons a r ih =>
  intro d hd;simp only [DataW.weightsAll,QV] at h;rcases UF.1 hd with rfl | hd
  ·exact fun n hn=>h n (.inl hn)
  ·exact ih (fun n hn=>h n (.inr hn)) d hd
end
theorem zgs {H:Type}:∀ {a b:List UInt8},a.map (fun b=>(DataW.lit (.int .u8 b.toNat):DataW H))=b.map (fun b=>DataW.lit (.int .u8 b.toNat))->a=b
 | [],[],_=>rfl
 | [],_::_,h=>by cases h
 | _::_,[],h=>by cases h
 | x::a,y::b,h=>by
  simp only [UE,QO,DataW.lit.injEq,Lit.int.injEq,true_and] at h;rw [zgs h.2,Uj.1 (by omega:x.toNat=y.toNat)]
section
variable {H:Type} {enc:TypeId×Value->H} {P:Program} {w:Wd} {base:Nat} {spare:Nat->Bool} {held:Bool} {fuel F:Nat} {t e:TypeId} {cs:List Value} {x:DataW H×List MemPlace}
def OpensW (enc:TypeId×Value->H) (P:Program) (w:Wd) (base:Nat) (spare:Nat->Bool) (held:Bool) (F:Nat) (t:TypeId) (R:List Value->Prop):Prop :=
 ∀ n,n<F->∀ cs x,DataW.trod enc P w base spare held n t cs=some x->Wgt P t x.1->R cs
theorem zaM {R:List Value->Prop} (h:Opens enc P w base spare held t R):OpensW enc P w base spare held F t R:=fun n _ cs x h1 _=>h n cs x h1
theorem OpensW.field {fs:Array Field} {R:List Value->Prop} (ht:P.underlying t=some (.struct fs)) (h:DataW.trod enc P w base spare held fuel t cs=some x) (hw:Wgt P t x.1) (hF:fuel<=F) {i:Nat} {f:Field} (hf:fs[i]?=some f) {T o k:Nat} (hT:f.type=T) (hO:f.offset=o) (hk:P.cellsOf T=k)
  (ho:OpensW enc P w base spare held F T R):R ((cs.drop o).take k):=by
 subst hT hO hk;obtain⟨xs,n,rfl,rfl,hl,hx,hel⟩:=KO ht h;have h1:=hel i f hf;have hi:i<xs.length:=by rw [hx];exact (Jl.1 hf).1
 rw [gE hi] at h1;refine ho n (by omega) _ _ h1 fun m hm=>hw m ?_;simp only [DataW.weights,ht];refine DataW.weights_mem_each (j:=i) (t:=f.type) (d:=xs[i].1) ?_ ?_ m hm
 ·rw [KY];have:fs.toList[i]?=some f:=by simpa using hf
  rw [this];rfl
 ·rw [KY,gE hi];rfl
theorem zgj (ht:P.underlying t=some .string):OpensW enc P w base spare held F t fun cs=>∃ s:List UInt8,s.length<=140737488351232/\cs=[qi s]:=fun n _ cs x h hw=>by
 obtain⟨s,rfl,rfl,_⟩:=DataW.trod_string ht h;refine⟨s.data.toList,hw _ (by simp [DataW.weights]),?_⟩;unfold qi bs;rw [Array.toArray_toList]
theorem zb6 {β:Type} (i0:β) {f:β->List Value} {Q:β->Prop} {sz:Nat} (hp:0<sz) (ht:P.underlying t=some (.slice e)) (hc:P.cellsOf e=sz) (hb:Nat.ble 1 (P.bytesOf e)=true) (ho:OpensW enc P w base spare held F e fun cs=>∃ b,Q b/\cs=f b) :
  OpensW enc P w base spare held (F+1) t fun cs=>∃ (p:OA) (cap:Nat) (l:List β),cs=[.slice p l.length cap]/\(l.length<=140737488351232/\l.length*P.bytesOf e<=140737488351232)/\l.length<=cap/\(∀ b∈l,Q b)/\∃ b o,(l.length=0\/p=some ⟨b,o,none⟩)/\∀ i (hi:i<l.length),b<w.heap.size/\zw w ⟨b,o+i*sz,none⟩ (f l[i]):=fun n hn cs x h hw=>by
 rcases DataW.trod_slice ht h with ⟨rfl,_⟩ | ⟨a,len,cap,elems,qr,n,rfl,rfl,hx,_,hlc,hcm,hlen,hel,_,_⟩
 ·exact⟨none,0,[],rfl,⟨by simp,by simp⟩,by simp,by simp,0,0,.inl rfl,fun i hi=>by simp at hi⟩
 ·subst hx;have hw':∀ m,m∈((elems.map (·.1)).length+(qr.map (·.1)).length)*P.bytesOf e::(DataW.weightsAll P e (elems.map (·.1))++DataW.weightsAll P e (qr.map (·.1)))->m<=reachBytes:=fun m hm=>by
   refine hw m ?_;simp only [DataW.weights,ht];exact hm
  have hb:=JT hb;have hlb:len<=140737488351232/\len*P.bytesOf e<=140737488351232:=by
   have h1:=hw' _ KD;simp only [QR] at h1;have:elems.length*1<=(elems.length+qr.length)*P.bytesOf e:=Ut (QC _ _) hb;have h2:elems.length*P.bytesOf e<=(elems.length+qr.length)*P.bytesOf e:=Ut (QC _ _) (UZ _);have hr:reachBytes=140737488351232:=rfl;rw [<- hlen];omega
  have each:∀ i,i<len->∃ m:β,Q m/\(a.add (i*sz)).spot=none/\(a.add (i*sz)).block<w.heap.size/\zw w ⟨(a.add (i*sz)).block,(a.add (i*sz)).off,none⟩ (f m):=fun i hi=>by
   have h1:=hel i hi;rw [hc,gE (by omega),Option.bind_eq_some_iff] at h1;obtain⟨cs,h2,h3⟩:=h1;obtain⟨m,hq,rfl⟩:=ho n (by omega) _ _ h3 (zpi (ds:=elems.map (·.1)) (fun m hm=>hw' m (JZ _ (JY _ hm))) _ (Kq (gM _)));exact⟨m,hq,ziH hp h2⟩
  obtain⟨l,h1,h2⟩:=zpC i0 each;refine⟨some a,cap,l,by rw [h1],by rw [h1];exact hlb,by omega,fun b hb=>?_,a.block,a.off,?_,fun i hi=>?_⟩
  ·obtain⟨i,hi,rfl⟩:=Km hb;exact (h2 i hi).1
  ·by_cases h00:l.length=0
   ·exact .inl h00
   ·right;have hsp:a.spot=none:=by
     have:=(h2 0 (by omega)).2.1;simpa [Addr.add] using this
    obtain⟨b,o,s⟩:=a;dsimp only at hsp;subst hsp;rfl
  ·have hsp:a.spot=none:=by
    have:=(h2 0 (by omega)).2.1;simpa [Addr.add] using this
   obtain⟨b,o,s⟩:=a;dsimp only at hsp;subst hsp;have:=(h2 i hi).2.2;rw [zj8] at this;exact this
end
section
variable {H:Type} {enc:TypeId×Value->H} {P:Program} {w:Wd} {base:Nat} {spare:Nat->Bool} {held:Bool} {fuel F:Nat} {t e:TypeId} {cs:List Value} {x:DataW H×List MemPlace}
theorem zeK {α:Type} {E:Enc α} {p:OA} {l:List α} (h:∃ b o,(l.length=0\/p=some ⟨b,o,none⟩)/\∀ i (hi:i<l.length),b<w.heap.size/\zw w ⟨b,o+i*E.sz,none⟩ (E.enc l[i])):RowB E w.heap.size w p l:=by
 obtain⟨b,o,hp,hc⟩:=h;by_cases h0:l=[]
 ·exact .inl h0
 ·have hl0:0<l.length:=List.length_pos_iff.2 h0;rcases hp with hp | rfl
  ·omega
  ·exact RowB.of_slr (.inr ⟨b,o,rfl,(hc 0 hl0).1,fun i hi=>(hc i hi).2⟩)
end
section
variable {H:Type} {enc:TypeId×Value->H} {w:Wd} {base:Nat} {spare:Nat->Bool} {held:Bool} {F:Nat}
theorem zhA:Opens enc PG w base spare held 39 fun cs=>∃ (r:Bool) (n:UInt8),cs=[.bool r,u8 n]:=fun fuel cs x h=>by
 obtain⟨xs,m,rfl,rfl,hl,hx,hel⟩:=KO Tryz.underlying39 h;rw [cC 39 2 (by kernel_rfl)] at hl;obtain⟨b0,e0⟩:=Opens.field (o:=0) (i:=0) hel hx rfl rfl zrF (zkD Tryz.underlying4);obtain⟨b1,e1⟩:=Opens.field (o:=1) (i:=1) hel hx rfl rfl zaQ (jE Tryz.underlying5);refine⟨b0,b1,?_⟩;have h0:cs=cs.drop 0:=rfl;have h9:cs.drop 2=[]:=JD (by omega);rw [h0,cut cs 0 1 1 rfl,cut cs 1 1 2 rfl,e0,e1,h9];rfl
theorem zmJ:Opens enc PG w base spare held 41 fun cs=>∃ x:InsD,True/\cs=zH.enc x:=fun fuel cs x h=>by
 obtain⟨xs,m,rfl,rfl,hl,hx,hel⟩:=KO Tryz.underlying41 h;rw [cC 41 10 (by kernel_rfl)] at hl;obtain⟨b0,e0⟩:=Opens.field (o:=0) (i:=0) hel hx rfl rfl zaQ (jE Tryz.underlying5);obtain⟨b1,e1⟩:=Opens.field (o:=1) (i:=1) hel hx rfl rfl zaQ (jE Tryz.underlying5);obtain⟨b2,e2⟩:=Opens.field (o:=2) (i:=2) hel hx rfl rfl zaQ (jE Tryz.underlying5);obtain⟨r3,n3,e3⟩:=Opens.field (o:=3) (i:=3) hel hx rfl rfl (cC 39 2 (by kernel_rfl)) zhA;obtain⟨r4,n4,e4⟩:=Opens.field (o:=5) (i:=4) hel hx rfl rfl (cC 39 2 (by kernel_rfl)) zhA;obtain⟨b5,e5⟩:=Opens.field (o:=7) (i:=5) hel hx rfl rfl zaQ (jE Tryz.underlying5);obtain⟨b6,e6⟩:=Opens.field (o:=8) (i:=6) hel hx rfl rfl zaQ (jE Tryz.underlying5);obtain⟨b7,e7⟩:=Opens.field (o:=9) (i:=7) hel hx rfl rfl zaQ (jE Tryz.underlying5);refine⟨⟨b0,b1,b2,r3,n3,r4,n4,b5,b6,b7⟩,trivial,?_⟩;have h0:cs=cs.drop 0:=rfl;have h9:cs.drop 10=[]:=JD (by omega);rw [h0,cut cs 0 1 1 rfl,cut cs 1 1 2 rfl,cut cs 2 1 3 rfl,cut cs 3 2 5 rfl,cut cs 5 2 7 rfl,cut cs 7 1 8 rfl,cut cs 8 1 9 rfl,cut cs 9 1 10 rfl,e0,e1,e2,e3,e4,e5,e6,e7,h9];rfl
theorem zkE:OpensW enc PG w base spare held F 42 fun cs=>∃ x:zla,(x.1.length<=140737488351232/\RowB zH w.heap.size w x.2.1 x.1)/\cs=zns.enc x:=fun n hn cs x h hw=>by
 obtain⟨p,cap,l,h1,h2,_,_,h3⟩:=zb6 (F:=n) (⟨0,0,0,false,0,false,0,0,0,0⟩:InsD) (f:=zH.enc) (Q:=fun _=>True) (sz:=10) (by decide) Tryz.underlying42 (by kernel_rfl) (by kernel_rfl) (zaM zmJ) n (QE n) cs x h hw;exact⟨(l,p,cap),⟨h2.1,zeK h3⟩,h1⟩
theorem zgk:∀ F,OpensW enc PG w base spare held F 27 fun cs=>∃ x:Cnd×OA×Nat,KidsV w.heap.size w x.2.1 x.1.kids/\cs=jO x.1 x.2.1 x.2.2
 | 0=>fun n hn=>Gt hn (Ue _)
 | F+1=>fun n hn cs x h hw=>by
  have ih:=zgk F;have hF:n<=F+1:=by omega
  have hl:cs.length=5:=by
   obtain⟨xs,m,_,_,hl,_,_⟩:=KO Tryz.underlying27 h;rw [cC 27 5 (by kernel_rfl)] at hl;exact hl
  obtain⟨b0,e0⟩:=OpensW.field (F:=F+1) (o:=0) (i:=0) Tryz.underlying27 h hw hF rfl rfl rfl zaQ (zaM (jE Tryz.underlying5));obtain⟨b1,e1⟩:=OpensW.field (F:=F+1) (o:=1) (i:=1) Tryz.underlying27 h hw hF rfl rfl rfl zaQ (zaM (jE Tryz.underlying5));obtain⟨b2,e2⟩:=OpensW.field (F:=F+1) (o:=2) (i:=2) Tryz.underlying27 h hw hF rfl rfl rfl zaQ (zaM (jE Tryz.underlying5));obtain⟨b3,e3⟩:=OpensW.field (F:=F+1) (o:=3) (i:=3) Tryz.underlying27 h hw hF rfl rfl rfl zaQ (zaM (jE Tryz.underlying5));obtain⟨p,cap,l,e4,hll,_,hQ,b,o,hp,hc⟩:=OpensW.field (F:=F+1) (o:=4) (i:=4) Tryz.underlying27 h hw hF rfl rfl rfl (cC 25 1 (by kernel_rfl))
   (zb6 (F:=F) ((.mk 0 0 0 0 [],none,0):Cnd×OA×Nat) (f:=fun x=>jO x.1 x.2.1 x.2.2) (Q:=fun x=>KidsV w.heap.size w x.2.1 x.1.kids) (sz:=5) (by decide) Tryz.underlying25 (by kernel_rfl) (by kernel_rfl) ih)
  refine⟨(.mk b0 b1 b2 b3 (l.map (·.1)),p,cap),?_,?_⟩
  ·refine .mk p (l.map (·.1)) (by rw [QR];have:=hll.2;rw [show Tryz.prog.bytesOf 27=32 by kernel_rfl] at this;exact this) b o (by rw [QR];exact hp) (fun i=>(l.getD i (.mk 0 0 0 0 [],none,0)).2.1) (fun i=>(l.getD i (.mk 0 0 0 0 [],none,0)).2.2) (fun i hi=>?_) (fun i hi=>?_)
   ·have hi':i<l.length:=(by rw [QR] at hi;exact hi);have e:l.getD i (.mk 0 0 0 0 [],none,0)=l[i]:=(by rw [gDe,gE hi'];rfl);rw [e,Qu];exact hc i hi'
   ·have hi':i<l.length:=(by rw [QR] at hi;exact hi);have e:l.getD i (.mk 0 0 0 0 [],none,0)=l[i]:=(by rw [gDe,gE hi'];rfl);rw [e,Qu];exact hQ _ (gM hi')
  ·have h0:cs=cs.drop 0:=rfl;have h9:cs.drop 5=[]:=JD (by omega);rw [h0,cut cs 0 1 1 rfl,cut cs 1 1 2 rfl,cut cs 2 1 3 rfl,cut cs 3 1 4 rfl,cut cs 4 1 5 rfl,e0,e1,e2,e3,e4,h9];simp [jO,Cnd.kind,Cnd.thread,Cnd.n,Cnd.val,Cnd.kids]
end
section
variable {H:Type} {enc:TypeId×Value->H} {w:Wd} {base:Nat} {spare:Nat->Bool} {held:Bool} {F:Nat}
theorem zjp:OpensW enc PG w base spare held F 29 fun cs=>∃ p:Prg,PrgX w.heap.size w cs p:=fun n hn cs x h hw=>by
 have hF:n<=n+1:=Nat.le_succ n;have hl:cs.length=10:=by
  obtain⟨xs,m,_,_,hl,_,_⟩:=KO Tryz.underlying29 h;rw [cC 29 10 (by kernel_rfl)] at hl;exact hl
 obtain⟨nm,k0,e0⟩:=OpensW.field (F:=n+1) (o:=0) (i:=0) Tryz.underlying29 h hw hF rfl rfl rfl (cC 9 1 (by kernel_rfl)) (zgj Tryz.underlying9);obtain⟨p1,c1,l1,e1,k1,kc1,q1,r1⟩:=OpensW.field (F:=n+1) (o:=1) (i:=1) Tryz.underlying29 h hw hF rfl rfl rfl (cC 22 1 (by kernel_rfl))
  (zb6 (F:=n) ([]:List UInt8) (f:=zju.enc) (Q:=fun s=>s.length<=140737488351232) (sz:=1) (by decide) Tryz.underlying22 (by kernel_rfl) (by kernel_rfl) (zgj Tryz.underlying9))
 obtain⟨p2,c2,l2,e2,k2,kc2,q2,r2⟩:=OpensW.field (F:=n+1) (o:=2) (i:=2) Tryz.underlying29 h hw hF rfl rfl rfl (cC 23 1 (by kernel_rfl))
  (zb6 (F:=n) (0:UInt8) (f:=zF.enc) (Q:=fun _=>True) (sz:=1) (by decide) Tryz.underlying23 zaQ (by kernel_rfl) (zaM (fun fuel cs x h=>by
   obtain⟨b,hb⟩:=jE Tryz.underlying5 fuel cs x h;exact⟨b,trivial,hb⟩)))
 obtain⟨p3,c3,l3,e3,k3,kc3,q3,r3⟩:=OpensW.field (F:=n+1) (o:=3) (i:=3) Tryz.underlying29 h hw hF rfl rfl rfl (cC 24 1 (by kernel_rfl))
  (zb6 (F:=n) (([],none,0):zla) (f:=zns.enc) (Q:=fun x=>x.1.length<=140737488351232/\RowB zH w.heap.size w x.2.1 x.1) (sz:=1) (by decide) Tryz.underlying24 (by kernel_rfl) (by kernel_rfl) zkE)
 obtain⟨b4,e4⟩:=OpensW.field (F:=n+1) (o:=4) (i:=4) Tryz.underlying29 h hw hF rfl rfl rfl zaQ (zaM (jE Tryz.underlying5));obtain⟨⟨c,p4,c4⟩,hk,e5⟩:=OpensW.field (F:=n+1) (o:=5) (i:=5) Tryz.underlying29 h hw hF rfl rfl rfl (cC 27 5 (by kernel_rfl)) (zgk (n+1));refine⟨⟨nm,l1,l2,l3.map (·.1),b4,c⟩,⟨⟨k0,k1.1,q1,k2.1,by rw [QR];exact k3.1,fun l hl=>?_⟩,p1,c1,p2,c2,p3,c3,p4,c4,?_,zeK r1,zeK r2,⟨l3,rfl,zeK r3,fun x hx=>(q3 x hx).2⟩,hk,kc1⟩,⟨p3,c3,?_,l3,rfl,zeK r3,fun x hx=>⟨(q3 x hx).2,fun hne a ha=>?_⟩⟩,⟨p2,c2,?_,zeK r2⟩⟩
 ·obtain⟨x,hx,rfl⟩:=UM.1 hl;exact (q3 x hx).1
 ·have h0:cs=cs.drop 0:=rfl;have h9:cs.drop 10=[]:=JD (by omega);rw [h0,cut cs 0 1 1 rfl,cut cs 1 1 2 rfl,cut cs 2 1 3 rfl,cut cs 3 1 4 rfl,cut cs 4 1 5 rfl,cut cs 5 5 10 rfl,e0,e1,e2,e3,e4,e5,h9];simp [qE,jO]
 ·have:=Gm (fun l=>l[0]?) e3;simpa using this
 ·have hl:=List.length_pos_iff.2 hne;obtain⟨b,o,e,hb,_⟩:=zd1 (q3 x hx).2 hl;rw [ha] at e;obtain rfl:=Ui e;exact hb
 ·have:=Gm (fun l=>l[0]?) e2;simpa using this
theorem zmK {a:Array Value} {d:DataW H} {p:List MemPlace} (h:DataW.Trod enc PG w base spare held 29 (.agg a) d p) (hw:Wgt PG 29 d):∃ p:Prg,PrgX w.heap.size w a.toList p:=by
 obtain⟨fuel,h⟩:=h;exact zjp (F:=fuel+1) fuel (QE _) _ _ h hw
end
theorem flatMap_map {α:Type} (f:α->Value):∀ l:List (List α),l.flatMap (fun x=>x.map f)=l.flatten.map f
 | []=>rfl
 | a::l=>by rw [KW,flatMap_map f l,List.flatten_cons,QU]
end Go.Proofs.YtpalcnbhkigagaaGreatDoor
namespace Go.Proofs.YtpalcnbhkigagaaGreatDoor
open Go.Vc Go.RowKit Go.Sei
end Go.Proofs.YtpalcnbhkigagaaGreatDoor
namespace Go.Proofs.YtpalcnbhkigagaaGreatDoor
open Go.Vc Go.RowKit Go.Sei
open Go.ChangeShapes Go.WideShapes Go.ChangeAt
structure GlobP (W:Wd):Prop where
 t32:Tz32M W
 t64:Tz64M W
 needs:GlobC W
abbrev zaH : List (String × DataW Unit) := [("math/bits.deBruijn32tab", Rows.laid_math_bits_deBruijn32tab), ("math/bits.deBruijn64tab", Rows.laid_math_bits_deBruijn64tab), ("seisin/check.needs", Rows.laid_seisin_check_needs)]
theorem zbU {W:Wd} (h:laidMetH PG zaH W) (hsh:W.ShapedOpen PG):GlobP W:=by
 have h0:laidMet PG zaH W:=h;have h1:=h0.tail;have h2:=h1.tail;have t32:Tz32M W:=by
  obtain⟨ps,⟨g',t',cs,fuel,p,q,hg',ht',hv,hd,_,_⟩,_⟩:=h0
  obtain rfl := Ui ((show Tryz.prog.globalNamed "math/bits.deBruijn32tab" = some 0 by kernel_rfl).symm.trans hg')
  obtain rfl:=Ui ((show (Tryz.prog.globals[0]?).map (·.type)=some 217 by kernel_rfl).symm.trans ht');obtain⟨bs,h1,h2,h3⟩:=zgl Tryz.underlying217 Tryz.underlying5 (by kernel_rfl) (by kernel_rfl) hd;have hbs:bs=zhf:=by
   have e:(Rows.laid_math_bits_deBruijn32tab:DataW Unit) = .agg (zhf.map fun b => .lit (.int .u8 b.toNat)):=rfl;exact zgs (DataW.agg.inj (h3.symm.trans e))
  subst hbs;refine j9 fun i v hvv=>?_;have hc:=World.var?_cell hg' hv i;rw [<- hvv,<- h2];simpa using hc
 have t64:Tz64M W:=by
  obtain⟨ps,⟨g',t',cs,fuel,p,q,hg',ht',hv,hd,_,_⟩,_⟩:=h1
  obtain rfl := Ui ((show Tryz.prog.globalNamed "math/bits.deBruijn64tab" = some 1 by kernel_rfl).symm.trans hg')
  obtain rfl:=Ui ((show (Tryz.prog.globals[1]?).map (·.type)=some 227 by kernel_rfl).symm.trans ht');obtain⟨bs,h1,h2,h3⟩:=zgl Tryz.underlying227 Tryz.underlying5 (by kernel_rfl) (by kernel_rfl) hd;have hbs:bs=zhe:=by
   have e:(Rows.laid_math_bits_deBruijn64tab:DataW Unit) = .agg (zhe.map fun b => .lit (.int .u8 b.toNat)):=rfl;exact zgs (DataW.agg.inj (h3.symm.trans e))
  subst hbs;refine j9 fun i v hvv=>?_;have hc:=World.var?_cell hg' hv i;rw [<- hvv,<- h2];simpa using hc
 have needs:GlobC W:=by
  obtain⟨ps,⟨g',t',cs,fuel,p,q,hg',ht',hv,hd,_,_⟩,_⟩:=h2
  obtain rfl := Ui ((show Tryz.prog.globalNamed "seisin/check.needs" = some 2 by kernel_rfl).symm.trans hg')
  obtain rfl:=Ui ((show (Tryz.prog.globals[2]?).map (·.type)=some 233 by kernel_rfl).symm.trans ht');obtain⟨bs,h1,h2,h3⟩:=zgl Tryz.underlying233 Tryz.underlying5 (by kernel_rfl) (by kernel_rfl) hd;have hbs:bs=zee:=by
   match bs,h1 with
   | [b0,b1,b2,b3,b4,b5,b6,b7,b8],_ =>
    simp only [Rows.laid_seisin_check_needs,UE,List.map_nil,DataW.agg.injEq,QO,DataW.lit.injEq,Lit.int.injEq,true_and,Gl] at h3;simp only [zee,QO,Gl];obtain⟨a0,a1,a2,a3,a4,a5,a6,a7,a8⟩:=h3;refine⟨?_,?_,?_,?_,?_,?_,?_,?_,?_⟩ <;> (apply Uj.1;simp;omega)
  subst hbs;refine j9 fun i v hvv=>?_;have hc:=World.var?_cell hg' hv i;rw [<- hvv,<- h2];simpa using hc
 exact⟨t32,t64,needs⟩
def zqA:DataW Unit->List Value
 | .lit (.int k n)=>[.int k n]
 | .lit (.string s)=>[.string ⟨s.toArray⟩]
 | _=>[]
def zqz:DataW Unit->List Value
 | .agg ps=>ps.flatMap zqA
 | x=>zqA x
def zoe:DataW Unit->List Value
 | .agg ps=>ps.flatMap zqz
 | x=>zqz x
def znB (h:Array Obj) (g:Nat) (cs:List Value):Array Obj:=h.modify g fun
 | .cells _ t frozen => .cells cs.toArray t frozen
 | o=>o
def zsf (h:Array Obj):Array Obj :=
 let h1:=znB h 0 (zoe Rows.laid_math_bits_deBruijn32tab)
 let h2:=znB h1 1 (zoe Rows.laid_math_bits_deBruijn64tab)
 znB h2 2 (zoe Rows.laid_seisin_check_needs)
noncomputable def zgx (os:Os):Wd :=
 { World.holding PG os ⟨#[],#[],[]⟩ with heap:=zsf (World.holding PG os ⟨#[],#[],[]⟩).heap }
theorem zgw (os:Os) (args:Array Value):laidMetH PG zaH ((zgx os).forCall (fun _ _=>0) ⟨#[],args,[]⟩).memory:=by
 show laidMet PG zaH _;exact laidMet_of_run' 8 (by kernel_rfl) (by kernel_rfl)
end Go.Proofs.YtpalcnbhkigagaaGreatDoor
