/- Contracts of functions, and plain facts, for the law that the last text of this claim proves. -/
import Derived.Test.YtkpaomeeknegpaaGreatDoorQ6
import Derived.Test.YtkpaomeeknegpaaGreatDoorQ4
import Derived.Test.YtkpaomeeknegpaaGreatDoorQ2
import Derived.Test.YtkpaomeeknegpaaGreatDoorQ3
import Derived.Test.YtkpaomeeknegpaaGreatDoorQ1
import Derived.LaidEql
set_option linter.unusedSimpArgs false
set_option linter.unusedVariables false
namespace Go.Proofs.YtkpaomeeknegpaaGreatDoor
open Go.Vc Go.RowKit Go.Sei
def zu1 (μ:Nat->UInt8) (es:List Ev):Nat->UInt8:=es.foldl (fun μ e=>if e.k=2 then upd μ e.l.toNat e.v else μ) μ
def znQ (μ:Nat->UInt8) (es:List Ev):Prop:=∀ A e B,es=A++e::B->e.k=1->e.v=zu1 μ A e.l.toNat
theorem zpF {α:Type}:∀ {a b:List α},a.Nodup->(∀ x∈a,x∈b)->a.length<=b.length
 | [],b,_,_=>UY _
 | x::a,b,hn,h=>by
  obtain⟨h1,h2⟩:=QT.1 hn;obtain⟨s,t,rfl⟩:=List.append_of_mem (h x Kz);have:=zpF (a:=a) (b:=s++t) h2 fun y hy=>by
   have:=h y (JW _ hy);rcases QQ.1 this with h3 | h3
   ·exact JV _ h3
   ·rcases UB.1 h3 with h4 | h4
    ·subst h4;exact Gp hy h1
    ·exact JN _ h4
  rw [lap] at this;rw [Qr,lap,Qr];omega
theorem zf2 {ths:List (List InsD)}:∀ {n:Nat} {vals V:List UInt8},zef ths n vals=some V->jl vals=vals->∀ l∈ths,∀ R∈qq l V,∀ e∈zdh R,e.k=2->e.v∈V
 | 0,vals,V,h,_=>by cases h
 | n+1,vals,V,h,hd=>by
  unfold zef at h
  split at h
  ·cases h
  ·split at h
   ·cases h
   ·split at h
    ·rename_i hlen;have:=Ud h;subst this;intro l hl R hR e he hk;have hin:e.v∈zan ths vals:=by
      unfold zan;refine zbg.2 (JN _ (List.mem_flatMap.2 ⟨l,hl,?_⟩));unfold zap;refine QR.2 ⟨zkW _,Qj.2 ⟨R,hR,?_⟩⟩;unfold zdh at he;obtain⟨i,hi,rfl⟩:=UI.1 he;exact Qj.2 ⟨i,hi,by rw [Uq hk,Uq rfl];rfl⟩
     have hsub:∀ u∈vals,u∈zan ths vals:=fun u hu=>by
      unfold zan;exact zbg.2 (JV _ hu)
     have hn1:vals.Nodup:=by
      rw [<- hd];exact (zcF vals).imp fun h e=>by rw [e] at h;exact Nat.lt_irrefl _ h
     have hn2:(zan ths vals).Nodup:=(zcF _).imp fun h e=>by rw [e] at h;exact Nat.lt_irrefl _ h
     refine Jp fun hno=>?_;have h1:(e.v::vals).length<=(zan ths vals).length:=zpF (QT.2 ⟨hno,hn1⟩) fun u hu=>by
      rcases UB.1 hu with h | h
      ·rw [h];exact hin
      ·exact hsub u h
     rw [Qr] at h1;omega
    ·exact zf2 h (zbh _)
theorem cons_cons {μ:Nat->UInt8} {e:Ev} {es:List Ev}:znQ μ (e::es)↔(e.k=1->e.v=μ e.l.toNat)/\znQ (if e.k=2 then upd μ e.l.toNat e.v else μ) es:=by
 constructor
 ·intro h;exact⟨fun hk=>h [] e es rfl hk,fun A d B hd hk=>h (e::A) d B (by rw [hd];rfl) hk⟩
 ·rintro⟨h1,h2⟩ A d B hd hk
  cases A with
  | nil =>
   rw [QS,QJ] at hd;obtain⟨rfl,rfl⟩:=hd;exact h1 hk
  | cons a A =>
   rw [Qk,QJ] at hd;obtain⟨rfl,hd⟩:=hd;exact h2 A d B hd hk
theorem zkb {ths:List (List InsD)}:∀ {n:Nat} {vals V:List UInt8},zef ths n vals=some V->∀ u∈vals,u∈V
 | 0,vals,V,h=>by cases h
 | n+1,vals,V,h=>by
  unfold zef at h
  split at h
  ·cases h
  ·split at h
   ·cases h
   ·split at h
    ·rw [<- Ud h];exact fun u hu=>hu
    ·intro u hu;refine zkb h u ?_;unfold zan;exact zbg.2 (JV _ hu)
theorem zoF {p:Prg} {V:List UInt8} {took:List PathD} (hO:OkG p) (hc:zcP p V) (hl:took.length=p.threads.length) (hR:∀ (t:Nat) (l:List InsD),p.threads[t]?=some l->∃ R∈qq l V,took[t]?=some (ja R)):∃ m∈qk p V,ChoiceW p.init took m:=by
 have hf:∀ t:Nat,∃ d:Nat,∀ l,p.threads[t]?=some l->∃ R,(qq l V)[d]?=some R/\took[t]?=some (ja R):=fun t=>by
  cases hg:p.threads[t]? with
  | none=>exact⟨0,fun l h=>by cases h⟩
  | some l =>
   obtain⟨R,h1,h2⟩:=hR t l hg;obtain⟨d,hd⟩:=List.mem_iff_getElem?.1 h1;exact⟨d,fun l' h=>by rw [<- Ud h];exact⟨R,hd,h2⟩⟩
 obtain⟨f,hf⟩:=Classical.axiomOfChoice hf;obtain⟨ds,hds⟩:=nm ((List.range p.threads.length).map f);have hdl:ds.length=p.threads.length:=by rw [hds,QL,KU]
 have hda:∀ t,t<p.threads.length->ds[t]?=some (f t):=fun t ht=>by rw [hds,KT,Kh ht];rfl
 have hdm:ds∈qb ((p.threads.map (zH V)).map List.length):=zlf (by rw [hdl,QL,QL]) fun i n d hn hd=>by
  have hi:i<p.threads.length:=by rw [<- hdl];exact (Js.1 hd).1
  rw [hda i hi] at hd;have hg:p.threads[i]?=some p.threads[i]:=gE hi;rw [KT,KT,hg] at hn;have hn:(zH V p.threads[i]).length=n:=Ud hn;obtain⟨R,h1,_⟩:=hf i _ hg;have:=(Js.1 h1).1;have e:(zH V p.threads[i]).length=(qq p.threads[i] V).length:=QL ..;rw [<- Ud hd];omega
 obtain⟨m,hm⟩:=Option.isSome_iff_exists.1 (hc.2.2 ds hdm);obtain⟨hC,_,hth⟩:=zcI hO hdm hm;refine⟨m,List.mem_filterMap.2 ⟨ds,hdm,hm⟩,?_⟩;have hPs:jj (p.threads.map (zH V)) ds=took:=by
  have h1:=(zgC (p.threads.map (zH V)) ds (by rw [QL];exact hdl) (zai hdm).2).1;rw [QL] at h1;refine KO fun t=>?_;by_cases ht:t<p.threads.length
  ·obtain⟨d,d1,R,d2,d3,_⟩:=hth t _ (gE ht);rw [hda t ht] at d1;obtain⟨R',h3,h4⟩:=hf t _ (gE ht);rw [Ud d1,d2] at h3;rw [d3,h4,Ud h3]
  ·rw [JJ (by omega),JJ (by omega)]
 rw [hPs] at hC;exact hC
theorem zpp {k:Nat} {R:RunD} (h:RunW k R) (hm:R.many<=24) {a b:Nat} (hp:(a,b)∈(ja R).rmw):b=a+1:=by
 obtain⟨i,hi,h2⟩:=List.mem_flatMap.1 (show (a,b)∈zc2 R.att R.many from hp);obtain⟨c,hc,he⟩:=UI.1 h2
 cases he
 rcases h.att b (Um.1 hi) with h3 | ⟨d,h3,h4,_⟩
 ·rw [h3,zao] at hc;cases hc
 ·rw [h4] at hc;have h5:=(qW.1 hc).2;rw [Ko] at h5;have:=dT h5;omega
theorem zi3:∀ (Ps:List PathD) (b i j:Nat),(∀ P∈Ps,∀ q∈P.rmw,q.2=q.1+1)->zcQ PathD.rmw b Ps i j->j=i+1
 | [],b,i,j,_,h=>h.elim
 | P::Ps,b,i,j,hP,h=>by
  rcases h with ⟨q,hq,h1,h2⟩ | h
  ·have:=hP P Kz q hq;omega
  ·exact zi3 Ps _ i j (fun Q hQ=>hP Q (JW _ hQ)) h
theorem zsw {p:Prg} {V:List UInt8} {took:List PathD} {m:MixD} (hO:OkG p) (hC:ChoiceW p.init took m) (t1:took.length=p.threads.length) (t2:∀ (t:Nat) (l:List InsD),p.threads[t]?=some l->∃ R∈qq l V,took[t]?=some (ja R)) {a b:Nat} (hb:zg m.base.rm a b=true):b=a+1:=by
 obtain⟨_,_,d3⟩:=zd8 hC.P;rw [hC.base,d3] at hb;refine zi3 took _ a b (fun P hP q hq=>?_) hb;obtain⟨t,ht⟩:=List.mem_iff_getElem?.1 hP;have htl:t<p.threads.length:=by rw [<- t1];exact (Js.1 ht).1
 obtain⟨R,hR,h⟩:=t2 t _ (gE htl);rw [ht] at h;rw [Ud h] at hq;have hle:=hO.tl _ (gM htl);obtain⟨w1,w2⟩:=zqf hle V R hR;exact zpp w1 w2 hq
section
variable {init:List UInt8} {Ps:List PathD} {m:MixD} {ds es:List Nat}
theorem ChoiceW.dig_eq (h:ChoiceW init Ps m) (hd:ds∈qb (zJ m)) (he:es∈qb (zJ m)) (h2:qP (zz m ds).rf (zz m es).rf=true) (h3:qP (zz m ds).co (zz m es).co=true):ds=es:=by
 have l1:=(zai hd).1;have l2:=(zai he).1;have hl:(zJ m).length=m.rs.length+init.length:=by
  unfold zJ;rw [lap,QL,QL,h.wr.1]
 refine KO fun t=>?_;by_cases ht:t<m.rs.length
 ·exact h.rf_dig hd he h2 ht
 ·by_cases ht2:t<m.rs.length+init.length
  ·have:=h.co_dig hd he h3 (l:=t-m.rs.length) (by omega);rw [show m.rs.length+(t-m.rs.length)=t by omega] at this;exact this
  ·rw [JJ (by omega),JJ (by omega)]
end
theorem zeG {p:Prg} {V:List UInt8} (hO:OkG p) {x:ExD} (hx:x∈qi p V):∃ (took:List PathD) (m:MixD),ChoiceW p.init took m/\m∈qk p V/\x∈qt m/\took.length=p.threads.length/\∀ (t:Nat) (l:List InsD),p.threads[t]?=some l->∃ R∈qq l V,took[t]?=some (ja R):=by
 obtain⟨m,hm,hx⟩:=List.mem_flatMap.1 hx;obtain⟨ds,hds,hmd⟩:=List.mem_filterMap.1 hm;obtain⟨hC,hdl,hth⟩:=zcI hO hds hmd;refine⟨_,m,hC,hm,hx,?_,fun t l hg=>?_⟩
 ·rw [(zgC (p.threads.map (zH V)) ds (by rw [QL];exact hdl) (zai hds).2).1,QL]
 ·obtain⟨d,_,R,d2,d3,_⟩:=hth t l hg;exact⟨R,JY d2,d3⟩
theorem zdI {m:MixD} {x:ExD} (h:x∈qt m):jB m 1≠0/\∃ ds∈qb (zJ m),x=zz m ds:=by
 unfold qt at h
 split at h
 ·cases h
 ·rename_i h1;obtain⟨ds,hd,rfl⟩:=UI.1 h;exact⟨h1,ds,hd,rfl⟩
structure CandI (p:Prg) (x:ExD):Prop where
 ok:XOk x
 ini:qF x.ev=p.init.length
 l0:∀ i,i<qF x.ev->(evA x i).k=2/\(evA x i).l.toNat=i
 loc:∀ i,i<x.ev.length->isW x i=true->(evA x i).l.toNat<qF x.ev
 rm:∀ a b,zg x.rm a b=true->b=a+1
theorem zsp {p:Prg} {V:List UInt8} (hO:OkG p) {x:ExD} (hx:x∈qi p V):CandI p x:=by
 obtain⟨took,m,hC,hm,hx,t1,t2⟩:=zeG hO hx;obtain⟨h1,ds,hd,rfl⟩:=zdI hx;have hr:=hC.right hd;have hrl:=hC.rels hd;have hX:XOk (zz m ds):=zoQ ⟨hrl.po.w,hrl.rf.w,hrl.co.w,hrl.dt.w,hrl.ct.w,hrl.rm.w⟩ hr;have hin:qF (zz m ds).ev=p.init.length:=hC.inits;refine⟨hX,hin,fun i hi=>?_,fun i hi hw=>?_,fun a b hb=>zsw hO hC t1 t2 hb⟩
 ·rw [hin] at hi;have h6:=hC.i6;have e:evA (zz m ds) i=⟨-1,2,UInt8.ofNat i,p.init[i],0,0,0⟩:=hC.ini hi;rw [e];exact⟨rfl,by show (UInt8.ofNat i).toNat=i;rw [KH];omega⟩
 ·rw [hin];refine zcN hC.i6 hC.P ?_ (.inr (dT hw));have:evA (zz m ds) i∈m.base.ev:=by
   unfold evA;rw [gDe,gE hi];exact gM hi
  rw [<- hC.base];exact this
def zce (p:Prg) (V:List UInt8) (most:Nat):Bool :=
 zdu p&&(decide (zdQ p=some V)&&((p.threads.all fun l=>decide ((qq l V).length<=4096))&&(((List.range (p.threads.length+1)).all fun k=>decide (zby ((p.threads.take k).map fun l=>(zH V l).length)<=4096)) &&
  (((qb ((p.threads.map (zH V)).map List.length)).all fun ds=>(zhx p.init (jj (p.threads.map (zH V)) ds)).isSome)&&decide (((qk p V).map fun m=>jB m 20001).sum<=most)))))
theorem zoI {p:Prg} {V:List UInt8} {most:Nat} (h:zce p V most=true):zdu p=true/\zcr p V most:=by
 unfold zce at h;simp only [bAT,dE,Qi,Um] at h;obtain⟨h1,h2,h3,h4,h5,h6⟩:=h;exact⟨h1,h2,⟨h3,fun k hk=>h4 k (by omega),h5⟩,h6⟩
section
variable {w:Wd} {B most:Nat} {pc:List Value} {p:Prg} {V:List UInt8}
theorem zq2 (hB:B<=w.heap.size) (hP:PrgX B w pc p) (hG:GlobE w) (hm20:most<=20000) (hq:zce p V most=true) :
  Calls PG 12 #[.agg pc.toArray,i64 most] w fun e w'=>(∃ (xs:List zb0) (q:OA) (c:Nat),e = .returned (.tuple #[.slice q xs.length c,i64 0])/\xs.map (·.1)=qi p V/\OwnS exE 46 w.heap.size w' q c xs/\∀ x∈xs,OwnS evE 49 w.heap.size w' x.2.1 x.2.2 x.1.ev)/\Bw w w':=by
 obtain⟨hok,hc⟩:=zoI hq;refine cmo (zlF hB hP hG hok hm20 fun V _=>zlt (zb9 hok)) ?_;rintro e X ⟨(⟨V',h1,h2⟩ | ⟨h1,_⟩),hb⟩
 ·have:V'=V:=by
   have e1:=h1.1;rw [hc.1] at e1;exact (Ud e1).symm
  subst this;exact⟨h2,hb⟩
 ·exact Gp hc (h1 V)
end
def stI (l v m:UInt8):InsD:=⟨2,0,l,false,v,false,0,0,m,0⟩
def ldI (d l m:UInt8):InsD:=⟨1,d,l,false,0,false,0,0,m,0⟩
def zeb (a b:List InsD):Prg:=⟨[116],[[120],[121]],[0,0],[a,b],1,.mk 0 0 0 0 []⟩
def sbP:Prg:=zeb [stI 0 1 0,ldI 0 1 0] [stI 1 1 0,ldI 0 0 0]
def mpP:Prg:=zeb [stI 0 1 0,stI 1 1 0] [ldI 1 1 0,ldI 0 0 0]
def raP:Prg:=zeb [stI 0 1 0,stI 1 1 2] [ldI 1 1 1,ldI 0 0 0]
def coP:Prg:=zeb [stI 0 1 0,ldI 0 0 0] []
theorem zuV:zce sbP [0,1] 50=true:=by kernel_rfl
def zbW (l:List ExD) (a b:UInt8):List ExD:=l.filter fun x=>decide (x.regs 0=a)&&decide (x.regs 8=b)
def zkk (x:ExD) (want:List UInt8):Bool:=(List.range want.length).all fun i=>decide (zgj (i+1) x=(want.getD i 0).toNat)&&(zdB (i+1) x == decide (want.getD i 0=0))
abbrev sbF:List ExD:=zbW (qi sbP [0,1]) 0 0
abbrev mpF:List ExD:=zbW (qi mpP [0,1]) 0 0
abbrev raF:List ExD:=zbW (qi raP [0,1]) 0 0
abbrev coF:List ExD:=zbW (qi coP [0,1]) 0 0
def zfz (l:List ExD) (i n:Nat) (want:List UInt8):Bool:=decide (l.length=n)&&(l.all ztC&&zkk (l.getD i (ex0 0)) want)
theorem zu0:zce mpP [0,1] 50=true:=by kernel_rfl
theorem zuW:zce raP [0,1] 50=true:=by kernel_rfl
theorem zva:zce coP [0,1] 50=true:=by kernel_rfl
theorem zrc:zfz sbF 0 1 [0,3,0,0,0,0]=true:=by kernel_rfl
theorem zry:zfz mpF 1 2 [0,3,3,0,0,0]=true:=by kernel_rfl
theorem zro:zfz raF 1 2 [0,3,3,0,3,0]=true:=by kernel_rfl
theorem zsj:zfz coF 0 1 [1,1,1,1,1,1]=true:=by kernel_rfl
theorem ztu:(mpF.getD 1 (ex0 0)).regs 9=1:=by kernel_rfl
theorem ztf:(raF.getD 1 (ex0 0)).regs 9=1:=by kernel_rfl
theorem zs6:(qi sbP [0,1]).length<=30000:=JR (by kernel_rfl)
theorem ztv:(qi mpP [0,1]).length<=30000:=JR (by kernel_rfl)
theorem ztg:(qi raP [0,1]).length<=30000:=JR (by kernel_rfl)
theorem ztW:(qi coP [0,1]).length<=30000:=JR (by kernel_rfl)
def atI (op v:UInt8):InsD:=⟨op,0,0,false,v,false,0,0,0,0⟩
def atP (i0 a b op:UInt8):Prg:={ zeb [atI op a] [atI op b] with init:=[i0,0] }
def fW (op a v:UInt8):UInt8:=if op=4 then a else v+a
def atE (i0 v1 w1 v2 w2:UInt8):List Ev:=[⟨-1,2,0,i0,0,0,0⟩,⟨-1,2,1,0,0,0,0⟩,⟨0,1,0,v1,3,0,0⟩,⟨0,2,0,w1,3,0,1⟩,⟨1,1,0,v2,3,0,0⟩,⟨1,2,0,w2,3,0,1⟩]
section
variable {i0 a b op:UInt8} {V:List UInt8}
theorem zt7 (h:op=4\/op=5):zgq (atI op a) 2 0=true:=by
 have e:atI op a=ze3 (atI op a):=by rcases h with rfl | rfl <;> kernel_rfl
 unfold zgq qX;rw [Uq e];clear e;rcases h with rfl | rfl
 ·show _=true
  kernel_rfl
 ·show _=true
  kernel_rfl
theorem zjX (h:op=4\/op=5):zdu (atP i0 a b op)=true:=by
 have th:∀ v,qs [atI op v] 2=true:=fun v=>by
  unfold qs;refine Bool.and_eq_true_iff.2 ⟨rfl,Qi.2 fun i hi=>?_⟩;have hi:i<1:=Um.1 hi;obtain rfl:i=0:=by omega
  exact zt7 h
 have h1:zc4 [116]=true:=by kernel_rfl
 have h2:zdx (atP i0 a b op)=true:=by kernel_rfl
 refine Bool.and_eq_true_iff.2 ⟨h1,Bool.and_eq_true_iff.2 ⟨h2,Bool.and_eq_true_iff.2 ⟨by kernel_rfl,Bool.and_eq_true_iff.2 ⟨Qi.2 fun l hl=>?_,by kernel_rfl⟩⟩⟩⟩;have hl:l=[atI op a]\/l=[atI op b]:=by simpa [atP,zeb] using hl
 rcases hl with rfl | rfl
 ·exact th a
 ·exact th b
theorem zfq (h:op=4\/op=5) (V:List UInt8):qq [atI op a] V=V.map fun v=>zQ zbs (atI op a) v:=by
 rw [List.map_eq_flatMap];rcases h with rfl | rfl <;> rfl
theorem zh3 (h:op=4\/op=5) (v:UInt8):zdh (zQ zbs (atI op a) v)=[⟨0,1,0,v,3,0,0⟩,⟨0,2,0,fW op a v,3,0,1⟩]:=by
 rcases h with rfl | rfl <;> rfl
theorem zqI (h:op=4\/op=5) (v:UInt8):(ja (zQ zbs (atI op a) v)).rmw=[(0,1)]:=by
 rcases h with rfl | rfl <;> kernel_rfl
abbrev atT (op a b v1 v2:UInt8):List PathD:=[ja (zQ zbs (atI op a) v1),ja (zQ zbs (atI op b) v2)]
theorem zjY (h:op=4\/op=5) (v1 v2:UInt8):qm 0 [i0,0]++za6 0 (atT op a b v1 v2)=atE i0 v1 (fW op a v1) v2 (fW op b v2):=by
 have e:qm 0 [i0,0]++za6 0 (atT op a b v1 v2)=qm 0 [i0,0]++(jS 0 (zdh (zQ zbs (atI op a) v1))++(jS 1 (zdh (zQ zbs (atI op b) v2))++[])):=rfl;rw [e,zh3 h,zh3 h];rfl
theorem zjZ (h:op=4\/op=5) {x:ExD} (hx:x∈qi (atP i0 a b op) V):∃ (v1 v2:UInt8) (m:MixD) (ds:List Nat),ChoiceW [i0,0] (atT op a b v1 v2) m/\x=zz m ds/\ds∈qb (zJ m):=by
 have hO:=zb9 (zjX (i0:=i0) (a:=a) (b:=b) h);obtain⟨took,m,hC,hm,hx,t1,t2⟩:=zeG hO hx;obtain⟨_,ds,hd,rfl⟩:=zdI hx;obtain⟨R1,hR1,k1⟩:=t2 0 [atI op a] rfl;obtain⟨R2,hR2,k2⟩:=t2 1 [atI op b] rfl;rw [zfq h] at hR1 hR2;obtain⟨v1,_,rfl⟩:=UI.1 hR1;obtain⟨v2,_,rfl⟩:=UI.1 hR2;have t1:took.length=2:=t1
 match took,t1 with
 | [P,Q],_ =>
  have e1:P=ja (zQ zbs (atI op a) v1):=Ud k1;have e2:Q=ja (zQ zbs (atI op b) v2):=Ud k2;subst e1;subst e2;exact⟨v1,v2,m,ds,hC,rfl,hd⟩
structure AtX (i0 a b op:UInt8) (x:ExD):Prop where
 ok:XOk x
 ev:∃ v1 v2,x.ev=atE i0 v1 (fW op a v1) v2 (fW op b v2)
 r1:zg x.rm 2 3=true
 r2:zg x.rm 4 5=true
 rm:∀ a b,zg x.rm a b=true->(a=2/\b=3)\/(a=4/\b=5)
theorem zi8 (h:op=4\/op=5) {v1 v2:UInt8} {m:MixD} {ds:List Nat} (hC:ChoiceW [i0,0] (atT op a b v1 v2) m) (hd:ds∈qb (zJ m)):AtX i0 a b op (zz m ds):=by
 have hr:=hC.right hd;have hrl:=hC.rels hd;have hX:XOk (zz m ds):=zoQ ⟨hrl.po.w,hrl.rf.w,hrl.co.w,hrl.dt.w,hrl.ct.w,hrl.rm.w⟩ hr;have hev:m.base.ev=atE i0 v1 (fW op a v1) v2 (fW op b v2):=by
  have:m.base.ev=qm 0 [i0,0]++za6 0 (atT op a b v1 v2):=by rw [hC.base,zaJ]
  rw [this,zjY h]
 obtain⟨_,_,d3⟩:=zd8 hC.P;have hrm:∀ i j,zg (zz m ds).rm i j=true↔zcQ PathD.rmw 2 (atT op a b v1 v2) i j:=fun i j=>by
  have:=d3 i j;rw [<- hC.base] at this;exact this
 have hlen:(ja (zQ zbs (atI op a) v1)).ev.length=2:=by
  show (zdh (zQ zbs (atI op a) v1)).length=2;rw [zh3 h];rfl
 have hdep:∀ i j,zcQ PathD.rmw 2 (atT op a b v1 v2) i j↔(i=2/\j=3)\/(i=4/\j=5):=fun i j=>by
  show ((∃ p∈(ja (zQ zbs (atI op a) v1)).rmw,i=2+p.1/\j=2+p.2)\/((∃ p∈(ja (zQ zbs (atI op b) v2)).rmw,i=2+(ja (zQ zbs (atI op a) v1)).ev.length+p.1/\j=2+(ja (zQ zbs (atI op a) v1)).ev.length+p.2)\/False))↔_;rw [hlen,zqI h,zqI h];simp
 refine⟨hX,⟨v1,v2,hev⟩,(hrm 2 3).2 ((hdep 2 3).2 (.inl ⟨rfl,rfl⟩)),(hrm 4 5).2 ((hdep 4 5).2 (.inr ⟨rfl,rfl⟩)),fun i j hb=>(hdep i j).1 ((hrm i j).1 hb)⟩
theorem zoM (h:op=4\/op=5) {x:ExD} (hx:x∈qi (atP i0 a b op) V):AtX i0 a b op x:=by
 obtain⟨v1,v2,m,ds,hC,rfl,hd⟩:=zjZ h hx;exact zi8 h hC hd
end
section
variable {i0 a b op:UInt8} {x:ExD}
theorem AtX.n (h:AtX i0 a b op x):x.ev.length=6:=by
 obtain⟨v1,v2,e⟩:=h.ev;rw [e];rfl
theorem AtX.isr (h:AtX i0 a b op x) {i:Nat} (hi:i<6):isR x i=true↔i=2\/i=4:=by
 obtain⟨v1,v2,e⟩:=h.ev;unfold isR evA;rw [e]
 match i,hi with
 | 0,_=>exact⟨fun h=>(by cases h),fun h=>(by omega)⟩
 | 1,_=>exact⟨fun h=>(by cases h),fun h=>(by omega)⟩
 | 2,_=>exact⟨fun h => .inl rfl,fun h=>rfl⟩
 | 3,_=>exact⟨fun h=>(by cases h),fun h=>(by omega)⟩
 | 4,_=>exact⟨fun h => .inr rfl,fun h=>rfl⟩
 | 5,_=>exact⟨fun h=>(by cases h),fun h=>(by omega)⟩
theorem AtX.isw (h:AtX i0 a b op x) {i:Nat} (hi:i<6):(isW x i=true/\(evA x i).l=0)↔i=0\/i=3\/i=5:=by
 obtain⟨v1,v2,e⟩:=h.ev;unfold isW evA;rw [e]
 match i,hi with
 | 0,_=>exact⟨fun h => .inl rfl,fun h=>⟨rfl,rfl⟩⟩
 | 1,_=>exact⟨fun h=>Gp (show (1:UInt8)=0 from h.2) (by decide),fun h=>(by omega)⟩
 | 2,_=>exact⟨fun h=>(by cases h.1),fun h=>(by omega)⟩
 | 3,_=>exact⟨fun h => .inr (.inl rfl),fun h=>⟨rfl,rfl⟩⟩
 | 4,_=>exact⟨fun h=>(by cases h.1),fun h=>(by omega)⟩
 | 5,_=>exact⟨fun h => .inr (.inr rfl),fun h=>⟨rfl,rfl⟩⟩
theorem AtX.l0 (h:AtX i0 a b op x) {i:Nat} (hi:i<6) (h1:i≠1):(evA x i).l=0:=by
 obtain⟨v1,v2,e⟩:=h.ev;unfold evA;rw [e]
 match i,hi with
 | 0,_=>rfl
 | 1,_=>exact Gp rfl h1
 | 2,_=>rfl
 | 3,_=>rfl
 | 4,_=>rfl
 | 5,_=>rfl
theorem AtX.po (h:AtX i0 a b op x) {i j:Nat} (hi:i<6):zg x.po i j=true↔(i=2/\j=3)\/(i=4/\j=5):=by
 have hn:=h.n;rw [zti h.ok (by omega),hn];obtain⟨v1,v2,e⟩:=h.ev;have th:∀ k,k<6->(evA x k).th=if k<2 then -1 else if k<4 then 0 else 1:=fun k hk=>by
  unfold evA;rw [e]
  match k,hk with
  | 0,_=>rfl
  | 1,_=>rfl
  | 2,_=>rfl
  | 3,_=>rfl
  | 4,_=>rfl
  | 5,_=>rfl
 constructor
 ·rintro⟨h1,h2,h3,h4⟩;rw [th i hi] at h1 h4;rw [th j h3] at h4;by_cases c1:i<2
  ·rw [Gn c1] at h1;exact Gp rfl h1
  rw [Gm c1] at h4;by_cases c2:i<4
  ·rw [Gn c2,Gm (by omega)] at h4;by_cases c3:j<4
   ·left;omega
   ·rw [Gm c3] at h4;cases h4
  ·right;omega
 ·rintro (⟨rfl,rfl⟩ | ⟨rfl,rfl⟩)
  ·rw [th 2 (by decide),th 3 (by decide)];decide
  ·rw [th 4 (by decide),th 5 (by decide)];decide
theorem AtX.edge (h:AtX i0 a b op x) {i j:Nat} (hi:i<6) (he:(i=2/\j=3)\/(i=4/\j=5)\/zg x.rf i j=true\/zg x.co i j=true):zdn x.ev.length (qc (jv x) [x.rf,x.co,frM x]) i j:=by
 have hn:=h.n;have hi':i<x.ev.length:=by omega
 have hloc:RelOk x.ev.length (jv x) := .pick h.ok.n _;have hall:∀ o∈[x.rf,x.co,frM x],RelOk x.ev.length o:=fun o ho=>by
  simp only [UB,Qu,Gk] at ho;rcases ho with rfl | rfl | rfl
  ·exact h.ok.rf
  ·exact h.ok.co
  ·exact zck h.ok
 refine⟨hi',?_⟩;rw [zcW hi' hloc hall];have hpo:(i=2/\j=3)\/(i=4/\j=5)->zg (jv x) i j=true:=fun hp=>by
  unfold jv;rw [zds,hn,(h.po hi).2 hp];have ai:zbZ x i=true:=by
   unfold zbZ;rw [(h.isr hi).2 (by omega)];rfl
  have aj:zbZ x j=true:=by
   unfold zbZ;rw [((h.isw (i:=j) (by omega)).2 (by omega)).1,Bool.or_true]
  unfold zbx;rw [ai,aj,h.l0 hi (by omega),h.l0 (i:=j) (by omega) (by omega),Uq hi,Uq (show j<6 by omega)];rfl
 rcases he with he | he | he | he
 ·rw [hpo (.inl he)];rfl
 ·rw [hpo (.inr he)];rfl
 ·simp [he]
 ·simp [he]
structure AtS (x:ExD) (r w r' w':Nat):Prop where
 o:(r=2/\w=3/\r'=4/\w'=5)\/(r=4/\w=5/\r'=2/\w'=3)
 s1:∀ i,i<6->zg x.rf i r=true->i=0
 s2:∀ i,i<6->zg x.rf i r'=true->i=w
 co:∀ i j,i<6->j<6->zg x.co i j=true->(i=0/\j=w)\/(i=0/\j=w')\/(i=w/\j=w')
theorem AtX.src (h:AtX i0 a b op x) {r:Nat} (hr:r=2\/r=4):∃ s,(s=0\/s=3\/s=5)/\zg x.rf s r=true/\(evA x s).v=(evA x r).v/\∀ i,i<6->zg x.rf i r=true->i=s:=by
 have hn:=h.n;obtain⟨g1,g2⟩:=(zju h.ok.rf).1 h.ok.rfR;have h6:r<6:=by omega
 obtain⟨⟨s,hs,hb⟩,hu⟩:=g2 r (by omega) ((h.isr h6).2 hr);obtain⟨k1,k2,k3,k4⟩:=g1 s r hs (by omega) hb;exact⟨s,(h.isw (by omega)).1 ⟨k1,by rw [k3];exact h.l0 h6 (by omega)⟩,hb,k4,fun i hi hi2=>hu i s (by omega) hs hi2 hb⟩
theorem AtX.cow (h:AtX i0 a b op x) {i j:Nat} (hi:i<6) (hj:j<6) (hb:zg x.co i j=true):(i=0\/i=3\/i=5)/\(j=0\/j=3\/j=5)/\i≠j:=by
 have hn:=h.n;obtain⟨k1,k2,k3,k4⟩:=zqs h.ok (by omega) hb;have hnot:i≠1:=fun e=>by
  subst e;by_cases hj1:j=1
  ·exact k4 hj1.symm
  ·rw [h.l0 hj hj1] at k3;obtain⟨v1,v2,e⟩:=h.ev;unfold evA at k3;rw [e] at k3;exact Gp (show (1:UInt8)=0 from k3) (by decide)
 have l0:=h.l0 hi hnot;exact⟨(h.isw hi).1 ⟨k1,l0⟩,(h.isw hj).1 ⟨k2,by rw [<- k3];exact l0⟩,k4⟩
theorem AtX.cot (h:AtX i0 a b op x) {i j:Nat} (hi:i=0\/i=3\/i=5) (hj:j=0\/j=3\/j=5) (hne:i≠j):zg x.co i j=true\/zg x.co j i=true:=by
 have hn:=h.n;obtain⟨k1,k2⟩:=(h.isw (i:=i) (by omega)).2 hi;obtain⟨k3,k4⟩:=(h.isw (i:=j) (by omega)).2 hj;refine zqq h.ok (by omega) (by omega) k1 k3 (by rw [k2,k4]) hne ?_;rw [k2];obtain⟨v1,v2,e⟩:=h.ev;rw [e];exact (show (0:Nat)<2 by decide)
theorem AtS.rfb {r w r' w':Nat} (h:AtX i0 a b op x) (s:AtS x r w r' w') {i j:Nat} (hi:i<6) (hj:j<6):zg x.rf i j=true↔(i=0/\j=r)\/(i=w/\j=r'):=by
 have hn:=h.n;have o:=s.o;constructor
 ·intro hb;obtain⟨g1,_⟩:=(zju h.ok.rf).1 h.ok.rfR;obtain⟨_,k2,_,_⟩:=g1 i j (by omega) (by omega) hb;have k2:=(h.isr hj).1 k2;by_cases e:j=r
  ·exact .inl ⟨s.s1 i hi (by rw [<- e];exact hb),e⟩
  ·have e:j=r':=by omega
   exact .inr ⟨s.s2 i hi (by rw [<- e];exact hb),e⟩
 ·rintro (⟨rfl,rfl⟩ | ⟨rfl,rfl⟩)
  ·obtain⟨t,t1,t2,_,_⟩:=h.src (r:=j) (by omega);rw [s.s1 t (by omega) t2] at t2;exact t2
  ·obtain⟨t,t1,t2,_,_⟩:=h.src (r:=j) (by omega);rw [s.s2 t (by omega) t2] at t2;exact t2
theorem AtS.cob {r w r' w':Nat} (h:AtX i0 a b op x) (s:AtS x r w r' w') {i j:Nat} (hi:i<6) (hj:j<6):zg x.co i j=true↔(i=0/\j=w)\/(i=0/\j=w')\/(i=w/\j=w'):=by
 have o:=s.o;refine⟨s.co i j hi hj,fun hc=>?_⟩;rcases h.cot (i:=i) (j:=j) (by omega) (by omega) (by omega) with hb | hb
 ·exact hb
 ·have:=s.co j i hj hi hb;omega
theorem AtS.all {r w r' w':Nat} (h:AtX i0 a b op x) (s:AtS x r w r' w') (m:Nat):qO m x=0:=by
 have hn:=h.n;have o:=s.o;have lt:∀ {R:RelD},RelOk x.ev.length R->∀ {i j:Nat},i<6->zg R i j=true->j<6:=fun {R} hR {i j} hi hb=>by
  have:=(hR.bit (by have:=h.ok.n;omega) hb).2;omega
 refine zp2 h.ok (fun i=>if i=0 then 0 else if i=1 then 1 else if i=r then 2 else if i=w then 3 else if i=r' then 4 else 5) (fun i j hi hb=>?_) (fun i j hb=>?_) m
 ·have hi6:i<6:=by omega
  rw [zdM h.ok hi,QF,QF,QF] at hb;rcases hb with (hb | hb) | hb | hb
  ·have:=(h.po hi6).1 hb;rcases o with ⟨rfl,rfl,rfl,rfl⟩ | ⟨rfl,rfl,rfl,rfl⟩ <;> rcases this with ⟨rfl,rfl⟩ | ⟨rfl,rfl⟩ <;> decide
  ·have:=(s.rfb h hi6 (lt h.ok.rf hi6 hb)).1 hb;rcases o with ⟨rfl,rfl,rfl,rfl⟩ | ⟨rfl,rfl,rfl,rfl⟩ <;> rcases this with ⟨rfl,rfl⟩ | ⟨rfl,rfl⟩ <;> decide
  ·have:=(s.cob h hi6 (lt h.ok.co hi6 hb)).1 hb;rcases o with ⟨rfl,rfl,rfl,rfl⟩ | ⟨rfl,rfl,rfl,rfl⟩ <;> rcases this with ⟨rfl,rfl⟩ | ⟨rfl,rfl⟩ | ⟨rfl,rfl⟩ <;> decide
  ·obtain⟨t,ht,h1,h2⟩:=(zeO h.ok.rf.back h.ok.co hi).1 hb;rw [zbj h.ok.rf (by omega),bAT] at h1;have k1:=(s.rfb h (by omega) hi6).1 h1.2;have k2:=(s.cob h (by omega) (lt h.ok.co (by omega) h2)).1 h2;rcases o with ⟨rfl,rfl,rfl,rfl⟩ | ⟨rfl,rfl,rfl,rfl⟩ <;> rcases k1 with ⟨rfl,rfl⟩ | ⟨rfl,rfl⟩ <;> rcases k2 with ⟨_,rfl⟩ | ⟨_,rfl⟩ | ⟨_,rfl⟩ <;> first | decide | omega
 ·have:=h.rm i j hb;rcases o with ⟨rfl,rfl,rfl,rfl⟩ | ⟨rfl,rfl,rfl,rfl⟩ <;> rcases this with ⟨rfl,rfl⟩ | ⟨rfl,rfl⟩ <;> decide
theorem AtX.coh (h:AtX i0 a b op x) (hb:qO 1 x=0):AtS x 2 3 4 5\/AtS x 4 5 2 3:=by
 have hn:=h.n;obtain⟨hA,hE,_⟩:=zdd.1 hb;have hloc:RelOk x.ev.length (jv x) := .pick h.ok.n _;have hall:∀ o∈[x.rf,x.co,frM x],RelOk x.ev.length o:=fun o ho=>by
  simp only [UB,Qu,Gk] at ho;rcases ho with rfl | rfl | rfl
  ·exact h.ok.rf
  ·exact h.ok.co
  ·exact zck h.ok
 rw [acy_tc (zcV hloc hall)] at hA;obtain⟨s,s1,s2,_,s4⟩:=h.src (r:=2) (.inl rfl);obtain⟨t,t1,t2,_,t4⟩:=h.src (r:=4) (.inr rfl);have p1:zdn x.ev.length (qc (jv x) [x.rf,x.co,frM x]) 2 3:=h.edge (by decide) (.inl ⟨rfl,rfl⟩);have p2:zdn x.ev.length (qc (jv x) [x.rf,x.co,frM x]) 4 5:=h.edge (by decide) (.inr (.inl ⟨rfl,rfl⟩));have er:∀ {i j},i<6->zg x.rf i j=true->zdn x.ev.length (qc (jv x) [x.rf,x.co,frM x]) i j:=fun hi he=>h.edge hi (.inr (.inr (.inl he)));have ec:∀ {i j},i<6->zg x.co i j=true->zdn x.ev.length (qc (jv x) [x.rf,x.co,frM x]) i j:=fun hi he=>h.edge hi (.inr (.inr (.inr he)));have no2:∀ {i j},i<6->j<6->zg x.co i j=true->zg x.co j i=true->False:=fun hi hj h1 h2=>hA _ (.step (.one (ec hi h1)) (ec hj h2));have n3:s≠3:=fun e=>hA 2 (.step (.one p1) (er (by decide) (by rw [<- e];exact s2)));have n5:t≠5:=fun e=>hA 4 (.step (.one p2) (er (by decide) (by rw [<- e];exact t2)));have hfc:=(zck h.ok).then h.ok.co;have atom:∀ i j u,i<6->j<6->u<6->zg x.rm i j=true->zg x.rf 0 i=true->zg x.co 0 u=true->zg x.co u j=true->False:=fun i j u hi hj hu hm hr h1 h2=>by
  have hfr:zg (frM x) i u=true:=by
   refine (zeO h.ok.rf.back h.ok.co (by omega)).2 ⟨0,by omega,?_,h1⟩;rw [zbj h.ok.rf (by omega),hr,Uq (by omega)];rfl
  have:=(zi0 (h.ok.rm.both hfc)).1 hE i j (by omega) (by omega);rw [zlx h.ok.rm hfc (by omega),hm,(zeO (zck h.ok) h.ok.co (by omega)).2 ⟨u,by omega,hfr,h2⟩] at this
  cases this
 have hs:s=0\/s=5:=by omega
 have ht:t=0\/t=3:=by omega
 rcases hs with rfl | rfl <;> rcases ht with rfl | rfl
 ·exfalso
  have c1:zg x.co 0 3=true:=(h.cot (i:=0) (j:=3) (.inl rfl) (.inr (.inl rfl)) (by decide)).resolve_right fun hc=>hA 0 (.step (.step (.one (er (by decide) s2)) p1) (ec (by decide) hc));have c2:zg x.co 0 5=true:=(h.cot (i:=0) (j:=5) (.inl rfl) (.inr (.inr rfl)) (by decide)).resolve_right fun hc=>hA 0 (.step (.step (.one (er (by decide) t2)) p2) (ec (by decide) hc));rcases h.cot (i:=3) (j:=5) (.inr (.inl rfl)) (.inr (.inr rfl)) (by decide) with hc | hc
  ·exact atom 4 5 3 (by decide) (by decide) (by decide) h.r2 t2 c1 hc
  ·exact atom 2 3 5 (by decide) (by decide) (by decide) h.r1 s2 c2 hc
 ·left;have c35:zg x.co 3 5=true:=(h.cot (i:=3) (j:=5) (.inr (.inl rfl)) (.inr (.inr rfl)) (by decide)).resolve_right fun hc=>hA 5 (.step (.step (.one (ec (by decide) hc)) (er (by decide) t2)) p2);have c30:zg x.co 3 0=true->False:=fun hc=>hA 0 (.step (.step (.one (er (by decide) s2)) p1) (ec (by decide) hc));have c50:zg x.co 5 0=true->False:=fun hc=>hA 0 (.step (.step (.step (.one (er (by decide) s2)) p1) (ec (by decide) c35)) (ec (by decide) hc));refine⟨.inl ⟨rfl,rfl,rfl,rfl⟩,s4,t4,fun i j hi hj hc=>?_⟩;obtain⟨k1,k2,k3⟩:=h.cow hi hj hc;rcases k1 with rfl | rfl | rfl <;> rcases k2 with rfl | rfl | rfl <;> first | exact Gp rfl k3 | exact (c30 hc).elim | exact (c50 hc).elim | exact (no2 (by decide) (by decide) hc c35).elim | simp
 ·right;have c53:zg x.co 5 3=true:=(h.cot (i:=5) (j:=3) (.inr (.inr rfl)) (.inr (.inl rfl)) (by decide)).resolve_right fun hc=>hA 3 (.step (.step (.one (ec (by decide) hc)) (er (by decide) s2)) p1);have c50:zg x.co 5 0=true->False:=fun hc=>hA 0 (.step (.step (.one (er (by decide) t2)) p2) (ec (by decide) hc));have c30:zg x.co 3 0=true->False:=fun hc=>hA 0 (.step (.step (.step (.one (er (by decide) t2)) p2) (ec (by decide) c53)) (ec (by decide) hc));refine⟨.inr ⟨rfl,rfl,rfl,rfl⟩,t4,s4,fun i j hi hj hc=>?_⟩;obtain⟨k1,k2,k3⟩:=h.cow hi hj hc;rcases k1 with rfl | rfl | rfl <;> rcases k2 with rfl | rfl | rfl <;> first | exact Gp rfl k3 | exact (c30 hc).elim | exact (c50 hc).elim | exact (no2 (by decide) (by decide) hc c53).elim | simp
 ·exact (hA 5 (.step (.step (.step (.one (er (by decide) s2)) p1) (er (by decide) t2)) p2)).elim
end
section
variable {i0 a b op:UInt8} {V:List UInt8} {most:Nat}
theorem znJ (h:op=4\/op=5) {x y:ExD} (hx:x∈qi (atP i0 a b op) V) (hy:y∈qi (atP i0 a b op) V) {r w r' w':Nat} (sx:AtS x r w r' w') (sy:AtS y r w r' w'):x=y:=by
 have hX:=zoM h hx;have hY:=zoM h hy;have nx:=hX.n;have ny:=hY.n;obtain⟨v1,v2,m,ds,hC,rfl,hd⟩:=zjZ h hx;obtain⟨u1,u2,n,es,hD,rfl,he⟩:=zjZ h hy;have evm:(zz m ds).ev=atE i0 v1 (fW op a v1) v2 (fW op b v2):=by
  have:m.base.ev=qm 0 [i0,0]++za6 0 (atT op a b v1 v2):=by rw [hC.base,zaJ]
  rw [zjY h] at this;exact this
 have evn:(zz n es).ev=atE i0 u1 (fW op a u1) u2 (fW op b u2):=by
  have:n.base.ev=qm 0 [i0,0]++za6 0 (atT op a b u1 u2):=by rw [hD.base,zaJ]
  rw [zjY h] at this;exact this
 have val:∀ {z:ExD},AtX i0 a b op z->∀ {i j:Nat},i<6->j<6->zg z.rf i j=true->(evA z i).v=(evA z j).v:=fun {z} hz {i j} hi hj hb=>by
  have:=hz.n;obtain⟨g1,_⟩:=(zju hz.ok.rf).1 hz.ok.rfR;exact (g1 i j (by omega) (by omega) hb).2.2.2
 have key:v1=u1/\v2=u2:=by
  have o:=sx.o;have a1:=val hX (i:=0) (j:=r) (by decide) (by omega) ((sx.rfb hX (by decide) (by omega)).2 (.inl ⟨rfl,rfl⟩));have a2:=val hX (i:=w) (j:=r') (by omega) (by omega) ((sx.rfb hX (by omega) (by omega)).2 (.inr ⟨rfl,rfl⟩));have b1:=val hY (i:=0) (j:=r) (by decide) (by omega) ((sy.rfb hY (by decide) (by omega)).2 (.inl ⟨rfl,rfl⟩));have b2:=val hY (i:=w) (j:=r') (by omega) (by omega) ((sy.rfb hY (by omega) (by omega)).2 (.inr ⟨rfl,rfl⟩));unfold evA at a1 a2 b1 b2;rw [evm] at a1 a2;rw [evn] at b1 b2;rcases o with ⟨rfl,rfl,rfl,rfl⟩ | ⟨rfl,rfl,rfl,rfl⟩
  ·have a1:i0=v1:=a1;have b1:i0=u1:=b1;have a2:fW op a v1=v2:=a2;have b2:fW op a u1=u2:=b2;subst a1 b1;exact⟨rfl,a2.symm.trans b2⟩
  ·have a1:i0=v2:=a1;have b1:i0=u2:=b1;have a2:fW op b v2=v1:=a2;have b2:fW op b u2=u1:=b2;subst a1 b1;exact⟨a2.symm.trans b2,rfl⟩
 obtain⟨rfl,rfl⟩:=key;have hmn:m=n:=by rw [hC.m,hD.m]
 subst hmn;have lx:∀ {i},i<(zz m ds).ev.length->i<6:=fun hi=>by omega
 have hl:(zz m ds).ev.length=(zz m es).ev.length:=rfl;rw [hC.dig_eq hd he (zky hX.ok.rf hY.ok.rf fun i j hi hj=>Bool.eq_iff_iff.2 (by rw [sx.rfb hX (lx hi) (lx hj),sy.rfb hY (lx hi) (lx hj)]))
  (zky hX.ok.co hY.ok.co fun i j hi hj=>Bool.eq_iff_iff.2 (by rw [sx.cob hX (lx hi) (lx hj),sy.cob hY (lx hi) (lx hj)]))]
theorem zqJ (h:op=4\/op=5) (hc:zcr (atP i0 a b op) V most) {r w r' w':Nat} (o:(r=2/\w=3/\r'=4/\w'=5)\/(r=4/\w=5/\r'=2/\w'=3)):∃ x∈qi (atP i0 a b op) V,AtS x r w r' w':=by
 have hO:=zb9 (zjX (i0:=i0) (a:=a) (b:=b) h);have hsub:=zkb hc.1;have hi:i0∈V:=hsub i0 (zbg.2 (show i0∈[i0,0] from Kz));have hcl:=zf2 hc.1 (zbh _);have hf1:fW op a i0∈V:=hcl [atI op a] (show [atI op a]∈[[atI op a],[atI op b]] from Kz) (zQ zbs (atI op a) i0) (by rw [zfq h];exact Kl hi) ⟨0,2,0,fW op a i0,3,0,1⟩ (by rw [zh3 h];simp) rfl;have hf2:fW op b i0∈V:=hcl [atI op b] (show [atI op b]∈[[atI op a],[atI op b]] by simp) (zQ zbs (atI op b) i0) (by rw [zfq h];exact Kl hi) ⟨0,2,0,fW op b i0,3,0,1⟩ (by rw [zh3 h];simp) rfl;obtain⟨v1,v2,hv1,hv2,hval⟩:∃ v1 v2,v1∈V/\v2∈V/\((r=2/\w=3/\r'=4/\w'=5/\v1=i0/\v2=fW op a v1)\/(r=4/\w=5/\r'=2/\w'=3/\v2=i0/\v1=fW op b v2)):=by
  rcases o with ⟨rfl,rfl,rfl,rfl⟩ | ⟨rfl,rfl,rfl,rfl⟩
  ·exact⟨i0,_,hi,hf1,.inl ⟨rfl,rfl,rfl,rfl,rfl,rfl⟩⟩
  ·exact⟨_,i0,hf2,hi,.inr ⟨rfl,rfl,rfl,rfl,rfl,rfl⟩⟩
 obtain⟨m,hm,hC⟩:=zoF (took:=atT op a b v1 v2) hO hc.2.1 rfl fun t l hl=>by
  match t,hl with
  | 0,hl =>
   rw [<- Ud hl];exact⟨_,by rw [zfq h];exact Kl hv1,rfl⟩
  | 1,hl =>
   rw [<- Ud hl];exact⟨_,by rw [zfq h];exact Kl hv2,rfl⟩
  | t+2,hl=>cases hl
 have hC:ChoiceW [i0,0] (atT op a b v1 v2) m:=hC;have hev:m.base.ev=atE i0 v1 (fW op a v1) v2 (fW op b v2):=by
  have:m.base.ev=qm 0 [i0,0]++za6 0 (atT op a b v1 v2):=by rw [hC.base,zaJ]
  rw [this,zjY h]
 have hlen:m.base.ev.length=6:=by rw [hev];rfl
 have ge:∀ i,evA m.base i=(atE i0 v1 (fW op a v1) v2 (fW op b v2)).getD i ev0:=fun i=>by unfold evA;rw [hev]
 have hw0:zT m.base 0=[0,3,5]:=by
  unfold zT evA;rw [hev];rfl
 have hw1:zT m.base 1=[1]:=by
  unfold zT evA;rw [hev];rfl
 have hr8:∀ w∈m.wr,fct (w.length-1)<=10000:=fun u hu=>by
  obtain⟨l,hl,e,_⟩:=hC.wr_mem hu;have hl:l<2:=hl
  match l,hl with
  | 0,_=>rw [e,hw0];decide
  | 1,_=>rw [e,hw1];decide
 obtain⟨c1,ds,hd,p1,p2⟩:=hC.pick hr8 (S:=fun s q=>(q=r->s=0)/\(q=r'->s=w)) (o:=fun l=>if l=0 then [0,w,w'] else [1]) (fun q hq hk=>by
  rw [hlen] at hq ⊢;rcases hval with ⟨rfl,rfl,rfl,rfl,rfl,rfl⟩ | ⟨rfl,rfl,rfl,rfl,rfl,rfl⟩
  ·match q,hq with
   | 0,_=>rw [ge] at hk;cases hk
   | 1,_=>rw [ge] at hk;cases hk
   | 2,_=>exact⟨0,⟨by decide,by rw [ge];rfl,by rw [ge,ge];rfl,by rw [ge,ge];rfl⟩,fun _=>rfl,fun e=>Gp e (by decide)⟩
   | 3,_=>rw [ge] at hk;cases hk
   | 4,_=>exact⟨3,⟨by decide,by rw [ge];rfl,by rw [ge,ge];rfl,by rw [ge,ge];rfl⟩,fun e=>Gp e (by decide),fun _=>rfl⟩
   | 5,_=>rw [ge] at hk;cases hk
  ·match q,hq with
   | 0,_=>rw [ge] at hk;cases hk
   | 1,_=>rw [ge] at hk;cases hk
   | 2,_=>exact⟨5,⟨by decide,by rw [ge];rfl,by rw [ge,ge];rfl,by rw [ge,ge];rfl⟩,fun e=>Gp e (by decide),fun _=>rfl⟩
   | 3,_=>rw [ge] at hk;cases hk
   | 4,_=>exact⟨0,⟨by decide,by rw [ge];rfl,by rw [ge,ge];rfl,by rw [ge,ge];rfl⟩,fun _=>rfl,fun e=>Gp e (by decide)⟩
   | 5,_=>rw [ge] at hk;cases hk) (fun l hl=>by
  have hl:l<2:=hl
  match l,hl with
  | 0,_ =>
   rw [hw0];rcases o with ⟨rfl,rfl,rfl,rfl⟩ | ⟨rfl,rfl,rfl,rfl⟩
   ·exact⟨List.Perm.refl _,rfl⟩
   ·exact⟨List.Perm.cons 0 (List.Perm.swap ..),rfl⟩
  | 1,_ =>
   rw [hw1];exact⟨List.Perm.refl _,rfl⟩)
 have hX:=zi8 h hC hd;refine⟨zz m ds,List.mem_flatMap.2 ⟨m,hm,?_⟩,o,fun i _ hb=>(p1 i r hb).1 rfl,fun i _ hb=>(p1 i r' hb).2 rfl,fun i j hi hj hb=>?_⟩
 ·unfold qt;rw [Gm c1];exact Kl hd
 ·obtain⟨l,l1,l2,l3⟩:=p2 i j hb;have l1:l<2:=l1
  match l,l1 with
  | 0,_ =>
   have l2:i∈[0,w,w']:=l2;have l3:j∈twl [w',w,0] i:=l3;rcases o with ⟨rfl,rfl,rfl,rfl⟩ | ⟨rfl,rfl,rfl,rfl⟩
   ·simp only [UB,Qu,Gk] at l2;rcases l2 with rfl | rfl | rfl
    ·have l3:j∈[5,3]:=l3;simp only [UB,Qu,Gk] at l3;omega
    ·have l3:j∈[5]:=l3;simp only [UB,Qu,Gk] at l3;omega
    ·have l3:j∈[]:=l3
     cases l3
   ·simp only [UB,Qu,Gk] at l2;rcases l2 with rfl | rfl | rfl
    ·have l3:j∈[3,5]:=l3;simp only [UB,Qu,Gk] at l3;omega
    ·have l3:j∈[3]:=l3;simp only [UB,Qu,Gk] at l3;omega
    ·have l3:j∈[]:=l3
     cases l3
  | 1,_ =>
   have l2:i∈[1]:=l2;have l3:j∈twl [1] i:=l3;rw [KA.1 l2] at l3;have l3:j∈[]:=l3
   cases l3
def jW (x:ExD) (k:Nat):List Nat:=(List.range k).flatMap fun i=>if isR x i=true then (List.range x.ev.length).filter fun w=>zg x.rf w i else []
theorem AtS.ne {x:ExD} {r w r' w':Nat} (h:AtX i0 a b op x) (s:AtS x r w r' w'):∃ p q,jW x 6=[p,q]/\p≠q:=by
 have hn:=h.n;have rd:∀ i,i<6->isR x i=(decide (i=2)||decide (i=4)):=fun i hi=>Bool.eq_iff_iff.2 (by rw [h.isr hi];simp);have fl:∀ j,j<6->((List.range x.ev.length).filter fun w=>zg x.rf w j)=(List.range 6).filter fun i=>(decide (i=0/\j=r)||decide (i=w/\j=r')):=fun j hj=>by
  rw [hn];refine KQ fun i hi=>?_;rw [Bool.eq_iff_iff,s.rfb h (Um.1 hi) hj];simp
 have e:jW x 6=(List.range 6).flatMap fun j=>if (decide (j=2)||decide (j=4))=true then (List.range 6).filter fun i=>(decide (i=0/\j=r)||decide (i=w/\j=r')) else []:=by
  unfold jW;rw [List.flatMap_def,List.flatMap_def];congr 1;refine Kk fun j hj=>?_;have hj:=Um.1 hj;rw [rd j hj,fl j hj]
 rw [e];rcases s.o with ⟨rfl,rfl,rfl,rfl⟩ | ⟨rfl,rfl,rfl,rfl⟩
 ·exact⟨0,3,by decide,by decide⟩
 ·exact⟨5,0,by decide,by decide⟩
theorem zt6 (h:op=4\/op=5) (hc:zcr (atP i0 a b op) V most) (hV:V.Nodup) :
  (∀ x∈qi (atP i0 a b op) V,AtX i0 a b op x/\(∀ m,qO m x=0↔qO 1 x=0)/\(qO 1 x=0->∃ p q,jW x 6=[p,q]/\p≠q)) /\
  ∃ i j,i<(qi (atP i0 a b op) V).length/\j<(qi (atP i0 a b op) V).length/\i≠j/\∀ (k:Nat) (x:ExD),(qi (atP i0 a b op) V)[k]?=some x->(qO 1 x=0↔k=i\/k=j):=by
 have hO:=zb9 (zjX (i0:=i0) (a:=a) (b:=b) h);refine⟨fun x hx=>?_,?_⟩
 ·have hX:=zoM h hx;refine⟨hX,fun m=>⟨fun hb=>?_,fun hb=>?_⟩,fun hb=>?_⟩
  ·obtain⟨g1,g2,_⟩:=zdd.1 hb;exact zdd.2 ⟨g1,g2,.inl rfl⟩
  ·rcases hX.coh hb with s | s
   ·exact s.all hX m
   ·exact s.all hX m
  ·rcases hX.coh hb with s | s
   ·exact s.ne hX
   ·exact s.ne hX
 ·obtain⟨x,hx,sx⟩:=zqJ h hc (r:=2) (w:=3) (r':=4) (w':=5) (.inl ⟨rfl,rfl,rfl,rfl⟩);obtain⟨y,hy,sy⟩:=zqJ h hc (r:=4) (w:=5) (r':=2) (w':=3) (.inr ⟨rfl,rfl,rfl,rfl⟩);obtain⟨i,hi⟩:=List.mem_iff_getElem?.1 hx;obtain⟨j,hj⟩:=List.mem_iff_getElem?.1 hy;have hp:=cands_ne hO hV;have same:∀ {k l:Nat} {z:ExD},(qi (atP i0 a b op) V)[k]?=some z->(qi (atP i0 a b op) V)[l]?=some z->k=l:=fun {k l z} hk hl=>by
   obtain⟨k1,k2⟩:=Js.1 hk;obtain⟨l1,l2⟩:=Js.1 hl;rcases Nat.lt_trichotomy k l with hlt | hlt | hlt
   ·have:=List.pairwise_iff_getElem.1 hp k l k1 l1 hlt;rw [k2,l2,ziy] at this
    cases this
   ·exact hlt
   ·have:=List.pairwise_iff_getElem.1 hp l k l1 k1 hlt;rw [k2,l2,ziy] at this
    cases this
  have hX:=zoM h hx;have hY:=zoM h hy;have hij:i≠j:=fun e=>by
   subst e;rw [hi] at hj;obtain rfl:=Ud hj;have:=sy.s2 0 (by decide) ((sx.rfb hX (by decide) (by decide)).2 (.inl ⟨rfl,rfl⟩))
   cases this
  refine⟨i,j,(Js.1 hi).1,(Js.1 hj).1,hij,fun k z hk=>⟨fun hb=>?_,?_⟩⟩
  ·have hz:=JY hk;rcases (zoM h hz).coh hb with s | s
   ·rw [znJ h hz hx s sx] at hk;exact .inl (same hk hi)
   ·rw [znJ h hz hy s sy] at hk;exact .inr (same hk hj)
  ·rintro (rfl | rfl)
   ·rw [hi] at hk;rw [<- Ud hk];exact sx.all hX 1
   ·rw [hj] at hk;rw [<- Ud hk];exact sy.all hY 1
end
section
variable {r:RelD} {w:Wd}
theorem zrJ {b s:Nat} (f:w.heap[b]?=some (.cells (zf r).toArray 39 (0,0))) (hr:zG r.to) (hs:s<2^64) (h48:∀ i∈els s,i<48) (hT:Tz64M w) :
  CB 89 #[At0 b,s64 s] w (s64 (zdA r.to s)):=by
 refine zI 32 [At0 b,s64 s] Tryz.func89 ?_;refine cmo (za5 hs hT) ?_;rintro e X ⟨rfl,hbX⟩;refine⟨Nat×Nat,fun q=>⟨[(0,At0 b),(1,s64 q.2),(5,s64 q.1),(6,i64 ((els q.2).headD 0:Nat)),(7,.bool (!(els q.2).isEmpty))],[]⟩,
  fun q Y=>zdA r.to s=(els q.2).foldl (fun t a=>t|||r.to a) q.1/\(q.1<2^64/\q.2<2^64/\∀ i∈els q.2,i<48)/\Bw w Y,fun q=>q.2,(0,s),
  (cvE rfl rfl),⟨rfl,⟨(by decide:0<2^64),hs,h48⟩,hbX⟩,?_⟩
 clear hbX X;rintro⟨t,q⟩ X ⟨he,⟨ht,hq,h48⟩,hbX⟩;dsimp only at he ht hq h48 ⊢;refine biE (fun hc=>?_) fun hc=>?_
 ·have h0:=zfj hq hc;obtain⟨e1,e2,_,e3⟩:=jX h0 hq;have hd:=(zbV h0 hq).1;have hc48:ctz q<48:=h48 _ (by rw [e1];exact Kz);rw [hd];have fX:=zb hbX f;refine⟨ctz q,rfl,hc48,_,zaI fX hc48,_,zak ht (hr _ hc48),((q-1:Nat):Int),(w64 (a:=(q:Int)-1) (by omega)).trans (by omega),((qI q:Nat):Int),jO (a:=q) (b:=q-1) hq (by omega),cmo (za5 (s:=qI q) (by omega) (hT.below hbX)) ?_⟩;rintro e Y ⟨rfl,hbY⟩;refine⟨(t|||r.to (ctz q),qI q),(cvE rfl rfl),⟨?_,⟨KX ht (hr _ hc48),by omega,fun i hi=>h48 i (by rw [e1];exact JW _ hi)⟩,(zst hbX hbY)⟩,e2⟩;rw [he,e1];rfl
 ·have hc:(els q).isEmpty=true:=by simpa using hc
  have:=zc8 hq hc;subst this;refine⟨?_,hbX⟩;rw [he,zao];rfl
theorem zfZ {ra rb:RelD} {ba bb g:Nat} {caps:Array Value} {row:Nat->Nat} (fa:w.heap[ba]?=some (.cells (zf ra).toArray 39 (0,0))) (fb:w.heap[bb]?=some (.cells (zf rb).toArray 39 (0,0)))
  (ha:zG ra.to) (hb:zG rb.to) (hok:jY (sg 0) g=true)
  (zfb:ra.n=rb.n->okR ra=true->okR rb=true->∀ i X,i<ra.n.toNat->Bw w X->Calls PG g (i64 (i:Nat)::caps.toList).toArray X fun e Y=>e = .returned (s64 (row i))/\Bw X Y) :
  CB 35 #[At0 ba,At0 bb,.func (.func g) #[] caps] w (.tuple #[.agg (zf (comb ra rb row).1).toArray,i64 (comb ra rb row).2]):=by
 refine qA 38 [At0 ba,At0 bb,.func (.func g) #[] caps] (.c .p (.s .p .p)) Tryz.func35 ?_;obtain⟨L,hL⟩:=nm (w.heap.size);refine⟨Unit,fun _=>⟨[(0,At0 ba),(1,At0 bb),(2,.func (.func g) #[] caps),(6,At0 L)],[]⟩,fun _ X=>X.heap[L]?=some (.cells (zf zB).toArray 39 (0,0))/\Bw w X,⟨(),⟨.cons rfl (.cons rfl (.cons rfl (.cons (by rw [hL];rfl) .nil))),rfl⟩,by rw [hL];exact zw w _,(zba w _)⟩,?_⟩;rintro _ X ⟨f0,hbX⟩;have hd:Bw X X.drew:=(Ga _ X).drew;have hbD:=zst hbX hd;have no:∀ {Y:Wd},Y.heap[L]?=some (.cells (zf zB).toArray 39 (0,0))->Bw w Y->(ra.n=rb.n&&(okR ra&&okR rb))=false->∀ {K:Wd->Prop},(∀ Z,Z.heap[L]?=some (.cells (zf (comb ra rb row).1).toArray 39 (0,0))->(comb ra rb row).2=2->Bw w Z->K Z)->SatR ((storeVar 39 ⟨L,0,none⟩ (.agg (zf zB).toArray)).run PG Y) fun _ w'=>K w' :=
  fun {Y} f b h {K} k=>by
   have e:comb ra rb row=(zB,2):=by unfold comb;rw [h];rfl
   exact zt (v := .agg (zf zB).toArray) k39 f rfl rfl (zD _) (k _ (by rw [e];exact zn f) (by rw [e]) (zl b (by omega) _))
 refine DrawE.ord [] [0,1,2,3,4,5,6,7,8,9,10,11,12,13,14,15,16,17,18,19,20,21,22] (by kernel_rfl) ?_;have hz:∀ {Y:Wd},Bw w Y->∀ {K:Value->Prop},K (.agg (zf zB).toArray)->K (.agg (zf zB).toArray):=fun _ _ h=>h;refine⟨_,zc (za (zb hbD fa)) (i:=0) rfl,_,zc (za (zb hbD fb)) (i:=0) rfl,biE (fun h=>?_) fun h=>?_⟩
 ·have h:ra.n≠rb.n:=fun e=>by
   have h:(!decide (ra.n=rb.n))=true:=h;rw [Uq e] at h;cases h
  refine brT (brT ⟨zf zB,rfl,no (hdr f0) hbD (by rw [Uf h];rfl) fun Z fZ e2 bZ=>⟨zf (comb ra rb row).1,zh _,za fZ,?_,bZ⟩⟩);rw [e2];rfl
 have h:ra.n=rb.n:=by
  have h:(!decide (ra.n=rb.n))=false:=h;simpa using h
 refine⟨zf ra,zh _,za (zb hbD fa),hlt (zb hbD fa),cmo (jH ha) ?_⟩;rintro e Y ⟨rfl,hbY⟩;refine⟨hbY,?_⟩;have hbwY:=zst hbD hbY;have f0Y:=zb hbY (hdr f0);refine biE (fun h1=>?_) fun h1=>?_
 ·have h1:okR ra=false:=by
   have h1:(!okR ra)=true:=h1;simpa using h1
  refine brT ⟨zf zB,rfl,no f0Y hbwY (by rw [h1,Uh,Ug]) fun Z fZ e2 bZ=>⟨zf (comb ra rb row).1,zh _,za fZ,?_,bZ⟩⟩;rw [e2];rfl
 have h1:okR ra=true:=by
  have h1:(!okR ra)=false:=h1;simpa using h1
 refine⟨zf rb,zh _,za (zb hbwY fb),hlt (zb hbwY fb),cmo (jH hb) ?_⟩;rintro e V ⟨rfl,hbV⟩;refine⟨hbV,?_⟩;have hbwV:=zst hbwY hbV;have f0V:=zb hbV f0Y;refine biE (fun h2=>?_) fun h2=>?_
 ·have h2:okR rb=false:=by
   have h2:(!okR rb)=true:=h2;simpa using h2
  refine⟨zf zB,rfl,no f0V hbwV (by rw [h2,Ug,Ug]) fun Z fZ e2 bZ=>⟨zf (comb ra rb row).1,zh _,za fZ,?_,bZ⟩⟩;rw [e2];rfl
 have h2:okR rb=true:=by
  have h2:(!okR rb)=false:=h2;simpa using h2
 obtain⟨p0,p48,_⟩:=jb h1;have e:comb ra rb row=(jK ra.n.toNat row,0):=by unfold comb;rw [h1,h2,Uq h];rfl
 rw [e];have hn:ra.n=(ra.n.toNat:Int):=by omega
 refine⟨i64 (ra.n.toNat:Nat),by rw [<- hn];exact zc (za (zb hbwV fa)) (i:=0) rfl,cmo (zjU (w:=V) (n:=ra.n.toNat) (by omega) hok (fun i Z hi hbZ=>zfb h h1 h2 i Z hi ((zst hbwV hbZ)))) ?_⟩;rintro e Z ⟨rfl,hbZ⟩;have f0Z:=zb hbZ f0V;exact zt (v := .agg (zf (jK ra.n.toNat row)).toArray) k39 f0Z rfl rfl (zD _) ⟨zf (jK ra.n.toNat row),zh _,za (zn f0Z),rfl,zl ((zst hbwV hbZ)) (by omega) _⟩
end
section
variable {ra rb:RelD} {w:Wd}
theorem zqR {ba bb i:Nat} (fa:w.heap[ba]?=some (.cells (zf ra).toArray 39 (0,0))) (fb:w.heap[bb]?=some (.cells (zf rb).toArray 39 (0,0))) (ha:zG ra.to) (hb:zG rb.to) (hi:i<48) :
  CB 36 (i64 (i:Nat)::[At0 ba,At0 bb]).toArray w (s64 (ra.to i|||rb.to i)):=by
 refine zI 14 (i64 (i:Nat)::[At0 ba,At0 bb]) Tryz.func36 ?_;refine DrawE.ord [] [0,1,2,3,4,5,6,7,8,9] (by kernel_rfl) ?_;have hd:Bw w w.drew:=(Ga _ w).drew;exact⟨i,rfl,hi,_,zaI (hdr fa) hi,i,rfl,hi,_,zaI (hdr fb) hi,_,zak (ha i hi) (hb i hi),rfl,hd⟩
theorem zsA (ha:zG ra.to) (hb:zG rb.to):CB 16 #[.agg (zf ra).toArray,.agg (zf rb).toArray] w (.tuple #[.agg (zf (zal ra rb).1).toArray,i64 (zal ra rb).2]):=by
 refine qA 10 [.agg (zf ra).toArray,.agg (zf rb).toArray] (.c .p .p) Tryz.func16 ?_;obtain⟨L,hL⟩:=nm (w.heap.size);refine⟨Unit,fun _=>⟨[(2,At0 L),(3,At0 (L+1)),(4,At0 (L+2)),(5,i64 0)],[]⟩,fun _ X=>X.heap[L]?=some (.cells (zf ra).toArray 39 (0,0))/\X.heap[L+1]?=some (.cells (zf rb).toArray 39 (0,0))/\X.heap[L+2]?=some (.cells (zf zB).toArray 39 (0,0))/\Bw w X,?_,?_⟩
 ·have s1:=wz w (.cells (zf ra).toArray 39);have s2:=wz (w.alloc (.cells (zf ra).toArray 39)) (.cells (zf rb).toArray 39);have h2:=zw (w.alloc (.cells (zf ra).toArray 39)) (.cells (zf rb).toArray 39);have h3:=zw ((w.alloc (.cells (zf ra).toArray 39)).alloc (.cells (zf rb).toArray 39)) (.cells (zf zB).toArray 39);rw [s1] at s2 h2;rw [s2] at h3;refine⟨(),⟨.cons (by rw [hL];rfl) (.cons (by rw [hL,<- s1];rfl) (.cons (by rw [hL,<- s2];rfl) (.cons rfl .nil))),rfl⟩,?_,?_,?_,?_⟩
  ·rw [hL];exact qM _ (qM _ (zw w _))
  ·rw [hL];exact qM _ h2
  ·rw [hL];exact h3
  ·exact (((zba w _)).alloc (by simp) _).alloc (by simp;omega) _
 rintro _ X ⟨f0,f1,f2,hbX⟩;refine cmo (zfZ (row:=fun i=>ra.to i|||rb.to i) f0 f1 ha hb (by kernel_rfl) (fun e h1 h2 i Y hi hbY=>?_)) ?_
 ·have h48:=(jb h1).2.1;exact zqR (zb hbY f0) (zb hbY f1) ha hb (by omega)
 rintro e Y ⟨rfl,hbY⟩;exact zt (v := .agg (zf (zal ra rb).1).toArray) k39 (zb hbY f2) rfl rfl (zD _) ⟨zf (zal ra rb).1,zh _,za (zn (zb hbY f2)),rfl,zl ((zst hbX hbY)) (by omega) _⟩
theorem zsI {ba bb i:Nat} (fa:w.heap[ba]?=some (.cells (zf ra).toArray 39 (0,0))) (fb:w.heap[bb]?=some (.cells (zf rb).toArray 39 (0,0))) (ha:zG ra.to) (hb:zG rb.to) (hi:i<48) :
  CB 90 (i64 (i:Nat)::[At0 ba,At0 bb]).toArray w (s64 (ra.to i&&&rb.to i)):=by
 refine zI 14 (i64 (i:Nat)::[At0 ba,At0 bb]) Tryz.func90 ?_;refine DrawE.ord [] [0,1,2,3,4,5,6,7,8,9] (by kernel_rfl) ?_;have hd:Bw w w.drew:=(Ga _ w).drew;exact⟨i,rfl,hi,_,zaI (hdr fa) hi,i,rfl,hi,_,zaI (hdr fb) hi,_,jO (ha i hi) (hb i hi),rfl,hd⟩
theorem zq4 (ha:zG ra.to) (hb:zG rb.to):CB 54 #[.agg (zf ra).toArray,.agg (zf rb).toArray] w (.tuple #[.agg (zf (zaF ra rb).1).toArray,i64 (zaF ra rb).2]):=by
 refine qA 10 [.agg (zf ra).toArray,.agg (zf rb).toArray] (.c .p .p) Tryz.func54 ?_;obtain⟨L,hL⟩:=nm (w.heap.size);refine⟨Unit,fun _=>⟨[(2,At0 L),(3,At0 (L+1)),(4,At0 (L+2)),(5,i64 0)],[]⟩,fun _ X=>X.heap[L]?=some (.cells (zf ra).toArray 39 (0,0))/\X.heap[L+1]?=some (.cells (zf rb).toArray 39 (0,0))/\X.heap[L+2]?=some (.cells (zf zB).toArray 39 (0,0))/\Bw w X,?_,?_⟩
 ·have s1:=wz w (.cells (zf ra).toArray 39);have s2:=wz (w.alloc (.cells (zf ra).toArray 39)) (.cells (zf rb).toArray 39);have h2:=zw (w.alloc (.cells (zf ra).toArray 39)) (.cells (zf rb).toArray 39);have h3:=zw ((w.alloc (.cells (zf ra).toArray 39)).alloc (.cells (zf rb).toArray 39)) (.cells (zf zB).toArray 39);rw [s1] at s2 h2;rw [s2] at h3;refine⟨(),⟨.cons (by rw [hL];rfl) (.cons (by rw [hL,<- s1];rfl) (.cons (by rw [hL,<- s2];rfl) (.cons rfl .nil))),rfl⟩,?_,?_,?_,?_⟩
  ·rw [hL];exact qM _ (qM _ (zw w _))
  ·rw [hL];exact qM _ h2
  ·rw [hL];exact h3
  ·exact (((zba w _)).alloc (by simp) _).alloc (by simp;omega) _
 rintro _ X ⟨f0,f1,f2,hbX⟩;refine cmo (zfZ (row:=fun i=>ra.to i&&&rb.to i) f0 f1 ha hb (by kernel_rfl) (fun e h1 h2 i Y hi hbY=>?_)) ?_
 ·have h48:=(jb h1).2.1;exact zsI (zb hbY f0) (zb hbY f1) ha hb (by omega)
 rintro e Y ⟨rfl,hbY⟩;exact zt (v := .agg (zf (zaF ra rb).1).toArray) k39 (zb hbY f2) rfl rfl (zD _) ⟨zf (zaF ra rb).1,zh _,za (zn (zb hbY f2)),rfl,zl ((zst hbX hbY)) (by omega) _⟩
theorem zsB {ba bb i:Nat} (fa:w.heap[ba]?=some (.cells (zf ra).toArray 39 (0,0))) (fb:w.heap[bb]?=some (.cells (zf rb).toArray 39 (0,0))) (ha:zG ra.to) (hb:zG rb.to) (hi:i<48) (h48:∀ j∈els (ra.to i),j<48) (hT:Tz64M w) :
  CB 88 (i64 (i:Nat)::[At0 bb,At0 ba]).toArray w (s64 (zdA rb.to (ra.to i))):=by
 refine zI 10 (i64 (i:Nat)::[At0 bb,At0 ba]) Tryz.func88 ?_;refine⟨i,rfl,hi,_,zaI fa hi,cmo (zrJ fb hb (ha i hi) h48 hT) ?_⟩;rintro e Y ⟨rfl,hbY⟩;exact⟨rfl,hbY⟩
theorem zcq (ha:zG ra.to) (hb:zG rb.to) (hT:Tz64M w):CB 53 #[.agg (zf ra).toArray,.agg (zf rb).toArray] w (.tuple #[.agg (zf (jh ra rb).1).toArray,i64 (jh ra rb).2]):=by
 refine qA 10 [.agg (zf ra).toArray,.agg (zf rb).toArray] (.c .p .p) Tryz.func53 ?_;obtain⟨L,hL⟩:=nm (w.heap.size);refine⟨Unit,fun _=>⟨[(2,At0 L),(3,At0 (L+1)),(4,At0 (L+2)),(5,i64 0)],[]⟩,fun _ X=>X.heap[L]?=some (.cells (zf ra).toArray 39 (0,0))/\X.heap[L+1]?=some (.cells (zf rb).toArray 39 (0,0))/\X.heap[L+2]?=some (.cells (zf zB).toArray 39 (0,0))/\Bw w X,?_,?_⟩
 ·have s1:=wz w (.cells (zf ra).toArray 39);have s2:=wz (w.alloc (.cells (zf ra).toArray 39)) (.cells (zf rb).toArray 39);have h2:=zw (w.alloc (.cells (zf ra).toArray 39)) (.cells (zf rb).toArray 39);have h3:=zw ((w.alloc (.cells (zf ra).toArray 39)).alloc (.cells (zf rb).toArray 39)) (.cells (zf zB).toArray 39);rw [s1] at s2 h2;rw [s2] at h3;refine⟨(),⟨.cons (by rw [hL];rfl) (.cons (by rw [hL,<- s1];rfl) (.cons (by rw [hL,<- s2];rfl) (.cons rfl .nil))),rfl⟩,?_,?_,?_,?_⟩
  ·rw [hL];exact qM _ (qM _ (zw w _))
  ·rw [hL];exact qM _ h2
  ·rw [hL];exact h3
  ·exact (((zba w _)).alloc (by simp) _).alloc (by simp;omega) _
 rintro _ X ⟨f0,f1,f2,hbX⟩;refine cmo (zfZ (row:=fun i=>zdA rb.to (ra.to i)) f0 f1 ha hb (by kernel_rfl) (fun e h1 h2 i Y hi hbY=>?_)) ?_
 ·have h48:=(jb h1).2.1;exact zsB (zb hbY f0) (zb hbY f1) ha hb (by omega) (fun j hj=>(zjD h1 ha (by omega) j hj).2) ((hT.below hbX).below hbY)
 rintro e Y ⟨rfl,hbY⟩;exact zt (v := .agg (zf (jh ra rb).1).toArray) k39 (zb hbY f2) rfl rfl (zD _) ⟨zf (jh ra rb).1,zh _,za (zn (zb hbY f2)),rfl,zl ((zst hbX hbY)) (by omega) _⟩
theorem zuL {ba i s:Nat} (fa:w.heap[ba]?=some (.cells #[s64 s] 36 (0,0))) (hs:s<2^64) (hi:i<48) :
  CB 161 (i64 (i:Nat)::[At0 ba]).toArray w (s64 (s&&&2^i)):=by
 refine zI 8 (i64 (i:Nat)::[At0 ba]) Tryz.func161 ?_;exact DrawE.ord [] [0,1,2,3,4] (by kernel_rfl) ⟨_,zc (za (hdr fa)) (i:=0) rfl,by omega,_,j5 (e:=i) (by omega),_,jO hs (z7 (by omega)),rfl,(Ga _ w).drew⟩
theorem zuK {n s:Nat} (hn:n<=48) (hs:s<2^64):CB 119 #[i64 n,s64 s] w (.agg (zf (idR n s)).toArray):=by
 refine qA 15 [i64 n,s64 s] (.c .p (.s .p .p)) Tryz.func119 ?_;obtain⟨L,hL⟩:=nm (w.heap.size);refine⟨Unit,fun _=>⟨[(0,i64 n),(3,At0 L),(4,At0 (L+1))],[]⟩,fun _ X=>X.heap[L]?=some (.cells #[s64 s] 36 (0,0))/\X.heap[L+1]?=some (.cells (zf zB).toArray 39 (0,0))/\Bw w X,?_,?_⟩
 ·have s1:=wz w (.cells #[s64 s] 36);have h2:=zw (w.alloc (.cells #[s64 s] 36)) (.cells (zf zB).toArray 39);rw [s1] at h2;refine⟨(),⟨.cons rfl (.cons (by rw [hL];rfl) (.cons (by rw [hL,<- s1];rfl) .nil)),rfl⟩,?_,?_,?_⟩
  ·rw [hL];exact qM _ (zw w _)
  ·rw [hL];exact h2
  ·exact ((zba w _)).alloc (by simp) _
 rintro _ X ⟨f0,f1,hbX⟩;refine brN (Uf (by omega)) (brN (Uf (by omega)) (cmo (zjU (w:=X) (n:=n) (row:=fun a=>s&&&2^a) hn (by kernel_rfl) (fun i Z hi hbZ=>zuL (zb hbZ f0) hs (by omega))) ?_));rintro e Z ⟨rfl,hbZ⟩;have f1Z:=zb hbZ f1;exact zt (v := .agg (zf (idR n s)).toArray) k39 f1Z rfl rfl (zD _) ⟨zf (idR n s),zh _,za (zn f1Z),rfl,zl ((zst hbX hbZ)) (by omega) _⟩
theorem zuf (ha:zG ra.to):CB 91 #[.agg (zf ra).toArray] w (s64 (ziX ra)):=by
 refine zI 24 [.agg (zf ra).toArray] Tryz.func91 ?_;have f0:=zw w (.cells (zf ra).toArray 39);have hb:Bw w (w.alloc (.cells (zf ra).toArray 39)):=zba w _;refine⟨zf ra,zh _,za f0,hlt f0,cmo (jH ha) ?_⟩;rintro e X ⟨rfl,hbX⟩;have hbw:=zst hb hbX;have fX:=zb hbX f0;refine biE (fun h=>?_) fun h=>?_
 ·have h:okR ra=false:=by
   have h:(!okR ra)=true:=h;simpa using h
  exact⟨by unfold ziX;rw [h];rfl,hbw⟩
 have h:okR ra=true:=by
  have h:(!okR ra)=false:=h;simpa using h
 obtain⟨p0,p48,_⟩:=jb h;obtain⟨n,hn⟩:∃ n:Nat,ra.n=n:=⟨ra.n.toNat,by omega⟩;refine⟨i64 n,by rw [<- hn];exact zc (za fX) (i:=0) rfl,?_⟩;have e0:ziX ra=(List.range n).foldl (fun s a=>if ra.to a=0 then s else s|||2^a) 0:=by unfold ziX;rw [Gn h,hn];rfl
 refine⟨Nat,fun k=>⟨[(1,.pointer (some ⟨w.heap.size,0,none⟩)),(3,s64 ((List.range k).foldl (fun s a=>if ra.to a=0 then s else s|||2^a) 0)),(9,i64 n),(10,i64 (k:Nat))],[]⟩,fun k Y=>X=Y/\k<=n/\(List.range k).foldl (fun s a=>if ra.to a=0 then s else s|||2^a) 0<2^64,fun k=>n-k,0,
  (cvE rfl rfl),⟨rfl,UY _,(by decide:0<2^64)⟩,?_⟩
 rintro k _ ⟨rfl,hk,hlt64⟩;refine biE (fun hc=>?_) fun hc=>?_
 ·have hc:(k:Int)<(n:Int):=dT hc;have hkn:k<n:=by omega
  have step:(List.range (k+1)).foldl (fun s a=>if ra.to a=0 then s else s|||2^a) 0=if ra.to k=0 then (List.range k).foldl (fun s a=>if ra.to a=0 then s else s|||2^a) 0 else (List.range k).foldl (fun s a=>if ra.to a=0 then s else s|||2^a) 0|||2^k:=by
   rw [QU,KS];rfl
  refine⟨k,rfl,by omega,?_⟩;refine⟨_,zaI fX (by omega),biE (fun h1=>?_) fun h1=>?_⟩
  ·have h1:¬ ra.to k=0:=fun e=>by
    have h1:(!decide (((ra.to k:Nat):Int)=0))=true:=h1;rw [e] at h1;exact Gp h1 (by decide)
   rw [Gm h1] at step;exact⟨by omega,_,j5 (e:=k) (by omega),_,zak hlt64 (z7 (by omega)),nxI (by omega) ⟨k+1,⟨.cons rfl (.cons (by rw [step];rfl) (.cons rfl (.cons rfl .nil))),rfl⟩,⟨rfl,hkn,by rw [step];exact KX hlt64 (z7 (by omega))⟩,zdc (by omega)⟩⟩
  ·have h1:ra.to k=0:=by
    have h1:(!decide (((ra.to k:Nat):Int)=0))=false:=h1;have h2:decide (((ra.to k:Nat):Int)=0)=true:=(by simpa using h1);exact Ux (dT h2)
   rw [Gn h1] at step;exact nxI (by omega) ⟨k+1,⟨.cons rfl (.cons (by rw [step];rfl) (.cons rfl (.cons rfl .nil))),rfl⟩,⟨rfl,hkn,by rw [step];exact hlt64⟩,zdc (by omega)⟩
 ·have hc:¬ (k:Int)<(n:Int):=dF hc;obtain rfl:k=n:=by omega
  exact⟨by rw [e0];rfl,hbw⟩
theorem zsG (ha:zG ra.to):CB 55 #[.agg (zf ra).toArray] w (.bool (zbf ra)):=by
 refine zI 10 [.agg (zf ra).toArray] Tryz.func55 ?_;have f0:=zw w (.cells (zf ra).toArray 39);have hb:Bw w (w.alloc (.cells (zf ra).toArray 39)):=zba w _;refine⟨zf ra,zh _,za f0,hlt f0,cmo (jH ha) ?_⟩;rintro e X ⟨rfl,hbX⟩;have hbw:=zst hb hbX;have fX:=zb hbX f0;refine biE (fun h=>?_) fun h=>?_
 ·have h:okR ra=true:=h;refine⟨zf ra,zh _,za fX,hlt fX,cmo (zuf ha) ?_⟩;rintro e Y ⟨rfl,hbY⟩;refine⟨rb ?_,(zst hbw hbY)⟩;unfold zbf;rw [h,Uw];exact QE.2 Int.ofNat_inj
 ·have h:okR ra=false:=h;exact⟨rb (by unfold zbf;rw [h];rfl),hbw⟩
end
theorem ziB {X:Wd} {L:Nat} {r:RelD} (h:z6 X L r):∀ i,i<48->X.cell? ⟨L,0+1+i*1,none⟩=some (s64 (r.to i)):=by
 have hR:RelAt X L 0 39 [] [] r:=⟨rfl,by simpa using h⟩;exact fun i hi=>hR.cell hi
theorem znH {s b:Nat}:decide ((((s/2^b&&&1:Nat):Nat):Int)=1)=s.testBit b:=by
 rw [zjW]
 cases s.testBit b <;> rfl
def zge (r:RelD) (a b:Nat):Bool:=okR r&&(decide ((a:Int)<r.n)&&(decide ((b:Int)<r.n)&&zg r a b))
section
variable {w:Wd} {r:RelD}
theorem zuM {a b:Nat} (hr:zG r.to):CB 15 #[.agg (zf r).toArray,i64 a,i64 b] w (.bool (zge r a b)):=by
 refine qA 38 [.agg (zf r).toArray,i64 a,i64 b] (.c .p .p) Tryz.func15 ?_;obtain⟨L,hL⟩:=nm (w.heap.size);refine⟨Unit,fun _=>⟨[(1,i64 a),(2,i64 b),(3,At0 L)],[]⟩,fun _ X=>z6 X L r/\Bw w X,⟨(),⟨.cons rfl (.cons rfl (.cons (by rw [hL];rfl) .nil)),rfl⟩,by rw [hL];exact zw w _,(zba w _)⟩,?_⟩;rintro _ X ⟨fX,hbX⟩;refine⟨zf r,zh _,za fX,hlt fX,cmo (jH hr) ?_⟩;rintro e Y ⟨rfl,hbY⟩;have bY:=zst hbX hbY;have fY:=zb hbY fX;have ld:Y.cell? ⟨L,0+0,none⟩=some (i64 r.n):=zc (za fY) (i:=0) rfl;refine biE (fun h1=>?_) fun h1=>?_
 ·have h1:okR r=false:=zuZ h1;exact brT (brT (brT (brT ⟨rb (by unfold zge;rw [h1];rfl),bY⟩)))
 have h1:okR r=true:=zuu h1;have h48:=(jb h1).2.1;refine brN (Uf (by omega)) ⟨_,ld,biE (fun h2=>?_) fun h2=>?_⟩
 ·have h2:r.n<=(a:Int):=dT h2;exact brT (brT ⟨rb (by unfold zge;rw [Uf (by omega:¬ (a:Int)<r.n),Uh,Ug]),bY⟩)
 have h2:¬ r.n<=(a:Int):=dF h2;refine brN (Uf (by omega)) ⟨_,ld,biE (fun h3=>?_) fun h3=>?_⟩
 ·have h3:r.n<=(b:Int):=dT h3;exact⟨rb (by unfold zge;rw [Uf (by omega:¬ (b:Int)<r.n),Uh,Ug,Ug]),bY⟩
 have h3:¬ r.n<=(b:Int):=dF h3;have ha48:a<48:=by omega
 have hb48:b<48:=by omega
 have e0:zge r a b=zg r a b:=by unfold zge;rw [h1,Uq (by omega:(a:Int)<r.n),Uq (by omega:(b:Int)<r.n)];rfl
 rw [e0];exact⟨a,rfl,ha48,s64 (r.to a),ziB fY a ha48,by omega,_,zeM (a:=r.to a) (k:=b) (by omega),_,jO (a:=r.to a/2^b) (b:=1) (KE (Nat.div_le_self _ _) (hr a ha48)) (by decide),rb znH,bY⟩
end
def jT (n:Nat) (p:Nat->Nat->Bool) (a k:Nat):Nat->Nat:=fun i=>if i<a then zfA n (p i) else if i=a then zfA k (p a) else 0
theorem zkt (n:Nat) (p:Nat->Nat->Bool) (a k:Nat):jT n p a k a=zfA k (p a):=by
 unfold jT;rw [Gm (by omega),Gn rfl]
theorem zob {n:Nat} {p:Nat->Nat->Bool} {a k:Nat} (h:p a k=true):upd (jT n p a k) a (jT n p a k a|||2^k)=jT n p a (k+1):=by
 funext i;by_cases hi:i=a
 ·subst hi;rw [zP,zkt,zkt,zdS,Gn h]
 ·rw [qr _ _ hi];unfold jT;rw [Gm hi,Gm hi]
theorem zlW {n:Nat} {p:Nat->Nat->Bool} {a k:Nat} (h:p a k=false):jT n p a k=jT n p a (k+1):=by
 have e:zfA (k+1) (p a)=zfA k (p a):=by rw [zdS,Gm (by rw [h];decide)]
 funext i;unfold jT;rw [e]
theorem zlX (n:Nat) (p:Nat->Nat->Bool) (a:Nat):jT n p a n=jT n p (a+1) 0:=by
 funext i;unfold jT;by_cases h1:i<a
 ·rw [Gn h1,Gn (by omega)]
 ·by_cases h2:i=a
  ·subst h2;rw [Gm h1,Gn rfl,Gn (by omega)]
  ·rw [Gm h1,Gm h2,Gm (by omega)]
   split
   ·rfl
   ·rfl
theorem zlV (n:Nat) (p:Nat->Nat->Bool):jT n p 0 0=fun _=>0:=by
 funext i;unfold jT;rw [Gm (by omega)]
 split <;> rfl
theorem zoc (n:Nat) (p:Nat->Nat->Bool):jT n p n 0=(zbR n p).to:=by
 funext i;unfold jT zbR jK;show _=if i<n then _ else 0
 by_cases h:i<n
 ·rw [Gn h,Gn h]
 ·rw [Gm h,Gm h]
  split <;> rfl
theorem zoa {n:Nat} {p:Nat->Nat->Bool} {a k:Nat} (hn:n<=64) (hk:k<=64):zG (jT n p a k):=fun i _=>by
 unfold jT
 split
 ·exact zeT _ n hn
 ·split
  ·exact zeT _ k hk
  ·decide
section
variable {w:Wd}
theorem zV {b o a d:Nat} {r:RelD} (hc:∀ i,i<48->w.cell? ⟨b,o+1+i*1,none⟩=some (s64 (r.to i))) (hr:zG r.to) (ha:a<48) (hd:d<48) :
  Calls PG 49 #[.pointer (some ⟨b,o,none⟩),i64 (a:Nat),i64 (d:Nat)] w fun e w'=>e = .returned (.bool (zg r a d))/\w=w':=by
 refine zI 17 [.pointer (some ⟨b,o,none⟩),i64 (a:Nat),i64 (d:Nat)] Tryz.func49 ?_;exact⟨a,rfl,ha,_,hc a ha,by omega,_,zeM (a:=r.to a) (k:=d) (by omega),_,jO (a:=r.to a/2^d) (b:=1) (KE (Nat.div_le_self _ _) (hr a ha)) (by decide),rb znH,rfl⟩
theorem zft {e:Ev}:Calls PG 87 #[.agg (evE.enc e).toArray] w fun r w'=>r = .returned (.bool (decide (e.k=1)||decide (e.k=2)))/\Bw w w':=by
 refine zI 11 [.agg (evE.enc e).toArray] Tryz.func87 ?_;have f:=zw w (.cells (evE.enc e).toArray 49);have hb:Bw w (w.alloc (.cells (evE.enc e).toArray 49)):=zba w _;refine⟨u8 e.k,zc (za f) (i:=1) rfl,biE (fun h=>?_) fun h=>?_⟩
 ·have h:e.k=1:=qu.1 (dT h);exact⟨rb (by rw [Uq h];rfl),hb⟩
 ·have h:¬ e.k=1:=fun e2=>(dF h) (by rw [e2];rfl);refine⟨u8 e.k,zc (za f) (i:=1) rfl,rb ?_,hb⟩;rw [Uf h,Ut];exact QE.2 (qu (x:=e.k) (y:=2))
theorem zl4 {n g:Nat} {caps:Array Value} {p:Nat->Nat->Bool} (hn:n<=48) (hok:jY (sg 0) g=true)
  (hp:∀ a d X,a<n->d<n->Bw w X->Calls PG g (i64 (a:Nat)::i64 (d:Nat)::caps.toList).toArray X fun e Y=>e = .returned (.bool (p a d))/\Bw X Y) :
  CB 47 #[i64 n,.func (.func g) #[] caps] w (.agg (zf (zbR n p)).toArray):=by
 refine qA 34 [i64 n,.func (.func g) #[] caps] (.c .p (.c .p (.c .p .p))) Tryz.func47 ?_;obtain⟨L,hL⟩:=nm (w.heap.size);refine⟨Unit,fun _=>⟨[(0,i64 n),(1,.func (.func g) #[] caps),(4,At0 L)],[]⟩,fun _ X=>z6 X L zB/\X.heap.size=L+1/\Bw w X,?_,?_⟩
 ·exact⟨(),⟨.cons rfl (.cons rfl (.cons (by rw [hL];rfl) .nil)),rfl⟩,by rw [hL];exact zw w _,by rw [hL];exact wz _ _,(zba w _)⟩
 rintro _ X ⟨f0,sX,hbX⟩;refine⟨Unit,fun _=>⟨[(0,i64 n),(1,.func (.func g) #[] caps),(4,At0 L),(5,At0 (L+1))],[]⟩,fun _ Y=>z6 Y (L+1) ⟨n,jT n p 0 0⟩/\Y.heap.size=L+2/\Bw X Y,?_,?_⟩
 ·refine⟨zf ⟨n,fun _=>0⟩,by kernel_rfl,?_⟩;refine zq (X:=X) (v := .agg (zf ⟨n,fun _=>0⟩).toArray) k39 (zh _) (by kernel_rfl) (zD _) fun Z hbZ fZ sZ=>?_;rw [sX] at fZ sZ;exact⟨(),⟨.cons rfl (.cons rfl (.cons rfl (.cons (by rw [<- sX];rfl) .nil))),rfl⟩,by rw [zlV];exact fZ,sZ,hbZ⟩
 rintro _ Y ⟨f1,sY,hbY⟩;have hbwY:=zst hbX hbY;have f0:=zb hbY f0;refine⟨Unit,fun _=>⟨[(4,At0 L),(5,At0 (L+1))],[]⟩,fun _ Z=>z6 Z (L+1) (zbR n p)/\z6 Z L zB/\Bw w Z,?_,?_⟩
 ·refine⟨Nat,fun a=>⟨[(0,i64 n),(1,.func (.func g) #[] caps),(4,At0 L),(5,At0 (L+1)),(10,i64 n),(11,i64 (a:Nat))],[]⟩,fun a Z=>a<=n/\z6 Z (L+1) ⟨n,jT n p a 0⟩/\z6 Z L zB/\Bw w Z,fun a=>n-a,0,
   (cvE rfl rfl),⟨UY _,f1,f0,hbwY⟩,?_⟩
  rintro a Z ⟨ha,f1,f0,hbZ⟩;dsimp only at f1 ⊢;refine biE (fun hc=>?_) fun hc=>?_
  ·have hc:(a:Int)<(n:Int):=dT hc;have han:a<n:=by omega
   refine⟨Nat,fun d=>⟨[(0,i64 n),(1,.func (.func g) #[] caps),(4,At0 L),(5,At0 (L+1)),(6,i64 (a:Nat)),(10,i64 n),(11,i64 (a:Nat)),(14,i64 n),(15,i64 (d:Nat))],[]⟩,fun d V=>d<=n/\z6 V (L+1) ⟨n,jT n p a d⟩/\z6 V L zB/\Bw w V,fun d=>n-d,0,
    (cvE rfl rfl),⟨UY _,f1,f0,hbZ⟩,?_⟩
   clear f1 f0 hbZ;rintro d V ⟨hd,f1,f0,hbV⟩;dsimp only at f1 ⊢;refine biE (fun hc=>?_) fun hc=>?_
   ·have hc:(d:Int)<(n:Int):=dT hc;have hdn:d<n:=(by omega);refine zh1 hok (hp a d V han hdn hbV) ?_;rintro e U ⟨rfl,hbU⟩;refine⟨_,rfl,?_⟩;have f1:=zb hbU f1;have f0:=zb hbU f0;have hbU2:=zst hbV hbU;have sU:=hbU2.size;refine biE (fun h=>?_) fun h=>?_
    ·have h:p a d=true:=h;have hR:RelAt U (L+1) 0 39 [] [] ⟨n,jT n p a d⟩:=⟨rfl,by simpa using f1⟩;have dU:Bw U U.drew:=(Ga _ _).drew;have ha48:a<48:=(by omega);refine DrawE.ord [9] [0,1,2,3,4,5,6,7,8,9] (by kernel_rfl) ⟨a,rfl,ha48,s64 (jT n p a d a),(hR.same (Y:=U.drew) rfl).cell ha48,by omega,_,j5 (e:=d) (by omega),_,zak (zoa (by omega) (by omega) a ha48) (z7 (by omega)),a,rfl,ha48,zm k36 (hR.same (Y:=U.drew) rfl).cells (o:=0+1+a*1) (v:=s64 (jT n p a d a|||2^d)) rfl rfl (by rw [hR.len];omega) rfl fun S fS gS sS=>?_⟩;rw [hR.set ha48] at fS;have e5:upd (jT n p a d) a (jT n p a d a|||2^d)=jT n p a (d+1):=zob h;dsimp only at fS;rw [e5] at fS;have gS2:U.grownBy S (some (L+1)):=zd (zi dU) gS;exact nxI (by omega) ⟨d+1,(cvE rfl rfl),⟨hdn,by simpa using fS,(gS2.block L (hlt f0) (by simp)).trans f0,hbU2.trans (zk gS2 sU (by omega))⟩,zdc (by omega)⟩
    ·have h:p a d=false:=h;exact nxI (by omega) ⟨d+1,(cvE rfl rfl),⟨hdn,by rw [<- zlW h];exact f1,f0,hbU2⟩,zdc (by omega)⟩
   ·have hc:¬ (d:Int)<(n:Int):=dF hc;obtain rfl:d=n:=(by omega);exact nxI (by omega) ⟨a+1,(cvE rfl rfl),⟨han,by rw [<- zlX];exact f1,f0,hbV⟩,zdc (by omega)⟩
  ·have hc:¬ (a:Int)<(n:Int):=dF hc;obtain rfl:a=n:=by omega
   rw [zoc] at f1;exact⟨(),(cvE rfl rfl),f1,f0,hbZ⟩
 rintro _ Z ⟨f1,f0,hbZ⟩;exact⟨zf (zbR n p),zh _,za f1,hlt f1,zt (v := .agg (zf (zbR n p)).toArray) k39 f0 (zh _) (zh _) (zD _) ⟨zf (zbR n p),zh _,za (zn f0),rfl,zl hbZ (by omega) _⟩⟩
def ztc:Enc RelD:=⟨zf,49,zh,by decide,fun a u hu=>Qi.1 (zD a) u hu⟩
theorem zcU {l:List RelD}:∀ {r:RelD},zG r.to->(∀ o∈l,zG o.to)->zG (qc r l).to:=by
 induction l with
 | nil=>exact fun h _=>h
 | cons o l ih=>exact fun h hl=>ih (znU h (hl o Kz)) fun x hx=>hl x (JW _ hx)
theorem zjg {r:RelD} {l:List RelD} {pm:OA} {cm:Nat} (hr:zG r.to) (hl:SlR ztc w pm l) (hw:∀ o∈l,zG o.to) (hn:l.length<=1000) :
  CB 52 #[.agg (zf r).toArray,.slice pm l.length cm] w (.agg (zf (qc r l)).toArray):=by
 refine qA 21 [.agg (zf r).toArray,.slice pm l.length cm] (.c .p (.c .p .p)) Tryz.func52 ?_;obtain⟨L,hL⟩:=nm (w.heap.size);refine⟨Unit,fun _=>⟨[(1,.slice pm l.length cm),(2,At0 L),(4,At0 (L+1))],[]⟩,fun _ X=>z6 X L r/\z6 X (L+1) zB/\Bw w X,?_,?_⟩
 ·have s1:=wz w (.cells (zf r).toArray 39);have h2:=zw (w.alloc (.cells (zf r).toArray 39)) (.cells (zf zB).toArray 39);rw [s1] at h2;refine⟨(),⟨.cons rfl (.cons (by rw [hL];rfl) (.cons (by rw [hL,<- s1];rfl) .nil)),rfl⟩,by rw [hL];exact qM _ (zw w _),by rw [hL];exact h2,((zba w _)).alloc (by simp) _⟩
 rintro _ X ⟨f0,f1,hbX⟩;refine⟨Unit,fun _=>⟨[(2,At0 L),(4,At0 (L+1))],[]⟩,fun _ Z=>z6 Z L (qc r l)/\z6 Z (L+1) zB/\Bw w Z,?_,?_⟩
 ·refine⟨Nat,fun k=>⟨[(2,At0 L),(4,At0 (L+1)),(7,.slice pm l.length cm),(8,i64 l.length),(9,i64 (k:Nat))],[]⟩,fun k Z=>k<=l.length/\z6 Z L (qc r (l.take k))/\z6 Z (L+1) zB/\Bw w Z,fun k=>l.length-k,0,
   (cvE rfl rfl),⟨UY _,f0,f1,hbX⟩,?_⟩
  clear f0 f1 hbX;rintro k Z ⟨hk,f0,f1,hbZ⟩;dsimp only;have hZs:=hbZ.size;refine biE (fun hc=>?_) fun hc=>?_
  ·have hc:(k:Int)<(l.length:Int):=dT hc;have hkl:k<l.length:=by omega
   obtain⟨b,o,rfl,hb,hat⟩:=hl.at hkl;obtain⟨t,ht⟩:∃ t,l[k]=t:=⟨_,rfl⟩;have htm:t∈l:=by rw [<- ht];exact gM hkl
   have htk:qc r (l.take (k+1))=(zal (qc r (l.take k)) t).1:=by
    unfold qc;rw [tsg hkl,ht,KS];rfl
   have hut:zG (qc r (l.take k)).to:=zcU hr fun o ho=>hw o (JZ ho);refine⟨k,rfl,hkl,zf t,zh _,by rw [<- ht];exact zr hbZ (hat k hkl),nL hb hZs,zq (X:=Z) (v := .agg (zf t).toArray) k39 (zh _) (by kernel_rfl) (zD _) fun Y hbY fY sY=>?_⟩;have fY:z6 Y Z.heap.size t:=fY;have f0:=zb hbY f0;have f1:=zb hbY f1;refine⟨zf (qc r (l.take k)),zh _,za f0,hlt f0,zf t,zh _,za fY,hlt fY,cmo (zsA hut (hw t htm)) ?_⟩;rintro e V ⟨rfl,hbV⟩;have f0:=zb hbV f0;have f1:=zb hbV f1;refine zt (v := .agg (zf (zal (qc r (l.take k)) t).1).toArray) k39 f0 (zh _) (zh _) (zD _) (nxI (by omega) ?_);have hbV2:=(hbZ.trans (hbY.mono hZs)).trans (hbV.mono (by have:=hbY.size;omega));exact⟨k+1,(cvE rfl rfl),⟨hkl,by rw [htk];exact zn f0,(zp (by omega)).trans f1,zl hbV2 (by omega) _⟩,zdc (by omega)⟩
  ·have hc:¬ (k:Int)<(l.length:Int):=dF hc;obtain rfl:k=l.length:=by omega
   rw [Qv] at f0;exact⟨(),(cvE rfl rfl),f0,f1,hbZ⟩
 rintro _ Z ⟨f0,f1,hbZ⟩;exact⟨zf (qc r l),zh _,za f0,hlt f0,zt (v := .agg (zf (qc r l)).toArray) k39 f1 (zh _) (zh _) (zD _) ⟨zf (qc r l),zh _,za (zn f1),rfl,zl hbZ (by omega) _⟩⟩
end
section
variable {w:Wd} {b c:Nat} {x:ExD} {q:OA}
theorem zfT {X:Wd} {o:Nat} {r:RelD} (fx:zK X ⟨b,0,none⟩ (exC x q c)) (h:∃ A T,A.length=o/\exC x q c=A++(zf r++T)):∀ i,i<48->X.cell? ⟨b,o+1+i*1,none⟩=some (s64 (r.to i)):=by
 intro i hi;obtain⟨A,T,hA,hE⟩:=h;have:(exC x q c)[o+1+i*1]?=some (s64 (r.to i)):=by
  rw [hE,UW,UC,jc hA,Jr (by rw [zh];omega),zeX r hi]
 have h2:=zc fx this;rw [UQ] at h2;exact h2
theorem zp7 (x:ExD) (q:OA) (c:Nat):∃ A T,A.length=1/\exC x q c=A++(zf x.po++T):=by
 obtain⟨A,T,hA,hE⟩:=zno x q c [];exact⟨A,T,hA,by rw [<- hE,QI]⟩
theorem ztE (x:ExD) (q:OA) (c:Nat):∃ A T,A.length=148/\exC x q c=A++(zf x.dt++T):=by
 obtain⟨A,T,hA,hE⟩:=znp x q c [];exact⟨A,T,hA,by rw [<- hE,QI]⟩
theorem ztF (x:ExD) (q:OA) (c:Nat):∃ A T,A.length=197/\exC x q c=A++(zf x.ct++T):=by
 obtain⟨A,T,hA,hE⟩:=znq x q c [];exact⟨A,T,hA,by rw [<- hE,QI]⟩
theorem zp6 (x:ExD) (q:OA) (c:Nat):∃ A T,A.length=246/\exC x q c=A++(zf x.rm++T):=by
 obtain⟨A,T,hA,hE⟩:=znm x q c [];exact⟨A,T,hA,by rw [<- hE,QI]⟩
theorem zj1 (x:ExD) (i:Nat):(decide ((evA x i).k=1)||decide ((evA x i).k=2))=zbZ x i:=rfl
theorem zco {X:Wd} (hv:SlR evE X q x.ev) {a:Nat} (ha:a<x.ev.length):∃ bq oq,q=some ⟨bq,oq,none⟩/\bq<X.heap.size/\zK X ⟨bq,oq+a*7,none⟩ (evE.enc (evA x a)):=zcp hv ha
theorem zpk {a d:Nat} (fx:zK w ⟨b,0,none⟩ (exC x q c)) (hv:SlR evE w q x.ev) (ha:a<x.ev.length) (hd:d<x.ev.length) :
  CB 50 #[At0 b,i64 (a:Nat),i64 (d:Nat)] w (.bool (zbx x a d)):=by
 refine qA 44 [At0 b,i64 (a:Nat),i64 (d:Nat)] (.c .p .p) Tryz.func50 ?_;refine⟨Unit,fun _=>⟨[(0,At0 b),(1,i64 (a:Nat)),(2,i64 (d:Nat))],[]⟩,fun _ X=>w=X,⟨(),(cvE rfl rfl),rfl⟩,?_⟩;rintro _ _ rfl;obtain⟨bq,oq,hqe,hb,hat⟩:=zco hv ha;obtain⟨bq2,oq2,hqe2,hb2,hat2⟩:=zco hv hd;rw [hqe] at hqe2;simp only [KY,Us,Gh] at hqe2;rw [<- hqe2.1,<- hqe2.2] at hat2;subst hqe;have dw:Bw w w.drew:=(Ga _ _).drew;refine DrawE.ord [] [0,1,2,3,4,5,6,7,8,9,10,11,12,13,14,15,16,17,18,19,20,21,22,23,24,25,26,27,28,29,30,31,32,33,34,35,36,37] (by kernel_rfl) ⟨_,zah (zr dw fx),a,rfl,ha,evE.enc (evA x a),rfl,zr dw hat,nL hb dw.size,cmo zft ?_⟩;rintro e X ⟨rfl,hbX⟩;refine⟨hbX,?_⟩;have bX:=dw.trans hbX;rw [zj1];refine biE (fun h1=>?_) fun h1=>?_
 ·have h1:zbZ x a=true:=h1;refine⟨_,zah (zr bX fx),d,rfl,hd,evE.enc (evA x d),rfl,zr bX hat2,nL hb bX.size,cmo zft ?_⟩;rintro e Y ⟨rfl,hbY⟩;refine⟨hbY,?_⟩;have bY:=zst bX hbY;rw [zj1];refine biE (fun h2=>?_) fun h2=>?_
  ·have h2:zbZ x d=true:=h2;refine⟨_,zah (zr bY fx),a,rfl,ha,u8 (evA x a).l,by have:=zc (zr bY hat) (i:=2) (v:=u8 (evA x a).l) rfl;exact this,_,zah (zr bY fx),d,rfl,hd,u8 (evA x d).l,by have:=zc (zr bY hat2) (i:=2) (v:=u8 (evA x d).l) rfl;exact this,rb ?_,bY⟩;unfold zbx;rw [h1,h2,Uw,Uw];exact QE.2 qu
  ·have h2:zbZ x d=false:=h2;refine⟨rb ?_,bY⟩;unfold zbx;rw [h1,h2];rfl
 ·have h1:zbZ x a=false:=h1;refine brF ⟨rb ?_,bX⟩;unfold zbx;rw [h1];rfl
end
structure ScnV (X:Wd) (b:Nat) (x:ExD) (q:OA) (c:Nat) (f l s:RelD):Prop where
 h:X.heap[b]?=some (.cells (exC x q c++(zf f++(zf l++zf s))).toArray 157 (0,0))
 v:ExW X x q
 wf:zG f.to
 wl:zG l.to
 ws:zG s.to
section
variable {w:Wd} {b c:Nat} {x:ExD} {q:OA} {f l s:RelD}
theorem ScnV.below {X Y:Wd} (h:ScnV X b x q c f l s) (hb:Bw X Y):ScnV Y b x q c f l s:=⟨zb hb h.h,h.v.below hb,h.wf,h.wl,h.ws⟩
theorem ScnV.cells {X:Wd} (h:ScnV X b x q c f l s):zK X ⟨b,0,none⟩ (exC x q c):=by
 have:=zR (n:=0) (m:=333) (za h.h);have e:((exC x q c++(zf f++(zf l++zf s))).toArray.toList.drop 0).take 333=exC x q c:=by
  show (exC x q c++_).take 333=_;rw [Jg (by rw [zC];decide),JF (by rw [zC];decide)]
 rw [e] at this;exact this
theorem ScnV.at {X:Wd} {o:Nat} {r:RelD} (h:ScnV X b x q c f l s) (hr:∃ A T,A.length=o/\exC x q c++(zf f++(zf l++zf s))=A++(zf r++T)):∀ i,i<48->X.cell? ⟨b,o+1+i*1,none⟩=some (s64 (r.to i)):=by
 intro i hi;obtain⟨A,T,hA,hE⟩:=hr;have:(exC x q c++(zf f++(zf l++zf s)))[o+1+i*1]?=some (s64 (r.to i)):=by
  rw [hE,UW,UC,jc hA,Jr (by rw [zh];omega),zeX r hi]
 have h2:=zc (za h.h) this;rw [UQ] at h2;exact h2
theorem ScnV.full {X:Wd} (h:ScnV X b x q c f l s):∀ i,i<48->X.cell? ⟨b,0+333+1+i*1,none⟩=some (s64 (f.to i)):=h.at ⟨exC x q c,zf l++zf s,zC _ _ _,rfl⟩
theorem ScnV.loads {X:Wd} (h:ScnV X b x q c f l s):∀ i,i<48->X.cell? ⟨b,0+382+1+i*1,none⟩=some (s64 (l.to i)):=h.at ⟨exC x q c++zf f,zf s,by rw [lap,zC,zh],by rw [KN]⟩
theorem ScnV.stores {X:Wd} (h:ScnV X b x q c f l s):∀ i,i<48->X.cell? ⟨b,0+431+1+i*1,none⟩=some (s64 (s.to i)):=h.at ⟨exC x q c++(zf f++zf l),[],by rw [lap,lap,zC,zh,zh],by simp only [KN,QI]⟩
theorem zeq {a:Nat} (h:ScnV w b x q c f l s) (ha:a<x.ev.length):Calls PG 123 #[At0 b,i64 (a:Nat)] w fun e w'=>e = .returned (.bool (isR x a))/\w=w':=by
 refine zI 15 [At0 b,i64 (a:Nat)] Tryz.func123 ?_;obtain⟨bq,oq,hqe,hb,hat⟩:=zco h.v.ev ha;have fx:=h.cells;subst hqe;exact⟨_,zah fx,a,rfl,ha,u8 (evA x a).k,by have:=zc hat (i:=1) (v:=u8 (evA x a).k) rfl;exact this,rb (QE.2 (qu (x:=(evA x a).k) (y:=1))),rfl⟩
theorem jE {a:Nat} (h:ScnV w b x q c f l s) (ha:a<x.ev.length):Calls PG 124 #[At0 b,i64 (a:Nat)] w fun e w'=>e = .returned (.bool (isW x a))/\w=w':=by
 refine zI 15 [At0 b,i64 (a:Nat)] Tryz.func124 ?_;obtain⟨bq,oq,hqe,hb,hat⟩:=zco h.v.ev ha;have fx:=h.cells;subst hqe;exact⟨_,zah fx,a,rfl,ha,u8 (evA x a).k,by have:=zc hat (i:=1) (v:=u8 (evA x a).k) rfl;exact this,rb (QE.2 (qu (x:=(evA x a).k) (y:=2))),rfl⟩
theorem zdl {a:Nat} {md:UInt8} (h:ScnV w b x q c f l s) (ha:a<x.ev.length):Calls PG 128 #[At0 b,i64 (a:Nat),u8 md] w fun e w'=>e = .returned (.bool (zY x a md))/\w=w':=by
 refine zI 30 [At0 b,i64 (a:Nat),u8 md] Tryz.func128 ?_;obtain⟨bq,oq,hqe,hb,hat⟩:=zco h.v.ev ha;have fx:=h.cells;subst hqe;refine⟨_,zah fx,a,rfl,ha,u8 (evA x a).m,by have:=zc hat (i:=4) (v:=u8 (evA x a).m) rfl;exact this,biE (fun h1=>?_) fun h1=>?_⟩
 ·have h1:(evA x a).m=md:=qu.1 (dT h1);exact⟨rb (by unfold zY;rw [Uq h1];rfl),rfl⟩
 ·have h1:¬ (evA x a).m=md:=fun e=>(dF h1) (by rw [e]);exact⟨_,zah fx,a,rfl,ha,u8 (evA x a).m,by have:=zc hat (i:=4) (v:=u8 (evA x a).m) rfl;exact this,rb (by unfold zY;rw [Uf h1,Ut];exact QE.2 (qu (x:=(evA x a).m) (y:=3))),rfl⟩
theorem znF {a d:Nat} (h:ScnV w b x q c f l s) (ha:a<x.ev.length) (hd:d<x.ev.length):Calls PG 125 #[At0 b,i64 (a:Nat),i64 (d:Nat)] w fun e w'=>e = .returned (.bool (zaz x f a d))/\w=w':=by
 refine zI 23 [At0 b,i64 (a:Nat),i64 (d:Nat)] Tryz.func125 ?_;have hn:=h.v.n;refine cmo (zV h.full h.wf (by omega) (by omega)) ?_;rintro e _ ⟨rfl,rfl⟩;refine biE (fun h1=>?_) fun h1=>?_
 ·have h1:zg f a d=true:=h1;exact brT ⟨rb (by unfold zaz;rw [h1];rfl),rfl⟩
 have h1:zg f a d=false:=h1;refine cmo (zdl (md:=3) h ha) ?_;rintro e _ ⟨rfl,rfl⟩;refine biE (fun h2=>?_) fun h2=>?_
 ·have h2:zY x a 3=true:=h2;exact⟨rb (by unfold zaz;rw [h1,h2];rfl),rfl⟩
 have h2:zY x a 3=false:=h2;refine cmo (zdl (md:=3) h hd) ?_;rintro e _ ⟨rfl,rfl⟩;exact⟨rb (by unfold zaz;rw [h1,h2];rfl),rfl⟩
end
abbrev orG (l:List Nat):Nat:=l.foldl (fun s i=>s|||2^i) 0
theorem zpA (l:List Nat) (i:Nat):orG (l++[i])=orG l|||2^i:=by
 unfold orG;rw [KS];rfl
theorem znb:∀ (l:List Nat) (s:Nat),s<2^64->(∀ i∈l,i<64)->l.foldl (fun s i=>s|||2^i) s<2^64
 | [],s,h,_=>h
 | i::l,s,h,hl=>znb l (s|||2^i) (KX h (z7 (hl i Kz))) fun j hj=>hl j (JW _ hj)
theorem zpB {l:List Nat} (hl:∀ i∈l,i<64):orG l<2^64:=znb l 0 (by decide) hl
section
variable {w:Wd}
theorem zvg {p:OA} {cp:Nat} {l:List Nat} (hl:SlR zA w p l) (h64:∀ i∈l,i<64) (hn:l.length<=1000):Calls PG 118 #[.slice p l.length cp] w fun e w'=>e = .returned (.tuple #[s64 (orG l),i64 0])/\w=w':=by
 refine zI 25 [.slice p l.length cp] Tryz.func118 ?_;refine⟨Nat,fun k=>⟨[(4,s64 (orG (l.take k))),(7,.slice p l.length cp),(8,i64 l.length),(9,i64 (k:Nat))],[]⟩,fun k X=>k<=l.length/\w=X,fun k=>l.length-k,0,(cvE rfl rfl),⟨UY _,rfl⟩,?_⟩;rintro k _ ⟨hk,rfl⟩;dsimp only;refine biE (fun hc=>?_) fun hc=>?_
 ·have hc:(k:Int)<(l.length:Int):=dT hc;have hkl:k<l.length:=by omega
  obtain⟨b,o,rfl,hb,hat⟩:=hl.at hkl;obtain⟨t,ht⟩:∃ t,l[k]=t:=⟨_,rfl⟩;have ht64:=h64 t (by rw [<- ht];exact gM hkl);have htk:orG (l.take (k+1))=orG (l.take k)|||2^t:=by rw [tsg hkl,ht,zpA]
  refine⟨k,rfl,hkl,i64 t,by have:=zc (hat k hkl) (i:=0) (v:=i64 t) (by rw [ht];rfl);exact this,biE (fun h=>?_) fun _=>?_⟩
  ·have h:(t:Int)<0:=dT h;omega
  refine biE (fun h=>?_) fun _=>?_
  ·have h:(64:Int)<=(t:Nat):=dT h;omega
  exact⟨by omega,_,j5 (e:=t) (by omega),_,zak (zpB fun i hi=>h64 i (JZ hi)) (z7 ht64),nxI (by omega) ⟨k+1,⟨.cons (by show _=some (s64 (orG (l.take (k+1))));rw [htk];rfl) (.cons rfl (.cons rfl (.cons rfl .nil))),rfl⟩,⟨hkl,rfl⟩,zdc (by omega)⟩⟩
 ·have hc:¬ (k:Int)<(l.length:Int):=dF hc;obtain rfl:k=l.length:=by omega
  rw [Qv];exact⟨rfl,rfl⟩
end
section
variable {b c:Nat} {x:ExD} {q:OA} {w:Wd}
theorem zp1 (hv:ExW w x q) (hT:Tz64M w):zG (zX x.rf).to/\zG (frM x).to:=by
 have h1:zG (zX x.rf).to:=by
  unfold zX
  split
  ·rename_i h;intro i hi;refine Qy fun hge=>?_;obtain⟨j,hj1,hj2⟩:=Ja hge;rw [show ((⟨x.rf.n,zaG x.rf.to x.rf.n.toNat⟩:RelD).to i)=zaG x.rf.to x.rf.n.toNat i from rfl,zf1,bAT,dE] at hj2;have h48:=(jb h).2.1;omega
  ·exact fun i _=>(by show 0<2^64;decide)
 exact⟨h1,zdk h1 hv.co⟩
theorem zu9 (fx:ExH w b x q c) (hv:ExW w x q) (hT:Tz64M w):CB 37 #[At0 b] w (.agg (zf (frM x)).toArray):=by
 refine qA 19 [At0 b] (.c .p (.c .p .p)) Tryz.func37 ?_;obtain⟨L,hL⟩:=nm (w.heap.size);obtain⟨wb,wf⟩:=zp1 hv hT;refine⟨Unit,fun _=>⟨[(0,At0 b),(2,At0 L)],[]⟩,fun _ X=>z6 X L zB/\Bw w X,⟨(),⟨.cons rfl (.cons (by rw [hL];rfl) .nil),rfl⟩,by rw [hL];exact zw w _,(zba w _)⟩,?_⟩;rintro _ X ⟨f0,hbX⟩;refine⟨Nat,fun F=>⟨[(2,At0 L),(3,At0 F)],[]⟩,fun F Z=>z6 Z F (frM x)/\z6 Z L zB/\Bw w Z,?_,?_⟩
 ·have dX:Bw X X.drew:=(Ga _ _).drew;have fX:=hdr (zb hbX fx);have hba:∀ (A:Wd) (o:Obj),Bw A (A.alloc o):=fun A o=>(zba _ _);have put:∀ (W:Wd) (b3:Nat),Bw X W->z6 W b3 zB->X.heap.size<=b3->∀ {K:Wd->Prop},(∀ V,(z6 V b3 (frM x)/\z6 V L zB/\Bw w V)->K V) ->
    SatR ((storeVar 39 ⟨b3,0,none⟩ (.agg (zf (frM x)).toArray)).run PG W) fun _ w'=>K w':=by
   intro W b3 hW f3 g3 K k;refine zt (v := .agg (zf (frM x)).toArray) k39 f3 (zh _) (zh _) (zD _) ?_;have hL2:=hlt f0;exact k _ ⟨zn f3,(zp (by omega)).trans (zb hW f0),zl ((zst hbX hW)) (by have:=hbX.size;omega) _⟩
  refine DrawE.treeQ [14] (.op 0 (.op 1 (.op 2 (.op 3 (.op 5 (.op 6 (.op 7 (.op 8 (.alt (.op 13 (.op 4 (.op 9 (.op 10 (.op 11 (.op 12 (.op 14 (.op 15 (.nil))))))))) (.op 4 (.alt (.op 13 (.op 9 (.op 10 (.op 11 (.op 12 (.op 14 (.op 15 (.nil)))))))) (.op 9 (.op 10 (.op 11 (.op 12 (.op 13 (.op 14 (.op 15 (.nil))))))))))))))))))) (by kernel_rfl) ⟨zf x.rf,zh _,jt fX (i:=1) (by decide) rfl,hlt fX,zf x.co,zh _,jt fX (i:=2) (by decide) rfl,hlt fX,Gf ?_ ?_⟩
  ·refine⟨hba _ _,?_⟩;have b1:=dX.alloc (UV _) (.cells (zf zB).toArray 39);refine cmo (zh9 hv.rf (hT.below ((zst hbX b1)))) ?_;rintro e Y ⟨rfl,hbY,_⟩;refine⟨hbY,?_⟩;have b2:=zst b1 hbY;refine cmo (zcq wb hv.co (hT.below ((zst hbX b2)))) ?_;rintro e Z ⟨rfl,hbZ⟩;exact⟨hbZ,put Z X.heap.size ((zst b2 hbZ)) (zb hbZ (zb hbY (zw X.drew _))) (UV _) (fun V hV=>⟨X.heap.size,(cvE rfl rfl),hV⟩)⟩
  refine cmo (zh9 hv.rf (hT.below ((zst hbX dX)))) ?_;rintro e Y ⟨rfl,hbY,_⟩;refine⟨hbY,?_⟩;have b1:=zst dX hbY;refine Gf ?_ ?_
  ·refine⟨hba _ _,?_⟩;have b2:=b1.alloc b1.size (.cells (zf zB).toArray 39);refine cmo (zcq wb hv.co (hT.below ((zst hbX b2)))) ?_;rintro e Z ⟨rfl,hbZ⟩;exact⟨hbZ,put Z Y.heap.size ((zst b2 hbZ)) (zb hbZ (zw Y _)) b1.size (fun V hV=>⟨Y.heap.size,(cvE rfl rfl),hV⟩)⟩
  ·refine cmo (zcq wb hv.co (hT.below ((zst hbX b1)))) ?_;rintro e Z ⟨rfl,hbZ⟩;refine⟨hbZ,?_⟩;have b2:=zst b1 hbZ;exact⟨hba _ _,put _ Z.heap.size (b2.alloc b2.size _) (zw Z _) b2.size (fun V hV=>⟨Z.heap.size,(cvE rfl rfl),hV⟩)⟩
 rintro F Z ⟨f1,f0,hbZ⟩;exact⟨zf (frM x),zh _,za f1,hlt f1,zt (v := .agg (zf (frM x)).toArray) k39 f0 (zh _) (zh _) (zD _) ⟨zf (frM x),zh _,za (zn f0),rfl,zl hbZ (by omega) _⟩⟩
end
section
variable {b c:Nat} {x:ExD} {q:OA} {w:Wd}
theorem ztD {r:RelD} {a d R B:Nat} (fR:z6 w R r) (hr:zG r.to) (fB:w.heap[B]?=some (.cells #[At0 b] 81 (0,0))) (fx:ExH w b x q c) (hv:ExW w x q) (ha:a<x.ev.length) (hd:d<x.ev.length) :
  CB 92 #[i64 (a:Nat),i64 (d:Nat),At0 R,At0 B] w (.bool (zg r a d && !decide ((evA x a).th=(evA x d).th))):=by
 refine zI 29 [i64 (a:Nat),i64 (d:Nat),At0 R,At0 B] Tryz.func92 ?_;have hn:=hv.n;obtain⟨bq,oq,hqe,hb,hat⟩:=zco hv.ev ha;obtain⟨bq2,oq2,hqe2,hb2,hat2⟩:=zco hv.ev hd;rw [hqe] at hqe2;simp only [KY,Us,Gh] at hqe2;rw [<- hqe2.1,<- hqe2.2] at hat2;subst hqe;have dw:Bw w w.drew:=(Ga _ _).drew;refine DrawE.ord [] [0,1,2,3,4,5,6,7,8,9,10,11,12,13,14,15,16,17,18,19,20,21,22] (by kernel_rfl) (cmo (zV (ziB (hdr fR)) hr (by omega) (by omega)) ?_);rintro e _ ⟨rfl,rfl⟩;refine⟨Ga _ _,biE (fun h1=>?_) fun h1=>?_⟩
 ·have h1:zg r a d=true:=h1;exact⟨At0 b,zc (za (hdr fB)) (i:=0) rfl,_,zah (za (hdr fx)),a,rfl,ha,i64 (evA x a).th,by have:=zc (zr dw hat) (i:=0) (v:=i64 (evA x a).th) rfl;exact this,At0 b,zc (za (hdr fB)) (i:=0) rfl,_,zah (za (hdr fx)),d,rfl,hd,i64 (evA x d).th,by have:=zc (zr dw hat2) (i:=0) (v:=i64 (evA x d).th) rfl;exact this,rb (by rw [h1,Uw]),dw⟩
 ·have h1:zg r a d=false:=h1;exact⟨rb (by rw [h1,Uh]),dw⟩
theorem zoJ {a d B:Nat} (fB:w.heap[B]?=some (.cells #[At0 b] 81 (0,0))) (fx:ExH w b x q c) (hv:ExW w x q) (ha:a<x.ev.length) (hd:d<x.ev.length) :
  CB 48 #[i64 (a:Nat),i64 (d:Nat),At0 B] w (.bool (zg x.po a d&&zbx x a d)):=by
 refine zI 18 [i64 (a:Nat),i64 (d:Nat),At0 B] Tryz.func48 ?_;have hn:=hv.n;refine⟨At0 b,zc (za fB) (i:=0) rfl,cmo (zV (zfT (za fx) (zp7 x q c)) hv.po (by omega) (by omega)) ?_⟩;rintro e _ ⟨rfl,rfl⟩;refine biE (fun h1=>?_) fun h1=>?_
 ·have h1:zg x.po a d=true:=h1;refine⟨At0 b,zc (za fB) (i:=0) rfl,cmo (zpk (za fx) hv.ev ha hd) ?_⟩;rintro e X ⟨rfl,hb⟩;exact⟨rb (by rw [h1,Uw]),hb⟩
 ·have h1:zg x.po a d=false:=h1;exact⟨rb (by rw [h1,Uh]),Ga _ _⟩
theorem zuz {r:RelD} (fx:ExH w b x q c) (hv:ExW w x q) (hr:zG r.to) (hn:r.n=x.ev.length) :
  CB 56 #[At0 b,.agg (zf r).toArray] w (.agg (zf (zc6 x r)).toArray):=by
 refine qA 9 [At0 b,.agg (zf r).toArray] (.c .p (.c .p .p)) Tryz.func56 ?_;obtain⟨L,hL⟩:=nm (w.heap.size);have h19:=hv.n;refine⟨Unit,fun _=>⟨[(2,At0 L),(3,At0 (L+1)),(4,At0 (L+2))],[]⟩,fun _ X=>X.heap[L]?=some (.cells #[At0 b] 81 (0,0))/\z6 X (L+1) r/\z6 X (L+2) zB/\Bw w X,?_,?_⟩
 ·have s1:=wz w (.cells #[At0 b] 81);have s2:=wz (w.alloc (.cells #[At0 b] 81)) (.cells (zf r).toArray 39);have b1:Bw w (w.alloc (.cells #[At0 b] 81)):=zba w _;have b2:=b1.alloc b1.size (.cells (zf r).toArray 39);have h1:=zw w (.cells #[At0 b] 81);have h2:=zw (w.alloc (.cells #[At0 b] 81)) (.cells (zf r).toArray 39);have h3:=zw ((w.alloc (.cells #[At0 b] 81)).alloc (.cells (zf r).toArray 39)) (.cells (zf zB).toArray 39);rw [s1] at h2 s2;rw [s2] at h3;refine⟨(),⟨.cons (by rw [hL];rfl) (.cons (by rw [hL,<- s1];rfl) (.cons (by rw [hL,<- s2];rfl) .nil)),rfl⟩,by rw [hL];exact qM _ (qM _ h1),by rw [hL];exact qM _ h2,by rw [hL];exact h3,b2.alloc b2.size _⟩
 rintro _ X ⟨fB,fR,f0,hbX⟩;have fX:=zb hbX fx;have hvX:=hv.below hbX;refine⟨Unit,fun _=>⟨[(4,At0 (L+2))],[]⟩,fun _ Y=>z6 Y (L+2) (zc6 x r)/\Bw w Y,?_,?_⟩
 ·refine⟨i64 r.n,by have:=zc (za fR) (i:=0) (v:=i64 r.n) rfl;exact this,?_⟩;have en:zc6 x r=zbR x.ev.length fun a d=>zg r a d && !decide ((evA x a).th=(evA x d).th):=by
   unfold zc6;rw [hn];rfl
  rw [hn];refine cmo (zl4 (n:=x.ev.length) (caps := #[At0 (L+1),At0 L]) (g:=92) (p:=fun a d=>zg r a d && !decide ((evA x a).th=(evA x d).th)) (by omega) (by kernel_rfl) fun a d Z ha hd hb=>ztD (zb hb fR) hr (zb hb fB) (zb hb fX) (hvX.below hb) ha hd) ?_;rintro e Y ⟨rfl,hbY⟩;rw [<- en];have f0:=zb hbY f0;exact zt (v := .agg (zf (zc6 x r)).toArray) k39 f0 (zh _) (zh _) (zD _) ⟨(),(cvE rfl rfl),zn f0,zl ((zst hbX hbY)) (by omega) _⟩
 rintro _ Y ⟨f0,hbY⟩;exact⟨zf (zc6 x r),zh _,za f0,rfl,hbY⟩
end
section
variable {b c:Nat} {x:ExD} {q:OA} {w:Wd}
theorem zp4 {md:UInt8} (fx:ExH w b x q c) (hv:ExW w x q) (hT:Tz64M w):CB 93 #[At0 b,u8 md] w (.agg (zf (zS x md)).toArray):=by
 refine qA 70 [At0 b,u8 md] (.c .p (.c .p (.c .p (.c .p (.c .p (.c .p (.c .p .p))))))) Tryz.func93 ?_;obtain⟨L,hL⟩:=nm (w.heap.size);have hn:=hv.n;obtain⟨n,hnn⟩:=nm (x.ev.length);refine⟨Unit,fun _=>⟨[(0,At0 b),(1,u8 md),(4,At0 L)],[]⟩,fun _ X=>z6 X L zB/\Bw w X,⟨(),⟨.cons rfl (.cons rfl (.cons (by rw [hL];rfl) .nil)),rfl⟩,by rw [hL];exact zw w _,(zba w _)⟩,?_⟩;rintro _ X ⟨f0,hbX⟩;refine⟨Unit,fun _=>⟨[(0,At0 b),(1,u8 md),(4,At0 L),(5,i64 n)],[]⟩,fun _ Y=>X=Y,?_,?_⟩
 ·exact⟨_,zc (za (zb hbX fx)) (i:=0) rfl,(),⟨.cons rfl (.cons rfl (.cons rfl (.cons (by rw [hnn];rfl) .nil))),rfl⟩,rfl⟩
 rintro _ _ rfl;refine⟨Unit,fun _=>⟨[(0,At0 b),(1,u8 md),(4,At0 L),(5,i64 n),(6,.slice none 0 0)],[]⟩,fun _ Y=>X=Y,⟨(),(cvE rfl rfl),rfl⟩,?_⟩;rintro _ _ rfl;obtain⟨pr,hpr⟩:∃ pr:Nat->Bool,pr=fun i=>decide ((evA x i).k=3)&&decide ((evA x i).m=md):=⟨_,rfl⟩;obtain⟨B,hB⟩:=nm (X.heap.size);refine⟨OA×Nat,fun s=>⟨[(0,At0 b),(4,At0 L),(5,i64 n),(6,.slice s.1 ((List.range n).filter pr).length s.2)],[]⟩,fun s V=>OwnS zA 3 B V s.1 s.2 ((List.range n).filter pr)/\Below B X V,?_,?_⟩
 ·refine⟨_,zc (za (zb hbX fx)) (i:=0) rfl,?_⟩;refine⟨Nat×OA×Nat,fun s=>⟨[(0,At0 b),(1,u8 md),(4,At0 L),(5,i64 n),(6,.slice s.2.1 ((List.range s.1).filter pr).length s.2.2),(23,.slice q x.ev.length c),(24,i64 x.ev.length),(25,i64 (s.1:Nat))],[]⟩,fun s V=>s.1<=x.ev.length/\OwnS zA 3 B V s.2.1 s.2.2 ((List.range s.1).filter pr)/\Below B X V,fun s=>x.ev.length-s.1,(0,none,0),
   (cvE rfl rfl),⟨UY _,OwnS.nil,by rw [hB];exact Ga _ _⟩,?_⟩
  rintro⟨k,ps,cs⟩ V ⟨hk,oV,hbV⟩;dsimp only at hk oV ⊢;have hVs:B<=V.heap.size:=by have:=hbV.size;omega
  refine biE (fun hc=>?_) fun hc=>?_
  ·have hc:(k:Int)<(x.ev.length:Int):=dT hc;have hkl:k<x.ev.length:=by omega
   have hbwV:=hbX.trans (hbV.mono (by rw [hB];exact hbX.size));obtain⟨bq,oq,hqe,hb,hat⟩:=zco (hv.ev.below hbwV) hkl;have hfl:(List.range (k+1)).filter pr=(List.range k).filter pr++if pr k=true then [k] else []:=by
    rw [QU,Kv,Qm,List.filter_nil]
   have hprk:pr k=(decide ((evA x k).k=3)&&decide ((evA x k).m=md)):=by rw [hpr]
   have hll2:((List.range k).filter pr).length<=k:=by
    have:=JL pr (List.range k);rw [KU] at this;exact this
   obtain⟨e,he⟩:=nm (evA x k);rw [<- he] at hat hprk;have eq0:some (Value.slice q x.ev.length c)=some (Value.slice (some ⟨bq,oq,none⟩) x.ev.length c):=by rw [hqe]
   subst hqe;refine⟨k,rfl,hkl,evE.enc e,rfl,hat,hb,zq (X:=V) (v := .agg (evE.enc e).toArray) k49 rfl rfl (Qi.2 fun u hu=>evE.one e u hu) fun U hbU fU sU=>?_⟩;have fU:U.heap[V.heap.size]?=some (.cells (evE.enc e).toArray 49 (0,0)):=fU;have oU:=oV.below hbU;have hbU2:=hbV.trans (hbU.mono hVs);have hUs:B<=U.heap.size:=by have:=hbU.size;omega
   have skip:pr k=false->(k+1<=x.ev.length/\OwnS zA 3 B U ps cs ((List.range (k+1)).filter pr)/\Below B X U):=fun h=>⟨hkl,by rw [hfl,h];simpa using oU,hbU2⟩;have skipE:pr k=false->((List.range (k+1)).filter pr).length=((List.range k).filter pr).length:=fun h=>by rw [hfl,h];simp
   refine⟨u8 e.k,zc (za fU) (i:=1) rfl,biE (fun h1=>?_) fun h1=>?_⟩
   ·have h1:e.k=3:=qu.1 (dT h1);refine⟨u8 e.m,zc (za fU) (i:=4) rfl,biE (fun h2=>?_) fun h2=>?_⟩
    ·have h2:e.m=md:=qu.1 (dT h2);have hp1:pr k=true:=(by rw [hprk,Uq h1,Uq h2];rfl);rw [Gn hp1] at hfl;refine⟨⟨by decide,by decide,rfl⟩,zA.enc k,rfl,?_⟩;have hb2:Bw U (U.alloc (.cells (zA.enc k).toArray 3)):=zba _ _;have sb2:=hb2.size;unfold zed zaB;show SatR _ _;refine zmx (oU.below hb2) (qN zA k) (by omega) (by omega) fun p' c' S oS gS hat2=>?_;rw [zat] at gS;rw [<- hfl] at oS ⊢;exact nxI (by omega) ⟨(k+1,p',c'),(cvE rfl rfl),⟨hkl,oS,hbU2.trans ((hb2.mono hUs).trans (qS (oU.below hb2) (by omega) (UV _) gS))⟩,zdc (by omega)⟩
    ·have h2:¬ e.m=md:=fun e2=>(dF h2) (by rw [e2]);have hp0:pr k=false:=(by rw [hprk,Uf h2,Ug]);exact nxI (by omega) ⟨(k+1,ps,cs),⟨.cons rfl (.cons rfl (.cons rfl (.cons rfl (.cons (by show _=some (Value.slice ps ((List.range (k+1)).filter pr).length cs);rw [skipE hp0];rfl) (.cons rfl (.cons rfl (.cons rfl .nil))))))),rfl⟩,skip hp0,zdc (by omega)⟩
   ·have h1:¬ e.k=3:=fun e2=>(dF h1) (by rw [e2];rfl);have hp0:pr k=false:=(by rw [hprk,Uf h1];rfl);exact brF (nxI (by omega) ⟨(k+1,ps,cs),⟨.cons rfl (.cons rfl (.cons rfl (.cons rfl (.cons (by show _=some (Value.slice ps ((List.range (k+1)).filter pr).length cs);rw [skipE hp0];rfl) (.cons rfl (.cons rfl (.cons rfl .nil))))))),rfl⟩,skip hp0,zdc (by omega)⟩)
  ·have hc:¬ (k:Int)<(x.ev.length:Int):=dF hc;obtain rfl:k=x.ev.length:=by omega
   rw [<- hnn] at oV ⊢;exact⟨(ps,cs),(cvE rfl rfl),oV,hbV⟩
 rintro⟨ps,cs⟩ V ⟨oV,hbV⟩;dsimp only at oV ⊢;have hVs:B<=V.heap.size:=by have:=hbV.size;omega
 have hbwV:=hbX.trans (hbV.mono (by rw [hB];exact hbX.size));have hmask:orG ((List.range n).filter pr)=zbl x md:=by rw [hpr,hnn];rfl
 have hlt64:∀ i∈(List.range n).filter pr,i<64:=fun i hi=>by
  have:=Um.1 (QR.1 hi).1;omega
 have hlen:((List.range n).filter pr).length<=n:=by
  have:=JL pr (List.range n);rw [KU] at this;exact this
 refine⟨Unit,fun _=>⟨[(0,At0 b),(4,At0 L),(5,i64 n),(9,s64 (zbl x md))],[]⟩,fun _ Y=>V=Y,?_,?_⟩
 ·refine cmo (zvg oV.row hlt64 (by omega)) ?_;rintro e Y ⟨rfl,rfl⟩;rw [hmask];exact⟨(),(cvE rfl rfl),rfl⟩
 rintro _ _ rfl;have hm64:zbl x md<2^64:=by rw [<- hmask];exact zpB hlt64
 replace f0:=zb (by subst hB;exact hbV) f0;have fV:=zb hbwV fx;have hvV:=hv.below hbwV;have hTV:=hT.below hbwV;clear oV hbX hbV hlen hlt64 hmask hpr hB hVs;clear B ps cs pr X;have idw:zG (idR n (zbl x md)).to:=fun i hi=>by
  unfold idR;exact zd7 (fun i _ _=>KE QW hm64) i hi
 have hba:∀ (A:Wd) (o:Obj),Bw A (A.alloc o):=fun A o=>(zba _ _);refine⟨Nat,fun F=>⟨[(0,At0 b),(4,At0 L),(11,At0 F)],[]⟩,fun F Z=>z6 Z F (jh x.po (idR n (zbl x md))).1/\z6 Z L zB/\Bw w Z,?_,?_⟩
 ·have dV:Bw V V.drew:=(Ga _ _).drew;have put:∀ (W:Wd) (b3:Nat),Bw V W->z6 W b3 zB->V.heap.size<=b3->∀ {K:Wd->Prop},(∀ Y,(z6 Y b3 (jh x.po (idR n (zbl x md))).1/\z6 Y L zB/\Bw w Y)->K Y) ->
    SatR ((storeVar 39 ⟨b3,0,none⟩ (.agg (zf (jh x.po (idR n (zbl x md))).1).toArray)).run PG W) fun _ w'=>K w':=by
   intro W b3 hW f3 g3 K k;refine zt (v := .agg (zf (jh x.po (idR n (zbl x md))).1).toArray) k39 f3 (zh _) (zh _) (zD _) ?_;have hL2:=hlt f0;exact k _ ⟨zn f3,(zp (by omega)).trans (zb hW f0),zl ((zst hbwV hW)) (by have:=hbwV.size;omega) _⟩
  refine DrawE.treeQ [12] (.op 0 (.op 1 (.op 2 (.op 3 (.op 4 (.op 5 (.alt (.op 11 (.op 6 (.op 7 (.op 8 (.op 9 (.op 10 (.op 12 (.op 13 (.nil))))))))) (.op 6 (.alt (.op 11 (.op 7 (.op 8 (.op 9 (.op 10 (.op 12 (.op 13 (.nil)))))))) (.op 7 (.op 8 (.op 9 (.op 10 (.op 11 (.op 12 (.op 13 (.nil))))))))))))))))) (by kernel_rfl) ⟨zf x.po,zh _,jt (hdr fV) (i:=0) (by decide) rfl,hlt (hdr fV),Gf ?_ ?_⟩
  ·refine⟨hba _ _,?_⟩;have b1:=dV.alloc (UV _) (.cells (zf zB).toArray 39);refine cmo (zuK (n:=n) (by omega) hm64) ?_;rintro e Y ⟨rfl,hbY⟩;refine⟨hbY,?_⟩;have b2:=zst b1 hbY;refine cmo (zcq hvV.po idw (hTV.below b2)) ?_;rintro e Z ⟨rfl,hbZ⟩;exact⟨hbZ,put Z V.heap.size ((zst b2 hbZ)) (zb hbZ (zb hbY (zw V.drew _))) (UV _) (fun Y hY=>⟨V.heap.size,(cvE rfl rfl),hY⟩)⟩
  refine cmo (zuK (n:=n) (by omega) hm64) ?_;rintro e Y ⟨rfl,hbY⟩;refine⟨hbY,?_⟩;have b1:=zst dV hbY;refine Gf ?_ ?_
  ·refine⟨hba _ _,?_⟩;have b2:=b1.alloc b1.size (.cells (zf zB).toArray 39);refine cmo (zcq hvV.po idw (hTV.below b2)) ?_;rintro e Z ⟨rfl,hbZ⟩;exact⟨hbZ,put Z Y.heap.size ((zst b2 hbZ)) (zb hbZ (zw Y _)) b1.size (fun V2 hV=>⟨Y.heap.size,(cvE rfl rfl),hV⟩)⟩
  ·refine cmo (zcq hvV.po idw (hTV.below b1)) ?_;rintro e Z ⟨rfl,hbZ⟩;refine⟨hbZ,?_⟩;have b2:=zst b1 hbZ;exact⟨hba _ _,put _ Z.heap.size (b2.alloc b2.size _) (zw Z _) b2.size (fun V2 hV=>⟨Z.heap.size,(cvE rfl rfl),hV⟩)⟩
 clear f0 fV hvV hTV hbwV;clear V;rintro F V ⟨f1,f0,hbV⟩;have fV:=zb hbV fx;have hTV:=hT.below hbV;have hFw:=zdk hv.po idw;have efen:(jh (jh x.po (idR n (zbl x md))).1 x.po).1=zS x md:=by rw [hnn];rfl
 refine⟨Nat,fun G=>⟨[(4,At0 L),(13,At0 G)],[]⟩,fun G Z=>z6 Z G (zS x md)/\z6 Z L zB/\Bw w Z,?_,?_⟩
 ·have dV:Bw V V.drew:=(Ga _ _).drew;have put:∀ (W:Wd) (b3:Nat),Bw V W->z6 W b3 zB->V.heap.size<=b3->∀ {K:Wd->Prop},(∀ Y,(z6 Y b3 (zS x md)/\z6 Y L zB/\Bw w Y)->K Y) ->
    SatR ((storeVar 39 ⟨b3,0,none⟩ (.agg (zf (zS x md)).toArray)).run PG W) fun _ w'=>K w':=by
   intro W b3 hW f3 g3 K k;refine zt (v := .agg (zf (zS x md)).toArray) k39 f3 (zh _) (zh _) (zD _) ?_;have hL2:=hlt f0;exact k _ ⟨zn f3,(zp (by omega)).trans (zb hW f0),zl ((zst hbV hW)) (by have:=hbV.size;omega) _⟩
  refine DrawE.treeQ [10] (.op 0 (.op 1 (.op 2 (.op 3 (.op 4 (.alt (.op 9 (.op 5 (.op 6 (.op 7 (.op 8 (.op 10 (.op 11 .nil))))))) (.op 5 (.op 6 (.op 7 (.op 8 (.op 9 (.op 10 (.op 11 .nil))))))))))))) (by kernel_rfl) ⟨zf _,zh _,za (hdr f1),hlt (hdr f1),zf x.po,zh _,jt (hdr fV) (i:=0) (by decide) rfl,hlt (hdr fV),Gf ?_ ?_⟩
  ·refine⟨hba _ _,?_⟩;have b1:=dV.alloc (UV _) (.cells (zf zB).toArray 39);refine cmo (zcq hFw hv.po (hTV.below b1)) ?_;rintro e Y ⟨rfl,hbY⟩;refine⟨hbY,?_⟩;rw [efen];exact put Y V.heap.size ((zst b1 hbY)) (zb hbY (zw V.drew _)) (UV _) (fun Y hY=>⟨V.heap.size,(cvE rfl rfl),hY⟩)
  ·refine cmo (zcq hFw hv.po (hTV.below dV)) ?_;rintro e Y ⟨rfl,hbY⟩;refine⟨hbY,?_⟩;have b1:=zst dV hbY;refine⟨hba _ _,?_⟩;rw [efen];exact put _ Y.heap.size (b1.alloc b1.size _) (zw Y _) b1.size (fun V2 hV=>⟨Y.heap.size,(cvE rfl rfl),hV⟩)
 rintro G Z ⟨f1,f0,hbZ⟩;exact⟨zf (zS x md),zh _,za f1,hlt f1,zt (v := .agg (zf (zS x md)).toArray) k39 f0 (zh _) (zh _) (zD _) ⟨zf (zS x md),zh _,za (zn f0),rfl,zl hbZ (by omega) _⟩⟩
end
section
variable {w:Wd} {b c:Nat} {x:ExD} {q:OA} {f l s:RelD}
theorem zrl {a d:Nat}:CB 120 #[At0 b,i64 (a:Nat),i64 (d:Nat)] w (.bool (ze9 1 x f l s a d)):=by
 refine zI 7 [At0 b,i64 (a:Nat),i64 (d:Nat)] Tryz.func120 ?_;exact⟨rfl,Ga _ _⟩
theorem zrk {a d:Nat}:CB 121 #[At0 b,i64 (a:Nat),i64 (d:Nat)] w (.bool (ze9 2 x f l s a d)):=by
 refine zI 7 [At0 b,i64 (a:Nat),i64 (d:Nat)] Tryz.func121 ?_;exact⟨rfl,Ga _ _⟩
theorem zrj {a d:Nat} (h:ScnV w b x q c f l s) (ha:a<x.ev.length) (hd:d<x.ev.length):CB 122 #[At0 b,i64 (a:Nat),i64 (d:Nat)] w (.bool (ze9 3 x f l s a d)):=by
 refine zI 21 [At0 b,i64 (a:Nat),i64 (d:Nat)] Tryz.func122 ?_;have hn:=h.v.n;have hA:a<48:=by omega
 have hD:d<48:=by omega
 have hbw:=Ga w.heap.size w;refine cmo (zeq h ha) ?_;rintro e _ ⟨rfl,rfl⟩;refine biE (fun h1=>?_) fun h1=>?_
 ·have h1:isR x a=true:=h1;exact brT ⟨rb (by show _=(isR x a||(isW x d||zaz x f a d));rw [h1];rfl),hbw⟩
 ·have h1:isR x a=false:=h1;refine cmo (jE h hd) ?_;rintro e _ ⟨rfl,rfl⟩;refine biE (fun h2=>?_) fun h2=>?_
  ·have h2:isW x d=true:=h2;exact⟨rb (by show _=(isR x a||(isW x d||zaz x f a d));rw [h1,h2];rfl),hbw⟩
  ·have h2:isW x d=false:=h2;refine cmo (znF h ha hd) ?_;rintro e _ ⟨rfl,rfl⟩;exact⟨rb (by show _=(isR x a||(isW x d||zaz x f a d));rw [h1,h2];rfl),hbw⟩
theorem zri {a d:Nat} (h:ScnV w b x q c f l s) (ha:a<x.ev.length) (hd:d<x.ev.length):CB 126 #[At0 b,i64 (a:Nat),i64 (d:Nat)] w (.bool (ze9 4 x f l s a d)):=by
 refine zI 37 [At0 b,i64 (a:Nat),i64 (d:Nat)] Tryz.func126 ?_;have hn:=h.v.n;have hA:a<48:=by omega
 have hD:d<48:=by omega
 have hbw:=Ga w.heap.size w;refine cmo (zeq h ha) ?_;rintro e _ ⟨rfl,rfl⟩;refine biE (fun h1=>?_) fun h1=>?_
 ·have h1:isR x a=true:=h1;exact brT ⟨rb (by show _=(isR x a||(zaz x f a d||(isW x d&&(zbx x a d||zg s a d))));rw [h1];rfl),hbw⟩
 ·have h1:isR x a=false:=h1;refine cmo (znF h ha hd) ?_;rintro e _ ⟨rfl,rfl⟩;refine biE (fun h2=>?_) fun h2=>?_
  ·have h2:zaz x f a d=true:=h2;exact⟨rb (by show _=(isR x a||(zaz x f a d||(isW x d&&(zbx x a d||zg s a d))));rw [h1,h2];rfl),hbw⟩
  ·have h2:zaz x f a d=false:=h2;refine cmo (jE h hd) ?_;rintro e _ ⟨rfl,rfl⟩;refine biE (fun h3=>?_) fun h3=>?_
   ·have h3:isW x d=true:=h3;refine cmo (zpk h.cells h.v.ev ha hd) ?_;rintro e Z4 ⟨rfl,hbZ4⟩;have h:=h.below hbZ4;have hbw:=zst hbw hbZ4;refine biE (fun h4=>?_) fun h4=>?_
    ·have h4:zbx x a d=true:=h4;exact⟨rb (by show _=(isR x a||(zaz x f a d||(isW x d&&(zbx x a d||zg s a d))));rw [h1,h2,h3,h4];rfl),hbw⟩
    ·have h4:zbx x a d=false:=h4;refine cmo (zV h.stores h.ws hA hD) ?_;rintro e _ ⟨rfl,rfl⟩;exact⟨rb (by show _=(isR x a||(zaz x f a d||(isW x d&&(zbx x a d||zg s a d))));rw [h1,h2,h3,h4];rfl),hbw⟩
   ·have h3:isW x d=false:=h3;exact⟨rb (by show _=(isR x a||(zaz x f a d||(isW x d&&(zbx x a d||zg s a d))));rw [h1,h2,h3];rfl),hbw⟩
theorem zrh {a d:Nat} (h:ScnV w b x q c f l s) (ha:a<x.ev.length) (hd:d<x.ev.length):CB 127 #[At0 b,i64 (a:Nat),i64 (d:Nat)] w (.bool (ze9 5 x f l s a d)):=by
 refine zI 49 [At0 b,i64 (a:Nat),i64 (d:Nat)] Tryz.func127 ?_;have hn:=h.v.n;have hA:a<48:=by omega
 have hD:d<48:=by omega
 have hbw:=Ga w.heap.size w;refine cmo (zeq h ha) ?_;rintro e _ ⟨rfl,rfl⟩;refine biE (fun h1=>?_) fun h1=>?_
 ·have h1:isR x a=true:=h1;refine cmo (zdl (md:=1) h ha) ?_;rintro e _ ⟨rfl,rfl⟩;refine biE (fun h2=>?_) fun h2=>?_
  ·have h2:zY x a 1=true:=h2;exact brT (brT ⟨rb (by show _=((isR x a&&(zY x a 1||zg l a d))||((isW x d&&(zY x d 2||zg s a d))||zg f a d));rw [h1,h2];rfl),hbw⟩)
  ·have h2:zY x a 1=false:=h2;refine cmo (zV h.loads h.wl hA hD) ?_;rintro e _ ⟨rfl,rfl⟩;refine biE (fun h3=>?_) fun h3=>?_
   ·have h3:zg l a d=true:=h3;exact brT ⟨rb (by show _=((isR x a&&(zY x a 1||zg l a d))||((isW x d&&(zY x d 2||zg s a d))||zg f a d));rw [h1,h2,h3];rfl),hbw⟩
   ·have h3:zg l a d=false:=h3;refine cmo (jE h hd) ?_;rintro e _ ⟨rfl,rfl⟩;refine biE (fun h4=>?_) fun h4=>?_
    ·have h4:isW x d=true:=h4;refine cmo (zdl (md:=2) h hd) ?_;rintro e _ ⟨rfl,rfl⟩;refine biE (fun h5=>?_) fun h5=>?_
     ·have h5:zY x d 2=true:=h5;exact brT ⟨rb (by show _=((isR x a&&(zY x a 1||zg l a d))||((isW x d&&(zY x d 2||zg s a d))||zg f a d));rw [h1,h2,h3,h4,h5];rfl),hbw⟩
     ·have h5:zY x d 2=false:=h5;refine cmo (zV h.stores h.ws hA hD) ?_;rintro e _ ⟨rfl,rfl⟩;refine biE (fun h6=>?_) fun h6=>?_
      ·have h6:zg s a d=true:=h6;exact⟨rb (by show _=((isR x a&&(zY x a 1||zg l a d))||((isW x d&&(zY x d 2||zg s a d))||zg f a d));rw [h1,h2,h3,h4,h5,h6];rfl),hbw⟩
      ·have h6:zg s a d=false:=h6;refine cmo (zV h.full h.wf hA hD) ?_;rintro e _ ⟨rfl,rfl⟩;exact⟨rb (by show _=((isR x a&&(zY x a 1||zg l a d))||((isW x d&&(zY x d 2||zg s a d))||zg f a d));rw [h1,h2,h3,h4,h5,h6];rfl),hbw⟩
    ·have h4:isW x d=false:=h4;refine brF (cmo (zV h.full h.wf hA hD) ?_);rintro e _ ⟨rfl,rfl⟩;exact⟨rb (by show _=((isR x a&&(zY x a 1||zg l a d))||((isW x d&&(zY x d 2||zg s a d))||zg f a d));rw [h1,h2,h3,h4];rfl),hbw⟩
 ·have h1:isR x a=false:=h1;refine brF (cmo (jE h hd) ?_);rintro e _ ⟨rfl,rfl⟩;refine biE (fun h9=>?_) fun h9=>?_
  ·have h9:isW x d=true:=h9;refine cmo (zdl (md:=2) h hd) ?_;rintro e _ ⟨rfl,rfl⟩;refine biE (fun h10=>?_) fun h10=>?_
   ·have h10:zY x d 2=true:=h10;exact brT ⟨rb (by show _=((isR x a&&(zY x a 1||zg l a d))||((isW x d&&(zY x d 2||zg s a d))||zg f a d));rw [h1,h9,h10];rfl),hbw⟩
   ·have h10:zY x d 2=false:=h10;refine cmo (zV h.stores h.ws hA hD) ?_;rintro e _ ⟨rfl,rfl⟩;refine biE (fun h11=>?_) fun h11=>?_
    ·have h11:zg s a d=true:=h11;exact⟨rb (by show _=((isR x a&&(zY x a 1||zg l a d))||((isW x d&&(zY x d 2||zg s a d))||zg f a d));rw [h1,h9,h10,h11];rfl),hbw⟩
    ·have h11:zg s a d=false:=h11;refine cmo (zV h.full h.wf hA hD) ?_;rintro e _ ⟨rfl,rfl⟩;exact⟨rb (by show _=((isR x a&&(zY x a 1||zg l a d))||((isW x d&&(zY x d 2||zg s a d))||zg f a d));rw [h1,h9,h10,h11];rfl),hbw⟩
  ·have h9:isW x d=false:=h9;refine brF (cmo (zV h.full h.wf hA hD) ?_);rintro e _ ⟨rfl,rfl⟩;exact⟨rb (by show _=((isR x a&&(zY x a 1||zg l a d))||((isW x d&&(zY x d 2||zg s a d))||zg f a d));rw [h1,h9];rfl),hbw⟩
theorem zrg {a d:Nat} (h:ScnV w b x q c f l s) (ha:a<x.ev.length) (hd:d<x.ev.length):CB 129 #[At0 b,i64 (a:Nat),i64 (d:Nat)] w (.bool (ze9 6 x f l s a d)):=by
 refine zI 81 [At0 b,i64 (a:Nat),i64 (d:Nat)] Tryz.func129 ?_;have hn:=h.v.n;have hA:a<48:=by omega
 have hD:d<48:=by omega
 have hbw:=Ga w.heap.size w;refine cmo (zV (zfT h.cells (ztE x q c)) h.v.dt hA hD) ?_;rintro e _ ⟨rfl,rfl⟩;refine biE (fun h1=>?_) fun h1=>?_
 ·have h1:zg x.dt a d=true:=h1;exact brT (brT (brT (brT ⟨rb (by show _=(zg x.dt a d||((zg x.ct a d&&isW x d)||(zg x.rm a d||(zg f a d||((zg l a d&&(isR x a&&isR x d))||(zg s a d&&(isW x a&&isW x d)))))));rw [h1];rfl),hbw⟩)))
 ·have h1:zg x.dt a d=false:=h1;refine cmo (zV (zfT h.cells (ztF x q c)) h.v.ct hA hD) ?_;rintro e _ ⟨rfl,rfl⟩;refine biE (fun h2=>?_) fun h2=>?_
  ·have h2:zg x.ct a d=true:=h2;refine cmo (jE h hd) ?_;rintro e _ ⟨rfl,rfl⟩;refine biE (fun h3=>?_) fun h3=>?_
   ·have h3:isW x d=true:=h3;exact brT (brT (brT ⟨rb (by show _=(zg x.dt a d||((zg x.ct a d&&isW x d)||(zg x.rm a d||(zg f a d||((zg l a d&&(isR x a&&isR x d))||(zg s a d&&(isW x a&&isW x d)))))));rw [h1,h2,h3];rfl),hbw⟩))
   ·have h3:isW x d=false:=h3;refine cmo (zV (zfT h.cells (zp6 x q c)) h.v.rm hA hD) ?_;rintro e _ ⟨rfl,rfl⟩;refine biE (fun h4=>?_) fun h4=>?_
    ·have h4:zg x.rm a d=true:=h4;exact brT (brT ⟨rb (by show _=(zg x.dt a d||((zg x.ct a d&&isW x d)||(zg x.rm a d||(zg f a d||((zg l a d&&(isR x a&&isR x d))||(zg s a d&&(isW x a&&isW x d)))))));rw [h1,h2,h3,h4];rfl),hbw⟩)
    ·have h4:zg x.rm a d=false:=h4;refine cmo (zV h.full h.wf hA hD) ?_;rintro e _ ⟨rfl,rfl⟩;refine biE (fun h5=>?_) fun h5=>?_
     ·have h5:zg f a d=true:=h5;exact brT ⟨rb (by show _=(zg x.dt a d||((zg x.ct a d&&isW x d)||(zg x.rm a d||(zg f a d||((zg l a d&&(isR x a&&isR x d))||(zg s a d&&(isW x a&&isW x d)))))));rw [h1,h2,h3,h4,h5];rfl),hbw⟩
     ·have h5:zg f a d=false:=h5;refine cmo (zV h.loads h.wl hA hD) ?_;rintro e _ ⟨rfl,rfl⟩;refine biE (fun h6=>?_) fun h6=>?_
      ·have h6:zg l a d=true:=h6;refine cmo (zeq h ha) ?_;rintro e _ ⟨rfl,rfl⟩;refine biE (fun h7=>?_) fun h7=>?_
       ·have h7:isR x a=true:=h7;refine cmo (zeq h hd) ?_;rintro e _ ⟨rfl,rfl⟩;refine biE (fun h8=>?_) fun h8=>?_
        ·have h8:isR x d=true:=h8;exact⟨rb (by show _=(zg x.dt a d||((zg x.ct a d&&isW x d)||(zg x.rm a d||(zg f a d||((zg l a d&&(isR x a&&isR x d))||(zg s a d&&(isW x a&&isW x d)))))));rw [h1,h2,h3,h4,h5,h6,h7,h8];rfl),hbw⟩
        ·have h8:isR x d=false:=h8;refine cmo (zV h.stores h.ws hA hD) ?_;rintro e _ ⟨rfl,rfl⟩;refine biE (fun h9=>?_) fun h9=>?_
         ·have h9:zg s a d=true:=h9;refine cmo (jE h ha) ?_;rintro e _ ⟨rfl,rfl⟩;refine biE (fun h10=>?_) fun h10=>?_
          ·have h10:isW x a=true:=h10;refine cmo (jE h hd) ?_;rintro e _ ⟨rfl,rfl⟩;exact⟨rb (by show _=(zg x.dt a d||((zg x.ct a d&&isW x d)||(zg x.rm a d||(zg f a d||((zg l a d&&(isR x a&&isR x d))||(zg s a d&&(isW x a&&isW x d)))))));rw [h1,h2,h3,h4,h5,h6,h7,h8,h9,h10];rfl),hbw⟩
          ·have h10:isW x a=false:=h10;exact⟨rb (by show _=(zg x.dt a d||((zg x.ct a d&&isW x d)||(zg x.rm a d||(zg f a d||((zg l a d&&(isR x a&&isR x d))||(zg s a d&&(isW x a&&isW x d)))))));rw [h1,h2,h3,h4,h5,h6,h7,h8,h9,h10];rfl),hbw⟩
         ·have h9:zg s a d=false:=h9;exact brF ⟨rb (by show _=(zg x.dt a d||((zg x.ct a d&&isW x d)||(zg x.rm a d||(zg f a d||((zg l a d&&(isR x a&&isR x d))||(zg s a d&&(isW x a&&isW x d)))))));rw [h1,h2,h3,h4,h5,h6,h7,h8,h9];rfl),hbw⟩
       ·have h7:isR x a=false:=h7;refine brF (cmo (zV h.stores h.ws hA hD) ?_);rintro e _ ⟨rfl,rfl⟩;refine biE (fun h12=>?_) fun h12=>?_
        ·have h12:zg s a d=true:=h12;refine cmo (jE h ha) ?_;rintro e _ ⟨rfl,rfl⟩;refine biE (fun h13=>?_) fun h13=>?_
         ·have h13:isW x a=true:=h13;refine cmo (jE h hd) ?_;rintro e _ ⟨rfl,rfl⟩;exact⟨rb (by show _=(zg x.dt a d||((zg x.ct a d&&isW x d)||(zg x.rm a d||(zg f a d||((zg l a d&&(isR x a&&isR x d))||(zg s a d&&(isW x a&&isW x d)))))));rw [h1,h2,h3,h4,h5,h6,h7,h12,h13];rfl),hbw⟩
         ·have h13:isW x a=false:=h13;exact⟨rb (by show _=(zg x.dt a d||((zg x.ct a d&&isW x d)||(zg x.rm a d||(zg f a d||((zg l a d&&(isR x a&&isR x d))||(zg s a d&&(isW x a&&isW x d)))))));rw [h1,h2,h3,h4,h5,h6,h7,h12,h13];rfl),hbw⟩
        ·have h12:zg s a d=false:=h12;exact brF ⟨rb (by show _=(zg x.dt a d||((zg x.ct a d&&isW x d)||(zg x.rm a d||(zg f a d||((zg l a d&&(isR x a&&isR x d))||(zg s a d&&(isW x a&&isW x d)))))));rw [h1,h2,h3,h4,h5,h6,h7,h12];rfl),hbw⟩
      ·have h6:zg l a d=false:=h6;refine brF (brF (cmo (zV h.stores h.ws hA hD) ?_));rintro e _ ⟨rfl,rfl⟩;refine biE (fun h15=>?_) fun h15=>?_
       ·have h15:zg s a d=true:=h15;refine cmo (jE h ha) ?_;rintro e _ ⟨rfl,rfl⟩;refine biE (fun h16=>?_) fun h16=>?_
        ·have h16:isW x a=true:=h16;refine cmo (jE h hd) ?_;rintro e _ ⟨rfl,rfl⟩;exact⟨rb (by show _=(zg x.dt a d||((zg x.ct a d&&isW x d)||(zg x.rm a d||(zg f a d||((zg l a d&&(isR x a&&isR x d))||(zg s a d&&(isW x a&&isW x d)))))));rw [h1,h2,h3,h4,h5,h6,h15,h16];rfl),hbw⟩
        ·have h16:isW x a=false:=h16;exact⟨rb (by show _=(zg x.dt a d||((zg x.ct a d&&isW x d)||(zg x.rm a d||(zg f a d||((zg l a d&&(isR x a&&isR x d))||(zg s a d&&(isW x a&&isW x d)))))));rw [h1,h2,h3,h4,h5,h6,h15,h16];rfl),hbw⟩
       ·have h15:zg s a d=false:=h15;exact brF ⟨rb (by show _=(zg x.dt a d||((zg x.ct a d&&isW x d)||(zg x.rm a d||(zg f a d||((zg l a d&&(isR x a&&isR x d))||(zg s a d&&(isW x a&&isW x d)))))));rw [h1,h2,h3,h4,h5,h6,h15];rfl),hbw⟩
  ·have h2:zg x.ct a d=false:=h2;refine brF (cmo (zV (zfT h.cells (zp6 x q c)) h.v.rm hA hD) ?_);rintro e _ ⟨rfl,rfl⟩;refine biE (fun h18=>?_) fun h18=>?_
   ·have h18:zg x.rm a d=true:=h18;exact brT (brT ⟨rb (by show _=(zg x.dt a d||((zg x.ct a d&&isW x d)||(zg x.rm a d||(zg f a d||((zg l a d&&(isR x a&&isR x d))||(zg s a d&&(isW x a&&isW x d)))))));rw [h1,h2,h18];rfl),hbw⟩)
   ·have h18:zg x.rm a d=false:=h18;refine cmo (zV h.full h.wf hA hD) ?_;rintro e _ ⟨rfl,rfl⟩;refine biE (fun h19=>?_) fun h19=>?_
    ·have h19:zg f a d=true:=h19;exact brT ⟨rb (by show _=(zg x.dt a d||((zg x.ct a d&&isW x d)||(zg x.rm a d||(zg f a d||((zg l a d&&(isR x a&&isR x d))||(zg s a d&&(isW x a&&isW x d)))))));rw [h1,h2,h18,h19];rfl),hbw⟩
    ·have h19:zg f a d=false:=h19;refine cmo (zV h.loads h.wl hA hD) ?_;rintro e _ ⟨rfl,rfl⟩;refine biE (fun h20=>?_) fun h20=>?_
     ·have h20:zg l a d=true:=h20;refine cmo (zeq h ha) ?_;rintro e _ ⟨rfl,rfl⟩;refine biE (fun h21=>?_) fun h21=>?_
      ·have h21:isR x a=true:=h21;refine cmo (zeq h hd) ?_;rintro e _ ⟨rfl,rfl⟩;refine biE (fun h22=>?_) fun h22=>?_
       ·have h22:isR x d=true:=h22;exact⟨rb (by show _=(zg x.dt a d||((zg x.ct a d&&isW x d)||(zg x.rm a d||(zg f a d||((zg l a d&&(isR x a&&isR x d))||(zg s a d&&(isW x a&&isW x d)))))));rw [h1,h2,h18,h19,h20,h21,h22];rfl),hbw⟩
       ·have h22:isR x d=false:=h22;refine cmo (zV h.stores h.ws hA hD) ?_;rintro e _ ⟨rfl,rfl⟩;refine biE (fun h23=>?_) fun h23=>?_
        ·have h23:zg s a d=true:=h23;refine cmo (jE h ha) ?_;rintro e _ ⟨rfl,rfl⟩;refine biE (fun h24=>?_) fun h24=>?_
         ·have h24:isW x a=true:=h24;refine cmo (jE h hd) ?_;rintro e _ ⟨rfl,rfl⟩;exact⟨rb (by show _=(zg x.dt a d||((zg x.ct a d&&isW x d)||(zg x.rm a d||(zg f a d||((zg l a d&&(isR x a&&isR x d))||(zg s a d&&(isW x a&&isW x d)))))));rw [h1,h2,h18,h19,h20,h21,h22,h23,h24];rfl),hbw⟩
         ·have h24:isW x a=false:=h24;exact⟨rb (by show _=(zg x.dt a d||((zg x.ct a d&&isW x d)||(zg x.rm a d||(zg f a d||((zg l a d&&(isR x a&&isR x d))||(zg s a d&&(isW x a&&isW x d)))))));rw [h1,h2,h18,h19,h20,h21,h22,h23,h24];rfl),hbw⟩
        ·have h23:zg s a d=false:=h23;exact brF ⟨rb (by show _=(zg x.dt a d||((zg x.ct a d&&isW x d)||(zg x.rm a d||(zg f a d||((zg l a d&&(isR x a&&isR x d))||(zg s a d&&(isW x a&&isW x d)))))));rw [h1,h2,h18,h19,h20,h21,h22,h23];rfl),hbw⟩
      ·have h21:isR x a=false:=h21;refine brF (cmo (zV h.stores h.ws hA hD) ?_);rintro e _ ⟨rfl,rfl⟩;refine biE (fun h26=>?_) fun h26=>?_
       ·have h26:zg s a d=true:=h26;refine cmo (jE h ha) ?_;rintro e _ ⟨rfl,rfl⟩;refine biE (fun h27=>?_) fun h27=>?_
        ·have h27:isW x a=true:=h27;refine cmo (jE h hd) ?_;rintro e _ ⟨rfl,rfl⟩;exact⟨rb (by show _=(zg x.dt a d||((zg x.ct a d&&isW x d)||(zg x.rm a d||(zg f a d||((zg l a d&&(isR x a&&isR x d))||(zg s a d&&(isW x a&&isW x d)))))));rw [h1,h2,h18,h19,h20,h21,h26,h27];rfl),hbw⟩
        ·have h27:isW x a=false:=h27;exact⟨rb (by show _=(zg x.dt a d||((zg x.ct a d&&isW x d)||(zg x.rm a d||(zg f a d||((zg l a d&&(isR x a&&isR x d))||(zg s a d&&(isW x a&&isW x d)))))));rw [h1,h2,h18,h19,h20,h21,h26,h27];rfl),hbw⟩
       ·have h26:zg s a d=false:=h26;exact brF ⟨rb (by show _=(zg x.dt a d||((zg x.ct a d&&isW x d)||(zg x.rm a d||(zg f a d||((zg l a d&&(isR x a&&isR x d))||(zg s a d&&(isW x a&&isW x d)))))));rw [h1,h2,h18,h19,h20,h21,h26];rfl),hbw⟩
     ·have h20:zg l a d=false:=h20;refine brF (brF (cmo (zV h.stores h.ws hA hD) ?_));rintro e _ ⟨rfl,rfl⟩;refine biE (fun h29=>?_) fun h29=>?_
      ·have h29:zg s a d=true:=h29;refine cmo (jE h ha) ?_;rintro e _ ⟨rfl,rfl⟩;refine biE (fun h30=>?_) fun h30=>?_
       ·have h30:isW x a=true:=h30;refine cmo (jE h hd) ?_;rintro e _ ⟨rfl,rfl⟩;exact⟨rb (by show _=(zg x.dt a d||((zg x.ct a d&&isW x d)||(zg x.rm a d||(zg f a d||((zg l a d&&(isR x a&&isR x d))||(zg s a d&&(isW x a&&isW x d)))))));rw [h1,h2,h18,h19,h20,h29,h30];rfl),hbw⟩
       ·have h30:isW x a=false:=h30;exact⟨rb (by show _=(zg x.dt a d||((zg x.ct a d&&isW x d)||(zg x.rm a d||(zg f a d||((zg l a d&&(isR x a&&isR x d))||(zg s a d&&(isW x a&&isW x d)))))));rw [h1,h2,h18,h19,h20,h29,h30];rfl),hbw⟩
      ·have h29:zg s a d=false:=h29;exact brF ⟨rb (by show _=(zg x.dt a d||((zg x.ct a d&&isW x d)||(zg x.rm a d||(zg f a d||((zg l a d&&(isR x a&&isR x d))||(zg s a d&&(isW x a&&isW x d)))))));rw [h1,h2,h18,h19,h20,h29];rfl),hbw⟩
end
abbrev zcY:List Value:=[.nilFunc,.func (.func 120) #[] #[],.func (.func 121) #[] #[],.func (.func 122) #[] #[],.func (.func 126) #[] #[],.func (.func 127) #[] #[],.func (.func 129) #[] #[]]
section
variable {b c:Nat} {x:ExD} {q:OA} {w:Wd} {f l s:RelD}
theorem zrf:CB 94 #[] w (.agg zcY.toArray):=by
 refine qA 8 [] (.c .p .p) Tryz.func94 ?_;obtain⟨L,hL⟩:=nm (w.heap.size);refine⟨Unit,fun _=>⟨[(0,At0 L)],[]⟩,fun _ X=>X.heap[L]?=some (.cells #[.nilFunc,.nilFunc,.nilFunc,.nilFunc,.nilFunc,.nilFunc,.nilFunc] 162 (0,0))/\Bw w X,⟨(),⟨.cons (by rw [hL];rfl) .nil,rfl⟩,by rw [hL];exact zw w _,(zba w _)⟩,?_⟩;rintro _ X ⟨f0,hbX⟩;refine⟨[.func (.func 120) #[] #[]],by kernel_rfl,?_⟩;refine⟨[.func (.func 121) #[] #[]],by kernel_rfl,?_⟩;refine⟨[.func (.func 122) #[] #[]],by kernel_rfl,?_⟩;refine⟨[.func (.func 126) #[] #[]],by kernel_rfl,?_⟩;refine⟨[.func (.func 127) #[] #[]],by kernel_rfl,?_⟩;refine⟨[.func (.func 129) #[] #[]],by kernel_rfl,?_⟩;refine⟨zcY,by kernel_rfl,?_⟩;refine zt (v := .agg zcY.toArray) zuy f0 rfl rfl rfl ?_;exact⟨zcY,rfl,za (zn f0),rfl,zl hbX (by omega) _⟩
theorem zdY {S Rb Mb Sv g a d:Nat} {m:UInt8} {K:Bool} (hs:ScnV w S x q c f l s) (fSv:w.heap[Sv]?=some (.cells #[At0 S] 155 (0,0))) (fR:w.heap[Rb]?=some (.cells zcY.toArray 162 (0,0))) (fM:w.heap[Mb]?=some (.cells #[u8 m] 5 (0,0)))
  (hm7:m.toNat<7) (hm:zcY[m.toNat]?=some (.func (.func g) #[] #[])) (hok:jY (sg 0) g=true) (hK:∀ X,Bw w X->Calls PG g #[At0 S,i64 (a:Nat),i64 (d:Nat)] X fun e Y=>e = .returned (.bool K)/\Bw X Y) (ha:a<x.ev.length) (hd:d<x.ev.length) :
  CB 95 #[i64 (a:Nat),i64 (d:Nat),At0 Sv,At0 Rb,At0 Mb] w (.bool (zg x.po a d&&(zbZ x a&&(zbZ x d&&K)))):=by
 refine zI 47 [i64 (a:Nat),i64 (d:Nat),At0 Sv,At0 Rb,At0 Mb] Tryz.func95 ?_;have hn:=hs.v.n;have fx:=hs.cells;obtain⟨bq,oq,hqe,hb,hat⟩:=zco hs.v.ev ha;obtain⟨bq2,oq2,hqe2,hb2,hat2⟩:=zco hs.v.ev hd;rw [hqe] at hqe2;simp only [KY,Us,Gh] at hqe2;rw [<- hqe2.1,<- hqe2.2] at hat2;have hpo:=hs.v.po;subst hqe;have dw:Bw w w.drew:=(Ga _ _).drew;refine DrawE.ord [] [0,1,2,3,4,5,6,7,8,9,10,11,12,13,14,15,16,17,18,19,20,21,22,23,24,25,26,27,28,29,30,31,32,33,34,35,36,37,38,39] (by kernel_rfl) ?_;refine⟨At0 S,zc (za (hdr fSv)) (i:=0) rfl,?_⟩;refine cmo (zV (zfT (zr dw fx) (zp7 x _ c)) hpo (by omega) (by omega)) ?_;rintro e _ ⟨rfl,rfl⟩;refine⟨Ga _ _,?_⟩;refine biE (fun h1=>?_) fun h1=>?_
 ·have h1:zg x.po a d=true:=h1;refine⟨At0 S,zc (za (hdr fSv)) (i:=0) rfl,?_⟩;refine⟨_,zah (zr dw fx),?_⟩;refine⟨a,rfl,ha,?_⟩;refine⟨evE.enc (evA x a),rfl,zr dw hat,nL hb dw.size,?_⟩;refine cmo zft ?_;rintro e X ⟨rfl,hbX⟩;refine⟨hbX,?_⟩;have bX:=dw.trans hbX;rw [zj1];refine biE (fun h2=>?_) fun h2=>?_
  ·have h2:zbZ x a=true:=h2;refine⟨At0 S,zc (za (zb bX fSv)) (i:=0) rfl,?_⟩;refine⟨_,zah (zr bX fx),?_⟩;refine⟨d,rfl,hd,?_⟩;refine⟨evE.enc (evA x d),rfl,zr bX hat2,nL hb bX.size,?_⟩;refine cmo zft ?_;rintro e Y ⟨rfl,hbY⟩;refine⟨hbY,?_⟩;have bY:=zst bX hbY;rw [zj1];refine biE (fun h3=>?_) fun h3=>?_
   ·have h3:zbZ x d=true:=h3;refine⟨u8 m,zc (za (zb bY fM)) (i:=0) rfl,?_⟩;refine⟨m.toNat,rfl,hm7,?_⟩;refine⟨.func (.func g) #[] #[],by have:=zc (za (zb bY fR)) (i:=m.toNat) (v := .func (.func g) #[] #[]) hm;rw [UW];exact this,?_⟩;refine⟨At0 S,zc (za (zb bY fSv)) (i:=0) rfl,?_⟩;refine zh1 hok (hK Y bY) ?_;rintro e Z ⟨rfl,hbZ⟩;refine⟨_,rfl,hbZ,?_⟩;exact⟨rb (by rw [h1,h2,h3];rfl),(zst bY hbZ)⟩
   ·have h3:zbZ x d=false:=h3;exact⟨rb (by rw [h1,h2,h3];rfl),bY⟩
  ·have h2:zbZ x a=false:=h2;refine brF ?_;exact⟨rb (by rw [h1,h2];rfl),bX⟩
 ·have h1:zg x.po a d=false:=h1;refine brF ?_;refine brF ?_;exact⟨rb (by rw [h1];rfl),dw⟩
theorem zk0 {m:UInt8} (h:zae m.toNat=true):m=1\/m=2\/m=3\/m=4\/m=5\/m=6:=by
 unfold zae at h;rw [bAT,dE,dE] at h;simp only [<- Ue];show m.toNat=1\/m.toNat=2\/m.toNat=3\/m.toNat=4\/m.toNat=5\/m.toNat=6;omega
theorem zrC {S Rb Mb Sv a d:Nat} {m:UInt8} (hk:zae m.toNat=true) (hs:ScnV w S x q c f l s) (fSv:w.heap[Sv]?=some (.cells #[At0 S] 155 (0,0))) (fR:w.heap[Rb]?=some (.cells zcY.toArray 162 (0,0))) (fM:w.heap[Mb]?=some (.cells #[u8 m] 5 (0,0)))
  (ha:a<x.ev.length) (hd:d<x.ev.length) :
  CB 95 #[i64 (a:Nat),i64 (d:Nat),At0 Sv,At0 Rb,At0 Mb] w (.bool (zg x.po a d&&(zbZ x a&&(zbZ x d&&ze9 m.toNat x f l s a d)))):=by
 rcases zk0 hk with rfl | rfl | rfl | rfl | rfl | rfl
 ·exact zdY (g:=120) hs fSv fR fM (by decide) rfl (by kernel_rfl) (fun X hb=>zrl) ha hd
 ·exact zdY (g:=121) hs fSv fR fM (by decide) rfl (by kernel_rfl) (fun X hb=>zrk) ha hd
 ·exact zdY (g:=122) hs fSv fR fM (by decide) rfl (by kernel_rfl) (fun X hb=>zrj (hs.below hb) ha hd) ha hd
 ·exact zdY (g:=126) hs fSv fR fM (by decide) rfl (by kernel_rfl) (fun X hb=>zri (hs.below hb) ha hd) ha hd
 ·exact zdY (g:=127) hs fSv fR fM (by decide) rfl (by kernel_rfl) (fun X hb=>zrh (hs.below hb) ha hd) ha hd
 ·exact zdY (g:=129) hs fSv fR fM (by decide) rfl (by kernel_rfl) (fun X hb=>zrg (hs.below hb) ha hd) ha hd
theorem zjw {X:Wd} {S o:Nat} {T:TypeId} {A Z:List Value} {r0 r:RelD} (h:X.heap[S]?=some (.cells (A++(zf r0++Z)).toArray T (0,0))) (hA:A.length=o) {K:Wd->Prop}
  (k:∀ Y,Y.heap[S]?=some (.cells (A++(zf r++Z)).toArray T (0,0))->X.grownBy Y (some S)->Y.heap.size=X.heap.size->K Y) :
  SatR ((storeVar 39 ⟨S,0+o,none⟩ (.agg (zf r).toArray)).run PG X) fun _ w'=>K w':=by
 rw [UQ];refine j6 k39 h (o:=o) (v := .agg (zf r).toArray) (zh _) (by show o+(zf r).length<=(A++(zf r0++Z)).length;rw [lap,lap,zh,zh];omega) (zD _) fun Y fY gY sY=>k Y (fY.trans ?_) gY sY;show some (Obj.cells ((A++(zf r0++Z)).take o++zf r++(A++(zf r0++Z)).drop (o+(zf r).length)).toArray T (0,0))=_;congr 3;rw [<- hA,List.take_left,zh,KN,<- Ui,Uj,<- zh r0,Uj]
theorem ztw {m:UInt8} (hk:zae m.toNat=true) (fx:ExH w b x q c) (hv:ExW w x q) (hT:Tz64M w):CB 57 #[u8 m,At0 b] w (.agg (zf (zaT m.toNat x)).toArray):=by
 refine qA 35 [u8 m,At0 b] (.c .p (.c .p (.c .p (.c .p (.c .p .p))))) Tryz.func57 ?_;obtain⟨L,hL⟩:=nm (w.heap.size);have hn:=hv.n;refine⟨Unit,fun _=>⟨[(1,At0 b),(2,At0 L),(4,At0 (L+1))],[]⟩,fun _ X=>X.heap[L]?=some (.cells #[u8 m] 5 (0,0))/\z6 X (L+1) zB/\X.heap.size=L+2/\Bw w X,?_,?_⟩
 ·have s1:=wz w (.cells #[u8 m] 5);have h2:=zw (w.alloc (.cells #[u8 m] 5)) (.cells (zf zB).toArray 39);have s2:=wz (w.alloc (.cells #[u8 m] 5)) (.cells (zf zB).toArray 39);rw [s1] at h2 s2;have b1:Bw w (w.alloc (.cells #[u8 m] 5)):=zba w _;exact⟨(),⟨.cons rfl (.cons (by rw [hL];rfl) (.cons (by rw [hL,<- s1];rfl) .nil)),rfl⟩,by rw [hL];exact qM _ (zw w _),by rw [hL];exact h2,by rw [hL];exact s2,b1.alloc b1.size _⟩
 rintro _ X ⟨fM,f0,sX,hbX⟩;have fX:=zb hbX fx;refine⟨Unit,fun _=>⟨[(1,At0 b),(2,At0 L),(4,At0 (L+1)),(5,At0 (L+3))],[]⟩,fun _ Y=>Y.heap[L+2]?=some (.cells (exC x q c++(zf zB++(zf zB++zf zB))).toArray 157 (0,0))/\Y.heap[L+3]?=some (.cells #[At0 (L+2)] 155 (0,0))/\Y.heap.size=L+4/\Bw X Y,?_,?_⟩
 ·refine⟨exC x q c,zC _ _ _,za fX,hlt fX,?_⟩;refine⟨exC x q c++(zf zB++(zf zB++zf zB)),by kernel_rfl,?_⟩;have s3:=wz X (.cells (exC x q c++(zf zB++(zf zB++zf zB))).toArray 157);refine zq (X:=X.alloc (.cells (exC x q c++(zf zB++(zf zB++zf zB))).toArray 157)) (v := .pointer (some ⟨X.heap.size,0,none⟩)) zu5 rfl rfl rfl fun Z hbZ fZ sZ=>?_;rw [s3] at fZ sZ;rw [sX] at fZ sZ s3;have b1:Bw X (X.alloc (.cells (exC x q c++(zf zB++(zf zB++zf zB))).toArray 157)):=zba X _;refine⟨(),⟨.cons rfl (.cons rfl (.cons rfl (.cons (by rw [<- s3];rfl) .nil))),rfl⟩,?_,fZ,sZ,(zst b1 hbZ)⟩;refine zb hbZ ?_;rw [<- sX];exact zw X _
 rintro _ Y ⟨fS,fP,sY,hbY⟩;have hbwY:=zst hbX hbY;have fY:=zb hbwY fx;replace fM:=zb hbY fM;replace f0:=zb hbY f0;have hwX:=hbX.size;have hbL:b<L:=by rw [hL];exact hlt fx
 refine⟨Unit,fun _=>⟨[(1,At0 b),(2,At0 L),(4,At0 (L+1)),(5,At0 (L+3))],[]⟩,fun _ Z=>ScnV Z (L+2) x q c (zS x 3) (zS x 4) (zS x 5)/\Z.heap[L+3]?=some (.cells #[At0 (L+2)] 155 (0,0))/\Z.heap[L]?=some (.cells #[u8 m] 5 (0,0))/\z6 Z (L+1) zB/\ExH Z b x q c/\L+4<=Z.heap.size/\Bw w Z,?_,?_⟩
 ·have dY:Bw Y Y.drew:=(Ga _ _).drew;obtain⟨Y1,hY1⟩:=nm (Y.drew);have bY1:Bw Y Y1:=by rw [hY1];exact dY
  have ld0:∀ {W},Bw Y W->W.cell? ⟨L+3,0,none⟩=some (At0 (L+2)):=fun hW=>by
   have h2:=zc (za (zb hW fP)) (i:=0) (v:=At0 (L+2)) rfl;exact h2
  have fen:∀ (md:UInt8) {W},Bw Y W->CB 93 #[At0 b,u8 md] W (.agg (zf (zS x md)).toArray):=fun md {W} hW =>
   have h2:=zst hbwY hW
   zp4 (zb h2 fx) (hv.below h2) (hT.below h2)
  have ld1:∀ W,(∃ C,Bw Y C/\C.grownBy W (some (L+2)))->W.cell? ⟨L+3,0,none⟩=some (At0 (L+2)):=fun W ⟨C,bC,hW⟩=>by
   have fPC:=zb bC fP;have:=(hW.block (L+3) (hlt fPC) (by simp)).trans fPC;have h2:=zc (za this) (i:=0) (v:=At0 (L+2)) rfl;exact h2
  have s1:∀ {C},Bw Y C->∀ {K:Wd->Prop},(∀ D,(D.heap[L+2]?=some (.cells ((exC x q c++zf (zS x 3))++(zf zB++zf zB)).toArray 157 (0,0))/\∃ C,Bw Y C/\C.grownBy D (some (L+2)))->K D)->SatR ((storeVar 39 ⟨L+2,0+333,none⟩ (.agg (zf (zS x 3)).toArray)).run PG C) fun _ w'=>K w':=fun {C} bC {K} k =>
   zjw (o:=333) (A:=exC x q c) (Z:=zf zB++zf zB) (r:=zS x 3) (zb bC fS) (zC _ _ _) fun D fD gD sD=>k D ⟨by rw [fD];simp only [KN],C,bC,gD⟩
  have s2:∀ D,(D.heap[L+2]?=some (.cells ((exC x q c++zf (zS x 3))++(zf zB++zf zB)).toArray 157 (0,0))/\∃ C,Bw Y C/\C.grownBy D (some (L+2)))->∀ {K:Wd->Prop},(∀ F,(F.heap[L+2]?=some (.cells ((exC x q c++(zf (zS x 3)++zf (zS x 4)))++(zf zB++[])).toArray 157 (0,0))/\∃ C,Bw Y C/\C.grownBy F (some (L+2)))->K F)->SatR ((storeVar 39 ⟨L+2,0+382,none⟩ (.agg (zf (zS x 4)).toArray)).run PG D) fun _ w'=>K w':=fun D ⟨fD,C,bC,gD⟩ {K} k =>
   zjw (o:=382) (A:=exC x q c++zf (zS x 3)) (Z:=zf zB) (r:=zS x 4) fD (by rw [lap,zC,zh]) fun F fF gF sF=>k F ⟨by rw [fF];simp only [KN,QI],C,bC,zd gD gF⟩
  have pw:∀ md,zG (zS x md).to:=fun md=>zdk (zdk hv.po fun i hi=>by
   unfold idR;refine zd7 (fun i _ h48=>?_) i hi;exact KE Qw (z7 (by omega))) hv.po
  have s3:∀ F,(F.heap[L+2]?=some (.cells ((exC x q c++(zf (zS x 3)++zf (zS x 4)))++(zf zB++[])).toArray 157 (0,0))/\∃ C,Bw Y C/\C.grownBy F (some (L+2)))->∀ {K:Wd->Prop},(∀ G,(ScnV G (L+2) x q c (zS x 3) (zS x 4) (zS x 5)/\G.heap[L+3]?=some (.cells #[At0 (L+2)] 155 (0,0))/\G.heap[L]?=some (.cells #[u8 m] 5 (0,0))/\z6 G (L+1) zB/\ExH G b x q c/\L+4<=G.heap.size/\Bw w G)->K G)->SatR ((storeVar 39 ⟨L+2,0+431,none⟩ (.agg (zf (zS x 5)).toArray)).run PG F) fun _ w'=>K w':=fun F ⟨fF,C,bC,gF⟩ {K} k =>
   zjw (o:=431) (A:=exC x q c++(zf (zS x 3)++zf (zS x 4))) (Z:=[]) (r:=zS x 5) fF (by rw [lap,lap,zC,zh,zh]) fun G fG gG sG=>k G (by
    have gCG:C.grownBy G (some (L+2)):=zd gF gG;have bwC:=zst hbwY bC;have bCG:Below w.heap.size C G:=zk gCG bwC.size (by omega);have bwG:Bw w G:=bwC.trans bCG;have keep:∀ {j:Nat} {o:Obj},j≠L+2->Y.heap[j]?=some o->G.heap[j]?=some o:=fun {j o} hj h=>by
     have h2:=zb bC h;exact (gCG.block j (hlt h2) (by simpa using hj)).trans h2
    refine⟨⟨?_,hv.below bwG,pw 3,pw 4,pw 5⟩,keep (by omega) fP,keep (by omega) fM,keep (by omega) f0,keep (by omega) fY,by have:=bC.size;have:=gCG.size;omega,bwG⟩;rw [fG];simp only [KN,QI])
  refine DrawE.treeR [11,14,17] (.op 0 (.op 3 (.op 5 (.op 7 (.alt (.op 4 (.alt (.op 6 (.alt (.op 8 (.op 9 (.op 10 (.alt (.op 11 (.alt (.op 1 (.op 12 (.op 13 (.alt (.op 14 (.op 2 (.op 15 (.op 16 (.op 17 (.nil)))))) (.op 2 (.op 14 (.op 15 (.op 16 (.op 17 (.nil)))))))))) (.op 2 (.op 1 (.op 12 (.op 13 (.op 14 (.op 15 (.op 16 (.op 17 (.nil))))))))))) (.alt (.op 1 (.alt (.op 11 (.op 12 (.op 13 (.alt (.op 14 (.op 2 (.op 15 (.op 16 (.op 17 (.nil)))))) (.op 2 (.op 14 (.op 15 (.op 16 (.op 17 (.nil)))))))))) (.op 2 (.op 11 (.op 12 (.op 13 (.op 14 (.op 15 (.op 16 (.op 17 (.nil))))))))))) (.op 2 (.alt (.op 11 (.op 1 (.op 12 (.op 13 (.op 14 (.op 15 (.op 16 (.op 17 (.nil))))))))) (.op 1 (.op 11 (.op 12 (.op 13 (.op 14 (.op 15 (.op 16 (.op 17 (.nil)))))))))))))))) (.alt (.op 1 (.alt (.op 8 (.op 9 (.op 10 (.alt (.op 11 (.op 12 (.op 13 (.alt (.op 14 (.op 2 (.op 15 (.op 16 (.op 17 (.nil)))))) (.op 2 (.op 14 (.op 15 (.op 16 (.op 17 (.nil)))))))))) (.op 2 (.op 11 (.op 12 (.op 13 (.op 14 (.op 15 (.op 16 (.op 17 (.nil))))))))))))) (.op 2 (.op 8 (.op 9 (.op 10 (.op 11 (.op 12 (.op 13 (.op 14 (.op 15 (.op 16 (.op 17 (.nil)))))))))))))) (.op 2 (.alt (.op 8 (.op 9 (.op 10 (.alt (.op 11 (.op 1 (.op 12 (.op 13 (.op 14 (.op 15 (.op 16 (.op 17 (.nil))))))))) (.op 1 (.op 11 (.op 12 (.op 13 (.op 14 (.op 15 (.op 16 (.op 17 (.nil))))))))))))) (.op 1 (.op 8 (.op 9 (.op 10 (.op 11 (.op 12 (.op 13 (.op 14 (.op 15 (.op 16 (.op 17 (.nil))))))))))))))))) (.alt (.op 1 (.alt (.op 6 (.alt (.op 8 (.op 9 (.op 10 (.alt (.op 11 (.op 12 (.op 13 (.alt (.op 14 (.op 2 (.op 15 (.op 16 (.op 17 (.nil)))))) (.op 2 (.op 14 (.op 15 (.op 16 (.op 17 (.nil)))))))))) (.op 2 (.op 11 (.op 12 (.op 13 (.op 14 (.op 15 (.op 16 (.op 17 (.nil))))))))))))) (.op 2 (.op 8 (.op 9 (.op 10 (.op 11 (.op 12 (.op 13 (.op 14 (.op 15 (.op 16 (.op 17 (.nil)))))))))))))) (.op 2 (.op 6 (.op 8 (.op 9 (.op 10 (.op 11 (.op 12 (.op 13 (.op 14 (.op 15 (.op 16 (.op 17 (.nil))))))))))))))) (.op 2 (.alt (.op 6 (.alt (.op 8 (.op 9 (.op 10 (.alt (.op 11 (.op 1 (.op 12 (.op 13 (.op 14 (.op 15 (.op 16 (.op 17 (.nil))))))))) (.op 1 (.op 11 (.op 12 (.op 13 (.op 14 (.op 15 (.op 16 (.op 17 (.nil))))))))))))) (.op 1 (.op 8 (.op 9 (.op 10 (.op 11 (.op 12 (.op 13 (.op 14 (.op 15 (.op 16 (.op 17 (.nil)))))))))))))) (.op 1 (.op 6 (.op 8 (.op 9 (.op 10 (.op 11 (.op 12 (.op 13 (.op 14 (.op 15 (.op 16 (.op 17 (.nil)))))))))))))))))) (.alt (.op 1 (.alt (.op 4 (.alt (.op 6 (.alt (.op 8 (.op 9 (.op 10 (.alt (.op 11 (.op 12 (.op 13 (.alt (.op 14 (.op 2 (.op 15 (.op 16 (.op 17 (.nil)))))) (.op 2 (.op 14 (.op 15 (.op 16 (.op 17 (.nil)))))))))) (.op 2 (.op 11 (.op 12 (.op 13 (.op 14 (.op 15 (.op 16 (.op 17 (.nil))))))))))))) (.op 2 (.op 8 (.op 9 (.op 10 (.op 11 (.op 12 (.op 13 (.op 14 (.op 15 (.op 16 (.op 17 (.nil)))))))))))))) (.op 2 (.op 6 (.op 8 (.op 9 (.op 10 (.op 11 (.op 12 (.op 13 (.op 14 (.op 15 (.op 16 (.op 17 (.nil))))))))))))))) (.op 2 (.op 4 (.op 6 (.op 8 (.op 9 (.op 10 (.op 11 (.op 12 (.op 13 (.op 14 (.op 15 (.op 16 (.op 17 (.nil)))))))))))))))) (.op 2 (.alt (.op 4 (.alt (.op 6 (.alt (.op 8 (.op 9 (.op 10 (.alt (.op 11 (.op 1 (.op 12 (.op 13 (.op 14 (.op 15 (.op 16 (.op 17 (.nil))))))))) (.op 1 (.op 11 (.op 12 (.op 13 (.op 14 (.op 15 (.op 16 (.op 17 (.nil))))))))))))) (.op 1 (.op 8 (.op 9 (.op 10 (.op 11 (.op 12 (.op 13 (.op 14 (.op 15 (.op 16 (.op 17 (.nil)))))))))))))) (.op 1 (.op 6 (.op 8 (.op 9 (.op 10 (.op 11 (.op 12 (.op 13 (.op 14 (.op 15 (.op 16 (.op 17 (.nil))))))))))))))) (.op 1 (.op 4 (.op 6 (.op 8 (.op 9 (.op 10 (.op 11 (.op 12 (.op 13 (.op 14 (.op 15 (.op 16 (.op 17 (.nil)))))))))))))))))))))) (by kernel_rfl) ?_;rw [<- hY1];refine⟨At0 (L+2),ld0 bY1,?_⟩;refine Gf ?_ (Gf ?_ ?_)
  ·refine cmo (fen 3 bY1) ?_;rintro e A ⟨rfl,hbA⟩;refine⟨hbA,?_⟩;have bA:=zst bY1 hbA;refine Gf ?_ (Gf ?_ ?_)
   ·refine cmo (fen 4 bA) ?_;rintro e B ⟨rfl,hbB⟩;refine⟨hbB,?_⟩;have bB:=zst bA hbB;refine Gf ?_ (Gf ?_ ?_)
    ·refine cmo (fen 5 bB) ?_;rintro e C ⟨rfl,hbC⟩;refine⟨hbC,?_⟩;have bC:=zst bB hbC;refine Gf ?_ (Gf ?_ ?_)
     ·refine s1 bC fun D hD=>?_;refine Gf ?_ ?_
      ·refine⟨At0 (L+2),ld1 D hD.2,?_⟩;refine Gf ?_ ?_
       ·refine s2 D hD fun F hF=>?_;refine⟨At0 (L+2),ld1 F hF.2,?_⟩;refine s3 F hF fun G hG=>?_;exact⟨(),(cvE rfl rfl),hG⟩
       ·refine⟨At0 (L+2),ld1 D hD.2,?_⟩;refine s2 D hD fun F hF=>?_;refine s3 F hF fun G hG=>?_;exact⟨(),(cvE rfl rfl),hG⟩
      ·refine⟨At0 (L+2),ld1 D hD.2,?_⟩;refine⟨At0 (L+2),ld1 D hD.2,?_⟩;refine s2 D hD fun F hF=>?_;refine s3 F hF fun G hG=>?_;exact⟨(),(cvE rfl rfl),hG⟩
     ·refine⟨At0 (L+2),ld0 bC,?_⟩;refine Gf ?_ ?_
      ·refine s1 bC fun D hD=>?_;refine Gf ?_ ?_
       ·refine s2 D hD fun F hF=>?_;refine⟨At0 (L+2),ld1 F hF.2,?_⟩;refine s3 F hF fun G hG=>?_;exact⟨(),(cvE rfl rfl),hG⟩
       ·refine⟨At0 (L+2),ld1 D hD.2,?_⟩;refine s2 D hD fun F hF=>?_;refine s3 F hF fun G hG=>?_;exact⟨(),(cvE rfl rfl),hG⟩
      ·refine⟨At0 (L+2),ld0 bC,?_⟩;refine s1 bC fun D hD=>?_;refine s2 D hD fun F hF=>?_;refine s3 F hF fun G hG=>?_;exact⟨(),(cvE rfl rfl),hG⟩
     ·refine⟨At0 (L+2),ld0 bC,?_⟩;refine Gf ?_ ?_
      ·refine s1 bC fun D hD=>?_;refine⟨At0 (L+2),ld1 D hD.2,?_⟩;refine s2 D hD fun F hF=>?_;refine s3 F hF fun G hG=>?_;exact⟨(),(cvE rfl rfl),hG⟩
      ·refine⟨At0 (L+2),ld0 bC,?_⟩;refine s1 bC fun D hD=>?_;refine s2 D hD fun F hF=>?_;refine s3 F hF fun G hG=>?_;exact⟨(),(cvE rfl rfl),hG⟩
    ·refine⟨At0 (L+2),ld0 bB,?_⟩;refine Gf ?_ ?_
     ·refine cmo (fen 5 bB) ?_;rintro e C ⟨rfl,hbC⟩;refine⟨hbC,?_⟩;have bC:=zst bB hbC;refine Gf ?_ ?_
      ·refine s1 bC fun D hD=>?_;refine Gf ?_ ?_
       ·refine s2 D hD fun F hF=>?_;refine⟨At0 (L+2),ld1 F hF.2,?_⟩;refine s3 F hF fun G hG=>?_;exact⟨(),(cvE rfl rfl),hG⟩
       ·refine⟨At0 (L+2),ld1 D hD.2,?_⟩;refine s2 D hD fun F hF=>?_;refine s3 F hF fun G hG=>?_;exact⟨(),(cvE rfl rfl),hG⟩
      ·refine⟨At0 (L+2),ld0 bC,?_⟩;refine s1 bC fun D hD=>?_;refine s2 D hD fun F hF=>?_;refine s3 F hF fun G hG=>?_;exact⟨(),(cvE rfl rfl),hG⟩
     ·refine⟨At0 (L+2),ld0 bB,?_⟩;refine cmo (fen 5 bB) ?_;rintro e C ⟨rfl,hbC⟩;refine⟨hbC,?_⟩;have bC:=zst bB hbC;refine s1 bC fun D hD=>?_;refine s2 D hD fun F hF=>?_;refine s3 F hF fun G hG=>?_;exact⟨(),(cvE rfl rfl),hG⟩
    ·refine⟨At0 (L+2),ld0 bB,?_⟩;refine Gf ?_ ?_
     ·refine cmo (fen 5 bB) ?_;rintro e C ⟨rfl,hbC⟩;refine⟨hbC,?_⟩;have bC:=zst bB hbC;refine Gf ?_ ?_
      ·refine s1 bC fun D hD=>?_;refine⟨At0 (L+2),ld1 D hD.2,?_⟩;refine s2 D hD fun F hF=>?_;refine s3 F hF fun G hG=>?_;exact⟨(),(cvE rfl rfl),hG⟩
      ·refine⟨At0 (L+2),ld0 bC,?_⟩;refine s1 bC fun D hD=>?_;refine s2 D hD fun F hF=>?_;refine s3 F hF fun G hG=>?_;exact⟨(),(cvE rfl rfl),hG⟩
     ·refine⟨At0 (L+2),ld0 bB,?_⟩;refine cmo (fen 5 bB) ?_;rintro e C ⟨rfl,hbC⟩;refine⟨hbC,?_⟩;have bC:=zst bB hbC;refine s1 bC fun D hD=>?_;refine s2 D hD fun F hF=>?_;refine s3 F hF fun G hG=>?_;exact⟨(),(cvE rfl rfl),hG⟩
   ·refine⟨At0 (L+2),ld0 bA,?_⟩;refine Gf ?_ ?_
    ·refine cmo (fen 4 bA) ?_;rintro e B ⟨rfl,hbB⟩;refine⟨hbB,?_⟩;have bB:=zst bA hbB;refine Gf ?_ ?_
     ·refine cmo (fen 5 bB) ?_;rintro e C ⟨rfl,hbC⟩;refine⟨hbC,?_⟩;have bC:=zst bB hbC;refine Gf ?_ ?_
      ·refine s1 bC fun D hD=>?_;refine Gf ?_ ?_
       ·refine s2 D hD fun F hF=>?_;refine⟨At0 (L+2),ld1 F hF.2,?_⟩;refine s3 F hF fun G hG=>?_;exact⟨(),(cvE rfl rfl),hG⟩
       ·refine⟨At0 (L+2),ld1 D hD.2,?_⟩;refine s2 D hD fun F hF=>?_;refine s3 F hF fun G hG=>?_;exact⟨(),(cvE rfl rfl),hG⟩
      ·refine⟨At0 (L+2),ld0 bC,?_⟩;refine s1 bC fun D hD=>?_;refine s2 D hD fun F hF=>?_;refine s3 F hF fun G hG=>?_;exact⟨(),(cvE rfl rfl),hG⟩
     ·refine⟨At0 (L+2),ld0 bB,?_⟩;refine cmo (fen 5 bB) ?_;rintro e C ⟨rfl,hbC⟩;refine⟨hbC,?_⟩;have bC:=zst bB hbC;refine s1 bC fun D hD=>?_;refine s2 D hD fun F hF=>?_;refine s3 F hF fun G hG=>?_;exact⟨(),(cvE rfl rfl),hG⟩
    ·refine⟨At0 (L+2),ld0 bA,?_⟩;refine cmo (fen 4 bA) ?_;rintro e B ⟨rfl,hbB⟩;refine⟨hbB,?_⟩;have bB:=zst bA hbB;refine cmo (fen 5 bB) ?_;rintro e C ⟨rfl,hbC⟩;refine⟨hbC,?_⟩;have bC:=zst bB hbC;refine s1 bC fun D hD=>?_;refine s2 D hD fun F hF=>?_;refine s3 F hF fun G hG=>?_;exact⟨(),(cvE rfl rfl),hG⟩
   ·refine⟨At0 (L+2),ld0 bA,?_⟩;refine Gf ?_ ?_
    ·refine cmo (fen 4 bA) ?_;rintro e B ⟨rfl,hbB⟩;refine⟨hbB,?_⟩;have bB:=zst bA hbB;refine Gf ?_ ?_
     ·refine cmo (fen 5 bB) ?_;rintro e C ⟨rfl,hbC⟩;refine⟨hbC,?_⟩;have bC:=zst bB hbC;refine Gf ?_ ?_
      ·refine s1 bC fun D hD=>?_;refine⟨At0 (L+2),ld1 D hD.2,?_⟩;refine s2 D hD fun F hF=>?_;refine s3 F hF fun G hG=>?_;exact⟨(),(cvE rfl rfl),hG⟩
      ·refine⟨At0 (L+2),ld0 bC,?_⟩;refine s1 bC fun D hD=>?_;refine s2 D hD fun F hF=>?_;refine s3 F hF fun G hG=>?_;exact⟨(),(cvE rfl rfl),hG⟩
     ·refine⟨At0 (L+2),ld0 bB,?_⟩;refine cmo (fen 5 bB) ?_;rintro e C ⟨rfl,hbC⟩;refine⟨hbC,?_⟩;have bC:=zst bB hbC;refine s1 bC fun D hD=>?_;refine s2 D hD fun F hF=>?_;refine s3 F hF fun G hG=>?_;exact⟨(),(cvE rfl rfl),hG⟩
    ·refine⟨At0 (L+2),ld0 bA,?_⟩;refine cmo (fen 4 bA) ?_;rintro e B ⟨rfl,hbB⟩;refine⟨hbB,?_⟩;have bB:=zst bA hbB;refine cmo (fen 5 bB) ?_;rintro e C ⟨rfl,hbC⟩;refine⟨hbC,?_⟩;have bC:=zst bB hbC;refine s1 bC fun D hD=>?_;refine s2 D hD fun F hF=>?_;refine s3 F hF fun G hG=>?_;exact⟨(),(cvE rfl rfl),hG⟩
  ·refine⟨At0 (L+2),ld0 bY1,?_⟩;refine Gf ?_ ?_
   ·refine cmo (fen 3 bY1) ?_;rintro e A ⟨rfl,hbA⟩;refine⟨hbA,?_⟩;have bA:=zst bY1 hbA;refine Gf ?_ ?_
    ·refine cmo (fen 4 bA) ?_;rintro e B ⟨rfl,hbB⟩;refine⟨hbB,?_⟩;have bB:=zst bA hbB;refine Gf ?_ ?_
     ·refine cmo (fen 5 bB) ?_;rintro e C ⟨rfl,hbC⟩;refine⟨hbC,?_⟩;have bC:=zst bB hbC;refine Gf ?_ ?_
      ·refine s1 bC fun D hD=>?_;refine Gf ?_ ?_
       ·refine s2 D hD fun F hF=>?_;refine⟨At0 (L+2),ld1 F hF.2,?_⟩;refine s3 F hF fun G hG=>?_;exact⟨(),(cvE rfl rfl),hG⟩
       ·refine⟨At0 (L+2),ld1 D hD.2,?_⟩;refine s2 D hD fun F hF=>?_;refine s3 F hF fun G hG=>?_;exact⟨(),(cvE rfl rfl),hG⟩
      ·refine⟨At0 (L+2),ld0 bC,?_⟩;refine s1 bC fun D hD=>?_;refine s2 D hD fun F hF=>?_;refine s3 F hF fun G hG=>?_;exact⟨(),(cvE rfl rfl),hG⟩
     ·refine⟨At0 (L+2),ld0 bB,?_⟩;refine cmo (fen 5 bB) ?_;rintro e C ⟨rfl,hbC⟩;refine⟨hbC,?_⟩;have bC:=zst bB hbC;refine s1 bC fun D hD=>?_;refine s2 D hD fun F hF=>?_;refine s3 F hF fun G hG=>?_;exact⟨(),(cvE rfl rfl),hG⟩
    ·refine⟨At0 (L+2),ld0 bA,?_⟩;refine cmo (fen 4 bA) ?_;rintro e B ⟨rfl,hbB⟩;refine⟨hbB,?_⟩;have bB:=zst bA hbB;refine cmo (fen 5 bB) ?_;rintro e C ⟨rfl,hbC⟩;refine⟨hbC,?_⟩;have bC:=zst bB hbC;refine s1 bC fun D hD=>?_;refine s2 D hD fun F hF=>?_;refine s3 F hF fun G hG=>?_;exact⟨(),(cvE rfl rfl),hG⟩
   ·refine⟨At0 (L+2),ld0 bY1,?_⟩;refine cmo (fen 3 bY1) ?_;rintro e A ⟨rfl,hbA⟩;refine⟨hbA,?_⟩;have bA:=zst bY1 hbA;refine cmo (fen 4 bA) ?_;rintro e B ⟨rfl,hbB⟩;refine⟨hbB,?_⟩;have bB:=zst bA hbB;refine cmo (fen 5 bB) ?_;rintro e C ⟨rfl,hbC⟩;refine⟨hbC,?_⟩;have bC:=zst bB hbC;refine s1 bC fun D hD=>?_;refine s2 D hD fun F hF=>?_;refine s3 F hF fun G hG=>?_;exact⟨(),(cvE rfl rfl),hG⟩
  ·refine⟨At0 (L+2),ld0 bY1,?_⟩;refine Gf ?_ ?_
   ·refine cmo (fen 3 bY1) ?_;rintro e A ⟨rfl,hbA⟩;refine⟨hbA,?_⟩;have bA:=zst bY1 hbA;refine Gf ?_ ?_
    ·refine cmo (fen 4 bA) ?_;rintro e B ⟨rfl,hbB⟩;refine⟨hbB,?_⟩;have bB:=zst bA hbB;refine Gf ?_ ?_
     ·refine cmo (fen 5 bB) ?_;rintro e C ⟨rfl,hbC⟩;refine⟨hbC,?_⟩;have bC:=zst bB hbC;refine Gf ?_ ?_
      ·refine s1 bC fun D hD=>?_;refine⟨At0 (L+2),ld1 D hD.2,?_⟩;refine s2 D hD fun F hF=>?_;refine s3 F hF fun G hG=>?_;exact⟨(),(cvE rfl rfl),hG⟩
      ·refine⟨At0 (L+2),ld0 bC,?_⟩;refine s1 bC fun D hD=>?_;refine s2 D hD fun F hF=>?_;refine s3 F hF fun G hG=>?_;exact⟨(),(cvE rfl rfl),hG⟩
     ·refine⟨At0 (L+2),ld0 bB,?_⟩;refine cmo (fen 5 bB) ?_;rintro e C ⟨rfl,hbC⟩;refine⟨hbC,?_⟩;have bC:=zst bB hbC;refine s1 bC fun D hD=>?_;refine s2 D hD fun F hF=>?_;refine s3 F hF fun G hG=>?_;exact⟨(),(cvE rfl rfl),hG⟩
    ·refine⟨At0 (L+2),ld0 bA,?_⟩;refine cmo (fen 4 bA) ?_;rintro e B ⟨rfl,hbB⟩;refine⟨hbB,?_⟩;have bB:=zst bA hbB;refine cmo (fen 5 bB) ?_;rintro e C ⟨rfl,hbC⟩;refine⟨hbC,?_⟩;have bC:=zst bB hbC;refine s1 bC fun D hD=>?_;refine s2 D hD fun F hF=>?_;refine s3 F hF fun G hG=>?_;exact⟨(),(cvE rfl rfl),hG⟩
   ·refine⟨At0 (L+2),ld0 bY1,?_⟩;refine cmo (fen 3 bY1) ?_;rintro e A ⟨rfl,hbA⟩;refine⟨hbA,?_⟩;have bA:=zst bY1 hbA;refine cmo (fen 4 bA) ?_;rintro e B ⟨rfl,hbB⟩;refine⟨hbB,?_⟩;have bB:=zst bA hbB;refine cmo (fen 5 bB) ?_;rintro e C ⟨rfl,hbC⟩;refine⟨hbC,?_⟩;have bC:=zst bB hbC;refine s1 bC fun D hD=>?_;refine s2 D hD fun F hF=>?_;refine s3 F hF fun G hG=>?_;exact⟨(),(cvE rfl rfl),hG⟩
 clear fS fP sY hbwY fY fM f0 hwX fX sX hbX hbY;clear X Y;rintro _ Z ⟨hS,fP,fM,f0,fZ,sZ,hbZ⟩;refine⟨Nat,fun R=>⟨[(1,At0 b),(2,At0 L),(4,At0 (L+1)),(5,At0 (L+3)),(6,At0 R)],[]⟩,fun R Y=>Y.heap[R]?=some (.cells zcY.toArray 162 (0,0))/\Bw Z Y,?_,?_⟩
 ·refine cmo zrf ?_;rintro e Y ⟨rfl,hbY⟩;refine zq (X:=Y) (v := .agg zcY.toArray) zuy rfl rfl rfl fun V hbV fV sV=>?_;exact⟨Y.heap.size,(cvE rfl rfl),fV,(zst hbY hbV)⟩
 rintro R Y ⟨fR,hbY⟩;have hbwY:=zst hbZ hbY;replace hS:=hS.below hbY;replace fP:=zb hbY fP;replace fM:=zb hbY fM;replace f0:=zb hbY f0;replace fZ:=zb hbY fZ;refine⟨Unit,fun _=>⟨[(4,At0 (L+1))],[]⟩,fun _ V=>z6 V (L+1) (zaT m.toNat x)/\Bw w V,?_,?_⟩
 ·refine⟨_,zc (za fZ) (i:=0) rfl,?_⟩;refine cmo (zl4 (n:=x.ev.length) (caps := #[At0 (L+3),At0 R,At0 L]) (g:=95) (p:=fun a d=>zg x.po a d&&(zbZ x a&&(zbZ x d&&ze9 m.toNat x (zS x 3) (zS x 4) (zS x 5) a d))) (by omega) (by kernel_rfl) fun a d U ha hd hb=>zrC hk (hS.below hb) (zb hb fP) (zb hb fR) (zb hb fM) ha hd) ?_;rintro e V ⟨rfl,hbV⟩;replace f0:=zb hbV f0;refine zt (v := .agg (zf (zaT m.toNat x)).toArray) k39 f0 (zh _) (zh _) (zD _) ?_;exact⟨(),(cvE rfl rfl),zn f0,zl ((zst hbwY hbV)) (by omega) _⟩
 rintro _ V ⟨f0,hbV⟩;exact⟨zf (zaT m.toNat x),zh _,za f0,rfl,hbV⟩
end
section
variable {b c:Nat} {x:ExD} {q:OA} {w:Wd}
theorem znh {m:UInt8}:Calls PG 24 #[u8 m] w fun e w'=>e = .returned (.bool (zae m.toNat))/\w=w':=by
 refine zI 9 [u8 m] Tryz.func24 ?_;refine biE (fun h=>?_) fun h=>?_
 ·have h:(1:Int)<=(m.toNat:Int):=dT h;refine⟨rb ?_,rfl⟩;unfold zae;rw [Uq (by omega:1<=m.toNat),Uw];exact QE.2 (by show (m.toNat:Int)<=6↔_;omega)
 ·have h:¬ (1:Int)<=(m.toNat:Int):=dF h;refine⟨rb ?_,rfl⟩;unfold zae;rw [Uf (by omega:¬ 1<=m.toNat)];rfl
theorem zrU {r:RelD} (hn:r.n=x.ev.length) (h48:x.ev.length<=48):zG (zc6 x r).to:=by
 unfold zc6;exact ze1 (by omega)
theorem zjl {X:Wd} {g:Nat} {a b c:RelD} (h:X.heap[g]?=some (.cells (zf a++(zf b++zf c)).toArray 39 (0,0))):SlR ztc X (some ⟨g,0,none⟩) [a,b,c] :=
 SlR.of_cells (hlt h) (by
  have:[a,b,c].flatMap ztc.enc=zf a++(zf b++zf c):=by
   rw [KR,KR,KR,Qo,QI];rfl
  rw [this];exact za h)
theorem zlw {m:UInt8} (hk:zae m.toNat=true) (fx:ExH w b x q c) (hv:ExW w x q) (hrf:x.rf.n=x.ev.length) (hT:Tz64M w):CB 26 #[u8 m,At0 b] w (u8 (UInt8.ofNat (qO m.toNat x))):=by
 refine qA 80 [u8 m,At0 b] (.c .p (.c .p (.c .p (.c .p (.c .p (.c .p (.c .p (.c .p (.c .p (.c .p .p)))))))))) Tryz.func26 ?_;obtain⟨L,hL⟩:=nm (w.heap.size);have hn:=hv.n;obtain⟨fw,frw⟩:=zp1 hv hT;have hba:∀ (A:Wd) (o:Obj),Bw A (A.alloc o):=fun A o=>(zba _ _);refine⟨Unit,fun _=>⟨[(0,u8 m),(3,At0 L)],[]⟩,fun _ X=>X.heap[L]?=some (.cells #[At0 b] 81 (0,0))/\Bw w X,⟨(),⟨.cons rfl (.cons (by rw [hL];rfl) .nil),rfl⟩,by rw [hL];exact zw w _,hba w _⟩,?_⟩;rintro _ X ⟨fB,hbX⟩;refine⟨Nat,fun F=>⟨[(0,u8 m),(3,At0 L),(5,At0 F)],[]⟩,fun F Y=>z6 Y F (frM x)/\Y.heap[L]?=some (.cells #[At0 b] 81 (0,0))/\Bw w Y,?_,?_⟩
 ·refine⟨_,zc (za fB) (i:=0) rfl,cmo (zu9 (zb hbX fx) (hv.below hbX) (hT.below hbX)) ?_⟩;rintro e Y ⟨rfl,hbY⟩;refine zq (X:=Y) (v := .agg (zf (frM x)).toArray) k39 (zh _) (by kernel_rfl) (zD _) fun V hbV fV sV=>?_;have b1:=zst hbY hbV;exact⟨Y.heap.size,(cvE rfl rfl),fV,zb b1 fB,(zst hbX b1)⟩
 clear fB hbX;clear X;rintro F X ⟨fF,fB,hbX⟩;refine⟨Nat,fun G=>⟨[(0,u8 m),(3,At0 L),(5,At0 F),(6,At0 G)],[]⟩,fun G Y=>z6 Y G (jv x)/\z6 Y F (frM x)/\Y.heap[L]?=some (.cells #[At0 b] 81 (0,0))/\Bw w Y,?_,?_⟩
 ·refine⟨_,zc (za fB) (i:=0) rfl,?_⟩;have fX:=zb hbX fx;have hvX:=hv.below hbX;refine⟨_,zc (za fX) (i:=0) rfl,cmo (zl4 (n:=x.ev.length) (caps := #[At0 L]) (g:=48) (p:=fun a d=>zg x.po a d&&zbx x a d) (by omega) (by kernel_rfl) fun a d Z ha hd hb=>zoJ (zb hb fB) (zb hb fX) (hvX.below hb) ha hd) ?_⟩;rintro e Y ⟨rfl,hbY⟩;refine zq (X:=Y) (v := .agg (zf (jv x)).toArray) k39 (zh _) (by kernel_rfl) (zD _) fun V hbV fV sV=>?_;have b1:=zst hbY hbV;exact⟨Y.heap.size,(cvE rfl rfl),fV,zb b1 fF,zb b1 fB,(zst hbX b1)⟩
 clear fF fB hbX;clear X;rintro G X ⟨fG,fF,fB,hbX⟩;have lw:zG (jv x).to:=ze1 (by omega);have hbr:qO m.toNat x=if zaO (qc (jv x) [x.rf,x.co,frM x])=true then (if zbf (zaF x.rm (jh (frM x) x.co).1).1=true then (if m.toNat=1 then 0 else if zaO (qc (zaT m.toNat x) [if m.toNat=2 then x.rf else zc6 x x.rf,x.co,frM x])=true then 0 else 3) else 2) else 1:=rfl
 refine⟨Unit,fun _=>⟨[(0,u8 m),(3,At0 L),(5,At0 F)],[]⟩,fun _ Y=>zaO (qc (jv x) [x.rf,x.co,frM x])=true/\z6 Y F (frM x)/\Y.heap[L]?=some (.cells #[At0 b] 81 (0,0))/\Bw w Y,?_,?_⟩
 ·have dX:Bw X X.drew:=(Ga _ _).drew;have fX:=hdr (zb hbX fx);refine DrawE.ord [] [0,1,2,3,4,5,6,7,8,9,10,11,12,13] (by kernel_rfl) ⟨zf (jv x),zh _,za (hdr fG),hlt (hdr fG),_,zc (za (hdr fB)) (i:=0) rfl,zf x.rf,zh _,jt fX (i:=1) (by decide) rfl,hlt fX,_,zc (za (hdr fB)) (i:=0) rfl,zf x.co,zh _,jt fX (i:=2) (by decide) rfl,hlt fX,zf (frM x),zh _,za (hdr fF),hlt (hdr fF),⟨by decide,by decide,rfl⟩,zf x.rf++(zf x.co++zf (frM x)),by kernel_rfl,?_⟩;refine⟨hba _ _,?_⟩;have b1:=dX.alloc (UV _) (.cells (zf x.rf++(zf x.co++zf (frM x))).toArray 39);have hl:=zjl (zw X.drew (.cells (zf x.rf++(zf x.co++zf (frM x))).toArray 39));have hw3:∀ o∈[x.rf,x.co,frM x],zG o.to:=by
   simp only [UB,Qu,Gk,forall_eq_or_imp,forall_eq];exact⟨hv.rf,hv.co,frw⟩
  refine cmo (zjg (l:=[x.rf,x.co,frM x]) lw hl hw3 (JR rfl)) ?_;rintro e Y ⟨rfl,hbY⟩;refine⟨hbY,?_⟩;have b2:=zst b1 hbY;refine cmo (zea (zcU lw hw3) (hT.below ((zst hbX b2)))) ?_;rintro e Z ⟨rfl,hbZ⟩;refine⟨hbZ,?_⟩;have b3:=zst b2 hbZ;have b4:=zst hbX b3;refine biE (fun h=>?_) fun h=>?_
  ·have h:zaO (qc (jv x) [x.rf,x.co,frM x])=false:=by
    have h:(!zaO (qc (jv x) [x.rf,x.co,frM x]))=true:=h;simpa using h
   rw [h,Gm (by decide)] at hbr;rw [hbr];exact⟨rfl,b4⟩
  ·have h:zaO (qc (jv x) [x.rf,x.co,frM x])=true:=by
    have h:(!zaO (qc (jv x) [x.rf,x.co,frM x]))=false:=h;simpa using h
   exact⟨(),(cvE rfl rfl),h,zb b3 fF,zb b3 fB,b4⟩
 clear fG fF fB hbX;clear X;rintro _ X ⟨h1,fF,fB,hbX⟩;rw [Gn h1] at hbr;clear h1 lw G;refine⟨Nat,fun G=>⟨[(0,u8 m),(3,At0 L),(5,At0 F),(7,At0 G)],[]⟩,fun G Y=>z6 Y G (jh (frM x) x.co).1/\z6 Y F (frM x)/\Y.heap[L]?=some (.cells #[At0 b] 81 (0,0))/\Bw w Y,?_,?_⟩
 ·have dX:Bw X X.drew:=(Ga _ _).drew;have fX:=hdr (zb hbX fx);have put:∀ (W:Wd) (b3:Nat),Bw X W->z6 W b3 zB->X.heap.size<=b3->∀ {K:Wd->Prop},(∀ Y,(z6 Y b3 (jh (frM x) x.co).1/\z6 Y F (frM x)/\Y.heap[L]?=some (.cells #[At0 b] 81 (0,0))/\Bw w Y)->K Y) ->
    SatR ((storeVar 39 ⟨b3,0,none⟩ (.agg (zf (jh (frM x) x.co).1).toArray)).run PG W) fun _ w'=>K w':=by
   intro W b3 hW f3 g3 K k;refine zt (v := .agg (zf (jh (frM x) x.co).1).toArray) k39 f3 (zh _) (zh _) (zD _) ?_;have hF2:=hlt fF;have hL2:=hlt fB;exact k _ ⟨zn f3,(zp (by omega)).trans (zb hW fF),(zp (by omega)).trans (zb hW fB),zl ((zst hbX hW)) (by have:=hbX.size;omega) _⟩
  refine DrawE.treeQ [10] (.op 0 (.op 1 (.op 2 (.op 3 (.op 4 (.alt (.op 9 (.op 5 (.op 6 (.op 7 (.op 8 (.op 10 (.op 11 .nil))))))) (.op 5 (.op 6 (.op 7 (.op 8 (.op 9 (.op 10 (.op 11 .nil))))))))))))) (by kernel_rfl) ⟨zf (frM x),zh _,za (hdr fF),hlt (hdr fF),_,zc (za (hdr fB)) (i:=0) rfl,zf x.co,zh _,jt fX (i:=2) (by decide) rfl,hlt fX,Gf ?_ ?_⟩
  ·refine⟨hba _ _,?_⟩;have b1:=dX.alloc (UV _) (.cells (zf zB).toArray 39);refine cmo (zcq frw hv.co (hT.below ((zst hbX b1)))) ?_;rintro e Y ⟨rfl,hbY⟩;exact⟨hbY,put Y X.heap.size ((zst b1 hbY)) (zb hbY (zw X.drew _)) (UV _) (fun Y hY=>⟨X.heap.size,(cvE rfl rfl),hY⟩)⟩
  ·refine cmo (zcq frw hv.co (hT.below ((zst hbX dX)))) ?_;rintro e Y ⟨rfl,hbY⟩;refine⟨hbY,?_⟩;have b1:=zst dX hbY;exact⟨hba _ _,put _ Y.heap.size (b1.alloc b1.size _) (zw Y _) b1.size (fun V hV=>⟨Y.heap.size,(cvE rfl rfl),hV⟩)⟩
 clear fF fB hbX;clear X;rintro G X ⟨fG,fF,fB,hbX⟩;have tw:=zdk (a:=frM x) (b:=x.co) frw hv.co;refine⟨Nat,fun H=>⟨[(0,u8 m),(3,At0 L),(5,At0 F),(9,At0 H)],[]⟩,fun H Y=>z6 Y H (zaF x.rm (jh (frM x) x.co).1).1/\z6 Y F (frM x)/\Y.heap[L]?=some (.cells #[At0 b] 81 (0,0))/\Bw w Y,?_,?_⟩
 ·have dX:Bw X X.drew:=(Ga _ _).drew;have fX:=hdr (zb hbX fx);obtain⟨tb,htb⟩:=nm ((jh (frM x) x.co).1);rw [<- htb] at fG tw ⊢;have put:∀ (W:Wd) (b3:Nat),Bw X W->z6 W b3 zB->X.heap.size<=b3->∀ {K:Wd->Prop},(∀ Y,(z6 Y b3 (zaF x.rm tb).1/\z6 Y F (frM x)/\Y.heap[L]?=some (.cells #[At0 b] 81 (0,0))/\Bw w Y)->K Y) ->
    SatR ((storeVar 39 ⟨b3,0,none⟩ (.agg (zf (zaF x.rm tb).1).toArray)).run PG W) fun _ w'=>K w':=by
   intro W b3 hW f3 g3 K k;refine zt (v := .agg (zf (zaF x.rm tb).1).toArray) k39 f3 (zh _) (zh _) (zD _) ?_;have hF2:=hlt fF;have hL2:=hlt fB;exact k _ ⟨zn f3,(zp (by omega)).trans (zb hW fF),(zp (by omega)).trans (zb hW fB),zl ((zst hbX hW)) (by have:=hbX.size;omega) _⟩
  refine DrawE.treeQ [10] (.op 0 (.op 1 (.op 2 (.op 3 (.op 4 (.alt (.op 9 (.op 5 (.op 6 (.op 7 (.op 8 (.op 10 (.op 11 .nil))))))) (.op 5 (.op 6 (.op 7 (.op 8 (.op 9 (.op 10 (.op 11 .nil))))))))))))) (by kernel_rfl) ⟨_,zc (za (hdr fB)) (i:=0) rfl,zf x.rm,zh _,jt fX (i:=5) (by decide) rfl,hlt fX,zf tb,zh _,za (hdr fG),hlt (hdr fG),Gf ?_ ?_⟩
  ·refine⟨hba _ _,?_⟩;have b1:=dX.alloc (UV _) (.cells (zf zB).toArray 39);refine cmo (zq4 hv.rm tw) ?_;rintro e Y ⟨rfl,hbY⟩;exact⟨hbY,put Y X.heap.size ((zst b1 hbY)) (zb hbY (zw X.drew _)) (UV _) (fun Y hY=>⟨X.heap.size,(cvE rfl rfl),hY⟩)⟩
  ·refine cmo (zq4 hv.rm tw) ?_;rintro e Y ⟨rfl,hbY⟩;refine⟨hbY,?_⟩;have b1:=zst dX hbY;exact⟨hba _ _,put _ Y.heap.size (b1.alloc b1.size _) (zw Y _) b1.size (fun V hV=>⟨Y.heap.size,(cvE rfl rfl),hV⟩)⟩
 clear fG fF fB hbX;clear X G;rintro H X ⟨fH,fF,fB,hbX⟩;refine⟨Unit,fun _=>⟨[(0,u8 m),(3,At0 L),(5,At0 F)],[]⟩,fun _ Y=>zbf (zaF x.rm (jh (frM x) x.co).1).1=true/\z6 Y F (frM x)/\Y.heap[L]?=some (.cells #[At0 b] 81 (0,0))/\Bw w Y,?_,?_⟩
 ·refine⟨zf (zaF x.rm (jh (frM x) x.co).1).1,zh _,za fH,hlt fH,cmo (zsG (zqE hv.rm)) ?_⟩;rintro e Y ⟨rfl,hbY⟩;have b4:=zst hbX hbY;refine biE (fun h=>?_) fun h=>?_
  ·have h:zbf (zaF x.rm (jh (frM x) x.co).1).1=false:=by
    have h:(!zbf (zaF x.rm (jh (frM x) x.co).1).1)=true:=h;simpa using h
   rw [h,Gm (by decide)] at hbr;rw [hbr];exact⟨rfl,b4⟩
  ·have h:zbf (zaF x.rm (jh (frM x) x.co).1).1=true:=by
    have h:(!zbf (zaF x.rm (jh (frM x) x.co).1).1)=false:=h;simpa using h
   exact⟨(),(cvE rfl rfl),h,zb hbY fF,zb hbY fB,b4⟩
 clear fH fF fB hbX tw;clear X H;rintro _ X ⟨h1,fF,fB,hbX⟩;rw [Gn h1] at hbr;clear h1;refine⟨Unit,fun _=>⟨[(0,u8 m),(3,At0 L),(5,At0 F)],[]⟩,fun _ Y=>m.toNat≠1/\X=Y,?_,?_⟩
 ·refine biE (fun h=>?_) fun h=>?_
  ·have h:(m.toNat:Int)=1:=dT h;rw [Gn (by omega)] at hbr;rw [hbr];exact⟨rfl,hbX⟩
  ·have h:¬ (m.toNat:Int)=1:=dF h;exact⟨(),(cvE rfl rfl),by omega,rfl⟩
 rintro _ _ ⟨h1,rfl⟩;rw [Gm h1] at hbr;clear h1;refine⟨Nat,fun G=>⟨[(0,u8 m),(3,At0 L),(5,At0 F),(11,At0 G)],[]⟩,fun G Y=>G≠F/\G≠L/\w.heap.size<=G/\z6 Y G x.rf/\z6 Y F (frM x)/\Y.heap[L]?=some (.cells #[At0 b] 81 (0,0))/\Bw w Y,?_,?_⟩
 ·have fX:=zb hbX fx;refine⟨_,zc (za fB) (i:=0) rfl,zf x.rf,zh _,jt fX (i:=1) (by decide) rfl,hlt fX,zq (X:=X) (v := .agg (zf x.rf).toArray) k39 (zh _) (by kernel_rfl) (zD _) fun V hbV fV sV=>?_⟩;have hF2:=hlt fF;have hL2:=hlt fB;exact⟨X.heap.size,(cvE rfl rfl),by omega,by omega,hbX.size,fV,zb hbV fF,zb hbV fB,(zst hbX hbV)⟩
 clear fF fB hbX;clear X;rintro G X ⟨hGF,hGL,hGw,fG,fF,fB,hbX⟩;obtain⟨rfx,hrfx⟩:=nm (if m.toNat=2 then x.rf else zc6 x x.rf);have rfw:zG rfx.to:=by
  rw [hrfx]
  split
  ·exact hv.rf
  ·exact zrU hrf (by omega)
 rw [<- hrfx] at hbr;refine⟨Unit,fun _=>⟨[(0,u8 m),(3,At0 L),(5,At0 F),(11,At0 G)],[]⟩,fun _ Y=>z6 Y G rfx/\z6 Y F (frM x)/\Y.heap[L]?=some (.cells #[At0 b] 81 (0,0))/\Bw w Y,?_,?_⟩
 ·have fX:=zb hbX fx;have hvX:=hv.below hbX;refine biE (fun h=>?_) fun h=>?_
  ·have h:¬ m.toNat=2:=by
    have h:(!decide ((m.toNat:Int)=2))=true:=h;have h:¬ (m.toNat:Int)=2:=(by simpa using h);omega
   rw [Gm h] at hrfx;refine⟨_,zc (za fB) (i:=0) rfl,zf x.rf,zh _,za fG,hlt fG,cmo (zuz fX hvX hv.rf hrf) ?_⟩;rintro e Y ⟨rfl,hbY⟩;rw [<- hrfx];exact zt (v := .agg (zf rfx).toArray) k39 (zb hbY fG) (zh _) (zh _) (zD _) ⟨(),(cvE rfl rfl),zn (zb hbY fG),(zp (by omega)).trans (zb hbY fF),(zp (by omega)).trans (zb hbY fB),zl ((zst hbX hbY)) hGw _⟩
  ·have h:m.toNat=2:=by
    have h:(!decide ((m.toNat:Int)=2))=false:=h;have h:(m.toNat:Int)=2:=(by simpa using h);omega
   rw [Gn h] at hrfx;rw [hrfx];exact⟨(),(cvE rfl rfl),fG,fF,fB,hbX⟩
 clear fG fF fB hbX hrfx;clear X;rintro _ X ⟨fG,fF,fB,hbX⟩;have kw:zG (zaT m.toNat x).to:=ze1 (by omega);have dX:Bw X X.drew:=(Ga _ _).drew;have hbD:=zst hbX dX;have hw3:∀ o∈[rfx,x.co,frM x],zG o.to:=by
  simp only [UB,Qu,Gk,forall_eq_or_imp,forall_eq];exact⟨rfw,hv.co,frw⟩
 have fD:=hdr (zb hbX fx);have hk0:∀ {Y:Wd},Bw X Y->CB 57 #[u8 m,At0 b] Y (.agg (zf (zaT m.toNat x)).toArray):=fun {Y} hY =>
  have h2:=zst hbX hY
  ztw hk (zb h2 fx) (hv.below h2) (hT.below h2)
 refine DrawE.treeQ [] (.op 0 (.op 1 (.op 3 (.op 4 (.op 5 (.op 6 (.op 7 (.op 8 (.alt (.op 9 (.op 2 (.op 10 (.op 11 (.op 12 .nil))))) (.op 2 (.op 9 (.op 10 (.op 11 (.op 12 .nil)))))))))))))) (by kernel_rfl) ⟨_,zc (za (hdr fB)) (i:=0) rfl,zf rfx,zh _,za (hdr fG),hlt (hdr fG),_,zc (za (hdr fB)) (i:=0) rfl,zf x.co,zh _,jt fD (i:=2) (by decide) rfl,hlt fD,zf (frM x),zh _,za (hdr fF),hlt (hdr fF),Gf ?_ ?_⟩
 ·refine⟨⟨by decide,by decide,rfl⟩,zf rfx++(zf x.co++zf (frM x)),by kernel_rfl,?_⟩;refine⟨hba _ _,?_⟩;have b1:=dX.alloc (UV _) (.cells (zf rfx++(zf x.co++zf (frM x))).toArray 39);have hl:=zjl (zw X.drew (.cells (zf rfx++(zf x.co++zf (frM x))).toArray 39));refine cmo (hk0 b1) ?_;rintro e Y ⟨rfl,hbY⟩;refine⟨hbY,?_⟩;have b2:=zst b1 hbY;refine cmo (zjg (l:=[rfx,x.co,frM x]) kw (hl.below hbY) hw3 (JR rfl)) ?_;rintro e V ⟨rfl,hbV⟩;refine⟨hbV,?_⟩;have b3:=zst b2 hbV;refine cmo (zea (zcU kw hw3) (hT.below ((zst hbX b3)))) ?_;rintro e Z ⟨rfl,hbZ⟩;refine⟨hbZ,?_⟩;have b5:=hbX.trans (((zst b3 hbZ)).mono hbX.size);refine biE (fun h=>?_) fun h=>?_
  ·have h:zaO (qc (zaT m.toNat x) [rfx,x.co,frM x])=false:=by
    have h:(!zaO (qc (zaT m.toNat x) [rfx,x.co,frM x]))=true:=h;simpa using h
   rw [h,Gm (by decide)] at hbr;rw [hbr];exact⟨rfl,b5⟩
  ·have h:zaO (qc (zaT m.toNat x) [rfx,x.co,frM x])=true:=by
    have h:(!zaO (qc (zaT m.toNat x) [rfx,x.co,frM x]))=false:=h;simpa using h
   rw [h,Gn rfl] at hbr;rw [hbr];exact⟨rfl,b5⟩
 ·refine cmo (hk0 dX) ?_;rintro e Y ⟨rfl,hbY⟩;refine⟨hbY,?_⟩;have b1:=zst dX hbY;refine⟨⟨by decide,by decide,rfl⟩,zf rfx++(zf x.co++zf (frM x)),by kernel_rfl,?_⟩;refine⟨hba _ _,?_⟩;have b2:=b1.alloc b1.size (.cells (zf rfx++(zf x.co++zf (frM x))).toArray 39);have hl:=zjl (zw Y (.cells (zf rfx++(zf x.co++zf (frM x))).toArray 39));refine cmo (zjg (l:=[rfx,x.co,frM x]) kw hl hw3 (JR rfl)) ?_;rintro e V ⟨rfl,hbV⟩;refine⟨hbV,?_⟩;have b3:=zst b2 hbV;refine cmo (zea (zcU kw hw3) (hT.below ((zst hbX b3)))) ?_;rintro e Z ⟨rfl,hbZ⟩;refine⟨hbZ,?_⟩;have b5:=hbX.trans (((zst b3 hbZ)).mono hbX.size);refine biE (fun h=>?_) fun h=>?_
  ·have h:zaO (qc (zaT m.toNat x) [rfx,x.co,frM x])=false:=by
    have h:(!zaO (qc (zaT m.toNat x) [rfx,x.co,frM x]))=true:=h;simpa using h
   rw [h,Gm (by decide)] at hbr;rw [hbr];exact⟨rfl,b5⟩
  ·have h:zaO (qc (zaT m.toNat x) [rfx,x.co,frM x])=true:=by
    have h:(!zaO (qc (zaT m.toNat x) [rfx,x.co,frM x]))=false:=h;simpa using h
   rw [h,Gn rfl] at hbr;rw [hbr];exact⟨rfl,b5⟩
theorem zkx (h:jm x=true):x.rf.n=x.ev.length:=by
 unfold jm zaQ at h;simp only [Uy,List.all_nil,Bool.and_true,bAT,dE] at h;obtain⟨_,_,_,_,⟨_,h6,_⟩,_⟩:=h;exact h6.1
theorem zrw {A B C:Bool} {m:Nat}:(if A=true then (if B=true then (if m=1 then 0 else if C=true then 0 else 3) else 2) else 1)<=3:=by
 by_cases h:m=1 <;> cases A <;> cases B <;> cases C <;> simp [h]
theorem zoK {m:Nat} {x:ExD}:decide ((((UInt8.ofNat (qO m x)).toNat:Nat):Int)=0)=decide (qO m x=0):=by
 have h:qO m x<=3:=by
  unfold qO;exact zrw
 refine QE.2 ?_;rw [KH];omega
theorem znP {m:UInt8} (hv:ExW w x q) (hT:Tz64M w):CB 9 #[u8 m,.agg (exC x q c).toArray] w (.bool (zdB m.toNat x)):=by
 refine qA 16 [u8 m,.agg (exC x q c).toArray] (.c .p .p) Tryz.func9 ?_;obtain⟨L,hL⟩:=nm (w.heap.size);refine⟨Unit,fun _=>⟨[(0,u8 m),(3,At0 L)],[]⟩,fun _ X=>ExH X L x q c/\Bw w X,⟨(),⟨.cons rfl (.cons (by rw [hL];rfl) .nil),rfl⟩,by rw [hL];exact zw w _,(zba w _)⟩,?_⟩;rintro _ X ⟨fX,hbX⟩;refine cmo znh ?_;rintro e _ ⟨rfl,rfl⟩;refine biE (fun h1=>?_) fun h1=>?_
 ·have h1:zae m.toNat=true:=h1;refine⟨exC x q c,zC _ _ _,za fX,hlt fX,cmo (zlC (hv.below hbX) (hT.below hbX)) ?_⟩;rintro e Y ⟨rfl,hbY⟩;have bY:=zst hbX hbY;refine biE (fun h2=>?_) fun h2=>?_
  ·have h2:jm x=true:=h2;refine cmo (zlw h1 (zb hbY fX) (hv.below bY) (zkx h2) (hT.below bY)) ?_;rintro e Z ⟨rfl,hbZ⟩;refine⟨rb ?_,(zst bY hbZ)⟩;unfold zdB;rw [h1,h2];exact zoK
  ·have h2:jm x=false:=h2;exact⟨rb (by unfold zdB;rw [h2];cases zae m.toNat <;> rfl),bY⟩
 ·have h1:zae m.toNat=false:=h1;exact brF ⟨rb (by unfold zdB;rw [h1];rfl),hbX⟩
end
section
variable {b c:Nat} {x:ExD} {q:OA} {w:Wd}
theorem zq3 {m:UInt8} (hv:ExW w x q) (hT:Tz64M w):CB 19 #[u8 m,.agg (exC x q c).toArray] w (u8 (UInt8.ofNat (zgj m.toNat x))):=by
 refine qA 15 [u8 m,.agg (exC x q c).toArray] (.c .p .p) Tryz.func19 ?_;obtain⟨L,hL⟩:=nm (w.heap.size);refine⟨Unit,fun _=>⟨[(0,u8 m),(3,At0 L)],[]⟩,fun _ X=>ExH X L x q c/\Bw w X,⟨(),⟨.cons rfl (.cons (by rw [hL];rfl) .nil),rfl⟩,by rw [hL];exact zw w _,(zba w _)⟩,?_⟩;rintro _ X ⟨fX,hbX⟩;refine cmo znh ?_;rintro e _ ⟨rfl,rfl⟩;refine biE (fun h1=>?_) fun h1=>?_
 ·have h1:zae m.toNat=false:=by
   have h1:(!zae m.toNat)=true:=h1;simpa using h1
  refine brT ?_;have e0:zgj m.toNat x=0:=by unfold zgj;rw [Gm fun h=>by rw [h1] at h;cases h.1]
  rw [e0];exact⟨rfl,hbX⟩
 ·have h1:zae m.toNat=true:=by
   have h1:(!zae m.toNat)=false:=h1;simpa using h1
  refine⟨exC x q c,zC _ _ _,za fX,hlt fX,cmo (zlC (hv.below hbX) (hT.below hbX)) ?_⟩;rintro e Y ⟨rfl,hbY⟩;have bY:=zst hbX hbY;refine biE (fun h2=>?_) fun h2=>?_
  ·have h2:jm x=false:=by
    have h2:(!jm x)=true:=h2;simpa using h2
   have e0:zgj m.toNat x=0:=by unfold zgj;rw [Gm fun h=>by rw [h2] at h;cases h.2]
   rw [e0];exact⟨rfl,bY⟩
  ·have h2:jm x=true:=by
    have h2:(!jm x)=false:=h2;simpa using h2
   have e0:zgj m.toNat x=qO m.toNat x:=Gn ⟨h1,h2⟩;rw [e0];refine cmo (zlw h1 (zb hbY fX) (hv.below bY) (zkx h2) (hT.below bY)) ?_;rintro e Z ⟨rfl,hbZ⟩;exact⟨rfl,(zst bY hbZ)⟩
end
section
variable {w:Wd}
theorem zlM {l v m:UInt8}:CB 21 #[u8 l,u8 v,u8 m] w (.agg (zF.enc (stI l v m)).toArray):=by
 refine qA 12 [u8 l,u8 v,u8 m] (.c .p .p) Tryz.func21 ?_;obtain⟨L,hL⟩:=nm (w.heap.size);refine⟨Unit,fun _=>⟨[(0,u8 l),(1,u8 v),(2,u8 m),(6,At0 L)],[]⟩,fun _ X=>(∃ cs:Array Value,X.heap[L]?=some (.cells cs 55 (0,0))/\cs.size=10)/\Bw w X,⟨(),⟨.cons rfl (.cons rfl (.cons rfl (.cons (by rw [hL];rfl) .nil))),rfl⟩,⟨_,by rw [hL];exact zw w _,by kernel_rfl⟩,(zba w _)⟩,?_⟩;rintro _ X ⟨⟨cs,f0,hcs⟩,hbX⟩;refine⟨[.bool false,u8 v],by kernel_rfl,?_⟩;refine⟨zF.enc (stI l v m),by kernel_rfl,?_⟩;exact zt (v := .agg (zF.enc (stI l v m)).toArray) k55 f0 rfl hcs rfl ⟨zF.enc (stI l v m),rfl,za (zn f0),rfl,zl hbX (by omega) _⟩
theorem zl9 {d l m:UInt8}:CB 22 #[u8 d,u8 l,u8 m] w (.agg (zF.enc (ldI d l m)).toArray):=by
 refine qA 11 [u8 d,u8 l,u8 m] (.c .p .p) Tryz.func22 ?_;obtain⟨L,hL⟩:=nm (w.heap.size);refine⟨Unit,fun _=>⟨[(0,u8 d),(1,u8 l),(2,u8 m),(6,At0 L)],[]⟩,fun _ X=>(∃ cs:Array Value,X.heap[L]?=some (.cells cs 55 (0,0))/\cs.size=10)/\Bw w X,⟨(),⟨.cons rfl (.cons rfl (.cons rfl (.cons (by rw [hL];rfl) .nil))),rfl⟩,⟨_,by rw [hL];exact zw w _,by kernel_rfl⟩,(zba w _)⟩,?_⟩;rintro _ X ⟨⟨cs,f0,hcs⟩,hbX⟩;refine⟨zF.enc (ldI d l m),by kernel_rfl,?_⟩;exact zt (v := .agg (zF.enc (ldI d l m)).toArray) k55 f0 rfl hcs rfl ⟨zF.enc (ldI d l m),rfl,za (zn f0),rfl,zl hbX (by omega) _⟩
theorem zmZ {la lb:List InsD} {pa pb:OA} {ca cb b0 b1 b2:Nat} {i0:UInt8} {Y:Wd} (ha:RowB zF Y.heap.size Y pa la) (hb:RowB zF Y.heap.size Y pb lb) (hla:la.length<=1000) (hlb:lb.length<=1000) (hpa:∀ a,pa=some a->a.block<Y.heap.size) (hpb:∀ a,pb=some a->a.block<Y.heap.size)
  (g1:Y.heap[b0]?=some (.cells #[qG [120],qG [121]] 9 (0,0))) (g2:Y.heap[b1]?=some (.cells #[u8 i0,u8 0] 5 (0,0))) (g3:Y.heap[b2]?=some (.cells #[.slice pa la.length ca,.slice pb lb.length cb] 51 (0,0))) :
  PrgX Y.heap.size Y (ju (zeb la lb) (some ⟨b0,0,none⟩) 2 (some ⟨b1,0,none⟩) 2 (some ⟨b2,0,none⟩) 2 none 0) { zeb la lb with init:=[i0,0] }:=by
 have r3:RowB zs3 Y.heap.size Y (some ⟨b2,0,none⟩) [(la,pa,ca),(lb,pb,cb)] := .inr ⟨b2,0,rfl,hlt g3,za g3⟩;have rows:∀ x∈[((la,pa,ca):zqS),(lb,pb,cb)],RowB zF Y.heap.size Y x.2.1 x.1/\∀ a,x.2.1=some a->a.block<Y.heap.size:=by
  simp only [UB,Qu,Gk,forall_eq_or_imp,forall_eq];exact⟨⟨ha,hpa⟩,hb,hpb⟩
 refine⟨⟨⟨by show 1<=_;decide,by show 2<=_;decide,fun s hs=>?_,by show 2<=_;decide,by show 2<=_;decide,fun l hl=>?_⟩,some ⟨b0,0,none⟩,2,some ⟨b1,0,none⟩,2,some ⟨b2,0,none⟩,2,none,0,rfl,?_,?_,?_,?_,?_⟩,?_,?_⟩
 ·have hs:s=[120]\/s=[121]:=by simpa [zeb] using hs
  rcases hs with rfl | rfl <;> decide
 ·have hl:l=la\/l=lb:=by simpa [zeb] using hl
  rcases hl with rfl | rfl <;> omega
 ·exact .inr ⟨b0,0,rfl,hlt g1,za g1⟩
 ·exact .inr ⟨b1,0,rfl,hlt g2,za g2⟩
 ·exact⟨[(la,pa,ca),(lb,pb,cb)],rfl,r3,fun x hx=>(rows x hx).1⟩
 ·exact .mk none [] (by decide) 0 0 (.inl rfl) (fun _=>none) (fun _=>0) (fun i hi=>by simp at hi) (fun i hi=>by simp at hi)
 ·exact UV 2
 ·exact⟨some ⟨b2,0,none⟩,2,rfl,[(la,pa,ca),(lb,pb,cb)],rfl,r3,fun x hx=>⟨(rows x hx).1,fun _=>(rows x hx).2⟩⟩
 ·exact⟨some ⟨b1,0,none⟩,2,rfl,.inr ⟨b1,0,rfl,hlt g2,za g2⟩⟩
theorem zo5 {la lb:List InsD} {pa pb:OA} {ca cb:Nat} :
  Calls PG 14 #[.slice pa la.length ca,.slice pb lb.length cb] w fun e w'=>(∃ b0 b1 b2:Nat,e = .returned (.agg (ju (zeb la lb) (some ⟨b0,0,none⟩) 2 (some ⟨b1,0,none⟩) 2 (some ⟨b2,0,none⟩) 2 none 0).toArray) /\
   w.heap.size<=b1/\b0≠b1/\b1≠b2/\w'.heap[b0]?=some (.cells #[qG [120],qG [121]] 9 (0,0))/\w'.heap[b1]?=some (.cells #[u8 0,u8 0] 5 (0,0))/\w'.heap[b2]?=some (.cells #[.slice pa la.length ca,.slice pb lb.length cb] 51 (0,0)))/\Bw w w':=by
 refine qA 11 [.slice pa la.length ca,.slice pb lb.length cb] (.c .p .p) Tryz.func14 ?_;obtain⟨L,hL⟩:=nm (w.heap.size);refine⟨Unit,fun _=>⟨[(0,.slice pa la.length ca),(1,.slice pb lb.length cb),(4,At0 L)],[]⟩,fun _ X=>(∃ cs:Array Value,X.heap[L]?=some (.cells cs 29 (0,0))/\cs.size=10)/\X.heap.size=L+1/\Bw w X,⟨(),⟨.cons rfl (.cons rfl (.cons (by rw [hL];rfl) .nil)),rfl⟩,⟨_,by rw [hL];exact zw w _,by kernel_rfl⟩,by rw [wz,hL],(zba w _)⟩,?_⟩;rintro _ W ⟨⟨cs,fL,hcs⟩,sW,hbW⟩;obtain⟨W1,hW1⟩:=nm (W.alloc (.cells #[qG [120],qG [121]] 9));obtain⟨W2,hW2⟩:=nm (W1.alloc (.cells #[u8 0,u8 0] 5));obtain⟨W3,hW3⟩:=nm (W2.alloc (.cells #[.slice pa la.length ca,.slice pb lb.length cb] 51));have hb1:Bw W W1:=by rw [hW1];exact (zba W _)
 have hb2:Bw W1 W2:=by rw [hW2];exact (zba W1 _)
 have hb3:Bw W2 W3:=by rw [hW3];exact (zba W2 _)
 have f1:W1.heap[W.heap.size]?=some (.cells #[qG [120],qG [121]] 9 (0,0)):=by rw [hW1];exact zw W _
 have f2:W2.heap[W1.heap.size]?=some (.cells #[u8 0,u8 0] 5 (0,0)):=by rw [hW2];exact zw W1 _
 have f3:W3.heap[W2.heap.size]?=some (.cells #[.slice pa la.length ca,.slice pb lb.length cb] 51 (0,0)):=by rw [hW3];exact zw W2 _
 have s1:W1.heap.size=L+2:=by rw [hW1,wz,sW]
 have s2:W2.heap.size=L+3:=by rw [hW2,wz,s1]
 have s3:W3.heap.size=L+4:=by rw [hW3,wz,s2]
 refine⟨⟨by decide,by decide,rfl⟩,[qG [120],qG [121]],rfl,?_⟩;have hW1':W.alloc (.cells [qG [120],qG [121]].toArray 9)=W1:=hW1.symm;rw [hW1'];refine⟨⟨by decide,by decide,rfl⟩,[u8 0,u8 0],rfl,?_⟩;have hW2':W1.alloc (.cells [u8 0,u8 0].toArray 5)=W2:=hW2.symm;rw [hW2'];refine⟨⟨by decide,by decide,rfl⟩,[.slice pa la.length ca,.slice pb lb.length cb],rfl,?_⟩;have hW3':W2.alloc (.cells [.slice pa la.length ca,.slice pb lb.length cb].toArray 51)=W3:=hW3.symm;rw [hW3'];obtain⟨vs,hvs⟩:=nm (ju (zeb la lb) (some ⟨W.heap.size,0,none⟩) 2 (some ⟨W1.heap.size,0,none⟩) 2 (some ⟨W2.heap.size,0,none⟩) 2 none 0);refine⟨vs,by rw [hvs];rfl,?_⟩;have hb12:=zst hb1 hb2;have hbW3:Bw W W3:=hb12.trans (hb3.mono (UL hb1.size hb2.size));have fL3:W3.heap[L]?=some (.cells cs 29 (0,0)):=zb hbW3 fL;have hlen:vs.length=10:=by rw [hvs];rfl
 have hone:vs.all Value.oneCell'=true:=by rw [hvs];rfl
 refine zt (v := .agg vs.toArray) k29 fL3 hlen hcs hone ?_;obtain⟨Y,hY⟩:=nm (W3.setRow L (Value.agg vs.toArray).cells);rw [<- hY];have fY:Y.heap[L]?=some (.cells vs.toArray 29 (0,0)):=by rw [hY];exact zn fL3
 have oY:∀ k,k≠L->Y.heap[k]?=W3.heap[k]?:=fun k hk=>by rw [hY];exact zp hk
 have sY:Y.heap.size=W3.heap.size:=by rw [hY];simp
 have bY:Bw w Y:=by rw [hY];exact zl ((zst hbW hbW3)) (by omega) _
 refine⟨vs,hlen,za fY,⟨W.heap.size,W1.heap.size,W2.heap.size,by rw [hvs];rfl,by omega,by omega,by omega,?_,?_,?_⟩,bY⟩
 ·exact (oY _ (by omega)).trans (zb hb3 (zb hb2 f1))
 ·exact (oY _ (by omega)).trans (zb hb3 f2)
 ·exact (oY _ (by omega)).trans f3
theorem zmH {la lb:List InsD} {pa pb:OA} {ca cb:Nat} (ha:RowB zF w.heap.size w pa la) (hb:RowB zF w.heap.size w pb lb) (hla:la.length<=1000) (hlb:lb.length<=1000) (hpa:∀ a,pa=some a->a.block<w.heap.size) (hpb:∀ a,pb=some a->a.block<w.heap.size) :
  Calls PG 14 #[.slice pa la.length ca,.slice pb lb.length cb] w fun e w'=>(∃ vs:List Value,e = .returned (.agg vs.toArray)/\PrgX w'.heap.size w' vs (zeb la lb))/\Bw w w':=by
 refine cmo zo5 ?_;rintro e Y ⟨⟨b0,b1,b2,rfl,_,_,_,g1,g2,g3⟩,bY⟩;have sY:=bY.size;exact⟨⟨_,rfl,zmZ ((ha.below bY).mono sY) ((hb.below bY).mono sY) hla hlb (fun a h=>nL (hpa a h) sY) (fun a h=>nL (hpb a h) sY) g1 g2 g3⟩,bY⟩
end
theorem zgI (x:ExD) (q:OA) (c:Nat) {i:Nat} (hi:i<32):(exC x q c)[295+i]?=some (u8 (x.regs i)):=by
 obtain⟨A,T,hA,hE⟩:=znn x q c [];have:=hE x.regs;rw [QI] at this;show (exC { x with regs:=x.regs } q c)[295+i]?=_;rw [this,jc hA,Jr (by rw [zE];exact hi),zbK (n:=32) (fun i=>u8 (x.regs i)) hi]
section
variable {w:Wd} {B:Nat} {pc:List Value} {p:Prg} {V:List UInt8} {a b:UInt8}
theorem zgf (l:List ExD) (x:ExD):zbW (l++[x]) a b=zbW l a b++if (decide (x.regs 0=a)&&decide (x.regs 8=b))=true then [x] else []:=by
 unfold zbW;rw [Kv,Qm,List.filter_nil]
theorem zgH (hB:B<=w.heap.size) (hP:PrgX B w pc p) (hG:GlobE w) (hQ:zce p V 50=true) (hlen:(qi p V).length<=30000) :
  Calls PG 20 #[.agg pc.toArray,u8 a,u8 b] w fun e w'=>(∃ (xs:List zb0) (q:OA) (c:Nat),e = .returned (.slice q xs.length c)/\xs.map (·.1)=zbW (qi p V) a b/\SlR exE w' q xs/\∀ x∈xs,SlR evE w' x.2.1 x.1.ev)/\Bw w w':=by
 refine qA 45 [.agg pc.toArray,u8 a,u8 b] (.c .p (.c .p (.c .p (.c .p .p)))) Tryz.func20 ?_;obtain⟨L,hL⟩:=nm (w.heap.size);have hpc:=hP.v.size;refine⟨Unit,fun _=>⟨[(1,u8 a),(2,u8 b),(3,At0 L)],[]⟩,fun _ X=>X.heap[L]?=some (.cells pc.toArray 29 (0,0))/\Bw w X,⟨(),⟨.cons rfl (.cons rfl (.cons (by rw [hL];rfl) .nil)),rfl⟩,by rw [hL];exact zw w _,(zba w _)⟩,?_⟩;rintro _ X ⟨f0,hbX⟩;refine⟨Unit,fun _=>⟨[(1,u8 a),(2,u8 b),(3,At0 L),(7,.slice none 0 0)],[]⟩,fun _ Y=>X=Y,⟨(),(cvE rfl rfl),rfl⟩,?_⟩;rintro _ _ rfl;have hXs:=hbX.size;refine⟨List zb0×OA×Nat,fun s=>⟨[(1,u8 a),(2,u8 b),(7,.slice none 0 0),(8,.slice s.2.1 s.1.length s.2.2)],[]⟩,fun s Y=>s.1.map (·.1)=qi p V/\OwnS exE 46 X.heap.size Y s.2.1 s.2.2 s.1/\(∀ x∈s.1,OwnS evE 49 X.heap.size Y x.2.1 x.2.2 x.1.ev)/\Bw w Y,?_,?_⟩
 ·refine⟨pc,hpc,za f0,hlt f0,cmo (zq2 (most:=50) (UL hB hXs) (hP.below (hbX.mono hB)) (hG.below hbX) (by decide) hQ) ?_⟩;rintro e Y ⟨⟨xs,q,c,rfl,h1,h2,h3⟩,hbY⟩;exact⟨(xs,q,c),(cvE rfl rfl),h1,h2,h3,hbX.trans (hbY.mono hXs)⟩
 rintro⟨xs,q,c⟩ Y ⟨hxs,oX,hev,hbY⟩;dsimp only at hxs oX hev ⊢;obtain⟨D,hD⟩:=nm (Y.heap.size);have hxl:xs.length<=30000:=by
  have:=Gi List.length hxs;rw [QL] at this;omega
 refine⟨List zb0×OA×Nat,fun s=>⟨[(7,.slice s.2.1 s.1.length s.2.2)],[]⟩,fun s Z=>s.1.map (·.1)=zbW (qi p V) a b/\(∀ x∈s.1,x∈xs)/\OwnS exE 46 D Z s.2.1 s.2.2 s.1/\Below D Y Z,?_,?_⟩
 ·refine⟨Nat×List zb0×OA×Nat,fun s=>⟨[(1,u8 a),(2,u8 b),(7,.slice s.2.2.1 s.2.1.length s.2.2.2),(17,.slice q xs.length c),(18,i64 xs.length),(19,i64 (s.1:Nat))],[]⟩,
   fun s Z=>s.1<=xs.length/\s.2.1.map (·.1)=zbW ((xs.take s.1).map (·.1)) a b/\(∀ x∈s.2.1,x∈xs)/\s.2.1.length<=s.1/\OwnS exE 46 D Z s.2.2.1 s.2.2.2 s.2.1/\Below D Y Z,fun s=>xs.length-s.1,(0,[],none,0),
   (cvE rfl rfl),⟨UY _,rfl,fun x hx=>(by cases hx),UV _,OwnS.nil,by rw [hD];exact Ga _ _⟩,?_⟩
  rintro⟨k,out,po,co⟩ Z ⟨hk,hout,hmem,hlo,oZ,hbZ⟩;dsimp only at hk hout hmem hlo oZ ⊢;have hZs:D<=Z.heap.size:=by have:=hbZ.size;omega
  refine biE (fun hc=>?_) fun hc=>?_
  ·have hc:(k:Int)<(xs.length:Int):=dT hc;have hkl:k<xs.length:=by omega
   obtain⟨bx,ox,hq,hbx,hat⟩:=oX.row.at hkl;obtain⟨y,hy⟩:∃ y,xs[k]=y:=⟨_,rfl⟩;have hym:y∈xs:=by rw [<- hy];exact gM hkl
   have htk:(xs.take (k+1)).map (·.1)=(xs.take k).map (·.1)++[y.1]:=by rw [tsg hkl,hy,QO];rfl
   have hatk:=hat k hkl;rw [hy] at hatk;have hatk:zK Y ⟨bx,ox+k*333,none⟩ (exC y.1 y.2.1 y.2.2):=hatk;subst hq;refine⟨k,rfl,hkl,exC y.1 y.2.1 y.2.2,zC _ _ _,zU hbZ (by show bx<D;omega) hatk,by show bx<_;omega,?_⟩;refine zq (X:=Z) (v := .agg (exC y.1 y.2.1 y.2.2).toArray) k46 (zC _ _ _) jD (za3 _ _ _) fun U hbU fU sU=>?_;have fU:ExH U Z.heap.size y.1 y.2.1 y.2.2:=fU;have oU:=oZ.below hbU;have hbU2:=hbZ.trans (hbU.mono hZs);have hUs:D<=U.heap.size:=by omega
   have e0:(exC y.1 y.2.1 y.2.2)[295]?=some (u8 (y.1.regs 0)):=zgI y.1 y.2.1 y.2.2 (i:=0) (by decide);have e8:(exC y.1 y.2.1 y.2.2)[303]?=some (u8 (y.1.regs 8)):=zgI y.1 y.2.1 y.2.2 (i:=8) (by decide);have skip:(decide (y.1.regs 0=a)&&decide (y.1.regs 8=b))=false->(k+1<=xs.length/\out.map (·.1)=zbW ((xs.take (k+1)).map (·.1)) a b/\(∀ x∈out,x∈xs)/\out.length<=k+1/\OwnS exE 46 D U po co out/\Below D Y U):=fun h =>
    ⟨hkl,by rw [htk,zgf,h,hout];simp,hmem,by omega,oU,hbU2⟩
   refine⟨0,rfl,by decide,?_⟩;refine⟨0,rfl,by decide,?_⟩;refine⟨u8 (y.1.regs 0),zc (za fU) e0,biE (fun h1=>?_) fun h1=>?_⟩
   ·have h1:y.1.regs 0=a:=qu.1 (dT h1);refine⟨1,rfl,by decide,?_⟩;refine⟨0,rfl,by decide,?_⟩;refine⟨u8 (y.1.regs 8),zc (za fU) e8,biE (fun h2=>?_) fun h2=>?_⟩
    ·have h2:y.1.regs 8=b:=qu.1 (dT h2);have hp:(decide (y.1.regs 0=a)&&decide (y.1.regs 8=b))=true:=(by rw [Uq h1,Uq h2];rfl);refine⟨exC y.1 y.2.1 y.2.2,zC _ _ _,za fU,hlt fU,⟨by decide,by decide,jD⟩,exE.enc y,za2 (zC _ _ _) jD,?_⟩;have hb2:Bw U (U.alloc (.cells (exE.enc y).toArray 46)):=zba _ _;have sb2:=hb2.size;unfold zed zaB;show SatR _ _;refine jJ Tryz.underlying30 k46 rfl rfl jD (oU.below hb2) (news:=[y]) rfl (qN exE y) (by omega) (by show out.length+1<=_;omega) (by show (out.length+1)*2416<=_;omega) fun p' c' S oS gS hbS hat2=>nxI (by omega) ?_;exact⟨(k+1,out++[y],p',c'),(cvE rfl rfl),⟨hkl,by rw [htk,zgf,Gn hp,QO,hout];rfl,fun x hx=>(by
      rcases QQ.1 hx with h | h
      ·exact hmem x h
      ·rw [KA.1 h];exact hym),by rw [lap];show _+1<=_;omega,oS,(hbU2.trans (hb2.mono hUs)).trans hbS⟩,zdc (by omega)⟩
    ·have h2:¬ y.1.regs 8=b:=fun e2=>(dF h2) (by rw [e2]);exact nxI (by omega) ⟨(k+1,out,po,co),(cvE rfl rfl),skip (by rw [Uf h2,Ug]),zdc (by omega)⟩
   ·have h1:¬ y.1.regs 0=a:=fun e2=>(dF h1) (by rw [e2]);exact brF (nxI (by omega) ⟨(k+1,out,po,co),(cvE rfl rfl),skip (by rw [Uf h1];rfl),zdc (by omega)⟩)
  ·have hc:¬ (k:Int)<(xs.length:Int):=dF hc;obtain rfl:k=xs.length:=by omega
   rw [Qv,hxs] at hout;exact⟨(out,po,co),(cvE rfl rfl),hout,hmem,oZ,hbZ⟩
 rintro⟨out,po,co⟩ Z ⟨hout,hmem,oZ,hbZ⟩;dsimp only at hout hmem oZ ⊢;have hwY:=hbY.size;exact⟨⟨out,po,co,rfl,hout,oZ.row,fun x hx=>((hev x (hmem x hx)).below (hbZ.mono (by omega))).row⟩,hbY.trans (hbZ.mono (by omega))⟩
end
theorem zoT (u:Nat):IntKind.u8.wrap (u:Int)=((UInt8.ofNat u).toNat:Int):=by
 have:=KH (n:=u);simp [IntKind.wrap,IntKind.bits,IntKind.signed] at this ⊢
 try omega
theorem zqe (d:Nat) (a b:Bool) (w:Wd):(Op.equalIn (d+1) 4 (.bool a) (.bool b)).run PG w = .ok (decide (a=b)) w:=by
 simp only [Op.equalIn,US,Ur Tryz.underlying4,KZ,UT]
 cases a <;> cases b <;> rfl
theorem zoo (x y:Operand) (a b:Bool) (w:Wd):(do eqGuard .neq 4 x y (.bool a) (.bool b);binOp .neq 4 (.bool a) (.bool b)).run PG w = .ok (.bool (!decide (a=b))) w:=by
 have h:(Op.equal 4 (.bool a) (.bool b)).run PG w = .ok (decide (a=b)) w:=zqe 9999 a b w;have h1:(eqGuard .neq 4 x y (.bool a) (.bool b)).run PG w = .ok () w:=rfl;rw [US,h1];simp only [KZ,binOp,US,h,UT]
section
variable {w:Wd} {c cw:Nat} {x:ExD} {q pw:OA} {ws:List UInt8}
theorem zpj (h:zkk x ws=true) {i:Nat} (hi:i<ws.length):zgj (i+1) x=ws[i].toNat/\zdB (i+1) x=decide (ws[i]=0):=by
 unfold zkk at h;rw [Qi] at h;have:=h i (Um.2 hi);rw [bAT,dE,beq_iff_eq,gDe,gE hi] at this;exact this
theorem zjo (hv:ExV w x q) (hT:Tz64M w) (hw:SlR zW w pw ws) (hs:zkk x ws=true) (h6:ws.length<=6):CB 23 #[.agg (exC x q c).toArray,.slice pw ws.length cw] w (.bool true):=by
 refine qA 32 [.agg (exC x q c).toArray,.slice pw ws.length cw] (.c .p (.c .p .p)) Tryz.func23 ?_;obtain⟨L,hL⟩:=nm (w.heap.size);refine⟨Unit,fun _=>⟨[(1,.slice pw ws.length cw),(2,At0 L)],[]⟩,fun _ X=>ExH X L x q c/\Bw w X,⟨(),⟨.cons rfl (.cons (by rw [hL];rfl) .nil),rfl⟩,by rw [hL];exact zw w _,(zba w _)⟩,?_⟩;rintro _ X ⟨fX,hbX⟩;refine⟨Unit,fun _=>⟨[],[]⟩,fun _ Y=>Bw w Y,?_,?_⟩
 ·refine⟨Nat,fun k=>⟨[(2,At0 L),(7,.slice pw ws.length cw),(8,i64 ws.length),(9,i64 (k:Nat))],[]⟩,fun k Y=>k<=ws.length/\ExH Y L x q c/\Bw w Y,fun k=>ws.length-k,0,
   (cvE rfl rfl),⟨UY _,fX,hbX⟩,?_⟩
  clear fX hbX;rintro k Y ⟨hk,fY,hbY⟩;dsimp only;refine biE (fun hc=>?_) fun hc=>?_
  ·have hc:(k:Int)<(ws.length:Int):=dT hc;have hkl:k<ws.length:=by omega
   obtain⟨h1,h2⟩:=zpj hs hkl;obtain⟨bw,ow,hq,hbw,hat⟩:=(hw.below hbY).at hkl;obtain⟨v,hv2⟩:∃ v,ws[k]=v:=⟨_,rfl⟩;have hatk:=hat k hkl;rw [hv2] at hatk h1 h2;have hm:(UInt8.ofNat (k+1)).toNat=k+1:=by
    rw [KH];exact QB (by omega)
   subst hq;refine⟨k,rfl,hkl,u8 v,by have:=zc hatk (i:=0) (v:=u8 v) rfl;exact this,nxI (by omega) ⟨((UInt8.ofNat (k+1)).toNat:Int),zoT _,exC x q c,zC _ _ _,za fY,hlt fY,cmo (zq3 (m:=UInt8.ofNat (k+1)) (hv.w.below hbY) (hT.below hbY)) ?_⟩⟩;rintro e Z ⟨rfl,hbZ⟩;rw [hm,h1];have bZ:=zst hbY hbZ;have fZ:=zb hbZ fY;have hvv:UInt8.ofNat v.toNat=v:=UInt8.ofNat_toNat;rw [hvv];refine biE (fun h=>?_) fun _=>?_
   ·have h:(!decide ((v.toNat:Int)=(v.toNat:Int)))=true:=h;rw [Uq rfl] at h
    cases h
   refine nxI (by omega) ⟨((UInt8.ofNat (k+1)).toNat:Int),zoT _,exC x q c,zC _ _ _,za fZ,hlt fZ,cmo (znP (m:=UInt8.ofNat (k+1)) (hv.w.below bZ) (hT.below bZ)) ?_⟩;rintro e V ⟨rfl,hbV⟩;rw [hm,h2];have e0:decide (v=0)=decide ((v.toNat:Int)=0):=QE.2 (qu (x:=v) (y:=0)).symm;rw [e0];refine⟨_,fun w=>zoo _ _ _ _ w,biE (fun h=>?_) fun _=>?_⟩
   ·have h:(!decide (decide ((v.toNat:Int)=0)=decide ((v.toNat:Int)=0)))=true:=h;rw [Uq rfl] at h
    cases h
   exact nxI (by omega) ⟨k+1,(cvE rfl rfl),⟨hkl,zb hbV fZ,(zst bZ hbV)⟩,zdc (by omega)⟩
  ·exact⟨(),⟨.nil,rfl⟩,hbY⟩
 rintro _ Y hbY;exact⟨rfl,hbY⟩
end
structure FndV (X:Wd) (F:List ExD) (xs:List zb0) (q:OA):Prop where
 e:xs.map (·.1)=F
 row:SlR exE X q xs
 ev:∀ x∈xs,SlR evE X x.2.1 x.1.ev
theorem FndV.below {X Y:Wd} {F:List ExD} {xs:List zb0} {q:OA} (h:FndV X F xs q) (hb:Bw X Y):FndV Y F xs q:=⟨h.e,h.row.below hb,fun x hx=>(h.ev x hx).below hb⟩
theorem FndV.at {X:Wd} {F:List ExD} {xs:List zb0} {q:OA} {i n:Nat} {want:List UInt8} (h:FndV X F xs q) (hs:zfz F i n want=true) (hi:i<n):xs.length=n/\∃ (b o:Nat) (y:zb0),q=some ⟨b,o,none⟩/\b<X.heap.size/\zK X ⟨b,o+i*333,none⟩ (exC y.1 y.2.1 y.2.2)/\ExV X y.1 y.2.1/\zkk y.1 want=true/\y.1=F.getD i (ex0 0):=by
 unfold zfz at hs;rw [bAT,bAT,dE] at hs;have hl:xs.length=n:=by
  have:=Gi List.length h.e;rw [QL] at this;omega
 have hix:i<xs.length:=by omega
 obtain⟨b,o,hq,hb,hat⟩:=h.row.at hix;obtain⟨y,hy⟩:∃ y,xs[i]=y:=⟨_,rfl⟩;have hym:y∈xs:=by rw [<- hy];exact gM hix
 have hF:y.1=F.getD i (ex0 0):=by
  rw [<- h.e,gDe,KT,gE hix,hy];rfl
 have hF2:y.1∈F:=by
  rw [<- h.e];exact Kl hym
 have hatk:=hat i hix;rw [hy] at hatk;exact⟨hl,b,o,y,hq,hb,hatk,zrT (Qi.1 hs.2.1 _ hF2) (h.ev y hym),by rw [hF];exact hs.2.2,hF⟩
theorem zc0 {W:Wd} {g:Nat} {cs:List Value} {l:List InsD} (h:W.heap[g]?=some (.cells cs.toArray 55 (0,0))) (hc:cs=l.flatMap zF.enc):RowB zF W.heap.size W (some ⟨g,0,none⟩) l :=
 .inr ⟨g,0,rfl,hlt h,by rw [<- hc];exact za h⟩
theorem zt5 {w:Wd} (hG:GlobE w):CB 8 #[] w (.bool true):=by
 refine qA 98 [] (.s .p (.c .p (.c .p (.c .p (.c .p (.c .p (.c .p .p))))))) Tryz.func8 ?_;refine⟨List zb0×OA×Nat,fun s=>⟨[(1,.slice s.2.1 s.1.length s.2.2)],[]⟩,fun s X=>FndV X sbF s.1 s.2.1/\Bw w X,?_,?_⟩
 ·have b0:=(Ga w.heap.size w);refine cmo (zlM (l:=0) (v:=1) (m:=0)) ?_;rintro e V1 ⟨rfl,hv1⟩;have b1:=zst b0 hv1;refine cmo (zl9 (d:=0) (l:=1) (m:=0)) ?_;rintro e V2 ⟨rfl,hv2⟩;have b2:=zst b1 hv2;refine⟨⟨by decide,by decide,rfl⟩,zF.enc (stI 0 1 0)++zF.enc (ldI 0 1 0),by kernel_rfl,?_⟩;obtain⟨V3,e3⟩:=nm (V2.alloc (.cells (zF.enc (stI 0 1 0)++zF.enc (ldI 0 1 0)).toArray 55));have hv3:Bw V2 V3:=by rw [e3];exact (zba _ _)
  have f3:V3.heap[V2.heap.size]?=some (.cells (zF.enc (stI 0 1 0)++zF.enc (ldI 0 1 0)).toArray 55 (0,0)):=by rw [e3];exact zw _ _
  rw [<- e3];have b3:=zst b2 hv3;refine cmo (zlM (l:=1) (v:=1) (m:=0)) ?_;rintro e V4 ⟨rfl,hv4⟩;have b4:=zst b3 hv4;refine cmo (zl9 (d:=0) (l:=0) (m:=0)) ?_;rintro e V5 ⟨rfl,hv5⟩;have b5:=zst b4 hv5;refine⟨⟨by decide,by decide,rfl⟩,zF.enc (stI 1 1 0)++zF.enc (ldI 0 0 0),by kernel_rfl,?_⟩;obtain⟨V6,e6⟩:=nm (V5.alloc (.cells (zF.enc (stI 1 1 0)++zF.enc (ldI 0 0 0)).toArray 55));have hv6:Bw V5 V6:=by rw [e6];exact (zba _ _)
  have f6:V6.heap[V5.heap.size]?=some (.cells (zF.enc (stI 1 1 0)++zF.enc (ldI 0 0 0)).toArray 55 (0,0)):=by rw [e6];exact zw _ _
  rw [<- e6];have b6:=zst b5 hv6;refine cmo (zmH (la:=[stI 0 1 0,ldI 0 1 0]) (lb:=[stI 1 1 0,ldI 0 0 0]) (zc0 (zb hv6 (zb hv5 (zb hv4 (f3)))) (l:=[stI 0 1 0,ldI 0 1 0]) rfl) (zc0 (f6) (l:=[stI 1 1 0,ldI 0 0 0]) rfl) (JR rfl) (JR rfl) (fun a h=>by cases h;exact hlt (zb hv6 (zb hv5 (zb hv4 (f3))))) (fun a h=>by cases h;exact hlt (f6))) ?_;rintro e V7 ⟨⟨vs,rfl,hP⟩,hv7⟩;have b7:=zst b6 hv7;refine cmo (zgH (p:=sbP) (V:=[0,1]) (a:=0) (b:=0) (UV _) hP (hG.below b7) zuV zs6) ?_;rintro e V8 ⟨⟨xs,q,c,rfl,h1,h2,h3⟩,hv8⟩;have b8:=zst b7 hv8;exact⟨(xs,q,c),(cvE rfl rfl),⟨h1,h2,h3⟩,b8⟩
 rintro s1 W1 ⟨g1,hb1⟩;refine⟨List zb0×OA×Nat,fun s=>⟨[(1,.slice s1.2.1 s1.1.length s1.2.2),(2,.slice s.2.1 s.1.length s.2.2)],[]⟩,fun s X=>FndV X mpF s.1 s.2.1/\FndV X sbF s1.1 s1.2.1/\Bw w X,?_,?_⟩
 ·have b0:=hb1;refine cmo (zlM (l:=0) (v:=1) (m:=0)) ?_;rintro e V1 ⟨rfl,hv1⟩;have b1:=zst b0 hv1;refine cmo (zlM (l:=1) (v:=1) (m:=0)) ?_;rintro e V2 ⟨rfl,hv2⟩;have b2:=zst b1 hv2;refine⟨⟨by decide,by decide,rfl⟩,zF.enc (stI 0 1 0)++zF.enc (stI 1 1 0),by kernel_rfl,?_⟩;obtain⟨V3,e3⟩:=nm (V2.alloc (.cells (zF.enc (stI 0 1 0)++zF.enc (stI 1 1 0)).toArray 55));have hv3:Bw V2 V3:=by rw [e3];exact (zba _ _)
  have f3:V3.heap[V2.heap.size]?=some (.cells (zF.enc (stI 0 1 0)++zF.enc (stI 1 1 0)).toArray 55 (0,0)):=by rw [e3];exact zw _ _
  rw [<- e3];have b3:=zst b2 hv3;refine cmo (zl9 (d:=1) (l:=1) (m:=0)) ?_;rintro e V4 ⟨rfl,hv4⟩;have b4:=zst b3 hv4;refine cmo (zl9 (d:=0) (l:=0) (m:=0)) ?_;rintro e V5 ⟨rfl,hv5⟩;have b5:=zst b4 hv5;refine⟨⟨by decide,by decide,rfl⟩,zF.enc (ldI 1 1 0)++zF.enc (ldI 0 0 0),by kernel_rfl,?_⟩;obtain⟨V6,e6⟩:=nm (V5.alloc (.cells (zF.enc (ldI 1 1 0)++zF.enc (ldI 0 0 0)).toArray 55));have hv6:Bw V5 V6:=by rw [e6];exact (zba _ _)
  have f6:V6.heap[V5.heap.size]?=some (.cells (zF.enc (ldI 1 1 0)++zF.enc (ldI 0 0 0)).toArray 55 (0,0)):=by rw [e6];exact zw _ _
  rw [<- e6];have b6:=zst b5 hv6;refine cmo (zmH (la:=[stI 0 1 0,stI 1 1 0]) (lb:=[ldI 1 1 0,ldI 0 0 0]) (zc0 (zb hv6 (zb hv5 (zb hv4 (f3)))) (l:=[stI 0 1 0,stI 1 1 0]) rfl) (zc0 (f6) (l:=[ldI 1 1 0,ldI 0 0 0]) rfl) (JR rfl) (JR rfl) (fun a h=>by cases h;exact hlt (zb hv6 (zb hv5 (zb hv4 (f3))))) (fun a h=>by cases h;exact hlt (f6))) ?_;rintro e V7 ⟨⟨vs,rfl,hP⟩,hv7⟩;have b7:=zst b6 hv7;refine cmo (zgH (p:=mpP) (V:=[0,1]) (a:=0) (b:=0) (UV _) hP (hG.below b7) zu0 ztv) ?_;rintro e V8 ⟨⟨xs,q,c,rfl,h1,h2,h3⟩,hv8⟩;have b8:=zst b7 hv8;have bt:Bw W1 V8:=by
   have c1:=hv1;have c2:=zst c1 hv2;have c3:=zst c2 hv3;have c4:=zst c3 hv4;have c5:=zst c4 hv5;have c6:=zst c5 hv6;have c7:=zst c6 hv7;have c8:=zst c7 hv8;exact c8
  exact⟨(xs,q,c),(cvE rfl rfl),⟨h1,h2,h3⟩,g1.below bt,b8⟩
 rintro s2 W2 ⟨g2,g1,hb2⟩;refine⟨List zb0×OA×Nat,fun s=>⟨[(1,.slice s1.2.1 s1.1.length s1.2.2),(2,.slice s2.2.1 s2.1.length s2.2.2),(3,.slice s.2.1 s.1.length s.2.2)],[]⟩,fun s X=>FndV X raF s.1 s.2.1/\FndV X sbF s1.1 s1.2.1/\FndV X mpF s2.1 s2.2.1/\Bw w X,?_,?_⟩
 ·have b0:=hb2;refine cmo (zlM (l:=0) (v:=1) (m:=0)) ?_;rintro e V1 ⟨rfl,hv1⟩;have b1:=zst b0 hv1;refine cmo (zlM (l:=1) (v:=1) (m:=2)) ?_;rintro e V2 ⟨rfl,hv2⟩;have b2:=zst b1 hv2;refine⟨⟨by decide,by decide,rfl⟩,zF.enc (stI 0 1 0)++zF.enc (stI 1 1 2),by kernel_rfl,?_⟩;obtain⟨V3,e3⟩:=nm (V2.alloc (.cells (zF.enc (stI 0 1 0)++zF.enc (stI 1 1 2)).toArray 55));have hv3:Bw V2 V3:=by rw [e3];exact (zba _ _)
  have f3:V3.heap[V2.heap.size]?=some (.cells (zF.enc (stI 0 1 0)++zF.enc (stI 1 1 2)).toArray 55 (0,0)):=by rw [e3];exact zw _ _
  rw [<- e3];have b3:=zst b2 hv3;refine cmo (zl9 (d:=1) (l:=1) (m:=1)) ?_;rintro e V4 ⟨rfl,hv4⟩;have b4:=zst b3 hv4;refine cmo (zl9 (d:=0) (l:=0) (m:=0)) ?_;rintro e V5 ⟨rfl,hv5⟩;have b5:=zst b4 hv5;refine⟨⟨by decide,by decide,rfl⟩,zF.enc (ldI 1 1 1)++zF.enc (ldI 0 0 0),by kernel_rfl,?_⟩;obtain⟨V6,e6⟩:=nm (V5.alloc (.cells (zF.enc (ldI 1 1 1)++zF.enc (ldI 0 0 0)).toArray 55));have hv6:Bw V5 V6:=by rw [e6];exact (zba _ _)
  have f6:V6.heap[V5.heap.size]?=some (.cells (zF.enc (ldI 1 1 1)++zF.enc (ldI 0 0 0)).toArray 55 (0,0)):=by rw [e6];exact zw _ _
  rw [<- e6];have b6:=zst b5 hv6;refine cmo (zmH (la:=[stI 0 1 0,stI 1 1 2]) (lb:=[ldI 1 1 1,ldI 0 0 0]) (zc0 (zb hv6 (zb hv5 (zb hv4 (f3)))) (l:=[stI 0 1 0,stI 1 1 2]) rfl) (zc0 (f6) (l:=[ldI 1 1 1,ldI 0 0 0]) rfl) (JR rfl) (JR rfl) (fun a h=>by cases h;exact hlt (zb hv6 (zb hv5 (zb hv4 (f3))))) (fun a h=>by cases h;exact hlt (f6))) ?_;rintro e V7 ⟨⟨vs,rfl,hP⟩,hv7⟩;have b7:=zst b6 hv7;refine cmo (zgH (p:=raP) (V:=[0,1]) (a:=0) (b:=0) (UV _) hP (hG.below b7) zuW ztg) ?_;rintro e V8 ⟨⟨xs,q,c,rfl,h1,h2,h3⟩,hv8⟩;have b8:=zst b7 hv8;have bt:Bw W2 V8:=by
   have c1:=hv1;have c2:=zst c1 hv2;have c3:=zst c2 hv3;have c4:=zst c3 hv4;have c5:=zst c4 hv5;have c6:=zst c5 hv6;have c7:=zst c6 hv7;have c8:=zst c7 hv8;exact c8
  exact⟨(xs,q,c),(cvE rfl rfl),⟨h1,h2,h3⟩,g1.below bt,g2.below bt,b8⟩
 rintro s3 W3 ⟨g3,g1,g2,hb3⟩;refine⟨List zb0×OA×Nat,fun s=>⟨[(1,.slice s1.2.1 s1.1.length s1.2.2),(2,.slice s2.2.1 s2.1.length s2.2.2),(3,.slice s3.2.1 s3.1.length s3.2.2),(4,.slice s.2.1 s.1.length s.2.2)],[]⟩,fun s X=>FndV X coF s.1 s.2.1/\FndV X sbF s1.1 s1.2.1/\FndV X mpF s2.1 s2.2.1/\FndV X raF s3.1 s3.2.1/\Bw w X,?_,?_⟩
 ·have b0:=hb3;refine cmo (zlM (l:=0) (v:=1) (m:=0)) ?_;rintro e V1 ⟨rfl,hv1⟩;have b1:=zst b0 hv1;refine cmo (zl9 (d:=0) (l:=0) (m:=0)) ?_;rintro e V2 ⟨rfl,hv2⟩;have b2:=zst b1 hv2;refine⟨⟨by decide,by decide,rfl⟩,zF.enc (stI 0 1 0)++zF.enc (ldI 0 0 0),by kernel_rfl,?_⟩;obtain⟨V3,e3⟩:=nm (V2.alloc (.cells (zF.enc (stI 0 1 0)++zF.enc (ldI 0 0 0)).toArray 55));have hv3:Bw V2 V3:=by rw [e3];exact (zba _ _)
  have f3:V3.heap[V2.heap.size]?=some (.cells (zF.enc (stI 0 1 0)++zF.enc (ldI 0 0 0)).toArray 55 (0,0)):=by rw [e3];exact zw _ _
  rw [<- e3];have b3:=zst b2 hv3;refine cmo (zmH (la:=[stI 0 1 0,ldI 0 0 0]) (lb:=[]) (zc0 (f3) (l:=[stI 0 1 0,ldI 0 0 0]) rfl) (.inl rfl) (JR rfl) (JR rfl) (fun a h=>by cases h;exact hlt (f3)) (fun a h=>by cases h)) ?_;rintro e V4 ⟨⟨vs,rfl,hP⟩,hv4⟩;have b4:=zst b3 hv4;refine cmo (zgH (p:=coP) (V:=[0,1]) (a:=0) (b:=0) (UV _) hP (hG.below b4) zva ztW) ?_;rintro e V5 ⟨⟨xs,q,c,rfl,h1,h2,h3⟩,hv5⟩;have b5:=zst b4 hv5;have bt:Bw W3 V5:=by
   have c1:=hv1;have c2:=zst c1 hv2;have c3:=zst c2 hv3;have c4:=zst c3 hv4;have c5:=zst c4 hv5;exact c5
  exact⟨(xs,q,c),(cvE rfl rfl),⟨h1,h2,h3⟩,g1.below bt,g2.below bt,g3.below bt,b5⟩
 rintro s4 W4 ⟨g4,g1,g2,g3,hb4⟩;obtain⟨l1,n1,o1,y1,q1,d1,at1,v1,say1,_⟩:=g1.at zrc (by decide);obtain⟨l2,n2,o2,y2,q2,d2,at2,v2,say2,r2⟩:=g2.at zry (by decide);obtain⟨l3,n3,o3,y3,q3,d3,at3,v3,say3,r3⟩:=g3.at zro (by decide);obtain⟨l4,n4,o4,y4,q4,d4,at4,v4,say4,_⟩:=g4.at zsj (by decide);have hTW:=hG.t64.below hb4;have rg2:y2.1.regs 9=1:=by rw [r2];exact ztu
 have rg3:y3.1.regs 9=1:=by rw [r3];exact ztf
 have i2:1<s2.1.length:=by omega
 have i3:1<s3.1.length:=by omega
 have i1:0<s1.1.length:=by omega
 have i4:0<s4.1.length:=by omega
 obtain⟨xs1,p1,c1⟩:=s1;obtain⟨xs2,p2,c2⟩:=s2;obtain⟨xs3,p3,c3⟩:=s3;obtain⟨xs4,p4,c4⟩:=s4;dsimp only at l1 l2 l3 l4 i1 i2 i3 i4 q1 q2 q3 q4 ⊢;subst q1 q2 q3 q4;have no:∀ {n m:Nat},n=m->(!decide ((n:Int)=(m:Int)))=false:=fun {n m} h=>by rw [h,Uq rfl];rfl
 refine⟨Unit,fun _=>⟨[(1,.slice (some ⟨n1,o1,none⟩) xs1.length c1),(2,.slice (some ⟨n2,o2,none⟩) xs2.length c2),(3,.slice (some ⟨n3,o3,none⟩) xs3.length c3),(4,.slice (some ⟨n4,o4,none⟩) xs4.length c4)],[]⟩,fun _ X=>W4=X,?_,?_⟩
 ·exact brN (no (m:=1) l1) (brN (no (m:=2) l2) (brN (no (m:=2) l3) (brN (no (m:=1) l4) ⟨(),(cvE rfl rfl),rfl⟩)))
 rintro _ _ rfl;obtain⟨X0,hX0⟩:∃ X0:Value,X0 = .agg (zbq).toArray:=⟨_,rfl⟩;refine⟨Nat×Nat,fun s=>⟨[(1,.slice (some ⟨n1,o1,none⟩) xs1.length c1),(4,.slice (some ⟨n4,o4,none⟩) xs4.length c4),(5,At0 s.1),(6,At0 s.2)],[]⟩,fun s X=>ExH X s.1 y2.1 y2.2.1 y2.2.2/\ExH X s.2 y3.1 y3.2.1 y3.2.2/\Bw W4 X,?_,?_⟩
 ·have dW:Bw W4 W4.drew:=(Ga _ _).drew;have zex:Obj.cells (zbq).toArray 46=Obj.cells (zbq).toArray 46:=rfl;have two:∀ {W:Wd},Bw W4 W->Bw W4 ((W.alloc (.cells (zbq).toArray 46)).alloc (.cells (zbq).toArray 46))/\((W.alloc (.cells (zbq).toArray 46)).alloc (.cells (zbq).toArray 46)).heap[W.heap.size]?=some (.cells (zbq).toArray 46 (0,0))/\((W.alloc (.cells (zbq).toArray 46)).alloc (.cells (zbq).toArray 46)).heap[(W.alloc (.cells (zbq).toArray 46)).heap.size]?=some (.cells (zbq).toArray 46 (0,0))/\W.heap.size<(W.alloc (.cells (zbq).toArray 46)).heap.size:=fun {W} hW=>by
   have b1:=hW.alloc hW.size (.cells (zbq).toArray 46);exact⟨b1.alloc b1.size _,qM _ (zw W _),zw _ _,by rw [wz];omega⟩
  have s8:∀ {W:Wd} {bx bv:Nat},Bw W4 W->W.heap[bx]?=some (.cells (zbq).toArray 46 (0,0))->W.heap[bv]?=some (.cells (zbq).toArray 46 (0,0))->bx≠bv->W4.heap.size<=bx->∀ {K:Wd->Prop},(∀ D,(Bw W4 D/\ExH D bx y2.1 y2.2.1 y2.2.2/\D.heap[bv]?=some (.cells (zbq).toArray 46 (0,0)))->K D)->SatR ((storeVar 46 ⟨bx,0,none⟩ (.agg (exC y2.1 y2.2.1 y2.2.2).toArray)).run PG W) fun _ w'=>K w':=fun {W bx bv} hW fx fy hne hx {K} k =>
   zt (v := .agg (exC y2.1 y2.2.1 y2.2.2).toArray) k46 fx (zC _ _ _) jD (za3 _ _ _) (k _ ⟨zl hW hx _,zn fx,(zp (fun e=>hne e.symm)).trans fy⟩)
  have s9:∀ {W:Wd} {bx bv:Nat},(Bw W4 W/\ExH W bx y2.1 y2.2.1 y2.2.2/\W.heap[bv]?=some (.cells (zbq).toArray 46 (0,0)))->bx≠bv->W4.heap.size<=bv->∀ {K:Wd->Prop},(∀ D,(ExH D bx y2.1 y2.2.1 y2.2.2/\ExH D bv y3.1 y3.2.1 y3.2.2/\Bw W4 D)->K D)->SatR ((storeVar 46 ⟨bv,0,none⟩ (.agg (exC y3.1 y3.2.1 y3.2.2).toArray)).run PG W) fun _ w'=>K w':=fun {W bx bv} h hne hx {K} k =>
   zt (v := .agg (exC y3.1 y3.2.1 y3.2.2).toArray) k46 h.2.2 (zC _ _ _) jD (za3 _ _ _) (k _ ⟨(zp hne).trans h.2.1,zn h.2.2,zl h.1 hx _⟩)
  have hba:∀ (A:Wd) (o:Obj),Bw A (A.alloc o):=fun A o=>(zba _ _);refine DrawE.treeR [8,9] (.op 0 (.op 1 (.op 2 (.op 3 (.op 4 (.alt (.op 6 (.alt (.op 7 (.alt (.op 8 (.op 5 (.op 9 .nil))) (.op 5 (.op 8 (.op 9 .nil))))) (.op 5 (.op 7 (.op 8 (.op 9 .nil)))))) (.alt (.op 7 (.alt (.op 6 (.alt (.op 8 (.op 5 (.op 9 .nil))) (.op 5 (.op 8 (.op 9 .nil))))) (.op 5 (.op 6 (.op 8 (.op 9 .nil)))))) (.op 5 (.alt (.op 6 (.op 7 (.op 8 (.op 9 .nil)))) (.op 7 (.op 6 (.op 8 (.op 9 .nil))))))))))))) (by kernel_rfl) ⟨1,rfl,i2,exC y2.1 y2.2.1 y2.2.2,zC _ _ _,zU dW d2 at2,d2,1,rfl,i3,?_⟩;obtain⟨U,hU⟩:=nm (W4.drew);have bU:Bw W4 U:=by rw [hU];exact dW
  obtain⟨t1,t2,t3,t4⟩:=two bU;have sU:=bU.size;rw [<- hU];refine Gf ?_ ?_
  ·refine⟨hba _ _,Gf ?_ ?_⟩
   ·refine⟨hba _ _,Gf ?_ ?_⟩
    ·exact s8 t1 t2 t3 (by omega) (by omega) fun D hD=>⟨exC y3.1 y3.2.1 y3.2.2,zC _ _ _,zU hD.1 d3 at3,nL d3 (Below.size hD.1),s9 hD (by omega) (by omega) fun F hF=>⟨(_,_),(cvE rfl rfl),hF⟩⟩
    ·exact⟨exC y3.1 y3.2.1 y3.2.2,zC _ _ _,zU t1 d3 at3,nL d3 (Below.size t1),s8 t1 t2 t3 (by omega) (by omega) fun D hD=>s9 hD (by omega) (by omega) fun F hF=>⟨(_,_),(cvE rfl rfl),hF⟩⟩
   ·exact⟨exC y3.1 y3.2.1 y3.2.2,zC _ _ _,zU (bU.alloc sU _) d3 at3,nL d3 (Below.size (bU.alloc sU _)),hba _ _,s8 t1 t2 t3 (by omega) (by omega) fun D hD=>s9 hD (by omega) (by omega) fun F hF=>⟨(_,_),(cvE rfl rfl),hF⟩⟩
  ·refine Gf ?_ ?_
   ·refine⟨hba _ _,Gf ?_ ?_⟩
    ·refine⟨hba _ _,Gf ?_ ?_⟩
     ·exact s8 t1 t3 t2 (by omega) (by omega) fun D hD=>⟨exC y3.1 y3.2.1 y3.2.2,zC _ _ _,zU hD.1 d3 at3,nL d3 (Below.size hD.1),s9 hD (by omega) (by omega) fun F hF=>⟨(_,_),(cvE rfl rfl),hF⟩⟩
     ·exact⟨exC y3.1 y3.2.1 y3.2.2,zC _ _ _,zU t1 d3 at3,nL d3 (Below.size t1),s8 t1 t3 t2 (by omega) (by omega) fun D hD=>s9 hD (by omega) (by omega) fun F hF=>⟨(_,_),(cvE rfl rfl),hF⟩⟩
    ·exact⟨exC y3.1 y3.2.1 y3.2.2,zC _ _ _,zU (bU.alloc sU _) d3 at3,nL d3 (Below.size (bU.alloc sU _)),hba _ _,s8 t1 t3 t2 (by omega) (by omega) fun D hD=>s9 hD (by omega) (by omega) fun F hF=>⟨(_,_),(cvE rfl rfl),hF⟩⟩
   ·refine⟨exC y3.1 y3.2.1 y3.2.2,zC _ _ _,zU bU d3 at3,nL d3 (Below.size bU),Gf ?_ ?_⟩
    ·exact⟨hba _ _,hba _ _,s8 t1 t2 t3 (by omega) (by omega) fun D hD=>s9 hD (by omega) (by omega) fun F hF=>⟨(_,_),(cvE rfl rfl),hF⟩⟩
    ·exact⟨hba _ _,hba _ _,s8 t1 t3 t2 (by omega) (by omega) fun D hD=>s9 hD (by omega) (by omega) fun F hF=>⟨(_,_),(cvE rfl rfl),hF⟩⟩
 rintro⟨bx,bv⟩ X ⟨fx,fv,hbX⟩;dsimp only at fx fv ⊢;have bw:=zst hb4 hbX;have ex9:(exC y2.1 y2.2.1 y2.2.2)[304]?=some (u8 (y2.1.regs 9)):=zgI y2.1 y2.2.1 y2.2.2 (i:=9) (by decide);have ev9:(exC y3.1 y3.2.1 y3.2.2)[304]?=some (u8 (y3.1.regs 9)):=zgI y3.1 y3.2.1 y3.2.2 (i:=9) (by decide);have one:∀ {r:UInt8},r=1->decide ((r.toNat:Int)=1)=true:=fun h=>by rw [h];rfl
 refine⟨1,rfl,by decide,?_⟩;refine⟨1,rfl,by decide,?_⟩;refine⟨u8 (y2.1.regs 9),zc (za fx) ex9,brE (one rg2) ⟨1,rfl,by decide,?_⟩⟩;refine⟨1,rfl,by decide,?_⟩;refine⟨u8 (y3.1.regs 9),zc (za fv) ev9,brE (one rg3) ⟨0,rfl,i1,exC y1.1 y1.2.1 y1.2.2,zC _ _ _,zU hbX d1 at1,nL d1 (Below.size hbX),⟨by decide,by decide,rfl⟩,[u8 0,u8 3,u8 0,u8 0,u8 0,u8 0],rfl,?_⟩⟩;obtain⟨T0,eT0⟩:∃ T,T=X.alloc (.cells ([u8 0,u8 3,u8 0,u8 0,u8 0,u8 0]:List Value).toArray 5):=⟨_,rfl⟩;have ba0:Bw X T0:=by rw [eT0];exact (zba _ _)
 have fa0:T0.heap[X.heap.size]?=some (.cells ([u8 0,u8 3,u8 0,u8 0,u8 0,u8 0]:List Value).toArray 5 (0,0)):=by rw [eT0];exact zw _ _
 rw [<- eT0];have bt0:=zst hbX ba0;refine cmo (zjo (ws:=[0,3,0,0,0,0]) (v1.below bt0) (hTW.below bt0) (SlR.of_cells (hlt fa0) (by exact za fa0)) say1 (by decide)) ?_;rintro e Z1 ⟨rfl,hz1⟩;have bz1:=zst bt0 hz1;have k1:=zst ba0 hz1;refine brT ⟨exC y2.1 y2.2.1 y2.2.2,zC _ _ _,za (zb k1 fx),hlt (zb k1 fx),⟨by decide,by decide,rfl⟩,[u8 0,u8 3,u8 3,u8 0,u8 0,u8 0],rfl,?_⟩;obtain⟨T1,eT1⟩:∃ T,T=Z1.alloc (.cells ([u8 0,u8 3,u8 3,u8 0,u8 0,u8 0]:List Value).toArray 5):=⟨_,rfl⟩;have ba1:Bw Z1 T1:=by rw [eT1];exact (zba _ _)
 have fa1:T1.heap[Z1.heap.size]?=some (.cells ([u8 0,u8 3,u8 3,u8 0,u8 0,u8 0]:List Value).toArray 5 (0,0)):=by rw [eT1];exact zw _ _
 rw [<- eT1];have bt1:=zst bz1 ba1;refine cmo (zjo (ws:=[0,3,3,0,0,0]) (v2.below bt1) (hTW.below bt1) (SlR.of_cells (hlt fa1) (by exact za fa1)) say2 (by decide)) ?_;rintro e Z2 ⟨rfl,hz2⟩;have bz2:=zst bt1 hz2;have k2:=((zst k1 ba1)).trans (hz2.mono (by have:=k1.size;have:=ba1.size;omega));refine brT ⟨exC y3.1 y3.2.1 y3.2.2,zC _ _ _,za (zb k2 fv),hlt (zb k2 fv),⟨by decide,by decide,rfl⟩,[u8 0,u8 3,u8 3,u8 0,u8 3,u8 0],rfl,?_⟩;obtain⟨T2,eT2⟩:∃ T,T=Z2.alloc (.cells ([u8 0,u8 3,u8 3,u8 0,u8 3,u8 0]:List Value).toArray 5):=⟨_,rfl⟩;have ba2:Bw Z2 T2:=by rw [eT2];exact (zba _ _)
 have fa2:T2.heap[Z2.heap.size]?=some (.cells ([u8 0,u8 3,u8 3,u8 0,u8 3,u8 0]:List Value).toArray 5 (0,0)):=by rw [eT2];exact zw _ _
 rw [<- eT2];have bt2:=zst bz2 ba2;refine cmo (zjo (ws:=[0,3,3,0,3,0]) (v3.below bt2) (hTW.below bt2) (SlR.of_cells (hlt fa2) (by exact za fa2)) say3 (by decide)) ?_;rintro e Z3 ⟨rfl,hz3⟩;have bz3:=zst bt2 hz3;have k3:=((zst k2 ba2)).trans (hz3.mono (by have:=k2.size;have:=ba2.size;omega));refine brT ⟨0,rfl,i4,exC y4.1 y4.2.1 y4.2.2,zC _ _ _,zU bz3 d4 at4,nL d4 (Below.size bz3),⟨by decide,by decide,rfl⟩,[u8 1,u8 1,u8 1,u8 1,u8 1,u8 1],rfl,?_⟩;obtain⟨T3,eT3⟩:∃ T,T=Z3.alloc (.cells ([u8 1,u8 1,u8 1,u8 1,u8 1,u8 1]:List Value).toArray 5):=⟨_,rfl⟩;have ba3:Bw Z3 T3:=by rw [eT3];exact (zba _ _)
 have fa3:T3.heap[Z3.heap.size]?=some (.cells ([u8 1,u8 1,u8 1,u8 1,u8 1,u8 1]:List Value).toArray 5 (0,0)):=by rw [eT3];exact zw _ _
 rw [<- eT3];have bt3:=zst bz3 ba3;refine cmo (zjo (ws:=[1,1,1,1,1,1]) (v4.below bt3) (hTW.below bt3) (SlR.of_cells (hlt fa3) (by exact za fa3)) say4 (by decide)) ?_;rintro e Z4 ⟨rfl,hz4⟩;have bz4:=zst bt3 hz4;have k4:=((zst k3 ba3)).trans (hz4.mono (by have:=k3.size;have:=ba3.size;omega));exact⟨rfl,(zst hb4 bz4)⟩
end Go.Proofs.YtkpaomeeknegpaaGreatDoor
namespace Go.Vc
open Go.RowKit
end Go.Vc
namespace Go.Proofs.YtkpaomeeknegpaaGreatDoor
open Go.Vc Go.RowKit Go.Sei
theorem zpX {p:Prg} {V:List UInt8} {most:Nat} (hO:OkG p) (hc:zcr p V most) (hm:most<=20000) {x:ExD} (hx:x∈qi p V) {w:Wd} {q:OA} (he:SlR evE w q x.ev):ExW w x q/\jm x=true:=by
 have hg:=zmt hO hc hm hx;have hI:=(zsp hO hx).ok;obtain⟨took,m,hC,_,hx2,_⟩:=zeG hO hx;obtain⟨_,ds,hd,rfl⟩:=zdI hx2;exact⟨⟨he,hg.n,fun l=>by have:=hg.w8 l;omega,hI.po.w,hI.rf.w,hI.co.w,hI.dt.w,hI.ct.w,hI.rm.w⟩,hC.right hd⟩
end Go.Proofs.YtkpaomeeknegpaaGreatDoor
