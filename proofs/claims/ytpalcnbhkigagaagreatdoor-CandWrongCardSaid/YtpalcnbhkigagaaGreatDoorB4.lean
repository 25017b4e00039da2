/- Contracts of functions, and plain facts, for the law that the last text of this claim proves. -/
import Derived.Test.YtpalcnbhkigagaaGreatDoorB3
import Derived.Test.YtpalcnbhkigagaaGreatDoorB2
import Derived.Test.YtpalcnbhkigagaaGreatDoorB1
import Derived.Lib.AppendZerosOnto
import Derived.Laws.OwnMore
set_option linter.unusedSimpArgs false
set_option linter.unusedVariables false
namespace Go.Proofs.YtpalcnbhkigagaaGreatDoor
open Go.Vc Go.RowKit Go.Sei
open Go.Sort (swp PermIn SortedIn permIn_refl permIn_trans)
section
variable {g cap L:Nat} {sp:List Value}
theorem zpV (hl:L<=60000):∀ (m a0 b0:Nat) (lim0:Int) (d0:Array UInt8) (w:Wd),b0-a0<=m->RB w g sp d0->d0.size=L->a0<=b0->b0<=L->Go.Sort.Below lt8 a0 b0 d0 ->
  Calls PG 102 #[.slice (some ⟨g,0,none⟩) L cap,i64 a0,i64 b0,.int .i64 lim0] w fun e w'=>e = .returned (.tuple #[])/\∃ d',PermIn a0 b0 d0 d'/\SortedIn lt8 a0 b0 d'/\RB w' g sp d'/\w.grownBy w' (some g):=by
 intro m
 induction m using Nat.strongRecOn with
 | _ m ih =>
 intro a0 b0 lim0 d0 w hm hr hL hab0 hb0 hB0;refine qP 134 [.slice (some ⟨g,0,none⟩) L cap,i64 a0,i64 b0,.int .i64 lim0] (.s .p (.s .p (.b (.l (.b (.c .p (.s .p (.s .p (.c .p (.s .p (.c .p (.c .p (.c .p .p))))))))))))) Tryz.func102 ?_;refine⟨Nat×Nat×Int×Bool×Bool×Array UInt8,fun t=>⟨[(0,.slice (some ⟨g,0,none⟩) L cap),(1,i64 (t.1:Nat)),(2,i64 (t.2.1:Nat)),(3,.int .i64 t.2.2.1),(8,.bool t.2.2.2.1),(9,.bool t.2.2.2.2.1)],[]⟩,
  fun t X=>(t.1<=t.2.1/\t.2.1<=L/\t.2.1-t.1<=m)/\t.2.2.2.2.2.size=L/\Go.Sort.Below lt8 t.1 t.2.1 t.2.2.2.2.2/\(∀ R,PermIn t.1 t.2.1 t.2.2.2.2.2 R->SortedIn lt8 t.1 t.2.1 R->PermIn a0 b0 d0 R/\SortedIn lt8 a0 b0 R)/\RB X g sp t.2.2.2.2.2/\w.grownBy X (some g),fun t=>t.2.1-t.1,(a0,b0,lim0,true,true,d0),
  (cvE rfl rfl),⟨⟨hab0,hb0,hm⟩,hL,hB0,fun R h1 h2=>⟨h1,h2⟩,hr,zV _ _⟩,?_⟩
 rintro⟨a,b,lim,wb,wp,d⟩ X ⟨⟨hab,hb,hbm⟩,hz,hB,hC,rX,gX⟩;dsimp only at hab hb hbm hz hB hC rX gX;have fin:∀ Z R,PermIn a b d R->SortedIn lt8 a b R->RB Z g sp R->w.grownBy Z (some g)->∃ d',PermIn a0 b0 d0 d'/\SortedIn lt8 a0 b0 d'/\RB Z g sp d'/\w.grownBy Z (some g):=fun Z R h1 h2 q gz=>⟨R,(hC R h1 h2).1,(hC R h1 h2).2,q,gz⟩;refine⟨Unit,fun _=>⟨[(0,.slice (some ⟨g,0,none⟩) L cap),(1,i64 (a:Nat)),(2,i64 (b:Nat)),(3,.int .i64 lim),(8,.bool wb),(9,.bool wp),(10,i64 (b-a:Nat))],[]⟩,fun _ Y=>X=Y,?_,?_⟩
 ·exact⟨((b-a:Nat):Int),(ze (by first | omega | (dsimp only;omega))).trans (by first | omega | (dsimp only;omega)),(),(cvE rfl rfl),rfl⟩
 rintro _ _ rfl;refine biE (fun h12=>?_) fun h12=>?_
 ·have h12:((b-a:Nat):Int)<=12:=dT h12;refine cmo (zqa rX hz hab hb (by omega)) ?_;rintro e Y ⟨rfl,rY,gY⟩;obtain⟨p1,p2⟩:=Go.Sort.insertionSort_holds zmD d a b hab (by omega);exact⟨rfl,fin Y _ p1 p2 rY (zd gX gY)⟩
 have h12:¬ ((b-a:Nat):Int)<=12:=dF h12;have hlen:12<b-a:=by omega
 refine biE (fun h0=>?_) fun h0=>?_
 ·refine cmo (zoI rX hz (by omega) hb (by omega)) ?_;rintro e Y ⟨rfl,rY,gY⟩;obtain⟨p1,p2⟩:=Go.Sort.heapSort_holds zmD d a b hab (by omega);exact⟨rfl,fin Y _ p1 p2 rY (zd gX gY)⟩
 clear h0;refine⟨Int×Array UInt8,fun t=>⟨[(0,.slice (some ⟨g,0,none⟩) L cap),(1,i64 (a:Nat)),(2,i64 (b:Nat)),(3,.int .i64 t.1),(8,.bool wb),(9,.bool wp),(10,i64 (b-a:Nat))],[]⟩,fun t Y=>PermIn a b d t.2/\RB Y g sp t.2/\w.grownBy Y (some g),?_,?_⟩
 ·refine biE (fun h=>?_) fun h=>?_
  ·refine cmo (zpi rX hz (by omega) hb hl) ?_;rintro e Y ⟨rfl,⟨d1,p1,rY⟩,gY⟩;exact⟨_,rfl,(IntKind.i64.wrap (lim-1),d1),(cvE rfl rfl),p1,rY,zd gX gY⟩
  ·exact⟨(lim,d),(cvE rfl rfl),permIn_refl _ _ _,rX,gX⟩
 rintro⟨lim1,d1⟩ Y ⟨p1,rY,gY⟩;dsimp only at p1 rY gY;have hz1:d1.size=L:=by rw [p1.1];exact hz
 refine cmo (zot rY hz1 (by omega) hb (by omega)) ?_;rintro e Z ⟨⟨pv,hint,rfl,hp1,hp2⟩,rZ,gZ⟩;have gwZ:=zd gY gZ;refine⟨Nat×Int×Array UInt8,fun t=>⟨[(0,.slice (some ⟨g,0,none⟩) L cap),(1,i64 (a:Nat)),(2,i64 (b:Nat)),(3,.int .i64 lim1),(8,.bool wb),(9,.bool wp),(10,i64 (b-a:Nat)),(11,i64 (t.1:Nat)),(12,.int .i64 t.2.1)],[]⟩,fun t V=>(a<=t.1/\t.1<b)/\PermIn a b d t.2.2/\RB V g sp t.2.2/\w.grownBy V (some g),?_,?_⟩
 ·refine biE (fun h=>?_) fun h=>?_
  ·refine cmo (zpR rZ hz1 (by omega) hb (by omega)) ?_;rintro e V ⟨rfl,rV,gV⟩;exact⟨((b-1:Nat):Int),(ze (by omega)).trans (by omega),((pv-a:Nat):Int),(ze (by omega)).trans (by omega),((b-1-(pv-a):Nat):Int),(ze (by omega)).trans (by omega),(b-1-(pv-a),1,Go.Sort.reverseRange d1 a b),(cvE rfl rfl),⟨by dsimp only;omega,by dsimp only;omega⟩,permIn_trans _ _ _ a b p1 (Go.Sort.reverseRange_holds d1 a b hab (by omega)),rV,zd gwZ gV⟩
  ·exact⟨(pv,hint,d1),(cvE rfl rfl),⟨hp1,hp2⟩,p1,rZ,gwZ⟩
 clear hp1 hp2 rZ gZ rY gY p1 hz1 gwZ;rintro⟨pv,hint,d2⟩ V ⟨⟨hp1,hp2⟩,p2,rV,gV⟩;dsimp only at hp1 hp2 p2 rV gV;have hz2:d2.size=L:=by rw [p2.1];exact hz
 have hB2:Go.Sort.Below lt8 a b d2:=hB.perm (by omega) p2;refine⟨Array UInt8,fun t=>⟨[(0,.slice (some ⟨g,0,none⟩) L cap),(1,i64 (a:Nat)),(2,i64 (b:Nat)),(3,.int .i64 lim1),(8,.bool wb),(9,.bool wp),(10,i64 (b-a:Nat)),(11,i64 (pv:Nat))],[]⟩,fun t U=>PermIn a b d t/\RB U g sp t/\w.grownBy U (some g),?_,?_⟩
 ·have skipped:∀ (E:Env),Cov E ⟨[(0,.slice (some ⟨g,0,none⟩) L cap),(1,i64 (a:Nat)),(2,i64 (b:Nat)),(3,.int .i64 lim1),(8,.bool wb),(9,.bool wp),(10,i64 (b-a:Nat)),(11,i64 (pv:Nat))],[]⟩->∃ s:Array UInt8,Cov E ⟨[(0,.slice (some ⟨g,0,none⟩) L cap),(1,i64 (a:Nat)),(2,i64 (b:Nat)),(3,.int .i64 lim1),(8,.bool wb),(9,.bool wp),(10,i64 (b-a:Nat)),(11,i64 (pv:Nat))],[]⟩/\PermIn a b d s/\RB V g sp s/\w.grownBy V (some g):=fun E hE=>⟨d2,hE,p2,rV,gV⟩
  cases wb with
  | false =>
   exact Gc (fun h=>by cases h) (fun _=>Gc (fun h=>by cases h) (fun _=>Gc (fun h=>by cases h) (fun _=>skipped _ (cvE rfl rfl))))
  | true =>
   refine Gc (fun _=>?_) (fun h=>by cases h)
   cases wp with
   | false =>
    exact Gc (fun h=>by cases h) (fun _=>Gc (fun h=>by cases h) (fun _=>skipped _ (cvE rfl rfl)))
   | true =>
    refine Gc (fun _=>biE (fun h=>?_) fun h=>?_) (fun h=>by cases h)
    ·refine cmo (zlL rV hz2 (by omega) hb (by omega)) ?_;rintro e U ⟨d3,ok,hpi,rfl,rU,gU⟩;have hpl:=Go.Sort.partialInsertionSort_holds zmD d2 a b (by omega) (by omega) hB2;rw [hpi] at hpl;have p3:=permIn_trans _ _ _ a b p2 hpl.1;refine biE (fun hok=>?_) fun hok=>?_
     ·have hok:ok=true:=hok;exact⟨rfl,fin U d3 p3 (hpl.2 hok) rU (zd gV gU)⟩
     ·exact⟨d3,(cvE rfl rfl),p3,rU,zd gV gU⟩
    ·exact skipped _ (cvE rfl rfl)
 clear p2 rV gV hz2 hB2;rintro d3 U ⟨p3,rU,gU⟩;have hz3:d3.size=L:=by rw [p3.1];exact hz
 have hB3:Go.Sort.Below lt8 a b d3:=hB.perm (by omega) p3;have rUd:RB U.drew g sp d3:=rU;have gUd:=zd gU (zr U g);have hxp:pv<d3.size:=by omega
 refine⟨Unit,fun _=>⟨[(0,.slice (some ⟨g,0,none⟩) L cap),(1,i64 (a:Nat)),(2,i64 (b:Nat)),(3,.int .i64 lim1),(8,.bool wb),(9,.bool wp),(10,i64 (b-a:Nat)),(11,i64 (pv:Nat))],[]⟩,fun _ T=>RB T g sp d3/\w.grownBy T (some g),?_,?_⟩
 ·refine DrawE.ord [] [0,1,2,3,4,5,6,7,8,9,10,11,12,13,14] (by kernel_rfl) (biE (fun h1=>?_) fun h1=>?_)
  ·have h1:(0:Int)<(a:Int):=dT h1;have hxa:a-1<d3.size:=by omega
   refine⟨((a-1:Nat):Int),(ze (by omega)).trans (by omega),a-1,rfl,by omega,?_⟩;refine⟨_,zn rUd hxa,pv,rfl,by omega,?_⟩;refine⟨_,zn rUd hxp,cmo jr ?_⟩;rintro e _ ⟨rfl,rfl⟩;refine⟨UX _ _,biE (fun h2=>?_) fun h2=>?_⟩
   ·have h2:(!lt8 d3[a-1]! d3[pv]!)=true:=h2;have h2:lt8 d3[a-1]! d3[pv]! = false:=(by simpa using h2);refine cmo (zm1 rUd hz3 hp1 hp2 hb (by omega)) ?_;rintro e T ⟨mid,d4,hpe,rfl,rT,gT⟩;obtain⟨q1,q2,q3,q4,q5⟩:=Go.Sort.round_eq zmD (Go.Sort.partitionEqual_holds lt8) (by omega) hp1 hp2 (by omega) hB3 h2 hpe;refine⟨(mid,b,lim1,wb,wp,d4),(cvE rfl rfl),⟨⟨q2,hb,by dsimp only;omega⟩,by dsimp only;omega,q4,fun R r1 r2=>?_,rT,zd gUd gT⟩,by dsimp only;omega⟩;obtain⟨s1,s2⟩:=q5 R r1 r2;exact hC R (permIn_trans _ _ _ a b p3 s1) s2
   ·exact⟨(),(cvE rfl rfl),rUd,gUd⟩
  ·exact Gc (fun h=>by cases h) (fun _=>⟨(),(cvE rfl rfl),rUd,gUd⟩)
 rintro _ T ⟨rT,gT⟩;refine cmo (zpZ rT hz3 hp1 hp2 hb (by omega)) ?_;rintro e S ⟨mid,ap,d4,hpt,rfl,rS,gS⟩;have gwS:=zd gT gS;obtain⟨q1,q2,q3,q4,q5,q6,q7⟩:=Go.Sort.round_part zmD (Go.Sort.partition_holds lt8) hp1 hp2 (by omega) hB3 hpt;have hz4:d4.size=L:=by omega
 refine⟨((mid-a:Nat):Int),(ze (by omega)).trans (by omega),((b-mid:Nat):Int),(ze (by omega)).trans (by omega),by decide,(((b-a)/8:Nat):Int),zhp (b-a) 8 (by omega),biE (fun hc=>?_) fun hc=>?_⟩
 ·refine cmo (ih (mid-a) (by omega) a mid lim1 d4 S (US _) rS hz4 q1 (by omega) q4) ?_;rintro e' Q ⟨rfl,d5,r1,r2,rQ,gQ⟩;obtain⟨hB5,hfin⟩:=q6 d5 r1 r2;refine nxI (by omega) ⟨(mid+1,b,lim1,decide ((((b-a)/8:Nat):Int)<=((mid-a:Nat):Int)),ap,d5),(cvE rfl rfl),⟨⟨by dsimp only;omega,hb,by dsimp only;omega⟩,by show d5.size=L;rw [r1.1];exact hz4,hB5,fun R s1 s2=>?_,rQ,zd gwS gQ⟩,by dsimp only;omega⟩;obtain⟨t1,t2⟩:=hfin R s1 s2;exact hC R (permIn_trans _ _ _ a b p3 t1) t2
 ·refine nxI (by omega) (cmo (ih (b-(mid+1)) (by omega) (mid+1) b lim1 d4 S (US _) rS hz4 (by omega) hb q5) ?_);rintro e' Q ⟨rfl,d5,r1,r2,rQ,gQ⟩;obtain⟨hB5,hfin⟩:=q7 d5 r1 r2;refine⟨(a,mid,lim1,decide ((((b-a)/8:Nat):Int)<=((b-mid:Nat):Int)),ap,d5),(cvE rfl rfl),⟨⟨q1,by dsimp only;omega,by dsimp only;omega⟩,by show d5.size=L;rw [r1.1];exact hz4,hB5,fun R s1 s2=>?_,rQ,zd gwS gQ⟩,by dsimp only;omega⟩;obtain⟨t1,t2⟩:=hfin R s1 s2;exact hC R (permIn_trans _ _ _ a b p3 t1) t2
end
end Go.Proofs.YtpalcnbhkigagaaGreatDoor
namespace Go.Proofs.YtpalcnbhkigagaaGreatDoor
open Go.Vc Go.RowKit Go.Sei
section
variable {g cap:Nat} {l:List UInt8} {w:Wd}
theorem zpn {sp:List Value} (hr:RowS zI 5 w g sp l) (hl:l.length<=60000) :
  Calls PG 73 #[.slice (some ⟨g,0,none⟩) l.length cap] w fun e w'=>e = .returned (.tuple #[])/\∃ l',l'.Perm l/\l'.Pairwise (fun x y=>x.toNat<=y.toNat)/\RowS zI 5 w' g sp l'/\w.grownBy w' (some g):=by
 refine zD 11 [.slice (some ⟨g,0,none⟩) l.length cap] Tryz.func73 ?_;refine⟨(l.length:Nat),j9 (by omega),cmo (znj (n:=l.length) (by omega)) ?_⟩;rintro e _ ⟨⟨m,rfl,h1,h2⟩,rfl⟩;have hs:l.toArray.size=l.length:=rfl;refine cmo (zpV (sp:=sp) (L:=l.length) (cap:=cap) hl l.length 0 l.length m l.toArray w (US _) hr hs (UV _) (US _) (.inl rfl)) ?_;rintro e X ⟨rfl,d',hp,hso,rX,gX⟩;refine⟨rfl,d'.toList,?_,?_,rX,gX⟩
 ·have:=hp.2.2;rw [<- hs] at this;have h3:(d'.extract 0 l.toArray.size)=d':=by rw [<- hp.1];simp
  rw [h3] at this;simpa using this
 ·refine List.pairwise_iff_getElem.2 fun i j hi hj hij=>?_;have hi':i<d'.size:=by simpa using hi
  have hj':j<d'.size:=by simpa using hj
  have hz:d'.size=l.length:=hp.1;have h4:=hso i j (UV _) hij (by omega);rw [getElem!_pos d' i hi',getElem!_pos d' j hj'] at h4;have h4:=dF h4;rw [Array.getElem_toList,Array.getElem_toList];omega
end
theorem zfx (v:UInt8):v∈zH:=by
 unfold zH;exact UG.2 ⟨v.toNat,Ul.2 v.toNat_lt,UInt8.ofNat_toNat⟩
theorem zbK {l:List UInt8} {v:UInt8}:v∈qI l↔v∈l:=by
 unfold qI;rw [QQ];constructor
 ·rintro⟨_,h⟩;obtain⟨x,hx,e⟩:=Qi.1 h;rw [<- dT e];exact hx
 ·exact fun h=>⟨zfx v,Qi.2 ⟨v,h,Up rfl⟩⟩
theorem zpm:zH.Pairwise (fun x y=>x.toNat<y.toNat):=by
 unfold zH;rw [List.pairwise_map];refine List.Pairwise.imp_of_mem ?_ (List.pairwise_lt_range (n:=256));intro a b ha hb h;rw [KF,KF,QA (Ul.1 ha),QA (Ul.1 hb)];exact h
theorem zfU (l:List UInt8):(qI l).Pairwise (fun x y=>x.toNat<y.toNat):=List.Pairwise.filter _ zpm
theorem zej:∀ (l:List UInt8) (p:UInt8),(∀ x∈l,p.toNat<=x.toNat)->l.Pairwise (fun x y=>x.toNat<=y.toNat)->(zan p l).Pairwise (fun x y=>x.toNat<y.toNat)/\(∀ x,x∈zan p l↔x∈l/\x≠p)/\∀ x∈zan p l,p.toNat<x.toNat
 | [],p,_,_=>⟨.nil,fun x=>by simp [zan],fun x h=>by cases h⟩
 | y::r,p,hp,hs=>by
  rw [List.pairwise_cons] at hs;by_cases h:y=p
  ·subst h;obtain⟨a,b,c⟩:=zej r y hs.1 hs.2;have e:zan y (y::r)=zan y r:=by show (if y=y then zan y r else y::zan y r)=_;rw [Gk rfl]
   rw [e];refine⟨a,fun x=>(b x).trans ⟨fun h=>⟨JV _ h.1,h.2⟩,fun h=>⟨(Uz.1 h.1).resolve_left h.2,h.2⟩⟩,c⟩
  ·obtain⟨a,b,c⟩:=zej r y hs.1 hs.2;have e:zan p (y::r)=y::zan y r:=by show (if y=p then zan p r else y::zan y r)=_;rw [Gj h]
   rw [e];have hpy:p.toNat<y.toNat:=by
    have h1:=hp y (Kx ..);have h2:y.toNat≠p.toNat:=fun e=>h (Ud.1 e);omega
   refine⟨List.pairwise_cons.2 ⟨c,a⟩,fun x=>?_,fun x hx=>?_⟩
   ·rw [Uz,b x,Uz];constructor
    ·rintro (rfl | ⟨h1,h2⟩)
     ·exact⟨.inl rfl,h⟩
     ·refine⟨.inr h1,fun e=>?_⟩;subst e;have:=hs.1 x h1;omega
    ·rintro⟨rfl | h1,h2⟩
     ·exact .inl rfl
     ·by_cases e:x=y
      ·exact .inl e
      ·exact .inr ⟨h1,e⟩
   ·rcases Uz.1 hx with rfl | hx
    ·exact hpy
    ·have:=c x hx;omega
theorem znF {l:List UInt8} (hs:l.Pairwise (fun x y=>x.toNat<=y.toNat)):(ded l).Pairwise (fun x y=>x.toNat<y.toNat)/\∀ x,x∈ded l↔x∈l:=by
 cases l with
 | nil=>exact⟨.nil,fun x=>Iff.rfl⟩
 | cons y r =>
  rw [List.pairwise_cons] at hs;obtain⟨a,b,c⟩:=zej r y hs.1 hs.2;refine⟨List.pairwise_cons.2 ⟨c,a⟩,fun x=>?_⟩;show x∈y::zan y r↔_;rw [Uz,b x,Uz];constructor
  ·rintro (h | h)
   ·exact .inl h
   ·exact .inr h.1
  ·rintro (h | h)
   ·exact .inl h
   ·by_cases e:x=y
    ·exact .inl e
    ·exact .inr ⟨h,e⟩
theorem zkg:∀ {a b:List UInt8},a.Pairwise (fun x y=>x.toNat<y.toNat)->b.Pairwise (fun x y=>x.toNat<y.toNat)->(∀ x,x∈a↔x∈b)->a=b
 | [],[],_,_,_=>rfl
 | [],y::b,_,_,h=>Gl ((h y).2 (Kx ..)) (by simp)
 | x::a,[],_,_,h=>Gl ((h x).1 (Kx ..)) (by simp)
 | x::a,y::b,ha,hb,h=>by
  rw [List.pairwise_cons] at ha hb;have e:x=y:=by
   rcases Uz.1 ((h x).1 (Kx ..)) with e | h1
   ·exact e
   ·rcases Uz.1 ((h y).2 (Kx ..)) with e | h2
    ·exact e.symm
    ·have:=hb.1 x h1;have:=ha.1 y h2;omega
  subst e;rw [zkg ha.2 hb.2 fun z=>?_];have hz:=h z;rw [Uz,Uz] at hz;constructor
  ·intro hza;rcases hz.1 (.inr hza) with e | h2
   ·subst e;have:=ha.1 z hza;omega
   ·exact h2
  ·intro hzb;rcases hz.2 (.inr hzb) with e | h2
   ·subst e;have:=hb.1 z hzb;omega
   ·exact h2
theorem zhJ {l:List UInt8} (h:l.Pairwise (fun x y=>x.toNat<y.toNat)):qI l=l:=zkg (zfU l) h fun _=>zbK
theorem zcN (l:List UInt8):(qI l).length<=256:=by
 refine UJ (JK ..) ?_;unfold zH;rw [QK,KT];exact US _
theorem zcu {p:OA} {cap:Nat} {l:List UInt8} {w:Wd} (hl:SlR zI w p l) (h1:1<=l.length) (hm:l.length<=60000) :
  Calls PG 41 #[.slice p l.length cap] w fun e w'=>(∃ q c,e = .returned (.slice q (qI l).length c)/\OwnS zI 5 w.heap.size w' q c (qI l))/\Bw w w':=by
 refine zD 9 [.slice p l.length cap] Tryz.func41 ?_;refine cmo (zjm hl (by omega) (fun e=>by subst e;have:=hl.none;subst this;simp at h1)) ?_;rintro e X ⟨⟨q,c,rfl,ho⟩,hbX⟩;rcases ho.inv with ⟨_,_,h0⟩ | ⟨g,cur,rfl,hB,hcur,hlc,hcm,hcs,hct⟩
 ·rw [h0] at h1;simp at h1
 have hcs:cur.size=c:=by rw [hcs];exact UT _
 obtain⟨sp,hsp⟩:=nm (cur.toList.drop l.length);have hct:cur.toList.take l.length=l.flatMap zI.enc:=by rw [<- hct];congr 1;exact (UT _).symm
 have hR:RowS zI 5 X g sp l:=by
  unfold RowS;rw [hcur,<- hct,hsp,JO]
 have hspl:l.length+sp.length=c:=by
  have h1:cur.toList.length=c:=by rw [Array.length_toList];exact hcs
  rw [hsp,Qr,h1];omega
 refine cmo (zpn hR hm) ?_;rintro e Y ⟨rfl,l',hp,hso,rY,gY⟩;have hlen:l'.length=l.length:=hp.length_eq;have oY:OwnS zI 5 w.heap.size Y (some ⟨g,0,none⟩) c l':=by
  unfold OwnS World.ownsRow;refine⟨by rw [z8],.inr ⟨g,c,_,rfl,hB,rY,by omega,hcm,?_,?_⟩⟩
  ·show (l'.flatMap zI.enc++sp).length=c*1;rw [lap,z8];show l'.length*1+_=_;omega
  ·exact QU (z8 l')
 have c3:=zkl oY (by omega);rw [hlen] at c3;refine cmo c3 ?_;rintro e Z ⟨rfl,oZ,gZ⟩;have hwX:=hbX.size;obtain⟨d1,d2⟩:=znF hso;have hd:ded l'=qI l:=zkg d1 (zfU l) fun x=>(d2 x).trans ((hp.mem_iff).trans zbK.symm);rw [hd] at oZ ⊢;exact⟨⟨_,_,rfl,oZ⟩,(hbX.trans (zh gY hwX hB)).trans (zh gZ (UJ hwX gY.size) hB)⟩
structure OkG (p:Prg):Prop where
 l1:1<=p.locs.length
 l6:p.locs.length<=6
 il:p.locs.length=p.init.length
 t1:1<=p.threads.length
 t4:p.threads.length<=4
 th:∀ l∈p.threads,z9 l 6=true
 tl:∀ l∈p.threads,z9 l p.locs.length=true
theorem OkG.i1 {p:Prg} (h:OkG p):1<=p.init.length:=by have:=h.l1;have:=h.il;omega
theorem OkG.i6 {p:Prg} (h:OkG p):p.init.length<=6:=by have:=h.l6;have:=h.il;omega
theorem zlY {x:InsD} {k k' n:Nat} (hk:k<=k') (h:zgf x k n=true):zgf x k' n=true:=by
 unfold zgf qs at h ⊢;simp only [Ux,List.all_nil,id_eq,Bool.and_true,bAT,dE,QE] at h ⊢;obtain⟨h1,h2,h3,h4,h5⟩:=h;exact⟨h1,h2,h3,h4.imp id (fun h=>nL h hk),h5⟩
theorem zhd {l:List InsD} {k k':Nat} (hk:k<=k') (h:z9 l k=true):z9 l k'=true:=by
 unfold z9 at h ⊢;rw [bAT,dE,Qh] at h ⊢;refine⟨h.1,fun i hi=>?_⟩;have:=h.2 i hi
 split at this
 ·exact zlY hk this
 ·rfl
theorem zdy {p:Prg} (h:za7 p=true):OkG p:=by
 unfold za7 at h;simp only [bAT] at h;obtain⟨_,h2,⟨h4a,h4b,h5⟩,h6,_,h8⟩:=h;unfold zcV at h2;simp only [bAT,dE] at h2 h4a h4b;have h7:=Qh.1 h6;exact⟨h2.1,h2.2.1,h2.2.2.1.symm,h4a,h4b,fun l hl=>zhd h2.2.1 (h7 l hl),h7⟩
def zep (threads:List (List InsD)):Nat->List UInt8->Option (List UInt8)
 | 0,_=>none
 | n+1,vals=>if 16<vals.length then none else if (threads.any fun l=>decide (4096<(qH l vals).length))=true then none else if (zaN threads vals).length=vals.length then some vals else zep threads n (zaN threads vals)
def zbS (p:Prg):Option (List UInt8):=zep p.threads 18 (qI p.init)
theorem zaw (l:List UInt8):qI (qI l)=qI l:=zhJ (zfU l)
theorem zgU {l:List UInt8} (h:1<=l.length):1<=(qI l).length:=by
 cases l with
 | nil=>simp at h
 | cons x r=>exact List.length_pos_of_mem (zbK.2 (Kx ..))
theorem zh0 (rs:List RunD):(jq rs).length<=256:=by
 refine UJ (JK ..) ?_;unfold zH;rw [QK,KT];exact US _
theorem zkW {α β:Type} {g:α->List β} (hg:∀ a,(g a).length<=256):∀ l:List α,(l.flatMap g).length<=256*l.length
 | []=>US _
 | a::l=>by
  rw [KQ,lap,Qq];have:=hg a;have:=zkW hg l;omega
theorem znD {a b:List UInt8} (h:∀ x,x∈a->x∈b):(qI a).length<=(qI b).length:=by
 unfold qI;rw [<- List.countP_eq_length_filter,<- List.countP_eq_length_filter];refine List.countP_mono_left fun x _ hx=>?_;obtain⟨y,hy,e⟩:=Qi.1 hx;exact Qi.2 ⟨y,h y hy,e⟩
theorem zgR (ths:List (List InsD)) {vals:List UInt8} (h:qI vals=vals):vals.length<=(zaN ths vals).length:=by
 unfold zaN
 conv=>lhs;rw [<- h]
 exact znD fun x hx=>JU _ hx
section
variable {B:Nat} {p:Prg} {pc:List Value} {w:Wd}
theorem zmj (hB:B<=w.heap.size) (hP:PrgX B w pc p) (hG:GlobE w) (hok:za7 p=true) :
  Calls PG 22 #[.agg pc.toArray,i64 16] w fun e w'=>((∃ (V:List UInt8) (q:OA) (c:Nat),zbS p=some V/\e = .returned (.tuple #[.slice q V.length c,i64 0])/\OwnS zI 5 w.heap.size w' q c V)\/(zbS p=none/\e = .returned (.tuple #[.slice none 0 0,i64 5])))/\Bw w w':=by
 have hOP:=zdy hok;have hi1:=hOP.i1;have hi6:=hOP.i6;refine qP 60 [.agg pc.toArray,i64 16] (.c .p (.s .p (.c .p .p))) Tryz.func22 ?_;obtain⟨L,hL⟩:=nm (w.heap.size);have hpc:=hP.v.size;have hthr:=hP.v.len.threads;refine⟨Unit,fun _=>⟨[(1,i64 16),(2,AtR L)],[]⟩,fun _ X=>X.heap[L]?=some (.cells pc.toArray 29 (0,0))/\Bw w X,⟨(),⟨.cons rfl (.cons (by rw [hL];rfl) .nil),rfl⟩,by rw [hL];exact zx w _,(zba w _)⟩,?_⟩;rintro _ X ⟨f0,hbX⟩;refine brF (brF ⟨pc,hpc,za f0,hlt f0,cmo (ze1 (UJ hB hbX.size) (hP.v.below (hbX.mono hB)) (hG.c.below hbX)) ?_⟩);rintro e Y ⟨m,rfl,hm,hbY⟩;have hm0:m=0:=hm.2 hok;subst hm0;refine brF ?_;have hwY:=zst hbX hbY;have f0:=zb hbY f0;obtain⟨_,⟨p3,c3,h3,xs,hxs,zdG,hxr⟩,⟨p2,c2,h2,hinit⟩⟩:=hP;refine⟨OA×Nat,fun s=>⟨[(1,i64 16),(2,AtR L),(6,.slice s.1 (qI p.init).length s.2)],[]⟩,fun s Z=>OwnS zI 5 w.heap.size Z s.1 s.2 (qI p.init)/\Z.heap[L]?=some (.cells pc.toArray 29 (0,0))/\Bw w Z,?_,?_⟩
 ·refine⟨_,zc (za f0) (i:=2) (by simpa using h2),cmo (zcu ((hinit.below (hwY.mono hB)).slr (UJ hB hwY.size)) hi1 (by omega)) ?_⟩;rintro e Z ⟨⟨q,c,rfl,ho⟩,hbZ⟩;exact⟨(q,c),(cvE rfl rfl),OwnS.lower ho hwY.size,zb hbZ f0,(zst hwY hbZ)⟩
 rintro⟨q,c⟩ X ⟨ho,f0,hbX⟩;obtain⟨R,hR⟩:=nm (zbS p);rw [<- hR];refine⟨List UInt8×OA×Nat,fun s=>⟨[(1,i64 16),(2,AtR L),(6,.slice s.2.1 s.1.length s.2.2)],[]⟩,
  fun s Z=>((1<=s.1.length/\qI s.1=s.1)/\∃ n,18<=n+s.1.length/\zep p.threads n s.1=R)/\OwnS zI 5 w.heap.size Z s.2.1 s.2.2 s.1/\Z.heap[L]?=some (.cells pc.toArray 29 (0,0))/\Bw w Z,fun s=>300-s.1.length,(qI p.init,q,c),
  (cvE rfl rfl),⟨⟨⟨zgU hi1,zaw _⟩,18,Qw _ _,hR.symm⟩,ho,f0,hbX⟩,?_⟩
 rintro⟨vals,q,c⟩ X ⟨⟨⟨hv1,hvd⟩,n,hn,hQ⟩,ho,f0,hbX⟩;dsimp only at hv1 hvd hn hQ ho ⊢;have hv256:vals.length<=256:=by rw [<- hvd];exact zcN _
 refine biE (fun h16=>?_) fun h16=>?_
 ·have h16:(16:Int)<(vals.length:Int):=dT h16;have e:R=none:=by
   rw [<- hQ]
   cases n with
   | zero=>rfl
   | succ n=>exact Gk (by omega)
  exact⟨.inr ⟨e,rfl⟩,hbX⟩
 have h16:¬ (16:Int)<(vals.length:Int):=dF h16;obtain⟨k,rfl⟩:∃ k,n=k+1:=⟨n-1,by omega⟩;have hQ:(if 16<vals.length then none else if (p.threads.any fun l=>decide (4096<(qH l vals).length))=true then none else if (zaN p.threads vals).length=vals.length then some vals else zep p.threads k (zaN p.threads vals))=R:=hQ;rw [Gj (by omega)] at hQ;have hq0:q=none->c=0:=fun e=>by
  rcases ho.inv with ⟨_,h,_⟩ | ⟨g,_,h,_⟩
  ·exact h
  ·rw [e] at h;cases h
 have hqb:∀ a,q=some a->a.block<X.heap.size:=fun a ha=>(jZ ho ha).2.1;refine cmo (zjm ho.row (by omega) hq0) ?_;rintro e Y ⟨⟨q1,k1,rfl,o1⟩,hbY⟩;have hwY:=zst hbX hbY;have f0Y:=zb hbY f0;have hl3:xs.length=p.threads.length:=by rw [<- hxs,QK]
 refine⟨_,zc (za f0Y) (i:=3) (by simpa using h3),?_⟩;obtain⟨g,hg⟩:∃ g:List InsD->List UInt8,g=fun l=>jq (qH l vals):=⟨_,rfl⟩;have hnx:zaN p.threads vals=qI (vals++p.threads.flatMap g):=by unfold zaN;rw [hg]
 have hgl:∀ l,(g l).length<=256:=fun l=>by rw [hg];exact zh0 _
 have hth4:=hOP.t4;refine⟨Nat×OA×Nat,fun s=>⟨[(1,i64 16),(2,AtR L),(6,.slice q vals.length c),(7,.slice s.2.1 (vals++(p.threads.take s.1).flatMap g).length s.2.2),(33,.slice p3 p.threads.length c3),(34,i64 p.threads.length),(35,i64 (s.1:Nat))],[]⟩,
  fun s Z=>(s.1<=p.threads.length/\∀ l∈p.threads.take s.1,(qH l vals).length<=4096)/\OwnS zI 5 X.heap.size Z s.2.1 s.2.2 (vals++(p.threads.take s.1).flatMap g)/\Bw X Z,fun s=>p.threads.length-s.1,(0,q1,k1),
  ⟨.cons rfl (.cons rfl (.cons rfl (.cons (by rw [Um,Qn,QH];rfl) (.cons rfl (.cons rfl (.cons rfl .nil)))))),rfl⟩,⟨⟨UV _,fun l hl=>by cases hl⟩,by show OwnS zI _ _ _ _ _ (vals++(p.threads.take 0).flatMap g);rw [Um,Qn,QH];exact o1,hbY⟩,?_⟩
 rintro⟨m,q1,k1⟩ Y ⟨⟨hm,hsm⟩,o1,hbY⟩;dsimp only at hm hsm o1 ⊢;have hwY:=zst hbX hbY;have f0Y:=zb hbY f0;have hXY:=hbY.size;have lenTake:∀ j,(vals++(p.threads.take j).flatMap g).length<=1280:=fun j=>by
  have h1:=zkW hgl (p.threads.take j);rw [Qs] at h1;rw [lap];omega
 refine biE (fun hc=>?_) fun hc=>?_
 ·have hc:(m:Int)<(p.threads.length:Int):=dT hc;have hmt:m<p.threads.length:=by omega
  have hmx:m<xs.length:=by omega
  obtain⟨b3,o3,hp3,hb3,hat3⟩:=zeP (zdG.below (hwY.mono hB)) hmx;have hB2:b3<Y.heap.size:=nL hb3 (UJ hB hwY.size);have e3:some (Value.slice p3 p.threads.length c3)=some (Value.slice (some ⟨b3,o3,none⟩) p.threads.length c3):=by rw [hp3]
  subst hp3;refine⟨m,rfl,hmt,zh8 xs[m],by have:=zc (hat3 m hmx) (i:=0) (v:=zh8 xs[m]) rfl;exact this,?_⟩;obtain⟨hrm,hrb⟩:=hxr _ (gM hmx);have hxm:xs[m].1=p.threads[m]:=by
   have:=Gf (fun l=>l[m]?) hxs;simp only [KS,gE hmx,gE hmt,Ub,KX] at this;exact this
  have hmem:=gM hmt;have hxl:xs[m].1.length=p.threads[m].length:=by rw [hxm]
  have hw:=zlm (w:=Y) (l:=p.threads[m]) (dom:=vals) (q:=xs[m].2.1) (p:=q) (cap:=xs[m].2.2) (cd:=c) (by rw [<- hxm];exact (hrm.below (hwY.mono hB)).slr (UJ hB hwY.size)) (ho.row.below hbY) (hOP.th _ hmem) (fun hne a ha=>nL (hrb (by rw [hxm];exact hne) a ha) (UJ hB hwY.size)) (fun a ha=>nL (hqb a ha) hXY) (by omega);rw [<- hxl] at hw;have eg:jq (qH p.threads[m] vals)=g p.threads[m]:=by rw [hg]
  rw [eg] at hw;refine cmo hw ?_;rintro e Z ⟨(⟨q2,k2,hs,rfl,o2⟩ | ⟨hs,rfl⟩),hbZ⟩
  case inr =>
   refine brT ?_;have e:R=none:=by
    rw [<- hQ];exact Gk (Qi.2 ⟨_,hmem,Up hs⟩)
   exact⟨.inr ⟨e,rfl⟩,hbX.trans ((hbY.trans (hbZ.mono hXY)).mono hbX.size)⟩
  refine brF ?_;have tk:(p.threads.take (m+1)).flatMap g=(p.threads.take m).flatMap g++g p.threads[m]:=by
   rw [tsg hmt,Kf,KQ,Qn,QH]
  have l1:=lenTake m;have l2:=lenTake (m+1);rw [tk,<- KM,lap] at l2;have hXZ:=hbY.trans (hbZ.mono hXY);have hsZ:=hbZ.size;refine zeZ (E:=zI) (T:=5) (B:=X.heap.size) (l:=vals++(p.threads.take m).flatMap g) (news:=g p.threads[m]) (cap:=k1) (m:=(g p.threads[m]).length) Tryz.underlying23 k5 rfl rfl rfl (o1.below hbZ) rfl o2.row (fun e=>by
   rcases o2.inv with ⟨_,h,_⟩ | ⟨g',_,h,_⟩
   ·exact h
   ·rw [e] at h;cases h) (by omega) (by omega) (by show ((vals++(p.threads.take m).flatMap g).length+(g p.threads[m]).length)*1<=_;omega) ?_
  intro q4 k4 U oU gU hbU;rw [KM,<- tk] at oU ⊢;refine nxI (by omega) ⟨(m+1,q4,k4),(cvE rfl rfl),⟨⟨hmt,fun l hl=>?_⟩,oU,hXZ.trans hbU⟩,zdc (by omega)⟩;have hl:l∈p.threads.take (m+1):=hl;rw [tsg hmt] at hl;rcases QO.1 hl with hl | hl
  ·exact hsm l hl
  ·rw [Ky.1 hl];exact hs
 ·have hc:¬ (m:Int)<(p.threads.length:Int):=dF hc;obtain rfl:m=p.threads.length:=by omega
  rw [Qu] at o1 hsm ⊢;have l3:=lenTake p.threads.length;rw [Qu] at l3;rw [Gj (fun h=>by
   obtain⟨l,hl,e⟩:=Qi.1 h;have:=hsm l hl;have:=dT e;omega)] at hQ
  refine cmo (zcu o1.row (by rw [lap];omega) (by omega)) ?_;rintro e Z ⟨⟨q2,k2,rfl,o2⟩,hbZ⟩;rw [<- hnx] at o2 ⊢;have hXZ:=hbY.trans (hbZ.mono hXY);have hwZ:=zst hbX hXZ;refine biE (fun he=>?_) fun he=>?_
  ·have he:(zaN p.threads vals).length=vals.length:=by
    have:=dT he;omega
   rw [Gk he] at hQ;exact⟨.inl ⟨vals,q,c,hQ.symm,rfl,ho.below hXZ⟩,hwZ⟩
  ·have he:¬ (zaN p.threads vals).length=vals.length:=fun e=>(dF he) (by rw [e]);rw [Gj he] at hQ;have hge:=zgR p.threads hvd;have hle:(zaN p.threads vals).length<=256:=zcN _;exact⟨(zaN p.threads vals,q2,k2),(cvE rfl rfl),⟨⟨⟨by show 1<=(zaN p.threads vals).length;omega,zaw _⟩,k,by show 18<=k+(zaN p.threads vals).length;omega,hQ⟩,OwnS.lower o2 hwY.size,zb hXZ f0,hwZ⟩,by show 300-(zaN p.threads vals).length<300-vals.length;omega⟩
end
def onP (ts:List (List InsD)):Prg:=⟨[116],[[120]],[0],ts,1,.mk 0 0 0 0 []⟩
def gI (n:UInt8):InsD:=⟨5,0,0,false,n,false,0,0,0,0⟩
theorem zoY (n:UInt8) (V:List UInt8):qH [gI n] V=V.flatMap fun v=>[zX zf9 (gI n) v]:=rfl
theorem zll {n v:UInt8} {V:List UInt8} (h:v∈V):v+n∈jq (qH [gI n] V):=by
 unfold jq;rw [QQ];refine⟨zfx _,Qi.2 ⟨zX zf9 (gI n) v,?_,?_⟩⟩
 ·rw [zoY];exact List.mem_flatMap.2 ⟨v,h,Ky.2 rfl⟩
 ·refine Qi.2 ⟨1,Ul.2 (by show 1<2;decide),?_⟩;rw [bAT];exact⟨Up rfl,Up rfl⟩
theorem zdi {α:Type} {P Q:α->Bool}:∀ {l:List α},(∀ x∈l,P x=true->Q x=true)->l.countP Q<=l.countP P->∀ x∈l,Q x=true->P x=true
 | [],_,_,x,h,_=>by cases h
 | a::l,hpq,hc,x,hx,hq=>by
  have hl:∀ x∈l,P x=true->Q x=true:=fun x h=>hpq x (JV _ h);have hm:l.countP P<=l.countP Q:=List.countP_mono_left hl;rw [List.countP_cons,List.countP_cons] at hc;have ha:=hpq a Kx
  cases hPa:P a with
  | true =>
   rw [hPa,ha hPa] at hc;simp only [Gi] at hc;rcases Uz.1 hx with e | e
   ·rw [e];exact hPa
   ·exact zdi hl (by omega) x e hq
  | false =>
   cases hQa:Q a with
   | true=>rw [hPa,hQa] at hc;simp at hc;omega
   | false =>
    rw [hPa,hQa] at hc;simp at hc;rcases Uz.1 hx with e | e
    ·rw [e,hQa] at hq;cases hq
    ·exact zdi hl hc x e hq
def zjT (n:UInt8):Nat->UInt8
 | 0=>0
 | k+1=>zjT n k+n
theorem zfw (n:UInt8):∀ k,(zjT n k).toNat=(k*n.toNat)%256
 | 0=>by rw [UO];rfl
 | k+1=>by
  show (zjT n k+n).toNat=_;rw [UInt8.toNat_add,zfw n k,UR,UU];omega
theorem zp5 (a:UInt8):(a|||1).toNat%2=1:=by
 rw [UInt8.toNat_or];have h:(a.toNat|||1).testBit 0=true:=by rw [Uo];simp
 rw [Nat.testBit_zero] at h;exact dT h
theorem zp6 {n:Nat} (hn:n%2=1) (h256:n<256) {d q:Nat} (h1:1<=d) (h2:d<=16):d*n≠256*q:=fun e=>by
 have:d=1\/d=2\/d=3\/d=4\/d=5\/d=6\/d=7\/d=8\/d=9\/d=10\/d=11\/d=12\/d=13\/d=14\/d=15\/d=16:=by omega
 rcases this with e2 | e2 | e2 | e2 | e2 | e2 | e2 | e2 | e2 | e2 | e2 | e2 | e2 | e2 | e2 | e2 <;> subst e2 <;> omega
theorem zp9 {n:UInt8} (hn:n.toNat%2=1) {i j:Nat} (hij:i<j) (hj:j<17):zjT n i≠zjT n j:=fun e=>by
 have h:=Gf UInt8.toNat e;rw [zfw,zfw] at h;have h2:j*n.toNat=i*n.toNat+(j-i)*n.toNat:=by rw [<- UR];congr 1;omega
 have h3:=QW (j*n.toNat) 256;have h4:=QW (i*n.toNat) 256;have hle:i*n.toNat/256<=j*n.toNat/256:=Nat.div_le_div_right (by omega);refine zp6 hn n.toNat_lt (d:=j-i) (q:=j*n.toNat/256-i*n.toNat/256) (by omega) (by omega) ?_;omega
theorem zgH:∀ {a b:List UInt8},a.Nodup->(∀ x∈a,x∈b)->a.length<=b.length
 | [],b,_,_=>UV _
 | x::r,b,h,hs=>by
  have hx:=hs x (Kx ..);have h1:=QS.1 h;have:=zgH (a:=r) (b:=b.erase x) h1.2 fun y hy=>(List.mem_erase_of_ne (fun e=>by subst e;exact h1.1 hy)).2 (hs y (JV _ hy));rw [List.length_erase_of_mem hx] at this;have:=List.length_pos_of_mem hx;simp only [Qq];omega
theorem zlS (a:UInt8):((List.range 17).map (zjT (a|||1))).Nodup:=by
 unfold List.Nodup;rw [List.pairwise_map];refine List.Pairwise.imp_of_mem ?_ (List.pairwise_lt_range (n:=17));intro i j hi hj hij;exact zp9 (zp5 a) hij (Ul.1 hj)
theorem zgQ (a:UInt8):∀ (n:Nat) (V:List UInt8),qI V=V->0∈V->zep [[gI (a|||1)],[gI (a|||1)]] n V=none
 | 0,_,_,_=>rfl
 | n+1,V,hV,h0=>by
  unfold zep
  split
  ·rfl
  ·rename_i h16
   split
   ·rfl
   ·split
    ·rename_i he
     exfalso
     have hcl:∀ v∈V,v+(a|||1)∈V:=fun v hv=>by
      have h1:v+(a|||1)∈V++[[gI (a|||1)],[gI (a|||1)]].flatMap fun l=>jq (qH l V):=by
       exact JM _ (List.mem_flatMap.2 ⟨_,Kx,zll hv⟩)
      have h2:zH.countP (fun v=>(V++[[gI (a|||1)],[gI (a|||1)]].flatMap fun l=>jq (qH l V)).any fun x=>decide (x=v))<=zH.countP (fun v=>V.any fun x=>decide (x=v)):=by
       rw [List.countP_eq_length_filter,List.countP_eq_length_filter];have e1:(zH.filter fun v=>V.any fun x=>decide (x=v))=V:=hV;rw [e1];exact Nat.le_of_eq he
      have h3:=zdi (fun x _ hx=>by
       obtain⟨y,hy,e⟩:=Qi.1 hx;exact Qi.2 ⟨y,JU _ hy,e⟩) h2 (v+(a|||1)) (zfx _) (Qi.2 ⟨_,h1,Up rfl⟩)
      obtain⟨y,hy,e⟩:=Qi.1 h3;rw [<- dT e];exact hy
     have hm:∀ k,zjT (a|||1) k∈V:=fun k=>by
      induction k with
      | zero=>exact h0
      | succ k ih=>exact hcl _ ih
     have:=zgH (zlS a) (b:=V) fun x hx=>by
      obtain⟨k,_,rfl⟩:=UG.1 hx;exact hm k
     rw [QK,KT] at this;omega
    ·exact zgQ a n _ (zaw _) (zbK.2 (JU _ h0))
theorem ziP (a:UInt8):zbS (onP [[gI (a|||1)],[gI (a|||1)]])=none:=zgQ a 18 _ (zaw _) (zbK.2 (by show (0:UInt8)∈[0];exact Kx))
theorem zoK:((List.range 256).all fun a=>za7 (onP [[gI (UInt8.ofNat a|||1)],[gI (UInt8.ofNat a|||1)]]))=true:=by decide +kernel
theorem znp (a:UInt8):za7 (onP [[gI (a|||1)],[gI (a|||1)]])=true:=by
 have h:=Qh.1 zoK a.toNat (Ul.2 a.toNat_lt);rw [UInt8.ofNat_toNat] at h;exact h
end Go.Proofs.YtpalcnbhkigagaaGreatDoor
namespace Go.Sei
def zal (before:Nat->Nat):Nat->Nat->List Nat->List (List Nat)
 | 0,left,l=>if left=0 then [l] else []
 | n+1,left,l=>if left=0 then [l] else (els left).flatMap fun a=>if before a&&&left=0 then zal before n (zaD left (2^a)) (l++[a]) else []
def zbc (r:RelD):List (List Nat):=if zkh r then zal (qu r).to 64 (jX r.n) [] else []
def j0:List Nat->Nat->List Nat
 | [],_=>[]
 | n::ns,j=>j%n::j0 ns (j/n)
def zO:List Nat->Nat
 | []=>1
 | n::ns=>n*zO ns
def jx (sizes:List Nat):List (List Nat):=(List.range (zO sizes.reverse)).map fun j=>(j0 sizes.reverse j).reverse
theorem zdR:∀ (rs:List Nat) (j:Nat),(j0 rs j).length=rs.length
 | [],_=>rfl
 | n::ns,j=>by
  show (j0 ns (j/n)).length+1=ns.length+1;rw [zdR ns]
theorem zgV:∀ rs:List Nat,j0 rs 0=List.replicate rs.length 0
 | []=>rfl
 | n::ns=>by
  show 0%n::j0 ns (0/n)=0::List.replicate ns.length 0;rw [Nat.zero_mod,Nat.zero_div,zgV ns]
theorem zgB:∀ {rs:List Nat},(∀ n∈rs,n≠0)->0<zO rs
 | [],_=>Nat.one_pos
 | n::ns,h=>Nat.mul_pos (by have:=h n (by simp);omega) (zgB fun m hm=>h m (by simp [hm]))
theorem zc5:∀ {rs:List Nat},0∈rs->zO rs=0
 | [],h=>by cases h
 | n::ns,h=>by
  show n*zO ns=0;rcases Uz.1 h with h | h
  ·rw [<- h,UO]
  ·rw [zc5 h,Nat.mul_zero]
theorem zei {n j:Nat} (hn:n≠0):(j%n=n-1->(j+1)%n=0/\(j+1)/n=j/n+1)/\(j%n≠n-1->(j+1)%n=j%n+1/\(j+1)/n=j/n):=by
 have h1:=QW j n;have h2:=Gb j (KE hn);obtain⟨q,hq⟩:∃ q,j/n=q:=⟨_,rfl⟩;obtain⟨m,hm⟩:∃ m,j%n=m:=⟨_,rfl⟩;rw [hq,hm] at h1 ⊢;rw [hm] at h2;refine⟨fun h=>?_,fun h=>?_⟩
 ·have e:j+1=n*(q+1):=by rw [Nat.mul_add];omega
  rw [e];exact⟨Nat.mul_mod_right _ _,Nat.mul_div_cancel_left _ (KE hn)⟩
 ·have e:j+1=n*q+(m+1):=by omega
  rw [e,Nat.mul_add_mod,QA (by omega),Nat.mul_add_div (KE hn),Nat.div_eq_of_lt (by omega)];exact⟨rfl,rfl⟩
def zf4 (rs:List Nat) (j t:Nat):Prop:=∃ A ns k,rs=A++ns/\A.length=t/\j0 rs (j+1)=List.replicate t 0++j0 ns (k+1)/\(j0 rs j).drop t=j0 ns k/\zO A*(k+1)=j+1
theorem zbD:∀ A B:List Nat,zO (A++B)=zO A*zO B
 | [],B=>(UU _).symm
 | n::A,B=>by
  show n*zO (A++B)=n*zO A*zO B;rw [zbD A B,UB]
theorem zka (rs:List Nat) (j:Nat):zf4 rs j 0:=⟨[],rs,j,rfl,rfl,rfl,rfl,UU _⟩
theorem zkc {rs:List Nat} {j t:Nat} (hr:∀ n∈rs,n≠0) (h:zf4 rs j t) {n d:Nat} (hn:rs[t]?=some n) (hd:(j0 rs j)[t]?=some d) (he:d=n-1):zf4 rs j (t+1):=by
 obtain⟨A,ns,k,h1,h2,h3,h4,h5⟩:=h
 cases ns with
 | nil =>
  rw [h1,QH,JI (by omega)] at hn
  cases hn
 | cons m ns =>
  have hm:m=n:=by
   rw [h1,Jl (by omega),h2,UL] at hn;exact Uc hn
  subst hm;have hd2:k%m=d:=by
   have:=Gf (fun l=>l[0]?) h4;simp only [Ku,UI] at this;rw [hd] at this;exact (Uc this).symm
  have hm0:m≠0:=hr m (by rw [h1];simp);obtain⟨e1,e2⟩:=(zei hm0).1 (hd2.trans he);have hk:k+1=m*(k/m+1):=by
   have:=QW (k+1) m;rw [e1,e2] at this;omega
  refine⟨A++[m],ns,k/m,by rw [h1];simp,by simp [h2],?_,?_,?_⟩
  ·rw [h3];show _++((k+1)%m::j0 ns ((k+1)/m))=_;rw [e1,e2,List.replicate_succ',KM];rfl
  ·rw [<- Uh,h4];rfl
  ·rw [<- h5,zbD];show zO A*(m*1)*_=_;rw [UT,UB,<- hk]
theorem zkb {rs:List Nat} {j t:Nat} (hr:∀ n∈rs,n≠0) (h:zf4 rs j t) {n d:Nat} (hn:rs[t]?=some n) (hd:(j0 rs j)[t]?=some d) (he:d≠n-1):j0 rs (j+1)=List.replicate t 0++(d+1)::(j0 rs j).drop (t+1):=by
 obtain⟨A,ns,k,h1,h2,h3,h4,h5⟩:=h
 cases ns with
 | nil =>
  rw [h1,QH,JI (by omega)] at hn
  cases hn
 | cons m ns =>
  have hm:m=n:=by
   rw [h1,Jl (by omega),h2,UL] at hn;exact Uc hn
  subst hm;have hd2:k%m=d:=by
   have:=Gf (fun l=>l[0]?) h4;simp only [Ku,UI] at this;rw [hd] at this;exact (Uc this).symm
  have hm0:m≠0:=hr m (by rw [h1];simp);obtain⟨e1,e2⟩:=(zei hm0).2 (fun h=>he (hd2.symm.trans h));rw [h3,<- Uh,h4];show _++((k+1)%m::j0 ns ((k+1)/m))=_;rw [e1,e2,hd2];rfl
theorem zmb {rs:List Nat} {j:Nat} (h:zf4 rs j rs.length) (hj:j<zO rs):j+1=zO rs:=by
 obtain⟨A,ns,k,h1,h2,h3,h4,h5⟩:=h;have hl:=Gf List.length h1;rw [lap,h2] at hl;have:ns=[]:=List.length_eq_zero_iff.1 (by omega);subst this;rw [QH] at h1;rw [h1] at hj ⊢;have h6:zO A*(k+1)<=zO A:=by omega
 rcases Nat.eq_zero_or_pos (zO A) with h0 | h0
 ·omega
 ·have:k+1<=1:=Nat.le_of_mul_le_mul_left (by omega:zO A*(k+1)<=zO A*1) h0;have:k=0:=by omega
  subst this;omega
theorem zkd {rs:List Nat} {j t:Nat} (hr:∀ n∈rs,n≠0) (h:zf4 rs j t) {n d:Nat} (hn:rs[t]?=some n) (hd:(j0 rs j)[t]?=some d) (he:d≠n-1) (hj:j<zO rs):j+1<zO rs:=by
 obtain⟨A,ns,k,h1,h2,h3,h4,h5⟩:=h
 cases ns with
 | nil =>
  rw [h1,QH,JI (by omega)] at hn
  cases hn
 | cons m ns =>
  have hm:m=n:=by
   rw [h1,Jl (by omega),h2,UL] at hn;exact Uc hn
  subst hm;have hd2:k%m=d:=by
   have:=Gf (fun l=>l[0]?) h4;simp only [Ku,UI] at this;rw [hd] at this;exact (Uc this).symm
  have hm0:m≠0:=hr m (by rw [h1];simp);obtain⟨e1,e2⟩:=(zei hm0).2 (fun h=>he (hd2.symm.trans h));apply Jn;intro hc;have hP:zO rs=zO A*(m*zO ns):=by rw [h1,zbD];rfl
  have hA:0<zO A:=by
   apply KE;intro h0;rw [hP,h0,UO] at hj;omega
  have h6:zO A*(k+1)=zO A*(m*zO ns):=by omega
  have h7:=Nat.eq_of_mul_eq_mul_left hA h6;rw [h7,Nat.mul_mod_right] at e1;omega
theorem zgx {L:List Nat} {t d:Nat} (h:L[t]?=some d):(List.replicate t 0++L.drop t).reverse=(L.drop (t+1)).reverse++d::(List.replicate t 0).reverse:=by
 obtain⟨ht,rfl⟩:=Jq.1 h;rw [<- JD ht,Kk,KU,KM];rfl
theorem zpQ {L:List Nat} {t d:Nat} (h:L[t]?=some d) {i:Nat} (hi:i+t+1=L.length):(List.replicate t 0++L.drop t).reverse[i]?=some d:=by
 rw [zgx h,Jl (by simp;omega)];have:i-(L.drop (t+1)).reverse.length=0:=by simp;omega
 rw [this];rfl
theorem zkz {L:List Nat} {t d:Nat} (h:L[t]?=some d) {i:Nat} (hi:i+t+1=L.length) (v:Nat):((List.replicate t 0++L.drop t).reverse).set i v=(List.replicate t 0++v::L.drop (t+1)).reverse:=by
 rw [zgx h,JN _ _ (by simp;omega)];have:i-(L.drop (t+1)).reverse.length=0:=by simp;omega
 rw [this,Kk,KU,KM];rfl
theorem zmS {L:List Nat} {t:Nat}:(List.replicate t 0++0::L.drop (t+1)).reverse=(List.replicate (t+1) 0++L.drop (t+1)).reverse:=by
 rw [List.replicate_succ',KM];rfl
structure ExD where
 ev:List Ev
 po:RelD
 rf:RelD
 co:RelD
 dt:RelD
 ct:RelD
 rm:RelD
 regs:Nat->UInt8
 mem:Nat->UInt8
structure MixD where
 base:ExD
 rs:List (Nat×List Nat)
 wr:List (List Nat)
def zch (n:Nat):RelD:=⟨n,fun _=>0⟩
def ex0 (n:Nat):ExD:=⟨[],zch n,zch n,zch n,zch n,zch n,zch n,fun _=>0,fun _=>0⟩
def zir (b:Nat):List (Nat×Nat)->(Nat->Nat)->Nat->Nat
 | [],f=>f
 | p::ps,f=>zir b ps (upd f (b+p.1) (f (b+p.1)|||2^(b+p.2)))
def zjM (b:Nat) (ps:List (Nat×Nat)) (r:RelD):RelD:=⟨r.n,zir b ps r.to⟩
def ziw (a:Int):Nat->List Ev->Nat->Nat
 | _,[],s=>s
 | j,e::es,s=>ziw a (j+1) es (if e.th=a then s|||2^j else s)
def zb9 (ev:List Ev) (i:Nat):Nat:=match ev[i]? with
 | none=>0
 | some e=>if e.th = -1 then 0 else ziw e.th (i+1) (ev.drop (i+1)) 0
def poR (ev:List Ev):RelD:=⟨ev.length,zb9 ev⟩
def jm:Nat->List UInt8->List Ev
 | _,[]=>[]
 | l,v::vs=>⟨-1,2,UInt8.ofNat l,v,0,0,0⟩::jm (l+1) vs
def zbT (k:Nat) (l:List Ev):List Ev:=l.map fun e=>{ e with th:=k }
def zeo (x:ExD) (k:Nat) (P:PathD):ExD :=
 { x with ev:=x.ev++zbT k P.ev,dt:=zjM x.ev.length P.data x.dt,ct:=zjM x.ev.length P.ctrl x.ct,rm:=zjM x.ev.length P.rmw x.rm,regs:=fun i=>if i/8=k then P.regs (i%8) else x.regs i }
def asR:Nat->List PathD->ExD->ExD
 | _,[],x=>x
 | k,P::Ps,x=>asR (k+1) Ps (zeo x k P)
def zb6 (locs:Nat) (Ps:List PathD):Nat:=Ps.foldl (fun n P=>n+P.ev.length) locs
def zf8:Nat->List Ev->List (List Nat)->List (List Nat)
 | _,[],W=>W
 | i,e::es,W=>zf8 (i+1) es (if e.k=2 then W.set e.l.toNat (W.getD e.l.toNat []++[i]) else W)
def zdu (all:List Ev) (W:List (List Nat)):Nat->List Ev->List (Nat×List Nat)
 | _,[]=>[]
 | i,e::es=>if e.k=1 then (i,(W.getD e.l.toNat []).filter fun w=>decide ((all.getD w ev0).v=e.v))::zdu all W (i+1) es else zdu all W (i+1) es
def zaj (init:List UInt8) (Ps:List PathD):ExD :=
 let x:=asR 0 Ps { ex0 (zb6 init.length Ps) with ev:=jm 0 init }
 { x with po:=poR x.ev }
def jJ (x:ExD) (locs:Nat):MixD :=
 let W:=zf8 0 x.ev (List.replicate locs [])
 ⟨x,zdu x.ev W 0 x.ev,W⟩
def zhy (init:List UInt8) (Ps:List PathD):Option MixD:=if zb6 init.length Ps<=48 then some (jJ (zaj init Ps) init.length) else none
def zdS (lim:Nat):List (List Nat)->Nat->Option Nat
 | [],n=>some n
 | f::fs,n=>if f=[] then none else zdS lim fs (min (n*f.length) lim)
def zeK (lim len:Nat):Nat->Nat->Nat->Nat
 | 0,_,n=>n
 | m+1,k,n=>if k<len then zeK lim len m (k+1) (min (n*k) lim) else n
def zeJ (lim:Nat):List (List Nat)->Nat->Nat
 | [],n=>n
 | l::ls,n=>zeJ lim ls (zeK lim l.length l.length 2 n)
def jA (m:MixD) (lim:Nat):Nat:=match zdS lim (m.rs.map (·.2)) 1 with
 | none=>0
 | some n=>zeJ lim m.wr n
def zQ (w:List Nat):List (List Nat) :=
 let l:=zbc (zfW w.length 1 (zaD (jX w.length) 1))
 if l.length<=10000 then l.map fun o=>o.map fun k=>w.getD k 0 else []
def zfC:List Nat->(Nat->Nat)->Nat->(Nat->Nat)
 | [],f,_=>f
 | a::l,f,b=>zfC l (upd f a b) (b|||2^a)
def jQ (l:List Nat) (r:RelD):RelD:=⟨r.n,zfC l.reverse r.to 0⟩
def rfF:List (Nat×List Nat)->List Nat->(Nat->Nat)->Nat->Nat
 | [],_,f=>f
 | (r,s)::rs,ds,f=>rfF rs ds.tail (upd f (s.getD (ds.headD 0) 0) (f (s.getD (ds.headD 0) 0)|||2^r))
def coG (ev:List Ev):Nat->List (List (List Nat))->List Nat->RelD×(Nat->UInt8)->RelD×(Nat->UInt8)
 | _,[],_,p=>p
 | l,R::Rs,ds,p=>coG ev (l+1) Rs ds.tail (jQ (R.getD (ds.headD 0) []) p.1,upd p.2 l (ev.getD ((R.getD (ds.headD 0) []).getLastD 0) ev0).v)
def qQ (m:MixD) (ds:List Nat):ExD :=
 let c:=coG m.base.ev 0 (m.wr.map zQ) (ds.drop m.rs.length) (m.base.co,m.base.mem)
 { m.base with rf:=⟨m.base.rf.n,rfF m.rs ds m.base.rf.to⟩,co:=c.1,mem:=c.2 }
def jl (m:MixD):List Nat:=m.rs.map (fun r=>r.2.length)++m.wr.map fun w=>(zQ w).length
def zcw (m:MixD):List ExD:=(jx (jl m)).map (qQ m)
def zao (Ts:List (List PathD)):List Nat->List PathD
 | []=>[]
 | d::ds=>match Ts with
  | []=>[]
  | T::Ts=>(match T[d]? with | some P=>[P] | none=>[])++zao Ts ds
theorem zk2:∀ (rs:List Nat) (j:Nat),(∀ n∈rs,n≠0)->∀ (i n d:Nat),rs[i]?=some n->(j0 rs j)[i]?=some d->d<n
 | [],_,_,_,_,_,h,_=>by simp at h
 | m::rs,j,h0,0,n,d,h,hd=>by
  have h:m=n:=by simpa using h
  have hd:j%m=d:=by simpa [j0] using hd
  subst h;subst hd;exact Gb _ (KE (h0 m (by simp)))
 | m::rs,j,h0,i+1,n,d,h,hd=>zk2 rs (j/m) (fun n hn=>h0 n (by simp [hn])) i n d (by simpa using h) (by simpa [j0] using hd)
theorem zhK {sizes ds:List Nat} (h:ds∈jx sizes):ds.length=sizes.length/\∀ (i n d:Nat),sizes[i]?=some n->ds[i]?=some d->d<n:=by
 unfold jx at h;obtain⟨j,hj,rfl⟩:=UG.1 h;have hj:=Ul.1 hj;have h0:∀ n∈sizes.reverse,n≠0:=fun n hn e=>by
  subst e;rw [zc5 hn] at hj;omega
 have hl:(j0 sizes.reverse j).length=sizes.length:=by rw [zdR,Ki]
 refine⟨by rw [Ki,hl],fun i n d hn hd=>?_⟩;have hi:i<sizes.length:=(Jq.1 hn).1;have e1:=JJ (l:=sizes.reverse) (i:=i) (by simpa using hi);rw [JZ,hn] at e1;have e2:=JJ (l:=j0 sizes.reverse j) (i:=i) (by omega);rw [hd,hl] at e2;rw [Ki] at e1;exact zk2 _ _ h0 _ n d e1.symm e2.symm
theorem zil:∀ (rs:List (Nat×List Nat)) (r:Nat) (s:List Nat) (ds:List Nat) (f:Nat->Nat),rfF (rs++[(r,s)]) ds f=upd (rfF rs ds f) (s.getD (ds.getD rs.length 0) 0) (rfF rs ds f (s.getD (ds.getD rs.length 0) 0)|||2^r)
 | [],r,s,ds,f=>by
  have:ds.getD 0 0=ds.headD 0:=by cases ds <;> rfl
  show upd f (s.getD (ds.headD 0) 0) _=_;rw [<- this];rfl
 | (r',s')::rs,r,s,ds,f=>by
  have e:ds.getD (rs.length+1) 0=ds.tail.getD rs.length 0:=by
   cases ds with
   | nil=>simp
   | cons a ds=>simp
  show rfF (rs++[(r,s)]) ds.tail _=_;rw [zil rs r s ds.tail];show _=upd (rfF rs ds.tail _) (s.getD (ds.getD (rs.length+1) 0) 0) (rfF rs ds.tail _ (s.getD (ds.getD (rs.length+1) 0) 0)|||2^r);rw [e]
abbrev zcW (ev:List Ev) (rk:List Nat):UInt8:=(ev.getD (rk.getLastD 0) ev0).v
theorem zi5 (ev:List Ev):∀ (Rs:List (List (List Nat))) (R:List (List Nat)) (l:Nat) (ds:List Nat) (p:RelD×(Nat->UInt8)),
  coG ev l (Rs++[R]) ds p=(jQ (R.getD (ds.getD Rs.length 0) []) (coG ev l Rs ds p).1,upd (coG ev l Rs ds p).2 (l+Rs.length) (zcW ev (R.getD (ds.getD Rs.length 0) [])))
 | [],R,l,ds,p=>by
  have:ds.getD 0 0=ds.headD 0:=by cases ds <;> rfl
  show (jQ (R.getD (ds.headD 0) []) p.1,upd p.2 l _)=_;rw [<- this];rfl
 | R'::Rs,R,l,ds,p=>by
  have e:ds.getD (Rs.length+1) 0=ds.tail.getD Rs.length 0:=by
   cases ds with
   | nil=>simp
   | cons a ds=>simp
  show coG ev (l+1) (Rs++[R]) ds.tail _=_;rw [zi5 ev Rs R (l+1) ds.tail];show _=(jQ (R.getD (ds.getD (Rs.length+1) 0) []) _,upd _ (l+(Rs.length+1)) (zcW ev (R.getD (ds.getD (Rs.length+1) 0) [])));rw [e,show l+1+Rs.length=l+(Rs.length+1) by omega];rfl
def zh1 (r:RelD):Bool:=(List.range 48).all fun i=>decide (r.to i<2^64)
structure MixB (m:MixD):Prop where
 ev:m.base.ev.length<=48
 rl:m.rs.length<=48
 wl:m.wr.length<=6
 rf:∀ i,i<48->m.base.rf.to i<2^64
 co:∀ i,i<48->m.base.co.to i<2^64
 rs:∀ r∈m.rs,r.1<48/\r.2.length<=1000/\∀ s∈r.2,s<48
 wr:∀ w∈m.wr,w.length<=48/\(zQ w).length<=10000/\∀ k∈zQ w,k≠[]/\k.length<=48/\∀ a∈k,a<m.base.ev.length
theorem zlb (m:MixD) (ds:List Nat):(qQ m ds).ev=m.base.ev:=rfl
end Go.Sei
namespace Go.Proofs.YtpalcnbhkigagaaGreatDoor
open Go.Vc Go.RowKit Go.Sei
theorem zds {X:Wd} {b:Nat} {r:RelD} (f:X.heap[b]?=some (.cells (zi r).toArray 48 (0,0))) {i:Nat} (h:i<48):X.cell? ⟨b,0+1+i*1,none⟩=some (s64 (r.to i)):=by
 rw [UT,UA];exact zc (za f) (zho r h)
theorem zav {r:RelD} (h:okR r=true):0<=r.n/\r.n<=48/\∀ a,a<48->jn (r.to a) (j4 r.n)=0/\((a:Int)<r.n\/r.to a=0):=by
 unfold okR at h;rw [bAT,bAT,dE,dE,Qh] at h;refine⟨h.1,h.2.1,fun a ha=>?_⟩;have:=h.2.2 a (Ul.2 ha);unfold za3 at this;rw [bAT,QE,dE,dE,dE] at this;exact this
theorem zbO {n:Int} (h0:0<=n) (h:n<=64) {i:Nat} (hi:i<64):(j4 n).testBit i=decide ((i:Int)<n):=by
 unfold j4
 split
 ·rw [QB,Ue (by omega)]
 split
 ·rw [show 18446744073709551615=2^64-1 from rfl,Nat.testBit_two_pow_sub_one];rw [Up hi,Up (by omega)]
 ·rw [Nat.testBit_two_pow_sub_one];apply QD.2;omega
theorem zkN {r:RelD} (h:okR r=true) (hr:zP r.to) {a i:Nat} (ha:a<48) (hb:(r.to a).testBit i=true):(i:Int)<r.n/\(a:Int)<r.n:=by
 obtain⟨h0,h48,hall⟩:=zav h;obtain⟨h1,h2⟩:=hall a ha;have hi:i<64:=by
  apply Qx;intro hi;have:=JF (nL (hr a ha) (Kc (by decide) hi));rw [this] at hb;cases hb
 refine⟨?_,?_⟩
 ·have h3:(jn (r.to a) (j4 r.n)).testBit i=false:=by rw [h1];exact QB i
  rw [zcJ (zaT _) hi,hb,zbO h0 (by omega) hi] at h3;simpa using h3
 ·rcases h2 with h2 | h2
  ·exact h2
  ·rw [h2,QB] at hb;cases hb
theorem zox {r:RelD} (h:okR r=true) (hr:zP r.to) {a:Nat} (ha:a<48):∀ i∈els (r.to a),(i:Int)<r.n/\i<48:=fun i hi=>by
 have h1:=(zkN h hr ha (zcH.1 hi).2).1;have:=(zav h).2.1;exact⟨h1,by omega⟩
theorem zbI {s:Nat} (h0:s≠0) (h:s<2^64):(els s).headD 0=ctz s/\(els s).isEmpty=false:=by
 rw [(jD h0 h).1];exact⟨rfl,rfl⟩
theorem zhI {s:Nat} (h:s<2^64) (he:(els s).isEmpty=true):s=0:=by
 apply Jn;intro h0;rw [(zbI h0 h).2] at he;cases he
theorem zfS {s:Nat} (h:s<2^64) (he:(!(els s).isEmpty)=true):s≠0:=fun h0=>by
 subst h0;rw [zaF] at he;cases he
theorem zmd {n:Nat} {f:Nat->Nat} (h:∀ i,i<n->i<48->f i<2^64):zP (zbb n f).to:=fun i hi=>by
 unfold zbb;dsimp only
 split
 ·rename_i h1;exact h i h1 hi
 ·decide
section
variable {ra rb:RelD} {w:Wd}
theorem zoc {ba bb i a b:Nat} (fa:w.heap[ba]?=some (.cells #[s64 a] 45 (0,0))) (fb:w.heap[bb]?=some (.cells #[s64 b] 45 (0,0))) (hi:i<48) :
  CB 111 (i64 (i:Nat)::[At0 ba,At0 bb]).toArray w (s64 (if a.testBit i then b else 0)):=by
 refine zD 11 (i64 (i:Nat)::[At0 ba,At0 bb]) Tryz.func111 ?_;refine⟨_,zc (za fa) (i:=0) rfl,by omega,_,zhb (k:=i) (by omega),?_⟩;have e1:IntKind.u64.wrap ((BitVec.ofInt IntKind.u64.bits ((a/2^i:Nat):Int)&&&BitVec.ofInt IntKind.u64.bits (1:Int)).toNat:Int)=((a/2^i&&&1:Nat):Int):=by
  show IntKind.u64.wrap ((BitVec.ofInt 64 ((a/2^i:Nat):Int)&&&BitVec.ofInt 64 (1:Int)).toNat:Int)=_;rw [Qe,show (BitVec.ofInt 64 (1:Int)).toNat=1 from rfl,KB,KB,Kq];have e2:(((a/2^i:Nat):Int)%((2^64:Nat):Int)).toNat=(a/2^i)%2^64:=by
   rw [<- Int.natCast_emod,KJ]
  rw [e2];generalize a/2^i=m;rw [w64 (by omega)];omega
 refine⟨_,e1,?_⟩;rw [zlf];refine biE (fun h=>?_) fun h=>?_
 ·have h:a.testBit i=false:=by
   cases hc:a.testBit i with
   | false=>rfl
   | true =>
    rw [hc] at h;exact Gl h (by decide)
  exact⟨by rw [h];rfl,UX _ _⟩
 ·have h:a.testBit i=true:=by
   cases hc:a.testBit i with
   | true=>rfl
   | false =>
    rw [hc] at h;exact Gl h (by decide)
  exact⟨_,zc (za fb) (i:=0) rfl,by rw [h];rfl,UX _ _⟩
theorem zpq {n a b:Nat} (hn:n<=48) (ha:a<2^64) (hb:b<2^64):CB 82 #[i64 n,s64 a,s64 b] w (.agg (zi (zfW n a b)).toArray):=by
 refine qP 21 [i64 n,s64 a,s64 b] (.c .p (.s .p (.s .p .p))) Tryz.func82 ?_;obtain⟨L,hL⟩:=nm (w.heap.size);refine⟨Unit,fun _=>⟨[(0,i64 n),(4,At0 L),(5,At0 (L+1)),(6,At0 (L+2))],[]⟩,fun _ X=>X.heap[L]?=some (.cells #[s64 a] 45 (0,0))/\X.heap[L+1]?=some (.cells [s64 b].toArray 45 (0,0))/\X.heap[L+2]?=some (.cells (zi jg).toArray 48 (0,0))/\Bw w X,?_,?_⟩
 ·have s1:=wz w (.cells #[s64 a] 45);have s2:=wz (w.alloc (.cells #[s64 a] 45)) (.cells #[s64 b] 45);have h2:=zx (w.alloc (.cells #[s64 a] 45)) (.cells #[s64 b] 45);have h3:=zx ((w.alloc (.cells #[s64 a] 45)).alloc (.cells #[s64 b] 45)) (.cells (zi jg).toArray 48);rw [s1] at s2 h2;rw [s2] at h3;refine⟨(),⟨.cons rfl (.cons (by rw [hL];rfl) (.cons (by rw [hL,<- s1];rfl) (.cons (by rw [hL,<- s2];rfl) .nil))),rfl⟩,?_,?_,?_,?_⟩
  ·rw [hL];exact qm _ (qm _ (zx w _))
  ·rw [hL];exact qm _ h2
  ·rw [hL];exact h3
  ·exact (((zba w _)).alloc (by simp) _).alloc (by simp;omega) _
 rintro _ X ⟨f0,f1,f2,hbX⟩;refine brN (Ue (by omega)) (brN (Ue (by omega)) (DrawE.ord [4] [0,1,2,3,4] (by kernel_rfl) ⟨_,zc (za (hdr f1)) (i:=0) rfl,cmo zg7 ?_⟩));rintro e _ ⟨rfl,rfl⟩;refine⟨UX _ _,_,zab (a:=b) (b:=j4 n) hb (zaT _),?_⟩;have hd:Bw X X.drew:=(UX _ X).drew;refine zk k45 (hdr f1) (o:=0) (v:=s64 (b&&&j4 n)) rfl rfl (by show 0<1;decide) rfl fun Y fY gY sY=>?_;have fY:Y.heap[L+1]?=some (.cells #[s64 (b&&&j4 n)] 45 (0,0)):=fY;have hbY:Bw w Y:=((zst hbX hd)).trans (zh gY hbX.size (by omega));have f0Y:=(gY.block L (hlt (hdr f0)) (by simp)).trans (hdr f0);have f2Y:=(gY.block (L+2) (hlt (hdr f2)) (by simp)).trans (hdr f2);refine cmo (zpg (w:=Y) (n:=n) (row:=fun x=>if a.testBit x then b&&&jX n else 0) hn (by kernel_rfl) (fun i Z hi hbZ=>zoc (zb hbZ f0Y) (zb hbZ fY) (by omega))) ?_;rintro e Z ⟨rfl,hbZ⟩;have f2Z:=zb hbZ f2Y;exact zE (v := .agg (zi (zfW n a b)).toArray) k48 f2Z rfl rfl (z6 _) ⟨zi (zfW n a b),zj _,za (zy f2Z),rfl,zz ((zst hbY hbZ)) (by omega) _⟩
end
theorem zeM {f:Nat->Nat} (h:zP f) {i v:Nat} (hv:v<2^64):zP (upd f i v):=fun j hj=>by
 by_cases e:j=i
 ·rw [e,zJ];exact hv
 ·rw [qi _ _ e];exact h j hj
def zpD (a:Nat) (l:List Nat) (f:Nat->Nat):Nat->Nat:=l.foldl (fun f b=>upd f b (f b|||2^a)) f
section
variable {r:RelD} {w:Wd}
theorem zkm (hr:zP r.to) (hT:Tz64M w):Calls PG 52 #[.agg (zi r).toArray] w fun e w'=>e = .returned (.agg (zi (qu r)).toArray)/\Bw w w'/\zP (qu r).to:=by
 refine qP 50 [.agg (zi r).toArray] (.c .p (.s .p (.s .p (.c .p .p)))) Tryz.func52 ?_;obtain⟨L,hL⟩:=nm (w.heap.size);refine⟨Unit,fun _=>⟨[(1,At0 L),(2,At0 (L+1))],[]⟩,fun _ X=>X.heap[L]?=some (.cells (zi r).toArray 48 (0,0))/\X.heap[L+1]?=some (.cells (zi jg).toArray 48 (0,0))/\X.heap.size=L+2/\Bw w X,?_,?_⟩
 ·have s1:=wz w (.cells (zi r).toArray 48);have h2:=zx (w.alloc (.cells (zi r).toArray 48)) (.cells (zi jg).toArray 48);have s2:=wz (w.alloc (.cells (zi r).toArray 48)) (.cells (zi jg).toArray 48);rw [s1] at h2 s2;refine⟨(),⟨.cons (by rw [hL];rfl) (.cons (by rw [hL,<- s1];rfl) .nil),rfl⟩,?_,?_,?_,?_⟩
  ·rw [hL];exact qm _ (zx w _)
  ·rw [hL];exact h2
  ·rw [hL];exact s2
  ·exact ((zba w _)).alloc (by simp) _
 rintro _ X ⟨f0,f1,sX,hbX⟩;refine⟨zi r,zj _,za f0,hlt f0,cmo (zbi hr) ?_⟩;rintro e Y ⟨rfl,hbY⟩;have hbwY:=zst hbX hbY;have f0Y:=zb hbY f0;have f1Y:=zb hbY f1;refine biE (fun h=>?_) fun h=>?_
 ·have h:okR r=false:=by
   have h:(!okR r)=true:=h;simpa using h
  have e:qu r=jg:=by unfold qu;rw [h];rfl
  rw [e];exact⟨zi jg,rfl,zE (v := .agg (zi jg).toArray) k48 f1Y rfl rfl (z6 _) ⟨zi jg,zj _,za (zy f1Y),rfl,zz hbwY (by omega) _,fun i _=>(by decide:0<2^64)⟩⟩
 have h:okR r=true:=by
  have h:(!okR r)=false:=h;simpa using h
 obtain⟨p0,p48,_⟩:=zav h;obtain⟨n,hn⟩:∃ n:Nat,r.n=n:=⟨r.n.toNat,by omega⟩;have hn48:n<=48:=by omega
 have e0:qu r=⟨n,zak r.to n⟩:=by unfold qu;rw [Gk h,hn];rfl
 rw [e0];have hnY:Y.cell? ⟨L,0+0,none⟩=some (i64 n):=by rw [<- hn];exact zc (za f0Y) (i:=0) rfl
 refine⟨i64 n,hnY,zi ⟨n,fun _=>0⟩,rfl,?_⟩;have sY:=hbY.size;refine zm (X:=Y) (v := .agg (zi ⟨n,fun _=>0⟩).toArray) k48 rfl rfl (z6 _) fun Z hbZ fZ sZ=>?_;obtain⟨M,hM⟩:=nm (Y.heap.size);rw [<- hM] at fZ sZ;have pM:some (Value.pointer (some ⟨Y.heap.size,0,none⟩))=some (At0 M):=by rw [hM]
 have hbwZ:=zst hbwY hbZ;refine⟨Unit,fun _=>⟨[(1,At0 L),(2,At0 (L+1)),(3,At0 M)],[]⟩,fun _ V=>V.heap[M]?=some (.cells (zi ⟨n,zak r.to n⟩).toArray 48 (0,0))/\V.heap[L+1]?=some (.cells (zi jg).toArray 48 (0,0))/\Bw w V/\zP (zak r.to n),?_,?_⟩
 ·refine⟨i64 n,by rw [<- hn];exact zc (za (zb hbZ f0Y)) (i:=0) rfl,?_⟩;refine⟨Nat,fun k=>⟨[(1,At0 L),(2,At0 (L+1)),(3,At0 M),(16,i64 n),(17,i64 (k:Nat))],[]⟩,
   fun k V=>k<=n/\V.heap[M]?=some (.cells (zi ⟨n,zak r.to k⟩).toArray 48 (0,0))/\zP (zak r.to k)/\Below M Z V,fun k=>n-k,0,
   ⟨.cons rfl (.cons rfl (.cons pM (.cons rfl (.cons rfl .nil)))),rfl⟩,⟨UV _,fZ,fun i _=>(by decide:0<2^64),UX _ _⟩,?_⟩
  rintro k V ⟨hk,fV,hwV,hbV⟩;have sV:=hbV.size;refine biE (fun hc=>?_) fun hc=>?_
  ·have hc:(k:Int)<(n:Int):=dT hc;have hkn:k<n:=by omega
   have step:zak r.to (k+1)=zpD k (els (r.to k)) (zak r.to k):=by
    unfold zak;rw [QT,KR];rfl
   have h48:=zox h hr (a:=k) (by omega);have f0V:V.heap[L]?=some (.cells (zi r).toArray 48 (0,0)):=(hbV.block L (by omega)).trans (zb hbZ f0Y);have hTV:Tz64M V:=hT.below (hbwZ.trans (hbV.mono (by omega)));refine⟨k,rfl,by omega,?_⟩;refine⟨_,zds f0V (by omega),cmo (zaU (hr k (by omega)) hTV) ?_⟩;rintro e U ⟨rfl,hbU⟩;refine⟨(Nat->Nat)×Nat,fun q=>⟨[(1,At0 L),(2,At0 (L+1)),(3,At0 M),(4,i64 (k:Nat)),(5,s64 q.2),(6,i64 ((els q.2).headD 0:Nat)),(7,.bool (!(els q.2).isEmpty)),(16,i64 n),(17,i64 (k:Nat))],[]⟩,
    fun q T=>(zak r.to (k+1)=zpD k (els q.2) q.1/\zP q.1/\q.2<2^64/\∀ b∈els q.2,b<48)/\T.heap[M]?=some (.cells (zi ⟨n,q.1⟩).toArray 48 (0,0))/\Below M Z T,fun q=>q.2,(zak r.to k,r.to k),
    (cvE rfl rfl),⟨⟨step,hwV,hr k (by omega),fun b hb=>(h48 b hb).2⟩,zb hbU fV,hbV.trans (hbU.mono (by omega))⟩,?_⟩
   rintro⟨g,q⟩ T ⟨⟨he,hg,hq,hb48⟩,fT,hbT⟩;dsimp only at he hg hq hb48 fT ⊢;have sT:=hbT.size;refine biE (fun hc=>?_) fun hc=>?_
   ·have h0:=zfS hq hc;obtain⟨e1,e2,_,e3⟩:=jD h0 hq;have hd:=(zbI h0 hq).1;have hc48:ctz q<48:=hb48 _ (by rw [e1];exact Kx);rw [hd];refine DrawE.ord [9] [0,1,2,3,4,5,6,7,8,9] (by kernel_rfl) ⟨ctz q,rfl,hc48,_,zds (hdr fT) hc48,by omega,_,zaa (e:=k) (by omega),_,zaI (hg _ hc48) (z7 (by omega)),ctz q,rfl,hc48,zk k45 (hdr fT) (o:=0+1+ctz q*1) (v:=s64 (g (ctz q)|||2^k)) rfl rfl (by rw [zj];omega) rfl fun S fS gS sS=>?_⟩;rw [UN,UT,zdt _ hc48] at fS;have hdT:Bw T T.drew:=(UX _ T).drew;have hbS:Below M Z S:=(hbT.trans (hdT.mono (show M<=T.heap.size by omega))).trans (zh gS (show M<=T.heap.size by omega) (US _));refine⟨((q-1:Nat):Int),(w64 (a:=(q:Int)-1) (by omega)).trans (by omega),((qS q:Nat):Int),zab (a:=q) (b:=q-1) hq (by omega),cmo (zaU (s:=qS q) (by omega) (hT.below (hbwZ.trans (hbS.mono (by omega))))) ?_⟩;rintro e R ⟨rfl,hbR⟩;have sS2:=hbS.size;refine⟨(upd g (ctz q) (g (ctz q)|||2^k),qS q),(cvE rfl rfl),⟨⟨?_,zeM hg (KW (hg _ hc48) (z7 (by omega))),by show qS q<_;omega,fun b hb=>hb48 b (by rw [e1];exact JV _ hb)⟩,zb hbR fS,hbS.trans (hbR.mono (by omega))⟩,e2⟩;rw [he,e1];rfl
   ·have hc:(els q).isEmpty=true:=(by simpa using hc);have:=zhI hq hc;subst this;rw [zaF] at he;have he:zak r.to (k+1)=g:=he;exact nxI (by omega) ⟨k+1,(cvE rfl rfl),⟨hkn,by rw [he];exact fT,by rw [he];exact hg,hbT⟩,zdc (by omega)⟩
  ·have hc:¬ (k:Int)<(n:Int):=dF hc;obtain rfl:k=n:=by omega
   exact⟨(),(cvE rfl rfl),fV,(hbV.block (L+1) (by omega)).trans (zb hbZ f1Y),hbwZ.trans (hbV.mono (by omega)),hwV⟩
 clear fZ sZ pM hbwZ hbZ Z;rintro _ V ⟨fM,f1V,hbV,hw⟩;exact⟨zi ⟨n,zak r.to n⟩,zj _,za fM,hlt fM,zE (v := .agg (zi ⟨n,zak r.to n⟩).toArray) k48 f1V rfl rfl (z6 _) ⟨zi ⟨n,zak r.to n⟩,zj _,za (zy f1V),rfl,zz hbV (by omega) _,hw⟩⟩
theorem zl1 {p:Nat->Bool} {x:Nat} {l:List Nat}:(x::l).find? p=if p x then some x else l.find? p:=by
 rw [List.find?_cons]
 cases p x <;> rfl
theorem zqd {b left:Nat} (f:w.heap[b]?=some (.cells (zi r).toArray 48 (0,0))) (hr:zP r.to) (hs:left<2^64) (h48:∀ i∈els left,i<48) (hT:Tz64M w) :
  CB 169 #[At0 b,s64 left] w (.tuple #[i64 ((zcX r.to left).getD 0:Nat),.bool (zcX r.to left).isSome]):=by
 refine zD 35 [At0 b,s64 left] Tryz.func169 ?_;refine cmo (zaU hs hT) ?_;rintro e X ⟨rfl,hbX⟩;refine⟨Nat,fun q=>⟨[(0,At0 b),(1,s64 left),(6,s64 q),(7,i64 ((els q).headD 0:Nat)),(8,.bool (!(els q).isEmpty))],[]⟩,
  fun q Y=>zcX r.to left=(els q).find? (fun a=>decide (r.to a&&&left=0))/\(q<2^64/\∀ i∈els q,i<48)/\Bw w Y,fun q=>q,left,
  (cvE rfl rfl),⟨rfl,⟨hs,h48⟩,hbX⟩,?_⟩
 clear hbX X;rintro q X ⟨he,⟨hq,h48⟩,hbX⟩;refine biE (fun hc=>?_) fun hc=>?_
 ·have h0:=zfS hq hc;obtain⟨e1,e2,_,e3⟩:=jD h0 hq;have hd:=(zbI h0 hq).1;have hc48:ctz q<48:=h48 _ (by rw [e1];exact Kx);have fX:=zb hbX f;refine⟨ctz q,Gf Nat.cast hd.symm,hc48,_,zds fX hc48,_,zab (hr _ hc48) hs,?_⟩;rw [e1,zl1] at he;refine biE (fun h=>?_) fun h=>?_
  ·have h:r.to (ctz q)&&&left=0:=Uw (dT h);rw [Up h] at he;have he:zcX r.to left=some (ctz q):=he;exact⟨by rw [he,<- hd];rfl,hbX⟩
  ·have h:¬ r.to (ctz q)&&&left=0:=fun e=>by
    have h:¬ (((r.to (ctz q)&&&left:Nat):Int)=0):=dF h;exact h (by rw [e];rfl)
   rw [Ue h] at he;refine⟨((q-1:Nat):Int),(w64 (a:=(q:Int)-1) (by omega)).trans (by omega),((qS q:Nat):Int),zab (a:=q) (b:=q-1) hq (by omega),cmo (zaU (s:=qS q) (by omega) (hT.below hbX)) ?_⟩;rintro e Y ⟨rfl,hbY⟩;exact⟨qS q,(cvE rfl rfl),⟨he,⟨by omega,fun i hi=>h48 i (by rw [e1];exact JV _ hi)⟩,(zst hbX hbY)⟩,e2⟩
 ·have hc:(els q).isEmpty=true:=by simpa using hc
  have:=zhI hq hc;subst this;rw [zaF] at he;have he:zcX r.to left=none:=he;exact⟨by rw [he];rfl,hbX⟩
end
theorem zdN {s a:Nat} (hs:s<2^64) (ha:a∈els s):els (jn s (2^a))=(els s).filter (fun i => !decide (i=a)):=by
 have ha64:=zqm ha;unfold els;rw [List.filter_filter];apply KO;intro i hi;rw [zcJ (z7 ha64) (Ul.1 hi),Km,Bool.and_comm];congr 2;exact QD.2 ⟨fun h=>h.symm,fun h=>h.symm⟩
theorem zai {s a:Nat} (hs:s<2^64) (ha:a∈els s):(els (jn s (2^a))).length<(els s).length:=by
 rw [zdN hs ha];exact List.length_filter_lt_length_iff_exists.2 ⟨a,ha,by simp⟩
theorem zni {s a:Nat} (hs:s<2^64) (ha:a∈els s):jn s (2^a)<s:=by
 have h1:jn s (2^a)<=s:=QV;have h2:jn s (2^a)≠s:=fun e=>by
  have:=zai hs ha;rw [e] at this;omega
 omega
theorem zdP {n:Nat} (h:n<=64):els (j4 n)=List.range n:=by
 have e:∀ i∈List.range 64,(j4 n).testBit i=decide (i<n):=fun i hi=>by
  rw [zbO (by omega) (by omega) (Ul.1 hi)];exact QD.2 (by omega)
 unfold els;rw [KO e];obtain⟨m,hm⟩:∃ m,64=n+m:=⟨64-n,by omega⟩;rw [hm,List.range_add,Kt];have f1:(List.range n).filter (fun i=>decide (i<n))=List.range n:=by
  rw [List.filter_eq_self];intro i hi;simpa using hi
 have f2:((List.range m).map (n + ·)).filter (fun i=>decide (i<n))=[]:=by
  rw [JB];intro i hi;obtain⟨j,_,rfl⟩:=UG.1 hi;simp
 rw [f1,f2,QH]
theorem znr {before:Nat->Nat} {left a:Nat} (h:zcX before left=some a):a∈els left:=List.mem_of_find?_eq_some h
section
variable {r:RelD} {w:Wd}
theorem zrm (hr:zP r.to) (hT:Tz64M w):Calls PG 161 #[.agg (zi r).toArray] w fun e w' =>
  (∃ p c,e = .returned (.tuple #[.slice p ((zd0 r).getD []).length c,.bool (zd0 r).isSome])/\OwnS zu 3 w.heap.size w' p c ((zd0 r).getD []))/\Bw w w':=by
 refine qP 38 [.agg (zi r).toArray] (.c .p (.s .p (.c .p (.c .p (.s .p .p))))) Tryz.func161 ?_;obtain⟨L,hL⟩:=nm (w.heap.size);refine⟨Unit,fun _=>⟨[(1,At0 L)],[]⟩,fun _ X=>X.heap[L]?=some (.cells (zi r).toArray 48 (0,0))/\X.heap.size=L+1/\Bw w X,⟨(),⟨.cons (by rw [hL];rfl) .nil,rfl⟩,by rw [hL];exact zx w _,by rw [hL];exact wz _ _,(zba w _)⟩,?_⟩;rintro _ X ⟨f0,sX,hbX⟩;refine⟨zi r,zj _,za f0,hlt f0,cmo (zbi hr) ?_⟩;rintro e Y ⟨rfl,hbY⟩;have hbwY:=zst hbX hbY;have f0Y:=zb hbY f0;refine biE (fun h=>?_) fun h=>?_
 ·have h:okR r=false:=by
   have h:(!okR r)=true:=h;simpa using h
  have e:zd0 r=none:=by unfold zd0;rw [h];rfl
  rw [e];exact⟨⟨none,0,rfl,OwnS.nil⟩,hbwY⟩
 have h:okR r=true:=by
  have h:(!okR r)=false:=h;simpa using h
 obtain⟨p0,p48,_⟩:=zav h;obtain⟨n,hn⟩:∃ n:Nat,r.n=n:=⟨r.n.toNat,by omega⟩;have hn48:n<=48:=by omega
 have sY:=hbY.size;refine⟨Nat,fun M=>⟨[(1,At0 L),(4,At0 M)],[]⟩,fun M Z=>Z.heap[M]?=some (.cells (zi (qu r)).toArray 48 (0,0))/\L<M/\Z.heap[L]?=some (.cells (zi r).toArray 48 (0,0))/\zP (qu r).to/\Bw w Z,?_,?_⟩
 ·refine⟨zi r,zj _,za f0Y,hlt f0Y,cmo (zkm hr (hT.below hbwY)) ?_⟩;rintro e Z ⟨rfl,hbZ,hw⟩;refine zm (X:=Z) (v := .agg (zi (qu r)).toArray) k48 rfl rfl (z6 _) fun V hbV fV sV=>?_;have sZ:=hbZ.size;exact⟨Z.heap.size,(cvE rfl rfl),fV,by omega,zb hbV (zb hbZ f0Y),hw,((zst hbwY hbZ)).trans (hbV.mono (by omega))⟩
 clear f0 sX hbX hbY hbwY f0Y sY Y X;rintro M X ⟨fM,hLM,f0,hw,hbX⟩;refine⟨Unit,fun _=>⟨[(1,At0 L),(4,At0 M),(5,s64 (j4 n))],[]⟩,fun _ Y=>X=Y,?_,?_⟩
 ·refine⟨i64 n,by rw [<- hn];exact zc (za f0) (i:=0) rfl,cmo zg7 ?_⟩;rintro e _ ⟨rfl,rfl⟩;exact⟨(),(cvE rfl rfl),rfl⟩
 rintro _ _ rfl;refine⟨i64 n,by rw [<- hn];exact zc (za f0) (i:=0) rfl,zco (E:=zu) Tryz.underlying66 k3 rfl rfl rfl n (by show 8*n<=_;omega) (by unfold maxLen;omega) fun Z oZ hbZ sZ=>?_⟩;have hbwZ:=zst hbX hbZ;have wX:=hbX.size;have eT:zd0 r=zmy (qu r).to 64 (j4 n) []:=by unfold zd0;rw [Gk h,zaB,hn]
 have hMX:=hlt fM;refine⟨Nat×List Nat×Nat×OA×Nat,fun q=>⟨[(1,At0 L),(4,At0 M),(5,s64 q.1),(6,.slice q.2.2.2.1 q.2.1.length q.2.2.2.2)],[]⟩,
  fun q Y=>(zd0 r=zmy (qu r).to q.2.2.1 q.1 q.2.1/\(els q.1).length<=q.2.2.1/\q.2.2.1+q.2.1.length=64/\q.1<2^64/\∀ i∈els q.1,i<48)/\OwnS zu 3 X.heap.size Y q.2.2.2.1 q.2.2.2.2 q.2.1/\Bw X Y,fun q=>q.1,(j4 n,[],64,some ⟨X.heap.size,0,none⟩,n),
  (cvE rfl rfl),⟨⟨eT,zdO _,rfl,zaT _,fun i hi=>by
   rw [show els (j4 n)=List.range n from zdP (by omega)] at hi;have:=Ul.1 hi;omega⟩,oZ,hbZ⟩,?_⟩
 rintro⟨q,l,m,p,c⟩ Y ⟨⟨he,hm,hml,hq,h48⟩,ho,hbY⟩;dsimp only at he hm hml hq h48 ho ⊢;have sY:=hbY.size;refine biE (fun hc=>?_) fun hc=>?_
 ·have hc:(!decide ((q:Int)=0))=true:=hc;have h0:q≠0:=fun e=>by
   subst e;exact Gl hc (by decide)
  obtain⟨e1,_,_,_⟩:=jD h0 hq;have hm1:1<=(els q).length:=by rw [e1];simp
  obtain⟨m,rfl⟩:∃ m',m=m'+1:=⟨m-1,by omega⟩;have fMY:=zb hbY fM;have step:zd0 r=match zcX (qu r).to q with | none=>none | some a=>zmy (qu r).to m (zaD q (2^a)) (l++[a]):=by
   rw [he];show (if q=0 then some l else _)=_;rw [Gj h0]
   cases zcX (qu r).to q <;> rfl
  refine cmo (zqd fMY hw hq h48 (hT.below (hbX.trans (hbY.mono wX)))) ?_;rintro e V ⟨rfl,hbV⟩;have hbXV:=hbY.trans (hbV.mono sY)
  cases hf:zcX (qu r).to q with
  | none =>
   rw [hf] at step;refine brT ?_;have e:zd0 r=none:=step;rw [e];exact⟨⟨none,0,rfl,OwnS.nil⟩,hbX.trans (hbXV.mono wX)⟩
  | some a =>
   rw [hf] at step;refine brF ?_;have ha:=znr hf;have ha48:=h48 a ha;refine⟨⟨by decide,by decide,rfl⟩,zu.enc a,rfl,?_⟩;have hba:Bw V (V.alloc (.cells (zu.enc a).toArray 3)):=zba _ _;have hYa:Bw Y (V.alloc (.cells (zu.enc a).toArray 3)):=zst hbV hba;have sa:(V.alloc (.cells (zu.enc a).toArray 3)).heap.size=V.heap.size+1:=wz _ _;have sV:=hbV.size;refine js (E:=zu) (T:=3) (B:=X.heap.size) (l:=l) (news:=[a]) (cap:=c) (m:=1) Tryz.underlying66 k3 rfl rfl rfl (ho.below hYa) rfl (qJ zu a) (by omega) (by omega) (by show (l.length+1)*8<=_;omega) ?_;intro p2 c2 U oU gU hbU hat;refine⟨by omega,_,zaa (e:=a) (by omega),_,zbx hq (z7 (by omega)),?_⟩;have hlen:=zai hq ha;refine⟨(jn q (2^a),l++[a],m,p2,c2),(cvE rfl rfl),⟨⟨step,by show (els (jn q (2^a))).length<=m;omega,by simp only [lap,Qq,QL];omega,zbF hq,fun i hi=>?_⟩,oU,?_⟩,zni hq ha⟩
   ·rw [zdN hq ha] at hi;exact h48 i (QQ.1 hi).1
   ·exact (hbY.trans (hYa.mono sY)).trans hbU
 ·have hc:(!decide ((q:Int)=0))=false:=hc;have h0:q=0:=by
   have h1:decide ((q:Int)=0)=true:=by simpa using hc
   exact Uw (dT h1)
  subst h0;have e:zd0 r=some l:=by
   rw [he]
   cases m <;> rfl
  rw [e];exact⟨⟨p,c,rfl,OwnS.lower ho wX⟩,hbX.trans (hbY.mono wX)⟩
theorem zmk (hr:zP r.to) (hT:Tz64M w):CB 149 #[.agg (zi r).toArray] w (.bool (zkh r)):=by
 refine zD 11 [.agg (zi r).toArray] Tryz.func149 ?_;have f0:=zx w (.cells (zi r).toArray 48);have hb:Bw w (w.alloc (.cells (zi r).toArray 48)):=zba w _;refine⟨zi r,zj _,za f0,hlt f0,cmo (zrm hr (hT.below hb)) ?_⟩;rintro e X ⟨⟨p,c,rfl,_⟩,hbX⟩;exact⟨rfl,(zst hb hbX)⟩
end
end Go.Proofs.YtpalcnbhkigagaaGreatDoor
namespace Go.Vc
open Go.RowKit
theorem KeepsG.more {F G:Nat->Prop} {A B:Wd} {g:Nat} (h:KeepsG G F A B) (hg:G g):KeepsG G (fun k=>F k\/k=g) A B :=
 ⟨h.os,h.tape,h.output,h.size,h.same,fun k hk=>hk.elim (h.fp k) fun e => .inl (by rw [e];exact hg)⟩
theorem zpl {α:Type} {E:Enc α} {P:Program} {w:Wd} {t T ty B g cap m c:Nat} {a:Addr} {l news:List α} {iT:TI} (hu:P.underlying t=some (.slice T)) (hT:TIok P T iT) (hs:iT.size=E.sz)
  (ho:OwnS E T B w (some ⟨g,0,none⟩) cap l) (hm:news.length=m) (hn:zw w a (news.flatMap E.enc)) (hroom:l.length+m<=cap) {K:Value->Wd->Prop}
  (k:∀ w',OwnS E T B w' (some ⟨g,0,none⟩) cap (l++news)->w.grownBy w' (some g)->K (.slice (some ⟨g,0,none⟩) (l++news).length cap) w') :
  SatR ((Builtin.append_ #[t,t] ty #[.slice (some ⟨g,0,none⟩) l.length cap,.slice (some a) m c]).run P w) K:=by
 obtain⟨⟨inf,hi,hsz,_,_⟩,_⟩:=hT;obtain⟨w',hr,ho',hg⟩:=run_append_fits (P:=P) w B t ty T inf E.sz hu hi (hsz.trans hs) g l.length cap (l.flatMap E.enc) ho a m c (news.flatMap E.enc) (by rw [z8,hm]) hn (zbJ news) hroom;refine SatR.mk hr ?_;have hl:l.length+m=(l++news).length:=by simp [hm]
 have hf:l.flatMap E.enc++news.flatMap E.enc=(l++news).flatMap E.enc:=by rw [Kf]
 rw [hl,hf] at ho';rw [hl];exact k w' ho' hg
theorem OwnS.pref {α:Type} {E:Enc α} {T B cap g:Nat} {w:Wd} {l m:List α} (h:OwnS E T B w (some ⟨g,0,none⟩) cap (l++m)):OwnS E T B w (some ⟨g,0,none⟩) cap l:=by
 rcases h.inv with ⟨h,_⟩ | ⟨g',cur,hg,hB,hc,hl,hm,hs,ht⟩
 ·cases h
 ·simp only [KX,Ur,Ge] at hg;subst hg;unfold OwnS World.ownsRow;refine⟨by rw [z8],.inr ⟨g,cap,cur,rfl,hB,hc,by rw [lap] at hl;omega,hm,hs,?_⟩⟩;have:=Gf (List.take (l.length*E.sz)) ht;rw [List.take_take,Kf,QU (z8 l)] at this;rw [<- this];congr 1;rw [lap,UR];omega
theorem zp {α:Type} {E:Enc α} {T B c:Nat} {Y:Wd} {q:OA} {l:List α} (h:OwnS E T B Y q c l) {a:Addr} (ha:q=some a):B<=a.block/\a.block<Y.heap.size/\∃ cur,Y.heap[a.block]?=some (.cells cur T (0,0)):=by
 rcases h.inv with ⟨h1,_⟩ | ⟨g,cur,h1,h2,h3,_⟩
 ·rw [h1] at ha;cases ha
 ·rw [h1] at ha;cases ha;exact⟨h2,hlt h3,cur,h3⟩
structure Gath {α:Type} (E:Enc α) (T TS B n0 L:Nat) (W:Wd) (NIn:(Nat->Prop)->Wd->α->Prop) (xs:List α) (F:Nat->Prop) (Y:Wd):Prop where
 size:n0<=Y.heap.size
 inL:F L
 lt:∀ k,F k->k<Y.heap.size
 row:∃ (p:OA) (c:Nat),Y.heap[L]?=some (.cells [.slice p xs.length c].toArray TS (0,0))/\OwnS E T B Y p c xs/\∀ a,p=some a->F a.block
 nest:∀ x∈xs,NIn F Y x
 old:Below B W Y
def zg4 {α:Type} (T TS:Nat) (NIn:(Nat->Prop)->Wd->α->Prop):Prop :=
 ∀ (F G:Nat->Prop) (Y Z:Wd) (x:α),NIn F Y x->(∀ k cur T',F k->Y.heap[k]?=some (.cells cur T' (0,0))->T'≠T->T'≠TS->Z.heap[k]?=Y.heap[k]?)->(∀ k,F k->G k)->NIn G Z x
theorem Gath.iter {α σ:Type} {E:Enc α} {T TS B n0 L:Nat} {W:Wd} {NIn:(Nat->Prop)->Wd->α->Prop} {f:σ->List α->Prop} (hN:zg4 T TS NIn) (hB:B<=n0) :
  JG n0 (fun _=>False) (fun (s:σ) F Y=>∃ xs,f s xs/\Gath E T TS B n0 L W NIn xs F Y):=by
 refine⟨?_,?_⟩
 ·rintro s F A C ⟨xs,hf,h⟩ hs;have sf:∀ k,F k->k<A.heap.size->C.heap[k]?=A.heap[k]?:=fun k hk hl=>hs.same k hl (.inr hk);obtain⟨p,c,h1,h2,h3⟩:=h.row;exact⟨xs,hf,UJ h.size hs.size,h.inL,fun k hk=>nL (h.lt k hk) hs.size,⟨p,c,(sf L h.inL (h.lt L h.inL)).trans h1,h2.same fun a ha=>sf _ (h3 a ha) (h.lt _ (h3 a ha)),h3⟩,
   fun x hx=>hN F F A C x (h.nest x hx) (fun k _ _ hk _ _ _=>sf k hk (h.lt k hk)) fun k h=>h,h.old.trans ⟨hs.os,hs.tape,hs.output,hs.size,fun k hk=>hs.same k (nL (nL hk hB) h.size) (.inl ⟨by omega,fun h=>h⟩)⟩⟩
 ·rintro s F A k ⟨xs,_,h⟩ hk;exact⟨h.lt k hk,fun h=>h⟩
theorem Gath.stepX {α:Type} {E:Enc α} {P:Program} {T TS B n0 L ty cap1:Nat} {W Y2 Y3:Wd} {NIn:(Nat->Prop)->Wd->α->Prop} {xs:List α} {F:Nat->Prop} {iT iS:TI} {z:List Value} (hN:zg4 T TS NIn) (hne:T≠TS)
  (hu:P.underlying TS=some (.slice T)) (hT:TIok P T iT) (hz:iT.zero=some z) (hs:iT.size=E.sz) (hzl:z.length=E.sz) (hS:TIok P TS iS) (hS1:iS.size=1)
  (h:Gath E T TS B n0 L W NIn xs F Y2) (hB:B<=n0) (hL:B<=L) (hb3:Bw Y2 Y3) (nx:α) (hl:xs.length+1<=4611686018427387904) (hby:(xs.length+1)*iT.bytes<=140737488355328)
  (zx:∀ (G:Nat->Prop) (Z:Wd),(∀ k,Y2.heap.size<=k->k<Y3.heap.size->Z.heap[k]?=Y3.heap[k]?)->(∀ k,Y2.heap.size<=k->k<Y3.heap.size->G k)->(∀ k cur T',F k->Y2.heap[k]?=some (.cells cur T' (0,0))->T'≠T->T'≠TS->Z.heap[k]?=Y2.heap[k]?)->(∀ k,F k->G k)->NIn G Z nx) :
  ∀ p c,Y2.heap[L]?=some (.cells [.slice p xs.length c].toArray TS (0,0)) ->
  ∃ v Y5,(Builtin.append_ #[TS,TS] ty #[.slice p xs.length c,.slice (some ⟨Y3.heap.size,0,none⟩) 1 cap1]).run P (Y3.alloc (.cells (E.enc nx).toArray T)) = .ok v Y5 /\
   ∃ Z,(storeVar TS ⟨L,0,none⟩ v).run P Y5 = .ok () Z/\∃ F',Gath E T TS B n0 L W NIn (xs++[nx]) F' Z/\KeepsG F F' Y2 Z/\∀ k,F k->F' k:=by
 intro p c h4;obtain⟨p',c',h4',h5,h6⟩:=h.row;rw [h4] at h4';simp at h4';obtain⟨rfl,rfl⟩:=h4';have h1:=h.size;have h2:=h.inL;have h3:=h.lt;have hba:Bw Y3 (Y3.alloc (.cells (E.enc nx).toArray T)):=zba _ _;have sa:(Y3.alloc (.cells (E.enc nx).toArray T)).heap.size=Y3.heap.size+1:=wz _ _;have s3:Y2.heap.size<=Y3.heap.size:=hb3.size;have hb2:Bw Y2 (Y3.alloc (.cells (E.enc nx).toArray T)):=hb3.trans (hba.mono s3);have hap:SatR ((Builtin.append_ #[TS,TS] ty #[.slice p xs.length c,.slice (some ⟨Y3.heap.size,0,none⟩) 1 cap1]).run P (Y3.alloc (.cells (E.enc nx).toArray T))) fun v Y5=>∃ p2 c2,v = .slice p2 (xs++[nx]).length c2/\OwnS E T B Y5 p2 c2 (xs++[nx])/\(Y3.alloc (.cells (E.enc nx).toArray T)).grownBy Y5 (Value.slice p xs.length c).ownBlock/\∀ a,p2=some a->p=some a\/a.block=(Y3.alloc (.cells (E.enc nx).toArray T)).heap.size :=
  js (E:=E) (T:=T) (B:=B) (l:=xs) (news:=[nx]) (cap:=c) (m:=1) hu hT hz hs hzl (h5.below hb2) rfl (by
   have:=zgY (w:=Y3) (cs:=(E.enc nx).toArray) (t:=T);simpa using this) (by omega) (by omega) hby fun p2 c2 Y5 o5 g5 hb5 hat=>⟨p2,c2,rfl,o5,g5,hat⟩
 obtain⟨v,Y5,hrun,p2,c2,rfl,o5,g5,hat⟩:=hap;have pb:∀ {k:Nat},(Value.slice p xs.length c).ownBlock=some k->∃ a,p=some a/\a.block=k:=fun {k} e=>by
  cases hp:p with
  | none=>rw [hp] at e;simp [Value.ownBlock] at e
  | some a =>
   rw [hp] at e;simp only [Value.ownBlock,KX] at e;exact⟨a,rfl,e⟩
 have h4':Y5.heap[L]?=some (.cells [.slice p xs.length c].toArray TS (0,0)):=by
  refine (g5.block L (hlt (zb hb2 h4)) fun e=>?_).trans (zb hb2 h4);obtain⟨a,hp,e⟩:=pb e.symm;obtain⟨_,_,cur,hcur⟩:=zp h5 hp;rw [e,h4] at hcur;simp at hcur;exact hne hcur.2.symm
 have hst:SatR ((storeVar TS ⟨L,0,none⟩ (.slice p2 (xs++[nx]).length c2)).run P Y5) fun _ Z=>Z.heap[L]?=some (.cells [.slice p2 (xs++[nx]).length c2].toArray TS (0,0))/\Y5.grownBy Z (some L)/\Z.heap.size=Y5.heap.size :=
  zk hS h4' (o:=0) (v := .slice p2 (xs++[nx]).length c2) rfl hS1 (by show 0<1;decide) rfl fun Z fZ gZ sZ=>⟨fZ,gZ,sZ⟩
 obtain⟨u,Z,hrun2,fZ,gZ,sZ⟩:=hst;have s5:=g5.size;refine⟨_,Y5,hrun,Z,hrun2,fun k=>F k\/(Y2.heap.size<=k/\k<Z.heap.size),?_⟩;have wr:∀ k,k<Y2.heap.size->k≠L->(∀ a,p=some a->k≠a.block)->Z.heap[k]?=Y2.heap[k]?:=fun k hk hne hnp=>by
  refine (gZ.block k (by omega) (by simpa using hne)).trans ((g5.block k (by omega) fun e=>?_).trans (hb2.block k hk));obtain⟨a,hp,e⟩:=pb e.symm;exact hnp a hp e.symm
 have new:∀ k,Y2.heap.size<=k->k<Y3.heap.size->Z.heap[k]?=Y3.heap[k]?:=fun k hk1 hk2=>by
  have hL2:=h3 L h2;refine (gZ.block k (by omega) (by simp;omega)).trans ((g5.block k (by omega) fun e=>?_).trans (hba.block k hk2));obtain⟨a,hp,e⟩:=pb e.symm;have:=h3 _ (h6 a hp);omega
 have ty':∀ k cur T',F k->Y2.heap[k]?=some (.cells cur T' (0,0))->T'≠T->T'≠TS->Z.heap[k]?=Y2.heap[k]?:=fun k cur T' hk hc t1 t2=>by
  refine wr k (h3 k hk) (fun e=>?_) fun a ha e=>?_
  ·rw [e,h4] at hc;simp at hc;exact t2 hc.2.symm
  ·obtain⟨_,_,cur',hcur'⟩:=zp h5 ha;rw [<- e,hc] at hcur';simp at hcur';exact t1 hcur'.2
 refine⟨⟨by omega,.inl h2,fun k hk=>?_,⟨p2,c2,fZ,o5.kept gZ fun g hg e=>?_,fun a ha=>?_⟩,fun y hy=>?_,?_⟩,⟨gZ.os.trans (g5.os.trans hb2.os),gZ.tape.trans (g5.tape.trans hb2.tape),gZ.output.trans (g5.output.trans hb2.output),by omega,fun k hk hf=>wr k hk (fun e=>hf (by rw [e];exact h2)) (fun a ha e=>hf (by rw [e];exact h6 a ha)),fun k hk=>hk.imp id fun h=>h.1⟩,fun k hk => .inl hk⟩
 ·rcases hk with hk | hk
  ·have:=h3 k hk;omega
  ·exact hk.2
 ·obtain⟨_,_,cur,hcur⟩:=zp o5 hg;simp only [KX] at e;have hcur:Y5.heap[g]?=_:=hcur;rw [<- e,h4'] at hcur;simp at hcur;exact hne hcur.2.symm
 ·rcases hat a ha with h | h
  ·exact .inl (h6 a h)
  ·have:=(zp o5 ha).2.1;exact .inr ⟨by omega,by omega⟩
 ·rcases QO.1 hy with hy | hy
  ·exact hN F _ Y2 Z y (h.nest y hy) ty' fun k hk => .inl hk
  ·simp only [Ky] at hy;subst hy;exact zx _ Z new (fun k hk1 hk2 => .inr ⟨hk1,by omega⟩) ty' fun k hk => .inl hk
 ·refine h.old.trans ⟨gZ.os.trans (g5.os.trans hb2.os),gZ.tape.trans (g5.tape.trans hb2.tape),gZ.output.trans (g5.output.trans hb2.output),by omega,fun k hk=>wr k (by omega) (by omega) fun a ha=>?_⟩;have:=(zp h5 ha).1;omega
theorem Gath.step {α:Type} {E:Enc α} {P:Program} {T TS B n0 L ty cap1:Nat} {W Y2 Y3:Wd} {NIn:(Nat->Prop)->Wd->α->Prop} {xs:List α} {F:Nat->Prop} {iT iS:TI} {z:List Value} (hN:zg4 T TS NIn) (hne:T≠TS)
  (hu:P.underlying TS=some (.slice T)) (hT:TIok P T iT) (hz:iT.zero=some z) (hs:iT.size=E.sz) (hzl:z.length=E.sz) (hS:TIok P TS iS) (hS1:iS.size=1)
  (h:Gath E T TS B n0 L W NIn xs F Y2) (hB:B<=n0) (hL:B<=L) (hb3:Bw Y2 Y3) (nx:α) (hl:xs.length+1<=4611686018427387904) (hby:(xs.length+1)*iT.bytes<=140737488355328)
  (zx:∀ (G:Nat->Prop) (Z:Wd),(∀ k,Y2.heap.size<=k->k<Y3.heap.size->Z.heap[k]?=Y3.heap[k]?)->(∀ k,Y2.heap.size<=k->k<Y3.heap.size->G k)->NIn G Z nx) :
  ∀ p c,Y2.heap[L]?=some (.cells [.slice p xs.length c].toArray TS (0,0)) ->
  ∃ v Y5,(Builtin.append_ #[TS,TS] ty #[.slice p xs.length c,.slice (some ⟨Y3.heap.size,0,none⟩) 1 cap1]).run P (Y3.alloc (.cells (E.enc nx).toArray T)) = .ok v Y5 /\
   ∃ Z,(storeVar TS ⟨L,0,none⟩ v).run P Y5 = .ok () Z/\∃ F',Gath E T TS B n0 L W NIn (xs++[nx]) F' Z/\KeepsG F F' Y2 Z/\∀ k,F k->F' k :=
 h.stepX hN hne hu hT hz hs hzl hS hS1 hB hL hb3 nx hl hby fun G Z h1 h2 _ _=>zx G Z h1 h2
end Go.Vc
namespace Go.Proofs.YtpalcnbhkigagaaGreatDoor
open Go.Vc Go.RowKit Go.Sei
abbrev zaz (X : Wd) (b : Nat) (r : RelD) : Prop := X.heap[b]? = some (.cells (zi r).toArray 48 (0, 0))
def StO (pre : List (List Nat)) (vs : List Value) (W : Wd) : Prop := ∃ l q c, pre.getLast? = some l ∧ vs = [.slice q l.length c] ∧ SlR zu W q l ∧ (q = none → c = 0) ∧ ∀ a, q = some a → ∃ cur, W.heap[a.block]? = some (.cells cur 3 (0, 0))
section
variable {yl n0 n bB : Nat} {J Jx : List (List Nat) → (Nat → Prop) → Wd → Prop} {xs : List (List Nat)} {r : RelD}
theorem zns (hJ : JG n0 (fun _ => False) J) (hn0 : ∀ pre F X, J pre F X → n0 ≤ X.heap.size) (hy : ∀ pre x vs F W1, J pre F W1 → StO (pre ++ [x]) vs W1 → (pre ++ [x]) <+: xs → YieldR PG yl vs.toArray W1 fun v W2 =>
      (v = .bool true ∧ ∃ F', J (pre ++ [x]) F' W2 ∧ KeepsG F F' W1 W2) ∨ (v = .bool false ∧ ∃ F', Jx (pre ++ [x]) F' W2)) (hr : zP r.to) (hn : n ≤ 48) (ht0 : 1 < n0) :
    ∀ (m left : Nat) (l : List Nat) (g : Nat) (pre : List (List Nat)) (F : Nat → Prop) (X : Wd), (els left).length ≤ m → left < 2 ^ 64 → (∀ i ∈ els left, i < 48) → l.length + (els left).length ≤ n → OwnS zu 3 n0 X (some ⟨g, 0, none⟩) n l → ¬ F g → J pre F X → zaz X bB r → ¬ F bB → n0 ≤ bB → bB ≠ g → Tz64M X → ¬ F 1 → (pre ++ zal r.to m left l) <+: xs →
      Calls PG 150 #[At0 bB, s64 left, .slice (some ⟨g, 0, none⟩) l.length n, .func (.yield yl) #[] #[]] X fun e Y =>
        (e = .returned (.bool true) ∧ ∃ F', J (pre ++ zal r.to m left l) F' Y ∧ KeepsG (fun k => F k ∨ k = g) F' X Y ∧ OwnS zu 3 n0 Y (some ⟨g, 0, none⟩) n l ∧ ¬ F' g) ∨ (e = .returned (.bool false) ∧ ∃ pre' F', pre' <+: xs ∧ Jx pre' F' Y) := by
  intro m
  induction m with
  | zero =>
    intro left l g pre F X hm hlt64 h48 hln ho hFg hj hR hFb hbn hbg hT hFt hpre
    have h0 : left = 0 := by
      apply Jn
      intro h0
      rw [(jD h0 hlt64).1] at hm
      simp at hm
    subst h0
    refine jc (S := sg 56) (zaY _) (args := [At0 bB, s64 0, .slice (some ⟨g, 0, none⟩) l.length n, .func (.yield yl) #[] #[]]) Tryz.func150 rfl rfl (JQ rfl) rfl ?_
    refine brT ?_
    have hs : zal r.to 0 0 l = [l] := rfl
    rw [hs] at hpre ⊢
    refine YieldR.mono (hy pre l [.slice (some ⟨g, 0, none⟩) l.length n] F X hj ⟨l, _, n, by simp, rfl, ho.row, fun h => (by cases h), fun a ha => (zp ho ha).2.2⟩ hpre) ?_
    rintro v Z (⟨rfl, F', hJZ, hKZ⟩ | ⟨rfl, F', hJZ⟩)
    · have hgl : g < X.heap.size := (zp ho rfl).2.1
      exact .inl ⟨rfl, F', hJZ, hKZ.weak fun k h => .inl h, ho.same fun a ha => by cases ha; exact hKZ.same g hgl hFg, fun h => by
        rcases hKZ.fp g h with h | h
        · exact hFg h
        · omega⟩
    · exact .inr ⟨rfl, _, F', hpre, hJZ⟩
  | succ m ih =>
    intro left l g pre F X hm hlt64 h48 hln ho hFg hj hR hFb hbn hbg hT hFt hpre
    refine jc (S := sg 56) (zaY _) (args := [At0 bB, s64 left, .slice (some ⟨g, 0, none⟩) l.length n, .func (.yield yl) #[] #[]]) Tryz.func150 rfl rfl (JQ rfl) rfl ?_
    have hgl : g < X.heap.size := (zp ho rfl).2.1
    have hgn : n0 ≤ g := (zp ho rfl).1
    refine Gc (fun h => ?_) (fun h => ?_)
    · have h : left = 0 := Uw (Qa h)
      subst h
      have hs : zal r.to (m + 1) 0 l = [l] := rfl
      rw [hs] at hpre ⊢
      refine YieldR.mono (hy pre l [.slice (some ⟨g, 0, none⟩) l.length n] F X hj ⟨l, _, n, by simp, rfl, ho.row, fun h => (by cases h), fun a ha => (zp ho ha).2.2⟩ hpre) ?_
      rintro v Z (⟨rfl, F', hJZ, hKZ⟩ | ⟨rfl, F', hJZ⟩)
      · exact .inl ⟨rfl, F', hJZ, hKZ.weak fun k h => .inl h, ho.same fun a ha => by cases ha; exact hKZ.same g hgl hFg, fun h => by
        rcases hKZ.fp g h with h | h
        · exact hFg h
        · omega⟩
      · exact .inr ⟨rfl, _, F', hpre, hJZ⟩
    have h : left ≠ 0 := fun e => (KG h) (by rw [e]; rfl)
    obtain ⟨G, hG⟩ : ∃ G : Nat → List (List Nat), G = fun a => if r.to a &&& left = 0 then zal r.to m (zaD left (2 ^ a)) (l ++ [a]) else [] := ⟨_, rfl⟩
    have hs : zal r.to (m + 1) left l = (els left).flatMap G := by
      rw [hG]
      show (if left = 0 then [l] else _) = _
      rw [Gj h]
    rw [hs] at hpre ⊢
    refine UY (zaU hlt64 hT) ?_
    rintro e X1 ⟨rfl, hb1⟩
    refine ⟨Nat × List Nat × (Nat → Prop), fun s => ⟨[(0, At0 bB), (1, s64 left), (2, .slice (some ⟨g, 0, none⟩) l.length n), (3, .func (.yield yl) #[] #[]), (9, s64 s.1), (10, i64 ((els s.1).headD 0 : Nat)), (11, .bool (!(els s.1).isEmpty))], []⟩,
      fun s Z => (els left = s.2.1 ++ els s.1 ∧ s.1 < 2 ^ 64) ∧ J (pre ++ s.2.1.flatMap G) s.2.2 Z ∧ OwnS zu 3 n0 Z (some ⟨g, 0, none⟩) n l ∧ ¬ s.2.2 g ∧ zaz Z bB r ∧ ¬ s.2.2 bB ∧ Tz64M Z ∧ ¬ s.2.2 1 ∧ KeepsG (fun k => F k ∨ k = g) s.2.2 X Z, fun s => s.1, (left, [], F),
      ⟨.cons rfl (.cons rfl (.cons rfl (.cons rfl (.cons rfl (.cons rfl (.cons rfl .nil)))))), rfl⟩, ⟨⟨rfl, hlt64⟩, by show J (pre ++ []) F X1; rw [QH]; exact hJ.step _ _ _ _ hj (.below hb1), ho.below hb1, hFg, zb hb1 hR, hFb, hT.below hb1, hFt, KeepsG.below hb1 fun k h => .inl (.inl h)⟩, ?_⟩
    rintro ⟨q, don, F1⟩ Z ⟨⟨he, hq⟩, hjZ, hoZ, hgZ, hRZ, hbZ, hTZ, htZ, kZ⟩
    dsimp only at he hq hjZ hgZ hbZ htZ kZ ⊢
    have hZn := hn0 _ _ _ hjZ
    refine Gc (fun hc => ?_) (fun hc => ?_)
    · have h0 := zfS hq hc
      obtain ⟨e1, e2, _, e3⟩ := jD h0 hq
      have hd := (zbI h0 hq).1
      have hmem : ctz q ∈ els left := by rw [he, e1]; simp
      have hc48 : ctz q < 48 := h48 _ hmem
      rw [e1] at he
      have hpa : ∀ t, (don ++ [ctz q]).flatMap t = don.flatMap t ++ t (ctz q) := fun t : Nat → List (List Nat) => by
        rw [Kf, KQ, Qn, QH]
      have next : ∀ {Y : Wd} {F2 : Nat → Prop}, J (pre ++ (don ++ [ctz q]).flatMap G) F2 Y → OwnS zu 3 n0 Y (some ⟨g, 0, none⟩) n l → ¬ F2 g → zaz Y bB r → ¬ F2 bB → Tz64M Y → ¬ F2 1 → KeepsG (fun k => F k ∨ k = g) F2 X Y →
          ∀ Y2, Below Y.heap.size Y Y2 → ((els left = (don ++ [ctz q]) ++ els (qS q) ∧ qS q < 2 ^ 64) ∧ J (pre ++ (don ++ [ctz q]).flatMap G) F2 Y2 ∧ OwnS zu 3 n0 Y2 (some ⟨g, 0, none⟩) n l ∧ ¬ F2 g ∧ zaz Y2 bB r ∧ ¬ F2 bB ∧ Tz64M Y2 ∧ ¬ F2 1 ∧ KeepsG (fun k => F k ∨ k = g) F2 X Y2) :=
        fun {Y F2} a1 a2 a3 a4 a5 a6 a7 a8 Y2 hb => ⟨⟨by rw [he]; simp, by omega⟩, hJ.step _ _ _ _ a1 (.below hb), a2.below hb, a3, zb hb a4, a5, a6.below hb, a7, a8.trans (KeepsG.below hb fun k h => .inl h)⟩
      refine DrawE.ord [18, 20] [0, 1, 2, 3, 4, 5, 6, 7, 8, 9, 10, 11, 12, 13, 14, 15, 16, 19, 17, 18, 20, 21, 22] (by kernel_rfl) ?_
      have hdZ : Below Z.heap.size Z Z.drew := (UX _ _).drew
      refine ⟨ctz q, Gf Nat.cast hd.symm, hc48, ?_⟩
      refine ⟨_, zds (hdr hRZ) hc48, ?_⟩
      refine ⟨_, zab (hr _ hc48) hlt64, ?_⟩
      refine Gc (fun hb => ?_) (fun hb => ?_)
      · have hb : r.to (ctz q) &&& left = 0 := Uw (Qa hb)
        have hGc : G (ctz q) = zal r.to m (zaD left (2 ^ ctz q)) (l ++ [ctz q]) := by rw [hG]; exact Gk hb
        refine ⟨by omega, ((2 ^ ctz q : Nat) : Int), by rw [hd]; exact zaa (e := ctz q) (by omega), ?_⟩
        refine ⟨_, zbx hlt64 (z7 (by omega)), ?_⟩
        refine ⟨⟨by decide, by decide, rfl⟩, zu.enc (ctz q), by rw [hd]; rfl, ?_⟩
        have hba : Below Z.drew.heap.size Z.drew (Z.drew.alloc (.cells (zu.enc (ctz q)).toArray 3)) := (UX _ _).alloc (US _) _
        refine ⟨hba, ?_⟩
        have hbA : Below Z.heap.size Z (Z.drew.alloc (.cells (zu.enc (ctz q)).toArray 3)) := hdZ.trans hba
        have hll := zai hlt64 hmem
        refine zpl (E := zu) (l := l) (news := [ctz q]) (m := 1) Tryz.underlying66 (jC.get 3 _ rfl) rfl (hoZ.below hbA) rfl (qJ zu (ctz q)) (by
          have : 1 ≤ (els left).length := by rw [he]; simp; omega
          omega) ?_
        intro Y oY gY
        have hjY := hJ.step _ _ _ _ (hJ.step _ _ _ _ hjZ (.below hbA)) (StepG.grown gY (.inl hgn) hgZ)
        have sA : (Z.drew.alloc (.cells (zu.enc (ctz q)).toArray 3)).heap.size = Z.heap.size + 1 := QC _ _
        have hRY : zaz Y bB r := (gY.block bB (hlt (zb hbA hRZ)) (by simpa using hbg)).trans (zb hbA hRZ)
        have htl := zac hTZ
        have hTY : Tz64M Y := jM (hTZ.below hbA) (gY.block _ (by omega) (by
          intro e
          have : 1 = g := by simpa using e
          omega))
        have hpre2 : ((pre ++ don.flatMap G) ++ zal r.to m (zaD left (2 ^ ctz q)) (l ++ [ctz q])) <+: xs := by
          refine List.IsPrefix.trans ?_ hpre
          rw [he, ← hGc, Kf, KQ]
          exact ⟨(els (qS q)).flatMap G, by simp only [KM]⟩
        refine UY (ih (jn left (2 ^ ctz q)) (l ++ [ctz q]) g (pre ++ don.flatMap G) F1 Y (by omega) (zbF hlt64) (fun i hi => by
          rw [zdN hlt64 hmem] at hi
          exact h48 i (QQ.1 hi).1) (by simp only [List.length_append, Qq, QL]; omega) oY hgZ hjY hRY hbZ hbn hbg hTY htZ hpre2) ?_
        rintro e V (⟨rfl, F2, hjV, kV, oV, hgV⟩ | ⟨rfl, pre', F2, hp', hjx⟩)
        · refine brF ?_
          have kZY : KeepsG (fun k => F1 k ∨ k = g) (fun k => F1 k ∨ k = g) Z Y := (KeepsG.below hbA fun k h => .inl h).trans (KeepsG.grown gY (.inr rfl))
          have kW : KeepsG (fun k => F k ∨ k = g) F2 X V := ((kZ.more (.inr rfl)).trans kZY).trans kV
          have sY := gY.size
          have kYV := kV.size
          have hbV : ¬ F2 bB := fun h => by
            have := hlt hRY
            rcases kV.fp bB h with (h | h) | h
            · exact hbZ h
            · exact hbg h
            · omega
          have htV : ¬ F2 1 := fun h => by
            rcases kV.fp _ h with (h | h) | h
            · exact htZ h
            · omega
            · omega
          have hRV : zaz V bB r := (kV.same bB (hlt hRY) (fun h => h.elim hbZ hbg)).trans hRY
          have hTV : Tz64M V := jM hTY (kV.same _ (by omega) (fun h => h.elim htZ fun e => by omega))
          refine ⟨((q - 1 : Nat) : Int), (w64 (a := (q : Int) - 1) (by omega)).trans (by omega), ?_⟩
          refine ⟨((qS q : Nat) : Int), zab (a := q) (b := q - 1) hq (by omega), ?_⟩
          refine UY (zaU (s := qS q) (by omega) hTV) ?_
          rintro e U ⟨rfl, hbU⟩
          exact ⟨(qS q, don ++ [ctz q], F2), ⟨.cons rfl (.cons rfl (.cons rfl (.cons rfl (.cons rfl (.cons rfl (.cons rfl .nil)))))), rfl⟩, next (by rw [hpa, hGc, ← KM]; exact hjV) oV.pref hgV hRV hbV hTV htV kW U hbU, e2⟩
        · refine brT ?_
          exact .inr ⟨rfl, pre', F2, hp', hjx⟩
      · have hb : ¬ r.to (ctz q) &&& left = 0 := fun e => (KG hb) (by rw [e]; rfl)
        have hGc : G (ctz q) = [] := by rw [hG]; exact Gj hb
        refine brF ?_
        refine ⟨((q - 1 : Nat) : Int), (w64 (a := (q : Int) - 1) (by omega)).trans (by omega), ?_⟩
        refine ⟨((qS q : Nat) : Int), zab (a := q) (b := q - 1) hq (by omega), ?_⟩
        refine UY (zaU (s := qS q) (by omega) (hTZ.below hdZ)) ?_
        rintro e Y ⟨rfl, hbY⟩
        exact ⟨(qS q, don ++ [ctz q], F1), ⟨.cons rfl (.cons rfl (.cons rfl (.cons rfl (.cons rfl (.cons rfl (.cons rfl .nil)))))), rfl⟩, next (by rw [hpa, hGc, QH]; exact hjZ) hoZ hgZ hRZ hbZ hTZ htZ kZ Y (hdZ.trans hbY), e2⟩
    · have hc : (els q).isEmpty = true := by simpa using hc
      have := zhI hq hc
      subst this
      rw [zaF, QH] at he
      rw [he]
      exact .inl ⟨rfl, F1, hjZ, kZ, hoZ, hgZ⟩
end
section
variable {r:RelD}
theorem zrl {bx:Nat} {W0:Wd} (hr:zP r.to) (hn:r.n<=48) (fx:zaz W0 bx r) (hT:Tz64M W0) :
  zg5 PG 148 [At0 bx] (zbc r) W0 (fun k=>k=bx\/k=1) (fun _=>False) StO:=by
 intro yl F0 J Jx W hsz hrd hrf hJ hJx hy h0;have fxW:zaz W bx r:=(hrd bx (.inl (.inl rfl))).trans fx;have hTW:Tz64M W:=jM hT (hrd _ (.inl (.inr rfl)));refine zD 17 [.func (.yield yl) #[] #[],At0 bx] Tryz.func148 ?_;refine⟨zi r,zj _,za fxW,hlt fxW,cmo (zmk hr hTW) ?_⟩;rintro e X ⟨rfl,hbX⟩;refine biE (fun h=>?_) fun h=>?_
 ·have h:zkh r=false:=by
   have h:(!zkh r)=true:=h;simpa using h
  have hs:zbc r=[]:=by unfold zbc;rw [h];rfl
  rw [hs];exact⟨⟨_,rfl⟩,.inl ⟨F0,hJ.step _ _ _ _ h0 (.below hbX)⟩⟩
 have h:zkh r=true:=by
  have h:(!zkh r)=false:=h;simpa using h
 have hs:zbc r=zal (qu r).to 64 (jX r.n) []:=by unfold zbc;rw [h];rfl
 rw [hs] at hy ⊢;refine⟨zi r,zj _,za (zb hbX fxW),hlt (zb hbX fxW),cmo (zkm hr (hTW.below hbX)) ?_⟩;rintro e Y ⟨rfl,hbY,hrB⟩;have hbXY:=zst hbX hbY;refine zm (X:=Y) (v := .agg (zi (qu r)).toArray) k48 (zj _) (by kernel_rfl) (z6 _) fun V hbV fV sV=>?_;have hbV2:=zst hbXY hbV;have fxV:=zb hbV2 fxW;have hTV:=hTW.below hbV2;have hok:okR r=true:=by
  unfold zkh zd0 at h
  split at h
  ·assumption
  ·simp at h
 obtain⟨p0,p48,_⟩:=zav hok;obtain⟨n,hnn⟩:∃ n:Nat,r.n=n:=⟨r.n.toNat,by omega⟩;have hn48:n<=48:=by omega
 have hal:els (j4 n)=List.range n:=zdP (by omega);have wY:=hbXY.size;have hbVF:¬ F0 Y.heap.size:=fun h=>by have:=(hJ.lt _ _ _ _ h0 h).1;omega
 have htl:=zac hTW;have hJn:JG W.heap.size (fun _=>False) (fun pre F Z=>J pre F Z/\W.heap.size<=Z.heap.size):=⟨fun s F A B ⟨h,hn⟩ hs=>⟨hJ.step _ _ _ _ h hs,UJ hn hs.size⟩,fun s F A k ⟨h,_⟩ hk=>hJ.lt _ _ _ _ h hk⟩;have hal2:jX r.n=j4 n:=by rw [zaB,hnn]
 have main:∀ Z:Wd,OwnS zu 3 V.heap.size Z (some ⟨V.heap.size,0,none⟩) n []->Bw V Z->Calls PG 150 #[At0 Y.heap.size,s64 (j4 n),.slice (some ⟨V.heap.size,0,none⟩) 0 n,.func (.yield yl) #[] #[]] Z fun e Y2=>(∃ v,e = .returned v)/\((∃ F',J (zal (qu r).to 64 (jX r.n) []) F' Y2)\/∃ pre F',pre <+: zal (qu r).to 64 (jX r.n) []/\Jx pre F' Y2):=by
  intro Z oZ hbZ;have hbWZ:Bw W Z:=zst hbV2 hbZ;refine cmo (zns (l:=[]) (J:=fun pre F Z=>J pre F Z/\W.heap.size<=Z.heap.size) (Jx:=Jx) (n0:=W.heap.size) (n:=n) (bB:=Y.heap.size) (r:=qu r) (xs:=zal (qu r).to 64 (jX r.n) []) hJn (fun _ _ _ h=>h.2) (fun pre x vs F W1 ⟨hj,hn⟩ hst hpre=>YieldR.mono (hy pre x vs F W1 hj hst hpre) fun v W2 h=>?_) hrB hn48 htl 64 (j4 n) V.heap.size [] F0 Z (zdO _) (zaT _) (fun i hi=>by
   rw [hal] at hi;have:=Ul.1 hi;omega) (by rw [hal];simp) (oZ.lower hbV2.size) (fun h=>?_) ⟨hJ.step _ _ _ _ h0 (.below hbWZ),hbWZ.size⟩ (zb hbZ fV) hbVF wY (by omega) (hTV.below hbZ) (hrf _ (.inr rfl)) (by rw [hal2];exact List.prefix_refl _)) ?_
  ·rcases h with ⟨rfl,F',h1,h2⟩ | h
   ·exact .inl ⟨rfl,F',⟨h1,UJ hn h2.size⟩,h2⟩
   ·exact .inr h
  ·have:=(hJ.lt _ _ _ _ h0 h).1;have:=hbV2.size;omega
  ·rintro e Y2 (⟨rfl,F',⟨hj,_⟩,_⟩ | ⟨rfl,pre',F',h1,h2⟩)
   ·rw [hal2];exact⟨⟨_,rfl⟩,.inl ⟨F',hj⟩⟩
   ·exact⟨⟨_,rfl⟩,.inr ⟨pre',F',h1,h2⟩⟩
 refine DrawE.treeQ [7] (.op 0 (.op 1 (.op 3 (.op 4 (.op 6 (.alt (.op 2 (.op 5 (.op 7 .nil))) (.op 5 (.op 2 (.op 7 .nil))))))))) (by kernel_rfl) ⟨i64 n,by rw [<- hnn];exact zc (za fxV) (i:=0) rfl,i64 n,by rw [<- hnn];exact zc (za fxV) (i:=0) rfl,Gc ?_ ?_⟩
 ·refine cmo zg7 ?_;rintro e _ ⟨rfl,rfl⟩;refine⟨UX _ _,zco (E:=zu) Tryz.underlying66 k3 rfl rfl rfl n (by show 8*n<=_;omega) (by unfold maxLen;omega) fun Z oZ hbZ sZ=>⟨hbZ,cmo (main Z oZ (((UX _ V).drew).trans hbZ)) ?_⟩⟩;rintro e Y2 ⟨⟨v,rfl⟩,h⟩;exact⟨⟨_,rfl⟩,h⟩
 ·refine zco (E:=zu) Tryz.underlying66 k3 rfl rfl rfl n (by show 8*n<=_;omega) (by unfold maxLen;omega) fun Z oZ hbZ sZ=>⟨hbZ,cmo zg7 ?_⟩;rintro e _ ⟨rfl,rfl⟩;refine⟨UX _ _,cmo (main Z oZ (((UX _ V).drew).trans hbZ)) ?_⟩;rintro e Y2 ⟨⟨v,rfl⟩,h⟩;exact⟨⟨_,rfl⟩,h⟩
theorem zqD {w:Wd}:Calls PG 108 #[.agg (zi r).toArray] w fun e w'=>e = .returned (.func (.func 148) #[] #[At0 w.heap.size])/\zaz w' w.heap.size r/\w'.heap.size=w.heap.size+1/\Bw w w':=by
 refine zD 4 [.agg (zi r).toArray] Tryz.func108 ?_;exact⟨rfl,zx w _,wz _ _,(zba w _)⟩
theorem zmr {b:Nat} {m:Nat} {w:Wd} (hr:zP r.to) (fb:zaz w b r):CB 107 #[At0 b,i64 m] w (.bool (decide (m<=10000)&&okR r)):=by
 refine zD 17 [At0 b,i64 m] Tryz.func107 ?_;refine biE (fun h=>?_) fun h=>?_
 ·refine biE (fun h2=>?_) fun h2=>?_
  ·have h2:(m:Int)<=10000:=dT h2;refine⟨zi r,zj _,za fb,hlt fb,cmo (zbi hr) ?_⟩;rintro e Y ⟨rfl,hbY⟩;exact⟨rb (by rw [Up (show m<=10000 by omega),Uv]),hbY⟩
  ·have h2:¬ (m:Int)<=10000:=dF h2;exact⟨rb (by rw [Ue (show ¬ m<=10000 by omega),Ug]),UX _ _⟩
 ·have h:¬ (0:Int)<=m:=dF h;omega
end
def qG:Enc (List Nat×OA×Nat) where
 sz:=1
 enc x:=[.slice x.2.1 x.1.length x.2.2]
 len x:=rfl
 one x v hv:=by
  simp at hv;subst hv;rfl
 pos:=by decide
theorem zod {p:OA} {cap:Nat} {l:List Nat} {w:Wd} (hl:SlR zu w p l) (hn:l.length<=100000) (hc:p=none->cap=0) :
  Calls PG 109 #[.slice p l.length cap] w fun e w'=>(∃ q c,e = .returned (.slice q l.length c)/\OwnS zu 3 w.heap.size w' q c l)/\Bw w w':=by
 refine zD 8 [.slice p l.length cap] Tryz.func109 ?_;refine⟨_,fun w=>zqk Tryz.underlying66 _ _ p l.length cap w,?_⟩
 cases p with
 | none =>
  refine brT ?_;have e:=hl.none;subst e;exact⟨⟨none,0,rfl,OwnS.nil⟩,UX _ _⟩
 | some a =>
  refine brF ⟨⟨by decide,by decide,rfl⟩,[],rfl,?_⟩;have hb0:Bw w (w.alloc (.cells #[] 3)):=zba w _;refine zeZ (E:=zu) (T:=3) (B:=w.heap.size) (l:=[]) (news:=l) (cap:=0) Tryz.underlying66 k3 rfl rfl rfl zfk rfl (hl.below hb0) (fun h=>by cases h) hb0.size (by simp;omega) (by show (0+l.length)*8<=_;omega) ?_;intro p' cap' w' ho hg hbw;exact⟨⟨p',cap',rfl,ho⟩,hb0.trans hbw⟩
def zqG (B:Nat) (F:Nat->Prop) (Y:Wd) (x:List Nat×OA×Nat):Prop:=OwnS zu 3 B Y x.2.1 x.2.2 x.1/\∀ a,x.2.1=some a->F a.block
theorem zec (B:Nat):zg4 66 85 (zqG B):=by
 rintro F G Y Z x ⟨h1,h2⟩ hs hFG;refine⟨h1.same fun a ha=>?_,fun a ha=>hFG _ (h2 a ha)⟩;obtain⟨_,_,cur,hc⟩:=zp h1 ha;exact hs _ cur 3 (h2 a ha) hc (by decide) (by decide)
theorem zoQ {before:Nat->Nat}:∀ (m left:Nat) (l:List Nat),∀ x∈zal before m left l,x.length<=l.length+m:=by
 intro m
 induction m with
 | zero =>
  intro left l x hx;unfold zal at hx
  split at hx
  ·simp only [Ky] at hx;subst hx;omega
  ·cases hx
 | succ m ih =>
  intro left l x hx;unfold zal at hx
  split at hx
  ·simp only [Ky] at hx;subst hx;omega
  ·obtain⟨a,_,ha⟩:=List.mem_flatMap.1 hx
   split at ha
   ·have:=ih _ _ _ ha;simp only [lap,Qq,QL] at this;omega
   ·cases ha
theorem zkL {r:RelD} {x:List Nat} (h:x∈zbc r):x.length<=64:=by
 unfold zbc at h
 split at h
 ·have:=zoQ _ _ _ x h;simpa using this
 ·cases h
def AscB (xs:List (List Nat×OA×Nat)):Prop:=xs.Pairwise fun x y=>∀ a b,x.2.1=some a->y.2.1=some b->a.block<b.block
theorem AscB.snoc {xs:List (List Nat×OA×Nat)} {n:Nat} {y:List Nat×OA×Nat} (h:AscB xs) (h1:∀ x∈xs,∀ a,x.2.1=some a->a.block<n) (h2:∀ a,y.2.1=some a->n<=a.block):AscB (xs++[y]):=by
 unfold AscB;rw [List.pairwise_append];refine⟨h,List.pairwise_singleton _ _,fun x hx z hz a b ha hb=>?_⟩;rw [Ky.1 hz] at hb;exact nL (h1 x hx a ha) (h2 b hb)
abbrev zrb:List (List Nat×OA×Nat):=[]
theorem zn7 {r:RelD} {m:Nat} {w:Wd} (hr:zP r.to) (hT:Tz64M w) (hm:m<=10000) (hok:okR r=true) :
  Calls PG 81 #[.agg (zi r).toArray,i64 m] w fun e w' =>
   (((zbc r).length<=m/\∃ (xs:List (List Nat×OA×Nat)) (p:OA) (c:Nat),e = .returned (.tuple #[.slice p xs.length c,i64 0])/\xs.map (·.1)=zbc r/\AscB xs/\OwnS qG 66 w.heap.size w' p c xs/\∀ x∈xs,OwnS zu 3 w.heap.size w' x.2.1 x.2.2 x.1) \/
    (m<(zbc r).length/\e = .returned (.tuple #[.slice none 0 0,i64 5])))/\Bw w w':=by
 refine qP 24 [.agg (zi r).toArray,i64 m] (.c .p (.s .p (.c .p .p))) Tryz.func81 ?_;obtain⟨L,hL⟩:=nm (w.heap.size);refine⟨Unit,fun _=>⟨[(2,At0 L),(3,At0 (L+1)),(4,At0 (L+2)),(5,At0 (L+3))],[]⟩,fun _ X=>(zaz X L r/\X.heap[L+1]?=some (.cells #[i64 m] 3 (0,0))/\X.heap[L+2]?=some (.cells #[.slice none 0 0] 85 (0,0))/\X.heap[L+3]?=some (.cells #[i64 0] 34 (0,0)))/\X.heap.size=L+4/\Bw w X,?_,?_⟩
 ·have s1:=wz w (.cells (zi r).toArray 48);have h2:=zx (w.alloc (.cells (zi r).toArray 48)) (.cells #[i64 m] 3 (0,0));have s2:=wz (w.alloc (.cells (zi r).toArray 48)) (.cells #[i64 m] 3 (0,0));have h3:=zx ((w.alloc (.cells (zi r).toArray 48)).alloc (.cells #[i64 m] 3 (0,0))) (.cells #[.slice none 0 0] 85 (0,0));have s3:=wz ((w.alloc (.cells (zi r).toArray 48)).alloc (.cells #[i64 m] 3 (0,0))) (.cells #[.slice none 0 0] 85 (0,0));have h4:=zx (((w.alloc (.cells (zi r).toArray 48)).alloc (.cells #[i64 m] 3 (0,0))).alloc (.cells #[.slice none 0 0] 85 (0,0))) (.cells #[i64 0] 34 (0,0));have s4:=wz (((w.alloc (.cells (zi r).toArray 48)).alloc (.cells #[i64 m] 3 (0,0))).alloc (.cells #[.slice none 0 0] 85 (0,0))) (.cells #[i64 0] 34 (0,0));rw [s1] at h2 s2;rw [s2] at h3 s3;rw [s3] at h4 s4;rw [<- hL] at h2 s2 h3 s3 h4 s4;have f0:=qm (.cells #[i64 0] 34 (0,0)) (qm (.cells #[.slice none 0 0] 85 (0,0)) (qm (.cells #[i64 m] 3 (0,0)) (zx w (.cells (zi r).toArray 48))));rw [<- hL] at f0;exact⟨(),⟨.cons (by rw [hL];rfl) (.cons (by rw [hL,<- s1];rfl) (.cons (by rw [<- s2];rfl) (.cons (by rw [<- s3];rfl) .nil))),rfl⟩,⟨f0,qm _ (qm _ h2),qm _ h3,h4⟩,s4,((((zba w _)).alloc (by simp) _).alloc (by simp;omega) _).alloc (by simp;omega) _⟩
 rintro _ X ⟨⟨f0,f1,f2,f3⟩,sX,hbX⟩;refine⟨_,zc (za f1) (i:=0) rfl,cmo (zmr hr f0) ?_⟩;rintro e Y ⟨rfl,hbY⟩;refine brN (by rw [hok,Up hm];rfl) ?_;have hwY:=zst hbX hbY;obtain⟨M,hM⟩:=nm (Y.heap.size);have hMX:L+4<=M:=by have:=hbY.size;omega
 refine⟨Unit,fun _=>⟨[(2,At0 L),(3,At0 (L+1)),(4,At0 (L+2)),(5,At0 (L+3)),(6,At0 M)],[]⟩,fun _ V=>V.heap[M]?=some (.cells #[.slice none 0 0] 85 (0,0))/\V.heap.size=M+1/\Bw X V,?_,?_⟩
 ·exact⟨(),⟨.cons rfl (.cons rfl (.cons rfl (.cons rfl (.cons (by rw [hM];rfl) .nil)))),rfl⟩,by rw [hM];exact zx Y _,by rw [hM];exact wz Y _,hbY.alloc hbY.size _⟩
 rintro _ V ⟨fM,sV,hbV⟩;have hwV:=zst hbX hbV;have f0:=zb hbV f0;have f1:=zb hbV f1;have f2:=zb hbV f2;have f3:=zb hbV f3;refine⟨zi r,zj _,za f0,hlt f0,cmo zqD ?_⟩;rintro e W ⟨rfl,fx,sW,hbW⟩;obtain⟨p0,p48,_⟩:=zav hok;have hwW:=zst hwV hbW;have htl:=zac hT;have hI:=zrl hr p48 fx (hT.below hwW);have f1:=zb hbW f1;have f2:=zb hbW f2;have f3:=zb hbW f3;have fM:=zb hbW fM;have hwL:w.heap.size=L:=hL.symm;clear hbV hbY hwY hbX f0 sX;refine zcj (zaY _) rfl (lb := #[At0 V.heap.size]) rfl rfl hI (US _) (fun k hk=>⟨?_,rfl⟩) (fun pre vs W ⟨l,q,c,_,h,_⟩=>by rw [h];rfl) (by decide)
  (fun k=>k=M\/k=L+2\/k=L+3)
  (fun pre F Z=>(∃ xs,(xs.map (·.1)=pre/\pre.length<=m/\AscB xs)/\Gath qG 66 85 (L+4) W.heap.size M W (zqG (L+4)) xs F Z)/\F (L+2)/\F (L+3))
  (fun ex pre F Z=>ex = .ret/\m<(zbc r).length/\Z.heap[L+2]?=some (.cells #[.slice none 0 0] 85 (0,0))/\Z.heap[L+3]?=some (.cells #[i64 5] 34 (0,0))/\Bw w Z/\W.heap.size<=Z.heap.size/\F (L+2)/\F (L+3)/\∀ k,F k->k<Z.heap.size)
  (fun k hk=>?_) ⟨?_,?_⟩ (fun ex=>⟨?_,?_⟩) ?_ ?_ ?_ ?_
 ·rcases hk with (rfl | rfl) | h
  ·omega
  ·have:=hwW.size;omega
  ·exact h.elim
 ·rcases hk with rfl | rfl <;> omega
 ·rintro pre F A C ⟨h,h2,h3⟩ hs;exact⟨(Gath.iter (σ:=List (List Nat)) (f:=fun pre xs=>xs.map (·.1)=pre/\pre.length<=m/\AscB xs) (zec (L+4)) (by omega)).step pre F A C h hs,h2,h3⟩
 ·rintro pre F A k ⟨h,_⟩ hk;exact (Gath.iter (σ:=List (List Nat)) (f:=fun pre xs=>xs.map (·.1)=pre/\pre.length<=m/\AscB xs) (zec (L+4)) (by omega)).lt pre F A k h hk
 ·rintro pre F A C ⟨h1,h2,h3,h4,h5,h6,h7,h8,h9⟩ hs;exact⟨h1,h2,(hs.same _ (hlt h3) (.inr h7)).trans h3,(hs.same _ (hlt h4) (.inr h8)).trans h4,h5.trans ⟨hs.os,hs.tape,hs.output,hs.size,fun k hk=>hs.same k (nL hk h5.size) (.inl ⟨by omega,fun h=>h⟩)⟩,UJ h6 hs.size,h7,h8,fun k hk=>nL (h9 k hk) hs.size⟩
 ·rintro pre F A k ⟨h1,h2,h3,h4,h5,h6,h7,h8,h9⟩ hk;exact⟨h9 k hk,fun h=>h⟩
 ·refine⟨⟨zrb,⟨rfl,UV _,List.Pairwise.nil⟩,⟨US _,.inl rfl,fun k hk=>?_,⟨none,0,fM,OwnS.nil,fun a h=>by cases h⟩,fun x hx=>(by cases hx),UX _ _⟩⟩,.inr (.inl rfl),.inr (.inr rfl)⟩;rcases hk with rfl | rfl | rfl <;> omega
 ·rintro yl pre x vs F Y hyl hpre hJ ⟨l,q,c,hlast,rfl,hsl,hqc,hcel⟩ hfy ⟨lo,hlo⟩;have hxR:x=l:=by simpa using hlast
  subst hxR;refine⟨rfl,F,KeepsG.refl _ _,hJ,?_⟩;rintro o Y2 hY2 ⟨⟨xs,⟨hxs,hpm,hasc⟩,hG⟩,hF2,hF3⟩;have hpl:pre.length<(zbc r).length:=by
   obtain⟨t,ht⟩:=hpre;rw [<- ht];simp only [lap,Qq];omega
  have hxl:xs.length=pre.length:=by rw [<- hxs,QK]
  have hmem:x∈zbc r:=hpre.subset (by simp);have hlen:=zkL hmem;have hslY:SlR zu Y2 q x:=by
   rw [hY2];refine qF hsl fun a ha=>zg fun e=>?_;obtain⟨cur,hcur⟩:=hcel a ha;rw [e,hlo] at hcur
   cases hcur
  obtain⟨p,c',h4,h5,h6⟩:=hG.row;have hWL:L+4<=W.heap.size:=by omega
  have g1:Y2.heap[L+1]?=some (.cells #[i64 m] 3 (0,0)):=(hG.old.block _ (by omega)).trans f1;refine⟨_,zc (za h4) (i:=0) rfl,_,zc (za g1) (i:=0) rfl,biE (fun hc=>?_) fun hc=>?_⟩
  ·have hc:((xs.length:Nat):Int)=(m:Int):=dT hc;have g2:Y2.heap[L+2]?=some (.cells #[.slice none 0 0] 85 (0,0)):=(hG.old.block _ (by omega)).trans f2;have g3:Y2.heap[L+3]?=some (.cells #[i64 0] 34 (0,0)):=(hG.old.block _ (by omega)).trans f3;refine zk k85 g2 (o:=0) (v := .slice none 0 0) rfl rfl (by show 0<1;decide) rfl fun Z1 fZ1 gZ1 sZ1=>zk k34 ((gZ1.block (L+3) (hlt g3) (by simp)).trans g3) (o:=0) (v:=i64 5) rfl rfl (by show 0<1;decide) rfl fun Z2 fZ2 gZ2 sZ2=>⟨F,⟨rfl,by omega,(gZ2.block (L+2) (hlt fZ1) (by simp)).trans fZ1,fZ2,?_,by have:=hG.size;omega,hF2,hF3,fun k hk=>by have:=hG.lt k hk;omega⟩,(KeepsG.grown gZ1 hF2).trans (KeepsG.grown gZ2 hF3)⟩;have hwY:=hwW.trans (hG.old.mono (by omega));exact (hwY.trans (zh gZ1 hwY.size (by omega))).trans (zh gZ2 (by have:=hwY.size;omega) (by omega))
  ·have hc:¬ ((xs.length:Nat):Int)=(m:Int):=dF hc;refine DrawE.ord [4,5] [0,1,2,3,4,5] (by kernel_rfl) ?_;have hd2:Bw Y2 Y2.drew:=(UX _ _).drew;refine⟨_,zc (za (hdr h4)) (i:=0) rfl,cmo (zod (hslY.below hd2) (by omega) hqc) ?_⟩;rintro e Y3 ⟨⟨q1,k1,rfl,o1⟩,hb3⟩;refine⟨hb3,?_⟩;obtain⟨nx,hnx⟩:∃ nx:List Nat×OA×Nat,nx=(x,q1,k1):=⟨_,rfl⟩;have hen:[Value.slice q1 x.length k1]=qG.enc nx:=by rw [hnx];rfl
   refine⟨⟨by decide,by decide,rfl⟩,qG.enc nx,by rw [<- hen];rfl,?_⟩;have hba:Bw Y3 (Y3.alloc (.cells (qG.enc nx).toArray 66)):=zba _ _;refine⟨hba,?_⟩;have hnw:∀ (G:Nat->Prop) (Z:Wd),(∀ k,Y2.heap.size<=k->k<Y3.heap.size->Z.heap[k]?=Y3.heap[k]?)->(∀ k,Y2.heap.size<=k->k<Y3.heap.size->G k)->zqG (L+4) G Z nx:=by
    intro G Z hs hg;rw [hnx];have ol:∀ a,q1=some a->Y2.heap.size<=a.block/\a.block<Y3.heap.size:=fun a ha=>⟨(zp o1 ha).1,(zp o1 ha).2.1⟩;have hY2s:=hG.size;exact⟨OwnS.lower (o1.same fun a ha=>hs _ (ol a ha).1 (ol a ha).2) (by show L+4<=Y2.heap.size;omega),fun a ha=>hg _ (ol a ha).1 (ol a ha).2⟩
   obtain⟨v,Y5,hrun,Z,hrun2,F',hG',hK',hFF⟩:=hG.step (P:=PG) (ty:=85) (cap1:=1) (zec (L+4)) (by decide) Tryz.underlying85 k66 rfl rfl rfl k85 rfl (by omega) (by omega) (hd2.trans hb3) nx (by omega) (by show (xs.length+1)*24<=_;omega) hnw p c' h4;exact SatR.mk hrun (SatR.mk hrun2 ⟨F',⟨⟨_,⟨by rw [QN,hxs,hnx];rfl,by simp only [lap,Qq,QL];omega,hasc.snoc (n:=Y2.heap.size) (fun x' hx' a ha=>(zp (hG.nest x' hx').1 ha).2.1) (fun a ha=>by rw [hnx] at ha;exact (zp o1 ha).1)⟩,hG'⟩,hFF _ hF2,hFF _ hF3⟩,hK'⟩)
 ·rintro D F Y hD hfD ⟨⟨xs,⟨hxs,hpm,hasc⟩,hG⟩,hF2,hF3⟩ hdef;obtain⟨p,c',h4,h5,h6⟩:=hG.row;have hWL:L+4<=W.heap.size:=by omega
  have g2:Y.heap[L+2]?=some (.cells #[.slice none 0 0] 85 (0,0)):=(hG.old.block _ (by omega)).trans f2;have g3:Y.heap[L+3]?=some (.cells #[i64 0] 34 (0,0)):=(hG.old.block _ (by omega)).trans f3;refine⟨_,zc (za h4) (i:=0) rfl,zk k85 g2 (o:=0) (v := .slice p xs.length c') rfl rfl (by show 0<1;decide) rfl fun Z1 fZ1 gZ1 sZ1=>zk k34 ((gZ1.block (L+3) (hlt g3) (by simp)).trans g3) (o:=0) (v:=i64 0) rfl rfl (by show 0<1;decide) rfl fun Z2 fZ2 gZ2 sZ2=>?_⟩;have k2:∀ k,k<Y.heap.size->k≠L+2->k≠L+3->Z2.heap[k]?=Y.heap[k]?:=fun k hk n1 n2=>(gZ2.block k (by rw [sZ1];exact hk) (by simpa using n2)).trans (gZ1.block k hk (by simpa using n1));refine⟨_,rfl,(k2 D (hlt hdef) (by omega) (by omega)).trans hdef,?_⟩;have f2':=(gZ2.block (L+2) (hlt fZ1) (by simp)).trans fZ1;have nD2:D≠L+2:=fun e=>hfD (e▸hF2);have nD3:D≠L+3:=fun e=>hfD (e▸hF3);have hwY:=hwW.trans (hG.old.mono (by omega));have b2:=(hwY.trans (zh gZ1 hwY.size (by omega))).trans (zh gZ2 (by have:=hwY.size;omega) (by omega));have kp:∀ a:Addr,L+4<=a.block->F a.block->a.block<Y.heap.size->(Z2.putObj D (.deferred none)).heap[a.block]?=Y.heap[a.block]?:=fun a h1 h2 h3=>(zg fun e=>by rw [<- e] at hfD;exact hfD h2).trans (k2 _ h3 (by omega) (by omega));refine⟨.slice p xs.length c',zc (za ((zg fun e=>nD2 e.symm).trans f2')) (i:=0) rfl,i64 0,zc (za ((zg fun e=>nD3 e.symm).trans fZ2)) (i:=0) rfl,.inl ⟨by rw [<- hxs,QK] at hpm ⊢;exact hpm,xs,p,c',rfl,hxs,hasc,?_,fun x hx=>?_⟩,qB b2 (by omega) _⟩
  ·exact OwnS.lower (h5.same fun a ha=>kp a (zp h5 ha).1 (h6 a ha) (zp h5 ha).2.1) (by omega)
  ·obtain⟨hx1,hx2⟩:=hG.nest x hx;exact OwnS.lower (hx1.same fun a ha=>kp a (zp hx1 ha).1 (hx2 a ha) (zp hx1 ha).2.1) (by omega)
 ·rintro D ex pre F Y hD hfD hpre ⟨rfl,hm2,h3,h4,h5,h6,h7,h8,h9⟩ hdef;refine⟨_,rfl,hdef,?_⟩;have nD2:D≠L+2:=fun e=>hfD (e▸h7);have nD3:D≠L+3:=fun e=>hfD (e▸h8);exact⟨_,zc (za ((zg fun e=>nD2 e.symm).trans h3)) (i:=0) rfl,_,zc (za ((zg fun e=>nD3 e.symm).trans h4)) (i:=0) rfl,.inr ⟨hm2,rfl⟩,qB h5 (by have:=hwW.size;omega) _⟩
theorem zob {p:OA} {cap:Nat} {l:List Nat} {s:Nat} {w:Wd} (hl:SlR zu w p l) (hn:l.length<=140737488351232) :
  Calls PG 106 #[.slice p l.length cap,i64 s] w fun e w'=>∃ n:Int,e = .returned (i64 n)/\decide (0<=n)=l.any (fun q=>decide (q=s))/\w=w':=by
 refine zD 19 [.slice p l.length cap,i64 s] Tryz.func106 ?_;refine⟨Nat,fun k=>⟨[(0,.slice p l.length cap),(1,i64 s),(7,i64 l.length),(8,i64 (k:Nat))],[]⟩,fun k X=>k<=l.length/\(∀ q∈l.take k,¬ q=s)/\w=X,fun k=>l.length-k,0,(cvE rfl rfl),⟨UV _,by simp,rfl⟩,?_⟩;rintro k _ ⟨hk,hno,rfl⟩;dsimp only at hk hno ⊢;refine biE (fun hc=>?_) fun hc=>?_
 ·have hc:(k:Int)<(l.length:Int):=dT hc;have hkl:k<l.length:=by omega
  obtain⟨b,o,rfl,hb,hat⟩:=hl.at hkl;refine⟨k,rfl,hkl,i64 l[k],zc (hat k hkl) (i:=0) rfl,biE (fun h=>?_) fun h=>?_⟩
  ·have h:(s:Int)=(l[k]:Nat):=dT h;refine⟨k,rfl,?_,rfl⟩;rw [Up (by omega)];symm;rw [Qi];exact⟨l[k],gM _,Up (by omega)⟩
  ·have h:¬ (s:Int)=(l[k]:Nat):=dF h;refine⟨(k+1:Nat),(ze (by omega)).trans (by omega),k+1,(cvE rfl rfl),⟨hkl,?_,rfl⟩,zdc (by omega)⟩;rw [tsg hkl];intro q hq;rcases QO.1 hq with hq | hq
   ·exact hno q hq
   ·simp only [Ky] at hq;rw [hq];exact fun e=>h (by rw [e])
 ·have hc:¬ (k:Int)<(l.length:Int):=dF hc;obtain rfl:k=l.length:=by omega
  rw [Qu] at hno;refine⟨-1,rfl,?_,rfl⟩;symm;show _=false;rw [KL];exact fun q hq=>by simpa using hno q hq
theorem zjl {p:OA} {cap:Nat} {l:List Nat} {s:Nat} {w:Wd} (hl:SlR zu w p l) (hn:l.length<=140737488351232) :
  Calls PG 77 #[.slice p l.length cap,i64 s] w fun e w'=>e = .returned (.bool (l.any fun q=>decide (q=s)))/\w=w':=by
 refine zD 9 [.slice p l.length cap,i64 s] Tryz.func77 ?_;refine cmo (zob hl hn) ?_;rintro e _ ⟨n,rfl,h,rfl⟩;exact⟨rb h,rfl⟩
abbrev zhm (l:List Nat):List Value:=l.map fun n:Nat=>i64 n
abbrev RowI (Z:Wd) (g:Nat) (l:List Nat):Prop:=Z.heap[g]?=some (.cells (zhm l).toArray 3 (0,0))
theorem zdB:∀ l:List Nat,l.flatMap zu.enc=zhm l
 | []=>rfl
 | a::l=>by
  show i64 a::l.flatMap zu.enc=i64 a::zhm l;rw [zdB l]
theorem zhX:∀ n,zbp [Value.int IntKind.i64 0] n=zhm (List.replicate n 0)
 | 0=>rfl
 | n+1=>by
  show Value.int IntKind.i64 0::zbp [Value.int IntKind.i64 0] n=i64 0::zhm (List.replicate n 0);rw [<- zhX n];rfl
theorem RowI.sl {Z:Wd} {g:Nat} {l:List Nat} (h:RowI Z g l):SlR zu Z (some ⟨g,0,none⟩) l :=
 SlR.of_cells (hlt h) (by rw [zdB];exact za h)
theorem zlJ {α:Type} {f:Nat->α} {n j:Nat} (h:j<n):((List.range j).map f++[f j]) <+: (List.range n).map f:=by
 obtain⟨m,rfl⟩:∃ m,n=(j+1)+m:=⟨n-(j+1),by omega⟩;rw [List.range_add,QN];exact⟨_,by rw [QT,QN];rfl⟩
def StD (pre:List (List Nat)) (vs:List Value) (W:Wd):Prop:=∃ l q,pre.getLast?=some l/\vs=[.slice q l.length l.length]/\SlR zu W q l/\∀ a,q=some a->∃ cur,W.heap[a.block]?=some (.cells cur 3 (0,0))
section
variable {bx:Nat} {sizes:List Nat} {q:OA} {c:Nat} {W0:Wd}
theorem zps (fx:W0.heap[bx]?=some (.cells #[.slice q sizes.length c] 66 (0,0))) (hl:SlR zu W0 q sizes) (hql:∀ a,q=some a->a.block<W0.heap.size) (hn:sizes.length<=1000) (hm:∀ n∈sizes,n<=1000000) :
  zg5 PG 76 [At0 bx] (jx sizes) W0 (fun k=>k=bx\/∃ a,q=some a/\k=a.block) (fun _=>False) StD:=by
 intro yl F0 J Jx W hsz hrd hrf hJ hJx hy h0;have fxW:=(hrd bx (.inl (.inl rfl))).trans fx;have hlW:SlR zu W q sizes:=qF hl fun a ha=>hrd _ (.inl (.inr ⟨a,ha,rfl⟩));refine zD 43 [.func (.yield yl) #[] #[],At0 bx] Tryz.func76 ?_;refine⟨_,zc (za fxW) (i:=0) rfl,cmo (zjl (s:=0) hlW (by omega)) ?_⟩;rintro e _ ⟨rfl,rfl⟩;refine biE (fun h=>?_) fun h=>?_
 ·have h:(sizes.any fun q=>decide (q=0))=true:=h;obtain⟨z,hz,hz0⟩:=Qi.1 h;have hz0:z=0:=dT hz0;subst hz0;have hs:jx sizes=[]:=by unfold jx;rw [zc5 (by simpa using hz)];rfl
  rw [hs];exact⟨⟨_,rfl⟩,.inl ⟨F0,h0⟩⟩
 have h:(sizes.any fun q=>decide (q=0))=false:=h;obtain⟨rs,hrs⟩:=nm (sizes.reverse);have hr0:∀ n∈rs,n≠0:=fun n hn e=>by
  rw [KL] at h;exact h n (by rw [hrs] at hn;simpa using hn) (Up e)
 have hlen:rs.length=sizes.length:=by rw [hrs,Ki]
 refine⟨_,zc (za fxW) (i:=0) rfl,zcI Tryz.underlying66 k3 rfl rfl (by decide) sizes.length (by show 8*_<=_;omega) (by omega) fun X fX hbX sX=>?_⟩;rw [zhX] at fX;obtain⟨D,hD⟩:∃ D:Nat->List Nat,D=fun j=>(j0 rs j).reverse:=⟨_,rfl⟩;have hDl:∀ j,(D j).length=sizes.length:=fun j=>by rw [hD];show ((j0 rs j).reverse).length=_;rw [Ki,zdR,hlen]
 have hds:jx sizes=(List.range (zO rs)).map D:=by unfold jx;rw [hD,hrs]
 have hP:0<zO rs:=zgB hr0;have hD0:D 0=List.replicate sizes.length 0:=by
  rw [hD];show (j0 rs 0).reverse=_;rw [zgV,List.reverse_replicate,hlen]
 rw [<- hD0] at fX;rw [hds] at hy ⊢;obtain⟨g,hg⟩:=nm (W.heap.size);rw [<- hg] at fX;have hbxW:=hlt fxW;refine⟨Nat×(Nat->Prop),fun s=>⟨[(0,.func (.yield yl) #[] #[]),(1,At0 bx),(3,.slice (some ⟨g,0,none⟩) sizes.length sizes.length)],[]⟩,
  fun s Z=>s.1<zO rs/\J ((List.range s.1).map D) s.2 Z/\RowI Z g (D s.1)/\¬ s.2 g/\W.heap.size<=Z.heap.size/\Z.heap[bx]?=some (.cells #[.slice q sizes.length c] 66 (0,0))/\¬ s.2 bx/\RowF zu W.heap.size s.2 Z q sizes,
  fun s=>zO rs-s.1,(0,F0),⟨.cons rfl (.cons rfl (.cons (by rw [hg];rfl) .nil)),rfl⟩,
  ⟨hP,hJ.step _ _ _ _ h0 (.below hbX),fX,fun h=>by have:=(hJ.lt _ _ _ _ h0 h).1;omega,hbX.size,zb hbX fxW,hrf _ (.inl rfl),⟨hlW.below hbX,fun a ha=>⟨by have:=hql a ha;omega,hrf _ (.inr ⟨a,ha,rfl⟩)⟩⟩⟩,?_⟩
 rintro⟨j,F⟩ Z ⟨hj,hjZ,fZ,hgF,hWZ,fxZ,hbF,hqZ⟩;dsimp only at hj hjZ fZ hgF fxZ hbF hqZ ⊢;have hpre:((List.range j).map D++[D j]) <+: (List.range (zO rs)).map D:=zlJ hj;refine YieldR.mono (hy _ (D j) [.slice (some ⟨g,0,none⟩) sizes.length sizes.length] F Z hjZ ⟨D j,_,by simp,by rw [hDl j],fZ.sl,fun a ha=>(by cases ha;exact⟨_,fZ⟩)⟩ hpre) ?_;rintro v Y (⟨rfl,F',hjY,kY⟩ | ⟨rfl,F',hjY⟩)
 ·refine brT ?_;have hgZ:=hlt fZ;have fY:RowI Y g (D j):=(kY.same g hgZ hgF).trans fZ;have hgF':¬ F' g:=fun h=>by
   rcases kY.fp g h with h | h
   ·exact hgF h
   ·omega
  have fxY:=(kY.same bx (hlt fxZ) hbF).trans fxZ;have hbF':¬ F' bx:=fun h=>by
   rcases kY.fp bx h with h | h
   ·exact hbF h
   ·have:=hlt fxZ;omega
  have hqY:=hqZ.keep hWZ kY (fun _ _ h=>h);have hWY:=UJ hWZ kY.size;have hjY2:J ((List.range (j+1)).map D) F' Y:=by
   rw [QT,QN];exact hjY
  clear hjY hpre fZ fxZ hqZ hjZ hWZ hgZ hgF hbF kY;refine⟨((sizes.length:Nat):Int)-1,ze (by omega),?_⟩;have hgn:W.heap.size<=g:=by omega
  have hbg:bx≠g:=by omega
  refine⟨Nat,fun t=>⟨[(0,.func (.yield yl) #[] #[]),(1,At0 bx),(3,.slice (some ⟨g,0,none⟩) sizes.length sizes.length),(4,i64 (((sizes.length:Nat):Int)-1-(t:Nat)))],[]⟩,
   fun t V=>t<=sizes.length/\zf4 rs j t/\RowI V g ((List.replicate t 0++(j0 rs j).drop t).reverse)/\J ((List.range (j+1)).map D) F' V/\W.heap.size<=V.heap.size/\V.heap[bx]?=some (.cells #[.slice q sizes.length c] 66 (0,0))/\RowF zu W.heap.size F' V q sizes,fun t=>sizes.length-t,0,
   ⟨.cons rfl (.cons rfl (.cons rfl (.cons (by rw [Int.ofNat_zero,Int.sub_zero];rfl) .nil))),rfl⟩,⟨UV _,zka _ _,by rw [hD] at fY;exact fY,hjY2,hWY,fxY,hqY⟩,?_⟩
  clear fY fxY hqY hjY2 hWY;rintro t V ⟨ht,hc,fV,hjV,hWV,fxV,hqV⟩;dsimp only at ht hc fV hjV ⊢;have hLl:(j0 rs j).length=sizes.length:=by rw [zdR,hlen]
  refine DrawE.ord [] [0,1,2,3,4,5,6,7,8,9,10,11,12,13] (by kernel_rfl) (biE (fun hi=>?_) fun hi=>?_)
  ·have hi:(0:Int)<=((sizes.length:Nat):Int)-1-(t:Nat):=dT hi;have htl:t<sizes.length:=by omega
   obtain⟨i,hit⟩:∃ i,i+t+1=sizes.length:=⟨sizes.length-1-t,by omega⟩;have hii:((sizes.length:Nat):Int)-1-(t:Nat)=(i:Nat):=by omega
   rw [hii];obtain⟨d,hd⟩:∃ d,(j0 rs j)[t]?=some d:=⟨_,gE (by omega)⟩;obtain⟨n,hn⟩:∃ n,rs[t]?=some n:=⟨_,gE (by omega)⟩;have hil:i<sizes.length:=by omega
   have hsn:sizes[i]=n:=by
    have:=JJ (l:=sizes) (i:=t) htl;rw [<- hrs,hn,show sizes.length-1-t=i by omega,gE hil] at this;exact (Uc this).symm
   have hnm:n∈sizes:=by rw [<- hsn];exact gM hil
   have hn1:=hm n hnm;have hn0:n≠0:=hr0 n (by rw [hrs];simpa using hnm);have zdG:=zpQ hd (i:=i) (by omega);have hdn:d<n:=by
    obtain⟨A,ns,k,c1,c2,c3,c4,c5⟩:=hc
    cases ns with
    | nil=>rw [c1,QH,JI (by omega)] at hn;cases hn
    | cons m ns =>
     have hm':m=n:=by
      rw [c1,Jl (by omega),c2,UL] at hn;exact Uc hn
     have:=Gf (fun l=>l[0]?) c4;simp only [Ku,UI] at this;rw [hd] at this;have:d=k%m:=Uc this;rw [this,hm'];exact Gb _ (by omega)
   have hrl:((List.replicate t 0++(j0 rs j).drop t).reverse).length=sizes.length:=by simp;omega
   refine⟨i,rfl,hil,?_⟩;have hrc:(zhm (List.replicate t 0++(j0 rs j).drop t).reverse)[i*1]?=some (i64 d):=by
    rw [UT,KS,zdG];rfl
   refine⟨i64 d,zc (za (hdr fV)) hrc,_,zc (za (hdr fxV)) (i:=0) rfl,?_⟩;obtain⟨bq,oq,hqe,hlq,hatq⟩:=hqV.row.at hil;subst hqe;refine⟨i,rfl,hil,i64 n,by rw [<- hsn];exact zc (zo (UX _ V).drew (hatq i hil)) (i:=0) rfl,((n:Nat):Int)-1,ze (by omega),biE (fun he=>?_) fun he=>?_⟩
   ·have he:(d:Int)=(n:Int)-1:=dT he;have hrs2:=zkz hd (i:=i) (by omega) 0;refine⟨i,rfl,hil,zk k3 (hdr fV) (o:=0+i*1) (v:=i64 0) rfl rfl (by rw [QK,hrl];omega) rfl fun V1 fV1 gV1 sV1=>⟨((sizes.length:Nat):Int)-1-((t+1:Nat):Int),(ze (by omega)).trans (by omega),?_⟩⟩;have gV2:V.grownBy V1 (some g):=zd (zf (UX _ V).drew) gV1;have kV:KeepsG (fun k=>k=g) (fun _=>False) V V1:=⟨gV2.os,gV2.tape,gV2.output,gV2.size,fun k hk hf=>gV2.block k hk (fun e=>hf (by cases e;rfl)),fun k h=>h.elim⟩;have hsV:=gV2.size;refine⟨t+1,(cvE rfl rfl),⟨htl,zkc hr0 hc hn hd (by omega),?_,hJ.step _ _ _ _ hjV (StepG.grown gV2 (.inl hgn) hgF'),by omega,(gV2.block bx (hlt fxV) (by simpa using hbg)).trans fxV,⟨qF hqV.row fun a ha=>gV2.block _ (by have:=(hqV.out a ha).1;omega) (by have:=(hqV.out a ha).1;simp;omega),hqV.out⟩⟩,zdc (by omega)⟩;show RowI V1 g _;rw [<- zmS,<- hrs2];rw [UT,UN] at fV1;refine fV1.trans ?_;unfold zhm;rw [UF];rfl
   ·have he:¬ (d:Int)=(n:Int)-1:=dF he;have hstop:=zkb hr0 hc hn hd (by omega);have hmore:=zkd hr0 hc hn hd (by omega) hj;have hrs2:=zkz hd (i:=i) (by omega) (d+1);refine brN (Ue (by omega)) ⟨i,rfl,hil,i64 d,zc (za (hdr fV)) hrc,nxI (by omega) ⟨i,rfl,hil,zk k3 (hdr fV) (o:=0+i*1) (v:=i64 ((d+1:Nat):Int)) rfl rfl (by rw [QK,hrl];omega) rfl fun V1 fV1 gV1 sV1=>?_⟩⟩;have gV2:V.grownBy V1 (some g):=zd (zf (UX _ V).drew) gV1;have hsV:=gV2.size;refine⟨(j+1,F'),(cvE rfl rfl),⟨hmore,hJ.step _ _ _ _ hjV (StepG.grown gV2 (.inl hgn) hgF'),?_,hgF',by omega,(gV2.block bx (hlt fxV) (by simpa using hbg)).trans fxV,hbF',⟨qF hqV.row fun a ha=>gV2.block _ (by have:=(hqV.out a ha).1;omega) (by have:=(hqV.out a ha).1;simp;omega),hqV.out⟩⟩,zdc (by omega)⟩;show RowI V1 g (D (j+1));rw [hD];show RowI V1 g (j0 rs (j+1)).reverse;rw [hstop,<- hrs2];rw [UT,UN] at fV1;refine fV1.trans ?_;unfold zhm;rw [UF]
  ·have hi:¬ (0:Int)<=((sizes.length:Nat):Int)-1-(t:Nat):=dF hi;have hte:t=rs.length:=by omega
   rw [hte] at hc;have he:=zmb hc hj;refine brF (brE (Up (by omega)) ?_);rw [he] at hjV;exact⟨⟨_,rfl⟩,.inl ⟨F',hJ.step _ _ _ _ hjV (.below (UX _ V).drew)⟩⟩
 ·exact brF ⟨⟨_,rfl⟩,.inr ⟨_,F',hpre,hjY⟩⟩
end
def poG (ev:List Ev) (k:Nat):Nat->Nat:=fun i=>if i<k then zb9 ev i else 0
theorem zkG (ev:List Ev) (k:Nat):upd (poG ev k) k (zb9 ev k)=poG ev (k+1):=by
 funext i;unfold upd poG;by_cases h:i=k
 ·rw [Gk h,Gk (by omega),h]
 ·rw [Gj h];by_cases h2:i<k
  ·rw [Gk h2,Gk (by omega)]
  ·rw [Gj h2,Gj (by omega)]
theorem ziv (ev:List Ev) (k:Nat):upd (poG ev k) k 0=poG ev k:=by
 funext i;unfold upd poG;by_cases h:i=k
 ·rw [Gk h,Gj (by omega)]
 ·rw [Gj h]
theorem zos (ev:List Ev):poG ev ev.length=zb9 ev:=by
 funext i;unfold poG
 split
 ·rfl
 ·unfold zb9;rw [JI (by omega)]
section
variable {p:OA} {cap:Nat} {ev:List Ev} {w:Wd}
theorem zck (hl:SlR evE w p ev) (hn:ev.length<=48):CB 32 #[.slice p ev.length cap] w (.agg (zi (poR ev)).toArray):=by
 refine qP 47 [.slice p ev.length cap] (.s .p (.c .p .p)) Tryz.func32 ?_;obtain⟨L,hL⟩:=nm (w.heap.size);have hbL:=zx w (.cells (zi jg).toArray 48 (0,0));have hbb:Bw w (w.alloc (.cells (zi jg).toArray 48 (0,0))):=zba w _;have hbs:=wz w (.cells (zi jg).toArray 48 (0,0));refine⟨Unit,fun _=>⟨[(0,.slice p ev.length cap),(2,At0 L),(3,At0 (L+1))],[]⟩,fun _ X=>zaz X L jg/\zaz X (L+1) ⟨ev.length,fun _=>0⟩/\X.heap.size=L+2/\Bw w X,?_,?_⟩
 ·refine⟨zi ⟨ev.length,fun _=>0⟩,rfl,zm (X:=w.alloc (.cells (zi jg).toArray 48 (0,0))) (v := .agg (zi ⟨ev.length,fun _=>0⟩).toArray) k48 (zj _) rfl (z6 _) fun V hbV fV sV=>?_⟩;rw [hbs] at fV sV;exact⟨(),⟨.cons rfl (.cons (by rw [hL];rfl) (.cons (by rw [hL,<- hbs];rfl) .nil)),rfl⟩,by rw [hL];exact zb hbV hbL,by rw [hL];exact fV,by rw [hL];exact sV,(zst hbb hbV)⟩
 rintro _ X ⟨f0,f1,sX,hbX⟩;refine⟨Nat,fun k=>⟨[(0,.slice p ev.length cap),(2,At0 L),(3,At0 (L+1)),(10,.slice p ev.length cap),(11,i64 ev.length),(12,i64 (k:Nat))],[]⟩,
  fun k V=>k<=ev.length/\zaz V (L+1) ⟨ev.length,poG ev k⟩/\zaz V L jg/\L+1<V.heap.size/\Bw w V,fun k=>ev.length-k,0,
  (cvE rfl rfl),⟨UV _,f1,f0,by omega,hbX⟩,?_⟩
 rintro k V ⟨hk,fV,f0V,sV,hbV⟩;dsimp only at hk fV ⊢;refine biE (fun hc=>?_) fun hc=>?_
 ·have hc:(k:Int)<(ev.length:Int):=dT hc;have hkl:k<ev.length:=by omega
  obtain⟨e,he⟩:∃ e,ev[k]=e:=⟨_,rfl⟩;have hek:ev[k]?=some e:=by rw [<- he];exact gE hkl
  obtain⟨bp,op,rfl,hlp,hat⟩:=hl.at hkl;refine⟨k,rfl,hkl,evE.enc e,rfl,by rw [<- he];exact zo hbV (hat k hkl),nL hlp hbV.size,zm (X:=V) (v := .agg (evE.enc e).toArray) k60 rfl rfl (Qh.2 fun u hu=>evE.one e u hu) fun Y hbY fY sY=>?_⟩;obtain⟨b,hb⟩:=nm (V.heap.size);rw [<- hb] at fY;have eb:some (Value.pointer (some ⟨V.heap.size,0,none⟩))=some (At0 b):=by rw [hb]
  have hwY:=zst hbV hbY;have hMb:L+1<b:=by omega
  have fYM:=zb hbY fV;have fYL:=zb hbY f0V;refine⟨i64 e.th,by rw [<- hb];exact zc (za fY) (i:=0) rfl,biE (fun h=>?_) fun h=>?_⟩
  ·have h:e.th = -1:=dT h;have hr:zb9 ev k=0:=by
    unfold zb9;rw [hek];exact Gk h
   refine nxI (by omega) ⟨k+1,(cvE rfl rfl),⟨hkl,?_,fYL,by omega,hwY⟩,zdc (by omega)⟩;rw [<- zkG,hr,ziv];exact fYM
  have h:¬ e.th = -1:=dF h;have hr:zb9 ev k=ziw e.th (k+1) (ev.drop (k+1)) 0:=by
   unfold zb9;rw [hek];exact Gj h
  refine nxI (by omega) ?_;refine⟨Nat×Nat,fun s=>⟨[(0,.slice (some ⟨bp,op,none⟩) ev.length cap),(2,At0 L),(3,At0 (L+1)),(4,i64 (k:Nat)),(5,At0 b),(6,i64 (s.1:Nat)),(10,.slice (some ⟨bp,op,none⟩) ev.length cap),(11,i64 ev.length),(12,i64 (k:Nat))],[]⟩,
   fun s Z=>s.1<=ev.length/\zb9 ev k=ziw e.th s.1 (ev.drop s.1) s.2/\s.2<2^64/\zaz Z (L+1) ⟨ev.length,upd (poG ev k) k s.2⟩/\zaz Z L jg/\Z.heap[b]?=some (.cells (evE.enc e).toArray 60 (0,0))/\Bw w Z,fun s=>ev.length-s.1,(k+1,0),
   ⟨.cons rfl (.cons rfl (.cons rfl (.cons rfl (.cons eb (.cons rfl (.cons rfl (.cons rfl (.cons rfl .nil)))))))),rfl⟩,⟨hkl,hr,(by decide:0<2^64),by rw [ziv];exact fYM,fYL,fY,hwY⟩,?_⟩
  clear fY fYM fYL hwY hbY sY f0V fV hbV sV;rintro⟨j,s⟩ Z ⟨hj,hacc,hs,fM,fL,fb,hbZ⟩;dsimp only at hj hacc hs fM ⊢;refine biE (fun hc=>?_) fun hc=>?_
  ·have hc:(j:Int)<(ev.length:Int):=dT hc;have hjl:j<ev.length:=by omega
   have hdrop:ev.drop j=ev[j]::ev.drop (j+1):=(JD hjl).symm;rw [hdrop] at hacc;have hacc:zb9 ev k=ziw e.th (j+1) (ev.drop (j+1)) (if ev[j].th=e.th then s|||2^j else s):=hacc;refine DrawE.ord [] [0,1,2,3,4,5,6,7] (by kernel_rfl) ⟨j,rfl,hjl,i64 ev[j].th,zc (zo hbZ (hat j hjl)) (i:=0) rfl,i64 e.th,zc (za (hdr fb)) (i:=0) rfl,?_⟩;have hslot:(zi ⟨(ev.length:Int),upd (poG ev k) k s⟩)[1+k]?=some (s64 s):=by
    have:=zho ⟨(ev.length:Int),upd (poG ev k) k s⟩ (i:=k) (by omega);rw [this];show some (s64 (upd (poG ev k) k s k))=_;rw [zJ]
   have hdZ:Bw Z Z.drew:=(UX _ Z).drew;refine biE (fun he=>?_) fun he=>?_
   ·have he:ev[j].th=e.th:=dT he;rw [Gk he] at hacc;refine DrawE.ord [9] [0,1,2,3,4,5,6,7,8,9] (by kernel_rfl) ⟨k,rfl,by omega,?_⟩;refine⟨s64 s,by rw [UT,UA];exact zc (za (hdr (hdr fM))) hslot,by omega,_,zaa (e:=j) (by omega),_,zaI hs (z7 (by omega)),k,rfl,by omega,?_⟩;refine zk k45 (hdr (hdr fM)) (o:=0+1+k*1) (v:=s64 (s|||2^j)) rfl rfl (by rw [zj];omega) rfl fun S fS gS sS=>?_;rw [UN,UT,zdt _ (show k<48 by omega)] at fS;have gS2:Z.grownBy S (some (L+1)):=zd (zf (UX _ Z).drew) (zd (zf (UX _ _).drew) gS);refine nxI (by omega) ⟨(j+1,s|||2^j),(cvE rfl rfl),⟨hjl,hacc,KW hs (z7 (by omega)),?_,(gS2.block L (hlt fL) (by simp)).trans fL,(gS2.block b (hlt fb) (by simp;omega)).trans fb,hbZ.trans (zh gS2 hbZ.size (by omega))⟩,zdc (by omega)⟩;have:upd (upd (poG ev k) k s) k (s|||2^j)=upd (poG ev k) k (s|||2^j):=by
     funext i;unfold upd
     split <;> rfl
    rw [this] at fS;exact fS
   ·have he:¬ ev[j].th=e.th:=dF he;rw [Gj he] at hacc;exact nxI (by omega) ⟨(j+1,s),(cvE rfl rfl),⟨hjl,hacc,hs,fM,fL,fb,(zst hbZ hdZ)⟩,zdc (by omega)⟩
  ·have hc:¬ (j:Int)<(ev.length:Int):=dF hc;have:j=ev.length:=by omega
   subst this;rw [Qk] at hacc;have hacc:zb9 ev k=s:=hacc;refine nxI (by omega) ⟨k+1,(cvE rfl rfl),⟨hkl,?_,fL,hlt fM,hbZ⟩,zdc (by omega)⟩;rw [<- zkG,hacc];exact fM
 ·have hc:¬ (k:Int)<(ev.length:Int):=dF hc;obtain rfl:k=ev.length:=by omega
  rw [zos] at fV;exact⟨zi (poR ev),zj _,za fV,hlt fV,zE (v := .agg (zi (poR ev)).toArray) k48 f0V rfl rfl (z6 _) ⟨zi (poR ev),zj _,za (zy f0V),rfl,zz hbV (by omega) _⟩⟩
end
structure RelAt (X:Wd) (b o:Nat) (T:TypeId) (A Z:List Value) (r:RelD):Prop where
 at_:A.length=o
 cells:X.heap[b]?=some (.cells (A++(zi r++Z)).toArray T (0,0))
section
variable {X:Wd} {b o:Nat} {T:TypeId} {A Z:List Value} {r:RelD}
theorem RelAt.cell (h:RelAt X b o T A Z r) {i:Nat} (hi:i<48):X.cell? ⟨b,o+1+i*1,none⟩=some (s64 (r.to i)):=by
 have:(A++(zi r++Z))[o+1+i*1]?=some (s64 (r.to i)):=by
  rw [UT,UA,jd h.at_,Jp (by rw [zj];omega),zho r hi]
 have h2:=zc (za h.cells) this;rw [UN] at h2;exact h2
theorem RelAt.set (h:RelAt X b o T A Z r) {i:Nat} (hi:i<48) (v:Nat):(A++(zi r++Z)).set (o+1+i*1) (s64 v)=A++(zi ⟨r.n,upd r.to i v⟩++Z):=by
 rw [UT,UA,qa h.at_,List.set_append_left _ _ (by rw [zj];omega),zdt r hi]
theorem RelAt.len (h:RelAt X b o T A Z r):(A++(zi r++Z)).length=o+49+Z.length:=by
 rw [lap,lap,zj,h.at_];omega
theorem RelAt.same {Y:Wd} (h:RelAt X b o T A Z r) (hs:Y.heap[b]?=X.heap[b]?):RelAt Y b o T A Z r:=⟨h.at_,hs.trans h.cells⟩
def zmX (f:Nat) (ps:List (Nat×Nat)):Prop:=∀ p∈ps,f+p.1<48/\f+p.2<48
theorem zdw {f:Nat}:∀ {ps:List (Nat×Nat)} {to:Nat->Nat},zP to->zmX f ps->zP (zir f ps to)
 | [],_,h,_=>h
 | p::ps,to,h,hp=>by
  have h1:=hp p Kx;exact zdw (ps:=ps) (zeM h (KW (h _ h1.1) (z7 (by omega)))) fun q hq=>hp q (JV _ hq)
theorem zju {n:Nat} (h:n<256):((UInt8.ofNat n).toNat:Int)=(n:Nat):=by
 have:(UInt8.ofNat n).toNat=n:=by simp;omega
 rw [this]
theorem zmW {w:Wd} {q:OA} {cap f:Nat} {ps:List (Nat×Nat)} (hr:RelAt w b o T A Z r) (hw:zP r.to) (hl:SlR prE w q ps) (hqb:∀ a,q=some a->a.block≠b) (hn:ps.length<=100000) (hp:zmX f ps) :
  Calls PG 79 #[.pointer (some ⟨b,o,none⟩),.slice q ps.length cap,i64 f] w fun e w'=>e = .returned (.tuple #[])/\RelAt w' b o T A Z (zjM f ps r)/\w.grownBy w' (some b):=by
 refine zD 35 [.pointer (some ⟨b,o,none⟩),.slice q ps.length cap,i64 f] Tryz.func79 ?_;have hbw:=hlt hr.cells;refine⟨Nat×(Nat->Nat),fun s=>⟨[(0,.pointer (some ⟨b,o,none⟩)),(1,.slice q ps.length cap),(2,i64 f),(8,.slice q ps.length cap),(9,i64 ps.length),(10,i64 (s.1:Nat))],[]⟩,
  fun s X=>s.1<=ps.length/\zP s.2/\zir f (ps.drop s.1) s.2=zir f ps r.to/\RelAt X b o T A Z ⟨r.n,s.2⟩/\w.grownBy X (some b),fun s=>ps.length-s.1,(0,r.to),
  (cvE rfl rfl),⟨UV _,hw,rfl,hr,zV _ _⟩,?_⟩
 rintro⟨k,g⟩ X ⟨hk,hg,he,hX,gX⟩;dsimp only at hk hg he hX ⊢;have hXs:=gX.size;refine biE (fun hc=>?_) fun hc=>?_
 ·have hc:(k:Int)<(ps.length:Int):=dT hc;have hkl:k<ps.length:=by omega
  obtain⟨pr,hpr⟩:∃ pr,ps[k]=pr:=⟨_,rfl⟩;obtain⟨p1,p2⟩:=hp pr (by rw [<- hpr];exact gM hkl);rw [<- JD hkl,hpr] at he;have he:zir f (ps.drop (k+1)) (upd g (f+pr.1) (g (f+pr.1)|||2^(f+pr.2)))=zir f ps r.to:=he;obtain⟨bp,op,rfl,hlp,hat⟩:=hl.at hkl;have hbp:bp≠b:=hqb _ rfl;have hatX:zw X ⟨bp,op+k*2,none⟩ (prE.enc ps[k]):=jb (gX.block bp hlp (by simpa using hbp)) (hat k hkl);refine⟨k,rfl,hkl,prE.enc pr,rfl,by rw [<- hpr];exact hatX,nL hlp hXs,?_⟩;refine zm (X:=X) (v := .agg (prE.enc pr).toArray) zrf rfl rfl rfl fun Y hbY fY sY=>DrawE.ord [20] [0,1,2,3,4,5,6,7,8,9,10,11,12,13,14,15,16,17,18,19,20] (by kernel_rfl) ?_;have fY1:Y.heap[X.heap.size]?=some (.cells (prE.enc pr).toArray 184 (0,0)):=fY;have hrY:=hX.same (hbY.block b (nL hbw hXs));refine⟨0,rfl,by decide,?_⟩;refine⟨u8 (UInt8.ofNat pr.1),zc (za (hdr fY1)) (i:=0*1) rfl,((pr.1:Nat):Int),by rw [zju (by omega)];exact ze (by omega),((f+pr.1:Nat):Int),(ze (by omega)).trans (by omega),f+pr.1,rfl,by omega,?_⟩;refine⟨s64 (g (f+pr.1)),(hrY.same (Y:=Y.drew) rfl).cell p1,1,rfl,by decide,?_⟩;refine⟨u8 (UInt8.ofNat pr.2),zc (za (hdr fY1)) (i:=1*1) rfl,((pr.2:Nat):Int),by rw [zju (by omega)];exact ze (by omega),((f+pr.2:Nat):Int),(ze (by omega)).trans (by omega),by omega,_,zaa (e:=f+pr.2) (by omega),_,zaI (hg _ p1) (z7 (by omega)),f+pr.1,rfl,by omega,?_⟩;refine zk k45 (hrY.same (Y:=Y.drew) rfl).cells (o:=o+1+(f+pr.1)*1) (v:=s64 (g (f+pr.1)|||2^(f+pr.2))) rfl rfl (by rw [hrY.len];omega) rfl fun S fS gS sS=>?_;rw [hrY.set p1] at fS;exact nxI (by omega) ⟨(k+1,_),(cvE rfl rfl),⟨hkl,zeM hg (KW (hg _ p1) (z7 (by omega))),he,⟨hr.at_,fS⟩,zd gX (zd (zf hbY) (zd (zf (UX _ Y).drew) gS))⟩,zdc (by omega)⟩
 ·have hc:¬ (k:Int)<(ps.length:Int):=dF hc;obtain rfl:k=ps.length:=by omega
  rw [Qk] at he;have he:g=zir f ps r.to:=he;subst he;exact⟨rfl,hX,gX⟩
end
def zrP (pre:List Nat) (vs:List Value) (W:Wd):Prop:=∃ (a i:Nat),pre.getLast?=some a/\vs=[i64 i,i64 a]
theorem zqC {bx:Nat} {l:List Nat} {q:OA} {c:Nat} {W0:Wd} (fx:W0.heap[bx]?=some (.cells #[.slice q l.length c] 66 (0,0))) (hl:SlR zu W0 q l) (hql:∀ a,q=some a->a.block<W0.heap.size) (hn:l.length<=100000) :
  zg5 PG 112 [At0 bx] l.reverse W0 (fun k=>k=bx\/∃ a,q=some a/\k=a.block) (fun _=>False) zrP:=by
 intro yl F0 J Jx W hsz hrd hrf hJ hJx hy h0;have fxW:=(hrd bx (.inl (.inl rfl))).trans fx;have hlW:SlR zu W q l:=qF hl fun a ha=>hrd _ (.inl (.inr ⟨a,ha,rfl⟩));have hbxW:=hlt fxW;refine zD 19 [.func (.yield yl) #[] #[],At0 bx] Tryz.func112 ?_;refine⟨_,zc (za fxW) (i:=0) rfl,((l.length:Nat):Int)-1,ze (by omega),?_⟩;refine⟨Nat×(Nat->Prop),fun s=>⟨[(0,.func (.yield yl) #[] #[]),(1,At0 bx),(3,i64 (((l.length:Nat):Int)-1-(s.1:Nat)))],[]⟩,
  fun s V=>s.1<=l.length/\J (l.reverse.take s.1) s.2 V/\W.heap.size<=V.heap.size/\V.heap[bx]?=some (.cells #[.slice q l.length c] 66 (0,0))/\¬ s.2 bx/\RowF zu W.heap.size s.2 V q l,fun s=>l.length-s.1,(0,F0),
  ⟨.cons rfl (.cons rfl (.cons (by show _=some (i64 (((l.length:Nat):Int)-1-((0:Nat):Int)));rw [Int.ofNat_zero,Int.sub_zero];rfl) .nil)),rfl⟩,⟨UV _,h0,US _,fxW,hrf _ (.inl rfl),⟨hlW,fun a ha=>⟨by have:=hql a ha;omega,hrf _ (.inr ⟨a,ha,rfl⟩)⟩⟩⟩,?_⟩
 rintro⟨t,F⟩ V ⟨ht,hjV,hWV,fxV,hbF,hqV⟩;dsimp only at ht hjV hbF hqV ⊢;refine biE (fun hi=>?_) fun hi=>?_
 ·have hi:(0:Int)<=((l.length:Nat):Int)-1-(t:Nat):=dT hi;obtain⟨i,hit⟩:∃ i,i+t+1=l.length:=⟨l.length-1-t,by omega⟩;have hii:((l.length:Nat):Int)-1-(t:Nat)=(i:Nat):=by omega
  rw [hii];have hil:i<l.length:=by omega
  have hrt:l.reverse[t]?=some l[i]:=by
   rw [JJ (by omega),show l.length-1-t=i by omega,gE hil]
  have htl:t<l.reverse.length:=by rw [Ki];omega
  have hre:l.reverse[t]=l[i]:=by rw [gE htl] at hrt;exact Uc hrt
  have htk:l.reverse.take (t+1)=l.reverse.take t++[l[i]]:=by rw [tsg htl,hre]
  refine⟨_,zc (za fxV) (i:=0) rfl,?_⟩;obtain⟨bq,oq,hqe,hlq,hatq⟩:=hqV.row.at hil;subst hqe;refine⟨i,rfl,hil,i64 l[i],zc (hatq i hil) (i:=0) rfl,YieldR.mono (hy _ l[i] [i64 (i:Nat),i64 l[i]] F V hjV ⟨l[i],i,by simp,rfl⟩ (by rw [<- htk];exact List.take_prefix _ _)) ?_⟩;rintro v Y (⟨rfl,F',hjY,kY⟩ | ⟨rfl,F',hjY⟩)
  ·refine brF ?_;have hbF':¬ F' bx:=fun h=>by
    rcases kY.fp bx h with h | h
    ·exact hbF h
    ·have:=hlt fxV;omega
   exact⟨((l.length:Nat):Int)-1-((t+1:Nat):Int),(ze (by omega)).trans (by omega),(t+1,F'),(cvE rfl rfl),⟨by omega,by rw [htk];exact hjY,UJ hWV kY.size,(kY.same bx (hlt fxV) hbF).trans fxV,hbF',hqV.keep hWV kY (fun _ _ h=>h)⟩,zdc (by omega)⟩
  ·exact brT ⟨⟨_,rfl⟩,.inr ⟨_,F',by rw [<- htk];exact List.take_prefix _ _,hjY⟩⟩
 ·have hi:¬ (0:Int)<=((l.length:Nat):Int)-1-(t:Nat):=dF hi;have hte:t=l.length:=by omega
  subst hte;rw [JE (by rw [Ki];exact US _)] at hjV;exact⟨⟨_,rfl⟩,.inl ⟨F,hjV⟩⟩
theorem zpk {q:OA} {n c:Nat} {w:Wd}:Calls PG 83 #[.slice q n c] w fun e w'=>e = .returned (.func (.func 112) #[] #[At0 w.heap.size])/\w'.heap[w.heap.size]?=some (.cells #[.slice q n c] 66 (0,0))/\w'.heap.size=w.heap.size+1/\Bw w w':=by
 refine zD 4 [.slice q n c] Tryz.func83 ?_;exact⟨rfl,zx w _,wz _ _,(zba w _)⟩
theorem zm5 {q:OA} {n c:Nat} {w:Wd}:Calls PG 45 #[.slice q n c] w fun e w'=>e = .returned (.func (.func 76) #[] #[At0 w.heap.size])/\w'.heap[w.heap.size]?=some (.cells #[.slice q n c] 66 (0,0))/\w'.heap.size=w.heap.size+1/\Bw w w':=by
 refine zD 4 [.slice q n c] Tryz.func45 ?_;exact⟨rfl,zx w _,wz _ _,(zba w _)⟩
def zeH (p:(Nat->Nat)×Nat) (a:Nat):(Nat->Nat)×Nat:=(upd p.1 a p.2,p.2|||2^a)
theorem zc9:∀ (l:List Nat) (f:Nat->Nat) (b:Nat),zfC l f b=(l.foldl zeH (f,b)).1
 | [],_,_=>rfl
 | a::l,f,b=>zc9 l (upd f a b) (b|||2^a)
theorem zhA:∀ {l:List Nat} {f:Nat->Nat} {b:Nat},zP f->b<2^64->(∀ a∈l,a<48)->zP (l.foldl zeH (f,b)).1/\(l.foldl zeH (f,b)).2<2^64
 | [],_,_,h,hb,_=>⟨h,hb⟩
 | a::l,f,b,h,hb,hl=>zhA (l:=l) (zeM h hb) (KW hb (z7 (by have:=hl a Kx;omega))) fun x hx=>hl x (JV _ hx)
theorem zgN {l:List Nat} {r:RelD} (h:zP r.to) (hl:∀ a∈l,a<48):zP (jQ l r).to:=by
 show zP (zfC l.reverse r.to 0);rw [zc9];exact (zhA h (by decide) fun a ha=>hl a (by simpa using ha)).1
section
variable {b o:Nat} {T:TypeId} {A Z:List Value} {r:RelD} {w:Wd} {q:OA} {c:Nat} {l:List Nat}
theorem znh (hr:RelAt w b o T A Z r) (hw:zP r.to) (hl:SlR zu w q l) (hql:∀ a,q=some a->a.block<w.heap.size/\a.block≠b) (hn:l.length<=100000) (h48:∀ a∈l,a<48) :
  Calls PG 50 #[.pointer (some ⟨b,o,none⟩),.slice q l.length c] w fun e w'=>e = .returned (.tuple #[])/\RelAt w' b o T A Z (jQ l r)/\w.grownBy w' (some b):=by
 refine qP 21 [.pointer (some ⟨b,o,none⟩),.slice q l.length c] (.s .p (.c .p .p)) Tryz.func50 ?_;obtain⟨L,hL⟩:=nm (w.heap.size);refine⟨Unit,fun _=>⟨[(1,.slice q l.length c),(2,At0 L),(4,At0 (L+1))],[]⟩,fun _ X=>X.heap[L]?=some (.cells #[.pointer (some ⟨b,o,none⟩)] 95 (0,0))/\X.heap[L+1]?=some (.cells #[s64 0] 45 (0,0))/\X.heap.size=L+2/\Bw w X,?_,?_⟩
 ·have s1:=wz w (.cells #[.pointer (some ⟨b,o,none⟩)] 95 (0,0));have h2:=zx (w.alloc (.cells #[.pointer (some ⟨b,o,none⟩)] 95 (0,0))) (.cells #[s64 0] 45 (0,0));have s2:=wz (w.alloc (.cells #[.pointer (some ⟨b,o,none⟩)] 95 (0,0))) (.cells #[s64 0] 45 (0,0));rw [s1] at h2 s2;exact⟨(),⟨.cons rfl (.cons (by rw [hL];rfl) (.cons (by rw [hL,<- s1];rfl) .nil)),rfl⟩,by rw [hL];exact qm _ (zx w _),by rw [hL];exact h2,by rw [hL];exact s2,((zba w _)).alloc (by simp) _⟩
 rintro _ X ⟨f0,f1,sX,hbX⟩;have hbw:=hlt hr.cells;refine cmo zpk ?_;rintro e W ⟨rfl,fx,sW,hbW⟩;have hwW:=zst hbX hbW;have hI:=zqC fx (hl.below hwW) (fun a ha=>by have:=(hql a ha).1;omega) hn;have f0:=zb hbW f0;have f1:=zb hbW f1;refine zcj (zaY _) rfl (lb := #[At0 X.heap.size]) rfl rfl hI (US _) (fun k hk=>⟨?_,rfl⟩) (fun pre vs W ⟨a,i,_,h⟩=>by rw [h];rfl) (by decide)
  (fun k=>k=b\/k=L+1) (fun pre F Y=>F=(fun k=>k=b\/k=L+1)/\W.heap.size<=Y.heap.size/\RelAt Y b o T A Z ⟨r.n,(pre.foldl zeH (r.to,0)).1⟩/\Y.heap[L+1]?=some (.cells [s64 (pre.foldl zeH (r.to,0)).2].toArray 45 (0,0))/\Y.heap[L]?=some (.cells #[.pointer (some ⟨b,o,none⟩)] 95 (0,0))/\w.grownBy Y (some b)) (fun _ _ _ _=>False) (fun k hk=>?_)
  (joG (F:=fun k=>k=b\/k=L+1) (J:=fun (pre:List Nat) Y=>W.heap.size<=Y.heap.size/\RelAt Y b o T A Z ⟨r.n,(pre.foldl zeH (r.to,0)).1⟩/\Y.heap[L+1]?=some (.cells [s64 (pre.foldl zeH (r.to,0)).2].toArray 45 (0,0))/\Y.heap[L]?=some (.cells #[.pointer (some ⟨b,o,none⟩)] 95 (0,0))/\w.grownBy Y (some b))
   (fun k h=>by omega) (fun s A h=>h.1) (fun pre A B ⟨h1,h2,h3,h4,h5⟩ hb=>⟨UJ h1 hb.size,h2.same (hb.block _ (by omega)),qT hb (by omega) h3,qT hb (by omega) h4,ja h5 (hb.mono hwW.size)⟩))
  (fun ex=>⟨fun _ _ _ _ h=>h.elim,fun _ _ _ _ h=>h.elim⟩) ⟨rfl,US _,hr.same (hwW.block _ hbw),f1,f0,zf hwW⟩ ?_ ?_ ?_
 ·rcases hk with (rfl | ⟨a,ha,rfl⟩) | h
  ·omega
  ·have:=(hql a ha).1;have:=hwW.size;omega
  ·exact h.elim
 ·rcases hk with rfl | ⟨a,ha,rfl⟩
  ·omega
  ·have:=hql a ha;omega
 ·rintro yl pre x vs F Y hyl hpre hJ ⟨a,i,hlast,rfl⟩ hfy hlo;have hxa:x=a:=by simpa using hlast
  subst hxa;refine⟨rfl,F,KeepsG.refl _ _,hJ,?_⟩;rintro O Y2 hY2 ⟨rfl,h1,h2,h3,h4,h5⟩;obtain⟨g1,g2⟩:=zhA (l:=pre) (f:=r.to) (b:=0) hw (by decide) (fun a ha=>h48 a (by have:=hpre.subset (JU _ ha);simpa using this));have hx48:x<48:=h48 x (by have:=hpre.subset (JM _ (Ky.2 rfl));simpa using this);have hfold:(pre++[x]).foldl zeH (r.to,0)=zeH (pre.foldl zeH (r.to,0)) x:=by rw [KR];rfl
  obtain⟨P,hP⟩:=nm (pre.foldl zeH (r.to,0));rw [<- hP] at h2 h3 g1 g2 hfold;refine DrawE.ord [6] [0,1,2,3,4,5,6] (by kernel_rfl) ⟨_,zc (za (hdr h4)) (i:=0) rfl,_,zc (za (hdr h3)) (i:=0) rfl,x,rfl,hx48,zk k45 (h2.same (Y:=Y2.drew) rfl).cells (o:=o+1+x*1) (v:=s64 P.2) rfl rfl (by rw [h2.len];omega) rfl fun S fS gS sS=>?_⟩;rw [h2.set hx48] at fS;have gS2:Y2.grownBy S (some b):=zd (zf (UX _ Y2).drew) gS;have h3S:=(gS2.block (L+1) (hlt h3) (by simp;omega)).trans h3;refine DrawE.ord [4] [0,1,2,3,4] (by kernel_rfl) ⟨_,zc (za (hdr h3S)) (i:=0) rfl,by omega,_,zaa (e:=x) (by omega),_,zaI g2 (z7 (by omega)),zk k45 (hdr h3S) (o:=0) (v:=s64 (P.2|||2^x)) rfl rfl (by show 0<1;decide) rfl fun V fV gV sV=>?_⟩;have gV2:S.grownBy V (some (L+1)):=zd (zf (UX _ S).drew) gV;have hLw:L=w.heap.size:=hL;refine⟨fun k=>k=b\/k=L+1,⟨rfl,?_,⟨hr.at_,?_⟩,by rw [hfold];exact fV,?_,?_⟩,(KeepsG.grown gS2 (.inl rfl)).trans (KeepsG.grown gV2 (.inr rfl))⟩
  ·have:=gS2.size;have:=gV2.size;omega
  ·rw [hfold];exact (gV2.block b (hlt fS) (by simp;omega)).trans fS
  ·exact (gV2.block L (nL (hlt h4) gS2.size) (by simp)).trans ((gS2.block L (hlt h4) (by simp;omega)).trans h4)
  ·exact⟨gV2.os.trans (gS2.os.trans h5.os),gV2.tape.trans (gS2.tape.trans h5.tape),gV2.output.trans (gS2.output.trans h5.output),by have:=gS2.size;have:=gV2.size;have:=h5.size;omega,fun k hk hne=>(gV2.block k (by have:=gS2.size;have:=h5.size;omega) (by simp;omega)).trans ((gS2.block k (by have:=h5.size;omega) hne).trans (h5.block k hk hne))⟩
 ·rintro D F Y hD hfD ⟨rfl,h1,h2,h3,h4,h5⟩ hdef;refine⟨_,rfl,hdef,?_⟩;have hDb:b≠D:=by have:=hwW.size;omega
  refine⟨rfl,⟨hr.at_,?_⟩,?_⟩
  ·rw [show jQ l r=⟨r.n,(l.reverse.foldl zeH (r.to,0)).1⟩ by unfold jQ;rw [zc9]];exact (zg hDb).trans h2.cells
  ·exact⟨h5.os,h5.tape,h5.output,by have:=h5.size;simpa [World.putObj] using this,fun k hk hne=>(zg (by have:=hwW.size;omega)).trans (h5.block k hk hne)⟩
 ·rintro D ex pre F Y hD hfD hpre h;exact h.elim
end
theorem zhu {P:Program} {iT:TI} {T B g cap i v:Nat} {l:List Nat} {w:Wd} (hT:TIok P T iT) (hs:iT.size=1) (h:OwnS zu T B w (some ⟨g,0,none⟩) cap l) (hi:i<l.length) {K:Wd->Prop}
  (k:∀ w',OwnS zu T B w' (some ⟨g,0,none⟩) cap (l.set i v)->w.grownBy w' (some g)->K w'):SatR ((storeVar T ⟨g,0+i*1,none⟩ (i64 v)).run P w) fun _ w'=>K w':=by
 rcases h.inv with ⟨h,_⟩ | ⟨g',cur,hg,hB,hc,hl,hm,hs2,ht⟩
 ·cases h
 ·simp only [KX,Ur,Ge] at hg;subst hg;have e:cur=cur.toList.toArray:=rfl;have hsz:cur.toList.length=cap:=by
   have:cur.toList.length=cur.size:=rfl;rw [this,hs2];exact UT _
  refine zk hT (cs:=cur.toList) (by rw [<- e];exact hc) (o:=0+i*1) (v:=i64 v) rfl hs (by omega) rfl fun w' fw gw sw=>k w' ?_ gw;unfold OwnS World.ownsRow;have ht:cur.toList.take (l.length*1)=l.flatMap zu.enc:=ht;refine⟨by rw [z8],.inr ⟨g,cap,_,rfl,hB,fw,by rw [QM];exact hl,hm,?_,?_⟩⟩
  ·show (cur.toList.set (0+i*1) (i64 v)).length=_;rw [QM];exact hs2
  ·show (cur.toList.set (0+i*1) (i64 v)).take ((l.set i v).length*1)=_;rw [UT,UN,UT,QM,List.take_set,<- UT l.length,ht,zdB,zdB];unfold zhm;rw [UF]
theorem zoP {before:Nat->Nat}:∀ (m left:Nat) (l:List Nat),∀ x∈zal before m left l,∀ a∈x,a∈l\/a∈els left:=by
 intro m
 induction m with
 | zero =>
  intro left l x hx a ha;unfold zal at hx
  split at hx
  ·rw [Ky.1 hx] at ha;exact .inl ha
  ·cases hx
 | succ m ih =>
  intro left l x hx a ha;unfold zal at hx
  split at hx
  ·rw [Ky.1 hx] at ha;exact .inl ha
  ·obtain⟨b,hb,hx⟩:=List.mem_flatMap.1 hx
   split at hx
   ·rcases ih _ _ x hx a ha with h | h
    ·rcases QO.1 h with h | h
     ·exact .inl h
     ·rw [Ky.1 h];exact .inr hb
    ·refine .inr ?_;unfold els at h ⊢;rw [QQ] at h ⊢;refine⟨h.1,?_⟩;have h2:=h.2;unfold zaD at h2;rw [QZ,bAT] at h2;exact h2.1
   ·cases hx
theorem zov {r:RelD} {n:Nat} (hr:r.n=n) (hn:n<=64) {x:List Nat} (h:x∈zbc r) {a:Nat} (ha:a∈x):a<n:=by
 unfold zbc at h
 split at h
 ·rcases zoP _ _ _ x h a ha with h | h
  ·cases h
  ·rw [zaB,hr,zdP hn] at h;exact Ul.1 h
 ·cases h
abbrev crs (n:Nat):RelD:=zfW n 1 (zaD (jX n) 1)
theorem znH:∀ n,n<=48->okR (crs n)=true:=by
 intro n hn;have h:(List.range 49).all (fun n=>okR (crs n))=true:=by kernel_rfl
 rw [Qh] at h;exact h n (Ul.2 (by omega))
theorem ze0 (n:Int):jX n<2^64:=zaT n
theorem zk4 (n:Nat):zP (crs n).to:=fun i _=>by
 show (if i<n then (if Nat.testBit 1 i then zaD (jX n) 1&&&jX n else 0) else 0)<2^64
 split
 ·split
  ·exact KC Qv (ze0 n)
  ·decide
 ·decide
def za4 (ws:List Nat) (o:List Nat):List Nat:=o.map fun k=>ws.getD k 0
theorem zop {ws o:List Nat} {i:Nat} (hi:i<o.length) (h:i<(za4 ws (o.take i)++o.drop i).length):(za4 ws (o.take i)++o.drop i)[i]=o[i]:=by
 have hl:(za4 ws (o.take i)).length=i:=by unfold za4;rw [QK,Qs,QX (by omega)]
 have h2:(za4 ws (o.take i)++o.drop i)[i]?=o[i]?:=by
  rw [Jl (by omega),hl,UL,Ku,UI]
 rw [gE h,gE hi] at h2;exact Uc h2
theorem zmR {ws o:List Nat} {i:Nat} (hi:i<o.length) (ho:o[i]<ws.length):(za4 ws (o.take i)++o.drop i).set i ws[o[i]]=za4 ws (o.take (i+1))++o.drop (i+1):=by
 have hl:(za4 ws (o.take i)).length=i:=by unfold za4;rw [QK,Qs,QX (by omega)]
 rw [JN _ _ (by omega),hl,UL,<- JD hi,List.set_cons_zero,tsg hi];unfold za4;rw [QN,KM,Uy,List.map_nil,gDe,gE ho];rfl
section
variable {q:OA} {c:Nat} {ws:List Nat} {w:Wd}
theorem zm2 (hl:SlR zu w q ws) (hn:ws.length<=48) (hT:Tz64M w) :
  Calls PG 48 #[.slice q ws.length c] w fun e w'=>(∃ (xs:List (List Nat×OA×Nat)) (p:OA) (c':Nat),e = .returned (.slice p xs.length c')/\xs.map (·.1)=zQ ws/\OwnS qG 66 w.heap.size w' p c' xs/\∀ x∈xs,OwnS zu 3 w.heap.size w' x.2.1 x.2.2 x.1)/\Bw w w':=by
 refine qP 44 [.slice q ws.length c] (.s .p (.s .p (.c .p .p))) Tryz.func48 ?_;obtain⟨B,hB⟩:=nm (w.heap.size);refine⟨List (List Nat×OA×Nat)×OA×Nat,fun s=>⟨[(0,.slice q ws.length c),(4,.slice s.2.1 s.1.length s.2.2)],[]⟩,fun s X=>(zQ ws=(s.1.map (·.1)).map (za4 ws)/\AscB s.1/\s.1.length<=10000/\∀ x∈s.1,x.1.length<=64/\∀ a∈x.1,a<ws.length)/\OwnS qG 66 B X s.2.1 s.2.2 s.1/\(∀ x∈s.1,OwnS zu 3 B X x.2.1 x.2.2 x.1)/\Bw w X,?_,?_⟩
 ·refine cmo zg7 ?_;rintro e _ ⟨rfl,rfl⟩;refine⟨_,zbx (zaT _) (by decide:1<2^64),cmo (zpq (n:=ws.length) (a:=1) (b:=jn (j4 ws.length) 1) hn (by decide) (zbF (zaT _))) ?_⟩;rintro e X ⟨rfl,hbX⟩;refine cmo (zn7 (r:=crs ws.length) (m:=10000) (zk4 _) (hT.below hbX) (US _) (znH _ hn)) ?_;rintro e Y ⟨⟨hm,xs,p,c',rfl,hxs,hasc,ho,hx⟩ | ⟨hm,rfl⟩,hbY⟩
  ·refine⟨(xs,p,c'),(cvE rfl rfl),⟨?_,hasc,?_,fun x hx=>?_⟩,ho.lower (by rw [hB];exact hbX.size),fun x h=>(hx x h).lower (by rw [hB];exact hbX.size),(zst hbX hbY)⟩
   ·show zQ ws=(xs.map (·.1)).map (za4 ws);rw [hxs];unfold zQ;exact Gk hm
   ·show xs.length<=10000;rw [<- hxs,QK] at hm;exact hm
   ·have hmem:x.1∈zbc (crs ws.length):=(by rw [<- hxs];exact UG.2 ⟨x,hx,rfl⟩);exact⟨zkL hmem,fun a ha=>zov rfl (by omega) hmem ha⟩
  ·refine⟨([],none,0),(cvE rfl rfl),⟨?_,List.Pairwise.nil,UV _,fun x hx=>(by cases hx)⟩,OwnS.nil,fun x hx=>(by cases hx),(zst hbX hbY)⟩;show zQ ws=[];unfold zQ;exact Gj (by show ¬ (zbc (crs ws.length)).length<=10000;omega)
 rintro⟨xs,p,c'⟩ X ⟨⟨hrk,hasc,hxl,hxx⟩,ho,hx,hbX⟩;dsimp only at hrk hasc hxl hxx ho hx ⊢;have hbs:=hbX.size;refine⟨Nat,fun k=>⟨[(0,.slice q ws.length c),(4,.slice p xs.length c'),(21,.slice p xs.length c'),(22,i64 xs.length),(23,i64 (k:Nat))],[]⟩,
  fun k Z=>k<=xs.length/\OwnS qG 66 B Z p c' xs/\(∀ x∈xs.take k,OwnS zu 3 B Z x.2.1 x.2.2 (za4 ws x.1))/\(∀ x∈xs.drop k,OwnS zu 3 B Z x.2.1 x.2.2 x.1)/\Bw w Z,fun k=>xs.length-k,0,
  (cvE rfl rfl),⟨UV _,ho,fun x h=>(by rw [Um] at h;cases h),fun x h=>hx x h,hbX⟩,?_⟩
 clear ho hx hbX hbs;rintro k Z ⟨hk,ho,htk,hdr,hbZ⟩;have hbs:=hbZ.size;refine biE (fun hc=>?_) fun hc=>?_
 ·have hc:(k:Int)<(xs.length:Int):=dT hc;have hkl:k<xs.length:=by omega
  obtain⟨x,hxk⟩:∃ x,xs[k]=x:=⟨_,rfl⟩;have hxm:x∈xs:=by rw [<- hxk];exact gM hkl
  obtain⟨hx64,hxa⟩:=hxx x hxm;have hsplit:xs=xs.take k++x::xs.drop (k+1):=by rw [<- hxk,JD,JO]
  have hdrop:xs.drop k=x::xs.drop (k+1):=by rw [<- hxk,JD]
  have hox:OwnS zu 3 B Z x.2.1 x.2.2 x.1:=hdr x (by rw [hdrop];simp);obtain⟨bp,op,hpe,hlp,hat⟩:=ho.row.at hkl;subst hpe;refine⟨k,rfl,hkl,.slice x.2.1 x.1.length x.2.2,by rw [<- hxk];exact zc (hat k hkl) (i:=0) rfl,?_⟩;refine⟨Nat,fun i=>⟨[(0,.slice q ws.length c),(4,.slice (some ⟨bp,op,none⟩) xs.length c'),(7,.slice x.2.1 x.1.length x.2.2),(21,.slice (some ⟨bp,op,none⟩) xs.length c'),(22,i64 xs.length),(23,i64 (k:Nat)),(27,.slice x.2.1 x.1.length x.2.2),(28,i64 x.1.length),(29,i64 (i:Nat))],[]⟩,
   fun i V=>i<=x.1.length/\OwnS zu 3 B V x.2.1 x.2.2 (za4 ws (x.1.take i)++x.1.drop i)/\Z.grownBy V (x.2.1.map Addr.block),fun i=>x.1.length-i,0,
   (cvE rfl rfl),⟨UV _,hox,zV _ _⟩,?_⟩
  rintro i V ⟨hi,hoV,gV⟩;refine biE (fun hc=>?_) fun hc=>?_
  ·have hc:(i:Int)<(x.1.length:Int):=dT hc;have hil:i<x.1.length:=by omega
   have hlen:(za4 ws (x.1.take i)++x.1.drop i).length=x.1.length:=by
    unfold za4;simp;omega
   have hgi:(za4 ws (x.1.take i)++x.1.drop i)[i]'(by omega)=x.1[i]:=by
    exact zop hil (by omega)
   obtain⟨b',o',hqe,hlq,hat'⟩:=hoV.row.at (i:=i) (by omega);have hao:=hxa x.1[i] (gM hil);obtain⟨bw,ow,hwe,hlw,hatw⟩:=hl.at hao;subst hwe;have hq0:∃ g,x.2.1=some ⟨g,0,none⟩:=by
    rcases hoV.inv with ⟨h,_⟩ | ⟨g,cur,h,_⟩
    ·rw [h] at hqe;cases hqe
    ·exact⟨g,h⟩
   obtain⟨g,hg⟩:=hq0;have hbo:b'=g/\o'=0:=by rw [hg] at hqe;simpa using hqe.symm
   obtain⟨rfl,rfl⟩:=hbo;rw [hg] at hoV gV ⊢;have hBg:=(zp hoV rfl).1;refine⟨i,rfl,hil,i64 x.1[i],by have:=zc (hat' i (by omega)) (i:=0) (v:=i64 x.1[i]) (by rw [hgi];rfl);exact this,x.1[i],rfl,hao,?_⟩;have hVw:V.heap[bw]?=w.heap[bw]?:=(gV.block bw (by omega) (by have:B<=b':=hBg;simp;omega)).trans (hbZ.block bw hlw);refine⟨i64 ws[x.1[i]],zc (jb hVw (hatw _ hao)) (i:=0) rfl,i,rfl,hil,zhu (i:=i) (v:=ws[x.1[i]]) k3 rfl hoV (by omega) fun V' oV' gV'=>nxI (by omega) ⟨i+1,(cvE rfl rfl),⟨hil,?_,zd gV gV'⟩,zdc (by omega)⟩⟩;have e:(za4 ws (x.1.take i)++x.1.drop i).set i ws[x.1[i]]=za4 ws (x.1.take (i+1))++x.1.drop (i+1):=zmR hil hao;rw [e] at oV';exact oV'
  ·have hc:¬ (i:Int)<(x.1.length:Int):=dF hc;obtain rfl:i=x.1.length:=by omega
   rw [Qu,Qk,QH] at hoV;have keepI:∀ y:List Nat×OA×Nat,∀ l',OwnS zu 3 B Z y.2.1 y.2.2 l'->(∀ a b,x.2.1=some a->y.2.1=some b->a.block≠b.block)->OwnS zu 3 B V y.2.1 y.2.2 l':=fun y l' hy hne=>hy.same fun b hb=>gV.block _ (zp hy hb).2.1 (by
    intro e
    cases hx1:x.2.1 with
    | none=>rw [hx1] at e;cases e
    | some a =>
     rw [hx1] at e;simp only [Ub,KX] at e;exact hne a b hx1 hb e.symm)
   unfold AscB at hasc;rw [hsplit,List.pairwise_append,List.pairwise_cons] at hasc;obtain⟨_,⟨hA1,_⟩,hA2⟩:=hasc;refine nxI (by omega) ⟨k+1,(cvE rfl rfl),⟨hkl,?_,fun y hy=>?_,fun y hy=>?_,?_⟩,zdc (by omega)⟩
   ·refine ho.same fun a ha=>gV.block _ (zp ho ha).2.1 fun e=>?_
    cases hx1:x.2.1 with
    | none=>rw [hx1] at e;cases e
    | some a2 =>
     rw [hx1] at e;simp only [Ub,KX] at e;obtain⟨_,_,c1,h1⟩:=zp ho ha;obtain⟨_,_,c2,h2⟩:=zp hox hx1;rw [<- e,h1] at h2;simp at h2
   ·rw [tsg hkl,hxk] at hy;rcases QO.1 hy with hy | hy
    ·exact keepI y _ (htk y hy) fun a b ha hb e=>by
      have:=hA2 y hy x (by simp) b a hb ha;omega
    ·rw [Ky.1 hy];exact hoV
   ·exact keepI y _ (hdr y (by rw [hdrop];exact JV _ hy)) fun a b ha hb e=>by
     have:=hA1 y hy a b ha hb;omega
   ·cases hx1:x.2.1 with
    | none =>
     rw [hx1] at gV;exact hbZ.trans ⟨gV.os,gV.tape,gV.output,gV.size,fun j hj=>gV.block j (by omega) (fun e=>by cases e)⟩
    | some a =>
     rw [hx1] at gV;exact hbZ.trans (zh gV hbs (by have:=(zp hox hx1).1;omega))
 ·have hc:¬ (k:Int)<(xs.length:Int):=dF hc;obtain rfl:k=xs.length:=by omega
  rw [Qu] at htk;refine⟨⟨xs.map fun x=>(za4 ws x.1,x.2),p,c',by rw [QK];rfl,?_,?_,fun y hy=>?_⟩,hbZ⟩
  ·rw [hrk,UE,UE];rfl
  ·rw [<- hB];have e1:(xs.map fun x=>(za4 ws x.1,x.2)).flatMap qG.enc=xs.flatMap qG.enc:=by
    rw [Qm];congr 1;funext x;show [Value.slice x.2.1 (za4 ws x.1).length x.2.2]=[Value.slice x.2.1 x.1.length x.2.2];unfold za4;rw [QK]
   unfold OwnS at ho ⊢;rw [e1,QK];exact ho
  ·obtain⟨x,hx,rfl⟩:=UG.1 hy;rw [<- hB];exact htk x hx
end
def exC (x:ExD) (q:OA) (c:Nat):List Value := .slice q x.ev.length c::(zi x.po++(zi x.rf++(zi x.co++(zi x.dt++(zi x.ct++(zi x.rm++(seg 32 (fun i=>u8 (x.regs i))++seg 6 (fun i=>u8 (x.mem i)))))))))
theorem zG (x:ExD) (q:OA) (c:Nat):(exC x q c).length=333:=by
 unfold exC;simp only [Qq,lap,zj,zt]
theorem zbl (x:ExD) (q:OA) (c:Nat):(exC x q c).all Value.oneCell'=true:=by
 unfold exC;rw [Ux,QG,QG,QG,QG,QG,QG,QG,z6,z6,z6,z6,z6,z6,zaQ fun _=>rfl,zaQ fun _=>rfl];rfl
section
variable (x:ExD) (q:OA) (c:Nat) (S:List Value)
theorem znu:∃ A Z,A.length=1/\∀ r,exC { x with po:=r } q c++S=A++(zi r++Z) :=
 ⟨.slice q x.ev.length c::[],(zi x.rf++(zi x.co++(zi x.dt++(zi x.ct++(zi x.rm++(seg 32 (fun i=>u8 (x.regs i))++(seg 6 (fun i=>u8 (x.mem i))++S))))))),by simp only [Qq,QL,lap,zj],fun r=>by simp only [exC,KM,Qj,QR]⟩
theorem zpy:∃ A Z,A.length=50/\∀ r,exC { x with rf:=r } q c++S=A++(zi r++Z) :=
 ⟨.slice q x.ev.length c::zi x.po,(zi x.co++(zi x.dt++(zi x.ct++(zi x.rm++(seg 32 (fun i=>u8 (x.regs i))++(seg 6 (fun i=>u8 (x.mem i))++S)))))),by simp only [Qq,QL,lap,zj],fun r=>by simp only [exC,KM,Qj,QR]⟩
theorem zpA:∃ A Z,A.length=99/\∀ r,exC { x with co:=r } q c++S=A++(zi r++Z) :=
 ⟨.slice q x.ev.length c::(zi x.po++zi x.rf),(zi x.dt++(zi x.ct++(zi x.rm++(seg 32 (fun i=>u8 (x.regs i))++(seg 6 (fun i=>u8 (x.mem i))++S))))),by simp only [Qq,QL,lap,zj],fun r=>by simp only [exC,KM,Qj,QR]⟩
theorem znx:∃ A Z,A.length=148/\∀ r,exC { x with dt:=r } q c++S=A++(zi r++Z) :=
 ⟨.slice q x.ev.length c::(zi x.po++(zi x.rf++zi x.co)),(zi x.ct++(zi x.rm++(seg 32 (fun i=>u8 (x.regs i))++(seg 6 (fun i=>u8 (x.mem i))++S)))),by simp only [Qq,QL,lap,zj],fun r=>by simp only [exC,KM,Qj,QR]⟩
theorem zny:∃ A Z,A.length=197/\∀ r,exC { x with ct:=r } q c++S=A++(zi r++Z) :=
 ⟨.slice q x.ev.length c::(zi x.po++(zi x.rf++(zi x.co++zi x.dt))),(zi x.rm++(seg 32 (fun i=>u8 (x.regs i))++(seg 6 (fun i=>u8 (x.mem i))++S))),by simp only [Qq,QL,lap,zj],fun r=>by simp only [exC,KM,Qj,QR]⟩
theorem znt:∃ A Z,A.length=246/\∀ r,exC { x with rm:=r } q c++S=A++(zi r++Z) :=
 ⟨.slice q x.ev.length c::(zi x.po++(zi x.rf++(zi x.co++(zi x.dt++zi x.ct)))),(seg 32 (fun i=>u8 (x.regs i))++(seg 6 (fun i=>u8 (x.mem i))++S)),by simp only [Qq,QL,lap,zj],fun r=>by simp only [exC,KM,Qj,QR]⟩
theorem zkZ:∃ A Z,A.length=295/\∀ f,exC { x with regs:=f } q c++S=A++(seg 32 (fun i=>u8 (f i))++Z) :=
 ⟨.slice q x.ev.length c::(zi x.po++(zi x.rf++(zi x.co++(zi x.dt++(zi x.ct++zi x.rm))))),(seg 6 (fun i=>u8 (x.mem i))++S),by simp only [Qq,lap,zj],fun f=>by simp only [exC,KM,Qj,QR]⟩
theorem znv:∃ A Z,A.length=327/\∀ f,exC { x with mem:=f } q c++S=A++(seg 6 (fun i=>u8 (f i))++Z) :=
 ⟨.slice q x.ev.length c::(zi x.po++(zi x.rf++(zi x.co++(zi x.dt++(zi x.ct++(zi x.rm++seg 32 (fun i=>u8 (x.regs i)))))))),S,by simp only [Qq,lap,zj,zt],fun f=>by simp only [exC,KM,Qj,QR]⟩
theorem zpz (l:List Ev) (q':OA) (c':Nat):(exC x q c++S).set 0 (.slice q' l.length c')=exC { x with ev:=l } q' c'++S:=by
 unfold exC;rw [Qj,List.set_cons_zero,Qj]
theorem zqg:(exC x q c++S)[0]?=some (.slice q x.ev.length c):=rfl
end
theorem zeS {x:ExD} {q:OA} {c:Nat} {S:List Value} {i:Nat} {v:Value} (h:S[i]?=some v):(exC x q c++S)[333+i]?=some v:=by
 rw [jd (zG _ _ _)];exact h
theorem zhx {x:ExD} {q:OA} {c:Nat} {S:List Value} {i:Nat} {v:Value}:(exC x q c++S).set (333+i) v=exC x q c++S.set i v:=qa (zG _ _ _)
abbrev j8:=List Nat×OA×Nat
abbrev slV (x:j8):Value := .slice x.2.1 x.1.length x.2.2
def zcP (l:List j8):List Value:=l.map slV
theorem zed:∀ l:List j8,l.flatMap qG.enc=zcP l
 | []=>rfl
 | a::l=>by
  show slV a::l.flatMap qG.enc=slV a::zcP l;rw [zed l]
abbrev RowLH (Z:Wd) (g:Nat) (l:List j8):Prop:=Z.heap[g]?=some (.cells (zcP l).toArray 66 (0,0))
theorem RowLH.sl {Z:Wd} {g:Nat} {l:List j8} (h:RowLH Z g l):SlR qG Z (some ⟨g,0,none⟩) l :=
 SlR.of_cells (hlt h) (by rw [zed];exact za h)
theorem RowLH.own {Z:Wd} {g B:Nat} {l:List j8} (h:RowLH Z g l) (hB:B<=g) (hm:l.length<=maxLen):OwnS qG 66 B Z (some ⟨g,0,none⟩) l.length l:=by
 unfold OwnS World.ownsRow;have hz:(zcP l).length=l.length:=by unfold zcP;rw [QK]
 refine⟨by rw [z8],.inr ⟨g,l.length,(zcP l).toArray,rfl,hB,h,US _,hm,?_,?_⟩⟩
 ·show (zcP l).length=l.length*1;rw [hz,UT]
 ·show (zcP l).take (l.length*1)=_;rw [zed,JE (by rw [hz,UT];exact US _)]
structure Rows (B:Nat) (Z:Wd) (W:List j8):Prop where
 own:∀ x∈W,OwnS zu 3 B Z x.2.1 x.2.2 x.1
 dis:∀ (i j:Nat) (x y:j8),W[i]?=some x->W[j]?=some y->i≠j->∀ a b,x.2.1=some a->y.2.1=some b->a.block≠b.block
theorem Rows.same {B:Nat} {Z Y:Wd} {W:List j8} (h:Rows B Z W) (hs:∀ x∈W,∀ a,x.2.1=some a->Y.heap[a.block]?=Z.heap[a.block]?):Rows B Y W :=
 ⟨fun x hx=>(h.own x hx).same (hs x hx),h.dis⟩
theorem Rows.nils (B:Nat) (Z:Wd) (n:Nat):Rows B Z (List.replicate n ([],none,0)):=by
 refine⟨fun x hx=>?_,fun i j x y hx hy _ a b ha _=>?_⟩
 ·rw [Js hx];exact OwnS.nil
 ·have:=JW hx;rw [Js this] at ha
  cases ha
theorem Rows.set {B:Nat} {Z Y:Wd} {W:List j8} {i:Nat} {x y:j8} (h:Rows B Z W) (hi:W[i]?=some x) (ho:OwnS zu 3 B Y y.2.1 y.2.2 y.1) (hg:Z.grownBy Y (x.2.1.map Addr.block)) (hat:∀ a,y.2.1=some a->x.2.1=some a\/Z.heap.size<=a.block):Rows B Y (W.set i y):=by
 obtain⟨hil,hxi⟩:=Jq.1 hi;have ne:∀ (j:Nat) (z:j8),W[j]?=some z->i≠j->∀ b,z.2.1=some b->Y.heap[b.block]?=Z.heap[b.block]?:=fun j z hj hne b hb=>by
  refine hg.block _ (zp (h.own z (JW hj)) hb).2.1 fun e=>?_
  cases hx1:x.2.1 with
  | none=>rw [hx1] at e;cases e
  | some a =>
   rw [hx1] at e;simp only [Ub,KX] at e;exact h.dis i j x z hi hj hne a b hx1 hb e.symm
 have inv:∀ (j:Nat) (z:j8),(W.set i y)[j]?=some z->(i=j/\z=y)\/(i≠j/\W[j]?=some z):=fun j z hj=>by
  by_cases e:i=j
  ·subst e;rw [JC hil] at hj;exact .inl ⟨rfl,(Uc hj).symm⟩
  ·rw [JT e] at hj;exact .inr ⟨e,hj⟩
 refine⟨fun z hz=>?_,fun j k u v hu hv hjk a b ha hb=>?_⟩
 ·obtain⟨j,hj⟩:=List.mem_iff_getElem?.1 hz;rcases inv j z hj with ⟨_,rfl⟩ | ⟨hne,hj⟩
  ·exact ho
  ·exact (h.own z (JW hj)).same (ne j z hj hne)
 ·rcases inv j u hu with ⟨e1,rfl⟩ | ⟨n1,hu'⟩ <;> rcases inv k v hv with ⟨e2,rfl⟩ | ⟨n2,hv'⟩
  ·omega
  ·rcases hat a ha with h1 | h1
   ·exact h.dis i k x v hi hv' n2 a b h1 hb
   ·have:=(zp (h.own v (JW hv')) hb).2.1;omega
  ·rcases hat b hb with h1 | h1
   ·exact h.dis j i u x hu' hi (fun e=>n1 e.symm) a b ha h1
   ·have:=(zp (h.own u (JW hu')) ha).2.1;omega
  ·exact h.dis j k u v hu' hv' hjk a b ha hb
end Go.Proofs.YtpalcnbhkigagaaGreatDoor
namespace Go.Vc
open Go.RowKit
def DrawA (S:Sig) (ops:Array Oper) (E:Env) (w:Wd) (K:Env->Wd->Prop) (QP:List PanicEntry->Wd->Prop):Prop :=
 ∃ (X:List Nat) (T:OT),(zi2 (zbY S.τ X ops) ops ops.size (Array.replicate ops.size false) T&&ops.all (fun o=>jv o.op))=true/\zfm S ops.toList X QP T E w.drew K
inductive Mn where
 | m (m:Mk)
 | s (a b:Mn)
 | c (a b:Mn)
 | d (a b:Mn)
 | t
 | i
section
variable {S:Sig}
def zi1 (rec_:Array Bool->OT->Bool) (ind:Nat->Nat->Bool) (ops:Array Oper) (listed:Array Bool) (T:OT):Bool :=
 !(Region.ready .any ops listed).isEmpty&&(Region.ready .any ops listed).all fun i =>
   (OT.firsts ind i T).any fun T'=>rec_ (listed.setIfInBounds i true) T'
def zeI (ind:Nat->Nat->Bool) (ops:Array Oper):Nat->Array Bool->OT->Bool
 | 0,listed,T=>(Region.ready .any ops listed).isEmpty&&(match T with | .nil=>true | _=>false)
 | m+1,listed,.op k T'=>(match (Region.ready .any ops listed).contains k&&zdI ind ops k listed with
  | true=>zeI ind ops m (listed.setIfInBounds k true) T'
  | false=>zi1 (zeI ind ops m) ind ops listed (.op k T'))
 | m+1,listed,.nil=>zi1 (zeI ind ops m) ind ops listed .nil
 | m+1,listed,.alt x y=>zi1 (zeI ind ops m) ind ops listed (.alt x y)
section
variable {ind:Nat->Nat->Bool} {ops:Array Oper}
theorem zax {rec_:Array Bool->OT->Bool} {L:Array Bool} {T:OT} (h:zi1 rec_ ind ops L T=true):(Region.ready .any ops L).isEmpty=false/\∀ i∈Region.ready .any ops L,∃ T',T'∈OT.firsts ind i T/\rec_ (L.setIfInBounds i true) T'=true:=by
 simp only [zi1,bAT,KH,Qh,Qi] at h;exact⟨h.1,fun i hi=>h.2 i hi⟩
theorem zl5:∀ (m:Nat) (L:Array Bool) (T:OT),zdk ops L->zeI ind ops (m+1) L T=true ->
  (Region.ready .any ops L).isEmpty=false/\∀ i∈Region.ready .any ops L,∃ T',T'∈OT.firsts ind i T/\zeI ind ops m (L.setIfInBounds i true) T'=true:=by
 intro m
 induction m with
 | zero =>
  intro L T hc h
  cases T with
  | nil=>exact zax h
  | alt x y=>exact zax h
  | op k T' =>
   simp only [zeI] at h
   split at h
   ·rename_i hf;simp only [bAT,JS,dE] at hf;refine⟨Jr.2 (Kz hf.1),fun i hi=>?_⟩;by_cases e:i=k
    ·subst e;exact⟨T',by simp [OT.firsts],h⟩
    ·have:=zat hi e;simp only [bAT,Qp] at h;rw [h.1] at this;cases this
   ·exact zax h
 | succ m ih =>
  intro L T hc h
  cases T with
  | nil=>exact zax h
  | alt x y=>exact zax h
  | op k T' =>
   unfold zeI at h
   split at h
   ·rename_i hf;simp only [bAT,JS,dE] at hf;refine⟨Jr.2 (Kz hf.1),fun i hi=>?_⟩;by_cases e:i=k
    ·subst e;exact⟨T',by simp [OT.firsts],h⟩
    ·obtain⟨T'',h1,h2⟩:=(ih _ T' (zb2 hc hf.1) h).2 i (zat hi e);refine⟨.op k T'',?_,?_⟩
     ·have:¬ k=i:=fun e2=>e e2.symm;rw [OT.firsts,Gj this,Gk (ziQ hc hf.2 hf.1 hi e)];exact List.mem_map_of_mem h1
     ·have hk2:k∈Region.ready .any ops (L.setIfInBounds i true):=zat hf.1 (fun e2=>e e2.symm);have hb:((Region.ready .any ops (L.setIfInBounds i true)).contains k&&zdI ind ops k (L.setIfInBounds i true))=true:=by
       simp only [bAT,JS,dE];exact⟨hk2,zfN hf.2⟩
      unfold zeI;rw [hb];rw [zic];exact h2
   ·exact zax h
theorem zel:∀ (m:Nat) (L:Array Bool) (T:OT),zdk ops L->zeI ind ops m L T=true->zi2 ind ops m L T=true
 | 0,L,T,_,h=>h
 | m+1,L,T,hc,h=>by
  obtain⟨h1,h2⟩:=zl5 m L T hc h;simp only [zi2,bAT,KH,Qh,Qi];refine⟨h1,fun i hi=>?_⟩;obtain⟨T',h3,h4⟩:=h2 i hi;exact⟨T',h3,zel m _ T' (zb2 hc hi) h4⟩
end
theorem DrawA.treeR {S:Sig} {ops:Array Oper} {E:Env} {w:Wd} {K:Env->Wd->Prop} {QP:List PanicEntry->Wd->Prop} (X:List Nat) (T:OT)
  (h:(zeI (zbY S.τ X ops) ops ops.size (Array.replicate ops.size false) T&&ops.all (fun o=>jv o.op))=true) (k:zfm S ops.toList X QP T E w.drew K):DrawA S ops E w K QP :=
 ⟨X,T,by
  simp only [bAT] at h ⊢;refine⟨zel _ _ _ (fun j o hj=>?_) h.1,h.2⟩;by_cases hl:j<ops.size <;> simp [hl] at hj,k⟩
theorem DrawE.treeR {S:Sig} {ops:Array Oper} {E:Env} {w:Wd} {K:Env->Wd->Prop} {QP:List PanicEntry->Wd->Prop} (X:List Nat) (T:OT)
  (h:(zeI (zbY S.τ X ops) ops ops.size (Array.replicate ops.size false) T&&ops.all (fun o=>jv o.op))=true) (k:zfm S ops.toList X QP T E w.drew K):DrawE S ops E w K QP :=
 .inr (.inr ⟨X,T,by
  simp only [bAT] at h ⊢;refine⟨zel _ _ _ (fun j o hj=>?_) h.1,h.2⟩;by_cases hl:j<ops.size <;> simp [hl] at hj,k⟩)
end
end Go.Vc
namespace Go.Proofs.YtpalcnbhkigagaaGreatDoor
open Go.Vc Go.RowKit Go.Sei
abbrev zaA (X:Wd) (b:Nat) (x:ExD) (q:OA) (c:Nat) (S:List Value):Prop:=X.heap[b]?=some (.cells (exC x q c++S).toArray 87 (0,0))
abbrev zK:Value := .slice none 0 0
theorem zbX {X:Wd} {b:Nat} {x:ExD} {q:OA} {c:Nat} {S:List Value} (h:zaA X b x q c S):X.cell? ⟨b,0+0,none⟩=some (.slice q x.ev.length c):=zc (za h) (zqg x q c S)
theorem jO {X:Wd} {b:Nat} {x:ExD} {q:OA} {c:Nat} {S:List Value} (h:zaA X b x q c S) {i:Nat} {v:Value} (hi:S[i]?=some v):X.cell? ⟨b,333+i,none⟩=some v:=by
 have:=zc (za h) (zeS (x:=x) (q:=q) (c:=c) hi);rw [UN] at this;exact this
theorem znA {w Z:Wd} {q:OA} {ev:List Ev} {b:Nat} (hl:SlR evE w q ev) (hqb:∀ a,q=some a->a.block≠b) (g:w.grownBy Z (some b)):SlR evE Z q ev:=by
 rcases hl with h | ⟨b',o,h1,h2,h3⟩
 ·exact .inl h
 ·have:=hqb _ h1;exact .inr ⟨b',o,h1,nL h2 g.size,fun i hi=>jb (g.block b' h2 (by simpa using this)) (h3 i hi)⟩
theorem zag (p:OA) (n c:Nat):(Value.slice p n c).ownBlock=p.map Addr.block:=by cases p <;> rfl
theorem zfj {α:Type} {E:Enc α} {T B cap:Nat} {w:Wd} {p:OA} {l:List α} (h:OwnS E T B w p cap l) {k T':Nat} {cur:Array Value} {fr:Nat×Nat} (hk:w.heap[k]?=some (.cells cur T' fr)) (hT:T'≠T):some k≠p.map Addr.block:=fun e=>by
 cases hp:p with
 | none=>rw [hp] at e;cases e
 | some a =>
  rw [hp] at e;simp only [Ub,KX] at e;obtain⟨_,_,cur',h'⟩:=zp h hp;rw [<- e,hk] at h';simp at h';exact hT h'.2.1
theorem SatR.mono {α:Type} {r:Result α} {K K':α->Wd->Prop} (h:SatR r K) (k:∀ v w,K v w->K' v w):SatR r K':=by
 obtain⟨v,w',e,h⟩:=h;exact⟨v,w',e,k v w' h⟩
section
variable {α β:Type} {E:Enc α} {E':Enc β} {T T' B B' c c':Nat} {A C:Wd} {p q:OA} {l:List α} {l':List β}
theorem zcm (h:OwnS E T B A q c l) (g:A.grownBy C (p.map Addr.block)) (hne:∀ a b',p=some a->q=some b'->a.block≠b'.block):OwnS E T B C q c l :=
 h.same fun b' hb'=>g.block _ (zp h hb').2.1 fun e=>by
  cases hp:p with
  | none=>rw [hp] at e;cases e
  | some a =>
   rw [hp] at e;simp only [Ub,KX] at e;exact hne a b' hp hb' e.symm
theorem jN (h:OwnS E T B A q c l) (hp:OwnS E' T' B' A p c' l') (hT:T≠T') (g:A.grownBy C (p.map Addr.block)):OwnS E T B C q c l :=
 zcm h g fun a b' ha hb e=>by
  obtain⟨_,_,c1,h1⟩:=zp h hb;obtain⟨_,_,c2,h2⟩:=zp hp ha;rw [e,h1] at h2;simp at h2;exact hT h2.2
theorem z3 {b:Nat} {cur:Array Value} {fr:Nat×Nat} (h:OwnS E T B A q c l) (hb:A.heap[b]?=some (.cells cur T' fr)) (hT:T≠T') (g:A.grownBy C (some b)):OwnS E T B C q c l :=
 h.same fun b' hb'=>g.block _ (zp h hb').2.1 fun e=>by
  obtain⟨_,_,c1,h1⟩:=zp h hb';simp only [KX] at e;rw [e,hb] at h1;simp at h1;exact hT h1.2.1.symm
theorem zZ {b:Nat} {cur:Array Value} {fr:Nat×Nat} (hb:A.heap[b]?=some (.cells cur T' fr)) (h:OwnS E T B A q c l) (hT:T'≠T) (g:A.grownBy C (q.map Addr.block)):C.heap[b]?=some (.cells cur T' fr) :=
 (g.block b (hlt hb) (zfj h hb hT)).trans hb
theorem qX {n:Nat} (hp:OwnS E T B A p c l) (hn:n<=A.heap.size) (hB:n<=B) (g:A.grownBy C (p.map Addr.block)):Below n A C:=by
 refine⟨g.os,g.tape,g.output,g.size,fun j hj=>g.block j (by omega) fun e=>?_⟩
 cases h:p with
 | none=>rw [h] at e;cases e
 | some a =>
  rw [h] at e;simp only [Ub,KX] at e;have:=(zp hp h).1;omega
end
theorem zn0 {B c k:Nat} {V1:Wd} {p:OA} {l:List Nat} {a:Addr} (ho:OwnS zu 3 B V1 p c l) (ha:zw V1 a ([k].flatMap zu.enc)) (hB:B<=V1.heap.size) (hl:l.length<=100000) {K:Value->Wd->Prop}
  (h:∀ p' c' w',OwnS zu 3 B w' p' c' (l++[k])->V1.grownBy w' (Value.slice p l.length c).ownBlock->(∀ a,p'=some a->p=some a\/a.block=V1.heap.size)->K (.slice p' (l++[k]).length c') w') :
  SatR ((Builtin.append_ #[66,66] 66 #[.slice p l.length c,.slice (some a) 1 1]).run PG V1) K :=
 js (E:=zu) (T:=3) (B:=B) (l:=l) (news:=[k]) (cap:=c) (m:=1) Tryz.underlying66 k3 rfl rfl rfl ho rfl ha hB (by omega) (by show (l.length+1)*8<=_;omega) fun p' c' w' a1 a2 _ a4=>h p' c' w' a1 a2 a4
theorem zrO {B c:Nat} {V1:Wd} {p:OA} {l:List j8} {y:j8} {a:Addr} (ho:OwnS qG 66 B V1 p c l) (ha:zw V1 a ([y].flatMap qG.enc)) (hB:B<=V1.heap.size) (hl:l.length<=100000) {K:Value->Wd->Prop}
  (h:∀ p' c' w',OwnS qG 66 B w' p' c' (l++[y])->V1.grownBy w' (Value.slice p l.length c).ownBlock->(∀ a,p'=some a->p=some a\/a.block=V1.heap.size)->K (.slice p' (l++[y]).length c') w') :
  SatR ((Builtin.append_ #[85,85] 85 #[.slice p l.length c,.slice (some a) 1 1]).run PG V1) K :=
 js (E:=qG) (T:=66) (B:=B) (l:=l) (news:=[y]) (cap:=c) (m:=1) Tryz.underlying85 k66 rfl rfl rfl ho rfl ha hB (by omega) (by show (l.length+1)*24<=_;omega) fun p' c' w' a1 a2 _ a4=>h p' c' w' a1 a2 a4
section
variable {b:Nat} {x:ExD} {q:OA} {c locs:Nat} {w:Wd}
theorem zma (hm:zaA w b x q c [zK,zK,zK]) (hl:SlR evE w q x.ev) (hqb:∀ a,q=some a->a.block≠b) (hn:x.ev.length<=48) (hlo:locs<=100) (hv:∀ e∈x.ev,e.k=1\/e.k=2->e.l.toNat<locs) :
  Calls PG 80 #[At0 b,i64 locs] w fun e w'=>e = .returned (.tuple #[])/\(∃ (p1 p2 p3:OA) (c1 c2 c3:Nat) (xs ys:List j8),
   zaA w' b x q c [.slice p1 (jJ x locs).rs.length c1,.slice p2 xs.length c2,.slice p3 ys.length c3]/\OwnS zu 3 w.heap.size w' p1 c1 ((jJ x locs).rs.map (·.1))/\xs.map (·.1)=(jJ x locs).rs.map (·.2)/\OwnS qG 66 w.heap.size w' p2 c2 xs/\(∀ y∈xs,OwnS zu 3 w.heap.size w' y.2.1 y.2.2 y.1) /\
   ys.map (·.1)=(jJ x locs).wr/\OwnS qG 66 w.heap.size w' p3 c3 ys/\∀ y∈ys,OwnS zu 3 w.heap.size w' y.2.1 y.2.2 y.1)/\w.grownBy w' (some b):=by
 refine qP 114 [At0 b,i64 locs] (.c .p (.c .p .p)) Tryz.func80 ?_;obtain⟨B,hB⟩:=nm (w.heap.size);have hbw:=hlt hm;obtain⟨W0,hW0⟩:∃ W0:List j8,W0=List.replicate locs ([],none,0):=⟨_,rfl⟩;have hW0l:W0.length=locs:=by rw [hW0,JL]
 refine⟨Unit,fun _=>⟨[(0,At0 b)],[]⟩,fun _ X=>zaA X b x q c [zK,zK,.slice (some ⟨B,0,none⟩) locs locs]/\RowLH X B W0/\w.grownBy X (some b)/\B<X.heap.size,?_,?_⟩
 ·refine zcI Tryz.underlying85 k66 rfl rfl (by decide) locs (by show 24*_<=_;omega) (by omega) fun X fX hbX sX=>?_;have ez:∀ n,zbp [Value.slice none 0 0] n=zcP (List.replicate n ([],none,0)):=fun n=>by
   induction n with
   | zero=>rfl
   | succ n ih =>
    show Value.slice none 0 0::zbp [Value.slice none 0 0] n=slV ([],none,0)::zcP (List.replicate n ([],none,0));rw [<- ih];rfl
  have fX:X.heap[w.heap.size]?=some (.cells (zbp [Value.slice none 0 0] locs).toArray 66 (0,0)):=fX;rw [ez,<- hW0,<- hB] at fX;have hmX:=(hbX.block b hbw).trans hm;refine zk k85 hmX (o:=0+335) (v := .slice (some ⟨w.heap.size,0,none⟩) locs locs) rfl rfl (by rw [lap,zG];decide) rfl fun Y fY gY sY=>?_;rw [show 0+335=333+2 from rfl,zhx] at fY;exact⟨(),(cvE rfl rfl),by rw [hB];exact fY,(gY.block B (hlt fX) (by simp;omega)).trans fX,zd (zf hbX) gY,by rw [sY,sX,hB];omega⟩
 rintro _ X ⟨hmX,fX,gX,sX⟩;refine⟨List j8,fun W=>⟨[(0,At0 b)],[]⟩,fun W Z=>zaA Z b x q c [zK,zK,.slice (some ⟨B,0,none⟩) locs locs]/\RowLH Z B W/\w.grownBy Z (some b)/\W.length=locs/\W.map (·.1)=(jJ x locs).wr/\Rows B Z W/\∀ y∈W,y.1.length<=48/\∀ a∈y.1,a<x.ev.length,?_,?_⟩
 ·refine⟨_,zbX hmX,?_⟩;refine⟨Nat×List j8,fun s=>⟨[(0,At0 b),(20,.slice q x.ev.length c),(21,i64 x.ev.length),(22,i64 (s.1:Nat))],[]⟩,
   fun s Z=>s.1<=x.ev.length/\zaA Z b x q c [zK,zK,.slice (some ⟨B,0,none⟩) locs locs]/\RowLH Z B s.2/\w.grownBy Z (some b)/\s.2.length=locs/\zf8 s.1 (x.ev.drop s.1) (s.2.map (·.1))=(jJ x locs).wr/\Rows B Z s.2/\(∀ y∈s.2,y.1.length<=s.1/\∀ a∈y.1,a<x.ev.length),fun s=>x.ev.length-s.1,(0,W0),
   (cvE rfl rfl),⟨UV _,hmX,fX,gX,hW0l,by rw [hW0,List.map_replicate];rfl,by rw [hW0];exact Rows.nils _ _ _,fun y hy=>by rw [hW0] at hy;rw [Js hy];exact⟨UV _,fun a ha=>by cases ha⟩⟩,?_⟩
  clear hmX fX gX sX;rintro⟨k,W⟩ Z ⟨hk,hmZ,fZ,gZ,hWl,hacc,hR,hL⟩;dsimp only at hk fZ hWl hacc hR hL ⊢;refine biE (fun hc=>?_) fun hc=>?_
  ·have hc:(k:Int)<(x.ev.length:Int):=dT hc;have hkl:k<x.ev.length:=by omega
   obtain⟨e,he⟩:∃ e,x.ev[k]=e:=⟨_,rfl⟩;have hem:e∈x.ev:=by rw [<- he];exact gM hkl
   rw [<- JD hkl,he] at hacc;have hacc:zf8 (k+1) (x.ev.drop (k+1)) (if e.k=2 then (W.map (·.1)).set e.l.toNat ((W.map (·.1)).getD e.l.toNat []++[k]) else W.map (·.1))=(jJ x locs).wr:=hacc;have hlZ:=znA hl hqb gZ;obtain⟨bp,op,hqe,hlp,hat⟩:=hlZ.at hkl;subst hqe;refine⟨k,rfl,hkl,evE.enc e,rfl,by rw [<- he];exact hat k hkl,hlp,?_⟩;refine zm (X:=Z) (v := .agg (evE.enc e).toArray) k60 rfl rfl (Qh.2 fun u hu=>evE.one e u hu) fun Y hbY fY sY=>?_;have gY:=zd gZ (zf (row:=some b) hbY);have hmY:=zb hbY hmZ;have fBY:=zb hbY fZ;have hRY:Rows B Y W:=hR.same fun y hy a ha=>hbY.block _ (zp (hR.own y hy) ha).2.1;have fY:Y.heap[Z.heap.size]?=some (.cells (evE.enc e).toArray 60 (0,0)):=fY;refine⟨u8 e.k,zc (za fY) (i:=1) rfl,biE (fun h=>?_) fun h=>?_⟩
   ·have h:e.k=2:=qV.1 (dT h);rw [Gk h] at hacc;have hll:=hv e hem (.inr h);obtain⟨l,hle⟩:∃ l,e.l.toNat=l:=⟨_,rfl⟩;rw [hle] at hacc hll;have hlW:l<W.length:=(by omega);obtain⟨y,hy⟩:∃ y,W[l]?=some y:=⟨_,gE hlW⟩;have hym:y∈W:=JW hy;have hgd:(W.map (·.1)).getD l []=y.1:=(by rw [gDe,KS,hy];rfl);rw [hgd] at hacc;have hyo:=hRY.own y hym;have hylen:=(hL y hym).1;have hrl:(zcP W)[l]?=some (slV y):=(by unfold zcP;rw [KS,hy];rfl);have hd:Bw Y Y.drew:=(UX _ Y).drew;have hba:Below Y.drew.heap.size Y.drew (Y.drew.alloc (.cells (zu.enc k).toArray 3)):=zba _ _;have sa:(Y.drew.alloc (.cells (zu.enc k).toArray 3)).heap.size=Y.heap.size+1:=wz _ _;have nB:=zfj hyo fBY (by decide);have nb:=zfj hyo hmY (by decide);have fin:∀ p2 c2 V,OwnS zu 3 B V p2 c2 (y.1++[k])->(Y.drew.alloc (.cells (zu.enc k).toArray 3)).grownBy V (Value.slice y.2.1 y.1.length y.2.2).ownBlock->(∀ a,p2=some a->y.2.1=some a\/a.block=(Y.drew.alloc (.cells (zu.enc k).toArray 3)).heap.size) ->
      (zaA V b x (some ⟨bp,op,none⟩) c [zK,zK,.slice (some ⟨B,0,none⟩) locs locs]/\V.heap[Z.heap.size]?=some (.cells (evE.enc e).toArray 60 (0,0))) /\
      SatR ((storeVar 66 ⟨B,0+l*1,none⟩ (slV (y.1++[k],p2,c2))).run PG V) fun _ S=>zaA S b x (some ⟨bp,op,none⟩) c [zK,zK,.slice (some ⟨B,0,none⟩) locs locs]/\RowLH S B (W.set l (y.1++[k],p2,c2))/\w.grownBy S (some b)/\(W.set l (y.1++[k],p2,c2)).length=locs/\zf8 (k+1) (x.ev.drop (k+1)) ((W.set l (y.1++[k],p2,c2)).map (·.1))=(jJ x locs).wr/\Rows B S (W.set l (y.1++[k],p2,c2))/\∀ z∈W.set l (y.1++[k],p2,c2),z.1.length<=k+1/\∀ a∈z.1,a<x.ev.length:=by
     intro p2 c2 V oV gV hat2;obtain⟨U,hU⟩:=nm (Y.drew.alloc (.cells (zu.enc k).toArray 3));rw [<- hU] at gV hba sa hat2;have hbYU:Bw Y U:=hd.trans hba;rw [zag] at gV;have gYV:Y.grownBy V (y.2.1.map Addr.block):=zd (zf hbYU) gV;have fBV:RowLH V B W:=(gYV.block B (hlt fBY) nB).trans fBY;have hmV:=(gYV.block b (hlt hmY) nb).trans hmY;have nE:=zfj hyo fY (by decide);refine⟨⟨hmV,(gYV.block _ (hlt fY) nE).trans fY⟩,zk k66 fBV (o:=0+l*1) (v:=slV (y.1++[k],p2,c2)) rfl rfl (by unfold zcP;rw [QK];omega) rfl fun S fS gS sS=>?_⟩;have fS2:RowLH S B (W.set l (y.1++[k],p2,c2)):=by
      rw [UT,UN] at fS;refine fS.trans ?_;unfold zcP;rw [UF]
     have hRV:Rows B V (W.set l (y.1++[k],p2,c2)):=hRY.set (y:=(y.1++[k],p2,c2)) hy oV gYV fun a ha=>(hat2 a ha).imp id fun h=>by omega
     have hRS:Rows B S (W.set l (y.1++[k],p2,c2)):=hRV.same fun z hz a ha=>gS.block _ (zp (hRV.own z hz) ha).2.1 fun e=>by
      have h1:=zfj (hRV.own z hz) fBV (by decide);rw [ha] at h1;exact h1 e.symm
     have gyb:w.grownBy S (some b):=by
      have hBb:B≠b:=(by omega);have e1:Below B Y S:=by
       refine Below.trans ⟨gYV.os,gYV.tape,gYV.output,gYV.size,fun j hj=>gYV.block j (by have:=hlt fBY;omega) fun e=>?_⟩ (zh gS (by have:=hlt fBV;omega) (US _))
       cases hp:y.2.1 with
       | none=>rw [hp] at e;cases e
       | some a =>
        rw [hp] at e;simp only [Ub,KX] at e;have:=(zp hyo hp).1;omega
      rw [hB] at e1;exact ja gY e1
     refine⟨(gS.block b (hlt hmV) (by simp;omega)).trans hmV,fS2,gyb,by rw [QM];exact hWl,?_,hRS,fun z hz=>?_⟩
     ·rw [UF];exact hacc
     ·rcases List.mem_or_eq_of_mem_set hz with h | h
      ·exact⟨by have:=(hL z h).1;omega,(hL z h).2⟩
      ·rw [h];refine⟨by simp only [lap,Qq,QL];omega,fun a ha=>?_⟩;rcases QO.1 ha with ha | ha
       ·exact (hL y hym).2 a ha
       ·rw [Ky.1 ha];exact hkl
    refine DrawE.treeR [16,18] (.op 0 (.op 1 (.op 2 (.op 4 (.op 6 (.op 7 (.op 8 (.op 9 (.op 10 (.op 11 (.op 12 (.op 13 (.op 14 (.alt (.op 15 (.alt (.op 16 (.alt (.op 3 (.op 5 (.op 17 (.op 18 (.nil))))) (.op 5 (.op 3 (.op 17 (.op 18 (.nil))))))) (.alt (.op 3 (.alt (.op 16 (.op 5 (.op 17 (.op 18 (.nil))))) (.op 5 (.op 16 (.op 17 (.op 18 (.nil))))))) (.op 5 (.alt (.op 16 (.op 3 (.op 17 (.op 18 (.nil))))) (.op 3 (.op 16 (.op 17 (.op 18 (.nil)))))))))) (.alt (.op 3 (.alt (.op 15 (.alt (.op 16 (.op 5 (.op 17 (.op 18 (.nil))))) (.op 5 (.op 16 (.op 17 (.op 18 (.nil))))))) (.op 5 (.op 15 (.op 16 (.op 17 (.op 18 (.nil)))))))) (.op 5 (.alt (.op 15 (.alt (.op 16 (.op 3 (.op 17 (.op 18 (.nil))))) (.op 3 (.op 16 (.op 17 (.op 18 (.nil))))))) (.op 3 (.op 15 (.op 16 (.op 17 (.op 18 (.nil))))))))))))))))))))))) (by kernel_rfl) ⟨_,jO (hdr hmY) (i:=2) rfl,u8 e.l,zc (za (hdr fY)) (i:=2) rfl,l,by rw [<- hle],hll,?_⟩;refine⟨slV y,by have:=zc (za (hdr fBY)) (i:=l*1) (v:=slV y) (by rw [UT];exact hrl);exact this,?_⟩;have hsz:x.ev.length-(k+1)<x.ev.length-k:=(by omega);have app:∀ {K:Value->Wd->Prop},(∀ p2 c2 V,((zaA V b x (some ⟨bp,op,none⟩) c [zK,zK,.slice (some ⟨B,0,none⟩) locs locs]/\V.heap[Z.heap.size]?=some (.cells (evE.enc e).toArray 60 (0,0))) /\
      SatR ((storeVar 66 ⟨B,0+l*1,none⟩ (slV (y.1++[k],p2,c2))).run PG V) fun _ S=>zaA S b x (some ⟨bp,op,none⟩) c [zK,zK,.slice (some ⟨B,0,none⟩) locs locs]/\RowLH S B (W.set l (y.1++[k],p2,c2))/\w.grownBy S (some b)/\(W.set l (y.1++[k],p2,c2)).length=locs/\zf8 (k+1) (x.ev.drop (k+1)) ((W.set l (y.1++[k],p2,c2)).map (·.1))=(jJ x locs).wr/\Rows B S (W.set l (y.1++[k],p2,c2))/\∀ z∈W.set l (y.1++[k],p2,c2),z.1.length<=k+1/\∀ a∈z.1,a<x.ev.length)->K (slV (y.1++[k],p2,c2)) V) ->
      SatR ((Builtin.append_ #[66,66] 66 #[slV y,.slice (some ⟨Y.drew.heap.size,0,none⟩) 1 1]).run PG (Y.drew.alloc (.cells (zu.enc k).toArray 3))) K:=fun {K} h =>
     js (E:=zu) (T:=3) (B:=B) (l:=y.1) (news:=[k]) (cap:=y.2.2) (m:=1) Tryz.underlying66 k3 rfl rfl rfl (hyo.below (hd.trans hba)) rfl (qJ zu k) (by have:=gY.size;omega) (by omega) (by show (y.1.length+1)*8<=_;omega) fun p2 c2 V oV gV hbV hat2=>h p2 c2 V (fin p2 c2 V oV gV hat2)
    have hmA:=qm (.cells (zu.enc k).toArray 3 (0,0)) (hdr hmY);have fEA:=qm (.cells (zu.enc k).toArray 3 (0,0)) (hdr fY);refine Gc ?_ (Gc ?_ ?_)
    ·refine⟨⟨by decide,by decide,rfl⟩,zu.enc k,rfl,hba,Gc ?_ (Gc ?_ ?_)⟩
     ·refine app fun p2 c2 V ⟨⟨hmV,fEV⟩,hst⟩=>Gc ?_ ?_
      ·refine⟨_,jO hmV (i:=2) rfl,u8 e.l,zc (za fEV) (i:=2) rfl,l,by rw [<- hle],hll,?_⟩;refine SatR.mono hst ?_;rintro _ S hS;exact nxI (by omega) ⟨(k+1,W.set l (y.1++[k],p2,c2)),(cvE rfl rfl),⟨hkl,hS⟩,hsz⟩
      ·refine⟨u8 e.l,zc (za fEV) (i:=2) rfl,_,jO hmV (i:=2) rfl,l,by rw [<- hle],hll,?_⟩;refine SatR.mono hst ?_;rintro _ S hS;exact nxI (by omega) ⟨(k+1,W.set l (y.1++[k],p2,c2)),(cvE rfl rfl),⟨hkl,hS⟩,hsz⟩
     ·refine⟨_,jO hmA (i:=2) rfl,Gc ?_ ?_⟩
      ·refine app fun p2 c2 V ⟨⟨hmV,fEV⟩,hst⟩=>⟨u8 e.l,zc (za fEV) (i:=2) rfl,l,by rw [<- hle],hll,?_⟩;refine SatR.mono hst ?_;rintro _ S hS;exact nxI (by omega) ⟨(k+1,W.set l (y.1++[k],p2,c2)),(cvE rfl rfl),⟨hkl,hS⟩,hsz⟩
      ·refine⟨u8 e.l,zc (za fEA) (i:=2) rfl,app fun p2 c2 V ⟨⟨hmV,fEV⟩,hst⟩=>⟨l,by rw [<- hle],hll,?_⟩⟩;refine SatR.mono hst ?_;rintro _ S hS;exact nxI (by omega) ⟨(k+1,W.set l (y.1++[k],p2,c2)),(cvE rfl rfl),⟨hkl,hS⟩,hsz⟩
     ·refine⟨u8 e.l,zc (za fEA) (i:=2) rfl,Gc ?_ ?_⟩
      ·refine app fun p2 c2 V ⟨⟨hmV,fEV⟩,hst⟩=>⟨_,jO hmV (i:=2) rfl,l,by rw [<- hle],hll,?_⟩;refine SatR.mono hst ?_;rintro _ S hS;exact nxI (by omega) ⟨(k+1,W.set l (y.1++[k],p2,c2)),(cvE rfl rfl),⟨hkl,hS⟩,hsz⟩
      ·refine⟨_,jO hmA (i:=2) rfl,app fun p2 c2 V ⟨⟨hmV,fEV⟩,hst⟩=>⟨l,by rw [<- hle],hll,?_⟩⟩;refine SatR.mono hst ?_;rintro _ S hS;exact nxI (by omega) ⟨(k+1,W.set l (y.1++[k],p2,c2)),(cvE rfl rfl),⟨hkl,hS⟩,hsz⟩
    ·refine⟨_,jO (hdr hmY) (i:=2) rfl,Gc ?_ ?_⟩
     ·refine⟨⟨by decide,by decide,rfl⟩,zu.enc k,rfl,hba,Gc ?_ ?_⟩
      ·refine app fun p2 c2 V ⟨⟨hmV,fEV⟩,hst⟩=>⟨u8 e.l,zc (za fEV) (i:=2) rfl,l,by rw [<- hle],hll,?_⟩;refine SatR.mono hst ?_;rintro _ S hS;exact nxI (by omega) ⟨(k+1,W.set l (y.1++[k],p2,c2)),(cvE rfl rfl),⟨hkl,hS⟩,hsz⟩
      ·refine⟨u8 e.l,zc (za fEA) (i:=2) rfl,app fun p2 c2 V ⟨⟨hmV,fEV⟩,hst⟩=>⟨l,by rw [<- hle],hll,?_⟩⟩;refine SatR.mono hst ?_;rintro _ S hS;exact nxI (by omega) ⟨(k+1,W.set l (y.1++[k],p2,c2)),(cvE rfl rfl),⟨hkl,hS⟩,hsz⟩
     ·refine⟨u8 e.l,zc (za (hdr fY)) (i:=2) rfl,⟨by decide,by decide,rfl⟩,zu.enc k,rfl,hba,app fun p2 c2 V ⟨⟨hmV,fEV⟩,hst⟩=>⟨l,by rw [<- hle],hll,?_⟩⟩;refine SatR.mono hst ?_;rintro _ S hS;exact nxI (by omega) ⟨(k+1,W.set l (y.1++[k],p2,c2)),(cvE rfl rfl),⟨hkl,hS⟩,hsz⟩
    ·refine⟨u8 e.l,zc (za (hdr fY)) (i:=2) rfl,Gc ?_ ?_⟩
     ·refine⟨⟨by decide,by decide,rfl⟩,zu.enc k,rfl,hba,Gc ?_ ?_⟩
      ·refine app fun p2 c2 V ⟨⟨hmV,fEV⟩,hst⟩=>⟨_,jO hmV (i:=2) rfl,l,by rw [<- hle],hll,?_⟩;refine SatR.mono hst ?_;rintro _ S hS;exact nxI (by omega) ⟨(k+1,W.set l (y.1++[k],p2,c2)),(cvE rfl rfl),⟨hkl,hS⟩,hsz⟩
      ·refine⟨_,jO hmA (i:=2) rfl,app fun p2 c2 V ⟨⟨hmV,fEV⟩,hst⟩=>⟨l,by rw [<- hle],hll,?_⟩⟩;refine SatR.mono hst ?_;rintro _ S hS;exact nxI (by omega) ⟨(k+1,W.set l (y.1++[k],p2,c2)),(cvE rfl rfl),⟨hkl,hS⟩,hsz⟩
     ·refine⟨_,jO (hdr hmY) (i:=2) rfl,⟨by decide,by decide,rfl⟩,zu.enc k,rfl,hba,app fun p2 c2 V ⟨⟨hmV,fEV⟩,hst⟩=>⟨l,by rw [<- hle],hll,?_⟩⟩;refine SatR.mono hst ?_;rintro _ S hS;exact nxI (by omega) ⟨(k+1,W.set l (y.1++[k],p2,c2)),(cvE rfl rfl),⟨hkl,hS⟩,hsz⟩
   ·have h:¬ e.k=2:=fun e'=>dF h (by rw [e'];rfl);rw [Gj h] at hacc;exact nxI (by omega) ⟨(k+1,W),(cvE rfl rfl),⟨hkl,hmY,fBY,gY,hWl,hacc,hRY,fun y hy=>⟨by have:=(hL y hy).1;show _<=k+1;omega,(hL y hy).2⟩⟩,zdc (by omega)⟩
  ·have hc:¬ (k:Int)<(x.ev.length:Int):=dF hc;obtain rfl:k=x.ev.length:=by omega
   rw [Qk] at hacc;exact⟨W,(cvE rfl rfl),hmZ,fZ,gZ,hWl,hacc,hR,fun y hy=>⟨by have:=(hL y hy).1;omega,(hL y hy).2⟩⟩
 rintro W X ⟨hmX,fX,gX,hWl,hwr,hR,hWb⟩;refine⟨_,zbX hmX,?_⟩;obtain⟨RS,hRS⟩:=nm ((jJ x locs).rs);have hRSg:RS=zdu x.ev (W.map (·.1)) 0 x.ev:=by rw [hRS,hwr];rfl
 rw [<- hRS,<- hwr];have sX:B<X.heap.size:=hlt fX;refine⟨Nat×List (Nat×List Nat)×List j8×(OA×Nat)×(OA×Nat),fun s=>⟨[(0,At0 b),(53,.slice q x.ev.length c),(54,i64 x.ev.length),(55,i64 (s.1:Nat))],[]⟩,
  fun s Z=>s.1<=x.ev.length/\RS=s.2.1++zdu x.ev (W.map (·.1)) s.1 (x.ev.drop s.1)/\s.2.1.length<=s.1/\s.2.2.1.map (·.1)=s.2.1.map (·.2)/\zaA Z b x q c [.slice s.2.2.2.1.1 (s.2.1.map (·.1)).length s.2.2.2.1.2,.slice s.2.2.2.2.1 s.2.2.1.length s.2.2.2.2.2,.slice (some ⟨B,0,none⟩) locs locs]/\RowLH Z B W/\w.grownBy Z (some b)/\(∀ y∈W,OwnS zu 3 B Z y.2.1 y.2.2 y.1)/\(∀ y∈s.2.2.1,OwnS zu 3 B Z y.2.1 y.2.2 y.1) /\
   OwnS zu 3 B Z s.2.2.2.1.1 s.2.2.2.1.2 (s.2.1.map (·.1))/\OwnS qG 66 B Z s.2.2.2.2.1 s.2.2.2.2.2 s.2.2.1/\(∀ a,s.2.2.2.1.1=some a->∀ y,y∈s.2.2.1\/y∈W->∀ b',y.2.1=some b'->a.block≠b'.block)/\(∀ a,s.2.2.2.2.1=some a->a.block≠B),
  fun s=>x.ev.length-s.1,(0,[],[],(none,0),(none,0)),
  (cvE rfl rfl),⟨UV _,hRSg,US _,rfl,hmX,fX,gX,hR.own,fun y hy=>(by cases hy),OwnS.nil,OwnS.nil,fun a ha=>(by cases ha),fun a ha=>(by cases ha)⟩,?_⟩
 clear hmX fX gX hR sX;rintro⟨k,dn,xs,⟨p1,c1⟩,⟨p2,c2⟩⟩ Z ⟨hk,hspec,hdl,hxs,hmZ,fZ,gZ,hWo,hxo,ho1,ho2,hd1,hd2⟩;dsimp only at hk hspec hdl hxs hmZ hxo ho1 ho2 hd1 hd2 ⊢;refine biE (fun hc=>?_) fun hc=>?_
 ·have hc:(k:Int)<(x.ev.length:Int):=dT hc;have hkl:k<x.ev.length:=by omega
  obtain⟨e,he⟩:∃ e,x.ev[k]=e:=⟨_,rfl⟩;have hem:e∈x.ev:=by rw [<- he];exact gM hkl
  rw [<- JD hkl,he] at hspec;have hlZ:=znA hl hqb gZ;obtain⟨bp,op,hqe,hlp,hat⟩:=hlZ.at hkl;subst hqe;refine⟨k,rfl,hkl,evE.enc e,rfl,by rw [<- he];exact hat k hkl,hlp,?_⟩;refine zm (X:=Z) (v := .agg (evE.enc e).toArray) k60 rfl rfl (Qh.2 fun u hu=>evE.one e u hu) fun Y hbY fY sY=>?_;have gY:=zd gZ (zf (row:=some b) hbY);have hmY:=zb hbY hmZ;have fBY:=zb hbY fZ;have fY:Y.heap[Z.heap.size]?=some (.cells (evE.enc e).toArray 60 (0,0)):=fY;refine⟨u8 e.k,zc (za fY) (i:=1) rfl,biE (fun h=>?_) fun h=>?_⟩
  ·have h:¬ e.k=1:=fun e'=>by
    rw [e'] at h;exact Gl h (by decide)
   have hspec:RS=dn++(if e.k=1 then (k,((W.map (·.1)).getD e.l.toNat []).filter fun w=>decide ((x.ev.getD w ev0).v=e.v))::zdu x.ev (W.map (·.1)) (k+1) (x.ev.drop (k+1)) else zdu x.ev (W.map (·.1)) (k+1) (x.ev.drop (k+1))):=hspec;rw [Gj h] at hspec;exact nxI (by omega) ⟨(k+1,dn,xs,(p1,c1),(p2,c2)),(cvE rfl rfl),⟨hkl,hspec,by show dn.length<=k+1;omega,hxs,hmY,fBY,gY,fun y hy=>(hWo y hy).below hbY,fun y hy=>(hxo y hy).below hbY,ho1.below hbY,ho2.below hbY,hd1,hd2⟩,zdc (by omega)⟩
  ·have h1:decide ((e.k.toNat:Int)=1)=true:=by simpa using h
   have h:e.k=1:=qV.1 (dT h1);obtain⟨l,hle⟩:∃ l,e.l.toNat=l:=⟨_,rfl⟩;have hll:l<locs:=by rw [<- hle];exact hv e hem (.inl h)
   have hlW:l<W.length:=by omega
   obtain⟨y,hy⟩:∃ y,W[l]?=some y:=⟨_,gE hlW⟩;have hym:y∈W:=JW hy;have hgd:(W.map (·.1)).getD l []=y.1:=by rw [gDe,KS,hy];rfl
   obtain⟨P,hP⟩:∃ P:Nat->Bool,P=fun w=>decide ((x.ev.getD w ev0).v=e.v):=⟨_,rfl⟩;have hspec:RS=dn++(k,y.1.filter P)::zdu x.ev (W.map (·.1)) (k+1) (x.ev.drop (k+1)):=by
    have hspec:RS=dn++(if e.k=1 then (k,((W.map (·.1)).getD e.l.toNat []).filter fun w=>decide ((x.ev.getD w ev0).v=e.v))::zdu x.ev (W.map (·.1)) (k+1) (x.ev.drop (k+1)) else zdu x.ev (W.map (·.1)) (k+1) (x.ev.drop (k+1))):=hspec;rw [Gk h,hle,hgd,<- hP] at hspec;exact hspec
   obtain⟨hy48,hyb⟩:=hWb y hym;have hyo:=(hWo y hym).below hbY;have hrl:(zcP W)[l]?=some (slV y):=by unfold zcP;rw [KS,hy];rfl
   have hd:Bw Y Y.drew:=(UX _ Y).drew;refine DrawE.ord [] [0,1,2,3,4,5,6,7,8,9] (by kernel_rfl) ⟨_,jO (hdr hmY) (i:=2) rfl,u8 e.l,zc (za (hdr fY)) (i:=2) rfl,l,by rw [<- hle],hll,?_⟩;refine⟨slV y,by have:=zc (za (hdr fBY)) (i:=l*1) (v:=slV y) (by rw [UT];exact hrl);exact this,?_⟩;obtain⟨M,hM⟩:=nm (Y.heap.size);refine⟨Nat×List Nat×OA×Nat,fun s=>⟨[(0,At0 b),(6,i64 (k:Nat)),(7,At0 Z.heap.size),(8,.slice s.2.2.1 s.2.1.length s.2.2.2),(53,.slice (some ⟨bp,op,none⟩) x.ev.length c),(54,i64 x.ev.length),(55,i64 (k:Nat)),(70,slV y),(71,i64 y.1.length),(72,i64 (s.1:Nat))],[]⟩,
    fun s V=>s.1<=y.1.length/\s.2.1=(y.1.take s.1).filter P/\OwnS zu 3 M V s.2.2.1 s.2.2.2 s.2.1/\Below M Y V,fun s=>y.1.length-s.1,(0,[],none,0),
    (cvE rfl rfl),⟨UV _,rfl,OwnS.nil,by rw [hM];exact hd⟩,?_⟩
   rintro⟨i,fr,p3,c3⟩ V ⟨hi,hfr,hoV,hbV⟩;dsimp only at hi hfr hoV ⊢;have sV:=hbV.size;have hmV:=(hbV.block b (by have:=hlt hmY;omega)).trans hmY;have fEV:=(hbV.block Z.heap.size (by have:=hlt fY;omega)).trans fY;have fBV:=(hbV.block B (by have:=hlt fBY;omega)).trans fBY;have hbYV:Bw Y V:=by rw [hM] at hbV;exact hbV
   have hyoV:=hyo.below hbYV;have hfl:fr.length<=i:=by rw [hfr];exact UJ (JK _ _) (by rw [Qs];exact Nat.min_le_left _ _)
   refine biE (fun hc=>?_) fun hc=>?_
   ·have hc:(i:Int)<(y.1.length:Int):=dT hc;have hil:i<y.1.length:=(by omega);have hyi:=hyb y.1[i] (gM hil);have hlV:=znA hl hqb (ja gY (hbV.mono (by have:=gY.size;omega)));obtain⟨by_,oy,hye,hly,haty⟩:=hyoV.row.at hil;obtain⟨bq,oq,hqe,hlq,hatq⟩:=hlV.at hyi;simp only [KX,Ur,Ge] at hqe;obtain⟨rfl,rfl⟩:=hqe;have htk:(y.1.take (i+1)).filter P=fr++(if P y.1[i] then [y.1[i]] else []):=by
     rw [tsg hil,Kt,hfr]
     cases hPi:P y.1[i] <;> simp [hPi]
    have hPv:P y.1[i]=decide (x.ev[y.1[i]].v=e.v):=by
     rw [hP];show decide ((x.ev.getD y.1[i] ev0).v=e.v)=_;rw [gDe,gE hyi];rfl
    rw [show slV y = .slice (some ⟨by_,oy,none⟩) y.1.length y.2.2 by unfold slV;rw [hye]];refine⟨i,rfl,hil,i64 y.1[i],zc (haty i hil) (i:=0) rfl,DrawE.ord [] [0,1,2,3,4,5,6,7,8,9,10,11] (by kernel_rfl) ⟨_,zbX (hdr hmV),y.1[i],rfl,hyi,?_⟩⟩;have hdV:Bw V V.drew:=(UX _ V).drew;refine⟨u8 x.ev[y.1[i]].v,by have:=zc (zo hdV (hatq y.1[i] hyi)) (i:=3) (v:=u8 x.ev[y.1[i]].v) rfl;exact this,u8 e.v,zc (za (hdr fEV)) (i:=3) rfl,biE (fun hq=>?_) fun hq=>?_⟩
    ·have hq:x.ev[y.1[i]].v=e.v:=qV.1 (dT hq);rw [hPv,Up hq,Gk rfl] at htk;refine⟨⟨by decide,by decide,rfl⟩,zu.enc y.1[i],rfl,?_⟩;have hba:Below V.drew.heap.size V.drew (V.drew.alloc (.cells (zu.enc y.1[i]).toArray 3)):=zba _ _;refine js (E:=zu) (T:=3) (B:=M) (l:=fr) (news:=[y.1[i]]) (cap:=c3) (m:=1) Tryz.underlying66 k3 rfl rfl rfl (hoV.below (hdV.trans hba)) rfl (qJ zu y.1[i]) (by have:=hba.size;have:=hdV.size;omega) (by omega) (by show (fr.length+1)*8<=_;omega) ?_;intro p4 c4 U oU gU hbU hat4;exact nxI (by omega) ⟨(i+1,fr++[y.1[i]],p4,c4),(cvE rfl rfl),⟨hil,htk.symm,oU,((hbV.trans (hdV.mono (by omega))).trans (hba.mono (by have:=hdV.size;omega))).trans hbU⟩,zdc (by omega)⟩
    ·have hq:¬ x.ev[y.1[i]].v=e.v:=fun e'=>dF hq (by rw [e']);rw [hPv,Ue hq] at htk;simp only [Kr,Gg,QH] at htk;exact nxI (by omega) ⟨(i+1,fr,p3,c3),(cvE rfl rfl),⟨hil,htk.symm,hoV.below hdV,hbV.trans (hdV.mono (by omega))⟩,zdc (by omega)⟩
   ·have hc:¬ (i:Int)<(y.1.length:Int):=dF hc;obtain rfl:i=y.1.length:=(by omega);rw [Qu] at hfr;have hbMB:B<=M:=(by have:=hlt fBY;omega);have hxlen:xs.length=dn.length:=by
     have:=Gf List.length hxs;simpa using this
    refine⟨.slice p1 (dn.map (·.1)).length c1,jO hmV (i:=0) rfl,⟨by decide,by decide,rfl⟩,zu.enc k,rfl,?_⟩;obtain⟨V1,hV1⟩:=nm (V.alloc (.cells (zu.enc k).toArray 3));have hb1:Bw V V1:=(by rw [hV1];exact (zba _ _));have s1:V1.heap.size=V.heap.size+1:=(by rw [hV1];exact wz _ _);have hZV:Bw Z V:=zst hbY hbYV;have hZV1:Bw Z V1:=zst hZV hb1;have ho1V:=ho1.below hZV1;rw [<- hV1];refine zn0 ho1V (by rw [hV1];exact qJ zu k) (by omega) (by rw [QK];omega) fun q1 d1 U oU gU hat1=>?_;rw [zag] at gU;have hmV1:=zb hb1 hmV;have hmU:=zZ hmV1 ho1V (by decide) gU;have fBU:=zZ (zb hb1 fBV) ho1V (by decide) gU;refine zk k66 hmU (o:=0+333) (v := .slice q1 (dn.map (·.1)++[k]).length d1) rfl rfl (by rw [lap,zG];show 333<336;decide) rfl fun S fS gS sS=>?_;rw [show 0+333=333+0 from rfl,zhx] at fS;have fS:zaA S b x (some ⟨bp,op,none⟩) c [.slice q1 (dn.map (·.1)++[k]).length d1,.slice p2 xs.length c2,.slice (some ⟨B,0,none⟩) locs locs]:=fS;have p1M:∀ a,p1=some a->a.block<M:=fun a ha=>by have:=(zp ho1 ha).2.1;have:=hbY.size;omega
    have hoU:OwnS zu 3 M U p3 c3 fr:=zcm (hoV.below hb1) gU fun a b' ha hb e=>by have:=p1M a ha;have:=(zp hoV hb).1;omega
    have hWU:∀ y∈W,OwnS zu 3 B U y.2.1 y.2.2 y.1:=fun y hy=>zcm ((hWo y hy).below hZV1) gU fun a b' ha hb=>hd1 a ha y (.inr hy) b' hb;have hxU:∀ y∈xs,OwnS zu 3 B U y.2.1 y.2.2 y.1:=fun y hy=>zcm ((hxo y hy).below hZV1) gU fun a b' ha hb=>hd1 a ha y (.inl hy) b' hb;have ho2U:=jN (ho2.below hZV1) ho1V (by decide) gU;have hoS:=z3 hoU hmU (by decide) gS;have hWS:∀ y∈W,OwnS zu 3 B S y.2.1 y.2.2 y.1:=fun y hy=>z3 (hWU y hy) hmU (by decide) gS;have hxS:∀ y∈xs,OwnS zu 3 B S y.2.1 y.2.2 y.1:=fun y hy=>z3 (hxU y hy) hmU (by decide) gS;have ho2S:=z3 ho2U hmU (by decide) gS;have ho1S:=z3 oU hmU (by decide) gS;have hBb:B≠b:=(by omega);have fBS:=(gS.block B (hlt fBU) (by simp;omega)).trans fBU;refine⟨_,jO fS (i:=1) rfl,⟨by decide,by decide,rfl⟩,qG.enc (fr,p3,c3),rfl,?_⟩;obtain⟨S1,hS1⟩:=nm (S.alloc (.cells (qG.enc (fr,p3,c3)).toArray 66));have hbS1:Bw S S1:=(by rw [hS1];exact (zba _ _));have sS1:S1.heap.size=S.heap.size+1:=(by rw [hS1];exact wz _ _);have ho2S1:=ho2S.below hbS1;have sU:=gU.size;unfold zdx zad;show SatR _ _;rw [<- hS1];refine zrO ho2S1 (by rw [hS1];exact qJ qG (fr,p3,c3)) (by omega) (by omega) fun q2 d2 N oN gN hat2=>?_;rw [zag] at gN;have fN:=zZ (zb hbS1 fS) ho2S1 (by decide) gN;refine zk k85 fN (o:=0+334) (v := .slice q2 (xs++[(fr,p3,c3)]).length d2) rfl rfl (by rw [lap,zG];show 334<336;decide) rfl fun O fO gO sO=>?_;rw [show 0+334=333+1 from rfl,zhx] at fO;have fO:zaA O b x (some ⟨bp,op,none⟩) c [.slice q1 ((dn++[(k,fr)]).map (·.1)).length d1,.slice q2 (xs++[(fr,p3,c3)]).length d2,.slice (some ⟨B,0,none⟩) locs locs]:=by
     rw [QN];exact fO
    have step:∀ {q:OA} {cc:Nat} {ll:List Nat} {B':Nat},OwnS zu 3 B' S q cc ll->OwnS zu 3 B' O q cc ll:=fun h =>
     z3 (jN (h.below hbS1) ho2S1 (by decide) gN) fN (by decide) gO
    have h2B:∀ a,p2=some a->a.block≠B:=hd2;have fBO:RowLH O B W:=by
     have h1:=zb hbS1 fBS;have h2:=(gN.block B (hlt h1) fun e=>by
      cases hp:p2 with
      | none=>rw [hp] at e;cases e
      | some a =>
       rw [hp] at e;simp only [Ub,KX] at e;exact hd2 a hp e.symm).trans h1
     exact (gO.block B (hlt h2) (by simp;omega)).trans h2
    have newr:∀ a,q1=some a->p1=some a\/V.heap.size<=a.block:=fun a ha=>(hat1 a ha).imp id fun h=>by omega
    have new2:∀ a,q2=some a->p2=some a\/U.heap.size<=a.block:=fun a ha=>(hat2 a ha).imp id fun h=>by omega
    have frM:∀ a,p3=some a->M<=a.block/\a.block<V.heap.size:=fun a ha=>⟨(zp hoV ha).1,(zp hoV ha).2.1⟩;have hwb:w.grownBy O (some b):=by
     have sG:=gS.size;have sZ:=hlt fZ;have e0:Below B Z V1:=hZV1.mono (by omega);have e1:Below B V1 U:=qX ho1V (by omega) (US _) gU;have e2:Below B S S1:=hbS1.mono (by omega);have e3:Below B S1 N:=qX ho2S1 (by omega) (US _) gN;rw [hB] at e0 e1 e2 e3;exact zd (ja (ja (zd (ja (ja gZ e0) e1) gS) e2) e3) gO
    refine nxI (by omega) ⟨(k+1,dn++[(k,fr)],xs++[(fr,p3,c3)],(q1,d1),(q2,d2)),(cvE rfl rfl),⟨hkl,?_,?_,?_,fO,fBO,hwb,fun y hy=>step (hWS y hy),fun y hy=>?_,?_,z3 oN fN (by decide) gO,fun a ha y hy b' hb'=>?_,fun a ha=>?_⟩,zdc (by omega)⟩
    ·show RS=(dn++[(k,fr)])++_;rw [hspec,<- hfr,KM];rfl
    ·show (dn++[(k,fr)]).length<=k+1;simp only [lap,Qq,QL];omega
    ·show (xs++[(fr,p3,c3)]).map (·.1)=(dn++[(k,fr)]).map (·.2);rw [QN,QN,hxs];rfl
    ·rcases QO.1 hy with hy | hy
     ·exact step (hxS y hy)
     ·rw [Ky.1 hy];exact step (hoS.lower hbMB)
    ·show OwnS zu 3 B O q1 d1 ((dn++[(k,fr)]).map (·.1));rw [QN];exact step ho1S
    ·have old:(y∈xs\/y∈W)\/y=(fr,p3,c3):=by
      rcases hy with hy | hy
      ·rcases QO.1 hy with hy | hy
       ·exact .inl (.inl hy)
       ·exact .inr (Ky.1 hy)
      ·exact .inl (.inr hy)
     rcases old with hy | rfl
     ·rcases newr a ha with h | h
      ·exact hd1 a h y hy b' hb'
      ·have:b'.block<Z.heap.size:=by
        rcases hy with hy | hy
        ·exact (zp (hxo y hy) hb').2.1
        ·exact (zp (hWo y hy) hb').2.1
       have:=hZV.size;omega
     ·have h3:=frM b' hb';rcases newr a ha with h | h
      ·have:=p1M a h;omega
      ·omega
    ·rcases new2 a ha with h | h
     ·exact hd2 a h
     ·omega
 ·have hc:¬ (k:Int)<(x.ev.length:Int):=dF hc;obtain rfl:k=x.ev.length:=by omega
  rw [Qk] at hspec;have hspec:RS=dn++[]:=hspec;rw [QH] at hspec;subst hspec;refine⟨rfl,⟨p1,p2,some ⟨B,0,none⟩,c1,c2,locs,xs,W,by rw [hWl];rw [QK] at hmZ;exact hmZ,by rw [<- hB];exact ho1,hxs,by rw [<- hB];exact ho2,by rw [<- hB];exact hxo,rfl,?_,by rw [<- hB];exact hWo⟩,gZ⟩;rw [<- hB];have:=fZ.own (B:=B) (US _) (by unfold maxLen;omega);rw [hWl] at this;exact this
end
theorem zkR {P:Program} {w:Wd} {t ty:TypeId} {a b:Nat} {K:Value->Wd->Prop} (k:K (i64 (min a b:Nat)) w):SatR ((Builtin.min_ #[t,t] ty #[i64 a,i64 b]).run P w) K:=by
 refine SatR.mk (v:=i64 (min a b:Nat)) (w':=w) ?_ k;by_cases h:(b:Int)<a
 ·have e:min a b=b:=Nat.min_eq_right (by omega);rw [e];simp [Builtin.min_,Builtin.min2,i64,h]
 ·have e:min a b=a:=QX (by omega);rw [e];simp [Builtin.min_,Builtin.min2,i64,h]
section
variable {b o:Nat} {x:ExD} {q:OA} {c:Nat} {w:Wd} {r:Value} {p2 p3:OA} {c2 c3 lim:Nat} {xs ys:List j8}
def znN (lim:Nat) (fs ws:List (List Nat)):Nat:=match zdS lim fs 1 with
 | none=>0
 | some n=>zeJ lim ws n
theorem zo3 (hm:zw w ⟨b,o,none⟩ (exC x q c++[r,.slice p2 xs.length c2,.slice p3 ys.length c3])) (h2:SlR qG w p2 xs) (h3:SlR qG w p3 ys) (hx:∀ y∈xs,y.1.length<=1000) (hy:∀ y∈ys,y.1.length<=1000) (hxl:xs.length<=1000) (hyl:ys.length<=1000) (hl0:1<=lim) (hl:lim<=100000) :
  Calls PG 25 #[.pointer (some ⟨b,o,none⟩),i64 lim] w fun e w'=>e = .returned (i64 (znN lim (xs.map (·.1)) (ys.map (·.1)):Nat))/\w=w':=by
 refine zD 52 [.pointer (some ⟨b,o,none⟩),i64 lim] Tryz.func25 ?_;have g2:w.cell? ⟨b,o+334,none⟩=some (.slice p2 xs.length c2):=zc hm (zeS (i:=1) rfl);have g3:w.cell? ⟨b,o+335,none⟩=some (.slice p3 ys.length c3):=zc hm (zeS (i:=2) rfl);refine⟨_,g2,?_⟩;obtain⟨fs,hfs⟩:=nm (xs.map (·.1));have hfl:fs.length=xs.length:=by rw [hfs,QK]
 rw [<- hfs];refine⟨Nat×Nat,fun s=>⟨[(0,.pointer (some ⟨b,o,none⟩)),(1,i64 lim),(5,i64 (s.2:Nat)),(14,.slice p2 xs.length c2),(15,i64 xs.length),(16,i64 (s.1:Nat))],[]⟩,
  fun s X=>s.1<=xs.length/\s.2<=lim/\zdS lim (fs.drop s.1) s.2=zdS lim fs 1/\w=X,fun s=>xs.length-s.1,(0,1),
  (cvE rfl rfl),⟨UV _,hl0,rfl,rfl⟩,?_⟩
 rintro⟨k,n⟩ _ ⟨hk,hnl,hacc,rfl⟩;dsimp only at hk hnl hacc ⊢;refine biE (fun hc=>?_) fun hc=>?_
 ·have hc:(k:Int)<(xs.length:Int):=dT hc;have hkl:k<xs.length:=by omega
  obtain⟨bp,op,rfl,hlp,hat⟩:=h2.at hkl;have hfk:fs[k]'(by omega)=xs[k].1:=by simp [hfs]
  rw [<- JD (show k<fs.length by omega),hfk] at hacc;have hacc:(if xs[k].1=[] then none else zdS lim (fs.drop (k+1)) (min (n*xs[k].1.length) lim))=zdS lim fs 1:=hacc;have h1000:=hx xs[k] (gM hkl);refine⟨k,rfl,hkl,slV xs[k],zc (hat k hkl) (i:=0) rfl,biE (fun h=>?_) fun h=>?_⟩
  ·have h:(xs[k].1.length:Int)=0:=dT h;have h0:xs[k].1=[]:=Je (by omega);rw [Gk h0] at hacc;refine⟨?_,rfl⟩;unfold znN;rw [<- hacc];rfl
  ·have h:¬ (xs[k].1.length:Int)=0:=dF h;have h0:xs[k].1≠[]:=fun e=>h (by rw [e];rfl);rw [Gj h0] at hacc;have hm':n*xs[k].1.length<=100000*1000:=Un (by omega) h1000;exact⟨((n*xs[k].1.length:Nat):Int),by rw [QF];exact ze (by rw [<- QF];omega),zkR (nxI (by omega) ⟨(k+1,min (n*xs[k].1.length) lim),(cvE rfl rfl),⟨hkl,Qz _ _,hacc,rfl⟩,zdc (by omega)⟩)⟩
 have hc:¬ (k:Int)<(xs.length:Int):=dF hc;rw [Jz (by omega)] at hacc;have hacc:some n=zdS lim fs 1:=hacc;have hres:znN lim fs (ys.map (·.1))=zeJ lim (ys.map (·.1)) n:=by unfold znN;rw [<- hacc]
 rw [hres];obtain⟨ws,hws⟩:=nm (ys.map (·.1));have hwl:ws.length=ys.length:=by rw [hws,QK]
 rw [<- hws];clear hres hacc hc hk hfl hfs g2;refine⟨_,g3,?_⟩;refine⟨Nat×Nat,fun s=>⟨[(0,.pointer (some ⟨b,o,none⟩)),(1,i64 lim),(5,i64 (s.2:Nat)),(33,.slice p3 ys.length c3),(34,i64 ys.length),(35,i64 (s.1:Nat))],[]⟩,
  fun s X=>s.1<=ys.length/\s.2<=lim/\zeJ lim (ws.drop s.1) s.2=zeJ lim ws n/\w=X,fun s=>ys.length-s.1,(0,n),
  (cvE rfl rfl),⟨UV _,hnl,rfl,rfl⟩,?_⟩
 rintro⟨k,n'⟩ _ ⟨hk,hnl',hacc,rfl⟩;dsimp only at hk hnl' hacc ⊢;refine biE (fun hc=>?_) fun hc=>?_
 ·have hc:(k:Int)<(ys.length:Int):=dT hc;have hkl:k<ys.length:=by omega
  obtain⟨bp,op,rfl,hlp,hat⟩:=h3.at hkl;have hfk:ws[k]'(by omega)=ys[k].1:=by simp [hws]
  rw [<- JD (show k<ws.length by omega),hfk] at hacc;obtain⟨L,hL⟩:=nm (ys[k].1.length);have hacc:zeJ lim (ws.drop (k+1)) (zeK lim L L 2 n')=zeJ lim ws n:=by rw [hL];exact hacc
  have h1000:=hy ys[k] (gM hkl);rw [<- hL] at h1000;refine⟨k,rfl,hkl,slV ys[k],zc (hat k hkl) (i:=0) rfl,?_⟩;refine⟨Nat×Nat×Nat,fun s=>⟨[(0,.pointer (some ⟨b,o,none⟩)),(1,i64 lim),(5,i64 (s.2.2:Nat)),(9,slV ys[k]),(10,i64 (s.2.1:Nat)),(33,.slice (some ⟨bp,op,none⟩) ys.length c3),(34,i64 ys.length),(35,i64 (k:Nat))],[]⟩,
   fun s X=>s.2.2<=lim/\L<=s.2.1+s.1/\s.2.1<=L+2/\zeK lim L s.1 s.2.1 s.2.2=zeK lim L L 2 n'/\w=X,fun s=>s.1,(L,2,n'),
   (cvE rfl rfl),⟨hnl',by show L<=2+L;omega,by show 2<=L+2;omega,rfl,rfl⟩,?_⟩
  rintro⟨m,j,n2⟩ _ ⟨hn2,hLj,hjL,hK,rfl⟩;dsimp only at hn2 hLj hjL hK ⊢;refine biE (fun hc=>?_) fun hc=>?_
  ·have hc:(j:Int)<(ys[k].1.length:Int):=dT hc;have hjl:j<L:=by omega
   obtain⟨m,rfl⟩:∃ m',m=m'+1:=⟨m-1,by omega⟩;have hK:(if j<L then zeK lim L m (j+1) (min (n2*j) lim) else n2)=zeK lim L L 2 n':=hK;rw [Gk hjl] at hK;have hm':n2*j<=100000*1000:=Un (by omega) (by omega);exact⟨((n2*j:Nat):Int),by rw [QF];exact ze (by rw [<- QF];omega),zkR (nxI (by omega) ⟨(m,j+1,min (n2*j) lim),(cvE rfl rfl),⟨Qz _ _,by show L<=j+1+m;omega,by show j+1<=L+2;omega,hK,rfl⟩,Qy _⟩)⟩
  ·have hc:¬ (j:Int)<(ys[k].1.length:Int):=dF hc;have hjl:¬ j<L:=by omega
   have hK2:n2=zeK lim L L 2 n':=by
    rw [<- hK]
    cases m with
    | zero=>rfl
    | succ m =>
     show n2=if j<L then _ else n2
     rw [Gj hjl]
   exact nxI (by omega) ⟨(k+1,n2),(cvE rfl rfl),⟨hkl,hn2,by rw [hK2];exact hacc,rfl⟩,zdc (by omega)⟩
 ·have hc:¬ (k:Int)<(ys.length:Int):=dF hc;rw [Jz (by omega)] at hacc;have hacc:n'=zeJ lim ws n:=hacc;rw [<- hacc];exact⟨rfl,rfl⟩
end
theorem zU:(zjp).toArray.size=333:=by kernel_rfl
theorem jt:(zcc).toArray.size=336:=by kernel_rfl
section
variable {w:Wd}
theorem zoZ {n:Nat}:CB 78 #[i64 n] w (.agg (exC (ex0 n) none 0).toArray):=by
 refine qP 13 [i64 n] (.s .p (.c .p .p)) Tryz.func78 ?_;obtain⟨L,hL⟩:=nm (w.heap.size);obtain⟨X0,hX0⟩:=nm (w.alloc (.cells (zjp).toArray 55));have f0:X0.heap[L]?=some (.cells (zjp).toArray 55 (0,0)):=by rw [hX0,hL];exact zx w _
 have s0:X0.heap.size=L+1:=by rw [hX0,hL];exact wz _ _
 have hb0:Bw w X0:=by rw [hX0];exact (zba w _)
 refine⟨Unit,fun _=>⟨[(2,At0 L),(3,At0 (L+1))],[]⟩,fun _ X=>X.heap[L]?=some (.cells (zjp).toArray 55 (0,0))/\zaz X (L+1) (zch n)/\Bw w X,?_,?_⟩
 ·refine⟨zi (zch n),rfl,zm (X:=w.alloc (.cells (zjp).toArray 55 (0,0))) (v := .agg (zi (zch n)).toArray) k48 (zj _) (by kernel_rfl) (z6 _) fun V hbV fV sV=>?_⟩;rw [<- hX0] at hbV fV sV;rw [s0] at fV sV;exact⟨(),⟨.cons (by rw [hL];rfl) (.cons (by rw [<- s0,hX0];rfl) .nil),rfl⟩,zb hbV f0,fV,(zst hb0 hbV)⟩
 rintro _ X ⟨f1,f2,hbX⟩;refine⟨zi (zch n),zj _,za f2,hlt f2,zi (zch n),zj _,za f2,hlt f2,zi (zch n),zj _,za f2,hlt f2,zi (zch n),zj _,za f2,hlt f2,zi (zch n),zj _,za f2,hlt f2,zi (zch n),zj _,za f2,hlt f2,exC (ex0 n) none 0,by kernel_rfl,?_⟩;exact zE (v := .agg (exC (ex0 n) none 0).toArray) k55 f1 (zG _ _ _) zU (zbl _ _ _) ⟨exC (ex0 n) none 0,zG _ _ _,za (zy f1),rfl,zz hbX (by omega) _⟩
end
end Go.Proofs.YtpalcnbhkigagaaGreatDoor
